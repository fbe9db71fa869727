/- Part V2 of the proof: see the last part. -/
import Derived.Test.YtjheoaemhdpoeaaGreatDoorV
set_option linter.unusedVariables false
namespace Go.AM
open Go Go.Proofs
set_option maxRecDepth 100000
def qKo(X:Td)(i3 t53 t61:AV)(I5:IvP)(m5:Nat)(K:KvP)(s:Hq):Prop:=
 oK (qAT t53 (.bool true) t61) λW25=>qAK W25
 (K (.bool true) s)
 (oK (qAB .add i3 (.int .i64 1)) λW26=>∃m',m'<m5/\I5 [W26] s m')
def qQM(X:Td)(t1 i3:AV)(I5:IvP)(m5:Nat)(K:KvP)(s:Hq):Prop:=
 oK (qAC 5 t1) λW12=>oK (rd1 s W12) λW13=>oK (qAQ W13) λW14=>oK (qAB .lss i3 (.int .i64 W14)) λW16=>qAK W16
 (oK (qAC 5 t1) λW17=>oK (rd1 s W17) λW18=>oK (qAM 2 W18 i3) λW19=>oK (qAC 0 W19) λW20=>oK (rd1 s W20) λW21=>oK (qAQ W21) λW22=>oK (qAB .gtr (.int .i64 W22) (.int .i64 20)) λW24=>qAK W24
 (qKo X i3 W24 .undef I5 m5 K s)
 (oK (qAC 5 t1) λW27=>oK (rd1 s W27) λW28=>oK (qAM 2 W28 i3) λW29=>oK (qAC 1 W29) λW30=>oK (rd1 s W30) λW31=>oK (qAQ W31) λW32=>oK (qAB .gtr (.int .i64 W32) (.int .i64 20)) λW34=>qKo X i3 W24 W34 I5 m5 K s))
 (K (.bool false) s)
def qE7(X:Td)(t1 t32 t36:AV)(K:KvP)(s:Hq):Prop:=
 oK (qAT t32 (.bool true) t36) λW11=>qAK W11
 (K (.bool true) s)
 (∃I5:IvP,(∃m,I5 [(.int .i64 0)] s m)/\∀(f:Env) (s:Hq) (m5:Nat),I5 [f 3] s m5->
 qQM X t1 (f 3) I5 m5 K s)
def qE2(X:Td)(t1 t26 t30:AV)(K:KvP)(s:Hq):Prop:=
 oK (qAT t26 (.bool true) t30) λW10=>qAK W10
 (qE7 X t1 W10 .undef K s)
 (oK (qAC 7 t1) λW35=>oK (rd1 s W35) λW36=>oK (qAQ W36) λW37=>oK (qAB .gtr (.int .i64 W37) (.int .i64 40)) λW39=>qE7 X t1 W10 W39 K s)
def qFv(X:Td)(t1 t20 t24:AV)(K:KvP)(s:Hq):Prop:=
 oK (qAT t20 (.bool true) t24) λW9=>qAK W9
 (qE2 X t1 W9 .undef K s)
 (oK (qAC 6 t1) λW40=>oK (rd1 s W40) λW41=>oK (qAQ W41) λW42=>oK (qAB .gtr (.int .i64 W42) (.int .i64 40)) λW44=>qE2 X t1 W9 W44 K s)
def qHD(X:Td)(t1 t14 t18:AV)(K:KvP)(s:Hq):Prop:=
 oK (qAT t14 (.bool true) t18) λW8=>qAK W8
 (qFv X t1 W8 .undef K s)
 (oK (qAC 5 t1) λW45=>oK (rd1 s W45) λW46=>oK (qAQ W46) λW47=>oK (qAB .gtr (.int .i64 W47) (.int .i64 40)) λW49=>qFv X t1 W8 W49 K s)
def qIb(X:Td)(t1 t8 t12:AV)(K:KvP)(s:Hq):Prop:=
 oK (qAT t8 (.bool true) t12) λW7=>qAK W7
 (qHD X t1 W7 .undef K s)
 (oK (qAC 4 t1) λW50=>oK (rd1 s W50) λW51=>oK (qAQ W51) λW52=>oK (qAB .gtr (.int .i64 W52) (.int .i64 40)) λW54=>qHD X t1 W7 W54 K s)
def zAD5(X:Td)(t0:AV)(K:KvP)(s:Hq):Prop:=
 boxK 31 t0 (λB0 S1=>oK (qAC 2 B0) λW2=>oK (rd1 S1 W2) λW3=>oK (qAQ W3) λW4=>oK (qAB .gtr (.int .i64 W4) (.int .i64 40)) λW6=>qAK W6
 (qIb X B0 W6 .undef K S1)
 (oK (qAC 3 B0) λW55=>oK (rd1 S1 W55) λW56=>oK (qAQ W56) λW57=>oK (qAB .gtr (.int .i64 W57) (.int .i64 40)) λW59=>qIb X B0 W6 W59 K S1)) s
def qU7:Nat->List Nat:=λk=>cond (Nat.beq k 8) [3] ([])
theorem qXt{t0:AV}{K:KvP}{s:Hq}(h:zAD5 XX t0 K s):wC TP XX 8 [t0] K s:=wOK qBT qU7 rfl Tryz.func8 h
def qDh(X:Td)(i3 t31 t39:AV)(I0:IvP)(m0:Nat)(K:KvP)(s:Hq):Prop:=
 oK (qAT t31 (.bool true) t39) λW14=>qAK W14
 (K (.bool true) s)
 (oK (qAB .add i3 (.int .i64 1)) λW15=>∃m',m'<m0/\I0 [W15] s m')
def qDd(X:Td)(l0 i3 t21 t29:AV)(I0:IvP)(m0:Nat)(K:KvP)(s:Hq):Prop:=
 oK (qAT t21 (.bool true) t29) λW13=>qAK W13
 (qDh X i3 W13 .undef I0 m0 K s)
 (oK (qAM 38 l0 i3) λW16=>oK (qAC 21 W16) λW17=>oK (qAC 10 W17) λW18=>oK (rd1 s W18) λW19=>oK (qAQ W19) λW20=>oK (qAB .gtr (.int .i64 W20) (.int .i64 20)) λW22=>qDh X i3 W13 W22 I0 m0 K s)
def qJf(X:Td)(l0 i3:AV)(I0:IvP)(m0:Nat)(K:KvP)(s:Hq):Prop:=
 oK (qAQ l0) λW3=>oK (qAB .lss i3 (.int .i64 W3)) λW5=>qAK W5
 (oK (qAM 38 l0 i3) λW6=>oK (qAC 21 W6) λW7=>oK (qAC 1 W7) λW8=>oK (rd1 s W8) λW9=>oK (qAQ W9) λW10=>oK (qAB .gtr (.int .i64 W10) (.int .i64 20)) λW12=>qAK W12
 (qDd X l0 i3 W12 .undef I0 m0 K s)
 (oK (qAM 38 l0 i3) λW23=>oK (qAC 21 W23) λW24=>oK (qAC 9 W24) λW25=>oK (rd1 s W25) λW26=>oK (qAQ W26) λW27=>oK (qAB .gtr (.int .i64 W27) (.int .i64 20)) λW29=>qDd X l0 i3 W12 W29 I0 m0 K s))
 (K (.bool false) s)
def qMZ(X:Td)(l0:AV)(K:KvP)(s:Hq):Prop:=
 oK (qAQ l0) λW0=>oK (qAB .gtr (.int .i64 W0) (.int .i64 60)) λW2=>qAK W2
 (K (.bool true) s)
 (∃I0:IvP,(∃m,I0 [(.int .i64 0)] s m)/\∀(f:Env) (s:Hq) (m0:Nat),I0 [f 3] s m0->
 qJf X l0 (f 3) I0 m0 K s)
def qMx:Nat->List Nat:=λk=>cond (Nat.beq k 8) [3] ([])
theorem qNv{l0:AV}{K:KvP}{s:Hq}(h:qMZ XX l0 K s):wC TP XX 9 [l0] K s:=wOK qBT qMx rfl Tryz.func9 h
def qPa(X:Td)(t1 x7 x8 p10 i11:AV)(I1:IvP)(m1:Nat)(I0:IvP)(m0:Nat)(K:KvP)(s:Hq):Prop:=
 oK (qAM 1 x8 p10) λW56=>oK (rd1 s W56) λW57=>oK (qAB .lss i11 W57) λW58=>qAK W58
 (oK (rdN s 19 t1) λW59=>wC TP X 101 [(.agg W59),p10,i11] (λW60 S61=>oK (negB true (eqV 0 true W60 (.int .i64 0))) λW62=>qAK W62
 (oK (qAM 1 x7 p10) λW63=>oK (rd1 S61 W63) λW64=>K (.tup [W60,W64,i11]) S61)
 (oK (qAB .add i11 (.int .i64 1)) λW65=>∃m',m'<m1/\I1 [W65] S61 m')) s)
 (oK (qAB .add p10 (.int .i64 1)) λW66=>∃m',m'<m0/\I0 [W66] s m')
def qOW(X:Td)(t1 x7 x8 most9 p10:AV)(I0:IvP)(m0:Nat)(K:KvP)(s:Hq):Prop:=
 oK (qAQ x7) λW44=>oK (qAB .lss p10 (.int .i64 W44)) λW46=>qAK W46
 (oK (qAM 1 x8 p10) λW47=>oK (rd1 s W47) λW48=>oK (qAM 1 most9 p10) λW49=>oK (rd1 s W49) λW50=>oK (qAB .gtr W48 W50) λW51=>qAK W51
 (oK (qAM 1 x7 p10) λW52=>oK (rd1 s W52) λW53=>oK (qAM 1 most9 p10) λW54=>oK (rd1 s W54) λW55=>K (.tup [(.int .i64 7),W53,W55]) s)
 (∃I1:IvP,(∃m,I1 [(.int .i64 0)] s m)/\∀(f:Env) (s:Hq) (m1:Nat),I1 [f 11] s m1->
 qPa X t1 x7 x8 p10 (f 11) I1 m1 I0 m0 K s))
 (K (.tup [(.int .i64 0),(.str ⟨#[]⟩),(.int .i64 0)]) s)
def zACH(X:Td)(t0:AV)(K:KvP)(s:Hq):Prop:=
 boxK 31 t0 (λB0 S1=>oK (rdN S1 19 B0) λW2=>wC TP X 99 [(.agg W2)] (λW3 S4=>oK (negB true (eqV 0 true W3 (.int .i64 0))) λW5=>qAK W5
 (K (.tup [W3,(.str ⟨#[102,97,98,114,105,99]⟩),(.int .i64 0)]) S4)
 (oK (qAC 13 B0) λW6=>oK (rdN S4 6 W6) λW7=>wC TP X 100 [(.agg W7)] (λW8 S9=>oK (negB true (eqV 0 true W8 (.int .i64 0))) λW10=>qAK W10
 (K (.tup [W8,(.str ⟨#[116,105,109,101,114,115]⟩),(.int .i64 0)]) S9)
 (oK (qCJ (repl 6 [(.str ⟨#[]⟩)]) [(0,1,(.str ⟨#[108,105,110,107,115]⟩)),(1,1,(.str ⟨#[116,101,110,97,110,116,115]⟩)),(2,1,(.str ⟨#[100,111,109,97,105,110,115]⟩)),(3,1,(.str ⟨#[115,101,103,109,101,110,116,115]⟩)),(4,1,(.str ⟨#[104,111,115,116,115]⟩)),(5,1,(.str ⟨#[108,101,97,107,115]⟩))]) λC11=>qAg C11=true/\newK 9 C11 (λB12 S13=>oK (qAC 2 B0) λW14=>oK (rd1 S13 W14) λW15=>oK (qAQ W15) λW16=>oK (qAC 3 B0) λW18=>oK (rd1 S13 W18) λW19=>oK (qAQ W19) λW20=>oK (qAC 4 B0) λW22=>oK (rd1 S13 W22) λW23=>oK (qAQ W23) λW24=>oK (qAC 5 B0) λW26=>oK (rd1 S13 W26) λW27=>oK (qAQ W27) λW28=>oK (qAC 6 B0) λW30=>oK (rd1 S13 W30) λW31=>oK (qAQ W31) λW32=>oK (qAC 7 B0) λW34=>oK (rd1 S13 W34) λW35=>oK (qAQ W35) λW36=>oK (qCJ (repl 6 [(.int .i64 0)]) [(0,1,(.int .i64 W16)),(1,1,(.int .i64 W20)),(2,1,(.int .i64 W24)),(3,1,(.int .i64 W28)),(4,1,(.int .i64 W32)),(5,1,(.int .i64 W36))]) λC38=>qAg C38=true/\newK 3 C38 (λB39 S40=>oK (qCJ (repl 6 [(.int .i64 0)]) [(0,1,(.int .i64 128)),(1,1,(.int .i64 16)),(2,1,(.int .i64 32)),(3,1,(.int .i64 64)),(4,1,(.int .i64 128)),(5,1,(.int .i64 256))]) λC41=>qAg C41=true/\newK 3 C41 (λB42 S43=>∃I0:IvP,(∃m,I0 [(.int .i64 0)] S43 m)/\∀(f:Env) (s:Hq) (m0:Nat),I0 [f 10] s m0->
 qOW X B0 (.slc B12 0 6 (some 6) 1) (.slc B39 0 6 (some 6) 1) (.slc B42 0 6 (some 6) 1) (f 10) I0 m0 K s) S40) S13) S9)) S4)) S1) s
def qT1:Nat->List Nat:=λk=>cond (Nat.beq k 22) [10] (cond (Nat.beq k 32) [11] ([]))
theorem qUU{t0:AV}{K:KvP}{s:Hq}(h:zACH XX t0 K s):wC TP XX 71 [t0] K s:=wOK qBT qT1 rfl Tryz.func71 h
def qJj(X:Td)(x0:AV)(K:KvP)(s:Hq):Prop:=
 qAK (.bool false)
 (oK (qD2 .u32 x0) λW0=>wC TP X 144 [W0] (λW1 S2=>K W1 S2) s)
 (wC TP X 145 [x0] (λW3 S4=>K W3 S4) s)
theorem qLk{X:Td}(hX:FrX X)(hn:X 96=none){x0:AV}{K:KvP}{s:Hq}(h:qJj X x0 K s):wC TP X 96 [x0] K s:=
 wOK hX nA0 hn Tryz.func96 h
def qIr(X:Td)(n7 t14 t15 t16:AV)(I0:IvP)(m0:Nat)(K:KvP)(s:Hq):Prop:=
 oK (qAB .lss t16 t15) λW6=>qAK W6
 (oK (qAM 1 t14 t16) λW7=>oK (rd1 s W7) λW8=>oK (qDB .shl n7 (.int .u64 8)) λW9=>oK (qD2 .u64 W8) λW10=>oK (qAB .or W9 W10) λW11=>oK (qAB .add t16 (.int .i64 1)) λW12=>∃m',m'<m0/\I0 [W11,W12] s m')
 (K n7 s)
def qP5(X:Td)(c0 t1 x2:AV)(K:KvP)(s:Hq):Prop:=
 boxK 129 c0 (λB0 S1=>oK (qAB .add t1 x2) λW2=>oK (qLC S1 8 1 B0 (some t1) (some W2) none) λW3=>oK (qAQ W3) λW4=>∃I0:IvP,(∃m,I0 [(.int .u64 0),(.int .i64 0)] S1 m)/\∀(f:Env) (s:Hq) (m0:Nat),I0 [f 7,f 16] s m0->
 qIr X (f 7) W3 (.int .i64 W4) (f 16) I0 m0 K s) s
def qLy:Nat->List Nat:=λk=>cond (Nat.beq k 6) [7,16] ([])
theorem qMg{c0 t1 x2:AV}{K:KvP}{s:Hq}(h:qP5 XX c0 t1 x2 K s):wC TP XX 65 [c0,t1,x2] K s:=wOK qBT qLy rfl Tryz.func65 h
def qCe(X:Td)(t33 t37:AV)(K:KvP)(s:Hq):Prop:=
 oK (qAT t33 (.bool true) t37) λW11=>qAK W11
 (K (.int .i64 2) s)
 (K (.int .i64 0) s)
def qCg(X:Td)(t1 t27 t31:AV)(K:KvP)(s:Hq):Prop:=
 oK (qAT t27 (.bool true) t31) λW10=>qAK W10
 (qCe X W10 .undef K s)
 (oK (qAC 10 t1) λW12=>oK (rd1 s W12) λW13=>wC TP X 79 [W13,(.int .i64 0),(.int .i64 1)] (λW14 S15=>oK (qAj .not W14) λW16=>qCe X W10 W16 K S15) s)
def qDY(X:Td)(t1 t21 t25:AV)(K:KvP)(s:Hq):Prop:=
 oK (qAT t21 (.bool true) t25) λW9=>qAK W9
 (qCg X t1 W9 .undef K s)
 (oK (qAC 9 t1) λW17=>oK (rd1 s W17) λW18=>wC TP X 79 [W18,(.int .i64 0),(.int .i64 1)] (λW19 S20=>oK (qAj .not W19) λW21=>qCg X t1 W9 W21 K S20) s)
def qEG(X:Td)(t1 t13 t19:AV)(K:KvP)(s:Hq):Prop:=
 oK (qAT t13 (.bool true) t19) λW8=>qAK W8
 (qDY X t1 W8 .undef K s)
 (oK (qAC 8 t1) λW22=>oK (rd1 s W22) λW23=>wC TP X 79 [W23,(.int .i64 0),(.int .i64 2)] (λW24 S25=>oK (qAj .not W24) λW26=>qDY X t1 W8 W26 K S25) s)
def qFK(X:Td)(t1 t7 t11:AV)(K:KvP)(s:Hq):Prop:=
 oK (qAT t7 (.bool true) t11) λW7=>qAK W7
 (qEG X t1 W7 .undef K s)
 (oK (qAC 0 t1) λW27=>oK (rd1 s W27) λW28=>oK (qAC 1 t1) λW29=>oK (rd1 s W29) λW30=>oK (qAB .add W28 W30) λW31=>oK (qAB .gtr W31 (.int .i64 32)) λW32=>qEG X t1 W7 W32 K s)
def qXB(X:Td)(t0:AV)(K:KvP)(s:Hq):Prop:=
 boxK 31 t0 (λB0 S1=>oK (qAC 0 B0) λW2=>oK (rd1 S1 W2) λW3=>wC TP X 79 [W3,(.int .i64 1),(.int .i64 32)] (λW4 S5=>oK (qAj .not W4) λW6=>qAK W6
 (qFK X B0 W6 .undef K S5)
 (oK (qAC 1 B0) λW33=>oK (rd1 S5 W33) λW34=>wC TP X 79 [W34,(.int .i64 0),(.int .i64 32)] (λW35 S36=>oK (qAj .not W35) λW37=>qFK X B0 W6 W37 K S36) S5)) S1) s
theorem qR6{t0:AV}{K:KvP}{s:Hq}(h:qXB XX t0 K s):wC TP XX 99 [t0] K s:=wOK qBT nA0 rfl Tryz.func99 h
def qDQ(X:Td)(t31 t35:AV)(K:KvP)(s:Hq):Prop:=
 oK (qAT t31 (.bool true) t35) λW11=>qAK W11
 (K (.int .i64 2) s)
 (K (.int .i64 0) s)
def qDT(X:Td)(t1 t25 t29:AV)(K:KvP)(s:Hq):Prop:=
 oK (qAT t25 (.bool true) t29) λW10=>qAK W10
 (qDQ X W10 .undef K s)
 (oK (qAC 5 t1) λW12=>oK (rd1 s W12) λW13=>wC TP X 79 [W13,(.int .i64 1),(.int .i64 10000)] (λW14 S15=>oK (qAj .not W14) λW16=>qDQ X W10 W16 K S15) s)
def qEF(X:Td)(t1 t19 t23:AV)(K:KvP)(s:Hq):Prop:=
 oK (qAT t19 (.bool true) t23) λW9=>qAK W9
 (qDT X t1 W9 .undef K s)
 (oK (qAC 4 t1) λW17=>oK (rd1 s W17) λW18=>wC TP X 79 [W18,(.int .i64 1),(.int .i64 100)] (λW19 S20=>oK (qAj .not W19) λW21=>qDT X t1 W9 W21 K S20) s)
def qEz(X:Td)(t1 t13 t17:AV)(K:KvP)(s:Hq):Prop:=
 oK (qAT t13 (.bool true) t17) λW8=>qAK W8
 (qEF X t1 W8 .undef K s)
 (oK (qAC 3 t1) λW22=>oK (rd1 s W22) λW23=>wC TP X 79 [W23,(.int .i64 0),(.int .i64 1000)] (λW24 S25=>oK (qAj .not W24) λW26=>qEF X t1 W8 W26 K S25) s)
def qGB(X:Td)(t1 t7 t11:AV)(K:KvP)(s:Hq):Prop:=
 oK (qAT t7 (.bool true) t11) λW7=>qAK W7
 (qEz X t1 W7 .undef K s)
 (oK (qAC 2 t1) λW27=>oK (rd1 s W27) λW28=>wC TP X 79 [W28,(.int .i64 1),(.int .i64 10000)] (λW29 S30=>oK (qAj .not W29) λW31=>qEz X t1 W7 W31 K S30) s)
def qX5(X:Td)(t0:AV)(K:KvP)(s:Hq):Prop:=
 boxK 29 t0 (λB0 S1=>oK (qAC 0 B0) λW2=>oK (rd1 S1 W2) λW3=>wC TP X 79 [W3,(.int .i64 1),(.int .i64 100)] (λW4 S5=>oK (qAj .not W4) λW6=>qAK W6
 (qGB X B0 W6 .undef K S5)
 (oK (qAC 1 B0) λW32=>oK (rd1 S5 W32) λW33=>wC TP X 79 [W33,(.int .i64 3),(.int .i64 1000)] (λW34 S35=>oK (qAj .not W34) λW36=>qGB X B0 W6 W36 K S35) S5)) S1) s
theorem qTv{t0:AV}{K:KvP}{s:Hq}(h:qX5 XX t0 K s):wC TP XX 100 [t0] K s:=wOK qBT nA0 rfl Tryz.func100 h
def qXA(X:Td)(t0 x1 i2:AV)(K:KvP)(s:Hq):Prop:=
 boxK 31 t0 (λB0 S1=>oK (negB false (eqV 0 true x1 (.int .i64 0))) λW2=>qAK W2
 (oK (rdN S1 19 B0) λW3=>wC TP X 155 [(.agg W3),i2] (λW4 S5=>K W4 S5) S1)
 (oK (negB false (eqV 0 true x1 (.int .i64 1))) λW6=>qAK W6
 (oK (rdN S1 19 B0) λW7=>wC TP X 156 [(.agg W7),i2] (λW8 S9=>K W8 S9) S1)
 (oK (negB false (eqV 0 true x1 (.int .i64 2))) λW10=>qAK W10
 (oK (rdN S1 19 B0) λW11=>wC TP X 157 [(.agg W11),i2] (λW12 S13=>K W12 S13) S1)
 (oK (negB false (eqV 0 true x1 (.int .i64 3))) λW14=>qAK W14
 (oK (rdN S1 19 B0) λW15=>wC TP X 158 [(.agg W15),i2] (λW16 S17=>K W16 S17) S1)
 (oK (negB false (eqV 0 true x1 (.int .i64 4))) λW18=>qAK W18
 (oK (rdN S1 19 B0) λW19=>wC TP X 159 [(.agg W19),i2] (λW20 S21=>K W20 S21) S1)
 (oK (rdN S1 19 B0) λW22=>wC TP X 160 [(.agg W22),i2] (λW23 S24=>K W23 S24) S1)))))) s
theorem qRu{t0 x1 i2:AV}{K:KvP}{s:Hq}(h:qXA XX t0 x1 i2 K s):wC TP XX 101 [t0,x1,i2] K s:=wOK qBT nA0 rfl Tryz.func101 h
def zAB0(X:Td)(t0:AV)(K:KvP)(s:Hq):Prop:=
 boxK 31 t0 (λB0 S1=>oK (rdN S1 19 B0) λW2=>wC TP X 71 [(.agg W2)] (λW3 S4=>oK (qAf W3 0) λW5=>oK (qAf W3 1) λW6=>oK (qAf W3 2) λW7=>oK (negB false (eqV 0 true W5 (.int .i64 0))) λW8=>K W8 S4) S1) s
theorem qUj{t0:AV}{K:KvP}{s:Hq}(h:zAB0 XX t0 K s):wC TP XX 78 [t0] K s:=wOK qBT nA0 rfl Tryz.func78 h
def qHs(X:Td)(t10 t13:AV)(K:KvP)(s:Hq):Prop:=
 oK (qAT t10 t13 (.bool false)) λW1=>K W1 s
def qSj(X:Td)(n0 x1 x2:AV)(K:KvP)(s:Hq):Prop:=
 oK (qAB .geq n0 x1) λW0=>qAK W0
 (oK (qAB .leq n0 x2) λW2=>qHs X W0 W2 K s)
 (qHs X W0 .undef K s)
theorem qSM{n0 x1 x2:AV}{K:KvP}{s:Hq}(h:qSj XX n0 x1 x2 K s):wC TP XX 79 [n0,x1,x2] K s:=wOK qBT nA0 rfl Tryz.func79 h
end Go.AM
namespace Go.AM
open Go Go.Proofs
set_option maxRecDepth 100000
def qD9(X:Td)(x0 n2:AV)(K:KvP)(s:Hq):Prop:=
 oK (qD2 .u8 x0) λW3=>oK (qKm (.str ⟨#[0,1,2,2,3,3,3,3,4,4,4,4,4,4,4,4,5,5,5,5,5,5,5,5,5,5,5,5,5,5,5,5,6,6,6,6,6,6,6,6,6,6,6,6,6,6,6,6,6,6,6,6,6,6,6,6,6,6,6,6,6,6,6,6,7,7,7,7,7,7,7,7,7,7,7,7,7,7,7,7,7,7,7,7,7,7,7,7,7,7,7,7,7,7,7,7,7,7,7,7,7,7,7,7,7,7,7,7,7,7,7,7,7,7,7,7,7,7,7,7,7,7,7,7,7,7,7,7,8,8,8,8,8,8,8,8,8,8,8,8,8,8,8,8,8,8,8,8,8,8,8,8,8,8,8,8,8,8,8,8,8,8,8,8,8,8,8,8,8,8,8,8,8,8,8,8,8,8,8,8,8,8,8,8,8,8,8,8,8,8,8,8,8,8,8,8,8,8,8,8,8,8,8,8,8,8,8,8,8,8,8,8,8,8,8,8,8,8,8,8,8,8,8,8,8,8,8,8,8,8,8,8,8,8,8,8,8,8,8,8,8,8,8,8,8,8,8,8,8,8,8,8,8,8,8,8]⟩) W3) λW4=>oK (qD2 .i64 W4) λW5=>oK (qAB .add n2 W5) λW6=>K W6 s
def qD6(X:Td)(x0 n2:AV)(K:KvP)(s:Hq):Prop:=
 oK (qAB .geq x0 (.int .u64 256)) λW2=>qAK W2
 (oK (qDB .shr x0 (.int .u64 8)) λW7=>oK (qAB .add n2 (.int .i64 8)) λW8=>qD9 X W7 W8 K s)
 (qD9 X x0 n2 K s)
def qEE(X:Td)(x0 n2:AV)(K:KvP)(s:Hq):Prop:=
 oK (qAB .geq x0 (.int .u64 65536)) λW1=>qAK W1
 (oK (qDB .shr x0 (.int .u64 16)) λW9=>oK (qAB .add n2 (.int .i64 16)) λW10=>qD6 X W9 W10 K s)
 (qD6 X x0 n2 K s)
def qMJ(X:Td)(x0:AV)(K:KvP)(s:Hq):Prop:=
 oK (qAB .geq x0 (.int .u64 4294967296)) λW0=>qAK W0
 (oK (qDB .shr x0 (.int .u64 32)) λW11=>qEE X W11 (.int .i64 32) K s)
 (qEE X x0 (.int .i64 0) K s)
theorem qKM{X:Td}(hX:FrX X)(hn:X 145=none){x0:AV}{K:KvP}{s:Hq}(h:qMJ X x0 K s):wC TP X 145 [x0] K s:=
 wOK hX nA0 hn Tryz.func145 h
def qJ0(X:Td)(c1 t5 t6:AV)(I0:IvP)(m0:Nat)(K:KvP)(s:Hq):Prop:=
 oK (qAB .lss t6 (.int .i64 7)) λW3=>qAK W3
 (oK (qSO 7 3 (some 3) t5 t6) λW4=>newK 170 [(.int .i64 0),(.int .u8 0),(.int .u8 0)] (λB5 S6=>oK (qBx S6 3 (.ptr B5 0) W4) λS7=>oK (qAC 1 (.ptr B5 0)) λW8=>oK (rdN S7 2 W8) λW9=>oK (qLC S7 8 1 c1 none (some (.int .i64 2)) none) λW10=>oK (zACK 2 W10) λW11=>oK (rdN S7 2 W11) λW12=>oK (negB false (qLS TP 169 (.agg W9) (.agg W12))) λW13=>qAK W13
 (oK (qAC 0 (.ptr B5 0)) λW14=>oK (rd1 S7 W14) λW15=>K W15 S7)
 (oK (qAB .add t6 (.int .i64 1)) λW16=>∃m',m'<m0/\I0 [W16] S7 m')) s)
 (K (.int .i64 0) s)
def qSY(X:Td)(c0:AV)(K:KvP)(s:Hq):Prop:=
 boxK 129 c0 (λB0 S1=>oK (gldN S1 21 0) λW2=>∃I0:IvP,(∃m,I0 [(.int .i64 0)] S1 m)/\∀(f:Env) (s:Hq) (m0:Nat),I0 [f 6] s m0->
 qJ0 X B0 (.agg W2) (f 6) I0 m0 K s) s
def qNp:Nat->List Nat:=λk=>cond (Nat.beq k 4) [6] ([])
theorem qO6{c0:AV}{K:KvP}{s:Hq}(h:qSY XX c0 K s):wC TP XX 64 [c0] K s:=wOK qBT qNp rfl Tryz.func64 h
def qKe(X:Td)(K:KvP)(s:Hq):Prop:=
 K (.int .i64 0) s
def qKp(X:Td)(k6 t53 t62:AV)(I2:IvP)(m2:Nat)(K:KvP)(s:Hq):Prop:=
 oK (qAT t53 t62 (.bool false)) λW18=>qAK W18
 (K (.int .i64 11) s)
 (oK (qAB .add k6 (.int .i64 1)) λW19=>∃m',m'<m2/\I2 [W19] s m')
def qQk(X:Td)(i1 t2 l5 k6:AV)(I2:IvP)(m2:Nat)(K:KvP)(s:Hq):Prop:=
 oK (qAB .lss k6 i1) λW9=>qAK W9
 (oK (qAC 2 t2) λW10=>oK (rd1 s W10) λW11=>oK (qAM 3 W11 k6) λW12=>oK (qAC 0 W12) λW13=>oK (rd1 s W13) λW14=>oK (qAC 0 l5) λW15=>oK (rd1 s W15) λW16=>oK (negB false (eqV 0 false W14 W16)) λW17=>qAK W17
 (oK (qAC 2 t2) λW20=>oK (rd1 s W20) λW21=>oK (qAM 3 W21 k6) λW22=>oK (qAC 1 W22) λW23=>oK (rd1 s W23) λW24=>oK (qAC 1 l5) λW25=>oK (rd1 s W25) λW26=>oK (negB false (eqV 0 false W24 W26)) λW27=>qKp X k6 W17 W27 I2 m2 K s)
 (qKp X k6 W17 .undef I2 m2 K s))
 (qKe X  K s)
def qKv(X:Td)(i1 t2 l5:AV)(K:KvP)(s:Hq):Prop:=
 ∃I2:IvP,(∃m,I2 [(.int .i64 0)] s m)/\∀(f:Env) (s:Hq) (m2:Nat),I2 [f 6] s m2->
 qQk X i1 t2 l5 (f 6) I2 m2 K s
def qHB(X:Td)(i1 t2 l5 t33 t37:AV)(K:KvP)(s:Hq):Prop:=
 oK (qAT t33 (.bool true) t37) λW37=>qAK W37
 (K (.int .i64 2) s)
 (qKv X i1 t2 l5 K s)
def qIV(X:Td)(i1 t2 l5 t19 t31:AV)(K:KvP)(s:Hq):Prop:=
 oK (qAT t19 (.bool true) t31) λW36=>qAK W36
 (qHB X i1 t2 l5 W36 .undef K s)
 (oK (qAC 2 l5) λW38=>oK (rd1 s W38) λW39=>wC TP X 79 [W39,(.int .i64 1),(.int .i64 1000)] (λW40 S41=>oK (qAj .not W40) λW42=>qHB X i1 t2 l5 W36 W42 K S41) s)
def qYZ(X:Td)(t0 i1:AV)(K:KvP)(s:Hq):Prop:=
 boxK 31 t0 (λB0 S1=>oK (qAC 2 B0) λW2=>oK (rd1 S1 W2) λW3=>oK (qAM 3 W3 i1) λW4=>oK (rdN S1 3 W4) λW5=>newK 115 [(.int .i64 0),(.int .i64 0),(.int .i64 0)] (λB6 S7=>oK (qBx S7 3 (.ptr B6 0) (.agg W5)) λS8=>oK (qAC 0 (.ptr B6 0)) λW28=>oK (rd1 S8 W28) λW29=>oK (qAC 0 B0) λW30=>oK (rd1 S8 W30) λW31=>oK (qAB .sub W31 (.int .i64 1)) λW32=>wC TP X 79 [W29,(.int .i64 0),W32] (λW33 S34=>oK (qAj .not W33) λW35=>qAK W35
 (qIV X i1 B0 (.ptr B6 0) W35 .undef K S34)
 (oK (qAC 1 (.ptr B6 0)) λW43=>oK (rd1 S34 W43) λW44=>oK (qAC 0 B0) λW45=>oK (rd1 S34 W45) λW46=>oK (qAC 0 B0) λW47=>oK (rd1 S34 W47) λW48=>oK (qAC 1 B0) λW49=>oK (rd1 S34 W49) λW50=>oK (qAB .add W48 W50) λW51=>oK (qAB .sub W51 (.int .i64 1)) λW52=>wC TP X 79 [W44,W46,W52] (λW53 S54=>oK (qAj .not W53) λW55=>qIV X i1 B0 (.ptr B6 0) W35 W55 K S54) S34)) S8) S1) s
def qIx:Nat->List Nat:=λk=>cond (Nat.beq k 10) [6] ([])
noncomputable def qMi:Code:=qCD 3 (qAr Tryz.f155)
noncomputable def qW7:Code:=qCD 1 qMi
theorem qRV(X:Td)(K:KvP)(env:Env)(s:Hq):wpC TP X qIx Tryz.f155.ntmps none qW7 env (λe env s=>retK e (resK TP Tryz.f155.results.toList env (λvs=>K (oneV vs) s) s)) s=qKe X K s:=by kernel_rfl
theorem qRQ(X:Td)(K:KvP)(env:Env)(s:Hq):wpC TP X qIx Tryz.f155.ntmps none qMi env (λe env s=>retK e (resK TP Tryz.f155.results.toList env (λvs=>K (oneV vs) s) s)) s=qKv X (env 1) (env 2) (env 5) K s:=(qCK 1 (λenv s=>qKe X K s) qMi (by kernel_rfl) (λenv s=>qRV X K env s) env s).trans (by kernel_rfl)
theorem qW1(X:Td)(t0 i1:AV)(K:KvP)(s:Hq):wpC TP X qIx Tryz.f155.ntmps none (qAr Tryz.f155) (qHZ [t0,i1]) (λe env s=>retK e (resK TP Tryz.f155.results.toList env (λvs=>K (oneV vs) s) s)) s=qYZ X t0 i1 K s:=(qCK 3 (λenv s=>qKv X (env 1) (env 2) (env 5) K s) (qAr Tryz.f155) (by kernel_rfl) (λenv s=>qRQ X K env s) _ s).trans (by kernel_rfl)
theorem qWv{t0 i1:AV}{K:KvP}{s:Hq}(h:qYZ XX t0 i1 K s):wC TP XX 155 [t0,i1] K s:=wOK qBT qIx rfl Tryz.func155 h (he:=qW1 XX t0 i1 K s)
def qH1(X:Td)(K:KvP)(s:Hq):Prop:=
 K (.int .i64 0) s
def qH6(X:Td)(k6 t39 t48:AV)(I2:IvP)(m2:Nat)(K:KvP)(s:Hq):Prop:=
 oK (qAT t39 (.bool true) t48) λW18=>qAK W18
 (K (.int .i64 11) s)
 (oK (qAB .add k6 (.int .i64 1)) λW19=>∃m',m'<m2/\I2 [W19] s m')
def qNX(X:Td)(i1 t2 t5 k6:AV)(I2:IvP)(m2:Nat)(K:KvP)(s:Hq):Prop:=
 oK (qAB .lss k6 i1) λW9=>qAK W9
 (oK (qAC 3 t2) λW10=>oK (rd1 s W10) λW11=>oK (qAM 2 W11 k6) λW12=>oK (qAC 0 W12) λW13=>oK (rd1 s W13) λW14=>oK (qAC 0 t5) λW15=>oK (rd1 s W15) λW16=>oK (negB false (eqV 0 false W14 W16)) λW17=>qAK W17
 (qH6 X k6 W17 .undef I2 m2 K s)
 (oK (qAC 3 t2) λW20=>oK (rd1 s W20) λW21=>oK (qAM 2 W21 k6) λW22=>oK (qAC 1 W22) λW23=>oK (rd1 s W23) λW24=>oK (qAC 1 t5) λW25=>oK (rd1 s W25) λW26=>oK (negB false (eqV 0 false W24 W26)) λW27=>qH6 X k6 W17 W27 I2 m2 K s))
 (qH1 X  K s)
def qHp(X:Td)(i1 t2 t5:AV)(K:KvP)(s:Hq):Prop:=
 ∃I2:IvP,(∃m,I2 [(.int .i64 0)] s m)/\∀(f:Env) (s:Hq) (m2:Nat),I2 [f 6] s m2->
 qNX X i1 t2 t5 (f 6) I2 m2 K s
def qE3(X:Td)(i1 t2 t5 t20 t23:AV)(K:KvP)(s:Hq):Prop:=
 oK (qAT t20 (.bool true) t23) λW32=>qAK W32
 (K (.int .i64 2) s)
 (qHp X i1 t2 t5 K s)
def qGD(X:Td)(i1 t2 t5 t15 t18:AV)(K:KvP)(s:Hq):Prop:=
 oK (qAT t15 (.bool true) t18) λW31=>qAK W31
 (qE3 X i1 t2 t5 W31 .undef K s)
 (oK (qAC 1 t5) λW33=>oK (rd1 s W33) λW34=>oK (negB false (eqV 0 true W34 (.int .u32 0))) λW35=>qE3 X i1 t2 t5 W31 W35 K s)
def qTn(X:Td)(t0 i1:AV)(K:KvP)(s:Hq):Prop:=
 boxK 31 t0 (λB0 S1=>oK (qAC 3 B0) λW2=>oK (rd1 S1 W2) λW3=>oK (qAM 2 W3 i1) λW4=>oK (rdN S1 2 W4) λW5=>newK 117 [(.int .u32 0),(.int .u32 0)] (λB6 S7=>oK (qBx S7 2 (.ptr B6 0) (.agg W5)) λS8=>oK (qAC 0 (.ptr B6 0)) λW28=>oK (rd1 S8 W28) λW29=>oK (qAB .lss W29 (.int .u32 1)) λW30=>qAK W30
 (qGD X i1 B0 (.ptr B6 0) W30 .undef K S8)
 (oK (qAC 0 (.ptr B6 0)) λW36=>oK (rd1 S8 W36) λW37=>oK (qAB .gtr W37 (.int .u32 16777215)) λW38=>qGD X i1 B0 (.ptr B6 0) W30 W38 K S8)) S1) s
def qGu:Nat->List Nat:=λk=>cond (Nat.beq k 10) [6] ([])
noncomputable def qKD:Code:=qCD 3 (qAr Tryz.f156)
noncomputable def qSv:Code:=qCD 1 qKD
theorem qOj(X:Td)(K:KvP)(env:Env)(s:Hq):wpC TP X qGu Tryz.f156.ntmps none qSv env (λe env s=>retK e (resK TP Tryz.f156.results.toList env (λvs=>K (oneV vs) s) s)) s=qH1 X K s:=by kernel_rfl
theorem qPM(X:Td)(K:KvP)(env:Env)(s:Hq):wpC TP X qGu Tryz.f156.ntmps none qKD env (λe env s=>retK e (resK TP Tryz.f156.results.toList env (λvs=>K (oneV vs) s) s)) s=qHp X (env 1) (env 2) (env 5) K s:=(qCK 1 (λenv s=>qH1 X K s) qKD (by kernel_rfl) (λenv s=>qOj X K env s) env s).trans (by kernel_rfl)
theorem qTL(X:Td)(t0 i1:AV)(K:KvP)(s:Hq):wpC TP X qGu Tryz.f156.ntmps none (qAr Tryz.f156) (qHZ [t0,i1]) (λe env s=>retK e (resK TP Tryz.f156.results.toList env (λvs=>K (oneV vs) s) s)) s=qTn X t0 i1 K s:=(qCK 3 (λenv s=>qHp X (env 1) (env 2) (env 5) K s) (qAr Tryz.f156) (by kernel_rfl) (λenv s=>qPM X K env s) _ s).trans (by kernel_rfl)
theorem qST{t0 i1:AV}{K:KvP}{s:Hq}(h:qTn XX t0 i1 K s):wC TP XX 156 [t0,i1] K s:=wOK qBT qGu rfl Tryz.func156 h (he:=qTL XX t0 i1 K s)
end Go.AM
namespace Go.AM
open Go Go.Proofs
set_option maxRecDepth 100000
def qHt(X:Td)(K:KvP)(s:Hq):Prop:=
 K (.int .i64 0) s
def qGS(X:Td)(k9 t152 t160:AV)(I6:IvP)(m6:Nat)(K:KvP)(s:Hq):Prop:=
 oK (qAT t152 t160 (.bool false)) λW24=>qAK W24
 (K (.int .i64 11) s)
 (oK (qAB .add k9 (.int .i64 1)) λW25=>∃m',m'<m6/\I6 [W25] s m')
def qHr(X:Td)(t2 t8 k9 t143 t150:AV)(I6:IvP)(m6:Nat)(K:KvP)(s:Hq):Prop:=
 oK (qAT t143 t150 (.bool false)) λW23=>qAK W23
 (oK (qAC 4 t2) λW26=>oK (rd1 s W26) λW27=>oK (qAM 6 W27 k9) λW28=>oK (qAC 3 W28) λW29=>oK (rdN s 2 W29) λW30=>oK (rdN s 2 t8) λW31=>wC TP X 190 [(.agg W30),(.agg W31)] (λW32 S33=>qGS X k9 W23 W32 I6 m6 K S33) s)
 (qGS X k9 W23 .undef I6 m6 K s)
def qNH(X:Td)(i1 t2 b5 t8 k9:AV)(I6:IvP)(m6:Nat)(K:KvP)(s:Hq):Prop:=
 oK (qAB .lss k9 i1) λW14=>qAK W14
 (oK (qAC 4 t2) λW15=>oK (rd1 s W15) λW16=>oK (qAM 6 W16 k9) λW17=>oK (qAC 0 W17) λW18=>oK (rd1 s W18) λW19=>oK (qAC 0 b5) λW20=>oK (rd1 s W20) λW21=>oK (negB false (eqV 0 false W19 W21)) λW22=>qAK W22
 (oK (qAC 4 t2) λW34=>oK (rd1 s W34) λW35=>oK (qAM 6 W35 k9) λW36=>oK (qAC 5 W36) λW37=>oK (rd1 s W37) λW38=>oK (negB true (eqV 0 true W38 (.int .u32 0))) λW39=>qHr X t2 t8 k9 W22 W39 I6 m6 K s)
 (qHr X t2 t8 k9 W22 .undef I6 m6 K s))
 (qHt X  K s)
def qGO(X:Td)(i1 t2 b5 t8:AV)(K:KvP)(s:Hq):Prop:=
 ∃I6:IvP,(∃m,I6 [(.int .i64 0)] s m)/\∀(f:Env) (s:Hq) (m6:Nat),I6 [f 9] s m6->
 qNH X i1 t2 b5 t8 (f 9) I6 m6 K s
def qDU(X:Td)(i1 t2 b5 t8 t115 t120:AV)(K:KvP)(s:Hq):Prop:=
 oK (qAT t115 (.bool true) t120) λW46=>qAK W46
 (oK (qAT W46 (.bool true) .undef) λW47=>qAK W47
 (K (.int .i64 3) s)
 (qGO X i1 t2 b5 t8 K s))
 (oK (qAC 5 b5) λW48=>oK (rd1 s W48) λW49=>oK (rdN s 2 t8) λW50=>wC TP X 189 [(.agg W50)] (λW51 S52=>(∀b,s b≠none->s b=none->S52 b=none)->
 oK (negB false (eqV 0 false W49 W51)) λW53=>oK (qAT W46 (.bool true) W53) λW54=>qAK W54
 (K (.int .i64 3) (add s S52))
 (qGO X i1 t2 b5 t8 K (add s S52))) (frz s))
def qEO(X:Td)(i1 t2 b5 t8 t108 t113:AV)(K:KvP)(s:Hq):Prop:=
 oK (qAT t108 (.bool true) t113) λW45=>qAK W45
 (qDU X i1 t2 b5 t8 W45 .undef K s)
 (oK (qAC 5 b5) λW55=>oK (rd1 s W55) λW56=>oK (qAC 0 t8) λW57=>oK (rd1 s W57) λW58=>oK (negB false (eqV 0 false W56 W58)) λW59=>qDU X i1 t2 b5 t8 W45 W59 K s)
def qGK(X:Td)(i1 t2 b5 t8 t102 t106:AV)(K:KvP)(s:Hq):Prop:=
 oK (qAT t102 (.bool true) t106) λW44=>qAK W44
 (qEO X i1 t2 b5 t8 W44 .undef K s)
 (oK (rdN s 2 t8) λW60=>oK (qAC 5 b5) λW61=>oK (rd1 s W61) λW62=>wC TP X 188 [(.agg W60),W62] (λW63 S64=>oK (qAj .not W63) λW65=>qEO X i1 t2 b5 t8 W44 W65 K S64) s)
def qGR(X:Td)(i1 t2 b5:AV)(K:KvP)(s:Hq):Prop:=
 oK (qAC 3 b5) λW9=>oK (rdN s 2 W9) λW10=>newK 71 [(.int .u32 0),(.int .i64 0)] (λB11 S12=>oK (qBx S12 2 (.ptr B11 0) (.agg W10)) λS13=>oK (rdN S13 2 (.ptr B11 0)) λW40=>wC TP X 187 [(.agg W40)] (λW41 S42=>oK (qAj .not W41) λW43=>qAK W43
 (qGK X i1 t2 b5 (.ptr B11 0) W43 .undef K S42)
 (oK (qAC 1 (.ptr B11 0)) λW66=>oK (rd1 S42 W66) λW67=>wC TP X 79 [W67,(.int .i64 8),(.int .i64 30)] (λW68 S69=>oK (qAj .not W68) λW70=>qGK X i1 t2 b5 (.ptr B11 0) W43 W70 K S69) S42)) S13) s
def qGE(X:Td)(i1 t2 b5:AV)(K:KvP)(s:Hq):Prop:=
 oK (qAC 5 b5) λW71=>oK (rd1 s W71) λW72=>oK (negB false (eqV 0 true W72 (.int .u32 0))) λW73=>qAK W73
 (oK (qAC 3 b5) λW74=>oK (rdN s 2 W74) λW75=>oK (qCJ [(.int .u32 0),(.int .i64 0)] []) λC76=>oK (negB true (qLS TP 71 (.agg W75) (.agg C76))) λW77=>qAK W77
 (K (.int .i64 3) s)
 (K (.int .i64 0) s))
 (qGR X i1 t2 b5 K s)
def qG4(X:Td)(k7 t79 t88:AV)(I12:IvP)(m12:Nat)(K:KvP)(s:Hq):Prop:=
 oK (qAT t79 (.bool true) t88) λW87=>qAK W87
 (K (.int .i64 11) s)
 (oK (qAB .add k7 (.int .i64 1)) λW88=>∃m',m'<m12/\I12 [W88] s m')
def qLq(X:Td)(i1 t2 b5 k7:AV)(I12:IvP)(m12:Nat)(K:KvP)(s:Hq):Prop:=
 oK (qAB .lss k7 i1) λW78=>qAK W78
 (oK (qAC 4 t2) λW79=>oK (rd1 s W79) λW80=>oK (qAM 6 W80 k7) λW81=>oK (qAC 1 W81) λW82=>oK (rd1 s W82) λW83=>oK (qAC 1 b5) λW84=>oK (rd1 s W84) λW85=>oK (negB false (eqV 0 false W83 W85)) λW86=>qAK W86
 (qG4 X k7 W86 .undef I12 m12 K s)
 (oK (qAC 4 t2) λW89=>oK (rd1 s W89) λW90=>oK (qAM 6 W90 k7) λW91=>oK (qAC 2 W91) λW92=>oK (rd1 s W92) λW93=>oK (qAC 2 b5) λW94=>oK (rd1 s W94) λW95=>oK (negB false (eqV 0 false W93 W95)) λW96=>qG4 X k7 W86 W96 I12 m12 K s))
 (qGE X i1 t2 b5 K s)
def qGJ(X:Td)(i1 t2 b5:AV)(K:KvP)(s:Hq):Prop:=
 ∃I12:IvP,(∃m,I12 [(.int .i64 0)] s m)/\∀(f:Env) (s:Hq) (m12:Nat),I12 [f 7] s m12->
 qLq X i1 t2 b5 (f 7) I12 m12 K s
def qG8(X:Td)(k6 t54 t63:AV)(I14:IvP)(m14:Nat)(K:KvP)(s:Hq):Prop:=
 oK (qAT t54 (.bool true) t63) λW110=>qAK W110
 (K (.int .i64 11) s)
 (oK (qAB .add k6 (.int .i64 1)) λW111=>∃m',m'<m14/\I14 [W111] s m')
def qMO(X:Td)(i1 t2 b5 k6:AV)(I14:IvP)(m14:Nat)(K:KvP)(s:Hq):Prop:=
 oK (qAC 3 t2) λW97=>oK (rd1 s W97) λW98=>oK (qAQ W98) λW99=>oK (qAB .lss k6 (.int .i64 W99)) λW101=>qAK W101
 (oK (qAC 3 t2) λW102=>oK (rd1 s W102) λW103=>oK (qAM 2 W103 k6) λW104=>oK (qAC 0 W104) λW105=>oK (rd1 s W105) λW106=>oK (qAC 1 b5) λW107=>oK (rd1 s W107) λW108=>oK (negB false (eqV 0 false W106 W108)) λW109=>qAK W109
 (qG8 X k6 W109 .undef I14 m14 K s)
 (oK (qAC 3 t2) λW112=>oK (rd1 s W112) λW113=>oK (qAM 2 W113 k6) λW114=>oK (qAC 1 W114) λW115=>oK (rd1 s W115) λW116=>oK (qAC 2 b5) λW117=>oK (rd1 s W117) λW118=>oK (negB false (eqV 0 false W116 W118)) λW119=>qG8 X k6 W109 W119 I14 m14 K s))
 (qGJ X i1 t2 b5 K s)
def qGN(X:Td)(i1 t2 b5:AV)(K:KvP)(s:Hq):Prop:=
 ∃I14:IvP,(∃m,I14 [(.int .i64 0)] s m)/\∀(f:Env) (s:Hq) (m14:Nat),I14 [f 6] s m14->
 qMO X i1 t2 b5 (f 6) I14 m14 K s
def qDW(X:Td)(i1 t2 b5 t33 t36:AV)(K:KvP)(s:Hq):Prop:=
 oK (qAT t33 (.bool true) t36) λW132=>qAK W132
 (K (.int .i64 2) s)
 (qGN X i1 t2 b5 K s)
def qEH(X:Td)(i1 t2 b5 t28 t31:AV)(K:KvP)(s:Hq):Prop:=
 oK (qAT t28 (.bool true) t31) λW131=>qAK W131
 (qDW X i1 t2 b5 W131 .undef K s)
 (oK (qAC 2 b5) λW133=>oK (rd1 s W133) λW134=>oK (negB false (eqV 0 true W134 (.int .u32 0))) λW135=>qDW X i1 t2 b5 W131 W135 K s)
def qFI(X:Td)(i1 t2 b5 t23 t26:AV)(K:KvP)(s:Hq):Prop:=
 oK (qAT t23 (.bool true) t26) λW130=>qAK W130
 (qEH X i1 t2 b5 W130 .undef K s)
 (oK (qAC 1 b5) λW136=>oK (rd1 s W136) λW137=>oK (qAB .gtr W137 (.int .u32 16777215)) λW138=>qEH X i1 t2 b5 W130 W138 K s)
def qSx(X:Td)(t0 i1:AV)(K:KvP)(s:Hq):Prop:=
 boxK 31 t0 (λB0 S1=>oK (qAC 4 B0) λW2=>oK (rd1 S1 W2) λW3=>oK (qAM 6 W3 i1) λW4=>oK (rdN S1 6 W4) λW5=>newK 87 [(.int .i64 0),(.int .u32 0),(.int .u32 0),(.int .u32 0),(.int .i64 0),(.int .u32 0)] (λB6 S7=>oK (qBx S7 6 (.ptr B6 0) (.agg W5)) λS8=>oK (qAC 0 (.ptr B6 0)) λW120=>oK (rd1 S8 W120) λW121=>oK (qAC 3 B0) λW122=>oK (rd1 S8 W122) λW123=>oK (qAQ W123) λW124=>oK (qAB .sub (.int .i64 W124) (.int .i64 1)) λW126=>wC TP X 79 [W121,(.int .i64 0),W126] (λW127 S128=>oK (qAj .not W127) λW129=>qAK W129
 (qFI X i1 B0 (.ptr B6 0) W129 .undef K S128)
 (oK (qAC 1 (.ptr B6 0)) λW139=>oK (rd1 S128 W139) λW140=>oK (qAB .lss W140 (.int .u32 1)) λW141=>qFI X i1 B0 (.ptr B6 0) W129 W141 K S128)) S8) S1) s
def qCs:Nat->List Nat:=λk=>cond (Nat.beq k 44) [9] (cond (Nat.beq k 20) [7] (cond (Nat.beq k 10) [6] ([])))
noncomputable def qKC:Code:=qCD 3 (qAr Tryz.f157)
noncomputable def qJy:Code:=qCD 1 qKC
noncomputable def qJ2:Code:=qCD 1 qJy
noncomputable def qKb:Code:=qCD 1 qJ2
noncomputable def qKH:Code:=qCD 2 qKb
noncomputable def qSQ:Code:=qCD 1 qKH
theorem qPZ(X:Td)(K:KvP)(env:Env)(s:Hq):wpC TP X qCs Tryz.f157.ntmps none qSQ env (λe env s=>retK e (resK TP Tryz.f157.results.toList env (λvs=>K (oneV vs) s) s)) s=qHt X K s:=by kernel_rfl
theorem qOR(X:Td)(K:KvP)(env:Env)(s:Hq):wpC TP X qCs Tryz.f157.ntmps none qKH env (λe env s=>retK e (resK TP Tryz.f157.results.toList env (λvs=>K (oneV vs) s) s)) s=qGO X (env 1) (env 2) (env 5) (env 8) K s:=(qCK 1 (λenv s=>qHt X K s) qKH (by kernel_rfl) (λenv s=>qPZ X K env s) env s).trans (by kernel_rfl)
theorem qOu(X:Td)(K:KvP)(env:Env)(s:Hq):wpC TP X qCs Tryz.f157.ntmps none qKb env (λe env s=>retK e (resK TP Tryz.f157.results.toList env (λvs=>K (oneV vs) s) s)) s=qGR X (env 1) (env 2) (env 5) K s:=(qCK 2 (λenv s=>qGO X (env 1) (env 2) (env 5) (env 8) K s) qKb (by kernel_rfl) (λenv s=>qOR X K env s) env s).trans (by kernel_rfl)
theorem qPj(X:Td)(K:KvP)(env:Env)(s:Hq):wpC TP X qCs Tryz.f157.ntmps none qJ2 env (λe env s=>retK e (resK TP Tryz.f157.results.toList env (λvs=>K (oneV vs) s) s)) s=qGE X (env 1) (env 2) (env 5) K s:=(qCK 1 (λenv s=>qGR X (env 1) (env 2) (env 5) K s) qJ2 (by kernel_rfl) (λenv s=>qOu X K env s) env s).trans (by kernel_rfl)
theorem qOo(X:Td)(K:KvP)(env:Env)(s:Hq):wpC TP X qCs Tryz.f157.ntmps none qJy env (λe env s=>retK e (resK TP Tryz.f157.results.toList env (λvs=>K (oneV vs) s) s)) s=qGJ X (env 1) (env 2) (env 5) K s:=(qCK 1 (λenv s=>qGE X (env 1) (env 2) (env 5) K s) qJy (by kernel_rfl) (λenv s=>qPj X K env s) env s).trans (by kernel_rfl)
theorem qOV(X:Td)(K:KvP)(env:Env)(s:Hq):wpC TP X qCs Tryz.f157.ntmps none qKC env (λe env s=>retK e (resK TP Tryz.f157.results.toList env (λvs=>K (oneV vs) s) s)) s=qGN X (env 1) (env 2) (env 5) K s:=(qCK 1 (λenv s=>qGJ X (env 1) (env 2) (env 5) K s) qKC (by kernel_rfl) (λenv s=>qOo X K env s) env s).trans (by kernel_rfl)
theorem qTf(X:Td)(t0 i1:AV)(K:KvP)(s:Hq):wpC TP X qCs Tryz.f157.ntmps none (qAr Tryz.f157) (qHZ [t0,i1]) (λe env s=>retK e (resK TP Tryz.f157.results.toList env (λvs=>K (oneV vs) s) s)) s=qSx X t0 i1 K s:=(qCK 3 (λenv s=>qGN X (env 1) (env 2) (env 5) K s) (qAr Tryz.f157) (by kernel_rfl) (λenv s=>qOV X K env s) _ s).trans (by kernel_rfl)
theorem qSt{t0 i1:AV}{K:KvP}{s:Hq}(h:qSx XX t0 i1 K s):wC TP XX 157 [t0,i1] K s:=wOK qBT qCs rfl Tryz.func157 h (he:=qTf XX t0 i1 K s)
def qGz(X:Td)(K:KvP)(s:Hq):Prop:=
 K (.int .i64 0) s
def qGv(X:Td)(n9 j10:AV)(I6:IvP)(m6:Nat)(I5:IvP)(m5:Nat)(K:KvP)(s:Hq):Prop:=
 oK (qAB .add j10 (.int .i64 1)) λW26=>∃m',m'<m6/\I6 [n9,W26] s m'
def qMa(X:Td)(i1 t2 t5 k8 n9 j10:AV)(I6:IvP)(m6:Nat)(I5:IvP)(m5:Nat)(K:KvP)(s:Hq):Prop:=
 oK (qAB .leq j10 i1) λW14=>qAK W14
 (oK (qAC 5 t2) λW15=>oK (rd1 s W15) λW16=>oK (qAM 2 W16 j10) λW17=>oK (qAC 0 W17) λW18=>oK (rd1 s W18) λW19=>oK (qAC 0 t5) λW20=>oK (rd1 s W20) λW21=>oK (qAM 1 W21 k8) λW22=>oK (rd1 s W22) λW23=>wC TP X 102 [W19,W23] (λW24 S25=>qAK W24
 (oK (qAB .add n9 (.int .i64 1)) λW27=>qGv X W27 j10 I6 m6 I5 m5 K S25)
 (qGv X n9 j10 I6 m6 I5 m5 K S25)) s)
 (oK (qAB .gtr n9 (.int .i64 32)) λW28=>qAK W28
 (K (.int .i64 7) s)
 (oK (qAB .add k8 (.int .i64 1)) λW29=>∃m',m'<m5/\I5 [W29] s m'))
def qMb(X:Td)(i1 t2 t5 k8:AV)(I5:IvP)(m5:Nat)(K:KvP)(s:Hq):Prop:=
 oK (qAC 0 t5) λW9=>oK (rd1 s W9) λW10=>oK (qAQ W10) λW11=>oK (qAB .lss k8 (.int .i64 W11)) λW13=>qAK W13
 (∃I6:IvP,(∃m,I6 [(.int .i64 0),(.int .i64 0)] s m)/\∀(f:Env) (s:Hq) (m6:Nat),I6 [f 9,f 10] s m6->
 qMa X i1 t2 t5 k8 (f 9) (f 10) I6 m6 I5 m5 K s)
 (qGz X  K s)
def qFR(X:Td)(i1 t2 t5:AV)(K:KvP)(s:Hq):Prop:=
 ∃I5:IvP,(∃m,I5 [(.int .i64 0)] s m)/\∀(f:Env) (s:Hq) (m5:Nat),I5 [f 8] s m5->
 qMb X i1 t2 t5 (f 8) I5 m5 K s
def qHA(X:Td)(i1 t2 t5 t65 t69:AV)(K:KvP)(s:Hq):Prop:=
 oK (qAT t65 (.bool true) t69) λW35=>qAK W35
 (K (.int .i64 10) s)
 (qFR X i1 t2 t5 K s)
def qFL(X:Td)(i1 t2 t5:AV)(K:KvP)(s:Hq):Prop:=
 oK (qAC 0 t5) λW30=>oK (rd1 s W30) λW31=>wC TP X 191 [W31] (λW32 S33=>oK (qAj .not W32) λW34=>qAK W34
 (qHA X i1 t2 t5 W34 .undef K S33)
 (oK (qAC 1 t5) λW36=>oK (rd1 S33 W36) λW37=>wC TP X 191 [W37] (λW38 S39=>oK (qAj .not W38) λW40=>qHA X i1 t2 t5 W34 W40 K S39) S33)) s
def qMU(X:Td)(i1 t2 t5 k7:AV)(I9:IvP)(m9:Nat)(K:KvP)(s:Hq):Prop:=
 oK (qAC 1 t5) λW41=>oK (rd1 s W41) λW42=>oK (qAQ W42) λW43=>oK (qAB .lss k7 (.int .i64 W43)) λW45=>qAK W45
 (oK (qAC 1 t5) λW46=>oK (rd1 s W46) λW47=>oK (qAM 1 W47 k7) λW48=>oK (rd1 s W48) λW49=>oK (qAC 4 t2) λW50=>oK (rd1 s W50) λW51=>oK (qAQ W51) λW52=>oK (qAB .sub (.int .i64 W52) (.int .i64 1)) λW54=>wC TP X 79 [W49,(.int .i64 0),W54] (λW55 S56=>oK (qAj .not W55) λW57=>qAK W57
 (K (.int .i64 2) S56)
 (oK (qAB .add k7 (.int .i64 1)) λW58=>∃m',m'<m9/\I9 [W58] S56 m')) s)
 (qFL X i1 t2 t5 K s)
def qFW(X:Td)(i1 t2 t5:AV)(K:KvP)(s:Hq):Prop:=
 ∃I9:IvP,(∃m,I9 [(.int .i64 0)] s m)/\∀(f:Env) (s:Hq) (m9:Nat),I9 [f 7] s m9->
 qMU X i1 t2 t5 (f 7) I9 m9 K s
def qK8(X:Td)(i1 t2 t5 k6:AV)(I10:IvP)(m10:Nat)(K:KvP)(s:Hq):Prop:=
 oK (qAC 0 t5) λW59=>oK (rd1 s W59) λW60=>oK (qAQ W60) λW61=>oK (qAB .lss k6 (.int .i64 W61)) λW63=>qAK W63
 (oK (qAC 0 t5) λW64=>oK (rd1 s W64) λW65=>oK (qAM 1 W65 k6) λW66=>oK (rd1 s W66) λW67=>oK (qAC 0 t2) λW68=>oK (rd1 s W68) λW69=>oK (qAB .sub W69 (.int .i64 1)) λW70=>wC TP X 79 [W67,(.int .i64 0),W70] (λW71 S72=>oK (qAj .not W71) λW73=>qAK W73
 (K (.int .i64 2) S72)
 (oK (qAB .add k6 (.int .i64 1)) λW74=>∃m',m'<m10/\I10 [W74] S72 m')) s)
 (qFW X i1 t2 t5 K s)
def qEL(X:Td)(i1 t2 t5:AV)(K:KvP)(s:Hq):Prop:=
 ∃I10:IvP,(∃m,I10 [(.int .i64 0)] s m)/\∀(f:Env) (s:Hq) (m10:Nat),I10 [f 6] s m10->
 qK8 X i1 t2 t5 (f 6) I10 m10 K s
def qF6(X:Td)(i1 t2 t5 t20 t24:AV)(K:KvP)(s:Hq):Prop:=
 oK (qAT t20 (.bool true) t24) λW80=>qAK W80
 (K (.int .i64 3) s)
 (qEL X i1 t2 t5 K s)
def qQT(X:Td)(t0 i1:AV)(K:KvP)(s:Hq):Prop:=
 boxK 31 t0 (λB0 S1=>oK (qAC 5 B0) λW2=>oK (rd1 S1 W2) λW3=>oK (qAM 2 W3 i1) λW4=>oK (rdN S1 2 W4) λW5=>newK 94 [.nilslc,.nilslc] (λB6 S7=>oK (qBx S7 2 (.ptr B6 0) (.agg W5)) λS8=>oK (qAC 0 (.ptr B6 0)) λW75=>oK (rd1 S8 W75) λW76=>oK (qAQ W76) λW77=>oK (negB false (eqV 0 true (.int .i64 W77) (.int .i64 0))) λW79=>qAK W79
 (qF6 X i1 B0 (.ptr B6 0) W79 .undef K S8)
 (oK (qAC 1 (.ptr B6 0)) λW81=>oK (rd1 S8 W81) λW82=>oK (qAQ W82) λW83=>oK (negB false (eqV 0 true (.int .i64 W83) (.int .i64 0))) λW85=>qF6 X i1 B0 (.ptr B6 0) W79 W85 K S8)) S1) s
def qCv:Nat->List Nat:=λk=>cond (Nat.beq k 34) [8] (cond (Nat.beq k 42) [9,10] (cond (Nat.beq k 20) [7] (cond (Nat.beq k 10) [6] ([]))))
noncomputable def qJb:Code:=qCD 3 (qAr Tryz.f158)
noncomputable def qI9:Code:=qCD 1 qJb
noncomputable def qI2:Code:=qCD 1 qI9
noncomputable def qJE:Code:=qCD 1 qI2
noncomputable def qRv:Code:=qCD 1 qJE
theorem qNk(X:Td)(K:KvP)(env:Env)(s:Hq):wpC TP X qCv Tryz.f158.ntmps none qRv env (λe env s=>retK e (resK TP Tryz.f158.results.toList env (λvs=>K (oneV vs) s) s)) s=qGz X K s:=by kernel_rfl
theorem qNh(X:Td)(K:KvP)(env:Env)(s:Hq):wpC TP X qCv Tryz.f158.ntmps none qJE env (λe env s=>retK e (resK TP Tryz.f158.results.toList env (λvs=>K (oneV vs) s) s)) s=qFR X (env 1) (env 2) (env 5) K s:=(qCK 1 (λenv s=>qGz X K s) qJE (by kernel_rfl) (λenv s=>qNk X K env s) env s).trans (by kernel_rfl)
theorem qNn(X:Td)(K:KvP)(env:Env)(s:Hq):wpC TP X qCv Tryz.f158.ntmps none qI2 env (λe env s=>retK e (resK TP Tryz.f158.results.toList env (λvs=>K (oneV vs) s) s)) s=qFL X (env 1) (env 2) (env 5) K s:=(qCK 1 (λenv s=>qFR X (env 1) (env 2) (env 5) K s) qI2 (by kernel_rfl) (λenv s=>qNh X K env s) env s).trans (by kernel_rfl)
theorem qNo(X:Td)(K:KvP)(env:Env)(s:Hq):wpC TP X qCv Tryz.f158.ntmps none qI9 env (λe env s=>retK e (resK TP Tryz.f158.results.toList env (λvs=>K (oneV vs) s) s)) s=qFW X (env 1) (env 2) (env 5) K s:=(qCK 1 (λenv s=>qFL X (env 1) (env 2) (env 5) K s) qI9 (by kernel_rfl) (λenv s=>qNn X K env s) env s).trans (by kernel_rfl)
theorem qNy(X:Td)(K:KvP)(env:Env)(s:Hq):wpC TP X qCv Tryz.f158.ntmps none qJb env (λe env s=>retK e (resK TP Tryz.f158.results.toList env (λvs=>K (oneV vs) s) s)) s=qEL X (env 1) (env 2) (env 5) K s:=(qCK 1 (λenv s=>qFW X (env 1) (env 2) (env 5) K s) qJb (by kernel_rfl) (λenv s=>qNo X K env s) env s).trans (by kernel_rfl)
theorem qQz(X:Td)(t0 i1:AV)(K:KvP)(s:Hq):wpC TP X qCv Tryz.f158.ntmps none (qAr Tryz.f158) (qHZ [t0,i1]) (λe env s=>retK e (resK TP Tryz.f158.results.toList env (λvs=>K (oneV vs) s) s)) s=qQT X t0 i1 K s:=(qCK 3 (λenv s=>qEL X (env 1) (env 2) (env 5) K s) (qAr Tryz.f158) (by kernel_rfl) (λenv s=>qNy X K env s) _ s).trans (by kernel_rfl)
theorem qRT{t0 i1:AV}{K:KvP}{s:Hq}(h:qQT XX t0 i1 K s):wC TP XX 158 [t0,i1] K s:=wOK qBT qCv rfl Tryz.func158 h (he:=qQz XX t0 i1 K s)
def qKn(X:Td)(K:KvP)(s:Hq):Prop:=
 K (.int .i64 0) s
def qKi(X:Td)(k9 t147 t153 t157 t162:AV)(I5:IvP)(m5:Nat)(K:KvP)(s:Hq):Prop:=
 oK (qAT t157 t162 (.bool false)) λW48=>oK (qAT t153 (.bool true) W48) λW49=>oK (qAT t147 W49 (.bool false)) λW50=>qAK W50
 (K (.int .i64 11) s)
 (oK (qAB .add k9 (.int .i64 1)) λW51=>∃m',m'<m5/\I5 [W51] s m')
def qQS(X:Td)(i1 t2 h5 k9:AV)(I5:IvP)(m5:Nat)(K:KvP)(s:Hq):Prop:=
 oK (qAB .lss k9 i1) λW24=>qAK W24
 (oK (qAC 6 t2) λW25=>oK (rd1 s W25) λW26=>oK (qAM 4 W26 k9) λW27=>oK (rdN s 4 W27) λW28=>newK 140 [(.int .u64 0),(.int .u32 0),(.int .i64 0),(.int .i64 0)] (λB29 S30=>oK (qBx S30 4 (.ptr B29 0) (.agg W28)) λS31=>oK (qAC 2 (.ptr B29 0)) λW32=>oK (rd1 S31 W32) λW33=>oK (qAC 2 h5) λW34=>oK (rd1 S31 W34) λW35=>oK (negB false (eqV 0 false W33 W35)) λW36=>qAK W36
 (oK (qAC 0 (.ptr B29 0)) λW37=>oK (rd1 S31 W37) λW38=>oK (qAC 0 h5) λW39=>oK (rd1 S31 W39) λW40=>oK (negB false (eqV 0 false W38 W40)) λW41=>qAK W41
 (oK (qAT W41 (.bool true) .undef) λW42=>oK (qAT W36 W42 (.bool false)) λW43=>qAK W43
 (K (.int .i64 11) S31)
 (oK (qAB .add k9 (.int .i64 1)) λW44=>∃m',m'<m5/\I5 [W44] S31 m'))
 (oK (qAC 1 h5) λW45=>oK (rd1 S31 W45) λW46=>oK (negB true (eqV 0 true W46 (.int .u32 0))) λW47=>qAK W47
 (oK (qAC 1 (.ptr B29 0)) λW52=>oK (rd1 S31 W52) λW53=>oK (qAC 1 h5) λW54=>oK (rd1 S31 W54) λW55=>oK (negB false (eqV 0 false W53 W55)) λW56=>qKi X k9 W36 W41 W47 W56 I5 m5 K S31)
 (qKi X k9 W36 W41 W47 .undef I5 m5 K S31)))
 (oK (qAT W36 .undef (.bool false)) λW57=>qAK W57
 (K (.int .i64 11) S31)
 (oK (qAB .add k9 (.int .i64 1)) λW58=>∃m',m'<m5/\I5 [W58] S31 m'))) s)
 (qKn X  K s)
def qEI(X:Td)(i1 t2 h5:AV)(K:KvP)(s:Hq):Prop:=
 ∃I5:IvP,(∃m,I5 [(.int .i64 0)] s m)/\∀(f:Env) (s:Hq) (m5:Nat),I5 [f 9] s m5->
 qQS X i1 t2 h5 (f 9) I5 m5 K s
def qKk(X:Td)(i1 t2 h5 t101 t124 t129:AV)(K:KvP)(s:Hq):Prop:=
 oK (qAT t124 (.bool true) t129) λW72=>oK (qAT t101 W72 (.bool false)) λW73=>qAK W73
 (K (.int .i64 3) s)
 (qEI X i1 t2 h5 K s)
def qIY(X:Td)(i1 t2 h5 b8 t101 t108 t114:AV)(K:KvP)(s:Hq):Prop:=
 oK (qAT t108 (.bool true) t114) λW70=>qAK W70
 (oK (qAT W70 (.bool true) .undef) λW71=>qAK W71
 (qKk X i1 t2 h5 t101 W71 .undef K s)
 (oK (qAC 1 h5) λW74=>oK (rd1 s W74) λW75=>oK (qAC 5 b8) λW76=>oK (rd1 s W76) λW77=>oK (negB false (eqV 0 false W75 W77)) λW78=>qKk X i1 t2 h5 t101 W71 W78 K s))
 (oK (qAC 1 h5) λW79=>oK (rd1 s W79) λW80=>oK (qAC 3 b8) λW81=>oK (rdN s 2 W81) λW82=>wC TP X 189 [(.agg W82)] (λW83 S84=>(∀b,s b≠none->s b=none->S84 b=none)->
 oK (negB false (eqV 0 false W80 W83)) λW85=>oK (qAT W70 (.bool true) W85) λW86=>qAK W86
 (oK (qAT W86 (.bool true) .undef) λW87=>oK (qAT t101 W87 (.bool false)) λW88=>qAK W88
 (K (.int .i64 3) (add s S84))
 (qEI X i1 t2 h5 K (add s S84)))
 (oK (qAC 1 h5) λW89=>oK (rd1 (add s S84) W89) λW90=>oK (qAC 5 b8) λW91=>oK (rd1 (add s S84) W91) λW92=>oK (negB false (eqV 0 false W90 W92)) λW93=>oK (qAT W86 (.bool true) W93) λW94=>oK (qAT t101 W94 (.bool false)) λW95=>qAK W95
 (K (.int .i64 3) (add s S84))
 (qEI X i1 t2 h5 K (add s S84)))) (frz s))
def qKj(X:Td)(i1 t2 h5 b8 t96 t99:AV)(K:KvP)(s:Hq):Prop:=
 oK (qAT t96 t99 (.bool false)) λW62=>qAK W62
 (oK (qAC 3 b8) λW63=>oK (rdN s 2 W63) λW64=>oK (qAC 1 h5) λW65=>oK (rd1 s W65) λW66=>wC TP X 188 [(.agg W64),W66] (λW67 S68=>oK (qAj .not W67) λW69=>qAK W69
 (qIY X i1 t2 h5 b8 W62 W69 .undef K S68)
 (oK (qAC 1 h5) λW96=>oK (rd1 S68 W96) λW97=>oK (qAC 3 b8) λW98=>oK (qAC 0 W98) λW99=>oK (rd1 S68 W99) λW100=>oK (negB false (eqV 0 false W97 W100)) λW101=>qIY X i1 t2 h5 b8 W62 W69 W101 K S68)) s)
 (oK (qAT W62 .undef (.bool false)) λW102=>qAK W102
 (K (.int .i64 3) s)
 (qEI X i1 t2 h5 K s))
def qFq(X:Td)(i1 t2 h5 b8:AV)(K:KvP)(s:Hq):Prop:=
 oK (qAC 5 b8) λW59=>oK (rd1 s W59) λW60=>oK (negB true (eqV 0 true W60 (.int .u32 0))) λW61=>qAK W61
 (oK (qAC 1 h5) λW103=>oK (rd1 s W103) λW104=>oK (negB true (eqV 0 true W104 (.int .u32 0))) λW105=>qKj X i1 t2 h5 b8 W61 W105 K s)
 (qKj X i1 t2 h5 b8 W61 .undef K s)
def qI6(X:Td)(i1 t2 h5 b8 t83 t87 t90:AV)(K:KvP)(s:Hq):Prop:=
 oK (qAT t87 t90 (.bool false)) λW114=>oK (qAT t83 (.bool true) W114) λW115=>qAK W115
 (K (.int .i64 3) s)
 (qFq X i1 t2 h5 b8 K s)
def qJJ(X:Td)(i1 t2 h5 b8 t80 t81:AV)(K:KvP)(s:Hq):Prop:=
 oK (qAT t80 (.bool true) t81) λW109=>qAK W109
 (oK (qAT W109 (.bool true) .undef) λW110=>qAK W110
 (K (.int .i64 3) s)
 (qFq X i1 t2 h5 b8 K s))
 (oK (qAC 5 b8) λW111=>oK (rd1 s W111) λW112=>oK (negB false (eqV 0 true W112 (.int .u32 0))) λW113=>qAK W113
 (oK (qAC 1 h5) λW116=>oK (rd1 s W116) λW117=>oK (negB true (eqV 0 true W117 (.int .u32 0))) λW118=>qI6 X i1 t2 h5 b8 W109 W113 W118 K s)
 (qI6 X i1 t2 h5 b8 W109 W113 .undef K s))
def qHC(X:Td)(i1 t2 h5:AV)(K:KvP)(s:Hq):Prop:=
 oK (qAC 0 h5) λW9=>oK (rd1 s W9) λW10=>wC TP X 193 [W10] (λW11 S12=>oK (qAf W11 0) λW13=>oK (qAf W11 1) λW14=>oK (qAC 4 t2) λW15=>oK (rd1 S12 W15) λW16=>oK (qAC 2 h5) λW17=>oK (rd1 S12 W17) λW18=>oK (qAM 6 W16 W18) λW19=>oK (rdN S12 6 W19) λW20=>newK 87 [(.int .i64 0),(.int .u32 0),(.int .u32 0),(.int .u32 0),(.int .i64 0),(.int .u32 0)] (λB21 S22=>oK (qBx S22 6 (.ptr B21 0) (.agg W20)) λS23=>oK (qAC 0 h5) λW106=>oK (rd1 S23 W106) λW107=>oK (negB false (eqV 0 true W107 (.int .u64 1577058561))) λW108=>qAK W108
 (qJJ X i1 t2 h5 (.ptr B21 0) W108 .undef K S23)
 (qJJ X i1 t2 h5 (.ptr B21 0) W108 W14 K S23)) S12) s
def qJM(X:Td)(i1 t2 h5 t52 t63:AV)(K:KvP)(s:Hq):Prop:=
 oK (qAT t52 t63 (.bool false)) λW122=>qAK W122
 (K (.int .i64 8) s)
 (qHC X i1 t2 h5 K s)
def qKs(X:Td)(i1 t2 h5:AV)(K:KvP)(s:Hq):Prop:=
 oK (qAC 3 h5) λW119=>oK (rd1 s W119) λW120=>oK (negB true (eqV 0 true W120 (.int .i64 (-1)))) λW121=>qAK W121
 (oK (qAC 5 t2) λW123=>oK (rd1 s W123) λW124=>oK (qAC 3 h5) λW125=>oK (rd1 s W125) λW126=>oK (qAM 2 W124 W126) λW127=>oK (qAC 1 W127) λW128=>oK (rd1 s W128) λW129=>oK (qAC 2 h5) λW130=>oK (rd1 s W130) λW131=>wC TP X 102 [W129,W131] (λW132 S133=>oK (qAj .not W132) λW134=>qJM X i1 t2 h5 W121 W134 K S133) s)
 (qJM X i1 t2 h5 W121 .undef K s)
def qEA(X:Td)(i1 t2 h5 t39 t47:AV)(K:KvP)(s:Hq):Prop:=
 oK (qAT t39 (.bool true) t47) λW141=>qAK W141
 (K (.int .i64 2) s)
 (qKs X i1 t2 h5 K s)
def qEp(X:Td)(i1 t2 h5 t29 t37:AV)(K:KvP)(s:Hq):Prop:=
 oK (qAT t29 (.bool true) t37) λW140=>qAK W140
 (qEA X i1 t2 h5 W140 .undef K s)
 (oK (qAC 3 h5) λW142=>oK (rd1 s W142) λW143=>oK (qAC 5 t2) λW144=>oK (rd1 s W144) λW145=>oK (qAQ W145) λW146=>oK (qAB .sub (.int .i64 W146) (.int .i64 1)) λW148=>wC TP X 79 [W143,(.int .i64 (-1)),W148] (λW149 S150=>oK (qAj .not W149) λW151=>qEA X i1 t2 h5 W140 W151 K S150) s)
def qFp(X:Td)(i1 t2 h5 t24 t27:AV)(K:KvP)(s:Hq):Prop:=
 oK (qAT t24 (.bool true) t27) λW139=>qAK W139
 (qEp X i1 t2 h5 W139 .undef K s)
 (oK (qAC 2 h5) λW152=>oK (rd1 s W152) λW153=>oK (qAC 4 t2) λW154=>oK (rd1 s W154) λW155=>oK (qAQ W155) λW156=>oK (qAB .sub (.int .i64 W156) (.int .i64 1)) λW158=>wC TP X 79 [W153,(.int .i64 0),W158] (λW159 S160=>oK (qAj .not W159) λW161=>qEp X i1 t2 h5 W139 W161 K S160) s)
def qHX(X:Td)(i1 t2 h5 t19 t22:AV)(K:KvP)(s:Hq):Prop:=
 oK (qAT t19 (.bool true) t22) λW138=>qAK W138
 (qFp X i1 t2 h5 W138 .undef K s)
 (oK (qAC 0 h5) λW162=>oK (rd1 s W162) λW163=>wC TP X 192 [W163] (λW164 S165=>qFp X i1 t2 h5 W138 W164 K S165) s)
def zAAj(X:Td)(t0 i1:AV)(K:KvP)(s:Hq):Prop:=
 boxK 31 t0 (λB0 S1=>oK (qAC 6 B0) λW2=>oK (rd1 S1 W2) λW3=>oK (qAM 4 W3 i1) λW4=>oK (rdN S1 4 W4) λW5=>newK 140 [(.int .u64 0),(.int .u32 0),(.int .i64 0),(.int .i64 0)] (λB6 S7=>oK (qBx S7 4 (.ptr B6 0) (.agg W5)) λS8=>oK (qAC 0 (.ptr B6 0)) λW135=>oK (rd1 S8 W135) λW136=>oK (negB false (eqV 0 true W136 (.int .u64 0))) λW137=>qAK W137
 (qHX X i1 B0 (.ptr B6 0) W137 .undef K S8)
 (oK (qAC 0 (.ptr B6 0)) λW166=>oK (rd1 S8 W166) λW167=>oK (qAB .gtr W167 (.int .u64 281474976710655)) λW168=>qHX X i1 B0 (.ptr B6 0) W137 W168 K S8)) S1) s
def qEr:Nat->List Nat:=λk=>cond (Nat.beq k 26) [9] ([])
noncomputable def qM7:Code:=qCD 3 (qAr Tryz.f159)
noncomputable def qMn:Code:=qCD 1 qM7
noncomputable def qMu:Code:=qCD 3 qMn
noncomputable def qMy:Code:=qCD 1 qMu
noncomputable def qXN:Code:=qCD 1 qMy
theorem qRz(X:Td)(K:KvP)(env:Env)(s:Hq):wpC TP X qEr Tryz.f159.ntmps none qXN env (λe env s=>retK e (resK TP Tryz.f159.results.toList env (λvs=>K (oneV vs) s) s)) s=qKn X K s:=by kernel_rfl
theorem qRU(X:Td)(K:KvP)(env:Env)(s:Hq):wpC TP X qEr Tryz.f159.ntmps none qMy env (λe env s=>retK e (resK TP Tryz.f159.results.toList env (λvs=>K (oneV vs) s) s)) s=qEI X (env 1) (env 2) (env 5) K s:=(qCK 1 (λenv s=>qKn X K s) qMy (by kernel_rfl) (λenv s=>qRz X K env s) env s).trans (by kernel_rfl)
theorem qR8(X:Td)(K:KvP)(env:Env)(s:Hq):wpC TP X qEr Tryz.f159.ntmps none qMu env (λe env s=>retK e (resK TP Tryz.f159.results.toList env (λvs=>K (oneV vs) s) s)) s=qFq X (env 1) (env 2) (env 5) (env 8) K s:=(qCK 1 (λenv s=>qEI X (env 1) (env 2) (env 5) K s) qMu (by kernel_rfl) (λenv s=>qRU X K env s) env s).trans (by kernel_rfl)
theorem qRW(X:Td)(K:KvP)(env:Env)(s:Hq):wpC TP X qEr Tryz.f159.ntmps none qMn env (λe env s=>retK e (resK TP Tryz.f159.results.toList env (λvs=>K (oneV vs) s) s)) s=qHC X (env 1) (env 2) (env 5) K s:=(qCK 3 (λenv s=>qFq X (env 1) (env 2) (env 5) (env 8) K s) qMn (by kernel_rfl) (λenv s=>qR8 X K env s) env s).trans (by kernel_rfl)
theorem qRd(X:Td)(K:KvP)(env:Env)(s:Hq):wpC TP X qEr Tryz.f159.ntmps none qM7 env (λe env s=>retK e (resK TP Tryz.f159.results.toList env (λvs=>K (oneV vs) s) s)) s=qKs X (env 1) (env 2) (env 5) K s:=(qCK 1 (λenv s=>qHC X (env 1) (env 2) (env 5) K s) qM7 (by kernel_rfl) (λenv s=>qRW X K env s) env s).trans (by kernel_rfl)
theorem qW9(X:Td)(t0 i1:AV)(K:KvP)(s:Hq):wpC TP X qEr Tryz.f159.ntmps none (qAr Tryz.f159) (qHZ [t0,i1]) (λe env s=>retK e (resK TP Tryz.f159.results.toList env (λvs=>K (oneV vs) s) s)) s=zAAj X t0 i1 K s:=(qCK 3 (λenv s=>qKs X (env 1) (env 2) (env 5) K s) (qAr Tryz.f159) (by kernel_rfl) (λenv s=>qRd X K env s) _ s).trans (by kernel_rfl)
theorem qW5{t0 i1:AV}{K:KvP}{s:Hq}(h:zAAj XX t0 i1 K s):wC TP XX 159 [t0,i1] K s:=wOK qBT qEr rfl Tryz.func159 h (he:=qW9 XX t0 i1 K s)
def qKq(X:Td)(K:KvP)(s:Hq):Prop:=
 K (.int .i64 0) s
def qQH(X:Td)(i1 t2 l5 k6:AV)(I3:IvP)(m3:Nat)(K:KvP)(s:Hq):Prop:=
 oK (qAB .lss k6 i1) λW9=>qAK W9
 (oK (qAC 7 t2) λW10=>oK (rd1 s W10) λW11=>oK (qAM 4 W11 k6) λW12=>oK (rdN s 4 W12) λW13=>oK (rdN s 4 l5) λW14=>oK (negB false (qLS TP 144 (.agg W13) (.agg W14))) λW15=>qAK W15
 (K (.int .i64 11) s)
 (oK (qAB .add k6 (.int .i64 1)) λW16=>∃m',m'<m3/\I3 [W16] s m'))
 (qKq X  K s)
def qKg(X:Td)(i1 t2 l5:AV)(K:KvP)(s:Hq):Prop:=
 ∃I3:IvP,(∃m,I3 [(.int .i64 0)] s m)/\∀(f:Env) (s:Hq) (m3:Nat),I3 [f 6] s m3->
 qQH X i1 t2 l5 (f 6) I3 m3 K s
def qKu(X:Td)(i1 t2 l5 t35 t39:AV)(K:KvP)(s:Hq):Prop:=
 oK (qAT t35 (.bool true) t39) λW22=>qAK W22
 (K (.int .i64 3) s)
 (qKg X i1 t2 l5 K s)
def qKx(X:Td)(i1 t2 l5:AV)(K:KvP)(s:Hq):Prop:=
 oK (qAC 0 l5) λW17=>oK (rd1 s W17) λW18=>oK (qAC 1 l5) λW19=>oK (rd1 s W19) λW20=>oK (negB false (eqV 0 false W18 W20)) λW21=>qAK W21
 (qKu X i1 t2 l5 W21 .undef K s)
 (oK (qAC 2 l5) λW23=>oK (rdN s 2 W23) λW24=>wC TP X 187 [(.agg W24)] (λW25 S26=>oK (qAj .not W25) λW27=>qKu X i1 t2 l5 W21 W27 K S26) s)
def qIa(X:Td)(i1 t2 l5 t20 t28:AV)(K:KvP)(s:Hq):Prop:=
 oK (qAT t20 (.bool true) t28) λW38=>qAK W38
 (K (.int .i64 2) s)
 (qKx X i1 t2 l5 K s)
def qZO(X:Td)(t0 i1:AV)(K:KvP)(s:Hq):Prop:=
 boxK 31 t0 (λB0 S1=>oK (qAC 7 B0) λW2=>oK (rd1 S1 W2) λW3=>oK (qAM 4 W3 i1) λW4=>oK (rdN S1 4 W4) λW5=>newK 144 [(.int .i64 0),(.int .i64 0),(.int .u32 0),(.int .i64 0)] (λB6 S7=>oK (qBx S7 4 (.ptr B6 0) (.agg W5)) λS8=>oK (qAC 0 (.ptr B6 0)) λW28=>oK (rd1 S8 W28) λW29=>oK (qAC 3 B0) λW30=>oK (rd1 S8 W30) λW31=>oK (qAQ W31) λW32=>oK (qAB .sub (.int .i64 W32) (.int .i64 1)) λW34=>wC TP X 79 [W29,(.int .i64 0),W34] (λW35 S36=>oK (qAj .not W35) λW37=>qAK W37
 (qIa X i1 B0 (.ptr B6 0) W37 .undef K S36)
 (oK (qAC 1 (.ptr B6 0)) λW39=>oK (rd1 S36 W39) λW40=>oK (qAC 3 B0) λW41=>oK (rd1 S36 W41) λW42=>oK (qAQ W42) λW43=>oK (qAB .sub (.int .i64 W43) (.int .i64 1)) λW45=>wC TP X 79 [W40,(.int .i64 0),W45] (λW46 S47=>oK (qAj .not W46) λW48=>qIa X i1 B0 (.ptr B6 0) W37 W48 K S47) S36)) S8) S1) s
def qHP:Nat->List Nat:=λk=>cond (Nat.beq k 14) [6] ([])
noncomputable def qMp:Code:=qCD 3 (qAr Tryz.f160)
noncomputable def qM6:Code:=qCD 1 qMp
noncomputable def qXc:Code:=qCD 1 qM6
theorem qRA(X:Td)(K:KvP)(env:Env)(s:Hq):wpC TP X qHP Tryz.f160.ntmps none qXc env (λe env s=>retK e (resK TP Tryz.f160.results.toList env (λvs=>K (oneV vs) s) s)) s=qKq X K s:=by kernel_rfl
theorem qQx(X:Td)(K:KvP)(env:Env)(s:Hq):wpC TP X qHP Tryz.f160.ntmps none qM6 env (λe env s=>retK e (resK TP Tryz.f160.results.toList env (λvs=>K (oneV vs) s) s)) s=qKg X (env 1) (env 2) (env 5) K s:=(qCK 1 (λenv s=>qKq X K s) qM6 (by kernel_rfl) (λenv s=>qRA X K env s) env s).trans (by kernel_rfl)
theorem qRP(X:Td)(K:KvP)(env:Env)(s:Hq):wpC TP X qHP Tryz.f160.ntmps none qMp env (λe env s=>retK e (resK TP Tryz.f160.results.toList env (λvs=>K (oneV vs) s) s)) s=qKx X (env 1) (env 2) (env 5) K s:=(qCK 1 (λenv s=>qKg X (env 1) (env 2) (env 5) K s) qMp (by kernel_rfl) (λenv s=>qQx X K env s) env s).trans (by kernel_rfl)
theorem qWs(X:Td)(t0 i1:AV)(K:KvP)(s:Hq):wpC TP X qHP Tryz.f160.ntmps none (qAr Tryz.f160) (qHZ [t0,i1]) (λe env s=>retK e (resK TP Tryz.f160.results.toList env (λvs=>K (oneV vs) s) s)) s=qZO X t0 i1 K s:=(qCK 3 (λenv s=>qKx X (env 1) (env 2) (env 5) K s) (qAr Tryz.f160) (by kernel_rfl) (λenv s=>qRP X K env s) _ s).trans (by kernel_rfl)
theorem qXP{t0 i1:AV}{K:KvP}{s:Hq}(h:qZO XX t0 i1 K s):wC TP XX 160 [t0,i1] K s:=wOK qBT qHP rfl Tryz.func160 h (he:=qWs XX t0 i1 K s)
end Go.AM
namespace Go.AM
open Go Go.Proofs
set_option maxRecDepth 100000
def qIo(X:Td)(length0:AV)(K:KvP)(s:Hq):Prop:=
 oK (qD2 .u64 length0) λW0=>wC TP X 96 [W0] (λW1 S2=>oK (qDB .shl (.int .u64 1) W1) λW3=>K W3 S2) s
theorem qK6{X:Td}(hX:FrX X)(hn:X 178=none){length0:AV}{K:KvP}{s:Hq}(h:qIo X length0 K s):wC TP X 178 [length0] K s:=
 wOK hX nA0 hn Tryz.func178 h
def qJi(X:Td)(r0:AV)(K:KvP)(s:Hq):Prop:=
 oK (qAo r0) λW0=>oK (rd1 s W0) λW1=>oK (qAo r0) λW2=>oK (rd1 s W2) λW3=>oK (qDB .shl W3 (.int .u64 13)) λW4=>oK (qAB .xor W1 W4) λW5=>oK (qAo r0) λW6=>oK (wr1 s W6 W5) λS7=>oK (qAo r0) λW8=>oK (rd1 S7 W8) λW9=>oK (qAo r0) λW10=>oK (rd1 S7 W10) λW11=>oK (qDB .shr W11 (.int .u64 7)) λW12=>oK (qAB .xor W9 W12) λW13=>oK (qAo r0) λW14=>oK (wr1 S7 W14 W13) λS15=>oK (qAo r0) λW16=>oK (rd1 S15 W16) λW17=>oK (qAo r0) λW18=>oK (rd1 S15 W18) λW19=>oK (qDB .shl W19 (.int .u64 17)) λW20=>oK (qAB .xor W17 W20) λW21=>oK (qAo r0) λW22=>oK (wr1 S15 W22 W21) λS23=>oK (qAo r0) λW24=>oK (rd1 S23 W24) λW25=>K W25 S23
theorem qLd{X:Td}(hX:FrX X)(hn:X 179=none){r0:AV}{K:KvP}{s:Hq}(h:qJi X r0 K s):wC TP X 179 [r0] K s:=
 wOK hX nA0 hn Tryz.func179 h
def qOy(X:Td)(t12 t15:AV)(K:KvP)(s:Hq):Prop:=
 oK (qAT t12 t15 (.bool false)) λW11=>K W11 s
def zACc(X:Td)(p0:AV)(K:KvP)(s:Hq):Prop:=
 boxK 71 p0 (λB0 S1=>oK (rdN S1 2 B0) λW2=>wC TP X 201 [(.agg W2)] (λW3 S4=>oK (qAf W3 0) λW5=>oK (qAf W3 1) λW6=>newK 71 [(.int .u32 0),(.int .i64 0)] (λB7 S8=>oK (qBx S8 2 (.ptr B7 0) W5) λS9=>oK (negB false (eqV 0 true W6 (.int .i64 0))) λW10=>qAK W10
 (oK (rdN S9 2 (.ptr B7 0)) λW12=>oK (rdN S9 2 B0) λW13=>oK (negB false (qLS TP 71 (.agg W12) (.agg W13))) λW14=>qOy X W10 W14 K S9)
 (qOy X W10 .undef K S9)) S4) S1) s
theorem qUa{p0:AV}{K:KvP}{s:Hq}(h:zACc XX p0 K s):wC TP XX 187 [p0] K s:=wOK qBT nA0 rfl Tryz.func187 h
def qIP(X:Td)(p0 x1:AV)(K:KvP)(s:Hq):Prop:=
 boxK 71 p0 (λB0 S1=>oK (rdN S1 2 B0) λW2=>wC TP X 202 [(.agg W2)] (λW3 S4=>qAK W3
 (oK (qAC 0 B0) λW5=>oK (rd1 S4 W5) λW6=>oK (qAC 1 B0) λW7=>oK (rd1 S4 W7) λW8=>wC TP X 203 [W8] (λW9 S10=>(∀b,S4 b≠none->S4 b=none->S10 b=none)->
 oK (qAB .and W6 W9) λW11=>oK (qAC 1 B0) λW12=>oK (rd1 (cutH [(S4,(add S4 S10))] (add S4 S10)) W12) λW13=>wC TP X 203 [W13] (λW14 S15=>(∀b,(add S4 S10) b≠none->(add S4 S10) b=none->S15 b=none)->
 oK (qAB .and x1 W14) λW16=>oK (negB false (eqV 0 false W11 W16)) λW17=>oK (qAT W3 W17 (.bool false)) λW18=>K W18 (add (add S4 S10) S15)) (frz (add S4 S10))) (frz S4))
 (oK (qAT W3 .undef (.bool false)) λW19=>K W19 S4)) S1) s
theorem qGq{p0 x1:AV}{K:KvP}{s:Hq}(h:qIP XX p0 x1 K s):wC TP XX 188 [p0,x1] K s:=wOK qBT nA0 rfl Tryz.func188 h
def zADe(X:Td)(p0:AV)(K:KvP)(s:Hq):Prop:=
 boxK 71 p0 (λB0 S1=>oK (qAC 0 B0) λW2=>oK (rd1 S1 W2) λW3=>oK (qAC 1 B0) λW4=>oK (rd1 S1 W4) λW5=>oK (qAB .sub (.int .i64 32) W5) λW6=>oK (qDB .shl (.int .u32 1) W6) λW7=>oK (qAB .sub W7 (.int .u32 1)) λW8=>oK (qAB .add W3 W8) λW9=>K W9 S1) s
theorem qXx{p0:AV}{K:KvP}{s:Hq}(h:zADe XX p0 K s):wC TP XX 189 [p0] K s:=wOK qBT nA0 rfl Tryz.func189 h
def qMX(X:Td)(t9 t13:AV)(K:KvP)(s:Hq):Prop:=
 oK (qAT t9 (.bool true) t13) λW9=>K W9 s
def qXi(X:Td)(a0 b1:AV)(K:KvP)(s:Hq):Prop:=
 boxK 71 a0 (λB0 S1=>boxK 71 b1 (λB2 S3=>oK (rdN S3 2 B0) λW4=>oK (qAC 0 B2) λW5=>oK (rd1 S3 W5) λW6=>wC TP X 188 [(.agg W4),W6] (λW7 S8=>qAK W7
 (qMX X W7 .undef K S8)
 (oK (rdN S8 2 B2) λW10=>oK (qAC 0 B0) λW11=>oK (rd1 S8 W11) λW12=>wC TP X 188 [(.agg W10),W12] (λW13 S14=>qMX X W7 W13 K S14) S8)) S3) S1) s
theorem qRR{a0 b1:AV}{K:KvP}{s:Hq}(h:qXi XX a0 b1 K s):wC TP XX 190 [a0,b1] K s:=wOK qBT nA0 rfl Tryz.func190 h
def qKQ(X:Td)(l0 i3:AV)(I0:IvP)(m0:Nat)(K:KvP)(s:Hq):Prop:=
 oK (qAQ l0) λW0=>oK (qAB .lss i3 (.int .i64 W0)) λW2=>qAK W2
 (oK (qAM 1 l0 i3) λW3=>oK (rd1 s W3) λW4=>oK (qAB .sub i3 (.int .i64 1)) λW5=>oK (qAM 1 l0 W5) λW6=>oK (rd1 s W6) λW7=>oK (qAB .leq W4 W7) λW8=>qAK W8
 (K (.bool false) s)
 (oK (qAB .add i3 (.int .i64 1)) λW9=>∃m',m'<m0/\I0 [W9] s m'))
 (K (.bool true) s)
def qNd(X:Td)(l0:AV)(K:KvP)(s:Hq):Prop:=
 ∃I0:IvP,(∃m,I0 [(.int .i64 1)] s m)/\∀(f:Env) (s:Hq) (m0:Nat),I0 [f 3] s m0->
 qKQ X l0 (f 3) I0 m0 K s
def qNt:Nat->List Nat:=λk=>cond (Nat.beq k 4) [3] ([])
theorem qPv{l0:AV}{K:KvP}{s:Hq}(h:qNd XX l0 K s):wC TP XX 191 [l0] K s:=wOK qBT qNt rfl Tryz.func191 h
def qTR(X:Td)(l0 n1 i5:AV)(I0:IvP)(m0:Nat)(K:KvP)(s:Hq):Prop:=
 oK (qAQ l0) λW0=>oK (qAB .lss i5 (.int .i64 W0)) λW2=>qAK W2
 (oK (qAM 1 l0 i5) λW3=>oK (rd1 s W3) λW4=>oK (negB false (eqV 0 false W4 n1)) λW5=>qAK W5
 (K (.bool true) s)
 (oK (qAB .add i5 (.int .i64 1)) λW6=>∃m',m'<m0/\I0 [W6] s m'))
 (K (.bool false) s)
def zACj(X:Td)(l0 n1:AV)(K:KvP)(s:Hq):Prop:=
 ∃I0:IvP,(∃m,I0 [(.int .i64 0)] s m)/\∀(f:Env) (s:Hq) (m0:Nat),I0 [f 5] s m0->
 qTR X l0 n1 (f 5) I0 m0 K s
def qWo:Nat->List Nat:=λk=>cond (Nat.beq k 4) [5] ([])
theorem qY4{l0 n1:AV}{K:KvP}{s:Hq}(h:zACj XX l0 n1 K s):wC TP XX 102 [l0,n1] K s:=wOK qBT qWo rfl Tryz.func102 h
def qDg(X:Td)(t5 t9:AV)(K:KvP)(s:Hq):Prop:=
 oK (qAT t5 t9 (.bool false)) λW1=>K W1 s
def qEb(X:Td)(t0:AV)(K:KvP)(s:Hq):Prop:=
 oK (qAB .leq t0 (.int .u64 281474976710655)) λW0=>qAK W0
 (oK (qDB .shr t0 (.int .u64 40)) λW2=>oK (qAB .and W2 (.int .u64 1)) λW3=>oK (negB false (eqV 0 true W3 (.int .u64 1))) λW4=>qDg X W0 W4 K s)
 (qDg X W0 .undef K s)
theorem qGY{t0:AV}{K:KvP}{s:Hq}(h:qEb XX t0 K s):wC TP XX 192 [t0] K s:=wOK qBT nA0 rfl Tryz.func192 h
def qBQ(X:Td)(t0 t6 t8:AV)(K:KvP)(s:Hq):Prop:=
 oK (qAT t6 (.bool true) t8) λW1=>qAK W1
 (K (.tup [(.int .i64 0),(.bool false)]) s)
 (oK (qAB .sub t0 (.int .u64 2199023255552)) λW2=>oK (qD2 .i64 W2) λW3=>K (.tup [W3,(.bool true)]) s)
def qEC(X:Td)(t0:AV)(K:KvP)(s:Hq):Prop:=
 oK (qAB .lss t0 (.int .u64 2199023255552)) λW0=>qAK W0
 (qBQ X t0 W0 .undef K s)
 (oK (qAB .geq t0 (.int .u64 2199023255584)) λW4=>qBQ X t0 W0 W4 K s)
theorem qGA{t0:AV}{K:KvP}{s:Hq}(h:qEC XX t0 K s):wC TP XX 193 [t0] K s:=wOK qBT nA0 rfl Tryz.func193 h
def qB8(X:Td)(i4 t24 t31:AV)(I0:IvP)(m0:Nat)(K:KvP)(s:Hq):Prop:=
 oK (qAT t24 t31 (.bool false)) λW20=>qAK W20
 (oK (qAB .add i4 (.int .i64 1)) λW21=>K W21 s)
 (oK (qAB .add i4 (.int .i64 1)) λW22=>∃m',m'<m0/\I0 [W22] s m')
def qE1(X:Td)(c1 x3 i4:AV)(I0:IvP)(m0:Nat)(K:KvP)(s:Hq):Prop:=
 oK (qAB .lss i4 (.int .i64 7)) λW13=>qAK W13
 (oK (qEB 8 1 c1 (.int .i64 0)) λW14=>oK (rd1 s W14) λW15=>oK (qEB 7 2 x3 i4) λW16=>oK (qEB 2 1 W16 (.int .i64 0)) λW17=>oK (rd1 s W17) λW18=>oK (negB false (eqV 0 false W15 W18)) λW19=>qAK W19
 (oK (qEB 8 1 c1 (.int .i64 1)) λW23=>oK (rd1 s W23) λW24=>oK (qEB 7 2 x3 i4) λW25=>oK (qEB 2 1 W25 (.int .i64 1)) λW26=>oK (rd1 s W26) λW27=>oK (negB false (eqV 0 false W24 W27)) λW28=>qB8 X i4 W19 W28 I0 m0 K s)
 (qB8 X i4 W19 .undef I0 m0 K s))
 (K (.int .i64 0) s)
def qJ5(X:Td)(c0:AV)(K:KvP)(s:Hq):Prop:=
 boxK 129 c0 (λB0 S1=>oK (qCJ [(.int .u8 0),(.int .u8 0)] [(0,1,(.int .u8 0)),(1,1,(.int .u8 2))]) λC2=>oK (qCJ [(.int .u8 0),(.int .u8 0)] [(0,1,(.int .u8 3)),(1,1,(.int .u8 12))]) λC3=>oK (qCJ [(.int .u8 0),(.int .u8 0)] [(0,1,(.int .u8 6)),(1,1,(.int .u8 0))]) λC4=>oK (qCJ [(.int .u8 0),(.int .u8 0)] [(0,1,(.int .u8 6)),(1,1,(.int .u8 1))]) λC5=>oK (qCJ [(.int .u8 0),(.int .u8 0)] [(0,1,(.int .u8 6)),(1,1,(.int .u8 2))]) λC6=>oK (qCJ [(.int .u8 0),(.int .u8 0)] [(0,1,(.int .u8 6)),(1,1,(.int .u8 3))]) λC7=>oK (qCJ [(.int .u8 0),(.int .u8 0)] [(0,1,(.int .u8 6)),(1,1,(.int .u8 6))]) λC8=>oK (qCJ [(.int .u8 0),(.int .u8 0),(.int .u8 0),(.int .u8 0),(.int .u8 0),(.int .u8 0),(.int .u8 0),(.int .u8 0),(.int .u8 0),(.int .u8 0),(.int .u8 0),(.int .u8 0),(.int .u8 0),(.int .u8 0)] [(0,2,(.agg C2)),(2,2,(.agg C3)),(4,2,(.agg C4)),(6,2,(.agg C5)),(8,2,(.agg C6)),(10,2,(.agg C7)),(12,2,(.agg C8))]) λC9=>newK 227 [(.int .u8 0),(.int .u8 0),(.int .u8 0),(.int .u8 0),(.int .u8 0),(.int .u8 0),(.int .u8 0),(.int .u8 0),(.int .u8 0),(.int .u8 0),(.int .u8 0),(.int .u8 0),(.int .u8 0),(.int .u8 0)] (λB10 S11=>oK (qBx S11 14 (.ptr B10 0) (.agg C9)) λS12=>∃I0:IvP,(∃m,I0 [(.int .i64 0)] S12 m)/\∀(f:Env) (s:Hq) (m0:Nat),I0 [f 4] s m0->
 qE1 X B0 (.ptr B10 0) (f 4) I0 m0 K s) S1) s
def qIN:Nat->List Nat:=λk=>cond (Nat.beq k 6) [4] ([])
theorem qIu{c0:AV}{K:KvP}{s:Hq}(h:qJ5 XX c0 K s):wC TP XX 104 [c0] K s:=wOK qBT qIN rfl Tryz.func104 h
def qEW(X:Td)(c1 n3 i4:AV)(I0:IvP)(m0:Nat)(K:KvP)(s:Hq):Prop:=
 oK (qAB .lss i4 (.int .i64 8)) λW2=>qAK W2
 (oK (qDB .shl n3 (.int .u64 8)) λW3=>oK (qEB 8 1 c1 i4) λW4=>oK (rd1 s W4) λW5=>oK (qD2 .u64 W5) λW6=>oK (qAB .add W3 W6) λW7=>oK (qAB .add i4 (.int .i64 1)) λW8=>∃m',m'<m0/\I0 [W7,W8] s m')
 (K n3 s)
def qJH(X:Td)(c0:AV)(K:KvP)(s:Hq):Prop:=
 boxK 129 c0 (λB0 S1=>∃I0:IvP,(∃m,I0 [(.int .u64 0),(.int .i64 2)] S1 m)/\∀(f:Env) (s:Hq) (m0:Nat),I0 [f 3,f 4] s m0->
 qEW X B0 (f 3) (f 4) I0 m0 K s) s
def qHM:Nat->List Nat:=λk=>cond (Nat.beq k 6) [3,4] ([])
theorem qHg{c0:AV}{K:KvP}{s:Hq}(h:qJH XX c0 K s):wC TP XX 103 [c0] K s:=wOK qBT qHM rfl Tryz.func103 h
def qJv(X:Td)(p0:AV)(K:KvP)(s:Hq):Prop:=
 boxK 71 p0 (λB0 S1=>newK 71 [(.int .u32 0),(.int .i64 0)] (λB2 S3=>oK (rdN S3 2 B0) λW4=>wC TP X 202 [(.agg W4)] (λW5 S6=>oK (qAj .not W5) λW7=>qAK W7
 (oK (qCJ [(.int .u32 0),(.int .i64 0)] []) λC8=>oK (qBx S6 2 (.ptr B2 0) (.agg C8)) λS9=>oK (rdN S9 2 (.ptr B2 0)) λt2_10=>K (.tup [(.agg t2_10),(.int .i64 2)]) S9)
 (oK (qAC 0 B0) λW11=>oK (rd1 S6 W11) λW12=>oK (qAC 1 B0) λW13=>oK (rd1 S6 W13) λW14=>wC TP X 203 [W14] (λW15 S16=>(∀b,S6 b≠none->S6 b=none->S16 b=none)->
 oK (qAB .and W12 W15) λW17=>oK (qAC 1 B0) λW18=>oK (rd1 (cutH [(S6,(add S6 S16))] (add S6 S16)) W18) λW19=>oK (qCJ [(.int .u32 0),(.int .i64 0)] [(0,1,W17),(1,1,W19)]) λC20=>oK (qBx (add S6 S16) 2 (.ptr B2 0) (.agg C20)) λS21=>oK (rdN S21 2 (.ptr B2 0)) λt2_22=>K (.tup [(.agg t2_22),(.int .i64 0)]) S21) (frz S6))) S3) S1) s
theorem qII{p0:AV}{K:KvP}{s:Hq}(h:qJv XX p0 K s):wC TP XX 201 [p0] K s:=wOK qBT nA0 rfl Tryz.func201 h
def qEh(X:Td)(t6 t9:AV)(K:KvP)(s:Hq):Prop:=
 oK (qAT t6 t9 (.bool false)) λW5=>K W5 s
def qJn(X:Td)(p0:AV)(K:KvP)(s:Hq):Prop:=
 boxK 71 p0 (λB0 S1=>oK (qAC 1 B0) λW2=>oK (rd1 S1 W2) λW3=>oK (qAB .geq W3 (.int .i64 0)) λW4=>qAK W4
 (oK (qAC 1 B0) λW6=>oK (rd1 S1 W6) λW7=>oK (qAB .leq W7 (.int .i64 32)) λW8=>qEh X W4 W8 K S1)
 (qEh X W4 .undef K S1)) s
theorem qIS{p0:AV}{K:KvP}{s:Hq}(h:qJn XX p0 K s):wC TP XX 202 [p0] K s:=wOK qBT nA0 rfl Tryz.func202 h
def qGC(X:Td)(n0:AV)(K:KvP)(s:Hq):Prop:=
 oK (qAB .sub (.int .i64 32) n0) λW0=>oK (qDB .shl (.int .u32 1) W0) λW1=>oK (qAB .sub W1 (.int .u32 1)) λW2=>oK (qAj .xor W2) λW3=>K W3 s
theorem qIk{n0:AV}{K:KvP}{s:Hq}(h:qGC XX n0 K s):wC TP XX 203 [n0] K s:=wOK qBT nA0 rfl Tryz.func203 h
end Go.AM
namespace Go.AM
open Go Go.Proofs
set_option maxRecDepth 100000
def qJu(X:Td)(t0:AV)(K:KvP)(s:Hq):Prop:=
 boxK 31 t0 (λB0 S1=>oK (rdN S1 19 B0) λW2=>wC TP X 71 [(.agg W2)] (λW3 S4=>oK (qAf W3 0) λW5=>oK (qAf W3 1) λW6=>oK (qAf W3 2) λW7=>oK (negB false (eqV 0 true W5 (.int .i64 0))) λW8=>K W8 S4) S1) s
theorem qID{t0:AV}{K:KvP}{s:Hq}(h:qJu XX t0 K s):wC TP XX 37 [t0] K s:=wOK qBT nA0 rfl Tryz.func37 h
def qA1(X:Td)(x1 x2 t3 t9 t11:AV)(K:KvP)(s:Hq):Prop:=
 oK (qAT t9 (.bool true) t11) λW5=>qAK W5
 (wC TP X 10 [] (λW6 S7=>K W6 S7) s)
 (oK (rdN s 19 t3) λW8=>wC TP X 12 [(.agg W8),x1,x2] (λW9 S10=>(∀b,s b≠none->s b=none->S10 b=none)->
 oK (rdN (cutH [(s,(add s S10))] (add s S10)) 19 t3) λW11=>wC TP X 13 [(.agg W11),x1,x2] (λW12 S13=>wC TP X 11 [W9,W12] (λW14 S15=>qAK W14
 (wC TP X 10 [] (λW16 S17=>oK (qAT W14 W16 (.bool false)) λW18=>K W18 S17) S15)
 (oK (qAT W14 .undef (.bool false)) λW19=>K W19 S15)) S13) (add s S10)) (frz s))
def qHN(X:Td)(t0 x1 x2:AV)(K:KvP)(s:Hq):Prop:=
 boxK 31 t0 (λB0 S1=>oK (rdN S1 19 B0) λW2=>wC TP X 8 [(.agg W2)] (λW3 S4=>qAK W3
 (qA1 X x1 x2 B0 W3 .undef K S4)
 (wC TP X 9 [x2] (λW20 S21=>qA1 X x1 x2 B0 W3 W20 K S21) S4)) S1) s
theorem qGG{t0 x1 x2:AV}{K:KvP}{s:Hq}(h:qHN XX t0 x1 x2 K s):wC TP XX 3 [t0,x1,x2] K s:=wOK qBT nA0 rfl Tryz.func3 h
def qEM(X:Td)(t47:AV)(I2:IvP)(m2:Nat)(K:KvP)(s:Hq):Prop:=
 oK (qAB .add t47 (.int .i64 1)) λW27=>∃m',m'<m2/\I2 [W27] s m'
def qIW(X:Td)(t3 x10 t47 t56 t57 t58:AV)(I4:IvP)(m4:Nat)(I2:IvP)(m2:Nat)(K:KvP)(s:Hq):Prop:=
 oK (qAB .lss t58 t57) λW32=>qAK W32
 (oK (qAM 1 t56 t58) λW33=>oK (rd1 s W33) λW34=>oK (qAC 4 t3) λW35=>oK (rd1 s W35) λW36=>oK (qAM 6 W36 W34) λW37=>oK (qAC 2 W37) λW38=>oK (rd1 s W38) λW39=>mapK (λW40 S41=>oK (qCJ [.nilmap,(.bool false)] [(0,1,W40)]) λC42=>boxK 103 (.agg C42) (λB43 S44=>oK (putM S44 x10 W39 B43) λS45=>oK (qAB .add t58 (.int .i64 1)) λW46=>∃m',m'<m4/\I4 [W46] S45 m') S41) s)
 (qEM X t47 I2 m2 K s)
def qDC(X:Td)(t76:AV)(I5:IvP)(m5:Nat)(K:KvP)(s:Hq):Prop:=
 oK (qAB .add t76 (.int .i64 1)) λW50=>∃m',m'<m5/\I5 [W50] s m'
def qCP(X:Td)(t90:AV)(I7:IvP)(m7:Nat)(I5:IvP)(m5:Nat)(K:KvP)(s:Hq):Prop:=
 oK (qAB .add t90 (.int .i64 1)) λW73=>∃m',m'<m7/\I7 [W73] s m'
def qEJ(X:Td)(t90 t106 t111 t116:AV)(I7:IvP)(m7:Nat)(I5:IvP)(m5:Nat)(K:KvP)(s:Hq):Prop:=
 oK (qAT t111 (.bool true) t116) λW84=>oK (qAo t106) λW85=>oK (qAC 1 W85) λW86=>oK (wr1 s W86 W84) λS87=>qCP X t90 I7 m7 I5 m5 K S87
def qFw(X:Td)(x10 r16 t76 t88 t89 t90:AV)(I7:IvP)(m7:Nat)(I5:IvP)(m5:Nat)(K:KvP)(s:Hq):Prop:=
 oK (qAB .lss t90 t89) λW68=>qAK W68
 (oK (qAM 1 t88 t90) λW69=>oK (rd1 s W69) λW70=>oK (getM s x10 W70) λr_71=>oK (negB true (eqV 3 true (retM .nilptr false r_71) .nilptr)) λW72=>qAK W72
 (oK (qAo (retM .nilptr false r_71)) λW74=>oK (qAC 0 W74) λW75=>oK (rd1 s W75) λW76=>oK (qAC 21 r16) λW77=>oK (qAC 2 W77) λW78=>oK (rd1 s W78) λW79=>oK (putM s W76 W79 (.bool true)) λS80=>oK (qAo (retM .nilptr false r_71)) λW81=>oK (qAC 1 W81) λW82=>oK (rd1 S80 W82) λW83=>qAK W83
 (qEJ X t90 (retM .nilptr false r_71) W83 .undef I7 m7 I5 m5 K S80)
 (oK (qAC 21 r16) λW88=>oK (qAC 11 W88) λW89=>oK (qAC 0 W89) λW90=>oK (rd1 S80 W90) λW91=>oK (negB false (eqV 0 true W91 (.int .i64 3))) λW92=>qEJ X t90 (retM .nilptr false r_71) W83 W92 I7 m7 I5 m5 K S80))
 (qCP X t90 I7 m7 I5 m5 K s))
 (qDC X t76 I5 m5 K s)
def qDt(X:Td)(l20 t125:AV)(I10:IvP)(m10:Nat)(K:KvP)(s:Hq):Prop:=
 oK (qAB .add t125 (.int .i64 1)) λW98=>∃m',m'<m10/\I10 [l20,W98] s m'
def qD1(X:Td)(l20 x24 t125:AV)(I10:IvP)(m10:Nat)(K:KvP)(s:Hq):Prop:=
 oK (rdN s 3 x24) λW122=>oK (qCJ (repl 1 [(.int .i64 0),.nilslc,(.int .u32 0)]) [(0,3,(.agg W122))]) λC123=>qAg C123=true/\newK 44 C123 (λB124 S125=>appK 44 3 l20 (.slc B124 0 1 (some 1) 3) (λW126 S127=>qDt X W126 t125 I10 m10 K S127) S125) s
def qD0(X:Td)(l20 i21 x24 t125 t146 t150:AV)(I10:IvP)(m10:Nat)(K:KvP)(s:Hq):Prop:=
 oK (qAT t146 t150 (.bool false)) λW121=>qAK W121
 (oK (qD2 .u32 i21) λW128=>oK (qAB .add (.int .u32 4009754625) W128) λW129=>oK (qAC 2 x24) λW130=>oK (wr1 s W130 W129) λS131=>qD1 X l20 x24 t125 I10 m10 K S131)
 (qD1 X l20 x24 t125 I10 m10 K s)
def qFU(X:Td)(t3 x10 l20 t123 t124 t125:AV)(I10:IvP)(m10:Nat)(K:KvP)(s:Hq):Prop:=
 oK (qAB .lss t125 t124) λW97=>qAK W97
 (oK (qAM 6 t123 t125) λW99=>oK (rdN s 6 W99) λW100=>newK 87 [(.int .i64 0),(.int .u32 0),(.int .u32 0),(.int .u32 0),(.int .i64 0),(.int .u32 0)] (λB101 S102=>oK (qBx S102 6 (.ptr B101 0) (.agg W100)) λS103=>oK (qAC 2 (.ptr B101 0)) λW104=>oK (rd1 S103 W104) λW105=>oK (getM S103 x10 W105) λr_106=>oK (negB false (eqV 3 true (retM .nilptr false r_106) .nilptr)) λW107=>qAK W107
 (qDt X l20 t125 I10 m10 K S103)
 (oK (qAo (retM .nilptr false r_106)) λW108=>oK (qAC 0 W108) λW109=>oK (rd1 S103 W109) λW110=>wC TP X 36 [W110] (λW111 S112=>wC TP X 35 [W111] (λW113 S114=>oK (qCJ [(.int .i64 0),.nilslc,(.int .u32 0)] [(0,1,t125),(1,1,W113)]) λC115=>newK 44 [(.int .i64 0),.nilslc,(.int .u32 0)] (λB116 S117=>oK (qBx S117 3 (.ptr B116 0) (.agg C115)) λS118=>oK (qAC 12 t3) λW119=>oK (rd1 S118 W119) λW120=>qAK W120
 (oK (qAo (retM .nilptr false r_106)) λW132=>oK (qAC 1 W132) λW133=>oK (rd1 S118 W133) λW134=>qD0 X l20 t125 (.ptr B116 0) t125 W120 W134 I10 m10 K S118)
 (qD0 X l20 t125 (.ptr B116 0) t125 W120 .undef I10 m10 K S118)) S114) S112) S103)) s)
 (K l20 s)
def qFx(X:Td)(x1 t3 x10 t74 t75 t76:AV)(I5:IvP)(m5:Nat)(K:KvP)(s:Hq):Prop:=
 oK (qAB .lss t76 t75) λW49=>qAK W49
 (oK (qAM 38 t74 t76) λW51=>oK (rdN s 38 W51) λW52=>newK 81 zR0 (λB53 S54=>oK (qBx S54 38 (.ptr B53 0) (.agg W52)) λS55=>oK (rdN S55 19 t3) λW56=>oK (rdN S55 38 (.ptr B53 0)) λW57=>wC TP X 33 [(.agg W56),x1,(.agg W57)] (λW58 S59=>oK (qAj .not W58) λW60=>qAK W60
 (qDC X t76 I5 m5 K S59)
 (oK (qAC 21 (.ptr B53 0)) λW61=>oK (qAC 10 W61) λW62=>oK (rd1 S59 W62) λW63=>wC TP X 34 [W63] (λW64 S65=>oK (qAQ W64) λW66=>∃I7:IvP,(∃m,I7 [(.int .i64 0)] S65 m)/\∀(f:Env) (s:Hq) (m7:Nat),I7 [f 90] s m7->
 qFw X x10 (.ptr B53 0) t76 W64 (.int .i64 W66) (f 90) I7 m7 I5 m5 K s) S59)) S55) s)
 (oK (qAC 4 t3) λW93=>oK (rd1 s W93) λW94=>oK (qAQ W94) λW95=>∃I10:IvP,(∃m,I10 [.nilslc,(.int .i64 0)] s m)/\∀(f:Env) (s:Hq) (m10:Nat),I10 [f 20,f 125] s m10->
 qFU X t3 x10 (f 20) W94 (.int .i64 W95) (f 125) I10 m10 K s)
def qFo(X:Td)(x1 x2 t3 x10 t45 t46 t47:AV)(I2:IvP)(m2:Nat)(K:KvP)(s:Hq):Prop:=
 oK (qAB .lss t47 t46) λW17=>qAK W17
 (oK (qAM 2 t45 t47) λW18=>oK (rdN s 2 W18) λW19=>newK 94 [.nilslc,.nilslc] (λB20 S21=>oK (qBx S21 2 (.ptr B20 0) (.agg W19)) λS22=>oK (qAC 0 (.ptr B20 0)) λW23=>oK (rd1 S22 W23) λW24=>wC TP X 32 [W24,x1] (λW25 S26=>qAK W25
 (oK (qAC 1 (.ptr B20 0)) λW28=>oK (rd1 S26 W28) λW29=>oK (qAQ W29) λW30=>∃I4:IvP,(∃m,I4 [(.int .i64 0)] S26 m)/\∀(f:Env) (s:Hq) (m4:Nat),I4 [f 58] s m4->
 qIW X t3 x10 t47 W29 (.int .i64 W30) (f 58) I4 m4 I2 m2 K s)
 (qEM X t47 I2 m2 K S26)) S22) s)
 (oK (qAQ x2) λW47=>∃I5:IvP,(∃m,I5 [(.int .i64 0)] s m)/\∀(f:Env) (s:Hq) (m5:Nat),I5 [f 76] s m5->
 qFx X x1 t3 x10 x2 (.int .i64 W47) (f 76) I5 m5 K s)
def qCO(X:Td)(x1 x2 t3 t37 t41:AV)(K:KvP)(s:Hq):Prop:=
 oK (qAT t37 (.bool true) t41) λW10=>qAK W10
 (K .nilslc s)
 (mapK (λW11 S12=>oK (qAC 5 t3) λW13=>oK (rd1 S12 W13) λW14=>oK (qAQ W14) λW15=>∃I2:IvP,(∃m,I2 [(.int .i64 0)] S12 m)/\∀(f:Env) (s:Hq) (m2:Nat),I2 [f 47] s m2->
 qFo X x1 x2 t3 W11 W14 (.int .i64 W15) (f 47) I2 m2 K s) s)
def qDA(X:Td)(x1 x2 t3 t33 t35:AV)(K:KvP)(s:Hq):Prop:=
 oK (qAT t33 (.bool true) t35) λW9=>qAK W9
 (qCO X x1 x2 t3 W9 .undef K s)
 (oK (qAC 0 t3) λW135=>oK (rd1 s W135) λW136=>oK (qAB .geq x1 W136) λW137=>qCO X x1 x2 t3 W9 W137 K s)
def qPx(X:Td)(t0 x1 x2:AV)(K:KvP)(s:Hq):Prop:=
 boxK 31 t0 (λB0 S1=>oK (rdN S1 19 B0) λW2=>wC TP X 31 [(.agg W2)] (λW3 S4=>oK (qAf W3 0) λW5=>oK (qAf W3 1) λW6=>oK (qAf W3 2) λW7=>oK (negB true (eqV 0 true W5 (.int .i64 0))) λW8=>qAK W8
 (qDA X x1 x2 B0 W8 .undef K S4)
 (oK (qAB .lss x1 (.int .i64 0)) λW138=>qDA X x1 x2 B0 W8 W138 K S4)) S1) s
def qLz:Nat->List Nat:=λk=>cond (Nat.beq k 12) [47] (cond (Nat.beq k 20) [58] (cond (Nat.beq k 32) [76] (cond (Nat.beq k 40) [90] (cond (Nat.beq k 60) [20,125] ([])))))
theorem qM0{t0 x1 x2:AV}{K:KvP}{s:Hq}(h:qPx XX t0 x1 x2 K s):wC TP XX 12 [t0,x1,x2] K s:=wOK qBT qLz rfl Tryz.func12 h
end Go.AM
namespace Go.AM
open Go Go.Proofs
set_option maxRecDepth 100000
def qH8(X:Td)(t41 t44:AV)(K:KvP)(s:Hq):Prop:=
 oK (qAT t41 t44 (.bool false)) λW17=>K W17 s
def qHl(X:Td)(x1 n7 t35 t39:AV)(K:KvP)(s:Hq):Prop:=
 oK (qAT t35 t39 (.bool false)) λW16=>qAK W16
 (oK (negB true (eqV 0 false n7 x1)) λW18=>qH8 X W16 W18 K s)
 (qH8 X W16 .undef K s)
def qCm(X:Td)(t41 t44:AV)(K:KvP)(s:Hq):Prop:=
 oK (qAT t41 t44 (.bool false)) λW37=>K W37 s
def qDv(X:Td)(x1 n7 t35 t39:AV)(K:KvP)(s:Hq):Prop:=
 oK (qAT t35 t39 (.bool false)) λW36=>qAK W36
 (oK (negB true (eqV 0 false n7 x1)) λW38=>qCm X W36 W38 K s)
 (qCm X W36 .undef K s)
def qCp(X:Td)(x1 t3 r5 t13 t19 t24:AV)(K:KvP)(s:Hq):Prop:=
 oK (qAT t19 t24 (.bool false)) λW27=>oK (qAT t13 (.bool true) W27) λW28=>qAK W28
 (K (.bool false) s)
 (oK (qAC 21 r5) λW29=>oK (qAC 2 W29) λW30=>oK (rd1 s W30) λW31=>wC TP X 30 [W31] (λW32 S33=>oK (qAf W32 0) λW34=>oK (qAf W32 1) λW35=>qAK W35
 (oK (qAC 0 t3) λW39=>oK (rd1 S33 W39) λW40=>oK (qAB .lss W34 W40) λW41=>qDv X x1 W34 W35 W41 K S33)
 (qDv X x1 W34 W35 .undef K S33)) s)
def qPJ(X:Td)(t0 x1 r2:AV)(K:KvP)(s:Hq):Prop:=
 boxK 31 t0 (λB0 S1=>boxK 81 r2 (λB2 S3=>oK (qAC 0 B2) λW4=>oK (qAC 0 W4) λW5=>oK (rd1 S3 W5) λW6=>oK (negB true (eqV 0 true W6 (.int .i64 3))) λW7=>qAK W7
 (oK (qAT W7 (.bool true) .undef) λW8=>qAK W8
 (K (.bool false) S3)
 (oK (qAC 21 B2) λW9=>oK (qAC 2 W9) λW10=>oK (rd1 S3 W10) λW11=>wC TP X 30 [W11] (λW12 S13=>oK (qAf W12 0) λW14=>oK (qAf W12 1) λW15=>qAK W15
 (oK (qAC 0 B0) λW19=>oK (rd1 S13 W19) λW20=>oK (qAB .lss W14 W20) λW21=>qHl X x1 W14 W15 W21 K S13)
 (qHl X x1 W14 W15 .undef K S13)) S3))
 (oK (qAC 21 B2) λW22=>oK (qAC 11 W22) λW23=>oK (qAC 0 W23) λW24=>oK (rd1 S3 W24) λW25=>oK (negB true (eqV 0 true W25 (.int .i64 6))) λW26=>qAK W26
 (oK (qAC 21 B2) λW42=>oK (qAC 11 W42) λW43=>oK (qAC 0 W43) λW44=>oK (rd1 S3 W44) λW45=>oK (negB true (eqV 0 true W45 (.int .i64 3))) λW46=>qCp X x1 B0 B2 W7 W26 W46 K S3)
 (qCp X x1 B0 B2 W7 W26 .undef K S3))) S1) s
theorem qL5{t0 x1 r2:AV}{K:KvP}{s:Hq}(h:qPJ XX t0 x1 r2 K s):wC TP XX 33 [t0,x1,r2] K s:=wOK qBT nA0 rfl Tryz.func33 h
def qCj(X:Td)(x3 t8:AV)(I0:IvP)(m0:Nat)(K:KvP)(s:Hq):Prop:=
 oK (qAB .add t8 (.int .i64 1)) λW13=>∃m',m'<m0/\I0 [x3,W13] s m'
def qDr(X:Td)(x3 c5 t8 t15 t18:AV)(I0:IvP)(m0:Nat)(K:KvP)(s:Hq):Prop:=
 oK (qAT t15 t18 (.bool false)) λW12=>qAK W12
 (oK (rdN s 8 c5) λW14=>wC TP X 65 [(.agg W14),(.int .i64 4),(.int .i64 4)] (λW15 S16=>oK (qD2 .u32 W15) λW17=>oK (qCJ (repl 1 [(.int .u32 0)]) [(0,1,W17)]) λC18=>qAg C18=true/\newK 41 C18 (λB19 S20=>appK 41 1 x3 (.slc B19 0 1 (some 1) 1) (λW21 S22=>qCj X W21 t8 I0 m0 K S22) S20) S16) s)
 (qCj X x3 t8 I0 m0 K s)
def qHk(X:Td)(x3 t6 t7 t8:AV)(I0:IvP)(m0:Nat)(K:KvP)(s:Hq):Prop:=
 oK (qAB .lss t8 t7) λW2=>qAK W2
 (oK (qAM 8 t6 t8) λW3=>oK (rdN s 8 W3) λW4=>newK 129 [(.int .u8 0),(.int .u8 0),(.int .u8 0),(.int .u8 0),(.int .u8 0),(.int .u8 0),(.int .u8 0),(.int .u8 0)] (λB5 S6=>oK (qBx S6 8 (.ptr B5 0) (.agg W4)) λS7=>oK (rdN S7 8 (.ptr B5 0)) λW8=>wC TP X 64 [(.agg W8)] (λW9 S10=>oK (negB false (eqV 0 true W9 (.int .i64 1))) λW11=>qAK W11
 (oK (rdN S10 8 (.ptr B5 0)) λW23=>wC TP X 65 [(.agg W23),(.int .i64 2),(.int .i64 2)] (λW24 S25=>oK (negB false (eqV 0 true W24 (.int .u64 65000))) λW26=>qDr X x3 (.ptr B5 0) t8 W11 W26 I0 m0 K S25) S10)
 (qDr X x3 (.ptr B5 0) t8 W11 .undef I0 m0 K S10)) S7) s)
 (wC TP X 66 [x3] (λW27 S28=>wC TP X 67 [x3] (λW29 S30=>K W29 S30) S28) s)
def qKX(X:Td)(l0:AV)(K:KvP)(s:Hq):Prop:=
 oK (qAQ l0) λW0=>∃I0:IvP,(∃m,I0 [.nilslc,(.int .i64 0)] s m)/\∀(f:Env) (s:Hq) (m0:Nat),I0 [f 3,f 8] s m0->
 qHk X (f 3) l0 (.int .i64 W0) (f 8) I0 m0 K s
def qLU:Nat->List Nat:=λk=>cond (Nat.beq k 6) [3,8] ([])
theorem qML{l0:AV}{K:KvP}{s:Hq}(h:qKX XX l0 K s):wC TP XX 34 [l0] K s:=wOK qBT qLU rfl Tryz.func34 h
def qBV(X:Td)(x7 x8:AV)(I0:IvP)(m0:Nat)(K:KvP)(s:Hq):Prop:=
 oK (qAB .add x8 (.int .i64 1)) λW6=>∃m',m'<m0/\I0 [x7,W6] s m'
def qBA(X:Td)(i10:AV)(I3:IvP)(m3:Nat)(I0:IvP)(m0:Nat)(K:KvP)(s:Hq):Prop:=
 oK (qAB .add i10 (.int .i64 1)) λW20=>∃m',m'<m3/\I3 [W20] s m'
def qB1(X:Td)(t3 x8 x9 i10 t57 t65:AV)(I3:IvP)(m3:Nat)(I0:IvP)(m0:Nat)(K:KvP)(s:Hq):Prop:=
 oK (qAT t57 t65 (.bool false)) λW39=>qAK W39
 (oK (rdN s 19 t3) λW40=>wC TP X 42 [(.agg W40),x8] (λW41 S42=>oK (qAC 2 x9) λW43=>oK (wr1 S42 W43 W41) λS44=>qBA X i10 I3 m3 I0 m0 K S44) s)
 (qBA X i10 I3 m3 I0 m0 K s)
def qCw(X:Td)(x1 x2 t3 x7 x8 x9 i10:AV)(I3:IvP)(m3:Nat)(I0:IvP)(m0:Nat)(K:KvP)(s:Hq):Prop:=
 oK (qAQ x2) λW17=>oK (qAB .lss i10 (.int .i64 W17)) λW19=>qAK W19
 (oK (rdN s 19 t3) λW21=>oK (qAM 38 x2 i10) λW22=>oK (rdN s 38 W22) λW23=>wC TP X 40 [(.agg W21),x1,x8,(.agg W23)] (λW24 S25=>oK (qAj .not W24) λW26=>qAK W26
 (qBA X i10 I3 m3 I0 m0 K S25)
 (oK (qAC 1 x9) λW27=>oK (rd1 S25 W27) λW28=>oK (qAM 38 x2 i10) λW29=>oK (qAC 21 W29) λW30=>oK (qAC 2 W30) λW31=>oK (rd1 S25 W31) λW32=>wC TP X 41 [W28,W32] (λW33 S34=>oK (qAC 1 x9) λW35=>oK (wr1 S34 W35 W33) λS36=>oK (qAC 12 t3) λW37=>oK (rd1 S36 W37) λW38=>qAK W38
 (oK (qAM 38 x2 i10) λW45=>oK (qAC 21 W45) λW46=>oK (qAC 11 W46) λW47=>oK (qAC 0 W47) λW48=>oK (rd1 S36 W48) λW49=>oK (negB false (eqV 0 true W49 (.int .i64 3))) λW50=>qB1 X t3 x8 x9 i10 W38 W50 I3 m3 I0 m0 K S36)
 (qB1 X t3 x8 x9 i10 W38 .undef I3 m3 I0 m0 K S36)) S25)) s)
 (oK (rdN s 3 x9) λW51=>oK (qCJ (repl 1 [(.int .i64 0),.nilslc,(.int .u32 0)]) [(0,3,(.agg W51))]) λC52=>qAg C52=true/\newK 44 C52 (λB53 S54=>appK 44 3 x7 (.slc B53 0 1 (some 1) 3) (λW55 S56=>qBV X W55 x8 I0 m0 K S56) S54) s)
def qB0(X:Td)(x1 x2 t3 x7 x8 t13 t18:AV)(I0:IvP)(m0:Nat)(K:KvP)(s:Hq):Prop:=
 oK (qAT t13 t18 (.bool false)) λW5=>qAK W5
 (oK (rdN s 19 t3) λW7=>wC TP X 39 [(.agg W7),x8] (λW8 S9=>wC TP X 38 [W8,x1] (λW10 S11=>oK (qAj .not W10) λW12=>qAK W12
 (qBV X x7 x8 I0 m0 K S11)
 (oK (qCJ [(.int .i64 0),.nilslc,(.int .u32 0)] [(0,1,x8)]) λC13=>newK 44 [(.int .i64 0),.nilslc,(.int .u32 0)] (λB14 S15=>oK (qBx S15 3 (.ptr B14 0) (.agg C13)) λS16=>∃I3:IvP,(∃m,I3 [(.int .i64 0)] S16 m)/\∀(f:Env) (s:Hq) (m3:Nat),I3 [f 10] s m3->
 qCw X x1 x2 t3 x7 x8 (.ptr B14 0) (f 10) I3 m3 I0 m0 K s) S11)) S9) s)
 (K x7 s)
def qEg(X:Td)(x1 x2 t3 x7 x8:AV)(I0:IvP)(m0:Nat)(K:KvP)(s:Hq):Prop:=
 oK (rdN s 19 t3) λW2=>wC TP X 37 [(.agg W2)] (λW3 S4=>qAK W3
 (oK (qAC 4 t3) λW57=>oK (rd1 S4 W57) λW58=>oK (qAQ W58) λW59=>oK (qAB .lss x8 (.int .i64 W59)) λW61=>qB0 X x1 x2 t3 x7 x8 W3 W61 I0 m0 K S4)
 (qB0 X x1 x2 t3 x7 x8 W3 .undef I0 m0 K S4)) s
def qJr(X:Td)(t0 x1 x2:AV)(K:KvP)(s:Hq):Prop:=
 boxK 31 t0 (λB0 S1=>∃I0:IvP,(∃m,I0 [.nilslc,(.int .i64 0)] S1 m)/\∀(f:Env) (s:Hq) (m0:Nat),I0 [f 7,f 8] s m0->
 qEg X x1 x2 B0 (f 7) (f 8) I0 m0 K s) s
def qHc:Nat->List Nat:=λk=>cond (Nat.beq k 6) [7,8] (cond (Nat.beq k 16) [10] ([]))
theorem qIF{t0 x1 x2:AV}{K:KvP}{s:Hq}(h:qJr XX t0 x1 x2 K s):wC TP XX 13 [t0,x1,x2] K s:=wOK qBT qHc rfl Tryz.func13 h
def qFP(X:Td)(l0 n1 i5:AV)(I0:IvP)(m0:Nat)(K:KvP)(s:Hq):Prop:=
 oK (qAQ l0) λW0=>oK (qAB .lss i5 (.int .i64 W0)) λW2=>qAK W2
 (oK (qAM 1 l0 i5) λW3=>oK (rd1 s W3) λW4=>oK (negB false (eqV 0 false W4 n1)) λW5=>qAK W5
 (K (.bool true) s)
 (oK (qAB .add i5 (.int .i64 1)) λW6=>∃m',m'<m0/\I0 [W6] s m'))
 (K (.bool false) s)
def qGl(X:Td)(l0 n1:AV)(K:KvP)(s:Hq):Prop:=
 ∃I0:IvP,(∃m,I0 [(.int .i64 0)] s m)/\∀(f:Env) (s:Hq) (m0:Nat),I0 [f 5] s m0->
 qFP X l0 n1 (f 5) I0 m0 K s
def qIi:Nat->List Nat:=λk=>cond (Nat.beq k 4) [5] ([])
theorem qJL{l0 n1:AV}{K:KvP}{s:Hq}(h:qGl XX l0 n1 K s):wC TP XX 38 [l0,n1] K s:=wOK qBT qIi rfl Tryz.func38 h
def qBd(X:Td)(i9 t30 t41:AV)(I1:IvP)(m1:Nat)(I0:IvP)(m0:Nat)(K:KvP)(s:Hq):Prop:=
 oK (qAT t30 (.bool true) t41) λW15=>oK (qAB .add i9 (.int .i64 1)) λW16=>∃m',m'<m1/\I1 [W15,W16] s m'
def qBc(X:Td)(x5 n6:AV)(I0:IvP)(m0:Nat)(K:KvP)(s:Hq):Prop:=
 oK (qAB .add n6 (.int .i64 1)) λW26=>∃m',m'<m0/\I0 [x5,W26] s m'
def qDy(X:Td)(x1 t2 x5 n6 l7 t8 i9:AV)(I1:IvP)(m1:Nat)(I0:IvP)(m0:Nat)(K:KvP)(s:Hq):Prop:=
 oK (qAQ l7) λW12=>oK (qAB .lss i9 (.int .i64 W12)) λW14=>qAK W14
 (qAK t8
 (qBd X i9 t8 .undef I1 m1 I0 m0 K s)
 (oK (qAC 5 t2) λW17=>oK (rd1 s W17) λW18=>oK (qAM 1 l7 i9) λW19=>oK (rd1 s W19) λW20=>oK (qAM 2 W18 W20) λW21=>oK (qAC 1 W21) λW22=>oK (rd1 s W22) λW23=>wC TP X 38 [W23,x1] (λW24 S25=>qBd X i9 t8 W24 I1 m1 I0 m0 K S25) s))
 (qAK t8
 (oK (qCJ (repl 1 [(.int .i64 0)]) [(0,1,n6)]) λC27=>qAg C27=true/\newK 3 C27 (λB28 S29=>appK 3 1 x5 (.slc B28 0 1 (some 1) 1) (λW30 S31=>qBc X W30 n6 I0 m0 K S31) S29) s)
 (qBc X x5 n6 I0 m0 K s))
def qDs(X:Td)(x1 t2 x5 n6:AV)(I0:IvP)(m0:Nat)(K:KvP)(s:Hq):Prop:=
 oK (qAC 0 t2) λW6=>oK (rd1 s W6) λW7=>oK (qAB .lss n6 W7) λW8=>qAK W8
 (oK (rdN s 19 t2) λW9=>wC TP X 72 [(.agg W9),n6] (λW10 S11=>∃I1:IvP,(∃m,I1 [(.bool false),(.int .i64 0)] S11 m)/\∀(f:Env) (s:Hq) (m1:Nat),I1 [f 8,f 9] s m1->
 qDy X x1 t2 x5 n6 W10 (f 8) (f 9) I1 m1 I0 m0 K s) s)
 (K x5 s)
def qIL(X:Td)(t0 x1:AV)(K:KvP)(s:Hq):Prop:=
 boxK 31 t0 (λB0 S1=>oK (rdN S1 19 B0) λW2=>wC TP X 37 [(.agg W2)] (λW3 S4=>oK (qAj .not W3) λW5=>qAK W5
 (K .nilslc S4)
 (∃I0:IvP,(∃m,I0 [.nilslc,(.int .i64 0)] S4 m)/\∀(f:Env) (s:Hq) (m0:Nat),I0 [f 5,f 6] s m0->
 qDs X x1 B0 (f 5) (f 6) I0 m0 K s)) S1) s
def qGT:Nat->List Nat:=λk=>cond (Nat.beq k 10) [5,6] (cond (Nat.beq k 20) [8,9] ([]))
theorem qGp{t0 x1:AV}{K:KvP}{s:Hq}(h:qIL XX t0 x1 K s):wC TP XX 39 [t0,x1] K s:=wOK qBT qGT rfl Tryz.func39 h
def qHi(X:Td)(x2 t4 l11 i12:AV)(I2:IvP)(m2:Nat)(K:KvP)(s:Hq):Prop:=
 oK (qAQ l11) λW24=>oK (qAB .lss i12 (.int .i64 W24)) λW26=>qAK W26
 (oK (qAM 1 l11 i12) λW27=>oK (rd1 s W27) λW28=>oK (qAC 4 t4) λW29=>oK (rd1 s W29) λW30=>oK (qAM 6 W30 x2) λW31=>oK (qAC 2 W31) λW32=>oK (rd1 s W32) λW33=>oK (negB false (eqV 0 false W28 W33)) λW34=>qAK W34
 (K (.bool true) s)
 (oK (qAB .add i12 (.int .i64 1)) λW35=>∃m',m'<m2/\I2 [W35] s m'))
 (K (.bool false) s)
def qEV(X:Td)(x2 t4 r7 t46 t49:AV)(K:KvP)(s:Hq):Prop:=
 oK (qAT t46 (.bool true) t49) λW18=>qAK W18
 (K (.bool false) s)
 (oK (qAC 21 r7) λW19=>oK (qAC 10 W19) λW20=>oK (rd1 s W20) λW21=>wC TP X 74 [W21] (λW22 S23=>∃I2:IvP,(∃m,I2 [(.int .i64 0)] S23 m)/\∀(f:Env) (s:Hq) (m2:Nat),I2 [f 12] s m2->
 qHi X x2 t4 W22 (f 12) I2 m2 K s) s)
def qES(X:Td)(x1 x2 t4 r7 n9 t40 t44:AV)(K:KvP)(s:Hq):Prop:=
 oK (qAT t40 (.bool true) t44) λW17=>qAK W17
 (qEV X x2 t4 r7 W17 .undef K s)
 (oK (negB false (eqV 0 false n9 x1)) λW36=>qEV X x2 t4 r7 W17 W36 K s)
def qEZ(X:Td)(x2 t4 l11 i12:AV)(I6:IvP)(m6:Nat)(K:KvP)(s:Hq):Prop:=
 oK (qAQ l11) λW62=>oK (qAB .lss i12 (.int .i64 W62)) λW64=>qAK W64
 (oK (qAM 1 l11 i12) λW65=>oK (rd1 s W65) λW66=>oK (qAC 4 t4) λW67=>oK (rd1 s W67) λW68=>oK (qAM 6 W68 x2) λW69=>oK (qAC 2 W69) λW70=>oK (rd1 s W70) λW71=>oK (negB false (eqV 0 false W66 W71)) λW72=>qAK W72
 (K (.bool true) s)
 (oK (qAB .add i12 (.int .i64 1)) λW73=>∃m',m'<m6/\I6 [W73] s m'))
 (K (.bool false) s)
def qBM(X:Td)(x2 t4 r7 t46 t49:AV)(K:KvP)(s:Hq):Prop:=
 oK (qAT t46 (.bool true) t49) λW56=>qAK W56
 (K (.bool false) s)
 (oK (qAC 21 r7) λW57=>oK (qAC 10 W57) λW58=>oK (rd1 s W58) λW59=>wC TP X 74 [W59] (λW60 S61=>∃I6:IvP,(∃m,I6 [(.int .i64 0)] S61 m)/\∀(f:Env) (s:Hq) (m6:Nat),I6 [f 12] s m6->
 qEZ X x2 t4 W60 (f 12) I6 m6 K s) s)
def qBo(X:Td)(x1 x2 t4 r7 n9 t40 t44:AV)(K:KvP)(s:Hq):Prop:=
 oK (qAT t40 (.bool true) t44) λW55=>qAK W55
 (qBM X x2 t4 r7 W55 .undef K s)
 (oK (negB false (eqV 0 false n9 x1)) λW74=>qBM X x2 t4 r7 W55 W74 K s)
def qBL(X:Td)(x1 x2 t4 r7 t17 t23 t28:AV)(K:KvP)(s:Hq):Prop:=
 oK (qAT t23 t28 (.bool false)) λW45=>oK (qAT t17 (.bool true) W45) λW46=>qAK W46
 (K (.bool false) s)
 (oK (qAC 21 r7) λW47=>oK (qAC 2 W47) λW48=>oK (rd1 s W48) λW49=>wC TP X 73 [W49] (λW50 S51=>oK (qAf W50 0) λW52=>oK (qAf W50 1) λW53=>oK (qAj .not W53) λW54=>qAK W54
 (qBo X x1 x2 t4 r7 W52 W54 .undef K S51)
 (oK (qAC 0 t4) λW75=>oK (rd1 S51 W75) λW76=>oK (qAB .geq W52 W76) λW77=>qBo X x1 x2 t4 r7 W52 W54 W77 K S51)) s)
def qJC(X:Td)(t0 x1 x2 r3:AV)(K:KvP)(s:Hq):Prop:=
 boxK 31 t0 (λB0 S1=>boxK 81 r3 (λB2 S3=>oK (qAC 0 B2) λW4=>oK (qAC 0 W4) λW5=>oK (rd1 S3 W5) λW6=>oK (negB true (eqV 0 true W6 (.int .i64 3))) λW7=>qAK W7
 (oK (qAT W7 (.bool true) .undef) λW8=>qAK W8
 (K (.bool false) S3)
 (oK (qAC 21 B2) λW9=>oK (qAC 2 W9) λW10=>oK (rd1 S3 W10) λW11=>wC TP X 73 [W11] (λW12 S13=>oK (qAf W12 0) λW14=>oK (qAf W12 1) λW15=>oK (qAj .not W15) λW16=>qAK W16
 (qES X x1 x2 B0 B2 W14 W16 .undef K S13)
 (oK (qAC 0 B0) λW37=>oK (rd1 S13 W37) λW38=>oK (qAB .geq W14 W38) λW39=>qES X x1 x2 B0 B2 W14 W16 W39 K S13)) S3))
 (oK (qAC 21 B2) λW40=>oK (qAC 11 W40) λW41=>oK (qAC 0 W41) λW42=>oK (rd1 S3 W42) λW43=>oK (negB true (eqV 0 true W43 (.int .i64 6))) λW44=>qAK W44
 (oK (qAC 21 B2) λW78=>oK (qAC 11 W78) λW79=>oK (qAC 0 W79) λW80=>oK (rd1 S3 W80) λW81=>oK (negB true (eqV 0 true W81 (.int .i64 3))) λW82=>qBL X x1 x2 B0 B2 W7 W44 W82 K S3)
 (qBL X x1 x2 B0 B2 W7 W44 .undef K S3))) S1) s
def qHT:Nat->List Nat:=λk=>cond (Nat.beq k 16) [12] ([])
theorem qHj{t0 x1 x2 r3:AV}{K:KvP}{s:Hq}(h:qJC XX t0 x1 x2 r3 K s):wC TP XX 40 [t0,x1,x2,r3] K s:=wOK qBT qHT rfl Tryz.func40 h
def qBp(X:Td)(l0 x5 x6 i7:AV)(I0:IvP)(m0:Nat)(K:KvP)(s:Hq):Prop:=
 oK (qAM 1 l0 i7) λW10=>oK (rd1 s W10) λW11=>oK (qCJ (repl 1 [(.int .u32 0)]) [(0,1,W11)]) λC12=>qAg C12=true/\newK 42 C12 (λB13 S14=>appK 42 1 x5 (.slc B13 0 1 (some 1) 1) (λW15 S16=>oK (qAB .add i7 (.int .i64 1)) λW17=>∃m',m'<m0/\I0 [W15,x6,W17] S16 m') S14) s
def qBq(X:Td)(l0 x1 x5 x6 i7 t27 t29:AV)(I0:IvP)(m0:Nat)(K:KvP)(s:Hq):Prop:=
 oK (qAT t27 t29 (.bool false)) λW9=>qAK W9
 (oK (qCJ (repl 1 [(.int .u32 0)]) [(0,1,x1)]) λC18=>qAg C18=true/\newK 42 C18 (λB19 S20=>appK 42 1 x5 (.slc B19 0 1 (some 1) 1) (λW21 S22=>qBp X l0 W21 (.bool true) i7 I0 m0 K S22) S20) s)
 (qBp X l0 x5 x6 i7 I0 m0 K s)
def qEa(X:Td)(x5:AV)(K:KvP)(s:Hq):Prop:=
 K x5 s
def qET(X:Td)(l0 x1 x5 x6 i7:AV)(I0:IvP)(m0:Nat)(K:KvP)(s:Hq):Prop:=
 oK (qAQ l0) λW0=>oK (qAB .lss i7 (.int .i64 W0)) λW2=>qAK W2
 (oK (qAM 1 l0 i7) λW3=>oK (rd1 s W3) λW4=>oK (negB false (eqV 0 false W4 x1)) λW5=>qAK W5
 (K l0 s)
 (oK (qAM 1 l0 i7) λW6=>oK (rd1 s W6) λW7=>oK (qAB .gtr W7 x1) λW8=>qAK W8
 (oK (qAj .not x6) λW23=>qBq X l0 x1 x5 x6 i7 W8 W23 I0 m0 K s)
 (qBq X l0 x1 x5 x6 i7 W8 .undef I0 m0 K s)))
 (oK (qAj .not x6) λW24=>qAK W24
 (oK (qCJ (repl 1 [(.int .u32 0)]) [(0,1,x1)]) λC25=>qAg C25=true/\newK 42 C25 (λB26 S27=>appK 42 1 x5 (.slc B26 0 1 (some 1) 1) (λW28 S29=>qEa X W28 K S29) S27) s)
 (qEa X x5 K s))
def qFY(X:Td)(l0 x1:AV)(K:KvP)(s:Hq):Prop:=
 ∃I0:IvP,(∃m,I0 [.nilslc,(.bool false),(.int .i64 0)] s m)/\∀(f:Env) (s:Hq) (m0:Nat),I0 [f 5,f 6,f 7] s m0->
 qET X l0 x1 (f 5) (f 6) (f 7) I0 m0 K s
def qHO:Nat->List Nat:=λk=>cond (Nat.beq k 8) [5,6,7] ([])
theorem qHf{l0 x1:AV}{K:KvP}{s:Hq}(h:qFY XX l0 x1 K s):wC TP XX 41 [l0,x1] K s:=wOK qBT qHO rfl Tryz.func41 h
def qCu(X:Td)(x1 t12 t17:AV)(K:KvP)(s:Hq):Prop:=
 oK (qAT t12 (.bool true) t17) λW7=>qAK W7
 (K (.int .u32 0) s)
 (oK (qAB .add (.int .i64 4009754625) x1) λW8=>oK (qD2 .u32 W8) λW9=>K W9 s)
def qCy(X:Td)(x1 t2 t8 t10:AV)(K:KvP)(s:Hq):Prop:=
 oK (qAT t8 (.bool true) t10) λW6=>qAK W6
 (qCu X x1 W6 .undef K s)
 (oK (qAC 4 t2) λW10=>oK (rd1 s W10) λW11=>oK (qAQ W11) λW12=>oK (qAB .geq x1 (.int .i64 W12)) λW14=>qCu X x1 W6 W14 K s)
def qJt(X:Td)(t0 x1:AV)(K:KvP)(s:Hq):Prop:=
 boxK 31 t0 (λB0 S1=>oK (rdN S1 19 B0) λW2=>wC TP X 37 [(.agg W2)] (λW3 S4=>oK (qAj .not W3) λW5=>qAK W5
 (qCy X x1 B0 W5 .undef K S4)
 (oK (qAB .lss x1 (.int .i64 0)) λW15=>qCy X x1 B0 W5 W15 K S4)) S1) s
theorem qIM{t0 x1:AV}{K:KvP}{s:Hq}(h:qJt XX t0 x1 K s):wC TP XX 42 [t0,x1] K s:=wOK qBT nA0 rfl Tryz.func42 h
def qN8(X:Td)(x5 t6:AV)(I0:IvP)(m0:Nat)(K:KvP)(s:Hq):Prop:=
 oK (qAB .add t6 (.int .i64 1)) λW18=>∃m',m'<m0/\I0 [x5,W18] s m'
def qVl(X:Td)(x1 t2 x5 t6:AV)(I0:IvP)(m0:Nat)(K:KvP)(s:Hq):Prop:=
 oK (qAC 5 t2) λW6=>oK (rd1 s W6) λW7=>oK (qAQ W7) λW8=>oK (qAB .lss t6 (.int .i64 W8)) λW10=>qAK W10
 (oK (qAC 5 t2) λW11=>oK (rd1 s W11) λW12=>oK (qAM 2 W12 t6) λW13=>oK (qAC 0 W13) λW14=>oK (rd1 s W14) λW15=>wC TP X 102 [W15,x1] (λW16 S17=>qAK W16
 (oK (qCJ (repl 1 [(.int .i64 0)]) [(0,1,t6)]) λC19=>qAg C19=true/\newK 3 C19 (λB20 S21=>appK 3 1 x5 (.slc B20 0 1 (some 1) 1) (λW22 S23=>qN8 X W22 t6 I0 m0 K S23) S21) S17)
 (qN8 X x5 t6 I0 m0 K S17)) s)
 (K x5 s)
def zAG1(X:Td)(t0 x1:AV)(K:KvP)(s:Hq):Prop:=
 boxK 31 t0 (λB0 S1=>oK (rdN S1 19 B0) λW2=>wC TP X 78 [(.agg W2)] (λW3 S4=>oK (qAj .not W3) λW5=>qAK W5
 (K .nilslc S4)
 (∃I0:IvP,(∃m,I0 [.nilslc,(.int .i64 0)] S4 m)/\∀(f:Env) (s:Hq) (m0:Nat),I0 [f 5,f 6] s m0->
 qVl X x1 B0 (f 5) (f 6) I0 m0 K s)) S1) s
def qZI:Nat->List Nat:=λk=>cond (Nat.beq k 10) [5,6] ([])
theorem zABj{t0 x1:AV}{K:KvP}{s:Hq}(h:zAG1 XX t0 x1 K s):wC TP XX 72 [t0,x1] K s:=wOK qBT qZI rfl Tryz.func72 h
def qCB(X:Td)(ip0 t6 t8:AV)(K:KvP)(s:Hq):Prop:=
 oK (qAT t6 (.bool true) t8) λW1=>qAK W1
 (K (.tup [(.int .i64 0),(.bool false)]) s)
 (oK (qAB .sub ip0 (.int .u32 184483840)) λW2=>oK (qAB .sub W2 (.int .u32 1)) λW3=>oK (qD2 .i64 W3) λW4=>K (.tup [W4,(.bool true)]) s)
def qGM(X:Td)(ip0:AV)(K:KvP)(s:Hq):Prop:=
 oK (qAB .leq ip0 (.int .u32 184483840)) λW0=>qAK W0
 (qCB X ip0 W0 .undef K s)
 (oK (qAB .gtr ip0 (.int .u32 184483872)) λW5=>qCB X ip0 W0 W5 K s)
theorem qIg{ip0:AV}{K:KvP}{s:Hq}(h:qGM XX ip0 K s):wC TP XX 73 [ip0] K s:=wOK qBT nA0 rfl Tryz.func73 h
def qA0(X:Td)(x3 i4:AV)(I0:IvP)(m0:Nat)(K:KvP)(s:Hq):Prop:=
 oK (qAB .add i4 (.int .i64 1)) λW3=>∃m',m'<m0/\I0 [x3,W3] s m'
def qBG(X:Td)(x3 i4 n5 k6 t48 t55:AV)(I0:IvP)(m0:Nat)(K:KvP)(s:Hq):Prop:=
 oK (qAT t48 (.bool true) t55) λW22=>qAK W22
 (oK (qDx 1 x3 none (some k6) none) λW23=>oK (qD2 .u32 n5) λW24=>oK (qCJ (repl 1 [(.int .u32 0)]) [(0,1,W24)]) λC25=>qAg C25=true/\newK 41 C25 (λB26 S27=>oK (qDx 1 x3 (some k6) none none) λW28=>appK 41 1 (.slc B26 0 1 (some 1) 1) W28 (λW29 S30=>appK 41 1 W23 W29 (λW31 S32=>qA0 X W31 i4 I0 m0 K S32) S30) S27) s)
 (qA0 X x3 i4 I0 m0 K s)
def qBe(X:Td)(x3 i4 n5 k6 t33 t40:AV)(I3:IvP)(m3:Nat)(I0:IvP)(m0:Nat)(K:KvP)(s:Hq):Prop:=
 oK (qAT t33 t40 (.bool false)) λW17=>qAK W17
 (oK (qAB .add k6 (.int .i64 1)) λW18=>∃m',m'<m3/\I3 [W18] s m')
 (oK (qAQ x3) λW19=>oK (negB false (eqV 0 false k6 (.int .i64 W19))) λW21=>qAK W21
 (qBG X x3 i4 n5 k6 W21 .undef I0 m0 K s)
 (oK (qAM 1 x3 k6) λW33=>oK (rd1 s W33) λW34=>oK (qD2 .u32 n5) λW35=>oK (negB true (eqV 0 false W34 W35)) λW36=>qBG X x3 i4 n5 k6 W21 W36 I0 m0 K s))
def qD5(X:Td)(x3 i4 n5 k6:AV)(I3:IvP)(m3:Nat)(I0:IvP)(m0:Nat)(K:KvP)(s:Hq):Prop:=
 oK (qAQ x3) λW14=>oK (qAB .lss k6 (.int .i64 W14)) λW16=>qAK W16
 (oK (qAM 1 x3 k6) λW37=>oK (rd1 s W37) λW38=>oK (qD2 .u32 n5) λW39=>oK (qAB .lss W38 W39) λW40=>qBe X x3 i4 n5 k6 W16 W40 I3 m3 I0 m0 K s)
 (qBe X x3 i4 n5 k6 W16 .undef I3 m3 I0 m0 K s)
def qBf(X:Td)(x3 i4 n5 t24 t27:AV)(I0:IvP)(m0:Nat)(K:KvP)(s:Hq):Prop:=
 oK (qAT t24 (.bool true) t27) λW13=>qAK W13
 (qA0 X x3 i4 I0 m0 K s)
 (∃I3:IvP,(∃m,I3 [(.int .i64 0)] s m)/\∀(f:Env) (s:Hq) (m3:Nat),I3 [f 6] s m3->
 qD5 X x3 i4 n5 (f 6) I3 m3 I0 m0 K s)
def qD8(X:Td)(l0 x3 i4:AV)(I0:IvP)(m0:Nat)(K:KvP)(s:Hq):Prop:=
 oK (qAQ l0) λW0=>oK (qAB .lss i4 (.int .i64 W0)) λW2=>qAK W2
 (oK (qAM 8 l0 i4) λW4=>oK (rdN s 8 W4) λW5=>wC TP X 103 [(.agg W5)] (λW6 S7=>oK (qAM 8 l0 i4) λW8=>oK (rdN S7 8 W8) λW9=>wC TP X 104 [(.agg W9)] (λW10 S11=>oK (negB true (eqV 0 true W10 (.int .i64 1))) λW12=>qAK W12
 (qBf X x3 i4 W6 W12 .undef I0 m0 K S11)
 (oK (qDB .shr W6 (.int .u64 32)) λW41=>oK (negB true (eqV 0 true W41 (.int .u64 65000))) λW42=>qBf X x3 i4 W6 W12 W42 I0 m0 K S11)) S7) s)
 (K x3 s)
def qE8(X:Td)(l0:AV)(K:KvP)(s:Hq):Prop:=
 ∃I0:IvP,(∃m,I0 [.nilslc,(.int .i64 0)] s m)/\∀(f:Env) (s:Hq) (m0:Nat),I0 [f 3,f 4] s m0->
 qD8 X l0 (f 3) (f 4) I0 m0 K s
def qGw:Nat->List Nat:=λk=>cond (Nat.beq k 6) [3,4] (cond (Nat.beq k 16) [6] ([]))
theorem qHY{l0:AV}{K:KvP}{s:Hq}(h:qE8 XX l0 K s):wC TP XX 74 [l0] K s:=wOK qBT qGw rfl Tryz.func74 h
def qGZ(X:Td)(i6 t45 t56:AV)(I0:IvP)(m0:Nat)(K:KvP)(s:Hq):Prop:=
 oK (qAT t45 t56 (.bool false)) λW14=>oK (qAB .add i6 (.int .i64 1)) λW15=>∃m',m'<m0/\I0 [W14,W15] s m'
def qGa(X:Td)(a0 b1 i6 t32 t43:AV)(I0:IvP)(m0:Nat)(K:KvP)(s:Hq):Prop:=
 oK (qAT t32 t43 (.bool false)) λW13=>qAK W13
 (oK (qAM 3 a0 i6) λW16=>oK (qAC 1 W16) λW17=>oK (rd1 s W17) λW18=>oK (qAM 3 b1 i6) λW19=>oK (qAC 1 W19) λW20=>oK (rd1 s W20) λW21=>wC TP X 28 [W18,W21] (λW22 S23=>qGZ X i6 W13 W22 I0 m0 K S23) s)
 (qGZ X i6 W13 .undef I0 m0 K s)
def qGb(X:Td)(a0 b1 x5 i6 t13 t17:AV)(I0:IvP)(m0:Nat)(K:KvP)(s:Hq):Prop:=
 oK (qAT t13 t17 (.bool false)) λW5=>qAK W5
 (oK (qAM 3 a0 i6) λW6=>oK (qAC 0 W6) λW7=>oK (rd1 s W7) λW8=>oK (qAM 3 b1 i6) λW9=>oK (qAC 0 W9) λW10=>oK (rd1 s W10) λW11=>oK (negB false (eqV 0 false W8 W11)) λW12=>qAK W12
 (oK (qAM 3 a0 i6) λW24=>oK (qAC 2 W24) λW25=>oK (rd1 s W25) λW26=>oK (qAM 3 b1 i6) λW27=>oK (qAC 2 W27) λW28=>oK (rd1 s W28) λW29=>oK (negB false (eqV 0 false W26 W29)) λW30=>qGa X a0 b1 i6 W12 W30 I0 m0 K s)
 (qGa X a0 b1 i6 W12 .undef I0 m0 K s))
 (K x5 s)
def qJl(X:Td)(a0 b1 x5 i6:AV)(I0:IvP)(m0:Nat)(K:KvP)(s:Hq):Prop:=
 qAK x5
 (oK (qAQ a0) λW31=>oK (qAB .lss i6 (.int .i64 W31)) λW33=>qGb X a0 b1 x5 i6 x5 W33 I0 m0 K s)
 (qGb X a0 b1 x5 i6 x5 .undef I0 m0 K s)
def qMD(X:Td)(a0 b1:AV)(K:KvP)(s:Hq):Prop:=
 oK (qAQ a0) λW0=>oK (qAQ b1) λW2=>oK (negB false (eqV 0 false (.int .i64 W0) (.int .i64 W2))) λW4=>∃I0:IvP,(∃m,I0 [W4,(.int .i64 0)] s m)/\∀(f:Env) (s:Hq) (m0:Nat),I0 [f 5,f 6] s m0->
 qJl X a0 b1 (f 5) (f 6) I0 m0 K s
def qMm:Nat->List Nat:=λk=>cond (Nat.beq k 6) [5,6] ([])
theorem qNi{a0 b1:AV}{K:KvP}{s:Hq}(h:qMD XX a0 b1 K s):wC TP XX 11 [a0,b1] K s:=wOK qBT qMm rfl Tryz.func11 h
def qFH(X:Td)(ip0 t6 t8:AV)(K:KvP)(s:Hq):Prop:=
 oK (qAT t6 (.bool true) t8) λW1=>qAK W1
 (K (.tup [(.int .i64 0),(.bool false)]) s)
 (oK (qAB .sub ip0 (.int .u32 184483840)) λW2=>oK (qAB .sub W2 (.int .u32 1)) λW3=>oK (qD2 .i64 W3) λW4=>K (.tup [W4,(.bool true)]) s)
def qNT(X:Td)(ip0:AV)(K:KvP)(s:Hq):Prop:=
 oK (qAB .leq ip0 (.int .u32 184483840)) λW0=>qAK W0
 (qFH X ip0 W0 .undef K s)
 (oK (qAB .gtr ip0 (.int .u32 184483872)) λW5=>qFH X ip0 W0 W5 K s)
theorem qPf{ip0:AV}{K:KvP}{s:Hq}(h:qNT XX ip0 K s):wC TP XX 30 [ip0] K s:=wOK qBT nA0 rfl Tryz.func30 h
def qBO(X:Td)(k3 k25:AV)(I1:IvP)(m1:Nat)(I0:IvP)(m0:Nat)(K:KvP)(s:Hq):Prop:=
 oK (qAB .add k25 (.int .i64 1)) λW22=>∃m',m'<m1/\I1 [k3,W22] s m'
def qDS(X:Td)(t0 k3 s24 k25:AV)(I1:IvP)(m1:Nat)(I0:IvP)(m0:Nat)(K:KvP)(s:Hq):Prop:=
 oK (qAQ s24) λW13=>oK (qAB .lss k25 (.int .i64 W13)) λW15=>qAK W15
 (oK (qAM 1 s24 k25) λW16=>oK (rd1 s W16) λW17=>oK (qAB .sub k25 (.int .i64 1)) λW18=>oK (qAM 1 s24 W18) λW19=>oK (rd1 s W19) λW20=>oK (negB true (eqV 0 false W17 W20)) λW21=>qAK W21
 (oK (qAM 1 s24 k25) λW23=>oK (rd1 s W23) λW24=>oK (qAM 1 t0 k3) λW25=>oK (wr1 s W25 W24) λS26=>oK (qAB .add k3 (.int .i64 1)) λW27=>qBO X W27 k25 I1 m1 I0 m0 K S26)
 (qBO X k3 k25 I1 m1 I0 m0 K s))
 (oK (qDx 1 t0 (some k3) none none) λW28=>qTX [(.int .u32 0)] 1 W28 (λW29 S30=>oK (qDx 1 t0 none (some k3) none) λW31=>K W31 S30) s)
def qDJ(X:Td)(t0 k3:AV)(I0:IvP)(m0:Nat)(K:KvP)(s:Hq):Prop:=
 oK (qAQ t0) λW3=>oK (qAB .lss k3 (.int .i64 W3)) λW5=>qAK W5
 (oK (qAM 1 t0 k3) λW6=>oK (rd1 s W6) λW7=>oK (qAB .sub k3 (.int .i64 1)) λW8=>oK (qAM 1 t0 W8) λW9=>oK (rd1 s W9) λW10=>oK (negB false (eqV 0 false W7 W10)) λW11=>qAK W11
 (oK (qDx 1 t0 (some k3) none none) λW12=>∃I1:IvP,(∃m,I1 [k3,(.int .i64 1)] s m)/\∀(f:Env) (s:Hq) (m1:Nat),I1 [f 3,f 5] s m1->
 qDS X t0 (f 3) W12 (f 5) I1 m1 I0 m0 K s)
 (oK (qAB .add k3 (.int .i64 1)) λW32=>∃m',m'<m0/\I0 [W32] s m'))
 (K t0 s)
def qED(X:Td)(t0:AV)(K:KvP)(s:Hq):Prop:=
 oK (qAQ t0) λW0=>oK (qAB .lss (.int .i64 W0) (.int .i64 2)) λW2=>qAK W2
 (K t0 s)
 (∃I0:IvP,(∃m,I0 [(.int .i64 1)] s m)/\∀(f:Env) (s:Hq) (m0:Nat),I0 [f 3] s m0->
 qDJ X t0 (f 3) I0 m0 K s)
def qFu:Nat->List Nat:=λk=>cond (Nat.beq k 8) [3] (cond (Nat.beq k 18) [3,5] ([]))
theorem qGL{t0:AV}{K:KvP}{s:Hq}(h:qED XX t0 K s):wC TP XX 67 [t0] K s:=wOK qBT qFu rfl Tryz.func67 h
end Go.AM
