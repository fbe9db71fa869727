/- Part V2 of the proof: see the last part. -/
import Derived.Test.YtfjeillpldnajaaGreatV
set_option linter.unusedVariables false
namespace Go.AM
open Go Go.Proofs
set_option maxRecDepth 100000
def qJp(X:Td)(i3 t53 t61:AV)(I5:IvP)(m5:Nat)(K:KvP)(s:Hq):Prop:=
 oK (qAO t53 (.bool true) t61) λW25=>qAK W25
 (K (.bool true) s)
 (oK (qAH .add i3 (.int .i64 1)) λW26=>∃m',m'<m5/\I5 [W26] s m')
def qPK(X:Td)(t1 i3:AV)(I5:IvP)(m5:Nat)(K:KvP)(s:Hq):Prop:=
 oK (qAC 5 t1) λW12=>oK (rd1 s W12) λW13=>oK (qAN W13) λW14=>oK (qAH .lss i3 (.int .i64 W14)) λW16=>qAK W16
 (oK (qAC 5 t1) λW17=>oK (rd1 s W17) λW18=>oK (qAT 2 W18 i3) λW19=>oK (qAC 0 W19) λW20=>oK (rd1 s W20) λW21=>oK (qAN W21) λW22=>oK (qAH .gtr (.int .i64 W22) (.int .i64 20)) λW24=>qAK W24
 (qJp X i3 W24 .undef I5 m5 K s)
 (oK (qAC 5 t1) λW27=>oK (rd1 s W27) λW28=>oK (qAT 2 W28 i3) λW29=>oK (qAC 1 W29) λW30=>oK (rd1 s W30) λW31=>oK (qAN W31) λW32=>oK (qAH .gtr (.int .i64 W32) (.int .i64 20)) λW34=>qJp X i3 W24 W34 I5 m5 K s))
 (K (.bool false) s)
def qD2(X:Td)(t1 t32 t36:AV)(K:KvP)(s:Hq):Prop:=
 oK (qAO t32 (.bool true) t36) λW11=>qAK W11
 (K (.bool true) s)
 (∃I5:IvP,(∃m,I5 [(.int .i64 0)] s m)/\∀(f:Env) (s:Hq) (m5:Nat),I5 [f 3] s m5->
 qPK X t1 (f 3) I5 m5 K s)
def qDx(X:Td)(t1 t26 t30:AV)(K:KvP)(s:Hq):Prop:=
 oK (qAO t26 (.bool true) t30) λW10=>qAK W10
 (qD2 X t1 W10 .undef K s)
 (oK (qAC 7 t1) λW35=>oK (rd1 s W35) λW36=>oK (qAN W36) λW37=>oK (qAH .gtr (.int .i64 W37) (.int .i64 40)) λW39=>qD2 X t1 W10 W39 K s)
def qEl(X:Td)(t1 t20 t24:AV)(K:KvP)(s:Hq):Prop:=
 oK (qAO t20 (.bool true) t24) λW9=>qAK W9
 (qDx X t1 W9 .undef K s)
 (oK (qAC 6 t1) λW40=>oK (rd1 s W40) λW41=>oK (qAN W41) λW42=>oK (qAH .gtr (.int .i64 W42) (.int .i64 40)) λW44=>qDx X t1 W9 W44 K s)
def qF1(X:Td)(t1 t14 t18:AV)(K:KvP)(s:Hq):Prop:=
 oK (qAO t14 (.bool true) t18) λW8=>qAK W8
 (qEl X t1 W8 .undef K s)
 (oK (qAC 5 t1) λW45=>oK (rd1 s W45) λW46=>oK (qAN W46) λW47=>oK (qAH .gtr (.int .i64 W47) (.int .i64 40)) λW49=>qEl X t1 W8 W49 K s)
def qHR(X:Td)(t1 t8 t12:AV)(K:KvP)(s:Hq):Prop:=
 oK (qAO t8 (.bool true) t12) λW7=>qAK W7
 (qF1 X t1 W7 .undef K s)
 (oK (qAC 4 t1) λW50=>oK (rd1 s W50) λW51=>oK (qAN W51) λW52=>oK (qAH .gtr (.int .i64 W52) (.int .i64 40)) λW54=>qF1 X t1 W7 W54 K s)
def zABz(X:Td)(t0:AV)(K:KvP)(s:Hq):Prop:=
 boxK 31 t0 (λB0 S1=>oK (qAC 2 B0) λW2=>oK (rd1 S1 W2) λW3=>oK (qAN W3) λW4=>oK (qAH .gtr (.int .i64 W4) (.int .i64 40)) λW6=>qAK W6
 (qHR X B0 W6 .undef K S1)
 (oK (qAC 3 B0) λW55=>oK (rd1 S1 W55) λW56=>oK (qAN W56) λW57=>oK (qAH .gtr (.int .i64 W57) (.int .i64 40)) λW59=>qHR X B0 W6 W59 K S1)) s
def qTZ:Nat->List Nat:=λk=>cond (Nat.beq k 8) [3] ([])
theorem qWB{t0:AV}{K:KvP}{s:Hq}(h:zABz XX t0 K s):wC TP XX 29 [t0] K s:=wOK qAu qTZ rfl Tryz.func29 h
def qOb(X:Td)(t1 x7 x8 p10 i11:AV)(I1:IvP)(m1:Nat)(I0:IvP)(m0:Nat)(K:KvP)(s:Hq):Prop:=
 oK (qAT 1 x8 p10) λW56=>oK (rd1 s W56) λW57=>oK (qAH .lss i11 W57) λW58=>qAK W58
 (oK (rdN s 19 t1) λW59=>wC TP X 118 [(.agg W59),p10,i11] (λW60 S61=>oK (negB true (eqV 0 true W60 (.int .i64 0))) λW62=>qAK W62
 (oK (qAT 1 x7 p10) λW63=>oK (rd1 S61 W63) λW64=>K (.tup [W60,W64,i11]) S61)
 (oK (qAH .add i11 (.int .i64 1)) λW65=>∃m',m'<m1/\I1 [W65] S61 m')) s)
 (oK (qAH .add p10 (.int .i64 1)) λW66=>∃m',m'<m0/\I0 [W66] s m')
def qNZ(X:Td)(t1 x7 x8 most9 p10:AV)(I0:IvP)(m0:Nat)(K:KvP)(s:Hq):Prop:=
 oK (qAN x7) λW44=>oK (qAH .lss p10 (.int .i64 W44)) λW46=>qAK W46
 (oK (qAT 1 x8 p10) λW47=>oK (rd1 s W47) λW48=>oK (qAT 1 most9 p10) λW49=>oK (rd1 s W49) λW50=>oK (qAH .gtr W48 W50) λW51=>qAK W51
 (oK (qAT 1 x7 p10) λW52=>oK (rd1 s W52) λW53=>oK (qAT 1 most9 p10) λW54=>oK (rd1 s W54) λW55=>K (.tup [(.int .i64 7),W53,W55]) s)
 (∃I1:IvP,(∃m,I1 [(.int .i64 0)] s m)/\∀(f:Env) (s:Hq) (m1:Nat),I1 [f 11] s m1->
 qOb X t1 x7 x8 p10 (f 11) I1 m1 I0 m0 K s))
 (K (.tup [(.int .i64 0),(.str ⟨#[]⟩),(.int .i64 0)]) s)
def zAAC(X:Td)(t0:AV)(K:KvP)(s:Hq):Prop:=
 boxK 31 t0 (λB0 S1=>oK (rdN S1 19 B0) λW2=>wC TP X 116 [(.agg W2)] (λW3 S4=>oK (negB true (eqV 0 true W3 (.int .i64 0))) λW5=>qAK W5
 (K (.tup [W3,(.str ⟨#[102,97,98,114,105,99]⟩),(.int .i64 0)]) S4)
 (oK (qAC 13 B0) λW6=>oK (rdN S4 6 W6) λW7=>wC TP X 117 [(.agg W7)] (λW8 S9=>oK (negB true (eqV 0 true W8 (.int .i64 0))) λW10=>qAK W10
 (K (.tup [W8,(.str ⟨#[116,105,109,101,114,115]⟩),(.int .i64 0)]) S9)
 (oK (qBb (repl 6 [(.str ⟨#[]⟩)]) [(0,1,(.str ⟨#[108,105,110,107,115]⟩)),(1,1,(.str ⟨#[116,101,110,97,110,116,115]⟩)),(2,1,(.str ⟨#[100,111,109,97,105,110,115]⟩)),(3,1,(.str ⟨#[115,101,103,109,101,110,116,115]⟩)),(4,1,(.str ⟨#[104,111,115,116,115]⟩)),(5,1,(.str ⟨#[108,101,97,107,115]⟩))]) λC11=>qAd C11=true/\newK 9 C11 (λB12 S13=>oK (qAC 2 B0) λW14=>oK (rd1 S13 W14) λW15=>oK (qAN W15) λW16=>oK (qAC 3 B0) λW18=>oK (rd1 S13 W18) λW19=>oK (qAN W19) λW20=>oK (qAC 4 B0) λW22=>oK (rd1 S13 W22) λW23=>oK (qAN W23) λW24=>oK (qAC 5 B0) λW26=>oK (rd1 S13 W26) λW27=>oK (qAN W27) λW28=>oK (qAC 6 B0) λW30=>oK (rd1 S13 W30) λW31=>oK (qAN W31) λW32=>oK (qAC 7 B0) λW34=>oK (rd1 S13 W34) λW35=>oK (qAN W35) λW36=>oK (qBb (repl 6 [(.int .i64 0)]) [(0,1,(.int .i64 W16)),(1,1,(.int .i64 W20)),(2,1,(.int .i64 W24)),(3,1,(.int .i64 W28)),(4,1,(.int .i64 W32)),(5,1,(.int .i64 W36))]) λC38=>qAd C38=true/\newK 3 C38 (λB39 S40=>oK (qBb (repl 6 [(.int .i64 0)]) [(0,1,(.int .i64 128)),(1,1,(.int .i64 16)),(2,1,(.int .i64 32)),(3,1,(.int .i64 64)),(4,1,(.int .i64 128)),(5,1,(.int .i64 256))]) λC41=>qAd C41=true/\newK 3 C41 (λB42 S43=>∃I0:IvP,(∃m,I0 [(.int .i64 0)] S43 m)/\∀(f:Env) (s:Hq) (m0:Nat),I0 [f 10] s m0->
 qNZ X B0 (.slc B12 0 6 (some 6) 1) (.slc B39 0 6 (some 6) 1) (.slc B42 0 6 (some 6) 1) (f 10) I0 m0 K s) S40) S13) S9)) S4)) S1) s
def qSc:Nat->List Nat:=λk=>cond (Nat.beq k 22) [10] (cond (Nat.beq k 32) [11] ([]))
theorem qS0{t0:AV}{K:KvP}{s:Hq}(h:zAAC XX t0 K s):wC TP XX 96 [t0] K s:=wOK qAu qSc rfl Tryz.func96 h
def qCP(X:Td)(t33 t37:AV)(K:KvP)(s:Hq):Prop:=
 oK (qAO t33 (.bool true) t37) λW11=>qAK W11
 (K (.int .i64 2) s)
 (K (.int .i64 0) s)
def qCR(X:Td)(t1 t27 t31:AV)(K:KvP)(s:Hq):Prop:=
 oK (qAO t27 (.bool true) t31) λW10=>qAK W10
 (qCP X W10 .undef K s)
 (oK (qAC 10 t1) λW12=>oK (rd1 s W12) λW13=>wC TP X 142 [W13,(.int .i64 0),(.int .i64 1)] (λW14 S15=>oK (qAi .not W14) λW16=>qCP X W10 W16 K S15) s)
def qCv(X:Td)(t1 t21 t25:AV)(K:KvP)(s:Hq):Prop:=
 oK (qAO t21 (.bool true) t25) λW9=>qAK W9
 (qCR X t1 W9 .undef K s)
 (oK (qAC 9 t1) λW17=>oK (rd1 s W17) λW18=>wC TP X 142 [W18,(.int .i64 0),(.int .i64 1)] (λW19 S20=>oK (qAi .not W19) λW21=>qCR X t1 W9 W21 K S20) s)
def qDK(X:Td)(t1 t13 t19:AV)(K:KvP)(s:Hq):Prop:=
 oK (qAO t13 (.bool true) t19) λW8=>qAK W8
 (qCv X t1 W8 .undef K s)
 (oK (qAC 8 t1) λW22=>oK (rd1 s W22) λW23=>wC TP X 142 [W23,(.int .i64 0),(.int .i64 2)] (λW24 S25=>oK (qAi .not W24) λW26=>qCv X t1 W8 W26 K S25) s)
def qEE(X:Td)(t1 t7 t11:AV)(K:KvP)(s:Hq):Prop:=
 oK (qAO t7 (.bool true) t11) λW7=>qAK W7
 (qDK X t1 W7 .undef K s)
 (oK (qAC 0 t1) λW27=>oK (rd1 s W27) λW28=>oK (qAC 1 t1) λW29=>oK (rd1 s W29) λW30=>oK (qAH .add W28 W30) λW31=>oK (qAH .gtr W31 (.int .i64 32)) λW32=>qDK X t1 W7 W32 K s)
def qVV(X:Td)(t0:AV)(K:KvP)(s:Hq):Prop:=
 boxK 31 t0 (λB0 S1=>oK (qAC 0 B0) λW2=>oK (rd1 S1 W2) λW3=>wC TP X 142 [W3,(.int .i64 1),(.int .i64 32)] (λW4 S5=>oK (qAi .not W4) λW6=>qAK W6
 (qEE X B0 W6 .undef K S5)
 (oK (qAC 1 B0) λW33=>oK (rd1 S5 W33) λW34=>wC TP X 142 [W34,(.int .i64 0),(.int .i64 32)] (λW35 S36=>oK (qAi .not W35) λW37=>qEE X B0 W6 W37 K S36) S5)) S1) s
theorem qQ1{t0:AV}{K:KvP}{s:Hq}(h:qVV XX t0 K s):wC TP XX 116 [t0] K s:=wOK qAu nA0 rfl Tryz.func116 h
def qCm(X:Td)(t31 t35:AV)(K:KvP)(s:Hq):Prop:=
 oK (qAO t31 (.bool true) t35) λW11=>qAK W11
 (K (.int .i64 2) s)
 (K (.int .i64 0) s)
def qCo(X:Td)(t1 t25 t29:AV)(K:KvP)(s:Hq):Prop:=
 oK (qAO t25 (.bool true) t29) λW10=>qAK W10
 (qCm X W10 .undef K s)
 (oK (qAC 5 t1) λW12=>oK (rd1 s W12) λW13=>wC TP X 142 [W13,(.int .i64 1),(.int .i64 10000)] (λW14 S15=>oK (qAi .not W14) λW16=>qCm X W10 W16 K S15) s)
def qDJ(X:Td)(t1 t19 t23:AV)(K:KvP)(s:Hq):Prop:=
 oK (qAO t19 (.bool true) t23) λW9=>qAK W9
 (qCo X t1 W9 .undef K s)
 (oK (qAC 4 t1) λW17=>oK (rd1 s W17) λW18=>wC TP X 142 [W18,(.int .i64 1),(.int .i64 100)] (λW19 S20=>oK (qAi .not W19) λW21=>qCo X t1 W9 W21 K S20) s)
def qDs(X:Td)(t1 t13 t17:AV)(K:KvP)(s:Hq):Prop:=
 oK (qAO t13 (.bool true) t17) λW8=>qAK W8
 (qDJ X t1 W8 .undef K s)
 (oK (qAC 3 t1) λW22=>oK (rd1 s W22) λW23=>wC TP X 142 [W23,(.int .i64 0),(.int .i64 1000)] (λW24 S25=>oK (qAi .not W24) λW26=>qDJ X t1 W8 W26 K S25) s)
def qEz(X:Td)(t1 t7 t11:AV)(K:KvP)(s:Hq):Prop:=
 oK (qAO t7 (.bool true) t11) λW7=>qAK W7
 (qDs X t1 W7 .undef K s)
 (oK (qAC 2 t1) λW27=>oK (rd1 s W27) λW28=>wC TP X 142 [W28,(.int .i64 1),(.int .i64 10000)] (λW29 S30=>oK (qAi .not W29) λW31=>qDs X t1 W7 W31 K S30) s)
def qWN(X:Td)(t0:AV)(K:KvP)(s:Hq):Prop:=
 boxK 29 t0 (λB0 S1=>oK (qAC 0 B0) λW2=>oK (rd1 S1 W2) λW3=>wC TP X 142 [W3,(.int .i64 1),(.int .i64 100)] (λW4 S5=>oK (qAi .not W4) λW6=>qAK W6
 (qEz X B0 W6 .undef K S5)
 (oK (qAC 1 B0) λW32=>oK (rd1 S5 W32) λW33=>wC TP X 142 [W33,(.int .i64 3),(.int .i64 1000)] (λW34 S35=>oK (qAi .not W34) λW36=>qEz X B0 W6 W36 K S35) S5)) S1) s
theorem qSa{t0:AV}{K:KvP}{s:Hq}(h:qWN XX t0 K s):wC TP XX 117 [t0] K s:=wOK qAu nA0 rfl Tryz.func117 h
def qVU(X:Td)(t0 x1 i2:AV)(K:KvP)(s:Hq):Prop:=
 boxK 31 t0 (λB0 S1=>oK (negB false (eqV 0 true x1 (.int .i64 0))) λW2=>qAK W2
 (oK (rdN S1 19 B0) λW3=>wC TP X 143 [(.agg W3),i2] (λW4 S5=>K W4 S5) S1)
 (oK (negB false (eqV 0 true x1 (.int .i64 1))) λW6=>qAK W6
 (oK (rdN S1 19 B0) λW7=>wC TP X 144 [(.agg W7),i2] (λW8 S9=>K W8 S9) S1)
 (oK (negB false (eqV 0 true x1 (.int .i64 2))) λW10=>qAK W10
 (oK (rdN S1 19 B0) λW11=>wC TP X 145 [(.agg W11),i2] (λW12 S13=>K W12 S13) S1)
 (oK (negB false (eqV 0 true x1 (.int .i64 3))) λW14=>qAK W14
 (oK (rdN S1 19 B0) λW15=>wC TP X 146 [(.agg W15),i2] (λW16 S17=>K W16 S17) S1)
 (oK (negB false (eqV 0 true x1 (.int .i64 4))) λW18=>qAK W18
 (oK (rdN S1 19 B0) λW19=>wC TP X 147 [(.agg W19),i2] (λW20 S21=>K W20 S21) S1)
 (oK (rdN S1 19 B0) λW22=>wC TP X 148 [(.agg W22),i2] (λW23 S24=>K W23 S24) S1)))))) s
theorem qQn{t0 x1 i2:AV}{K:KvP}{s:Hq}(h:qVU XX t0 x1 i2 K s):wC TP XX 118 [t0,x1,i2] K s:=wOK qAu nA0 rfl Tryz.func118 h
def qGa(X:Td)(t10 t13:AV)(K:KvP)(s:Hq):Prop:=
 oK (qAO t10 t13 (.bool false)) λW1=>K W1 s
def qRZ(X:Td)(n0 x1 most2:AV)(K:KvP)(s:Hq):Prop:=
 oK (qAH .geq n0 x1) λW0=>qAK W0
 (oK (qAH .leq n0 most2) λW2=>qGa X W0 W2 K s)
 (qGa X W0 .undef K s)
theorem qRG{n0 x1 most2:AV}{K:KvP}{s:Hq}(h:qRZ XX n0 x1 most2 K s):wC TP XX 142 [n0,x1,most2] K s:=wOK qAu nA0 rfl Tryz.func142 h
def qJd(X:Td)(K:KvP)(s:Hq):Prop:=
 K (.int .i64 0) s
def qJq(X:Td)(k6 t53 t62:AV)(I2:IvP)(m2:Nat)(K:KvP)(s:Hq):Prop:=
 oK (qAO t53 t62 (.bool false)) λW18=>qAK W18
 (K (.int .i64 11) s)
 (oK (qAH .add k6 (.int .i64 1)) λW19=>∃m',m'<m2/\I2 [W19] s m')
def qPh(X:Td)(i1 t2 l5 k6:AV)(I2:IvP)(m2:Nat)(K:KvP)(s:Hq):Prop:=
 oK (qAH .lss k6 i1) λW9=>qAK W9
 (oK (qAC 2 t2) λW10=>oK (rd1 s W10) λW11=>oK (qAT 3 W11 k6) λW12=>oK (qAC 0 W12) λW13=>oK (rd1 s W13) λW14=>oK (qAC 0 l5) λW15=>oK (rd1 s W15) λW16=>oK (negB false (eqV 0 false W14 W16)) λW17=>qAK W17
 (oK (qAC 2 t2) λW20=>oK (rd1 s W20) λW21=>oK (qAT 3 W21 k6) λW22=>oK (qAC 1 W22) λW23=>oK (rd1 s W23) λW24=>oK (qAC 1 l5) λW25=>oK (rd1 s W25) λW26=>oK (negB false (eqV 0 false W24 W26)) λW27=>qJq X k6 W17 W27 I2 m2 K s)
 (qJq X k6 W17 .undef I2 m2 K s))
 (qJd X  K s)
def qJw(X:Td)(i1 t2 l5:AV)(K:KvP)(s:Hq):Prop:=
 ∃I2:IvP,(∃m,I2 [(.int .i64 0)] s m)/\∀(f:Env) (s:Hq) (m2:Nat),I2 [f 6] s m2->
 qPh X i1 t2 l5 (f 6) I2 m2 K s
def qFy(X:Td)(i1 t2 l5 t33 t37:AV)(K:KvP)(s:Hq):Prop:=
 oK (qAO t33 (.bool true) t37) λW37=>qAK W37
 (K (.int .i64 2) s)
 (qJw X i1 t2 l5 K s)
def qHL(X:Td)(i1 t2 l5 t19 t31:AV)(K:KvP)(s:Hq):Prop:=
 oK (qAO t19 (.bool true) t31) λW36=>qAK W36
 (qFy X i1 t2 l5 W36 .undef K s)
 (oK (qAC 2 l5) λW38=>oK (rd1 s W38) λW39=>wC TP X 142 [W39,(.int .i64 1),(.int .i64 1000)] (λW40 S41=>oK (qAi .not W40) λW42=>qFy X i1 t2 l5 W36 W42 K S41) s)
def qWn(X:Td)(t0 i1:AV)(K:KvP)(s:Hq):Prop:=
 boxK 31 t0 (λB0 S1=>oK (qAC 2 B0) λW2=>oK (rd1 S1 W2) λW3=>oK (qAT 3 W3 i1) λW4=>oK (rdN S1 3 W4) λW5=>newK 91 [(.int .i64 0),(.int .i64 0),(.int .i64 0)] (λB6 S7=>oK (qBA S7 3 (.ptr B6 0) (.agg W5)) λS8=>oK (qAC 0 (.ptr B6 0)) λW28=>oK (rd1 S8 W28) λW29=>oK (qAC 0 B0) λW30=>oK (rd1 S8 W30) λW31=>oK (qAH .sub W31 (.int .i64 1)) λW32=>wC TP X 142 [W29,(.int .i64 0),W32] (λW33 S34=>oK (qAi .not W33) λW35=>qAK W35
 (qHL X i1 B0 (.ptr B6 0) W35 .undef K S34)
 (oK (qAC 1 (.ptr B6 0)) λW43=>oK (rd1 S34 W43) λW44=>oK (qAC 0 B0) λW45=>oK (rd1 S34 W45) λW46=>oK (qAC 0 B0) λW47=>oK (rd1 S34 W47) λW48=>oK (qAC 1 B0) λW49=>oK (rd1 S34 W49) λW50=>oK (qAH .add W48 W50) λW51=>oK (qAH .sub W51 (.int .i64 1)) λW52=>wC TP X 142 [W44,W46,W52] (λW53 S54=>oK (qAi .not W53) λW55=>qHL X i1 B0 (.ptr B6 0) W35 W55 K S54) S34)) S8) S1) s
def qHo:Nat->List Nat:=λk=>cond (Nat.beq k 10) [6] ([])
noncomputable def qLp:Code:=qB1 3 (qBs Tryz.f143)
noncomputable def qVR:Code:=qB1 1 qLp
theorem qQO(X:Td)(K:KvP)(env:Env)(s:Hq):wpC TP X qHo Tryz.f143.ntmps none qVR env (λe env s=>retK e (resK TP Tryz.f143.results.toList env (λvs=>K (oneV vs) s) s)) s=qJd X K s:=by kernel_rfl
theorem qQJ(X:Td)(K:KvP)(env:Env)(s:Hq):wpC TP X qHo Tryz.f143.ntmps none qLp env (λe env s=>retK e (resK TP Tryz.f143.results.toList env (λvs=>K (oneV vs) s) s)) s=qJw X (env 1) (env 2) (env 5) K s:=(qCD 1 (λenv s=>qJd X K s) qLp (by kernel_rfl) (λenv s=>qQO X K env s) env s).trans (by kernel_rfl)
theorem qVM(X:Td)(t0 i1:AV)(K:KvP)(s:Hq):wpC TP X qHo Tryz.f143.ntmps none (qBs Tryz.f143) (qJ3 [t0,i1]) (λe env s=>retK e (resK TP Tryz.f143.results.toList env (λvs=>K (oneV vs) s) s)) s=qWn X t0 i1 K s:=(qCD 3 (λenv s=>qJw X (env 1) (env 2) (env 5) K s) (qBs Tryz.f143) (by kernel_rfl) (λenv s=>qQJ X K env s) _ s).trans (by kernel_rfl)
theorem qVF{t0 i1:AV}{K:KvP}{s:Hq}(h:qWn XX t0 i1 K s):wC TP XX 143 [t0,i1] K s:=wOK qAu qHo rfl Tryz.func143 h (he:=qVM XX t0 i1 K s)
end Go.AM
namespace Go.AM
open Go Go.Proofs
set_option maxRecDepth 100000
def qGk(X:Td)(K:KvP)(s:Hq):Prop:=
 K (.int .i64 0) s
def qGr(X:Td)(k6 t39 t48:AV)(I2:IvP)(m2:Nat)(K:KvP)(s:Hq):Prop:=
 oK (qAO t39 (.bool true) t48) λW18=>qAK W18
 (K (.int .i64 11) s)
 (oK (qAH .add k6 (.int .i64 1)) λW19=>∃m',m'<m2/\I2 [W19] s m')
def qMh(X:Td)(i1 t2 t5 k6:AV)(I2:IvP)(m2:Nat)(K:KvP)(s:Hq):Prop:=
 oK (qAH .lss k6 i1) λW9=>qAK W9
 (oK (qAC 3 t2) λW10=>oK (rd1 s W10) λW11=>oK (qAT 2 W11 k6) λW12=>oK (qAC 0 W12) λW13=>oK (rd1 s W13) λW14=>oK (qAC 0 t5) λW15=>oK (rd1 s W15) λW16=>oK (negB false (eqV 0 false W14 W16)) λW17=>qAK W17
 (qGr X k6 W17 .undef I2 m2 K s)
 (oK (qAC 3 t2) λW20=>oK (rd1 s W20) λW21=>oK (qAT 2 W21 k6) λW22=>oK (qAC 1 W22) λW23=>oK (rd1 s W23) λW24=>oK (qAC 1 t5) λW25=>oK (rd1 s W25) λW26=>oK (negB false (eqV 0 false W24 W26)) λW27=>qGr X k6 W17 W27 I2 m2 K s))
 (qGk X  K s)
def qGW(X:Td)(i1 t2 t5:AV)(K:KvP)(s:Hq):Prop:=
 ∃I2:IvP,(∃m,I2 [(.int .i64 0)] s m)/\∀(f:Env) (s:Hq) (m2:Nat),I2 [f 6] s m2->
 qMh X i1 t2 t5 (f 6) I2 m2 K s
def qDy(X:Td)(i1 t2 t5 t20 t23:AV)(K:KvP)(s:Hq):Prop:=
 oK (qAO t20 (.bool true) t23) λW32=>qAK W32
 (K (.int .i64 2) s)
 (qGW X i1 t2 t5 K s)
def qE1(X:Td)(i1 t2 t5 t15 t18:AV)(K:KvP)(s:Hq):Prop:=
 oK (qAO t15 (.bool true) t18) λW31=>qAK W31
 (qDy X i1 t2 t5 W31 .undef K s)
 (oK (qAC 1 t5) λW33=>oK (rd1 s W33) λW34=>oK (negB false (eqV 0 true W34 (.int .u32 0))) λW35=>qDy X i1 t2 t5 W31 W35 K s)
def qST(X:Td)(t0 i1:AV)(K:KvP)(s:Hq):Prop:=
 boxK 31 t0 (λB0 S1=>oK (qAC 3 B0) λW2=>oK (rd1 S1 W2) λW3=>oK (qAT 2 W3 i1) λW4=>oK (rdN S1 2 W4) λW5=>newK 93 [(.int .u32 0),(.int .u32 0)] (λB6 S7=>oK (qBA S7 2 (.ptr B6 0) (.agg W5)) λS8=>oK (qAC 0 (.ptr B6 0)) λW28=>oK (rd1 S8 W28) λW29=>oK (qAH .lss W29 (.int .u32 1)) λW30=>qAK W30
 (qE1 X i1 B0 (.ptr B6 0) W30 .undef K S8)
 (oK (qAC 0 (.ptr B6 0)) λW36=>oK (rd1 S8 W36) λW37=>oK (qAH .gtr W37 (.int .u32 16777215)) λW38=>qE1 X i1 B0 (.ptr B6 0) W30 W38 K S8)) S1) s
def qFe:Nat->List Nat:=λk=>cond (Nat.beq k 10) [6] ([])
noncomputable def qI6:Code:=qB1 3 (qBs Tryz.f144)
noncomputable def qRm:Code:=qB1 1 qI6
theorem qNn(X:Td)(K:KvP)(env:Env)(s:Hq):wpC TP X qFe Tryz.f144.ntmps none qRm env (λe env s=>retK e (resK TP Tryz.f144.results.toList env (λvs=>K (oneV vs) s) s)) s=qGk X K s:=by kernel_rfl
theorem qOK(X:Td)(K:KvP)(env:Env)(s:Hq):wpC TP X qFe Tryz.f144.ntmps none qI6 env (λe env s=>retK e (resK TP Tryz.f144.results.toList env (λvs=>K (oneV vs) s) s)) s=qGW X (env 1) (env 2) (env 5) K s:=(qCD 1 (λenv s=>qGk X K s) qI6 (by kernel_rfl) (λenv s=>qNn X K env s) env s).trans (by kernel_rfl)
theorem qR7(X:Td)(t0 i1:AV)(K:KvP)(s:Hq):wpC TP X qFe Tryz.f144.ntmps none (qBs Tryz.f144) (qJ3 [t0,i1]) (λe env s=>retK e (resK TP Tryz.f144.results.toList env (λvs=>K (oneV vs) s) s)) s=qST X t0 i1 K s:=(qCD 3 (λenv s=>qGW X (env 1) (env 2) (env 5) K s) (qBs Tryz.f144) (by kernel_rfl) (λenv s=>qOK X K env s) _ s).trans (by kernel_rfl)
theorem qRN{t0 i1:AV}{K:KvP}{s:Hq}(h:qST XX t0 i1 K s):wC TP XX 144 [t0,i1] K s:=wOK qAu qFe rfl Tryz.func144 h (he:=qR7 XX t0 i1 K s)
def qGb(X:Td)(K:KvP)(s:Hq):Prop:=
 K (.int .i64 0) s
def qFE(X:Td)(k9 t152 t160:AV)(I6:IvP)(m6:Nat)(K:KvP)(s:Hq):Prop:=
 oK (qAO t152 t160 (.bool false)) λW24=>qAK W24
 (K (.int .i64 11) s)
 (oK (qAH .add k9 (.int .i64 1)) λW25=>∃m',m'<m6/\I6 [W25] s m')
def qGY(X:Td)(t2 t8 k9 t143 t150:AV)(I6:IvP)(m6:Nat)(K:KvP)(s:Hq):Prop:=
 oK (qAO t143 t150 (.bool false)) λW23=>qAK W23
 (oK (qAC 4 t2) λW26=>oK (rd1 s W26) λW27=>oK (qAT 6 W27 k9) λW28=>oK (qAC 3 W28) λW29=>oK (rdN s 2 W29) λW30=>oK (rdN s 2 t8) λW31=>wC TP X 185 [(.agg W30),(.agg W31)] (λW32 S33=>qFE X k9 W23 W32 I6 m6 K S33) s)
 (qFE X k9 W23 .undef I6 m6 K s)
def qMT(X:Td)(i1 t2 b5 t8 k9:AV)(I6:IvP)(m6:Nat)(K:KvP)(s:Hq):Prop:=
 oK (qAH .lss k9 i1) λW14=>qAK W14
 (oK (qAC 4 t2) λW15=>oK (rd1 s W15) λW16=>oK (qAT 6 W16 k9) λW17=>oK (qAC 0 W17) λW18=>oK (rd1 s W18) λW19=>oK (qAC 0 b5) λW20=>oK (rd1 s W20) λW21=>oK (negB false (eqV 0 false W19 W21)) λW22=>qAK W22
 (oK (qAC 4 t2) λW34=>oK (rd1 s W34) λW35=>oK (qAT 6 W35 k9) λW36=>oK (qAC 5 W36) λW37=>oK (rd1 s W37) λW38=>oK (negB true (eqV 0 true W38 (.int .u32 0))) λW39=>qGY X t2 t8 k9 W22 W39 I6 m6 K s)
 (qGY X t2 t8 k9 W22 .undef I6 m6 K s))
 (qGb X  K s)
def qFB(X:Td)(i1 t2 b5 t8:AV)(K:KvP)(s:Hq):Prop:=
 ∃I6:IvP,(∃m,I6 [(.int .i64 0)] s m)/\∀(f:Env) (s:Hq) (m6:Nat),I6 [f 9] s m6->
 qMT X i1 t2 b5 t8 (f 9) I6 m6 K s
def qCp(X:Td)(i1 t2 b5 t8 t115 t120:AV)(K:KvP)(s:Hq):Prop:=
 oK (qAO t115 (.bool true) t120) λW46=>qAK W46
 (oK (qAO W46 (.bool true) .undef) λW47=>qAK W47
 (K (.int .i64 3) s)
 (qFB X i1 t2 b5 t8 K s))
 (oK (qAC 5 b5) λW48=>oK (rd1 s W48) λW49=>oK (rdN s 2 t8) λW50=>wC TP X 184 [(.agg W50)] (λW51 S52=>(∀b,s b≠none->s b=none->S52 b=none)->
 oK (negB false (eqV 0 false W49 W51)) λW53=>oK (qAO W46 (.bool true) W53) λW54=>qAK W54
 (K (.int .i64 3) (add s S52))
 (qFB X i1 t2 b5 t8 K (add s S52))) (frz s))
def qDQ(X:Td)(i1 t2 b5 t8 t108 t113:AV)(K:KvP)(s:Hq):Prop:=
 oK (qAO t108 (.bool true) t113) λW45=>qAK W45
 (qCp X i1 t2 b5 t8 W45 .undef K s)
 (oK (qAC 5 b5) λW55=>oK (rd1 s W55) λW56=>oK (qAC 0 t8) λW57=>oK (rd1 s W57) λW58=>oK (negB false (eqV 0 false W56 W58)) λW59=>qCp X i1 t2 b5 t8 W45 W59 K s)
def qE8(X:Td)(i1 t2 b5 t8 t102 t106:AV)(K:KvP)(s:Hq):Prop:=
 oK (qAO t102 (.bool true) t106) λW44=>qAK W44
 (qDQ X i1 t2 b5 t8 W44 .undef K s)
 (oK (rdN s 2 t8) λW60=>oK (qAC 5 b5) λW61=>oK (rd1 s W61) λW62=>wC TP X 183 [(.agg W60),W62] (λW63 S64=>oK (qAi .not W63) λW65=>qDQ X i1 t2 b5 t8 W44 W65 K S64) s)
def qFD(X:Td)(i1 t2 b5:AV)(K:KvP)(s:Hq):Prop:=
 oK (qAC 3 b5) λW9=>oK (rdN s 2 W9) λW10=>newK 67 [(.int .u32 0),(.int .i64 0)] (λB11 S12=>oK (qBA S12 2 (.ptr B11 0) (.agg W10)) λS13=>oK (rdN S13 2 (.ptr B11 0)) λW40=>wC TP X 182 [(.agg W40)] (λW41 S42=>oK (qAi .not W41) λW43=>qAK W43
 (qE8 X i1 t2 b5 (.ptr B11 0) W43 .undef K S42)
 (oK (qAC 1 (.ptr B11 0)) λW66=>oK (rd1 S42 W66) λW67=>wC TP X 142 [W67,(.int .i64 8),(.int .i64 30)] (λW68 S69=>oK (qAi .not W68) λW70=>qE8 X i1 t2 b5 (.ptr B11 0) W43 W70 K S69) S42)) S13) s
def qE2(X:Td)(i1 t2 b5:AV)(K:KvP)(s:Hq):Prop:=
 oK (qAC 5 b5) λW71=>oK (rd1 s W71) λW72=>oK (negB false (eqV 0 true W72 (.int .u32 0))) λW73=>qAK W73
 (oK (qAC 3 b5) λW74=>oK (rdN s 2 W74) λW75=>oK (qBb [(.int .u32 0),(.int .i64 0)] []) λC76=>oK (negB true (qGP TP 67 (.agg W75) (.agg C76))) λW77=>qAK W77
 (K (.int .i64 3) s)
 (K (.int .i64 0) s))
 (qFD X i1 t2 b5 K s)
def qFp(X:Td)(k7 t79 t88:AV)(I12:IvP)(m12:Nat)(K:KvP)(s:Hq):Prop:=
 oK (qAO t79 (.bool true) t88) λW87=>qAK W87
 (K (.int .i64 11) s)
 (oK (qAH .add k7 (.int .i64 1)) λW88=>∃m',m'<m12/\I12 [W88] s m')
def qK2(X:Td)(i1 t2 b5 k7:AV)(I12:IvP)(m12:Nat)(K:KvP)(s:Hq):Prop:=
 oK (qAH .lss k7 i1) λW78=>qAK W78
 (oK (qAC 4 t2) λW79=>oK (rd1 s W79) λW80=>oK (qAT 6 W80 k7) λW81=>oK (qAC 1 W81) λW82=>oK (rd1 s W82) λW83=>oK (qAC 1 b5) λW84=>oK (rd1 s W84) λW85=>oK (negB false (eqV 0 false W83 W85)) λW86=>qAK W86
 (qFp X k7 W86 .undef I12 m12 K s)
 (oK (qAC 4 t2) λW89=>oK (rd1 s W89) λW90=>oK (qAT 6 W90 k7) λW91=>oK (qAC 2 W91) λW92=>oK (rd1 s W92) λW93=>oK (qAC 2 b5) λW94=>oK (rd1 s W94) λW95=>oK (negB false (eqV 0 false W93 W95)) λW96=>qFp X k7 W86 W96 I12 m12 K s))
 (qE2 X i1 t2 b5 K s)
def qE7(X:Td)(i1 t2 b5:AV)(K:KvP)(s:Hq):Prop:=
 ∃I12:IvP,(∃m,I12 [(.int .i64 0)] s m)/\∀(f:Env) (s:Hq) (m12:Nat),I12 [f 7] s m12->
 qK2 X i1 t2 b5 (f 7) I12 m12 K s
def qFv(X:Td)(k6 t54 t63:AV)(I14:IvP)(m14:Nat)(K:KvP)(s:Hq):Prop:=
 oK (qAO t54 (.bool true) t63) λW110=>qAK W110
 (K (.int .i64 11) s)
 (oK (qAH .add k6 (.int .i64 1)) λW111=>∃m',m'<m14/\I14 [W111] s m')
def qLR(X:Td)(i1 t2 b5 k6:AV)(I14:IvP)(m14:Nat)(K:KvP)(s:Hq):Prop:=
 oK (qAC 3 t2) λW97=>oK (rd1 s W97) λW98=>oK (qAN W98) λW99=>oK (qAH .lss k6 (.int .i64 W99)) λW101=>qAK W101
 (oK (qAC 3 t2) λW102=>oK (rd1 s W102) λW103=>oK (qAT 2 W103 k6) λW104=>oK (qAC 0 W104) λW105=>oK (rd1 s W105) λW106=>oK (qAC 1 b5) λW107=>oK (rd1 s W107) λW108=>oK (negB false (eqV 0 false W106 W108)) λW109=>qAK W109
 (qFv X k6 W109 .undef I14 m14 K s)
 (oK (qAC 3 t2) λW112=>oK (rd1 s W112) λW113=>oK (qAT 2 W113 k6) λW114=>oK (qAC 1 W114) λW115=>oK (rd1 s W115) λW116=>oK (qAC 2 b5) λW117=>oK (rd1 s W117) λW118=>oK (negB false (eqV 0 false W116 W118)) λW119=>qFv X k6 W109 W119 I14 m14 K s))
 (qE7 X i1 t2 b5 K s)
def qFA(X:Td)(i1 t2 b5:AV)(K:KvP)(s:Hq):Prop:=
 ∃I14:IvP,(∃m,I14 [(.int .i64 0)] s m)/\∀(f:Env) (s:Hq) (m14:Nat),I14 [f 6] s m14->
 qLR X i1 t2 b5 (f 6) I14 m14 K s
def qCs(X:Td)(i1 t2 b5 t33 t36:AV)(K:KvP)(s:Hq):Prop:=
 oK (qAO t33 (.bool true) t36) λW132=>qAK W132
 (K (.int .i64 2) s)
 (qFA X i1 t2 b5 K s)
def qDM(X:Td)(i1 t2 b5 t28 t31:AV)(K:KvP)(s:Hq):Prop:=
 oK (qAO t28 (.bool true) t31) λW131=>qAK W131
 (qCs X i1 t2 b5 W131 .undef K s)
 (oK (qAC 2 b5) λW133=>oK (rd1 s W133) λW134=>oK (negB false (eqV 0 true W134 (.int .u32 0))) λW135=>qCs X i1 t2 b5 W131 W135 K s)
def qEC(X:Td)(i1 t2 b5 t23 t26:AV)(K:KvP)(s:Hq):Prop:=
 oK (qAO t23 (.bool true) t26) λW130=>qAK W130
 (qDM X i1 t2 b5 W130 .undef K s)
 (oK (qAC 1 b5) λW136=>oK (rd1 s W136) λW137=>oK (qAH .gtr W137 (.int .u32 16777215)) λW138=>qDM X i1 t2 b5 W130 W138 K s)
def qRn(X:Td)(t0 i1:AV)(K:KvP)(s:Hq):Prop:=
 boxK 31 t0 (λB0 S1=>oK (qAC 4 B0) λW2=>oK (rd1 S1 W2) λW3=>oK (qAT 6 W3 i1) λW4=>oK (rdN S1 6 W4) λW5=>newK 69 [(.int .i64 0),(.int .u32 0),(.int .u32 0),(.int .u32 0),(.int .i64 0),(.int .u32 0)] (λB6 S7=>oK (qBA S7 6 (.ptr B6 0) (.agg W5)) λS8=>oK (qAC 0 (.ptr B6 0)) λW120=>oK (rd1 S8 W120) λW121=>oK (qAC 3 B0) λW122=>oK (rd1 S8 W122) λW123=>oK (qAN W123) λW124=>oK (qAH .sub (.int .i64 W124) (.int .i64 1)) λW126=>wC TP X 142 [W121,(.int .i64 0),W126] (λW127 S128=>oK (qAi .not W127) λW129=>qAK W129
 (qEC X i1 B0 (.ptr B6 0) W129 .undef K S128)
 (oK (qAC 1 (.ptr B6 0)) λW139=>oK (rd1 S128 W139) λW140=>oK (qAH .lss W140 (.int .u32 1)) λW141=>qEC X i1 B0 (.ptr B6 0) W129 W141 K S128)) S8) S1) s
def qCa:Nat->List Nat:=λk=>cond (Nat.beq k 44) [9] (cond (Nat.beq k 20) [7] (cond (Nat.beq k 10) [6] ([])))
noncomputable def qI5:Code:=qB1 3 (qBs Tryz.f145)
noncomputable def qIu:Code:=qB1 1 qI5
noncomputable def qIx:Code:=qB1 1 qIu
noncomputable def qJa:Code:=qB1 1 qIx
noncomputable def qJC:Code:=qB1 2 qJa
noncomputable def qRJ:Code:=qB1 1 qJC
theorem qOZ(X:Td)(K:KvP)(env:Env)(s:Hq):wpC TP X qCa Tryz.f145.ntmps none qRJ env (λe env s=>retK e (resK TP Tryz.f145.results.toList env (λvs=>K (oneV vs) s) s)) s=qGb X K s:=by kernel_rfl
theorem qNS(X:Td)(K:KvP)(env:Env)(s:Hq):wpC TP X qCa Tryz.f145.ntmps none qJC env (λe env s=>retK e (resK TP Tryz.f145.results.toList env (λvs=>K (oneV vs) s) s)) s=qFB X (env 1) (env 2) (env 5) (env 8) K s:=(qCD 1 (λenv s=>qGb X K s) qJC (by kernel_rfl) (λenv s=>qOZ X K env s) env s).trans (by kernel_rfl)
theorem qNw(X:Td)(K:KvP)(env:Env)(s:Hq):wpC TP X qCa Tryz.f145.ntmps none qJa env (λe env s=>retK e (resK TP Tryz.f145.results.toList env (λvs=>K (oneV vs) s) s)) s=qFD X (env 1) (env 2) (env 5) K s:=(qCD 2 (λenv s=>qFB X (env 1) (env 2) (env 5) (env 8) K s) qJa (by kernel_rfl) (λenv s=>qNS X K env s) env s).trans (by kernel_rfl)
theorem qOh(X:Td)(K:KvP)(env:Env)(s:Hq):wpC TP X qCa Tryz.f145.ntmps none qIx env (λe env s=>retK e (resK TP Tryz.f145.results.toList env (λvs=>K (oneV vs) s) s)) s=qE2 X (env 1) (env 2) (env 5) K s:=(qCD 1 (λenv s=>qFD X (env 1) (env 2) (env 5) K s) qIx (by kernel_rfl) (λenv s=>qNw X K env s) env s).trans (by kernel_rfl)
theorem qNr(X:Td)(K:KvP)(env:Env)(s:Hq):wpC TP X qCa Tryz.f145.ntmps none qIu env (λe env s=>retK e (resK TP Tryz.f145.results.toList env (λvs=>K (oneV vs) s) s)) s=qE7 X (env 1) (env 2) (env 5) K s:=(qCD 1 (λenv s=>qE2 X (env 1) (env 2) (env 5) K s) qIu (by kernel_rfl) (λenv s=>qOh X K env s) env s).trans (by kernel_rfl)
theorem qNY(X:Td)(K:KvP)(env:Env)(s:Hq):wpC TP X qCa Tryz.f145.ntmps none qI5 env (λe env s=>retK e (resK TP Tryz.f145.results.toList env (λvs=>K (oneV vs) s) s)) s=qFA X (env 1) (env 2) (env 5) K s:=(qCD 1 (λenv s=>qE7 X (env 1) (env 2) (env 5) K s) qI5 (by kernel_rfl) (λenv s=>qNr X K env s) env s).trans (by kernel_rfl)
theorem qSN(X:Td)(t0 i1:AV)(K:KvP)(s:Hq):wpC TP X qCa Tryz.f145.ntmps none (qBs Tryz.f145) (qJ3 [t0,i1]) (λe env s=>retK e (resK TP Tryz.f145.results.toList env (λvs=>K (oneV vs) s) s)) s=qRn X t0 i1 K s:=(qCD 3 (λenv s=>qFA X (env 1) (env 2) (env 5) K s) (qBs Tryz.f145) (by kernel_rfl) (λenv s=>qNY X K env s) _ s).trans (by kernel_rfl)
theorem qRk{t0 i1:AV}{K:KvP}{s:Hq}(h:qRn XX t0 i1 K s):wC TP XX 145 [t0,i1] K s:=wOK qAu qCa rfl Tryz.func145 h (he:=qSN XX t0 i1 K s)
def qFi(X:Td)(K:KvP)(s:Hq):Prop:=
 K (.int .i64 0) s
def qFf(X:Td)(n9 j10:AV)(I6:IvP)(m6:Nat)(I5:IvP)(m5:Nat)(K:KvP)(s:Hq):Prop:=
 oK (qAH .add j10 (.int .i64 1)) λW26=>∃m',m'<m6/\I6 [n9,W26] s m'
def qLe(X:Td)(i1 t2 t5 k8 n9 j10:AV)(I6:IvP)(m6:Nat)(I5:IvP)(m5:Nat)(K:KvP)(s:Hq):Prop:=
 oK (qAH .leq j10 i1) λW14=>qAK W14
 (oK (qAC 5 t2) λW15=>oK (rd1 s W15) λW16=>oK (qAT 2 W16 j10) λW17=>oK (qAC 0 W17) λW18=>oK (rd1 s W18) λW19=>oK (qAC 0 t5) λW20=>oK (rd1 s W20) λW21=>oK (qAT 1 W21 k8) λW22=>oK (rd1 s W22) λW23=>wC TP X 187 [W19,W23] (λW24 S25=>qAK W24
 (oK (qAH .add n9 (.int .i64 1)) λW27=>qFf X W27 j10 I6 m6 I5 m5 K S25)
 (qFf X n9 j10 I6 m6 I5 m5 K S25)) s)
 (oK (qAH .gtr n9 (.int .i64 32)) λW28=>qAK W28
 (K (.int .i64 7) s)
 (oK (qAH .add k8 (.int .i64 1)) λW29=>∃m',m'<m5/\I5 [W29] s m'))
def qLg(X:Td)(i1 t2 t5 k8:AV)(I5:IvP)(m5:Nat)(K:KvP)(s:Hq):Prop:=
 oK (qAC 0 t5) λW9=>oK (rd1 s W9) λW10=>oK (qAN W10) λW11=>oK (qAH .lss k8 (.int .i64 W11)) λW13=>qAK W13
 (∃I6:IvP,(∃m,I6 [(.int .i64 0),(.int .i64 0)] s m)/\∀(f:Env) (s:Hq) (m6:Nat),I6 [f 9,f 10] s m6->
 qLe X i1 t2 t5 k8 (f 9) (f 10) I6 m6 I5 m5 K s)
 (qFi X  K s)
def qEL(X:Td)(i1 t2 t5:AV)(K:KvP)(s:Hq):Prop:=
 ∃I5:IvP,(∃m,I5 [(.int .i64 0)] s m)/\∀(f:Env) (s:Hq) (m5:Nat),I5 [f 8] s m5->
 qLg X i1 t2 t5 (f 8) I5 m5 K s
def qFx(X:Td)(i1 t2 t5 t65 t69:AV)(K:KvP)(s:Hq):Prop:=
 oK (qAO t65 (.bool true) t69) λW35=>qAK W35
 (K (.int .i64 10) s)
 (qEL X i1 t2 t5 K s)
def qEF(X:Td)(i1 t2 t5:AV)(K:KvP)(s:Hq):Prop:=
 oK (qAC 0 t5) λW30=>oK (rd1 s W30) λW31=>wC TP X 186 [W31] (λW32 S33=>oK (qAi .not W32) λW34=>qAK W34
 (qFx X i1 t2 t5 W34 .undef K S33)
 (oK (qAC 1 t5) λW36=>oK (rd1 S33 W36) λW37=>wC TP X 186 [W37] (λW38 S39=>oK (qAi .not W38) λW40=>qFx X i1 t2 t5 W34 W40 K S39) S33)) s
def qLY(X:Td)(i1 t2 t5 k7:AV)(I9:IvP)(m9:Nat)(K:KvP)(s:Hq):Prop:=
 oK (qAC 1 t5) λW41=>oK (rd1 s W41) λW42=>oK (qAN W42) λW43=>oK (qAH .lss k7 (.int .i64 W43)) λW45=>qAK W45
 (oK (qAC 1 t5) λW46=>oK (rd1 s W46) λW47=>oK (qAT 1 W47 k7) λW48=>oK (rd1 s W48) λW49=>oK (qAC 4 t2) λW50=>oK (rd1 s W50) λW51=>oK (qAN W51) λW52=>oK (qAH .sub (.int .i64 W52) (.int .i64 1)) λW54=>wC TP X 142 [W49,(.int .i64 0),W54] (λW55 S56=>oK (qAi .not W55) λW57=>qAK W57
 (K (.int .i64 2) S56)
 (oK (qAH .add k7 (.int .i64 1)) λW58=>∃m',m'<m9/\I9 [W58] S56 m')) s)
 (qEF X i1 t2 t5 K s)
def qEO(X:Td)(i1 t2 t5:AV)(K:KvP)(s:Hq):Prop:=
 ∃I9:IvP,(∃m,I9 [(.int .i64 0)] s m)/\∀(f:Env) (s:Hq) (m9:Nat),I9 [f 7] s m9->
 qLY X i1 t2 t5 (f 7) I9 m9 K s
def qKH(X:Td)(i1 t2 t5 k6:AV)(I10:IvP)(m10:Nat)(K:KvP)(s:Hq):Prop:=
 oK (qAC 0 t5) λW59=>oK (rd1 s W59) λW60=>oK (qAN W60) λW61=>oK (qAH .lss k6 (.int .i64 W61)) λW63=>qAK W63
 (oK (qAC 0 t5) λW64=>oK (rd1 s W64) λW65=>oK (qAT 1 W65 k6) λW66=>oK (rd1 s W66) λW67=>oK (qAC 0 t2) λW68=>oK (rd1 s W68) λW69=>oK (qAH .sub W69 (.int .i64 1)) λW70=>wC TP X 142 [W67,(.int .i64 0),W70] (λW71 S72=>oK (qAi .not W71) λW73=>qAK W73
 (K (.int .i64 2) S72)
 (oK (qAH .add k6 (.int .i64 1)) λW74=>∃m',m'<m10/\I10 [W74] S72 m')) s)
 (qEO X i1 t2 t5 K s)
def qDP(X:Td)(i1 t2 t5:AV)(K:KvP)(s:Hq):Prop:=
 ∃I10:IvP,(∃m,I10 [(.int .i64 0)] s m)/\∀(f:Env) (s:Hq) (m10:Nat),I10 [f 6] s m10->
 qKH X i1 t2 t5 (f 6) I10 m10 K s
def qEq(X:Td)(i1 t2 t5 t20 t24:AV)(K:KvP)(s:Hq):Prop:=
 oK (qAO t20 (.bool true) t24) λW80=>qAK W80
 (K (.int .i64 3) s)
 (qDP X i1 t2 t5 K s)
def qPR(X:Td)(t0 i1:AV)(K:KvP)(s:Hq):Prop:=
 boxK 31 t0 (λB0 S1=>oK (qAC 5 B0) λW2=>oK (rd1 S1 W2) λW3=>oK (qAT 2 W3 i1) λW4=>oK (rdN S1 2 W4) λW5=>newK 64 [.nilslc,.nilslc] (λB6 S7=>oK (qBA S7 2 (.ptr B6 0) (.agg W5)) λS8=>oK (qAC 0 (.ptr B6 0)) λW75=>oK (rd1 S8 W75) λW76=>oK (qAN W76) λW77=>oK (negB false (eqV 0 true (.int .i64 W77) (.int .i64 0))) λW79=>qAK W79
 (qEq X i1 B0 (.ptr B6 0) W79 .undef K S8)
 (oK (qAC 1 (.ptr B6 0)) λW81=>oK (rd1 S8 W81) λW82=>oK (qAN W82) λW83=>oK (negB false (eqV 0 true (.int .i64 W83) (.int .i64 0))) λW85=>qEq X i1 B0 (.ptr B6 0) W79 W85 K S8)) S1) s
def qCd:Nat->List Nat:=λk=>cond (Nat.beq k 34) [8] (cond (Nat.beq k 42) [9,10] (cond (Nat.beq k 20) [7] (cond (Nat.beq k 10) [6] ([]))))
noncomputable def qIS:Code:=qB1 3 (qBs Tryz.f146)
noncomputable def qH0:Code:=qB1 1 qIS
noncomputable def qHs:Code:=qB1 1 qH0
noncomputable def qH4:Code:=qB1 1 qHs
noncomputable def qQo:Code:=qB1 1 qH4
theorem qMt(X:Td)(K:KvP)(env:Env)(s:Hq):wpC TP X qCd Tryz.f146.ntmps none qQo env (λe env s=>retK e (resK TP Tryz.f146.results.toList env (λvs=>K (oneV vs) s) s)) s=qFi X K s:=by kernel_rfl
theorem qMq(X:Td)(K:KvP)(env:Env)(s:Hq):wpC TP X qCd Tryz.f146.ntmps none qH4 env (λe env s=>retK e (resK TP Tryz.f146.results.toList env (λvs=>K (oneV vs) s) s)) s=qEL X (env 1) (env 2) (env 5) K s:=(qCD 1 (λenv s=>qFi X K s) qH4 (by kernel_rfl) (λenv s=>qMt X K env s) env s).trans (by kernel_rfl)
theorem qMv(X:Td)(K:KvP)(env:Env)(s:Hq):wpC TP X qCd Tryz.f146.ntmps none qHs env (λe env s=>retK e (resK TP Tryz.f146.results.toList env (λvs=>K (oneV vs) s) s)) s=qEF X (env 1) (env 2) (env 5) K s:=(qCD 1 (λenv s=>qEL X (env 1) (env 2) (env 5) K s) qHs (by kernel_rfl) (λenv s=>qMq X K env s) env s).trans (by kernel_rfl)
theorem qMx(X:Td)(K:KvP)(env:Env)(s:Hq):wpC TP X qCd Tryz.f146.ntmps none qH0 env (λe env s=>retK e (resK TP Tryz.f146.results.toList env (λvs=>K (oneV vs) s) s)) s=qEO X (env 1) (env 2) (env 5) K s:=(qCD 1 (λenv s=>qEF X (env 1) (env 2) (env 5) K s) qH0 (by kernel_rfl) (λenv s=>qMv X K env s) env s).trans (by kernel_rfl)
theorem qM7(X:Td)(K:KvP)(env:Env)(s:Hq):wpC TP X qCd Tryz.f146.ntmps none qIS env (λe env s=>retK e (resK TP Tryz.f146.results.toList env (λvs=>K (oneV vs) s) s)) s=qDP X (env 1) (env 2) (env 5) K s:=(qCD 1 (λenv s=>qEO X (env 1) (env 2) (env 5) K s) qIS (by kernel_rfl) (λenv s=>qMx X K env s) env s).trans (by kernel_rfl)
theorem qPq(X:Td)(t0 i1:AV)(K:KvP)(s:Hq):wpC TP X qCd Tryz.f146.ntmps none (qBs Tryz.f146) (qJ3 [t0,i1]) (λe env s=>retK e (resK TP Tryz.f146.results.toList env (λvs=>K (oneV vs) s) s)) s=qPR X t0 i1 K s:=(qCD 3 (λenv s=>qDP X (env 1) (env 2) (env 5) K s) (qBs Tryz.f146) (by kernel_rfl) (λenv s=>qM7 X K env s) _ s).trans (by kernel_rfl)
theorem qQL{t0 i1:AV}{K:KvP}{s:Hq}(h:qPR XX t0 i1 K s):wC TP XX 146 [t0,i1] K s:=wOK qAu qCd rfl Tryz.func146 h (he:=qPq XX t0 i1 K s)
end Go.AM
namespace Go.AM
open Go Go.Proofs
set_option maxRecDepth 100000
def qJo(X:Td)(K:KvP)(s:Hq):Prop:=
 K (.int .i64 0) s
def qJk(X:Td)(k9 t147 t153 t157 t162:AV)(I5:IvP)(m5:Nat)(K:KvP)(s:Hq):Prop:=
 oK (qAO t157 t162 (.bool false)) λW48=>oK (qAO t153 (.bool true) W48) λW49=>oK (qAO t147 W49 (.bool false)) λW50=>qAK W50
 (K (.int .i64 11) s)
 (oK (qAH .add k9 (.int .i64 1)) λW51=>∃m',m'<m5/\I5 [W51] s m')
def qPQ(X:Td)(i1 t2 h5 k9:AV)(I5:IvP)(m5:Nat)(K:KvP)(s:Hq):Prop:=
 oK (qAH .lss k9 i1) λW24=>qAK W24
 (oK (qAC 6 t2) λW25=>oK (rd1 s W25) λW26=>oK (qAT 4 W26 k9) λW27=>oK (rdN s 4 W27) λW28=>newK 61 [(.int .u64 0),(.int .u32 0),(.int .i64 0),(.int .i64 0)] (λB29 S30=>oK (qBA S30 4 (.ptr B29 0) (.agg W28)) λS31=>oK (qAC 2 (.ptr B29 0)) λW32=>oK (rd1 S31 W32) λW33=>oK (qAC 2 h5) λW34=>oK (rd1 S31 W34) λW35=>oK (negB false (eqV 0 false W33 W35)) λW36=>qAK W36
 (oK (qAC 0 (.ptr B29 0)) λW37=>oK (rd1 S31 W37) λW38=>oK (qAC 0 h5) λW39=>oK (rd1 S31 W39) λW40=>oK (negB false (eqV 0 false W38 W40)) λW41=>qAK W41
 (oK (qAO W41 (.bool true) .undef) λW42=>oK (qAO W36 W42 (.bool false)) λW43=>qAK W43
 (K (.int .i64 11) S31)
 (oK (qAH .add k9 (.int .i64 1)) λW44=>∃m',m'<m5/\I5 [W44] S31 m'))
 (oK (qAC 1 h5) λW45=>oK (rd1 S31 W45) λW46=>oK (negB true (eqV 0 true W46 (.int .u32 0))) λW47=>qAK W47
 (oK (qAC 1 (.ptr B29 0)) λW52=>oK (rd1 S31 W52) λW53=>oK (qAC 1 h5) λW54=>oK (rd1 S31 W54) λW55=>oK (negB false (eqV 0 false W53 W55)) λW56=>qJk X k9 W36 W41 W47 W56 I5 m5 K S31)
 (qJk X k9 W36 W41 W47 .undef I5 m5 K S31)))
 (oK (qAO W36 .undef (.bool false)) λW57=>qAK W57
 (K (.int .i64 11) S31)
 (oK (qAH .add k9 (.int .i64 1)) λW58=>∃m',m'<m5/\I5 [W58] S31 m'))) s)
 (qJo X  K s)
def qDN(X:Td)(i1 t2 h5:AV)(K:KvP)(s:Hq):Prop:=
 ∃I5:IvP,(∃m,I5 [(.int .i64 0)] s m)/\∀(f:Env) (s:Hq) (m5:Nat),I5 [f 9] s m5->
 qPQ X i1 t2 h5 (f 9) I5 m5 K s
def qJm(X:Td)(i1 t2 h5 t101 t124 t129:AV)(K:KvP)(s:Hq):Prop:=
 oK (qAO t124 (.bool true) t129) λW72=>oK (qAO t101 W72 (.bool false)) λW73=>qAK W73
 (K (.int .i64 3) s)
 (qDN X i1 t2 h5 K s)
def qHM(X:Td)(i1 t2 h5 b8 t101 t108 t114:AV)(K:KvP)(s:Hq):Prop:=
 oK (qAO t108 (.bool true) t114) λW70=>qAK W70
 (oK (qAO W70 (.bool true) .undef) λW71=>qAK W71
 (qJm X i1 t2 h5 t101 W71 .undef K s)
 (oK (qAC 1 h5) λW74=>oK (rd1 s W74) λW75=>oK (qAC 5 b8) λW76=>oK (rd1 s W76) λW77=>oK (negB false (eqV 0 false W75 W77)) λW78=>qJm X i1 t2 h5 t101 W71 W78 K s))
 (oK (qAC 1 h5) λW79=>oK (rd1 s W79) λW80=>oK (qAC 3 b8) λW81=>oK (rdN s 2 W81) λW82=>wC TP X 184 [(.agg W82)] (λW83 S84=>(∀b,s b≠none->s b=none->S84 b=none)->
 oK (negB false (eqV 0 false W80 W83)) λW85=>oK (qAO W70 (.bool true) W85) λW86=>qAK W86
 (oK (qAO W86 (.bool true) .undef) λW87=>oK (qAO t101 W87 (.bool false)) λW88=>qAK W88
 (K (.int .i64 3) (add s S84))
 (qDN X i1 t2 h5 K (add s S84)))
 (oK (qAC 1 h5) λW89=>oK (rd1 (add s S84) W89) λW90=>oK (qAC 5 b8) λW91=>oK (rd1 (add s S84) W91) λW92=>oK (negB false (eqV 0 false W90 W92)) λW93=>oK (qAO W86 (.bool true) W93) λW94=>oK (qAO t101 W94 (.bool false)) λW95=>qAK W95
 (K (.int .i64 3) (add s S84))
 (qDN X i1 t2 h5 K (add s S84)))) (frz s))
def qJl(X:Td)(i1 t2 h5 b8 t96 t99:AV)(K:KvP)(s:Hq):Prop:=
 oK (qAO t96 t99 (.bool false)) λW62=>qAK W62
 (oK (qAC 3 b8) λW63=>oK (rdN s 2 W63) λW64=>oK (qAC 1 h5) λW65=>oK (rd1 s W65) λW66=>wC TP X 183 [(.agg W64),W66] (λW67 S68=>oK (qAi .not W67) λW69=>qAK W69
 (qHM X i1 t2 h5 b8 W62 W69 .undef K S68)
 (oK (qAC 1 h5) λW96=>oK (rd1 S68 W96) λW97=>oK (qAC 3 b8) λW98=>oK (qAC 0 W98) λW99=>oK (rd1 S68 W99) λW100=>oK (negB false (eqV 0 false W97 W100)) λW101=>qHM X i1 t2 h5 b8 W62 W69 W101 K S68)) s)
 (oK (qAO W62 .undef (.bool false)) λW102=>qAK W102
 (K (.int .i64 3) s)
 (qDN X i1 t2 h5 K s))
def qEh(X:Td)(i1 t2 h5 b8:AV)(K:KvP)(s:Hq):Prop:=
 oK (qAC 5 b8) λW59=>oK (rd1 s W59) λW60=>oK (negB true (eqV 0 true W60 (.int .u32 0))) λW61=>qAK W61
 (oK (qAC 1 h5) λW103=>oK (rd1 s W103) λW104=>oK (negB true (eqV 0 true W104 (.int .u32 0))) λW105=>qJl X i1 t2 h5 b8 W61 W105 K s)
 (qJl X i1 t2 h5 b8 W61 .undef K s)
def qHx(X:Td)(i1 t2 h5 b8 t83 t87 t90:AV)(K:KvP)(s:Hq):Prop:=
 oK (qAO t87 t90 (.bool false)) λW114=>oK (qAO t83 (.bool true) W114) λW115=>qAK W115
 (K (.int .i64 3) s)
 (qEh X i1 t2 h5 b8 K s)
def qH8(X:Td)(i1 t2 h5 b8 t80 t81:AV)(K:KvP)(s:Hq):Prop:=
 oK (qAO t80 (.bool true) t81) λW109=>qAK W109
 (oK (qAO W109 (.bool true) .undef) λW110=>qAK W110
 (K (.int .i64 3) s)
 (qEh X i1 t2 h5 b8 K s))
 (oK (qAC 5 b8) λW111=>oK (rd1 s W111) λW112=>oK (negB false (eqV 0 true W112 (.int .u32 0))) λW113=>qAK W113
 (oK (qAC 1 h5) λW116=>oK (rd1 s W116) λW117=>oK (negB true (eqV 0 true W117 (.int .u32 0))) λW118=>qHx X i1 t2 h5 b8 W109 W113 W118 K s)
 (qHx X i1 t2 h5 b8 W109 W113 .undef K s))
def qFz(X:Td)(i1 t2 h5:AV)(K:KvP)(s:Hq):Prop:=
 oK (qAC 0 h5) λW9=>oK (rd1 s W9) λW10=>wC TP X 189 [W10] (λW11 S12=>oK (qAl W11 0) λW13=>oK (qAl W11 1) λW14=>oK (qAC 4 t2) λW15=>oK (rd1 S12 W15) λW16=>oK (qAC 2 h5) λW17=>oK (rd1 S12 W17) λW18=>oK (qAT 6 W16 W18) λW19=>oK (rdN S12 6 W19) λW20=>newK 69 [(.int .i64 0),(.int .u32 0),(.int .u32 0),(.int .u32 0),(.int .i64 0),(.int .u32 0)] (λB21 S22=>oK (qBA S22 6 (.ptr B21 0) (.agg W20)) λS23=>oK (qAC 0 h5) λW106=>oK (rd1 S23 W106) λW107=>oK (negB false (eqV 0 true W107 (.int .u64 1577058561))) λW108=>qAK W108
 (qH8 X i1 t2 h5 (.ptr B21 0) W108 .undef K S23)
 (qH8 X i1 t2 h5 (.ptr B21 0) W108 W14 K S23)) S12) s
def qIB(X:Td)(i1 t2 h5 t52 t63:AV)(K:KvP)(s:Hq):Prop:=
 oK (qAO t52 t63 (.bool false)) λW122=>qAK W122
 (K (.int .i64 8) s)
 (qFz X i1 t2 h5 K s)
def qJt(X:Td)(i1 t2 h5:AV)(K:KvP)(s:Hq):Prop:=
 oK (qAC 3 h5) λW119=>oK (rd1 s W119) λW120=>oK (negB true (eqV 0 true W120 (.int .i64 (-1)))) λW121=>qAK W121
 (oK (qAC 5 t2) λW123=>oK (rd1 s W123) λW124=>oK (qAC 3 h5) λW125=>oK (rd1 s W125) λW126=>oK (qAT 2 W124 W126) λW127=>oK (qAC 1 W127) λW128=>oK (rd1 s W128) λW129=>oK (qAC 2 h5) λW130=>oK (rd1 s W130) λW131=>wC TP X 187 [W129,W131] (λW132 S133=>oK (qAi .not W132) λW134=>qIB X i1 t2 h5 W121 W134 K S133) s)
 (qIB X i1 t2 h5 W121 .undef K s)
def qDH(X:Td)(i1 t2 h5 t39 t47:AV)(K:KvP)(s:Hq):Prop:=
 oK (qAO t39 (.bool true) t47) λW141=>qAK W141
 (K (.int .i64 2) s)
 (qJt X i1 t2 h5 K s)
def qDm(X:Td)(i1 t2 h5 t29 t37:AV)(K:KvP)(s:Hq):Prop:=
 oK (qAO t29 (.bool true) t37) λW140=>qAK W140
 (qDH X i1 t2 h5 W140 .undef K s)
 (oK (qAC 3 h5) λW142=>oK (rd1 s W142) λW143=>oK (qAC 5 t2) λW144=>oK (rd1 s W144) λW145=>oK (qAN W145) λW146=>oK (qAH .sub (.int .i64 W146) (.int .i64 1)) λW148=>wC TP X 142 [W143,(.int .i64 (-1)),W148] (λW149 S150=>oK (qAi .not W149) λW151=>qDH X i1 t2 h5 W140 W151 K S150) s)
def qEg(X:Td)(i1 t2 h5 t24 t27:AV)(K:KvP)(s:Hq):Prop:=
 oK (qAO t24 (.bool true) t27) λW139=>qAK W139
 (qDm X i1 t2 h5 W139 .undef K s)
 (oK (qAC 2 h5) λW152=>oK (rd1 s W152) λW153=>oK (qAC 4 t2) λW154=>oK (rd1 s W154) λW155=>oK (qAN W155) λW156=>oK (qAH .sub (.int .i64 W156) (.int .i64 1)) λW158=>wC TP X 142 [W153,(.int .i64 0),W158] (λW159 S160=>oK (qAi .not W159) λW161=>qDm X i1 t2 h5 W139 W161 K S160) s)
def qGL(X:Td)(i1 t2 h5 t19 t22:AV)(K:KvP)(s:Hq):Prop:=
 oK (qAO t19 (.bool true) t22) λW138=>qAK W138
 (qEg X i1 t2 h5 W138 .undef K s)
 (oK (qAC 0 h5) λW162=>oK (rd1 s W162) λW163=>wC TP X 188 [W163] (λW164 S165=>qEg X i1 t2 h5 W138 W164 K S165) s)
def qYh(X:Td)(t0 i1:AV)(K:KvP)(s:Hq):Prop:=
 boxK 31 t0 (λB0 S1=>oK (qAC 6 B0) λW2=>oK (rd1 S1 W2) λW3=>oK (qAT 4 W3 i1) λW4=>oK (rdN S1 4 W4) λW5=>newK 61 [(.int .u64 0),(.int .u32 0),(.int .i64 0),(.int .i64 0)] (λB6 S7=>oK (qBA S7 4 (.ptr B6 0) (.agg W5)) λS8=>oK (qAC 0 (.ptr B6 0)) λW135=>oK (rd1 S8 W135) λW136=>oK (negB false (eqV 0 true W136 (.int .u64 0))) λW137=>qAK W137
 (qGL X i1 B0 (.ptr B6 0) W137 .undef K S8)
 (oK (qAC 0 (.ptr B6 0)) λW166=>oK (rd1 S8 W166) λW167=>oK (qAH .gtr W167 (.int .u64 281474976710655)) λW168=>qGL X i1 B0 (.ptr B6 0) W137 W168 K S8)) S1) s
def qDo:Nat->List Nat:=λk=>cond (Nat.beq k 26) [9] ([])
noncomputable def qMH:Code:=qB1 3 (qBs Tryz.f147)
noncomputable def qLx:Code:=qB1 1 qMH
noncomputable def qL3:Code:=qB1 3 qLx
noncomputable def qL8:Code:=qB1 1 qL3
noncomputable def qVg:Code:=qB1 1 qL8
theorem qQs(X:Td)(K:KvP)(env:Env)(s:Hq):wpC TP X qDo Tryz.f147.ntmps none qVg env (λe env s=>retK e (resK TP Tryz.f147.results.toList env (λvs=>K (oneV vs) s) s)) s=qJo X K s:=by kernel_rfl
theorem qQN(X:Td)(K:KvP)(env:Env)(s:Hq):wpC TP X qDo Tryz.f147.ntmps none qL8 env (λe env s=>retK e (resK TP Tryz.f147.results.toList env (λvs=>K (oneV vs) s) s)) s=qDN X (env 1) (env 2) (env 5) K s:=(qCD 1 (λenv s=>qJo X K s) qL8 (by kernel_rfl) (λenv s=>qQs X K env s) env s).trans (by kernel_rfl)
theorem qQ3(X:Td)(K:KvP)(env:Env)(s:Hq):wpC TP X qDo Tryz.f147.ntmps none qL3 env (λe env s=>retK e (resK TP Tryz.f147.results.toList env (λvs=>K (oneV vs) s) s)) s=qEh X (env 1) (env 2) (env 5) (env 8) K s:=(qCD 1 (λenv s=>qDN X (env 1) (env 2) (env 5) K s) qL3 (by kernel_rfl) (λenv s=>qQN X K env s) env s).trans (by kernel_rfl)
theorem qQP(X:Td)(K:KvP)(env:Env)(s:Hq):wpC TP X qDo Tryz.f147.ntmps none qLx env (λe env s=>retK e (resK TP Tryz.f147.results.toList env (λvs=>K (oneV vs) s) s)) s=qFz X (env 1) (env 2) (env 5) K s:=(qCD 3 (λenv s=>qEh X (env 1) (env 2) (env 5) (env 8) K s) qLx (by kernel_rfl) (λenv s=>qQ3 X K env s) env s).trans (by kernel_rfl)
theorem qQV(X:Td)(K:KvP)(env:Env)(s:Hq):wpC TP X qDo Tryz.f147.ntmps none qMH env (λe env s=>retK e (resK TP Tryz.f147.results.toList env (λvs=>K (oneV vs) s) s)) s=qJt X (env 1) (env 2) (env 5) K s:=(qCD 1 (λenv s=>qFz X (env 1) (env 2) (env 5) K s) qMH (by kernel_rfl) (λenv s=>qQP X K env s) env s).trans (by kernel_rfl)
theorem qVT(X:Td)(t0 i1:AV)(K:KvP)(s:Hq):wpC TP X qDo Tryz.f147.ntmps none (qBs Tryz.f147) (qJ3 [t0,i1]) (λe env s=>retK e (resK TP Tryz.f147.results.toList env (λvs=>K (oneV vs) s) s)) s=qYh X t0 i1 K s:=(qCD 3 (λenv s=>qJt X (env 1) (env 2) (env 5) K s) (qBs Tryz.f147) (by kernel_rfl) (λenv s=>qQV X K env s) _ s).trans (by kernel_rfl)
theorem qVP{t0 i1:AV}{K:KvP}{s:Hq}(h:qYh XX t0 i1 K s):wC TP XX 147 [t0,i1] K s:=wOK qAu qDo rfl Tryz.func147 h (he:=qVT XX t0 i1 K s)
def qJr(X:Td)(K:KvP)(s:Hq):Prop:=
 K (.int .i64 0) s
def qPF(X:Td)(i1 t2 l5 k6:AV)(I3:IvP)(m3:Nat)(K:KvP)(s:Hq):Prop:=
 oK (qAH .lss k6 i1) λW9=>qAK W9
 (oK (qAC 7 t2) λW10=>oK (rd1 s W10) λW11=>oK (qAT 4 W11 k6) λW12=>oK (rdN s 4 W12) λW13=>oK (rdN s 4 l5) λW14=>oK (negB false (qGP TP 118 (.agg W13) (.agg W14))) λW15=>qAK W15
 (K (.int .i64 11) s)
 (oK (qAH .add k6 (.int .i64 1)) λW16=>∃m',m'<m3/\I3 [W16] s m'))
 (qJr X  K s)
def qJg(X:Td)(i1 t2 l5:AV)(K:KvP)(s:Hq):Prop:=
 ∃I3:IvP,(∃m,I3 [(.int .i64 0)] s m)/\∀(f:Env) (s:Hq) (m3:Nat),I3 [f 6] s m3->
 qPF X i1 t2 l5 (f 6) I3 m3 K s
def qJv(X:Td)(i1 t2 l5 t35 t39:AV)(K:KvP)(s:Hq):Prop:=
 oK (qAO t35 (.bool true) t39) λW22=>qAK W22
 (K (.int .i64 3) s)
 (qJg X i1 t2 l5 K s)
def qJ0(X:Td)(i1 t2 l5:AV)(K:KvP)(s:Hq):Prop:=
 oK (qAC 0 l5) λW17=>oK (rd1 s W17) λW18=>oK (qAC 1 l5) λW19=>oK (rd1 s W19) λW20=>oK (negB false (eqV 0 false W18 W20)) λW21=>qAK W21
 (qJv X i1 t2 l5 W21 .undef K s)
 (oK (qAC 2 l5) λW23=>oK (rdN s 2 W23) λW24=>wC TP X 182 [(.agg W24)] (λW25 S26=>oK (qAi .not W25) λW27=>qJv X i1 t2 l5 W21 W27 K S26) s)
def qHN(X:Td)(i1 t2 l5 t20 t28:AV)(K:KvP)(s:Hq):Prop:=
 oK (qAO t20 (.bool true) t28) λW38=>qAK W38
 (K (.int .i64 2) s)
 (qJ0 X i1 t2 l5 K s)
def qXb(X:Td)(t0 i1:AV)(K:KvP)(s:Hq):Prop:=
 boxK 31 t0 (λB0 S1=>oK (qAC 7 B0) λW2=>oK (rd1 S1 W2) λW3=>oK (qAT 4 W3 i1) λW4=>oK (rdN S1 4 W4) λW5=>newK 118 [(.int .i64 0),(.int .i64 0),(.int .u32 0),(.int .i64 0)] (λB6 S7=>oK (qBA S7 4 (.ptr B6 0) (.agg W5)) λS8=>oK (qAC 0 (.ptr B6 0)) λW28=>oK (rd1 S8 W28) λW29=>oK (qAC 3 B0) λW30=>oK (rd1 S8 W30) λW31=>oK (qAN W31) λW32=>oK (qAH .sub (.int .i64 W32) (.int .i64 1)) λW34=>wC TP X 142 [W29,(.int .i64 0),W34] (λW35 S36=>oK (qAi .not W35) λW37=>qAK W37
 (qHN X i1 B0 (.ptr B6 0) W37 .undef K S36)
 (oK (qAC 1 (.ptr B6 0)) λW39=>oK (rd1 S36 W39) λW40=>oK (qAC 3 B0) λW41=>oK (rd1 S36 W41) λW42=>oK (qAN W42) λW43=>oK (qAH .sub (.int .i64 W43) (.int .i64 1)) λW45=>wC TP X 142 [W40,(.int .i64 0),W45] (λW46 S47=>oK (qAi .not W46) λW48=>qHN X i1 B0 (.ptr B6 0) W37 W48 K S47) S36)) S8) S1) s
def qGH:Nat->List Nat:=λk=>cond (Nat.beq k 14) [6] ([])
noncomputable def qL0:Code:=qB1 3 (qBs Tryz.f148)
noncomputable def qMG:Code:=qB1 1 qL0
noncomputable def qVu:Code:=qB1 1 qMG
theorem qP4(X:Td)(K:KvP)(env:Env)(s:Hq):wpC TP X qGH Tryz.f148.ntmps none qVu env (λe env s=>retK e (resK TP Tryz.f148.results.toList env (λvs=>K (oneV vs) s) s)) s=qJr X K s:=by kernel_rfl
theorem qPo(X:Td)(K:KvP)(env:Env)(s:Hq):wpC TP X qGH Tryz.f148.ntmps none qMG env (λe env s=>retK e (resK TP Tryz.f148.results.toList env (λvs=>K (oneV vs) s) s)) s=qJg X (env 1) (env 2) (env 5) K s:=(qCD 1 (λenv s=>qJr X K s) qMG (by kernel_rfl) (λenv s=>qP4 X K env s) env s).trans (by kernel_rfl)
theorem qQI(X:Td)(K:KvP)(env:Env)(s:Hq):wpC TP X qGH Tryz.f148.ntmps none qL0 env (λe env s=>retK e (resK TP Tryz.f148.results.toList env (λvs=>K (oneV vs) s) s)) s=qJ0 X (env 1) (env 2) (env 5) K s:=(qCD 1 (λenv s=>qJg X (env 1) (env 2) (env 5) K s) qL0 (by kernel_rfl) (λenv s=>qPo X K env s) env s).trans (by kernel_rfl)
theorem qVD(X:Td)(t0 i1:AV)(K:KvP)(s:Hq):wpC TP X qGH Tryz.f148.ntmps none (qBs Tryz.f148) (qJ3 [t0,i1]) (λe env s=>retK e (resK TP Tryz.f148.results.toList env (λvs=>K (oneV vs) s) s)) s=qXb X t0 i1 K s:=(qCD 3 (λenv s=>qJ0 X (env 1) (env 2) (env 5) K s) (qBs Tryz.f148) (by kernel_rfl) (λenv s=>qQI X K env s) _ s).trans (by kernel_rfl)
theorem qVj{t0 i1:AV}{K:KvP}{s:Hq}(h:qXb XX t0 i1 K s):wC TP XX 148 [t0,i1] K s:=wOK qAu qGH rfl Tryz.func148 h (he:=qVD XX t0 i1 K s)
def qN0(X:Td)(t12 t15:AV)(K:KvP)(s:Hq):Prop:=
 oK (qAO t12 t15 (.bool false)) λW11=>K W11 s
def zAAW(X:Td)(p0:AV)(K:KvP)(s:Hq):Prop:=
 boxK 67 p0 (λB0 S1=>oK (rdN S1 2 B0) λW2=>wC TP X 195 [(.agg W2)] (λW3 S4=>oK (qAl W3 0) λW5=>oK (qAl W3 1) λW6=>newK 67 [(.int .u32 0),(.int .i64 0)] (λB7 S8=>oK (qBA S8 2 (.ptr B7 0) W5) λS9=>oK (negB false (eqV 0 true W6 (.int .i64 0))) λW10=>qAK W10
 (oK (rdN S9 2 (.ptr B7 0)) λW12=>oK (rdN S9 2 B0) λW13=>oK (negB false (qGP TP 67 (.agg W12) (.agg W13))) λW14=>qN0 X W10 W14 K S9)
 (qN0 X W10 .undef K S9)) S4) S1) s
theorem qS6{p0:AV}{K:KvP}{s:Hq}(h:zAAW XX p0 K s):wC TP XX 182 [p0] K s:=wOK qAu nA0 rfl Tryz.func182 h
def qHB(X:Td)(p0 x1:AV)(K:KvP)(s:Hq):Prop:=
 boxK 67 p0 (λB0 S1=>oK (rdN S1 2 B0) λW2=>wC TP X 196 [(.agg W2)] (λW3 S4=>qAK W3
 (oK (qAC 0 B0) λW5=>oK (rd1 S4 W5) λW6=>oK (qAC 1 B0) λW7=>oK (rd1 S4 W7) λW8=>wC TP X 197 [W8] (λW9 S10=>(∀b,S4 b≠none->S4 b=none->S10 b=none)->
 oK (qAH .and W6 W9) λW11=>oK (qAC 1 B0) λW12=>oK (rd1 (cutH [(S4,(add S4 S10))] (add S4 S10)) W12) λW13=>wC TP X 197 [W13] (λW14 S15=>(∀b,(add S4 S10) b≠none->(add S4 S10) b=none->S15 b=none)->
 oK (qAH .and x1 W14) λW16=>oK (negB false (eqV 0 false W11 W16)) λW17=>oK (qAO W3 W17 (.bool false)) λW18=>K W18 (add (add S4 S10) S15)) (frz (add S4 S10))) (frz S4))
 (oK (qAO W3 .undef (.bool false)) λW19=>K W19 S4)) S1) s
theorem qFZ{p0 x1:AV}{K:KvP}{s:Hq}(h:qHB XX p0 x1 K s):wC TP XX 183 [p0,x1] K s:=wOK qAu nA0 rfl Tryz.func183 h
end Go.AM
namespace Go.AM
open Go Go.Proofs
set_option maxRecDepth 100000
def zABc(X:Td)(p0:AV)(K:KvP)(s:Hq):Prop:=
 boxK 67 p0 (λB0 S1=>oK (qAC 0 B0) λW2=>oK (rd1 S1 W2) λW3=>oK (qAC 1 B0) λW4=>oK (rd1 S1 W4) λW5=>oK (qAH .sub (.int .i64 32) W5) λW6=>oK (qGt .shl (.int .u32 1) W6) λW7=>oK (qAH .sub W7 (.int .u32 1)) λW8=>oK (qAH .add W3 W8) λW9=>K W9 S1) s
theorem qWF{p0:AV}{K:KvP}{s:Hq}(h:zABc XX p0 K s):wC TP XX 184 [p0] K s:=wOK qAu nA0 rfl Tryz.func184 h
def qLb(X:Td)(t9 t13:AV)(K:KvP)(s:Hq):Prop:=
 oK (qAO t9 (.bool true) t13) λW9=>K W9 s
def qV0(X:Td)(a0 b1:AV)(K:KvP)(s:Hq):Prop:=
 boxK 67 a0 (λB0 S1=>boxK 67 b1 (λB2 S3=>oK (rdN S3 2 B0) λW4=>oK (qAC 0 B2) λW5=>oK (rd1 S3 W5) λW6=>wC TP X 183 [(.agg W4),W6] (λW7 S8=>qAK W7
 (qLb X W7 .undef K S8)
 (oK (rdN S8 2 B2) λW10=>oK (qAC 0 B0) λW11=>oK (rd1 S8 W11) λW12=>wC TP X 183 [(.agg W10),W12] (λW13 S14=>qLb X W7 W13 K S14) S8)) S3) S1) s
theorem qQK{a0 b1:AV}{K:KvP}{s:Hq}(h:qV0 XX a0 b1 K s):wC TP XX 185 [a0,b1] K s:=wOK qAu nA0 rfl Tryz.func185 h
def qJO(X:Td)(l0 i3:AV)(I0:IvP)(m0:Nat)(K:KvP)(s:Hq):Prop:=
 oK (qAN l0) λW0=>oK (qAH .lss i3 (.int .i64 W0)) λW2=>qAK W2
 (oK (qAT 1 l0 i3) λW3=>oK (rd1 s W3) λW4=>oK (qAH .sub i3 (.int .i64 1)) λW5=>oK (qAT 1 l0 W5) λW6=>oK (rd1 s W6) λW7=>oK (qAH .leq W4 W7) λW8=>qAK W8
 (K (.bool false) s)
 (oK (qAH .add i3 (.int .i64 1)) λW9=>∃m',m'<m0/\I0 [W9] s m'))
 (K (.bool true) s)
def qMm(X:Td)(l0:AV)(K:KvP)(s:Hq):Prop:=
 ∃I0:IvP,(∃m,I0 [(.int .i64 1)] s m)/\∀(f:Env) (s:Hq) (m0:Nat),I0 [f 3] s m0->
 qJO X l0 (f 3) I0 m0 K s
def qM1:Nat->List Nat:=λk=>cond (Nat.beq k 4) [3] ([])
theorem qOu{l0:AV}{K:KvP}{s:Hq}(h:qMm XX l0 K s):wC TP XX 186 [l0] K s:=wOK qAu qM1 rfl Tryz.func186 h
def qSB(X:Td)(l0 n1 i5:AV)(I0:IvP)(m0:Nat)(K:KvP)(s:Hq):Prop:=
 oK (qAN l0) λW0=>oK (qAH .lss i5 (.int .i64 W0)) λW2=>qAK W2
 (oK (qAT 1 l0 i5) λW3=>oK (rd1 s W3) λW4=>oK (negB false (eqV 0 false W4 n1)) λW5=>qAK W5
 (K (.bool true) s)
 (oK (qAH .add i5 (.int .i64 1)) λW6=>∃m',m'<m0/\I0 [W6] s m'))
 (K (.bool false) s)
def zAAd(X:Td)(l0 n1:AV)(K:KvP)(s:Hq):Prop:=
 ∃I0:IvP,(∃m,I0 [(.int .i64 0)] s m)/\∀(f:Env) (s:Hq) (m0:Nat),I0 [f 5] s m0->
 qSB X l0 n1 (f 5) I0 m0 K s
def qVA:Nat->List Nat:=λk=>cond (Nat.beq k 4) [5] ([])
theorem qXI{l0 n1:AV}{K:KvP}{s:Hq}(h:zAAd XX l0 n1 K s):wC TP XX 187 [l0,n1] K s:=wOK qAu qVA rfl Tryz.func187 h
def qC0(X:Td)(t5 t9:AV)(K:KvP)(s:Hq):Prop:=
 oK (qAO t5 t9 (.bool false)) λW1=>K W1 s
def qDW(X:Td)(t0:AV)(K:KvP)(s:Hq):Prop:=
 oK (qAH .leq t0 (.int .u64 281474976710655)) λW0=>qAK W0
 (oK (qGt .shr t0 (.int .u64 40)) λW2=>oK (qAH .and W2 (.int .u64 1)) λW3=>oK (negB false (eqV 0 true W3 (.int .u64 1))) λW4=>qC0 X W0 W4 K s)
 (qC0 X W0 .undef K s)
theorem qFJ{t0:AV}{K:KvP}{s:Hq}(h:qDW XX t0 K s):wC TP XX 188 [t0] K s:=wOK qAu nA0 rfl Tryz.func188 h
def qBB(X:Td)(t0 t6 t8:AV)(K:KvP)(s:Hq):Prop:=
 oK (qAO t6 (.bool true) t8) λW1=>qAK W1
 (K (.tup [(.int .i64 0),(.bool false)]) s)
 (oK (qAH .sub t0 (.int .u64 2199023255552)) λW2=>oK (qDk .i64 W2) λW3=>K (.tup [W3,(.bool true)]) s)
def qDI(X:Td)(t0:AV)(K:KvP)(s:Hq):Prop:=
 oK (qAH .lss t0 (.int .u64 2199023255552)) λW0=>qAK W0
 (qBB X t0 W0 .undef K s)
 (oK (qAH .geq t0 (.int .u64 2199023255584)) λW4=>qBB X t0 W0 W4 K s)
theorem qEv{t0:AV}{K:KvP}{s:Hq}(h:qDI XX t0 K s):wC TP XX 189 [t0] K s:=wOK qAu nA0 rfl Tryz.func189 h
def qIp(X:Td)(p0:AV)(K:KvP)(s:Hq):Prop:=
 boxK 67 p0 (λB0 S1=>newK 67 [(.int .u32 0),(.int .i64 0)] (λB2 S3=>oK (rdN S3 2 B0) λW4=>wC TP X 196 [(.agg W4)] (λW5 S6=>oK (qAi .not W5) λW7=>qAK W7
 (oK (qBb [(.int .u32 0),(.int .i64 0)] []) λC8=>oK (qBA S6 2 (.ptr B2 0) (.agg C8)) λS9=>oK (rdN S9 2 (.ptr B2 0)) λt2_10=>K (.tup [(.agg t2_10),(.int .i64 2)]) S9)
 (oK (qAC 0 B0) λW11=>oK (rd1 S6 W11) λW12=>oK (qAC 1 B0) λW13=>oK (rd1 S6 W13) λW14=>wC TP X 197 [W14] (λW15 S16=>(∀b,S6 b≠none->S6 b=none->S16 b=none)->
 oK (qAH .and W12 W15) λW17=>oK (qAC 1 B0) λW18=>oK (rd1 (cutH [(S6,(add S6 S16))] (add S6 S16)) W18) λW19=>oK (qBb [(.int .u32 0),(.int .i64 0)] [(0,1,W17),(1,1,W19)]) λC20=>oK (qBA (add S6 S16) 2 (.ptr B2 0) (.agg C20)) λS21=>oK (rdN S21 2 (.ptr B2 0)) λt2_22=>K (.tup [(.agg t2_22),(.int .i64 0)]) S21) (frz S6))) S3) S1) s
theorem qG1{p0:AV}{K:KvP}{s:Hq}(h:qIp XX p0 K s):wC TP XX 195 [p0] K s:=wOK qAu nA0 rfl Tryz.func195 h
def qDg(X:Td)(t6 t9:AV)(K:KvP)(s:Hq):Prop:=
 oK (qAO t6 t9 (.bool false)) λW5=>K W5 s
def qIe(X:Td)(p0:AV)(K:KvP)(s:Hq):Prop:=
 boxK 67 p0 (λB0 S1=>oK (qAC 1 B0) λW2=>oK (rd1 S1 W2) λW3=>oK (qAH .geq W3 (.int .i64 0)) λW4=>qAK W4
 (oK (qAC 1 B0) λW6=>oK (rd1 S1 W6) λW7=>oK (qAH .leq W7 (.int .i64 32)) λW8=>qDg X W4 W8 K S1)
 (qDg X W4 .undef K S1)) s
theorem qHG{p0:AV}{K:KvP}{s:Hq}(h:qIe XX p0 K s):wC TP XX 196 [p0] K s:=wOK qAu nA0 rfl Tryz.func196 h
def qE0(X:Td)(n0:AV)(K:KvP)(s:Hq):Prop:=
 oK (qAH .sub (.int .i64 32) n0) λW0=>oK (qGt .shl (.int .u32 1) W0) λW1=>oK (qAH .sub W1 (.int .u32 1)) λW2=>oK (qAi .xor W2) λW3=>K W3 s
theorem qHb{n0:AV}{K:KvP}{s:Hq}(h:qE0 XX n0 K s):wC TP XX 197 [n0] K s:=wOK qAu nA0 rfl Tryz.func197 h
def qBa(X:Td)(flow3:AV)(K:KvP)(s:Hq):Prop:=
 wC TP X 113 [flow3] (λW5 S6=>oK (qAH .rem W5 (.int .u32 16384)) λW7=>oK (qDk .i64 W7) λW8=>oK (qAH .add (.int .i64 49152) W8) λW9=>K W9 S6) s
def qM6(X:Td)(t0:AV)(K:KvP)(s:Hq):Prop:=
 boxK 48 t0 (λB0 S1=>oK (qAC 2 B0) λW2=>oK (rd1 S1 W2) λW3=>oK (negB false (eqV 0 true W3 (.int .i64 2))) λW4=>qAK W4
 (oK (qAC 8 B0) λW10=>oK (rdN S1 6 W10) λW11=>newK 46 [(.int .u32 0),(.int .u32 0),(.int .i64 0),(.int .i64 0),(.int .i64 0),(.int .i64 0)] (λB12 S13=>oK (qBA S13 6 (.ptr B12 0) (.agg W11)) λS14=>oK (qAC 0 (.ptr B12 0)) λW15=>oK (rd1 S14 W15) λW16=>oK (qDk .u64 W16) λW17=>wC TP X 112 [.nilslc,W17,(.int .i64 4)] (λW18 S19=>oK (qAC 1 (.ptr B12 0)) λW20=>oK (rd1 S19 W20) λW21=>oK (qDk .u64 W21) λW22=>wC TP X 112 [W18,W22,(.int .i64 4)] (λW23 S24=>oK (qAC 3 (.ptr B12 0)) λW25=>oK (rd1 S24 W25) λW26=>oK (qDk .u64 W26) λW27=>wC TP X 112 [W23,W27,(.int .i64 1)] (λW28 S29=>oK (qAC 4 (.ptr B12 0)) λW30=>oK (rd1 S29 W30) λW31=>oK (qDk .u64 W31) λW32=>wC TP X 112 [W28,W32,(.int .i64 2)] (λW33 S34=>oK (qAC 5 (.ptr B12 0)) λW35=>oK (rd1 S34 W35) λW36=>oK (qDk .u64 W36) λW37=>wC TP X 112 [W33,W37,(.int .i64 2)] (λW38 S39=>qBa X W38 K S39) S34) S29) S24) S19) S14) S1)
 (oK (qAC 0 B0) λW40=>oK (rd1 S1 W40) λW41=>wC TP X 112 [.nilslc,W41,(.int .i64 6)] (λW42 S43=>oK (qAC 1 B0) λW44=>oK (rd1 S43 W44) λW45=>wC TP X 112 [W42,W45,(.int .i64 6)] (λW46 S47=>oK (qAC 2 B0) λW48=>oK (rd1 S47 W48) λW49=>oK (qDk .u64 W49) λW50=>wC TP X 112 [W46,W50,(.int .i64 1)] (λW51 S52=>qBa X W51 K S52) S47) S43) S1)) s
theorem qKj{t0:AV}{K:KvP}{s:Hq}(h:qM6 XX t0 K s):wC TP XX 88 [t0] K s:=wOK qAu nA0 rfl Tryz.func88 h
def qJY(X:Td)(b0 n1 i7:AV)(I0:IvP)(m0:Nat)(K:KvP)(s:Hq):Prop:=
 oK (qAH .geq i7 (.int .i64 0)) λW1=>qAK W1
 (oK (qAH .mul (.int .i64 8) i7) λW2=>oK (qGt .shr n1 W2) λW3=>oK (qDk .u8 W3) λW4=>oK (qBb (repl 1 [(.int .u8 0)]) [(0,1,W4)]) λC5=>qAd C5=true/\newK 5 C5 (λB6 S7=>appK 5 1 b0 (.slc B6 0 1 (some 1) 1) (λW8 S9=>oK (qAH .sub i7 (.int .i64 1)) λW10=>∃m',m'<m0/\I0 [W8,W10] S9 m') S7) s)
 (K b0 s)
def qMb(X:Td)(b0 n1 size2:AV)(K:KvP)(s:Hq):Prop:=
 oK (qAH .sub size2 (.int .i64 1)) λW0=>∃I0:IvP,(∃m,I0 [b0,W0] s m)/\∀(f:Env) (s:Hq) (m0:Nat),I0 [f 0,f 7] s m0->
 qJY X (f 0) n1 (f 7) I0 m0 K s
def qMy:Nat->List Nat:=λk=>cond (Nat.beq k 4) [0,7] ([])
theorem qOP{b0 n1 size2:AV}{K:KvP}{s:Hq}(h:qMb XX b0 n1 size2 K s):wC TP XX 112 [b0,n1,size2] K s:=wOK qAu qMy rfl Tryz.func112 h
def qDw(X:Td)(b0 h3 i4:AV)(I0:IvP)(m0:Nat)(K:KvP)(s:Hq):Prop:=
 oK (qAN b0) λW0=>oK (qAH .lss i4 (.int .i64 W0)) λW2=>qAK W2
 (oK (qAT 1 b0 i4) λW3=>oK (rd1 s W3) λW4=>oK (qDk .u32 W4) λW5=>oK (qAH .xor h3 W5) λW6=>oK (qAH .mul W6 (.int .u32 16777619)) λW7=>oK (qAH .add i4 (.int .i64 1)) λW8=>∃m',m'<m0/\I0 [W7,W8] s m')
 (K h3 s)
def qEu(X:Td)(b0:AV)(K:KvP)(s:Hq):Prop:=
 ∃I0:IvP,(∃m,I0 [(.int .u32 2166136261),(.int .i64 0)] s m)/\∀(f:Env) (s:Hq) (m0:Nat),I0 [f 3,f 4] s m0->
 qDw X b0 (f 3) (f 4) I0 m0 K s
def qG7:Nat->List Nat:=λk=>cond (Nat.beq k 6) [3,4] ([])
theorem qHh{b0:AV}{K:KvP}{s:Hq}(h:qEu XX b0 K s):wC TP XX 95 [b0] K s:=wOK qAu qG7 rfl Tryz.func95 h
def qD9(X:Td)(b0 n1 i7:AV)(I0:IvP)(m0:Nat)(K:KvP)(s:Hq):Prop:=
 oK (qAH .geq i7 (.int .i64 0)) λW1=>qAK W1
 (oK (qAH .mul (.int .i64 8) i7) λW2=>oK (qGt .shr n1 W2) λW3=>oK (qDk .u8 W3) λW4=>oK (qBb (repl 1 [(.int .u8 0)]) [(0,1,W4)]) λC5=>qAd C5=true/\newK 5 C5 (λB6 S7=>appK 5 1 b0 (.slc B6 0 1 (some 1) 1) (λW8 S9=>oK (qAH .sub i7 (.int .i64 1)) λW10=>∃m',m'<m0/\I0 [W8,W10] S9 m') S7) s)
 (K b0 s)
def qFP(X:Td)(b0 n1 size2:AV)(K:KvP)(s:Hq):Prop:=
 oK (qAH .sub size2 (.int .i64 1)) λW0=>∃I0:IvP,(∃m,I0 [b0,W0] s m)/\∀(f:Env) (s:Hq) (m0:Nat),I0 [f 0,f 7] s m0->
 qD9 X (f 0) n1 (f 7) I0 m0 K s
def qHP:Nat->List Nat:=λk=>cond (Nat.beq k 4) [0,7] ([])
theorem qII{b0 n1 size2:AV}{K:KvP}{s:Hq}(h:qFP XX b0 n1 size2 K s):wC TP XX 94 [b0,n1,size2] K s:=wOK qAu qHP rfl Tryz.func94 h
def qDv(X:Td)(b0 h3 t6 t7:AV)(I0:IvP)(m0:Nat)(K:KvP)(s:Hq):Prop:=
 oK (qAH .lss t7 t6) λW2=>qAK W2
 (oK (qAT 1 b0 t7) λW3=>oK (rd1 s W3) λW4=>oK (qDk .u32 W4) λW5=>oK (qAH .xor h3 W5) λW6=>oK (qAH .mul W6 (.int .u32 16777619)) λW7=>oK (qAH .add t7 (.int .i64 1)) λW8=>∃m',m'<m0/\I0 [W7,W8] s m')
 (K h3 s)
def qEx(X:Td)(b0:AV)(K:KvP)(s:Hq):Prop:=
 oK (qAN b0) λW0=>∃I0:IvP,(∃m,I0 [(.int .u32 2166136261),(.int .i64 0)] s m)/\∀(f:Env) (s:Hq) (m0:Nat),I0 [f 3,f 7] s m0->
 qDv X b0 (f 3) (.int .i64 W0) (f 7) I0 m0 K s
def qG0:Nat->List Nat:=λk=>cond (Nat.beq k 6) [3,7] ([])
theorem qHZ{b0:AV}{K:KvP}{s:Hq}(h:qEx XX b0 K s):wC TP XX 113 [b0] K s:=wOK qAu qG0 rfl Tryz.func113 h
end Go.AM
namespace Go.AM
open Go Go.Proofs
set_option maxRecDepth 100000
def qBd(X:Td)(segment2 leaf3 x4 t6 w7 t43 t46:AV)(K:KvP)(s:Hq):Prop:=
 oK (qAO t43 (.bool true) t46) λW27=>qAK W27
 (oK (qAO W27 (.bool true) .undef) λW28=>qAK W28
 (K (.bool false) s)
 (oK (rdN s 19 t6) λW29=>oK (rdN s 4 w7) λW30=>wC TP X 34 [(.agg W29),(.agg W30)] (λW31 S32=>(∀b,s b≠none->s b=none->S32 b=none)->
 oK (rdN (cutH [(s,(add s S32))] (add s S32)) 19 t6) λW33=>oK (rdN (cutH [(s,(add s S32))] (add s S32)) 4 w7) λW34=>wC TP X 35 [(.agg W33),(.agg W34)] (λW35 S36=>wC TP X 33 [W31,W35] (λW37 S38=>qAK W37
 (oK (rdN S38 19 t6) λW39=>oK (rdN S38 4 w7) λW40=>wC TP X 26 [(.agg W39),(.agg W40),segment2] (λW41 S42=>(∀b,S38 b≠none->S38 b=none->S42 b=none)->
 oK (rdN (cutH [(S38,(add S38 S42))] (add S38 S42)) 19 t6) λW43=>oK (rdN (cutH [(S38,(add S38 S42))] (add S38 S42)) 4 w7) λW44=>wC TP X 36 [(.agg W43),(.agg W44),segment2] (λW45 S46=>wC TP X 24 [W41,W45] (λW47 S48=>oK (qAO W37 W47 (.bool false)) λW49=>qAK W49
 (oK (rdN S48 19 t6) λW50=>oK (rdN S48 4 w7) λW51=>wC TP X 23 [(.agg W50),(.agg W51),leaf3] (λW52 S53=>(∀b,S48 b≠none->S48 b=none->S53 b=none)->
 oK (rdN (cutH [(S48,(add S48 S53))] (add S48 S53)) 19 t6) λW54=>oK (rdN (cutH [(S48,(add S48 S53))] (add S48 S53)) 4 w7) λW55=>wC TP X 37 [(.agg W54),(.agg W55),leaf3] (λW56 S57=>wC TP X 24 [W52,W56] (λW58 S59=>oK (qAO W49 W58 (.bool false)) λW60=>qAK W60
 (wC TP X 12 [] (λW61 S62=>oK (qAO W60 W61 (.bool false)) λW63=>K W63 S62) S59)
 (oK (qAO W60 .undef (.bool false)) λW64=>K W64 S59)) S57) (add S48 S53)) (frz S48))
 (oK (qAO W49 .undef (.bool false)) λW65=>qAK W65
 (wC TP X 12 [] (λW66 S67=>oK (qAO W65 W66 (.bool false)) λW68=>K W68 S67) S48)
 (oK (qAO W65 .undef (.bool false)) λW69=>K W69 S48))) S46) (add S38 S42)) (frz S38))
 (oK (qAO W37 .undef (.bool false)) λW70=>qAK W70
 (oK (rdN S38 19 t6) λW71=>oK (rdN S38 4 w7) λW72=>wC TP X 23 [(.agg W71),(.agg W72),leaf3] (λW73 S74=>(∀b,S38 b≠none->S38 b=none->S74 b=none)->
 oK (rdN (cutH [(S38,(add S38 S74))] (add S38 S74)) 19 t6) λW75=>oK (rdN (cutH [(S38,(add S38 S74))] (add S38 S74)) 4 w7) λW76=>wC TP X 37 [(.agg W75),(.agg W76),leaf3] (λW77 S78=>wC TP X 24 [W73,W77] (λW79 S80=>oK (qAO W70 W79 (.bool false)) λW81=>qAK W81
 (wC TP X 12 [] (λW82 S83=>oK (qAO W81 W82 (.bool false)) λW84=>K W84 S83) S80)
 (oK (qAO W81 .undef (.bool false)) λW85=>K W85 S80)) S78) (add S38 S74)) (frz S38))
 (oK (qAO W70 .undef (.bool false)) λW86=>qAK W86
 (wC TP X 12 [] (λW87 S88=>oK (qAO W86 W87 (.bool false)) λW89=>K W89 S88) S38)
 (oK (qAO W86 .undef (.bool false)) λW90=>K W90 S38)))) S36) (add s S32)) (frz s)))
 (oK (rdN s 19 t6) λW91=>wC TP X 18 [(.agg W91),x4] (λW92 S93=>(∀b,s b≠none->s b=none->S93 b=none)->
 oK (rdN (cutH [(s,(add s S93))] (add s S93)) 19 t6) λW94=>wC TP X 32 [(.agg W94),x4] (λW95 S96=>oK (negB true (qGP TP 48 W92 W95)) λW97=>oK (qAO W27 (.bool true) W97) λW98=>qAK W98
 (K (.bool false) S96)
 (oK (rdN S96 19 t6) λW99=>oK (rdN S96 4 w7) λW100=>wC TP X 34 [(.agg W99),(.agg W100)] (λW101 S102=>(∀b,S96 b≠none->S96 b=none->S102 b=none)->
 oK (rdN (cutH [(S96,(add S96 S102))] (add S96 S102)) 19 t6) λW103=>oK (rdN (cutH [(S96,(add S96 S102))] (add S96 S102)) 4 w7) λW104=>wC TP X 35 [(.agg W103),(.agg W104)] (λW105 S106=>wC TP X 33 [W101,W105] (λW107 S108=>qAK W107
 (oK (rdN S108 19 t6) λW109=>oK (rdN S108 4 w7) λW110=>wC TP X 26 [(.agg W109),(.agg W110),segment2] (λW111 S112=>(∀b,S108 b≠none->S108 b=none->S112 b=none)->
 oK (rdN (cutH [(S108,(add S108 S112))] (add S108 S112)) 19 t6) λW113=>oK (rdN (cutH [(S108,(add S108 S112))] (add S108 S112)) 4 w7) λW114=>wC TP X 36 [(.agg W113),(.agg W114),segment2] (λW115 S116=>wC TP X 24 [W111,W115] (λW117 S118=>oK (qAO W107 W117 (.bool false)) λW119=>qAK W119
 (oK (rdN S118 19 t6) λW120=>oK (rdN S118 4 w7) λW121=>wC TP X 23 [(.agg W120),(.agg W121),leaf3] (λW122 S123=>(∀b,S118 b≠none->S118 b=none->S123 b=none)->
 oK (rdN (cutH [(S118,(add S118 S123))] (add S118 S123)) 19 t6) λW124=>oK (rdN (cutH [(S118,(add S118 S123))] (add S118 S123)) 4 w7) λW125=>wC TP X 37 [(.agg W124),(.agg W125),leaf3] (λW126 S127=>wC TP X 24 [W122,W126] (λW128 S129=>oK (qAO W119 W128 (.bool false)) λW130=>qAK W130
 (wC TP X 12 [] (λW131 S132=>oK (qAO W130 W131 (.bool false)) λW133=>K W133 S132) S129)
 (oK (qAO W130 .undef (.bool false)) λW134=>K W134 S129)) S127) (add S118 S123)) (frz S118))
 (oK (qAO W119 .undef (.bool false)) λW135=>qAK W135
 (wC TP X 12 [] (λW136 S137=>oK (qAO W135 W136 (.bool false)) λW138=>K W138 S137) S118)
 (oK (qAO W135 .undef (.bool false)) λW139=>K W139 S118))) S116) (add S108 S112)) (frz S108))
 (oK (qAO W107 .undef (.bool false)) λW140=>qAK W140
 (oK (rdN S108 19 t6) λW141=>oK (rdN S108 4 w7) λW142=>wC TP X 23 [(.agg W141),(.agg W142),leaf3] (λW143 S144=>(∀b,S108 b≠none->S108 b=none->S144 b=none)->
 oK (rdN (cutH [(S108,(add S108 S144))] (add S108 S144)) 19 t6) λW145=>oK (rdN (cutH [(S108,(add S108 S144))] (add S108 S144)) 4 w7) λW146=>wC TP X 37 [(.agg W145),(.agg W146),leaf3] (λW147 S148=>wC TP X 24 [W143,W147] (λW149 S150=>oK (qAO W140 W149 (.bool false)) λW151=>qAK W151
 (wC TP X 12 [] (λW152 S153=>oK (qAO W151 W152 (.bool false)) λW154=>K W154 S153) S150)
 (oK (qAO W151 .undef (.bool false)) λW155=>K W155 S150)) S148) (add S108 S144)) (frz S108))
 (oK (qAO W140 .undef (.bool false)) λW156=>qAK W156
 (wC TP X 12 [] (λW157 S158=>oK (qAO W156 W157 (.bool false)) λW159=>K W159 S158) S108)
 (oK (qAO W156 .undef (.bool false)) λW160=>K W160 S108)))) S106) (add S96 S102)) (frz S96))) (add s S93)) (frz s))
def qAt(X:Td)(segment2 leaf3 x4 t6 w7 x11 t19 t21:AV)(K:KvP)(s:Hq):Prop:=
 oK (qAO t19 (.bool true) t21) λW9=>qAK W9
 (wC TP X 12 [] (λW10 S11=>K W10 S11) s)
 (oK (rdN s 19 t6) λW12=>oK (rdN s 4 w7) λW13=>oK (rdN s 15 x11) λW14=>wC TP X 20 [(.agg W12),(.agg W13),x4,(.agg W14)] (λW15 S16=>oK (qAl W15 0) λW17=>oK (qAl W15 1) λW18=>oK (rdN S16 19 t6) λW19=>oK (rdN S16 4 w7) λW20=>oK (rdN S16 15 x11) λW21=>wC TP X 31 [(.agg W19),(.agg W20),x4,(.agg W21)] (λW22 S23=>oK (qAl W22 0) λW24=>oK (qAl W22 1) λW25=>oK (negB true (eqV 0 false W17 W24)) λW26=>qAK W26
 (qBd X segment2 leaf3 x4 t6 w7 W26 .undef K S23)
 (oK (negB true (eqV 1 false W18 W25)) λW161=>qBd X segment2 leaf3 x4 t6 w7 W26 W161 K S23)) S16) s)
def qFX(X:Td)(t0 w1 segment2 leaf3 x4 x5:AV)(K:KvP)(s:Hq):Prop:=
 boxK 31 t0 (λB0 S1=>boxK 36 w1 (λB2 S3=>boxK 48 x5 (λB4 S5=>oK (rdN S5 19 B0) λW6=>wC TP X 29 [(.agg W6)] (λW7 S8=>qAK W7
 (qAt X segment2 leaf3 x4 B0 B2 B4 W7 .undef K S8)
 (oK (rdN S8 4 B2) λW162=>wC TP X 30 [(.agg W162)] (λW163 S164=>qAt X segment2 leaf3 x4 B0 B2 B4 W7 W163 K S164) S8)) S5) S3) S1) s
theorem qEd{t0 w1 segment2 leaf3 x4 x5:AV}{K:KvP}{s:Hq}(h:qFX XX t0 w1 segment2 leaf3 x4 x5 K s):wC TP XX 7 [t0,w1,segment2,leaf3,x4,x5] K s:=wOK qAu nA0 rfl Tryz.func7 h
def qBC(X:Td)(x1 t2 t4 t16 t20:AV)(K:KvP)(s:Hq):Prop:=
 oK (qAO t16 (.bool true) t20) λW11=>qAK W11
 (oK (qBb [(.int .u64 0),(.int .u64 0),(.int .i64 0),(.int .i64 0),(.int .u64 0),(.int .u32 0),(.int .u64 0),(.int .u32 0),(.int .u32 0),(.int .u32 0),(.int .i64 0),(.int .i64 0),(.int .i64 0),(.int .i64 0),(.int .u64 0)] []) λC12=>oK (qBA s 15 t4 (.agg C12)) λS13=>oK (rdN S13 15 t4) λt4_14=>K (.agg t4_14) S13)
 (oK (qAC 6 t2) λW15=>oK (rd1 s W15) λW16=>oK (qAT 4 W16 x1) λW17=>oK (rdN s 4 W17) λW18=>newK 61 [(.int .u64 0),(.int .u32 0),(.int .i64 0),(.int .i64 0)] (λB19 S20=>oK (qBA S20 4 (.ptr B19 0) (.agg W18)) λS21=>oK (qAC 1 (.ptr B19 0)) λW22=>oK (rd1 S21 W22) λW23=>oK (negB false (eqV 0 true W23 (.int .u32 0))) λW24=>qAK W24
 (oK (qAC 0 (.ptr B19 0)) λW25=>oK (rd1 S21 W25) λW26=>oK (qBb [(.int .u64 0),(.int .u64 0),(.int .i64 0),(.int .i64 0),(.int .u64 0),(.int .u32 0),(.int .u64 0),(.int .u32 0),(.int .u32 0),(.int .u32 0),(.int .i64 0),(.int .i64 0),(.int .i64 0),(.int .i64 0),(.int .u64 0)] [(0,1,W26),(1,1,(.int .u64 281474976710655)),(2,1,(.int .i64 0))]) λC27=>oK (qBA S21 15 t4 (.agg C27)) λS28=>oK (rdN S28 15 t4) λt4_29=>K (.agg t4_29) S28)
 (oK (qAC 0 (.ptr B19 0)) λW30=>oK (rd1 S21 W30) λW31=>oK (qAC 1 (.ptr B19 0)) λW32=>oK (rd1 S21 W32) λW33=>wC TP X 57 [W31,W33,(.int .u64 0)] (λW34 S35=>oK (qBA S35 15 t4 W34) λS36=>oK (rdN S36 15 t4) λt4_37=>K (.agg t4_37) S36) S21)) s)
def qIo(X:Td)(t0 x1:AV)(K:KvP)(s:Hq):Prop:=
 boxK 31 t0 (λB0 S1=>newK 48 [(.int .u64 0),(.int .u64 0),(.int .i64 0),(.int .i64 0),(.int .u64 0),(.int .u32 0),(.int .u64 0),(.int .u32 0),(.int .u32 0),(.int .u32 0),(.int .i64 0),(.int .i64 0),(.int .i64 0),(.int .i64 0),(.int .u64 0)] (λB2 S3=>oK (rdN S3 19 B0) λW4=>oK (qBb [.nilslc,.nilslc,.nilslc,.nilslc] []) λC5=>wC TP X 38 [(.agg W4),(.agg C5)] (λW6 S7=>oK (qAl W6 0) λW8=>oK (qAl W6 1) λW9=>oK (qAi .not W9) λW10=>qAK W10
 (qBC X x1 B0 (.ptr B2 0) W10 .undef K S7)
 (wC TP X 56 [W8,x1] (λW38 S39=>oK (qAi .not W38) λW40=>qBC X x1 B0 (.ptr B2 0) W10 W40 K S39) S7)) S3) S1) s
theorem qCc{t0 x1:AV}{K:KvP}{s:Hq}(h:qIo XX t0 x1 K s):wC TP XX 18 [t0,x1] K s:=wOK qAu nA0 rfl Tryz.func18 h
def qOG(X:Td)(t0 w1 host2 x3:AV)(K:KvP)(s:Hq):Prop:=
 boxK 31 t0 (λB0 S1=>boxK 36 w1 (λB2 S3=>boxK 48 x3 (λB4 S5=>oK (rdN S5 19 B0) λW6=>oK (rdN S5 4 B2) λW7=>wC TP X 38 [(.agg W6),(.agg W7)] (λW8 S9=>oK (qAl W8 0) λW10=>oK (qAl W8 1) λW11=>oK (qAi .not W11) λW12=>qAK W12
 (K (.tup [(.int .i64 0),(.bool false)]) S9)
 (oK (rdN S9 15 B4) λW13=>wC TP X 61 [W10,host2,(.agg W13)] (λW14 S15=>oK (qAl W14 0) λW16=>oK (qAl W14 1) λW17=>K (.tup [W16,W17]) S15) S9)) S5) S3) S1) s
theorem qK0{t0 w1 host2 x3:AV}{K:KvP}{s:Hq}(h:qOG XX t0 w1 host2 x3 K s):wC TP XX 20 [t0,w1,host2,x3] K s:=wOK qAu nA0 rfl Tryz.func20 h
def qO2(X:Td)(t0 w1 leaf2:AV)(K:KvP)(s:Hq):Prop:=
 boxK 31 t0 (λB0 S1=>boxK 36 w1 (λB2 S3=>oK (rdN S3 19 B0) λW4=>oK (rdN S3 4 B2) λW5=>wC TP X 38 [(.agg W4),(.agg W5)] (λW6 S7=>oK (qAl W6 0) λW8=>oK (qAl W6 1) λW9=>oK (qAi .not W9) λW10=>qAK W10
 (K .nilslc S7)
 (wC TP X 41 [W8,leaf2] (λW11 S12=>K W11 S12) S7)) S3) S1) s
theorem qLv{t0 w1 leaf2:AV}{K:KvP}{s:Hq}(h:qO2 XX t0 w1 leaf2 K s):wC TP XX 23 [t0,w1,leaf2] K s:=wOK qAu nA0 rfl Tryz.func23 h
end Go.AM
namespace Go.AM
open Go Go.Proofs
set_option maxRecDepth 100000
def qHH(X:Td)(a0 b1 same5 i6 t13 t17:AV)(I0:IvP)(m0:Nat)(K:KvP)(s:Hq):Prop:=
 oK (qAO t13 t17 (.bool false)) λW5=>qAK W5
 (oK (qAT 1 a0 i6) λW6=>oK (rd1 s W6) λW7=>oK (qAT 1 b1 i6) λW8=>oK (rd1 s W8) λW9=>oK (negB false (eqV 0 false W7 W9)) λW10=>oK (qAH .add i6 (.int .i64 1)) λW11=>∃m',m'<m0/\I0 [W10,W11] s m')
 (K same5 s)
def qKO(X:Td)(a0 b1 same5 i6:AV)(I0:IvP)(m0:Nat)(K:KvP)(s:Hq):Prop:=
 qAK same5
 (oK (qAN a0) λW12=>oK (qAH .lss i6 (.int .i64 W12)) λW14=>qHH X a0 b1 same5 i6 same5 W14 I0 m0 K s)
 (qHH X a0 b1 same5 i6 same5 .undef I0 m0 K s)
def qS3(X:Td)(a0 b1:AV)(K:KvP)(s:Hq):Prop:=
 oK (qAN a0) λW0=>oK (qAN b1) λW2=>oK (negB false (eqV 0 false (.int .i64 W0) (.int .i64 W2))) λW4=>∃I0:IvP,(∃m,I0 [W4,(.int .i64 0)] s m)/\∀(f:Env) (s:Hq) (m0:Nat),I0 [f 5,f 6] s m0->
 qKO X a0 b1 (f 5) (f 6) I0 m0 K s
def qOw:Nat->List Nat:=λk=>cond (Nat.beq k 6) [5,6] ([])
theorem qO1{a0 b1:AV}{K:KvP}{s:Hq}(h:qS3 XX a0 b1 K s):wC TP XX 24 [a0,b1] K s:=wOK qAu qOw rfl Tryz.func24 h
def qLw(X:Td)(t0 w1 segment2:AV)(K:KvP)(s:Hq):Prop:=
 boxK 31 t0 (λB0 S1=>boxK 36 w1 (λB2 S3=>oK (rdN S3 19 B0) λW4=>oK (rdN S3 4 B2) λW5=>wC TP X 38 [(.agg W4),(.agg W5)] (λW6 S7=>oK (qAl W6 0) λW8=>oK (qAl W6 1) λW9=>oK (qAi .not W9) λW10=>qAK W10
 (K .nilslc S7)
 (wC TP X 63 [W8,segment2] (λW11 S12=>K W11 S12) S7)) S3) S1) s
theorem qKB{t0 w1 segment2:AV}{K:KvP}{s:Hq}(h:qLw XX t0 w1 segment2 K s):wC TP XX 26 [t0,w1,segment2] K s:=wOK qAu nA0 rfl Tryz.func26 h
def qId(X:Td)(w1 i3:AV)(I3:IvP)(m3:Nat)(K:KvP)(s:Hq):Prop:=
 oK (qAC 2 w1) λW10=>oK (rd1 s W10) λW11=>oK (qAN W11) λW12=>oK (qAH .lss i3 (.int .i64 W12)) λW14=>qAK W14
 (oK (qAC 2 w1) λW15=>oK (rd1 s W15) λW16=>oK (qAT 1 W16 i3) λW17=>oK (rd1 s W17) λW18=>oK (qAN W18) λW19=>oK (qAH .gtr (.int .i64 W19) (.int .i64 100)) λW21=>qAK W21
 (K (.bool true) s)
 (oK (qAH .add i3 (.int .i64 1)) λW22=>∃m',m'<m3/\I3 [W22] s m'))
 (K (.bool false) s)
def qC2(X:Td)(w1 t20 t24:AV)(K:KvP)(s:Hq):Prop:=
 oK (qAO t20 (.bool true) t24) λW9=>qAK W9
 (K (.bool true) s)
 (∃I3:IvP,(∃m,I3 [(.int .i64 0)] s m)/\∀(f:Env) (s:Hq) (m3:Nat),I3 [f 3] s m3->
 qId X w1 (f 3) I3 m3 K s)
def qC1(X:Td)(w1 t14 t18:AV)(K:KvP)(s:Hq):Prop:=
 oK (qAO t14 (.bool true) t18) λW8=>qAK W8
 (qC2 X w1 W8 .undef K s)
 (oK (qAC 3 w1) λW23=>oK (rd1 s W23) λW24=>oK (qAN W24) λW25=>oK (qAH .gtr (.int .i64 W25) (.int .i64 200)) λW27=>qC2 X w1 W8 W27 K s)
def qCw(X:Td)(w1 t8 t12:AV)(K:KvP)(s:Hq):Prop:=
 oK (qAO t8 (.bool true) t12) λW7=>qAK W7
 (qC1 X w1 W7 .undef K s)
 (oK (qAC 2 w1) λW28=>oK (rd1 s W28) λW29=>oK (qAN W29) λW30=>oK (qAH .gtr (.int .i64 W30) (.int .i64 100)) λW32=>qC1 X w1 W7 W32 K s)
def qQp(X:Td)(w0:AV)(K:KvP)(s:Hq):Prop:=
 boxK 36 w0 (λB0 S1=>oK (qAC 0 B0) λW2=>oK (rd1 S1 W2) λW3=>oK (qAN W3) λW4=>oK (qAH .gtr (.int .i64 W4) (.int .i64 100)) λW6=>qAK W6
 (qCw X B0 W6 .undef K S1)
 (oK (qAC 1 B0) λW33=>oK (rd1 S1 W33) λW34=>oK (qAN W34) λW35=>oK (qAH .gtr (.int .i64 W35) (.int .i64 200)) λW37=>qCw X B0 W6 W37 K S1)) s
def qMD:Nat->List Nat:=λk=>cond (Nat.beq k 8) [3] ([])
theorem qMr{w0:AV}{K:KvP}{s:Hq}(h:qQp XX w0 K s):wC TP XX 30 [w0] K s:=wOK qAu qMD rfl Tryz.func30 h
def qIh(X:Td)(t0 w1 host2 x3:AV)(K:KvP)(s:Hq):Prop:=
 boxK 31 t0 (λB0 S1=>boxK 36 w1 (λB2 S3=>boxK 48 x3 (λB4 S5=>oK (rdN S5 19 B0) λW6=>oK (rdN S5 4 B2) λW7=>oK (rdN S5 19 B0) λW8=>oK (rdN S5 4 B2) λW9=>wC TP X 64 [(.agg W8),(.agg W9),host2] (λW10 S11=>(∀b,S5 b≠none->S5 b=none->S11 b=none)->
 wC TP X 36 [(.agg W6),(.agg W7),W10] (λW12 S13=>oK (qAN W12) λW14=>oK (negB false (eqV 0 true (.int .i64 W14) (.int .i64 0))) λW16=>qAK W16
 (K (.tup [(.int .i64 0),(.bool false)]) S13)
 (oK (rdN S13 15 B4) λW17=>wC TP X 65 [(.agg W17)] (λW18 S19=>oK (qAN W12) λW20=>oK (qAH .rem W18 (.int .i64 W20)) λW22=>oK (qAT 1 W12 W22) λW23=>oK (rd1 S19 W23) λW24=>K (.tup [W24,(.bool true)]) S19) S13)) (add S5 S11)) (frz S5)) S3) S1) s
theorem qG8{t0 w1 host2 x3:AV}{K:KvP}{s:Hq}(h:qIh XX t0 w1 host2 x3 K s):wC TP XX 31 [t0,w1,host2,x3] K s:=wOK qAu nA0 rfl Tryz.func31 h
def qA0(X:Td)(t4 x6:AV)(K:KvP)(s:Hq):Prop:=
 oK (rdN s 15 x6) λW29=>oK (qBA s 15 t4 (.agg W29)) λS30=>oK (rdN S30 15 t4) λt4_31=>K (.agg t4_31) S30
def qAr(X:Td)(x1 t2 t4 t14 t19:AV)(K:KvP)(s:Hq):Prop:=
 oK (qAO t14 (.bool true) t19) λW9=>qAK W9
 (oK (qBb [(.int .u64 0),(.int .u64 0),(.int .i64 0),(.int .i64 0),(.int .u64 0),(.int .u32 0),(.int .u64 0),(.int .u32 0),(.int .u32 0),(.int .u32 0),(.int .i64 0),(.int .i64 0),(.int .i64 0),(.int .i64 0),(.int .u64 0)] []) λC10=>oK (qBA s 15 t4 (.agg C10)) λS11=>oK (rdN S11 15 t4) λt4_12=>K (.agg t4_12) S11)
 (oK (qAC 6 t2) λW13=>oK (rd1 s W13) λW14=>oK (qAT 4 W14 x1) λW15=>oK (rdN s 4 W15) λW16=>newK 61 [(.int .u64 0),(.int .u32 0),(.int .i64 0),(.int .i64 0)] (λB17 S18=>oK (qBA S18 4 (.ptr B17 0) (.agg W16)) λS19=>oK (qAC 0 (.ptr B17 0)) λW20=>oK (rd1 S19 W20) λW21=>oK (qBb [(.int .u64 0),(.int .u64 0),(.int .i64 0),(.int .i64 0),(.int .u64 0),(.int .u32 0),(.int .u64 0),(.int .u32 0),(.int .u32 0),(.int .u32 0),(.int .i64 0),(.int .i64 0),(.int .i64 0),(.int .i64 0),(.int .u64 0)] [(0,1,W21),(1,1,(.int .u64 281474976710655))]) λC22=>newK 48 [(.int .u64 0),(.int .u64 0),(.int .i64 0),(.int .i64 0),(.int .u64 0),(.int .u32 0),(.int .u64 0),(.int .u32 0),(.int .u32 0),(.int .u32 0),(.int .i64 0),(.int .i64 0),(.int .i64 0),(.int .i64 0),(.int .u64 0)] (λB23 S24=>oK (qBA S24 15 (.ptr B23 0) (.agg C22)) λS25=>oK (qAC 1 (.ptr B17 0)) λW26=>oK (rd1 S25 W26) λW27=>oK (negB true (eqV 0 true W27 (.int .u32 0))) λW28=>qAK W28
 (oK (qAC 2 (.ptr B23 0)) λW32=>oK (wr1 S25 W32 (.int .i64 1)) λS33=>oK (qAC 0 (.ptr B17 0)) λW34=>oK (rd1 S33 W34) λW35=>oK (qAC 1 (.ptr B17 0)) λW36=>oK (rd1 S33 W36) λW37=>oK (qAC 1 (.ptr B17 0)) λW38=>oK (rd1 S33 W38) λW39=>oK (qBb [(.int .i64 0),(.int .u64 0),(.int .u32 0),(.int .u64 0),(.int .u32 0)] [(0,1,(.int .i64 1)),(1,1,W35),(2,1,W37),(4,1,W39)]) λC40=>oK (qAC 3 (.ptr B23 0)) λW41=>oK (qBA S33 5 W41 (.agg C40)) λS42=>qA0 X t4 (.ptr B23 0) K S42)
 (qA0 X t4 (.ptr B23 0) K S25)) S19) s)
def qAs(X:Td)(x1 t2 t4 t10 t12:AV)(K:KvP)(s:Hq):Prop:=
 oK (qAO t10 (.bool true) t12) λW8=>qAK W8
 (qAr X x1 t2 t4 W8 .undef K s)
 (oK (qAC 6 t2) λW43=>oK (rd1 s W43) λW44=>oK (qAN W44) λW45=>oK (qAH .geq x1 (.int .i64 W45)) λW47=>qAr X x1 t2 t4 W8 W47 K s)
def qFG(X:Td)(t0 x1:AV)(K:KvP)(s:Hq):Prop:=
 boxK 31 t0 (λB0 S1=>newK 48 [(.int .u64 0),(.int .u64 0),(.int .i64 0),(.int .i64 0),(.int .u64 0),(.int .u32 0),(.int .u64 0),(.int .u32 0),(.int .u32 0),(.int .u32 0),(.int .i64 0),(.int .i64 0),(.int .i64 0),(.int .i64 0),(.int .u64 0)] (λB2 S3=>oK (rdN S3 19 B0) λW4=>wC TP X 66 [(.agg W4)] (λW5 S6=>oK (qAi .not W5) λW7=>qAK W7
 (qAs X x1 B0 (.ptr B2 0) W7 .undef K S6)
 (oK (qAH .lss x1 (.int .i64 0)) λW48=>qAs X x1 B0 (.ptr B2 0) W7 W48 K S6)) S3) S1) s
theorem qER{t0 x1:AV}{K:KvP}{s:Hq}(h:qFG XX t0 x1 K s):wC TP XX 32 [t0,x1] K s:=wOK qAu nA0 rfl Tryz.func32 h
def qDY(X:Td)(a0 b1 same5 i6 t13 t17:AV)(I0:IvP)(m0:Nat)(K:KvP)(s:Hq):Prop:=
 oK (qAO t13 t17 (.bool false)) λW5=>qAK W5
 (oK (qAT 1 a0 i6) λW6=>oK (rd1 s W6) λW7=>oK (qAT 1 b1 i6) λW8=>oK (rd1 s W8) λW9=>oK (negB false (eqV 1 false W7 W9)) λW10=>oK (qAH .add i6 (.int .i64 1)) λW11=>∃m',m'<m0/\I0 [W10,W11] s m')
 (K same5 s)
def qFW(X:Td)(a0 b1 same5 i6:AV)(I0:IvP)(m0:Nat)(K:KvP)(s:Hq):Prop:=
 qAK same5
 (oK (qAN a0) λW12=>oK (qAH .lss i6 (.int .i64 W12)) λW14=>qDY X a0 b1 same5 i6 same5 W14 I0 m0 K s)
 (qDY X a0 b1 same5 i6 same5 .undef I0 m0 K s)
def qME(X:Td)(a0 b1:AV)(K:KvP)(s:Hq):Prop:=
 oK (qAN a0) λW0=>oK (qAN b1) λW2=>oK (negB false (eqV 0 false (.int .i64 W0) (.int .i64 W2))) λW4=>∃I0:IvP,(∃m,I0 [W4,(.int .i64 0)] s m)/\∀(f:Env) (s:Hq) (m0:Nat),I0 [f 5,f 6] s m0->
 qFW X a0 b1 (f 5) (f 6) I0 m0 K s
def qI2:Nat->List Nat:=λk=>cond (Nat.beq k 6) [5,6] ([])
theorem qKG{a0 b1:AV}{K:KvP}{s:Hq}(h:qME XX a0 b1 K s):wC TP XX 33 [a0,b1] K s:=wOK qAu qI2 rfl Tryz.func33 h
def qGZ(X:Td)(t5 x7 t22 t23:AV)(I0:IvP)(m0:Nat)(K:KvP)(s:Hq):Prop:=
 oK (qAH .lss t23 t22) λW21=>qAK W21
 (wC TP X 67 [t5,t23] (λW22 S23=>oK (qAT 1 x7 t23) λW24=>oK (wr1 S23 W24 W22) λS25=>oK (qAH .add t23 (.int .i64 1)) λW26=>∃m',m'<m0/\I0 [W26] S25 m') s)
 (K x7 s)
def qOp(X:Td)(t0 w1:AV)(K:KvP)(s:Hq):Prop:=
 boxK 31 t0 (λB0 S1=>boxK 36 w1 (λB2 S3=>oK (rdN S3 19 B0) λW4=>oK (rdN S3 4 B2) λW5=>wC TP X 38 [(.agg W4),(.agg W5)] (λW6 S7=>oK (qAl W6 0) λW8=>oK (qAl W6 1) λW9=>oK (qAi .not W9) λW10=>qAK W10
 (K .nilslc S7)
 (oK (qAC 2 B0) λW11=>oK (rd1 S7 W11) λW12=>oK (qAN W12) λW13=>oK (nat? (.int .i64 W13)) λn_15=>oK (nat? (.int .i64 W13)) λn_16=>(n_15<=n_16/\n_16<=4294967296)/\newK 4 (repl n_16 [(.bool false)]) (λB17 S18=>oK (qAN (.slc B17 0 n_15 (some n_16) 1)) λW19=>∃I0:IvP,(∃m,I0 [(.int .i64 0)] S18 m)/\∀(f:Env) (s:Hq) (m0:Nat),I0 [f 23] s m0->
 qGZ X W8 (.slc B17 0 n_15 (some n_16) 1) (.int .i64 W19) (f 23) I0 m0 K s) S7)) S3) S1) s
def qKu:Nat->List Nat:=λk=>cond (Nat.beq k 12) [23] ([])
theorem qLI{t0 w1:AV}{K:KvP}{s:Hq}(h:qOp XX t0 w1 K s):wC TP XX 34 [t0,w1] K s:=wOK qAu qKu rfl Tryz.func34 h
def qBl(X:Td)(i6 t18 t34 t43:AV)(I0:IvP)(m0:Nat)(K:KvP)(s:Hq):Prop:=
 oK (qAO t34 t43 (.bool false)) λW13=>oK (qBb (repl 1 [(.bool false)]) [(0,1,W13)]) λC14=>qAd C14=true/\newK 4 C14 (λB15 S16=>appK 4 1 t18 (.slc B15 0 1 (some 1) 1) (λW17 S18=>oK (qAH .add i6 (.int .i64 1)) λW19=>∃m',m'<m0/\I0 [W17,W19] S18 m') S16) s
def qBj(X:Td)(t2 w3 i6 t18 t23 t32:AV)(I0:IvP)(m0:Nat)(K:KvP)(s:Hq):Prop:=
 oK (qAO t23 t32 (.bool false)) λW12=>qAK W12
 (oK (qAC 0 w3) λW20=>oK (rd1 s W20) λW21=>oK (qAC 2 t2) λW22=>oK (rd1 s W22) λW23=>oK (qAT 3 W23 i6) λW24=>oK (qAC 1 W24) λW25=>oK (rd1 s W25) λW26=>wC TP X 68 [W21,W26] (λW27 S28=>qBl X i6 t18 W12 W27 I0 m0 K S28) s)
 (qBl X i6 t18 W12 .undef I0 m0 K s)
def qBm(X:Td)(t2 w3 out5 i6 t9 t14:AV)(I0:IvP)(m0:Nat)(K:KvP)(s:Hq):Prop:=
 oK (qAO t9 t14 (.bool false)) λW7=>qAK W7
 (oK (qAC 1 w3) λW8=>oK (rd1 s W8) λW9=>wC TP X 68 [W9,i6] (λW10 S11=>qAK W10
 (oK (qAC 0 w3) λW29=>oK (rd1 S11 W29) λW30=>oK (qAC 2 t2) λW31=>oK (rd1 S11 W31) λW32=>oK (qAT 3 W32 i6) λW33=>oK (qAC 0 W33) λW34=>oK (rd1 S11 W34) λW35=>wC TP X 68 [W30,W35] (λW36 S37=>qBj X t2 w3 i6 out5 W10 W36 I0 m0 K S37) S11)
 (qBj X t2 w3 i6 out5 W10 .undef I0 m0 K S11)) s)
 (K out5 s)
def qDf(X:Td)(t2 w3 out5 i6:AV)(I0:IvP)(m0:Nat)(K:KvP)(s:Hq):Prop:=
 oK (rdN s 19 t2) λW4=>wC TP X 66 [(.agg W4)] (λW5 S6=>qAK W5
 (oK (qAC 2 t2) λW38=>oK (rd1 S6 W38) λW39=>oK (qAN W39) λW40=>oK (qAH .lss i6 (.int .i64 W40)) λW42=>qBm X t2 w3 out5 i6 W5 W42 I0 m0 K S6)
 (qBm X t2 w3 out5 i6 W5 .undef I0 m0 K S6)) s
def qIg(X:Td)(t0 w1:AV)(K:KvP)(s:Hq):Prop:=
 boxK 31 t0 (λB0 S1=>boxK 36 w1 (λB2 S3=>∃I0:IvP,(∃m,I0 [.nilslc,(.int .i64 0)] S3 m)/\∀(f:Env) (s:Hq) (m0:Nat),I0 [f 5,f 6] s m0->
 qDf X B0 B2 (f 5) (f 6) I0 m0 K s) S1) s
def qGU:Nat->List Nat:=λk=>cond (Nat.beq k 6) [5,6] ([])
theorem qGy{t0 w1:AV}{K:KvP}{s:Hq}(h:qIg XX t0 w1 K s):wC TP XX 35 [t0,w1] K s:=wOK qAu qGU rfl Tryz.func35 h
def qBS(X:Td)(x7 i9:AV)(I2:IvP)(m2:Nat)(K:KvP)(s:Hq):Prop:=
 oK (qAH .add i9 (.int .i64 1)) λW25=>∃m',m'<m2/\I2 [x7,W25] s m'
def qBU(X:Td)(x7 l8 i9 t44 t51:AV)(I2:IvP)(m2:Nat)(K:KvP)(s:Hq):Prop:=
 oK (qAO t44 t51 (.bool false)) λW24=>qAK W24
 (oK (qAT 1 l8 i9) λW26=>oK (rd1 s W26) λW27=>oK (qBb (repl 1 [(.int .i64 0)]) [(0,1,W27)]) λC28=>qAd C28=true/\newK 3 C28 (λB29 S30=>appK 3 1 x7 (.slc B29 0 1 (some 1) 1) (λW31 S32=>qBS X W31 i9 I2 m2 K S32) S30) s)
 (qBS X x7 i9 I2 m2 K s)
def qDG(X:Td)(t2 w4 x7 l8 i9:AV)(I2:IvP)(m2:Nat)(K:KvP)(s:Hq):Prop:=
 oK (qAN l8) λW15=>oK (qAH .lss i9 (.int .i64 W15)) λW17=>qAK W17
 (oK (qAC 0 w4) λW18=>oK (rd1 s W18) λW19=>oK (qAT 1 l8 i9) λW20=>oK (rd1 s W20) λW21=>wC TP X 68 [W19,W21] (λW22 S23=>qAK W22
 (oK (rdN S23 4 w4) λW33=>oK (qAT 1 l8 i9) λW34=>oK (rd1 S23 W34) λW35=>wC TP X 69 [(.agg W33),W35,t2] (λW36 S37=>qBU X x7 l8 i9 W22 W36 I2 m2 K S37) S23)
 (qBU X x7 l8 i9 W22 .undef I2 m2 K S23)) s)
 (K x7 s)
def qA4(X:Td)(t2 t3 w4 x7 t17 t22:AV)(K:KvP)(s:Hq):Prop:=
 oK (qAO t17 (.bool true) t22) λW9=>qAK W9
 (K x7 s)
 (oK (qAC 5 t3) λW10=>oK (rd1 s W10) λW11=>oK (qAT 2 W11 t2) λW12=>oK (qAC 0 W12) λW13=>oK (rd1 s W13) λW14=>∃I2:IvP,(∃m,I2 [x7,(.int .i64 0)] s m)/\∀(f:Env) (s:Hq) (m2:Nat),I2 [f 7,f 9] s m2->
 qDG X t2 w4 (f 7) W14 (f 9) I2 m2 K s)
def qA3(X:Td)(t2 t3 w4 x7 t13 t15:AV)(K:KvP)(s:Hq):Prop:=
 oK (qAO t13 (.bool true) t15) λW8=>qAK W8
 (qA4 X t2 t3 w4 x7 W8 .undef K s)
 (oK (qAC 5 t3) λW38=>oK (rd1 s W38) λW39=>oK (qAN W39) λW40=>oK (qAH .geq t2 (.int .i64 W40)) λW42=>qA4 X t2 t3 w4 x7 W8 W42 K s)
def qHi(X:Td)(t0 w1 t2:AV)(K:KvP)(s:Hq):Prop:=
 boxK 31 t0 (λB0 S1=>boxK 36 w1 (λB2 S3=>oK (rdN S3 19 B0) λW4=>wC TP X 66 [(.agg W4)] (λW5 S6=>oK (qAi .not W5) λW7=>qAK W7
 (qA3 X t2 B0 B2 .nilslc W7 .undef K S6)
 (oK (qAH .lss t2 (.int .i64 0)) λW43=>qA3 X t2 B0 B2 .nilslc W7 W43 K S6)) S3) S1) s
def qFu:Nat->List Nat:=λk=>cond (Nat.beq k 12) [7,9] ([])
theorem qGE{t0 w1 t2:AV}{K:KvP}{s:Hq}(h:qHi XX t0 w1 t2 K s):wC TP XX 36 [t0,w1,t2] K s:=wOK qAu qFu rfl Tryz.func36 h
def qBx(X:Td)(x10 i11:AV)(I4:IvP)(m4:Nat)(I3:IvP)(m3:Nat)(K:KvP)(s:Hq):Prop:=
 oK (qAH .add i11 (.int .i64 1)) λW42=>∃m',m'<m4/\I4 [x10,W42] s m'
def qBI(X:Td)(t9 x10 i11 a12 b13 t71 t80:AV)(I4:IvP)(m4:Nat)(I3:IvP)(m3:Nat)(K:KvP)(s:Hq):Prop:=
 oK (qAO t71 t80 (.bool false)) λW41=>qAK W41
 (oK (qAT 1 t9 a12) λW43=>oK (wr1 s W43 (.bool true)) λS44=>oK (qAT 1 t9 b13) λW45=>oK (wr1 S44 W45 (.bool true)) λS46=>qBx X (.bool true) i11 I4 m4 I3 m3 K S46)
 (qBx X x10 i11 I4 m4 I3 m3 K s)
def qBy(X:Td)(t3 x8 t9 x10 i11:AV)(I4:IvP)(m4:Nat)(I3:IvP)(m3:Nat)(K:KvP)(s:Hq):Prop:=
 oK (qAN x8) λW26=>oK (qAH .lss i11 (.int .i64 W26)) λW28=>qAK W28
 (oK (qAC 2 t3) λW29=>oK (rd1 s W29) λW30=>oK (qAT 3 W30 i11) λW31=>oK (qAC 0 W31) λW32=>oK (rd1 s W32) λW33=>oK (qAC 2 t3) λW34=>oK (rd1 s W34) λW35=>oK (qAT 3 W35 i11) λW36=>oK (qAC 1 W36) λW37=>oK (rd1 s W37) λW38=>oK (qAT 1 x8 i11) λW39=>oK (rd1 s W39) λW40=>qAK W40
 (oK (qAT 1 t9 W33) λW47=>oK (rd1 s W47) λW48=>oK (qAT 1 t9 W38) λW49=>oK (rd1 s W49) λW50=>oK (negB true (eqV 1 false W48 W50)) λW51=>qBI X t9 x10 i11 W33 W38 W40 W51 I4 m4 I3 m3 K s)
 (qBI X t9 x10 i11 W33 W38 W40 .undef I4 m4 I3 m3 K s))
 (∃m',m'<m3/\I3 [x10] s m')
def qB0(X:Td)(x7 n14:AV)(I7:IvP)(m7:Nat)(K:KvP)(s:Hq):Prop:=
 oK (qAH .add n14 (.int .i64 1)) λW57=>∃m',m'<m7/\I7 [x7,W57] s m'
def qD3(X:Td)(t3 x7 t9 n14:AV)(I7:IvP)(m7:Nat)(K:KvP)(s:Hq):Prop:=
 oK (qAC 0 t3) λW52=>oK (rd1 s W52) λW53=>oK (qAH .lss n14 W53) λW54=>qAK W54
 (oK (qAT 1 t9 n14) λW55=>oK (rd1 s W55) λW56=>qAK W56
 (oK (qBb (repl 1 [(.int .i64 0)]) [(0,1,n14)]) λC58=>qAd C58=true/\newK 3 C58 (λB59 S60=>appK 3 1 x7 (.slc B59 0 1 (some 1) 1) (λW61 S62=>qB0 X W61 n14 I7 m7 K S62) S60) s)
 (qB0 X x7 n14 I7 m7 K s))
 (K x7 s)
def qDt(X:Td)(t3 x7 x8 t9 x10:AV)(I3:IvP)(m3:Nat)(K:KvP)(s:Hq):Prop:=
 qAK x10
 (∃I4:IvP,(∃m,I4 [(.bool false),(.int .i64 0)] s m)/\∀(f:Env) (s:Hq) (m4:Nat),I4 [f 10,f 11] s m4->
 qBy X t3 x8 t9 (f 10) (f 11) I4 m4 I3 m3 K s)
 (∃I7:IvP,(∃m,I7 [x7,(.int .i64 0)] s m)/\∀(f:Env) (s:Hq) (m7:Nat),I7 [f 7,f 14] s m7->
 qD3 X t3 (f 7) t9 (f 14) I7 m7 K s)
def qBK(X:Td)(leaf2 t3 w4 x7 t28 t33:AV)(K:KvP)(s:Hq):Prop:=
 oK (qAO t28 (.bool true) t33) λW10=>qAK W10
 (K x7 s)
 (oK (rdN s 19 t3) λW11=>oK (rdN s 4 w4) λW12=>wC TP X 35 [(.agg W11),(.agg W12)] (λW13 S14=>oK (qAC 0 t3) λW15=>oK (rd1 S14 W15) λW16=>oK (qAC 1 t3) λW17=>oK (rd1 S14 W17) λW18=>oK (qAH .add W16 W18) λW19=>oK (nat? W19) λn_20=>oK (nat? W19) λn_21=>(n_20<=n_21/\n_21<=4294967296)/\newK 4 (repl n_21 [(.bool false)]) (λB22 S23=>oK (qAT 1 (.slc B22 0 n_20 (some n_21) 1) leaf2) λW24=>oK (wr1 S23 W24 (.bool true)) λS25=>∃I3:IvP,(∃m,I3 [(.bool true)] S25 m)/\∀(f:Env) (s:Hq) (m3:Nat),I3 [f 10] s m3->
 qDt X t3 x7 W13 (.slc B22 0 n_20 (some n_21) 1) (f 10) I3 m3 K s) S14) s)
def qBJ(X:Td)(leaf2 t3 w4 x7 t22 t26:AV)(K:KvP)(s:Hq):Prop:=
 oK (qAO t22 (.bool true) t26) λW9=>qAK W9
 (qBK X leaf2 t3 w4 x7 W9 .undef K s)
 (oK (qAC 0 w4) λW63=>oK (rd1 s W63) λW64=>wC TP X 68 [W64,leaf2] (λW65 S66=>oK (qAi .not W65) λW67=>qBK X leaf2 t3 w4 x7 W9 W67 K S66) s)
def qBM(X:Td)(leaf2 t3 w4 x7 t18 t20:AV)(K:KvP)(s:Hq):Prop:=
 oK (qAO t18 (.bool true) t20) λW8=>qAK W8
 (qBJ X leaf2 t3 w4 x7 W8 .undef K s)
 (oK (qAC 0 t3) λW68=>oK (rd1 s W68) λW69=>oK (qAH .geq leaf2 W69) λW70=>qBJ X leaf2 t3 w4 x7 W8 W70 K s)
def qIz(X:Td)(t0 w1 leaf2:AV)(K:KvP)(s:Hq):Prop:=
 boxK 31 t0 (λB0 S1=>boxK 36 w1 (λB2 S3=>oK (rdN S3 19 B0) λW4=>wC TP X 66 [(.agg W4)] (λW5 S6=>oK (qAi .not W5) λW7=>qAK W7
 (qBM X leaf2 B0 B2 .nilslc W7 .undef K S6)
 (oK (qAH .lss leaf2 (.int .i64 0)) λW71=>qBM X leaf2 B0 B2 .nilslc W7 W71 K S6)) S3) S1) s
def qHD:Nat->List Nat:=λk=>cond (Nat.beq k 16) [10] (cond (Nat.beq k 22) [10,11] (cond (Nat.beq k 36) [7,14] ([])))
theorem qHQ{t0 w1 leaf2:AV}{K:KvP}{s:Hq}(h:qIz XX t0 w1 leaf2 K s):wC TP XX 37 [t0,w1,leaf2] K s:=wOK qAu qHD rfl Tryz.func37 h
def qMA(X:Td)(t0 w1:AV)(K:KvP)(s:Hq):Prop:=
 boxK 31 t0 (λB0 S1=>boxK 36 w1 (λB2 S3=>oK (rdN S3 19 B0) λW4=>wC TP X 70 [(.agg W4)] (λW5 S6=>oK (qAl W5 0) λW7=>oK (qAl W5 1) λW8=>oK (qAl W5 2) λW9=>oK (negB true (eqV 0 true W7 (.int .i64 0))) λW10=>qAK W10
 (K (.tup [.nilptr,(.bool false)]) S6)
 (oK (rdN S6 19 B0) λW11=>oK (rdN S6 4 B2) λW12=>oK (qBb [(.int .i64 0),(.int .i64 0),.nilslc,.nilslc,.nilslc,.nilslc,.nilslc,.nilslc,(.int .i64 0),(.int .i64 0),(.int .i64 0),(.bool false),(.bool false),(.int .i64 0),(.int .i64 0),(.int .i64 0),(.int .i64 0),(.int .i64 0),(.int .i64 0),.nilslc,.nilslc,.nilslc,.nilslc] [(0,19,(.agg W11)),(19,4,(.agg W12))]) λC13=>boxK 136 (.agg C13) (λB14 S15=>K (.tup [B14,(.bool true)]) S15) S6)) S3) S1) s
theorem qKA{t0 w1:AV}{K:KvP}{s:Hq}(h:qMA XX t0 w1 K s):wC TP XX 38 [t0,w1] K s:=wOK qAu nA0 rfl Tryz.func38 h
def qA1(X:Td)(t0 x1 segment6 t31 t39:AV)(K:KvP)(s:Hq):Prop:=
 oK (qAO t31 (.bool true) t39) λW11=>qAK W11
 (K (.tup [(.int .i64 0),(.bool false)]) s)
 (oK (qAc t0) λW12=>oK (qAC 0 W12) λW13=>oK (qAC 5 W13) λW14=>oK (rd1 s W14) λW15=>oK (qAT 2 W15 segment6) λW16=>oK (qAC 1 W16) λW17=>oK (rd1 s W17) λW18=>oK (qAc t0) λW19=>oK (qAC 0 W19) λW20=>oK (qAC 6 W20) λW21=>oK (rd1 s W21) λW22=>oK (qAT 4 W22 x1) λW23=>oK (qAC 2 W23) λW24=>oK (rd1 s W24) λW25=>wC TP X 72 [W18,W25] (λW26 S27=>oK (qAi .not W26) λW28=>qAK W28
 (K (.tup [(.int .i64 0),(.bool false)]) S27)
 (K (.tup [segment6,(.bool true)]) S27)) s)
def qA2(X:Td)(t0 x1 t11 t19:AV)(K:KvP)(s:Hq):Prop:=
 oK (qAO t11 (.bool true) t19) λW3=>qAK W3
 (K (.tup [(.int .i64 0),(.bool false)]) s)
 (oK (qAc t0) λW4=>oK (qAC 19 W4) λW5=>oK (qAC 3 W5) λW6=>oK (rd1 s W6) λW7=>oK (qAT 1 W7 x1) λW8=>oK (rd1 s W8) λW9=>oK (qAH .lss W9 (.int .i64 0)) λW10=>qAK W10
 (qA1 X t0 x1 W9 W10 .undef K s)
 (oK (qAc t0) λW29=>oK (qAC 0 W29) λW30=>oK (qAC 5 W30) λW31=>oK (rd1 s W31) λW32=>oK (qAN W32) λW33=>oK (qAH .geq W9 (.int .i64 W33)) λW35=>qA1 X t0 x1 W9 W10 W35 K s))
def qHm(X:Td)(t0 x1:AV)(K:KvP)(s:Hq):Prop:=
 wC TP X 56 [t0,x1] (λW0 S1=>oK (qAi .not W0) λW2=>qAK W2
 (qA2 X t0 x1 W2 .undef K S1)
 (oK (qAc t0) λW36=>oK (qAC 19 W36) λW37=>oK (qAC 3 W37) λW38=>oK (rd1 S1 W38) λW39=>oK (qAN W39) λW40=>oK (qAH .geq x1 (.int .i64 W40)) λW42=>qA2 X t0 x1 W2 W42 K S1)) s
theorem qGG{t0 x1:AV}{K:KvP}{s:Hq}(h:qHm XX t0 x1 K s):wC TP XX 40 [t0,x1] K s:=wOK qAu nA0 rfl Tryz.func40 h
def qBP(X:Td)(x1 t2 t18 t26:AV)(K:KvP)(s:Hq):Prop:=
 oK (qAO t18 (.bool true) t26) λW4=>qAK W4
 (K .nilslc s)
 (oK (rd1 s t2) λW5=>wC TP X 74 [x1,(.fn (.func 75) [W5] [])] (λW6 S7=>wC TP X 76 [W6,(.fn (.func 77) [] [t2])] (λW8 S9=>wC TP X 78 [W8] (λW10 S11=>K W8 S11) S9) S7) s)
def qBR(X:Td)(x1 t2 t9 t16:AV)(K:KvP)(s:Hq):Prop:=
 oK (qAO t9 (.bool true) t16) λW3=>qAK W3
 (qBP X x1 t2 W3 .undef K s)
 (oK (rd1 s t2) λW12=>oK (qAc W12) λW13=>oK (qAC 19 W13) λW14=>oK (qAC 0 W14) λW15=>oK (rd1 s W15) λW16=>wC TP X 73 [W16,x1] (λW17 S18=>oK (qAi .not W17) λW19=>qBP X x1 t2 W3 W19 K S18) s)
def qJ5(X:Td)(t0 x1:AV)(K:KvP)(s:Hq):Prop:=
 boxK 94 t0 (λB0 S1=>oK (qAH .lss x1 (.int .i64 0)) λW2=>qAK W2
 (qBR X x1 B0 W2 .undef K S1)
 (oK (rd1 S1 B0) λW20=>oK (qAc W20) λW21=>oK (qAC 0 W21) λW22=>oK (qAC 0 W22) λW23=>oK (rd1 S1 W23) λW24=>oK (qAH .geq x1 W24) λW25=>qBR X x1 B0 W2 W25 K S1)) s
theorem qH5{t0 x1:AV}{K:KvP}{s:Hq}(h:qJ5 XX t0 x1 K s):wC TP XX 41 [t0,x1] K s:=wOK qAu nA0 rfl Tryz.func41 h
def qCE(X:Td)(t7 t15:AV)(K:KvP)(s:Hq):Prop:=
 oK (qAO t7 t15 (.bool false)) λW1=>K W1 s
def qFR(X:Td)(t0 h1:AV)(K:KvP)(s:Hq):Prop:=
 oK (qAH .geq h1 (.int .i64 0)) λW0=>qAK W0
 (oK (qAc t0) λW2=>oK (qAC 0 W2) λW3=>oK (qAC 6 W3) λW4=>oK (rd1 s W4) λW5=>oK (qAN W5) λW6=>oK (qAH .lss h1 (.int .i64 W6)) λW8=>qCE X W0 W8 K s)
 (qCE X W0 .undef K s)
theorem qIT{t0 h1:AV}{K:KvP}{s:Hq}(h:qFR XX t0 h1 K s):wC TP XX 56 [t0,h1] K s:=wOK qAu nA0 rfl Tryz.func56 h
def qLu(X:Td)(t0 x1 data2:AV)(K:KvP)(s:Hq):Prop:=
 newK 48 [(.int .u64 0),(.int .u64 0),(.int .i64 0),(.int .i64 0),(.int .u64 0),(.int .u32 0),(.int .u64 0),(.int .u32 0),(.int .u32 0),(.int .u32 0),(.int .i64 0),(.int .i64 0),(.int .i64 0),(.int .i64 0),(.int .u64 0)] (λB0 S1=>wC TP X 87 [t0,x1,x1,data2] (λW2 S3=>oK (qBA S3 15 (.ptr B0 0) W2) λS4=>oK (rdN S4 15 (.ptr B0 0)) λt6_5=>K (.agg t6_5) S4) S1) s
theorem qKF{t0 x1 data2:AV}{K:KvP}{s:Hq}(h:qLu XX t0 x1 data2 K s):wC TP XX 57 [t0,x1,data2] K s:=wOK qAu nA0 rfl Tryz.func57 h
def qI0(X:Td)(t0 x1 x2:AV)(K:KvP)(s:Hq):Prop:=
 boxK 48 x2 (λB0 S1=>wC TP X 40 [t0,x1] (λW2 S3=>oK (qAl W2 0) λW4=>oK (qAl W2 1) λW5=>oK (qAi .not W5) λW6=>qAK W6
 (K (.tup [(.int .i64 0),(.bool false)]) S3)
 (wC TP X 63 [t0,W4] (λW7 S8=>oK (qAN W7) λW9=>oK (negB false (eqV 0 true (.int .i64 W9) (.int .i64 0))) λW11=>qAK W11
 (K (.tup [(.int .i64 0),(.bool false)]) S8)
 (oK (rdN S8 15 B0) λW12=>wC TP X 88 [(.agg W12)] (λW13 S14=>oK (qAN W7) λW15=>oK (qAH .rem W13 (.int .i64 W15)) λW17=>oK (qAT 1 W7 W17) λW18=>oK (rd1 S14 W18) λW19=>K (.tup [W19,(.bool true)]) S14) S8)) S3)) S1) s
theorem qHS{t0 x1 x2:AV}{K:KvP}{s:Hq}(h:qI0 XX t0 x1 x2 K s):wC TP XX 61 [t0,x1,x2] K s:=wOK qAu nA0 rfl Tryz.func61 h
end Go.AM
namespace Go.AM
open Go Go.Proofs
set_option maxRecDepth 100000
def qBX(X:Td)(result5 t30:AV)(I1:IvP)(m1:Nat)(K:KvP)(s:Hq):Prop:=
 oK (qAH .add t30 (.int .i64 1)) λW21=>∃m',m'<m1/\I1 [result5,W21] s m'
def qBY(X:Td)(result5 x7 t30 t41 t45:AV)(I1:IvP)(m1:Nat)(K:KvP)(s:Hq):Prop:=
 oK (qAO t41 t45 (.bool false)) λW20=>qAK W20
 (oK (qBb (repl 1 [(.int .i64 0)]) [(0,1,x7)]) λC22=>qAd C22=true/\newK 3 C22 (λB23 S24=>appK 3 1 result5 (.slc B23 0 1 (some 1) 1) (λW25 S26=>qBX X W25 t30 I1 m1 K S26) S24) s)
 (qBX X result5 t30 I1 m1 K s)
def qDV(X:Td)(t0 x1 result5 t28 t29 t30:AV)(I1:IvP)(m1:Nat)(K:KvP)(s:Hq):Prop:=
 oK (qAH .lss t30 t29) λW11=>qAK W11
 (oK (qAT 1 t28 t30) λW12=>oK (rd1 s W12) λW13=>oK (qAc t0) λW14=>oK (qAC 19 W14) λW15=>oK (qAC 0 W15) λW16=>oK (rd1 s W16) λW17=>wC TP X 73 [W17,W13] (λW18 S19=>qAK W18
 (wC TP X 92 [t0,W13,x1] (λW27 S28=>qBY X result5 W13 t30 W18 W27 I1 m1 K S28) S19)
 (qBY X result5 W13 t30 W18 .undef I1 m1 K S19)) s)
 (K result5 s)
def qA8(X:Td)(t0 x1 t10 t18:AV)(K:KvP)(s:Hq):Prop:=
 oK (qAO t10 (.bool true) t18) λW1=>qAK W1
 (K .nilslc s)
 (oK (qAc t0) λW2=>oK (qAC 0 W2) λW3=>oK (qAC 5 W3) λW4=>oK (rd1 s W4) λW5=>oK (qAT 2 W5 x1) λW6=>oK (qAC 0 W6) λW7=>oK (rd1 s W7) λW8=>oK (qAN W8) λW9=>∃I1:IvP,(∃m,I1 [.nilslc,(.int .i64 0)] s m)/\∀(f:Env) (s:Hq) (m1:Nat),I1 [f 5,f 30] s m1->
 qDV X t0 x1 (f 5) W8 (.int .i64 W9) (f 30) I1 m1 K s)
def qEM(X:Td)(t0 x1:AV)(K:KvP)(s:Hq):Prop:=
 oK (qAH .lss x1 (.int .i64 0)) λW0=>qAK W0
 (qA8 X t0 x1 W0 .undef K s)
 (oK (qAc t0) λW29=>oK (qAC 0 W29) λW30=>oK (qAC 5 W30) λW31=>oK (rd1 s W31) λW32=>oK (qAN W32) λW33=>oK (qAH .geq x1 (.int .i64 W33)) λW35=>qA8 X t0 x1 W0 W35 K s)
def qGM:Nat->List Nat:=λk=>cond (Nat.beq k 10) [5,30] ([])
theorem qGT{t0 x1:AV}{K:KvP}{s:Hq}(h:qEM XX t0 x1 K s):wC TP XX 63 [t0,x1] K s:=wOK qAu qGM rfl Tryz.func63 h
def qBg(X:Td)(t7 t38 t52:AV)(K:KvP)(s:Hq):Prop:=
 oK (qAO t38 (.bool true) t52) λW13=>qAK W13
 (K (.int .i64 (-1)) s)
 (K t7 s)
def qBD(X:Td)(host2 t3 t7 t31 t36:AV)(K:KvP)(s:Hq):Prop:=
 oK (qAO t31 (.bool true) t36) λW12=>qAK W12
 (qBg X t7 W12 .undef K s)
 (oK (qAC 5 t3) λW14=>oK (rd1 s W14) λW15=>oK (qAT 2 W15 t7) λW16=>oK (qAC 1 W16) λW17=>oK (rd1 s W17) λW18=>oK (qAC 6 t3) λW19=>oK (rd1 s W19) λW20=>oK (qAT 4 W20 host2) λW21=>oK (qAC 2 W21) λW22=>oK (rd1 s W22) λW23=>wC TP X 93 [W18,W23] (λW24 S25=>oK (qAi .not W24) λW26=>qBg X t7 W12 W26 K S25) s)
def qBE(X:Td)(host2 t3 w4 t17 t22:AV)(K:KvP)(s:Hq):Prop:=
 oK (qAO t17 (.bool true) t22) λW6=>qAK W6
 (K (.int .i64 (-1)) s)
 (oK (qAC 3 w4) λW7=>oK (rd1 s W7) λW8=>oK (qAT 1 W8 host2) λW9=>oK (rd1 s W9) λW10=>oK (qAH .lss W10 (.int .i64 0)) λW11=>qAK W11
 (qBD X host2 t3 W10 W11 .undef K s)
 (oK (qAC 5 t3) λW27=>oK (rd1 s W27) λW28=>oK (qAN W28) λW29=>oK (qAH .geq W10 (.int .i64 W29)) λW31=>qBD X host2 t3 W10 W11 W31 K s))
def qBh(X:Td)(host2 t3 w4 t10 t15:AV)(K:KvP)(s:Hq):Prop:=
 oK (qAO t10 (.bool true) t15) λW5=>qAK W5
 (qBE X host2 t3 w4 W5 .undef K s)
 (oK (qAC 3 w4) λW32=>oK (rd1 s W32) λW33=>oK (qAN W33) λW34=>oK (qAH .geq host2 (.int .i64 W34)) λW36=>qBE X host2 t3 w4 W5 W36 K s)
def qIm(X:Td)(t0 w1 host2:AV)(K:KvP)(s:Hq):Prop:=
 boxK 31 t0 (λB0 S1=>boxK 36 w1 (λB2 S3=>oK (qAH .lss host2 (.int .i64 0)) λW4=>qAK W4
 (qBh X host2 B0 B2 W4 .undef K S3)
 (oK (qAC 6 B0) λW37=>oK (rd1 S3 W37) λW38=>oK (qAN W38) λW39=>oK (qAH .geq host2 (.int .i64 W39)) λW41=>qBh X host2 B0 B2 W4 W41 K S3)) S1) s
theorem qHC{t0 w1 host2:AV}{K:KvP}{s:Hq}(h:qIm XX t0 w1 host2 K s):wC TP XX 64 [t0,w1,host2] K s:=wOK qAu nA0 rfl Tryz.func64 h
def qIs(X:Td)(t0:AV)(K:KvP)(s:Hq):Prop:=
 boxK 31 t0 (λB0 S1=>oK (rdN S1 19 B0) λW2=>wC TP X 96 [(.agg W2)] (λW3 S4=>oK (qAl W3 0) λW5=>oK (qAl W3 1) λW6=>oK (qAl W3 2) λW7=>oK (negB false (eqV 0 true W5 (.int .i64 0))) λW8=>K W8 S4) S1) s
theorem qG9{t0:AV}{K:KvP}{s:Hq}(h:qIs XX t0 K s):wC TP XX 66 [t0] K s:=wOK qAu nA0 rfl Tryz.func66 h
def qBz(X:Td)(t31 t39:AV)(K:KvP)(s:Hq):Prop:=
 oK (qAO t31 t39 (.bool false)) λW16=>K W16 s
def qBt(X:Td)(t0 l5 t21 t29:AV)(K:KvP)(s:Hq):Prop:=
 oK (qAO t21 t29 (.bool false)) λW15=>qAK W15
 (oK (qAc t0) λW17=>oK (qAC 19 W17) λW18=>oK (qAC 0 W18) λW19=>oK (rd1 s W19) λW20=>oK (qAC 1 l5) λW21=>oK (rd1 s W21) λW22=>wC TP X 73 [W20,W22] (λW23 S24=>qBz X W15 W23 K S24) s)
 (qBz X W15 .undef K s)
def qJP(X:Td)(t0 x1:AV)(K:KvP)(s:Hq):Prop:=
 oK (qAc t0) λW0=>oK (qAC 0 W0) λW1=>oK (qAC 2 W1) λW2=>oK (rd1 s W2) λW3=>oK (qAT 3 W3 x1) λW4=>oK (rdN s 3 W4) λW5=>newK 91 [(.int .i64 0),(.int .i64 0),(.int .i64 0)] (λB6 S7=>oK (qBA S7 3 (.ptr B6 0) (.agg W5)) λS8=>oK (qAc t0) λW9=>oK (qAC 19 W9) λW10=>oK (qAC 1 W10) λW11=>oK (rd1 S8 W11) λW12=>wC TP X 73 [W12,x1] (λW13 S14=>qAK W13
 (oK (qAc t0) λW25=>oK (qAC 19 W25) λW26=>oK (qAC 0 W26) λW27=>oK (rd1 S14 W27) λW28=>oK (qAC 0 (.ptr B6 0)) λW29=>oK (rd1 S14 W29) λW30=>wC TP X 73 [W28,W30] (λW31 S32=>qBt X t0 (.ptr B6 0) W13 W31 K S32) S14)
 (qBt X t0 (.ptr B6 0) W13 .undef K S14)) S8) s
theorem qHK{t0 x1:AV}{K:KvP}{s:Hq}(h:qJP XX t0 x1 K s):wC TP XX 67 [t0,x1] K s:=wOK qAu nA0 rfl Tryz.func67 h
def qCJ(X:Td)(t13 t17:AV)(K:KvP)(s:Hq):Prop:=
 oK (qAO t13 t17 (.bool false)) λW2=>K W2 s
def qBZ(X:Td)(l0 i1 t7 t11:AV)(K:KvP)(s:Hq):Prop:=
 oK (qAO t7 t11 (.bool false)) λW1=>qAK W1
 (oK (qAT 1 l0 i1) λW3=>oK (rd1 s W3) λW4=>qCJ X W1 W4 K s)
 (qCJ X W1 .undef K s)
def qGO(X:Td)(l0 i1:AV)(K:KvP)(s:Hq):Prop:=
 oK (qAH .geq i1 (.int .i64 0)) λW0=>qAK W0
 (oK (qAN l0) λW5=>oK (qAH .lss i1 (.int .i64 W5)) λW7=>qBZ X l0 i1 W0 W7 K s)
 (qBZ X l0 i1 W0 .undef K s)
theorem qIq{l0 i1:AV}{K:KvP}{s:Hq}(h:qGO XX l0 i1 K s):wC TP XX 68 [l0,i1] K s:=wOK qAu nA0 rfl Tryz.func68 h
def qBu(X:Td)(t16 t23:AV)(K:KvP)(s:Hq):Prop:=
 oK (qAO t16 t23 (.bool false)) λW4=>K W4 s
def qBH(X:Td)(x1 t2 w3 t9 t14:AV)(K:KvP)(s:Hq):Prop:=
 oK (qAO t9 t14 (.bool false)) λW3=>qAK W3
 (oK (qAC 2 w3) λW5=>oK (rd1 s W5) λW6=>oK (qAT 1 W6 x1) λW7=>oK (rd1 s W7) λW8=>wC TP X 68 [W8,t2] (λW9 S10=>qBu X W3 W9 K S10) s)
 (qBu X W3 .undef K s)
def qJU(X:Td)(w0 x1 t2:AV)(K:KvP)(s:Hq):Prop:=
 boxK 36 w0 (λB0 S1=>oK (qAH .geq x1 (.int .i64 0)) λW2=>qAK W2
 (oK (qAC 2 B0) λW11=>oK (rd1 S1 W11) λW12=>oK (qAN W12) λW13=>oK (qAH .lss x1 (.int .i64 W13)) λW15=>qBH X x1 t2 B0 W2 W15 K S1)
 (qBH X x1 t2 B0 W2 .undef K S1)) s
theorem qHf{w0 x1 t2:AV}{K:KvP}{s:Hq}(h:qJU XX w0 x1 t2 K s):wC TP XX 69 [w0,x1,t2] K s:=wOK qAu nA0 rfl Tryz.func69 h
def qC9(X:Td)(t1 t36 t40 t44:AV)(K:KvP)(s:Hq):Prop:=
 oK (qAO t40 t44 (.bool false)) λW35=>oK (qAO t36 (.bool true) W35) λW36=>qAK W36
 (K (.int .i64 3) s)
 (oK (qAC 2 t1) λW37=>oK (rd1 s W37) λW38=>oK (negB false (eqV 0 true W38 (.int .i64 1))) λW39=>qAK W39
 (oK (qAC 3 t1) λW40=>oK (rdN s 5 W40) λW41=>wC TP X 99 [(.agg W41)] (λW42 S43=>K W42 S43) s)
 (oK (negB false (eqV 0 true W38 (.int .i64 2))) λW44=>qAK W44
 (oK (qAC 8 t1) λW45=>oK (rdN s 6 W45) λW46=>wC TP X 100 [(.agg W46)] (λW47 S48=>K W47 S48) s)
 (K (.int .i64 0) s)))
def qDB(X:Td)(t1 t30 t34:AV)(K:KvP)(s:Hq):Prop:=
 oK (qAO t30 t34 (.bool false)) λW18=>qAK W18
 (oK (qAO W18 (.bool true) .undef) λW19=>qAK W19
 (K (.int .i64 3) s)
 (oK (qAC 2 t1) λW20=>oK (rd1 s W20) λW21=>oK (negB false (eqV 0 true W21 (.int .i64 1))) λW22=>qAK W22
 (oK (qAC 3 t1) λW23=>oK (rdN s 5 W23) λW24=>wC TP X 99 [(.agg W24)] (λW25 S26=>K W25 S26) s)
 (oK (negB false (eqV 0 true W21 (.int .i64 2))) λW27=>qAK W27
 (oK (qAC 8 t1) λW28=>oK (rdN s 6 W28) λW29=>wC TP X 100 [(.agg W29)] (λW30 S31=>K W30 S31) s)
 (K (.int .i64 0) s))))
 (oK (qAC 2 t1) λW32=>oK (rd1 s W32) λW33=>oK (negB true (eqV 0 true W33 (.int .i64 2))) λW34=>qAK W34
 (oK (qAC 8 t1) λW49=>oK (rdN s 6 W49) λW50=>oK (qBb [(.int .u32 0),(.int .u32 0),(.int .i64 0),(.int .i64 0),(.int .i64 0),(.int .i64 0)] []) λC51=>oK (negB true (qGP TP 46 (.agg W50) (.agg C51))) λW52=>qC9 X t1 W18 W34 W52 K s)
 (qC9 X t1 W18 W34 .undef K s))
def qCb(X:Td)(t1 t22 t25:AV)(K:KvP)(s:Hq):Prop:=
 oK (qAO t22 t25 (.bool false)) λW14=>qAK W14
 (K (.int .i64 6) s)
 (oK (qAC 2 t1) λW15=>oK (rd1 s W15) λW16=>oK (negB true (eqV 0 true W16 (.int .i64 1))) λW17=>qAK W17
 (oK (qAC 3 t1) λW53=>oK (rdN s 5 W53) λW54=>oK (qBb [(.int .i64 0),(.int .u64 0),(.int .u32 0),(.int .u64 0),(.int .u32 0)] []) λC55=>oK (negB true (qGP TP 44 (.agg W54) (.agg C55))) λW56=>qDB X t1 W17 W56 K s)
 (qDB X t1 W17 .undef K s))
def qCT(X:Td)(t1 t17 t20:AV)(K:KvP)(s:Hq):Prop:=
 oK (qAO t17 t20 (.bool false)) λW13=>qAK W13
 (oK (qAC 2 t1) λW57=>oK (rd1 s W57) λW58=>oK (negB true (eqV 0 true W58 (.int .i64 2))) λW59=>qCb X t1 W13 W59 K s)
 (qCb X t1 W13 .undef K s)
def qCX(X:Td)(t1 t6 t9:AV)(K:KvP)(s:Hq):Prop:=
 oK (qAO t6 (.bool true) t9) λW5=>qAK W5
 (K (.int .i64 2) s)
 (oK (qAC 0 t1) λW6=>oK (rd1 s W6) λW7=>wC TP X 21 [W7] (λW8 S9=>qAK W8
 (K (.int .i64 3) S9)
 (oK (qAC 2 t1) λW10=>oK (rd1 S9 W10) λW11=>oK (negB true (eqV 0 true W11 (.int .i64 0))) λW12=>qAK W12
 (oK (qAC 2 t1) λW60=>oK (rd1 S9 W60) λW61=>oK (negB true (eqV 0 true W61 (.int .i64 1))) λW62=>qCT X t1 W12 W62 K S9)
 (qCT X t1 W12 .undef K S9))) s)
def qNb(X:Td)(t0:AV)(K:KvP)(s:Hq):Prop:=
 boxK 48 t0 (λB0 S1=>oK (qAC 0 B0) λW2=>oK (rd1 S1 W2) λW3=>oK (qAH .gtr W3 (.int .u64 281474976710655)) λW4=>qAK W4
 (qCX X B0 W4 .undef K S1)
 (oK (qAC 1 B0) λW63=>oK (rd1 S1 W63) λW64=>oK (qAH .gtr W64 (.int .u64 281474976710655)) λW65=>qCX X B0 W4 W65 K S1)) s
theorem qLT{t0:AV}{K:KvP}{s:Hq}(h:qNb XX t0 K s):wC TP XX 71 [t0] K s:=wOK qAu nA0 rfl Tryz.func71 h
def qEI(X:Td)(t13 t17:AV)(K:KvP)(s:Hq):Prop:=
 oK (qAO t13 t17 (.bool false)) λW2=>K W2 s
def qDE(X:Td)(l0 i1 t7 t11:AV)(K:KvP)(s:Hq):Prop:=
 oK (qAO t7 t11 (.bool false)) λW1=>qAK W1
 (oK (qAT 1 l0 i1) λW3=>oK (rd1 s W3) λW4=>qEI X W1 W4 K s)
 (qEI X W1 .undef K s)
def qMP(X:Td)(l0 i1:AV)(K:KvP)(s:Hq):Prop:=
 oK (qAH .geq i1 (.int .i64 0)) λW0=>qAK W0
 (oK (qAN l0) λW5=>oK (qAH .lss i1 (.int .i64 W5)) λW7=>qDE X l0 i1 W0 W7 K s)
 (qDE X l0 i1 W0 .undef K s)
theorem qNT{l0 i1:AV}{K:KvP}{s:Hq}(h:qMP XX l0 i1 K s):wC TP XX 73 [l0,i1] K s:=wOK qAu nA0 rfl Tryz.func73 h
def qBk(X:Td)(queue6 t28:AV)(I1:IvP)(m1:Nat)(I0:IvP)(m0:Nat)(K:KvP)(s:Hq):Prop:=
 oK (qAH .add t28 (.int .i64 1)) λW20=>∃m',m'<m1/\I1 [queue6,W20] s m'
def qDb(X:Td)(seen5 queue6 i7 t26 t27 t28:AV)(I1:IvP)(m1:Nat)(I0:IvP)(m0:Nat)(K:KvP)(s:Hq):Prop:=
 oK (qAH .lss t28 t27) λW15=>qAK W15
 (oK (qAT 1 t26 t28) λW16=>oK (rd1 s W16) λW17=>oK (getM s seen5 W17) λr_18=>oK (qAi .not (retM (.bool false) false r_18)) λW19=>qAK W19
 (oK (putM s seen5 W17 (.bool true)) λS21=>oK (qBb (repl 1 [(.int .i64 0)]) [(0,1,W17)]) λC22=>qAd C22=true/\newK 3 C22 (λB23 S24=>appK 3 1 queue6 (.slc B23 0 1 (some 1) 1) (λW25 S26=>qBk X W25 t28 I1 m1 I0 m0 K S26) S24) S21)
 (qBk X queue6 t28 I1 m1 I0 m0 K s))
 (oK (qAH .add i7 (.int .i64 1)) λW27=>∃m',m'<m0/\I0 [queue6,W27] s m')
def qDe(X:Td)(x1 seen5 queue6 i7:AV)(I0:IvP)(m0:Nat)(K:KvP)(s:Hq):Prop:=
 oK (qAN queue6) λW6=>oK (qAH .lss i7 (.int .i64 W6)) λW8=>qAK W8
 (oK (qAT 1 queue6 i7) λW9=>oK (rd1 s W9) λW10=>funK TP X x1 [W10] (λW11 S12=>oK (qAN W11) λW13=>∃I1:IvP,(∃m,I1 [queue6,(.int .i64 0)] S12 m)/\∀(f:Env) (s:Hq) (m1:Nat),I1 [f 6,f 28] s m1->
 qDb X seen5 (f 6) i7 W11 (.int .i64 W13) (f 28) I1 m1 I0 m0 K s) s)
 (K queue6 s)
def qIl(X:Td)(start0 x1:AV)(K:KvP)(s:Hq):Prop:=
 mapK (λW0 S1=>oK (putM S1 W0 start0 (.bool true)) λS2=>oK (qBb (repl 1 [(.int .i64 0)]) [(0,1,start0)]) λC3=>qAd C3=true/\newK 3 C3 (λB4 S5=>∃I0:IvP,(∃m,I0 [(.slc B4 0 1 (some 1) 1),(.int .i64 0)] S5 m)/\∀(f:Env) (s:Hq) (m0:Nat),I0 [f 6,f 7] s m0->
 qDe X x1 W0 (f 6) (f 7) I0 m0 K s) S2) s
def qGS:Nat->List Nat:=λk=>cond (Nat.beq k 8) [6,7] (cond (Nat.beq k 14) [6,28] ([]))
theorem qG4{start0 x1:AV}{K:KvP}{s:Hq}(h:qIl XX start0 x1 K s):wC TP XX 74 [start0,x1] K s:=wOK qAu qGS rfl Tryz.func74 h
def qAp(X:Td)(result5 t14:AV)(I0:IvP)(m0:Nat)(K:KvP)(s:Hq):Prop:=
 oK (qAH .add t14 (.int .i64 1)) λW15=>∃m',m'<m0/\I0 [result5,W15] s m'
def qCz(X:Td)(t0 x1 result5 t12 t13 t14:AV)(I0:IvP)(m0:Nat)(K:KvP)(s:Hq):Prop:=
 oK (qAH .lss t14 t13) λW6=>qAK W6
 (oK (qAT 3 t12 t14) λW7=>oK (rdN s 3 W7) λW8=>newK 91 [(.int .i64 0),(.int .i64 0),(.int .i64 0)] (λB9 S10=>oK (qBA S10 3 (.ptr B9 0) (.agg W8)) λS11=>wC TP X 67 [t0,t14] (λW12 S13=>oK (qAi .not W12) λW14=>qAK W14
 (qAp X result5 t14 I0 m0 K S13)
 (oK (qAC 0 (.ptr B9 0)) λW16=>oK (rd1 S13 W16) λW17=>oK (negB false (eqV 0 false W17 x1)) λW18=>qAK W18
 (oK (qAC 1 (.ptr B9 0)) λW19=>oK (rd1 S13 W19) λW20=>oK (qBb (repl 1 [(.int .i64 0)]) [(0,1,W20)]) λC21=>qAd C21=true/\newK 3 C21 (λB22 S23=>appK 3 1 result5 (.slc B22 0 1 (some 1) 1) (λW24 S25=>qAp X W24 t14 I0 m0 K S25) S23) S13)
 (oK (qAC 1 (.ptr B9 0)) λW26=>oK (rd1 S13 W26) λW27=>oK (negB false (eqV 0 false W27 x1)) λW28=>qAK W28
 (oK (qAC 0 (.ptr B9 0)) λW29=>oK (rd1 S13 W29) λW30=>oK (qBb (repl 1 [(.int .i64 0)]) [(0,1,W30)]) λC31=>qAd C31=true/\newK 3 C31 (λB32 S33=>appK 3 1 result5 (.slc B32 0 1 (some 1) 1) (λW34 S35=>qAp X W34 t14 I0 m0 K S35) S33) S13)
 (qAp X result5 t14 I0 m0 K S13)))) S11) s)
 (K result5 s)
def qGR(X:Td)(t0 x1:AV)(K:KvP)(s:Hq):Prop:=
 oK (qAc t0) λW0=>oK (qAC 0 W0) λW1=>oK (qAC 2 W1) λW2=>oK (rd1 s W2) λW3=>oK (qAN W3) λW4=>∃I0:IvP,(∃m,I0 [.nilslc,(.int .i64 0)] s m)/\∀(f:Env) (s:Hq) (m0:Nat),I0 [f 5,f 14] s m0->
 qCz X t0 x1 (f 5) W3 (.int .i64 W4) (f 14) I0 m0 K s
def qEy:Nat->List Nat:=λk=>cond (Nat.beq k 6) [5,14] ([])
theorem qFL{t0 x1:AV}{K:KvP}{s:Hq}(h:qGR XX t0 x1 K s):wC TP XX 75 [t0,x1] K s:=wOK qAu qEy rfl Tryz.func75 h
def qBQ(X:Td)(i5 j6:AV)(I0:IvP)(m0:Nat)(K:KvP)(s:Hq):Prop:=
 oK (qAH .add j6 (.int .i64 1)) λW12=>∃m',m'<m0/\I0 [i5,W12] s m'
def qDD(X:Td)(t0 x1 i5 j6:AV)(I0:IvP)(m0:Nat)(K:KvP)(s:Hq):Prop:=
 oK (qAN t0) λW4=>oK (qAH .lss j6 (.int .i64 W4)) λW6=>qAK W6
 (oK (qAT 1 t0 j6) λW7=>oK (rd1 s W7) λW8=>funK TP X x1 [W8] (λW9 S10=>oK (qAi .not W9) λW11=>qAK W11
 (oK (qAT 1 t0 i5) λW13=>oK (wr1 S10 W13 W8) λS14=>oK (qAH .add i5 (.int .i64 1)) λW15=>qBQ X W15 j6 I0 m0 K S14)
 (qBQ X i5 j6 I0 m0 K S10)) s)
 (oK (qEU 1 t0 (some i5) none none) λW16=>qUf [(.int .i64 0)] 1 W16 (λW17 S18=>oK (qEU 1 t0 none (some i5) none) λW19=>K W19 S18) s)
def qHO(X:Td)(t0 x1:AV)(K:KvP)(s:Hq):Prop:=
 wC TP X 102 [t0,x1] (λW0 S1=>oK (negB false (eqV 0 true W0 (.int .i64 (-1)))) λW2=>qAK W2
 (K t0 S1)
 (oK (qAH .add W0 (.int .i64 1)) λW3=>∃I0:IvP,(∃m,I0 [W0,W3] S1 m)/\∀(f:Env) (s:Hq) (m0:Nat),I0 [f 5,f 6] s m0->
 qDD X t0 x1 (f 5) (f 6) I0 m0 K s)) s
def qFm:Nat->List Nat:=λk=>cond (Nat.beq k 10) [5,6] ([])
theorem qGD{t0 x1:AV}{K:KvP}{s:Hq}(h:qHO XX t0 x1 K s):wC TP XX 76 [t0,x1] K s:=wOK qAu qFm rfl Tryz.func76 h
def qIn(X:Td)(n0 t1:AV)(K:KvP)(s:Hq):Prop:=
 oK (rd1 s t1) λW0=>oK (qAc W0) λW1=>oK (qAC 0 W1) λW2=>oK (qAC 0 W2) λW3=>oK (rd1 s W3) λW4=>oK (qAH .geq n0 W4) λW5=>K W5 s
theorem qG5{n0 t1:AV}{K:KvP}{s:Hq}(h:qIn XX n0 t1 K s):wC TP XX 77 [n0,t1] K s:=wOK qAu nA0 rfl Tryz.func77 h
def qMw(X:Td)(t0 x1 target2 data3:AV)(K:KvP)(s:Hq):Prop:=
 newK 48 [(.int .u64 0),(.int .u64 0),(.int .i64 0),(.int .i64 0),(.int .u64 0),(.int .u32 0),(.int .u64 0),(.int .u32 0),(.int .u32 0),(.int .u32 0),(.int .i64 0),(.int .i64 0),(.int .i64 0),(.int .i64 0),(.int .u64 0)] (λB0 S1=>wC TP X 109 [t0,x1] (λW2 S3=>wC TP X 110 [target2] (λW4 S5=>wC TP X 111 [data3] (λW6 S7=>oK (qBb (repl 3 [.nilFunc]) [(0,1,W2),(1,1,W4),(2,1,W6)]) λC8=>qAd C8=true/\newK 175 C8 (λB9 S10=>wC TP X 108 [(.int .i64 1),t0,(.int .u64 281474976710655),(.slc B9 0 3 (some 3) 1)] (λW11 S12=>oK (qBA S12 15 (.ptr B0 0) W11) λS13=>oK (rdN S13 15 (.ptr B0 0)) λt8_14=>K (.agg t8_14) S13) S10) S7) S5) S3) S1) s
theorem qKX{t0 x1 target2 data3:AV}{K:KvP}{s:Hq}(h:qMw XX t0 x1 target2 data3 K s):wC TP XX 87 [t0,x1,target2,data3] K s:=wOK qAu nA0 rfl Tryz.func87 h
def qIf(X:Td)(t0 x1 area2:AV)(K:KvP)(s:Hq):Prop:=
 boxK 34 area2 (λB0 S1=>wC TP X 63 [t0,x1] (λW2 S3=>wC TP X 114 [W2,(.fn (.func 115) [] [B0])] (λW4 S5=>K W4 S5) S3) S1) s
theorem qG3{t0 x1 area2:AV}{K:KvP}{s:Hq}(h:qIf XX t0 x1 area2 K s):wC TP XX 89 [t0,x1,area2] K s:=wOK qAu nA0 rfl Tryz.func89 h
def qCB(X:Td)(t19 t29:AV)(K:KvP)(s:Hq):Prop:=
 oK (qAO t19 t29 (.bool false)) λW2=>K W2 s
def qBT(X:Td)(t0 x1 segment2 t9 t17:AV)(K:KvP)(s:Hq):Prop:=
 oK (qAO t9 t17 (.bool false)) λW1=>qAK W1
 (oK (qAc t0) λW3=>oK (qAC 19 W3) λW4=>oK (qAC 2 W4) λW5=>oK (rd1 s W5) λW6=>oK (qAT 1 W6 x1) λW7=>oK (rd1 s W7) λW8=>wC TP X 73 [W8,segment2] (λW9 S10=>qCB X W1 W9 K S10) s)
 (qCB X W1 .undef K s)
def qFQ(X:Td)(t0 x1 segment2:AV)(K:KvP)(s:Hq):Prop:=
 oK (qAH .geq x1 (.int .i64 0)) λW0=>qAK W0
 (oK (qAc t0) λW11=>oK (qAC 19 W11) λW12=>oK (qAC 2 W12) λW13=>oK (rd1 s W13) λW14=>oK (qAN W14) λW15=>oK (qAH .lss x1 (.int .i64 W15)) λW17=>qBT X t0 x1 segment2 W0 W17 K s)
 (qBT X t0 x1 segment2 W0 .undef K s)
theorem qIA{t0 x1 segment2:AV}{K:KvP}{s:Hq}(h:qFQ XX t0 x1 segment2 K s):wC TP XX 92 [t0,x1,segment2] K s:=wOK qAu nA0 rfl Tryz.func92 h
def qD7(X:Td)(l0 n1 i5:AV)(I0:IvP)(m0:Nat)(K:KvP)(s:Hq):Prop:=
 oK (qAN l0) λW0=>oK (qAH .lss i5 (.int .i64 W0)) λW2=>qAK W2
 (oK (qAT 1 l0 i5) λW3=>oK (rd1 s W3) λW4=>oK (negB false (eqV 0 false W4 n1)) λW5=>qAK W5
 (K (.bool true) s)
 (oK (qAH .add i5 (.int .i64 1)) λW6=>∃m',m'<m0/\I0 [W6] s m'))
 (K (.bool false) s)
def qFN(X:Td)(l0 n1:AV)(K:KvP)(s:Hq):Prop:=
 ∃I0:IvP,(∃m,I0 [(.int .i64 0)] s m)/\∀(f:Env) (s:Hq) (m0:Nat),I0 [f 5] s m0->
 qD7 X l0 n1 (f 5) I0 m0 K s
def qHa:Nat->List Nat:=λk=>cond (Nat.beq k 4) [5] ([])
theorem qHz{l0 n1:AV}{K:KvP}{s:Hq}(h:qFN XX l0 n1 K s):wC TP XX 93 [l0,n1] K s:=wOK qAu qHa rfl Tryz.func93 h
def qBr(X:Td)(t16 t19:AV)(K:KvP)(s:Hq):Prop:=
 oK (qAO t16 (.bool true) t19) λW7=>qAK W7
 (K (.int .i64 2) s)
 (K (.int .i64 0) s)
def qBq(X:Td)(a1 t11 t14:AV)(K:KvP)(s:Hq):Prop:=
 oK (qAO t11 (.bool true) t14) λW6=>qAK W6
 (qBr X W6 .undef K s)
 (oK (qAC 3 a1) λW8=>oK (rd1 s W8) λW9=>oK (qAH .gtr W9 (.int .u64 281474976710655)) λW10=>qBr X W6 W10 K s)
def qBn(X:Td)(a1 t6 t9:AV)(K:KvP)(s:Hq):Prop:=
 oK (qAO t6 (.bool true) t9) λW5=>qAK W5
 (qBq X a1 W5 .undef K s)
 (oK (qAC 1 a1) λW11=>oK (rd1 s W11) λW12=>oK (qAH .gtr W12 (.int .u64 281474976710655)) λW13=>qBq X a1 W5 W13 K s)
def qLi(X:Td)(a0:AV)(K:KvP)(s:Hq):Prop:=
 boxK 44 a0 (λB0 S1=>oK (qAC 0 B0) λW2=>oK (rd1 S1 W2) λW3=>oK (qAH .lss W3 (.int .i64 1)) λW4=>qAK W4
 (qBn X B0 W4 .undef K S1)
 (oK (qAC 0 B0) λW14=>oK (rd1 S1 W14) λW15=>oK (qAH .gtr W15 (.int .i64 2)) λW16=>qBn X B0 W4 W16 K S1)) s
theorem qI1{a0:AV}{K:KvP}{s:Hq}(h:qLi XX a0 K s):wC TP XX 99 [a0] K s:=wOK qAu nA0 rfl Tryz.func99 h
def qCh(X:Td)(t43 t47 t50:AV)(K:KvP)(s:Hq):Prop:=
 oK (qAO t47 (.bool true) t50) λW22=>oK (qAO t43 W22 (.bool false)) λW23=>qAK W23
 (K (.int .i64 3) s)
 (K (.int .i64 0) s)
def qB5(X:Td)(h1 t34 t37:AV)(K:KvP)(s:Hq):Prop:=
 oK (qAO t34 (.bool true) t37) λW13=>qAK W13
 (K (.int .i64 2) s)
 (oK (qAC 3 h1) λW14=>oK (rd1 s W14) λW15=>wC TP X 127 [W15] (λW16 S17=>oK (qAi .not W16) λW18=>qAK W18
 (oK (qAC 4 h1) λW19=>oK (rd1 S17 W19) λW20=>oK (negB true (eqV 0 true W20 (.int .i64 0))) λW21=>qAK W21
 (qCh X W18 W21 .undef K S17)
 (oK (qAC 5 h1) λW24=>oK (rd1 S17 W24) λW25=>oK (negB true (eqV 0 true W25 (.int .i64 0))) λW26=>qCh X W18 W21 W26 K S17))
 (oK (qAO W18 .undef (.bool false)) λW27=>qAK W27
 (K (.int .i64 3) S17)
 (K (.int .i64 0) S17))) s)
def qB9(X:Td)(h1 t29 t32:AV)(K:KvP)(s:Hq):Prop:=
 oK (qAO t29 (.bool true) t32) λW12=>qAK W12
 (qB5 X h1 W12 .undef K s)
 (oK (qAC 5 h1) λW28=>oK (rd1 s W28) λW29=>oK (qAH .gtr W29 (.int .i64 65535)) λW30=>qB5 X h1 W12 W30 K s)
def qB7(X:Td)(h1 t24 t27:AV)(K:KvP)(s:Hq):Prop:=
 oK (qAO t24 (.bool true) t27) λW11=>qAK W11
 (qB9 X h1 W11 .undef K s)
 (oK (qAC 5 h1) λW31=>oK (rd1 s W31) λW32=>oK (qAH .lss W32 (.int .i64 0)) λW33=>qB9 X h1 W11 W33 K s)
def qB3(X:Td)(h1 t16 t19:AV)(K:KvP)(s:Hq):Prop:=
 oK (qAO t16 (.bool true) t19) λW7=>qAK W7
 (K (.int .i64 2) s)
 (oK (qAC 4 h1) λW8=>oK (rd1 s W8) λW9=>oK (qAH .lss W9 (.int .i64 0)) λW10=>qAK W10
 (qB7 X h1 W10 .undef K s)
 (oK (qAC 4 h1) λW34=>oK (rd1 s W34) λW35=>oK (qAH .gtr W35 (.int .i64 65535)) λW36=>qB7 X h1 W10 W36 K s))
def qB4(X:Td)(h1 t11 t14:AV)(K:KvP)(s:Hq):Prop:=
 oK (qAO t11 (.bool true) t14) λW6=>qAK W6
 (qB3 X h1 W6 .undef K s)
 (oK (qAC 3 h1) λW37=>oK (rd1 s W37) λW38=>oK (qAH .gtr W38 (.int .i64 255)) λW39=>qB3 X h1 W6 W39 K s)
def qB8(X:Td)(h1 t6 t9:AV)(K:KvP)(s:Hq):Prop:=
 oK (qAO t6 (.bool true) t9) λW5=>qAK W5
 (qB4 X h1 W5 .undef K s)
 (oK (qAC 3 h1) λW40=>oK (rd1 s W40) λW41=>oK (qAH .lss W41 (.int .i64 0)) λW42=>qB4 X h1 W5 W42 K s)
def qLt(X:Td)(h0:AV)(K:KvP)(s:Hq):Prop:=
 boxK 46 h0 (λB0 S1=>oK (qAC 2 B0) λW2=>oK (rd1 S1 W2) λW3=>oK (qAH .lss W3 (.int .i64 0)) λW4=>qAK W4
 (qB8 X B0 W4 .undef K S1)
 (oK (qAC 2 B0) λW43=>oK (rd1 S1 W43) λW44=>oK (qAH .gtr W44 (.int .i64 255)) λW45=>qB8 X B0 W4 W45 K S1)) s
theorem qKD{h0:AV}{K:KvP}{s:Hq}(h:qLt XX h0 K s):wC TP XX 100 [h0] K s:=wOK qAu nA0 rfl Tryz.func100 h
def qEX(X:Td)(t8 x9 t17 t18 t19:AV)(I0:IvP)(m0:Nat)(K:KvP)(s:Hq):Prop:=
 oK (qAH .lss t19 t18) λW9=>qAK W9
 (oK (qAT 1 t17 t19) λW10=>oK (rd1 s W10) λW11=>funK TP X W11 [x9] (λW12 S13=>oK (qAH .add t19 (.int .i64 1)) λW14=>∃m',m'<m0/\I0 [W14] S13 m') s)
 (oK (rdN s 15 x9) λW15=>oK (qBA s 15 t8 (.agg W15)) λS16=>oK (rdN S16 15 t8) λt8_17=>K (.agg t8_17) S16)
def qKp(X:Td)(op0 x1 dst2 options3:AV)(K:KvP)(s:Hq):Prop:=
 newK 48 [(.int .u64 0),(.int .u64 0),(.int .i64 0),(.int .i64 0),(.int .u64 0),(.int .u32 0),(.int .u64 0),(.int .u32 0),(.int .u32 0),(.int .u32 0),(.int .i64 0),(.int .i64 0),(.int .i64 0),(.int .i64 0),(.int .u64 0)] (λB0 S1=>oK (qBb [(.int .i64 0),(.int .u64 0),(.int .u32 0),(.int .u64 0),(.int .u32 0)] [(0,1,op0)]) λC2=>oK (qBb [(.int .u64 0),(.int .u64 0),(.int .i64 0),(.int .i64 0),(.int .u64 0),(.int .u32 0),(.int .u64 0),(.int .u32 0),(.int .u32 0),(.int .u32 0),(.int .i64 0),(.int .i64 0),(.int .i64 0),(.int .i64 0),(.int .u64 0)] [(0,1,x1),(1,1,dst2),(2,1,(.int .i64 1)),(3,5,(.agg C2))]) λC3=>newK 48 [(.int .u64 0),(.int .u64 0),(.int .i64 0),(.int .i64 0),(.int .u64 0),(.int .u32 0),(.int .u64 0),(.int .u32 0),(.int .u32 0),(.int .u32 0),(.int .i64 0),(.int .i64 0),(.int .i64 0),(.int .i64 0),(.int .u64 0)] (λB4 S5=>oK (qBA S5 15 (.ptr B4 0) (.agg C3)) λS6=>oK (qAN options3) λW7=>∃I0:IvP,(∃m,I0 [(.int .i64 0)] S6 m)/\∀(f:Env) (s:Hq) (m0:Nat),I0 [f 19] s m0->
 qEX X (.ptr B0 0) (.ptr B4 0) options3 (.int .i64 W7) (f 19) I0 m0 K s) S1) s
def qH9:Nat->List Nat:=λk=>cond (Nat.beq k 6) [19] ([])
theorem qIj{op0 x1 dst2 options3:AV}{K:KvP}{s:Hq}(h:qKp XX op0 x1 dst2 options3 K s):wC TP XX 108 [op0,x1,dst2,options3] K s:=wOK qAu qH9 rfl Tryz.func108 h
def qNs(X:Td)(t0 x1:AV)(K:KvP)(s:Hq):Prop:=
 boxK 40 t0 (λB0 S1=>boxK 42 x1 (λB2 S3=>K (.fn (.func 139) [] [B0,B2]) S3) S1) s
theorem qKx{t0 x1:AV}{K:KvP}{s:Hq}(h:qNs XX t0 x1 K s):wC TP XX 109 [t0,x1] K s:=wOK qAu nA0 rfl Tryz.func109 h
def qOf(X:Td)(ip0:AV)(K:KvP)(s:Hq):Prop:=
 wC TP X 140 [(.int .u64 0),ip0] (λW0 S1=>K W0 S1) s
theorem qLh{ip0:AV}{K:KvP}{s:Hq}(h:qOf XX ip0 K s):wC TP XX 110 [ip0] K s:=wOK qAu nA0 rfl Tryz.func110 h
def qM3(X:Td)(data0:AV)(K:KvP)(s:Hq):Prop:=
 boxK 39 data0 (λB0 S1=>K (.fn (.func 141) [] [B0]) S1) s
theorem qKg{data0:AV}{K:KvP}{s:Hq}(h:qM3 XX data0 K s):wC TP XX 111 [data0] K s:=wOK qAu nA0 rfl Tryz.func111 h
def qHg(X:Td)(leaf0 t1:AV)(K:KvP)(s:Hq):Prop:=
 oK (rd1 s t1) λW0=>wC TP X 72 [W0,leaf0] (λW1 S2=>K W1 S2) s
theorem qF8{leaf0 t1:AV}{K:KvP}{s:Hq}(h:qHg XX leaf0 t1 K s):wC TP XX 115 [leaf0,t1] K s:=wOK qAu nA0 rfl Tryz.func115 h
def qCu(X:Td)(t5 t7:AV)(K:KvP)(s:Hq):Prop:=
 oK (qAO t5 (.bool true) t7) λW1=>K W1 s
def qIc(X:Td)(proto0:AV)(K:KvP)(s:Hq):Prop:=
 oK (negB false (eqV 0 true proto0 (.int .i64 6))) λW0=>qAK W0
 (qCu X W0 .undef K s)
 (oK (negB false (eqV 0 true proto0 (.int .i64 17))) λW2=>qCu X W0 W2 K s)
theorem qKa{proto0:AV}{K:KvP}{s:Hq}(h:qIc XX proto0 K s):wC TP XX 127 [proto0] K s:=wOK qAu nA0 rfl Tryz.func127 h
def qMJ(X:Td)(x0 t1 t2:AV)(K:KvP)(s:Hq):Prop:=
 oK (rd1 s t1) λW0=>oK (rd1 s t2) λW1=>oK (qAc x0) λW2=>oK (qAC 3 W2) λW3=>oK (qAC 1 W3) λW4=>((cutH [((hdel s (qOJ t2)),s)] s) (qOJ W4)≠none)/\
 oK (wr1 s W4 W0) λS5=>oK (qAc x0) λW6=>oK (qAC 3 W6) λW7=>oK (qAC 2 W7) λW8=>oK (wr1 S5 W8 W1) λS9=>K (.tup []) S9
theorem qJ8{x0 t1 t2:AV}{K:KvP}{s:Hq}(h:qMJ XX x0 t1 t2 K s):wC TP XX 139 [x0,t1,t2] K s:=wOK qAu nA0 rfl Tryz.func139 h
def qNa(X:Td)(t0 x1:AV)(K:KvP)(s:Hq):Prop:=
 boxK 40 t0 (λB0 S1=>boxK 42 x1 (λB2 S3=>K (.fn (.func 181) [] [B0,B2]) S3) S1) s
theorem qLJ{t0 x1:AV}{K:KvP}{s:Hq}(h:qNa XX t0 x1 K s):wC TP XX 140 [t0,x1] K s:=wOK qAu nA0 rfl Tryz.func140 h
def qK5(X:Td)(x0 t1:AV)(K:KvP)(s:Hq):Prop:=
 oK (rd1 s t1) λW0=>oK (qAc x0) λW1=>oK (qAC 14 W1) λW2=>oK (wr1 s W2 W0) λS3=>K (.tup []) S3
theorem qI3{x0 t1:AV}{K:KvP}{s:Hq}(h:qK5 XX x0 t1 K s):wC TP XX 141 [x0,t1] K s:=wOK qAu nA0 rfl Tryz.func141 h
def qLr(X:Td)(x0 t1 t2:AV)(K:KvP)(s:Hq):Prop:=
 oK (rd1 s t1) λW0=>oK (rd1 s t2) λW1=>oK (qAc x0) λW2=>oK (qAC 3 W2) λW3=>oK (qAC 3 W3) λW4=>((cutH [((hdel s (qOJ t2)),s)] s) (qOJ W4)≠none)/\
 oK (wr1 s W4 W0) λS5=>oK (qAc x0) λW6=>oK (qAC 3 W6) λW7=>oK (qAC 4 W7) λW8=>oK (wr1 S5 W8 W1) λS9=>K (.tup []) S9
theorem qJ6{x0 t1 t2:AV}{K:KvP}{s:Hq}(h:qLr XX x0 t1 t2 K s):wC TP XX 181 [x0,t1,t2] K s:=wOK qAu nA0 rfl Tryz.func181 h
end Go.AM
namespace Go.AM
open Go Go.Proofs
set_option maxRecDepth 100000
def qA5(X:Td)(b3:AV)(K:KvP)(s:Hq):Prop:=
 wC TP X 95 [b3] (λW23 S24=>oK (qAH .rem W23 (.int .u32 16384)) λW25=>oK (qDk .i64 W25) λW26=>oK (qAH .add (.int .i64 49152) W26) λW27=>K W27 S24) s
def qHU(X:Td)(t0:AV)(K:KvP)(s:Hq):Prop:=
 boxK 48 t0 (λB0 S1=>oK (qAC 0 B0) λW2=>oK (rd1 S1 W2) λW3=>∃h_4:Hq,(∀b,h_4 b≠none->S1 b≠none)/\
 wC TP X 94 [.nilslc,W3,(.int .i64 6)] (λW5 S6=>(∀b,S1 b≠none->(minus S1 h_4) b=none->S6 b=none)->
 oK (qAC 1 B0) λW7=>oK (rd1 (cutH [(h_4,qEH)] (add S6 (rest S1 (minus S1 h_4)))) W7) λW8=>∃h_9:Hq,(∀b,h_9 b≠none->(add S6 (rest S1 (minus S1 h_4))) b≠none)/\
 wC TP X 94 [W5,W8,(.int .i64 6)] (λW10 S11=>(∀b,(add S6 (rest S1 (minus S1 h_4))) b≠none->(minus (add S6 (rest S1 (minus S1 h_4))) h_9) b=none->S11 b=none)->
 oK (qAC 2 B0) λW12=>oK (rd1 (cutH [(h_4,qEH),(h_9,qEH)] (add S11 (rest (add S6 (rest S1 (minus S1 h_4))) (minus (add S6 (rest S1 (minus S1 h_4))) h_9)))) W12) λW13=>oK (qDk .u8 W13) λW14=>oK (qBb (repl 1 [(.int .u8 0)]) [(0,1,W14)]) λC15=>qAd C15=true/\newK 5 C15 (λB16 S17=>(∀b,(add S11 (rest (add S6 (rest S1 (minus S1 h_4))) (minus (add S6 (rest S1 (minus S1 h_4))) h_9))) b≠none->(cutH [(h_4,qEH),(h_9,qEH)] (add S11 (rest (add S6 (rest S1 (minus S1 h_4))) (minus (add S6 (rest S1 (minus S1 h_4))) h_9)))) b=none->S17 b=none)->
 appK 5 1 W10 (.slc B16 0 1 (some 1) 1) (λW18 S19=>oK (qAC 2 B0) λW20=>oK (rd1 S19 W20) λW21=>oK (negB false (eqV 0 true W21 (.int .i64 2))) λW22=>qAK W22
 (oK (qAC 8 B0) λW28=>oK (qAC 0 W28) λW29=>oK (rd1 S19 W29) λW30=>oK (qDk .u64 W30) λW31=>∃h_32:Hq,(∀b,h_32 b≠none->S19 b≠none)/\
 wC TP X 94 [.nilslc,W31,(.int .i64 4)] (λW33 S34=>(∀b,S19 b≠none->(minus S19 h_32) b=none->S34 b=none)->
 oK (qAC 8 B0) λW35=>oK (qAC 1 W35) λW36=>oK (rd1 (cutH [(h_32,qEH)] (add S34 (rest S19 (minus S19 h_32)))) W36) λW37=>oK (qDk .u64 W37) λW38=>∃h_39:Hq,(∀b,h_39 b≠none->(add S34 (rest S19 (minus S19 h_32))) b≠none)/\
 wC TP X 94 [W33,W38,(.int .i64 4)] (λW40 S41=>(∀b,(add S34 (rest S19 (minus S19 h_32))) b≠none->(minus (add S34 (rest S19 (minus S19 h_32))) h_39) b=none->S41 b=none)->
 oK (qAC 8 B0) λW42=>oK (qAC 3 W42) λW43=>oK (rd1 (cutH [(h_32,qEH),(h_39,qEH)] (add S41 (rest (add S34 (rest S19 (minus S19 h_32))) (minus (add S34 (rest S19 (minus S19 h_32))) h_39)))) W43) λW44=>oK (qDk .u8 W44) λW45=>oK (qBb (repl 1 [(.int .u8 0)]) [(0,1,W45)]) λC46=>qAd C46=true/\newK 5 C46 (λB47 S48=>(∀b,(add S41 (rest (add S34 (rest S19 (minus S19 h_32))) (minus (add S34 (rest S19 (minus S19 h_32))) h_39))) b≠none->(cutH [(h_32,qEH),(h_39,qEH)] (add S41 (rest (add S34 (rest S19 (minus S19 h_32))) (minus (add S34 (rest S19 (minus S19 h_32))) h_39)))) b=none->S48 b=none)->
 appK 5 1 W40 (.slc B47 0 1 (some 1) 1) (λW49 S50=>oK (qAC 8 B0) λW51=>oK (qAC 4 W51) λW52=>oK (rd1 S50 W52) λW53=>oK (qDk .u64 W53) λW54=>∃h_55:Hq,(∀b,h_55 b≠none->S50 b≠none)/\
 wC TP X 94 [W49,W54,(.int .i64 2)] (λW56 S57=>(∀b,S50 b≠none->(minus S50 h_55) b=none->S57 b=none)->
 oK (qAC 8 B0) λW58=>oK (qAC 5 W58) λW59=>oK (rd1 (cutH [(h_55,qEH)] (add S57 (rest S50 (minus S50 h_55)))) W59) λW60=>oK (qDk .u64 W60) λW61=>wC TP X 94 [W56,W61,(.int .i64 2)] (λW62 S63=>qA5 X W62 K S63) (add S57 (rest S50 (minus S50 h_55)))) (minus S50 h_55)) (add (add S41 (rest (add S34 (rest S19 (minus S19 h_32))) (minus (add S34 (rest S19 (minus S19 h_32))) h_39))) S48)) (frz (cutH [(h_32,qEH),(h_39,qEH)] (add S41 (rest (add S34 (rest S19 (minus S19 h_32))) (minus (add S34 (rest S19 (minus S19 h_32))) h_39)))))) (minus (add S34 (rest S19 (minus S19 h_32))) h_39)) (minus S19 h_32))
 (qA5 X W18 K S19)) (add (add S11 (rest (add S6 (rest S1 (minus S1 h_4))) (minus (add S6 (rest S1 (minus S1 h_4))) h_9))) S17)) (frz (cutH [(h_4,qEH),(h_9,qEH)] (add S11 (rest (add S6 (rest S1 (minus S1 h_4))) (minus (add S6 (rest S1 (minus S1 h_4))) h_9)))))) (minus (add S6 (rest S1 (minus S1 h_4))) h_9)) (minus S1 h_4)) s
def qFb:Nat->List Nat:=λk=>cond (Nat.beq k 1000004) [2,5] (cond (Nat.beq k 1000018) [4,9] (cond (Nat.beq k 1000034) [5] ([])))
theorem qGC{t0:AV}{K:KvP}{s:Hq}(h:qHU XX t0 K s):wC TP XX 65 [t0] K s:=wOK qAu qFb rfl Tryz.func65 h
end Go.AM
