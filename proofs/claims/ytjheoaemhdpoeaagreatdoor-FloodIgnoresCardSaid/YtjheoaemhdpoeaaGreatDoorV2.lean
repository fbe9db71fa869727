/- Part V2 of the proof: see the last part. -/
import Derived.Test.YtjheoaemhdpoeaaGreatDoorV
set_option linter.unusedVariables false
namespace Go.AM
open Go Go.Proofs
set_option maxRecDepth 100000
def qC3(X:Td)(n0 t6 t8:AV)(K:KvP)(s:Hq):Prop:=
 oK (qAY t6 (.bool true) t8) λW1=>qAM W1
 (K (.tup [(.int .u32 0),(.int .i64 2)]) s)
 (oK (qCJ .u32 n0) λW2=>oK (qAB .add (.int .u32 184483840) W2) λW3=>oK (qAB .add W3 (.int .u32 1)) λW4=>K (.tup [W4,(.int .i64 0)]) s)
def qHd(X:Td)(n0:AV)(K:KvP)(s:Hq):Prop:=
 oK (qAB .lss n0 (.int .i64 0)) λW0=>qAM W0
 (qC3 X n0 W0 .undef K s)
 (oK (qAB .geq n0 (.int .i64 32)) λW5=>qC3 X n0 W0 W5 K s)
theorem qJJ{n0:AV}{K:KvP}{s:Hq}(h:qHd XX n0 K s):wC TP XX 50 [n0] K s:=wOK qCM nA0 rfl Tryz.func50 h
def qHi(X:Td)(x0:AV)(K:KvP)(s:Hq):Prop:=
 qAM (.bool false)
 (oK (qCJ .u32 x0) λW0=>wC TP X 144 [W0] (λW1 S2=>K W1 S2) s)
 (wC TP X 145 [x0] (λW3 S4=>K W3 S4) s)
theorem qJT{X:Td}(hX:FrX X)(hn:X 96=none){x0:AV}{K:KvP}{s:Hq}(h:qHi X x0 K s):wC TP X 96 [x0] K s:=
 wOK hX nA0 hn Tryz.func96 h
def qDt(X:Td)(t13:AV)(I0:IvP)(m0:Nat)(K:KvP)(s:Hq):Prop:=
 oK (qAB .add t13 (.int .i64 1)) λW13=>∃m',m'<m0/\I0 [W13] s m'
def qFF(X:Td)(c5 t8 p10 t27 t32 t33:AV)(I3:IvP)(m3:Nat)(I2:IvP)(m2:Nat)(K:KvP)(s:Hq):Prop:=
 oK (qAB .lss t33 t32) λW29=>qAM W29
 (oK (qAB .add t8 t33) λW30=>oK (qAE 1 p10) λW31=>oK (rd1 s W31) λW32=>oK (qAE 0 p10) λW33=>oK (rd1 s W33) λW34=>oK (qAB .sub W34 (.int .i64 1)) λW35=>oK (qAB .sub W35 t33) λW36=>oK (qAB .mul (.int .i64 8) W36) λW37=>oK (qCd .shr W32 W37) λW38=>oK (qCJ .u8 W38) λW39=>oK (qHm 8 1 c5 W30) λW40=>oK (wr1 s W40 W39) λS41=>oK (qAB .add t33 (.int .i64 1)) λW42=>∃m',m'<m3/\I3 [W42] S41 m')
 (oK (qAE 0 p10) λW43=>oK (rd1 s W43) λW44=>oK (qAB .add t8 W44) λW45=>oK (qAB .add t27 (.int .i64 1)) λW46=>∃m',m'<m2/\I2 [W45,W46] s m')
def qHn(X:Td)(t4 c5 t8 t25 t26 t27:AV)(I2:IvP)(m2:Nat)(K:KvP)(s:Hq):Prop:=
 oK (qAB .lss t27 t26) λW21=>qAM W21
 (oK (qAI 2 t25 t27) λW22=>oK (rdN s 2 W22) λW23=>newK 167 [(.int .i64 0),(.int .u64 0)] (λB24 S25=>oK (qBF S25 2 (.ptr B24 0) (.agg W23)) λS26=>oK (qAE 0 (.ptr B24 0)) λW27=>oK (rd1 S26 W27) λW28=>∃I3:IvP,(∃m,I3 [(.int .i64 0)] S26 m)/\∀(f:Env) (s:Hq) (m3:Nat),I3 [f 33] s m3->
 qFF X c5 t8 (.ptr B24 0) t27 W28 (f 33) I3 m3 I2 m2 K s) s)
 (oK (rdN s 8 c5) λW47=>oK (qBF s 8 t4 (.agg W47)) λS48=>oK (rdN S48 8 t4) λt4_49=>K (.agg t4_49) S48)
def qHk(X:Td)(kind0 x1 t4 c5 t12 t13:AV)(I0:IvP)(m0:Nat)(K:KvP)(s:Hq):Prop:=
 oK (qAB .lss t13 (.int .i64 7)) λW5=>qAM W5
 (oK (qNW 7 3 (some 3) t12 t13) λW6=>newK 170 [(.int .i64 0),(.int .u8 0),(.int .u8 0)] (λB7 S8=>oK (qBF S8 3 (.ptr B7 0) W6) λS9=>oK (qAE 0 (.ptr B7 0)) λW10=>oK (rd1 S9 W10) λW11=>oK (negB false (eqV 0 false W11 kind0)) λW12=>qAM W12
 (oK (qFN S9 8 1 c5 none none none) λW14=>oK (qAE 1 (.ptr B7 0)) λW15=>oK (qFN S9 2 1 W15 none none none) λW16=>qX0 1 W14 W16 (λW17 S18=>qDt X t13 I0 m0 K S18) S9)
 (qDt X t13 I0 m0 K S9)) s)
 (oK (qAO x1) λW19=>∃I2:IvP,(∃m,I2 [(.int .i64 2),(.int .i64 0)] s m)/\∀(f:Env) (s:Hq) (m2:Nat),I2 [f 8,f 27] s m2->
 qHn X t4 c5 (f 8) x1 (.int .i64 W19) (f 27) I2 m2 K s)
def qJt(X:Td)(kind0 x1:AV)(K:KvP)(s:Hq):Prop:=
 newK 129 [(.int .u8 0),(.int .u8 0),(.int .u8 0),(.int .u8 0),(.int .u8 0),(.int .u8 0),(.int .u8 0),(.int .u8 0)] (λB0 S1=>newK 129 [(.int .u8 0),(.int .u8 0),(.int .u8 0),(.int .u8 0),(.int .u8 0),(.int .u8 0),(.int .u8 0),(.int .u8 0)] (λB2 S3=>oK (gldN S3 21 0) λW4=>∃I0:IvP,(∃m,I0 [(.int .i64 0)] S3 m)/\∀(f:Env) (s:Hq) (m0:Nat),I0 [f 13] s m0->
 qHk X kind0 x1 (.ptr B0 0) (.ptr B2 0) (.agg W4) (f 13) I0 m0 K s) S1) s
def qKc:Nat->List Nat:=λk=>cond (Nat.beq k 6) [13] (cond (Nat.beq k 20) [8,27] (cond (Nat.beq k 26) [33] ([])))
theorem qLJ{kind0 x1:AV}{K:KvP}{s:Hq}(h:qJt XX kind0 x1 K s):wC TP XX 86 [kind0,x1] K s:=wOK qCM qKc rfl Tryz.func86 h
def qG0(X:Td)(n7 t14 t15 t16:AV)(I0:IvP)(m0:Nat)(K:KvP)(s:Hq):Prop:=
 oK (qAB .lss t16 t15) λW6=>qAM W6
 (oK (qAI 1 t14 t16) λW7=>oK (rd1 s W7) λW8=>oK (qCd .shl n7 (.int .u64 8)) λW9=>oK (qCJ .u64 W8) λW10=>oK (qAB .or W9 W10) λW11=>oK (qAB .add t16 (.int .i64 1)) λW12=>∃m',m'<m0/\I0 [W11,W12] s m')
 (K n7 s)
def qNN(X:Td)(c0 t1 x2:AV)(K:KvP)(s:Hq):Prop:=
 boxK 129 c0 (λB0 S1=>oK (qAB .add t1 x2) λW2=>oK (qFN S1 8 1 B0 (some t1) (some W2) none) λW3=>oK (qAO W3) λW4=>∃I0:IvP,(∃m,I0 [(.int .u64 0),(.int .i64 0)] S1 m)/\∀(f:Env) (s:Hq) (m0:Nat),I0 [f 7,f 16] s m0->
 qG0 X (f 7) W3 (.int .i64 W4) (f 16) I0 m0 K s) s
def qJg:Nat->List Nat:=λk=>cond (Nat.beq k 6) [7,16] ([])
theorem qKK{c0 t1 x2:AV}{K:KvP}{s:Hq}(h:qNN XX c0 t1 x2 K s):wC TP XX 65 [c0,t1,x2] K s:=wOK qCM qJg rfl Tryz.func65 h
end Go.AM
namespace Go.AM
open Go Go.Proofs
set_option maxRecDepth 100000
def qDc(X:Td)(x0 n2:AV)(K:KvP)(s:Hq):Prop:=
 oK (qCJ .u8 x0) λW3=>oK (qIa (.str ⟨#[0,1,2,2,3,3,3,3,4,4,4,4,4,4,4,4,5,5,5,5,5,5,5,5,5,5,5,5,5,5,5,5,6,6,6,6,6,6,6,6,6,6,6,6,6,6,6,6,6,6,6,6,6,6,6,6,6,6,6,6,6,6,6,6,7,7,7,7,7,7,7,7,7,7,7,7,7,7,7,7,7,7,7,7,7,7,7,7,7,7,7,7,7,7,7,7,7,7,7,7,7,7,7,7,7,7,7,7,7,7,7,7,7,7,7,7,7,7,7,7,7,7,7,7,7,7,7,7,8,8,8,8,8,8,8,8,8,8,8,8,8,8,8,8,8,8,8,8,8,8,8,8,8,8,8,8,8,8,8,8,8,8,8,8,8,8,8,8,8,8,8,8,8,8,8,8,8,8,8,8,8,8,8,8,8,8,8,8,8,8,8,8,8,8,8,8,8,8,8,8,8,8,8,8,8,8,8,8,8,8,8,8,8,8,8,8,8,8,8,8,8,8,8,8,8,8,8,8,8,8,8,8,8,8,8,8,8,8,8,8,8,8,8,8,8,8,8,8,8,8,8,8,8,8,8,8]⟩) W3) λW4=>oK (qCJ .i64 W4) λW5=>oK (qAB .add n2 W5) λW6=>K W6 s
def qDZ(X:Td)(x0 n2:AV)(K:KvP)(s:Hq):Prop:=
 oK (qAB .geq x0 (.int .u64 256)) λW2=>qAM W2
 (oK (qCd .shr x0 (.int .u64 8)) λW7=>oK (qAB .add n2 (.int .i64 8)) λW8=>qDc X W7 W8 K s)
 (qDc X x0 n2 K s)
def qDf(X:Td)(x0 n2:AV)(K:KvP)(s:Hq):Prop:=
 oK (qAB .geq x0 (.int .u64 65536)) λW1=>qAM W1
 (oK (qCd .shr x0 (.int .u64 16)) λW9=>oK (qAB .add n2 (.int .i64 16)) λW10=>qDZ X W9 W10 K s)
 (qDZ X x0 n2 K s)
def qJ2(X:Td)(x0:AV)(K:KvP)(s:Hq):Prop:=
 oK (qAB .geq x0 (.int .u64 4294967296)) λW0=>qAM W0
 (oK (qCd .shr x0 (.int .u64 32)) λW11=>qDf X W11 (.int .i64 32) K s)
 (qDf X x0 (.int .i64 0) K s)
theorem qIC{X:Td}(hX:FrX X)(hn:X 145=none){x0:AV}{K:KvP}{s:Hq}(h:qJ2 X x0 K s):wC TP X 145 [x0] K s:=
 wOK hX nA0 hn Tryz.func145 h
def qHx(X:Td)(c1 t5 t6:AV)(I0:IvP)(m0:Nat)(K:KvP)(s:Hq):Prop:=
 oK (qAB .lss t6 (.int .i64 7)) λW3=>qAM W3
 (oK (qNW 7 3 (some 3) t5 t6) λW4=>newK 170 [(.int .i64 0),(.int .u8 0),(.int .u8 0)] (λB5 S6=>oK (qBF S6 3 (.ptr B5 0) W4) λS7=>oK (qAE 1 (.ptr B5 0)) λW8=>oK (rdN S7 2 W8) λW9=>oK (qFN S7 8 1 c1 none (some (.int .i64 2)) none) λW10=>oK (qYQ 2 W10) λW11=>oK (rdN S7 2 W11) λW12=>oK (negB false (qKV TP 169 (.agg W9) (.agg W12))) λW13=>qAM W13
 (oK (qAE 0 (.ptr B5 0)) λW14=>oK (rd1 S7 W14) λW15=>K W15 S7)
 (oK (qAB .add t6 (.int .i64 1)) λW16=>∃m',m'<m0/\I0 [W16] S7 m')) s)
 (K (.int .i64 0) s)
def qPT(X:Td)(c0:AV)(K:KvP)(s:Hq):Prop:=
 boxK 129 c0 (λB0 S1=>oK (gldN S1 21 0) λW2=>∃I0:IvP,(∃m,I0 [(.int .i64 0)] S1 m)/\∀(f:Env) (s:Hq) (m0:Nat),I0 [f 6] s m0->
 qHx X B0 (.agg W2) (f 6) I0 m0 K s) s
def qLK:Nat->List Nat:=λk=>cond (Nat.beq k 4) [6] ([])
theorem qMR{c0:AV}{K:KvP}{s:Hq}(h:qPT XX c0 K s):wC TP XX 64 [c0] K s:=wOK qCM qLK rfl Tryz.func64 h
end Go.AM
namespace Go.AM
open Go Go.Proofs
set_option maxRecDepth 100000
end Go.AM
namespace Go.AM
open Go Go.Proofs
set_option maxRecDepth 100000
def qGx(X:Td)(length0:AV)(K:KvP)(s:Hq):Prop:=
 oK (qCJ .u64 length0) λW0=>wC TP X 96 [W0] (λW1 S2=>oK (qCd .shl (.int .u64 1) W1) λW3=>K W3 S2) s
theorem qIr{X:Td}(hX:FrX X)(hn:X 178=none){length0:AV}{K:KvP}{s:Hq}(h:qGx X length0 K s):wC TP X 178 [length0] K s:=
 wOK hX nA0 hn Tryz.func178 h
def qHh(X:Td)(r0:AV)(K:KvP)(s:Hq):Prop:=
 oK (qAd r0) λW0=>oK (rd1 s W0) λW1=>oK (qAd r0) λW2=>oK (rd1 s W2) λW3=>oK (qCd .shl W3 (.int .u64 13)) λW4=>oK (qAB .xor W1 W4) λW5=>oK (qAd r0) λW6=>oK (wr1 s W6 W5) λS7=>oK (qAd r0) λW8=>oK (rd1 S7 W8) λW9=>oK (qAd r0) λW10=>oK (rd1 S7 W10) λW11=>oK (qCd .shr W11 (.int .u64 7)) λW12=>oK (qAB .xor W9 W12) λW13=>oK (qAd r0) λW14=>oK (wr1 S7 W14 W13) λS15=>oK (qAd r0) λW16=>oK (rd1 S15 W16) λW17=>oK (qAd r0) λW18=>oK (rd1 S15 W18) λW19=>oK (qCd .shl W19 (.int .u64 17)) λW20=>oK (qAB .xor W17 W20) λW21=>oK (qAd r0) λW22=>oK (wr1 S15 W22 W21) λS23=>oK (qAd r0) λW24=>oK (rd1 S23 W24) λW25=>K W25 S23
theorem qJM{X:Td}(hX:FrX X)(hn:X 179=none){r0:AV}{K:KvP}{s:Hq}(h:qHh X r0 K s):wC TP X 179 [r0] K s:=
 wOK hX nA0 hn Tryz.func179 h
end Go.AM
namespace Go.AM
open Go Go.Proofs
set_option maxRecDepth 100000
def qDi(X:Td)(t47:AV)(I2:IvP)(m2:Nat)(K:KvP)(s:Hq):Prop:=
 oK (qAB .add t47 (.int .i64 1)) λW27=>∃m',m'<m2/\I2 [W27] s m'
def qGj(X:Td)(t3 x10 t47 t56 t57 t58:AV)(I4:IvP)(m4:Nat)(I2:IvP)(m2:Nat)(K:KvP)(s:Hq):Prop:=
 oK (qAB .lss t58 t57) λW32=>qAM W32
 (oK (qAI 1 t56 t58) λW33=>oK (rd1 s W33) λW34=>oK (qAE 4 t3) λW35=>oK (rd1 s W35) λW36=>oK (qAI 6 W36 W34) λW37=>oK (qAE 2 W37) λW38=>oK (rd1 s W38) λW39=>mapK (λW40 S41=>oK (qBV [.nilmap,(.bool false)] [(0,1,W40)]) λC42=>boxK 103 (.agg C42) (λB43 S44=>oK (putM S44 x10 W39 B43) λS45=>oK (qAB .add t58 (.int .i64 1)) λW46=>∃m',m'<m4/\I4 [W46] S45 m') S41) s)
 (qDi X t47 I2 m2 K s)
def qCn(X:Td)(t76:AV)(I5:IvP)(m5:Nat)(K:KvP)(s:Hq):Prop:=
 oK (qAB .add t76 (.int .i64 1)) λW50=>∃m',m'<m5/\I5 [W50] s m'
def qB6(X:Td)(t90:AV)(I7:IvP)(m7:Nat)(I5:IvP)(m5:Nat)(K:KvP)(s:Hq):Prop:=
 oK (qAB .add t90 (.int .i64 1)) λW73=>∃m',m'<m7/\I7 [W73] s m'
def qDg(X:Td)(t90 t106 t111 t116:AV)(I7:IvP)(m7:Nat)(I5:IvP)(m5:Nat)(K:KvP)(s:Hq):Prop:=
 oK (qAY t111 (.bool true) t116) λW84=>oK (qAd t106) λW85=>oK (qAE 1 W85) λW86=>oK (wr1 s W86 W84) λS87=>qB6 X t90 I7 m7 I5 m5 K S87
def qEt(X:Td)(x10 r16 t76 t88 t89 t90:AV)(I7:IvP)(m7:Nat)(I5:IvP)(m5:Nat)(K:KvP)(s:Hq):Prop:=
 oK (qAB .lss t90 t89) λW68=>qAM W68
 (oK (qAI 1 t88 t90) λW69=>oK (rd1 s W69) λW70=>oK (getM s x10 W70) λr_71=>oK (negB true (eqV 3 true (retM .nilptr false r_71) .nilptr)) λW72=>qAM W72
 (oK (qAd (retM .nilptr false r_71)) λW74=>oK (qAE 0 W74) λW75=>oK (rd1 s W75) λW76=>oK (qAE 21 r16) λW77=>oK (qAE 2 W77) λW78=>oK (rd1 s W78) λW79=>oK (putM s W76 W79 (.bool true)) λS80=>oK (qAd (retM .nilptr false r_71)) λW81=>oK (qAE 1 W81) λW82=>oK (rd1 S80 W82) λW83=>qAM W83
 (qDg X t90 (retM .nilptr false r_71) W83 .undef I7 m7 I5 m5 K S80)
 (oK (qAE 21 r16) λW88=>oK (qAE 11 W88) λW89=>oK (qAE 0 W89) λW90=>oK (rd1 S80 W90) λW91=>oK (negB false (eqV 0 true W91 (.int .i64 3))) λW92=>qDg X t90 (retM .nilptr false r_71) W83 W92 I7 m7 I5 m5 K S80))
 (qB6 X t90 I7 m7 I5 m5 K s))
 (qCn X t76 I5 m5 K s)
def qDO(X:Td)(l20 t125:AV)(I10:IvP)(m10:Nat)(K:KvP)(s:Hq):Prop:=
 oK (qAB .add t125 (.int .i64 1)) λW98=>∃m',m'<m10/\I10 [l20,W98] s m'
def qDV(X:Td)(l20 x24 t125:AV)(I10:IvP)(m10:Nat)(K:KvP)(s:Hq):Prop:=
 oK (rdN s 3 x24) λW122=>oK (qBV (repl 1 [(.int .i64 0),.nilslc,(.int .u32 0)]) [(0,3,(.agg W122))]) λC123=>qAU C123=true/\newK 44 C123 (λB124 S125=>appK 44 3 l20 (.slc B124 0 1 (some 1) 3) (λW126 S127=>qDO X W126 t125 I10 m10 K S127) S125) s
def qDT(X:Td)(l20 i21 x24 t125 t146 t150:AV)(I10:IvP)(m10:Nat)(K:KvP)(s:Hq):Prop:=
 oK (qAY t146 t150 (.bool false)) λW121=>qAM W121
 (oK (qCJ .u32 i21) λW128=>oK (qAB .add (.int .u32 4009754625) W128) λW129=>oK (qAE 2 x24) λW130=>oK (wr1 s W130 W129) λS131=>qDV X l20 x24 t125 I10 m10 K S131)
 (qDV X l20 x24 t125 I10 m10 K s)
def qET(X:Td)(t3 x10 l20 t123 t124 t125:AV)(I10:IvP)(m10:Nat)(K:KvP)(s:Hq):Prop:=
 oK (qAB .lss t125 t124) λW97=>qAM W97
 (oK (qAI 6 t123 t125) λW99=>oK (rdN s 6 W99) λW100=>newK 87 [(.int .i64 0),(.int .u32 0),(.int .u32 0),(.int .u32 0),(.int .i64 0),(.int .u32 0)] (λB101 S102=>oK (qBF S102 6 (.ptr B101 0) (.agg W100)) λS103=>oK (qAE 2 (.ptr B101 0)) λW104=>oK (rd1 S103 W104) λW105=>oK (getM S103 x10 W105) λr_106=>oK (negB false (eqV 3 true (retM .nilptr false r_106) .nilptr)) λW107=>qAM W107
 (qDO X l20 t125 I10 m10 K S103)
 (oK (qAd (retM .nilptr false r_106)) λW108=>oK (qAE 0 W108) λW109=>oK (rd1 S103 W109) λW110=>wC TP X 36 [W110] (λW111 S112=>wC TP X 35 [W111] (λW113 S114=>oK (qBV [(.int .i64 0),.nilslc,(.int .u32 0)] [(0,1,t125),(1,1,W113)]) λC115=>newK 44 [(.int .i64 0),.nilslc,(.int .u32 0)] (λB116 S117=>oK (qBF S117 3 (.ptr B116 0) (.agg C115)) λS118=>oK (qAE 12 t3) λW119=>oK (rd1 S118 W119) λW120=>qAM W120
 (oK (qAd (retM .nilptr false r_106)) λW132=>oK (qAE 1 W132) λW133=>oK (rd1 S118 W133) λW134=>qDT X l20 t125 (.ptr B116 0) t125 W120 W134 I10 m10 K S118)
 (qDT X l20 t125 (.ptr B116 0) t125 W120 .undef I10 m10 K S118)) S114) S112) S103)) s)
 (K l20 s)
def qEu(X:Td)(x1 t3 x10 t74 t75 t76:AV)(I5:IvP)(m5:Nat)(K:KvP)(s:Hq):Prop:=
 oK (qAB .lss t76 t75) λW49=>qAM W49
 (oK (qAI 38 t74 t76) λW51=>oK (rdN s 38 W51) λW52=>newK 81 zR0 (λB53 S54=>oK (qBF S54 38 (.ptr B53 0) (.agg W52)) λS55=>oK (rdN S55 19 t3) λW56=>oK (rdN S55 38 (.ptr B53 0)) λW57=>wC TP X 33 [(.agg W56),x1,(.agg W57)] (λW58 S59=>oK (qBm .not W58) λW60=>qAM W60
 (qCn X t76 I5 m5 K S59)
 (oK (qAE 21 (.ptr B53 0)) λW61=>oK (qAE 10 W61) λW62=>oK (rd1 S59 W62) λW63=>wC TP X 34 [W63] (λW64 S65=>oK (qAO W64) λW66=>∃I7:IvP,(∃m,I7 [(.int .i64 0)] S65 m)/\∀(f:Env) (s:Hq) (m7:Nat),I7 [f 90] s m7->
 qEt X x10 (.ptr B53 0) t76 W64 (.int .i64 W66) (f 90) I7 m7 I5 m5 K s) S59)) S55) s)
 (oK (qAE 4 t3) λW93=>oK (rd1 s W93) λW94=>oK (qAO W94) λW95=>∃I10:IvP,(∃m,I10 [.nilslc,(.int .i64 0)] s m)/\∀(f:Env) (s:Hq) (m10:Nat),I10 [f 20,f 125] s m10->
 qET X t3 x10 (f 20) W94 (.int .i64 W95) (f 125) I10 m10 K s)
def qEn(X:Td)(x1 x2 t3 x10 t45 t46 t47:AV)(I2:IvP)(m2:Nat)(K:KvP)(s:Hq):Prop:=
 oK (qAB .lss t47 t46) λW17=>qAM W17
 (oK (qAI 2 t45 t47) λW18=>oK (rdN s 2 W18) λW19=>newK 94 [.nilslc,.nilslc] (λB20 S21=>oK (qBF S21 2 (.ptr B20 0) (.agg W19)) λS22=>oK (qAE 0 (.ptr B20 0)) λW23=>oK (rd1 S22 W23) λW24=>wC TP X 32 [W24,x1] (λW25 S26=>qAM W25
 (oK (qAE 1 (.ptr B20 0)) λW28=>oK (rd1 S26 W28) λW29=>oK (qAO W29) λW30=>∃I4:IvP,(∃m,I4 [(.int .i64 0)] S26 m)/\∀(f:Env) (s:Hq) (m4:Nat),I4 [f 58] s m4->
 qGj X t3 x10 t47 W29 (.int .i64 W30) (f 58) I4 m4 I2 m2 K s)
 (qDi X t47 I2 m2 K S26)) S22) s)
 (oK (qAO x2) λW47=>∃I5:IvP,(∃m,I5 [(.int .i64 0)] s m)/\∀(f:Env) (s:Hq) (m5:Nat),I5 [f 76] s m5->
 qEu X x1 t3 x10 x2 (.int .i64 W47) (f 76) I5 m5 K s)
def qB5(X:Td)(x1 x2 t3 t37 t41:AV)(K:KvP)(s:Hq):Prop:=
 oK (qAY t37 (.bool true) t41) λW10=>qAM W10
 (K .nilslc s)
 (mapK (λW11 S12=>oK (qAE 5 t3) λW13=>oK (rd1 S12 W13) λW14=>oK (qAO W14) λW15=>∃I2:IvP,(∃m,I2 [(.int .i64 0)] S12 m)/\∀(f:Env) (s:Hq) (m2:Nat),I2 [f 47] s m2->
 qEn X x1 x2 t3 W11 W14 (.int .i64 W15) (f 47) I2 m2 K s) s)
def qCm(X:Td)(x1 x2 t3 t33 t35:AV)(K:KvP)(s:Hq):Prop:=
 oK (qAY t33 (.bool true) t35) λW9=>qAM W9
 (qB5 X x1 x2 t3 W9 .undef K s)
 (oK (qAE 0 t3) λW135=>oK (rd1 s W135) λW136=>oK (qAB .geq x1 W136) λW137=>qB5 X x1 x2 t3 W9 W137 K s)
def qND(X:Td)(t0 x1 x2:AV)(K:KvP)(s:Hq):Prop:=
 boxK 31 t0 (λB0 S1=>oK (rdN S1 19 B0) λW2=>wC TP X 31 [(.agg W2)] (λW3 S4=>oK (qAn W3 0) λW5=>oK (qAn W3 1) λW6=>oK (qAn W3 2) λW7=>oK (negB true (eqV 0 true W5 (.int .i64 0))) λW8=>qAM W8
 (qCm X x1 x2 B0 W8 .undef K S4)
 (oK (qAB .lss x1 (.int .i64 0)) λW138=>qCm X x1 x2 B0 W8 W138 K S4)) S1) s
def qJh:Nat->List Nat:=λk=>cond (Nat.beq k 12) [47] (cond (Nat.beq k 20) [58] (cond (Nat.beq k 32) [76] (cond (Nat.beq k 40) [90] (cond (Nat.beq k 60) [20,125] ([])))))
theorem qKZ{t0 x1 x2:AV}{K:KvP}{s:Hq}(h:qND XX t0 x1 x2 K s):wC TP XX 12 [t0,x1,x2] K s:=wOK qCM qJh rfl Tryz.func12 h
end Go.AM
namespace Go.AM
open Go Go.Proofs
set_option maxRecDepth 100000
def qGR(X:Td)(t41 t44:AV)(K:KvP)(s:Hq):Prop:=
 oK (qAY t41 t44 (.bool false)) λW17=>K W17 s
def qF8(X:Td)(x1 n7 t35 t39:AV)(K:KvP)(s:Hq):Prop:=
 oK (qAY t35 t39 (.bool false)) λW16=>qAM W16
 (oK (negB true (eqV 0 false n7 x1)) λW18=>qGR X W16 W18 K s)
 (qGR X W16 .undef K s)
def qCR(X:Td)(t41 t44:AV)(K:KvP)(s:Hq):Prop:=
 oK (qAY t41 t44 (.bool false)) λW37=>K W37 s
def qDQ(X:Td)(x1 n7 t35 t39:AV)(K:KvP)(s:Hq):Prop:=
 oK (qAY t35 t39 (.bool false)) λW36=>qAM W36
 (oK (negB true (eqV 0 false n7 x1)) λW38=>qCR X W36 W38 K s)
 (qCR X W36 .undef K s)
def qCU(X:Td)(x1 t3 r5 t13 t19 t24:AV)(K:KvP)(s:Hq):Prop:=
 oK (qAY t19 t24 (.bool false)) λW27=>oK (qAY t13 (.bool true) W27) λW28=>qAM W28
 (K (.bool false) s)
 (oK (qAE 21 r5) λW29=>oK (qAE 2 W29) λW30=>oK (rd1 s W30) λW31=>wC TP X 30 [W31] (λW32 S33=>oK (qAn W32 0) λW34=>oK (qAn W32 1) λW35=>qAM W35
 (oK (qAE 0 t3) λW39=>oK (rd1 S33 W39) λW40=>oK (qAB .lss W34 W40) λW41=>qDQ X x1 W34 W35 W41 K S33)
 (qDQ X x1 W34 W35 .undef K S33)) s)
def qMd(X:Td)(t0 x1 r2:AV)(K:KvP)(s:Hq):Prop:=
 boxK 31 t0 (λB0 S1=>boxK 81 r2 (λB2 S3=>oK (qAE 0 B2) λW4=>oK (qAE 0 W4) λW5=>oK (rd1 S3 W5) λW6=>oK (negB true (eqV 0 true W6 (.int .i64 3))) λW7=>qAM W7
 (oK (qAY W7 (.bool true) .undef) λW8=>qAM W8
 (K (.bool false) S3)
 (oK (qAE 21 B2) λW9=>oK (qAE 2 W9) λW10=>oK (rd1 S3 W10) λW11=>wC TP X 30 [W11] (λW12 S13=>oK (qAn W12 0) λW14=>oK (qAn W12 1) λW15=>qAM W15
 (oK (qAE 0 B0) λW19=>oK (rd1 S13 W19) λW20=>oK (qAB .lss W14 W20) λW21=>qF8 X x1 W14 W15 W21 K S13)
 (qF8 X x1 W14 W15 .undef K S13)) S3))
 (oK (qAE 21 B2) λW22=>oK (qAE 11 W22) λW23=>oK (qAE 0 W23) λW24=>oK (rd1 S3 W24) λW25=>oK (negB true (eqV 0 true W25 (.int .i64 6))) λW26=>qAM W26
 (oK (qAE 21 B2) λW42=>oK (qAE 11 W42) λW43=>oK (qAE 0 W43) λW44=>oK (rd1 S3 W44) λW45=>oK (negB true (eqV 0 true W45 (.int .i64 3))) λW46=>qCU X x1 B0 B2 W7 W26 W46 K S3)
 (qCU X x1 B0 B2 W7 W26 .undef K S3))) S1) s
theorem qJm{t0 x1 r2:AV}{K:KvP}{s:Hq}(h:qMd XX t0 x1 r2 K s):wC TP XX 33 [t0,x1,r2] K s:=wOK qCM nA0 rfl Tryz.func33 h
def qCO(X:Td)(x3 t8:AV)(I0:IvP)(m0:Nat)(K:KvP)(s:Hq):Prop:=
 oK (qAB .add t8 (.int .i64 1)) λW13=>∃m',m'<m0/\I0 [x3,W13] s m'
def qDN(X:Td)(x3 c5 t8 t15 t18:AV)(I0:IvP)(m0:Nat)(K:KvP)(s:Hq):Prop:=
 oK (qAY t15 t18 (.bool false)) λW12=>qAM W12
 (oK (rdN s 8 c5) λW14=>wC TP X 65 [(.agg W14),(.int .i64 4),(.int .i64 4)] (λW15 S16=>oK (qCJ .u32 W15) λW17=>oK (qBV (repl 1 [(.int .u32 0)]) [(0,1,W17)]) λC18=>qAU C18=true/\newK 41 C18 (λB19 S20=>appK 41 1 x3 (.slc B19 0 1 (some 1) 1) (λW21 S22=>qCO X W21 t8 I0 m0 K S22) S20) S16) s)
 (qCO X x3 t8 I0 m0 K s)
def qF7(X:Td)(x3 t6 t7 t8:AV)(I0:IvP)(m0:Nat)(K:KvP)(s:Hq):Prop:=
 oK (qAB .lss t8 t7) λW2=>qAM W2
 (oK (qAI 8 t6 t8) λW3=>oK (rdN s 8 W3) λW4=>newK 129 [(.int .u8 0),(.int .u8 0),(.int .u8 0),(.int .u8 0),(.int .u8 0),(.int .u8 0),(.int .u8 0),(.int .u8 0)] (λB5 S6=>oK (qBF S6 8 (.ptr B5 0) (.agg W4)) λS7=>oK (rdN S7 8 (.ptr B5 0)) λW8=>wC TP X 64 [(.agg W8)] (λW9 S10=>oK (negB false (eqV 0 true W9 (.int .i64 1))) λW11=>qAM W11
 (oK (rdN S10 8 (.ptr B5 0)) λW23=>wC TP X 65 [(.agg W23),(.int .i64 2),(.int .i64 2)] (λW24 S25=>oK (negB false (eqV 0 true W24 (.int .u64 65000))) λW26=>qDN X x3 (.ptr B5 0) t8 W11 W26 I0 m0 K S25) S10)
 (qDN X x3 (.ptr B5 0) t8 W11 .undef I0 m0 K S10)) S7) s)
 (wC TP X 66 [x3] (λW27 S28=>wC TP X 67 [x3] (λW29 S30=>K W29 S30) S28) s)
def qIN(X:Td)(l0:AV)(K:KvP)(s:Hq):Prop:=
 oK (qAO l0) λW0=>∃I0:IvP,(∃m,I0 [.nilslc,(.int .i64 0)] s m)/\∀(f:Env) (s:Hq) (m0:Nat),I0 [f 3,f 8] s m0->
 qF7 X (f 3) l0 (.int .i64 W0) (f 8) I0 m0 K s
def qJD:Nat->List Nat:=λk=>cond (Nat.beq k 6) [3,8] ([])
theorem qJ4{l0:AV}{K:KvP}{s:Hq}(h:qIN XX l0 K s):wC TP XX 34 [l0] K s:=wOK qCM qJD rfl Tryz.func34 h
def qEP(X:Td)(l0 n1 i5:AV)(I0:IvP)(m0:Nat)(K:KvP)(s:Hq):Prop:=
 oK (qAO l0) λW0=>oK (qAB .lss i5 (.int .i64 W0)) λW2=>qAM W2
 (oK (qAI 1 l0 i5) λW3=>oK (rd1 s W3) λW4=>oK (negB false (eqV 0 false W4 n1)) λW5=>qAM W5
 (K (.bool true) s)
 (oK (qAB .add i5 (.int .i64 1)) λW6=>∃m',m'<m0/\I0 [W6] s m'))
 (K (.bool false) s)
def qFS(X:Td)(l0 n1:AV)(K:KvP)(s:Hq):Prop:=
 ∃I0:IvP,(∃m,I0 [(.int .i64 0)] s m)/\∀(f:Env) (s:Hq) (m0:Nat),I0 [f 5] s m0->
 qEP X l0 n1 (f 5) I0 m0 K s
def qGs:Nat->List Nat:=λk=>cond (Nat.beq k 4) [5] ([])
theorem qHL{l0 n1:AV}{K:KvP}{s:Hq}(h:qFS XX l0 n1 K s):wC TP XX 38 [l0,n1] K s:=wOK qCM qGs rfl Tryz.func38 h
def qFG(X:Td)(i6 t45 t56:AV)(I0:IvP)(m0:Nat)(K:KvP)(s:Hq):Prop:=
 oK (qAY t45 t56 (.bool false)) λW14=>oK (qAB .add i6 (.int .i64 1)) λW15=>∃m',m'<m0/\I0 [W14,W15] s m'
def qFH(X:Td)(a0 b1 i6 t32 t43:AV)(I0:IvP)(m0:Nat)(K:KvP)(s:Hq):Prop:=
 oK (qAY t32 t43 (.bool false)) λW13=>qAM W13
 (oK (qAI 3 a0 i6) λW16=>oK (qAE 1 W16) λW17=>oK (rd1 s W17) λW18=>oK (qAI 3 b1 i6) λW19=>oK (qAE 1 W19) λW20=>oK (rd1 s W20) λW21=>wC TP X 28 [W18,W21] (λW22 S23=>qFG X i6 W13 W22 I0 m0 K S23) s)
 (qFG X i6 W13 .undef I0 m0 K s)
def qFI(X:Td)(a0 b1 x5 i6 t13 t17:AV)(I0:IvP)(m0:Nat)(K:KvP)(s:Hq):Prop:=
 oK (qAY t13 t17 (.bool false)) λW5=>qAM W5
 (oK (qAI 3 a0 i6) λW6=>oK (qAE 0 W6) λW7=>oK (rd1 s W7) λW8=>oK (qAI 3 b1 i6) λW9=>oK (qAE 0 W9) λW10=>oK (rd1 s W10) λW11=>oK (negB false (eqV 0 false W8 W11)) λW12=>qAM W12
 (oK (qAI 3 a0 i6) λW24=>oK (qAE 2 W24) λW25=>oK (rd1 s W25) λW26=>oK (qAI 3 b1 i6) λW27=>oK (qAE 2 W27) λW28=>oK (rd1 s W28) λW29=>oK (negB false (eqV 0 false W26 W29)) λW30=>qFH X a0 b1 i6 W12 W30 I0 m0 K s)
 (qFH X a0 b1 i6 W12 .undef I0 m0 K s))
 (K x5 s)
def qHl(X:Td)(a0 b1 x5 i6:AV)(I0:IvP)(m0:Nat)(K:KvP)(s:Hq):Prop:=
 qAM x5
 (oK (qAO a0) λW31=>oK (qAB .lss i6 (.int .i64 W31)) λW33=>qFI X a0 b1 x5 i6 x5 W33 I0 m0 K s)
 (qFI X a0 b1 x5 i6 x5 .undef I0 m0 K s)
def qJv(X:Td)(a0 b1:AV)(K:KvP)(s:Hq):Prop:=
 oK (qAO a0) λW0=>oK (qAO b1) λW2=>oK (negB false (eqV 0 false (.int .i64 W0) (.int .i64 W2))) λW4=>∃I0:IvP,(∃m,I0 [W4,(.int .i64 0)] s m)/\∀(f:Env) (s:Hq) (m0:Nat),I0 [f 5,f 6] s m0->
 qHl X a0 b1 (f 5) (f 6) I0 m0 K s
def qKP:Nat->List Nat:=λk=>cond (Nat.beq k 6) [5,6] ([])
theorem qLF{a0 b1:AV}{K:KvP}{s:Hq}(h:qJv XX a0 b1 K s):wC TP XX 11 [a0,b1] K s:=wOK qCM qKP rfl Tryz.func11 h
def qEJ(X:Td)(ip0 t6 t8:AV)(K:KvP)(s:Hq):Prop:=
 oK (qAY t6 (.bool true) t8) λW1=>qAM W1
 (K (.tup [(.int .i64 0),(.bool false)]) s)
 (oK (qAB .sub ip0 (.int .u32 184483840)) λW2=>oK (qAB .sub W2 (.int .u32 1)) λW3=>oK (qCJ .i64 W3) λW4=>K (.tup [W4,(.bool true)]) s)
def qK2(X:Td)(ip0:AV)(K:KvP)(s:Hq):Prop:=
 oK (qAB .leq ip0 (.int .u32 184483840)) λW0=>qAM W0
 (qEJ X ip0 W0 .undef K s)
 (oK (qAB .gtr ip0 (.int .u32 184483872)) λW5=>qEJ X ip0 W0 W5 K s)
theorem qMu{ip0:AV}{K:KvP}{s:Hq}(h:qK2 XX ip0 K s):wC TP XX 30 [ip0] K s:=wOK qCM nA0 rfl Tryz.func30 h
def qBH(X:Td)(k3 k25:AV)(I1:IvP)(m1:Nat)(I0:IvP)(m0:Nat)(K:KvP)(s:Hq):Prop:=
 oK (qAB .add k25 (.int .i64 1)) λW22=>∃m',m'<m1/\I1 [k3,W22] s m'
def qC2(X:Td)(t0 k3 s24 k25:AV)(I1:IvP)(m1:Nat)(I0:IvP)(m0:Nat)(K:KvP)(s:Hq):Prop:=
 oK (qAO s24) λW13=>oK (qAB .lss k25 (.int .i64 W13)) λW15=>qAM W15
 (oK (qAI 1 s24 k25) λW16=>oK (rd1 s W16) λW17=>oK (qAB .sub k25 (.int .i64 1)) λW18=>oK (qAI 1 s24 W18) λW19=>oK (rd1 s W19) λW20=>oK (negB true (eqV 0 false W17 W20)) λW21=>qAM W21
 (oK (qAI 1 s24 k25) λW23=>oK (rd1 s W23) λW24=>oK (qAI 1 t0 k3) λW25=>oK (wr1 s W25 W24) λS26=>oK (qAB .add k3 (.int .i64 1)) λW27=>qBH X W27 k25 I1 m1 I0 m0 K S26)
 (qBH X k3 k25 I1 m1 I0 m0 K s))
 (oK (qEe 1 t0 (some k3) none none) λW28=>qQK [(.int .u32 0)] 1 W28 (λW29 S30=>oK (qEe 1 t0 none (some k3) none) λW31=>K W31 S30) s)
def qCu(X:Td)(t0 k3:AV)(I0:IvP)(m0:Nat)(K:KvP)(s:Hq):Prop:=
 oK (qAO t0) λW3=>oK (qAB .lss k3 (.int .i64 W3)) λW5=>qAM W5
 (oK (qAI 1 t0 k3) λW6=>oK (rd1 s W6) λW7=>oK (qAB .sub k3 (.int .i64 1)) λW8=>oK (qAI 1 t0 W8) λW9=>oK (rd1 s W9) λW10=>oK (negB false (eqV 0 false W7 W10)) λW11=>qAM W11
 (oK (qEe 1 t0 (some k3) none none) λW12=>∃I1:IvP,(∃m,I1 [k3,(.int .i64 1)] s m)/\∀(f:Env) (s:Hq) (m1:Nat),I1 [f 3,f 5] s m1->
 qC2 X t0 (f 3) W12 (f 5) I1 m1 I0 m0 K s)
 (oK (qAB .add k3 (.int .i64 1)) λW32=>∃m',m'<m0/\I0 [W32] s m'))
 (K t0 s)
def qDd(X:Td)(t0:AV)(K:KvP)(s:Hq):Prop:=
 oK (qAO t0) λW0=>oK (qAB .lss (.int .i64 W0) (.int .i64 2)) λW2=>qAM W2
 (K t0 s)
 (∃I0:IvP,(∃m,I0 [(.int .i64 1)] s m)/\∀(f:Env) (s:Hq) (m0:Nat),I0 [f 3] s m0->
 qCu X t0 (f 3) I0 m0 K s)
def qEs:Nat->List Nat:=λk=>cond (Nat.beq k 8) [3] (cond (Nat.beq k 18) [3,5] ([]))
theorem qE8{t0:AV}{K:KvP}{s:Hq}(h:qDd XX t0 K s):wC TP XX 67 [t0] K s:=wOK qCM qEs rfl Tryz.func67 h
end Go.AM
