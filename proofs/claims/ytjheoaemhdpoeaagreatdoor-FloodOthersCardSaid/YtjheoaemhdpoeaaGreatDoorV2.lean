/- Part V2 of the proof: see the last part. -/
import Derived.Test.YtjheoaemhdpoeaaGreatDoorV
set_option linter.unusedVariables false
namespace Go.AM
open Go Go.Proofs
set_option maxRecDepth 100000
def qDR(X:Td)(n0 t6 t8:AV)(K:KvP)(s:Hq):Prop:=
 oK (qAS t6 (.bool true) t8) λW1=>qAJ W1
 (K (.tup [(.int .u32 0),(.int .i64 2)]) s)
 (oK (qB6 .u32 n0) λW2=>oK (qAB .add (.int .u32 184483840) W2) λW3=>oK (qAB .add W3 (.int .u32 1)) λW4=>K (.tup [W4,(.int .i64 0)]) s)
def qIL(X:Td)(n0:AV)(K:KvP)(s:Hq):Prop:=
 oK (qAB .lss n0 (.int .i64 0)) λW0=>qAJ W0
 (qDR X n0 W0 .undef K s)
 (oK (qAB .geq n0 (.int .i64 32)) λW5=>qDR X n0 W0 W5 K s)
theorem qJ7{n0:AV}{K:KvP}{s:Hq}(h:qIL XX n0 K s):wC TP XX 50 [n0] K s:=wOK qBz nA0 rfl Tryz.func50 h
def qIQ(X:Td)(x0:AV)(K:KvP)(s:Hq):Prop:=
 qAJ (.bool false)
 (oK (qB6 .u32 x0) λW0=>wC TP X 144 [W0] (λW1 S2=>K W1 S2) s)
 (wC TP X 145 [x0] (λW3 S4=>K W3 S4) s)
theorem qKH{X:Td}(hX:FrX X)(hn:X 96=none){x0:AV}{K:KvP}{s:Hq}(h:qIQ X x0 K s):wC TP X 96 [x0] K s:=
 wOK hX nA0 hn Tryz.func96 h
def qEO(X:Td)(t13:AV)(I0:IvP)(m0:Nat)(K:KvP)(s:Hq):Prop:=
 oK (qAB .add t13 (.int .i64 1)) λW13=>∃m',m'<m0/\I0 [W13] s m'
def qFq(X:Td)(c5 t8 p10 t27 t32 t33:AV)(I3:IvP)(m3:Nat)(I2:IvP)(m2:Nat)(K:KvP)(s:Hq):Prop:=
 oK (qAB .lss t33 t32) λW29=>qAJ W29
 (oK (qAB .add t8 t33) λW30=>oK (qAF 1 p10) λW31=>oK (rd1 s W31) λW32=>oK (qAF 0 p10) λW33=>oK (rd1 s W33) λW34=>oK (qAB .sub W34 (.int .i64 1)) λW35=>oK (qAB .sub W35 t33) λW36=>oK (qAB .mul (.int .i64 8) W36) λW37=>oK (qCj .shr W32 W37) λW38=>oK (qB6 .u8 W38) λW39=>oK (qIT 8 1 c5 W30) λW40=>oK (wr1 s W40 W39) λS41=>oK (qAB .add t33 (.int .i64 1)) λW42=>∃m',m'<m3/\I3 [W42] S41 m')
 (oK (qAF 0 p10) λW43=>oK (rd1 s W43) λW44=>oK (qAB .add t8 W44) λW45=>oK (qAB .add t27 (.int .i64 1)) λW46=>∃m',m'<m2/\I2 [W45,W46] s m')
def qIU(X:Td)(t4 c5 t8 t25 t26 t27:AV)(I2:IvP)(m2:Nat)(K:KvP)(s:Hq):Prop:=
 oK (qAB .lss t27 t26) λW21=>qAJ W21
 (oK (qAH 2 t25 t27) λW22=>oK (rdN s 2 W22) λW23=>newK 167 [(.int .i64 0),(.int .u64 0)] (λB24 S25=>oK (qBS S25 2 (.ptr B24 0) (.agg W23)) λS26=>oK (qAF 0 (.ptr B24 0)) λW27=>oK (rd1 S26 W27) λW28=>∃I3:IvP,(∃m,I3 [(.int .i64 0)] S26 m)/\∀(f:Env) (s:Hq) (m3:Nat),I3 [f 33] s m3->
 qFq X c5 t8 (.ptr B24 0) t27 W28 (f 33) I3 m3 I2 m2 K s) s)
 (oK (rdN s 8 c5) λW47=>oK (qBS s 8 t4 (.agg W47)) λS48=>oK (rdN S48 8 t4) λt4_49=>K (.agg t4_49) S48)
def qIS(X:Td)(kind0 x1 t4 c5 t12 t13:AV)(I0:IvP)(m0:Nat)(K:KvP)(s:Hq):Prop:=
 oK (qAB .lss t13 (.int .i64 7)) λW5=>qAJ W5
 (oK (qOV 7 3 (some 3) t12 t13) λW6=>newK 170 [(.int .i64 0),(.int .u8 0),(.int .u8 0)] (λB7 S8=>oK (qBS S8 3 (.ptr B7 0) W6) λS9=>oK (qAF 0 (.ptr B7 0)) λW10=>oK (rd1 S9 W10) λW11=>oK (negB false (eqV 0 false W11 kind0)) λW12=>qAJ W12
 (oK (qFw S9 8 1 c5 none none none) λW14=>oK (qAF 1 (.ptr B7 0)) λW15=>oK (qFw S9 2 1 W15 none none none) λW16=>qZE 1 W14 W16 (λW17 S18=>qEO X t13 I0 m0 K S18) S9)
 (qEO X t13 I0 m0 K S9)) s)
 (oK (qAP x1) λW19=>∃I2:IvP,(∃m,I2 [(.int .i64 2),(.int .i64 0)] s m)/\∀(f:Env) (s:Hq) (m2:Nat),I2 [f 8,f 27] s m2->
 qIU X t4 c5 (f 8) x1 (.int .i64 W19) (f 27) I2 m2 K s)
def qKj(X:Td)(kind0 x1:AV)(K:KvP)(s:Hq):Prop:=
 newK 129 [(.int .u8 0),(.int .u8 0),(.int .u8 0),(.int .u8 0),(.int .u8 0),(.int .u8 0),(.int .u8 0),(.int .u8 0)] (λB0 S1=>newK 129 [(.int .u8 0),(.int .u8 0),(.int .u8 0),(.int .u8 0),(.int .u8 0),(.int .u8 0),(.int .u8 0),(.int .u8 0)] (λB2 S3=>oK (gldN S3 21 0) λW4=>∃I0:IvP,(∃m,I0 [(.int .i64 0)] S3 m)/\∀(f:Env) (s:Hq) (m0:Nat),I0 [f 13] s m0->
 qIS X kind0 x1 (.ptr B0 0) (.ptr B2 0) (.agg W4) (f 13) I0 m0 K s) S1) s
def qLS:Nat->List Nat:=λk=>cond (Nat.beq k 6) [13] (cond (Nat.beq k 20) [8,27] (cond (Nat.beq k 26) [33] ([])))
theorem qMD{kind0 x1:AV}{K:KvP}{s:Hq}(h:qKj XX kind0 x1 K s):wC TP XX 86 [kind0,x1] K s:=wOK qBz qLS rfl Tryz.func86 h
def qHj(X:Td)(n7 t14 t15 t16:AV)(I0:IvP)(m0:Nat)(K:KvP)(s:Hq):Prop:=
 oK (qAB .lss t16 t15) λW6=>qAJ W6
 (oK (qAH 1 t14 t16) λW7=>oK (rd1 s W7) λW8=>oK (qCj .shl n7 (.int .u64 8)) λW9=>oK (qB6 .u64 W8) λW10=>oK (qAB .or W9 W10) λW11=>oK (qAB .add t16 (.int .i64 1)) λW12=>∃m',m'<m0/\I0 [W11,W12] s m')
 (K n7 s)
def qOK(X:Td)(c0 t1 size2:AV)(K:KvP)(s:Hq):Prop:=
 boxK 129 c0 (λB0 S1=>oK (qAB .add t1 size2) λW2=>oK (qFw S1 8 1 B0 (some t1) (some W2) none) λW3=>oK (qAP W3) λW4=>∃I0:IvP,(∃m,I0 [(.int .u64 0),(.int .i64 0)] S1 m)/\∀(f:Env) (s:Hq) (m0:Nat),I0 [f 7,f 16] s m0->
 qHj X (f 7) W3 (.int .i64 W4) (f 16) I0 m0 K s) s
def qKV:Nat->List Nat:=λk=>cond (Nat.beq k 6) [7,16] ([])
theorem qLA{c0 t1 size2:AV}{K:KvP}{s:Hq}(h:qOK XX c0 t1 size2 K s):wC TP XX 65 [c0,t1,size2] K s:=wOK qBz qKV rfl Tryz.func65 h
end Go.AM
namespace Go.AM
open Go Go.Proofs
set_option maxRecDepth 100000
def qD1(X:Td)(x0 n2:AV)(K:KvP)(s:Hq):Prop:=
 oK (qB6 .u8 x0) λW3=>oK (qJL (.str ⟨#[0,1,2,2,3,3,3,3,4,4,4,4,4,4,4,4,5,5,5,5,5,5,5,5,5,5,5,5,5,5,5,5,6,6,6,6,6,6,6,6,6,6,6,6,6,6,6,6,6,6,6,6,6,6,6,6,6,6,6,6,6,6,6,6,7,7,7,7,7,7,7,7,7,7,7,7,7,7,7,7,7,7,7,7,7,7,7,7,7,7,7,7,7,7,7,7,7,7,7,7,7,7,7,7,7,7,7,7,7,7,7,7,7,7,7,7,7,7,7,7,7,7,7,7,7,7,7,7,8,8,8,8,8,8,8,8,8,8,8,8,8,8,8,8,8,8,8,8,8,8,8,8,8,8,8,8,8,8,8,8,8,8,8,8,8,8,8,8,8,8,8,8,8,8,8,8,8,8,8,8,8,8,8,8,8,8,8,8,8,8,8,8,8,8,8,8,8,8,8,8,8,8,8,8,8,8,8,8,8,8,8,8,8,8,8,8,8,8,8,8,8,8,8,8,8,8,8,8,8,8,8,8,8,8,8,8,8,8,8,8,8,8,8,8,8,8,8,8,8,8,8,8,8,8,8,8]⟩) W3) λW4=>oK (qB6 .i64 W4) λW5=>oK (qAB .add n2 W5) λW6=>K W6 s
def qDx(X:Td)(x0 n2:AV)(K:KvP)(s:Hq):Prop:=
 oK (qAB .geq x0 (.int .u64 256)) λW2=>qAJ W2
 (oK (qCj .shr x0 (.int .u64 8)) λW7=>oK (qAB .add n2 (.int .i64 8)) λW8=>qD1 X W7 W8 K s)
 (qD1 X x0 n2 K s)
def qD4(X:Td)(x0 n2:AV)(K:KvP)(s:Hq):Prop:=
 oK (qAB .geq x0 (.int .u64 65536)) λW1=>qAJ W1
 (oK (qCj .shr x0 (.int .u64 16)) λW9=>oK (qAB .add n2 (.int .i64 16)) λW10=>qDx X W9 W10 K s)
 (qDx X x0 n2 K s)
def qKr(X:Td)(x0:AV)(K:KvP)(s:Hq):Prop:=
 oK (qAB .geq x0 (.int .u64 4294967296)) λW0=>qAJ W0
 (oK (qCj .shr x0 (.int .u64 32)) λW11=>qD4 X W11 (.int .i64 32) K s)
 (qD4 X x0 (.int .i64 0) K s)
theorem qIv{X:Td}(hX:FrX X)(hn:X 145=none){x0:AV}{K:KvP}{s:Hq}(h:qKr X x0 K s):wC TP X 145 [x0] K s:=
 wOK hX nA0 hn Tryz.func145 h
def qIe(X:Td)(c1 t5 t6:AV)(I0:IvP)(m0:Nat)(K:KvP)(s:Hq):Prop:=
 oK (qAB .lss t6 (.int .i64 7)) λW3=>qAJ W3
 (oK (qOV 7 3 (some 3) t5 t6) λW4=>newK 170 [(.int .i64 0),(.int .u8 0),(.int .u8 0)] (λB5 S6=>oK (qBS S6 3 (.ptr B5 0) W4) λS7=>oK (qAF 1 (.ptr B5 0)) λW8=>oK (rdN S7 2 W8) λW9=>oK (qFw S7 8 1 c1 none (some (.int .i64 2)) none) λW10=>oK (qZi 2 W10) λW11=>oK (rdN S7 2 W11) λW12=>oK (negB false (qGC TP 169 (.agg W9) (.agg W12))) λW13=>qAJ W13
 (oK (qAF 0 (.ptr B5 0)) λW14=>oK (rd1 S7 W14) λW15=>K W15 S7)
 (oK (qAB .add t6 (.int .i64 1)) λW16=>∃m',m'<m0/\I0 [W16] S7 m')) s)
 (K (.int .i64 0) s)
def qQP(X:Td)(c0:AV)(K:KvP)(s:Hq):Prop:=
 boxK 129 c0 (λB0 S1=>oK (gldN S1 21 0) λW2=>∃I0:IvP,(∃m,I0 [(.int .i64 0)] S1 m)/\∀(f:Env) (s:Hq) (m0:Nat),I0 [f 6] s m0->
 qIe X B0 (.agg W2) (f 6) I0 m0 K s) s
def qMF:Nat->List Nat:=λk=>cond (Nat.beq k 4) [6] ([])
theorem qNK{c0:AV}{K:KvP}{s:Hq}(h:qQP XX c0 K s):wC TP XX 64 [c0] K s:=wOK qBz qMF rfl Tryz.func64 h
end Go.AM
namespace Go.AM
open Go Go.Proofs
set_option maxRecDepth 100000
end Go.AM
namespace Go.AM
open Go Go.Proofs
set_option maxRecDepth 100000
def qHg(X:Td)(length0:AV)(K:KvP)(s:Hq):Prop:=
 oK (qB6 .u64 length0) λW0=>wC TP X 96 [W0] (λW1 S2=>oK (qCj .shl (.int .u64 1) W1) λW3=>K W3 S2) s
theorem qJd{X:Td}(hX:FrX X)(hn:X 178=none){length0:AV}{K:KvP}{s:Hq}(h:qHg X length0 K s):wC TP X 178 [length0] K s:=
 wOK hX nA0 hn Tryz.func178 h
def qIP(X:Td)(r0:AV)(K:KvP)(s:Hq):Prop:=
 oK (qAj r0) λW0=>oK (rd1 s W0) λW1=>oK (qAj r0) λW2=>oK (rd1 s W2) λW3=>oK (qCj .shl W3 (.int .u64 13)) λW4=>oK (qAB .xor W1 W4) λW5=>oK (qAj r0) λW6=>oK (wr1 s W6 W5) λS7=>oK (qAj r0) λW8=>oK (rd1 S7 W8) λW9=>oK (qAj r0) λW10=>oK (rd1 S7 W10) λW11=>oK (qCj .shr W11 (.int .u64 7)) λW12=>oK (qAB .xor W9 W12) λW13=>oK (qAj r0) λW14=>oK (wr1 S7 W14 W13) λS15=>oK (qAj r0) λW16=>oK (rd1 S15 W16) λW17=>oK (qAj r0) λW18=>oK (rd1 S15 W18) λW19=>oK (qCj .shl W19 (.int .u64 17)) λW20=>oK (qAB .xor W17 W20) λW21=>oK (qAj r0) λW22=>oK (wr1 S15 W22 W21) λS23=>oK (qAj r0) λW24=>oK (rd1 S23 W24) λW25=>K W25 S23
theorem qKA{X:Td}(hX:FrX X)(hn:X 179=none){r0:AV}{K:KvP}{s:Hq}(h:qIP X r0 K s):wC TP X 179 [r0] K s:=
 wOK hX nA0 hn Tryz.func179 h
def qGx(X:Td)(x14 l15 t61 t62 t63:AV)(I3:IvP)(m3:Nat)(K:KvP)(s:Hq):Prop:=
 oK (qAB .lss t63 t62) λW53=>qAJ W53
 (oK (qAH 1 t61 t63) λW54=>oK (rd1 s W54) λW55=>funK TP X x14 [W55] (λW56 S57=>oK (qBC (repl 1 [(.int .u32 0),(.int .u32 0),(.int .i64 0),(.int .i64 0),(.int .u32 0),(.int .u32 0),(.int .u64 0),(.int .u64 0),(.int .i64 0),(.int .i64 0),(.int .u64 0),(.int .u32 0),(.int .u64 0),(.int .u32 0),(.int .u32 0),(.int .u32 0),(.int .i64 0),(.int .i64 0),(.int .i64 0),(.int .i64 0),(.int .u64 0)]) [(0,21,W56)]) λC58=>qAZ C58=true/\newK 55 C58 (λB59 S60=>appK 55 21 l15 (.slc B59 0 1 (some 1) 21) (λW61 S62=>oK (qAB .add t63 (.int .i64 1)) λW63=>∃m',m'<m3/\I3 [W61,W63] S62 m') S60) S57) s)
 (K l15 s)
def qBh(X:Td)(x1 t5 x7 x8 x9 t33 t37:AV)(K:KvP)(s:Hq):Prop:=
 oK (qAS t33 (.bool true) t37) λW16=>qAJ W16
 (K .nilslc s)
 (oK (rdN s 19 t5) λW17=>wC TP X 44 [(.agg W17),x1] (λW18 S19=>(∀b,s b≠none->s b=none->S19 b=none)->
 oK (rdN (cutH [(s,(add s S19))] (add s S19)) 15 x8) λW20=>wC TP X 23 [(.agg W20)] (λW21 S22=>(∀b,(add s S19) b≠none->(add s S19) b=none->S22 b=none)->
 oK (qAF 4 t5) λW23=>oK (rd1 (cutH [(s,(add s S19)),((add s S19),(add (add s S19) S22))] (add (add s S19) S22)) W23) λW24=>oK (qAF 0 x7) λW25=>oK (rd1 (cutH [(s,(add s S19)),((add s S19),(add (add s S19) S22))] (add (add s S19) S22)) W25) λW26=>oK (qAH 6 W24 W26) λW27=>oK (qAF 1 W27) λW28=>oK (rd1 (cutH [(s,(add s S19)),((add s S19),(add (add s S19) S22))] (add (add s S19) S22)) W28) λW29=>newK 42 [(.int .u32 0)] (λB30 S31=>(∀b,(add (add s S19) S22) b≠none->(cutH [(s,(add s S19)),((add s S19),(add (add s S19) S22))] (add (add s S19) S22)) b=none->S31 b=none)->
 newK 3 [(.int .i64 0)] (λB32 S33=>(∀b,(add (add (add s S19) S22) S31) b≠none->(cutH [(s,(add s S19)),((add s S19),(add (add s S19) S22)),((add (add s S19) S22),(add (add (add s S19) S22) S31))] (add (add (add s S19) S22) S31)) b=none->S33 b=none)->
 newK 41 [(.int .u32 0)] (λB34 S35=>(∀b,(add (add (add (add s S19) S22) S31) S33) b≠none->(cutH [(s,(add s S19)),((add s S19),(add (add s S19) S22)),((add (add s S19) S22),(add (add (add s S19) S22) S31)),((add (add (add s S19) S22) S31),(add (add (add (add s S19) S22) S31) S33))] (add (add (add (add s S19) S22) S31) S33)) b=none->S35 b=none)->
 ((cutH [((hdel (add (add s S19) S22) (qB0 W23)),(add (add s S19) S22)),((hdel (add (add s S19) S22) (qB0 W25)),(add (add s S19) S22)),((hdel (add (add s S19) S22) (qB0 W28)),(add (add s S19) S22))] (add (add (add (add (add s S19) S22) S31) S33) S35)) (qB0 (.ptr B30 0))≠none)/\
 oK (wr1 (add (add (add (add (add s S19) S22) S31) S33) S35) (.ptr B30 0) W18) λS36=>((cutH [((hdel (add (add s S19) S22) (qB0 W23)),(add (add s S19) S22)),((hdel (add (add s S19) S22) (qB0 W25)),(add (add s S19) S22)),((hdel (add (add s S19) S22) (qB0 W28)),(add (add s S19) S22))] S36) (qB0 (.ptr B32 0))≠none)/\
 oK (wr1 S36 (.ptr B32 0) W21) λS37=>oK (wr1 S37 (.ptr B34 0) W29) λS38=>oK (qAF 2 x7) λW39=>oK (rd1 S38 W39) λW40=>oK (negB true (eqV 0 true W40 (.int .u32 0))) λW41=>qAJ W41
 (oK (qAF 2 x7) λW42=>oK (rd1 S38 W42) λW43=>funK TP X (.fn (.func 45) [] [(.ptr B30 0),(.ptr B32 0),(.ptr B34 0),x9,x8]) [W43] (λW44 S45=>oK (qBC (repl 1 [(.int .u32 0),(.int .u32 0),(.int .i64 0),(.int .i64 0),(.int .u32 0),(.int .u32 0),(.int .u64 0),(.int .u64 0),(.int .i64 0),(.int .i64 0),(.int .u64 0),(.int .u32 0),(.int .u64 0),(.int .u32 0),(.int .u32 0),(.int .u32 0),(.int .i64 0),(.int .i64 0),(.int .i64 0),(.int .i64 0),(.int .u64 0)]) [(0,21,W44)]) λC46=>qAZ C46=true/\newK 55 C46 (λB47 S48=>K (.slc B47 0 1 (some 1) 21) S48) S45) S38)
 (oK (qAF 1 x7) λW49=>oK (rd1 S38 W49) λW50=>oK (qAP W50) λW51=>∃I3:IvP,(∃m,I3 [.nilslc,(.int .i64 0)] S38 m)/\∀(f:Env) (s:Hq) (m3:Nat),I3 [f 15,f 63] s m3->
 qGx X (.fn (.func 45) [] [(.ptr B30 0),(.ptr B32 0),(.ptr B34 0),x9,x8]) (f 15) W50 (.int .i64 W51) (f 63) I3 m3 K s)) (frz (cutH [(s,(add s S19)),((add s S19),(add (add s S19) S22)),((add (add s S19) S22),(add (add (add s S19) S22) S31)),((add (add (add s S19) S22) S31),(add (add (add (add s S19) S22) S31) S33))] (add (add (add (add s S19) S22) S31) S33)))) (frz (cutH [(s,(add s S19)),((add s S19),(add (add s S19) S22)),((add (add s S19) S22),(add (add (add s S19) S22) S31))] (add (add (add s S19) S22) S31)))) (frz (cutH [(s,(add s S19)),((add s S19),(add (add s S19) S22))] (add (add s S19) S22)))) (frz (add s S19))) (frz s))
def qCE(X:Td)(x1 t5 x7 x8 x9 t27 t31:AV)(K:KvP)(s:Hq):Prop:=
 oK (qAS t27 (.bool true) t31) λW15=>qAJ W15
 (qBh X x1 t5 x7 x8 x9 W15 .undef K s)
 (oK (qAF 1 x7) λW64=>oK (rd1 s W64) λW65=>oK (qAP W65) λW66=>oK (negB false (eqV 0 true (.int .i64 W66) (.int .i64 0))) λW68=>qBh X x1 t5 x7 x8 x9 W15 W68 K s)
def qCc(X:Td)(x1 t5 x7 x8 x9 t23 t25:AV)(K:KvP)(s:Hq):Prop:=
 oK (qAS t23 (.bool true) t25) λW14=>qAJ W14
 (qCE X x1 t5 x7 x8 x9 W14 .undef K s)
 (oK (qAF 0 t5) λW69=>oK (rd1 s W69) λW70=>oK (qAB .geq x1 W70) λW71=>qCE X x1 t5 x7 x8 x9 W14 W71 K s)
def qN7(X:Td)(t0 x1 x2 x3 x4:AV)(K:KvP)(s:Hq):Prop:=
 boxK 31 t0 (λB0 S1=>boxK 44 x2 (λB2 S3=>boxK 52 x3 (λB4 S5=>boxK 41 x4 (λB6 S7=>oK (rdN S7 19 B0) λW8=>oK (qAF 0 B2) λW9=>oK (rd1 S7 W9) λW10=>wC TP X 43 [(.agg W8),W10] (λW11 S12=>oK (qBV .not W11) λW13=>qAJ W13
 (qCc X x1 B0 B2 B4 B6 W13 .undef K S12)
 (oK (qAB .lss x1 (.int .i64 0)) λW72=>qCc X x1 B0 B2 B4 B6 W13 W72 K S12)) S7) S5) S3) S1) s
def qJ5:Nat->List Nat:=λk=>cond (Nat.beq k 18) [15,63] ([])
theorem qKM{t0 x1 x2 x3 x4:AV}{K:KvP}{s:Hq}(h:qN7 XX t0 x1 x2 x3 x4 K s):wC TP XX 15 [t0,x1,x2,x3,x4] K s:=wOK qBz qJ5 rfl Tryz.func15 h
def qLa(X:Td)(dst0 t1 t2 t3 t4 t5:AV)(K:KvP)(s:Hq):Prop:=
 newK 55 [(.int .u32 0),(.int .u32 0),(.int .i64 0),(.int .i64 0),(.int .u32 0),(.int .u32 0),(.int .u64 0),(.int .u64 0),(.int .i64 0),(.int .i64 0),(.int .u64 0),(.int .u32 0),(.int .u64 0),(.int .u32 0),(.int .u32 0),(.int .u32 0),(.int .i64 0),(.int .i64 0),(.int .i64 0),(.int .i64 0),(.int .u64 0)] (λB0 S1=>oK (rd1 S1 t1) λW2=>oK (rd1 S1 t2) λW3=>oK (rd1 S1 t3) λW4=>oK (rd1 S1 t4) λW5=>oK (rdN S1 15 t5) λW6=>oK (qBC [(.int .u32 0),(.int .u32 0),(.int .i64 0),(.int .i64 0),(.int .u32 0),(.int .u32 0),(.int .u64 0),(.int .u64 0),(.int .i64 0),(.int .i64 0),(.int .u64 0),(.int .u32 0),(.int .u64 0),(.int .u32 0),(.int .u32 0),(.int .u32 0),(.int .i64 0),(.int .i64 0),(.int .i64 0),(.int .i64 0),(.int .u64 0)] [(0,1,W2),(1,1,dst0),(2,1,(.int .i64 16)),(3,1,W3),(4,1,W4),(5,1,W5),(6,15,(.agg W6))]) λC7=>oK (qBS S1 21 (.ptr B0 0) (.agg C7)) λS8=>oK (rdN S8 21 (.ptr B0 0)) λt7_9=>K (.agg t7_9) S8) s
theorem qJa{dst0 t1 t2 t3 t4 t5:AV}{K:KvP}{s:Hq}(h:qLa XX dst0 t1 t2 t3 t4 t5 K s):wC TP XX 45 [dst0,t1,t2,t3,t4,t5] K s:=wOK qBz nA0 rfl Tryz.func45 h
end Go.AM
namespace Go.AM
open Go Go.Proofs
set_option maxRecDepth 100000
def qDF(X:Td)(t20 t25:AV)(K:KvP)(s:Hq):Prop:=
 oK (qAS t20 t25 (.bool false)) λW10=>K W10 s
def qCP(X:Td)(x1 t2 t16 t18:AV)(K:KvP)(s:Hq):Prop:=
 oK (qAS t16 t18 (.bool false)) λW9=>qAJ W9
 (oK (qAF 4 t2) λW11=>oK (rd1 s W11) λW12=>oK (qAP W12) λW13=>oK (qAB .lss x1 (.int .i64 W13)) λW15=>qDF X W9 W15 K s)
 (qDF X W9 .undef K s)
def qOO(X:Td)(t0 x1:AV)(K:KvP)(s:Hq):Prop:=
 boxK 31 t0 (λB0 S1=>oK (rdN S1 19 B0) λW2=>wC TP X 31 [(.agg W2)] (λW3 S4=>oK (qAh W3 0) λW5=>oK (qAh W3 1) λW6=>oK (qAh W3 2) λW7=>oK (negB false (eqV 0 true W5 (.int .i64 0))) λW8=>qAJ W8
 (oK (qAB .geq x1 (.int .i64 0)) λW16=>qCP X x1 B0 W8 W16 K S4)
 (qCP X x1 B0 W8 .undef K S4)) S1) s
theorem qLM{t0 x1:AV}{K:KvP}{s:Hq}(h:qOO XX t0 x1 K s):wC TP XX 43 [t0,x1] K s:=wOK qBz nA0 rfl Tryz.func43 h
def qHI(X:Td)(n1 t8 t16:AV)(K:KvP)(s:Hq):Prop:=
 oK (qAS t8 (.bool true) t16) λW6=>qAJ W6
 (K (.int .u32 0) s)
 (wC TP X 77 [n1] (λW7 S8=>K W7 S8) s)
def qSQ(X:Td)(t0 n1:AV)(K:KvP)(s:Hq):Prop:=
 boxK 31 t0 (λB0 S1=>oK (rdN S1 19 B0) λW2=>wC TP X 75 [(.agg W2)] (λW3 S4=>oK (qBV .not W3) λW5=>qAJ W5
 (qHI X n1 W5 .undef K S4)
 (oK (qAF 0 B0) λW9=>oK (rd1 S4 W9) λW10=>oK (qAF 1 B0) λW11=>oK (rd1 S4 W11) λW12=>oK (qAB .add W10 W12) λW13=>wC TP X 76 [n1,W13] (λW14 S15=>oK (qBV .not W14) λW16=>qHI X n1 W5 W16 K S15) S4)) S1) s
theorem qON{t0 n1:AV}{K:KvP}{s:Hq}(h:qSQ XX t0 n1 K s):wC TP XX 44 [t0,n1] K s:=wOK qBz nA0 rfl Tryz.func44 h
def qSZ(X:Td)(n0:AV)(K:KvP)(s:Hq):Prop:=
 wC TP X 50 [n0] (λW0 S1=>oK (qAh W0 0) λW2=>oK (qAh W0 1) λW3=>K W2 S1) s
theorem qOI{n0:AV}{K:KvP}{s:Hq}(h:qSZ XX n0 K s):wC TP XX 77 [n0] K s:=wOK qBz nA0 rfl Tryz.func77 h
def qBx(X:Td)(x3:AV)(K:KvP)(s:Hq):Prop:=
 wC TP X 52 [x3] (λW5 S6=>oK (qAB .rem W5 (.int .u32 16384)) λW7=>oK (qB6 .i64 W7) λW8=>oK (qAB .add (.int .i64 49152) W8) λW9=>K W9 S6) s
def qML(X:Td)(t0:AV)(K:KvP)(s:Hq):Prop:=
 boxK 52 t0 (λB0 S1=>oK (qAF 2 B0) λW2=>oK (rd1 S1 W2) λW3=>oK (negB false (eqV 0 true W3 (.int .i64 2))) λW4=>qAJ W4
 (oK (qAF 8 B0) λW10=>oK (rdN S1 6 W10) λW11=>newK 50 [(.int .u32 0),(.int .u32 0),(.int .i64 0),(.int .i64 0),(.int .i64 0),(.int .i64 0)] (λB12 S13=>oK (qBS S13 6 (.ptr B12 0) (.agg W11)) λS14=>oK (qAF 0 (.ptr B12 0)) λW15=>oK (rd1 S14 W15) λW16=>oK (qB6 .u64 W16) λW17=>wC TP X 51 [.nilslc,W17,(.int .i64 4)] (λW18 S19=>oK (qAF 1 (.ptr B12 0)) λW20=>oK (rd1 S19 W20) λW21=>oK (qB6 .u64 W21) λW22=>wC TP X 51 [W18,W22,(.int .i64 4)] (λW23 S24=>oK (qAF 3 (.ptr B12 0)) λW25=>oK (rd1 S24 W25) λW26=>oK (qB6 .u64 W26) λW27=>wC TP X 51 [W23,W27,(.int .i64 1)] (λW28 S29=>oK (qAF 4 (.ptr B12 0)) λW30=>oK (rd1 S29 W30) λW31=>oK (qB6 .u64 W31) λW32=>wC TP X 51 [W28,W32,(.int .i64 2)] (λW33 S34=>oK (qAF 5 (.ptr B12 0)) λW35=>oK (rd1 S34 W35) λW36=>oK (qB6 .u64 W36) λW37=>wC TP X 51 [W33,W37,(.int .i64 2)] (λW38 S39=>qBx X W38 K S39) S34) S29) S24) S19) S14) S1)
 (oK (qAF 0 B0) λW40=>oK (rd1 S1 W40) λW41=>wC TP X 51 [.nilslc,W41,(.int .i64 6)] (λW42 S43=>oK (qAF 1 B0) λW44=>oK (rd1 S43 W44) λW45=>wC TP X 51 [W42,W45,(.int .i64 6)] (λW46 S47=>oK (qAF 2 B0) λW48=>oK (rd1 S47 W48) λW49=>oK (qB6 .u64 W49) λW50=>wC TP X 51 [W46,W50,(.int .i64 1)] (λW51 S52=>qBx X W51 K S52) S47) S43) S1)) s
theorem qJ1{t0:AV}{K:KvP}{s:Hq}(h:qML XX t0 K s):wC TP XX 23 [t0] K s:=wOK qBz nA0 rfl Tryz.func23 h
def qI8(X:Td)(b0 n1 i7:AV)(I0:IvP)(m0:Nat)(K:KvP)(s:Hq):Prop:=
 oK (qAB .geq i7 (.int .i64 0)) λW1=>qAJ W1
 (oK (qAB .mul (.int .i64 8) i7) λW2=>oK (qCj .shr n1 W2) λW3=>oK (qB6 .u8 W3) λW4=>oK (qBC (repl 1 [(.int .u8 0)]) [(0,1,W4)]) λC5=>qAZ C5=true/\newK 5 C5 (λB6 S7=>appK 5 1 b0 (.slc B6 0 1 (some 1) 1) (λW8 S9=>oK (qAB .sub i7 (.int .i64 1)) λW10=>∃m',m'<m0/\I0 [W8,W10] S9 m') S7) s)
 (K b0 s)
def qLt(X:Td)(b0 n1 size2:AV)(K:KvP)(s:Hq):Prop:=
 oK (qAB .sub size2 (.int .i64 1)) λW0=>∃I0:IvP,(∃m,I0 [b0,W0] s m)/\∀(f:Env) (s:Hq) (m0:Nat),I0 [f 0,f 7] s m0->
 qI8 X (f 0) n1 (f 7) I0 m0 K s
def qME:Nat->List Nat:=λk=>cond (Nat.beq k 4) [0,7] ([])
theorem qNd{b0 n1 size2:AV}{K:KvP}{s:Hq}(h:qLt XX b0 n1 size2 K s):wC TP XX 51 [b0,n1,size2] K s:=wOK qBz qME rfl Tryz.func51 h
def qEd(X:Td)(b0 h3 t6 t7:AV)(I0:IvP)(m0:Nat)(K:KvP)(s:Hq):Prop:=
 oK (qAB .lss t7 t6) λW2=>qAJ W2
 (oK (qAH 1 b0 t7) λW3=>oK (rd1 s W3) λW4=>oK (qB6 .u32 W4) λW5=>oK (qAB .xor h3 W5) λW6=>oK (qAB .mul W6 (.int .u32 16777619)) λW7=>oK (qAB .add t7 (.int .i64 1)) λW8=>∃m',m'<m0/\I0 [W7,W8] s m')
 (K h3 s)
def qFf(X:Td)(b0:AV)(K:KvP)(s:Hq):Prop:=
 oK (qAP b0) λW0=>∃I0:IvP,(∃m,I0 [(.int .u32 2166136261),(.int .i64 0)] s m)/\∀(f:Env) (s:Hq) (m0:Nat),I0 [f 3,f 7] s m0->
 qEd X b0 (f 3) (.int .i64 W0) (f 7) I0 m0 K s
def qHD:Nat->List Nat:=λk=>cond (Nat.beq k 6) [3,7] ([])
theorem qHb{b0:AV}{K:KvP}{s:Hq}(h:qFf XX b0 K s):wC TP XX 52 [b0] K s:=wOK qBz qHD rfl Tryz.func52 h
def qD8(X:Td)(t47:AV)(I2:IvP)(m2:Nat)(K:KvP)(s:Hq):Prop:=
 oK (qAB .add t47 (.int .i64 1)) λW27=>∃m',m'<m2/\I2 [W27] s m'
def qHQ(X:Td)(t3 x10 t47 t56 t57 t58:AV)(I4:IvP)(m4:Nat)(I2:IvP)(m2:Nat)(K:KvP)(s:Hq):Prop:=
 oK (qAB .lss t58 t57) λW32=>qAJ W32
 (oK (qAH 1 t56 t58) λW33=>oK (rd1 s W33) λW34=>oK (qAF 4 t3) λW35=>oK (rd1 s W35) λW36=>oK (qAH 6 W36 W34) λW37=>oK (qAF 2 W37) λW38=>oK (rd1 s W38) λW39=>mapK (λW40 S41=>oK (qBC [.nilmap,(.bool false)] [(0,1,W40)]) λC42=>boxK 103 (.agg C42) (λB43 S44=>oK (putM S44 x10 W39 B43) λS45=>oK (qAB .add t58 (.int .i64 1)) λW46=>∃m',m'<m4/\I4 [W46] S45 m') S41) s)
 (qD8 X t47 I2 m2 K s)
def qC9(X:Td)(t76:AV)(I5:IvP)(m5:Nat)(K:KvP)(s:Hq):Prop:=
 oK (qAB .add t76 (.int .i64 1)) λW50=>∃m',m'<m5/\I5 [W50] s m'
def qCQ(X:Td)(t90:AV)(I7:IvP)(m7:Nat)(I5:IvP)(m5:Nat)(K:KvP)(s:Hq):Prop:=
 oK (qAB .add t90 (.int .i64 1)) λW73=>∃m',m'<m7/\I7 [W73] s m'
def qD6(X:Td)(t90 t106 t111 t116:AV)(I7:IvP)(m7:Nat)(I5:IvP)(m5:Nat)(K:KvP)(s:Hq):Prop:=
 oK (qAS t111 (.bool true) t116) λW84=>oK (qAj t106) λW85=>oK (qAF 1 W85) λW86=>oK (wr1 s W86 W84) λS87=>qCQ X t90 I7 m7 I5 m5 K S87
def qFR(X:Td)(x10 r16 t76 t88 t89 t90:AV)(I7:IvP)(m7:Nat)(I5:IvP)(m5:Nat)(K:KvP)(s:Hq):Prop:=
 oK (qAB .lss t90 t89) λW68=>qAJ W68
 (oK (qAH 1 t88 t90) λW69=>oK (rd1 s W69) λW70=>oK (getM s x10 W70) λr_71=>oK (negB true (eqV 3 true (retM .nilptr false r_71) .nilptr)) λW72=>qAJ W72
 (oK (qAj (retM .nilptr false r_71)) λW74=>oK (qAF 0 W74) λW75=>oK (rd1 s W75) λW76=>oK (qAF 21 r16) λW77=>oK (qAF 2 W77) λW78=>oK (rd1 s W78) λW79=>oK (putM s W76 W79 (.bool true)) λS80=>oK (qAj (retM .nilptr false r_71)) λW81=>oK (qAF 1 W81) λW82=>oK (rd1 S80 W82) λW83=>qAJ W83
 (qD6 X t90 (retM .nilptr false r_71) W83 .undef I7 m7 I5 m5 K S80)
 (oK (qAF 21 r16) λW88=>oK (qAF 11 W88) λW89=>oK (qAF 0 W89) λW90=>oK (rd1 S80 W90) λW91=>oK (negB false (eqV 0 true W91 (.int .i64 3))) λW92=>qD6 X t90 (retM .nilptr false r_71) W83 W92 I7 m7 I5 m5 K S80))
 (qCQ X t90 I7 m7 I5 m5 K s))
 (qC9 X t76 I5 m5 K s)
def qDk(X:Td)(l20 t125:AV)(I10:IvP)(m10:Nat)(K:KvP)(s:Hq):Prop:=
 oK (qAB .add t125 (.int .i64 1)) λW98=>∃m',m'<m10/\I10 [l20,W98] s m'
def qDr(X:Td)(l20 x24 t125:AV)(I10:IvP)(m10:Nat)(K:KvP)(s:Hq):Prop:=
 oK (rdN s 3 x24) λW122=>oK (qBC (repl 1 [(.int .i64 0),.nilslc,(.int .u32 0)]) [(0,3,(.agg W122))]) λC123=>qAZ C123=true/\newK 44 C123 (λB124 S125=>appK 44 3 l20 (.slc B124 0 1 (some 1) 3) (λW126 S127=>qDk X W126 t125 I10 m10 K S127) S125) s
def qDp(X:Td)(l20 i21 x24 t125 t146 t150:AV)(I10:IvP)(m10:Nat)(K:KvP)(s:Hq):Prop:=
 oK (qAS t146 t150 (.bool false)) λW121=>qAJ W121
 (oK (qB6 .u32 i21) λW128=>oK (qAB .add (.int .u32 4009754625) W128) λW129=>oK (qAF 2 x24) λW130=>oK (wr1 s W130 W129) λS131=>qDr X l20 x24 t125 I10 m10 K S131)
 (qDr X l20 x24 t125 I10 m10 K s)
def qE0(X:Td)(t3 x10 l20 t123 t124 t125:AV)(I10:IvP)(m10:Nat)(K:KvP)(s:Hq):Prop:=
 oK (qAB .lss t125 t124) λW97=>qAJ W97
 (oK (qAH 6 t123 t125) λW99=>oK (rdN s 6 W99) λW100=>newK 87 [(.int .i64 0),(.int .u32 0),(.int .u32 0),(.int .u32 0),(.int .i64 0),(.int .u32 0)] (λB101 S102=>oK (qBS S102 6 (.ptr B101 0) (.agg W100)) λS103=>oK (qAF 2 (.ptr B101 0)) λW104=>oK (rd1 S103 W104) λW105=>oK (getM S103 x10 W105) λr_106=>oK (negB false (eqV 3 true (retM .nilptr false r_106) .nilptr)) λW107=>qAJ W107
 (qDk X l20 t125 I10 m10 K S103)
 (oK (qAj (retM .nilptr false r_106)) λW108=>oK (qAF 0 W108) λW109=>oK (rd1 S103 W109) λW110=>wC TP X 36 [W110] (λW111 S112=>wC TP X 35 [W111] (λW113 S114=>oK (qBC [(.int .i64 0),.nilslc,(.int .u32 0)] [(0,1,t125),(1,1,W113)]) λC115=>newK 44 [(.int .i64 0),.nilslc,(.int .u32 0)] (λB116 S117=>oK (qBS S117 3 (.ptr B116 0) (.agg C115)) λS118=>oK (qAF 12 t3) λW119=>oK (rd1 S118 W119) λW120=>qAJ W120
 (oK (qAj (retM .nilptr false r_106)) λW132=>oK (qAF 1 W132) λW133=>oK (rd1 S118 W133) λW134=>qDp X l20 t125 (.ptr B116 0) t125 W120 W134 I10 m10 K S118)
 (qDp X l20 t125 (.ptr B116 0) t125 W120 .undef I10 m10 K S118)) S114) S112) S103)) s)
 (K l20 s)
def qFS(X:Td)(x1 t3 x10 t74 t75 t76:AV)(I5:IvP)(m5:Nat)(K:KvP)(s:Hq):Prop:=
 oK (qAB .lss t76 t75) λW49=>qAJ W49
 (oK (qAH 38 t74 t76) λW51=>oK (rdN s 38 W51) λW52=>newK 81 zR0 (λB53 S54=>oK (qBS S54 38 (.ptr B53 0) (.agg W52)) λS55=>oK (rdN S55 19 t3) λW56=>oK (rdN S55 38 (.ptr B53 0)) λW57=>wC TP X 33 [(.agg W56),x1,(.agg W57)] (λW58 S59=>oK (qBV .not W58) λW60=>qAJ W60
 (qC9 X t76 I5 m5 K S59)
 (oK (qAF 21 (.ptr B53 0)) λW61=>oK (qAF 10 W61) λW62=>oK (rd1 S59 W62) λW63=>wC TP X 34 [W63] (λW64 S65=>oK (qAP W64) λW66=>∃I7:IvP,(∃m,I7 [(.int .i64 0)] S65 m)/\∀(f:Env) (s:Hq) (m7:Nat),I7 [f 90] s m7->
 qFR X x10 (.ptr B53 0) t76 W64 (.int .i64 W66) (f 90) I7 m7 I5 m5 K s) S59)) S55) s)
 (oK (qAF 4 t3) λW93=>oK (rd1 s W93) λW94=>oK (qAP W94) λW95=>∃I10:IvP,(∃m,I10 [.nilslc,(.int .i64 0)] s m)/\∀(f:Env) (s:Hq) (m10:Nat),I10 [f 20,f 125] s m10->
 qE0 X t3 x10 (f 20) W94 (.int .i64 W95) (f 125) I10 m10 K s)
def qFK(X:Td)(x1 routes2 t3 x10 t45 t46 t47:AV)(I2:IvP)(m2:Nat)(K:KvP)(s:Hq):Prop:=
 oK (qAB .lss t47 t46) λW17=>qAJ W17
 (oK (qAH 2 t45 t47) λW18=>oK (rdN s 2 W18) λW19=>newK 94 [.nilslc,.nilslc] (λB20 S21=>oK (qBS S21 2 (.ptr B20 0) (.agg W19)) λS22=>oK (qAF 0 (.ptr B20 0)) λW23=>oK (rd1 S22 W23) λW24=>wC TP X 32 [W24,x1] (λW25 S26=>qAJ W25
 (oK (qAF 1 (.ptr B20 0)) λW28=>oK (rd1 S26 W28) λW29=>oK (qAP W29) λW30=>∃I4:IvP,(∃m,I4 [(.int .i64 0)] S26 m)/\∀(f:Env) (s:Hq) (m4:Nat),I4 [f 58] s m4->
 qHQ X t3 x10 t47 W29 (.int .i64 W30) (f 58) I4 m4 I2 m2 K s)
 (qD8 X t47 I2 m2 K S26)) S22) s)
 (oK (qAP routes2) λW47=>∃I5:IvP,(∃m,I5 [(.int .i64 0)] s m)/\∀(f:Env) (s:Hq) (m5:Nat),I5 [f 76] s m5->
 qFS X x1 t3 x10 routes2 (.int .i64 W47) (f 76) I5 m5 K s)
def qCO(X:Td)(x1 routes2 t3 t37 t41:AV)(K:KvP)(s:Hq):Prop:=
 oK (qAS t37 (.bool true) t41) λW10=>qAJ W10
 (K .nilslc s)
 (mapK (λW11 S12=>oK (qAF 5 t3) λW13=>oK (rd1 S12 W13) λW14=>oK (qAP W14) λW15=>∃I2:IvP,(∃m,I2 [(.int .i64 0)] S12 m)/\∀(f:Env) (s:Hq) (m2:Nat),I2 [f 47] s m2->
 qFK X x1 routes2 t3 W11 W14 (.int .i64 W15) (f 47) I2 m2 K s) s)
def qC8(X:Td)(x1 routes2 t3 t33 t35:AV)(K:KvP)(s:Hq):Prop:=
 oK (qAS t33 (.bool true) t35) λW9=>qAJ W9
 (qCO X x1 routes2 t3 W9 .undef K s)
 (oK (qAF 0 t3) λW135=>oK (rd1 s W135) λW136=>oK (qAB .geq x1 W136) λW137=>qCO X x1 routes2 t3 W9 W137 K s)
def qN9(X:Td)(t0 x1 routes2:AV)(K:KvP)(s:Hq):Prop:=
 boxK 31 t0 (λB0 S1=>oK (rdN S1 19 B0) λW2=>wC TP X 31 [(.agg W2)] (λW3 S4=>oK (qAh W3 0) λW5=>oK (qAh W3 1) λW6=>oK (qAh W3 2) λW7=>oK (negB true (eqV 0 true W5 (.int .i64 0))) λW8=>qAJ W8
 (qC8 X x1 routes2 B0 W8 .undef K S4)
 (oK (qAB .lss x1 (.int .i64 0)) λW138=>qC8 X x1 routes2 B0 W8 W138 K S4)) S1) s
def qKW:Nat->List Nat:=λk=>cond (Nat.beq k 12) [47] (cond (Nat.beq k 20) [58] (cond (Nat.beq k 32) [76] (cond (Nat.beq k 40) [90] (cond (Nat.beq k 60) [20,125] ([])))))
theorem qLP{t0 x1 routes2:AV}{K:KvP}{s:Hq}(h:qN9 XX t0 x1 routes2 K s):wC TP XX 12 [t0,x1,routes2] K s:=wOK qBz qKW rfl Tryz.func12 h
end Go.AM
namespace Go.AM
open Go Go.Proofs
set_option maxRecDepth 100000
def qG5(X:Td)(t41 t44:AV)(K:KvP)(s:Hq):Prop:=
 oK (qAS t41 t44 (.bool false)) λW17=>K W17 s
def qGm(X:Td)(x1 n7 t35 t39:AV)(K:KvP)(s:Hq):Prop:=
 oK (qAS t35 t39 (.bool false)) λW16=>qAJ W16
 (oK (negB true (eqV 0 false n7 x1)) λW18=>qG5 X W16 W18 K s)
 (qG5 X W16 .undef K s)
def qCk(X:Td)(t41 t44:AV)(K:KvP)(s:Hq):Prop:=
 oK (qAS t41 t44 (.bool false)) λW37=>K W37 s
def qDm(X:Td)(x1 n7 t35 t39:AV)(K:KvP)(s:Hq):Prop:=
 oK (qAS t35 t39 (.bool false)) λW36=>qAJ W36
 (oK (negB true (eqV 0 false n7 x1)) λW38=>qCk X W36 W38 K s)
 (qCk X W36 .undef K s)
def qCn(X:Td)(x1 t3 r5 t13 t19 t24:AV)(K:KvP)(s:Hq):Prop:=
 oK (qAS t19 t24 (.bool false)) λW27=>oK (qAS t13 (.bool true) W27) λW28=>qAJ W28
 (K (.bool false) s)
 (oK (qAF 21 r5) λW29=>oK (qAF 2 W29) λW30=>oK (rd1 s W30) λW31=>wC TP X 30 [W31] (λW32 S33=>oK (qAh W32 0) λW34=>oK (qAh W32 1) λW35=>qAJ W35
 (oK (qAF 0 t3) λW39=>oK (rd1 S33 W39) λW40=>oK (qAB .lss W34 W40) λW41=>qDm X x1 W34 W35 W41 K S33)
 (qDm X x1 W34 W35 .undef K S33)) s)
def qNW(X:Td)(t0 x1 r2:AV)(K:KvP)(s:Hq):Prop:=
 boxK 31 t0 (λB0 S1=>boxK 81 r2 (λB2 S3=>oK (qAF 0 B2) λW4=>oK (qAF 0 W4) λW5=>oK (rd1 S3 W5) λW6=>oK (negB true (eqV 0 true W6 (.int .i64 3))) λW7=>qAJ W7
 (oK (qAS W7 (.bool true) .undef) λW8=>qAJ W8
 (K (.bool false) S3)
 (oK (qAF 21 B2) λW9=>oK (qAF 2 W9) λW10=>oK (rd1 S3 W10) λW11=>wC TP X 30 [W11] (λW12 S13=>oK (qAh W12 0) λW14=>oK (qAh W12 1) λW15=>qAJ W15
 (oK (qAF 0 B0) λW19=>oK (rd1 S13 W19) λW20=>oK (qAB .lss W14 W20) λW21=>qGm X x1 W14 W15 W21 K S13)
 (qGm X x1 W14 W15 .undef K S13)) S3))
 (oK (qAF 21 B2) λW22=>oK (qAF 11 W22) λW23=>oK (qAF 0 W23) λW24=>oK (rd1 S3 W24) λW25=>oK (negB true (eqV 0 true W25 (.int .i64 6))) λW26=>qAJ W26
 (oK (qAF 21 B2) λW42=>oK (qAF 11 W42) λW43=>oK (qAF 0 W43) λW44=>oK (rd1 S3 W44) λW45=>oK (negB true (eqV 0 true W45 (.int .i64 3))) λW46=>qCn X x1 B0 B2 W7 W26 W46 K S3)
 (qCn X x1 B0 B2 W7 W26 .undef K S3))) S1) s
theorem qKb{t0 x1 r2:AV}{K:KvP}{s:Hq}(h:qNW XX t0 x1 r2 K s):wC TP XX 33 [t0,x1,r2] K s:=wOK qBz nA0 rfl Tryz.func33 h
def qCg(X:Td)(x3 t8:AV)(I0:IvP)(m0:Nat)(K:KvP)(s:Hq):Prop:=
 oK (qAB .add t8 (.int .i64 1)) λW13=>∃m',m'<m0/\I0 [x3,W13] s m'
def qDj(X:Td)(x3 c5 t8 t15 t18:AV)(I0:IvP)(m0:Nat)(K:KvP)(s:Hq):Prop:=
 oK (qAS t15 t18 (.bool false)) λW12=>qAJ W12
 (oK (rdN s 8 c5) λW14=>wC TP X 65 [(.agg W14),(.int .i64 4),(.int .i64 4)] (λW15 S16=>oK (qB6 .u32 W15) λW17=>oK (qBC (repl 1 [(.int .u32 0)]) [(0,1,W17)]) λC18=>qAZ C18=true/\newK 41 C18 (λB19 S20=>appK 41 1 x3 (.slc B19 0 1 (some 1) 1) (λW21 S22=>qCg X W21 t8 I0 m0 K S22) S20) S16) s)
 (qCg X x3 t8 I0 m0 K s)
def qGl(X:Td)(x3 t6 t7 t8:AV)(I0:IvP)(m0:Nat)(K:KvP)(s:Hq):Prop:=
 oK (qAB .lss t8 t7) λW2=>qAJ W2
 (oK (qAH 8 t6 t8) λW3=>oK (rdN s 8 W3) λW4=>newK 129 [(.int .u8 0),(.int .u8 0),(.int .u8 0),(.int .u8 0),(.int .u8 0),(.int .u8 0),(.int .u8 0),(.int .u8 0)] (λB5 S6=>oK (qBS S6 8 (.ptr B5 0) (.agg W4)) λS7=>oK (rdN S7 8 (.ptr B5 0)) λW8=>wC TP X 64 [(.agg W8)] (λW9 S10=>oK (negB false (eqV 0 true W9 (.int .i64 1))) λW11=>qAJ W11
 (oK (rdN S10 8 (.ptr B5 0)) λW23=>wC TP X 65 [(.agg W23),(.int .i64 2),(.int .i64 2)] (λW24 S25=>oK (negB false (eqV 0 true W24 (.int .u64 65000))) λW26=>qDj X x3 (.ptr B5 0) t8 W11 W26 I0 m0 K S25) S10)
 (qDj X x3 (.ptr B5 0) t8 W11 .undef I0 m0 K S10)) S7) s)
 (wC TP X 66 [x3] (λW27 S28=>wC TP X 67 [x3] (λW29 S30=>K W29 S30) S28) s)
def qI6(X:Td)(l0:AV)(K:KvP)(s:Hq):Prop:=
 oK (qAP l0) λW0=>∃I0:IvP,(∃m,I0 [.nilslc,(.int .i64 0)] s m)/\∀(f:Env) (s:Hq) (m0:Nat),I0 [f 3,f 8] s m0->
 qGl X (f 3) l0 (.int .i64 W0) (f 8) I0 m0 K s
def qJz:Nat->List Nat:=λk=>cond (Nat.beq k 6) [3,8] ([])
theorem qKt{l0:AV}{K:KvP}{s:Hq}(h:qI6 XX l0 K s):wC TP XX 34 [l0] K s:=wOK qBz qJz rfl Tryz.func34 h
def qEw(X:Td)(l0 n1 i5:AV)(I0:IvP)(m0:Nat)(K:KvP)(s:Hq):Prop:=
 oK (qAP l0) λW0=>oK (qAB .lss i5 (.int .i64 W0)) λW2=>qAJ W2
 (oK (qAH 1 l0 i5) λW3=>oK (rd1 s W3) λW4=>oK (negB false (eqV 0 false W4 n1)) λW5=>qAJ W5
 (K (.bool true) s)
 (oK (qAB .add i5 (.int .i64 1)) λW6=>∃m',m'<m0/\I0 [W6] s m'))
 (K (.bool false) s)
def qF1(X:Td)(l0 n1:AV)(K:KvP)(s:Hq):Prop:=
 ∃I0:IvP,(∃m,I0 [(.int .i64 0)] s m)/\∀(f:Env) (s:Hq) (m0:Nat),I0 [f 5] s m0->
 qEw X l0 n1 (f 5) I0 m0 K s
def qHZ:Nat->List Nat:=λk=>cond (Nat.beq k 4) [5] ([])
theorem qH3{l0 n1:AV}{K:KvP}{s:Hq}(h:qF1 XX l0 n1 K s):wC TP XX 38 [l0,n1] K s:=wOK qBz qHZ rfl Tryz.func38 h
def qEq(X:Td)(ip0 t6 t8:AV)(K:KvP)(s:Hq):Prop:=
 oK (qAS t6 (.bool true) t8) λW1=>qAJ W1
 (K (.tup [(.int .i64 0),(.bool false)]) s)
 (oK (qAB .sub ip0 (.int .u32 184483840)) λW2=>oK (qAB .sub W2 (.int .u32 1)) λW3=>oK (qB6 .i64 W3) λW4=>K (.tup [W4,(.bool true)]) s)
def qLx(X:Td)(ip0:AV)(K:KvP)(s:Hq):Prop:=
 oK (qAB .leq ip0 (.int .u32 184483840)) λW0=>qAJ W0
 (qEq X ip0 W0 .undef K s)
 (oK (qAB .gtr ip0 (.int .u32 184483872)) λW5=>qEq X ip0 W0 W5 K s)
theorem qNp{ip0:AV}{K:KvP}{s:Hq}(h:qLx XX ip0 K s):wC TP XX 30 [ip0] K s:=wOK qBz nA0 rfl Tryz.func30 h
def qBM(X:Td)(k3 k25:AV)(I1:IvP)(m1:Nat)(I0:IvP)(m0:Nat)(K:KvP)(s:Hq):Prop:=
 oK (qAB .add k25 (.int .i64 1)) λW22=>∃m',m'<m1/\I1 [k3,W22] s m'
def qDQ(X:Td)(t0 k3 s24 k25:AV)(I1:IvP)(m1:Nat)(I0:IvP)(m0:Nat)(K:KvP)(s:Hq):Prop:=
 oK (qAP s24) λW13=>oK (qAB .lss k25 (.int .i64 W13)) λW15=>qAJ W15
 (oK (qAH 1 s24 k25) λW16=>oK (rd1 s W16) λW17=>oK (qAB .sub k25 (.int .i64 1)) λW18=>oK (qAH 1 s24 W18) λW19=>oK (rd1 s W19) λW20=>oK (negB true (eqV 0 false W17 W20)) λW21=>qAJ W21
 (oK (qAH 1 s24 k25) λW23=>oK (rd1 s W23) λW24=>oK (qAH 1 t0 k3) λW25=>oK (wr1 s W25 W24) λS26=>oK (qAB .add k3 (.int .i64 1)) λW27=>qBM X W27 k25 I1 m1 I0 m0 K S26)
 (qBM X k3 k25 I1 m1 I0 m0 K s))
 (oK (qCM 1 t0 (some k3) none none) λW28=>qRG [(.int .u32 0)] 1 W28 (λW29 S30=>oK (qCM 1 t0 none (some k3) none) λW31=>K W31 S30) s)
def qDI(X:Td)(t0 k3:AV)(I0:IvP)(m0:Nat)(K:KvP)(s:Hq):Prop:=
 oK (qAP t0) λW3=>oK (qAB .lss k3 (.int .i64 W3)) λW5=>qAJ W5
 (oK (qAH 1 t0 k3) λW6=>oK (rd1 s W6) λW7=>oK (qAB .sub k3 (.int .i64 1)) λW8=>oK (qAH 1 t0 W8) λW9=>oK (rd1 s W9) λW10=>oK (negB false (eqV 0 false W7 W10)) λW11=>qAJ W11
 (oK (qCM 1 t0 (some k3) none none) λW12=>∃I1:IvP,(∃m,I1 [k3,(.int .i64 1)] s m)/\∀(f:Env) (s:Hq) (m1:Nat),I1 [f 3,f 5] s m1->
 qDQ X t0 (f 3) W12 (f 5) I1 m1 I0 m0 K s)
 (oK (qAB .add k3 (.int .i64 1)) λW32=>∃m',m'<m0/\I0 [W32] s m'))
 (K t0 s)
def qD2(X:Td)(t0:AV)(K:KvP)(s:Hq):Prop:=
 oK (qAP t0) λW0=>oK (qAB .lss (.int .i64 W0) (.int .i64 2)) λW2=>qAJ W2
 (K t0 s)
 (∃I0:IvP,(∃m,I0 [(.int .i64 1)] s m)/\∀(f:Env) (s:Hq) (m0:Nat),I0 [f 3] s m0->
 qDI X t0 (f 3) I0 m0 K s)
def qFQ:Nat->List Nat:=λk=>cond (Nat.beq k 8) [3] (cond (Nat.beq k 18) [3,5] ([]))
theorem qFj{t0:AV}{K:KvP}{s:Hq}(h:qD2 XX t0 K s):wC TP XX 67 [t0] K s:=wOK qBz qFQ rfl Tryz.func67 h
end Go.AM
