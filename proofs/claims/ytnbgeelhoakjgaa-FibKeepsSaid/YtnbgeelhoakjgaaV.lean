/- Part V of a calculus over a small memory that is proved to answer as the program does, and of its use for the functions that the law reaches: see the last part. -/
import Derived.Test.YtnbgeelhoakjgaaU1
import Derived.Test.YtnbgeelhoakjgaaProg
import Derived.KernelRfl
set_option linter.unusedVariables false
namespace Go.AM
open Go Go.Proofs
abbrev zR0:List AV:=[(.int .i64 0),(.int .u64 0),(.int .u8 0),(.int .u8 0),(.int .u8 0),(.int .u8 0),(.int .u8 0),(.int .u8 0),(.int .u8 0),(.int .u8 0),(.int .u8 0),(.int .u8 0),(.int .u32 0),(.int .u64 0),(.int .u32 0),(.bool false),(.int .u32 0),(.int .i64 0),(.int .u32 0),(.int .u32 0),(.int .u32 0),(.int .i64 0),.nilslc,(.int .u32 0),(.bool false),(.int .u32 0),(.bool false),(.int .u32 0),(.bool false),(.int .u32 0),.nilslc,.nilslc,(.int .i64 0),(.int .u32 0),(.int .u32 0),(.int .u32 0),(.int .u32 0),(.bool false)]
abbrev zR1:List AV:=[(.int .i64 0),(.int .i64 0),.nilslc,.nilslc,.nilslc,.nilslc,.nilslc,.nilslc,(.int .i64 0),(.int .i64 0),(.int .i64 0),(.bool false),(.bool false),(.int .i64 0),(.int .i64 0),(.int .i64 0),(.int .i64 0),(.int .i64 0),(.int .i64 0)]
abbrev IvP:=List AV→Hq→Nat→Prop
abbrev KvP:=AV→Hq→Prop
abbrev LvP:=List Nat→List AV→Hq→Prop
set_option maxRecDepth 100000
abbrev XX:Td:=closedX [9,4]
theorem qA4:FrX XX:=qNV _
def qLM (X:Td)(l0:AV) (K:KvP) (s:Hq):Prop:=
 oK (qBP (repl 0 [(.bool false)]) []) λC0=>qAX C0=true∧newK 4 C0 (λB1 S2=>appK 4 1 (.slc B1 0 0 (some 0) 1) l0 (λV3 S4=>K V3 S4) S2) s
def qLX:Nat→List Nat:=λ_=>[]
theorem qM3 {X:Td} (hX:FrX X) (hn:X 11=none) {l0:AV} {K:KvP} {s:Hq} (h:qLM X l0 K s):wC Try.prog X 11 [l0] K s:=
 qAF hX qLX hn Try.func11 (by kernel_rfl:Try.f11.body=some (qAN Try.f11)) (by kernel_rfl) (Eq.mpr (by kernel_rfl) h)
theorem qM2 {l0:AV} {K:KvP} {s:Hq} (h:qLM XX l0 K s):wC Try.prog XX 11 [l0] K s:=qM3 qA4 rfl h
def qEI (X:Td)(l9 t20:AV) (I0:IvP) (m0:Nat) (K:KvP) (s:Hq):Prop:=
 oK (qAJ .add t20 (.int .i64 1)) λV5=>∃ m',m' < m0∧I0 [l9,V5] s m'
def qER (X:Td)(nodes0 links1 up2 self3 l9 n10 t20 t28 t30:AV) (I0:IvP) (m0:Nat) (K:KvP) (s:Hq):Prop:=
 oK (qB4 t28 (.bool true) t30) λV9=>qAU V9
 (qEI X l9 t20 I0 m0 K s)
 (wC Try.prog X 36 [n10] (λV10 S11=>oK (qAG V10 0) λV12=>oK (qAG V10 1) λV13=>oK (negB false (eqV 0 true V13 (.int .i64 0))) λV14=>qAU V14
 (wC Try.prog X 30 [nodes0,links1,up2,self3,n10] (λV15 S16=>oK (qBP [(.int .u32 0),.nilslc] [(0,1,V12),(1,1,V15)]) λC17=>oK (qBP (repl 1 [(.int .u32 0),.nilslc]) [(0,2,(.agg C17))]) λC18=>qAX C18=true∧newK 86 C18 (λB19 S20=>appK 86 2 l9 (.slc B19 0 1 (some 1) 2) (λV21 S22=>qEI X V21 t20 I0 m0 K S22) S20) S16) S11)
 (qEI X l9 t20 I0 m0 K S11)) s)
def qH4 (X:Td)(nodes0 links1 up2 self3 l9 t18 t19 t20:AV) (I0:IvP) (m0:Nat) (K:KvP) (s:Hq):Prop:=
 oK (qAJ .lss t20 t19) λV4=>qAU V4
 (oK (qAV 1 t18 t20) λV6=>oK (rd1 s V6) λV7=>oK (negB false (eqV 0 false t20 self3)) λV8=>qAU V8
 (qER X nodes0 links1 up2 self3 l9 t20 t20 V8 .undef I0 m0 K s)
 (oK (qAJ .lss V7 (.int .i64 0)) λV23=>qER X nodes0 links1 up2 self3 l9 t20 t20 V8 V23 I0 m0 K s))
 (K l9 s)
def qPR (X:Td)(nodes0 links1 up2 self3:AV) (K:KvP) (s:Hq):Prop:=
 wC Try.prog X 28 [nodes0,links1,up2,self3] (λV0 S1=>oK (qAg V0) λV2=>∃ I0:IvP,(∃ m,I0 [.nilslc,(.int .i64 0)] S1 m)∧∀ (f:Env) (s:Hq) (m0:Nat),I0 [f 9,f 20] s m0→
 qH4 X nodes0 links1 up2 self3 (f 9) V0 (.int .i64 V2) (f 20) I0 m0 K s) s
def qOm:Nat→List Nat:=λk=>cond (Nat.beq k 6) [9,20] ([])
theorem qPh {X:Td} (hX:FrX X) (hn:X 13=none) {nodes0 links1 up2 self3:AV} {K:KvP} {s:Hq} (h:qPR X nodes0 links1 up2 self3 K s):wC Try.prog X 13 [nodes0,links1,up2,self3] K s:=
 qAF hX qOm hn Try.func13 (by kernel_rfl:Try.f13.body=some (qAN Try.f13)) (by kernel_rfl) (Eq.mpr (by kernel_rfl) h)
theorem qPp {nodes0 links1 up2 self3:AV} {K:KvP} {s:Hq} (h:qPR XX nodes0 links1 up2 self3 K s):wC Try.prog XX 13 [nodes0,links1,up2,self3] K s:=qPh qA4 rfl h
def qMx (X:Td)(nodes0 links1 up2 t3:AV) (K:KvP) (s:Hq):Prop:=
 oK (qBP (repl 1 [(.int .i64 0)]) [(0,1,t3)]) λC0=>qAX C0=true∧newK 3 C0 (λB1 S2=>wC Try.prog X 47 [nodes0,links1,up2,(.slc B1 0 1 (some 1) 1)] (λV3 S4=>oK (qBo .not V3) λV5=>qAU V5
 (K .nilslc S4)
 (wC Try.prog X 49 [nodes0,links1,up2] (λV6 S7=>wC Try.prog X 48 [V6,t3] (λV8 S9=>K V8 S9) S7) S4)) S2) s
def qMy:Nat→List Nat:=λ_=>[]
theorem qNL {X:Td} (hX:FrX X) (hn:X 28=none) {nodes0 links1 up2 t3:AV} {K:KvP} {s:Hq} (h:qMx X nodes0 links1 up2 t3 K s):wC Try.prog X 28 [nodes0,links1,up2,t3] K s:=
 qAF hX qMy hn Try.func28 (by kernel_rfl:Try.f28.body=some (qAN Try.f28)) (by kernel_rfl) (Eq.mpr (by kernel_rfl) h)
theorem qNQ {nodes0 links1 up2 t3:AV} {K:KvP} {s:Hq} (h:qMx XX nodes0 links1 up2 t3 K s):wC Try.prog XX 28 [nodes0,links1,up2,t3] K s:=qNL qA4 rfl h
def qI2 (X:Td)(first12 t35 t36 t37:AV) (I0:IvP) (m0:Nat) (K:KvP) (s:Hq):Prop:=
 oK (qAJ .lss t37 t36) λV16=>qAU V16
 (oK (qAV 3 t35 t37) λV17=>oK (rdN s 3 V17) λV18=>newK 106 [(.int .i64 0),(.int .i64 0),(.int .i64 0)] (λB19 S20=>oK (qBs S20 3 (.ptr B19 0) (.agg V18)) λS21=>oK (qAK 0 (.ptr B19 0)) λV22=>oK (rd1 S21 V22) λV23=>oK (qBP (repl 1 [(.int .i64 0)]) [(0,1,V23)]) λC24=>qAX C24=true∧newK 3 C24 (λB25 S26=>appK 3 1 first12 (.slc B25 0 1 (some 1) 1) (λV27 S28=>oK (qAJ .add t37 (.int .i64 1)) λV29=>∃ m',m' < m0∧I0 [V27,V29] S28 m') S26) S21) s)
 (K first12 s)
def qM1 (X:Td)(nodes0 links1 up2 t3 t4:AV) (K:KvP) (s:Hq):Prop:=
 oK (qBP (repl 2 [(.int .i64 0)]) [(0,1,t3),(1,1,t4)]) λC0=>qAX C0=true∧newK 3 C0 (λB1 S2=>wC Try.prog X 47 [nodes0,links1,up2,(.slc B1 0 2 (some 2) 1)] (λV3 S4=>oK (qBo .not V3) λV5=>qAU V5
 (K .nilslc S4)
 (wC Try.prog X 49 [nodes0,links1,up2] (λV6 S7=>oK (qAV 1 V6 t3) λV8=>oK (rd1 S7 V8) λV9=>wC Try.prog X 48 [V6,t4] (λV10 S11=>(∀ b,S7 b≠none→S7 b=none→S11 b=none)→
 wC Try.prog X 50 [V9,V10,t3] (λV12 S13=>oK (qAg V12) λV14=>∃ I0:IvP,(∃ m,I0 [.nilslc,(.int .i64 0)] S13 m)∧∀ (f:Env) (s:Hq) (m0:Nat),I0 [f 12,f 37] s m0→
 qI2 X (f 12) V12 (.int .i64 V14) (f 37) I0 m0 K s) (add S7 S11)) (frz S7)) S4)) S2) s
def qME:Nat→List Nat:=λk=>cond (Nat.beq k 12) [12,37] ([])
theorem qNR {X:Td} (hX:FrX X) (hn:X 30=none) {nodes0 links1 up2 t3 t4:AV} {K:KvP} {s:Hq} (h:qM1 X nodes0 links1 up2 t3 t4 K s):wC Try.prog X 30 [nodes0,links1,up2,t3,t4] K s:=
 qAF hX qME hn Try.func30 (by kernel_rfl:Try.f30.body=some (qAN Try.f30)) (by kernel_rfl) (Eq.mpr (by kernel_rfl) h)
theorem qNB {nodes0 links1 up2 t3 t4:AV} {K:KvP} {s:Hq} (h:qM1 XX nodes0 links1 up2 t3 t4 K s):wC Try.prog XX 30 [nodes0,links1,up2,t3,t4] K s:=qNR qA4 rfl h
def qDF (X:Td)(n0 t6 t8:AV) (K:KvP) (s:Hq):Prop:=
 oK (qB4 t6 (.bool true) t8) λV1=>qAU V1
 (K (.tup [(.int .u32 0),(.int .i64 2)]) s)
 (oK (qGq .u32 n0) λV2=>oK (qAJ .add (.int .u32 184483840) V2) λV3=>oK (qAJ .add V3 (.int .u32 1)) λV4=>K (.tup [V4,(.int .i64 0)]) s)
def qEY (X:Td)(n0:AV) (K:KvP) (s:Hq):Prop:=
 oK (qAJ .lss n0 (.int .i64 0)) λV0=>qAU V0
 (qDF X n0 V0 .undef K s)
 (oK (qAJ .geq n0 (.int .i64 32)) λV5=>qDF X n0 V0 V5 K s)
def qIv:Nat→List Nat:=λ_=>[]
theorem qI7 {X:Td} (hX:FrX X) (hn:X 36=none) {n0:AV} {K:KvP} {s:Hq} (h:qEY X n0 K s):wC Try.prog X 36 [n0] K s:=
 qAF hX qIv hn Try.func36 (by kernel_rfl:Try.f36.body=some (qAN Try.f36)) (by kernel_rfl) (Eq.mpr (by kernel_rfl) h)
theorem qJG {n0:AV} {K:KvP} {s:Hq} (h:qEY XX n0 K s):wC Try.prog XX 36 [n0] K s:=qI7 qA4 rfl h
def qCb (X:Td)(t33 t59 t62:AV) (I3:IvP) (m3:Nat) (K:KvP) (s:Hq):Prop:=
 oK (qB4 t59 (.bool true) t62) λV22=>qAU V22
 (K (.bool false) s)
 (oK (qAJ .add t33 (.int .i64 1)) λV23=>∃ m',m' < m3∧I3 [V23] s m')
def qBp (X:Td)(l11 t33 t54 t57:AV) (I3:IvP) (m3:Nat) (K:KvP) (s:Hq):Prop:=
 oK (qB4 t54 (.bool true) t57) λV21=>qAU V21
 (qCb X t33 V21 .undef I3 m3 K s)
 (oK (qAK 2 l11) λV24=>oK (rd1 s V24) λV25=>oK (qAJ .gtr V25 (.int .i64 1000)) λV26=>qCb X t33 V21 V26 I3 m3 K s)
def qB7 (X:Td)(l11 t33 t47 t52:AV) (I3:IvP) (m3:Nat) (K:KvP) (s:Hq):Prop:=
 oK (qB4 t47 (.bool true) t52) λV20=>qAU V20
 (qBp X l11 t33 V20 .undef I3 m3 K s)
 (oK (qAK 2 l11) λV27=>oK (rd1 s V27) λV28=>oK (qAJ .lss V28 (.int .i64 1)) λV29=>qBp X l11 t33 V20 V29 I3 m3 K s)
def qCj (X:Td)(l11 t33 t41 t45:AV) (I3:IvP) (m3:Nat) (K:KvP) (s:Hq):Prop:=
 oK (qB4 t41 (.bool true) t45) λV19=>qAU V19
 (qB7 X l11 t33 V19 .undef I3 m3 K s)
 (oK (qAK 0 l11) λV30=>oK (rd1 s V30) λV31=>oK (qAK 1 l11) λV32=>oK (rd1 s V32) λV33=>oK (negB false (eqV 0 false V31 V33)) λV34=>qB7 X l11 t33 V19 V34 I3 m3 K s)
def qH3 (X:Td)(ends3 outside9 t31 t32 t33:AV) (I3:IvP) (m3:Nat) (K:KvP) (s:Hq):Prop:=
 oK (qAJ .lss t33 t32) λV9=>qAU V9
 (oK (qAV 3 t31 t33) λV10=>oK (rdN s 3 V10) λV11=>newK 27 [(.int .i64 0),(.int .i64 0),(.int .i64 0)] (λB12 S13=>oK (qBs S13 3 (.ptr B12 0) (.agg V11)) λS14=>oK (qAK 0 (.ptr B12 0)) λV15=>oK (rd1 S14 V15) λV16=>funK Try.prog X outside9 [V16] (λV17 S18=>qAU V17
 (qCj X (.ptr B12 0) t33 V17 .undef I3 m3 K S18)
 (oK (qAK 1 (.ptr B12 0)) λV35=>oK (rd1 S18 V35) λV36=>funK Try.prog X outside9 [V36] (λV37 S38=>qCj X (.ptr B12 0) t33 V17 V37 I3 m3 K S38) S18)) S14) s)
 (wC Try.prog X 71 [ends3,outside9] (λV39 S40=>oK (qBo .not V39) λV41=>K V41 S40) s)
def qBm (X:Td)(links1 ends3 nodes4 t23 t28:AV) (K:KvP) (s:Hq):Prop:=
 oK (qB4 t23 (.bool true) t28) λV6=>qAU V6
 (K (.bool false) s)
 (oK (qAg links1) λV7=>∃ I3:IvP,(∃ m,I3 [(.int .i64 0)] s m)∧∀ (f:Env) (s:Hq) (m3:Nat),I3 [f 33] s m3→
 qH3 X ends3 (.fn (.func 70) [] [nodes4]) links1 (.int .i64 V7) (f 33) I3 m3 K s)
def qCB (X:Td)(links1 up2 ends3 nodes4 t18 t21:AV) (K:KvP) (s:Hq):Prop:=
 oK (qB4 t18 (.bool true) t21) λV5=>qAU V5
 (qBm X links1 ends3 nodes4 V5 .undef K s)
 (oK (qAg up2) λV42=>oK (qAg links1) λV44=>oK (negB true (eqV 0 false (.int .i64 V42) (.int .i64 V44))) λV46=>qBm X links1 ends3 nodes4 V5 V46 K s)
def qCh (X:Td)(links1 up2 ends3 nodes4 t14 t16:AV) (K:KvP) (s:Hq):Prop:=
 oK (qB4 t14 (.bool true) t16) λV4=>qAU V4
 (qCB X links1 up2 ends3 nodes4 V4 .undef K s)
 (oK (qAg links1) λV47=>oK (qAJ .gtr (.int .i64 V47) (.int .i64 128)) λV49=>qCB X links1 up2 ends3 nodes4 V4 V49 K s)
def qLH (X:Td)(nodes0 links1 up2 ends3:AV) (K:KvP) (s:Hq):Prop:=
 boxK 3 nodes0 (λB0 S1=>oK (rd1 S1 B0) λV2=>oK (qAJ .lss V2 (.int .i64 1)) λV3=>qAU V3
 (qCh X links1 up2 ends3 B0 V3 .undef K S1)
 (oK (rd1 S1 B0) λV50=>oK (qAJ .gtr V50 (.int .i64 32)) λV51=>qCh X links1 up2 ends3 B0 V3 V51 K S1)) s
def qLT:Nat→List Nat:=λk=>cond (Nat.beq k 10) [33] ([])
theorem qMp {X:Td} (hX:FrX X) (hn:X 47=none) {nodes0 links1 up2 ends3:AV} {K:KvP} {s:Hq} (h:qLH X nodes0 links1 up2 ends3 K s):wC Try.prog X 47 [nodes0,links1,up2,ends3] K s:=
 qAF hX qLT hn Try.func47 (by kernel_rfl:Try.f47.body=some (qAN Try.f47)) (by kernel_rfl) (Eq.mpr (by kernel_rfl) h)
theorem qMH {nodes0 links1 up2 ends3:AV} {K:KvP} {s:Hq} (h:qLH XX nodes0 links1 up2 ends3 K s):wC Try.prog XX 47 [nodes0,links1,up2,ends3] K s:=qMp qA4 rfl h
def qCM (X:Td)(t58:AV) (I2:IvP) (m2:Nat) (I1:IvP) (m1:Nat) (K:KvP) (s:Hq):Prop:=
 oK (qAJ .add t58 (.int .i64 1)) λV59=>∃ m',m' < m2∧I2 [V59] s m'
def qFN (X:Td)(dist5 q7 next8 t56 t57 t58:AV) (I2:IvP) (m2:Nat) (I1:IvP) (m1:Nat) (K:KvP) (s:Hq):Prop:=
 oK (qAJ .lss t58 t57) λV48=>qAU V48
 (oK (qAV 3 t56 t58) λV49=>oK (rdN s 3 V49) λV50=>newK 106 [(.int .i64 0),(.int .i64 0),(.int .i64 0)] (λB51 S52=>oK (qBs S52 3 (.ptr B51 0) (.agg V50)) λS53=>oK (qAK 1 (.ptr B51 0)) λV54=>oK (rd1 S53 V54) λV55=>oK (qAV 1 dist5 V55) λV56=>oK (rd1 S53 V56) λV57=>oK (qAJ .lss V57 (.int .i64 0)) λV58=>qAU V58
 (oK (qAK 1 (.ptr B51 0)) λV60=>oK (rd1 S53 V60) λV61=>oK (qAK 1 next8) λV62=>oK (rd1 S53 V62) λV63=>oK (qAK 2 (.ptr B51 0)) λV64=>oK (rd1 S53 V64) λV65=>oK (qAJ .add V63 V65) λV66=>oK (qBP [(.int .i64 0),(.int .i64 0)] [(0,1,V61),(1,1,V66)]) λC67=>wC Try.prog X 74 [(.ifc 130 q7),(.ifc 132 (.agg C67))] (λV68 S69=>qCM X t58 I2 m2 I1 m1 K S69) S53)
 (qCM X t58 I2 m2 I1 m1 K S53)) s)
 (∃ m',m' < m1∧I1 [] s m')
def qFA (X:Td)(all0 dist5 q7:AV) (I1:IvP) (m1:Nat) (K:KvP) (s:Hq):Prop:=
 oK (qAL q7) λV18=>oK (rd1 s V18) λV19=>wC Try.prog X 72 [V19] (λV20 S21=>oK (qAJ .gtr V20 (.int .i64 0)) λV22=>qAU V22
 (wC Try.prog X 73 [(.ifc 130 q7)] (λV23 S24=>oK (qQ6 132 (some (.agg [(.int .i64 0),(.int .i64 0)])) true V23) λV25=>oK (qAG V25 0) λV26=>oK (qAG V25 1) λV27=>newK 132 [(.int .i64 0),(.int .i64 0)] (λB28 S29=>oK (qBs S29 2 (.ptr B28 0) V26) λS30=>oK (qAK 0 (.ptr B28 0)) λV31=>oK (rd1 S30 V31) λV32=>oK (qAV 1 dist5 V32) λV33=>oK (rd1 S30 V33) λV34=>oK (qAJ .geq V34 (.int .i64 0)) λV35=>qAU V35
 (∃ m',m' < m1∧I1 [] S30 m')
 (oK (qAK 0 (.ptr B28 0)) λV36=>oK (rd1 S30 V36) λV37=>oK (qAK 1 (.ptr B28 0)) λV38=>oK (rd1 S30 V38) λV39=>oK (qAV 1 dist5 V37) λV40=>oK (wr1 S30 V40 V39) λS41=>oK (qAK 0 (.ptr B28 0)) λV42=>oK (rd1 S41 V42) λV43=>oK (qAV 1 all0 V43) λV44=>oK (rd1 S41 V44) λV45=>oK (qAg V45) λV46=>∃ I2:IvP,(∃ m,I2 [(.int .i64 0)] S41 m)∧∀ (f:Env) (s:Hq) (m2:Nat),I2 [f 58] s m2→
 qFN X dist5 q7 (.ptr B28 0) V45 (.int .i64 V46) (f 58) I2 m2 I1 m1 K s)) S24) S21)
 (K dist5 S21)) s
def qFB (X:Td)(all0 t1 dist5 t16 t17:AV) (I0:IvP) (m0:Nat) (K:KvP) (s:Hq):Prop:=
 oK (qAJ .lss t17 t16) λV8=>qAU V8
 (oK (qAV 1 dist5 t17) λV9=>oK (wr1 s V9 (.int .i64 (-1))) λS10=>oK (qAJ .add t17 (.int .i64 1)) λV11=>∃ m',m' < m0∧I0 [V11] S10 m')
 (oK (qBP [(.int .i64 0),(.int .i64 0)] [(0,1,t1),(1,1,(.int .i64 0))]) λC12=>oK (qBP (repl 1 [(.int .i64 0),(.int .i64 0)]) [(0,2,(.agg C12))]) λC13=>qAX C13=true∧newK 132 C13 (λB14 S15=>boxK 134 (.slc B14 0 1 (some 1) 2) (λB16 S17=>∃ I1:IvP,(∃ m,I1 [] S17 m)∧∀ (f:Env) (s:Hq) (m1:Nat),I1 [] s m1→
 qFA X all0 dist5 B16 I1 m1 K s) S15) s)
def qEc (X:Td)(all0 t1:AV) (K:KvP) (s:Hq):Prop:=
 oK (qAg all0) λV0=>oK (nat? (.int .i64 V0)) λn_2=>oK (nat? (.int .i64 V0)) λn_3=>(n_2≤n_3∧n_3≤4294967296)∧newK 3 (repl n_3 [(.int .i64 0)]) (λB4 S5=>oK (qAg (.slc B4 0 n_2 (some n_3) 1)) λV6=>∃ I0:IvP,(∃ m,I0 [(.int .i64 0)] S5 m)∧∀ (f:Env) (s:Hq) (m0:Nat),I0 [f 17] s m0→
 qFB X all0 t1 (.slc B4 0 n_2 (some n_3) 1) (.int .i64 V6) (f 17) I0 m0 K s) s
def qIo:Nat→List Nat:=λk=>cond (Nat.beq k 6) [17] (cond (Nat.beq k 16) [] (cond (Nat.beq k 26) [58] ([])))
theorem qJJ {X:Td} (hX:FrX X) (hn:X 48=none) {all0 t1:AV} {K:KvP} {s:Hq} (h:qEc X all0 t1 K s):wC Try.prog X 48 [all0,t1] K s:=
 qAF hX qIo hn Try.func48 (by kernel_rfl:Try.f48.body=some (qAN Try.f48)) (by kernel_rfl) (Eq.mpr (by kernel_rfl) h)
theorem qJV {all0 t1:AV} {K:KvP} {s:Hq} (h:qEc XX all0 t1 K s):wC Try.prog XX 48 [all0,t1] K s:=qJJ qA4 rfl h
def qDB (X:Td)(l7 t12:AV) (I0:IvP) (m0:Nat) (K:KvP) (s:Hq):Prop:=
 oK (qAJ .add t12 (.int .i64 1)) λV18=>∃ m',m' < m0∧I0 [l7,V18] s m'
def qHc (X:Td)(dist1 n2 l7 t10 t11 t12:AV) (I0:IvP) (m0:Nat) (K:KvP) (s:Hq):Prop:=
 oK (qAJ .lss t12 t11) λV2=>qAU V2
 (oK (qAV 3 t10 t12) λV3=>oK (rdN s 3 V3) λV4=>newK 106 [(.int .i64 0),(.int .i64 0),(.int .i64 0)] (λB5 S6=>oK (qBs S6 3 (.ptr B5 0) (.agg V4)) λS7=>oK (qAV 1 dist1 n2) λV8=>oK (rd1 S7 V8) λV9=>oK (qAK 1 (.ptr B5 0)) λV10=>oK (rd1 S7 V10) λV11=>oK (qAV 1 dist1 V11) λV12=>oK (rd1 S7 V12) λV13=>oK (qAK 2 (.ptr B5 0)) λV14=>oK (rd1 S7 V14) λV15=>oK (qAJ .add V13 V15) λV16=>oK (negB false (eqV 0 false V9 V16)) λV17=>qAU V17
 (oK (rdN S7 3 (.ptr B5 0)) λV19=>oK (qBP (repl 1 [(.int .i64 0),(.int .i64 0),(.int .i64 0)]) [(0,3,(.agg V19))]) λC20=>qAX C20=true∧newK 106 C20 (λB21 S22=>appK 106 3 l7 (.slc B21 0 1 (some 1) 3) (λV23 S24=>qDB X V23 t12 I0 m0 K S24) S22) S7)
 (qDB X l7 t12 I0 m0 K S7)) s)
 (K l7 s)
def qGu (X:Td)(t0 dist1 n2:AV) (K:KvP) (s:Hq):Prop:=
 oK (qAg t0) λV0=>∃ I0:IvP,(∃ m,I0 [.nilslc,(.int .i64 0)] s m)∧∀ (f:Env) (s:Hq) (m0:Nat),I0 [f 7,f 12] s m0→
 qHc X dist1 n2 (f 7) t0 (.int .i64 V0) (f 12) I0 m0 K s
def qKc:Nat→List Nat:=λk=>cond (Nat.beq k 6) [7,12] ([])
theorem qLZ {X:Td} (hX:FrX X) (hn:X 50=none) {t0 dist1 n2:AV} {K:KvP} {s:Hq} (h:qGu X t0 dist1 n2 K s):wC Try.prog X 50 [t0,dist1,n2] K s:=
 qAF hX qKc hn Try.func50 (by kernel_rfl:Try.f50.body=some (qAN Try.f50)) (by kernel_rfl) (Eq.mpr (by kernel_rfl) h)
theorem qLW {t0 dist1 n2:AV} {K:KvP} {s:Hq} (h:qGu XX t0 dist1 n2 K s):wC Try.prog XX 50 [t0,dist1,n2] K s:=qLZ qA4 rfl h
def qCm (X:Td)(t6 t9:AV) (K:KvP) (s:Hq):Prop:=
 oK (qB4 t6 (.bool true) t9) λV1=>K V1 s
def qFs (X:Td)(n0 t1:AV) (K:KvP) (s:Hq):Prop:=
 oK (qAJ .lss n0 (.int .i64 0)) λV0=>qAU V0
 (qCm X V0 .undef K s)
 (oK (rd1 s t1) λV2=>oK (qAJ .geq n0 V2) λV3=>qCm X V0 V3 K s)
def qJe:Nat→List Nat:=λ_=>[]
theorem qKe {X:Td} (hX:FrX X) (hn:X 70=none) {n0 t1:AV} {K:KvP} {s:Hq} (h:qFs X n0 t1 K s):wC Try.prog X 70 [n0,t1] K s:=
 qAF hX qJe hn Try.func70 (by kernel_rfl:Try.f70.body=some (qAN Try.f70)) (by kernel_rfl) (Eq.mpr (by kernel_rfl) h)
theorem qKZ {n0 t1:AV} {K:KvP} {s:Hq} (h:qFs XX n0 t1 K s):wC Try.prog XX 70 [n0,t1] K s:=qKe qA4 rfl h
def qCs (X:Td)(t0 t1:AV) (K:KvP) (s:Hq):Prop:=
 wC Try.prog X 83 [t0,t1] (λV0 S1=>oK (qAJ .geq V0 (.int .i64 0)) λV2=>K V2 S1) s
def qED:Nat→List Nat:=λ_=>[]
theorem qEU {X:Td} (hX:FrX X) (hn:X 71=none) {t0 t1:AV} {K:KvP} {s:Hq} (h:qCs X t0 t1 K s):wC Try.prog X 71 [t0,t1] K s:=
 qAF hX qED hn Try.func71 (by kernel_rfl:Try.f71.body=some (qAN Try.f71)) (by kernel_rfl) (Eq.mpr (by kernel_rfl) h)
theorem qEW {t0 t1:AV} {K:KvP} {s:Hq} (h:qCs XX t0 t1 K s):wC Try.prog XX 71 [t0,t1] K s:=qEU qA4 rfl h
def qC9 (X:Td)(q0:AV) (K:KvP) (s:Hq):Prop:=
 oK (qAg q0) λV0=>K (.int .i64 V0) s
def qIu:Nat→List Nat:=λ_=>[]
theorem qJM {X:Td} (hX:FrX X) (hn:X 72=none) {q0:AV} {K:KvP} {s:Hq} (h:qC9 X q0 K s):wC Try.prog X 72 [q0] K s:=
 qAF hX qIu hn Try.func72 (by kernel_rfl:Try.f72.body=some (qAN Try.f72)) (by kernel_rfl) (Eq.mpr (by kernel_rfl) h)
theorem qE6 {q0:AV} {K:KvP} {s:Hq} (h:qC9 XX q0 K s):wC Try.prog XX 72 [q0] K s:=qJM qA4 rfl h
def qEJ (X:Td)(h0:AV) (K:KvP) (s:Hq):Prop:=
 qDK Try.prog X h0 "Len" [] (λV0 S1=>oK (qAJ .sub V0 (.int .i64 1)) λV2=>qDK Try.prog X h0 "Swap" [(.int .i64 0),V2] (λV3 S4=>wC Try.prog X 84 [h0,(.int .i64 0),V2] (λV5 S6=>qDK Try.prog X h0 "Pop" [] (λV7 S8=>K V7 S8) S6) S4) S1) s
def qFz:Nat→List Nat:=λ_=>[]
theorem qGa {X:Td} (hX:FrX X) (hn:X 73=none) {h0:AV} {K:KvP} {s:Hq} (h:qEJ X h0 K s):wC Try.prog X 73 [h0] K s:=
 qAF hX qFz hn Try.func73 (by kernel_rfl:Try.f73.body=some (qAN Try.f73)) (by kernel_rfl) (Eq.mpr (by kernel_rfl) h)
theorem qGK {h0:AV} {K:KvP} {s:Hq} (h:qEJ XX h0 K s):wC Try.prog XX 73 [h0] K s:=qGa qA4 rfl h
def qDr (X:Td)(h0 x1:AV) (K:KvP) (s:Hq):Prop:=
 qDK Try.prog X h0 "Push" [x1] (λV0 S1=>qDK Try.prog X h0 "Len" [] (λV2 S3=>oK (qAJ .sub V2 (.int .i64 1)) λV4=>wC Try.prog X 85 [h0,V4] (λV5 S6=>K (.tup []) S6) S3) S1) s
def qFV:Nat→List Nat:=λ_=>[]
theorem qFx {X:Td} (hX:FrX X) (hn:X 74=none) {h0 x1:AV} {K:KvP} {s:Hq} (h:qDr X h0 x1 K s):wC Try.prog X 74 [h0,x1] K s:=
 qAF hX qFV hn Try.func74 (by kernel_rfl:Try.f74.body=some (qAN Try.f74)) (by kernel_rfl) (Eq.mpr (by kernel_rfl) h)
theorem qF1 {h0 x1:AV} {K:KvP} {s:Hq} (h:qDr XX h0 x1 K s):wC Try.prog XX 74 [h0,x1] K s:=qFx qA4 rfl h
def qDR (X:Td)(list0 flags1:AV) (K:KvP) (s:Hq):Prop:=
 boxK 22 list0 (λB0 S1=>boxK 23 flags1 (λB2 S3=>K (.fn (.func 86) [] [B0,B2]) S3) S1) s
def qE1:Nat→List Nat:=λ_=>[]
theorem qFG {X:Td} (hX:FrX X) (hn:X 75=none) {list0 flags1:AV} {K:KvP} {s:Hq} (h:qDR X list0 flags1 K s):wC Try.prog X 75 [list0,flags1] K s:=
 qAF hX qE1 hn Try.func75 (by kernel_rfl:Try.f75.body=some (qAN Try.f75)) (by kernel_rfl) (Eq.mpr (by kernel_rfl) h)
theorem qFJ {list0 flags1:AV} {K:KvP} {s:Hq} (h:qDR XX list0 flags1 K s):wC Try.prog XX 75 [list0,flags1] K s:=qFG qA4 rfl h
def qCt (X:Td)(t0 t1 t7 t8:AV) (I0:IvP) (m0:Nat) (K:KvP) (s:Hq):Prop:=
 oK (qAJ .lss t8 t7) λV2=>qAU V2
 (oK (qAV 1 t0 t8) λV3=>oK (rd1 s V3) λV4=>funK Try.prog X t1 [V4] (λV5 S6=>qAU V5
 (K t8 S6)
 (oK (qAJ .add t8 (.int .i64 1)) λV7=>∃ m',m' < m0∧I0 [V7] S6 m')) s)
 (K (.int .i64 (-1)) s)
def qCF (X:Td)(t0 t1:AV) (K:KvP) (s:Hq):Prop:=
 oK (qAg t0) λV0=>∃ I0:IvP,(∃ m,I0 [(.int .i64 0)] s m)∧∀ (f:Env) (s:Hq) (m0:Nat),I0 [f 8] s m0→
 qCt X t0 t1 (.int .i64 V0) (f 8) I0 m0 K s
def qFK:Nat→List Nat:=λk=>cond (Nat.beq k 4) [8] ([])
theorem qFW {X:Td} (hX:FrX X) (hn:X 83=none) {t0 t1:AV} {K:KvP} {s:Hq} (h:qCF X t0 t1 K s):wC Try.prog X 83 [t0,t1] K s:=
 qAF hX qFK hn Try.func83 (by kernel_rfl:Try.f83.body=some (qAN Try.f83)) (by kernel_rfl) (Eq.mpr (by kernel_rfl) h)
theorem qFX {t0 t1:AV} {K:KvP} {s:Hq} (h:qCF XX t0 t1 K s):wC Try.prog XX 83 [t0,t1] K s:=qFW qA4 rfl h
def qAp (X:Td)(i01 i7:AV) (K:KvP) (s:Hq):Prop:=
 oK (qAJ .gtr i7 i01) λV0=>K V0 s
def qAx (X:Td)(h0 i01 i7 j9:AV) (I1:IvP) (m1:Nat) (K:KvP) (s:Hq):Prop:=
 qDK Try.prog X h0 "Less" [j9,i7] (λV8 S9=>oK (qBo .not V8) λV10=>qAU V10
 (qAp X i01 i7 K S9)
 (qDK Try.prog X h0 "Swap" [i7,j9] (λV11 S12=>∃ m',m' < m1∧I1 [j9] S12 m') S9)) s
def qAw (X:Td)(h0 i01 i7 j9 j210 t28 t32:AV) (I1:IvP) (m1:Nat) (K:KvP) (s:Hq):Prop:=
 oK (qB4 t28 t32 (.bool false)) λV7=>qAU V7
 (qAx X h0 i01 i7 j210 I1 m1 K s)
 (qAx X h0 i01 i7 j9 I1 m1 K s)
def qAq (X:Td)(h0 i01 n2 i7 j18 t18 t20:AV) (I1:IvP) (m1:Nat) (K:KvP) (s:Hq):Prop:=
 oK (qB4 t18 (.bool true) t20) λV4=>qAU V4
 (qAp X i01 i7 K s)
 (oK (qAJ .add j18 (.int .i64 1)) λV5=>oK (qAJ .lss V5 n2) λV6=>qAU V6
 (qDK Try.prog X h0 "Less" [V5,j18] (λV13 S14=>qAw X h0 i01 i7 j18 V5 V6 V13 I1 m1 K S14) s)
 (qAw X h0 i01 i7 j18 V5 V6 .undef I1 m1 K s))
def qBM (X:Td)(h0 i01 n2 i7:AV) (I1:IvP) (m1:Nat) (K:KvP) (s:Hq):Prop:=
 oK (qAJ .mul (.int .i64 2) i7) λV1=>oK (qAJ .add V1 (.int .i64 1)) λV2=>oK (qAJ .geq V2 n2) λV3=>qAU V3
 (qAq X h0 i01 n2 i7 V2 V3 .undef I1 m1 K s)
 (oK (qAJ .lss V2 (.int .i64 0)) λV15=>qAq X h0 i01 n2 i7 V2 V3 V15 I1 m1 K s)
def qDs (X:Td)(h0 i01 n2:AV) (K:KvP) (s:Hq):Prop:=
 ∃ I1:IvP,(∃ m,I1 [i01] s m)∧∀ (f:Env) (s:Hq) (m1:Nat),I1 [f 7] s m1→
 qBM X h0 i01 n2 (f 7) I1 m1 K s
def qFT:Nat→List Nat:=λk=>cond (Nat.beq k 4) [7] ([])
theorem qF8 {X:Td} (hX:FrX X) (hn:X 84=none) {h0 i01 n2:AV} {K:KvP} {s:Hq} (h:qDs X h0 i01 n2 K s):wC Try.prog X 84 [h0,i01,n2] K s:=
 qAF hX qFT hn Try.func84 (by kernel_rfl:Try.f84.body=some (qAN Try.f84)) (by kernel_rfl) (Eq.mpr (by kernel_rfl) h)
theorem qB3 {h0 i01 n2:AV} {K:KvP} {s:Hq} (h:qDs XX h0 i01 n2 K s):wC Try.prog XX 84 [h0,i01,n2] K s:=qF8 qA4 rfl h
def qA6 (X:Td)(h0 j1 i4 t11 t16:AV) (I0:IvP) (m0:Nat) (K:KvP) (s:Hq):Prop:=
 oK (qB4 t11 (.bool true) t16) λV3=>qAU V3
 (K (.tup []) s)
 (qDK Try.prog X h0 "Swap" [i4,j1] (λV4 S5=>∃ m',m' < m0∧I0 [i4] S5 m') s)
def qCI (X:Td)(h0 j1:AV) (I0:IvP) (m0:Nat) (K:KvP) (s:Hq):Prop:=
 oK (qAJ .sub j1 (.int .i64 1)) λV0=>oK (qAJ .quo V0 (.int .i64 2)) λV1=>oK (negB false (eqV 0 false V1 j1)) λV2=>qAU V2
 (qA6 X h0 j1 V1 V2 .undef I0 m0 K s)
 (qDK Try.prog X h0 "Less" [j1,V1] (λV6 S7=>oK (qBo .not V6) λV8=>qA6 X h0 j1 V1 V2 V8 I0 m0 K S7) s)
def qEm (X:Td)(h0 j1:AV) (K:KvP) (s:Hq):Prop:=
 ∃ I0:IvP,(∃ m,I0 [j1] s m)∧∀ (f:Env) (s:Hq) (m0:Nat),I0 [f 1] s m0→
 qCI X h0 (f 1) I0 m0 K s
def qGL:Nat→List Nat:=λk=>cond (Nat.beq k 0) [1] ([])
theorem qHR {X:Td} (hX:FrX X) (hn:X 85=none) {h0 j1:AV} {K:KvP} {s:Hq} (h:qEm X h0 j1 K s):wC Try.prog X 85 [h0,j1] K s:=
 qAF hX qGL hn Try.func85 (by kernel_rfl:Try.f85.body=some (qAN Try.f85)) (by kernel_rfl) (Eq.mpr (by kernel_rfl) h)
theorem qDi {h0 j1:AV} {K:KvP} {s:Hq} (h:qEm XX h0 j1 K s):wC Try.prog XX 85 [h0,j1] K s:=qHR qA4 rfl h
def qA8 (X:Td)(t8 t17 t22:AV) (I0:IvP) (m0:Nat) (K:KvP) (s:Hq):Prop:=
 oK (qB4 t17 t22 (.bool false)) λV12=>qAU V12
 (K (.tup []) s)
 (oK (qAJ .add t8 (.int .i64 1)) λV13=>∃ m',m' < m0∧I0 [V13] s m')
def qCS (X:Td)(yield0 t2 t6 t7 t8:AV) (I0:IvP) (m0:Nat) (K:KvP) (s:Hq):Prop:=
 oK (qAJ .lss t8 t7) λV3=>qAU V3
 (oK (qAV 3 t6 t8) λV4=>oK (rdN s 3 V4) λV5=>newK 27 [(.int .i64 0),(.int .i64 0),(.int .i64 0)] (λB6 S7=>oK (qBs S7 3 (.ptr B6 0) (.agg V5)) λS8=>oK (rd1 S8 t2) λV9=>oK (qAV 1 V9 t8) λV10=>oK (rd1 S8 V10) λV11=>qAU V11
 (oK (rdN S8 3 (.ptr B6 0)) λV14=>funK Try.prog X yield0 [t8,(.agg V14)] (λV15 S16=>oK (qBo .not V15) λV17=>qA8 X t8 V11 V17 I0 m0 K S16) S8)
 (qA8 X t8 V11 .undef I0 m0 K S8)) s)
 (K (.tup []) s)
def qBt (X:Td)(yield0 t1 t2:AV) (K:KvP) (s:Hq):Prop:=
 oK (rd1 s t1) λV0=>oK (qAg V0) λV1=>∃ I0:IvP,(∃ m,I0 [(.int .i64 0)] s m)∧∀ (f:Env) (s:Hq) (m0:Nat),I0 [f 8] s m0→
 qCS X yield0 t2 V0 (.int .i64 V1) (f 8) I0 m0 K s
def qEL:Nat→List Nat:=λk=>cond (Nat.beq k 2) [8] ([])
theorem qEZ {X:Td} (hX:FrX X) (hn:X 86=none) {yield0 t1 t2:AV} {K:KvP} {s:Hq} (h:qBt X yield0 t1 t2 K s):wC Try.prog X 86 [yield0,t1,t2] K s:=
 qAF hX qEL hn Try.func86 (by kernel_rfl:Try.f86.body=some (qAN Try.f86)) (by kernel_rfl) (Eq.mpr (by kernel_rfl) h)
theorem qEb {yield0 t1 t2:AV} {K:KvP} {s:Hq} (h:qBt XX yield0 t1 t2 K s):wC Try.prog XX 86 [yield0,t1,t2] K s:=qEZ qA4 rfl h
def qD5 (X:Td)(q0 i1 j2:AV) (K:KvP) (s:Hq):Prop:=
 oK (qAV 2 q0 i1) λV0=>oK (qAK 1 V0) λV1=>oK (rd1 s V1) λV2=>oK (qAV 2 q0 j2) λV3=>oK (qAK 1 V3) λV4=>oK (rd1 s V4) λV5=>oK (qAJ .lss V2 V5) λV6=>K V6 s
def qIF:Nat→List Nat:=λ_=>[]
theorem qIf {X:Td} (hX:FrX X) (hn:X 117=none) {q0 i1 j2:AV} {K:KvP} {s:Hq} (h:qD5 X q0 i1 j2 K s):wC Try.prog X 117 [q0,i1,j2] K s:=
 qAF hX qIF hn Try.func117 (by kernel_rfl:Try.f117.body=some (qAN Try.f117)) (by kernel_rfl) (Eq.mpr (by kernel_rfl) h)
theorem qIl {q0 i1 j2:AV} {K:KvP} {s:Hq} (h:qD5 XX q0 i1 j2 K s):wC Try.prog XX 117 [q0,i1,j2] K s:=qIf qA4 rfl h
def qEa (X:Td)(q0:AV) (K:KvP) (s:Hq):Prop:=
 oK (qAL q0) λV0=>oK (rd1 s V0) λV1=>oK (qAg V1) λV2=>oK (qAJ .sub (.int .i64 V2) (.int .i64 1)) λV4=>oK (qAL q0) λV5=>oK (rd1 s V5) λV6=>oK (qAV 2 V6 V4) λV7=>oK (rdN s 2 V7) λV8=>newK 132 [(.int .i64 0),(.int .i64 0)] (λB9 S10=>oK (qBs S10 2 (.ptr B9 0) (.agg V8)) λS11=>oK (qAL q0) λV12=>oK (rd1 S11 V12) λV13=>oK (qEP 2 V13 none (some V4) none) λV14=>oK (qAL q0) λV15=>oK (wr1 S11 V15 V14) λS16=>oK (rdN S16 2 (.ptr B9 0)) λV17=>K (.ifc 132 (.agg V17)) S16) s
def qIk:Nat→List Nat:=λ_=>[]
theorem qJS {X:Td} (hX:FrX X) (hn:X 118=none) {q0:AV} {K:KvP} {s:Hq} (h:qEa X q0 K s):wC Try.prog X 118 [q0] K s:=
 qAF hX qIk hn Try.func118 (by kernel_rfl:Try.f118.body=some (qAN Try.f118)) (by kernel_rfl) (Eq.mpr (by kernel_rfl) h)
theorem qI8 {q0:AV} {K:KvP} {s:Hq} (h:qEa XX q0 K s):wC Try.prog XX 118 [q0] K s:=qJS qA4 rfl h
def qDx (X:Td)(q0 x1:AV) (K:KvP) (s:Hq):Prop:=
 oK (qQ6 132 (some (.agg [(.int .i64 0),(.int .i64 0)])) true x1) λV0=>oK (qAG V0 0) λV1=>oK (qAG V0 1) λV2=>newK 132 [(.int .i64 0),(.int .i64 0)] (λB3 S4=>oK (qBs S4 2 (.ptr B3 0) V1) λS5=>qAU V2
 (oK (qAL q0) λV6=>oK (rd1 S5 V6) λV7=>oK (rdN S5 2 (.ptr B3 0)) λV8=>oK (qBP (repl 1 [(.int .i64 0),(.int .i64 0)]) [(0,2,(.agg V8))]) λC9=>qAX C9=true∧newK 132 C9 (λB10 S11=>(∀ b,S5 b≠none→S5 b=none→S11 b=none)→
 appK 132 2 V7 (.slc B10 0 1 (some 1) 2) (λV12 S13=>oK (qAL q0) λV14=>oK (wr1 S13 V14 V12) λS15=>K (.tup []) S15) (add S5 S11)) (frz S5))
 (K (.tup []) S5)) s
def qHp:Nat→List Nat:=λ_=>[]
theorem qIm {X:Td} (hX:FrX X) (hn:X 119=none) {q0 x1:AV} {K:KvP} {s:Hq} (h:qDx X q0 x1 K s):wC Try.prog X 119 [q0,x1] K s:=
 qAF hX qHp hn Try.func119 (by kernel_rfl:Try.f119.body=some (qAN Try.f119)) (by kernel_rfl) (Eq.mpr (by kernel_rfl) h)
theorem qIe {q0 x1:AV} {K:KvP} {s:Hq} (h:qDx XX q0 x1 K s):wC Try.prog XX 119 [q0,x1] K s:=qIm qA4 rfl h
def qDy (X:Td)(q0 i1 j2:AV) (K:KvP) (s:Hq):Prop:=
 oK (qAV 2 q0 j2) λV0=>oK (rdN s 2 V0) λV1=>oK (qAV 2 q0 i1) λV2=>oK (rdN s 2 V2) λV3=>oK (qAV 2 q0 i1) λV4=>oK (qBs s 2 V4 (.agg V1)) λS5=>oK (qAV 2 q0 j2) λV6=>oK (qBs S5 2 V6 (.agg V3)) λS7=>K (.tup []) S7
def qH8:Nat→List Nat:=λ_=>[]
theorem qIp {X:Td} (hX:FrX X) (hn:X 120=none) {q0 i1 j2:AV} {K:KvP} {s:Hq} (h:qDy X q0 i1 j2 K s):wC Try.prog X 120 [q0,i1,j2] K s:=
 qAF hX qH8 hn Try.func120 (by kernel_rfl:Try.f120.body=some (qAN Try.f120)) (by kernel_rfl) (Eq.mpr (by kernel_rfl) h)
theorem qIi {q0 i1 j2:AV} {K:KvP} {s:Hq} (h:qDy XX q0 i1 j2 K s):wC Try.prog XX 120 [q0,i1,j2] K s:=qIp qA4 rfl h
end Go.AM
namespace Go.AM
open Go Go.Proofs
set_option maxRecDepth 100000
def qEi (X:Td)(buckets0 t6 t8:AV) (K:KvP) (s:Hq):Prop:=
 oK (qB4 t6 (.bool true) t8) λV1=>qAU V1
 (K (.tup [.nilptr,(.int .i64 2)]) s)
 (oK (nat? buckets0) λn_2=>oK (nat? buckets0) λn_3=>(n_2≤n_3∧n_3≤4294967296)∧newK 3 (repl n_3 [(.int .i64 0)]) (λB4 S5=>oK (qBP [.nilslc,.nilslc] [(0,1,(.slc B4 0 n_2 (some n_3) 1))]) λC6=>boxK 119 (.agg C6) (λB7 S8=>K (.tup [B7,(.int .i64 0)]) S8) S5) s)
def qHA (X:Td)(buckets0:AV) (K:KvP) (s:Hq):Prop:=
 oK (qAJ .lss buckets0 (.int .i64 1)) λV0=>qAU V0
 (qEi X buckets0 V0 .undef K s)
 (oK (qAJ .gtr buckets0 (.int .i64 256)) λV9=>qEi X buckets0 V0 V9 K s)
def qKW:Nat→List Nat:=λ_=>[]
theorem qLc {X:Td} (hX:FrX X) (hn:X 62=none) {buckets0:AV} {K:KvP} {s:Hq} (h:qHA X buckets0 K s):wC Try.prog X 62 [buckets0] K s:=
 qAF hX qKW hn Try.func62 (by kernel_rfl:Try.f62.body=some (qAN Try.f62)) (by kernel_rfl) (Eq.mpr (by kernel_rfl) h)
theorem qLR {buckets0:AV} {K:KvP} {s:Hq} (h:qHA XX buckets0 K s):wC Try.prog XX 62 [buckets0] K s:=qLc qA4 rfl h
def qCH (X:Td)(w0 hash1 t9 t15:AV) (K:KvP) (s:Hq):Prop:=
 oK (qB4 t9 (.bool true) t15) λV3=>qAU V3
 (K (.tup [(.int .i64 0),(.bool false)]) s)
 (oK (qAL w0) λV4=>oK (qAK 0 V4) λV5=>oK (rd1 s V5) λV6=>oK (qAL w0) λV7=>oK (qAK 0 V7) λV8=>oK (rd1 s V8) λV9=>oK (qAg V9) λV10=>oK (qGq .u64 (.int .i64 V10)) λV12=>oK (qAJ .rem hash1 V12) λV13=>oK (qAV 1 V6 V13) λV14=>oK (rd1 s V14) λV15=>oK (qAJ .sub V15 (.int .i64 1)) λV16=>K (.tup [V16,(.bool true)]) s)
def qEs (X:Td)(w0 hash1:AV) (K:KvP) (s:Hq):Prop:=
 wC Try.prog X 63 [w0] (λV0 S1=>oK (qBo .not V0) λV2=>qAU V2
 (qCH X w0 hash1 V2 .undef K S1)
 (oK (qAL w0) λV17=>oK (qAK 1 V17) λV18=>oK (rd1 S1 V18) λV19=>oK (qAg V19) λV20=>oK (negB false (eqV 0 true (.int .i64 V20) (.int .i64 0))) λV22=>qCH X w0 hash1 V2 V22 K S1)) s
def qGH:Nat→List Nat:=λ_=>[]
theorem qGv {X:Td} (hX:FrX X) (hn:X 76=none) {w0 hash1:AV} {K:KvP} {s:Hq} (h:qEs X w0 hash1 K s):wC Try.prog X 76 [w0,hash1] K s:=
 qAF hX qGH hn Try.func76 (by kernel_rfl:Try.f76.body=some (qAN Try.f76)) (by kernel_rfl) (Eq.mpr (by kernel_rfl) h)
theorem qG2 {w0 hash1:AV} {K:KvP} {s:Hq} (h:qEs XX w0 hash1 K s):wC Try.prog XX 76 [w0,hash1] K s:=qGv qA4 rfl h
def qFI (X:Td)(w0 next1:AV) (K:KvP) (s:Hq):Prop:=
 wC Try.prog X 63 [w0] (λV0 S1=>oK (qBo .not V0) λV2=>qAU V2
 (K (.int .i64 1) S1)
 (wC Try.prog X 64 [w0,next1] (λV3 S4=>oK (negB true (eqV 0 true V3 (.int .i64 0))) λV5=>qAU V5
 (K V3 S4)
 (wC Try.prog X 46 [next1] (λV6 S7=>oK (qAL w0) λV8=>oK (qAK 1 V8) λV9=>oK (wr1 S7 V9 V6) λS10=>oK (qAg next1) λV11=>oK (negB false (eqV 0 true (.int .i64 V11) (.int .i64 0))) λV13=>qAU V13
 (oK (qAL w0) λV14=>oK (qAK 0 V14) λV15=>oK (rd1 S10 V15) λV16=>qRo [(.int .i64 0)] 1 V16 (λV17 S18=>K (.int .i64 0) S18) S10)
 (wC Try.prog X 65 [w0] (λV19 S20=>newK 122 [.nilptr] (λB21 S22=>oK (qBs S22 1 (.ptr B21 0) V19) λS23=>oK (rdN S23 1 (.ptr B21 0)) λV24=>wC Try.prog X 66 [w0,(.agg V24)] (λV25 S26=>oK (rdN S26 1 (.ptr B21 0)) λV27=>wC Try.prog X 67 [w0,(.agg V27)] (λV28 S29=>K (.int .i64 0) S29) S26) S23) S20) S10)) S4)) S1)) s
def qGs:Nat→List Nat:=λ_=>[]
theorem qHh {X:Td} (hX:FrX X) (hn:X 44=none) {w0 next1:AV} {K:KvP} {s:Hq} (h:qFI X w0 next1 K s):wC Try.prog X 44 [w0,next1] K s:=
 qAF hX qGs hn Try.func44 (by kernel_rfl:Try.f44.body=some (qAN Try.f44)) (by kernel_rfl) (Eq.mpr (by kernel_rfl) h)
theorem qHn {w0 next1:AV} {K:KvP} {s:Hq} (h:qFI XX w0 next1 K s):wC Try.prog XX 44 [w0,next1] K s:=qHh qA4 rfl h
def qBR (X:Td)(t5 t11:AV) (K:KvP) (s:Hq):Prop:=
 oK (qB4 t5 t11 (.bool false)) λV1=>K V1 s
def qBy (X:Td)(w0:AV) (K:KvP) (s:Hq):Prop:=
 oK (negB true (eqV 3 true w0 .nilptr)) λV0=>qAU V0
 (oK (qAL w0) λV2=>oK (qAK 0 V2) λV3=>oK (rd1 s V3) λV4=>oK (qAg V4) λV5=>oK (qAJ .gtr (.int .i64 V5) (.int .i64 0)) λV7=>qBR X V0 V7 K s)
 (qBR X V0 .undef K s)
def qGA:Nat→List Nat:=λ_=>[]
theorem qGe {X:Td} (hX:FrX X) (hn:X 63=none) {w0:AV} {K:KvP} {s:Hq} (h:qBy X w0 K s):wC Try.prog X 63 [w0] K s:=
 qAF hX qGA hn Try.func63 (by kernel_rfl:Try.f63.body=some (qAN Try.f63)) (by kernel_rfl) (Eq.mpr (by kernel_rfl) h)
theorem qDT {w0:AV} {K:KvP} {s:Hq} (h:qBy XX w0 K s):wC Try.prog XX 63 [w0] K s:=qGe qA4 rfl h
def qBS (X:Td)(t9 t22 t29:AV) (I0:IvP) (m0:Nat) (K:KvP) (s:Hq):Prop:=
 oK (qB4 t22 t29 (.bool false)) λV8=>qAU V8
 (K (.int .i64 10) s)
 (oK (qAJ .add t9 (.int .i64 1)) λV9=>∃ m',m' < m0∧I0 [V9] s m')
def qB8 (X:Td)(next1 i5 t6 t9 t16 t18:AV) (I0:IvP) (m0:Nat) (K:KvP) (s:Hq):Prop:=
 oK (qB4 t16 (.bool true) t18) λV6=>qAU V6
 (K (.int .i64 2) s)
 (oK (qAJ .gtr i5 (.int .i64 0)) λV7=>qAU V7
 (oK (qAJ .sub i5 (.int .i64 1)) λV10=>oK (qAV 1 next1 V10) λV11=>oK (rd1 s V11) λV12=>oK (qAJ .leq t6 V12) λV13=>qBS X t9 V7 V13 I0 m0 K s)
 (qBS X t9 V7 .undef I0 m0 K s))
def qDQ (X:Td)(w0 next1 t7 t8 t9:AV) (I0:IvP) (m0:Nat) (K:KvP) (s:Hq):Prop:=
 oK (qAJ .lss t9 t8) λV2=>qAU V2
 (oK (qAV 1 t7 t9) λV3=>oK (rd1 s V3) λV4=>oK (qAJ .lss V4 (.int .i64 0)) λV5=>qAU V5
 (qB8 X next1 t9 V4 t9 V5 .undef I0 m0 K s)
 (oK (qAJ .geq V4 (.int .i64 128)) λV14=>qB8 X next1 t9 V4 t9 V5 V14 I0 m0 K s))
 (oK (qAg next1) λV15=>oK (qAL w0) λV17=>oK (qAK 0 V17) λV18=>oK (rd1 s V18) λV19=>oK (qAg V19) λV20=>oK (qAJ .gtr (.int .i64 V15) (.int .i64 V20)) λV22=>qAU V22
 (K (.int .i64 7) s)
 (K (.int .i64 0) s))
def qCk (X:Td)(w0 next1:AV) (K:KvP) (s:Hq):Prop:=
 oK (qAg next1) λV0=>∃ I0:IvP,(∃ m,I0 [(.int .i64 0)] s m)∧∀ (f:Env) (s:Hq) (m0:Nat),I0 [f 9] s m0→
 qDQ X w0 next1 next1 (.int .i64 V0) (f 9) I0 m0 K s
def qFo:Nat→List Nat:=λk=>cond (Nat.beq k 4) [9] ([])
theorem qGd {X:Td} (hX:FrX X) (hn:X 64=none) {w0 next1:AV} {K:KvP} {s:Hq} (h:qCk X w0 next1 K s):wC Try.prog X 64 [w0,next1] K s:=
 qAF hX qFo hn Try.func64 (by kernel_rfl:Try.f64.body=some (qAN Try.f64)) (by kernel_rfl) (Eq.mpr (by kernel_rfl) h)
theorem qGo {w0 next1:AV} {K:KvP} {s:Hq} (h:qCk XX w0 next1 K s):wC Try.prog XX 64 [w0,next1] K s:=qGd qA4 rfl h
def qBB (X:Td)(t47:AV) (I1:IvP) (m1:Nat) (K:KvP) (s:Hq):Prop:=
 oK (qAJ .add t47 (.int .i64 1)) λV46=>∃ m',m' < m1∧I1 [V46] s m'
def qDS (X:Td)(w0 t2 place3 q4 t45 t46 t47:AV) (I1:IvP) (m1:Nat) (K:KvP) (s:Hq):Prop:=
 oK (qAJ .lss t47 t46) λV45=>qAU V45
 (oK (qAV 1 t45 t47) λV47=>oK (rd1 s V47) λV48=>oK (negB false (eqV 0 true V48 (.int .i64 0))) λV49=>qAU V49
 (qBB X t47 I1 m1 K s)
 (oK (qAJ .sub V48 (.int .i64 1)) λV50=>oK (qFD 128 1 place3 V50) λV51=>oK (rd1 s V51) λV52=>oK (negB false (eqV 0 true V52 (.int .i64 0))) λV53=>qAU V53
 (oK (qAL w0) λV54=>oK (qAK 0 V54) λV55=>oK (rd1 s V55) λV56=>oK (qAV 1 V56 t47) λV57=>oK (wr1 s V57 (.int .i64 0)) λS58=>qBB X t47 I1 m1 K S58)
 (oK (qAK 0 q4) λV59=>oK (rd1 s V59) λV60=>oK (qAL V60) λV61=>oK (qAK 0 V61) λV62=>oK (rd1 s V62) λV63=>oK (qAJ .sub V48 (.int .i64 1)) λV64=>oK (qFD 128 1 place3 V64) λV65=>oK (rd1 s V65) λV66=>oK (qAJ .sub V66 (.int .i64 1)) λV67=>oK (qAV 2 V63 V67) λV68=>oK (qAK 1 V68) λV69=>oK (rd1 s V69) λV70=>oK (qAJ .add V70 (.int .i64 1)) λV71=>oK (qAV 2 V63 V67) λV72=>oK (qAK 1 V72) λV73=>oK (wr1 s V73 V71) λS74=>qBB X t47 I1 m1 K S74)))
 (oK (rdN s 1 q4) λV75=>wC Try.prog X 78 [(.agg V75)] (λV76 S77=>oK (rdN S77 1 q4) λV78=>oK (qBs S77 1 t2 (.agg V78)) λS79=>oK (rdN S79 1 t2) λt2_80=>K (.agg t2_80) S79) s)
def qDW (X:Td)(w0 t2 place3 q4 t21 t22 t23:AV) (I0:IvP) (m0:Nat) (K:KvP) (s:Hq):Prop:=
 oK (qAJ .lss t23 t22) λV25=>qAU V25
 (oK (qAV 1 t21 t23) λV26=>oK (rd1 s V26) λV27=>oK (qAJ .add t23 (.int .i64 1)) λV28=>oK (qFD 128 1 place3 V27) λV29=>oK (wr1 s V29 V28) λS30=>oK (qAK 0 q4) λV31=>oK (rd1 S30 V31) λV32=>oK (qAL V32) λV33=>oK (qAK 0 V33) λV34=>oK (rd1 S30 V34) λV35=>oK (qAV 2 V35 t23) λV36=>oK (qAK 0 V36) λV37=>oK (wr1 S30 V37 V27) λS38=>oK (qAJ .add t23 (.int .i64 1)) λV39=>∃ m',m' < m0∧I0 [V39] S38 m')
 (oK (qAL w0) λV40=>oK (qAK 0 V40) λV41=>oK (rd1 s V41) λV42=>oK (qAg V42) λV43=>∃ I1:IvP,(∃ m,I1 [(.int .i64 0)] s m)∧∀ (f:Env) (s:Hq) (m1:Nat),I1 [f 47] s m1→
 qDS X w0 t2 place3 q4 V42 (.int .i64 V43) (f 47) I1 m1 K s)
def qEH (X:Td)(w0:AV) (K:KvP) (s:Hq):Prop:=
 newK 122 [.nilptr] (λB0 S1=>newK 144 [(.int .i64 0),(.int .i64 0),(.int .i64 0),(.int .i64 0),(.int .i64 0),(.int .i64 0),(.int .i64 0),(.int .i64 0),(.int .i64 0),(.int .i64 0),(.int .i64 0),(.int .i64 0),(.int .i64 0),(.int .i64 0),(.int .i64 0),(.int .i64 0),(.int .i64 0),(.int .i64 0),(.int .i64 0),(.int .i64 0),(.int .i64 0),(.int .i64 0),(.int .i64 0),(.int .i64 0),(.int .i64 0),(.int .i64 0),(.int .i64 0),(.int .i64 0),(.int .i64 0),(.int .i64 0),(.int .i64 0),(.int .i64 0),(.int .i64 0),(.int .i64 0),(.int .i64 0),(.int .i64 0),(.int .i64 0),(.int .i64 0),(.int .i64 0),(.int .i64 0),(.int .i64 0),(.int .i64 0),(.int .i64 0),(.int .i64 0),(.int .i64 0),(.int .i64 0),(.int .i64 0),(.int .i64 0),(.int .i64 0),(.int .i64 0),(.int .i64 0),(.int .i64 0),(.int .i64 0),(.int .i64 0),(.int .i64 0),(.int .i64 0),(.int .i64 0),(.int .i64 0),(.int .i64 0),(.int .i64 0),(.int .i64 0),(.int .i64 0),(.int .i64 0),(.int .i64 0),(.int .i64 0),(.int .i64 0),(.int .i64 0),(.int .i64 0),(.int .i64 0),(.int .i64 0),(.int .i64 0),(.int .i64 0),(.int .i64 0),(.int .i64 0),(.int .i64 0),(.int .i64 0),(.int .i64 0),(.int .i64 0),(.int .i64 0),(.int .i64 0),(.int .i64 0),(.int .i64 0),(.int .i64 0),(.int .i64 0),(.int .i64 0),(.int .i64 0),(.int .i64 0),(.int .i64 0),(.int .i64 0),(.int .i64 0),(.int .i64 0),(.int .i64 0),(.int .i64 0),(.int .i64 0),(.int .i64 0),(.int .i64 0),(.int .i64 0),(.int .i64 0),(.int .i64 0),(.int .i64 0),(.int .i64 0),(.int .i64 0),(.int .i64 0),(.int .i64 0),(.int .i64 0),(.int .i64 0),(.int .i64 0),(.int .i64 0),(.int .i64 0),(.int .i64 0),(.int .i64 0),(.int .i64 0),(.int .i64 0),(.int .i64 0),(.int .i64 0),(.int .i64 0),(.int .i64 0),(.int .i64 0),(.int .i64 0),(.int .i64 0),(.int .i64 0),(.int .i64 0),(.int .i64 0),(.int .i64 0),(.int .i64 0),(.int .i64 0),(.int .i64 0),(.int .i64 0)] (λB2 S3=>oK (qAL w0) λV4=>oK (qAK 1 V4) λV5=>oK (rd1 S3 V5) λV6=>oK (qAg V6) λV7=>oK (nat? (.int .i64 V7)) λn_9=>oK (nat? (.int .i64 V7)) λn_10=>(n_9≤n_10∧n_10≤4294967296)∧newK 149 (repl n_10 [(.int .i64 0),(.int .i64 0)]) (λB11 S12=>oK (qBP [.nilslc] [(0,1,(.slc B11 0 n_9 (some n_10) 2))]) λC13=>boxK 147 (.agg C13) (λB14 S15=>oK (qBP [.nilptr] [(0,1,B14)]) λC16=>newK 122 [.nilptr] (λB17 S18=>oK (qBs S18 1 (.ptr B17 0) (.agg C16)) λS19=>oK (qAL w0) λV20=>oK (qAK 1 V20) λV21=>oK (rd1 S19 V21) λV22=>oK (qAg V22) λV23=>∃ I0:IvP,(∃ m,I0 [(.int .i64 0)] S19 m)∧∀ (f:Env) (s:Hq) (m0:Nat),I0 [f 23] s m0→
 qDW X w0 (.ptr B0 0) (.ptr B2 0) (.ptr B17 0) V22 (.int .i64 V23) (f 23) I0 m0 K s) S15) S12) S3) S1) s
def qFv:Nat→List Nat:=λk=>cond (Nat.beq k 8) [23] (cond (Nat.beq k 20) [47] ([]))
theorem qGI {X:Td} (hX:FrX X) (hn:X 65=none) {w0:AV} {K:KvP} {s:Hq} (h:qEH X w0 K s):wC Try.prog X 65 [w0] K s:=
 qAF hX qFv hn Try.func65 (by kernel_rfl:Try.f65.body=some (qAN Try.f65)) (by kernel_rfl) (Eq.mpr (by kernel_rfl) h)
theorem qGV {w0:AV} {K:KvP} {s:Hq} (h:qEH XX w0 K s):wC Try.prog XX 65 [w0] K s:=qGI qA4 rfl h
def qBW (X:Td)(t11:AV) (I0:IvP) (m0:Nat) (K:KvP) (s:Hq):Prop:=
 oK (qAJ .add t11 (.int .i64 1)) λV11=>∃ m',m' < m0∧I0 [V11] s m'
def qDh (X:Td)(w0 q3 t9 t10 t11:AV) (I0:IvP) (m0:Nat) (K:KvP) (s:Hq):Prop:=
 oK (qAJ .lss t11 t10) λV7=>qAU V7
 (oK (qAV 1 t9 t11) λV8=>oK (rd1 s V8) λV9=>oK (negB false (eqV 0 true V9 (.int .i64 0))) λV10=>qAU V10
 (oK (qAL w0) λV12=>oK (qAK 0 V12) λV13=>oK (rd1 s V13) λV14=>oK (qAK 0 q3) λV15=>oK (rd1 s V15) λV16=>oK (qAL V16) λV17=>oK (qAK 0 V17) λV18=>oK (rd1 s V18) λV19=>oK (qAV 2 V19 (.int .i64 0)) λV20=>oK (qAK 0 V20) λV21=>oK (rd1 s V21) λV22=>oK (qAJ .add V22 (.int .i64 1)) λV23=>oK (qAV 1 V14 t11) λV24=>oK (wr1 s V24 V23) λS25=>oK (rdN S25 1 q3) λV26=>wC Try.prog X 79 [(.agg V26),(.int .i64 0),(.int .i64 1)] (λV27 S28=>qBW X t11 I0 m0 K S28) S25)
 (qBW X t11 I0 m0 K s))
 (K (.tup []) s)
def qEo (X:Td)(w0 q1:AV) (K:KvP) (s:Hq):Prop:=
 boxK 122 q1 (λB0 S1=>oK (qAL w0) λV2=>oK (qAK 0 V2) λV3=>oK (rd1 S1 V3) λV4=>oK (qAg V4) λV5=>∃ I0:IvP,(∃ m,I0 [(.int .i64 0)] S1 m)∧∀ (f:Env) (s:Hq) (m0:Nat),I0 [f 11] s m0→
 qDh X w0 B0 V4 (.int .i64 V5) (f 11) I0 m0 K s) s
def qGR:Nat→List Nat:=λk=>cond (Nat.beq k 4) [11] ([])
theorem qGp {X:Td} (hX:FrX X) (hn:X 66=none) {w0 q1:AV} {K:KvP} {s:Hq} (h:qEo X w0 q1 K s):wC Try.prog X 66 [w0,q1] K s:=
 qAF hX qGR hn Try.func66 (by kernel_rfl:Try.f66.body=some (qAN Try.f66)) (by kernel_rfl) (Eq.mpr (by kernel_rfl) h)
theorem qHZ {w0 q1:AV} {K:KvP} {s:Hq} (h:qEo XX w0 q1 K s):wC Try.prog XX 66 [w0,q1] K s:=qGp qA4 rfl h
def qCr (X:Td)(w0 q3:AV) (I0:IvP) (m0:Nat) (K:KvP) (s:Hq):Prop:=
 oK (rdN s 1 q3) λV2=>wC Try.prog X 80 [(.agg V2)] (λV3 S4=>oK (qAK 0 q3) λV5=>oK (rd1 S4 V5) λV6=>oK (qAL V6) λV7=>oK (qAK 0 V7) λV8=>oK (rd1 S4 V8) λV9=>oK (qAV 2 V9 V3) λV10=>oK (qAK 1 V10) λV11=>oK (rd1 S4 V11) λV12=>oK (qAK 0 q3) λV13=>oK (rd1 S4 V13) λV14=>oK (qAL V14) λV15=>oK (qAK 0 V15) λV16=>oK (rd1 S4 V16) λV17=>oK (qAV 2 V17 (.int .i64 0)) λV18=>oK (qAK 1 V18) λV19=>oK (rd1 S4 V19) λV20=>oK (qAJ .sub V12 V20) λV21=>oK (qAJ .leq V21 (.int .i64 1)) λV22=>qAU V22
 (K (.tup []) S4)
 (oK (qAL w0) λV23=>oK (qAK 0 V23) λV24=>oK (rd1 S4 V24) λV25=>oK (qAK 0 q3) λV26=>oK (rd1 S4 V26) λV27=>oK (qAL V27) λV28=>oK (qAK 0 V28) λV29=>oK (rd1 S4 V29) λV30=>oK (qAV 2 V30 V3) λV31=>oK (qAK 0 V31) λV32=>oK (rd1 S4 V32) λV33=>wC Try.prog X 81 [w0,V33] (λV34 S35=>(∀ b,S4 b≠none→S4 b=none→S35 b=none)→
 oK (qAK 0 q3) λV36=>oK (rd1 (cutH [(S4,(add S4 S35))] (add S4 S35)) V36) λV37=>oK (qAL V37) λV38=>oK (qAK 0 V38) λV39=>oK (rd1 (cutH [(S4,(add S4 S35))] (add S4 S35)) V39) λV40=>oK (qAV 2 V40 (.int .i64 0)) λV41=>oK (qAK 0 V41) λV42=>oK (rd1 (cutH [(S4,(add S4 S35))] (add S4 S35)) V42) λV43=>oK (qAJ .add V43 (.int .i64 1)) λV44=>oK (qAV 1 V25 V34) λV45=>oK (wr1 (add S4 S35) V45 V44) λS46=>oK (rdN S46 1 q3) λV47=>wC Try.prog X 79 [(.agg V47),V3,(.int .i64 (-1))] (λV48 S49=>oK (rdN S49 1 q3) λV50=>wC Try.prog X 79 [(.agg V50),(.int .i64 0),(.int .i64 1)] (λV51 S52=>∃ m',m' < m0∧I0 [] S52 m') S49) S46) (frz S4))) s
def qDd (X:Td)(w0 q1:AV) (K:KvP) (s:Hq):Prop:=
 boxK 122 q1 (λB0 S1=>∃ I0:IvP,(∃ m,I0 [] S1 m)∧∀ (f:Env) (s:Hq) (m0:Nat),I0 [] s m0→
 qCr X w0 B0 I0 m0 K s) s
def qE5:Nat→List Nat:=λk=>cond (Nat.beq k 2) [] ([])
theorem qFQ {X:Td} (hX:FrX X) (hn:X 67=none) {w0 q1:AV} {K:KvP} {s:Hq} (h:qDd X w0 q1 K s):wC Try.prog X 67 [w0,q1] K s:=
 qAF hX qE5 hn Try.func67 (by kernel_rfl:Try.f67.body=some (qAN Try.f67)) (by kernel_rfl) (Eq.mpr (by kernel_rfl) h)
theorem qFR {w0 q1:AV} {K:KvP} {s:Hq} (h:qDd XX w0 q1 K s):wC Try.prog XX 67 [w0,q1] K s:=qFQ qA4 rfl h
def qEF (X:Td)(q0:AV) (K:KvP) (s:Hq):Prop:=
 boxK 122 q0 (λB0 S1=>oK (rdN S1 1 B0) λV2=>wC Try.prog X 90 [(.ifc 122 (.agg V2))] (λV3 S4=>K (.tup []) S4) S1) s
def qFt:Nat→List Nat:=λ_=>[]
theorem qGj {X:Td} (hX:FrX X) (hn:X 78=none) {q0:AV} {K:KvP} {s:Hq} (h:qEF X q0 K s):wC Try.prog X 78 [q0] K s:=
 qAF hX qFt hn Try.func78 (by kernel_rfl:Try.f78.body=some (qAN Try.f78)) (by kernel_rfl) (Eq.mpr (by kernel_rfl) h)
theorem qGg {q0:AV} {K:KvP} {s:Hq} (h:qEF XX q0 K s):wC Try.prog XX 78 [q0] K s:=qGj qA4 rfl h
def qDq (X:Td)(q0 i1 t2:AV) (K:KvP) (s:Hq):Prop:=
 boxK 122 q0 (λB0 S1=>oK (qAK 0 B0) λV2=>oK (rd1 S1 V2) λV3=>oK (qAL V3) λV4=>oK (qAK 0 V4) λV5=>oK (rd1 S1 V5) λV6=>oK (qAV 2 V6 i1) λV7=>oK (qAK 1 V7) λV8=>oK (rd1 S1 V8) λV9=>oK (qAJ .add V9 t2) λV10=>oK (qAV 2 V6 i1) λV11=>oK (qAK 1 V11) λV12=>oK (wr1 S1 V12 V10) λS13=>oK (rdN S13 1 B0) λV14=>wC Try.prog X 91 [(.ifc 122 (.agg V14)),i1] (λV15 S16=>K (.tup []) S16) S13) s
def qFS:Nat→List Nat:=λ_=>[]
theorem qF3 {X:Td} (hX:FrX X) (hn:X 79=none) {q0 i1 t2:AV} {K:KvP} {s:Hq} (h:qDq X q0 i1 t2 K s):wC Try.prog X 79 [q0,i1,t2] K s:=
 qAF hX qFS hn Try.func79 (by kernel_rfl:Try.f79.body=some (qAN Try.f79)) (by kernel_rfl) (Eq.mpr (by kernel_rfl) h)
theorem qF7 {q0 i1 t2:AV} {K:KvP} {s:Hq} (h:qDq XX q0 i1 t2 K s):wC Try.prog XX 79 [q0,i1,t2] K s:=qF3 qA4 rfl h
def qCG (X:Td)(t3 t11:AV) (I0:IvP) (m0:Nat) (K:KvP) (s:Hq):Prop:=
 oK (qAJ .add t11 (.int .i64 1)) λV14=>∃ m',m' < m0∧I0 [t3,V14] s m'
def qDe (X:Td)(q1 t3 t10 t11:AV) (I0:IvP) (m0:Nat) (K:KvP) (s:Hq):Prop:=
 oK (qAJ .lss t11 t10) λV9=>qAU V9
 (oK (qAK 0 q1) λV10=>oK (rd1 s V10) λV11=>wC Try.prog X 92 [V11,t3,t11] (λV12 S13=>qAU V12
 (qCG X t11 t11 I0 m0 K S13)
 (qCG X t3 t11 I0 m0 K S13)) s)
 (K t3 s)
def qEn (X:Td)(q0:AV) (K:KvP) (s:Hq):Prop:=
 boxK 122 q0 (λB0 S1=>oK (qAK 0 B0) λV2=>oK (rd1 S1 V2) λV3=>oK (qAL V3) λV4=>oK (qAK 0 V4) λV5=>oK (rd1 S1 V5) λV6=>oK (qAg V6) λV7=>∃ I0:IvP,(∃ m,I0 [(.int .i64 0),(.int .i64 0)] S1 m)∧∀ (f:Env) (s:Hq) (m0:Nat),I0 [f 3,f 11] s m0→
 qDe X B0 (f 3) (.int .i64 V7) (f 11) I0 m0 K s) s
def qGE:Nat→List Nat:=λk=>cond (Nat.beq k 6) [3,11] ([])
theorem qG8 {X:Td} (hX:FrX X) (hn:X 80=none) {q0:AV} {K:KvP} {s:Hq} (h:qEn X q0 K s):wC Try.prog X 80 [q0] K s:=
 qAF hX qGE hn Try.func80 (by kernel_rfl:Try.f80.body=some (qAN Try.f80)) (by kernel_rfl) (Eq.mpr (by kernel_rfl) h)
theorem qHQ {q0:AV} {K:KvP} {s:Hq} (h:qEn XX q0 K s):wC Try.prog XX 80 [q0] K s:=qG8 qA4 rfl h
def qBa (X:Td)(i5 t14 t24:AV) (I0:IvP) (m0:Nat) (K:KvP) (s:Hq):Prop:=
 oK (qB4 t14 t24 (.bool false)) λV7=>qAU V7
 (oK (qAJ .sub i5 (.int .i64 1)) λV8=>∃ m',m' < m0∧I0 [V8] s m')
 (K i5 s)
def qDf (X:Td)(w0 member1 i5:AV) (I0:IvP) (m0:Nat) (K:KvP) (s:Hq):Prop:=
 oK (qAJ .gtr i5 (.int .i64 0)) λV6=>qAU V6
 (oK (qAL w0) λV9=>oK (qAK 0 V9) λV10=>oK (rd1 s V10) λV11=>oK (qAV 1 V11 i5) λV12=>oK (rd1 s V12) λV13=>oK (qAJ .add member1 (.int .i64 1)) λV14=>oK (negB true (eqV 0 false V13 V14)) λV15=>qBa X i5 V6 V15 I0 m0 K s)
 (qBa X i5 V6 .undef I0 m0 K s)
def qCu (X:Td)(w0 member1:AV) (K:KvP) (s:Hq):Prop:=
 oK (qAL w0) λV0=>oK (qAK 0 V0) λV1=>oK (rd1 s V1) λV2=>oK (qAg V2) λV3=>oK (qAJ .sub (.int .i64 V3) (.int .i64 1)) λV5=>∃ I0:IvP,(∃ m,I0 [V5] s m)∧∀ (f:Env) (s:Hq) (m0:Nat),I0 [f 5] s m0→
 qDf X w0 member1 (f 5) I0 m0 K s
def qGl:Nat→List Nat:=λk=>cond (Nat.beq k 4) [5] ([])
theorem qHL {X:Td} (hX:FrX X) (hn:X 81=none) {w0 member1:AV} {K:KvP} {s:Hq} (h:qCu X w0 member1 K s):wC Try.prog X 81 [w0,member1] K s:=
 qAF hX qGl hn Try.func81 (by kernel_rfl:Try.f81.body=some (qAN Try.f81)) (by kernel_rfl) (Eq.mpr (by kernel_rfl) h)
theorem qG4 {w0 member1:AV} {K:KvP} {s:Hq} (h:qCu XX w0 member1 K s):wC Try.prog XX 81 [w0,member1] K s:=qHL qA4 rfl h
def qC7 (X:Td)(h0 n2 i3:AV) (I0:IvP) (m0:Nat) (K:KvP) (s:Hq):Prop:=
 oK (qAJ .geq i3 (.int .i64 0)) λV4=>qAU V4
 (wC Try.prog X 84 [h0,i3,n2] (λV5 S6=>oK (qAJ .sub i3 (.int .i64 1)) λV7=>∃ m',m' < m0∧I0 [V7] S6 m') s)
 (K (.tup []) s)
def qDu (X:Td)(h0:AV) (K:KvP) (s:Hq):Prop:=
 qDK Try.prog X h0 "Len" [] (λV0 S1=>oK (qAJ .quo V0 (.int .i64 2)) λV2=>oK (qAJ .sub V2 (.int .i64 1)) λV3=>∃ I0:IvP,(∃ m,I0 [V3] S1 m)∧∀ (f:Env) (s:Hq) (m0:Nat),I0 [f 3] s m0→
 qC7 X h0 V0 (f 3) I0 m0 K s) s
def qFY:Nat→List Nat:=λk=>cond (Nat.beq k 4) [3] ([])
theorem qFq {X:Td} (hX:FrX X) (hn:X 90=none) {h0:AV} {K:KvP} {s:Hq} (h:qDu X h0 K s):wC Try.prog X 90 [h0] K s:=
 qAF hX qFY hn Try.func90 (by kernel_rfl:Try.f90.body=some (qAN Try.f90)) (by kernel_rfl) (Eq.mpr (by kernel_rfl) h)
theorem qF9 {h0:AV} {K:KvP} {s:Hq} (h:qDu XX h0 K s):wC Try.prog XX 90 [h0] K s:=qFq qA4 rfl h
def qEK (X:Td)(h0 i1:AV) (K:KvP) (s:Hq):Prop:=
 qDK Try.prog X h0 "Len" [] (λV0 S1=>wC Try.prog X 84 [h0,i1,V0] (λV2 S3=>oK (qBo .not V2) λV4=>qAU V4
 (wC Try.prog X 85 [h0,i1] (λV5 S6=>K (.tup []) S6) S3)
 (K (.tup []) S3)) S1) s
def qF2:Nat→List Nat:=λ_=>[]
theorem qGc {X:Td} (hX:FrX X) (hn:X 91=none) {h0 i1:AV} {K:KvP} {s:Hq} (h:qEK X h0 i1 K s):wC Try.prog X 91 [h0,i1] K s:=
 qAF hX qF2 hn Try.func91 (by kernel_rfl:Try.f91.body=some (qAN Try.f91)) (by kernel_rfl) (Eq.mpr (by kernel_rfl) h)
theorem qDP {h0 i1:AV} {K:KvP} {s:Hq} (h:qEK XX h0 i1 K s):wC Try.prog XX 91 [h0,i1] K s:=qGc qA4 rfl h
def qC3 (X:Td)(o0 i1 j2:AV) (K:KvP) (s:Hq):Prop:=
 oK (qAL o0) λV0=>oK (qAK 0 V0) λV1=>oK (rd1 s V1) λV2=>oK (qAV 2 V2 i1) λV3=>oK (rdN s 2 V3) λV4=>oK (qAL o0) λV5=>oK (qAK 0 V5) λV6=>oK (rd1 s V6) λV7=>oK (qAV 2 V7 j2) λV8=>oK (rdN s 2 V8) λV9=>newK 149 [(.int .i64 0),(.int .i64 0)] (λB10 S11=>(∀ b,s b≠none→s b=none→S11 b=none)→
 newK 149 [(.int .i64 0),(.int .i64 0)] (λB12 S13=>(∀ b,(add s S11) b≠none→(cutH [(s,(add s S11))] (add s S11)) b=none→S13 b=none)→
 ((cutH [((hdel s (qIJ V6)),s),((hdel s (qIJ V8)),s)] (add (add s S11) S13)) (qIJ (.ptr B10 0))≠none)∧oK (qBs (add (add s S11) S13) 2 (.ptr B10 0) (.agg V4)) λS14=>oK (qBs S14 2 (.ptr B12 0) (.agg V9)) λS15=>oK (qAK 1 (.ptr B10 0)) λV16=>oK (rd1 S15 V16) λV17=>oK (qAK 1 (.ptr B12 0)) λV18=>oK (rd1 S15 V18) λV19=>oK (negB true (eqV 0 false V17 V19)) λV20=>qAU V20
 (oK (qAK 1 (.ptr B10 0)) λV21=>oK (rd1 S15 V21) λV22=>oK (qAK 1 (.ptr B12 0)) λV23=>oK (rd1 S15 V23) λV24=>oK (qAJ .lss V22 V24) λV25=>K V25 S15)
 (oK (qAK 0 (.ptr B10 0)) λV26=>oK (rd1 S15 V26) λV27=>oK (qAK 0 (.ptr B12 0)) λV28=>oK (rd1 S15 V28) λV29=>oK (qAJ .lss V27 V29) λV30=>K V30 S15)) (frz (cutH [(s,(add s S11))] (add s S11)))) (frz s)
def qGQ:Nat→List Nat:=λ_=>[]
theorem qHM {X:Td} (hX:FrX X) (hn:X 92=none) {o0 i1 j2:AV} {K:KvP} {s:Hq} (h:qC3 X o0 i1 j2 K s):wC Try.prog X 92 [o0,i1,j2] K s:=
 qAF hX qGQ hn Try.func92 (by kernel_rfl:Try.f92.body=some (qAN Try.f92)) (by kernel_rfl) (Eq.mpr (by kernel_rfl) h)
theorem qHE {o0 i1 j2:AV} {K:KvP} {s:Hq} (h:qC3 XX o0 i1 j2 K s):wC Try.prog XX 92 [o0,i1,j2] K s:=qHM qA4 rfl h
def qDE (X:Td)(o0:AV) (K:KvP) (s:Hq):Prop:=
 oK (qAL o0) λV0=>oK (qAK 0 V0) λV1=>oK (rd1 s V1) λV2=>oK (qAg V2) λV3=>K (.int .i64 V3) s
def qHa:Nat→List Nat:=λ_=>[]
theorem qHl {X:Td} (hX:FrX X) (hn:X 113=none) {o0:AV} {K:KvP} {s:Hq} (h:qDE X o0 K s):wC Try.prog X 113 [o0] K s:=
 qAF hX qHa hn Try.func113 (by kernel_rfl:Try.f113.body=some (qAN Try.f113)) (by kernel_rfl) (Eq.mpr (by kernel_rfl) h)
theorem qHk {o0:AV} {K:KvP} {s:Hq} (h:qDE XX o0 K s):wC Try.prog XX 113 [o0] K s:=qHl qA4 rfl h
def qCv (X:Td)(o0 i1 j2:AV) (K:KvP) (s:Hq):Prop:=
 oK (qAL o0) λV0=>oK (qAK 0 V0) λV1=>oK (rd1 s V1) λV2=>oK (qAL o0) λV3=>oK (qAK 0 V3) λV4=>oK (rd1 s V4) λV5=>oK (qAL o0) λV6=>oK (qAK 0 V6) λV7=>oK (rd1 s V7) λV8=>oK (qAV 2 V8 j2) λV9=>oK (rdN s 2 V9) λV10=>oK (qAL o0) λV11=>oK (qAK 0 V11) λV12=>oK (rd1 s V12) λV13=>oK (qAV 2 V13 i1) λV14=>oK (rdN s 2 V14) λV15=>oK (qAV 2 V2 i1) λV16=>oK (qBs s 2 V16 (.agg V10)) λS17=>oK (qAV 2 V5 j2) λV18=>oK (qBs S17 2 V18 (.agg V15)) λS19=>K (.tup []) S19
def qGU:Nat→List Nat:=λ_=>[]
theorem qHC {X:Td} (hX:FrX X) (hn:X 114=none) {o0 i1 j2:AV} {K:KvP} {s:Hq} (h:qCv X o0 i1 j2 K s):wC Try.prog X 114 [o0,i1,j2] K s:=
 qAF hX qGU hn Try.func114 (by kernel_rfl:Try.f114.body=some (qAN Try.f114)) (by kernel_rfl) (Eq.mpr (by kernel_rfl) h)
theorem qHH {o0 i1 j2:AV} {K:KvP} {s:Hq} (h:qCv XX o0 i1 j2 K s):wC Try.prog XX 114 [o0,i1,j2] K s:=qHC qA4 rfl h
def qCL (X:Td)(t0:AV) (K:KvP) (s:Hq):Prop:=
 oK (negB false (eqV 5 true t0 .nilslc)) λV0=>qAU V0
 (K .nilslc s)
 (oK (qBP (repl 0 [(.int .i64 0)]) []) λC1=>qAX C1=true∧newK 3 C1 (λB2 S3=>appK 3 1 (.slc B2 0 0 (some 0) 1) t0 (λV4 S5=>K V4 S5) S3) s)
def qHP:Nat→List Nat:=λ_=>[]
theorem qHi {X:Td} (hX:FrX X) (hn:X 46=none) {t0:AV} {K:KvP} {s:Hq} (h:qCL X t0 K s):wC Try.prog X 46 [t0] K s:=
 qAF hX qHP hn Try.func46 (by kernel_rfl:Try.f46.body=some (qAN Try.f46)) (by kernel_rfl) (Eq.mpr (by kernel_rfl) h)
theorem qHf {t0:AV} {K:KvP} {s:Hq} (h:qCL XX t0 K s):wC Try.prog XX 46 [t0] K s:=qHi qA4 rfl h
end Go.AM
namespace Go.AM
open Go Go.Proofs
set_option maxRecDepth 100000
def qIb (X:Td)(x0:AV) (K:KvP) (s:Hq):Prop:=
 K x0 s
def qRA (X:Td)(x0 n1:AV) (K:KvP) (s:Hq):Prop:=
 oK (qAJ .rem x0 n1) λV0=>oK (qAJ .lss V0 (.int .i64 0)) λV1=>qAU V1
 (oK (qAJ .add V0 n1) λV2=>qIb X V2 K s)
 (qIb X V0 K s)
def qRJ:Nat→List Nat:=λ_=>[]
theorem qSu {X:Td} (hX:FrX X) (hn:X 27=none) {x0 n1:AV} {K:KvP} {s:Hq} (h:qRA X x0 n1 K s):wC Try.prog X 27 [x0,n1] K s:=
 qAF hX qRJ hn Try.func27 (by kernel_rfl:Try.f27.body=some (qAN Try.f27)) (by kernel_rfl) (Eq.mpr (by kernel_rfl) h)
theorem qSs {x0 n1:AV} {K:KvP} {s:Hq} (h:qRA XX x0 n1 K s):wC Try.prog XX 27 [x0,n1] K s:=qSu qA4 rfl h
def qCo (X:Td)(nodes0 links1 self2 t24 t27:AV) (K:KvP) (s:Hq):Prop:=
 oK (qB4 t24 (.bool true) t27) λV5=>qAU V5
 (K (.tup [.nilptr,(.int .i64 2)]) s)
 (wC Try.prog X 36 [self2] (λV6 S7=>oK (qAG V6 0) λV8=>oK (qAG V6 1) λV9=>oK (negB true (eqV 0 true V9 (.int .i64 0))) λV10=>qAU V10
 (K (.tup [.nilptr,(.int .i64 2)]) S7)
 (wC Try.prog X 40 [links1] (λV11 S12=>mapK (λV13 S14=>oK (qBP [(.int .i64 0),(.int .i64 0),(.int .u32 0),.nilslc,.nilslc,.nilmap] [(0,1,nodes0),(1,1,self2),(2,1,V8),(3,1,V11),(5,1,V13)]) λC15=>boxK 82 (.agg C15) (λB16 S17=>K (.tup [B16,(.int .i64 0)]) S17) S14) S12) S7)) s)
def qB0 (X:Td)(nodes0 links1 self2 t13 t20:AV) (K:KvP) (s:Hq):Prop:=
 oK (qB4 t13 (.bool true) t20) λV3=>qAU V3
 (K (.tup [.nilptr,(.int .i64 3)]) s)
 (oK (qAJ .lss self2 (.int .i64 0)) λV4=>qAU V4
 (qCo X nodes0 links1 self2 V4 .undef K s)
 (oK (qAJ .geq self2 nodes0) λV18=>qCo X nodes0 links1 self2 V4 V18 K s))
def qIZ (X:Td)(nodes0 links1 self2:AV) (K:KvP) (s:Hq):Prop:=
 oK (qAg links1) λV0=>oK (qAJ .gtr (.int .i64 V0) (.int .i64 128)) λV2=>qAU V2
 (qB0 X nodes0 links1 self2 V2 .undef K s)
 (oK (qAg links1) λV19=>oK (nat? (.int .i64 V19)) λn_21=>oK (nat? (.int .i64 V19)) λn_22=>(n_21≤n_22∧n_22≤4294967296)∧newK 4 (repl n_22 [(.bool false)]) (λB23 S24=>wC Try.prog X 28 [nodes0,links1,(.slc B23 0 n_21 (some n_22) 1),(.int .i64 0)] (λV25 S26=>oK (negB false (eqV 5 true V25 .nilslc)) λV27=>qB0 X nodes0 links1 self2 V2 V27 K S26) S24) s)
def qNI:Nat→List Nat:=λ_=>[]
theorem qOn {X:Td} (hX:FrX X) (hn:X 18=none) {nodes0 links1 self2:AV} {K:KvP} {s:Hq} (h:qIZ X nodes0 links1 self2 K s):wC Try.prog X 18 [nodes0,links1,self2] K s:=
 qAF hX qNI hn Try.func18 (by kernel_rfl:Try.f18.body=some (qAN Try.f18)) (by kernel_rfl) (Eq.mpr (by kernel_rfl) h)
theorem qJ5 {nodes0 links1 self2:AV} {K:KvP} {s:Hq} (h:qIZ XX nodes0 links1 self2 K s):wC Try.prog XX 18 [nodes0,links1,self2] K s:=qOn qA4 rfl h
def qDN (X:Td)(t5 t10:AV) (K:KvP) (s:Hq):Prop:=
 oK (qB4 t5 t10 (.bool false)) λV1=>K V1 s
def qEf (X:Td)(t0:AV) (K:KvP) (s:Hq):Prop:=
 oK (negB true (eqV 3 true t0 .nilptr)) λV0=>qAU V0
 (oK (qAL t0) λV2=>oK (qAK 0 V2) λV3=>oK (rd1 s V3) λV4=>oK (qAJ .gtr V4 (.int .i64 0)) λV5=>qDN X V0 V5 K s)
 (qDN X V0 .undef K s)
def qId:Nat→List Nat:=λ_=>[]
theorem qJA {X:Td} (hX:FrX X) (hn:X 41=none) {t0:AV} {K:KvP} {s:Hq} (h:qEf X t0 K s):wC Try.prog X 41 [t0] K s:=
 qAF hX qId hn Try.func41 (by kernel_rfl:Try.f41.body=some (qAN Try.f41)) (by kernel_rfl) (Eq.mpr (by kernel_rfl) h)
theorem qJX {t0:AV} {K:KvP} {s:Hq} (h:qEf XX t0 K s):wC Try.prog XX 41 [t0] K s:=qJA qA4 rfl h
def qCe (X:Td)(ip0 t6 t8:AV) (K:KvP) (s:Hq):Prop:=
 oK (qB4 t6 (.bool true) t8) λV1=>qAU V1
 (K (.tup [(.int .i64 0),(.bool false)]) s)
 (oK (qAJ .sub ip0 (.int .u32 184483840)) λV2=>oK (qAJ .sub V2 (.int .u32 1)) λV3=>oK (qGq .i64 V3) λV4=>K (.tup [V4,(.bool true)]) s)
def qFb (X:Td)(ip0:AV) (K:KvP) (s:Hq):Prop:=
 oK (qAJ .leq ip0 (.int .u32 184483840)) λV0=>qAU V0
 (qCe X ip0 V0 .undef K s)
 (oK (qAJ .gtr ip0 (.int .u32 184483872)) λV5=>qCe X ip0 V0 V5 K s)
def qLV:Nat→List Nat:=λ_=>[]
theorem qMb {X:Td} (hX:FrX X) (hn:X 42=none) {ip0:AV} {K:KvP} {s:Hq} (h:qFb X ip0 K s):wC Try.prog X 42 [ip0] K s:=
 qAF hX qLV hn Try.func42 (by kernel_rfl:Try.f42.body=some (qAN Try.f42)) (by kernel_rfl) (Eq.mpr (by kernel_rfl) h)
theorem qIM {ip0:AV} {K:KvP} {s:Hq} (h:qFb XX ip0 K s):wC Try.prog XX 42 [ip0] K s:=qMb qA4 rfl h
def qCW (X:Td)(links2 w6:AV) (K:KvP) (s:Hq):Prop:=
 oK (qAg links2) λV7=>oK (qKv min2A (.int .i64 V7) [(.int .i64 64)]) λV11=>oK (qEP 1 links2 none (some V11) none) λV12=>wC Try.prog X 44 [w6,V12] (λV13 S14=>K (.tup []) S14) s
def qDj (X:Td)(t0 n1 links2:AV) (K:KvP) (s:Hq):Prop:=
 oK (qAL t0) λV0=>oK (qAK 5 V0) λV1=>oK (rd1 s V1) λV2=>oK (getM s V2 n1) λr_3=>oK (qAG (retM .nilptr true r_3) 0) λV4=>oK (qAG (retM .nilptr true r_3) 1) λV5=>oK (qBo .not V5) λV6=>qAU V6
 (wC Try.prog X 62 [(.int .i64 64)] (λV15 S16=>oK (qAG V15 0) λV17=>oK (qAG V15 1) λV18=>oK (qAL t0) λV19=>oK (qAK 5 V19) λV20=>oK (rd1 S16 V20) λV21=>oK (putM S16 V21 n1 V17) λS22=>qCW X links2 V17 K S22) s)
 (qCW X links2 V4 K s)
def qJB:Nat→List Nat:=λ_=>[]
theorem qJs {X:Td} (hX:FrX X) (hn:X 43=none) {t0 n1 links2:AV} {K:KvP} {s:Hq} (h:qDj X t0 n1 links2 K s):wC Try.prog X 43 [t0,n1,links2] K s:=
 qAF hX qJB hn Try.func43 (by kernel_rfl:Try.f43.body=some (qAN Try.f43)) (by kernel_rfl) (Eq.mpr (by kernel_rfl) h)
theorem qJx {t0 n1 links2:AV} {K:KvP} {s:Hq} (h:qDj XX t0 n1 links2 K s):wC Try.prog XX 43 [t0,n1,links2] K s:=qJs qA4 rfl h
def qGM (X:Td)(t0 dst1:AV) (K:KvP) (s:Hq):Prop:=
 wC Try.prog X 41 [t0] (λV0 S1=>oK (qBo .not V0) λV2=>qAU V2
 (K .nilslc S1)
 (wC Try.prog X 45 [t0,dst1] (λV3 S4=>oK (qAG V3 0) λV5=>oK (qAG V3 1) λV6=>newK 89 [(.int .u32 0),.nilslc] (λB7 S8=>oK (qBs S8 2 (.ptr B7 0) V5) λS9=>oK (qAK 1 (.ptr B7 0)) λV10=>oK (rd1 S9 V10) λV11=>wC Try.prog X 46 [V11] (λV12 S13=>K V12 S13) S9) S4) S1)) s
def qIN:Nat→List Nat:=λ_=>[]
theorem qIs {X:Td} (hX:FrX X) (hn:X 25=none) {t0 dst1:AV} {K:KvP} {s:Hq} (h:qGM X t0 dst1 K s):wC Try.prog X 25 [t0,dst1] K s:=
 qAF hX qIN hn Try.func25 (by kernel_rfl:Try.f25.body=some (qAN Try.f25)) (by kernel_rfl) (Eq.mpr (by kernel_rfl) h)
theorem qIg {t0 dst1:AV} {K:KvP} {s:Hq} (h:qGM XX t0 dst1 K s):wC Try.prog XX 25 [t0,dst1] K s:=qIs qA4 rfl h
def qHr (X:Td)(t0 dst1:AV) (K:KvP) (s:Hq):Prop:=
 newK 89 [(.int .u32 0),.nilslc] (λB0 S1=>oK (qAL t0) λV2=>oK (qAK 4 V2) λV3=>oK (rd1 S1 V3) λV4=>wC Try.prog X 68 [V4,dst1,(.fn (.func 69) [] [])] (λV5 S6=>oK (qAG V5 0) λV7=>oK (qAG V5 1) λV8=>oK (qBo .not V8) λV9=>qAU V9
 (oK (qBP [(.int .u32 0),.nilslc] []) λC10=>oK (qBs S6 2 (.ptr B0 0) (.agg C10)) λS11=>oK (rdN S11 2 (.ptr B0 0)) λt4_12=>K (.tup [(.agg t4_12),(.bool false)]) S11)
 (oK (qAL t0) λV13=>oK (qAK 4 V13) λV14=>oK (rd1 S6 V14) λV15=>oK (qAV 2 V15 V7) λV16=>oK (rdN S6 2 V16) λV17=>oK (qBs S6 2 (.ptr B0 0) (.agg V17)) λS18=>oK (rdN S18 2 (.ptr B0 0)) λt4_19=>K (.tup [(.agg t4_19),(.bool true)]) S18)) S1) s
def qJQ:Nat→List Nat:=λ_=>[]
theorem qKF {X:Td} (hX:FrX X) (hn:X 45=none) {t0 dst1:AV} {K:KvP} {s:Hq} (h:qHr X t0 dst1 K s):wC Try.prog X 45 [t0,dst1] K s:=
 qAF hX qJQ hn Try.func45 (by kernel_rfl:Try.f45.body=some (qAN Try.f45)) (by kernel_rfl) (Eq.mpr (by kernel_rfl) h)
theorem qJw {t0 dst1:AV} {K:KvP} {s:Hq} (h:qHr XX t0 dst1 K s):wC Try.prog XX 45 [t0,dst1] K s:=qKF qA4 rfl h
def qAa (X:Td)(t35 t39 t47:AV) (K:KvP) (s:Hq):Prop:=
 oK (qB4 t39 t47 (.bool false)) λV14=>K (.tup [t35,V14]) s
def qA2 (X:Td)(x0 target1 cmp2 n8 i9 j10:AV) (I0:IvP) (m0:Nat) (K:KvP) (s:Hq):Prop:=
 oK (qAJ .lss i9 j10) λV2=>qAU V2
 (oK (qAJ .add i9 j10) λV3=>oK (qGq .u64 V3) λV4=>oK (qL7 .shr V4 (.int .u64 1)) λV5=>oK (qGq .i64 V5) λV6=>oK (qAV 2 x0 V6) λV7=>oK (rdN s 2 V7) λV8=>funK Try.prog X cmp2 [(.agg V8),target1] (λV9 S10=>oK (qAJ .lss V9 (.int .i64 0)) λV11=>qAU V11
 (oK (qAJ .add V6 (.int .i64 1)) λV12=>∃ m',m' < m0∧I0 [V12,j10] S10 m')
 (∃ m',m' < m0∧I0 [i9,V6] S10 m')) s)
 (oK (qAJ .lss i9 n8) λV13=>qAU V13
 (oK (qAV 2 x0 i9) λV15=>oK (rdN s 2 V15) λV16=>funK Try.prog X cmp2 [(.agg V16),target1] (λV17 S18=>oK (negB false (eqV 0 true V17 (.int .i64 0))) λV19=>qAa X i9 V13 V19 K S18) s)
 (qAa X i9 V13 .undef K s))
def qAn (X:Td)(x0 target1 cmp2:AV) (K:KvP) (s:Hq):Prop:=
 oK (qAg x0) λV0=>∃ I0:IvP,(∃ m,I0 [(.int .i64 0),(.int .i64 V0)] s m)∧∀ (f:Env) (s:Hq) (m0:Nat),I0 [f 9,f 10] s m0→
 qA2 X x0 target1 cmp2 (.int .i64 V0) (f 9) (f 10) I0 m0 K s
def qBd:Nat→List Nat:=λk=>cond (Nat.beq k 6) [9,10] ([])
theorem qBh {X:Td} (hX:FrX X) (hn:X 68=none) {x0 target1 cmp2:AV} {K:KvP} {s:Hq} (h:qAn X x0 target1 cmp2 K s):wC Try.prog X 68 [x0,target1,cmp2] K s:=
 qAF hX qBd hn Try.func68 (by kernel_rfl:Try.f68.body=some (qAN Try.f68)) (by kernel_rfl) (Eq.mpr (by kernel_rfl) h)
theorem qBk {x0 target1 cmp2:AV} {K:KvP} {s:Hq} (h:qAn XX x0 target1 cmp2 K s):wC Try.prog XX 68 [x0,target1,cmp2] K s:=qBh qA4 rfl h
def qEk (X:Td)(e0 dst1:AV) (K:KvP) (s:Hq):Prop:=
 boxK 89 e0 (λB0 S1=>oK (qAK 0 B0) λV2=>oK (rd1 S1 V2) λV3=>wC Try.prog X 82 [V3,dst1] (λV4 S5=>K V4 S5) S1) s
def qGN:Nat→List Nat:=λ_=>[]
theorem qHW {X:Td} (hX:FrX X) (hn:X 69=none) {e0 dst1:AV} {K:KvP} {s:Hq} (h:qEk X e0 dst1 K s):wC Try.prog X 69 [e0,dst1] K s:=
 qAF hX qGN hn Try.func69 (by kernel_rfl:Try.f69.body=some (qAN Try.f69)) (by kernel_rfl) (Eq.mpr (by kernel_rfl) h)
theorem qHN {e0 dst1:AV} {K:KvP} {s:Hq} (h:qEk XX e0 dst1 K s):wC Try.prog XX 69 [e0,dst1] K s:=qHW qA4 rfl h
def qA9 (X:Td)(t0:AV) (K:KvP) (s:Hq):Prop:=
 oK (negB false (eqV 5 true t0 .nilslc)) λV0=>qAU V0
 (K .nilslc s)
 (oK (qBP (repl 0 [(.int .i64 0),(.int .i64 0),(.int .i64 0)]) []) λC1=>qAX C1=true∧newK 27 C1 (λB2 S3=>appK 27 3 (.slc B2 0 0 (some 0) 3) t0 (λV4 S5=>K V4 S5) S3) s)
def qDm:Nat→List Nat:=λ_=>[]
theorem qDo {X:Td} (hX:FrX X) (hn:X 40=none) {t0:AV} {K:KvP} {s:Hq} (h:qA9 X t0 K s):wC Try.prog X 40 [t0] K s:=
 qAF hX qDm hn Try.func40 (by kernel_rfl:Try.f40.body=some (qAN Try.f40)) (by kernel_rfl) (Eq.mpr (by kernel_rfl) h)
theorem qDp {t0:AV} {K:KvP} {s:Hq} (h:qA9 XX t0 K s):wC Try.prog XX 40 [t0] K s:=qDo qA4 rfl h
def qEQ (X:Td)(n0:AV) (K:KvP) (s:Hq):Prop:=
 wC Try.prog X 36 [n0] (λV0 S1=>oK (qAG V0 0) λV2=>oK (qAG V0 1) λV3=>K V2 S1) s
def qFu:Nat→List Nat:=λ_=>[]
theorem qGD {X:Td} (hX:FrX X) (hn:X 21=none) {n0:AV} {K:KvP} {s:Hq} (h:qEQ X n0 K s):wC Try.prog X 21 [n0] K s:=
 qAF hX qFu hn Try.func21 (by kernel_rfl:Try.f21.body=some (qAN Try.f21)) (by kernel_rfl) (Eq.mpr (by kernel_rfl) h)
theorem qGn {n0:AV} {K:KvP} {s:Hq} (h:qEQ XX n0 K s):wC Try.prog XX 21 [n0] K s:=qGD qA4 rfl h
def qEO (X:Td)(p3 t5 link7 t20 t21 t22:AV) (I0:IvP) (m0:Nat) (K:KvP) (s:Hq):Prop:=
 oK (qAJ .lss t22 t21) λV21=>qAU V21
 (oK (qAV 1 t20 t22) λV22=>oK (rd1 s V22) λV23=>funK Try.prog X V23 [] (λV24 S25=>oK (negB true (eqV 0 true V24 (.int .i64 0))) λV26=>qAU V26
 (oK (qBP [(.int .u32 0),(.int .u32 0),(.int .i64 0),(.int .i64 0),(.int .u32 0),(.int .u32 0),(.int .u64 0),(.int .u64 0),(.int .i64 0),(.int .i64 0),(.int .u64 0),(.int .u32 0),(.int .u64 0),(.int .u32 0),(.int .u32 0),(.int .u32 0),(.int .i64 0),(.int .i64 0),(.int .i64 0),(.int .i64 0),(.int .u64 0)] []) λC27=>oK (qBs S25 21 t5 (.agg C27)) λS28=>oK (rdN S28 21 t5) λt5_29=>K (.tup [(.int .i64 0),(.agg t5_29),V24]) S28)
 (oK (qAJ .add t22 (.int .i64 1)) λV30=>∃ m',m' < m0∧I0 [V30] S25 m')) s)
 (oK (qAK 2 p3) λV31=>oK (rd1 s V31) λV32=>oK (qAJ .sub V32 (.int .i64 1)) λV33=>oK (qAK 2 p3) λV34=>oK (wr1 s V34 V33) λS35=>oK (rd1 S35 link7) λV36=>oK (rdN S35 21 p3) λV37=>oK (qBs S35 21 t5 (.agg V37)) λS38=>oK (rdN S38 21 t5) λt5_39=>K (.tup [V36,(.agg t5_39),(.int .i64 0)]) S38)
def qFh (X:Td)(t0 p1:AV) (K:KvP) (s:Hq):Prop:=
 boxK 37 t0 (λB0 S1=>boxK 56 p1 (λB2 S3=>newK 56 [(.int .u32 0),(.int .u32 0),(.int .i64 0),(.int .i64 0),(.int .u32 0),(.int .u32 0),(.int .u64 0),(.int .u64 0),(.int .i64 0),(.int .i64 0),(.int .u64 0),(.int .u32 0),(.int .u64 0),(.int .u32 0),(.int .u32 0),(.int .u32 0),(.int .i64 0),(.int .i64 0),(.int .i64 0),(.int .i64 0),(.int .u64 0)] (λB4 S5=>oK (rd1 S5 B0) λV6=>wC Try.prog X 41 [V6] (λV7 S8=>oK (qBo .not V7) λV9=>qAU V9
 (oK (qBP [(.int .u32 0),(.int .u32 0),(.int .i64 0),(.int .i64 0),(.int .u32 0),(.int .u32 0),(.int .u64 0),(.int .u64 0),(.int .i64 0),(.int .i64 0),(.int .u64 0),(.int .u32 0),(.int .u64 0),(.int .u32 0),(.int .u32 0),(.int .u32 0),(.int .i64 0),(.int .i64 0),(.int .i64 0),(.int .i64 0),(.int .u64 0)] []) λC10=>oK (qBs S8 21 (.ptr B4 0) (.agg C10)) λS11=>oK (rdN S11 21 (.ptr B4 0)) λt5_12=>K (.tup [(.int .i64 0),(.agg t5_12),(.int .i64 1)]) S11)
 (newK 3 [(.int .i64 0)] (λB13 S14=>oK (wr1 S14 (.ptr B13 0) (.int .i64 0)) λS15=>oK (qBP (repl 3 [.nilFunc]) [(0,1,(.fn (.func 51) [] [B2,B0])),(1,1,(.fn (.func 53) [] [B2])),(2,1,(.fn (.func 54) [] [B0,B2,(.ptr B13 0)]))]) λC16=>qAX C16=true∧newK 108 C16 (λB17 S18=>oK (qAg (.slc B17 0 3 (some 3) 1)) λV19=>∃ I0:IvP,(∃ m,I0 [(.int .i64 0)] S18 m)∧∀ (f:Env) (s:Hq) (m0:Nat),I0 [f 22] s m0→
 qEO X B2 (.ptr B4 0) (.ptr B13 0) (.slc B17 0 3 (some 3) 1) (.int .i64 V19) (f 22) I0 m0 K s) S15) S8)) S5) S3) S1) s
def qHj:Nat→List Nat:=λk=>cond (Nat.beq k 12) [22] ([])
theorem qH0 {X:Td} (hX:FrX X) (hn:X 32=none) {t0 p1:AV} {K:KvP} {s:Hq} (h:qFh X t0 p1 K s):wC Try.prog X 32 [t0,p1] K s:=
 qAF hX qHj hn Try.func32 (by kernel_rfl:Try.f32.body=some (qAN Try.f32)) (by kernel_rfl) (Eq.mpr (by kernel_rfl) h)
theorem qH1 {t0 p1:AV} {K:KvP} {s:Hq} (h:qFh XX t0 p1 K s):wC Try.prog XX 32 [t0,p1] K s:=qH0 qA4 rfl h
def qC2 (X:Td)(t0 t1:AV) (K:KvP) (s:Hq):Prop:=
 oK (qAK 1 t0) λV0=>oK (rd1 s V0) λV1=>oK (rd1 s t1) λV2=>oK (qAL V2) λV3=>oK (qAK 2 V3) λV4=>oK (rd1 s V4) λV5=>oK (negB true (eqV 0 false V1 V5)) λV6=>wC Try.prog X 52 [V6,(.int .i64 9)] (λV7 S8=>K V7 S8) s
def qGO:Nat→List Nat:=λ_=>[]
theorem qG5 {X:Td} (hX:FrX X) (hn:X 51=none) {t0 t1:AV} {K:KvP} {s:Hq} (h:qC2 X t0 t1 K s):wC Try.prog X 51 [t0,t1] K s:=
 qAF hX qGO hn Try.func51 (by kernel_rfl:Try.f51.body=some (qAN Try.f51)) (by kernel_rfl) (Eq.mpr (by kernel_rfl) h)
theorem qG3 {t0 t1:AV} {K:KvP} {s:Hq} (h:qC2 XX t0 t1 K s):wC Try.prog XX 51 [t0,t1] K s:=qG5 qA4 rfl h
def qC1 (X:Td)(t0:AV) (K:KvP) (s:Hq):Prop:=
 oK (qAK 2 t0) λV0=>oK (rd1 s V0) λV1=>oK (qAJ .geq V1 (.int .i64 2)) λV2=>wC Try.prog X 52 [V2,(.int .i64 20)] (λV3 S4=>K V3 S4) s
def qGX:Nat→List Nat:=λ_=>[]
theorem qHG {X:Td} (hX:FrX X) (hn:X 53=none) {t0:AV} {K:KvP} {s:Hq} (h:qC1 X t0 K s):wC Try.prog X 53 [t0] K s:=
 qAF hX qGX hn Try.func53 (by kernel_rfl:Try.f53.body=some (qAN Try.f53)) (by kernel_rfl) (Eq.mpr (by kernel_rfl) h)
theorem qGy {t0:AV} {K:KvP} {s:Hq} (h:qC1 XX t0 K s):wC Try.prog XX 53 [t0] K s:=qHG qA4 rfl h
def qCy (X:Td)(t0 t1 t2:AV) (K:KvP) (s:Hq):Prop:=
 oK (rd1 s t0) λV0=>oK (rdN s 21 t1) λV1=>wC Try.prog X 55 [V0,(.agg V1)] (λV2 S3=>oK (qAG V2 0) λV4=>oK (qAG V2 1) λV5=>oK (wr1 S3 t2 V4) λS6=>wC Try.prog X 52 [V5,(.int .i64 13)] (λV7 S8=>K V7 S8) S6) s
def qGW:Nat→List Nat:=λ_=>[]
theorem qHV {X:Td} (hX:FrX X) (hn:X 54=none) {t0 t1 t2:AV} {K:KvP} {s:Hq} (h:qCy X t0 t1 t2 K s):wC Try.prog X 54 [t0,t1,t2] K s:=
 qAF hX qGW hn Try.func54 (by kernel_rfl:Try.f54.body=some (qAN Try.f54)) (by kernel_rfl) (Eq.mpr (by kernel_rfl) h)
theorem qHO {t0 t1 t2:AV} {K:KvP} {s:Hq} (h:qCy XX t0 t1 t2 K s):wC Try.prog XX 54 [t0,t1,t2] K s:=qHV qA4 rfl h
def qKE (X:Td)(ok0 err1:AV) (K:KvP) (s:Hq):Prop:=
 qAU ok0
 (K (.int .i64 0) s)
 (K err1 s)
def qKj:Nat→List Nat:=λ_=>[]
theorem qLY {X:Td} (hX:FrX X) (hn:X 52=none) {ok0 err1:AV} {K:KvP} {s:Hq} (h:qKE X ok0 err1 K s):wC Try.prog X 52 [ok0,err1] K s:=
 qAF hX qKj hn Try.func52 (by kernel_rfl:Try.f52.body=some (qAN Try.f52)) (by kernel_rfl) (Eq.mpr (by kernel_rfl) h)
theorem qLa {ok0 err1:AV} {K:KvP} {s:Hq} (h:qKE XX ok0 err1 K s):wC Try.prog XX 52 [ok0,err1] K s:=qLY qA4 rfl h
def qIK (X:Td)(t0 p1:AV) (K:KvP) (s:Hq):Prop:=
 boxK 56 p1 (λB0 S1=>oK (qAK 1 B0) λV2=>oK (rd1 S1 V2) λV3=>wC Try.prog X 42 [V3] (λV4 S5=>oK (qAG V4 0) λV6=>oK (qAG V4 1) λV7=>oK (qBo .not V7) λV8=>qAU V8
 (K (.tup [(.int .i64 0),(.bool false)]) S5)
 (oK (qAK 1 B0) λV9=>oK (rd1 S5 V9) λV10=>wC Try.prog X 45 [t0,V10] (λV11 S12=>oK (qAG V11 0) λV13=>oK (qAG V11 1) λV14=>oK (qBo .not V14) λV15=>qAU V15
 (K (.tup [(.int .i64 0),(.bool false)]) S12)
 (oK (qAL t0) λV16=>oK (qAK 5 V16) λV17=>oK (rd1 S12 V17) λV18=>oK (getM S12 V18 V6) λr_19=>oK (rdN S12 21 B0) λV20=>wC Try.prog X 77 [(.agg V20)] (λV21 S22=>(∀ b,S12 b≠none→S12 b=none→S22 b=none)→
 wC Try.prog X 76 [(retM .nilptr false r_19),V21] (λV23 S24=>oK (qAG V23 0) λV25=>oK (qAG V23 1) λV26=>K (.tup [V25,V26]) S24) (add S12 S22)) (frz S12))) S5)) S1) s
def qJI:Nat→List Nat:=λ_=>[]
theorem qJ4 {X:Td} (hX:FrX X) (hn:X 55=none) {t0 p1:AV} {K:KvP} {s:Hq} (h:qIK X t0 p1 K s):wC Try.prog X 55 [t0,p1] K s:=
 qAF hX qJI hn Try.func55 (by kernel_rfl:Try.f55.body=some (qAN Try.f55)) (by kernel_rfl) (Eq.mpr (by kernel_rfl) h)
theorem qJr {t0 p1:AV} {K:KvP} {s:Hq} (h:qIK XX t0 p1 K s):wC Try.prog XX 55 [t0,p1] K s:=qJ4 qA4 rfl h
end Go.AM
namespace Go.AM
open Go Go.Proofs
set_option maxRecDepth 100000
def qDt (X:Td)(x0 y1:AV) (K:KvP) (s:Hq):Prop:=
 wC Try.prog X 93 [x0] (λV0 S1=>wC Try.prog X 93 [y1] (λV2 S3=>qAU V0
 (qAU V2
 (K (.int .i64 0) S3)
 (K (.int .i64 (-1)) S3))
 (qAU V2
 (K (.int .i64 1) S3)
 (oK (qAJ .lss x0 y1) λV4=>qAU V4
 (K (.int .i64 (-1)) S3)
 (oK (qAJ .gtr x0 y1) λV5=>qAU V5
 (K (.int .i64 1) S3)
 (K (.int .i64 0) S3))))) S1) s
def qFU:Nat→List Nat:=λ_=>[]
theorem qF0 {X:Td} (hX:FrX X) (hn:X 82=none) {x0 y1:AV} {K:KvP} {s:Hq} (h:qDt X x0 y1 K s):wC Try.prog X 82 [x0,y1] K s:=
 qAF hX qFU hn Try.func82 (by kernel_rfl:Try.f82.body=some (qAN Try.f82)) (by kernel_rfl) (Eq.mpr (by kernel_rfl) h)
theorem qF4 {x0 y1:AV} {K:KvP} {s:Hq} (h:qDt XX x0 y1 K s):wC Try.prog XX 82 [x0,y1] K s:=qF0 qA4 rfl h
def qB5 (X:Td)(x0:AV) (K:KvP) (s:Hq):Prop:=
 oK (negB true (eqV 0 false x0 x0)) λV0=>K V0 s
def qGJ:Nat→List Nat:=λ_=>[]
theorem qHJ {X:Td} (hX:FrX X) (hn:X 93=none) {x0:AV} {K:KvP} {s:Hq} (h:qB5 X x0 K s):wC Try.prog X 93 [x0] K s:=
 qAF hX qGJ hn Try.func93 (by kernel_rfl:Try.f93.body=some (qAN Try.f93)) (by kernel_rfl) (Eq.mpr (by kernel_rfl) h)
theorem qDa {x0:AV} {K:KvP} {s:Hq} (h:qB5 XX x0 K s):wC Try.prog XX 93 [x0] K s:=qHJ qA4 rfl h
def qI3 (X:Td)(p0:AV) (K:KvP) (s:Hq):Prop:=
 boxK 56 p0 (λB0 S1=>oK (rdN S1 21 B0) λV2=>wC Try.prog X 88 [(.agg V2)] (λV3 S4=>wC Try.prog X 87 [V3,(.int .u64 14695981039346656037),(.fn (.func 89) [] [])] (λV5 S6=>K V5 S6) S4) S1) s
def qJo:Nat→List Nat:=λ_=>[]
theorem qKq {X:Td} (hX:FrX X) (hn:X 77=none) {p0:AV} {K:KvP} {s:Hq} (h:qI3 X p0 K s):wC Try.prog X 77 [p0] K s:=
 qAF hX qJo hn Try.func77 (by kernel_rfl:Try.f77.body=some (qAN Try.f77)) (by kernel_rfl) (Eq.mpr (by kernel_rfl) h)
theorem qKz {p0:AV} {K:KvP} {s:Hq} (h:qI3 XX p0 K s):wC Try.prog XX 77 [p0] K s:=qKq qA4 rfl h
def qEX (X:Td)(h0 b1:AV) (K:KvP) (s:Hq):Prop:=
 oK (qGq .u64 b1) λV0=>oK (qAJ .xor h0 V0) λV1=>oK (qAJ .mul V1 (.int .u64 1099511628211)) λV2=>K V2 s
def qIr:Nat→List Nat:=λ_=>[]
theorem qJT {X:Td} (hX:FrX X) (hn:X 89=none) {h0 b1:AV} {K:KvP} {s:Hq} (h:qEX X h0 b1 K s):wC Try.prog X 89 [h0,b1] K s:=
 qAF hX qIr hn Try.func89 (by kernel_rfl:Try.f89.body=some (qAN Try.f89)) (by kernel_rfl) (Eq.mpr (by kernel_rfl) h)
theorem qJP {h0 b1:AV} {K:KvP} {s:Hq} (h:qEX XX h0 b1 K s):wC Try.prog XX 89 [h0,b1] K s:=qJT qA4 rfl h
def qCc (X:Td)(seq0 start1 combine2:AV) (K:KvP) (s:Hq):Prop:=
 boxK 166 combine2 (λB0 S1=>newK 47 [(.int .u64 0)] (λB2 S3=>oK (wr1 S3 (.ptr B2 0) start1) λS4=>rngK Try.prog X 17 none seq0 [(5,B0),(7,(.ptr B2 0))] [11] (rfAs 0 (qAN Try.f87)) (rfBo 0 (qAN Try.f87)) (λS5=>oK (rd1 S5 (.ptr B2 0)) λV7=>K V7 S5)
 (λS6=>K (.int .u64 0) S6)
 (λid S8=>cond (Nat.beq id 0)
 (oK (rd1 S8 (.ptr B2 0)) λV9=>K V9 S8)
 (False)) S4) S1) s
def qA5:Nat→List Nat:=λk=>cond (Nat.beq k 9) [5,7] ([])
theorem qEM {X:Td} (hX:FrX X) (hn:X 87=none) {seq0 start1 combine2:AV} {K:KvP} {s:Hq} (h:qCc X seq0 start1 combine2 K s):wC Try.prog X 87 [seq0,start1,combine2] K s:=
 qAF hX qA5 hn Try.func87 (by kernel_rfl:Try.f87.body=some (qAN Try.f87)) (by kernel_rfl) (Eq.mpr (by kernel_rfl) h)
theorem qEN {seq0 start1 combine2:AV} {K:KvP} {s:Hq} (h:qCc XX seq0 start1 combine2 K s):wC Try.prog XX 87 [seq0,start1,combine2] K s:=qEM qA4 rfl h
def qCD (X:Td)(l:Nat) (combine5 result7 t11:AV) (E:AExit→Hq→Prop) (s:Hq):Prop:=
 AExit.nrm=.nrm∧qJh l (λS0=>oK (rd1 S0 combine5) λV1=>oK (rd1 S0 result7) λV2=>funK Try.prog X V1 [V2,t11] (λV3 S4=>oK (wr1 S4 result7 V3) λS5=>E .nrm S5) S0) s
theorem qDb (X:Td)(l:Nat) (f:Env) (t11:AV) (E:AExit→Hq→Prop) (s:Hq):wpC Try.prog X qA5 Try.f87.ntmps (some l) (rfAs 0 (qAN Try.f87)) (setE f [11] [t11]) (λe env s=>e=.nrm∧qJh l (λs=>wpC Try.prog X qA5 Try.f87.ntmps (some l) (rfBo 0 (qAN Try.f87)) env (λe _ s=>E e s) s) s) s=qCD X l (f 5) (f 7) t11 E s:=by kernel_rfl
theorem qDY {l:Nat} {t:Bool} {st:LoopState} {pd:Option Code} {d:Nat} {combine5 result7 t11:AV} {K:KvP} {s:Hq} (hs:s l=some (t,.loop st pd 17 [(5,combine5),(7,result7)] [11] (rfAs 0 (qAN Try.f87)) (rfBo 0 (qAN Try.f87)) d)) (h:qCD XX l combine5 result7 t11 (λe s=>endK l e K s) s):qJK Try.prog XX l [t11] K s:=
 qNu qA4 qA5 hs rfl rfl λf hf=>by
 refine (qDb XX l f t11 (λe s=>endK l e K s) s).mpr ?_
 rw [show f 5=combine5 from hf (5,combine5) (by simp)]
 rw [show f 7=result7 from hf (7,result7) (by simp)]
 exact h
def qI5 (X:Td)(p0:AV) (K:KvP) (s:Hq):Prop:=
 boxK 56 p0 (λB0 S1=>K (.fn (.func 94) [] [B0]) S1) s
def qJb:Nat→List Nat:=λ_=>[]
theorem qKd {X:Td} (hX:FrX X) (hn:X 88=none) {p0:AV} {K:KvP} {s:Hq} (h:qI5 X p0 K s):wC Try.prog X 88 [p0] K s:=
 qAF hX qJb hn Try.func88 (by kernel_rfl:Try.f88.body=some (qAN Try.f88)) (by kernel_rfl) (Eq.mpr (by kernel_rfl) h)
theorem qKg {p0:AV} {K:KvP} {s:Hq} (h:qI5 XX p0 K s):wC Try.prog XX 88 [p0] K s:=qKd qA4 rfl h
def qDG (X:Td)(t22 t27:AV) (K:KvP) (s:Hq):Prop:=
 oK (qB4 t22 t27 (.bool false)) λV7=>K (.tup []) s
def qDL (X:Td)(yield0 t1 t15 t20:AV) (K:KvP) (s:Hq):Prop:=
 oK (qB4 t15 t20 (.bool false)) λV6=>qAU V6
 (oK (qAK 4 t1) λV8=>oK (rd1 s V8) λV9=>oK (qGq .u64 V9) λV10=>wC Try.prog X 95 [V10,(.int .i64 3),yield0] (λV11 S12=>qDG X V6 V11 K S12) s)
 (qDG X V6 .undef K s)
def qDO (X:Td)(yield0 t1 t8 t13:AV) (K:KvP) (s:Hq):Prop:=
 oK (qB4 t8 t13 (.bool false)) λV5=>qAU V5
 (oK (qAK 3 t1) λV13=>oK (rd1 s V13) λV14=>oK (qGq .u64 V14) λV15=>wC Try.prog X 95 [V15,(.int .i64 2),yield0] (λV16 S17=>qDL X yield0 t1 V5 V16 K S17) s)
 (qDL X yield0 t1 V5 .undef K s)
def qEj (X:Td)(yield0 t1:AV) (K:KvP) (s:Hq):Prop:=
 oK (qAK 0 t1) λV0=>oK (rd1 s V0) λV1=>oK (qGq .u64 V1) λV2=>wC Try.prog X 95 [V2,(.int .i64 4),yield0] (λV3 S4=>qAU V3
 (oK (qAK 1 t1) λV18=>oK (rd1 S4 V18) λV19=>oK (qGq .u64 V19) λV20=>wC Try.prog X 95 [V20,(.int .i64 4),yield0] (λV21 S22=>qDO X yield0 t1 V3 V21 K S22) S4)
 (qDO X yield0 t1 V3 .undef K S4)) s
def qIt:Nat→List Nat:=λ_=>[]
theorem qJY {X:Td} (hX:FrX X) (hn:X 94=none) {yield0 t1:AV} {K:KvP} {s:Hq} (h:qEj X yield0 t1 K s):wC Try.prog X 94 [yield0,t1] K s:=
 qAF hX qIt hn Try.func94 (by kernel_rfl:Try.f94.body=some (qAN Try.f94)) (by kernel_rfl) (Eq.mpr (by kernel_rfl) h)
theorem qJF {yield0 t1:AV} {K:KvP} {s:Hq} (h:qEj XX yield0 t1 K s):wC Try.prog XX 94 [yield0,t1] K s:=qJY qA4 rfl h
def qFC (X:Td)(v0 yield2 i7:AV) (I0:IvP) (m0:Nat) (K:KvP) (s:Hq):Prop:=
 oK (qAJ .geq i7 (.int .i64 0)) λV1=>qAU V1
 (oK (qAJ .mul (.int .i64 8) i7) λV2=>oK (qL7 .shr v0 V2) λV3=>oK (qGq .u8 V3) λV4=>funK Try.prog X yield2 [V4] (λV5 S6=>oK (qBo .not V5) λV7=>qAU V7
 (K (.bool false) S6)
 (oK (qAJ .sub i7 (.int .i64 1)) λV8=>∃ m',m' < m0∧I0 [V8] S6 m')) s)
 (K (.bool true) s)
def qET (X:Td)(v0 size1 yield2:AV) (K:KvP) (s:Hq):Prop:=
 oK (qAJ .sub size1 (.int .i64 1)) λV0=>∃ I0:IvP,(∃ m,I0 [V0] s m)∧∀ (f:Env) (s:Hq) (m0:Nat),I0 [f 7] s m0→
 qFC X v0 yield2 (f 7) I0 m0 K s
def qIn:Nat→List Nat:=λk=>cond (Nat.beq k 4) [7] ([])
theorem qJE {X:Td} (hX:FrX X) (hn:X 95=none) {v0 size1 yield2:AV} {K:KvP} {s:Hq} (h:qET X v0 size1 yield2 K s):wC Try.prog X 95 [v0,size1,yield2] K s:=
 qAF hX qIn hn Try.func95 (by kernel_rfl:Try.f95.body=some (qAN Try.f95)) (by kernel_rfl) (Eq.mpr (by kernel_rfl) h)
theorem qJH {v0 size1 yield2:AV} {K:KvP} {s:Hq} (h:qET XX v0 size1 yield2 K s):wC Try.prog XX 95 [v0,size1,yield2] K s:=qJE qA4 rfl h
end Go.AM
namespace Go.AM
open Go Go.Proofs
set_option maxRecDepth 100000
def qIP (X:Td)(nodes0 links1 up2:AV) (K:KvP) (s:Hq):Prop:=
 oK (nat? nodes0) λn_0=>oK (nat? nodes0) λn_1=>(n_0≤n_1∧n_1≤4294967296)∧newK 103 (repl n_1 [.nilslc]) (λB2 S3=>newK 101 [.nilslc] (λB4 S5=>oK (wr1 S5 (.ptr B4 0) (.slc B2 0 n_0 (some n_1) 1)) λS6=>wC Try.prog X 75 [links1,up2] (λV7 S8=>rngK Try.prog X 52 none V7 [(7,(.ptr B4 0))] [15,16] (rfAs 0 (qAN Try.f49)) (rfBo 0 (qAN Try.f49)) (λS9=>oK (rd1 S9 (.ptr B4 0)) λV11=>K V11 S9)
 (λS10=>K .nilslc S10)
 (λid S12=>cond (Nat.beq id 0)
 (oK (rd1 S12 (.ptr B4 0)) λV13=>K V13 S12)
 (False)) S8) S6) S3) s
def qDC:Nat→List Nat:=λk=>cond (Nat.beq k 11) [7] (cond (Nat.beq k 1000017) [15] (cond (Nat.beq k 1000034) [15] ([])))
theorem qL0 {X:Td} (hX:FrX X) (hn:X 49=none) {nodes0 links1 up2:AV} {K:KvP} {s:Hq} (h:qIP X nodes0 links1 up2 K s):wC Try.prog X 49 [nodes0,links1,up2] K s:=
 qAF hX qDC hn Try.func49 (by kernel_rfl:Try.f49.body=some (qAN Try.f49)) (by kernel_rfl) (Eq.mpr (by kernel_rfl) h)
theorem qLw {nodes0 links1 up2:AV} {K:KvP} {s:Hq} (h:qIP XX nodes0 links1 up2 K s):wC Try.prog XX 49 [nodes0,links1,up2] K s:=qL0 qA4 rfl h
def qIS (X:Td)(l:Nat) (all7 t15 t16:AV) (E:AExit→Hq→Prop) (s:Hq):Prop:=
 newK 27 [(.int .i64 0),(.int .i64 0),(.int .i64 0)] (λB0 S1=>oK (qBs S1 3 (.ptr B0 0) t16) λS2=>AExit.nrm=.nrm∧qJh l (λS3=>oK (rd1 S3 all7) λV4=>oK (qAK 0 (.ptr B0 0)) λV5=>oK (rd1 S3 V5) λV6=>oK (rd1 S3 all7) λV7=>oK (qAK 0 (.ptr B0 0)) λV8=>oK (rd1 S3 V8) λV9=>oK (qAV 1 V7 V9) λV10=>oK (rd1 S3 V10) λV11=>oK (qAK 1 (.ptr B0 0)) λV12=>oK (rd1 S3 V12) λV13=>oK (qAK 2 (.ptr B0 0)) λV14=>oK (rd1 S3 V14) λV15=>oK (qBP [(.int .i64 0),(.int .i64 0),(.int .i64 0)] [(0,1,t15),(1,1,V13),(2,1,V15)]) λC16=>oK (qBP (repl 1 [(.int .i64 0),(.int .i64 0),(.int .i64 0)]) [(0,3,(.agg C16))]) λC17=>qAX C17=true∧newK 106 C17 (λB18 S19=>(∀ b,S3 b≠none→S3 b=none→S19 b=none)→
 ∃ h_20:Hq,(∀ b,h_20 b≠none→(add S3 S19) b≠none)∧appK 106 3 V11 (.slc B18 0 1 (some 1) 3) (λV21 S22=>(∀ b,(add S3 S19) b≠none→(cutH [((hdel S3 (qIJ all7)),S3),((hdel S3 (qIJ V5)),S3)] (minus (add S3 S19) h_20)) b=none→S22 b=none)→
 oK (qAV 1 V4 V6) λV23=>oK (wr1 (add S22 (rest (add S3 S19) (cutH [((hdel S3 (qIJ all7)),S3),((hdel S3 (qIJ V5)),S3)] (minus (add S3 S19) h_20)))) V23 V21) λS24=>oK (rd1 S24 all7) λV25=>oK (qAK 1 (.ptr B0 0)) λV26=>oK (rd1 S24 V26) λV27=>oK (rd1 S24 all7) λV28=>oK (qAK 1 (.ptr B0 0)) λV29=>oK (rd1 S24 V29) λV30=>oK (qAV 1 V28 V30) λV31=>oK (rd1 S24 V31) λV32=>oK (qAK 0 (.ptr B0 0)) λV33=>oK (rd1 S24 V33) λV34=>oK (qAK 2 (.ptr B0 0)) λV35=>oK (rd1 S24 V35) λV36=>oK (qBP [(.int .i64 0),(.int .i64 0),(.int .i64 0)] [(0,1,t15),(1,1,V34),(2,1,V36)]) λC37=>oK (qBP (repl 1 [(.int .i64 0),(.int .i64 0),(.int .i64 0)]) [(0,3,(.agg C37))]) λC38=>qAX C38=true∧newK 106 C38 (λB39 S40=>(∀ b,S24 b≠none→S24 b=none→S40 b=none)→
 ∃ h_41:Hq,(∀ b,h_41 b≠none→(add S24 S40) b≠none)∧appK 106 3 V32 (.slc B39 0 1 (some 1) 3) (λV42 S43=>(∀ b,(add S24 S40) b≠none→(cutH [((hdel S24 (qIJ all7)),S24),((hdel S24 (qIJ V26)),S24)] (minus (add S24 S40) h_41)) b=none→S43 b=none)→
 oK (qAV 1 V25 V27) λV44=>oK (wr1 (add S43 (rest (add S24 S40) (cutH [((hdel S24 (qIJ all7)),S24),((hdel S24 (qIJ V26)),S24)] (minus (add S24 S40) h_41)))) V44 V42) λS45=>E .nrm S45) (cutH [((hdel S24 (qIJ all7)),S24),((hdel S24 (qIJ V26)),S24)] (minus (add S24 S40) h_41))) (frz S24)) (cutH [((hdel S3 (qIJ all7)),S3),((hdel S3 (qIJ V5)),S3)] (minus (add S3 S19) h_20))) (frz S3)) S2) s
theorem qJl (X:Td)(l:Nat) (f:Env) (t15 t16:AV) (E:AExit→Hq→Prop) (s:Hq):wpC Try.prog X qDC Try.f49.ntmps (some l) (rfAs 0 (qAN Try.f49)) (setE f [15,16] [t15,t16]) (λe env s=>e=.nrm∧qJh l (λs=>wpC Try.prog X qDC Try.f49.ntmps (some l) (rfBo 0 (qAN Try.f49)) env (λe _ s=>E e s) s) s) s=qIS X l (f 7) t15 t16 E s:=by kernel_rfl
theorem qJz {l:Nat} {t:Bool} {st:LoopState} {pd:Option Code} {d:Nat} {all7 t15 t16:AV} {K:KvP} {s:Hq} (hs:s l=some (t,.loop st pd 52 [(7,all7)] [15,16] (rfAs 0 (qAN Try.f49)) (rfBo 0 (qAN Try.f49)) d)) (h:qIS XX l all7 t15 t16 (λe s=>endK l e K s) s):qJK Try.prog XX l [t15,t16] K s:=
 qNu qA4 qDC hs rfl rfl λf hf=>by
 refine (qJl XX l f t15 t16 (λe s=>endK l e K s) s).mpr ?_
 rw [show f 7=all7 from hf (7,all7) (by simp)]
 exact h
end Go.AM
namespace Go.AM
open Go Go.Proofs
set_option maxRecDepth 100000
end Go.AM
namespace Go.AM
open Go Go.Proofs
set_option maxRecDepth 100000
abbrev WW:List Nat:=[22,33,7]
def qBV (X:Td)(t41:AV) (I0:IvP) (m0:Nat) (K:KvP) (s:Hq):Prop:=
 oK (qAJ .add t41 (.int .i64 1)) λV53=>∃ m',m' < m0∧I0 [V53] s m'
def qEp (X:Td)(t0 reached5 t39 t40 t41:AV) (I0:IvP) (m0:Nat) (K:KvP) (s:Hq):Prop:=
 oK (qAJ .lss t41 t40) λV29=>qAU V29
 (oK (qAV 2 t39 t41) λV30=>oK (rdN s 2 V30) λV31=>newK 86 [(.int .u32 0),.nilslc] (λB32 S33=>oK (qBs S33 2 (.ptr B32 0) (.agg V31)) λS34=>oK (qAL t0) λV35=>oK (qAK 4 V35) λV36=>oK (rd1 S34 V36) λV37=>oK (rdN S34 2 (.ptr B32 0)) λV38=>oK (qBP (repl 1 [(.int .u32 0),.nilslc]) [(0,2,(.agg V38))]) λC39=>qAX C39=true∧newK 89 C39 (λB40 S41=>(∀ b,S34 b≠none→S34 b=none→S41 b=none)→
 appK 89 2 V37 (.slc B40 0 1 (some 1) 2) (λV42 S43=>oK (qAL t0) λV44=>oK (qAK 4 V44) λV45=>oK (wr1 S43 V45 V42) λS46=>oK (qAK 0 (.ptr B32 0)) λV47=>oK (rd1 S46 V47) λV48=>wC Try.prog X 42 [V48] (λV49 S50=>oK (qAG V49 0) λV51=>oK (qAG V49 1) λV52=>qAU V52
 (oK (qFD 32 1 reached5 V51) λV54=>oK (wr1 S50 V54 (.bool true)) λS55=>oK (qAK 1 (.ptr B32 0)) λV56=>oK (rd1 S55 V56) λV57=>wC Try.prog X 43 [t0,V51,V57] (λV58 S59=>qBV X t41 I0 m0 K S59) S55)
 (qBV X t41 I0 m0 K S50)) S46) (add S34 S41)) (frz S34)) s)
 (oK (qAL t0) λV60=>oK (qAK 5 V60) λV61=>oK (rd1 s V61) λV62=>qQs V62 (λV63 S64=>oK (qLN S64 V63) λp_65=>∃ I2:LvP,I2 [] [] (hdel S64 p_65.1)∧∀ (n_67:List Nat) (f_68:Env) (S69:Hq),I2 n_67 [] S69→S69 p_65.1=none→qM9 S69 p_65.2.1 p_65.2.2.2.1 p_65.2.2.2.2∧(∀ e_66∈p_65.2.2.2.2,hasN e_66.born n_67=false→
 qAU (.bool true)
 (oK (entD (hset S69 p_65.1 (true,.iter p_65.2.1 p_65.2.2.1 (n_67 ++ [e_66.born]) p_65.2.2.2.1)) V63) λV70=>oK (qAG V70 0) λV71=>oK (qAG V70 1) λV72=>oK (qFD 32 1 reached5 V71) λV73=>oK (rd1 (hset S69 p_65.1 (true,.iter p_65.2.1 p_65.2.2.1 (n_67 ++ [e_66.born]) p_65.2.2.2.1)) V73) λV74=>oK (qBo .not V74) λV75=>qAU V75
 (wC Try.prog X 44 [V72,.nilslc] (λV76 S77=>I2 (n_67 ++ [e_66.born]) [] (hdel S77 p_65.1)) (hset S69 p_65.1 (true,.iter p_65.2.1 p_65.2.2.1 (n_67 ++ [e_66.born]) p_65.2.2.2.1)))
 (I2 (n_67 ++ [e_66.born]) [] (hdel (hset S69 p_65.1 (true,.iter p_65.2.1 p_65.2.2.1 (n_67 ++ [e_66.born]) p_65.2.2.2.1)) p_65.1)))
 (K (.int .i64 0) (hdel (hset S69 p_65.1 (true,.iter p_65.2.1 p_65.2.2.1 (n_67 ++ [e_66.born]) p_65.2.2.2.1)) p_65.1)))∧((∀ e_66∈p_65.2.2.2.2,hasN e_66.born n_67=true)→
 qAU (.bool false)
 (oK (entD S69 V63) λV78=>oK (qAG V78 0) λV79=>oK (qAG V78 1) λV80=>oK (qFD 32 1 reached5 V79) λV81=>oK (rd1 S69 V81) λV82=>oK (qBo .not V82) λV83=>qAU V83
 (wC Try.prog X 44 [V80,.nilslc] (λV84 S85=>False) S69)
 (False))
 (K (.int .i64 0) S69))) s)
def qGB (X:Td)(t0 up1:AV) (K:KvP) (s:Hq):Prop:=
 wC Try.prog X 41 [t0] (λV0 S1=>oK (qBo .not V0) λV2=>qAU V2
 (K (.int .i64 1) S1)
 (oK (qAg up1) λV3=>oK (qAL t0) λV5=>oK (qAK 3 V5) λV6=>oK (rd1 S1 V6) λV7=>oK (qAg V7) λV8=>oK (negB true (eqV 0 false (.int .i64 V3) (.int .i64 V8))) λV10=>qAU V10
 (K (.int .i64 2) S1)
 (oK (qAL t0) λV11=>oK (qAK 4 V11) λV12=>oK (wr1 S1 V12 .nilslc) λS13=>newK 90 [(.bool false),(.bool false),(.bool false),(.bool false),(.bool false),(.bool false),(.bool false),(.bool false),(.bool false),(.bool false),(.bool false),(.bool false),(.bool false),(.bool false),(.bool false),(.bool false),(.bool false),(.bool false),(.bool false),(.bool false),(.bool false),(.bool false),(.bool false),(.bool false),(.bool false),(.bool false),(.bool false),(.bool false),(.bool false),(.bool false),(.bool false),(.bool false)] (λB14 S15=>oK (qAL t0) λV16=>oK (qAK 0 V16) λV17=>oK (rd1 S15 V17) λV18=>oK (qAL t0) λV19=>oK (qAK 3 V19) λV20=>oK (rd1 S15 V20) λV21=>oK (qAL t0) λV22=>oK (qAK 1 V22) λV23=>oK (rd1 S15 V23) λV24=>wC Try.prog X 13 [V18,V21,up1,V24] (λV25 S26=>oK (qAg V25) λV27=>∃ I0:IvP,(∃ m,I0 [(.int .i64 0)] S26 m)∧∀ (f:Env) (s:Hq) (m0:Nat),I0 [f 41] s m0→
 qEp X t0 (.ptr B14 0) V25 (.int .i64 V27) (f 41) I0 m0 K s) S15) S13))) s
def qEG:Nat→List Nat:=λk=>cond (Nat.beq k 16) [41] (cond (Nat.beq k 34) [] ([]))
theorem qIh (X:Td)(t0 up1:AV) (K:KvP) (s:Hq):wpCW Try.prog X WW qEG Try.f22.ntmps (qAN Try.f22) (qPe [t0,up1]) (λe env s=>retK e (resK Try.prog Try.f22.results.toList env (λvs=>K (oneV vs) s) s)) s=qGB X t0 up1 K s:=by kernel_rfl
theorem qIq {t0 up1:AV} {K:KvP} {s:Hq} (h:qGB XX t0 up1 K s):wpW Try.prog XX 22 [t0,up1] K s:=
 qOi qEG Try.func22 (by kernel_rfl:Try.f22.body=some (qAN Try.f22)) (by kernel_rfl) ((qIh XX t0 up1 K s).mpr h)
def qFj (X:Td)(t0 c3 t30 t31 t32:AV) (I0:IvP) (m0:Nat) (K:KvP) (s:Hq):Prop:=
 oK (qAJ .lss t32 t31) λV31=>qAU V31
 (oK (qAV 2 t30 t32) λV32=>oK (rdN s 2 V32) λV33=>newK 89 [(.int .u32 0),.nilslc] (λB34 S35=>oK (qBs S35 2 (.ptr B34 0) (.agg V33)) λS36=>oK (qAK 4 c3) λV37=>oK (rd1 S36 V37) λV38=>oK (rdN S36 2 (.ptr B34 0)) λV39=>wC Try.prog X 56 [(.agg V39)] (λV40 S41=>(∀ b,S36 b≠none→S36 b=none→S41 b=none)→
 oK (qBP (repl 1 [(.int .u32 0),.nilslc]) [(0,2,V40)]) λC42=>qAX C42=true∧newK 89 C42 (λB43 S44=>(∀ b,(add S36 S41) b≠none→(add S36 S41) b=none→S44 b=none)→
 appK 89 2 V38 (.slc B43 0 1 (some 1) 2) (λV45 S46=>oK (qAK 4 c3) λV47=>oK (wr1 S46 V47 V45) λS48=>oK (qAJ .add t32 (.int .i64 1)) λV49=>∃ m',m' < m0∧I0 [V49] S48 m') (add (add S36 S41) S44)) (frz (add S36 S41))) (frz S36)) s)
 (oK (qAL t0) λV50=>oK (qAK 5 V50) λV51=>oK (rd1 s V51) λV52=>oK (lenM s V52) λV53=>intK (.int .i64 V53) (mapK (λV55 S56=>oK (qAK 5 c3) λV57=>oK (wr1 S56 V57 V55) λS58=>oK (qAL t0) λV59=>oK (qAK 5 V59) λV60=>oK (rd1 S58 V60) λV61=>qQs V61 (λV62 S63=>oK (qLN S63 V62) λp_64=>∃ I1:LvP,I1 [] [] (hdel S63 p_64.1)∧∀ (n_66:List Nat) (f_67:Env) (S68:Hq),I1 n_66 [] S68→S68 p_64.1=none→qM9 S68 p_64.2.1 p_64.2.2.2.1 p_64.2.2.2.2∧(∀ e_65∈p_64.2.2.2.2,hasN e_65.born n_66=false→
 qAU (.bool true)
 (oK (entD (hset S68 p_64.1 (true,.iter p_64.2.1 p_64.2.2.1 (n_66 ++ [e_65.born]) p_64.2.2.2.1)) V62) λV69=>oK (qAG V69 0) λV70=>oK (qAG V69 1) λV71=>oK (qAK 5 c3) λV72=>oK (rd1 (hset S68 p_64.1 (true,.iter p_64.2.1 p_64.2.2.1 (n_66 ++ [e_65.born]) p_64.2.2.2.1)) V72) λV73=>wC Try.prog X 57 [V71] (λV74 S75=>(∀ b,(hset S68 p_64.1 (true,.iter p_64.2.1 p_64.2.2.1 (n_66 ++ [e_65.born]) p_64.2.2.2.1)) b≠none→(hset S68 p_64.1 (true,.iter p_64.2.1 p_64.2.2.1 (n_66 ++ [e_65.born]) p_64.2.2.2.1)) b=none→S75 b=none)→
 oK (putM (add (hset S68 p_64.1 (true,.iter p_64.2.1 p_64.2.2.1 (n_66 ++ [e_65.born]) p_64.2.2.2.1)) S75) V73 V70 V74) λS76=>I1 (n_66 ++ [e_65.born]) [] (hdel S76 p_64.1)) (frz (hset S68 p_64.1 (true,.iter p_64.2.1 p_64.2.2.1 (n_66 ++ [e_65.born]) p_64.2.2.2.1))))
 (K c3 (hdel (hset S68 p_64.1 (true,.iter p_64.2.1 p_64.2.2.1 (n_66 ++ [e_65.born]) p_64.2.2.2.1)) p_64.1)))∧((∀ e_65∈p_64.2.2.2.2,hasN e_65.born n_66=true)→
 qAU (.bool false)
 (oK (entD S68 V62) λV77=>oK (qAG V77 0) λV78=>oK (qAG V77 1) λV79=>oK (qAK 5 c3) λV80=>oK (rd1 S68 V80) λV81=>wC Try.prog X 57 [V79] (λV82 S83=>(∀ b,S68 b≠none→S68 b=none→S83 b=none)→
 oK (putM (add S68 S83) V81 V78 V82) λS84=>False) (frz S68))
 (K c3 S68))) S58) s))
def qH6 (X:Td)(t0:AV) (K:KvP) (s:Hq):Prop:=
 wC Try.prog X 41 [t0] (λV0 S1=>oK (qBo .not V0) λV2=>qAU V2
 (K .nilptr S1)
 (oK (qAL t0) λV3=>oK (rdN S1 6 V3) λV4=>newK 82 [(.int .i64 0),(.int .i64 0),(.int .u32 0),.nilslc,.nilslc,.nilmap] (λB5 S6=>oK (qBs S6 6 (.ptr B5 0) (.agg V4)) λS7=>oK (qAL t0) λV8=>oK (qAK 3 V8) λV9=>oK (rd1 S7 V9) λV10=>wC Try.prog X 40 [V10] (λV11 S12=>oK (qAK 3 (.ptr B5 0)) λV13=>oK (wr1 S12 V13 V11) λS14=>oK (qAL t0) λV15=>oK (qAK 4 V15) λV16=>oK (rd1 S14 V16) λV17=>oK (qAg V17) λV18=>oK (nat? (.int .i64 0)) λn_20=>oK (nat? (.int .i64 V18)) λn_21=>(n_20≤n_21∧n_21≤4294967296)∧newK 89 (repl n_21 [(.int .u32 0),.nilslc]) (λB22 S23=>oK (qAK 4 (.ptr B5 0)) λV24=>oK (wr1 S23 V24 (.slc B22 0 n_20 (some n_21) 2)) λS25=>oK (qAL t0) λV26=>oK (qAK 4 V26) λV27=>oK (rd1 S25 V27) λV28=>oK (qAg V28) λV29=>∃ I0:IvP,(∃ m,I0 [(.int .i64 0)] S25 m)∧∀ (f:Env) (s:Hq) (m0:Nat),I0 [f 32] s m0→
 qFj X t0 (.ptr B5 0) V28 (.int .i64 V29) (f 32) I0 m0 K s) S14) S7) S1)) s
def qFF:Nat→List Nat:=λk=>cond (Nat.beq k 14) [32] (cond (Nat.beq k 26) [] ([]))
theorem qJ9 (X:Td)(t0:AV) (K:KvP) (s:Hq):wpCW Try.prog X WW qFF Try.f33.ntmps (qAN Try.f33) (qPe [t0]) (λe env s=>retK e (resK Try.prog Try.f33.results.toList env (λvs=>K (oneV vs) s) s)) s=qH6 X t0 K s:=by kernel_rfl
theorem qKD {t0:AV} {K:KvP} {s:Hq} (h:qH6 XX t0 K s):wpW Try.prog XX 33 [t0] K s:=
 qOi qFF Try.func33 (by kernel_rfl:Try.f33.body=some (qAN Try.f33)) (by kernel_rfl) ((qJ9 XX t0 K s).mpr h)
def qBb (X:Td)(t197 t200:AV) (K:KvP) (s:Hq):Prop:=
 oK (qB4 t197 t200 (.bool false)) λV124=>K V124 s
def qBc (X:Td)(link14 next25 t193 t195:AV) (K:KvP) (s:Hq):Prop:=
 oK (qB4 t193 t195 (.bool false)) λV123=>qAU V123
 (oK (negB false (eqV 0 false next25 link14)) λV125=>qBb X V123 V125 K s)
 (qBb X V123 .undef K s)
def qBZ (X:Td)(p9 ok11 t12 link14 was21 now23 i24:AV) (I7:IvP) (m7:Nat) (K:KvP) (s:Hq):Prop:=
 oK (qAg now23) λV102=>oK (qAJ .lss i24 (.int .i64 V102)) λV104=>qAU V104
 (oK (qAV 1 now23 i24) λV105=>oK (rd1 s V105) λV106=>wC Try.prog X 34 [was21,V106] (λV107 S108=>oK (qBo .not V107) λV109=>qAU V109
 (K ok11 S108)
 (oK (qAJ .add i24 (.int .i64 1)) λV110=>∃ m',m' < m7∧I7 [V110] S108 m')) s)
 (wC Try.prog X 34 [now23,link14] (λV111 S112=>oK (qBo .not V111) λV113=>qAU V113
 (K ok11 S112)
 (oK (rdN S112 21 p9) λV114=>wC Try.prog X 32 [t12,(.agg V114)] (λV115 S116=>oK (qAG V115 0) λV117=>oK (qAG V115 1) λV118=>oK (qAG V115 2) λV119=>newK 56 [(.int .u32 0),(.int .u32 0),(.int .i64 0),(.int .i64 0),(.int .u32 0),(.int .u32 0),(.int .u64 0),(.int .u64 0),(.int .i64 0),(.int .i64 0),(.int .u64 0),(.int .u32 0),(.int .u64 0),(.int .u32 0),(.int .u32 0),(.int .u32 0),(.int .i64 0),(.int .i64 0),(.int .i64 0),(.int .i64 0),(.int .u64 0)] (λB120 S121=>oK (qBs S121 21 (.ptr B120 0) V118) λS122=>qAU ok11
 (oK (negB false (eqV 0 true V119 (.int .i64 0))) λV126=>qBc X link14 V117 ok11 V126 K S122)
 (qBc X link14 V117 ok11 .undef K S122)) S116) S112)) s)
def qBe (X:Td)(fails3 x5 p9 ok11 t12 link14 g16 t140 t143:AV) (K:KvP) (s:Hq):Prop:=
 oK (qB4 t140 (.bool true) t143) λV83=>qAU V83
 (K (.bool false) s)
 (oK (negB true (eqV 0 true g16 (.int .i64 0))) λV84=>qAU V84
 (K ok11 s)
 (oK (qAK 1 p9) λV85=>oK (rd1 s V85) λV86=>wC Try.prog X 25 [t12,V86] (λV87 S88=>oK (qAK 2 x5) λV89=>oK (rd1 S88 V89) λV90=>wC Try.prog X 11 [V90] (λV91 S92=>oK (qAV 1 V91 fails3) λV93=>oK (wr1 S92 V93 (.bool false)) λS94=>wpW Try.prog X 22 [t12,V91] (λV95 S96=>oK (negB true (eqV 0 true V95 (.int .i64 0))) λV97=>qAU V97
 (K (.bool false) S96)
 (oK (qAK 1 p9) λV98=>oK (rd1 S96 V98) λV99=>wC Try.prog X 25 [t12,V99] (λV100 S101=>∃ I7:IvP,(∃ m,I7 [(.int .i64 0)] S101 m)∧∀ (f:Env) (s:Hq) (m7:Nat),I7 [f 24] s m7→
 qBZ X p9 ok11 t12 link14 V87 V100 (f 24) I7 m7 K s) S96)) S94) S88) s))
def qBf (X:Td)(fails3 x5 p9 ok11 t12 link14 g16 again17 t123 t128:AV) (K:KvP) (s:Hq):Prop:=
 oK (qB4 t123 (.bool true) t128) λV75=>qAU V75
 (K (.bool false) s)
 (oK (rdN s 21 p9) λV76=>wC Try.prog X 32 [again17,(.agg V76)] (λV77 S78=>oK (qAG V77 0) λV79=>oK (qAG V77 1) λV80=>oK (qAG V77 2) λV81=>oK (negB true (eqV 0 false g16 V81)) λV82=>qAU V82
 (qBe X fails3 x5 p9 ok11 t12 link14 g16 V82 .undef K S78)
 (oK (negB true (eqV 0 false link14 V79)) λV127=>qBe X fails3 x5 p9 ok11 t12 link14 g16 V82 V127 K S78)) s)
def qBY (X:Td)(fails3 x5 p9 ok11 t12 link14 g16 again17 t118 t121:AV) (K:KvP) (s:Hq):Prop:=
 oK (qB4 t118 (.bool true) t121) λV74=>qAU V74
 (qBf X fails3 x5 p9 ok11 t12 link14 g16 again17 V74 .undef K s)
 (oK (qAK 2 x5) λV128=>oK (rd1 s V128) λV129=>wpW Try.prog X 22 [again17,V129] (λV130 S131=>oK (negB true (eqV 0 true V130 (.int .i64 0))) λV132=>qBf X fails3 x5 p9 ok11 t12 link14 g16 again17 V74 V132 K S131) s)
def qBg (X:Td)(t2 fails3 x5 p9 ok11 t12 t88 t93:AV) (K:KvP) (s:Hq):Prop:=
 oK (qB4 t88 (.bool true) t93) λV46=>qAU V46
 (K (.bool false) s)
 (wC Try.prog X 21 [t2] (λV47 S48=>oK (qAK 1 p9) λV49=>oK (wr1 S48 V49 V47) λS50=>oK (qAK 2 p9) λV51=>oK (wr1 S50 V51 (.int .i64 9)) λS52=>oK (rdN S52 21 p9) λV53=>wC Try.prog X 32 [t12,(.agg V53)] (λV54 S55=>oK (qAG V54 0) λV56=>oK (qAG V54 1) λV57=>oK (qAG V54 2) λV58=>newK 56 [(.int .u32 0),(.int .u32 0),(.int .i64 0),(.int .i64 0),(.int .u32 0),(.int .u32 0),(.int .u64 0),(.int .u64 0),(.int .i64 0),(.int .i64 0),(.int .u64 0),(.int .u32 0),(.int .u64 0),(.int .u32 0),(.int .u32 0),(.int .u32 0),(.int .i64 0),(.int .i64 0),(.int .i64 0),(.int .i64 0),(.int .u64 0)] (λB59 S60=>oK (qBs S60 21 (.ptr B59 0) V57) λS61=>wpW Try.prog X 33 [t12] (λV62 S63=>oK (rdN S63 21 p9) λV64=>wC Try.prog X 32 [V62,(.agg V64)] (λV65 S66=>oK (qAG V65 0) λV67=>oK (qAG V65 1) λV68=>oK (qAG V65 2) λV69=>newK 56 [(.int .u32 0),(.int .u32 0),(.int .i64 0),(.int .i64 0),(.int .u32 0),(.int .u32 0),(.int .u64 0),(.int .u64 0),(.int .i64 0),(.int .i64 0),(.int .u64 0),(.int .u32 0),(.int .u64 0),(.int .u32 0),(.int .u32 0),(.int .u32 0),(.int .i64 0),(.int .i64 0),(.int .i64 0),(.int .i64 0),(.int .u64 0)] (λB70 S71=>oK (qBs S71 21 (.ptr B70 0) V68) λS72=>oK (negB true (eqV 0 false V58 V69)) λV73=>qAU V73
 (qBY X fails3 x5 p9 ok11 t12 V56 V58 V62 V73 .undef K S72)
 (oK (negB true (eqV 0 false V56 V67)) λV133=>qBY X fails3 x5 p9 ok11 t12 V56 V58 V62 V73 V133 K S72)) S66) S63) S61) S55) S52) s)
def qBX (X:Td)(t2 fails3 x5 p9 ok11 t12 t84 t86:AV) (K:KvP) (s:Hq):Prop:=
 oK (qB4 t84 (.bool true) t86) λV45=>qAU V45
 (qBg X t2 fails3 x5 p9 ok11 t12 V45 .undef K s)
 (oK (qAK 2 x5) λV134=>oK (rd1 s V134) λV135=>wpW Try.prog X 22 [t12,V135] (λV136 S137=>oK (negB true (eqV 0 true V136 (.int .i64 0))) λV138=>qBg X t2 fails3 x5 p9 ok11 t12 V45 V138 K S137) s)
def qA0 (X:Td)(self1 t2 fails3 x5 p9 ok11 t39 t46:AV) (K:KvP) (s:Hq):Prop:=
 oK (qB4 t39 (.bool true) t46) λV12=>qAU V12
 (K ok11 s)
 (oK (qAK 0 x5) λV13=>oK (rd1 s V13) λV14=>oK (qAK 1 x5) λV15=>oK (rd1 s V15) λV16=>wC Try.prog X 18 [V14,V16,(.int .i64 0)] (λV17 S18=>oK (qAG V17 0) λV19=>oK (qAG V17 1) λV20=>oK (negB true (eqV 0 true V20 (.int .i64 0))) λV21=>qAU V21
 (K ok11 S18)
 (oK (qAK 0 x5) λV22=>oK (rd1 S18 V22) λV23=>wC Try.prog X 27 [self1,V23] (λV24 S25=>(∀ b,S18 b≠none→S18 b=none→S25 b=none)→
 oK (qAK 0 x5) λV26=>oK (rd1 (cutH [(S18,(add S18 S25))] (add S18 S25)) V26) λV27=>wC Try.prog X 27 [t2,V27] (λV28 S29=>(∀ b,(add S18 S25) b≠none→(add S18 S25) b=none→S29 b=none)→
 oK (qAK 1 x5) λV30=>oK (rd1 (cutH [(S18,(add S18 S25)),((add S18 S25),(add (add S18 S25) S29))] (add (add S18 S25) S29)) V30) λV31=>oK (qAg V31) λV32=>wC Try.prog X 27 [fails3,(.int .i64 V32)] (λV34 S35=>oK (qAK 0 x5) λV36=>oK (rd1 S35 V36) λV37=>oK (qAK 1 x5) λV38=>oK (rd1 S35 V38) λV39=>wC Try.prog X 18 [V37,V39,V24] (λV40 S41=>oK (qAG V40 0) λV42=>oK (qAG V40 1) λV43=>oK (negB true (eqV 0 true V43 (.int .i64 0))) λV44=>qAU V44
 (qBX X V28 V34 x5 p9 ok11 V42 V44 .undef K S41)
 (oK (negB false (eqV 3 true V42 .nilptr)) λV139=>qBX X V28 V34 x5 p9 ok11 V42 V44 V139 K S41)) S35) (add (add S18 S25) S29)) (frz (add S18 S25))) (frz S18))) s)
def qBE (X:Td)(self1 t2 fails3 x5 p9 ok11 t33 t37:AV) (K:KvP) (s:Hq):Prop:=
 oK (qB4 t33 (.bool true) t37) λV11=>qAU V11
 (qA0 X self1 t2 fails3 x5 p9 ok11 V11 .undef K s)
 (oK (qAK 2 x5) λV140=>oK (rd1 s V140) λV141=>oK (qAg V141) λV142=>oK (qAK 1 x5) λV144=>oK (rd1 s V144) λV145=>oK (qAg V145) λV146=>oK (negB true (eqV 0 false (.int .i64 V142) (.int .i64 V146))) λV148=>qA0 X self1 t2 fails3 x5 p9 ok11 V11 V148 K s)
def qC8 (X:Td)(x0 self1 t2 fails3 p4:AV) (K:KvP) (s:Hq):Prop:=
 boxK 63 x0 (λB0 S1=>boxK 56 p4 (λB2 S3=>wC Try.prog X 4 [] (λV4 S5=>oK (qAK 1 B0) λV6=>oK (rd1 S5 V6) λV7=>oK (qAg V7) λV8=>oK (negB false (eqV 0 true (.int .i64 V8) (.int .i64 0))) λV10=>qAU V10
 (qBE X self1 t2 fails3 B0 B2 V4 V10 .undef K S5)
 (oK (qAK 1 B0) λV149=>oK (rd1 S5 V149) λV150=>oK (qAg V150) λV151=>oK (qAJ .gtr (.int .i64 V151) (.int .i64 60)) λV153=>qBE X self1 t2 fails3 B0 B2 V4 V10 V153 K S5)) S3) S1) s
def qCP:Nat→List Nat:=λk=>cond (Nat.beq k 58) [24] ([])
theorem qEy (X:Td)(x0 self1 t2 fails3 p4:AV) (K:KvP) (s:Hq):wpCW Try.prog X WW qCP Try.f7.ntmps (qAN Try.f7) (qPe [x0,self1,t2,fails3,p4]) (λe env s=>retK e (resK Try.prog Try.f7.results.toList env (λvs=>K (oneV vs) s) s)) s=qC8 X x0 self1 t2 fails3 p4 K s:=by kernel_rfl
theorem qE0 {x0 self1 t2 fails3 p4:AV} {K:KvP} {s:Hq} (h:qC8 XX x0 self1 t2 fails3 p4 K s):wpW Try.prog XX 7 [x0,self1,t2,fails3,p4] K s:=
 qOi qCP Try.func7 (by kernel_rfl:Try.f7.body=some (qAN Try.f7)) (by kernel_rfl) ((qEy XX x0 self1 t2 fails3 p4 K s).mpr h)
def qEt (X:Td)(w0:AV) (K:KvP) (s:Hq):Prop:=
 wC Try.prog X 63 [w0] (λV0 S1=>oK (qBo .not V0) λV2=>qAU V2
 (K .nilptr S1)
 (oK (qAL w0) λV3=>oK (qAK 0 V3) λV4=>oK (rd1 S1 V4) λV5=>wC Try.prog X 46 [V5] (λV6 S7=>(∀ b,S1 b≠none→S1 b=none→S7 b=none)→
 oK (qAL w0) λV8=>oK (qAK 1 V8) λV9=>oK (rd1 (cutH [(S1,(add S1 S7))] (add S1 S7)) V9) λV10=>wC Try.prog X 46 [V10] (λV11 S12=>oK (qBP [.nilslc,.nilslc] [(0,1,V6),(1,1,V11)]) λC13=>boxK 119 (.agg C13) (λB14 S15=>K B14 S15) S12) (add S1 S7)) (frz S1))) s
def qGk:Nat→List Nat:=λ_=>[]
theorem qG1 {X:Td} (hX:FrX X) (hn:X 57=none) {w0:AV} {K:KvP} {s:Hq} (h:qEt X w0 K s):wC Try.prog X 57 [w0] K s:=
 qAF hX qGk hn Try.func57 (by kernel_rfl:Try.f57.body=some (qAN Try.f57)) (by kernel_rfl) (Eq.mpr (by kernel_rfl) h)
theorem qHX {w0:AV} {K:KvP} {s:Hq} (h:qEt XX w0 K s):wC Try.prog XX 57 [w0] K s:=qG1 qA4 rfl h
def qFl (X:Td)(e0:AV) (K:KvP) (s:Hq):Prop:=
 boxK 89 e0 (λB0 S1=>newK 89 [(.int .u32 0),.nilslc] (λB2 S3=>oK (qAK 1 B0) λV4=>oK (rd1 S3 V4) λV5=>wC Try.prog X 46 [V5] (λV6 S7=>oK (qAK 1 B0) λV8=>oK (wr1 S7 V8 V6) λS9=>oK (rdN S9 2 B0) λV10=>oK (qBs S9 2 (.ptr B2 0) (.agg V10)) λS11=>oK (rdN S11 2 (.ptr B2 0)) λt2_12=>K (.agg t2_12) S11) S3) S1) s
def qHg:Nat→List Nat:=λ_=>[]
theorem qHx {X:Td} (hX:FrX X) (hn:X 56=none) {e0:AV} {K:KvP} {s:Hq} (h:qFl X e0 K s):wC Try.prog X 56 [e0] K s:=
 qAF hX qHg hn Try.func56 (by kernel_rfl:Try.f56.body=some (qAN Try.f56)) (by kernel_rfl) (Eq.mpr (by kernel_rfl) h)
theorem qIC {e0:AV} {K:KvP} {s:Hq} (h:qFl XX e0 K s):wC Try.prog XX 56 [e0] K s:=qHx qA4 rfl h
def qIy (X:Td)(l0 x1 i5:AV) (I0:IvP) (m0:Nat) (K:KvP) (s:Hq):Prop:=
 oK (qAg l0) λV0=>oK (qAJ .lss i5 (.int .i64 V0)) λV2=>qAU V2
 (oK (qAV 1 l0 i5) λV3=>oK (rd1 s V3) λV4=>oK (negB false (eqV 0 false V4 x1)) λV5=>qAU V5
 (K (.bool true) s)
 (oK (qAJ .add i5 (.int .i64 1)) λV6=>∃ m',m' < m0∧I0 [V6] s m'))
 (K (.bool false) s)
def qMQ (X:Td)(l0 x1:AV) (K:KvP) (s:Hq):Prop:=
 ∃ I0:IvP,(∃ m,I0 [(.int .i64 0)] s m)∧∀ (f:Env) (s:Hq) (m0:Nat),I0 [f 5] s m0→
 qIy X l0 x1 (f 5) I0 m0 K s
def qM5:Nat→List Nat:=λk=>cond (Nat.beq k 4) [5] ([])
theorem qNS {X:Td} (hX:FrX X) (hn:X 34=none) {l0 x1:AV} {K:KvP} {s:Hq} (h:qMQ X l0 x1 K s):wC Try.prog X 34 [l0,x1] K s:=
 qAF hX qM5 hn Try.func34 (by kernel_rfl:Try.f34.body=some (qAN Try.f34)) (by kernel_rfl) (Eq.mpr (by kernel_rfl) h)
theorem qNU {l0 x1:AV} {K:KvP} {s:Hq} (h:qMQ XX l0 x1 K s):wC Try.prog XX 34 [l0,x1] K s:=qNS qA4 rfl h
end Go.AM
