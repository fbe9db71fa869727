/- Part V of a calculus over a small memory that is proved to answer as the program does, and of its use for the functions that the law reaches: see the last part. -/
import Derived.Test.YtjheoaemhdpoeaaGreatDoorU2
import Derived.Test.YtjheoaemhdpoeaaGreatDoorProg
import Derived.KernelRfl
set_option linter.unusedVariables false
namespace Go.AM
open Go Go.Proofs
abbrev zR0:List AV:=[(.int .i64 0),(.int .u64 0),(.int .u8 0),(.int .u8 0),(.int .u8 0),(.int .u8 0),(.int .u8 0),(.int .u8 0),(.int .u8 0),(.int .u8 0),(.int .u8 0),(.int .u8 0),(.int .u32 0),(.int .u64 0),(.int .u32 0),(.bool false),(.int .u32 0),(.int .i64 0),(.int .u32 0),(.int .u32 0),(.int .u32 0),(.int .i64 0),.nilslc,(.int .u32 0),(.bool false),(.int .u32 0),(.bool false),(.int .u32 0),(.bool false),(.int .u32 0),.nilslc,.nilslc,(.int .i64 0),(.int .u32 0),(.int .u32 0),(.int .u32 0),(.int .u32 0),(.bool false)]
abbrev zR1:List AV:=[(.int .i64 0),(.int .i64 0),.nilslc,.nilslc,.nilslc,.nilslc,.nilslc,.nilslc,(.int .i64 0),(.int .i64 0),(.int .i64 0),(.bool false),(.bool false),(.int .i64 0),(.int .i64 0),(.int .i64 0),(.int .i64 0),(.int .i64 0),(.int .i64 0)]
abbrev IvP:=List AV→Hq→Nat→Prop
abbrev KvP:=AV→Hq→Prop
abbrev LvP:=List Nat→List AV→Hq→Prop
set_option maxRecDepth 100000
abbrev kindsL:List AV:=[.int .i64 1,.int .u8 0,.int .u8 2,.int .i64 2,.int .u8 3,.int .u8 12,.int .i64 3,.int .u8 6,.int .u8 0,.int .i64 4,.int .u8 6,.int .u8 1,.int .i64 5,.int .u8 6,.int .u8 2,.int .i64 6,.int .u8 6,.int .u8 3,.int .i64 7,.int .u8 6,.int .u8 6]
abbrev X0:Td:=qGW 0 kindsL [10,5]
theorem qJs:FrX X0:=qOq _ _ _
abbrev SS:FuncId→Bool:=λk=>memN k [107,87,88,89,90,91,92,93,94]
noncomputable abbrev XX:Td:=orX (limX Tryz.prog X0 SS [31]) X0
theorem qBm:FrX XX:=zAEL (qXD qJs _) qJs
structure Fn0 (Y:Td):Prop where
 fr:FrX Y
 no:∀ k,memN k (31 :: [10,5])=false→Y k=none
theorem X0_h {k:Nat} (h:memN k (31 :: [10,5])=false):memN k [10,5]=false:=by unfold memN at h;cases e:Nat.beq k 31 <;> rw [e] at h <;> first | exact h | cases h
theorem X0_0:Fn0 X0:=⟨qJs,λk h=>by show cond (memN k [10,5]) _ _=_;rw [X0_h h];rfl⟩
theorem XX_1 {k:Nat} (h:memN k (31 :: [10,5])=false):memN k [31]=false:=by unfold memN at h;cases e:Nat.beq k 31 <;> rw [e] at h <;> first | (unfold memN;rw [e];rfl) | cases h
theorem XX_2 {k:Nat} (h:memN k (31 :: [10,5])=false):limX Tryz.prog X0 SS [31] k=none:=by show cond (memN k [31]) _ _=_;rw [XX_1 h];rfl
theorem XX_0:Fn0 XX:=⟨qBm,λk h=>by show (match limX Tryz.prog X0 SS [31] k with | some g=>some g | none=>X0 k)=none;rw [XX_2 h];exact X0_0.no k h⟩
def qRF (X:Td)(K:KvP) (s:Hq):Prop:=
 oK (qCA (repl 8 [.nilFunc]) [(0,1,(.fn (.func 87) [] [])),(1,1,(.fn (.func 88) [] [])),(2,1,(.fn (.func 89) [] [])),(3,1,(.fn (.func 90) [] [])),(4,1,(.fn (.func 91) [] [])),(5,1,(.fn (.func 92) [] [])),(6,1,(.fn (.func 93) [] [])),(7,1,(.fn (.func 94) [] []))]) λC0=>qAg C0=true∧newK 153 C0 (λB1 S2=>K (.slc B1 0 8 (some 8) 1) S2) s
def qQz:Nat→List Nat:=λ_=>[]
theorem qRv {X:Td} (hX:FrX X) (hn:X 62=none) {K:KvP} {s:Hq} (h:qRF X K s):wC Tryz.prog X 62 [] K s:=
 qAL hX qQz hn Tryz.func62 (by kernel_rfl:Tryz.f62.body=some (qAU Tryz.f62)) (by kernel_rfl) (Eq.mpr (by kernel_rfl) h)
def qKK (X:Td)(t10 t13:AV) (K:KvP) (s:Hq):Prop:=
 oK (qAT t10 (.bool true) t13) λV1=>K V1 s
def qPU (X:Td)(n0 low1 high2:AV) (K:KvP) (s:Hq):Prop:=
 oK (qAH .lss n0 low1) λV0=>qAQ V0
 (qKK X V0 .undef K s)
 (oK (qAH .gtr n0 high2) λV2=>qKK X V0 V2 K s)
def qOX:Nat→List Nat:=λ_=>[]
theorem qQj {X:Td} (hX:FrX X) (hn:X 108=none) {n0 low1 high2:AV} {K:KvP} {s:Hq} (h:qPU X n0 low1 high2 K s):wC Tryz.prog X 108 [n0,low1,high2] K s:=
 qAL hX qOX hn Tryz.func108 (by kernel_rfl:Tryz.f108.body=some (qAU Tryz.f108)) (by kernel_rfl) (Eq.mpr (by kernel_rfl) h)
def qDt (X:Td)(key1 seen5 again6 t16 t17 t18:AV) (I0:IvP) (m0:Nat) (K:KvP) (s:Hq):Prop:=
 oK (qAH .lss t18 t17) λV12=>qAQ V12
 (oK (qAZ 3 t16 t18) λV13=>oK (rdN s 3 V13) λV14=>newK 115 [(.int .i64 0),(.int .i64 0),(.int .i64 0)] (λB15 S16=>oK (qBY S16 3 (.ptr B15 0) (.agg V14)) λS17=>oK (rdN S17 3 (.ptr B15 0)) λV18=>funK Tryz.prog X key1 [(.agg V18)] (λV19 S20=>newK 187 [(.int .i64 0),(.int .i64 0)] (λB21 S22=>oK (qBY S22 2 (.ptr B21 0) V19) λS23=>oK (rdN S23 2 (.ptr B21 0)) λV24=>oK (getG Tryz.prog 187 S23 seen5 (.agg V24)) λr_25=>oK (qAZ 1 again6 t18) λV26=>oK (wr1 S23 V26 (retM (.bool false) false r_25)) λS27=>oK (rdN S27 2 (.ptr B21 0)) λV28=>oK (putG Tryz.prog 187 S27 seen5 (.agg V28) (.bool true)) λS29=>oK (qAH .add t18 (.int .i64 1)) λV30=>∃ m',m' < m0∧I0 [V30] S29 m') S20) S17) s)
 (K again6 s)
def qFh (X:Td)(l0 key1:AV) (K:KvP) (s:Hq):Prop:=
 oK (qAR l0) λV0=>intK (.int .i64 V0) (mapK (λV2 S3=>oK (qAR l0) λV4=>oK (nat? (.int .i64 V4)) λn_6=>oK (nat? (.int .i64 V4)) λn_7=>(n_6≤n_7∧n_7≤4294967296)∧newK 4 (repl n_7 [(.bool false)]) (λB8 S9=>oK (qAR l0) λV10=>∃ I0:IvP,(∃ m,I0 [(.int .i64 0)] S9 m)∧∀ (f:Env) (s:Hq) (m0:Nat),I0 [f 18] s m0→
 qDt X key1 V2 (.slc B8 0 n_6 (some n_7) 1) l0 (.int .i64 V10) (f 18) I0 m0 K s) S3) s)
def qHE:Nat→List Nat:=λk=>cond (Nat.beq k 8) [18] ([])
theorem qHv {X:Td} (hX:FrX X) (hn:X 109=none) {l0 key1:AV} {K:KvP} {s:Hq} (h:qFh X l0 key1 K s):wC Tryz.prog X 109 [l0,key1] K s:=
 qAL hX qHE hn Tryz.func109 (by kernel_rfl:Tryz.f109.body=some (qAU Tryz.f109)) (by kernel_rfl) (Eq.mpr (by kernel_rfl) h)
def qWb (X:Td)(l0:AV) (K:KvP) (s:Hq):Prop:=
 boxK 115 l0 (λB0 S1=>newK 187 [(.int .i64 0),(.int .i64 0)] (λB2 S3=>oK (qAC 0 B0) λV4=>oK (rd1 S3 V4) λV5=>oK (qAC 1 B0) λV6=>oK (rd1 S3 V6) λV7=>oK (qCA [(.int .i64 0),(.int .i64 0)] [(0,1,V5),(1,1,V7)]) λC8=>oK (qBY S3 2 (.ptr B2 0) (.agg C8)) λS9=>oK (rdN S9 2 (.ptr B2 0)) λt2_10=>K (.agg t2_10) S9) S1) s
def qOQ:Nat→List Nat:=λ_=>[]
theorem qPv {X:Td} (hX:FrX X) (hn:X 110=none) {l0:AV} {K:KvP} {s:Hq} (h:qWb X l0 K s):wC Tryz.prog X 110 [l0] K s:=
 qAL hX qOQ hn Tryz.func110 (by kernel_rfl:Tryz.f110.body=some (qAU Tryz.f110)) (by kernel_rfl) (Eq.mpr (by kernel_rfl) h)
def qDK (X:Td)(key1 seen5 again6 t16 t17 t18:AV) (I0:IvP) (m0:Nat) (K:KvP) (s:Hq):Prop:=
 oK (qAH .lss t18 t17) λV12=>qAQ V12
 (oK (qAZ 2 t16 t18) λV13=>oK (rdN s 2 V13) λV14=>newK 117 [(.int .u32 0),(.int .u32 0)] (λB15 S16=>oK (qBY S16 2 (.ptr B15 0) (.agg V14)) λS17=>oK (rdN S17 2 (.ptr B15 0)) λV18=>funK Tryz.prog X key1 [(.agg V18)] (λV19 S20=>oK (getM S20 seen5 V19) λr_21=>oK (qAZ 1 again6 t18) λV22=>oK (wr1 S20 V22 (retM (.bool false) false r_21)) λS23=>oK (putM S23 seen5 V19 (.bool true)) λS24=>oK (qAH .add t18 (.int .i64 1)) λV25=>∃ m',m' < m0∧I0 [V25] S24 m') S17) s)
 (K again6 s)
def qEX (X:Td)(l0 key1:AV) (K:KvP) (s:Hq):Prop:=
 oK (qAR l0) λV0=>intK (.int .i64 V0) (mapK (λV2 S3=>oK (qAR l0) λV4=>oK (nat? (.int .i64 V4)) λn_6=>oK (nat? (.int .i64 V4)) λn_7=>(n_6≤n_7∧n_7≤4294967296)∧newK 4 (repl n_7 [(.bool false)]) (λB8 S9=>oK (qAR l0) λV10=>∃ I0:IvP,(∃ m,I0 [(.int .i64 0)] S9 m)∧∀ (f:Env) (s:Hq) (m0:Nat),I0 [f 18] s m0→
 qDK X key1 V2 (.slc B8 0 n_6 (some n_7) 1) l0 (.int .i64 V10) (f 18) I0 m0 K s) S3) s)
def qGY:Nat→List Nat:=λk=>cond (Nat.beq k 8) [18] ([])
theorem qGi {X:Td} (hX:FrX X) (hn:X 111=none) {l0 key1:AV} {K:KvP} {s:Hq} (h:qEX X l0 key1 K s):wC Tryz.prog X 111 [l0,key1] K s:=
 qAL hX qGY hn Tryz.func111 (by kernel_rfl:Tryz.f111.body=some (qAU Tryz.f111)) (by kernel_rfl) (Eq.mpr (by kernel_rfl) h)
def qSP (X:Td)(t0:AV) (K:KvP) (s:Hq):Prop:=
 boxK 117 t0 (λB0 S1=>oK (qAC 0 B0) λV2=>oK (rd1 S1 V2) λV3=>K V3 S1) s
def qLr:Nat→List Nat:=λ_=>[]
theorem qM0 {X:Td} (hX:FrX X) (hn:X 112=none) {t0:AV} {K:KvP} {s:Hq} (h:qSP X t0 K s):wC Tryz.prog X 112 [t0] K s:=
 qAL hX qLr hn Tryz.func112 (by kernel_rfl:Tryz.f112.body=some (qAU Tryz.f112)) (by kernel_rfl) (Eq.mpr (by kernel_rfl) h)
def qNw (X:Td)(t0:AV) (K:KvP) (s:Hq):Prop:=
 boxK 117 t0 (λB0 S1=>oK (qAC 1 B0) λV2=>oK (rd1 S1 V2) λV3=>K V3 S1) s
def qJh:Nat→List Nat:=λ_=>[]
theorem qKQ {X:Td} (hX:FrX X) (hn:X 113=none) {t0:AV} {K:KvP} {s:Hq} (h:qNw X t0 K s):wC Tryz.prog X 113 [t0] K s:=
 qAL hX qJh hn Tryz.func113 (by kernel_rfl:Tryz.f113.body=some (qAU Tryz.f113)) (by kernel_rfl) (Eq.mpr (by kernel_rfl) h)
def qEu (X:Td)(key1 seen5 again6 t16 t17 t18:AV) (I0:IvP) (m0:Nat) (K:KvP) (s:Hq):Prop:=
 oK (qAH .lss t18 t17) λV12=>qAQ V12
 (oK (qAZ 6 t16 t18) λV13=>oK (rdN s 6 V13) λV14=>newK 87 [(.int .i64 0),(.int .u32 0),(.int .u32 0),(.int .u32 0),(.int .i64 0),(.int .u32 0)] (λB15 S16=>oK (qBY S16 6 (.ptr B15 0) (.agg V14)) λS17=>oK (rdN S17 6 (.ptr B15 0)) λV18=>funK Tryz.prog X key1 [(.agg V18)] (λV19 S20=>oK (getM S20 seen5 V19) λr_21=>oK (qAZ 1 again6 t18) λV22=>oK (wr1 S20 V22 (retM (.bool false) false r_21)) λS23=>oK (putM S23 seen5 V19 (.bool true)) λS24=>oK (qAH .add t18 (.int .i64 1)) λV25=>∃ m',m' < m0∧I0 [V25] S24 m') S17) s)
 (K again6 s)
def qG4 (X:Td)(l0 key1:AV) (K:KvP) (s:Hq):Prop:=
 oK (qAR l0) λV0=>intK (.int .i64 V0) (mapK (λV2 S3=>oK (qAR l0) λV4=>oK (nat? (.int .i64 V4)) λn_6=>oK (nat? (.int .i64 V4)) λn_7=>(n_6≤n_7∧n_7≤4294967296)∧newK 4 (repl n_7 [(.bool false)]) (λB8 S9=>oK (qAR l0) λV10=>∃ I0:IvP,(∃ m,I0 [(.int .i64 0)] S9 m)∧∀ (f:Env) (s:Hq) (m0:Nat),I0 [f 18] s m0→
 qEu X key1 V2 (.slc B8 0 n_6 (some n_7) 1) l0 (.int .i64 V10) (f 18) I0 m0 K s) S3) s)
def qIf:Nat→List Nat:=λk=>cond (Nat.beq k 8) [18] ([])
theorem qJG {X:Td} (hX:FrX X) (hn:X 114=none) {l0 key1:AV} {K:KvP} {s:Hq} (h:qG4 X l0 key1 K s):wC Tryz.prog X 114 [l0,key1] K s:=
 qAL hX qIf hn Tryz.func114 (by kernel_rfl:Tryz.f114.body=some (qAU Tryz.f114)) (by kernel_rfl) (Eq.mpr (by kernel_rfl) h)
def qSU (X:Td)(b0:AV) (K:KvP) (s:Hq):Prop:=
 boxK 87 b0 (λB0 S1=>oK (qAC 1 B0) λV2=>oK (rd1 S1 V2) λV3=>K V3 S1) s
def qLz:Nat→List Nat:=λ_=>[]
theorem qNA {X:Td} (hX:FrX X) (hn:X 115=none) {b0:AV} {K:KvP} {s:Hq} (h:qSU X b0 K s):wC Tryz.prog X 115 [b0] K s:=
 qAL hX qLz hn Tryz.func115 (by kernel_rfl:Tryz.f115.body=some (qAU Tryz.f115)) (by kernel_rfl) (Eq.mpr (by kernel_rfl) h)
def qNk (X:Td)(b0:AV) (K:KvP) (s:Hq):Prop:=
 boxK 87 b0 (λB0 S1=>oK (qAC 2 B0) λV2=>oK (rd1 S1 V2) λV3=>K V3 S1) s
def qJj:Nat→List Nat:=λ_=>[]
theorem qJ7 {X:Td} (hX:FrX X) (hn:X 116=none) {b0:AV} {K:KvP} {s:Hq} (h:qNk X b0 K s):wC Tryz.prog X 116 [b0] K s:=
 qAL hX qJj hn Tryz.func116 (by kernel_rfl:Tryz.f116.body=some (qAU Tryz.f116)) (by kernel_rfl) (Eq.mpr (by kernel_rfl) h)
def qGK (X:Td)(l0 key1 k2:AV) (K:KvP) (s:Hq):Prop:=
 boxK 190 key1 (λB0 S1=>boxK 41 k2 (λB2 S3=>wC Tryz.prog X 170 [l0,(.fn (.func 171) [] [B0,B2])] (λV4 S5=>K V4 S5) S3) S1) s
def qEq:Nat→List Nat:=λ_=>[]
theorem qE9 {X:Td} (hX:FrX X) (hn:X 117=none) {l0 key1 k2:AV} {K:KvP} {s:Hq} (h:qGK X l0 key1 k2 K s):wC Tryz.prog X 117 [l0,key1,k2] K s:=
 qAL hX qEq hn Tryz.func117 (by kernel_rfl:Tryz.f117.body=some (qAU Tryz.f117)) (by kernel_rfl) (Eq.mpr (by kernel_rfl) h)
def qNT (X:Td)(t12 t15:AV) (K:KvP) (s:Hq):Prop:=
 oK (qAT t12 t15 (.bool false)) λV11=>K V11 s
def qZz (X:Td)(p0:AV) (K:KvP) (s:Hq):Prop:=
 boxK 71 p0 (λB0 S1=>oK (rdN S1 2 B0) λV2=>wC Tryz.prog X 172 [(.agg V2)] (λV3 S4=>oK (qAp V3 0) λV5=>oK (qAp V3 1) λV6=>newK 71 [(.int .u32 0),(.int .i64 0)] (λB7 S8=>oK (qBY S8 2 (.ptr B7 0) V5) λS9=>oK (negB false (eqV 0 true V6 (.int .i64 0))) λV10=>qAQ V10
 (oK (rdN S9 2 (.ptr B7 0)) λV12=>oK (rdN S9 2 B0) λV13=>oK (negB false (qH3 Tryz.prog 71 (.agg V12) (.agg V13))) λV14=>qNT X V10 V14 K S9)
 (qNT X V10 .undef K S9)) S4) S1) s
def qRG:Nat→List Nat:=λ_=>[]
theorem qTl {X:Td} (hX:FrX X) (hn:X 118=none) {p0:AV} {K:KvP} {s:Hq} (h:qZz X p0 K s):wC Tryz.prog X 118 [p0] K s:=
 qAL hX qRG hn Tryz.func118 (by kernel_rfl:Tryz.f118.body=some (qAU Tryz.f118)) (by kernel_rfl) (Eq.mpr (by kernel_rfl) h)
def qJY (X:Td)(t23 t26:AV) (K:KvP) (s:Hq):Prop:=
 oK (qAT t23 t26 (.bool false)) λV14=>K V14 s
def qJX (X:Td)(ip1 last5 t17 t21:AV) (K:KvP) (s:Hq):Prop:=
 oK (qAT t17 t21 (.bool false)) λV13=>qAQ V13
 (oK (negB true (eqV 0 false ip1 last5)) λV15=>qJY X V13 V15 K s)
 (qJY X V13 .undef K s)
def qZk (X:Td)(p0 ip1:AV) (K:KvP) (s:Hq):Prop:=
 boxK 71 p0 (λB0 S1=>oK (qAC 0 B0) λV2=>oK (rd1 S1 V2) λV3=>oK (qAC 1 B0) λV4=>oK (rd1 S1 V4) λV5=>oK (qAH .sub (.int .i64 32) V5) λV6=>oK (qF4 .shl (.int .u32 1) V6) λV7=>oK (qAH .sub V7 (.int .u32 1)) λV8=>oK (qAH .or V3 V8) λV9=>oK (rdN S1 2 B0) λV10=>wC Tryz.prog X 122 [(.agg V10),ip1] (λV11 S12=>qAQ V11
 (oK (qAC 0 B0) λV16=>oK (rd1 S12 V16) λV17=>oK (negB true (eqV 0 false ip1 V17)) λV18=>qJX X ip1 V9 V11 V18 K S12)
 (qJX X ip1 V9 V11 .undef K S12)) S1) s
def qR6:Nat→List Nat:=λ_=>[]
theorem qT6 {X:Td} (hX:FrX X) (hn:X 119=none) {p0 ip1:AV} {K:KvP} {s:Hq} (h:qZk X p0 ip1 K s):wC Tryz.prog X 119 [p0,ip1] K s:=
 qAL hX qR6 hn Tryz.func119 (by kernel_rfl:Tryz.f119.body=some (qAU Tryz.f119)) (by kernel_rfl) (Eq.mpr (by kernel_rfl) h)
def qB1 (X:Td)(t0 t1:AV) (K:KvP) (s:Hq):Prop:=
 wC Tryz.prog X 173 [t0,t1] (λV0 S1=>oK (qAH .geq V0 (.int .i64 0)) λV2=>K V2 S1) s
def qC5:Nat→List Nat:=λ_=>[]
theorem qDB {X:Td} (hX:FrX X) (hn:X 120=none) {t0 t1:AV} {K:KvP} {s:Hq} (h:qB1 X t0 t1 K s):wC Tryz.prog X 120 [t0,t1] K s:=
 qAL hX qC5 hn Tryz.func120 (by kernel_rfl:Tryz.f120.body=some (qAU Tryz.f120)) (by kernel_rfl) (Eq.mpr (by kernel_rfl) h)
def qH4 (X:Td)(t14 t21 t27:AV) (K:KvP) (s:Hq):Prop:=
 oK (qAT t21 (.bool true) t27) λV15=>oK (qAT t14 V15 (.bool false)) λV16=>K V16 s
def qDU (X:Td)(t1 x2 t9 t12:AV) (K:KvP) (s:Hq):Prop:=
 oK (qAT t9 t12 (.bool false)) λV7=>qAQ V7
 (oK (qAC 3 x2) λV8=>oK (rdN s 2 V8) λV9=>oK (qAC 3 t1) λV10=>oK (qAC 0 V10) λV11=>oK (rd1 s V11) λV12=>wC Tryz.prog X 122 [(.agg V9),V12] (λV13 S14=>qAQ V13
 (qH4 X V7 V13 .undef K S14)
 (oK (qAC 3 t1) λV17=>oK (rdN S14 2 V17) λV18=>oK (qAC 3 x2) λV19=>oK (qAC 0 V19) λV20=>oK (rd1 S14 V20) λV21=>wC Tryz.prog X 122 [(.agg V18),V21] (λV22 S23=>qH4 X V7 V13 V22 K S23) S14)) s)
 (oK (qAT V7 .undef (.bool false)) λV24=>K V24 s)
def qR3 (X:Td)(x0 t1:AV) (K:KvP) (s:Hq):Prop:=
 boxK 87 x0 (λB0 S1=>oK (qAC 0 B0) λV2=>oK (rd1 S1 V2) λV3=>oK (qAC 0 t1) λV4=>oK (rd1 S1 V4) λV5=>oK (negB false (eqV 0 false V3 V5)) λV6=>qAQ V6
 (oK (qAC 5 B0) λV25=>oK (rd1 S1 V25) λV26=>oK (negB true (eqV 0 true V26 (.int .u32 0))) λV27=>qDU X t1 B0 V6 V27 K S1)
 (qDU X t1 B0 V6 .undef K S1)) s
def qLs:Nat→List Nat:=λ_=>[]
theorem qNe {X:Td} (hX:FrX X) (hn:X 121=none) {x0 t1:AV} {K:KvP} {s:Hq} (h:qR3 X x0 t1 K s):wC Tryz.prog X 121 [x0,t1] K s:=
 qAL hX qLs hn Tryz.func121 (by kernel_rfl:Tryz.f121.body=some (qAU Tryz.f121)) (by kernel_rfl) (Eq.mpr (by kernel_rfl) h)
def qLx (X:Td)(p0 ip1:AV) (K:KvP) (s:Hq):Prop:=
 boxK 71 p0 (λB0 S1=>oK (rdN S1 2 B0) λV2=>wC Tryz.prog X 174 [(.agg V2)] (λV3 S4=>qAQ V3
 (oK (qAC 0 B0) λV5=>oK (rd1 S4 V5) λV6=>oK (qAH .xor V6 ip1) λV7=>oK (qAC 1 B0) λV8=>oK (rd1 S4 V8) λV9=>wC Tryz.prog X 175 [V9] (λV10 S11=>(∀ b,S4 b≠none→S4 b=none→S11 b=none)→
 oK (qAH .and V7 V10) λV12=>oK (negB false (eqV 0 true V12 (.int .u32 0))) λV13=>oK (qAT V3 V13 (.bool false)) λV14=>K V14 (add S4 S11)) (frz S4))
 (oK (qAT V3 .undef (.bool false)) λV15=>K V15 S4)) S1) s
def qI8:Nat→List Nat:=λ_=>[]
theorem qJe {X:Td} (hX:FrX X) (hn:X 122=none) {p0 ip1:AV} {K:KvP} {s:Hq} (h:qLx X p0 ip1 K s):wC Tryz.prog X 122 [p0,ip1] K s:=
 qAL hX qI8 hn Tryz.func122 (by kernel_rfl:Tryz.f122.body=some (qAU Tryz.f122)) (by kernel_rfl) (Eq.mpr (by kernel_rfl) h)
def qCw (X:Td)(t0 t1:AV) (K:KvP) (s:Hq):Prop:=
 wC Tryz.prog X 176 [t0,t1] (λV0 S1=>oK (qAH .geq V0 (.int .i64 0)) λV2=>K V2 S1) s
def qEY:Nat→List Nat:=λ_=>[]
theorem qEj {X:Td} (hX:FrX X) (hn:X 123=none) {t0 t1:AV} {K:KvP} {s:Hq} (h:qCw X t0 t1 K s):wC Tryz.prog X 123 [t0,t1] K s:=
 qAL hX qEY hn Tryz.func123 (by kernel_rfl:Tryz.f123.body=some (qAU Tryz.f123)) (by kernel_rfl) (Eq.mpr (by kernel_rfl) h)
def qJ2 (X:Td)(n0 t1:AV) (K:KvP) (s:Hq):Prop:=
 oK (qAC 0 t1) λV0=>oK (rd1 s V0) λV1=>wC Tryz.prog X 76 [n0,V1] (λV2 S3=>oK (qAo .not V2) λV4=>K V4 S3) s
def qKt:Nat→List Nat:=λ_=>[]
theorem qL5 {X:Td} (hX:FrX X) (hn:X 124=none) {n0 t1:AV} {K:KvP} {s:Hq} (h:qJ2 X n0 t1 K s):wC Tryz.prog X 124 [n0,t1] K s:=
 qAL hX qKt hn Tryz.func124 (by kernel_rfl:Tryz.f124.body=some (qAU Tryz.f124)) (by kernel_rfl) (Eq.mpr (by kernel_rfl) h)
def qJ9 (X:Td)(b0 t1:AV) (K:KvP) (s:Hq):Prop:=
 oK (qAC 4 t1) λV0=>oK (rd1 s V0) λV1=>oK (qAR V1) λV2=>wC Tryz.prog X 76 [b0,(.int .i64 V2)] (λV4 S5=>oK (qAo .not V4) λV6=>K V6 S5) s
def qKn:Nat→List Nat:=λ_=>[]
theorem qLp {X:Td} (hX:FrX X) (hn:X 125=none) {b0 t1:AV} {K:KvP} {s:Hq} (h:qJ9 X b0 t1 K s):wC Tryz.prog X 125 [b0,t1] K s:=
 qAL hX qKn hn Tryz.func125 (by kernel_rfl:Tryz.f125.body=some (qAU Tryz.f125)) (by kernel_rfl) (Eq.mpr (by kernel_rfl) h)
def qIX (X:Td)(l0 i3:AV) (I0:IvP) (m0:Nat) (K:KvP) (s:Hq):Prop:=
 oK (qAR l0) λV0=>oK (qAH .lss i3 (.int .i64 V0)) λV2=>qAQ V2
 (oK (qAZ 1 l0 i3) λV3=>oK (rd1 s V3) λV4=>oK (qAH .sub i3 (.int .i64 1)) λV5=>oK (qAZ 1 l0 V5) λV6=>oK (rd1 s V6) λV7=>oK (qAH .leq V4 V7) λV8=>qAQ V8
 (K (.bool false) s)
 (oK (qAH .add i3 (.int .i64 1)) λV9=>∃ m',m' < m0∧I0 [V9] s m'))
 (K (.bool true) s)
def qLf (X:Td)(l0:AV) (K:KvP) (s:Hq):Prop:=
 ∃ I0:IvP,(∃ m,I0 [(.int .i64 1)] s m)∧∀ (f:Env) (s:Hq) (m0:Nat),I0 [f 3] s m0→
 qIX X l0 (f 3) I0 m0 K s
def qL0:Nat→List Nat:=λk=>cond (Nat.beq k 4) [3] ([])
theorem qMq {X:Td} (hX:FrX X) (hn:X 126=none) {l0:AV} {K:KvP} {s:Hq} (h:qLf X l0 K s):wC Tryz.prog X 126 [l0] K s:=
 qAL hX qL0 hn Tryz.func126 (by kernel_rfl:Tryz.f126.body=some (qAU Tryz.f126)) (by kernel_rfl) (Eq.mpr (by kernel_rfl) h)
def qCZ (X:Td)(key1 seen5 again6 t16 t17 t18:AV) (I0:IvP) (m0:Nat) (K:KvP) (s:Hq):Prop:=
 oK (qAH .lss t18 t17) λV12=>qAQ V12
 (oK (qAZ 4 t16 t18) λV13=>oK (rdN s 4 V13) λV14=>newK 140 [(.int .u64 0),(.int .u32 0),(.int .i64 0),(.int .i64 0)] (λB15 S16=>oK (qBY S16 4 (.ptr B15 0) (.agg V14)) λS17=>oK (rdN S17 4 (.ptr B15 0)) λV18=>funK Tryz.prog X key1 [(.agg V18)] (λV19 S20=>newK 203 [(.int .i64 0),(.int .u64 0)] (λB21 S22=>oK (qBY S22 2 (.ptr B21 0) V19) λS23=>oK (rdN S23 2 (.ptr B21 0)) λV24=>oK (getG Tryz.prog 203 S23 seen5 (.agg V24)) λr_25=>oK (qAZ 1 again6 t18) λV26=>oK (wr1 S23 V26 (retM (.bool false) false r_25)) λS27=>oK (rdN S27 2 (.ptr B21 0)) λV28=>oK (putG Tryz.prog 203 S27 seen5 (.agg V28) (.bool true)) λS29=>oK (qAH .add t18 (.int .i64 1)) λV30=>∃ m',m' < m0∧I0 [V30] S29 m') S20) S17) s)
 (K again6 s)
def qC4 (X:Td)(l0 key1:AV) (K:KvP) (s:Hq):Prop:=
 oK (qAR l0) λV0=>intK (.int .i64 V0) (mapK (λV2 S3=>oK (qAR l0) λV4=>oK (nat? (.int .i64 V4)) λn_6=>oK (nat? (.int .i64 V4)) λn_7=>(n_6≤n_7∧n_7≤4294967296)∧newK 4 (repl n_7 [(.bool false)]) (λB8 S9=>oK (qAR l0) λV10=>∃ I0:IvP,(∃ m,I0 [(.int .i64 0)] S9 m)∧∀ (f:Env) (s:Hq) (m0:Nat),I0 [f 18] s m0→
 qCZ X key1 V2 (.slc B8 0 n_6 (some n_7) 1) l0 (.int .i64 V10) (f 18) I0 m0 K s) S3) s)
def qEg:Nat→List Nat:=λk=>cond (Nat.beq k 8) [18] ([])
theorem qFL {X:Td} (hX:FrX X) (hn:X 127=none) {l0 key1:AV} {K:KvP} {s:Hq} (h:qC4 X l0 key1 K s):wC Tryz.prog X 127 [l0,key1] K s:=
 qAL hX qEg hn Tryz.func127 (by kernel_rfl:Tryz.f127.body=some (qAU Tryz.f127)) (by kernel_rfl) (Eq.mpr (by kernel_rfl) h)
def qWY (X:Td)(h0:AV) (K:KvP) (s:Hq):Prop:=
 boxK 140 h0 (λB0 S1=>newK 203 [(.int .i64 0),(.int .u64 0)] (λB2 S3=>oK (qAC 2 B0) λV4=>oK (rd1 S3 V4) λV5=>oK (qAC 0 B0) λV6=>oK (rd1 S3 V6) λV7=>oK (qCA [(.int .i64 0),(.int .u64 0)] [(0,1,V5),(1,1,V7)]) λC8=>oK (qBY S3 2 (.ptr B2 0) (.agg C8)) λS9=>oK (rdN S9 2 (.ptr B2 0)) λt2_10=>K (.agg t2_10) S9) S1) s
def qOT:Nat→List Nat:=λ_=>[]
theorem qP9 {X:Td} (hX:FrX X) (hn:X 128=none) {h0:AV} {K:KvP} {s:Hq} (h:qWY X h0 K s):wC Tryz.prog X 128 [h0] K s:=
 qAL hX qOT hn Tryz.func128 (by kernel_rfl:Tryz.f128.body=some (qAU Tryz.f128)) (by kernel_rfl) (Eq.mpr (by kernel_rfl) h)
def qVa (X:Td)(h0:AV) (K:KvP) (s:Hq):Prop:=
 boxK 140 h0 (λB0 S1=>newK 203 [(.int .i64 0),(.int .u64 0)] (λB2 S3=>oK (qAC 2 B0) λV4=>oK (rd1 S3 V4) λV5=>oK (qAC 1 B0) λV6=>oK (rd1 S3 V6) λV7=>oK (qDl .u64 V7) λV8=>oK (qCA [(.int .i64 0),(.int .u64 0)] [(0,1,V5),(1,1,V8)]) λC9=>oK (qBY S3 2 (.ptr B2 0) (.agg C9)) λS10=>oK (rdN S10 2 (.ptr B2 0)) λt2_11=>K (.agg t2_11) S10) S1) s
def qOf:Nat→List Nat:=λ_=>[]
theorem qPf {X:Td} (hX:FrX X) (hn:X 129=none) {h0:AV} {K:KvP} {s:Hq} (h:qVa X h0 K s):wC Tryz.prog X 129 [h0] K s:=
 qAL hX qOf hn Tryz.func129 (by kernel_rfl:Tryz.f129.body=some (qAU Tryz.f129)) (by kernel_rfl) (Eq.mpr (by kernel_rfl) h)
def qEt (X:Td)(t5 t9:AV) (K:KvP) (s:Hq):Prop:=
 oK (qAT t5 t9 (.bool false)) λV1=>K V1 s
def qGx (X:Td)(t0:AV) (K:KvP) (s:Hq):Prop:=
 oK (qAH .leq t0 (.int .u64 281474976710655)) λV0=>qAQ V0
 (oK (qF4 .shr t0 (.int .u64 40)) λV2=>oK (qAH .and V2 (.int .u64 1)) λV3=>oK (negB true (eqV 0 true V3 (.int .u64 0))) λV4=>qEt X V0 V4 K s)
 (qEt X V0 .undef K s)
def qIV:Nat→List Nat:=λ_=>[]
theorem qJH {X:Td} (hX:FrX X) (hn:X 130=none) {t0:AV} {K:KvP} {s:Hq} (h:qGx X t0 K s):wC Tryz.prog X 130 [t0] K s:=
 qAL hX qIV hn Tryz.func130 (by kernel_rfl:Tryz.f130.body=some (qAU Tryz.f130)) (by kernel_rfl) (Eq.mpr (by kernel_rfl) h)
def qDu (X:Td)(t0 v1:AV) (K:KvP) (s:Hq):Prop:=
 wC Tryz.prog X 63 [t0,v1] (λV0 S1=>oK (qAH .geq V0 (.int .i64 0)) λV2=>K V2 S1) s
def qFr:Nat→List Nat:=λ_=>[]
theorem qGJ {X:Td} (hX:FrX X) (hn:X 32=none) {t0 v1:AV} {K:KvP} {s:Hq} (h:qDu X t0 v1 K s):wC Tryz.prog X 32 [t0,v1] K s:=
 qAL hX qFr hn Tryz.func32 (by kernel_rfl:Tryz.f32.body=some (qAU Tryz.f32)) (by kernel_rfl) (Eq.mpr (by kernel_rfl) h)
def qBq (X:Td)(t0 t6 t8:AV) (K:KvP) (s:Hq):Prop:=
 oK (qAT t6 (.bool true) t8) λV1=>qAQ V1
 (K (.tup [(.int .i64 0),(.bool false)]) s)
 (oK (qAH .sub t0 (.int .u64 2199023255552)) λV2=>oK (qDl .i64 V2) λV3=>K (.tup [V3,(.bool true)]) s)
def qGA (X:Td)(t0:AV) (K:KvP) (s:Hq):Prop:=
 oK (qAH .lss t0 (.int .u64 2199023255552)) λV0=>qAQ V0
 (qBq X t0 V0 .undef K s)
 (oK (qAH .geq t0 (.int .u64 2199023255584)) λV4=>qBq X t0 V0 V4 K s)
def qHw:Nat→List Nat:=λ_=>[]
theorem qH9 {X:Td} (hX:FrX X) (hn:X 131=none) {t0:AV} {K:KvP} {s:Hq} (h:qGA X t0 K s):wC Tryz.prog X 131 [t0] K s:=
 qAL hX qHw hn Tryz.func131 (by kernel_rfl:Tryz.f131.body=some (qAU Tryz.f131)) (by kernel_rfl) (Eq.mpr (by kernel_rfl) h)
def qIS (X:Td)(t16 t20:AV) (K:KvP) (s:Hq):Prop:=
 oK (qAT t16 t20 (.bool false)) λV7=>K V7 s
def qDd (X:Td)(ip1 b2 t10 t14:AV) (K:KvP) (s:Hq):Prop:=
 oK (qAT t10 t14 (.bool false)) λV6=>qAQ V6
 (oK (qAC 3 b2) λV8=>oK (rdN s 2 V8) λV9=>wC Tryz.prog X 119 [(.agg V9),ip1] (λV10 S11=>qIS X V6 V10 K S11) s)
 (qIS X V6 .undef K s)
def qSm (X:Td)(b0 ip1:AV) (K:KvP) (s:Hq):Prop:=
 boxK 87 b0 (λB0 S1=>oK (negB false (eqV 0 true ip1 (.int .u32 0))) λV2=>qAQ V2
 (K (.bool true) S1)
 (oK (qAC 5 B0) λV3=>oK (rd1 S1 V3) λV4=>oK (negB true (eqV 0 true V4 (.int .u32 0))) λV5=>qAQ V5
 (oK (qAC 5 B0) λV12=>oK (rd1 S1 V12) λV13=>oK (negB true (eqV 0 false ip1 V13)) λV14=>qDd X ip1 B0 V5 V14 K S1)
 (qDd X ip1 B0 V5 .undef K S1))) s
def qLy:Nat→List Nat:=λ_=>[]
theorem qM7 {X:Td} (hX:FrX X) (hn:X 132=none) {b0 ip1:AV} {K:KvP} {s:Hq} (h:qSm X b0 ip1 K s):wC Tryz.prog X 132 [b0,ip1] K s:=
 qAL hX qLy hn Tryz.func132 (by kernel_rfl:Tryz.f132.body=some (qAU Tryz.f132)) (by kernel_rfl) (Eq.mpr (by kernel_rfl) h)
def qDJ (X:Td)(key1 seen5 again6 t16 t17 t18:AV) (I0:IvP) (m0:Nat) (K:KvP) (s:Hq):Prop:=
 oK (qAH .lss t18 t17) λV12=>qAQ V12
 (oK (qAZ 4 t16 t18) λV13=>oK (rdN s 4 V13) λV14=>newK 144 [(.int .i64 0),(.int .i64 0),(.int .u32 0),(.int .i64 0)] (λB15 S16=>oK (qBY S16 4 (.ptr B15 0) (.agg V14)) λS17=>oK (rdN S17 4 (.ptr B15 0)) λV18=>funK Tryz.prog X key1 [(.agg V18)] (λV19 S20=>newK 144 [(.int .i64 0),(.int .i64 0),(.int .u32 0),(.int .i64 0)] (λB21 S22=>oK (qBY S22 4 (.ptr B21 0) V19) λS23=>oK (rdN S23 4 (.ptr B21 0)) λV24=>oK (getG Tryz.prog 144 S23 seen5 (.agg V24)) λr_25=>oK (qAZ 1 again6 t18) λV26=>oK (wr1 S23 V26 (retM (.bool false) false r_25)) λS27=>oK (rdN S27 4 (.ptr B21 0)) λV28=>oK (putG Tryz.prog 144 S27 seen5 (.agg V28) (.bool true)) λS29=>oK (qAH .add t18 (.int .i64 1)) λV30=>∃ m',m' < m0∧I0 [V30] S29 m') S20) S17) s)
 (K again6 s)
def qEf (X:Td)(l0 key1:AV) (K:KvP) (s:Hq):Prop:=
 oK (qAR l0) λV0=>intK (.int .i64 V0) (mapK (λV2 S3=>oK (qAR l0) λV4=>oK (nat? (.int .i64 V4)) λn_6=>oK (nat? (.int .i64 V4)) λn_7=>(n_6≤n_7∧n_7≤4294967296)∧newK 4 (repl n_7 [(.bool false)]) (λB8 S9=>oK (qAR l0) λV10=>∃ I0:IvP,(∃ m,I0 [(.int .i64 0)] S9 m)∧∀ (f:Env) (s:Hq) (m0:Nat),I0 [f 18] s m0→
 qDJ X key1 V2 (.slc B8 0 n_6 (some n_7) 1) l0 (.int .i64 V10) (f 18) I0 m0 K s) S3) s)
def qGg:Nat→List Nat:=λk=>cond (Nat.beq k 8) [18] ([])
theorem qG3 {X:Td} (hX:FrX X) (hn:X 133=none) {l0 key1:AV} {K:KvP} {s:Hq} (h:qEf X l0 key1 K s):wC Tryz.prog X 133 [l0,key1] K s:=
 qAL hX qGg hn Tryz.func133 (by kernel_rfl:Tryz.f133.body=some (qAU Tryz.f133)) (by kernel_rfl) (Eq.mpr (by kernel_rfl) h)
def qVY (X:Td)(l0:AV) (K:KvP) (s:Hq):Prop:=
 boxK 144 l0 (λB0 S1=>newK 144 [(.int .i64 0),(.int .i64 0),(.int .u32 0),(.int .i64 0)] (λB2 S3=>oK (rdN S3 4 B0) λV4=>oK (qBY S3 4 (.ptr B2 0) (.agg V4)) λS5=>oK (rdN S5 4 (.ptr B2 0)) λt2_6=>K (.agg t2_6) S5) S1) s
def qOh:Nat→List Nat:=λ_=>[]
theorem qPh {X:Td} (hX:FrX X) (hn:X 134=none) {l0:AV} {K:KvP} {s:Hq} (h:qVY X l0 K s):wC Tryz.prog X 134 [l0] K s:=
 qAL hX qOh hn Tryz.func134 (by kernel_rfl:Tryz.f134.body=some (qAU Tryz.f134)) (by kernel_rfl) (Eq.mpr (by kernel_rfl) h)
def qBP (X:Td)(t0 t1:AV) (K:KvP) (s:Hq):Prop:=
 wC Tryz.prog X 198 [t0,t1] (λV0 S1=>oK (qAH .geq V0 (.int .i64 0)) λV2=>K V2 S1) s
def qB9:Nat→List Nat:=λ_=>[]
theorem qCO {X:Td} (hX:FrX X) (hn:X 170=none) {t0 t1:AV} {K:KvP} {s:Hq} (h:qBP X t0 t1 K s):wC Tryz.prog X 170 [t0,t1] K s:=
 qAL hX qB9 hn Tryz.func170 (by kernel_rfl:Tryz.f170.body=some (qAU Tryz.f170)) (by kernel_rfl) (Eq.mpr (by kernel_rfl) h)
def qFY (X:Td)(x0 t1 t2:AV) (K:KvP) (s:Hq):Prop:=
 boxK 117 x0 (λB0 S1=>oK (rd1 S1 t1) λV2=>oK (rdN S1 2 B0) λV3=>funK Tryz.prog X V2 [(.agg V3)] (λV4 S5=>(∀ b,S1 b≠none→S1 b=none→S5 b=none)→
 oK (rd1 (cutH [(S1,(add S1 S5))] (add S1 S5)) t2) λV6=>oK (negB false (eqV 0 false V4 V6)) λV7=>K V7 (add S1 S5)) (frz S1)) s
def qD5:Nat→List Nat:=λ_=>[]
theorem qEP {X:Td} (hX:FrX X) (hn:X 171=none) {x0 t1 t2:AV} {K:KvP} {s:Hq} (h:qFY X x0 t1 t2 K s):wC Tryz.prog X 171 [x0,t1,t2] K s:=
 qAL hX qD5 hn Tryz.func171 (by kernel_rfl:Tryz.f171.body=some (qAU Tryz.f171)) (by kernel_rfl) (Eq.mpr (by kernel_rfl) h)
def qPY (X:Td)(p0:AV) (K:KvP) (s:Hq):Prop:=
 boxK 71 p0 (λB0 S1=>newK 71 [(.int .u32 0),(.int .i64 0)] (λB2 S3=>oK (rdN S3 2 B0) λV4=>wC Tryz.prog X 174 [(.agg V4)] (λV5 S6=>oK (qAo .not V5) λV7=>qAQ V7
 (oK (qCA [(.int .u32 0),(.int .i64 0)] []) λC8=>oK (qBY S6 2 (.ptr B2 0) (.agg C8)) λS9=>oK (rdN S9 2 (.ptr B2 0)) λt2_10=>K (.tup [(.agg t2_10),(.int .i64 2)]) S9)
 (oK (qAC 0 B0) λV11=>oK (rd1 S6 V11) λV12=>oK (qAC 1 B0) λV13=>oK (rd1 S6 V13) λV14=>wC Tryz.prog X 175 [V14] (λV15 S16=>(∀ b,S6 b≠none→S6 b=none→S16 b=none)→
 oK (qAH .and V12 V15) λV17=>oK (qAC 0 B0) λV18=>oK (wr1 (add S6 S16) V18 V17) λS19=>oK (rdN S19 2 B0) λV20=>oK (qBY S19 2 (.ptr B2 0) (.agg V20)) λS21=>oK (rdN S21 2 (.ptr B2 0)) λt2_22=>K (.tup [(.agg t2_22),(.int .i64 0)]) S21) (frz S6))) S3) S1) s
def qKw:Nat→List Nat:=λ_=>[]
theorem qL1 {X:Td} (hX:FrX X) (hn:X 172=none) {p0:AV} {K:KvP} {s:Hq} (h:qPY X p0 K s):wC Tryz.prog X 172 [p0] K s:=
 qAL hX qKw hn Tryz.func172 (by kernel_rfl:Tryz.f172.body=some (qAU Tryz.f172)) (by kernel_rfl) (Eq.mpr (by kernel_rfl) h)
def qB2 (X:Td)(t0 t1 t7 t8:AV) (I0:IvP) (m0:Nat) (K:KvP) (s:Hq):Prop:=
 oK (qAH .lss t8 t7) λV2=>qAQ V2
 (oK (qAZ 6 t0 t8) λV3=>oK (rdN s 6 V3) λV4=>funK Tryz.prog X t1 [(.agg V4)] (λV5 S6=>qAQ V5
 (K t8 S6)
 (oK (qAH .add t8 (.int .i64 1)) λV7=>∃ m',m' < m0∧I0 [V7] S6 m')) s)
 (K (.int .i64 (-1)) s)
def qCR (X:Td)(t0 t1:AV) (K:KvP) (s:Hq):Prop:=
 oK (qAR t0) λV0=>∃ I0:IvP,(∃ m,I0 [(.int .i64 0)] s m)∧∀ (f:Env) (s:Hq) (m0:Nat),I0 [f 8] s m0→
 qB2 X t0 t1 (.int .i64 V0) (f 8) I0 m0 K s
def qDT:Nat→List Nat:=λk=>cond (Nat.beq k 4) [8] ([])
theorem qDm {X:Td} (hX:FrX X) (hn:X 173=none) {t0 t1:AV} {K:KvP} {s:Hq} (h:qCR X t0 t1 K s):wC Tryz.prog X 173 [t0,t1] K s:=
 qAL hX qDT hn Tryz.func173 (by kernel_rfl:Tryz.f173.body=some (qAU Tryz.f173)) (by kernel_rfl) (Eq.mpr (by kernel_rfl) h)
def qHp (X:Td)(t6 t9:AV) (K:KvP) (s:Hq):Prop:=
 oK (qAT t6 t9 (.bool false)) λV5=>K V5 s
def qPl (X:Td)(p0:AV) (K:KvP) (s:Hq):Prop:=
 boxK 71 p0 (λB0 S1=>oK (qAC 1 B0) λV2=>oK (rd1 S1 V2) λV3=>oK (qAH .geq V3 (.int .i64 0)) λV4=>qAQ V4
 (oK (qAC 1 B0) λV6=>oK (rd1 S1 V6) λV7=>oK (qAH .leq V7 (.int .i64 32)) λV8=>qHp X V4 V8 K S1)
 (qHp X V4 .undef K S1)) s
def qLI:Nat→List Nat:=λ_=>[]
theorem qLu {X:Td} (hX:FrX X) (hn:X 174=none) {p0:AV} {K:KvP} {s:Hq} (h:qPl X p0 K s):wC Tryz.prog X 174 [p0] K s:=
 qAL hX qLI hn Tryz.func174 (by kernel_rfl:Tryz.f174.body=some (qAU Tryz.f174)) (by kernel_rfl) (Eq.mpr (by kernel_rfl) h)
def qLL (X:Td)(length0:AV) (K:KvP) (s:Hq):Prop:=
 oK (qAH .sub (.int .i64 32) length0) λV0=>oK (qF4 .shl (.int .u32 4294967295) V0) λV1=>K V1 s
def qL9:Nat→List Nat:=λ_=>[]
theorem qMe {X:Td} (hX:FrX X) (hn:X 175=none) {length0:AV} {K:KvP} {s:Hq} (h:qLL X length0 K s):wC Tryz.prog X 175 [length0] K s:=
 qAL hX qL9 hn Tryz.func175 (by kernel_rfl:Tryz.f175.body=some (qAU Tryz.f175)) (by kernel_rfl) (Eq.mpr (by kernel_rfl) h)
def qCz (X:Td)(t0 t1 t7 t8:AV) (I0:IvP) (m0:Nat) (K:KvP) (s:Hq):Prop:=
 oK (qAH .lss t8 t7) λV2=>qAQ V2
 (oK (qAZ 1 t0 t8) λV3=>oK (rd1 s V3) λV4=>funK Tryz.prog X t1 [V4] (λV5 S6=>qAQ V5
 (K t8 S6)
 (oK (qAH .add t8 (.int .i64 1)) λV7=>∃ m',m' < m0∧I0 [V7] S6 m')) s)
 (K (.int .i64 (-1)) s)
def qDi (X:Td)(t0 t1:AV) (K:KvP) (s:Hq):Prop:=
 oK (qAR t0) λV0=>∃ I0:IvP,(∃ m,I0 [(.int .i64 0)] s m)∧∀ (f:Env) (s:Hq) (m0:Nat),I0 [f 8] s m0→
 qCz X t0 t1 (.int .i64 V0) (f 8) I0 m0 K s
def qFk:Nat→List Nat:=λk=>cond (Nat.beq k 4) [8] ([])
theorem qFo {X:Td} (hX:FrX X) (hn:X 176=none) {t0 t1:AV} {K:KvP} {s:Hq} (h:qDi X t0 t1 K s):wC Tryz.prog X 176 [t0,t1] K s:=
 qAL hX qFk hn Tryz.func176 (by kernel_rfl:Tryz.f176.body=some (qAU Tryz.f176)) (by kernel_rfl) (Eq.mpr (by kernel_rfl) h)
def qDo (X:Td)(t0 v1 t7 t8:AV) (I0:IvP) (m0:Nat) (K:KvP) (s:Hq):Prop:=
 oK (qAH .lss t8 t7) λV2=>qAQ V2
 (oK (qAZ 1 t0 t8) λV3=>oK (rd1 s V3) λV4=>oK (negB false (eqV 0 false v1 V4)) λV5=>qAQ V5
 (K t8 s)
 (oK (qAH .add t8 (.int .i64 1)) λV6=>∃ m',m' < m0∧I0 [V6] s m'))
 (K (.int .i64 (-1)) s)
def qFj (X:Td)(t0 v1:AV) (K:KvP) (s:Hq):Prop:=
 oK (qAR t0) λV0=>∃ I0:IvP,(∃ m,I0 [(.int .i64 0)] s m)∧∀ (f:Env) (s:Hq) (m0:Nat),I0 [f 8] s m0→
 qDo X t0 v1 (.int .i64 V0) (f 8) I0 m0 K s
def qHh:Nat→List Nat:=λk=>cond (Nat.beq k 4) [8] ([])
theorem qHu {X:Td} (hX:FrX X) (hn:X 63=none) {t0 v1:AV} {K:KvP} {s:Hq} (h:qFj X t0 v1 K s):wC Tryz.prog X 63 [t0,v1] K s:=
 qAL hX qHh hn Tryz.func63 (by kernel_rfl:Tryz.f63.body=some (qAU Tryz.f63)) (by kernel_rfl) (Eq.mpr (by kernel_rfl) h)
def qBO (X:Td)(t0 t1 t7 t8:AV) (I0:IvP) (m0:Nat) (K:KvP) (s:Hq):Prop:=
 oK (qAH .lss t8 t7) λV2=>qAQ V2
 (oK (qAZ 2 t0 t8) λV3=>oK (rdN s 2 V3) λV4=>funK Tryz.prog X t1 [(.agg V4)] (λV5 S6=>qAQ V5
 (K t8 S6)
 (oK (qAH .add t8 (.int .i64 1)) λV7=>∃ m',m' < m0∧I0 [V7] S6 m')) s)
 (K (.int .i64 (-1)) s)
def qBX (X:Td)(t0 t1:AV) (K:KvP) (s:Hq):Prop:=
 oK (qAR t0) λV0=>∃ I0:IvP,(∃ m,I0 [(.int .i64 0)] s m)∧∀ (f:Env) (s:Hq) (m0:Nat),I0 [f 8] s m0→
 qBO X t0 t1 (.int .i64 V0) (f 8) I0 m0 K s
def qCY:Nat→List Nat:=λk=>cond (Nat.beq k 4) [8] ([])
theorem qCe {X:Td} (hX:FrX X) (hn:X 198=none) {t0 t1:AV} {K:KvP} {s:Hq} (h:qBX X t0 t1 K s):wC Tryz.prog X 198 [t0,t1] K s:=
 qAL hX qCY hn Tryz.func198 (by kernel_rfl:Tryz.f198.body=some (qAU Tryz.f198)) (by kernel_rfl) (Eq.mpr (by kernel_rfl) h)
def qLd (X:Td)(t7 t10:AV) (K:KvP) (s:Hq):Prop:=
 oK (qAT t7 t10 (.bool false)) λV1=>K V1 s
def qRN (X:Td)(i0 n1:AV) (K:KvP) (s:Hq):Prop:=
 oK (qAH .geq i0 (.int .i64 0)) λV0=>qAQ V0
 (oK (qAH .lss i0 n1) λV2=>qLd X V0 V2 K s)
 (qLd X V0 .undef K s)
def qP1:Nat→List Nat:=λ_=>[]
theorem qQ8 {X:Td} (hX:FrX X) (hn:X 76=none) {i0 n1:AV} {K:KvP} {s:Hq} (h:qRN X i0 n1 K s):wC Tryz.prog X 76 [i0,n1] K s:=
 qAL hX qP1 hn Tryz.func76 (by kernel_rfl:Tryz.f76.body=some (qAU Tryz.f76)) (by kernel_rfl) (Eq.mpr (by kernel_rfl) h)
def qVA (X:Td)(t0:AV) (K:KvP) (s:Hq):Prop:=
 boxK 31 t0 (λB0 S1=>oK (rdN S1 19 B0) λV2=>wC Tryz.prog X 31 [(.agg V2)] (λV3 S4=>oK (qAp V3 0) λV5=>oK (qAp V3 1) λV6=>oK (qAp V3 2) λV7=>oK (negB false (eqV 0 true V5 (.int .i64 0))) λV8=>K V8 S4) S1) s
def qSF:Nat→List Nat:=λ_=>[]
theorem qT4 {X:Td} (hX:FrX X) (hn:X 75=none) {t0:AV} {K:KvP} {s:Hq} (h:qVA X t0 K s):wC Tryz.prog X 75 [t0] K s:=
 qAL hX qSF hn Tryz.func75 (by kernel_rfl:Tryz.f75.body=some (qAU Tryz.f75)) (by kernel_rfl) (Eq.mpr (by kernel_rfl) h)
theorem qTF {t0:AV} {K:KvP} {s:Hq} (h:qVA XX t0 K s):wC Tryz.prog XX 75 [t0] K s:=qT4 qBm rfl h
end Go.AM
namespace Go.AM
open Go Go.Proofs
set_option maxRecDepth 100000
def qJQ (X:Td)(bad0 err1 part2 index3:AV) (K R:KvP) (s:Hq):Prop:=
 qAQ bad0
 (oK (qCA [(.int .i64 0),(.str ⟨#[]⟩),(.int .i64 0)] [(0,1,err1),(1,1,part2),(2,1,index3)]) λC0=>panK (.ifc 147 (.agg C0)) R s)
 (K (.tup []) s)
def qKP:Nat→List Nat:=λ_=>[]
theorem qKz {bad0 err1 part2 index3:AV} {K R:KvP} {s:Hq} (h:qJQ X0 bad0 err1 part2 index3 K R s):qAf Tryz.prog X0 SS 107 [bad0,err1,part2,index3] K R s:=
 qBo qJs qKP Tryz.func107 (by kernel_rfl:Tryz.f107.body=some (qAU Tryz.f107)) (by kernel_rfl) (by kernel_rfl) (Eq.mpr (by kernel_rfl) h)
def qF1 (X:Td)(t31 t34:AV) (K R:KvP) (s:Hq):Prop:=
 oK (qAT t31 (.bool true) t34) λV26=>qAf Tryz.prog X SS 107 [V26,(.int .i64 2),(.str ⟨#[102,97,98,114,105,99]⟩),(.int .i64 0)] (λV27 S28=>K (.tup []) S28) R s
def qF5 (X:Td)(t2 t26 t29:AV) (K R:KvP) (s:Hq):Prop:=
 oK (qAT t26 (.bool true) t29) λV25=>qAQ V25
 (qF1 X V25 .undef K R s)
 (oK (qAC 10 t2) λV29=>oK (rd1 s V29) λV30=>wC Tryz.prog X 108 [V30,(.int .i64 0),(.int .i64 1)] (λV31 S32=>qF1 X V25 V31 K R S32) s)
def qF7 (X:Td)(t2 t10 t13:AV) (K R:KvP) (s:Hq):Prop:=
 oK (qAT t10 (.bool true) t13) λV10=>qAf Tryz.prog X SS 107 [V10,(.int .i64 2),(.str ⟨#[102,97,98,114,105,99]⟩),(.int .i64 0)] (λV11 S12=>oK (qAC 0 t2) λV13=>oK (rd1 S12 V13) λV14=>oK (qAC 1 t2) λV15=>oK (rd1 S12 V15) λV16=>oK (qAH .add V14 V16) λV17=>oK (qAH .gtr V17 (.int .i64 32)) λV18=>qAf Tryz.prog X SS 107 [V18,(.int .i64 2),(.str ⟨#[102,97,98,114,105,99]⟩),(.int .i64 0)] (λV19 S20=>oK (qAC 8 t2) λV21=>oK (rd1 S20 V21) λV22=>wC Tryz.prog X 108 [V22,(.int .i64 0),(.int .i64 2)] (λV23 S24=>qAQ V23
 (qF5 X t2 V23 .undef K R S24)
 (oK (qAC 9 t2) λV33=>oK (rd1 S24 V33) λV34=>wC Tryz.prog X 108 [V34,(.int .i64 0),(.int .i64 1)] (λV35 S36=>qF5 X t2 V23 V35 K R S36) S24)) S20) R S12) R s
def qYc (X:Td)(c0:AV) (K R:KvP) (s:Hq):Prop:=
 oK (qBI c0) λV0=>oK (qAC 0 V0) λV1=>oK (rdN s 19 V1) λV2=>newK 31 zR1 (λB3 S4=>oK (qBY S4 19 (.ptr B3 0) (.agg V2)) λS5=>oK (qAC 0 (.ptr B3 0)) λV6=>oK (rd1 S5 V6) λV7=>wC Tryz.prog X 108 [V7,(.int .i64 1),(.int .i64 32)] (λV8 S9=>qAQ V8
 (qF7 X (.ptr B3 0) V8 .undef K R S9)
 (oK (qAC 1 (.ptr B3 0)) λV37=>oK (rd1 S9 V37) λV38=>wC Tryz.prog X 108 [V38,(.int .i64 0),(.int .i64 32)] (λV39 S40=>qF7 X (.ptr B3 0) V8 V39 K R S40) S9)) S5) s
def qQu:Nat→List Nat:=λ_=>[]
theorem qRi {c0:AV} {K R:KvP} {s:Hq} (h:qYc X0 c0 K R s):qAf Tryz.prog X0 SS 87 [c0] K R s:=
 qBo qJs qQu Tryz.func87 (by kernel_rfl:Tryz.f87.body=some (qAU Tryz.f87)) (by kernel_rfl) (by kernel_rfl) (Eq.mpr (by kernel_rfl) h)
def qFy (X:Td)(t30 t33:AV) (K R:KvP) (s:Hq):Prop:=
 oK (qAT t30 (.bool true) t33) λV20=>qAf Tryz.prog X SS 107 [V20,(.int .i64 2),(.str ⟨#[116,105,109,101,114,115]⟩),(.int .i64 0)] (λV21 S22=>K (.tup []) S22) R s
def qGC (X:Td)(t2 t25 t28:AV) (K R:KvP) (s:Hq):Prop:=
 oK (qAT t25 (.bool true) t28) λV19=>qAQ V19
 (qFy X V19 .undef K R s)
 (oK (qAC 5 t2) λV23=>oK (rd1 s V23) λV24=>wC Tryz.prog X 108 [V24,(.int .i64 1),(.int .i64 10000)] (λV25 S26=>qFy X V19 V25 K R S26) s)
def qFv (X:Td)(t2 t16 t19:AV) (K R:KvP) (s:Hq):Prop:=
 oK (qAT t16 (.bool true) t19) λV12=>qAf Tryz.prog X SS 107 [V12,(.int .i64 2),(.str ⟨#[116,105,109,101,114,115]⟩),(.int .i64 0)] (λV13 S14=>oK (qAC 3 t2) λV15=>oK (rd1 S14 V15) λV16=>wC Tryz.prog X 108 [V16,(.int .i64 0),(.int .i64 1000)] (λV17 S18=>qAQ V17
 (qGC X t2 V17 .undef K R S18)
 (oK (qAC 4 t2) λV27=>oK (rd1 S18 V27) λV28=>wC Tryz.prog X 108 [V28,(.int .i64 1),(.int .i64 100)] (λV29 S30=>qGC X t2 V17 V29 K R S30) S18)) S14) R s
def qF2 (X:Td)(t2 t11 t14:AV) (K R:KvP) (s:Hq):Prop:=
 oK (qAT t11 (.bool true) t14) λV11=>qAQ V11
 (qFv X t2 V11 .undef K R s)
 (oK (qAC 2 t2) λV31=>oK (rd1 s V31) λV32=>wC Tryz.prog X 108 [V32,(.int .i64 1),(.int .i64 10000)] (λV33 S34=>qFv X t2 V11 V33 K R S34) s)
def qR7 (X:Td)(c0:AV) (K R:KvP) (s:Hq):Prop:=
 oK (qBI c0) λV0=>oK (qAC 0 V0) λV1=>oK (qAC 13 V1) λV2=>oK (rdN s 6 V2) λV3=>newK 29 [(.int .i64 0),(.int .i64 0),(.int .i64 0),(.int .i64 0),(.int .i64 0),(.int .i64 0)] (λB4 S5=>oK (qBY S5 6 (.ptr B4 0) (.agg V3)) λS6=>oK (qAC 0 (.ptr B4 0)) λV7=>oK (rd1 S6 V7) λV8=>wC Tryz.prog X 108 [V8,(.int .i64 1),(.int .i64 100)] (λV9 S10=>qAQ V9
 (qF2 X (.ptr B4 0) V9 .undef K R S10)
 (oK (qAC 1 (.ptr B4 0)) λV35=>oK (rd1 S10 V35) λV36=>wC Tryz.prog X 108 [V36,(.int .i64 3),(.int .i64 1000)] (λV37 S38=>qF2 X (.ptr B4 0) V9 V37 K R S38) S10)) S6) s
def qQM:Nat→List Nat:=λ_=>[]
theorem qSp {c0:AV} {K R:KvP} {s:Hq} (h:qR7 X0 c0 K R s):qAf Tryz.prog X0 SS 88 [c0] K R s:=
 qBo qJs qQM Tryz.func88 (by kernel_rfl:Tryz.f88.body=some (qAU Tryz.f88)) (by kernel_rfl) (by kernel_rfl) (Eq.mpr (by kernel_rfl) h)
def qHB (X:Td)(again3 i4 t22 t51 t54:AV) (I0:IvP) (m0:Nat) (K R:KvP) (s:Hq):Prop:=
 oK (qAT t51 (.bool true) t54) λV36=>qAf Tryz.prog X SS 107 [V36,(.int .i64 2),(.str ⟨#[108,105,110,107,115]⟩),i4] (λV37 S38=>oK (qAZ 1 again3 i4) λV39=>oK (rd1 S38 V39) λV40=>qAf Tryz.prog X SS 107 [V40,(.int .i64 11),(.str ⟨#[108,105,110,107,115]⟩),i4] (λV41 S42=>oK (qAH .add t22 (.int .i64 1)) λV43=>∃ m',m' < m0∧I0 [V43] S42 m') R S38) R s
def qHN (X:Td)(again3 i4 l5 t22 t39 t47:AV) (I0:IvP) (m0:Nat) (K R:KvP) (s:Hq):Prop:=
 oK (qAT t39 t47 (.bool false)) λV34=>oK (qAo .not V34) λV35=>qAQ V35
 (qHB X again3 i4 t22 V35 .undef I0 m0 K R s)
 (oK (qAC 2 l5) λV44=>oK (rd1 s V44) λV45=>wC Tryz.prog X 108 [V45,(.int .i64 1),(.int .i64 1000)] (λV46 S47=>qHB X again3 i4 t22 V35 V46 I0 m0 K R S47) s)
def qHi (X:Td)(t2 again3 i4 l5 t22 t32 t37:AV) (I0:IvP) (m0:Nat) (K R:KvP) (s:Hq):Prop:=
 oK (qAT t32 t37 (.bool false)) λV33=>qAQ V33
 (oK (qAC 1 l5) λV48=>oK (rd1 s V48) λV49=>oK (qAC 0 t2) λV50=>oK (rd1 s V50) λV51=>oK (qAC 1 t2) λV52=>oK (rd1 s V52) λV53=>oK (qAH .add V51 V53) λV54=>oK (qAH .lss V49 V54) λV55=>qHN X again3 i4 l5 t22 V33 V55 I0 m0 K R s)
 (qHN X again3 i4 l5 t22 V33 .undef I0 m0 K R s)
def qMd (X:Td)(t2 again3 t20 t21 t22:AV) (I0:IvP) (m0:Nat) (K R:KvP) (s:Hq):Prop:=
 oK (qAH .lss t22 t21) λV21=>qAQ V21
 (oK (qAZ 3 t20 t22) λV22=>oK (rdN s 3 V22) λV23=>newK 115 [(.int .i64 0),(.int .i64 0),(.int .i64 0)] (λB24 S25=>oK (qBY S25 3 (.ptr B24 0) (.agg V23)) λS26=>oK (qAC 0 (.ptr B24 0)) λV27=>oK (rd1 S26 V27) λV28=>oK (qAC 0 t2) λV29=>oK (rd1 S26 V29) λV30=>wC Tryz.prog X 76 [V28,V30] (λV31 S32=>qAQ V31
 (oK (qAC 1 (.ptr B24 0)) λV56=>oK (rd1 S32 V56) λV57=>oK (qAC 0 t2) λV58=>oK (rd1 S32 V58) λV59=>oK (qAH .geq V57 V59) λV60=>qHi X t2 again3 t22 (.ptr B24 0) t22 V31 V60 I0 m0 K R S32)
 (qHi X t2 again3 t22 (.ptr B24 0) t22 V31 .undef I0 m0 K R S32)) S26) s)
 (K (.tup []) s)
def zAA9 (X:Td)(c0:AV) (K R:KvP) (s:Hq):Prop:=
 oK (qBI c0) λV0=>oK (qAC 0 V0) λV1=>oK (rdN s 19 V1) λV2=>newK 31 zR1 (λB3 S4=>oK (qBY S4 19 (.ptr B3 0) (.agg V2)) λS5=>oK (qAC 2 (.ptr B3 0)) λV6=>oK (rd1 S5 V6) λV7=>oK (qAR V7) λV8=>oK (qAH .gtr (.int .i64 V8) (.int .i64 128)) λV10=>qAf Tryz.prog X SS 107 [V10,(.int .i64 7),(.str ⟨#[108,105,110,107,115]⟩),(.int .i64 128)] (λV11 S12=>oK (qAC 2 (.ptr B3 0)) λV13=>oK (rd1 S12 V13) λV14=>wC Tryz.prog X 109 [V14,(.fn (.func 110) [] [])] (λV15 S16=>oK (qAC 2 (.ptr B3 0)) λV17=>oK (rd1 S16 V17) λV18=>oK (qAR V18) λV19=>∃ I0:IvP,(∃ m,I0 [(.int .i64 0)] S16 m)∧∀ (f:Env) (s:Hq) (m0:Nat),I0 [f 22] s m0→
 qMd X (.ptr B3 0) V15 V18 (.int .i64 V19) (f 22) I0 m0 K R s) S12) R S5) s
def qSj:Nat→List Nat:=λk=>cond (Nat.beq k 8) [22] ([])
theorem qUI {c0:AV} {K R:KvP} {s:Hq} (h:zAA9 X0 c0 K R s):qAf Tryz.prog X0 SS 89 [c0] K R s:=
 qBo qJs qSj Tryz.func89 (by kernel_rfl:Tryz.f89.body=some (qAU Tryz.f89)) (by kernel_rfl) (by kernel_rfl) (Eq.mpr (by kernel_rfl) h)
def qFD (X:Td)(i5 t22 t46 t50:AV) (I0:IvP) (m0:Nat) (K R:KvP) (s:Hq):Prop:=
 oK (qAT t46 (.bool true) t50) λV30=>qAf Tryz.prog X SS 107 [V30,(.int .i64 11),(.str ⟨#[116,101,110,97,110,116,115]⟩),i5] (λV31 S32=>oK (qAH .add t22 (.int .i64 1)) λV33=>∃ m',m' < m0∧I0 [V33] S32 m') R s
def qEz (X:Td)(vnis3 targets4 i5 t22 t35 t38:AV) (I0:IvP) (m0:Nat) (K R:KvP) (s:Hq):Prop:=
 oK (qAT t35 (.bool true) t38) λV25=>qAf Tryz.prog X SS 107 [V25,(.int .i64 2),(.str ⟨#[116,101,110,97,110,116,115]⟩),i5] (λV26 S27=>oK (qAZ 1 vnis3 i5) λV28=>oK (rd1 S27 V28) λV29=>qAQ V29
 (qFD X i5 t22 V29 .undef I0 m0 K R S27)
 (oK (qAZ 1 targets4 i5) λV34=>oK (rd1 S27 V34) λV35=>qFD X i5 t22 V29 V35 I0 m0 K R S27)) R s
def qE8 (X:Td)(vnis3 targets4 i5 t6 t22 t30 t33:AV) (I0:IvP) (m0:Nat) (K R:KvP) (s:Hq):Prop:=
 oK (qAT t30 (.bool true) t33) λV24=>qAQ V24
 (qEz X vnis3 targets4 i5 t22 V24 .undef I0 m0 K R s)
 (oK (qAC 1 t6) λV36=>oK (rd1 s V36) λV37=>oK (negB false (eqV 0 true V37 (.int .u32 0))) λV38=>qEz X vnis3 targets4 i5 t22 V24 V38 I0 m0 K R s)
def qKY (X:Td)(vnis3 targets4 t20 t21 t22:AV) (I0:IvP) (m0:Nat) (K R:KvP) (s:Hq):Prop:=
 oK (qAH .lss t22 t21) λV15=>qAQ V15
 (oK (qAZ 2 t20 t22) λV16=>oK (rdN s 2 V16) λV17=>newK 117 [(.int .u32 0),(.int .u32 0)] (λB18 S19=>oK (qBY S19 2 (.ptr B18 0) (.agg V17)) λS20=>oK (qAC 0 (.ptr B18 0)) λV21=>oK (rd1 S20 V21) λV22=>oK (qAH .lss V22 (.int .u32 1)) λV23=>qAQ V23
 (qE8 X vnis3 targets4 t22 (.ptr B18 0) t22 V23 .undef I0 m0 K R S20)
 (oK (qAC 0 (.ptr B18 0)) λV39=>oK (rd1 S20 V39) λV40=>oK (qAH .gtr V40 (.int .u32 16777215)) λV41=>qE8 X vnis3 targets4 t22 (.ptr B18 0) t22 V23 V41 I0 m0 K R S20)) s)
 (K (.tup []) s)
def qOt (X:Td)(c0:AV) (K R:KvP) (s:Hq):Prop:=
 oK (qBI c0) λV0=>oK (qAC 0 V0) λV1=>oK (qAC 3 V1) λV2=>oK (rd1 s V2) λV3=>oK (qAR V3) λV4=>oK (qAH .gtr (.int .i64 V4) (.int .i64 16)) λV6=>qAf Tryz.prog X SS 107 [V6,(.int .i64 7),(.str ⟨#[116,101,110,97,110,116,115]⟩),(.int .i64 16)] (λV7 S8=>wC Tryz.prog X 111 [V3,(.fn (.func 112) [] [])] (λV9 S10=>wC Tryz.prog X 111 [V3,(.fn (.func 113) [] [])] (λV11 S12=>oK (qAR V3) λV13=>∃ I0:IvP,(∃ m,I0 [(.int .i64 0)] S12 m)∧∀ (f:Env) (s:Hq) (m0:Nat),I0 [f 22] s m0→
 qKY X V9 V11 V3 (.int .i64 V13) (f 22) I0 m0 K R s) S10) S8) R s
def qOg:Nat→List Nat:=λk=>cond (Nat.beq k 8) [22] ([])
theorem qPw {c0:AV} {K R:KvP} {s:Hq} (h:qOt X0 c0 K R s):qAf Tryz.prog X0 SS 90 [c0] K R s:=
 qBo qJs qOg Tryz.func90 (by kernel_rfl:Tryz.f90.body=some (qAU Tryz.f90)) (by kernel_rfl) (by kernel_rfl) (Eq.mpr (by kernel_rfl) h)
def qFN (X:Td)(t28:AV) (I0:IvP) (m0:Nat) (K R:KvP) (s:Hq):Prop:=
 oK (qAH .add t28 (.int .i64 1)) λV26=>∃ m',m' < m0∧I0 [V26] s m'
def qEy (X:Td)(t2 i5 b6 t28 t98 t102:AV) (I0:IvP) (m0:Nat) (K R:KvP) (s:Hq):Prop:=
 oK (qAT t98 (.bool true) t102) λV67=>qAf Tryz.prog X SS 107 [V67,(.int .i64 3),(.str ⟨#[100,111,109,97,105,110,115]⟩),i5] (λV68 S69=>oK (qAC 3 b6) λV70=>oK (rdN S69 2 V70) λV71=>oK (qAC 5 b6) λV72=>oK (rd1 S69 V72) λV73=>wC Tryz.prog X 119 [(.agg V71),V73] (λV74 S75=>oK (qAo .not V74) λV76=>qAf Tryz.prog X SS 107 [V76,(.int .i64 3),(.str ⟨#[100,111,109,97,105,110,115]⟩),i5] (λV77 S78=>oK (qAC 4 t2) λV79=>oK (rd1 S78 V79) λV80=>oK (qJR 6 V80 none (some i5) none) λV81=>wC Tryz.prog X 120 [V81,(.fn (.func 121) [] [b6])] (λV82 S83=>qAf Tryz.prog X SS 107 [V82,(.int .i64 11),(.str ⟨#[100,111,109,97,105,110,115]⟩),i5] (λV84 S85=>qFN X t28 I0 m0 K R S85) R S83) S78) R S75) S69) R s
def qE5 (X:Td)(t2 i5 b6 t28 t75 t80:AV) (I0:IvP) (m0:Nat) (K R:KvP) (s:Hq):Prop:=
 oK (qAT t75 (.bool true) t80) λV50=>qAf Tryz.prog X SS 107 [V50,(.int .i64 11),(.str ⟨#[100,111,109,97,105,110,115]⟩),i5] (λV51 S52=>oK (qAC 5 b6) λV53=>oK (rd1 S52 V53) λV54=>oK (negB false (eqV 0 true V54 (.int .u32 0))) λV55=>qAQ V55
 (oK (qAC 3 b6) λV56=>oK (rdN S52 2 V56) λV57=>oK (qCA [(.int .u32 0),(.int .i64 0)] []) λC58=>oK (negB true (qH3 Tryz.prog 71 (.agg V57) (.agg C58))) λV59=>qAf Tryz.prog X SS 107 [V59,(.int .i64 3),(.str ⟨#[100,111,109,97,105,110,115]⟩),i5] (λV60 S61=>qFN X t28 I0 m0 K R S61) R S52)
 (oK (qAC 3 b6) λV62=>oK (rdN S52 2 V62) λV63=>wC Tryz.prog X 118 [(.agg V63)] (λV64 S65=>oK (qAo .not V64) λV66=>qAQ V66
 (qEy X t2 i5 b6 t28 V66 .undef I0 m0 K R S65)
 (oK (qAC 3 b6) λV86=>oK (qAC 1 V86) λV87=>oK (rd1 S65 V87) λV88=>wC Tryz.prog X 108 [V88,(.int .i64 8),(.int .i64 30)] (λV89 S90=>qEy X t2 i5 b6 t28 V66 V89 I0 m0 K R S90) S65)) S52)) R s
def qFG (X:Td)(t2 i5 b6 t28 t68 t73:AV) (I0:IvP) (m0:Nat) (K R:KvP) (s:Hq):Prop:=
 oK (qAT t68 (.bool true) t73) λV49=>qAQ V49
 (qE5 X t2 i5 b6 t28 V49 .undef I0 m0 K R s)
 (oK (qAC 3 t2) λV91=>oK (rd1 s V91) λV92=>oK (qAC 2 b6) λV93=>oK (rd1 s V93) λV94=>wC Tryz.prog X 117 [V92,(.fn (.func 113) [] []),V94] (λV95 S96=>qE5 X t2 i5 b6 t28 V49 V95 I0 m0 K R S96) s)
def qFH (X:Td)(t2 i5 b6 t28 t62 t66:AV) (I0:IvP) (m0:Nat) (K R:KvP) (s:Hq):Prop:=
 oK (qAT t62 (.bool true) t66) λV48=>qAQ V48
 (qFG X t2 i5 b6 t28 V48 .undef I0 m0 K R s)
 (oK (qAC 3 t2) λV97=>oK (rd1 s V97) λV98=>oK (qAC 1 b6) λV99=>oK (rd1 s V99) λV100=>wC Tryz.prog X 117 [V98,(.fn (.func 112) [] []),V100] (λV101 S102=>qFG X t2 i5 b6 t28 V48 V101 I0 m0 K R S102) s)
def qFA (X:Td)(t2 vnis3 targets4 i5 b6 t28 t50 t53:AV) (I0:IvP) (m0:Nat) (K R:KvP) (s:Hq):Prop:=
 oK (qAT t50 (.bool true) t53) λV43=>qAf Tryz.prog X SS 107 [V43,(.int .i64 2),(.str ⟨#[100,111,109,97,105,110,115]⟩),i5] (λV44 S45=>oK (qAZ 1 vnis3 i5) λV46=>oK (rd1 S45 V46) λV47=>qAQ V47
 (qFH X t2 i5 b6 t28 V47 .undef I0 m0 K R S45)
 (oK (qAZ 1 targets4 i5) λV103=>oK (rd1 S45 V103) λV104=>qFH X t2 i5 b6 t28 V47 V104 I0 m0 K R S45)) R s
def qE3 (X:Td)(t2 vnis3 targets4 i5 b6 t28 t45 t48:AV) (I0:IvP) (m0:Nat) (K R:KvP) (s:Hq):Prop:=
 oK (qAT t45 (.bool true) t48) λV42=>qAQ V42
 (qFA X t2 vnis3 targets4 i5 b6 t28 V42 .undef I0 m0 K R s)
 (oK (qAC 2 b6) λV105=>oK (rd1 s V105) λV106=>oK (negB false (eqV 0 true V106 (.int .u32 0))) λV107=>qFA X t2 vnis3 targets4 i5 b6 t28 V42 V107 I0 m0 K R s)
def qE2 (X:Td)(t2 vnis3 targets4 i5 b6 t28 t40 t43:AV) (I0:IvP) (m0:Nat) (K R:KvP) (s:Hq):Prop:=
 oK (qAT t40 (.bool true) t43) λV41=>qAQ V41
 (qE3 X t2 vnis3 targets4 i5 b6 t28 V41 .undef I0 m0 K R s)
 (oK (qAC 1 b6) λV108=>oK (rd1 s V108) λV109=>oK (qAH .gtr V109 (.int .u32 16777215)) λV110=>qE3 X t2 vnis3 targets4 i5 b6 t28 V41 V110 I0 m0 K R s)
def qKE (X:Td)(t2 vnis3 targets4 t26 t27 t28:AV) (I0:IvP) (m0:Nat) (K R:KvP) (s:Hq):Prop:=
 oK (qAH .lss t28 t27) λV25=>qAQ V25
 (oK (qAZ 6 t26 t28) λV27=>oK (rdN s 6 V27) λV28=>newK 87 [(.int .i64 0),(.int .u32 0),(.int .u32 0),(.int .u32 0),(.int .i64 0),(.int .u32 0)] (λB29 S30=>oK (qBY S30 6 (.ptr B29 0) (.agg V28)) λS31=>oK (qAC 0 (.ptr B29 0)) λV32=>oK (rd1 S31 V32) λV33=>oK (qAC 3 t2) λV34=>oK (rd1 S31 V34) λV35=>oK (qAR V35) λV36=>wC Tryz.prog X 76 [V33,(.int .i64 V36)] (λV38 S39=>oK (qAo .not V38) λV40=>qAQ V40
 (qE2 X t2 vnis3 targets4 t28 (.ptr B29 0) t28 V40 .undef I0 m0 K R S39)
 (oK (qAC 1 (.ptr B29 0)) λV111=>oK (rd1 S39 V111) λV112=>oK (qAH .lss V112 (.int .u32 1)) λV113=>qE2 X t2 vnis3 targets4 t28 (.ptr B29 0) t28 V40 V113 I0 m0 K R S39)) S31) s)
 (K (.tup []) s)
def qVX (X:Td)(c0:AV) (K R:KvP) (s:Hq):Prop:=
 oK (qBI c0) λV0=>oK (qAC 0 V0) λV1=>oK (rdN s 19 V1) λV2=>newK 31 zR1 (λB3 S4=>oK (qBY S4 19 (.ptr B3 0) (.agg V2)) λS5=>oK (qAC 4 (.ptr B3 0)) λV6=>oK (rd1 S5 V6) λV7=>oK (qAR V7) λV8=>oK (qAH .gtr (.int .i64 V8) (.int .i64 32)) λV10=>qAf Tryz.prog X SS 107 [V10,(.int .i64 7),(.str ⟨#[100,111,109,97,105,110,115]⟩),(.int .i64 32)] (λV11 S12=>oK (qAC 4 (.ptr B3 0)) λV13=>oK (rd1 S12 V13) λV14=>wC Tryz.prog X 114 [V14,(.fn (.func 115) [] [])] (λV15 S16=>(∀ b,S12 b≠none→S12 b=none→S16 b=none)→
 oK (qAC 4 (.ptr B3 0)) λV17=>oK (rd1 (cutH [(S12,(add S12 S16))] (add S12 S16)) V17) λV18=>wC Tryz.prog X 114 [V18,(.fn (.func 116) [] [])] (λV19 S20=>oK (qAC 4 (.ptr B3 0)) λV21=>oK (rd1 S20 V21) λV22=>oK (qAR V22) λV23=>∃ I0:IvP,(∃ m,I0 [(.int .i64 0)] S20 m)∧∀ (f:Env) (s:Hq) (m0:Nat),I0 [f 28] s m0→
 qKE X (.ptr B3 0) V15 V19 V22 (.int .i64 V23) (f 28) I0 m0 K R s) (add S12 S16)) (frz S12)) R S5) s
def qOS:Nat→List Nat:=λk=>cond (Nat.beq k 8) [28] ([])
theorem qQd {c0:AV} {K R:KvP} {s:Hq} (h:qVX X0 c0 K R s):qAf Tryz.prog X0 SS 91 [c0] K R s:=
 qBo qJs qOS Tryz.func91 (by kernel_rfl:Tryz.f91.body=some (qAU Tryz.f91)) (by kernel_rfl) (by kernel_rfl) (Eq.mpr (by kernel_rfl) h)
def qJL (X:Td)(ports3 i4 t21 t64 t65 t66:AV) (I4:IvP) (m4:Nat) (I0:IvP) (m0:Nat) (K R:KvP) (s:Hq):Prop:=
 oK (qAH .lss t66 t65) λV52=>qAQ V52
 (oK (qAZ 1 t64 t66) λV53=>oK (rd1 s V53) λV54=>oK (qLh 32 1 ports3 V54) λV55=>oK (rd1 s V55) λV56=>oK (qAH .add V56 (.int .i64 1)) λV57=>oK (qLh 32 1 ports3 V54) λV58=>oK (wr1 s V58 V57) λS59=>oK (qLh 32 1 ports3 V54) λV60=>oK (rd1 S59 V60) λV61=>oK (qAH .gtr V61 (.int .i64 32)) λV62=>qAf Tryz.prog X SS 107 [V62,(.int .i64 7),(.str ⟨#[115,101,103,109,101,110,116,115]⟩),i4] (λV63 S64=>oK (qAH .add t66 (.int .i64 1)) λV65=>∃ m',m' < m4∧I4 [V65] S64 m') R S59)
 (oK (qAH .add t21 (.int .i64 1)) λV66=>∃ m',m' < m0∧I0 [V66] s m')
def qEH (X:Td)(ports3 i4 t5 t21 t55 t59:AV) (I0:IvP) (m0:Nat) (K R:KvP) (s:Hq):Prop:=
 oK (qAT t55 (.bool true) t59) λV45=>qAf Tryz.prog X SS 107 [V45,(.int .i64 10),(.str ⟨#[115,101,103,109,101,110,116,115]⟩),i4] (λV46 S47=>oK (qAC 0 t5) λV48=>oK (rd1 S47 V48) λV49=>oK (qAR V49) λV50=>∃ I4:IvP,(∃ m,I4 [(.int .i64 0)] S47 m)∧∀ (f:Env) (s:Hq) (m4:Nat),I4 [f 66] s m4→
 qJL X ports3 i4 t21 V49 (.int .i64 V50) (f 66) I4 m4 I0 m0 K R s) R s
def qEF (X:Td)(ports3 i4 t5 t21 t42 t46:AV) (I0:IvP) (m0:Nat) (K R:KvP) (s:Hq):Prop:=
 oK (qAT t42 (.bool true) t46) λV37=>qAf Tryz.prog X SS 107 [V37,(.int .i64 2),(.str ⟨#[115,101,103,109,101,110,116,115]⟩),i4] (λV38 S39=>oK (qAC 0 t5) λV40=>oK (rd1 S39 V40) λV41=>wC Tryz.prog X 126 [V41] (λV42 S43=>oK (qAo .not V42) λV44=>qAQ V44
 (qEH X ports3 i4 t5 t21 V44 .undef I0 m0 K R S43)
 (oK (qAC 1 t5) λV67=>oK (rd1 S43 V67) λV68=>wC Tryz.prog X 126 [V68] (λV69 S70=>oK (qAo .not V69) λV71=>qEH X ports3 i4 t5 t21 V44 V71 I0 m0 K R S70) S43)) S39) R s
def qEI (X:Td)(t2 ports3 i4 t5 t21 t30 t34:AV) (I0:IvP) (m0:Nat) (K R:KvP) (s:Hq):Prop:=
 oK (qAT t30 (.bool true) t34) λV30=>qAf Tryz.prog X SS 107 [V30,(.int .i64 3),(.str ⟨#[115,101,103,109,101,110,116,115]⟩),i4] (λV31 S32=>oK (qAC 0 t5) λV33=>oK (rd1 S32 V33) λV34=>wC Tryz.prog X 123 [V34,(.fn (.func 124) [] [t2])] (λV35 S36=>qAQ V35
 (qEF X ports3 i4 t5 t21 V35 .undef I0 m0 K R S36)
 (oK (qAC 1 t5) λV72=>oK (rd1 S36 V72) λV73=>wC Tryz.prog X 123 [V73,(.fn (.func 125) [] [t2])] (λV74 S75=>qEF X ports3 i4 t5 t21 V35 V74 I0 m0 K R S75) S36)) S32) R s
def qJM (X:Td)(t2 ports3 t19 t20 t21:AV) (I0:IvP) (m0:Nat) (K R:KvP) (s:Hq):Prop:=
 oK (qAH .lss t21 t20) λV19=>qAQ V19
 (oK (qAZ 2 t19 t21) λV20=>oK (rdN s 2 V20) λV21=>newK 94 [.nilslc,.nilslc] (λB22 S23=>oK (qBY S23 2 (.ptr B22 0) (.agg V21)) λS24=>oK (qAC 0 (.ptr B22 0)) λV25=>oK (rd1 S24 V25) λV26=>oK (qAR V26) λV27=>oK (negB false (eqV 0 true (.int .i64 V27) (.int .i64 0))) λV29=>qAQ V29
 (qEI X t2 ports3 t21 (.ptr B22 0) t21 V29 .undef I0 m0 K R S24)
 (oK (qAC 1 (.ptr B22 0)) λV76=>oK (rd1 S24 V76) λV77=>oK (qAR V77) λV78=>oK (negB false (eqV 0 true (.int .i64 V78) (.int .i64 0))) λV80=>qEI X t2 ports3 t21 (.ptr B22 0) t21 V29 V80 I0 m0 K R S24)) s)
 (K (.tup []) s)
def qT2 (X:Td)(c0:AV) (K R:KvP) (s:Hq):Prop:=
 oK (qBI c0) λV0=>oK (qAC 0 V0) λV1=>oK (rdN s 19 V1) λV2=>newK 31 zR1 (λB3 S4=>oK (qBY S4 19 (.ptr B3 0) (.agg V2)) λS5=>oK (qAC 5 (.ptr B3 0)) λV6=>oK (rd1 S5 V6) λV7=>oK (qAR V7) λV8=>oK (qAH .gtr (.int .i64 V8) (.int .i64 64)) λV10=>qAf Tryz.prog X SS 107 [V10,(.int .i64 7),(.str ⟨#[115,101,103,109,101,110,116,115]⟩),(.int .i64 64)] (λV11 S12=>newK 198 [(.int .i64 0),(.int .i64 0),(.int .i64 0),(.int .i64 0),(.int .i64 0),(.int .i64 0),(.int .i64 0),(.int .i64 0),(.int .i64 0),(.int .i64 0),(.int .i64 0),(.int .i64 0),(.int .i64 0),(.int .i64 0),(.int .i64 0),(.int .i64 0),(.int .i64 0),(.int .i64 0),(.int .i64 0),(.int .i64 0),(.int .i64 0),(.int .i64 0),(.int .i64 0),(.int .i64 0),(.int .i64 0),(.int .i64 0),(.int .i64 0),(.int .i64 0),(.int .i64 0),(.int .i64 0),(.int .i64 0),(.int .i64 0)] (λB13 S14=>oK (qAC 5 (.ptr B3 0)) λV15=>oK (rd1 S14 V15) λV16=>oK (qAR V16) λV17=>∃ I0:IvP,(∃ m,I0 [(.int .i64 0)] S14 m)∧∀ (f:Env) (s:Hq) (m0:Nat),I0 [f 21] s m0→
 qJM X (.ptr B3 0) (.ptr B13 0) V16 (.int .i64 V17) (f 21) I0 m0 K R s) S12) R S5) s
def qOC:Nat→List Nat:=λk=>cond (Nat.beq k 8) [21] (cond (Nat.beq k 22) [66] ([]))
theorem qOP {c0:AV} {K R:KvP} {s:Hq} (h:qT2 X0 c0 K R s):qAf Tryz.prog X0 SS 92 [c0] K R s:=
 qBo qJs qOC Tryz.func92 (by kernel_rfl:Tryz.f92.body=some (qAU Tryz.f92)) (by kernel_rfl) (by kernel_rfl) (Eq.mpr (by kernel_rfl) h)
def qHc (X:Td)(i5 t28 t115 t119 t123:AV) (I0:IvP) (m0:Nat) (K R:KvP) (s:Hq):Prop:=
 oK (qAT t119 t123 (.bool false)) λV78=>oK (qAT t115 (.bool true) V78) λV79=>qAf Tryz.prog X SS 107 [V79,(.int .i64 11),(.str ⟨#[104,111,115,116,115]⟩),i5] (λV80 S81=>oK (qAH .add t28 (.int .i64 1)) λV82=>∃ m',m' < m0∧I0 [V82] S81 m') R s
def qHC (X:Td)(macs3 ips4 i5 h6 t28 t97 t107:AV) (I0:IvP) (m0:Nat) (K R:KvP) (s:Hq):Prop:=
 oK (qAT t97 (.bool true) t107) λV66=>qAf Tryz.prog X SS 107 [V66,(.int .i64 3),(.str ⟨#[104,111,115,116,115]⟩),i5] (λV67 S68=>oK (qAZ 1 macs3 i5) λV69=>oK (rd1 S68 V69) λV70=>qAQ V70
 (oK (qAT V70 (.bool true) .undef) λV71=>qAf Tryz.prog X SS 107 [V71,(.int .i64 11),(.str ⟨#[104,111,115,116,115]⟩),i5] (λV72 S73=>oK (qAH .add t28 (.int .i64 1)) λV74=>∃ m',m' < m0∧I0 [V74] S73 m') R S68)
 (oK (qAC 1 h6) λV75=>oK (rd1 S68 V75) λV76=>oK (negB true (eqV 0 true V76 (.int .u32 0))) λV77=>qAQ V77
 (oK (qAZ 1 ips4 i5) λV83=>oK (rd1 S68 V83) λV84=>qHc X i5 t28 V70 V77 V84 I0 m0 K R S68)
 (qHc X i5 t28 V70 V77 .undef I0 m0 K R S68))) R s
def qHP (X:Td)(t2 macs3 ips4 i5 h6 t28 t94 t95:AV) (I0:IvP) (m0:Nat) (K R:KvP) (s:Hq):Prop:=
 oK (qAT t94 (.bool true) t95) λV65=>qAQ V65
 (qHC X macs3 ips4 i5 h6 t28 V65 .undef I0 m0 K R s)
 (oK (qAC 4 t2) λV85=>oK (rd1 s V85) λV86=>oK (qAC 2 h6) λV87=>oK (rd1 s V87) λV88=>oK (qAZ 6 V86 V88) λV89=>oK (rdN s 6 V89) λV90=>oK (qAC 1 h6) λV91=>oK (rd1 s V91) λV92=>wC Tryz.prog X 132 [(.agg V90),V92] (λV93 S94=>oK (qAo .not V93) λV95=>qHC X macs3 ips4 i5 h6 t28 V65 V95 I0 m0 K R S94) s)
def qHR (X:Td)(t2 macs3 ips4 i5 h6 t28 t69 t80:AV) (I0:IvP) (m0:Nat) (K R:KvP) (s:Hq):Prop:=
 oK (qAT t69 t80 (.bool false)) λV53=>qAf Tryz.prog X SS 107 [V53,(.int .i64 8),(.str ⟨#[104,111,115,116,115]⟩),i5] (λV54 S55=>oK (qAC 0 h6) λV56=>oK (rd1 S55 V56) λV57=>wC Tryz.prog X 131 [V57] (λV58 S59=>oK (qAp V58 0) λV60=>oK (qAp V58 1) λV61=>oK (qAC 0 h6) λV62=>oK (rd1 S59 V62) λV63=>oK (negB false (eqV 0 true V63 (.int .u64 1577058561))) λV64=>qAQ V64
 (qHP X t2 macs3 ips4 i5 h6 t28 V64 .undef I0 m0 K R S59)
 (qHP X t2 macs3 ips4 i5 h6 t28 V64 V61 I0 m0 K R S59)) S55) R s
def qHo (X:Td)(t2 macs3 ips4 i5 h6 t28 t55 t62:AV) (I0:IvP) (m0:Nat) (K R:KvP) (s:Hq):Prop:=
 oK (qAT t55 (.bool true) t62) λV47=>qAf Tryz.prog X SS 107 [V47,(.int .i64 2),(.str ⟨#[104,111,115,116,115]⟩),i5] (λV48 S49=>oK (qAC 3 h6) λV50=>oK (rd1 S49 V50) λV51=>oK (negB true (eqV 0 true V51 (.int .i64 (-1)))) λV52=>qAQ V52
 (oK (qAC 5 t2) λV96=>oK (rd1 S49 V96) λV97=>oK (qAC 3 h6) λV98=>oK (rd1 S49 V98) λV99=>oK (qAZ 2 V97 V99) λV100=>oK (qAC 1 V100) λV101=>oK (rd1 S49 V101) λV102=>oK (qAC 2 h6) λV103=>oK (rd1 S49 V103) λV104=>wC Tryz.prog X 32 [V102,V104] (λV105 S106=>oK (qAo .not V105) λV107=>qHR X t2 macs3 ips4 i5 h6 t28 V52 V107 I0 m0 K R S106) S49)
 (qHR X t2 macs3 ips4 i5 h6 t28 V52 .undef I0 m0 K R S49)) R s
def qHa (X:Td)(t2 macs3 ips4 i5 h6 t28 t41 t44:AV) (I0:IvP) (m0:Nat) (K R:KvP) (s:Hq):Prop:=
 oK (qAT t41 (.bool true) t44) λV35=>qAf Tryz.prog X SS 107 [V35,(.int .i64 2),(.str ⟨#[104,111,115,116,115]⟩),i5] (λV36 S37=>oK (qAC 2 h6) λV38=>oK (rd1 S37 V38) λV39=>oK (qAC 4 t2) λV40=>oK (rd1 S37 V40) λV41=>oK (qAR V41) λV42=>wC Tryz.prog X 76 [V39,(.int .i64 V42)] (λV44 S45=>oK (qAo .not V44) λV46=>qAQ V46
 (qHo X t2 macs3 ips4 i5 h6 t28 V46 .undef I0 m0 K R S45)
 (oK (qAC 3 h6) λV108=>oK (rd1 S45 V108) λV109=>oK (qAC 5 t2) λV110=>oK (rd1 S45 V110) λV111=>oK (qAR V111) λV112=>oK (qAH .sub (.int .i64 V112) (.int .i64 1)) λV114=>wC Tryz.prog X 108 [V109,(.int .i64 (-1)),V114] (λV115 S116=>qHo X t2 macs3 ips4 i5 h6 t28 V46 V115 I0 m0 K R S116) S45)) S37) R s
def qHU (X:Td)(t2 macs3 ips4 i5 h6 t28 t36 t39:AV) (I0:IvP) (m0:Nat) (K R:KvP) (s:Hq):Prop:=
 oK (qAT t36 (.bool true) t39) λV34=>qAQ V34
 (qHa X t2 macs3 ips4 i5 h6 t28 V34 .undef I0 m0 K R s)
 (oK (qAC 0 h6) λV117=>oK (rd1 s V117) λV118=>wC Tryz.prog X 130 [V118] (λV119 S120=>qHa X t2 macs3 ips4 i5 h6 t28 V34 V119 I0 m0 K R S120) s)
def qNO (X:Td)(t2 macs3 ips4 t26 t27 t28:AV) (I0:IvP) (m0:Nat) (K R:KvP) (s:Hq):Prop:=
 oK (qAH .lss t28 t27) λV25=>qAQ V25
 (oK (qAZ 4 t26 t28) λV26=>oK (rdN s 4 V26) λV27=>newK 140 [(.int .u64 0),(.int .u32 0),(.int .i64 0),(.int .i64 0)] (λB28 S29=>oK (qBY S29 4 (.ptr B28 0) (.agg V27)) λS30=>oK (qAC 0 (.ptr B28 0)) λV31=>oK (rd1 S30 V31) λV32=>oK (negB false (eqV 0 true V32 (.int .u64 0))) λV33=>qAQ V33
 (qHU X t2 macs3 ips4 t28 (.ptr B28 0) t28 V33 .undef I0 m0 K R S30)
 (oK (qAC 0 (.ptr B28 0)) λV121=>oK (rd1 S30 V121) λV122=>oK (qAH .gtr V122 (.int .u64 281474976710655)) λV123=>qHU X t2 macs3 ips4 t28 (.ptr B28 0) t28 V33 V123 I0 m0 K R S30)) s)
 (K (.tup []) s)
def qZS (X:Td)(c0:AV) (K R:KvP) (s:Hq):Prop:=
 oK (qBI c0) λV0=>oK (qAC 0 V0) λV1=>oK (rdN s 19 V1) λV2=>newK 31 zR1 (λB3 S4=>oK (qBY S4 19 (.ptr B3 0) (.agg V2)) λS5=>oK (qAC 6 (.ptr B3 0)) λV6=>oK (rd1 S5 V6) λV7=>oK (qAR V7) λV8=>oK (qAH .gtr (.int .i64 V8) (.int .i64 128)) λV10=>qAf Tryz.prog X SS 107 [V10,(.int .i64 7),(.str ⟨#[104,111,115,116,115]⟩),(.int .i64 128)] (λV11 S12=>oK (qAC 6 (.ptr B3 0)) λV13=>oK (rd1 S12 V13) λV14=>wC Tryz.prog X 127 [V14,(.fn (.func 128) [] [])] (λV15 S16=>oK (qAC 6 (.ptr B3 0)) λV17=>oK (rd1 S16 V17) λV18=>wC Tryz.prog X 127 [V18,(.fn (.func 129) [] [])] (λV19 S20=>oK (qAC 6 (.ptr B3 0)) λV21=>oK (rd1 S20 V21) λV22=>oK (qAR V22) λV23=>∃ I0:IvP,(∃ m,I0 [(.int .i64 0)] S20 m)∧∀ (f:Env) (s:Hq) (m0:Nat),I0 [f 28] s m0→
 qNO X (.ptr B3 0) V15 V19 V22 (.int .i64 V23) (f 28) I0 m0 K R s) S16) S12) R S5) s
def qSr:Nat→List Nat:=λk=>cond (Nat.beq k 10) [28] ([])
theorem qTu {c0:AV} {K R:KvP} {s:Hq} (h:qZS X0 c0 K R s):qAf Tryz.prog X0 SS 93 [c0] K R s:=
 qBo qJs qSr Tryz.func93 (by kernel_rfl:Tryz.f93.body=some (qAU Tryz.f93)) (by kernel_rfl) (by kernel_rfl) (Eq.mpr (by kernel_rfl) h)
def qHL (X:Td)(again4 i5 t24 t52 t56:AV) (I0:IvP) (m0:Nat) (K R:KvP) (s:Hq):Prop:=
 oK (qAT t52 (.bool true) t56) λV44=>qAf Tryz.prog X SS 107 [V44,(.int .i64 3),(.str ⟨#[108,101,97,107,115]⟩),i5] (λV45 S46=>oK (qAZ 1 again4 i5) λV47=>oK (rd1 S46 V47) λV48=>qAf Tryz.prog X SS 107 [V48,(.int .i64 11),(.str ⟨#[108,101,97,107,115]⟩),i5] (λV49 S50=>oK (qAH .add t24 (.int .i64 1)) λV51=>∃ m',m' < m0∧I0 [V51] S50 m') R S46) R s
def qHQ (X:Td)(again4 i5 l6 t24 t36 t43:AV) (I0:IvP) (m0:Nat) (K R:KvP) (s:Hq):Prop:=
 oK (qAT t36 (.bool true) t43) λV36=>qAf Tryz.prog X SS 107 [V36,(.int .i64 2),(.str ⟨#[108,101,97,107,115]⟩),i5] (λV37 S38=>oK (qAC 0 l6) λV39=>oK (rd1 S38 V39) λV40=>oK (qAC 1 l6) λV41=>oK (rd1 S38 V41) λV42=>oK (negB false (eqV 0 false V40 V42)) λV43=>qAQ V43
 (qHL X again4 i5 t24 V43 .undef I0 m0 K R S38)
 (oK (qAC 2 l6) λV52=>oK (rdN S38 2 V52) λV53=>wC Tryz.prog X 118 [(.agg V53)] (λV54 S55=>oK (qAo .not V54) λV56=>qHL X again4 i5 t24 V43 V56 I0 m0 K R S55) S38)) R s
def qNR (X:Td)(t2 again4 t22 t23 t24:AV) (I0:IvP) (m0:Nat) (K R:KvP) (s:Hq):Prop:=
 oK (qAH .lss t24 t23) λV21=>qAQ V21
 (oK (qAZ 4 t22 t24) λV22=>oK (rdN s 4 V22) λV23=>newK 144 [(.int .i64 0),(.int .i64 0),(.int .u32 0),(.int .i64 0)] (λB24 S25=>oK (qBY S25 4 (.ptr B24 0) (.agg V23)) λS26=>oK (qAC 0 (.ptr B24 0)) λV27=>oK (rd1 S26 V27) λV28=>oK (qAC 3 t2) λV29=>oK (rd1 S26 V29) λV30=>oK (qAR V30) λV31=>wC Tryz.prog X 76 [V28,(.int .i64 V31)] (λV33 S34=>oK (qAo .not V33) λV35=>qAQ V35
 (qHQ X again4 t24 (.ptr B24 0) t24 V35 .undef I0 m0 K R S34)
 (oK (qAC 1 (.ptr B24 0)) λV57=>oK (rd1 S34 V57) λV58=>oK (qAC 3 t2) λV59=>oK (rd1 S34 V59) λV60=>oK (qAR V60) λV61=>wC Tryz.prog X 76 [V58,(.int .i64 V61)] (λV63 S64=>oK (qAo .not V63) λV65=>qHQ X again4 t24 (.ptr B24 0) t24 V35 V65 I0 m0 K R S64) S34)) S26) s)
 (K (.tup []) s)
def qZ3 (X:Td)(c0:AV) (K R:KvP) (s:Hq):Prop:=
 oK (qBI c0) λV0=>oK (qAC 0 V0) λV1=>oK (rdN s 19 V1) λV2=>newK 31 zR1 (λB3 S4=>oK (qBY S4 19 (.ptr B3 0) (.agg V2)) λS5=>oK (qAC 7 (.ptr B3 0)) λV6=>oK (rd1 S5 V6) λV7=>oK (qAR V7) λV8=>oK (qAH .gtr (.int .i64 V8) (.int .i64 256)) λV10=>qAf Tryz.prog X SS 107 [V10,(.int .i64 7),(.str ⟨#[108,101,97,107,115]⟩),(.int .i64 256)] (λV11 S12=>oK (qAC 7 (.ptr B3 0)) λV13=>oK (rd1 S12 V13) λV14=>wC Tryz.prog X 133 [V14,(.fn (.func 134) [] [])] (λV15 S16=>oK (qAC 7 (.ptr B3 0)) λV17=>oK (rd1 S16 V17) λV18=>oK (qAR V18) λV19=>∃ I0:IvP,(∃ m,I0 [(.int .i64 0)] S16 m)∧∀ (f:Env) (s:Hq) (m0:Nat),I0 [f 24] s m0→
 qNR X (.ptr B3 0) V15 V18 (.int .i64 V19) (f 24) I0 m0 K R s) S12) R S5) s
def qRB:Nat→List Nat:=λk=>cond (Nat.beq k 10) [24] ([])
theorem qTV {c0:AV} {K R:KvP} {s:Hq} (h:qZ3 X0 c0 K R s):qAf Tryz.prog X0 SS 94 [c0] K R s:=
 qBo qJs qRB Tryz.func94 (by kernel_rfl:Tryz.f94.body=some (qAU Tryz.f94)) (by kernel_rfl) (by kernel_rfl) (Eq.mpr (by kernel_rfl) h)
def qB6 (X:Td)(t0 t1 t2 v:AV) (K:KvP) (s:Hq):Prop:=
 oK (negB false (eqV 4 true v .nilIface)) λV0=>qAQ V0
 (K (.tup []) s)
 (oK (zAAt 147 (some (.agg [(.int .i64 0),(.str ⟨#[]⟩),(.int .i64 0)])) true v) λV1=>oK (qAp V1 1) λV2=>oK (qAp V1 0) λV3=>qAQ V2
 (newK 147 [(.int .i64 0),(.str ⟨#[]⟩),(.int .i64 0)] (λB4 S5=>oK (qBY S5 3 (.ptr B4 0) V3) λS6=>oK (qAC 0 (.ptr B4 0)) λV7=>oK (rd1 S6 V7) λV8=>oK (qAC 1 (.ptr B4 0)) λV9=>oK (rd1 S6 V9) λV10=>oK (qAC 2 (.ptr B4 0)) λV11=>oK (rd1 S6 V11) λV12=>((cutH [((hdel S6 (qJm V9)),S6),((hdel S6 (qJm V11)),S6)] S6) (qJm t0)≠none)∧oK (wr1 S6 t0 V8) λS13=>((cutH [((hdel S6 (qJm V11)),S6)] S13) (qJm t1)≠none)∧oK (wr1 S13 t1 V10) λS14=>oK (wr1 S14 t2 V12) λS15=>K (.tup []) S15) s)
 (oK (wr1 s t0 (.int .i64 3)) λS16=>oK (wr1 S16 t1 (.str ⟨#[102,97,98,114,105,99]⟩)) λS17=>oK (wr1 S17 t2 (.int .i64 0)) λS18=>K (.tup []) S18))
def qCm:Nat→List Nat:=λ_=>[]
theorem qEw (X:Td)(t0 t1 t2 v:AV) (K:KvP) (s:Hq):wpC Tryz.prog X qCm Tryz.f61.ntmps none (qSB (qAU Tryz.f61)) (qNo (qAU Tryz.f61) (qJf [t0,t1,t2]) v) (λe env s=>retK e (resK Tryz.prog Tryz.f61.results.toList env (λvs=>K (oneV vs) s) s)) s=qB6 X t0 t1 t2 v K s:=by kernel_rfl
theorem qJE {t0 t1 t2 v:AV} {K:KvP} {s:Hq} (h:qB6 X0 t0 t1 t2 v K s):qXb Tryz.prog X0 61 [t0,t1,t2] v (λs=>K (.tup []) s) s:=
 qWV qJs qCm Tryz.func61 (by kernel_rfl:Tryz.f61.body=some (qAU Tryz.f61)) (by kernel_rfl) (by kernel_rfl) (by kernel_rfl) ((qEw X0 t0 t1 t2 v K s).mpr h)
def qFx (X:Td)(err2 part3 index4 c5 t8 t12 t13 t14:AV) (I0:IvP) (m0:Nat) (K:KvP) (s:Hq):Prop:=
 oK (qAH .lss t14 t13) λV16=>qAQ V16
 (oK (qAZ 1 t12 t14) λV17=>oK (rd1 s V17) λV18=>qWB Tryz.prog X SS V18 [c5] (λV19 S20=>oK (qAH .add t14 (.int .i64 1)) λV21=>∃ m',m' < m0∧I0 [V21] S20 m') (λV22 S23=>recK Tryz.prog X t8 V22 (λS24=>oK (rd1 S24 err2) λerr2_25=>oK (rd1 S24 part3) λpart3_26=>oK (rd1 S24 index4) λindex4_27=>K (.tup [err2_25,part3_26,index4_27]) S24) S23) s)
 (oK (wr1 s err2 (.int .i64 0)) λS28=>oK (wr1 S28 part3 (.str ⟨#[]⟩)) λS29=>oK (wr1 S29 index4 (.int .i64 0)) λS30=>runK Tryz.prog X t8 (λS31=>oK (rd1 S31 err2) λerr2_32=>oK (rd1 S31 part3) λpart3_33=>oK (rd1 S31 index4) λindex4_34=>K (.tup [err2_32,part3_33,index4_34]) S31) S30)
def qNq (X:Td)(t0:AV) (K:KvP) (s:Hq):Prop:=
 boxK 31 t0 (λB0 S1=>newK 95 [(.int .i64 0)] (λB2 S3=>newK 9 [(.str ⟨#[]⟩)] (λB4 S5=>newK 3 [(.int .i64 0)] (λB6 S7=>qW9 Tryz.prog (.fn (.func 61) [] [(.ptr B2 0),(.ptr B4 0),(.ptr B6 0)])∧oK (rdN S7 19 B0) λV8=>oK (qCA zR1 [(0,19,(.agg V8))]) λC9=>boxK 150 (.agg C9) (λB10 S11=>wC Tryz.prog X 62 [] (λV12 S13=>oK (qAR V12) λV14=>∃ I0:IvP,(∃ m,I0 [(.int .i64 0)] S13 m)∧∀ (f:Env) (s:Hq) (m0:Nat),I0 [f 14] s m0→
 qFx X (.ptr B2 0) (.ptr B4 0) (.ptr B6 0) B10 (.fn (.func 61) [] [(.ptr B2 0),(.ptr B4 0),(.ptr B6 0)]) V12 (.int .i64 V14) (f 14) I0 m0 K s) S11) S7) S5) S3) S1) s
def qJq:Nat→List Nat:=λk=>cond (Nat.beq k 8) [14] ([])
theorem qKc {t0:AV} {K R:KvP} {s:Hq} (h:qNq X0 t0 K s):qAf Tryz.prog X0 SS 31 [t0] K R s:=
 qPn qJs qJq Tryz.func31 (by kernel_rfl:Tryz.f31.body=some (qAU Tryz.f31)) (by kernel_rfl) (Eq.mpr (by kernel_rfl) h)
end Go.AM
namespace Go.AM
open Go Go.Proofs
set_option maxRecDepth 100000
def qA1 (X:Td)(b3:AV) (K:KvP) (s:Hq):Prop:=
 wC Tryz.prog X 82 [b3] (λV23 S24=>oK (qAH .rem V23 (.int .u32 16384)) λV25=>oK (qDl .i64 V25) λV26=>oK (qAH .add (.int .i64 49152) V26) λV27=>K V27 S24) s
def qDN (X:Td)(t0:AV) (K:KvP) (s:Hq):Prop:=
 boxK 52 t0 (λB0 S1=>oK (qAC 0 B0) λV2=>oK (rd1 S1 V2) λV3=>∃ h_4:Hq,(∀ b,h_4 b≠none→S1 b≠none)∧wC Tryz.prog X 81 [.nilslc,V3,(.int .i64 6)] (λV5 S6=>(∀ b,S1 b≠none→(minus S1 h_4) b=none→S6 b=none)→
 oK (qAC 1 B0) λV7=>oK (rd1 (cutH [(h_4,qDf)] (add S6 (rest S1 (minus S1 h_4)))) V7) λV8=>∃ h_9:Hq,(∀ b,h_9 b≠none→(add S6 (rest S1 (minus S1 h_4))) b≠none)∧wC Tryz.prog X 81 [V5,V8,(.int .i64 6)] (λV10 S11=>(∀ b,(add S6 (rest S1 (minus S1 h_4))) b≠none→(minus (add S6 (rest S1 (minus S1 h_4))) h_9) b=none→S11 b=none)→
 oK (qAC 2 B0) λV12=>oK (rd1 (cutH [(h_4,qDf),(h_9,qDf)] (add S11 (rest (add S6 (rest S1 (minus S1 h_4))) (minus (add S6 (rest S1 (minus S1 h_4))) h_9)))) V12) λV13=>oK (qDl .u8 V13) λV14=>oK (qCA (repl 1 [(.int .u8 0)]) [(0,1,V14)]) λC15=>qAg C15=true∧newK 5 C15 (λB16 S17=>(∀ b,(add S11 (rest (add S6 (rest S1 (minus S1 h_4))) (minus (add S6 (rest S1 (minus S1 h_4))) h_9))) b≠none→(cutH [(h_4,qDf),(h_9,qDf)] (add S11 (rest (add S6 (rest S1 (minus S1 h_4))) (minus (add S6 (rest S1 (minus S1 h_4))) h_9)))) b=none→S17 b=none)→
 appK 5 1 V10 (.slc B16 0 1 (some 1) 1) (λV18 S19=>oK (qAC 2 B0) λV20=>oK (rd1 S19 V20) λV21=>oK (negB false (eqV 0 true V21 (.int .i64 2))) λV22=>qAQ V22
 (oK (qAC 8 B0) λV28=>oK (qAC 0 V28) λV29=>oK (rd1 S19 V29) λV30=>oK (qDl .u64 V30) λV31=>∃ h_32:Hq,(∀ b,h_32 b≠none→S19 b≠none)∧wC Tryz.prog X 81 [.nilslc,V31,(.int .i64 4)] (λV33 S34=>(∀ b,S19 b≠none→(minus S19 h_32) b=none→S34 b=none)→
 oK (qAC 8 B0) λV35=>oK (qAC 1 V35) λV36=>oK (rd1 (cutH [(h_32,qDf)] (add S34 (rest S19 (minus S19 h_32)))) V36) λV37=>oK (qDl .u64 V37) λV38=>∃ h_39:Hq,(∀ b,h_39 b≠none→(add S34 (rest S19 (minus S19 h_32))) b≠none)∧wC Tryz.prog X 81 [V33,V38,(.int .i64 4)] (λV40 S41=>(∀ b,(add S34 (rest S19 (minus S19 h_32))) b≠none→(minus (add S34 (rest S19 (minus S19 h_32))) h_39) b=none→S41 b=none)→
 oK (qAC 8 B0) λV42=>oK (qAC 3 V42) λV43=>oK (rd1 (cutH [(h_32,qDf),(h_39,qDf)] (add S41 (rest (add S34 (rest S19 (minus S19 h_32))) (minus (add S34 (rest S19 (minus S19 h_32))) h_39)))) V43) λV44=>oK (qDl .u8 V44) λV45=>oK (qCA (repl 1 [(.int .u8 0)]) [(0,1,V45)]) λC46=>qAg C46=true∧newK 5 C46 (λB47 S48=>(∀ b,(add S41 (rest (add S34 (rest S19 (minus S19 h_32))) (minus (add S34 (rest S19 (minus S19 h_32))) h_39))) b≠none→(cutH [(h_32,qDf),(h_39,qDf)] (add S41 (rest (add S34 (rest S19 (minus S19 h_32))) (minus (add S34 (rest S19 (minus S19 h_32))) h_39)))) b=none→S48 b=none)→
 appK 5 1 V40 (.slc B47 0 1 (some 1) 1) (λV49 S50=>oK (qAC 8 B0) λV51=>oK (qAC 4 V51) λV52=>oK (rd1 S50 V52) λV53=>oK (qDl .u64 V53) λV54=>∃ h_55:Hq,(∀ b,h_55 b≠none→S50 b≠none)∧wC Tryz.prog X 81 [V49,V54,(.int .i64 2)] (λV56 S57=>(∀ b,S50 b≠none→(minus S50 h_55) b=none→S57 b=none)→
 oK (qAC 8 B0) λV58=>oK (qAC 5 V58) λV59=>oK (rd1 (cutH [(h_55,qDf)] (add S57 (rest S50 (minus S50 h_55)))) V59) λV60=>oK (qDl .u64 V60) λV61=>wC Tryz.prog X 81 [V56,V61,(.int .i64 2)] (λV62 S63=>qA1 X V62 K S63) (add S57 (rest S50 (minus S50 h_55)))) (minus S50 h_55)) (add (add S41 (rest (add S34 (rest S19 (minus S19 h_32))) (minus (add S34 (rest S19 (minus S19 h_32))) h_39))) S48)) (frz (cutH [(h_32,qDf),(h_39,qDf)] (add S41 (rest (add S34 (rest S19 (minus S19 h_32))) (minus (add S34 (rest S19 (minus S19 h_32))) h_39)))))) (minus (add S34 (rest S19 (minus S19 h_32))) h_39)) (minus S19 h_32))
 (qA1 X V18 K S19)) (add (add S11 (rest (add S6 (rest S1 (minus S1 h_4))) (minus (add S6 (rest S1 (minus S1 h_4))) h_9))) S17)) (frz (cutH [(h_4,qDf),(h_9,qDf)] (add S11 (rest (add S6 (rest S1 (minus S1 h_4))) (minus (add S6 (rest S1 (minus S1 h_4))) h_9)))))) (minus (add S6 (rest S1 (minus S1 h_4))) h_9)) (minus S1 h_4)) s
def qFI:Nat→List Nat:=λk=>cond (Nat.beq k 1000004) [2,5] (cond (Nat.beq k 1000018) [4,9] (cond (Nat.beq k 1000034) [5] ([])))
theorem qFi {X:Td} (hX:FrX X) (hn:X 47=none) {t0:AV} {K:KvP} {s:Hq} (h:qDN X t0 K s):wC Tryz.prog X 47 [t0] K s:=
 qAL hX qFI hn Tryz.func47 (by kernel_rfl:Tryz.f47.body=some (qAU Tryz.f47)) (by kernel_rfl) (Eq.mpr (by kernel_rfl) h)
theorem qFc {t0:AV} {K:KvP} {s:Hq} (h:qDN XX t0 K s):wC Tryz.prog XX 47 [t0] K s:=qFi qBm rfl h
end Go.AM
