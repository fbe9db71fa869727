/- Part V of a calculus over a small memory that is proved to answer as the program does, and of its use for the functions that the law reaches: see the last part. -/
import Derived.Test.YtgehkpnggfnapaaGreatDoorU2
import Derived.Test.YtgehkpnggfnapaaGreatDoorProg
import Derived.KernelRfl
set_option linter.unusedVariables false
namespace Go.AM
open Go Go.Proofs
theorem wOK {P:Program} {X:Td} (hX:FrX X) (A:Nat→List Nat) {n:FuncId} (hn:X n=none) {f:Func} (h1:P.funcs[n]?=some f) (hb:f.body=some (qBl f)) {args:List AV} (hl:Nat.ble args.length f.ntmps=true) {K:AV→Hq→Prop} {s:Hq} {Q:Prop} (he:wpC P X A f.ntmps none (qBl f) (qJx args) (λe env s=>retK e (resK P f.results.toList env (λvs=>K (oneV vs) s) s)) s=Q) (h:Q):wC P X n args K s:=
  qT7 hX A hn h1 hb hl (Eq.mpr he h)
def nA0:Nat→List Nat:=λ_=>[]
abbrev zR0:List AV:=[(.int .i64 0),(.int .u64 0),(.int .u8 0),(.int .u8 0),(.int .u8 0),(.int .u8 0),(.int .u8 0),(.int .u8 0),(.int .u8 0),(.int .u8 0),(.int .u8 0),(.int .u8 0),(.int .u32 0),(.int .u64 0),(.int .u32 0),(.bool false),(.int .u32 0),(.int .i64 0),(.int .u32 0),(.int .u32 0),(.int .u32 0),(.int .i64 0),.nilslc,(.int .u32 0),(.bool false),(.int .u32 0),(.bool false),(.int .u32 0),(.bool false),(.int .u32 0),.nilslc,.nilslc,(.int .i64 0),(.int .u32 0),(.int .u32 0),(.int .u32 0),(.int .u32 0),(.bool false)]
abbrev zR1:List AV:=[(.int .i64 0),(.int .i64 0),.nilslc,.nilslc,.nilslc,.nilslc,.nilslc,.nilslc,(.int .i64 0),(.int .i64 0),(.int .i64 0),(.bool false),(.bool false),(.int .i64 0),(.int .i64 0),(.int .i64 0),(.int .i64 0),(.int .i64 0),(.int .i64 0)]
abbrev IvP:=List AV→Hq→Nat→Prop
abbrev KvP:=AV→Hq→Prop
set_option maxRecDepth 100000
abbrev kindsL:List AV:=[.int .i64 1,.int .u8 0,.int .u8 2,.int .i64 2,.int .u8 3,.int .u8 12,.int .i64 3,.int .u8 6,.int .u8 0,.int .i64 4,.int .u8 6,.int .u8 1,.int .i64 5,.int .u8 6,.int .u8 2,.int .i64 6,.int .u8 6,.int .u8 3,.int .i64 7,.int .u8 6,.int .u8 6]
abbrev X0:Td:=qHe 0 kindsL [17,3]
theorem qKy:FrX X0:=qPu _ _ _
abbrev SS:FuncId→Bool:=λk=>memN k [131,107,108,109,110,111,112,113,114]
noncomputable abbrev XX:Td:=orX (limX Tryz.prog X0 SS [43]) X0
theorem qA3:FrX XX:=zAEN (qX4 qKy _) qKy
structure Fn0 (Y:Td):Prop where
 fr:FrX Y
 no:∀ k,memN k (43 :: [17,3])=false→Y k=none
theorem X0_h {k:Nat} (h:memN k (43 :: [17,3])=false):memN k [17,3]=false:=by unfold memN at h;cases e:Nat.beq k 43 <;> rw [e] at h <;> first | exact h | cases h
theorem X0_0:Fn0 X0:=⟨qKy,λk h=>by show cond (memN k [17,3]) _ _=_;rw [X0_h h];rfl⟩
def qSJ (X:Td)(K:KvP) (s:Hq):Prop:=
 oK (qBi (repl 8 [.nilFunc]) [(0,1,(.fn (.func 107) [] [])),(1,1,(.fn (.func 108) [] [])),(2,1,(.fn (.func 109) [] [])),(3,1,(.fn (.func 110) [] [])),(4,1,(.fn (.func 111) [] [])),(5,1,(.fn (.func 112) [] [])),(6,1,(.fn (.func 113) [] [])),(7,1,(.fn (.func 114) [] []))]) λC0=>qAj C0=true∧newK 156 C0 (λB1 S2=>K (.slc B1 0 8 (some 8) 1) S2) s
theorem qRf {X:Td} (hX:FrX X) (hn:X 70=none) {K:KvP} {s:Hq} (h:qSJ X K s):wC Tryz.prog X 70 [] K s:=
 wOK hX nA0 hn Tryz.func70 (by kernel_rfl) (by kernel_rfl) (by kernel_rfl) h
def qLt (X:Td)(t10 t13:AV) (K:KvP) (s:Hq):Prop:=
 oK (qAV t10 (.bool true) t13) λV1=>K V1 s
def qPn (X:Td)(n0 x1 high2:AV) (K:KvP) (s:Hq):Prop:=
 oK (qAC .lss n0 x1) λV0=>qAM V0
 (qLt X V0 .undef K s)
 (oK (qAC .gtr n0 high2) λV2=>qLt X V0 V2 K s)
theorem qQ2 {X:Td} (hX:FrX X) (hn:X 132=none) {n0 x1 high2:AV} {K:KvP} {s:Hq} (h:qPn X n0 x1 high2 K s):wC Tryz.prog X 132 [n0,x1,high2] K s:=
 wOK hX nA0 hn Tryz.func132 (by kernel_rfl) (by kernel_rfl) (by kernel_rfl) h
def qE4 (X:Td)(x1 x5 x6 t16 t17 t18:AV) (I0:IvP) (m0:Nat) (K:KvP) (s:Hq):Prop:=
 oK (qAC .lss t18 t17) λV12=>qAM V12
 (oK (qAS 3 t16 t18) λV13=>oK (rdN s 3 V13) λV14=>newK 110 [(.int .i64 0),(.int .i64 0),(.int .i64 0)] (λB15 S16=>oK (qAv S16 3 (.ptr B15 0) (.agg V14)) λS17=>oK (rdN S17 3 (.ptr B15 0)) λV18=>funK Tryz.prog X x1 [(.agg V18)] (λV19 S20=>newK 206 [(.int .i64 0),(.int .i64 0)] (λB21 S22=>oK (qAv S22 2 (.ptr B21 0) V19) λS23=>oK (rdN S23 2 (.ptr B21 0)) λV24=>oK (getG Tryz.prog 206 S23 x5 (.agg V24)) λr_25=>oK (qAS 1 x6 t18) λV26=>oK (wr1 S23 V26 (retM (.bool false) false r_25)) λS27=>oK (rdN S27 2 (.ptr B21 0)) λV28=>oK (putG Tryz.prog 206 S27 x5 (.agg V28) (.bool true)) λS29=>oK (qAC .add t18 (.int .i64 1)) λV30=>∃ m',m' < m0∧I0 [V30] S29 m') S20) S17) s)
 (K x6 s)
def qGv (X:Td)(l0 x1:AV) (K:KvP) (s:Hq):Prop:=
 oK (qAQ l0) λV0=>intK (.int .i64 V0) (mapK (λV2 S3=>oK (qAQ l0) λV4=>oK (nat? (.int .i64 V4)) λn_6=>oK (nat? (.int .i64 V4)) λn_7=>(n_6≤n_7∧n_7≤4294967296)∧newK 4 (repl n_7 [(.bool false)]) (λB8 S9=>oK (qAQ l0) λV10=>∃ I0:IvP,(∃ m,I0 [(.int .i64 0)] S9 m)∧∀ (f:Env) (s:Hq) (m0:Nat),I0 [f 18] s m0→
 qE4 X x1 V2 (.slc B8 0 n_6 (some n_7) 1) l0 (.int .i64 V10) (f 18) I0 m0 K s) S3) s)
def qIo:Nat→List Nat:=λk=>cond (Nat.beq k 8) [18] ([])
theorem qJH {X:Td} (hX:FrX X) (hn:X 133=none) {l0 x1:AV} {K:KvP} {s:Hq} (h:qGv X l0 x1 K s):wC Tryz.prog X 133 [l0,x1] K s:=
 wOK hX qIo hn Tryz.func133 (by kernel_rfl) (by kernel_rfl) (by kernel_rfl) h
def qWE (X:Td)(l0:AV) (K:KvP) (s:Hq):Prop:=
 boxK 110 l0 (λB0 S1=>newK 206 [(.int .i64 0),(.int .i64 0)] (λB2 S3=>oK (qAE 0 B0) λV4=>oK (rd1 S3 V4) λV5=>oK (qAE 1 B0) λV6=>oK (rd1 S3 V6) λV7=>oK (qBi [(.int .i64 0),(.int .i64 0)] [(0,1,V5),(1,1,V7)]) λC8=>oK (qAv S3 2 (.ptr B2 0) (.agg C8)) λS9=>oK (rdN S9 2 (.ptr B2 0)) λt2_10=>K (.agg t2_10) S9) S1) s
theorem qQr {X:Td} (hX:FrX X) (hn:X 134=none) {l0:AV} {K:KvP} {s:Hq} (h:qWE X l0 K s):wC Tryz.prog X 134 [l0] K s:=
 wOK hX nA0 hn Tryz.func134 (by kernel_rfl) (by kernel_rfl) (by kernel_rfl) h
def qEV (X:Td)(x1 x5 x6 t16 t17 t18:AV) (I0:IvP) (m0:Nat) (K:KvP) (s:Hq):Prop:=
 oK (qAC .lss t18 t17) λV12=>qAM V12
 (oK (qAS 2 t16 t18) λV13=>oK (rdN s 2 V13) λV14=>newK 112 [(.int .u32 0),(.int .u32 0)] (λB15 S16=>oK (qAv S16 2 (.ptr B15 0) (.agg V14)) λS17=>oK (rdN S17 2 (.ptr B15 0)) λV18=>funK Tryz.prog X x1 [(.agg V18)] (λV19 S20=>oK (getM S20 x5 V19) λr_21=>oK (qAS 1 x6 t18) λV22=>oK (wr1 S20 V22 (retM (.bool false) false r_21)) λS23=>oK (putM S23 x5 V19 (.bool true)) λS24=>oK (qAC .add t18 (.int .i64 1)) λV25=>∃ m',m' < m0∧I0 [V25] S24 m') S17) s)
 (K x6 s)
def qFW (X:Td)(l0 x1:AV) (K:KvP) (s:Hq):Prop:=
 oK (qAQ l0) λV0=>intK (.int .i64 V0) (mapK (λV2 S3=>oK (qAQ l0) λV4=>oK (nat? (.int .i64 V4)) λn_6=>oK (nat? (.int .i64 V4)) λn_7=>(n_6≤n_7∧n_7≤4294967296)∧newK 4 (repl n_7 [(.bool false)]) (λB8 S9=>oK (qAQ l0) λV10=>∃ I0:IvP,(∃ m,I0 [(.int .i64 0)] S9 m)∧∀ (f:Env) (s:Hq) (m0:Nat),I0 [f 18] s m0→
 qEV X x1 V2 (.slc B8 0 n_6 (some n_7) 1) l0 (.int .i64 V10) (f 18) I0 m0 K s) S3) s)
def qHl:Nat→List Nat:=λk=>cond (Nat.beq k 8) [18] ([])
theorem qHt {X:Td} (hX:FrX X) (hn:X 135=none) {l0 x1:AV} {K:KvP} {s:Hq} (h:qFW X l0 x1 K s):wC Tryz.prog X 135 [l0,x1] K s:=
 wOK hX qHl hn Tryz.func135 (by kernel_rfl) (by kernel_rfl) (by kernel_rfl) h
def qS5 (X:Td)(t0:AV) (K:KvP) (s:Hq):Prop:=
 boxK 112 t0 (λB0 S1=>oK (qAE 0 B0) λV2=>oK (rd1 S1 V2) λV3=>K V3 S1) s
theorem qNc {X:Td} (hX:FrX X) (hn:X 136=none) {t0:AV} {K:KvP} {s:Hq} (h:qS5 X t0 K s):wC Tryz.prog X 136 [t0] K s:=
 wOK hX nA0 hn Tryz.func136 (by kernel_rfl) (by kernel_rfl) (by kernel_rfl) h
def qOJ (X:Td)(t0:AV) (K:KvP) (s:Hq):Prop:=
 boxK 112 t0 (λB0 S1=>oK (qAE 1 B0) λV2=>oK (rd1 S1 V2) λV3=>K V3 S1) s
theorem qLf {X:Td} (hX:FrX X) (hn:X 137=none) {t0:AV} {K:KvP} {s:Hq} (h:qOJ X t0 K s):wC Tryz.prog X 137 [t0] K s:=
 wOK hX nA0 hn Tryz.func137 (by kernel_rfl) (by kernel_rfl) (by kernel_rfl) h
def qF4 (X:Td)(x1 x5 x6 t16 t17 t18:AV) (I0:IvP) (m0:Nat) (K:KvP) (s:Hq):Prop:=
 oK (qAC .lss t18 t17) λV12=>qAM V12
 (oK (qAS 6 t16 t18) λV13=>oK (rdN s 6 V13) λV14=>newK 114 [(.int .i64 0),(.int .u32 0),(.int .u32 0),(.int .u32 0),(.int .i64 0),(.int .u32 0)] (λB15 S16=>oK (qAv S16 6 (.ptr B15 0) (.agg V14)) λS17=>oK (rdN S17 6 (.ptr B15 0)) λV18=>funK Tryz.prog X x1 [(.agg V18)] (λV19 S20=>oK (getM S20 x5 V19) λr_21=>oK (qAS 1 x6 t18) λV22=>oK (wr1 S20 V22 (retM (.bool false) false r_21)) λS23=>oK (putM S23 x5 V19 (.bool true)) λS24=>oK (qAC .add t18 (.int .i64 1)) λV25=>∃ m',m' < m0∧I0 [V25] S24 m') S17) s)
 (K x6 s)
def qH1 (X:Td)(l0 x1:AV) (K:KvP) (s:Hq):Prop:=
 oK (qAQ l0) λV0=>intK (.int .i64 V0) (mapK (λV2 S3=>oK (qAQ l0) λV4=>oK (nat? (.int .i64 V4)) λn_6=>oK (nat? (.int .i64 V4)) λn_7=>(n_6≤n_7∧n_7≤4294967296)∧newK 4 (repl n_7 [(.bool false)]) (λB8 S9=>oK (qAQ l0) λV10=>∃ I0:IvP,(∃ m,I0 [(.int .i64 0)] S9 m)∧∀ (f:Env) (s:Hq) (m0:Nat),I0 [f 18] s m0→
 qF4 X x1 V2 (.slc B8 0 n_6 (some n_7) 1) l0 (.int .i64 V10) (f 18) I0 m0 K s) S3) s)
def qJn:Nat→List Nat:=λk=>cond (Nat.beq k 8) [18] ([])
theorem qKX {X:Td} (hX:FrX X) (hn:X 138=none) {l0 x1:AV} {K:KvP} {s:Hq} (h:qH1 X l0 x1 K s):wC Tryz.prog X 138 [l0,x1] K s:=
 wOK hX qJn hn Tryz.func138 (by kernel_rfl) (by kernel_rfl) (by kernel_rfl) h
def qRu (X:Td)(b0:AV) (K:KvP) (s:Hq):Prop:=
 boxK 114 b0 (λB0 S1=>oK (qAE 1 B0) λV2=>oK (rd1 S1 V2) λV3=>K V3 S1) s
theorem qOT {X:Td} (hX:FrX X) (hn:X 139=none) {b0:AV} {K:KvP} {s:Hq} (h:qRu X b0 K s):wC Tryz.prog X 139 [b0] K s:=
 wOK hX nA0 hn Tryz.func139 (by kernel_rfl) (by kernel_rfl) (by kernel_rfl) h
def qN9 (X:Td)(b0:AV) (K:KvP) (s:Hq):Prop:=
 boxK 114 b0 (λB0 S1=>oK (qAE 2 B0) λV2=>oK (rd1 S1 V2) λV3=>K V3 S1) s
theorem qLa {X:Td} (hX:FrX X) (hn:X 140=none) {b0:AV} {K:KvP} {s:Hq} (h:qN9 X b0 K s):wC Tryz.prog X 140 [b0] K s:=
 wOK hX nA0 hn Tryz.func140 (by kernel_rfl) (by kernel_rfl) (by kernel_rfl) h
def qHZ (X:Td)(l0 x1 k2:AV) (K:KvP) (s:Hq):Prop:=
 boxK 209 x1 (λB0 S1=>boxK 32 k2 (λB2 S3=>wC Tryz.prog X 172 [l0,(.fn (.func 173) [] [B0,B2])] (λV4 S5=>K V4 S5) S3) S1) s
theorem qF9 {X:Td} (hX:FrX X) (hn:X 141=none) {l0 x1 k2:AV} {K:KvP} {s:Hq} (h:qHZ X l0 x1 k2 K s):wC Tryz.prog X 141 [l0,x1,k2] K s:=
 wOK hX nA0 hn Tryz.func141 (by kernel_rfl) (by kernel_rfl) (by kernel_rfl) h
def qO2 (X:Td)(t12 t15:AV) (K:KvP) (s:Hq):Prop:=
 oK (qAV t12 t15 (.bool false)) λV11=>K V11 s
def zAAr (X:Td)(p0:AV) (K:KvP) (s:Hq):Prop:=
 boxK 41 p0 (λB0 S1=>oK (rdN S1 2 B0) λV2=>wC Tryz.prog X 174 [(.agg V2)] (λV3 S4=>oK (qAd V3 0) λV5=>oK (qAd V3 1) λV6=>newK 41 [(.int .u32 0),(.int .i64 0)] (λB7 S8=>oK (qAv S8 2 (.ptr B7 0) V5) λS9=>oK (negB false (eqV 0 true V6 (.int .i64 0))) λV10=>qAM V10
 (oK (rdN S9 2 (.ptr B7 0)) λV12=>oK (rdN S9 2 B0) λV13=>oK (negB false (qFb Tryz.prog 41 (.agg V12) (.agg V13))) λV14=>qO2 X V10 V14 K S9)
 (qO2 X V10 .undef K S9)) S4) S1) s
theorem qTZ {X:Td} (hX:FrX X) (hn:X 142=none) {p0:AV} {K:KvP} {s:Hq} (h:zAAr X p0 K s):wC Tryz.prog X 142 [p0] K s:=
 wOK hX nA0 hn Tryz.func142 (by kernel_rfl) (by kernel_rfl) (by kernel_rfl) h
def qK9 (X:Td)(t23 t26:AV) (K:KvP) (s:Hq):Prop:=
 oK (qAV t23 t26 (.bool false)) λV14=>K V14 s
def qK0 (X:Td)(x1 x5 t17 t21:AV) (K:KvP) (s:Hq):Prop:=
 oK (qAV t17 t21 (.bool false)) λV13=>qAM V13
 (oK (negB true (eqV 0 false x1 x5)) λV15=>qK9 X V13 V15 K s)
 (qK9 X V13 .undef K s)
def zABT (X:Td)(p0 x1:AV) (K:KvP) (s:Hq):Prop:=
 boxK 41 p0 (λB0 S1=>oK (qAE 0 B0) λV2=>oK (rd1 S1 V2) λV3=>oK (qAE 1 B0) λV4=>oK (rd1 S1 V4) λV5=>oK (qAC .sub (.int .i64 32) V5) λV6=>oK (qBb .shl (.int .u32 1) V6) λV7=>oK (qAC .sub V7 (.int .u32 1)) λV8=>oK (qAC .or V3 V8) λV9=>oK (rdN S1 2 B0) λV10=>wC Tryz.prog X 146 [(.agg V10),x1] (λV11 S12=>qAM V11
 (oK (qAE 0 B0) λV16=>oK (rd1 S12 V16) λV17=>oK (negB true (eqV 0 false x1 V17)) λV18=>qK0 X x1 V9 V11 V18 K S12)
 (qK0 X x1 V9 V11 .undef K S12)) S1) s
theorem qUO {X:Td} (hX:FrX X) (hn:X 143=none) {p0 x1:AV} {K:KvP} {s:Hq} (h:zABT X p0 x1 K s):wC Tryz.prog X 143 [p0,x1] K s:=
 wOK hX nA0 hn Tryz.func143 (by kernel_rfl) (by kernel_rfl) (by kernel_rfl) h
def qCo (X:Td)(t0 t1:AV) (K:KvP) (s:Hq):Prop:=
 wC Tryz.prog X 175 [t0,t1] (λV0 S1=>oK (qAC .geq V0 (.int .i64 0)) λV2=>K V2 S1) s
theorem qEI {X:Td} (hX:FrX X) (hn:X 144=none) {t0 t1:AV} {K:KvP} {s:Hq} (h:qCo X t0 t1 K s):wC Tryz.prog X 144 [t0,t1] K s:=
 wOK hX nA0 hn Tryz.func144 (by kernel_rfl) (by kernel_rfl) (by kernel_rfl) h
def qJt (X:Td)(t14 t21 t27:AV) (K:KvP) (s:Hq):Prop:=
 oK (qAV t21 (.bool true) t27) λV15=>oK (qAV t14 V15 (.bool false)) λV16=>K V16 s
def qEu (X:Td)(t1 x2 t9 t12:AV) (K:KvP) (s:Hq):Prop:=
 oK (qAV t9 t12 (.bool false)) λV7=>qAM V7
 (oK (qAE 3 x2) λV8=>oK (rdN s 2 V8) λV9=>oK (qAE 3 t1) λV10=>oK (qAE 0 V10) λV11=>oK (rd1 s V11) λV12=>wC Tryz.prog X 146 [(.agg V9),V12] (λV13 S14=>qAM V13
 (qJt X V7 V13 .undef K S14)
 (oK (qAE 3 t1) λV17=>oK (rdN S14 2 V17) λV18=>oK (qAE 3 x2) λV19=>oK (qAE 0 V19) λV20=>oK (rd1 S14 V20) λV21=>wC Tryz.prog X 146 [(.agg V18),V21] (λV22 S23=>qJt X V7 V13 V22 K S23) S14)) s)
 (oK (qAV V7 .undef (.bool false)) λV24=>K V24 s)
def qTA (X:Td)(x0 t1:AV) (K:KvP) (s:Hq):Prop:=
 boxK 114 x0 (λB0 S1=>oK (qAE 0 B0) λV2=>oK (rd1 S1 V2) λV3=>oK (qAE 0 t1) λV4=>oK (rd1 S1 V4) λV5=>oK (negB false (eqV 0 false V3 V5)) λV6=>qAM V6
 (oK (qAE 5 B0) λV25=>oK (rd1 S1 V25) λV26=>oK (negB true (eqV 0 true V26 (.int .u32 0))) λV27=>qEu X t1 B0 V6 V27 K S1)
 (qEu X t1 B0 V6 .undef K S1)) s
theorem qNu {X:Td} (hX:FrX X) (hn:X 145=none) {x0 t1:AV} {K:KvP} {s:Hq} (h:qTA X x0 t1 K s):wC Tryz.prog X 145 [x0,t1] K s:=
 wOK hX nA0 hn Tryz.func145 (by kernel_rfl) (by kernel_rfl) (by kernel_rfl) h
def qM4 (X:Td)(p0 x1:AV) (K:KvP) (s:Hq):Prop:=
 boxK 41 p0 (λB0 S1=>oK (rdN S1 2 B0) λV2=>wC Tryz.prog X 176 [(.agg V2)] (λV3 S4=>qAM V3
 (oK (qAE 0 B0) λV5=>oK (rd1 S4 V5) λV6=>oK (qAC .xor V6 x1) λV7=>oK (qAE 1 B0) λV8=>oK (rd1 S4 V8) λV9=>wC Tryz.prog X 177 [V9] (λV10 S11=>(∀ b,S4 b≠none→S4 b=none→S11 b=none)→
 oK (qAC .and V7 V10) λV12=>oK (negB false (eqV 0 true V12 (.int .u32 0))) λV13=>oK (qAV V3 V13 (.bool false)) λV14=>K V14 (add S4 S11)) (frz S4))
 (oK (qAV V3 .undef (.bool false)) λV15=>K V15 S4)) S1) s
theorem qK4 {X:Td} (hX:FrX X) (hn:X 146=none) {p0 x1:AV} {K:KvP} {s:Hq} (h:qM4 X p0 x1 K s):wC Tryz.prog X 146 [p0,x1] K s:=
 wOK hX nA0 hn Tryz.func146 (by kernel_rfl) (by kernel_rfl) (by kernel_rfl) h
def qDo (X:Td)(t0 t1:AV) (K:KvP) (s:Hq):Prop:=
 wC Tryz.prog X 178 [t0,t1] (λV0 S1=>oK (qAC .geq V0 (.int .i64 0)) λV2=>K V2 S1) s
theorem qFt {X:Td} (hX:FrX X) (hn:X 147=none) {t0 t1:AV} {K:KvP} {s:Hq} (h:qDo X t0 t1 K s):wC Tryz.prog X 147 [t0,t1] K s:=
 wOK hX nA0 hn Tryz.func147 (by kernel_rfl) (by kernel_rfl) (by kernel_rfl) h
def qLT (X:Td)(n0 t1:AV) (K:KvP) (s:Hq):Prop:=
 oK (qAE 0 t1) λV0=>oK (rd1 s V0) λV1=>wC Tryz.prog X 95 [n0,V1] (λV2 S3=>oK (qAq .not V2) λV4=>K V4 S3) s
theorem qM0 {X:Td} (hX:FrX X) (hn:X 148=none) {n0 t1:AV} {K:KvP} {s:Hq} (h:qLT X n0 t1 K s):wC Tryz.prog X 148 [n0,t1] K s:=
 wOK hX nA0 hn Tryz.func148 (by kernel_rfl) (by kernel_rfl) (by kernel_rfl) h
def qLD (X:Td)(b0 t1:AV) (K:KvP) (s:Hq):Prop:=
 oK (qAE 4 t1) λV0=>oK (rd1 s V0) λV1=>oK (qAQ V1) λV2=>wC Tryz.prog X 95 [b0,(.int .i64 V2)] (λV4 S5=>oK (qAq .not V4) λV6=>K V6 S5) s
theorem qM3 {X:Td} (hX:FrX X) (hn:X 149=none) {b0 t1:AV} {K:KvP} {s:Hq} (h:qLD X b0 t1 K s):wC Tryz.prog X 149 [b0,t1] K s:=
 wOK hX nA0 hn Tryz.func149 (by kernel_rfl) (by kernel_rfl) (by kernel_rfl) h
def qJT (X:Td)(l0 i3:AV) (I0:IvP) (m0:Nat) (K:KvP) (s:Hq):Prop:=
 oK (qAQ l0) λV0=>oK (qAC .lss i3 (.int .i64 V0)) λV2=>qAM V2
 (oK (qAS 1 l0 i3) λV3=>oK (rd1 s V3) λV4=>oK (qAC .sub i3 (.int .i64 1)) λV5=>oK (qAS 1 l0 V5) λV6=>oK (rd1 s V6) λV7=>oK (qAC .leq V4 V7) λV8=>qAM V8
 (K (.bool false) s)
 (oK (qAC .add i3 (.int .i64 1)) λV9=>∃ m',m' < m0∧I0 [V9] s m'))
 (K (.bool true) s)
def qMf (X:Td)(l0:AV) (K:KvP) (s:Hq):Prop:=
 ∃ I0:IvP,(∃ m,I0 [(.int .i64 1)] s m)∧∀ (f:Env) (s:Hq) (m0:Nat),I0 [f 3] s m0→
 qJT X l0 (f 3) I0 m0 K s
def qNH:Nat→List Nat:=λk=>cond (Nat.beq k 4) [3] ([])
theorem qNi {X:Td} (hX:FrX X) (hn:X 150=none) {l0:AV} {K:KvP} {s:Hq} (h:qMf X l0 K s):wC Tryz.prog X 150 [l0] K s:=
 wOK hX qNH hn Tryz.func150 (by kernel_rfl) (by kernel_rfl) (by kernel_rfl) h
def qDS (X:Td)(x1 x5 x6 t16 t17 t18:AV) (I0:IvP) (m0:Nat) (K:KvP) (s:Hq):Prop:=
 oK (qAC .lss t18 t17) λV12=>qAM V12
 (oK (qAS 4 t16 t18) λV13=>oK (rdN s 4 V13) λV14=>newK 136 [(.int .u64 0),(.int .u32 0),(.int .i64 0),(.int .i64 0)] (λB15 S16=>oK (qAv S16 4 (.ptr B15 0) (.agg V14)) λS17=>oK (rdN S17 4 (.ptr B15 0)) λV18=>funK Tryz.prog X x1 [(.agg V18)] (λV19 S20=>newK 223 [(.int .i64 0),(.int .u64 0)] (λB21 S22=>oK (qAv S22 2 (.ptr B21 0) V19) λS23=>oK (rdN S23 2 (.ptr B21 0)) λV24=>oK (getG Tryz.prog 223 S23 x5 (.agg V24)) λr_25=>oK (qAS 1 x6 t18) λV26=>oK (wr1 S23 V26 (retM (.bool false) false r_25)) λS27=>oK (rdN S27 2 (.ptr B21 0)) λV28=>oK (putG Tryz.prog 223 S27 x5 (.agg V28) (.bool true)) λS29=>oK (qAC .add t18 (.int .i64 1)) λV30=>∃ m',m' < m0∧I0 [V30] S29 m') S20) S17) s)
 (K x6 s)
def qD8 (X:Td)(l0 x1:AV) (K:KvP) (s:Hq):Prop:=
 oK (qAQ l0) λV0=>intK (.int .i64 V0) (mapK (λV2 S3=>oK (qAQ l0) λV4=>oK (nat? (.int .i64 V4)) λn_6=>oK (nat? (.int .i64 V4)) λn_7=>(n_6≤n_7∧n_7≤4294967296)∧newK 4 (repl n_7 [(.bool false)]) (λB8 S9=>oK (qAQ l0) λV10=>∃ I0:IvP,(∃ m,I0 [(.int .i64 0)] S9 m)∧∀ (f:Env) (s:Hq) (m0:Nat),I0 [f 18] s m0→
 qDS X x1 V2 (.slc B8 0 n_6 (some n_7) 1) l0 (.int .i64 V10) (f 18) I0 m0 K s) S3) s)
def qFu:Nat→List Nat:=λk=>cond (Nat.beq k 8) [18] ([])
theorem qGK {X:Td} (hX:FrX X) (hn:X 151=none) {l0 x1:AV} {K:KvP} {s:Hq} (h:qD8 X l0 x1 K s):wC Tryz.prog X 151 [l0,x1] K s:=
 wOK hX qFu hn Tryz.func151 (by kernel_rfl) (by kernel_rfl) (by kernel_rfl) h
def qWa (X:Td)(h0:AV) (K:KvP) (s:Hq):Prop:=
 boxK 136 h0 (λB0 S1=>newK 223 [(.int .i64 0),(.int .u64 0)] (λB2 S3=>oK (qAE 2 B0) λV4=>oK (rd1 S3 V4) λV5=>oK (qAE 0 B0) λV6=>oK (rd1 S3 V6) λV7=>oK (qBi [(.int .i64 0),(.int .u64 0)] [(0,1,V5),(1,1,V7)]) λC8=>oK (qAv S3 2 (.ptr B2 0) (.agg C8)) λS9=>oK (rdN S9 2 (.ptr B2 0)) λt2_10=>K (.agg t2_10) S9) S1) s
theorem qRb {X:Td} (hX:FrX X) (hn:X 152=none) {h0:AV} {K:KvP} {s:Hq} (h:qWa X h0 K s):wC Tryz.prog X 152 [h0] K s:=
 wOK hX nA0 hn Tryz.func152 (by kernel_rfl) (by kernel_rfl) (by kernel_rfl) h
def qWX (X:Td)(h0:AV) (K:KvP) (s:Hq):Prop:=
 boxK 136 h0 (λB0 S1=>newK 223 [(.int .i64 0),(.int .u64 0)] (λB2 S3=>oK (qAE 2 B0) λV4=>oK (rd1 S3 V4) λV5=>oK (qAE 1 B0) λV6=>oK (rd1 S3 V6) λV7=>oK (qBx .u64 V7) λV8=>oK (qBi [(.int .i64 0),(.int .u64 0)] [(0,1,V5),(1,1,V8)]) λC9=>oK (qAv S3 2 (.ptr B2 0) (.agg C9)) λS10=>oK (rdN S10 2 (.ptr B2 0)) λt2_11=>K (.agg t2_11) S10) S1) s
theorem qQ8 {X:Td} (hX:FrX X) (hn:X 153=none) {h0:AV} {K:KvP} {s:Hq} (h:qWX X h0 K s):wC Tryz.prog X 153 [h0] K s:=
 wOK hX nA0 hn Tryz.func153 (by kernel_rfl) (by kernel_rfl) (by kernel_rfl) h
def qF6 (X:Td)(t5 t9:AV) (K:KvP) (s:Hq):Prop:=
 oK (qAV t5 t9 (.bool false)) λV1=>K V1 s
def qH3 (X:Td)(t0:AV) (K:KvP) (s:Hq):Prop:=
 oK (qAC .leq t0 (.int .u64 281474976710655)) λV0=>qAM V0
 (oK (qBb .shr t0 (.int .u64 40)) λV2=>oK (qAC .and V2 (.int .u64 1)) λV3=>oK (negB true (eqV 0 true V3 (.int .u64 0))) λV4=>qF6 X V0 V4 K s)
 (qF6 X V0 .undef K s)
theorem qKZ {X:Td} (hX:FrX X) (hn:X 154=none) {t0:AV} {K:KvP} {s:Hq} (h:qH3 X t0 K s):wC Tryz.prog X 154 [t0] K s:=
 wOK hX nA0 hn Tryz.func154 (by kernel_rfl) (by kernel_rfl) (by kernel_rfl) h
def qE5 (X:Td)(t0 v1:AV) (K:KvP) (s:Hq):Prop:=
 wC Tryz.prog X 179 [t0,v1] (λV0 S1=>oK (qAC .geq V0 (.int .i64 0)) λV2=>K V2 S1) s
theorem qHi {X:Td} (hX:FrX X) (hn:X 155=none) {t0 v1:AV} {K:KvP} {s:Hq} (h:qE5 X t0 v1 K s):wC Tryz.prog X 155 [t0,v1] K s:=
 wOK hX nA0 hn Tryz.func155 (by kernel_rfl) (by kernel_rfl) (by kernel_rfl) h
def qCb (X:Td)(t0 t6 t8:AV) (K:KvP) (s:Hq):Prop:=
 oK (qAV t6 (.bool true) t8) λV1=>qAM V1
 (K (.tup [(.int .i64 0),(.bool false)]) s)
 (oK (qAC .sub t0 (.int .u64 2199023255552)) λV2=>oK (qBx .i64 V2) λV3=>K (.tup [V3,(.bool true)]) s)
def qHH (X:Td)(t0:AV) (K:KvP) (s:Hq):Prop:=
 oK (qAC .lss t0 (.int .u64 2199023255552)) λV0=>qAM V0
 (qCb X t0 V0 .undef K s)
 (oK (qAC .geq t0 (.int .u64 2199023255584)) λV4=>qCb X t0 V0 V4 K s)
theorem qJp {X:Td} (hX:FrX X) (hn:X 156=none) {t0:AV} {K:KvP} {s:Hq} (h:qHH X t0 K s):wC Tryz.prog X 156 [t0] K s:=
 wOK hX nA0 hn Tryz.func156 (by kernel_rfl) (by kernel_rfl) (by kernel_rfl) h
def qJa (X:Td)(t16 t20:AV) (K:KvP) (s:Hq):Prop:=
 oK (qAV t16 t20 (.bool false)) λV7=>K V7 s
def qEm (X:Td)(x1 b2 t10 t14:AV) (K:KvP) (s:Hq):Prop:=
 oK (qAV t10 t14 (.bool false)) λV6=>qAM V6
 (oK (qAE 3 b2) λV8=>oK (rdN s 2 V8) λV9=>wC Tryz.prog X 143 [(.agg V9),x1] (λV10 S11=>qJa X V6 V10 K S11) s)
 (qJa X V6 .undef K s)
def qTD (X:Td)(b0 x1:AV) (K:KvP) (s:Hq):Prop:=
 boxK 114 b0 (λB0 S1=>oK (negB false (eqV 0 true x1 (.int .u32 0))) λV2=>qAM V2
 (K (.bool true) S1)
 (oK (qAE 5 B0) λV3=>oK (rd1 S1 V3) λV4=>oK (negB true (eqV 0 true V4 (.int .u32 0))) λV5=>qAM V5
 (oK (qAE 5 B0) λV12=>oK (rd1 S1 V12) λV13=>oK (negB true (eqV 0 false x1 V13)) λV14=>qEm X x1 B0 V5 V14 K S1)
 (qEm X x1 B0 V5 .undef K S1))) s
theorem qOX {X:Td} (hX:FrX X) (hn:X 157=none) {b0 x1:AV} {K:KvP} {s:Hq} (h:qTD X b0 x1 K s):wC Tryz.prog X 157 [b0,x1] K s:=
 wOK hX nA0 hn Tryz.func157 (by kernel_rfl) (by kernel_rfl) (by kernel_rfl) h
def qEY (X:Td)(x1 x5 x6 t16 t17 t18:AV) (I0:IvP) (m0:Nat) (K:KvP) (s:Hq):Prop:=
 oK (qAC .lss t18 t17) λV12=>qAM V12
 (oK (qAS 4 t16 t18) λV13=>oK (rdN s 4 V13) λV14=>newK 140 [(.int .i64 0),(.int .i64 0),(.int .u32 0),(.int .i64 0)] (λB15 S16=>oK (qAv S16 4 (.ptr B15 0) (.agg V14)) λS17=>oK (rdN S17 4 (.ptr B15 0)) λV18=>funK Tryz.prog X x1 [(.agg V18)] (λV19 S20=>newK 140 [(.int .i64 0),(.int .i64 0),(.int .u32 0),(.int .i64 0)] (λB21 S22=>oK (qAv S22 4 (.ptr B21 0) V19) λS23=>oK (rdN S23 4 (.ptr B21 0)) λV24=>oK (getG Tryz.prog 140 S23 x5 (.agg V24)) λr_25=>oK (qAS 1 x6 t18) λV26=>oK (wr1 S23 V26 (retM (.bool false) false r_25)) λS27=>oK (rdN S27 4 (.ptr B21 0)) λV28=>oK (putG Tryz.prog 140 S27 x5 (.agg V28) (.bool true)) λS29=>oK (qAC .add t18 (.int .i64 1)) λV30=>∃ m',m' < m0∧I0 [V30] S29 m') S20) S17) s)
 (K x6 s)
def qFZ (X:Td)(l0 x1:AV) (K:KvP) (s:Hq):Prop:=
 oK (qAQ l0) λV0=>intK (.int .i64 V0) (mapK (λV2 S3=>oK (qAQ l0) λV4=>oK (nat? (.int .i64 V4)) λn_6=>oK (nat? (.int .i64 V4)) λn_7=>(n_6≤n_7∧n_7≤4294967296)∧newK 4 (repl n_7 [(.bool false)]) (λB8 S9=>oK (qAQ l0) λV10=>∃ I0:IvP,(∃ m,I0 [(.int .i64 0)] S9 m)∧∀ (f:Env) (s:Hq) (m0:Nat),I0 [f 18] s m0→
 qEY X x1 V2 (.slc B8 0 n_6 (some n_7) 1) l0 (.int .i64 V10) (f 18) I0 m0 K s) S3) s)
def qHm:Nat→List Nat:=λk=>cond (Nat.beq k 8) [18] ([])
theorem qHs {X:Td} (hX:FrX X) (hn:X 158=none) {l0 x1:AV} {K:KvP} {s:Hq} (h:qFZ X l0 x1 K s):wC Tryz.prog X 158 [l0,x1] K s:=
 wOK hX qHm hn Tryz.func158 (by kernel_rfl) (by kernel_rfl) (by kernel_rfl) h
def qWt (X:Td)(l0:AV) (K:KvP) (s:Hq):Prop:=
 boxK 140 l0 (λB0 S1=>newK 140 [(.int .i64 0),(.int .i64 0),(.int .u32 0),(.int .i64 0)] (λB2 S3=>oK (rdN S3 4 B0) λV4=>oK (qAv S3 4 (.ptr B2 0) (.agg V4)) λS5=>oK (rdN S5 4 (.ptr B2 0)) λt2_6=>K (.agg t2_6) S5) S1) s
theorem qRa {X:Td} (hX:FrX X) (hn:X 159=none) {l0:AV} {K:KvP} {s:Hq} (h:qWt X l0 K s):wC Tryz.prog X 159 [l0] K s:=
 wOK hX nA0 hn Tryz.func159 (by kernel_rfl) (by kernel_rfl) (by kernel_rfl) h
def qBu (X:Td)(t0 t1:AV) (K:KvP) (s:Hq):Prop:=
 wC Tryz.prog X 184 [t0,t1] (λV0 S1=>oK (qAC .geq V0 (.int .i64 0)) λV2=>K V2 S1) s
theorem qDD {X:Td} (hX:FrX X) (hn:X 172=none) {t0 t1:AV} {K:KvP} {s:Hq} (h:qBu X t0 t1 K s):wC Tryz.prog X 172 [t0,t1] K s:=
 wOK hX nA0 hn Tryz.func172 (by kernel_rfl) (by kernel_rfl) (by kernel_rfl) h
def qGh (X:Td)(x0 t1 t2:AV) (K:KvP) (s:Hq):Prop:=
 boxK 112 x0 (λB0 S1=>oK (rd1 S1 t1) λV2=>oK (rdN S1 2 B0) λV3=>funK Tryz.prog X V2 [(.agg V3)] (λV4 S5=>(∀ b,S1 b≠none→S1 b=none→S5 b=none)→
 oK (rd1 (cutH [(S1,(add S1 S5))] (add S1 S5)) t2) λV6=>oK (negB false (eqV 0 false V4 V6)) λV7=>K V7 (add S1 S5)) (frz S1)) s
theorem qFT {X:Td} (hX:FrX X) (hn:X 173=none) {x0 t1 t2:AV} {K:KvP} {s:Hq} (h:qGh X x0 t1 t2 K s):wC Tryz.prog X 173 [x0,t1,t2] K s:=
 wOK hX nA0 hn Tryz.func173 (by kernel_rfl) (by kernel_rfl) (by kernel_rfl) h
def qRc (X:Td)(p0:AV) (K:KvP) (s:Hq):Prop:=
 boxK 41 p0 (λB0 S1=>newK 41 [(.int .u32 0),(.int .i64 0)] (λB2 S3=>oK (rdN S3 2 B0) λV4=>wC Tryz.prog X 176 [(.agg V4)] (λV5 S6=>oK (qAq .not V5) λV7=>qAM V7
 (oK (qBi [(.int .u32 0),(.int .i64 0)] []) λC8=>oK (qAv S6 2 (.ptr B2 0) (.agg C8)) λS9=>oK (rdN S9 2 (.ptr B2 0)) λt2_10=>K (.tup [(.agg t2_10),(.int .i64 2)]) S9)
 (oK (qAE 0 B0) λV11=>oK (rd1 S6 V11) λV12=>oK (qAE 1 B0) λV13=>oK (rd1 S6 V13) λV14=>wC Tryz.prog X 177 [V14] (λV15 S16=>(∀ b,S6 b≠none→S6 b=none→S16 b=none)→
 oK (qAC .and V12 V15) λV17=>oK (qAE 0 B0) λV18=>oK (wr1 (add S6 S16) V18 V17) λS19=>oK (rdN S19 2 B0) λV20=>oK (qAv S19 2 (.ptr B2 0) (.agg V20)) λS21=>oK (rdN S21 2 (.ptr B2 0)) λt2_22=>K (.tup [(.agg t2_22),(.int .i64 0)]) S21) (frz S6))) S3) S1) s
theorem qM8 {X:Td} (hX:FrX X) (hn:X 174=none) {p0:AV} {K:KvP} {s:Hq} (h:qRc X p0 K s):wC Tryz.prog X 174 [p0] K s:=
 wOK hX nA0 hn Tryz.func174 (by kernel_rfl) (by kernel_rfl) (by kernel_rfl) h
def qCn (X:Td)(t0 t1 t7 t8:AV) (I0:IvP) (m0:Nat) (K:KvP) (s:Hq):Prop:=
 oK (qAC .lss t8 t7) λV2=>qAM V2
 (oK (qAS 6 t0 t8) λV3=>oK (rdN s 6 V3) λV4=>funK Tryz.prog X t1 [(.agg V4)] (λV5 S6=>qAM V5
 (K t8 S6)
 (oK (qAC .add t8 (.int .i64 1)) λV7=>∃ m',m' < m0∧I0 [V7] S6 m')) s)
 (K (.int .i64 (-1)) s)
def qDE (X:Td)(t0 t1:AV) (K:KvP) (s:Hq):Prop:=
 oK (qAQ t0) λV0=>∃ I0:IvP,(∃ m,I0 [(.int .i64 0)] s m)∧∀ (f:Env) (s:Hq) (m0:Nat),I0 [f 8] s m0→
 qCn X t0 t1 (.int .i64 V0) (f 8) I0 m0 K s
def qEo:Nat→List Nat:=λk=>cond (Nat.beq k 4) [8] ([])
theorem qEz {X:Td} (hX:FrX X) (hn:X 175=none) {t0 t1:AV} {K:KvP} {s:Hq} (h:qDE X t0 t1 K s):wC Tryz.prog X 175 [t0,t1] K s:=
 wOK hX qEo hn Tryz.func175 (by kernel_rfl) (by kernel_rfl) (by kernel_rfl) h
def qI7 (X:Td)(t6 t9:AV) (K:KvP) (s:Hq):Prop:=
 oK (qAV t6 t9 (.bool false)) λV5=>K V5 s
def qQb (X:Td)(p0:AV) (K:KvP) (s:Hq):Prop:=
 boxK 41 p0 (λB0 S1=>oK (qAE 1 B0) λV2=>oK (rd1 S1 V2) λV3=>oK (qAC .geq V3 (.int .i64 0)) λV4=>qAM V4
 (oK (qAE 1 B0) λV6=>oK (rd1 S1 V6) λV7=>oK (qAC .leq V7 (.int .i64 32)) λV8=>qI7 X V4 V8 K S1)
 (qI7 X V4 .undef K S1)) s
theorem qNE {X:Td} (hX:FrX X) (hn:X 176=none) {p0:AV} {K:KvP} {s:Hq} (h:qQb X p0 K s):wC Tryz.prog X 176 [p0] K s:=
 wOK hX nA0 hn Tryz.func176 (by kernel_rfl) (by kernel_rfl) (by kernel_rfl) h
def qMi (X:Td)(length0:AV) (K:KvP) (s:Hq):Prop:=
 oK (qAC .sub (.int .i64 32) length0) λV0=>oK (qBb .shl (.int .u32 4294967295) V0) λV1=>K V1 s
theorem qNa {X:Td} (hX:FrX X) (hn:X 177=none) {length0:AV} {K:KvP} {s:Hq} (h:qMi X length0 K s):wC Tryz.prog X 177 [length0] K s:=
 wOK hX nA0 hn Tryz.func177 (by kernel_rfl) (by kernel_rfl) (by kernel_rfl) h
def qDm (X:Td)(t0 t1 t7 t8:AV) (I0:IvP) (m0:Nat) (K:KvP) (s:Hq):Prop:=
 oK (qAC .lss t8 t7) λV2=>qAM V2
 (oK (qAS 1 t0 t8) λV3=>oK (rd1 s V3) λV4=>funK Tryz.prog X t1 [V4] (λV5 S6=>qAM V5
 (K t8 S6)
 (oK (qAC .add t8 (.int .i64 1)) λV7=>∃ m',m' < m0∧I0 [V7] S6 m')) s)
 (K (.int .i64 (-1)) s)
def qEp (X:Td)(t0 t1:AV) (K:KvP) (s:Hq):Prop:=
 oK (qAQ t0) λV0=>∃ I0:IvP,(∃ m,I0 [(.int .i64 0)] s m)∧∀ (f:Env) (s:Hq) (m0:Nat),I0 [f 8] s m0→
 qDm X t0 t1 (.int .i64 V0) (f 8) I0 m0 K s
def qGj:Nat→List Nat:=λk=>cond (Nat.beq k 4) [8] ([])
theorem qG7 {X:Td} (hX:FrX X) (hn:X 178=none) {t0 t1:AV} {K:KvP} {s:Hq} (h:qEp X t0 t1 K s):wC Tryz.prog X 178 [t0,t1] K s:=
 wOK hX qGj hn Tryz.func178 (by kernel_rfl) (by kernel_rfl) (by kernel_rfl) h
def qE2 (X:Td)(t0 v1 t7 t8:AV) (I0:IvP) (m0:Nat) (K:KvP) (s:Hq):Prop:=
 oK (qAC .lss t8 t7) λV2=>qAM V2
 (oK (qAS 1 t0 t8) λV3=>oK (rd1 s V3) λV4=>oK (negB false (eqV 0 false v1 V4)) λV5=>qAM V5
 (K t8 s)
 (oK (qAC .add t8 (.int .i64 1)) λV6=>∃ m',m' < m0∧I0 [V6] s m'))
 (K (.int .i64 (-1)) s)
def qGi (X:Td)(t0 v1:AV) (K:KvP) (s:Hq):Prop:=
 oK (qAQ t0) λV0=>∃ I0:IvP,(∃ m,I0 [(.int .i64 0)] s m)∧∀ (f:Env) (s:Hq) (m0:Nat),I0 [f 8] s m0→
 qE2 X t0 v1 (.int .i64 V0) (f 8) I0 m0 K s
def qId:Nat→List Nat:=λk=>cond (Nat.beq k 4) [8] ([])
theorem qJI {X:Td} (hX:FrX X) (hn:X 179=none) {t0 v1:AV} {K:KvP} {s:Hq} (h:qGi X t0 v1 K s):wC Tryz.prog X 179 [t0,v1] K s:=
 wOK hX qId hn Tryz.func179 (by kernel_rfl) (by kernel_rfl) (by kernel_rfl) h
def qBt (X:Td)(t0 t1 t7 t8:AV) (I0:IvP) (m0:Nat) (K:KvP) (s:Hq):Prop:=
 oK (qAC .lss t8 t7) λV2=>qAM V2
 (oK (qAS 2 t0 t8) λV3=>oK (rdN s 2 V3) λV4=>funK Tryz.prog X t1 [(.agg V4)] (λV5 S6=>qAM V5
 (K t8 S6)
 (oK (qAC .add t8 (.int .i64 1)) λV7=>∃ m',m' < m0∧I0 [V7] S6 m')) s)
 (K (.int .i64 (-1)) s)
def qB5 (X:Td)(t0 t1:AV) (K:KvP) (s:Hq):Prop:=
 oK (qAQ t0) λV0=>∃ I0:IvP,(∃ m,I0 [(.int .i64 0)] s m)∧∀ (f:Env) (s:Hq) (m0:Nat),I0 [f 8] s m0→
 qBt X t0 t1 (.int .i64 V0) (f 8) I0 m0 K s
def qDR:Nat→List Nat:=λk=>cond (Nat.beq k 4) [8] ([])
theorem qDU {X:Td} (hX:FrX X) (hn:X 184=none) {t0 t1:AV} {K:KvP} {s:Hq} (h:qB5 X t0 t1 K s):wC Tryz.prog X 184 [t0,t1] K s:=
 wOK hX qDR hn Tryz.func184 (by kernel_rfl) (by kernel_rfl) (by kernel_rfl) h
def qMY (X:Td)(t7 t10:AV) (K:KvP) (s:Hq):Prop:=
 oK (qAV t7 t10 (.bool false)) λV1=>K V1 s
def qTK (X:Td)(i0 n1:AV) (K:KvP) (s:Hq):Prop:=
 oK (qAC .geq i0 (.int .i64 0)) λV0=>qAM V0
 (oK (qAC .lss i0 n1) λV2=>qMY X V0 V2 K s)
 (qMY X V0 .undef K s)
theorem qSQ {X:Td} (hX:FrX X) (hn:X 95=none) {i0 n1:AV} {K:KvP} {s:Hq} (h:qTK X i0 n1 K s):wC Tryz.prog X 95 [i0,n1] K s:=
 wOK hX nA0 hn Tryz.func95 (by kernel_rfl) (by kernel_rfl) (by kernel_rfl) h
end Go.AM
namespace Go.AM
open Go Go.Proofs
set_option maxRecDepth 100000
def qKg (X:Td)(bad0 x1 part2 x3:AV) (K R:KvP) (s:Hq):Prop:=
 qAM bad0
 (oK (qBi [(.int .i64 0),(.str ⟨#[]⟩),(.int .i64 0)] [(0,1,x1),(1,1,part2),(2,1,x3)]) λC0=>panK (.ifc 150 (.agg C0)) R s)
 (K (.tup []) s)
theorem qL9 {bad0 x1 part2 x3:AV} {K R:KvP} {s:Hq} (h:qKg X0 bad0 x1 part2 x3 K R s):qAh Tryz.prog X0 SS 131 [bad0,x1,part2,x3] K R s:=
 qCZ qKy nA0 Tryz.func131 (by kernel_rfl:Tryz.f131.body=some (qBl Tryz.f131)) (by kernel_rfl) (by kernel_rfl) (Eq.mpr (by kernel_rfl) h)
def qHM (X:Td)(t31 t34:AV) (K R:KvP) (s:Hq):Prop:=
 oK (qAV t31 (.bool true) t34) λV26=>qAh Tryz.prog X SS 131 [V26,(.int .i64 2),(.str ⟨#[102,97,98,114,105,99]⟩),(.int .i64 0)] (λV27 S28=>K (.tup []) S28) R s
def qHP (X:Td)(t2 t26 t29:AV) (K R:KvP) (s:Hq):Prop:=
 oK (qAV t26 (.bool true) t29) λV25=>qAM V25
 (qHM X V25 .undef K R s)
 (oK (qAE 10 t2) λV29=>oK (rd1 s V29) λV30=>wC Tryz.prog X 132 [V30,(.int .i64 0),(.int .i64 1)] (λV31 S32=>qHM X V25 V31 K R S32) s)
def qHL (X:Td)(t2 t10 t13:AV) (K R:KvP) (s:Hq):Prop:=
 oK (qAV t10 (.bool true) t13) λV10=>qAh Tryz.prog X SS 131 [V10,(.int .i64 2),(.str ⟨#[102,97,98,114,105,99]⟩),(.int .i64 0)] (λV11 S12=>oK (qAE 0 t2) λV13=>oK (rd1 S12 V13) λV14=>oK (qAE 1 t2) λV15=>oK (rd1 S12 V15) λV16=>oK (qAC .add V14 V16) λV17=>oK (qAC .gtr V17 (.int .i64 32)) λV18=>qAh Tryz.prog X SS 131 [V18,(.int .i64 2),(.str ⟨#[102,97,98,114,105,99]⟩),(.int .i64 0)] (λV19 S20=>oK (qAE 8 t2) λV21=>oK (rd1 S20 V21) λV22=>wC Tryz.prog X 132 [V22,(.int .i64 0),(.int .i64 2)] (λV23 S24=>qAM V23
 (qHP X t2 V23 .undef K R S24)
 (oK (qAE 9 t2) λV33=>oK (rd1 S24 V33) λV34=>wC Tryz.prog X 132 [V34,(.int .i64 0),(.int .i64 1)] (λV35 S36=>qHP X t2 V23 V35 K R S36) S24)) S20) R S12) R s
def qZB (X:Td)(c0:AV) (K R:KvP) (s:Hq):Prop:=
 oK (qBp c0) λV0=>oK (qAE 0 V0) λV1=>oK (rdN s 19 V1) λV2=>newK 68 zR1 (λB3 S4=>oK (qAv S4 19 (.ptr B3 0) (.agg V2)) λS5=>oK (qAE 0 (.ptr B3 0)) λV6=>oK (rd1 S5 V6) λV7=>wC Tryz.prog X 132 [V7,(.int .i64 1),(.int .i64 32)] (λV8 S9=>qAM V8
 (qHL X (.ptr B3 0) V8 .undef K R S9)
 (oK (qAE 1 (.ptr B3 0)) λV37=>oK (rd1 S9 V37) λV38=>wC Tryz.prog X 132 [V38,(.int .i64 0),(.int .i64 32)] (λV39 S40=>qHL X (.ptr B3 0) V8 V39 K R S40) S9)) S5) s
theorem qTB {c0:AV} {K R:KvP} {s:Hq} (h:qZB X0 c0 K R s):qAh Tryz.prog X0 SS 107 [c0] K R s:=
 qCZ qKy nA0 Tryz.func107 (by kernel_rfl:Tryz.f107.body=some (qBl Tryz.f107)) (by kernel_rfl) (by kernel_rfl) (Eq.mpr (by kernel_rfl) h)
def qHI (X:Td)(t30 t33:AV) (K R:KvP) (s:Hq):Prop:=
 oK (qAV t30 (.bool true) t33) λV20=>qAh Tryz.prog X SS 131 [V20,(.int .i64 2),(.str ⟨#[116,105,109,101,114,115]⟩),(.int .i64 0)] (λV21 S22=>K (.tup []) S22) R s
def qHS (X:Td)(t2 t25 t28:AV) (K R:KvP) (s:Hq):Prop:=
 oK (qAV t25 (.bool true) t28) λV19=>qAM V19
 (qHI X V19 .undef K R s)
 (oK (qAE 5 t2) λV23=>oK (rd1 s V23) λV24=>wC Tryz.prog X 132 [V24,(.int .i64 1),(.int .i64 10000)] (λV25 S26=>qHI X V19 V25 K R S26) s)
def qHC (X:Td)(t2 t16 t19:AV) (K R:KvP) (s:Hq):Prop:=
 oK (qAV t16 (.bool true) t19) λV12=>qAh Tryz.prog X SS 131 [V12,(.int .i64 2),(.str ⟨#[116,105,109,101,114,115]⟩),(.int .i64 0)] (λV13 S14=>oK (qAE 3 t2) λV15=>oK (rd1 S14 V15) λV16=>wC Tryz.prog X 132 [V16,(.int .i64 0),(.int .i64 1000)] (λV17 S18=>qAM V17
 (qHS X t2 V17 .undef K R S18)
 (oK (qAE 4 t2) λV27=>oK (rd1 S18 V27) λV28=>wC Tryz.prog X 132 [V28,(.int .i64 1),(.int .i64 100)] (λV29 S30=>qHS X t2 V17 V29 K R S30) S18)) S14) R s
def qHJ (X:Td)(t2 t11 t14:AV) (K R:KvP) (s:Hq):Prop:=
 oK (qAV t11 (.bool true) t14) λV11=>qAM V11
 (qHC X t2 V11 .undef K R s)
 (oK (qAE 2 t2) λV31=>oK (rd1 s V31) λV32=>wC Tryz.prog X 132 [V32,(.int .i64 1),(.int .i64 10000)] (λV33 S34=>qHC X t2 V11 V33 K R S34) s)
def qSL (X:Td)(c0:AV) (K R:KvP) (s:Hq):Prop:=
 oK (qBp c0) λV0=>oK (qAE 0 V0) λV1=>oK (qAE 13 V1) λV2=>oK (rdN s 6 V2) λV3=>newK 66 [(.int .i64 0),(.int .i64 0),(.int .i64 0),(.int .i64 0),(.int .i64 0),(.int .i64 0)] (λB4 S5=>oK (qAv S5 6 (.ptr B4 0) (.agg V3)) λS6=>oK (qAE 0 (.ptr B4 0)) λV7=>oK (rd1 S6 V7) λV8=>wC Tryz.prog X 132 [V8,(.int .i64 1),(.int .i64 100)] (λV9 S10=>qAM V9
 (qHJ X (.ptr B4 0) V9 .undef K R S10)
 (oK (qAE 1 (.ptr B4 0)) λV35=>oK (rd1 S10 V35) λV36=>wC Tryz.prog X 132 [V36,(.int .i64 3),(.int .i64 1000)] (λV37 S38=>qHJ X (.ptr B4 0) V9 V37 K R S38) S10)) S6) s
theorem qSa {c0:AV} {K R:KvP} {s:Hq} (h:qSL X0 c0 K R s):qAh Tryz.prog X0 SS 108 [c0] K R s:=
 qCZ qKy nA0 Tryz.func108 (by kernel_rfl:Tryz.f108.body=some (qBl Tryz.f108)) (by kernel_rfl) (by kernel_rfl) (Eq.mpr (by kernel_rfl) h)
def qIt (X:Td)(x3 i4 t22 t51 t54:AV) (I0:IvP) (m0:Nat) (K R:KvP) (s:Hq):Prop:=
 oK (qAV t51 (.bool true) t54) λV36=>qAh Tryz.prog X SS 131 [V36,(.int .i64 2),(.str ⟨#[108,105,110,107,115]⟩),i4] (λV37 S38=>oK (qAS 1 x3 i4) λV39=>oK (rd1 S38 V39) λV40=>qAh Tryz.prog X SS 131 [V40,(.int .i64 11),(.str ⟨#[108,105,110,107,115]⟩),i4] (λV41 S42=>oK (qAC .add t22 (.int .i64 1)) λV43=>∃ m',m' < m0∧I0 [V43] S42 m') R S38) R s
def qIf (X:Td)(x3 i4 l5 t22 t39 t47:AV) (I0:IvP) (m0:Nat) (K R:KvP) (s:Hq):Prop:=
 oK (qAV t39 t47 (.bool false)) λV34=>oK (qAq .not V34) λV35=>qAM V35
 (qIt X x3 i4 t22 V35 .undef I0 m0 K R s)
 (oK (qAE 2 l5) λV44=>oK (rd1 s V44) λV45=>wC Tryz.prog X 132 [V45,(.int .i64 1),(.int .i64 1000)] (λV46 S47=>qIt X x3 i4 t22 V35 V46 I0 m0 K R S47) s)
def qIz (X:Td)(t2 x3 i4 l5 t22 t32 t37:AV) (I0:IvP) (m0:Nat) (K R:KvP) (s:Hq):Prop:=
 oK (qAV t32 t37 (.bool false)) λV33=>qAM V33
 (oK (qAE 1 l5) λV48=>oK (rd1 s V48) λV49=>oK (qAE 0 t2) λV50=>oK (rd1 s V50) λV51=>oK (qAE 1 t2) λV52=>oK (rd1 s V52) λV53=>oK (qAC .add V51 V53) λV54=>oK (qAC .lss V49 V54) λV55=>qIf X x3 i4 l5 t22 V33 V55 I0 m0 K R s)
 (qIf X x3 i4 l5 t22 V33 .undef I0 m0 K R s)
def qOl (X:Td)(t2 x3 t20 t21 t22:AV) (I0:IvP) (m0:Nat) (K R:KvP) (s:Hq):Prop:=
 oK (qAC .lss t22 t21) λV21=>qAM V21
 (oK (qAS 3 t20 t22) λV22=>oK (rdN s 3 V22) λV23=>newK 110 [(.int .i64 0),(.int .i64 0),(.int .i64 0)] (λB24 S25=>oK (qAv S25 3 (.ptr B24 0) (.agg V23)) λS26=>oK (qAE 0 (.ptr B24 0)) λV27=>oK (rd1 S26 V27) λV28=>oK (qAE 0 t2) λV29=>oK (rd1 S26 V29) λV30=>wC Tryz.prog X 95 [V28,V30] (λV31 S32=>qAM V31
 (oK (qAE 1 (.ptr B24 0)) λV56=>oK (rd1 S32 V56) λV57=>oK (qAE 0 t2) λV58=>oK (rd1 S32 V58) λV59=>oK (qAC .geq V57 V59) λV60=>qIz X t2 x3 t22 (.ptr B24 0) t22 V31 V60 I0 m0 K R S32)
 (qIz X t2 x3 t22 (.ptr B24 0) t22 V31 .undef I0 m0 K R S32)) S26) s)
 (K (.tup []) s)
def zAA5 (X:Td)(c0:AV) (K R:KvP) (s:Hq):Prop:=
 oK (qBp c0) λV0=>oK (qAE 0 V0) λV1=>oK (rdN s 19 V1) λV2=>newK 68 zR1 (λB3 S4=>oK (qAv S4 19 (.ptr B3 0) (.agg V2)) λS5=>oK (qAE 2 (.ptr B3 0)) λV6=>oK (rd1 S5 V6) λV7=>oK (qAQ V7) λV8=>oK (qAC .gtr (.int .i64 V8) (.int .i64 128)) λV10=>qAh Tryz.prog X SS 131 [V10,(.int .i64 7),(.str ⟨#[108,105,110,107,115]⟩),(.int .i64 128)] (λV11 S12=>oK (qAE 2 (.ptr B3 0)) λV13=>oK (rd1 S12 V13) λV14=>wC Tryz.prog X 133 [V14,(.fn (.func 134) [] [])] (λV15 S16=>oK (qAE 2 (.ptr B3 0)) λV17=>oK (rd1 S16 V17) λV18=>oK (qAQ V18) λV19=>∃ I0:IvP,(∃ m,I0 [(.int .i64 0)] S16 m)∧∀ (f:Env) (s:Hq) (m0:Nat),I0 [f 22] s m0→
 qOl X (.ptr B3 0) V15 V18 (.int .i64 V19) (f 22) I0 m0 K R s) S12) R S5) s
def qR7:Nat→List Nat:=λk=>cond (Nat.beq k 8) [22] ([])
theorem qTQ {c0:AV} {K R:KvP} {s:Hq} (h:zAA5 X0 c0 K R s):qAh Tryz.prog X0 SS 109 [c0] K R s:=
 qCZ qKy qR7 Tryz.func109 (by kernel_rfl:Tryz.f109.body=some (qBl Tryz.f109)) (by kernel_rfl) (by kernel_rfl) (Eq.mpr (by kernel_rfl) h)
def qGA (X:Td)(i5 t22 t46 t50:AV) (I0:IvP) (m0:Nat) (K R:KvP) (s:Hq):Prop:=
 oK (qAV t46 (.bool true) t50) λV30=>qAh Tryz.prog X SS 131 [V30,(.int .i64 11),(.str ⟨#[116,101,110,97,110,116,115]⟩),i5] (λV31 S32=>oK (qAC .add t22 (.int .i64 1)) λV33=>∃ m',m' < m0∧I0 [V33] S32 m') R s
def qGL (X:Td)(x3 x4 i5 t22 t35 t38:AV) (I0:IvP) (m0:Nat) (K R:KvP) (s:Hq):Prop:=
 oK (qAV t35 (.bool true) t38) λV25=>qAh Tryz.prog X SS 131 [V25,(.int .i64 2),(.str ⟨#[116,101,110,97,110,116,115]⟩),i5] (λV26 S27=>oK (qAS 1 x3 i5) λV28=>oK (rd1 S27 V28) λV29=>qAM V29
 (qGA X i5 t22 V29 .undef I0 m0 K R S27)
 (oK (qAS 1 x4 i5) λV34=>oK (rd1 S27 V34) λV35=>qGA X i5 t22 V29 V35 I0 m0 K R S27)) R s
def qGG (X:Td)(x3 x4 i5 t6 t22 t30 t33:AV) (I0:IvP) (m0:Nat) (K R:KvP) (s:Hq):Prop:=
 oK (qAV t30 (.bool true) t33) λV24=>qAM V24
 (qGL X x3 x4 i5 t22 V24 .undef I0 m0 K R s)
 (oK (qAE 1 t6) λV36=>oK (rd1 s V36) λV37=>oK (negB false (eqV 0 true V37 (.int .u32 0))) λV38=>qGL X x3 x4 i5 t22 V24 V38 I0 m0 K R s)
def qLg (X:Td)(x3 x4 t20 t21 t22:AV) (I0:IvP) (m0:Nat) (K R:KvP) (s:Hq):Prop:=
 oK (qAC .lss t22 t21) λV15=>qAM V15
 (oK (qAS 2 t20 t22) λV16=>oK (rdN s 2 V16) λV17=>newK 112 [(.int .u32 0),(.int .u32 0)] (λB18 S19=>oK (qAv S19 2 (.ptr B18 0) (.agg V17)) λS20=>oK (qAE 0 (.ptr B18 0)) λV21=>oK (rd1 S20 V21) λV22=>oK (qAC .lss V22 (.int .u32 1)) λV23=>qAM V23
 (qGG X x3 x4 t22 (.ptr B18 0) t22 V23 .undef I0 m0 K R S20)
 (oK (qAE 0 (.ptr B18 0)) λV39=>oK (rd1 S20 V39) λV40=>oK (qAC .gtr V40 (.int .u32 16777215)) λV41=>qGG X x3 x4 t22 (.ptr B18 0) t22 V23 V41 I0 m0 K R S20)) s)
 (K (.tup []) s)
def qPs (X:Td)(c0:AV) (K R:KvP) (s:Hq):Prop:=
 oK (qBp c0) λV0=>oK (qAE 0 V0) λV1=>oK (qAE 3 V1) λV2=>oK (rd1 s V2) λV3=>oK (qAQ V3) λV4=>oK (qAC .gtr (.int .i64 V4) (.int .i64 16)) λV6=>qAh Tryz.prog X SS 131 [V6,(.int .i64 7),(.str ⟨#[116,101,110,97,110,116,115]⟩),(.int .i64 16)] (λV7 S8=>wC Tryz.prog X 135 [V3,(.fn (.func 136) [] [])] (λV9 S10=>wC Tryz.prog X 135 [V3,(.fn (.func 137) [] [])] (λV11 S12=>oK (qAQ V3) λV13=>∃ I0:IvP,(∃ m,I0 [(.int .i64 0)] S12 m)∧∀ (f:Env) (s:Hq) (m0:Nat),I0 [f 22] s m0→
 qLg X V9 V11 V3 (.int .i64 V13) (f 22) I0 m0 K R s) S10) S8) R s
def qPJ:Nat→List Nat:=λk=>cond (Nat.beq k 8) [22] ([])
theorem qRW {c0:AV} {K R:KvP} {s:Hq} (h:qPs X0 c0 K R s):qAh Tryz.prog X0 SS 110 [c0] K R s:=
 qCZ qKy qPJ Tryz.func110 (by kernel_rfl:Tryz.f110.body=some (qBl Tryz.f110)) (by kernel_rfl) (by kernel_rfl) (Eq.mpr (by kernel_rfl) h)
def qGN (X:Td)(t28:AV) (I0:IvP) (m0:Nat) (K R:KvP) (s:Hq):Prop:=
 oK (qAC .add t28 (.int .i64 1)) λV26=>∃ m',m' < m0∧I0 [V26] s m'
def qGQ (X:Td)(t2 i5 b6 t28 t98 t102:AV) (I0:IvP) (m0:Nat) (K R:KvP) (s:Hq):Prop:=
 oK (qAV t98 (.bool true) t102) λV67=>qAh Tryz.prog X SS 131 [V67,(.int .i64 3),(.str ⟨#[100,111,109,97,105,110,115]⟩),i5] (λV68 S69=>oK (qAE 3 b6) λV70=>oK (rdN S69 2 V70) λV71=>oK (qAE 5 b6) λV72=>oK (rd1 S69 V72) λV73=>wC Tryz.prog X 143 [(.agg V71),V73] (λV74 S75=>oK (qAq .not V74) λV76=>qAh Tryz.prog X SS 131 [V76,(.int .i64 3),(.str ⟨#[100,111,109,97,105,110,115]⟩),i5] (λV77 S78=>oK (qAE 4 t2) λV79=>oK (rd1 S78 V79) λV80=>oK (qCA 6 V80 none (some i5) none) λV81=>wC Tryz.prog X 144 [V81,(.fn (.func 145) [] [b6])] (λV82 S83=>qAh Tryz.prog X SS 131 [V82,(.int .i64 11),(.str ⟨#[100,111,109,97,105,110,115]⟩),i5] (λV84 S85=>qGN X t28 I0 m0 K R S85) R S83) S78) R S75) S69) R s
def qGM (X:Td)(t2 i5 b6 t28 t75 t80:AV) (I0:IvP) (m0:Nat) (K R:KvP) (s:Hq):Prop:=
 oK (qAV t75 (.bool true) t80) λV50=>qAh Tryz.prog X SS 131 [V50,(.int .i64 11),(.str ⟨#[100,111,109,97,105,110,115]⟩),i5] (λV51 S52=>oK (qAE 5 b6) λV53=>oK (rd1 S52 V53) λV54=>oK (negB false (eqV 0 true V54 (.int .u32 0))) λV55=>qAM V55
 (oK (qAE 3 b6) λV56=>oK (rdN S52 2 V56) λV57=>oK (qBi [(.int .u32 0),(.int .i64 0)] []) λC58=>oK (negB true (qFb Tryz.prog 41 (.agg V57) (.agg C58))) λV59=>qAh Tryz.prog X SS 131 [V59,(.int .i64 3),(.str ⟨#[100,111,109,97,105,110,115]⟩),i5] (λV60 S61=>qGN X t28 I0 m0 K R S61) R S52)
 (oK (qAE 3 b6) λV62=>oK (rdN S52 2 V62) λV63=>wC Tryz.prog X 142 [(.agg V63)] (λV64 S65=>oK (qAq .not V64) λV66=>qAM V66
 (qGQ X t2 i5 b6 t28 V66 .undef I0 m0 K R S65)
 (oK (qAE 3 b6) λV86=>oK (qAE 1 V86) λV87=>oK (rd1 S65 V87) λV88=>wC Tryz.prog X 132 [V88,(.int .i64 8),(.int .i64 30)] (λV89 S90=>qGQ X t2 i5 b6 t28 V66 V89 I0 m0 K R S90) S65)) S52)) R s
def qGS (X:Td)(t2 i5 b6 t28 t68 t73:AV) (I0:IvP) (m0:Nat) (K R:KvP) (s:Hq):Prop:=
 oK (qAV t68 (.bool true) t73) λV49=>qAM V49
 (qGM X t2 i5 b6 t28 V49 .undef I0 m0 K R s)
 (oK (qAE 3 t2) λV91=>oK (rd1 s V91) λV92=>oK (qAE 2 b6) λV93=>oK (rd1 s V93) λV94=>wC Tryz.prog X 141 [V92,(.fn (.func 137) [] []),V94] (λV95 S96=>qGM X t2 i5 b6 t28 V49 V95 I0 m0 K R S96) s)
def qGC (X:Td)(t2 i5 b6 t28 t62 t66:AV) (I0:IvP) (m0:Nat) (K R:KvP) (s:Hq):Prop:=
 oK (qAV t62 (.bool true) t66) λV48=>qAM V48
 (qGS X t2 i5 b6 t28 V48 .undef I0 m0 K R s)
 (oK (qAE 3 t2) λV97=>oK (rd1 s V97) λV98=>oK (qAE 1 b6) λV99=>oK (rd1 s V99) λV100=>wC Tryz.prog X 141 [V98,(.fn (.func 136) [] []),V100] (λV101 S102=>qGS X t2 i5 b6 t28 V48 V101 I0 m0 K R S102) s)
def qGO (X:Td)(t2 x3 x4 i5 b6 t28 t50 t53:AV) (I0:IvP) (m0:Nat) (K R:KvP) (s:Hq):Prop:=
 oK (qAV t50 (.bool true) t53) λV43=>qAh Tryz.prog X SS 131 [V43,(.int .i64 2),(.str ⟨#[100,111,109,97,105,110,115]⟩),i5] (λV44 S45=>oK (qAS 1 x3 i5) λV46=>oK (rd1 S45 V46) λV47=>qAM V47
 (qGC X t2 i5 b6 t28 V47 .undef I0 m0 K R S45)
 (oK (qAS 1 x4 i5) λV103=>oK (rd1 S45 V103) λV104=>qGC X t2 i5 b6 t28 V47 V104 I0 m0 K R S45)) R s
def qGI (X:Td)(t2 x3 x4 i5 b6 t28 t45 t48:AV) (I0:IvP) (m0:Nat) (K R:KvP) (s:Hq):Prop:=
 oK (qAV t45 (.bool true) t48) λV42=>qAM V42
 (qGO X t2 x3 x4 i5 b6 t28 V42 .undef I0 m0 K R s)
 (oK (qAE 2 b6) λV105=>oK (rd1 s V105) λV106=>oK (negB false (eqV 0 true V106 (.int .u32 0))) λV107=>qGO X t2 x3 x4 i5 b6 t28 V42 V107 I0 m0 K R s)
def qGB (X:Td)(t2 x3 x4 i5 b6 t28 t40 t43:AV) (I0:IvP) (m0:Nat) (K R:KvP) (s:Hq):Prop:=
 oK (qAV t40 (.bool true) t43) λV41=>qAM V41
 (qGI X t2 x3 x4 i5 b6 t28 V41 .undef I0 m0 K R s)
 (oK (qAE 1 b6) λV108=>oK (rd1 s V108) λV109=>oK (qAC .gtr V109 (.int .u32 16777215)) λV110=>qGI X t2 x3 x4 i5 b6 t28 V41 V110 I0 m0 K R s)
def qLP (X:Td)(t2 x3 x4 t26 t27 t28:AV) (I0:IvP) (m0:Nat) (K R:KvP) (s:Hq):Prop:=
 oK (qAC .lss t28 t27) λV25=>qAM V25
 (oK (qAS 6 t26 t28) λV27=>oK (rdN s 6 V27) λV28=>newK 114 [(.int .i64 0),(.int .u32 0),(.int .u32 0),(.int .u32 0),(.int .i64 0),(.int .u32 0)] (λB29 S30=>oK (qAv S30 6 (.ptr B29 0) (.agg V28)) λS31=>oK (qAE 0 (.ptr B29 0)) λV32=>oK (rd1 S31 V32) λV33=>oK (qAE 3 t2) λV34=>oK (rd1 S31 V34) λV35=>oK (qAQ V35) λV36=>wC Tryz.prog X 95 [V33,(.int .i64 V36)] (λV38 S39=>oK (qAq .not V38) λV40=>qAM V40
 (qGB X t2 x3 x4 t28 (.ptr B29 0) t28 V40 .undef I0 m0 K R S39)
 (oK (qAE 1 (.ptr B29 0)) λV111=>oK (rd1 S39 V111) λV112=>oK (qAC .lss V112 (.int .u32 1)) λV113=>qGB X t2 x3 x4 t28 (.ptr B29 0) t28 V40 V113 I0 m0 K R S39)) S31) s)
 (K (.tup []) s)
def qW6 (X:Td)(c0:AV) (K R:KvP) (s:Hq):Prop:=
 oK (qBp c0) λV0=>oK (qAE 0 V0) λV1=>oK (rdN s 19 V1) λV2=>newK 68 zR1 (λB3 S4=>oK (qAv S4 19 (.ptr B3 0) (.agg V2)) λS5=>oK (qAE 4 (.ptr B3 0)) λV6=>oK (rd1 S5 V6) λV7=>oK (qAQ V7) λV8=>oK (qAC .gtr (.int .i64 V8) (.int .i64 32)) λV10=>qAh Tryz.prog X SS 131 [V10,(.int .i64 7),(.str ⟨#[100,111,109,97,105,110,115]⟩),(.int .i64 32)] (λV11 S12=>oK (qAE 4 (.ptr B3 0)) λV13=>oK (rd1 S12 V13) λV14=>wC Tryz.prog X 138 [V14,(.fn (.func 139) [] [])] (λV15 S16=>(∀ b,S12 b≠none→S12 b=none→S16 b=none)→
 oK (qAE 4 (.ptr B3 0)) λV17=>oK (rd1 (cutH [(S12,(add S12 S16))] (add S12 S16)) V17) λV18=>wC Tryz.prog X 138 [V18,(.fn (.func 140) [] [])] (λV19 S20=>oK (qAE 4 (.ptr B3 0)) λV21=>oK (rd1 S20 V21) λV22=>oK (qAQ V22) λV23=>∃ I0:IvP,(∃ m,I0 [(.int .i64 0)] S20 m)∧∀ (f:Env) (s:Hq) (m0:Nat),I0 [f 28] s m0→
 qLP X (.ptr B3 0) V15 V19 V22 (.int .i64 V23) (f 28) I0 m0 K R s) (add S12 S16)) (frz S12)) R S5) s
def qPF:Nat→List Nat:=λk=>cond (Nat.beq k 8) [28] ([])
theorem qRT {c0:AV} {K R:KvP} {s:Hq} (h:qW6 X0 c0 K R s):qAh Tryz.prog X0 SS 111 [c0] K R s:=
 qCZ qKy qPF Tryz.func111 (by kernel_rfl:Tryz.f111.body=some (qBl Tryz.f111)) (by kernel_rfl) (by kernel_rfl) (Eq.mpr (by kernel_rfl) h)
def qKb (X:Td)(x3 i4 t21 t64 t65 t66:AV) (I4:IvP) (m4:Nat) (I0:IvP) (m0:Nat) (K R:KvP) (s:Hq):Prop:=
 oK (qAC .lss t66 t65) λV52=>qAM V52
 (oK (qAS 1 t64 t66) λV53=>oK (rd1 s V53) λV54=>oK (qC2 32 1 x3 V54) λV55=>oK (rd1 s V55) λV56=>oK (qAC .add V56 (.int .i64 1)) λV57=>oK (qC2 32 1 x3 V54) λV58=>oK (wr1 s V58 V57) λS59=>oK (qC2 32 1 x3 V54) λV60=>oK (rd1 S59 V60) λV61=>oK (qAC .gtr V61 (.int .i64 32)) λV62=>qAh Tryz.prog X SS 131 [V62,(.int .i64 7),(.str ⟨#[115,101,103,109,101,110,116,115]⟩),i4] (λV63 S64=>oK (qAC .add t66 (.int .i64 1)) λV65=>∃ m',m' < m4∧I4 [V65] S64 m') R S59)
 (oK (qAC .add t21 (.int .i64 1)) λV66=>∃ m',m' < m0∧I0 [V66] s m')
def qFM (X:Td)(x3 i4 t5 t21 t55 t59:AV) (I0:IvP) (m0:Nat) (K R:KvP) (s:Hq):Prop:=
 oK (qAV t55 (.bool true) t59) λV45=>qAh Tryz.prog X SS 131 [V45,(.int .i64 10),(.str ⟨#[115,101,103,109,101,110,116,115]⟩),i4] (λV46 S47=>oK (qAE 0 t5) λV48=>oK (rd1 S47 V48) λV49=>oK (qAQ V49) λV50=>∃ I4:IvP,(∃ m,I4 [(.int .i64 0)] S47 m)∧∀ (f:Env) (s:Hq) (m4:Nat),I4 [f 66] s m4→
 qKb X x3 i4 t21 V49 (.int .i64 V50) (f 66) I4 m4 I0 m0 K R s) R s
def qFP (X:Td)(x3 i4 t5 t21 t42 t46:AV) (I0:IvP) (m0:Nat) (K R:KvP) (s:Hq):Prop:=
 oK (qAV t42 (.bool true) t46) λV37=>qAh Tryz.prog X SS 131 [V37,(.int .i64 2),(.str ⟨#[115,101,103,109,101,110,116,115]⟩),i4] (λV38 S39=>oK (qAE 0 t5) λV40=>oK (rd1 S39 V40) λV41=>wC Tryz.prog X 150 [V41] (λV42 S43=>oK (qAq .not V42) λV44=>qAM V44
 (qFM X x3 i4 t5 t21 V44 .undef I0 m0 K R S43)
 (oK (qAE 1 t5) λV67=>oK (rd1 S43 V67) λV68=>wC Tryz.prog X 150 [V68] (λV69 S70=>oK (qAq .not V69) λV71=>qFM X x3 i4 t5 t21 V44 V71 I0 m0 K R S70) S43)) S39) R s
def qFS (X:Td)(t2 x3 i4 t5 t21 t30 t34:AV) (I0:IvP) (m0:Nat) (K R:KvP) (s:Hq):Prop:=
 oK (qAV t30 (.bool true) t34) λV30=>qAh Tryz.prog X SS 131 [V30,(.int .i64 3),(.str ⟨#[115,101,103,109,101,110,116,115]⟩),i4] (λV31 S32=>oK (qAE 0 t5) λV33=>oK (rd1 S32 V33) λV34=>wC Tryz.prog X 147 [V34,(.fn (.func 148) [] [t2])] (λV35 S36=>qAM V35
 (qFP X x3 i4 t5 t21 V35 .undef I0 m0 K R S36)
 (oK (qAE 1 t5) λV72=>oK (rd1 S36 V72) λV73=>wC Tryz.prog X 147 [V73,(.fn (.func 149) [] [t2])] (λV74 S75=>qFP X x3 i4 t5 t21 V35 V74 I0 m0 K R S75) S36)) S32) R s
def qKd (X:Td)(t2 x3 t19 t20 t21:AV) (I0:IvP) (m0:Nat) (K R:KvP) (s:Hq):Prop:=
 oK (qAC .lss t21 t20) λV19=>qAM V19
 (oK (qAS 2 t19 t21) λV20=>oK (rdN s 2 V20) λV21=>newK 93 [.nilslc,.nilslc] (λB22 S23=>oK (qAv S23 2 (.ptr B22 0) (.agg V21)) λS24=>oK (qAE 0 (.ptr B22 0)) λV25=>oK (rd1 S24 V25) λV26=>oK (qAQ V26) λV27=>oK (negB false (eqV 0 true (.int .i64 V27) (.int .i64 0))) λV29=>qAM V29
 (qFS X t2 x3 t21 (.ptr B22 0) t21 V29 .undef I0 m0 K R S24)
 (oK (qAE 1 (.ptr B22 0)) λV76=>oK (rd1 S24 V76) λV77=>oK (qAQ V77) λV78=>oK (negB false (eqV 0 true (.int .i64 V78) (.int .i64 0))) λV80=>qFS X t2 x3 t21 (.ptr B22 0) t21 V29 V80 I0 m0 K R S24)) s)
 (K (.tup []) s)
def qUp (X:Td)(c0:AV) (K R:KvP) (s:Hq):Prop:=
 oK (qBp c0) λV0=>oK (qAE 0 V0) λV1=>oK (rdN s 19 V1) λV2=>newK 68 zR1 (λB3 S4=>oK (qAv S4 19 (.ptr B3 0) (.agg V2)) λS5=>oK (qAE 5 (.ptr B3 0)) λV6=>oK (rd1 S5 V6) λV7=>oK (qAQ V7) λV8=>oK (qAC .gtr (.int .i64 V8) (.int .i64 64)) λV10=>qAh Tryz.prog X SS 131 [V10,(.int .i64 7),(.str ⟨#[115,101,103,109,101,110,116,115]⟩),(.int .i64 64)] (λV11 S12=>newK 217 [(.int .i64 0),(.int .i64 0),(.int .i64 0),(.int .i64 0),(.int .i64 0),(.int .i64 0),(.int .i64 0),(.int .i64 0),(.int .i64 0),(.int .i64 0),(.int .i64 0),(.int .i64 0),(.int .i64 0),(.int .i64 0),(.int .i64 0),(.int .i64 0),(.int .i64 0),(.int .i64 0),(.int .i64 0),(.int .i64 0),(.int .i64 0),(.int .i64 0),(.int .i64 0),(.int .i64 0),(.int .i64 0),(.int .i64 0),(.int .i64 0),(.int .i64 0),(.int .i64 0),(.int .i64 0),(.int .i64 0),(.int .i64 0)] (λB13 S14=>oK (qAE 5 (.ptr B3 0)) λV15=>oK (rd1 S14 V15) λV16=>oK (qAQ V16) λV17=>∃ I0:IvP,(∃ m,I0 [(.int .i64 0)] S14 m)∧∀ (f:Env) (s:Hq) (m0:Nat),I0 [f 21] s m0→
 qKd X (.ptr B3 0) (.ptr B13 0) V16 (.int .i64 V17) (f 21) I0 m0 K R s) S12) R S5) s
def qPA:Nat→List Nat:=λk=>cond (Nat.beq k 8) [21] (cond (Nat.beq k 22) [66] ([]))
theorem qPR {c0:AV} {K R:KvP} {s:Hq} (h:qUp X0 c0 K R s):qAh Tryz.prog X0 SS 112 [c0] K R s:=
 qCZ qKy qPA Tryz.func112 (by kernel_rfl:Tryz.f112.body=some (qBl Tryz.f112)) (by kernel_rfl) (by kernel_rfl) (Eq.mpr (by kernel_rfl) h)
def qIj (X:Td)(i5 t28 t115 t119 t123:AV) (I0:IvP) (m0:Nat) (K R:KvP) (s:Hq):Prop:=
 oK (qAV t119 t123 (.bool false)) λV78=>oK (qAV t115 (.bool true) V78) λV79=>qAh Tryz.prog X SS 131 [V79,(.int .i64 11),(.str ⟨#[104,111,115,116,115]⟩),i5] (λV80 S81=>oK (qAC .add t28 (.int .i64 1)) λV82=>∃ m',m' < m0∧I0 [V82] S81 m') R s
def qI0 (X:Td)(x3 x4 i5 h6 t28 t97 t107:AV) (I0:IvP) (m0:Nat) (K R:KvP) (s:Hq):Prop:=
 oK (qAV t97 (.bool true) t107) λV66=>qAh Tryz.prog X SS 131 [V66,(.int .i64 3),(.str ⟨#[104,111,115,116,115]⟩),i5] (λV67 S68=>oK (qAS 1 x3 i5) λV69=>oK (rd1 S68 V69) λV70=>qAM V70
 (oK (qAV V70 (.bool true) .undef) λV71=>qAh Tryz.prog X SS 131 [V71,(.int .i64 11),(.str ⟨#[104,111,115,116,115]⟩),i5] (λV72 S73=>oK (qAC .add t28 (.int .i64 1)) λV74=>∃ m',m' < m0∧I0 [V74] S73 m') R S68)
 (oK (qAE 1 h6) λV75=>oK (rd1 S68 V75) λV76=>oK (negB true (eqV 0 true V76 (.int .u32 0))) λV77=>qAM V77
 (oK (qAS 1 x4 i5) λV83=>oK (rd1 S68 V83) λV84=>qIj X i5 t28 V70 V77 V84 I0 m0 K R S68)
 (qIj X i5 t28 V70 V77 .undef I0 m0 K R S68))) R s
def qIh (X:Td)(t2 x3 x4 i5 h6 t28 t94 t95:AV) (I0:IvP) (m0:Nat) (K R:KvP) (s:Hq):Prop:=
 oK (qAV t94 (.bool true) t95) λV65=>qAM V65
 (qI0 X x3 x4 i5 h6 t28 V65 .undef I0 m0 K R s)
 (oK (qAE 4 t2) λV85=>oK (rd1 s V85) λV86=>oK (qAE 2 h6) λV87=>oK (rd1 s V87) λV88=>oK (qAS 6 V86 V88) λV89=>oK (rdN s 6 V89) λV90=>oK (qAE 1 h6) λV91=>oK (rd1 s V91) λV92=>wC Tryz.prog X 157 [(.agg V90),V92] (λV93 S94=>oK (qAq .not V93) λV95=>qI0 X x3 x4 i5 h6 t28 V65 V95 I0 m0 K R S94) s)
def qIn (X:Td)(t2 x3 x4 i5 h6 t28 t69 t80:AV) (I0:IvP) (m0:Nat) (K R:KvP) (s:Hq):Prop:=
 oK (qAV t69 t80 (.bool false)) λV53=>qAh Tryz.prog X SS 131 [V53,(.int .i64 8),(.str ⟨#[104,111,115,116,115]⟩),i5] (λV54 S55=>oK (qAE 0 h6) λV56=>oK (rd1 S55 V56) λV57=>wC Tryz.prog X 156 [V57] (λV58 S59=>oK (qAd V58 0) λV60=>oK (qAd V58 1) λV61=>oK (qAE 0 h6) λV62=>oK (rd1 S59 V62) λV63=>oK (negB false (eqV 0 true V63 (.int .u64 1577058561))) λV64=>qAM V64
 (qIh X t2 x3 x4 i5 h6 t28 V64 .undef I0 m0 K R S59)
 (qIh X t2 x3 x4 i5 h6 t28 V64 V61 I0 m0 K R S59)) S55) R s
def qIy (X:Td)(t2 x3 x4 i5 h6 t28 t55 t62:AV) (I0:IvP) (m0:Nat) (K R:KvP) (s:Hq):Prop:=
 oK (qAV t55 (.bool true) t62) λV47=>qAh Tryz.prog X SS 131 [V47,(.int .i64 2),(.str ⟨#[104,111,115,116,115]⟩),i5] (λV48 S49=>oK (qAE 3 h6) λV50=>oK (rd1 S49 V50) λV51=>oK (negB true (eqV 0 true V51 (.int .i64 (-1)))) λV52=>qAM V52
 (oK (qAE 5 t2) λV96=>oK (rd1 S49 V96) λV97=>oK (qAE 3 h6) λV98=>oK (rd1 S49 V98) λV99=>oK (qAS 2 V97 V99) λV100=>oK (qAE 1 V100) λV101=>oK (rd1 S49 V101) λV102=>oK (qAE 2 h6) λV103=>oK (rd1 S49 V103) λV104=>wC Tryz.prog X 155 [V102,V104] (λV105 S106=>oK (qAq .not V105) λV107=>qIn X t2 x3 x4 i5 h6 t28 V52 V107 I0 m0 K R S106) S49)
 (qIn X t2 x3 x4 i5 h6 t28 V52 .undef I0 m0 K R S49)) R s
def qIF (X:Td)(t2 x3 x4 i5 h6 t28 t41 t44:AV) (I0:IvP) (m0:Nat) (K R:KvP) (s:Hq):Prop:=
 oK (qAV t41 (.bool true) t44) λV35=>qAh Tryz.prog X SS 131 [V35,(.int .i64 2),(.str ⟨#[104,111,115,116,115]⟩),i5] (λV36 S37=>oK (qAE 2 h6) λV38=>oK (rd1 S37 V38) λV39=>oK (qAE 4 t2) λV40=>oK (rd1 S37 V40) λV41=>oK (qAQ V41) λV42=>wC Tryz.prog X 95 [V39,(.int .i64 V42)] (λV44 S45=>oK (qAq .not V44) λV46=>qAM V46
 (qIy X t2 x3 x4 i5 h6 t28 V46 .undef I0 m0 K R S45)
 (oK (qAE 3 h6) λV108=>oK (rd1 S45 V108) λV109=>oK (qAE 5 t2) λV110=>oK (rd1 S45 V110) λV111=>oK (qAQ V111) λV112=>oK (qAC .sub (.int .i64 V112) (.int .i64 1)) λV114=>wC Tryz.prog X 132 [V109,(.int .i64 (-1)),V114] (λV115 S116=>qIy X t2 x3 x4 i5 h6 t28 V46 V115 I0 m0 K R S116) S45)) S37) R s
def qIY (X:Td)(t2 x3 x4 i5 h6 t28 t36 t39:AV) (I0:IvP) (m0:Nat) (K R:KvP) (s:Hq):Prop:=
 oK (qAV t36 (.bool true) t39) λV34=>qAM V34
 (qIF X t2 x3 x4 i5 h6 t28 V34 .undef I0 m0 K R s)
 (oK (qAE 0 h6) λV117=>oK (rd1 s V117) λV118=>wC Tryz.prog X 154 [V118] (λV119 S120=>qIF X t2 x3 x4 i5 h6 t28 V34 V119 I0 m0 K R S120) s)
def qNm (X:Td)(t2 x3 x4 t26 t27 t28:AV) (I0:IvP) (m0:Nat) (K R:KvP) (s:Hq):Prop:=
 oK (qAC .lss t28 t27) λV25=>qAM V25
 (oK (qAS 4 t26 t28) λV26=>oK (rdN s 4 V26) λV27=>newK 136 [(.int .u64 0),(.int .u32 0),(.int .i64 0),(.int .i64 0)] (λB28 S29=>oK (qAv S29 4 (.ptr B28 0) (.agg V27)) λS30=>oK (qAE 0 (.ptr B28 0)) λV31=>oK (rd1 S30 V31) λV32=>oK (negB false (eqV 0 true V32 (.int .u64 0))) λV33=>qAM V33
 (qIY X t2 x3 x4 t28 (.ptr B28 0) t28 V33 .undef I0 m0 K R S30)
 (oK (qAE 0 (.ptr B28 0)) λV121=>oK (rd1 S30 V121) λV122=>oK (qAC .gtr V122 (.int .u64 281474976710655)) λV123=>qIY X t2 x3 x4 t28 (.ptr B28 0) t28 V33 V123 I0 m0 K R S30)) s)
 (K (.tup []) s)
def zAAL (X:Td)(c0:AV) (K R:KvP) (s:Hq):Prop:=
 oK (qBp c0) λV0=>oK (qAE 0 V0) λV1=>oK (rdN s 19 V1) λV2=>newK 68 zR1 (λB3 S4=>oK (qAv S4 19 (.ptr B3 0) (.agg V2)) λS5=>oK (qAE 6 (.ptr B3 0)) λV6=>oK (rd1 S5 V6) λV7=>oK (qAQ V7) λV8=>oK (qAC .gtr (.int .i64 V8) (.int .i64 128)) λV10=>qAh Tryz.prog X SS 131 [V10,(.int .i64 7),(.str ⟨#[104,111,115,116,115]⟩),(.int .i64 128)] (λV11 S12=>oK (qAE 6 (.ptr B3 0)) λV13=>oK (rd1 S12 V13) λV14=>wC Tryz.prog X 151 [V14,(.fn (.func 152) [] [])] (λV15 S16=>oK (qAE 6 (.ptr B3 0)) λV17=>oK (rd1 S16 V17) λV18=>wC Tryz.prog X 151 [V18,(.fn (.func 153) [] [])] (λV19 S20=>oK (qAE 6 (.ptr B3 0)) λV21=>oK (rd1 S20 V21) λV22=>oK (qAQ V22) λV23=>∃ I0:IvP,(∃ m,I0 [(.int .i64 0)] S20 m)∧∀ (f:Env) (s:Hq) (m0:Nat),I0 [f 28] s m0→
 qNm X (.ptr B3 0) V15 V19 V22 (.int .i64 V23) (f 28) I0 m0 K R s) S16) S12) R S5) s
def qR1:Nat→List Nat:=λk=>cond (Nat.beq k 10) [28] ([])
theorem qUX {c0:AV} {K R:KvP} {s:Hq} (h:zAAL X0 c0 K R s):qAh Tryz.prog X0 SS 113 [c0] K R s:=
 qCZ qKy qR1 Tryz.func113 (by kernel_rfl:Tryz.f113.body=some (qBl Tryz.f113)) (by kernel_rfl) (by kernel_rfl) (Eq.mpr (by kernel_rfl) h)
def qIa (X:Td)(x4 i5 t24 t52 t56:AV) (I0:IvP) (m0:Nat) (K R:KvP) (s:Hq):Prop:=
 oK (qAV t52 (.bool true) t56) λV44=>qAh Tryz.prog X SS 131 [V44,(.int .i64 3),(.str ⟨#[108,101,97,107,115]⟩),i5] (λV45 S46=>oK (qAS 1 x4 i5) λV47=>oK (rd1 S46 V47) λV48=>qAh Tryz.prog X SS 131 [V48,(.int .i64 11),(.str ⟨#[108,101,97,107,115]⟩),i5] (λV49 S50=>oK (qAC .add t24 (.int .i64 1)) λV51=>∃ m',m' < m0∧I0 [V51] S50 m') R S46) R s
def qIG (X:Td)(x4 i5 l6 t24 t36 t43:AV) (I0:IvP) (m0:Nat) (K R:KvP) (s:Hq):Prop:=
 oK (qAV t36 (.bool true) t43) λV36=>qAh Tryz.prog X SS 131 [V36,(.int .i64 2),(.str ⟨#[108,101,97,107,115]⟩),i5] (λV37 S38=>oK (qAE 0 l6) λV39=>oK (rd1 S38 V39) λV40=>oK (qAE 1 l6) λV41=>oK (rd1 S38 V41) λV42=>oK (negB false (eqV 0 false V40 V42)) λV43=>qAM V43
 (qIa X x4 i5 t24 V43 .undef I0 m0 K R S38)
 (oK (qAE 2 l6) λV52=>oK (rdN S38 2 V52) λV53=>wC Tryz.prog X 142 [(.agg V53)] (λV54 S55=>oK (qAq .not V54) λV56=>qIa X x4 i5 t24 V43 V56 I0 m0 K R S55) S38)) R s
def qOS (X:Td)(t2 x4 t22 t23 t24:AV) (I0:IvP) (m0:Nat) (K R:KvP) (s:Hq):Prop:=
 oK (qAC .lss t24 t23) λV21=>qAM V21
 (oK (qAS 4 t22 t24) λV22=>oK (rdN s 4 V22) λV23=>newK 140 [(.int .i64 0),(.int .i64 0),(.int .u32 0),(.int .i64 0)] (λB24 S25=>oK (qAv S25 4 (.ptr B24 0) (.agg V23)) λS26=>oK (qAE 0 (.ptr B24 0)) λV27=>oK (rd1 S26 V27) λV28=>oK (qAE 3 t2) λV29=>oK (rd1 S26 V29) λV30=>oK (qAQ V30) λV31=>wC Tryz.prog X 95 [V28,(.int .i64 V31)] (λV33 S34=>oK (qAq .not V33) λV35=>qAM V35
 (qIG X x4 t24 (.ptr B24 0) t24 V35 .undef I0 m0 K R S34)
 (oK (qAE 1 (.ptr B24 0)) λV57=>oK (rd1 S34 V57) λV58=>oK (qAE 3 t2) λV59=>oK (rd1 S34 V59) λV60=>oK (qAQ V60) λV61=>wC Tryz.prog X 95 [V58,(.int .i64 V61)] (λV63 S64=>oK (qAq .not V63) λV65=>qIG X x4 t24 (.ptr B24 0) t24 V35 V65 I0 m0 K R S64) S34)) S26) s)
 (K (.tup []) s)
def zAAY (X:Td)(c0:AV) (K R:KvP) (s:Hq):Prop:=
 oK (qBp c0) λV0=>oK (qAE 0 V0) λV1=>oK (rdN s 19 V1) λV2=>newK 68 zR1 (λB3 S4=>oK (qAv S4 19 (.ptr B3 0) (.agg V2)) λS5=>oK (qAE 7 (.ptr B3 0)) λV6=>oK (rd1 S5 V6) λV7=>oK (qAQ V7) λV8=>oK (qAC .gtr (.int .i64 V8) (.int .i64 256)) λV10=>qAh Tryz.prog X SS 131 [V10,(.int .i64 7),(.str ⟨#[108,101,97,107,115]⟩),(.int .i64 256)] (λV11 S12=>oK (qAE 7 (.ptr B3 0)) λV13=>oK (rd1 S12 V13) λV14=>wC Tryz.prog X 158 [V14,(.fn (.func 159) [] [])] (λV15 S16=>oK (qAE 7 (.ptr B3 0)) λV17=>oK (rd1 S16 V17) λV18=>oK (qAQ V18) λV19=>∃ I0:IvP,(∃ m,I0 [(.int .i64 0)] S16 m)∧∀ (f:Env) (s:Hq) (m0:Nat),I0 [f 24] s m0→
 qOS X (.ptr B3 0) V15 V18 (.int .i64 V19) (f 24) I0 m0 K R s) S12) R S5) s
def qSU:Nat→List Nat:=λk=>cond (Nat.beq k 10) [24] ([])
theorem qTu {c0:AV} {K R:KvP} {s:Hq} (h:zAAY X0 c0 K R s):qAh Tryz.prog X0 SS 114 [c0] K R s:=
 qCZ qKy qSU Tryz.func114 (by kernel_rfl:Tryz.f114.body=some (qBl Tryz.f114)) (by kernel_rfl) (by kernel_rfl) (Eq.mpr (by kernel_rfl) h)
def qCq (X:Td)(t0 t1 t2 v:AV) (K:KvP) (s:Hq):Prop:=
 oK (negB false (eqV 4 true v .nilIface)) λV0=>qAM V0
 (K (.tup []) s)
 (oK (zAAP 150 (some (.agg [(.int .i64 0),(.str ⟨#[]⟩),(.int .i64 0)])) true v) λV1=>oK (qAd V1 1) λV2=>oK (qAd V1 0) λV3=>qAM V2
 (newK 150 [(.int .i64 0),(.str ⟨#[]⟩),(.int .i64 0)] (λB4 S5=>oK (qAv S5 3 (.ptr B4 0) V3) λS6=>oK (qAE 0 (.ptr B4 0)) λV7=>oK (rd1 S6 V7) λV8=>oK (qAE 1 (.ptr B4 0)) λV9=>oK (rd1 S6 V9) λV10=>oK (qAE 2 (.ptr B4 0)) λV11=>oK (rd1 S6 V11) λV12=>((cutH [((hdel S6 (qUa V9)),S6),((hdel S6 (qUa V11)),S6)] S6) (qUa t0)≠none)∧oK (wr1 S6 t0 V8) λS13=>((cutH [((hdel S6 (qUa V11)),S6)] S13) (qUa t1)≠none)∧oK (wr1 S13 t1 V10) λS14=>oK (wr1 S14 t2 V12) λS15=>K (.tup []) S15) s)
 (oK (wr1 s t0 (.int .i64 3)) λS16=>oK (wr1 S16 t1 (.str ⟨#[102,97,98,114,105,99]⟩)) λS17=>oK (wr1 S17 t2 (.int .i64 0)) λS18=>K (.tup []) S18))
theorem qF2 (X:Td)(t0 t1 t2 v:AV) (K:KvP) (s:Hq):wpC Tryz.prog X nA0 Tryz.f69.ntmps none (qRn (qBl Tryz.f69)) (qOq (qBl Tryz.f69) (qJx [t0,t1,t2]) v) (λe env s=>retK e (resK Tryz.prog Tryz.f69.results.toList env (λvs=>K (oneV vs) s) s)) s=qCq X t0 t1 t2 v K s:=by kernel_rfl
theorem qKV {t0 t1 t2 v:AV} {K:KvP} {s:Hq} (h:qCq X0 t0 t1 t2 v K s):qXe Tryz.prog X0 69 [t0,t1,t2] v (λs=>K (.tup []) s) s:=
 qWq qKy nA0 Tryz.func69 (by kernel_rfl:Tryz.f69.body=some (qBl Tryz.f69)) (by kernel_rfl) (by kernel_rfl) (by kernel_rfl) ((qF2 X0 t0 t1 t2 v K s).mpr h)
def qHG (X:Td)(err2 x3 x4 c5 t8 t12 t13 t14:AV) (I0:IvP) (m0:Nat) (K:KvP) (s:Hq):Prop:=
 oK (qAC .lss t14 t13) λV16=>qAM V16
 (oK (qAS 1 t12 t14) λV17=>oK (rd1 s V17) λV18=>qW3 Tryz.prog X SS V18 [c5] (λV19 S20=>oK (qAC .add t14 (.int .i64 1)) λV21=>∃ m',m' < m0∧I0 [V21] S20 m') (λV22 S23=>recK Tryz.prog X t8 V22 (λS24=>oK (rd1 S24 err2) λerr2_25=>oK (rd1 S24 x3) λpart3_26=>oK (rd1 S24 x4) λindex4_27=>K (.tup [err2_25,part3_26,index4_27]) S24) S23) s)
 (oK (wr1 s err2 (.int .i64 0)) λS28=>oK (wr1 S28 x3 (.str ⟨#[]⟩)) λS29=>oK (wr1 S29 x4 (.int .i64 0)) λS30=>runK Tryz.prog X t8 (λS31=>oK (rd1 S31 err2) λerr2_32=>oK (rd1 S31 x3) λpart3_33=>oK (rd1 S31 x4) λindex4_34=>K (.tup [err2_32,part3_33,index4_34]) S31) S30)
def qOV (X:Td)(t0:AV) (K:KvP) (s:Hq):Prop:=
 boxK 68 t0 (λB0 S1=>newK 98 [(.int .i64 0)] (λB2 S3=>newK 9 [(.str ⟨#[]⟩)] (λB4 S5=>newK 3 [(.int .i64 0)] (λB6 S7=>qYl Tryz.prog (.fn (.func 69) [] [(.ptr B2 0),(.ptr B4 0),(.ptr B6 0)])∧oK (rdN S7 19 B0) λV8=>oK (qBi zR1 [(0,19,(.agg V8))]) λC9=>boxK 153 (.agg C9) (λB10 S11=>wC Tryz.prog X 70 [] (λV12 S13=>oK (qAQ V12) λV14=>∃ I0:IvP,(∃ m,I0 [(.int .i64 0)] S13 m)∧∀ (f:Env) (s:Hq) (m0:Nat),I0 [f 14] s m0→
 qHG X (.ptr B2 0) (.ptr B4 0) (.ptr B6 0) B10 (.fn (.func 69) [] [(.ptr B2 0),(.ptr B4 0),(.ptr B6 0)]) V12 (.int .i64 V14) (f 14) I0 m0 K s) S11) S7) S5) S3) S1) s
def qK1:Nat→List Nat:=λk=>cond (Nat.beq k 8) [14] ([])
theorem qLh {t0:AV} {K R:KvP} {s:Hq} (h:qOV X0 t0 K s):qAh Tryz.prog X0 SS 43 [t0] K R s:=
 qQV qKy qK1 Tryz.func43 (by kernel_rfl:Tryz.f43.body=some (qBl Tryz.f43)) (by kernel_rfl) (Eq.mpr (by kernel_rfl) h)
end Go.AM
