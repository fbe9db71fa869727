/- Part V2 of a calculus over a small memory that is proved to answer as the program does, and of its use for the functions that the law reaches: see the last part. -/
import Derived.Test.YtjheoaemhdpoeaaGreatDoorV
set_option linter.unusedVariables false
namespace Go.AM
open Go Go.Proofs
set_option maxRecDepth 100000
def qI2 (X:Td)(i3 t53 t61:AV) (I5:IvP) (m5:Nat) (K:KvP) (s:Hq):Prop:=
 oK (qAT t53 (.bool true) t61) λv_25=>qAQ v_25
 (K (.bool true) s)
 (oK (qAH .add i3 (.int .i64 1)) λv_26=>∃ m',m' < m5∧I5 [v_26] s m')
def qPJ (X:Td)(t1 i3:AV) (I5:IvP) (m5:Nat) (K:KvP) (s:Hq):Prop:=
 oK (qAC 5 t1) λv_12=>oK (rd1 s v_12) λv_13=>oK (qAR v_13) λv_14=>oK (qAH .lss i3 (.int .i64 v_14)) λv_16=>qAQ v_16
 (oK (qAC 5 t1) λv_17=>oK (rd1 s v_17) λv_18=>oK (qAZ 2 v_18 i3) λv_19=>oK (qAC 0 v_19) λv_20=>oK (rd1 s v_20) λv_21=>oK (qAR v_21) λv_22=>oK (qAH .gtr (.int .i64 v_22) (.int .i64 20)) λv_24=>qAQ v_24
 (qI2 X i3 v_24 .undef I5 m5 K s)
 (oK (qAC 5 t1) λv_27=>oK (rd1 s v_27) λv_28=>oK (qAZ 2 v_28 i3) λv_29=>oK (qAC 1 v_29) λv_30=>oK (rd1 s v_30) λv_31=>oK (qAR v_31) λv_32=>oK (qAH .gtr (.int .i64 v_32) (.int .i64 20)) λv_34=>qI2 X i3 v_24 v_34 I5 m5 K s))
 (K (.bool false) s)
def qDL (X:Td)(t1 t32 t36:AV) (K:KvP) (s:Hq):Prop:=
 oK (qAT t32 (.bool true) t36) λv_11=>qAQ v_11
 (K (.bool true) s)
 (∃ I5:IvP,(∃ m,I5 [(.int .i64 0)] s m)∧∀ (f:Env) (s:Hq) (m5:Nat),I5 [f 3] s m5→
 qPJ X t1 (f 3) I5 m5 K s)
def qDO (X:Td)(t1 t26 t30:AV) (K:KvP) (s:Hq):Prop:=
 oK (qAT t26 (.bool true) t30) λv_10=>qAQ v_10
 (qDL X t1 v_10 .undef K s)
 (oK (qAC 7 t1) λv_35=>oK (rd1 s v_35) λv_36=>oK (qAR v_36) λv_37=>oK (qAH .gtr (.int .i64 v_37) (.int .i64 40)) λv_39=>qDL X t1 v_10 v_39 K s)
def qDy (X:Td)(t1 t20 t24:AV) (K:KvP) (s:Hq):Prop:=
 oK (qAT t20 (.bool true) t24) λv_9=>qAQ v_9
 (qDO X t1 v_9 .undef K s)
 (oK (qAC 6 t1) λv_40=>oK (rd1 s v_40) λv_41=>oK (qAR v_41) λv_42=>oK (qAH .gtr (.int .i64 v_42) (.int .i64 40)) λv_44=>qDO X t1 v_9 v_44 K s)
def qFQ (X:Td)(t1 t14 t18:AV) (K:KvP) (s:Hq):Prop:=
 oK (qAT t14 (.bool true) t18) λv_8=>qAQ v_8
 (qDy X t1 v_8 .undef K s)
 (oK (qAC 5 t1) λv_45=>oK (rd1 s v_45) λv_46=>oK (qAR v_46) λv_47=>oK (qAH .gtr (.int .i64 v_47) (.int .i64 40)) λv_49=>qDy X t1 v_8 v_49 K s)
def qGs (X:Td)(t1 t8 t12:AV) (K:KvP) (s:Hq):Prop:=
 oK (qAT t8 (.bool true) t12) λv_7=>qAQ v_7
 (qFQ X t1 v_7 .undef K s)
 (oK (qAC 4 t1) λv_50=>oK (rd1 s v_50) λv_51=>oK (qAR v_51) λv_52=>oK (qAH .gtr (.int .i64 v_52) (.int .i64 40)) λv_54=>qFQ X t1 v_7 v_54 K s)
def qZN (X:Td)(t0:AV) (K:KvP) (s:Hq):Prop:=
 boxK 31 t0 (λB0 S1=>oK (qAC 2 B0) λv_2=>oK (rd1 S1 v_2) λv_3=>oK (qAR v_3) λv_4=>oK (qAH .gtr (.int .i64 v_4) (.int .i64 40)) λv_6=>qAQ v_6
 (qGs X B0 v_6 .undef K S1)
 (oK (qAC 3 B0) λv_55=>oK (rd1 S1 v_55) λv_56=>oK (qAR v_56) λv_57=>oK (qAH .gtr (.int .i64 v_57) (.int .i64 40)) λv_59=>qGs X B0 v_6 v_59 K S1)) s
def qTR:Nat→List Nat:=λk=>cond (Nat.beq k 8) [3] ([])
theorem qWG {X:Td} (hX:FrX X) (hn:X 8=none) {t0:AV} {K:KvP} {s:Hq} (h:qZN X t0 K s):wC Tryz.prog X 8 [t0] K s:=
 qAL hX qTR hn Tryz.func8 (by kernel_rfl:Tryz.f8.body=some (qAU Tryz.f8)) (by kernel_rfl) (Eq.mpr (by kernel_rfl) h)
theorem qV2 {t0:AV} {K:KvP} {s:Hq} (h:qZN XX t0 K s):wC Tryz.prog XX 8 [t0] K s:=qWG qBm rfl h
def qCN (X:Td)(n0 t6 t8:AV) (K:KvP) (s:Hq):Prop:=
 oK (qAT t6 (.bool true) t8) λv_1=>qAQ v_1
 (K (.tup [(.int .u32 0),(.int .i64 2)]) s)
 (oK (qDl .u32 n0) λv_2=>oK (qAH .add (.int .u32 184483840) v_2) λv_3=>oK (qAH .add v_3 (.int .u32 1)) λv_4=>K (.tup [v_4,(.int .i64 0)]) s)
def qEk (X:Td)(n0:AV) (K:KvP) (s:Hq):Prop:=
 oK (qAH .lss n0 (.int .i64 0)) λv_0=>qAQ v_0
 (qCN X n0 v_0 .undef K s)
 (oK (qAH .geq n0 (.int .i64 32)) λv_5=>qCN X n0 v_0 v_5 K s)
def qJD:Nat→List Nat:=λ_=>[]
theorem qJg {X:Td} (hX:FrX X) (hn:X 50=none) {n0:AV} {K:KvP} {s:Hq} (h:qEk X n0 K s):wC Tryz.prog X 50 [n0] K s:=
 qAL hX qJD hn Tryz.func50 (by kernel_rfl:Tryz.f50.body=some (qAU Tryz.f50)) (by kernel_rfl) (Eq.mpr (by kernel_rfl) h)
theorem qJd {n0:AV} {K:KvP} {s:Hq} (h:qEk XX n0 K s):wC Tryz.prog XX 50 [n0] K s:=qJg qBm rfl h
def qN7 (X:Td)(t1 parts7 many8 p10 i11:AV) (I1:IvP) (m1:Nat) (I0:IvP) (m0:Nat) (K:KvP) (s:Hq):Prop:=
 oK (qAZ 1 many8 p10) λv_56=>oK (rd1 s v_56) λv_57=>oK (qAH .lss i11 v_57) λv_58=>qAQ v_58
 (oK (rdN s 19 t1) λv_59=>wC Tryz.prog X 101 [(.agg v_59),p10,i11] (λv_60 S61=>oK (negB true (eqV 0 true v_60 (.int .i64 0))) λv_62=>qAQ v_62
 (oK (qAZ 1 parts7 p10) λv_63=>oK (rd1 S61 v_63) λv_64=>K (.tup [v_60,v_64,i11]) S61)
 (oK (qAH .add i11 (.int .i64 1)) λv_65=>∃ m',m' < m1∧I1 [v_65] S61 m')) s)
 (oK (qAH .add p10 (.int .i64 1)) λv_66=>∃ m',m' < m0∧I0 [v_66] s m')
def qMU (X:Td)(t1 parts7 many8 most9 p10:AV) (I0:IvP) (m0:Nat) (K:KvP) (s:Hq):Prop:=
 oK (qAR parts7) λv_44=>oK (qAH .lss p10 (.int .i64 v_44)) λv_46=>qAQ v_46
 (oK (qAZ 1 many8 p10) λv_47=>oK (rd1 s v_47) λv_48=>oK (qAZ 1 most9 p10) λv_49=>oK (rd1 s v_49) λv_50=>oK (qAH .gtr v_48 v_50) λv_51=>qAQ v_51
 (oK (qAZ 1 parts7 p10) λv_52=>oK (rd1 s v_52) λv_53=>oK (qAZ 1 most9 p10) λv_54=>oK (rd1 s v_54) λv_55=>K (.tup [(.int .i64 7),v_53,v_55]) s)
 (∃ I1:IvP,(∃ m,I1 [(.int .i64 0)] s m)∧∀ (f:Env) (s:Hq) (m1:Nat),I1 [f 11] s m1→
 qN7 X t1 parts7 many8 p10 (f 11) I1 m1 I0 m0 K s))
 (K (.tup [(.int .i64 0),(.str ⟨#[]⟩),(.int .i64 0)]) s)
def qU5 (X:Td)(t0:AV) (K:KvP) (s:Hq):Prop:=
 boxK 31 t0 (λB0 S1=>oK (rdN S1 19 B0) λv_2=>wC Tryz.prog X 99 [(.agg v_2)] (λv_3 S4=>oK (negB true (eqV 0 true v_3 (.int .i64 0))) λv_5=>qAQ v_5
 (K (.tup [v_3,(.str ⟨#[102,97,98,114,105,99]⟩),(.int .i64 0)]) S4)
 (oK (qAC 13 B0) λv_6=>oK (rdN S4 6 v_6) λv_7=>wC Tryz.prog X 100 [(.agg v_7)] (λv_8 S9=>oK (negB true (eqV 0 true v_8 (.int .i64 0))) λv_10=>qAQ v_10
 (K (.tup [v_8,(.str ⟨#[116,105,109,101,114,115]⟩),(.int .i64 0)]) S9)
 (oK (qCA (repl 6 [(.str ⟨#[]⟩)]) [(0,1,(.str ⟨#[108,105,110,107,115]⟩)),(1,1,(.str ⟨#[116,101,110,97,110,116,115]⟩)),(2,1,(.str ⟨#[100,111,109,97,105,110,115]⟩)),(3,1,(.str ⟨#[115,101,103,109,101,110,116,115]⟩)),(4,1,(.str ⟨#[104,111,115,116,115]⟩)),(5,1,(.str ⟨#[108,101,97,107,115]⟩))]) λC11=>qAg C11=true∧newK 9 C11 (λB12 S13=>oK (qAC 2 B0) λv_14=>oK (rd1 S13 v_14) λv_15=>oK (qAR v_15) λv_16=>oK (qAC 3 B0) λv_18=>oK (rd1 S13 v_18) λv_19=>oK (qAR v_19) λv_20=>oK (qAC 4 B0) λv_22=>oK (rd1 S13 v_22) λv_23=>oK (qAR v_23) λv_24=>oK (qAC 5 B0) λv_26=>oK (rd1 S13 v_26) λv_27=>oK (qAR v_27) λv_28=>oK (qAC 6 B0) λv_30=>oK (rd1 S13 v_30) λv_31=>oK (qAR v_31) λv_32=>oK (qAC 7 B0) λv_34=>oK (rd1 S13 v_34) λv_35=>oK (qAR v_35) λv_36=>oK (qCA (repl 6 [(.int .i64 0)]) [(0,1,(.int .i64 v_16)),(1,1,(.int .i64 v_20)),(2,1,(.int .i64 v_24)),(3,1,(.int .i64 v_28)),(4,1,(.int .i64 v_32)),(5,1,(.int .i64 v_36))]) λC38=>qAg C38=true∧newK 3 C38 (λB39 S40=>oK (qCA (repl 6 [(.int .i64 0)]) [(0,1,(.int .i64 128)),(1,1,(.int .i64 16)),(2,1,(.int .i64 32)),(3,1,(.int .i64 64)),(4,1,(.int .i64 128)),(5,1,(.int .i64 256))]) λC41=>qAg C41=true∧newK 3 C41 (λB42 S43=>∃ I0:IvP,(∃ m,I0 [(.int .i64 0)] S43 m)∧∀ (f:Env) (s:Hq) (m0:Nat),I0 [f 10] s m0→
 qMU X B0 (.slc B12 0 6 (some 6) 1) (.slc B39 0 6 (some 6) 1) (.slc B42 0 6 (some 6) 1) (f 10) I0 m0 K s) S40) S13) S9)) S4)) S1) s
def qRp:Nat→List Nat:=λk=>cond (Nat.beq k 22) [10] (cond (Nat.beq k 32) [11] ([]))
theorem qS5 {X:Td} (hX:FrX X) (hn:X 71=none) {t0:AV} {K:KvP} {s:Hq} (h:qU5 X t0 K s):wC Tryz.prog X 71 [t0] K s:=
 qAL hX qRp hn Tryz.func71 (by kernel_rfl:Tryz.f71.body=some (qAU Tryz.f71)) (by kernel_rfl) (Eq.mpr (by kernel_rfl) h)
theorem qTW {t0:AV} {K:KvP} {s:Hq} (h:qU5 XX t0 K s):wC Tryz.prog XX 71 [t0] K s:=qS5 qBm rfl h
def qBr (X:Td)(t33 t37:AV) (K:KvP) (s:Hq):Prop:=
 oK (qAT t33 (.bool true) t37) λv_11=>qAQ v_11
 (K (.int .i64 2) s)
 (K (.int .i64 0) s)
def qBw (X:Td)(t1 t27 t31:AV) (K:KvP) (s:Hq):Prop:=
 oK (qAT t27 (.bool true) t31) λv_10=>qAQ v_10
 (qBr X v_10 .undef K s)
 (oK (qAC 10 t1) λv_12=>oK (rd1 s v_12) λv_13=>wC Tryz.prog X 79 [v_13,(.int .i64 0),(.int .i64 1)] (λv_14 S15=>oK (qAo .not v_14) λv_16=>qBr X v_10 v_16 K S15) s)
def qCH (X:Td)(t1 t21 t25:AV) (K:KvP) (s:Hq):Prop:=
 oK (qAT t21 (.bool true) t25) λv_9=>qAQ v_9
 (qBw X t1 v_9 .undef K s)
 (oK (qAC 9 t1) λv_17=>oK (rd1 s v_17) λv_18=>wC Tryz.prog X 79 [v_18,(.int .i64 0),(.int .i64 1)] (λv_19 S20=>oK (qAo .not v_19) λv_21=>qBw X t1 v_9 v_21 K S20) s)
def qCr (X:Td)(t1 t13 t19:AV) (K:KvP) (s:Hq):Prop:=
 oK (qAT t13 (.bool true) t19) λv_8=>qAQ v_8
 (qCH X t1 v_8 .undef K s)
 (oK (qAC 8 t1) λv_22=>oK (rd1 s v_22) λv_23=>wC Tryz.prog X 79 [v_23,(.int .i64 0),(.int .i64 2)] (λv_24 S25=>oK (qAo .not v_24) λv_26=>qCH X t1 v_8 v_26 K S25) s)
def qDZ (X:Td)(t1 t7 t11:AV) (K:KvP) (s:Hq):Prop:=
 oK (qAT t7 (.bool true) t11) λv_7=>qAQ v_7
 (qCr X t1 v_7 .undef K s)
 (oK (qAC 0 t1) λv_27=>oK (rd1 s v_27) λv_28=>oK (qAC 1 t1) λv_29=>oK (rd1 s v_29) λv_30=>oK (qAH .add v_28 v_30) λv_31=>oK (qAH .gtr v_31 (.int .i64 32)) λv_32=>qCr X t1 v_7 v_32 K s)
def qPS (X:Td)(t0:AV) (K:KvP) (s:Hq):Prop:=
 boxK 31 t0 (λB0 S1=>oK (qAC 0 B0) λv_2=>oK (rd1 S1 v_2) λv_3=>wC Tryz.prog X 79 [v_3,(.int .i64 1),(.int .i64 32)] (λv_4 S5=>oK (qAo .not v_4) λv_6=>qAQ v_6
 (qDZ X B0 v_6 .undef K S5)
 (oK (qAC 1 B0) λv_33=>oK (rd1 S5 v_33) λv_34=>wC Tryz.prog X 79 [v_34,(.int .i64 0),(.int .i64 32)] (λv_35 S36=>oK (qAo .not v_35) λv_37=>qDZ X B0 v_6 v_37 K S36) S5)) S1) s
def qOW:Nat→List Nat:=λ_=>[]
theorem qP5 {X:Td} (hX:FrX X) (hn:X 99=none) {t0:AV} {K:KvP} {s:Hq} (h:qPS X t0 K s):wC Tryz.prog X 99 [t0] K s:=
 qAL hX qOW hn Tryz.func99 (by kernel_rfl:Tryz.f99.body=some (qAU Tryz.f99)) (by kernel_rfl) (Eq.mpr (by kernel_rfl) h)
theorem qQl {t0:AV} {K:KvP} {s:Hq} (h:qPS XX t0 K s):wC Tryz.prog XX 99 [t0] K s:=qP5 qBm rfl h
def qCF (X:Td)(t31 t35:AV) (K:KvP) (s:Hq):Prop:=
 oK (qAT t31 (.bool true) t35) λv_11=>qAQ v_11
 (K (.int .i64 2) s)
 (K (.int .i64 0) s)
def qCD (X:Td)(t1 t25 t29:AV) (K:KvP) (s:Hq):Prop:=
 oK (qAT t25 (.bool true) t29) λv_10=>qAQ v_10
 (qCF X v_10 .undef K s)
 (oK (qAC 5 t1) λv_12=>oK (rd1 s v_12) λv_13=>wC Tryz.prog X 79 [v_13,(.int .i64 1),(.int .i64 10000)] (λv_14 S15=>oK (qAo .not v_14) λv_16=>qCF X v_10 v_16 K S15) s)
def qCi (X:Td)(t1 t19 t23:AV) (K:KvP) (s:Hq):Prop:=
 oK (qAT t19 (.bool true) t23) λv_9=>qAQ v_9
 (qCD X t1 v_9 .undef K s)
 (oK (qAC 4 t1) λv_17=>oK (rd1 s v_17) λv_18=>wC Tryz.prog X 79 [v_18,(.int .i64 1),(.int .i64 100)] (λv_19 S20=>oK (qAo .not v_19) λv_21=>qCD X t1 v_9 v_21 K S20) s)
def qDG (X:Td)(t1 t13 t17:AV) (K:KvP) (s:Hq):Prop:=
 oK (qAT t13 (.bool true) t17) λv_8=>qAQ v_8
 (qCi X t1 v_8 .undef K s)
 (oK (qAC 3 t1) λv_22=>oK (rd1 s v_22) λv_23=>wC Tryz.prog X 79 [v_23,(.int .i64 0),(.int .i64 1000)] (λv_24 S25=>oK (qAo .not v_24) λv_26=>qCi X t1 v_8 v_26 K S25) s)
def qEb (X:Td)(t1 t7 t11:AV) (K:KvP) (s:Hq):Prop:=
 oK (qAT t7 (.bool true) t11) λv_7=>qAQ v_7
 (qDG X t1 v_7 .undef K s)
 (oK (qAC 2 t1) λv_27=>oK (rd1 s v_27) λv_28=>wC Tryz.prog X 79 [v_28,(.int .i64 1),(.int .i64 10000)] (λv_29 S30=>oK (qAo .not v_29) λv_31=>qDG X t1 v_7 v_31 K S30) s)
def qSR (X:Td)(t0:AV) (K:KvP) (s:Hq):Prop:=
 boxK 29 t0 (λB0 S1=>oK (qAC 0 B0) λv_2=>oK (rd1 S1 v_2) λv_3=>wC Tryz.prog X 79 [v_3,(.int .i64 1),(.int .i64 100)] (λv_4 S5=>oK (qAo .not v_4) λv_6=>qAQ v_6
 (qEb X B0 v_6 .undef K S5)
 (oK (qAC 1 B0) λv_32=>oK (rd1 S5 v_32) λv_33=>wC Tryz.prog X 79 [v_33,(.int .i64 3),(.int .i64 1000)] (λv_34 S35=>oK (qAo .not v_34) λv_36=>qEb X B0 v_6 v_36 K S35) S5)) S1) s
def qQA:Nat→List Nat:=λ_=>[]
theorem qRQ {X:Td} (hX:FrX X) (hn:X 100=none) {t0:AV} {K:KvP} {s:Hq} (h:qSR X t0 K s):wC Tryz.prog X 100 [t0] K s:=
 qAL hX qQA hn Tryz.func100 (by kernel_rfl:Tryz.f100.body=some (qAU Tryz.f100)) (by kernel_rfl) (Eq.mpr (by kernel_rfl) h)
theorem qRR {t0:AV} {K:KvP} {s:Hq} (h:qSR XX t0 K s):wC Tryz.prog XX 100 [t0] K s:=qRQ qBm rfl h
def qPH (X:Td)(t0 part1 i2:AV) (K:KvP) (s:Hq):Prop:=
 boxK 31 t0 (λB0 S1=>oK (negB false (eqV 0 true part1 (.int .i64 0))) λv_2=>qAQ v_2
 (oK (rdN S1 19 B0) λv_3=>wC Tryz.prog X 155 [(.agg v_3),i2] (λv_4 S5=>K v_4 S5) S1)
 (oK (negB false (eqV 0 true part1 (.int .i64 1))) λv_6=>qAQ v_6
 (oK (rdN S1 19 B0) λv_7=>wC Tryz.prog X 156 [(.agg v_7),i2] (λv_8 S9=>K v_8 S9) S1)
 (oK (negB false (eqV 0 true part1 (.int .i64 2))) λv_10=>qAQ v_10
 (oK (rdN S1 19 B0) λv_11=>wC Tryz.prog X 157 [(.agg v_11),i2] (λv_12 S13=>K v_12 S13) S1)
 (oK (negB false (eqV 0 true part1 (.int .i64 3))) λv_14=>qAQ v_14
 (oK (rdN S1 19 B0) λv_15=>wC Tryz.prog X 158 [(.agg v_15),i2] (λv_16 S17=>K v_16 S17) S1)
 (oK (negB false (eqV 0 true part1 (.int .i64 4))) λv_18=>qAQ v_18
 (oK (rdN S1 19 B0) λv_19=>wC Tryz.prog X 159 [(.agg v_19),i2] (λv_20 S21=>K v_20 S21) S1)
 (oK (rdN S1 19 B0) λv_22=>wC Tryz.prog X 160 [(.agg v_22),i2] (λv_23 S24=>K v_23 S24) S1)))))) s
def qOl:Nat→List Nat:=λ_=>[]
theorem qPX {X:Td} (hX:FrX X) (hn:X 101=none) {t0 part1 i2:AV} {K:KvP} {s:Hq} (h:qPH X t0 part1 i2 K s):wC Tryz.prog X 101 [t0,part1,i2] K s:=
 qAL hX qOl hn Tryz.func101 (by kernel_rfl:Tryz.f101.body=some (qAU Tryz.f101)) (by kernel_rfl) (Eq.mpr (by kernel_rfl) h)
theorem qQQ {t0 part1 i2:AV} {K:KvP} {s:Hq} (h:qPH XX t0 part1 i2 K s):wC Tryz.prog XX 101 [t0,part1,i2] K s:=qPX qBm rfl h
def qUv (X:Td)(t0:AV) (K:KvP) (s:Hq):Prop:=
 boxK 31 t0 (λB0 S1=>oK (rdN S1 19 B0) λv_2=>wC Tryz.prog X 71 [(.agg v_2)] (λv_3 S4=>oK (qAp v_3 0) λv_5=>oK (qAp v_3 1) λv_6=>oK (qAp v_3 2) λv_7=>oK (negB false (eqV 0 true v_5 (.int .i64 0))) λv_8=>K v_8 S4) S1) s
def qSc:Nat→List Nat:=λ_=>[]
theorem qTx {X:Td} (hX:FrX X) (hn:X 78=none) {t0:AV} {K:KvP} {s:Hq} (h:qUv X t0 K s):wC Tryz.prog X 78 [t0] K s:=
 qAL hX qSc hn Tryz.func78 (by kernel_rfl:Tryz.f78.body=some (qAU Tryz.f78)) (by kernel_rfl) (Eq.mpr (by kernel_rfl) h)
theorem qT9 {t0:AV} {K:KvP} {s:Hq} (h:qUv XX t0 K s):wC Tryz.prog XX 78 [t0] K s:=qTx qBm rfl h
def qFw (X:Td)(t10 t13:AV) (K:KvP) (s:Hq):Prop:=
 oK (qAT t10 t13 (.bool false)) λv_1=>K v_1 s
def qNh (X:Td)(n0 least1 most2:AV) (K:KvP) (s:Hq):Prop:=
 oK (qAH .geq n0 least1) λv_0=>qAQ v_0
 (oK (qAH .leq n0 most2) λv_2=>qFw X v_0 v_2 K s)
 (qFw X v_0 .undef K s)
def qPm:Nat→List Nat:=λ_=>[]
theorem qRm {X:Td} (hX:FrX X) (hn:X 79=none) {n0 least1 most2:AV} {K:KvP} {s:Hq} (h:qNh X n0 least1 most2 K s):wC Tryz.prog X 79 [n0,least1,most2] K s:=
 qAL hX qPm hn Tryz.func79 (by kernel_rfl:Tryz.f79.body=some (qAU Tryz.f79)) (by kernel_rfl) (Eq.mpr (by kernel_rfl) h)
theorem qRf {n0 least1 most2:AV} {K:KvP} {s:Hq} (h:qNh XX n0 least1 most2 K s):wC Tryz.prog XX 79 [n0,least1,most2] K s:=qRm qBm rfl h
end Go.AM
namespace Go.AM
open Go Go.Proofs
set_option maxRecDepth 100000
def qIp (X:Td)(K:KvP) (s:Hq):Prop:=
 K (.int .i64 0) s
def qIv (X:Td)(k6 t53 t62:AV) (I2:IvP) (m2:Nat) (K:KvP) (s:Hq):Prop:=
 oK (qAT t53 t62 (.bool false)) λv_18=>qAQ v_18
 (K (.int .i64 11) s)
 (oK (qAH .add k6 (.int .i64 1)) λv_19=>∃ m',m' < m2∧I2 [v_19] s m')
def qOp (X:Td)(i1 t2 l5 k6:AV) (I2:IvP) (m2:Nat) (K:KvP) (s:Hq):Prop:=
 oK (qAH .lss k6 i1) λv_9=>qAQ v_9
 (oK (qAC 2 t2) λv_10=>oK (rd1 s v_10) λv_11=>oK (qAZ 3 v_11 k6) λv_12=>oK (qAC 0 v_12) λv_13=>oK (rd1 s v_13) λv_14=>oK (qAC 0 l5) λv_15=>oK (rd1 s v_15) λv_16=>oK (negB false (eqV 0 false v_14 v_16)) λv_17=>qAQ v_17
 (oK (qAC 2 t2) λv_20=>oK (rd1 s v_20) λv_21=>oK (qAZ 3 v_21 k6) λv_22=>oK (qAC 1 v_22) λv_23=>oK (rd1 s v_23) λv_24=>oK (qAC 1 l5) λv_25=>oK (rd1 s v_25) λv_26=>oK (negB false (eqV 0 false v_24 v_26)) λv_27=>qIv X k6 v_17 v_27 I2 m2 K s)
 (qIv X k6 v_17 .undef I2 m2 K s))
 (qIp X  K s)
def qIt (X:Td)(i1 t2 l5:AV) (K:KvP) (s:Hq):Prop:=
 ∃ I2:IvP,(∃ m,I2 [(.int .i64 0)] s m)∧∀ (f:Env) (s:Hq) (m2:Nat),I2 [f 6] s m2→
 qOp X i1 t2 l5 (f 6) I2 m2 K s
def qFO (X:Td)(i1 t2 l5 t33 t37:AV) (K:KvP) (s:Hq):Prop:=
 oK (qAT t33 (.bool true) t37) λv_37=>qAQ v_37
 (K (.int .i64 2) s)
 (qIt X i1 t2 l5 K s)
def qGr (X:Td)(i1 t2 l5 t19 t31:AV) (K:KvP) (s:Hq):Prop:=
 oK (qAT t19 (.bool true) t31) λv_36=>qAQ v_36
 (qFO X i1 t2 l5 v_36 .undef K s)
 (oK (qAC 2 l5) λv_38=>oK (rd1 s v_38) λv_39=>wC Tryz.prog X 79 [v_39,(.int .i64 1),(.int .i64 1000)] (λv_40 S41=>oK (qAo .not v_40) λv_42=>qFO X i1 t2 l5 v_36 v_42 K S41) s)
def qTG (X:Td)(t0 i1:AV) (K:KvP) (s:Hq):Prop:=
 boxK 31 t0 (λB0 S1=>oK (qAC 2 B0) λv_2=>oK (rd1 S1 v_2) λv_3=>oK (qAZ 3 v_3 i1) λv_4=>oK (rdN S1 3 v_4) λv_5=>newK 115 [(.int .i64 0),(.int .i64 0),(.int .i64 0)] (λB6 S7=>oK (qBY S7 3 (.ptr B6 0) (.agg v_5)) λS8=>oK (qAC 0 (.ptr B6 0)) λv_28=>oK (rd1 S8 v_28) λv_29=>oK (qAC 0 B0) λv_30=>oK (rd1 S8 v_30) λv_31=>oK (qAH .sub v_31 (.int .i64 1)) λv_32=>wC Tryz.prog X 79 [v_29,(.int .i64 0),v_32] (λv_33 S34=>oK (qAo .not v_33) λv_35=>qAQ v_35
 (qGr X i1 B0 (.ptr B6 0) v_35 .undef K S34)
 (oK (qAC 1 (.ptr B6 0)) λv_43=>oK (rd1 S34 v_43) λv_44=>oK (qAC 0 B0) λv_45=>oK (rd1 S34 v_45) λv_46=>oK (qAC 0 B0) λv_47=>oK (rd1 S34 v_47) λv_48=>oK (qAC 1 B0) λv_49=>oK (rd1 S34 v_49) λv_50=>oK (qAH .add v_48 v_50) λv_51=>oK (qAH .sub v_51 (.int .i64 1)) λv_52=>wC Tryz.prog X 79 [v_44,v_46,v_52] (λv_53 S54=>oK (qAo .not v_53) λv_55=>qGr X i1 B0 (.ptr B6 0) v_35 v_55 K S54) S34)) S8) S1) s
def qHF:Nat→List Nat:=λk=>cond (Nat.beq k 10) [6] ([])
noncomputable def qLE:Code:=qBV 3 (qAU Tryz.f155)
noncomputable def qV1:Code:=qBV 1 qLE
theorem qQF (X:Td)(K:KvP) (env:Env) (s:Hq):wpC Tryz.prog X qHF Tryz.f155.ntmps none qV1 env (λe env s=>retK e (resK Tryz.prog Tryz.f155.results.toList env (λvs=>K (oneV vs) s) s)) s=qIp X K s:=by kernel_rfl
theorem qP3 (X:Td)(K:KvP) (env:Env) (s:Hq):wpC Tryz.prog X qHF Tryz.f155.ntmps none qLE env (λe env s=>retK e (resK Tryz.prog Tryz.f155.results.toList env (λvs=>K (oneV vs) s) s)) s=qIt X (env 1) (env 2) (env 5) K s:=(qBa 1 (λenv s=>qIp X K s) qLE (by kernel_rfl) (λenv s=>qQF X K env s) env s).trans (by kernel_rfl)
theorem qWx (X:Td)(t0 i1:AV) (K:KvP) (s:Hq):wpC Tryz.prog X qHF Tryz.f155.ntmps none (qAU Tryz.f155) (qJf [t0,i1]) (λe env s=>retK e (resK Tryz.prog Tryz.f155.results.toList env (λvs=>K (oneV vs) s) s)) s=qTG X t0 i1 K s:=(qBa 3 (λenv s=>qIt X (env 1) (env 2) (env 5) K s) (qAU Tryz.f155) (by kernel_rfl) (λenv s=>qP3 X K env s) _ s).trans (by kernel_rfl)
theorem qV9 {X:Td} (hX:FrX X) (hn:X 155=none) {t0 i1:AV} {K:KvP} {s:Hq} (h:qTG X t0 i1 K s):wC Tryz.prog X 155 [t0,i1] K s:=
 qAL hX qHF hn Tryz.func155 (by kernel_rfl:Tryz.f155.body=some (qAU Tryz.f155)) (by kernel_rfl) ((qWx X t0 i1 K s).mpr h)
theorem qWv {t0 i1:AV} {K:KvP} {s:Hq} (h:qTG XX t0 i1 K s):wC Tryz.prog XX 155 [t0,i1] K s:=qV9 qBm rfl h
def qF6 (X:Td)(K:KvP) (s:Hq):Prop:=
 K (.int .i64 0) s
def qGF (X:Td)(k6 t39 t48:AV) (I2:IvP) (m2:Nat) (K:KvP) (s:Hq):Prop:=
 oK (qAT t39 (.bool true) t48) λv_18=>qAQ v_18
 (K (.int .i64 11) s)
 (oK (qAH .add k6 (.int .i64 1)) λv_19=>∃ m',m' < m2∧I2 [v_19] s m')
def qLN (X:Td)(i1 t2 t5 k6:AV) (I2:IvP) (m2:Nat) (K:KvP) (s:Hq):Prop:=
 oK (qAH .lss k6 i1) λv_9=>qAQ v_9
 (oK (qAC 3 t2) λv_10=>oK (rd1 s v_10) λv_11=>oK (qAZ 2 v_11 k6) λv_12=>oK (qAC 0 v_12) λv_13=>oK (rd1 s v_13) λv_14=>oK (qAC 0 t5) λv_15=>oK (rd1 s v_15) λv_16=>oK (negB false (eqV 0 false v_14 v_16)) λv_17=>qAQ v_17
 (qGF X k6 v_17 .undef I2 m2 K s)
 (oK (qAC 3 t2) λv_20=>oK (rd1 s v_20) λv_21=>oK (qAZ 2 v_21 k6) λv_22=>oK (qAC 1 v_22) λv_23=>oK (rd1 s v_23) λv_24=>oK (qAC 1 t5) λv_25=>oK (rd1 s v_25) λv_26=>oK (negB false (eqV 0 false v_24 v_26)) λv_27=>qGF X k6 v_17 v_27 I2 m2 K s))
 (qF6 X  K s)
def qF9 (X:Td)(i1 t2 t5:AV) (K:KvP) (s:Hq):Prop:=
 ∃ I2:IvP,(∃ m,I2 [(.int .i64 0)] s m)∧∀ (f:Env) (s:Hq) (m2:Nat),I2 [f 6] s m2→
 qLN X i1 t2 t5 (f 6) I2 m2 K s
def qDM (X:Td)(i1 t2 t5 t20 t23:AV) (K:KvP) (s:Hq):Prop:=
 oK (qAT t20 (.bool true) t23) λv_32=>qAQ v_32
 (K (.int .i64 2) s)
 (qF9 X i1 t2 t5 K s)
def qEU (X:Td)(i1 t2 t5 t15 t18:AV) (K:KvP) (s:Hq):Prop:=
 oK (qAT t15 (.bool true) t18) λv_31=>qAQ v_31
 (qDM X i1 t2 t5 v_31 .undef K s)
 (oK (qAC 1 t5) λv_33=>oK (rd1 s v_33) λv_34=>oK (negB false (eqV 0 true v_34 (.int .u32 0))) λv_35=>qDM X i1 t2 t5 v_31 v_35 K s)
def qOA (X:Td)(t0 i1:AV) (K:KvP) (s:Hq):Prop:=
 boxK 31 t0 (λB0 S1=>oK (qAC 3 B0) λv_2=>oK (rd1 S1 v_2) λv_3=>oK (qAZ 2 v_3 i1) λv_4=>oK (rdN S1 2 v_4) λv_5=>newK 117 [(.int .u32 0),(.int .u32 0)] (λB6 S7=>oK (qBY S7 2 (.ptr B6 0) (.agg v_5)) λS8=>oK (qAC 0 (.ptr B6 0)) λv_28=>oK (rd1 S8 v_28) λv_29=>oK (qAH .lss v_29 (.int .u32 1)) λv_30=>qAQ v_30
 (qEU X i1 B0 (.ptr B6 0) v_30 .undef K S8)
 (oK (qAC 0 (.ptr B6 0)) λv_36=>oK (rd1 S8 v_36) λv_37=>oK (qAH .gtr v_37 (.int .u32 16777215)) λv_38=>qEU X i1 B0 (.ptr B6 0) v_30 v_38 K S8)) S1) s
def qE1:Nat→List Nat:=λk=>cond (Nat.beq k 10) [6] ([])
noncomputable def qIe:Code:=qBV 3 (qAU Tryz.f156)
noncomputable def qRI:Code:=qBV 1 qIe
theorem qNV (X:Td)(K:KvP) (env:Env) (s:Hq):wpC Tryz.prog X qE1 Tryz.f156.ntmps none qRI env (λe env s=>retK e (resK Tryz.prog Tryz.f156.results.toList env (λvs=>K (oneV vs) s) s)) s=qF6 X K s:=by kernel_rfl
theorem qMx (X:Td)(K:KvP) (env:Env) (s:Hq):wpC Tryz.prog X qE1 Tryz.f156.ntmps none qIe env (λe env s=>retK e (resK Tryz.prog Tryz.f156.results.toList env (λvs=>K (oneV vs) s) s)) s=qF9 X (env 1) (env 2) (env 5) K s:=(qBa 1 (λenv s=>qF6 X K s) qIe (by kernel_rfl) (λenv s=>qNV X K env s) env s).trans (by kernel_rfl)
theorem qSO (X:Td)(t0 i1:AV) (K:KvP) (s:Hq):wpC Tryz.prog X qE1 Tryz.f156.ntmps none (qAU Tryz.f156) (qJf [t0,i1]) (λe env s=>retK e (resK Tryz.prog Tryz.f156.results.toList env (λvs=>K (oneV vs) s) s)) s=qOA X t0 i1 K s:=(qBa 3 (λenv s=>qF9 X (env 1) (env 2) (env 5) K s) (qAU Tryz.f156) (by kernel_rfl) (λenv s=>qMx X K env s) _ s).trans (by kernel_rfl)
theorem qSV {X:Td} (hX:FrX X) (hn:X 156=none) {t0 i1:AV} {K:KvP} {s:Hq} (h:qOA X t0 i1 K s):wC Tryz.prog X 156 [t0,i1] K s:=
 qAL hX qE1 hn Tryz.func156 (by kernel_rfl:Tryz.f156.body=some (qAU Tryz.f156)) (by kernel_rfl) ((qSO X t0 i1 K s).mpr h)
theorem qRY {t0 i1:AV} {K:KvP} {s:Hq} (h:qOA XX t0 i1 K s):wC Tryz.prog XX 156 [t0,i1] K s:=qSV qBm rfl h
end Go.AM
namespace Go.AM
open Go Go.Proofs
set_option maxRecDepth 100000
def qGE (X:Td)(K:KvP) (s:Hq):Prop:=
 K (.int .i64 0) s
def qEQ (X:Td)(k9 t152 t160:AV) (I6:IvP) (m6:Nat) (K:KvP) (s:Hq):Prop:=
 oK (qAT t152 t160 (.bool false)) λv_24=>qAQ v_24
 (K (.int .i64 11) s)
 (oK (qAH .add k9 (.int .i64 1)) λv_25=>∃ m',m' < m6∧I6 [v_25] s m')
def qF3 (X:Td)(t2 t8 k9 t143 t150:AV) (I6:IvP) (m6:Nat) (K:KvP) (s:Hq):Prop:=
 oK (qAT t143 t150 (.bool false)) λv_23=>qAQ v_23
 (oK (qAC 4 t2) λv_26=>oK (rd1 s v_26) λv_27=>oK (qAZ 6 v_27 k9) λv_28=>oK (qAC 3 v_28) λv_29=>oK (rdN s 2 v_29) λv_30=>oK (rdN s 2 t8) λv_31=>wC Tryz.prog X 190 [(.agg v_30),(.agg v_31)] (λv_32 S33=>qEQ X k9 v_23 v_32 I6 m6 K S33) s)
 (qEQ X k9 v_23 .undef I6 m6 K s)
def qLZ (X:Td)(i1 t2 b5 t8 k9:AV) (I6:IvP) (m6:Nat) (K:KvP) (s:Hq):Prop:=
 oK (qAH .lss k9 i1) λv_14=>qAQ v_14
 (oK (qAC 4 t2) λv_15=>oK (rd1 s v_15) λv_16=>oK (qAZ 6 v_16 k9) λv_17=>oK (qAC 0 v_17) λv_18=>oK (rd1 s v_18) λv_19=>oK (qAC 0 b5) λv_20=>oK (rd1 s v_20) λv_21=>oK (negB false (eqV 0 false v_19 v_21)) λv_22=>qAQ v_22
 (oK (qAC 4 t2) λv_34=>oK (rd1 s v_34) λv_35=>oK (qAZ 6 v_35 k9) λv_36=>oK (qAC 5 v_36) λv_37=>oK (rd1 s v_37) λv_38=>oK (negB true (eqV 0 true v_38 (.int .u32 0))) λv_39=>qF3 X t2 t8 k9 v_22 v_39 I6 m6 K s)
 (qF3 X t2 t8 k9 v_22 .undef I6 m6 K s))
 (qGE X  K s)
def qEN (X:Td)(i1 t2 b5 t8:AV) (K:KvP) (s:Hq):Prop:=
 ∃ I6:IvP,(∃ m,I6 [(.int .i64 0)] s m)∧∀ (f:Env) (s:Hq) (m6:Nat),I6 [f 9] s m6→
 qLZ X i1 t2 b5 t8 (f 9) I6 m6 K s
def qCL (X:Td)(i1 t2 b5 t8 t115 t120:AV) (K:KvP) (s:Hq):Prop:=
 oK (qAT t115 (.bool true) t120) λv_46=>qAQ v_46
 (oK (qAT v_46 (.bool true) .undef) λv_47=>qAQ v_47
 (K (.int .i64 3) s)
 (qEN X i1 t2 b5 t8 K s))
 (oK (qAC 5 b5) λv_48=>oK (rd1 s v_48) λv_49=>oK (rdN s 2 t8) λv_50=>wC Tryz.prog X 189 [(.agg v_50)] (λv_51 S52=>(∀ b,s b≠none→s b=none→S52 b=none)→
 oK (negB false (eqV 0 false v_49 v_51)) λv_53=>oK (qAT v_46 (.bool true) v_53) λv_54=>qAQ v_54
 (K (.int .i64 3) (add s S52))
 (qEN X i1 t2 b5 t8 K (add s S52))) (frz s))
def qCu (X:Td)(i1 t2 b5 t8 t108 t113:AV) (K:KvP) (s:Hq):Prop:=
 oK (qAT t108 (.bool true) t113) λv_45=>qAQ v_45
 (qCL X i1 t2 b5 t8 v_45 .undef K s)
 (oK (qAC 5 b5) λv_55=>oK (rd1 s v_55) λv_56=>oK (qAC 0 t8) λv_57=>oK (rd1 s v_57) λv_58=>oK (negB false (eqV 0 false v_56 v_58)) λv_59=>qCL X i1 t2 b5 t8 v_45 v_59 K s)
def qEV (X:Td)(i1 t2 b5 t8 t102 t106:AV) (K:KvP) (s:Hq):Prop:=
 oK (qAT t102 (.bool true) t106) λv_44=>qAQ v_44
 (qCu X i1 t2 b5 t8 v_44 .undef K s)
 (oK (rdN s 2 t8) λv_60=>oK (qAC 5 b5) λv_61=>oK (rd1 s v_61) λv_62=>wC Tryz.prog X 188 [(.agg v_60),v_62] (λv_63 S64=>oK (qAo .not v_63) λv_65=>qCu X i1 t2 b5 t8 v_44 v_65 K S64) s)
def qEa (X:Td)(i1 t2 b5:AV) (K:KvP) (s:Hq):Prop:=
 oK (qAC 3 b5) λv_9=>oK (rdN s 2 v_9) λv_10=>newK 71 [(.int .u32 0),(.int .i64 0)] (λB11 S12=>oK (qBY S12 2 (.ptr B11 0) (.agg v_10)) λS13=>oK (rdN S13 2 (.ptr B11 0)) λv_40=>wC Tryz.prog X 187 [(.agg v_40)] (λv_41 S42=>oK (qAo .not v_41) λv_43=>qAQ v_43
 (qEV X i1 t2 b5 (.ptr B11 0) v_43 .undef K S42)
 (oK (qAC 1 (.ptr B11 0)) λv_66=>oK (rd1 S42 v_66) λv_67=>wC Tryz.prog X 79 [v_67,(.int .i64 8),(.int .i64 30)] (λv_68 S69=>oK (qAo .not v_68) λv_70=>qEV X i1 t2 b5 (.ptr B11 0) v_43 v_70 K S69) S42)) S13) s
def qEd (X:Td)(i1 t2 b5:AV) (K:KvP) (s:Hq):Prop:=
 oK (qAC 5 b5) λv_71=>oK (rd1 s v_71) λv_72=>oK (negB false (eqV 0 true v_72 (.int .u32 0))) λv_73=>qAQ v_73
 (oK (qAC 3 b5) λv_74=>oK (rdN s 2 v_74) λv_75=>oK (qCA [(.int .u32 0),(.int .i64 0)] []) λC76=>oK (negB true (qH3 Tryz.prog 71 (.agg v_75) (.agg C76))) λv_77=>qAQ v_77
 (K (.int .i64 3) s)
 (K (.int .i64 0) s))
 (qEa X i1 t2 b5 K s)
def qFB (X:Td)(k7 t79 t88:AV) (I12:IvP) (m12:Nat) (K:KvP) (s:Hq):Prop:=
 oK (qAT t79 (.bool true) t88) λv_87=>qAQ v_87
 (K (.int .i64 11) s)
 (oK (qAH .add k7 (.int .i64 1)) λv_88=>∃ m',m' < m12∧I12 [v_88] s m')
def qKi (X:Td)(i1 t2 b5 k7:AV) (I12:IvP) (m12:Nat) (K:KvP) (s:Hq):Prop:=
 oK (qAH .lss k7 i1) λv_78=>qAQ v_78
 (oK (qAC 4 t2) λv_79=>oK (rd1 s v_79) λv_80=>oK (qAZ 6 v_80 k7) λv_81=>oK (qAC 1 v_81) λv_82=>oK (rd1 s v_82) λv_83=>oK (qAC 1 b5) λv_84=>oK (rd1 s v_84) λv_85=>oK (negB false (eqV 0 false v_83 v_85)) λv_86=>qAQ v_86
 (qFB X k7 v_86 .undef I12 m12 K s)
 (oK (qAC 4 t2) λv_89=>oK (rd1 s v_89) λv_90=>oK (qAZ 6 v_90 k7) λv_91=>oK (qAC 2 v_91) λv_92=>oK (rd1 s v_92) λv_93=>oK (qAC 2 b5) λv_94=>oK (rd1 s v_94) λv_95=>oK (negB false (eqV 0 false v_93 v_95)) λv_96=>qFB X k7 v_86 v_96 I12 m12 K s))
 (qEd X i1 t2 b5 K s)
def qEe (X:Td)(i1 t2 b5:AV) (K:KvP) (s:Hq):Prop:=
 ∃ I12:IvP,(∃ m,I12 [(.int .i64 0)] s m)∧∀ (f:Env) (s:Hq) (m12:Nat),I12 [f 7] s m12→
 qKi X i1 t2 b5 (f 7) I12 m12 K s
def qFK (X:Td)(k6 t54 t63:AV) (I14:IvP) (m14:Nat) (K:KvP) (s:Hq):Prop:=
 oK (qAT t54 (.bool true) t63) λv_110=>qAQ v_110
 (K (.int .i64 11) s)
 (oK (qAH .add k6 (.int .i64 1)) λv_111=>∃ m',m' < m14∧I14 [v_111] s m')
def qJ5 (X:Td)(i1 t2 b5 k6:AV) (I14:IvP) (m14:Nat) (K:KvP) (s:Hq):Prop:=
 oK (qAC 3 t2) λv_97=>oK (rd1 s v_97) λv_98=>oK (qAR v_98) λv_99=>oK (qAH .lss k6 (.int .i64 v_99)) λv_101=>qAQ v_101
 (oK (qAC 3 t2) λv_102=>oK (rd1 s v_102) λv_103=>oK (qAZ 2 v_103 k6) λv_104=>oK (qAC 0 v_104) λv_105=>oK (rd1 s v_105) λv_106=>oK (qAC 1 b5) λv_107=>oK (rd1 s v_107) λv_108=>oK (negB false (eqV 0 false v_106 v_108)) λv_109=>qAQ v_109
 (qFK X k6 v_109 .undef I14 m14 K s)
 (oK (qAC 3 t2) λv_112=>oK (rd1 s v_112) λv_113=>oK (qAZ 2 v_113 k6) λv_114=>oK (qAC 1 v_114) λv_115=>oK (rd1 s v_115) λv_116=>oK (qAC 2 b5) λv_117=>oK (rd1 s v_117) λv_118=>oK (negB false (eqV 0 false v_116 v_118)) λv_119=>qFK X k6 v_109 v_119 I14 m14 K s))
 (qEe X i1 t2 b5 K s)
def qEO (X:Td)(i1 t2 b5:AV) (K:KvP) (s:Hq):Prop:=
 ∃ I14:IvP,(∃ m,I14 [(.int .i64 0)] s m)∧∀ (f:Env) (s:Hq) (m14:Nat),I14 [f 6] s m14→
 qJ5 X i1 t2 b5 (f 6) I14 m14 K s
def qCG (X:Td)(i1 t2 b5 t33 t36:AV) (K:KvP) (s:Hq):Prop:=
 oK (qAT t33 (.bool true) t36) λv_132=>qAQ v_132
 (K (.int .i64 2) s)
 (qEO X i1 t2 b5 K s)
def qCs (X:Td)(i1 t2 b5 t28 t31:AV) (K:KvP) (s:Hq):Prop:=
 oK (qAT t28 (.bool true) t31) λv_131=>qAQ v_131
 (qCG X i1 t2 b5 v_131 .undef K s)
 (oK (qAC 2 b5) λv_133=>oK (rd1 s v_133) λv_134=>oK (negB false (eqV 0 true v_134 (.int .u32 0))) λv_135=>qCG X i1 t2 b5 v_131 v_135 K s)
def qDY (X:Td)(i1 t2 b5 t23 t26:AV) (K:KvP) (s:Hq):Prop:=
 oK (qAT t23 (.bool true) t26) λv_130=>qAQ v_130
 (qCs X i1 t2 b5 v_130 .undef K s)
 (oK (qAC 1 b5) λv_136=>oK (rd1 s v_136) λv_137=>oK (qAH .gtr v_137 (.int .u32 16777215)) λv_138=>qCs X i1 t2 b5 v_130 v_138 K s)
def qNs (X:Td)(t0 i1:AV) (K:KvP) (s:Hq):Prop:=
 boxK 31 t0 (λB0 S1=>oK (qAC 4 B0) λv_2=>oK (rd1 S1 v_2) λv_3=>oK (qAZ 6 v_3 i1) λv_4=>oK (rdN S1 6 v_4) λv_5=>newK 87 [(.int .i64 0),(.int .u32 0),(.int .u32 0),(.int .u32 0),(.int .i64 0),(.int .u32 0)] (λB6 S7=>oK (qBY S7 6 (.ptr B6 0) (.agg v_5)) λS8=>oK (qAC 0 (.ptr B6 0)) λv_120=>oK (rd1 S8 v_120) λv_121=>oK (qAC 3 B0) λv_122=>oK (rd1 S8 v_122) λv_123=>oK (qAR v_123) λv_124=>oK (qAH .sub (.int .i64 v_124) (.int .i64 1)) λv_126=>wC Tryz.prog X 79 [v_121,(.int .i64 0),v_126] (λv_127 S128=>oK (qAo .not v_127) λv_129=>qAQ v_129
 (qDY X i1 B0 (.ptr B6 0) v_129 .undef K S128)
 (oK (qAC 1 (.ptr B6 0)) λv_139=>oK (rd1 S128 v_139) λv_140=>oK (qAH .lss v_140 (.int .u32 1)) λv_141=>qDY X i1 B0 (.ptr B6 0) v_129 v_141 K S128)) S8) S1) s
def qBn:Nat→List Nat:=λk=>cond (Nat.beq k 44) [9] (cond (Nat.beq k 20) [7] (cond (Nat.beq k 10) [6] ([])))
noncomputable def qII:Code:=qBV 3 (qAU Tryz.f157)
noncomputable def qIC:Code:=qBV 1 qII
noncomputable def qIG:Code:=qBV 1 qIC
noncomputable def qIE:Code:=qBV 1 qIG
noncomputable def qIR:Code:=qBV 2 qIE
noncomputable def qQ7:Code:=qBV 1 qIR
theorem qN1 (X:Td)(K:KvP) (env:Env) (s:Hq):wpC Tryz.prog X qBn Tryz.f157.ntmps none qQ7 env (λe env s=>retK e (resK Tryz.prog Tryz.f157.results.toList env (λvs=>K (oneV vs) s) s)) s=qGE X K s:=by kernel_rfl
theorem qNl (X:Td)(K:KvP) (env:Env) (s:Hq):wpC Tryz.prog X qBn Tryz.f157.ntmps none qIR env (λe env s=>retK e (resK Tryz.prog Tryz.f157.results.toList env (λvs=>K (oneV vs) s) s)) s=qEN X (env 1) (env 2) (env 5) (env 8) K s:=(qBa 1 (λenv s=>qGE X K s) qIR (by kernel_rfl) (λenv s=>qN1 X K env s) env s).trans (by kernel_rfl)
theorem qMm (X:Td)(K:KvP) (env:Env) (s:Hq):wpC Tryz.prog X qBn Tryz.f157.ntmps none qIE env (λe env s=>retK e (resK Tryz.prog Tryz.f157.results.toList env (λvs=>K (oneV vs) s) s)) s=qEa X (env 1) (env 2) (env 5) K s:=(qBa 2 (λenv s=>qEN X (env 1) (env 2) (env 5) (env 8) K s) qIE (by kernel_rfl) (λenv s=>qNl X K env s) env s).trans (by kernel_rfl)
theorem qMV (X:Td)(K:KvP) (env:Env) (s:Hq):wpC Tryz.prog X qBn Tryz.f157.ntmps none qIG env (λe env s=>retK e (resK Tryz.prog Tryz.f157.results.toList env (λvs=>K (oneV vs) s) s)) s=qEd X (env 1) (env 2) (env 5) K s:=(qBa 1 (λenv s=>qEa X (env 1) (env 2) (env 5) K s) qIG (by kernel_rfl) (λenv s=>qMm X K env s) env s).trans (by kernel_rfl)
theorem qNE (X:Td)(K:KvP) (env:Env) (s:Hq):wpC Tryz.prog X qBn Tryz.f157.ntmps none qIC env (λe env s=>retK e (resK Tryz.prog Tryz.f157.results.toList env (λvs=>K (oneV vs) s) s)) s=qEe X (env 1) (env 2) (env 5) K s:=(qBa 1 (λenv s=>qEd X (env 1) (env 2) (env 5) K s) qIC (by kernel_rfl) (λenv s=>qMV X K env s) env s).trans (by kernel_rfl)
theorem qM5 (X:Td)(K:KvP) (env:Env) (s:Hq):wpC Tryz.prog X qBn Tryz.f157.ntmps none qII env (λe env s=>retK e (resK Tryz.prog Tryz.f157.results.toList env (λvs=>K (oneV vs) s) s)) s=qEO X (env 1) (env 2) (env 5) K s:=(qBa 1 (λenv s=>qEe X (env 1) (env 2) (env 5) K s) qII (by kernel_rfl) (λenv s=>qNE X K env s) env s).trans (by kernel_rfl)
theorem qRu (X:Td)(t0 i1:AV) (K:KvP) (s:Hq):wpC Tryz.prog X qBn Tryz.f157.ntmps none (qAU Tryz.f157) (qJf [t0,i1]) (λe env s=>retK e (resK Tryz.prog Tryz.f157.results.toList env (λvs=>K (oneV vs) s) s)) s=qNs X t0 i1 K s:=(qBa 3 (λenv s=>qEO X (env 1) (env 2) (env 5) K s) (qAU Tryz.f157) (by kernel_rfl) (λenv s=>qM5 X K env s) _ s).trans (by kernel_rfl)
theorem qSh {X:Td} (hX:FrX X) (hn:X 157=none) {t0 i1:AV} {K:KvP} {s:Hq} (h:qNs X t0 i1 K s):wC Tryz.prog X 157 [t0,i1] K s:=
 qAL hX qBn hn Tryz.func157 (by kernel_rfl:Tryz.f157.body=some (qAU Tryz.f157)) (by kernel_rfl) ((qRu X t0 i1 K s).mpr h)
theorem qSS {t0 i1:AV} {K:KvP} {s:Hq} (h:qNs XX t0 i1 K s):wC Tryz.prog XX 157 [t0,i1] K s:=qSh qBm rfl h
def qFC (X:Td)(K:KvP) (s:Hq):Prop:=
 K (.int .i64 0) s
def qFE (X:Td)(n9 j10:AV) (I6:IvP) (m6:Nat) (I5:IvP) (m5:Nat) (K:KvP) (s:Hq):Prop:=
 oK (qAH .add j10 (.int .i64 1)) λv_26=>∃ m',m' < m6∧I6 [n9,v_26] s m'
def qJ6 (X:Td)(i1 t2 t5 k8 n9 j10:AV) (I6:IvP) (m6:Nat) (I5:IvP) (m5:Nat) (K:KvP) (s:Hq):Prop:=
 oK (qAH .leq j10 i1) λv_14=>qAQ v_14
 (oK (qAC 5 t2) λv_15=>oK (rd1 s v_15) λv_16=>oK (qAZ 2 v_16 j10) λv_17=>oK (qAC 0 v_17) λv_18=>oK (rd1 s v_18) λv_19=>oK (qAC 0 t5) λv_20=>oK (rd1 s v_20) λv_21=>oK (qAZ 1 v_21 k8) λv_22=>oK (rd1 s v_22) λv_23=>wC Tryz.prog X 102 [v_19,v_23] (λv_24 S25=>qAQ v_24
 (oK (qAH .add n9 (.int .i64 1)) λv_27=>qFE X v_27 j10 I6 m6 I5 m5 K S25)
 (qFE X n9 j10 I6 m6 I5 m5 K S25)) s)
 (oK (qAH .gtr n9 (.int .i64 32)) λv_28=>qAQ v_28
 (K (.int .i64 7) s)
 (oK (qAH .add k8 (.int .i64 1)) λv_29=>∃ m',m' < m5∧I5 [v_29] s m'))
def qKG (X:Td)(i1 t2 t5 k8:AV) (I5:IvP) (m5:Nat) (K:KvP) (s:Hq):Prop:=
 oK (qAC 0 t5) λv_9=>oK (rd1 s v_9) λv_10=>oK (qAR v_10) λv_11=>oK (qAH .lss k8 (.int .i64 v_11)) λv_13=>qAQ v_13
 (∃ I6:IvP,(∃ m,I6 [(.int .i64 0),(.int .i64 0)] s m)∧∀ (f:Env) (s:Hq) (m6:Nat),I6 [f 9,f 10] s m6→
 qJ6 X i1 t2 t5 k8 (f 9) (f 10) I6 m6 I5 m5 K s)
 (qFC X  K s)
def qDW (X:Td)(i1 t2 t5:AV) (K:KvP) (s:Hq):Prop:=
 ∃ I5:IvP,(∃ m,I5 [(.int .i64 0)] s m)∧∀ (f:Env) (s:Hq) (m5:Nat),I5 [f 8] s m5→
 qKG X i1 t2 t5 (f 8) I5 m5 K s
def qFF (X:Td)(i1 t2 t5 t65 t69:AV) (K:KvP) (s:Hq):Prop:=
 oK (qAT t65 (.bool true) t69) λv_35=>qAQ v_35
 (K (.int .i64 10) s)
 (qDW X i1 t2 t5 K s)
def qDg (X:Td)(i1 t2 t5:AV) (K:KvP) (s:Hq):Prop:=
 oK (qAC 0 t5) λv_30=>oK (rd1 s v_30) λv_31=>wC Tryz.prog X 191 [v_31] (λv_32 S33=>oK (qAo .not v_32) λv_34=>qAQ v_34
 (qFF X i1 t2 t5 v_34 .undef K S33)
 (oK (qAC 1 t5) λv_36=>oK (rd1 S33 v_36) λv_37=>wC Tryz.prog X 191 [v_37] (λv_38 S39=>oK (qAo .not v_38) λv_40=>qFF X i1 t2 t5 v_34 v_40 K S39) S33)) s
def qKT (X:Td)(i1 t2 t5 k7:AV) (I9:IvP) (m9:Nat) (K:KvP) (s:Hq):Prop:=
 oK (qAC 1 t5) λv_41=>oK (rd1 s v_41) λv_42=>oK (qAR v_42) λv_43=>oK (qAH .lss k7 (.int .i64 v_43)) λv_45=>qAQ v_45
 (oK (qAC 1 t5) λv_46=>oK (rd1 s v_46) λv_47=>oK (qAZ 1 v_47 k7) λv_48=>oK (rd1 s v_48) λv_49=>oK (qAC 4 t2) λv_50=>oK (rd1 s v_50) λv_51=>oK (qAR v_51) λv_52=>oK (qAH .sub (.int .i64 v_52) (.int .i64 1)) λv_54=>wC Tryz.prog X 79 [v_49,(.int .i64 0),v_54] (λv_55 S56=>oK (qAo .not v_55) λv_57=>qAQ v_57
 (K (.int .i64 2) S56)
 (oK (qAH .add k7 (.int .i64 1)) λv_58=>∃ m',m' < m9∧I9 [v_58] S56 m')) s)
 (qDg X i1 t2 t5 K s)
def qDV (X:Td)(i1 t2 t5:AV) (K:KvP) (s:Hq):Prop:=
 ∃ I9:IvP,(∃ m,I9 [(.int .i64 0)] s m)∧∀ (f:Env) (s:Hq) (m9:Nat),I9 [f 7] s m9→
 qKT X i1 t2 t5 (f 7) I9 m9 K s
def qJU (X:Td)(i1 t2 t5 k6:AV) (I10:IvP) (m10:Nat) (K:KvP) (s:Hq):Prop:=
 oK (qAC 0 t5) λv_59=>oK (rd1 s v_59) λv_60=>oK (qAR v_60) λv_61=>oK (qAH .lss k6 (.int .i64 v_61)) λv_63=>qAQ v_63
 (oK (qAC 0 t5) λv_64=>oK (rd1 s v_64) λv_65=>oK (qAZ 1 v_65 k6) λv_66=>oK (rd1 s v_66) λv_67=>oK (qAC 0 t2) λv_68=>oK (rd1 s v_68) λv_69=>oK (qAH .sub v_69 (.int .i64 1)) λv_70=>wC Tryz.prog X 79 [v_67,(.int .i64 0),v_70] (λv_71 S72=>oK (qAo .not v_71) λv_73=>qAQ v_73
 (K (.int .i64 2) S72)
 (oK (qAH .add k6 (.int .i64 1)) λv_74=>∃ m',m' < m10∧I10 [v_74] S72 m')) s)
 (qDV X i1 t2 t5 K s)
def qCq (X:Td)(i1 t2 t5:AV) (K:KvP) (s:Hq):Prop:=
 ∃ I10:IvP,(∃ m,I10 [(.int .i64 0)] s m)∧∀ (f:Env) (s:Hq) (m10:Nat),I10 [f 6] s m10→
 qJU X i1 t2 t5 (f 6) I10 m10 K s
def qED (X:Td)(i1 t2 t5 t20 t24:AV) (K:KvP) (s:Hq):Prop:=
 oK (qAT t20 (.bool true) t24) λv_80=>qAQ v_80
 (K (.int .i64 3) s)
 (qCq X i1 t2 t5 K s)
def qKs (X:Td)(t0 i1:AV) (K:KvP) (s:Hq):Prop:=
 boxK 31 t0 (λB0 S1=>oK (qAC 5 B0) λv_2=>oK (rd1 S1 v_2) λv_3=>oK (qAZ 2 v_3 i1) λv_4=>oK (rdN S1 2 v_4) λv_5=>newK 94 [.nilslc,.nilslc] (λB6 S7=>oK (qBY S7 2 (.ptr B6 0) (.agg v_5)) λS8=>oK (qAC 0 (.ptr B6 0)) λv_75=>oK (rd1 S8 v_75) λv_76=>oK (qAR v_76) λv_77=>oK (negB false (eqV 0 true (.int .i64 v_77) (.int .i64 0))) λv_79=>qAQ v_79
 (qED X i1 B0 (.ptr B6 0) v_79 .undef K S8)
 (oK (qAC 1 (.ptr B6 0)) λv_81=>oK (rd1 S8 v_81) λv_82=>oK (qAR v_82) λv_83=>oK (negB false (eqV 0 true (.int .i64 v_83) (.int .i64 0))) λv_85=>qED X i1 B0 (.ptr B6 0) v_79 v_85 K S8)) S1) s
def qB0:Nat→List Nat:=λk=>cond (Nat.beq k 34) [8] (cond (Nat.beq k 42) [9,10] (cond (Nat.beq k 20) [7] (cond (Nat.beq k 10) [6] ([]))))
noncomputable def qHK:Code:=qBV 3 (qAU Tryz.f158)
noncomputable def qHM:Code:=qBV 1 qHK
noncomputable def qHg:Code:=qBV 1 qHM
noncomputable def qHS:Code:=qBV 1 qHg
noncomputable def qPW:Code:=qBV 1 qHS
theorem qL6 (X:Td)(K:KvP) (env:Env) (s:Hq):wpC Tryz.prog X qB0 Tryz.f158.ntmps none qPW env (λe env s=>retK e (resK Tryz.prog Tryz.f158.results.toList env (λvs=>K (oneV vs) s) s)) s=qFC X K s:=by kernel_rfl
theorem qLt (X:Td)(K:KvP) (env:Env) (s:Hq):wpC Tryz.prog X qB0 Tryz.f158.ntmps none qHS env (λe env s=>retK e (resK Tryz.prog Tryz.f158.results.toList env (λvs=>K (oneV vs) s) s)) s=qDW X (env 1) (env 2) (env 5) K s:=(qBa 1 (λenv s=>qFC X K s) qHS (by kernel_rfl) (λenv s=>qL6 X K env s) env s).trans (by kernel_rfl)
theorem qLw (X:Td)(K:KvP) (env:Env) (s:Hq):wpC Tryz.prog X qB0 Tryz.f158.ntmps none qHg env (λe env s=>retK e (resK Tryz.prog Tryz.f158.results.toList env (λvs=>K (oneV vs) s) s)) s=qDg X (env 1) (env 2) (env 5) K s:=(qBa 1 (λenv s=>qDW X (env 1) (env 2) (env 5) K s) qHg (by kernel_rfl) (λenv s=>qLt X K env s) env s).trans (by kernel_rfl)
theorem qL2 (X:Td)(K:KvP) (env:Env) (s:Hq):wpC Tryz.prog X qB0 Tryz.f158.ntmps none qHM env (λe env s=>retK e (resK Tryz.prog Tryz.f158.results.toList env (λvs=>K (oneV vs) s) s)) s=qDV X (env 1) (env 2) (env 5) K s:=(qBa 1 (λenv s=>qDg X (env 1) (env 2) (env 5) K s) qHM (by kernel_rfl) (λenv s=>qLw X K env s) env s).trans (by kernel_rfl)
theorem qLq (X:Td)(K:KvP) (env:Env) (s:Hq):wpC Tryz.prog X qB0 Tryz.f158.ntmps none qHK env (λe env s=>retK e (resK Tryz.prog Tryz.f158.results.toList env (λvs=>K (oneV vs) s) s)) s=qCq X (env 1) (env 2) (env 5) K s:=(qBa 1 (λenv s=>qDV X (env 1) (env 2) (env 5) K s) qHK (by kernel_rfl) (λenv s=>qL2 X K env s) env s).trans (by kernel_rfl)
theorem qPV (X:Td)(t0 i1:AV) (K:KvP) (s:Hq):wpC Tryz.prog X qB0 Tryz.f158.ntmps none (qAU Tryz.f158) (qJf [t0,i1]) (λe env s=>retK e (resK Tryz.prog Tryz.f158.results.toList env (λvs=>K (oneV vs) s) s)) s=qKs X t0 i1 K s:=(qBa 3 (λenv s=>qCq X (env 1) (env 2) (env 5) K s) (qAU Tryz.f158) (by kernel_rfl) (λenv s=>qLq X K env s) _ s).trans (by kernel_rfl)
theorem qQe {X:Td} (hX:FrX X) (hn:X 158=none) {t0 i1:AV} {K:KvP} {s:Hq} (h:qKs X t0 i1 K s):wC Tryz.prog X 158 [t0,i1] K s:=
 qAL hX qB0 hn Tryz.func158 (by kernel_rfl:Tryz.f158.body=some (qAU Tryz.f158)) (by kernel_rfl) ((qPV X t0 i1 K s).mpr h)
theorem qQi {t0 i1:AV} {K:KvP} {s:Hq} (h:qKs XX t0 i1 K s):wC Tryz.prog XX 158 [t0,i1] K s:=qQe qBm rfl h
def qIy (X:Td)(K:KvP) (s:Hq):Prop:=
 K (.int .i64 0) s
def qI6 (X:Td)(k9 t147 t153 t157 t162:AV) (I5:IvP) (m5:Nat) (K:KvP) (s:Hq):Prop:=
 oK (qAT t157 t162 (.bool false)) λv_48=>oK (qAT t153 (.bool true) v_48) λv_49=>oK (qAT t147 v_49 (.bool false)) λv_50=>qAQ v_50
 (K (.int .i64 11) s)
 (oK (qAH .add k9 (.int .i64 1)) λv_51=>∃ m',m' < m5∧I5 [v_51] s m')
def qPL (X:Td)(i1 t2 h5 k9:AV) (I5:IvP) (m5:Nat) (K:KvP) (s:Hq):Prop:=
 oK (qAH .lss k9 i1) λv_24=>qAQ v_24
 (oK (qAC 6 t2) λv_25=>oK (rd1 s v_25) λv_26=>oK (qAZ 4 v_26 k9) λv_27=>oK (rdN s 4 v_27) λv_28=>newK 140 [(.int .u64 0),(.int .u32 0),(.int .i64 0),(.int .i64 0)] (λB29 S30=>oK (qBY S30 4 (.ptr B29 0) (.agg v_28)) λS31=>oK (qAC 2 (.ptr B29 0)) λv_32=>oK (rd1 S31 v_32) λv_33=>oK (qAC 2 h5) λv_34=>oK (rd1 S31 v_34) λv_35=>oK (negB false (eqV 0 false v_33 v_35)) λv_36=>qAQ v_36
 (oK (qAC 0 (.ptr B29 0)) λv_37=>oK (rd1 S31 v_37) λv_38=>oK (qAC 0 h5) λv_39=>oK (rd1 S31 v_39) λv_40=>oK (negB false (eqV 0 false v_38 v_40)) λv_41=>qAQ v_41
 (oK (qAT v_41 (.bool true) .undef) λv_42=>oK (qAT v_36 v_42 (.bool false)) λv_43=>qAQ v_43
 (K (.int .i64 11) S31)
 (oK (qAH .add k9 (.int .i64 1)) λv_44=>∃ m',m' < m5∧I5 [v_44] S31 m'))
 (oK (qAC 1 h5) λv_45=>oK (rd1 S31 v_45) λv_46=>oK (negB true (eqV 0 true v_46 (.int .u32 0))) λv_47=>qAQ v_47
 (oK (qAC 1 (.ptr B29 0)) λv_52=>oK (rd1 S31 v_52) λv_53=>oK (qAC 1 h5) λv_54=>oK (rd1 S31 v_54) λv_55=>oK (negB false (eqV 0 false v_53 v_55)) λv_56=>qI6 X k9 v_36 v_41 v_47 v_56 I5 m5 K S31)
 (qI6 X k9 v_36 v_41 v_47 .undef I5 m5 K S31)))
 (oK (qAT v_36 .undef (.bool false)) λv_57=>qAQ v_57
 (K (.int .i64 11) S31)
 (oK (qAH .add k9 (.int .i64 1)) λv_58=>∃ m',m' < m5∧I5 [v_58] S31 m'))) s)
 (qIy X  K s)
def qCp (X:Td)(i1 t2 h5:AV) (K:KvP) (s:Hq):Prop:=
 ∃ I5:IvP,(∃ m,I5 [(.int .i64 0)] s m)∧∀ (f:Env) (s:Hq) (m5:Nat),I5 [f 9] s m5→
 qPL X i1 t2 h5 (f 9) I5 m5 K s
def qI1 (X:Td)(i1 t2 h5 t101 t124 t129:AV) (K:KvP) (s:Hq):Prop:=
 oK (qAT t124 (.bool true) t129) λv_72=>oK (qAT t101 v_72 (.bool false)) λv_73=>qAQ v_73
 (K (.int .i64 3) s)
 (qCp X i1 t2 h5 K s)
def qGq (X:Td)(i1 t2 h5 b8 t101 t108 t114:AV) (K:KvP) (s:Hq):Prop:=
 oK (qAT t108 (.bool true) t114) λv_70=>qAQ v_70
 (oK (qAT v_70 (.bool true) .undef) λv_71=>qAQ v_71
 (qI1 X i1 t2 h5 t101 v_71 .undef K s)
 (oK (qAC 1 h5) λv_74=>oK (rd1 s v_74) λv_75=>oK (qAC 5 b8) λv_76=>oK (rd1 s v_76) λv_77=>oK (negB false (eqV 0 false v_75 v_77)) λv_78=>qI1 X i1 t2 h5 t101 v_71 v_78 K s))
 (oK (qAC 1 h5) λv_79=>oK (rd1 s v_79) λv_80=>oK (qAC 3 b8) λv_81=>oK (rdN s 2 v_81) λv_82=>wC Tryz.prog X 189 [(.agg v_82)] (λv_83 S84=>(∀ b,s b≠none→s b=none→S84 b=none)→
 oK (negB false (eqV 0 false v_80 v_83)) λv_85=>oK (qAT v_70 (.bool true) v_85) λv_86=>qAQ v_86
 (oK (qAT v_86 (.bool true) .undef) λv_87=>oK (qAT t101 v_87 (.bool false)) λv_88=>qAQ v_88
 (K (.int .i64 3) (add s S84))
 (qCp X i1 t2 h5 K (add s S84)))
 (oK (qAC 1 h5) λv_89=>oK (rd1 (add s S84) v_89) λv_90=>oK (qAC 5 b8) λv_91=>oK (rd1 (add s S84) v_91) λv_92=>oK (negB false (eqV 0 false v_90 v_92)) λv_93=>oK (qAT v_86 (.bool true) v_93) λv_94=>oK (qAT t101 v_94 (.bool false)) λv_95=>qAQ v_95
 (K (.int .i64 3) (add s S84))
 (qCp X i1 t2 h5 K (add s S84)))) (frz s))
def qIs (X:Td)(i1 t2 h5 b8 t96 t99:AV) (K:KvP) (s:Hq):Prop:=
 oK (qAT t96 t99 (.bool false)) λv_62=>qAQ v_62
 (oK (qAC 3 b8) λv_63=>oK (rdN s 2 v_63) λv_64=>oK (qAC 1 h5) λv_65=>oK (rd1 s v_65) λv_66=>wC Tryz.prog X 188 [(.agg v_64),v_66] (λv_67 S68=>oK (qAo .not v_67) λv_69=>qAQ v_69
 (qGq X i1 t2 h5 b8 v_62 v_69 .undef K S68)
 (oK (qAC 1 h5) λv_96=>oK (rd1 S68 v_96) λv_97=>oK (qAC 3 b8) λv_98=>oK (qAC 0 v_98) λv_99=>oK (rd1 S68 v_99) λv_100=>oK (negB false (eqV 0 false v_97 v_100)) λv_101=>qGq X i1 t2 h5 b8 v_62 v_69 v_101 K S68)) s)
 (oK (qAT v_62 .undef (.bool false)) λv_102=>qAQ v_102
 (K (.int .i64 3) s)
 (qCp X i1 t2 h5 K s))
def qD8 (X:Td)(i1 t2 h5 b8:AV) (K:KvP) (s:Hq):Prop:=
 oK (qAC 5 b8) λv_59=>oK (rd1 s v_59) λv_60=>oK (negB true (eqV 0 true v_60 (.int .u32 0))) λv_61=>qAQ v_61
 (oK (qAC 1 h5) λv_103=>oK (rd1 s v_103) λv_104=>oK (negB true (eqV 0 true v_104 (.int .u32 0))) λv_105=>qIs X i1 t2 h5 b8 v_61 v_105 K s)
 (qIs X i1 t2 h5 b8 v_61 .undef K s)
def qHj (X:Td)(i1 t2 h5 b8 t83 t87 t90:AV) (K:KvP) (s:Hq):Prop:=
 oK (qAT t87 t90 (.bool false)) λv_114=>oK (qAT t83 (.bool true) v_114) λv_115=>qAQ v_115
 (K (.int .i64 3) s)
 (qD8 X i1 t2 h5 b8 K s)
def qHX (X:Td)(i1 t2 h5 b8 t80 t81:AV) (K:KvP) (s:Hq):Prop:=
 oK (qAT t80 (.bool true) t81) λv_109=>qAQ v_109
 (oK (qAT v_109 (.bool true) .undef) λv_110=>qAQ v_110
 (K (.int .i64 3) s)
 (qD8 X i1 t2 h5 b8 K s))
 (oK (qAC 5 b8) λv_111=>oK (rd1 s v_111) λv_112=>oK (negB false (eqV 0 true v_112 (.int .u32 0))) λv_113=>qAQ v_113
 (oK (qAC 1 h5) λv_116=>oK (rd1 s v_116) λv_117=>oK (negB true (eqV 0 true v_117 (.int .u32 0))) λv_118=>qHj X i1 t2 h5 b8 v_109 v_113 v_118 K s)
 (qHj X i1 t2 h5 b8 v_109 v_113 .undef K s))
def qFS (X:Td)(i1 t2 h5:AV) (K:KvP) (s:Hq):Prop:=
 oK (qAC 0 h5) λv_9=>oK (rd1 s v_9) λv_10=>wC Tryz.prog X 193 [v_10] (λv_11 S12=>oK (qAp v_11 0) λv_13=>oK (qAp v_11 1) λv_14=>oK (qAC 4 t2) λv_15=>oK (rd1 S12 v_15) λv_16=>oK (qAC 2 h5) λv_17=>oK (rd1 S12 v_17) λv_18=>oK (qAZ 6 v_16 v_18) λv_19=>oK (rdN S12 6 v_19) λv_20=>newK 87 [(.int .i64 0),(.int .u32 0),(.int .u32 0),(.int .u32 0),(.int .i64 0),(.int .u32 0)] (λB21 S22=>oK (qBY S22 6 (.ptr B21 0) (.agg v_20)) λS23=>oK (qAC 0 h5) λv_106=>oK (rd1 S23 v_106) λv_107=>oK (negB false (eqV 0 true v_107 (.int .u64 1577058561))) λv_108=>qAQ v_108
 (qHX X i1 t2 h5 (.ptr B21 0) v_108 .undef K S23)
 (qHX X i1 t2 h5 (.ptr B21 0) v_108 v_14 K S23)) S12) s
def qHk (X:Td)(i1 t2 h5 t52 t63:AV) (K:KvP) (s:Hq):Prop:=
 oK (qAT t52 t63 (.bool false)) λv_122=>qAQ v_122
 (K (.int .i64 8) s)
 (qFS X i1 t2 h5 K s)
def qIr (X:Td)(i1 t2 h5:AV) (K:KvP) (s:Hq):Prop:=
 oK (qAC 3 h5) λv_119=>oK (rd1 s v_119) λv_120=>oK (negB true (eqV 0 true v_120 (.int .i64 (-1)))) λv_121=>qAQ v_121
 (oK (qAC 5 t2) λv_123=>oK (rd1 s v_123) λv_124=>oK (qAC 3 h5) λv_125=>oK (rd1 s v_125) λv_126=>oK (qAZ 2 v_124 v_126) λv_127=>oK (qAC 1 v_127) λv_128=>oK (rd1 s v_128) λv_129=>oK (qAC 2 h5) λv_130=>oK (rd1 s v_130) λv_131=>wC Tryz.prog X 102 [v_129,v_131] (λv_132 S133=>oK (qAo .not v_132) λv_134=>qHk X i1 t2 h5 v_121 v_134 K S133) s)
 (qHk X i1 t2 h5 v_121 .undef K s)
def qCn (X:Td)(i1 t2 h5 t39 t47:AV) (K:KvP) (s:Hq):Prop:=
 oK (qAT t39 (.bool true) t47) λv_141=>qAQ v_141
 (K (.int .i64 2) s)
 (qIr X i1 t2 h5 K s)
def qDE (X:Td)(i1 t2 h5 t29 t37:AV) (K:KvP) (s:Hq):Prop:=
 oK (qAT t29 (.bool true) t37) λv_140=>qAQ v_140
 (qCn X i1 t2 h5 v_140 .undef K s)
 (oK (qAC 3 h5) λv_142=>oK (rd1 s v_142) λv_143=>oK (qAC 5 t2) λv_144=>oK (rd1 s v_144) λv_145=>oK (qAR v_145) λv_146=>oK (qAH .sub (.int .i64 v_146) (.int .i64 1)) λv_148=>wC Tryz.prog X 79 [v_143,(.int .i64 (-1)),v_148] (λv_149 S150=>oK (qAo .not v_149) λv_151=>qCn X i1 t2 h5 v_140 v_151 K S150) s)
def qDx (X:Td)(i1 t2 h5 t24 t27:AV) (K:KvP) (s:Hq):Prop:=
 oK (qAT t24 (.bool true) t27) λv_139=>qAQ v_139
 (qDE X i1 t2 h5 v_139 .undef K s)
 (oK (qAC 2 h5) λv_152=>oK (rd1 s v_152) λv_153=>oK (qAC 4 t2) λv_154=>oK (rd1 s v_154) λv_155=>oK (qAR v_155) λv_156=>oK (qAH .sub (.int .i64 v_156) (.int .i64 1)) λv_158=>wC Tryz.prog X 79 [v_153,(.int .i64 0),v_158] (λv_159 S160=>oK (qAo .not v_159) λv_161=>qDE X i1 t2 h5 v_139 v_161 K S160) s)
def qFd (X:Td)(i1 t2 h5 t19 t22:AV) (K:KvP) (s:Hq):Prop:=
 oK (qAT t19 (.bool true) t22) λv_138=>qAQ v_138
 (qDx X i1 t2 h5 v_138 .undef K s)
 (oK (qAC 0 h5) λv_162=>oK (rd1 s v_162) λv_163=>wC Tryz.prog X 192 [v_163] (λv_164 S165=>qDx X i1 t2 h5 v_138 v_164 K S165) s)
def qS9 (X:Td)(t0 i1:AV) (K:KvP) (s:Hq):Prop:=
 boxK 31 t0 (λB0 S1=>oK (qAC 6 B0) λv_2=>oK (rd1 S1 v_2) λv_3=>oK (qAZ 4 v_3 i1) λv_4=>oK (rdN S1 4 v_4) λv_5=>newK 140 [(.int .u64 0),(.int .u32 0),(.int .i64 0),(.int .i64 0)] (λB6 S7=>oK (qBY S7 4 (.ptr B6 0) (.agg v_5)) λS8=>oK (qAC 0 (.ptr B6 0)) λv_135=>oK (rd1 S8 v_135) λv_136=>oK (negB false (eqV 0 true v_136 (.int .u64 0))) λv_137=>qAQ v_137
 (qFd X i1 B0 (.ptr B6 0) v_137 .undef K S8)
 (oK (qAC 0 (.ptr B6 0)) λv_166=>oK (rd1 S8 v_166) λv_167=>oK (qAH .gtr v_167 (.int .u64 281474976710655)) λv_168=>qFd X i1 B0 (.ptr B6 0) v_137 v_168 K S8)) S1) s
def qDD:Nat→List Nat:=λk=>cond (Nat.beq k 26) [9] ([])
noncomputable def qK7:Code:=qBV 3 (qAU Tryz.f159)
noncomputable def qK6:Code:=qBV 1 qK7
noncomputable def qLA:Code:=qBV 3 qK6
noncomputable def qLF:Code:=qBV 1 qLA
noncomputable def qWw:Code:=qBV 1 qLF
theorem qQn (X:Td)(K:KvP) (env:Env) (s:Hq):wpC Tryz.prog X qDD Tryz.f159.ntmps none qWw env (λe env s=>retK e (resK Tryz.prog Tryz.f159.results.toList env (λvs=>K (oneV vs) s) s)) s=qIy X K s:=by kernel_rfl
theorem qQH (X:Td)(K:KvP) (env:Env) (s:Hq):wpC Tryz.prog X qDD Tryz.f159.ntmps none qLF env (λe env s=>retK e (resK Tryz.prog Tryz.f159.results.toList env (λvs=>K (oneV vs) s) s)) s=qCp X (env 1) (env 2) (env 5) K s:=(qBa 1 (λenv s=>qIy X K s) qLF (by kernel_rfl) (λenv s=>qQn X K env s) env s).trans (by kernel_rfl)
theorem qQO (X:Td)(K:KvP) (env:Env) (s:Hq):wpC Tryz.prog X qDD Tryz.f159.ntmps none qLA env (λe env s=>retK e (resK Tryz.prog Tryz.f159.results.toList env (λvs=>K (oneV vs) s) s)) s=qD8 X (env 1) (env 2) (env 5) (env 8) K s:=(qBa 1 (λenv s=>qCp X (env 1) (env 2) (env 5) K s) qLA (by kernel_rfl) (λenv s=>qQH X K env s) env s).trans (by kernel_rfl)
theorem qQK (X:Td)(K:KvP) (env:Env) (s:Hq):wpC Tryz.prog X qDD Tryz.f159.ntmps none qK6 env (λe env s=>retK e (resK Tryz.prog Tryz.f159.results.toList env (λvs=>K (oneV vs) s) s)) s=qFS X (env 1) (env 2) (env 5) K s:=(qBa 3 (λenv s=>qD8 X (env 1) (env 2) (env 5) (env 8) K s) qK6 (by kernel_rfl) (λenv s=>qQO X K env s) env s).trans (by kernel_rfl)
theorem qQP (X:Td)(K:KvP) (env:Env) (s:Hq):wpC Tryz.prog X qDD Tryz.f159.ntmps none qK7 env (λe env s=>retK e (resK Tryz.prog Tryz.f159.results.toList env (λvs=>K (oneV vs) s) s)) s=qIr X (env 1) (env 2) (env 5) K s:=(qBa 1 (λenv s=>qFS X (env 1) (env 2) (env 5) K s) qK7 (by kernel_rfl) (λenv s=>qQK X K env s) env s).trans (by kernel_rfl)
theorem qWm (X:Td)(t0 i1:AV) (K:KvP) (s:Hq):wpC Tryz.prog X qDD Tryz.f159.ntmps none (qAU Tryz.f159) (qJf [t0,i1]) (λe env s=>retK e (resK Tryz.prog Tryz.f159.results.toList env (λvs=>K (oneV vs) s) s)) s=qS9 X t0 i1 K s:=(qBa 3 (λenv s=>qIr X (env 1) (env 2) (env 5) K s) (qAU Tryz.f159) (by kernel_rfl) (λenv s=>qQP X K env s) _ s).trans (by kernel_rfl)
theorem qVi {X:Td} (hX:FrX X) (hn:X 159=none) {t0 i1:AV} {K:KvP} {s:Hq} (h:qS9 X t0 i1 K s):wC Tryz.prog X 159 [t0,i1] K s:=
 qAL hX qDD hn Tryz.func159 (by kernel_rfl:Tryz.f159.body=some (qAU Tryz.f159)) (by kernel_rfl) ((qWm X t0 i1 K s).mpr h)
theorem qWL {t0 i1:AV} {K:KvP} {s:Hq} (h:qS9 XX t0 i1 K s):wC Tryz.prog XX 159 [t0,i1] K s:=qVi qBm rfl h
def qIw (X:Td)(K:KvP) (s:Hq):Prop:=
 K (.int .i64 0) s
def qPO (X:Td)(i1 t2 l5 k6:AV) (I3:IvP) (m3:Nat) (K:KvP) (s:Hq):Prop:=
 oK (qAH .lss k6 i1) λv_9=>qAQ v_9
 (oK (qAC 7 t2) λv_10=>oK (rd1 s v_10) λv_11=>oK (qAZ 4 v_11 k6) λv_12=>oK (rdN s 4 v_12) λv_13=>oK (rdN s 4 l5) λv_14=>oK (negB false (qH3 Tryz.prog 144 (.agg v_13) (.agg v_14))) λv_15=>qAQ v_15
 (K (.int .i64 11) s)
 (oK (qAH .add k6 (.int .i64 1)) λv_16=>∃ m',m' < m3∧I3 [v_16] s m'))
 (qIw X  K s)
def qIx (X:Td)(i1 t2 l5:AV) (K:KvP) (s:Hq):Prop:=
 ∃ I3:IvP,(∃ m,I3 [(.int .i64 0)] s m)∧∀ (f:Env) (s:Hq) (m3:Nat),I3 [f 6] s m3→
 qPO X i1 t2 l5 (f 6) I3 m3 K s
def qIz (X:Td)(i1 t2 l5 t35 t39:AV) (K:KvP) (s:Hq):Prop:=
 oK (qAT t35 (.bool true) t39) λv_22=>qAQ v_22
 (K (.int .i64 3) s)
 (qIx X i1 t2 l5 K s)
def qIk (X:Td)(i1 t2 l5:AV) (K:KvP) (s:Hq):Prop:=
 oK (qAC 0 l5) λv_17=>oK (rd1 s v_17) λv_18=>oK (qAC 1 l5) λv_19=>oK (rd1 s v_19) λv_20=>oK (negB false (eqV 0 false v_18 v_20)) λv_21=>qAQ v_21
 (qIz X i1 t2 l5 v_21 .undef K s)
 (oK (qAC 2 l5) λv_23=>oK (rdN s 2 v_23) λv_24=>wC Tryz.prog X 187 [(.agg v_24)] (λv_25 S26=>oK (qAo .not v_25) λv_27=>qIz X i1 t2 l5 v_21 v_27 K S26) s)
def qGm (X:Td)(i1 t2 l5 t20 t28:AV) (K:KvP) (s:Hq):Prop:=
 oK (qAT t20 (.bool true) t28) λv_38=>qAQ v_38
 (K (.int .i64 2) s)
 (qIk X i1 t2 l5 K s)
def qTe (X:Td)(t0 i1:AV) (K:KvP) (s:Hq):Prop:=
 boxK 31 t0 (λB0 S1=>oK (qAC 7 B0) λv_2=>oK (rd1 S1 v_2) λv_3=>oK (qAZ 4 v_3 i1) λv_4=>oK (rdN S1 4 v_4) λv_5=>newK 144 [(.int .i64 0),(.int .i64 0),(.int .u32 0),(.int .i64 0)] (λB6 S7=>oK (qBY S7 4 (.ptr B6 0) (.agg v_5)) λS8=>oK (qAC 0 (.ptr B6 0)) λv_28=>oK (rd1 S8 v_28) λv_29=>oK (qAC 3 B0) λv_30=>oK (rd1 S8 v_30) λv_31=>oK (qAR v_31) λv_32=>oK (qAH .sub (.int .i64 v_32) (.int .i64 1)) λv_34=>wC Tryz.prog X 79 [v_29,(.int .i64 0),v_34] (λv_35 S36=>oK (qAo .not v_35) λv_37=>qAQ v_37
 (qGm X i1 B0 (.ptr B6 0) v_37 .undef K S36)
 (oK (qAC 1 (.ptr B6 0)) λv_39=>oK (rd1 S36 v_39) λv_40=>oK (qAC 3 B0) λv_41=>oK (rd1 S36 v_41) λv_42=>oK (qAR v_42) λv_43=>oK (qAH .sub (.int .i64 v_43) (.int .i64 1)) λv_45=>wC Tryz.prog X 79 [v_40,(.int .i64 0),v_45] (λv_46 S47=>oK (qAo .not v_46) λv_48=>qGm X i1 B0 (.ptr B6 0) v_37 v_48 K S47) S36)) S8) S1) s
def qFW:Nat→List Nat:=λk=>cond (Nat.beq k 14) [6] ([])
noncomputable def qK3:Code:=qBV 3 (qAU Tryz.f160)
noncomputable def qLC:Code:=qBV 1 qK3
noncomputable def qVt:Code:=qBV 1 qLC
theorem qPy (X:Td)(K:KvP) (env:Env) (s:Hq):wpC Tryz.prog X qFW Tryz.f160.ntmps none qVt env (λe env s=>retK e (resK Tryz.prog Tryz.f160.results.toList env (λvs=>K (oneV vs) s) s)) s=qIw X K s:=by kernel_rfl
theorem qQT (X:Td)(K:KvP) (env:Env) (s:Hq):wpC Tryz.prog X qFW Tryz.f160.ntmps none qLC env (λe env s=>retK e (resK Tryz.prog Tryz.f160.results.toList env (λvs=>K (oneV vs) s) s)) s=qIx X (env 1) (env 2) (env 5) K s:=(qBa 1 (λenv s=>qIw X K s) qLC (by kernel_rfl) (λenv s=>qPy X K env s) env s).trans (by kernel_rfl)
theorem qPj (X:Td)(K:KvP) (env:Env) (s:Hq):wpC Tryz.prog X qFW Tryz.f160.ntmps none qK3 env (λe env s=>retK e (resK Tryz.prog Tryz.f160.results.toList env (λvs=>K (oneV vs) s) s)) s=qIk X (env 1) (env 2) (env 5) K s:=(qBa 1 (λenv s=>qIx X (env 1) (env 2) (env 5) K s) qK3 (by kernel_rfl) (λenv s=>qQT X K env s) env s).trans (by kernel_rfl)
theorem qWE (X:Td)(t0 i1:AV) (K:KvP) (s:Hq):wpC Tryz.prog X qFW Tryz.f160.ntmps none (qAU Tryz.f160) (qJf [t0,i1]) (λe env s=>retK e (resK Tryz.prog Tryz.f160.results.toList env (λvs=>K (oneV vs) s) s)) s=qTe X t0 i1 K s:=(qBa 3 (λenv s=>qIk X (env 1) (env 2) (env 5) K s) (qAU Tryz.f160) (by kernel_rfl) (λenv s=>qPj X K env s) _ s).trans (by kernel_rfl)
theorem qWZ {X:Td} (hX:FrX X) (hn:X 160=none) {t0 i1:AV} {K:KvP} {s:Hq} (h:qTe X t0 i1 K s):wC Tryz.prog X 160 [t0,i1] K s:=
 qAL hX qFW hn Tryz.func160 (by kernel_rfl:Tryz.f160.body=some (qAU Tryz.f160)) (by kernel_rfl) ((qWE X t0 i1 K s).mpr h)
theorem qVs {t0 i1:AV} {K:KvP} {s:Hq} (h:qTe XX t0 i1 K s):wC Tryz.prog XX 160 [t0,i1] K s:=qWZ qBm rfl h
end Go.AM
namespace Go.AM
open Go Go.Proofs
set_option maxRecDepth 100000
def qNJ (X:Td)(t12 t15:AV) (K:KvP) (s:Hq):Prop:=
 oK (qAT t12 t15 (.bool false)) λv_11=>K v_11 s
def qUy (X:Td)(p0:AV) (K:KvP) (s:Hq):Prop:=
 boxK 71 p0 (λB0 S1=>oK (rdN S1 2 B0) λv_2=>wC Tryz.prog X 201 [(.agg v_2)] (λv_3 S4=>oK (qAp v_3 0) λv_5=>oK (qAp v_3 1) λv_6=>newK 71 [(.int .u32 0),(.int .i64 0)] (λB7 S8=>oK (qBY S8 2 (.ptr B7 0) v_5) λS9=>oK (negB false (eqV 0 true v_6 (.int .i64 0))) λv_10=>qAQ v_10
 (oK (rdN S9 2 (.ptr B7 0)) λv_12=>oK (rdN S9 2 B0) λv_13=>oK (negB false (qH3 Tryz.prog 71 (.agg v_12) (.agg v_13))) λv_14=>qNJ X v_10 v_14 K S9)
 (qNJ X v_10 .undef K S9)) S4) S1) s
def qRb:Nat→List Nat:=λ_=>[]
theorem qUQ {X:Td} (hX:FrX X) (hn:X 187=none) {p0:AV} {K:KvP} {s:Hq} (h:qUy X p0 K s):wC Tryz.prog X 187 [p0] K s:=
 qAL hX qRb hn Tryz.func187 (by kernel_rfl:Tryz.f187.body=some (qAU Tryz.f187)) (by kernel_rfl) (Eq.mpr (by kernel_rfl) h)
theorem qUG {p0:AV} {K:KvP} {s:Hq} (h:qUy XX p0 K s):wC Tryz.prog XX 187 [p0] K s:=qUQ qBm rfl h
def qC8 (X:Td)(p0 ip1:AV) (K:KvP) (s:Hq):Prop:=
 boxK 71 p0 (λB0 S1=>oK (rdN S1 2 B0) λv_2=>wC Tryz.prog X 202 [(.agg v_2)] (λv_3 S4=>qAQ v_3
 (oK (qAC 0 B0) λv_5=>oK (rd1 S4 v_5) λv_6=>oK (qAC 1 B0) λv_7=>oK (rd1 S4 v_7) λv_8=>wC Tryz.prog X 203 [v_8] (λv_9 S10=>(∀ b,S4 b≠none→S4 b=none→S10 b=none)→
 oK (qAH .and v_6 v_9) λv_11=>oK (qAC 1 B0) λv_12=>oK (rd1 (cutH [(S4,(add S4 S10))] (add S4 S10)) v_12) λv_13=>wC Tryz.prog X 203 [v_13] (λv_14 S15=>(∀ b,(add S4 S10) b≠none→(add S4 S10) b=none→S15 b=none)→
 oK (qAH .and ip1 v_14) λv_16=>oK (negB false (eqV 0 false v_11 v_16)) λv_17=>oK (qAT v_3 v_17 (.bool false)) λv_18=>K v_18 (add (add S4 S10) S15)) (frz (add S4 S10))) (frz S4))
 (oK (qAT v_3 .undef (.bool false)) λv_19=>K v_19 S4)) S1) s
def qEo:Nat→List Nat:=λ_=>[]
theorem qFM {X:Td} (hX:FrX X) (hn:X 188=none) {p0 ip1:AV} {K:KvP} {s:Hq} (h:qC8 X p0 ip1 K s):wC Tryz.prog X 188 [p0,ip1] K s:=
 qAL hX qEo hn Tryz.func188 (by kernel_rfl:Tryz.f188.body=some (qAU Tryz.f188)) (by kernel_rfl) (Eq.mpr (by kernel_rfl) h)
theorem qE4 {p0 ip1:AV} {K:KvP} {s:Hq} (h:qC8 XX p0 ip1 K s):wC Tryz.prog XX 188 [p0,ip1] K s:=qFM qBm rfl h
def qXA (X:Td)(p0:AV) (K:KvP) (s:Hq):Prop:=
 boxK 71 p0 (λB0 S1=>oK (qAC 0 B0) λv_2=>oK (rd1 S1 v_2) λv_3=>oK (qAC 1 B0) λv_4=>oK (rd1 S1 v_4) λv_5=>oK (qAH .sub (.int .i64 32) v_5) λv_6=>oK (qF4 .shl (.int .u32 1) v_6) λv_7=>oK (qAH .sub v_7 (.int .u32 1)) λv_8=>oK (qAH .add v_3 v_8) λv_9=>K v_9 S1) s
def qUE:Nat→List Nat:=λ_=>[]
theorem qVp {X:Td} (hX:FrX X) (hn:X 189=none) {p0:AV} {K:KvP} {s:Hq} (h:qXA X p0 K s):wC Tryz.prog X 189 [p0] K s:=
 qAL hX qUE hn Tryz.func189 (by kernel_rfl:Tryz.f189.body=some (qAU Tryz.f189)) (by kernel_rfl) (Eq.mpr (by kernel_rfl) h)
theorem qWe {p0:AV} {K:KvP} {s:Hq} (h:qXA XX p0 K s):wC Tryz.prog XX 189 [p0] K s:=qVp qBm rfl h
def qKf (X:Td)(t9 t13:AV) (K:KvP) (s:Hq):Prop:=
 oK (qAT t9 (.bool true) t13) λv_9=>K v_9 s
def qO6 (X:Td)(a0 b1:AV) (K:KvP) (s:Hq):Prop:=
 boxK 71 a0 (λB0 S1=>boxK 71 b1 (λB2 S3=>oK (rdN S3 2 B0) λv_4=>oK (qAC 0 B2) λv_5=>oK (rd1 S3 v_5) λv_6=>wC Tryz.prog X 188 [(.agg v_4),v_6] (λv_7 S8=>qAQ v_7
 (qKf X v_7 .undef K S8)
 (oK (rdN S8 2 B2) λv_10=>oK (qAC 0 B0) λv_11=>oK (rd1 S8 v_11) λv_12=>wC Tryz.prog X 188 [(.agg v_10),v_12] (λv_13 S14=>qKf X v_7 v_13 K S14) S8)) S3) S1) s
def qON:Nat→List Nat:=λ_=>[]
theorem qPx {X:Td} (hX:FrX X) (hn:X 190=none) {a0 b1:AV} {K:KvP} {s:Hq} (h:qO6 X a0 b1 K s):wC Tryz.prog X 190 [a0,b1] K s:=
 qAL hX qON hn Tryz.func190 (by kernel_rfl:Tryz.f190.body=some (qAU Tryz.f190)) (by kernel_rfl) (Eq.mpr (by kernel_rfl) h)
theorem qQx {a0 b1:AV} {K:KvP} {s:Hq} (h:qO6 XX a0 b1 K s):wC Tryz.prog XX 190 [a0,b1] K s:=qPx qBm rfl h
def qIQ (X:Td)(l0 i3:AV) (I0:IvP) (m0:Nat) (K:KvP) (s:Hq):Prop:=
 oK (qAR l0) λv_0=>oK (qAH .lss i3 (.int .i64 v_0)) λv_2=>qAQ v_2
 (oK (qAZ 1 l0 i3) λv_3=>oK (rd1 s v_3) λv_4=>oK (qAH .sub i3 (.int .i64 1)) λv_5=>oK (qAZ 1 l0 v_5) λv_6=>oK (rd1 s v_6) λv_7=>oK (qAH .leq v_4 v_7) λv_8=>qAQ v_8
 (K (.bool false) s)
 (oK (qAH .add i3 (.int .i64 1)) λv_9=>∃ m',m' < m0∧I0 [v_9] s m'))
 (K (.bool true) s)
def qIa (X:Td)(l0:AV) (K:KvP) (s:Hq):Prop:=
 ∃ I0:IvP,(∃ m,I0 [(.int .i64 1)] s m)∧∀ (f:Env) (s:Hq) (m0:Nat),I0 [f 3] s m0→
 qIQ X l0 (f 3) I0 m0 K s
def qL7:Nat→List Nat:=λk=>cond (Nat.beq k 4) [3] ([])
theorem qNy {X:Td} (hX:FrX X) (hn:X 191=none) {l0:AV} {K:KvP} {s:Hq} (h:qIa X l0 K s):wC Tryz.prog X 191 [l0] K s:=
 qAL hX qL7 hn Tryz.func191 (by kernel_rfl:Tryz.f191.body=some (qAU Tryz.f191)) (by kernel_rfl) (Eq.mpr (by kernel_rfl) h)
theorem qNW {l0:AV} {K:KvP} {s:Hq} (h:qIa XX l0 K s):wC Tryz.prog XX 191 [l0] K s:=qNy qBm rfl h
def qRW (X:Td)(l0 n1 i5:AV) (I0:IvP) (m0:Nat) (K:KvP) (s:Hq):Prop:=
 oK (qAR l0) λv_0=>oK (qAH .lss i5 (.int .i64 v_0)) λv_2=>qAQ v_2
 (oK (qAZ 1 l0 i5) λv_3=>oK (rd1 s v_3) λv_4=>oK (negB false (eqV 0 false v_4 n1)) λv_5=>qAQ v_5
 (K (.bool true) s)
 (oK (qAH .add i5 (.int .i64 1)) λv_6=>∃ m',m' < m0∧I0 [v_6] s m'))
 (K (.bool false) s)
def qY4 (X:Td)(l0 n1:AV) (K:KvP) (s:Hq):Prop:=
 ∃ I0:IvP,(∃ m,I0 [(.int .i64 0)] s m)∧∀ (f:Env) (s:Hq) (m0:Nat),I0 [f 5] s m0→
 qRW X l0 n1 (f 5) I0 m0 K s
def qWR:Nat→List Nat:=λk=>cond (Nat.beq k 4) [5] ([])
theorem qY2 {X:Td} (hX:FrX X) (hn:X 102=none) {l0 n1:AV} {K:KvP} {s:Hq} (h:qY4 X l0 n1 K s):wC Tryz.prog X 102 [l0,n1] K s:=
 qAL hX qWR hn Tryz.func102 (by kernel_rfl:Tryz.f102.body=some (qAU Tryz.f102)) (by kernel_rfl) (Eq.mpr (by kernel_rfl) h)
theorem qXg {l0 n1:AV} {K:KvP} {s:Hq} (h:qY4 XX l0 n1 K s):wC Tryz.prog XX 102 [l0,n1] K s:=qY2 qBm rfl h
def qCQ (X:Td)(t5 t9:AV) (K:KvP) (s:Hq):Prop:=
 oK (qAT t5 t9 (.bool false)) λv_1=>K v_1 s
def qBk (X:Td)(t0:AV) (K:KvP) (s:Hq):Prop:=
 oK (qAH .leq t0 (.int .u64 281474976710655)) λv_0=>qAQ v_0
 (oK (qF4 .shr t0 (.int .u64 40)) λv_2=>oK (qAH .and v_2 (.int .u64 1)) λv_3=>oK (negB false (eqV 0 true v_3 (.int .u64 1))) λv_4=>qCQ X v_0 v_4 K s)
 (qCQ X v_0 .undef K s)
def qEW:Nat→List Nat:=λ_=>[]
theorem qEi {X:Td} (hX:FrX X) (hn:X 192=none) {t0:AV} {K:KvP} {s:Hq} (h:qBk X t0 K s):wC Tryz.prog X 192 [t0] K s:=
 qAL hX qEW hn Tryz.func192 (by kernel_rfl:Tryz.f192.body=some (qAU Tryz.f192)) (by kernel_rfl) (Eq.mpr (by kernel_rfl) h)
theorem qEn {t0:AV} {K:KvP} {s:Hq} (h:qBk XX t0 K s):wC Tryz.prog XX 192 [t0] K s:=qEi qBm rfl h
def qA7 (X:Td)(t0 t6 t8:AV) (K:KvP) (s:Hq):Prop:=
 oK (qAT t6 (.bool true) t8) λv_1=>qAQ v_1
 (K (.tup [(.int .i64 0),(.bool false)]) s)
 (oK (qAH .sub t0 (.int .u64 2199023255552)) λv_2=>oK (qDl .i64 v_2) λv_3=>K (.tup [v_3,(.bool true)]) s)
def qBe (X:Td)(t0:AV) (K:KvP) (s:Hq):Prop:=
 oK (qAH .lss t0 (.int .u64 2199023255552)) λv_0=>qAQ v_0
 (qA7 X t0 v_0 .undef K s)
 (oK (qAH .geq t0 (.int .u64 2199023255584)) λv_4=>qA7 X t0 v_0 v_4 K s)
def qD7:Nat→List Nat:=λ_=>[]
theorem qET {X:Td} (hX:FrX X) (hn:X 193=none) {t0:AV} {K:KvP} {s:Hq} (h:qBe X t0 K s):wC Tryz.prog X 193 [t0] K s:=
 qAL hX qD7 hn Tryz.func193 (by kernel_rfl:Tryz.f193.body=some (qAU Tryz.f193)) (by kernel_rfl) (Eq.mpr (by kernel_rfl) h)
theorem qEL {t0:AV} {K:KvP} {s:Hq} (h:qBe XX t0 K s):wC Tryz.prog XX 193 [t0] K s:=qET qBm rfl h
def qDv (X:Td)(p0:AV) (K:KvP) (s:Hq):Prop:=
 boxK 71 p0 (λB0 S1=>newK 71 [(.int .u32 0),(.int .i64 0)] (λB2 S3=>oK (rdN S3 2 B0) λv_4=>wC Tryz.prog X 202 [(.agg v_4)] (λv_5 S6=>oK (qAo .not v_5) λv_7=>qAQ v_7
 (oK (qCA [(.int .u32 0),(.int .i64 0)] []) λC8=>oK (qBY S6 2 (.ptr B2 0) (.agg C8)) λS9=>oK (rdN S9 2 (.ptr B2 0)) λt2_10=>K (.tup [(.agg t2_10),(.int .i64 2)]) S9)
 (oK (qAC 0 B0) λv_11=>oK (rd1 S6 v_11) λv_12=>oK (qAC 1 B0) λv_13=>oK (rd1 S6 v_13) λv_14=>wC Tryz.prog X 203 [v_14] (λv_15 S16=>(∀ b,S6 b≠none→S6 b=none→S16 b=none)→
 oK (qAH .and v_12 v_15) λv_17=>oK (qAC 1 B0) λv_18=>oK (rd1 (cutH [(S6,(add S6 S16))] (add S6 S16)) v_18) λv_19=>oK (qCA [(.int .u32 0),(.int .i64 0)] [(0,1,v_17),(1,1,v_19)]) λC20=>oK (qBY (add S6 S16) 2 (.ptr B2 0) (.agg C20)) λS21=>oK (rdN S21 2 (.ptr B2 0)) λt2_22=>K (.tup [(.agg t2_22),(.int .i64 0)]) S21) (frz S6))) S3) S1) s
def qFl:Nat→List Nat:=λ_=>[]
theorem qGN {X:Td} (hX:FrX X) (hn:X 201=none) {p0:AV} {K:KvP} {s:Hq} (h:qDv X p0 K s):wC Tryz.prog X 201 [p0] K s:=
 qAL hX qFl hn Tryz.func201 (by kernel_rfl:Tryz.f201.body=some (qAU Tryz.f201)) (by kernel_rfl) (Eq.mpr (by kernel_rfl) h)
theorem qGX {p0:AV} {K:KvP} {s:Hq} (h:qDv XX p0 K s):wC Tryz.prog XX 201 [p0] K s:=qGN qBm rfl h
def qC6 (X:Td)(t6 t9:AV) (K:KvP) (s:Hq):Prop:=
 oK (qAT t6 t9 (.bool false)) λv_5=>K v_5 s
def qDr (X:Td)(p0:AV) (K:KvP) (s:Hq):Prop:=
 boxK 71 p0 (λB0 S1=>oK (qAC 1 B0) λv_2=>oK (rd1 S1 v_2) λv_3=>oK (qAH .geq v_3 (.int .i64 0)) λv_4=>qAQ v_4
 (oK (qAC 1 B0) λv_6=>oK (rd1 S1 v_6) λv_7=>oK (qAH .leq v_7 (.int .i64 32)) λv_8=>qC6 X v_4 v_8 K S1)
 (qC6 X v_4 .undef K S1)) s
def qFt:Nat→List Nat:=λ_=>[]
theorem qGd {X:Td} (hX:FrX X) (hn:X 202=none) {p0:AV} {K:KvP} {s:Hq} (h:qDr X p0 K s):wC Tryz.prog X 202 [p0] K s:=
 qAL hX qFt hn Tryz.func202 (by kernel_rfl:Tryz.f202.body=some (qAU Tryz.f202)) (by kernel_rfl) (Eq.mpr (by kernel_rfl) h)
theorem qGI {p0:AV} {K:KvP} {s:Hq} (h:qDr XX p0 K s):wC Tryz.prog XX 202 [p0] K s:=qGd qBm rfl h
def qCf (X:Td)(n0:AV) (K:KvP) (s:Hq):Prop:=
 oK (qAH .sub (.int .i64 32) n0) λv_0=>oK (qF4 .shl (.int .u32 1) v_0) λv_1=>oK (qAH .sub v_1 (.int .u32 1)) λv_2=>oK (qAo .xor v_2) λv_3=>K v_3 s
def qGV:Nat→List Nat:=λ_=>[]
theorem qGv {X:Td} (hX:FrX X) (hn:X 203=none) {n0:AV} {K:KvP} {s:Hq} (h:qCf X n0 K s):wC Tryz.prog X 203 [n0] K s:=
 qAL hX qGV hn Tryz.func203 (by kernel_rfl:Tryz.f203.body=some (qAU Tryz.f203)) (by kernel_rfl) (Eq.mpr (by kernel_rfl) h)
theorem qGu {n0:AV} {K:KvP} {s:Hq} (h:qCf XX n0 K s):wC Tryz.prog XX 203 [n0] K s:=qGv qBm rfl h
def qA2 (X:Td)(leaf1 mark4 t5 x7 frame8 t13 t17:AV) (K:KvP) (s:Hq):Prop:=
 oK (qAT t13 (.bool true) t17) λv_9=>qAQ v_9
 (wC Tryz.prog X 10 [] (λv_10 S11=>K v_10 S11) s)
 (oK (rdN s 19 t5) λv_12=>oK (rdN s 3 x7) λv_13=>oK (rdN s 15 frame8) λv_14=>wC Tryz.prog X 15 [(.agg v_12),leaf1,(.agg v_13),(.agg v_14),mark4] (λv_15 S16=>(∀ b,s b≠none→s b=none→S16 b=none)→
 oK (rdN (cutH [(s,(add s S16))] (add s S16)) 19 t5) λv_17=>oK (rdN (cutH [(s,(add s S16))] (add s S16)) 3 x7) λv_18=>oK (rdN (cutH [(s,(add s S16))] (add s S16)) 15 frame8) λv_19=>wC Tryz.prog X 16 [(.agg v_17),leaf1,(.agg v_18),(.agg v_19),mark4] (λv_20 S21=>wC Tryz.prog X 14 [v_15,v_20] (λv_22 S23=>qAQ v_22
 (wC Tryz.prog X 10 [] (λv_24 S25=>oK (qAT v_22 v_24 (.bool false)) λv_26=>K v_26 S25) S23)
 (oK (qAT v_22 .undef (.bool false)) λv_27=>K v_27 S23)) S21) (add s S16)) (frz s))
def qCa (X:Td)(t0 leaf1 x2 frame3 mark4:AV) (K:KvP) (s:Hq):Prop:=
 boxK 31 t0 (λB0 S1=>boxK 44 x2 (λB2 S3=>boxK 52 frame3 (λB4 S5=>oK (rdN S5 19 B0) λv_6=>wC Tryz.prog X 8 [(.agg v_6)] (λv_7 S8=>qAQ v_7
 (qA2 X leaf1 mark4 B0 B2 B4 v_7 .undef K S8)
 (oK (qAC 1 B2) λv_28=>oK (rd1 S8 v_28) λv_29=>oK (qAR v_29) λv_30=>oK (qAH .gtr (.int .i64 v_30) (.int .i64 40)) λv_32=>qA2 X leaf1 mark4 B0 B2 B4 v_7 v_32 K S8)) S5) S3) S1) s
def qDk:Nat→List Nat:=λ_=>[]
theorem qD1 {X:Td} (hX:FrX X) (hn:X 4=none) {t0 leaf1 x2 frame3 mark4:AV} {K:KvP} {s:Hq} (h:qCa X t0 leaf1 x2 frame3 mark4 K s):wC Tryz.prog X 4 [t0,leaf1,x2,frame3,mark4] K s:=
 qAL hX qDk hn Tryz.func4 (by kernel_rfl:Tryz.f4.body=some (qAU Tryz.f4)) (by kernel_rfl) (Eq.mpr (by kernel_rfl) h)
theorem qD6 {t0 leaf1 x2 frame3 mark4:AV} {K:KvP} {s:Hq} (h:qCa XX t0 leaf1 x2 frame3 mark4 K s):wC Tryz.prog XX 4 [t0,leaf1,x2,frame3,mark4] K s:=qD1 qBm rfl h
def qGH (X:Td)(packet14 l15 t61 t62 t63:AV) (I3:IvP) (m3:Nat) (K:KvP) (s:Hq):Prop:=
 oK (qAH .lss t63 t62) λv_53=>qAQ v_53
 (oK (qAZ 1 t61 t63) λv_54=>oK (rd1 s v_54) λv_55=>funK Tryz.prog X packet14 [v_55] (λv_56 S57=>oK (qCA (repl 1 [(.int .u32 0),(.int .u32 0),(.int .i64 0),(.int .i64 0),(.int .u32 0),(.int .u32 0),(.int .u64 0),(.int .u64 0),(.int .i64 0),(.int .i64 0),(.int .u64 0),(.int .u32 0),(.int .u64 0),(.int .u32 0),(.int .u32 0),(.int .u32 0),(.int .i64 0),(.int .i64 0),(.int .i64 0),(.int .i64 0),(.int .u64 0)]) [(0,21,v_56)]) λC58=>qAg C58=true∧newK 55 C58 (λB59 S60=>appK 55 21 l15 (.slc B59 0 1 (some 1) 21) (λv_61 S62=>oK (qAH .add t63 (.int .i64 1)) λv_63=>∃ m',m' < m3∧I3 [v_61,v_63] S62 m') S60) S57) s)
 (K l15 s)
def qBC (X:Td)(leaf1 t5 x7 frame8 mark9 t33 t37:AV) (K:KvP) (s:Hq):Prop:=
 oK (qAT t33 (.bool true) t37) λv_16=>qAQ v_16
 (K .nilslc s)
 (oK (rdN s 19 t5) λv_17=>wC Tryz.prog X 44 [(.agg v_17),leaf1] (λv_18 S19=>(∀ b,s b≠none→s b=none→S19 b=none)→
 oK (rdN (cutH [(s,(add s S19))] (add s S19)) 15 frame8) λv_20=>wC Tryz.prog X 23 [(.agg v_20)] (λv_21 S22=>(∀ b,(add s S19) b≠none→(add s S19) b=none→S22 b=none)→
 oK (qAC 4 t5) λv_23=>oK (rd1 (cutH [(s,(add s S19)),((add s S19),(add (add s S19) S22))] (add (add s S19) S22)) v_23) λv_24=>oK (qAC 0 x7) λv_25=>oK (rd1 (cutH [(s,(add s S19)),((add s S19),(add (add s S19) S22))] (add (add s S19) S22)) v_25) λv_26=>oK (qAZ 6 v_24 v_26) λv_27=>oK (qAC 1 v_27) λv_28=>oK (rd1 (cutH [(s,(add s S19)),((add s S19),(add (add s S19) S22))] (add (add s S19) S22)) v_28) λv_29=>newK 42 [(.int .u32 0)] (λB30 S31=>(∀ b,(add (add s S19) S22) b≠none→(cutH [(s,(add s S19)),((add s S19),(add (add s S19) S22))] (add (add s S19) S22)) b=none→S31 b=none)→
 newK 3 [(.int .i64 0)] (λB32 S33=>(∀ b,(add (add (add s S19) S22) S31) b≠none→(cutH [(s,(add s S19)),((add s S19),(add (add s S19) S22)),((add (add s S19) S22),(add (add (add s S19) S22) S31))] (add (add (add s S19) S22) S31)) b=none→S33 b=none)→
 newK 41 [(.int .u32 0)] (λB34 S35=>(∀ b,(add (add (add (add s S19) S22) S31) S33) b≠none→(cutH [(s,(add s S19)),((add s S19),(add (add s S19) S22)),((add (add s S19) S22),(add (add (add s S19) S22) S31)),((add (add (add s S19) S22) S31),(add (add (add (add s S19) S22) S31) S33))] (add (add (add (add s S19) S22) S31) S33)) b=none→S35 b=none)→
 ((cutH [((hdel (add (add s S19) S22) (qJm v_23)),(add (add s S19) S22)),((hdel (add (add s S19) S22) (qJm v_25)),(add (add s S19) S22)),((hdel (add (add s S19) S22) (qJm v_28)),(add (add s S19) S22))] (add (add (add (add (add s S19) S22) S31) S33) S35)) (qJm (.ptr B30 0))≠none)∧oK (wr1 (add (add (add (add (add s S19) S22) S31) S33) S35) (.ptr B30 0) v_18) λS36=>((cutH [((hdel (add (add s S19) S22) (qJm v_23)),(add (add s S19) S22)),((hdel (add (add s S19) S22) (qJm v_25)),(add (add s S19) S22)),((hdel (add (add s S19) S22) (qJm v_28)),(add (add s S19) S22))] S36) (qJm (.ptr B32 0))≠none)∧oK (wr1 S36 (.ptr B32 0) v_21) λS37=>oK (wr1 S37 (.ptr B34 0) v_29) λS38=>oK (qAC 2 x7) λv_39=>oK (rd1 S38 v_39) λv_40=>oK (negB true (eqV 0 true v_40 (.int .u32 0))) λv_41=>qAQ v_41
 (oK (qAC 2 x7) λv_42=>oK (rd1 S38 v_42) λv_43=>funK Tryz.prog X (.fn (.func 45) [] [(.ptr B30 0),(.ptr B32 0),(.ptr B34 0),mark9,frame8]) [v_43] (λv_44 S45=>oK (qCA (repl 1 [(.int .u32 0),(.int .u32 0),(.int .i64 0),(.int .i64 0),(.int .u32 0),(.int .u32 0),(.int .u64 0),(.int .u64 0),(.int .i64 0),(.int .i64 0),(.int .u64 0),(.int .u32 0),(.int .u64 0),(.int .u32 0),(.int .u32 0),(.int .u32 0),(.int .i64 0),(.int .i64 0),(.int .i64 0),(.int .i64 0),(.int .u64 0)]) [(0,21,v_44)]) λC46=>qAg C46=true∧newK 55 C46 (λB47 S48=>K (.slc B47 0 1 (some 1) 21) S48) S45) S38)
 (oK (qAC 1 x7) λv_49=>oK (rd1 S38 v_49) λv_50=>oK (qAR v_50) λv_51=>∃ I3:IvP,(∃ m,I3 [.nilslc,(.int .i64 0)] S38 m)∧∀ (f:Env) (s:Hq) (m3:Nat),I3 [f 15,f 63] s m3→
 qGH X (.fn (.func 45) [] [(.ptr B30 0),(.ptr B32 0),(.ptr B34 0),mark9,frame8]) (f 15) v_50 (.int .i64 v_51) (f 63) I3 m3 K s)) (frz (cutH [(s,(add s S19)),((add s S19),(add (add s S19) S22)),((add (add s S19) S22),(add (add (add s S19) S22) S31)),((add (add (add s S19) S22) S31),(add (add (add (add s S19) S22) S31) S33))] (add (add (add (add s S19) S22) S31) S33)))) (frz (cutH [(s,(add s S19)),((add s S19),(add (add s S19) S22)),((add (add s S19) S22),(add (add (add s S19) S22) S31))] (add (add (add s S19) S22) S31)))) (frz (cutH [(s,(add s S19)),((add s S19),(add (add s S19) S22))] (add (add s S19) S22)))) (frz (add s S19))) (frz s))
def qBU (X:Td)(leaf1 t5 x7 frame8 mark9 t27 t31:AV) (K:KvP) (s:Hq):Prop:=
 oK (qAT t27 (.bool true) t31) λv_15=>qAQ v_15
 (qBC X leaf1 t5 x7 frame8 mark9 v_15 .undef K s)
 (oK (qAC 1 x7) λv_64=>oK (rd1 s v_64) λv_65=>oK (qAR v_65) λv_66=>oK (negB false (eqV 0 true (.int .i64 v_66) (.int .i64 0))) λv_68=>qBC X leaf1 t5 x7 frame8 mark9 v_15 v_68 K s)
def qBs (X:Td)(leaf1 t5 x7 frame8 mark9 t23 t25:AV) (K:KvP) (s:Hq):Prop:=
 oK (qAT t23 (.bool true) t25) λv_14=>qAQ v_14
 (qBU X leaf1 t5 x7 frame8 mark9 v_14 .undef K s)
 (oK (qAC 0 t5) λv_69=>oK (rd1 s v_69) λv_70=>oK (qAH .geq leaf1 v_70) λv_71=>qBU X leaf1 t5 x7 frame8 mark9 v_14 v_71 K s)
def qIL (X:Td)(t0 leaf1 x2 frame3 mark4:AV) (K:KvP) (s:Hq):Prop:=
 boxK 31 t0 (λB0 S1=>boxK 44 x2 (λB2 S3=>boxK 52 frame3 (λB4 S5=>boxK 41 mark4 (λB6 S7=>oK (rdN S7 19 B0) λv_8=>oK (qAC 0 B2) λv_9=>oK (rd1 S7 v_9) λv_10=>wC Tryz.prog X 43 [(.agg v_8),v_10] (λv_11 S12=>oK (qAo .not v_11) λv_13=>qAQ v_13
 (qBs X leaf1 B0 B2 B4 B6 v_13 .undef K S12)
 (oK (qAH .lss leaf1 (.int .i64 0)) λv_72=>qBs X leaf1 B0 B2 B4 B6 v_13 v_72 K S12)) S7) S5) S3) S1) s
def qJk:Nat→List Nat:=λk=>cond (Nat.beq k 18) [15,63] ([])
theorem qKR {X:Td} (hX:FrX X) (hn:X 15=none) {t0 leaf1 x2 frame3 mark4:AV} {K:KvP} {s:Hq} (h:qIL X t0 leaf1 x2 frame3 mark4 K s):wC Tryz.prog X 15 [t0,leaf1,x2,frame3,mark4] K s:=
 qAL hX qJk hn Tryz.func15 (by kernel_rfl:Tryz.f15.body=some (qAU Tryz.f15)) (by kernel_rfl) (Eq.mpr (by kernel_rfl) h)
theorem qKj {t0 leaf1 x2 frame3 mark4:AV} {K:KvP} {s:Hq} (h:qIL XX t0 leaf1 x2 frame3 mark4 K s):wC Tryz.prog XX 15 [t0,leaf1,x2,frame3,mark4] K s:=qKR qBm rfl h
def qGw (X:Td)(dst0 t1 t2 t3 t4 t5:AV) (K:KvP) (s:Hq):Prop:=
 newK 55 [(.int .u32 0),(.int .u32 0),(.int .i64 0),(.int .i64 0),(.int .u32 0),(.int .u32 0),(.int .u64 0),(.int .u64 0),(.int .i64 0),(.int .i64 0),(.int .u64 0),(.int .u32 0),(.int .u64 0),(.int .u32 0),(.int .u32 0),(.int .u32 0),(.int .i64 0),(.int .i64 0),(.int .i64 0),(.int .i64 0),(.int .u64 0)] (λB0 S1=>oK (rd1 S1 t1) λv_2=>oK (rd1 S1 t2) λv_3=>oK (rd1 S1 t3) λv_4=>oK (rd1 S1 t4) λv_5=>oK (rdN S1 15 t5) λv_6=>oK (qCA [(.int .u32 0),(.int .u32 0),(.int .i64 0),(.int .i64 0),(.int .u32 0),(.int .u32 0),(.int .u64 0),(.int .u64 0),(.int .i64 0),(.int .i64 0),(.int .u64 0),(.int .u32 0),(.int .u64 0),(.int .u32 0),(.int .u32 0),(.int .u32 0),(.int .i64 0),(.int .i64 0),(.int .i64 0),(.int .i64 0),(.int .u64 0)] [(0,1,v_2),(1,1,dst0),(2,1,(.int .i64 16)),(3,1,v_3),(4,1,v_4),(5,1,v_5),(6,15,(.agg v_6))]) λC7=>oK (qBY S1 21 (.ptr B0 0) (.agg C7)) λS8=>oK (rdN S8 21 (.ptr B0 0)) λt7_9=>K (.agg t7_9) S8) s
def qH7:Nat→List Nat:=λ_=>[]
theorem qJB {X:Td} (hX:FrX X) (hn:X 45=none) {dst0 t1 t2 t3 t4 t5:AV} {K:KvP} {s:Hq} (h:qGw X dst0 t1 t2 t3 t4 t5 K s):wC Tryz.prog X 45 [dst0,t1,t2,t3,t4,t5] K s:=
 qAL hX qH7 hn Tryz.func45 (by kernel_rfl:Tryz.f45.body=some (qAU Tryz.f45)) (by kernel_rfl) (Eq.mpr (by kernel_rfl) h)
theorem qJI {dst0 t1 t2 t3 t4 t5:AV} {K:KvP} {s:Hq} (h:qGw XX dst0 t1 t2 t3 t4 t5 K s):wC Tryz.prog XX 45 [dst0,t1,t2,t3,t4,t5] K s:=qJB qBm rfl h
end Go.AM
namespace Go.AM
open Go Go.Proofs
set_option maxRecDepth 100000
def qB5 (X:Td)(t20 t25:AV) (K:KvP) (s:Hq):Prop:=
 oK (qAT t20 t25 (.bool false)) λv_10=>K v_10 s
def qBc (X:Td)(bd1 t2 t16 t18:AV) (K:KvP) (s:Hq):Prop:=
 oK (qAT t16 t18 (.bool false)) λv_9=>qAQ v_9
 (oK (qAC 4 t2) λv_11=>oK (rd1 s v_11) λv_12=>oK (qAR v_12) λv_13=>oK (qAH .lss bd1 (.int .i64 v_13)) λv_15=>qB5 X v_9 v_15 K s)
 (qB5 X v_9 .undef K s)
def qJV (X:Td)(t0 bd1:AV) (K:KvP) (s:Hq):Prop:=
 boxK 31 t0 (λB0 S1=>oK (rdN S1 19 B0) λv_2=>wC Tryz.prog X 31 [(.agg v_2)] (λv_3 S4=>oK (qAp v_3 0) λv_5=>oK (qAp v_3 1) λv_6=>oK (qAp v_3 2) λv_7=>oK (negB false (eqV 0 true v_5 (.int .i64 0))) λv_8=>qAQ v_8
 (oK (qAH .geq bd1 (.int .i64 0)) λv_16=>qBc X bd1 B0 v_8 v_16 K S4)
 (qBc X bd1 B0 v_8 .undef K S4)) S1) s
def qKC:Nat→List Nat:=λ_=>[]
theorem qK2 {X:Td} (hX:FrX X) (hn:X 43=none) {t0 bd1:AV} {K:KvP} {s:Hq} (h:qJV X t0 bd1 K s):wC Tryz.prog X 43 [t0,bd1] K s:=
 qAL hX qKC hn Tryz.func43 (by kernel_rfl:Tryz.f43.body=some (qAU Tryz.f43)) (by kernel_rfl) (Eq.mpr (by kernel_rfl) h)
theorem qK5 {t0 bd1:AV} {K:KvP} {s:Hq} (h:qJV XX t0 bd1 K s):wC Tryz.prog XX 43 [t0,bd1] K s:=qK2 qBm rfl h
def qGP (X:Td)(n1 t8 t16:AV) (K:KvP) (s:Hq):Prop:=
 oK (qAT t8 (.bool true) t16) λv_6=>qAQ v_6
 (K (.int .u32 0) s)
 (wC Tryz.prog X 77 [n1] (λv_7 S8=>K v_7 S8) s)
def qNL (X:Td)(t0 n1:AV) (K:KvP) (s:Hq):Prop:=
 boxK 31 t0 (λB0 S1=>oK (rdN S1 19 B0) λv_2=>wC Tryz.prog X 75 [(.agg v_2)] (λv_3 S4=>oK (qAo .not v_3) λv_5=>qAQ v_5
 (qGP X n1 v_5 .undef K S4)
 (oK (qAC 0 B0) λv_9=>oK (rd1 S4 v_9) λv_10=>oK (qAC 1 B0) λv_11=>oK (rd1 S4 v_11) λv_12=>oK (qAH .add v_10 v_12) λv_13=>wC Tryz.prog X 76 [n1,v_13] (λv_14 S15=>oK (qAo .not v_14) λv_16=>qGP X n1 v_5 v_16 K S15) S4)) S1) s
def qM8:Nat→List Nat:=λ_=>[]
theorem qOi {X:Td} (hX:FrX X) (hn:X 44=none) {t0 n1:AV} {K:KvP} {s:Hq} (h:qNL X t0 n1 K s):wC Tryz.prog X 44 [t0,n1] K s:=
 qAL hX qM8 hn Tryz.func44 (by kernel_rfl:Tryz.f44.body=some (qAU Tryz.f44)) (by kernel_rfl) (Eq.mpr (by kernel_rfl) h)
theorem qOo {t0 n1:AV} {K:KvP} {s:Hq} (h:qNL XX t0 n1 K s):wC Tryz.prog XX 44 [t0,n1] K s:=qOi qBm rfl h
def qM2 (X:Td)(n0:AV) (K:KvP) (s:Hq):Prop:=
 wC Tryz.prog X 50 [n0] (λv_0 S1=>oK (qAp v_0 0) λv_2=>oK (qAp v_0 1) λv_3=>K v_2 S1) s
def qNG:Nat→List Nat:=λ_=>[]
theorem qOm {X:Td} (hX:FrX X) (hn:X 77=none) {n0:AV} {K:KvP} {s:Hq} (h:qM2 X n0 K s):wC Tryz.prog X 77 [n0] K s:=
 qAL hX qNG hn Tryz.func77 (by kernel_rfl:Tryz.f77.body=some (qAU Tryz.f77)) (by kernel_rfl) (Eq.mpr (by kernel_rfl) h)
theorem qOV {n0:AV} {K:KvP} {s:Hq} (h:qM2 XX n0 K s):wC Tryz.prog XX 77 [n0] K s:=qOm qBm rfl h
def qBL (X:Td)(flow3:AV) (K:KvP) (s:Hq):Prop:=
 wC Tryz.prog X 52 [flow3] (λv_5 S6=>oK (qAH .rem v_5 (.int .u32 16384)) λv_7=>oK (qDl .i64 v_7) λv_8=>oK (qAH .add (.int .i64 49152) v_8) λv_9=>K v_9 S6) s
def qHq (X:Td)(t0:AV) (K:KvP) (s:Hq):Prop:=
 boxK 52 t0 (λB0 S1=>oK (qAC 2 B0) λv_2=>oK (rd1 S1 v_2) λv_3=>oK (negB false (eqV 0 true v_3 (.int .i64 2))) λv_4=>qAQ v_4
 (oK (qAC 8 B0) λv_10=>oK (rdN S1 6 v_10) λv_11=>newK 50 [(.int .u32 0),(.int .u32 0),(.int .i64 0),(.int .i64 0),(.int .i64 0),(.int .i64 0)] (λB12 S13=>oK (qBY S13 6 (.ptr B12 0) (.agg v_11)) λS14=>oK (qAC 0 (.ptr B12 0)) λv_15=>oK (rd1 S14 v_15) λv_16=>oK (qDl .u64 v_16) λv_17=>wC Tryz.prog X 51 [.nilslc,v_17,(.int .i64 4)] (λv_18 S19=>oK (qAC 1 (.ptr B12 0)) λv_20=>oK (rd1 S19 v_20) λv_21=>oK (qDl .u64 v_21) λv_22=>wC Tryz.prog X 51 [v_18,v_22,(.int .i64 4)] (λv_23 S24=>oK (qAC 3 (.ptr B12 0)) λv_25=>oK (rd1 S24 v_25) λv_26=>oK (qDl .u64 v_26) λv_27=>wC Tryz.prog X 51 [v_23,v_27,(.int .i64 1)] (λv_28 S29=>oK (qAC 4 (.ptr B12 0)) λv_30=>oK (rd1 S29 v_30) λv_31=>oK (qDl .u64 v_31) λv_32=>wC Tryz.prog X 51 [v_28,v_32,(.int .i64 2)] (λv_33 S34=>oK (qAC 5 (.ptr B12 0)) λv_35=>oK (rd1 S34 v_35) λv_36=>oK (qDl .u64 v_36) λv_37=>wC Tryz.prog X 51 [v_33,v_37,(.int .i64 2)] (λv_38 S39=>qBL X v_38 K S39) S34) S29) S24) S19) S14) S1)
 (oK (qAC 0 B0) λv_40=>oK (rd1 S1 v_40) λv_41=>wC Tryz.prog X 51 [.nilslc,v_41,(.int .i64 6)] (λv_42 S43=>oK (qAC 1 B0) λv_44=>oK (rd1 S43 v_44) λv_45=>wC Tryz.prog X 51 [v_42,v_45,(.int .i64 6)] (λv_46 S47=>oK (qAC 2 B0) λv_48=>oK (rd1 S47 v_48) λv_49=>oK (qDl .u64 v_49) λv_50=>wC Tryz.prog X 51 [v_46,v_50,(.int .i64 1)] (λv_51 S52=>qBL X v_51 K S52) S47) S43) S1)) s
def qJF:Nat→List Nat:=λ_=>[]
theorem qJr {X:Td} (hX:FrX X) (hn:X 23=none) {t0:AV} {K:KvP} {s:Hq} (h:qHq X t0 K s):wC Tryz.prog X 23 [t0] K s:=
 qAL hX qJF hn Tryz.func23 (by kernel_rfl:Tryz.f23.body=some (qAU Tryz.f23)) (by kernel_rfl) (Eq.mpr (by kernel_rfl) h)
theorem qJi {t0:AV} {K:KvP} {s:Hq} (h:qHq XX t0 K s):wC Tryz.prog XX 23 [t0] K s:=qJr qBm rfl h
def qIJ (X:Td)(b0 n1 i7:AV) (I0:IvP) (m0:Nat) (K:KvP) (s:Hq):Prop:=
 oK (qAH .geq i7 (.int .i64 0)) λv_1=>qAQ v_1
 (oK (qAH .mul (.int .i64 8) i7) λv_2=>oK (qF4 .shr n1 v_2) λv_3=>oK (qDl .u8 v_3) λv_4=>oK (qCA (repl 1 [(.int .u8 0)]) [(0,1,v_4)]) λC5=>qAg C5=true∧newK 5 C5 (λB6 S7=>appK 5 1 b0 (.slc B6 0 1 (some 1) 1) (λv_8 S9=>oK (qAH .sub i7 (.int .i64 1)) λv_10=>∃ m',m' < m0∧I0 [v_8,v_10] S9 m') S7) s)
 (K b0 s)
def qH6 (X:Td)(b0 n1 size2:AV) (K:KvP) (s:Hq):Prop:=
 oK (qAH .sub size2 (.int .i64 1)) λv_0=>∃ I0:IvP,(∃ m,I0 [b0,v_0] s m)∧∀ (f:Env) (s:Hq) (m0:Nat),I0 [f 0,f 7] s m0→
 qIJ X (f 0) n1 (f 7) I0 m0 K s
def qL3:Nat→List Nat:=λk=>cond (Nat.beq k 4) [0,7] ([])
theorem qOJ {X:Td} (hX:FrX X) (hn:X 51=none) {b0 n1 size2:AV} {K:KvP} {s:Hq} (h:qH6 X b0 n1 size2 K s):wC Tryz.prog X 51 [b0,n1,size2] K s:=
 qAL hX qL3 hn Tryz.func51 (by kernel_rfl:Tryz.f51.body=some (qAU Tryz.f51)) (by kernel_rfl) (Eq.mpr (by kernel_rfl) h)
theorem qOD {b0 n1 size2:AV} {K:KvP} {s:Hq} (h:qH6 XX b0 n1 size2 K s):wC Tryz.prog XX 51 [b0,n1,size2] K s:=qOJ qBm rfl h
def qCy (X:Td)(leaf1 mark4 t5 x7 frame8 t11 out12 i13:AV) (I6:IvP) (m6:Nat) (K:KvP) (s:Hq):Prop:=
 oK (qAR t11) λv_20=>oK (qAH .lss i13 (.int .i64 v_20)) λv_22=>qAQ v_22
 (oK (rdN s 19 t5) λv_23=>wC Tryz.prog X 46 [(.agg v_23),leaf1] (λv_24 S25=>(∀ b,s b≠none→s b=none→S25 b=none)→
 oK (qAZ 1 t11 i13) λv_26=>oK (rd1 (cutH [(s,(add s S25))] (add s S25)) v_26) λv_27=>oK (rdN (cutH [(s,(add s S25))] (add s S25)) 15 frame8) λv_28=>wC Tryz.prog X 47 [(.agg v_28)] (λv_29 S30=>(∀ b,(add s S25) b≠none→(add s S25) b=none→S30 b=none)→
 oK (qAC 4 t5) λv_31=>oK (rd1 (cutH [(s,(add s S25)),((add s S25),(add (add s S25) S30))] (add (add s S25) S30)) v_31) λv_32=>oK (qAC 0 x7) λv_33=>oK (rd1 (cutH [(s,(add s S25)),((add s S25),(add (add s S25) S30))] (add (add s S25) S30)) v_33) λv_34=>oK (qAZ 6 v_32 v_34) λv_35=>oK (qAC 1 v_35) λv_36=>oK (rd1 (cutH [(s,(add s S25)),((add s S25),(add (add s S25) S30))] (add (add s S25) S30)) v_36) λv_37=>oK (rdN (cutH [(s,(add s S25)),((add s S25),(add (add s S25) S30))] (add (add s S25) S30)) 15 frame8) λv_38=>oK (qCA [(.int .u32 0),(.int .u32 0),(.int .i64 0),(.int .i64 0),(.int .u32 0),(.int .u32 0),(.int .u64 0),(.int .u64 0),(.int .i64 0),(.int .i64 0),(.int .u64 0),(.int .u32 0),(.int .u64 0),(.int .u32 0),(.int .u32 0),(.int .u32 0),(.int .i64 0),(.int .i64 0),(.int .i64 0),(.int .i64 0),(.int .u64 0)] [(0,1,v_24),(1,1,v_27),(2,1,(.int .i64 16)),(3,1,v_29),(4,1,v_37),(5,1,mark4),(6,15,(.agg v_38))]) λC39=>oK (qCA (repl 1 [(.int .u32 0),(.int .u32 0),(.int .i64 0),(.int .i64 0),(.int .u32 0),(.int .u32 0),(.int .u64 0),(.int .u64 0),(.int .i64 0),(.int .i64 0),(.int .u64 0),(.int .u32 0),(.int .u64 0),(.int .u32 0),(.int .u32 0),(.int .u32 0),(.int .i64 0),(.int .i64 0),(.int .i64 0),(.int .i64 0),(.int .u64 0)]) [(0,21,(.agg C39))]) λC40=>qAg C40=true∧newK 55 C40 (λB41 S42=>appK 55 21 out12 (.slc B41 0 1 (some 1) 21) (λv_43 S44=>oK (qAH .add i13 (.int .i64 1)) λv_45=>∃ m',m' < m6∧I6 [v_43,v_45] S44 m') S42) (add (add s S25) S30)) (frz (add s S25))) (frz s))
 (K out12 s)
def qA6 (X:Td)(leaf1 mark4 t5 x7 frame8 t11:AV) (K:KvP) (s:Hq):Prop:=
 ∃ I6:IvP,(∃ m,I6 [.nilslc,(.int .i64 0)] s m)∧∀ (f:Env) (s:Hq) (m6:Nat),I6 [f 12,f 13] s m6→
 qCy X leaf1 mark4 t5 x7 frame8 t11 (f 12) (f 13) I6 m6 K s
def qBG (X:Td)(leaf1 mark4 t5 x7 frame8 t11 t45 t48:AV) (K:KvP) (s:Hq):Prop:=
 oK (qAT t45 t48 (.bool false)) λv_19=>qAQ v_19
 (oK (qAC 2 x7) λv_46=>oK (rd1 s v_46) λv_47=>oK (qCA (repl 1 [(.int .u32 0)]) [(0,1,v_47)]) λC48=>qAg C48=true∧newK 42 C48 (λB49 S50=>qA6 X leaf1 mark4 t5 x7 frame8 (.slc B49 0 1 (some 1) 1) K S50) s)
 (qA6 X leaf1 mark4 t5 x7 frame8 t11 K s)
def qAm (X:Td)(leaf1 mark4 t5 x7 frame8 t32 t38:AV) (K:KvP) (s:Hq):Prop:=
 oK (qAT t32 (.bool true) t38) λv_13=>qAQ v_13
 (K .nilslc s)
 (oK (qAC 1 x7) λv_14=>oK (rd1 s v_14) λv_15=>oK (qAC 2 x7) λv_16=>oK (rd1 s v_16) λv_17=>oK (negB true (eqV 0 true v_17 (.int .u32 0))) λv_18=>qAQ v_18
 (oK (qAR v_15) λv_51=>oK (qAH .gtr (.int .i64 v_51) (.int .i64 0)) λv_53=>qBG X leaf1 mark4 t5 x7 frame8 v_15 v_18 v_53 K s)
 (qBG X leaf1 mark4 t5 x7 frame8 v_15 v_18 .undef K s))
def qAn (X:Td)(leaf1 mark4 t5 x7 frame8 t27 t30:AV) (K:KvP) (s:Hq):Prop:=
 oK (qAT t27 (.bool true) t30) λv_12=>qAQ v_12
 (qAm X leaf1 mark4 t5 x7 frame8 v_12 .undef K s)
 (oK (qAC 0 x7) λv_54=>oK (rd1 s v_54) λv_55=>oK (qAC 4 t5) λv_56=>oK (rd1 s v_56) λv_57=>oK (qAR v_57) λv_58=>oK (qAH .geq v_55 (.int .i64 v_58)) λv_60=>qAm X leaf1 mark4 t5 x7 frame8 v_12 v_60 K s)
def qAs (X:Td)(leaf1 mark4 t5 x7 frame8 t21 t25:AV) (K:KvP) (s:Hq):Prop:=
 oK (qAT t21 (.bool true) t25) λv_11=>qAQ v_11
 (qAn X leaf1 mark4 t5 x7 frame8 v_11 .undef K s)
 (oK (qAC 0 x7) λv_61=>oK (rd1 s v_61) λv_62=>oK (qAH .lss v_62 (.int .i64 0)) λv_63=>qAn X leaf1 mark4 t5 x7 frame8 v_11 v_63 K s)
def qA5 (X:Td)(leaf1 mark4 t5 x7 frame8 t17 t19:AV) (K:KvP) (s:Hq):Prop:=
 oK (qAT t17 (.bool true) t19) λv_10=>qAQ v_10
 (qAs X leaf1 mark4 t5 x7 frame8 v_10 .undef K s)
 (oK (qAC 0 t5) λv_64=>oK (rd1 s v_64) λv_65=>oK (qAH .geq leaf1 v_65) λv_66=>qAs X leaf1 mark4 t5 x7 frame8 v_10 v_66 K s)
def qDS (X:Td)(t0 leaf1 x2 frame3 mark4:AV) (K:KvP) (s:Hq):Prop:=
 boxK 31 t0 (λB0 S1=>boxK 44 x2 (λB2 S3=>boxK 52 frame3 (λB4 S5=>oK (rdN S5 19 B0) λv_6=>wC Tryz.prog X 37 [(.agg v_6)] (λv_7 S8=>oK (qAo .not v_7) λv_9=>qAQ v_9
 (qA5 X leaf1 mark4 B0 B2 B4 v_9 .undef K S8)
 (oK (qAH .lss leaf1 (.int .i64 0)) λv_67=>qA5 X leaf1 mark4 B0 B2 B4 v_9 v_67 K S8)) S5) S3) S1) s
def qFV:Nat→List Nat:=λk=>cond (Nat.beq k 16) [12,13] ([])
theorem qFm {X:Td} (hX:FrX X) (hn:X 16=none) {t0 leaf1 x2 frame3 mark4:AV} {K:KvP} {s:Hq} (h:qDS X t0 leaf1 x2 frame3 mark4 K s):wC Tryz.prog X 16 [t0,leaf1,x2,frame3,mark4] K s:=
 qAL hX qFV hn Tryz.func16 (by kernel_rfl:Tryz.f16.body=some (qAU Tryz.f16)) (by kernel_rfl) (Eq.mpr (by kernel_rfl) h)
theorem qFp {t0 leaf1 x2 frame3 mark4:AV} {K:KvP} {s:Hq} (h:qDS XX t0 leaf1 x2 frame3 mark4 K s):wC Tryz.prog XX 16 [t0,leaf1,x2,frame3,mark4] K s:=qFm qBm rfl h
def qDs (X:Td)(t0:AV) (K:KvP) (s:Hq):Prop:=
 boxK 31 t0 (λB0 S1=>oK (rdN S1 19 B0) λv_2=>wC Tryz.prog X 71 [(.agg v_2)] (λv_3 S4=>oK (qAp v_3 0) λv_5=>oK (qAp v_3 1) λv_6=>oK (qAp v_3 2) λv_7=>oK (negB false (eqV 0 true v_5 (.int .i64 0))) λv_8=>K v_8 S4) S1) s
def qFq:Nat→List Nat:=λ_=>[]
theorem qGR {X:Td} (hX:FrX X) (hn:X 37=none) {t0:AV} {K:KvP} {s:Hq} (h:qDs X t0 K s):wC Tryz.prog X 37 [t0] K s:=
 qAL hX qFq hn Tryz.func37 (by kernel_rfl:Tryz.f37.body=some (qAU Tryz.f37)) (by kernel_rfl) (Eq.mpr (by kernel_rfl) h)
theorem qGL {t0:AV} {K:KvP} {s:Hq} (h:qDs XX t0 K s):wC Tryz.prog XX 37 [t0] K s:=qGR qBm rfl h
def qDQ (X:Td)(b0 h3 i4:AV) (I0:IvP) (m0:Nat) (K:KvP) (s:Hq):Prop:=
 oK (qAR b0) λv_0=>oK (qAH .lss i4 (.int .i64 v_0)) λv_2=>qAQ v_2
 (oK (qAZ 1 b0 i4) λv_3=>oK (rd1 s v_3) λv_4=>oK (qDl .u32 v_4) λv_5=>oK (qAH .xor h3 v_5) λv_6=>oK (qAH .mul v_6 (.int .u32 16777619)) λv_7=>oK (qAH .add i4 (.int .i64 1)) λv_8=>∃ m',m' < m0∧I0 [v_7,v_8] s m')
 (K h3 s)
def qCk (X:Td)(b0:AV) (K:KvP) (s:Hq):Prop:=
 ∃ I0:IvP,(∃ m,I0 [(.int .u32 2166136261),(.int .i64 0)] s m)∧∀ (f:Env) (s:Hq) (m0:Nat),I0 [f 3,f 4] s m0→
 qDQ X b0 (f 3) (f 4) I0 m0 K s
def qGf:Nat→List Nat:=λk=>cond (Nat.beq k 6) [3,4] ([])
theorem qG6 {X:Td} (hX:FrX X) (hn:X 82=none) {b0:AV} {K:KvP} {s:Hq} (h:qCk X b0 K s):wC Tryz.prog X 82 [b0] K s:=
 qAL hX qGf hn Tryz.func82 (by kernel_rfl:Tryz.f82.body=some (qAU Tryz.f82)) (by kernel_rfl) (Eq.mpr (by kernel_rfl) h)
theorem qG5 {b0:AV} {K:KvP} {s:Hq} (h:qCk XX b0 K s):wC Tryz.prog XX 82 [b0] K s:=qG6 qBm rfl h
def qDX (X:Td)(b0 n1 i7:AV) (I0:IvP) (m0:Nat) (K:KvP) (s:Hq):Prop:=
 oK (qAH .geq i7 (.int .i64 0)) λv_1=>qAQ v_1
 (oK (qAH .mul (.int .i64 8) i7) λv_2=>oK (qF4 .shr n1 v_2) λv_3=>oK (qDl .u8 v_3) λv_4=>oK (qCA (repl 1 [(.int .u8 0)]) [(0,1,v_4)]) λC5=>qAg C5=true∧newK 5 C5 (λB6 S7=>appK 5 1 b0 (.slc B6 0 1 (some 1) 1) (λv_8 S9=>oK (qAH .sub i7 (.int .i64 1)) λv_10=>∃ m',m' < m0∧I0 [v_8,v_10] S9 m') S7) s)
 (K b0 s)
def qC3 (X:Td)(b0 n1 size2:AV) (K:KvP) (s:Hq):Prop:=
 oK (qAH .sub size2 (.int .i64 1)) λv_0=>∃ I0:IvP,(∃ m,I0 [b0,v_0] s m)∧∀ (f:Env) (s:Hq) (m0:Nat),I0 [f 0,f 7] s m0→
 qDX X (f 0) n1 (f 7) I0 m0 K s
def qG7:Nat→List Nat:=λk=>cond (Nat.beq k 4) [0,7] ([])
theorem qG9 {X:Td} (hX:FrX X) (hn:X 81=none) {b0 n1 size2:AV} {K:KvP} {s:Hq} (h:qC3 X b0 n1 size2 K s):wC Tryz.prog X 81 [b0,n1,size2] K s:=
 qAL hX qG7 hn Tryz.func81 (by kernel_rfl:Tryz.f81.body=some (qAU Tryz.f81)) (by kernel_rfl) (Eq.mpr (by kernel_rfl) h)
theorem qHd {b0 n1 size2:AV} {K:KvP} {s:Hq} (h:qC3 XX b0 n1 size2 K s):wC Tryz.prog XX 81 [b0,n1,size2] K s:=qG9 qBm rfl h
def qGe (X:Td)(n1 t10 t19:AV) (K:KvP) (s:Hq):Prop:=
 oK (qAT t10 (.bool true) t19) λv_6=>qAQ v_6
 (K (.int .u32 0) s)
 (wC Tryz.prog X 80 [n1] (λv_7 S8=>oK (qAp v_7 0) λv_9=>oK (qAp v_7 1) λv_10=>K v_9 S8) s)
def qMf (X:Td)(t0 n1:AV) (K:KvP) (s:Hq):Prop:=
 boxK 31 t0 (λB0 S1=>oK (rdN S1 19 B0) λv_2=>wC Tryz.prog X 78 [(.agg v_2)] (λv_3 S4=>oK (qAo .not v_3) λv_5=>qAQ v_5
 (qGe X n1 v_5 .undef K S4)
 (oK (qAC 0 B0) λv_11=>oK (rd1 S4 v_11) λv_12=>oK (qAC 1 B0) λv_13=>oK (rd1 S4 v_13) λv_14=>oK (qAH .add v_12 v_14) λv_15=>oK (qAH .sub v_15 (.int .i64 1)) λv_16=>wC Tryz.prog X 79 [n1,(.int .i64 0),v_16] (λv_17 S18=>oK (qAo .not v_17) λv_19=>qGe X n1 v_5 v_19 K S18) S4)) S1) s
def qNc:Nat→List Nat:=λ_=>[]
theorem qOM {X:Td} (hX:FrX X) (hn:X 46=none) {t0 n1:AV} {K:KvP} {s:Hq} (h:qMf X t0 n1 K s):wC Tryz.prog X 46 [t0,n1] K s:=
 qAL hX qNc hn Tryz.func46 (by kernel_rfl:Tryz.f46.body=some (qAU Tryz.f46)) (by kernel_rfl) (Eq.mpr (by kernel_rfl) h)
theorem qOe {t0 n1:AV} {K:KvP} {s:Hq} (h:qMf XX t0 n1 K s):wC Tryz.prog XX 46 [t0,n1] K s:=qOM qBm rfl h
def qA9 (X:Td)(n0 t6 t8:AV) (K:KvP) (s:Hq):Prop:=
 oK (qAT t6 (.bool true) t8) λv_1=>qAQ v_1
 (K (.tup [(.int .u32 0),(.int .i64 2)]) s)
 (oK (qDl .u32 n0) λv_2=>oK (qAH .add (.int .u32 184483840) v_2) λv_3=>oK (qAH .add v_3 (.int .u32 1)) λv_4=>K (.tup [v_4,(.int .i64 0)]) s)
def qBz (X:Td)(n0:AV) (K:KvP) (s:Hq):Prop:=
 oK (qAH .lss n0 (.int .i64 0)) λv_0=>qAQ v_0
 (qA9 X n0 v_0 .undef K s)
 (oK (qAH .geq n0 (.int .i64 32)) λv_5=>qA9 X n0 v_0 v_5 K s)
def qEh:Nat→List Nat:=λ_=>[]
theorem qFJ {X:Td} (hX:FrX X) (hn:X 80=none) {n0:AV} {K:KvP} {s:Hq} (h:qBz X n0 K s):wC Tryz.prog X 80 [n0] K s:=
 qAL hX qEh hn Tryz.func80 (by kernel_rfl:Tryz.f80.body=some (qAU Tryz.f80)) (by kernel_rfl) (Eq.mpr (by kernel_rfl) h)
theorem qE7 {n0:AV} {K:KvP} {s:Hq} (h:qBz XX n0 K s):wC Tryz.prog XX 80 [n0] K s:=qFJ qBm rfl h
def qBj (X:Td)(a0 b1 same5 i6 t13 t17:AV) (I0:IvP) (m0:Nat) (K:KvP) (s:Hq):Prop:=
 oK (qAT t13 t17 (.bool false)) λv_5=>qAQ v_5
 (oK (qAZ 21 a0 i6) λv_6=>oK (rdN s 21 v_6) λv_7=>oK (qAZ 21 b1 i6) λv_8=>oK (rdN s 21 v_8) λv_9=>oK (negB false (qH3 Tryz.prog 55 (.agg v_7) (.agg v_9))) λv_10=>oK (qAH .add i6 (.int .i64 1)) λv_11=>∃ m',m' < m0∧I0 [v_10,v_11] s m')
 (K same5 s)
def qCx (X:Td)(a0 b1 same5 i6:AV) (I0:IvP) (m0:Nat) (K:KvP) (s:Hq):Prop:=
 qAQ same5
 (oK (qAR a0) λv_12=>oK (qAH .lss i6 (.int .i64 v_12)) λv_14=>qBj X a0 b1 same5 i6 same5 v_14 I0 m0 K s)
 (qBj X a0 b1 same5 i6 same5 .undef I0 m0 K s)
def qCK (X:Td)(a0 b1:AV) (K:KvP) (s:Hq):Prop:=
 oK (qAR a0) λv_0=>oK (qAR b1) λv_2=>oK (negB false (eqV 0 false (.int .i64 v_0) (.int .i64 v_2))) λv_4=>∃ I0:IvP,(∃ m,I0 [v_4,(.int .i64 0)] s m)∧∀ (f:Env) (s:Hq) (m0:Nat),I0 [f 5,f 6] s m0→
 qCx X a0 b1 (f 5) (f 6) I0 m0 K s
def qFg:Nat→List Nat:=λk=>cond (Nat.beq k 6) [5,6] ([])
theorem qFn {X:Td} (hX:FrX X) (hn:X 14=none) {a0 b1:AV} {K:KvP} {s:Hq} (h:qCK X a0 b1 K s):wC Tryz.prog X 14 [a0,b1] K s:=
 qAL hX qFg hn Tryz.func14 (by kernel_rfl:Tryz.f14.body=some (qAU Tryz.f14)) (by kernel_rfl) (Eq.mpr (by kernel_rfl) h)
theorem qFs {a0 b1:AV} {K:KvP} {s:Hq} (h:qCK XX a0 b1 K s):wC Tryz.prog XX 14 [a0,b1] K s:=qFn qBm rfl h
def qDP (X:Td)(b0 h3 t6 t7:AV) (I0:IvP) (m0:Nat) (K:KvP) (s:Hq):Prop:=
 oK (qAH .lss t7 t6) λv_2=>qAQ v_2
 (oK (qAZ 1 b0 t7) λv_3=>oK (rd1 s v_3) λv_4=>oK (qDl .u32 v_4) λv_5=>oK (qAH .xor h3 v_5) λv_6=>oK (qAH .mul v_6 (.int .u32 16777619)) λv_7=>oK (qAH .add t7 (.int .i64 1)) λv_8=>∃ m',m' < m0∧I0 [v_7,v_8] s m')
 (K h3 s)
def qCj (X:Td)(b0:AV) (K:KvP) (s:Hq):Prop:=
 oK (qAR b0) λv_0=>∃ I0:IvP,(∃ m,I0 [(.int .u32 2166136261),(.int .i64 0)] s m)∧∀ (f:Env) (s:Hq) (m0:Nat),I0 [f 3,f 7] s m0→
 qDP X b0 (f 3) (.int .i64 v_0) (f 7) I0 m0 K s
def qGb:Nat→List Nat:=λk=>cond (Nat.beq k 6) [3,7] ([])
theorem qG0 {X:Td} (hX:FrX X) (hn:X 52=none) {b0:AV} {K:KvP} {s:Hq} (h:qCj X b0 K s):wC Tryz.prog X 52 [b0] K s:=
 qAL hX qGb hn Tryz.func52 (by kernel_rfl:Tryz.f52.body=some (qAU Tryz.f52)) (by kernel_rfl) (Eq.mpr (by kernel_rfl) h)
theorem qGy {b0:AV} {K:KvP} {s:Hq} (h:qCj XX b0 K s):wC Tryz.prog XX 52 [b0] K s:=qG0 qBm rfl h
end Go.AM
namespace Go.AM
open Go Go.Proofs
set_option maxRecDepth 100000
end Go.AM
