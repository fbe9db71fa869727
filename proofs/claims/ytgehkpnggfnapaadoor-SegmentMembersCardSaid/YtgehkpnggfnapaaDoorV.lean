/- Part V of a calculus over a small memory that is proved to answer as the program does, and of its use for the functions that the law reaches: see the last part. -/
import Derived.Test.YtgehkpnggfnapaaDoorU2
import Derived.Test.YtgehkpnggfnapaaDoorProg
import Derived.KernelRfl
set_option linter.unusedVariables false
namespace Go.AM
open Go Go.Proofs
set_option maxRecDepth 100000
/-- the numbers of the table that the program's own text lays -/
abbrev kindsL : List AVal := [.int .i64 1, .int .u8 0, .int .u8 2, .int .i64 2, .int .u8 3, .int .u8 12, .int .i64 3, .int .u8 6, .int .u8 0, .int .i64 4, .int .u8 6, .int .u8 1, .int .i64 5, .int .u8 6, .int .u8 2, .int .i64 6, .int .u8 6, .int .u8 3, .int .i64 7, .int .u8 6, .int .u8 6]
abbrev XX : Told := closedG 0 kindsL [6]
theorem XX_fr : FrX XX := closedG_fr _ _ _
/-- leafmesh/leafmeshlaw25.SegmentMembers (3) -/
def vc_leafmeshlaw25_SegmentMembers_j2 (X : Told) (t49 : AVal) (t50 : AVal) (K : AVal → Heap → Prop) (s : Heap) : Prop :=
  optK (pickV t49 t50 (.bool false)) fun v_44 =>
  K v_44 s
def vc_leafmeshlaw25_SegmentMembers_j1 (X : Told) (t44 : AVal) (t47 : AVal) (K : AVal → Heap → Prop) (s : Heap) : Prop :=
  optK (pickV t44 t47 (.bool false)) fun v_43 =>
  boolK v_43
   (wpCall Tryd.prog X 6 [] (fun v_45 s_46 =>
    vc_leafmeshlaw25_SegmentMembers_j2 X v_43 v_45 K s_46) s)
   (vc_leafmeshlaw25_SegmentMembers_j2 X v_43 .undef K s)
def vc_leafmeshlaw25_SegmentMembers_j0 (X : Told) (routes0 : AVal) (esi3 : AVal) (t5 : AVal) (t30 : AVal) (t33 : AVal) (K : AVal → Heap → Prop) (s : Heap) : Prop :=
  optK (pickV t30 t33 (.bool false)) fun v_20 =>
  boolK v_20
   (optK (rdN s 10 esi3) fun v_21 =>
  wpCall Tryd.prog X 12 [t5, (.agg v_21)] (fun v_22 s_23 =>
  (∀ b, s b ≠ none → s b = none → s_23 b = none) →
  optK (rdN (cutH [(s, (add s s_23))] (add s s_23)) 10 esi3) fun v_24 =>
  wpCall Tryd.prog X 13 [routes0, (.agg v_24)] (fun v_25 s_26 =>
  wpCall Tryd.prog X 11 [v_22, v_25] (fun v_27 s_28 =>
  optK (pickV v_20 v_27 (.bool false)) fun v_29 =>
  boolK v_29
   (wpCall Tryd.prog X 14 [t5, routes0] (fun v_30 s_31 =>
  optK (pickV v_29 v_30 (.bool false)) fun v_32 =>
  boolK v_32
   (wpCall Tryd.prog X 6 [] (fun v_33 s_34 =>
  optK (pickV v_32 v_33 (.bool false)) fun v_35 =>
  K v_35 s_34) s_31)
   (optK (pickV v_32 .undef (.bool false)) fun v_36 =>
  K v_36 s_31)) s_28)
   (optK (pickV v_29 .undef (.bool false)) fun v_37 =>
  boolK v_37
   (wpCall Tryd.prog X 6 [] (fun v_38 s_39 =>
  optK (pickV v_37 v_38 (.bool false)) fun v_40 =>
  K v_40 s_39) s_28)
   (optK (pickV v_37 .undef (.bool false)) fun v_41 =>
  K v_41 s_28))) s_26) (add s s_23)) (frz s))
   (optK (pickV v_20 .undef (.bool false)) fun v_42 =>
  boolK v_42
   (wpCall Tryd.prog X 14 [t5, routes0] (fun v_47 s_48 =>
    vc_leafmeshlaw25_SegmentMembers_j1 X v_42 v_47 K s_48) s)
   (vc_leafmeshlaw25_SegmentMembers_j1 X v_42 .undef K s))
def vc_leafmeshlaw25_SegmentMembers (X : Told) (routes0 : AVal) (esi1 : AVal) (K : AVal → Heap → Prop) (s : Heap) : Prop :=
  boxK 24 esi1 (fun b_0 s_1 =>
  wpCall Tryd.prog X 5 [routes0] (fun v_2 s_3 =>
  boolK v_2
   (wpCall Tryd.prog X 6 [] (fun v_4 s_5 =>
    K v_4 s_5) s_3)
   (wpCall Tryd.prog X 7 [routes0] (fun v_6 s_7 =>
    optK (rdN s_7 10 b_0) fun v_8 =>
    wpCall Tryd.prog X 8 [v_6, (.agg v_8)] (fun v_9 s_10 =>
    optK (extractA v_9 0) fun v_11 =>
    optK (extractA v_9 1) fun v_12 =>
    optK (rdN s_10 10 b_0) fun v_13 =>
    wpCall Tryd.prog X 9 [routes0, (.agg v_13)] (fun v_14 s_15 =>
    optK (extractA v_14 0) fun v_16 =>
    optK (extractA v_14 1) fun v_17 =>
    wpCall Tryd.prog X 10 [v_11, v_16] (fun v_18 s_19 =>
    boolK v_18
     (optK (negB false (eqV 0 false v_12 v_17)) fun v_49 =>
      vc_leafmeshlaw25_SegmentMembers_j0 X routes0 b_0 v_6 v_18 v_49 K s_19)
     (vc_leafmeshlaw25_SegmentMembers_j0 X routes0 b_0 v_6 v_18 .undef K s_19)) s_15) s_10) s_7) s_3)) s_1) s
def vc_leafmeshlaw25_SegmentMembers_ann : Nat → List Nat := fun _ => []
theorem vc_leafmeshlaw25_SegmentMembers_eq (X : Told) (routes0 : AVal) (esi1 : AVal) (K : AVal → Heap → Prop) (s : Heap) : wpC Tryd.prog X vc_leafmeshlaw25_SegmentMembers_ann Tryd.f3.ntmps none (bodyOf Tryd.f3) (envOf [routes0, esi1]) (fun e env s => retK e (resK Tryd.prog Tryd.f3.results.toList env (fun vs => K (oneV vs) s) s)) s = vc_leafmeshlaw25_SegmentMembers X routes0 esi1 K s := by kernel_rfl
theorem vc_leafmeshlaw25_SegmentMembers_ok {X : Told} (hX : FrX X) (hn : X 3 = none) {routes0 : AVal} {esi1 : AVal} {K : AVal → Heap → Prop} {s : Heap} (h : vc_leafmeshlaw25_SegmentMembers X routes0 esi1 K s) : wpCall Tryd.prog X 3 [routes0, esi1] K s :=
  wpCall_code hX vc_leafmeshlaw25_SegmentMembers_ann hn Tryd.func3 (by kernel_rfl : Tryd.f3.body = some (bodyOf Tryd.f3)) (by kernel_rfl) ((vc_leafmeshlaw25_SegmentMembers_eq X routes0 esi1 K s).mpr h)
theorem vc_leafmeshlaw25_SegmentMembers_in {routes0 : AVal} {esi1 : AVal} {K : AVal → Heap → Prop} {s : Heap} (h : vc_leafmeshlaw25_SegmentMembers XX routes0 esi1 K s) : wpCall Tryd.prog XX 3 [routes0, esi1] K s := vc_leafmeshlaw25_SegmentMembers_ok XX_fr rfl h
/-- leafmesh/leafmeshkit.ManyRoutes (5) -/
def vc_leafmeshkit_ManyRoutes_j2 (X : Told) (i3 : AVal) (t31 : AVal) (t39 : AVal) (I0 : List AVal → Heap → Nat → Prop) (m0 : Nat) (K : AVal → Heap → Prop) (s : Heap) : Prop :=
  optK (pickV t31 (.bool true) t39) fun v_14 =>
  boolK v_14
   (K (.bool true) s)
   (optK (arithV .add i3 (.int .i64 1)) fun v_15 =>
    ∃ m', m' < m0 ∧ I0 [v_15] s m')
def vc_leafmeshkit_ManyRoutes_j1 (X : Told) (l0 : AVal) (i3 : AVal) (t21 : AVal) (t29 : AVal) (I0 : List AVal → Heap → Nat → Prop) (m0 : Nat) (K : AVal → Heap → Prop) (s : Heap) : Prop :=
  optK (pickV t21 (.bool true) t29) fun v_13 =>
  boolK v_13
   (vc_leafmeshkit_ManyRoutes_j2 X i3 v_13 .undef I0 m0 K s)
   (optK (iaddrS 38 l0 i3) fun v_16 =>
    optK (addOff 21 v_16) fun v_17 =>
    optK (addOff 10 v_17) fun v_18 =>
    optK (rd1 s v_18) fun v_19 =>
    optK (lenOfA v_19) fun v_20 =>
    optK (arithV .gtr (.int .i64 v_20) (.int .i64 20)) fun v_22 =>
    vc_leafmeshkit_ManyRoutes_j2 X i3 v_13 v_22 I0 m0 K s)
def vc_leafmeshkit_ManyRoutes_l0 (X : Told) (l0 : AVal) (i3 : AVal) (I0 : List AVal → Heap → Nat → Prop) (m0 : Nat) (K : AVal → Heap → Prop) (s : Heap) : Prop :=
  optK (lenOfA l0) fun v_3 =>
  optK (arithV .lss i3 (.int .i64 v_3)) fun v_5 =>
  boolK v_5
   (optK (iaddrS 38 l0 i3) fun v_6 =>
    optK (addOff 21 v_6) fun v_7 =>
    optK (addOff 1 v_7) fun v_8 =>
    optK (rd1 s v_8) fun v_9 =>
    optK (lenOfA v_9) fun v_10 =>
    optK (arithV .gtr (.int .i64 v_10) (.int .i64 20)) fun v_12 =>
    boolK v_12
     (vc_leafmeshkit_ManyRoutes_j1 X l0 i3 v_12 .undef I0 m0 K s)
     (optK (iaddrS 38 l0 i3) fun v_23 =>
      optK (addOff 21 v_23) fun v_24 =>
      optK (addOff 9 v_24) fun v_25 =>
      optK (rd1 s v_25) fun v_26 =>
      optK (lenOfA v_26) fun v_27 =>
      optK (arithV .gtr (.int .i64 v_27) (.int .i64 20)) fun v_29 =>
      vc_leafmeshkit_ManyRoutes_j1 X l0 i3 v_12 v_29 I0 m0 K s))
   (K (.bool false) s)
def vc_leafmeshkit_ManyRoutes (X : Told) (l0 : AVal) (K : AVal → Heap → Prop) (s : Heap) : Prop :=
  optK (lenOfA l0) fun v_0 =>
  optK (arithV .gtr (.int .i64 v_0) (.int .i64 60)) fun v_2 =>
  boolK v_2
   (K (.bool true) s)
   (∃ I0 : List AVal → Heap → Nat → Prop, (∃ m, I0 [(.int .i64 0)] s m) ∧ ∀ (f : Env) (s : Heap) (m0 : Nat), I0 [f 3] s m0 →
      vc_leafmeshkit_ManyRoutes_l0 X l0 (f 3) I0 m0 K s)
def vc_leafmeshkit_ManyRoutes_ann : Nat → List Nat := fun k => cond (Nat.beq k 8) [3] ([])
theorem vc_leafmeshkit_ManyRoutes_eq (X : Told) (l0 : AVal) (K : AVal → Heap → Prop) (s : Heap) : wpC Tryd.prog X vc_leafmeshkit_ManyRoutes_ann Tryd.f5.ntmps none (bodyOf Tryd.f5) (envOf [l0]) (fun e env s => retK e (resK Tryd.prog Tryd.f5.results.toList env (fun vs => K (oneV vs) s) s)) s = vc_leafmeshkit_ManyRoutes X l0 K s := by kernel_rfl
theorem vc_leafmeshkit_ManyRoutes_ok {X : Told} (hX : FrX X) (hn : X 5 = none) {l0 : AVal} {K : AVal → Heap → Prop} {s : Heap} (h : vc_leafmeshkit_ManyRoutes X l0 K s) : wpCall Tryd.prog X 5 [l0] K s :=
  wpCall_code hX vc_leafmeshkit_ManyRoutes_ann hn Tryd.func5 (by kernel_rfl : Tryd.f5.body = some (bodyOf Tryd.f5)) (by kernel_rfl) ((vc_leafmeshkit_ManyRoutes_eq X l0 K s).mpr h)
theorem vc_leafmeshkit_ManyRoutes_in {l0 : AVal} {K : AVal → Heap → Prop} {s : Heap} (h : vc_leafmeshkit_ManyRoutes XX l0 K s) : wpCall Tryd.prog XX 5 [l0] K s := vc_leafmeshkit_ManyRoutes_ok XX_fr rfl h
/-- leafmesh/leafmeshkit.OwnRoutes (7) -/
def vc_leafmeshkit_OwnRoutes_l0 (X : Told) (l0 : AVal) (out3 : AVal) (i4 : AVal) (I0 : List AVal → Heap → Nat → Prop) (m0 : Nat) (K : AVal → Heap → Prop) (s : Heap) : Prop :=
  optK (lenOfA l0) fun v_0 =>
  optK (arithV .lss i4 (.int .i64 v_0)) fun v_2 =>
  boolK v_2
   (optK (iaddrS 38 l0 i4) fun v_3 =>
    optK (rdN s 38 v_3) fun v_4 =>
    wpCall Tryd.prog X 26 [(.agg v_4)] (fun v_5 s_6 =>
    optK (fillR (repl 1 [(.int .i64 0), (.int .u64 0), (.int .u8 0), (.int .u8 0), (.int .u8 0), (.int .u8 0), (.int .u8 0), (.int .u8 0), (.int .u8 0), (.int .u8 0), (.int .u8 0), (.int .u8 0), (.int .u32 0), (.int .u64 0), (.int .u32 0), (.bool false), (.int .u32 0), (.int .i64 0), (.int .u32 0), (.int .u32 0), (.int .u32 0), (.int .i64 0), .nilslc, (.int .u32 0), (.bool false), (.int .u32 0), (.bool false), (.int .u32 0), (.bool false), (.int .u32 0), .nilslc, .nilslc, (.int .i64 0), (.int .u32 0), (.int .u32 0), (.int .u32 0), (.int .u32 0), (.bool false)]) [(0, 38, v_5)]) fun c_7 => allOne c_7 = true ∧ newK 59 c_7 (fun b_8 s_9 =>
    appK 59 38 out3 (.slc b_8 0 1 (some 1) 38) (fun v_10 s_11 =>
    optK (arithV .add i4 (.int .i64 1)) fun v_12 =>
    ∃ m', m' < m0 ∧ I0 [v_10, v_12] s_11 m') s_9) s_6) s)
   (K out3 s)
def vc_leafmeshkit_OwnRoutes (X : Told) (l0 : AVal) (K : AVal → Heap → Prop) (s : Heap) : Prop :=
  ∃ I0 : List AVal → Heap → Nat → Prop, (∃ m, I0 [.nilslc, (.int .i64 0)] s m) ∧ ∀ (f : Env) (s : Heap) (m0 : Nat), I0 [f 3, f 4] s m0 →
    vc_leafmeshkit_OwnRoutes_l0 X l0 (f 3) (f 4) I0 m0 K s
def vc_leafmeshkit_OwnRoutes_ann : Nat → List Nat := fun k => cond (Nat.beq k 6) [3, 4] ([])
theorem vc_leafmeshkit_OwnRoutes_eq (X : Told) (l0 : AVal) (K : AVal → Heap → Prop) (s : Heap) : wpC Tryd.prog X vc_leafmeshkit_OwnRoutes_ann Tryd.f7.ntmps none (bodyOf Tryd.f7) (envOf [l0]) (fun e env s => retK e (resK Tryd.prog Tryd.f7.results.toList env (fun vs => K (oneV vs) s) s)) s = vc_leafmeshkit_OwnRoutes X l0 K s := by kernel_rfl
theorem vc_leafmeshkit_OwnRoutes_ok {X : Told} (hX : FrX X) (hn : X 7 = none) {l0 : AVal} {K : AVal → Heap → Prop} {s : Heap} (h : vc_leafmeshkit_OwnRoutes X l0 K s) : wpCall Tryd.prog X 7 [l0] K s :=
  wpCall_code hX vc_leafmeshkit_OwnRoutes_ann hn Tryd.func7 (by kernel_rfl : Tryd.f7.body = some (bodyOf Tryd.f7)) (by kernel_rfl) ((vc_leafmeshkit_OwnRoutes_eq X l0 K s).mpr h)
theorem vc_leafmeshkit_OwnRoutes_in {l0 : AVal} {K : AVal → Heap → Prop} {s : Heap} (h : vc_leafmeshkit_OwnRoutes XX l0 K s) : wpCall Tryd.prog XX 7 [l0] K s := vc_leafmeshkit_OwnRoutes_ok XX_fr rfl h
/-- leafmesh/segment.Candidates (8) -/
def vc_segment_Candidates_j1 (X : Told) (l6 : AVal) (alg7 : AVal) (agreed8 : AVal) (t16 : AVal) (I0 : List AVal → Heap → Nat → Prop) (m0 : Nat) (K : AVal → Heap → Prop) (s : Heap) : Prop :=
  optK (arithV .add t16 (.int .i64 1)) fun v_5 =>
  ∃ m', m' < m0 ∧ I0 [l6, alg7, agreed8, v_5] s m'
def vc_segment_Candidates_j4 (X : Told) (l6 : AVal) (alg7 : AVal) (r10 : AVal) (pref12 : AVal) (t16 : AVal) (t40 : AVal) (t43 : AVal) (I0 : List AVal → Heap → Nat → Prop) (m0 : Nat) (K : AVal → Heap → Prop) (s : Heap) : Prop :=
  optK (pickV t40 t43 (.bool false)) fun v_28 =>
  optK (addOff 21 r10) fun v_29 =>
  optK (addOff 2 v_29) fun v_30 =>
  optK (rd1 s v_30) fun v_31 =>
  optK (fillR [(.int .u32 0), (.int .i64 0)] [(0, 1, v_31), (1, 1, pref12)]) fun c_32 =>
  optK (fillR (repl 1 [(.int .u32 0), (.int .i64 0)]) [(0, 2, (.agg c_32))]) fun c_33 => allOne c_33 = true ∧ newK 35 c_33 (fun b_34 s_35 =>
  appK 35 2 l6 (.slc b_34 0 1 (some 1) 2) (fun v_36 s_37 =>
  vc_segment_Candidates_j1 X v_36 alg7 v_28 t16 I0 m0 K s_37) s_35) s
def vc_segment_Candidates_j3 (X : Told) (l6 : AVal) (alg7 : AVal) (r10 : AVal) (a11 : AVal) (pref12 : AVal) (t16 : AVal) (t37 : AVal) (t38 : AVal) (I0 : List AVal → Heap → Nat → Prop) (m0 : Nat) (K : AVal → Heap → Prop) (s : Heap) : Prop :=
  optK (pickV t37 t38 (.bool false)) fun v_27 =>
  boolK v_27
   (optK (negB false (eqV 0 false a11 alg7)) fun v_38 =>
    vc_segment_Candidates_j4 X l6 alg7 r10 pref12 t16 v_27 v_38 I0 m0 K s)
   (vc_segment_Candidates_j4 X l6 alg7 r10 pref12 t16 v_27 .undef I0 m0 K s)
def vc_segment_Candidates_j2 (X : Told) (l6 : AVal) (alg7 : AVal) (agreed8 : AVal) (r10 : AVal) (a11 : AVal) (pref12 : AVal) (found13 : AVal) (t16 : AVal) (I0 : List AVal → Heap → Nat → Prop) (m0 : Nat) (K : AVal → Heap → Prop) (s : Heap) : Prop :=
  boolK agreed8
   (vc_segment_Candidates_j3 X l6 alg7 r10 a11 pref12 t16 agreed8 found13 I0 m0 K s)
   (vc_segment_Candidates_j3 X l6 alg7 r10 a11 pref12 t16 agreed8 .undef I0 m0 K s)
def vc_segment_Candidates_j7 (X : Told) (l6 : AVal) (alg7 : AVal) (K : AVal → Heap → Prop) (s : Heap) : Prop :=
  K (.tup [l6, alg7]) s
def vc_segment_Candidates_j6 (X : Told) (l6 : AVal) (alg7 : AVal) (t64 : AVal) (t68 : AVal) (K : AVal → Heap → Prop) (s : Heap) : Prop :=
  optK (pickV t64 (.bool true) t68) fun v_45 =>
  boolK v_45
   (vc_segment_Candidates_j7 X l6 (.int .i64 0) K s)
   (vc_segment_Candidates_j7 X l6 alg7 K s)
def vc_segment_Candidates_j5 (X : Told) (l6 : AVal) (alg7 : AVal) (t60 : AVal) (t62 : AVal) (K : AVal → Heap → Prop) (s : Heap) : Prop :=
  optK (pickV t60 (.bool true) t62) fun v_44 =>
  boolK v_44
   (vc_segment_Candidates_j6 X l6 alg7 v_44 .undef K s)
   (wpCall Tryd.prog X 34 [] (fun v_46 s_47 =>
    optK (arithV .geq alg7 (.int .i64 3)) fun v_48 =>
    vc_segment_Candidates_j6 X l6 alg7 v_44 v_48 K s_47) s)
def vc_segment_Candidates_l0 (X : Told) (esi3 : AVal) (l6 : AVal) (alg7 : AVal) (agreed8 : AVal) (t14 : AVal) (t15 : AVal) (t16 : AVal) (I0 : List AVal → Heap → Nat → Prop) (m0 : Nat) (K : AVal → Heap → Prop) (s : Heap) : Prop :=
  optK (arithV .lss t16 t15) fun v_4 =>
  boolK v_4
   (optK (iaddrS 38 t14 t16) fun v_6 =>
    optK (rdN s 38 v_6) fun v_7 =>
    newK 59 [(.int .i64 0), (.int .u64 0), (.int .u8 0), (.int .u8 0), (.int .u8 0), (.int .u8 0), (.int .u8 0), (.int .u8 0), (.int .u8 0), (.int .u8 0), (.int .u8 0), (.int .u8 0), (.int .u32 0), (.int .u64 0), (.int .u32 0), (.bool false), (.int .u32 0), (.int .i64 0), (.int .u32 0), (.int .u32 0), (.int .u32 0), (.int .i64 0), .nilslc, (.int .u32 0), (.bool false), (.int .u32 0), (.bool false), (.int .u32 0), (.bool false), (.int .u32 0), .nilslc, .nilslc, (.int .i64 0), (.int .u32 0), (.int .u32 0), (.int .u32 0), (.int .u32 0), (.bool false)] (fun b_8 s_9 =>
    optK (wrAgg s_9 38 (.ptr b_8 0) (.agg v_7)) fun s_10 =>
    optK (rdN s_10 38 (.ptr b_8 0)) fun v_11 =>
    optK (rdN s_10 10 esi3) fun v_12 =>
    wpCall Tryd.prog X 27 [(.agg v_11), (.agg v_12)] (fun v_13 s_14 =>
    optK (unaryA .not v_13) fun v_15 =>
    boolK v_15
     (vc_segment_Candidates_j1 X l6 alg7 agreed8 t16 I0 m0 K s_14)
     (optK (addOff 21 (.ptr b_8 0)) fun v_16 =>
      optK (addOff 10 v_16) fun v_17 =>
      optK (rd1 s_14 v_17) fun v_18 =>
      wpCall Tryd.prog X 28 [v_18] (fun v_19 s_20 =>
      optK (extractA v_19 0) fun v_21 =>
      optK (extractA v_19 1) fun v_22 =>
      optK (extractA v_19 2) fun v_23 =>
      optK (lenOfA l6) fun v_24 =>
      optK (negB false (eqV 0 true (.int .i64 v_24) (.int .i64 0))) fun v_26 =>
      boolK v_26
       (vc_segment_Candidates_j2 X l6 v_21 agreed8 (.ptr b_8 0) v_21 v_22 v_23 t16 I0 m0 K s_20)
       (vc_segment_Candidates_j2 X l6 alg7 agreed8 (.ptr b_8 0) v_21 v_22 v_23 t16 I0 m0 K s_20)) s_14)) s_10) s)
   (wpCall Tryd.prog X 29 [l6, (.fn (.func 30) [] [])] (fun v_39 s_40 =>
    wpCall Tryd.prog X 32 [l6, (.fn (.func 33) [] [])] (fun v_41 s_42 =>
    optK (unaryA .not agreed8) fun v_43 =>
    boolK v_43
     (vc_segment_Candidates_j5 X v_41 alg7 v_43 .undef K s_42)
     (optK (arithV .lss alg7 (.int .i64 0)) fun v_49 =>
      vc_segment_Candidates_j5 X v_41 alg7 v_43 v_49 K s_42)) s_40) s)
def vc_segment_Candidates (X : Told) (routes0 : AVal) (esi1 : AVal) (K : AVal → Heap → Prop) (s : Heap) : Prop :=
  boxK 24 esi1 (fun b_0 s_1 =>
  optK (lenOfA routes0) fun v_2 =>
  ∃ I0 : List AVal → Heap → Nat → Prop, (∃ m, I0 [.nilslc, (.int .i64 0), (.bool true), (.int .i64 0)] s_1 m) ∧ ∀ (f : Env) (s : Heap) (m0 : Nat), I0 [f 6, f 7, f 8, f 16] s m0 →
    vc_segment_Candidates_l0 X b_0 (f 6) (f 7) (f 8) routes0 (.int .i64 v_2) (f 16) I0 m0 K s) s
def vc_segment_Candidates_ann : Nat → List Nat := fun k => cond (Nat.beq k 8) [6, 7, 8, 16] ([])
theorem vc_segment_Candidates_eq (X : Told) (routes0 : AVal) (esi1 : AVal) (K : AVal → Heap → Prop) (s : Heap) : wpC Tryd.prog X vc_segment_Candidates_ann Tryd.f8.ntmps none (bodyOf Tryd.f8) (envOf [routes0, esi1]) (fun e env s => retK e (resK Tryd.prog Tryd.f8.results.toList env (fun vs => K (oneV vs) s) s)) s = vc_segment_Candidates X routes0 esi1 K s := by kernel_rfl
theorem vc_segment_Candidates_ok {X : Told} (hX : FrX X) (hn : X 8 = none) {routes0 : AVal} {esi1 : AVal} {K : AVal → Heap → Prop} {s : Heap} (h : vc_segment_Candidates X routes0 esi1 K s) : wpCall Tryd.prog X 8 [routes0, esi1] K s :=
  wpCall_code hX vc_segment_Candidates_ann hn Tryd.func8 (by kernel_rfl : Tryd.f8.body = some (bodyOf Tryd.f8)) (by kernel_rfl) ((vc_segment_Candidates_eq X routes0 esi1 K s).mpr h)
theorem vc_segment_Candidates_in {routes0 : AVal} {esi1 : AVal} {K : AVal → Heap → Prop} {s : Heap} (h : vc_segment_Candidates XX routes0 esi1 K s) : wpCall Tryd.prog XX 8 [routes0, esi1] K s := vc_segment_Candidates_ok XX_fr rfl h
/-- leafmesh/leafmeshref25.Candidates (9) -/
def vc_leafmeshref25_Candidates_j1 (X : Told) (out6 : AVal) (alg7 : AVal) (all8 : AVal) (i9 : AVal) (I0 : List AVal → Heap → Nat → Prop) (m0 : Nat) (K : AVal → Heap → Prop) (s : Heap) : Prop :=
  optK (arithV .add i9 (.int .i64 1)) fun v_5 =>
  ∃ m', m' < m0 ∧ I0 [out6, alg7, all8, v_5] s m'
def vc_leafmeshref25_Candidates_j3 (X : Told) (out6 : AVal) (all8 : AVal) (i9 : AVal) (r10 : AVal) (a11 : AVal) (pref12 : AVal) (I0 : List AVal → Heap → Nat → Prop) (m0 : Nat) (K : AVal → Heap → Prop) (s : Heap) : Prop :=
  optK (addOff 21 r10) fun v_26 =>
  optK (addOff 2 v_26) fun v_27 =>
  optK (rd1 s v_27) fun v_28 =>
  optK (fillR [(.int .u32 0), (.int .i64 0)] [(0, 1, v_28), (1, 1, pref12)]) fun c_29 =>
  wpCall Tryd.prog X 36 [out6, (.agg c_29)] (fun v_30 s_31 =>
  vc_leafmeshref25_Candidates_j1 X v_30 a11 all8 i9 I0 m0 K s_31) s
def vc_leafmeshref25_Candidates_j5 (X : Told) (out6 : AVal) (all8 : AVal) (i9 : AVal) (r10 : AVal) (a11 : AVal) (pref12 : AVal) (I0 : List AVal → Heap → Nat → Prop) (m0 : Nat) (K : AVal → Heap → Prop) (s : Heap) : Prop :=
  optK (addOff 21 r10) fun v_35 =>
  optK (addOff 2 v_35) fun v_36 =>
  optK (rd1 s v_36) fun v_37 =>
  optK (fillR [(.int .u32 0), (.int .i64 0)] [(0, 1, v_37), (1, 1, pref12)]) fun c_38 =>
  wpCall Tryd.prog X 36 [out6, (.agg c_38)] (fun v_39 s_40 =>
  vc_leafmeshref25_Candidates_j1 X v_39 a11 all8 i9 I0 m0 K s_40) s
def vc_leafmeshref25_Candidates_j4 (X : Told) (out6 : AVal) (all8 : AVal) (i9 : AVal) (r10 : AVal) (a11 : AVal) (pref12 : AVal) (t45 : AVal) (t48 : AVal) (t51 : AVal) (I0 : List AVal → Heap → Nat → Prop) (m0 : Nat) (K : AVal → Heap → Prop) (s : Heap) : Prop :=
  optK (pickV t48 t51 (.bool false)) fun v_33 =>
  optK (pickV t45 (.bool true) v_33) fun v_34 =>
  boolK v_34
   (vc_leafmeshref25_Candidates_j5 X out6 (.bool false) i9 r10 a11 pref12 I0 m0 K s)
   (vc_leafmeshref25_Candidates_j5 X out6 all8 i9 r10 a11 pref12 I0 m0 K s)
def vc_leafmeshref25_Candidates_j2 (X : Told) (out6 : AVal) (alg7 : AVal) (all8 : AVal) (i9 : AVal) (r10 : AVal) (t28 : AVal) (t33 : AVal) (I0 : List AVal → Heap → Nat → Prop) (m0 : Nat) (K : AVal → Heap → Prop) (s : Heap) : Prop :=
  optK (pickV t28 (.bool true) t33) fun v_15 =>
  boolK v_15
   (vc_leafmeshref25_Candidates_j1 X out6 alg7 all8 i9 I0 m0 K s)
   (optK (addOff 21 r10) fun v_16 =>
    optK (addOff 10 v_16) fun v_17 =>
    optK (rd1 s v_17) fun v_18 =>
    wpCall Tryd.prog X 35 [v_18] (fun v_19 s_20 =>
    optK (extractA v_19 0) fun v_21 =>
    optK (extractA v_19 1) fun v_22 =>
    optK (extractA v_19 2) fun v_23 =>
    optK (unaryA .not v_23) fun v_24 =>
    boolK v_24
     (optK (pickV v_24 (.bool true) .undef) fun v_25 =>
      boolK v_25
       (vc_leafmeshref25_Candidates_j3 X out6 (.bool false) i9 r10 v_21 v_22 I0 m0 K s_20)
       (vc_leafmeshref25_Candidates_j3 X out6 all8 i9 r10 v_21 v_22 I0 m0 K s_20))
     (optK (arithV .geq alg7 (.int .i64 0)) fun v_32 =>
      boolK v_32
       (optK (negB true (eqV 0 false v_21 alg7)) fun v_41 =>
        vc_leafmeshref25_Candidates_j4 X out6 all8 i9 r10 v_21 v_22 v_24 v_32 v_41 I0 m0 K s_20)
       (vc_leafmeshref25_Candidates_j4 X out6 all8 i9 r10 v_21 v_22 v_24 v_32 .undef I0 m0 K s_20))) s)
def vc_leafmeshref25_Candidates_j7 (X : Told) (out6 : AVal) (alg7 : AVal) (t68 : AVal) (t70 : AVal) (K : AVal → Heap → Prop) (s : Heap) : Prop :=
  optK (pickV t68 (.bool true) t70) fun v_49 =>
  boolK v_49
   (K (.tup [out6, (.int .i64 0)]) s)
   (K (.tup [out6, alg7]) s)
def vc_leafmeshref25_Candidates_j6 (X : Told) (out6 : AVal) (alg7 : AVal) (t64 : AVal) (t66 : AVal) (K : AVal → Heap → Prop) (s : Heap) : Prop :=
  optK (pickV t64 (.bool true) t66) fun v_48 =>
  boolK v_48
   (vc_leafmeshref25_Candidates_j7 X out6 alg7 v_48 .undef K s)
   (optK (arithV .gtr alg7 (.int .i64 2)) fun v_50 =>
    vc_leafmeshref25_Candidates_j7 X out6 alg7 v_48 v_50 K s)
def vc_leafmeshref25_Candidates_l0 (X : Told) (routes0 : AVal) (esi3 : AVal) (out6 : AVal) (alg7 : AVal) (all8 : AVal) (i9 : AVal) (I0 : List AVal → Heap → Nat → Prop) (m0 : Nat) (K : AVal → Heap → Prop) (s : Heap) : Prop :=
  optK (lenOfA routes0) fun v_2 =>
  optK (arithV .lss i9 (.int .i64 v_2)) fun v_4 =>
  boolK v_4
   (optK (iaddrS 38 routes0 i9) fun v_6 =>
    optK (rdN s 38 v_6) fun v_7 =>
    newK 59 [(.int .i64 0), (.int .u64 0), (.int .u8 0), (.int .u8 0), (.int .u8 0), (.int .u8 0), (.int .u8 0), (.int .u8 0), (.int .u8 0), (.int .u8 0), (.int .u8 0), (.int .u8 0), (.int .u32 0), (.int .u64 0), (.int .u32 0), (.bool false), (.int .u32 0), (.int .i64 0), (.int .u32 0), (.int .u32 0), (.int .u32 0), (.int .i64 0), .nilslc, (.int .u32 0), (.bool false), (.int .u32 0), (.bool false), (.int .u32 0), (.bool false), (.int .u32 0), .nilslc, .nilslc, (.int .i64 0), (.int .u32 0), (.int .u32 0), (.int .u32 0), (.int .u32 0), (.bool false)] (fun b_8 s_9 =>
    optK (wrAgg s_9 38 (.ptr b_8 0) (.agg v_7)) fun s_10 =>
    optK (addOff 0 (.ptr b_8 0)) fun v_11 =>
    optK (addOff 0 v_11) fun v_12 =>
    optK (rd1 s_10 v_12) fun v_13 =>
    optK (negB true (eqV 0 true v_13 (.int .i64 4))) fun v_14 =>
    boolK v_14
     (vc_leafmeshref25_Candidates_j2 X out6 alg7 all8 i9 (.ptr b_8 0) v_14 .undef I0 m0 K s_10)
     (optK (addOff 0 (.ptr b_8 0)) fun v_42 =>
      optK (addOff 2 v_42) fun v_43 =>
      optK (rdN s_10 10 v_43) fun v_44 =>
      optK (rdN s_10 10 esi3) fun v_45 =>
      optK (negB true (eqAgg Tryd.prog 24 (.agg v_44) (.agg v_45))) fun v_46 =>
      vc_leafmeshref25_Candidates_j2 X out6 alg7 all8 i9 (.ptr b_8 0) v_14 v_46 I0 m0 K s_10)) s)
   (optK (unaryA .not all8) fun v_47 =>
    boolK v_47
     (vc_leafmeshref25_Candidates_j6 X out6 alg7 v_47 .undef K s)
     (optK (arithV .lss alg7 (.int .i64 0)) fun v_51 =>
      vc_leafmeshref25_Candidates_j6 X out6 alg7 v_47 v_51 K s))
def vc_leafmeshref25_Candidates (X : Told) (routes0 : AVal) (esi1 : AVal) (K : AVal → Heap → Prop) (s : Heap) : Prop :=
  boxK 24 esi1 (fun b_0 s_1 =>
  ∃ I0 : List AVal → Heap → Nat → Prop, (∃ m, I0 [.nilslc, (.int .i64 (-1)), (.bool true), (.int .i64 0)] s_1 m) ∧ ∀ (f : Env) (s : Heap) (m0 : Nat), I0 [f 6, f 7, f 8, f 9] s m0 →
    vc_leafmeshref25_Candidates_l0 X routes0 b_0 (f 6) (f 7) (f 8) (f 9) I0 m0 K s) s
def vc_leafmeshref25_Candidates_ann : Nat → List Nat := fun k => cond (Nat.beq k 8) [6, 7, 8, 9] ([])
theorem vc_leafmeshref25_Candidates_eq (X : Told) (routes0 : AVal) (esi1 : AVal) (K : AVal → Heap → Prop) (s : Heap) : wpC Tryd.prog X vc_leafmeshref25_Candidates_ann Tryd.f9.ntmps none (bodyOf Tryd.f9) (envOf [routes0, esi1]) (fun e env s => retK e (resK Tryd.prog Tryd.f9.results.toList env (fun vs => K (oneV vs) s) s)) s = vc_leafmeshref25_Candidates X routes0 esi1 K s := by kernel_rfl
theorem vc_leafmeshref25_Candidates_ok {X : Told} (hX : FrX X) (hn : X 9 = none) {routes0 : AVal} {esi1 : AVal} {K : AVal → Heap → Prop} {s : Heap} (h : vc_leafmeshref25_Candidates X routes0 esi1 K s) : wpCall Tryd.prog X 9 [routes0, esi1] K s :=
  wpCall_code hX vc_leafmeshref25_Candidates_ann hn Tryd.func9 (by kernel_rfl : Tryd.f9.body = some (bodyOf Tryd.f9)) (by kernel_rfl) ((vc_leafmeshref25_Candidates_eq X routes0 esi1 K s).mpr h)
theorem vc_leafmeshref25_Candidates_in {routes0 : AVal} {esi1 : AVal} {K : AVal → Heap → Prop} {s : Heap} (h : vc_leafmeshref25_Candidates XX routes0 esi1 K s) : wpCall Tryd.prog XX 9 [routes0, esi1] K s := vc_leafmeshref25_Candidates_ok XX_fr rfl h
/-- leafmesh/leafmeshkit.Same[leafmesh/api.Candidate] (10) -/
def vc_leafmeshkit_Same_api_Candidate__l0 (X : Told) (a0 : AVal) (b1 : AVal) (i5 : AVal) (I0 : List AVal → Heap → Nat → Prop) (m0 : Nat) (K : AVal → Heap → Prop) (s : Heap) : Prop :=
  optK (lenOfA a0) fun v_5 =>
  optK (arithV .lss i5 (.int .i64 v_5)) fun v_7 =>
  boolK v_7
   (optK (iaddrS 2 a0 i5) fun v_8 =>
    optK (rdN s 2 v_8) fun v_9 =>
    optK (iaddrS 2 b1 i5) fun v_10 =>
    optK (rdN s 2 v_10) fun v_11 =>
    optK (negB true (eqAgg Tryd.prog 35 (.agg v_9) (.agg v_11))) fun v_12 =>
    boolK v_12
     (K (.bool false) s)
     (optK (arithV .add i5 (.int .i64 1)) fun v_13 =>
      ∃ m', m' < m0 ∧ I0 [v_13] s m'))
   (K (.bool true) s)
def vc_leafmeshkit_Same_api_Candidate_ (X : Told) (a0 : AVal) (b1 : AVal) (K : AVal → Heap → Prop) (s : Heap) : Prop :=
  optK (lenOfA a0) fun v_0 =>
  optK (lenOfA b1) fun v_2 =>
  optK (negB true (eqV 0 false (.int .i64 v_0) (.int .i64 v_2))) fun v_4 =>
  boolK v_4
   (K (.bool false) s)
   (∃ I0 : List AVal → Heap → Nat → Prop, (∃ m, I0 [(.int .i64 0)] s m) ∧ ∀ (f : Env) (s : Heap) (m0 : Nat), I0 [f 5] s m0 →
      vc_leafmeshkit_Same_api_Candidate__l0 X a0 b1 (f 5) I0 m0 K s)
def vc_leafmeshkit_Same_api_Candidate__ann : Nat → List Nat := fun k => cond (Nat.beq k 8) [5] ([])
theorem vc_leafmeshkit_Same_api_Candidate__eq (X : Told) (a0 : AVal) (b1 : AVal) (K : AVal → Heap → Prop) (s : Heap) : wpC Tryd.prog X vc_leafmeshkit_Same_api_Candidate__ann Tryd.f10.ntmps none (bodyOf Tryd.f10) (envOf [a0, b1]) (fun e env s => retK e (resK Tryd.prog Tryd.f10.results.toList env (fun vs => K (oneV vs) s) s)) s = vc_leafmeshkit_Same_api_Candidate_ X a0 b1 K s := by kernel_rfl
theorem vc_leafmeshkit_Same_api_Candidate__ok {X : Told} (hX : FrX X) (hn : X 10 = none) {a0 : AVal} {b1 : AVal} {K : AVal → Heap → Prop} {s : Heap} (h : vc_leafmeshkit_Same_api_Candidate_ X a0 b1 K s) : wpCall Tryd.prog X 10 [a0, b1] K s :=
  wpCall_code hX vc_leafmeshkit_Same_api_Candidate__ann hn Tryd.func10 (by kernel_rfl : Tryd.f10.body = some (bodyOf Tryd.f10)) (by kernel_rfl) ((vc_leafmeshkit_Same_api_Candidate__eq X a0 b1 K s).mpr h)
theorem vc_leafmeshkit_Same_api_Candidate__in {a0 : AVal} {b1 : AVal} {K : AVal → Heap → Prop} {s : Heap} (h : vc_leafmeshkit_Same_api_Candidate_ XX a0 b1 K s) : wpCall Tryd.prog XX 10 [a0, b1] K s := vc_leafmeshkit_Same_api_Candidate__ok XX_fr rfl h
/-- leafmesh/leafmeshkit.Same[leafmesh/api.IP] (11) -/
def vc_leafmeshkit_Same_api_IP__l0 (X : Told) (a0 : AVal) (b1 : AVal) (i5 : AVal) (I0 : List AVal → Heap → Nat → Prop) (m0 : Nat) (K : AVal → Heap → Prop) (s : Heap) : Prop :=
  optK (lenOfA a0) fun v_5 =>
  optK (arithV .lss i5 (.int .i64 v_5)) fun v_7 =>
  boolK v_7
   (optK (iaddrS 1 a0 i5) fun v_8 =>
    optK (rd1 s v_8) fun v_9 =>
    optK (iaddrS 1 b1 i5) fun v_10 =>
    optK (rd1 s v_10) fun v_11 =>
    optK (negB true (eqV 0 false v_9 v_11)) fun v_12 =>
    boolK v_12
     (K (.bool false) s)
     (optK (arithV .add i5 (.int .i64 1)) fun v_13 =>
      ∃ m', m' < m0 ∧ I0 [v_13] s m'))
   (K (.bool true) s)
def vc_leafmeshkit_Same_api_IP_ (X : Told) (a0 : AVal) (b1 : AVal) (K : AVal → Heap → Prop) (s : Heap) : Prop :=
  optK (lenOfA a0) fun v_0 =>
  optK (lenOfA b1) fun v_2 =>
  optK (negB true (eqV 0 false (.int .i64 v_0) (.int .i64 v_2))) fun v_4 =>
  boolK v_4
   (K (.bool false) s)
   (∃ I0 : List AVal → Heap → Nat → Prop, (∃ m, I0 [(.int .i64 0)] s m) ∧ ∀ (f : Env) (s : Heap) (m0 : Nat), I0 [f 5] s m0 →
      vc_leafmeshkit_Same_api_IP__l0 X a0 b1 (f 5) I0 m0 K s)
def vc_leafmeshkit_Same_api_IP__ann : Nat → List Nat := fun k => cond (Nat.beq k 8) [5] ([])
theorem vc_leafmeshkit_Same_api_IP__eq (X : Told) (a0 : AVal) (b1 : AVal) (K : AVal → Heap → Prop) (s : Heap) : wpC Tryd.prog X vc_leafmeshkit_Same_api_IP__ann Tryd.f11.ntmps none (bodyOf Tryd.f11) (envOf [a0, b1]) (fun e env s => retK e (resK Tryd.prog Tryd.f11.results.toList env (fun vs => K (oneV vs) s) s)) s = vc_leafmeshkit_Same_api_IP_ X a0 b1 K s := by kernel_rfl
theorem vc_leafmeshkit_Same_api_IP__ok {X : Told} (hX : FrX X) (hn : X 11 = none) {a0 : AVal} {b1 : AVal} {K : AVal → Heap → Prop} {s : Heap} (h : vc_leafmeshkit_Same_api_IP_ X a0 b1 K s) : wpCall Tryd.prog X 11 [a0, b1] K s :=
  wpCall_code hX vc_leafmeshkit_Same_api_IP__ann hn Tryd.func11 (by kernel_rfl : Tryd.f11.body = some (bodyOf Tryd.f11)) (by kernel_rfl) ((vc_leafmeshkit_Same_api_IP__eq X a0 b1 K s).mpr h)
theorem vc_leafmeshkit_Same_api_IP__in {a0 : AVal} {b1 : AVal} {K : AVal → Heap → Prop} {s : Heap} (h : vc_leafmeshkit_Same_api_IP_ XX a0 b1 K s) : wpCall Tryd.prog XX 11 [a0, b1] K s := vc_leafmeshkit_Same_api_IP__ok XX_fr rfl h
/-- leafmesh/segment.Members (12) -/
def vc_segment_Members_j1 (X : Told) (l5 : AVal) (t10 : AVal) (I0 : List AVal → Heap → Nat → Prop) (m0 : Nat) (K : AVal → Heap → Prop) (s : Heap) : Prop :=
  optK (arithV .add t10 (.int .i64 1)) fun v_14 =>
  ∃ m', m' < m0 ∧ I0 [l5, v_14] s m'
def vc_segment_Members_l0 (X : Told) (esi3 : AVal) (l5 : AVal) (t8 : AVal) (t9 : AVal) (t10 : AVal) (I0 : List AVal → Heap → Nat → Prop) (m0 : Nat) (K : AVal → Heap → Prop) (s : Heap) : Prop :=
  optK (arithV .lss t10 t9) fun v_4 =>
  boolK v_4
   (optK (iaddrS 38 t8 t10) fun v_5 =>
    optK (rdN s 38 v_5) fun v_6 =>
    newK 59 [(.int .i64 0), (.int .u64 0), (.int .u8 0), (.int .u8 0), (.int .u8 0), (.int .u8 0), (.int .u8 0), (.int .u8 0), (.int .u8 0), (.int .u8 0), (.int .u8 0), (.int .u8 0), (.int .u32 0), (.int .u64 0), (.int .u32 0), (.bool false), (.int .u32 0), (.int .i64 0), (.int .u32 0), (.int .u32 0), (.int .u32 0), (.int .i64 0), .nilslc, (.int .u32 0), (.bool false), (.int .u32 0), (.bool false), (.int .u32 0), (.bool false), (.int .u32 0), .nilslc, .nilslc, (.int .i64 0), (.int .u32 0), (.int .u32 0), (.int .u32 0), (.int .u32 0), (.bool false)] (fun b_7 s_8 =>
    optK (wrAgg s_8 38 (.ptr b_7 0) (.agg v_6)) fun s_9 =>
    optK (rdN s_9 38 (.ptr b_7 0)) fun v_10 =>
    optK (rdN s_9 10 esi3) fun v_11 =>
    wpCall Tryd.prog X 27 [(.agg v_10), (.agg v_11)] (fun v_12 s_13 =>
    boolK v_12
     (optK (addOff 21 (.ptr b_7 0)) fun v_15 =>
      optK (addOff 2 v_15) fun v_16 =>
      optK (rd1 s_13 v_16) fun v_17 =>
      optK (fillR (repl 1 [(.int .u32 0)]) [(0, 1, v_17)]) fun c_18 => allOne c_18 = true ∧ newK 33 c_18 (fun b_19 s_20 =>
      appK 33 1 l5 (.slc b_19 0 1 (some 1) 1) (fun v_21 s_22 =>
      vc_segment_Members_j1 X v_21 t10 I0 m0 K s_22) s_20) s_13)
     (vc_segment_Members_j1 X l5 t10 I0 m0 K s_13)) s_9) s)
   (wpCall Tryd.prog X 37 [l5] (fun v_23 s_24 =>
    wpCall Tryd.prog X 38 [l5] (fun v_25 s_26 =>
    K v_25 s_26) s_24) s)
def vc_segment_Members (X : Told) (routes0 : AVal) (esi1 : AVal) (K : AVal → Heap → Prop) (s : Heap) : Prop :=
  boxK 24 esi1 (fun b_0 s_1 =>
  optK (lenOfA routes0) fun v_2 =>
  ∃ I0 : List AVal → Heap → Nat → Prop, (∃ m, I0 [.nilslc, (.int .i64 0)] s_1 m) ∧ ∀ (f : Env) (s : Heap) (m0 : Nat), I0 [f 5, f 10] s m0 →
    vc_segment_Members_l0 X b_0 (f 5) routes0 (.int .i64 v_2) (f 10) I0 m0 K s) s
def vc_segment_Members_ann : Nat → List Nat := fun k => cond (Nat.beq k 6) [5, 10] ([])
theorem vc_segment_Members_eq (X : Told) (routes0 : AVal) (esi1 : AVal) (K : AVal → Heap → Prop) (s : Heap) : wpC Tryd.prog X vc_segment_Members_ann Tryd.f12.ntmps none (bodyOf Tryd.f12) (envOf [routes0, esi1]) (fun e env s => retK e (resK Tryd.prog Tryd.f12.results.toList env (fun vs => K (oneV vs) s) s)) s = vc_segment_Members X routes0 esi1 K s := by kernel_rfl
theorem vc_segment_Members_ok {X : Told} (hX : FrX X) (hn : X 12 = none) {routes0 : AVal} {esi1 : AVal} {K : AVal → Heap → Prop} {s : Heap} (h : vc_segment_Members X routes0 esi1 K s) : wpCall Tryd.prog X 12 [routes0, esi1] K s :=
  wpCall_code hX vc_segment_Members_ann hn Tryd.func12 (by kernel_rfl : Tryd.f12.body = some (bodyOf Tryd.f12)) (by kernel_rfl) ((vc_segment_Members_eq X routes0 esi1 K s).mpr h)
theorem vc_segment_Members_in {routes0 : AVal} {esi1 : AVal} {K : AVal → Heap → Prop} {s : Heap} (h : vc_segment_Members XX routes0 esi1 K s) : wpCall Tryd.prog XX 12 [routes0, esi1] K s := vc_segment_Members_ok XX_fr rfl h
/-- leafmesh/leafmeshref25.Members (13) -/
def vc_leafmeshref25_Members_l0 (X : Told) (l5 : AVal) (out7 : AVal) (i8 : AVal) (I0 : List AVal → Heap → Nat → Prop) (m0 : Nat) (K : AVal → Heap → Prop) (s : Heap) : Prop :=
  optK (lenOfA l5) fun v_7 =>
  optK (arithV .lss i8 (.int .i64 v_7)) fun v_9 =>
  boolK v_9
   (optK (iaddrS 2 l5 i8) fun v_10 =>
    optK (addOff 0 v_10) fun v_11 =>
    optK (rd1 s v_11) fun v_12 =>
    optK (fillR (repl 1 [(.int .u32 0)]) [(0, 1, v_12)]) fun c_13 => allOne c_13 = true ∧ newK 33 c_13 (fun b_14 s_15 =>
    appK 33 1 out7 (.slc b_14 0 1 (some 1) 1) (fun v_16 s_17 =>
    optK (arithV .add i8 (.int .i64 1)) fun v_18 =>
    ∃ m', m' < m0 ∧ I0 [v_16, v_18] s_17 m') s_15) s)
   (K out7 s)
def vc_leafmeshref25_Members (X : Told) (routes0 : AVal) (esi1 : AVal) (K : AVal → Heap → Prop) (s : Heap) : Prop :=
  boxK 24 esi1 (fun b_0 s_1 =>
  optK (rdN s_1 10 b_0) fun v_2 =>
  wpCall Tryd.prog X 9 [routes0, (.agg v_2)] (fun v_3 s_4 =>
  optK (extractA v_3 0) fun v_5 =>
  optK (extractA v_3 1) fun v_6 =>
  ∃ I0 : List AVal → Heap → Nat → Prop, (∃ m, I0 [.nilslc, (.int .i64 0)] s_4 m) ∧ ∀ (f : Env) (s : Heap) (m0 : Nat), I0 [f 7, f 8] s m0 →
    vc_leafmeshref25_Members_l0 X v_5 (f 7) (f 8) I0 m0 K s) s_1) s
def vc_leafmeshref25_Members_ann : Nat → List Nat := fun k => cond (Nat.beq k 8) [7, 8] ([])
theorem vc_leafmeshref25_Members_eq (X : Told) (routes0 : AVal) (esi1 : AVal) (K : AVal → Heap → Prop) (s : Heap) : wpC Tryd.prog X vc_leafmeshref25_Members_ann Tryd.f13.ntmps none (bodyOf Tryd.f13) (envOf [routes0, esi1]) (fun e env s => retK e (resK Tryd.prog Tryd.f13.results.toList env (fun vs => K (oneV vs) s) s)) s = vc_leafmeshref25_Members X routes0 esi1 K s := by kernel_rfl
theorem vc_leafmeshref25_Members_ok {X : Told} (hX : FrX X) (hn : X 13 = none) {routes0 : AVal} {esi1 : AVal} {K : AVal → Heap → Prop} {s : Heap} (h : vc_leafmeshref25_Members X routes0 esi1 K s) : wpCall Tryd.prog X 13 [routes0, esi1] K s :=
  wpCall_code hX vc_leafmeshref25_Members_ann hn Tryd.func13 (by kernel_rfl : Tryd.f13.body = some (bodyOf Tryd.f13)) (by kernel_rfl) ((vc_leafmeshref25_Members_eq X routes0 esi1 K s).mpr h)
theorem vc_leafmeshref25_Members_in {routes0 : AVal} {esi1 : AVal} {K : AVal → Heap → Prop} {s : Heap} (h : vc_leafmeshref25_Members XX routes0 esi1 K s) : wpCall Tryd.prog XX 13 [routes0, esi1] K s := vc_leafmeshref25_Members_ok XX_fr rfl h
/-- leafmesh/leafmeshkit.SameRoutes (14) -/
def vc_leafmeshkit_SameRoutes_l0 (X : Told) (a0 : AVal) (b1 : AVal) (i5 : AVal) (I0 : List AVal → Heap → Nat → Prop) (m0 : Nat) (K : AVal → Heap → Prop) (s : Heap) : Prop :=
  optK (lenOfA a0) fun v_5 =>
  optK (arithV .lss i5 (.int .i64 v_5)) fun v_7 =>
  boolK v_7
   (optK (iaddrS 38 a0 i5) fun v_8 =>
    optK (rdN s 38 v_8) fun v_9 =>
    optK (iaddrS 38 b1 i5) fun v_10 =>
    optK (rdN s 38 v_10) fun v_11 =>
    wpCall Tryd.prog X 39 [(.agg v_9), (.agg v_11)] (fun v_12 s_13 =>
    optK (unaryA .not v_12) fun v_14 =>
    boolK v_14
     (K (.bool false) s_13)
     (optK (arithV .add i5 (.int .i64 1)) fun v_15 =>
      ∃ m', m' < m0 ∧ I0 [v_15] s_13 m')) s)
   (K (.bool true) s)
def vc_leafmeshkit_SameRoutes (X : Told) (a0 : AVal) (b1 : AVal) (K : AVal → Heap → Prop) (s : Heap) : Prop :=
  optK (lenOfA a0) fun v_0 =>
  optK (lenOfA b1) fun v_2 =>
  optK (negB true (eqV 0 false (.int .i64 v_0) (.int .i64 v_2))) fun v_4 =>
  boolK v_4
   (K (.bool false) s)
   (∃ I0 : List AVal → Heap → Nat → Prop, (∃ m, I0 [(.int .i64 0)] s m) ∧ ∀ (f : Env) (s : Heap) (m0 : Nat), I0 [f 5] s m0 →
      vc_leafmeshkit_SameRoutes_l0 X a0 b1 (f 5) I0 m0 K s)
def vc_leafmeshkit_SameRoutes_ann : Nat → List Nat := fun k => cond (Nat.beq k 8) [5] ([])
theorem vc_leafmeshkit_SameRoutes_eq (X : Told) (a0 : AVal) (b1 : AVal) (K : AVal → Heap → Prop) (s : Heap) : wpC Tryd.prog X vc_leafmeshkit_SameRoutes_ann Tryd.f14.ntmps none (bodyOf Tryd.f14) (envOf [a0, b1]) (fun e env s => retK e (resK Tryd.prog Tryd.f14.results.toList env (fun vs => K (oneV vs) s) s)) s = vc_leafmeshkit_SameRoutes X a0 b1 K s := by kernel_rfl
theorem vc_leafmeshkit_SameRoutes_ok {X : Told} (hX : FrX X) (hn : X 14 = none) {a0 : AVal} {b1 : AVal} {K : AVal → Heap → Prop} {s : Heap} (h : vc_leafmeshkit_SameRoutes X a0 b1 K s) : wpCall Tryd.prog X 14 [a0, b1] K s :=
  wpCall_code hX vc_leafmeshkit_SameRoutes_ann hn Tryd.func14 (by kernel_rfl : Tryd.f14.body = some (bodyOf Tryd.f14)) (by kernel_rfl) ((vc_leafmeshkit_SameRoutes_eq X a0 b1 K s).mpr h)
theorem vc_leafmeshkit_SameRoutes_in {a0 : AVal} {b1 : AVal} {K : AVal → Heap → Prop} {s : Heap} (h : vc_leafmeshkit_SameRoutes XX a0 b1 K s) : wpCall Tryd.prog XX 14 [a0, b1] K s := vc_leafmeshkit_SameRoutes_ok XX_fr rfl h
/-- leafmesh/leafmeshkit.OwnRoute (26) -/
def vc_leafmeshkit_OwnRoute (X : Told) (r0 : AVal) (K : AVal → Heap → Prop) (s : Heap) : Prop :=
  boxK 59 r0 (fun b_0 s_1 =>
  newK 59 [(.int .i64 0), (.int .u64 0), (.int .u8 0), (.int .u8 0), (.int .u8 0), (.int .u8 0), (.int .u8 0), (.int .u8 0), (.int .u8 0), (.int .u8 0), (.int .u8 0), (.int .u8 0), (.int .u32 0), (.int .u64 0), (.int .u32 0), (.bool false), (.int .u32 0), (.int .i64 0), (.int .u32 0), (.int .u32 0), (.int .u32 0), (.int .i64 0), .nilslc, (.int .u32 0), (.bool false), (.int .u32 0), (.bool false), (.int .u32 0), (.bool false), (.int .u32 0), .nilslc, .nilslc, (.int .i64 0), (.int .u32 0), (.int .u32 0), (.int .u32 0), (.int .u32 0), (.bool false)] (fun b_2 s_3 =>
  optK (addOff 21 b_0) fun v_4 =>
  optK (rdN s_3 15 v_4) fun v_5 =>
  wpCall Tryd.prog X 44 [(.agg v_5)] (fun v_6 s_7 =>
  optK (addOff 21 b_0) fun v_8 =>
  optK (wrAgg s_7 15 v_8 v_6) fun s_9 =>
  optK (rdN s_9 38 b_0) fun v_10 =>
  optK (wrAgg s_9 38 (.ptr b_2 0) (.agg v_10)) fun s_11 =>
  optK (rdN s_11 38 (.ptr b_2 0)) fun t2_12 =>
  K (.agg t2_12) s_11) s_3) s_1) s
def vc_leafmeshkit_OwnRoute_ann : Nat → List Nat := fun _ => []
theorem vc_leafmeshkit_OwnRoute_eq (X : Told) (r0 : AVal) (K : AVal → Heap → Prop) (s : Heap) : wpC Tryd.prog X vc_leafmeshkit_OwnRoute_ann Tryd.f26.ntmps none (bodyOf Tryd.f26) (envOf [r0]) (fun e env s => retK e (resK Tryd.prog Tryd.f26.results.toList env (fun vs => K (oneV vs) s) s)) s = vc_leafmeshkit_OwnRoute X r0 K s := by kernel_rfl
theorem vc_leafmeshkit_OwnRoute_ok {X : Told} (hX : FrX X) (hn : X 26 = none) {r0 : AVal} {K : AVal → Heap → Prop} {s : Heap} (h : vc_leafmeshkit_OwnRoute X r0 K s) : wpCall Tryd.prog X 26 [r0] K s :=
  wpCall_code hX vc_leafmeshkit_OwnRoute_ann hn Tryd.func26 (by kernel_rfl : Tryd.f26.body = some (bodyOf Tryd.f26)) (by kernel_rfl) ((vc_leafmeshkit_OwnRoute_eq X r0 K s).mpr h)
theorem vc_leafmeshkit_OwnRoute_in {r0 : AVal} {K : AVal → Heap → Prop} {s : Heap} (h : vc_leafmeshkit_OwnRoute XX r0 K s) : wpCall Tryd.prog XX 26 [r0] K s := vc_leafmeshkit_OwnRoute_ok XX_fr rfl h
/-- leafmesh/segment.about (27) -/
def vc_segment_about_j0 (X : Told) (t9 : AVal) (t14 : AVal) (K : AVal → Heap → Prop) (s : Heap) : Prop :=
  optK (pickV t9 t14 (.bool false)) fun v_8 =>
  K v_8 s
def vc_segment_about (X : Told) (r0 : AVal) (esi1 : AVal) (K : AVal → Heap → Prop) (s : Heap) : Prop :=
  boxK 59 r0 (fun b_0 s_1 =>
  boxK 24 esi1 (fun b_2 s_3 =>
  optK (addOff 0 b_0) fun v_4 =>
  optK (addOff 0 v_4) fun v_5 =>
  optK (rd1 s_3 v_5) fun v_6 =>
  optK (negB false (eqV 0 true v_6 (.int .i64 4))) fun v_7 =>
  boolK v_7
   (optK (addOff 0 b_0) fun v_9 =>
    optK (addOff 2 v_9) fun v_10 =>
    optK (rdN s_3 10 v_10) fun v_11 =>
    optK (rdN s_3 10 b_2) fun v_12 =>
    optK (negB false (eqAgg Tryd.prog 24 (.agg v_11) (.agg v_12))) fun v_13 =>
    vc_segment_about_j0 X v_7 v_13 K s_3)
   (vc_segment_about_j0 X v_7 .undef K s_3)) s_1) s
def vc_segment_about_ann : Nat → List Nat := fun _ => []
theorem vc_segment_about_eq (X : Told) (r0 : AVal) (esi1 : AVal) (K : AVal → Heap → Prop) (s : Heap) : wpC Tryd.prog X vc_segment_about_ann Tryd.f27.ntmps none (bodyOf Tryd.f27) (envOf [r0, esi1]) (fun e env s => retK e (resK Tryd.prog Tryd.f27.results.toList env (fun vs => K (oneV vs) s) s)) s = vc_segment_about X r0 esi1 K s := by kernel_rfl
theorem vc_segment_about_ok {X : Told} (hX : FrX X) (hn : X 27 = none) {r0 : AVal} {esi1 : AVal} {K : AVal → Heap → Prop} {s : Heap} (h : vc_segment_about X r0 esi1 K s) : wpCall Tryd.prog X 27 [r0, esi1] K s :=
  wpCall_code hX vc_segment_about_ann hn Tryd.func27 (by kernel_rfl : Tryd.f27.body = some (bodyOf Tryd.f27)) (by kernel_rfl) ((vc_segment_about_eq X r0 esi1 K s).mpr h)
theorem vc_segment_about_in {r0 : AVal} {esi1 : AVal} {K : AVal → Heap → Prop} {s : Heap} (h : vc_segment_about XX r0 esi1 K s) : wpCall Tryd.prog XX 27 [r0, esi1] K s := vc_segment_about_ok XX_fr rfl h
/-- leafmesh/comm.ElectionOf (28) -/
def vc_comm_ElectionOf (X : Told) (l0 : AVal) (K : AVal → Heap → Prop) (s : Heap) : Prop :=
  newK 3 [(.int .i64 0)] (fun b_0 s_1 =>
  wpCall Tryd.prog X 45 [l0, (.int .i64 7), (.fn (.func 46) [] [(.ptr b_0 0)])] (fun v_2 s_3 =>
  optK (extractA v_2 0) fun v_4 =>
  optK (extractA v_2 1) fun v_5 =>
  optK (rd1 s_3 (.ptr b_0 0)) fun v_6 =>
  optK (wr1 s_3 (.ptr b_0 0) v_6) fun s_7 =>
  optK (rd1 s_7 (.ptr b_0 0)) fun pref3_8 =>
  K (.tup [v_4, pref3_8, v_5]) s_7) s_1) s
def vc_comm_ElectionOf_ann : Nat → List Nat := fun _ => []
theorem vc_comm_ElectionOf_eq (X : Told) (l0 : AVal) (K : AVal → Heap → Prop) (s : Heap) : wpC Tryd.prog X vc_comm_ElectionOf_ann Tryd.f28.ntmps none (bodyOf Tryd.f28) (envOf [l0]) (fun e env s => retK e (resK Tryd.prog Tryd.f28.results.toList env (fun vs => K (oneV vs) s) s)) s = vc_comm_ElectionOf X l0 K s := by kernel_rfl
theorem vc_comm_ElectionOf_ok {X : Told} (hX : FrX X) (hn : X 28 = none) {l0 : AVal} {K : AVal → Heap → Prop} {s : Heap} (h : vc_comm_ElectionOf X l0 K s) : wpCall Tryd.prog X 28 [l0] K s :=
  wpCall_code hX vc_comm_ElectionOf_ann hn Tryd.func28 (by kernel_rfl : Tryd.f28.body = some (bodyOf Tryd.f28)) (by kernel_rfl) ((vc_comm_ElectionOf_eq X l0 K s).mpr h)
theorem vc_comm_ElectionOf_in {l0 : AVal} {K : AVal → Heap → Prop} {s : Heap} (h : vc_comm_ElectionOf XX l0 K s) : wpCall Tryd.prog XX 28 [l0] K s := vc_comm_ElectionOf_ok XX_fr rfl h
/-- slices.SortStableFunc[[]leafmesh/api.Candidate,leafmesh/api.Candidate] (29) -/
def vc_slices_SortStableFunc___api_Candidate_api_Candidate_ (X : Told) (x0 : AVal) (cmp1 : AVal) (K : AVal → Heap → Prop) (s : Heap) : Prop :=
  optK (lenOfA x0) fun v_0 =>
  wpCall Tryd.prog X 48 [x0, (.int .i64 v_0), cmp1] (fun v_2 s_3 =>
  K (.tup []) s_3) s
def vc_slices_SortStableFunc___api_Candidate_api_Candidate__ann : Nat → List Nat := fun _ => []
theorem vc_slices_SortStableFunc___api_Candidate_api_Candidate__eq (X : Told) (x0 : AVal) (cmp1 : AVal) (K : AVal → Heap → Prop) (s : Heap) : wpC Tryd.prog X vc_slices_SortStableFunc___api_Candidate_api_Candidate__ann Tryd.f29.ntmps none (bodyOf Tryd.f29) (envOf [x0, cmp1]) (fun e env s => retK e (resK Tryd.prog Tryd.f29.results.toList env (fun vs => K (oneV vs) s) s)) s = vc_slices_SortStableFunc___api_Candidate_api_Candidate_ X x0 cmp1 K s := by kernel_rfl
theorem vc_slices_SortStableFunc___api_Candidate_api_Candidate__ok {X : Told} (hX : FrX X) (hn : X 29 = none) {x0 : AVal} {cmp1 : AVal} {K : AVal → Heap → Prop} {s : Heap} (h : vc_slices_SortStableFunc___api_Candidate_api_Candidate_ X x0 cmp1 K s) : wpCall Tryd.prog X 29 [x0, cmp1] K s :=
  wpCall_code hX vc_slices_SortStableFunc___api_Candidate_api_Candidate__ann hn Tryd.func29 (by kernel_rfl : Tryd.f29.body = some (bodyOf Tryd.f29)) (by kernel_rfl) ((vc_slices_SortStableFunc___api_Candidate_api_Candidate__eq X x0 cmp1 K s).mpr h)
theorem vc_slices_SortStableFunc___api_Candidate_api_Candidate__in {x0 : AVal} {cmp1 : AVal} {K : AVal → Heap → Prop} {s : Heap} (h : vc_slices_SortStableFunc___api_Candidate_api_Candidate_ XX x0 cmp1 K s) : wpCall Tryd.prog XX 29 [x0, cmp1] K s := vc_slices_SortStableFunc___api_Candidate_api_Candidate__ok XX_fr rfl h
/-- leafmesh/segment.Candidates$1 (30) -/
def vc_segment_Candidates_1 (X : Told) (a0 : AVal) (b1 : AVal) (K : AVal → Heap → Prop) (s : Heap) : Prop :=
  boxK 35 a0 (fun b_0 s_1 =>
  boxK 35 b1 (fun b_2 s_3 =>
  optK (addOff 0 b_0) fun v_4 =>
  optK (rd1 s_3 v_4) fun v_5 =>
  optK (addOff 0 b_2) fun v_6 =>
  optK (rd1 s_3 v_6) fun v_7 =>
  wpCall Tryd.prog X 31 [v_5, v_7] (fun v_8 s_9 =>
  K v_8 s_9) s_3) s_1) s
def vc_segment_Candidates_1_ann : Nat → List Nat := fun _ => []
theorem vc_segment_Candidates_1_eq (X : Told) (a0 : AVal) (b1 : AVal) (K : AVal → Heap → Prop) (s : Heap) : wpC Tryd.prog X vc_segment_Candidates_1_ann Tryd.f30.ntmps none (bodyOf Tryd.f30) (envOf [a0, b1]) (fun e env s => retK e (resK Tryd.prog Tryd.f30.results.toList env (fun vs => K (oneV vs) s) s)) s = vc_segment_Candidates_1 X a0 b1 K s := by kernel_rfl
theorem vc_segment_Candidates_1_ok {X : Told} (hX : FrX X) (hn : X 30 = none) {a0 : AVal} {b1 : AVal} {K : AVal → Heap → Prop} {s : Heap} (h : vc_segment_Candidates_1 X a0 b1 K s) : wpCall Tryd.prog X 30 [a0, b1] K s :=
  wpCall_code hX vc_segment_Candidates_1_ann hn Tryd.func30 (by kernel_rfl : Tryd.f30.body = some (bodyOf Tryd.f30)) (by kernel_rfl) ((vc_segment_Candidates_1_eq X a0 b1 K s).mpr h)
theorem vc_segment_Candidates_1_in {a0 : AVal} {b1 : AVal} {K : AVal → Heap → Prop} {s : Heap} (h : vc_segment_Candidates_1 XX a0 b1 K s) : wpCall Tryd.prog XX 30 [a0, b1] K s := vc_segment_Candidates_1_ok XX_fr rfl h
/-- cmp.Compare[leafmesh/api.IP] (31) -/
def vc_cmp_Compare_api_IP_ (X : Told) (x0 : AVal) (y1 : AVal) (K : AVal → Heap → Prop) (s : Heap) : Prop :=
  wpCall Tryd.prog X 49 [x0] (fun v_0 s_1 =>
  wpCall Tryd.prog X 49 [y1] (fun v_2 s_3 =>
  boolK v_0
   (boolK v_2
     (K (.int .i64 0) s_3)
     (K (.int .i64 (-1)) s_3))
   (boolK v_2
     (K (.int .i64 1) s_3)
     (optK (arithV .lss x0 y1) fun v_4 =>
      boolK v_4
       (K (.int .i64 (-1)) s_3)
       (optK (arithV .gtr x0 y1) fun v_5 =>
        boolK v_5
         (K (.int .i64 1) s_3)
         (K (.int .i64 0) s_3))))) s_1) s
def vc_cmp_Compare_api_IP__ann : Nat → List Nat := fun _ => []
theorem vc_cmp_Compare_api_IP__eq (X : Told) (x0 : AVal) (y1 : AVal) (K : AVal → Heap → Prop) (s : Heap) : wpC Tryd.prog X vc_cmp_Compare_api_IP__ann Tryd.f31.ntmps none (bodyOf Tryd.f31) (envOf [x0, y1]) (fun e env s => retK e (resK Tryd.prog Tryd.f31.results.toList env (fun vs => K (oneV vs) s) s)) s = vc_cmp_Compare_api_IP_ X x0 y1 K s := by kernel_rfl
theorem vc_cmp_Compare_api_IP__ok {X : Told} (hX : FrX X) (hn : X 31 = none) {x0 : AVal} {y1 : AVal} {K : AVal → Heap → Prop} {s : Heap} (h : vc_cmp_Compare_api_IP_ X x0 y1 K s) : wpCall Tryd.prog X 31 [x0, y1] K s :=
  wpCall_code hX vc_cmp_Compare_api_IP__ann hn Tryd.func31 (by kernel_rfl : Tryd.f31.body = some (bodyOf Tryd.f31)) (by kernel_rfl) ((vc_cmp_Compare_api_IP__eq X x0 y1 K s).mpr h)
theorem vc_cmp_Compare_api_IP__in {x0 : AVal} {y1 : AVal} {K : AVal → Heap → Prop} {s : Heap} (h : vc_cmp_Compare_api_IP_ XX x0 y1 K s) : wpCall Tryd.prog XX 31 [x0, y1] K s := vc_cmp_Compare_api_IP__ok XX_fr rfl h
/-- cmp.isNaN[leafmesh/api.IP] (49) -/
def vc_cmp_isNaN_api_IP_ (X : Told) (x0 : AVal) (K : AVal → Heap → Prop) (s : Heap) : Prop :=
  optK (negB true (eqV 0 false x0 x0)) fun v_0 =>
  K v_0 s
def vc_cmp_isNaN_api_IP__ann : Nat → List Nat := fun _ => []
theorem vc_cmp_isNaN_api_IP__eq (X : Told) (x0 : AVal) (K : AVal → Heap → Prop) (s : Heap) : wpC Tryd.prog X vc_cmp_isNaN_api_IP__ann Tryd.f49.ntmps none (bodyOf Tryd.f49) (envOf [x0]) (fun e env s => retK e (resK Tryd.prog Tryd.f49.results.toList env (fun vs => K (oneV vs) s) s)) s = vc_cmp_isNaN_api_IP_ X x0 K s := by kernel_rfl
theorem vc_cmp_isNaN_api_IP__ok {X : Told} (hX : FrX X) (hn : X 49 = none) {x0 : AVal} {K : AVal → Heap → Prop} {s : Heap} (h : vc_cmp_isNaN_api_IP_ X x0 K s) : wpCall Tryd.prog X 49 [x0] K s :=
  wpCall_code hX vc_cmp_isNaN_api_IP__ann hn Tryd.func49 (by kernel_rfl : Tryd.f49.body = some (bodyOf Tryd.f49)) (by kernel_rfl) ((vc_cmp_isNaN_api_IP__eq X x0 K s).mpr h)
theorem vc_cmp_isNaN_api_IP__in {x0 : AVal} {K : AVal → Heap → Prop} {s : Heap} (h : vc_cmp_isNaN_api_IP_ XX x0 K s) : wpCall Tryd.prog XX 49 [x0] K s := vc_cmp_isNaN_api_IP__ok XX_fr rfl h
/-- slices.CompactFunc[[]leafmesh/api.Candidate,leafmesh/api.Candidate] (32) -/
def vc_slices_CompactFunc___api_Candidate_api_Candidate__j2 (X : Told) (k5 : AVal) (k27 : AVal) (I1 : List AVal → Heap → Nat → Prop) (m1 : Nat) (I0 : List AVal → Heap → Nat → Prop) (m0 : Nat) (K : AVal → Heap → Prop) (s : Heap) : Prop :=
  optK (arithV .add k27 (.int .i64 1)) fun v_25 =>
  ∃ m', m' < m1 ∧ I1 [k5, v_25] s m'
def vc_slices_CompactFunc___api_Candidate_api_Candidate__l1 (X : Told) (t0 : AVal) (eq1 : AVal) (k5 : AVal) (s26 : AVal) (k27 : AVal) (I1 : List AVal → Heap → Nat → Prop) (m1 : Nat) (I0 : List AVal → Heap → Nat → Prop) (m0 : Nat) (K : AVal → Heap → Prop) (s : Heap) : Prop :=
  optK (lenOfA s26) fun v_14 =>
  optK (arithV .lss k27 (.int .i64 v_14)) fun v_16 =>
  boolK v_16
   (optK (iaddrS 2 s26 k27) fun v_17 =>
    optK (rdN s 2 v_17) fun v_18 =>
    optK (arithV .sub k27 (.int .i64 1)) fun v_19 =>
    optK (iaddrS 2 s26 v_19) fun v_20 =>
    optK (rdN s 2 v_20) fun v_21 =>
    funK Tryd.prog X eq1 [(.agg v_18), (.agg v_21)] (fun v_22 s_23 =>
    optK (unaryA .not v_22) fun v_24 =>
    boolK v_24
     (optK (iaddrS 2 s26 k27) fun v_26 =>
      optK (rdN s_23 2 v_26) fun v_27 =>
      optK (iaddrS 2 t0 k5) fun v_28 =>
      optK (wrAgg s_23 2 v_28 (.agg v_27)) fun s_29 =>
      optK (arithV .add k5 (.int .i64 1)) fun v_30 =>
      vc_slices_CompactFunc___api_Candidate_api_Candidate__j2 X v_30 k27 I1 m1 I0 m0 K s_29)
     (vc_slices_CompactFunc___api_Candidate_api_Candidate__j2 X k5 k27 I1 m1 I0 m0 K s_23)) s)
   (optK (sliceS 2 t0 (some k5) none none) fun v_31 =>
    clearK [(.int .u32 0), (.int .i64 0)] 2 v_31 (fun v_32 s_33 =>
    optK (sliceS 2 t0 none (some k5) none) fun v_34 =>
    K v_34 s_33) s)
def vc_slices_CompactFunc___api_Candidate_api_Candidate__l0 (X : Told) (t0 : AVal) (eq1 : AVal) (k5 : AVal) (I0 : List AVal → Heap → Nat → Prop) (m0 : Nat) (K : AVal → Heap → Prop) (s : Heap) : Prop :=
  optK (lenOfA t0) fun v_3 =>
  optK (arithV .lss k5 (.int .i64 v_3)) fun v_5 =>
  boolK v_5
   (optK (iaddrS 2 t0 k5) fun v_6 =>
    optK (rdN s 2 v_6) fun v_7 =>
    optK (arithV .sub k5 (.int .i64 1)) fun v_8 =>
    optK (iaddrS 2 t0 v_8) fun v_9 =>
    optK (rdN s 2 v_9) fun v_10 =>
    funK Tryd.prog X eq1 [(.agg v_7), (.agg v_10)] (fun v_11 s_12 =>
    boolK v_11
     (optK (sliceS 2 t0 (some k5) none none) fun v_13 =>
      ∃ I1 : List AVal → Heap → Nat → Prop, (∃ m, I1 [k5, (.int .i64 1)] s_12 m) ∧ ∀ (f : Env) (s : Heap) (m1 : Nat), I1 [f 5, f 7] s m1 →
        vc_slices_CompactFunc___api_Candidate_api_Candidate__l1 X t0 eq1 (f 5) v_13 (f 7) I1 m1 I0 m0 K s)
     (optK (arithV .add k5 (.int .i64 1)) fun v_35 =>
      ∃ m', m' < m0 ∧ I0 [v_35] s_12 m')) s)
   (K t0 s)
def vc_slices_CompactFunc___api_Candidate_api_Candidate_ (X : Told) (t0 : AVal) (eq1 : AVal) (K : AVal → Heap → Prop) (s : Heap) : Prop :=
  optK (lenOfA t0) fun v_0 =>
  optK (arithV .lss (.int .i64 v_0) (.int .i64 2)) fun v_2 =>
  boolK v_2
   (K t0 s)
   (∃ I0 : List AVal → Heap → Nat → Prop, (∃ m, I0 [(.int .i64 1)] s m) ∧ ∀ (f : Env) (s : Heap) (m0 : Nat), I0 [f 5] s m0 →
      vc_slices_CompactFunc___api_Candidate_api_Candidate__l0 X t0 eq1 (f 5) I0 m0 K s)
def vc_slices_CompactFunc___api_Candidate_api_Candidate__ann : Nat → List Nat := fun k => cond (Nat.beq k 8) [5] (cond (Nat.beq k 18) [5, 7] ([]))
theorem vc_slices_CompactFunc___api_Candidate_api_Candidate__eq (X : Told) (t0 : AVal) (eq1 : AVal) (K : AVal → Heap → Prop) (s : Heap) : wpC Tryd.prog X vc_slices_CompactFunc___api_Candidate_api_Candidate__ann Tryd.f32.ntmps none (bodyOf Tryd.f32) (envOf [t0, eq1]) (fun e env s => retK e (resK Tryd.prog Tryd.f32.results.toList env (fun vs => K (oneV vs) s) s)) s = vc_slices_CompactFunc___api_Candidate_api_Candidate_ X t0 eq1 K s := by kernel_rfl
theorem vc_slices_CompactFunc___api_Candidate_api_Candidate__ok {X : Told} (hX : FrX X) (hn : X 32 = none) {t0 : AVal} {eq1 : AVal} {K : AVal → Heap → Prop} {s : Heap} (h : vc_slices_CompactFunc___api_Candidate_api_Candidate_ X t0 eq1 K s) : wpCall Tryd.prog X 32 [t0, eq1] K s :=
  wpCall_code hX vc_slices_CompactFunc___api_Candidate_api_Candidate__ann hn Tryd.func32 (by kernel_rfl : Tryd.f32.body = some (bodyOf Tryd.f32)) (by kernel_rfl) ((vc_slices_CompactFunc___api_Candidate_api_Candidate__eq X t0 eq1 K s).mpr h)
theorem vc_slices_CompactFunc___api_Candidate_api_Candidate__in {t0 : AVal} {eq1 : AVal} {K : AVal → Heap → Prop} {s : Heap} (h : vc_slices_CompactFunc___api_Candidate_api_Candidate_ XX t0 eq1 K s) : wpCall Tryd.prog XX 32 [t0, eq1] K s := vc_slices_CompactFunc___api_Candidate_api_Candidate__ok XX_fr rfl h
/-- leafmesh/segment.Candidates$2 (33) -/
def vc_segment_Candidates_2 (X : Told) (a0 : AVal) (b1 : AVal) (K : AVal → Heap → Prop) (s : Heap) : Prop :=
  boxK 35 a0 (fun b_0 s_1 =>
  boxK 35 b1 (fun b_2 s_3 =>
  optK (addOff 0 b_0) fun v_4 =>
  optK (rd1 s_3 v_4) fun v_5 =>
  optK (addOff 0 b_2) fun v_6 =>
  optK (rd1 s_3 v_6) fun v_7 =>
  optK (negB false (eqV 0 false v_5 v_7)) fun v_8 =>
  K v_8 s_3) s_1) s
def vc_segment_Candidates_2_ann : Nat → List Nat := fun _ => []
theorem vc_segment_Candidates_2_eq (X : Told) (a0 : AVal) (b1 : AVal) (K : AVal → Heap → Prop) (s : Heap) : wpC Tryd.prog X vc_segment_Candidates_2_ann Tryd.f33.ntmps none (bodyOf Tryd.f33) (envOf [a0, b1]) (fun e env s => retK e (resK Tryd.prog Tryd.f33.results.toList env (fun vs => K (oneV vs) s) s)) s = vc_segment_Candidates_2 X a0 b1 K s := by kernel_rfl
theorem vc_segment_Candidates_2_ok {X : Told} (hX : FrX X) (hn : X 33 = none) {a0 : AVal} {b1 : AVal} {K : AVal → Heap → Prop} {s : Heap} (h : vc_segment_Candidates_2 X a0 b1 K s) : wpCall Tryd.prog X 33 [a0, b1] K s :=
  wpCall_code hX vc_segment_Candidates_2_ann hn Tryd.func33 (by kernel_rfl : Tryd.f33.body = some (bodyOf Tryd.f33)) (by kernel_rfl) ((vc_segment_Candidates_2_eq X a0 b1 K s).mpr h)
theorem vc_segment_Candidates_2_in {a0 : AVal} {b1 : AVal} {K : AVal → Heap → Prop} {s : Heap} (h : vc_segment_Candidates_2 XX a0 b1 K s) : wpCall Tryd.prog XX 33 [a0, b1] K s := vc_segment_Candidates_2_ok XX_fr rfl h
/-- leafmesh/segment.algorithms (34) -/
def vc_segment_algorithms (X : Told) (K : AVal → Heap → Prop) (s : Heap) : Prop :=
  newK 76 [.nilFunc, .nilFunc, .nilFunc] (fun b_0 s_1 =>
  optK (fillR [.nilFunc, .nilFunc, .nilFunc] [(0, 1, (.fn (.func 50) [] [])), (1, 1, (.fn (.func 51) [] [])), (2, 1, (.fn (.func 54) [] []))]) fun c_2 =>
  optK (wrAgg s_1 3 (.ptr b_0 0) (.agg c_2)) fun s_3 =>
  optK (rdN s_3 3 (.ptr b_0 0)) fun t0_4 =>
  K (.agg t0_4) s_3) s
def vc_segment_algorithms_ann : Nat → List Nat := fun _ => []
theorem vc_segment_algorithms_eq (X : Told) (K : AVal → Heap → Prop) (s : Heap) : wpC Tryd.prog X vc_segment_algorithms_ann Tryd.f34.ntmps none (bodyOf Tryd.f34) (envOf []) (fun e env s => retK e (resK Tryd.prog Tryd.f34.results.toList env (fun vs => K (oneV vs) s) s)) s = vc_segment_algorithms X K s := by kernel_rfl
theorem vc_segment_algorithms_ok {X : Told} (hX : FrX X) (hn : X 34 = none) {K : AVal → Heap → Prop} {s : Heap} (h : vc_segment_algorithms X K s) : wpCall Tryd.prog X 34 [] K s :=
  wpCall_code hX vc_segment_algorithms_ann hn Tryd.func34 (by kernel_rfl : Tryd.f34.body = some (bodyOf Tryd.f34)) (by kernel_rfl) ((vc_segment_algorithms_eq X K s).mpr h)
theorem vc_segment_algorithms_in {K : AVal → Heap → Prop} {s : Heap} (h : vc_segment_algorithms XX K s) : wpCall Tryd.prog XX 34 [] K s := vc_segment_algorithms_ok XX_fr rfl h
/-- leafmesh/leafmeshref03.ElectionOf (35) -/
def vc_leafmeshref03_ElectionOf (X : Told) (l0 : AVal) (K : AVal → Heap → Prop) (s : Heap) : Prop :=
  wpCall Tryd.prog X 57 [l0, (.int .i64 7)] (fun v_0 s_1 =>
  optK (extractA v_0 0) fun v_2 =>
  optK (extractA v_0 1) fun v_3 =>
  optK (shiftV .shr v_2 (.int .u64 40)) fun v_4 =>
  optK (arithV .and v_4 (.int .u64 31)) fun v_5 =>
  optK (convI .i64 v_5) fun v_6 =>
  optK (arithV .and v_2 (.int .u64 65535)) fun v_7 =>
  optK (convI .i64 v_7) fun v_8 =>
  K (.tup [v_6, v_8, v_3]) s_1) s
def vc_leafmeshref03_ElectionOf_ann : Nat → List Nat := fun _ => []
theorem vc_leafmeshref03_ElectionOf_eq (X : Told) (l0 : AVal) (K : AVal → Heap → Prop) (s : Heap) : wpC Tryd.prog X vc_leafmeshref03_ElectionOf_ann Tryd.f35.ntmps none (bodyOf Tryd.f35) (envOf [l0]) (fun e env s => retK e (resK Tryd.prog Tryd.f35.results.toList env (fun vs => K (oneV vs) s) s)) s = vc_leafmeshref03_ElectionOf X l0 K s := by kernel_rfl
theorem vc_leafmeshref03_ElectionOf_ok {X : Told} (hX : FrX X) (hn : X 35 = none) {l0 : AVal} {K : AVal → Heap → Prop} {s : Heap} (h : vc_leafmeshref03_ElectionOf X l0 K s) : wpCall Tryd.prog X 35 [l0] K s :=
  wpCall_code hX vc_leafmeshref03_ElectionOf_ann hn Tryd.func35 (by kernel_rfl : Tryd.f35.body = some (bodyOf Tryd.f35)) (by kernel_rfl) ((vc_leafmeshref03_ElectionOf_eq X l0 K s).mpr h)
theorem vc_leafmeshref03_ElectionOf_in {l0 : AVal} {K : AVal → Heap → Prop} {s : Heap} (h : vc_leafmeshref03_ElectionOf XX l0 K s) : wpCall Tryd.prog XX 35 [l0] K s := vc_leafmeshref03_ElectionOf_ok XX_fr rfl h
/-- leafmesh/leafmeshref25.put (36) -/
def vc_leafmeshref25_put_j1 (X : Told) (k5 : AVal) (i6 : AVal) (I0 : List AVal → Heap → Nat → Prop) (m0 : Nat) (K : AVal → Heap → Prop) (s : Heap) : Prop :=
  optK (arithV .add i6 (.int .i64 1)) fun v_17 =>
  ∃ m', m' < m0 ∧ I0 [k5, v_17] s m'
def vc_leafmeshref25_put_l0 (X : Told) (l0 : AVal) (x3 : AVal) (k5 : AVal) (i6 : AVal) (I0 : List AVal → Heap → Nat → Prop) (m0 : Nat) (K : AVal → Heap → Prop) (s : Heap) : Prop :=
  optK (lenOfA l0) fun v_2 =>
  optK (arithV .lss i6 (.int .i64 v_2)) fun v_4 =>
  boolK v_4
   (optK (iaddrS 2 l0 i6) fun v_5 =>
    optK (addOff 0 v_5) fun v_6 =>
    optK (rd1 s v_6) fun v_7 =>
    optK (addOff 0 x3) fun v_8 =>
    optK (rd1 s v_8) fun v_9 =>
    optK (negB false (eqV 0 false v_7 v_9)) fun v_10 =>
    boolK v_10
     (K l0 s)
     (optK (iaddrS 2 l0 i6) fun v_11 =>
      optK (addOff 0 v_11) fun v_12 =>
      optK (rd1 s v_12) fun v_13 =>
      optK (addOff 0 x3) fun v_14 =>
      optK (rd1 s v_14) fun v_15 =>
      optK (arithV .lss v_13 v_15) fun v_16 =>
      boolK v_16
       (optK (arithV .add i6 (.int .i64 1)) fun v_18 =>
        vc_leafmeshref25_put_j1 X v_18 i6 I0 m0 K s)
       (vc_leafmeshref25_put_j1 X k5 i6 I0 m0 K s)))
   (optK (fillR (repl 0 [(.int .u32 0), (.int .i64 0)]) []) fun c_19 => allOne c_19 = true ∧ newK 35 c_19 (fun b_20 s_21 =>
    (∀ b, s b ≠ none → s b = none → s_21 b = none) →
    optK (sliceS 2 l0 none (some k5) none) fun v_22 =>
    appK 35 2 (.slc b_20 0 0 (some 0) 2) v_22 (fun v_23 s_24 =>
    (∀ b, (add s s_21) b ≠ none → (add s s_21) b = none → s_24 b = none) →
    optK (rdN (cutH [(s, (add s s_21)), ((add s s_21), (add (add s s_21) s_24))] (add (add s s_21) s_24)) 2 x3) fun v_25 =>
    optK (fillR (repl 1 [(.int .u32 0), (.int .i64 0)]) [(0, 2, (.agg v_25))]) fun c_26 => allOne c_26 = true ∧ newK 35 c_26 (fun b_27 s_28 =>
    (∀ b, (add (add s s_21) s_24) b ≠ none → (cutH [(s, (add s s_21)), ((add s s_21), (add (add s s_21) s_24))] (add (add s s_21) s_24)) b = none → s_28 b = none) →
    appK 35 2 v_23 (.slc b_27 0 1 (some 1) 2) (fun v_29 s_30 =>
    optK (sliceS 2 l0 (some k5) none none) fun v_31 =>
    appK 35 2 v_29 v_31 (fun v_32 s_33 =>
    K v_32 s_33) s_30) (add (add (add s s_21) s_24) s_28)) (frz (cutH [(s, (add s s_21)), ((add s s_21), (add (add s s_21) s_24))] (add (add s s_21) s_24)))) (frz (add s s_21))) (frz s))
def vc_leafmeshref25_put (X : Told) (l0 : AVal) (x1 : AVal) (K : AVal → Heap → Prop) (s : Heap) : Prop :=
  boxK 35 x1 (fun b_0 s_1 =>
  ∃ I0 : List AVal → Heap → Nat → Prop, (∃ m, I0 [(.int .i64 0), (.int .i64 0)] s_1 m) ∧ ∀ (f : Env) (s : Heap) (m0 : Nat), I0 [f 5, f 6] s m0 →
    vc_leafmeshref25_put_l0 X l0 b_0 (f 5) (f 6) I0 m0 K s) s
def vc_leafmeshref25_put_ann : Nat → List Nat := fun k => cond (Nat.beq k 6) [5, 6] ([])
theorem vc_leafmeshref25_put_eq (X : Told) (l0 : AVal) (x1 : AVal) (K : AVal → Heap → Prop) (s : Heap) : wpC Tryd.prog X vc_leafmeshref25_put_ann Tryd.f36.ntmps none (bodyOf Tryd.f36) (envOf [l0, x1]) (fun e env s => retK e (resK Tryd.prog Tryd.f36.results.toList env (fun vs => K (oneV vs) s) s)) s = vc_leafmeshref25_put X l0 x1 K s := by kernel_rfl
theorem vc_leafmeshref25_put_ok {X : Told} (hX : FrX X) (hn : X 36 = none) {l0 : AVal} {x1 : AVal} {K : AVal → Heap → Prop} {s : Heap} (h : vc_leafmeshref25_put X l0 x1 K s) : wpCall Tryd.prog X 36 [l0, x1] K s :=
  wpCall_code hX vc_leafmeshref25_put_ann hn Tryd.func36 (by kernel_rfl : Tryd.f36.body = some (bodyOf Tryd.f36)) (by kernel_rfl) ((vc_leafmeshref25_put_eq X l0 x1 K s).mpr h)
theorem vc_leafmeshref25_put_in {l0 : AVal} {x1 : AVal} {K : AVal → Heap → Prop} {s : Heap} (h : vc_leafmeshref25_put XX l0 x1 K s) : wpCall Tryd.prog XX 36 [l0, x1] K s := vc_leafmeshref25_put_ok XX_fr rfl h
/-- slices.Compact[[]leafmesh/api.IP,leafmesh/api.IP] (38) -/
def vc_slices_Compact___api_IP_api_IP__j2 (X : Told) (k3 : AVal) (k25 : AVal) (I1 : List AVal → Heap → Nat → Prop) (m1 : Nat) (I0 : List AVal → Heap → Nat → Prop) (m0 : Nat) (K : AVal → Heap → Prop) (s : Heap) : Prop :=
  optK (arithV .add k25 (.int .i64 1)) fun v_22 =>
  ∃ m', m' < m1 ∧ I1 [k3, v_22] s m'
def vc_slices_Compact___api_IP_api_IP__l1 (X : Told) (t0 : AVal) (k3 : AVal) (s24 : AVal) (k25 : AVal) (I1 : List AVal → Heap → Nat → Prop) (m1 : Nat) (I0 : List AVal → Heap → Nat → Prop) (m0 : Nat) (K : AVal → Heap → Prop) (s : Heap) : Prop :=
  optK (lenOfA s24) fun v_13 =>
  optK (arithV .lss k25 (.int .i64 v_13)) fun v_15 =>
  boolK v_15
   (optK (iaddrS 1 s24 k25) fun v_16 =>
    optK (rd1 s v_16) fun v_17 =>
    optK (arithV .sub k25 (.int .i64 1)) fun v_18 =>
    optK (iaddrS 1 s24 v_18) fun v_19 =>
    optK (rd1 s v_19) fun v_20 =>
    optK (negB true (eqV 0 false v_17 v_20)) fun v_21 =>
    boolK v_21
     (optK (iaddrS 1 s24 k25) fun v_23 =>
      optK (rd1 s v_23) fun v_24 =>
      optK (iaddrS 1 t0 k3) fun v_25 =>
      optK (wr1 s v_25 v_24) fun s_26 =>
      optK (arithV .add k3 (.int .i64 1)) fun v_27 =>
      vc_slices_Compact___api_IP_api_IP__j2 X v_27 k25 I1 m1 I0 m0 K s_26)
     (vc_slices_Compact___api_IP_api_IP__j2 X k3 k25 I1 m1 I0 m0 K s))
   (optK (sliceS 1 t0 (some k3) none none) fun v_28 =>
    clearK [(.int .u32 0)] 1 v_28 (fun v_29 s_30 =>
    optK (sliceS 1 t0 none (some k3) none) fun v_31 =>
    K v_31 s_30) s)
def vc_slices_Compact___api_IP_api_IP__l0 (X : Told) (t0 : AVal) (k3 : AVal) (I0 : List AVal → Heap → Nat → Prop) (m0 : Nat) (K : AVal → Heap → Prop) (s : Heap) : Prop :=
  optK (lenOfA t0) fun v_3 =>
  optK (arithV .lss k3 (.int .i64 v_3)) fun v_5 =>
  boolK v_5
   (optK (iaddrS 1 t0 k3) fun v_6 =>
    optK (rd1 s v_6) fun v_7 =>
    optK (arithV .sub k3 (.int .i64 1)) fun v_8 =>
    optK (iaddrS 1 t0 v_8) fun v_9 =>
    optK (rd1 s v_9) fun v_10 =>
    optK (negB false (eqV 0 false v_7 v_10)) fun v_11 =>
    boolK v_11
     (optK (sliceS 1 t0 (some k3) none none) fun v_12 =>
      ∃ I1 : List AVal → Heap → Nat → Prop, (∃ m, I1 [k3, (.int .i64 1)] s m) ∧ ∀ (f : Env) (s : Heap) (m1 : Nat), I1 [f 3, f 5] s m1 →
        vc_slices_Compact___api_IP_api_IP__l1 X t0 (f 3) v_12 (f 5) I1 m1 I0 m0 K s)
     (optK (arithV .add k3 (.int .i64 1)) fun v_32 =>
      ∃ m', m' < m0 ∧ I0 [v_32] s m'))
   (K t0 s)
def vc_slices_Compact___api_IP_api_IP_ (X : Told) (t0 : AVal) (K : AVal → Heap → Prop) (s : Heap) : Prop :=
  optK (lenOfA t0) fun v_0 =>
  optK (arithV .lss (.int .i64 v_0) (.int .i64 2)) fun v_2 =>
  boolK v_2
   (K t0 s)
   (∃ I0 : List AVal → Heap → Nat → Prop, (∃ m, I0 [(.int .i64 1)] s m) ∧ ∀ (f : Env) (s : Heap) (m0 : Nat), I0 [f 3] s m0 →
      vc_slices_Compact___api_IP_api_IP__l0 X t0 (f 3) I0 m0 K s)
def vc_slices_Compact___api_IP_api_IP__ann : Nat → List Nat := fun k => cond (Nat.beq k 8) [3] (cond (Nat.beq k 18) [3, 5] ([]))
theorem vc_slices_Compact___api_IP_api_IP__eq (X : Told) (t0 : AVal) (K : AVal → Heap → Prop) (s : Heap) : wpC Tryd.prog X vc_slices_Compact___api_IP_api_IP__ann Tryd.f38.ntmps none (bodyOf Tryd.f38) (envOf [t0]) (fun e env s => retK e (resK Tryd.prog Tryd.f38.results.toList env (fun vs => K (oneV vs) s) s)) s = vc_slices_Compact___api_IP_api_IP_ X t0 K s := by kernel_rfl
theorem vc_slices_Compact___api_IP_api_IP__ok {X : Told} (hX : FrX X) (hn : X 38 = none) {t0 : AVal} {K : AVal → Heap → Prop} {s : Heap} (h : vc_slices_Compact___api_IP_api_IP_ X t0 K s) : wpCall Tryd.prog X 38 [t0] K s :=
  wpCall_code hX vc_slices_Compact___api_IP_api_IP__ann hn Tryd.func38 (by kernel_rfl : Tryd.f38.body = some (bodyOf Tryd.f38)) (by kernel_rfl) ((vc_slices_Compact___api_IP_api_IP__eq X t0 K s).mpr h)
theorem vc_slices_Compact___api_IP_api_IP__in {t0 : AVal} {K : AVal → Heap → Prop} {s : Heap} (h : vc_slices_Compact___api_IP_api_IP_ XX t0 K s) : wpCall Tryd.prog XX 38 [t0] K s := vc_slices_Compact___api_IP_api_IP__ok XX_fr rfl h
/-- leafmesh/leafmeshkit.SameRoute (39) -/
def vc_leafmeshkit_SameRoute_j2 (X : Told) (t24 : AVal) (t29 : AVal) (K : AVal → Heap → Prop) (s : Heap) : Prop :=
  optK (pickV t24 t29 (.bool false)) fun v_11 =>
  K v_11 s
def vc_leafmeshkit_SameRoute_j1 (X : Told) (a2 : AVal) (b3 : AVal) (t17 : AVal) (t22 : AVal) (K : AVal → Heap → Prop) (s : Heap) : Prop :=
  optK (pickV t17 t22 (.bool false)) fun v_10 =>
  boolK v_10
   (optK (addOff 37 a2) fun v_12 =>
    optK (rd1 s v_12) fun v_13 =>
    optK (addOff 37 b3) fun v_14 =>
    optK (rd1 s v_14) fun v_15 =>
    optK (negB false (eqV 1 false v_13 v_15)) fun v_16 =>
    vc_leafmeshkit_SameRoute_j2 X v_10 v_16 K s)
   (vc_leafmeshkit_SameRoute_j2 X v_10 .undef K s)
def vc_leafmeshkit_SameRoute_j0 (X : Told) (a2 : AVal) (b3 : AVal) (t10 : AVal) (t15 : AVal) (K : AVal → Heap → Prop) (s : Heap) : Prop :=
  optK (pickV t10 t15 (.bool false)) fun v_9 =>
  boolK v_9
   (optK (addOff 36 a2) fun v_17 =>
    optK (rd1 s v_17) fun v_18 =>
    optK (addOff 36 b3) fun v_19 =>
    optK (rd1 s v_19) fun v_20 =>
    optK (negB false (eqV 0 false v_18 v_20)) fun v_21 =>
    vc_leafmeshkit_SameRoute_j1 X a2 b3 v_9 v_21 K s)
   (vc_leafmeshkit_SameRoute_j1 X a2 b3 v_9 .undef K s)
def vc_leafmeshkit_SameRoute (X : Told) (a0 : AVal) (b1 : AVal) (K : AVal → Heap → Prop) (s : Heap) : Prop :=
  boxK 59 a0 (fun b_0 s_1 =>
  boxK 59 b1 (fun b_2 s_3 =>
  optK (addOff 0 b_0) fun v_4 =>
  optK (rdN s_3 21 v_4) fun v_5 =>
  optK (addOff 0 b_2) fun v_6 =>
  optK (rdN s_3 21 v_6) fun v_7 =>
  optK (negB false (eqAgg Tryd.prog 57 (.agg v_5) (.agg v_7))) fun v_8 =>
  boolK v_8
   (optK (addOff 21 b_0) fun v_22 =>
    optK (rdN s_3 15 v_22) fun v_23 =>
    optK (addOff 21 b_2) fun v_24 =>
    optK (rdN s_3 15 v_24) fun v_25 =>
    wpCall Tryd.prog X 60 [(.agg v_23), (.agg v_25)] (fun v_26 s_27 =>
    vc_leafmeshkit_SameRoute_j0 X b_0 b_2 v_8 v_26 K s_27) s_3)
   (vc_leafmeshkit_SameRoute_j0 X b_0 b_2 v_8 .undef K s_3)) s_1) s
def vc_leafmeshkit_SameRoute_ann : Nat → List Nat := fun _ => []
theorem vc_leafmeshkit_SameRoute_eq (X : Told) (a0 : AVal) (b1 : AVal) (K : AVal → Heap → Prop) (s : Heap) : wpC Tryd.prog X vc_leafmeshkit_SameRoute_ann Tryd.f39.ntmps none (bodyOf Tryd.f39) (envOf [a0, b1]) (fun e env s => retK e (resK Tryd.prog Tryd.f39.results.toList env (fun vs => K (oneV vs) s) s)) s = vc_leafmeshkit_SameRoute X a0 b1 K s := by kernel_rfl
theorem vc_leafmeshkit_SameRoute_ok {X : Told} (hX : FrX X) (hn : X 39 = none) {a0 : AVal} {b1 : AVal} {K : AVal → Heap → Prop} {s : Heap} (h : vc_leafmeshkit_SameRoute X a0 b1 K s) : wpCall Tryd.prog X 39 [a0, b1] K s :=
  wpCall_code hX vc_leafmeshkit_SameRoute_ann hn Tryd.func39 (by kernel_rfl : Tryd.f39.body = some (bodyOf Tryd.f39)) (by kernel_rfl) ((vc_leafmeshkit_SameRoute_eq X a0 b1 K s).mpr h)
theorem vc_leafmeshkit_SameRoute_in {a0 : AVal} {b1 : AVal} {K : AVal → Heap → Prop} {s : Heap} (h : vc_leafmeshkit_SameRoute XX a0 b1 K s) : wpCall Tryd.prog XX 39 [a0, b1] K s := vc_leafmeshkit_SameRoute_ok XX_fr rfl h
/-- leafmesh/leafmeshkit.OwnAttrs (44) -/
def vc_leafmeshkit_OwnAttrs (X : Told) (a0 : AVal) (K : AVal → Heap → Prop) (s : Heap) : Prop :=
  boxK 52 a0 (fun b_0 s_1 =>
  newK 52 [(.int .i64 0), .nilslc, (.int .u32 0), (.bool false), (.int .u32 0), (.bool false), (.int .u32 0), (.bool false), (.int .u32 0), .nilslc, .nilslc, (.int .i64 0), (.int .u32 0), (.int .u32 0), (.int .u32 0)] (fun b_2 s_3 =>
  optK (addOff 1 b_0) fun v_4 =>
  optK (rd1 s_3 v_4) fun v_5 =>
  wpCall Tryd.prog X 62 [v_5] (fun v_6 s_7 =>
  (∀ b, s_3 b ≠ none → s_3 b = none → s_7 b = none) →
  optK (addOff 9 b_0) fun v_8 =>
  optK (rd1 (cutH [(s_3, (add s_3 s_7))] (add s_3 s_7)) v_8) fun v_9 =>
  wpCall Tryd.prog X 63 [v_9] (fun v_10 s_11 =>
  (∀ b, (add s_3 s_7) b ≠ none → (add s_3 s_7) b = none → s_11 b = none) →
  optK (addOff 10 b_0) fun v_12 =>
  optK (rd1 (cutH [(s_3, (add s_3 s_7)), ((add s_3 s_7), (add (add s_3 s_7) s_11))] (add (add s_3 s_7) s_11)) v_12) fun v_13 =>
  wpCall Tryd.prog X 64 [v_13] (fun v_14 s_15 =>
  optK (addOff 1 b_0) fun v_16 =>
  optK (wr1 s_15 v_16 v_6) fun s_17 =>
  optK (addOff 9 b_0) fun v_18 =>
  optK (wr1 s_17 v_18 v_10) fun s_19 =>
  optK (addOff 10 b_0) fun v_20 =>
  optK (wr1 s_19 v_20 v_14) fun s_21 =>
  optK (rdN s_21 15 b_0) fun v_22 =>
  optK (wrAgg s_21 15 (.ptr b_2 0) (.agg v_22)) fun s_23 =>
  optK (rdN s_23 15 (.ptr b_2 0)) fun t2_24 =>
  K (.agg t2_24) s_23) (add (add s_3 s_7) s_11)) (frz (add s_3 s_7))) (frz s_3)) s_1) s
def vc_leafmeshkit_OwnAttrs_ann : Nat → List Nat := fun _ => []
theorem vc_leafmeshkit_OwnAttrs_eq (X : Told) (a0 : AVal) (K : AVal → Heap → Prop) (s : Heap) : wpC Tryd.prog X vc_leafmeshkit_OwnAttrs_ann Tryd.f44.ntmps none (bodyOf Tryd.f44) (envOf [a0]) (fun e env s => retK e (resK Tryd.prog Tryd.f44.results.toList env (fun vs => K (oneV vs) s) s)) s = vc_leafmeshkit_OwnAttrs X a0 K s := by kernel_rfl
theorem vc_leafmeshkit_OwnAttrs_ok {X : Told} (hX : FrX X) (hn : X 44 = none) {a0 : AVal} {K : AVal → Heap → Prop} {s : Heap} (h : vc_leafmeshkit_OwnAttrs X a0 K s) : wpCall Tryd.prog X 44 [a0] K s :=
  wpCall_code hX vc_leafmeshkit_OwnAttrs_ann hn Tryd.func44 (by kernel_rfl : Tryd.f44.body = some (bodyOf Tryd.f44)) (by kernel_rfl) ((vc_leafmeshkit_OwnAttrs_eq X a0 K s).mpr h)
theorem vc_leafmeshkit_OwnAttrs_in {a0 : AVal} {K : AVal → Heap → Prop} {s : Heap} (h : vc_leafmeshkit_OwnAttrs XX a0 K s) : wpCall Tryd.prog XX 44 [a0] K s := vc_leafmeshkit_OwnAttrs_ok XX_fr rfl h
/-- leafmesh/comm.first[int] (45) -/
def vc_comm_first_int__l0 (X : Told) (kind1 : AVal) (decode2 : AVal) (t11 : AVal) (t12 : AVal) (t13 : AVal) (I0 : List AVal → Heap → Nat → Prop) (m0 : Nat) (K : AVal → Heap → Prop) (s : Heap) : Prop :=
  optK (arithV .lss t13 t12) fun v_2 =>
  boolK v_2
   (optK (iaddrS 8 t11 t13) fun v_3 =>
    optK (rdN s 8 v_3) fun v_4 =>
    newK 96 [(.int .u8 0), (.int .u8 0), (.int .u8 0), (.int .u8 0), (.int .u8 0), (.int .u8 0), (.int .u8 0), (.int .u8 0)] (fun b_5 s_6 =>
    optK (wrAgg s_6 8 (.ptr b_5 0) (.agg v_4)) fun s_7 =>
    optK (rdN s_7 8 (.ptr b_5 0)) fun v_8 =>
    wpCall Tryd.prog X 65 [(.agg v_8)] (fun v_9 s_10 =>
    optK (negB false (eqV 0 false v_9 kind1)) fun v_11 =>
    boolK v_11
     (optK (rdN s_10 8 (.ptr b_5 0)) fun v_12 =>
      funK Tryd.prog X decode2 [(.agg v_12)] (fun v_13 s_14 =>
      K (.tup [v_13, (.bool true)]) s_14) s_10)
     (optK (arithV .add t13 (.int .i64 1)) fun v_15 =>
      ∃ m', m' < m0 ∧ I0 [v_15] s_10 m')) s_7) s)
   (K (.tup [(.int .i64 0), (.bool false)]) s)
def vc_comm_first_int_ (X : Told) (l0 : AVal) (kind1 : AVal) (decode2 : AVal) (K : AVal → Heap → Prop) (s : Heap) : Prop :=
  optK (lenOfA l0) fun v_0 =>
  ∃ I0 : List AVal → Heap → Nat → Prop, (∃ m, I0 [(.int .i64 0)] s m) ∧ ∀ (f : Env) (s : Heap) (m0 : Nat), I0 [f 13] s m0 →
    vc_comm_first_int__l0 X kind1 decode2 l0 (.int .i64 v_0) (f 13) I0 m0 K s
def vc_comm_first_int__ann : Nat → List Nat := fun k => cond (Nat.beq k 4) [13] ([])
theorem vc_comm_first_int__eq (X : Told) (l0 : AVal) (kind1 : AVal) (decode2 : AVal) (K : AVal → Heap → Prop) (s : Heap) : wpC Tryd.prog X vc_comm_first_int__ann Tryd.f45.ntmps none (bodyOf Tryd.f45) (envOf [l0, kind1, decode2]) (fun e env s => retK e (resK Tryd.prog Tryd.f45.results.toList env (fun vs => K (oneV vs) s) s)) s = vc_comm_first_int_ X l0 kind1 decode2 K s := by kernel_rfl
theorem vc_comm_first_int__ok {X : Told} (hX : FrX X) (hn : X 45 = none) {l0 : AVal} {kind1 : AVal} {decode2 : AVal} {K : AVal → Heap → Prop} {s : Heap} (h : vc_comm_first_int_ X l0 kind1 decode2 K s) : wpCall Tryd.prog X 45 [l0, kind1, decode2] K s :=
  wpCall_code hX vc_comm_first_int__ann hn Tryd.func45 (by kernel_rfl : Tryd.f45.body = some (bodyOf Tryd.f45)) (by kernel_rfl) ((vc_comm_first_int__eq X l0 kind1 decode2 K s).mpr h)
theorem vc_comm_first_int__in {l0 : AVal} {kind1 : AVal} {decode2 : AVal} {K : AVal → Heap → Prop} {s : Heap} (h : vc_comm_first_int_ XX l0 kind1 decode2 K s) : wpCall Tryd.prog XX 45 [l0, kind1, decode2] K s := vc_comm_first_int__ok XX_fr rfl h
/-- leafmesh/comm.ElectionOf$1 (46) -/
def vc_comm_ElectionOf_1 (X : Told) (c0 : AVal) (t1 : AVal) (K : AVal → Heap → Prop) (s : Heap) : Prop :=
  boxK 96 c0 (fun b_0 s_1 =>
  optK (rdN s_1 8 b_0) fun v_2 =>
  wpCall Tryd.prog X 47 [(.agg v_2), (.int .i64 6), (.int .i64 2)] (fun v_3 s_4 =>
  optK (convI .i64 v_3) fun v_5 =>
  optK (wr1 s_4 t1 v_5) fun s_6 =>
  optK (iaddrA 8 1 b_0 (.int .i64 2)) fun v_7 =>
  optK (rd1 s_6 v_7) fun v_8 =>
  optK (arithV .and v_8 (.int .u8 31)) fun v_9 =>
  optK (convI .i64 v_9) fun v_10 =>
  K v_10 s_6) s_1) s
def vc_comm_ElectionOf_1_ann : Nat → List Nat := fun _ => []
theorem vc_comm_ElectionOf_1_eq (X : Told) (c0 : AVal) (t1 : AVal) (K : AVal → Heap → Prop) (s : Heap) : wpC Tryd.prog X vc_comm_ElectionOf_1_ann Tryd.f46.ntmps none (bodyOf Tryd.f46) (envOf [c0, t1]) (fun e env s => retK e (resK Tryd.prog Tryd.f46.results.toList env (fun vs => K (oneV vs) s) s)) s = vc_comm_ElectionOf_1 X c0 t1 K s := by kernel_rfl
theorem vc_comm_ElectionOf_1_ok {X : Told} (hX : FrX X) (hn : X 46 = none) {c0 : AVal} {t1 : AVal} {K : AVal → Heap → Prop} {s : Heap} (h : vc_comm_ElectionOf_1 X c0 t1 K s) : wpCall Tryd.prog X 46 [c0, t1] K s :=
  wpCall_code hX vc_comm_ElectionOf_1_ann hn Tryd.func46 (by kernel_rfl : Tryd.f46.body = some (bodyOf Tryd.f46)) (by kernel_rfl) ((vc_comm_ElectionOf_1_eq X c0 t1 K s).mpr h)
theorem vc_comm_ElectionOf_1_in {c0 : AVal} {t1 : AVal} {K : AVal → Heap → Prop} {s : Heap} (h : vc_comm_ElectionOf_1 XX c0 t1 K s) : wpCall Tryd.prog XX 46 [c0, t1] K s := vc_comm_ElectionOf_1_ok XX_fr rfl h
/-- leafmesh/comm.number (47) -/
def vc_comm_number_l0 (X : Told) (n7 : AVal) (t14 : AVal) (t15 : AVal) (t16 : AVal) (I0 : List AVal → Heap → Nat → Prop) (m0 : Nat) (K : AVal → Heap → Prop) (s : Heap) : Prop :=
  optK (arithV .lss t16 t15) fun v_6 =>
  boolK v_6
   (optK (iaddrS 1 t14 t16) fun v_7 =>
    optK (rd1 s v_7) fun v_8 =>
    optK (shiftV .shl n7 (.int .u64 8)) fun v_9 =>
    optK (convI .u64 v_8) fun v_10 =>
    optK (arithV .or v_9 v_10) fun v_11 =>
    optK (arithV .add t16 (.int .i64 1)) fun v_12 =>
    ∃ m', m' < m0 ∧ I0 [v_11, v_12] s m')
   (K n7 s)
def vc_comm_number (X : Told) (c0 : AVal) (t1 : AVal) (size2 : AVal) (K : AVal → Heap → Prop) (s : Heap) : Prop :=
  boxK 96 c0 (fun b_0 s_1 =>
  optK (arithV .add t1 size2) fun v_2 =>
  optK (sliceP s_1 8 1 b_0 (some t1) (some v_2) none) fun v_3 =>
  optK (lenOfA v_3) fun v_4 =>
  ∃ I0 : List AVal → Heap → Nat → Prop, (∃ m, I0 [(.int .u64 0), (.int .i64 0)] s_1 m) ∧ ∀ (f : Env) (s : Heap) (m0 : Nat), I0 [f 7, f 16] s m0 →
    vc_comm_number_l0 X (f 7) v_3 (.int .i64 v_4) (f 16) I0 m0 K s) s
def vc_comm_number_ann : Nat → List Nat := fun k => cond (Nat.beq k 6) [7, 16] ([])
theorem vc_comm_number_eq (X : Told) (c0 : AVal) (t1 : AVal) (size2 : AVal) (K : AVal → Heap → Prop) (s : Heap) : wpC Tryd.prog X vc_comm_number_ann Tryd.f47.ntmps none (bodyOf Tryd.f47) (envOf [c0, t1, size2]) (fun e env s => retK e (resK Tryd.prog Tryd.f47.results.toList env (fun vs => K (oneV vs) s) s)) s = vc_comm_number X c0 t1 size2 K s := by kernel_rfl
theorem vc_comm_number_ok {X : Told} (hX : FrX X) (hn : X 47 = none) {c0 : AVal} {t1 : AVal} {size2 : AVal} {K : AVal → Heap → Prop} {s : Heap} (h : vc_comm_number X c0 t1 size2 K s) : wpCall Tryd.prog X 47 [c0, t1, size2] K s :=
  wpCall_code hX vc_comm_number_ann hn Tryd.func47 (by kernel_rfl : Tryd.f47.body = some (bodyOf Tryd.f47)) (by kernel_rfl) ((vc_comm_number_eq X c0 t1 size2 K s).mpr h)
theorem vc_comm_number_in {c0 : AVal} {t1 : AVal} {size2 : AVal} {K : AVal → Heap → Prop} {s : Heap} (h : vc_comm_number XX c0 t1 size2 K s) : wpCall Tryd.prog XX 47 [c0, t1, size2] K s := vc_comm_number_ok XX_fr rfl h
/-- slices.stableCmpFunc[leafmesh/api.Candidate] (48) -/
def vc_slices_stableCmpFunc_api_Candidate__j3 (X : Told) (blockSize6 : AVal) (I1 : List AVal → Heap → Nat → Prop) (m1 : Nat) (K : AVal → Heap → Prop) (s : Heap) : Prop :=
  optK (arithV .mul blockSize6 (.int .i64 2)) fun v_16 =>
  ∃ m', m' < m1 ∧ I1 [v_16] s m'
def vc_slices_stableCmpFunc_api_Candidate__l2 (X : Told) (data0 : AVal) (n1 : AVal) (cmp2 : AVal) (blockSize6 : AVal) (a7 : AVal) (b8 : AVal) (I2 : List AVal → Heap → Nat → Prop) (m2 : Nat) (I1 : List AVal → Heap → Nat → Prop) (m1 : Nat) (K : AVal → Heap → Prop) (s : Heap) : Prop :=
  optK (arithV .leq b8 n1) fun v_8 =>
  boolK v_8
   (optK (arithV .add a7 blockSize6) fun v_9 =>
    wpCall Tryd.prog X 67 [data0, a7, v_9, b8, cmp2] (fun v_10 s_11 =>
    optK (arithV .mul (.int .i64 2) blockSize6) fun v_12 =>
    optK (arithV .add b8 v_12) fun v_13 =>
    ∃ m', m' < m2 ∧ I2 [b8, v_13] s_11 m') s)
   (optK (arithV .add a7 blockSize6) fun v_14 =>
    optK (arithV .lss v_14 n1) fun v_15 =>
    boolK v_15
     (wpCall Tryd.prog X 67 [data0, a7, v_14, n1, cmp2] (fun v_17 s_18 =>
      vc_slices_stableCmpFunc_api_Candidate__j3 X blockSize6 I1 m1 K s_18) s)
     (vc_slices_stableCmpFunc_api_Candidate__j3 X blockSize6 I1 m1 K s))
def vc_slices_stableCmpFunc_api_Candidate__l1 (X : Told) (data0 : AVal) (n1 : AVal) (cmp2 : AVal) (blockSize6 : AVal) (I1 : List AVal → Heap → Nat → Prop) (m1 : Nat) (K : AVal → Heap → Prop) (s : Heap) : Prop :=
  optK (arithV .lss blockSize6 n1) fun v_6 =>
  boolK v_6
   (optK (arithV .mul (.int .i64 2) blockSize6) fun v_7 =>
    ∃ I2 : List AVal → Heap → Nat → Prop, (∃ m, I2 [(.int .i64 0), v_7] s m) ∧ ∀ (f : Env) (s : Heap) (m2 : Nat), I2 [f 7, f 8] s m2 →
      vc_slices_stableCmpFunc_api_Candidate__l2 X data0 n1 cmp2 blockSize6 (f 7) (f 8) I2 m2 I1 m1 K s)
   (K (.tup []) s)
def vc_slices_stableCmpFunc_api_Candidate__l0 (X : Told) (data0 : AVal) (n1 : AVal) (cmp2 : AVal) (blockSize6 : AVal) (a7 : AVal) (b8 : AVal) (I0 : List AVal → Heap → Nat → Prop) (m0 : Nat) (K : AVal → Heap → Prop) (s : Heap) : Prop :=
  optK (arithV .leq b8 n1) fun v_0 =>
  boolK v_0
   (wpCall Tryd.prog X 66 [data0, a7, b8, cmp2] (fun v_1 s_2 =>
    optK (arithV .add b8 blockSize6) fun v_3 =>
    ∃ m', m' < m0 ∧ I0 [b8, v_3] s_2 m') s)
   (wpCall Tryd.prog X 66 [data0, a7, n1, cmp2] (fun v_4 s_5 =>
    ∃ I1 : List AVal → Heap → Nat → Prop, (∃ m, I1 [blockSize6] s_5 m) ∧ ∀ (f : Env) (s : Heap) (m1 : Nat), I1 [f 6] s m1 →
      vc_slices_stableCmpFunc_api_Candidate__l1 X data0 n1 cmp2 (f 6) I1 m1 K s) s)
def vc_slices_stableCmpFunc_api_Candidate_ (X : Told) (data0 : AVal) (n1 : AVal) (cmp2 : AVal) (K : AVal → Heap → Prop) (s : Heap) : Prop :=
  ∃ I0 : List AVal → Heap → Nat → Prop, (∃ m, I0 [(.int .i64 0), (.int .i64 20)] s m) ∧ ∀ (f : Env) (s : Heap) (m0 : Nat), I0 [f 7, f 8] s m0 →
    vc_slices_stableCmpFunc_api_Candidate__l0 X data0 n1 cmp2 (.int .i64 20) (f 7) (f 8) I0 m0 K s
def vc_slices_stableCmpFunc_api_Candidate__ann : Nat → List Nat := fun k => cond (Nat.beq k 4) [7, 8] (cond (Nat.beq k 14) [6] (cond (Nat.beq k 18) [7, 8] ([])))
theorem vc_slices_stableCmpFunc_api_Candidate__eq (X : Told) (data0 : AVal) (n1 : AVal) (cmp2 : AVal) (K : AVal → Heap → Prop) (s : Heap) : wpC Tryd.prog X vc_slices_stableCmpFunc_api_Candidate__ann Tryd.f48.ntmps none (bodyOf Tryd.f48) (envOf [data0, n1, cmp2]) (fun e env s => retK e (resK Tryd.prog Tryd.f48.results.toList env (fun vs => K (oneV vs) s) s)) s = vc_slices_stableCmpFunc_api_Candidate_ X data0 n1 cmp2 K s := by kernel_rfl
theorem vc_slices_stableCmpFunc_api_Candidate__ok {X : Told} (hX : FrX X) (hn : X 48 = none) {data0 : AVal} {n1 : AVal} {cmp2 : AVal} {K : AVal → Heap → Prop} {s : Heap} (h : vc_slices_stableCmpFunc_api_Candidate_ X data0 n1 cmp2 K s) : wpCall Tryd.prog X 48 [data0, n1, cmp2] K s :=
  wpCall_code hX vc_slices_stableCmpFunc_api_Candidate__ann hn Tryd.func48 (by kernel_rfl : Tryd.f48.body = some (bodyOf Tryd.f48)) (by kernel_rfl) ((vc_slices_stableCmpFunc_api_Candidate__eq X data0 n1 cmp2 K s).mpr h)
theorem vc_slices_stableCmpFunc_api_Candidate__in {data0 : AVal} {n1 : AVal} {cmp2 : AVal} {K : AVal → Heap → Prop} {s : Heap} (h : vc_slices_stableCmpFunc_api_Candidate_ XX data0 n1 cmp2 K s) : wpCall Tryd.prog XX 48 [data0, n1, cmp2] K s := vc_slices_stableCmpFunc_api_Candidate__ok XX_fr rfl h
/-- leafmesh/leafmeshref03.first (57) -/
def vc_leafmeshref03_first_l0 (X : Told) (l0 : AVal) (kind1 : AVal) (i6 : AVal) (I0 : List AVal → Heap → Nat → Prop) (m0 : Nat) (K : AVal → Heap → Prop) (s : Heap) : Prop :=
  optK (lenOfA l0) fun v_0 =>
  optK (arithV .lss i6 (.int .i64 v_0)) fun v_2 =>
  boolK v_2
   (optK (iaddrS 8 l0 i6) fun v_3 =>
    optK (rdN s 8 v_3) fun v_4 =>
    wpCall Tryd.prog X 68 [(.agg v_4)] (fun v_5 s_6 =>
    optK (negB false (eqV 0 false v_5 kind1)) fun v_7 =>
    boolK v_7
     (optK (iaddrS 8 l0 i6) fun v_8 =>
      optK (rdN s_6 8 v_8) fun v_9 =>
      wpCall Tryd.prog X 69 [(.agg v_9)] (fun v_10 s_11 =>
      K (.tup [v_10, (.bool true)]) s_11) s_6)
     (optK (arithV .add i6 (.int .i64 1)) fun v_12 =>
      ∃ m', m' < m0 ∧ I0 [v_12] s_6 m')) s)
   (K (.tup [(.int .u64 0), (.bool false)]) s)
def vc_leafmeshref03_first (X : Told) (l0 : AVal) (kind1 : AVal) (K : AVal → Heap → Prop) (s : Heap) : Prop :=
  ∃ I0 : List AVal → Heap → Nat → Prop, (∃ m, I0 [(.int .i64 0)] s m) ∧ ∀ (f : Env) (s : Heap) (m0 : Nat), I0 [f 6] s m0 →
    vc_leafmeshref03_first_l0 X l0 kind1 (f 6) I0 m0 K s
def vc_leafmeshref03_first_ann : Nat → List Nat := fun k => cond (Nat.beq k 4) [6] ([])
theorem vc_leafmeshref03_first_eq (X : Told) (l0 : AVal) (kind1 : AVal) (K : AVal → Heap → Prop) (s : Heap) : wpC Tryd.prog X vc_leafmeshref03_first_ann Tryd.f57.ntmps none (bodyOf Tryd.f57) (envOf [l0, kind1]) (fun e env s => retK e (resK Tryd.prog Tryd.f57.results.toList env (fun vs => K (oneV vs) s) s)) s = vc_leafmeshref03_first X l0 kind1 K s := by kernel_rfl
theorem vc_leafmeshref03_first_ok {X : Told} (hX : FrX X) (hn : X 57 = none) {l0 : AVal} {kind1 : AVal} {K : AVal → Heap → Prop} {s : Heap} (h : vc_leafmeshref03_first X l0 kind1 K s) : wpCall Tryd.prog X 57 [l0, kind1] K s :=
  wpCall_code hX vc_leafmeshref03_first_ann hn Tryd.func57 (by kernel_rfl : Tryd.f57.body = some (bodyOf Tryd.f57)) (by kernel_rfl) ((vc_leafmeshref03_first_eq X l0 kind1 K s).mpr h)
theorem vc_leafmeshref03_first_in {l0 : AVal} {kind1 : AVal} {K : AVal → Heap → Prop} {s : Heap} (h : vc_leafmeshref03_first XX l0 kind1 K s) : wpCall Tryd.prog XX 57 [l0, kind1] K s := vc_leafmeshref03_first_ok XX_fr rfl h
/-- leafmesh/leafmeshkit.SameAttrs (60) -/
def vc_leafmeshkit_SameAttrs_j10 (X : Told) (t80 : AVal) (t85 : AVal) (K : AVal → Heap → Prop) (s : Heap) : Prop :=
  optK (pickV t80 t85 (.bool false)) fun v_19 =>
  K v_19 s
def vc_leafmeshkit_SameAttrs_j9 (X : Told) (a2 : AVal) (b3 : AVal) (t73 : AVal) (t78 : AVal) (K : AVal → Heap → Prop) (s : Heap) : Prop :=
  optK (pickV t73 t78 (.bool false)) fun v_18 =>
  boolK v_18
   (optK (addOff 11 a2) fun v_20 =>
    optK (rdN s 4 v_20) fun v_21 =>
    optK (addOff 11 b3) fun v_22 =>
    optK (rdN s 4 v_22) fun v_23 =>
    optK (negB false (eqAgg Tryd.prog 50 (.agg v_21) (.agg v_23))) fun v_24 =>
    vc_leafmeshkit_SameAttrs_j10 X v_18 v_24 K s)
   (vc_leafmeshkit_SameAttrs_j10 X v_18 .undef K s)
def vc_leafmeshkit_SameAttrs_j8 (X : Told) (a2 : AVal) (b3 : AVal) (t66 : AVal) (t71 : AVal) (K : AVal → Heap → Prop) (s : Heap) : Prop :=
  optK (pickV t66 t71 (.bool false)) fun v_17 =>
  boolK v_17
   (optK (addOff 10 a2) fun v_25 =>
    optK (rd1 s v_25) fun v_26 =>
    optK (addOff 10 b3) fun v_27 =>
    optK (rd1 s v_27) fun v_28 =>
    wpCall Tryd.prog X 82 [v_26, v_28] (fun v_29 s_30 =>
    vc_leafmeshkit_SameAttrs_j9 X a2 b3 v_17 v_29 K s_30) s)
   (vc_leafmeshkit_SameAttrs_j9 X a2 b3 v_17 .undef K s)
def vc_leafmeshkit_SameAttrs_j7 (X : Told) (a2 : AVal) (b3 : AVal) (t59 : AVal) (t64 : AVal) (K : AVal → Heap → Prop) (s : Heap) : Prop :=
  optK (pickV t59 t64 (.bool false)) fun v_16 =>
  boolK v_16
   (optK (addOff 9 a2) fun v_31 =>
    optK (rd1 s v_31) fun v_32 =>
    optK (addOff 9 b3) fun v_33 =>
    optK (rd1 s v_33) fun v_34 =>
    wpCall Tryd.prog X 11 [v_32, v_34] (fun v_35 s_36 =>
    vc_leafmeshkit_SameAttrs_j8 X a2 b3 v_16 v_35 K s_36) s)
   (vc_leafmeshkit_SameAttrs_j8 X a2 b3 v_16 .undef K s)
def vc_leafmeshkit_SameAttrs_j6 (X : Told) (a2 : AVal) (b3 : AVal) (t52 : AVal) (t57 : AVal) (K : AVal → Heap → Prop) (s : Heap) : Prop :=
  optK (pickV t52 t57 (.bool false)) fun v_15 =>
  boolK v_15
   (optK (addOff 8 a2) fun v_37 =>
    optK (rd1 s v_37) fun v_38 =>
    optK (addOff 8 b3) fun v_39 =>
    optK (rd1 s v_39) fun v_40 =>
    optK (negB false (eqV 0 false v_38 v_40)) fun v_41 =>
    vc_leafmeshkit_SameAttrs_j7 X a2 b3 v_15 v_41 K s)
   (vc_leafmeshkit_SameAttrs_j7 X a2 b3 v_15 .undef K s)
def vc_leafmeshkit_SameAttrs_j5 (X : Told) (a2 : AVal) (b3 : AVal) (t45 : AVal) (t50 : AVal) (K : AVal → Heap → Prop) (s : Heap) : Prop :=
  optK (pickV t45 t50 (.bool false)) fun v_14 =>
  boolK v_14
   (optK (addOff 7 a2) fun v_42 =>
    optK (rd1 s v_42) fun v_43 =>
    optK (addOff 7 b3) fun v_44 =>
    optK (rd1 s v_44) fun v_45 =>
    optK (negB false (eqV 1 false v_43 v_45)) fun v_46 =>
    vc_leafmeshkit_SameAttrs_j6 X a2 b3 v_14 v_46 K s)
   (vc_leafmeshkit_SameAttrs_j6 X a2 b3 v_14 .undef K s)
def vc_leafmeshkit_SameAttrs_j4 (X : Told) (a2 : AVal) (b3 : AVal) (t38 : AVal) (t43 : AVal) (K : AVal → Heap → Prop) (s : Heap) : Prop :=
  optK (pickV t38 t43 (.bool false)) fun v_13 =>
  boolK v_13
   (optK (addOff 6 a2) fun v_47 =>
    optK (rd1 s v_47) fun v_48 =>
    optK (addOff 6 b3) fun v_49 =>
    optK (rd1 s v_49) fun v_50 =>
    optK (negB false (eqV 0 false v_48 v_50)) fun v_51 =>
    vc_leafmeshkit_SameAttrs_j5 X a2 b3 v_13 v_51 K s)
   (vc_leafmeshkit_SameAttrs_j5 X a2 b3 v_13 .undef K s)
def vc_leafmeshkit_SameAttrs_j3 (X : Told) (a2 : AVal) (b3 : AVal) (t31 : AVal) (t36 : AVal) (K : AVal → Heap → Prop) (s : Heap) : Prop :=
  optK (pickV t31 t36 (.bool false)) fun v_12 =>
  boolK v_12
   (optK (addOff 5 a2) fun v_52 =>
    optK (rd1 s v_52) fun v_53 =>
    optK (addOff 5 b3) fun v_54 =>
    optK (rd1 s v_54) fun v_55 =>
    optK (negB false (eqV 1 false v_53 v_55)) fun v_56 =>
    vc_leafmeshkit_SameAttrs_j4 X a2 b3 v_12 v_56 K s)
   (vc_leafmeshkit_SameAttrs_j4 X a2 b3 v_12 .undef K s)
def vc_leafmeshkit_SameAttrs_j2 (X : Told) (a2 : AVal) (b3 : AVal) (t24 : AVal) (t29 : AVal) (K : AVal → Heap → Prop) (s : Heap) : Prop :=
  optK (pickV t24 t29 (.bool false)) fun v_11 =>
  boolK v_11
   (optK (addOff 4 a2) fun v_57 =>
    optK (rd1 s v_57) fun v_58 =>
    optK (addOff 4 b3) fun v_59 =>
    optK (rd1 s v_59) fun v_60 =>
    optK (negB false (eqV 0 false v_58 v_60)) fun v_61 =>
    vc_leafmeshkit_SameAttrs_j3 X a2 b3 v_11 v_61 K s)
   (vc_leafmeshkit_SameAttrs_j3 X a2 b3 v_11 .undef K s)
def vc_leafmeshkit_SameAttrs_j1 (X : Told) (a2 : AVal) (b3 : AVal) (t17 : AVal) (t22 : AVal) (K : AVal → Heap → Prop) (s : Heap) : Prop :=
  optK (pickV t17 t22 (.bool false)) fun v_10 =>
  boolK v_10
   (optK (addOff 3 a2) fun v_62 =>
    optK (rd1 s v_62) fun v_63 =>
    optK (addOff 3 b3) fun v_64 =>
    optK (rd1 s v_64) fun v_65 =>
    optK (negB false (eqV 1 false v_63 v_65)) fun v_66 =>
    vc_leafmeshkit_SameAttrs_j2 X a2 b3 v_10 v_66 K s)
   (vc_leafmeshkit_SameAttrs_j2 X a2 b3 v_10 .undef K s)
def vc_leafmeshkit_SameAttrs_j0 (X : Told) (a2 : AVal) (b3 : AVal) (t10 : AVal) (t15 : AVal) (K : AVal → Heap → Prop) (s : Heap) : Prop :=
  optK (pickV t10 t15 (.bool false)) fun v_9 =>
  boolK v_9
   (optK (addOff 2 a2) fun v_67 =>
    optK (rd1 s v_67) fun v_68 =>
    optK (addOff 2 b3) fun v_69 =>
    optK (rd1 s v_69) fun v_70 =>
    optK (negB false (eqV 0 false v_68 v_70)) fun v_71 =>
    vc_leafmeshkit_SameAttrs_j1 X a2 b3 v_9 v_71 K s)
   (vc_leafmeshkit_SameAttrs_j1 X a2 b3 v_9 .undef K s)
def vc_leafmeshkit_SameAttrs (X : Told) (a0 : AVal) (b1 : AVal) (K : AVal → Heap → Prop) (s : Heap) : Prop :=
  boxK 52 a0 (fun b_0 s_1 =>
  boxK 52 b1 (fun b_2 s_3 =>
  optK (addOff 0 b_0) fun v_4 =>
  optK (rd1 s_3 v_4) fun v_5 =>
  optK (addOff 0 b_2) fun v_6 =>
  optK (rd1 s_3 v_6) fun v_7 =>
  optK (negB false (eqV 0 false v_5 v_7)) fun v_8 =>
  boolK v_8
   (optK (addOff 1 b_0) fun v_72 =>
    optK (rd1 s_3 v_72) fun v_73 =>
    optK (addOff 1 b_2) fun v_74 =>
    optK (rd1 s_3 v_74) fun v_75 =>
    wpCall Tryd.prog X 81 [v_73, v_75] (fun v_76 s_77 =>
    vc_leafmeshkit_SameAttrs_j0 X b_0 b_2 v_8 v_76 K s_77) s_3)
   (vc_leafmeshkit_SameAttrs_j0 X b_0 b_2 v_8 .undef K s_3)) s_1) s
def vc_leafmeshkit_SameAttrs_ann : Nat → List Nat := fun _ => []
theorem vc_leafmeshkit_SameAttrs_eq (X : Told) (a0 : AVal) (b1 : AVal) (K : AVal → Heap → Prop) (s : Heap) : wpC Tryd.prog X vc_leafmeshkit_SameAttrs_ann Tryd.f60.ntmps none (bodyOf Tryd.f60) (envOf [a0, b1]) (fun e env s => retK e (resK Tryd.prog Tryd.f60.results.toList env (fun vs => K (oneV vs) s) s)) s = vc_leafmeshkit_SameAttrs X a0 b1 K s := by kernel_rfl
theorem vc_leafmeshkit_SameAttrs_ok {X : Told} (hX : FrX X) (hn : X 60 = none) {a0 : AVal} {b1 : AVal} {K : AVal → Heap → Prop} {s : Heap} (h : vc_leafmeshkit_SameAttrs X a0 b1 K s) : wpCall Tryd.prog X 60 [a0, b1] K s :=
  wpCall_code hX vc_leafmeshkit_SameAttrs_ann hn Tryd.func60 (by kernel_rfl : Tryd.f60.body = some (bodyOf Tryd.f60)) (by kernel_rfl) ((vc_leafmeshkit_SameAttrs_eq X a0 b1 K s).mpr h)
theorem vc_leafmeshkit_SameAttrs_in {a0 : AVal} {b1 : AVal} {K : AVal → Heap → Prop} {s : Heap} (h : vc_leafmeshkit_SameAttrs XX a0 b1 K s) : wpCall Tryd.prog XX 60 [a0, b1] K s := vc_leafmeshkit_SameAttrs_ok XX_fr rfl h
/-- leafmesh/leafmeshkit.Own[uint32] (62) -/
def vc_leafmeshkit_Own_uint32_ (X : Told) (l0 : AVal) (K : AVal → Heap → Prop) (s : Heap) : Prop :=
  optK (fillR (repl 0 [(.int .u32 0)]) []) fun c_0 => allOne c_0 = true ∧ newK 32 c_0 (fun b_1 s_2 =>
  appK 32 1 (.slc b_1 0 0 (some 0) 1) l0 (fun v_3 s_4 =>
  K v_3 s_4) s_2) s
def vc_leafmeshkit_Own_uint32__ann : Nat → List Nat := fun _ => []
theorem vc_leafmeshkit_Own_uint32__eq (X : Told) (l0 : AVal) (K : AVal → Heap → Prop) (s : Heap) : wpC Tryd.prog X vc_leafmeshkit_Own_uint32__ann Tryd.f62.ntmps none (bodyOf Tryd.f62) (envOf [l0]) (fun e env s => retK e (resK Tryd.prog Tryd.f62.results.toList env (fun vs => K (oneV vs) s) s)) s = vc_leafmeshkit_Own_uint32_ X l0 K s := by kernel_rfl
theorem vc_leafmeshkit_Own_uint32__ok {X : Told} (hX : FrX X) (hn : X 62 = none) {l0 : AVal} {K : AVal → Heap → Prop} {s : Heap} (h : vc_leafmeshkit_Own_uint32_ X l0 K s) : wpCall Tryd.prog X 62 [l0] K s :=
  wpCall_code hX vc_leafmeshkit_Own_uint32__ann hn Tryd.func62 (by kernel_rfl : Tryd.f62.body = some (bodyOf Tryd.f62)) (by kernel_rfl) ((vc_leafmeshkit_Own_uint32__eq X l0 K s).mpr h)
theorem vc_leafmeshkit_Own_uint32__in {l0 : AVal} {K : AVal → Heap → Prop} {s : Heap} (h : vc_leafmeshkit_Own_uint32_ XX l0 K s) : wpCall Tryd.prog XX 62 [l0] K s := vc_leafmeshkit_Own_uint32__ok XX_fr rfl h
/-- leafmesh/leafmeshkit.Own[leafmesh/api.IP] (63) -/
def vc_leafmeshkit_Own_api_IP_ (X : Told) (l0 : AVal) (K : AVal → Heap → Prop) (s : Heap) : Prop :=
  optK (fillR (repl 0 [(.int .u32 0)]) []) fun c_0 => allOne c_0 = true ∧ newK 33 c_0 (fun b_1 s_2 =>
  appK 33 1 (.slc b_1 0 0 (some 0) 1) l0 (fun v_3 s_4 =>
  K v_3 s_4) s_2) s
def vc_leafmeshkit_Own_api_IP__ann : Nat → List Nat := fun _ => []
theorem vc_leafmeshkit_Own_api_IP__eq (X : Told) (l0 : AVal) (K : AVal → Heap → Prop) (s : Heap) : wpC Tryd.prog X vc_leafmeshkit_Own_api_IP__ann Tryd.f63.ntmps none (bodyOf Tryd.f63) (envOf [l0]) (fun e env s => retK e (resK Tryd.prog Tryd.f63.results.toList env (fun vs => K (oneV vs) s) s)) s = vc_leafmeshkit_Own_api_IP_ X l0 K s := by kernel_rfl
theorem vc_leafmeshkit_Own_api_IP__ok {X : Told} (hX : FrX X) (hn : X 63 = none) {l0 : AVal} {K : AVal → Heap → Prop} {s : Heap} (h : vc_leafmeshkit_Own_api_IP_ X l0 K s) : wpCall Tryd.prog X 63 [l0] K s :=
  wpCall_code hX vc_leafmeshkit_Own_api_IP__ann hn Tryd.func63 (by kernel_rfl : Tryd.f63.body = some (bodyOf Tryd.f63)) (by kernel_rfl) ((vc_leafmeshkit_Own_api_IP__eq X l0 K s).mpr h)
theorem vc_leafmeshkit_Own_api_IP__in {l0 : AVal} {K : AVal → Heap → Prop} {s : Heap} (h : vc_leafmeshkit_Own_api_IP_ XX l0 K s) : wpCall Tryd.prog XX 63 [l0] K s := vc_leafmeshkit_Own_api_IP__ok XX_fr rfl h
/-- leafmesh/leafmeshkit.Own[leafmesh/api.Comm] (64) -/
def vc_leafmeshkit_Own_api_Comm_ (X : Told) (l0 : AVal) (K : AVal → Heap → Prop) (s : Heap) : Prop :=
  optK (fillR (repl 0 [(.int .u8 0), (.int .u8 0), (.int .u8 0), (.int .u8 0), (.int .u8 0), (.int .u8 0), (.int .u8 0), (.int .u8 0)]) []) fun c_0 => allOne c_0 = true ∧ newK 96 c_0 (fun b_1 s_2 =>
  appK 96 8 (.slc b_1 0 0 (some 0) 8) l0 (fun v_3 s_4 =>
  K v_3 s_4) s_2) s
def vc_leafmeshkit_Own_api_Comm__ann : Nat → List Nat := fun _ => []
theorem vc_leafmeshkit_Own_api_Comm__eq (X : Told) (l0 : AVal) (K : AVal → Heap → Prop) (s : Heap) : wpC Tryd.prog X vc_leafmeshkit_Own_api_Comm__ann Tryd.f64.ntmps none (bodyOf Tryd.f64) (envOf [l0]) (fun e env s => retK e (resK Tryd.prog Tryd.f64.results.toList env (fun vs => K (oneV vs) s) s)) s = vc_leafmeshkit_Own_api_Comm_ X l0 K s := by kernel_rfl
theorem vc_leafmeshkit_Own_api_Comm__ok {X : Told} (hX : FrX X) (hn : X 64 = none) {l0 : AVal} {K : AVal → Heap → Prop} {s : Heap} (h : vc_leafmeshkit_Own_api_Comm_ X l0 K s) : wpCall Tryd.prog X 64 [l0] K s :=
  wpCall_code hX vc_leafmeshkit_Own_api_Comm__ann hn Tryd.func64 (by kernel_rfl : Tryd.f64.body = some (bodyOf Tryd.f64)) (by kernel_rfl) ((vc_leafmeshkit_Own_api_Comm__eq X l0 K s).mpr h)
theorem vc_leafmeshkit_Own_api_Comm__in {l0 : AVal} {K : AVal → Heap → Prop} {s : Heap} (h : vc_leafmeshkit_Own_api_Comm_ XX l0 K s) : wpCall Tryd.prog XX 64 [l0] K s := vc_leafmeshkit_Own_api_Comm__ok XX_fr rfl h
/-- slices.insertionSortCmpFunc[leafmesh/api.Candidate] (66) -/
def vc_slices_insertionSortCmpFunc_api_Candidate__j2 (X : Told) (data0 : AVal) (i8 : AVal) (j9 : AVal) (t21 : AVal) (t33 : AVal) (I1 : List AVal → Heap → Nat → Prop) (m1 : Nat) (I0 : List AVal → Heap → Nat → Prop) (m0 : Nat) (K : AVal → Heap → Prop) (s : Heap) : Prop :=
  optK (pickV t21 t33 (.bool false)) fun v_3 =>
  boolK v_3
   (optK (arithV .sub j9 (.int .i64 1)) fun v_4 =>
    optK (arithV .sub j9 (.int .i64 1)) fun v_5 =>
    optK (iaddrS 2 data0 v_5) fun v_6 =>
    optK (rdN s 2 v_6) fun v_7 =>
    optK (iaddrS 2 data0 j9) fun v_8 =>
    optK (rdN s 2 v_8) fun v_9 =>
    optK (iaddrS 2 data0 j9) fun v_10 =>
    optK (wrAgg s 2 v_10 (.agg v_7)) fun s_11 =>
    optK (iaddrS 2 data0 v_4) fun v_12 =>
    optK (wrAgg s_11 2 v_12 (.agg v_9)) fun s_13 =>
    optK (arithV .sub j9 (.int .i64 1)) fun v_14 =>
    ∃ m', m' < m1 ∧ I1 [v_14] s_13 m')
   (optK (arithV .add i8 (.int .i64 1)) fun v_15 =>
    ∃ m', m' < m0 ∧ I0 [v_15] s m')
def vc_slices_insertionSortCmpFunc_api_Candidate__l1 (X : Told) (data0 : AVal) (a1 : AVal) (cmp3 : AVal) (i8 : AVal) (j9 : AVal) (I1 : List AVal → Heap → Nat → Prop) (m1 : Nat) (I0 : List AVal → Heap → Nat → Prop) (m0 : Nat) (K : AVal → Heap → Prop) (s : Heap) : Prop :=
  optK (arithV .gtr j9 a1) fun v_2 =>
  boolK v_2
   (optK (iaddrS 2 data0 j9) fun v_16 =>
    optK (rdN s 2 v_16) fun v_17 =>
    optK (arithV .sub j9 (.int .i64 1)) fun v_18 =>
    optK (iaddrS 2 data0 v_18) fun v_19 =>
    optK (rdN s 2 v_19) fun v_20 =>
    funK Tryd.prog X cmp3 [(.agg v_17), (.agg v_20)] (fun v_21 s_22 =>
    optK (arithV .lss v_21 (.int .i64 0)) fun v_23 =>
    vc_slices_insertionSortCmpFunc_api_Candidate__j2 X data0 i8 j9 v_2 v_23 I1 m1 I0 m0 K s_22) s)
   (vc_slices_insertionSortCmpFunc_api_Candidate__j2 X data0 i8 j9 v_2 .undef I1 m1 I0 m0 K s)
def vc_slices_insertionSortCmpFunc_api_Candidate__l0 (X : Told) (data0 : AVal) (a1 : AVal) (b2 : AVal) (cmp3 : AVal) (i8 : AVal) (I0 : List AVal → Heap → Nat → Prop) (m0 : Nat) (K : AVal → Heap → Prop) (s : Heap) : Prop :=
  optK (arithV .lss i8 b2) fun v_1 =>
  boolK v_1
   (∃ I1 : List AVal → Heap → Nat → Prop, (∃ m, I1 [i8] s m) ∧ ∀ (f : Env) (s : Heap) (m1 : Nat), I1 [f 9] s m1 →
      vc_slices_insertionSortCmpFunc_api_Candidate__l1 X data0 a1 cmp3 i8 (f 9) I1 m1 I0 m0 K s)
   (K (.tup []) s)
def vc_slices_insertionSortCmpFunc_api_Candidate_ (X : Told) (data0 : AVal) (a1 : AVal) (b2 : AVal) (cmp3 : AVal) (K : AVal → Heap → Prop) (s : Heap) : Prop :=
  optK (arithV .add a1 (.int .i64 1)) fun v_0 =>
  ∃ I0 : List AVal → Heap → Nat → Prop, (∃ m, I0 [v_0] s m) ∧ ∀ (f : Env) (s : Heap) (m0 : Nat), I0 [f 8] s m0 →
    vc_slices_insertionSortCmpFunc_api_Candidate__l0 X data0 a1 b2 cmp3 (f 8) I0 m0 K s
def vc_slices_insertionSortCmpFunc_api_Candidate__ann : Nat → List Nat := fun k => cond (Nat.beq k 2) [8] (cond (Nat.beq k 8) [9] ([]))
theorem vc_slices_insertionSortCmpFunc_api_Candidate__eq (X : Told) (data0 : AVal) (a1 : AVal) (b2 : AVal) (cmp3 : AVal) (K : AVal → Heap → Prop) (s : Heap) : wpC Tryd.prog X vc_slices_insertionSortCmpFunc_api_Candidate__ann Tryd.f66.ntmps none (bodyOf Tryd.f66) (envOf [data0, a1, b2, cmp3]) (fun e env s => retK e (resK Tryd.prog Tryd.f66.results.toList env (fun vs => K (oneV vs) s) s)) s = vc_slices_insertionSortCmpFunc_api_Candidate_ X data0 a1 b2 cmp3 K s := by kernel_rfl
theorem vc_slices_insertionSortCmpFunc_api_Candidate__ok {X : Told} (hX : FrX X) (hn : X 66 = none) {data0 : AVal} {a1 : AVal} {b2 : AVal} {cmp3 : AVal} {K : AVal → Heap → Prop} {s : Heap} (h : vc_slices_insertionSortCmpFunc_api_Candidate_ X data0 a1 b2 cmp3 K s) : wpCall Tryd.prog X 66 [data0, a1, b2, cmp3] K s :=
  wpCall_code hX vc_slices_insertionSortCmpFunc_api_Candidate__ann hn Tryd.func66 (by kernel_rfl : Tryd.f66.body = some (bodyOf Tryd.f66)) (by kernel_rfl) ((vc_slices_insertionSortCmpFunc_api_Candidate__eq X data0 a1 b2 cmp3 K s).mpr h)
theorem vc_slices_insertionSortCmpFunc_api_Candidate__in {data0 : AVal} {a1 : AVal} {b2 : AVal} {cmp3 : AVal} {K : AVal → Heap → Prop} {s : Heap} (h : vc_slices_insertionSortCmpFunc_api_Candidate_ XX data0 a1 b2 cmp3 K s) : wpCall Tryd.prog XX 66 [data0, a1, b2, cmp3] K s := vc_slices_insertionSortCmpFunc_api_Candidate__ok XX_fr rfl h
/-- slices.symMergeCmpFunc[leafmesh/api.Candidate] (67) -/
def vc_slices_symMergeCmpFunc_api_Candidate__l1 (X : Told) (data0 : AVal) (i10 : AVal) (k13 : AVal) (I1 : List AVal → Heap → Nat → Prop) (m1 : Nat) (K : AVal → Heap → Prop) (s : Heap) : Prop :=
  optK (arithV .sub i10 (.int .i64 1)) fun v_15 =>
  optK (arithV .lss k13 v_15) fun v_16 =>
  boolK v_16
   (optK (arithV .add k13 (.int .i64 1)) fun v_17 =>
    optK (arithV .add k13 (.int .i64 1)) fun v_18 =>
    optK (iaddrS 2 data0 v_18) fun v_19 =>
    optK (rdN s 2 v_19) fun v_20 =>
    optK (iaddrS 2 data0 k13) fun v_21 =>
    optK (rdN s 2 v_21) fun v_22 =>
    optK (iaddrS 2 data0 k13) fun v_23 =>
    optK (wrAgg s 2 v_23 (.agg v_20)) fun s_24 =>
    optK (iaddrS 2 data0 v_17) fun v_25 =>
    optK (wrAgg s_24 2 v_25 (.agg v_22)) fun s_26 =>
    optK (arithV .add k13 (.int .i64 1)) fun v_27 =>
    ∃ m', m' < m1 ∧ I1 [v_27] s_26 m')
   (K (.tup []) s)
def vc_slices_symMergeCmpFunc_api_Candidate__l0 (X : Told) (data0 : AVal) (a1 : AVal) (cmp4 : AVal) (i10 : AVal) (j11 : AVal) (I0 : List AVal → Heap → Nat → Prop) (m0 : Nat) (K : AVal → Heap → Prop) (s : Heap) : Prop :=
  optK (arithV .lss i10 j11) fun v_2 =>
  boolK v_2
   (optK (arithV .add i10 j11) fun v_3 =>
    optK (convI .u64 v_3) fun v_4 =>
    optK (shiftV .shr v_4 (.int .u64 1)) fun v_5 =>
    optK (convI .i64 v_5) fun v_6 =>
    optK (iaddrS 2 data0 v_6) fun v_7 =>
    optK (rdN s 2 v_7) fun v_8 =>
    optK (iaddrS 2 data0 a1) fun v_9 =>
    optK (rdN s 2 v_9) fun v_10 =>
    funK Tryd.prog X cmp4 [(.agg v_8), (.agg v_10)] (fun v_11 s_12 =>
    optK (arithV .lss v_11 (.int .i64 0)) fun v_13 =>
    boolK v_13
     (optK (arithV .add v_6 (.int .i64 1)) fun v_14 =>
      ∃ m', m' < m0 ∧ I0 [v_14, j11] s_12 m')
     (∃ m', m' < m0 ∧ I0 [i10, v_6] s_12 m')) s)
   (∃ I1 : List AVal → Heap → Nat → Prop, (∃ m, I1 [a1] s m) ∧ ∀ (f : Env) (s : Heap) (m1 : Nat), I1 [f 13] s m1 →
      vc_slices_symMergeCmpFunc_api_Candidate__l1 X data0 i10 (f 13) I1 m1 K s)
def vc_slices_symMergeCmpFunc_api_Candidate__l3 (X : Told) (data0 : AVal) (i14 : AVal) (k17 : AVal) (I3 : List AVal → Heap → Nat → Prop) (m3 : Nat) (K : AVal → Heap → Prop) (s : Heap) : Prop :=
  optK (arithV .gtr k17 i14) fun v_44 =>
  boolK v_44
   (optK (arithV .sub k17 (.int .i64 1)) fun v_45 =>
    optK (arithV .sub k17 (.int .i64 1)) fun v_46 =>
    optK (iaddrS 2 data0 v_46) fun v_47 =>
    optK (rdN s 2 v_47) fun v_48 =>
    optK (iaddrS 2 data0 k17) fun v_49 =>
    optK (rdN s 2 v_49) fun v_50 =>
    optK (iaddrS 2 data0 k17) fun v_51 =>
    optK (wrAgg s 2 v_51 (.agg v_48)) fun s_52 =>
    optK (iaddrS 2 data0 v_45) fun v_53 =>
    optK (wrAgg s_52 2 v_53 (.agg v_50)) fun s_54 =>
    optK (arithV .sub k17 (.int .i64 1)) fun v_55 =>
    ∃ m', m' < m3 ∧ I3 [v_55] s_54 m')
   (K (.tup []) s)
def vc_slices_symMergeCmpFunc_api_Candidate__l2 (X : Told) (data0 : AVal) (t2 : AVal) (cmp4 : AVal) (i14 : AVal) (j15 : AVal) (I2 : List AVal → Heap → Nat → Prop) (m2 : Nat) (K : AVal → Heap → Prop) (s : Heap) : Prop :=
  optK (arithV .lss i14 j15) fun v_30 =>
  boolK v_30
   (optK (arithV .add i14 j15) fun v_31 =>
    optK (convI .u64 v_31) fun v_32 =>
    optK (shiftV .shr v_32 (.int .u64 1)) fun v_33 =>
    optK (convI .i64 v_33) fun v_34 =>
    optK (iaddrS 2 data0 t2) fun v_35 =>
    optK (rdN s 2 v_35) fun v_36 =>
    optK (iaddrS 2 data0 v_34) fun v_37 =>
    optK (rdN s 2 v_37) fun v_38 =>
    funK Tryd.prog X cmp4 [(.agg v_36), (.agg v_38)] (fun v_39 s_40 =>
    optK (arithV .lss v_39 (.int .i64 0)) fun v_41 =>
    optK (unaryA .not v_41) fun v_42 =>
    boolK v_42
     (optK (arithV .add v_34 (.int .i64 1)) fun v_43 =>
      ∃ m', m' < m2 ∧ I2 [v_43, j15] s_40 m')
     (∃ m', m' < m2 ∧ I2 [i14, v_34] s_40 m')) s)
   (∃ I3 : List AVal → Heap → Nat → Prop, (∃ m, I3 [t2] s m) ∧ ∀ (f : Env) (s : Heap) (m3 : Nat), I3 [f 17] s m3 →
      vc_slices_symMergeCmpFunc_api_Candidate__l3 X data0 i14 (f 17) I3 m3 K s)
def vc_slices_symMergeCmpFunc_api_Candidate__j10 (X : Told) (data0 : AVal) (b3 : AVal) (cmp4 : AVal) (mid18 : AVal) (t24 : AVal) (t209 : AVal) (t212 : AVal) (K : AVal → Heap → Prop) (s : Heap) : Prop :=
  optK (pickV t209 t212 (.bool false)) fun v_84 =>
  boolK v_84
   (wpCall Tryd.prog X 67 [data0, mid18, t24, b3, cmp4] (fun v_85 s_86 =>
    K (.tup []) s_86) s)
   (K (.tup []) s)
def vc_slices_symMergeCmpFunc_api_Candidate__j9 (X : Told) (data0 : AVal) (b3 : AVal) (cmp4 : AVal) (mid18 : AVal) (t24 : AVal) (K : AVal → Heap → Prop) (s : Heap) : Prop :=
  optK (arithV .lss mid18 t24) fun v_83 =>
  boolK v_83
   (optK (arithV .lss t24 b3) fun v_87 =>
    vc_slices_symMergeCmpFunc_api_Candidate__j10 X data0 b3 cmp4 mid18 t24 v_83 v_87 K s)
   (vc_slices_symMergeCmpFunc_api_Candidate__j10 X data0 b3 cmp4 mid18 t24 v_83 .undef K s)
def vc_slices_symMergeCmpFunc_api_Candidate__j8 (X : Told) (data0 : AVal) (a1 : AVal) (b3 : AVal) (cmp4 : AVal) (mid18 : AVal) (start20 : AVal) (t24 : AVal) (t195 : AVal) (t198 : AVal) (K : AVal → Heap → Prop) (s : Heap) : Prop :=
  optK (pickV t195 t198 (.bool false)) fun v_82 =>
  boolK v_82
   (wpCall Tryd.prog X 67 [data0, a1, start20, mid18, cmp4] (fun v_88 s_89 =>
    vc_slices_symMergeCmpFunc_api_Candidate__j9 X data0 b3 cmp4 mid18 t24 K s_89) s)
   (vc_slices_symMergeCmpFunc_api_Candidate__j9 X data0 b3 cmp4 mid18 t24 K s)
def vc_slices_symMergeCmpFunc_api_Candidate__j7 (X : Told) (data0 : AVal) (a1 : AVal) (b3 : AVal) (cmp4 : AVal) (mid18 : AVal) (start20 : AVal) (t24 : AVal) (K : AVal → Heap → Prop) (s : Heap) : Prop :=
  optK (arithV .lss a1 start20) fun v_81 =>
  boolK v_81
   (optK (arithV .lss start20 mid18) fun v_90 =>
    vc_slices_symMergeCmpFunc_api_Candidate__j8 X data0 a1 b3 cmp4 mid18 start20 t24 v_81 v_90 K s)
   (vc_slices_symMergeCmpFunc_api_Candidate__j8 X data0 a1 b3 cmp4 mid18 start20 t24 v_81 .undef K s)
def vc_slices_symMergeCmpFunc_api_Candidate__j6 (X : Told) (data0 : AVal) (a1 : AVal) (t2 : AVal) (b3 : AVal) (cmp4 : AVal) (mid18 : AVal) (start20 : AVal) (t24 : AVal) (t181 : AVal) (t184 : AVal) (K : AVal → Heap → Prop) (s : Heap) : Prop :=
  optK (pickV t181 t184 (.bool false)) fun v_80 =>
  boolK v_80
   (wpCall Tryd.prog X 84 [data0, start20, t2, t24, cmp4] (fun v_91 s_92 =>
    vc_slices_symMergeCmpFunc_api_Candidate__j7 X data0 a1 b3 cmp4 mid18 start20 t24 K s_92) s)
   (vc_slices_symMergeCmpFunc_api_Candidate__j7 X data0 a1 b3 cmp4 mid18 start20 t24 K s)
def vc_slices_symMergeCmpFunc_api_Candidate__l5 (X : Told) (data0 : AVal) (a1 : AVal) (t2 : AVal) (b3 : AVal) (cmp4 : AVal) (mid18 : AVal) (n19 : AVal) (start20 : AVal) (r21 : AVal) (p22 : AVal) (I5 : List AVal → Heap → Nat → Prop) (m5 : Nat) (K : AVal → Heap → Prop) (s : Heap) : Prop :=
  optK (arithV .lss start20 r21) fun v_63 =>
  boolK v_63
   (optK (arithV .add start20 r21) fun v_64 =>
    optK (convI .u64 v_64) fun v_65 =>
    optK (shiftV .shr v_65 (.int .u64 1)) fun v_66 =>
    optK (convI .i64 v_66) fun v_67 =>
    optK (arithV .sub p22 v_67) fun v_68 =>
    optK (iaddrS 2 data0 v_68) fun v_69 =>
    optK (rdN s 2 v_69) fun v_70 =>
    optK (iaddrS 2 data0 v_67) fun v_71 =>
    optK (rdN s 2 v_71) fun v_72 =>
    funK Tryd.prog X cmp4 [(.agg v_70), (.agg v_72)] (fun v_73 s_74 =>
    optK (arithV .lss v_73 (.int .i64 0)) fun v_75 =>
    optK (unaryA .not v_75) fun v_76 =>
    boolK v_76
     (optK (arithV .add v_67 (.int .i64 1)) fun v_77 =>
      ∃ m', m' < m5 ∧ I5 [v_77, r21] s_74 m')
     (∃ m', m' < m5 ∧ I5 [start20, v_67] s_74 m')) s)
   (optK (arithV .sub n19 start20) fun v_78 =>
    optK (arithV .lss start20 t2) fun v_79 =>
    boolK v_79
     (optK (arithV .lss t2 v_78) fun v_93 =>
      vc_slices_symMergeCmpFunc_api_Candidate__j6 X data0 a1 t2 b3 cmp4 mid18 start20 v_78 v_79 v_93 K s)
     (vc_slices_symMergeCmpFunc_api_Candidate__j6 X data0 a1 t2 b3 cmp4 mid18 start20 v_78 v_79 .undef K s))
def vc_slices_symMergeCmpFunc_api_Candidate__j4 (X : Told) (data0 : AVal) (a1 : AVal) (t2 : AVal) (b3 : AVal) (cmp4 : AVal) (mid18 : AVal) (n19 : AVal) (start20 : AVal) (r21 : AVal) (K : AVal → Heap → Prop) (s : Heap) : Prop :=
  optK (arithV .sub n19 (.int .i64 1)) fun v_62 =>
  ∃ I5 : List AVal → Heap → Nat → Prop, (∃ m, I5 [start20, r21] s m) ∧ ∀ (f : Env) (s : Heap) (m5 : Nat), I5 [f 20, f 21] s m5 →
    vc_slices_symMergeCmpFunc_api_Candidate__l5 X data0 a1 t2 b3 cmp4 mid18 n19 (f 20) (f 21) v_62 I5 m5 K s
def vc_slices_symMergeCmpFunc_api_Candidate_ (X : Told) (data0 : AVal) (a1 : AVal) (t2 : AVal) (b3 : AVal) (cmp4 : AVal) (K : AVal → Heap → Prop) (s : Heap) : Prop :=
  optK (arithV .sub t2 a1) fun v_0 =>
  optK (negB false (eqV 0 true v_0 (.int .i64 1))) fun v_1 =>
  boolK v_1
   (∃ I0 : List AVal → Heap → Nat → Prop, (∃ m, I0 [t2, b3] s m) ∧ ∀ (f : Env) (s : Heap) (m0 : Nat), I0 [f 10, f 11] s m0 →
      vc_slices_symMergeCmpFunc_api_Candidate__l0 X data0 a1 cmp4 (f 10) (f 11) I0 m0 K s)
   (optK (arithV .sub b3 t2) fun v_28 =>
    optK (negB false (eqV 0 true v_28 (.int .i64 1))) fun v_29 =>
    boolK v_29
     (∃ I2 : List AVal → Heap → Nat → Prop, (∃ m, I2 [a1, t2] s m) ∧ ∀ (f : Env) (s : Heap) (m2 : Nat), I2 [f 14, f 15] s m2 →
        vc_slices_symMergeCmpFunc_api_Candidate__l2 X data0 t2 cmp4 (f 14) (f 15) I2 m2 K s)
     (optK (arithV .add a1 b3) fun v_56 =>
      optK (convI .u64 v_56) fun v_57 =>
      optK (shiftV .shr v_57 (.int .u64 1)) fun v_58 =>
      optK (convI .i64 v_58) fun v_59 =>
      optK (arithV .add v_59 t2) fun v_60 =>
      optK (arithV .gtr t2 v_59) fun v_61 =>
      boolK v_61
       (optK (arithV .sub v_60 b3) fun v_94 =>
        vc_slices_symMergeCmpFunc_api_Candidate__j4 X data0 a1 t2 b3 cmp4 v_59 v_60 v_94 v_59 K s)
       (vc_slices_symMergeCmpFunc_api_Candidate__j4 X data0 a1 t2 b3 cmp4 v_59 v_60 a1 t2 K s)))
def vc_slices_symMergeCmpFunc_api_Candidate__ann : Nat → List Nat := fun k => cond (Nat.beq k 6) [10, 11] (cond (Nat.beq k 18) [13] (cond (Nat.beq k 30) [14, 15] (cond (Nat.beq k 42) [17] (cond (Nat.beq k 66) [20, 21] ([])))))
theorem vc_slices_symMergeCmpFunc_api_Candidate__eq (X : Told) (data0 : AVal) (a1 : AVal) (t2 : AVal) (b3 : AVal) (cmp4 : AVal) (K : AVal → Heap → Prop) (s : Heap) : wpC Tryd.prog X vc_slices_symMergeCmpFunc_api_Candidate__ann Tryd.f67.ntmps none (bodyOf Tryd.f67) (envOf [data0, a1, t2, b3, cmp4]) (fun e env s => retK e (resK Tryd.prog Tryd.f67.results.toList env (fun vs => K (oneV vs) s) s)) s = vc_slices_symMergeCmpFunc_api_Candidate_ X data0 a1 t2 b3 cmp4 K s := by kernel_rfl
theorem vc_slices_symMergeCmpFunc_api_Candidate__ok {X : Told} (hX : FrX X) (hn : X 67 = none) {data0 : AVal} {a1 : AVal} {t2 : AVal} {b3 : AVal} {cmp4 : AVal} {K : AVal → Heap → Prop} {s : Heap} (h : vc_slices_symMergeCmpFunc_api_Candidate_ X data0 a1 t2 b3 cmp4 K s) : wpCall Tryd.prog X 67 [data0, a1, t2, b3, cmp4] K s :=
  wpCall_code hX vc_slices_symMergeCmpFunc_api_Candidate__ann hn Tryd.func67 (by kernel_rfl : Tryd.f67.body = some (bodyOf Tryd.f67)) (by kernel_rfl) ((vc_slices_symMergeCmpFunc_api_Candidate__eq X data0 a1 t2 b3 cmp4 K s).mpr h)
theorem vc_slices_symMergeCmpFunc_api_Candidate__in {data0 : AVal} {a1 : AVal} {t2 : AVal} {b3 : AVal} {cmp4 : AVal} {K : AVal → Heap → Prop} {s : Heap} (h : vc_slices_symMergeCmpFunc_api_Candidate_ XX data0 a1 t2 b3 cmp4 K s) : wpCall Tryd.prog XX 67 [data0, a1, t2, b3, cmp4] K s := vc_slices_symMergeCmpFunc_api_Candidate__ok XX_fr rfl h
/-- leafmesh/leafmeshref03.Kind (68) -/
def vc_leafmeshref03_Kind_j1 (X : Told) (i4 : AVal) (t24 : AVal) (t31 : AVal) (I0 : List AVal → Heap → Nat → Prop) (m0 : Nat) (K : AVal → Heap → Prop) (s : Heap) : Prop :=
  optK (pickV t24 t31 (.bool false)) fun v_20 =>
  boolK v_20
   (optK (arithV .add i4 (.int .i64 1)) fun v_21 =>
    K v_21 s)
   (optK (arithV .add i4 (.int .i64 1)) fun v_22 =>
    ∃ m', m' < m0 ∧ I0 [v_22] s m')
def vc_leafmeshref03_Kind_l0 (X : Told) (c1 : AVal) (types3 : AVal) (i4 : AVal) (I0 : List AVal → Heap → Nat → Prop) (m0 : Nat) (K : AVal → Heap → Prop) (s : Heap) : Prop :=
  optK (arithV .lss i4 (.int .i64 7)) fun v_13 =>
  boolK v_13
   (optK (iaddrA 8 1 c1 (.int .i64 0)) fun v_14 =>
    optK (rd1 s v_14) fun v_15 =>
    optK (iaddrA 7 2 types3 i4) fun v_16 =>
    optK (iaddrA 2 1 v_16 (.int .i64 0)) fun v_17 =>
    optK (rd1 s v_17) fun v_18 =>
    optK (negB false (eqV 0 false v_15 v_18)) fun v_19 =>
    boolK v_19
     (optK (iaddrA 8 1 c1 (.int .i64 1)) fun v_23 =>
      optK (rd1 s v_23) fun v_24 =>
      optK (iaddrA 7 2 types3 i4) fun v_25 =>
      optK (iaddrA 2 1 v_25 (.int .i64 1)) fun v_26 =>
      optK (rd1 s v_26) fun v_27 =>
      optK (negB false (eqV 0 false v_24 v_27)) fun v_28 =>
      vc_leafmeshref03_Kind_j1 X i4 v_19 v_28 I0 m0 K s)
     (vc_leafmeshref03_Kind_j1 X i4 v_19 .undef I0 m0 K s))
   (K (.int .i64 0) s)
def vc_leafmeshref03_Kind (X : Told) (c0 : AVal) (K : AVal → Heap → Prop) (s : Heap) : Prop :=
  boxK 96 c0 (fun b_0 s_1 =>
  optK (fillR [(.int .u8 0), (.int .u8 0)] [(0, 1, (.int .u8 0)), (1, 1, (.int .u8 2))]) fun c_2 =>
  optK (fillR [(.int .u8 0), (.int .u8 0)] [(0, 1, (.int .u8 3)), (1, 1, (.int .u8 12))]) fun c_3 =>
  optK (fillR [(.int .u8 0), (.int .u8 0)] [(0, 1, (.int .u8 6)), (1, 1, (.int .u8 0))]) fun c_4 =>
  optK (fillR [(.int .u8 0), (.int .u8 0)] [(0, 1, (.int .u8 6)), (1, 1, (.int .u8 1))]) fun c_5 =>
  optK (fillR [(.int .u8 0), (.int .u8 0)] [(0, 1, (.int .u8 6)), (1, 1, (.int .u8 2))]) fun c_6 =>
  optK (fillR [(.int .u8 0), (.int .u8 0)] [(0, 1, (.int .u8 6)), (1, 1, (.int .u8 3))]) fun c_7 =>
  optK (fillR [(.int .u8 0), (.int .u8 0)] [(0, 1, (.int .u8 6)), (1, 1, (.int .u8 6))]) fun c_8 =>
  optK (fillR [(.int .u8 0), (.int .u8 0), (.int .u8 0), (.int .u8 0), (.int .u8 0), (.int .u8 0), (.int .u8 0), (.int .u8 0), (.int .u8 0), (.int .u8 0), (.int .u8 0), (.int .u8 0), (.int .u8 0), (.int .u8 0)] [(0, 2, (.agg c_2)), (2, 2, (.agg c_3)), (4, 2, (.agg c_4)), (6, 2, (.agg c_5)), (8, 2, (.agg c_6)), (10, 2, (.agg c_7)), (12, 2, (.agg c_8))]) fun c_9 =>
  newK 135 [(.int .u8 0), (.int .u8 0), (.int .u8 0), (.int .u8 0), (.int .u8 0), (.int .u8 0), (.int .u8 0), (.int .u8 0), (.int .u8 0), (.int .u8 0), (.int .u8 0), (.int .u8 0), (.int .u8 0), (.int .u8 0)] (fun b_10 s_11 =>
  optK (wrAgg s_11 14 (.ptr b_10 0) (.agg c_9)) fun s_12 =>
  ∃ I0 : List AVal → Heap → Nat → Prop, (∃ m, I0 [(.int .i64 0)] s_12 m) ∧ ∀ (f : Env) (s : Heap) (m0 : Nat), I0 [f 4] s m0 →
    vc_leafmeshref03_Kind_l0 X b_0 (.ptr b_10 0) (f 4) I0 m0 K s) s_1) s
def vc_leafmeshref03_Kind_ann : Nat → List Nat := fun k => cond (Nat.beq k 6) [4] ([])
theorem vc_leafmeshref03_Kind_eq (X : Told) (c0 : AVal) (K : AVal → Heap → Prop) (s : Heap) : wpC Tryd.prog X vc_leafmeshref03_Kind_ann Tryd.f68.ntmps none (bodyOf Tryd.f68) (envOf [c0]) (fun e env s => retK e (resK Tryd.prog Tryd.f68.results.toList env (fun vs => K (oneV vs) s) s)) s = vc_leafmeshref03_Kind X c0 K s := by kernel_rfl
theorem vc_leafmeshref03_Kind_ok {X : Told} (hX : FrX X) (hn : X 68 = none) {c0 : AVal} {K : AVal → Heap → Prop} {s : Heap} (h : vc_leafmeshref03_Kind X c0 K s) : wpCall Tryd.prog X 68 [c0] K s :=
  wpCall_code hX vc_leafmeshref03_Kind_ann hn Tryd.func68 (by kernel_rfl : Tryd.f68.body = some (bodyOf Tryd.f68)) (by kernel_rfl) ((vc_leafmeshref03_Kind_eq X c0 K s).mpr h)
theorem vc_leafmeshref03_Kind_in {c0 : AVal} {K : AVal → Heap → Prop} {s : Heap} (h : vc_leafmeshref03_Kind XX c0 K s) : wpCall Tryd.prog XX 68 [c0] K s := vc_leafmeshref03_Kind_ok XX_fr rfl h
/-- leafmesh/leafmeshref03.number (69) -/
def vc_leafmeshref03_number_l0 (X : Told) (c1 : AVal) (n3 : AVal) (i4 : AVal) (I0 : List AVal → Heap → Nat → Prop) (m0 : Nat) (K : AVal → Heap → Prop) (s : Heap) : Prop :=
  optK (arithV .lss i4 (.int .i64 8)) fun v_2 =>
  boolK v_2
   (optK (shiftV .shl n3 (.int .u64 8)) fun v_3 =>
    optK (iaddrA 8 1 c1 i4) fun v_4 =>
    optK (rd1 s v_4) fun v_5 =>
    optK (convI .u64 v_5) fun v_6 =>
    optK (arithV .add v_3 v_6) fun v_7 =>
    optK (arithV .add i4 (.int .i64 1)) fun v_8 =>
    ∃ m', m' < m0 ∧ I0 [v_7, v_8] s m')
   (K n3 s)
def vc_leafmeshref03_number (X : Told) (c0 : AVal) (K : AVal → Heap → Prop) (s : Heap) : Prop :=
  boxK 96 c0 (fun b_0 s_1 =>
  ∃ I0 : List AVal → Heap → Nat → Prop, (∃ m, I0 [(.int .u64 0), (.int .i64 2)] s_1 m) ∧ ∀ (f : Env) (s : Heap) (m0 : Nat), I0 [f 3, f 4] s m0 →
    vc_leafmeshref03_number_l0 X b_0 (f 3) (f 4) I0 m0 K s) s
def vc_leafmeshref03_number_ann : Nat → List Nat := fun k => cond (Nat.beq k 6) [3, 4] ([])
theorem vc_leafmeshref03_number_eq (X : Told) (c0 : AVal) (K : AVal → Heap → Prop) (s : Heap) : wpC Tryd.prog X vc_leafmeshref03_number_ann Tryd.f69.ntmps none (bodyOf Tryd.f69) (envOf [c0]) (fun e env s => retK e (resK Tryd.prog Tryd.f69.results.toList env (fun vs => K (oneV vs) s) s)) s = vc_leafmeshref03_number X c0 K s := by kernel_rfl
theorem vc_leafmeshref03_number_ok {X : Told} (hX : FrX X) (hn : X 69 = none) {c0 : AVal} {K : AVal → Heap → Prop} {s : Heap} (h : vc_leafmeshref03_number X c0 K s) : wpCall Tryd.prog X 69 [c0] K s :=
  wpCall_code hX vc_leafmeshref03_number_ann hn Tryd.func69 (by kernel_rfl : Tryd.f69.body = some (bodyOf Tryd.f69)) (by kernel_rfl) ((vc_leafmeshref03_number_eq X c0 K s).mpr h)
theorem vc_leafmeshref03_number_in {c0 : AVal} {K : AVal → Heap → Prop} {s : Heap} (h : vc_leafmeshref03_number XX c0 K s) : wpCall Tryd.prog XX 69 [c0] K s := vc_leafmeshref03_number_ok XX_fr rfl h
/-- leafmesh/leafmeshkit.Same[uint32] (81) -/
def vc_leafmeshkit_Same_uint32__l0 (X : Told) (a0 : AVal) (b1 : AVal) (i5 : AVal) (I0 : List AVal → Heap → Nat → Prop) (m0 : Nat) (K : AVal → Heap → Prop) (s : Heap) : Prop :=
  optK (lenOfA a0) fun v_5 =>
  optK (arithV .lss i5 (.int .i64 v_5)) fun v_7 =>
  boolK v_7
   (optK (iaddrS 1 a0 i5) fun v_8 =>
    optK (rd1 s v_8) fun v_9 =>
    optK (iaddrS 1 b1 i5) fun v_10 =>
    optK (rd1 s v_10) fun v_11 =>
    optK (negB true (eqV 0 false v_9 v_11)) fun v_12 =>
    boolK v_12
     (K (.bool false) s)
     (optK (arithV .add i5 (.int .i64 1)) fun v_13 =>
      ∃ m', m' < m0 ∧ I0 [v_13] s m'))
   (K (.bool true) s)
def vc_leafmeshkit_Same_uint32_ (X : Told) (a0 : AVal) (b1 : AVal) (K : AVal → Heap → Prop) (s : Heap) : Prop :=
  optK (lenOfA a0) fun v_0 =>
  optK (lenOfA b1) fun v_2 =>
  optK (negB true (eqV 0 false (.int .i64 v_0) (.int .i64 v_2))) fun v_4 =>
  boolK v_4
   (K (.bool false) s)
   (∃ I0 : List AVal → Heap → Nat → Prop, (∃ m, I0 [(.int .i64 0)] s m) ∧ ∀ (f : Env) (s : Heap) (m0 : Nat), I0 [f 5] s m0 →
      vc_leafmeshkit_Same_uint32__l0 X a0 b1 (f 5) I0 m0 K s)
def vc_leafmeshkit_Same_uint32__ann : Nat → List Nat := fun k => cond (Nat.beq k 8) [5] ([])
theorem vc_leafmeshkit_Same_uint32__eq (X : Told) (a0 : AVal) (b1 : AVal) (K : AVal → Heap → Prop) (s : Heap) : wpC Tryd.prog X vc_leafmeshkit_Same_uint32__ann Tryd.f81.ntmps none (bodyOf Tryd.f81) (envOf [a0, b1]) (fun e env s => retK e (resK Tryd.prog Tryd.f81.results.toList env (fun vs => K (oneV vs) s) s)) s = vc_leafmeshkit_Same_uint32_ X a0 b1 K s := by kernel_rfl
theorem vc_leafmeshkit_Same_uint32__ok {X : Told} (hX : FrX X) (hn : X 81 = none) {a0 : AVal} {b1 : AVal} {K : AVal → Heap → Prop} {s : Heap} (h : vc_leafmeshkit_Same_uint32_ X a0 b1 K s) : wpCall Tryd.prog X 81 [a0, b1] K s :=
  wpCall_code hX vc_leafmeshkit_Same_uint32__ann hn Tryd.func81 (by kernel_rfl : Tryd.f81.body = some (bodyOf Tryd.f81)) (by kernel_rfl) ((vc_leafmeshkit_Same_uint32__eq X a0 b1 K s).mpr h)
theorem vc_leafmeshkit_Same_uint32__in {a0 : AVal} {b1 : AVal} {K : AVal → Heap → Prop} {s : Heap} (h : vc_leafmeshkit_Same_uint32_ XX a0 b1 K s) : wpCall Tryd.prog XX 81 [a0, b1] K s := vc_leafmeshkit_Same_uint32__ok XX_fr rfl h
/-- leafmesh/leafmeshkit.Same[leafmesh/api.Comm] (82) -/
def vc_leafmeshkit_Same_api_Comm__l0 (X : Told) (a0 : AVal) (b1 : AVal) (i5 : AVal) (I0 : List AVal → Heap → Nat → Prop) (m0 : Nat) (K : AVal → Heap → Prop) (s : Heap) : Prop :=
  optK (lenOfA a0) fun v_5 =>
  optK (arithV .lss i5 (.int .i64 v_5)) fun v_7 =>
  boolK v_7
   (optK (iaddrS 8 a0 i5) fun v_8 =>
    optK (rdN s 8 v_8) fun v_9 =>
    optK (iaddrS 8 b1 i5) fun v_10 =>
    optK (rdN s 8 v_10) fun v_11 =>
    optK (negB true (eqAgg Tryd.prog 96 (.agg v_9) (.agg v_11))) fun v_12 =>
    boolK v_12
     (K (.bool false) s)
     (optK (arithV .add i5 (.int .i64 1)) fun v_13 =>
      ∃ m', m' < m0 ∧ I0 [v_13] s m'))
   (K (.bool true) s)
def vc_leafmeshkit_Same_api_Comm_ (X : Told) (a0 : AVal) (b1 : AVal) (K : AVal → Heap → Prop) (s : Heap) : Prop :=
  optK (lenOfA a0) fun v_0 =>
  optK (lenOfA b1) fun v_2 =>
  optK (negB true (eqV 0 false (.int .i64 v_0) (.int .i64 v_2))) fun v_4 =>
  boolK v_4
   (K (.bool false) s)
   (∃ I0 : List AVal → Heap → Nat → Prop, (∃ m, I0 [(.int .i64 0)] s m) ∧ ∀ (f : Env) (s : Heap) (m0 : Nat), I0 [f 5] s m0 →
      vc_leafmeshkit_Same_api_Comm__l0 X a0 b1 (f 5) I0 m0 K s)
def vc_leafmeshkit_Same_api_Comm__ann : Nat → List Nat := fun k => cond (Nat.beq k 8) [5] ([])
theorem vc_leafmeshkit_Same_api_Comm__eq (X : Told) (a0 : AVal) (b1 : AVal) (K : AVal → Heap → Prop) (s : Heap) : wpC Tryd.prog X vc_leafmeshkit_Same_api_Comm__ann Tryd.f82.ntmps none (bodyOf Tryd.f82) (envOf [a0, b1]) (fun e env s => retK e (resK Tryd.prog Tryd.f82.results.toList env (fun vs => K (oneV vs) s) s)) s = vc_leafmeshkit_Same_api_Comm_ X a0 b1 K s := by kernel_rfl
theorem vc_leafmeshkit_Same_api_Comm__ok {X : Told} (hX : FrX X) (hn : X 82 = none) {a0 : AVal} {b1 : AVal} {K : AVal → Heap → Prop} {s : Heap} (h : vc_leafmeshkit_Same_api_Comm_ X a0 b1 K s) : wpCall Tryd.prog X 82 [a0, b1] K s :=
  wpCall_code hX vc_leafmeshkit_Same_api_Comm__ann hn Tryd.func82 (by kernel_rfl : Tryd.f82.body = some (bodyOf Tryd.f82)) (by kernel_rfl) ((vc_leafmeshkit_Same_api_Comm__eq X a0 b1 K s).mpr h)
theorem vc_leafmeshkit_Same_api_Comm__in {a0 : AVal} {b1 : AVal} {K : AVal → Heap → Prop} {s : Heap} (h : vc_leafmeshkit_Same_api_Comm_ XX a0 b1 K s) : wpCall Tryd.prog XX 82 [a0, b1] K s := vc_leafmeshkit_Same_api_Comm__ok XX_fr rfl h
/-- slices.rotateCmpFunc[leafmesh/api.Candidate] (84) -/
def vc_slices_rotateCmpFunc_api_Candidate__l0 (X : Told) (data0 : AVal) (t2 : AVal) (cmp4 : AVal) (i10 : AVal) (j11 : AVal) (I0 : List AVal → Heap → Nat → Prop) (m0 : Nat) (K : AVal → Heap → Prop) (s : Heap) : Prop :=
  optK (negB true (eqV 0 false i10 j11)) fun v_2 =>
  boolK v_2
   (optK (arithV .gtr i10 j11) fun v_3 =>
    boolK v_3
     (optK (arithV .sub t2 i10) fun v_4 =>
      wpCall Tryd.prog X 90 [data0, v_4, t2, j11, cmp4] (fun v_5 s_6 =>
      optK (arithV .sub i10 j11) fun v_7 =>
      ∃ m', m' < m0 ∧ I0 [v_7, j11] s_6 m') s)
     (optK (arithV .sub t2 i10) fun v_8 =>
      optK (arithV .add t2 j11) fun v_9 =>
      optK (arithV .sub v_9 i10) fun v_10 =>
      wpCall Tryd.prog X 90 [data0, v_8, v_10, i10, cmp4] (fun v_11 s_12 =>
      optK (arithV .sub j11 i10) fun v_13 =>
      ∃ m', m' < m0 ∧ I0 [i10, v_13] s_12 m') s))
   (optK (arithV .sub t2 i10) fun v_14 =>
    wpCall Tryd.prog X 90 [data0, v_14, t2, i10, cmp4] (fun v_15 s_16 =>
    K (.tup []) s_16) s)
def vc_slices_rotateCmpFunc_api_Candidate_ (X : Told) (data0 : AVal) (a1 : AVal) (t2 : AVal) (b3 : AVal) (cmp4 : AVal) (K : AVal → Heap → Prop) (s : Heap) : Prop :=
  optK (arithV .sub t2 a1) fun v_0 =>
  optK (arithV .sub b3 t2) fun v_1 =>
  ∃ I0 : List AVal → Heap → Nat → Prop, (∃ m, I0 [v_0, v_1] s m) ∧ ∀ (f : Env) (s : Heap) (m0 : Nat), I0 [f 10, f 11] s m0 →
    vc_slices_rotateCmpFunc_api_Candidate__l0 X data0 t2 cmp4 (f 10) (f 11) I0 m0 K s
def vc_slices_rotateCmpFunc_api_Candidate__ann : Nat → List Nat := fun k => cond (Nat.beq k 4) [10, 11] ([])
theorem vc_slices_rotateCmpFunc_api_Candidate__eq (X : Told) (data0 : AVal) (a1 : AVal) (t2 : AVal) (b3 : AVal) (cmp4 : AVal) (K : AVal → Heap → Prop) (s : Heap) : wpC Tryd.prog X vc_slices_rotateCmpFunc_api_Candidate__ann Tryd.f84.ntmps none (bodyOf Tryd.f84) (envOf [data0, a1, t2, b3, cmp4]) (fun e env s => retK e (resK Tryd.prog Tryd.f84.results.toList env (fun vs => K (oneV vs) s) s)) s = vc_slices_rotateCmpFunc_api_Candidate_ X data0 a1 t2 b3 cmp4 K s := by kernel_rfl
theorem vc_slices_rotateCmpFunc_api_Candidate__ok {X : Told} (hX : FrX X) (hn : X 84 = none) {data0 : AVal} {a1 : AVal} {t2 : AVal} {b3 : AVal} {cmp4 : AVal} {K : AVal → Heap → Prop} {s : Heap} (h : vc_slices_rotateCmpFunc_api_Candidate_ X data0 a1 t2 b3 cmp4 K s) : wpCall Tryd.prog X 84 [data0, a1, t2, b3, cmp4] K s :=
  wpCall_code hX vc_slices_rotateCmpFunc_api_Candidate__ann hn Tryd.func84 (by kernel_rfl : Tryd.f84.body = some (bodyOf Tryd.f84)) (by kernel_rfl) ((vc_slices_rotateCmpFunc_api_Candidate__eq X data0 a1 t2 b3 cmp4 K s).mpr h)
theorem vc_slices_rotateCmpFunc_api_Candidate__in {data0 : AVal} {a1 : AVal} {t2 : AVal} {b3 : AVal} {cmp4 : AVal} {K : AVal → Heap → Prop} {s : Heap} (h : vc_slices_rotateCmpFunc_api_Candidate_ XX data0 a1 t2 b3 cmp4 K s) : wpCall Tryd.prog XX 84 [data0, a1, t2, b3, cmp4] K s := vc_slices_rotateCmpFunc_api_Candidate__ok XX_fr rfl h
/-- slices.swapRangeCmpFunc[leafmesh/api.Candidate] (90) -/
def vc_slices_swapRangeCmpFunc_api_Candidate__l0 (X : Told) (data0 : AVal) (a1 : AVal) (b2 : AVal) (n3 : AVal) (i10 : AVal) (I0 : List AVal → Heap → Nat → Prop) (m0 : Nat) (K : AVal → Heap → Prop) (s : Heap) : Prop :=
  optK (arithV .lss i10 n3) fun v_0 =>
  boolK v_0
   (optK (arithV .add a1 i10) fun v_1 =>
    optK (arithV .add b2 i10) fun v_2 =>
    optK (arithV .add b2 i10) fun v_3 =>
    optK (iaddrS 2 data0 v_3) fun v_4 =>
    optK (rdN s 2 v_4) fun v_5 =>
    optK (arithV .add a1 i10) fun v_6 =>
    optK (iaddrS 2 data0 v_6) fun v_7 =>
    optK (rdN s 2 v_7) fun v_8 =>
    optK (iaddrS 2 data0 v_1) fun v_9 =>
    optK (wrAgg s 2 v_9 (.agg v_5)) fun s_10 =>
    optK (iaddrS 2 data0 v_2) fun v_11 =>
    optK (wrAgg s_10 2 v_11 (.agg v_8)) fun s_12 =>
    optK (arithV .add i10 (.int .i64 1)) fun v_13 =>
    ∃ m', m' < m0 ∧ I0 [v_13] s_12 m')
   (K (.tup []) s)
def vc_slices_swapRangeCmpFunc_api_Candidate_ (X : Told) (data0 : AVal) (a1 : AVal) (b2 : AVal) (n3 : AVal) (cmp4 : AVal) (K : AVal → Heap → Prop) (s : Heap) : Prop :=
  ∃ I0 : List AVal → Heap → Nat → Prop, (∃ m, I0 [(.int .i64 0)] s m) ∧ ∀ (f : Env) (s : Heap) (m0 : Nat), I0 [f 10] s m0 →
    vc_slices_swapRangeCmpFunc_api_Candidate__l0 X data0 a1 b2 n3 (f 10) I0 m0 K s
def vc_slices_swapRangeCmpFunc_api_Candidate__ann : Nat → List Nat := fun k => cond (Nat.beq k 2) [10] ([])
theorem vc_slices_swapRangeCmpFunc_api_Candidate__eq (X : Told) (data0 : AVal) (a1 : AVal) (b2 : AVal) (n3 : AVal) (cmp4 : AVal) (K : AVal → Heap → Prop) (s : Heap) : wpC Tryd.prog X vc_slices_swapRangeCmpFunc_api_Candidate__ann Tryd.f90.ntmps none (bodyOf Tryd.f90) (envOf [data0, a1, b2, n3, cmp4]) (fun e env s => retK e (resK Tryd.prog Tryd.f90.results.toList env (fun vs => K (oneV vs) s) s)) s = vc_slices_swapRangeCmpFunc_api_Candidate_ X data0 a1 b2 n3 cmp4 K s := by kernel_rfl
theorem vc_slices_swapRangeCmpFunc_api_Candidate__ok {X : Told} (hX : FrX X) (hn : X 90 = none) {data0 : AVal} {a1 : AVal} {b2 : AVal} {n3 : AVal} {cmp4 : AVal} {K : AVal → Heap → Prop} {s : Heap} (h : vc_slices_swapRangeCmpFunc_api_Candidate_ X data0 a1 b2 n3 cmp4 K s) : wpCall Tryd.prog X 90 [data0, a1, b2, n3, cmp4] K s :=
  wpCall_code hX vc_slices_swapRangeCmpFunc_api_Candidate__ann hn Tryd.func90 (by kernel_rfl : Tryd.f90.body = some (bodyOf Tryd.f90)) (by kernel_rfl) ((vc_slices_swapRangeCmpFunc_api_Candidate__eq X data0 a1 b2 n3 cmp4 K s).mpr h)
theorem vc_slices_swapRangeCmpFunc_api_Candidate__in {data0 : AVal} {a1 : AVal} {b2 : AVal} {n3 : AVal} {cmp4 : AVal} {K : AVal → Heap → Prop} {s : Heap} (h : vc_slices_swapRangeCmpFunc_api_Candidate_ XX data0 a1 b2 n3 cmp4 K s) : wpCall Tryd.prog XX 90 [data0, a1, b2, n3, cmp4] K s := vc_slices_swapRangeCmpFunc_api_Candidate__ok XX_fr rfl h
end Go.AM
set_option linter.unusedVariables false
namespace Go.AM
open Go Go.Proofs
set_option maxRecDepth 100000
/-- leafmesh/comm.Kind (65) -/
def vc_comm_Kind_l0 (X : Told) (c1 : AVal) (t5 : AVal) (t6 : AVal) (I0 : List AVal → Heap → Nat → Prop) (m0 : Nat) (K : AVal → Heap → Prop) (s : Heap) : Prop :=
  optK (arithV .lss t6 (.int .i64 7)) fun v_3 =>
  boolK v_3
   (optK (indexD 7 3 (some 3) t5 t6) fun v_4 =>
    newK 133 [(.int .i64 0), (.int .u8 0), (.int .u8 0)] (fun b_5 s_6 =>
    optK (wrAgg s_6 3 (.ptr b_5 0) v_4) fun s_7 =>
    optK (addOff 1 (.ptr b_5 0)) fun v_8 =>
    optK (rdN s_7 2 v_8) fun v_9 =>
    optK (sliceP s_7 8 1 c1 none (some (.int .i64 2)) none) fun v_10 =>
    optK (s2apN 2 v_10) fun v_11 =>
    optK (rdN s_7 2 v_11) fun v_12 =>
    optK (negB false (eqAgg Tryd.prog 132 (.agg v_9) (.agg v_12))) fun v_13 =>
    boolK v_13
     (optK (addOff 0 (.ptr b_5 0)) fun v_14 =>
      optK (rd1 s_7 v_14) fun v_15 =>
      K v_15 s_7)
     (optK (arithV .add t6 (.int .i64 1)) fun v_16 =>
      ∃ m', m' < m0 ∧ I0 [v_16] s_7 m')) s)
   (K (.int .i64 0) s)
def vc_comm_Kind (X : Told) (c0 : AVal) (K : AVal → Heap → Prop) (s : Heap) : Prop :=
  boxK 96 c0 (fun b_0 s_1 =>
  optK (gldN s_1 21 0) fun v_2 =>
  ∃ I0 : List AVal → Heap → Nat → Prop, (∃ m, I0 [(.int .i64 0)] s_1 m) ∧ ∀ (f : Env) (s : Heap) (m0 : Nat), I0 [f 6] s m0 →
    vc_comm_Kind_l0 X b_0 (.agg v_2) (f 6) I0 m0 K s) s
def vc_comm_Kind_ann : Nat → List Nat := fun k => cond (Nat.beq k 4) [6] ([])
theorem vc_comm_Kind_eq (X : Told) (c0 : AVal) (K : AVal → Heap → Prop) (s : Heap) : wpC Tryd.prog X vc_comm_Kind_ann Tryd.f65.ntmps none (bodyOf Tryd.f65) (envOf [c0]) (fun e env s => retK e (resK Tryd.prog Tryd.f65.results.toList env (fun vs => K (oneV vs) s) s)) s = vc_comm_Kind X c0 K s := by kernel_rfl
theorem vc_comm_Kind_ok {X : Told} (hX : FrX X) (hn : X 65 = none) {c0 : AVal} {K : AVal → Heap → Prop} {s : Heap} (h : vc_comm_Kind X c0 K s) : wpCall Tryd.prog X 65 [c0] K s :=
  wpCall_code hX vc_comm_Kind_ann hn Tryd.func65 (by kernel_rfl : Tryd.f65.body = some (bodyOf Tryd.f65)) (by kernel_rfl) ((vc_comm_Kind_eq X c0 K s).mpr h)
theorem vc_comm_Kind_in {c0 : AVal} {K : AVal → Heap → Prop} {s : Heap} (h : vc_comm_Kind XX c0 K s) : wpCall Tryd.prog XX 65 [c0] K s := vc_comm_Kind_ok XX_fr rfl h
/-- slices.Sort[[]leafmesh/api.IP,leafmesh/api.IP] (37) -/
def vc_slices_Sort___api_IP_api_IP_ (X : Told) (x0 : AVal) (K : AVal → Heap → Prop) (s : Heap) : Prop :=
  optK (lenOfA x0) fun v_0 =>
  optK (convI .u64 (.int .i64 v_0)) fun v_2 =>
  wpCall Tryd.prog X 59 [v_2] (fun v_3 s_4 =>
  wpCall Tryd.prog X 58 [x0, (.int .i64 0), (.int .i64 v_0), v_3] (fun v_5 s_6 =>
  K (.tup []) s_6) s_4) s
def vc_slices_Sort___api_IP_api_IP__ann : Nat → List Nat := fun _ => []
theorem vc_slices_Sort___api_IP_api_IP__eq (X : Told) (x0 : AVal) (K : AVal → Heap → Prop) (s : Heap) : wpC Tryd.prog X vc_slices_Sort___api_IP_api_IP__ann Tryd.f37.ntmps none (bodyOf Tryd.f37) (envOf [x0]) (fun e env s => retK e (resK Tryd.prog Tryd.f37.results.toList env (fun vs => K (oneV vs) s) s)) s = vc_slices_Sort___api_IP_api_IP_ X x0 K s := by kernel_rfl
theorem vc_slices_Sort___api_IP_api_IP__ok {X : Told} (hX : FrX X) (hn : X 37 = none) {x0 : AVal} {K : AVal → Heap → Prop} {s : Heap} (h : vc_slices_Sort___api_IP_api_IP_ X x0 K s) : wpCall Tryd.prog X 37 [x0] K s :=
  wpCall_code hX vc_slices_Sort___api_IP_api_IP__ann hn Tryd.func37 (by kernel_rfl : Tryd.f37.body = some (bodyOf Tryd.f37)) (by kernel_rfl) ((vc_slices_Sort___api_IP_api_IP__eq X x0 K s).mpr h)
theorem vc_slices_Sort___api_IP_api_IP__in {x0 : AVal} {K : AVal → Heap → Prop} {s : Heap} (h : vc_slices_Sort___api_IP_api_IP_ XX x0 K s) : wpCall Tryd.prog XX 37 [x0] K s := vc_slices_Sort___api_IP_api_IP__ok XX_fr rfl h
/-- slices.pdqsortOrdered[leafmesh/api.IP] (58) -/
def vc_slices_pdqsortOrdered_api_IP__j6 (X : Told) (data0 : AVal) (a1 : AVal) (b2 : AVal) (limit3 : AVal) (wasBalanced8 : AVal) (wasPartitioned9 : AVal) (length10 : AVal) (pivot11 : AVal) (t75 : AVal) (t86 : AVal) (I0 : List AVal → Heap → Nat → Prop) (m0 : Nat) (K : AVal → Heap → Prop) (s : Heap) : Prop :=
  optK (pickV t75 t86 (.bool false)) fun v_16 =>
  boolK v_16
   (wpCall Tryd.prog X 77 [data0, a1, b2, pivot11] (fun v_17 s_18 =>
    ∃ m', m' < m0 ∧ I0 [v_17, b2, limit3, wasBalanced8, wasPartitioned9] s_18 m') s)
   (wpCall Tryd.prog X 78 [data0, a1, b2, pivot11] (fun v_19 s_20 =>
    optK (extractA v_19 0) fun v_21 =>
    optK (extractA v_19 1) fun v_22 =>
    optK (arithV .sub v_21 a1) fun v_23 =>
    optK (arithV .sub b2 v_21) fun v_24 =>
    optK (arithV .quo length10 (.int .i64 8)) fun v_25 =>
    optK (arithV .lss v_23 v_24) fun v_26 =>
    boolK v_26
     (optK (arithV .geq v_23 v_25) fun v_27 =>
      wpCall Tryd.prog X 58 [data0, a1, v_21, limit3] (fun v_28 s_29 =>
      optK (arithV .add v_21 (.int .i64 1)) fun v_30 =>
      ∃ m', m' < m0 ∧ I0 [v_30, b2, limit3, v_27, v_22] s_29 m') s_20)
     (optK (arithV .geq v_24 v_25) fun v_31 =>
      optK (arithV .add v_21 (.int .i64 1)) fun v_32 =>
      wpCall Tryd.prog X 58 [data0, v_32, b2, limit3] (fun v_33 s_34 =>
      ∃ m', m' < m0 ∧ I0 [a1, v_21, limit3, v_31, v_22] s_34 m') s_20)) s)
def vc_slices_pdqsortOrdered_api_IP__j5 (X : Told) (data0 : AVal) (a1 : AVal) (b2 : AVal) (limit3 : AVal) (wasBalanced8 : AVal) (wasPartitioned9 : AVal) (length10 : AVal) (pivot11 : AVal) (I0 : List AVal → Heap → Nat → Prop) (m0 : Nat) (K : AVal → Heap → Prop) (s : Heap) : Prop :=
  optK (arithV .gtr a1 (.int .i64 0)) fun v_15 =>
  boolK v_15
   (optK (arithV .sub a1 (.int .i64 1)) fun v_35 =>
    optK (iaddrS 1 data0 v_35) fun v_36 =>
    optK (rd1 s v_36) fun v_37 =>
    optK (iaddrS 1 data0 pivot11) fun v_38 =>
    optK (rd1 s v_38) fun v_39 =>
    wpCall Tryd.prog X 76 [v_37, v_39] (fun v_40 s_41 =>
    optK (unaryA .not v_40) fun v_42 =>
    vc_slices_pdqsortOrdered_api_IP__j6 X data0 a1 b2 limit3 wasBalanced8 wasPartitioned9 length10 pivot11 v_15 v_42 I0 m0 K s_41) s)
   (vc_slices_pdqsortOrdered_api_IP__j6 X data0 a1 b2 limit3 wasBalanced8 wasPartitioned9 length10 pivot11 v_15 .undef I0 m0 K s)
def vc_slices_pdqsortOrdered_api_IP__j4 (X : Told) (data0 : AVal) (a1 : AVal) (b2 : AVal) (limit3 : AVal) (wasBalanced8 : AVal) (wasPartitioned9 : AVal) (length10 : AVal) (pivot11 : AVal) (t65 : AVal) (t67 : AVal) (I0 : List AVal → Heap → Nat → Prop) (m0 : Nat) (K : AVal → Heap → Prop) (s : Heap) : Prop :=
  optK (pickV t65 t67 (.bool false)) fun v_14 =>
  boolK v_14
   (wpCall Tryd.prog X 75 [data0, a1, b2] (fun v_43 s_44 =>
    boolK v_43
     (K (.tup []) s_44)
     (vc_slices_pdqsortOrdered_api_IP__j5 X data0 a1 b2 limit3 wasBalanced8 wasPartitioned9 length10 pivot11 I0 m0 K s_44)) s)
   (vc_slices_pdqsortOrdered_api_IP__j5 X data0 a1 b2 limit3 wasBalanced8 wasPartitioned9 length10 pivot11 I0 m0 K s)
def vc_slices_pdqsortOrdered_api_IP__j3 (X : Told) (data0 : AVal) (a1 : AVal) (b2 : AVal) (limit3 : AVal) (wasBalanced8 : AVal) (wasPartitioned9 : AVal) (length10 : AVal) (pivot11 : AVal) (hint12 : AVal) (t62 : AVal) (t63 : AVal) (I0 : List AVal → Heap → Nat → Prop) (m0 : Nat) (K : AVal → Heap → Prop) (s : Heap) : Prop :=
  optK (pickV t62 t63 (.bool false)) fun v_13 =>
  boolK v_13
   (optK (negB false (eqV 0 true hint12 (.int .i64 1))) fun v_45 =>
    vc_slices_pdqsortOrdered_api_IP__j4 X data0 a1 b2 limit3 wasBalanced8 wasPartitioned9 length10 pivot11 v_13 v_45 I0 m0 K s)
   (vc_slices_pdqsortOrdered_api_IP__j4 X data0 a1 b2 limit3 wasBalanced8 wasPartitioned9 length10 pivot11 v_13 .undef I0 m0 K s)
def vc_slices_pdqsortOrdered_api_IP__j2 (X : Told) (data0 : AVal) (a1 : AVal) (b2 : AVal) (limit3 : AVal) (wasBalanced8 : AVal) (wasPartitioned9 : AVal) (length10 : AVal) (pivot11 : AVal) (hint12 : AVal) (I0 : List AVal → Heap → Nat → Prop) (m0 : Nat) (K : AVal → Heap → Prop) (s : Heap) : Prop :=
  boolK wasBalanced8
   (vc_slices_pdqsortOrdered_api_IP__j3 X data0 a1 b2 limit3 wasBalanced8 wasPartitioned9 length10 pivot11 hint12 wasBalanced8 wasPartitioned9 I0 m0 K s)
   (vc_slices_pdqsortOrdered_api_IP__j3 X data0 a1 b2 limit3 wasBalanced8 wasPartitioned9 length10 pivot11 hint12 wasBalanced8 .undef I0 m0 K s)
def vc_slices_pdqsortOrdered_api_IP__j1 (X : Told) (data0 : AVal) (a1 : AVal) (b2 : AVal) (limit3 : AVal) (wasBalanced8 : AVal) (wasPartitioned9 : AVal) (length10 : AVal) (I0 : List AVal → Heap → Nat → Prop) (m0 : Nat) (K : AVal → Heap → Prop) (s : Heap) : Prop :=
  wpCall Tryd.prog X 73 [data0, a1, b2] (fun v_8 s_9 =>
  optK (extractA v_8 0) fun v_10 =>
  optK (extractA v_8 1) fun v_11 =>
  optK (negB false (eqV 0 true v_11 (.int .i64 2))) fun v_12 =>
  boolK v_12
   (wpCall Tryd.prog X 74 [data0, a1, b2] (fun v_46 s_47 =>
    optK (arithV .sub b2 (.int .i64 1)) fun v_48 =>
    optK (arithV .sub v_10 a1) fun v_49 =>
    optK (arithV .sub v_48 v_49) fun v_50 =>
    vc_slices_pdqsortOrdered_api_IP__j2 X data0 a1 b2 limit3 wasBalanced8 wasPartitioned9 length10 v_50 (.int .i64 1) I0 m0 K s_47) s_9)
   (vc_slices_pdqsortOrdered_api_IP__j2 X data0 a1 b2 limit3 wasBalanced8 wasPartitioned9 length10 v_10 v_11 I0 m0 K s_9)) s
def vc_slices_pdqsortOrdered_api_IP__l0 (X : Told) (data0 : AVal) (a1 : AVal) (b2 : AVal) (limit3 : AVal) (wasBalanced8 : AVal) (wasPartitioned9 : AVal) (I0 : List AVal → Heap → Nat → Prop) (m0 : Nat) (K : AVal → Heap → Prop) (s : Heap) : Prop :=
  optK (arithV .sub b2 a1) fun v_0 =>
  optK (arithV .leq v_0 (.int .i64 12)) fun v_1 =>
  boolK v_1
   (wpCall Tryd.prog X 70 [data0, a1, b2] (fun v_2 s_3 =>
    K (.tup []) s_3) s)
   (optK (negB false (eqV 0 true limit3 (.int .i64 0))) fun v_4 =>
    boolK v_4
     (wpCall Tryd.prog X 71 [data0, a1, b2] (fun v_5 s_6 =>
      K (.tup []) s_6) s)
     (optK (unaryA .not wasBalanced8) fun v_7 =>
      boolK v_7
       (wpCall Tryd.prog X 72 [data0, a1, b2] (fun v_51 s_52 =>
        optK (arithV .sub limit3 (.int .i64 1)) fun v_53 =>
        vc_slices_pdqsortOrdered_api_IP__j1 X data0 a1 b2 v_53 wasBalanced8 wasPartitioned9 v_0 I0 m0 K s_52) s)
       (vc_slices_pdqsortOrdered_api_IP__j1 X data0 a1 b2 limit3 wasBalanced8 wasPartitioned9 v_0 I0 m0 K s)))
def vc_slices_pdqsortOrdered_api_IP_ (X : Told) (data0 : AVal) (a1 : AVal) (b2 : AVal) (limit3 : AVal) (K : AVal → Heap → Prop) (s : Heap) : Prop :=
  ∃ I0 : List AVal → Heap → Nat → Prop, (∃ m, I0 [a1, b2, limit3, (.bool true), (.bool true)] s m) ∧ ∀ (f : Env) (s : Heap) (m0 : Nat), I0 [f 1, f 2, f 3, f 8, f 9] s m0 →
    vc_slices_pdqsortOrdered_api_IP__l0 X data0 (f 1) (f 2) (f 3) (f 8) (f 9) I0 m0 K s
def vc_slices_pdqsortOrdered_api_IP__ann : Nat → List Nat := fun k => cond (Nat.beq k 4) [1, 2, 3, 8, 9] ([])
theorem vc_slices_pdqsortOrdered_api_IP__eq (X : Told) (data0 : AVal) (a1 : AVal) (b2 : AVal) (limit3 : AVal) (K : AVal → Heap → Prop) (s : Heap) : wpC Tryd.prog X vc_slices_pdqsortOrdered_api_IP__ann Tryd.f58.ntmps none (bodyOf Tryd.f58) (envOf [data0, a1, b2, limit3]) (fun e env s => retK e (resK Tryd.prog Tryd.f58.results.toList env (fun vs => K (oneV vs) s) s)) s = vc_slices_pdqsortOrdered_api_IP_ X data0 a1 b2 limit3 K s := by kernel_rfl
theorem vc_slices_pdqsortOrdered_api_IP__ok {X : Told} (hX : FrX X) (hn : X 58 = none) {data0 : AVal} {a1 : AVal} {b2 : AVal} {limit3 : AVal} {K : AVal → Heap → Prop} {s : Heap} (h : vc_slices_pdqsortOrdered_api_IP_ X data0 a1 b2 limit3 K s) : wpCall Tryd.prog X 58 [data0, a1, b2, limit3] K s :=
  wpCall_code hX vc_slices_pdqsortOrdered_api_IP__ann hn Tryd.func58 (by kernel_rfl : Tryd.f58.body = some (bodyOf Tryd.f58)) (by kernel_rfl) ((vc_slices_pdqsortOrdered_api_IP__eq X data0 a1 b2 limit3 K s).mpr h)
theorem vc_slices_pdqsortOrdered_api_IP__in {data0 : AVal} {a1 : AVal} {b2 : AVal} {limit3 : AVal} {K : AVal → Heap → Prop} {s : Heap} (h : vc_slices_pdqsortOrdered_api_IP_ XX data0 a1 b2 limit3 K s) : wpCall Tryd.prog XX 58 [data0, a1, b2, limit3] K s := vc_slices_pdqsortOrdered_api_IP__ok XX_fr rfl h
/-- math/bits.Len (59) -/
def vc_math_bits_Len (X : Told) (x0 : AVal) (K : AVal → Heap → Prop) (s : Heap) : Prop :=
  boolK (.bool false)
   (optK (convI .u32 x0) fun v_0 =>
    wpCall Tryd.prog X 79 [v_0] (fun v_1 s_2 =>
    K v_1 s_2) s)
   (wpCall Tryd.prog X 80 [x0] (fun v_3 s_4 =>
    K v_3 s_4) s)
def vc_math_bits_Len_ann : Nat → List Nat := fun _ => []
theorem vc_math_bits_Len_eq (X : Told) (x0 : AVal) (K : AVal → Heap → Prop) (s : Heap) : wpC Tryd.prog X vc_math_bits_Len_ann Tryd.f59.ntmps none (bodyOf Tryd.f59) (envOf [x0]) (fun e env s => retK e (resK Tryd.prog Tryd.f59.results.toList env (fun vs => K (oneV vs) s) s)) s = vc_math_bits_Len X x0 K s := by kernel_rfl
theorem vc_math_bits_Len_ok {X : Told} (hX : FrX X) (hn : X 59 = none) {x0 : AVal} {K : AVal → Heap → Prop} {s : Heap} (h : vc_math_bits_Len X x0 K s) : wpCall Tryd.prog X 59 [x0] K s :=
  wpCall_code hX vc_math_bits_Len_ann hn Tryd.func59 (by kernel_rfl : Tryd.f59.body = some (bodyOf Tryd.f59)) (by kernel_rfl) ((vc_math_bits_Len_eq X x0 K s).mpr h)
theorem vc_math_bits_Len_in {x0 : AVal} {K : AVal → Heap → Prop} {s : Heap} (h : vc_math_bits_Len XX x0 K s) : wpCall Tryd.prog XX 59 [x0] K s := vc_math_bits_Len_ok XX_fr rfl h
/-- slices.insertionSortOrdered[leafmesh/api.IP] (70) -/
def vc_slices_insertionSortOrdered_api_IP__j2 (X : Told) (data0 : AVal) (i6 : AVal) (j7 : AVal) (t19 : AVal) (t29 : AVal) (I1 : List AVal → Heap → Nat → Prop) (m1 : Nat) (I0 : List AVal → Heap → Nat → Prop) (m0 : Nat) (K : AVal → Heap → Prop) (s : Heap) : Prop :=
  optK (pickV t19 t29 (.bool false)) fun v_3 =>
  boolK v_3
   (optK (arithV .sub j7 (.int .i64 1)) fun v_4 =>
    optK (arithV .sub j7 (.int .i64 1)) fun v_5 =>
    optK (iaddrS 1 data0 v_5) fun v_6 =>
    optK (rd1 s v_6) fun v_7 =>
    optK (iaddrS 1 data0 j7) fun v_8 =>
    optK (rd1 s v_8) fun v_9 =>
    optK (iaddrS 1 data0 j7) fun v_10 =>
    optK (wr1 s v_10 v_7) fun s_11 =>
    optK (iaddrS 1 data0 v_4) fun v_12 =>
    optK (wr1 s_11 v_12 v_9) fun s_13 =>
    optK (arithV .sub j7 (.int .i64 1)) fun v_14 =>
    ∃ m', m' < m1 ∧ I1 [v_14] s_13 m')
   (optK (arithV .add i6 (.int .i64 1)) fun v_15 =>
    ∃ m', m' < m0 ∧ I0 [v_15] s m')
def vc_slices_insertionSortOrdered_api_IP__l1 (X : Told) (data0 : AVal) (a1 : AVal) (i6 : AVal) (j7 : AVal) (I1 : List AVal → Heap → Nat → Prop) (m1 : Nat) (I0 : List AVal → Heap → Nat → Prop) (m0 : Nat) (K : AVal → Heap → Prop) (s : Heap) : Prop :=
  optK (arithV .gtr j7 a1) fun v_2 =>
  boolK v_2
   (optK (iaddrS 1 data0 j7) fun v_16 =>
    optK (rd1 s v_16) fun v_17 =>
    optK (arithV .sub j7 (.int .i64 1)) fun v_18 =>
    optK (iaddrS 1 data0 v_18) fun v_19 =>
    optK (rd1 s v_19) fun v_20 =>
    wpCall Tryd.prog X 76 [v_17, v_20] (fun v_21 s_22 =>
    vc_slices_insertionSortOrdered_api_IP__j2 X data0 i6 j7 v_2 v_21 I1 m1 I0 m0 K s_22) s)
   (vc_slices_insertionSortOrdered_api_IP__j2 X data0 i6 j7 v_2 .undef I1 m1 I0 m0 K s)
def vc_slices_insertionSortOrdered_api_IP__l0 (X : Told) (data0 : AVal) (a1 : AVal) (b2 : AVal) (i6 : AVal) (I0 : List AVal → Heap → Nat → Prop) (m0 : Nat) (K : AVal → Heap → Prop) (s : Heap) : Prop :=
  optK (arithV .lss i6 b2) fun v_1 =>
  boolK v_1
   (∃ I1 : List AVal → Heap → Nat → Prop, (∃ m, I1 [i6] s m) ∧ ∀ (f : Env) (s : Heap) (m1 : Nat), I1 [f 7] s m1 →
      vc_slices_insertionSortOrdered_api_IP__l1 X data0 a1 i6 (f 7) I1 m1 I0 m0 K s)
   (K (.tup []) s)
def vc_slices_insertionSortOrdered_api_IP_ (X : Told) (data0 : AVal) (a1 : AVal) (b2 : AVal) (K : AVal → Heap → Prop) (s : Heap) : Prop :=
  optK (arithV .add a1 (.int .i64 1)) fun v_0 =>
  ∃ I0 : List AVal → Heap → Nat → Prop, (∃ m, I0 [v_0] s m) ∧ ∀ (f : Env) (s : Heap) (m0 : Nat), I0 [f 6] s m0 →
    vc_slices_insertionSortOrdered_api_IP__l0 X data0 a1 b2 (f 6) I0 m0 K s
def vc_slices_insertionSortOrdered_api_IP__ann : Nat → List Nat := fun k => cond (Nat.beq k 2) [6] (cond (Nat.beq k 8) [7] ([]))
theorem vc_slices_insertionSortOrdered_api_IP__eq (X : Told) (data0 : AVal) (a1 : AVal) (b2 : AVal) (K : AVal → Heap → Prop) (s : Heap) : wpC Tryd.prog X vc_slices_insertionSortOrdered_api_IP__ann Tryd.f70.ntmps none (bodyOf Tryd.f70) (envOf [data0, a1, b2]) (fun e env s => retK e (resK Tryd.prog Tryd.f70.results.toList env (fun vs => K (oneV vs) s) s)) s = vc_slices_insertionSortOrdered_api_IP_ X data0 a1 b2 K s := by kernel_rfl
theorem vc_slices_insertionSortOrdered_api_IP__ok {X : Told} (hX : FrX X) (hn : X 70 = none) {data0 : AVal} {a1 : AVal} {b2 : AVal} {K : AVal → Heap → Prop} {s : Heap} (h : vc_slices_insertionSortOrdered_api_IP_ X data0 a1 b2 K s) : wpCall Tryd.prog X 70 [data0, a1, b2] K s :=
  wpCall_code hX vc_slices_insertionSortOrdered_api_IP__ann hn Tryd.func70 (by kernel_rfl : Tryd.f70.body = some (bodyOf Tryd.f70)) (by kernel_rfl) ((vc_slices_insertionSortOrdered_api_IP__eq X data0 a1 b2 K s).mpr h)
theorem vc_slices_insertionSortOrdered_api_IP__in {data0 : AVal} {a1 : AVal} {b2 : AVal} {K : AVal → Heap → Prop} {s : Heap} (h : vc_slices_insertionSortOrdered_api_IP_ XX data0 a1 b2 K s) : wpCall Tryd.prog XX 70 [data0, a1, b2] K s := vc_slices_insertionSortOrdered_api_IP__ok XX_fr rfl h
/-- slices.heapSortOrdered[leafmesh/api.IP] (71) -/
def vc_slices_heapSortOrdered_api_IP__l1 (X : Told) (data0 : AVal) (first6 : AVal) (lo7 : AVal) (i10 : AVal) (I1 : List AVal → Heap → Nat → Prop) (m1 : Nat) (K : AVal → Heap → Prop) (s : Heap) : Prop :=
  optK (arithV .geq i10 (.int .i64 0)) fun v_8 =>
  boolK v_8
   (optK (arithV .add first6 i10) fun v_9 =>
    optK (arithV .add first6 i10) fun v_10 =>
    optK (iaddrS 1 data0 v_10) fun v_11 =>
    optK (rd1 s v_11) fun v_12 =>
    optK (iaddrS 1 data0 first6) fun v_13 =>
    optK (rd1 s v_13) fun v_14 =>
    optK (iaddrS 1 data0 first6) fun v_15 =>
    optK (wr1 s v_15 v_12) fun s_16 =>
    optK (iaddrS 1 data0 v_9) fun v_17 =>
    optK (wr1 s_16 v_17 v_14) fun s_18 =>
    wpCall Tryd.prog X 85 [data0, lo7, i10, first6] (fun v_19 s_20 =>
    optK (arithV .sub i10 (.int .i64 1)) fun v_21 =>
    ∃ m', m' < m1 ∧ I1 [v_21] s_20 m') s_18)
   (K (.tup []) s)
def vc_slices_heapSortOrdered_api_IP__l0 (X : Told) (data0 : AVal) (first6 : AVal) (lo7 : AVal) (hi8 : AVal) (i9 : AVal) (I0 : List AVal → Heap → Nat → Prop) (m0 : Nat) (K : AVal → Heap → Prop) (s : Heap) : Prop :=
  optK (arithV .geq i9 (.int .i64 0)) fun v_3 =>
  boolK v_3
   (wpCall Tryd.prog X 85 [data0, i9, hi8, first6] (fun v_4 s_5 =>
    optK (arithV .sub i9 (.int .i64 1)) fun v_6 =>
    ∃ m', m' < m0 ∧ I0 [v_6] s_5 m') s)
   (optK (arithV .sub hi8 (.int .i64 1)) fun v_7 =>
    ∃ I1 : List AVal → Heap → Nat → Prop, (∃ m, I1 [v_7] s m) ∧ ∀ (f : Env) (s : Heap) (m1 : Nat), I1 [f 10] s m1 →
      vc_slices_heapSortOrdered_api_IP__l1 X data0 first6 lo7 (f 10) I1 m1 K s)
def vc_slices_heapSortOrdered_api_IP_ (X : Told) (data0 : AVal) (a1 : AVal) (b2 : AVal) (K : AVal → Heap → Prop) (s : Heap) : Prop :=
  optK (arithV .sub b2 a1) fun v_0 =>
  optK (arithV .sub v_0 (.int .i64 1)) fun v_1 =>
  optK (arithV .quo v_1 (.int .i64 2)) fun v_2 =>
  ∃ I0 : List AVal → Heap → Nat → Prop, (∃ m, I0 [v_2] s m) ∧ ∀ (f : Env) (s : Heap) (m0 : Nat), I0 [f 9] s m0 →
    vc_slices_heapSortOrdered_api_IP__l0 X data0 a1 (.int .i64 0) v_0 (f 9) I0 m0 K s
def vc_slices_heapSortOrdered_api_IP__ann : Nat → List Nat := fun k => cond (Nat.beq k 8) [9] (cond (Nat.beq k 16) [10] ([]))
theorem vc_slices_heapSortOrdered_api_IP__eq (X : Told) (data0 : AVal) (a1 : AVal) (b2 : AVal) (K : AVal → Heap → Prop) (s : Heap) : wpC Tryd.prog X vc_slices_heapSortOrdered_api_IP__ann Tryd.f71.ntmps none (bodyOf Tryd.f71) (envOf [data0, a1, b2]) (fun e env s => retK e (resK Tryd.prog Tryd.f71.results.toList env (fun vs => K (oneV vs) s) s)) s = vc_slices_heapSortOrdered_api_IP_ X data0 a1 b2 K s := by kernel_rfl
theorem vc_slices_heapSortOrdered_api_IP__ok {X : Told} (hX : FrX X) (hn : X 71 = none) {data0 : AVal} {a1 : AVal} {b2 : AVal} {K : AVal → Heap → Prop} {s : Heap} (h : vc_slices_heapSortOrdered_api_IP_ X data0 a1 b2 K s) : wpCall Tryd.prog X 71 [data0, a1, b2] K s :=
  wpCall_code hX vc_slices_heapSortOrdered_api_IP__ann hn Tryd.func71 (by kernel_rfl : Tryd.f71.body = some (bodyOf Tryd.f71)) (by kernel_rfl) ((vc_slices_heapSortOrdered_api_IP__eq X data0 a1 b2 K s).mpr h)
theorem vc_slices_heapSortOrdered_api_IP__in {data0 : AVal} {a1 : AVal} {b2 : AVal} {K : AVal → Heap → Prop} {s : Heap} (h : vc_slices_heapSortOrdered_api_IP_ XX data0 a1 b2 K s) : wpCall Tryd.prog XX 71 [data0, a1, b2] K s := vc_slices_heapSortOrdered_api_IP__ok XX_fr rfl h
/-- slices.breakPatternsOrdered[leafmesh/api.IP] (72) -/
def vc_slices_breakPatternsOrdered_api_IP__j1 (X : Told) (data0 : AVal) (a1 : AVal) (idx9 : AVal) (other10 : AVal) (I0 : List AVal → Heap → Nat → Prop) (m0 : Nat) (K : AVal → Heap → Prop) (s : Heap) : Prop :=
  optK (arithV .add a1 other10) fun v_23 =>
  optK (arithV .add a1 other10) fun v_24 =>
  optK (iaddrS 1 data0 v_24) fun v_25 =>
  optK (rd1 s v_25) fun v_26 =>
  optK (iaddrS 1 data0 idx9) fun v_27 =>
  optK (rd1 s v_27) fun v_28 =>
  optK (iaddrS 1 data0 idx9) fun v_29 =>
  optK (wr1 s v_29 v_26) fun s_30 =>
  optK (iaddrS 1 data0 v_23) fun v_31 =>
  optK (wr1 s_30 v_31 v_28) fun s_32 =>
  optK (arithV .add idx9 (.int .i64 1)) fun v_33 =>
  ∃ m', m' < m0 ∧ I0 [v_33] s_32 m'
def vc_slices_breakPatternsOrdered_api_IP__l0 (X : Told) (data0 : AVal) (a1 : AVal) (length6 : AVal) (random7 : AVal) (modulus8 : AVal) (idx9 : AVal) (I0 : List AVal → Heap → Nat → Prop) (m0 : Nat) (K : AVal → Heap → Prop) (s : Heap) : Prop :=
  optK (arithV .quo length6 (.int .i64 4)) fun v_12 =>
  optK (arithV .mul v_12 (.int .i64 2)) fun v_13 =>
  optK (arithV .add a1 v_13) fun v_14 =>
  optK (arithV .add v_14 (.int .i64 1)) fun v_15 =>
  optK (arithV .leq idx9 v_15) fun v_16 =>
  boolK v_16
   (wpCall Tryd.prog X 87 [random7] (fun v_17 s_18 =>
    optK (arithV .sub modulus8 (.int .u64 1)) fun v_19 =>
    optK (arithV .and v_17 v_19) fun v_20 =>
    optK (convI .i64 v_20) fun v_21 =>
    optK (arithV .geq v_21 length6) fun v_22 =>
    boolK v_22
     (optK (arithV .sub v_21 length6) fun v_34 =>
      vc_slices_breakPatternsOrdered_api_IP__j1 X data0 a1 idx9 v_34 I0 m0 K s_18)
     (vc_slices_breakPatternsOrdered_api_IP__j1 X data0 a1 idx9 v_21 I0 m0 K s_18)) s)
   (K (.tup []) s)
def vc_slices_breakPatternsOrdered_api_IP_ (X : Told) (data0 : AVal) (a1 : AVal) (b2 : AVal) (K : AVal → Heap → Prop) (s : Heap) : Prop :=
  optK (arithV .sub b2 a1) fun v_0 =>
  optK (arithV .geq v_0 (.int .i64 8)) fun v_1 =>
  boolK v_1
   (optK (convI .u64 v_0) fun v_2 =>
    newK 136 [(.int .u64 0)] (fun b_3 s_4 =>
    optK (wr1 s_4 (.ptr b_3 0) v_2) fun s_5 =>
    wpCall Tryd.prog X 86 [v_0] (fun v_6 s_7 =>
    optK (arithV .quo v_0 (.int .i64 4)) fun v_8 =>
    optK (arithV .mul v_8 (.int .i64 2)) fun v_9 =>
    optK (arithV .add a1 v_9) fun v_10 =>
    optK (arithV .sub v_10 (.int .i64 1)) fun v_11 =>
    ∃ I0 : List AVal → Heap → Nat → Prop, (∃ m, I0 [v_11] s_7 m) ∧ ∀ (f : Env) (s : Heap) (m0 : Nat), I0 [f 9] s m0 →
      vc_slices_breakPatternsOrdered_api_IP__l0 X data0 a1 v_0 (.ptr b_3 0) v_6 (f 9) I0 m0 K s) s_5) s)
   (K (.tup []) s)
def vc_slices_breakPatternsOrdered_api_IP__ann : Nat → List Nat := fun k => cond (Nat.beq k 10) [9] ([])
theorem vc_slices_breakPatternsOrdered_api_IP__eq (X : Told) (data0 : AVal) (a1 : AVal) (b2 : AVal) (K : AVal → Heap → Prop) (s : Heap) : wpC Tryd.prog X vc_slices_breakPatternsOrdered_api_IP__ann Tryd.f72.ntmps none (bodyOf Tryd.f72) (envOf [data0, a1, b2]) (fun e env s => retK e (resK Tryd.prog Tryd.f72.results.toList env (fun vs => K (oneV vs) s) s)) s = vc_slices_breakPatternsOrdered_api_IP_ X data0 a1 b2 K s := by kernel_rfl
theorem vc_slices_breakPatternsOrdered_api_IP__ok {X : Told} (hX : FrX X) (hn : X 72 = none) {data0 : AVal} {a1 : AVal} {b2 : AVal} {K : AVal → Heap → Prop} {s : Heap} (h : vc_slices_breakPatternsOrdered_api_IP_ X data0 a1 b2 K s) : wpCall Tryd.prog X 72 [data0, a1, b2] K s :=
  wpCall_code hX vc_slices_breakPatternsOrdered_api_IP__ann hn Tryd.func72 (by kernel_rfl : Tryd.f72.body = some (bodyOf Tryd.f72)) (by kernel_rfl) ((vc_slices_breakPatternsOrdered_api_IP__eq X data0 a1 b2 K s).mpr h)
theorem vc_slices_breakPatternsOrdered_api_IP__in {data0 : AVal} {a1 : AVal} {b2 : AVal} {K : AVal → Heap → Prop} {s : Heap} (h : vc_slices_breakPatternsOrdered_api_IP_ XX data0 a1 b2 K s) : wpCall Tryd.prog XX 72 [data0, a1, b2] K s := vc_slices_breakPatternsOrdered_api_IP__ok XX_fr rfl h
/-- slices.choosePivotOrdered[leafmesh/api.IP] (73) -/
def vc_slices_choosePivotOrdered_api_IP__j0 (X : Told) (swaps9 : AVal) (j11 : AVal) (K : AVal → Heap → Prop) (s : Heap) : Prop :=
  optK (rd1 s swaps9) fun v_13 =>
  optK (negB false (eqV 0 true v_13 (.int .i64 0))) fun v_14 =>
  boolK v_14
   (K (.tup [j11, (.int .i64 1)]) s)
   (optK (negB false (eqV 0 true v_13 (.int .i64 12))) fun v_15 =>
    boolK v_15
     (K (.tup [j11, (.int .i64 2)]) s)
     (K (.tup [j11, (.int .i64 0)]) s))
def vc_slices_choosePivotOrdered_api_IP__j1 (X : Told) (data0 : AVal) (swaps9 : AVal) (i10 : AVal) (j11 : AVal) (k12 : AVal) (K : AVal → Heap → Prop) (s : Heap) : Prop :=
  wpCall Tryd.prog X 89 [data0, i10, j11, k12, swaps9] (fun v_17 s_18 =>
  vc_slices_choosePivotOrdered_api_IP__j0 X swaps9 v_17 K s_18) s
def vc_slices_choosePivotOrdered_api_IP_ (X : Told) (data0 : AVal) (a1 : AVal) (b2 : AVal) (K : AVal → Heap → Prop) (s : Heap) : Prop :=
  optK (arithV .sub b2 a1) fun v_0 =>
  newK 3 [(.int .i64 0)] (fun b_1 s_2 =>
  optK (arithV .quo v_0 (.int .i64 4)) fun v_3 =>
  optK (arithV .mul v_3 (.int .i64 1)) fun v_4 =>
  optK (arithV .add a1 v_4) fun v_5 =>
  optK (arithV .quo v_0 (.int .i64 4)) fun v_6 =>
  optK (arithV .mul v_6 (.int .i64 2)) fun v_7 =>
  optK (arithV .add a1 v_7) fun v_8 =>
  optK (arithV .quo v_0 (.int .i64 4)) fun v_9 =>
  optK (arithV .mul v_9 (.int .i64 3)) fun v_10 =>
  optK (arithV .add a1 v_10) fun v_11 =>
  optK (arithV .geq v_0 (.int .i64 8)) fun v_12 =>
  boolK v_12
   (optK (arithV .geq v_0 (.int .i64 50)) fun v_16 =>
    boolK v_16
     (wpCall Tryd.prog X 88 [data0, v_5, (.ptr b_1 0)] (fun v_19 s_20 =>
      wpCall Tryd.prog X 88 [data0, v_8, (.ptr b_1 0)] (fun v_21 s_22 =>
      wpCall Tryd.prog X 88 [data0, v_11, (.ptr b_1 0)] (fun v_23 s_24 =>
      vc_slices_choosePivotOrdered_api_IP__j1 X data0 (.ptr b_1 0) v_19 v_21 v_23 K s_24) s_22) s_20) s_2)
     (vc_slices_choosePivotOrdered_api_IP__j1 X data0 (.ptr b_1 0) v_5 v_8 v_11 K s_2))
   (vc_slices_choosePivotOrdered_api_IP__j0 X (.ptr b_1 0) v_8 K s_2)) s
def vc_slices_choosePivotOrdered_api_IP__ann : Nat → List Nat := fun _ => []
theorem vc_slices_choosePivotOrdered_api_IP__eq (X : Told) (data0 : AVal) (a1 : AVal) (b2 : AVal) (K : AVal → Heap → Prop) (s : Heap) : wpC Tryd.prog X vc_slices_choosePivotOrdered_api_IP__ann Tryd.f73.ntmps none (bodyOf Tryd.f73) (envOf [data0, a1, b2]) (fun e env s => retK e (resK Tryd.prog Tryd.f73.results.toList env (fun vs => K (oneV vs) s) s)) s = vc_slices_choosePivotOrdered_api_IP_ X data0 a1 b2 K s := by kernel_rfl
theorem vc_slices_choosePivotOrdered_api_IP__ok {X : Told} (hX : FrX X) (hn : X 73 = none) {data0 : AVal} {a1 : AVal} {b2 : AVal} {K : AVal → Heap → Prop} {s : Heap} (h : vc_slices_choosePivotOrdered_api_IP_ X data0 a1 b2 K s) : wpCall Tryd.prog X 73 [data0, a1, b2] K s :=
  wpCall_code hX vc_slices_choosePivotOrdered_api_IP__ann hn Tryd.func73 (by kernel_rfl : Tryd.f73.body = some (bodyOf Tryd.f73)) (by kernel_rfl) ((vc_slices_choosePivotOrdered_api_IP__eq X data0 a1 b2 K s).mpr h)
theorem vc_slices_choosePivotOrdered_api_IP__in {data0 : AVal} {a1 : AVal} {b2 : AVal} {K : AVal → Heap → Prop} {s : Heap} (h : vc_slices_choosePivotOrdered_api_IP_ XX data0 a1 b2 K s) : wpCall Tryd.prog XX 73 [data0, a1, b2] K s := vc_slices_choosePivotOrdered_api_IP__ok XX_fr rfl h
/-- slices.reverseRangeOrdered[leafmesh/api.IP] (74) -/
def vc_slices_reverseRangeOrdered_api_IP__l0 (X : Told) (data0 : AVal) (i6 : AVal) (j7 : AVal) (I0 : List AVal → Heap → Nat → Prop) (m0 : Nat) (K : AVal → Heap → Prop) (s : Heap) : Prop :=
  optK (arithV .lss i6 j7) fun v_1 =>
  boolK v_1
   (optK (iaddrS 1 data0 j7) fun v_2 =>
    optK (rd1 s v_2) fun v_3 =>
    optK (iaddrS 1 data0 i6) fun v_4 =>
    optK (rd1 s v_4) fun v_5 =>
    optK (iaddrS 1 data0 i6) fun v_6 =>
    optK (wr1 s v_6 v_3) fun s_7 =>
    optK (iaddrS 1 data0 j7) fun v_8 =>
    optK (wr1 s_7 v_8 v_5) fun s_9 =>
    optK (arithV .add i6 (.int .i64 1)) fun v_10 =>
    optK (arithV .sub j7 (.int .i64 1)) fun v_11 =>
    ∃ m', m' < m0 ∧ I0 [v_10, v_11] s_9 m')
   (K (.tup []) s)
def vc_slices_reverseRangeOrdered_api_IP_ (X : Told) (data0 : AVal) (a1 : AVal) (b2 : AVal) (K : AVal → Heap → Prop) (s : Heap) : Prop :=
  optK (arithV .sub b2 (.int .i64 1)) fun v_0 =>
  ∃ I0 : List AVal → Heap → Nat → Prop, (∃ m, I0 [a1, v_0] s m) ∧ ∀ (f : Env) (s : Heap) (m0 : Nat), I0 [f 6, f 7] s m0 →
    vc_slices_reverseRangeOrdered_api_IP__l0 X data0 (f 6) (f 7) I0 m0 K s
def vc_slices_reverseRangeOrdered_api_IP__ann : Nat → List Nat := fun k => cond (Nat.beq k 4) [6, 7] ([])
theorem vc_slices_reverseRangeOrdered_api_IP__eq (X : Told) (data0 : AVal) (a1 : AVal) (b2 : AVal) (K : AVal → Heap → Prop) (s : Heap) : wpC Tryd.prog X vc_slices_reverseRangeOrdered_api_IP__ann Tryd.f74.ntmps none (bodyOf Tryd.f74) (envOf [data0, a1, b2]) (fun e env s => retK e (resK Tryd.prog Tryd.f74.results.toList env (fun vs => K (oneV vs) s) s)) s = vc_slices_reverseRangeOrdered_api_IP_ X data0 a1 b2 K s := by kernel_rfl
theorem vc_slices_reverseRangeOrdered_api_IP__ok {X : Told} (hX : FrX X) (hn : X 74 = none) {data0 : AVal} {a1 : AVal} {b2 : AVal} {K : AVal → Heap → Prop} {s : Heap} (h : vc_slices_reverseRangeOrdered_api_IP_ X data0 a1 b2 K s) : wpCall Tryd.prog X 74 [data0, a1, b2] K s :=
  wpCall_code hX vc_slices_reverseRangeOrdered_api_IP__ann hn Tryd.func74 (by kernel_rfl : Tryd.f74.body = some (bodyOf Tryd.f74)) (by kernel_rfl) ((vc_slices_reverseRangeOrdered_api_IP__eq X data0 a1 b2 K s).mpr h)
theorem vc_slices_reverseRangeOrdered_api_IP__in {data0 : AVal} {a1 : AVal} {b2 : AVal} {K : AVal → Heap → Prop} {s : Heap} (h : vc_slices_reverseRangeOrdered_api_IP_ XX data0 a1 b2 K s) : wpCall Tryd.prog XX 74 [data0, a1, b2] K s := vc_slices_reverseRangeOrdered_api_IP__ok XX_fr rfl h
/-- slices.partialInsertionSortOrdered[leafmesh/api.IP] (75) -/
def vc_slices_partialInsertionSortOrdered_api_IP__j4 (X : Told) (i7 : AVal) (j8 : AVal) (I0 : List AVal → Heap → Nat → Prop) (m0 : Nat) (K : AVal → Heap → Prop) (s : Heap) : Prop :=
  optK (arithV .add j8 (.int .i64 1)) fun v_22 =>
  ∃ m', m' < m0 ∧ I0 [i7, v_22] s m'
def vc_slices_partialInsertionSortOrdered_api_IP__l5 (X : Told) (data0 : AVal) (b2 : AVal) (i7 : AVal) (j8 : AVal) (j10 : AVal) (I5 : List AVal → Heap → Nat → Prop) (m5 : Nat) (I0 : List AVal → Heap → Nat → Prop) (m0 : Nat) (K : AVal → Heap → Prop) (s : Heap) : Prop :=
  optK (arithV .lss j10 b2) fun v_24 =>
  boolK v_24
   (optK (iaddrS 1 data0 j10) fun v_25 =>
    optK (rd1 s v_25) fun v_26 =>
    optK (arithV .sub j10 (.int .i64 1)) fun v_27 =>
    optK (iaddrS 1 data0 v_27) fun v_28 =>
    optK (rd1 s v_28) fun v_29 =>
    wpCall Tryd.prog X 76 [v_26, v_29] (fun v_30 s_31 =>
    optK (unaryA .not v_30) fun v_32 =>
    boolK v_32
     (vc_slices_partialInsertionSortOrdered_api_IP__j4 X i7 j8 I0 m0 K s_31)
     (optK (arithV .sub j10 (.int .i64 1)) fun v_33 =>
      optK (arithV .sub j10 (.int .i64 1)) fun v_34 =>
      optK (iaddrS 1 data0 v_34) fun v_35 =>
      optK (rd1 s_31 v_35) fun v_36 =>
      optK (iaddrS 1 data0 j10) fun v_37 =>
      optK (rd1 s_31 v_37) fun v_38 =>
      optK (iaddrS 1 data0 j10) fun v_39 =>
      optK (wr1 s_31 v_39 v_36) fun s_40 =>
      optK (iaddrS 1 data0 v_33) fun v_41 =>
      optK (wr1 s_40 v_41 v_38) fun s_42 =>
      optK (arithV .add j10 (.int .i64 1)) fun v_43 =>
      ∃ m', m' < m5 ∧ I5 [v_43] s_42 m')) s)
   (vc_slices_partialInsertionSortOrdered_api_IP__j4 X i7 j8 I0 m0 K s)
def vc_slices_partialInsertionSortOrdered_api_IP__j3 (X : Told) (data0 : AVal) (b2 : AVal) (i7 : AVal) (j8 : AVal) (I0 : List AVal → Heap → Nat → Prop) (m0 : Nat) (K : AVal → Heap → Prop) (s : Heap) : Prop :=
  optK (arithV .sub b2 i7) fun v_20 =>
  optK (arithV .geq v_20 (.int .i64 2)) fun v_21 =>
  boolK v_21
   (optK (arithV .add i7 (.int .i64 1)) fun v_23 =>
    ∃ I5 : List AVal → Heap → Nat → Prop, (∃ m, I5 [v_23] s m) ∧ ∀ (f : Env) (s : Heap) (m5 : Nat), I5 [f 10] s m5 →
      vc_slices_partialInsertionSortOrdered_api_IP__l5 X data0 b2 i7 j8 (f 10) I5 m5 I0 m0 K s)
   (vc_slices_partialInsertionSortOrdered_api_IP__j4 X i7 j8 I0 m0 K s)
def vc_slices_partialInsertionSortOrdered_api_IP__l6 (X : Told) (data0 : AVal) (b2 : AVal) (i7 : AVal) (j8 : AVal) (j9 : AVal) (I6 : List AVal → Heap → Nat → Prop) (m6 : Nat) (I0 : List AVal → Heap → Nat → Prop) (m0 : Nat) (K : AVal → Heap → Prop) (s : Heap) : Prop :=
  optK (arithV .geq j9 (.int .i64 1)) fun v_45 =>
  boolK v_45
   (optK (iaddrS 1 data0 j9) fun v_46 =>
    optK (rd1 s v_46) fun v_47 =>
    optK (arithV .sub j9 (.int .i64 1)) fun v_48 =>
    optK (iaddrS 1 data0 v_48) fun v_49 =>
    optK (rd1 s v_49) fun v_50 =>
    wpCall Tryd.prog X 76 [v_47, v_50] (fun v_51 s_52 =>
    optK (unaryA .not v_51) fun v_53 =>
    boolK v_53
     (vc_slices_partialInsertionSortOrdered_api_IP__j3 X data0 b2 i7 j8 I0 m0 K s_52)
     (optK (arithV .sub j9 (.int .i64 1)) fun v_54 =>
      optK (arithV .sub j9 (.int .i64 1)) fun v_55 =>
      optK (iaddrS 1 data0 v_55) fun v_56 =>
      optK (rd1 s_52 v_56) fun v_57 =>
      optK (iaddrS 1 data0 j9) fun v_58 =>
      optK (rd1 s_52 v_58) fun v_59 =>
      optK (iaddrS 1 data0 j9) fun v_60 =>
      optK (wr1 s_52 v_60 v_57) fun s_61 =>
      optK (iaddrS 1 data0 v_54) fun v_62 =>
      optK (wr1 s_61 v_62 v_59) fun s_63 =>
      optK (arithV .sub j9 (.int .i64 1)) fun v_64 =>
      ∃ m', m' < m6 ∧ I6 [v_64] s_63 m')) s)
   (vc_slices_partialInsertionSortOrdered_api_IP__j3 X data0 b2 i7 j8 I0 m0 K s)
def vc_slices_partialInsertionSortOrdered_api_IP__j2 (X : Told) (data0 : AVal) (a1 : AVal) (b2 : AVal) (i7 : AVal) (j8 : AVal) (t20 : AVal) (t31 : AVal) (I1 : List AVal → Heap → Nat → Prop) (m1 : Nat) (I0 : List AVal → Heap → Nat → Prop) (m0 : Nat) (K : AVal → Heap → Prop) (s : Heap) : Prop :=
  optK (pickV t20 t31 (.bool false)) fun v_3 =>
  boolK v_3
   (optK (arithV .add i7 (.int .i64 1)) fun v_4 =>
    ∃ m', m' < m1 ∧ I1 [v_4] s m')
   (optK (negB false (eqV 0 false i7 b2)) fun v_5 =>
    boolK v_5
     (K (.bool true) s)
     (optK (arithV .sub b2 a1) fun v_6 =>
      optK (arithV .lss v_6 (.int .i64 50)) fun v_7 =>
      boolK v_7
       (K (.bool false) s)
       (optK (arithV .sub i7 (.int .i64 1)) fun v_8 =>
        optK (arithV .sub i7 (.int .i64 1)) fun v_9 =>
        optK (iaddrS 1 data0 v_9) fun v_10 =>
        optK (rd1 s v_10) fun v_11 =>
        optK (iaddrS 1 data0 i7) fun v_12 =>
        optK (rd1 s v_12) fun v_13 =>
        optK (iaddrS 1 data0 i7) fun v_14 =>
        optK (wr1 s v_14 v_11) fun s_15 =>
        optK (iaddrS 1 data0 v_8) fun v_16 =>
        optK (wr1 s_15 v_16 v_13) fun s_17 =>
        optK (arithV .sub i7 a1) fun v_18 =>
        optK (arithV .geq v_18 (.int .i64 2)) fun v_19 =>
        boolK v_19
         (optK (arithV .sub i7 (.int .i64 1)) fun v_44 =>
          ∃ I6 : List AVal → Heap → Nat → Prop, (∃ m, I6 [v_44] s_17 m) ∧ ∀ (f : Env) (s : Heap) (m6 : Nat), I6 [f 9] s m6 →
            vc_slices_partialInsertionSortOrdered_api_IP__l6 X data0 b2 i7 j8 (f 9) I6 m6 I0 m0 K s)
         (vc_slices_partialInsertionSortOrdered_api_IP__j3 X data0 b2 i7 j8 I0 m0 K s_17))))
def vc_slices_partialInsertionSortOrdered_api_IP__l1 (X : Told) (data0 : AVal) (a1 : AVal) (b2 : AVal) (i7 : AVal) (j8 : AVal) (I1 : List AVal → Heap → Nat → Prop) (m1 : Nat) (I0 : List AVal → Heap → Nat → Prop) (m0 : Nat) (K : AVal → Heap → Prop) (s : Heap) : Prop :=
  optK (arithV .lss i7 b2) fun v_2 =>
  boolK v_2
   (optK (iaddrS 1 data0 i7) fun v_65 =>
    optK (rd1 s v_65) fun v_66 =>
    optK (arithV .sub i7 (.int .i64 1)) fun v_67 =>
    optK (iaddrS 1 data0 v_67) fun v_68 =>
    optK (rd1 s v_68) fun v_69 =>
    wpCall Tryd.prog X 76 [v_66, v_69] (fun v_70 s_71 =>
    optK (unaryA .not v_70) fun v_72 =>
    vc_slices_partialInsertionSortOrdered_api_IP__j2 X data0 a1 b2 i7 j8 v_2 v_72 I1 m1 I0 m0 K s_71) s)
   (vc_slices_partialInsertionSortOrdered_api_IP__j2 X data0 a1 b2 i7 j8 v_2 .undef I1 m1 I0 m0 K s)
def vc_slices_partialInsertionSortOrdered_api_IP__l0 (X : Told) (data0 : AVal) (a1 : AVal) (b2 : AVal) (i7 : AVal) (j8 : AVal) (I0 : List AVal → Heap → Nat → Prop) (m0 : Nat) (K : AVal → Heap → Prop) (s : Heap) : Prop :=
  optK (arithV .lss j8 (.int .i64 5)) fun v_1 =>
  boolK v_1
   (∃ I1 : List AVal → Heap → Nat → Prop, (∃ m, I1 [i7] s m) ∧ ∀ (f : Env) (s : Heap) (m1 : Nat), I1 [f 7] s m1 →
      vc_slices_partialInsertionSortOrdered_api_IP__l1 X data0 a1 b2 (f 7) j8 I1 m1 I0 m0 K s)
   (K (.bool false) s)
def vc_slices_partialInsertionSortOrdered_api_IP_ (X : Told) (data0 : AVal) (a1 : AVal) (b2 : AVal) (K : AVal → Heap → Prop) (s : Heap) : Prop :=
  optK (arithV .add a1 (.int .i64 1)) fun v_0 =>
  ∃ I0 : List AVal → Heap → Nat → Prop, (∃ m, I0 [v_0, (.int .i64 0)] s m) ∧ ∀ (f : Env) (s : Heap) (m0 : Nat), I0 [f 7, f 8] s m0 →
    vc_slices_partialInsertionSortOrdered_api_IP__l0 X data0 a1 b2 (f 7) (f 8) I0 m0 K s
def vc_slices_partialInsertionSortOrdered_api_IP__ann : Nat → List Nat := fun k => cond (Nat.beq k 6) [7, 8] (cond (Nat.beq k 10) [7] (cond (Nat.beq k 40) [10] (cond (Nat.beq k 28) [9] ([]))))
theorem vc_slices_partialInsertionSortOrdered_api_IP__eq (X : Told) (data0 : AVal) (a1 : AVal) (b2 : AVal) (K : AVal → Heap → Prop) (s : Heap) : wpC Tryd.prog X vc_slices_partialInsertionSortOrdered_api_IP__ann Tryd.f75.ntmps none (bodyOf Tryd.f75) (envOf [data0, a1, b2]) (fun e env s => retK e (resK Tryd.prog Tryd.f75.results.toList env (fun vs => K (oneV vs) s) s)) s = vc_slices_partialInsertionSortOrdered_api_IP_ X data0 a1 b2 K s := by kernel_rfl
theorem vc_slices_partialInsertionSortOrdered_api_IP__ok {X : Told} (hX : FrX X) (hn : X 75 = none) {data0 : AVal} {a1 : AVal} {b2 : AVal} {K : AVal → Heap → Prop} {s : Heap} (h : vc_slices_partialInsertionSortOrdered_api_IP_ X data0 a1 b2 K s) : wpCall Tryd.prog X 75 [data0, a1, b2] K s :=
  wpCall_code hX vc_slices_partialInsertionSortOrdered_api_IP__ann hn Tryd.func75 (by kernel_rfl : Tryd.f75.body = some (bodyOf Tryd.f75)) (by kernel_rfl) ((vc_slices_partialInsertionSortOrdered_api_IP__eq X data0 a1 b2 K s).mpr h)
theorem vc_slices_partialInsertionSortOrdered_api_IP__in {data0 : AVal} {a1 : AVal} {b2 : AVal} {K : AVal → Heap → Prop} {s : Heap} (h : vc_slices_partialInsertionSortOrdered_api_IP_ XX data0 a1 b2 K s) : wpCall Tryd.prog XX 75 [data0, a1, b2] K s := vc_slices_partialInsertionSortOrdered_api_IP__ok XX_fr rfl h
/-- cmp.Less[leafmesh/api.IP] (76) -/
def vc_cmp_Less_api_IP__j1 (X : Told) (t12 : AVal) (t15 : AVal) (K : AVal → Heap → Prop) (s : Heap) : Prop :=
  optK (pickV t12 (.bool true) t15) fun v_3 =>
  K v_3 s
def vc_cmp_Less_api_IP__j0 (X : Told) (x0 : AVal) (y1 : AVal) (t7 : AVal) (t10 : AVal) (K : AVal → Heap → Prop) (s : Heap) : Prop :=
  optK (pickV t7 t10 (.bool false)) fun v_2 =>
  boolK v_2
   (vc_cmp_Less_api_IP__j1 X v_2 .undef K s)
   (optK (arithV .lss x0 y1) fun v_4 =>
    vc_cmp_Less_api_IP__j1 X v_2 v_4 K s)
def vc_cmp_Less_api_IP_ (X : Told) (x0 : AVal) (y1 : AVal) (K : AVal → Heap → Prop) (s : Heap) : Prop :=
  wpCall Tryd.prog X 49 [x0] (fun v_0 s_1 =>
  boolK v_0
   (wpCall Tryd.prog X 49 [y1] (fun v_5 s_6 =>
    optK (unaryA .not v_5) fun v_7 =>
    vc_cmp_Less_api_IP__j0 X x0 y1 v_0 v_7 K s_6) s_1)
   (vc_cmp_Less_api_IP__j0 X x0 y1 v_0 .undef K s_1)) s
def vc_cmp_Less_api_IP__ann : Nat → List Nat := fun _ => []
theorem vc_cmp_Less_api_IP__eq (X : Told) (x0 : AVal) (y1 : AVal) (K : AVal → Heap → Prop) (s : Heap) : wpC Tryd.prog X vc_cmp_Less_api_IP__ann Tryd.f76.ntmps none (bodyOf Tryd.f76) (envOf [x0, y1]) (fun e env s => retK e (resK Tryd.prog Tryd.f76.results.toList env (fun vs => K (oneV vs) s) s)) s = vc_cmp_Less_api_IP_ X x0 y1 K s := by kernel_rfl
theorem vc_cmp_Less_api_IP__ok {X : Told} (hX : FrX X) (hn : X 76 = none) {x0 : AVal} {y1 : AVal} {K : AVal → Heap → Prop} {s : Heap} (h : vc_cmp_Less_api_IP_ X x0 y1 K s) : wpCall Tryd.prog X 76 [x0, y1] K s :=
  wpCall_code hX vc_cmp_Less_api_IP__ann hn Tryd.func76 (by kernel_rfl : Tryd.f76.body = some (bodyOf Tryd.f76)) (by kernel_rfl) ((vc_cmp_Less_api_IP__eq X x0 y1 K s).mpr h)
theorem vc_cmp_Less_api_IP__in {x0 : AVal} {y1 : AVal} {K : AVal → Heap → Prop} {s : Heap} (h : vc_cmp_Less_api_IP_ XX x0 y1 K s) : wpCall Tryd.prog XX 76 [x0, y1] K s := vc_cmp_Less_api_IP__ok XX_fr rfl h
/-- slices.partitionEqualOrdered[leafmesh/api.IP] (77) -/
def vc_slices_partitionEqualOrdered_api_IP__j4 (X : Told) (data0 : AVal) (i9 : AVal) (j10 : AVal) (t49 : AVal) (t58 : AVal) (I3 : List AVal → Heap → Nat → Prop) (m3 : Nat) (I0 : List AVal → Heap → Nat → Prop) (m0 : Nat) (K : AVal → Heap → Prop) (s : Heap) : Prop :=
  optK (pickV t49 t58 (.bool false)) fun v_14 =>
  boolK v_14
   (optK (arithV .sub j10 (.int .i64 1)) fun v_15 =>
    ∃ m', m' < m3 ∧ I3 [v_15] s m')
   (optK (arithV .gtr i9 j10) fun v_16 =>
    boolK v_16
     (K i9 s)
     (optK (iaddrS 1 data0 j10) fun v_17 =>
      optK (rd1 s v_17) fun v_18 =>
      optK (iaddrS 1 data0 i9) fun v_19 =>
      optK (rd1 s v_19) fun v_20 =>
      optK (iaddrS 1 data0 i9) fun v_21 =>
      optK (wr1 s v_21 v_18) fun s_22 =>
      optK (iaddrS 1 data0 j10) fun v_23 =>
      optK (wr1 s_22 v_23 v_20) fun s_24 =>
      optK (arithV .add i9 (.int .i64 1)) fun v_25 =>
      optK (arithV .sub j10 (.int .i64 1)) fun v_26 =>
      ∃ m', m' < m0 ∧ I0 [v_25, v_26] s_24 m'))
def vc_slices_partitionEqualOrdered_api_IP__l3 (X : Told) (data0 : AVal) (a1 : AVal) (i9 : AVal) (j10 : AVal) (I3 : List AVal → Heap → Nat → Prop) (m3 : Nat) (I0 : List AVal → Heap → Nat → Prop) (m0 : Nat) (K : AVal → Heap → Prop) (s : Heap) : Prop :=
  optK (arithV .leq i9 j10) fun v_13 =>
  boolK v_13
   (optK (iaddrS 1 data0 a1) fun v_27 =>
    optK (rd1 s v_27) fun v_28 =>
    optK (iaddrS 1 data0 j10) fun v_29 =>
    optK (rd1 s v_29) fun v_30 =>
    wpCall Tryd.prog X 76 [v_28, v_30] (fun v_31 s_32 =>
    vc_slices_partitionEqualOrdered_api_IP__j4 X data0 i9 j10 v_13 v_31 I3 m3 I0 m0 K s_32) s)
   (vc_slices_partitionEqualOrdered_api_IP__j4 X data0 i9 j10 v_13 .undef I3 m3 I0 m0 K s)
def vc_slices_partitionEqualOrdered_api_IP__j2 (X : Told) (data0 : AVal) (a1 : AVal) (i9 : AVal) (j10 : AVal) (t32 : AVal) (t42 : AVal) (I1 : List AVal → Heap → Nat → Prop) (m1 : Nat) (I0 : List AVal → Heap → Nat → Prop) (m0 : Nat) (K : AVal → Heap → Prop) (s : Heap) : Prop :=
  optK (pickV t32 t42 (.bool false)) fun v_11 =>
  boolK v_11
   (optK (arithV .add i9 (.int .i64 1)) fun v_12 =>
    ∃ m', m' < m1 ∧ I1 [v_12, j10] s m')
   (∃ I3 : List AVal → Heap → Nat → Prop, (∃ m, I3 [j10] s m) ∧ ∀ (f : Env) (s : Heap) (m3 : Nat), I3 [f 10] s m3 →
      vc_slices_partitionEqualOrdered_api_IP__l3 X data0 a1 i9 (f 10) I3 m3 I0 m0 K s)
def vc_slices_partitionEqualOrdered_api_IP__l1 (X : Told) (data0 : AVal) (a1 : AVal) (i9 : AVal) (j10 : AVal) (I1 : List AVal → Heap → Nat → Prop) (m1 : Nat) (I0 : List AVal → Heap → Nat → Prop) (m0 : Nat) (K : AVal → Heap → Prop) (s : Heap) : Prop :=
  optK (arithV .leq i9 j10) fun v_10 =>
  boolK v_10
   (optK (iaddrS 1 data0 a1) fun v_33 =>
    optK (rd1 s v_33) fun v_34 =>
    optK (iaddrS 1 data0 i9) fun v_35 =>
    optK (rd1 s v_35) fun v_36 =>
    wpCall Tryd.prog X 76 [v_34, v_36] (fun v_37 s_38 =>
    optK (unaryA .not v_37) fun v_39 =>
    vc_slices_partitionEqualOrdered_api_IP__j2 X data0 a1 i9 j10 v_10 v_39 I1 m1 I0 m0 K s_38) s)
   (vc_slices_partitionEqualOrdered_api_IP__j2 X data0 a1 i9 j10 v_10 .undef I1 m1 I0 m0 K s)
def vc_slices_partitionEqualOrdered_api_IP__l0 (X : Told) (data0 : AVal) (a1 : AVal) (i9 : AVal) (j10 : AVal) (I0 : List AVal → Heap → Nat → Prop) (m0 : Nat) (K : AVal → Heap → Prop) (s : Heap) : Prop :=
  ∃ I1 : List AVal → Heap → Nat → Prop, (∃ m, I1 [i9, j10] s m) ∧ ∀ (f : Env) (s : Heap) (m1 : Nat), I1 [f 9, f 10] s m1 →
    vc_slices_partitionEqualOrdered_api_IP__l1 X data0 a1 (f 9) j10 I1 m1 I0 m0 K s
def vc_slices_partitionEqualOrdered_api_IP_ (X : Told) (data0 : AVal) (a1 : AVal) (b2 : AVal) (pivot3 : AVal) (K : AVal → Heap → Prop) (s : Heap) : Prop :=
  optK (iaddrS 1 data0 pivot3) fun v_0 =>
  optK (rd1 s v_0) fun v_1 =>
  optK (iaddrS 1 data0 a1) fun v_2 =>
  optK (rd1 s v_2) fun v_3 =>
  optK (iaddrS 1 data0 a1) fun v_4 =>
  optK (wr1 s v_4 v_1) fun s_5 =>
  optK (iaddrS 1 data0 pivot3) fun v_6 =>
  optK (wr1 s_5 v_6 v_3) fun s_7 =>
  optK (arithV .add a1 (.int .i64 1)) fun v_8 =>
  optK (arithV .sub b2 (.int .i64 1)) fun v_9 =>
  ∃ I0 : List AVal → Heap → Nat → Prop, (∃ m, I0 [v_8, v_9] s_7 m) ∧ ∀ (f : Env) (s : Heap) (m0 : Nat), I0 [f 9, f 10] s m0 →
    vc_slices_partitionEqualOrdered_api_IP__l0 X data0 a1 (f 9) (f 10) I0 m0 K s
def vc_slices_partitionEqualOrdered_api_IP__ann : Nat → List Nat := fun k => cond (Nat.beq k 6) [9, 10] (cond (Nat.beq k 10) [10] ([]))
theorem vc_slices_partitionEqualOrdered_api_IP__eq (X : Told) (data0 : AVal) (a1 : AVal) (b2 : AVal) (pivot3 : AVal) (K : AVal → Heap → Prop) (s : Heap) : wpC Tryd.prog X vc_slices_partitionEqualOrdered_api_IP__ann Tryd.f77.ntmps none (bodyOf Tryd.f77) (envOf [data0, a1, b2, pivot3]) (fun e env s => retK e (resK Tryd.prog Tryd.f77.results.toList env (fun vs => K (oneV vs) s) s)) s = vc_slices_partitionEqualOrdered_api_IP_ X data0 a1 b2 pivot3 K s := by kernel_rfl
theorem vc_slices_partitionEqualOrdered_api_IP__ok {X : Told} (hX : FrX X) (hn : X 77 = none) {data0 : AVal} {a1 : AVal} {b2 : AVal} {pivot3 : AVal} {K : AVal → Heap → Prop} {s : Heap} (h : vc_slices_partitionEqualOrdered_api_IP_ X data0 a1 b2 pivot3 K s) : wpCall Tryd.prog X 77 [data0, a1, b2, pivot3] K s :=
  wpCall_code hX vc_slices_partitionEqualOrdered_api_IP__ann hn Tryd.func77 (by kernel_rfl : Tryd.f77.body = some (bodyOf Tryd.f77)) (by kernel_rfl) ((vc_slices_partitionEqualOrdered_api_IP__eq X data0 a1 b2 pivot3 K s).mpr h)
theorem vc_slices_partitionEqualOrdered_api_IP__in {data0 : AVal} {a1 : AVal} {b2 : AVal} {pivot3 : AVal} {K : AVal → Heap → Prop} {s : Heap} (h : vc_slices_partitionEqualOrdered_api_IP_ XX data0 a1 b2 pivot3 K s) : wpCall Tryd.prog XX 77 [data0, a1, b2, pivot3] K s := vc_slices_partitionEqualOrdered_api_IP__ok XX_fr rfl h
/-- slices.partitionOrdered[leafmesh/api.IP] (78) -/
def vc_slices_partitionOrdered_api_IP__j8 (X : Told) (data0 : AVal) (a1 : AVal) (i10 : AVal) (j11 : AVal) (t118 : AVal) (t128 : AVal) (I7 : List AVal → Heap → Nat → Prop) (m7 : Nat) (I4 : List AVal → Heap → Nat → Prop) (m4 : Nat) (K : AVal → Heap → Prop) (s : Heap) : Prop :=
  optK (pickV t118 t128 (.bool false)) fun v_39 =>
  boolK v_39
   (optK (arithV .sub j11 (.int .i64 1)) fun v_40 =>
    ∃ m', m' < m7 ∧ I7 [v_40] s m')
   (optK (arithV .gtr i10 j11) fun v_41 =>
    boolK v_41
     (optK (iaddrS 1 data0 a1) fun v_42 =>
      optK (rd1 s v_42) fun v_43 =>
      optK (iaddrS 1 data0 j11) fun v_44 =>
      optK (rd1 s v_44) fun v_45 =>
      optK (iaddrS 1 data0 j11) fun v_46 =>
      optK (wr1 s v_46 v_43) fun s_47 =>
      optK (iaddrS 1 data0 a1) fun v_48 =>
      optK (wr1 s_47 v_48 v_45) fun s_49 =>
      K (.tup [j11, (.bool false)]) s_49)
     (optK (iaddrS 1 data0 j11) fun v_50 =>
      optK (rd1 s v_50) fun v_51 =>
      optK (iaddrS 1 data0 i10) fun v_52 =>
      optK (rd1 s v_52) fun v_53 =>
      optK (iaddrS 1 data0 i10) fun v_54 =>
      optK (wr1 s v_54 v_51) fun s_55 =>
      optK (iaddrS 1 data0 j11) fun v_56 =>
      optK (wr1 s_55 v_56 v_53) fun s_57 =>
      optK (arithV .add i10 (.int .i64 1)) fun v_58 =>
      optK (arithV .sub j11 (.int .i64 1)) fun v_59 =>
      ∃ m', m' < m4 ∧ I4 [v_58, v_59] s_57 m'))
def vc_slices_partitionOrdered_api_IP__l7 (X : Told) (data0 : AVal) (a1 : AVal) (i10 : AVal) (j11 : AVal) (I7 : List AVal → Heap → Nat → Prop) (m7 : Nat) (I4 : List AVal → Heap → Nat → Prop) (m4 : Nat) (K : AVal → Heap → Prop) (s : Heap) : Prop :=
  optK (arithV .leq i10 j11) fun v_38 =>
  boolK v_38
   (optK (iaddrS 1 data0 j11) fun v_60 =>
    optK (rd1 s v_60) fun v_61 =>
    optK (iaddrS 1 data0 a1) fun v_62 =>
    optK (rd1 s v_62) fun v_63 =>
    wpCall Tryd.prog X 76 [v_61, v_63] (fun v_64 s_65 =>
    optK (unaryA .not v_64) fun v_66 =>
    vc_slices_partitionOrdered_api_IP__j8 X data0 a1 i10 j11 v_38 v_66 I7 m7 I4 m4 K s_65) s)
   (vc_slices_partitionOrdered_api_IP__j8 X data0 a1 i10 j11 v_38 .undef I7 m7 I4 m4 K s)
def vc_slices_partitionOrdered_api_IP__j6 (X : Told) (data0 : AVal) (a1 : AVal) (i10 : AVal) (j11 : AVal) (t102 : AVal) (t111 : AVal) (I5 : List AVal → Heap → Nat → Prop) (m5 : Nat) (I4 : List AVal → Heap → Nat → Prop) (m4 : Nat) (K : AVal → Heap → Prop) (s : Heap) : Prop :=
  optK (pickV t102 t111 (.bool false)) fun v_36 =>
  boolK v_36
   (optK (arithV .add i10 (.int .i64 1)) fun v_37 =>
    ∃ m', m' < m5 ∧ I5 [v_37, j11] s m')
   (∃ I7 : List AVal → Heap → Nat → Prop, (∃ m, I7 [j11] s m) ∧ ∀ (f : Env) (s : Heap) (m7 : Nat), I7 [f 11] s m7 →
      vc_slices_partitionOrdered_api_IP__l7 X data0 a1 i10 (f 11) I7 m7 I4 m4 K s)
def vc_slices_partitionOrdered_api_IP__l5 (X : Told) (data0 : AVal) (a1 : AVal) (i10 : AVal) (j11 : AVal) (I5 : List AVal → Heap → Nat → Prop) (m5 : Nat) (I4 : List AVal → Heap → Nat → Prop) (m4 : Nat) (K : AVal → Heap → Prop) (s : Heap) : Prop :=
  optK (arithV .leq i10 j11) fun v_35 =>
  boolK v_35
   (optK (iaddrS 1 data0 i10) fun v_67 =>
    optK (rd1 s v_67) fun v_68 =>
    optK (iaddrS 1 data0 a1) fun v_69 =>
    optK (rd1 s v_69) fun v_70 =>
    wpCall Tryd.prog X 76 [v_68, v_70] (fun v_71 s_72 =>
    vc_slices_partitionOrdered_api_IP__j6 X data0 a1 i10 j11 v_35 v_71 I5 m5 I4 m4 K s_72) s)
   (vc_slices_partitionOrdered_api_IP__j6 X data0 a1 i10 j11 v_35 .undef I5 m5 I4 m4 K s)
def vc_slices_partitionOrdered_api_IP__l4 (X : Told) (data0 : AVal) (a1 : AVal) (i10 : AVal) (j11 : AVal) (I4 : List AVal → Heap → Nat → Prop) (m4 : Nat) (K : AVal → Heap → Prop) (s : Heap) : Prop :=
  ∃ I5 : List AVal → Heap → Nat → Prop, (∃ m, I5 [i10, j11] s m) ∧ ∀ (f : Env) (s : Heap) (m5 : Nat), I5 [f 10, f 11] s m5 →
    vc_slices_partitionOrdered_api_IP__l5 X data0 a1 (f 10) j11 I5 m5 I4 m4 K s
def vc_slices_partitionOrdered_api_IP__j3 (X : Told) (data0 : AVal) (a1 : AVal) (i10 : AVal) (j11 : AVal) (t49 : AVal) (t59 : AVal) (I2 : List AVal → Heap → Nat → Prop) (m2 : Nat) (K : AVal → Heap → Prop) (s : Heap) : Prop :=
  optK (pickV t49 t59 (.bool false)) fun v_14 =>
  boolK v_14
   (optK (arithV .sub j11 (.int .i64 1)) fun v_15 =>
    ∃ m', m' < m2 ∧ I2 [v_15] s m')
   (optK (arithV .gtr i10 j11) fun v_16 =>
    boolK v_16
     (optK (iaddrS 1 data0 a1) fun v_17 =>
      optK (rd1 s v_17) fun v_18 =>
      optK (iaddrS 1 data0 j11) fun v_19 =>
      optK (rd1 s v_19) fun v_20 =>
      optK (iaddrS 1 data0 j11) fun v_21 =>
      optK (wr1 s v_21 v_18) fun s_22 =>
      optK (iaddrS 1 data0 a1) fun v_23 =>
      optK (wr1 s_22 v_23 v_20) fun s_24 =>
      K (.tup [j11, (.bool true)]) s_24)
     (optK (iaddrS 1 data0 j11) fun v_25 =>
      optK (rd1 s v_25) fun v_26 =>
      optK (iaddrS 1 data0 i10) fun v_27 =>
      optK (rd1 s v_27) fun v_28 =>
      optK (iaddrS 1 data0 i10) fun v_29 =>
      optK (wr1 s v_29 v_26) fun s_30 =>
      optK (iaddrS 1 data0 j11) fun v_31 =>
      optK (wr1 s_30 v_31 v_28) fun s_32 =>
      optK (arithV .add i10 (.int .i64 1)) fun v_33 =>
      optK (arithV .sub j11 (.int .i64 1)) fun v_34 =>
      ∃ I4 : List AVal → Heap → Nat → Prop, (∃ m, I4 [v_33, v_34] s_32 m) ∧ ∀ (f : Env) (s : Heap) (m4 : Nat), I4 [f 10, f 11] s m4 →
        vc_slices_partitionOrdered_api_IP__l4 X data0 a1 (f 10) (f 11) I4 m4 K s))
def vc_slices_partitionOrdered_api_IP__l2 (X : Told) (data0 : AVal) (a1 : AVal) (i10 : AVal) (j11 : AVal) (I2 : List AVal → Heap → Nat → Prop) (m2 : Nat) (K : AVal → Heap → Prop) (s : Heap) : Prop :=
  optK (arithV .leq i10 j11) fun v_13 =>
  boolK v_13
   (optK (iaddrS 1 data0 j11) fun v_73 =>
    optK (rd1 s v_73) fun v_74 =>
    optK (iaddrS 1 data0 a1) fun v_75 =>
    optK (rd1 s v_75) fun v_76 =>
    wpCall Tryd.prog X 76 [v_74, v_76] (fun v_77 s_78 =>
    optK (unaryA .not v_77) fun v_79 =>
    vc_slices_partitionOrdered_api_IP__j3 X data0 a1 i10 j11 v_13 v_79 I2 m2 K s_78) s)
   (vc_slices_partitionOrdered_api_IP__j3 X data0 a1 i10 j11 v_13 .undef I2 m2 K s)
def vc_slices_partitionOrdered_api_IP__j1 (X : Told) (data0 : AVal) (a1 : AVal) (i10 : AVal) (j11 : AVal) (t33 : AVal) (t42 : AVal) (I0 : List AVal → Heap → Nat → Prop) (m0 : Nat) (K : AVal → Heap → Prop) (s : Heap) : Prop :=
  optK (pickV t33 t42 (.bool false)) fun v_11 =>
  boolK v_11
   (optK (arithV .add i10 (.int .i64 1)) fun v_12 =>
    ∃ m', m' < m0 ∧ I0 [v_12] s m')
   (∃ I2 : List AVal → Heap → Nat → Prop, (∃ m, I2 [j11] s m) ∧ ∀ (f : Env) (s : Heap) (m2 : Nat), I2 [f 11] s m2 →
      vc_slices_partitionOrdered_api_IP__l2 X data0 a1 i10 (f 11) I2 m2 K s)
def vc_slices_partitionOrdered_api_IP__l0 (X : Told) (data0 : AVal) (a1 : AVal) (i10 : AVal) (j11 : AVal) (I0 : List AVal → Heap → Nat → Prop) (m0 : Nat) (K : AVal → Heap → Prop) (s : Heap) : Prop :=
  optK (arithV .leq i10 j11) fun v_10 =>
  boolK v_10
   (optK (iaddrS 1 data0 i10) fun v_80 =>
    optK (rd1 s v_80) fun v_81 =>
    optK (iaddrS 1 data0 a1) fun v_82 =>
    optK (rd1 s v_82) fun v_83 =>
    wpCall Tryd.prog X 76 [v_81, v_83] (fun v_84 s_85 =>
    vc_slices_partitionOrdered_api_IP__j1 X data0 a1 i10 j11 v_10 v_84 I0 m0 K s_85) s)
   (vc_slices_partitionOrdered_api_IP__j1 X data0 a1 i10 j11 v_10 .undef I0 m0 K s)
def vc_slices_partitionOrdered_api_IP_ (X : Told) (data0 : AVal) (a1 : AVal) (b2 : AVal) (pivot3 : AVal) (K : AVal → Heap → Prop) (s : Heap) : Prop :=
  optK (iaddrS 1 data0 pivot3) fun v_0 =>
  optK (rd1 s v_0) fun v_1 =>
  optK (iaddrS 1 data0 a1) fun v_2 =>
  optK (rd1 s v_2) fun v_3 =>
  optK (iaddrS 1 data0 a1) fun v_4 =>
  optK (wr1 s v_4 v_1) fun s_5 =>
  optK (iaddrS 1 data0 pivot3) fun v_6 =>
  optK (wr1 s_5 v_6 v_3) fun s_7 =>
  optK (arithV .add a1 (.int .i64 1)) fun v_8 =>
  optK (arithV .sub b2 (.int .i64 1)) fun v_9 =>
  ∃ I0 : List AVal → Heap → Nat → Prop, (∃ m, I0 [v_8] s_7 m) ∧ ∀ (f : Env) (s : Heap) (m0 : Nat), I0 [f 10] s m0 →
    vc_slices_partitionOrdered_api_IP__l0 X data0 a1 (f 10) v_9 I0 m0 K s
def vc_slices_partitionOrdered_api_IP__ann : Nat → List Nat := fun k => cond (Nat.beq k 6) [10] (cond (Nat.beq k 10) [11] (cond (Nat.beq k 26) [10, 11] (cond (Nat.beq k 30) [11] ([]))))
theorem vc_slices_partitionOrdered_api_IP__eq (X : Told) (data0 : AVal) (a1 : AVal) (b2 : AVal) (pivot3 : AVal) (K : AVal → Heap → Prop) (s : Heap) : wpC Tryd.prog X vc_slices_partitionOrdered_api_IP__ann Tryd.f78.ntmps none (bodyOf Tryd.f78) (envOf [data0, a1, b2, pivot3]) (fun e env s => retK e (resK Tryd.prog Tryd.f78.results.toList env (fun vs => K (oneV vs) s) s)) s = vc_slices_partitionOrdered_api_IP_ X data0 a1 b2 pivot3 K s := by kernel_rfl
theorem vc_slices_partitionOrdered_api_IP__ok {X : Told} (hX : FrX X) (hn : X 78 = none) {data0 : AVal} {a1 : AVal} {b2 : AVal} {pivot3 : AVal} {K : AVal → Heap → Prop} {s : Heap} (h : vc_slices_partitionOrdered_api_IP_ X data0 a1 b2 pivot3 K s) : wpCall Tryd.prog X 78 [data0, a1, b2, pivot3] K s :=
  wpCall_code hX vc_slices_partitionOrdered_api_IP__ann hn Tryd.func78 (by kernel_rfl : Tryd.f78.body = some (bodyOf Tryd.f78)) (by kernel_rfl) ((vc_slices_partitionOrdered_api_IP__eq X data0 a1 b2 pivot3 K s).mpr h)
theorem vc_slices_partitionOrdered_api_IP__in {data0 : AVal} {a1 : AVal} {b2 : AVal} {pivot3 : AVal} {K : AVal → Heap → Prop} {s : Heap} (h : vc_slices_partitionOrdered_api_IP_ XX data0 a1 b2 pivot3 K s) : wpCall Tryd.prog XX 78 [data0, a1, b2, pivot3] K s := vc_slices_partitionOrdered_api_IP__ok XX_fr rfl h
/-- math/bits.Len64 (80) -/
def vc_math_bits_Len64_j2 (X : Told) (x0 : AVal) (n2 : AVal) (K : AVal → Heap → Prop) (s : Heap) : Prop :=
  optK (convI .u8 x0) fun v_3 =>
  optK (indexStr (.str ⟨#[0, 1, 2, 2, 3, 3, 3, 3, 4, 4, 4, 4, 4, 4, 4, 4, 5, 5, 5, 5, 5, 5, 5, 5, 5, 5, 5, 5, 5, 5, 5, 5, 6, 6, 6, 6, 6, 6, 6, 6, 6, 6, 6, 6, 6, 6, 6, 6, 6, 6, 6, 6, 6, 6, 6, 6, 6, 6, 6, 6, 6, 6, 6, 6, 7, 7, 7, 7, 7, 7, 7, 7, 7, 7, 7, 7, 7, 7, 7, 7, 7, 7, 7, 7, 7, 7, 7, 7, 7, 7, 7, 7, 7, 7, 7, 7, 7, 7, 7, 7, 7, 7, 7, 7, 7, 7, 7, 7, 7, 7, 7, 7, 7, 7, 7, 7, 7, 7, 7, 7, 7, 7, 7, 7, 7, 7, 7, 7, 8, 8, 8, 8, 8, 8, 8, 8, 8, 8, 8, 8, 8, 8, 8, 8, 8, 8, 8, 8, 8, 8, 8, 8, 8, 8, 8, 8, 8, 8, 8, 8, 8, 8, 8, 8, 8, 8, 8, 8, 8, 8, 8, 8, 8, 8, 8, 8, 8, 8, 8, 8, 8, 8, 8, 8, 8, 8, 8, 8, 8, 8, 8, 8, 8, 8, 8, 8, 8, 8, 8, 8, 8, 8, 8, 8, 8, 8, 8, 8, 8, 8, 8, 8, 8, 8, 8, 8, 8, 8, 8, 8, 8, 8, 8, 8, 8, 8, 8, 8, 8, 8, 8, 8, 8, 8, 8, 8, 8, 8, 8, 8, 8, 8, 8, 8, 8, 8, 8, 8, 8, 8, 8, 8, 8, 8, 8, 8]⟩) v_3) fun v_4 =>
  optK (convI .i64 v_4) fun v_5 =>
  optK (arithV .add n2 v_5) fun v_6 =>
  K v_6 s
def vc_math_bits_Len64_j1 (X : Told) (x0 : AVal) (n2 : AVal) (K : AVal → Heap → Prop) (s : Heap) : Prop :=
  optK (arithV .geq x0 (.int .u64 256)) fun v_2 =>
  boolK v_2
   (optK (shiftV .shr x0 (.int .u64 8)) fun v_7 =>
    optK (arithV .add n2 (.int .i64 8)) fun v_8 =>
    vc_math_bits_Len64_j2 X v_7 v_8 K s)
   (vc_math_bits_Len64_j2 X x0 n2 K s)
def vc_math_bits_Len64_j0 (X : Told) (x0 : AVal) (n2 : AVal) (K : AVal → Heap → Prop) (s : Heap) : Prop :=
  optK (arithV .geq x0 (.int .u64 65536)) fun v_1 =>
  boolK v_1
   (optK (shiftV .shr x0 (.int .u64 16)) fun v_9 =>
    optK (arithV .add n2 (.int .i64 16)) fun v_10 =>
    vc_math_bits_Len64_j1 X v_9 v_10 K s)
   (vc_math_bits_Len64_j1 X x0 n2 K s)
def vc_math_bits_Len64 (X : Told) (x0 : AVal) (K : AVal → Heap → Prop) (s : Heap) : Prop :=
  optK (arithV .geq x0 (.int .u64 4294967296)) fun v_0 =>
  boolK v_0
   (optK (shiftV .shr x0 (.int .u64 32)) fun v_11 =>
    vc_math_bits_Len64_j0 X v_11 (.int .i64 32) K s)
   (vc_math_bits_Len64_j0 X x0 (.int .i64 0) K s)
def vc_math_bits_Len64_ann : Nat → List Nat := fun _ => []
theorem vc_math_bits_Len64_eq (X : Told) (x0 : AVal) (K : AVal → Heap → Prop) (s : Heap) : wpC Tryd.prog X vc_math_bits_Len64_ann Tryd.f80.ntmps none (bodyOf Tryd.f80) (envOf [x0]) (fun e env s => retK e (resK Tryd.prog Tryd.f80.results.toList env (fun vs => K (oneV vs) s) s)) s = vc_math_bits_Len64 X x0 K s := by kernel_rfl
theorem vc_math_bits_Len64_ok {X : Told} (hX : FrX X) (hn : X 80 = none) {x0 : AVal} {K : AVal → Heap → Prop} {s : Heap} (h : vc_math_bits_Len64 X x0 K s) : wpCall Tryd.prog X 80 [x0] K s :=
  wpCall_code hX vc_math_bits_Len64_ann hn Tryd.func80 (by kernel_rfl : Tryd.f80.body = some (bodyOf Tryd.f80)) (by kernel_rfl) ((vc_math_bits_Len64_eq X x0 K s).mpr h)
theorem vc_math_bits_Len64_in {x0 : AVal} {K : AVal → Heap → Prop} {s : Heap} (h : vc_math_bits_Len64 XX x0 K s) : wpCall Tryd.prog XX 80 [x0] K s := vc_math_bits_Len64_ok XX_fr rfl h
/-- slices.siftDownOrdered[leafmesh/api.IP] (85) -/
def vc_slices_siftDownOrdered_api_IP__j2 (X : Told) (data0 : AVal) (first3 : AVal) (root8 : AVal) (child9 : AVal) (I0 : List AVal → Heap → Nat → Prop) (m0 : Nat) (K : AVal → Heap → Prop) (s : Heap) : Prop :=
  optK (arithV .add first3 root8) fun v_6 =>
  optK (iaddrS 1 data0 v_6) fun v_7 =>
  optK (rd1 s v_7) fun v_8 =>
  optK (arithV .add first3 child9) fun v_9 =>
  optK (iaddrS 1 data0 v_9) fun v_10 =>
  optK (rd1 s v_10) fun v_11 =>
  wpCall Tryd.prog X 76 [v_8, v_11] (fun v_12 s_13 =>
  optK (unaryA .not v_12) fun v_14 =>
  boolK v_14
   (K (.tup []) s_13)
   (optK (arithV .add first3 root8) fun v_15 =>
    optK (arithV .add first3 child9) fun v_16 =>
    optK (arithV .add first3 child9) fun v_17 =>
    optK (iaddrS 1 data0 v_17) fun v_18 =>
    optK (rd1 s_13 v_18) fun v_19 =>
    optK (arithV .add first3 root8) fun v_20 =>
    optK (iaddrS 1 data0 v_20) fun v_21 =>
    optK (rd1 s_13 v_21) fun v_22 =>
    optK (iaddrS 1 data0 v_15) fun v_23 =>
    optK (wr1 s_13 v_23 v_19) fun s_24 =>
    optK (iaddrS 1 data0 v_16) fun v_25 =>
    optK (wr1 s_24 v_25 v_22) fun s_26 =>
    ∃ m', m' < m0 ∧ I0 [child9] s_26 m')) s
def vc_slices_siftDownOrdered_api_IP__j1 (X : Told) (data0 : AVal) (first3 : AVal) (root8 : AVal) (child9 : AVal) (t21 : AVal) (t35 : AVal) (I0 : List AVal → Heap → Nat → Prop) (m0 : Nat) (K : AVal → Heap → Prop) (s : Heap) : Prop :=
  optK (pickV t21 t35 (.bool false)) fun v_5 =>
  boolK v_5
   (optK (arithV .add child9 (.int .i64 1)) fun v_27 =>
    vc_slices_siftDownOrdered_api_IP__j2 X data0 first3 root8 v_27 I0 m0 K s)
   (vc_slices_siftDownOrdered_api_IP__j2 X data0 first3 root8 child9 I0 m0 K s)
def vc_slices_siftDownOrdered_api_IP__l0 (X : Told) (data0 : AVal) (hi2 : AVal) (first3 : AVal) (root8 : AVal) (I0 : List AVal → Heap → Nat → Prop) (m0 : Nat) (K : AVal → Heap → Prop) (s : Heap) : Prop :=
  optK (arithV .mul (.int .i64 2) root8) fun v_0 =>
  optK (arithV .add v_0 (.int .i64 1)) fun v_1 =>
  optK (arithV .geq v_1 hi2) fun v_2 =>
  boolK v_2
   (K (.tup []) s)
   (optK (arithV .add v_1 (.int .i64 1)) fun v_3 =>
    optK (arithV .lss v_3 hi2) fun v_4 =>
    boolK v_4
     (optK (arithV .add first3 v_1) fun v_28 =>
      optK (iaddrS 1 data0 v_28) fun v_29 =>
      optK (rd1 s v_29) fun v_30 =>
      optK (arithV .add first3 v_1) fun v_31 =>
      optK (arithV .add v_31 (.int .i64 1)) fun v_32 =>
      optK (iaddrS 1 data0 v_32) fun v_33 =>
      optK (rd1 s v_33) fun v_34 =>
      wpCall Tryd.prog X 76 [v_30, v_34] (fun v_35 s_36 =>
      vc_slices_siftDownOrdered_api_IP__j1 X data0 first3 root8 v_1 v_4 v_35 I0 m0 K s_36) s)
     (vc_slices_siftDownOrdered_api_IP__j1 X data0 first3 root8 v_1 v_4 .undef I0 m0 K s))
def vc_slices_siftDownOrdered_api_IP_ (X : Told) (data0 : AVal) (lo1 : AVal) (hi2 : AVal) (first3 : AVal) (K : AVal → Heap → Prop) (s : Heap) : Prop :=
  ∃ I0 : List AVal → Heap → Nat → Prop, (∃ m, I0 [lo1] s m) ∧ ∀ (f : Env) (s : Heap) (m0 : Nat), I0 [f 8] s m0 →
    vc_slices_siftDownOrdered_api_IP__l0 X data0 hi2 first3 (f 8) I0 m0 K s
def vc_slices_siftDownOrdered_api_IP__ann : Nat → List Nat := fun k => cond (Nat.beq k 2) [8] ([])
theorem vc_slices_siftDownOrdered_api_IP__eq (X : Told) (data0 : AVal) (lo1 : AVal) (hi2 : AVal) (first3 : AVal) (K : AVal → Heap → Prop) (s : Heap) : wpC Tryd.prog X vc_slices_siftDownOrdered_api_IP__ann Tryd.f85.ntmps none (bodyOf Tryd.f85) (envOf [data0, lo1, hi2, first3]) (fun e env s => retK e (resK Tryd.prog Tryd.f85.results.toList env (fun vs => K (oneV vs) s) s)) s = vc_slices_siftDownOrdered_api_IP_ X data0 lo1 hi2 first3 K s := by kernel_rfl
theorem vc_slices_siftDownOrdered_api_IP__ok {X : Told} (hX : FrX X) (hn : X 85 = none) {data0 : AVal} {lo1 : AVal} {hi2 : AVal} {first3 : AVal} {K : AVal → Heap → Prop} {s : Heap} (h : vc_slices_siftDownOrdered_api_IP_ X data0 lo1 hi2 first3 K s) : wpCall Tryd.prog X 85 [data0, lo1, hi2, first3] K s :=
  wpCall_code hX vc_slices_siftDownOrdered_api_IP__ann hn Tryd.func85 (by kernel_rfl : Tryd.f85.body = some (bodyOf Tryd.f85)) (by kernel_rfl) ((vc_slices_siftDownOrdered_api_IP__eq X data0 lo1 hi2 first3 K s).mpr h)
theorem vc_slices_siftDownOrdered_api_IP__in {data0 : AVal} {lo1 : AVal} {hi2 : AVal} {first3 : AVal} {K : AVal → Heap → Prop} {s : Heap} (h : vc_slices_siftDownOrdered_api_IP_ XX data0 lo1 hi2 first3 K s) : wpCall Tryd.prog XX 85 [data0, lo1, hi2, first3] K s := vc_slices_siftDownOrdered_api_IP__ok XX_fr rfl h
/-- slices.nextPowerOfTwo (86) -/
def vc_slices_nextPowerOfTwo (X : Told) (length0 : AVal) (K : AVal → Heap → Prop) (s : Heap) : Prop :=
  optK (convI .u64 length0) fun v_0 =>
  wpCall Tryd.prog X 59 [v_0] (fun v_1 s_2 =>
  optK (shiftV .shl (.int .u64 1) v_1) fun v_3 =>
  K v_3 s_2) s
def vc_slices_nextPowerOfTwo_ann : Nat → List Nat := fun _ => []
theorem vc_slices_nextPowerOfTwo_eq (X : Told) (length0 : AVal) (K : AVal → Heap → Prop) (s : Heap) : wpC Tryd.prog X vc_slices_nextPowerOfTwo_ann Tryd.f86.ntmps none (bodyOf Tryd.f86) (envOf [length0]) (fun e env s => retK e (resK Tryd.prog Tryd.f86.results.toList env (fun vs => K (oneV vs) s) s)) s = vc_slices_nextPowerOfTwo X length0 K s := by kernel_rfl
theorem vc_slices_nextPowerOfTwo_ok {X : Told} (hX : FrX X) (hn : X 86 = none) {length0 : AVal} {K : AVal → Heap → Prop} {s : Heap} (h : vc_slices_nextPowerOfTwo X length0 K s) : wpCall Tryd.prog X 86 [length0] K s :=
  wpCall_code hX vc_slices_nextPowerOfTwo_ann hn Tryd.func86 (by kernel_rfl : Tryd.f86.body = some (bodyOf Tryd.f86)) (by kernel_rfl) ((vc_slices_nextPowerOfTwo_eq X length0 K s).mpr h)
theorem vc_slices_nextPowerOfTwo_in {length0 : AVal} {K : AVal → Heap → Prop} {s : Heap} (h : vc_slices_nextPowerOfTwo XX length0 K s) : wpCall Tryd.prog XX 86 [length0] K s := vc_slices_nextPowerOfTwo_ok XX_fr rfl h
/-- (*slices.xorshift).Next (87) -/
def vc_slices_xorshift_Next (X : Told) (r0 : AVal) (K : AVal → Heap → Prop) (s : Heap) : Prop :=
  optK (nilCheckA r0) fun v_0 =>
  optK (rd1 s v_0) fun v_1 =>
  optK (nilCheckA r0) fun v_2 =>
  optK (rd1 s v_2) fun v_3 =>
  optK (shiftV .shl v_3 (.int .u64 13)) fun v_4 =>
  optK (arithV .xor v_1 v_4) fun v_5 =>
  optK (nilCheckA r0) fun v_6 =>
  optK (wr1 s v_6 v_5) fun s_7 =>
  optK (nilCheckA r0) fun v_8 =>
  optK (rd1 s_7 v_8) fun v_9 =>
  optK (nilCheckA r0) fun v_10 =>
  optK (rd1 s_7 v_10) fun v_11 =>
  optK (shiftV .shr v_11 (.int .u64 7)) fun v_12 =>
  optK (arithV .xor v_9 v_12) fun v_13 =>
  optK (nilCheckA r0) fun v_14 =>
  optK (wr1 s_7 v_14 v_13) fun s_15 =>
  optK (nilCheckA r0) fun v_16 =>
  optK (rd1 s_15 v_16) fun v_17 =>
  optK (nilCheckA r0) fun v_18 =>
  optK (rd1 s_15 v_18) fun v_19 =>
  optK (shiftV .shl v_19 (.int .u64 17)) fun v_20 =>
  optK (arithV .xor v_17 v_20) fun v_21 =>
  optK (nilCheckA r0) fun v_22 =>
  optK (wr1 s_15 v_22 v_21) fun s_23 =>
  optK (nilCheckA r0) fun v_24 =>
  optK (rd1 s_23 v_24) fun v_25 =>
  K v_25 s_23
def vc_slices_xorshift_Next_ann : Nat → List Nat := fun _ => []
theorem vc_slices_xorshift_Next_eq (X : Told) (r0 : AVal) (K : AVal → Heap → Prop) (s : Heap) : wpC Tryd.prog X vc_slices_xorshift_Next_ann Tryd.f87.ntmps none (bodyOf Tryd.f87) (envOf [r0]) (fun e env s => retK e (resK Tryd.prog Tryd.f87.results.toList env (fun vs => K (oneV vs) s) s)) s = vc_slices_xorshift_Next X r0 K s := by kernel_rfl
theorem vc_slices_xorshift_Next_ok {X : Told} (hX : FrX X) (hn : X 87 = none) {r0 : AVal} {K : AVal → Heap → Prop} {s : Heap} (h : vc_slices_xorshift_Next X r0 K s) : wpCall Tryd.prog X 87 [r0] K s :=
  wpCall_code hX vc_slices_xorshift_Next_ann hn Tryd.func87 (by kernel_rfl : Tryd.f87.body = some (bodyOf Tryd.f87)) (by kernel_rfl) ((vc_slices_xorshift_Next_eq X r0 K s).mpr h)
theorem vc_slices_xorshift_Next_in {r0 : AVal} {K : AVal → Heap → Prop} {s : Heap} (h : vc_slices_xorshift_Next XX r0 K s) : wpCall Tryd.prog XX 87 [r0] K s := vc_slices_xorshift_Next_ok XX_fr rfl h
/-- slices.medianAdjacentOrdered[leafmesh/api.IP] (88) -/
def vc_slices_medianAdjacentOrdered_api_IP_ (X : Told) (data0 : AVal) (a1 : AVal) (swaps2 : AVal) (K : AVal → Heap → Prop) (s : Heap) : Prop :=
  optK (arithV .sub a1 (.int .i64 1)) fun v_0 =>
  optK (arithV .add a1 (.int .i64 1)) fun v_1 =>
  wpCall Tryd.prog X 89 [data0, v_0, a1, v_1, swaps2] (fun v_2 s_3 =>
  K v_2 s_3) s
def vc_slices_medianAdjacentOrdered_api_IP__ann : Nat → List Nat := fun _ => []
theorem vc_slices_medianAdjacentOrdered_api_IP__eq (X : Told) (data0 : AVal) (a1 : AVal) (swaps2 : AVal) (K : AVal → Heap → Prop) (s : Heap) : wpC Tryd.prog X vc_slices_medianAdjacentOrdered_api_IP__ann Tryd.f88.ntmps none (bodyOf Tryd.f88) (envOf [data0, a1, swaps2]) (fun e env s => retK e (resK Tryd.prog Tryd.f88.results.toList env (fun vs => K (oneV vs) s) s)) s = vc_slices_medianAdjacentOrdered_api_IP_ X data0 a1 swaps2 K s := by kernel_rfl
theorem vc_slices_medianAdjacentOrdered_api_IP__ok {X : Told} (hX : FrX X) (hn : X 88 = none) {data0 : AVal} {a1 : AVal} {swaps2 : AVal} {K : AVal → Heap → Prop} {s : Heap} (h : vc_slices_medianAdjacentOrdered_api_IP_ X data0 a1 swaps2 K s) : wpCall Tryd.prog X 88 [data0, a1, swaps2] K s :=
  wpCall_code hX vc_slices_medianAdjacentOrdered_api_IP__ann hn Tryd.func88 (by kernel_rfl : Tryd.f88.body = some (bodyOf Tryd.f88)) (by kernel_rfl) ((vc_slices_medianAdjacentOrdered_api_IP__eq X data0 a1 swaps2 K s).mpr h)
theorem vc_slices_medianAdjacentOrdered_api_IP__in {data0 : AVal} {a1 : AVal} {swaps2 : AVal} {K : AVal → Heap → Prop} {s : Heap} (h : vc_slices_medianAdjacentOrdered_api_IP_ XX data0 a1 swaps2 K s) : wpCall Tryd.prog XX 88 [data0, a1, swaps2] K s := vc_slices_medianAdjacentOrdered_api_IP__ok XX_fr rfl h
/-- slices.medianOrdered[leafmesh/api.IP] (89) -/
def vc_slices_medianOrdered_api_IP_ (X : Told) (data0 : AVal) (a1 : AVal) (b2 : AVal) (c3 : AVal) (swaps4 : AVal) (K : AVal → Heap → Prop) (s : Heap) : Prop :=
  wpCall Tryd.prog X 91 [data0, a1, b2, swaps4] (fun v_0 s_1 =>
  optK (extractA v_0 0) fun v_2 =>
  optK (extractA v_0 1) fun v_3 =>
  wpCall Tryd.prog X 91 [data0, v_3, c3, swaps4] (fun v_4 s_5 =>
  optK (extractA v_4 0) fun v_6 =>
  optK (extractA v_4 1) fun v_7 =>
  wpCall Tryd.prog X 91 [data0, v_2, v_6, swaps4] (fun v_8 s_9 =>
  optK (extractA v_8 0) fun v_10 =>
  optK (extractA v_8 1) fun v_11 =>
  K v_11 s_9) s_5) s_1) s
def vc_slices_medianOrdered_api_IP__ann : Nat → List Nat := fun _ => []
theorem vc_slices_medianOrdered_api_IP__eq (X : Told) (data0 : AVal) (a1 : AVal) (b2 : AVal) (c3 : AVal) (swaps4 : AVal) (K : AVal → Heap → Prop) (s : Heap) : wpC Tryd.prog X vc_slices_medianOrdered_api_IP__ann Tryd.f89.ntmps none (bodyOf Tryd.f89) (envOf [data0, a1, b2, c3, swaps4]) (fun e env s => retK e (resK Tryd.prog Tryd.f89.results.toList env (fun vs => K (oneV vs) s) s)) s = vc_slices_medianOrdered_api_IP_ X data0 a1 b2 c3 swaps4 K s := by kernel_rfl
theorem vc_slices_medianOrdered_api_IP__ok {X : Told} (hX : FrX X) (hn : X 89 = none) {data0 : AVal} {a1 : AVal} {b2 : AVal} {c3 : AVal} {swaps4 : AVal} {K : AVal → Heap → Prop} {s : Heap} (h : vc_slices_medianOrdered_api_IP_ X data0 a1 b2 c3 swaps4 K s) : wpCall Tryd.prog X 89 [data0, a1, b2, c3, swaps4] K s :=
  wpCall_code hX vc_slices_medianOrdered_api_IP__ann hn Tryd.func89 (by kernel_rfl : Tryd.f89.body = some (bodyOf Tryd.f89)) (by kernel_rfl) ((vc_slices_medianOrdered_api_IP__eq X data0 a1 b2 c3 swaps4 K s).mpr h)
theorem vc_slices_medianOrdered_api_IP__in {data0 : AVal} {a1 : AVal} {b2 : AVal} {c3 : AVal} {swaps4 : AVal} {K : AVal → Heap → Prop} {s : Heap} (h : vc_slices_medianOrdered_api_IP_ XX data0 a1 b2 c3 swaps4 K s) : wpCall Tryd.prog XX 89 [data0, a1, b2, c3, swaps4] K s := vc_slices_medianOrdered_api_IP__ok XX_fr rfl h
/-- slices.order2Ordered[leafmesh/api.IP] (91) -/
def vc_slices_order2Ordered_api_IP_ (X : Told) (data0 : AVal) (a1 : AVal) (b2 : AVal) (swaps3 : AVal) (K : AVal → Heap → Prop) (s : Heap) : Prop :=
  optK (iaddrS 1 data0 b2) fun v_0 =>
  optK (rd1 s v_0) fun v_1 =>
  optK (iaddrS 1 data0 a1) fun v_2 =>
  optK (rd1 s v_2) fun v_3 =>
  wpCall Tryd.prog X 76 [v_1, v_3] (fun v_4 s_5 =>
  boolK v_4
   (optK (nilCheckA swaps3) fun v_6 =>
    optK (rd1 s_5 v_6) fun v_7 =>
    optK (arithV .add v_7 (.int .i64 1)) fun v_8 =>
    optK (nilCheckA swaps3) fun v_9 =>
    optK (wr1 s_5 v_9 v_8) fun s_10 =>
    K (.tup [b2, a1]) s_10)
   (K (.tup [a1, b2]) s_5)) s
def vc_slices_order2Ordered_api_IP__ann : Nat → List Nat := fun _ => []
theorem vc_slices_order2Ordered_api_IP__eq (X : Told) (data0 : AVal) (a1 : AVal) (b2 : AVal) (swaps3 : AVal) (K : AVal → Heap → Prop) (s : Heap) : wpC Tryd.prog X vc_slices_order2Ordered_api_IP__ann Tryd.f91.ntmps none (bodyOf Tryd.f91) (envOf [data0, a1, b2, swaps3]) (fun e env s => retK e (resK Tryd.prog Tryd.f91.results.toList env (fun vs => K (oneV vs) s) s)) s = vc_slices_order2Ordered_api_IP_ X data0 a1 b2 swaps3 K s := by kernel_rfl
theorem vc_slices_order2Ordered_api_IP__ok {X : Told} (hX : FrX X) (hn : X 91 = none) {data0 : AVal} {a1 : AVal} {b2 : AVal} {swaps3 : AVal} {K : AVal → Heap → Prop} {s : Heap} (h : vc_slices_order2Ordered_api_IP_ X data0 a1 b2 swaps3 K s) : wpCall Tryd.prog X 91 [data0, a1, b2, swaps3] K s :=
  wpCall_code hX vc_slices_order2Ordered_api_IP__ann hn Tryd.func91 (by kernel_rfl : Tryd.f91.body = some (bodyOf Tryd.f91)) (by kernel_rfl) ((vc_slices_order2Ordered_api_IP__eq X data0 a1 b2 swaps3 K s).mpr h)
theorem vc_slices_order2Ordered_api_IP__in {data0 : AVal} {a1 : AVal} {b2 : AVal} {swaps3 : AVal} {K : AVal → Heap → Prop} {s : Heap} (h : vc_slices_order2Ordered_api_IP_ XX data0 a1 b2 swaps3 K s) : wpCall Tryd.prog XX 91 [data0, a1, b2, swaps3] K s := vc_slices_order2Ordered_api_IP__ok XX_fr rfl h
end Go.AM
