/- Part V of a calculus over a small memory that is proved to answer as the program does, and of its use for the functions that the law reaches: see the last part. -/
import Derived.Test.YtgehkpnggfnapaaDoorU2
import Derived.Test.YtgehkpnggfnapaaDoorProg
import Derived.KernelRfl
set_option linter.unusedVariables false
namespace Go.AM
open Go Go.Proofs
set_option maxRecDepth 100000
/-- the numbers of the table that the program's own text lays -/
abbrev kindsL : List AVal := [.int .i64 1, .int .u8 0, .int .u8 2, .int .i64 2, .int .u8 3, .int .u8 12, .int .i64 3, .int .u8 6, .int .u8 0, .int .i64 4, .int .u8 6, .int .u8 1, .int .i64 5, .int .u8 6, .int .u8 2, .int .i64 6, .int .u8 6, .int .u8 3, .int .i64 7, .int .u8 6, .int .u8 6]
abbrev XX : Told := closedG 0 kindsL [6]
theorem XX_fr : FrX XX := closedG_fr _ _ _
/-- leafmesh/leafmeshlaw25.SegmentElect (4) -/
def vc_leafmeshlaw25_SegmentElect_j3 (X : Told) (t56 : AVal) (t57 : AVal) (K : AVal → Heap → Prop) (s : Heap) : Prop :=
  optK (pickV t56 t57 (.bool false)) fun v_19 =>
  K v_19 s
def vc_leafmeshlaw25_SegmentElect_j2 (X : Told) (t51 : AVal) (t54 : AVal) (K : AVal → Heap → Prop) (s : Heap) : Prop :=
  optK (pickV t51 t54 (.bool false)) fun v_18 =>
  boolK v_18
   (wpCall Tryd.prog X 6 [] (fun v_20 s_21 =>
    vc_leafmeshlaw25_SegmentElect_j3 X v_18 v_20 K s_21) s)
   (vc_leafmeshlaw25_SegmentElect_j3 X v_18 .undef K s)
def vc_leafmeshlaw25_SegmentElect_j1 (X : Told) (l1 : AVal) (t9 : AVal) (t42 : AVal) (t49 : AVal) (K : AVal → Heap → Prop) (s : Heap) : Prop :=
  optK (pickV t42 t49 (.bool false)) fun v_17 =>
  boolK v_17
   (wpCall Tryd.prog X 10 [t9, l1] (fun v_22 s_23 =>
    vc_leafmeshlaw25_SegmentElect_j2 X v_17 v_22 K s_23) s)
   (vc_leafmeshlaw25_SegmentElect_j2 X v_17 .undef K s)
def vc_leafmeshlaw25_SegmentElect_j0 (X : Told) (l1 : AVal) (bd2 : AVal) (ip3 : AVal) (t9 : AVal) (t37 : AVal) (t40 : AVal) (K : AVal → Heap → Prop) (s : Heap) : Prop :=
  optK (pickV t37 t40 (.bool false)) fun v_16 =>
  boolK v_16
   (wpCall Tryd.prog X 18 [ip3, bd2] (fun v_24 s_25 =>
    wpCall Tryd.prog X 19 [ip3, bd2] (fun v_26 s_27 =>
    optK (negB false (eqV 0 false v_24 v_26)) fun v_28 =>
    vc_leafmeshlaw25_SegmentElect_j1 X l1 t9 v_16 v_28 K s_27) s_25) s)
   (vc_leafmeshlaw25_SegmentElect_j1 X l1 t9 v_16 .undef K s)
def vc_leafmeshlaw25_SegmentElect (X : Told) (alg0 : AVal) (l1 : AVal) (bd2 : AVal) (ip3 : AVal) (K : AVal → Heap → Prop) (s : Heap) : Prop :=
  optK (lenOfA l1) fun v_0 =>
  optK (arithV .gtr (.int .i64 v_0) (.int .i64 100)) fun v_2 =>
  boolK v_2
   (wpCall Tryd.prog X 6 [] (fun v_3 s_4 =>
    K v_3 s_4) s)
   (wpCall Tryd.prog X 15 [l1] (fun v_5 s_6 =>
    wpCall Tryd.prog X 16 [alg0, v_5, bd2] (fun v_7 s_8 =>
    optK (extractA v_7 0) fun v_9 =>
    optK (extractA v_7 1) fun v_10 =>
    wpCall Tryd.prog X 17 [alg0, l1, bd2] (fun v_11 s_12 =>
    optK (extractA v_11 0) fun v_13 =>
    optK (extractA v_11 1) fun v_14 =>
    optK (negB false (eqV 0 false v_9 v_13)) fun v_15 =>
    boolK v_15
     (optK (negB false (eqV 1 false v_10 v_14)) fun v_29 =>
      vc_leafmeshlaw25_SegmentElect_j0 X l1 bd2 ip3 v_5 v_15 v_29 K s_12)
     (vc_leafmeshlaw25_SegmentElect_j0 X l1 bd2 ip3 v_5 v_15 .undef K s_12)) s_8) s_6) s)
def vc_leafmeshlaw25_SegmentElect_ann : Nat → List Nat := fun _ => []
theorem vc_leafmeshlaw25_SegmentElect_eq (X : Told) (alg0 : AVal) (l1 : AVal) (bd2 : AVal) (ip3 : AVal) (K : AVal → Heap → Prop) (s : Heap) : wpC Tryd.prog X vc_leafmeshlaw25_SegmentElect_ann Tryd.f4.ntmps none (bodyOf Tryd.f4) (envOf [alg0, l1, bd2, ip3]) (fun e env s => retK e (resK Tryd.prog Tryd.f4.results.toList env (fun vs => K (oneV vs) s) s)) s = vc_leafmeshlaw25_SegmentElect X alg0 l1 bd2 ip3 K s := by kernel_rfl
theorem vc_leafmeshlaw25_SegmentElect_ok {X : Told} (hX : FrX X) (hn : X 4 = none) {alg0 : AVal} {l1 : AVal} {bd2 : AVal} {ip3 : AVal} {K : AVal → Heap → Prop} {s : Heap} (h : vc_leafmeshlaw25_SegmentElect X alg0 l1 bd2 ip3 K s) : wpCall Tryd.prog X 4 [alg0, l1, bd2, ip3] K s :=
  wpCall_code hX vc_leafmeshlaw25_SegmentElect_ann hn Tryd.func4 (by kernel_rfl : Tryd.f4.body = some (bodyOf Tryd.f4)) (by kernel_rfl) ((vc_leafmeshlaw25_SegmentElect_eq X alg0 l1 bd2 ip3 K s).mpr h)
theorem vc_leafmeshlaw25_SegmentElect_in {alg0 : AVal} {l1 : AVal} {bd2 : AVal} {ip3 : AVal} {K : AVal → Heap → Prop} {s : Heap} (h : vc_leafmeshlaw25_SegmentElect XX alg0 l1 bd2 ip3 K s) : wpCall Tryd.prog XX 4 [alg0, l1, bd2, ip3] K s := vc_leafmeshlaw25_SegmentElect_ok XX_fr rfl h
/-- leafmesh/leafmeshkit.Same[leafmesh/api.Candidate] (10) -/
def vc_leafmeshkit_Same_api_Candidate__l0 (X : Told) (a0 : AVal) (b1 : AVal) (i5 : AVal) (I0 : List AVal → Heap → Nat → Prop) (m0 : Nat) (K : AVal → Heap → Prop) (s : Heap) : Prop :=
  optK (lenOfA a0) fun v_5 =>
  optK (arithV .lss i5 (.int .i64 v_5)) fun v_7 =>
  boolK v_7
   (optK (iaddrS 2 a0 i5) fun v_8 =>
    optK (rdN s 2 v_8) fun v_9 =>
    optK (iaddrS 2 b1 i5) fun v_10 =>
    optK (rdN s 2 v_10) fun v_11 =>
    optK (negB true (eqAgg Tryd.prog 35 (.agg v_9) (.agg v_11))) fun v_12 =>
    boolK v_12
     (K (.bool false) s)
     (optK (arithV .add i5 (.int .i64 1)) fun v_13 =>
      ∃ m', m' < m0 ∧ I0 [v_13] s m'))
   (K (.bool true) s)
def vc_leafmeshkit_Same_api_Candidate_ (X : Told) (a0 : AVal) (b1 : AVal) (K : AVal → Heap → Prop) (s : Heap) : Prop :=
  optK (lenOfA a0) fun v_0 =>
  optK (lenOfA b1) fun v_2 =>
  optK (negB true (eqV 0 false (.int .i64 v_0) (.int .i64 v_2))) fun v_4 =>
  boolK v_4
   (K (.bool false) s)
   (∃ I0 : List AVal → Heap → Nat → Prop, (∃ m, I0 [(.int .i64 0)] s m) ∧ ∀ (f : Env) (s : Heap) (m0 : Nat), I0 [f 5] s m0 →
      vc_leafmeshkit_Same_api_Candidate__l0 X a0 b1 (f 5) I0 m0 K s)
def vc_leafmeshkit_Same_api_Candidate__ann : Nat → List Nat := fun k => cond (Nat.beq k 8) [5] ([])
theorem vc_leafmeshkit_Same_api_Candidate__eq (X : Told) (a0 : AVal) (b1 : AVal) (K : AVal → Heap → Prop) (s : Heap) : wpC Tryd.prog X vc_leafmeshkit_Same_api_Candidate__ann Tryd.f10.ntmps none (bodyOf Tryd.f10) (envOf [a0, b1]) (fun e env s => retK e (resK Tryd.prog Tryd.f10.results.toList env (fun vs => K (oneV vs) s) s)) s = vc_leafmeshkit_Same_api_Candidate_ X a0 b1 K s := by kernel_rfl
theorem vc_leafmeshkit_Same_api_Candidate__ok {X : Told} (hX : FrX X) (hn : X 10 = none) {a0 : AVal} {b1 : AVal} {K : AVal → Heap → Prop} {s : Heap} (h : vc_leafmeshkit_Same_api_Candidate_ X a0 b1 K s) : wpCall Tryd.prog X 10 [a0, b1] K s :=
  wpCall_code hX vc_leafmeshkit_Same_api_Candidate__ann hn Tryd.func10 (by kernel_rfl : Tryd.f10.body = some (bodyOf Tryd.f10)) (by kernel_rfl) ((vc_leafmeshkit_Same_api_Candidate__eq X a0 b1 K s).mpr h)
theorem vc_leafmeshkit_Same_api_Candidate__in {a0 : AVal} {b1 : AVal} {K : AVal → Heap → Prop} {s : Heap} (h : vc_leafmeshkit_Same_api_Candidate_ XX a0 b1 K s) : wpCall Tryd.prog XX 10 [a0, b1] K s := vc_leafmeshkit_Same_api_Candidate__ok XX_fr rfl h
/-- leafmesh/leafmeshkit.Own[leafmesh/api.Candidate] (15) -/
def vc_leafmeshkit_Own_api_Candidate_ (X : Told) (l0 : AVal) (K : AVal → Heap → Prop) (s : Heap) : Prop :=
  optK (fillR (repl 0 [(.int .u32 0), (.int .i64 0)]) []) fun c_0 => allOne c_0 = true ∧ newK 35 c_0 (fun b_1 s_2 =>
  appK 35 2 (.slc b_1 0 0 (some 0) 2) l0 (fun v_3 s_4 =>
  K v_3 s_4) s_2) s
def vc_leafmeshkit_Own_api_Candidate__ann : Nat → List Nat := fun _ => []
theorem vc_leafmeshkit_Own_api_Candidate__eq (X : Told) (l0 : AVal) (K : AVal → Heap → Prop) (s : Heap) : wpC Tryd.prog X vc_leafmeshkit_Own_api_Candidate__ann Tryd.f15.ntmps none (bodyOf Tryd.f15) (envOf [l0]) (fun e env s => retK e (resK Tryd.prog Tryd.f15.results.toList env (fun vs => K (oneV vs) s) s)) s = vc_leafmeshkit_Own_api_Candidate_ X l0 K s := by kernel_rfl
theorem vc_leafmeshkit_Own_api_Candidate__ok {X : Told} (hX : FrX X) (hn : X 15 = none) {l0 : AVal} {K : AVal → Heap → Prop} {s : Heap} (h : vc_leafmeshkit_Own_api_Candidate_ X l0 K s) : wpCall Tryd.prog X 15 [l0] K s :=
  wpCall_code hX vc_leafmeshkit_Own_api_Candidate__ann hn Tryd.func15 (by kernel_rfl : Tryd.f15.body = some (bodyOf Tryd.f15)) (by kernel_rfl) ((vc_leafmeshkit_Own_api_Candidate__eq X l0 K s).mpr h)
theorem vc_leafmeshkit_Own_api_Candidate__in {l0 : AVal} {K : AVal → Heap → Prop} {s : Heap} (h : vc_leafmeshkit_Own_api_Candidate_ XX l0 K s) : wpCall Tryd.prog XX 15 [l0] K s := vc_leafmeshkit_Own_api_Candidate__ok XX_fr rfl h
/-- leafmesh/segment.Elect (16) -/
def vc_segment_Elect_l3 (X : Told) (alg0 : AVal) (l1 : AVal) (bd2 : AVal) (table8 : AVal) (i9 : AVal) (I3 : List AVal → Heap → Nat → Prop) (m3 : Nat) (K : AVal → Heap → Prop) (s : Heap) : Prop :=
  optK (lenOfA l1) fun v_11 =>
  optK (arithV .lss i9 (.int .i64 v_11)) fun v_13 =>
  boolK v_13
   (optK (iaddrS 2 l1 i9) fun v_14 =>
    optK (addOff 0 v_14) fun v_15 =>
    optK (rd1 s v_15) fun v_16 =>
    optK (arithV .sub i9 (.int .i64 1)) fun v_17 =>
    optK (iaddrS 2 l1 v_17) fun v_18 =>
    optK (addOff 0 v_18) fun v_19 =>
    optK (rd1 s v_19) fun v_20 =>
    optK (arithV .leq v_16 v_20) fun v_21 =>
    boolK v_21
     (K (.tup [(.int .u32 0), (.bool false)]) s)
     (optK (arithV .add i9 (.int .i64 1)) fun v_22 =>
      ∃ m', m' < m3 ∧ I3 [v_22] s m'))
   (optK (iaddrA 3 1 table8 alg0) fun v_23 =>
    optK (rd1 s v_23) fun v_24 =>
    funK Tryd.prog X v_24 [l1, bd2] (fun v_25 s_26 =>
    optK (fieldD none 0 v_25) fun v_27 =>
    K (.tup [v_27, (.bool true)]) s_26) s)
def vc_segment_Elect_j2 (X : Told) (alg0 : AVal) (l1 : AVal) (bd2 : AVal) (table8 : AVal) (t22 : AVal) (t24 : AVal) (K : AVal → Heap → Prop) (s : Heap) : Prop :=
  optK (pickV t22 (.bool true) t24) fun v_10 =>
  boolK v_10
   (K (.tup [(.int .u32 0), (.bool false)]) s)
   (∃ I3 : List AVal → Heap → Nat → Prop, (∃ m, I3 [(.int .i64 1)] s m) ∧ ∀ (f : Env) (s : Heap) (m3 : Nat), I3 [f 9] s m3 →
      vc_segment_Elect_l3 X alg0 l1 bd2 table8 (f 9) I3 m3 K s)
def vc_segment_Elect_j1 (X : Told) (alg0 : AVal) (l1 : AVal) (bd2 : AVal) (table8 : AVal) (t18 : AVal) (t20 : AVal) (K : AVal → Heap → Prop) (s : Heap) : Prop :=
  optK (pickV t18 (.bool true) t20) fun v_9 =>
  boolK v_9
   (vc_segment_Elect_j2 X alg0 l1 bd2 table8 v_9 .undef K s)
   (optK (arithV .lss bd2 (.int .i64 0)) fun v_28 =>
    vc_segment_Elect_j2 X alg0 l1 bd2 table8 v_9 v_28 K s)
def vc_segment_Elect_j0 (X : Told) (alg0 : AVal) (l1 : AVal) (bd2 : AVal) (table8 : AVal) (t14 : AVal) (t16 : AVal) (K : AVal → Heap → Prop) (s : Heap) : Prop :=
  optK (pickV t14 (.bool true) t16) fun v_8 =>
  boolK v_8
   (vc_segment_Elect_j1 X alg0 l1 bd2 table8 v_8 .undef K s)
   (optK (arithV .geq alg0 (.int .i64 3)) fun v_29 =>
    vc_segment_Elect_j1 X alg0 l1 bd2 table8 v_8 v_29 K s)
def vc_segment_Elect (X : Told) (alg0 : AVal) (l1 : AVal) (bd2 : AVal) (K : AVal → Heap → Prop) (s : Heap) : Prop :=
  wpCall Tryd.prog X 34 [] (fun v_0 s_1 =>
  newK 76 [.nilFunc, .nilFunc, .nilFunc] (fun b_2 s_3 =>
  optK (wrAgg s_3 3 (.ptr b_2 0) v_0) fun s_4 =>
  optK (lenOfA l1) fun v_5 =>
  optK (negB false (eqV 0 true (.int .i64 v_5) (.int .i64 0))) fun v_7 =>
  boolK v_7
   (vc_segment_Elect_j0 X alg0 l1 bd2 (.ptr b_2 0) v_7 .undef K s_4)
   (optK (arithV .lss alg0 (.int .i64 0)) fun v_30 =>
    vc_segment_Elect_j0 X alg0 l1 bd2 (.ptr b_2 0) v_7 v_30 K s_4)) s_1) s
def vc_segment_Elect_ann : Nat → List Nat := fun k => cond (Nat.beq k 10) [9] ([])
theorem vc_segment_Elect_eq (X : Told) (alg0 : AVal) (l1 : AVal) (bd2 : AVal) (K : AVal → Heap → Prop) (s : Heap) : wpC Tryd.prog X vc_segment_Elect_ann Tryd.f16.ntmps none (bodyOf Tryd.f16) (envOf [alg0, l1, bd2]) (fun e env s => retK e (resK Tryd.prog Tryd.f16.results.toList env (fun vs => K (oneV vs) s) s)) s = vc_segment_Elect X alg0 l1 bd2 K s := by kernel_rfl
theorem vc_segment_Elect_ok {X : Told} (hX : FrX X) (hn : X 16 = none) {alg0 : AVal} {l1 : AVal} {bd2 : AVal} {K : AVal → Heap → Prop} {s : Heap} (h : vc_segment_Elect X alg0 l1 bd2 K s) : wpCall Tryd.prog X 16 [alg0, l1, bd2] K s :=
  wpCall_code hX vc_segment_Elect_ann hn Tryd.func16 (by kernel_rfl : Tryd.f16.body = some (bodyOf Tryd.f16)) (by kernel_rfl) ((vc_segment_Elect_eq X alg0 l1 bd2 K s).mpr h)
theorem vc_segment_Elect_in {alg0 : AVal} {l1 : AVal} {bd2 : AVal} {K : AVal → Heap → Prop} {s : Heap} (h : vc_segment_Elect XX alg0 l1 bd2 K s) : wpCall Tryd.prog XX 16 [alg0, l1, bd2] K s := vc_segment_Elect_ok XX_fr rfl h
/-- leafmesh/leafmeshref25.Elect (17) -/
def vc_leafmeshref25_Elect_j4 (X : Told) (best8 : AVal) (i9 : AVal) (I3 : List AVal → Heap → Nat → Prop) (m3 : Nat) (K : AVal → Heap → Prop) (s : Heap) : Prop :=
  optK (arithV .add i9 (.int .i64 1)) fun v_31 =>
  ∃ m', m' < m3 ∧ I3 [best8, v_31] s m'
def vc_leafmeshref25_Elect_j5 (X : Told) (best8 : AVal) (i9 : AVal) (I3 : List AVal → Heap → Nat → Prop) (m3 : Nat) (K : AVal → Heap → Prop) (s : Heap) : Prop :=
  optK (arithV .add i9 (.int .i64 1)) fun v_42 =>
  ∃ m', m' < m3 ∧ I3 [best8, v_42] s m'
def vc_leafmeshref25_Elect_j6 (X : Told) (best8 : AVal) (i9 : AVal) (I3 : List AVal → Heap → Nat → Prop) (m3 : Nat) (K : AVal → Heap → Prop) (s : Heap) : Prop :=
  optK (arithV .add i9 (.int .i64 1)) fun v_45 =>
  ∃ m', m' < m3 ∧ I3 [best8, v_45] s m'
def vc_leafmeshref25_Elect_j7 (X : Told) (best8 : AVal) (i9 : AVal) (I3 : List AVal → Heap → Nat → Prop) (m3 : Nat) (K : AVal → Heap → Prop) (s : Heap) : Prop :=
  optK (arithV .add i9 (.int .i64 1)) fun v_48 =>
  ∃ m', m' < m3 ∧ I3 [best8, v_48] s m'
def vc_leafmeshref25_Elect_j9 (X : Told) (best8 : AVal) (i9 : AVal) (I3 : List AVal → Heap → Nat → Prop) (m3 : Nat) (K : AVal → Heap → Prop) (s : Heap) : Prop :=
  optK (arithV .add i9 (.int .i64 1)) fun v_52 =>
  ∃ m', m' < m3 ∧ I3 [best8, v_52] s m'
def vc_leafmeshref25_Elect_j8 (X : Told) (best8 : AVal) (i9 : AVal) (t62 : AVal) (t65 : AVal) (t76 : AVal) (I3 : List AVal → Heap → Nat → Prop) (m3 : Nat) (K : AVal → Heap → Prop) (s : Heap) : Prop :=
  optK (pickV t65 t76 (.bool false)) fun v_50 =>
  optK (pickV t62 (.bool true) v_50) fun v_51 =>
  boolK v_51
   (vc_leafmeshref25_Elect_j9 X i9 i9 I3 m3 K s)
   (vc_leafmeshref25_Elect_j9 X best8 i9 I3 m3 K s)
def vc_leafmeshref25_Elect_j10 (X : Told) (l1 : AVal) (best8 : AVal) (K : AVal → Heap → Prop) (s : Heap) : Prop :=
  optK (iaddrS 2 l1 best8) fun v_61 =>
  optK (addOff 0 v_61) fun v_62 =>
  optK (rd1 s v_62) fun v_63 =>
  K (.tup [v_63, (.bool true)]) s
def vc_leafmeshref25_Elect_l3 (X : Told) (alg0 : AVal) (l1 : AVal) (bd2 : AVal) (best8 : AVal) (i9 : AVal) (I3 : List AVal → Heap → Nat → Prop) (m3 : Nat) (K : AVal → Heap → Prop) (s : Heap) : Prop :=
  optK (lenOfA l1) fun v_6 =>
  optK (arithV .lss i9 (.int .i64 v_6)) fun v_8 =>
  boolK v_8
   (optK (iaddrS 2 l1 i9) fun v_9 =>
    optK (addOff 0 v_9) fun v_10 =>
    optK (rd1 s v_10) fun v_11 =>
    optK (arithV .sub i9 (.int .i64 1)) fun v_12 =>
    optK (iaddrS 2 l1 v_12) fun v_13 =>
    optK (addOff 0 v_13) fun v_14 =>
    optK (rd1 s v_14) fun v_15 =>
    optK (arithV .leq v_11 v_15) fun v_16 =>
    boolK v_16
     (K (.tup [(.int .u32 0), (.bool false)]) s)
     (optK (negB false (eqV 0 true alg0 (.int .i64 1))) fun v_17 =>
      boolK v_17
       (optK (iaddrS 2 l1 i9) fun v_18 =>
      optK (addOff 0 v_18) fun v_19 =>
      optK (rd1 s v_19) fun v_20 =>
      wpCall Tryd.prog X 19 [v_20, bd2] (fun v_21 s_22 =>
      (∀ b, s b ≠ none → s b = none → s_22 b = none) →
      optK (iaddrS 2 l1 best8) fun v_23 =>
      optK (addOff 0 v_23) fun v_24 =>
      optK (rd1 (cutH [(s, (add s s_22))] (add s s_22)) v_24) fun v_25 =>
      wpCall Tryd.prog X 19 [v_25, bd2] (fun v_26 s_27 =>
      optK (arithV .gtr v_21 v_26) fun v_28 =>
      optK (pickV v_17 v_28 (.bool false)) fun v_29 =>
      boolK v_29
       (optK (pickV v_29 (.bool true) .undef) fun v_30 =>
      boolK v_30
       (vc_leafmeshref25_Elect_j4 X i9 i9 I3 m3 K s_27)
       (vc_leafmeshref25_Elect_j4 X best8 i9 I3 m3 K s_27))
       (optK (negB false (eqV 0 true alg0 (.int .i64 2))) fun v_32 =>
      boolK v_32
       (optK (iaddrS 2 l1 i9) fun v_33 =>
      optK (addOff 1 v_33) fun v_34 =>
      optK (rd1 s_27 v_34) fun v_35 =>
      optK (iaddrS 2 l1 best8) fun v_36 =>
      optK (addOff 1 v_36) fun v_37 =>
      optK (rd1 s_27 v_37) fun v_38 =>
      optK (arithV .gtr v_35 v_38) fun v_39 =>
      optK (pickV v_32 v_39 (.bool false)) fun v_40 =>
      optK (pickV v_29 (.bool true) v_40) fun v_41 =>
      boolK v_41
       (vc_leafmeshref25_Elect_j5 X i9 i9 I3 m3 K s_27)
       (vc_leafmeshref25_Elect_j5 X best8 i9 I3 m3 K s_27))
       (optK (pickV v_32 .undef (.bool false)) fun v_43 =>
      optK (pickV v_29 (.bool true) v_43) fun v_44 =>
      boolK v_44
       (vc_leafmeshref25_Elect_j6 X i9 i9 I3 m3 K s_27)
       (vc_leafmeshref25_Elect_j6 X best8 i9 I3 m3 K s_27)))) (add s s_22)) (frz s))
       (optK (pickV v_17 .undef (.bool false)) fun v_46 =>
      boolK v_46
       (optK (pickV v_46 (.bool true) .undef) fun v_47 =>
      boolK v_47
       (vc_leafmeshref25_Elect_j7 X i9 i9 I3 m3 K s)
       (vc_leafmeshref25_Elect_j7 X best8 i9 I3 m3 K s))
       (optK (negB false (eqV 0 true alg0 (.int .i64 2))) fun v_49 =>
      boolK v_49
       (optK (iaddrS 2 l1 i9) fun v_53 =>
        optK (addOff 1 v_53) fun v_54 =>
        optK (rd1 s v_54) fun v_55 =>
        optK (iaddrS 2 l1 best8) fun v_56 =>
        optK (addOff 1 v_56) fun v_57 =>
        optK (rd1 s v_57) fun v_58 =>
        optK (arithV .gtr v_55 v_58) fun v_59 =>
        vc_leafmeshref25_Elect_j8 X best8 i9 v_46 v_49 v_59 I3 m3 K s)
       (vc_leafmeshref25_Elect_j8 X best8 i9 v_46 v_49 .undef I3 m3 K s)))))
   (optK (negB false (eqV 0 true alg0 (.int .i64 0))) fun v_60 =>
    boolK v_60
     (optK (lenOfA l1) fun v_64 =>
      optK (arithV .rem bd2 (.int .i64 v_64)) fun v_66 =>
      vc_leafmeshref25_Elect_j10 X l1 v_66 K s)
     (vc_leafmeshref25_Elect_j10 X l1 best8 K s))
def vc_leafmeshref25_Elect_j2 (X : Told) (alg0 : AVal) (l1 : AVal) (bd2 : AVal) (t21 : AVal) (t23 : AVal) (K : AVal → Heap → Prop) (s : Heap) : Prop :=
  optK (pickV t21 (.bool true) t23) fun v_5 =>
  boolK v_5
   (K (.tup [(.int .u32 0), (.bool false)]) s)
   (∃ I3 : List AVal → Heap → Nat → Prop, (∃ m, I3 [(.int .i64 0), (.int .i64 1)] s m) ∧ ∀ (f : Env) (s : Heap) (m3 : Nat), I3 [f 8, f 9] s m3 →
      vc_leafmeshref25_Elect_l3 X alg0 l1 bd2 (f 8) (f 9) I3 m3 K s)
def vc_leafmeshref25_Elect_j1 (X : Told) (alg0 : AVal) (l1 : AVal) (bd2 : AVal) (t17 : AVal) (t19 : AVal) (K : AVal → Heap → Prop) (s : Heap) : Prop :=
  optK (pickV t17 (.bool true) t19) fun v_4 =>
  boolK v_4
   (vc_leafmeshref25_Elect_j2 X alg0 l1 bd2 v_4 .undef K s)
   (optK (arithV .lss bd2 (.int .i64 0)) fun v_67 =>
    vc_leafmeshref25_Elect_j2 X alg0 l1 bd2 v_4 v_67 K s)
def vc_leafmeshref25_Elect_j0 (X : Told) (alg0 : AVal) (l1 : AVal) (bd2 : AVal) (t13 : AVal) (t15 : AVal) (K : AVal → Heap → Prop) (s : Heap) : Prop :=
  optK (pickV t13 (.bool true) t15) fun v_3 =>
  boolK v_3
   (vc_leafmeshref25_Elect_j1 X alg0 l1 bd2 v_3 .undef K s)
   (optK (arithV .gtr alg0 (.int .i64 2)) fun v_68 =>
    vc_leafmeshref25_Elect_j1 X alg0 l1 bd2 v_3 v_68 K s)
def vc_leafmeshref25_Elect (X : Told) (alg0 : AVal) (l1 : AVal) (bd2 : AVal) (K : AVal → Heap → Prop) (s : Heap) : Prop :=
  optK (lenOfA l1) fun v_0 =>
  optK (negB false (eqV 0 true (.int .i64 v_0) (.int .i64 0))) fun v_2 =>
  boolK v_2
   (vc_leafmeshref25_Elect_j0 X alg0 l1 bd2 v_2 .undef K s)
   (optK (arithV .lss alg0 (.int .i64 0)) fun v_69 =>
    vc_leafmeshref25_Elect_j0 X alg0 l1 bd2 v_2 v_69 K s)
def vc_leafmeshref25_Elect_ann : Nat → List Nat := fun k => cond (Nat.beq k 10) [8, 9] ([])
theorem vc_leafmeshref25_Elect_eq (X : Told) (alg0 : AVal) (l1 : AVal) (bd2 : AVal) (K : AVal → Heap → Prop) (s : Heap) : wpC Tryd.prog X vc_leafmeshref25_Elect_ann Tryd.f17.ntmps none (bodyOf Tryd.f17) (envOf [alg0, l1, bd2]) (fun e env s => retK e (resK Tryd.prog Tryd.f17.results.toList env (fun vs => K (oneV vs) s) s)) s = vc_leafmeshref25_Elect X alg0 l1 bd2 K s := by kernel_rfl
theorem vc_leafmeshref25_Elect_ok {X : Told} (hX : FrX X) (hn : X 17 = none) {alg0 : AVal} {l1 : AVal} {bd2 : AVal} {K : AVal → Heap → Prop} {s : Heap} (h : vc_leafmeshref25_Elect X alg0 l1 bd2 K s) : wpCall Tryd.prog X 17 [alg0, l1, bd2] K s :=
  wpCall_code hX vc_leafmeshref25_Elect_ann hn Tryd.func17 (by kernel_rfl : Tryd.f17.body = some (bodyOf Tryd.f17)) (by kernel_rfl) ((vc_leafmeshref25_Elect_eq X alg0 l1 bd2 K s).mpr h)
theorem vc_leafmeshref25_Elect_in {alg0 : AVal} {l1 : AVal} {bd2 : AVal} {K : AVal → Heap → Prop} {s : Heap} (h : vc_leafmeshref25_Elect XX alg0 l1 bd2 K s) : wpCall Tryd.prog XX 17 [alg0, l1, bd2] K s := vc_leafmeshref25_Elect_ok XX_fr rfl h
/-- leafmesh/segment.Weight (18) -/
def vc_segment_Weight (X : Told) (ip0 : AVal) (bd1 : AVal) (K : AVal → Heap → Prop) (s : Heap) : Prop :=
  optK (convI .u32 bd1) fun v_0 =>
  optK (shiftV .shr ip0 (.int .u64 24)) fun v_1 =>
  optK (convI .u8 v_1) fun v_2 =>
  optK (shiftV .shr ip0 (.int .u64 16)) fun v_3 =>
  optK (convI .u8 v_3) fun v_4 =>
  optK (shiftV .shr ip0 (.int .u64 8)) fun v_5 =>
  optK (convI .u8 v_5) fun v_6 =>
  optK (convI .u8 ip0) fun v_7 =>
  optK (shiftV .shr v_0 (.int .u64 24)) fun v_8 =>
  optK (convI .u8 v_8) fun v_9 =>
  optK (shiftV .shr v_0 (.int .u64 16)) fun v_10 =>
  optK (convI .u8 v_10) fun v_11 =>
  optK (shiftV .shr v_0 (.int .u64 8)) fun v_12 =>
  optK (convI .u8 v_12) fun v_13 =>
  optK (convI .u8 v_0) fun v_14 =>
  optK (fillR [(.int .u8 0), (.int .u8 0), (.int .u8 0), (.int .u8 0), (.int .u8 0), (.int .u8 0), (.int .u8 0), (.int .u8 0)] [(0, 1, v_2), (1, 1, v_4), (2, 1, v_6), (3, 1, v_7), (4, 1, v_9), (5, 1, v_11), (6, 1, v_13), (7, 1, v_14)]) fun c_15 =>
  wpCall Tryd.prog X 40 [(.agg c_15)] (fun v_16 s_17 =>
  K v_16 s_17) s
def vc_segment_Weight_ann : Nat → List Nat := fun _ => []
theorem vc_segment_Weight_eq (X : Told) (ip0 : AVal) (bd1 : AVal) (K : AVal → Heap → Prop) (s : Heap) : wpC Tryd.prog X vc_segment_Weight_ann Tryd.f18.ntmps none (bodyOf Tryd.f18) (envOf [ip0, bd1]) (fun e env s => retK e (resK Tryd.prog Tryd.f18.results.toList env (fun vs => K (oneV vs) s) s)) s = vc_segment_Weight X ip0 bd1 K s := by kernel_rfl
theorem vc_segment_Weight_ok {X : Told} (hX : FrX X) (hn : X 18 = none) {ip0 : AVal} {bd1 : AVal} {K : AVal → Heap → Prop} {s : Heap} (h : vc_segment_Weight X ip0 bd1 K s) : wpCall Tryd.prog X 18 [ip0, bd1] K s :=
  wpCall_code hX vc_segment_Weight_ann hn Tryd.func18 (by kernel_rfl : Tryd.f18.body = some (bodyOf Tryd.f18)) (by kernel_rfl) ((vc_segment_Weight_eq X ip0 bd1 K s).mpr h)
theorem vc_segment_Weight_in {ip0 : AVal} {bd1 : AVal} {K : AVal → Heap → Prop} {s : Heap} (h : vc_segment_Weight XX ip0 bd1 K s) : wpCall Tryd.prog XX 18 [ip0, bd1] K s := vc_segment_Weight_ok XX_fr rfl h
/-- leafmesh/leafmeshref25.Weight (19) -/
def vc_leafmeshref25_Weight_l0 (X : Told) (l7 : AVal) (h8 : AVal) (i9 : AVal) (I0 : List AVal → Heap → Nat → Prop) (m0 : Nat) (K : AVal → Heap → Prop) (s : Heap) : Prop :=
  optK (lenOfA l7) fun v_19 =>
  optK (arithV .lss i9 (.int .i64 v_19)) fun v_21 =>
  boolK v_21
   (optK (iaddrS 1 l7 i9) fun v_22 =>
    optK (rd1 s v_22) fun v_23 =>
    optK (convI .u64 v_23) fun v_24 =>
    optK (arithV .xor h8 v_24) fun v_25 =>
    optK (arithV .mul v_25 (.int .u64 1099511628211)) fun v_26 =>
    optK (arithV .add i9 (.int .i64 1)) fun v_27 =>
    ∃ m', m' < m0 ∧ I0 [v_26, v_27] s m')
   (K h8 s)
def vc_leafmeshref25_Weight (X : Told) (ip0 : AVal) (bd1 : AVal) (K : AVal → Heap → Prop) (s : Heap) : Prop :=
  optK (convI .u64 ip0) fun v_0 =>
  optK (convI .u64 bd1) fun v_1 =>
  optK (shiftV .shr v_0 (.int .u64 24)) fun v_2 =>
  optK (convI .u8 v_2) fun v_3 =>
  optK (shiftV .shr v_0 (.int .u64 16)) fun v_4 =>
  optK (convI .u8 v_4) fun v_5 =>
  optK (shiftV .shr v_0 (.int .u64 8)) fun v_6 =>
  optK (convI .u8 v_6) fun v_7 =>
  optK (convI .u8 v_0) fun v_8 =>
  optK (shiftV .shr v_1 (.int .u64 24)) fun v_9 =>
  optK (convI .u8 v_9) fun v_10 =>
  optK (shiftV .shr v_1 (.int .u64 16)) fun v_11 =>
  optK (convI .u8 v_11) fun v_12 =>
  optK (shiftV .shr v_1 (.int .u64 8)) fun v_13 =>
  optK (convI .u8 v_13) fun v_14 =>
  optK (convI .u8 v_1) fun v_15 =>
  optK (fillR (repl 8 [(.int .u8 0)]) [(0, 1, v_3), (1, 1, v_5), (2, 1, v_7), (3, 1, v_8), (4, 1, v_10), (5, 1, v_12), (6, 1, v_14), (7, 1, v_15)]) fun c_16 => allOne c_16 = true ∧ newK 5 c_16 (fun b_17 s_18 =>
  ∃ I0 : List AVal → Heap → Nat → Prop, (∃ m, I0 [(.int .u64 14695981039346656037), (.int .i64 0)] s_18 m) ∧ ∀ (f : Env) (s : Heap) (m0 : Nat), I0 [f 8, f 9] s m0 →
    vc_leafmeshref25_Weight_l0 X (.slc b_17 0 8 (some 8) 1) (f 8) (f 9) I0 m0 K s) s
def vc_leafmeshref25_Weight_ann : Nat → List Nat := fun k => cond (Nat.beq k 10) [8, 9] ([])
theorem vc_leafmeshref25_Weight_eq (X : Told) (ip0 : AVal) (bd1 : AVal) (K : AVal → Heap → Prop) (s : Heap) : wpC Tryd.prog X vc_leafmeshref25_Weight_ann Tryd.f19.ntmps none (bodyOf Tryd.f19) (envOf [ip0, bd1]) (fun e env s => retK e (resK Tryd.prog Tryd.f19.results.toList env (fun vs => K (oneV vs) s) s)) s = vc_leafmeshref25_Weight X ip0 bd1 K s := by kernel_rfl
theorem vc_leafmeshref25_Weight_ok {X : Told} (hX : FrX X) (hn : X 19 = none) {ip0 : AVal} {bd1 : AVal} {K : AVal → Heap → Prop} {s : Heap} (h : vc_leafmeshref25_Weight X ip0 bd1 K s) : wpCall Tryd.prog X 19 [ip0, bd1] K s :=
  wpCall_code hX vc_leafmeshref25_Weight_ann hn Tryd.func19 (by kernel_rfl : Tryd.f19.body = some (bodyOf Tryd.f19)) (by kernel_rfl) ((vc_leafmeshref25_Weight_eq X ip0 bd1 K s).mpr h)
theorem vc_leafmeshref25_Weight_in {ip0 : AVal} {bd1 : AVal} {K : AVal → Heap → Prop} {s : Heap} (h : vc_leafmeshref25_Weight XX ip0 bd1 K s) : wpCall Tryd.prog XX 19 [ip0, bd1] K s := vc_leafmeshref25_Weight_ok XX_fr rfl h
/-- leafmesh/segment.algorithms (34) -/
def vc_segment_algorithms (X : Told) (K : AVal → Heap → Prop) (s : Heap) : Prop :=
  newK 76 [.nilFunc, .nilFunc, .nilFunc] (fun b_0 s_1 =>
  optK (fillR [.nilFunc, .nilFunc, .nilFunc] [(0, 1, (.fn (.func 50) [] [])), (1, 1, (.fn (.func 51) [] [])), (2, 1, (.fn (.func 54) [] []))]) fun c_2 =>
  optK (wrAgg s_1 3 (.ptr b_0 0) (.agg c_2)) fun s_3 =>
  optK (rdN s_3 3 (.ptr b_0 0)) fun t0_4 =>
  K (.agg t0_4) s_3) s
def vc_segment_algorithms_ann : Nat → List Nat := fun _ => []
theorem vc_segment_algorithms_eq (X : Told) (K : AVal → Heap → Prop) (s : Heap) : wpC Tryd.prog X vc_segment_algorithms_ann Tryd.f34.ntmps none (bodyOf Tryd.f34) (envOf []) (fun e env s => retK e (resK Tryd.prog Tryd.f34.results.toList env (fun vs => K (oneV vs) s) s)) s = vc_segment_algorithms X K s := by kernel_rfl
theorem vc_segment_algorithms_ok {X : Told} (hX : FrX X) (hn : X 34 = none) {K : AVal → Heap → Prop} {s : Heap} (h : vc_segment_algorithms X K s) : wpCall Tryd.prog X 34 [] K s :=
  wpCall_code hX vc_segment_algorithms_ann hn Tryd.func34 (by kernel_rfl : Tryd.f34.body = some (bodyOf Tryd.f34)) (by kernel_rfl) ((vc_segment_algorithms_eq X K s).mpr h)
theorem vc_segment_algorithms_in {K : AVal → Heap → Prop} {s : Heap} (h : vc_segment_algorithms XX K s) : wpCall Tryd.prog XX 34 [] K s := vc_segment_algorithms_ok XX_fr rfl h
/-- (leafmesh/segment.octets).hash (40) -/
def vc_segment_octets_hash_l0 (X : Told) (h3 : AVal) (t6 : AVal) (t7 : AVal) (I0 : List AVal → Heap → Nat → Prop) (m0 : Nat) (K : AVal → Heap → Prop) (s : Heap) : Prop :=
  optK (arithV .lss t7 (.int .i64 8)) fun v_3 =>
  boolK v_3
   (optK (indexD 8 1 none t6 t7) fun v_4 =>
    optK (convI .u64 v_4) fun v_5 =>
    optK (arithV .xor h3 v_5) fun v_6 =>
    optK (arithV .mul v_6 (.int .u64 1099511628211)) fun v_7 =>
    optK (arithV .add t7 (.int .i64 1)) fun v_8 =>
    ∃ m', m' < m0 ∧ I0 [v_7, v_8] s m')
   (K h3 s)
def vc_segment_octets_hash (X : Told) (o0 : AVal) (K : AVal → Heap → Prop) (s : Heap) : Prop :=
  boxK 84 o0 (fun b_0 s_1 =>
  optK (rdN s_1 8 b_0) fun v_2 =>
  ∃ I0 : List AVal → Heap → Nat → Prop, (∃ m, I0 [(.int .u64 14695981039346656037), (.int .i64 0)] s_1 m) ∧ ∀ (f : Env) (s : Heap) (m0 : Nat), I0 [f 3, f 7] s m0 →
    vc_segment_octets_hash_l0 X (f 3) (.agg v_2) (f 7) I0 m0 K s) s
def vc_segment_octets_hash_ann : Nat → List Nat := fun k => cond (Nat.beq k 6) [3, 7] ([])
theorem vc_segment_octets_hash_eq (X : Told) (o0 : AVal) (K : AVal → Heap → Prop) (s : Heap) : wpC Tryd.prog X vc_segment_octets_hash_ann Tryd.f40.ntmps none (bodyOf Tryd.f40) (envOf [o0]) (fun e env s => retK e (resK Tryd.prog Tryd.f40.results.toList env (fun vs => K (oneV vs) s) s)) s = vc_segment_octets_hash X o0 K s := by kernel_rfl
theorem vc_segment_octets_hash_ok {X : Told} (hX : FrX X) (hn : X 40 = none) {o0 : AVal} {K : AVal → Heap → Prop} {s : Heap} (h : vc_segment_octets_hash X o0 K s) : wpCall Tryd.prog X 40 [o0] K s :=
  wpCall_code hX vc_segment_octets_hash_ann hn Tryd.func40 (by kernel_rfl : Tryd.f40.body = some (bodyOf Tryd.f40)) (by kernel_rfl) ((vc_segment_octets_hash_eq X o0 K s).mpr h)
theorem vc_segment_octets_hash_in {o0 : AVal} {K : AVal → Heap → Prop} {s : Heap} (h : vc_segment_octets_hash XX o0 K s) : wpCall Tryd.prog XX 40 [o0] K s := vc_segment_octets_hash_ok XX_fr rfl h
/-- leafmesh/segment.algorithms$1 (50) -/
def vc_segment_algorithms_1 (X : Told) (l0 : AVal) (bd1 : AVal) (K : AVal → Heap → Prop) (s : Heap) : Prop :=
  newK 35 [(.int .u32 0), (.int .i64 0)] (fun b_0 s_1 =>
  optK (lenOfA l0) fun v_2 =>
  optK (arithV .rem bd1 (.int .i64 v_2)) fun v_4 =>
  optK (iaddrS 2 l0 v_4) fun v_5 =>
  optK (rdN s_1 2 v_5) fun v_6 =>
  optK (wrAgg s_1 2 (.ptr b_0 0) (.agg v_6)) fun s_7 =>
  optK (rdN s_7 2 (.ptr b_0 0)) fun t4_8 =>
  K (.agg t4_8) s_7) s
def vc_segment_algorithms_1_ann : Nat → List Nat := fun _ => []
theorem vc_segment_algorithms_1_eq (X : Told) (l0 : AVal) (bd1 : AVal) (K : AVal → Heap → Prop) (s : Heap) : wpC Tryd.prog X vc_segment_algorithms_1_ann Tryd.f50.ntmps none (bodyOf Tryd.f50) (envOf [l0, bd1]) (fun e env s => retK e (resK Tryd.prog Tryd.f50.results.toList env (fun vs => K (oneV vs) s) s)) s = vc_segment_algorithms_1 X l0 bd1 K s := by kernel_rfl
theorem vc_segment_algorithms_1_ok {X : Told} (hX : FrX X) (hn : X 50 = none) {l0 : AVal} {bd1 : AVal} {K : AVal → Heap → Prop} {s : Heap} (h : vc_segment_algorithms_1 X l0 bd1 K s) : wpCall Tryd.prog X 50 [l0, bd1] K s :=
  wpCall_code hX vc_segment_algorithms_1_ann hn Tryd.func50 (by kernel_rfl : Tryd.f50.body = some (bodyOf Tryd.f50)) (by kernel_rfl) ((vc_segment_algorithms_1_eq X l0 bd1 K s).mpr h)
theorem vc_segment_algorithms_1_in {l0 : AVal} {bd1 : AVal} {K : AVal → Heap → Prop} {s : Heap} (h : vc_segment_algorithms_1 XX l0 bd1 K s) : wpCall Tryd.prog XX 50 [l0, bd1] K s := vc_segment_algorithms_1_ok XX_fr rfl h
/-- leafmesh/segment.algorithms$2 (51) -/
def vc_segment_algorithms_2 (X : Told) (l0 : AVal) (bd1 : AVal) (K : AVal → Heap → Prop) (s : Heap) : Prop :=
  boxK 3 bd1 (fun b_0 s_1 =>
  newK 35 [(.int .u32 0), (.int .i64 0)] (fun b_2 s_3 =>
  wpCall Tryd.prog X 52 [l0, (.fn (.func 53) [] [b_0])] (fun v_4 s_5 =>
  optK (wrAgg s_5 2 (.ptr b_2 0) v_4) fun s_6 =>
  optK (rdN s_6 2 (.ptr b_2 0)) fun t4_7 =>
  K (.agg t4_7) s_6) s_3) s_1) s
def vc_segment_algorithms_2_ann : Nat → List Nat := fun _ => []
theorem vc_segment_algorithms_2_eq (X : Told) (l0 : AVal) (bd1 : AVal) (K : AVal → Heap → Prop) (s : Heap) : wpC Tryd.prog X vc_segment_algorithms_2_ann Tryd.f51.ntmps none (bodyOf Tryd.f51) (envOf [l0, bd1]) (fun e env s => retK e (resK Tryd.prog Tryd.f51.results.toList env (fun vs => K (oneV vs) s) s)) s = vc_segment_algorithms_2 X l0 bd1 K s := by kernel_rfl
theorem vc_segment_algorithms_2_ok {X : Told} (hX : FrX X) (hn : X 51 = none) {l0 : AVal} {bd1 : AVal} {K : AVal → Heap → Prop} {s : Heap} (h : vc_segment_algorithms_2 X l0 bd1 K s) : wpCall Tryd.prog X 51 [l0, bd1] K s :=
  wpCall_code hX vc_segment_algorithms_2_ann hn Tryd.func51 (by kernel_rfl : Tryd.f51.body = some (bodyOf Tryd.f51)) (by kernel_rfl) ((vc_segment_algorithms_2_eq X l0 bd1 K s).mpr h)
theorem vc_segment_algorithms_2_in {l0 : AVal} {bd1 : AVal} {K : AVal → Heap → Prop} {s : Heap} (h : vc_segment_algorithms_2 XX l0 bd1 K s) : wpCall Tryd.prog XX 51 [l0, bd1] K s := vc_segment_algorithms_2_ok XX_fr rfl h
/-- leafmesh/segment.greatest[leafmesh/api.Candidate,uint64] (52) -/
def vc_segment_greatest_api_Candidate_uint64__j1 (X : Told) (most6 : AVal) (t21 : AVal) (I0 : List AVal → Heap → Nat → Prop) (m0 : Nat) (K : AVal → Heap → Prop) (s : Heap) : Prop :=
  optK (arithV .add t21 (.int .i64 1)) fun v_24 =>
  ∃ m', m' < m0 ∧ I0 [most6, v_24] s m'
def vc_segment_greatest_api_Candidate_uint64__l0 (X : Told) (key1 : AVal) (t4 : AVal) (best5 : AVal) (most6 : AVal) (t19 : AVal) (t20 : AVal) (t21 : AVal) (I0 : List AVal → Heap → Nat → Prop) (m0 : Nat) (K : AVal → Heap → Prop) (s : Heap) : Prop :=
  optK (arithV .lss t21 t20) fun v_14 =>
  boolK v_14
   (optK (iaddrS 2 t19 t21) fun v_15 =>
    optK (rdN s 2 v_15) fun v_16 =>
    newK 35 [(.int .u32 0), (.int .i64 0)] (fun b_17 s_18 =>
    optK (wrAgg s_18 2 (.ptr b_17 0) (.agg v_16)) fun s_19 =>
    optK (rdN s_19 2 (.ptr b_17 0)) fun v_20 =>
    funK Tryd.prog X key1 [(.agg v_20)] (fun v_21 s_22 =>
    optK (arithV .gtr v_21 most6) fun v_23 =>
    boolK v_23
     (optK (rdN s_22 2 (.ptr b_17 0)) fun v_25 =>
      optK (wrAgg s_22 2 best5 (.agg v_25)) fun s_26 =>
      vc_segment_greatest_api_Candidate_uint64__j1 X v_21 t21 I0 m0 K s_26)
     (vc_segment_greatest_api_Candidate_uint64__j1 X most6 t21 I0 m0 K s_22)) s_19) s)
   (optK (rdN s 2 best5) fun v_27 =>
    optK (wrAgg s 2 t4 (.agg v_27)) fun s_28 =>
    optK (rdN s_28 2 t4) fun t4_29 =>
    K (.agg t4_29) s_28)
def vc_segment_greatest_api_Candidate_uint64_ (X : Told) (l0 : AVal) (key1 : AVal) (K : AVal → Heap → Prop) (s : Heap) : Prop :=
  newK 35 [(.int .u32 0), (.int .i64 0)] (fun b_0 s_1 =>
  optK (iaddrS 2 l0 (.int .i64 0)) fun v_2 =>
  optK (rdN s_1 2 v_2) fun v_3 =>
  optK (iaddrS 2 l0 (.int .i64 0)) fun v_4 =>
  optK (rdN s_1 2 v_4) fun v_5 =>
  funK Tryd.prog X key1 [(.agg v_5)] (fun v_6 s_7 =>
  (∀ b, s_1 b ≠ none → s_1 b = none → s_7 b = none) →
  newK 35 [(.int .u32 0), (.int .i64 0)] (fun b_8 s_9 =>
  (∀ b, (add s_1 s_7) b ≠ none → (cutH [(s_1, (add s_1 s_7))] (add s_1 s_7)) b = none → s_9 b = none) →
  optK (wrAgg (add (add s_1 s_7) s_9) 2 (.ptr b_8 0) (.agg v_3)) fun s_10 =>
  optK (sliceS 2 l0 (some (.int .i64 1)) none none) fun v_11 =>
  optK (lenOfA v_11) fun v_12 =>
  ∃ I0 : List AVal → Heap → Nat → Prop, (∃ m, I0 [v_6, (.int .i64 0)] s_10 m) ∧ ∀ (f : Env) (s : Heap) (m0 : Nat), I0 [f 6, f 21] s m0 →
    vc_segment_greatest_api_Candidate_uint64__l0 X key1 (.ptr b_0 0) (.ptr b_8 0) (f 6) v_11 (.int .i64 v_12) (f 21) I0 m0 K s) (frz (cutH [(s_1, (add s_1 s_7))] (add s_1 s_7)))) (frz s_1)) s
def vc_segment_greatest_api_Candidate_uint64__ann : Nat → List Nat := fun k => cond (Nat.beq k 6) [6, 21] ([])
theorem vc_segment_greatest_api_Candidate_uint64__eq (X : Told) (l0 : AVal) (key1 : AVal) (K : AVal → Heap → Prop) (s : Heap) : wpC Tryd.prog X vc_segment_greatest_api_Candidate_uint64__ann Tryd.f52.ntmps none (bodyOf Tryd.f52) (envOf [l0, key1]) (fun e env s => retK e (resK Tryd.prog Tryd.f52.results.toList env (fun vs => K (oneV vs) s) s)) s = vc_segment_greatest_api_Candidate_uint64_ X l0 key1 K s := by kernel_rfl
theorem vc_segment_greatest_api_Candidate_uint64__ok {X : Told} (hX : FrX X) (hn : X 52 = none) {l0 : AVal} {key1 : AVal} {K : AVal → Heap → Prop} {s : Heap} (h : vc_segment_greatest_api_Candidate_uint64_ X l0 key1 K s) : wpCall Tryd.prog X 52 [l0, key1] K s :=
  wpCall_code hX vc_segment_greatest_api_Candidate_uint64__ann hn Tryd.func52 (by kernel_rfl : Tryd.f52.body = some (bodyOf Tryd.f52)) (by kernel_rfl) ((vc_segment_greatest_api_Candidate_uint64__eq X l0 key1 K s).mpr h)
theorem vc_segment_greatest_api_Candidate_uint64__in {l0 : AVal} {key1 : AVal} {K : AVal → Heap → Prop} {s : Heap} (h : vc_segment_greatest_api_Candidate_uint64_ XX l0 key1 K s) : wpCall Tryd.prog XX 52 [l0, key1] K s := vc_segment_greatest_api_Candidate_uint64__ok XX_fr rfl h
/-- leafmesh/segment.algorithms$2$1 (53) -/
def vc_segment_algorithms_2_1 (X : Told) (c0 : AVal) (t1 : AVal) (K : AVal → Heap → Prop) (s : Heap) : Prop :=
  boxK 35 c0 (fun b_0 s_1 =>
  optK (addOff 0 b_0) fun v_2 =>
  optK (rd1 s_1 v_2) fun v_3 =>
  optK (rd1 s_1 t1) fun v_4 =>
  wpCall Tryd.prog X 18 [v_3, v_4] (fun v_5 s_6 =>
  K v_5 s_6) s_1) s
def vc_segment_algorithms_2_1_ann : Nat → List Nat := fun _ => []
theorem vc_segment_algorithms_2_1_eq (X : Told) (c0 : AVal) (t1 : AVal) (K : AVal → Heap → Prop) (s : Heap) : wpC Tryd.prog X vc_segment_algorithms_2_1_ann Tryd.f53.ntmps none (bodyOf Tryd.f53) (envOf [c0, t1]) (fun e env s => retK e (resK Tryd.prog Tryd.f53.results.toList env (fun vs => K (oneV vs) s) s)) s = vc_segment_algorithms_2_1 X c0 t1 K s := by kernel_rfl
theorem vc_segment_algorithms_2_1_ok {X : Told} (hX : FrX X) (hn : X 53 = none) {c0 : AVal} {t1 : AVal} {K : AVal → Heap → Prop} {s : Heap} (h : vc_segment_algorithms_2_1 X c0 t1 K s) : wpCall Tryd.prog X 53 [c0, t1] K s :=
  wpCall_code hX vc_segment_algorithms_2_1_ann hn Tryd.func53 (by kernel_rfl : Tryd.f53.body = some (bodyOf Tryd.f53)) (by kernel_rfl) ((vc_segment_algorithms_2_1_eq X c0 t1 K s).mpr h)
theorem vc_segment_algorithms_2_1_in {c0 : AVal} {t1 : AVal} {K : AVal → Heap → Prop} {s : Heap} (h : vc_segment_algorithms_2_1 XX c0 t1 K s) : wpCall Tryd.prog XX 53 [c0, t1] K s := vc_segment_algorithms_2_1_ok XX_fr rfl h
/-- leafmesh/segment.algorithms$3 (54) -/
def vc_segment_algorithms_3 (X : Told) (l0 : AVal) (t1 : AVal) (K : AVal → Heap → Prop) (s : Heap) : Prop :=
  newK 35 [(.int .u32 0), (.int .i64 0)] (fun b_0 s_1 =>
  wpCall Tryd.prog X 55 [l0, (.fn (.func 56) [] [])] (fun v_2 s_3 =>
  optK (wrAgg s_3 2 (.ptr b_0 0) v_2) fun s_4 =>
  optK (rdN s_4 2 (.ptr b_0 0)) fun t4_5 =>
  K (.agg t4_5) s_4) s_1) s
def vc_segment_algorithms_3_ann : Nat → List Nat := fun _ => []
theorem vc_segment_algorithms_3_eq (X : Told) (l0 : AVal) (t1 : AVal) (K : AVal → Heap → Prop) (s : Heap) : wpC Tryd.prog X vc_segment_algorithms_3_ann Tryd.f54.ntmps none (bodyOf Tryd.f54) (envOf [l0, t1]) (fun e env s => retK e (resK Tryd.prog Tryd.f54.results.toList env (fun vs => K (oneV vs) s) s)) s = vc_segment_algorithms_3 X l0 t1 K s := by kernel_rfl
theorem vc_segment_algorithms_3_ok {X : Told} (hX : FrX X) (hn : X 54 = none) {l0 : AVal} {t1 : AVal} {K : AVal → Heap → Prop} {s : Heap} (h : vc_segment_algorithms_3 X l0 t1 K s) : wpCall Tryd.prog X 54 [l0, t1] K s :=
  wpCall_code hX vc_segment_algorithms_3_ann hn Tryd.func54 (by kernel_rfl : Tryd.f54.body = some (bodyOf Tryd.f54)) (by kernel_rfl) ((vc_segment_algorithms_3_eq X l0 t1 K s).mpr h)
theorem vc_segment_algorithms_3_in {l0 : AVal} {t1 : AVal} {K : AVal → Heap → Prop} {s : Heap} (h : vc_segment_algorithms_3 XX l0 t1 K s) : wpCall Tryd.prog XX 54 [l0, t1] K s := vc_segment_algorithms_3_ok XX_fr rfl h
/-- leafmesh/segment.greatest[leafmesh/api.Candidate,int] (55) -/
def vc_segment_greatest_api_Candidate_int__j1 (X : Told) (most6 : AVal) (t21 : AVal) (I0 : List AVal → Heap → Nat → Prop) (m0 : Nat) (K : AVal → Heap → Prop) (s : Heap) : Prop :=
  optK (arithV .add t21 (.int .i64 1)) fun v_24 =>
  ∃ m', m' < m0 ∧ I0 [most6, v_24] s m'
def vc_segment_greatest_api_Candidate_int__l0 (X : Told) (key1 : AVal) (t4 : AVal) (best5 : AVal) (most6 : AVal) (t19 : AVal) (t20 : AVal) (t21 : AVal) (I0 : List AVal → Heap → Nat → Prop) (m0 : Nat) (K : AVal → Heap → Prop) (s : Heap) : Prop :=
  optK (arithV .lss t21 t20) fun v_14 =>
  boolK v_14
   (optK (iaddrS 2 t19 t21) fun v_15 =>
    optK (rdN s 2 v_15) fun v_16 =>
    newK 35 [(.int .u32 0), (.int .i64 0)] (fun b_17 s_18 =>
    optK (wrAgg s_18 2 (.ptr b_17 0) (.agg v_16)) fun s_19 =>
    optK (rdN s_19 2 (.ptr b_17 0)) fun v_20 =>
    funK Tryd.prog X key1 [(.agg v_20)] (fun v_21 s_22 =>
    optK (arithV .gtr v_21 most6) fun v_23 =>
    boolK v_23
     (optK (rdN s_22 2 (.ptr b_17 0)) fun v_25 =>
      optK (wrAgg s_22 2 best5 (.agg v_25)) fun s_26 =>
      vc_segment_greatest_api_Candidate_int__j1 X v_21 t21 I0 m0 K s_26)
     (vc_segment_greatest_api_Candidate_int__j1 X most6 t21 I0 m0 K s_22)) s_19) s)
   (optK (rdN s 2 best5) fun v_27 =>
    optK (wrAgg s 2 t4 (.agg v_27)) fun s_28 =>
    optK (rdN s_28 2 t4) fun t4_29 =>
    K (.agg t4_29) s_28)
def vc_segment_greatest_api_Candidate_int_ (X : Told) (l0 : AVal) (key1 : AVal) (K : AVal → Heap → Prop) (s : Heap) : Prop :=
  newK 35 [(.int .u32 0), (.int .i64 0)] (fun b_0 s_1 =>
  optK (iaddrS 2 l0 (.int .i64 0)) fun v_2 =>
  optK (rdN s_1 2 v_2) fun v_3 =>
  optK (iaddrS 2 l0 (.int .i64 0)) fun v_4 =>
  optK (rdN s_1 2 v_4) fun v_5 =>
  funK Tryd.prog X key1 [(.agg v_5)] (fun v_6 s_7 =>
  (∀ b, s_1 b ≠ none → s_1 b = none → s_7 b = none) →
  newK 35 [(.int .u32 0), (.int .i64 0)] (fun b_8 s_9 =>
  (∀ b, (add s_1 s_7) b ≠ none → (cutH [(s_1, (add s_1 s_7))] (add s_1 s_7)) b = none → s_9 b = none) →
  optK (wrAgg (add (add s_1 s_7) s_9) 2 (.ptr b_8 0) (.agg v_3)) fun s_10 =>
  optK (sliceS 2 l0 (some (.int .i64 1)) none none) fun v_11 =>
  optK (lenOfA v_11) fun v_12 =>
  ∃ I0 : List AVal → Heap → Nat → Prop, (∃ m, I0 [v_6, (.int .i64 0)] s_10 m) ∧ ∀ (f : Env) (s : Heap) (m0 : Nat), I0 [f 6, f 21] s m0 →
    vc_segment_greatest_api_Candidate_int__l0 X key1 (.ptr b_0 0) (.ptr b_8 0) (f 6) v_11 (.int .i64 v_12) (f 21) I0 m0 K s) (frz (cutH [(s_1, (add s_1 s_7))] (add s_1 s_7)))) (frz s_1)) s
def vc_segment_greatest_api_Candidate_int__ann : Nat → List Nat := fun k => cond (Nat.beq k 6) [6, 21] ([])
theorem vc_segment_greatest_api_Candidate_int__eq (X : Told) (l0 : AVal) (key1 : AVal) (K : AVal → Heap → Prop) (s : Heap) : wpC Tryd.prog X vc_segment_greatest_api_Candidate_int__ann Tryd.f55.ntmps none (bodyOf Tryd.f55) (envOf [l0, key1]) (fun e env s => retK e (resK Tryd.prog Tryd.f55.results.toList env (fun vs => K (oneV vs) s) s)) s = vc_segment_greatest_api_Candidate_int_ X l0 key1 K s := by kernel_rfl
theorem vc_segment_greatest_api_Candidate_int__ok {X : Told} (hX : FrX X) (hn : X 55 = none) {l0 : AVal} {key1 : AVal} {K : AVal → Heap → Prop} {s : Heap} (h : vc_segment_greatest_api_Candidate_int_ X l0 key1 K s) : wpCall Tryd.prog X 55 [l0, key1] K s :=
  wpCall_code hX vc_segment_greatest_api_Candidate_int__ann hn Tryd.func55 (by kernel_rfl : Tryd.f55.body = some (bodyOf Tryd.f55)) (by kernel_rfl) ((vc_segment_greatest_api_Candidate_int__eq X l0 key1 K s).mpr h)
theorem vc_segment_greatest_api_Candidate_int__in {l0 : AVal} {key1 : AVal} {K : AVal → Heap → Prop} {s : Heap} (h : vc_segment_greatest_api_Candidate_int_ XX l0 key1 K s) : wpCall Tryd.prog XX 55 [l0, key1] K s := vc_segment_greatest_api_Candidate_int__ok XX_fr rfl h
/-- leafmesh/segment.algorithms$3$1 (56) -/
def vc_segment_algorithms_3_1 (X : Told) (c0 : AVal) (K : AVal → Heap → Prop) (s : Heap) : Prop :=
  boxK 35 c0 (fun b_0 s_1 =>
  optK (addOff 1 b_0) fun v_2 =>
  optK (rd1 s_1 v_2) fun v_3 =>
  K v_3 s_1) s
def vc_segment_algorithms_3_1_ann : Nat → List Nat := fun _ => []
theorem vc_segment_algorithms_3_1_eq (X : Told) (c0 : AVal) (K : AVal → Heap → Prop) (s : Heap) : wpC Tryd.prog X vc_segment_algorithms_3_1_ann Tryd.f56.ntmps none (bodyOf Tryd.f56) (envOf [c0]) (fun e env s => retK e (resK Tryd.prog Tryd.f56.results.toList env (fun vs => K (oneV vs) s) s)) s = vc_segment_algorithms_3_1 X c0 K s := by kernel_rfl
theorem vc_segment_algorithms_3_1_ok {X : Told} (hX : FrX X) (hn : X 56 = none) {c0 : AVal} {K : AVal → Heap → Prop} {s : Heap} (h : vc_segment_algorithms_3_1 X c0 K s) : wpCall Tryd.prog X 56 [c0] K s :=
  wpCall_code hX vc_segment_algorithms_3_1_ann hn Tryd.func56 (by kernel_rfl : Tryd.f56.body = some (bodyOf Tryd.f56)) (by kernel_rfl) ((vc_segment_algorithms_3_1_eq X c0 K s).mpr h)
theorem vc_segment_algorithms_3_1_in {c0 : AVal} {K : AVal → Heap → Prop} {s : Heap} (h : vc_segment_algorithms_3_1 XX c0 K s) : wpCall Tryd.prog XX 56 [c0] K s := vc_segment_algorithms_3_1_ok XX_fr rfl h
end Go.AM
