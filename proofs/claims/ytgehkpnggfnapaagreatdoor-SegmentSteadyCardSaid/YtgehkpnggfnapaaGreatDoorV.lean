/- Part V of a calculus over a small memory that is proved to answer as the program does, and of its use for the functions that the law reaches: see the last part. -/
import Derived.Test.YtgehkpnggfnapaaGreatDoorU2
import Derived.Test.YtgehkpnggfnapaaGreatDoorProg
import Derived.KernelRfl
set_option linter.unusedVariables false
namespace Go.AM
open Go Go.Proofs
set_option maxRecDepth 100000
/-- the numbers of the table that the program's own text lays -/
abbrev kindsL : List AVal := [.int .i64 1, .int .u8 0, .int .u8 2, .int .i64 2, .int .u8 3, .int .u8 12, .int .i64 3, .int .u8 6, .int .u8 0, .int .i64 4, .int .u8 6, .int .u8 1, .int .i64 5, .int .u8 6, .int .u8 2, .int .i64 6, .int .u8 6, .int .u8 3, .int .i64 7, .int .u8 6, .int .u8 6]
abbrev XX : Told := closedG 0 kindsL [3]
theorem XX_fr : FrX XX := closedG_fr _ _ _
/-- leafmesh/leafmeshlaw25.SegmentTurns (5) -/
def vc_leafmeshlaw25_SegmentTurns_j1 (X : Told) (seen7 : AVal) (i8 : AVal) (ip9 : AVal) (t33 : AVal) (t36 : AVal) (I0 : List AVal → Heap → Nat → Prop) (m0 : Nat) (K : AVal → Heap → Prop) (s : Heap) : Prop :=
  optK (pickV t33 (.bool true) t36) fun v_15 =>
  boolK v_15
   (K (.bool false) s)
   (optK (fillR (repl 1 [(.int .u32 0)]) [(0, 1, ip9)]) fun c_16 => allOne c_16 = true ∧ newK 33 c_16 (fun b_17 s_18 =>
    appK 33 1 seen7 (.slc b_17 0 1 (some 1) 1) (fun v_19 s_20 =>
    optK (arithV .add i8 (.int .i64 1)) fun v_21 =>
    ∃ m', m' < m0 ∧ I0 [v_19, v_21] s_20 m') s_18) s)
def vc_leafmeshlaw25_SegmentTurns_l2 (X : Told) (ok5 : AVal) (l6 : AVal) (seen7 : AVal) (i11 : AVal) (I2 : List AVal → Heap → Nat → Prop) (m2 : Nat) (K : AVal → Heap → Prop) (s : Heap) : Prop :=
  optK (lenOfA l6) fun v_24 =>
  optK (arithV .lss i11 (.int .i64 v_24)) fun v_26 =>
  boolK v_26
   (optK (iaddrS 2 l6 i11) fun v_27 =>
    optK (addOff 0 v_27) fun v_28 =>
    optK (rd1 s v_28) fun v_29 =>
    wpCall Tryz.prog X 29 [seen7, v_29] (fun v_30 s_31 =>
    optK (unaryA .not v_30) fun v_32 =>
    boolK v_32
     (K (.bool false) s_31)
     (optK (arithV .add i11 (.int .i64 1)) fun v_33 =>
      ∃ m', m' < m2 ∧ I2 [v_33] s_31 m')) s)
   (K ok5 s)
def vc_leafmeshlaw25_SegmentTurns_l0 (X : Told) (first1 : AVal) (ok5 : AVal) (l6 : AVal) (seen7 : AVal) (i8 : AVal) (I0 : List AVal → Heap → Nat → Prop) (m0 : Nat) (K : AVal → Heap → Prop) (s : Heap) : Prop :=
  optK (lenOfA l6) fun v_6 =>
  optK (arithV .lss i8 (.int .i64 v_6)) fun v_8 =>
  boolK v_8
   (optK (arithV .add first1 i8) fun v_9 =>
    wpCall Tryz.prog X 28 [(.int .i64 0), l6, v_9] (fun v_10 s_11 =>
    optK (extractA v_10 0) fun v_12 =>
    optK (extractA v_10 1) fun v_13 =>
    optK (unaryA .not v_13) fun v_14 =>
    boolK v_14
     (vc_leafmeshlaw25_SegmentTurns_j1 X seen7 i8 v_12 v_14 .undef I0 m0 K s_11)
     (wpCall Tryz.prog X 29 [seen7, v_12] (fun v_22 s_23 =>
      vc_leafmeshlaw25_SegmentTurns_j1 X seen7 i8 v_12 v_14 v_22 I0 m0 K s_23) s_11)) s)
   (∃ I2 : List AVal → Heap → Nat → Prop, (∃ m, I2 [(.int .i64 0)] s m) ∧ ∀ (f : Env) (s : Heap) (m2 : Nat), I2 [f 11] s m2 →
      vc_leafmeshlaw25_SegmentTurns_l2 X ok5 l6 seen7 (f 11) I2 m2 K s)
def vc_leafmeshlaw25_SegmentTurns (X : Told) (prefs0 : AVal) (first1 : AVal) (K : AVal → Heap → Prop) (s : Heap) : Prop :=
  wpCall Tryz.prog X 3 [] (fun v_0 s_1 =>
  wpCall Tryz.prog X 27 [prefs0] (fun v_2 s_3 =>
  wpCall Tryz.prog X 22 [first1, (.int .i64 1048576)] (fun v_4 s_5 =>
  ∃ I0 : List AVal → Heap → Nat → Prop, (∃ m, I0 [.nilslc, (.int .i64 0)] s_5 m) ∧ ∀ (f : Env) (s : Heap) (m0 : Nat), I0 [f 7, f 8] s m0 →
    vc_leafmeshlaw25_SegmentTurns_l0 X v_4 v_0 v_2 (f 7) (f 8) I0 m0 K s) s_3) s_1) s
def vc_leafmeshlaw25_SegmentTurns_ann : Nat → List Nat := fun k => cond (Nat.beq k 12) [7, 8] (cond (Nat.beq k 26) [11] ([]))
theorem vc_leafmeshlaw25_SegmentTurns_eq (X : Told) (prefs0 : AVal) (first1 : AVal) (K : AVal → Heap → Prop) (s : Heap) : wpC Tryz.prog X vc_leafmeshlaw25_SegmentTurns_ann Tryz.f5.ntmps none (bodyOf Tryz.f5) (envOf [prefs0, first1]) (fun e env s => retK e (resK Tryz.prog Tryz.f5.results.toList env (fun vs => K (oneV vs) s) s)) s = vc_leafmeshlaw25_SegmentTurns X prefs0 first1 K s := by kernel_rfl
theorem vc_leafmeshlaw25_SegmentTurns_ok {X : Told} (hX : FrX X) (hn : X 5 = none) {prefs0 : AVal} {first1 : AVal} {K : AVal → Heap → Prop} {s : Heap} (h : vc_leafmeshlaw25_SegmentTurns X prefs0 first1 K s) : wpCall Tryz.prog X 5 [prefs0, first1] K s :=
  wpCall_code hX vc_leafmeshlaw25_SegmentTurns_ann hn Tryz.func5 (by kernel_rfl : Tryz.f5.body = some (bodyOf Tryz.f5)) (by kernel_rfl) ((vc_leafmeshlaw25_SegmentTurns_eq X prefs0 first1 K s).mpr h)
theorem vc_leafmeshlaw25_SegmentTurns_in {prefs0 : AVal} {first1 : AVal} {K : AVal → Heap → Prop} {s : Heap} (h : vc_leafmeshlaw25_SegmentTurns XX prefs0 first1 K s) : wpCall Tryz.prog XX 5 [prefs0, first1] K s := vc_leafmeshlaw25_SegmentTurns_ok XX_fr rfl h
/-- leafmesh/leafmeshlaw25.SegmentSteady (6) -/
def vc_leafmeshlaw25_SegmentSteady_j3 (X : Told) (alg11 : AVal) (t72 : AVal) (t80 : AVal) (t83 : AVal) (I0 : List AVal → Heap → Nat → Prop) (m0 : Nat) (K : AVal → Heap → Prop) (s : Heap) : Prop :=
  optK (pickV t80 t83 (.bool false)) fun v_41 =>
  optK (pickV t72 (.bool true) v_41) fun v_42 =>
  boolK v_42
   (K (.bool false) s)
   (optK (arithV .add alg11 (.int .i64 1)) fun v_43 =>
    ∃ m', m' < m0 ∧ I0 [v_43] s m')
def vc_leafmeshlaw25_SegmentSteady_j2 (X : Told) (l8 : AVal) (k9 : AVal) (alg11 : AVal) (t12 : AVal) (without14 : AVal) (t63 : AVal) (t70 : AVal) (I0 : List AVal → Heap → Nat → Prop) (m0 : Nat) (K : AVal → Heap → Prop) (s : Heap) : Prop :=
  optK (pickV t63 (.bool true) t70) fun v_34 =>
  boolK v_34
   (optK (pickV v_34 (.bool true) .undef) fun v_35 =>
    boolK v_35
     (K (.bool false) s)
     (optK (arithV .add alg11 (.int .i64 1)) fun v_36 =>
      ∃ m', m' < m0 ∧ I0 [v_36] s m'))
   (optK (iaddrS 2 l8 k9) fun v_37 =>
    optK (addOff 0 v_37) fun v_38 =>
    optK (rd1 s v_38) fun v_39 =>
    optK (negB true (eqV 0 false t12 v_39)) fun v_40 =>
    boolK v_40
     (optK (negB true (eqV 0 false t12 without14)) fun v_44 =>
      vc_leafmeshlaw25_SegmentSteady_j3 X alg11 v_34 v_40 v_44 I0 m0 K s)
     (vc_leafmeshlaw25_SegmentSteady_j3 X alg11 v_34 v_40 .undef I0 m0 K s))
def vc_leafmeshlaw25_SegmentSteady_j1 (X : Told) (l8 : AVal) (k9 : AVal) (alg11 : AVal) (t12 : AVal) (without14 : AVal) (t59 : AVal) (t61 : AVal) (I0 : List AVal → Heap → Nat → Prop) (m0 : Nat) (K : AVal → Heap → Prop) (s : Heap) : Prop :=
  optK (pickV t59 (.bool true) t61) fun v_33 =>
  boolK v_33
   (vc_leafmeshlaw25_SegmentSteady_j2 X l8 k9 alg11 t12 without14 v_33 .undef I0 m0 K s)
   (optK (iaddrS 2 l8 k9) fun v_45 =>
    optK (addOff 0 v_45) fun v_46 =>
    optK (rd1 s v_46) fun v_47 =>
    optK (negB false (eqV 0 false without14 v_47)) fun v_48 =>
    vc_leafmeshlaw25_SegmentSteady_j2 X l8 k9 alg11 t12 without14 v_33 v_48 I0 m0 K s)
def vc_leafmeshlaw25_SegmentSteady_l0 (X : Told) (bd2 : AVal) (ok7 : AVal) (l8 : AVal) (k9 : AVal) (less10 : AVal) (alg11 : AVal) (I0 : List AVal → Heap → Nat → Prop) (m0 : Nat) (K : AVal → Heap → Prop) (s : Heap) : Prop :=
  optK (arithV .leq alg11 (.int .i64 2)) fun v_23 =>
  boolK v_23
   (wpCall Tryz.prog X 28 [alg11, l8, bd2] (fun v_24 s_25 =>
    optK (extractA v_24 0) fun v_26 =>
    optK (extractA v_24 1) fun v_27 =>
    wpCall Tryz.prog X 28 [alg11, less10, bd2] (fun v_28 s_29 =>
    optK (extractA v_28 0) fun v_30 =>
    optK (extractA v_28 1) fun v_31 =>
    optK (unaryA .not v_27) fun v_32 =>
    boolK v_32
     (vc_leafmeshlaw25_SegmentSteady_j1 X l8 k9 alg11 v_26 v_30 v_32 .undef I0 m0 K s_29)
     (optK (unaryA .not v_31) fun v_49 =>
      vc_leafmeshlaw25_SegmentSteady_j1 X l8 k9 alg11 v_26 v_30 v_32 v_49 I0 m0 K s_29)) s_25) s)
   (K ok7 s)
def vc_leafmeshlaw25_SegmentSteady (X : Told) (prefs0 : AVal) (which1 : AVal) (bd2 : AVal) (K : AVal → Heap → Prop) (s : Heap) : Prop :=
  wpCall Tryz.prog X 3 [] (fun v_0 s_1 =>
  wpCall Tryz.prog X 27 [prefs0] (fun v_2 s_3 =>
  optK (lenOfA v_2) fun v_4 =>
  optK (arithV .lss (.int .i64 v_4) (.int .i64 2)) fun v_6 =>
  boolK v_6
   (K v_0 s_3)
   (optK (lenOfA v_2) fun v_7 =>
    wpCall Tryz.prog X 22 [which1, (.int .i64 v_7)] (fun v_9 s_10 =>
    wpCall Tryz.prog X 22 [bd2, (.int .i64 1048576)] (fun v_11 s_12 =>
    optK (fillR (repl 0 [(.int .u32 0), (.int .i64 0)]) []) fun c_13 => allOne c_13 = true ∧ newK 36 c_13 (fun b_14 s_15 =>
    optK (sliceS 2 v_2 none (some v_9) none) fun v_16 =>
    appK 36 2 (.slc b_14 0 0 (some 0) 2) v_16 (fun v_17 s_18 =>
    optK (arithV .add v_9 (.int .i64 1)) fun v_19 =>
    optK (sliceS 2 v_2 (some v_19) none none) fun v_20 =>
    appK 36 2 v_17 v_20 (fun v_21 s_22 =>
    ∃ I0 : List AVal → Heap → Nat → Prop, (∃ m, I0 [(.int .i64 1)] s_22 m) ∧ ∀ (f : Env) (s : Heap) (m0 : Nat), I0 [f 11] s m0 →
      vc_leafmeshlaw25_SegmentSteady_l0 X v_11 v_0 v_2 v_9 v_21 (f 11) I0 m0 K s) s_18) s_15) s_12) s_10) s_3)) s_1) s
def vc_leafmeshlaw25_SegmentSteady_ann : Nat → List Nat := fun k => cond (Nat.beq k 16) [11] ([])
theorem vc_leafmeshlaw25_SegmentSteady_eq (X : Told) (prefs0 : AVal) (which1 : AVal) (bd2 : AVal) (K : AVal → Heap → Prop) (s : Heap) : wpC Tryz.prog X vc_leafmeshlaw25_SegmentSteady_ann Tryz.f6.ntmps none (bodyOf Tryz.f6) (envOf [prefs0, which1, bd2]) (fun e env s => retK e (resK Tryz.prog Tryz.f6.results.toList env (fun vs => K (oneV vs) s) s)) s = vc_leafmeshlaw25_SegmentSteady X prefs0 which1 bd2 K s := by kernel_rfl
theorem vc_leafmeshlaw25_SegmentSteady_ok {X : Told} (hX : FrX X) (hn : X 6 = none) {prefs0 : AVal} {which1 : AVal} {bd2 : AVal} {K : AVal → Heap → Prop} {s : Heap} (h : vc_leafmeshlaw25_SegmentSteady X prefs0 which1 bd2 K s) : wpCall Tryz.prog X 6 [prefs0, which1, bd2] K s :=
  wpCall_code hX vc_leafmeshlaw25_SegmentSteady_ann hn Tryz.func6 (by kernel_rfl : Tryz.f6.body = some (bodyOf Tryz.f6)) (by kernel_rfl) ((vc_leafmeshlaw25_SegmentSteady_eq X prefs0 which1 bd2 K s).mpr h)
theorem vc_leafmeshlaw25_SegmentSteady_in {prefs0 : AVal} {which1 : AVal} {bd2 : AVal} {K : AVal → Heap → Prop} {s : Heap} (h : vc_leafmeshlaw25_SegmentSteady XX prefs0 which1 bd2 K s) : wpCall Tryz.prog XX 6 [prefs0, which1, bd2] K s := vc_leafmeshlaw25_SegmentSteady_ok XX_fr rfl h
/-- leafmesh/leafmeshlaw25.candidates (27) -/
def vc_leafmeshlaw25_candidates_j1 (X : Told) (prefs0 : AVal) (out3 : AVal) (i4 : AVal) (t9 : AVal) (t11 : AVal) (I0 : List AVal → Heap → Nat → Prop) (m0 : Nat) (K : AVal → Heap → Prop) (s : Heap) : Prop :=
  optK (pickV t9 t11 (.bool false)) fun v_3 =>
  boolK v_3
   (wpCall Tryz.prog X 14 [i4] (fun v_4 s_5 =>
    (∀ b, s b ≠ none → s b = none → s_5 b = none) →
    optK (iaddrS 1 prefs0 i4) fun v_6 =>
    optK (rd1 (cutH [(s, (add s s_5))] (add s s_5)) v_6) fun v_7 =>
    wpCall Tryz.prog X 22 [v_7, (.int .i64 65536)] (fun v_8 s_9 =>
    optK (fillR [(.int .u32 0), (.int .i64 0)] [(0, 1, v_4), (1, 1, v_8)]) fun c_10 =>
    optK (fillR (repl 1 [(.int .u32 0), (.int .i64 0)]) [(0, 2, (.agg c_10))]) fun c_11 => allOne c_11 = true ∧ newK 36 c_11 (fun b_12 s_13 =>
    appK 36 2 out3 (.slc b_12 0 1 (some 1) 2) (fun v_14 s_15 =>
    optK (arithV .add i4 (.int .i64 1)) fun v_16 =>
    ∃ m', m' < m0 ∧ I0 [v_14, v_16] s_15 m') s_13) s_9) (add s s_5)) (frz s))
   (K out3 s)
def vc_leafmeshlaw25_candidates_l0 (X : Told) (prefs0 : AVal) (out3 : AVal) (i4 : AVal) (I0 : List AVal → Heap → Nat → Prop) (m0 : Nat) (K : AVal → Heap → Prop) (s : Heap) : Prop :=
  optK (lenOfA prefs0) fun v_0 =>
  optK (arithV .lss i4 (.int .i64 v_0)) fun v_2 =>
  boolK v_2
   (optK (arithV .lss i4 (.int .i64 20)) fun v_17 =>
    vc_leafmeshlaw25_candidates_j1 X prefs0 out3 i4 v_2 v_17 I0 m0 K s)
   (vc_leafmeshlaw25_candidates_j1 X prefs0 out3 i4 v_2 .undef I0 m0 K s)
def vc_leafmeshlaw25_candidates (X : Told) (prefs0 : AVal) (K : AVal → Heap → Prop) (s : Heap) : Prop :=
  ∃ I0 : List AVal → Heap → Nat → Prop, (∃ m, I0 [.nilslc, (.int .i64 0)] s m) ∧ ∀ (f : Env) (s : Heap) (m0 : Nat), I0 [f 3, f 4] s m0 →
    vc_leafmeshlaw25_candidates_l0 X prefs0 (f 3) (f 4) I0 m0 K s
def vc_leafmeshlaw25_candidates_ann : Nat → List Nat := fun k => cond (Nat.beq k 6) [3, 4] ([])
theorem vc_leafmeshlaw25_candidates_eq (X : Told) (prefs0 : AVal) (K : AVal → Heap → Prop) (s : Heap) : wpC Tryz.prog X vc_leafmeshlaw25_candidates_ann Tryz.f27.ntmps none (bodyOf Tryz.f27) (envOf [prefs0]) (fun e env s => retK e (resK Tryz.prog Tryz.f27.results.toList env (fun vs => K (oneV vs) s) s)) s = vc_leafmeshlaw25_candidates X prefs0 K s := by kernel_rfl
theorem vc_leafmeshlaw25_candidates_ok {X : Told} (hX : FrX X) (hn : X 27 = none) {prefs0 : AVal} {K : AVal → Heap → Prop} {s : Heap} (h : vc_leafmeshlaw25_candidates X prefs0 K s) : wpCall Tryz.prog X 27 [prefs0] K s :=
  wpCall_code hX vc_leafmeshlaw25_candidates_ann hn Tryz.func27 (by kernel_rfl : Tryz.f27.body = some (bodyOf Tryz.f27)) (by kernel_rfl) ((vc_leafmeshlaw25_candidates_eq X prefs0 K s).mpr h)
theorem vc_leafmeshlaw25_candidates_in {prefs0 : AVal} {K : AVal → Heap → Prop} {s : Heap} (h : vc_leafmeshlaw25_candidates XX prefs0 K s) : wpCall Tryz.prog XX 27 [prefs0] K s := vc_leafmeshlaw25_candidates_ok XX_fr rfl h
/-- leafmesh/leafmeshlaw25.loop (14) -/
def vc_leafmeshlaw25_loop (X : Told) (n0 : AVal) (K : AVal → Heap → Prop) (s : Heap) : Prop :=
  wpCall Tryz.prog X 41 [n0] (fun v_0 s_1 =>
  optK (extractA v_0 0) fun v_2 =>
  optK (extractA v_0 1) fun v_3 =>
  K v_2 s_1) s
def vc_leafmeshlaw25_loop_ann : Nat → List Nat := fun _ => []
theorem vc_leafmeshlaw25_loop_eq (X : Told) (n0 : AVal) (K : AVal → Heap → Prop) (s : Heap) : wpC Tryz.prog X vc_leafmeshlaw25_loop_ann Tryz.f14.ntmps none (bodyOf Tryz.f14) (envOf [n0]) (fun e env s => retK e (resK Tryz.prog Tryz.f14.results.toList env (fun vs => K (oneV vs) s) s)) s = vc_leafmeshlaw25_loop X n0 K s := by kernel_rfl
theorem vc_leafmeshlaw25_loop_ok {X : Told} (hX : FrX X) (hn : X 14 = none) {n0 : AVal} {K : AVal → Heap → Prop} {s : Heap} (h : vc_leafmeshlaw25_loop X n0 K s) : wpCall Tryz.prog X 14 [n0] K s :=
  wpCall_code hX vc_leafmeshlaw25_loop_ann hn Tryz.func14 (by kernel_rfl : Tryz.f14.body = some (bodyOf Tryz.f14)) (by kernel_rfl) ((vc_leafmeshlaw25_loop_eq X n0 K s).mpr h)
theorem vc_leafmeshlaw25_loop_in {n0 : AVal} {K : AVal → Heap → Prop} {s : Heap} (h : vc_leafmeshlaw25_loop XX n0 K s) : wpCall Tryz.prog XX 14 [n0] K s := vc_leafmeshlaw25_loop_ok XX_fr rfl h
/-- leafmesh/addr.Loopback (41) -/
def vc_addr_Loopback_j0 (X : Told) (n0 : AVal) (t6 : AVal) (t8 : AVal) (K : AVal → Heap → Prop) (s : Heap) : Prop :=
  optK (pickV t6 (.bool true) t8) fun v_1 =>
  boolK v_1
   (K (.tup [(.int .u32 0), (.int .i64 2)]) s)
   (optK (convI .u32 n0) fun v_2 =>
    optK (arithV .add (.int .u32 184483840) v_2) fun v_3 =>
    optK (arithV .add v_3 (.int .u32 1)) fun v_4 =>
    K (.tup [v_4, (.int .i64 0)]) s)
def vc_addr_Loopback (X : Told) (n0 : AVal) (K : AVal → Heap → Prop) (s : Heap) : Prop :=
  optK (arithV .lss n0 (.int .i64 0)) fun v_0 =>
  boolK v_0
   (vc_addr_Loopback_j0 X n0 v_0 .undef K s)
   (optK (arithV .geq n0 (.int .i64 32)) fun v_5 =>
    vc_addr_Loopback_j0 X n0 v_0 v_5 K s)
def vc_addr_Loopback_ann : Nat → List Nat := fun _ => []
theorem vc_addr_Loopback_eq (X : Told) (n0 : AVal) (K : AVal → Heap → Prop) (s : Heap) : wpC Tryz.prog X vc_addr_Loopback_ann Tryz.f41.ntmps none (bodyOf Tryz.f41) (envOf [n0]) (fun e env s => retK e (resK Tryz.prog Tryz.f41.results.toList env (fun vs => K (oneV vs) s) s)) s = vc_addr_Loopback X n0 K s := by kernel_rfl
theorem vc_addr_Loopback_ok {X : Told} (hX : FrX X) (hn : X 41 = none) {n0 : AVal} {K : AVal → Heap → Prop} {s : Heap} (h : vc_addr_Loopback X n0 K s) : wpCall Tryz.prog X 41 [n0] K s :=
  wpCall_code hX vc_addr_Loopback_ann hn Tryz.func41 (by kernel_rfl : Tryz.f41.body = some (bodyOf Tryz.f41)) (by kernel_rfl) ((vc_addr_Loopback_eq X n0 K s).mpr h)
theorem vc_addr_Loopback_in {n0 : AVal} {K : AVal → Heap → Prop} {s : Heap} (h : vc_addr_Loopback XX n0 K s) : wpCall Tryz.prog XX 41 [n0] K s := vc_addr_Loopback_ok XX_fr rfl h
/-- leafmesh/leafmeshkit.Pick (22) -/
def vc_leafmeshkit_Pick_j0 (X : Told) (x0 : AVal) (K : AVal → Heap → Prop) (s : Heap) : Prop :=
  K x0 s
def vc_leafmeshkit_Pick (X : Told) (x0 : AVal) (n1 : AVal) (K : AVal → Heap → Prop) (s : Heap) : Prop :=
  optK (arithV .rem x0 n1) fun v_0 =>
  optK (arithV .lss v_0 (.int .i64 0)) fun v_1 =>
  boolK v_1
   (optK (arithV .add v_0 n1) fun v_2 =>
    vc_leafmeshkit_Pick_j0 X v_2 K s)
   (vc_leafmeshkit_Pick_j0 X v_0 K s)
def vc_leafmeshkit_Pick_ann : Nat → List Nat := fun _ => []
theorem vc_leafmeshkit_Pick_eq (X : Told) (x0 : AVal) (n1 : AVal) (K : AVal → Heap → Prop) (s : Heap) : wpC Tryz.prog X vc_leafmeshkit_Pick_ann Tryz.f22.ntmps none (bodyOf Tryz.f22) (envOf [x0, n1]) (fun e env s => retK e (resK Tryz.prog Tryz.f22.results.toList env (fun vs => K (oneV vs) s) s)) s = vc_leafmeshkit_Pick X x0 n1 K s := by kernel_rfl
theorem vc_leafmeshkit_Pick_ok {X : Told} (hX : FrX X) (hn : X 22 = none) {x0 : AVal} {n1 : AVal} {K : AVal → Heap → Prop} {s : Heap} (h : vc_leafmeshkit_Pick X x0 n1 K s) : wpCall Tryz.prog X 22 [x0, n1] K s :=
  wpCall_code hX vc_leafmeshkit_Pick_ann hn Tryz.func22 (by kernel_rfl : Tryz.f22.body = some (bodyOf Tryz.f22)) (by kernel_rfl) ((vc_leafmeshkit_Pick_eq X x0 n1 K s).mpr h)
theorem vc_leafmeshkit_Pick_in {x0 : AVal} {n1 : AVal} {K : AVal → Heap → Prop} {s : Heap} (h : vc_leafmeshkit_Pick XX x0 n1 K s) : wpCall Tryz.prog XX 22 [x0, n1] K s := vc_leafmeshkit_Pick_ok XX_fr rfl h
/-- leafmesh/leafmeshkit.Has[leafmesh/api.IP] (29) -/
def vc_leafmeshkit_Has_api_IP__l0 (X : Told) (l0 : AVal) (x1 : AVal) (i5 : AVal) (I0 : List AVal → Heap → Nat → Prop) (m0 : Nat) (K : AVal → Heap → Prop) (s : Heap) : Prop :=
  optK (lenOfA l0) fun v_0 =>
  optK (arithV .lss i5 (.int .i64 v_0)) fun v_2 =>
  boolK v_2
   (optK (iaddrS 1 l0 i5) fun v_3 =>
    optK (rd1 s v_3) fun v_4 =>
    optK (negB false (eqV 0 false v_4 x1)) fun v_5 =>
    boolK v_5
     (K (.bool true) s)
     (optK (arithV .add i5 (.int .i64 1)) fun v_6 =>
      ∃ m', m' < m0 ∧ I0 [v_6] s m'))
   (K (.bool false) s)
def vc_leafmeshkit_Has_api_IP_ (X : Told) (l0 : AVal) (x1 : AVal) (K : AVal → Heap → Prop) (s : Heap) : Prop :=
  ∃ I0 : List AVal → Heap → Nat → Prop, (∃ m, I0 [(.int .i64 0)] s m) ∧ ∀ (f : Env) (s : Heap) (m0 : Nat), I0 [f 5] s m0 →
    vc_leafmeshkit_Has_api_IP__l0 X l0 x1 (f 5) I0 m0 K s
def vc_leafmeshkit_Has_api_IP__ann : Nat → List Nat := fun k => cond (Nat.beq k 4) [5] ([])
theorem vc_leafmeshkit_Has_api_IP__eq (X : Told) (l0 : AVal) (x1 : AVal) (K : AVal → Heap → Prop) (s : Heap) : wpC Tryz.prog X vc_leafmeshkit_Has_api_IP__ann Tryz.f29.ntmps none (bodyOf Tryz.f29) (envOf [l0, x1]) (fun e env s => retK e (resK Tryz.prog Tryz.f29.results.toList env (fun vs => K (oneV vs) s) s)) s = vc_leafmeshkit_Has_api_IP_ X l0 x1 K s := by kernel_rfl
theorem vc_leafmeshkit_Has_api_IP__ok {X : Told} (hX : FrX X) (hn : X 29 = none) {l0 : AVal} {x1 : AVal} {K : AVal → Heap → Prop} {s : Heap} (h : vc_leafmeshkit_Has_api_IP_ X l0 x1 K s) : wpCall Tryz.prog X 29 [l0, x1] K s :=
  wpCall_code hX vc_leafmeshkit_Has_api_IP__ann hn Tryz.func29 (by kernel_rfl : Tryz.f29.body = some (bodyOf Tryz.f29)) (by kernel_rfl) ((vc_leafmeshkit_Has_api_IP__eq X l0 x1 K s).mpr h)
theorem vc_leafmeshkit_Has_api_IP__in {l0 : AVal} {x1 : AVal} {K : AVal → Heap → Prop} {s : Heap} (h : vc_leafmeshkit_Has_api_IP_ XX l0 x1 K s) : wpCall Tryz.prog XX 29 [l0, x1] K s := vc_leafmeshkit_Has_api_IP__ok XX_fr rfl h
/-- leafmesh/segment.Elect (28) -/
def vc_segment_Elect_l3 (X : Told) (alg0 : AVal) (l1 : AVal) (bd2 : AVal) (table8 : AVal) (i9 : AVal) (I3 : List AVal → Heap → Nat → Prop) (m3 : Nat) (K : AVal → Heap → Prop) (s : Heap) : Prop :=
  optK (lenOfA l1) fun v_11 =>
  optK (arithV .lss i9 (.int .i64 v_11)) fun v_13 =>
  boolK v_13
   (optK (iaddrS 2 l1 i9) fun v_14 =>
    optK (addOff 0 v_14) fun v_15 =>
    optK (rd1 s v_15) fun v_16 =>
    optK (arithV .sub i9 (.int .i64 1)) fun v_17 =>
    optK (iaddrS 2 l1 v_17) fun v_18 =>
    optK (addOff 0 v_18) fun v_19 =>
    optK (rd1 s v_19) fun v_20 =>
    optK (arithV .leq v_16 v_20) fun v_21 =>
    boolK v_21
     (K (.tup [(.int .u32 0), (.bool false)]) s)
     (optK (arithV .add i9 (.int .i64 1)) fun v_22 =>
      ∃ m', m' < m3 ∧ I3 [v_22] s m'))
   (optK (iaddrA 3 1 table8 alg0) fun v_23 =>
    optK (rd1 s v_23) fun v_24 =>
    funK Tryz.prog X v_24 [l1, bd2] (fun v_25 s_26 =>
    optK (fieldD none 0 v_25) fun v_27 =>
    K (.tup [v_27, (.bool true)]) s_26) s)
def vc_segment_Elect_j2 (X : Told) (alg0 : AVal) (l1 : AVal) (bd2 : AVal) (table8 : AVal) (t22 : AVal) (t24 : AVal) (K : AVal → Heap → Prop) (s : Heap) : Prop :=
  optK (pickV t22 (.bool true) t24) fun v_10 =>
  boolK v_10
   (K (.tup [(.int .u32 0), (.bool false)]) s)
   (∃ I3 : List AVal → Heap → Nat → Prop, (∃ m, I3 [(.int .i64 1)] s m) ∧ ∀ (f : Env) (s : Heap) (m3 : Nat), I3 [f 9] s m3 →
      vc_segment_Elect_l3 X alg0 l1 bd2 table8 (f 9) I3 m3 K s)
def vc_segment_Elect_j1 (X : Told) (alg0 : AVal) (l1 : AVal) (bd2 : AVal) (table8 : AVal) (t18 : AVal) (t20 : AVal) (K : AVal → Heap → Prop) (s : Heap) : Prop :=
  optK (pickV t18 (.bool true) t20) fun v_9 =>
  boolK v_9
   (vc_segment_Elect_j2 X alg0 l1 bd2 table8 v_9 .undef K s)
   (optK (arithV .lss bd2 (.int .i64 0)) fun v_28 =>
    vc_segment_Elect_j2 X alg0 l1 bd2 table8 v_9 v_28 K s)
def vc_segment_Elect_j0 (X : Told) (alg0 : AVal) (l1 : AVal) (bd2 : AVal) (table8 : AVal) (t14 : AVal) (t16 : AVal) (K : AVal → Heap → Prop) (s : Heap) : Prop :=
  optK (pickV t14 (.bool true) t16) fun v_8 =>
  boolK v_8
   (vc_segment_Elect_j1 X alg0 l1 bd2 table8 v_8 .undef K s)
   (optK (arithV .geq alg0 (.int .i64 3)) fun v_29 =>
    vc_segment_Elect_j1 X alg0 l1 bd2 table8 v_8 v_29 K s)
def vc_segment_Elect (X : Told) (alg0 : AVal) (l1 : AVal) (bd2 : AVal) (K : AVal → Heap → Prop) (s : Heap) : Prop :=
  wpCall Tryz.prog X 50 [] (fun v_0 s_1 =>
  newK 126 [.nilFunc, .nilFunc, .nilFunc] (fun b_2 s_3 =>
  optK (wrAgg s_3 3 (.ptr b_2 0) v_0) fun s_4 =>
  optK (lenOfA l1) fun v_5 =>
  optK (negB false (eqV 0 true (.int .i64 v_5) (.int .i64 0))) fun v_7 =>
  boolK v_7
   (vc_segment_Elect_j0 X alg0 l1 bd2 (.ptr b_2 0) v_7 .undef K s_4)
   (optK (arithV .lss alg0 (.int .i64 0)) fun v_30 =>
    vc_segment_Elect_j0 X alg0 l1 bd2 (.ptr b_2 0) v_7 v_30 K s_4)) s_1) s
def vc_segment_Elect_ann : Nat → List Nat := fun k => cond (Nat.beq k 10) [9] ([])
theorem vc_segment_Elect_eq (X : Told) (alg0 : AVal) (l1 : AVal) (bd2 : AVal) (K : AVal → Heap → Prop) (s : Heap) : wpC Tryz.prog X vc_segment_Elect_ann Tryz.f28.ntmps none (bodyOf Tryz.f28) (envOf [alg0, l1, bd2]) (fun e env s => retK e (resK Tryz.prog Tryz.f28.results.toList env (fun vs => K (oneV vs) s) s)) s = vc_segment_Elect X alg0 l1 bd2 K s := by kernel_rfl
theorem vc_segment_Elect_ok {X : Told} (hX : FrX X) (hn : X 28 = none) {alg0 : AVal} {l1 : AVal} {bd2 : AVal} {K : AVal → Heap → Prop} {s : Heap} (h : vc_segment_Elect X alg0 l1 bd2 K s) : wpCall Tryz.prog X 28 [alg0, l1, bd2] K s :=
  wpCall_code hX vc_segment_Elect_ann hn Tryz.func28 (by kernel_rfl : Tryz.f28.body = some (bodyOf Tryz.f28)) (by kernel_rfl) ((vc_segment_Elect_eq X alg0 l1 bd2 K s).mpr h)
theorem vc_segment_Elect_in {alg0 : AVal} {l1 : AVal} {bd2 : AVal} {K : AVal → Heap → Prop} {s : Heap} (h : vc_segment_Elect XX alg0 l1 bd2 K s) : wpCall Tryz.prog XX 28 [alg0, l1, bd2] K s := vc_segment_Elect_ok XX_fr rfl h
/-- leafmesh/leafmeshref25.Elect (62) -/
def vc_leafmeshref25_Elect_j4 (X : Told) (best8 : AVal) (i9 : AVal) (I3 : List AVal → Heap → Nat → Prop) (m3 : Nat) (K : AVal → Heap → Prop) (s : Heap) : Prop :=
  optK (arithV .add i9 (.int .i64 1)) fun v_31 =>
  ∃ m', m' < m3 ∧ I3 [best8, v_31] s m'
def vc_leafmeshref25_Elect_j5 (X : Told) (best8 : AVal) (i9 : AVal) (I3 : List AVal → Heap → Nat → Prop) (m3 : Nat) (K : AVal → Heap → Prop) (s : Heap) : Prop :=
  optK (arithV .add i9 (.int .i64 1)) fun v_42 =>
  ∃ m', m' < m3 ∧ I3 [best8, v_42] s m'
def vc_leafmeshref25_Elect_j6 (X : Told) (best8 : AVal) (i9 : AVal) (I3 : List AVal → Heap → Nat → Prop) (m3 : Nat) (K : AVal → Heap → Prop) (s : Heap) : Prop :=
  optK (arithV .add i9 (.int .i64 1)) fun v_45 =>
  ∃ m', m' < m3 ∧ I3 [best8, v_45] s m'
def vc_leafmeshref25_Elect_j7 (X : Told) (best8 : AVal) (i9 : AVal) (I3 : List AVal → Heap → Nat → Prop) (m3 : Nat) (K : AVal → Heap → Prop) (s : Heap) : Prop :=
  optK (arithV .add i9 (.int .i64 1)) fun v_48 =>
  ∃ m', m' < m3 ∧ I3 [best8, v_48] s m'
def vc_leafmeshref25_Elect_j9 (X : Told) (best8 : AVal) (i9 : AVal) (I3 : List AVal → Heap → Nat → Prop) (m3 : Nat) (K : AVal → Heap → Prop) (s : Heap) : Prop :=
  optK (arithV .add i9 (.int .i64 1)) fun v_52 =>
  ∃ m', m' < m3 ∧ I3 [best8, v_52] s m'
def vc_leafmeshref25_Elect_j8 (X : Told) (best8 : AVal) (i9 : AVal) (t62 : AVal) (t65 : AVal) (t76 : AVal) (I3 : List AVal → Heap → Nat → Prop) (m3 : Nat) (K : AVal → Heap → Prop) (s : Heap) : Prop :=
  optK (pickV t65 t76 (.bool false)) fun v_50 =>
  optK (pickV t62 (.bool true) v_50) fun v_51 =>
  boolK v_51
   (vc_leafmeshref25_Elect_j9 X i9 i9 I3 m3 K s)
   (vc_leafmeshref25_Elect_j9 X best8 i9 I3 m3 K s)
def vc_leafmeshref25_Elect_j10 (X : Told) (l1 : AVal) (best8 : AVal) (K : AVal → Heap → Prop) (s : Heap) : Prop :=
  optK (iaddrS 2 l1 best8) fun v_61 =>
  optK (addOff 0 v_61) fun v_62 =>
  optK (rd1 s v_62) fun v_63 =>
  K (.tup [v_63, (.bool true)]) s
def vc_leafmeshref25_Elect_l3 (X : Told) (alg0 : AVal) (l1 : AVal) (bd2 : AVal) (best8 : AVal) (i9 : AVal) (I3 : List AVal → Heap → Nat → Prop) (m3 : Nat) (K : AVal → Heap → Prop) (s : Heap) : Prop :=
  optK (lenOfA l1) fun v_6 =>
  optK (arithV .lss i9 (.int .i64 v_6)) fun v_8 =>
  boolK v_8
   (optK (iaddrS 2 l1 i9) fun v_9 =>
    optK (addOff 0 v_9) fun v_10 =>
    optK (rd1 s v_10) fun v_11 =>
    optK (arithV .sub i9 (.int .i64 1)) fun v_12 =>
    optK (iaddrS 2 l1 v_12) fun v_13 =>
    optK (addOff 0 v_13) fun v_14 =>
    optK (rd1 s v_14) fun v_15 =>
    optK (arithV .leq v_11 v_15) fun v_16 =>
    boolK v_16
     (K (.tup [(.int .u32 0), (.bool false)]) s)
     (optK (negB false (eqV 0 true alg0 (.int .i64 1))) fun v_17 =>
      boolK v_17
       (optK (iaddrS 2 l1 i9) fun v_18 =>
      optK (addOff 0 v_18) fun v_19 =>
      optK (rd1 s v_19) fun v_20 =>
      wpCall Tryz.prog X 93 [v_20, bd2] (fun v_21 s_22 =>
      (∀ b, s b ≠ none → s b = none → s_22 b = none) →
      optK (iaddrS 2 l1 best8) fun v_23 =>
      optK (addOff 0 v_23) fun v_24 =>
      optK (rd1 (cutH [(s, (add s s_22))] (add s s_22)) v_24) fun v_25 =>
      wpCall Tryz.prog X 93 [v_25, bd2] (fun v_26 s_27 =>
      optK (arithV .gtr v_21 v_26) fun v_28 =>
      optK (pickV v_17 v_28 (.bool false)) fun v_29 =>
      boolK v_29
       (optK (pickV v_29 (.bool true) .undef) fun v_30 =>
      boolK v_30
       (vc_leafmeshref25_Elect_j4 X i9 i9 I3 m3 K s_27)
       (vc_leafmeshref25_Elect_j4 X best8 i9 I3 m3 K s_27))
       (optK (negB false (eqV 0 true alg0 (.int .i64 2))) fun v_32 =>
      boolK v_32
       (optK (iaddrS 2 l1 i9) fun v_33 =>
      optK (addOff 1 v_33) fun v_34 =>
      optK (rd1 s_27 v_34) fun v_35 =>
      optK (iaddrS 2 l1 best8) fun v_36 =>
      optK (addOff 1 v_36) fun v_37 =>
      optK (rd1 s_27 v_37) fun v_38 =>
      optK (arithV .gtr v_35 v_38) fun v_39 =>
      optK (pickV v_32 v_39 (.bool false)) fun v_40 =>
      optK (pickV v_29 (.bool true) v_40) fun v_41 =>
      boolK v_41
       (vc_leafmeshref25_Elect_j5 X i9 i9 I3 m3 K s_27)
       (vc_leafmeshref25_Elect_j5 X best8 i9 I3 m3 K s_27))
       (optK (pickV v_32 .undef (.bool false)) fun v_43 =>
      optK (pickV v_29 (.bool true) v_43) fun v_44 =>
      boolK v_44
       (vc_leafmeshref25_Elect_j6 X i9 i9 I3 m3 K s_27)
       (vc_leafmeshref25_Elect_j6 X best8 i9 I3 m3 K s_27)))) (add s s_22)) (frz s))
       (optK (pickV v_17 .undef (.bool false)) fun v_46 =>
      boolK v_46
       (optK (pickV v_46 (.bool true) .undef) fun v_47 =>
      boolK v_47
       (vc_leafmeshref25_Elect_j7 X i9 i9 I3 m3 K s)
       (vc_leafmeshref25_Elect_j7 X best8 i9 I3 m3 K s))
       (optK (negB false (eqV 0 true alg0 (.int .i64 2))) fun v_49 =>
      boolK v_49
       (optK (iaddrS 2 l1 i9) fun v_53 =>
        optK (addOff 1 v_53) fun v_54 =>
        optK (rd1 s v_54) fun v_55 =>
        optK (iaddrS 2 l1 best8) fun v_56 =>
        optK (addOff 1 v_56) fun v_57 =>
        optK (rd1 s v_57) fun v_58 =>
        optK (arithV .gtr v_55 v_58) fun v_59 =>
        vc_leafmeshref25_Elect_j8 X best8 i9 v_46 v_49 v_59 I3 m3 K s)
       (vc_leafmeshref25_Elect_j8 X best8 i9 v_46 v_49 .undef I3 m3 K s)))))
   (optK (negB false (eqV 0 true alg0 (.int .i64 0))) fun v_60 =>
    boolK v_60
     (optK (lenOfA l1) fun v_64 =>
      optK (arithV .rem bd2 (.int .i64 v_64)) fun v_66 =>
      vc_leafmeshref25_Elect_j10 X l1 v_66 K s)
     (vc_leafmeshref25_Elect_j10 X l1 best8 K s))
def vc_leafmeshref25_Elect_j2 (X : Told) (alg0 : AVal) (l1 : AVal) (bd2 : AVal) (t21 : AVal) (t23 : AVal) (K : AVal → Heap → Prop) (s : Heap) : Prop :=
  optK (pickV t21 (.bool true) t23) fun v_5 =>
  boolK v_5
   (K (.tup [(.int .u32 0), (.bool false)]) s)
   (∃ I3 : List AVal → Heap → Nat → Prop, (∃ m, I3 [(.int .i64 0), (.int .i64 1)] s m) ∧ ∀ (f : Env) (s : Heap) (m3 : Nat), I3 [f 8, f 9] s m3 →
      vc_leafmeshref25_Elect_l3 X alg0 l1 bd2 (f 8) (f 9) I3 m3 K s)
def vc_leafmeshref25_Elect_j1 (X : Told) (alg0 : AVal) (l1 : AVal) (bd2 : AVal) (t17 : AVal) (t19 : AVal) (K : AVal → Heap → Prop) (s : Heap) : Prop :=
  optK (pickV t17 (.bool true) t19) fun v_4 =>
  boolK v_4
   (vc_leafmeshref25_Elect_j2 X alg0 l1 bd2 v_4 .undef K s)
   (optK (arithV .lss bd2 (.int .i64 0)) fun v_67 =>
    vc_leafmeshref25_Elect_j2 X alg0 l1 bd2 v_4 v_67 K s)
def vc_leafmeshref25_Elect_j0 (X : Told) (alg0 : AVal) (l1 : AVal) (bd2 : AVal) (t13 : AVal) (t15 : AVal) (K : AVal → Heap → Prop) (s : Heap) : Prop :=
  optK (pickV t13 (.bool true) t15) fun v_3 =>
  boolK v_3
   (vc_leafmeshref25_Elect_j1 X alg0 l1 bd2 v_3 .undef K s)
   (optK (arithV .gtr alg0 (.int .i64 2)) fun v_68 =>
    vc_leafmeshref25_Elect_j1 X alg0 l1 bd2 v_3 v_68 K s)
def vc_leafmeshref25_Elect (X : Told) (alg0 : AVal) (l1 : AVal) (bd2 : AVal) (K : AVal → Heap → Prop) (s : Heap) : Prop :=
  optK (lenOfA l1) fun v_0 =>
  optK (negB false (eqV 0 true (.int .i64 v_0) (.int .i64 0))) fun v_2 =>
  boolK v_2
   (vc_leafmeshref25_Elect_j0 X alg0 l1 bd2 v_2 .undef K s)
   (optK (arithV .lss alg0 (.int .i64 0)) fun v_69 =>
    vc_leafmeshref25_Elect_j0 X alg0 l1 bd2 v_2 v_69 K s)
def vc_leafmeshref25_Elect_ann : Nat → List Nat := fun k => cond (Nat.beq k 10) [8, 9] ([])
theorem vc_leafmeshref25_Elect_eq (X : Told) (alg0 : AVal) (l1 : AVal) (bd2 : AVal) (K : AVal → Heap → Prop) (s : Heap) : wpC Tryz.prog X vc_leafmeshref25_Elect_ann Tryz.f62.ntmps none (bodyOf Tryz.f62) (envOf [alg0, l1, bd2]) (fun e env s => retK e (resK Tryz.prog Tryz.f62.results.toList env (fun vs => K (oneV vs) s) s)) s = vc_leafmeshref25_Elect X alg0 l1 bd2 K s := by kernel_rfl
theorem vc_leafmeshref25_Elect_ok {X : Told} (hX : FrX X) (hn : X 62 = none) {alg0 : AVal} {l1 : AVal} {bd2 : AVal} {K : AVal → Heap → Prop} {s : Heap} (h : vc_leafmeshref25_Elect X alg0 l1 bd2 K s) : wpCall Tryz.prog X 62 [alg0, l1, bd2] K s :=
  wpCall_code hX vc_leafmeshref25_Elect_ann hn Tryz.func62 (by kernel_rfl : Tryz.f62.body = some (bodyOf Tryz.f62)) (by kernel_rfl) ((vc_leafmeshref25_Elect_eq X alg0 l1 bd2 K s).mpr h)
theorem vc_leafmeshref25_Elect_in {alg0 : AVal} {l1 : AVal} {bd2 : AVal} {K : AVal → Heap → Prop} {s : Heap} (h : vc_leafmeshref25_Elect XX alg0 l1 bd2 K s) : wpCall Tryz.prog XX 62 [alg0, l1, bd2] K s := vc_leafmeshref25_Elect_ok XX_fr rfl h
/-- leafmesh/segment.Weight (80) -/
def vc_segment_Weight (X : Told) (ip0 : AVal) (bd1 : AVal) (K : AVal → Heap → Prop) (s : Heap) : Prop :=
  optK (convI .u32 bd1) fun v_0 =>
  optK (shiftV .shr ip0 (.int .u64 24)) fun v_1 =>
  optK (convI .u8 v_1) fun v_2 =>
  optK (shiftV .shr ip0 (.int .u64 16)) fun v_3 =>
  optK (convI .u8 v_3) fun v_4 =>
  optK (shiftV .shr ip0 (.int .u64 8)) fun v_5 =>
  optK (convI .u8 v_5) fun v_6 =>
  optK (convI .u8 ip0) fun v_7 =>
  optK (shiftV .shr v_0 (.int .u64 24)) fun v_8 =>
  optK (convI .u8 v_8) fun v_9 =>
  optK (shiftV .shr v_0 (.int .u64 16)) fun v_10 =>
  optK (convI .u8 v_10) fun v_11 =>
  optK (shiftV .shr v_0 (.int .u64 8)) fun v_12 =>
  optK (convI .u8 v_12) fun v_13 =>
  optK (convI .u8 v_0) fun v_14 =>
  optK (fillR [(.int .u8 0), (.int .u8 0), (.int .u8 0), (.int .u8 0), (.int .u8 0), (.int .u8 0), (.int .u8 0), (.int .u8 0)] [(0, 1, v_2), (1, 1, v_4), (2, 1, v_6), (3, 1, v_7), (4, 1, v_9), (5, 1, v_11), (6, 1, v_13), (7, 1, v_14)]) fun c_15 =>
  wpCall Tryz.prog X 118 [(.agg c_15)] (fun v_16 s_17 =>
  K v_16 s_17) s
def vc_segment_Weight_ann : Nat → List Nat := fun _ => []
theorem vc_segment_Weight_eq (X : Told) (ip0 : AVal) (bd1 : AVal) (K : AVal → Heap → Prop) (s : Heap) : wpC Tryz.prog X vc_segment_Weight_ann Tryz.f80.ntmps none (bodyOf Tryz.f80) (envOf [ip0, bd1]) (fun e env s => retK e (resK Tryz.prog Tryz.f80.results.toList env (fun vs => K (oneV vs) s) s)) s = vc_segment_Weight X ip0 bd1 K s := by kernel_rfl
theorem vc_segment_Weight_ok {X : Told} (hX : FrX X) (hn : X 80 = none) {ip0 : AVal} {bd1 : AVal} {K : AVal → Heap → Prop} {s : Heap} (h : vc_segment_Weight X ip0 bd1 K s) : wpCall Tryz.prog X 80 [ip0, bd1] K s :=
  wpCall_code hX vc_segment_Weight_ann hn Tryz.func80 (by kernel_rfl : Tryz.f80.body = some (bodyOf Tryz.f80)) (by kernel_rfl) ((vc_segment_Weight_eq X ip0 bd1 K s).mpr h)
theorem vc_segment_Weight_in {ip0 : AVal} {bd1 : AVal} {K : AVal → Heap → Prop} {s : Heap} (h : vc_segment_Weight XX ip0 bd1 K s) : wpCall Tryz.prog XX 80 [ip0, bd1] K s := vc_segment_Weight_ok XX_fr rfl h
/-- leafmesh/leafmeshref25.Weight (93) -/
def vc_leafmeshref25_Weight_l0 (X : Told) (l7 : AVal) (h8 : AVal) (i9 : AVal) (I0 : List AVal → Heap → Nat → Prop) (m0 : Nat) (K : AVal → Heap → Prop) (s : Heap) : Prop :=
  optK (lenOfA l7) fun v_19 =>
  optK (arithV .lss i9 (.int .i64 v_19)) fun v_21 =>
  boolK v_21
   (optK (iaddrS 1 l7 i9) fun v_22 =>
    optK (rd1 s v_22) fun v_23 =>
    optK (convI .u64 v_23) fun v_24 =>
    optK (arithV .xor h8 v_24) fun v_25 =>
    optK (arithV .mul v_25 (.int .u64 1099511628211)) fun v_26 =>
    optK (arithV .add i9 (.int .i64 1)) fun v_27 =>
    ∃ m', m' < m0 ∧ I0 [v_26, v_27] s m')
   (K h8 s)
def vc_leafmeshref25_Weight (X : Told) (ip0 : AVal) (bd1 : AVal) (K : AVal → Heap → Prop) (s : Heap) : Prop :=
  optK (convI .u64 ip0) fun v_0 =>
  optK (convI .u64 bd1) fun v_1 =>
  optK (shiftV .shr v_0 (.int .u64 24)) fun v_2 =>
  optK (convI .u8 v_2) fun v_3 =>
  optK (shiftV .shr v_0 (.int .u64 16)) fun v_4 =>
  optK (convI .u8 v_4) fun v_5 =>
  optK (shiftV .shr v_0 (.int .u64 8)) fun v_6 =>
  optK (convI .u8 v_6) fun v_7 =>
  optK (convI .u8 v_0) fun v_8 =>
  optK (shiftV .shr v_1 (.int .u64 24)) fun v_9 =>
  optK (convI .u8 v_9) fun v_10 =>
  optK (shiftV .shr v_1 (.int .u64 16)) fun v_11 =>
  optK (convI .u8 v_11) fun v_12 =>
  optK (shiftV .shr v_1 (.int .u64 8)) fun v_13 =>
  optK (convI .u8 v_13) fun v_14 =>
  optK (convI .u8 v_1) fun v_15 =>
  optK (fillR (repl 8 [(.int .u8 0)]) [(0, 1, v_3), (1, 1, v_5), (2, 1, v_7), (3, 1, v_8), (4, 1, v_10), (5, 1, v_12), (6, 1, v_14), (7, 1, v_15)]) fun c_16 => allOne c_16 = true ∧ newK 5 c_16 (fun b_17 s_18 =>
  ∃ I0 : List AVal → Heap → Nat → Prop, (∃ m, I0 [(.int .u64 14695981039346656037), (.int .i64 0)] s_18 m) ∧ ∀ (f : Env) (s : Heap) (m0 : Nat), I0 [f 8, f 9] s m0 →
    vc_leafmeshref25_Weight_l0 X (.slc b_17 0 8 (some 8) 1) (f 8) (f 9) I0 m0 K s) s
def vc_leafmeshref25_Weight_ann : Nat → List Nat := fun k => cond (Nat.beq k 10) [8, 9] ([])
theorem vc_leafmeshref25_Weight_eq (X : Told) (ip0 : AVal) (bd1 : AVal) (K : AVal → Heap → Prop) (s : Heap) : wpC Tryz.prog X vc_leafmeshref25_Weight_ann Tryz.f93.ntmps none (bodyOf Tryz.f93) (envOf [ip0, bd1]) (fun e env s => retK e (resK Tryz.prog Tryz.f93.results.toList env (fun vs => K (oneV vs) s) s)) s = vc_leafmeshref25_Weight X ip0 bd1 K s := by kernel_rfl
theorem vc_leafmeshref25_Weight_ok {X : Told} (hX : FrX X) (hn : X 93 = none) {ip0 : AVal} {bd1 : AVal} {K : AVal → Heap → Prop} {s : Heap} (h : vc_leafmeshref25_Weight X ip0 bd1 K s) : wpCall Tryz.prog X 93 [ip0, bd1] K s :=
  wpCall_code hX vc_leafmeshref25_Weight_ann hn Tryz.func93 (by kernel_rfl : Tryz.f93.body = some (bodyOf Tryz.f93)) (by kernel_rfl) ((vc_leafmeshref25_Weight_eq X ip0 bd1 K s).mpr h)
theorem vc_leafmeshref25_Weight_in {ip0 : AVal} {bd1 : AVal} {K : AVal → Heap → Prop} {s : Heap} (h : vc_leafmeshref25_Weight XX ip0 bd1 K s) : wpCall Tryz.prog XX 93 [ip0, bd1] K s := vc_leafmeshref25_Weight_ok XX_fr rfl h
/-- leafmesh/segment.algorithms (50) -/
def vc_segment_algorithms (X : Told) (K : AVal → Heap → Prop) (s : Heap) : Prop :=
  newK 126 [.nilFunc, .nilFunc, .nilFunc] (fun b_0 s_1 =>
  optK (fillR [.nilFunc, .nilFunc, .nilFunc] [(0, 1, (.fn (.func 76) [] [])), (1, 1, (.fn (.func 77) [] [])), (2, 1, (.fn (.func 81) [] []))]) fun c_2 =>
  optK (wrAgg s_1 3 (.ptr b_0 0) (.agg c_2)) fun s_3 =>
  optK (rdN s_3 3 (.ptr b_0 0)) fun t0_4 =>
  K (.agg t0_4) s_3) s
def vc_segment_algorithms_ann : Nat → List Nat := fun _ => []
theorem vc_segment_algorithms_eq (X : Told) (K : AVal → Heap → Prop) (s : Heap) : wpC Tryz.prog X vc_segment_algorithms_ann Tryz.f50.ntmps none (bodyOf Tryz.f50) (envOf []) (fun e env s => retK e (resK Tryz.prog Tryz.f50.results.toList env (fun vs => K (oneV vs) s) s)) s = vc_segment_algorithms X K s := by kernel_rfl
theorem vc_segment_algorithms_ok {X : Told} (hX : FrX X) (hn : X 50 = none) {K : AVal → Heap → Prop} {s : Heap} (h : vc_segment_algorithms X K s) : wpCall Tryz.prog X 50 [] K s :=
  wpCall_code hX vc_segment_algorithms_ann hn Tryz.func50 (by kernel_rfl : Tryz.f50.body = some (bodyOf Tryz.f50)) (by kernel_rfl) ((vc_segment_algorithms_eq X K s).mpr h)
theorem vc_segment_algorithms_in {K : AVal → Heap → Prop} {s : Heap} (h : vc_segment_algorithms XX K s) : wpCall Tryz.prog XX 50 [] K s := vc_segment_algorithms_ok XX_fr rfl h
/-- (leafmesh/segment.octets).hash (118) -/
def vc_segment_octets_hash_l0 (X : Told) (h3 : AVal) (t6 : AVal) (t7 : AVal) (I0 : List AVal → Heap → Nat → Prop) (m0 : Nat) (K : AVal → Heap → Prop) (s : Heap) : Prop :=
  optK (arithV .lss t7 (.int .i64 8)) fun v_3 =>
  boolK v_3
   (optK (indexD 8 1 none t6 t7) fun v_4 =>
    optK (convI .u64 v_4) fun v_5 =>
    optK (arithV .xor h3 v_5) fun v_6 =>
    optK (arithV .mul v_6 (.int .u64 1099511628211)) fun v_7 =>
    optK (arithV .add t7 (.int .i64 1)) fun v_8 =>
    ∃ m', m' < m0 ∧ I0 [v_7, v_8] s m')
   (K h3 s)
def vc_segment_octets_hash (X : Told) (o0 : AVal) (K : AVal → Heap → Prop) (s : Heap) : Prop :=
  boxK 193 o0 (fun b_0 s_1 =>
  optK (rdN s_1 8 b_0) fun v_2 =>
  ∃ I0 : List AVal → Heap → Nat → Prop, (∃ m, I0 [(.int .u64 14695981039346656037), (.int .i64 0)] s_1 m) ∧ ∀ (f : Env) (s : Heap) (m0 : Nat), I0 [f 3, f 7] s m0 →
    vc_segment_octets_hash_l0 X (f 3) (.agg v_2) (f 7) I0 m0 K s) s
def vc_segment_octets_hash_ann : Nat → List Nat := fun k => cond (Nat.beq k 6) [3, 7] ([])
theorem vc_segment_octets_hash_eq (X : Told) (o0 : AVal) (K : AVal → Heap → Prop) (s : Heap) : wpC Tryz.prog X vc_segment_octets_hash_ann Tryz.f118.ntmps none (bodyOf Tryz.f118) (envOf [o0]) (fun e env s => retK e (resK Tryz.prog Tryz.f118.results.toList env (fun vs => K (oneV vs) s) s)) s = vc_segment_octets_hash X o0 K s := by kernel_rfl
theorem vc_segment_octets_hash_ok {X : Told} (hX : FrX X) (hn : X 118 = none) {o0 : AVal} {K : AVal → Heap → Prop} {s : Heap} (h : vc_segment_octets_hash X o0 K s) : wpCall Tryz.prog X 118 [o0] K s :=
  wpCall_code hX vc_segment_octets_hash_ann hn Tryz.func118 (by kernel_rfl : Tryz.f118.body = some (bodyOf Tryz.f118)) (by kernel_rfl) ((vc_segment_octets_hash_eq X o0 K s).mpr h)
theorem vc_segment_octets_hash_in {o0 : AVal} {K : AVal → Heap → Prop} {s : Heap} (h : vc_segment_octets_hash XX o0 K s) : wpCall Tryz.prog XX 118 [o0] K s := vc_segment_octets_hash_ok XX_fr rfl h
/-- leafmesh/segment.algorithms$1 (76) -/
def vc_segment_algorithms_1 (X : Told) (l0 : AVal) (bd1 : AVal) (K : AVal → Heap → Prop) (s : Heap) : Prop :=
  newK 36 [(.int .u32 0), (.int .i64 0)] (fun b_0 s_1 =>
  optK (lenOfA l0) fun v_2 =>
  optK (arithV .rem bd1 (.int .i64 v_2)) fun v_4 =>
  optK (iaddrS 2 l0 v_4) fun v_5 =>
  optK (rdN s_1 2 v_5) fun v_6 =>
  optK (wrAgg s_1 2 (.ptr b_0 0) (.agg v_6)) fun s_7 =>
  optK (rdN s_7 2 (.ptr b_0 0)) fun t4_8 =>
  K (.agg t4_8) s_7) s
def vc_segment_algorithms_1_ann : Nat → List Nat := fun _ => []
theorem vc_segment_algorithms_1_eq (X : Told) (l0 : AVal) (bd1 : AVal) (K : AVal → Heap → Prop) (s : Heap) : wpC Tryz.prog X vc_segment_algorithms_1_ann Tryz.f76.ntmps none (bodyOf Tryz.f76) (envOf [l0, bd1]) (fun e env s => retK e (resK Tryz.prog Tryz.f76.results.toList env (fun vs => K (oneV vs) s) s)) s = vc_segment_algorithms_1 X l0 bd1 K s := by kernel_rfl
theorem vc_segment_algorithms_1_ok {X : Told} (hX : FrX X) (hn : X 76 = none) {l0 : AVal} {bd1 : AVal} {K : AVal → Heap → Prop} {s : Heap} (h : vc_segment_algorithms_1 X l0 bd1 K s) : wpCall Tryz.prog X 76 [l0, bd1] K s :=
  wpCall_code hX vc_segment_algorithms_1_ann hn Tryz.func76 (by kernel_rfl : Tryz.f76.body = some (bodyOf Tryz.f76)) (by kernel_rfl) ((vc_segment_algorithms_1_eq X l0 bd1 K s).mpr h)
theorem vc_segment_algorithms_1_in {l0 : AVal} {bd1 : AVal} {K : AVal → Heap → Prop} {s : Heap} (h : vc_segment_algorithms_1 XX l0 bd1 K s) : wpCall Tryz.prog XX 76 [l0, bd1] K s := vc_segment_algorithms_1_ok XX_fr rfl h
/-- leafmesh/segment.algorithms$2 (77) -/
def vc_segment_algorithms_2 (X : Told) (l0 : AVal) (bd1 : AVal) (K : AVal → Heap → Prop) (s : Heap) : Prop :=
  boxK 3 bd1 (fun b_0 s_1 =>
  newK 36 [(.int .u32 0), (.int .i64 0)] (fun b_2 s_3 =>
  wpCall Tryz.prog X 78 [l0, (.fn (.func 79) [] [b_0])] (fun v_4 s_5 =>
  optK (wrAgg s_5 2 (.ptr b_2 0) v_4) fun s_6 =>
  optK (rdN s_6 2 (.ptr b_2 0)) fun t4_7 =>
  K (.agg t4_7) s_6) s_3) s_1) s
def vc_segment_algorithms_2_ann : Nat → List Nat := fun _ => []
theorem vc_segment_algorithms_2_eq (X : Told) (l0 : AVal) (bd1 : AVal) (K : AVal → Heap → Prop) (s : Heap) : wpC Tryz.prog X vc_segment_algorithms_2_ann Tryz.f77.ntmps none (bodyOf Tryz.f77) (envOf [l0, bd1]) (fun e env s => retK e (resK Tryz.prog Tryz.f77.results.toList env (fun vs => K (oneV vs) s) s)) s = vc_segment_algorithms_2 X l0 bd1 K s := by kernel_rfl
theorem vc_segment_algorithms_2_ok {X : Told} (hX : FrX X) (hn : X 77 = none) {l0 : AVal} {bd1 : AVal} {K : AVal → Heap → Prop} {s : Heap} (h : vc_segment_algorithms_2 X l0 bd1 K s) : wpCall Tryz.prog X 77 [l0, bd1] K s :=
  wpCall_code hX vc_segment_algorithms_2_ann hn Tryz.func77 (by kernel_rfl : Tryz.f77.body = some (bodyOf Tryz.f77)) (by kernel_rfl) ((vc_segment_algorithms_2_eq X l0 bd1 K s).mpr h)
theorem vc_segment_algorithms_2_in {l0 : AVal} {bd1 : AVal} {K : AVal → Heap → Prop} {s : Heap} (h : vc_segment_algorithms_2 XX l0 bd1 K s) : wpCall Tryz.prog XX 77 [l0, bd1] K s := vc_segment_algorithms_2_ok XX_fr rfl h
/-- leafmesh/segment.greatest[leafmesh/api.Candidate,uint64] (78) -/
def vc_segment_greatest_api_Candidate_uint64__j1 (X : Told) (most6 : AVal) (t21 : AVal) (I0 : List AVal → Heap → Nat → Prop) (m0 : Nat) (K : AVal → Heap → Prop) (s : Heap) : Prop :=
  optK (arithV .add t21 (.int .i64 1)) fun v_24 =>
  ∃ m', m' < m0 ∧ I0 [most6, v_24] s m'
def vc_segment_greatest_api_Candidate_uint64__l0 (X : Told) (key1 : AVal) (t4 : AVal) (best5 : AVal) (most6 : AVal) (t19 : AVal) (t20 : AVal) (t21 : AVal) (I0 : List AVal → Heap → Nat → Prop) (m0 : Nat) (K : AVal → Heap → Prop) (s : Heap) : Prop :=
  optK (arithV .lss t21 t20) fun v_14 =>
  boolK v_14
   (optK (iaddrS 2 t19 t21) fun v_15 =>
    optK (rdN s 2 v_15) fun v_16 =>
    newK 36 [(.int .u32 0), (.int .i64 0)] (fun b_17 s_18 =>
    optK (wrAgg s_18 2 (.ptr b_17 0) (.agg v_16)) fun s_19 =>
    optK (rdN s_19 2 (.ptr b_17 0)) fun v_20 =>
    funK Tryz.prog X key1 [(.agg v_20)] (fun v_21 s_22 =>
    optK (arithV .gtr v_21 most6) fun v_23 =>
    boolK v_23
     (optK (rdN s_22 2 (.ptr b_17 0)) fun v_25 =>
      optK (wrAgg s_22 2 best5 (.agg v_25)) fun s_26 =>
      vc_segment_greatest_api_Candidate_uint64__j1 X v_21 t21 I0 m0 K s_26)
     (vc_segment_greatest_api_Candidate_uint64__j1 X most6 t21 I0 m0 K s_22)) s_19) s)
   (optK (rdN s 2 best5) fun v_27 =>
    optK (wrAgg s 2 t4 (.agg v_27)) fun s_28 =>
    optK (rdN s_28 2 t4) fun t4_29 =>
    K (.agg t4_29) s_28)
def vc_segment_greatest_api_Candidate_uint64_ (X : Told) (l0 : AVal) (key1 : AVal) (K : AVal → Heap → Prop) (s : Heap) : Prop :=
  newK 36 [(.int .u32 0), (.int .i64 0)] (fun b_0 s_1 =>
  optK (iaddrS 2 l0 (.int .i64 0)) fun v_2 =>
  optK (rdN s_1 2 v_2) fun v_3 =>
  optK (iaddrS 2 l0 (.int .i64 0)) fun v_4 =>
  optK (rdN s_1 2 v_4) fun v_5 =>
  funK Tryz.prog X key1 [(.agg v_5)] (fun v_6 s_7 =>
  (∀ b, s_1 b ≠ none → s_1 b = none → s_7 b = none) →
  newK 36 [(.int .u32 0), (.int .i64 0)] (fun b_8 s_9 =>
  (∀ b, (add s_1 s_7) b ≠ none → (cutH [(s_1, (add s_1 s_7))] (add s_1 s_7)) b = none → s_9 b = none) →
  optK (wrAgg (add (add s_1 s_7) s_9) 2 (.ptr b_8 0) (.agg v_3)) fun s_10 =>
  optK (sliceS 2 l0 (some (.int .i64 1)) none none) fun v_11 =>
  optK (lenOfA v_11) fun v_12 =>
  ∃ I0 : List AVal → Heap → Nat → Prop, (∃ m, I0 [v_6, (.int .i64 0)] s_10 m) ∧ ∀ (f : Env) (s : Heap) (m0 : Nat), I0 [f 6, f 21] s m0 →
    vc_segment_greatest_api_Candidate_uint64__l0 X key1 (.ptr b_0 0) (.ptr b_8 0) (f 6) v_11 (.int .i64 v_12) (f 21) I0 m0 K s) (frz (cutH [(s_1, (add s_1 s_7))] (add s_1 s_7)))) (frz s_1)) s
def vc_segment_greatest_api_Candidate_uint64__ann : Nat → List Nat := fun k => cond (Nat.beq k 6) [6, 21] ([])
theorem vc_segment_greatest_api_Candidate_uint64__eq (X : Told) (l0 : AVal) (key1 : AVal) (K : AVal → Heap → Prop) (s : Heap) : wpC Tryz.prog X vc_segment_greatest_api_Candidate_uint64__ann Tryz.f78.ntmps none (bodyOf Tryz.f78) (envOf [l0, key1]) (fun e env s => retK e (resK Tryz.prog Tryz.f78.results.toList env (fun vs => K (oneV vs) s) s)) s = vc_segment_greatest_api_Candidate_uint64_ X l0 key1 K s := by kernel_rfl
theorem vc_segment_greatest_api_Candidate_uint64__ok {X : Told} (hX : FrX X) (hn : X 78 = none) {l0 : AVal} {key1 : AVal} {K : AVal → Heap → Prop} {s : Heap} (h : vc_segment_greatest_api_Candidate_uint64_ X l0 key1 K s) : wpCall Tryz.prog X 78 [l0, key1] K s :=
  wpCall_code hX vc_segment_greatest_api_Candidate_uint64__ann hn Tryz.func78 (by kernel_rfl : Tryz.f78.body = some (bodyOf Tryz.f78)) (by kernel_rfl) ((vc_segment_greatest_api_Candidate_uint64__eq X l0 key1 K s).mpr h)
theorem vc_segment_greatest_api_Candidate_uint64__in {l0 : AVal} {key1 : AVal} {K : AVal → Heap → Prop} {s : Heap} (h : vc_segment_greatest_api_Candidate_uint64_ XX l0 key1 K s) : wpCall Tryz.prog XX 78 [l0, key1] K s := vc_segment_greatest_api_Candidate_uint64__ok XX_fr rfl h
/-- leafmesh/segment.algorithms$2$1 (79) -/
def vc_segment_algorithms_2_1 (X : Told) (c0 : AVal) (t1 : AVal) (K : AVal → Heap → Prop) (s : Heap) : Prop :=
  boxK 36 c0 (fun b_0 s_1 =>
  optK (addOff 0 b_0) fun v_2 =>
  optK (rd1 s_1 v_2) fun v_3 =>
  optK (rd1 s_1 t1) fun v_4 =>
  wpCall Tryz.prog X 80 [v_3, v_4] (fun v_5 s_6 =>
  K v_5 s_6) s_1) s
def vc_segment_algorithms_2_1_ann : Nat → List Nat := fun _ => []
theorem vc_segment_algorithms_2_1_eq (X : Told) (c0 : AVal) (t1 : AVal) (K : AVal → Heap → Prop) (s : Heap) : wpC Tryz.prog X vc_segment_algorithms_2_1_ann Tryz.f79.ntmps none (bodyOf Tryz.f79) (envOf [c0, t1]) (fun e env s => retK e (resK Tryz.prog Tryz.f79.results.toList env (fun vs => K (oneV vs) s) s)) s = vc_segment_algorithms_2_1 X c0 t1 K s := by kernel_rfl
theorem vc_segment_algorithms_2_1_ok {X : Told} (hX : FrX X) (hn : X 79 = none) {c0 : AVal} {t1 : AVal} {K : AVal → Heap → Prop} {s : Heap} (h : vc_segment_algorithms_2_1 X c0 t1 K s) : wpCall Tryz.prog X 79 [c0, t1] K s :=
  wpCall_code hX vc_segment_algorithms_2_1_ann hn Tryz.func79 (by kernel_rfl : Tryz.f79.body = some (bodyOf Tryz.f79)) (by kernel_rfl) ((vc_segment_algorithms_2_1_eq X c0 t1 K s).mpr h)
theorem vc_segment_algorithms_2_1_in {c0 : AVal} {t1 : AVal} {K : AVal → Heap → Prop} {s : Heap} (h : vc_segment_algorithms_2_1 XX c0 t1 K s) : wpCall Tryz.prog XX 79 [c0, t1] K s := vc_segment_algorithms_2_1_ok XX_fr rfl h
/-- leafmesh/segment.algorithms$3 (81) -/
def vc_segment_algorithms_3 (X : Told) (l0 : AVal) (t1 : AVal) (K : AVal → Heap → Prop) (s : Heap) : Prop :=
  newK 36 [(.int .u32 0), (.int .i64 0)] (fun b_0 s_1 =>
  wpCall Tryz.prog X 82 [l0, (.fn (.func 83) [] [])] (fun v_2 s_3 =>
  optK (wrAgg s_3 2 (.ptr b_0 0) v_2) fun s_4 =>
  optK (rdN s_4 2 (.ptr b_0 0)) fun t4_5 =>
  K (.agg t4_5) s_4) s_1) s
def vc_segment_algorithms_3_ann : Nat → List Nat := fun _ => []
theorem vc_segment_algorithms_3_eq (X : Told) (l0 : AVal) (t1 : AVal) (K : AVal → Heap → Prop) (s : Heap) : wpC Tryz.prog X vc_segment_algorithms_3_ann Tryz.f81.ntmps none (bodyOf Tryz.f81) (envOf [l0, t1]) (fun e env s => retK e (resK Tryz.prog Tryz.f81.results.toList env (fun vs => K (oneV vs) s) s)) s = vc_segment_algorithms_3 X l0 t1 K s := by kernel_rfl
theorem vc_segment_algorithms_3_ok {X : Told} (hX : FrX X) (hn : X 81 = none) {l0 : AVal} {t1 : AVal} {K : AVal → Heap → Prop} {s : Heap} (h : vc_segment_algorithms_3 X l0 t1 K s) : wpCall Tryz.prog X 81 [l0, t1] K s :=
  wpCall_code hX vc_segment_algorithms_3_ann hn Tryz.func81 (by kernel_rfl : Tryz.f81.body = some (bodyOf Tryz.f81)) (by kernel_rfl) ((vc_segment_algorithms_3_eq X l0 t1 K s).mpr h)
theorem vc_segment_algorithms_3_in {l0 : AVal} {t1 : AVal} {K : AVal → Heap → Prop} {s : Heap} (h : vc_segment_algorithms_3 XX l0 t1 K s) : wpCall Tryz.prog XX 81 [l0, t1] K s := vc_segment_algorithms_3_ok XX_fr rfl h
/-- leafmesh/segment.greatest[leafmesh/api.Candidate,int] (82) -/
def vc_segment_greatest_api_Candidate_int__j1 (X : Told) (most6 : AVal) (t21 : AVal) (I0 : List AVal → Heap → Nat → Prop) (m0 : Nat) (K : AVal → Heap → Prop) (s : Heap) : Prop :=
  optK (arithV .add t21 (.int .i64 1)) fun v_24 =>
  ∃ m', m' < m0 ∧ I0 [most6, v_24] s m'
def vc_segment_greatest_api_Candidate_int__l0 (X : Told) (key1 : AVal) (t4 : AVal) (best5 : AVal) (most6 : AVal) (t19 : AVal) (t20 : AVal) (t21 : AVal) (I0 : List AVal → Heap → Nat → Prop) (m0 : Nat) (K : AVal → Heap → Prop) (s : Heap) : Prop :=
  optK (arithV .lss t21 t20) fun v_14 =>
  boolK v_14
   (optK (iaddrS 2 t19 t21) fun v_15 =>
    optK (rdN s 2 v_15) fun v_16 =>
    newK 36 [(.int .u32 0), (.int .i64 0)] (fun b_17 s_18 =>
    optK (wrAgg s_18 2 (.ptr b_17 0) (.agg v_16)) fun s_19 =>
    optK (rdN s_19 2 (.ptr b_17 0)) fun v_20 =>
    funK Tryz.prog X key1 [(.agg v_20)] (fun v_21 s_22 =>
    optK (arithV .gtr v_21 most6) fun v_23 =>
    boolK v_23
     (optK (rdN s_22 2 (.ptr b_17 0)) fun v_25 =>
      optK (wrAgg s_22 2 best5 (.agg v_25)) fun s_26 =>
      vc_segment_greatest_api_Candidate_int__j1 X v_21 t21 I0 m0 K s_26)
     (vc_segment_greatest_api_Candidate_int__j1 X most6 t21 I0 m0 K s_22)) s_19) s)
   (optK (rdN s 2 best5) fun v_27 =>
    optK (wrAgg s 2 t4 (.agg v_27)) fun s_28 =>
    optK (rdN s_28 2 t4) fun t4_29 =>
    K (.agg t4_29) s_28)
def vc_segment_greatest_api_Candidate_int_ (X : Told) (l0 : AVal) (key1 : AVal) (K : AVal → Heap → Prop) (s : Heap) : Prop :=
  newK 36 [(.int .u32 0), (.int .i64 0)] (fun b_0 s_1 =>
  optK (iaddrS 2 l0 (.int .i64 0)) fun v_2 =>
  optK (rdN s_1 2 v_2) fun v_3 =>
  optK (iaddrS 2 l0 (.int .i64 0)) fun v_4 =>
  optK (rdN s_1 2 v_4) fun v_5 =>
  funK Tryz.prog X key1 [(.agg v_5)] (fun v_6 s_7 =>
  (∀ b, s_1 b ≠ none → s_1 b = none → s_7 b = none) →
  newK 36 [(.int .u32 0), (.int .i64 0)] (fun b_8 s_9 =>
  (∀ b, (add s_1 s_7) b ≠ none → (cutH [(s_1, (add s_1 s_7))] (add s_1 s_7)) b = none → s_9 b = none) →
  optK (wrAgg (add (add s_1 s_7) s_9) 2 (.ptr b_8 0) (.agg v_3)) fun s_10 =>
  optK (sliceS 2 l0 (some (.int .i64 1)) none none) fun v_11 =>
  optK (lenOfA v_11) fun v_12 =>
  ∃ I0 : List AVal → Heap → Nat → Prop, (∃ m, I0 [v_6, (.int .i64 0)] s_10 m) ∧ ∀ (f : Env) (s : Heap) (m0 : Nat), I0 [f 6, f 21] s m0 →
    vc_segment_greatest_api_Candidate_int__l0 X key1 (.ptr b_0 0) (.ptr b_8 0) (f 6) v_11 (.int .i64 v_12) (f 21) I0 m0 K s) (frz (cutH [(s_1, (add s_1 s_7))] (add s_1 s_7)))) (frz s_1)) s
def vc_segment_greatest_api_Candidate_int__ann : Nat → List Nat := fun k => cond (Nat.beq k 6) [6, 21] ([])
theorem vc_segment_greatest_api_Candidate_int__eq (X : Told) (l0 : AVal) (key1 : AVal) (K : AVal → Heap → Prop) (s : Heap) : wpC Tryz.prog X vc_segment_greatest_api_Candidate_int__ann Tryz.f82.ntmps none (bodyOf Tryz.f82) (envOf [l0, key1]) (fun e env s => retK e (resK Tryz.prog Tryz.f82.results.toList env (fun vs => K (oneV vs) s) s)) s = vc_segment_greatest_api_Candidate_int_ X l0 key1 K s := by kernel_rfl
theorem vc_segment_greatest_api_Candidate_int__ok {X : Told} (hX : FrX X) (hn : X 82 = none) {l0 : AVal} {key1 : AVal} {K : AVal → Heap → Prop} {s : Heap} (h : vc_segment_greatest_api_Candidate_int_ X l0 key1 K s) : wpCall Tryz.prog X 82 [l0, key1] K s :=
  wpCall_code hX vc_segment_greatest_api_Candidate_int__ann hn Tryz.func82 (by kernel_rfl : Tryz.f82.body = some (bodyOf Tryz.f82)) (by kernel_rfl) ((vc_segment_greatest_api_Candidate_int__eq X l0 key1 K s).mpr h)
theorem vc_segment_greatest_api_Candidate_int__in {l0 : AVal} {key1 : AVal} {K : AVal → Heap → Prop} {s : Heap} (h : vc_segment_greatest_api_Candidate_int_ XX l0 key1 K s) : wpCall Tryz.prog XX 82 [l0, key1] K s := vc_segment_greatest_api_Candidate_int__ok XX_fr rfl h
/-- leafmesh/segment.algorithms$3$1 (83) -/
def vc_segment_algorithms_3_1 (X : Told) (c0 : AVal) (K : AVal → Heap → Prop) (s : Heap) : Prop :=
  boxK 36 c0 (fun b_0 s_1 =>
  optK (addOff 1 b_0) fun v_2 =>
  optK (rd1 s_1 v_2) fun v_3 =>
  K v_3 s_1) s
def vc_segment_algorithms_3_1_ann : Nat → List Nat := fun _ => []
theorem vc_segment_algorithms_3_1_eq (X : Told) (c0 : AVal) (K : AVal → Heap → Prop) (s : Heap) : wpC Tryz.prog X vc_segment_algorithms_3_1_ann Tryz.f83.ntmps none (bodyOf Tryz.f83) (envOf [c0]) (fun e env s => retK e (resK Tryz.prog Tryz.f83.results.toList env (fun vs => K (oneV vs) s) s)) s = vc_segment_algorithms_3_1 X c0 K s := by kernel_rfl
theorem vc_segment_algorithms_3_1_ok {X : Told} (hX : FrX X) (hn : X 83 = none) {c0 : AVal} {K : AVal → Heap → Prop} {s : Heap} (h : vc_segment_algorithms_3_1 X c0 K s) : wpCall Tryz.prog X 83 [c0] K s :=
  wpCall_code hX vc_segment_algorithms_3_1_ann hn Tryz.func83 (by kernel_rfl : Tryz.f83.body = some (bodyOf Tryz.f83)) (by kernel_rfl) ((vc_segment_algorithms_3_1_eq X c0 K s).mpr h)
theorem vc_segment_algorithms_3_1_in {c0 : AVal} {K : AVal → Heap → Prop} {s : Heap} (h : vc_segment_algorithms_3_1 XX c0 K s) : wpCall Tryz.prog XX 83 [c0] K s := vc_segment_algorithms_3_1_ok XX_fr rfl h
end Go.AM
