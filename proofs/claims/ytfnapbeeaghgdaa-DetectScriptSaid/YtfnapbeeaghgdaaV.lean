/- Part V of a calculus over a small memory that is proved to answer as the program does, and of its use for the functions that the law reaches: see the last part. -/
import Derived.Test.YtfnapbeeaghgdaaU2
import Derived.Test.YtfnapbeeaghgdaaProg
import Derived.KernelRfl
set_option linter.unusedVariables false
namespace Go.AM
open Go Go.Proofs
set_option maxRecDepth 100000
abbrev XX : Told := closedX [3, 15]
/-- leafmesh/leafmeshlaw12.DetectRuns (4) -/
def vc_leafmeshlaw12_DetectRuns_j7 (X : Told) (want13 : AVal) (silent14 : AVal) (k15 : AVal) (I2 : List AVal → Heap → Nat → Prop) (m2 : Nat) (I1 : List AVal → Heap → Nat → Prop) (m1 : Nat) (K : AVal → Heap → Prop) (s : Heap) : Prop :=
  optK (arithV .add k15 (.int .i64 1)) fun v_31 =>
  ∃ m', m' < m2 ∧ I2 [want13, silent14, v_31] s m'
def vc_leafmeshlaw12_DetectRuns_j6 (X : Told) (want13 : AVal) (silent14 : AVal) (k15 : AVal) (t74 : AVal) (t79 : AVal) (I2 : List AVal → Heap → Nat → Prop) (m2 : Nat) (I1 : List AVal → Heap → Nat → Prop) (m1 : Nat) (K : AVal → Heap → Prop) (s : Heap) : Prop :=
  optK (pickV t74 t79 (.bool false)) fun v_30 =>
  boolK v_30
   (vc_leafmeshlaw12_DetectRuns_j7 X (.bool true) silent14 k15 I2 m2 I1 m1 K s)
   (vc_leafmeshlaw12_DetectRuns_j7 X want13 silent14 k15 I2 m2 I1 m1 K s)
def vc_leafmeshlaw12_DetectRuns_j5 (X : Told) (heard1 : AVal) (want13 : AVal) (silent14 : AVal) (k15 : AVal) (t68 : AVal) (t72 : AVal) (I2 : List AVal → Heap → Nat → Prop) (m2 : Nat) (I1 : List AVal → Heap → Nat → Prop) (m1 : Nat) (K : AVal → Heap → Prop) (s : Heap) : Prop :=
  optK (pickV t68 t72 (.bool false)) fun v_29 =>
  boolK v_29
   (optK (arithV .sub k15 (.int .i64 1)) fun v_32 =>
    optK (iaddrS 1 heard1 v_32) fun v_33 =>
    optK (rd1 s v_33) fun v_34 =>
    vc_leafmeshlaw12_DetectRuns_j6 X want13 silent14 k15 v_29 v_34 I2 m2 I1 m1 K s)
   (vc_leafmeshlaw12_DetectRuns_j6 X want13 silent14 k15 v_29 .undef I2 m2 I1 m1 K s)
def vc_leafmeshlaw12_DetectRuns_j4 (X : Told) (heard1 : AVal) (want13 : AVal) (silent14 : AVal) (k15 : AVal) (I2 : List AVal → Heap → Nat → Prop) (m2 : Nat) (I1 : List AVal → Heap → Nat → Prop) (m1 : Nat) (K : AVal → Heap → Prop) (s : Heap) : Prop :=
  optK (arithV .gtr k15 (.int .i64 0)) fun v_28 =>
  boolK v_28
   (optK (iaddrS 1 heard1 k15) fun v_35 =>
    optK (rd1 s v_35) fun v_36 =>
    vc_leafmeshlaw12_DetectRuns_j5 X heard1 want13 silent14 k15 v_28 v_36 I2 m2 I1 m1 K s)
   (vc_leafmeshlaw12_DetectRuns_j5 X heard1 want13 silent14 k15 v_28 .undef I2 m2 I1 m1 K s)
def vc_leafmeshlaw12_DetectRuns_j3 (X : Told) (multiplier0 : AVal) (heard1 : AVal) (want13 : AVal) (silent14 : AVal) (k15 : AVal) (I2 : List AVal → Heap → Nat → Prop) (m2 : Nat) (I1 : List AVal → Heap → Nat → Prop) (m1 : Nat) (K : AVal → Heap → Prop) (s : Heap) : Prop :=
  optK (arithV .geq silent14 multiplier0) fun v_27 =>
  boolK v_27
   (vc_leafmeshlaw12_DetectRuns_j4 X heard1 (.bool false) silent14 k15 I2 m2 I1 m1 K s)
   (vc_leafmeshlaw12_DetectRuns_j4 X heard1 want13 silent14 k15 I2 m2 I1 m1 K s)
def vc_leafmeshlaw12_DetectRuns_l2 (X : Told) (multiplier0 : AVal) (heard1 : AVal) (up10 : AVal) (i12 : AVal) (want13 : AVal) (silent14 : AVal) (k15 : AVal) (I2 : List AVal → Heap → Nat → Prop) (m2 : Nat) (I1 : List AVal → Heap → Nat → Prop) (m1 : Nat) (K : AVal → Heap → Prop) (s : Heap) : Prop :=
  optK (arithV .leq k15 i12) fun v_24 =>
  boolK v_24
   (optK (iaddrS 1 heard1 k15) fun v_25 =>
    optK (rd1 s v_25) fun v_26 =>
    boolK v_26
     (vc_leafmeshlaw12_DetectRuns_j3 X multiplier0 heard1 want13 (.int .i64 0) k15 I2 m2 I1 m1 K s)
     (optK (arithV .add silent14 (.int .i64 1)) fun v_37 =>
      vc_leafmeshlaw12_DetectRuns_j3 X multiplier0 heard1 want13 v_37 k15 I2 m2 I1 m1 K s))
   (optK (iaddrS 1 up10 i12) fun v_38 =>
    optK (rd1 s v_38) fun v_39 =>
    optK (negB true (eqV 1 false v_39 want13)) fun v_40 =>
    boolK v_40
     (K (.bool false) s)
     (optK (arithV .add i12 (.int .i64 1)) fun v_41 =>
      ∃ m', m' < m1 ∧ I1 [v_41] s m'))
def vc_leafmeshlaw12_DetectRuns_l1 (X : Told) (multiplier0 : AVal) (heard1 : AVal) (ok7 : AVal) (up10 : AVal) (i12 : AVal) (I1 : List AVal → Heap → Nat → Prop) (m1 : Nat) (K : AVal → Heap → Prop) (s : Heap) : Prop :=
  optK (lenOfA heard1) fun v_21 =>
  optK (arithV .lss i12 (.int .i64 v_21)) fun v_23 =>
  boolK v_23
   (∃ I2 : List AVal → Heap → Nat → Prop, (∃ m, I2 [(.bool false), (.int .i64 0), (.int .i64 0)] s m) ∧ ∀ (f : Env) (s : Heap) (m2 : Nat), I2 [f 13, f 14, f 15] s m2 →
      vc_leafmeshlaw12_DetectRuns_l2 X multiplier0 heard1 up10 i12 (f 13) (f 14) (f 15) I2 m2 I1 m1 K s)
   (K ok7 s)
def vc_leafmeshlaw12_DetectRuns_j0 (X : Told) (multiplier0 : AVal) (heard1 : AVal) (t2 : AVal) (ok7 : AVal) (w8 : AVal) (t33 : AVal) (t35 : AVal) (K : AVal → Heap → Prop) (s : Heap) : Prop :=
  optK (pickV t33 (.bool true) t35) fun v_15 =>
  boolK v_15
   (K (.bool false) s)
   (wpCall Try.prog X 17 [w8, t2, heard1] (fun v_16 s_17 =>
    optK (extractA v_16 0) fun v_18 =>
    optK (extractA v_16 1) fun v_19 =>
    optK (unaryA .not v_19) fun v_20 =>
    boolK v_20
     (K (.bool false) s_17)
     (∃ I1 : List AVal → Heap → Nat → Prop, (∃ m, I1 [(.int .i64 0)] s_17 m) ∧ ∀ (f : Env) (s : Heap) (m1 : Nat), I1 [f 12] s m1 →
        vc_leafmeshlaw12_DetectRuns_l1 X multiplier0 heard1 ok7 v_18 (f 12) I1 m1 K s)) s)
def vc_leafmeshlaw12_DetectRuns (X : Told) (multiplier0 : AVal) (heard1 : AVal) (t2 : AVal) (K : AVal → Heap → Prop) (s : Heap) : Prop :=
  wpCall Try.prog X 3 [] (fun v_0 s_1 =>
  optK (lenOfA heard1) fun v_2 =>
  optK (arithV .gtr (.int .i64 v_2) (.int .i64 200)) fun v_4 =>
  boolK v_4
   (K v_0 s_1)
   (wpCall Try.prog X 16 [multiplier0, (.int .i64 8)] (fun v_5 s_6 =>
    optK (arithV .add (.int .i64 1) v_5) fun v_7 =>
    wpCall Try.prog X 16 [t2, (.int .i64 1000)] (fun v_8 s_9 =>
    wpCall Try.prog X 9 [v_7] (fun v_10 s_11 =>
    optK (extractA v_10 0) fun v_12 =>
    optK (extractA v_10 1) fun v_13 =>
    optK (negB true (eqV 0 true v_13 (.int .i64 0))) fun v_14 =>
    boolK v_14
     (vc_leafmeshlaw12_DetectRuns_j0 X v_7 heard1 v_8 v_0 v_12 v_14 .undef K s_11)
     (optK (negB false (eqV 3 true v_12 .nilptr)) fun v_42 =>
      vc_leafmeshlaw12_DetectRuns_j0 X v_7 heard1 v_8 v_0 v_12 v_14 v_42 K s_11)) s_9) s_6) s_1)) s
def vc_leafmeshlaw12_DetectRuns_ann : Nat → List Nat := fun k => cond (Nat.beq k 26) [12] (cond (Nat.beq k 34) [13, 14, 15] ([]))
theorem vc_leafmeshlaw12_DetectRuns_eq (X : Told) (multiplier0 : AVal) (heard1 : AVal) (t2 : AVal) (K : AVal → Heap → Prop) (s : Heap) : wpC Try.prog X vc_leafmeshlaw12_DetectRuns_ann Try.f4.ntmps none (bodyOf Try.f4) (envOf [multiplier0, heard1, t2]) (fun e env s => retK e (resK Try.prog Try.f4.results.toList env (fun vs => K (oneV vs) s) s)) s = vc_leafmeshlaw12_DetectRuns X multiplier0 heard1 t2 K s := by kernel_rfl
theorem vc_leafmeshlaw12_DetectRuns_ok {X : Told} (hX : FrX X) (hn : X 4 = none) {multiplier0 : AVal} {heard1 : AVal} {t2 : AVal} {K : AVal → Heap → Prop} {s : Heap} (h : vc_leafmeshlaw12_DetectRuns X multiplier0 heard1 t2 K s) : wpCall Try.prog X 4 [multiplier0, heard1, t2] K s :=
  wpCall_code hX vc_leafmeshlaw12_DetectRuns_ann hn Try.func4 (by kernel_rfl : Try.f4.body = some (bodyOf Try.f4)) (by kernel_rfl) ((vc_leafmeshlaw12_DetectRuns_eq X multiplier0 heard1 t2 K s).mpr h)
theorem vc_leafmeshlaw12_DetectRuns_in {multiplier0 : AVal} {heard1 : AVal} {t2 : AVal} {K : AVal → Heap → Prop} {s : Heap} (h : vc_leafmeshlaw12_DetectRuns XX multiplier0 heard1 t2 K s) : wpCall Try.prog XX 4 [multiplier0, heard1, t2] K s := vc_leafmeshlaw12_DetectRuns_ok (closedX_fr _) rfl h
/-- leafmesh/leafmeshlaw12.DetectFails (5) -/
def vc_leafmeshlaw12_DetectFails_j4 (X : Told) (now12 : AVal) (i14 : AVal) (t83 : AVal) (t87 : AVal) (I2 : List AVal → Heap → Nat → Prop) (m2 : Nat) (K : AVal → Heap → Prop) (s : Heap) : Prop :=
  optK (pickV t83 (.bool true) t87) fun v_42 =>
  boolK v_42
   (K (.bool false) s)
   (optK (arithV .add now12 (.int .i64 1)) fun v_43 =>
    optK (arithV .add i14 (.int .i64 1)) fun v_44 =>
    ∃ m', m' < m2 ∧ I2 [v_43, v_44] s m')
def vc_leafmeshlaw12_DetectFails_j3 (X : Told) (w8 : AVal) (now12 : AVal) (i14 : AVal) (change15 : AVal) (t76 : AVal) (t81 : AVal) (I2 : List AVal → Heap → Nat → Prop) (m2 : Nat) (K : AVal → Heap → Prop) (s : Heap) : Prop :=
  optK (pickV t76 (.bool true) t81) fun v_41 =>
  boolK v_41
   (vc_leafmeshlaw12_DetectFails_j4 X now12 i14 v_41 .undef I2 m2 K s)
   (wpCall Try.prog X 19 [w8] (fun v_45 s_46 =>
    optK (negB false (eqV 1 false v_45 change15)) fun v_47 =>
    vc_leafmeshlaw12_DetectFails_j4 X now12 i14 v_41 v_47 I2 m2 K s_46) s)
def vc_leafmeshlaw12_DetectFails_j8 (X : Told) (t114 : AVal) (t119 : AVal) (K : AVal → Heap → Prop) (s : Heap) : Prop :=
  optK (pickV t114 t119 (.bool false)) fun v_60 =>
  K v_60 s
def vc_leafmeshlaw12_DetectFails_j7 (X : Told) (w8 : AVal) (now12 : AVal) (t107 : AVal) (t112 : AVal) (K : AVal → Heap → Prop) (s : Heap) : Prop :=
  optK (pickV t107 t112 (.bool false)) fun v_59 =>
  boolK v_59
   (wpCall Try.prog X 21 [w8] (fun v_61 s_62 =>
    optK (arithV .add now12 (.int .i64 1)) fun v_63 =>
    optK (negB false (eqV 0 false v_61 v_63)) fun v_64 =>
    vc_leafmeshlaw12_DetectFails_j8 X v_59 v_64 K s_62) s)
   (vc_leafmeshlaw12_DetectFails_j8 X v_59 .undef K s)
def vc_leafmeshlaw12_DetectFails_j6 (X : Told) (w8 : AVal) (now12 : AVal) (many13 : AVal) (t102 : AVal) (t105 : AVal) (K : AVal → Heap → Prop) (s : Heap) : Prop :=
  optK (pickV t102 t105 (.bool false)) fun v_58 =>
  boolK v_58
   (wpCall Try.prog X 14 [w8] (fun v_65 s_66 =>
    optK (arithV .add many13 (.int .i64 2)) fun v_67 =>
    optK (negB false (eqV 0 false v_65 v_67)) fun v_68 =>
    vc_leafmeshlaw12_DetectFails_j7 X w8 now12 v_58 v_68 K s_66) s)
   (vc_leafmeshlaw12_DetectFails_j7 X w8 now12 v_58 .undef K s)
def vc_leafmeshlaw12_DetectFails_j5 (X : Told) (w8 : AVal) (now12 : AVal) (many13 : AVal) (l17 : AVal) (t99 : AVal) (t100 : AVal) (K : AVal → Heap → Prop) (s : Heap) : Prop :=
  optK (pickV t99 t100 (.bool false)) fun v_57 =>
  boolK v_57
   (optK (fillR (repl 2 [(.bool false)]) [(0, 1, (.bool false)), (1, 1, (.bool true))]) fun c_69 => allOne c_69 = true ∧ newK 4 c_69 (fun b_70 s_71 =>
    wpCall Try.prog X 20 [l17, (.slc b_70 0 2 (some 2) 1)] (fun v_72 s_73 =>
    vc_leafmeshlaw12_DetectFails_j6 X w8 now12 many13 v_57 v_72 K s_73) s_71) s)
   (vc_leafmeshlaw12_DetectFails_j6 X w8 now12 many13 v_57 .undef K s)
def vc_leafmeshlaw12_DetectFails_l2 (X : Told) (multiplier0 : AVal) (ok7 : AVal) (w8 : AVal) (now12 : AVal) (many13 : AVal) (i14 : AVal) (I2 : List AVal → Heap → Nat → Prop) (m2 : Nat) (K : AVal → Heap → Prop) (s : Heap) : Prop :=
  optK (arithV .leq i14 multiplier0) fun v_35 =>
  boolK v_35
   (wpCall Try.prog X 11 [w8, now12, (.bool false)] (fun v_36 s_37 =>
    optK (extractA v_36 0) fun v_38 =>
    optK (extractA v_36 1) fun v_39 =>
    optK (negB true (eqV 0 true v_39 (.int .i64 0))) fun v_40 =>
    boolK v_40
     (vc_leafmeshlaw12_DetectFails_j3 X w8 now12 i14 v_38 v_40 .undef I2 m2 K s_37)
     (optK (negB false (eqV 0 false i14 multiplier0)) fun v_48 =>
      optK (negB true (eqV 1 false v_38 v_48)) fun v_49 =>
      vc_leafmeshlaw12_DetectFails_j3 X w8 now12 i14 v_38 v_40 v_49 I2 m2 K s_37)) s)
   (optK (fillR (repl 2 [(.bool false)]) [(0, 1, (.bool true)), (1, 1, (.bool true))]) fun c_50 => allOne c_50 = true ∧ newK 4 c_50 (fun b_51 s_52 =>
    wpCall Try.prog X 17 [w8, now12, (.slc b_51 0 2 (some 2) 1)] (fun v_53 s_54 =>
    optK (extractA v_53 0) fun v_55 =>
    optK (extractA v_53 1) fun v_56 =>
    boolK ok7
     (vc_leafmeshlaw12_DetectFails_j5 X w8 now12 many13 v_55 ok7 v_56 K s_54)
     (vc_leafmeshlaw12_DetectFails_j5 X w8 now12 many13 v_55 ok7 .undef K s_54)) s_52) s)
def vc_leafmeshlaw12_DetectFails_j1 (X : Told) (multiplier0 : AVal) (ok7 : AVal) (w8 : AVal) (now12 : AVal) (t56 : AVal) (t59 : AVal) (K : AVal → Heap → Prop) (s : Heap) : Prop :=
  optK (pickV t56 (.bool true) t59) fun v_32 =>
  boolK v_32
   (K (.bool false) s)
   (wpCall Try.prog X 14 [w8] (fun v_33 s_34 =>
    ∃ I2 : List AVal → Heap → Nat → Prop, (∃ m, I2 [now12, (.int .i64 1)] s_34 m) ∧ ∀ (f : Env) (s : Heap) (m2 : Nat), I2 [f 12, f 14] s m2 →
      vc_leafmeshlaw12_DetectFails_l2 X multiplier0 ok7 w8 (f 12) v_33 (f 14) I2 m2 K s) s)
def vc_leafmeshlaw12_DetectFails_j0 (X : Told) (multiplier0 : AVal) (before1 : AVal) (t2 : AVal) (ok7 : AVal) (w8 : AVal) (t35 : AVal) (t37 : AVal) (K : AVal → Heap → Prop) (s : Heap) : Prop :=
  optK (pickV t35 (.bool true) t37) fun v_15 =>
  boolK v_15
   (K (.bool false) s)
   (wpCall Try.prog X 18 [before1] (fun v_16 s_17 =>
    optK (fillR (repl 2 [(.bool false)]) [(0, 1, (.bool true)), (1, 1, (.bool true))]) fun c_18 => allOne c_18 = true ∧ newK 4 c_18 (fun b_19 s_20 =>
    appK 4 1 v_16 (.slc b_19 0 2 (some 2) 1) (fun v_21 s_22 =>
    wpCall Try.prog X 17 [w8, t2, v_21] (fun v_23 s_24 =>
    optK (extractA v_23 0) fun v_25 =>
    optK (extractA v_23 1) fun v_26 =>
    optK (lenOfA before1) fun v_27 =>
    optK (arithV .add t2 (.int .i64 v_27)) fun v_29 =>
    optK (arithV .add v_29 (.int .i64 2)) fun v_30 =>
    optK (unaryA .not v_26) fun v_31 =>
    boolK v_31
     (vc_leafmeshlaw12_DetectFails_j1 X multiplier0 ok7 w8 v_30 v_31 .undef K s_24)
     (wpCall Try.prog X 19 [w8] (fun v_74 s_75 =>
      optK (unaryA .not v_74) fun v_76 =>
      vc_leafmeshlaw12_DetectFails_j1 X multiplier0 ok7 w8 v_30 v_31 v_76 K s_75) s_24)) s_22) s_20) s_17) s)
def vc_leafmeshlaw12_DetectFails (X : Told) (multiplier0 : AVal) (before1 : AVal) (t2 : AVal) (K : AVal → Heap → Prop) (s : Heap) : Prop :=
  wpCall Try.prog X 3 [] (fun v_0 s_1 =>
  optK (lenOfA before1) fun v_2 =>
  optK (arithV .gtr (.int .i64 v_2) (.int .i64 60)) fun v_4 =>
  boolK v_4
   (K v_0 s_1)
   (wpCall Try.prog X 16 [multiplier0, (.int .i64 60)] (fun v_5 s_6 =>
    optK (arithV .add (.int .i64 1) v_5) fun v_7 =>
    wpCall Try.prog X 16 [t2, (.int .i64 1000)] (fun v_8 s_9 =>
    wpCall Try.prog X 9 [v_7] (fun v_10 s_11 =>
    optK (extractA v_10 0) fun v_12 =>
    optK (extractA v_10 1) fun v_13 =>
    optK (negB true (eqV 0 true v_13 (.int .i64 0))) fun v_14 =>
    boolK v_14
     (vc_leafmeshlaw12_DetectFails_j0 X v_7 before1 v_8 v_0 v_12 v_14 .undef K s_11)
     (optK (negB false (eqV 3 true v_12 .nilptr)) fun v_77 =>
      vc_leafmeshlaw12_DetectFails_j0 X v_7 before1 v_8 v_0 v_12 v_14 v_77 K s_11)) s_9) s_6) s_1)) s
def vc_leafmeshlaw12_DetectFails_ann : Nat → List Nat := fun k => cond (Nat.beq k 30) [12, 14] ([])
theorem vc_leafmeshlaw12_DetectFails_eq (X : Told) (multiplier0 : AVal) (before1 : AVal) (t2 : AVal) (K : AVal → Heap → Prop) (s : Heap) : wpC Try.prog X vc_leafmeshlaw12_DetectFails_ann Try.f5.ntmps none (bodyOf Try.f5) (envOf [multiplier0, before1, t2]) (fun e env s => retK e (resK Try.prog Try.f5.results.toList env (fun vs => K (oneV vs) s) s)) s = vc_leafmeshlaw12_DetectFails X multiplier0 before1 t2 K s := by kernel_rfl
theorem vc_leafmeshlaw12_DetectFails_ok {X : Told} (hX : FrX X) (hn : X 5 = none) {multiplier0 : AVal} {before1 : AVal} {t2 : AVal} {K : AVal → Heap → Prop} {s : Heap} (h : vc_leafmeshlaw12_DetectFails X multiplier0 before1 t2 K s) : wpCall Try.prog X 5 [multiplier0, before1, t2] K s :=
  wpCall_code hX vc_leafmeshlaw12_DetectFails_ann hn Try.func5 (by kernel_rfl : Try.f5.body = some (bodyOf Try.f5)) (by kernel_rfl) ((vc_leafmeshlaw12_DetectFails_eq X multiplier0 before1 t2 K s).mpr h)
theorem vc_leafmeshlaw12_DetectFails_in {multiplier0 : AVal} {before1 : AVal} {t2 : AVal} {K : AVal → Heap → Prop} {s : Heap} (h : vc_leafmeshlaw12_DetectFails XX multiplier0 before1 t2 K s) : wpCall Try.prog XX 5 [multiplier0, before1, t2] K s := vc_leafmeshlaw12_DetectFails_ok (closedX_fr _) rfl h
/-- leafmesh/leafmeshlaw12.DetectStays (6) -/
def vc_leafmeshlaw12_DetectStays_j3 (X : Told) (now10 : AVal) (i11 : AVal) (silent12 : AVal) (t66 : AVal) (t69 : AVal) (I1 : List AVal → Heap → Nat → Prop) (m1 : Nat) (K : AVal → Heap → Prop) (s : Heap) : Prop :=
  optK (pickV t66 t69 (.bool false)) fun v_42 =>
  optK (arithV .add now10 silent12) fun v_43 =>
  optK (arithV .add v_43 (.int .i64 1)) fun v_44 =>
  optK (arithV .add i11 (.int .i64 1)) fun v_45 =>
  ∃ m', m' < m1 ∧ I1 [v_42, v_44, v_45] s m'
def vc_leafmeshlaw12_DetectStays_j7 (X : Told) (t88 : AVal) (t91 : AVal) (K : AVal → Heap → Prop) (s : Heap) : Prop :=
  optK (pickV t88 t91 (.bool false)) fun v_52 =>
  K v_52 s
def vc_leafmeshlaw12_DetectStays_j6 (X : Told) (w6 : AVal) (t83 : AVal) (t86 : AVal) (K : AVal → Heap → Prop) (s : Heap) : Prop :=
  optK (pickV t83 t86 (.bool false)) fun v_51 =>
  boolK v_51
   (wpCall Try.prog X 21 [w6] (fun v_53 s_54 =>
    optK (negB false (eqV 0 true v_53 (.int .i64 1))) fun v_55 =>
    vc_leafmeshlaw12_DetectStays_j7 X v_51 v_55 K s_54) s)
   (vc_leafmeshlaw12_DetectStays_j7 X v_51 .undef K s)
def vc_leafmeshlaw12_DetectStays_j5 (X : Told) (w6 : AVal) (t79 : AVal) (t81 : AVal) (K : AVal → Heap → Prop) (s : Heap) : Prop :=
  optK (pickV t79 t81 (.bool false)) fun v_50 =>
  boolK v_50
   (wpCall Try.prog X 14 [w6] (fun v_56 s_57 =>
    optK (negB false (eqV 0 true v_56 (.int .i64 1))) fun v_58 =>
    vc_leafmeshlaw12_DetectStays_j6 X w6 v_50 v_58 K s_57) s)
   (vc_leafmeshlaw12_DetectStays_j6 X w6 v_50 .undef K s)
def vc_leafmeshlaw12_DetectStays_j4 (X : Told) (w6 : AVal) (t76 : AVal) (t77 : AVal) (K : AVal → Heap → Prop) (s : Heap) : Prop :=
  optK (pickV t76 t77 (.bool false)) fun v_49 =>
  boolK v_49
   (wpCall Try.prog X 19 [w6] (fun v_59 s_60 =>
    vc_leafmeshlaw12_DetectStays_j5 X w6 v_49 v_59 K s_60) s)
   (vc_leafmeshlaw12_DetectStays_j5 X w6 v_49 .undef K s)
def vc_leafmeshlaw12_DetectStays_j2 (X : Told) (multiplier0 : AVal) (gaps1 : AVal) (ok5 : AVal) (w6 : AVal) (t9 : AVal) (now10 : AVal) (i11 : AVal) (t44 : AVal) (t45 : AVal) (I1 : List AVal → Heap → Nat → Prop) (m1 : Nat) (K : AVal → Heap → Prop) (s : Heap) : Prop :=
  optK (pickV t44 t45 (.bool false)) fun v_24 =>
  boolK v_24
   (optK (iaddrS 1 gaps1 i11) fun v_25 =>
    optK (rd1 s v_25) fun v_26 =>
    wpCall Try.prog X 16 [v_26, multiplier0] (fun v_27 s_28 =>
    optK (nat? v_27) fun n_29 => optK (nat? v_27) fun n_30 => (n_29 ≤ n_30 ∧ n_30 ≤ 4294967296) ∧ newK 4 (repl n_30 [(.bool false)]) (fun b_31 s_32 =>
    optK (fillR (repl 1 [(.bool false)]) [(0, 1, (.bool true))]) fun c_33 => allOne c_33 = true ∧ newK 4 c_33 (fun b_34 s_35 =>
    appK 4 1 (.slc b_31 0 n_29 (some n_30) 1) (.slc b_34 0 1 (some 1) 1) (fun v_36 s_37 =>
    wpCall Try.prog X 17 [w6, now10, v_36] (fun v_38 s_39 =>
    optK (extractA v_38 0) fun v_40 =>
    optK (extractA v_38 1) fun v_41 =>
    boolK v_41
     (wpCall Try.prog X 22 [v_40, (.bool false)] (fun v_46 s_47 =>
      optK (unaryA .not v_46) fun v_48 =>
      vc_leafmeshlaw12_DetectStays_j3 X now10 i11 v_27 v_41 v_48 I1 m1 K s_47) s_39)
     (vc_leafmeshlaw12_DetectStays_j3 X now10 i11 v_27 v_41 .undef I1 m1 K s_39)) s_37) s_35) s_32) s_28) s)
   (boolK ok5
     (vc_leafmeshlaw12_DetectStays_j4 X w6 ok5 t9 K s)
     (vc_leafmeshlaw12_DetectStays_j4 X w6 ok5 .undef K s))
def vc_leafmeshlaw12_DetectStays_l1 (X : Told) (multiplier0 : AVal) (gaps1 : AVal) (ok5 : AVal) (w6 : AVal) (t9 : AVal) (now10 : AVal) (i11 : AVal) (I1 : List AVal → Heap → Nat → Prop) (m1 : Nat) (K : AVal → Heap → Prop) (s : Heap) : Prop :=
  optK (lenOfA gaps1) fun v_21 =>
  optK (arithV .lss i11 (.int .i64 v_21)) fun v_23 =>
  boolK v_23
   (vc_leafmeshlaw12_DetectStays_j2 X multiplier0 gaps1 ok5 w6 t9 now10 i11 v_23 t9 I1 m1 K s)
   (vc_leafmeshlaw12_DetectStays_j2 X multiplier0 gaps1 ok5 w6 t9 now10 i11 v_23 .undef I1 m1 K s)
def vc_leafmeshlaw12_DetectStays_j0 (X : Told) (multiplier0 : AVal) (gaps1 : AVal) (ok5 : AVal) (w6 : AVal) (t30 : AVal) (t32 : AVal) (K : AVal → Heap → Prop) (s : Heap) : Prop :=
  optK (pickV t30 (.bool true) t32) fun v_13 =>
  boolK v_13
   (K (.bool false) s)
   (optK (fillR (repl 2 [(.bool false)]) [(0, 1, (.bool true)), (1, 1, (.bool true))]) fun c_14 => allOne c_14 = true ∧ newK 4 c_14 (fun b_15 s_16 =>
    wpCall Try.prog X 17 [w6, (.int .i64 0), (.slc b_15 0 2 (some 2) 1)] (fun v_17 s_18 =>
    optK (extractA v_17 0) fun v_19 =>
    optK (extractA v_17 1) fun v_20 =>
    ∃ I1 : List AVal → Heap → Nat → Prop, (∃ m, I1 [v_20, (.int .i64 2), (.int .i64 0)] s_18 m) ∧ ∀ (f : Env) (s : Heap) (m1 : Nat), I1 [f 9, f 10, f 11] s m1 →
      vc_leafmeshlaw12_DetectStays_l1 X multiplier0 gaps1 ok5 w6 (f 9) (f 10) (f 11) I1 m1 K s) s_16) s)
def vc_leafmeshlaw12_DetectStays (X : Told) (multiplier0 : AVal) (gaps1 : AVal) (K : AVal → Heap → Prop) (s : Heap) : Prop :=
  wpCall Try.prog X 3 [] (fun v_0 s_1 =>
  optK (lenOfA gaps1) fun v_2 =>
  optK (arithV .gtr (.int .i64 v_2) (.int .i64 60)) fun v_4 =>
  boolK v_4
   (K v_0 s_1)
   (wpCall Try.prog X 16 [multiplier0, (.int .i64 20)] (fun v_5 s_6 =>
    optK (arithV .add (.int .i64 1) v_5) fun v_7 =>
    wpCall Try.prog X 9 [v_7] (fun v_8 s_9 =>
    optK (extractA v_8 0) fun v_10 =>
    optK (extractA v_8 1) fun v_11 =>
    optK (negB true (eqV 0 true v_11 (.int .i64 0))) fun v_12 =>
    boolK v_12
     (vc_leafmeshlaw12_DetectStays_j0 X v_7 gaps1 v_0 v_10 v_12 .undef K s_9)
     (optK (negB false (eqV 3 true v_10 .nilptr)) fun v_61 =>
      vc_leafmeshlaw12_DetectStays_j0 X v_7 gaps1 v_0 v_10 v_12 v_61 K s_9)) s_6) s_1)) s
def vc_leafmeshlaw12_DetectStays_ann : Nat → List Nat := fun k => cond (Nat.beq k 22) [9, 10, 11] ([])
theorem vc_leafmeshlaw12_DetectStays_eq (X : Told) (multiplier0 : AVal) (gaps1 : AVal) (K : AVal → Heap → Prop) (s : Heap) : wpC Try.prog X vc_leafmeshlaw12_DetectStays_ann Try.f6.ntmps none (bodyOf Try.f6) (envOf [multiplier0, gaps1]) (fun e env s => retK e (resK Try.prog Try.f6.results.toList env (fun vs => K (oneV vs) s) s)) s = vc_leafmeshlaw12_DetectStays X multiplier0 gaps1 K s := by kernel_rfl
theorem vc_leafmeshlaw12_DetectStays_ok {X : Told} (hX : FrX X) (hn : X 6 = none) {multiplier0 : AVal} {gaps1 : AVal} {K : AVal → Heap → Prop} {s : Heap} (h : vc_leafmeshlaw12_DetectStays X multiplier0 gaps1 K s) : wpCall Try.prog X 6 [multiplier0, gaps1] K s :=
  wpCall_code hX vc_leafmeshlaw12_DetectStays_ann hn Try.func6 (by kernel_rfl : Try.f6.body = some (bodyOf Try.f6)) (by kernel_rfl) ((vc_leafmeshlaw12_DetectStays_eq X multiplier0 gaps1 K s).mpr h)
theorem vc_leafmeshlaw12_DetectStays_in {multiplier0 : AVal} {gaps1 : AVal} {K : AVal → Heap → Prop} {s : Heap} (h : vc_leafmeshlaw12_DetectStays XX multiplier0 gaps1 K s) : wpCall Try.prog XX 6 [multiplier0, gaps1] K s := vc_leafmeshlaw12_DetectStays_ok (closedX_fr _) rfl h
/-- leafmesh/leafmeshlaw12.DetectScript (7) -/
def vc_leafmeshlaw12_DetectScript_j3 (X : Told) (w5 : AVal) (o7 : AVal) (now9 : AVal) (i10 : AVal) (I1 : List AVal → Heap → Nat → Prop) (m1 : Nat) (K : AVal → Heap → Prop) (s : Heap) : Prop :=
  wpCall Try.prog X 28 [w5, o7] (fun v_23 s_24 =>
  optK (unaryA .not v_23) fun v_25 =>
  boolK v_25
   (K (.bool false) s_24)
   (optK (arithV .add i10 (.int .i64 1)) fun v_26 =>
    ∃ m', m' < m1 ∧ I1 [w5, o7, now9, v_26] s_24 m')) s
def vc_leafmeshlaw12_DetectScript_j5 (X : Told) (w5 : AVal) (o7 : AVal) (now9 : AVal) (i10 : AVal) (t97 : AVal) (t100 : AVal) (I1 : List AVal → Heap → Nat → Prop) (m1 : Nat) (K : AVal → Heap → Prop) (s : Heap) : Prop :=
  optK (pickV t97 (.bool true) t100) fun v_61 =>
  boolK v_61
   (K (.bool false) s)
   (vc_leafmeshlaw12_DetectScript_j3 X w5 o7 now9 i10 I1 m1 K s)
def vc_leafmeshlaw12_DetectScript_j4 (X : Told) (l1 : AVal) (w5 : AVal) (o7 : AVal) (now9 : AVal) (i10 : AVal) (I1 : List AVal → Heap → Nat → Prop) (m1 : Nat) (K : AVal → Heap → Prop) (s : Heap) : Prop :=
  optK (iaddrS 3 l1 i10) fun v_46 =>
  optK (addOff 2 v_46) fun v_47 =>
  optK (rd1 s v_47) fun v_48 =>
  wpCall Try.prog X 11 [w5, now9, v_48] (fun v_49 s_50 =>
  optK (extractA v_49 0) fun v_51 =>
  optK (extractA v_49 1) fun v_52 =>
  optK (iaddrS 3 l1 i10) fun v_53 =>
  optK (addOff 2 v_53) fun v_54 =>
  optK (rd1 s_50 v_54) fun v_55 =>
  wpCall Try.prog X 27 [o7, now9, v_55] (fun v_56 s_57 =>
  optK (extractA v_56 0) fun v_58 =>
  optK (extractA v_56 1) fun v_59 =>
  optK (negB true (eqV 1 false v_51 v_58)) fun v_60 =>
  boolK v_60
   (vc_leafmeshlaw12_DetectScript_j5 X w5 o7 now9 i10 v_60 .undef I1 m1 K s_57)
   (optK (negB true (eqV 0 false v_52 v_59)) fun v_62 =>
    vc_leafmeshlaw12_DetectScript_j5 X w5 o7 now9 i10 v_60 v_62 I1 m1 K s_57)) s_50) s
def vc_leafmeshlaw12_DetectScript_j2 (X : Told) (l1 : AVal) (w5 : AVal) (o7 : AVal) (now9 : AVal) (i10 : AVal) (t43 : AVal) (t47 : AVal) (I1 : List AVal → Heap → Nat → Prop) (m1 : Nat) (K : AVal → Heap → Prop) (s : Heap) : Prop :=
  optK (pickV t43 t47 (.bool false)) fun v_16 =>
  boolK v_16
   (optK (iaddrS 3 l1 i10) fun v_17 =>
    optK (addOff 0 v_17) fun v_18 =>
    optK (rd1 s v_18) fun v_19 =>
    wpCall Try.prog X 16 [v_19, (.int .i64 7)] (fun v_20 s_21 =>
    optK (negB false (eqV 0 true v_20 (.int .i64 5))) fun v_22 =>
    boolK v_22
     (wpCall Try.prog X 13 [w5] (fun v_27 s_28 =>
      optK (negB true (eqV 0 true v_27 (.int .i64 0))) fun v_29 =>
      boolK v_29
       (K (.bool false) s_28)
       (wpCall Try.prog X 24 [o7] (fun v_30 s_31 =>
        vc_leafmeshlaw12_DetectScript_j3 X w5 o7 now9 i10 I1 m1 K s_31) s_28)) s_21)
     (optK (negB false (eqV 0 true v_20 (.int .i64 6))) fun v_32 =>
      boolK v_32
       (wpCall Try.prog X 25 [w5] (fun v_33 s_34 =>
        wpCall Try.prog X 26 [o7] (fun v_35 s_36 =>
        optK (arithV .add now9 (.int .i64 1)) fun v_37 =>
        wpCall Try.prog X 11 [w5, v_37, (.bool true)] (fun v_38 s_39 =>
        optK (arithV .add now9 (.int .i64 2)) fun v_40 =>
        wpCall Try.prog X 11 [w5, v_40, (.bool true)] (fun v_41 s_42 =>
        wpCall Try.prog X 13 [w5] (fun v_43 s_44 =>
        vc_leafmeshlaw12_DetectScript_j3 X v_33 v_35 now9 i10 I1 m1 K s_44) s_42) s_39) s_36) s_34) s_21)
       (optK (negB false (eqV 0 true v_20 (.int .i64 4))) fun v_45 =>
        boolK v_45
         (optK (iaddrS 3 l1 i10) fun v_63 =>
          optK (addOff 1 v_63) fun v_64 =>
          optK (rd1 s_21 v_64) fun v_65 =>
          vc_leafmeshlaw12_DetectScript_j4 X l1 w5 o7 v_65 i10 I1 m1 K s_21)
         (optK (iaddrS 3 l1 i10) fun v_66 =>
          optK (addOff 1 v_66) fun v_67 =>
          optK (rd1 s_21 v_67) fun v_68 =>
          optK (arithV .add now9 v_68) fun v_69 =>
          vc_leafmeshlaw12_DetectScript_j4 X l1 w5 o7 v_69 i10 I1 m1 K s_21)))) s)
   (wpCall Try.prog X 15 [] (fun v_70 s_71 =>
    K v_70 s_71) s)
def vc_leafmeshlaw12_DetectScript_l1 (X : Told) (l1 : AVal) (w5 : AVal) (o7 : AVal) (now9 : AVal) (i10 : AVal) (I1 : List AVal → Heap → Nat → Prop) (m1 : Nat) (K : AVal → Heap → Prop) (s : Heap) : Prop :=
  optK (negB true (eqV 3 true o7 .nilptr)) fun v_15 =>
  boolK v_15
   (optK (lenOfA l1) fun v_72 =>
    optK (arithV .lss i10 (.int .i64 v_72)) fun v_74 =>
    vc_leafmeshlaw12_DetectScript_j2 X l1 w5 o7 now9 i10 v_15 v_74 I1 m1 K s)
   (vc_leafmeshlaw12_DetectScript_j2 X l1 w5 o7 now9 i10 v_15 .undef I1 m1 K s)
def vc_leafmeshlaw12_DetectScript_j0 (X : Told) (l1 : AVal) (w5 : AVal) (o7 : AVal) (t34 : AVal) (t39 : AVal) (K : AVal → Heap → Prop) (s : Heap) : Prop :=
  optK (pickV t34 (.bool true) t39) fun v_14 =>
  boolK v_14
   (K (.bool false) s)
   (∃ I1 : List AVal → Heap → Nat → Prop, (∃ m, I1 [w5, o7, (.int .i64 0), (.int .i64 0)] s m) ∧ ∀ (f : Env) (s : Heap) (m1 : Nat), I1 [f 5, f 7, f 9, f 10] s m1 →
      vc_leafmeshlaw12_DetectScript_l1 X l1 (f 5) (f 7) (f 9) (f 10) I1 m1 K s)
def vc_leafmeshlaw12_DetectScript (X : Told) (multiplier0 : AVal) (l1 : AVal) (K : AVal → Heap → Prop) (s : Heap) : Prop :=
  optK (lenOfA l1) fun v_0 =>
  optK (arithV .gtr (.int .i64 v_0) (.int .i64 200)) fun v_2 =>
  boolK v_2
   (wpCall Try.prog X 15 [] (fun v_3 s_4 =>
    K v_3 s_4) s)
   (wpCall Try.prog X 9 [multiplier0] (fun v_5 s_6 =>
    optK (extractA v_5 0) fun v_7 =>
    optK (extractA v_5 1) fun v_8 =>
    wpCall Try.prog X 23 [multiplier0] (fun v_9 s_10 =>
    optK (extractA v_9 0) fun v_11 =>
    optK (extractA v_9 1) fun v_12 =>
    optK (negB true (eqV 0 false v_8 v_12)) fun v_13 =>
    boolK v_13
     (vc_leafmeshlaw12_DetectScript_j0 X l1 v_7 v_11 v_13 .undef K s_10)
     (optK (negB false (eqV 3 true v_7 .nilptr)) fun v_75 =>
      optK (negB false (eqV 3 true v_11 .nilptr)) fun v_76 =>
      optK (negB true (eqV 1 false v_75 v_76)) fun v_77 =>
      vc_leafmeshlaw12_DetectScript_j0 X l1 v_7 v_11 v_13 v_77 K s_10)) s_6) s)
def vc_leafmeshlaw12_DetectScript_ann : Nat → List Nat := fun k => cond (Nat.beq k 18) [5, 7, 9, 10] ([])
theorem vc_leafmeshlaw12_DetectScript_eq (X : Told) (multiplier0 : AVal) (l1 : AVal) (K : AVal → Heap → Prop) (s : Heap) : wpC Try.prog X vc_leafmeshlaw12_DetectScript_ann Try.f7.ntmps none (bodyOf Try.f7) (envOf [multiplier0, l1]) (fun e env s => retK e (resK Try.prog Try.f7.results.toList env (fun vs => K (oneV vs) s) s)) s = vc_leafmeshlaw12_DetectScript X multiplier0 l1 K s := by kernel_rfl
theorem vc_leafmeshlaw12_DetectScript_ok {X : Told} (hX : FrX X) (hn : X 7 = none) {multiplier0 : AVal} {l1 : AVal} {K : AVal → Heap → Prop} {s : Heap} (h : vc_leafmeshlaw12_DetectScript X multiplier0 l1 K s) : wpCall Try.prog X 7 [multiplier0, l1] K s :=
  wpCall_code hX vc_leafmeshlaw12_DetectScript_ann hn Try.func7 (by kernel_rfl : Try.f7.body = some (bodyOf Try.f7)) (by kernel_rfl) ((vc_leafmeshlaw12_DetectScript_eq X multiplier0 l1 K s).mpr h)
theorem vc_leafmeshlaw12_DetectScript_in {multiplier0 : AVal} {l1 : AVal} {K : AVal → Heap → Prop} {s : Heap} (h : vc_leafmeshlaw12_DetectScript XX multiplier0 l1 K s) : wpCall Try.prog XX 7 [multiplier0, l1] K s := vc_leafmeshlaw12_DetectScript_ok (closedX_fr _) rfl h
/-- leafmesh/detect.New (9) -/
def vc_detect_New_j0 (X : Told) (multiplier0 : AVal) (t6 : AVal) (t8 : AVal) (K : AVal → Heap → Prop) (s : Heap) : Prop :=
  optK (pickV t6 (.bool true) t8) fun v_1 =>
  boolK v_1
   (K (.tup [.nilptr, (.int .i64 2)]) s)
   (optK (fillR [(.int .i64 0), (.int .i64 0), .nilptr, .nilptr, (.int .i64 0), (.int .i64 0)] [(0, 1, multiplier0)]) fun c_2 =>
    boxK 58 (.agg c_2) (fun b_3 s_4 =>
    K (.tup [b_3, (.int .i64 0)]) s_4) s)
def vc_detect_New (X : Told) (multiplier0 : AVal) (K : AVal → Heap → Prop) (s : Heap) : Prop :=
  optK (arithV .lss multiplier0 (.int .i64 1)) fun v_0 =>
  boolK v_0
   (vc_detect_New_j0 X multiplier0 v_0 .undef K s)
   (optK (arithV .gtr multiplier0 (.int .i64 1000)) fun v_5 =>
    vc_detect_New_j0 X multiplier0 v_0 v_5 K s)
def vc_detect_New_ann : Nat → List Nat := fun _ => []
theorem vc_detect_New_eq (X : Told) (multiplier0 : AVal) (K : AVal → Heap → Prop) (s : Heap) : wpC Try.prog X vc_detect_New_ann Try.f9.ntmps none (bodyOf Try.f9) (envOf [multiplier0]) (fun e env s => retK e (resK Try.prog Try.f9.results.toList env (fun vs => K (oneV vs) s) s)) s = vc_detect_New X multiplier0 K s := by kernel_rfl
theorem vc_detect_New_ok {X : Told} (hX : FrX X) (hn : X 9 = none) {multiplier0 : AVal} {K : AVal → Heap → Prop} {s : Heap} (h : vc_detect_New X multiplier0 K s) : wpCall Try.prog X 9 [multiplier0] K s :=
  wpCall_code hX vc_detect_New_ann hn Try.func9 (by kernel_rfl : Try.f9.body = some (bodyOf Try.f9)) (by kernel_rfl) ((vc_detect_New_eq X multiplier0 K s).mpr h)
theorem vc_detect_New_in {multiplier0 : AVal} {K : AVal → Heap → Prop} {s : Heap} (h : vc_detect_New XX multiplier0 K s) : wpCall Try.prog XX 9 [multiplier0] K s := vc_detect_New_ok (closedX_fr _) rfl h
/-- leafmesh/leafmeshlaw12.goes (10) -/
def vc_leafmeshlaw12_goes_j0 (X : Told) (t19 : AVal) (t22 : AVal) (K : AVal → Heap → Prop) (s : Heap) : Prop :=
  optK (pickV t19 t22 (.bool false)) fun v_4 =>
  K v_4 s
def vc_leafmeshlaw12_goes (X : Told) (w0 : AVal) (t1 : AVal) (heard2 : AVal) (up3 : AVal) (K : AVal → Heap → Prop) (s : Heap) : Prop :=
  wpCall Try.prog X 17 [w0, t1, heard2] (fun v_0 s_1 =>
  optK (extractA v_0 0) fun v_2 =>
  optK (extractA v_0 1) fun v_3 =>
  boolK v_3
   (wpCall Try.prog X 20 [v_2, up3] (fun v_5 s_6 =>
    vc_leafmeshlaw12_goes_j0 X v_3 v_5 K s_6) s_1)
   (vc_leafmeshlaw12_goes_j0 X v_3 .undef K s_1)) s
def vc_leafmeshlaw12_goes_ann : Nat → List Nat := fun _ => []
theorem vc_leafmeshlaw12_goes_eq (X : Told) (w0 : AVal) (t1 : AVal) (heard2 : AVal) (up3 : AVal) (K : AVal → Heap → Prop) (s : Heap) : wpC Try.prog X vc_leafmeshlaw12_goes_ann Try.f10.ntmps none (bodyOf Try.f10) (envOf [w0, t1, heard2, up3]) (fun e env s => retK e (resK Try.prog Try.f10.results.toList env (fun vs => K (oneV vs) s) s)) s = vc_leafmeshlaw12_goes X w0 t1 heard2 up3 K s := by kernel_rfl
theorem vc_leafmeshlaw12_goes_ok {X : Told} (hX : FrX X) (hn : X 10 = none) {w0 : AVal} {t1 : AVal} {heard2 : AVal} {up3 : AVal} {K : AVal → Heap → Prop} {s : Heap} (h : vc_leafmeshlaw12_goes X w0 t1 heard2 up3 K s) : wpCall Try.prog X 10 [w0, t1, heard2, up3] K s :=
  wpCall_code hX vc_leafmeshlaw12_goes_ann hn Try.func10 (by kernel_rfl : Try.f10.body = some (bodyOf Try.f10)) (by kernel_rfl) ((vc_leafmeshlaw12_goes_eq X w0 t1 heard2 up3 K s).mpr h)
theorem vc_leafmeshlaw12_goes_in {w0 : AVal} {t1 : AVal} {heard2 : AVal} {up3 : AVal} {K : AVal → Heap → Prop} {s : Heap} (h : vc_leafmeshlaw12_goes XX w0 t1 heard2 up3 K s) : wpCall Try.prog XX 10 [w0, t1, heard2, up3] K s := vc_leafmeshlaw12_goes_ok (closedX_fr _) rfl h
/-- (*leafmesh/detect.Watch).Tick (11) -/
def vc_detect_Watch_Tick_j3 (X : Told) (changed8 : AVal) (K : AVal → Heap → Prop) (s : Heap) : Prop :=
  K (.tup [changed8, (.int .i64 0)]) s
def vc_detect_Watch_Tick_j2 (X : Told) (w0 : AVal) (now4 : AVal) (changed8 : AVal) (K : AVal → Heap → Prop) (s : Heap) : Prop :=
  boolK changed8
   (optK (nilCheckA w0) fun v_25 =>
    optK (addOff 1 v_25) fun v_26 =>
    optK (rd1 s v_26) fun v_27 =>
    wpCall Try.prog X 31 [v_27] (fun v_28 s_29 =>
    optK (nilCheckA w0) fun v_30 =>
    optK (addOff 1 v_30) fun v_31 =>
    optK (wr1 s_29 v_31 v_28) fun s_32 =>
    optK (rd1 s_32 now4) fun v_33 =>
    optK (nilCheckA w0) fun v_34 =>
    optK (addOff 4 v_34) fun v_35 =>
    optK (wr1 s_32 v_35 v_33) fun s_36 =>
    optK (nilCheckA w0) fun v_37 =>
    optK (addOff 5 v_37) fun v_38 =>
    optK (rd1 s_36 v_38) fun v_39 =>
    optK (arithV .add v_39 (.int .i64 1)) fun v_40 =>
    optK (nilCheckA w0) fun v_41 =>
    optK (addOff 5 v_41) fun v_42 =>
    optK (wr1 s_36 v_42 v_40) fun s_43 =>
    vc_detect_Watch_Tick_j3 X changed8 K s_43) s)
   (vc_detect_Watch_Tick_j3 X changed8 K s)
def vc_detect_Watch_Tick_j1 (X : Told) (w0 : AVal) (heard2 : AVal) (now4 : AVal) (t23 : AVal) (t31 : AVal) (K : AVal → Heap → Prop) (s : Heap) : Prop :=
  optK (pickV t23 t31 (.bool false)) fun v_12 =>
  boolK v_12
   (K (.tup [(.bool false), (.int .i64 20)]) s)
   (wpCall Try.prog X 30 [] (fun v_13 s_14 =>
    (∀ b, s b ≠ none → s b = none → s_14 b = none) →
    optK (nilCheckA w0) fun v_15 =>
    optK (addOff 1 v_15) fun v_16 =>
    optK (rd1 (cutH [(s, (add s s_14))] (add s s_14)) v_16) fun v_17 =>
    optK (indexD 2 1 none v_13 v_17) fun v_18 =>
    optK (rd1 (cutH [(s, (add s s_14))] (add s s_14)) now4) fun v_19 =>
    funK Try.prog X v_18 [w0, v_19, heard2] (fun v_20 s_21 =>
    optK (nilCheckA w0) fun v_22 =>
    optK (addOff 2 v_22) fun v_23 =>
    optK (wr1 s_21 v_23 now4) fun s_24 =>
    boolK heard2
     (optK (nilCheckA w0) fun v_44 =>
      optK (addOff 3 v_44) fun v_45 =>
      optK (wr1 s_24 v_45 now4) fun s_46 =>
      vc_detect_Watch_Tick_j2 X w0 now4 v_20 K s_46)
     (vc_detect_Watch_Tick_j2 X w0 now4 v_20 K s_24)) (add s s_14)) (frz s))
def vc_detect_Watch_Tick_j0 (X : Told) (w0 : AVal) (heard2 : AVal) (now4 : AVal) (t14 : AVal) (t16 : AVal) (K : AVal → Heap → Prop) (s : Heap) : Prop :=
  optK (pickV t14 (.bool true) t16) fun v_7 =>
  boolK v_7
   (K (.tup [(.bool false), (.int .i64 2)]) s)
   (optK (nilCheckA w0) fun v_8 =>
    optK (addOff 2 v_8) fun v_9 =>
    optK (rd1 s v_9) fun v_10 =>
    optK (negB true (eqV 3 true v_10 .nilptr)) fun v_11 =>
    boolK v_11
     (optK (rd1 s now4) fun v_47 =>
      optK (nilCheckA w0) fun v_48 =>
      optK (addOff 2 v_48) fun v_49 =>
      optK (rd1 s v_49) fun v_50 =>
      optK (nilCheckA v_50) fun v_51 =>
      optK (rd1 s v_51) fun v_52 =>
      optK (arithV .leq v_47 v_52) fun v_53 =>
      vc_detect_Watch_Tick_j1 X w0 heard2 now4 v_11 v_53 K s)
     (vc_detect_Watch_Tick_j1 X w0 heard2 now4 v_11 .undef K s))
def vc_detect_Watch_Tick (X : Told) (w0 : AVal) (now1 : AVal) (heard2 : AVal) (K : AVal → Heap → Prop) (s : Heap) : Prop :=
  boxK 3 now1 (fun b_0 s_1 =>
  wpCall Try.prog X 29 [w0] (fun v_2 s_3 =>
  optK (unaryA .not v_2) fun v_4 =>
  boolK v_4
   (K (.tup [(.bool false), (.int .i64 1)]) s_3)
   (optK (rd1 s_3 b_0) fun v_5 =>
    optK (arithV .lss v_5 (.int .i64 0)) fun v_6 =>
    boolK v_6
     (vc_detect_Watch_Tick_j0 X w0 heard2 b_0 v_6 .undef K s_3)
     (optK (rd1 s_3 b_0) fun v_54 =>
      optK (arithV .gtr v_54 (.int .i64 1099511627776)) fun v_55 =>
      vc_detect_Watch_Tick_j0 X w0 heard2 b_0 v_6 v_55 K s_3))) s_1) s
def vc_detect_Watch_Tick_ann : Nat → List Nat := fun _ => []
theorem vc_detect_Watch_Tick_eq (X : Told) (w0 : AVal) (now1 : AVal) (heard2 : AVal) (K : AVal → Heap → Prop) (s : Heap) : wpC Try.prog X vc_detect_Watch_Tick_ann Try.f11.ntmps none (bodyOf Try.f11) (envOf [w0, now1, heard2]) (fun e env s => retK e (resK Try.prog Try.f11.results.toList env (fun vs => K (oneV vs) s) s)) s = vc_detect_Watch_Tick X w0 now1 heard2 K s := by kernel_rfl
theorem vc_detect_Watch_Tick_ok {X : Told} (hX : FrX X) (hn : X 11 = none) {w0 : AVal} {now1 : AVal} {heard2 : AVal} {K : AVal → Heap → Prop} {s : Heap} (h : vc_detect_Watch_Tick X w0 now1 heard2 K s) : wpCall Try.prog X 11 [w0, now1, heard2] K s :=
  wpCall_code hX vc_detect_Watch_Tick_ann hn Try.func11 (by kernel_rfl : Try.f11.body = some (bodyOf Try.f11)) (by kernel_rfl) ((vc_detect_Watch_Tick_eq X w0 now1 heard2 K s).mpr h)
theorem vc_detect_Watch_Tick_in {w0 : AVal} {now1 : AVal} {heard2 : AVal} {K : AVal → Heap → Prop} {s : Heap} (h : vc_detect_Watch_Tick XX w0 now1 heard2 K s) : wpCall Try.prog XX 11 [w0, now1, heard2] K s := vc_detect_Watch_Tick_ok (closedX_fr _) rfl h
/-- (*leafmesh/detect.Watch).Due (12) -/
def vc_detect_Watch_Due_j0 (X : Told) (w0 : AVal) (t7 : AVal) (t12 : AVal) (K : AVal → Heap → Prop) (s : Heap) : Prop :=
  optK (pickV t7 (.bool true) t12) fun v_3 =>
  boolK v_3
   (K (.tup [(.int .i64 0), (.bool false)]) s)
   (optK (nilCheckA w0) fun v_4 =>
    optK (addOff 0 v_4) fun v_5 =>
    optK (rd1 s v_5) fun v_6 =>
    optK (nilCheckA w0) fun v_7 =>
    optK (addOff 3 v_7) fun v_8 =>
    optK (rd1 s v_8) fun v_9 =>
    optK (nilCheckA v_9) fun v_10 =>
    optK (rd1 s v_10) fun v_11 =>
    wpCall Try.prog X 32 [v_6, v_11] (fun v_12 s_13 =>
    K (.tup [v_12, (.bool true)]) s_13) s)
def vc_detect_Watch_Due (X : Told) (w0 : AVal) (K : AVal → Heap → Prop) (s : Heap) : Prop :=
  wpCall Try.prog X 19 [w0] (fun v_0 s_1 =>
  optK (unaryA .not v_0) fun v_2 =>
  boolK v_2
   (vc_detect_Watch_Due_j0 X w0 v_2 .undef K s_1)
   (optK (nilCheckA w0) fun v_14 =>
    optK (addOff 3 v_14) fun v_15 =>
    optK (rd1 s_1 v_15) fun v_16 =>
    optK (negB false (eqV 3 true v_16 .nilptr)) fun v_17 =>
    vc_detect_Watch_Due_j0 X w0 v_2 v_17 K s_1)) s
def vc_detect_Watch_Due_ann : Nat → List Nat := fun _ => []
theorem vc_detect_Watch_Due_eq (X : Told) (w0 : AVal) (K : AVal → Heap → Prop) (s : Heap) : wpC Try.prog X vc_detect_Watch_Due_ann Try.f12.ntmps none (bodyOf Try.f12) (envOf [w0]) (fun e env s => retK e (resK Try.prog Try.f12.results.toList env (fun vs => K (oneV vs) s) s)) s = vc_detect_Watch_Due X w0 K s := by kernel_rfl
theorem vc_detect_Watch_Due_ok {X : Told} (hX : FrX X) (hn : X 12 = none) {w0 : AVal} {K : AVal → Heap → Prop} {s : Heap} (h : vc_detect_Watch_Due X w0 K s) : wpCall Try.prog X 12 [w0] K s :=
  wpCall_code hX vc_detect_Watch_Due_ann hn Try.func12 (by kernel_rfl : Try.f12.body = some (bodyOf Try.f12)) (by kernel_rfl) ((vc_detect_Watch_Due_eq X w0 K s).mpr h)
theorem vc_detect_Watch_Due_in {w0 : AVal} {K : AVal → Heap → Prop} {s : Heap} (h : vc_detect_Watch_Due XX w0 K s) : wpCall Try.prog XX 12 [w0] K s := vc_detect_Watch_Due_ok (closedX_fr _) rfl h
/-- (*leafmesh/detect.Watch).Reset (13) -/
def vc_detect_Watch_Reset (X : Told) (w0 : AVal) (K : AVal → Heap → Prop) (s : Heap) : Prop :=
  wpCall Try.prog X 29 [w0] (fun v_0 s_1 =>
  optK (unaryA .not v_0) fun v_2 =>
  boolK v_2
   (K (.int .i64 1) s_1)
   (optK (nilCheckA w0) fun v_3 =>
    optK (addOff 0 v_3) fun v_4 =>
    optK (rd1 s_1 v_4) fun v_5 =>
    optK (fillR [(.int .i64 0), (.int .i64 0), .nilptr, .nilptr, (.int .i64 0), (.int .i64 0)] [(0, 1, v_5)]) fun c_6 =>
    optK (nilCheckA w0) fun v_7 =>
    optK (wrAgg s_1 6 v_7 (.agg c_6)) fun s_8 =>
    K (.int .i64 0) s_8)) s
def vc_detect_Watch_Reset_ann : Nat → List Nat := fun _ => []
theorem vc_detect_Watch_Reset_eq (X : Told) (w0 : AVal) (K : AVal → Heap → Prop) (s : Heap) : wpC Try.prog X vc_detect_Watch_Reset_ann Try.f13.ntmps none (bodyOf Try.f13) (envOf [w0]) (fun e env s => retK e (resK Try.prog Try.f13.results.toList env (fun vs => K (oneV vs) s) s)) s = vc_detect_Watch_Reset X w0 K s := by kernel_rfl
theorem vc_detect_Watch_Reset_ok {X : Told} (hX : FrX X) (hn : X 13 = none) {w0 : AVal} {K : AVal → Heap → Prop} {s : Heap} (h : vc_detect_Watch_Reset X w0 K s) : wpCall Try.prog X 13 [w0] K s :=
  wpCall_code hX vc_detect_Watch_Reset_ann hn Try.func13 (by kernel_rfl : Try.f13.body = some (bodyOf Try.f13)) (by kernel_rfl) ((vc_detect_Watch_Reset_eq X w0 K s).mpr h)
theorem vc_detect_Watch_Reset_in {w0 : AVal} {K : AVal → Heap → Prop} {s : Heap} (h : vc_detect_Watch_Reset XX w0 K s) : wpCall Try.prog XX 13 [w0] K s := vc_detect_Watch_Reset_ok (closedX_fr _) rfl h
/-- (*leafmesh/detect.Watch).Changes (14) -/
def vc_detect_Watch_Changes (X : Told) (w0 : AVal) (K : AVal → Heap → Prop) (s : Heap) : Prop :=
  wpCall Try.prog X 29 [w0] (fun v_0 s_1 =>
  optK (unaryA .not v_0) fun v_2 =>
  boolK v_2
   (K (.int .i64 0) s_1)
   (optK (nilCheckA w0) fun v_3 =>
    optK (addOff 5 v_3) fun v_4 =>
    optK (rd1 s_1 v_4) fun v_5 =>
    K v_5 s_1)) s
def vc_detect_Watch_Changes_ann : Nat → List Nat := fun _ => []
theorem vc_detect_Watch_Changes_eq (X : Told) (w0 : AVal) (K : AVal → Heap → Prop) (s : Heap) : wpC Try.prog X vc_detect_Watch_Changes_ann Try.f14.ntmps none (bodyOf Try.f14) (envOf [w0]) (fun e env s => retK e (resK Try.prog Try.f14.results.toList env (fun vs => K (oneV vs) s) s)) s = vc_detect_Watch_Changes X w0 K s := by kernel_rfl
theorem vc_detect_Watch_Changes_ok {X : Told} (hX : FrX X) (hn : X 14 = none) {w0 : AVal} {K : AVal → Heap → Prop} {s : Heap} (h : vc_detect_Watch_Changes X w0 K s) : wpCall Try.prog X 14 [w0] K s :=
  wpCall_code hX vc_detect_Watch_Changes_ann hn Try.func14 (by kernel_rfl : Try.f14.body = some (bodyOf Try.f14)) (by kernel_rfl) ((vc_detect_Watch_Changes_eq X w0 K s).mpr h)
theorem vc_detect_Watch_Changes_in {w0 : AVal} {K : AVal → Heap → Prop} {s : Heap} (h : vc_detect_Watch_Changes XX w0 K s) : wpCall Try.prog XX 14 [w0] K s := vc_detect_Watch_Changes_ok (closedX_fr _) rfl h
/-- leafmesh/leafmeshkit.Pick (16) -/
def vc_leafmeshkit_Pick_j0 (X : Told) (x0 : AVal) (K : AVal → Heap → Prop) (s : Heap) : Prop :=
  K x0 s
def vc_leafmeshkit_Pick (X : Told) (x0 : AVal) (n1 : AVal) (K : AVal → Heap → Prop) (s : Heap) : Prop :=
  optK (arithV .rem x0 n1) fun v_0 =>
  optK (arithV .lss v_0 (.int .i64 0)) fun v_1 =>
  boolK v_1
   (optK (arithV .add v_0 n1) fun v_2 =>
    vc_leafmeshkit_Pick_j0 X v_2 K s)
   (vc_leafmeshkit_Pick_j0 X v_0 K s)
def vc_leafmeshkit_Pick_ann : Nat → List Nat := fun _ => []
theorem vc_leafmeshkit_Pick_eq (X : Told) (x0 : AVal) (n1 : AVal) (K : AVal → Heap → Prop) (s : Heap) : wpC Try.prog X vc_leafmeshkit_Pick_ann Try.f16.ntmps none (bodyOf Try.f16) (envOf [x0, n1]) (fun e env s => retK e (resK Try.prog Try.f16.results.toList env (fun vs => K (oneV vs) s) s)) s = vc_leafmeshkit_Pick X x0 n1 K s := by kernel_rfl
theorem vc_leafmeshkit_Pick_ok {X : Told} (hX : FrX X) (hn : X 16 = none) {x0 : AVal} {n1 : AVal} {K : AVal → Heap → Prop} {s : Heap} (h : vc_leafmeshkit_Pick X x0 n1 K s) : wpCall Try.prog X 16 [x0, n1] K s :=
  wpCall_code hX vc_leafmeshkit_Pick_ann hn Try.func16 (by kernel_rfl : Try.f16.body = some (bodyOf Try.f16)) (by kernel_rfl) ((vc_leafmeshkit_Pick_eq X x0 n1 K s).mpr h)
theorem vc_leafmeshkit_Pick_in {x0 : AVal} {n1 : AVal} {K : AVal → Heap → Prop} {s : Heap} (h : vc_leafmeshkit_Pick XX x0 n1 K s) : wpCall Try.prog XX 16 [x0, n1] K s := vc_leafmeshkit_Pick_ok (closedX_fr _) rfl h
/-- leafmesh/leafmeshlaw12.ticks (17) -/
def vc_leafmeshlaw12_ticks_j1 (X : Told) (w0 : AVal) (out8 : AVal) (i9 : AVal) (t35 : AVal) (t41 : AVal) (I0 : List AVal → Heap → Nat → Prop) (m0 : Nat) (K : AVal → Heap → Prop) (s : Heap) : Prop :=
  optK (pickV t35 (.bool true) t41) fun v_13 =>
  boolK v_13
   (K (.tup [.nilslc, (.bool false)]) s)
   (wpCall Try.prog X 19 [w0] (fun v_14 s_15 =>
    optK (fillR (repl 1 [(.bool false)]) [(0, 1, v_14)]) fun c_16 => allOne c_16 = true ∧ newK 4 c_16 (fun b_17 s_18 =>
    appK 4 1 out8 (.slc b_17 0 1 (some 1) 1) (fun v_19 s_20 =>
    optK (arithV .add i9 (.int .i64 1)) fun v_21 =>
    ∃ m', m' < m0 ∧ I0 [v_19, v_21] s_20 m') s_18) s_15) s)
def vc_leafmeshlaw12_ticks_l0 (X : Told) (w0 : AVal) (t1 : AVal) (heard2 : AVal) (out8 : AVal) (i9 : AVal) (I0 : List AVal → Heap → Nat → Prop) (m0 : Nat) (K : AVal → Heap → Prop) (s : Heap) : Prop :=
  optK (lenOfA heard2) fun v_0 =>
  optK (arithV .lss i9 (.int .i64 v_0)) fun v_2 =>
  boolK v_2
   (wpCall Try.prog X 19 [w0] (fun v_3 s_4 =>
    optK (arithV .add t1 i9) fun v_5 =>
    optK (iaddrS 1 heard2 i9) fun v_6 =>
    optK (rd1 s_4 v_6) fun v_7 =>
    wpCall Try.prog X 11 [w0, v_5, v_7] (fun v_8 s_9 =>
    optK (extractA v_8 0) fun v_10 =>
    optK (extractA v_8 1) fun v_11 =>
    optK (negB true (eqV 0 true v_11 (.int .i64 0))) fun v_12 =>
    boolK v_12
     (vc_leafmeshlaw12_ticks_j1 X w0 out8 i9 v_12 .undef I0 m0 K s_9)
     (wpCall Try.prog X 19 [w0] (fun v_22 s_23 =>
      optK (negB true (eqV 1 false v_22 v_3)) fun v_24 =>
      optK (negB true (eqV 1 false v_10 v_24)) fun v_25 =>
      vc_leafmeshlaw12_ticks_j1 X w0 out8 i9 v_12 v_25 I0 m0 K s_23) s_9)) s_4) s)
   (K (.tup [out8, (.bool true)]) s)
def vc_leafmeshlaw12_ticks (X : Told) (w0 : AVal) (t1 : AVal) (heard2 : AVal) (K : AVal → Heap → Prop) (s : Heap) : Prop :=
  ∃ I0 : List AVal → Heap → Nat → Prop, (∃ m, I0 [.nilslc, (.int .i64 0)] s m) ∧ ∀ (f : Env) (s : Heap) (m0 : Nat), I0 [f 8, f 9] s m0 →
    vc_leafmeshlaw12_ticks_l0 X w0 t1 heard2 (f 8) (f 9) I0 m0 K s
def vc_leafmeshlaw12_ticks_ann : Nat → List Nat := fun k => cond (Nat.beq k 6) [8, 9] ([])
theorem vc_leafmeshlaw12_ticks_eq (X : Told) (w0 : AVal) (t1 : AVal) (heard2 : AVal) (K : AVal → Heap → Prop) (s : Heap) : wpC Try.prog X vc_leafmeshlaw12_ticks_ann Try.f17.ntmps none (bodyOf Try.f17) (envOf [w0, t1, heard2]) (fun e env s => retK e (resK Try.prog Try.f17.results.toList env (fun vs => K (oneV vs) s) s)) s = vc_leafmeshlaw12_ticks X w0 t1 heard2 K s := by kernel_rfl
theorem vc_leafmeshlaw12_ticks_ok {X : Told} (hX : FrX X) (hn : X 17 = none) {w0 : AVal} {t1 : AVal} {heard2 : AVal} {K : AVal → Heap → Prop} {s : Heap} (h : vc_leafmeshlaw12_ticks X w0 t1 heard2 K s) : wpCall Try.prog X 17 [w0, t1, heard2] K s :=
  wpCall_code hX vc_leafmeshlaw12_ticks_ann hn Try.func17 (by kernel_rfl : Try.f17.body = some (bodyOf Try.f17)) (by kernel_rfl) ((vc_leafmeshlaw12_ticks_eq X w0 t1 heard2 K s).mpr h)
theorem vc_leafmeshlaw12_ticks_in {w0 : AVal} {t1 : AVal} {heard2 : AVal} {K : AVal → Heap → Prop} {s : Heap} (h : vc_leafmeshlaw12_ticks XX w0 t1 heard2 K s) : wpCall Try.prog XX 17 [w0, t1, heard2] K s := vc_leafmeshlaw12_ticks_ok (closedX_fr _) rfl h
/-- leafmesh/leafmeshkit.Own[bool] (18) -/
def vc_leafmeshkit_Own_bool_ (X : Told) (l0 : AVal) (K : AVal → Heap → Prop) (s : Heap) : Prop :=
  optK (fillR (repl 0 [(.bool false)]) []) fun c_0 => allOne c_0 = true ∧ newK 4 c_0 (fun b_1 s_2 =>
  appK 4 1 (.slc b_1 0 0 (some 0) 1) l0 (fun v_3 s_4 =>
  K v_3 s_4) s_2) s
def vc_leafmeshkit_Own_bool__ann : Nat → List Nat := fun _ => []
theorem vc_leafmeshkit_Own_bool__eq (X : Told) (l0 : AVal) (K : AVal → Heap → Prop) (s : Heap) : wpC Try.prog X vc_leafmeshkit_Own_bool__ann Try.f18.ntmps none (bodyOf Try.f18) (envOf [l0]) (fun e env s => retK e (resK Try.prog Try.f18.results.toList env (fun vs => K (oneV vs) s) s)) s = vc_leafmeshkit_Own_bool_ X l0 K s := by kernel_rfl
theorem vc_leafmeshkit_Own_bool__ok {X : Told} (hX : FrX X) (hn : X 18 = none) {l0 : AVal} {K : AVal → Heap → Prop} {s : Heap} (h : vc_leafmeshkit_Own_bool_ X l0 K s) : wpCall Try.prog X 18 [l0] K s :=
  wpCall_code hX vc_leafmeshkit_Own_bool__ann hn Try.func18 (by kernel_rfl : Try.f18.body = some (bodyOf Try.f18)) (by kernel_rfl) ((vc_leafmeshkit_Own_bool__eq X l0 K s).mpr h)
theorem vc_leafmeshkit_Own_bool__in {l0 : AVal} {K : AVal → Heap → Prop} {s : Heap} (h : vc_leafmeshkit_Own_bool_ XX l0 K s) : wpCall Try.prog XX 18 [l0] K s := vc_leafmeshkit_Own_bool__ok (closedX_fr _) rfl h
/-- (*leafmesh/detect.Watch).Up (19) -/
def vc_detect_Watch_Up_j0 (X : Told) (t5 : AVal) (t10 : AVal) (K : AVal → Heap → Prop) (s : Heap) : Prop :=
  optK (pickV t5 t10 (.bool false)) fun v_2 =>
  K v_2 s
def vc_detect_Watch_Up (X : Told) (w0 : AVal) (K : AVal → Heap → Prop) (s : Heap) : Prop :=
  wpCall Try.prog X 29 [w0] (fun v_0 s_1 =>
  boolK v_0
   (optK (nilCheckA w0) fun v_3 =>
    optK (addOff 1 v_3) fun v_4 =>
    optK (rd1 s_1 v_4) fun v_5 =>
    optK (negB false (eqV 0 true v_5 (.int .i64 1))) fun v_6 =>
    vc_detect_Watch_Up_j0 X v_0 v_6 K s_1)
   (vc_detect_Watch_Up_j0 X v_0 .undef K s_1)) s
def vc_detect_Watch_Up_ann : Nat → List Nat := fun _ => []
theorem vc_detect_Watch_Up_eq (X : Told) (w0 : AVal) (K : AVal → Heap → Prop) (s : Heap) : wpC Try.prog X vc_detect_Watch_Up_ann Try.f19.ntmps none (bodyOf Try.f19) (envOf [w0]) (fun e env s => retK e (resK Try.prog Try.f19.results.toList env (fun vs => K (oneV vs) s) s)) s = vc_detect_Watch_Up X w0 K s := by kernel_rfl
theorem vc_detect_Watch_Up_ok {X : Told} (hX : FrX X) (hn : X 19 = none) {w0 : AVal} {K : AVal → Heap → Prop} {s : Heap} (h : vc_detect_Watch_Up X w0 K s) : wpCall Try.prog X 19 [w0] K s :=
  wpCall_code hX vc_detect_Watch_Up_ann hn Try.func19 (by kernel_rfl : Try.f19.body = some (bodyOf Try.f19)) (by kernel_rfl) ((vc_detect_Watch_Up_eq X w0 K s).mpr h)
theorem vc_detect_Watch_Up_in {w0 : AVal} {K : AVal → Heap → Prop} {s : Heap} (h : vc_detect_Watch_Up XX w0 K s) : wpCall Try.prog XX 19 [w0] K s := vc_detect_Watch_Up_ok (closedX_fr _) rfl h
/-- leafmesh/leafmeshkit.Same[bool] (20) -/
def vc_leafmeshkit_Same_bool__l0 (X : Told) (a0 : AVal) (b1 : AVal) (i5 : AVal) (I0 : List AVal → Heap → Nat → Prop) (m0 : Nat) (K : AVal → Heap → Prop) (s : Heap) : Prop :=
  optK (lenOfA a0) fun v_5 =>
  optK (arithV .lss i5 (.int .i64 v_5)) fun v_7 =>
  boolK v_7
   (optK (iaddrS 1 a0 i5) fun v_8 =>
    optK (rd1 s v_8) fun v_9 =>
    optK (iaddrS 1 b1 i5) fun v_10 =>
    optK (rd1 s v_10) fun v_11 =>
    optK (negB true (eqV 1 false v_9 v_11)) fun v_12 =>
    boolK v_12
     (K (.bool false) s)
     (optK (arithV .add i5 (.int .i64 1)) fun v_13 =>
      ∃ m', m' < m0 ∧ I0 [v_13] s m'))
   (K (.bool true) s)
def vc_leafmeshkit_Same_bool_ (X : Told) (a0 : AVal) (b1 : AVal) (K : AVal → Heap → Prop) (s : Heap) : Prop :=
  optK (lenOfA a0) fun v_0 =>
  optK (lenOfA b1) fun v_2 =>
  optK (negB true (eqV 0 false (.int .i64 v_0) (.int .i64 v_2))) fun v_4 =>
  boolK v_4
   (K (.bool false) s)
   (∃ I0 : List AVal → Heap → Nat → Prop, (∃ m, I0 [(.int .i64 0)] s m) ∧ ∀ (f : Env) (s : Heap) (m0 : Nat), I0 [f 5] s m0 →
      vc_leafmeshkit_Same_bool__l0 X a0 b1 (f 5) I0 m0 K s)
def vc_leafmeshkit_Same_bool__ann : Nat → List Nat := fun k => cond (Nat.beq k 8) [5] ([])
theorem vc_leafmeshkit_Same_bool__eq (X : Told) (a0 : AVal) (b1 : AVal) (K : AVal → Heap → Prop) (s : Heap) : wpC Try.prog X vc_leafmeshkit_Same_bool__ann Try.f20.ntmps none (bodyOf Try.f20) (envOf [a0, b1]) (fun e env s => retK e (resK Try.prog Try.f20.results.toList env (fun vs => K (oneV vs) s) s)) s = vc_leafmeshkit_Same_bool_ X a0 b1 K s := by kernel_rfl
theorem vc_leafmeshkit_Same_bool__ok {X : Told} (hX : FrX X) (hn : X 20 = none) {a0 : AVal} {b1 : AVal} {K : AVal → Heap → Prop} {s : Heap} (h : vc_leafmeshkit_Same_bool_ X a0 b1 K s) : wpCall Try.prog X 20 [a0, b1] K s :=
  wpCall_code hX vc_leafmeshkit_Same_bool__ann hn Try.func20 (by kernel_rfl : Try.f20.body = some (bodyOf Try.f20)) (by kernel_rfl) ((vc_leafmeshkit_Same_bool__eq X a0 b1 K s).mpr h)
theorem vc_leafmeshkit_Same_bool__in {a0 : AVal} {b1 : AVal} {K : AVal → Heap → Prop} {s : Heap} (h : vc_leafmeshkit_Same_bool_ XX a0 b1 K s) : wpCall Try.prog XX 20 [a0, b1] K s := vc_leafmeshkit_Same_bool__ok (closedX_fr _) rfl h
/-- (*leafmesh/detect.Watch).Since (21) -/
def vc_detect_Watch_Since (X : Told) (w0 : AVal) (K : AVal → Heap → Prop) (s : Heap) : Prop :=
  wpCall Try.prog X 29 [w0] (fun v_0 s_1 =>
  optK (unaryA .not v_0) fun v_2 =>
  boolK v_2
   (K (.int .i64 0) s_1)
   (optK (nilCheckA w0) fun v_3 =>
    optK (addOff 4 v_3) fun v_4 =>
    optK (rd1 s_1 v_4) fun v_5 =>
    K v_5 s_1)) s
def vc_detect_Watch_Since_ann : Nat → List Nat := fun _ => []
theorem vc_detect_Watch_Since_eq (X : Told) (w0 : AVal) (K : AVal → Heap → Prop) (s : Heap) : wpC Try.prog X vc_detect_Watch_Since_ann Try.f21.ntmps none (bodyOf Try.f21) (envOf [w0]) (fun e env s => retK e (resK Try.prog Try.f21.results.toList env (fun vs => K (oneV vs) s) s)) s = vc_detect_Watch_Since X w0 K s := by kernel_rfl
theorem vc_detect_Watch_Since_ok {X : Told} (hX : FrX X) (hn : X 21 = none) {w0 : AVal} {K : AVal → Heap → Prop} {s : Heap} (h : vc_detect_Watch_Since X w0 K s) : wpCall Try.prog X 21 [w0] K s :=
  wpCall_code hX vc_detect_Watch_Since_ann hn Try.func21 (by kernel_rfl : Try.f21.body = some (bodyOf Try.f21)) (by kernel_rfl) ((vc_detect_Watch_Since_eq X w0 K s).mpr h)
theorem vc_detect_Watch_Since_in {w0 : AVal} {K : AVal → Heap → Prop} {s : Heap} (h : vc_detect_Watch_Since XX w0 K s) : wpCall Try.prog XX 21 [w0] K s := vc_detect_Watch_Since_ok (closedX_fr _) rfl h
/-- leafmesh/leafmeshkit.Has[bool] (22) -/
def vc_leafmeshkit_Has_bool__l0 (X : Told) (l0 : AVal) (x1 : AVal) (i5 : AVal) (I0 : List AVal → Heap → Nat → Prop) (m0 : Nat) (K : AVal → Heap → Prop) (s : Heap) : Prop :=
  optK (lenOfA l0) fun v_0 =>
  optK (arithV .lss i5 (.int .i64 v_0)) fun v_2 =>
  boolK v_2
   (optK (iaddrS 1 l0 i5) fun v_3 =>
    optK (rd1 s v_3) fun v_4 =>
    optK (negB false (eqV 1 false v_4 x1)) fun v_5 =>
    boolK v_5
     (K (.bool true) s)
     (optK (arithV .add i5 (.int .i64 1)) fun v_6 =>
      ∃ m', m' < m0 ∧ I0 [v_6] s m'))
   (K (.bool false) s)
def vc_leafmeshkit_Has_bool_ (X : Told) (l0 : AVal) (x1 : AVal) (K : AVal → Heap → Prop) (s : Heap) : Prop :=
  ∃ I0 : List AVal → Heap → Nat → Prop, (∃ m, I0 [(.int .i64 0)] s m) ∧ ∀ (f : Env) (s : Heap) (m0 : Nat), I0 [f 5] s m0 →
    vc_leafmeshkit_Has_bool__l0 X l0 x1 (f 5) I0 m0 K s
def vc_leafmeshkit_Has_bool__ann : Nat → List Nat := fun k => cond (Nat.beq k 4) [5] ([])
theorem vc_leafmeshkit_Has_bool__eq (X : Told) (l0 : AVal) (x1 : AVal) (K : AVal → Heap → Prop) (s : Heap) : wpC Try.prog X vc_leafmeshkit_Has_bool__ann Try.f22.ntmps none (bodyOf Try.f22) (envOf [l0, x1]) (fun e env s => retK e (resK Try.prog Try.f22.results.toList env (fun vs => K (oneV vs) s) s)) s = vc_leafmeshkit_Has_bool_ X l0 x1 K s := by kernel_rfl
theorem vc_leafmeshkit_Has_bool__ok {X : Told} (hX : FrX X) (hn : X 22 = none) {l0 : AVal} {x1 : AVal} {K : AVal → Heap → Prop} {s : Heap} (h : vc_leafmeshkit_Has_bool_ X l0 x1 K s) : wpCall Try.prog X 22 [l0, x1] K s :=
  wpCall_code hX vc_leafmeshkit_Has_bool__ann hn Try.func22 (by kernel_rfl : Try.f22.body = some (bodyOf Try.f22)) (by kernel_rfl) ((vc_leafmeshkit_Has_bool__eq X l0 x1 K s).mpr h)
theorem vc_leafmeshkit_Has_bool__in {l0 : AVal} {x1 : AVal} {K : AVal → Heap → Prop} {s : Heap} (h : vc_leafmeshkit_Has_bool_ XX l0 x1 K s) : wpCall Try.prog XX 22 [l0, x1] K s := vc_leafmeshkit_Has_bool__ok (closedX_fr _) rfl h
/-- leafmesh/leafmeshref12.New (23) -/
def vc_leafmeshref12_New_j0 (X : Told) (multiplier0 : AVal) (t6 : AVal) (t8 : AVal) (K : AVal → Heap → Prop) (s : Heap) : Prop :=
  optK (pickV t6 (.bool true) t8) fun v_1 =>
  boolK v_1
   (K (.tup [.nilptr, (.int .i64 2)]) s)
   (optK (fillR [(.int .i64 0), (.bool false), (.int .i64 0), (.int .i64 0), (.bool false), (.int .i64 0), (.int .i64 0)] [(0, 1, multiplier0), (2, 1, (.int .i64 (-1)))]) fun c_2 =>
    boxK 67 (.agg c_2) (fun b_3 s_4 =>
    K (.tup [b_3, (.int .i64 0)]) s_4) s)
def vc_leafmeshref12_New (X : Told) (multiplier0 : AVal) (K : AVal → Heap → Prop) (s : Heap) : Prop :=
  optK (arithV .lss multiplier0 (.int .i64 1)) fun v_0 =>
  boolK v_0
   (vc_leafmeshref12_New_j0 X multiplier0 v_0 .undef K s)
   (optK (arithV .gtr multiplier0 (.int .i64 1000)) fun v_5 =>
    vc_leafmeshref12_New_j0 X multiplier0 v_0 v_5 K s)
def vc_leafmeshref12_New_ann : Nat → List Nat := fun _ => []
theorem vc_leafmeshref12_New_eq (X : Told) (multiplier0 : AVal) (K : AVal → Heap → Prop) (s : Heap) : wpC Try.prog X vc_leafmeshref12_New_ann Try.f23.ntmps none (bodyOf Try.f23) (envOf [multiplier0]) (fun e env s => retK e (resK Try.prog Try.f23.results.toList env (fun vs => K (oneV vs) s) s)) s = vc_leafmeshref12_New X multiplier0 K s := by kernel_rfl
theorem vc_leafmeshref12_New_ok {X : Told} (hX : FrX X) (hn : X 23 = none) {multiplier0 : AVal} {K : AVal → Heap → Prop} {s : Heap} (h : vc_leafmeshref12_New X multiplier0 K s) : wpCall Try.prog X 23 [multiplier0] K s :=
  wpCall_code hX vc_leafmeshref12_New_ann hn Try.func23 (by kernel_rfl : Try.f23.body = some (bodyOf Try.f23)) (by kernel_rfl) ((vc_leafmeshref12_New_eq X multiplier0 K s).mpr h)
theorem vc_leafmeshref12_New_in {multiplier0 : AVal} {K : AVal → Heap → Prop} {s : Heap} (h : vc_leafmeshref12_New XX multiplier0 K s) : wpCall Try.prog XX 23 [multiplier0] K s := vc_leafmeshref12_New_ok (closedX_fr _) rfl h
/-- (*leafmesh/leafmeshref12.Watch).Reset (24) -/
def vc_leafmeshref12_Watch_Reset (X : Told) (w0 : AVal) (K : AVal → Heap → Prop) (s : Heap) : Prop :=
  optK (nilCheckA w0) fun v_0 =>
  optK (addOff 0 v_0) fun v_1 =>
  optK (rd1 s v_1) fun v_2 =>
  wpCall Try.prog X 23 [v_2] (fun v_3 s_4 =>
  optK (extractA v_3 0) fun v_5 =>
  optK (extractA v_3 1) fun v_6 =>
  optK (nilCheckA v_5) fun v_7 =>
  optK (rdN s_4 7 v_7) fun v_8 =>
  optK (nilCheckA w0) fun v_9 =>
  optK (wrAgg s_4 7 v_9 (.agg v_8)) fun s_10 =>
  K (.tup []) s_10) s
def vc_leafmeshref12_Watch_Reset_ann : Nat → List Nat := fun _ => []
theorem vc_leafmeshref12_Watch_Reset_eq (X : Told) (w0 : AVal) (K : AVal → Heap → Prop) (s : Heap) : wpC Try.prog X vc_leafmeshref12_Watch_Reset_ann Try.f24.ntmps none (bodyOf Try.f24) (envOf [w0]) (fun e env s => retK e (resK Try.prog Try.f24.results.toList env (fun vs => K (oneV vs) s) s)) s = vc_leafmeshref12_Watch_Reset X w0 K s := by kernel_rfl
theorem vc_leafmeshref12_Watch_Reset_ok {X : Told} (hX : FrX X) (hn : X 24 = none) {w0 : AVal} {K : AVal → Heap → Prop} {s : Heap} (h : vc_leafmeshref12_Watch_Reset X w0 K s) : wpCall Try.prog X 24 [w0] K s :=
  wpCall_code hX vc_leafmeshref12_Watch_Reset_ann hn Try.func24 (by kernel_rfl : Try.f24.body = some (bodyOf Try.f24)) (by kernel_rfl) ((vc_leafmeshref12_Watch_Reset_eq X w0 K s).mpr h)
theorem vc_leafmeshref12_Watch_Reset_in {w0 : AVal} {K : AVal → Heap → Prop} {s : Heap} (h : vc_leafmeshref12_Watch_Reset XX w0 K s) : wpCall Try.prog XX 24 [w0] K s := vc_leafmeshref12_Watch_Reset_ok (closedX_fr _) rfl h
/-- (*leafmesh/detect.Watch).Copy (25) -/
def vc_detect_Watch_Copy (X : Told) (w0 : AVal) (K : AVal → Heap → Prop) (s : Heap) : Prop :=
  wpCall Try.prog X 29 [w0] (fun v_0 s_1 =>
  optK (unaryA .not v_0) fun v_2 =>
  boolK v_2
   (K .nilptr s_1)
   (optK (nilCheckA w0) fun v_3 =>
    optK (rdN s_1 6 v_3) fun v_4 =>
    newK 58 [(.int .i64 0), (.int .i64 0), .nilptr, .nilptr, (.int .i64 0), (.int .i64 0)] (fun b_5 s_6 =>
    optK (wrAgg s_6 6 (.ptr b_5 0) (.agg v_4)) fun s_7 =>
    optK (nilCheckA w0) fun v_8 =>
    optK (addOff 2 v_8) fun v_9 =>
    optK (rd1 s_7 v_9) fun v_10 =>
    wpCall Try.prog X 33 [v_10] (fun v_11 s_12 =>
    optK (addOff 2 (.ptr b_5 0)) fun v_13 =>
    optK (wr1 s_12 v_13 v_11) fun s_14 =>
    optK (nilCheckA w0) fun v_15 =>
    optK (addOff 3 v_15) fun v_16 =>
    optK (rd1 s_14 v_16) fun v_17 =>
    wpCall Try.prog X 33 [v_17] (fun v_18 s_19 =>
    optK (addOff 3 (.ptr b_5 0)) fun v_20 =>
    optK (wr1 s_19 v_20 v_18) fun s_21 =>
    K (.ptr b_5 0) s_21) s_14) s_7) s_1)) s
def vc_detect_Watch_Copy_ann : Nat → List Nat := fun _ => []
theorem vc_detect_Watch_Copy_eq (X : Told) (w0 : AVal) (K : AVal → Heap → Prop) (s : Heap) : wpC Try.prog X vc_detect_Watch_Copy_ann Try.f25.ntmps none (bodyOf Try.f25) (envOf [w0]) (fun e env s => retK e (resK Try.prog Try.f25.results.toList env (fun vs => K (oneV vs) s) s)) s = vc_detect_Watch_Copy X w0 K s := by kernel_rfl
theorem vc_detect_Watch_Copy_ok {X : Told} (hX : FrX X) (hn : X 25 = none) {w0 : AVal} {K : AVal → Heap → Prop} {s : Heap} (h : vc_detect_Watch_Copy X w0 K s) : wpCall Try.prog X 25 [w0] K s :=
  wpCall_code hX vc_detect_Watch_Copy_ann hn Try.func25 (by kernel_rfl : Try.f25.body = some (bodyOf Try.f25)) (by kernel_rfl) ((vc_detect_Watch_Copy_eq X w0 K s).mpr h)
theorem vc_detect_Watch_Copy_in {w0 : AVal} {K : AVal → Heap → Prop} {s : Heap} (h : vc_detect_Watch_Copy XX w0 K s) : wpCall Try.prog XX 25 [w0] K s := vc_detect_Watch_Copy_ok (closedX_fr _) rfl h
/-- (*leafmesh/leafmeshref12.Watch).Copy (26) -/
def vc_leafmeshref12_Watch_Copy (X : Told) (w0 : AVal) (K : AVal → Heap → Prop) (s : Heap) : Prop :=
  optK (nilCheckA w0) fun v_0 =>
  optK (rdN s 7 v_0) fun v_1 =>
  newK 67 [(.int .i64 0), (.bool false), (.int .i64 0), (.int .i64 0), (.bool false), (.int .i64 0), (.int .i64 0)] (fun b_2 s_3 =>
  optK (wrAgg s_3 7 (.ptr b_2 0) (.agg v_1)) fun s_4 =>
  K (.ptr b_2 0) s_4) s
def vc_leafmeshref12_Watch_Copy_ann : Nat → List Nat := fun _ => []
theorem vc_leafmeshref12_Watch_Copy_eq (X : Told) (w0 : AVal) (K : AVal → Heap → Prop) (s : Heap) : wpC Try.prog X vc_leafmeshref12_Watch_Copy_ann Try.f26.ntmps none (bodyOf Try.f26) (envOf [w0]) (fun e env s => retK e (resK Try.prog Try.f26.results.toList env (fun vs => K (oneV vs) s) s)) s = vc_leafmeshref12_Watch_Copy X w0 K s := by kernel_rfl
theorem vc_leafmeshref12_Watch_Copy_ok {X : Told} (hX : FrX X) (hn : X 26 = none) {w0 : AVal} {K : AVal → Heap → Prop} {s : Heap} (h : vc_leafmeshref12_Watch_Copy X w0 K s) : wpCall Try.prog X 26 [w0] K s :=
  wpCall_code hX vc_leafmeshref12_Watch_Copy_ann hn Try.func26 (by kernel_rfl : Try.f26.body = some (bodyOf Try.f26)) (by kernel_rfl) ((vc_leafmeshref12_Watch_Copy_eq X w0 K s).mpr h)
theorem vc_leafmeshref12_Watch_Copy_in {w0 : AVal} {K : AVal → Heap → Prop} {s : Heap} (h : vc_leafmeshref12_Watch_Copy XX w0 K s) : wpCall Try.prog XX 26 [w0] K s := vc_leafmeshref12_Watch_Copy_ok (closedX_fr _) rfl h
/-- (*leafmesh/leafmeshref12.Watch).Tick (27) -/
def vc_leafmeshref12_Watch_Tick_j4 (X : Told) (change8 : AVal) (K : AVal → Heap → Prop) (s : Heap) : Prop :=
  K (.tup [change8, (.int .i64 0)]) s
def vc_leafmeshref12_Watch_Tick_j3 (X : Told) (w0 : AVal) (now1 : AVal) (heard2 : AVal) (change8 : AVal) (K : AVal → Heap → Prop) (s : Heap) : Prop :=
  optK (nilCheckA w0) fun v_10 =>
  optK (addOff 2 v_10) fun v_11 =>
  optK (wr1 s v_11 now1) fun s_12 =>
  optK (nilCheckA w0) fun v_13 =>
  optK (addOff 4 v_13) fun v_14 =>
  optK (wr1 s_12 v_14 heard2) fun s_15 =>
  boolK change8
   (optK (nilCheckA w0) fun v_16 =>
    optK (addOff 1 v_16) fun v_17 =>
    optK (rd1 s_15 v_17) fun v_18 =>
    optK (unaryA .not v_18) fun v_19 =>
    optK (nilCheckA w0) fun v_20 =>
    optK (addOff 1 v_20) fun v_21 =>
    optK (wr1 s_15 v_21 v_19) fun s_22 =>
    optK (nilCheckA w0) fun v_23 =>
    optK (addOff 5 v_23) fun v_24 =>
    optK (wr1 s_22 v_24 now1) fun s_25 =>
    optK (nilCheckA w0) fun v_26 =>
    optK (addOff 6 v_26) fun v_27 =>
    optK (rd1 s_25 v_27) fun v_28 =>
    optK (arithV .add v_28 (.int .i64 1)) fun v_29 =>
    optK (nilCheckA w0) fun v_30 =>
    optK (addOff 6 v_30) fun v_31 =>
    optK (wr1 s_25 v_31 v_29) fun s_32 =>
    vc_leafmeshref12_Watch_Tick_j4 X change8 K s_32)
   (vc_leafmeshref12_Watch_Tick_j4 X change8 K s_15)
def vc_leafmeshref12_Watch_Tick_j2 (X : Told) (w0 : AVal) (now1 : AVal) (heard2 : AVal) (change8 : AVal) (K : AVal → Heap → Prop) (s : Heap) : Prop :=
  boolK heard2
   (optK (nilCheckA w0) fun v_33 =>
    optK (addOff 3 v_33) fun v_34 =>
    optK (wr1 s v_34 now1) fun s_35 =>
    vc_leafmeshref12_Watch_Tick_j3 X w0 now1 heard2 change8 K s_35)
   (vc_leafmeshref12_Watch_Tick_j3 X w0 now1 heard2 change8 K s)
def vc_leafmeshref12_Watch_Tick_j5 (X : Told) (w0 : AVal) (now1 : AVal) (heard2 : AVal) (t36 : AVal) (t47 : AVal) (K : AVal → Heap → Prop) (s : Heap) : Prop :=
  optK (pickV t36 t47 (.bool false)) fun v_37 =>
  vc_leafmeshref12_Watch_Tick_j2 X w0 now1 heard2 v_37 K s
def vc_leafmeshref12_Watch_Tick_j7 (X : Told) (w0 : AVal) (now1 : AVal) (heard2 : AVal) (t56 : AVal) (t63 : AVal) (K : AVal → Heap → Prop) (s : Heap) : Prop :=
  optK (pickV t56 t63 (.bool false)) fun v_47 =>
  vc_leafmeshref12_Watch_Tick_j2 X w0 now1 heard2 v_47 K s
def vc_leafmeshref12_Watch_Tick_j6 (X : Told) (w0 : AVal) (now1 : AVal) (heard2 : AVal) (t50 : AVal) (t54 : AVal) (K : AVal → Heap → Prop) (s : Heap) : Prop :=
  optK (pickV t50 t54 (.bool false)) fun v_46 =>
  boolK v_46
   (optK (nilCheckA w0) fun v_48 =>
    optK (addOff 2 v_48) fun v_49 =>
    optK (rd1 s v_49) fun v_50 =>
    optK (arithV .sub now1 (.int .i64 1)) fun v_51 =>
    optK (negB false (eqV 0 false v_50 v_51)) fun v_52 =>
    vc_leafmeshref12_Watch_Tick_j7 X w0 now1 heard2 v_46 v_52 K s)
   (vc_leafmeshref12_Watch_Tick_j7 X w0 now1 heard2 v_46 .undef K s)
def vc_leafmeshref12_Watch_Tick_j1 (X : Told) (w0 : AVal) (now1 : AVal) (heard2 : AVal) (t22 : AVal) (t28 : AVal) (K : AVal → Heap → Prop) (s : Heap) : Prop :=
  optK (pickV t22 t28 (.bool false)) fun v_6 =>
  boolK v_6
   (K (.tup [(.bool false), (.int .i64 20)]) s)
   (optK (nilCheckA w0) fun v_7 =>
    optK (addOff 1 v_7) fun v_8 =>
    optK (rd1 s v_8) fun v_9 =>
    boolK v_9
     (optK (unaryA .not heard2) fun v_36 =>
      boolK v_36
       (optK (nilCheckA w0) fun v_38 =>
        optK (addOff 3 v_38) fun v_39 =>
        optK (rd1 s v_39) fun v_40 =>
        optK (nilCheckA w0) fun v_41 =>
        optK (addOff 0 v_41) fun v_42 =>
        optK (rd1 s v_42) fun v_43 =>
        optK (arithV .add v_40 v_43) fun v_44 =>
        optK (arithV .geq now1 v_44) fun v_45 =>
        vc_leafmeshref12_Watch_Tick_j5 X w0 now1 heard2 v_36 v_45 K s)
       (vc_leafmeshref12_Watch_Tick_j5 X w0 now1 heard2 v_36 .undef K s))
     (boolK heard2
       (optK (nilCheckA w0) fun v_53 =>
        optK (addOff 4 v_53) fun v_54 =>
        optK (rd1 s v_54) fun v_55 =>
        vc_leafmeshref12_Watch_Tick_j6 X w0 now1 heard2 heard2 v_55 K s)
       (vc_leafmeshref12_Watch_Tick_j6 X w0 now1 heard2 heard2 .undef K s)))
def vc_leafmeshref12_Watch_Tick_j0 (X : Told) (w0 : AVal) (now1 : AVal) (heard2 : AVal) (t12 : AVal) (t14 : AVal) (K : AVal → Heap → Prop) (s : Heap) : Prop :=
  optK (pickV t12 (.bool true) t14) fun v_1 =>
  boolK v_1
   (K (.tup [(.bool false), (.int .i64 2)]) s)
   (optK (nilCheckA w0) fun v_2 =>
    optK (addOff 2 v_2) fun v_3 =>
    optK (rd1 s v_3) fun v_4 =>
    optK (arithV .geq v_4 (.int .i64 0)) fun v_5 =>
    boolK v_5
     (optK (nilCheckA w0) fun v_56 =>
      optK (addOff 2 v_56) fun v_57 =>
      optK (rd1 s v_57) fun v_58 =>
      optK (arithV .leq now1 v_58) fun v_59 =>
      vc_leafmeshref12_Watch_Tick_j1 X w0 now1 heard2 v_5 v_59 K s)
     (vc_leafmeshref12_Watch_Tick_j1 X w0 now1 heard2 v_5 .undef K s))
def vc_leafmeshref12_Watch_Tick (X : Told) (w0 : AVal) (now1 : AVal) (heard2 : AVal) (K : AVal → Heap → Prop) (s : Heap) : Prop :=
  optK (arithV .lss now1 (.int .i64 0)) fun v_0 =>
  boolK v_0
   (vc_leafmeshref12_Watch_Tick_j0 X w0 now1 heard2 v_0 .undef K s)
   (optK (arithV .gtr now1 (.int .i64 1099511627776)) fun v_60 =>
    vc_leafmeshref12_Watch_Tick_j0 X w0 now1 heard2 v_0 v_60 K s)
def vc_leafmeshref12_Watch_Tick_ann : Nat → List Nat := fun _ => []
theorem vc_leafmeshref12_Watch_Tick_eq (X : Told) (w0 : AVal) (now1 : AVal) (heard2 : AVal) (K : AVal → Heap → Prop) (s : Heap) : wpC Try.prog X vc_leafmeshref12_Watch_Tick_ann Try.f27.ntmps none (bodyOf Try.f27) (envOf [w0, now1, heard2]) (fun e env s => retK e (resK Try.prog Try.f27.results.toList env (fun vs => K (oneV vs) s) s)) s = vc_leafmeshref12_Watch_Tick X w0 now1 heard2 K s := by kernel_rfl
theorem vc_leafmeshref12_Watch_Tick_ok {X : Told} (hX : FrX X) (hn : X 27 = none) {w0 : AVal} {now1 : AVal} {heard2 : AVal} {K : AVal → Heap → Prop} {s : Heap} (h : vc_leafmeshref12_Watch_Tick X w0 now1 heard2 K s) : wpCall Try.prog X 27 [w0, now1, heard2] K s :=
  wpCall_code hX vc_leafmeshref12_Watch_Tick_ann hn Try.func27 (by kernel_rfl : Try.f27.body = some (bodyOf Try.f27)) (by kernel_rfl) ((vc_leafmeshref12_Watch_Tick_eq X w0 now1 heard2 K s).mpr h)
theorem vc_leafmeshref12_Watch_Tick_in {w0 : AVal} {now1 : AVal} {heard2 : AVal} {K : AVal → Heap → Prop} {s : Heap} (h : vc_leafmeshref12_Watch_Tick XX w0 now1 heard2 K s) : wpCall Try.prog XX 27 [w0, now1, heard2] K s := vc_leafmeshref12_Watch_Tick_ok (closedX_fr _) rfl h
/-- leafmesh/leafmeshlaw12.same (28) -/
def vc_leafmeshlaw12_same (X : Told) (w0 : AVal) (o1 : AVal) (K : AVal → Heap → Prop) (s : Heap) : Prop :=
  wpCall Try.prog X 12 [w0] (fun v_0 s_1 =>
  optK (extractA v_0 0) fun v_2 =>
  optK (extractA v_0 1) fun v_3 =>
  wpCall Try.prog X 34 [o1] (fun v_4 s_5 =>
  optK (extractA v_4 0) fun v_6 =>
  optK (extractA v_4 1) fun v_7 =>
  wpCall Try.prog X 19 [w0] (fun v_8 s_9 =>
  (∀ b, s_5 b ≠ none → s_5 b = none → s_9 b = none) →
  optK (nilCheckA o1) fun v_10 =>
  optK (addOff 1 v_10) fun v_11 =>
  optK (rd1 (cutH [(s_5, (add s_5 s_9))] (add s_5 s_9)) v_11) fun v_12 =>
  optK (negB false (eqV 1 false v_8 v_12)) fun v_13 =>
  boolK v_13
   (wpCall Try.prog X 21 [w0] (fun v_14 s_15 =>
  (∀ b, (add s_5 s_9) b ≠ none → (add s_5 s_9) b = none → s_15 b = none) →
  optK (nilCheckA o1) fun v_16 =>
  optK (addOff 5 v_16) fun v_17 =>
  optK (rd1 (cutH [((add s_5 s_9), (add (add s_5 s_9) s_15))] (add (add s_5 s_9) s_15)) v_17) fun v_18 =>
  optK (negB false (eqV 0 false v_14 v_18)) fun v_19 =>
  optK (pickV v_13 v_19 (.bool false)) fun v_20 =>
  boolK v_20
   (wpCall Try.prog X 14 [w0] (fun v_21 s_22 =>
  (∀ b, (add (add s_5 s_9) s_15) b ≠ none → (add (add s_5 s_9) s_15) b = none → s_22 b = none) →
  optK (nilCheckA o1) fun v_23 =>
  optK (addOff 6 v_23) fun v_24 =>
  optK (rd1 (cutH [((add (add s_5 s_9) s_15), (add (add (add s_5 s_9) s_15) s_22))] (add (add (add s_5 s_9) s_15) s_22)) v_24) fun v_25 =>
  optK (negB false (eqV 0 false v_21 v_25)) fun v_26 =>
  optK (pickV v_20 v_26 (.bool false)) fun v_27 =>
  boolK v_27
   (optK (negB false (eqV 0 false v_2 v_6)) fun v_28 =>
  optK (pickV v_27 v_28 (.bool false)) fun v_29 =>
  boolK v_29
   (optK (negB false (eqV 1 false v_3 v_7)) fun v_30 =>
  optK (pickV v_29 v_30 (.bool false)) fun v_31 =>
  K v_31 (add (add (add s_5 s_9) s_15) s_22))
   (optK (pickV v_29 .undef (.bool false)) fun v_32 =>
  K v_32 (add (add (add s_5 s_9) s_15) s_22)))
   (optK (pickV v_27 .undef (.bool false)) fun v_33 =>
  boolK v_33
   (optK (negB false (eqV 1 false v_3 v_7)) fun v_34 =>
  optK (pickV v_33 v_34 (.bool false)) fun v_35 =>
  K v_35 (add (add (add s_5 s_9) s_15) s_22))
   (optK (pickV v_33 .undef (.bool false)) fun v_36 =>
  K v_36 (add (add (add s_5 s_9) s_15) s_22)))) (frz (add (add s_5 s_9) s_15)))
   (optK (pickV v_20 .undef (.bool false)) fun v_37 =>
  boolK v_37
   (optK (negB false (eqV 0 false v_2 v_6)) fun v_38 =>
  optK (pickV v_37 v_38 (.bool false)) fun v_39 =>
  boolK v_39
   (optK (negB false (eqV 1 false v_3 v_7)) fun v_40 =>
  optK (pickV v_39 v_40 (.bool false)) fun v_41 =>
  K v_41 (add (add s_5 s_9) s_15))
   (optK (pickV v_39 .undef (.bool false)) fun v_42 =>
  K v_42 (add (add s_5 s_9) s_15)))
   (optK (pickV v_37 .undef (.bool false)) fun v_43 =>
  boolK v_43
   (optK (negB false (eqV 1 false v_3 v_7)) fun v_44 =>
  optK (pickV v_43 v_44 (.bool false)) fun v_45 =>
  K v_45 (add (add s_5 s_9) s_15))
   (optK (pickV v_43 .undef (.bool false)) fun v_46 =>
  K v_46 (add (add s_5 s_9) s_15))))) (frz (add s_5 s_9)))
   (optK (pickV v_13 .undef (.bool false)) fun v_47 =>
  boolK v_47
   (wpCall Try.prog X 14 [w0] (fun v_48 s_49 =>
  (∀ b, (add s_5 s_9) b ≠ none → (add s_5 s_9) b = none → s_49 b = none) →
  optK (nilCheckA o1) fun v_50 =>
  optK (addOff 6 v_50) fun v_51 =>
  optK (rd1 (cutH [((add s_5 s_9), (add (add s_5 s_9) s_49))] (add (add s_5 s_9) s_49)) v_51) fun v_52 =>
  optK (negB false (eqV 0 false v_48 v_52)) fun v_53 =>
  optK (pickV v_47 v_53 (.bool false)) fun v_54 =>
  boolK v_54
   (optK (negB false (eqV 0 false v_2 v_6)) fun v_55 =>
  optK (pickV v_54 v_55 (.bool false)) fun v_56 =>
  boolK v_56
   (optK (negB false (eqV 1 false v_3 v_7)) fun v_57 =>
  optK (pickV v_56 v_57 (.bool false)) fun v_58 =>
  K v_58 (add (add s_5 s_9) s_49))
   (optK (pickV v_56 .undef (.bool false)) fun v_59 =>
  K v_59 (add (add s_5 s_9) s_49)))
   (optK (pickV v_54 .undef (.bool false)) fun v_60 =>
  boolK v_60
   (optK (negB false (eqV 1 false v_3 v_7)) fun v_61 =>
  optK (pickV v_60 v_61 (.bool false)) fun v_62 =>
  K v_62 (add (add s_5 s_9) s_49))
   (optK (pickV v_60 .undef (.bool false)) fun v_63 =>
  K v_63 (add (add s_5 s_9) s_49)))) (frz (add s_5 s_9)))
   (optK (pickV v_47 .undef (.bool false)) fun v_64 =>
  boolK v_64
   (optK (negB false (eqV 0 false v_2 v_6)) fun v_65 =>
  optK (pickV v_64 v_65 (.bool false)) fun v_66 =>
  boolK v_66
   (optK (negB false (eqV 1 false v_3 v_7)) fun v_67 =>
  optK (pickV v_66 v_67 (.bool false)) fun v_68 =>
  K v_68 (add s_5 s_9))
   (optK (pickV v_66 .undef (.bool false)) fun v_69 =>
  K v_69 (add s_5 s_9)))
   (optK (pickV v_64 .undef (.bool false)) fun v_70 =>
  boolK v_70
   (optK (negB false (eqV 1 false v_3 v_7)) fun v_71 =>
  optK (pickV v_70 v_71 (.bool false)) fun v_72 =>
  K v_72 (add s_5 s_9))
   (optK (pickV v_70 .undef (.bool false)) fun v_73 =>
  K v_73 (add s_5 s_9)))))) (frz s_5)) s_1) s
def vc_leafmeshlaw12_same_ann : Nat → List Nat := fun _ => []
theorem vc_leafmeshlaw12_same_eq (X : Told) (w0 : AVal) (o1 : AVal) (K : AVal → Heap → Prop) (s : Heap) : wpC Try.prog X vc_leafmeshlaw12_same_ann Try.f28.ntmps none (bodyOf Try.f28) (envOf [w0, o1]) (fun e env s => retK e (resK Try.prog Try.f28.results.toList env (fun vs => K (oneV vs) s) s)) s = vc_leafmeshlaw12_same X w0 o1 K s := by kernel_rfl
theorem vc_leafmeshlaw12_same_ok {X : Told} (hX : FrX X) (hn : X 28 = none) {w0 : AVal} {o1 : AVal} {K : AVal → Heap → Prop} {s : Heap} (h : vc_leafmeshlaw12_same X w0 o1 K s) : wpCall Try.prog X 28 [w0, o1] K s :=
  wpCall_code hX vc_leafmeshlaw12_same_ann hn Try.func28 (by kernel_rfl : Try.f28.body = some (bodyOf Try.f28)) (by kernel_rfl) ((vc_leafmeshlaw12_same_eq X w0 o1 K s).mpr h)
theorem vc_leafmeshlaw12_same_in {w0 : AVal} {o1 : AVal} {K : AVal → Heap → Prop} {s : Heap} (h : vc_leafmeshlaw12_same XX w0 o1 K s) : wpCall Try.prog XX 28 [w0, o1] K s := vc_leafmeshlaw12_same_ok (closedX_fr _) rfl h
/-- (*leafmesh/detect.Watch).valid (29) -/
def vc_detect_Watch_valid_j0 (X : Told) (t5 : AVal) (t10 : AVal) (K : AVal → Heap → Prop) (s : Heap) : Prop :=
  optK (pickV t5 t10 (.bool false)) fun v_1 =>
  K v_1 s
def vc_detect_Watch_valid (X : Told) (w0 : AVal) (K : AVal → Heap → Prop) (s : Heap) : Prop :=
  optK (negB true (eqV 3 true w0 .nilptr)) fun v_0 =>
  boolK v_0
   (optK (nilCheckA w0) fun v_2 =>
    optK (addOff 0 v_2) fun v_3 =>
    optK (rd1 s v_3) fun v_4 =>
    optK (arithV .gtr v_4 (.int .i64 0)) fun v_5 =>
    vc_detect_Watch_valid_j0 X v_0 v_5 K s)
   (vc_detect_Watch_valid_j0 X v_0 .undef K s)
def vc_detect_Watch_valid_ann : Nat → List Nat := fun _ => []
theorem vc_detect_Watch_valid_eq (X : Told) (w0 : AVal) (K : AVal → Heap → Prop) (s : Heap) : wpC Try.prog X vc_detect_Watch_valid_ann Try.f29.ntmps none (bodyOf Try.f29) (envOf [w0]) (fun e env s => retK e (resK Try.prog Try.f29.results.toList env (fun vs => K (oneV vs) s) s)) s = vc_detect_Watch_valid X w0 K s := by kernel_rfl
theorem vc_detect_Watch_valid_ok {X : Told} (hX : FrX X) (hn : X 29 = none) {w0 : AVal} {K : AVal → Heap → Prop} {s : Heap} (h : vc_detect_Watch_valid X w0 K s) : wpCall Try.prog X 29 [w0] K s :=
  wpCall_code hX vc_detect_Watch_valid_ann hn Try.func29 (by kernel_rfl : Try.f29.body = some (bodyOf Try.f29)) (by kernel_rfl) ((vc_detect_Watch_valid_eq X w0 K s).mpr h)
theorem vc_detect_Watch_valid_in {w0 : AVal} {K : AVal → Heap → Prop} {s : Heap} (h : vc_detect_Watch_valid XX w0 K s) : wpCall Try.prog XX 29 [w0] K s := vc_detect_Watch_valid_ok (closedX_fr _) rfl h
/-- leafmesh/detect.rules (30) -/
def vc_detect_rules (X : Told) (K : AVal → Heap → Prop) (s : Heap) : Prop :=
  newK 62 [.nilFunc, .nilFunc] (fun b_0 s_1 =>
  optK (fillR [.nilFunc, .nilFunc] [(0, 1, (.fn (.func 35) [] [])), (1, 1, (.fn (.func 36) [] []))]) fun c_2 =>
  optK (wrAgg s_1 2 (.ptr b_0 0) (.agg c_2)) fun s_3 =>
  optK (rdN s_3 2 (.ptr b_0 0)) fun t0_4 =>
  K (.agg t0_4) s_3) s
def vc_detect_rules_ann : Nat → List Nat := fun _ => []
theorem vc_detect_rules_eq (X : Told) (K : AVal → Heap → Prop) (s : Heap) : wpC Try.prog X vc_detect_rules_ann Try.f30.ntmps none (bodyOf Try.f30) (envOf []) (fun e env s => retK e (resK Try.prog Try.f30.results.toList env (fun vs => K (oneV vs) s) s)) s = vc_detect_rules X K s := by kernel_rfl
theorem vc_detect_rules_ok {X : Told} (hX : FrX X) (hn : X 30 = none) {K : AVal → Heap → Prop} {s : Heap} (h : vc_detect_rules X K s) : wpCall Try.prog X 30 [] K s :=
  wpCall_code hX vc_detect_rules_ann hn Try.func30 (by kernel_rfl : Try.f30.body = some (bodyOf Try.f30)) (by kernel_rfl) ((vc_detect_rules_eq X K s).mpr h)
theorem vc_detect_rules_in {K : AVal → Heap → Prop} {s : Heap} (h : vc_detect_rules XX K s) : wpCall Try.prog XX 30 [] K s := vc_detect_rules_ok (closedX_fr _) rfl h
/-- (leafmesh/detect.phase).other (31) -/
def vc_detect_phase_other (X : Told) (p0 : AVal) (K : AVal → Heap → Prop) (s : Heap) : Prop :=
  optK (arithV .sub (.int .i64 1) p0) fun v_0 =>
  K v_0 s
def vc_detect_phase_other_ann : Nat → List Nat := fun _ => []
theorem vc_detect_phase_other_eq (X : Told) (p0 : AVal) (K : AVal → Heap → Prop) (s : Heap) : wpC Try.prog X vc_detect_phase_other_ann Try.f31.ntmps none (bodyOf Try.f31) (envOf [p0]) (fun e env s => retK e (resK Try.prog Try.f31.results.toList env (fun vs => K (oneV vs) s) s)) s = vc_detect_phase_other X p0 K s := by kernel_rfl
theorem vc_detect_phase_other_ok {X : Told} (hX : FrX X) (hn : X 31 = none) {p0 : AVal} {K : AVal → Heap → Prop} {s : Heap} (h : vc_detect_phase_other X p0 K s) : wpCall Try.prog X 31 [p0] K s :=
  wpCall_code hX vc_detect_phase_other_ann hn Try.func31 (by kernel_rfl : Try.f31.body = some (bodyOf Try.f31)) (by kernel_rfl) ((vc_detect_phase_other_eq X p0 K s).mpr h)
theorem vc_detect_phase_other_in {p0 : AVal} {K : AVal → Heap → Prop} {s : Heap} (h : vc_detect_phase_other XX p0 K s) : wpCall Try.prog XX 31 [p0] K s := vc_detect_phase_other_ok (closedX_fr _) rfl h
/-- (leafmesh/detect.span).after (32) -/
def vc_detect_span_after (X : Told) (t0 : AVal) (t1 : AVal) (K : AVal → Heap → Prop) (s : Heap) : Prop :=
  optK (arithV .add t1 t0) fun v_0 =>
  K v_0 s
def vc_detect_span_after_ann : Nat → List Nat := fun _ => []
theorem vc_detect_span_after_eq (X : Told) (t0 : AVal) (t1 : AVal) (K : AVal → Heap → Prop) (s : Heap) : wpC Try.prog X vc_detect_span_after_ann Try.f32.ntmps none (bodyOf Try.f32) (envOf [t0, t1]) (fun e env s => retK e (resK Try.prog Try.f32.results.toList env (fun vs => K (oneV vs) s) s)) s = vc_detect_span_after X t0 t1 K s := by kernel_rfl
theorem vc_detect_span_after_ok {X : Told} (hX : FrX X) (hn : X 32 = none) {t0 : AVal} {t1 : AVal} {K : AVal → Heap → Prop} {s : Heap} (h : vc_detect_span_after X t0 t1 K s) : wpCall Try.prog X 32 [t0, t1] K s :=
  wpCall_code hX vc_detect_span_after_ann hn Try.func32 (by kernel_rfl : Try.f32.body = some (bodyOf Try.f32)) (by kernel_rfl) ((vc_detect_span_after_eq X t0 t1 K s).mpr h)
theorem vc_detect_span_after_in {t0 : AVal} {t1 : AVal} {K : AVal → Heap → Prop} {s : Heap} (h : vc_detect_span_after XX t0 t1 K s) : wpCall Try.prog XX 32 [t0, t1] K s := vc_detect_span_after_ok (closedX_fr _) rfl h
/-- leafmesh/detect.again (33) -/
def vc_detect_again (X : Told) (p0 : AVal) (K : AVal → Heap → Prop) (s : Heap) : Prop :=
  optK (negB false (eqV 3 true p0 .nilptr)) fun v_0 =>
  boolK v_0
   (K .nilptr s)
   (optK (nilCheckA p0) fun v_1 =>
    optK (rd1 s v_1) fun v_2 =>
    newK 3 [(.int .i64 0)] (fun b_3 s_4 =>
    optK (wr1 s_4 (.ptr b_3 0) v_2) fun s_5 =>
    K (.ptr b_3 0) s_5) s)
def vc_detect_again_ann : Nat → List Nat := fun _ => []
theorem vc_detect_again_eq (X : Told) (p0 : AVal) (K : AVal → Heap → Prop) (s : Heap) : wpC Try.prog X vc_detect_again_ann Try.f33.ntmps none (bodyOf Try.f33) (envOf [p0]) (fun e env s => retK e (resK Try.prog Try.f33.results.toList env (fun vs => K (oneV vs) s) s)) s = vc_detect_again X p0 K s := by kernel_rfl
theorem vc_detect_again_ok {X : Told} (hX : FrX X) (hn : X 33 = none) {p0 : AVal} {K : AVal → Heap → Prop} {s : Heap} (h : vc_detect_again X p0 K s) : wpCall Try.prog X 33 [p0] K s :=
  wpCall_code hX vc_detect_again_ann hn Try.func33 (by kernel_rfl : Try.f33.body = some (bodyOf Try.f33)) (by kernel_rfl) ((vc_detect_again_eq X p0 K s).mpr h)
theorem vc_detect_again_in {p0 : AVal} {K : AVal → Heap → Prop} {s : Heap} (h : vc_detect_again XX p0 K s) : wpCall Try.prog XX 33 [p0] K s := vc_detect_again_ok (closedX_fr _) rfl h
/-- (*leafmesh/leafmeshref12.Watch).Due (34) -/
def vc_leafmeshref12_Watch_Due (X : Told) (w0 : AVal) (K : AVal → Heap → Prop) (s : Heap) : Prop :=
  optK (nilCheckA w0) fun v_0 =>
  optK (addOff 1 v_0) fun v_1 =>
  optK (rd1 s v_1) fun v_2 =>
  optK (unaryA .not v_2) fun v_3 =>
  boolK v_3
   (K (.tup [(.int .i64 0), (.bool false)]) s)
   (optK (nilCheckA w0) fun v_4 =>
    optK (addOff 3 v_4) fun v_5 =>
    optK (rd1 s v_5) fun v_6 =>
    optK (nilCheckA w0) fun v_7 =>
    optK (addOff 0 v_7) fun v_8 =>
    optK (rd1 s v_8) fun v_9 =>
    optK (arithV .add v_6 v_9) fun v_10 =>
    K (.tup [v_10, (.bool true)]) s)
def vc_leafmeshref12_Watch_Due_ann : Nat → List Nat := fun _ => []
theorem vc_leafmeshref12_Watch_Due_eq (X : Told) (w0 : AVal) (K : AVal → Heap → Prop) (s : Heap) : wpC Try.prog X vc_leafmeshref12_Watch_Due_ann Try.f34.ntmps none (bodyOf Try.f34) (envOf [w0]) (fun e env s => retK e (resK Try.prog Try.f34.results.toList env (fun vs => K (oneV vs) s) s)) s = vc_leafmeshref12_Watch_Due X w0 K s := by kernel_rfl
theorem vc_leafmeshref12_Watch_Due_ok {X : Told} (hX : FrX X) (hn : X 34 = none) {w0 : AVal} {K : AVal → Heap → Prop} {s : Heap} (h : vc_leafmeshref12_Watch_Due X w0 K s) : wpCall Try.prog X 34 [w0] K s :=
  wpCall_code hX vc_leafmeshref12_Watch_Due_ann hn Try.func34 (by kernel_rfl : Try.f34.body = some (bodyOf Try.f34)) (by kernel_rfl) ((vc_leafmeshref12_Watch_Due_eq X w0 K s).mpr h)
theorem vc_leafmeshref12_Watch_Due_in {w0 : AVal} {K : AVal → Heap → Prop} {s : Heap} (h : vc_leafmeshref12_Watch_Due XX w0 K s) : wpCall Try.prog XX 34 [w0] K s := vc_leafmeshref12_Watch_Due_ok (closedX_fr _) rfl h
/-- leafmesh/detect.rules$1 (35) -/
def vc_detect_rules_1_j1 (X : Told) (t15 : AVal) (t24 : AVal) (K : AVal → Heap → Prop) (s : Heap) : Prop :=
  optK (pickV t15 t24 (.bool false)) fun v_1 =>
  K v_1 s
def vc_detect_rules_1_j0 (X : Told) (w0 : AVal) (now1 : AVal) (t8 : AVal) (t13 : AVal) (K : AVal → Heap → Prop) (s : Heap) : Prop :=
  optK (pickV t8 t13 (.bool false)) fun v_0 =>
  boolK v_0
   (optK (nilCheckA w0) fun v_2 =>
    optK (addOff 3 v_2) fun v_3 =>
    optK (rd1 s v_3) fun v_4 =>
    optK (nilCheckA v_4) fun v_5 =>
    optK (rd1 s v_5) fun v_6 =>
    optK (arithV .sub now1 (.int .i64 1)) fun v_7 =>
    optK (negB false (eqV 0 false v_6 v_7)) fun v_8 =>
    vc_detect_rules_1_j1 X v_0 v_8 K s)
   (vc_detect_rules_1_j1 X v_0 .undef K s)
def vc_detect_rules_1 (X : Told) (w0 : AVal) (now1 : AVal) (heard2 : AVal) (K : AVal → Heap → Prop) (s : Heap) : Prop :=
  boolK heard2
   (optK (nilCheckA w0) fun v_9 =>
    optK (addOff 3 v_9) fun v_10 =>
    optK (rd1 s v_10) fun v_11 =>
    optK (negB true (eqV 3 true v_11 .nilptr)) fun v_12 =>
    vc_detect_rules_1_j0 X w0 now1 heard2 v_12 K s)
   (vc_detect_rules_1_j0 X w0 now1 heard2 .undef K s)
def vc_detect_rules_1_ann : Nat → List Nat := fun _ => []
theorem vc_detect_rules_1_eq (X : Told) (w0 : AVal) (now1 : AVal) (heard2 : AVal) (K : AVal → Heap → Prop) (s : Heap) : wpC Try.prog X vc_detect_rules_1_ann Try.f35.ntmps none (bodyOf Try.f35) (envOf [w0, now1, heard2]) (fun e env s => retK e (resK Try.prog Try.f35.results.toList env (fun vs => K (oneV vs) s) s)) s = vc_detect_rules_1 X w0 now1 heard2 K s := by kernel_rfl
theorem vc_detect_rules_1_ok {X : Told} (hX : FrX X) (hn : X 35 = none) {w0 : AVal} {now1 : AVal} {heard2 : AVal} {K : AVal → Heap → Prop} {s : Heap} (h : vc_detect_rules_1 X w0 now1 heard2 K s) : wpCall Try.prog X 35 [w0, now1, heard2] K s :=
  wpCall_code hX vc_detect_rules_1_ann hn Try.func35 (by kernel_rfl : Try.f35.body = some (bodyOf Try.f35)) (by kernel_rfl) ((vc_detect_rules_1_eq X w0 now1 heard2 K s).mpr h)
theorem vc_detect_rules_1_in {w0 : AVal} {now1 : AVal} {heard2 : AVal} {K : AVal → Heap → Prop} {s : Heap} (h : vc_detect_rules_1 XX w0 now1 heard2 K s) : wpCall Try.prog XX 35 [w0, now1, heard2] K s := vc_detect_rules_1_ok (closedX_fr _) rfl h
/-- leafmesh/detect.rules$2 (36) -/
def vc_detect_rules_2_j1 (X : Told) (t16 : AVal) (t29 : AVal) (K : AVal → Heap → Prop) (s : Heap) : Prop :=
  optK (pickV t16 t29 (.bool false)) fun v_2 =>
  K v_2 s
def vc_detect_rules_2_j0 (X : Told) (w0 : AVal) (now1 : AVal) (t9 : AVal) (t14 : AVal) (K : AVal → Heap → Prop) (s : Heap) : Prop :=
  optK (pickV t9 t14 (.bool false)) fun v_1 =>
  boolK v_1
   (optK (nilCheckA w0) fun v_3 =>
    optK (addOff 0 v_3) fun v_4 =>
    optK (rd1 s v_4) fun v_5 =>
    optK (nilCheckA w0) fun v_6 =>
    optK (addOff 3 v_6) fun v_7 =>
    optK (rd1 s v_7) fun v_8 =>
    optK (nilCheckA v_8) fun v_9 =>
    optK (rd1 s v_9) fun v_10 =>
    wpCall Try.prog X 32 [v_5, v_10] (fun v_11 s_12 =>
    optK (arithV .geq now1 v_11) fun v_13 =>
    vc_detect_rules_2_j1 X v_1 v_13 K s_12) s)
   (vc_detect_rules_2_j1 X v_1 .undef K s)
def vc_detect_rules_2 (X : Told) (w0 : AVal) (now1 : AVal) (heard2 : AVal) (K : AVal → Heap → Prop) (s : Heap) : Prop :=
  optK (unaryA .not heard2) fun v_0 =>
  boolK v_0
   (optK (nilCheckA w0) fun v_14 =>
    optK (addOff 3 v_14) fun v_15 =>
    optK (rd1 s v_15) fun v_16 =>
    optK (negB true (eqV 3 true v_16 .nilptr)) fun v_17 =>
    vc_detect_rules_2_j0 X w0 now1 v_0 v_17 K s)
   (vc_detect_rules_2_j0 X w0 now1 v_0 .undef K s)
def vc_detect_rules_2_ann : Nat → List Nat := fun _ => []
theorem vc_detect_rules_2_eq (X : Told) (w0 : AVal) (now1 : AVal) (heard2 : AVal) (K : AVal → Heap → Prop) (s : Heap) : wpC Try.prog X vc_detect_rules_2_ann Try.f36.ntmps none (bodyOf Try.f36) (envOf [w0, now1, heard2]) (fun e env s => retK e (resK Try.prog Try.f36.results.toList env (fun vs => K (oneV vs) s) s)) s = vc_detect_rules_2 X w0 now1 heard2 K s := by kernel_rfl
theorem vc_detect_rules_2_ok {X : Told} (hX : FrX X) (hn : X 36 = none) {w0 : AVal} {now1 : AVal} {heard2 : AVal} {K : AVal → Heap → Prop} {s : Heap} (h : vc_detect_rules_2 X w0 now1 heard2 K s) : wpCall Try.prog X 36 [w0, now1, heard2] K s :=
  wpCall_code hX vc_detect_rules_2_ann hn Try.func36 (by kernel_rfl : Try.f36.body = some (bodyOf Try.f36)) (by kernel_rfl) ((vc_detect_rules_2_eq X w0 now1 heard2 K s).mpr h)
theorem vc_detect_rules_2_in {w0 : AVal} {now1 : AVal} {heard2 : AVal} {K : AVal → Heap → Prop} {s : Heap} (h : vc_detect_rules_2 XX w0 now1 heard2 K s) : wpCall Try.prog XX 36 [w0, now1, heard2] K s := vc_detect_rules_2_ok (closedX_fr _) rfl h
end Go.AM
