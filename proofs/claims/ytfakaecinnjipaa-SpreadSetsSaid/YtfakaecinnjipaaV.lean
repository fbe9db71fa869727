/- Part V of a calculus over a small memory that is proved to answer as the program does, and of its use for the functions that the law reaches: see the last part. -/
import Derived.Test.YtfakaecinnjipaaU2
import Derived.Test.YtfakaecinnjipaaProg
import Derived.KernelRfl
set_option linter.unusedVariables false
namespace Go.AM
open Go Go.Proofs
set_option maxRecDepth 100000
abbrev XX : Told := closedX [17, 3]
/-- leafmesh/leafmeshlaw11.SpreadFair (4) -/
def vc_leafmeshlaw11_SpreadFair_j2 (X : Told) (n12 : AVal) (k13 : AVal) (I1 : List AVal → Heap → Nat → Prop) (m1 : Nat) (I0 : List AVal → Heap → Nat → Prop) (m0 : Nat) (K : AVal → Heap → Prop) (s : Heap) : Prop :=
  optK (arithV .add k13 (.int .i64 1)) fun v_28 =>
  ∃ m', m' < m1 ∧ I1 [n12, v_28] s m'
def vc_leafmeshlaw11_SpreadFair_l1 (X : Told) (w6 : AVal) (b7 : AVal) (t8 : AVal) (low9 : AVal) (high10 : AVal) (i11 : AVal) (n12 : AVal) (k13 : AVal) (I1 : List AVal → Heap → Nat → Prop) (m1 : Nat) (I0 : List AVal → Heap → Nat → Prop) (m0 : Nat) (K : AVal → Heap → Prop) (s : Heap) : Prop :=
  optK (lenOfA b7) fun v_20 =>
  optK (arithV .lss k13 (.int .i64 v_20)) fun v_22 =>
  boolK v_22
   (optK (iaddrS 1 b7 k13) fun v_23 =>
    optK (rd1 s v_23) fun v_24 =>
    optK (iaddrS 1 t8 i11) fun v_25 =>
    optK (rd1 s v_25) fun v_26 =>
    optK (negB false (eqV 0 false v_24 v_26)) fun v_27 =>
    boolK v_27
     (optK (arithV .add n12 (.int .i64 1)) fun v_29 =>
      vc_leafmeshlaw11_SpreadFair_j2 X v_29 k13 I1 m1 I0 m0 K s)
     (vc_leafmeshlaw11_SpreadFair_j2 X n12 k13 I1 m1 I0 m0 K s))
   (optK (foldA min2A low9 [n12]) fun v_32 =>
    optK (foldA max2A high10 [n12]) fun v_35 =>
    optK (iaddrS 1 t8 i11) fun v_36 =>
    optK (rd1 s v_36) fun v_37 =>
    wpCall Try.prog X 20 [w6, v_37] (fun v_38 s_39 =>
    optK (negB true (eqV 0 false v_38 n12)) fun v_40 =>
    boolK v_40
     (K (.bool false) s_39)
     (optK (arithV .add i11 (.int .i64 1)) fun v_41 =>
      ∃ m', m' < m0 ∧ I0 [v_32, v_35, v_41] s_39 m')) s)
def vc_leafmeshlaw11_SpreadFair_j5 (X : Told) (t92 : AVal) (t96 : AVal) (K : AVal → Heap → Prop) (s : Heap) : Prop :=
  optK (pickV t92 t96 (.bool false)) fun v_52 =>
  K v_52 s
def vc_leafmeshlaw11_SpreadFair_j4 (X : Told) (w6 : AVal) (b7 : AVal) (t8 : AVal) (t86 : AVal) (t90 : AVal) (K : AVal → Heap → Prop) (s : Heap) : Prop :=
  optK (pickV t86 t90 (.bool false)) fun v_51 =>
  boolK v_51
   (wpCall Try.prog X 15 [w6, t8, b7] (fun v_53 s_54 =>
    vc_leafmeshlaw11_SpreadFair_j5 X v_51 v_53 K s_54) s)
   (vc_leafmeshlaw11_SpreadFair_j5 X v_51 .undef K s)
def vc_leafmeshlaw11_SpreadFair_l3 (X : Told) (ok5 : AVal) (w6 : AVal) (b7 : AVal) (t8 : AVal) (low9 : AVal) (high10 : AVal) (k14 : AVal) (I3 : List AVal → Heap → Nat → Prop) (m3 : Nat) (K : AVal → Heap → Prop) (s : Heap) : Prop :=
  optK (lenOfA b7) fun v_42 =>
  optK (arithV .lss k14 (.int .i64 v_42)) fun v_44 =>
  boolK v_44
   (optK (iaddrS 1 b7 k14) fun v_45 =>
    optK (rd1 s v_45) fun v_46 =>
    wpCall Try.prog X 21 [t8, v_46] (fun v_47 s_48 =>
    optK (unaryA .not v_47) fun v_49 =>
    boolK v_49
     (K (.bool false) s_48)
     (optK (arithV .add k14 (.int .i64 1)) fun v_50 =>
      ∃ m', m' < m3 ∧ I3 [v_50] s_48 m')) s)
   (boolK ok5
     (optK (arithV .sub high10 low9) fun v_55 =>
      optK (arithV .leq v_55 (.int .i64 1)) fun v_56 =>
      vc_leafmeshlaw11_SpreadFair_j4 X w6 b7 t8 ok5 v_56 K s)
     (vc_leafmeshlaw11_SpreadFair_j4 X w6 b7 t8 ok5 .undef K s))
def vc_leafmeshlaw11_SpreadFair_l0 (X : Told) (ok5 : AVal) (w6 : AVal) (b7 : AVal) (t8 : AVal) (low9 : AVal) (high10 : AVal) (i11 : AVal) (I0 : List AVal → Heap → Nat → Prop) (m0 : Nat) (K : AVal → Heap → Prop) (s : Heap) : Prop :=
  optK (lenOfA t8) fun v_17 =>
  optK (arithV .lss i11 (.int .i64 v_17)) fun v_19 =>
  boolK v_19
   (∃ I1 : List AVal → Heap → Nat → Prop, (∃ m, I1 [(.int .i64 0), (.int .i64 0)] s m) ∧ ∀ (f : Env) (s : Heap) (m1 : Nat), I1 [f 12, f 13] s m1 →
      vc_leafmeshlaw11_SpreadFair_l1 X w6 b7 t8 low9 high10 i11 (f 12) (f 13) I1 m1 I0 m0 K s)
   (∃ I3 : List AVal → Heap → Nat → Prop, (∃ m, I3 [(.int .i64 0)] s m) ∧ ∀ (f : Env) (s : Heap) (m3 : Nat), I3 [f 14] s m3 →
      vc_leafmeshlaw11_SpreadFair_l3 X ok5 w6 b7 t8 low9 high10 (f 14) I3 m3 K s)
def vc_leafmeshlaw11_SpreadFair (X : Told) (buckets0 : AVal) (l1 : AVal) (K : AVal → Heap → Prop) (s : Heap) : Prop :=
  wpCall Try.prog X 3 [] (fun v_0 s_1 =>
  wpCall Try.prog X 18 [l1] (fun v_2 s_3 =>
  optK (unaryA .not v_2) fun v_4 =>
  boolK v_4
   (K v_0 s_3)
   (wpCall Try.prog X 19 [buckets0, l1] (fun v_5 s_6 =>
    optK (negB false (eqV 3 true v_5 .nilptr)) fun v_7 =>
    boolK v_7
     (K (.bool false) s_6)
     (wpCall Try.prog X 13 [v_5] (fun v_8 s_9 =>
      wpCall Try.prog X 16 [v_5] (fun v_10 s_11 =>
      optK (lenOfA v_10) fun v_12 =>
      optK (negB false (eqV 0 true (.int .i64 v_12) (.int .i64 0))) fun v_14 =>
      boolK v_14
       (K v_0 s_11)
       (optK (lenOfA v_8) fun v_15 =>
        ∃ I0 : List AVal → Heap → Nat → Prop, (∃ m, I0 [(.int .i64 v_15), (.int .i64 0), (.int .i64 0)] s_11 m) ∧ ∀ (f : Env) (s : Heap) (m0 : Nat), I0 [f 9, f 10, f 11] s m0 →
          vc_leafmeshlaw11_SpreadFair_l0 X v_0 v_5 v_8 v_10 (f 9) (f 10) (f 11) I0 m0 K s)) s_9) s_6)) s_3)) s_1) s
def vc_leafmeshlaw11_SpreadFair_ann : Nat → List Nat := fun k => cond (Nat.beq k 24) [9, 10, 11] (cond (Nat.beq k 32) [12, 13] (cond (Nat.beq k 48) [14] ([])))
theorem vc_leafmeshlaw11_SpreadFair_eq (X : Told) (buckets0 : AVal) (l1 : AVal) (K : AVal → Heap → Prop) (s : Heap) : wpC Try.prog X vc_leafmeshlaw11_SpreadFair_ann Try.f4.ntmps none (bodyOf Try.f4) (envOf [buckets0, l1]) (fun e env s => retK e (resK Try.prog Try.f4.results.toList env (fun vs => K (oneV vs) s) s)) s = vc_leafmeshlaw11_SpreadFair X buckets0 l1 K s := by kernel_rfl
theorem vc_leafmeshlaw11_SpreadFair_ok {X : Told} (hX : FrX X) (hn : X 4 = none) {buckets0 : AVal} {l1 : AVal} {K : AVal → Heap → Prop} {s : Heap} (h : vc_leafmeshlaw11_SpreadFair X buckets0 l1 K s) : wpCall Try.prog X 4 [buckets0, l1] K s :=
  wpCall_code hX vc_leafmeshlaw11_SpreadFair_ann hn Try.func4 (by kernel_rfl : Try.f4.body = some (bodyOf Try.f4)) (by kernel_rfl) ((vc_leafmeshlaw11_SpreadFair_eq X buckets0 l1 K s).mpr h)
theorem vc_leafmeshlaw11_SpreadFair_in {buckets0 : AVal} {l1 : AVal} {K : AVal → Heap → Prop} {s : Heap} (h : vc_leafmeshlaw11_SpreadFair XX buckets0 l1 K s) : wpCall Try.prog XX 4 [buckets0, l1] K s := vc_leafmeshlaw11_SpreadFair_ok (closedX_fr _) rfl h
/-- leafmesh/leafmeshlaw11.SpreadGone (5) -/
def vc_leafmeshlaw11_SpreadGone_j3 (X : Told) (k14 : AVal) (t49 : AVal) (t58 : AVal) (I2 : List AVal → Heap → Nat → Prop) (m2 : Nat) (I1 : List AVal → Heap → Nat → Prop) (m1 : Nat) (K : AVal → Heap → Prop) (s : Heap) : Prop :=
  optK (pickV t49 (.bool true) t58) fun v_19 =>
  optK (arithV .add k14 (.int .i64 1)) fun v_20 =>
  ∃ m', m' < m2 ∧ I2 [v_19, v_20] s m'
def vc_leafmeshlaw11_SpreadGone_j4 (X : Told) (left11 : AVal) (i12 : AVal) (I1 : List AVal → Heap → Nat → Prop) (m1 : Nat) (K : AVal → Heap → Prop) (s : Heap) : Prop :=
  optK (arithV .add i12 (.int .i64 1)) fun v_29 =>
  ∃ m', m' < m1 ∧ I1 [left11, v_29] s m'
def vc_leafmeshlaw11_SpreadGone_l2 (X : Told) (gone2 : AVal) (t10 : AVal) (left11 : AVal) (i12 : AVal) (cut13 : AVal) (k14 : AVal) (I2 : List AVal → Heap → Nat → Prop) (m2 : Nat) (I1 : List AVal → Heap → Nat → Prop) (m1 : Nat) (K : AVal → Heap → Prop) (s : Heap) : Prop :=
  optK (lenOfA gone2) fun v_16 =>
  optK (arithV .lss k14 (.int .i64 v_16)) fun v_18 =>
  boolK v_18
   (boolK cut13
     (vc_leafmeshlaw11_SpreadGone_j3 X k14 cut13 .undef I2 m2 I1 m1 K s)
     (optK (iaddrS 1 gone2 k14) fun v_21 =>
      optK (rd1 s v_21) fun v_22 =>
      optK (lenOfA t10) fun v_23 =>
      wpCall Try.prog X 22 [v_22, (.int .i64 v_23)] (fun v_25 s_26 =>
      optK (negB false (eqV 0 false v_25 i12)) fun v_27 =>
      vc_leafmeshlaw11_SpreadGone_j3 X k14 cut13 v_27 I2 m2 I1 m1 K s_26) s))
   (optK (unaryA .not cut13) fun v_28 =>
    boolK v_28
     (optK (iaddrS 1 t10 i12) fun v_30 =>
      optK (rd1 s v_30) fun v_31 =>
      optK (fillR (repl 1 [(.int .i64 0)]) [(0, 1, v_31)]) fun c_32 => allOne c_32 = true ∧ newK 3 c_32 (fun b_33 s_34 =>
      appK 3 1 left11 (.slc b_33 0 1 (some 1) 1) (fun v_35 s_36 =>
      vc_leafmeshlaw11_SpreadGone_j4 X v_35 i12 I1 m1 K s_36) s_34) s)
     (vc_leafmeshlaw11_SpreadGone_j4 X left11 i12 I1 m1 K s))
def vc_leafmeshlaw11_SpreadGone_j6 (X : Told) (k16 : AVal) (t96 : AVal) (t105 : AVal) (I5 : List AVal → Heap → Nat → Prop) (m5 : Nat) (K : AVal → Heap → Prop) (s : Heap) : Prop :=
  optK (pickV t96 t105 (.bool false)) fun v_57 =>
  boolK v_57
   (K (.bool false) s)
   (optK (arithV .add k16 (.int .i64 1)) fun v_58 =>
    ∃ m', m' < m5 ∧ I5 [v_58] s m')
def vc_leafmeshlaw11_SpreadGone_l5 (X : Told) (ok7 : AVal) (was9 : AVal) (left11 : AVal) (now15 : AVal) (k16 : AVal) (I5 : List AVal → Heap → Nat → Prop) (m5 : Nat) (K : AVal → Heap → Prop) (s : Heap) : Prop :=
  optK (lenOfA now15) fun v_50 =>
  optK (arithV .lss k16 (.int .i64 v_50)) fun v_52 =>
  boolK v_52
   (optK (iaddrS 1 was9 k16) fun v_53 =>
    optK (rd1 s v_53) fun v_54 =>
    wpCall Try.prog X 21 [left11, v_54] (fun v_55 s_56 =>
    boolK v_55
     (optK (iaddrS 1 now15 k16) fun v_59 =>
      optK (rd1 s_56 v_59) fun v_60 =>
      optK (iaddrS 1 was9 k16) fun v_61 =>
      optK (rd1 s_56 v_61) fun v_62 =>
      optK (negB true (eqV 0 false v_60 v_62)) fun v_63 =>
      vc_leafmeshlaw11_SpreadGone_j6 X k16 v_55 v_63 I5 m5 K s_56)
     (vc_leafmeshlaw11_SpreadGone_j6 X k16 v_55 .undef I5 m5 K s_56)) s)
   (K ok7 s)
def vc_leafmeshlaw11_SpreadGone_l1 (X : Told) (gone2 : AVal) (ok7 : AVal) (w8 : AVal) (was9 : AVal) (t10 : AVal) (left11 : AVal) (i12 : AVal) (I1 : List AVal → Heap → Nat → Prop) (m1 : Nat) (K : AVal → Heap → Prop) (s : Heap) : Prop :=
  optK (lenOfA t10) fun v_13 =>
  optK (arithV .lss i12 (.int .i64 v_13)) fun v_15 =>
  boolK v_15
   (∃ I2 : List AVal → Heap → Nat → Prop, (∃ m, I2 [(.bool false), (.int .i64 0)] s m) ∧ ∀ (f : Env) (s : Heap) (m2 : Nat), I2 [f 13, f 14] s m2 →
      vc_leafmeshlaw11_SpreadGone_l2 X gone2 t10 left11 i12 (f 13) (f 14) I2 m2 I1 m1 K s)
   (optK (lenOfA left11) fun v_37 =>
    optK (negB false (eqV 0 true (.int .i64 v_37) (.int .i64 0))) fun v_39 =>
    boolK v_39
     (K ok7 s)
     (wpCall Try.prog X 14 [w8, left11] (fun v_40 s_41 =>
      optK (negB true (eqV 0 true v_40 (.int .i64 0))) fun v_42 =>
      boolK v_42
       (K (.bool false) s_41)
       (wpCall Try.prog X 13 [w8] (fun v_43 s_44 =>
        optK (lenOfA v_43) fun v_45 =>
        optK (lenOfA was9) fun v_47 =>
        optK (negB true (eqV 0 false (.int .i64 v_45) (.int .i64 v_47))) fun v_49 =>
        boolK v_49
         (K (.bool false) s_44)
         (∃ I5 : List AVal → Heap → Nat → Prop, (∃ m, I5 [(.int .i64 0)] s_44 m) ∧ ∀ (f : Env) (s : Heap) (m5 : Nat), I5 [f 16] s m5 →
            vc_leafmeshlaw11_SpreadGone_l5 X ok7 was9 left11 v_43 (f 16) I5 m5 K s)) s_41)) s))
def vc_leafmeshlaw11_SpreadGone_j0 (X : Told) (buckets0 : AVal) (l1 : AVal) (gone2 : AVal) (ok7 : AVal) (t21 : AVal) (t24 : AVal) (K : AVal → Heap → Prop) (s : Heap) : Prop :=
  optK (pickV t21 (.bool true) t24) fun v_5 =>
  boolK v_5
   (K ok7 s)
   (wpCall Try.prog X 19 [buckets0, l1] (fun v_6 s_7 =>
    optK (negB false (eqV 3 true v_6 .nilptr)) fun v_8 =>
    boolK v_8
     (K (.bool false) s_7)
     (wpCall Try.prog X 13 [v_6] (fun v_9 s_10 =>
      wpCall Try.prog X 16 [v_6] (fun v_11 s_12 =>
      ∃ I1 : List AVal → Heap → Nat → Prop, (∃ m, I1 [.nilslc, (.int .i64 0)] s_12 m) ∧ ∀ (f : Env) (s : Heap) (m1 : Nat), I1 [f 11, f 12] s m1 →
        vc_leafmeshlaw11_SpreadGone_l1 X gone2 ok7 v_6 v_9 v_11 (f 11) (f 12) I1 m1 K s) s_10) s_7)) s)
def vc_leafmeshlaw11_SpreadGone (X : Told) (buckets0 : AVal) (l1 : AVal) (gone2 : AVal) (K : AVal → Heap → Prop) (s : Heap) : Prop :=
  wpCall Try.prog X 3 [] (fun v_0 s_1 =>
  wpCall Try.prog X 18 [l1] (fun v_2 s_3 =>
  optK (unaryA .not v_2) fun v_4 =>
  boolK v_4
   (vc_leafmeshlaw11_SpreadGone_j0 X buckets0 l1 gone2 v_0 v_4 .undef K s_3)
   (optK (lenOfA gone2) fun v_64 =>
    optK (arithV .gtr (.int .i64 v_64) (.int .i64 64)) fun v_66 =>
    vc_leafmeshlaw11_SpreadGone_j0 X buckets0 l1 gone2 v_0 v_4 v_66 K s_3)) s_1) s
def vc_leafmeshlaw11_SpreadGone_ann : Nat → List Nat := fun k => cond (Nat.beq k 20) [11, 12] (cond (Nat.beq k 28) [13, 14] (cond (Nat.beq k 54) [16] ([])))
theorem vc_leafmeshlaw11_SpreadGone_eq (X : Told) (buckets0 : AVal) (l1 : AVal) (gone2 : AVal) (K : AVal → Heap → Prop) (s : Heap) : wpC Try.prog X vc_leafmeshlaw11_SpreadGone_ann Try.f5.ntmps none (bodyOf Try.f5) (envOf [buckets0, l1, gone2]) (fun e env s => retK e (resK Try.prog Try.f5.results.toList env (fun vs => K (oneV vs) s) s)) s = vc_leafmeshlaw11_SpreadGone X buckets0 l1 gone2 K s := by kernel_rfl
theorem vc_leafmeshlaw11_SpreadGone_ok {X : Told} (hX : FrX X) (hn : X 5 = none) {buckets0 : AVal} {l1 : AVal} {gone2 : AVal} {K : AVal → Heap → Prop} {s : Heap} (h : vc_leafmeshlaw11_SpreadGone X buckets0 l1 gone2 K s) : wpCall Try.prog X 5 [buckets0, l1, gone2] K s :=
  wpCall_code hX vc_leafmeshlaw11_SpreadGone_ann hn Try.func5 (by kernel_rfl : Try.f5.body = some (bodyOf Try.f5)) (by kernel_rfl) ((vc_leafmeshlaw11_SpreadGone_eq X buckets0 l1 gone2 K s).mpr h)
theorem vc_leafmeshlaw11_SpreadGone_in {buckets0 : AVal} {l1 : AVal} {gone2 : AVal} {K : AVal → Heap → Prop} {s : Heap} (h : vc_leafmeshlaw11_SpreadGone XX buckets0 l1 gone2 K s) : wpCall Try.prog XX 5 [buckets0, l1, gone2] K s := vc_leafmeshlaw11_SpreadGone_ok (closedX_fr _) rfl h
/-- leafmesh/leafmeshlaw11.SpreadComes (6) -/
def vc_leafmeshlaw11_SpreadComes_j3 (X : Told) (k13 : AVal) (t77 : AVal) (t83 : AVal) (I2 : List AVal → Heap → Nat → Prop) (m2 : Nat) (K : AVal → Heap → Prop) (s : Heap) : Prop :=
  optK (pickV t77 t83 (.bool false)) fun v_41 =>
  boolK v_41
   (K (.bool false) s)
   (optK (arithV .add k13 (.int .i64 1)) fun v_42 =>
    ∃ m', m' < m2 ∧ I2 [v_42] s m')
def vc_leafmeshlaw11_SpreadComes_l5 (X : Told) (w8 : AVal) (t10 : AVal) (all11 : AVal) (i14 : AVal) (k15 : AVal) (I5 : List AVal → Heap → Nat → Prop) (m5 : Nat) (I4 : List AVal → Heap → Nat → Prop) (m4 : Nat) (K : AVal → Heap → Prop) (s : Heap) : Prop :=
  optK (lenOfA t10) fun v_50 =>
  optK (arithV .lss k15 (.int .i64 v_50)) fun v_52 =>
  boolK v_52
   (optK (iaddrS 1 all11 i14) fun v_53 =>
    optK (rd1 s v_53) fun v_54 =>
    wpCall Try.prog X 21 [t10, v_54] (fun v_55 s_56 =>
    optK (unaryA .not v_55) fun v_57 =>
    boolK v_57
     (optK (iaddrS 1 all11 i14) fun v_58 =>
    optK (rd1 s_56 v_58) fun v_59 =>
    wpCall Try.prog X 20 [w8, v_59] (fun v_60 s_61 =>
    (∀ b, s_56 b ≠ none → s_56 b = none → s_61 b = none) →
    optK (iaddrS 1 t10 k15) fun v_62 =>
    optK (rd1 (cutH [(s_56, (add s_56 s_61))] (add s_56 s_61)) v_62) fun v_63 =>
    wpCall Try.prog X 20 [w8, v_63] (fun v_64 s_65 =>
    optK (arithV .gtr v_60 v_64) fun v_66 =>
    optK (pickV v_57 v_66 (.bool false)) fun v_67 =>
    boolK v_67
     (K (.bool false) s_65)
     (optK (arithV .add k15 (.int .i64 1)) fun v_68 =>
      ∃ m', m' < m5 ∧ I5 [v_68] s_65 m')) (add s_56 s_61)) (frz s_56))
     (optK (pickV v_57 .undef (.bool false)) fun v_69 =>
    boolK v_69
     (K (.bool false) s_56)
     (optK (arithV .add k15 (.int .i64 1)) fun v_70 =>
      ∃ m', m' < m5 ∧ I5 [v_70] s_56 m'))) s)
   (optK (arithV .add i14 (.int .i64 1)) fun v_71 =>
    ∃ m', m' < m4 ∧ I4 [v_71] s m')
def vc_leafmeshlaw11_SpreadComes_l4 (X : Told) (ok7 : AVal) (w8 : AVal) (t10 : AVal) (all11 : AVal) (i14 : AVal) (I4 : List AVal → Heap → Nat → Prop) (m4 : Nat) (K : AVal → Heap → Prop) (s : Heap) : Prop :=
  optK (lenOfA all11) fun v_47 =>
  optK (arithV .lss i14 (.int .i64 v_47)) fun v_49 =>
  boolK v_49
   (∃ I5 : List AVal → Heap → Nat → Prop, (∃ m, I5 [(.int .i64 0)] s m) ∧ ∀ (f : Env) (s : Heap) (m5 : Nat), I5 [f 15] s m5 →
      vc_leafmeshlaw11_SpreadComes_l5 X w8 t10 all11 i14 (f 15) I5 m5 I4 m4 K s)
   (K ok7 s)
def vc_leafmeshlaw11_SpreadComes_l2 (X : Told) (ok7 : AVal) (w8 : AVal) (was9 : AVal) (t10 : AVal) (all11 : AVal) (now12 : AVal) (k13 : AVal) (I2 : List AVal → Heap → Nat → Prop) (m2 : Nat) (K : AVal → Heap → Prop) (s : Heap) : Prop :=
  optK (lenOfA now12) fun v_33 =>
  optK (arithV .lss k13 (.int .i64 v_33)) fun v_35 =>
  boolK v_35
   (optK (iaddrS 1 now12 k13) fun v_36 =>
    optK (rd1 s v_36) fun v_37 =>
    optK (iaddrS 1 was9 k13) fun v_38 =>
    optK (rd1 s v_38) fun v_39 =>
    optK (negB true (eqV 0 false v_37 v_39)) fun v_40 =>
    boolK v_40
     (optK (iaddrS 1 now12 k13) fun v_43 =>
      optK (rd1 s v_43) fun v_44 =>
      wpCall Try.prog X 21 [t10, v_44] (fun v_45 s_46 =>
      vc_leafmeshlaw11_SpreadComes_j3 X k13 v_40 v_45 I2 m2 K s_46) s)
     (vc_leafmeshlaw11_SpreadComes_j3 X k13 v_40 .undef I2 m2 K s))
   (∃ I4 : List AVal → Heap → Nat → Prop, (∃ m, I4 [(.int .i64 0)] s m) ∧ ∀ (f : Env) (s : Heap) (m4 : Nat), I4 [f 14] s m4 →
      vc_leafmeshlaw11_SpreadComes_l4 X ok7 w8 t10 all11 (f 14) I4 m4 K s)
def vc_leafmeshlaw11_SpreadComes_j1 (X : Told) (ok7 : AVal) (w8 : AVal) (was9 : AVal) (t10 : AVal) (all11 : AVal) (t43 : AVal) (t48 : AVal) (K : AVal → Heap → Prop) (s : Heap) : Prop :=
  optK (pickV t43 (.bool true) t48) fun v_22 =>
  boolK v_22
   (K ok7 s)
   (wpCall Try.prog X 14 [w8, all11] (fun v_23 s_24 =>
    optK (negB true (eqV 0 true v_23 (.int .i64 0))) fun v_25 =>
    boolK v_25
     (K (.bool false) s_24)
     (wpCall Try.prog X 13 [w8] (fun v_26 s_27 =>
      optK (lenOfA v_26) fun v_28 =>
      optK (lenOfA was9) fun v_30 =>
      optK (negB true (eqV 0 false (.int .i64 v_28) (.int .i64 v_30))) fun v_32 =>
      boolK v_32
       (K (.bool false) s_27)
       (∃ I2 : List AVal → Heap → Nat → Prop, (∃ m, I2 [(.int .i64 0)] s_27 m) ∧ ∀ (f : Env) (s : Heap) (m2 : Nat), I2 [f 13] s m2 →
          vc_leafmeshlaw11_SpreadComes_l2 X ok7 w8 was9 t10 all11 v_26 (f 13) I2 m2 K s)) s_24)) s)
def vc_leafmeshlaw11_SpreadComes_j0 (X : Told) (buckets0 : AVal) (l1 : AVal) (more2 : AVal) (ok7 : AVal) (t20 : AVal) (t23 : AVal) (K : AVal → Heap → Prop) (s : Heap) : Prop :=
  optK (pickV t20 (.bool true) t23) fun v_5 =>
  boolK v_5
   (K ok7 s)
   (wpCall Try.prog X 19 [buckets0, l1] (fun v_6 s_7 =>
    optK (negB false (eqV 3 true v_6 .nilptr)) fun v_8 =>
    boolK v_8
     (K (.bool false) s_7)
     (wpCall Try.prog X 13 [v_6] (fun v_9 s_10 =>
      wpCall Try.prog X 16 [v_6] (fun v_11 s_12 =>
      wpCall Try.prog X 24 [v_11] (fun v_13 s_14 =>
      appK 3 1 v_13 more2 (fun v_15 s_16 =>
      wpCall Try.prog X 23 [v_15, (.int .i64 128)] (fun v_17 s_18 =>
      optK (lenOfA v_11) fun v_19 =>
      optK (negB false (eqV 0 true (.int .i64 v_19) (.int .i64 0))) fun v_21 =>
      boolK v_21
       (vc_leafmeshlaw11_SpreadComes_j1 X ok7 v_6 v_9 v_11 v_17 v_21 .undef K s_18)
       (optK (lenOfA v_17) fun v_72 =>
        optK (lenOfA v_9) fun v_74 =>
        optK (arithV .gtr (.int .i64 v_72) (.int .i64 v_74)) fun v_76 =>
        vc_leafmeshlaw11_SpreadComes_j1 X ok7 v_6 v_9 v_11 v_17 v_21 v_76 K s_18)) s_16) s_14) s_12) s_10) s_7)) s)
def vc_leafmeshlaw11_SpreadComes (X : Told) (buckets0 : AVal) (l1 : AVal) (more2 : AVal) (K : AVal → Heap → Prop) (s : Heap) : Prop :=
  wpCall Try.prog X 3 [] (fun v_0 s_1 =>
  wpCall Try.prog X 18 [l1] (fun v_2 s_3 =>
  optK (unaryA .not v_2) fun v_4 =>
  boolK v_4
   (vc_leafmeshlaw11_SpreadComes_j0 X buckets0 l1 more2 v_0 v_4 .undef K s_3)
   (optK (lenOfA more2) fun v_77 =>
    optK (arithV .gtr (.int .i64 v_77) (.int .i64 64)) fun v_79 =>
    vc_leafmeshlaw11_SpreadComes_j0 X buckets0 l1 more2 v_0 v_4 v_79 K s_3)) s_1) s
def vc_leafmeshlaw11_SpreadComes_ann : Nat → List Nat := fun k => cond (Nat.beq k 34) [13] (cond (Nat.beq k 44) [14] (cond (Nat.beq k 50) [15] ([])))
theorem vc_leafmeshlaw11_SpreadComes_eq (X : Told) (buckets0 : AVal) (l1 : AVal) (more2 : AVal) (K : AVal → Heap → Prop) (s : Heap) : wpC Try.prog X vc_leafmeshlaw11_SpreadComes_ann Try.f6.ntmps none (bodyOf Try.f6) (envOf [buckets0, l1, more2]) (fun e env s => retK e (resK Try.prog Try.f6.results.toList env (fun vs => K (oneV vs) s) s)) s = vc_leafmeshlaw11_SpreadComes X buckets0 l1 more2 K s := by kernel_rfl
theorem vc_leafmeshlaw11_SpreadComes_ok {X : Told} (hX : FrX X) (hn : X 6 = none) {buckets0 : AVal} {l1 : AVal} {more2 : AVal} {K : AVal → Heap → Prop} {s : Heap} (h : vc_leafmeshlaw11_SpreadComes X buckets0 l1 more2 K s) : wpCall Try.prog X 6 [buckets0, l1, more2] K s :=
  wpCall_code hX vc_leafmeshlaw11_SpreadComes_ann hn Try.func6 (by kernel_rfl : Try.f6.body = some (bodyOf Try.f6)) (by kernel_rfl) ((vc_leafmeshlaw11_SpreadComes_eq X buckets0 l1 more2 K s).mpr h)
theorem vc_leafmeshlaw11_SpreadComes_in {buckets0 : AVal} {l1 : AVal} {more2 : AVal} {K : AVal → Heap → Prop} {s : Heap} (h : vc_leafmeshlaw11_SpreadComes XX buckets0 l1 more2 K s) : wpCall Try.prog XX 6 [buckets0, l1, more2] K s := vc_leafmeshlaw11_SpreadComes_ok (closedX_fr _) rfl h
/-- leafmesh/leafmeshlaw11.sets (15) -/
def vc_leafmeshlaw11_sets_j0 (X : Told) (t11 : AVal) (t15 : AVal) (K : AVal → Heap → Prop) (s : Heap) : Prop :=
  optK (pickV t11 t15 (.bool false)) fun v_3 =>
  K v_3 s
def vc_leafmeshlaw11_sets (X : Told) (w0 : AVal) (next1 : AVal) (buckets2 : AVal) (K : AVal → Heap → Prop) (s : Heap) : Prop :=
  wpCall Try.prog X 14 [w0, next1] (fun v_0 s_1 =>
  optK (negB false (eqV 0 true v_0 (.int .i64 0))) fun v_2 =>
  boolK v_2
   (wpCall Try.prog X 13 [w0] (fun v_4 s_5 =>
    wpCall Try.prog X 12 [v_4, buckets2] (fun v_6 s_7 =>
    vc_leafmeshlaw11_sets_j0 X v_2 v_6 K s_7) s_5) s_1)
   (vc_leafmeshlaw11_sets_j0 X v_2 .undef K s_1)) s
def vc_leafmeshlaw11_sets_ann : Nat → List Nat := fun _ => []
theorem vc_leafmeshlaw11_sets_eq (X : Told) (w0 : AVal) (next1 : AVal) (buckets2 : AVal) (K : AVal → Heap → Prop) (s : Heap) : wpC Try.prog X vc_leafmeshlaw11_sets_ann Try.f15.ntmps none (bodyOf Try.f15) (envOf [w0, next1, buckets2]) (fun e env s => retK e (resK Try.prog Try.f15.results.toList env (fun vs => K (oneV vs) s) s)) s = vc_leafmeshlaw11_sets X w0 next1 buckets2 K s := by kernel_rfl
theorem vc_leafmeshlaw11_sets_ok {X : Told} (hX : FrX X) (hn : X 15 = none) {w0 : AVal} {next1 : AVal} {buckets2 : AVal} {K : AVal → Heap → Prop} {s : Heap} (h : vc_leafmeshlaw11_sets X w0 next1 buckets2 K s) : wpCall Try.prog X 15 [w0, next1, buckets2] K s :=
  wpCall_code hX vc_leafmeshlaw11_sets_ann hn Try.func15 (by kernel_rfl : Try.f15.body = some (bodyOf Try.f15)) (by kernel_rfl) ((vc_leafmeshlaw11_sets_eq X w0 next1 buckets2 K s).mpr h)
theorem vc_leafmeshlaw11_sets_in {w0 : AVal} {next1 : AVal} {buckets2 : AVal} {K : AVal → Heap → Prop} {s : Heap} (h : vc_leafmeshlaw11_sets XX w0 next1 buckets2 K s) : wpCall Try.prog XX 15 [w0, next1, buckets2] K s := vc_leafmeshlaw11_sets_ok (closedX_fr _) rfl h
/-- leafmesh/leafmeshlaw11.short (18) -/
def vc_leafmeshlaw11_short_l0 (X : Told) (l0 : AVal) (i3 : AVal) (I0 : List AVal → Heap → Nat → Prop) (m0 : Nat) (K : AVal → Heap → Prop) (s : Heap) : Prop :=
  optK (lenOfA l0) fun v_0 =>
  optK (arithV .lss i3 (.int .i64 v_0)) fun v_2 =>
  boolK v_2
   (optK (iaddrS 1 l0 i3) fun v_3 =>
    optK (rd1 s v_3) fun v_4 =>
    optK (lenOfA v_4) fun v_5 =>
    optK (arithV .gtr (.int .i64 v_5) (.int .i64 64)) fun v_7 =>
    boolK v_7
     (K (.bool false) s)
     (optK (arithV .add i3 (.int .i64 1)) fun v_8 =>
      ∃ m', m' < m0 ∧ I0 [v_8] s m'))
   (optK (lenOfA l0) fun v_9 =>
    optK (arithV .leq (.int .i64 v_9) (.int .i64 8)) fun v_11 =>
    K v_11 s)
def vc_leafmeshlaw11_short (X : Told) (l0 : AVal) (K : AVal → Heap → Prop) (s : Heap) : Prop :=
  ∃ I0 : List AVal → Heap → Nat → Prop, (∃ m, I0 [(.int .i64 0)] s m) ∧ ∀ (f : Env) (s : Heap) (m0 : Nat), I0 [f 3] s m0 →
    vc_leafmeshlaw11_short_l0 X l0 (f 3) I0 m0 K s
def vc_leafmeshlaw11_short_ann : Nat → List Nat := fun k => cond (Nat.beq k 4) [3] ([])
theorem vc_leafmeshlaw11_short_eq (X : Told) (l0 : AVal) (K : AVal → Heap → Prop) (s : Heap) : wpC Try.prog X vc_leafmeshlaw11_short_ann Try.f18.ntmps none (bodyOf Try.f18) (envOf [l0]) (fun e env s => retK e (resK Try.prog Try.f18.results.toList env (fun vs => K (oneV vs) s) s)) s = vc_leafmeshlaw11_short X l0 K s := by kernel_rfl
theorem vc_leafmeshlaw11_short_ok {X : Told} (hX : FrX X) (hn : X 18 = none) {l0 : AVal} {K : AVal → Heap → Prop} {s : Heap} (h : vc_leafmeshlaw11_short X l0 K s) : wpCall Try.prog X 18 [l0] K s :=
  wpCall_code hX vc_leafmeshlaw11_short_ann hn Try.func18 (by kernel_rfl : Try.f18.body = some (bodyOf Try.f18)) (by kernel_rfl) ((vc_leafmeshlaw11_short_eq X l0 K s).mpr h)
theorem vc_leafmeshlaw11_short_in {l0 : AVal} {K : AVal → Heap → Prop} {s : Heap} (h : vc_leafmeshlaw11_short XX l0 K s) : wpCall Try.prog XX 18 [l0] K s := vc_leafmeshlaw11_short_ok (closedX_fr _) rfl h
/-- leafmesh/leafmeshlaw11.wheel (19) -/
def vc_leafmeshlaw11_wheel_l1 (X : Told) (buckets0 : AVal) (l1 : AVal) (w5 : AVal) (i7 : AVal) (I1 : List AVal → Heap → Nat → Prop) (m1 : Nat) (K : AVal → Heap → Prop) (s : Heap) : Prop :=
  optK (lenOfA l1) fun v_9 =>
  optK (arithV .lss i7 (.int .i64 v_9)) fun v_11 =>
  boolK v_11
   (optK (iaddrS 1 l1 i7) fun v_12 =>
    optK (rd1 s v_12) fun v_13 =>
    wpCall Try.prog X 22 [buckets0, (.int .i64 64)] (fun v_14 s_15 =>
    (∀ b, s b ≠ none → s b = none → s_15 b = none) →
    optK (arithV .add (.int .i64 1) v_14) fun v_16 =>
    wpCall Try.prog X 23 [v_13, v_16] (fun v_17 s_18 =>
    wpCall Try.prog X 14 [w5, v_17] (fun v_19 s_20 =>
    optK (negB true (eqV 0 true v_19 (.int .i64 0))) fun v_21 =>
    boolK v_21
     (K .nilptr s_20)
     (optK (arithV .add i7 (.int .i64 1)) fun v_22 =>
      ∃ m', m' < m1 ∧ I1 [v_22] s_20 m')) s_18) (add s s_15)) (frz s))
   (K w5 s)
def vc_leafmeshlaw11_wheel_j0 (X : Told) (buckets0 : AVal) (l1 : AVal) (w5 : AVal) (t17 : AVal) (t19 : AVal) (K : AVal → Heap → Prop) (s : Heap) : Prop :=
  optK (pickV t17 (.bool true) t19) fun v_8 =>
  boolK v_8
   (K .nilptr s)
   (∃ I1 : List AVal → Heap → Nat → Prop, (∃ m, I1 [(.int .i64 0)] s m) ∧ ∀ (f : Env) (s : Heap) (m1 : Nat), I1 [f 7] s m1 →
      vc_leafmeshlaw11_wheel_l1 X buckets0 l1 w5 (f 7) I1 m1 K s)
def vc_leafmeshlaw11_wheel (X : Told) (buckets0 : AVal) (l1 : AVal) (K : AVal → Heap → Prop) (s : Heap) : Prop :=
  wpCall Try.prog X 22 [buckets0, (.int .i64 64)] (fun v_0 s_1 =>
  optK (arithV .add (.int .i64 1) v_0) fun v_2 =>
  wpCall Try.prog X 10 [v_2] (fun v_3 s_4 =>
  optK (extractA v_3 0) fun v_5 =>
  optK (extractA v_3 1) fun v_6 =>
  optK (negB true (eqV 0 true v_6 (.int .i64 0))) fun v_7 =>
  boolK v_7
   (vc_leafmeshlaw11_wheel_j0 X buckets0 l1 v_5 v_7 .undef K s_4)
   (optK (negB false (eqV 3 true v_5 .nilptr)) fun v_23 =>
    vc_leafmeshlaw11_wheel_j0 X buckets0 l1 v_5 v_7 v_23 K s_4)) s_1) s
def vc_leafmeshlaw11_wheel_ann : Nat → List Nat := fun k => cond (Nat.beq k 10) [7] ([])
theorem vc_leafmeshlaw11_wheel_eq (X : Told) (buckets0 : AVal) (l1 : AVal) (K : AVal → Heap → Prop) (s : Heap) : wpC Try.prog X vc_leafmeshlaw11_wheel_ann Try.f19.ntmps none (bodyOf Try.f19) (envOf [buckets0, l1]) (fun e env s => retK e (resK Try.prog Try.f19.results.toList env (fun vs => K (oneV vs) s) s)) s = vc_leafmeshlaw11_wheel X buckets0 l1 K s := by kernel_rfl
theorem vc_leafmeshlaw11_wheel_ok {X : Told} (hX : FrX X) (hn : X 19 = none) {buckets0 : AVal} {l1 : AVal} {K : AVal → Heap → Prop} {s : Heap} (h : vc_leafmeshlaw11_wheel X buckets0 l1 K s) : wpCall Try.prog X 19 [buckets0, l1] K s :=
  wpCall_code hX vc_leafmeshlaw11_wheel_ann hn Try.func19 (by kernel_rfl : Try.f19.body = some (bodyOf Try.f19)) (by kernel_rfl) ((vc_leafmeshlaw11_wheel_eq X buckets0 l1 K s).mpr h)
theorem vc_leafmeshlaw11_wheel_in {buckets0 : AVal} {l1 : AVal} {K : AVal → Heap → Prop} {s : Heap} (h : vc_leafmeshlaw11_wheel XX buckets0 l1 K s) : wpCall Try.prog XX 19 [buckets0, l1] K s := vc_leafmeshlaw11_wheel_ok (closedX_fr _) rfl h
/-- leafmesh/leafmeshlaw11.members (23) -/
def vc_leafmeshlaw11_members_j2 (X : Told) (out5 : AVal) (n6 : AVal) (I0 : List AVal → Heap → Nat → Prop) (m0 : Nat) (K : AVal → Heap → Prop) (s : Heap) : Prop :=
  optK (arithV .add n6 (.int .i64 1)) fun v_2 =>
  ∃ m', m' < m0 ∧ I0 [out5, v_2] s m'
def vc_leafmeshlaw11_members_l3 (X : Told) (l0 : AVal) (out5 : AVal) (n6 : AVal) (i7 : AVal) (I3 : List AVal → Heap → Nat → Prop) (m3 : Nat) (I0 : List AVal → Heap → Nat → Prop) (m0 : Nat) (K : AVal → Heap → Prop) (s : Heap) : Prop :=
  optK (lenOfA l0) fun v_3 =>
  optK (arithV .lss i7 (.int .i64 v_3)) fun v_5 =>
  boolK v_5
   (optK (iaddrS 1 l0 i7) fun v_6 =>
    optK (rd1 s v_6) fun v_7 =>
    wpCall Try.prog X 22 [v_7, (.int .i64 128)] (fun v_8 s_9 =>
    optK (negB false (eqV 0 false v_8 n6)) fun v_10 =>
    boolK v_10
     (optK (fillR (repl 1 [(.int .i64 0)]) [(0, 1, n6)]) fun c_11 => allOne c_11 = true ∧ newK 3 c_11 (fun b_12 s_13 =>
      appK 3 1 out5 (.slc b_12 0 1 (some 1) 1) (fun v_14 s_15 =>
      vc_leafmeshlaw11_members_j2 X v_14 n6 I0 m0 K s_15) s_13) s_9)
     (optK (arithV .add i7 (.int .i64 1)) fun v_16 =>
      ∃ m', m' < m3 ∧ I3 [out5, v_16] s_9 m')) s)
   (vc_leafmeshlaw11_members_j2 X out5 n6 I0 m0 K s)
def vc_leafmeshlaw11_members_j1 (X : Told) (l0 : AVal) (out5 : AVal) (n6 : AVal) (t10 : AVal) (t14 : AVal) (I0 : List AVal → Heap → Nat → Prop) (m0 : Nat) (K : AVal → Heap → Prop) (s : Heap) : Prop :=
  optK (pickV t10 t14 (.bool false)) fun v_1 =>
  boolK v_1
   (∃ I3 : List AVal → Heap → Nat → Prop, (∃ m, I3 [out5, (.int .i64 0)] s m) ∧ ∀ (f : Env) (s : Heap) (m3 : Nat), I3 [f 5, f 7] s m3 →
      vc_leafmeshlaw11_members_l3 X l0 (f 5) n6 (f 7) I3 m3 I0 m0 K s)
   (K out5 s)
def vc_leafmeshlaw11_members_l0 (X : Told) (l0 : AVal) (most1 : AVal) (out5 : AVal) (n6 : AVal) (I0 : List AVal → Heap → Nat → Prop) (m0 : Nat) (K : AVal → Heap → Prop) (s : Heap) : Prop :=
  optK (arithV .lss n6 (.int .i64 128)) fun v_0 =>
  boolK v_0
   (optK (lenOfA out5) fun v_17 =>
    optK (arithV .lss (.int .i64 v_17) most1) fun v_19 =>
    vc_leafmeshlaw11_members_j1 X l0 out5 n6 v_0 v_19 I0 m0 K s)
   (vc_leafmeshlaw11_members_j1 X l0 out5 n6 v_0 .undef I0 m0 K s)
def vc_leafmeshlaw11_members (X : Told) (l0 : AVal) (most1 : AVal) (K : AVal → Heap → Prop) (s : Heap) : Prop :=
  ∃ I0 : List AVal → Heap → Nat → Prop, (∃ m, I0 [.nilslc, (.int .i64 0)] s m) ∧ ∀ (f : Env) (s : Heap) (m0 : Nat), I0 [f 5, f 6] s m0 →
    vc_leafmeshlaw11_members_l0 X l0 most1 (f 5) (f 6) I0 m0 K s
def vc_leafmeshlaw11_members_ann : Nat → List Nat := fun k => cond (Nat.beq k 6) [5, 6] (cond (Nat.beq k 12) [5, 7] ([]))
theorem vc_leafmeshlaw11_members_eq (X : Told) (l0 : AVal) (most1 : AVal) (K : AVal → Heap → Prop) (s : Heap) : wpC Try.prog X vc_leafmeshlaw11_members_ann Try.f23.ntmps none (bodyOf Try.f23) (envOf [l0, most1]) (fun e env s => retK e (resK Try.prog Try.f23.results.toList env (fun vs => K (oneV vs) s) s)) s = vc_leafmeshlaw11_members X l0 most1 K s := by kernel_rfl
theorem vc_leafmeshlaw11_members_ok {X : Told} (hX : FrX X) (hn : X 23 = none) {l0 : AVal} {most1 : AVal} {K : AVal → Heap → Prop} {s : Heap} (h : vc_leafmeshlaw11_members X l0 most1 K s) : wpCall Try.prog X 23 [l0, most1] K s :=
  wpCall_code hX vc_leafmeshlaw11_members_ann hn Try.func23 (by kernel_rfl : Try.f23.body = some (bodyOf Try.f23)) (by kernel_rfl) ((vc_leafmeshlaw11_members_eq X l0 most1 K s).mpr h)
theorem vc_leafmeshlaw11_members_in {l0 : AVal} {most1 : AVal} {K : AVal → Heap → Prop} {s : Heap} (h : vc_leafmeshlaw11_members XX l0 most1 K s) : wpCall Try.prog XX 23 [l0, most1] K s := vc_leafmeshlaw11_members_ok (closedX_fr _) rfl h
/-- leafmesh/leafmeshkit.Has[int] (21) -/
def vc_leafmeshkit_Has_int__l0 (X : Told) (l0 : AVal) (x1 : AVal) (i5 : AVal) (I0 : List AVal → Heap → Nat → Prop) (m0 : Nat) (K : AVal → Heap → Prop) (s : Heap) : Prop :=
  optK (lenOfA l0) fun v_0 =>
  optK (arithV .lss i5 (.int .i64 v_0)) fun v_2 =>
  boolK v_2
   (optK (iaddrS 1 l0 i5) fun v_3 =>
    optK (rd1 s v_3) fun v_4 =>
    optK (negB false (eqV 0 false v_4 x1)) fun v_5 =>
    boolK v_5
     (K (.bool true) s)
     (optK (arithV .add i5 (.int .i64 1)) fun v_6 =>
      ∃ m', m' < m0 ∧ I0 [v_6] s m'))
   (K (.bool false) s)
def vc_leafmeshkit_Has_int_ (X : Told) (l0 : AVal) (x1 : AVal) (K : AVal → Heap → Prop) (s : Heap) : Prop :=
  ∃ I0 : List AVal → Heap → Nat → Prop, (∃ m, I0 [(.int .i64 0)] s m) ∧ ∀ (f : Env) (s : Heap) (m0 : Nat), I0 [f 5] s m0 →
    vc_leafmeshkit_Has_int__l0 X l0 x1 (f 5) I0 m0 K s
def vc_leafmeshkit_Has_int__ann : Nat → List Nat := fun k => cond (Nat.beq k 4) [5] ([])
theorem vc_leafmeshkit_Has_int__eq (X : Told) (l0 : AVal) (x1 : AVal) (K : AVal → Heap → Prop) (s : Heap) : wpC Try.prog X vc_leafmeshkit_Has_int__ann Try.f21.ntmps none (bodyOf Try.f21) (envOf [l0, x1]) (fun e env s => retK e (resK Try.prog Try.f21.results.toList env (fun vs => K (oneV vs) s) s)) s = vc_leafmeshkit_Has_int_ X l0 x1 K s := by kernel_rfl
theorem vc_leafmeshkit_Has_int__ok {X : Told} (hX : FrX X) (hn : X 21 = none) {l0 : AVal} {x1 : AVal} {K : AVal → Heap → Prop} {s : Heap} (h : vc_leafmeshkit_Has_int_ X l0 x1 K s) : wpCall Try.prog X 21 [l0, x1] K s :=
  wpCall_code hX vc_leafmeshkit_Has_int__ann hn Try.func21 (by kernel_rfl : Try.f21.body = some (bodyOf Try.f21)) (by kernel_rfl) ((vc_leafmeshkit_Has_int__eq X l0 x1 K s).mpr h)
theorem vc_leafmeshkit_Has_int__in {l0 : AVal} {x1 : AVal} {K : AVal → Heap → Prop} {s : Heap} (h : vc_leafmeshkit_Has_int_ XX l0 x1 K s) : wpCall Try.prog XX 21 [l0, x1] K s := vc_leafmeshkit_Has_int__ok (closedX_fr _) rfl h
/-- leafmesh/leafmeshkit.Pick (22) -/
def vc_leafmeshkit_Pick_j0 (X : Told) (x0 : AVal) (K : AVal → Heap → Prop) (s : Heap) : Prop :=
  K x0 s
def vc_leafmeshkit_Pick (X : Told) (x0 : AVal) (n1 : AVal) (K : AVal → Heap → Prop) (s : Heap) : Prop :=
  optK (arithV .rem x0 n1) fun v_0 =>
  optK (arithV .lss v_0 (.int .i64 0)) fun v_1 =>
  boolK v_1
   (optK (arithV .add v_0 n1) fun v_2 =>
    vc_leafmeshkit_Pick_j0 X v_2 K s)
   (vc_leafmeshkit_Pick_j0 X v_0 K s)
def vc_leafmeshkit_Pick_ann : Nat → List Nat := fun _ => []
theorem vc_leafmeshkit_Pick_eq (X : Told) (x0 : AVal) (n1 : AVal) (K : AVal → Heap → Prop) (s : Heap) : wpC Try.prog X vc_leafmeshkit_Pick_ann Try.f22.ntmps none (bodyOf Try.f22) (envOf [x0, n1]) (fun e env s => retK e (resK Try.prog Try.f22.results.toList env (fun vs => K (oneV vs) s) s)) s = vc_leafmeshkit_Pick X x0 n1 K s := by kernel_rfl
theorem vc_leafmeshkit_Pick_ok {X : Told} (hX : FrX X) (hn : X 22 = none) {x0 : AVal} {n1 : AVal} {K : AVal → Heap → Prop} {s : Heap} (h : vc_leafmeshkit_Pick X x0 n1 K s) : wpCall Try.prog X 22 [x0, n1] K s :=
  wpCall_code hX vc_leafmeshkit_Pick_ann hn Try.func22 (by kernel_rfl : Try.f22.body = some (bodyOf Try.f22)) (by kernel_rfl) ((vc_leafmeshkit_Pick_eq X x0 n1 K s).mpr h)
theorem vc_leafmeshkit_Pick_in {x0 : AVal} {n1 : AVal} {K : AVal → Heap → Prop} {s : Heap} (h : vc_leafmeshkit_Pick XX x0 n1 K s) : wpCall Try.prog XX 22 [x0, n1] K s := vc_leafmeshkit_Pick_ok (closedX_fr _) rfl h
/-- leafmesh/spread.New (10) -/
def vc_spread_New_j0 (X : Told) (buckets0 : AVal) (t6 : AVal) (t8 : AVal) (K : AVal → Heap → Prop) (s : Heap) : Prop :=
  optK (pickV t6 (.bool true) t8) fun v_1 =>
  boolK v_1
   (K (.tup [.nilptr, (.int .i64 2)]) s)
   (optK (nat? buckets0) fun n_2 => optK (nat? buckets0) fun n_3 => (n_2 ≤ n_3 ∧ n_3 ≤ 4294967296) ∧ newK 3 (repl n_3 [(.int .i64 0)]) (fun b_4 s_5 =>
    optK (fillR [.nilslc, .nilslc] [(0, 1, (.slc b_4 0 n_2 (some n_3) 1))]) fun c_6 =>
    boxK 53 (.agg c_6) (fun b_7 s_8 =>
    K (.tup [b_7, (.int .i64 0)]) s_8) s_5) s)
def vc_spread_New (X : Told) (buckets0 : AVal) (K : AVal → Heap → Prop) (s : Heap) : Prop :=
  optK (arithV .lss buckets0 (.int .i64 1)) fun v_0 =>
  boolK v_0
   (vc_spread_New_j0 X buckets0 v_0 .undef K s)
   (optK (arithV .gtr buckets0 (.int .i64 256)) fun v_9 =>
    vc_spread_New_j0 X buckets0 v_0 v_9 K s)
def vc_spread_New_ann : Nat → List Nat := fun _ => []
theorem vc_spread_New_eq (X : Told) (buckets0 : AVal) (K : AVal → Heap → Prop) (s : Heap) : wpC Try.prog X vc_spread_New_ann Try.f10.ntmps none (bodyOf Try.f10) (envOf [buckets0]) (fun e env s => retK e (resK Try.prog Try.f10.results.toList env (fun vs => K (oneV vs) s) s)) s = vc_spread_New X buckets0 K s := by kernel_rfl
theorem vc_spread_New_ok {X : Told} (hX : FrX X) (hn : X 10 = none) {buckets0 : AVal} {K : AVal → Heap → Prop} {s : Heap} (h : vc_spread_New X buckets0 K s) : wpCall Try.prog X 10 [buckets0] K s :=
  wpCall_code hX vc_spread_New_ann hn Try.func10 (by kernel_rfl : Try.f10.body = some (bodyOf Try.f10)) (by kernel_rfl) ((vc_spread_New_eq X buckets0 K s).mpr h)
theorem vc_spread_New_in {buckets0 : AVal} {K : AVal → Heap → Prop} {s : Heap} (h : vc_spread_New XX buckets0 K s) : wpCall Try.prog XX 10 [buckets0] K s := vc_spread_New_ok (closedX_fr _) rfl h
/-- (*leafmesh/spread.Wheel).Pick (11) -/
def vc_spread_Wheel_Pick_j0 (X : Told) (w0 : AVal) (hash1 : AVal) (t9 : AVal) (t15 : AVal) (K : AVal → Heap → Prop) (s : Heap) : Prop :=
  optK (pickV t9 (.bool true) t15) fun v_3 =>
  boolK v_3
   (K (.tup [(.int .i64 0), (.bool false)]) s)
   (optK (nilCheckA w0) fun v_4 =>
    optK (addOff 0 v_4) fun v_5 =>
    optK (rd1 s v_5) fun v_6 =>
    optK (nilCheckA w0) fun v_7 =>
    optK (addOff 0 v_7) fun v_8 =>
    optK (rd1 s v_8) fun v_9 =>
    optK (lenOfA v_9) fun v_10 =>
    optK (convI .u64 (.int .i64 v_10)) fun v_12 =>
    optK (arithV .rem hash1 v_12) fun v_13 =>
    optK (iaddrS 1 v_6 v_13) fun v_14 =>
    optK (rd1 s v_14) fun v_15 =>
    optK (arithV .sub v_15 (.int .i64 1)) fun v_16 =>
    K (.tup [v_16, (.bool true)]) s)
def vc_spread_Wheel_Pick (X : Told) (w0 : AVal) (hash1 : AVal) (K : AVal → Heap → Prop) (s : Heap) : Prop :=
  wpCall Try.prog X 32 [w0] (fun v_0 s_1 =>
  optK (unaryA .not v_0) fun v_2 =>
  boolK v_2
   (vc_spread_Wheel_Pick_j0 X w0 hash1 v_2 .undef K s_1)
   (optK (nilCheckA w0) fun v_17 =>
    optK (addOff 1 v_17) fun v_18 =>
    optK (rd1 s_1 v_18) fun v_19 =>
    optK (lenOfA v_19) fun v_20 =>
    optK (negB false (eqV 0 true (.int .i64 v_20) (.int .i64 0))) fun v_22 =>
    vc_spread_Wheel_Pick_j0 X w0 hash1 v_2 v_22 K s_1)) s
def vc_spread_Wheel_Pick_ann : Nat → List Nat := fun _ => []
theorem vc_spread_Wheel_Pick_eq (X : Told) (w0 : AVal) (hash1 : AVal) (K : AVal → Heap → Prop) (s : Heap) : wpC Try.prog X vc_spread_Wheel_Pick_ann Try.f11.ntmps none (bodyOf Try.f11) (envOf [w0, hash1]) (fun e env s => retK e (resK Try.prog Try.f11.results.toList env (fun vs => K (oneV vs) s) s)) s = vc_spread_Wheel_Pick X w0 hash1 K s := by kernel_rfl
theorem vc_spread_Wheel_Pick_ok {X : Told} (hX : FrX X) (hn : X 11 = none) {w0 : AVal} {hash1 : AVal} {K : AVal → Heap → Prop} {s : Heap} (h : vc_spread_Wheel_Pick X w0 hash1 K s) : wpCall Try.prog X 11 [w0, hash1] K s :=
  wpCall_code hX vc_spread_Wheel_Pick_ann hn Try.func11 (by kernel_rfl : Try.f11.body = some (bodyOf Try.f11)) (by kernel_rfl) ((vc_spread_Wheel_Pick_eq X w0 hash1 K s).mpr h)
theorem vc_spread_Wheel_Pick_in {w0 : AVal} {hash1 : AVal} {K : AVal → Heap → Prop} {s : Heap} (h : vc_spread_Wheel_Pick XX w0 hash1 K s) : wpCall Try.prog XX 11 [w0, hash1] K s := vc_spread_Wheel_Pick_ok (closedX_fr _) rfl h
/-- leafmesh/leafmeshkit.Same[int] (12) -/
def vc_leafmeshkit_Same_int__l0 (X : Told) (a0 : AVal) (b1 : AVal) (i5 : AVal) (I0 : List AVal → Heap → Nat → Prop) (m0 : Nat) (K : AVal → Heap → Prop) (s : Heap) : Prop :=
  optK (lenOfA a0) fun v_5 =>
  optK (arithV .lss i5 (.int .i64 v_5)) fun v_7 =>
  boolK v_7
   (optK (iaddrS 1 a0 i5) fun v_8 =>
    optK (rd1 s v_8) fun v_9 =>
    optK (iaddrS 1 b1 i5) fun v_10 =>
    optK (rd1 s v_10) fun v_11 =>
    optK (negB true (eqV 0 false v_9 v_11)) fun v_12 =>
    boolK v_12
     (K (.bool false) s)
     (optK (arithV .add i5 (.int .i64 1)) fun v_13 =>
      ∃ m', m' < m0 ∧ I0 [v_13] s m'))
   (K (.bool true) s)
def vc_leafmeshkit_Same_int_ (X : Told) (a0 : AVal) (b1 : AVal) (K : AVal → Heap → Prop) (s : Heap) : Prop :=
  optK (lenOfA a0) fun v_0 =>
  optK (lenOfA b1) fun v_2 =>
  optK (negB true (eqV 0 false (.int .i64 v_0) (.int .i64 v_2))) fun v_4 =>
  boolK v_4
   (K (.bool false) s)
   (∃ I0 : List AVal → Heap → Nat → Prop, (∃ m, I0 [(.int .i64 0)] s m) ∧ ∀ (f : Env) (s : Heap) (m0 : Nat), I0 [f 5] s m0 →
      vc_leafmeshkit_Same_int__l0 X a0 b1 (f 5) I0 m0 K s)
def vc_leafmeshkit_Same_int__ann : Nat → List Nat := fun k => cond (Nat.beq k 8) [5] ([])
theorem vc_leafmeshkit_Same_int__eq (X : Told) (a0 : AVal) (b1 : AVal) (K : AVal → Heap → Prop) (s : Heap) : wpC Try.prog X vc_leafmeshkit_Same_int__ann Try.f12.ntmps none (bodyOf Try.f12) (envOf [a0, b1]) (fun e env s => retK e (resK Try.prog Try.f12.results.toList env (fun vs => K (oneV vs) s) s)) s = vc_leafmeshkit_Same_int_ X a0 b1 K s := by kernel_rfl
theorem vc_leafmeshkit_Same_int__ok {X : Told} (hX : FrX X) (hn : X 12 = none) {a0 : AVal} {b1 : AVal} {K : AVal → Heap → Prop} {s : Heap} (h : vc_leafmeshkit_Same_int_ X a0 b1 K s) : wpCall Try.prog X 12 [a0, b1] K s :=
  wpCall_code hX vc_leafmeshkit_Same_int__ann hn Try.func12 (by kernel_rfl : Try.f12.body = some (bodyOf Try.f12)) (by kernel_rfl) ((vc_leafmeshkit_Same_int__eq X a0 b1 K s).mpr h)
theorem vc_leafmeshkit_Same_int__in {a0 : AVal} {b1 : AVal} {K : AVal → Heap → Prop} {s : Heap} (h : vc_leafmeshkit_Same_int_ XX a0 b1 K s) : wpCall Try.prog XX 12 [a0, b1] K s := vc_leafmeshkit_Same_int__ok (closedX_fr _) rfl h
/-- (*leafmesh/spread.Wheel).Buckets (13) -/
def vc_spread_Wheel_Buckets_l0 (X : Told) (l3 : AVal) (t14 : AVal) (t15 : AVal) (I0 : List AVal → Heap → Nat → Prop) (m0 : Nat) (K : AVal → Heap → Prop) (s : Heap) : Prop :=
  optK (arithV .lss t15 t14) fun v_10 =>
  boolK v_10
   (optK (iaddrS 1 l3 t15) fun v_11 =>
    optK (rd1 s v_11) fun v_12 =>
    optK (arithV .sub v_12 (.int .i64 1)) fun v_13 =>
    optK (iaddrS 1 l3 t15) fun v_14 =>
    optK (wr1 s v_14 v_13) fun s_15 =>
    optK (arithV .add t15 (.int .i64 1)) fun v_16 =>
    ∃ m', m' < m0 ∧ I0 [v_16] s_15 m')
   (K l3 s)
def vc_spread_Wheel_Buckets (X : Told) (w0 : AVal) (K : AVal → Heap → Prop) (s : Heap) : Prop :=
  wpCall Try.prog X 32 [w0] (fun v_0 s_1 =>
  optK (unaryA .not v_0) fun v_2 =>
  boolK v_2
   (K .nilslc s_1)
   (optK (nilCheckA w0) fun v_3 =>
    optK (addOff 0 v_3) fun v_4 =>
    optK (rd1 s_1 v_4) fun v_5 =>
    wpCall Try.prog X 33 [v_5] (fun v_6 s_7 =>
    optK (lenOfA v_6) fun v_8 =>
    ∃ I0 : List AVal → Heap → Nat → Prop, (∃ m, I0 [(.int .i64 0)] s_7 m) ∧ ∀ (f : Env) (s : Heap) (m0 : Nat), I0 [f 15] s m0 →
      vc_spread_Wheel_Buckets_l0 X v_6 (.int .i64 v_8) (f 15) I0 m0 K s) s_1)) s
def vc_spread_Wheel_Buckets_ann : Nat → List Nat := fun k => cond (Nat.beq k 10) [15] ([])
theorem vc_spread_Wheel_Buckets_eq (X : Told) (w0 : AVal) (K : AVal → Heap → Prop) (s : Heap) : wpC Try.prog X vc_spread_Wheel_Buckets_ann Try.f13.ntmps none (bodyOf Try.f13) (envOf [w0]) (fun e env s => retK e (resK Try.prog Try.f13.results.toList env (fun vs => K (oneV vs) s) s)) s = vc_spread_Wheel_Buckets X w0 K s := by kernel_rfl
theorem vc_spread_Wheel_Buckets_ok {X : Told} (hX : FrX X) (hn : X 13 = none) {w0 : AVal} {K : AVal → Heap → Prop} {s : Heap} (h : vc_spread_Wheel_Buckets X w0 K s) : wpCall Try.prog X 13 [w0] K s :=
  wpCall_code hX vc_spread_Wheel_Buckets_ann hn Try.func13 (by kernel_rfl : Try.f13.body = some (bodyOf Try.f13)) (by kernel_rfl) ((vc_spread_Wheel_Buckets_eq X w0 K s).mpr h)
theorem vc_spread_Wheel_Buckets_in {w0 : AVal} {K : AVal → Heap → Prop} {s : Heap} (h : vc_spread_Wheel_Buckets XX w0 K s) : wpCall Try.prog XX 13 [w0] K s := vc_spread_Wheel_Buckets_ok (closedX_fr _) rfl h
/-- (*leafmesh/spread.Wheel).Set (14) -/
def vc_spread_Wheel_Set (X : Told) (w0 : AVal) (next1 : AVal) (K : AVal → Heap → Prop) (s : Heap) : Prop :=
  wpCall Try.prog X 32 [w0] (fun v_0 s_1 =>
  optK (unaryA .not v_0) fun v_2 =>
  boolK v_2
   (K (.int .i64 1) s_1)
   (wpCall Try.prog X 34 [w0, next1] (fun v_3 s_4 =>
    optK (negB true (eqV 0 true v_3 (.int .i64 0))) fun v_5 =>
    boolK v_5
     (K v_3 s_4)
     (wpCall Try.prog X 33 [next1] (fun v_6 s_7 =>
      optK (nilCheckA w0) fun v_8 =>
      optK (addOff 1 v_8) fun v_9 =>
      optK (wr1 s_7 v_9 v_6) fun s_10 =>
      optK (lenOfA next1) fun v_11 =>
      optK (negB false (eqV 0 true (.int .i64 v_11) (.int .i64 0))) fun v_13 =>
      boolK v_13
       (optK (nilCheckA w0) fun v_14 =>
        optK (addOff 0 v_14) fun v_15 =>
        optK (rd1 s_10 v_15) fun v_16 =>
        clearK [(.int .i64 0)] 1 v_16 (fun v_17 s_18 =>
        K (.int .i64 0) s_18) s_10)
       (wpCall Try.prog X 35 [w0] (fun v_19 s_20 =>
        newK 71 [.nilptr] (fun b_21 s_22 =>
        optK (wrAgg s_22 1 (.ptr b_21 0) v_19) fun s_23 =>
        optK (rdN s_23 1 (.ptr b_21 0)) fun v_24 =>
        wpCall Try.prog X 36 [w0, (.agg v_24)] (fun v_25 s_26 =>
        optK (rdN s_26 1 (.ptr b_21 0)) fun v_27 =>
        wpCall Try.prog X 37 [w0, (.agg v_27)] (fun v_28 s_29 =>
        K (.int .i64 0) s_29) s_26) s_23) s_20) s_10)) s_4)) s_1)) s
def vc_spread_Wheel_Set_ann : Nat → List Nat := fun _ => []
theorem vc_spread_Wheel_Set_eq (X : Told) (w0 : AVal) (next1 : AVal) (K : AVal → Heap → Prop) (s : Heap) : wpC Try.prog X vc_spread_Wheel_Set_ann Try.f14.ntmps none (bodyOf Try.f14) (envOf [w0, next1]) (fun e env s => retK e (resK Try.prog Try.f14.results.toList env (fun vs => K (oneV vs) s) s)) s = vc_spread_Wheel_Set X w0 next1 K s := by kernel_rfl
theorem vc_spread_Wheel_Set_ok {X : Told} (hX : FrX X) (hn : X 14 = none) {w0 : AVal} {next1 : AVal} {K : AVal → Heap → Prop} {s : Heap} (h : vc_spread_Wheel_Set X w0 next1 K s) : wpCall Try.prog X 14 [w0, next1] K s :=
  wpCall_code hX vc_spread_Wheel_Set_ann hn Try.func14 (by kernel_rfl : Try.f14.body = some (bodyOf Try.f14)) (by kernel_rfl) ((vc_spread_Wheel_Set_eq X w0 next1 K s).mpr h)
theorem vc_spread_Wheel_Set_in {w0 : AVal} {next1 : AVal} {K : AVal → Heap → Prop} {s : Heap} (h : vc_spread_Wheel_Set XX w0 next1 K s) : wpCall Try.prog XX 14 [w0, next1] K s := vc_spread_Wheel_Set_ok (closedX_fr _) rfl h
/-- (*leafmesh/spread.Wheel).Members (16) -/
def vc_spread_Wheel_Members (X : Told) (w0 : AVal) (K : AVal → Heap → Prop) (s : Heap) : Prop :=
  wpCall Try.prog X 32 [w0] (fun v_0 s_1 =>
  optK (unaryA .not v_0) fun v_2 =>
  boolK v_2
   (K .nilslc s_1)
   (optK (nilCheckA w0) fun v_3 =>
    optK (addOff 1 v_3) fun v_4 =>
    optK (rd1 s_1 v_4) fun v_5 =>
    wpCall Try.prog X 33 [v_5] (fun v_6 s_7 =>
    K v_6 s_7) s_1)) s
def vc_spread_Wheel_Members_ann : Nat → List Nat := fun _ => []
theorem vc_spread_Wheel_Members_eq (X : Told) (w0 : AVal) (K : AVal → Heap → Prop) (s : Heap) : wpC Try.prog X vc_spread_Wheel_Members_ann Try.f16.ntmps none (bodyOf Try.f16) (envOf [w0]) (fun e env s => retK e (resK Try.prog Try.f16.results.toList env (fun vs => K (oneV vs) s) s)) s = vc_spread_Wheel_Members X w0 K s := by kernel_rfl
theorem vc_spread_Wheel_Members_ok {X : Told} (hX : FrX X) (hn : X 16 = none) {w0 : AVal} {K : AVal → Heap → Prop} {s : Heap} (h : vc_spread_Wheel_Members X w0 K s) : wpCall Try.prog X 16 [w0] K s :=
  wpCall_code hX vc_spread_Wheel_Members_ann hn Try.func16 (by kernel_rfl : Try.f16.body = some (bodyOf Try.f16)) (by kernel_rfl) ((vc_spread_Wheel_Members_eq X w0 K s).mpr h)
theorem vc_spread_Wheel_Members_in {w0 : AVal} {K : AVal → Heap → Prop} {s : Heap} (h : vc_spread_Wheel_Members XX w0 K s) : wpCall Try.prog XX 16 [w0] K s := vc_spread_Wheel_Members_ok (closedX_fr _) rfl h
/-- (*leafmesh/spread.Wheel).Load (20) -/
def vc_spread_Wheel_Load_j3 (X : Told) (n5 : AVal) (t24 : AVal) (I2 : List AVal → Heap → Nat → Prop) (m2 : Nat) (K : AVal → Heap → Prop) (s : Heap) : Prop :=
  optK (arithV .add t24 (.int .i64 1)) fun v_15 =>
  ∃ m', m' < m2 ∧ I2 [n5, v_15] s m'
def vc_spread_Wheel_Load_l2 (X : Told) (member1 : AVal) (n5 : AVal) (t22 : AVal) (t23 : AVal) (t24 : AVal) (I2 : List AVal → Heap → Nat → Prop) (m2 : Nat) (K : AVal → Heap → Prop) (s : Heap) : Prop :=
  optK (arithV .lss t24 t23) fun v_10 =>
  boolK v_10
   (optK (iaddrS 1 t22 t24) fun v_11 =>
    optK (rd1 s v_11) fun v_12 =>
    optK (arithV .add member1 (.int .i64 1)) fun v_13 =>
    optK (negB false (eqV 0 false v_12 v_13)) fun v_14 =>
    boolK v_14
     (optK (arithV .add n5 (.int .i64 1)) fun v_16 =>
      vc_spread_Wheel_Load_j3 X v_16 t24 I2 m2 K s)
     (vc_spread_Wheel_Load_j3 X n5 t24 I2 m2 K s))
   (K n5 s)
def vc_spread_Wheel_Load_j1 (X : Told) (w0 : AVal) (member1 : AVal) (t15 : AVal) (t17 : AVal) (K : AVal → Heap → Prop) (s : Heap) : Prop :=
  optK (pickV t15 (.bool true) t17) fun v_4 =>
  boolK v_4
   (K (.int .i64 0) s)
   (optK (nilCheckA w0) fun v_5 =>
    optK (addOff 0 v_5) fun v_6 =>
    optK (rd1 s v_6) fun v_7 =>
    optK (lenOfA v_7) fun v_8 =>
    ∃ I2 : List AVal → Heap → Nat → Prop, (∃ m, I2 [(.int .i64 0), (.int .i64 0)] s m) ∧ ∀ (f : Env) (s : Heap) (m2 : Nat), I2 [f 5, f 24] s m2 →
      vc_spread_Wheel_Load_l2 X member1 (f 5) v_7 (.int .i64 v_8) (f 24) I2 m2 K s)
def vc_spread_Wheel_Load_j0 (X : Told) (w0 : AVal) (member1 : AVal) (t11 : AVal) (t13 : AVal) (K : AVal → Heap → Prop) (s : Heap) : Prop :=
  optK (pickV t11 (.bool true) t13) fun v_3 =>
  boolK v_3
   (vc_spread_Wheel_Load_j1 X w0 member1 v_3 .undef K s)
   (optK (arithV .geq member1 (.int .i64 128)) fun v_17 =>
    vc_spread_Wheel_Load_j1 X w0 member1 v_3 v_17 K s)
def vc_spread_Wheel_Load (X : Told) (w0 : AVal) (member1 : AVal) (K : AVal → Heap → Prop) (s : Heap) : Prop :=
  wpCall Try.prog X 32 [w0] (fun v_0 s_1 =>
  optK (unaryA .not v_0) fun v_2 =>
  boolK v_2
   (vc_spread_Wheel_Load_j0 X w0 member1 v_2 .undef K s_1)
   (optK (arithV .lss member1 (.int .i64 0)) fun v_18 =>
    vc_spread_Wheel_Load_j0 X w0 member1 v_2 v_18 K s_1)) s
def vc_spread_Wheel_Load_ann : Nat → List Nat := fun k => cond (Nat.beq k 10) [5, 24] ([])
theorem vc_spread_Wheel_Load_eq (X : Told) (w0 : AVal) (member1 : AVal) (K : AVal → Heap → Prop) (s : Heap) : wpC Try.prog X vc_spread_Wheel_Load_ann Try.f20.ntmps none (bodyOf Try.f20) (envOf [w0, member1]) (fun e env s => retK e (resK Try.prog Try.f20.results.toList env (fun vs => K (oneV vs) s) s)) s = vc_spread_Wheel_Load X w0 member1 K s := by kernel_rfl
theorem vc_spread_Wheel_Load_ok {X : Told} (hX : FrX X) (hn : X 20 = none) {w0 : AVal} {member1 : AVal} {K : AVal → Heap → Prop} {s : Heap} (h : vc_spread_Wheel_Load X w0 member1 K s) : wpCall Try.prog X 20 [w0, member1] K s :=
  wpCall_code hX vc_spread_Wheel_Load_ann hn Try.func20 (by kernel_rfl : Try.f20.body = some (bodyOf Try.f20)) (by kernel_rfl) ((vc_spread_Wheel_Load_eq X w0 member1 K s).mpr h)
theorem vc_spread_Wheel_Load_in {w0 : AVal} {member1 : AVal} {K : AVal → Heap → Prop} {s : Heap} (h : vc_spread_Wheel_Load XX w0 member1 K s) : wpCall Try.prog XX 20 [w0, member1] K s := vc_spread_Wheel_Load_ok (closedX_fr _) rfl h
/-- (*leafmesh/spread.Wheel).valid (32) -/
def vc_spread_Wheel_valid_j0 (X : Told) (t5 : AVal) (t11 : AVal) (K : AVal → Heap → Prop) (s : Heap) : Prop :=
  optK (pickV t5 t11 (.bool false)) fun v_1 =>
  K v_1 s
def vc_spread_Wheel_valid (X : Told) (w0 : AVal) (K : AVal → Heap → Prop) (s : Heap) : Prop :=
  optK (negB true (eqV 3 true w0 .nilptr)) fun v_0 =>
  boolK v_0
   (optK (nilCheckA w0) fun v_2 =>
    optK (addOff 0 v_2) fun v_3 =>
    optK (rd1 s v_3) fun v_4 =>
    optK (lenOfA v_4) fun v_5 =>
    optK (arithV .gtr (.int .i64 v_5) (.int .i64 0)) fun v_7 =>
    vc_spread_Wheel_valid_j0 X v_0 v_7 K s)
   (vc_spread_Wheel_valid_j0 X v_0 .undef K s)
def vc_spread_Wheel_valid_ann : Nat → List Nat := fun _ => []
theorem vc_spread_Wheel_valid_eq (X : Told) (w0 : AVal) (K : AVal → Heap → Prop) (s : Heap) : wpC Try.prog X vc_spread_Wheel_valid_ann Try.f32.ntmps none (bodyOf Try.f32) (envOf [w0]) (fun e env s => retK e (resK Try.prog Try.f32.results.toList env (fun vs => K (oneV vs) s) s)) s = vc_spread_Wheel_valid X w0 K s := by kernel_rfl
theorem vc_spread_Wheel_valid_ok {X : Told} (hX : FrX X) (hn : X 32 = none) {w0 : AVal} {K : AVal → Heap → Prop} {s : Heap} (h : vc_spread_Wheel_valid X w0 K s) : wpCall Try.prog X 32 [w0] K s :=
  wpCall_code hX vc_spread_Wheel_valid_ann hn Try.func32 (by kernel_rfl : Try.f32.body = some (bodyOf Try.f32)) (by kernel_rfl) ((vc_spread_Wheel_valid_eq X w0 K s).mpr h)
theorem vc_spread_Wheel_valid_in {w0 : AVal} {K : AVal → Heap → Prop} {s : Heap} (h : vc_spread_Wheel_valid XX w0 K s) : wpCall Try.prog XX 32 [w0] K s := vc_spread_Wheel_valid_ok (closedX_fr _) rfl h
/-- slices.Clone[[]int,int] (33) -/
def vc_slices_Clone___int_int_ (X : Told) (t0 : AVal) (K : AVal → Heap → Prop) (s : Heap) : Prop :=
  optK (negB false (eqV 5 true t0 .nilslc)) fun v_0 =>
  boolK v_0
   (K .nilslc s)
   (optK (fillR (repl 0 [(.int .i64 0)]) []) fun c_1 => allOne c_1 = true ∧ newK 3 c_1 (fun b_2 s_3 =>
    appK 3 1 (.slc b_2 0 0 (some 0) 1) t0 (fun v_4 s_5 =>
    K v_4 s_5) s_3) s)
def vc_slices_Clone___int_int__ann : Nat → List Nat := fun _ => []
theorem vc_slices_Clone___int_int__eq (X : Told) (t0 : AVal) (K : AVal → Heap → Prop) (s : Heap) : wpC Try.prog X vc_slices_Clone___int_int__ann Try.f33.ntmps none (bodyOf Try.f33) (envOf [t0]) (fun e env s => retK e (resK Try.prog Try.f33.results.toList env (fun vs => K (oneV vs) s) s)) s = vc_slices_Clone___int_int_ X t0 K s := by kernel_rfl
theorem vc_slices_Clone___int_int__ok {X : Told} (hX : FrX X) (hn : X 33 = none) {t0 : AVal} {K : AVal → Heap → Prop} {s : Heap} (h : vc_slices_Clone___int_int_ X t0 K s) : wpCall Try.prog X 33 [t0] K s :=
  wpCall_code hX vc_slices_Clone___int_int__ann hn Try.func33 (by kernel_rfl : Try.f33.body = some (bodyOf Try.f33)) (by kernel_rfl) ((vc_slices_Clone___int_int__eq X t0 K s).mpr h)
theorem vc_slices_Clone___int_int__in {t0 : AVal} {K : AVal → Heap → Prop} {s : Heap} (h : vc_slices_Clone___int_int_ XX t0 K s) : wpCall Try.prog XX 33 [t0] K s := vc_slices_Clone___int_int__ok (closedX_fr _) rfl h
/-- (*leafmesh/spread.Wheel).check (34) -/
def vc_spread_Wheel_check_j2 (X : Told) (t9 : AVal) (t22 : AVal) (t29 : AVal) (I0 : List AVal → Heap → Nat → Prop) (m0 : Nat) (K : AVal → Heap → Prop) (s : Heap) : Prop :=
  optK (pickV t22 t29 (.bool false)) fun v_8 =>
  boolK v_8
   (K (.int .i64 10) s)
   (optK (arithV .add t9 (.int .i64 1)) fun v_9 =>
    ∃ m', m' < m0 ∧ I0 [v_9] s m')
def vc_spread_Wheel_check_j1 (X : Told) (next1 : AVal) (i5 : AVal) (t6 : AVal) (t9 : AVal) (t16 : AVal) (t18 : AVal) (I0 : List AVal → Heap → Nat → Prop) (m0 : Nat) (K : AVal → Heap → Prop) (s : Heap) : Prop :=
  optK (pickV t16 (.bool true) t18) fun v_6 =>
  boolK v_6
   (K (.int .i64 2) s)
   (optK (arithV .gtr i5 (.int .i64 0)) fun v_7 =>
    boolK v_7
     (optK (arithV .sub i5 (.int .i64 1)) fun v_10 =>
      optK (iaddrS 1 next1 v_10) fun v_11 =>
      optK (rd1 s v_11) fun v_12 =>
      optK (arithV .leq t6 v_12) fun v_13 =>
      vc_spread_Wheel_check_j2 X t9 v_7 v_13 I0 m0 K s)
     (vc_spread_Wheel_check_j2 X t9 v_7 .undef I0 m0 K s))
def vc_spread_Wheel_check_l0 (X : Told) (w0 : AVal) (next1 : AVal) (t7 : AVal) (t8 : AVal) (t9 : AVal) (I0 : List AVal → Heap → Nat → Prop) (m0 : Nat) (K : AVal → Heap → Prop) (s : Heap) : Prop :=
  optK (arithV .lss t9 t8) fun v_2 =>
  boolK v_2
   (optK (iaddrS 1 t7 t9) fun v_3 =>
    optK (rd1 s v_3) fun v_4 =>
    optK (arithV .lss v_4 (.int .i64 0)) fun v_5 =>
    boolK v_5
     (vc_spread_Wheel_check_j1 X next1 t9 v_4 t9 v_5 .undef I0 m0 K s)
     (optK (arithV .geq v_4 (.int .i64 128)) fun v_14 =>
      vc_spread_Wheel_check_j1 X next1 t9 v_4 t9 v_5 v_14 I0 m0 K s))
   (optK (lenOfA next1) fun v_15 =>
    optK (nilCheckA w0) fun v_17 =>
    optK (addOff 0 v_17) fun v_18 =>
    optK (rd1 s v_18) fun v_19 =>
    optK (lenOfA v_19) fun v_20 =>
    optK (arithV .gtr (.int .i64 v_15) (.int .i64 v_20)) fun v_22 =>
    boolK v_22
     (K (.int .i64 7) s)
     (K (.int .i64 0) s))
def vc_spread_Wheel_check (X : Told) (w0 : AVal) (next1 : AVal) (K : AVal → Heap → Prop) (s : Heap) : Prop :=
  optK (lenOfA next1) fun v_0 =>
  ∃ I0 : List AVal → Heap → Nat → Prop, (∃ m, I0 [(.int .i64 0)] s m) ∧ ∀ (f : Env) (s : Heap) (m0 : Nat), I0 [f 9] s m0 →
    vc_spread_Wheel_check_l0 X w0 next1 next1 (.int .i64 v_0) (f 9) I0 m0 K s
def vc_spread_Wheel_check_ann : Nat → List Nat := fun k => cond (Nat.beq k 4) [9] ([])
theorem vc_spread_Wheel_check_eq (X : Told) (w0 : AVal) (next1 : AVal) (K : AVal → Heap → Prop) (s : Heap) : wpC Try.prog X vc_spread_Wheel_check_ann Try.f34.ntmps none (bodyOf Try.f34) (envOf [w0, next1]) (fun e env s => retK e (resK Try.prog Try.f34.results.toList env (fun vs => K (oneV vs) s) s)) s = vc_spread_Wheel_check X w0 next1 K s := by kernel_rfl
theorem vc_spread_Wheel_check_ok {X : Told} (hX : FrX X) (hn : X 34 = none) {w0 : AVal} {next1 : AVal} {K : AVal → Heap → Prop} {s : Heap} (h : vc_spread_Wheel_check X w0 next1 K s) : wpCall Try.prog X 34 [w0, next1] K s :=
  wpCall_code hX vc_spread_Wheel_check_ann hn Try.func34 (by kernel_rfl : Try.f34.body = some (bodyOf Try.f34)) (by kernel_rfl) ((vc_spread_Wheel_check_eq X w0 next1 K s).mpr h)
theorem vc_spread_Wheel_check_in {w0 : AVal} {next1 : AVal} {K : AVal → Heap → Prop} {s : Heap} (h : vc_spread_Wheel_check XX w0 next1 K s) : wpCall Try.prog XX 34 [w0, next1] K s := vc_spread_Wheel_check_ok (closedX_fr _) rfl h
/-- (*leafmesh/spread.Wheel).queue (35) -/
def vc_spread_Wheel_queue_j2 (X : Told) (t47 : AVal) (I1 : List AVal → Heap → Nat → Prop) (m1 : Nat) (K : AVal → Heap → Prop) (s : Heap) : Prop :=
  optK (arithV .add t47 (.int .i64 1)) fun v_46 =>
  ∃ m', m' < m1 ∧ I1 [v_46] s m'
def vc_spread_Wheel_queue_l1 (X : Told) (w0 : AVal) (t2 : AVal) (place3 : AVal) (q4 : AVal) (t45 : AVal) (t46 : AVal) (t47 : AVal) (I1 : List AVal → Heap → Nat → Prop) (m1 : Nat) (K : AVal → Heap → Prop) (s : Heap) : Prop :=
  optK (arithV .lss t47 t46) fun v_45 =>
  boolK v_45
   (optK (iaddrS 1 t45 t47) fun v_47 =>
    optK (rd1 s v_47) fun v_48 =>
    optK (negB false (eqV 0 true v_48 (.int .i64 0))) fun v_49 =>
    boolK v_49
     (vc_spread_Wheel_queue_j2 X t47 I1 m1 K s)
     (optK (arithV .sub v_48 (.int .i64 1)) fun v_50 =>
      optK (iaddrA 128 1 place3 v_50) fun v_51 =>
      optK (rd1 s v_51) fun v_52 =>
      optK (negB false (eqV 0 true v_52 (.int .i64 0))) fun v_53 =>
      boolK v_53
       (optK (nilCheckA w0) fun v_54 =>
        optK (addOff 0 v_54) fun v_55 =>
        optK (rd1 s v_55) fun v_56 =>
        optK (iaddrS 1 v_56 t47) fun v_57 =>
        optK (wr1 s v_57 (.int .i64 0)) fun s_58 =>
        vc_spread_Wheel_queue_j2 X t47 I1 m1 K s_58)
       (optK (addOff 0 q4) fun v_59 =>
        optK (rd1 s v_59) fun v_60 =>
        optK (nilCheckA v_60) fun v_61 =>
        optK (addOff 0 v_61) fun v_62 =>
        optK (rd1 s v_62) fun v_63 =>
        optK (arithV .sub v_48 (.int .i64 1)) fun v_64 =>
        optK (iaddrA 128 1 place3 v_64) fun v_65 =>
        optK (rd1 s v_65) fun v_66 =>
        optK (arithV .sub v_66 (.int .i64 1)) fun v_67 =>
        optK (iaddrS 2 v_63 v_67) fun v_68 =>
        optK (addOff 1 v_68) fun v_69 =>
        optK (rd1 s v_69) fun v_70 =>
        optK (arithV .add v_70 (.int .i64 1)) fun v_71 =>
        optK (iaddrS 2 v_63 v_67) fun v_72 =>
        optK (addOff 1 v_72) fun v_73 =>
        optK (wr1 s v_73 v_71) fun s_74 =>
        vc_spread_Wheel_queue_j2 X t47 I1 m1 K s_74)))
   (optK (rdN s 1 q4) fun v_75 =>
    wpCall Try.prog X 47 [(.agg v_75)] (fun v_76 s_77 =>
    optK (rdN s_77 1 q4) fun v_78 =>
    optK (wrAgg s_77 1 t2 (.agg v_78)) fun s_79 =>
    optK (rdN s_79 1 t2) fun t2_80 =>
    K (.agg t2_80) s_79) s)
def vc_spread_Wheel_queue_l0 (X : Told) (w0 : AVal) (t2 : AVal) (place3 : AVal) (q4 : AVal) (t21 : AVal) (t22 : AVal) (t23 : AVal) (I0 : List AVal → Heap → Nat → Prop) (m0 : Nat) (K : AVal → Heap → Prop) (s : Heap) : Prop :=
  optK (arithV .lss t23 t22) fun v_25 =>
  boolK v_25
   (optK (iaddrS 1 t21 t23) fun v_26 =>
    optK (rd1 s v_26) fun v_27 =>
    optK (arithV .add t23 (.int .i64 1)) fun v_28 =>
    optK (iaddrA 128 1 place3 v_27) fun v_29 =>
    optK (wr1 s v_29 v_28) fun s_30 =>
    optK (addOff 0 q4) fun v_31 =>
    optK (rd1 s_30 v_31) fun v_32 =>
    optK (nilCheckA v_32) fun v_33 =>
    optK (addOff 0 v_33) fun v_34 =>
    optK (rd1 s_30 v_34) fun v_35 =>
    optK (iaddrS 2 v_35 t23) fun v_36 =>
    optK (addOff 0 v_36) fun v_37 =>
    optK (wr1 s_30 v_37 v_27) fun s_38 =>
    optK (arithV .add t23 (.int .i64 1)) fun v_39 =>
    ∃ m', m' < m0 ∧ I0 [v_39] s_38 m')
   (optK (nilCheckA w0) fun v_40 =>
    optK (addOff 0 v_40) fun v_41 =>
    optK (rd1 s v_41) fun v_42 =>
    optK (lenOfA v_42) fun v_43 =>
    ∃ I1 : List AVal → Heap → Nat → Prop, (∃ m, I1 [(.int .i64 0)] s m) ∧ ∀ (f : Env) (s : Heap) (m1 : Nat), I1 [f 47] s m1 →
      vc_spread_Wheel_queue_l1 X w0 t2 place3 q4 v_42 (.int .i64 v_43) (f 47) I1 m1 K s)
def vc_spread_Wheel_queue (X : Told) (w0 : AVal) (K : AVal → Heap → Prop) (s : Heap) : Prop :=
  newK 71 [.nilptr] (fun b_0 s_1 =>
  newK 84 [(.int .i64 0), (.int .i64 0), (.int .i64 0), (.int .i64 0), (.int .i64 0), (.int .i64 0), (.int .i64 0), (.int .i64 0), (.int .i64 0), (.int .i64 0), (.int .i64 0), (.int .i64 0), (.int .i64 0), (.int .i64 0), (.int .i64 0), (.int .i64 0), (.int .i64 0), (.int .i64 0), (.int .i64 0), (.int .i64 0), (.int .i64 0), (.int .i64 0), (.int .i64 0), (.int .i64 0), (.int .i64 0), (.int .i64 0), (.int .i64 0), (.int .i64 0), (.int .i64 0), (.int .i64 0), (.int .i64 0), (.int .i64 0), (.int .i64 0), (.int .i64 0), (.int .i64 0), (.int .i64 0), (.int .i64 0), (.int .i64 0), (.int .i64 0), (.int .i64 0), (.int .i64 0), (.int .i64 0), (.int .i64 0), (.int .i64 0), (.int .i64 0), (.int .i64 0), (.int .i64 0), (.int .i64 0), (.int .i64 0), (.int .i64 0), (.int .i64 0), (.int .i64 0), (.int .i64 0), (.int .i64 0), (.int .i64 0), (.int .i64 0), (.int .i64 0), (.int .i64 0), (.int .i64 0), (.int .i64 0), (.int .i64 0), (.int .i64 0), (.int .i64 0), (.int .i64 0), (.int .i64 0), (.int .i64 0), (.int .i64 0), (.int .i64 0), (.int .i64 0), (.int .i64 0), (.int .i64 0), (.int .i64 0), (.int .i64 0), (.int .i64 0), (.int .i64 0), (.int .i64 0), (.int .i64 0), (.int .i64 0), (.int .i64 0), (.int .i64 0), (.int .i64 0), (.int .i64 0), (.int .i64 0), (.int .i64 0), (.int .i64 0), (.int .i64 0), (.int .i64 0), (.int .i64 0), (.int .i64 0), (.int .i64 0), (.int .i64 0), (.int .i64 0), (.int .i64 0), (.int .i64 0), (.int .i64 0), (.int .i64 0), (.int .i64 0), (.int .i64 0), (.int .i64 0), (.int .i64 0), (.int .i64 0), (.int .i64 0), (.int .i64 0), (.int .i64 0), (.int .i64 0), (.int .i64 0), (.int .i64 0), (.int .i64 0), (.int .i64 0), (.int .i64 0), (.int .i64 0), (.int .i64 0), (.int .i64 0), (.int .i64 0), (.int .i64 0), (.int .i64 0), (.int .i64 0), (.int .i64 0), (.int .i64 0), (.int .i64 0), (.int .i64 0), (.int .i64 0), (.int .i64 0), (.int .i64 0), (.int .i64 0), (.int .i64 0), (.int .i64 0), (.int .i64 0)] (fun b_2 s_3 =>
  optK (nilCheckA w0) fun v_4 =>
  optK (addOff 1 v_4) fun v_5 =>
  optK (rd1 s_3 v_5) fun v_6 =>
  optK (lenOfA v_6) fun v_7 =>
  optK (nat? (.int .i64 v_7)) fun n_9 => optK (nat? (.int .i64 v_7)) fun n_10 => (n_9 ≤ n_10 ∧ n_10 ≤ 4294967296) ∧ newK 89 (repl n_10 [(.int .i64 0), (.int .i64 0)]) (fun b_11 s_12 =>
  optK (fillR [.nilslc] [(0, 1, (.slc b_11 0 n_9 (some n_10) 2))]) fun c_13 =>
  boxK 87 (.agg c_13) (fun b_14 s_15 =>
  optK (fillR [.nilptr] [(0, 1, b_14)]) fun c_16 =>
  newK 71 [.nilptr] (fun b_17 s_18 =>
  optK (wrAgg s_18 1 (.ptr b_17 0) (.agg c_16)) fun s_19 =>
  optK (nilCheckA w0) fun v_20 =>
  optK (addOff 1 v_20) fun v_21 =>
  optK (rd1 s_19 v_21) fun v_22 =>
  optK (lenOfA v_22) fun v_23 =>
  ∃ I0 : List AVal → Heap → Nat → Prop, (∃ m, I0 [(.int .i64 0)] s_19 m) ∧ ∀ (f : Env) (s : Heap) (m0 : Nat), I0 [f 23] s m0 →
    vc_spread_Wheel_queue_l0 X w0 (.ptr b_0 0) (.ptr b_2 0) (.ptr b_17 0) v_22 (.int .i64 v_23) (f 23) I0 m0 K s) s_15) s_12) s_3) s_1) s
def vc_spread_Wheel_queue_ann : Nat → List Nat := fun k => cond (Nat.beq k 8) [23] (cond (Nat.beq k 20) [47] ([]))
theorem vc_spread_Wheel_queue_eq (X : Told) (w0 : AVal) (K : AVal → Heap → Prop) (s : Heap) : wpC Try.prog X vc_spread_Wheel_queue_ann Try.f35.ntmps none (bodyOf Try.f35) (envOf [w0]) (fun e env s => retK e (resK Try.prog Try.f35.results.toList env (fun vs => K (oneV vs) s) s)) s = vc_spread_Wheel_queue X w0 K s := by kernel_rfl
theorem vc_spread_Wheel_queue_ok {X : Told} (hX : FrX X) (hn : X 35 = none) {w0 : AVal} {K : AVal → Heap → Prop} {s : Heap} (h : vc_spread_Wheel_queue X w0 K s) : wpCall Try.prog X 35 [w0] K s :=
  wpCall_code hX vc_spread_Wheel_queue_ann hn Try.func35 (by kernel_rfl : Try.f35.body = some (bodyOf Try.f35)) (by kernel_rfl) ((vc_spread_Wheel_queue_eq X w0 K s).mpr h)
theorem vc_spread_Wheel_queue_in {w0 : AVal} {K : AVal → Heap → Prop} {s : Heap} (h : vc_spread_Wheel_queue XX w0 K s) : wpCall Try.prog XX 35 [w0] K s := vc_spread_Wheel_queue_ok (closedX_fr _) rfl h
/-- (*leafmesh/spread.Wheel).fill (36) -/
def vc_spread_Wheel_fill_j1 (X : Told) (t11 : AVal) (I0 : List AVal → Heap → Nat → Prop) (m0 : Nat) (K : AVal → Heap → Prop) (s : Heap) : Prop :=
  optK (arithV .add t11 (.int .i64 1)) fun v_11 =>
  ∃ m', m' < m0 ∧ I0 [v_11] s m'
def vc_spread_Wheel_fill_l0 (X : Told) (w0 : AVal) (q3 : AVal) (t9 : AVal) (t10 : AVal) (t11 : AVal) (I0 : List AVal → Heap → Nat → Prop) (m0 : Nat) (K : AVal → Heap → Prop) (s : Heap) : Prop :=
  optK (arithV .lss t11 t10) fun v_7 =>
  boolK v_7
   (optK (iaddrS 1 t9 t11) fun v_8 =>
    optK (rd1 s v_8) fun v_9 =>
    optK (negB false (eqV 0 true v_9 (.int .i64 0))) fun v_10 =>
    boolK v_10
     (optK (nilCheckA w0) fun v_12 =>
      optK (addOff 0 v_12) fun v_13 =>
      optK (rd1 s v_13) fun v_14 =>
      optK (addOff 0 q3) fun v_15 =>
      optK (rd1 s v_15) fun v_16 =>
      optK (nilCheckA v_16) fun v_17 =>
      optK (addOff 0 v_17) fun v_18 =>
      optK (rd1 s v_18) fun v_19 =>
      optK (iaddrS 2 v_19 (.int .i64 0)) fun v_20 =>
      optK (addOff 0 v_20) fun v_21 =>
      optK (rd1 s v_21) fun v_22 =>
      optK (arithV .add v_22 (.int .i64 1)) fun v_23 =>
      optK (iaddrS 1 v_14 t11) fun v_24 =>
      optK (wr1 s v_24 v_23) fun s_25 =>
      optK (rdN s_25 1 q3) fun v_26 =>
      wpCall Try.prog X 48 [(.agg v_26), (.int .i64 0), (.int .i64 1)] (fun v_27 s_28 =>
      vc_spread_Wheel_fill_j1 X t11 I0 m0 K s_28) s_25)
     (vc_spread_Wheel_fill_j1 X t11 I0 m0 K s))
   (K (.tup []) s)
def vc_spread_Wheel_fill (X : Told) (w0 : AVal) (q1 : AVal) (K : AVal → Heap → Prop) (s : Heap) : Prop :=
  boxK 71 q1 (fun b_0 s_1 =>
  optK (nilCheckA w0) fun v_2 =>
  optK (addOff 0 v_2) fun v_3 =>
  optK (rd1 s_1 v_3) fun v_4 =>
  optK (lenOfA v_4) fun v_5 =>
  ∃ I0 : List AVal → Heap → Nat → Prop, (∃ m, I0 [(.int .i64 0)] s_1 m) ∧ ∀ (f : Env) (s : Heap) (m0 : Nat), I0 [f 11] s m0 →
    vc_spread_Wheel_fill_l0 X w0 b_0 v_4 (.int .i64 v_5) (f 11) I0 m0 K s) s
def vc_spread_Wheel_fill_ann : Nat → List Nat := fun k => cond (Nat.beq k 4) [11] ([])
theorem vc_spread_Wheel_fill_eq (X : Told) (w0 : AVal) (q1 : AVal) (K : AVal → Heap → Prop) (s : Heap) : wpC Try.prog X vc_spread_Wheel_fill_ann Try.f36.ntmps none (bodyOf Try.f36) (envOf [w0, q1]) (fun e env s => retK e (resK Try.prog Try.f36.results.toList env (fun vs => K (oneV vs) s) s)) s = vc_spread_Wheel_fill X w0 q1 K s := by kernel_rfl
theorem vc_spread_Wheel_fill_ok {X : Told} (hX : FrX X) (hn : X 36 = none) {w0 : AVal} {q1 : AVal} {K : AVal → Heap → Prop} {s : Heap} (h : vc_spread_Wheel_fill X w0 q1 K s) : wpCall Try.prog X 36 [w0, q1] K s :=
  wpCall_code hX vc_spread_Wheel_fill_ann hn Try.func36 (by kernel_rfl : Try.f36.body = some (bodyOf Try.f36)) (by kernel_rfl) ((vc_spread_Wheel_fill_eq X w0 q1 K s).mpr h)
theorem vc_spread_Wheel_fill_in {w0 : AVal} {q1 : AVal} {K : AVal → Heap → Prop} {s : Heap} (h : vc_spread_Wheel_fill XX w0 q1 K s) : wpCall Try.prog XX 36 [w0, q1] K s := vc_spread_Wheel_fill_ok (closedX_fr _) rfl h
/-- (*leafmesh/spread.Wheel).balance (37) -/
def vc_spread_Wheel_balance_l0 (X : Told) (w0 : AVal) (q3 : AVal) (I0 : List AVal → Heap → Nat → Prop) (m0 : Nat) (K : AVal → Heap → Prop) (s : Heap) : Prop :=
  optK (rdN s 1 q3) fun v_2 =>
  wpCall Try.prog X 49 [(.agg v_2)] (fun v_3 s_4 =>
  optK (addOff 0 q3) fun v_5 =>
  optK (rd1 s_4 v_5) fun v_6 =>
  optK (nilCheckA v_6) fun v_7 =>
  optK (addOff 0 v_7) fun v_8 =>
  optK (rd1 s_4 v_8) fun v_9 =>
  optK (iaddrS 2 v_9 v_3) fun v_10 =>
  optK (addOff 1 v_10) fun v_11 =>
  optK (rd1 s_4 v_11) fun v_12 =>
  optK (addOff 0 q3) fun v_13 =>
  optK (rd1 s_4 v_13) fun v_14 =>
  optK (nilCheckA v_14) fun v_15 =>
  optK (addOff 0 v_15) fun v_16 =>
  optK (rd1 s_4 v_16) fun v_17 =>
  optK (iaddrS 2 v_17 (.int .i64 0)) fun v_18 =>
  optK (addOff 1 v_18) fun v_19 =>
  optK (rd1 s_4 v_19) fun v_20 =>
  optK (arithV .sub v_12 v_20) fun v_21 =>
  optK (arithV .leq v_21 (.int .i64 1)) fun v_22 =>
  boolK v_22
   (K (.tup []) s_4)
   (optK (nilCheckA w0) fun v_23 =>
    optK (addOff 0 v_23) fun v_24 =>
    optK (rd1 s_4 v_24) fun v_25 =>
    optK (addOff 0 q3) fun v_26 =>
    optK (rd1 s_4 v_26) fun v_27 =>
    optK (nilCheckA v_27) fun v_28 =>
    optK (addOff 0 v_28) fun v_29 =>
    optK (rd1 s_4 v_29) fun v_30 =>
    optK (iaddrS 2 v_30 v_3) fun v_31 =>
    optK (addOff 0 v_31) fun v_32 =>
    optK (rd1 s_4 v_32) fun v_33 =>
    wpCall Try.prog X 50 [w0, v_33] (fun v_34 s_35 =>
    (∀ b, s_4 b ≠ none → s_4 b = none → s_35 b = none) →
    optK (addOff 0 q3) fun v_36 =>
    optK (rd1 (cutH [(s_4, (add s_4 s_35))] (add s_4 s_35)) v_36) fun v_37 =>
    optK (nilCheckA v_37) fun v_38 =>
    optK (addOff 0 v_38) fun v_39 =>
    optK (rd1 (cutH [(s_4, (add s_4 s_35))] (add s_4 s_35)) v_39) fun v_40 =>
    optK (iaddrS 2 v_40 (.int .i64 0)) fun v_41 =>
    optK (addOff 0 v_41) fun v_42 =>
    optK (rd1 (cutH [(s_4, (add s_4 s_35))] (add s_4 s_35)) v_42) fun v_43 =>
    optK (arithV .add v_43 (.int .i64 1)) fun v_44 =>
    optK (iaddrS 1 v_25 v_34) fun v_45 =>
    optK (wr1 (add s_4 s_35) v_45 v_44) fun s_46 =>
    optK (rdN s_46 1 q3) fun v_47 =>
    wpCall Try.prog X 48 [(.agg v_47), v_3, (.int .i64 (-1))] (fun v_48 s_49 =>
    optK (rdN s_49 1 q3) fun v_50 =>
    wpCall Try.prog X 48 [(.agg v_50), (.int .i64 0), (.int .i64 1)] (fun v_51 s_52 =>
    ∃ m', m' < m0 ∧ I0 [] s_52 m') s_49) s_46) (frz s_4))) s
def vc_spread_Wheel_balance (X : Told) (w0 : AVal) (q1 : AVal) (K : AVal → Heap → Prop) (s : Heap) : Prop :=
  boxK 71 q1 (fun b_0 s_1 =>
  ∃ I0 : List AVal → Heap → Nat → Prop, (∃ m, I0 [] s_1 m) ∧ ∀ (f : Env) (s : Heap) (m0 : Nat), I0 [] s m0 →
    vc_spread_Wheel_balance_l0 X w0 b_0 I0 m0 K s) s
def vc_spread_Wheel_balance_ann : Nat → List Nat := fun k => cond (Nat.beq k 2) [] ([])
theorem vc_spread_Wheel_balance_eq (X : Told) (w0 : AVal) (q1 : AVal) (K : AVal → Heap → Prop) (s : Heap) : wpC Try.prog X vc_spread_Wheel_balance_ann Try.f37.ntmps none (bodyOf Try.f37) (envOf [w0, q1]) (fun e env s => retK e (resK Try.prog Try.f37.results.toList env (fun vs => K (oneV vs) s) s)) s = vc_spread_Wheel_balance X w0 q1 K s := by kernel_rfl
theorem vc_spread_Wheel_balance_ok {X : Told} (hX : FrX X) (hn : X 37 = none) {w0 : AVal} {q1 : AVal} {K : AVal → Heap → Prop} {s : Heap} (h : vc_spread_Wheel_balance X w0 q1 K s) : wpCall Try.prog X 37 [w0, q1] K s :=
  wpCall_code hX vc_spread_Wheel_balance_ann hn Try.func37 (by kernel_rfl : Try.f37.body = some (bodyOf Try.f37)) (by kernel_rfl) ((vc_spread_Wheel_balance_eq X w0 q1 K s).mpr h)
theorem vc_spread_Wheel_balance_in {w0 : AVal} {q1 : AVal} {K : AVal → Heap → Prop} {s : Heap} (h : vc_spread_Wheel_balance XX w0 q1 K s) : wpCall Try.prog XX 37 [w0, q1] K s := vc_spread_Wheel_balance_ok (closedX_fr _) rfl h
/-- (leafmesh/spread.queue).build (47) -/
def vc_spread_queue_build (X : Told) (q0 : AVal) (K : AVal → Heap → Prop) (s : Heap) : Prop :=
  boxK 71 q0 (fun b_0 s_1 =>
  optK (rdN s_1 1 b_0) fun v_2 =>
  wpCall Try.prog X 53 [(.ifc 71 (.agg v_2))] (fun v_3 s_4 =>
  K (.tup []) s_4) s_1) s
def vc_spread_queue_build_ann : Nat → List Nat := fun _ => []
theorem vc_spread_queue_build_eq (X : Told) (q0 : AVal) (K : AVal → Heap → Prop) (s : Heap) : wpC Try.prog X vc_spread_queue_build_ann Try.f47.ntmps none (bodyOf Try.f47) (envOf [q0]) (fun e env s => retK e (resK Try.prog Try.f47.results.toList env (fun vs => K (oneV vs) s) s)) s = vc_spread_queue_build X q0 K s := by kernel_rfl
theorem vc_spread_queue_build_ok {X : Told} (hX : FrX X) (hn : X 47 = none) {q0 : AVal} {K : AVal → Heap → Prop} {s : Heap} (h : vc_spread_queue_build X q0 K s) : wpCall Try.prog X 47 [q0] K s :=
  wpCall_code hX vc_spread_queue_build_ann hn Try.func47 (by kernel_rfl : Try.f47.body = some (bodyOf Try.f47)) (by kernel_rfl) ((vc_spread_queue_build_eq X q0 K s).mpr h)
theorem vc_spread_queue_build_in {q0 : AVal} {K : AVal → Heap → Prop} {s : Heap} (h : vc_spread_queue_build XX q0 K s) : wpCall Try.prog XX 47 [q0] K s := vc_spread_queue_build_ok (closedX_fr _) rfl h
/-- (leafmesh/spread.queue).change (48) -/
def vc_spread_queue_change (X : Told) (q0 : AVal) (i1 : AVal) (t2 : AVal) (K : AVal → Heap → Prop) (s : Heap) : Prop :=
  boxK 71 q0 (fun b_0 s_1 =>
  optK (addOff 0 b_0) fun v_2 =>
  optK (rd1 s_1 v_2) fun v_3 =>
  optK (nilCheckA v_3) fun v_4 =>
  optK (addOff 0 v_4) fun v_5 =>
  optK (rd1 s_1 v_5) fun v_6 =>
  optK (iaddrS 2 v_6 i1) fun v_7 =>
  optK (addOff 1 v_7) fun v_8 =>
  optK (rd1 s_1 v_8) fun v_9 =>
  optK (arithV .add v_9 t2) fun v_10 =>
  optK (iaddrS 2 v_6 i1) fun v_11 =>
  optK (addOff 1 v_11) fun v_12 =>
  optK (wr1 s_1 v_12 v_10) fun s_13 =>
  optK (rdN s_13 1 b_0) fun v_14 =>
  wpCall Try.prog X 54 [(.ifc 71 (.agg v_14)), i1] (fun v_15 s_16 =>
  K (.tup []) s_16) s_13) s
def vc_spread_queue_change_ann : Nat → List Nat := fun _ => []
theorem vc_spread_queue_change_eq (X : Told) (q0 : AVal) (i1 : AVal) (t2 : AVal) (K : AVal → Heap → Prop) (s : Heap) : wpC Try.prog X vc_spread_queue_change_ann Try.f48.ntmps none (bodyOf Try.f48) (envOf [q0, i1, t2]) (fun e env s => retK e (resK Try.prog Try.f48.results.toList env (fun vs => K (oneV vs) s) s)) s = vc_spread_queue_change X q0 i1 t2 K s := by kernel_rfl
theorem vc_spread_queue_change_ok {X : Told} (hX : FrX X) (hn : X 48 = none) {q0 : AVal} {i1 : AVal} {t2 : AVal} {K : AVal → Heap → Prop} {s : Heap} (h : vc_spread_queue_change X q0 i1 t2 K s) : wpCall Try.prog X 48 [q0, i1, t2] K s :=
  wpCall_code hX vc_spread_queue_change_ann hn Try.func48 (by kernel_rfl : Try.f48.body = some (bodyOf Try.f48)) (by kernel_rfl) ((vc_spread_queue_change_eq X q0 i1 t2 K s).mpr h)
theorem vc_spread_queue_change_in {q0 : AVal} {i1 : AVal} {t2 : AVal} {K : AVal → Heap → Prop} {s : Heap} (h : vc_spread_queue_change XX q0 i1 t2 K s) : wpCall Try.prog XX 48 [q0, i1, t2] K s := vc_spread_queue_change_ok (closedX_fr _) rfl h
/-- (leafmesh/spread.queue).most (49) -/
def vc_spread_queue_most_j1 (X : Told) (t3 : AVal) (t11 : AVal) (I0 : List AVal → Heap → Nat → Prop) (m0 : Nat) (K : AVal → Heap → Prop) (s : Heap) : Prop :=
  optK (arithV .add t11 (.int .i64 1)) fun v_14 =>
  ∃ m', m' < m0 ∧ I0 [t3, v_14] s m'
def vc_spread_queue_most_l0 (X : Told) (q1 : AVal) (t3 : AVal) (t10 : AVal) (t11 : AVal) (I0 : List AVal → Heap → Nat → Prop) (m0 : Nat) (K : AVal → Heap → Prop) (s : Heap) : Prop :=
  optK (arithV .lss t11 t10) fun v_9 =>
  boolK v_9
   (optK (addOff 0 q1) fun v_10 =>
    optK (rd1 s v_10) fun v_11 =>
    wpCall Try.prog X 55 [v_11, t3, t11] (fun v_12 s_13 =>
    boolK v_12
     (vc_spread_queue_most_j1 X t11 t11 I0 m0 K s_13)
     (vc_spread_queue_most_j1 X t3 t11 I0 m0 K s_13)) s)
   (K t3 s)
def vc_spread_queue_most (X : Told) (q0 : AVal) (K : AVal → Heap → Prop) (s : Heap) : Prop :=
  boxK 71 q0 (fun b_0 s_1 =>
  optK (addOff 0 b_0) fun v_2 =>
  optK (rd1 s_1 v_2) fun v_3 =>
  optK (nilCheckA v_3) fun v_4 =>
  optK (addOff 0 v_4) fun v_5 =>
  optK (rd1 s_1 v_5) fun v_6 =>
  optK (lenOfA v_6) fun v_7 =>
  ∃ I0 : List AVal → Heap → Nat → Prop, (∃ m, I0 [(.int .i64 0), (.int .i64 0)] s_1 m) ∧ ∀ (f : Env) (s : Heap) (m0 : Nat), I0 [f 3, f 11] s m0 →
    vc_spread_queue_most_l0 X b_0 (f 3) (.int .i64 v_7) (f 11) I0 m0 K s) s
def vc_spread_queue_most_ann : Nat → List Nat := fun k => cond (Nat.beq k 6) [3, 11] ([])
theorem vc_spread_queue_most_eq (X : Told) (q0 : AVal) (K : AVal → Heap → Prop) (s : Heap) : wpC Try.prog X vc_spread_queue_most_ann Try.f49.ntmps none (bodyOf Try.f49) (envOf [q0]) (fun e env s => retK e (resK Try.prog Try.f49.results.toList env (fun vs => K (oneV vs) s) s)) s = vc_spread_queue_most X q0 K s := by kernel_rfl
theorem vc_spread_queue_most_ok {X : Told} (hX : FrX X) (hn : X 49 = none) {q0 : AVal} {K : AVal → Heap → Prop} {s : Heap} (h : vc_spread_queue_most X q0 K s) : wpCall Try.prog X 49 [q0] K s :=
  wpCall_code hX vc_spread_queue_most_ann hn Try.func49 (by kernel_rfl : Try.f49.body = some (bodyOf Try.f49)) (by kernel_rfl) ((vc_spread_queue_most_eq X q0 K s).mpr h)
theorem vc_spread_queue_most_in {q0 : AVal} {K : AVal → Heap → Prop} {s : Heap} (h : vc_spread_queue_most XX q0 K s) : wpCall Try.prog XX 49 [q0] K s := vc_spread_queue_most_ok (closedX_fr _) rfl h
/-- (*leafmesh/spread.Wheel).last (50) -/
def vc_spread_Wheel_last_j1 (X : Told) (i5 : AVal) (t14 : AVal) (t24 : AVal) (I0 : List AVal → Heap → Nat → Prop) (m0 : Nat) (K : AVal → Heap → Prop) (s : Heap) : Prop :=
  optK (pickV t14 t24 (.bool false)) fun v_7 =>
  boolK v_7
   (optK (arithV .sub i5 (.int .i64 1)) fun v_8 =>
    ∃ m', m' < m0 ∧ I0 [v_8] s m')
   (K i5 s)
def vc_spread_Wheel_last_l0 (X : Told) (w0 : AVal) (member1 : AVal) (i5 : AVal) (I0 : List AVal → Heap → Nat → Prop) (m0 : Nat) (K : AVal → Heap → Prop) (s : Heap) : Prop :=
  optK (arithV .gtr i5 (.int .i64 0)) fun v_6 =>
  boolK v_6
   (optK (nilCheckA w0) fun v_9 =>
    optK (addOff 0 v_9) fun v_10 =>
    optK (rd1 s v_10) fun v_11 =>
    optK (iaddrS 1 v_11 i5) fun v_12 =>
    optK (rd1 s v_12) fun v_13 =>
    optK (arithV .add member1 (.int .i64 1)) fun v_14 =>
    optK (negB true (eqV 0 false v_13 v_14)) fun v_15 =>
    vc_spread_Wheel_last_j1 X i5 v_6 v_15 I0 m0 K s)
   (vc_spread_Wheel_last_j1 X i5 v_6 .undef I0 m0 K s)
def vc_spread_Wheel_last (X : Told) (w0 : AVal) (member1 : AVal) (K : AVal → Heap → Prop) (s : Heap) : Prop :=
  optK (nilCheckA w0) fun v_0 =>
  optK (addOff 0 v_0) fun v_1 =>
  optK (rd1 s v_1) fun v_2 =>
  optK (lenOfA v_2) fun v_3 =>
  optK (arithV .sub (.int .i64 v_3) (.int .i64 1)) fun v_5 =>
  ∃ I0 : List AVal → Heap → Nat → Prop, (∃ m, I0 [v_5] s m) ∧ ∀ (f : Env) (s : Heap) (m0 : Nat), I0 [f 5] s m0 →
    vc_spread_Wheel_last_l0 X w0 member1 (f 5) I0 m0 K s
def vc_spread_Wheel_last_ann : Nat → List Nat := fun k => cond (Nat.beq k 4) [5] ([])
theorem vc_spread_Wheel_last_eq (X : Told) (w0 : AVal) (member1 : AVal) (K : AVal → Heap → Prop) (s : Heap) : wpC Try.prog X vc_spread_Wheel_last_ann Try.f50.ntmps none (bodyOf Try.f50) (envOf [w0, member1]) (fun e env s => retK e (resK Try.prog Try.f50.results.toList env (fun vs => K (oneV vs) s) s)) s = vc_spread_Wheel_last X w0 member1 K s := by kernel_rfl
theorem vc_spread_Wheel_last_ok {X : Told} (hX : FrX X) (hn : X 50 = none) {w0 : AVal} {member1 : AVal} {K : AVal → Heap → Prop} {s : Heap} (h : vc_spread_Wheel_last X w0 member1 K s) : wpCall Try.prog X 50 [w0, member1] K s :=
  wpCall_code hX vc_spread_Wheel_last_ann hn Try.func50 (by kernel_rfl : Try.f50.body = some (bodyOf Try.f50)) (by kernel_rfl) ((vc_spread_Wheel_last_eq X w0 member1 K s).mpr h)
theorem vc_spread_Wheel_last_in {w0 : AVal} {member1 : AVal} {K : AVal → Heap → Prop} {s : Heap} (h : vc_spread_Wheel_last XX w0 member1 K s) : wpCall Try.prog XX 50 [w0, member1] K s := vc_spread_Wheel_last_ok (closedX_fr _) rfl h
/-- container/heap.Init (53) -/
def vc_container_heap_Init_l0 (X : Told) (h0 : AVal) (n2 : AVal) (i3 : AVal) (I0 : List AVal → Heap → Nat → Prop) (m0 : Nat) (K : AVal → Heap → Prop) (s : Heap) : Prop :=
  optK (arithV .geq i3 (.int .i64 0)) fun v_4 =>
  boolK v_4
   (wpCall Try.prog X 56 [h0, i3, n2] (fun v_5 s_6 =>
    optK (arithV .sub i3 (.int .i64 1)) fun v_7 =>
    ∃ m', m' < m0 ∧ I0 [v_7] s_6 m') s)
   (K (.tup []) s)
def vc_container_heap_Init (X : Told) (h0 : AVal) (K : AVal → Heap → Prop) (s : Heap) : Prop :=
  methK Try.prog X h0 "Len" [] (fun v_0 s_1 =>
  optK (arithV .quo v_0 (.int .i64 2)) fun v_2 =>
  optK (arithV .sub v_2 (.int .i64 1)) fun v_3 =>
  ∃ I0 : List AVal → Heap → Nat → Prop, (∃ m, I0 [v_3] s_1 m) ∧ ∀ (f : Env) (s : Heap) (m0 : Nat), I0 [f 3] s m0 →
    vc_container_heap_Init_l0 X h0 v_0 (f 3) I0 m0 K s) s
def vc_container_heap_Init_ann : Nat → List Nat := fun k => cond (Nat.beq k 4) [3] ([])
theorem vc_container_heap_Init_eq (X : Told) (h0 : AVal) (K : AVal → Heap → Prop) (s : Heap) : wpC Try.prog X vc_container_heap_Init_ann Try.f53.ntmps none (bodyOf Try.f53) (envOf [h0]) (fun e env s => retK e (resK Try.prog Try.f53.results.toList env (fun vs => K (oneV vs) s) s)) s = vc_container_heap_Init X h0 K s := by kernel_rfl
theorem vc_container_heap_Init_ok {X : Told} (hX : FrX X) (hn : X 53 = none) {h0 : AVal} {K : AVal → Heap → Prop} {s : Heap} (h : vc_container_heap_Init X h0 K s) : wpCall Try.prog X 53 [h0] K s :=
  wpCall_code hX vc_container_heap_Init_ann hn Try.func53 (by kernel_rfl : Try.f53.body = some (bodyOf Try.f53)) (by kernel_rfl) ((vc_container_heap_Init_eq X h0 K s).mpr h)
theorem vc_container_heap_Init_in {h0 : AVal} {K : AVal → Heap → Prop} {s : Heap} (h : vc_container_heap_Init XX h0 K s) : wpCall Try.prog XX 53 [h0] K s := vc_container_heap_Init_ok (closedX_fr _) rfl h
/-- container/heap.Fix (54) -/
def vc_container_heap_Fix (X : Told) (h0 : AVal) (i1 : AVal) (K : AVal → Heap → Prop) (s : Heap) : Prop :=
  methK Try.prog X h0 "Len" [] (fun v_0 s_1 =>
  wpCall Try.prog X 56 [h0, i1, v_0] (fun v_2 s_3 =>
  optK (unaryA .not v_2) fun v_4 =>
  boolK v_4
   (wpCall Try.prog X 57 [h0, i1] (fun v_5 s_6 =>
    K (.tup []) s_6) s_3)
   (K (.tup []) s_3)) s_1) s
def vc_container_heap_Fix_ann : Nat → List Nat := fun _ => []
theorem vc_container_heap_Fix_eq (X : Told) (h0 : AVal) (i1 : AVal) (K : AVal → Heap → Prop) (s : Heap) : wpC Try.prog X vc_container_heap_Fix_ann Try.f54.ntmps none (bodyOf Try.f54) (envOf [h0, i1]) (fun e env s => retK e (resK Try.prog Try.f54.results.toList env (fun vs => K (oneV vs) s) s)) s = vc_container_heap_Fix X h0 i1 K s := by kernel_rfl
theorem vc_container_heap_Fix_ok {X : Told} (hX : FrX X) (hn : X 54 = none) {h0 : AVal} {i1 : AVal} {K : AVal → Heap → Prop} {s : Heap} (h : vc_container_heap_Fix X h0 i1 K s) : wpCall Try.prog X 54 [h0, i1] K s :=
  wpCall_code hX vc_container_heap_Fix_ann hn Try.func54 (by kernel_rfl : Try.f54.body = some (bodyOf Try.f54)) (by kernel_rfl) ((vc_container_heap_Fix_eq X h0 i1 K s).mpr h)
theorem vc_container_heap_Fix_in {h0 : AVal} {i1 : AVal} {K : AVal → Heap → Prop} {s : Heap} (h : vc_container_heap_Fix XX h0 i1 K s) : wpCall Try.prog XX 54 [h0, i1] K s := vc_container_heap_Fix_ok (closedX_fr _) rfl h
/-- (*leafmesh/spread.order).Less (55) -/
def vc_spread_order_Less (X : Told) (o0 : AVal) (i1 : AVal) (j2 : AVal) (K : AVal → Heap → Prop) (s : Heap) : Prop :=
  optK (nilCheckA o0) fun v_0 =>
  optK (addOff 0 v_0) fun v_1 =>
  optK (rd1 s v_1) fun v_2 =>
  optK (iaddrS 2 v_2 i1) fun v_3 =>
  optK (rdN s 2 v_3) fun v_4 =>
  optK (nilCheckA o0) fun v_5 =>
  optK (addOff 0 v_5) fun v_6 =>
  optK (rd1 s v_6) fun v_7 =>
  optK (iaddrS 2 v_7 j2) fun v_8 =>
  optK (rdN s 2 v_8) fun v_9 =>
  newK 89 [(.int .i64 0), (.int .i64 0)] (fun b_10 s_11 =>
  (∀ b, s b ≠ none → s b = none → s_11 b = none) →
  newK 89 [(.int .i64 0), (.int .i64 0)] (fun b_12 s_13 =>
  (∀ b, (add s s_11) b ≠ none → (cutH [(s, (add s s_11))] (add s s_11)) b = none → s_13 b = none) →
  ((cutH [((hdel s (blkOf v_6)), s), ((hdel s (blkOf v_8)), s)] (add (add s s_11) s_13)) (blkOf (.ptr b_10 0)) ≠ none) ∧
  optK (wrAgg (add (add s s_11) s_13) 2 (.ptr b_10 0) (.agg v_4)) fun s_14 =>
  optK (wrAgg s_14 2 (.ptr b_12 0) (.agg v_9)) fun s_15 =>
  optK (addOff 1 (.ptr b_10 0)) fun v_16 =>
  optK (rd1 s_15 v_16) fun v_17 =>
  optK (addOff 1 (.ptr b_12 0)) fun v_18 =>
  optK (rd1 s_15 v_18) fun v_19 =>
  optK (negB true (eqV 0 false v_17 v_19)) fun v_20 =>
  boolK v_20
   (optK (addOff 1 (.ptr b_10 0)) fun v_21 =>
    optK (rd1 s_15 v_21) fun v_22 =>
    optK (addOff 1 (.ptr b_12 0)) fun v_23 =>
    optK (rd1 s_15 v_23) fun v_24 =>
    optK (arithV .lss v_22 v_24) fun v_25 =>
    K v_25 s_15)
   (optK (addOff 0 (.ptr b_10 0)) fun v_26 =>
    optK (rd1 s_15 v_26) fun v_27 =>
    optK (addOff 0 (.ptr b_12 0)) fun v_28 =>
    optK (rd1 s_15 v_28) fun v_29 =>
    optK (arithV .lss v_27 v_29) fun v_30 =>
    K v_30 s_15)) (frz (cutH [(s, (add s s_11))] (add s s_11)))) (frz s)
def vc_spread_order_Less_ann : Nat → List Nat := fun _ => []
theorem vc_spread_order_Less_eq (X : Told) (o0 : AVal) (i1 : AVal) (j2 : AVal) (K : AVal → Heap → Prop) (s : Heap) : wpC Try.prog X vc_spread_order_Less_ann Try.f55.ntmps none (bodyOf Try.f55) (envOf [o0, i1, j2]) (fun e env s => retK e (resK Try.prog Try.f55.results.toList env (fun vs => K (oneV vs) s) s)) s = vc_spread_order_Less X o0 i1 j2 K s := by kernel_rfl
theorem vc_spread_order_Less_ok {X : Told} (hX : FrX X) (hn : X 55 = none) {o0 : AVal} {i1 : AVal} {j2 : AVal} {K : AVal → Heap → Prop} {s : Heap} (h : vc_spread_order_Less X o0 i1 j2 K s) : wpCall Try.prog X 55 [o0, i1, j2] K s :=
  wpCall_code hX vc_spread_order_Less_ann hn Try.func55 (by kernel_rfl : Try.f55.body = some (bodyOf Try.f55)) (by kernel_rfl) ((vc_spread_order_Less_eq X o0 i1 j2 K s).mpr h)
theorem vc_spread_order_Less_in {o0 : AVal} {i1 : AVal} {j2 : AVal} {K : AVal → Heap → Prop} {s : Heap} (h : vc_spread_order_Less XX o0 i1 j2 K s) : wpCall Try.prog XX 55 [o0, i1, j2] K s := vc_spread_order_Less_ok (closedX_fr _) rfl h
/-- (*leafmesh/spread.order).Len (75) -/
def vc_spread_order_Len (X : Told) (o0 : AVal) (K : AVal → Heap → Prop) (s : Heap) : Prop :=
  optK (nilCheckA o0) fun v_0 =>
  optK (addOff 0 v_0) fun v_1 =>
  optK (rd1 s v_1) fun v_2 =>
  optK (lenOfA v_2) fun v_3 =>
  K (.int .i64 v_3) s
def vc_spread_order_Len_ann : Nat → List Nat := fun _ => []
theorem vc_spread_order_Len_eq (X : Told) (o0 : AVal) (K : AVal → Heap → Prop) (s : Heap) : wpC Try.prog X vc_spread_order_Len_ann Try.f75.ntmps none (bodyOf Try.f75) (envOf [o0]) (fun e env s => retK e (resK Try.prog Try.f75.results.toList env (fun vs => K (oneV vs) s) s)) s = vc_spread_order_Len X o0 K s := by kernel_rfl
theorem vc_spread_order_Len_ok {X : Told} (hX : FrX X) (hn : X 75 = none) {o0 : AVal} {K : AVal → Heap → Prop} {s : Heap} (h : vc_spread_order_Len X o0 K s) : wpCall Try.prog X 75 [o0] K s :=
  wpCall_code hX vc_spread_order_Len_ann hn Try.func75 (by kernel_rfl : Try.f75.body = some (bodyOf Try.f75)) (by kernel_rfl) ((vc_spread_order_Len_eq X o0 K s).mpr h)
theorem vc_spread_order_Len_in {o0 : AVal} {K : AVal → Heap → Prop} {s : Heap} (h : vc_spread_order_Len XX o0 K s) : wpCall Try.prog XX 75 [o0] K s := vc_spread_order_Len_ok (closedX_fr _) rfl h
/-- (*leafmesh/spread.order).Swap (76) -/
def vc_spread_order_Swap (X : Told) (o0 : AVal) (i1 : AVal) (j2 : AVal) (K : AVal → Heap → Prop) (s : Heap) : Prop :=
  optK (nilCheckA o0) fun v_0 =>
  optK (addOff 0 v_0) fun v_1 =>
  optK (rd1 s v_1) fun v_2 =>
  optK (nilCheckA o0) fun v_3 =>
  optK (addOff 0 v_3) fun v_4 =>
  optK (rd1 s v_4) fun v_5 =>
  optK (nilCheckA o0) fun v_6 =>
  optK (addOff 0 v_6) fun v_7 =>
  optK (rd1 s v_7) fun v_8 =>
  optK (iaddrS 2 v_8 j2) fun v_9 =>
  optK (rdN s 2 v_9) fun v_10 =>
  optK (nilCheckA o0) fun v_11 =>
  optK (addOff 0 v_11) fun v_12 =>
  optK (rd1 s v_12) fun v_13 =>
  optK (iaddrS 2 v_13 i1) fun v_14 =>
  optK (rdN s 2 v_14) fun v_15 =>
  optK (iaddrS 2 v_2 i1) fun v_16 =>
  optK (wrAgg s 2 v_16 (.agg v_10)) fun s_17 =>
  optK (iaddrS 2 v_5 j2) fun v_18 =>
  optK (wrAgg s_17 2 v_18 (.agg v_15)) fun s_19 =>
  K (.tup []) s_19
def vc_spread_order_Swap_ann : Nat → List Nat := fun _ => []
theorem vc_spread_order_Swap_eq (X : Told) (o0 : AVal) (i1 : AVal) (j2 : AVal) (K : AVal → Heap → Prop) (s : Heap) : wpC Try.prog X vc_spread_order_Swap_ann Try.f76.ntmps none (bodyOf Try.f76) (envOf [o0, i1, j2]) (fun e env s => retK e (resK Try.prog Try.f76.results.toList env (fun vs => K (oneV vs) s) s)) s = vc_spread_order_Swap X o0 i1 j2 K s := by kernel_rfl
theorem vc_spread_order_Swap_ok {X : Told} (hX : FrX X) (hn : X 76 = none) {o0 : AVal} {i1 : AVal} {j2 : AVal} {K : AVal → Heap → Prop} {s : Heap} (h : vc_spread_order_Swap X o0 i1 j2 K s) : wpCall Try.prog X 76 [o0, i1, j2] K s :=
  wpCall_code hX vc_spread_order_Swap_ann hn Try.func76 (by kernel_rfl : Try.f76.body = some (bodyOf Try.f76)) (by kernel_rfl) ((vc_spread_order_Swap_eq X o0 i1 j2 K s).mpr h)
theorem vc_spread_order_Swap_in {o0 : AVal} {i1 : AVal} {j2 : AVal} {K : AVal → Heap → Prop} {s : Heap} (h : vc_spread_order_Swap XX o0 i1 j2 K s) : wpCall Try.prog XX 76 [o0, i1, j2] K s := vc_spread_order_Swap_ok (closedX_fr _) rfl h
/-- container/heap.down (56) -/
def vc_container_heap_down_j0 (X : Told) (i01 : AVal) (i7 : AVal) (K : AVal → Heap → Prop) (s : Heap) : Prop :=
  optK (arithV .gtr i7 i01) fun v_0 =>
  K v_0 s
def vc_container_heap_down_j4 (X : Told) (h0 : AVal) (i01 : AVal) (i7 : AVal) (j9 : AVal) (I1 : List AVal → Heap → Nat → Prop) (m1 : Nat) (K : AVal → Heap → Prop) (s : Heap) : Prop :=
  methK Try.prog X h0 "Less" [j9, i7] (fun v_8 s_9 =>
  optK (unaryA .not v_8) fun v_10 =>
  boolK v_10
   (vc_container_heap_down_j0 X i01 i7 K s_9)
   (methK Try.prog X h0 "Swap" [i7, j9] (fun v_11 s_12 =>
    ∃ m', m' < m1 ∧ I1 [j9] s_12 m') s_9)) s
def vc_container_heap_down_j3 (X : Told) (h0 : AVal) (i01 : AVal) (i7 : AVal) (j9 : AVal) (j210 : AVal) (t28 : AVal) (t32 : AVal) (I1 : List AVal → Heap → Nat → Prop) (m1 : Nat) (K : AVal → Heap → Prop) (s : Heap) : Prop :=
  optK (pickV t28 t32 (.bool false)) fun v_7 =>
  boolK v_7
   (vc_container_heap_down_j4 X h0 i01 i7 j210 I1 m1 K s)
   (vc_container_heap_down_j4 X h0 i01 i7 j9 I1 m1 K s)
def vc_container_heap_down_j2 (X : Told) (h0 : AVal) (i01 : AVal) (n2 : AVal) (i7 : AVal) (j18 : AVal) (t18 : AVal) (t20 : AVal) (I1 : List AVal → Heap → Nat → Prop) (m1 : Nat) (K : AVal → Heap → Prop) (s : Heap) : Prop :=
  optK (pickV t18 (.bool true) t20) fun v_4 =>
  boolK v_4
   (vc_container_heap_down_j0 X i01 i7 K s)
   (optK (arithV .add j18 (.int .i64 1)) fun v_5 =>
    optK (arithV .lss v_5 n2) fun v_6 =>
    boolK v_6
     (methK Try.prog X h0 "Less" [v_5, j18] (fun v_13 s_14 =>
      vc_container_heap_down_j3 X h0 i01 i7 j18 v_5 v_6 v_13 I1 m1 K s_14) s)
     (vc_container_heap_down_j3 X h0 i01 i7 j18 v_5 v_6 .undef I1 m1 K s))
def vc_container_heap_down_l1 (X : Told) (h0 : AVal) (i01 : AVal) (n2 : AVal) (i7 : AVal) (I1 : List AVal → Heap → Nat → Prop) (m1 : Nat) (K : AVal → Heap → Prop) (s : Heap) : Prop :=
  optK (arithV .mul (.int .i64 2) i7) fun v_1 =>
  optK (arithV .add v_1 (.int .i64 1)) fun v_2 =>
  optK (arithV .geq v_2 n2) fun v_3 =>
  boolK v_3
   (vc_container_heap_down_j2 X h0 i01 n2 i7 v_2 v_3 .undef I1 m1 K s)
   (optK (arithV .lss v_2 (.int .i64 0)) fun v_15 =>
    vc_container_heap_down_j2 X h0 i01 n2 i7 v_2 v_3 v_15 I1 m1 K s)
def vc_container_heap_down (X : Told) (h0 : AVal) (i01 : AVal) (n2 : AVal) (K : AVal → Heap → Prop) (s : Heap) : Prop :=
  ∃ I1 : List AVal → Heap → Nat → Prop, (∃ m, I1 [i01] s m) ∧ ∀ (f : Env) (s : Heap) (m1 : Nat), I1 [f 7] s m1 →
    vc_container_heap_down_l1 X h0 i01 n2 (f 7) I1 m1 K s
def vc_container_heap_down_ann : Nat → List Nat := fun k => cond (Nat.beq k 4) [7] ([])
theorem vc_container_heap_down_eq (X : Told) (h0 : AVal) (i01 : AVal) (n2 : AVal) (K : AVal → Heap → Prop) (s : Heap) : wpC Try.prog X vc_container_heap_down_ann Try.f56.ntmps none (bodyOf Try.f56) (envOf [h0, i01, n2]) (fun e env s => retK e (resK Try.prog Try.f56.results.toList env (fun vs => K (oneV vs) s) s)) s = vc_container_heap_down X h0 i01 n2 K s := by kernel_rfl
theorem vc_container_heap_down_ok {X : Told} (hX : FrX X) (hn : X 56 = none) {h0 : AVal} {i01 : AVal} {n2 : AVal} {K : AVal → Heap → Prop} {s : Heap} (h : vc_container_heap_down X h0 i01 n2 K s) : wpCall Try.prog X 56 [h0, i01, n2] K s :=
  wpCall_code hX vc_container_heap_down_ann hn Try.func56 (by kernel_rfl : Try.f56.body = some (bodyOf Try.f56)) (by kernel_rfl) ((vc_container_heap_down_eq X h0 i01 n2 K s).mpr h)
theorem vc_container_heap_down_in {h0 : AVal} {i01 : AVal} {n2 : AVal} {K : AVal → Heap → Prop} {s : Heap} (h : vc_container_heap_down XX h0 i01 n2 K s) : wpCall Try.prog XX 56 [h0, i01, n2] K s := vc_container_heap_down_ok (closedX_fr _) rfl h
/-- container/heap.up (57) -/
def vc_container_heap_up_j1 (X : Told) (h0 : AVal) (j1 : AVal) (i4 : AVal) (t11 : AVal) (t16 : AVal) (I0 : List AVal → Heap → Nat → Prop) (m0 : Nat) (K : AVal → Heap → Prop) (s : Heap) : Prop :=
  optK (pickV t11 (.bool true) t16) fun v_3 =>
  boolK v_3
   (K (.tup []) s)
   (methK Try.prog X h0 "Swap" [i4, j1] (fun v_4 s_5 =>
    ∃ m', m' < m0 ∧ I0 [i4] s_5 m') s)
def vc_container_heap_up_l0 (X : Told) (h0 : AVal) (j1 : AVal) (I0 : List AVal → Heap → Nat → Prop) (m0 : Nat) (K : AVal → Heap → Prop) (s : Heap) : Prop :=
  optK (arithV .sub j1 (.int .i64 1)) fun v_0 =>
  optK (arithV .quo v_0 (.int .i64 2)) fun v_1 =>
  optK (negB false (eqV 0 false v_1 j1)) fun v_2 =>
  boolK v_2
   (vc_container_heap_up_j1 X h0 j1 v_1 v_2 .undef I0 m0 K s)
   (methK Try.prog X h0 "Less" [j1, v_1] (fun v_6 s_7 =>
    optK (unaryA .not v_6) fun v_8 =>
    vc_container_heap_up_j1 X h0 j1 v_1 v_2 v_8 I0 m0 K s_7) s)
def vc_container_heap_up (X : Told) (h0 : AVal) (j1 : AVal) (K : AVal → Heap → Prop) (s : Heap) : Prop :=
  ∃ I0 : List AVal → Heap → Nat → Prop, (∃ m, I0 [j1] s m) ∧ ∀ (f : Env) (s : Heap) (m0 : Nat), I0 [f 1] s m0 →
    vc_container_heap_up_l0 X h0 (f 1) I0 m0 K s
def vc_container_heap_up_ann : Nat → List Nat := fun k => cond (Nat.beq k 0) [1] ([])
theorem vc_container_heap_up_eq (X : Told) (h0 : AVal) (j1 : AVal) (K : AVal → Heap → Prop) (s : Heap) : wpC Try.prog X vc_container_heap_up_ann Try.f57.ntmps none (bodyOf Try.f57) (envOf [h0, j1]) (fun e env s => retK e (resK Try.prog Try.f57.results.toList env (fun vs => K (oneV vs) s) s)) s = vc_container_heap_up X h0 j1 K s := by kernel_rfl
theorem vc_container_heap_up_ok {X : Told} (hX : FrX X) (hn : X 57 = none) {h0 : AVal} {j1 : AVal} {K : AVal → Heap → Prop} {s : Heap} (h : vc_container_heap_up X h0 j1 K s) : wpCall Try.prog X 57 [h0, j1] K s :=
  wpCall_code hX vc_container_heap_up_ann hn Try.func57 (by kernel_rfl : Try.f57.body = some (bodyOf Try.f57)) (by kernel_rfl) ((vc_container_heap_up_eq X h0 j1 K s).mpr h)
theorem vc_container_heap_up_in {h0 : AVal} {j1 : AVal} {K : AVal → Heap → Prop} {s : Heap} (h : vc_container_heap_up XX h0 j1 K s) : wpCall Try.prog XX 57 [h0, j1] K s := vc_container_heap_up_ok (closedX_fr _) rfl h
/-- leafmesh/leafmeshkit.Own[int] (24) -/
def vc_leafmeshkit_Own_int_ (X : Told) (l0 : AVal) (K : AVal → Heap → Prop) (s : Heap) : Prop :=
  optK (fillR (repl 0 [(.int .i64 0)]) []) fun c_0 => allOne c_0 = true ∧ newK 3 c_0 (fun b_1 s_2 =>
  appK 3 1 (.slc b_1 0 0 (some 0) 1) l0 (fun v_3 s_4 =>
  K v_3 s_4) s_2) s
def vc_leafmeshkit_Own_int__ann : Nat → List Nat := fun _ => []
theorem vc_leafmeshkit_Own_int__eq (X : Told) (l0 : AVal) (K : AVal → Heap → Prop) (s : Heap) : wpC Try.prog X vc_leafmeshkit_Own_int__ann Try.f24.ntmps none (bodyOf Try.f24) (envOf [l0]) (fun e env s => retK e (resK Try.prog Try.f24.results.toList env (fun vs => K (oneV vs) s) s)) s = vc_leafmeshkit_Own_int_ X l0 K s := by kernel_rfl
theorem vc_leafmeshkit_Own_int__ok {X : Told} (hX : FrX X) (hn : X 24 = none) {l0 : AVal} {K : AVal → Heap → Prop} {s : Heap} (h : vc_leafmeshkit_Own_int_ X l0 K s) : wpCall Try.prog X 24 [l0] K s :=
  wpCall_code hX vc_leafmeshkit_Own_int__ann hn Try.func24 (by kernel_rfl : Try.f24.body = some (bodyOf Try.f24)) (by kernel_rfl) ((vc_leafmeshkit_Own_int__eq X l0 K s).mpr h)
theorem vc_leafmeshkit_Own_int__in {l0 : AVal} {K : AVal → Heap → Prop} {s : Heap} (h : vc_leafmeshkit_Own_int_ XX l0 K s) : wpCall Try.prog XX 24 [l0] K s := vc_leafmeshkit_Own_int__ok (closedX_fr _) rfl h
end Go.AM
set_option linter.unusedVariables false
namespace Go.AM
open Go Go.Proofs
set_option maxRecDepth 100000
/-- leafmesh/leafmeshlaw11.SpreadSets (7) -/
def vc_leafmeshlaw11_SpreadSets_l4 (X : Told) (hash2 : AVal) (w7 : AVal) (o9 : AVal) (i11 : AVal) (t13 : AVal) (k16 : AVal) (I4 : List AVal → Heap → Nat → Prop) (m4 : Nat) (I1 : List AVal → Heap → Nat → Prop) (m1 : Nat) (K : AVal → Heap → Prop) (s : Heap) : Prop :=
  optK (lenOfA t13) fun v_46 =>
  optK (arithV .lss k16 (.int .i64 v_46)) fun v_48 =>
  boolK v_48
   (optK (iaddrS 1 t13 k16) fun v_49 =>
    optK (wr1 s v_49 (.int .i64 (-9))) fun s_50 =>
    optK (arithV .add k16 (.int .i64 1)) fun v_51 =>
    ∃ m', m' < m4 ∧ I4 [v_51] s_50 m')
   (optK (convI .u64 i11) fun v_52 =>
    optK (arithV .add hash2 v_52) fun v_53 =>
    wpCall Try.prog X 26 [w7, o9, v_53] (fun v_54 s_55 =>
    optK (unaryA .not v_54) fun v_56 =>
    boolK v_56
     (K (.bool false) s_55)
     (optK (arithV .add i11 (.int .i64 1)) fun v_57 =>
      ∃ m', m' < m1 ∧ I1 [w7, o9, v_57] s_55 m')) s)
def vc_leafmeshlaw11_SpreadSets_j3 (X : Told) (hash2 : AVal) (w7 : AVal) (o9 : AVal) (i11 : AVal) (t13 : AVal) (t89 : AVal) (t96 : AVal) (I1 : List AVal → Heap → Nat → Prop) (m1 : Nat) (K : AVal → Heap → Prop) (s : Heap) : Prop :=
  optK (pickV t89 (.bool true) t96) fun v_45 =>
  boolK v_45
   (K (.bool false) s)
   (∃ I4 : List AVal → Heap → Nat → Prop, (∃ m, I4 [(.int .i64 0)] s m) ∧ ∀ (f : Env) (s : Heap) (m4 : Nat), I4 [f 16] s m4 →
      vc_leafmeshlaw11_SpreadSets_l4 X hash2 w7 o9 i11 t13 (f 16) I4 m4 I1 m1 K s)
def vc_leafmeshlaw11_SpreadSets_j2 (X : Told) (l1 : AVal) (hash2 : AVal) (w7 : AVal) (o9 : AVal) (i11 : AVal) (I1 : List AVal → Heap → Nat → Prop) (m1 : Nat) (K : AVal → Heap → Prop) (s : Heap) : Prop :=
  optK (iaddrS 1 l1 i11) fun v_33 =>
  optK (rd1 s v_33) fun v_34 =>
  wpCall Try.prog X 24 [v_34] (fun v_35 s_36 =>
  ∃ h_37 : Heap, (∀ b, h_37 b ≠ none → s_36 b ≠ none) ∧
  wpCall Try.prog X 14 [w7, v_35] (fun v_38 s_39 =>
  (∀ b, s_36 b ≠ none → (minus s_36 h_37) b = none → s_39 b = none) →
  optK (iaddrS 1 l1 i11) fun v_40 =>
  optK (rd1 (cutH [(h_37, fullH)] (add s_39 (rest s_36 (minus s_36 h_37)))) v_40) fun v_41 =>
  wpCall Try.prog X 29 [o9, v_41] (fun v_42 s_43 =>
  optK (negB true (eqV 0 false v_38 v_42)) fun v_44 =>
  boolK v_44
   (vc_leafmeshlaw11_SpreadSets_j3 X hash2 w7 o9 i11 v_35 v_44 .undef I1 m1 K s_43)
   (optK (iaddrS 1 l1 i11) fun v_58 =>
    optK (rd1 s_43 v_58) fun v_59 =>
    wpCall Try.prog X 12 [v_35, v_59] (fun v_60 s_61 =>
    optK (unaryA .not v_60) fun v_62 =>
    vc_leafmeshlaw11_SpreadSets_j3 X hash2 w7 o9 i11 v_35 v_44 v_62 I1 m1 K s_61) s_43)) (add s_39 (rest s_36 (minus s_36 h_37)))) (minus s_36 h_37)) s
def vc_leafmeshlaw11_SpreadSets_l1 (X : Told) (l1 : AVal) (hash2 : AVal) (w7 : AVal) (o9 : AVal) (i11 : AVal) (I1 : List AVal → Heap → Nat → Prop) (m1 : Nat) (K : AVal → Heap → Prop) (s : Heap) : Prop :=
  optK (lenOfA l1) fun v_21 =>
  optK (arithV .lss i11 (.int .i64 v_21)) fun v_23 =>
  boolK v_23
   (optK (iaddrS 1 l1 i11) fun v_24 =>
    optK (rd1 s v_24) fun v_25 =>
    optK (lenOfA v_25) fun v_26 =>
    optK (arithV .gtr (.int .i64 v_26) (.int .i64 140)) fun v_28 =>
    boolK v_28
     (wpCall Try.prog X 17 [] (fun v_29 s_30 =>
      K v_29 s_30) s)
     (optK (arithV .rem i11 (.int .i64 3)) fun v_31 =>
      optK (negB false (eqV 0 true v_31 (.int .i64 2))) fun v_32 =>
      boolK v_32
       (wpCall Try.prog X 27 [w7] (fun v_63 s_64 =>
        wpCall Try.prog X 28 [o9] (fun v_65 s_66 =>
        wpCall Try.prog X 14 [w7, .nilslc] (fun v_67 s_68 =>
        vc_leafmeshlaw11_SpreadSets_j2 X l1 hash2 v_63 v_65 i11 I1 m1 K s_68) s_66) s_64) s)
       (vc_leafmeshlaw11_SpreadSets_j2 X l1 hash2 w7 o9 i11 I1 m1 K s)))
   (wpCall Try.prog X 17 [] (fun v_69 s_70 =>
    K v_69 s_70) s)
def vc_leafmeshlaw11_SpreadSets_j0 (X : Told) (l1 : AVal) (hash2 : AVal) (w7 : AVal) (o9 : AVal) (t34 : AVal) (t39 : AVal) (K : AVal → Heap → Prop) (s : Heap) : Prop :=
  optK (pickV t34 (.bool true) t39) fun v_14 =>
  boolK v_14
   (K (.bool false) s)
   (optK (negB false (eqV 3 true o9 .nilptr)) fun v_15 =>
    boolK v_15
     (wpCall Try.prog X 17 [] (fun v_16 s_17 =>
      K v_16 s_17) s)
     (wpCall Try.prog X 26 [w7, o9, hash2] (fun v_18 s_19 =>
      optK (unaryA .not v_18) fun v_20 =>
      boolK v_20
       (K (.bool false) s_19)
       (∃ I1 : List AVal → Heap → Nat → Prop, (∃ m, I1 [w7, o9, (.int .i64 0)] s_19 m) ∧ ∀ (f : Env) (s : Heap) (m1 : Nat), I1 [f 7, f 9, f 11] s m1 →
          vc_leafmeshlaw11_SpreadSets_l1 X l1 hash2 (f 7) (f 9) (f 11) I1 m1 K s)) s))
def vc_leafmeshlaw11_SpreadSets (X : Told) (buckets0 : AVal) (l1 : AVal) (hash2 : AVal) (K : AVal → Heap → Prop) (s : Heap) : Prop :=
  optK (lenOfA l1) fun v_0 =>
  optK (arithV .gtr (.int .i64 v_0) (.int .i64 12)) fun v_2 =>
  boolK v_2
   (wpCall Try.prog X 17 [] (fun v_3 s_4 =>
    K v_3 s_4) s)
   (wpCall Try.prog X 10 [buckets0] (fun v_5 s_6 =>
    optK (extractA v_5 0) fun v_7 =>
    optK (extractA v_5 1) fun v_8 =>
    wpCall Try.prog X 25 [buckets0] (fun v_9 s_10 =>
    optK (extractA v_9 0) fun v_11 =>
    optK (extractA v_9 1) fun v_12 =>
    optK (negB true (eqV 0 false v_8 v_12)) fun v_13 =>
    boolK v_13
     (vc_leafmeshlaw11_SpreadSets_j0 X l1 hash2 v_7 v_11 v_13 .undef K s_10)
     (optK (negB false (eqV 3 true v_7 .nilptr)) fun v_71 =>
      optK (negB false (eqV 3 true v_11 .nilptr)) fun v_72 =>
      optK (negB true (eqV 1 false v_71 v_72)) fun v_73 =>
      vc_leafmeshlaw11_SpreadSets_j0 X l1 hash2 v_7 v_11 v_13 v_73 K s_10)) s_6) s)
def vc_leafmeshlaw11_SpreadSets_ann : Nat → List Nat := fun k => cond (Nat.beq k 24) [7, 9, 11] (cond (Nat.beq k 1000077) [2] (cond (Nat.beq k 50) [16] ([])))
theorem vc_leafmeshlaw11_SpreadSets_eq (X : Told) (buckets0 : AVal) (l1 : AVal) (hash2 : AVal) (K : AVal → Heap → Prop) (s : Heap) : wpC Try.prog X vc_leafmeshlaw11_SpreadSets_ann Try.f7.ntmps none (bodyOf Try.f7) (envOf [buckets0, l1, hash2]) (fun e env s => retK e (resK Try.prog Try.f7.results.toList env (fun vs => K (oneV vs) s) s)) s = vc_leafmeshlaw11_SpreadSets X buckets0 l1 hash2 K s := by kernel_rfl
theorem vc_leafmeshlaw11_SpreadSets_ok {X : Told} (hX : FrX X) (hn : X 7 = none) {buckets0 : AVal} {l1 : AVal} {hash2 : AVal} {K : AVal → Heap → Prop} {s : Heap} (h : vc_leafmeshlaw11_SpreadSets X buckets0 l1 hash2 K s) : wpCall Try.prog X 7 [buckets0, l1, hash2] K s :=
  wpCall_code hX vc_leafmeshlaw11_SpreadSets_ann hn Try.func7 (by kernel_rfl : Try.f7.body = some (bodyOf Try.f7)) (by kernel_rfl) ((vc_leafmeshlaw11_SpreadSets_eq X buckets0 l1 hash2 K s).mpr h)
theorem vc_leafmeshlaw11_SpreadSets_in {buckets0 : AVal} {l1 : AVal} {hash2 : AVal} {K : AVal → Heap → Prop} {s : Heap} (h : vc_leafmeshlaw11_SpreadSets XX buckets0 l1 hash2 K s) : wpCall Try.prog XX 7 [buckets0, l1, hash2] K s := vc_leafmeshlaw11_SpreadSets_ok (closedX_fr _) rfl h
/-- leafmesh/leafmeshlaw11.same (26) -/
def vc_leafmeshlaw11_same_j5 (X : Told) (t97 : AVal) (t100 : AVal) (K : AVal → Heap → Prop) (s : Heap) : Prop :=
  optK (pickV t97 t100 (.bool false)) fun v_49 =>
  K v_49 s
def vc_leafmeshlaw11_same_j4 (X : Told) (w0 : AVal) (t92 : AVal) (t95 : AVal) (K : AVal → Heap → Prop) (s : Heap) : Prop :=
  optK (pickV t92 t95 (.bool false)) fun v_48 =>
  boolK v_48
   (wpCall Try.prog X 20 [w0, (.int .i64 128)] (fun v_50 s_51 =>
    optK (negB false (eqV 0 true v_50 (.int .i64 0))) fun v_52 =>
    vc_leafmeshlaw11_same_j5 X v_48 v_52 K s_51) s)
   (vc_leafmeshlaw11_same_j5 X v_48 .undef K s)
def vc_leafmeshlaw11_same_j3 (X : Told) (w0 : AVal) (t87 : AVal) (t90 : AVal) (K : AVal → Heap → Prop) (s : Heap) : Prop :=
  optK (pickV t87 t90 (.bool false)) fun v_47 =>
  boolK v_47
   (wpCall Try.prog X 20 [w0, (.int .i64 (-1))] (fun v_53 s_54 =>
    optK (negB false (eqV 0 true v_53 (.int .i64 0))) fun v_55 =>
    vc_leafmeshlaw11_same_j4 X w0 v_47 v_55 K s_54) s)
   (vc_leafmeshlaw11_same_j4 X w0 v_47 .undef K s)
def vc_leafmeshlaw11_same_l2 (X : Told) (w0 : AVal) (o1 : AVal) (hash2 : AVal) (t8 : AVal) (i10 : AVal) (I2 : List AVal → Heap → Nat → Prop) (m2 : Nat) (K : AVal → Heap → Prop) (s : Heap) : Prop :=
  optK (lenOfA t8) fun v_17 =>
  optK (arithV .lss i10 (.int .i64 v_17)) fun v_19 =>
  boolK v_19
   (optK (nilCheckA o1) fun v_20 =>
    optK (addOff 0 v_20) fun v_21 =>
    optK (rd1 s v_21) fun v_22 =>
    optK (iaddrS 1 v_22 i10) fun v_23 =>
    optK (rd1 s v_23) fun v_24 =>
    wpCall Try.prog X 20 [w0, v_24] (fun v_25 s_26 =>
    (∀ b, s b ≠ none → s b = none → s_26 b = none) →
    optK (nilCheckA o1) fun v_27 =>
    optK (addOff 0 v_27) fun v_28 =>
    optK (rd1 (cutH [(s, (add s s_26))] (add s s_26)) v_28) fun v_29 =>
    optK (iaddrS 1 v_29 i10) fun v_30 =>
    optK (rd1 (cutH [(s, (add s s_26))] (add s s_26)) v_30) fun v_31 =>
    wpCall Try.prog X 38 [o1, v_31] (fun v_32 s_33 =>
    optK (negB true (eqV 0 false v_25 v_32)) fun v_34 =>
    boolK v_34
     (K (.bool false) s_33)
     (optK (iaddrS 1 t8 i10) fun v_35 =>
      optK (wr1 s_33 v_35 (.int .i64 (-77))) fun s_36 =>
      optK (arithV .add i10 (.int .i64 1)) fun v_37 =>
      ∃ m', m' < m2 ∧ I2 [v_37] s_36 m')) (add s s_26)) (frz s))
   (wpCall Try.prog X 11 [w0, hash2] (fun v_38 s_39 =>
    optK (extractA v_38 0) fun v_40 =>
    optK (extractA v_38 1) fun v_41 =>
    wpCall Try.prog X 39 [o1, hash2] (fun v_42 s_43 =>
    optK (extractA v_42 0) fun v_44 =>
    optK (extractA v_42 1) fun v_45 =>
    optK (negB false (eqV 0 false v_40 v_44)) fun v_46 =>
    boolK v_46
     (optK (negB false (eqV 1 false v_41 v_45)) fun v_56 =>
      vc_leafmeshlaw11_same_j3 X w0 v_46 v_56 K s_43)
     (vc_leafmeshlaw11_same_j3 X w0 v_46 .undef K s_43)) s_39) s)
def vc_leafmeshlaw11_same_l1 (X : Told) (w0 : AVal) (o1 : AVal) (hash2 : AVal) (b7 : AVal) (t8 : AVal) (i9 : AVal) (I1 : List AVal → Heap → Nat → Prop) (m1 : Nat) (K : AVal → Heap → Prop) (s : Heap) : Prop :=
  optK (lenOfA b7) fun v_11 =>
  optK (arithV .lss i9 (.int .i64 v_11)) fun v_13 =>
  boolK v_13
   (optK (iaddrS 1 b7 i9) fun v_14 =>
    optK (wr1 s v_14 (.int .i64 (-77))) fun s_15 =>
    optK (arithV .add i9 (.int .i64 1)) fun v_16 =>
    ∃ m', m' < m1 ∧ I1 [v_16] s_15 m')
   (∃ I2 : List AVal → Heap → Nat → Prop, (∃ m, I2 [(.int .i64 0)] s m) ∧ ∀ (f : Env) (s : Heap) (m2 : Nat), I2 [f 10] s m2 →
      vc_leafmeshlaw11_same_l2 X w0 o1 hash2 t8 (f 10) I2 m2 K s)
def vc_leafmeshlaw11_same_j0 (X : Told) (w0 : AVal) (o1 : AVal) (hash2 : AVal) (b7 : AVal) (t8 : AVal) (t26 : AVal) (t33 : AVal) (K : AVal → Heap → Prop) (s : Heap) : Prop :=
  optK (pickV t26 (.bool true) t33) fun v_10 =>
  boolK v_10
   (K (.bool false) s)
   (∃ I1 : List AVal → Heap → Nat → Prop, (∃ m, I1 [(.int .i64 0)] s m) ∧ ∀ (f : Env) (s : Heap) (m1 : Nat), I1 [f 9] s m1 →
      vc_leafmeshlaw11_same_l1 X w0 o1 hash2 b7 t8 (f 9) I1 m1 K s)
def vc_leafmeshlaw11_same (X : Told) (w0 : AVal) (o1 : AVal) (hash2 : AVal) (K : AVal → Heap → Prop) (s : Heap) : Prop :=
  wpCall Try.prog X 13 [w0] (fun v_0 s_1 =>
  wpCall Try.prog X 16 [w0] (fun v_2 s_3 =>
  optK (nilCheckA o1) fun v_4 =>
  optK (addOff 1 v_4) fun v_5 =>
  optK (rd1 s_3 v_5) fun v_6 =>
  wpCall Try.prog X 12 [v_0, v_6] (fun v_7 s_8 =>
  optK (unaryA .not v_7) fun v_9 =>
  boolK v_9
   (vc_leafmeshlaw11_same_j0 X w0 o1 hash2 v_0 v_2 v_9 .undef K s_8)
   (optK (nilCheckA o1) fun v_57 =>
    optK (addOff 0 v_57) fun v_58 =>
    optK (rd1 s_8 v_58) fun v_59 =>
    wpCall Try.prog X 12 [v_2, v_59] (fun v_60 s_61 =>
    optK (unaryA .not v_60) fun v_62 =>
    vc_leafmeshlaw11_same_j0 X w0 o1 hash2 v_0 v_2 v_9 v_62 K s_61) s_8)) s_3) s_1) s
def vc_leafmeshlaw11_same_ann : Nat → List Nat := fun k => cond (Nat.beq k 10) [9] (cond (Nat.beq k 18) [10] ([]))
theorem vc_leafmeshlaw11_same_eq (X : Told) (w0 : AVal) (o1 : AVal) (hash2 : AVal) (K : AVal → Heap → Prop) (s : Heap) : wpC Try.prog X vc_leafmeshlaw11_same_ann Try.f26.ntmps none (bodyOf Try.f26) (envOf [w0, o1, hash2]) (fun e env s => retK e (resK Try.prog Try.f26.results.toList env (fun vs => K (oneV vs) s) s)) s = vc_leafmeshlaw11_same X w0 o1 hash2 K s := by kernel_rfl
theorem vc_leafmeshlaw11_same_ok {X : Told} (hX : FrX X) (hn : X 26 = none) {w0 : AVal} {o1 : AVal} {hash2 : AVal} {K : AVal → Heap → Prop} {s : Heap} (h : vc_leafmeshlaw11_same X w0 o1 hash2 K s) : wpCall Try.prog X 26 [w0, o1, hash2] K s :=
  wpCall_code hX vc_leafmeshlaw11_same_ann hn Try.func26 (by kernel_rfl : Try.f26.body = some (bodyOf Try.f26)) (by kernel_rfl) ((vc_leafmeshlaw11_same_eq X w0 o1 hash2 K s).mpr h)
theorem vc_leafmeshlaw11_same_in {w0 : AVal} {o1 : AVal} {hash2 : AVal} {K : AVal → Heap → Prop} {s : Heap} (h : vc_leafmeshlaw11_same XX w0 o1 hash2 K s) : wpCall Try.prog XX 26 [w0, o1, hash2] K s := vc_leafmeshlaw11_same_ok (closedX_fr _) rfl h
/-- leafmesh/leafmeshref11.New (25) -/
def vc_leafmeshref11_New_l1 (X : Told) (buckets0 : AVal) (w4 : AVal) (i5 : AVal) (I1 : List AVal → Heap → Nat → Prop) (m1 : Nat) (K : AVal → Heap → Prop) (s : Heap) : Prop :=
  optK (arithV .lss i5 buckets0) fun v_5 =>
  boolK v_5
   (optK (nilCheckA w4) fun v_6 =>
    optK (addOff 1 v_6) fun v_7 =>
    optK (rd1 s v_7) fun v_8 =>
    optK (fillR (repl 1 [(.int .i64 0)]) [(0, 1, (.int .i64 (-1)))]) fun c_9 => allOne c_9 = true ∧ newK 3 c_9 (fun b_10 s_11 =>
    appK 3 1 v_8 (.slc b_10 0 1 (some 1) 1) (fun v_12 s_13 =>
    optK (nilCheckA w4) fun v_14 =>
    optK (addOff 1 v_14) fun v_15 =>
    optK (wr1 s_13 v_15 v_12) fun s_16 =>
    optK (arithV .add i5 (.int .i64 1)) fun v_17 =>
    ∃ m', m' < m1 ∧ I1 [v_17] s_16 m') s_11) s)
   (K (.tup [w4, (.int .i64 0)]) s)
def vc_leafmeshref11_New_j0 (X : Told) (buckets0 : AVal) (t8 : AVal) (t10 : AVal) (K : AVal → Heap → Prop) (s : Heap) : Prop :=
  optK (pickV t8 (.bool true) t10) fun v_1 =>
  boolK v_1
   (K (.tup [.nilptr, (.int .i64 2)]) s)
   (optK (fillR [.nilslc, .nilslc] []) fun c_2 =>
    boxK 75 (.agg c_2) (fun b_3 s_4 =>
    ∃ I1 : List AVal → Heap → Nat → Prop, (∃ m, I1 [(.int .i64 0)] s_4 m) ∧ ∀ (f : Env) (s : Heap) (m1 : Nat), I1 [f 5] s m1 →
      vc_leafmeshref11_New_l1 X buckets0 b_3 (f 5) I1 m1 K s) s)
def vc_leafmeshref11_New (X : Told) (buckets0 : AVal) (K : AVal → Heap → Prop) (s : Heap) : Prop :=
  optK (arithV .lss buckets0 (.int .i64 1)) fun v_0 =>
  boolK v_0
   (vc_leafmeshref11_New_j0 X buckets0 v_0 .undef K s)
   (optK (arithV .gtr buckets0 (.int .i64 256)) fun v_18 =>
    vc_leafmeshref11_New_j0 X buckets0 v_0 v_18 K s)
def vc_leafmeshref11_New_ann : Nat → List Nat := fun k => cond (Nat.beq k 10) [5] ([])
theorem vc_leafmeshref11_New_eq (X : Told) (buckets0 : AVal) (K : AVal → Heap → Prop) (s : Heap) : wpC Try.prog X vc_leafmeshref11_New_ann Try.f25.ntmps none (bodyOf Try.f25) (envOf [buckets0]) (fun e env s => retK e (resK Try.prog Try.f25.results.toList env (fun vs => K (oneV vs) s) s)) s = vc_leafmeshref11_New X buckets0 K s := by kernel_rfl
theorem vc_leafmeshref11_New_ok {X : Told} (hX : FrX X) (hn : X 25 = none) {buckets0 : AVal} {K : AVal → Heap → Prop} {s : Heap} (h : vc_leafmeshref11_New X buckets0 K s) : wpCall Try.prog X 25 [buckets0] K s :=
  wpCall_code hX vc_leafmeshref11_New_ann hn Try.func25 (by kernel_rfl : Try.f25.body = some (bodyOf Try.f25)) (by kernel_rfl) ((vc_leafmeshref11_New_eq X buckets0 K s).mpr h)
theorem vc_leafmeshref11_New_in {buckets0 : AVal} {K : AVal → Heap → Prop} {s : Heap} (h : vc_leafmeshref11_New XX buckets0 K s) : wpCall Try.prog XX 25 [buckets0] K s := vc_leafmeshref11_New_ok (closedX_fr _) rfl h
/-- (*leafmesh/leafmeshref11.Wheel).Copy (28) -/
def vc_leafmeshref11_Wheel_Copy (X : Told) (w0 : AVal) (K : AVal → Heap → Prop) (s : Heap) : Prop :=
  optK (fillR (repl 0 [(.int .i64 0)]) []) fun c_0 => allOne c_0 = true ∧ newK 3 c_0 (fun b_1 s_2 =>
  (∀ b, s b ≠ none → s b = none → s_2 b = none) →
  optK (nilCheckA w0) fun v_3 =>
  optK (addOff 0 v_3) fun v_4 =>
  optK (rd1 (cutH [(s, (add s s_2))] (add s s_2)) v_4) fun v_5 =>
  appK 3 1 (.slc b_1 0 0 (some 0) 1) v_5 (fun v_6 s_7 =>
  (∀ b, (add s s_2) b ≠ none → (add s s_2) b = none → s_7 b = none) →
  optK (fillR (repl 0 [(.int .i64 0)]) []) fun c_8 => allOne c_8 = true ∧ newK 3 c_8 (fun b_9 s_10 =>
  (∀ b, (add (add s s_2) s_7) b ≠ none → (cutH [(s, (add s s_2)), ((add s s_2), (add (add s s_2) s_7))] (add (add s s_2) s_7)) b = none → s_10 b = none) →
  optK (nilCheckA w0) fun v_11 =>
  optK (addOff 1 v_11) fun v_12 =>
  optK (rd1 (cutH [(s, (add s s_2)), ((add s s_2), (add (add s s_2) s_7)), ((add (add s s_2) s_7), (add (add (add s s_2) s_7) s_10))] (add (add (add s s_2) s_7) s_10)) v_12) fun v_13 =>
  appK 3 1 (.slc b_9 0 0 (some 0) 1) v_13 (fun v_14 s_15 =>
  optK (fillR [.nilslc, .nilslc] [(0, 1, v_6), (1, 1, v_14)]) fun c_16 =>
  boxK 75 (.agg c_16) (fun b_17 s_18 =>
  K b_17 s_18) s_15) (add (add (add s s_2) s_7) s_10)) (frz (cutH [(s, (add s s_2)), ((add s s_2), (add (add s s_2) s_7))] (add (add s s_2) s_7)))) (frz (add s s_2))) (frz s)
def vc_leafmeshref11_Wheel_Copy_ann : Nat → List Nat := fun _ => []
theorem vc_leafmeshref11_Wheel_Copy_eq (X : Told) (w0 : AVal) (K : AVal → Heap → Prop) (s : Heap) : wpC Try.prog X vc_leafmeshref11_Wheel_Copy_ann Try.f28.ntmps none (bodyOf Try.f28) (envOf [w0]) (fun e env s => retK e (resK Try.prog Try.f28.results.toList env (fun vs => K (oneV vs) s) s)) s = vc_leafmeshref11_Wheel_Copy X w0 K s := by kernel_rfl
theorem vc_leafmeshref11_Wheel_Copy_ok {X : Told} (hX : FrX X) (hn : X 28 = none) {w0 : AVal} {K : AVal → Heap → Prop} {s : Heap} (h : vc_leafmeshref11_Wheel_Copy X w0 K s) : wpCall Try.prog X 28 [w0] K s :=
  wpCall_code hX vc_leafmeshref11_Wheel_Copy_ann hn Try.func28 (by kernel_rfl : Try.f28.body = some (bodyOf Try.f28)) (by kernel_rfl) ((vc_leafmeshref11_Wheel_Copy_eq X w0 K s).mpr h)
theorem vc_leafmeshref11_Wheel_Copy_in {w0 : AVal} {K : AVal → Heap → Prop} {s : Heap} (h : vc_leafmeshref11_Wheel_Copy XX w0 K s) : wpCall Try.prog XX 28 [w0] K s := vc_leafmeshref11_Wheel_Copy_ok (closedX_fr _) rfl h
/-- (*leafmesh/leafmeshref11.Wheel).Set (29) -/
def vc_leafmeshref11_Wheel_Set_j2 (X : Told) (i5 : AVal) (t32 : AVal) (t42 : AVal) (I0 : List AVal → Heap → Nat → Prop) (m0 : Nat) (K : AVal → Heap → Prop) (s : Heap) : Prop :=
  optK (pickV t32 t42 (.bool false)) fun v_8 =>
  boolK v_8
   (K (.int .i64 10) s)
   (optK (arithV .add i5 (.int .i64 1)) fun v_9 =>
    ∃ m', m' < m0 ∧ I0 [v_9] s m')
def vc_leafmeshref11_Wheel_Set_j1 (X : Told) (next1 : AVal) (i5 : AVal) (t23 : AVal) (t28 : AVal) (I0 : List AVal → Heap → Nat → Prop) (m0 : Nat) (K : AVal → Heap → Prop) (s : Heap) : Prop :=
  optK (pickV t23 (.bool true) t28) fun v_6 =>
  boolK v_6
   (K (.int .i64 2) s)
   (optK (arithV .gtr i5 (.int .i64 0)) fun v_7 =>
    boolK v_7
     (optK (iaddrS 1 next1 i5) fun v_10 =>
      optK (rd1 s v_10) fun v_11 =>
      optK (arithV .sub i5 (.int .i64 1)) fun v_12 =>
      optK (iaddrS 1 next1 v_12) fun v_13 =>
      optK (rd1 s v_13) fun v_14 =>
      optK (arithV .leq v_11 v_14) fun v_15 =>
      vc_leafmeshref11_Wheel_Set_j2 X i5 v_7 v_15 I0 m0 K s)
     (vc_leafmeshref11_Wheel_Set_j2 X i5 v_7 .undef I0 m0 K s))
def vc_leafmeshref11_Wheel_Set_j4 (X : Told) (i6 : AVal) (I3 : List AVal → Heap → Nat → Prop) (m3 : Nat) (K : AVal → Heap → Prop) (s : Heap) : Prop :=
  optK (arithV .add i6 (.int .i64 1)) fun v_49 =>
  ∃ m', m' < m3 ∧ I3 [v_49] s m'
def vc_leafmeshref11_Wheel_Set_j6 (X : Told) (i7 : AVal) (I5 : List AVal → Heap → Nat → Prop) (m5 : Nat) (K : AVal → Heap → Prop) (s : Heap) : Prop :=
  optK (arithV .add i7 (.int .i64 1)) fun v_70 =>
  ∃ m', m' < m5 ∧ I5 [v_70] s m'
def vc_leafmeshref11_Wheel_Set_j9 (X : Told) (t10 : AVal) (i11 : AVal) (I8 : List AVal → Heap → Nat → Prop) (m8 : Nat) (I7 : List AVal → Heap → Nat → Prop) (m7 : Nat) (K : AVal → Heap → Prop) (s : Heap) : Prop :=
  optK (arithV .add i11 (.int .i64 1)) fun v_104 =>
  ∃ m', m' < m8 ∧ I8 [t10, v_104] s m'
def vc_leafmeshref11_Wheel_Set_l8 (X : Told) (w0 : AVal) (t8 : AVal) (t9 : AVal) (t10 : AVal) (i11 : AVal) (I8 : List AVal → Heap → Nat → Prop) (m8 : Nat) (I7 : List AVal → Heap → Nat → Prop) (m7 : Nat) (K : AVal → Heap → Prop) (s : Heap) : Prop :=
  optK (nilCheckA w0) fun v_92 =>
  optK (addOff 1 v_92) fun v_93 =>
  optK (rd1 s v_93) fun v_94 =>
  optK (lenOfA v_94) fun v_95 =>
  optK (arithV .lss i11 (.int .i64 v_95)) fun v_97 =>
  boolK v_97
   (optK (nilCheckA w0) fun v_98 =>
    optK (addOff 1 v_98) fun v_99 =>
    optK (rd1 s v_99) fun v_100 =>
    optK (iaddrS 1 v_100 i11) fun v_101 =>
    optK (rd1 s v_101) fun v_102 =>
    optK (negB false (eqV 0 false v_102 t8)) fun v_103 =>
    boolK v_103
     (vc_leafmeshref11_Wheel_Set_j9 X i11 i11 I8 m8 I7 m7 K s)
     (vc_leafmeshref11_Wheel_Set_j9 X t10 i11 I8 m8 I7 m7 K s))
   (optK (nilCheckA w0) fun v_105 =>
    optK (addOff 1 v_105) fun v_106 =>
    optK (rd1 s v_106) fun v_107 =>
    optK (iaddrS 1 v_107 t10) fun v_108 =>
    optK (wr1 s v_108 t9) fun s_109 =>
    ∃ m', m' < m7 ∧ I7 [] s_109 m')
def vc_leafmeshref11_Wheel_Set_l7 (X : Told) (w0 : AVal) (I7 : List AVal → Heap → Nat → Prop) (m7 : Nat) (K : AVal → Heap → Prop) (s : Heap) : Prop :=
  wpCall Try.prog X 42 [w0] (fun v_78 s_79 =>
  wpCall Try.prog X 38 [w0, v_78] (fun v_80 s_81 =>
  wpCall Try.prog X 41 [w0] (fun v_82 s_83 =>
  wpCall Try.prog X 38 [w0, v_82] (fun v_84 s_85 =>
  optK (arithV .sub v_80 v_84) fun v_86 =>
  optK (arithV .gtr v_86 (.int .i64 1)) fun v_87 =>
  boolK v_87
   (wpCall Try.prog X 42 [w0] (fun v_88 s_89 =>
    wpCall Try.prog X 41 [w0] (fun v_90 s_91 =>
    ∃ I8 : List AVal → Heap → Nat → Prop, (∃ m, I8 [(.int .i64 0), (.int .i64 0)] s_91 m) ∧ ∀ (f : Env) (s : Heap) (m8 : Nat), I8 [f 10, f 11] s m8 →
      vc_leafmeshref11_Wheel_Set_l8 X w0 v_88 v_90 (f 10) (f 11) I8 m8 I7 m7 K s) s_89) s_85)
   (K (.int .i64 0) s_85)) s_83) s_81) s_79) s
def vc_leafmeshref11_Wheel_Set_l5 (X : Told) (w0 : AVal) (i7 : AVal) (I5 : List AVal → Heap → Nat → Prop) (m5 : Nat) (K : AVal → Heap → Prop) (s : Heap) : Prop :=
  optK (nilCheckA w0) fun v_58 =>
  optK (addOff 1 v_58) fun v_59 =>
  optK (rd1 s v_59) fun v_60 =>
  optK (lenOfA v_60) fun v_61 =>
  optK (arithV .lss i7 (.int .i64 v_61)) fun v_63 =>
  boolK v_63
   (optK (nilCheckA w0) fun v_64 =>
    optK (addOff 1 v_64) fun v_65 =>
    optK (rd1 s v_65) fun v_66 =>
    optK (iaddrS 1 v_66 i7) fun v_67 =>
    optK (rd1 s v_67) fun v_68 =>
    optK (arithV .lss v_68 (.int .i64 0)) fun v_69 =>
    boolK v_69
     (optK (nilCheckA w0) fun v_71 =>
      optK (addOff 1 v_71) fun v_72 =>
      optK (rd1 s v_72) fun v_73 =>
      wpCall Try.prog X 41 [w0] (fun v_74 s_75 =>
      (∀ b, s b ≠ none → s b = none → s_75 b = none) →
      optK (iaddrS 1 v_73 i7) fun v_76 =>
      optK (wr1 (add s s_75) v_76 v_74) fun s_77 =>
      vc_leafmeshref11_Wheel_Set_j6 X i7 I5 m5 K s_77) (frz s))
     (vc_leafmeshref11_Wheel_Set_j6 X i7 I5 m5 K s))
   (∃ I7 : List AVal → Heap → Nat → Prop, (∃ m, I7 [] s m) ∧ ∀ (f : Env) (s : Heap) (m7 : Nat), I7 [] s m7 →
      vc_leafmeshref11_Wheel_Set_l7 X w0 I7 m7 K s)
def vc_leafmeshref11_Wheel_Set_l3 (X : Told) (w0 : AVal) (next1 : AVal) (i6 : AVal) (I3 : List AVal → Heap → Nat → Prop) (m3 : Nat) (K : AVal → Heap → Prop) (s : Heap) : Prop :=
  optK (nilCheckA w0) fun v_35 =>
  optK (addOff 1 v_35) fun v_36 =>
  optK (rd1 s v_36) fun v_37 =>
  optK (lenOfA v_37) fun v_38 =>
  optK (arithV .lss i6 (.int .i64 v_38)) fun v_40 =>
  boolK v_40
   (optK (nilCheckA w0) fun v_41 =>
    optK (addOff 1 v_41) fun v_42 =>
    optK (rd1 s v_42) fun v_43 =>
    optK (iaddrS 1 v_43 i6) fun v_44 =>
    optK (rd1 s v_44) fun v_45 =>
    wpCall Try.prog X 40 [next1, v_45] (fun v_46 s_47 =>
    optK (unaryA .not v_46) fun v_48 =>
    boolK v_48
     (optK (nilCheckA w0) fun v_50 =>
      optK (addOff 1 v_50) fun v_51 =>
      optK (rd1 s_47 v_51) fun v_52 =>
      optK (iaddrS 1 v_52 i6) fun v_53 =>
      optK (wr1 s_47 v_53 (.int .i64 (-1))) fun s_54 =>
      vc_leafmeshref11_Wheel_Set_j4 X i6 I3 m3 K s_54)
     (vc_leafmeshref11_Wheel_Set_j4 X i6 I3 m3 K s_47)) s)
   (optK (lenOfA next1) fun v_55 =>
    optK (negB false (eqV 0 true (.int .i64 v_55) (.int .i64 0))) fun v_57 =>
    boolK v_57
     (K (.int .i64 0) s)
     (∃ I5 : List AVal → Heap → Nat → Prop, (∃ m, I5 [(.int .i64 0)] s m) ∧ ∀ (f : Env) (s : Heap) (m5 : Nat), I5 [f 7] s m5 →
        vc_leafmeshref11_Wheel_Set_l5 X w0 (f 7) I5 m5 K s))
def vc_leafmeshref11_Wheel_Set_l0 (X : Told) (w0 : AVal) (next1 : AVal) (i5 : AVal) (I0 : List AVal → Heap → Nat → Prop) (m0 : Nat) (K : AVal → Heap → Prop) (s : Heap) : Prop :=
  optK (lenOfA next1) fun v_0 =>
  optK (arithV .lss i5 (.int .i64 v_0)) fun v_2 =>
  boolK v_2
   (optK (iaddrS 1 next1 i5) fun v_3 =>
    optK (rd1 s v_3) fun v_4 =>
    optK (arithV .lss v_4 (.int .i64 0)) fun v_5 =>
    boolK v_5
     (vc_leafmeshref11_Wheel_Set_j1 X next1 i5 v_5 .undef I0 m0 K s)
     (optK (iaddrS 1 next1 i5) fun v_16 =>
      optK (rd1 s v_16) fun v_17 =>
      optK (arithV .geq v_17 (.int .i64 128)) fun v_18 =>
      vc_leafmeshref11_Wheel_Set_j1 X next1 i5 v_5 v_18 I0 m0 K s))
   (optK (lenOfA next1) fun v_19 =>
    optK (nilCheckA w0) fun v_21 =>
    optK (addOff 1 v_21) fun v_22 =>
    optK (rd1 s v_22) fun v_23 =>
    optK (lenOfA v_23) fun v_24 =>
    optK (arithV .gtr (.int .i64 v_19) (.int .i64 v_24)) fun v_26 =>
    boolK v_26
     (K (.int .i64 7) s)
     (optK (fillR (repl 0 [(.int .i64 0)]) []) fun c_27 => allOne c_27 = true ∧ newK 3 c_27 (fun b_28 s_29 =>
      appK 3 1 (.slc b_28 0 0 (some 0) 1) next1 (fun v_30 s_31 =>
      optK (nilCheckA w0) fun v_32 =>
      optK (addOff 0 v_32) fun v_33 =>
      optK (wr1 s_31 v_33 v_30) fun s_34 =>
      ∃ I3 : List AVal → Heap → Nat → Prop, (∃ m, I3 [(.int .i64 0)] s_34 m) ∧ ∀ (f : Env) (s : Heap) (m3 : Nat), I3 [f 6] s m3 →
        vc_leafmeshref11_Wheel_Set_l3 X w0 next1 (f 6) I3 m3 K s) s_29) s))
def vc_leafmeshref11_Wheel_Set (X : Told) (w0 : AVal) (next1 : AVal) (K : AVal → Heap → Prop) (s : Heap) : Prop :=
  ∃ I0 : List AVal → Heap → Nat → Prop, (∃ m, I0 [(.int .i64 0)] s m) ∧ ∀ (f : Env) (s : Heap) (m0 : Nat), I0 [f 5] s m0 →
    vc_leafmeshref11_Wheel_Set_l0 X w0 next1 (f 5) I0 m0 K s
def vc_leafmeshref11_Wheel_Set_ann : Nat → List Nat := fun k => cond (Nat.beq k 4) [5] (cond (Nat.beq k 24) [6] (cond (Nat.beq k 38) [7] (cond (Nat.beq k 46) [] (cond (Nat.beq k 54) [10, 11] ([])))))
theorem vc_leafmeshref11_Wheel_Set_eq (X : Told) (w0 : AVal) (next1 : AVal) (K : AVal → Heap → Prop) (s : Heap) : wpC Try.prog X vc_leafmeshref11_Wheel_Set_ann Try.f29.ntmps none (bodyOf Try.f29) (envOf [w0, next1]) (fun e env s => retK e (resK Try.prog Try.f29.results.toList env (fun vs => K (oneV vs) s) s)) s = vc_leafmeshref11_Wheel_Set X w0 next1 K s := by kernel_rfl
theorem vc_leafmeshref11_Wheel_Set_ok {X : Told} (hX : FrX X) (hn : X 29 = none) {w0 : AVal} {next1 : AVal} {K : AVal → Heap → Prop} {s : Heap} (h : vc_leafmeshref11_Wheel_Set X w0 next1 K s) : wpCall Try.prog X 29 [w0, next1] K s :=
  wpCall_code hX vc_leafmeshref11_Wheel_Set_ann hn Try.func29 (by kernel_rfl : Try.f29.body = some (bodyOf Try.f29)) (by kernel_rfl) ((vc_leafmeshref11_Wheel_Set_eq X w0 next1 K s).mpr h)
theorem vc_leafmeshref11_Wheel_Set_in {w0 : AVal} {next1 : AVal} {K : AVal → Heap → Prop} {s : Heap} (h : vc_leafmeshref11_Wheel_Set XX w0 next1 K s) : wpCall Try.prog XX 29 [w0, next1] K s := vc_leafmeshref11_Wheel_Set_ok (closedX_fr _) rfl h
/-- (*leafmesh/leafmeshref11.Wheel).Load (38) -/
def vc_leafmeshref11_Wheel_Load_j2 (X : Told) (n5 : AVal) (i6 : AVal) (I0 : List AVal → Heap → Nat → Prop) (m0 : Nat) (K : AVal → Heap → Prop) (s : Heap) : Prop :=
  optK (arithV .add i6 (.int .i64 1)) fun v_8 =>
  ∃ m', m' < m0 ∧ I0 [n5, v_8] s m'
def vc_leafmeshref11_Wheel_Load_j1 (X : Told) (n5 : AVal) (i6 : AVal) (t18 : AVal) (t27 : AVal) (I0 : List AVal → Heap → Nat → Prop) (m0 : Nat) (K : AVal → Heap → Prop) (s : Heap) : Prop :=
  optK (pickV t18 t27 (.bool false)) fun v_7 =>
  boolK v_7
   (optK (arithV .add n5 (.int .i64 1)) fun v_9 =>
    vc_leafmeshref11_Wheel_Load_j2 X v_9 i6 I0 m0 K s)
   (vc_leafmeshref11_Wheel_Load_j2 X n5 i6 I0 m0 K s)
def vc_leafmeshref11_Wheel_Load_l0 (X : Told) (w0 : AVal) (member1 : AVal) (n5 : AVal) (i6 : AVal) (I0 : List AVal → Heap → Nat → Prop) (m0 : Nat) (K : AVal → Heap → Prop) (s : Heap) : Prop :=
  optK (nilCheckA w0) fun v_0 =>
  optK (addOff 1 v_0) fun v_1 =>
  optK (rd1 s v_1) fun v_2 =>
  optK (lenOfA v_2) fun v_3 =>
  optK (arithV .lss i6 (.int .i64 v_3)) fun v_5 =>
  boolK v_5
   (optK (arithV .geq member1 (.int .i64 0)) fun v_6 =>
    boolK v_6
     (optK (nilCheckA w0) fun v_10 =>
      optK (addOff 1 v_10) fun v_11 =>
      optK (rd1 s v_11) fun v_12 =>
      optK (iaddrS 1 v_12 i6) fun v_13 =>
      optK (rd1 s v_13) fun v_14 =>
      optK (negB false (eqV 0 false v_14 member1)) fun v_15 =>
      vc_leafmeshref11_Wheel_Load_j1 X n5 i6 v_6 v_15 I0 m0 K s)
     (vc_leafmeshref11_Wheel_Load_j1 X n5 i6 v_6 .undef I0 m0 K s))
   (K n5 s)
def vc_leafmeshref11_Wheel_Load (X : Told) (w0 : AVal) (member1 : AVal) (K : AVal → Heap → Prop) (s : Heap) : Prop :=
  ∃ I0 : List AVal → Heap → Nat → Prop, (∃ m, I0 [(.int .i64 0), (.int .i64 0)] s m) ∧ ∀ (f : Env) (s : Heap) (m0 : Nat), I0 [f 5, f 6] s m0 →
    vc_leafmeshref11_Wheel_Load_l0 X w0 member1 (f 5) (f 6) I0 m0 K s
def vc_leafmeshref11_Wheel_Load_ann : Nat → List Nat := fun k => cond (Nat.beq k 6) [5, 6] ([])
theorem vc_leafmeshref11_Wheel_Load_eq (X : Told) (w0 : AVal) (member1 : AVal) (K : AVal → Heap → Prop) (s : Heap) : wpC Try.prog X vc_leafmeshref11_Wheel_Load_ann Try.f38.ntmps none (bodyOf Try.f38) (envOf [w0, member1]) (fun e env s => retK e (resK Try.prog Try.f38.results.toList env (fun vs => K (oneV vs) s) s)) s = vc_leafmeshref11_Wheel_Load X w0 member1 K s := by kernel_rfl
theorem vc_leafmeshref11_Wheel_Load_ok {X : Told} (hX : FrX X) (hn : X 38 = none) {w0 : AVal} {member1 : AVal} {K : AVal → Heap → Prop} {s : Heap} (h : vc_leafmeshref11_Wheel_Load X w0 member1 K s) : wpCall Try.prog X 38 [w0, member1] K s :=
  wpCall_code hX vc_leafmeshref11_Wheel_Load_ann hn Try.func38 (by kernel_rfl : Try.f38.body = some (bodyOf Try.f38)) (by kernel_rfl) ((vc_leafmeshref11_Wheel_Load_eq X w0 member1 K s).mpr h)
theorem vc_leafmeshref11_Wheel_Load_in {w0 : AVal} {member1 : AVal} {K : AVal → Heap → Prop} {s : Heap} (h : vc_leafmeshref11_Wheel_Load XX w0 member1 K s) : wpCall Try.prog XX 38 [w0, member1] K s := vc_leafmeshref11_Wheel_Load_ok (closedX_fr _) rfl h
/-- (*leafmesh/leafmeshref11.Wheel).Pick (39) -/
def vc_leafmeshref11_Wheel_Pick (X : Told) (w0 : AVal) (hash1 : AVal) (K : AVal → Heap → Prop) (s : Heap) : Prop :=
  optK (nilCheckA w0) fun v_0 =>
  optK (addOff 0 v_0) fun v_1 =>
  optK (rd1 s v_1) fun v_2 =>
  optK (lenOfA v_2) fun v_3 =>
  optK (negB false (eqV 0 true (.int .i64 v_3) (.int .i64 0))) fun v_5 =>
  boolK v_5
   (K (.tup [(.int .i64 0), (.bool false)]) s)
   (optK (nilCheckA w0) fun v_6 =>
    optK (addOff 1 v_6) fun v_7 =>
    optK (rd1 s v_7) fun v_8 =>
    optK (nilCheckA w0) fun v_9 =>
    optK (addOff 1 v_9) fun v_10 =>
    optK (rd1 s v_10) fun v_11 =>
    optK (lenOfA v_11) fun v_12 =>
    optK (convI .u64 (.int .i64 v_12)) fun v_14 =>
    optK (arithV .rem hash1 v_14) fun v_15 =>
    optK (convI .i64 v_15) fun v_16 =>
    optK (iaddrS 1 v_8 v_16) fun v_17 =>
    optK (rd1 s v_17) fun v_18 =>
    K (.tup [v_18, (.bool true)]) s)
def vc_leafmeshref11_Wheel_Pick_ann : Nat → List Nat := fun _ => []
theorem vc_leafmeshref11_Wheel_Pick_eq (X : Told) (w0 : AVal) (hash1 : AVal) (K : AVal → Heap → Prop) (s : Heap) : wpC Try.prog X vc_leafmeshref11_Wheel_Pick_ann Try.f39.ntmps none (bodyOf Try.f39) (envOf [w0, hash1]) (fun e env s => retK e (resK Try.prog Try.f39.results.toList env (fun vs => K (oneV vs) s) s)) s = vc_leafmeshref11_Wheel_Pick X w0 hash1 K s := by kernel_rfl
theorem vc_leafmeshref11_Wheel_Pick_ok {X : Told} (hX : FrX X) (hn : X 39 = none) {w0 : AVal} {hash1 : AVal} {K : AVal → Heap → Prop} {s : Heap} (h : vc_leafmeshref11_Wheel_Pick X w0 hash1 K s) : wpCall Try.prog X 39 [w0, hash1] K s :=
  wpCall_code hX vc_leafmeshref11_Wheel_Pick_ann hn Try.func39 (by kernel_rfl : Try.f39.body = some (bodyOf Try.f39)) (by kernel_rfl) ((vc_leafmeshref11_Wheel_Pick_eq X w0 hash1 K s).mpr h)
theorem vc_leafmeshref11_Wheel_Pick_in {w0 : AVal} {hash1 : AVal} {K : AVal → Heap → Prop} {s : Heap} (h : vc_leafmeshref11_Wheel_Pick XX w0 hash1 K s) : wpCall Try.prog XX 39 [w0, hash1] K s := vc_leafmeshref11_Wheel_Pick_ok (closedX_fr _) rfl h
/-- leafmesh/leafmeshref11.is (40) -/
def vc_leafmeshref11_is_l0 (X : Told) (l0 : AVal) (n1 : AVal) (i5 : AVal) (I0 : List AVal → Heap → Nat → Prop) (m0 : Nat) (K : AVal → Heap → Prop) (s : Heap) : Prop :=
  optK (lenOfA l0) fun v_0 =>
  optK (arithV .lss i5 (.int .i64 v_0)) fun v_2 =>
  boolK v_2
   (optK (iaddrS 1 l0 i5) fun v_3 =>
    optK (rd1 s v_3) fun v_4 =>
    optK (negB false (eqV 0 false v_4 n1)) fun v_5 =>
    boolK v_5
     (K (.bool true) s)
     (optK (arithV .add i5 (.int .i64 1)) fun v_6 =>
      ∃ m', m' < m0 ∧ I0 [v_6] s m'))
   (K (.bool false) s)
def vc_leafmeshref11_is (X : Told) (l0 : AVal) (n1 : AVal) (K : AVal → Heap → Prop) (s : Heap) : Prop :=
  ∃ I0 : List AVal → Heap → Nat → Prop, (∃ m, I0 [(.int .i64 0)] s m) ∧ ∀ (f : Env) (s : Heap) (m0 : Nat), I0 [f 5] s m0 →
    vc_leafmeshref11_is_l0 X l0 n1 (f 5) I0 m0 K s
def vc_leafmeshref11_is_ann : Nat → List Nat := fun k => cond (Nat.beq k 4) [5] ([])
theorem vc_leafmeshref11_is_eq (X : Told) (l0 : AVal) (n1 : AVal) (K : AVal → Heap → Prop) (s : Heap) : wpC Try.prog X vc_leafmeshref11_is_ann Try.f40.ntmps none (bodyOf Try.f40) (envOf [l0, n1]) (fun e env s => retK e (resK Try.prog Try.f40.results.toList env (fun vs => K (oneV vs) s) s)) s = vc_leafmeshref11_is X l0 n1 K s := by kernel_rfl
theorem vc_leafmeshref11_is_ok {X : Told} (hX : FrX X) (hn : X 40 = none) {l0 : AVal} {n1 : AVal} {K : AVal → Heap → Prop} {s : Heap} (h : vc_leafmeshref11_is X l0 n1 K s) : wpCall Try.prog X 40 [l0, n1] K s :=
  wpCall_code hX vc_leafmeshref11_is_ann hn Try.func40 (by kernel_rfl : Try.f40.body = some (bodyOf Try.f40)) (by kernel_rfl) ((vc_leafmeshref11_is_eq X l0 n1 K s).mpr h)
theorem vc_leafmeshref11_is_in {l0 : AVal} {n1 : AVal} {K : AVal → Heap → Prop} {s : Heap} (h : vc_leafmeshref11_is XX l0 n1 K s) : wpCall Try.prog XX 40 [l0, n1] K s := vc_leafmeshref11_is_ok (closedX_fr _) rfl h
/-- (*leafmesh/leafmeshref11.Wheel).least (41) -/
def vc_leafmeshref11_Wheel_least_j1 (X : Told) (out3 : AVal) (i4 : AVal) (I0 : List AVal → Heap → Nat → Prop) (m0 : Nat) (K : AVal → Heap → Prop) (s : Heap) : Prop :=
  optK (arithV .add i4 (.int .i64 1)) fun v_21 =>
  ∃ m', m' < m0 ∧ I0 [out3, v_21] s m'
def vc_leafmeshref11_Wheel_least_l0 (X : Told) (w0 : AVal) (out3 : AVal) (i4 : AVal) (I0 : List AVal → Heap → Nat → Prop) (m0 : Nat) (K : AVal → Heap → Prop) (s : Heap) : Prop :=
  optK (nilCheckA w0) fun v_5 =>
  optK (addOff 0 v_5) fun v_6 =>
  optK (rd1 s v_6) fun v_7 =>
  optK (lenOfA v_7) fun v_8 =>
  optK (arithV .lss i4 (.int .i64 v_8)) fun v_10 =>
  boolK v_10
   (optK (nilCheckA w0) fun v_11 =>
    optK (addOff 0 v_11) fun v_12 =>
    optK (rd1 s v_12) fun v_13 =>
    optK (iaddrS 1 v_13 i4) fun v_14 =>
    optK (rd1 s v_14) fun v_15 =>
    wpCall Try.prog X 38 [w0, v_15] (fun v_16 s_17 =>
    wpCall Try.prog X 38 [w0, out3] (fun v_18 s_19 =>
    optK (arithV .lss v_16 v_18) fun v_20 =>
    boolK v_20
     (optK (nilCheckA w0) fun v_22 =>
      optK (addOff 0 v_22) fun v_23 =>
      optK (rd1 s_19 v_23) fun v_24 =>
      optK (iaddrS 1 v_24 i4) fun v_25 =>
      optK (rd1 s_19 v_25) fun v_26 =>
      vc_leafmeshref11_Wheel_least_j1 X v_26 i4 I0 m0 K s_19)
     (vc_leafmeshref11_Wheel_least_j1 X out3 i4 I0 m0 K s_19)) s_17) s)
   (K out3 s)
def vc_leafmeshref11_Wheel_least (X : Told) (w0 : AVal) (K : AVal → Heap → Prop) (s : Heap) : Prop :=
  optK (nilCheckA w0) fun v_0 =>
  optK (addOff 0 v_0) fun v_1 =>
  optK (rd1 s v_1) fun v_2 =>
  optK (iaddrS 1 v_2 (.int .i64 0)) fun v_3 =>
  optK (rd1 s v_3) fun v_4 =>
  ∃ I0 : List AVal → Heap → Nat → Prop, (∃ m, I0 [v_4, (.int .i64 0)] s m) ∧ ∀ (f : Env) (s : Heap) (m0 : Nat), I0 [f 3, f 4] s m0 →
    vc_leafmeshref11_Wheel_least_l0 X w0 (f 3) (f 4) I0 m0 K s
def vc_leafmeshref11_Wheel_least_ann : Nat → List Nat := fun k => cond (Nat.beq k 6) [3, 4] ([])
theorem vc_leafmeshref11_Wheel_least_eq (X : Told) (w0 : AVal) (K : AVal → Heap → Prop) (s : Heap) : wpC Try.prog X vc_leafmeshref11_Wheel_least_ann Try.f41.ntmps none (bodyOf Try.f41) (envOf [w0]) (fun e env s => retK e (resK Try.prog Try.f41.results.toList env (fun vs => K (oneV vs) s) s)) s = vc_leafmeshref11_Wheel_least X w0 K s := by kernel_rfl
theorem vc_leafmeshref11_Wheel_least_ok {X : Told} (hX : FrX X) (hn : X 41 = none) {w0 : AVal} {K : AVal → Heap → Prop} {s : Heap} (h : vc_leafmeshref11_Wheel_least X w0 K s) : wpCall Try.prog X 41 [w0] K s :=
  wpCall_code hX vc_leafmeshref11_Wheel_least_ann hn Try.func41 (by kernel_rfl : Try.f41.body = some (bodyOf Try.f41)) (by kernel_rfl) ((vc_leafmeshref11_Wheel_least_eq X w0 K s).mpr h)
theorem vc_leafmeshref11_Wheel_least_in {w0 : AVal} {K : AVal → Heap → Prop} {s : Heap} (h : vc_leafmeshref11_Wheel_least XX w0 K s) : wpCall Try.prog XX 41 [w0] K s := vc_leafmeshref11_Wheel_least_ok (closedX_fr _) rfl h
/-- (*leafmesh/leafmeshref11.Wheel).most (42) -/
def vc_leafmeshref11_Wheel_most_j1 (X : Told) (out3 : AVal) (i4 : AVal) (I0 : List AVal → Heap → Nat → Prop) (m0 : Nat) (K : AVal → Heap → Prop) (s : Heap) : Prop :=
  optK (arithV .add i4 (.int .i64 1)) fun v_21 =>
  ∃ m', m' < m0 ∧ I0 [out3, v_21] s m'
def vc_leafmeshref11_Wheel_most_l0 (X : Told) (w0 : AVal) (out3 : AVal) (i4 : AVal) (I0 : List AVal → Heap → Nat → Prop) (m0 : Nat) (K : AVal → Heap → Prop) (s : Heap) : Prop :=
  optK (nilCheckA w0) fun v_5 =>
  optK (addOff 0 v_5) fun v_6 =>
  optK (rd1 s v_6) fun v_7 =>
  optK (lenOfA v_7) fun v_8 =>
  optK (arithV .lss i4 (.int .i64 v_8)) fun v_10 =>
  boolK v_10
   (optK (nilCheckA w0) fun v_11 =>
    optK (addOff 0 v_11) fun v_12 =>
    optK (rd1 s v_12) fun v_13 =>
    optK (iaddrS 1 v_13 i4) fun v_14 =>
    optK (rd1 s v_14) fun v_15 =>
    wpCall Try.prog X 38 [w0, v_15] (fun v_16 s_17 =>
    wpCall Try.prog X 38 [w0, out3] (fun v_18 s_19 =>
    optK (arithV .geq v_16 v_18) fun v_20 =>
    boolK v_20
     (optK (nilCheckA w0) fun v_22 =>
      optK (addOff 0 v_22) fun v_23 =>
      optK (rd1 s_19 v_23) fun v_24 =>
      optK (iaddrS 1 v_24 i4) fun v_25 =>
      optK (rd1 s_19 v_25) fun v_26 =>
      vc_leafmeshref11_Wheel_most_j1 X v_26 i4 I0 m0 K s_19)
     (vc_leafmeshref11_Wheel_most_j1 X out3 i4 I0 m0 K s_19)) s_17) s)
   (K out3 s)
def vc_leafmeshref11_Wheel_most (X : Told) (w0 : AVal) (K : AVal → Heap → Prop) (s : Heap) : Prop :=
  optK (nilCheckA w0) fun v_0 =>
  optK (addOff 0 v_0) fun v_1 =>
  optK (rd1 s v_1) fun v_2 =>
  optK (iaddrS 1 v_2 (.int .i64 0)) fun v_3 =>
  optK (rd1 s v_3) fun v_4 =>
  ∃ I0 : List AVal → Heap → Nat → Prop, (∃ m, I0 [v_4, (.int .i64 0)] s m) ∧ ∀ (f : Env) (s : Heap) (m0 : Nat), I0 [f 3, f 4] s m0 →
    vc_leafmeshref11_Wheel_most_l0 X w0 (f 3) (f 4) I0 m0 K s
def vc_leafmeshref11_Wheel_most_ann : Nat → List Nat := fun k => cond (Nat.beq k 6) [3, 4] ([])
theorem vc_leafmeshref11_Wheel_most_eq (X : Told) (w0 : AVal) (K : AVal → Heap → Prop) (s : Heap) : wpC Try.prog X vc_leafmeshref11_Wheel_most_ann Try.f42.ntmps none (bodyOf Try.f42) (envOf [w0]) (fun e env s => retK e (resK Try.prog Try.f42.results.toList env (fun vs => K (oneV vs) s) s)) s = vc_leafmeshref11_Wheel_most X w0 K s := by kernel_rfl
theorem vc_leafmeshref11_Wheel_most_ok {X : Told} (hX : FrX X) (hn : X 42 = none) {w0 : AVal} {K : AVal → Heap → Prop} {s : Heap} (h : vc_leafmeshref11_Wheel_most X w0 K s) : wpCall Try.prog X 42 [w0] K s :=
  wpCall_code hX vc_leafmeshref11_Wheel_most_ann hn Try.func42 (by kernel_rfl : Try.f42.body = some (bodyOf Try.f42)) (by kernel_rfl) ((vc_leafmeshref11_Wheel_most_eq X w0 K s).mpr h)
theorem vc_leafmeshref11_Wheel_most_in {w0 : AVal} {K : AVal → Heap → Prop} {s : Heap} (h : vc_leafmeshref11_Wheel_most XX w0 K s) : wpCall Try.prog XX 42 [w0] K s := vc_leafmeshref11_Wheel_most_ok (closedX_fr _) rfl h
/-- (*leafmesh/spread.Wheel).Copy (27) -/
def vc_spread_Wheel_Copy (X : Told) (w0 : AVal) (K : AVal → Heap → Prop) (s : Heap) : Prop :=
  wpCall Try.prog X 32 [w0] (fun v_0 s_1 =>
  optK (unaryA .not v_0) fun v_2 =>
  boolK v_2
   (K .nilptr s_1)
   (optK (nilCheckA w0) fun v_3 =>
    optK (addOff 0 v_3) fun v_4 =>
    optK (rd1 s_1 v_4) fun v_5 =>
    wpCall Try.prog X 33 [v_5] (fun v_6 s_7 =>
    (∀ b, s_1 b ≠ none → s_1 b = none → s_7 b = none) →
    optK (nilCheckA w0) fun v_8 =>
    optK (addOff 1 v_8) fun v_9 =>
    optK (rd1 (cutH [(s_1, (add s_1 s_7))] (add s_1 s_7)) v_9) fun v_10 =>
    wpCall Try.prog X 33 [v_10] (fun v_11 s_12 =>
    optK (fillR [.nilslc, .nilslc] [(0, 1, v_6), (1, 1, v_11)]) fun c_13 =>
    boxK 53 (.agg c_13) (fun b_14 s_15 =>
    K b_14 s_15) s_12) (add s_1 s_7)) (frz s_1))) s
def vc_spread_Wheel_Copy_ann : Nat → List Nat := fun _ => []
theorem vc_spread_Wheel_Copy_eq (X : Told) (w0 : AVal) (K : AVal → Heap → Prop) (s : Heap) : wpC Try.prog X vc_spread_Wheel_Copy_ann Try.f27.ntmps none (bodyOf Try.f27) (envOf [w0]) (fun e env s => retK e (resK Try.prog Try.f27.results.toList env (fun vs => K (oneV vs) s) s)) s = vc_spread_Wheel_Copy X w0 K s := by kernel_rfl
theorem vc_spread_Wheel_Copy_ok {X : Told} (hX : FrX X) (hn : X 27 = none) {w0 : AVal} {K : AVal → Heap → Prop} {s : Heap} (h : vc_spread_Wheel_Copy X w0 K s) : wpCall Try.prog X 27 [w0] K s :=
  wpCall_code hX vc_spread_Wheel_Copy_ann hn Try.func27 (by kernel_rfl : Try.f27.body = some (bodyOf Try.f27)) (by kernel_rfl) ((vc_spread_Wheel_Copy_eq X w0 K s).mpr h)
theorem vc_spread_Wheel_Copy_in {w0 : AVal} {K : AVal → Heap → Prop} {s : Heap} (h : vc_spread_Wheel_Copy XX w0 K s) : wpCall Try.prog XX 27 [w0] K s := vc_spread_Wheel_Copy_ok (closedX_fr _) rfl h
end Go.AM
