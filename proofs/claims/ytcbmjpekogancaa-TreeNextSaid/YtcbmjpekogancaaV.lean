/- Part V of a calculus over a small memory that is proved to answer as the program does, and of its use for the functions that the law reaches: see the last part. -/
import Derived.Test.YtcbmjpekogancaaU3
import Derived.Test.YtcbmjpekogancaaProg
import Derived.KernelRfl
import Derived.Test.YtcbmjpekogancaaU2
set_option linter.unusedVariables false
namespace Go.AM
open Go Go.Proofs
abbrev IvP := List AVal → Heap → Nat → Prop
abbrev KvP := AVal → Heap → Prop
set_option maxRecDepth 100000
abbrev XX : Told := toldB 54 3 41 [(42, 55, 83)] [11,5]
theorem XX_fr : FrX XX := toldB_fr _ _ _ _ _
def vllaw15_TreeNext_j7 (X : Told) (t115 : AVal) (t116 : AVal) (K : KvP) (s : Heap) : Prop :=
 optK (pickV t115 t116 (.bool false)) fun v_54 =>
 K v_54 s
def vllaw15_TreeNext_j6 (X : Told) (t110 : AVal) (t113 : AVal) (K : KvP) (s : Heap) : Prop :=
 optK (pickV t110 t113 (.bool false)) fun v_53 =>
 boolK v_53
 (wpCall Try.prog X 11 [] (fun v_55 s_56 =>
 vllaw15_TreeNext_j7 X v_53 v_55 K s_56) s)
 (vllaw15_TreeNext_j7 X v_53 .undef K s)
def vllaw15_TreeNext_j5 (X : Told) (members2 : AVal) (t12 : AVal) (t103 : AVal) (t108 : AVal) (K : KvP) (s : Heap) : Prop :=
 optK (pickV t103 t108 (.bool false)) fun v_52 =>
 boolK v_52
 (wpCall Try.prog X 16 [t12, members2] (fun v_57 s_58 =>
 vllaw15_TreeNext_j6 X v_52 v_57 K s_58) s)
 (vllaw15_TreeNext_j6 X v_52 .undef K s)
def vllaw15_TreeNext_j4 (X : Told) (members2 : AVal) (x5 : AVal) (y11 : AVal) (t12 : AVal) (t96 : AVal) (t101 : AVal) (K : KvP) (s : Heap) : Prop :=
 optK (pickV t96 t101 (.bool false)) fun v_51 =>
 boolK v_51
 (optK (addOff 3 y11) fun v_59 =>
 optK (rd1 s v_59) fun v_60 =>
 optK (addOff 3 x5) fun v_61 =>
 optK (rd1 s v_61) fun v_62 =>
 wpCall Try.prog X 20 [v_60, v_62] (fun v_63 s_64 =>
 vllaw15_TreeNext_j5 X members2 t12 v_51 v_63 K s_64) s)
 (vllaw15_TreeNext_j5 X members2 t12 v_51 .undef K s)
def vllaw15_TreeNext_j3 (X : Told) (members2 : AVal) (x5 : AVal) (y11 : AVal) (t12 : AVal) (t90 : AVal) (t93 : AVal) (K : KvP) (s : Heap) : Prop :=
 optK (pickV t90 t93 (.bool false)) fun v_50 =>
 boolK v_50
 (optK (addOff 2 y11) fun v_65 =>
 optK (rd1 s v_65) fun v_66 =>
 optK (addOff 2 x5) fun v_67 =>
 optK (rd1 s v_67) fun v_68 =>
 wpCall Try.prog X 19 [v_66, v_68] (fun v_69 s_70 =>
 vllaw15_TreeNext_j4 X members2 x5 y11 t12 v_50 v_69 K s_70) s)
 (vllaw15_TreeNext_j4 X members2 x5 y11 t12 v_50 .undef K s)
def vllaw15_TreeNext_j2 (X : Told) (members2 : AVal) (x5 : AVal) (y11 : AVal) (t12 : AVal) (e19 : AVal) (t22 : AVal) (t85 : AVal) (t88 : AVal) (K : KvP) (s : Heap) : Prop :=
 optK (pickV t85 t88 (.bool false)) fun v_49 =>
 boolK v_49
 (optK (negB false (eqV 0 false e19 t22)) fun v_71 =>
 vllaw15_TreeNext_j3 X members2 x5 y11 t12 v_49 v_71 K s)
 (vllaw15_TreeNext_j3 X members2 x5 y11 t12 v_49 .undef K s)
def vllaw15_TreeNext_j1 (X : Told) (members2 : AVal) (x5 : AVal) (y11 : AVal) (t12 : AVal) (here18 : AVal) (e19 : AVal) (there21 : AVal) (t22 : AVal) (t80 : AVal) (t83 : AVal) (K : KvP) (s : Heap) : Prop :=
 optK (pickV t80 t83 (.bool false)) fun v_48 =>
 boolK v_48
 (optK (negB false (eqV 1 false here18 there21)) fun v_72 =>
 vllaw15_TreeNext_j2 X members2 x5 y11 t12 e19 t22 v_48 v_72 K s)
 (vllaw15_TreeNext_j2 X members2 x5 y11 t12 e19 t22 v_48 .undef K s)
def vllaw15_TreeNext_j0 (X : Told) (members2 : AVal) (x5 : AVal) (y11 : AVal) (t12 : AVal) (l17 : AVal) (here18 : AVal) (e19 : AVal) (k20 : AVal) (there21 : AVal) (t22 : AVal) (t75 : AVal) (t78 : AVal) (K : KvP) (s : Heap) : Prop :=
 optK (pickV t75 t78 (.bool false)) fun v_47 =>
 boolK v_47
 (wpCall Try.prog X 25 [l17, k20] (fun v_73 s_74 =>
 vllaw15_TreeNext_j1 X members2 x5 y11 t12 here18 e19 there21 t22 v_47 v_73 K s_74) s)
 (vllaw15_TreeNext_j1 X members2 x5 y11 t12 here18 e19 there21 t22 v_47 .undef K s)
def vllaw15_TreeNext (X : Told) (x0 : AVal) (self1 : AVal) (members2 : AVal) (p3 : AVal) (t4 : AVal) (K : KvP) (s : Heap) : Prop :=
 boxK 25 x0 (fun b_0 s_1 =>
 boxK 51 p3 (fun b_2 s_3 =>
 optK (rdN s_3 4 b_0) fun v_4 =>
 wpCall Try.prog X 10 [(.agg v_4), members2] (fun v_5 s_6 =>
 boolK v_5
 (wpCall Try.prog X 11 [] (fun v_7 s_8 =>
 K v_7 s_8) s_6)
 (optK (rdN s_6 4 b_0) fun v_9 =>
 wpCall Try.prog X 12 [(.agg v_9)] (fun v_10 s_11 =>
 wpCall Try.prog X 13 [members2] (fun v_12 s_13 =>
 newK 25 [(.int .i64 0), (.int .i64 0), .nilslc, .nilslc] (fun b_14 s_15 =>
 optK (wrAgg s_15 4 (.ptr b_14 0) v_10) fun s_16 =>
 optK (rdN s_16 4 (.ptr b_14 0)) fun v_17 =>
 optK (addOff 1 b_2) fun v_18 =>
 optK (rd1 s_16 v_18) fun v_19 =>
 wpCall Try.prog X 21 [(.agg v_17), self1, v_19, v_12, t4] (fun v_20 s_21 =>
 optK (extractA v_20 0) fun v_22 =>
 optK (extractA v_20 1) fun v_23 =>
 optK (rdN s_21 4 b_0) fun v_24 =>
 optK (addOff 1 b_2) fun v_25 =>
 optK (rd1 s_21 v_25) fun v_26 =>
 wpCall Try.prog X 22 [(.agg v_24), self1, v_26, members2, t4] (fun v_27 s_28 =>
 optK (extractA v_27 0) fun v_29 =>
 optK (extractA v_27 1) fun v_30 =>
 optK (rdN s_28 4 (.ptr b_14 0)) fun v_31 =>
 optK (rdN s_28 21 b_2) fun v_32 =>
 wpCall Try.prog X 23 [(.agg v_31), self1, v_12, (.agg v_32), t4] (fun v_33 s_34 =>
 optK (extractA v_33 0) fun v_35 =>
 optK (extractA v_33 1) fun v_36 =>
 optK (extractA v_33 2) fun v_37 =>
 optK (rdN s_34 4 b_0) fun v_38 =>
 optK (rdN s_34 21 b_2) fun v_39 =>
 wpCall Try.prog X 24 [(.agg v_38), self1, members2, (.agg v_39), t4] (fun v_40 s_41 =>
 optK (extractA v_40 0) fun v_42 =>
 optK (extractA v_40 1) fun v_43 =>
 optK (extractA v_40 2) fun v_44 =>
 wpCall Try.prog X 16 [v_22, v_29] (fun v_45 s_46 =>
 boolK v_45
 (optK (negB false (eqV 1 false v_23 v_30)) fun v_75 =>
 vllaw15_TreeNext_j0 X members2 b_0 (.ptr b_14 0) v_12 v_35 v_36 v_37 v_42 v_43 v_44 v_45 v_75 K s_46)
 (vllaw15_TreeNext_j0 X members2 b_0 (.ptr b_14 0) v_12 v_35 v_36 v_37 v_42 v_43 v_44 v_45 .undef K s_46)) s_41) s_34) s_28) s_21) s_16) s_13) s_11) s_6)) s_3) s_1) s
def vllaw15_TreeNext_ann : Nat → List Nat := fun _ => []
theorem vllaw15_TreeNext_eq (X : Told) (x0 : AVal) (self1 : AVal) (members2 : AVal) (p3 : AVal) (t4 : AVal) (K : KvP) (s : Heap) : wpC Try.prog X vllaw15_TreeNext_ann Try.f4.ntmps none (bodyOf Try.f4) (envOf [x0, self1, members2, p3, t4]) (fun e env s => retK e (resK Try.prog Try.f4.results.toList env (fun vs => K (oneV vs) s) s)) s = vllaw15_TreeNext X x0 self1 members2 p3 t4 K s := by kernel_rfl
theorem vllaw15_TreeNext_ok {X : Told} (hX : FrX X) (hn : X 4 = none) {x0 : AVal} {self1 : AVal} {members2 : AVal} {p3 : AVal} {t4 : AVal} {K : KvP} {s : Heap} (h : vllaw15_TreeNext X x0 self1 members2 p3 t4 K s) : wpCall Try.prog X 4 [x0, self1, members2, p3, t4] K s :=
 wpCall_code hX vllaw15_TreeNext_ann hn Try.func4 (by kernel_rfl : Try.f4.body = some (bodyOf Try.f4)) (by kernel_rfl) ((vllaw15_TreeNext_eq X x0 self1 members2 p3 t4 K s).mpr h)
theorem vllaw15_TreeNext_in {x0 : AVal} {self1 : AVal} {members2 : AVal} {p3 : AVal} {t4 : AVal} {K : KvP} {s : Heap} (h : vllaw15_TreeNext XX x0 self1 members2 p3 t4 K s) : wpCall Try.prog XX 4 [x0, self1, members2, p3, t4] K s := vllaw15_TreeNext_ok XX_fr rfl h
def vllaw15_large_j1 (X : Told) (t15 : AVal) (t18 : AVal) (K : KvP) (s : Heap) : Prop :=
 optK (pickV t15 (.bool true) t18) fun v_8 =>
 K v_8 s
def vllaw15_large_j0 (X : Told) (members1 : AVal) (t9 : AVal) (t13 : AVal) (K : KvP) (s : Heap) : Prop :=
 optK (pickV t9 (.bool true) t13) fun v_7 =>
 boolK v_7
 (vllaw15_large_j1 X v_7 .undef K s)
 (optK (lenOfA members1) fun v_9 =>
 optK (arithV .gtr (.int .i64 v_9) (.int .i64 60)) fun v_11 =>
 vllaw15_large_j1 X v_7 v_11 K s)
def vllaw15_large (X : Told) (x0 : AVal) (members1 : AVal) (K : KvP) (s : Heap) : Prop :=
 boxK 25 x0 (fun b_0 s_1 =>
 optK (addOff 2 b_0) fun v_2 =>
 optK (rd1 s_1 v_2) fun v_3 =>
 optK (lenOfA v_3) fun v_4 =>
 optK (arithV .gtr (.int .i64 v_4) (.int .i64 60)) fun v_6 =>
 boolK v_6
 (vllaw15_large_j0 X members1 v_6 .undef K s_1)
 (optK (addOff 3 b_0) fun v_12 =>
 optK (rd1 s_1 v_12) fun v_13 =>
 optK (lenOfA v_13) fun v_14 =>
 optK (arithV .gtr (.int .i64 v_14) (.int .i64 60)) fun v_16 =>
 vllaw15_large_j0 X members1 v_6 v_16 K s_1)) s
def vllaw15_large_ann : Nat → List Nat := fun _ => []
theorem vllaw15_large_eq (X : Told) (x0 : AVal) (members1 : AVal) (K : KvP) (s : Heap) : wpC Try.prog X vllaw15_large_ann Try.f10.ntmps none (bodyOf Try.f10) (envOf [x0, members1]) (fun e env s => retK e (resK Try.prog Try.f10.results.toList env (fun vs => K (oneV vs) s) s)) s = vllaw15_large X x0 members1 K s := by kernel_rfl
theorem vllaw15_large_ok {X : Told} (hX : FrX X) (hn : X 10 = none) {x0 : AVal} {members1 : AVal} {K : KvP} {s : Heap} (h : vllaw15_large X x0 members1 K s) : wpCall Try.prog X 10 [x0, members1] K s :=
 wpCall_code hX vllaw15_large_ann hn Try.func10 (by kernel_rfl : Try.f10.body = some (bodyOf Try.f10)) (by kernel_rfl) ((vllaw15_large_eq X x0 members1 K s).mpr h)
theorem vllaw15_large_in {x0 : AVal} {members1 : AVal} {K : KvP} {s : Heap} (h : vllaw15_large XX x0 members1 K s) : wpCall Try.prog XX 10 [x0, members1] K s := vllaw15_large_ok XX_fr rfl h
def vllaw15_copied (X : Told) (x0 : AVal) (K : KvP) (s : Heap) : Prop :=
 boxK 25 x0 (fun b_0 s_1 =>
 newK 25 [(.int .i64 0), (.int .i64 0), .nilslc, .nilslc] (fun b_2 s_3 =>
 optK (addOff 2 b_0) fun v_4 =>
 optK (rd1 s_3 v_4) fun v_5 =>
 wpCall Try.prog X 35 [v_5] (fun v_6 s_7 =>
 (∀ b, s_3 b ≠ none → s_3 b = none → s_7 b = none) →
 optK (addOff 3 b_0) fun v_8 =>
 optK (rd1 (cutH [(s_3, (add s_3 s_7))] (add s_3 s_7)) v_8) fun v_9 =>
 wpCall Try.prog X 36 [v_9] (fun v_10 s_11 =>
 optK (addOff 2 b_0) fun v_12 =>
 optK (wr1 s_11 v_12 v_6) fun s_13 =>
 optK (addOff 3 b_0) fun v_14 =>
 optK (wr1 s_13 v_14 v_10) fun s_15 =>
 optK (rdN s_15 4 b_0) fun v_16 =>
 optK (wrAgg s_15 4 (.ptr b_2 0) (.agg v_16)) fun s_17 =>
 optK (rdN s_17 4 (.ptr b_2 0)) fun t2_18 =>
 K (.agg t2_18) s_17) (add s_3 s_7)) (frz s_3)) s_1) s
def vllaw15_copied_ann : Nat → List Nat := fun _ => []
theorem vllaw15_copied_eq (X : Told) (x0 : AVal) (K : KvP) (s : Heap) : wpC Try.prog X vllaw15_copied_ann Try.f12.ntmps none (bodyOf Try.f12) (envOf [x0]) (fun e env s => retK e (resK Try.prog Try.f12.results.toList env (fun vs => K (oneV vs) s) s)) s = vllaw15_copied X x0 K s := by kernel_rfl
theorem vllaw15_copied_ok {X : Told} (hX : FrX X) (hn : X 12 = none) {x0 : AVal} {K : KvP} {s : Heap} (h : vllaw15_copied X x0 K s) : wpCall Try.prog X 12 [x0] K s :=
 wpCall_code hX vllaw15_copied_ann hn Try.func12 (by kernel_rfl : Try.f12.body = some (bodyOf Try.f12)) (by kernel_rfl) ((vllaw15_copied_eq X x0 K s).mpr h)
theorem vllaw15_copied_in {x0 : AVal} {K : KvP} {s : Heap} (h : vllaw15_copied XX x0 K s) : wpCall Try.prog XX 12 [x0] K s := vllaw15_copied_ok XX_fr rfl h
def vlkit_Own_int_ (X : Told) (l0 : AVal) (K : KvP) (s : Heap) : Prop :=
 optK (fillR (repl 0 [(.int .i64 0)]) []) fun c_0 => allOne c_0 = true ∧ newK 3 c_0 (fun b_1 s_2 =>
 appK 3 1 (.slc b_1 0 0 (some 0) 1) l0 (fun v_3 s_4 =>
 K v_3 s_4) s_2) s
def vlkit_Own_int__ann : Nat → List Nat := fun _ => []
theorem vlkit_Own_int__eq (X : Told) (l0 : AVal) (K : KvP) (s : Heap) : wpC Try.prog X vlkit_Own_int__ann Try.f13.ntmps none (bodyOf Try.f13) (envOf [l0]) (fun e env s => retK e (resK Try.prog Try.f13.results.toList env (fun vs => K (oneV vs) s) s)) s = vlkit_Own_int_ X l0 K s := by kernel_rfl
theorem vlkit_Own_int__ok {X : Told} (hX : FrX X) (hn : X 13 = none) {l0 : AVal} {K : KvP} {s : Heap} (h : vlkit_Own_int_ X l0 K s) : wpCall Try.prog X 13 [l0] K s :=
 wpCall_code hX vlkit_Own_int__ann hn Try.func13 (by kernel_rfl : Try.f13.body = some (bodyOf Try.f13)) (by kernel_rfl) ((vlkit_Own_int__eq X l0 K s).mpr h)
theorem vlkit_Own_int__in {l0 : AVal} {K : KvP} {s : Heap} (h : vlkit_Own_int_ XX l0 K s) : wpCall Try.prog XX 13 [l0] K s := vlkit_Own_int__ok XX_fr rfl h
def vlref15_Root_j1 (X : Told) (l9 : AVal) (n10 : AVal) (I0 : IvP) (m0 : Nat) (K : KvP) (s : Heap) : Prop :=
 optK (arithV .add n10 (.int .i64 1)) fun v_20 =>
 ∃ m', m' < m0 ∧ I0 [l9, v_20] s m'
def vlref15_Root_l0 (X : Told) (group2 : AVal) (x3 : AVal) (d8 : AVal) (l9 : AVal) (n10 : AVal) (I0 : IvP) (m0 : Nat) (K : KvP) (s : Heap) : Prop :=
 optK (addOff 0 x3) fun v_11 =>
 optK (rd1 s v_11) fun v_12 =>
 optK (addOff 1 x3) fun v_13 =>
 optK (rd1 s v_13) fun v_14 =>
 optK (arithV .add v_12 v_14) fun v_15 =>
 optK (arithV .lss n10 v_15) fun v_16 =>
 boolK v_16
 (optK (iaddrS 1 d8 n10) fun v_17 =>
 optK (rd1 s v_17) fun v_18 =>
 optK (arithV .geq v_18 (.int .i64 0)) fun v_19 =>
 boolK v_19
 (optK (fillR (repl 1 [(.int .i64 0)]) [(0, 1, n10)]) fun c_21 => allOne c_21 = true ∧ newK 3 c_21 (fun b_22 s_23 =>
 appK 3 1 l9 (.slc b_22 0 1 (some 1) 1) (fun v_24 s_25 =>
 vlref15_Root_j1 X v_24 n10 I0 m0 K s_25) s_23) s)
 (vlref15_Root_j1 X l9 n10 I0 m0 K s))
 (optK (lenOfA l9) fun v_26 =>
 optK (negB false (eqV 0 true (.int .i64 v_26) (.int .i64 0))) fun v_28 =>
 boolK v_28
 (K (.tup [(.int .i64 0), (.bool false)]) s)
 (optK (convI .i64 group2) fun v_29 =>
 optK (lenOfA l9) fun v_30 =>
 optK (arithV .rem v_29 (.int .i64 v_30)) fun v_32 =>
 optK (iaddrS 1 l9 v_32) fun v_33 =>
 optK (rd1 s v_33) fun v_34 =>
 K (.tup [v_34, (.bool true)]) s))
def vlref15_Root (X : Told) (x0 : AVal) (self1 : AVal) (group2 : AVal) (K : KvP) (s : Heap) : Prop :=
 boxK 25 x0 (fun b_0 s_1 =>
 optK (rdN s_1 4 b_0) fun v_2 =>
 wpCall Try.prog X 39 [(.agg v_2), self1] (fun v_3 s_4 =>
 optK (unaryA .not v_3) fun v_5 =>
 boolK v_5
 (K (.tup [(.int .i64 0), (.bool false)]) s_4)
 (optK (rdN s_4 4 b_0) fun v_6 =>
 wpCall Try.prog X 40 [(.agg v_6), self1] (fun v_7 s_8 =>
 optK (addOff 0 b_0) fun v_9 =>
 optK (rd1 s_8 v_9) fun v_10 =>
 ∃ I0 : IvP, (∃ m, I0 [.nilslc, v_10] s_8 m) ∧ ∀ (f : Env) (s : Heap) (m0 : Nat), I0 [f 9, f 10] s m0 →
 vlref15_Root_l0 X group2 b_0 v_7 (f 9) (f 10) I0 m0 K s) s_4)) s_1) s
def vlref15_Root_ann : Nat → List Nat := fun k => cond (Nat.beq k 12) [9, 10] ([])
theorem vlref15_Root_eq (X : Told) (x0 : AVal) (self1 : AVal) (group2 : AVal) (K : KvP) (s : Heap) : wpC Try.prog X vlref15_Root_ann Try.f15.ntmps none (bodyOf Try.f15) (envOf [x0, self1, group2]) (fun e env s => retK e (resK Try.prog Try.f15.results.toList env (fun vs => K (oneV vs) s) s)) s = vlref15_Root X x0 self1 group2 K s := by kernel_rfl
theorem vlref15_Root_ok {X : Told} (hX : FrX X) (hn : X 15 = none) {x0 : AVal} {self1 : AVal} {group2 : AVal} {K : KvP} {s : Heap} (h : vlref15_Root X x0 self1 group2 K s) : wpCall Try.prog X 15 [x0, self1, group2] K s :=
 wpCall_code hX vlref15_Root_ann hn Try.func15 (by kernel_rfl : Try.f15.body = some (bodyOf Try.f15)) (by kernel_rfl) ((vlref15_Root_eq X x0 self1 group2 K s).mpr h)
theorem vlref15_Root_in {x0 : AVal} {self1 : AVal} {group2 : AVal} {K : KvP} {s : Heap} (h : vlref15_Root XX x0 self1 group2 K s) : wpCall Try.prog XX 15 [x0, self1, group2] K s := vlref15_Root_ok XX_fr rfl h
def vlkit_Same_int__l0 (X : Told) (a0 : AVal) (b1 : AVal) (i5 : AVal) (I0 : IvP) (m0 : Nat) (K : KvP) (s : Heap) : Prop :=
 optK (lenOfA a0) fun v_5 =>
 optK (arithV .lss i5 (.int .i64 v_5)) fun v_7 =>
 boolK v_7
 (optK (iaddrS 1 a0 i5) fun v_8 =>
 optK (rd1 s v_8) fun v_9 =>
 optK (iaddrS 1 b1 i5) fun v_10 =>
 optK (rd1 s v_10) fun v_11 =>
 optK (negB true (eqV 0 false v_9 v_11)) fun v_12 =>
 boolK v_12
 (K (.bool false) s)
 (optK (arithV .add i5 (.int .i64 1)) fun v_13 =>
 ∃ m', m' < m0 ∧ I0 [v_13] s m'))
 (K (.bool true) s)
def vlkit_Same_int_ (X : Told) (a0 : AVal) (b1 : AVal) (K : KvP) (s : Heap) : Prop :=
 optK (lenOfA a0) fun v_0 =>
 optK (lenOfA b1) fun v_2 =>
 optK (negB true (eqV 0 false (.int .i64 v_0) (.int .i64 v_2))) fun v_4 =>
 boolK v_4
 (K (.bool false) s)
 (∃ I0 : IvP, (∃ m, I0 [(.int .i64 0)] s m) ∧ ∀ (f : Env) (s : Heap) (m0 : Nat), I0 [f 5] s m0 →
 vlkit_Same_int__l0 X a0 b1 (f 5) I0 m0 K s)
def vlkit_Same_int__ann : Nat → List Nat := fun k => cond (Nat.beq k 8) [5] ([])
theorem vlkit_Same_int__eq (X : Told) (a0 : AVal) (b1 : AVal) (K : KvP) (s : Heap) : wpC Try.prog X vlkit_Same_int__ann Try.f16.ntmps none (bodyOf Try.f16) (envOf [a0, b1]) (fun e env s => retK e (resK Try.prog Try.f16.results.toList env (fun vs => K (oneV vs) s) s)) s = vlkit_Same_int_ X a0 b1 K s := by kernel_rfl
theorem vlkit_Same_int__ok {X : Told} (hX : FrX X) (hn : X 16 = none) {a0 : AVal} {b1 : AVal} {K : KvP} {s : Heap} (h : vlkit_Same_int_ X a0 b1 K s) : wpCall Try.prog X 16 [a0, b1] K s :=
 wpCall_code hX vlkit_Same_int__ann hn Try.func16 (by kernel_rfl : Try.f16.body = some (bodyOf Try.f16)) (by kernel_rfl) ((vlkit_Same_int__eq X a0 b1 K s).mpr h)
theorem vlkit_Same_int__in {a0 : AVal} {b1 : AVal} {K : KvP} {s : Heap} (h : vlkit_Same_int_ XX a0 b1 K s) : wpCall Try.prog XX 16 [a0, b1] K s := vlkit_Same_int__ok XX_fr rfl h
def vlref15_Edges_j1 (X : Told) (n12 : AVal) (I0 : IvP) (m0 : Nat) (K : KvP) (s : Heap) : Prop :=
 optK (arithV .add n12 (.int .i64 1)) fun v_19 =>
 ∃ m', m' < m0 ∧ I0 [v_19] s m'
def vlref15_Edges_l2 (X : Told) (t11 : AVal) (n12 : AVal) (l13 : AVal) (i14 : AVal) (I2 : IvP) (m2 : Nat) (I0 : IvP) (m0 : Nat) (K : KvP) (s : Heap) : Prop :=
 optK (lenOfA l13) fun v_35 =>
 optK (arithV .lss i14 (.int .i64 v_35)) fun v_37 =>
 boolK v_37
 (optK (iaddrS 1 l13 i14) fun v_38 =>
 optK (rd1 s v_38) fun v_39 =>
 optK (iaddrS 1 t11 v_39) fun v_40 =>
 optK (wr1 s v_40 (.bool true)) fun s_41 =>
 optK (arithV .add i14 (.int .i64 1)) fun v_42 =>
 ∃ m', m' < m2 ∧ I2 [v_42] s_41 m')
 (vlref15_Edges_j1 X n12 I0 m0 K s)
def vlref15_Edges_j4 (X : Told) (out15 : AVal) (i16 : AVal) (I3 : IvP) (m3 : Nat) (K : KvP) (s : Heap) : Prop :=
 optK (arithV .add i16 (.int .i64 1)) fun v_48 =>
 ∃ m', m' < m3 ∧ I3 [out15, v_48] s m'
def vlref15_Edges_l3 (X : Told) (t11 : AVal) (out15 : AVal) (i16 : AVal) (I3 : IvP) (m3 : Nat) (K : KvP) (s : Heap) : Prop :=
 optK (lenOfA t11) fun v_43 =>
 optK (arithV .lss i16 (.int .i64 v_43)) fun v_45 =>
 boolK v_45
 (optK (iaddrS 1 t11 i16) fun v_46 =>
 optK (rd1 s v_46) fun v_47 =>
 boolK v_47
 (optK (fillR (repl 1 [(.int .i64 0)]) [(0, 1, i16)]) fun c_49 => allOne c_49 = true ∧ newK 3 c_49 (fun b_50 s_51 =>
 appK 3 1 out15 (.slc b_50 0 1 (some 1) 1) (fun v_52 s_53 =>
 vlref15_Edges_j4 X v_52 i16 I3 m3 K s_53) s_51) s)
 (vlref15_Edges_j4 X out15 i16 I3 m3 K s))
 (K out15 s)
def vlref15_Edges_l0 (X : Told) (self1 : AVal) (members3 : AVal) (x4 : AVal) (root9 : AVal) (t11 : AVal) (n12 : AVal) (I0 : IvP) (m0 : Nat) (K : KvP) (s : Heap) : Prop :=
 optK (addOff 0 x4) fun v_16 =>
 optK (rd1 s v_16) fun v_17 =>
 optK (arithV .lss n12 v_17) fun v_18 =>
 boolK v_18
 (optK (rdN s 4 x4) fun v_20 =>
 wpCall Try.prog X 44 [(.agg v_20), self1, members3, n12] (fun v_21 s_22 =>
 optK (unaryA .not v_21) fun v_23 =>
 boolK v_23
 (vlref15_Edges_j1 X n12 I0 m0 K s_22)
 (optK (addOff 0 x4) fun v_24 =>
 optK (rd1 s_22 v_24) fun v_25 =>
 optK (addOff 1 x4) fun v_26 =>
 optK (rd1 s_22 v_26) fun v_27 =>
 optK (arithV .add v_25 v_27) fun v_28 =>
 optK (addOff 2 x4) fun v_29 =>
 optK (rd1 s_22 v_29) fun v_30 =>
 optK (addOff 3 x4) fun v_31 =>
 optK (rd1 s_22 v_31) fun v_32 =>
 wpCall Try.prog X 45 [v_28, v_30, v_32, root9, n12] (fun v_33 s_34 =>
 ∃ I2 : IvP, (∃ m, I2 [(.int .i64 0)] s_34 m) ∧ ∀ (f : Env) (s : Heap) (m2 : Nat), I2 [f 14] s m2 →
 vlref15_Edges_l2 X t11 n12 v_33 (f 14) I2 m2 I0 m0 K s) s_22)) s)
 (∃ I3 : IvP, (∃ m, I3 [.nilslc, (.int .i64 0)] s m) ∧ ∀ (f : Env) (s : Heap) (m3 : Nat), I3 [f 15, f 16] s m3 →
 vlref15_Edges_l3 X t11 (f 15) (f 16) I3 m3 K s)
def vlref15_Edges (X : Told) (x0 : AVal) (self1 : AVal) (group2 : AVal) (members3 : AVal) (K : KvP) (s : Heap) : Prop :=
 boxK 25 x0 (fun b_0 s_1 =>
 optK (rdN s_1 4 b_0) fun v_2 =>
 wpCall Try.prog X 15 [(.agg v_2), self1, group2] (fun v_3 s_4 =>
 optK (extractA v_3 0) fun v_5 =>
 optK (extractA v_3 1) fun v_6 =>
 optK (unaryA .not v_6) fun v_7 =>
 boolK v_7
 (K .nilslc s_4)
 (optK (addOff 2 b_0) fun v_8 =>
 optK (rd1 s_4 v_8) fun v_9 =>
 optK (lenOfA v_9) fun v_10 =>
 optK (nat? (.int .i64 v_10)) fun n_12 => optK (nat? (.int .i64 v_10)) fun n_13 => (n_12 ≤ n_13 ∧ n_13 ≤ 4294967296) ∧ newK 4 (repl n_13 [(.bool false)]) (fun b_14 s_15 =>
 ∃ I0 : IvP, (∃ m, I0 [(.int .i64 0)] s_15 m) ∧ ∀ (f : Env) (s : Heap) (m0 : Nat), I0 [f 12] s m0 →
 vlref15_Edges_l0 X self1 members3 b_0 v_5 (.slc b_14 0 n_12 (some n_13) 1) (f 12) I0 m0 K s) s_4)) s_1) s
def vlref15_Edges_ann : Nat → List Nat := fun k => cond (Nat.beq k 12) [12] (cond (Nat.beq k 22) [14] (cond (Nat.beq k 32) [15, 16] ([])))
theorem vlref15_Edges_eq (X : Told) (x0 : AVal) (self1 : AVal) (group2 : AVal) (members3 : AVal) (K : KvP) (s : Heap) : wpC Try.prog X vlref15_Edges_ann Try.f18.ntmps none (bodyOf Try.f18) (envOf [x0, self1, group2, members3]) (fun e env s => retK e (resK Try.prog Try.f18.results.toList env (fun vs => K (oneV vs) s) s)) s = vlref15_Edges X x0 self1 group2 members3 K s := by kernel_rfl
theorem vlref15_Edges_ok {X : Told} (hX : FrX X) (hn : X 18 = none) {x0 : AVal} {self1 : AVal} {group2 : AVal} {members3 : AVal} {K : KvP} {s : Heap} (h : vlref15_Edges X x0 self1 group2 members3 K s) : wpCall Try.prog X 18 [x0, self1, group2, members3] K s :=
 wpCall_code hX vlref15_Edges_ann hn Try.func18 (by kernel_rfl : Try.f18.body = some (bodyOf Try.f18)) (by kernel_rfl) ((vlref15_Edges_eq X x0 self1 group2 members3 K s).mpr h)
theorem vlref15_Edges_in {x0 : AVal} {self1 : AVal} {group2 : AVal} {members3 : AVal} {K : KvP} {s : Heap} (h : vlref15_Edges XX x0 self1 group2 members3 K s) : wpCall Try.prog XX 18 [x0, self1, group2, members3] K s := vlref15_Edges_ok XX_fr rfl h
def vlkit_Same_api_Link__l0 (X : Told) (a0 : AVal) (b1 : AVal) (i5 : AVal) (I0 : IvP) (m0 : Nat) (K : KvP) (s : Heap) : Prop :=
 optK (lenOfA a0) fun v_5 =>
 optK (arithV .lss i5 (.int .i64 v_5)) fun v_7 =>
 boolK v_7
 (optK (iaddrS 3 a0 i5) fun v_8 =>
 optK (rdN s 3 v_8) fun v_9 =>
 optK (iaddrS 3 b1 i5) fun v_10 =>
 optK (rdN s 3 v_10) fun v_11 =>
 optK (negB true (eqAgg Try.prog 39 (.agg v_9) (.agg v_11))) fun v_12 =>
 boolK v_12
 (K (.bool false) s)
 (optK (arithV .add i5 (.int .i64 1)) fun v_13 =>
 ∃ m', m' < m0 ∧ I0 [v_13] s m'))
 (K (.bool true) s)
def vlkit_Same_api_Link_ (X : Told) (a0 : AVal) (b1 : AVal) (K : KvP) (s : Heap) : Prop :=
 optK (lenOfA a0) fun v_0 =>
 optK (lenOfA b1) fun v_2 =>
 optK (negB true (eqV 0 false (.int .i64 v_0) (.int .i64 v_2))) fun v_4 =>
 boolK v_4
 (K (.bool false) s)
 (∃ I0 : IvP, (∃ m, I0 [(.int .i64 0)] s m) ∧ ∀ (f : Env) (s : Heap) (m0 : Nat), I0 [f 5] s m0 →
 vlkit_Same_api_Link__l0 X a0 b1 (f 5) I0 m0 K s)
def vlkit_Same_api_Link__ann : Nat → List Nat := fun k => cond (Nat.beq k 8) [5] ([])
theorem vlkit_Same_api_Link__eq (X : Told) (a0 : AVal) (b1 : AVal) (K : KvP) (s : Heap) : wpC Try.prog X vlkit_Same_api_Link__ann Try.f19.ntmps none (bodyOf Try.f19) (envOf [a0, b1]) (fun e env s => retK e (resK Try.prog Try.f19.results.toList env (fun vs => K (oneV vs) s) s)) s = vlkit_Same_api_Link_ X a0 b1 K s := by kernel_rfl
theorem vlkit_Same_api_Link__ok {X : Told} (hX : FrX X) (hn : X 19 = none) {a0 : AVal} {b1 : AVal} {K : KvP} {s : Heap} (h : vlkit_Same_api_Link_ X a0 b1 K s) : wpCall Try.prog X 19 [a0, b1] K s :=
 wpCall_code hX vlkit_Same_api_Link__ann hn Try.func19 (by kernel_rfl : Try.f19.body = some (bodyOf Try.f19)) (by kernel_rfl) ((vlkit_Same_api_Link__eq X a0 b1 K s).mpr h)
theorem vlkit_Same_api_Link__in {a0 : AVal} {b1 : AVal} {K : KvP} {s : Heap} (h : vlkit_Same_api_Link_ XX a0 b1 K s) : wpCall Try.prog XX 19 [a0, b1] K s := vlkit_Same_api_Link__ok XX_fr rfl h
def vlkit_Same_bool__l0 (X : Told) (a0 : AVal) (b1 : AVal) (i5 : AVal) (I0 : IvP) (m0 : Nat) (K : KvP) (s : Heap) : Prop :=
 optK (lenOfA a0) fun v_5 =>
 optK (arithV .lss i5 (.int .i64 v_5)) fun v_7 =>
 boolK v_7
 (optK (iaddrS 1 a0 i5) fun v_8 =>
 optK (rd1 s v_8) fun v_9 =>
 optK (iaddrS 1 b1 i5) fun v_10 =>
 optK (rd1 s v_10) fun v_11 =>
 optK (negB true (eqV 1 false v_9 v_11)) fun v_12 =>
 boolK v_12
 (K (.bool false) s)
 (optK (arithV .add i5 (.int .i64 1)) fun v_13 =>
 ∃ m', m' < m0 ∧ I0 [v_13] s m'))
 (K (.bool true) s)
def vlkit_Same_bool_ (X : Told) (a0 : AVal) (b1 : AVal) (K : KvP) (s : Heap) : Prop :=
 optK (lenOfA a0) fun v_0 =>
 optK (lenOfA b1) fun v_2 =>
 optK (negB true (eqV 0 false (.int .i64 v_0) (.int .i64 v_2))) fun v_4 =>
 boolK v_4
 (K (.bool false) s)
 (∃ I0 : IvP, (∃ m, I0 [(.int .i64 0)] s m) ∧ ∀ (f : Env) (s : Heap) (m0 : Nat), I0 [f 5] s m0 →
 vlkit_Same_bool__l0 X a0 b1 (f 5) I0 m0 K s)
def vlkit_Same_bool__ann : Nat → List Nat := fun k => cond (Nat.beq k 8) [5] ([])
theorem vlkit_Same_bool__eq (X : Told) (a0 : AVal) (b1 : AVal) (K : KvP) (s : Heap) : wpC Try.prog X vlkit_Same_bool__ann Try.f20.ntmps none (bodyOf Try.f20) (envOf [a0, b1]) (fun e env s => retK e (resK Try.prog Try.f20.results.toList env (fun vs => K (oneV vs) s) s)) s = vlkit_Same_bool_ X a0 b1 K s := by kernel_rfl
theorem vlkit_Same_bool__ok {X : Told} (hX : FrX X) (hn : X 20 = none) {a0 : AVal} {b1 : AVal} {K : KvP} {s : Heap} (h : vlkit_Same_bool_ X a0 b1 K s) : wpCall Try.prog X 20 [a0, b1] K s :=
 wpCall_code hX vlkit_Same_bool__ann hn Try.func20 (by kernel_rfl : Try.f20.body = some (bodyOf Try.f20)) (by kernel_rfl) ((vlkit_Same_bool__eq X a0 b1 K s).mpr h)
theorem vlkit_Same_bool__in {a0 : AVal} {b1 : AVal} {K : KvP} {s : Heap} (h : vlkit_Same_bool_ XX a0 b1 K s) : wpCall Try.prog XX 20 [a0, b1] K s := vlkit_Same_bool__ok XX_fr rfl h
def vlref15_Next_j1 (X : Told) (out13 : AVal) (along14 : AVal) (i15 : AVal) (I0 : IvP) (m0 : Nat) (K : KvP) (s : Heap) : Prop :=
 optK (arithV .add i15 (.int .i64 1)) fun v_8 =>
 ∃ m', m' < m0 ∧ I0 [out13, along14, v_8] s m'
def vlref15_Next_j2 (X : Told) (t4 : AVal) (l12 : AVal) (out13 : AVal) (along14 : AVal) (i15 : AVal) (t39 : AVal) (t50 : AVal) (I0 : IvP) (m0 : Nat) (K : KvP) (s : Heap) : Prop :=
 optK (pickV t39 t50 (.bool false)) fun v_17 =>
 boolK v_17
 (vlref15_Next_j1 X out13 along14 i15 I0 m0 K s)
 (optK (iaddrS 1 l12 i15) fun v_18 =>
 optK (rd1 s v_18) fun v_19 =>
 optK (negB false (eqV 0 false v_19 t4)) fun v_20 =>
 boolK v_20
 (vlref15_Next_j1 X out13 (.bool true) i15 I0 m0 K s)
 (optK (iaddrS 1 l12 i15) fun v_21 =>
 optK (rd1 s v_21) fun v_22 =>
 optK (fillR (repl 1 [(.int .i64 0)]) [(0, 1, v_22)]) fun c_23 => allOne c_23 = true ∧ newK 3 c_23 (fun b_24 s_25 =>
 appK 3 1 out13 (.slc b_24 0 1 (some 1) 1) (fun v_26 s_27 =>
 vlref15_Next_j1 X v_26 along14 i15 I0 m0 K s_27) s_25) s))
def vlref15_Next_j3 (X : Told) (out13 : AVal) (along14 : AVal) (t16 : AVal) (t77 : AVal) (t78 : AVal) (K : KvP) (s : Heap) : Prop :=
 optK (pickV t77 t78 (.bool false)) fun v_44 =>
 boolK v_44
 (K (.tup [out13, (.bool false)]) s)
 (boolK along14
 (K (.tup [out13, t16]) s)
 (K (.tup [.nilslc, (.bool false)]) s))
def vlref15_Next_l0 (X : Told) (self1 : AVal) (members3 : AVal) (t4 : AVal) (x5 : AVal) (l12 : AVal) (out13 : AVal) (along14 : AVal) (i15 : AVal) (I0 : IvP) (m0 : Nat) (K : KvP) (s : Heap) : Prop :=
 optK (lenOfA l12) fun v_5 =>
 optK (arithV .lss i15 (.int .i64 v_5)) fun v_7 =>
 boolK v_7
 (optK (addOff 2 x5) fun v_9 =>
 optK (rd1 s v_9) fun v_10 =>
 optK (iaddrS 1 l12 i15) fun v_11 =>
 optK (rd1 s v_11) fun v_12 =>
 optK (iaddrS 3 v_10 v_12) fun v_13 =>
 optK (addOff 0 v_13) fun v_14 =>
 optK (rd1 s v_14) fun v_15 =>
 optK (negB true (eqV 0 false v_15 self1)) fun v_16 =>
 boolK v_16
 (optK (addOff 2 x5) fun v_28 =>
 optK (rd1 s v_28) fun v_29 =>
 optK (iaddrS 1 l12 i15) fun v_30 =>
 optK (rd1 s v_30) fun v_31 =>
 optK (iaddrS 3 v_29 v_31) fun v_32 =>
 optK (addOff 1 v_32) fun v_33 =>
 optK (rd1 s v_33) fun v_34 =>
 optK (negB true (eqV 0 false v_34 self1)) fun v_35 =>
 vlref15_Next_j2 X t4 l12 out13 along14 i15 v_16 v_35 I0 m0 K s)
 (vlref15_Next_j2 X t4 l12 out13 along14 i15 v_16 .undef I0 m0 K s))
 (optK (rdN s 4 x5) fun v_36 =>
 wpCall Try.prog X 39 [(.agg v_36), self1] (fun v_37 s_38 =>
 optK (unaryA .not v_37) fun v_39 =>
 boolK v_39
 (K (.tup [.nilslc, (.bool false)]) s_38)
 (optK (rdN s_38 4 x5) fun v_40 =>
 wpCall Try.prog X 44 [(.agg v_40), self1, members3, self1] (fun v_41 s_42 =>
 optK (negB false (eqV 0 true t4 (.int .i64 (-1)))) fun v_43 =>
 boolK v_43
 (vlref15_Next_j3 X out13 along14 v_41 v_43 v_41 K s_42)
 (vlref15_Next_j3 X out13 along14 v_41 v_43 .undef K s_42)) s_38)) s)
def vlref15_Next (X : Told) (x0 : AVal) (self1 : AVal) (group2 : AVal) (members3 : AVal) (t4 : AVal) (K : KvP) (s : Heap) : Prop :=
 boxK 25 x0 (fun b_0 s_1 =>
 optK (rdN s_1 4 b_0) fun v_2 =>
 wpCall Try.prog X 18 [(.agg v_2), self1, group2, members3] (fun v_3 s_4 =>
 ∃ I0 : IvP, (∃ m, I0 [.nilslc, (.bool false), (.int .i64 0)] s_4 m) ∧ ∀ (f : Env) (s : Heap) (m0 : Nat), I0 [f 13, f 14, f 15] s m0 →
 vlref15_Next_l0 X self1 members3 t4 b_0 v_3 (f 13) (f 14) (f 15) I0 m0 K s) s_1) s
def vlref15_Next_ann : Nat → List Nat := fun k => cond (Nat.beq k 10) [13, 14, 15] ([])
theorem vlref15_Next_eq (X : Told) (x0 : AVal) (self1 : AVal) (group2 : AVal) (members3 : AVal) (t4 : AVal) (K : KvP) (s : Heap) : wpC Try.prog X vlref15_Next_ann Try.f22.ntmps none (bodyOf Try.f22) (envOf [x0, self1, group2, members3, t4]) (fun e env s => retK e (resK Try.prog Try.f22.results.toList env (fun vs => K (oneV vs) s) s)) s = vlref15_Next X x0 self1 group2 members3 t4 K s := by kernel_rfl
theorem vlref15_Next_ok {X : Told} (hX : FrX X) (hn : X 22 = none) {x0 : AVal} {self1 : AVal} {group2 : AVal} {members3 : AVal} {t4 : AVal} {K : KvP} {s : Heap} (h : vlref15_Next X x0 self1 group2 members3 t4 K s) : wpCall Try.prog X 22 [x0, self1, group2, members3, t4] K s :=
 wpCall_code hX vlref15_Next_ann hn Try.func22 (by kernel_rfl : Try.f22.body = some (bodyOf Try.f22)) (by kernel_rfl) ((vlref15_Next_eq X x0 self1 group2 members3 t4 K s).mpr h)
theorem vlref15_Next_in {x0 : AVal} {self1 : AVal} {group2 : AVal} {members3 : AVal} {t4 : AVal} {K : KvP} {s : Heap} (h : vlref15_Next XX x0 self1 group2 members3 t4 K s) : wpCall Try.prog XX 22 [x0, self1, group2, members3, t4] K s := vlref15_Next_ok XX_fr rfl h
def vc_tree_Forward_l0 (X : Told) (p8 : AVal) (sent10 : AVal) (t11 : AVal) (t52 : AVal) (t53 : AVal) (t54 : AVal) (I0 : IvP) (m0 : Nat) (K : KvP) (s : Heap) : Prop :=
 optK (arithV .lss t54 t53) fun v_33 =>
 boolK v_33
 (optK (iaddrS 1 t52 t54) fun v_34 =>
 optK (rd1 s v_34) fun v_35 =>
 optK (rdN s 21 p8) fun v_36 =>
 optK (fillR [(.int .i64 0), (.int .u32 0), (.int .u32 0), (.int .i64 0), (.int .i64 0), (.int .u32 0), (.int .u32 0), (.int .u64 0), (.int .u64 0), (.int .i64 0), (.int .i64 0), (.int .u64 0), (.int .u32 0), (.int .u64 0), (.int .u32 0), (.int .u32 0), (.int .u32 0), (.int .i64 0), (.int .i64 0), (.int .i64 0), (.int .i64 0), (.int .u64 0)] [(0, 1, v_35), (1, 21, (.agg v_36))]) fun c_37 =>
 optK (fillR (repl 1 [(.int .i64 0), (.int .u32 0), (.int .u32 0), (.int .i64 0), (.int .i64 0), (.int .u32 0), (.int .u32 0), (.int .u64 0), (.int .u64 0), (.int .i64 0), (.int .i64 0), (.int .u64 0), (.int .u32 0), (.int .u64 0), (.int .u32 0), (.int .u32 0), (.int .u32 0), (.int .i64 0), (.int .i64 0), (.int .i64 0), (.int .i64 0), (.int .u64 0)]) [(0, 22, (.agg c_37))]) fun c_38 => allOne c_38 = true ∧ newK 60 c_38 (fun b_39 s_40 =>
 appK 60 22 sent10 (.slc b_39 0 1 (some 1) 22) (fun v_41 s_42 =>
 optK (arithV .add t54 (.int .i64 1)) fun v_43 =>
 ∃ m', m' < m0 ∧ I0 [v_41, v_43] s_42 m') s_40) s)
 (K (.tup [sent10, t11, (.int .i64 0)]) s)
def vc_tree_Forward (X : Told) (x0 : AVal) (self1 : AVal) (members2 : AVal) (p3 : AVal) (t4 : AVal) (K : KvP) (s : Heap) : Prop :=
 boxK 25 x0 (fun b_0 s_1 =>
 boxK 51 p3 (fun b_2 s_3 =>
 optK (rdN s_3 4 b_0) fun v_4 =>
 wpCall Try.prog X 38 [(.agg v_4), self1] (fun v_5 s_6 =>
 optK (negB false (eqV 5 true v_5 .nilslc)) fun v_7 =>
 boolK v_7
 (K (.tup [.nilslc, (.bool false), (.int .i64 3)]) s_6)
 (optK (rdN s_6 4 b_0) fun v_8 =>
 optK (addOff 1 b_2) fun v_9 =>
 optK (rd1 s_6 v_9) fun v_10 =>
 wpCall Try.prog X 37 [(.agg v_8), v_5, v_10] (fun v_11 s_12 =>
 optK (extractA v_11 0) fun v_13 =>
 optK (extractA v_11 1) fun v_14 =>
 optK (unaryA .not v_14) fun v_15 =>
 boolK v_15
 (K (.tup [.nilslc, (.bool false), (.int .i64 13)]) s_12)
 (optK (rdN s_12 4 b_0) fun v_16 =>
 optK (addOff 1 b_2) fun v_17 =>
 optK (rd1 s_12 v_17) fun v_18 =>
 wpCall Try.prog X 21 [(.agg v_16), self1, v_18, members2, t4] (fun v_19 s_20 =>
 optK (extractA v_19 0) fun v_21 =>
 optK (extractA v_19 1) fun v_22 =>
 optK (addOff 2 b_2) fun v_23 =>
 optK (rd1 s_20 v_23) fun v_24 =>
 optK (arithV .lss v_24 (.int .i64 2)) fun v_25 =>
 boolK v_25
 (K (.tup [.nilslc, v_22, (.int .i64 0)]) s_20)
 (optK (addOff 2 b_2) fun v_26 =>
 optK (rd1 s_20 v_26) fun v_27 =>
 optK (arithV .sub v_27 (.int .i64 1)) fun v_28 =>
 optK (addOff 2 b_2) fun v_29 =>
 optK (wr1 s_20 v_29 v_28) fun s_30 =>
 optK (lenOfA v_21) fun v_31 =>
 ∃ I0 : IvP, (∃ m, I0 [.nilslc, (.int .i64 0)] s_30 m) ∧ ∀ (f : Env) (s : Heap) (m0 : Nat), I0 [f 10, f 54] s m0 →
 vc_tree_Forward_l0 X b_2 (f 10) v_22 v_21 (.int .i64 v_31) (f 54) I0 m0 K s)) s_12)) s_6)) s_3) s_1) s
def vc_tree_Forward_ann : Nat → List Nat := fun k => cond (Nat.beq k 24) [10, 54] ([])
theorem vc_tree_Forward_eq (X : Told) (x0 : AVal) (self1 : AVal) (members2 : AVal) (p3 : AVal) (t4 : AVal) (K : KvP) (s : Heap) : wpC Try.prog X vc_tree_Forward_ann Try.f23.ntmps none (bodyOf Try.f23) (envOf [x0, self1, members2, p3, t4]) (fun e env s => retK e (resK Try.prog Try.f23.results.toList env (fun vs => K (oneV vs) s) s)) s = vc_tree_Forward X x0 self1 members2 p3 t4 K s := by kernel_rfl
theorem vc_tree_Forward_ok {X : Told} (hX : FrX X) (hn : X 23 = none) {x0 : AVal} {self1 : AVal} {members2 : AVal} {p3 : AVal} {t4 : AVal} {K : KvP} {s : Heap} (h : vc_tree_Forward X x0 self1 members2 p3 t4 K s) : wpCall Try.prog X 23 [x0, self1, members2, p3, t4] K s :=
 wpCall_code hX vc_tree_Forward_ann hn Try.func23 (by kernel_rfl : Try.f23.body = some (bodyOf Try.f23)) (by kernel_rfl) ((vc_tree_Forward_eq X x0 self1 members2 p3 t4 K s).mpr h)
theorem vc_tree_Forward_in {x0 : AVal} {self1 : AVal} {members2 : AVal} {p3 : AVal} {t4 : AVal} {K : KvP} {s : Heap} (h : vc_tree_Forward XX x0 self1 members2 p3 t4 K s) : wpCall Try.prog XX 23 [x0, self1, members2, p3, t4] K s := vc_tree_Forward_ok XX_fr rfl h
def vlref15_Forward_l0 (X : Told) (p8 : AVal) (l15 : AVal) (t16 : AVal) (out17 : AVal) (i18 : AVal) (I0 : IvP) (m0 : Nat) (K : KvP) (s : Heap) : Prop :=
 optK (lenOfA l15) fun v_31 =>
 optK (arithV .lss i18 (.int .i64 v_31)) fun v_33 =>
 boolK v_33
 (optK (iaddrS 1 l15 i18) fun v_34 =>
 optK (rd1 s v_34) fun v_35 =>
 optK (rdN s 21 p8) fun v_36 =>
 optK (fillR [(.int .i64 0), (.int .u32 0), (.int .u32 0), (.int .i64 0), (.int .i64 0), (.int .u32 0), (.int .u32 0), (.int .u64 0), (.int .u64 0), (.int .i64 0), (.int .i64 0), (.int .u64 0), (.int .u32 0), (.int .u64 0), (.int .u32 0), (.int .u32 0), (.int .u32 0), (.int .i64 0), (.int .i64 0), (.int .i64 0), (.int .i64 0), (.int .u64 0)] [(0, 1, v_35), (1, 21, (.agg v_36))]) fun c_37 =>
 optK (fillR (repl 1 [(.int .i64 0), (.int .u32 0), (.int .u32 0), (.int .i64 0), (.int .i64 0), (.int .u32 0), (.int .u32 0), (.int .u64 0), (.int .u64 0), (.int .i64 0), (.int .i64 0), (.int .u64 0), (.int .u32 0), (.int .u64 0), (.int .u32 0), (.int .u32 0), (.int .u32 0), (.int .i64 0), (.int .i64 0), (.int .i64 0), (.int .i64 0), (.int .u64 0)]) [(0, 22, (.agg c_37))]) fun c_38 => allOne c_38 = true ∧ newK 60 c_38 (fun b_39 s_40 =>
 appK 60 22 out17 (.slc b_39 0 1 (some 1) 22) (fun v_41 s_42 =>
 optK (arithV .add i18 (.int .i64 1)) fun v_43 =>
 ∃ m', m' < m0 ∧ I0 [v_41, v_43] s_42 m') s_40) s)
 (K (.tup [out17, t16, (.int .i64 0)]) s)
def vlref15_Forward (X : Told) (x0 : AVal) (self1 : AVal) (members2 : AVal) (p3 : AVal) (t4 : AVal) (K : KvP) (s : Heap) : Prop :=
 boxK 25 x0 (fun b_0 s_1 =>
 boxK 51 p3 (fun b_2 s_3 =>
 optK (rdN s_3 4 b_0) fun v_4 =>
 wpCall Try.prog X 39 [(.agg v_4), self1] (fun v_5 s_6 =>
 optK (unaryA .not v_5) fun v_7 =>
 boolK v_7
 (K (.tup [.nilslc, (.bool false), (.int .i64 3)]) s_6)
 (optK (rdN s_6 4 b_0) fun v_8 =>
 optK (addOff 1 b_2) fun v_9 =>
 optK (rd1 s_6 v_9) fun v_10 =>
 wpCall Try.prog X 15 [(.agg v_8), self1, v_10] (fun v_11 s_12 =>
 optK (extractA v_11 0) fun v_13 =>
 optK (extractA v_11 1) fun v_14 =>
 optK (unaryA .not v_14) fun v_15 =>
 boolK v_15
 (K (.tup [.nilslc, (.bool false), (.int .i64 13)]) s_12)
 (optK (rdN s_12 4 b_0) fun v_16 =>
 optK (addOff 1 b_2) fun v_17 =>
 optK (rd1 s_12 v_17) fun v_18 =>
 wpCall Try.prog X 22 [(.agg v_16), self1, v_18, members2, t4] (fun v_19 s_20 =>
 optK (extractA v_19 0) fun v_21 =>
 optK (extractA v_19 1) fun v_22 =>
 optK (addOff 2 b_2) fun v_23 =>
 optK (rd1 s_20 v_23) fun v_24 =>
 optK (arithV .lss v_24 (.int .i64 2)) fun v_25 =>
 boolK v_25
 (K (.tup [.nilslc, v_22, (.int .i64 0)]) s_20)
 (optK (addOff 2 b_2) fun v_26 =>
 optK (rd1 s_20 v_26) fun v_27 =>
 optK (arithV .sub v_27 (.int .i64 1)) fun v_28 =>
 optK (addOff 2 b_2) fun v_29 =>
 optK (wr1 s_20 v_29 v_28) fun s_30 =>
 ∃ I0 : IvP, (∃ m, I0 [.nilslc, (.int .i64 0)] s_30 m) ∧ ∀ (f : Env) (s : Heap) (m0 : Nat), I0 [f 17, f 18] s m0 →
 vlref15_Forward_l0 X b_2 v_21 v_22 (f 17) (f 18) I0 m0 K s)) s_12)) s_6)) s_3) s_1) s
def vlref15_Forward_ann : Nat → List Nat := fun k => cond (Nat.beq k 24) [17, 18] ([])
theorem vlref15_Forward_eq (X : Told) (x0 : AVal) (self1 : AVal) (members2 : AVal) (p3 : AVal) (t4 : AVal) (K : KvP) (s : Heap) : wpC Try.prog X vlref15_Forward_ann Try.f24.ntmps none (bodyOf Try.f24) (envOf [x0, self1, members2, p3, t4]) (fun e env s => retK e (resK Try.prog Try.f24.results.toList env (fun vs => K (oneV vs) s) s)) s = vlref15_Forward X x0 self1 members2 p3 t4 K s := by kernel_rfl
theorem vlref15_Forward_ok {X : Told} (hX : FrX X) (hn : X 24 = none) {x0 : AVal} {self1 : AVal} {members2 : AVal} {p3 : AVal} {t4 : AVal} {K : KvP} {s : Heap} (h : vlref15_Forward X x0 self1 members2 p3 t4 K s) : wpCall Try.prog X 24 [x0, self1, members2, p3, t4] K s :=
 wpCall_code hX vlref15_Forward_ann hn Try.func24 (by kernel_rfl : Try.f24.body = some (bodyOf Try.f24)) (by kernel_rfl) ((vlref15_Forward_eq X x0 self1 members2 p3 t4 K s).mpr h)
theorem vlref15_Forward_in {x0 : AVal} {self1 : AVal} {members2 : AVal} {p3 : AVal} {t4 : AVal} {K : KvP} {s : Heap} (h : vlref15_Forward XX x0 self1 members2 p3 t4 K s) : wpCall Try.prog XX 24 [x0, self1, members2, p3, t4] K s := vlref15_Forward_ok XX_fr rfl h
def vlkit_Same_api_Sent__l0 (X : Told) (a0 : AVal) (b1 : AVal) (i5 : AVal) (I0 : IvP) (m0 : Nat) (K : KvP) (s : Heap) : Prop :=
 optK (lenOfA a0) fun v_5 =>
 optK (arithV .lss i5 (.int .i64 v_5)) fun v_7 =>
 boolK v_7
 (optK (iaddrS 22 a0 i5) fun v_8 =>
 optK (rdN s 22 v_8) fun v_9 =>
 optK (iaddrS 22 b1 i5) fun v_10 =>
 optK (rdN s 22 v_10) fun v_11 =>
 optK (negB true (eqAgg Try.prog 60 (.agg v_9) (.agg v_11))) fun v_12 =>
 boolK v_12
 (K (.bool false) s)
 (optK (arithV .add i5 (.int .i64 1)) fun v_13 =>
 ∃ m', m' < m0 ∧ I0 [v_13] s m'))
 (K (.bool true) s)
def vlkit_Same_api_Sent_ (X : Told) (a0 : AVal) (b1 : AVal) (K : KvP) (s : Heap) : Prop :=
 optK (lenOfA a0) fun v_0 =>
 optK (lenOfA b1) fun v_2 =>
 optK (negB true (eqV 0 false (.int .i64 v_0) (.int .i64 v_2))) fun v_4 =>
 boolK v_4
 (K (.bool false) s)
 (∃ I0 : IvP, (∃ m, I0 [(.int .i64 0)] s m) ∧ ∀ (f : Env) (s : Heap) (m0 : Nat), I0 [f 5] s m0 →
 vlkit_Same_api_Sent__l0 X a0 b1 (f 5) I0 m0 K s)
def vlkit_Same_api_Sent__ann : Nat → List Nat := fun k => cond (Nat.beq k 8) [5] ([])
theorem vlkit_Same_api_Sent__eq (X : Told) (a0 : AVal) (b1 : AVal) (K : KvP) (s : Heap) : wpC Try.prog X vlkit_Same_api_Sent__ann Try.f25.ntmps none (bodyOf Try.f25) (envOf [a0, b1]) (fun e env s => retK e (resK Try.prog Try.f25.results.toList env (fun vs => K (oneV vs) s) s)) s = vlkit_Same_api_Sent_ X a0 b1 K s := by kernel_rfl
theorem vlkit_Same_api_Sent__ok {X : Told} (hX : FrX X) (hn : X 25 = none) {a0 : AVal} {b1 : AVal} {K : KvP} {s : Heap} (h : vlkit_Same_api_Sent_ X a0 b1 K s) : wpCall Try.prog X 25 [a0, b1] K s :=
 wpCall_code hX vlkit_Same_api_Sent__ann hn Try.func25 (by kernel_rfl : Try.f25.body = some (bodyOf Try.f25)) (by kernel_rfl) ((vlkit_Same_api_Sent__eq X a0 b1 K s).mpr h)
theorem vlkit_Same_api_Sent__in {a0 : AVal} {b1 : AVal} {K : KvP} {s : Heap} (h : vlkit_Same_api_Sent_ XX a0 b1 K s) : wpCall Try.prog XX 25 [a0, b1] K s := vlkit_Same_api_Sent__ok XX_fr rfl h
def vc_spf_Dist (X : Told) (nodes0 : AVal) (links1 : AVal) (up2 : AVal) (t3 : AVal) (K : KvP) (s : Heap) : Prop :=
 optK (fillR (repl 1 [(.int .i64 0)]) [(0, 1, t3)]) fun c_0 => allOne c_0 = true ∧ newK 3 c_0 (fun b_1 s_2 =>
 wpCall Try.prog X 48 [nodes0, links1, up2, (.slc b_1 0 1 (some 1) 1)] (fun v_3 s_4 =>
 optK (unaryA .not v_3) fun v_5 =>
 boolK v_5
 (K .nilslc s_4)
 (wpCall Try.prog X 50 [nodes0, links1, up2] (fun v_6 s_7 =>
 wpCall Try.prog X 49 [v_6, t3] (fun v_8 s_9 =>
 K v_8 s_9) s_7) s_4)) s_2) s
def vc_spf_Dist_ann : Nat → List Nat := fun _ => []
theorem vc_spf_Dist_eq (X : Told) (nodes0 : AVal) (links1 : AVal) (up2 : AVal) (t3 : AVal) (K : KvP) (s : Heap) : wpC Try.prog X vc_spf_Dist_ann Try.f33.ntmps none (bodyOf Try.f33) (envOf [nodes0, links1, up2, t3]) (fun e env s => retK e (resK Try.prog Try.f33.results.toList env (fun vs => K (oneV vs) s) s)) s = vc_spf_Dist X nodes0 links1 up2 t3 K s := by kernel_rfl
theorem vc_spf_Dist_ok {X : Told} (hX : FrX X) (hn : X 33 = none) {nodes0 : AVal} {links1 : AVal} {up2 : AVal} {t3 : AVal} {K : KvP} {s : Heap} (h : vc_spf_Dist X nodes0 links1 up2 t3 K s) : wpCall Try.prog X 33 [nodes0, links1, up2, t3] K s :=
 wpCall_code hX vc_spf_Dist_ann hn Try.func33 (by kernel_rfl : Try.f33.body = some (bodyOf Try.f33)) (by kernel_rfl) ((vc_spf_Dist_eq X nodes0 links1 up2 t3 K s).mpr h)
theorem vc_spf_Dist_in {nodes0 : AVal} {links1 : AVal} {up2 : AVal} {t3 : AVal} {K : KvP} {s : Heap} (h : vc_spf_Dist XX nodes0 links1 up2 t3 K s) : wpCall Try.prog XX 33 [nodes0, links1, up2, t3] K s := vc_spf_Dist_ok XX_fr rfl h
def vlkit_Own_api_Link_ (X : Told) (l0 : AVal) (K : KvP) (s : Heap) : Prop :=
 optK (fillR (repl 0 [(.int .i64 0), (.int .i64 0), (.int .i64 0)]) []) fun c_0 => allOne c_0 = true ∧ newK 39 c_0 (fun b_1 s_2 =>
 appK 39 3 (.slc b_1 0 0 (some 0) 3) l0 (fun v_3 s_4 =>
 K v_3 s_4) s_2) s
def vlkit_Own_api_Link__ann : Nat → List Nat := fun _ => []
theorem vlkit_Own_api_Link__eq (X : Told) (l0 : AVal) (K : KvP) (s : Heap) : wpC Try.prog X vlkit_Own_api_Link__ann Try.f35.ntmps none (bodyOf Try.f35) (envOf [l0]) (fun e env s => retK e (resK Try.prog Try.f35.results.toList env (fun vs => K (oneV vs) s) s)) s = vlkit_Own_api_Link_ X l0 K s := by kernel_rfl
theorem vlkit_Own_api_Link__ok {X : Told} (hX : FrX X) (hn : X 35 = none) {l0 : AVal} {K : KvP} {s : Heap} (h : vlkit_Own_api_Link_ X l0 K s) : wpCall Try.prog X 35 [l0] K s :=
 wpCall_code hX vlkit_Own_api_Link__ann hn Try.func35 (by kernel_rfl : Try.f35.body = some (bodyOf Try.f35)) (by kernel_rfl) ((vlkit_Own_api_Link__eq X l0 K s).mpr h)
theorem vlkit_Own_api_Link__in {l0 : AVal} {K : KvP} {s : Heap} (h : vlkit_Own_api_Link_ XX l0 K s) : wpCall Try.prog XX 35 [l0] K s := vlkit_Own_api_Link__ok XX_fr rfl h
def vlkit_Own_bool_ (X : Told) (l0 : AVal) (K : KvP) (s : Heap) : Prop :=
 optK (fillR (repl 0 [(.bool false)]) []) fun c_0 => allOne c_0 = true ∧ newK 4 c_0 (fun b_1 s_2 =>
 appK 4 1 (.slc b_1 0 0 (some 0) 1) l0 (fun v_3 s_4 =>
 K v_3 s_4) s_2) s
def vlkit_Own_bool__ann : Nat → List Nat := fun _ => []
theorem vlkit_Own_bool__eq (X : Told) (l0 : AVal) (K : KvP) (s : Heap) : wpC Try.prog X vlkit_Own_bool__ann Try.f36.ntmps none (bodyOf Try.f36) (envOf [l0]) (fun e env s => retK e (resK Try.prog Try.f36.results.toList env (fun vs => K (oneV vs) s) s)) s = vlkit_Own_bool_ X l0 K s := by kernel_rfl
theorem vlkit_Own_bool__ok {X : Told} (hX : FrX X) (hn : X 36 = none) {l0 : AVal} {K : KvP} {s : Heap} (h : vlkit_Own_bool_ X l0 K s) : wpCall Try.prog X 36 [l0] K s :=
 wpCall_code hX vlkit_Own_bool__ann hn Try.func36 (by kernel_rfl : Try.f36.body = some (bodyOf Try.f36)) (by kernel_rfl) ((vlkit_Own_bool__eq X l0 K s).mpr h)
theorem vlkit_Own_bool__in {l0 : AVal} {K : KvP} {s : Heap} (h : vlkit_Own_bool_ XX l0 K s) : wpCall Try.prog XX 36 [l0] K s := vlkit_Own_bool__ok XX_fr rfl h
def vc_tree_choose_j2 (X : Told) (spines8 : AVal) (t13 : AVal) (I0 : IvP) (m0 : Nat) (K : KvP) (s : Heap) : Prop :=
 optK (arithV .add t13 (.int .i64 1)) fun v_11 =>
 ∃ m', m' < m0 ∧ I0 [spines8, v_11] s m'
def vc_tree_choose_j1 (X : Told) (spines8 : AVal) (n9 : AVal) (t13 : AVal) (t22 : AVal) (t24 : AVal) (I0 : IvP) (m0 : Nat) (K : KvP) (s : Heap) : Prop :=
 optK (pickV t22 t24 (.bool false)) fun v_10 =>
 boolK v_10
 (optK (fillR (repl 1 [(.int .i64 0)]) [(0, 1, n9)]) fun c_12 => allOne c_12 = true ∧ newK 3 c_12 (fun b_13 s_14 =>
 appK 3 1 spines8 (.slc b_13 0 1 (some 1) 1) (fun v_15 s_16 =>
 vc_tree_choose_j2 X v_15 t13 I0 m0 K s_16) s_14) s)
 (vc_tree_choose_j2 X spines8 t13 I0 m0 K s)
def vc_tree_choose_l0 (X : Told) (group2 : AVal) (x3 : AVal) (spines8 : AVal) (t11 : AVal) (t12 : AVal) (t13 : AVal) (I0 : IvP) (m0 : Nat) (K : KvP) (s : Heap) : Prop :=
 optK (arithV .lss t13 t12) fun v_4 =>
 boolK v_4
 (optK (iaddrS 1 t11 t13) fun v_5 =>
 optK (rd1 s v_5) fun v_6 =>
 optK (addOff 0 x3) fun v_7 =>
 optK (rd1 s v_7) fun v_8 =>
 optK (arithV .geq t13 v_8) fun v_9 =>
 boolK v_9
 (optK (arithV .geq v_6 (.int .i64 0)) fun v_17 =>
 vc_tree_choose_j1 X spines8 t13 t13 v_9 v_17 I0 m0 K s)
 (vc_tree_choose_j1 X spines8 t13 t13 v_9 .undef I0 m0 K s))
 (optK (lenOfA spines8) fun v_18 =>
 optK (negB false (eqV 0 true (.int .i64 v_18) (.int .i64 0))) fun v_20 =>
 boolK v_20
 (K (.tup [(.int .i64 0), (.bool false)]) s)
 (optK (convI .u64 group2) fun v_21 =>
 optK (lenOfA spines8) fun v_22 =>
 optK (convI .u64 (.int .i64 v_22)) fun v_24 =>
 optK (arithV .rem v_21 v_24) fun v_25 =>
 optK (iaddrS 1 spines8 v_25) fun v_26 =>
 optK (rd1 s v_26) fun v_27 =>
 K (.tup [v_27, (.bool true)]) s))
def vc_tree_choose (X : Told) (x0 : AVal) (dist1 : AVal) (group2 : AVal) (K : KvP) (s : Heap) : Prop :=
 boxK 25 x0 (fun b_0 s_1 =>
 optK (lenOfA dist1) fun v_2 =>
 ∃ I0 : IvP, (∃ m, I0 [.nilslc, (.int .i64 0)] s_1 m) ∧ ∀ (f : Env) (s : Heap) (m0 : Nat), I0 [f 8, f 13] s m0 →
 vc_tree_choose_l0 X group2 b_0 (f 8) dist1 (.int .i64 v_2) (f 13) I0 m0 K s) s
def vc_tree_choose_ann : Nat → List Nat := fun k => cond (Nat.beq k 6) [8, 13] ([])
theorem vc_tree_choose_eq (X : Told) (x0 : AVal) (dist1 : AVal) (group2 : AVal) (K : KvP) (s : Heap) : wpC Try.prog X vc_tree_choose_ann Try.f37.ntmps none (bodyOf Try.f37) (envOf [x0, dist1, group2]) (fun e env s => retK e (resK Try.prog Try.f37.results.toList env (fun vs => K (oneV vs) s) s)) s = vc_tree_choose X x0 dist1 group2 K s := by kernel_rfl
theorem vc_tree_choose_ok {X : Told} (hX : FrX X) (hn : X 37 = none) {x0 : AVal} {dist1 : AVal} {group2 : AVal} {K : KvP} {s : Heap} (h : vc_tree_choose X x0 dist1 group2 K s) : wpCall Try.prog X 37 [x0, dist1, group2] K s :=
 wpCall_code hX vc_tree_choose_ann hn Try.func37 (by kernel_rfl : Try.f37.body = some (bodyOf Try.f37)) (by kernel_rfl) ((vc_tree_choose_eq X x0 dist1 group2 K s).mpr h)
theorem vc_tree_choose_in {x0 : AVal} {dist1 : AVal} {group2 : AVal} {K : KvP} {s : Heap} (h : vc_tree_choose XX x0 dist1 group2 K s) : wpCall Try.prog XX 37 [x0, dist1, group2] K s := vc_tree_choose_ok XX_fr rfl h
def vc_tree_distances_j2 (X : Told) (self1 : AVal) (x2 : AVal) (t18 : AVal) (t21 : AVal) (K : KvP) (s : Heap) : Prop :=
 optK (pickV t18 (.bool true) t21) fun v_7 =>
 boolK v_7
 (K .nilslc s)
 (optK (addOff 0 x2) fun v_8 =>
 optK (rd1 s v_8) fun v_9 =>
 optK (addOff 1 x2) fun v_10 =>
 optK (rd1 s v_10) fun v_11 =>
 optK (arithV .add v_9 v_11) fun v_12 =>
 optK (addOff 2 x2) fun v_13 =>
 optK (rd1 s v_13) fun v_14 =>
 optK (addOff 3 x2) fun v_15 =>
 optK (rd1 s v_15) fun v_16 =>
 wpCall Try.prog X 33 [v_12, v_14, v_16, self1] (fun v_17 s_18 =>
 K v_17 s_18) s)
def vc_tree_distances_j1 (X : Told) (self1 : AVal) (x2 : AVal) (t13 : AVal) (t16 : AVal) (K : KvP) (s : Heap) : Prop :=
 optK (pickV t13 (.bool true) t16) fun v_6 =>
 boolK v_6
 (vc_tree_distances_j2 X self1 x2 v_6 .undef K s)
 (optK (addOff 1 x2) fun v_19 =>
 optK (rd1 s v_19) fun v_20 =>
 optK (arithV .gtr v_20 (.int .i64 32)) fun v_21 =>
 vc_tree_distances_j2 X self1 x2 v_6 v_21 K s)
def vc_tree_distances_j0 (X : Told) (self1 : AVal) (x2 : AVal) (t8 : AVal) (t11 : AVal) (K : KvP) (s : Heap) : Prop :=
 optK (pickV t8 (.bool true) t11) fun v_5 =>
 boolK v_5
 (vc_tree_distances_j1 X self1 x2 v_5 .undef K s)
 (optK (addOff 1 x2) fun v_22 =>
 optK (rd1 s v_22) fun v_23 =>
 optK (arithV .lss v_23 (.int .i64 0)) fun v_24 =>
 vc_tree_distances_j1 X self1 x2 v_5 v_24 K s)
def vc_tree_distances (X : Told) (x0 : AVal) (self1 : AVal) (K : KvP) (s : Heap) : Prop :=
 boxK 25 x0 (fun b_0 s_1 =>
 optK (addOff 0 b_0) fun v_2 =>
 optK (rd1 s_1 v_2) fun v_3 =>
 optK (arithV .lss v_3 (.int .i64 1)) fun v_4 =>
 boolK v_4
 (vc_tree_distances_j0 X self1 b_0 v_4 .undef K s_1)
 (optK (addOff 0 b_0) fun v_25 =>
 optK (rd1 s_1 v_25) fun v_26 =>
 optK (arithV .gtr v_26 (.int .i64 32)) fun v_27 =>
 vc_tree_distances_j0 X self1 b_0 v_4 v_27 K s_1)) s
def vc_tree_distances_ann : Nat → List Nat := fun _ => []
theorem vc_tree_distances_eq (X : Told) (x0 : AVal) (self1 : AVal) (K : KvP) (s : Heap) : wpC Try.prog X vc_tree_distances_ann Try.f38.ntmps none (bodyOf Try.f38) (envOf [x0, self1]) (fun e env s => retK e (resK Try.prog Try.f38.results.toList env (fun vs => K (oneV vs) s) s)) s = vc_tree_distances X x0 self1 K s := by kernel_rfl
theorem vc_tree_distances_ok {X : Told} (hX : FrX X) (hn : X 38 = none) {x0 : AVal} {self1 : AVal} {K : KvP} {s : Heap} (h : vc_tree_distances X x0 self1 K s) : wpCall Try.prog X 38 [x0, self1] K s :=
 wpCall_code hX vc_tree_distances_ann hn Try.func38 (by kernel_rfl : Try.f38.body = some (bodyOf Try.f38)) (by kernel_rfl) ((vc_tree_distances_eq X x0 self1 K s).mpr h)
theorem vc_tree_distances_in {x0 : AVal} {self1 : AVal} {K : KvP} {s : Heap} (h : vc_tree_distances XX x0 self1 K s) : wpCall Try.prog XX 38 [x0, self1] K s := vc_tree_distances_ok XX_fr rfl h
def vlref15_Valid_j3 (X : Told) (t23 : AVal) (t34 : AVal) (K : KvP) (s : Heap) : Prop :=
 optK (pickV t23 t34 (.bool false)) fun v_8 =>
 K v_8 s
def vlref15_Valid_j2 (X : Told) (self1 : AVal) (x2 : AVal) (t18 : AVal) (t21 : AVal) (K : KvP) (s : Heap) : Prop :=
 optK (pickV t18 t21 (.bool false)) fun v_7 =>
 boolK v_7
 (optK (addOff 0 x2) fun v_9 =>
 optK (rd1 s v_9) fun v_10 =>
 optK (addOff 1 x2) fun v_11 =>
 optK (rd1 s v_11) fun v_12 =>
 optK (arithV .add v_10 v_12) fun v_13 =>
 optK (addOff 2 x2) fun v_14 =>
 optK (rd1 s v_14) fun v_15 =>
 optK (addOff 3 x2) fun v_16 =>
 optK (rd1 s v_16) fun v_17 =>
 wpCall Try.prog X 51 [v_13, v_15, v_17, self1] (fun v_18 s_19 =>
 vlref15_Valid_j3 X v_7 v_18 K s_19) s)
 (vlref15_Valid_j3 X v_7 .undef K s)
def vlref15_Valid_j1 (X : Told) (self1 : AVal) (x2 : AVal) (t13 : AVal) (t16 : AVal) (K : KvP) (s : Heap) : Prop :=
 optK (pickV t13 t16 (.bool false)) fun v_6 =>
 boolK v_6
 (optK (addOff 1 x2) fun v_20 =>
 optK (rd1 s v_20) fun v_21 =>
 optK (arithV .lss v_21 (.int .i64 32)) fun v_22 =>
 vlref15_Valid_j2 X self1 x2 v_6 v_22 K s)
 (vlref15_Valid_j2 X self1 x2 v_6 .undef K s)
def vlref15_Valid_j0 (X : Told) (self1 : AVal) (x2 : AVal) (t8 : AVal) (t11 : AVal) (K : KvP) (s : Heap) : Prop :=
 optK (pickV t8 t11 (.bool false)) fun v_5 =>
 boolK v_5
 (optK (addOff 0 x2) fun v_23 =>
 optK (rd1 s v_23) fun v_24 =>
 optK (arithV .leq v_24 (.int .i64 32)) fun v_25 =>
 vlref15_Valid_j1 X self1 x2 v_5 v_25 K s)
 (vlref15_Valid_j1 X self1 x2 v_5 .undef K s)
def vlref15_Valid (X : Told) (x0 : AVal) (self1 : AVal) (K : KvP) (s : Heap) : Prop :=
 boxK 25 x0 (fun b_0 s_1 =>
 optK (addOff 0 b_0) fun v_2 =>
 optK (rd1 s_1 v_2) fun v_3 =>
 optK (arithV .geq v_3 (.int .i64 1)) fun v_4 =>
 boolK v_4
 (optK (addOff 1 b_0) fun v_26 =>
 optK (rd1 s_1 v_26) fun v_27 =>
 optK (arithV .geq v_27 (.int .i64 0)) fun v_28 =>
 vlref15_Valid_j0 X self1 b_0 v_4 v_28 K s_1)
 (vlref15_Valid_j0 X self1 b_0 v_4 .undef K s_1)) s
def vlref15_Valid_ann : Nat → List Nat := fun _ => []
theorem vlref15_Valid_eq (X : Told) (x0 : AVal) (self1 : AVal) (K : KvP) (s : Heap) : wpC Try.prog X vlref15_Valid_ann Try.f39.ntmps none (bodyOf Try.f39) (envOf [x0, self1]) (fun e env s => retK e (resK Try.prog Try.f39.results.toList env (fun vs => K (oneV vs) s) s)) s = vlref15_Valid X x0 self1 K s := by kernel_rfl
theorem vlref15_Valid_ok {X : Told} (hX : FrX X) (hn : X 39 = none) {x0 : AVal} {self1 : AVal} {K : KvP} {s : Heap} (h : vlref15_Valid X x0 self1 K s) : wpCall Try.prog X 39 [x0, self1] K s :=
 wpCall_code hX vlref15_Valid_ann hn Try.func39 (by kernel_rfl : Try.f39.body = some (bodyOf Try.f39)) (by kernel_rfl) ((vlref15_Valid_eq X x0 self1 K s).mpr h)
theorem vlref15_Valid_in {x0 : AVal} {self1 : AVal} {K : KvP} {s : Heap} (h : vlref15_Valid XX x0 self1 K s) : wpCall Try.prog XX 39 [x0, self1] K s := vlref15_Valid_ok XX_fr rfl h
def vlref15_dist (X : Told) (x0 : AVal) (n1 : AVal) (K : KvP) (s : Heap) : Prop :=
 boxK 25 x0 (fun b_0 s_1 =>
 optK (addOff 0 b_0) fun v_2 =>
 optK (rd1 s_1 v_2) fun v_3 =>
 optK (addOff 1 b_0) fun v_4 =>
 optK (rd1 s_1 v_4) fun v_5 =>
 optK (arithV .add v_3 v_5) fun v_6 =>
 optK (addOff 2 b_0) fun v_7 =>
 optK (rd1 s_1 v_7) fun v_8 =>
 optK (addOff 3 b_0) fun v_9 =>
 optK (rd1 s_1 v_9) fun v_10 =>
 wpCall Try.prog X 52 [v_6, v_8, v_10, n1] (fun v_11 s_12 =>
 K v_11 s_12) s_1) s
def vlref15_dist_ann : Nat → List Nat := fun _ => []
theorem vlref15_dist_eq (X : Told) (x0 : AVal) (n1 : AVal) (K : KvP) (s : Heap) : wpC Try.prog X vlref15_dist_ann Try.f40.ntmps none (bodyOf Try.f40) (envOf [x0, n1]) (fun e env s => retK e (resK Try.prog Try.f40.results.toList env (fun vs => K (oneV vs) s) s)) s = vlref15_dist X x0 n1 K s := by kernel_rfl
theorem vlref15_dist_ok {X : Told} (hX : FrX X) (hn : X 40 = none) {x0 : AVal} {n1 : AVal} {K : KvP} {s : Heap} (h : vlref15_dist X x0 n1 K s) : wpCall Try.prog X 40 [x0, n1] K s :=
 wpCall_code hX vlref15_dist_ann hn Try.func40 (by kernel_rfl : Try.f40.body = some (bodyOf Try.f40)) (by kernel_rfl) ((vlref15_dist_eq X x0 n1 K s).mpr h)
theorem vlref15_dist_in {x0 : AVal} {n1 : AVal} {K : KvP} {s : Heap} (h : vlref15_dist XX x0 n1 K s) : wpCall Try.prog XX 40 [x0, n1] K s := vlref15_dist_ok XX_fr rfl h
def vc_tree_grow (X : Told) (x0 : AVal) (dist1 : AVal) (root2 : AVal) (members3 : AVal) (K : KvP) (s : Heap) : Prop :=
 boxK 25 x0 (fun b_0 s_1 =>
 mapK (fun v_2 s_3 =>
 newK 83 [.nilmap] (fun b_4 s_5 =>
 optK (wr1 s_5 (.ptr b_4 0) v_2) fun s_6 =>
 optK (addOff 0 b_0) fun v_7 =>
 optK (rd1 s_6 v_7) fun v_8 =>
 optK (addOff 1 b_0) fun v_9 =>
 optK (rd1 s_6 v_9) fun v_10 =>
 optK (arithV .add v_8 v_10) fun v_11 =>
 optK (addOff 2 b_0) fun v_12 =>
 optK (rd1 s_6 v_12) fun v_13 =>
 optK (addOff 3 b_0) fun v_14 =>
 optK (rd1 s_6 v_14) fun v_15 =>
 wpCall Try.prog X 56 [v_11, v_13, v_15, root2] (fun v_16 s_17 =>
 newK 28 [.nilslc] (fun b_18 s_19 =>
 optK (wr1 s_19 (.ptr b_18 0) v_16) fun s_20 =>
 newK 96 [.nilFunc] (fun b_21 s_22 =>
 optK (wr1 s_22 (.ptr b_21 0) (.fn (.func 57) [] [(.ptr b_18 0), (.ptr b_4 0), (.ptr b_21 0), b_0])) fun s_23 =>
 optK (rdN s_23 4 b_0) fun v_24 =>
 wpCall Try.prog X 58 [(.agg v_24), dist1, members3] (fun v_25 s_26 =>
 rngK Try.prog X 35 none v_25 [(11, (.ptr b_21 0))] [30] (rfAs 0 (bodyOf Try.f43)) (rfBo 0 (bodyOf Try.f43)) (fun s_27 =>
 optK (rd1 s_27 (.ptr b_4 0)) fun v_29 =>
 K v_29 s_27)
 (fun s_28 =>
 K .nilmap s_28)
 (fun id s_30 =>
 cond (Nat.beq id 0)
 (optK (rd1 s_30 (.ptr b_4 0)) fun v_31 =>
 K v_31 s_30)
 (False)) s_26) s_23) s_20) s_17) s_6) s_3) s_1) s
def vc_tree_grow_ann : Nat → List Nat := fun k => cond (Nat.beq k 15) [11] ([])
theorem vc_tree_grow_eq (X : Told) (x0 : AVal) (dist1 : AVal) (root2 : AVal) (members3 : AVal) (K : KvP) (s : Heap) : wpC Try.prog X vc_tree_grow_ann Try.f43.ntmps none (bodyOf Try.f43) (envOf [x0, dist1, root2, members3]) (fun e env s => retK e (resK Try.prog Try.f43.results.toList env (fun vs => K (oneV vs) s) s)) s = vc_tree_grow X x0 dist1 root2 members3 K s := by kernel_rfl
theorem vc_tree_grow_ok {X : Told} (hX : FrX X) (hn : X 43 = none) {x0 : AVal} {dist1 : AVal} {root2 : AVal} {members3 : AVal} {K : KvP} {s : Heap} (h : vc_tree_grow X x0 dist1 root2 members3 K s) : wpCall Try.prog X 43 [x0, dist1, root2, members3] K s :=
 wpCall_code hX vc_tree_grow_ann hn Try.func43 (by kernel_rfl : Try.f43.body = some (bodyOf Try.f43)) (by kernel_rfl) ((vc_tree_grow_eq X x0 dist1 root2 members3 K s).mpr h)
theorem vc_tree_grow_in {x0 : AVal} {dist1 : AVal} {root2 : AVal} {members3 : AVal} {K : KvP} {s : Heap} (h : vc_tree_grow XX x0 dist1 root2 members3 K s) : wpCall Try.prog XX 43 [x0, dist1, root2, members3] K s := vc_tree_grow_ok XX_fr rfl h
def vc_tree_grow_r0 (X : Told) (l : Nat) (add11 : AVal) (t30 : AVal) (E : AExit → Heap → Prop) (s : Heap) : Prop :=
 AExit.nrm = .nrm ∧ beginK l (fun s_0 =>
 optK (rd1 s_0 add11) fun v_1 =>
 funK Try.prog X v_1 [t30] (fun v_2 s_3 =>
 E .nrm s_3) s_0) s
theorem vc_tree_grow_r0_eq (X : Told) (l : Nat) (f : Env) (t30 : AVal) (E : AExit → Heap → Prop) (s : Heap) : wpC Try.prog X vc_tree_grow_ann Try.f43.ntmps (some l) (rfAs 0 (bodyOf Try.f43)) (setE f [30] [t30]) (fun e env s => e = .nrm ∧ beginK l (fun s => wpC Try.prog X vc_tree_grow_ann Try.f43.ntmps (some l) (rfBo 0 (bodyOf Try.f43)) env (fun e _ s => E e s) s) s) s = vc_tree_grow_r0 X l (f 11) t30 E s := by kernel_rfl
theorem vc_tree_grow_r0_in {l : Nat} {t : Bool} {st : LoopState} {pd : Option Code} {d : Nat} {add11 : AVal} {t30 : AVal} {K : KvP} {s : Heap} (hs : s l = some (t, .loop st pd 35 [(11, add11)] [30] (rfAs 0 (bodyOf Try.f43)) (rfBo 0 (bodyOf Try.f43)) d)) (h : vc_tree_grow_r0 XX l add11 t30 (fun e s => endK l e K s) s) : wpRound Try.prog XX l [t30] K s :=
 wpRound_ok XX_fr vc_tree_grow_ann hs rfl rfl fun f hf => by
 refine (vc_tree_grow_r0_eq XX l f t30 (fun e s => endK l e K s) s).mpr ?_
 rw [show f 11 = add11 from hf (11, add11) (by simp)]
 exact h
def vlref15_member_l2 (X : Told) (members2 : AVal) (n3 : AVal) (i9 : AVal) (I2 : IvP) (m2 : Nat) (K : KvP) (s : Heap) : Prop :=
 optK (lenOfA members2) fun v_5 =>
 optK (arithV .lss i9 (.int .i64 v_5)) fun v_7 =>
 boolK v_7
 (optK (iaddrS 1 members2 i9) fun v_8 =>
 optK (rd1 s v_8) fun v_9 =>
 optK (negB false (eqV 0 false v_9 n3)) fun v_10 =>
 boolK v_10
 (K (.bool true) s)
 (optK (arithV .add i9 (.int .i64 1)) fun v_11 =>
 ∃ m', m' < m2 ∧ I2 [v_11] s m'))
 (K (.bool false) s)
def vlref15_member_j1 (X : Told) (members2 : AVal) (n3 : AVal) (t18 : AVal) (t25 : AVal) (K : KvP) (s : Heap) : Prop :=
 optK (pickV t18 (.bool true) t25) fun v_4 =>
 boolK v_4
 (K (.bool false) s)
 (∃ I2 : IvP, (∃ m, I2 [(.int .i64 0)] s m) ∧ ∀ (f : Env) (s : Heap) (m2 : Nat), I2 [f 9] s m2 →
 vlref15_member_l2 X members2 n3 (f 9) I2 m2 K s)
def vlref15_member_j0 (X : Told) (self1 : AVal) (members2 : AVal) (n3 : AVal) (x4 : AVal) (t12 : AVal) (t16 : AVal) (K : KvP) (s : Heap) : Prop :=
 optK (pickV t12 (.bool true) t16) fun v_3 =>
 boolK v_3
 (vlref15_member_j1 X members2 n3 v_3 .undef K s)
 (optK (rdN s 4 x4) fun v_12 =>
 wpCall Try.prog X 40 [(.agg v_12), self1] (fun v_13 s_14 =>
 optK (iaddrS 1 v_13 n3) fun v_15 =>
 optK (rd1 s_14 v_15) fun v_16 =>
 optK (arithV .lss v_16 (.int .i64 0)) fun v_17 =>
 vlref15_member_j1 X members2 n3 v_3 v_17 K s_14) s)
def vlref15_member (X : Told) (x0 : AVal) (self1 : AVal) (members2 : AVal) (n3 : AVal) (K : KvP) (s : Heap) : Prop :=
 boxK 25 x0 (fun b_0 s_1 =>
 optK (arithV .lss n3 (.int .i64 0)) fun v_2 =>
 boolK v_2
 (vlref15_member_j0 X self1 members2 n3 b_0 v_2 .undef K s_1)
 (optK (addOff 0 b_0) fun v_18 =>
 optK (rd1 s_1 v_18) fun v_19 =>
 optK (arithV .geq n3 v_19) fun v_20 =>
 vlref15_member_j0 X self1 members2 n3 b_0 v_2 v_20 K s_1)) s
def vlref15_member_ann : Nat → List Nat := fun k => cond (Nat.beq k 8) [9] ([])
theorem vlref15_member_eq (X : Told) (x0 : AVal) (self1 : AVal) (members2 : AVal) (n3 : AVal) (K : KvP) (s : Heap) : wpC Try.prog X vlref15_member_ann Try.f44.ntmps none (bodyOf Try.f44) (envOf [x0, self1, members2, n3]) (fun e env s => retK e (resK Try.prog Try.f44.results.toList env (fun vs => K (oneV vs) s) s)) s = vlref15_member X x0 self1 members2 n3 K s := by kernel_rfl
theorem vlref15_member_ok {X : Told} (hX : FrX X) (hn : X 44 = none) {x0 : AVal} {self1 : AVal} {members2 : AVal} {n3 : AVal} {K : KvP} {s : Heap} (h : vlref15_member X x0 self1 members2 n3 K s) : wpCall Try.prog X 44 [x0, self1, members2, n3] K s :=
 wpCall_code hX vlref15_member_ann hn Try.func44 (by kernel_rfl : Try.f44.body = some (bodyOf Try.f44)) (by kernel_rfl) ((vlref15_member_eq X x0 self1 members2 n3 K s).mpr h)
theorem vlref15_member_in {x0 : AVal} {self1 : AVal} {members2 : AVal} {n3 : AVal} {K : KvP} {s : Heap} (h : vlref15_member XX x0 self1 members2 n3 K s) : wpCall Try.prog XX 44 [x0, self1, members2, n3] K s := vlref15_member_ok XX_fr rfl h
def vlref10_Path_j1 (X : Told) (links1 : AVal) (p11 : AVal) (out12 : AVal) (n13 : AVal) (t29 : AVal) (t34 : AVal) (I0 : IvP) (m0 : Nat) (K : KvP) (s : Heap) : Prop :=
 optK (pickV t29 t34 (.bool false)) fun v_8 =>
 boolK v_8
 (optK (iaddrS 1 p11 n13) fun v_9 =>
 optK (rd1 s v_9) fun v_10 =>
 optK (fillR (repl 1 [(.int .i64 0)]) [(0, 1, v_10)]) fun c_11 => allOne c_11 = true ∧ newK 3 c_11 (fun b_12 s_13 =>
 appK 3 1 (.slc b_12 0 1 (some 1) 1) out12 (fun v_14 s_15 =>
 optK (iaddrS 1 p11 n13) fun v_16 =>
 optK (rd1 s_15 v_16) fun v_17 =>
 optK (iaddrS 3 links1 v_17) fun v_18 =>
 optK (rdN s_15 3 v_18) fun v_19 =>
 wpCall Try.prog X 60 [(.agg v_19), n13] (fun v_20 s_21 =>
 optK (extractA v_20 0) fun v_22 =>
 optK (extractA v_20 1) fun v_23 =>
 ∃ m', m' < m0 ∧ I0 [v_14, v_22] s_21 m') s_15) s_13) s)
 (K out12 s)
def vlref10_Path_l0 (X : Told) (links1 : AVal) (p11 : AVal) (out12 : AVal) (n13 : AVal) (I0 : IvP) (m0 : Nat) (K : KvP) (s : Heap) : Prop :=
 optK (lenOfA p11) fun v_5 =>
 optK (arithV .gtr (.int .i64 v_5) (.int .i64 0)) fun v_7 =>
 boolK v_7
 (optK (iaddrS 1 p11 n13) fun v_24 =>
 optK (rd1 s v_24) fun v_25 =>
 optK (arithV .geq v_25 (.int .i64 0)) fun v_26 =>
 vlref10_Path_j1 X links1 p11 out12 n13 v_7 v_26 I0 m0 K s)
 (vlref10_Path_j1 X links1 p11 out12 n13 v_7 .undef I0 m0 K s)
def vlref10_Path (X : Told) (nodes0 : AVal) (links1 : AVal) (up2 : AVal) (t3 : AVal) (t4 : AVal) (K : KvP) (s : Heap) : Prop :=
 wpCall Try.prog X 51 [nodes0, links1, up2, t4] (fun v_0 s_1 =>
 optK (unaryA .not v_0) fun v_2 =>
 boolK v_2
 (K .nilslc s_1)
 (wpCall Try.prog X 59 [nodes0, links1, up2, t3] (fun v_3 s_4 =>
 ∃ I0 : IvP, (∃ m, I0 [.nilslc, t4] s_4 m) ∧ ∀ (f : Env) (s : Heap) (m0 : Nat), I0 [f 12, f 13] s m0 →
 vlref10_Path_l0 X links1 v_3 (f 12) (f 13) I0 m0 K s) s_1)) s
def vlref10_Path_ann : Nat → List Nat := fun k => cond (Nat.beq k 12) [12, 13] ([])
theorem vlref10_Path_eq (X : Told) (nodes0 : AVal) (links1 : AVal) (up2 : AVal) (t3 : AVal) (t4 : AVal) (K : KvP) (s : Heap) : wpC Try.prog X vlref10_Path_ann Try.f45.ntmps none (bodyOf Try.f45) (envOf [nodes0, links1, up2, t3, t4]) (fun e env s => retK e (resK Try.prog Try.f45.results.toList env (fun vs => K (oneV vs) s) s)) s = vlref10_Path X nodes0 links1 up2 t3 t4 K s := by kernel_rfl
theorem vlref10_Path_ok {X : Told} (hX : FrX X) (hn : X 45 = none) {nodes0 : AVal} {links1 : AVal} {up2 : AVal} {t3 : AVal} {t4 : AVal} {K : KvP} {s : Heap} (h : vlref10_Path X nodes0 links1 up2 t3 t4 K s) : wpCall Try.prog X 45 [nodes0, links1, up2, t3, t4] K s :=
 wpCall_code hX vlref10_Path_ann hn Try.func45 (by kernel_rfl : Try.f45.body = some (bodyOf Try.f45)) (by kernel_rfl) ((vlref10_Path_eq X nodes0 links1 up2 t3 t4 K s).mpr h)
theorem vlref10_Path_in {nodes0 : AVal} {links1 : AVal} {up2 : AVal} {t3 : AVal} {t4 : AVal} {K : KvP} {s : Heap} (h : vlref10_Path XX nodes0 links1 up2 t3 t4 K s) : wpCall Try.prog XX 45 [nodes0, links1, up2, t3, t4] K s := vlref10_Path_ok XX_fr rfl h
def vc_tree_Next_1 (X : Told) (t0 : AVal) (t1 : AVal) (t2 : AVal) (K : KvP) (s : Heap) : Prop :=
 optK (rd1 s t0) fun v_0 =>
 optK (unaryA .not v_0) fun v_1 =>
 boolK v_1
 (optK (wr1 s t1 .nilslc) fun s_2 =>
 optK (wr1 s_2 t2 (.bool false)) fun s_3 =>
 K (.tup []) s_3)
 (K (.tup []) s)
def vc_tree_Next_1_ann : Nat → List Nat := fun _ => []
theorem vc_tree_Next_1_eq (X : Told) (t0 : AVal) (t1 : AVal) (t2 : AVal) (K : KvP) (s : Heap) : wpC Try.prog X vc_tree_Next_1_ann Try.f46.ntmps none (bodyOf Try.f46) (envOf [t0, t1, t2]) (fun e env s => retK e (resK Try.prog Try.f46.results.toList env (fun vs => K (oneV vs) s) s)) s = vc_tree_Next_1 X t0 t1 t2 K s := by kernel_rfl
theorem vc_tree_Next_1_ok {X : Told} (hX : FrX X) (hn : X 46 = none) {t0 : AVal} {t1 : AVal} {t2 : AVal} {K : KvP} {s : Heap} (h : vc_tree_Next_1 X t0 t1 t2 K s) : wpCall Try.prog X 46 [t0, t1, t2] K s :=
 wpCall_code hX vc_tree_Next_1_ann hn Try.func46 (by kernel_rfl : Try.f46.body = some (bodyOf Try.f46)) (by kernel_rfl) ((vc_tree_Next_1_eq X t0 t1 t2 K s).mpr h)
theorem vc_tree_Next_1_in {t0 : AVal} {t1 : AVal} {t2 : AVal} {K : KvP} {s : Heap} (h : vc_tree_Next_1 XX t0 t1 t2 K s) : wpCall Try.prog XX 46 [t0, t1, t2] K s := vc_tree_Next_1_ok XX_fr rfl h
def vs_Contains___int_int_ (X : Told) (t0 : AVal) (v1 : AVal) (K : KvP) (s : Heap) : Prop :=
 wpCall Try.prog X 61 [t0, v1] (fun v_0 s_1 =>
 optK (arithV .geq v_0 (.int .i64 0)) fun v_2 =>
 K v_2 s_1) s
def vs_Contains___int_int__ann : Nat → List Nat := fun _ => []
theorem vs_Contains___int_int__eq (X : Told) (t0 : AVal) (v1 : AVal) (K : KvP) (s : Heap) : wpC Try.prog X vs_Contains___int_int__ann Try.f47.ntmps none (bodyOf Try.f47) (envOf [t0, v1]) (fun e env s => retK e (resK Try.prog Try.f47.results.toList env (fun vs => K (oneV vs) s) s)) s = vs_Contains___int_int_ X t0 v1 K s := by kernel_rfl
theorem vs_Contains___int_int__ok {X : Told} (hX : FrX X) (hn : X 47 = none) {t0 : AVal} {v1 : AVal} {K : KvP} {s : Heap} (h : vs_Contains___int_int_ X t0 v1 K s) : wpCall Try.prog X 47 [t0, v1] K s :=
 wpCall_code hX vs_Contains___int_int__ann hn Try.func47 (by kernel_rfl : Try.f47.body = some (bodyOf Try.f47)) (by kernel_rfl) ((vs_Contains___int_int__eq X t0 v1 K s).mpr h)
theorem vs_Contains___int_int__in {t0 : AVal} {v1 : AVal} {K : KvP} {s : Heap} (h : vs_Contains___int_int_ XX t0 v1 K s) : wpCall Try.prog XX 47 [t0, v1] K s := vs_Contains___int_int__ok XX_fr rfl h
def vc_spf_valid_j7 (X : Told) (t33 : AVal) (t59 : AVal) (t62 : AVal) (I3 : IvP) (m3 : Nat) (K : KvP) (s : Heap) : Prop :=
 optK (pickV t59 (.bool true) t62) fun v_22 =>
 boolK v_22
 (K (.bool false) s)
 (optK (arithV .add t33 (.int .i64 1)) fun v_23 =>
 ∃ m', m' < m3 ∧ I3 [v_23] s m')
def vc_spf_valid_j6 (X : Told) (l11 : AVal) (t33 : AVal) (t54 : AVal) (t57 : AVal) (I3 : IvP) (m3 : Nat) (K : KvP) (s : Heap) : Prop :=
 optK (pickV t54 (.bool true) t57) fun v_21 =>
 boolK v_21
 (vc_spf_valid_j7 X t33 v_21 .undef I3 m3 K s)
 (optK (addOff 2 l11) fun v_24 =>
 optK (rd1 s v_24) fun v_25 =>
 optK (arithV .gtr v_25 (.int .i64 1000)) fun v_26 =>
 vc_spf_valid_j7 X t33 v_21 v_26 I3 m3 K s)
def vc_spf_valid_j5 (X : Told) (l11 : AVal) (t33 : AVal) (t47 : AVal) (t52 : AVal) (I3 : IvP) (m3 : Nat) (K : KvP) (s : Heap) : Prop :=
 optK (pickV t47 (.bool true) t52) fun v_20 =>
 boolK v_20
 (vc_spf_valid_j6 X l11 t33 v_20 .undef I3 m3 K s)
 (optK (addOff 2 l11) fun v_27 =>
 optK (rd1 s v_27) fun v_28 =>
 optK (arithV .lss v_28 (.int .i64 1)) fun v_29 =>
 vc_spf_valid_j6 X l11 t33 v_20 v_29 I3 m3 K s)
def vc_spf_valid_j4 (X : Told) (l11 : AVal) (t33 : AVal) (t41 : AVal) (t45 : AVal) (I3 : IvP) (m3 : Nat) (K : KvP) (s : Heap) : Prop :=
 optK (pickV t41 (.bool true) t45) fun v_19 =>
 boolK v_19
 (vc_spf_valid_j5 X l11 t33 v_19 .undef I3 m3 K s)
 (optK (addOff 0 l11) fun v_30 =>
 optK (rd1 s v_30) fun v_31 =>
 optK (addOff 1 l11) fun v_32 =>
 optK (rd1 s v_32) fun v_33 =>
 optK (negB false (eqV 0 false v_31 v_33)) fun v_34 =>
 vc_spf_valid_j5 X l11 t33 v_19 v_34 I3 m3 K s)
def vc_spf_valid_l3 (X : Told) (ends3 : AVal) (outside9 : AVal) (t31 : AVal) (t32 : AVal) (t33 : AVal) (I3 : IvP) (m3 : Nat) (K : KvP) (s : Heap) : Prop :=
 optK (arithV .lss t33 t32) fun v_9 =>
 boolK v_9
 (optK (iaddrS 3 t31 t33) fun v_10 =>
 optK (rdN s 3 v_10) fun v_11 =>
 newK 39 [(.int .i64 0), (.int .i64 0), (.int .i64 0)] (fun b_12 s_13 =>
 optK (wrAgg s_13 3 (.ptr b_12 0) (.agg v_11)) fun s_14 =>
 optK (addOff 0 (.ptr b_12 0)) fun v_15 =>
 optK (rd1 s_14 v_15) fun v_16 =>
 funK Try.prog X outside9 [v_16] (fun v_17 s_18 =>
 boolK v_17
 (vc_spf_valid_j4 X (.ptr b_12 0) t33 v_17 .undef I3 m3 K s_18)
 (optK (addOff 1 (.ptr b_12 0)) fun v_35 =>
 optK (rd1 s_18 v_35) fun v_36 =>
 funK Try.prog X outside9 [v_36] (fun v_37 s_38 =>
 vc_spf_valid_j4 X (.ptr b_12 0) t33 v_17 v_37 I3 m3 K s_38) s_18)) s_14) s)
 (wpCall Try.prog X 63 [ends3, outside9] (fun v_39 s_40 =>
 optK (unaryA .not v_39) fun v_41 =>
 K v_41 s_40) s)
def vc_spf_valid_j2 (X : Told) (links1 : AVal) (ends3 : AVal) (nodes4 : AVal) (t23 : AVal) (t28 : AVal) (K : KvP) (s : Heap) : Prop :=
 optK (pickV t23 (.bool true) t28) fun v_6 =>
 boolK v_6
 (K (.bool false) s)
 (optK (lenOfA links1) fun v_7 =>
 ∃ I3 : IvP, (∃ m, I3 [(.int .i64 0)] s m) ∧ ∀ (f : Env) (s : Heap) (m3 : Nat), I3 [f 33] s m3 →
 vc_spf_valid_l3 X ends3 (.fn (.func 62) [] [nodes4]) links1 (.int .i64 v_7) (f 33) I3 m3 K s)
def vc_spf_valid_j1 (X : Told) (links1 : AVal) (up2 : AVal) (ends3 : AVal) (nodes4 : AVal) (t18 : AVal) (t21 : AVal) (K : KvP) (s : Heap) : Prop :=
 optK (pickV t18 (.bool true) t21) fun v_5 =>
 boolK v_5
 (vc_spf_valid_j2 X links1 ends3 nodes4 v_5 .undef K s)
 (optK (lenOfA up2) fun v_42 =>
 optK (lenOfA links1) fun v_44 =>
 optK (negB true (eqV 0 false (.int .i64 v_42) (.int .i64 v_44))) fun v_46 =>
 vc_spf_valid_j2 X links1 ends3 nodes4 v_5 v_46 K s)
def vc_spf_valid_j0 (X : Told) (links1 : AVal) (up2 : AVal) (ends3 : AVal) (nodes4 : AVal) (t14 : AVal) (t16 : AVal) (K : KvP) (s : Heap) : Prop :=
 optK (pickV t14 (.bool true) t16) fun v_4 =>
 boolK v_4
 (vc_spf_valid_j1 X links1 up2 ends3 nodes4 v_4 .undef K s)
 (optK (lenOfA links1) fun v_47 =>
 optK (arithV .gtr (.int .i64 v_47) (.int .i64 128)) fun v_49 =>
 vc_spf_valid_j1 X links1 up2 ends3 nodes4 v_4 v_49 K s)
def vc_spf_valid (X : Told) (nodes0 : AVal) (links1 : AVal) (up2 : AVal) (ends3 : AVal) (K : KvP) (s : Heap) : Prop :=
 boxK 3 nodes0 (fun b_0 s_1 =>
 optK (rd1 s_1 b_0) fun v_2 =>
 optK (arithV .lss v_2 (.int .i64 1)) fun v_3 =>
 boolK v_3
 (vc_spf_valid_j0 X links1 up2 ends3 b_0 v_3 .undef K s_1)
 (optK (rd1 s_1 b_0) fun v_50 =>
 optK (arithV .gtr v_50 (.int .i64 32)) fun v_51 =>
 vc_spf_valid_j0 X links1 up2 ends3 b_0 v_3 v_51 K s_1)) s
def vc_spf_valid_ann : Nat → List Nat := fun k => cond (Nat.beq k 10) [33] ([])
theorem vc_spf_valid_eq (X : Told) (nodes0 : AVal) (links1 : AVal) (up2 : AVal) (ends3 : AVal) (K : KvP) (s : Heap) : wpC Try.prog X vc_spf_valid_ann Try.f48.ntmps none (bodyOf Try.f48) (envOf [nodes0, links1, up2, ends3]) (fun e env s => retK e (resK Try.prog Try.f48.results.toList env (fun vs => K (oneV vs) s) s)) s = vc_spf_valid X nodes0 links1 up2 ends3 K s := by kernel_rfl
theorem vc_spf_valid_ok {X : Told} (hX : FrX X) (hn : X 48 = none) {nodes0 : AVal} {links1 : AVal} {up2 : AVal} {ends3 : AVal} {K : KvP} {s : Heap} (h : vc_spf_valid X nodes0 links1 up2 ends3 K s) : wpCall Try.prog X 48 [nodes0, links1, up2, ends3] K s :=
 wpCall_code hX vc_spf_valid_ann hn Try.func48 (by kernel_rfl : Try.f48.body = some (bodyOf Try.f48)) (by kernel_rfl) ((vc_spf_valid_eq X nodes0 links1 up2 ends3 K s).mpr h)
theorem vc_spf_valid_in {nodes0 : AVal} {links1 : AVal} {up2 : AVal} {ends3 : AVal} {K : KvP} {s : Heap} (h : vc_spf_valid XX nodes0 links1 up2 ends3 K s) : wpCall Try.prog XX 48 [nodes0, links1, up2, ends3] K s := vc_spf_valid_ok XX_fr rfl h
def vc_spf_distances_j3 (X : Told) (t58 : AVal) (I2 : IvP) (m2 : Nat) (I1 : IvP) (m1 : Nat) (K : KvP) (s : Heap) : Prop :=
 optK (arithV .add t58 (.int .i64 1)) fun v_59 =>
 ∃ m', m' < m2 ∧ I2 [v_59] s m'
def vc_spf_distances_l2 (X : Told) (dist5 : AVal) (q7 : AVal) (next8 : AVal) (t56 : AVal) (t57 : AVal) (t58 : AVal) (I2 : IvP) (m2 : Nat) (I1 : IvP) (m1 : Nat) (K : KvP) (s : Heap) : Prop :=
 optK (arithV .lss t58 t57) fun v_48 =>
 boolK v_48
 (optK (iaddrS 3 t56 t58) fun v_49 =>
 optK (rdN s 3 v_49) fun v_50 =>
 newK 111 [(.int .i64 0), (.int .i64 0), (.int .i64 0)] (fun b_51 s_52 =>
 optK (wrAgg s_52 3 (.ptr b_51 0) (.agg v_50)) fun s_53 =>
 optK (addOff 1 (.ptr b_51 0)) fun v_54 =>
 optK (rd1 s_53 v_54) fun v_55 =>
 optK (iaddrS 1 dist5 v_55) fun v_56 =>
 optK (rd1 s_53 v_56) fun v_57 =>
 optK (arithV .lss v_57 (.int .i64 0)) fun v_58 =>
 boolK v_58
 (optK (addOff 1 (.ptr b_51 0)) fun v_60 =>
 optK (rd1 s_53 v_60) fun v_61 =>
 optK (addOff 1 next8) fun v_62 =>
 optK (rd1 s_53 v_62) fun v_63 =>
 optK (addOff 2 (.ptr b_51 0)) fun v_64 =>
 optK (rd1 s_53 v_64) fun v_65 =>
 optK (arithV .add v_63 v_65) fun v_66 =>
 optK (fillR [(.int .i64 0), (.int .i64 0)] [(0, 1, v_61), (1, 1, v_66)]) fun c_67 =>
 wpCall Try.prog X 66 [(.ifc 101 q7), (.ifc 103 (.agg c_67))] (fun v_68 s_69 =>
 vc_spf_distances_j3 X t58 I2 m2 I1 m1 K s_69) s_53)
 (vc_spf_distances_j3 X t58 I2 m2 I1 m1 K s_53)) s)
 (∃ m', m' < m1 ∧ I1 [] s m')
def vc_spf_distances_l1 (X : Told) (all0 : AVal) (dist5 : AVal) (q7 : AVal) (I1 : IvP) (m1 : Nat) (K : KvP) (s : Heap) : Prop :=
 optK (nilCheckA q7) fun v_18 =>
 optK (rd1 s v_18) fun v_19 =>
 wpCall Try.prog X 64 [v_19] (fun v_20 s_21 =>
 optK (arithV .gtr v_20 (.int .i64 0)) fun v_22 =>
 boolK v_22
 (wpCall Try.prog X 65 [(.ifc 101 q7)] (fun v_23 s_24 =>
 optK (tassV 103 (some (.agg [(.int .i64 0), (.int .i64 0)])) true v_23) fun v_25 =>
 optK (extractA v_25 0) fun v_26 =>
 optK (extractA v_25 1) fun v_27 =>
 newK 103 [(.int .i64 0), (.int .i64 0)] (fun b_28 s_29 =>
 optK (wrAgg s_29 2 (.ptr b_28 0) v_26) fun s_30 =>
 optK (addOff 0 (.ptr b_28 0)) fun v_31 =>
 optK (rd1 s_30 v_31) fun v_32 =>
 optK (iaddrS 1 dist5 v_32) fun v_33 =>
 optK (rd1 s_30 v_33) fun v_34 =>
 optK (arithV .geq v_34 (.int .i64 0)) fun v_35 =>
 boolK v_35
 (∃ m', m' < m1 ∧ I1 [] s_30 m')
 (optK (addOff 0 (.ptr b_28 0)) fun v_36 =>
 optK (rd1 s_30 v_36) fun v_37 =>
 optK (addOff 1 (.ptr b_28 0)) fun v_38 =>
 optK (rd1 s_30 v_38) fun v_39 =>
 optK (iaddrS 1 dist5 v_37) fun v_40 =>
 optK (wr1 s_30 v_40 v_39) fun s_41 =>
 optK (addOff 0 (.ptr b_28 0)) fun v_42 =>
 optK (rd1 s_41 v_42) fun v_43 =>
 optK (iaddrS 1 all0 v_43) fun v_44 =>
 optK (rd1 s_41 v_44) fun v_45 =>
 optK (lenOfA v_45) fun v_46 =>
 ∃ I2 : IvP, (∃ m, I2 [(.int .i64 0)] s_41 m) ∧ ∀ (f : Env) (s : Heap) (m2 : Nat), I2 [f 58] s m2 →
 vc_spf_distances_l2 X dist5 q7 (.ptr b_28 0) v_45 (.int .i64 v_46) (f 58) I2 m2 I1 m1 K s)) s_24) s_21)
 (K dist5 s_21)) s
def vc_spf_distances_l0 (X : Told) (all0 : AVal) (t1 : AVal) (dist5 : AVal) (t16 : AVal) (t17 : AVal) (I0 : IvP) (m0 : Nat) (K : KvP) (s : Heap) : Prop :=
 optK (arithV .lss t17 t16) fun v_8 =>
 boolK v_8
 (optK (iaddrS 1 dist5 t17) fun v_9 =>
 optK (wr1 s v_9 (.int .i64 (-1))) fun s_10 =>
 optK (arithV .add t17 (.int .i64 1)) fun v_11 =>
 ∃ m', m' < m0 ∧ I0 [v_11] s_10 m')
 (optK (fillR [(.int .i64 0), (.int .i64 0)] [(0, 1, t1), (1, 1, (.int .i64 0))]) fun c_12 =>
 optK (fillR (repl 1 [(.int .i64 0), (.int .i64 0)]) [(0, 2, (.agg c_12))]) fun c_13 => allOne c_13 = true ∧ newK 103 c_13 (fun b_14 s_15 =>
 boxK 105 (.slc b_14 0 1 (some 1) 2) (fun b_16 s_17 =>
 ∃ I1 : IvP, (∃ m, I1 [] s_17 m) ∧ ∀ (f : Env) (s : Heap) (m1 : Nat), I1 [] s m1 →
 vc_spf_distances_l1 X all0 dist5 b_16 I1 m1 K s) s_15) s)
def vc_spf_distances (X : Told) (all0 : AVal) (t1 : AVal) (K : KvP) (s : Heap) : Prop :=
 optK (lenOfA all0) fun v_0 =>
 optK (nat? (.int .i64 v_0)) fun n_2 => optK (nat? (.int .i64 v_0)) fun n_3 => (n_2 ≤ n_3 ∧ n_3 ≤ 4294967296) ∧ newK 3 (repl n_3 [(.int .i64 0)]) (fun b_4 s_5 =>
 optK (lenOfA (.slc b_4 0 n_2 (some n_3) 1)) fun v_6 =>
 ∃ I0 : IvP, (∃ m, I0 [(.int .i64 0)] s_5 m) ∧ ∀ (f : Env) (s : Heap) (m0 : Nat), I0 [f 17] s m0 →
 vc_spf_distances_l0 X all0 t1 (.slc b_4 0 n_2 (some n_3) 1) (.int .i64 v_6) (f 17) I0 m0 K s) s
def vc_spf_distances_ann : Nat → List Nat := fun k => cond (Nat.beq k 6) [17] (cond (Nat.beq k 16) [] (cond (Nat.beq k 26) [58] ([])))
theorem vc_spf_distances_eq (X : Told) (all0 : AVal) (t1 : AVal) (K : KvP) (s : Heap) : wpC Try.prog X vc_spf_distances_ann Try.f49.ntmps none (bodyOf Try.f49) (envOf [all0, t1]) (fun e env s => retK e (resK Try.prog Try.f49.results.toList env (fun vs => K (oneV vs) s) s)) s = vc_spf_distances X all0 t1 K s := by kernel_rfl
theorem vc_spf_distances_ok {X : Told} (hX : FrX X) (hn : X 49 = none) {all0 : AVal} {t1 : AVal} {K : KvP} {s : Heap} (h : vc_spf_distances X all0 t1 K s) : wpCall Try.prog X 49 [all0, t1] K s :=
 wpCall_code hX vc_spf_distances_ann hn Try.func49 (by kernel_rfl : Try.f49.body = some (bodyOf Try.f49)) (by kernel_rfl) ((vc_spf_distances_eq X all0 t1 K s).mpr h)
theorem vc_spf_distances_in {all0 : AVal} {t1 : AVal} {K : KvP} {s : Heap} (h : vc_spf_distances XX all0 t1 K s) : wpCall Try.prog XX 49 [all0, t1] K s := vc_spf_distances_ok XX_fr rfl h
def vlref10_Valid_j2 (X : Told) (t24 : AVal) (t27 : AVal) (K : KvP) (s : Heap) : Prop :=
 optK (pickV t24 t27 (.bool false)) fun v_5 =>
 K v_5 s
def vlref10_Valid_j1 (X : Told) (nodes0 : AVal) (n3 : AVal) (t20 : AVal) (t22 : AVal) (K : KvP) (s : Heap) : Prop :=
 optK (pickV t20 t22 (.bool false)) fun v_4 =>
 boolK v_4
 (optK (arithV .lss n3 nodes0) fun v_6 =>
 vlref10_Valid_j2 X v_4 v_6 K s)
 (vlref10_Valid_j2 X v_4 .undef K s)
def vlref10_Valid_j0 (X : Told) (nodes0 : AVal) (n3 : AVal) (t13 : AVal) (t18 : AVal) (K : KvP) (s : Heap) : Prop :=
 optK (pickV t13 t18 (.bool false)) fun v_3 =>
 boolK v_3
 (optK (arithV .geq n3 (.int .i64 0)) fun v_7 =>
 vlref10_Valid_j1 X nodes0 n3 v_3 v_7 K s)
 (vlref10_Valid_j1 X nodes0 n3 v_3 .undef K s)
def vlref10_Valid (X : Told) (nodes0 : AVal) (links1 : AVal) (up2 : AVal) (n3 : AVal) (K : KvP) (s : Heap) : Prop :=
 wpCall Try.prog X 68 [nodes0, links1] (fun v_0 s_1 =>
 optK (negB false (eqV 0 true v_0 (.int .i64 0))) fun v_2 =>
 boolK v_2
 (optK (lenOfA up2) fun v_8 =>
 optK (lenOfA links1) fun v_10 =>
 optK (negB false (eqV 0 false (.int .i64 v_8) (.int .i64 v_10))) fun v_12 =>
 vlref10_Valid_j0 X nodes0 n3 v_2 v_12 K s_1)
 (vlref10_Valid_j0 X nodes0 n3 v_2 .undef K s_1)) s
def vlref10_Valid_ann : Nat → List Nat := fun _ => []
theorem vlref10_Valid_eq (X : Told) (nodes0 : AVal) (links1 : AVal) (up2 : AVal) (n3 : AVal) (K : KvP) (s : Heap) : wpC Try.prog X vlref10_Valid_ann Try.f51.ntmps none (bodyOf Try.f51) (envOf [nodes0, links1, up2, n3]) (fun e env s => retK e (resK Try.prog Try.f51.results.toList env (fun vs => K (oneV vs) s) s)) s = vlref10_Valid X nodes0 links1 up2 n3 K s := by kernel_rfl
theorem vlref10_Valid_ok {X : Told} (hX : FrX X) (hn : X 51 = none) {nodes0 : AVal} {links1 : AVal} {up2 : AVal} {n3 : AVal} {K : KvP} {s : Heap} (h : vlref10_Valid X nodes0 links1 up2 n3 K s) : wpCall Try.prog X 51 [nodes0, links1, up2, n3] K s :=
 wpCall_code hX vlref10_Valid_ann hn Try.func51 (by kernel_rfl : Try.f51.body = some (bodyOf Try.f51)) (by kernel_rfl) ((vlref10_Valid_eq X nodes0 links1 up2 n3 K s).mpr h)
theorem vlref10_Valid_in {nodes0 : AVal} {links1 : AVal} {up2 : AVal} {n3 : AVal} {K : KvP} {s : Heap} (h : vlref10_Valid XX nodes0 links1 up2 n3 K s) : wpCall Try.prog XX 51 [nodes0, links1, up2, n3] K s := vlref10_Valid_ok XX_fr rfl h
def vlref10_Dist_j3 (X : Told) (more11 : AVal) (i12 : AVal) (I2 : IvP) (m2 : Nat) (I1 : IvP) (m1 : Nat) (K : KvP) (s : Heap) : Prop :=
 optK (arithV .add i12 (.int .i64 1)) fun v_16 =>
 ∃ m', m' < m2 ∧ I2 [more11, v_16] s m'
def vlref10_Dist_j6 (X : Told) (d9 : AVal) (more11 : AVal) (i12 : AVal) (x13 : AVal) (t97 : AVal) (t104 : AVal) (t118 : AVal) (I2 : IvP) (m2 : Nat) (I1 : IvP) (m1 : Nat) (K : KvP) (s : Heap) : Prop :=
 optK (pickV t104 (.bool true) t118) fun v_47 =>
 optK (pickV t97 v_47 (.bool false)) fun v_48 =>
 boolK v_48
 (optK (addOff 0 x13) fun v_49 =>
 optK (rd1 s v_49) fun v_50 =>
 optK (addOff 1 x13) fun v_51 =>
 optK (rd1 s v_51) fun v_52 =>
 optK (iaddrS 1 d9 v_52) fun v_53 =>
 optK (rd1 s v_53) fun v_54 =>
 optK (addOff 2 x13) fun v_55 =>
 optK (rd1 s v_55) fun v_56 =>
 optK (arithV .add v_54 v_56) fun v_57 =>
 optK (iaddrS 1 d9 v_50) fun v_58 =>
 optK (wr1 s v_58 v_57) fun s_59 =>
 vlref10_Dist_j3 X (.bool true) i12 I2 m2 I1 m1 K s_59)
 (vlref10_Dist_j3 X more11 i12 I2 m2 I1 m1 K s)
def vlref10_Dist_j5 (X : Told) (d9 : AVal) (more11 : AVal) (i12 : AVal) (x13 : AVal) (I2 : IvP) (m2 : Nat) (I1 : IvP) (m1 : Nat) (K : KvP) (s : Heap) : Prop :=
 optK (addOff 1 x13) fun v_37 =>
 optK (rd1 s v_37) fun v_38 =>
 optK (iaddrS 1 d9 v_38) fun v_39 =>
 optK (rd1 s v_39) fun v_40 =>
 optK (arithV .geq v_40 (.int .i64 0)) fun v_41 =>
 boolK v_41
 (optK (addOff 0 x13) fun v_42 =>
 optK (rd1 s v_42) fun v_43 =>
 optK (iaddrS 1 d9 v_43) fun v_44 =>
 optK (rd1 s v_44) fun v_45 =>
 optK (arithV .lss v_45 (.int .i64 0)) fun v_46 =>
 boolK v_46
 (vlref10_Dist_j6 X d9 more11 i12 x13 v_41 v_46 .undef I2 m2 I1 m1 K s)
 (optK (addOff 0 x13) fun v_60 =>
 optK (rd1 s v_60) fun v_61 =>
 optK (iaddrS 1 d9 v_61) fun v_62 =>
 optK (rd1 s v_62) fun v_63 =>
 optK (addOff 1 x13) fun v_64 =>
 optK (rd1 s v_64) fun v_65 =>
 optK (iaddrS 1 d9 v_65) fun v_66 =>
 optK (rd1 s v_66) fun v_67 =>
 optK (addOff 2 x13) fun v_68 =>
 optK (rd1 s v_68) fun v_69 =>
 optK (arithV .add v_67 v_69) fun v_70 =>
 optK (arithV .gtr v_63 v_70) fun v_71 =>
 vlref10_Dist_j6 X d9 more11 i12 x13 v_41 v_46 v_71 I2 m2 I1 m1 K s))
 (optK (pickV v_41 .undef (.bool false)) fun v_72 =>
 boolK v_72
 (optK (addOff 0 x13) fun v_73 =>
 optK (rd1 s v_73) fun v_74 =>
 optK (addOff 1 x13) fun v_75 =>
 optK (rd1 s v_75) fun v_76 =>
 optK (iaddrS 1 d9 v_76) fun v_77 =>
 optK (rd1 s v_77) fun v_78 =>
 optK (addOff 2 x13) fun v_79 =>
 optK (rd1 s v_79) fun v_80 =>
 optK (arithV .add v_78 v_80) fun v_81 =>
 optK (iaddrS 1 d9 v_74) fun v_82 =>
 optK (wr1 s v_82 v_81) fun s_83 =>
 vlref10_Dist_j3 X (.bool true) i12 I2 m2 I1 m1 K s_83)
 (vlref10_Dist_j3 X more11 i12 I2 m2 I1 m1 K s))
def vlref10_Dist_j4 (X : Told) (d9 : AVal) (more11 : AVal) (i12 : AVal) (x13 : AVal) (t55 : AVal) (t62 : AVal) (t76 : AVal) (I2 : IvP) (m2 : Nat) (I1 : IvP) (m1 : Nat) (K : KvP) (s : Heap) : Prop :=
 optK (pickV t62 (.bool true) t76) fun v_35 =>
 optK (pickV t55 v_35 (.bool false)) fun v_36 =>
 boolK v_36
 (optK (addOff 1 x13) fun v_84 =>
 optK (rd1 s v_84) fun v_85 =>
 optK (addOff 0 x13) fun v_86 =>
 optK (rd1 s v_86) fun v_87 =>
 optK (iaddrS 1 d9 v_87) fun v_88 =>
 optK (rd1 s v_88) fun v_89 =>
 optK (addOff 2 x13) fun v_90 =>
 optK (rd1 s v_90) fun v_91 =>
 optK (arithV .add v_89 v_91) fun v_92 =>
 optK (iaddrS 1 d9 v_85) fun v_93 =>
 optK (wr1 s v_93 v_92) fun s_94 =>
 vlref10_Dist_j5 X d9 (.bool true) i12 x13 I2 m2 I1 m1 K s_94)
 (vlref10_Dist_j5 X d9 more11 i12 x13 I2 m2 I1 m1 K s)
def vlref10_Dist_j8 (X : Told) (d9 : AVal) (more11 : AVal) (i12 : AVal) (x13 : AVal) (t97 : AVal) (t104 : AVal) (t118 : AVal) (I2 : IvP) (m2 : Nat) (I1 : IvP) (m1 : Nat) (K : KvP) (s : Heap) : Prop :=
 optK (pickV t104 (.bool true) t118) fun v_118 =>
 optK (pickV t97 v_118 (.bool false)) fun v_119 =>
 boolK v_119
 (optK (addOff 0 x13) fun v_120 =>
 optK (rd1 s v_120) fun v_121 =>
 optK (addOff 1 x13) fun v_122 =>
 optK (rd1 s v_122) fun v_123 =>
 optK (iaddrS 1 d9 v_123) fun v_124 =>
 optK (rd1 s v_124) fun v_125 =>
 optK (addOff 2 x13) fun v_126 =>
 optK (rd1 s v_126) fun v_127 =>
 optK (arithV .add v_125 v_127) fun v_128 =>
 optK (iaddrS 1 d9 v_121) fun v_129 =>
 optK (wr1 s v_129 v_128) fun s_130 =>
 vlref10_Dist_j3 X (.bool true) i12 I2 m2 I1 m1 K s_130)
 (vlref10_Dist_j3 X more11 i12 I2 m2 I1 m1 K s)
def vlref10_Dist_j7 (X : Told) (d9 : AVal) (more11 : AVal) (i12 : AVal) (x13 : AVal) (I2 : IvP) (m2 : Nat) (I1 : IvP) (m1 : Nat) (K : KvP) (s : Heap) : Prop :=
 optK (addOff 1 x13) fun v_108 =>
 optK (rd1 s v_108) fun v_109 =>
 optK (iaddrS 1 d9 v_109) fun v_110 =>
 optK (rd1 s v_110) fun v_111 =>
 optK (arithV .geq v_111 (.int .i64 0)) fun v_112 =>
 boolK v_112
 (optK (addOff 0 x13) fun v_113 =>
 optK (rd1 s v_113) fun v_114 =>
 optK (iaddrS 1 d9 v_114) fun v_115 =>
 optK (rd1 s v_115) fun v_116 =>
 optK (arithV .lss v_116 (.int .i64 0)) fun v_117 =>
 boolK v_117
 (vlref10_Dist_j8 X d9 more11 i12 x13 v_112 v_117 .undef I2 m2 I1 m1 K s)
 (optK (addOff 0 x13) fun v_131 =>
 optK (rd1 s v_131) fun v_132 =>
 optK (iaddrS 1 d9 v_132) fun v_133 =>
 optK (rd1 s v_133) fun v_134 =>
 optK (addOff 1 x13) fun v_135 =>
 optK (rd1 s v_135) fun v_136 =>
 optK (iaddrS 1 d9 v_136) fun v_137 =>
 optK (rd1 s v_137) fun v_138 =>
 optK (addOff 2 x13) fun v_139 =>
 optK (rd1 s v_139) fun v_140 =>
 optK (arithV .add v_138 v_140) fun v_141 =>
 optK (arithV .gtr v_134 v_141) fun v_142 =>
 vlref10_Dist_j8 X d9 more11 i12 x13 v_112 v_117 v_142 I2 m2 I1 m1 K s))
 (optK (pickV v_112 .undef (.bool false)) fun v_143 =>
 boolK v_143
 (optK (addOff 0 x13) fun v_144 =>
 optK (rd1 s v_144) fun v_145 =>
 optK (addOff 1 x13) fun v_146 =>
 optK (rd1 s v_146) fun v_147 =>
 optK (iaddrS 1 d9 v_147) fun v_148 =>
 optK (rd1 s v_148) fun v_149 =>
 optK (addOff 2 x13) fun v_150 =>
 optK (rd1 s v_150) fun v_151 =>
 optK (arithV .add v_149 v_151) fun v_152 =>
 optK (iaddrS 1 d9 v_145) fun v_153 =>
 optK (wr1 s v_153 v_152) fun s_154 =>
 vlref10_Dist_j3 X (.bool true) i12 I2 m2 I1 m1 K s_154)
 (vlref10_Dist_j3 X more11 i12 I2 m2 I1 m1 K s))
def vlref10_Dist_l2 (X : Told) (links1 : AVal) (up2 : AVal) (d9 : AVal) (more11 : AVal) (i12 : AVal) (I2 : IvP) (m2 : Nat) (I1 : IvP) (m1 : Nat) (K : KvP) (s : Heap) : Prop :=
 optK (lenOfA links1) fun v_13 =>
 optK (arithV .lss i12 (.int .i64 v_13)) fun v_15 =>
 boolK v_15
 (optK (iaddrS 3 links1 i12) fun v_17 =>
 optK (rdN s 3 v_17) fun v_18 =>
 newK 39 [(.int .i64 0), (.int .i64 0), (.int .i64 0)] (fun b_19 s_20 =>
 optK (wrAgg s_20 3 (.ptr b_19 0) (.agg v_18)) fun s_21 =>
 optK (iaddrS 1 up2 i12) fun v_22 =>
 optK (rd1 s_21 v_22) fun v_23 =>
 optK (unaryA .not v_23) fun v_24 =>
 boolK v_24
 (vlref10_Dist_j3 X more11 i12 I2 m2 I1 m1 K s_21)
 (optK (addOff 0 (.ptr b_19 0)) fun v_25 =>
 optK (rd1 s_21 v_25) fun v_26 =>
 optK (iaddrS 1 d9 v_26) fun v_27 =>
 optK (rd1 s_21 v_27) fun v_28 =>
 optK (arithV .geq v_28 (.int .i64 0)) fun v_29 =>
 boolK v_29
 (optK (addOff 1 (.ptr b_19 0)) fun v_30 =>
 optK (rd1 s_21 v_30) fun v_31 =>
 optK (iaddrS 1 d9 v_31) fun v_32 =>
 optK (rd1 s_21 v_32) fun v_33 =>
 optK (arithV .lss v_33 (.int .i64 0)) fun v_34 =>
 boolK v_34
 (vlref10_Dist_j4 X d9 more11 i12 (.ptr b_19 0) v_29 v_34 .undef I2 m2 I1 m1 K s_21)
 (optK (addOff 1 (.ptr b_19 0)) fun v_95 =>
 optK (rd1 s_21 v_95) fun v_96 =>
 optK (iaddrS 1 d9 v_96) fun v_97 =>
 optK (rd1 s_21 v_97) fun v_98 =>
 optK (addOff 0 (.ptr b_19 0)) fun v_99 =>
 optK (rd1 s_21 v_99) fun v_100 =>
 optK (iaddrS 1 d9 v_100) fun v_101 =>
 optK (rd1 s_21 v_101) fun v_102 =>
 optK (addOff 2 (.ptr b_19 0)) fun v_103 =>
 optK (rd1 s_21 v_103) fun v_104 =>
 optK (arithV .add v_102 v_104) fun v_105 =>
 optK (arithV .gtr v_98 v_105) fun v_106 =>
 vlref10_Dist_j4 X d9 more11 i12 (.ptr b_19 0) v_29 v_34 v_106 I2 m2 I1 m1 K s_21))
 (optK (pickV v_29 .undef (.bool false)) fun v_107 =>
 boolK v_107
 (optK (addOff 1 (.ptr b_19 0)) fun v_155 =>
 optK (rd1 s_21 v_155) fun v_156 =>
 optK (addOff 0 (.ptr b_19 0)) fun v_157 =>
 optK (rd1 s_21 v_157) fun v_158 =>
 optK (iaddrS 1 d9 v_158) fun v_159 =>
 optK (rd1 s_21 v_159) fun v_160 =>
 optK (addOff 2 (.ptr b_19 0)) fun v_161 =>
 optK (rd1 s_21 v_161) fun v_162 =>
 optK (arithV .add v_160 v_162) fun v_163 =>
 optK (iaddrS 1 d9 v_156) fun v_164 =>
 optK (wr1 s_21 v_164 v_163) fun s_165 =>
 vlref10_Dist_j7 X d9 (.bool true) i12 (.ptr b_19 0) I2 m2 I1 m1 K s_165)
 (vlref10_Dist_j7 X d9 more11 i12 (.ptr b_19 0) I2 m2 I1 m1 K s_21)))) s)
 (∃ m', m' < m1 ∧ I1 [more11] s m')
def vlref10_Dist_l1 (X : Told) (links1 : AVal) (up2 : AVal) (d9 : AVal) (more11 : AVal) (I1 : IvP) (m1 : Nat) (K : KvP) (s : Heap) : Prop :=
 boolK more11
 (∃ I2 : IvP, (∃ m, I2 [(.bool false), (.int .i64 0)] s m) ∧ ∀ (f : Env) (s : Heap) (m2 : Nat), I2 [f 11, f 12] s m2 →
 vlref10_Dist_l2 X links1 up2 d9 (f 11) (f 12) I2 m2 I1 m1 K s)
 (K d9 s)
def vlref10_Dist_l0 (X : Told) (nodes0 : AVal) (links1 : AVal) (up2 : AVal) (t3 : AVal) (d9 : AVal) (n10 : AVal) (I0 : IvP) (m0 : Nat) (K : KvP) (s : Heap) : Prop :=
 optK (arithV .lss n10 nodes0) fun v_7 =>
 boolK v_7
 (optK (iaddrS 1 d9 n10) fun v_8 =>
 optK (wr1 s v_8 (.int .i64 (-1))) fun s_9 =>
 optK (arithV .add n10 (.int .i64 1)) fun v_10 =>
 ∃ m', m' < m0 ∧ I0 [v_10] s_9 m')
 (optK (iaddrS 1 d9 t3) fun v_11 =>
 optK (wr1 s v_11 (.int .i64 0)) fun s_12 =>
 ∃ I1 : IvP, (∃ m, I1 [(.bool true)] s_12 m) ∧ ∀ (f : Env) (s : Heap) (m1 : Nat), I1 [f 11] s m1 →
 vlref10_Dist_l1 X links1 up2 d9 (f 11) I1 m1 K s)
def vlref10_Dist (X : Told) (nodes0 : AVal) (links1 : AVal) (up2 : AVal) (t3 : AVal) (K : KvP) (s : Heap) : Prop :=
 wpCall Try.prog X 51 [nodes0, links1, up2, t3] (fun v_0 s_1 =>
 optK (unaryA .not v_0) fun v_2 =>
 boolK v_2
 (K .nilslc s_1)
 (optK (nat? nodes0) fun n_3 => optK (nat? nodes0) fun n_4 => (n_3 ≤ n_4 ∧ n_4 ≤ 4294967296) ∧ newK 3 (repl n_4 [(.int .i64 0)]) (fun b_5 s_6 =>
 ∃ I0 : IvP, (∃ m, I0 [(.int .i64 0)] s_6 m) ∧ ∀ (f : Env) (s : Heap) (m0 : Nat), I0 [f 10] s m0 →
 vlref10_Dist_l0 X nodes0 links1 up2 t3 (.slc b_5 0 n_3 (some n_4) 1) (f 10) I0 m0 K s) s_1)) s
def vlref10_Dist_ann : Nat → List Nat := fun k => cond (Nat.beq k 10) [10] (cond (Nat.beq k 20) [11] (cond (Nat.beq k 26) [11, 12] ([])))
theorem vlref10_Dist_eq (X : Told) (nodes0 : AVal) (links1 : AVal) (up2 : AVal) (t3 : AVal) (K : KvP) (s : Heap) : wpC Try.prog X vlref10_Dist_ann Try.f52.ntmps none (bodyOf Try.f52) (envOf [nodes0, links1, up2, t3]) (fun e env s => retK e (resK Try.prog Try.f52.results.toList env (fun vs => K (oneV vs) s) s)) s = vlref10_Dist X nodes0 links1 up2 t3 K s := by kernel_rfl
theorem vlref10_Dist_ok {X : Told} (hX : FrX X) (hn : X 52 = none) {nodes0 : AVal} {links1 : AVal} {up2 : AVal} {t3 : AVal} {K : KvP} {s : Heap} (h : vlref10_Dist X nodes0 links1 up2 t3 K s) : wpCall Try.prog X 52 [nodes0, links1, up2, t3] K s :=
 wpCall_code hX vlref10_Dist_ann hn Try.func52 (by kernel_rfl : Try.f52.body = some (bodyOf Try.f52)) (by kernel_rfl) ((vlref10_Dist_eq X nodes0 links1 up2 t3 K s).mpr h)
theorem vlref10_Dist_in {nodes0 : AVal} {links1 : AVal} {up2 : AVal} {t3 : AVal} {K : KvP} {s : Heap} (h : vlref10_Dist XX nodes0 links1 up2 t3 K s) : wpCall Try.prog XX 52 [nodes0, links1, up2, t3] K s := vlref10_Dist_ok XX_fr rfl h
def vc_spf_Parents (X : Told) (nodes0 : AVal) (links1 : AVal) (up2 : AVal) (t3 : AVal) (K : KvP) (s : Heap) : Prop :=
 optK (fillR (repl 1 [(.int .i64 0)]) [(0, 1, t3)]) fun c_0 => allOne c_0 = true ∧ newK 3 c_0 (fun b_1 s_2 =>
 wpCall Try.prog X 48 [nodes0, links1, up2, (.slc b_1 0 1 (some 1) 1)] (fun v_3 s_4 =>
 optK (unaryA .not v_3) fun v_5 =>
 boolK v_5
 (K .nilslc s_4)
 (wpCall Try.prog X 50 [nodes0, links1, up2] (fun v_6 s_7 =>
 wpCall Try.prog X 49 [v_6, t3] (fun v_8 s_9 =>
 wpCall Try.prog X 72 [v_6, v_8] (fun v_10 s_11 =>
 K v_10 s_11) s_9) s_7) s_4)) s_2) s
def vc_spf_Parents_ann : Nat → List Nat := fun _ => []
theorem vc_spf_Parents_eq (X : Told) (nodes0 : AVal) (links1 : AVal) (up2 : AVal) (t3 : AVal) (K : KvP) (s : Heap) : wpC Try.prog X vc_spf_Parents_ann Try.f56.ntmps none (bodyOf Try.f56) (envOf [nodes0, links1, up2, t3]) (fun e env s => retK e (resK Try.prog Try.f56.results.toList env (fun vs => K (oneV vs) s) s)) s = vc_spf_Parents X nodes0 links1 up2 t3 K s := by kernel_rfl
theorem vc_spf_Parents_ok {X : Told} (hX : FrX X) (hn : X 56 = none) {nodes0 : AVal} {links1 : AVal} {up2 : AVal} {t3 : AVal} {K : KvP} {s : Heap} (h : vc_spf_Parents X nodes0 links1 up2 t3 K s) : wpCall Try.prog X 56 [nodes0, links1, up2, t3] K s :=
 wpCall_code hX vc_spf_Parents_ann hn Try.func56 (by kernel_rfl : Try.f56.body = some (bodyOf Try.f56)) (by kernel_rfl) ((vc_spf_Parents_eq X nodes0 links1 up2 t3 K s).mpr h)
theorem vc_spf_Parents_in {nodes0 : AVal} {links1 : AVal} {up2 : AVal} {t3 : AVal} {K : KvP} {s : Heap} (h : vc_spf_Parents XX nodes0 links1 up2 t3 K s) : wpCall Try.prog XX 56 [nodes0, links1, up2, t3] K s := vc_spf_Parents_ok XX_fr rfl h
def vc_tree_grow_1 (X : Told) (n0 : AVal) (t1 : AVal) (t2 : AVal) (t3 : AVal) (t4 : AVal) (K : KvP) (s : Heap) : Prop :=
 optK (rd1 s t1) fun v_0 =>
 optK (iaddrS 1 v_0 n0) fun v_1 =>
 optK (rd1 s v_1) fun v_2 =>
 optK (arithV .lss v_2 (.int .i64 0)) fun v_3 =>
 boolK v_3
 (K (.tup []) s)
 (optK (rd1 s t2) fun v_4 =>
 optK (getM s v_4 v_2) fun r_5 =>
 optK (extractA (retM (.agg []) true r_5) 0) fun v_6 =>
 optK (extractA (retM (.agg []) true r_5) 1) fun v_7 =>
 newK 84 [] (fun b_8 s_9 =>
 optK (wrAgg s_9 0 (.ptr b_8 0) v_6) fun s_10 =>
 boolK v_7
 (K (.tup []) s_10)
 (optK (rd1 s_10 t2) fun v_11 =>
 optK (fillR [] []) fun c_12 =>
 optK (putM s_10 v_11 v_2 (.agg c_12)) fun s_13 =>
 optK (rd1 s_13 t3) fun v_14 =>
 optK (addOff 2 t4) fun v_15 =>
 optK (rd1 s_13 v_15) fun v_16 =>
 optK (iaddrS 3 v_16 v_2) fun v_17 =>
 optK (addOff 0 v_17) fun v_18 =>
 optK (rd1 s_13 v_18) fun v_19 =>
 optK (addOff 2 t4) fun v_20 =>
 optK (rd1 s_13 v_20) fun v_21 =>
 optK (iaddrS 3 v_21 v_2) fun v_22 =>
 optK (addOff 1 v_22) fun v_23 =>
 optK (rd1 s_13 v_23) fun v_24 =>
 optK (arithV .add v_19 v_24) fun v_25 =>
 optK (arithV .sub v_25 n0) fun v_26 =>
 funK Try.prog X v_14 [v_26] (fun v_27 s_28 =>
 K (.tup []) s_28) s_13)) s)
def vc_tree_grow_1_ann : Nat → List Nat := fun _ => []
theorem vc_tree_grow_1_eq (X : Told) (n0 : AVal) (t1 : AVal) (t2 : AVal) (t3 : AVal) (t4 : AVal) (K : KvP) (s : Heap) : wpC Try.prog X vc_tree_grow_1_ann Try.f57.ntmps none (bodyOf Try.f57) (envOf [n0, t1, t2, t3, t4]) (fun e env s => retK e (resK Try.prog Try.f57.results.toList env (fun vs => K (oneV vs) s) s)) s = vc_tree_grow_1 X n0 t1 t2 t3 t4 K s := by kernel_rfl
theorem vc_tree_grow_1_ok {X : Told} (hX : FrX X) (hn : X 57 = none) {n0 : AVal} {t1 : AVal} {t2 : AVal} {t3 : AVal} {t4 : AVal} {K : KvP} {s : Heap} (h : vc_tree_grow_1 X n0 t1 t2 t3 t4 K s) : wpCall Try.prog X 57 [n0, t1, t2, t3, t4] K s :=
 wpCall_code hX vc_tree_grow_1_ann hn Try.func57 (by kernel_rfl : Try.f57.body = some (bodyOf Try.f57)) (by kernel_rfl) ((vc_tree_grow_1_eq X n0 t1 t2 t3 t4 K s).mpr h)
theorem vc_tree_grow_1_in {n0 : AVal} {t1 : AVal} {t2 : AVal} {t3 : AVal} {t4 : AVal} {K : KvP} {s : Heap} (h : vc_tree_grow_1 XX n0 t1 t2 t3 t4 K s) : wpCall Try.prog XX 57 [n0, t1, t2, t3, t4] K s := vc_tree_grow_1_ok XX_fr rfl h
def vc_tree_inside (X : Told) (x0 : AVal) (dist1 : AVal) (members2 : AVal) (K : KvP) (s : Heap) : Prop :=
 boxK 25 x0 (fun b_0 s_1 =>
 boxK 28 dist1 (fun b_2 s_3 =>
 boxK 28 members2 (fun b_4 s_5 =>
 K (.fn (.func 73) [] [b_4, b_0, b_2]) s_5) s_3) s_1) s
def vc_tree_inside_ann : Nat → List Nat := fun _ => []
theorem vc_tree_inside_eq (X : Told) (x0 : AVal) (dist1 : AVal) (members2 : AVal) (K : KvP) (s : Heap) : wpC Try.prog X vc_tree_inside_ann Try.f58.ntmps none (bodyOf Try.f58) (envOf [x0, dist1, members2]) (fun e env s => retK e (resK Try.prog Try.f58.results.toList env (fun vs => K (oneV vs) s) s)) s = vc_tree_inside X x0 dist1 members2 K s := by kernel_rfl
theorem vc_tree_inside_ok {X : Told} (hX : FrX X) (hn : X 58 = none) {x0 : AVal} {dist1 : AVal} {members2 : AVal} {K : KvP} {s : Heap} (h : vc_tree_inside X x0 dist1 members2 K s) : wpCall Try.prog X 58 [x0, dist1, members2] K s :=
 wpCall_code hX vc_tree_inside_ann hn Try.func58 (by kernel_rfl : Try.f58.body = some (bodyOf Try.f58)) (by kernel_rfl) ((vc_tree_inside_eq X x0 dist1 members2 K s).mpr h)
theorem vc_tree_inside_in {x0 : AVal} {dist1 : AVal} {members2 : AVal} {K : KvP} {s : Heap} (h : vc_tree_inside XX x0 dist1 members2 K s) : wpCall Try.prog XX 58 [x0, dist1, members2] K s := vc_tree_inside_ok XX_fr rfl h
def vlref10_Parents_j1 (X : Told) (out10 : AVal) (n11 : AVal) (I0 : IvP) (m0 : Nat) (K : KvP) (s : Heap) : Prop :=
 optK (arithV .add n11 (.int .i64 1)) fun v_10 =>
 ∃ m', m' < m0 ∧ I0 [out10, v_10] s m'
def vlref10_Parents_l0 (X : Told) (nodes0 : AVal) (links1 : AVal) (up2 : AVal) (t3 : AVal) (d9 : AVal) (out10 : AVal) (n11 : AVal) (I0 : IvP) (m0 : Nat) (K : KvP) (s : Heap) : Prop :=
 optK (lenOfA d9) fun v_2 =>
 optK (arithV .lss n11 (.int .i64 v_2)) fun v_4 =>
 boolK v_4
 (wpCall Try.prog X 76 [nodes0, links1, up2, n11, t3] (fun v_5 s_6 =>
 optK (lenOfA v_5) fun v_7 =>
 optK (negB false (eqV 0 true (.int .i64 v_7) (.int .i64 0))) fun v_9 =>
 boolK v_9
 (optK (fillR (repl 1 [(.int .i64 0)]) [(0, 1, (.int .i64 (-1)))]) fun c_11 => allOne c_11 = true ∧ newK 3 c_11 (fun b_12 s_13 =>
 appK 3 1 out10 (.slc b_12 0 1 (some 1) 1) (fun v_14 s_15 =>
 vlref10_Parents_j1 X v_14 n11 I0 m0 K s_15) s_13) s_6)
 (optK (iaddrS 1 v_5 (.int .i64 0)) fun v_16 =>
 optK (rd1 s_6 v_16) fun v_17 =>
 optK (fillR (repl 1 [(.int .i64 0)]) [(0, 1, v_17)]) fun c_18 => allOne c_18 = true ∧ newK 3 c_18 (fun b_19 s_20 =>
 appK 3 1 out10 (.slc b_19 0 1 (some 1) 1) (fun v_21 s_22 =>
 vlref10_Parents_j1 X v_21 n11 I0 m0 K s_22) s_20) s_6)) s)
 (K out10 s)
def vlref10_Parents (X : Told) (nodes0 : AVal) (links1 : AVal) (up2 : AVal) (t3 : AVal) (K : KvP) (s : Heap) : Prop :=
 wpCall Try.prog X 52 [nodes0, links1, up2, t3] (fun v_0 s_1 =>
 ∃ I0 : IvP, (∃ m, I0 [.nilslc, (.int .i64 0)] s_1 m) ∧ ∀ (f : Env) (s : Heap) (m0 : Nat), I0 [f 10, f 11] s m0 →
 vlref10_Parents_l0 X nodes0 links1 up2 t3 v_0 (f 10) (f 11) I0 m0 K s) s
def vlref10_Parents_ann : Nat → List Nat := fun k => cond (Nat.beq k 8) [10, 11] ([])
theorem vlref10_Parents_eq (X : Told) (nodes0 : AVal) (links1 : AVal) (up2 : AVal) (t3 : AVal) (K : KvP) (s : Heap) : wpC Try.prog X vlref10_Parents_ann Try.f59.ntmps none (bodyOf Try.f59) (envOf [nodes0, links1, up2, t3]) (fun e env s => retK e (resK Try.prog Try.f59.results.toList env (fun vs => K (oneV vs) s) s)) s = vlref10_Parents X nodes0 links1 up2 t3 K s := by kernel_rfl
theorem vlref10_Parents_ok {X : Told} (hX : FrX X) (hn : X 59 = none) {nodes0 : AVal} {links1 : AVal} {up2 : AVal} {t3 : AVal} {K : KvP} {s : Heap} (h : vlref10_Parents X nodes0 links1 up2 t3 K s) : wpCall Try.prog X 59 [nodes0, links1, up2, t3] K s :=
 wpCall_code hX vlref10_Parents_ann hn Try.func59 (by kernel_rfl : Try.f59.body = some (bodyOf Try.f59)) (by kernel_rfl) ((vlref10_Parents_eq X nodes0 links1 up2 t3 K s).mpr h)
theorem vlref10_Parents_in {nodes0 : AVal} {links1 : AVal} {up2 : AVal} {t3 : AVal} {K : KvP} {s : Heap} (h : vlref10_Parents XX nodes0 links1 up2 t3 K s) : wpCall Try.prog XX 59 [nodes0, links1, up2, t3] K s := vlref10_Parents_ok XX_fr rfl h
def vlref10_Other (X : Told) (x0 : AVal) (n1 : AVal) (K : KvP) (s : Heap) : Prop :=
 boxK 39 x0 (fun b_0 s_1 =>
 optK (addOff 0 b_0) fun v_2 =>
 optK (rd1 s_1 v_2) fun v_3 =>
 optK (negB false (eqV 0 false n1 v_3)) fun v_4 =>
 boolK v_4
 (optK (addOff 1 b_0) fun v_5 =>
 optK (rd1 s_1 v_5) fun v_6 =>
 K (.tup [v_6, (.bool true)]) s_1)
 (optK (addOff 1 b_0) fun v_7 =>
 optK (rd1 s_1 v_7) fun v_8 =>
 optK (negB false (eqV 0 false n1 v_8)) fun v_9 =>
 boolK v_9
 (optK (addOff 0 b_0) fun v_10 =>
 optK (rd1 s_1 v_10) fun v_11 =>
 K (.tup [v_11, (.bool true)]) s_1)
 (K (.tup [(.int .i64 0), (.bool false)]) s_1))) s
def vlref10_Other_ann : Nat → List Nat := fun _ => []
theorem vlref10_Other_eq (X : Told) (x0 : AVal) (n1 : AVal) (K : KvP) (s : Heap) : wpC Try.prog X vlref10_Other_ann Try.f60.ntmps none (bodyOf Try.f60) (envOf [x0, n1]) (fun e env s => retK e (resK Try.prog Try.f60.results.toList env (fun vs => K (oneV vs) s) s)) s = vlref10_Other X x0 n1 K s := by kernel_rfl
theorem vlref10_Other_ok {X : Told} (hX : FrX X) (hn : X 60 = none) {x0 : AVal} {n1 : AVal} {K : KvP} {s : Heap} (h : vlref10_Other X x0 n1 K s) : wpCall Try.prog X 60 [x0, n1] K s :=
 wpCall_code hX vlref10_Other_ann hn Try.func60 (by kernel_rfl : Try.f60.body = some (bodyOf Try.f60)) (by kernel_rfl) ((vlref10_Other_eq X x0 n1 K s).mpr h)
theorem vlref10_Other_in {x0 : AVal} {n1 : AVal} {K : KvP} {s : Heap} (h : vlref10_Other XX x0 n1 K s) : wpCall Try.prog XX 60 [x0, n1] K s := vlref10_Other_ok XX_fr rfl h
def vs_Index___int_int__l0 (X : Told) (t0 : AVal) (v1 : AVal) (t7 : AVal) (t8 : AVal) (I0 : IvP) (m0 : Nat) (K : KvP) (s : Heap) : Prop :=
 optK (arithV .lss t8 t7) fun v_2 =>
 boolK v_2
 (optK (iaddrS 1 t0 t8) fun v_3 =>
 optK (rd1 s v_3) fun v_4 =>
 optK (negB false (eqV 0 false v1 v_4)) fun v_5 =>
 boolK v_5
 (K t8 s)
 (optK (arithV .add t8 (.int .i64 1)) fun v_6 =>
 ∃ m', m' < m0 ∧ I0 [v_6] s m'))
 (K (.int .i64 (-1)) s)
def vs_Index___int_int_ (X : Told) (t0 : AVal) (v1 : AVal) (K : KvP) (s : Heap) : Prop :=
 optK (lenOfA t0) fun v_0 =>
 ∃ I0 : IvP, (∃ m, I0 [(.int .i64 0)] s m) ∧ ∀ (f : Env) (s : Heap) (m0 : Nat), I0 [f 8] s m0 →
 vs_Index___int_int__l0 X t0 v1 (.int .i64 v_0) (f 8) I0 m0 K s
def vs_Index___int_int__ann : Nat → List Nat := fun k => cond (Nat.beq k 4) [8] ([])
theorem vs_Index___int_int__eq (X : Told) (t0 : AVal) (v1 : AVal) (K : KvP) (s : Heap) : wpC Try.prog X vs_Index___int_int__ann Try.f61.ntmps none (bodyOf Try.f61) (envOf [t0, v1]) (fun e env s => retK e (resK Try.prog Try.f61.results.toList env (fun vs => K (oneV vs) s) s)) s = vs_Index___int_int_ X t0 v1 K s := by kernel_rfl
theorem vs_Index___int_int__ok {X : Told} (hX : FrX X) (hn : X 61 = none) {t0 : AVal} {v1 : AVal} {K : KvP} {s : Heap} (h : vs_Index___int_int_ X t0 v1 K s) : wpCall Try.prog X 61 [t0, v1] K s :=
 wpCall_code hX vs_Index___int_int__ann hn Try.func61 (by kernel_rfl : Try.f61.body = some (bodyOf Try.f61)) (by kernel_rfl) ((vs_Index___int_int__eq X t0 v1 K s).mpr h)
theorem vs_Index___int_int__in {t0 : AVal} {v1 : AVal} {K : KvP} {s : Heap} (h : vs_Index___int_int_ XX t0 v1 K s) : wpCall Try.prog XX 61 [t0, v1] K s := vs_Index___int_int__ok XX_fr rfl h
def vc_spf_valid_1_j0 (X : Told) (t6 : AVal) (t9 : AVal) (K : KvP) (s : Heap) : Prop :=
 optK (pickV t6 (.bool true) t9) fun v_1 =>
 K v_1 s
def vc_spf_valid_1 (X : Told) (n0 : AVal) (t1 : AVal) (K : KvP) (s : Heap) : Prop :=
 optK (arithV .lss n0 (.int .i64 0)) fun v_0 =>
 boolK v_0
 (vc_spf_valid_1_j0 X v_0 .undef K s)
 (optK (rd1 s t1) fun v_2 =>
 optK (arithV .geq n0 v_2) fun v_3 =>
 vc_spf_valid_1_j0 X v_0 v_3 K s)
def vc_spf_valid_1_ann : Nat → List Nat := fun _ => []
theorem vc_spf_valid_1_eq (X : Told) (n0 : AVal) (t1 : AVal) (K : KvP) (s : Heap) : wpC Try.prog X vc_spf_valid_1_ann Try.f62.ntmps none (bodyOf Try.f62) (envOf [n0, t1]) (fun e env s => retK e (resK Try.prog Try.f62.results.toList env (fun vs => K (oneV vs) s) s)) s = vc_spf_valid_1 X n0 t1 K s := by kernel_rfl
theorem vc_spf_valid_1_ok {X : Told} (hX : FrX X) (hn : X 62 = none) {n0 : AVal} {t1 : AVal} {K : KvP} {s : Heap} (h : vc_spf_valid_1 X n0 t1 K s) : wpCall Try.prog X 62 [n0, t1] K s :=
 wpCall_code hX vc_spf_valid_1_ann hn Try.func62 (by kernel_rfl : Try.f62.body = some (bodyOf Try.f62)) (by kernel_rfl) ((vc_spf_valid_1_eq X n0 t1 K s).mpr h)
theorem vc_spf_valid_1_in {n0 : AVal} {t1 : AVal} {K : KvP} {s : Heap} (h : vc_spf_valid_1 XX n0 t1 K s) : wpCall Try.prog XX 62 [n0, t1] K s := vc_spf_valid_1_ok XX_fr rfl h
def vs_ContainsFunc___int_int_ (X : Told) (t0 : AVal) (t1 : AVal) (K : KvP) (s : Heap) : Prop :=
 wpCall Try.prog X 77 [t0, t1] (fun v_0 s_1 =>
 optK (arithV .geq v_0 (.int .i64 0)) fun v_2 =>
 K v_2 s_1) s
def vs_ContainsFunc___int_int__ann : Nat → List Nat := fun _ => []
theorem vs_ContainsFunc___int_int__eq (X : Told) (t0 : AVal) (t1 : AVal) (K : KvP) (s : Heap) : wpC Try.prog X vs_ContainsFunc___int_int__ann Try.f63.ntmps none (bodyOf Try.f63) (envOf [t0, t1]) (fun e env s => retK e (resK Try.prog Try.f63.results.toList env (fun vs => K (oneV vs) s) s)) s = vs_ContainsFunc___int_int_ X t0 t1 K s := by kernel_rfl
theorem vs_ContainsFunc___int_int__ok {X : Told} (hX : FrX X) (hn : X 63 = none) {t0 : AVal} {t1 : AVal} {K : KvP} {s : Heap} (h : vs_ContainsFunc___int_int_ X t0 t1 K s) : wpCall Try.prog X 63 [t0, t1] K s :=
 wpCall_code hX vs_ContainsFunc___int_int__ann hn Try.func63 (by kernel_rfl : Try.f63.body = some (bodyOf Try.f63)) (by kernel_rfl) ((vs_ContainsFunc___int_int__eq X t0 t1 K s).mpr h)
theorem vs_ContainsFunc___int_int__in {t0 : AVal} {t1 : AVal} {K : KvP} {s : Heap} (h : vs_ContainsFunc___int_int_ XX t0 t1 K s) : wpCall Try.prog XX 63 [t0, t1] K s := vs_ContainsFunc___int_int__ok XX_fr rfl h
def vc_spf_queue_Len (X : Told) (q0 : AVal) (K : KvP) (s : Heap) : Prop :=
 optK (lenOfA q0) fun v_0 =>
 K (.int .i64 v_0) s
def vc_spf_queue_Len_ann : Nat → List Nat := fun _ => []
theorem vc_spf_queue_Len_eq (X : Told) (q0 : AVal) (K : KvP) (s : Heap) : wpC Try.prog X vc_spf_queue_Len_ann Try.f64.ntmps none (bodyOf Try.f64) (envOf [q0]) (fun e env s => retK e (resK Try.prog Try.f64.results.toList env (fun vs => K (oneV vs) s) s)) s = vc_spf_queue_Len X q0 K s := by kernel_rfl
theorem vc_spf_queue_Len_ok {X : Told} (hX : FrX X) (hn : X 64 = none) {q0 : AVal} {K : KvP} {s : Heap} (h : vc_spf_queue_Len X q0 K s) : wpCall Try.prog X 64 [q0] K s :=
 wpCall_code hX vc_spf_queue_Len_ann hn Try.func64 (by kernel_rfl : Try.f64.body = some (bodyOf Try.f64)) (by kernel_rfl) ((vc_spf_queue_Len_eq X q0 K s).mpr h)
theorem vc_spf_queue_Len_in {q0 : AVal} {K : KvP} {s : Heap} (h : vc_spf_queue_Len XX q0 K s) : wpCall Try.prog XX 64 [q0] K s := vc_spf_queue_Len_ok XX_fr rfl h
def vh_Pop (X : Told) (h0 : AVal) (K : KvP) (s : Heap) : Prop :=
 methK Try.prog X h0 "Len" [] (fun v_0 s_1 =>
 optK (arithV .sub v_0 (.int .i64 1)) fun v_2 =>
 methK Try.prog X h0 "Swap" [(.int .i64 0), v_2] (fun v_3 s_4 =>
 wpCall Try.prog X 78 [h0, (.int .i64 0), v_2] (fun v_5 s_6 =>
 methK Try.prog X h0 "Pop" [] (fun v_7 s_8 =>
 K v_7 s_8) s_6) s_4) s_1) s
def vh_Pop_ann : Nat → List Nat := fun _ => []
theorem vh_Pop_eq (X : Told) (h0 : AVal) (K : KvP) (s : Heap) : wpC Try.prog X vh_Pop_ann Try.f65.ntmps none (bodyOf Try.f65) (envOf [h0]) (fun e env s => retK e (resK Try.prog Try.f65.results.toList env (fun vs => K (oneV vs) s) s)) s = vh_Pop X h0 K s := by kernel_rfl
theorem vh_Pop_ok {X : Told} (hX : FrX X) (hn : X 65 = none) {h0 : AVal} {K : KvP} {s : Heap} (h : vh_Pop X h0 K s) : wpCall Try.prog X 65 [h0] K s :=
 wpCall_code hX vh_Pop_ann hn Try.func65 (by kernel_rfl : Try.f65.body = some (bodyOf Try.f65)) (by kernel_rfl) ((vh_Pop_eq X h0 K s).mpr h)
theorem vh_Pop_in {h0 : AVal} {K : KvP} {s : Heap} (h : vh_Pop XX h0 K s) : wpCall Try.prog XX 65 [h0] K s := vh_Pop_ok XX_fr rfl h
def vh_Push (X : Told) (h0 : AVal) (x1 : AVal) (K : KvP) (s : Heap) : Prop :=
 methK Try.prog X h0 "Push" [x1] (fun v_0 s_1 =>
 methK Try.prog X h0 "Len" [] (fun v_2 s_3 =>
 optK (arithV .sub v_2 (.int .i64 1)) fun v_4 =>
 wpCall Try.prog X 79 [h0, v_4] (fun v_5 s_6 =>
 K (.tup []) s_6) s_3) s_1) s
def vh_Push_ann : Nat → List Nat := fun _ => []
theorem vh_Push_eq (X : Told) (h0 : AVal) (x1 : AVal) (K : KvP) (s : Heap) : wpC Try.prog X vh_Push_ann Try.f66.ntmps none (bodyOf Try.f66) (envOf [h0, x1]) (fun e env s => retK e (resK Try.prog Try.f66.results.toList env (fun vs => K (oneV vs) s) s)) s = vh_Push X h0 x1 K s := by kernel_rfl
theorem vh_Push_ok {X : Told} (hX : FrX X) (hn : X 66 = none) {h0 : AVal} {x1 : AVal} {K : KvP} {s : Heap} (h : vh_Push X h0 x1 K s) : wpCall Try.prog X 66 [h0, x1] K s :=
 wpCall_code hX vh_Push_ann hn Try.func66 (by kernel_rfl : Try.f66.body = some (bodyOf Try.f66)) (by kernel_rfl) ((vh_Push_eq X h0 x1 K s).mpr h)
theorem vh_Push_in {h0 : AVal} {x1 : AVal} {K : KvP} {s : Heap} (h : vh_Push XX h0 x1 K s) : wpCall Try.prog XX 66 [h0, x1] K s := vh_Push_ok XX_fr rfl h
def vc_spf_enabled_api_Link_ (X : Told) (list0 : AVal) (flags1 : AVal) (K : KvP) (s : Heap) : Prop :=
 boxK 22 list0 (fun b_0 s_1 =>
 boxK 23 flags1 (fun b_2 s_3 =>
 K (.fn (.func 80) [] [b_0, b_2]) s_3) s_1) s
def vc_spf_enabled_api_Link__ann : Nat → List Nat := fun _ => []
theorem vc_spf_enabled_api_Link__eq (X : Told) (list0 : AVal) (flags1 : AVal) (K : KvP) (s : Heap) : wpC Try.prog X vc_spf_enabled_api_Link__ann Try.f67.ntmps none (bodyOf Try.f67) (envOf [list0, flags1]) (fun e env s => retK e (resK Try.prog Try.f67.results.toList env (fun vs => K (oneV vs) s) s)) s = vc_spf_enabled_api_Link_ X list0 flags1 K s := by kernel_rfl
theorem vc_spf_enabled_api_Link__ok {X : Told} (hX : FrX X) (hn : X 67 = none) {list0 : AVal} {flags1 : AVal} {K : KvP} {s : Heap} (h : vc_spf_enabled_api_Link_ X list0 flags1 K s) : wpCall Try.prog X 67 [list0, flags1] K s :=
 wpCall_code hX vc_spf_enabled_api_Link__ann hn Try.func67 (by kernel_rfl : Try.f67.body = some (bodyOf Try.f67)) (by kernel_rfl) ((vc_spf_enabled_api_Link__eq X list0 flags1 K s).mpr h)
theorem vc_spf_enabled_api_Link__in {list0 : AVal} {flags1 : AVal} {K : KvP} {s : Heap} (h : vc_spf_enabled_api_Link_ XX list0 flags1 K s) : wpCall Try.prog XX 67 [list0, flags1] K s := vc_spf_enabled_api_Link__ok XX_fr rfl h
def vlref09_Valid_j6 (X : Told) (i5 : AVal) (x6 : AVal) (t53 : AVal) (t56 : AVal) (I1 : IvP) (m1 : Nat) (K : KvP) (s : Heap) : Prop :=
 optK (pickV t53 (.bool true) t56) fun v_20 =>
 boolK v_20
 (K (.int .i64 2) s)
 (optK (addOff 0 x6) fun v_21 =>
 optK (rd1 s v_21) fun v_22 =>
 optK (addOff 1 x6) fun v_23 =>
 optK (rd1 s v_23) fun v_24 =>
 optK (negB false (eqV 0 false v_22 v_24)) fun v_25 =>
 boolK v_25
 (K (.int .i64 12) s)
 (optK (arithV .add i5 (.int .i64 1)) fun v_26 =>
 ∃ m', m' < m1 ∧ I1 [v_26] s m'))
def vlref09_Valid_j5 (X : Told) (i5 : AVal) (x6 : AVal) (t48 : AVal) (t51 : AVal) (I1 : IvP) (m1 : Nat) (K : KvP) (s : Heap) : Prop :=
 optK (pickV t48 (.bool true) t51) fun v_19 =>
 boolK v_19
 (vlref09_Valid_j6 X i5 x6 v_19 .undef I1 m1 K s)
 (optK (addOff 2 x6) fun v_27 =>
 optK (rd1 s v_27) fun v_28 =>
 optK (arithV .gtr v_28 (.int .i64 1000)) fun v_29 =>
 vlref09_Valid_j6 X i5 x6 v_19 v_29 I1 m1 K s)
def vlref09_Valid_j4 (X : Told) (i5 : AVal) (x6 : AVal) (t42 : AVal) (t46 : AVal) (I1 : IvP) (m1 : Nat) (K : KvP) (s : Heap) : Prop :=
 optK (pickV t42 (.bool true) t46) fun v_18 =>
 boolK v_18
 (vlref09_Valid_j5 X i5 x6 v_18 .undef I1 m1 K s)
 (optK (addOff 2 x6) fun v_30 =>
 optK (rd1 s v_30) fun v_31 =>
 optK (arithV .lss v_31 (.int .i64 1)) fun v_32 =>
 vlref09_Valid_j5 X i5 x6 v_18 v_32 I1 m1 K s)
def vlref09_Valid_j3 (X : Told) (nodes0 : AVal) (i5 : AVal) (x6 : AVal) (t37 : AVal) (t40 : AVal) (I1 : IvP) (m1 : Nat) (K : KvP) (s : Heap) : Prop :=
 optK (pickV t37 (.bool true) t40) fun v_17 =>
 boolK v_17
 (vlref09_Valid_j4 X i5 x6 v_17 .undef I1 m1 K s)
 (optK (addOff 1 x6) fun v_33 =>
 optK (rd1 s v_33) fun v_34 =>
 optK (arithV .geq v_34 nodes0) fun v_35 =>
 vlref09_Valid_j4 X i5 x6 v_17 v_35 I1 m1 K s)
def vlref09_Valid_j2 (X : Told) (nodes0 : AVal) (i5 : AVal) (x6 : AVal) (t31 : AVal) (t35 : AVal) (I1 : IvP) (m1 : Nat) (K : KvP) (s : Heap) : Prop :=
 optK (pickV t31 (.bool true) t35) fun v_16 =>
 boolK v_16
 (vlref09_Valid_j3 X nodes0 i5 x6 v_16 .undef I1 m1 K s)
 (optK (addOff 1 x6) fun v_36 =>
 optK (rd1 s v_36) fun v_37 =>
 optK (arithV .lss v_37 (.int .i64 0)) fun v_38 =>
 vlref09_Valid_j3 X nodes0 i5 x6 v_16 v_38 I1 m1 K s)
def vlref09_Valid_l1 (X : Told) (nodes0 : AVal) (links1 : AVal) (i5 : AVal) (I1 : IvP) (m1 : Nat) (K : KvP) (s : Heap) : Prop :=
 optK (lenOfA links1) fun v_5 =>
 optK (arithV .lss i5 (.int .i64 v_5)) fun v_7 =>
 boolK v_7
 (optK (iaddrS 3 links1 i5) fun v_8 =>
 optK (rdN s 3 v_8) fun v_9 =>
 newK 39 [(.int .i64 0), (.int .i64 0), (.int .i64 0)] (fun b_10 s_11 =>
 optK (wrAgg s_11 3 (.ptr b_10 0) (.agg v_9)) fun s_12 =>
 optK (addOff 0 (.ptr b_10 0)) fun v_13 =>
 optK (rd1 s_12 v_13) fun v_14 =>
 optK (arithV .lss v_14 (.int .i64 0)) fun v_15 =>
 boolK v_15
 (vlref09_Valid_j2 X nodes0 i5 (.ptr b_10 0) v_15 .undef I1 m1 K s_12)
 (optK (addOff 0 (.ptr b_10 0)) fun v_39 =>
 optK (rd1 s_12 v_39) fun v_40 =>
 optK (arithV .geq v_40 nodes0) fun v_41 =>
 vlref09_Valid_j2 X nodes0 i5 (.ptr b_10 0) v_15 v_41 I1 m1 K s_12)) s)
 (K (.int .i64 0) s)
def vlref09_Valid_j0 (X : Told) (nodes0 : AVal) (links1 : AVal) (t10 : AVal) (t12 : AVal) (K : KvP) (s : Heap) : Prop :=
 optK (pickV t10 (.bool true) t12) fun v_1 =>
 boolK v_1
 (K (.int .i64 2) s)
 (optK (lenOfA links1) fun v_2 =>
 optK (arithV .gtr (.int .i64 v_2) (.int .i64 128)) fun v_4 =>
 boolK v_4
 (K (.int .i64 5) s)
 (∃ I1 : IvP, (∃ m, I1 [(.int .i64 0)] s m) ∧ ∀ (f : Env) (s : Heap) (m1 : Nat), I1 [f 5] s m1 →
 vlref09_Valid_l1 X nodes0 links1 (f 5) I1 m1 K s))
def vlref09_Valid (X : Told) (nodes0 : AVal) (links1 : AVal) (K : KvP) (s : Heap) : Prop :=
 optK (arithV .lss nodes0 (.int .i64 1)) fun v_0 =>
 boolK v_0
 (vlref09_Valid_j0 X nodes0 links1 v_0 .undef K s)
 (optK (arithV .gtr nodes0 (.int .i64 32)) fun v_42 =>
 vlref09_Valid_j0 X nodes0 links1 v_0 v_42 K s)
def vlref09_Valid_ann : Nat → List Nat := fun k => cond (Nat.beq k 12) [5] ([])
theorem vlref09_Valid_eq (X : Told) (nodes0 : AVal) (links1 : AVal) (K : KvP) (s : Heap) : wpC Try.prog X vlref09_Valid_ann Try.f68.ntmps none (bodyOf Try.f68) (envOf [nodes0, links1]) (fun e env s => retK e (resK Try.prog Try.f68.results.toList env (fun vs => K (oneV vs) s) s)) s = vlref09_Valid X nodes0 links1 K s := by kernel_rfl
theorem vlref09_Valid_ok {X : Told} (hX : FrX X) (hn : X 68 = none) {nodes0 : AVal} {links1 : AVal} {K : KvP} {s : Heap} (h : vlref09_Valid X nodes0 links1 K s) : wpCall Try.prog X 68 [nodes0, links1] K s :=
 wpCall_code hX vlref09_Valid_ann hn Try.func68 (by kernel_rfl : Try.f68.body = some (bodyOf Try.f68)) (by kernel_rfl) ((vlref09_Valid_eq X nodes0 links1 K s).mpr h)
theorem vlref09_Valid_in {nodes0 : AVal} {links1 : AVal} {K : KvP} {s : Heap} (h : vlref09_Valid XX nodes0 links1 K s) : wpCall Try.prog XX 68 [nodes0, links1] K s := vlref09_Valid_ok XX_fr rfl h
def vc_spf_parents_j1 (X : Told) (t13 : AVal) (I0 : IvP) (m0 : Nat) (K : KvP) (s : Heap) : Prop :=
 optK (arithV .add t13 (.int .i64 1)) fun v_18 =>
 ∃ m', m' < m0 ∧ I0 [v_18] s m'
def vc_spf_parents_l0 (X : Told) (all0 : AVal) (dist1 : AVal) (l5 : AVal) (t12 : AVal) (t13 : AVal) (I0 : IvP) (m0 : Nat) (K : KvP) (s : Heap) : Prop :=
 optK (arithV .lss t13 t12) fun v_8 =>
 boolK v_8
 (optK (iaddrS 1 l5 t13) fun v_9 =>
 optK (wr1 s v_9 (.int .i64 (-1))) fun s_10 =>
 optK (iaddrS 1 all0 t13) fun v_11 =>
 optK (rd1 s_10 v_11) fun v_12 =>
 wpCall Try.prog X 92 [v_12, dist1, t13] (fun v_13 s_14 =>
 optK (lenOfA v_13) fun v_15 =>
 optK (arithV .gtr (.int .i64 v_15) (.int .i64 0)) fun v_17 =>
 boolK v_17
 (optK (iaddrS 3 v_13 (.int .i64 0)) fun v_19 =>
 optK (addOff 0 v_19) fun v_20 =>
 optK (rd1 s_14 v_20) fun v_21 =>
 optK (iaddrS 1 l5 t13) fun v_22 =>
 optK (wr1 s_14 v_22 v_21) fun s_23 =>
 vc_spf_parents_j1 X t13 I0 m0 K s_23)
 (vc_spf_parents_j1 X t13 I0 m0 K s_14)) s_10)
 (K l5 s)
def vc_spf_parents (X : Told) (all0 : AVal) (dist1 : AVal) (K : KvP) (s : Heap) : Prop :=
 optK (lenOfA all0) fun v_0 =>
 optK (nat? (.int .i64 v_0)) fun n_2 => optK (nat? (.int .i64 v_0)) fun n_3 => (n_2 ≤ n_3 ∧ n_3 ≤ 4294967296) ∧ newK 3 (repl n_3 [(.int .i64 0)]) (fun b_4 s_5 =>
 optK (lenOfA (.slc b_4 0 n_2 (some n_3) 1)) fun v_6 =>
 ∃ I0 : IvP, (∃ m, I0 [(.int .i64 0)] s_5 m) ∧ ∀ (f : Env) (s : Heap) (m0 : Nat), I0 [f 13] s m0 →
 vc_spf_parents_l0 X all0 dist1 (.slc b_4 0 n_2 (some n_3) 1) (.int .i64 v_6) (f 13) I0 m0 K s) s
def vc_spf_parents_ann : Nat → List Nat := fun k => cond (Nat.beq k 6) [13] ([])
theorem vc_spf_parents_eq (X : Told) (all0 : AVal) (dist1 : AVal) (K : KvP) (s : Heap) : wpC Try.prog X vc_spf_parents_ann Try.f72.ntmps none (bodyOf Try.f72) (envOf [all0, dist1]) (fun e env s => retK e (resK Try.prog Try.f72.results.toList env (fun vs => K (oneV vs) s) s)) s = vc_spf_parents X all0 dist1 K s := by kernel_rfl
theorem vc_spf_parents_ok {X : Told} (hX : FrX X) (hn : X 72 = none) {all0 : AVal} {dist1 : AVal} {K : KvP} {s : Heap} (h : vc_spf_parents X all0 dist1 K s) : wpCall Try.prog X 72 [all0, dist1] K s :=
 wpCall_code hX vc_spf_parents_ann hn Try.func72 (by kernel_rfl : Try.f72.body = some (bodyOf Try.f72)) (by kernel_rfl) ((vc_spf_parents_eq X all0 dist1 K s).mpr h)
theorem vc_spf_parents_in {all0 : AVal} {dist1 : AVal} {K : KvP} {s : Heap} (h : vc_spf_parents XX all0 dist1 K s) : wpCall Try.prog XX 72 [all0, dist1] K s := vc_spf_parents_ok XX_fr rfl h
def vc_tree_inside_1_j3 (X : Told) (t15 : AVal) (t34 : AVal) (t38 : AVal) (I0 : IvP) (m0 : Nat) (K : KvP) (s : Heap) : Prop :=
 optK (pickV t34 t38 (.bool false)) fun v_15 =>
 boolK v_15
 (K (.tup []) s)
 (optK (arithV .add t15 (.int .i64 1)) fun v_16 =>
 ∃ m', m' < m0 ∧ I0 [v_16] s m')
def vc_tree_inside_1_j2 (X : Told) (yield0 : AVal) (n7 : AVal) (t15 : AVal) (t27 : AVal) (t32 : AVal) (I0 : IvP) (m0 : Nat) (K : KvP) (s : Heap) : Prop :=
 optK (pickV t27 t32 (.bool false)) fun v_14 =>
 boolK v_14
 (funK Try.prog X yield0 [n7] (fun v_17 s_18 =>
 optK (unaryA .not v_17) fun v_19 =>
 vc_tree_inside_1_j3 X t15 v_14 v_19 I0 m0 K s_18) s)
 (vc_tree_inside_1_j3 X t15 v_14 .undef I0 m0 K s)
def vc_tree_inside_1_j1 (X : Told) (yield0 : AVal) (t3 : AVal) (n7 : AVal) (t15 : AVal) (t21 : AVal) (t25 : AVal) (I0 : IvP) (m0 : Nat) (K : KvP) (s : Heap) : Prop :=
 optK (pickV t21 t25 (.bool false)) fun v_13 =>
 boolK v_13
 (optK (rd1 s t3) fun v_20 =>
 optK (iaddrS 1 v_20 n7) fun v_21 =>
 optK (rd1 s v_21) fun v_22 =>
 optK (arithV .geq v_22 (.int .i64 0)) fun v_23 =>
 vc_tree_inside_1_j2 X yield0 n7 t15 v_13 v_23 I0 m0 K s)
 (vc_tree_inside_1_j2 X yield0 n7 t15 v_13 .undef I0 m0 K s)
def vc_tree_inside_1_l0 (X : Told) (yield0 : AVal) (t2 : AVal) (t3 : AVal) (t13 : AVal) (t14 : AVal) (t15 : AVal) (I0 : IvP) (m0 : Nat) (K : KvP) (s : Heap) : Prop :=
 optK (arithV .lss t15 t14) fun v_9 =>
 boolK v_9
 (optK (iaddrS 1 t13 t15) fun v_10 =>
 optK (rd1 s v_10) fun v_11 =>
 optK (arithV .geq v_11 (.int .i64 0)) fun v_12 =>
 boolK v_12
 (optK (addOff 0 t2) fun v_24 =>
 optK (rd1 s v_24) fun v_25 =>
 optK (arithV .lss v_11 v_25) fun v_26 =>
 vc_tree_inside_1_j1 X yield0 t3 v_11 t15 v_12 v_26 I0 m0 K s)
 (vc_tree_inside_1_j1 X yield0 t3 v_11 t15 v_12 .undef I0 m0 K s))
 (K (.tup []) s)
def vc_tree_inside_1 (X : Told) (yield0 : AVal) (t1 : AVal) (t2 : AVal) (t3 : AVal) (K : KvP) (s : Heap) : Prop :=
 optK (rd1 s t1) fun v_0 =>
 wpCall Try.prog X 74 [v_0] (fun v_1 s_2 =>
 wpCall Try.prog X 54 [v_1] (fun v_3 s_4 =>
 wpCall Try.prog X 75 [v_1] (fun v_5 s_6 =>
 optK (lenOfA v_5) fun v_7 =>
 ∃ I0 : IvP, (∃ m, I0 [(.int .i64 0)] s_6 m) ∧ ∀ (f : Env) (s : Heap) (m0 : Nat), I0 [f 15] s m0 →
 vc_tree_inside_1_l0 X yield0 t2 t3 v_5 (.int .i64 v_7) (f 15) I0 m0 K s) s_4) s_2) s
def vc_tree_inside_1_ann : Nat → List Nat := fun k => cond (Nat.beq k 6) [15] ([])
theorem vc_tree_inside_1_eq (X : Told) (yield0 : AVal) (t1 : AVal) (t2 : AVal) (t3 : AVal) (K : KvP) (s : Heap) : wpC Try.prog X vc_tree_inside_1_ann Try.f73.ntmps none (bodyOf Try.f73) (envOf [yield0, t1, t2, t3]) (fun e env s => retK e (resK Try.prog Try.f73.results.toList env (fun vs => K (oneV vs) s) s)) s = vc_tree_inside_1 X yield0 t1 t2 t3 K s := by kernel_rfl
theorem vc_tree_inside_1_ok {X : Told} (hX : FrX X) (hn : X 73 = none) {yield0 : AVal} {t1 : AVal} {t2 : AVal} {t3 : AVal} {K : KvP} {s : Heap} (h : vc_tree_inside_1 X yield0 t1 t2 t3 K s) : wpCall Try.prog X 73 [yield0, t1, t2, t3] K s :=
 wpCall_code hX vc_tree_inside_1_ann hn Try.func73 (by kernel_rfl : Try.f73.body = some (bodyOf Try.f73)) (by kernel_rfl) ((vc_tree_inside_1_eq X yield0 t1 t2 t3 K s).mpr h)
theorem vc_tree_inside_1_in {yield0 : AVal} {t1 : AVal} {t2 : AVal} {t3 : AVal} {K : KvP} {s : Heap} (h : vc_tree_inside_1 XX yield0 t1 t2 t3 K s) : wpCall Try.prog XX 73 [yield0, t1, t2, t3] K s := vc_tree_inside_1_ok XX_fr rfl h
def vs_Clone___int_int_ (X : Told) (t0 : AVal) (K : KvP) (s : Heap) : Prop :=
 optK (negB false (eqV 5 true t0 .nilslc)) fun v_0 =>
 boolK v_0
 (K .nilslc s)
 (optK (fillR (repl 0 [(.int .i64 0)]) []) fun c_1 => allOne c_1 = true ∧ newK 3 c_1 (fun b_2 s_3 =>
 appK 3 1 (.slc b_2 0 0 (some 0) 1) t0 (fun v_4 s_5 =>
 K v_4 s_5) s_3) s)
def vs_Clone___int_int__ann : Nat → List Nat := fun _ => []
theorem vs_Clone___int_int__eq (X : Told) (t0 : AVal) (K : KvP) (s : Heap) : wpC Try.prog X vs_Clone___int_int__ann Try.f74.ntmps none (bodyOf Try.f74) (envOf [t0]) (fun e env s => retK e (resK Try.prog Try.f74.results.toList env (fun vs => K (oneV vs) s) s)) s = vs_Clone___int_int_ X t0 K s := by kernel_rfl
theorem vs_Clone___int_int__ok {X : Told} (hX : FrX X) (hn : X 74 = none) {t0 : AVal} {K : KvP} {s : Heap} (h : vs_Clone___int_int_ X t0 K s) : wpCall Try.prog X 74 [t0] K s :=
 wpCall_code hX vs_Clone___int_int__ann hn Try.func74 (by kernel_rfl : Try.f74.body = some (bodyOf Try.f74)) (by kernel_rfl) ((vs_Clone___int_int__eq X t0 K s).mpr h)
theorem vs_Clone___int_int__in {t0 : AVal} {K : KvP} {s : Heap} (h : vs_Clone___int_int_ XX t0 K s) : wpCall Try.prog XX 74 [t0] K s := vs_Clone___int_int__ok XX_fr rfl h
def vs_Compact___int_int__j2 (X : Told) (k3 : AVal) (k25 : AVal) (I1 : IvP) (m1 : Nat) (I0 : IvP) (m0 : Nat) (K : KvP) (s : Heap) : Prop :=
 optK (arithV .add k25 (.int .i64 1)) fun v_22 =>
 ∃ m', m' < m1 ∧ I1 [k3, v_22] s m'
def vs_Compact___int_int__l1 (X : Told) (t0 : AVal) (k3 : AVal) (s24 : AVal) (k25 : AVal) (I1 : IvP) (m1 : Nat) (I0 : IvP) (m0 : Nat) (K : KvP) (s : Heap) : Prop :=
 optK (lenOfA s24) fun v_13 =>
 optK (arithV .lss k25 (.int .i64 v_13)) fun v_15 =>
 boolK v_15
 (optK (iaddrS 1 s24 k25) fun v_16 =>
 optK (rd1 s v_16) fun v_17 =>
 optK (arithV .sub k25 (.int .i64 1)) fun v_18 =>
 optK (iaddrS 1 s24 v_18) fun v_19 =>
 optK (rd1 s v_19) fun v_20 =>
 optK (negB true (eqV 0 false v_17 v_20)) fun v_21 =>
 boolK v_21
 (optK (iaddrS 1 s24 k25) fun v_23 =>
 optK (rd1 s v_23) fun v_24 =>
 optK (iaddrS 1 t0 k3) fun v_25 =>
 optK (wr1 s v_25 v_24) fun s_26 =>
 optK (arithV .add k3 (.int .i64 1)) fun v_27 =>
 vs_Compact___int_int__j2 X v_27 k25 I1 m1 I0 m0 K s_26)
 (vs_Compact___int_int__j2 X k3 k25 I1 m1 I0 m0 K s))
 (optK (sliceS 1 t0 (some k3) none none) fun v_28 =>
 clearK [(.int .i64 0)] 1 v_28 (fun v_29 s_30 =>
 optK (sliceS 1 t0 none (some k3) none) fun v_31 =>
 K v_31 s_30) s)
def vs_Compact___int_int__l0 (X : Told) (t0 : AVal) (k3 : AVal) (I0 : IvP) (m0 : Nat) (K : KvP) (s : Heap) : Prop :=
 optK (lenOfA t0) fun v_3 =>
 optK (arithV .lss k3 (.int .i64 v_3)) fun v_5 =>
 boolK v_5
 (optK (iaddrS 1 t0 k3) fun v_6 =>
 optK (rd1 s v_6) fun v_7 =>
 optK (arithV .sub k3 (.int .i64 1)) fun v_8 =>
 optK (iaddrS 1 t0 v_8) fun v_9 =>
 optK (rd1 s v_9) fun v_10 =>
 optK (negB false (eqV 0 false v_7 v_10)) fun v_11 =>
 boolK v_11
 (optK (sliceS 1 t0 (some k3) none none) fun v_12 =>
 ∃ I1 : IvP, (∃ m, I1 [k3, (.int .i64 1)] s m) ∧ ∀ (f : Env) (s : Heap) (m1 : Nat), I1 [f 3, f 5] s m1 →
 vs_Compact___int_int__l1 X t0 (f 3) v_12 (f 5) I1 m1 I0 m0 K s)
 (optK (arithV .add k3 (.int .i64 1)) fun v_32 =>
 ∃ m', m' < m0 ∧ I0 [v_32] s m'))
 (K t0 s)
def vs_Compact___int_int_ (X : Told) (t0 : AVal) (K : KvP) (s : Heap) : Prop :=
 optK (lenOfA t0) fun v_0 =>
 optK (arithV .lss (.int .i64 v_0) (.int .i64 2)) fun v_2 =>
 boolK v_2
 (K t0 s)
 (∃ I0 : IvP, (∃ m, I0 [(.int .i64 1)] s m) ∧ ∀ (f : Env) (s : Heap) (m0 : Nat), I0 [f 3] s m0 →
 vs_Compact___int_int__l0 X t0 (f 3) I0 m0 K s)
def vs_Compact___int_int__ann : Nat → List Nat := fun k => cond (Nat.beq k 8) [3] (cond (Nat.beq k 18) [3, 5] ([]))
theorem vs_Compact___int_int__eq (X : Told) (t0 : AVal) (K : KvP) (s : Heap) : wpC Try.prog X vs_Compact___int_int__ann Try.f75.ntmps none (bodyOf Try.f75) (envOf [t0]) (fun e env s => retK e (resK Try.prog Try.f75.results.toList env (fun vs => K (oneV vs) s) s)) s = vs_Compact___int_int_ X t0 K s := by kernel_rfl
theorem vs_Compact___int_int__ok {X : Told} (hX : FrX X) (hn : X 75 = none) {t0 : AVal} {K : KvP} {s : Heap} (h : vs_Compact___int_int_ X t0 K s) : wpCall Try.prog X 75 [t0] K s :=
 wpCall_code hX vs_Compact___int_int__ann hn Try.func75 (by kernel_rfl : Try.f75.body = some (bodyOf Try.f75)) (by kernel_rfl) ((vs_Compact___int_int__eq X t0 K s).mpr h)
theorem vs_Compact___int_int__in {t0 : AVal} {K : KvP} {s : Heap} (h : vs_Compact___int_int_ XX t0 K s) : wpCall Try.prog XX 75 [t0] K s := vs_Compact___int_int__ok XX_fr rfl h
def vlref10_Next_j5 (X : Told) (out12 : AVal) (i13 : AVal) (I0 : IvP) (m0 : Nat) (K : KvP) (s : Heap) : Prop :=
 optK (arithV .add i13 (.int .i64 1)) fun v_18 =>
 ∃ m', m' < m0 ∧ I0 [out12, v_18] s m'
def vlref10_Next_j4 (X : Told) (out12 : AVal) (i13 : AVal) (t61 : AVal) (t76 : AVal) (I0 : IvP) (m0 : Nat) (K : KvP) (s : Heap) : Prop :=
 optK (pickV t61 t76 (.bool false)) fun v_17 =>
 boolK v_17
 (optK (fillR (repl 1 [(.int .i64 0)]) [(0, 1, i13)]) fun c_19 => allOne c_19 = true ∧ newK 3 c_19 (fun b_20 s_21 =>
 appK 3 1 out12 (.slc b_20 0 1 (some 1) 1) (fun v_22 s_23 =>
 vlref10_Next_j5 X v_22 i13 I0 m0 K s_23) s_21) s)
 (vlref10_Next_j5 X out12 i13 I0 m0 K s)
def vlref10_Next_j3 (X : Told) (links1 : AVal) (t3 : AVal) (d11 : AVal) (out12 : AVal) (i13 : AVal) (n14 : AVal) (t54 : AVal) (t59 : AVal) (I0 : IvP) (m0 : Nat) (K : KvP) (s : Heap) : Prop :=
 optK (pickV t54 t59 (.bool false)) fun v_16 =>
 boolK v_16
 (optK (iaddrS 1 d11 n14) fun v_24 =>
 optK (rd1 s v_24) fun v_25 =>
 optK (iaddrS 3 links1 i13) fun v_26 =>
 optK (addOff 2 v_26) fun v_27 =>
 optK (rd1 s v_27) fun v_28 =>
 optK (arithV .add v_25 v_28) fun v_29 =>
 optK (iaddrS 1 d11 t3) fun v_30 =>
 optK (rd1 s v_30) fun v_31 =>
 optK (negB false (eqV 0 false v_29 v_31)) fun v_32 =>
 vlref10_Next_j4 X out12 i13 v_16 v_32 I0 m0 K s)
 (vlref10_Next_j4 X out12 i13 v_16 .undef I0 m0 K s)
def vlref10_Next_j2 (X : Told) (links1 : AVal) (t3 : AVal) (d11 : AVal) (out12 : AVal) (i13 : AVal) (n14 : AVal) (t48 : AVal) (t52 : AVal) (I0 : IvP) (m0 : Nat) (K : KvP) (s : Heap) : Prop :=
 optK (pickV t48 t52 (.bool false)) fun v_15 =>
 boolK v_15
 (optK (iaddrS 1 d11 n14) fun v_33 =>
 optK (rd1 s v_33) fun v_34 =>
 optK (arithV .geq v_34 (.int .i64 0)) fun v_35 =>
 vlref10_Next_j3 X links1 t3 d11 out12 i13 n14 v_15 v_35 I0 m0 K s)
 (vlref10_Next_j3 X links1 t3 d11 out12 i13 n14 v_15 .undef I0 m0 K s)
def vlref10_Next_j1 (X : Told) (links1 : AVal) (up2 : AVal) (t3 : AVal) (d11 : AVal) (out12 : AVal) (i13 : AVal) (t31 : AVal) (t34 : AVal) (I0 : IvP) (m0 : Nat) (K : KvP) (s : Heap) : Prop :=
 optK (pickV t31 t34 (.bool false)) fun v_8 =>
 boolK v_8
 (optK (iaddrS 3 links1 i13) fun v_9 =>
 optK (rdN s 3 v_9) fun v_10 =>
 wpCall Try.prog X 60 [(.agg v_10), t3] (fun v_11 s_12 =>
 optK (extractA v_11 0) fun v_13 =>
 optK (extractA v_11 1) fun v_14 =>
 boolK v_14
 (optK (iaddrS 1 up2 i13) fun v_36 =>
 optK (rd1 s_12 v_36) fun v_37 =>
 vlref10_Next_j2 X links1 t3 d11 out12 i13 v_13 v_14 v_37 I0 m0 K s_12)
 (vlref10_Next_j2 X links1 t3 d11 out12 i13 v_13 v_14 .undef I0 m0 K s_12)) s)
 (K out12 s)
def vlref10_Next_l0 (X : Told) (links1 : AVal) (up2 : AVal) (t3 : AVal) (d11 : AVal) (out12 : AVal) (i13 : AVal) (I0 : IvP) (m0 : Nat) (K : KvP) (s : Heap) : Prop :=
 optK (lenOfA links1) fun v_5 =>
 optK (arithV .lss i13 (.int .i64 v_5)) fun v_7 =>
 boolK v_7
 (optK (lenOfA d11) fun v_38 =>
 optK (arithV .gtr (.int .i64 v_38) (.int .i64 0)) fun v_40 =>
 vlref10_Next_j1 X links1 up2 t3 d11 out12 i13 v_7 v_40 I0 m0 K s)
 (vlref10_Next_j1 X links1 up2 t3 d11 out12 i13 v_7 .undef I0 m0 K s)
def vlref10_Next (X : Told) (nodes0 : AVal) (links1 : AVal) (up2 : AVal) (t3 : AVal) (t4 : AVal) (K : KvP) (s : Heap) : Prop :=
 wpCall Try.prog X 51 [nodes0, links1, up2, t3] (fun v_0 s_1 =>
 optK (unaryA .not v_0) fun v_2 =>
 boolK v_2
 (K .nilslc s_1)
 (wpCall Try.prog X 52 [nodes0, links1, up2, t4] (fun v_3 s_4 =>
 ∃ I0 : IvP, (∃ m, I0 [.nilslc, (.int .i64 0)] s_4 m) ∧ ∀ (f : Env) (s : Heap) (m0 : Nat), I0 [f 12, f 13] s m0 →
 vlref10_Next_l0 X links1 up2 t3 v_3 (f 12) (f 13) I0 m0 K s) s_1)) s
def vlref10_Next_ann : Nat → List Nat := fun k => cond (Nat.beq k 12) [12, 13] ([])
theorem vlref10_Next_eq (X : Told) (nodes0 : AVal) (links1 : AVal) (up2 : AVal) (t3 : AVal) (t4 : AVal) (K : KvP) (s : Heap) : wpC Try.prog X vlref10_Next_ann Try.f76.ntmps none (bodyOf Try.f76) (envOf [nodes0, links1, up2, t3, t4]) (fun e env s => retK e (resK Try.prog Try.f76.results.toList env (fun vs => K (oneV vs) s) s)) s = vlref10_Next X nodes0 links1 up2 t3 t4 K s := by kernel_rfl
theorem vlref10_Next_ok {X : Told} (hX : FrX X) (hn : X 76 = none) {nodes0 : AVal} {links1 : AVal} {up2 : AVal} {t3 : AVal} {t4 : AVal} {K : KvP} {s : Heap} (h : vlref10_Next X nodes0 links1 up2 t3 t4 K s) : wpCall Try.prog X 76 [nodes0, links1, up2, t3, t4] K s :=
 wpCall_code hX vlref10_Next_ann hn Try.func76 (by kernel_rfl : Try.f76.body = some (bodyOf Try.f76)) (by kernel_rfl) ((vlref10_Next_eq X nodes0 links1 up2 t3 t4 K s).mpr h)
theorem vlref10_Next_in {nodes0 : AVal} {links1 : AVal} {up2 : AVal} {t3 : AVal} {t4 : AVal} {K : KvP} {s : Heap} (h : vlref10_Next XX nodes0 links1 up2 t3 t4 K s) : wpCall Try.prog XX 76 [nodes0, links1, up2, t3, t4] K s := vlref10_Next_ok XX_fr rfl h
def vs_IndexFunc___int_int__l0 (X : Told) (t0 : AVal) (t1 : AVal) (t7 : AVal) (t8 : AVal) (I0 : IvP) (m0 : Nat) (K : KvP) (s : Heap) : Prop :=
 optK (arithV .lss t8 t7) fun v_2 =>
 boolK v_2
 (optK (iaddrS 1 t0 t8) fun v_3 =>
 optK (rd1 s v_3) fun v_4 =>
 funK Try.prog X t1 [v_4] (fun v_5 s_6 =>
 boolK v_5
 (K t8 s_6)
 (optK (arithV .add t8 (.int .i64 1)) fun v_7 =>
 ∃ m', m' < m0 ∧ I0 [v_7] s_6 m')) s)
 (K (.int .i64 (-1)) s)
def vs_IndexFunc___int_int_ (X : Told) (t0 : AVal) (t1 : AVal) (K : KvP) (s : Heap) : Prop :=
 optK (lenOfA t0) fun v_0 =>
 ∃ I0 : IvP, (∃ m, I0 [(.int .i64 0)] s m) ∧ ∀ (f : Env) (s : Heap) (m0 : Nat), I0 [f 8] s m0 →
 vs_IndexFunc___int_int__l0 X t0 t1 (.int .i64 v_0) (f 8) I0 m0 K s
def vs_IndexFunc___int_int__ann : Nat → List Nat := fun k => cond (Nat.beq k 4) [8] ([])
theorem vs_IndexFunc___int_int__eq (X : Told) (t0 : AVal) (t1 : AVal) (K : KvP) (s : Heap) : wpC Try.prog X vs_IndexFunc___int_int__ann Try.f77.ntmps none (bodyOf Try.f77) (envOf [t0, t1]) (fun e env s => retK e (resK Try.prog Try.f77.results.toList env (fun vs => K (oneV vs) s) s)) s = vs_IndexFunc___int_int_ X t0 t1 K s := by kernel_rfl
theorem vs_IndexFunc___int_int__ok {X : Told} (hX : FrX X) (hn : X 77 = none) {t0 : AVal} {t1 : AVal} {K : KvP} {s : Heap} (h : vs_IndexFunc___int_int_ X t0 t1 K s) : wpCall Try.prog X 77 [t0, t1] K s :=
 wpCall_code hX vs_IndexFunc___int_int__ann hn Try.func77 (by kernel_rfl : Try.f77.body = some (bodyOf Try.f77)) (by kernel_rfl) ((vs_IndexFunc___int_int__eq X t0 t1 K s).mpr h)
theorem vs_IndexFunc___int_int__in {t0 : AVal} {t1 : AVal} {K : KvP} {s : Heap} (h : vs_IndexFunc___int_int_ XX t0 t1 K s) : wpCall Try.prog XX 77 [t0, t1] K s := vs_IndexFunc___int_int__ok XX_fr rfl h
def vh_down_j0 (X : Told) (i01 : AVal) (i7 : AVal) (K : KvP) (s : Heap) : Prop :=
 optK (arithV .gtr i7 i01) fun v_0 =>
 K v_0 s
def vh_down_j4 (X : Told) (h0 : AVal) (i01 : AVal) (i7 : AVal) (j9 : AVal) (I1 : IvP) (m1 : Nat) (K : KvP) (s : Heap) : Prop :=
 methK Try.prog X h0 "Less" [j9, i7] (fun v_8 s_9 =>
 optK (unaryA .not v_8) fun v_10 =>
 boolK v_10
 (vh_down_j0 X i01 i7 K s_9)
 (methK Try.prog X h0 "Swap" [i7, j9] (fun v_11 s_12 =>
 ∃ m', m' < m1 ∧ I1 [j9] s_12 m') s_9)) s
def vh_down_j3 (X : Told) (h0 : AVal) (i01 : AVal) (i7 : AVal) (j9 : AVal) (j210 : AVal) (t28 : AVal) (t32 : AVal) (I1 : IvP) (m1 : Nat) (K : KvP) (s : Heap) : Prop :=
 optK (pickV t28 t32 (.bool false)) fun v_7 =>
 boolK v_7
 (vh_down_j4 X h0 i01 i7 j210 I1 m1 K s)
 (vh_down_j4 X h0 i01 i7 j9 I1 m1 K s)
def vh_down_j2 (X : Told) (h0 : AVal) (i01 : AVal) (n2 : AVal) (i7 : AVal) (j18 : AVal) (t18 : AVal) (t20 : AVal) (I1 : IvP) (m1 : Nat) (K : KvP) (s : Heap) : Prop :=
 optK (pickV t18 (.bool true) t20) fun v_4 =>
 boolK v_4
 (vh_down_j0 X i01 i7 K s)
 (optK (arithV .add j18 (.int .i64 1)) fun v_5 =>
 optK (arithV .lss v_5 n2) fun v_6 =>
 boolK v_6
 (methK Try.prog X h0 "Less" [v_5, j18] (fun v_13 s_14 =>
 vh_down_j3 X h0 i01 i7 j18 v_5 v_6 v_13 I1 m1 K s_14) s)
 (vh_down_j3 X h0 i01 i7 j18 v_5 v_6 .undef I1 m1 K s))
def vh_down_l1 (X : Told) (h0 : AVal) (i01 : AVal) (n2 : AVal) (i7 : AVal) (I1 : IvP) (m1 : Nat) (K : KvP) (s : Heap) : Prop :=
 optK (arithV .mul (.int .i64 2) i7) fun v_1 =>
 optK (arithV .add v_1 (.int .i64 1)) fun v_2 =>
 optK (arithV .geq v_2 n2) fun v_3 =>
 boolK v_3
 (vh_down_j2 X h0 i01 n2 i7 v_2 v_3 .undef I1 m1 K s)
 (optK (arithV .lss v_2 (.int .i64 0)) fun v_15 =>
 vh_down_j2 X h0 i01 n2 i7 v_2 v_3 v_15 I1 m1 K s)
def vh_down (X : Told) (h0 : AVal) (i01 : AVal) (n2 : AVal) (K : KvP) (s : Heap) : Prop :=
 ∃ I1 : IvP, (∃ m, I1 [i01] s m) ∧ ∀ (f : Env) (s : Heap) (m1 : Nat), I1 [f 7] s m1 →
 vh_down_l1 X h0 i01 n2 (f 7) I1 m1 K s
def vh_down_ann : Nat → List Nat := fun k => cond (Nat.beq k 4) [7] ([])
theorem vh_down_eq (X : Told) (h0 : AVal) (i01 : AVal) (n2 : AVal) (K : KvP) (s : Heap) : wpC Try.prog X vh_down_ann Try.f78.ntmps none (bodyOf Try.f78) (envOf [h0, i01, n2]) (fun e env s => retK e (resK Try.prog Try.f78.results.toList env (fun vs => K (oneV vs) s) s)) s = vh_down X h0 i01 n2 K s := by kernel_rfl
theorem vh_down_ok {X : Told} (hX : FrX X) (hn : X 78 = none) {h0 : AVal} {i01 : AVal} {n2 : AVal} {K : KvP} {s : Heap} (h : vh_down X h0 i01 n2 K s) : wpCall Try.prog X 78 [h0, i01, n2] K s :=
 wpCall_code hX vh_down_ann hn Try.func78 (by kernel_rfl : Try.f78.body = some (bodyOf Try.f78)) (by kernel_rfl) ((vh_down_eq X h0 i01 n2 K s).mpr h)
theorem vh_down_in {h0 : AVal} {i01 : AVal} {n2 : AVal} {K : KvP} {s : Heap} (h : vh_down XX h0 i01 n2 K s) : wpCall Try.prog XX 78 [h0, i01, n2] K s := vh_down_ok XX_fr rfl h
def vh_up_j1 (X : Told) (h0 : AVal) (j1 : AVal) (i4 : AVal) (t11 : AVal) (t16 : AVal) (I0 : IvP) (m0 : Nat) (K : KvP) (s : Heap) : Prop :=
 optK (pickV t11 (.bool true) t16) fun v_3 =>
 boolK v_3
 (K (.tup []) s)
 (methK Try.prog X h0 "Swap" [i4, j1] (fun v_4 s_5 =>
 ∃ m', m' < m0 ∧ I0 [i4] s_5 m') s)
def vh_up_l0 (X : Told) (h0 : AVal) (j1 : AVal) (I0 : IvP) (m0 : Nat) (K : KvP) (s : Heap) : Prop :=
 optK (arithV .sub j1 (.int .i64 1)) fun v_0 =>
 optK (arithV .quo v_0 (.int .i64 2)) fun v_1 =>
 optK (negB false (eqV 0 false v_1 j1)) fun v_2 =>
 boolK v_2
 (vh_up_j1 X h0 j1 v_1 v_2 .undef I0 m0 K s)
 (methK Try.prog X h0 "Less" [j1, v_1] (fun v_6 s_7 =>
 optK (unaryA .not v_6) fun v_8 =>
 vh_up_j1 X h0 j1 v_1 v_2 v_8 I0 m0 K s_7) s)
def vh_up (X : Told) (h0 : AVal) (j1 : AVal) (K : KvP) (s : Heap) : Prop :=
 ∃ I0 : IvP, (∃ m, I0 [j1] s m) ∧ ∀ (f : Env) (s : Heap) (m0 : Nat), I0 [f 1] s m0 →
 vh_up_l0 X h0 (f 1) I0 m0 K s
def vh_up_ann : Nat → List Nat := fun k => cond (Nat.beq k 0) [1] ([])
theorem vh_up_eq (X : Told) (h0 : AVal) (j1 : AVal) (K : KvP) (s : Heap) : wpC Try.prog X vh_up_ann Try.f79.ntmps none (bodyOf Try.f79) (envOf [h0, j1]) (fun e env s => retK e (resK Try.prog Try.f79.results.toList env (fun vs => K (oneV vs) s) s)) s = vh_up X h0 j1 K s := by kernel_rfl
theorem vh_up_ok {X : Told} (hX : FrX X) (hn : X 79 = none) {h0 : AVal} {j1 : AVal} {K : KvP} {s : Heap} (h : vh_up X h0 j1 K s) : wpCall Try.prog X 79 [h0, j1] K s :=
 wpCall_code hX vh_up_ann hn Try.func79 (by kernel_rfl : Try.f79.body = some (bodyOf Try.f79)) (by kernel_rfl) ((vh_up_eq X h0 j1 K s).mpr h)
theorem vh_up_in {h0 : AVal} {j1 : AVal} {K : KvP} {s : Heap} (h : vh_up XX h0 j1 K s) : wpCall Try.prog XX 79 [h0, j1] K s := vh_up_ok XX_fr rfl h
def vc_spf_enabled_api_Link__1_j1 (X : Told) (t8 : AVal) (t17 : AVal) (t22 : AVal) (I0 : IvP) (m0 : Nat) (K : KvP) (s : Heap) : Prop :=
 optK (pickV t17 t22 (.bool false)) fun v_12 =>
 boolK v_12
 (K (.tup []) s)
 (optK (arithV .add t8 (.int .i64 1)) fun v_13 =>
 ∃ m', m' < m0 ∧ I0 [v_13] s m')
def vc_spf_enabled_api_Link__1_l0 (X : Told) (yield0 : AVal) (t2 : AVal) (t6 : AVal) (t7 : AVal) (t8 : AVal) (I0 : IvP) (m0 : Nat) (K : KvP) (s : Heap) : Prop :=
 optK (arithV .lss t8 t7) fun v_3 =>
 boolK v_3
 (optK (iaddrS 3 t6 t8) fun v_4 =>
 optK (rdN s 3 v_4) fun v_5 =>
 newK 39 [(.int .i64 0), (.int .i64 0), (.int .i64 0)] (fun b_6 s_7 =>
 optK (wrAgg s_7 3 (.ptr b_6 0) (.agg v_5)) fun s_8 =>
 optK (rd1 s_8 t2) fun v_9 =>
 optK (iaddrS 1 v_9 t8) fun v_10 =>
 optK (rd1 s_8 v_10) fun v_11 =>
 boolK v_11
 (optK (rdN s_8 3 (.ptr b_6 0)) fun v_14 =>
 funK Try.prog X yield0 [t8, (.agg v_14)] (fun v_15 s_16 =>
 optK (unaryA .not v_15) fun v_17 =>
 vc_spf_enabled_api_Link__1_j1 X t8 v_11 v_17 I0 m0 K s_16) s_8)
 (vc_spf_enabled_api_Link__1_j1 X t8 v_11 .undef I0 m0 K s_8)) s)
 (K (.tup []) s)
def vc_spf_enabled_api_Link__1 (X : Told) (yield0 : AVal) (t1 : AVal) (t2 : AVal) (K : KvP) (s : Heap) : Prop :=
 optK (rd1 s t1) fun v_0 =>
 optK (lenOfA v_0) fun v_1 =>
 ∃ I0 : IvP, (∃ m, I0 [(.int .i64 0)] s m) ∧ ∀ (f : Env) (s : Heap) (m0 : Nat), I0 [f 8] s m0 →
 vc_spf_enabled_api_Link__1_l0 X yield0 t2 v_0 (.int .i64 v_1) (f 8) I0 m0 K s
def vc_spf_enabled_api_Link__1_ann : Nat → List Nat := fun k => cond (Nat.beq k 2) [8] ([])
theorem vc_spf_enabled_api_Link__1_eq (X : Told) (yield0 : AVal) (t1 : AVal) (t2 : AVal) (K : KvP) (s : Heap) : wpC Try.prog X vc_spf_enabled_api_Link__1_ann Try.f80.ntmps none (bodyOf Try.f80) (envOf [yield0, t1, t2]) (fun e env s => retK e (resK Try.prog Try.f80.results.toList env (fun vs => K (oneV vs) s) s)) s = vc_spf_enabled_api_Link__1 X yield0 t1 t2 K s := by kernel_rfl
theorem vc_spf_enabled_api_Link__1_ok {X : Told} (hX : FrX X) (hn : X 80 = none) {yield0 : AVal} {t1 : AVal} {t2 : AVal} {K : KvP} {s : Heap} (h : vc_spf_enabled_api_Link__1 X yield0 t1 t2 K s) : wpCall Try.prog X 80 [yield0, t1, t2] K s :=
 wpCall_code hX vc_spf_enabled_api_Link__1_ann hn Try.func80 (by kernel_rfl : Try.f80.body = some (bodyOf Try.f80)) (by kernel_rfl) ((vc_spf_enabled_api_Link__1_eq X yield0 t1 t2 K s).mpr h)
theorem vc_spf_enabled_api_Link__1_in {yield0 : AVal} {t1 : AVal} {t2 : AVal} {K : KvP} {s : Heap} (h : vc_spf_enabled_api_Link__1 XX yield0 t1 t2 K s) : wpCall Try.prog XX 80 [yield0, t1, t2] K s := vc_spf_enabled_api_Link__1_ok XX_fr rfl h
def vc_spf_nearer_j1 (X : Told) (l7 : AVal) (t12 : AVal) (I0 : IvP) (m0 : Nat) (K : KvP) (s : Heap) : Prop :=
 optK (arithV .add t12 (.int .i64 1)) fun v_18 =>
 ∃ m', m' < m0 ∧ I0 [l7, v_18] s m'
def vc_spf_nearer_l0 (X : Told) (dist1 : AVal) (n2 : AVal) (l7 : AVal) (t10 : AVal) (t11 : AVal) (t12 : AVal) (I0 : IvP) (m0 : Nat) (K : KvP) (s : Heap) : Prop :=
 optK (arithV .lss t12 t11) fun v_2 =>
 boolK v_2
 (optK (iaddrS 3 t10 t12) fun v_3 =>
 optK (rdN s 3 v_3) fun v_4 =>
 newK 111 [(.int .i64 0), (.int .i64 0), (.int .i64 0)] (fun b_5 s_6 =>
 optK (wrAgg s_6 3 (.ptr b_5 0) (.agg v_4)) fun s_7 =>
 optK (iaddrS 1 dist1 n2) fun v_8 =>
 optK (rd1 s_7 v_8) fun v_9 =>
 optK (addOff 1 (.ptr b_5 0)) fun v_10 =>
 optK (rd1 s_7 v_10) fun v_11 =>
 optK (iaddrS 1 dist1 v_11) fun v_12 =>
 optK (rd1 s_7 v_12) fun v_13 =>
 optK (addOff 2 (.ptr b_5 0)) fun v_14 =>
 optK (rd1 s_7 v_14) fun v_15 =>
 optK (arithV .add v_13 v_15) fun v_16 =>
 optK (negB false (eqV 0 false v_9 v_16)) fun v_17 =>
 boolK v_17
 (optK (rdN s_7 3 (.ptr b_5 0)) fun v_19 =>
 optK (fillR (repl 1 [(.int .i64 0), (.int .i64 0), (.int .i64 0)]) [(0, 3, (.agg v_19))]) fun c_20 => allOne c_20 = true ∧ newK 111 c_20 (fun b_21 s_22 =>
 appK 111 3 l7 (.slc b_21 0 1 (some 1) 3) (fun v_23 s_24 =>
 vc_spf_nearer_j1 X v_23 t12 I0 m0 K s_24) s_22) s_7)
 (vc_spf_nearer_j1 X l7 t12 I0 m0 K s_7)) s)
 (K l7 s)
def vc_spf_nearer (X : Told) (t0 : AVal) (dist1 : AVal) (n2 : AVal) (K : KvP) (s : Heap) : Prop :=
 optK (lenOfA t0) fun v_0 =>
 ∃ I0 : IvP, (∃ m, I0 [.nilslc, (.int .i64 0)] s m) ∧ ∀ (f : Env) (s : Heap) (m0 : Nat), I0 [f 7, f 12] s m0 →
 vc_spf_nearer_l0 X dist1 n2 (f 7) t0 (.int .i64 v_0) (f 12) I0 m0 K s
def vc_spf_nearer_ann : Nat → List Nat := fun k => cond (Nat.beq k 6) [7, 12] ([])
theorem vc_spf_nearer_eq (X : Told) (t0 : AVal) (dist1 : AVal) (n2 : AVal) (K : KvP) (s : Heap) : wpC Try.prog X vc_spf_nearer_ann Try.f92.ntmps none (bodyOf Try.f92) (envOf [t0, dist1, n2]) (fun e env s => retK e (resK Try.prog Try.f92.results.toList env (fun vs => K (oneV vs) s) s)) s = vc_spf_nearer X t0 dist1 n2 K s := by kernel_rfl
theorem vc_spf_nearer_ok {X : Told} (hX : FrX X) (hn : X 92 = none) {t0 : AVal} {dist1 : AVal} {n2 : AVal} {K : KvP} {s : Heap} (h : vc_spf_nearer X t0 dist1 n2 K s) : wpCall Try.prog X 92 [t0, dist1, n2] K s :=
 wpCall_code hX vc_spf_nearer_ann hn Try.func92 (by kernel_rfl : Try.f92.body = some (bodyOf Try.f92)) (by kernel_rfl) ((vc_spf_nearer_eq X t0 dist1 n2 K s).mpr h)
theorem vc_spf_nearer_in {t0 : AVal} {dist1 : AVal} {n2 : AVal} {K : KvP} {s : Heap} (h : vc_spf_nearer XX t0 dist1 n2 K s) : wpCall Try.prog XX 92 [t0, dist1, n2] K s := vc_spf_nearer_ok XX_fr rfl h
def vc_spf_queue_Less (X : Told) (q0 : AVal) (i1 : AVal) (j2 : AVal) (K : KvP) (s : Heap) : Prop :=
 optK (iaddrS 2 q0 i1) fun v_0 =>
 optK (addOff 1 v_0) fun v_1 =>
 optK (rd1 s v_1) fun v_2 =>
 optK (iaddrS 2 q0 j2) fun v_3 =>
 optK (addOff 1 v_3) fun v_4 =>
 optK (rd1 s v_4) fun v_5 =>
 optK (arithV .lss v_2 v_5) fun v_6 =>
 K v_6 s
def vc_spf_queue_Less_ann : Nat → List Nat := fun _ => []
theorem vc_spf_queue_Less_eq (X : Told) (q0 : AVal) (i1 : AVal) (j2 : AVal) (K : KvP) (s : Heap) : wpC Try.prog X vc_spf_queue_Less_ann Try.f117.ntmps none (bodyOf Try.f117) (envOf [q0, i1, j2]) (fun e env s => retK e (resK Try.prog Try.f117.results.toList env (fun vs => K (oneV vs) s) s)) s = vc_spf_queue_Less X q0 i1 j2 K s := by kernel_rfl
theorem vc_spf_queue_Less_ok {X : Told} (hX : FrX X) (hn : X 117 = none) {q0 : AVal} {i1 : AVal} {j2 : AVal} {K : KvP} {s : Heap} (h : vc_spf_queue_Less X q0 i1 j2 K s) : wpCall Try.prog X 117 [q0, i1, j2] K s :=
 wpCall_code hX vc_spf_queue_Less_ann hn Try.func117 (by kernel_rfl : Try.f117.body = some (bodyOf Try.f117)) (by kernel_rfl) ((vc_spf_queue_Less_eq X q0 i1 j2 K s).mpr h)
theorem vc_spf_queue_Less_in {q0 : AVal} {i1 : AVal} {j2 : AVal} {K : KvP} {s : Heap} (h : vc_spf_queue_Less XX q0 i1 j2 K s) : wpCall Try.prog XX 117 [q0, i1, j2] K s := vc_spf_queue_Less_ok XX_fr rfl h
def vc_spf_queue_Pop (X : Told) (q0 : AVal) (K : KvP) (s : Heap) : Prop :=
 optK (nilCheckA q0) fun v_0 =>
 optK (rd1 s v_0) fun v_1 =>
 optK (lenOfA v_1) fun v_2 =>
 optK (arithV .sub (.int .i64 v_2) (.int .i64 1)) fun v_4 =>
 optK (nilCheckA q0) fun v_5 =>
 optK (rd1 s v_5) fun v_6 =>
 optK (iaddrS 2 v_6 v_4) fun v_7 =>
 optK (rdN s 2 v_7) fun v_8 =>
 newK 103 [(.int .i64 0), (.int .i64 0)] (fun b_9 s_10 =>
 optK (wrAgg s_10 2 (.ptr b_9 0) (.agg v_8)) fun s_11 =>
 optK (nilCheckA q0) fun v_12 =>
 optK (rd1 s_11 v_12) fun v_13 =>
 optK (sliceS 2 v_13 none (some v_4) none) fun v_14 =>
 optK (nilCheckA q0) fun v_15 =>
 optK (wr1 s_11 v_15 v_14) fun s_16 =>
 optK (rdN s_16 2 (.ptr b_9 0)) fun v_17 =>
 K (.ifc 103 (.agg v_17)) s_16) s
def vc_spf_queue_Pop_ann : Nat → List Nat := fun _ => []
theorem vc_spf_queue_Pop_eq (X : Told) (q0 : AVal) (K : KvP) (s : Heap) : wpC Try.prog X vc_spf_queue_Pop_ann Try.f118.ntmps none (bodyOf Try.f118) (envOf [q0]) (fun e env s => retK e (resK Try.prog Try.f118.results.toList env (fun vs => K (oneV vs) s) s)) s = vc_spf_queue_Pop X q0 K s := by kernel_rfl
theorem vc_spf_queue_Pop_ok {X : Told} (hX : FrX X) (hn : X 118 = none) {q0 : AVal} {K : KvP} {s : Heap} (h : vc_spf_queue_Pop X q0 K s) : wpCall Try.prog X 118 [q0] K s :=
 wpCall_code hX vc_spf_queue_Pop_ann hn Try.func118 (by kernel_rfl : Try.f118.body = some (bodyOf Try.f118)) (by kernel_rfl) ((vc_spf_queue_Pop_eq X q0 K s).mpr h)
theorem vc_spf_queue_Pop_in {q0 : AVal} {K : KvP} {s : Heap} (h : vc_spf_queue_Pop XX q0 K s) : wpCall Try.prog XX 118 [q0] K s := vc_spf_queue_Pop_ok XX_fr rfl h
def vc_spf_queue_Push (X : Told) (q0 : AVal) (x1 : AVal) (K : KvP) (s : Heap) : Prop :=
 optK (tassV 103 (some (.agg [(.int .i64 0), (.int .i64 0)])) true x1) fun v_0 =>
 optK (extractA v_0 0) fun v_1 =>
 optK (extractA v_0 1) fun v_2 =>
 newK 103 [(.int .i64 0), (.int .i64 0)] (fun b_3 s_4 =>
 optK (wrAgg s_4 2 (.ptr b_3 0) v_1) fun s_5 =>
 boolK v_2
 (optK (nilCheckA q0) fun v_6 =>
 optK (rd1 s_5 v_6) fun v_7 =>
 optK (rdN s_5 2 (.ptr b_3 0)) fun v_8 =>
 optK (fillR (repl 1 [(.int .i64 0), (.int .i64 0)]) [(0, 2, (.agg v_8))]) fun c_9 => allOne c_9 = true ∧ newK 103 c_9 (fun b_10 s_11 =>
 (∀ b, s_5 b ≠ none → s_5 b = none → s_11 b = none) →
 appK 103 2 v_7 (.slc b_10 0 1 (some 1) 2) (fun v_12 s_13 =>
 optK (nilCheckA q0) fun v_14 =>
 optK (wr1 s_13 v_14 v_12) fun s_15 =>
 K (.tup []) s_15) (add s_5 s_11)) (frz s_5))
 (K (.tup []) s_5)) s
def vc_spf_queue_Push_ann : Nat → List Nat := fun _ => []
theorem vc_spf_queue_Push_eq (X : Told) (q0 : AVal) (x1 : AVal) (K : KvP) (s : Heap) : wpC Try.prog X vc_spf_queue_Push_ann Try.f119.ntmps none (bodyOf Try.f119) (envOf [q0, x1]) (fun e env s => retK e (resK Try.prog Try.f119.results.toList env (fun vs => K (oneV vs) s) s)) s = vc_spf_queue_Push X q0 x1 K s := by kernel_rfl
theorem vc_spf_queue_Push_ok {X : Told} (hX : FrX X) (hn : X 119 = none) {q0 : AVal} {x1 : AVal} {K : KvP} {s : Heap} (h : vc_spf_queue_Push X q0 x1 K s) : wpCall Try.prog X 119 [q0, x1] K s :=
 wpCall_code hX vc_spf_queue_Push_ann hn Try.func119 (by kernel_rfl : Try.f119.body = some (bodyOf Try.f119)) (by kernel_rfl) ((vc_spf_queue_Push_eq X q0 x1 K s).mpr h)
theorem vc_spf_queue_Push_in {q0 : AVal} {x1 : AVal} {K : KvP} {s : Heap} (h : vc_spf_queue_Push XX q0 x1 K s) : wpCall Try.prog XX 119 [q0, x1] K s := vc_spf_queue_Push_ok XX_fr rfl h
def vc_spf_queue_Swap (X : Told) (q0 : AVal) (i1 : AVal) (j2 : AVal) (K : KvP) (s : Heap) : Prop :=
 optK (iaddrS 2 q0 j2) fun v_0 =>
 optK (rdN s 2 v_0) fun v_1 =>
 optK (iaddrS 2 q0 i1) fun v_2 =>
 optK (rdN s 2 v_2) fun v_3 =>
 optK (iaddrS 2 q0 i1) fun v_4 =>
 optK (wrAgg s 2 v_4 (.agg v_1)) fun s_5 =>
 optK (iaddrS 2 q0 j2) fun v_6 =>
 optK (wrAgg s_5 2 v_6 (.agg v_3)) fun s_7 =>
 K (.tup []) s_7
def vc_spf_queue_Swap_ann : Nat → List Nat := fun _ => []
theorem vc_spf_queue_Swap_eq (X : Told) (q0 : AVal) (i1 : AVal) (j2 : AVal) (K : KvP) (s : Heap) : wpC Try.prog X vc_spf_queue_Swap_ann Try.f120.ntmps none (bodyOf Try.f120) (envOf [q0, i1, j2]) (fun e env s => retK e (resK Try.prog Try.f120.results.toList env (fun vs => K (oneV vs) s) s)) s = vc_spf_queue_Swap X q0 i1 j2 K s := by kernel_rfl
theorem vc_spf_queue_Swap_ok {X : Told} (hX : FrX X) (hn : X 120 = none) {q0 : AVal} {i1 : AVal} {j2 : AVal} {K : KvP} {s : Heap} (h : vc_spf_queue_Swap X q0 i1 j2 K s) : wpCall Try.prog X 120 [q0, i1, j2] K s :=
 wpCall_code hX vc_spf_queue_Swap_ann hn Try.func120 (by kernel_rfl : Try.f120.body = some (bodyOf Try.f120)) (by kernel_rfl) ((vc_spf_queue_Swap_eq X q0 i1 j2 K s).mpr h)
theorem vc_spf_queue_Swap_in {q0 : AVal} {i1 : AVal} {j2 : AVal} {K : KvP} {s : Heap} (h : vc_spf_queue_Swap XX q0 i1 j2 K s) : wpCall Try.prog XX 120 [q0, i1, j2] K s := vc_spf_queue_Swap_ok XX_fr rfl h
end Go.AM
set_option linter.unusedVariables false
namespace Go.AM
open Go Go.Proofs
set_option maxRecDepth 100000
/-- leafmesh/spf.edges (50) -/
def vw_spf_edges (X : Told) (nodes0 : AVal) (links1 : AVal) (up2 : AVal) (K : AVal → Heap → Prop) (s : Heap) : Prop :=
  optK (nat? nodes0) fun n_0 => optK (nat? nodes0) fun n_1 => (n_0 ≤ n_1 ∧ n_1 ≤ 4294967296) ∧ newK 109 (repl n_1 [.nilslc]) (fun b_2 s_3 =>
  newK 91 [.nilslc] (fun b_4 s_5 =>
  optK (wr1 s_5 (.ptr b_4 0) (.slc b_2 0 n_0 (some n_1) 1)) fun s_6 =>
  wpCall Try.prog X 67 [links1, up2] (fun v_7 s_8 =>
  rngK Try.prog X 52 none v_7 [(7, (.ptr b_4 0))] [15, 16] (rfAs 0 (bodyOf Try.f50)) (rfBo 0 (bodyOf Try.f50)) (fun s_9 =>
    optK (rd1 s_9 (.ptr b_4 0)) fun v_11 =>
    K v_11 s_9)
   (fun s_10 =>
    K .nilslc s_10)
   (fun id s_12 =>
    cond (Nat.beq id 0)
     (optK (rd1 s_12 (.ptr b_4 0)) fun v_13 =>
      K v_13 s_12)
     (False)) s_8) s_6) s_3) s
def vw_spf_edges_ann : Nat → List Nat := fun k => cond (Nat.beq k 11) [7] (cond (Nat.beq k 1000017) [15] (cond (Nat.beq k 1000034) [15] ([])))
theorem vw_spf_edges_eq (X : Told) (nodes0 : AVal) (links1 : AVal) (up2 : AVal) (K : AVal → Heap → Prop) (s : Heap) : wpC Try.prog X vw_spf_edges_ann Try.f50.ntmps none (bodyOf Try.f50) (envOf [nodes0, links1, up2]) (fun e env s => retK e (resK Try.prog Try.f50.results.toList env (fun vs => K (oneV vs) s) s)) s = vw_spf_edges X nodes0 links1 up2 K s := by kernel_rfl
theorem vw_spf_edges_ok {X : Told} (hX : FrX X) (hn : X 50 = none) {nodes0 : AVal} {links1 : AVal} {up2 : AVal} {K : AVal → Heap → Prop} {s : Heap} (h : vw_spf_edges X nodes0 links1 up2 K s) : wpCall Try.prog X 50 [nodes0, links1, up2] K s :=
  wpCall_code hX vw_spf_edges_ann hn Try.func50 (by kernel_rfl : Try.f50.body = some (bodyOf Try.f50)) (by kernel_rfl) ((vw_spf_edges_eq X nodes0 links1 up2 K s).mpr h)
theorem vw_spf_edges_in {nodes0 : AVal} {links1 : AVal} {up2 : AVal} {K : AVal → Heap → Prop} {s : Heap} (h : vw_spf_edges XX nodes0 links1 up2 K s) : wpCall Try.prog XX 50 [nodes0, links1, up2] K s := vw_spf_edges_ok XX_fr rfl h
def vw_spf_edges_r0 (X : Told) (l : Nat) (all7 : AVal) (t15 : AVal) (t16 : AVal) (E : AExit → Heap → Prop) (s : Heap) : Prop :=
  newK 39 [(.int .i64 0), (.int .i64 0), (.int .i64 0)] (fun b_0 s_1 =>
  optK (wrAgg s_1 3 (.ptr b_0 0) t16) fun s_2 =>
  AExit.nrm = .nrm ∧ beginK l (fun s_3 =>
  optK (rd1 s_3 all7) fun v_4 =>
  optK (addOff 0 (.ptr b_0 0)) fun v_5 =>
  optK (rd1 s_3 v_5) fun v_6 =>
  optK (rd1 s_3 all7) fun v_7 =>
  optK (addOff 0 (.ptr b_0 0)) fun v_8 =>
  optK (rd1 s_3 v_8) fun v_9 =>
  optK (iaddrS 1 v_7 v_9) fun v_10 =>
  optK (rd1 s_3 v_10) fun v_11 =>
  optK (addOff 1 (.ptr b_0 0)) fun v_12 =>
  optK (rd1 s_3 v_12) fun v_13 =>
  optK (addOff 2 (.ptr b_0 0)) fun v_14 =>
  optK (rd1 s_3 v_14) fun v_15 =>
  optK (fillR [(.int .i64 0), (.int .i64 0), (.int .i64 0)] [(0, 1, t15), (1, 1, v_13), (2, 1, v_15)]) fun c_16 =>
  optK (fillR (repl 1 [(.int .i64 0), (.int .i64 0), (.int .i64 0)]) [(0, 3, (.agg c_16))]) fun c_17 => allOne c_17 = true ∧ newK 111 c_17 (fun b_18 s_19 =>
  (∀ b, s_3 b ≠ none → s_3 b = none → s_19 b = none) →
  ∃ h_20 : Heap, (∀ b, h_20 b ≠ none → (add s_3 s_19) b ≠ none) ∧
  appK 111 3 v_11 (.slc b_18 0 1 (some 1) 3) (fun v_21 s_22 =>
  (∀ b, (add s_3 s_19) b ≠ none → (cutH [((hdel s_3 (blkOf all7)), s_3), ((hdel s_3 (blkOf v_5)), s_3)] (minus (add s_3 s_19) h_20)) b = none → s_22 b = none) →
  optK (iaddrS 1 v_4 v_6) fun v_23 =>
  optK (wr1 (add s_22 (rest (add s_3 s_19) (cutH [((hdel s_3 (blkOf all7)), s_3), ((hdel s_3 (blkOf v_5)), s_3)] (minus (add s_3 s_19) h_20)))) v_23 v_21) fun s_24 =>
  optK (rd1 s_24 all7) fun v_25 =>
  optK (addOff 1 (.ptr b_0 0)) fun v_26 =>
  optK (rd1 s_24 v_26) fun v_27 =>
  optK (rd1 s_24 all7) fun v_28 =>
  optK (addOff 1 (.ptr b_0 0)) fun v_29 =>
  optK (rd1 s_24 v_29) fun v_30 =>
  optK (iaddrS 1 v_28 v_30) fun v_31 =>
  optK (rd1 s_24 v_31) fun v_32 =>
  optK (addOff 0 (.ptr b_0 0)) fun v_33 =>
  optK (rd1 s_24 v_33) fun v_34 =>
  optK (addOff 2 (.ptr b_0 0)) fun v_35 =>
  optK (rd1 s_24 v_35) fun v_36 =>
  optK (fillR [(.int .i64 0), (.int .i64 0), (.int .i64 0)] [(0, 1, t15), (1, 1, v_34), (2, 1, v_36)]) fun c_37 =>
  optK (fillR (repl 1 [(.int .i64 0), (.int .i64 0), (.int .i64 0)]) [(0, 3, (.agg c_37))]) fun c_38 => allOne c_38 = true ∧ newK 111 c_38 (fun b_39 s_40 =>
  (∀ b, s_24 b ≠ none → s_24 b = none → s_40 b = none) →
  ∃ h_41 : Heap, (∀ b, h_41 b ≠ none → (add s_24 s_40) b ≠ none) ∧
  appK 111 3 v_32 (.slc b_39 0 1 (some 1) 3) (fun v_42 s_43 =>
  (∀ b, (add s_24 s_40) b ≠ none → (cutH [((hdel s_24 (blkOf all7)), s_24), ((hdel s_24 (blkOf v_26)), s_24)] (minus (add s_24 s_40) h_41)) b = none → s_43 b = none) →
  optK (iaddrS 1 v_25 v_27) fun v_44 =>
  optK (wr1 (add s_43 (rest (add s_24 s_40) (cutH [((hdel s_24 (blkOf all7)), s_24), ((hdel s_24 (blkOf v_26)), s_24)] (minus (add s_24 s_40) h_41)))) v_44 v_42) fun s_45 =>
  E .nrm s_45) (cutH [((hdel s_24 (blkOf all7)), s_24), ((hdel s_24 (blkOf v_26)), s_24)] (minus (add s_24 s_40) h_41))) (frz s_24)) (cutH [((hdel s_3 (blkOf all7)), s_3), ((hdel s_3 (blkOf v_5)), s_3)] (minus (add s_3 s_19) h_20))) (frz s_3)) s_2) s
theorem vw_spf_edges_r0_eq (X : Told) (l : Nat) (f : Env) (t15 : AVal) (t16 : AVal) (E : AExit → Heap → Prop) (s : Heap) : wpC Try.prog X vw_spf_edges_ann Try.f50.ntmps (some l) (rfAs 0 (bodyOf Try.f50)) (setE f [15, 16] [t15, t16]) (fun e env s => e = .nrm ∧ beginK l (fun s => wpC Try.prog X vw_spf_edges_ann Try.f50.ntmps (some l) (rfBo 0 (bodyOf Try.f50)) env (fun e _ s => E e s) s) s) s = vw_spf_edges_r0 X l (f 7) t15 t16 E s := by kernel_rfl
theorem vw_spf_edges_r0_in {l : Nat} {t : Bool} {st : LoopState} {pd : Option Code} {d : Nat} {all7 : AVal} {t15 : AVal} {t16 : AVal} {K : AVal → Heap → Prop} {s : Heap} (hs : s l = some (t, .loop st pd 52 [(7, all7)] [15, 16] (rfAs 0 (bodyOf Try.f50)) (rfBo 0 (bodyOf Try.f50)) d)) (h : vw_spf_edges_r0 XX l all7 t15 t16 (fun e s => endK l e K s) s) : wpRound Try.prog XX l [t15, t16] K s :=
  wpRound_ok XX_fr vw_spf_edges_ann hs rfl rfl fun f hf => by
    refine (vw_spf_edges_r0_eq XX l f t15 t16 (fun e s => endK l e K s) s).mpr ?_
    rw [show f 7 = all7 from hf (7, all7) (by simp)]
    exact h
end Go.AM
set_option linter.unusedVariables false
namespace Go.AM
open Go Go.Proofs
set_option maxRecDepth 100000
/-- leafmesh/tree.Next (21) -/
def vd_tree_Next_j1 (X : Told) (t43 : AVal) (I0 : List AVal → Heap → Nat → Prop) (m0 : Nat) (K : AVal → Heap → Prop) (s : Heap) : Prop :=
  optK (arithV .add t43 (.int .i64 1)) fun v_29 =>
  ∃ m', m' < m0 ∧ I0 [v_29] s m'
def vd_tree_Next_j2 (X : Told) (t4 : AVal) (links10 : AVal) (along12 : AVal) (i17 : AVal) (t43 : AVal) (t56 : AVal) (t61 : AVal) (t65 : AVal) (I0 : List AVal → Heap → Nat → Prop) (m0 : Nat) (K : AVal → Heap → Prop) (s : Heap) : Prop :=
  optK (pickV t61 t65 (.bool false)) fun v_55 =>
  optK (pickV t56 (.bool true) v_55) fun v_56 =>
  boolK v_56
   (vd_tree_Next_j1 X t43 I0 m0 K s)
   (optK (negB false (eqV 0 false i17 t4)) fun v_57 =>
    boolK v_57
     (optK (wr1 s along12 (.bool true)) fun s_58 =>
      vd_tree_Next_j1 X t43 I0 m0 K s_58)
     (optK (rd1 s links10) fun v_59 =>
      optK (fillR (repl 1 [(.int .i64 0)]) [(0, 1, i17)]) fun c_60 => allOne c_60 = true ∧ newK 3 c_60 (fun b_61 s_62 =>
      appK 3 1 v_59 (.slc b_61 0 1 (some 1) 1) (fun v_63 s_64 =>
      optK (wr1 s_64 links10 v_63) fun s_65 =>
      vd_tree_Next_j1 X t43 I0 m0 K s_65) s_62) s))
def vd_tree_Next_j3 (X : Told) (t4 : AVal) (links10 : AVal) (t11 : AVal) (along12 : AVal) (t22 : AVal) (t80 : AVal) (t83 : AVal) (K : AVal → Heap → Prop) (s : Heap) : Prop :=
  optK (pickV t80 t83 (.bool false)) fun v_72 =>
  optK (negB false (eqV 0 true t4 (.int .i64 (-1)))) fun v_73 =>
  boolK v_73
   (optK (wr1 s along12 v_72) fun s_74 =>
    funK Try.prog X t22 [] (fun _ s_75 =>
    optK (rd1 s_75 links10) fun links10_76 =>
    optK (rd1 s_75 t11) fun t11_77 =>
    K (.tup [links10_76, t11_77]) s_75) s_74)
   (optK (rd1 s links10) fun v_78 =>
    optK (wr1 s links10 v_78) fun s_79 =>
    optK (wr1 s_79 t11 v_72) fun s_80 =>
    funK Try.prog X t22 [] (fun _ s_81 =>
    optK (rd1 s_81 links10) fun links10_82 =>
    optK (rd1 s_81 t11) fun t11_83 =>
    K (.tup [links10_82, t11_83]) s_81) s_80)
def vd_tree_Next_l0 (X : Told) (self1 : AVal) (members3 : AVal) (t4 : AVal) (x5 : AVal) (links10 : AVal) (t11 : AVal) (along12 : AVal) (tree16 : AVal) (t22 : AVal) (t41 : AVal) (t42 : AVal) (t43 : AVal) (I0 : List AVal → Heap → Nat → Prop) (m0 : Nat) (K : AVal → Heap → Prop) (s : Heap) : Prop :=
  optK (arithV .lss t43 t42) fun v_28 =>
  boolK v_28
   (optK (iaddrS 3 t41 t43) fun v_30 =>
    optK (rdN s 3 v_30) fun v_31 =>
    newK 39 [(.int .i64 0), (.int .i64 0), (.int .i64 0)] (fun b_32 s_33 =>
    optK (wrAgg s_33 3 (.ptr b_32 0) (.agg v_31)) fun s_34 =>
    optK (getM s_34 tree16 t43) fun r_35 =>
    optK (extractA (retM (.agg []) true r_35) 0) fun v_36 =>
    optK (extractA (retM (.agg []) true r_35) 1) fun v_37 =>
    newK 84 [] (fun b_38 s_39 =>
    optK (wrAgg s_39 0 (.ptr b_38 0) v_36) fun s_40 =>
    optK (unaryA .not v_37) fun v_41 =>
    boolK v_41
     (optK (pickV v_41 (.bool true) .undef) fun v_42 =>
      boolK v_42
       (vd_tree_Next_j1 X t43 I0 m0 K s_40)
       (optK (negB false (eqV 0 false t43 t4)) fun v_43 =>
        boolK v_43
         (optK (wr1 s_40 along12 (.bool true)) fun s_44 =>
          vd_tree_Next_j1 X t43 I0 m0 K s_44)
         (optK (rd1 s_40 links10) fun v_45 =>
          optK (fillR (repl 1 [(.int .i64 0)]) [(0, 1, t43)]) fun c_46 => allOne c_46 = true ∧ newK 3 c_46 (fun b_47 s_48 =>
          appK 3 1 v_45 (.slc b_47 0 1 (some 1) 1) (fun v_49 s_50 =>
          optK (wr1 s_50 links10 v_49) fun s_51 =>
          vd_tree_Next_j1 X t43 I0 m0 K s_51) s_48) s_40)))
     (optK (addOff 0 (.ptr b_32 0)) fun v_52 =>
      optK (rd1 s_40 v_52) fun v_53 =>
      optK (negB true (eqV 0 false v_53 self1)) fun v_54 =>
      boolK v_54
       (optK (addOff 1 (.ptr b_32 0)) fun v_66 =>
        optK (rd1 s_40 v_66) fun v_67 =>
        optK (negB true (eqV 0 false v_67 self1)) fun v_68 =>
        vd_tree_Next_j2 X t4 links10 along12 t43 t43 v_41 v_54 v_68 I0 m0 K s_40)
       (vd_tree_Next_j2 X t4 links10 along12 t43 t43 v_41 v_54 .undef I0 m0 K s_40))) s_34) s)
   (optK (addOff 0 x5) fun v_69 =>
    optK (rd1 s v_69) fun v_70 =>
    optK (arithV .lss self1 v_70) fun v_71 =>
    boolK v_71
     (wpCall Try.prog X 47 [members3, self1] (fun v_84 s_85 =>
      vd_tree_Next_j3 X t4 links10 t11 along12 t22 v_71 v_84 K s_85) s)
     (vd_tree_Next_j3 X t4 links10 t11 along12 t22 v_71 .undef K s))
def vd_tree_Next (X : Told) (x0 : AVal) (self1 : AVal) (group2 : AVal) (members3 : AVal) (t4 : AVal) (K : AVal → Heap → Prop) (s : Heap) : Prop :=
  boxK 25 x0 (fun b_0 s_1 =>
  newK 28 [.nilslc] (fun b_2 s_3 =>
  newK 4 [(.bool false)] (fun b_4 s_5 =>
  newK 4 [(.bool false)] (fun b_6 s_7 =>
  optK (wr1 s_7 (.ptr b_6 0) (.bool false)) fun s_8 =>
  isDefK Try.prog X (.fn (.func 46) [] [(.ptr b_6 0), (.ptr b_2 0), (.ptr b_4 0)]) ∧
  optK (rdN s_8 4 b_0) fun v_9 =>
  wpCall Try.prog X 38 [(.agg v_9), self1] (fun v_10 s_11 =>
  optK (rdN s_11 4 b_0) fun v_12 =>
  wpCall Try.prog X 37 [(.agg v_12), v_10, group2] (fun v_13 s_14 =>
  optK (extractA v_13 0) fun v_15 =>
  optK (extractA v_13 1) fun v_16 =>
  optK (unaryA .not v_16) fun v_17 =>
  boolK v_17
   (funK Try.prog X (.fn (.func 46) [] [(.ptr b_6 0), (.ptr b_2 0), (.ptr b_4 0)]) [] (fun _ s_18 =>
    optK (rd1 s_18 (.ptr b_2 0)) fun links10_19 =>
    optK (rd1 s_18 (.ptr b_4 0)) fun t11_20 =>
    K (.tup [links10_19, t11_20]) s_18) s_14)
   (optK (rdN s_14 4 b_0) fun v_21 =>
    wpCall Try.prog X 43 [(.agg v_21), v_10, v_15, members3] (fun v_22 s_23 =>
    optK (addOff 2 b_0) fun v_24 =>
    optK (rd1 s_23 v_24) fun v_25 =>
    optK (lenOfA v_25) fun v_26 =>
    ∃ I0 : List AVal → Heap → Nat → Prop, (∃ m, I0 [(.int .i64 0)] s_23 m) ∧ ∀ (f : Env) (s : Heap) (m0 : Nat), I0 [f 43] s m0 →
      vd_tree_Next_l0 X self1 members3 t4 b_0 (.ptr b_2 0) (.ptr b_4 0) (.ptr b_6 0) v_22 (.fn (.func 46) [] [(.ptr b_6 0), (.ptr b_2 0), (.ptr b_4 0)]) v_25 (.int .i64 v_26) (f 43) I0 m0 K s) s_14)) s_11) s_8) s_5) s_3) s_1) s
def vd_tree_Next_ann : Nat → List Nat := fun k => cond (Nat.beq k 16) [43] ([])
theorem vd_tree_Next_eq (X : Told) (x0 : AVal) (self1 : AVal) (group2 : AVal) (members3 : AVal) (t4 : AVal) (K : AVal → Heap → Prop) (s : Heap) : wpD Try.prog X vd_tree_Next_ann Try.f21.ntmps (bodyOf Try.f21) (envOf [x0, self1, group2, members3, t4]) (fun v e env s => retK e (funK Try.prog X v [] (fun _ s => resK Try.prog Try.f21.results.toList env (fun vs => K (oneV vs) s) s) s)) s = vd_tree_Next X x0 self1 group2 members3 t4 K s := by kernel_rfl
theorem vd_tree_Next_ok {X : Told} (hX : FrX X) (hn : X 21 = none) {x0 : AVal} {self1 : AVal} {group2 : AVal} {members3 : AVal} {t4 : AVal} {K : AVal → Heap → Prop} {s : Heap} (h : vd_tree_Next X x0 self1 group2 members3 t4 K s) : wpCall Try.prog X 21 [x0, self1, group2, members3, t4] K s :=
  wpCall_codeD hX vd_tree_Next_ann hn Try.func21 (by kernel_rfl : Try.f21.body = some (bodyOf Try.f21)) (by kernel_rfl) ((vd_tree_Next_eq X x0 self1 group2 members3 t4 K s).mpr h)
theorem vd_tree_Next_in {x0 : AVal} {self1 : AVal} {group2 : AVal} {members3 : AVal} {t4 : AVal} {K : AVal → Heap → Prop} {s : Heap} (h : vd_tree_Next XX x0 self1 group2 members3 t4 K s) : wpCall Try.prog XX 21 [x0, self1, group2, members3, t4] K s := vd_tree_Next_ok XX_fr rfl h
end Go.AM
