/- Part V of a calculus over a small memory that is proved to answer as the program does, and of its use for the functions that the law reaches: see the last part. -/
import Derived.Test.YtnbgeelhoakjgaaU2
import Derived.Test.YtnbgeelhoakjgaaProg
import Derived.KernelRfl
set_option linter.unusedVariables false
namespace Go.AM
open Go Go.Proofs
abbrev IvP := List AVal → Heap → Nat → Prop
abbrev KvP := AVal → Heap → Prop
set_option maxRecDepth 100000
abbrev XX : Told := closedX [9, 4]
theorem XX_fr : FrX XX := closedX_fr _
def vc_fib_Of_j1 (X : Told) (l9 : AVal) (t20 : AVal) (I0 : IvP) (m0 : Nat) (K : KvP) (s : Heap) : Prop :=
 optK (arithV .add t20 (.int .i64 1)) fun v_5 =>
 ∃ m', m' < m0 ∧ I0 [l9, v_5] s m'
def vc_fib_Of_j2 (X : Told) (nodes0 : AVal) (links1 : AVal) (up2 : AVal) (self3 : AVal) (l9 : AVal) (n10 : AVal) (t20 : AVal) (t28 : AVal) (t30 : AVal) (I0 : IvP) (m0 : Nat) (K : KvP) (s : Heap) : Prop :=
 optK (pickV t28 (.bool true) t30) fun v_9 =>
 boolK v_9
 (vc_fib_Of_j1 X l9 t20 I0 m0 K s)
 (wpCall Try.prog X 36 [n10] (fun v_10 s_11 =>
 optK (extractA v_10 0) fun v_12 =>
 optK (extractA v_10 1) fun v_13 =>
 optK (negB false (eqV 0 true v_13 (.int .i64 0))) fun v_14 =>
 boolK v_14
 (wpCall Try.prog X 30 [nodes0, links1, up2, self3, n10] (fun v_15 s_16 =>
 optK (fillR [(.int .u32 0), .nilslc] [(0, 1, v_12), (1, 1, v_15)]) fun c_17 =>
 optK (fillR (repl 1 [(.int .u32 0), .nilslc]) [(0, 2, (.agg c_17))]) fun c_18 => allOne c_18 = true ∧ newK 86 c_18 (fun b_19 s_20 =>
 appK 86 2 l9 (.slc b_19 0 1 (some 1) 2) (fun v_21 s_22 =>
 vc_fib_Of_j1 X v_21 t20 I0 m0 K s_22) s_20) s_16) s_11)
 (vc_fib_Of_j1 X l9 t20 I0 m0 K s_11)) s)
def vc_fib_Of_l0 (X : Told) (nodes0 : AVal) (links1 : AVal) (up2 : AVal) (self3 : AVal) (l9 : AVal) (t18 : AVal) (t19 : AVal) (t20 : AVal) (I0 : IvP) (m0 : Nat) (K : KvP) (s : Heap) : Prop :=
 optK (arithV .lss t20 t19) fun v_4 =>
 boolK v_4
 (optK (iaddrS 1 t18 t20) fun v_6 =>
 optK (rd1 s v_6) fun v_7 =>
 optK (negB false (eqV 0 false t20 self3)) fun v_8 =>
 boolK v_8
 (vc_fib_Of_j2 X nodes0 links1 up2 self3 l9 t20 t20 v_8 .undef I0 m0 K s)
 (optK (arithV .lss v_7 (.int .i64 0)) fun v_23 =>
 vc_fib_Of_j2 X nodes0 links1 up2 self3 l9 t20 t20 v_8 v_23 I0 m0 K s))
 (K l9 s)
def vc_fib_Of (X : Told) (nodes0 : AVal) (links1 : AVal) (up2 : AVal) (self3 : AVal) (K : KvP) (s : Heap) : Prop :=
 wpCall Try.prog X 28 [nodes0, links1, up2, self3] (fun v_0 s_1 =>
 optK (lenOfA v_0) fun v_2 =>
 ∃ I0 : IvP, (∃ m, I0 [.nilslc, (.int .i64 0)] s_1 m) ∧ ∀ (f : Env) (s : Heap) (m0 : Nat), I0 [f 9, f 20] s m0 →
 vc_fib_Of_l0 X nodes0 links1 up2 self3 (f 9) v_0 (.int .i64 v_2) (f 20) I0 m0 K s) s
def vc_fib_Of_ann : Nat → List Nat := fun k => cond (Nat.beq k 6) [9, 20] ([])
theorem vc_fib_Of_eq (X : Told) (nodes0 : AVal) (links1 : AVal) (up2 : AVal) (self3 : AVal) (K : KvP) (s : Heap) : wpC Try.prog X vc_fib_Of_ann Try.f13.ntmps none (bodyOf Try.f13) (envOf [nodes0, links1, up2, self3]) (fun e env s => retK e (resK Try.prog Try.f13.results.toList env (fun vs => K (oneV vs) s) s)) s = vc_fib_Of X nodes0 links1 up2 self3 K s := by kernel_rfl
theorem vc_fib_Of_ok {X : Told} (hX : FrX X) (hn : X 13 = none) {nodes0 : AVal} {links1 : AVal} {up2 : AVal} {self3 : AVal} {K : KvP} {s : Heap} (h : vc_fib_Of X nodes0 links1 up2 self3 K s) : wpCall Try.prog X 13 [nodes0, links1, up2, self3] K s :=
 wpCall_code hX vc_fib_Of_ann hn Try.func13 (by kernel_rfl : Try.f13.body = some (bodyOf Try.f13)) (by kernel_rfl) ((vc_fib_Of_eq X nodes0 links1 up2 self3 K s).mpr h)
theorem vc_fib_Of_in {nodes0 : AVal} {links1 : AVal} {up2 : AVal} {self3 : AVal} {K : KvP} {s : Heap} (h : vc_fib_Of XX nodes0 links1 up2 self3 K s) : wpCall Try.prog XX 13 [nodes0, links1, up2, self3] K s := vc_fib_Of_ok XX_fr rfl h
def vlkit_Same_int__l0 (X : Told) (a0 : AVal) (b1 : AVal) (i5 : AVal) (I0 : IvP) (m0 : Nat) (K : KvP) (s : Heap) : Prop :=
 optK (lenOfA a0) fun v_5 =>
 optK (arithV .lss i5 (.int .i64 v_5)) fun v_7 =>
 boolK v_7
 (optK (iaddrS 1 a0 i5) fun v_8 =>
 optK (rd1 s v_8) fun v_9 =>
 optK (iaddrS 1 b1 i5) fun v_10 =>
 optK (rd1 s v_10) fun v_11 =>
 optK (negB true (eqV 0 false v_9 v_11)) fun v_12 =>
 boolK v_12
 (K (.bool false) s)
 (optK (arithV .add i5 (.int .i64 1)) fun v_13 =>
 ∃ m', m' < m0 ∧ I0 [v_13] s m'))
 (K (.bool true) s)
def vlkit_Same_int_ (X : Told) (a0 : AVal) (b1 : AVal) (K : KvP) (s : Heap) : Prop :=
 optK (lenOfA a0) fun v_0 =>
 optK (lenOfA b1) fun v_2 =>
 optK (negB true (eqV 0 false (.int .i64 v_0) (.int .i64 v_2))) fun v_4 =>
 boolK v_4
 (K (.bool false) s)
 (∃ I0 : IvP, (∃ m, I0 [(.int .i64 0)] s m) ∧ ∀ (f : Env) (s : Heap) (m0 : Nat), I0 [f 5] s m0 →
 vlkit_Same_int__l0 X a0 b1 (f 5) I0 m0 K s)
def vlkit_Same_int__ann : Nat → List Nat := fun k => cond (Nat.beq k 8) [5] ([])
theorem vlkit_Same_int__eq (X : Told) (a0 : AVal) (b1 : AVal) (K : KvP) (s : Heap) : wpC Try.prog X vlkit_Same_int__ann Try.f24.ntmps none (bodyOf Try.f24) (envOf [a0, b1]) (fun e env s => retK e (resK Try.prog Try.f24.results.toList env (fun vs => K (oneV vs) s) s)) s = vlkit_Same_int_ X a0 b1 K s := by kernel_rfl
theorem vlkit_Same_int__ok {X : Told} (hX : FrX X) (hn : X 24 = none) {a0 : AVal} {b1 : AVal} {K : KvP} {s : Heap} (h : vlkit_Same_int_ X a0 b1 K s) : wpCall Try.prog X 24 [a0, b1] K s :=
 wpCall_code hX vlkit_Same_int__ann hn Try.func24 (by kernel_rfl : Try.f24.body = some (bodyOf Try.f24)) (by kernel_rfl) ((vlkit_Same_int__eq X a0 b1 K s).mpr h)
theorem vlkit_Same_int__in {a0 : AVal} {b1 : AVal} {K : KvP} {s : Heap} (h : vlkit_Same_int_ XX a0 b1 K s) : wpCall Try.prog XX 24 [a0, b1] K s := vlkit_Same_int__ok XX_fr rfl h
def vc_spf_Dist (X : Told) (nodes0 : AVal) (links1 : AVal) (up2 : AVal) (t3 : AVal) (K : KvP) (s : Heap) : Prop :=
 optK (fillR (repl 1 [(.int .i64 0)]) [(0, 1, t3)]) fun c_0 => allOne c_0 = true ∧ newK 3 c_0 (fun b_1 s_2 =>
 wpCall Try.prog X 47 [nodes0, links1, up2, (.slc b_1 0 1 (some 1) 1)] (fun v_3 s_4 =>
 optK (unaryA .not v_3) fun v_5 =>
 boolK v_5
 (K .nilslc s_4)
 (wpCall Try.prog X 49 [nodes0, links1, up2] (fun v_6 s_7 =>
 wpCall Try.prog X 48 [v_6, t3] (fun v_8 s_9 =>
 K v_8 s_9) s_7) s_4)) s_2) s
def vc_spf_Dist_ann : Nat → List Nat := fun _ => []
theorem vc_spf_Dist_eq (X : Told) (nodes0 : AVal) (links1 : AVal) (up2 : AVal) (t3 : AVal) (K : KvP) (s : Heap) : wpC Try.prog X vc_spf_Dist_ann Try.f28.ntmps none (bodyOf Try.f28) (envOf [nodes0, links1, up2, t3]) (fun e env s => retK e (resK Try.prog Try.f28.results.toList env (fun vs => K (oneV vs) s) s)) s = vc_spf_Dist X nodes0 links1 up2 t3 K s := by kernel_rfl
theorem vc_spf_Dist_ok {X : Told} (hX : FrX X) (hn : X 28 = none) {nodes0 : AVal} {links1 : AVal} {up2 : AVal} {t3 : AVal} {K : KvP} {s : Heap} (h : vc_spf_Dist X nodes0 links1 up2 t3 K s) : wpCall Try.prog X 28 [nodes0, links1, up2, t3] K s :=
 wpCall_code hX vc_spf_Dist_ann hn Try.func28 (by kernel_rfl : Try.f28.body = some (bodyOf Try.f28)) (by kernel_rfl) ((vc_spf_Dist_eq X nodes0 links1 up2 t3 K s).mpr h)
theorem vc_spf_Dist_in {nodes0 : AVal} {links1 : AVal} {up2 : AVal} {t3 : AVal} {K : KvP} {s : Heap} (h : vc_spf_Dist XX nodes0 links1 up2 t3 K s) : wpCall Try.prog XX 28 [nodes0, links1, up2, t3] K s := vc_spf_Dist_ok XX_fr rfl h
def vc_spf_Next_l0 (X : Told) (first12 : AVal) (t35 : AVal) (t36 : AVal) (t37 : AVal) (I0 : IvP) (m0 : Nat) (K : KvP) (s : Heap) : Prop :=
 optK (arithV .lss t37 t36) fun v_16 =>
 boolK v_16
 (optK (iaddrS 3 t35 t37) fun v_17 =>
 optK (rdN s 3 v_17) fun v_18 =>
 newK 106 [(.int .i64 0), (.int .i64 0), (.int .i64 0)] (fun b_19 s_20 =>
 optK (wrAgg s_20 3 (.ptr b_19 0) (.agg v_18)) fun s_21 =>
 optK (addOff 0 (.ptr b_19 0)) fun v_22 =>
 optK (rd1 s_21 v_22) fun v_23 =>
 optK (fillR (repl 1 [(.int .i64 0)]) [(0, 1, v_23)]) fun c_24 => allOne c_24 = true ∧ newK 3 c_24 (fun b_25 s_26 =>
 appK 3 1 first12 (.slc b_25 0 1 (some 1) 1) (fun v_27 s_28 =>
 optK (arithV .add t37 (.int .i64 1)) fun v_29 =>
 ∃ m', m' < m0 ∧ I0 [v_27, v_29] s_28 m') s_26) s_21) s)
 (K first12 s)
def vc_spf_Next (X : Told) (nodes0 : AVal) (links1 : AVal) (up2 : AVal) (t3 : AVal) (t4 : AVal) (K : KvP) (s : Heap) : Prop :=
 optK (fillR (repl 2 [(.int .i64 0)]) [(0, 1, t3), (1, 1, t4)]) fun c_0 => allOne c_0 = true ∧ newK 3 c_0 (fun b_1 s_2 =>
 wpCall Try.prog X 47 [nodes0, links1, up2, (.slc b_1 0 2 (some 2) 1)] (fun v_3 s_4 =>
 optK (unaryA .not v_3) fun v_5 =>
 boolK v_5
 (K .nilslc s_4)
 (wpCall Try.prog X 49 [nodes0, links1, up2] (fun v_6 s_7 =>
 optK (iaddrS 1 v_6 t3) fun v_8 =>
 optK (rd1 s_7 v_8) fun v_9 =>
 wpCall Try.prog X 48 [v_6, t4] (fun v_10 s_11 =>
 (∀ b, s_7 b ≠ none → s_7 b = none → s_11 b = none) →
 wpCall Try.prog X 50 [v_9, v_10, t3] (fun v_12 s_13 =>
 optK (lenOfA v_12) fun v_14 =>
 ∃ I0 : IvP, (∃ m, I0 [.nilslc, (.int .i64 0)] s_13 m) ∧ ∀ (f : Env) (s : Heap) (m0 : Nat), I0 [f 12, f 37] s m0 →
 vc_spf_Next_l0 X (f 12) v_12 (.int .i64 v_14) (f 37) I0 m0 K s) (add s_7 s_11)) (frz s_7)) s_4)) s_2) s
def vc_spf_Next_ann : Nat → List Nat := fun k => cond (Nat.beq k 12) [12, 37] ([])
theorem vc_spf_Next_eq (X : Told) (nodes0 : AVal) (links1 : AVal) (up2 : AVal) (t3 : AVal) (t4 : AVal) (K : KvP) (s : Heap) : wpC Try.prog X vc_spf_Next_ann Try.f30.ntmps none (bodyOf Try.f30) (envOf [nodes0, links1, up2, t3, t4]) (fun e env s => retK e (resK Try.prog Try.f30.results.toList env (fun vs => K (oneV vs) s) s)) s = vc_spf_Next X nodes0 links1 up2 t3 t4 K s := by kernel_rfl
theorem vc_spf_Next_ok {X : Told} (hX : FrX X) (hn : X 30 = none) {nodes0 : AVal} {links1 : AVal} {up2 : AVal} {t3 : AVal} {t4 : AVal} {K : KvP} {s : Heap} (h : vc_spf_Next X nodes0 links1 up2 t3 t4 K s) : wpCall Try.prog X 30 [nodes0, links1, up2, t3, t4] K s :=
 wpCall_code hX vc_spf_Next_ann hn Try.func30 (by kernel_rfl : Try.f30.body = some (bodyOf Try.f30)) (by kernel_rfl) ((vc_spf_Next_eq X nodes0 links1 up2 t3 t4 K s).mpr h)
theorem vc_spf_Next_in {nodes0 : AVal} {links1 : AVal} {up2 : AVal} {t3 : AVal} {t4 : AVal} {K : KvP} {s : Heap} (h : vc_spf_Next XX nodes0 links1 up2 t3 t4 K s) : wpCall Try.prog XX 30 [nodes0, links1, up2, t3, t4] K s := vc_spf_Next_ok XX_fr rfl h
def vc_addr_Loopback_j0 (X : Told) (n0 : AVal) (t6 : AVal) (t8 : AVal) (K : KvP) (s : Heap) : Prop :=
 optK (pickV t6 (.bool true) t8) fun v_1 =>
 boolK v_1
 (K (.tup [(.int .u32 0), (.int .i64 2)]) s)
 (optK (convI .u32 n0) fun v_2 =>
 optK (arithV .add (.int .u32 184483840) v_2) fun v_3 =>
 optK (arithV .add v_3 (.int .u32 1)) fun v_4 =>
 K (.tup [v_4, (.int .i64 0)]) s)
def vc_addr_Loopback (X : Told) (n0 : AVal) (K : KvP) (s : Heap) : Prop :=
 optK (arithV .lss n0 (.int .i64 0)) fun v_0 =>
 boolK v_0
 (vc_addr_Loopback_j0 X n0 v_0 .undef K s)
 (optK (arithV .geq n0 (.int .i64 32)) fun v_5 =>
 vc_addr_Loopback_j0 X n0 v_0 v_5 K s)
def vc_addr_Loopback_ann : Nat → List Nat := fun _ => []
theorem vc_addr_Loopback_eq (X : Told) (n0 : AVal) (K : KvP) (s : Heap) : wpC Try.prog X vc_addr_Loopback_ann Try.f36.ntmps none (bodyOf Try.f36) (envOf [n0]) (fun e env s => retK e (resK Try.prog Try.f36.results.toList env (fun vs => K (oneV vs) s) s)) s = vc_addr_Loopback X n0 K s := by kernel_rfl
theorem vc_addr_Loopback_ok {X : Told} (hX : FrX X) (hn : X 36 = none) {n0 : AVal} {K : KvP} {s : Heap} (h : vc_addr_Loopback X n0 K s) : wpCall Try.prog X 36 [n0] K s :=
 wpCall_code hX vc_addr_Loopback_ann hn Try.func36 (by kernel_rfl : Try.f36.body = some (bodyOf Try.f36)) (by kernel_rfl) ((vc_addr_Loopback_eq X n0 K s).mpr h)
theorem vc_addr_Loopback_in {n0 : AVal} {K : KvP} {s : Heap} (h : vc_addr_Loopback XX n0 K s) : wpCall Try.prog XX 36 [n0] K s := vc_addr_Loopback_ok XX_fr rfl h
def vc_spf_valid_j7 (X : Told) (t33 : AVal) (t59 : AVal) (t62 : AVal) (I3 : IvP) (m3 : Nat) (K : KvP) (s : Heap) : Prop :=
 optK (pickV t59 (.bool true) t62) fun v_22 =>
 boolK v_22
 (K (.bool false) s)
 (optK (arithV .add t33 (.int .i64 1)) fun v_23 =>
 ∃ m', m' < m3 ∧ I3 [v_23] s m')
def vc_spf_valid_j6 (X : Told) (l11 : AVal) (t33 : AVal) (t54 : AVal) (t57 : AVal) (I3 : IvP) (m3 : Nat) (K : KvP) (s : Heap) : Prop :=
 optK (pickV t54 (.bool true) t57) fun v_21 =>
 boolK v_21
 (vc_spf_valid_j7 X t33 v_21 .undef I3 m3 K s)
 (optK (addOff 2 l11) fun v_24 =>
 optK (rd1 s v_24) fun v_25 =>
 optK (arithV .gtr v_25 (.int .i64 1000)) fun v_26 =>
 vc_spf_valid_j7 X t33 v_21 v_26 I3 m3 K s)
def vc_spf_valid_j5 (X : Told) (l11 : AVal) (t33 : AVal) (t47 : AVal) (t52 : AVal) (I3 : IvP) (m3 : Nat) (K : KvP) (s : Heap) : Prop :=
 optK (pickV t47 (.bool true) t52) fun v_20 =>
 boolK v_20
 (vc_spf_valid_j6 X l11 t33 v_20 .undef I3 m3 K s)
 (optK (addOff 2 l11) fun v_27 =>
 optK (rd1 s v_27) fun v_28 =>
 optK (arithV .lss v_28 (.int .i64 1)) fun v_29 =>
 vc_spf_valid_j6 X l11 t33 v_20 v_29 I3 m3 K s)
def vc_spf_valid_j4 (X : Told) (l11 : AVal) (t33 : AVal) (t41 : AVal) (t45 : AVal) (I3 : IvP) (m3 : Nat) (K : KvP) (s : Heap) : Prop :=
 optK (pickV t41 (.bool true) t45) fun v_19 =>
 boolK v_19
 (vc_spf_valid_j5 X l11 t33 v_19 .undef I3 m3 K s)
 (optK (addOff 0 l11) fun v_30 =>
 optK (rd1 s v_30) fun v_31 =>
 optK (addOff 1 l11) fun v_32 =>
 optK (rd1 s v_32) fun v_33 =>
 optK (negB false (eqV 0 false v_31 v_33)) fun v_34 =>
 vc_spf_valid_j5 X l11 t33 v_19 v_34 I3 m3 K s)
def vc_spf_valid_l3 (X : Told) (ends3 : AVal) (outside9 : AVal) (t31 : AVal) (t32 : AVal) (t33 : AVal) (I3 : IvP) (m3 : Nat) (K : KvP) (s : Heap) : Prop :=
 optK (arithV .lss t33 t32) fun v_9 =>
 boolK v_9
 (optK (iaddrS 3 t31 t33) fun v_10 =>
 optK (rdN s 3 v_10) fun v_11 =>
 newK 27 [(.int .i64 0), (.int .i64 0), (.int .i64 0)] (fun b_12 s_13 =>
 optK (wrAgg s_13 3 (.ptr b_12 0) (.agg v_11)) fun s_14 =>
 optK (addOff 0 (.ptr b_12 0)) fun v_15 =>
 optK (rd1 s_14 v_15) fun v_16 =>
 funK Try.prog X outside9 [v_16] (fun v_17 s_18 =>
 boolK v_17
 (vc_spf_valid_j4 X (.ptr b_12 0) t33 v_17 .undef I3 m3 K s_18)
 (optK (addOff 1 (.ptr b_12 0)) fun v_35 =>
 optK (rd1 s_18 v_35) fun v_36 =>
 funK Try.prog X outside9 [v_36] (fun v_37 s_38 =>
 vc_spf_valid_j4 X (.ptr b_12 0) t33 v_17 v_37 I3 m3 K s_38) s_18)) s_14) s)
 (wpCall Try.prog X 71 [ends3, outside9] (fun v_39 s_40 =>
 optK (unaryA .not v_39) fun v_41 =>
 K v_41 s_40) s)
def vc_spf_valid_j2 (X : Told) (links1 : AVal) (ends3 : AVal) (nodes4 : AVal) (t23 : AVal) (t28 : AVal) (K : KvP) (s : Heap) : Prop :=
 optK (pickV t23 (.bool true) t28) fun v_6 =>
 boolK v_6
 (K (.bool false) s)
 (optK (lenOfA links1) fun v_7 =>
 ∃ I3 : IvP, (∃ m, I3 [(.int .i64 0)] s m) ∧ ∀ (f : Env) (s : Heap) (m3 : Nat), I3 [f 33] s m3 →
 vc_spf_valid_l3 X ends3 (.fn (.func 70) [] [nodes4]) links1 (.int .i64 v_7) (f 33) I3 m3 K s)
def vc_spf_valid_j1 (X : Told) (links1 : AVal) (up2 : AVal) (ends3 : AVal) (nodes4 : AVal) (t18 : AVal) (t21 : AVal) (K : KvP) (s : Heap) : Prop :=
 optK (pickV t18 (.bool true) t21) fun v_5 =>
 boolK v_5
 (vc_spf_valid_j2 X links1 ends3 nodes4 v_5 .undef K s)
 (optK (lenOfA up2) fun v_42 =>
 optK (lenOfA links1) fun v_44 =>
 optK (negB true (eqV 0 false (.int .i64 v_42) (.int .i64 v_44))) fun v_46 =>
 vc_spf_valid_j2 X links1 ends3 nodes4 v_5 v_46 K s)
def vc_spf_valid_j0 (X : Told) (links1 : AVal) (up2 : AVal) (ends3 : AVal) (nodes4 : AVal) (t14 : AVal) (t16 : AVal) (K : KvP) (s : Heap) : Prop :=
 optK (pickV t14 (.bool true) t16) fun v_4 =>
 boolK v_4
 (vc_spf_valid_j1 X links1 up2 ends3 nodes4 v_4 .undef K s)
 (optK (lenOfA links1) fun v_47 =>
 optK (arithV .gtr (.int .i64 v_47) (.int .i64 128)) fun v_49 =>
 vc_spf_valid_j1 X links1 up2 ends3 nodes4 v_4 v_49 K s)
def vc_spf_valid (X : Told) (nodes0 : AVal) (links1 : AVal) (up2 : AVal) (ends3 : AVal) (K : KvP) (s : Heap) : Prop :=
 boxK 3 nodes0 (fun b_0 s_1 =>
 optK (rd1 s_1 b_0) fun v_2 =>
 optK (arithV .lss v_2 (.int .i64 1)) fun v_3 =>
 boolK v_3
 (vc_spf_valid_j0 X links1 up2 ends3 b_0 v_3 .undef K s_1)
 (optK (rd1 s_1 b_0) fun v_50 =>
 optK (arithV .gtr v_50 (.int .i64 32)) fun v_51 =>
 vc_spf_valid_j0 X links1 up2 ends3 b_0 v_3 v_51 K s_1)) s
def vc_spf_valid_ann : Nat → List Nat := fun k => cond (Nat.beq k 10) [33] ([])
theorem vc_spf_valid_eq (X : Told) (nodes0 : AVal) (links1 : AVal) (up2 : AVal) (ends3 : AVal) (K : KvP) (s : Heap) : wpC Try.prog X vc_spf_valid_ann Try.f47.ntmps none (bodyOf Try.f47) (envOf [nodes0, links1, up2, ends3]) (fun e env s => retK e (resK Try.prog Try.f47.results.toList env (fun vs => K (oneV vs) s) s)) s = vc_spf_valid X nodes0 links1 up2 ends3 K s := by kernel_rfl
theorem vc_spf_valid_ok {X : Told} (hX : FrX X) (hn : X 47 = none) {nodes0 : AVal} {links1 : AVal} {up2 : AVal} {ends3 : AVal} {K : KvP} {s : Heap} (h : vc_spf_valid X nodes0 links1 up2 ends3 K s) : wpCall Try.prog X 47 [nodes0, links1, up2, ends3] K s :=
 wpCall_code hX vc_spf_valid_ann hn Try.func47 (by kernel_rfl : Try.f47.body = some (bodyOf Try.f47)) (by kernel_rfl) ((vc_spf_valid_eq X nodes0 links1 up2 ends3 K s).mpr h)
theorem vc_spf_valid_in {nodes0 : AVal} {links1 : AVal} {up2 : AVal} {ends3 : AVal} {K : KvP} {s : Heap} (h : vc_spf_valid XX nodes0 links1 up2 ends3 K s) : wpCall Try.prog XX 47 [nodes0, links1, up2, ends3] K s := vc_spf_valid_ok XX_fr rfl h
def vc_spf_distances_j3 (X : Told) (t58 : AVal) (I2 : IvP) (m2 : Nat) (I1 : IvP) (m1 : Nat) (K : KvP) (s : Heap) : Prop :=
 optK (arithV .add t58 (.int .i64 1)) fun v_59 =>
 ∃ m', m' < m2 ∧ I2 [v_59] s m'
def vc_spf_distances_l2 (X : Told) (dist5 : AVal) (q7 : AVal) (next8 : AVal) (t56 : AVal) (t57 : AVal) (t58 : AVal) (I2 : IvP) (m2 : Nat) (I1 : IvP) (m1 : Nat) (K : KvP) (s : Heap) : Prop :=
 optK (arithV .lss t58 t57) fun v_48 =>
 boolK v_48
 (optK (iaddrS 3 t56 t58) fun v_49 =>
 optK (rdN s 3 v_49) fun v_50 =>
 newK 106 [(.int .i64 0), (.int .i64 0), (.int .i64 0)] (fun b_51 s_52 =>
 optK (wrAgg s_52 3 (.ptr b_51 0) (.agg v_50)) fun s_53 =>
 optK (addOff 1 (.ptr b_51 0)) fun v_54 =>
 optK (rd1 s_53 v_54) fun v_55 =>
 optK (iaddrS 1 dist5 v_55) fun v_56 =>
 optK (rd1 s_53 v_56) fun v_57 =>
 optK (arithV .lss v_57 (.int .i64 0)) fun v_58 =>
 boolK v_58
 (optK (addOff 1 (.ptr b_51 0)) fun v_60 =>
 optK (rd1 s_53 v_60) fun v_61 =>
 optK (addOff 1 next8) fun v_62 =>
 optK (rd1 s_53 v_62) fun v_63 =>
 optK (addOff 2 (.ptr b_51 0)) fun v_64 =>
 optK (rd1 s_53 v_64) fun v_65 =>
 optK (arithV .add v_63 v_65) fun v_66 =>
 optK (fillR [(.int .i64 0), (.int .i64 0)] [(0, 1, v_61), (1, 1, v_66)]) fun c_67 =>
 wpCall Try.prog X 74 [(.ifc 130 q7), (.ifc 132 (.agg c_67))] (fun v_68 s_69 =>
 vc_spf_distances_j3 X t58 I2 m2 I1 m1 K s_69) s_53)
 (vc_spf_distances_j3 X t58 I2 m2 I1 m1 K s_53)) s)
 (∃ m', m' < m1 ∧ I1 [] s m')
def vc_spf_distances_l1 (X : Told) (all0 : AVal) (dist5 : AVal) (q7 : AVal) (I1 : IvP) (m1 : Nat) (K : KvP) (s : Heap) : Prop :=
 optK (nilCheckA q7) fun v_18 =>
 optK (rd1 s v_18) fun v_19 =>
 wpCall Try.prog X 72 [v_19] (fun v_20 s_21 =>
 optK (arithV .gtr v_20 (.int .i64 0)) fun v_22 =>
 boolK v_22
 (wpCall Try.prog X 73 [(.ifc 130 q7)] (fun v_23 s_24 =>
 optK (tassV 132 (some (.agg [(.int .i64 0), (.int .i64 0)])) true v_23) fun v_25 =>
 optK (extractA v_25 0) fun v_26 =>
 optK (extractA v_25 1) fun v_27 =>
 newK 132 [(.int .i64 0), (.int .i64 0)] (fun b_28 s_29 =>
 optK (wrAgg s_29 2 (.ptr b_28 0) v_26) fun s_30 =>
 optK (addOff 0 (.ptr b_28 0)) fun v_31 =>
 optK (rd1 s_30 v_31) fun v_32 =>
 optK (iaddrS 1 dist5 v_32) fun v_33 =>
 optK (rd1 s_30 v_33) fun v_34 =>
 optK (arithV .geq v_34 (.int .i64 0)) fun v_35 =>
 boolK v_35
 (∃ m', m' < m1 ∧ I1 [] s_30 m')
 (optK (addOff 0 (.ptr b_28 0)) fun v_36 =>
 optK (rd1 s_30 v_36) fun v_37 =>
 optK (addOff 1 (.ptr b_28 0)) fun v_38 =>
 optK (rd1 s_30 v_38) fun v_39 =>
 optK (iaddrS 1 dist5 v_37) fun v_40 =>
 optK (wr1 s_30 v_40 v_39) fun s_41 =>
 optK (addOff 0 (.ptr b_28 0)) fun v_42 =>
 optK (rd1 s_41 v_42) fun v_43 =>
 optK (iaddrS 1 all0 v_43) fun v_44 =>
 optK (rd1 s_41 v_44) fun v_45 =>
 optK (lenOfA v_45) fun v_46 =>
 ∃ I2 : IvP, (∃ m, I2 [(.int .i64 0)] s_41 m) ∧ ∀ (f : Env) (s : Heap) (m2 : Nat), I2 [f 58] s m2 →
 vc_spf_distances_l2 X dist5 q7 (.ptr b_28 0) v_45 (.int .i64 v_46) (f 58) I2 m2 I1 m1 K s)) s_24) s_21)
 (K dist5 s_21)) s
def vc_spf_distances_l0 (X : Told) (all0 : AVal) (t1 : AVal) (dist5 : AVal) (t16 : AVal) (t17 : AVal) (I0 : IvP) (m0 : Nat) (K : KvP) (s : Heap) : Prop :=
 optK (arithV .lss t17 t16) fun v_8 =>
 boolK v_8
 (optK (iaddrS 1 dist5 t17) fun v_9 =>
 optK (wr1 s v_9 (.int .i64 (-1))) fun s_10 =>
 optK (arithV .add t17 (.int .i64 1)) fun v_11 =>
 ∃ m', m' < m0 ∧ I0 [v_11] s_10 m')
 (optK (fillR [(.int .i64 0), (.int .i64 0)] [(0, 1, t1), (1, 1, (.int .i64 0))]) fun c_12 =>
 optK (fillR (repl 1 [(.int .i64 0), (.int .i64 0)]) [(0, 2, (.agg c_12))]) fun c_13 => allOne c_13 = true ∧ newK 132 c_13 (fun b_14 s_15 =>
 boxK 134 (.slc b_14 0 1 (some 1) 2) (fun b_16 s_17 =>
 ∃ I1 : IvP, (∃ m, I1 [] s_17 m) ∧ ∀ (f : Env) (s : Heap) (m1 : Nat), I1 [] s m1 →
 vc_spf_distances_l1 X all0 dist5 b_16 I1 m1 K s) s_15) s)
def vc_spf_distances (X : Told) (all0 : AVal) (t1 : AVal) (K : KvP) (s : Heap) : Prop :=
 optK (lenOfA all0) fun v_0 =>
 optK (nat? (.int .i64 v_0)) fun n_2 => optK (nat? (.int .i64 v_0)) fun n_3 => (n_2 ≤ n_3 ∧ n_3 ≤ 4294967296) ∧ newK 3 (repl n_3 [(.int .i64 0)]) (fun b_4 s_5 =>
 optK (lenOfA (.slc b_4 0 n_2 (some n_3) 1)) fun v_6 =>
 ∃ I0 : IvP, (∃ m, I0 [(.int .i64 0)] s_5 m) ∧ ∀ (f : Env) (s : Heap) (m0 : Nat), I0 [f 17] s m0 →
 vc_spf_distances_l0 X all0 t1 (.slc b_4 0 n_2 (some n_3) 1) (.int .i64 v_6) (f 17) I0 m0 K s) s
def vc_spf_distances_ann : Nat → List Nat := fun k => cond (Nat.beq k 6) [17] (cond (Nat.beq k 16) [] (cond (Nat.beq k 26) [58] ([])))
theorem vc_spf_distances_eq (X : Told) (all0 : AVal) (t1 : AVal) (K : KvP) (s : Heap) : wpC Try.prog X vc_spf_distances_ann Try.f48.ntmps none (bodyOf Try.f48) (envOf [all0, t1]) (fun e env s => retK e (resK Try.prog Try.f48.results.toList env (fun vs => K (oneV vs) s) s)) s = vc_spf_distances X all0 t1 K s := by kernel_rfl
theorem vc_spf_distances_ok {X : Told} (hX : FrX X) (hn : X 48 = none) {all0 : AVal} {t1 : AVal} {K : KvP} {s : Heap} (h : vc_spf_distances X all0 t1 K s) : wpCall Try.prog X 48 [all0, t1] K s :=
 wpCall_code hX vc_spf_distances_ann hn Try.func48 (by kernel_rfl : Try.f48.body = some (bodyOf Try.f48)) (by kernel_rfl) ((vc_spf_distances_eq X all0 t1 K s).mpr h)
theorem vc_spf_distances_in {all0 : AVal} {t1 : AVal} {K : KvP} {s : Heap} (h : vc_spf_distances XX all0 t1 K s) : wpCall Try.prog XX 48 [all0, t1] K s := vc_spf_distances_ok XX_fr rfl h
def vc_spf_nearer_j1 (X : Told) (l7 : AVal) (t12 : AVal) (I0 : IvP) (m0 : Nat) (K : KvP) (s : Heap) : Prop :=
 optK (arithV .add t12 (.int .i64 1)) fun v_18 =>
 ∃ m', m' < m0 ∧ I0 [l7, v_18] s m'
def vc_spf_nearer_l0 (X : Told) (dist1 : AVal) (n2 : AVal) (l7 : AVal) (t10 : AVal) (t11 : AVal) (t12 : AVal) (I0 : IvP) (m0 : Nat) (K : KvP) (s : Heap) : Prop :=
 optK (arithV .lss t12 t11) fun v_2 =>
 boolK v_2
 (optK (iaddrS 3 t10 t12) fun v_3 =>
 optK (rdN s 3 v_3) fun v_4 =>
 newK 106 [(.int .i64 0), (.int .i64 0), (.int .i64 0)] (fun b_5 s_6 =>
 optK (wrAgg s_6 3 (.ptr b_5 0) (.agg v_4)) fun s_7 =>
 optK (iaddrS 1 dist1 n2) fun v_8 =>
 optK (rd1 s_7 v_8) fun v_9 =>
 optK (addOff 1 (.ptr b_5 0)) fun v_10 =>
 optK (rd1 s_7 v_10) fun v_11 =>
 optK (iaddrS 1 dist1 v_11) fun v_12 =>
 optK (rd1 s_7 v_12) fun v_13 =>
 optK (addOff 2 (.ptr b_5 0)) fun v_14 =>
 optK (rd1 s_7 v_14) fun v_15 =>
 optK (arithV .add v_13 v_15) fun v_16 =>
 optK (negB false (eqV 0 false v_9 v_16)) fun v_17 =>
 boolK v_17
 (optK (rdN s_7 3 (.ptr b_5 0)) fun v_19 =>
 optK (fillR (repl 1 [(.int .i64 0), (.int .i64 0), (.int .i64 0)]) [(0, 3, (.agg v_19))]) fun c_20 => allOne c_20 = true ∧ newK 106 c_20 (fun b_21 s_22 =>
 appK 106 3 l7 (.slc b_21 0 1 (some 1) 3) (fun v_23 s_24 =>
 vc_spf_nearer_j1 X v_23 t12 I0 m0 K s_24) s_22) s_7)
 (vc_spf_nearer_j1 X l7 t12 I0 m0 K s_7)) s)
 (K l7 s)
def vc_spf_nearer (X : Told) (t0 : AVal) (dist1 : AVal) (n2 : AVal) (K : KvP) (s : Heap) : Prop :=
 optK (lenOfA t0) fun v_0 =>
 ∃ I0 : IvP, (∃ m, I0 [.nilslc, (.int .i64 0)] s m) ∧ ∀ (f : Env) (s : Heap) (m0 : Nat), I0 [f 7, f 12] s m0 →
 vc_spf_nearer_l0 X dist1 n2 (f 7) t0 (.int .i64 v_0) (f 12) I0 m0 K s
def vc_spf_nearer_ann : Nat → List Nat := fun k => cond (Nat.beq k 6) [7, 12] ([])
theorem vc_spf_nearer_eq (X : Told) (t0 : AVal) (dist1 : AVal) (n2 : AVal) (K : KvP) (s : Heap) : wpC Try.prog X vc_spf_nearer_ann Try.f50.ntmps none (bodyOf Try.f50) (envOf [t0, dist1, n2]) (fun e env s => retK e (resK Try.prog Try.f50.results.toList env (fun vs => K (oneV vs) s) s)) s = vc_spf_nearer X t0 dist1 n2 K s := by kernel_rfl
theorem vc_spf_nearer_ok {X : Told} (hX : FrX X) (hn : X 50 = none) {t0 : AVal} {dist1 : AVal} {n2 : AVal} {K : KvP} {s : Heap} (h : vc_spf_nearer X t0 dist1 n2 K s) : wpCall Try.prog X 50 [t0, dist1, n2] K s :=
 wpCall_code hX vc_spf_nearer_ann hn Try.func50 (by kernel_rfl : Try.f50.body = some (bodyOf Try.f50)) (by kernel_rfl) ((vc_spf_nearer_eq X t0 dist1 n2 K s).mpr h)
theorem vc_spf_nearer_in {t0 : AVal} {dist1 : AVal} {n2 : AVal} {K : KvP} {s : Heap} (h : vc_spf_nearer XX t0 dist1 n2 K s) : wpCall Try.prog XX 50 [t0, dist1, n2] K s := vc_spf_nearer_ok XX_fr rfl h
def vc_spf_valid_1_j0 (X : Told) (t6 : AVal) (t9 : AVal) (K : KvP) (s : Heap) : Prop :=
 optK (pickV t6 (.bool true) t9) fun v_1 =>
 K v_1 s
def vc_spf_valid_1 (X : Told) (n0 : AVal) (t1 : AVal) (K : KvP) (s : Heap) : Prop :=
 optK (arithV .lss n0 (.int .i64 0)) fun v_0 =>
 boolK v_0
 (vc_spf_valid_1_j0 X v_0 .undef K s)
 (optK (rd1 s t1) fun v_2 =>
 optK (arithV .geq n0 v_2) fun v_3 =>
 vc_spf_valid_1_j0 X v_0 v_3 K s)
def vc_spf_valid_1_ann : Nat → List Nat := fun _ => []
theorem vc_spf_valid_1_eq (X : Told) (n0 : AVal) (t1 : AVal) (K : KvP) (s : Heap) : wpC Try.prog X vc_spf_valid_1_ann Try.f70.ntmps none (bodyOf Try.f70) (envOf [n0, t1]) (fun e env s => retK e (resK Try.prog Try.f70.results.toList env (fun vs => K (oneV vs) s) s)) s = vc_spf_valid_1 X n0 t1 K s := by kernel_rfl
theorem vc_spf_valid_1_ok {X : Told} (hX : FrX X) (hn : X 70 = none) {n0 : AVal} {t1 : AVal} {K : KvP} {s : Heap} (h : vc_spf_valid_1 X n0 t1 K s) : wpCall Try.prog X 70 [n0, t1] K s :=
 wpCall_code hX vc_spf_valid_1_ann hn Try.func70 (by kernel_rfl : Try.f70.body = some (bodyOf Try.f70)) (by kernel_rfl) ((vc_spf_valid_1_eq X n0 t1 K s).mpr h)
theorem vc_spf_valid_1_in {n0 : AVal} {t1 : AVal} {K : KvP} {s : Heap} (h : vc_spf_valid_1 XX n0 t1 K s) : wpCall Try.prog XX 70 [n0, t1] K s := vc_spf_valid_1_ok XX_fr rfl h
def vs_ContainsFunc___int_int_ (X : Told) (t0 : AVal) (t1 : AVal) (K : KvP) (s : Heap) : Prop :=
 wpCall Try.prog X 83 [t0, t1] (fun v_0 s_1 =>
 optK (arithV .geq v_0 (.int .i64 0)) fun v_2 =>
 K v_2 s_1) s
def vs_ContainsFunc___int_int__ann : Nat → List Nat := fun _ => []
theorem vs_ContainsFunc___int_int__eq (X : Told) (t0 : AVal) (t1 : AVal) (K : KvP) (s : Heap) : wpC Try.prog X vs_ContainsFunc___int_int__ann Try.f71.ntmps none (bodyOf Try.f71) (envOf [t0, t1]) (fun e env s => retK e (resK Try.prog Try.f71.results.toList env (fun vs => K (oneV vs) s) s)) s = vs_ContainsFunc___int_int_ X t0 t1 K s := by kernel_rfl
theorem vs_ContainsFunc___int_int__ok {X : Told} (hX : FrX X) (hn : X 71 = none) {t0 : AVal} {t1 : AVal} {K : KvP} {s : Heap} (h : vs_ContainsFunc___int_int_ X t0 t1 K s) : wpCall Try.prog X 71 [t0, t1] K s :=
 wpCall_code hX vs_ContainsFunc___int_int__ann hn Try.func71 (by kernel_rfl : Try.f71.body = some (bodyOf Try.f71)) (by kernel_rfl) ((vs_ContainsFunc___int_int__eq X t0 t1 K s).mpr h)
theorem vs_ContainsFunc___int_int__in {t0 : AVal} {t1 : AVal} {K : KvP} {s : Heap} (h : vs_ContainsFunc___int_int_ XX t0 t1 K s) : wpCall Try.prog XX 71 [t0, t1] K s := vs_ContainsFunc___int_int__ok XX_fr rfl h
def vc_spf_queue_Len (X : Told) (q0 : AVal) (K : KvP) (s : Heap) : Prop :=
 optK (lenOfA q0) fun v_0 =>
 K (.int .i64 v_0) s
def vc_spf_queue_Len_ann : Nat → List Nat := fun _ => []
theorem vc_spf_queue_Len_eq (X : Told) (q0 : AVal) (K : KvP) (s : Heap) : wpC Try.prog X vc_spf_queue_Len_ann Try.f72.ntmps none (bodyOf Try.f72) (envOf [q0]) (fun e env s => retK e (resK Try.prog Try.f72.results.toList env (fun vs => K (oneV vs) s) s)) s = vc_spf_queue_Len X q0 K s := by kernel_rfl
theorem vc_spf_queue_Len_ok {X : Told} (hX : FrX X) (hn : X 72 = none) {q0 : AVal} {K : KvP} {s : Heap} (h : vc_spf_queue_Len X q0 K s) : wpCall Try.prog X 72 [q0] K s :=
 wpCall_code hX vc_spf_queue_Len_ann hn Try.func72 (by kernel_rfl : Try.f72.body = some (bodyOf Try.f72)) (by kernel_rfl) ((vc_spf_queue_Len_eq X q0 K s).mpr h)
theorem vc_spf_queue_Len_in {q0 : AVal} {K : KvP} {s : Heap} (h : vc_spf_queue_Len XX q0 K s) : wpCall Try.prog XX 72 [q0] K s := vc_spf_queue_Len_ok XX_fr rfl h
def vh_Pop (X : Told) (h0 : AVal) (K : KvP) (s : Heap) : Prop :=
 methK Try.prog X h0 "Len" [] (fun v_0 s_1 =>
 optK (arithV .sub v_0 (.int .i64 1)) fun v_2 =>
 methK Try.prog X h0 "Swap" [(.int .i64 0), v_2] (fun v_3 s_4 =>
 wpCall Try.prog X 84 [h0, (.int .i64 0), v_2] (fun v_5 s_6 =>
 methK Try.prog X h0 "Pop" [] (fun v_7 s_8 =>
 K v_7 s_8) s_6) s_4) s_1) s
def vh_Pop_ann : Nat → List Nat := fun _ => []
theorem vh_Pop_eq (X : Told) (h0 : AVal) (K : KvP) (s : Heap) : wpC Try.prog X vh_Pop_ann Try.f73.ntmps none (bodyOf Try.f73) (envOf [h0]) (fun e env s => retK e (resK Try.prog Try.f73.results.toList env (fun vs => K (oneV vs) s) s)) s = vh_Pop X h0 K s := by kernel_rfl
theorem vh_Pop_ok {X : Told} (hX : FrX X) (hn : X 73 = none) {h0 : AVal} {K : KvP} {s : Heap} (h : vh_Pop X h0 K s) : wpCall Try.prog X 73 [h0] K s :=
 wpCall_code hX vh_Pop_ann hn Try.func73 (by kernel_rfl : Try.f73.body = some (bodyOf Try.f73)) (by kernel_rfl) ((vh_Pop_eq X h0 K s).mpr h)
theorem vh_Pop_in {h0 : AVal} {K : KvP} {s : Heap} (h : vh_Pop XX h0 K s) : wpCall Try.prog XX 73 [h0] K s := vh_Pop_ok XX_fr rfl h
def vh_Push (X : Told) (h0 : AVal) (x1 : AVal) (K : KvP) (s : Heap) : Prop :=
 methK Try.prog X h0 "Push" [x1] (fun v_0 s_1 =>
 methK Try.prog X h0 "Len" [] (fun v_2 s_3 =>
 optK (arithV .sub v_2 (.int .i64 1)) fun v_4 =>
 wpCall Try.prog X 85 [h0, v_4] (fun v_5 s_6 =>
 K (.tup []) s_6) s_3) s_1) s
def vh_Push_ann : Nat → List Nat := fun _ => []
theorem vh_Push_eq (X : Told) (h0 : AVal) (x1 : AVal) (K : KvP) (s : Heap) : wpC Try.prog X vh_Push_ann Try.f74.ntmps none (bodyOf Try.f74) (envOf [h0, x1]) (fun e env s => retK e (resK Try.prog Try.f74.results.toList env (fun vs => K (oneV vs) s) s)) s = vh_Push X h0 x1 K s := by kernel_rfl
theorem vh_Push_ok {X : Told} (hX : FrX X) (hn : X 74 = none) {h0 : AVal} {x1 : AVal} {K : KvP} {s : Heap} (h : vh_Push X h0 x1 K s) : wpCall Try.prog X 74 [h0, x1] K s :=
 wpCall_code hX vh_Push_ann hn Try.func74 (by kernel_rfl : Try.f74.body = some (bodyOf Try.f74)) (by kernel_rfl) ((vh_Push_eq X h0 x1 K s).mpr h)
theorem vh_Push_in {h0 : AVal} {x1 : AVal} {K : KvP} {s : Heap} (h : vh_Push XX h0 x1 K s) : wpCall Try.prog XX 74 [h0, x1] K s := vh_Push_ok XX_fr rfl h
def vc_spf_enabled_api_Link_ (X : Told) (list0 : AVal) (flags1 : AVal) (K : KvP) (s : Heap) : Prop :=
 boxK 22 list0 (fun b_0 s_1 =>
 boxK 23 flags1 (fun b_2 s_3 =>
 K (.fn (.func 86) [] [b_0, b_2]) s_3) s_1) s
def vc_spf_enabled_api_Link__ann : Nat → List Nat := fun _ => []
theorem vc_spf_enabled_api_Link__eq (X : Told) (list0 : AVal) (flags1 : AVal) (K : KvP) (s : Heap) : wpC Try.prog X vc_spf_enabled_api_Link__ann Try.f75.ntmps none (bodyOf Try.f75) (envOf [list0, flags1]) (fun e env s => retK e (resK Try.prog Try.f75.results.toList env (fun vs => K (oneV vs) s) s)) s = vc_spf_enabled_api_Link_ X list0 flags1 K s := by kernel_rfl
theorem vc_spf_enabled_api_Link__ok {X : Told} (hX : FrX X) (hn : X 75 = none) {list0 : AVal} {flags1 : AVal} {K : KvP} {s : Heap} (h : vc_spf_enabled_api_Link_ X list0 flags1 K s) : wpCall Try.prog X 75 [list0, flags1] K s :=
 wpCall_code hX vc_spf_enabled_api_Link__ann hn Try.func75 (by kernel_rfl : Try.f75.body = some (bodyOf Try.f75)) (by kernel_rfl) ((vc_spf_enabled_api_Link__eq X list0 flags1 K s).mpr h)
theorem vc_spf_enabled_api_Link__in {list0 : AVal} {flags1 : AVal} {K : KvP} {s : Heap} (h : vc_spf_enabled_api_Link_ XX list0 flags1 K s) : wpCall Try.prog XX 75 [list0, flags1] K s := vc_spf_enabled_api_Link__ok XX_fr rfl h
def vs_IndexFunc___int_int__l0 (X : Told) (t0 : AVal) (t1 : AVal) (t7 : AVal) (t8 : AVal) (I0 : IvP) (m0 : Nat) (K : KvP) (s : Heap) : Prop :=
 optK (arithV .lss t8 t7) fun v_2 =>
 boolK v_2
 (optK (iaddrS 1 t0 t8) fun v_3 =>
 optK (rd1 s v_3) fun v_4 =>
 funK Try.prog X t1 [v_4] (fun v_5 s_6 =>
 boolK v_5
 (K t8 s_6)
 (optK (arithV .add t8 (.int .i64 1)) fun v_7 =>
 ∃ m', m' < m0 ∧ I0 [v_7] s_6 m')) s)
 (K (.int .i64 (-1)) s)
def vs_IndexFunc___int_int_ (X : Told) (t0 : AVal) (t1 : AVal) (K : KvP) (s : Heap) : Prop :=
 optK (lenOfA t0) fun v_0 =>
 ∃ I0 : IvP, (∃ m, I0 [(.int .i64 0)] s m) ∧ ∀ (f : Env) (s : Heap) (m0 : Nat), I0 [f 8] s m0 →
 vs_IndexFunc___int_int__l0 X t0 t1 (.int .i64 v_0) (f 8) I0 m0 K s
def vs_IndexFunc___int_int__ann : Nat → List Nat := fun k => cond (Nat.beq k 4) [8] ([])
theorem vs_IndexFunc___int_int__eq (X : Told) (t0 : AVal) (t1 : AVal) (K : KvP) (s : Heap) : wpC Try.prog X vs_IndexFunc___int_int__ann Try.f83.ntmps none (bodyOf Try.f83) (envOf [t0, t1]) (fun e env s => retK e (resK Try.prog Try.f83.results.toList env (fun vs => K (oneV vs) s) s)) s = vs_IndexFunc___int_int_ X t0 t1 K s := by kernel_rfl
theorem vs_IndexFunc___int_int__ok {X : Told} (hX : FrX X) (hn : X 83 = none) {t0 : AVal} {t1 : AVal} {K : KvP} {s : Heap} (h : vs_IndexFunc___int_int_ X t0 t1 K s) : wpCall Try.prog X 83 [t0, t1] K s :=
 wpCall_code hX vs_IndexFunc___int_int__ann hn Try.func83 (by kernel_rfl : Try.f83.body = some (bodyOf Try.f83)) (by kernel_rfl) ((vs_IndexFunc___int_int__eq X t0 t1 K s).mpr h)
theorem vs_IndexFunc___int_int__in {t0 : AVal} {t1 : AVal} {K : KvP} {s : Heap} (h : vs_IndexFunc___int_int_ XX t0 t1 K s) : wpCall Try.prog XX 83 [t0, t1] K s := vs_IndexFunc___int_int__ok XX_fr rfl h
def vh_down_j0 (X : Told) (i01 : AVal) (i7 : AVal) (K : KvP) (s : Heap) : Prop :=
 optK (arithV .gtr i7 i01) fun v_0 =>
 K v_0 s
def vh_down_j4 (X : Told) (h0 : AVal) (i01 : AVal) (i7 : AVal) (j9 : AVal) (I1 : IvP) (m1 : Nat) (K : KvP) (s : Heap) : Prop :=
 methK Try.prog X h0 "Less" [j9, i7] (fun v_8 s_9 =>
 optK (unaryA .not v_8) fun v_10 =>
 boolK v_10
 (vh_down_j0 X i01 i7 K s_9)
 (methK Try.prog X h0 "Swap" [i7, j9] (fun v_11 s_12 =>
 ∃ m', m' < m1 ∧ I1 [j9] s_12 m') s_9)) s
def vh_down_j3 (X : Told) (h0 : AVal) (i01 : AVal) (i7 : AVal) (j9 : AVal) (j210 : AVal) (t28 : AVal) (t32 : AVal) (I1 : IvP) (m1 : Nat) (K : KvP) (s : Heap) : Prop :=
 optK (pickV t28 t32 (.bool false)) fun v_7 =>
 boolK v_7
 (vh_down_j4 X h0 i01 i7 j210 I1 m1 K s)
 (vh_down_j4 X h0 i01 i7 j9 I1 m1 K s)
def vh_down_j2 (X : Told) (h0 : AVal) (i01 : AVal) (n2 : AVal) (i7 : AVal) (j18 : AVal) (t18 : AVal) (t20 : AVal) (I1 : IvP) (m1 : Nat) (K : KvP) (s : Heap) : Prop :=
 optK (pickV t18 (.bool true) t20) fun v_4 =>
 boolK v_4
 (vh_down_j0 X i01 i7 K s)
 (optK (arithV .add j18 (.int .i64 1)) fun v_5 =>
 optK (arithV .lss v_5 n2) fun v_6 =>
 boolK v_6
 (methK Try.prog X h0 "Less" [v_5, j18] (fun v_13 s_14 =>
 vh_down_j3 X h0 i01 i7 j18 v_5 v_6 v_13 I1 m1 K s_14) s)
 (vh_down_j3 X h0 i01 i7 j18 v_5 v_6 .undef I1 m1 K s))
def vh_down_l1 (X : Told) (h0 : AVal) (i01 : AVal) (n2 : AVal) (i7 : AVal) (I1 : IvP) (m1 : Nat) (K : KvP) (s : Heap) : Prop :=
 optK (arithV .mul (.int .i64 2) i7) fun v_1 =>
 optK (arithV .add v_1 (.int .i64 1)) fun v_2 =>
 optK (arithV .geq v_2 n2) fun v_3 =>
 boolK v_3
 (vh_down_j2 X h0 i01 n2 i7 v_2 v_3 .undef I1 m1 K s)
 (optK (arithV .lss v_2 (.int .i64 0)) fun v_15 =>
 vh_down_j2 X h0 i01 n2 i7 v_2 v_3 v_15 I1 m1 K s)
def vh_down (X : Told) (h0 : AVal) (i01 : AVal) (n2 : AVal) (K : KvP) (s : Heap) : Prop :=
 ∃ I1 : IvP, (∃ m, I1 [i01] s m) ∧ ∀ (f : Env) (s : Heap) (m1 : Nat), I1 [f 7] s m1 →
 vh_down_l1 X h0 i01 n2 (f 7) I1 m1 K s
def vh_down_ann : Nat → List Nat := fun k => cond (Nat.beq k 4) [7] ([])
theorem vh_down_eq (X : Told) (h0 : AVal) (i01 : AVal) (n2 : AVal) (K : KvP) (s : Heap) : wpC Try.prog X vh_down_ann Try.f84.ntmps none (bodyOf Try.f84) (envOf [h0, i01, n2]) (fun e env s => retK e (resK Try.prog Try.f84.results.toList env (fun vs => K (oneV vs) s) s)) s = vh_down X h0 i01 n2 K s := by kernel_rfl
theorem vh_down_ok {X : Told} (hX : FrX X) (hn : X 84 = none) {h0 : AVal} {i01 : AVal} {n2 : AVal} {K : KvP} {s : Heap} (h : vh_down X h0 i01 n2 K s) : wpCall Try.prog X 84 [h0, i01, n2] K s :=
 wpCall_code hX vh_down_ann hn Try.func84 (by kernel_rfl : Try.f84.body = some (bodyOf Try.f84)) (by kernel_rfl) ((vh_down_eq X h0 i01 n2 K s).mpr h)
theorem vh_down_in {h0 : AVal} {i01 : AVal} {n2 : AVal} {K : KvP} {s : Heap} (h : vh_down XX h0 i01 n2 K s) : wpCall Try.prog XX 84 [h0, i01, n2] K s := vh_down_ok XX_fr rfl h
def vh_up_j1 (X : Told) (h0 : AVal) (j1 : AVal) (i4 : AVal) (t11 : AVal) (t16 : AVal) (I0 : IvP) (m0 : Nat) (K : KvP) (s : Heap) : Prop :=
 optK (pickV t11 (.bool true) t16) fun v_3 =>
 boolK v_3
 (K (.tup []) s)
 (methK Try.prog X h0 "Swap" [i4, j1] (fun v_4 s_5 =>
 ∃ m', m' < m0 ∧ I0 [i4] s_5 m') s)
def vh_up_l0 (X : Told) (h0 : AVal) (j1 : AVal) (I0 : IvP) (m0 : Nat) (K : KvP) (s : Heap) : Prop :=
 optK (arithV .sub j1 (.int .i64 1)) fun v_0 =>
 optK (arithV .quo v_0 (.int .i64 2)) fun v_1 =>
 optK (negB false (eqV 0 false v_1 j1)) fun v_2 =>
 boolK v_2
 (vh_up_j1 X h0 j1 v_1 v_2 .undef I0 m0 K s)
 (methK Try.prog X h0 "Less" [j1, v_1] (fun v_6 s_7 =>
 optK (unaryA .not v_6) fun v_8 =>
 vh_up_j1 X h0 j1 v_1 v_2 v_8 I0 m0 K s_7) s)
def vh_up (X : Told) (h0 : AVal) (j1 : AVal) (K : KvP) (s : Heap) : Prop :=
 ∃ I0 : IvP, (∃ m, I0 [j1] s m) ∧ ∀ (f : Env) (s : Heap) (m0 : Nat), I0 [f 1] s m0 →
 vh_up_l0 X h0 (f 1) I0 m0 K s
def vh_up_ann : Nat → List Nat := fun k => cond (Nat.beq k 0) [1] ([])
theorem vh_up_eq (X : Told) (h0 : AVal) (j1 : AVal) (K : KvP) (s : Heap) : wpC Try.prog X vh_up_ann Try.f85.ntmps none (bodyOf Try.f85) (envOf [h0, j1]) (fun e env s => retK e (resK Try.prog Try.f85.results.toList env (fun vs => K (oneV vs) s) s)) s = vh_up X h0 j1 K s := by kernel_rfl
theorem vh_up_ok {X : Told} (hX : FrX X) (hn : X 85 = none) {h0 : AVal} {j1 : AVal} {K : KvP} {s : Heap} (h : vh_up X h0 j1 K s) : wpCall Try.prog X 85 [h0, j1] K s :=
 wpCall_code hX vh_up_ann hn Try.func85 (by kernel_rfl : Try.f85.body = some (bodyOf Try.f85)) (by kernel_rfl) ((vh_up_eq X h0 j1 K s).mpr h)
theorem vh_up_in {h0 : AVal} {j1 : AVal} {K : KvP} {s : Heap} (h : vh_up XX h0 j1 K s) : wpCall Try.prog XX 85 [h0, j1] K s := vh_up_ok XX_fr rfl h
def vc_spf_enabled_api_Link__1_j1 (X : Told) (t8 : AVal) (t17 : AVal) (t22 : AVal) (I0 : IvP) (m0 : Nat) (K : KvP) (s : Heap) : Prop :=
 optK (pickV t17 t22 (.bool false)) fun v_12 =>
 boolK v_12
 (K (.tup []) s)
 (optK (arithV .add t8 (.int .i64 1)) fun v_13 =>
 ∃ m', m' < m0 ∧ I0 [v_13] s m')
def vc_spf_enabled_api_Link__1_l0 (X : Told) (yield0 : AVal) (t2 : AVal) (t6 : AVal) (t7 : AVal) (t8 : AVal) (I0 : IvP) (m0 : Nat) (K : KvP) (s : Heap) : Prop :=
 optK (arithV .lss t8 t7) fun v_3 =>
 boolK v_3
 (optK (iaddrS 3 t6 t8) fun v_4 =>
 optK (rdN s 3 v_4) fun v_5 =>
 newK 27 [(.int .i64 0), (.int .i64 0), (.int .i64 0)] (fun b_6 s_7 =>
 optK (wrAgg s_7 3 (.ptr b_6 0) (.agg v_5)) fun s_8 =>
 optK (rd1 s_8 t2) fun v_9 =>
 optK (iaddrS 1 v_9 t8) fun v_10 =>
 optK (rd1 s_8 v_10) fun v_11 =>
 boolK v_11
 (optK (rdN s_8 3 (.ptr b_6 0)) fun v_14 =>
 funK Try.prog X yield0 [t8, (.agg v_14)] (fun v_15 s_16 =>
 optK (unaryA .not v_15) fun v_17 =>
 vc_spf_enabled_api_Link__1_j1 X t8 v_11 v_17 I0 m0 K s_16) s_8)
 (vc_spf_enabled_api_Link__1_j1 X t8 v_11 .undef I0 m0 K s_8)) s)
 (K (.tup []) s)
def vc_spf_enabled_api_Link__1 (X : Told) (yield0 : AVal) (t1 : AVal) (t2 : AVal) (K : KvP) (s : Heap) : Prop :=
 optK (rd1 s t1) fun v_0 =>
 optK (lenOfA v_0) fun v_1 =>
 ∃ I0 : IvP, (∃ m, I0 [(.int .i64 0)] s m) ∧ ∀ (f : Env) (s : Heap) (m0 : Nat), I0 [f 8] s m0 →
 vc_spf_enabled_api_Link__1_l0 X yield0 t2 v_0 (.int .i64 v_1) (f 8) I0 m0 K s
def vc_spf_enabled_api_Link__1_ann : Nat → List Nat := fun k => cond (Nat.beq k 2) [8] ([])
theorem vc_spf_enabled_api_Link__1_eq (X : Told) (yield0 : AVal) (t1 : AVal) (t2 : AVal) (K : KvP) (s : Heap) : wpC Try.prog X vc_spf_enabled_api_Link__1_ann Try.f86.ntmps none (bodyOf Try.f86) (envOf [yield0, t1, t2]) (fun e env s => retK e (resK Try.prog Try.f86.results.toList env (fun vs => K (oneV vs) s) s)) s = vc_spf_enabled_api_Link__1 X yield0 t1 t2 K s := by kernel_rfl
theorem vc_spf_enabled_api_Link__1_ok {X : Told} (hX : FrX X) (hn : X 86 = none) {yield0 : AVal} {t1 : AVal} {t2 : AVal} {K : KvP} {s : Heap} (h : vc_spf_enabled_api_Link__1 X yield0 t1 t2 K s) : wpCall Try.prog X 86 [yield0, t1, t2] K s :=
 wpCall_code hX vc_spf_enabled_api_Link__1_ann hn Try.func86 (by kernel_rfl : Try.f86.body = some (bodyOf Try.f86)) (by kernel_rfl) ((vc_spf_enabled_api_Link__1_eq X yield0 t1 t2 K s).mpr h)
theorem vc_spf_enabled_api_Link__1_in {yield0 : AVal} {t1 : AVal} {t2 : AVal} {K : KvP} {s : Heap} (h : vc_spf_enabled_api_Link__1 XX yield0 t1 t2 K s) : wpCall Try.prog XX 86 [yield0, t1, t2] K s := vc_spf_enabled_api_Link__1_ok XX_fr rfl h
def vc_spf_queue_Less (X : Told) (q0 : AVal) (i1 : AVal) (j2 : AVal) (K : KvP) (s : Heap) : Prop :=
 optK (iaddrS 2 q0 i1) fun v_0 =>
 optK (addOff 1 v_0) fun v_1 =>
 optK (rd1 s v_1) fun v_2 =>
 optK (iaddrS 2 q0 j2) fun v_3 =>
 optK (addOff 1 v_3) fun v_4 =>
 optK (rd1 s v_4) fun v_5 =>
 optK (arithV .lss v_2 v_5) fun v_6 =>
 K v_6 s
def vc_spf_queue_Less_ann : Nat → List Nat := fun _ => []
theorem vc_spf_queue_Less_eq (X : Told) (q0 : AVal) (i1 : AVal) (j2 : AVal) (K : KvP) (s : Heap) : wpC Try.prog X vc_spf_queue_Less_ann Try.f117.ntmps none (bodyOf Try.f117) (envOf [q0, i1, j2]) (fun e env s => retK e (resK Try.prog Try.f117.results.toList env (fun vs => K (oneV vs) s) s)) s = vc_spf_queue_Less X q0 i1 j2 K s := by kernel_rfl
theorem vc_spf_queue_Less_ok {X : Told} (hX : FrX X) (hn : X 117 = none) {q0 : AVal} {i1 : AVal} {j2 : AVal} {K : KvP} {s : Heap} (h : vc_spf_queue_Less X q0 i1 j2 K s) : wpCall Try.prog X 117 [q0, i1, j2] K s :=
 wpCall_code hX vc_spf_queue_Less_ann hn Try.func117 (by kernel_rfl : Try.f117.body = some (bodyOf Try.f117)) (by kernel_rfl) ((vc_spf_queue_Less_eq X q0 i1 j2 K s).mpr h)
theorem vc_spf_queue_Less_in {q0 : AVal} {i1 : AVal} {j2 : AVal} {K : KvP} {s : Heap} (h : vc_spf_queue_Less XX q0 i1 j2 K s) : wpCall Try.prog XX 117 [q0, i1, j2] K s := vc_spf_queue_Less_ok XX_fr rfl h
def vc_spf_queue_Pop (X : Told) (q0 : AVal) (K : KvP) (s : Heap) : Prop :=
 optK (nilCheckA q0) fun v_0 =>
 optK (rd1 s v_0) fun v_1 =>
 optK (lenOfA v_1) fun v_2 =>
 optK (arithV .sub (.int .i64 v_2) (.int .i64 1)) fun v_4 =>
 optK (nilCheckA q0) fun v_5 =>
 optK (rd1 s v_5) fun v_6 =>
 optK (iaddrS 2 v_6 v_4) fun v_7 =>
 optK (rdN s 2 v_7) fun v_8 =>
 newK 132 [(.int .i64 0), (.int .i64 0)] (fun b_9 s_10 =>
 optK (wrAgg s_10 2 (.ptr b_9 0) (.agg v_8)) fun s_11 =>
 optK (nilCheckA q0) fun v_12 =>
 optK (rd1 s_11 v_12) fun v_13 =>
 optK (sliceS 2 v_13 none (some v_4) none) fun v_14 =>
 optK (nilCheckA q0) fun v_15 =>
 optK (wr1 s_11 v_15 v_14) fun s_16 =>
 optK (rdN s_16 2 (.ptr b_9 0)) fun v_17 =>
 K (.ifc 132 (.agg v_17)) s_16) s
def vc_spf_queue_Pop_ann : Nat → List Nat := fun _ => []
theorem vc_spf_queue_Pop_eq (X : Told) (q0 : AVal) (K : KvP) (s : Heap) : wpC Try.prog X vc_spf_queue_Pop_ann Try.f118.ntmps none (bodyOf Try.f118) (envOf [q0]) (fun e env s => retK e (resK Try.prog Try.f118.results.toList env (fun vs => K (oneV vs) s) s)) s = vc_spf_queue_Pop X q0 K s := by kernel_rfl
theorem vc_spf_queue_Pop_ok {X : Told} (hX : FrX X) (hn : X 118 = none) {q0 : AVal} {K : KvP} {s : Heap} (h : vc_spf_queue_Pop X q0 K s) : wpCall Try.prog X 118 [q0] K s :=
 wpCall_code hX vc_spf_queue_Pop_ann hn Try.func118 (by kernel_rfl : Try.f118.body = some (bodyOf Try.f118)) (by kernel_rfl) ((vc_spf_queue_Pop_eq X q0 K s).mpr h)
theorem vc_spf_queue_Pop_in {q0 : AVal} {K : KvP} {s : Heap} (h : vc_spf_queue_Pop XX q0 K s) : wpCall Try.prog XX 118 [q0] K s := vc_spf_queue_Pop_ok XX_fr rfl h
def vc_spf_queue_Push (X : Told) (q0 : AVal) (x1 : AVal) (K : KvP) (s : Heap) : Prop :=
 optK (tassV 132 (some (.agg [(.int .i64 0), (.int .i64 0)])) true x1) fun v_0 =>
 optK (extractA v_0 0) fun v_1 =>
 optK (extractA v_0 1) fun v_2 =>
 newK 132 [(.int .i64 0), (.int .i64 0)] (fun b_3 s_4 =>
 optK (wrAgg s_4 2 (.ptr b_3 0) v_1) fun s_5 =>
 boolK v_2
 (optK (nilCheckA q0) fun v_6 =>
 optK (rd1 s_5 v_6) fun v_7 =>
 optK (rdN s_5 2 (.ptr b_3 0)) fun v_8 =>
 optK (fillR (repl 1 [(.int .i64 0), (.int .i64 0)]) [(0, 2, (.agg v_8))]) fun c_9 => allOne c_9 = true ∧ newK 132 c_9 (fun b_10 s_11 =>
 (∀ b, s_5 b ≠ none → s_5 b = none → s_11 b = none) →
 appK 132 2 v_7 (.slc b_10 0 1 (some 1) 2) (fun v_12 s_13 =>
 optK (nilCheckA q0) fun v_14 =>
 optK (wr1 s_13 v_14 v_12) fun s_15 =>
 K (.tup []) s_15) (add s_5 s_11)) (frz s_5))
 (K (.tup []) s_5)) s
def vc_spf_queue_Push_ann : Nat → List Nat := fun _ => []
theorem vc_spf_queue_Push_eq (X : Told) (q0 : AVal) (x1 : AVal) (K : KvP) (s : Heap) : wpC Try.prog X vc_spf_queue_Push_ann Try.f119.ntmps none (bodyOf Try.f119) (envOf [q0, x1]) (fun e env s => retK e (resK Try.prog Try.f119.results.toList env (fun vs => K (oneV vs) s) s)) s = vc_spf_queue_Push X q0 x1 K s := by kernel_rfl
theorem vc_spf_queue_Push_ok {X : Told} (hX : FrX X) (hn : X 119 = none) {q0 : AVal} {x1 : AVal} {K : KvP} {s : Heap} (h : vc_spf_queue_Push X q0 x1 K s) : wpCall Try.prog X 119 [q0, x1] K s :=
 wpCall_code hX vc_spf_queue_Push_ann hn Try.func119 (by kernel_rfl : Try.f119.body = some (bodyOf Try.f119)) (by kernel_rfl) ((vc_spf_queue_Push_eq X q0 x1 K s).mpr h)
theorem vc_spf_queue_Push_in {q0 : AVal} {x1 : AVal} {K : KvP} {s : Heap} (h : vc_spf_queue_Push XX q0 x1 K s) : wpCall Try.prog XX 119 [q0, x1] K s := vc_spf_queue_Push_ok XX_fr rfl h
def vc_spf_queue_Swap (X : Told) (q0 : AVal) (i1 : AVal) (j2 : AVal) (K : KvP) (s : Heap) : Prop :=
 optK (iaddrS 2 q0 j2) fun v_0 =>
 optK (rdN s 2 v_0) fun v_1 =>
 optK (iaddrS 2 q0 i1) fun v_2 =>
 optK (rdN s 2 v_2) fun v_3 =>
 optK (iaddrS 2 q0 i1) fun v_4 =>
 optK (wrAgg s 2 v_4 (.agg v_1)) fun s_5 =>
 optK (iaddrS 2 q0 j2) fun v_6 =>
 optK (wrAgg s_5 2 v_6 (.agg v_3)) fun s_7 =>
 K (.tup []) s_7
def vc_spf_queue_Swap_ann : Nat → List Nat := fun _ => []
theorem vc_spf_queue_Swap_eq (X : Told) (q0 : AVal) (i1 : AVal) (j2 : AVal) (K : KvP) (s : Heap) : wpC Try.prog X vc_spf_queue_Swap_ann Try.f120.ntmps none (bodyOf Try.f120) (envOf [q0, i1, j2]) (fun e env s => retK e (resK Try.prog Try.f120.results.toList env (fun vs => K (oneV vs) s) s)) s = vc_spf_queue_Swap X q0 i1 j2 K s := by kernel_rfl
theorem vc_spf_queue_Swap_ok {X : Told} (hX : FrX X) (hn : X 120 = none) {q0 : AVal} {i1 : AVal} {j2 : AVal} {K : KvP} {s : Heap} (h : vc_spf_queue_Swap X q0 i1 j2 K s) : wpCall Try.prog X 120 [q0, i1, j2] K s :=
 wpCall_code hX vc_spf_queue_Swap_ann hn Try.func120 (by kernel_rfl : Try.f120.body = some (bodyOf Try.f120)) (by kernel_rfl) ((vc_spf_queue_Swap_eq X q0 i1 j2 K s).mpr h)
theorem vc_spf_queue_Swap_in {q0 : AVal} {i1 : AVal} {j2 : AVal} {K : KvP} {s : Heap} (h : vc_spf_queue_Swap XX q0 i1 j2 K s) : wpCall Try.prog XX 120 [q0, i1, j2] K s := vc_spf_queue_Swap_ok XX_fr rfl h
end Go.AM
set_option linter.unusedVariables false
namespace Go.AM
open Go Go.Proofs
set_option maxRecDepth 100000
/-- leafmesh/spf.edges (49) -/
def vw_spf_edges (X : Told) (nodes0 : AVal) (links1 : AVal) (up2 : AVal) (K : AVal → Heap → Prop) (s : Heap) : Prop :=
  optK (nat? nodes0) fun n_0 => optK (nat? nodes0) fun n_1 => (n_0 ≤ n_1 ∧ n_1 ≤ 4294967296) ∧ newK 103 (repl n_1 [.nilslc]) (fun b_2 s_3 =>
  newK 101 [.nilslc] (fun b_4 s_5 =>
  optK (wr1 s_5 (.ptr b_4 0) (.slc b_2 0 n_0 (some n_1) 1)) fun s_6 =>
  wpCall Try.prog X 75 [links1, up2] (fun v_7 s_8 =>
  rngK Try.prog X 52 none v_7 [(7, (.ptr b_4 0))] [15, 16] (rfAs 0 (bodyOf Try.f49)) (rfBo 0 (bodyOf Try.f49)) (fun s_9 =>
    optK (rd1 s_9 (.ptr b_4 0)) fun v_11 =>
    K v_11 s_9)
   (fun s_10 =>
    K .nilslc s_10)
   (fun id s_12 =>
    cond (Nat.beq id 0)
     (optK (rd1 s_12 (.ptr b_4 0)) fun v_13 =>
      K v_13 s_12)
     (False)) s_8) s_6) s_3) s
def vw_spf_edges_ann : Nat → List Nat := fun k => cond (Nat.beq k 11) [7] (cond (Nat.beq k 1000017) [15] (cond (Nat.beq k 1000034) [15] ([])))
theorem vw_spf_edges_eq (X : Told) (nodes0 : AVal) (links1 : AVal) (up2 : AVal) (K : AVal → Heap → Prop) (s : Heap) : wpC Try.prog X vw_spf_edges_ann Try.f49.ntmps none (bodyOf Try.f49) (envOf [nodes0, links1, up2]) (fun e env s => retK e (resK Try.prog Try.f49.results.toList env (fun vs => K (oneV vs) s) s)) s = vw_spf_edges X nodes0 links1 up2 K s := by kernel_rfl
theorem vw_spf_edges_ok {X : Told} (hX : FrX X) (hn : X 49 = none) {nodes0 : AVal} {links1 : AVal} {up2 : AVal} {K : AVal → Heap → Prop} {s : Heap} (h : vw_spf_edges X nodes0 links1 up2 K s) : wpCall Try.prog X 49 [nodes0, links1, up2] K s :=
  wpCall_code hX vw_spf_edges_ann hn Try.func49 (by kernel_rfl : Try.f49.body = some (bodyOf Try.f49)) (by kernel_rfl) ((vw_spf_edges_eq X nodes0 links1 up2 K s).mpr h)
theorem vw_spf_edges_in {nodes0 : AVal} {links1 : AVal} {up2 : AVal} {K : AVal → Heap → Prop} {s : Heap} (h : vw_spf_edges XX nodes0 links1 up2 K s) : wpCall Try.prog XX 49 [nodes0, links1, up2] K s := vw_spf_edges_ok XX_fr rfl h
def vw_spf_edges_r0 (X : Told) (l : Nat) (all7 : AVal) (t15 : AVal) (t16 : AVal) (E : AExit → Heap → Prop) (s : Heap) : Prop :=
  newK 27 [(.int .i64 0), (.int .i64 0), (.int .i64 0)] (fun b_0 s_1 =>
  optK (wrAgg s_1 3 (.ptr b_0 0) t16) fun s_2 =>
  AExit.nrm = .nrm ∧ beginK l (fun s_3 =>
  optK (rd1 s_3 all7) fun v_4 =>
  optK (addOff 0 (.ptr b_0 0)) fun v_5 =>
  optK (rd1 s_3 v_5) fun v_6 =>
  optK (rd1 s_3 all7) fun v_7 =>
  optK (addOff 0 (.ptr b_0 0)) fun v_8 =>
  optK (rd1 s_3 v_8) fun v_9 =>
  optK (iaddrS 1 v_7 v_9) fun v_10 =>
  optK (rd1 s_3 v_10) fun v_11 =>
  optK (addOff 1 (.ptr b_0 0)) fun v_12 =>
  optK (rd1 s_3 v_12) fun v_13 =>
  optK (addOff 2 (.ptr b_0 0)) fun v_14 =>
  optK (rd1 s_3 v_14) fun v_15 =>
  optK (fillR [(.int .i64 0), (.int .i64 0), (.int .i64 0)] [(0, 1, t15), (1, 1, v_13), (2, 1, v_15)]) fun c_16 =>
  optK (fillR (repl 1 [(.int .i64 0), (.int .i64 0), (.int .i64 0)]) [(0, 3, (.agg c_16))]) fun c_17 => allOne c_17 = true ∧ newK 106 c_17 (fun b_18 s_19 =>
  (∀ b, s_3 b ≠ none → s_3 b = none → s_19 b = none) →
  ∃ h_20 : Heap, (∀ b, h_20 b ≠ none → (add s_3 s_19) b ≠ none) ∧
  appK 106 3 v_11 (.slc b_18 0 1 (some 1) 3) (fun v_21 s_22 =>
  (∀ b, (add s_3 s_19) b ≠ none → (cutH [((hdel s_3 (blkOf all7)), s_3), ((hdel s_3 (blkOf v_5)), s_3)] (minus (add s_3 s_19) h_20)) b = none → s_22 b = none) →
  optK (iaddrS 1 v_4 v_6) fun v_23 =>
  optK (wr1 (add s_22 (rest (add s_3 s_19) (cutH [((hdel s_3 (blkOf all7)), s_3), ((hdel s_3 (blkOf v_5)), s_3)] (minus (add s_3 s_19) h_20)))) v_23 v_21) fun s_24 =>
  optK (rd1 s_24 all7) fun v_25 =>
  optK (addOff 1 (.ptr b_0 0)) fun v_26 =>
  optK (rd1 s_24 v_26) fun v_27 =>
  optK (rd1 s_24 all7) fun v_28 =>
  optK (addOff 1 (.ptr b_0 0)) fun v_29 =>
  optK (rd1 s_24 v_29) fun v_30 =>
  optK (iaddrS 1 v_28 v_30) fun v_31 =>
  optK (rd1 s_24 v_31) fun v_32 =>
  optK (addOff 0 (.ptr b_0 0)) fun v_33 =>
  optK (rd1 s_24 v_33) fun v_34 =>
  optK (addOff 2 (.ptr b_0 0)) fun v_35 =>
  optK (rd1 s_24 v_35) fun v_36 =>
  optK (fillR [(.int .i64 0), (.int .i64 0), (.int .i64 0)] [(0, 1, t15), (1, 1, v_34), (2, 1, v_36)]) fun c_37 =>
  optK (fillR (repl 1 [(.int .i64 0), (.int .i64 0), (.int .i64 0)]) [(0, 3, (.agg c_37))]) fun c_38 => allOne c_38 = true ∧ newK 106 c_38 (fun b_39 s_40 =>
  (∀ b, s_24 b ≠ none → s_24 b = none → s_40 b = none) →
  ∃ h_41 : Heap, (∀ b, h_41 b ≠ none → (add s_24 s_40) b ≠ none) ∧
  appK 106 3 v_32 (.slc b_39 0 1 (some 1) 3) (fun v_42 s_43 =>
  (∀ b, (add s_24 s_40) b ≠ none → (cutH [((hdel s_24 (blkOf all7)), s_24), ((hdel s_24 (blkOf v_26)), s_24)] (minus (add s_24 s_40) h_41)) b = none → s_43 b = none) →
  optK (iaddrS 1 v_25 v_27) fun v_44 =>
  optK (wr1 (add s_43 (rest (add s_24 s_40) (cutH [((hdel s_24 (blkOf all7)), s_24), ((hdel s_24 (blkOf v_26)), s_24)] (minus (add s_24 s_40) h_41)))) v_44 v_42) fun s_45 =>
  E .nrm s_45) (cutH [((hdel s_24 (blkOf all7)), s_24), ((hdel s_24 (blkOf v_26)), s_24)] (minus (add s_24 s_40) h_41))) (frz s_24)) (cutH [((hdel s_3 (blkOf all7)), s_3), ((hdel s_3 (blkOf v_5)), s_3)] (minus (add s_3 s_19) h_20))) (frz s_3)) s_2) s
theorem vw_spf_edges_r0_eq (X : Told) (l : Nat) (f : Env) (t15 : AVal) (t16 : AVal) (E : AExit → Heap → Prop) (s : Heap) : wpC Try.prog X vw_spf_edges_ann Try.f49.ntmps (some l) (rfAs 0 (bodyOf Try.f49)) (setE f [15, 16] [t15, t16]) (fun e env s => e = .nrm ∧ beginK l (fun s => wpC Try.prog X vw_spf_edges_ann Try.f49.ntmps (some l) (rfBo 0 (bodyOf Try.f49)) env (fun e _ s => E e s) s) s) s = vw_spf_edges_r0 X l (f 7) t15 t16 E s := by kernel_rfl
theorem vw_spf_edges_r0_in {l : Nat} {t : Bool} {st : LoopState} {pd : Option Code} {d : Nat} {all7 : AVal} {t15 : AVal} {t16 : AVal} {K : AVal → Heap → Prop} {s : Heap} (hs : s l = some (t, .loop st pd 52 [(7, all7)] [15, 16] (rfAs 0 (bodyOf Try.f49)) (rfBo 0 (bodyOf Try.f49)) d)) (h : vw_spf_edges_r0 XX l all7 t15 t16 (fun e s => endK l e K s) s) : wpRound Try.prog XX l [t15, t16] K s :=
  wpRound_ok XX_fr vw_spf_edges_ann hs rfl rfl fun f hf => by
    refine (vw_spf_edges_r0_eq XX l f t15 t16 (fun e s => endK l e K s) s).mpr ?_
    rw [show f 7 = all7 from hf (7, all7) (by simp)]
    exact h
end Go.AM
set_option linter.unusedVariables false
namespace Go.AM
open Go Go.Proofs
set_option maxRecDepth 100000
def vc_spread_New_j0 (X : Told) (buckets0 : AVal) (t6 : AVal) (t8 : AVal) (K : KvP) (s : Heap) : Prop :=
 optK (pickV t6 (.bool true) t8) fun v_1 =>
 boolK v_1
 (K (.tup [.nilptr, (.int .i64 2)]) s)
 (optK (nat? buckets0) fun n_2 => optK (nat? buckets0) fun n_3 => (n_2 ≤ n_3 ∧ n_3 ≤ 4294967296) ∧ newK 3 (repl n_3 [(.int .i64 0)]) (fun b_4 s_5 =>
 optK (fillR [.nilslc, .nilslc] [(0, 1, (.slc b_4 0 n_2 (some n_3) 1))]) fun c_6 =>
 boxK 119 (.agg c_6) (fun b_7 s_8 =>
 K (.tup [b_7, (.int .i64 0)]) s_8) s_5) s)
def vc_spread_New (X : Told) (buckets0 : AVal) (K : KvP) (s : Heap) : Prop :=
 optK (arithV .lss buckets0 (.int .i64 1)) fun v_0 =>
 boolK v_0
 (vc_spread_New_j0 X buckets0 v_0 .undef K s)
 (optK (arithV .gtr buckets0 (.int .i64 256)) fun v_9 =>
 vc_spread_New_j0 X buckets0 v_0 v_9 K s)
def vc_spread_New_ann : Nat → List Nat := fun _ => []
theorem vc_spread_New_eq (X : Told) (buckets0 : AVal) (K : KvP) (s : Heap) : wpC Try.prog X vc_spread_New_ann Try.f62.ntmps none (bodyOf Try.f62) (envOf [buckets0]) (fun e env s => retK e (resK Try.prog Try.f62.results.toList env (fun vs => K (oneV vs) s) s)) s = vc_spread_New X buckets0 K s := by kernel_rfl
theorem vc_spread_New_ok {X : Told} (hX : FrX X) (hn : X 62 = none) {buckets0 : AVal} {K : KvP} {s : Heap} (h : vc_spread_New X buckets0 K s) : wpCall Try.prog X 62 [buckets0] K s :=
 wpCall_code hX vc_spread_New_ann hn Try.func62 (by kernel_rfl : Try.f62.body = some (bodyOf Try.f62)) (by kernel_rfl) ((vc_spread_New_eq X buckets0 K s).mpr h)
theorem vc_spread_New_in {buckets0 : AVal} {K : KvP} {s : Heap} (h : vc_spread_New XX buckets0 K s) : wpCall Try.prog XX 62 [buckets0] K s := vc_spread_New_ok XX_fr rfl h
def vc_spread_Wheel_Pick_j0 (X : Told) (w0 : AVal) (hash1 : AVal) (t9 : AVal) (t15 : AVal) (K : KvP) (s : Heap) : Prop :=
 optK (pickV t9 (.bool true) t15) fun v_3 =>
 boolK v_3
 (K (.tup [(.int .i64 0), (.bool false)]) s)
 (optK (nilCheckA w0) fun v_4 =>
 optK (addOff 0 v_4) fun v_5 =>
 optK (rd1 s v_5) fun v_6 =>
 optK (nilCheckA w0) fun v_7 =>
 optK (addOff 0 v_7) fun v_8 =>
 optK (rd1 s v_8) fun v_9 =>
 optK (lenOfA v_9) fun v_10 =>
 optK (convI .u64 (.int .i64 v_10)) fun v_12 =>
 optK (arithV .rem hash1 v_12) fun v_13 =>
 optK (iaddrS 1 v_6 v_13) fun v_14 =>
 optK (rd1 s v_14) fun v_15 =>
 optK (arithV .sub v_15 (.int .i64 1)) fun v_16 =>
 K (.tup [v_16, (.bool true)]) s)
def vc_spread_Wheel_Pick (X : Told) (w0 : AVal) (hash1 : AVal) (K : KvP) (s : Heap) : Prop :=
 wpCall Try.prog X 63 [w0] (fun v_0 s_1 =>
 optK (unaryA .not v_0) fun v_2 =>
 boolK v_2
 (vc_spread_Wheel_Pick_j0 X w0 hash1 v_2 .undef K s_1)
 (optK (nilCheckA w0) fun v_17 =>
 optK (addOff 1 v_17) fun v_18 =>
 optK (rd1 s_1 v_18) fun v_19 =>
 optK (lenOfA v_19) fun v_20 =>
 optK (negB false (eqV 0 true (.int .i64 v_20) (.int .i64 0))) fun v_22 =>
 vc_spread_Wheel_Pick_j0 X w0 hash1 v_2 v_22 K s_1)) s
def vc_spread_Wheel_Pick_ann : Nat → List Nat := fun _ => []
theorem vc_spread_Wheel_Pick_eq (X : Told) (w0 : AVal) (hash1 : AVal) (K : KvP) (s : Heap) : wpC Try.prog X vc_spread_Wheel_Pick_ann Try.f76.ntmps none (bodyOf Try.f76) (envOf [w0, hash1]) (fun e env s => retK e (resK Try.prog Try.f76.results.toList env (fun vs => K (oneV vs) s) s)) s = vc_spread_Wheel_Pick X w0 hash1 K s := by kernel_rfl
theorem vc_spread_Wheel_Pick_ok {X : Told} (hX : FrX X) (hn : X 76 = none) {w0 : AVal} {hash1 : AVal} {K : KvP} {s : Heap} (h : vc_spread_Wheel_Pick X w0 hash1 K s) : wpCall Try.prog X 76 [w0, hash1] K s :=
 wpCall_code hX vc_spread_Wheel_Pick_ann hn Try.func76 (by kernel_rfl : Try.f76.body = some (bodyOf Try.f76)) (by kernel_rfl) ((vc_spread_Wheel_Pick_eq X w0 hash1 K s).mpr h)
theorem vc_spread_Wheel_Pick_in {w0 : AVal} {hash1 : AVal} {K : KvP} {s : Heap} (h : vc_spread_Wheel_Pick XX w0 hash1 K s) : wpCall Try.prog XX 76 [w0, hash1] K s := vc_spread_Wheel_Pick_ok XX_fr rfl h
def vc_spread_Wheel_Set (X : Told) (w0 : AVal) (next1 : AVal) (K : KvP) (s : Heap) : Prop :=
 wpCall Try.prog X 63 [w0] (fun v_0 s_1 =>
 optK (unaryA .not v_0) fun v_2 =>
 boolK v_2
 (K (.int .i64 1) s_1)
 (wpCall Try.prog X 64 [w0, next1] (fun v_3 s_4 =>
 optK (negB true (eqV 0 true v_3 (.int .i64 0))) fun v_5 =>
 boolK v_5
 (K v_3 s_4)
 (wpCall Try.prog X 46 [next1] (fun v_6 s_7 =>
 optK (nilCheckA w0) fun v_8 =>
 optK (addOff 1 v_8) fun v_9 =>
 optK (wr1 s_7 v_9 v_6) fun s_10 =>
 optK (lenOfA next1) fun v_11 =>
 optK (negB false (eqV 0 true (.int .i64 v_11) (.int .i64 0))) fun v_13 =>
 boolK v_13
 (optK (nilCheckA w0) fun v_14 =>
 optK (addOff 0 v_14) fun v_15 =>
 optK (rd1 s_10 v_15) fun v_16 =>
 clearK [(.int .i64 0)] 1 v_16 (fun v_17 s_18 =>
 K (.int .i64 0) s_18) s_10)
 (wpCall Try.prog X 65 [w0] (fun v_19 s_20 =>
 newK 122 [.nilptr] (fun b_21 s_22 =>
 optK (wrAgg s_22 1 (.ptr b_21 0) v_19) fun s_23 =>
 optK (rdN s_23 1 (.ptr b_21 0)) fun v_24 =>
 wpCall Try.prog X 66 [w0, (.agg v_24)] (fun v_25 s_26 =>
 optK (rdN s_26 1 (.ptr b_21 0)) fun v_27 =>
 wpCall Try.prog X 67 [w0, (.agg v_27)] (fun v_28 s_29 =>
 K (.int .i64 0) s_29) s_26) s_23) s_20) s_10)) s_4)) s_1)) s
def vc_spread_Wheel_Set_ann : Nat → List Nat := fun _ => []
theorem vc_spread_Wheel_Set_eq (X : Told) (w0 : AVal) (next1 : AVal) (K : KvP) (s : Heap) : wpC Try.prog X vc_spread_Wheel_Set_ann Try.f44.ntmps none (bodyOf Try.f44) (envOf [w0, next1]) (fun e env s => retK e (resK Try.prog Try.f44.results.toList env (fun vs => K (oneV vs) s) s)) s = vc_spread_Wheel_Set X w0 next1 K s := by kernel_rfl
theorem vc_spread_Wheel_Set_ok {X : Told} (hX : FrX X) (hn : X 44 = none) {w0 : AVal} {next1 : AVal} {K : KvP} {s : Heap} (h : vc_spread_Wheel_Set X w0 next1 K s) : wpCall Try.prog X 44 [w0, next1] K s :=
 wpCall_code hX vc_spread_Wheel_Set_ann hn Try.func44 (by kernel_rfl : Try.f44.body = some (bodyOf Try.f44)) (by kernel_rfl) ((vc_spread_Wheel_Set_eq X w0 next1 K s).mpr h)
theorem vc_spread_Wheel_Set_in {w0 : AVal} {next1 : AVal} {K : KvP} {s : Heap} (h : vc_spread_Wheel_Set XX w0 next1 K s) : wpCall Try.prog XX 44 [w0, next1] K s := vc_spread_Wheel_Set_ok XX_fr rfl h
def vc_spread_Wheel_valid_j0 (X : Told) (t5 : AVal) (t11 : AVal) (K : KvP) (s : Heap) : Prop :=
 optK (pickV t5 t11 (.bool false)) fun v_1 =>
 K v_1 s
def vc_spread_Wheel_valid (X : Told) (w0 : AVal) (K : KvP) (s : Heap) : Prop :=
 optK (negB true (eqV 3 true w0 .nilptr)) fun v_0 =>
 boolK v_0
 (optK (nilCheckA w0) fun v_2 =>
 optK (addOff 0 v_2) fun v_3 =>
 optK (rd1 s v_3) fun v_4 =>
 optK (lenOfA v_4) fun v_5 =>
 optK (arithV .gtr (.int .i64 v_5) (.int .i64 0)) fun v_7 =>
 vc_spread_Wheel_valid_j0 X v_0 v_7 K s)
 (vc_spread_Wheel_valid_j0 X v_0 .undef K s)
def vc_spread_Wheel_valid_ann : Nat → List Nat := fun _ => []
theorem vc_spread_Wheel_valid_eq (X : Told) (w0 : AVal) (K : KvP) (s : Heap) : wpC Try.prog X vc_spread_Wheel_valid_ann Try.f63.ntmps none (bodyOf Try.f63) (envOf [w0]) (fun e env s => retK e (resK Try.prog Try.f63.results.toList env (fun vs => K (oneV vs) s) s)) s = vc_spread_Wheel_valid X w0 K s := by kernel_rfl
theorem vc_spread_Wheel_valid_ok {X : Told} (hX : FrX X) (hn : X 63 = none) {w0 : AVal} {K : KvP} {s : Heap} (h : vc_spread_Wheel_valid X w0 K s) : wpCall Try.prog X 63 [w0] K s :=
 wpCall_code hX vc_spread_Wheel_valid_ann hn Try.func63 (by kernel_rfl : Try.f63.body = some (bodyOf Try.f63)) (by kernel_rfl) ((vc_spread_Wheel_valid_eq X w0 K s).mpr h)
theorem vc_spread_Wheel_valid_in {w0 : AVal} {K : KvP} {s : Heap} (h : vc_spread_Wheel_valid XX w0 K s) : wpCall Try.prog XX 63 [w0] K s := vc_spread_Wheel_valid_ok XX_fr rfl h
def vc_spread_Wheel_check_j2 (X : Told) (t9 : AVal) (t22 : AVal) (t29 : AVal) (I0 : IvP) (m0 : Nat) (K : KvP) (s : Heap) : Prop :=
 optK (pickV t22 t29 (.bool false)) fun v_8 =>
 boolK v_8
 (K (.int .i64 10) s)
 (optK (arithV .add t9 (.int .i64 1)) fun v_9 =>
 ∃ m', m' < m0 ∧ I0 [v_9] s m')
def vc_spread_Wheel_check_j1 (X : Told) (next1 : AVal) (i5 : AVal) (t6 : AVal) (t9 : AVal) (t16 : AVal) (t18 : AVal) (I0 : IvP) (m0 : Nat) (K : KvP) (s : Heap) : Prop :=
 optK (pickV t16 (.bool true) t18) fun v_6 =>
 boolK v_6
 (K (.int .i64 2) s)
 (optK (arithV .gtr i5 (.int .i64 0)) fun v_7 =>
 boolK v_7
 (optK (arithV .sub i5 (.int .i64 1)) fun v_10 =>
 optK (iaddrS 1 next1 v_10) fun v_11 =>
 optK (rd1 s v_11) fun v_12 =>
 optK (arithV .leq t6 v_12) fun v_13 =>
 vc_spread_Wheel_check_j2 X t9 v_7 v_13 I0 m0 K s)
 (vc_spread_Wheel_check_j2 X t9 v_7 .undef I0 m0 K s))
def vc_spread_Wheel_check_l0 (X : Told) (w0 : AVal) (next1 : AVal) (t7 : AVal) (t8 : AVal) (t9 : AVal) (I0 : IvP) (m0 : Nat) (K : KvP) (s : Heap) : Prop :=
 optK (arithV .lss t9 t8) fun v_2 =>
 boolK v_2
 (optK (iaddrS 1 t7 t9) fun v_3 =>
 optK (rd1 s v_3) fun v_4 =>
 optK (arithV .lss v_4 (.int .i64 0)) fun v_5 =>
 boolK v_5
 (vc_spread_Wheel_check_j1 X next1 t9 v_4 t9 v_5 .undef I0 m0 K s)
 (optK (arithV .geq v_4 (.int .i64 128)) fun v_14 =>
 vc_spread_Wheel_check_j1 X next1 t9 v_4 t9 v_5 v_14 I0 m0 K s))
 (optK (lenOfA next1) fun v_15 =>
 optK (nilCheckA w0) fun v_17 =>
 optK (addOff 0 v_17) fun v_18 =>
 optK (rd1 s v_18) fun v_19 =>
 optK (lenOfA v_19) fun v_20 =>
 optK (arithV .gtr (.int .i64 v_15) (.int .i64 v_20)) fun v_22 =>
 boolK v_22
 (K (.int .i64 7) s)
 (K (.int .i64 0) s))
def vc_spread_Wheel_check (X : Told) (w0 : AVal) (next1 : AVal) (K : KvP) (s : Heap) : Prop :=
 optK (lenOfA next1) fun v_0 =>
 ∃ I0 : IvP, (∃ m, I0 [(.int .i64 0)] s m) ∧ ∀ (f : Env) (s : Heap) (m0 : Nat), I0 [f 9] s m0 →
 vc_spread_Wheel_check_l0 X w0 next1 next1 (.int .i64 v_0) (f 9) I0 m0 K s
def vc_spread_Wheel_check_ann : Nat → List Nat := fun k => cond (Nat.beq k 4) [9] ([])
theorem vc_spread_Wheel_check_eq (X : Told) (w0 : AVal) (next1 : AVal) (K : KvP) (s : Heap) : wpC Try.prog X vc_spread_Wheel_check_ann Try.f64.ntmps none (bodyOf Try.f64) (envOf [w0, next1]) (fun e env s => retK e (resK Try.prog Try.f64.results.toList env (fun vs => K (oneV vs) s) s)) s = vc_spread_Wheel_check X w0 next1 K s := by kernel_rfl
theorem vc_spread_Wheel_check_ok {X : Told} (hX : FrX X) (hn : X 64 = none) {w0 : AVal} {next1 : AVal} {K : KvP} {s : Heap} (h : vc_spread_Wheel_check X w0 next1 K s) : wpCall Try.prog X 64 [w0, next1] K s :=
 wpCall_code hX vc_spread_Wheel_check_ann hn Try.func64 (by kernel_rfl : Try.f64.body = some (bodyOf Try.f64)) (by kernel_rfl) ((vc_spread_Wheel_check_eq X w0 next1 K s).mpr h)
theorem vc_spread_Wheel_check_in {w0 : AVal} {next1 : AVal} {K : KvP} {s : Heap} (h : vc_spread_Wheel_check XX w0 next1 K s) : wpCall Try.prog XX 64 [w0, next1] K s := vc_spread_Wheel_check_ok XX_fr rfl h
def vc_spread_Wheel_queue_j2 (X : Told) (t47 : AVal) (I1 : IvP) (m1 : Nat) (K : KvP) (s : Heap) : Prop :=
 optK (arithV .add t47 (.int .i64 1)) fun v_46 =>
 ∃ m', m' < m1 ∧ I1 [v_46] s m'
def vc_spread_Wheel_queue_l1 (X : Told) (w0 : AVal) (t2 : AVal) (place3 : AVal) (q4 : AVal) (t45 : AVal) (t46 : AVal) (t47 : AVal) (I1 : IvP) (m1 : Nat) (K : KvP) (s : Heap) : Prop :=
 optK (arithV .lss t47 t46) fun v_45 =>
 boolK v_45
 (optK (iaddrS 1 t45 t47) fun v_47 =>
 optK (rd1 s v_47) fun v_48 =>
 optK (negB false (eqV 0 true v_48 (.int .i64 0))) fun v_49 =>
 boolK v_49
 (vc_spread_Wheel_queue_j2 X t47 I1 m1 K s)
 (optK (arithV .sub v_48 (.int .i64 1)) fun v_50 =>
 optK (iaddrA 128 1 place3 v_50) fun v_51 =>
 optK (rd1 s v_51) fun v_52 =>
 optK (negB false (eqV 0 true v_52 (.int .i64 0))) fun v_53 =>
 boolK v_53
 (optK (nilCheckA w0) fun v_54 =>
 optK (addOff 0 v_54) fun v_55 =>
 optK (rd1 s v_55) fun v_56 =>
 optK (iaddrS 1 v_56 t47) fun v_57 =>
 optK (wr1 s v_57 (.int .i64 0)) fun s_58 =>
 vc_spread_Wheel_queue_j2 X t47 I1 m1 K s_58)
 (optK (addOff 0 q4) fun v_59 =>
 optK (rd1 s v_59) fun v_60 =>
 optK (nilCheckA v_60) fun v_61 =>
 optK (addOff 0 v_61) fun v_62 =>
 optK (rd1 s v_62) fun v_63 =>
 optK (arithV .sub v_48 (.int .i64 1)) fun v_64 =>
 optK (iaddrA 128 1 place3 v_64) fun v_65 =>
 optK (rd1 s v_65) fun v_66 =>
 optK (arithV .sub v_66 (.int .i64 1)) fun v_67 =>
 optK (iaddrS 2 v_63 v_67) fun v_68 =>
 optK (addOff 1 v_68) fun v_69 =>
 optK (rd1 s v_69) fun v_70 =>
 optK (arithV .add v_70 (.int .i64 1)) fun v_71 =>
 optK (iaddrS 2 v_63 v_67) fun v_72 =>
 optK (addOff 1 v_72) fun v_73 =>
 optK (wr1 s v_73 v_71) fun s_74 =>
 vc_spread_Wheel_queue_j2 X t47 I1 m1 K s_74)))
 (optK (rdN s 1 q4) fun v_75 =>
 wpCall Try.prog X 78 [(.agg v_75)] (fun v_76 s_77 =>
 optK (rdN s_77 1 q4) fun v_78 =>
 optK (wrAgg s_77 1 t2 (.agg v_78)) fun s_79 =>
 optK (rdN s_79 1 t2) fun t2_80 =>
 K (.agg t2_80) s_79) s)
def vc_spread_Wheel_queue_l0 (X : Told) (w0 : AVal) (t2 : AVal) (place3 : AVal) (q4 : AVal) (t21 : AVal) (t22 : AVal) (t23 : AVal) (I0 : IvP) (m0 : Nat) (K : KvP) (s : Heap) : Prop :=
 optK (arithV .lss t23 t22) fun v_25 =>
 boolK v_25
 (optK (iaddrS 1 t21 t23) fun v_26 =>
 optK (rd1 s v_26) fun v_27 =>
 optK (arithV .add t23 (.int .i64 1)) fun v_28 =>
 optK (iaddrA 128 1 place3 v_27) fun v_29 =>
 optK (wr1 s v_29 v_28) fun s_30 =>
 optK (addOff 0 q4) fun v_31 =>
 optK (rd1 s_30 v_31) fun v_32 =>
 optK (nilCheckA v_32) fun v_33 =>
 optK (addOff 0 v_33) fun v_34 =>
 optK (rd1 s_30 v_34) fun v_35 =>
 optK (iaddrS 2 v_35 t23) fun v_36 =>
 optK (addOff 0 v_36) fun v_37 =>
 optK (wr1 s_30 v_37 v_27) fun s_38 =>
 optK (arithV .add t23 (.int .i64 1)) fun v_39 =>
 ∃ m', m' < m0 ∧ I0 [v_39] s_38 m')
 (optK (nilCheckA w0) fun v_40 =>
 optK (addOff 0 v_40) fun v_41 =>
 optK (rd1 s v_41) fun v_42 =>
 optK (lenOfA v_42) fun v_43 =>
 ∃ I1 : IvP, (∃ m, I1 [(.int .i64 0)] s m) ∧ ∀ (f : Env) (s : Heap) (m1 : Nat), I1 [f 47] s m1 →
 vc_spread_Wheel_queue_l1 X w0 t2 place3 q4 v_42 (.int .i64 v_43) (f 47) I1 m1 K s)
def vc_spread_Wheel_queue (X : Told) (w0 : AVal) (K : KvP) (s : Heap) : Prop :=
 newK 122 [.nilptr] (fun b_0 s_1 =>
 newK 144 [(.int .i64 0), (.int .i64 0), (.int .i64 0), (.int .i64 0), (.int .i64 0), (.int .i64 0), (.int .i64 0), (.int .i64 0), (.int .i64 0), (.int .i64 0), (.int .i64 0), (.int .i64 0), (.int .i64 0), (.int .i64 0), (.int .i64 0), (.int .i64 0), (.int .i64 0), (.int .i64 0), (.int .i64 0), (.int .i64 0), (.int .i64 0), (.int .i64 0), (.int .i64 0), (.int .i64 0), (.int .i64 0), (.int .i64 0), (.int .i64 0), (.int .i64 0), (.int .i64 0), (.int .i64 0), (.int .i64 0), (.int .i64 0), (.int .i64 0), (.int .i64 0), (.int .i64 0), (.int .i64 0), (.int .i64 0), (.int .i64 0), (.int .i64 0), (.int .i64 0), (.int .i64 0), (.int .i64 0), (.int .i64 0), (.int .i64 0), (.int .i64 0), (.int .i64 0), (.int .i64 0), (.int .i64 0), (.int .i64 0), (.int .i64 0), (.int .i64 0), (.int .i64 0), (.int .i64 0), (.int .i64 0), (.int .i64 0), (.int .i64 0), (.int .i64 0), (.int .i64 0), (.int .i64 0), (.int .i64 0), (.int .i64 0), (.int .i64 0), (.int .i64 0), (.int .i64 0), (.int .i64 0), (.int .i64 0), (.int .i64 0), (.int .i64 0), (.int .i64 0), (.int .i64 0), (.int .i64 0), (.int .i64 0), (.int .i64 0), (.int .i64 0), (.int .i64 0), (.int .i64 0), (.int .i64 0), (.int .i64 0), (.int .i64 0), (.int .i64 0), (.int .i64 0), (.int .i64 0), (.int .i64 0), (.int .i64 0), (.int .i64 0), (.int .i64 0), (.int .i64 0), (.int .i64 0), (.int .i64 0), (.int .i64 0), (.int .i64 0), (.int .i64 0), (.int .i64 0), (.int .i64 0), (.int .i64 0), (.int .i64 0), (.int .i64 0), (.int .i64 0), (.int .i64 0), (.int .i64 0), (.int .i64 0), (.int .i64 0), (.int .i64 0), (.int .i64 0), (.int .i64 0), (.int .i64 0), (.int .i64 0), (.int .i64 0), (.int .i64 0), (.int .i64 0), (.int .i64 0), (.int .i64 0), (.int .i64 0), (.int .i64 0), (.int .i64 0), (.int .i64 0), (.int .i64 0), (.int .i64 0), (.int .i64 0), (.int .i64 0), (.int .i64 0), (.int .i64 0), (.int .i64 0), (.int .i64 0), (.int .i64 0), (.int .i64 0), (.int .i64 0), (.int .i64 0)] (fun b_2 s_3 =>
 optK (nilCheckA w0) fun v_4 =>
 optK (addOff 1 v_4) fun v_5 =>
 optK (rd1 s_3 v_5) fun v_6 =>
 optK (lenOfA v_6) fun v_7 =>
 optK (nat? (.int .i64 v_7)) fun n_9 => optK (nat? (.int .i64 v_7)) fun n_10 => (n_9 ≤ n_10 ∧ n_10 ≤ 4294967296) ∧ newK 149 (repl n_10 [(.int .i64 0), (.int .i64 0)]) (fun b_11 s_12 =>
 optK (fillR [.nilslc] [(0, 1, (.slc b_11 0 n_9 (some n_10) 2))]) fun c_13 =>
 boxK 147 (.agg c_13) (fun b_14 s_15 =>
 optK (fillR [.nilptr] [(0, 1, b_14)]) fun c_16 =>
 newK 122 [.nilptr] (fun b_17 s_18 =>
 optK (wrAgg s_18 1 (.ptr b_17 0) (.agg c_16)) fun s_19 =>
 optK (nilCheckA w0) fun v_20 =>
 optK (addOff 1 v_20) fun v_21 =>
 optK (rd1 s_19 v_21) fun v_22 =>
 optK (lenOfA v_22) fun v_23 =>
 ∃ I0 : IvP, (∃ m, I0 [(.int .i64 0)] s_19 m) ∧ ∀ (f : Env) (s : Heap) (m0 : Nat), I0 [f 23] s m0 →
 vc_spread_Wheel_queue_l0 X w0 (.ptr b_0 0) (.ptr b_2 0) (.ptr b_17 0) v_22 (.int .i64 v_23) (f 23) I0 m0 K s) s_15) s_12) s_3) s_1) s
def vc_spread_Wheel_queue_ann : Nat → List Nat := fun k => cond (Nat.beq k 8) [23] (cond (Nat.beq k 20) [47] ([]))
theorem vc_spread_Wheel_queue_eq (X : Told) (w0 : AVal) (K : KvP) (s : Heap) : wpC Try.prog X vc_spread_Wheel_queue_ann Try.f65.ntmps none (bodyOf Try.f65) (envOf [w0]) (fun e env s => retK e (resK Try.prog Try.f65.results.toList env (fun vs => K (oneV vs) s) s)) s = vc_spread_Wheel_queue X w0 K s := by kernel_rfl
theorem vc_spread_Wheel_queue_ok {X : Told} (hX : FrX X) (hn : X 65 = none) {w0 : AVal} {K : KvP} {s : Heap} (h : vc_spread_Wheel_queue X w0 K s) : wpCall Try.prog X 65 [w0] K s :=
 wpCall_code hX vc_spread_Wheel_queue_ann hn Try.func65 (by kernel_rfl : Try.f65.body = some (bodyOf Try.f65)) (by kernel_rfl) ((vc_spread_Wheel_queue_eq X w0 K s).mpr h)
theorem vc_spread_Wheel_queue_in {w0 : AVal} {K : KvP} {s : Heap} (h : vc_spread_Wheel_queue XX w0 K s) : wpCall Try.prog XX 65 [w0] K s := vc_spread_Wheel_queue_ok XX_fr rfl h
def vc_spread_Wheel_fill_j1 (X : Told) (t11 : AVal) (I0 : IvP) (m0 : Nat) (K : KvP) (s : Heap) : Prop :=
 optK (arithV .add t11 (.int .i64 1)) fun v_11 =>
 ∃ m', m' < m0 ∧ I0 [v_11] s m'
def vc_spread_Wheel_fill_l0 (X : Told) (w0 : AVal) (q3 : AVal) (t9 : AVal) (t10 : AVal) (t11 : AVal) (I0 : IvP) (m0 : Nat) (K : KvP) (s : Heap) : Prop :=
 optK (arithV .lss t11 t10) fun v_7 =>
 boolK v_7
 (optK (iaddrS 1 t9 t11) fun v_8 =>
 optK (rd1 s v_8) fun v_9 =>
 optK (negB false (eqV 0 true v_9 (.int .i64 0))) fun v_10 =>
 boolK v_10
 (optK (nilCheckA w0) fun v_12 =>
 optK (addOff 0 v_12) fun v_13 =>
 optK (rd1 s v_13) fun v_14 =>
 optK (addOff 0 q3) fun v_15 =>
 optK (rd1 s v_15) fun v_16 =>
 optK (nilCheckA v_16) fun v_17 =>
 optK (addOff 0 v_17) fun v_18 =>
 optK (rd1 s v_18) fun v_19 =>
 optK (iaddrS 2 v_19 (.int .i64 0)) fun v_20 =>
 optK (addOff 0 v_20) fun v_21 =>
 optK (rd1 s v_21) fun v_22 =>
 optK (arithV .add v_22 (.int .i64 1)) fun v_23 =>
 optK (iaddrS 1 v_14 t11) fun v_24 =>
 optK (wr1 s v_24 v_23) fun s_25 =>
 optK (rdN s_25 1 q3) fun v_26 =>
 wpCall Try.prog X 79 [(.agg v_26), (.int .i64 0), (.int .i64 1)] (fun v_27 s_28 =>
 vc_spread_Wheel_fill_j1 X t11 I0 m0 K s_28) s_25)
 (vc_spread_Wheel_fill_j1 X t11 I0 m0 K s))
 (K (.tup []) s)
def vc_spread_Wheel_fill (X : Told) (w0 : AVal) (q1 : AVal) (K : KvP) (s : Heap) : Prop :=
 boxK 122 q1 (fun b_0 s_1 =>
 optK (nilCheckA w0) fun v_2 =>
 optK (addOff 0 v_2) fun v_3 =>
 optK (rd1 s_1 v_3) fun v_4 =>
 optK (lenOfA v_4) fun v_5 =>
 ∃ I0 : IvP, (∃ m, I0 [(.int .i64 0)] s_1 m) ∧ ∀ (f : Env) (s : Heap) (m0 : Nat), I0 [f 11] s m0 →
 vc_spread_Wheel_fill_l0 X w0 b_0 v_4 (.int .i64 v_5) (f 11) I0 m0 K s) s
def vc_spread_Wheel_fill_ann : Nat → List Nat := fun k => cond (Nat.beq k 4) [11] ([])
theorem vc_spread_Wheel_fill_eq (X : Told) (w0 : AVal) (q1 : AVal) (K : KvP) (s : Heap) : wpC Try.prog X vc_spread_Wheel_fill_ann Try.f66.ntmps none (bodyOf Try.f66) (envOf [w0, q1]) (fun e env s => retK e (resK Try.prog Try.f66.results.toList env (fun vs => K (oneV vs) s) s)) s = vc_spread_Wheel_fill X w0 q1 K s := by kernel_rfl
theorem vc_spread_Wheel_fill_ok {X : Told} (hX : FrX X) (hn : X 66 = none) {w0 : AVal} {q1 : AVal} {K : KvP} {s : Heap} (h : vc_spread_Wheel_fill X w0 q1 K s) : wpCall Try.prog X 66 [w0, q1] K s :=
 wpCall_code hX vc_spread_Wheel_fill_ann hn Try.func66 (by kernel_rfl : Try.f66.body = some (bodyOf Try.f66)) (by kernel_rfl) ((vc_spread_Wheel_fill_eq X w0 q1 K s).mpr h)
theorem vc_spread_Wheel_fill_in {w0 : AVal} {q1 : AVal} {K : KvP} {s : Heap} (h : vc_spread_Wheel_fill XX w0 q1 K s) : wpCall Try.prog XX 66 [w0, q1] K s := vc_spread_Wheel_fill_ok XX_fr rfl h
def vc_spread_Wheel_balance_l0 (X : Told) (w0 : AVal) (q3 : AVal) (I0 : IvP) (m0 : Nat) (K : KvP) (s : Heap) : Prop :=
 optK (rdN s 1 q3) fun v_2 =>
 wpCall Try.prog X 80 [(.agg v_2)] (fun v_3 s_4 =>
 optK (addOff 0 q3) fun v_5 =>
 optK (rd1 s_4 v_5) fun v_6 =>
 optK (nilCheckA v_6) fun v_7 =>
 optK (addOff 0 v_7) fun v_8 =>
 optK (rd1 s_4 v_8) fun v_9 =>
 optK (iaddrS 2 v_9 v_3) fun v_10 =>
 optK (addOff 1 v_10) fun v_11 =>
 optK (rd1 s_4 v_11) fun v_12 =>
 optK (addOff 0 q3) fun v_13 =>
 optK (rd1 s_4 v_13) fun v_14 =>
 optK (nilCheckA v_14) fun v_15 =>
 optK (addOff 0 v_15) fun v_16 =>
 optK (rd1 s_4 v_16) fun v_17 =>
 optK (iaddrS 2 v_17 (.int .i64 0)) fun v_18 =>
 optK (addOff 1 v_18) fun v_19 =>
 optK (rd1 s_4 v_19) fun v_20 =>
 optK (arithV .sub v_12 v_20) fun v_21 =>
 optK (arithV .leq v_21 (.int .i64 1)) fun v_22 =>
 boolK v_22
 (K (.tup []) s_4)
 (optK (nilCheckA w0) fun v_23 =>
 optK (addOff 0 v_23) fun v_24 =>
 optK (rd1 s_4 v_24) fun v_25 =>
 optK (addOff 0 q3) fun v_26 =>
 optK (rd1 s_4 v_26) fun v_27 =>
 optK (nilCheckA v_27) fun v_28 =>
 optK (addOff 0 v_28) fun v_29 =>
 optK (rd1 s_4 v_29) fun v_30 =>
 optK (iaddrS 2 v_30 v_3) fun v_31 =>
 optK (addOff 0 v_31) fun v_32 =>
 optK (rd1 s_4 v_32) fun v_33 =>
 wpCall Try.prog X 81 [w0, v_33] (fun v_34 s_35 =>
 (∀ b, s_4 b ≠ none → s_4 b = none → s_35 b = none) →
 optK (addOff 0 q3) fun v_36 =>
 optK (rd1 (cutH [(s_4, (add s_4 s_35))] (add s_4 s_35)) v_36) fun v_37 =>
 optK (nilCheckA v_37) fun v_38 =>
 optK (addOff 0 v_38) fun v_39 =>
 optK (rd1 (cutH [(s_4, (add s_4 s_35))] (add s_4 s_35)) v_39) fun v_40 =>
 optK (iaddrS 2 v_40 (.int .i64 0)) fun v_41 =>
 optK (addOff 0 v_41) fun v_42 =>
 optK (rd1 (cutH [(s_4, (add s_4 s_35))] (add s_4 s_35)) v_42) fun v_43 =>
 optK (arithV .add v_43 (.int .i64 1)) fun v_44 =>
 optK (iaddrS 1 v_25 v_34) fun v_45 =>
 optK (wr1 (add s_4 s_35) v_45 v_44) fun s_46 =>
 optK (rdN s_46 1 q3) fun v_47 =>
 wpCall Try.prog X 79 [(.agg v_47), v_3, (.int .i64 (-1))] (fun v_48 s_49 =>
 optK (rdN s_49 1 q3) fun v_50 =>
 wpCall Try.prog X 79 [(.agg v_50), (.int .i64 0), (.int .i64 1)] (fun v_51 s_52 =>
 ∃ m', m' < m0 ∧ I0 [] s_52 m') s_49) s_46) (frz s_4))) s
def vc_spread_Wheel_balance (X : Told) (w0 : AVal) (q1 : AVal) (K : KvP) (s : Heap) : Prop :=
 boxK 122 q1 (fun b_0 s_1 =>
 ∃ I0 : IvP, (∃ m, I0 [] s_1 m) ∧ ∀ (f : Env) (s : Heap) (m0 : Nat), I0 [] s m0 →
 vc_spread_Wheel_balance_l0 X w0 b_0 I0 m0 K s) s
def vc_spread_Wheel_balance_ann : Nat → List Nat := fun k => cond (Nat.beq k 2) [] ([])
theorem vc_spread_Wheel_balance_eq (X : Told) (w0 : AVal) (q1 : AVal) (K : KvP) (s : Heap) : wpC Try.prog X vc_spread_Wheel_balance_ann Try.f67.ntmps none (bodyOf Try.f67) (envOf [w0, q1]) (fun e env s => retK e (resK Try.prog Try.f67.results.toList env (fun vs => K (oneV vs) s) s)) s = vc_spread_Wheel_balance X w0 q1 K s := by kernel_rfl
theorem vc_spread_Wheel_balance_ok {X : Told} (hX : FrX X) (hn : X 67 = none) {w0 : AVal} {q1 : AVal} {K : KvP} {s : Heap} (h : vc_spread_Wheel_balance X w0 q1 K s) : wpCall Try.prog X 67 [w0, q1] K s :=
 wpCall_code hX vc_spread_Wheel_balance_ann hn Try.func67 (by kernel_rfl : Try.f67.body = some (bodyOf Try.f67)) (by kernel_rfl) ((vc_spread_Wheel_balance_eq X w0 q1 K s).mpr h)
theorem vc_spread_Wheel_balance_in {w0 : AVal} {q1 : AVal} {K : KvP} {s : Heap} (h : vc_spread_Wheel_balance XX w0 q1 K s) : wpCall Try.prog XX 67 [w0, q1] K s := vc_spread_Wheel_balance_ok XX_fr rfl h
def vc_spread_queue_build (X : Told) (q0 : AVal) (K : KvP) (s : Heap) : Prop :=
 boxK 122 q0 (fun b_0 s_1 =>
 optK (rdN s_1 1 b_0) fun v_2 =>
 wpCall Try.prog X 90 [(.ifc 122 (.agg v_2))] (fun v_3 s_4 =>
 K (.tup []) s_4) s_1) s
def vc_spread_queue_build_ann : Nat → List Nat := fun _ => []
theorem vc_spread_queue_build_eq (X : Told) (q0 : AVal) (K : KvP) (s : Heap) : wpC Try.prog X vc_spread_queue_build_ann Try.f78.ntmps none (bodyOf Try.f78) (envOf [q0]) (fun e env s => retK e (resK Try.prog Try.f78.results.toList env (fun vs => K (oneV vs) s) s)) s = vc_spread_queue_build X q0 K s := by kernel_rfl
theorem vc_spread_queue_build_ok {X : Told} (hX : FrX X) (hn : X 78 = none) {q0 : AVal} {K : KvP} {s : Heap} (h : vc_spread_queue_build X q0 K s) : wpCall Try.prog X 78 [q0] K s :=
 wpCall_code hX vc_spread_queue_build_ann hn Try.func78 (by kernel_rfl : Try.f78.body = some (bodyOf Try.f78)) (by kernel_rfl) ((vc_spread_queue_build_eq X q0 K s).mpr h)
theorem vc_spread_queue_build_in {q0 : AVal} {K : KvP} {s : Heap} (h : vc_spread_queue_build XX q0 K s) : wpCall Try.prog XX 78 [q0] K s := vc_spread_queue_build_ok XX_fr rfl h
def vc_spread_queue_change (X : Told) (q0 : AVal) (i1 : AVal) (t2 : AVal) (K : KvP) (s : Heap) : Prop :=
 boxK 122 q0 (fun b_0 s_1 =>
 optK (addOff 0 b_0) fun v_2 =>
 optK (rd1 s_1 v_2) fun v_3 =>
 optK (nilCheckA v_3) fun v_4 =>
 optK (addOff 0 v_4) fun v_5 =>
 optK (rd1 s_1 v_5) fun v_6 =>
 optK (iaddrS 2 v_6 i1) fun v_7 =>
 optK (addOff 1 v_7) fun v_8 =>
 optK (rd1 s_1 v_8) fun v_9 =>
 optK (arithV .add v_9 t2) fun v_10 =>
 optK (iaddrS 2 v_6 i1) fun v_11 =>
 optK (addOff 1 v_11) fun v_12 =>
 optK (wr1 s_1 v_12 v_10) fun s_13 =>
 optK (rdN s_13 1 b_0) fun v_14 =>
 wpCall Try.prog X 91 [(.ifc 122 (.agg v_14)), i1] (fun v_15 s_16 =>
 K (.tup []) s_16) s_13) s
def vc_spread_queue_change_ann : Nat → List Nat := fun _ => []
theorem vc_spread_queue_change_eq (X : Told) (q0 : AVal) (i1 : AVal) (t2 : AVal) (K : KvP) (s : Heap) : wpC Try.prog X vc_spread_queue_change_ann Try.f79.ntmps none (bodyOf Try.f79) (envOf [q0, i1, t2]) (fun e env s => retK e (resK Try.prog Try.f79.results.toList env (fun vs => K (oneV vs) s) s)) s = vc_spread_queue_change X q0 i1 t2 K s := by kernel_rfl
theorem vc_spread_queue_change_ok {X : Told} (hX : FrX X) (hn : X 79 = none) {q0 : AVal} {i1 : AVal} {t2 : AVal} {K : KvP} {s : Heap} (h : vc_spread_queue_change X q0 i1 t2 K s) : wpCall Try.prog X 79 [q0, i1, t2] K s :=
 wpCall_code hX vc_spread_queue_change_ann hn Try.func79 (by kernel_rfl : Try.f79.body = some (bodyOf Try.f79)) (by kernel_rfl) ((vc_spread_queue_change_eq X q0 i1 t2 K s).mpr h)
theorem vc_spread_queue_change_in {q0 : AVal} {i1 : AVal} {t2 : AVal} {K : KvP} {s : Heap} (h : vc_spread_queue_change XX q0 i1 t2 K s) : wpCall Try.prog XX 79 [q0, i1, t2] K s := vc_spread_queue_change_ok XX_fr rfl h
def vc_spread_queue_most_j1 (X : Told) (t3 : AVal) (t11 : AVal) (I0 : IvP) (m0 : Nat) (K : KvP) (s : Heap) : Prop :=
 optK (arithV .add t11 (.int .i64 1)) fun v_14 =>
 ∃ m', m' < m0 ∧ I0 [t3, v_14] s m'
def vc_spread_queue_most_l0 (X : Told) (q1 : AVal) (t3 : AVal) (t10 : AVal) (t11 : AVal) (I0 : IvP) (m0 : Nat) (K : KvP) (s : Heap) : Prop :=
 optK (arithV .lss t11 t10) fun v_9 =>
 boolK v_9
 (optK (addOff 0 q1) fun v_10 =>
 optK (rd1 s v_10) fun v_11 =>
 wpCall Try.prog X 92 [v_11, t3, t11] (fun v_12 s_13 =>
 boolK v_12
 (vc_spread_queue_most_j1 X t11 t11 I0 m0 K s_13)
 (vc_spread_queue_most_j1 X t3 t11 I0 m0 K s_13)) s)
 (K t3 s)
def vc_spread_queue_most (X : Told) (q0 : AVal) (K : KvP) (s : Heap) : Prop :=
 boxK 122 q0 (fun b_0 s_1 =>
 optK (addOff 0 b_0) fun v_2 =>
 optK (rd1 s_1 v_2) fun v_3 =>
 optK (nilCheckA v_3) fun v_4 =>
 optK (addOff 0 v_4) fun v_5 =>
 optK (rd1 s_1 v_5) fun v_6 =>
 optK (lenOfA v_6) fun v_7 =>
 ∃ I0 : IvP, (∃ m, I0 [(.int .i64 0), (.int .i64 0)] s_1 m) ∧ ∀ (f : Env) (s : Heap) (m0 : Nat), I0 [f 3, f 11] s m0 →
 vc_spread_queue_most_l0 X b_0 (f 3) (.int .i64 v_7) (f 11) I0 m0 K s) s
def vc_spread_queue_most_ann : Nat → List Nat := fun k => cond (Nat.beq k 6) [3, 11] ([])
theorem vc_spread_queue_most_eq (X : Told) (q0 : AVal) (K : KvP) (s : Heap) : wpC Try.prog X vc_spread_queue_most_ann Try.f80.ntmps none (bodyOf Try.f80) (envOf [q0]) (fun e env s => retK e (resK Try.prog Try.f80.results.toList env (fun vs => K (oneV vs) s) s)) s = vc_spread_queue_most X q0 K s := by kernel_rfl
theorem vc_spread_queue_most_ok {X : Told} (hX : FrX X) (hn : X 80 = none) {q0 : AVal} {K : KvP} {s : Heap} (h : vc_spread_queue_most X q0 K s) : wpCall Try.prog X 80 [q0] K s :=
 wpCall_code hX vc_spread_queue_most_ann hn Try.func80 (by kernel_rfl : Try.f80.body = some (bodyOf Try.f80)) (by kernel_rfl) ((vc_spread_queue_most_eq X q0 K s).mpr h)
theorem vc_spread_queue_most_in {q0 : AVal} {K : KvP} {s : Heap} (h : vc_spread_queue_most XX q0 K s) : wpCall Try.prog XX 80 [q0] K s := vc_spread_queue_most_ok XX_fr rfl h
def vc_spread_Wheel_last_j1 (X : Told) (i5 : AVal) (t14 : AVal) (t24 : AVal) (I0 : IvP) (m0 : Nat) (K : KvP) (s : Heap) : Prop :=
 optK (pickV t14 t24 (.bool false)) fun v_7 =>
 boolK v_7
 (optK (arithV .sub i5 (.int .i64 1)) fun v_8 =>
 ∃ m', m' < m0 ∧ I0 [v_8] s m')
 (K i5 s)
def vc_spread_Wheel_last_l0 (X : Told) (w0 : AVal) (member1 : AVal) (i5 : AVal) (I0 : IvP) (m0 : Nat) (K : KvP) (s : Heap) : Prop :=
 optK (arithV .gtr i5 (.int .i64 0)) fun v_6 =>
 boolK v_6
 (optK (nilCheckA w0) fun v_9 =>
 optK (addOff 0 v_9) fun v_10 =>
 optK (rd1 s v_10) fun v_11 =>
 optK (iaddrS 1 v_11 i5) fun v_12 =>
 optK (rd1 s v_12) fun v_13 =>
 optK (arithV .add member1 (.int .i64 1)) fun v_14 =>
 optK (negB true (eqV 0 false v_13 v_14)) fun v_15 =>
 vc_spread_Wheel_last_j1 X i5 v_6 v_15 I0 m0 K s)
 (vc_spread_Wheel_last_j1 X i5 v_6 .undef I0 m0 K s)
def vc_spread_Wheel_last (X : Told) (w0 : AVal) (member1 : AVal) (K : KvP) (s : Heap) : Prop :=
 optK (nilCheckA w0) fun v_0 =>
 optK (addOff 0 v_0) fun v_1 =>
 optK (rd1 s v_1) fun v_2 =>
 optK (lenOfA v_2) fun v_3 =>
 optK (arithV .sub (.int .i64 v_3) (.int .i64 1)) fun v_5 =>
 ∃ I0 : IvP, (∃ m, I0 [v_5] s m) ∧ ∀ (f : Env) (s : Heap) (m0 : Nat), I0 [f 5] s m0 →
 vc_spread_Wheel_last_l0 X w0 member1 (f 5) I0 m0 K s
def vc_spread_Wheel_last_ann : Nat → List Nat := fun k => cond (Nat.beq k 4) [5] ([])
theorem vc_spread_Wheel_last_eq (X : Told) (w0 : AVal) (member1 : AVal) (K : KvP) (s : Heap) : wpC Try.prog X vc_spread_Wheel_last_ann Try.f81.ntmps none (bodyOf Try.f81) (envOf [w0, member1]) (fun e env s => retK e (resK Try.prog Try.f81.results.toList env (fun vs => K (oneV vs) s) s)) s = vc_spread_Wheel_last X w0 member1 K s := by kernel_rfl
theorem vc_spread_Wheel_last_ok {X : Told} (hX : FrX X) (hn : X 81 = none) {w0 : AVal} {member1 : AVal} {K : KvP} {s : Heap} (h : vc_spread_Wheel_last X w0 member1 K s) : wpCall Try.prog X 81 [w0, member1] K s :=
 wpCall_code hX vc_spread_Wheel_last_ann hn Try.func81 (by kernel_rfl : Try.f81.body = some (bodyOf Try.f81)) (by kernel_rfl) ((vc_spread_Wheel_last_eq X w0 member1 K s).mpr h)
theorem vc_spread_Wheel_last_in {w0 : AVal} {member1 : AVal} {K : KvP} {s : Heap} (h : vc_spread_Wheel_last XX w0 member1 K s) : wpCall Try.prog XX 81 [w0, member1] K s := vc_spread_Wheel_last_ok XX_fr rfl h
def vh_Init_l0 (X : Told) (h0 : AVal) (n2 : AVal) (i3 : AVal) (I0 : IvP) (m0 : Nat) (K : KvP) (s : Heap) : Prop :=
 optK (arithV .geq i3 (.int .i64 0)) fun v_4 =>
 boolK v_4
 (wpCall Try.prog X 84 [h0, i3, n2] (fun v_5 s_6 =>
 optK (arithV .sub i3 (.int .i64 1)) fun v_7 =>
 ∃ m', m' < m0 ∧ I0 [v_7] s_6 m') s)
 (K (.tup []) s)
def vh_Init (X : Told) (h0 : AVal) (K : KvP) (s : Heap) : Prop :=
 methK Try.prog X h0 "Len" [] (fun v_0 s_1 =>
 optK (arithV .quo v_0 (.int .i64 2)) fun v_2 =>
 optK (arithV .sub v_2 (.int .i64 1)) fun v_3 =>
 ∃ I0 : IvP, (∃ m, I0 [v_3] s_1 m) ∧ ∀ (f : Env) (s : Heap) (m0 : Nat), I0 [f 3] s m0 →
 vh_Init_l0 X h0 v_0 (f 3) I0 m0 K s) s
def vh_Init_ann : Nat → List Nat := fun k => cond (Nat.beq k 4) [3] ([])
theorem vh_Init_eq (X : Told) (h0 : AVal) (K : KvP) (s : Heap) : wpC Try.prog X vh_Init_ann Try.f90.ntmps none (bodyOf Try.f90) (envOf [h0]) (fun e env s => retK e (resK Try.prog Try.f90.results.toList env (fun vs => K (oneV vs) s) s)) s = vh_Init X h0 K s := by kernel_rfl
theorem vh_Init_ok {X : Told} (hX : FrX X) (hn : X 90 = none) {h0 : AVal} {K : KvP} {s : Heap} (h : vh_Init X h0 K s) : wpCall Try.prog X 90 [h0] K s :=
 wpCall_code hX vh_Init_ann hn Try.func90 (by kernel_rfl : Try.f90.body = some (bodyOf Try.f90)) (by kernel_rfl) ((vh_Init_eq X h0 K s).mpr h)
theorem vh_Init_in {h0 : AVal} {K : KvP} {s : Heap} (h : vh_Init XX h0 K s) : wpCall Try.prog XX 90 [h0] K s := vh_Init_ok XX_fr rfl h
def vh_Fix (X : Told) (h0 : AVal) (i1 : AVal) (K : KvP) (s : Heap) : Prop :=
 methK Try.prog X h0 "Len" [] (fun v_0 s_1 =>
 wpCall Try.prog X 84 [h0, i1, v_0] (fun v_2 s_3 =>
 optK (unaryA .not v_2) fun v_4 =>
 boolK v_4
 (wpCall Try.prog X 85 [h0, i1] (fun v_5 s_6 =>
 K (.tup []) s_6) s_3)
 (K (.tup []) s_3)) s_1) s
def vh_Fix_ann : Nat → List Nat := fun _ => []
theorem vh_Fix_eq (X : Told) (h0 : AVal) (i1 : AVal) (K : KvP) (s : Heap) : wpC Try.prog X vh_Fix_ann Try.f91.ntmps none (bodyOf Try.f91) (envOf [h0, i1]) (fun e env s => retK e (resK Try.prog Try.f91.results.toList env (fun vs => K (oneV vs) s) s)) s = vh_Fix X h0 i1 K s := by kernel_rfl
theorem vh_Fix_ok {X : Told} (hX : FrX X) (hn : X 91 = none) {h0 : AVal} {i1 : AVal} {K : KvP} {s : Heap} (h : vh_Fix X h0 i1 K s) : wpCall Try.prog X 91 [h0, i1] K s :=
 wpCall_code hX vh_Fix_ann hn Try.func91 (by kernel_rfl : Try.f91.body = some (bodyOf Try.f91)) (by kernel_rfl) ((vh_Fix_eq X h0 i1 K s).mpr h)
theorem vh_Fix_in {h0 : AVal} {i1 : AVal} {K : KvP} {s : Heap} (h : vh_Fix XX h0 i1 K s) : wpCall Try.prog XX 91 [h0, i1] K s := vh_Fix_ok XX_fr rfl h
def vc_spread_order_Less (X : Told) (o0 : AVal) (i1 : AVal) (j2 : AVal) (K : KvP) (s : Heap) : Prop :=
 optK (nilCheckA o0) fun v_0 =>
 optK (addOff 0 v_0) fun v_1 =>
 optK (rd1 s v_1) fun v_2 =>
 optK (iaddrS 2 v_2 i1) fun v_3 =>
 optK (rdN s 2 v_3) fun v_4 =>
 optK (nilCheckA o0) fun v_5 =>
 optK (addOff 0 v_5) fun v_6 =>
 optK (rd1 s v_6) fun v_7 =>
 optK (iaddrS 2 v_7 j2) fun v_8 =>
 optK (rdN s 2 v_8) fun v_9 =>
 newK 149 [(.int .i64 0), (.int .i64 0)] (fun b_10 s_11 =>
 (∀ b, s b ≠ none → s b = none → s_11 b = none) →
 newK 149 [(.int .i64 0), (.int .i64 0)] (fun b_12 s_13 =>
 (∀ b, (add s s_11) b ≠ none → (cutH [(s, (add s s_11))] (add s s_11)) b = none → s_13 b = none) →
 ((cutH [((hdel s (blkOf v_6)), s), ((hdel s (blkOf v_8)), s)] (add (add s s_11) s_13)) (blkOf (.ptr b_10 0)) ≠ none) ∧
 optK (wrAgg (add (add s s_11) s_13) 2 (.ptr b_10 0) (.agg v_4)) fun s_14 =>
 optK (wrAgg s_14 2 (.ptr b_12 0) (.agg v_9)) fun s_15 =>
 optK (addOff 1 (.ptr b_10 0)) fun v_16 =>
 optK (rd1 s_15 v_16) fun v_17 =>
 optK (addOff 1 (.ptr b_12 0)) fun v_18 =>
 optK (rd1 s_15 v_18) fun v_19 =>
 optK (negB true (eqV 0 false v_17 v_19)) fun v_20 =>
 boolK v_20
 (optK (addOff 1 (.ptr b_10 0)) fun v_21 =>
 optK (rd1 s_15 v_21) fun v_22 =>
 optK (addOff 1 (.ptr b_12 0)) fun v_23 =>
 optK (rd1 s_15 v_23) fun v_24 =>
 optK (arithV .lss v_22 v_24) fun v_25 =>
 K v_25 s_15)
 (optK (addOff 0 (.ptr b_10 0)) fun v_26 =>
 optK (rd1 s_15 v_26) fun v_27 =>
 optK (addOff 0 (.ptr b_12 0)) fun v_28 =>
 optK (rd1 s_15 v_28) fun v_29 =>
 optK (arithV .lss v_27 v_29) fun v_30 =>
 K v_30 s_15)) (frz (cutH [(s, (add s s_11))] (add s s_11)))) (frz s)
def vc_spread_order_Less_ann : Nat → List Nat := fun _ => []
theorem vc_spread_order_Less_eq (X : Told) (o0 : AVal) (i1 : AVal) (j2 : AVal) (K : KvP) (s : Heap) : wpC Try.prog X vc_spread_order_Less_ann Try.f92.ntmps none (bodyOf Try.f92) (envOf [o0, i1, j2]) (fun e env s => retK e (resK Try.prog Try.f92.results.toList env (fun vs => K (oneV vs) s) s)) s = vc_spread_order_Less X o0 i1 j2 K s := by kernel_rfl
theorem vc_spread_order_Less_ok {X : Told} (hX : FrX X) (hn : X 92 = none) {o0 : AVal} {i1 : AVal} {j2 : AVal} {K : KvP} {s : Heap} (h : vc_spread_order_Less X o0 i1 j2 K s) : wpCall Try.prog X 92 [o0, i1, j2] K s :=
 wpCall_code hX vc_spread_order_Less_ann hn Try.func92 (by kernel_rfl : Try.f92.body = some (bodyOf Try.f92)) (by kernel_rfl) ((vc_spread_order_Less_eq X o0 i1 j2 K s).mpr h)
theorem vc_spread_order_Less_in {o0 : AVal} {i1 : AVal} {j2 : AVal} {K : KvP} {s : Heap} (h : vc_spread_order_Less XX o0 i1 j2 K s) : wpCall Try.prog XX 92 [o0, i1, j2] K s := vc_spread_order_Less_ok XX_fr rfl h
def vc_spread_order_Len (X : Told) (o0 : AVal) (K : KvP) (s : Heap) : Prop :=
 optK (nilCheckA o0) fun v_0 =>
 optK (addOff 0 v_0) fun v_1 =>
 optK (rd1 s v_1) fun v_2 =>
 optK (lenOfA v_2) fun v_3 =>
 K (.int .i64 v_3) s
def vc_spread_order_Len_ann : Nat → List Nat := fun _ => []
theorem vc_spread_order_Len_eq (X : Told) (o0 : AVal) (K : KvP) (s : Heap) : wpC Try.prog X vc_spread_order_Len_ann Try.f113.ntmps none (bodyOf Try.f113) (envOf [o0]) (fun e env s => retK e (resK Try.prog Try.f113.results.toList env (fun vs => K (oneV vs) s) s)) s = vc_spread_order_Len X o0 K s := by kernel_rfl
theorem vc_spread_order_Len_ok {X : Told} (hX : FrX X) (hn : X 113 = none) {o0 : AVal} {K : KvP} {s : Heap} (h : vc_spread_order_Len X o0 K s) : wpCall Try.prog X 113 [o0] K s :=
 wpCall_code hX vc_spread_order_Len_ann hn Try.func113 (by kernel_rfl : Try.f113.body = some (bodyOf Try.f113)) (by kernel_rfl) ((vc_spread_order_Len_eq X o0 K s).mpr h)
theorem vc_spread_order_Len_in {o0 : AVal} {K : KvP} {s : Heap} (h : vc_spread_order_Len XX o0 K s) : wpCall Try.prog XX 113 [o0] K s := vc_spread_order_Len_ok XX_fr rfl h
def vc_spread_order_Swap (X : Told) (o0 : AVal) (i1 : AVal) (j2 : AVal) (K : KvP) (s : Heap) : Prop :=
 optK (nilCheckA o0) fun v_0 =>
 optK (addOff 0 v_0) fun v_1 =>
 optK (rd1 s v_1) fun v_2 =>
 optK (nilCheckA o0) fun v_3 =>
 optK (addOff 0 v_3) fun v_4 =>
 optK (rd1 s v_4) fun v_5 =>
 optK (nilCheckA o0) fun v_6 =>
 optK (addOff 0 v_6) fun v_7 =>
 optK (rd1 s v_7) fun v_8 =>
 optK (iaddrS 2 v_8 j2) fun v_9 =>
 optK (rdN s 2 v_9) fun v_10 =>
 optK (nilCheckA o0) fun v_11 =>
 optK (addOff 0 v_11) fun v_12 =>
 optK (rd1 s v_12) fun v_13 =>
 optK (iaddrS 2 v_13 i1) fun v_14 =>
 optK (rdN s 2 v_14) fun v_15 =>
 optK (iaddrS 2 v_2 i1) fun v_16 =>
 optK (wrAgg s 2 v_16 (.agg v_10)) fun s_17 =>
 optK (iaddrS 2 v_5 j2) fun v_18 =>
 optK (wrAgg s_17 2 v_18 (.agg v_15)) fun s_19 =>
 K (.tup []) s_19
def vc_spread_order_Swap_ann : Nat → List Nat := fun _ => []
theorem vc_spread_order_Swap_eq (X : Told) (o0 : AVal) (i1 : AVal) (j2 : AVal) (K : KvP) (s : Heap) : wpC Try.prog X vc_spread_order_Swap_ann Try.f114.ntmps none (bodyOf Try.f114) (envOf [o0, i1, j2]) (fun e env s => retK e (resK Try.prog Try.f114.results.toList env (fun vs => K (oneV vs) s) s)) s = vc_spread_order_Swap X o0 i1 j2 K s := by kernel_rfl
theorem vc_spread_order_Swap_ok {X : Told} (hX : FrX X) (hn : X 114 = none) {o0 : AVal} {i1 : AVal} {j2 : AVal} {K : KvP} {s : Heap} (h : vc_spread_order_Swap X o0 i1 j2 K s) : wpCall Try.prog X 114 [o0, i1, j2] K s :=
 wpCall_code hX vc_spread_order_Swap_ann hn Try.func114 (by kernel_rfl : Try.f114.body = some (bodyOf Try.f114)) (by kernel_rfl) ((vc_spread_order_Swap_eq X o0 i1 j2 K s).mpr h)
theorem vc_spread_order_Swap_in {o0 : AVal} {i1 : AVal} {j2 : AVal} {K : KvP} {s : Heap} (h : vc_spread_order_Swap XX o0 i1 j2 K s) : wpCall Try.prog XX 114 [o0, i1, j2] K s := vc_spread_order_Swap_ok XX_fr rfl h
def vs_Clone___int_int_ (X : Told) (t0 : AVal) (K : KvP) (s : Heap) : Prop :=
 optK (negB false (eqV 5 true t0 .nilslc)) fun v_0 =>
 boolK v_0
 (K .nilslc s)
 (optK (fillR (repl 0 [(.int .i64 0)]) []) fun c_1 => allOne c_1 = true ∧ newK 3 c_1 (fun b_2 s_3 =>
 appK 3 1 (.slc b_2 0 0 (some 0) 1) t0 (fun v_4 s_5 =>
 K v_4 s_5) s_3) s)
def vs_Clone___int_int__ann : Nat → List Nat := fun _ => []
theorem vs_Clone___int_int__eq (X : Told) (t0 : AVal) (K : KvP) (s : Heap) : wpC Try.prog X vs_Clone___int_int__ann Try.f46.ntmps none (bodyOf Try.f46) (envOf [t0]) (fun e env s => retK e (resK Try.prog Try.f46.results.toList env (fun vs => K (oneV vs) s) s)) s = vs_Clone___int_int_ X t0 K s := by kernel_rfl
theorem vs_Clone___int_int__ok {X : Told} (hX : FrX X) (hn : X 46 = none) {t0 : AVal} {K : KvP} {s : Heap} (h : vs_Clone___int_int_ X t0 K s) : wpCall Try.prog X 46 [t0] K s :=
 wpCall_code hX vs_Clone___int_int__ann hn Try.func46 (by kernel_rfl : Try.f46.body = some (bodyOf Try.f46)) (by kernel_rfl) ((vs_Clone___int_int__eq X t0 K s).mpr h)
theorem vs_Clone___int_int__in {t0 : AVal} {K : KvP} {s : Heap} (h : vs_Clone___int_int_ XX t0 K s) : wpCall Try.prog XX 46 [t0] K s := vs_Clone___int_int__ok XX_fr rfl h
end Go.AM
set_option linter.unusedVariables false
namespace Go.AM
open Go Go.Proofs
set_option maxRecDepth 100000
def vllaw14_tables_j3 (X : Told) (out3 : AVal) (n4 : AVal) (t5 : AVal) (t41 : AVal) (t46 : AVal) (I1 : IvP) (m1 : Nat) (K : KvP) (s : Heap) : Prop :=
 optK (pickV t41 (.bool true) t46) fun v_21 =>
 boolK v_21
 (K .nilslc s)
 (optK (fillR (repl 1 [.nilptr]) [(0, 1, t5)]) fun c_22 => allOne c_22 = true ∧ newK 37 c_22 (fun b_23 s_24 =>
 appK 37 1 out3 (.slc b_23 0 1 (some 1) 1) (fun v_25 s_26 =>
 optK (arithV .add n4 (.int .i64 1)) fun v_27 =>
 ∃ m', m' < m1 ∧ I1 [v_25, v_27] s_26 m') s_24) s)
def vllaw14_tables_j2 (X : Told) (x1 : AVal) (out3 : AVal) (n4 : AVal) (t5 : AVal) (t37 : AVal) (t39 : AVal) (I1 : IvP) (m1 : Nat) (K : KvP) (s : Heap) : Prop :=
 optK (pickV t37 (.bool true) t39) fun v_20 =>
 boolK v_20
 (vllaw14_tables_j3 X out3 n4 t5 v_20 .undef I1 m1 K s)
 (optK (addOff 2 x1) fun v_28 =>
 optK (rd1 s v_28) fun v_29 =>
 wpCall Try.prog X 22 [t5, v_29] (fun v_30 s_31 =>
 optK (negB true (eqV 0 true v_30 (.int .i64 0))) fun v_32 =>
 vllaw14_tables_j3 X out3 n4 t5 v_20 v_32 I1 m1 K s_31) s)
def vllaw14_tables_l1 (X : Told) (x1 : AVal) (out3 : AVal) (n4 : AVal) (I1 : IvP) (m1 : Nat) (K : KvP) (s : Heap) : Prop :=
 optK (addOff 0 x1) fun v_8 =>
 optK (rd1 s v_8) fun v_9 =>
 optK (arithV .lss n4 v_9) fun v_10 =>
 boolK v_10
 (optK (addOff 0 x1) fun v_11 =>
 optK (rd1 s v_11) fun v_12 =>
 optK (addOff 1 x1) fun v_13 =>
 optK (rd1 s v_13) fun v_14 =>
 wpCall Try.prog X 18 [v_12, v_14, n4] (fun v_15 s_16 =>
 optK (extractA v_15 0) fun v_17 =>
 optK (extractA v_15 1) fun v_18 =>
 optK (negB true (eqV 0 true v_18 (.int .i64 0))) fun v_19 =>
 boolK v_19
 (vllaw14_tables_j2 X x1 out3 n4 v_17 v_19 .undef I1 m1 K s_16)
 (optK (negB false (eqV 3 true v_17 .nilptr)) fun v_33 =>
 vllaw14_tables_j2 X x1 out3 n4 v_17 v_19 v_33 I1 m1 K s_16)) s)
 (K out3 s)
def vllaw14_tables_j0 (X : Told) (x1 : AVal) (t11 : AVal) (t18 : AVal) (K : KvP) (s : Heap) : Prop :=
 optK (pickV t11 (.bool true) t18) fun v_7 =>
 boolK v_7
 (K .nilslc s)
 (∃ I1 : IvP, (∃ m, I1 [.nilslc, (.int .i64 0)] s m) ∧ ∀ (f : Env) (s : Heap) (m1 : Nat), I1 [f 3, f 4] s m1 →
 vllaw14_tables_l1 X x1 (f 3) (f 4) I1 m1 K s)
def vllaw14_tables (X : Told) (x0 : AVal) (K : KvP) (s : Heap) : Prop :=
 boxK 63 x0 (fun b_0 s_1 =>
 optK (addOff 1 b_0) fun v_2 =>
 optK (rd1 s_1 v_2) fun v_3 =>
 optK (lenOfA v_3) fun v_4 =>
 optK (arithV .gtr (.int .i64 v_4) (.int .i64 60)) fun v_6 =>
 boolK v_6
 (vllaw14_tables_j0 X b_0 v_6 .undef K s_1)
 (optK (addOff 2 b_0) fun v_34 =>
 optK (rd1 s_1 v_34) fun v_35 =>
 optK (lenOfA v_35) fun v_36 =>
 optK (addOff 1 b_0) fun v_38 =>
 optK (rd1 s_1 v_38) fun v_39 =>
 optK (lenOfA v_39) fun v_40 =>
 optK (negB true (eqV 0 false (.int .i64 v_36) (.int .i64 v_40))) fun v_42 =>
 vllaw14_tables_j0 X b_0 v_6 v_42 K s_1)) s
def vllaw14_tables_ann : Nat → List Nat := fun k => cond (Nat.beq k 10) [3, 4] ([])
theorem vllaw14_tables_eq (X : Told) (x0 : AVal) (K : KvP) (s : Heap) : wpC Try.prog X vllaw14_tables_ann Try.f26.ntmps none (bodyOf Try.f26) (envOf [x0]) (fun e env s => retK e (resK Try.prog Try.f26.results.toList env (fun vs => K (oneV vs) s) s)) s = vllaw14_tables X x0 K s := by kernel_rfl
theorem vllaw14_tables_ok {X : Told} (hX : FrX X) (hn : X 26 = none) {x0 : AVal} {K : KvP} {s : Heap} (h : vllaw14_tables X x0 K s) : wpCall Try.prog X 26 [x0] K s :=
 wpCall_code hX vllaw14_tables_ann hn Try.func26 (by kernel_rfl : Try.f26.body = some (bodyOf Try.f26)) (by kernel_rfl) ((vllaw14_tables_eq X x0 K s).mpr h)
theorem vllaw14_tables_in {x0 : AVal} {K : KvP} {s : Heap} (h : vllaw14_tables XX x0 K s) : wpCall Try.prog XX 26 [x0] K s := vllaw14_tables_ok XX_fr rfl h
def vlkit_Pick_j0 (X : Told) (x0 : AVal) (K : KvP) (s : Heap) : Prop :=
 K x0 s
def vlkit_Pick (X : Told) (x0 : AVal) (n1 : AVal) (K : KvP) (s : Heap) : Prop :=
 optK (arithV .rem x0 n1) fun v_0 =>
 optK (arithV .lss v_0 (.int .i64 0)) fun v_1 =>
 boolK v_1
 (optK (arithV .add v_0 n1) fun v_2 =>
 vlkit_Pick_j0 X v_2 K s)
 (vlkit_Pick_j0 X v_0 K s)
def vlkit_Pick_ann : Nat → List Nat := fun _ => []
theorem vlkit_Pick_eq (X : Told) (x0 : AVal) (n1 : AVal) (K : KvP) (s : Heap) : wpC Try.prog X vlkit_Pick_ann Try.f27.ntmps none (bodyOf Try.f27) (envOf [x0, n1]) (fun e env s => retK e (resK Try.prog Try.f27.results.toList env (fun vs => K (oneV vs) s) s)) s = vlkit_Pick X x0 n1 K s := by kernel_rfl
theorem vlkit_Pick_ok {X : Told} (hX : FrX X) (hn : X 27 = none) {x0 : AVal} {n1 : AVal} {K : KvP} {s : Heap} (h : vlkit_Pick X x0 n1 K s) : wpCall Try.prog X 27 [x0, n1] K s :=
 wpCall_code hX vlkit_Pick_ann hn Try.func27 (by kernel_rfl : Try.f27.body = some (bodyOf Try.f27)) (by kernel_rfl) ((vlkit_Pick_eq X x0 n1 K s).mpr h)
theorem vlkit_Pick_in {x0 : AVal} {n1 : AVal} {K : KvP} {s : Heap} (h : vlkit_Pick XX x0 n1 K s) : wpCall Try.prog XX 27 [x0, n1] K s := vlkit_Pick_ok XX_fr rfl h
def vc_fib_New_j1 (X : Told) (nodes0 : AVal) (links1 : AVal) (self2 : AVal) (t24 : AVal) (t27 : AVal) (K : KvP) (s : Heap) : Prop :=
 optK (pickV t24 (.bool true) t27) fun v_5 =>
 boolK v_5
 (K (.tup [.nilptr, (.int .i64 2)]) s)
 (wpCall Try.prog X 36 [self2] (fun v_6 s_7 =>
 optK (extractA v_6 0) fun v_8 =>
 optK (extractA v_6 1) fun v_9 =>
 optK (negB true (eqV 0 true v_9 (.int .i64 0))) fun v_10 =>
 boolK v_10
 (K (.tup [.nilptr, (.int .i64 2)]) s_7)
 (wpCall Try.prog X 40 [links1] (fun v_11 s_12 =>
 mapK (fun v_13 s_14 =>
 optK (fillR [(.int .i64 0), (.int .i64 0), (.int .u32 0), .nilslc, .nilslc, .nilmap] [(0, 1, nodes0), (1, 1, self2), (2, 1, v_8), (3, 1, v_11), (5, 1, v_13)]) fun c_15 =>
 boxK 82 (.agg c_15) (fun b_16 s_17 =>
 K (.tup [b_16, (.int .i64 0)]) s_17) s_14) s_12) s_7)) s)
def vc_fib_New_j0 (X : Told) (nodes0 : AVal) (links1 : AVal) (self2 : AVal) (t13 : AVal) (t20 : AVal) (K : KvP) (s : Heap) : Prop :=
 optK (pickV t13 (.bool true) t20) fun v_3 =>
 boolK v_3
 (K (.tup [.nilptr, (.int .i64 3)]) s)
 (optK (arithV .lss self2 (.int .i64 0)) fun v_4 =>
 boolK v_4
 (vc_fib_New_j1 X nodes0 links1 self2 v_4 .undef K s)
 (optK (arithV .geq self2 nodes0) fun v_18 =>
 vc_fib_New_j1 X nodes0 links1 self2 v_4 v_18 K s))
def vc_fib_New (X : Told) (nodes0 : AVal) (links1 : AVal) (self2 : AVal) (K : KvP) (s : Heap) : Prop :=
 optK (lenOfA links1) fun v_0 =>
 optK (arithV .gtr (.int .i64 v_0) (.int .i64 128)) fun v_2 =>
 boolK v_2
 (vc_fib_New_j0 X nodes0 links1 self2 v_2 .undef K s)
 (optK (lenOfA links1) fun v_19 =>
 optK (nat? (.int .i64 v_19)) fun n_21 => optK (nat? (.int .i64 v_19)) fun n_22 => (n_21 ≤ n_22 ∧ n_22 ≤ 4294967296) ∧ newK 4 (repl n_22 [(.bool false)]) (fun b_23 s_24 =>
 wpCall Try.prog X 28 [nodes0, links1, (.slc b_23 0 n_21 (some n_22) 1), (.int .i64 0)] (fun v_25 s_26 =>
 optK (negB false (eqV 5 true v_25 .nilslc)) fun v_27 =>
 vc_fib_New_j0 X nodes0 links1 self2 v_2 v_27 K s_26) s_24) s)
def vc_fib_New_ann : Nat → List Nat := fun _ => []
theorem vc_fib_New_eq (X : Told) (nodes0 : AVal) (links1 : AVal) (self2 : AVal) (K : KvP) (s : Heap) : wpC Try.prog X vc_fib_New_ann Try.f18.ntmps none (bodyOf Try.f18) (envOf [nodes0, links1, self2]) (fun e env s => retK e (resK Try.prog Try.f18.results.toList env (fun vs => K (oneV vs) s) s)) s = vc_fib_New X nodes0 links1 self2 K s := by kernel_rfl
theorem vc_fib_New_ok {X : Told} (hX : FrX X) (hn : X 18 = none) {nodes0 : AVal} {links1 : AVal} {self2 : AVal} {K : KvP} {s : Heap} (h : vc_fib_New X nodes0 links1 self2 K s) : wpCall Try.prog X 18 [nodes0, links1, self2] K s :=
 wpCall_code hX vc_fib_New_ann hn Try.func18 (by kernel_rfl : Try.f18.body = some (bodyOf Try.f18)) (by kernel_rfl) ((vc_fib_New_eq X nodes0 links1 self2 K s).mpr h)
theorem vc_fib_New_in {nodes0 : AVal} {links1 : AVal} {self2 : AVal} {K : KvP} {s : Heap} (h : vc_fib_New XX nodes0 links1 self2 K s) : wpCall Try.prog XX 18 [nodes0, links1, self2] K s := vc_fib_New_ok XX_fr rfl h
def vc_fib_Fib_Update_j1 (X : Told) (t41 : AVal) (I0 : IvP) (m0 : Nat) (K : KvP) (s : Heap) : Prop :=
 optK (arithV .add t41 (.int .i64 1)) fun v_53 =>
 ∃ m', m' < m0 ∧ I0 [v_53] s m'
def vc_fib_Fib_Update_l0 (X : Told) (t0 : AVal) (reached5 : AVal) (t39 : AVal) (t40 : AVal) (t41 : AVal) (I0 : IvP) (m0 : Nat) (K : KvP) (s : Heap) : Prop :=
 optK (arithV .lss t41 t40) fun v_29 =>
 boolK v_29
 (optK (iaddrS 2 t39 t41) fun v_30 =>
 optK (rdN s 2 v_30) fun v_31 =>
 newK 86 [(.int .u32 0), .nilslc] (fun b_32 s_33 =>
 optK (wrAgg s_33 2 (.ptr b_32 0) (.agg v_31)) fun s_34 =>
 optK (nilCheckA t0) fun v_35 =>
 optK (addOff 4 v_35) fun v_36 =>
 optK (rd1 s_34 v_36) fun v_37 =>
 optK (rdN s_34 2 (.ptr b_32 0)) fun v_38 =>
 optK (fillR (repl 1 [(.int .u32 0), .nilslc]) [(0, 2, (.agg v_38))]) fun c_39 => allOne c_39 = true ∧ newK 89 c_39 (fun b_40 s_41 =>
 (∀ b, s_34 b ≠ none → s_34 b = none → s_41 b = none) →
 appK 89 2 v_37 (.slc b_40 0 1 (some 1) 2) (fun v_42 s_43 =>
 optK (nilCheckA t0) fun v_44 =>
 optK (addOff 4 v_44) fun v_45 =>
 optK (wr1 s_43 v_45 v_42) fun s_46 =>
 optK (addOff 0 (.ptr b_32 0)) fun v_47 =>
 optK (rd1 s_46 v_47) fun v_48 =>
 wpCall Try.prog X 42 [v_48] (fun v_49 s_50 =>
 optK (extractA v_49 0) fun v_51 =>
 optK (extractA v_49 1) fun v_52 =>
 boolK v_52
 (optK (iaddrA 32 1 reached5 v_51) fun v_54 =>
 optK (wr1 s_50 v_54 (.bool true)) fun s_55 =>
 optK (addOff 1 (.ptr b_32 0)) fun v_56 =>
 optK (rd1 s_55 v_56) fun v_57 =>
 wpCall Try.prog X 43 [t0, v_51, v_57] (fun v_58 s_59 =>
 vc_fib_Fib_Update_j1 X t41 I0 m0 K s_59) s_55)
 (vc_fib_Fib_Update_j1 X t41 I0 m0 K s_50)) s_46) (add s_34 s_41)) (frz s_34)) s)
 (optK (nilCheckA t0) fun v_60 =>
 optK (addOff 5 v_60) fun v_61 =>
 optK (rd1 s v_61) fun v_62 =>
 iterK v_62 (fun v_63 s_64 =>
 optK (iterOf s_64 v_63) fun p_65 => ∃ S_68 S_69 : List AVal,
 (∀ e_66 ∈ p_65.2.2.2.2, ∀ n_67 : List Nat, lastN n_67 = some e_66.born → ∀ f : Env, ([f 75, f 76, f 77, f 78, f 79, f 10, f 11, f 80, f 81, f 82, f 83, f 84, f 85] = [.undef, .undef, .undef, .undef, .undef, .undef, .undef, .undef, .undef, .undef, .undef, .undef, .undef] ∨ shEs [f 75, f 76, f 77, f 78, f 79, f 10, f 11, f 80, f 81, f 82, f 83, f 84, f 85] S_68 = true) →
 boolK (.bool true)
 (optK (entD (frz (hset (hdel s_64 p_65.1) p_65.1 (true, .iter p_65.2.1 p_65.2.2.1 n_67 p_65.2.2.2.1))) v_63) fun v_70 =>
 optK (extractA v_70 0) fun v_71 =>
 optK (extractA v_70 1) fun v_72 =>
 optK (iaddrA 32 1 reached5 v_71) fun v_73 =>
 optK (rd1 (frz (hset (hdel s_64 p_65.1) p_65.1 (true, .iter p_65.2.1 p_65.2.2.1 n_67 p_65.2.2.2.1))) v_73) fun v_74 =>
 optK (unaryA .not v_74) fun v_75 =>
 boolK v_75
 (wpCall Try.prog X 44 [v_72, .nilslc] (fun v_76 s_77 =>
 AExit.nrm = .nrm ∧ shEs [(.tup [.bool true, e_66.key, e_66.val]), (.bool true), v_70, v_71, v_72, v_71, v_72, v_71, v_73, v_74, v_75, v_72, v_76] S_68 = true) (frz (hset (hdel s_64 p_65.1) p_65.1 (true, .iter p_65.2.1 p_65.2.2.1 n_67 p_65.2.2.2.1))))
 (AExit.nrm = .nrm ∧ shEs [(.tup [.bool true, e_66.key, e_66.val]), (.bool true), v_70, v_71, v_72, v_71, v_72, v_71, v_73, v_74, v_75, (f 84), (f 85)] S_68 = true))
 (AExit.exit 2 = .nrm ∧ shEs [(.tup [.bool true, e_66.key, e_66.val]), (.bool true), (f 77), (f 78), (f 79), (f 10), (f 11), (f 80), (f 81), (f 82), (f 83), (f 84), (f 85)] S_68 = true)) ∧
 (∀ f : Env, ((p_65.2.2.2.2 = [] ∧ [f 75, f 76, f 77, f 78, f 79, f 10, f 11, f 80, f 81, f 82, f 83, f 84, f 85] = [.undef, .undef, .undef, .undef, .undef, .undef, .undef, .undef, .undef, .undef, .undef, .undef, .undef]) ∨ (p_65.2.2.2.2 ≠ [] ∧ shEs [f 75, f 76, f 77, f 78, f 79, f 10, f 11, f 80, f 81, f 82, f 83, f 84, f 85] S_68 = true)) →
 boolK (.bool false)
 (optK (entD (frz (hdel s_64 p_65.1)) v_63) fun v_78 =>
 optK (extractA v_78 0) fun v_79 =>
 optK (extractA v_78 1) fun v_80 =>
 optK (iaddrA 32 1 reached5 v_79) fun v_81 =>
 optK (rd1 (frz (hdel s_64 p_65.1)) v_81) fun v_82 =>
 optK (unaryA .not v_82) fun v_83 =>
 boolK v_83
 (wpCall Try.prog X 44 [v_80, .nilslc] (fun v_84 s_85 =>
 AExit.nrm = .exit 2 ∧ (p_65.2.2.2.2 ≠ [] → shEs [(.tup [.bool false]), (.bool false), v_78, v_79, v_80, v_79, v_80, v_79, v_81, v_82, v_83, v_80, v_84] S_69 = true)) (frz (hdel s_64 p_65.1)))
 (AExit.nrm = .exit 2 ∧ (p_65.2.2.2.2 ≠ [] → shEs [(.tup [.bool false]), (.bool false), v_78, v_79, v_80, v_79, v_80, v_79, v_81, v_82, v_83, (f 84), (f 85)] S_69 = true)))
 (AExit.exit 2 = .exit 2 ∧ (p_65.2.2.2.2 ≠ [] → shEs [(.tup [.bool false]), (.bool false), (f 77), (f 78), (f 79), (f 10), (f 11), (f 80), (f 81), (f 82), (f 83), (f 84), (f 85)] S_69 = true))) ∧
 ∀ f : Env,
 K (.int .i64 0) (hdel s_64 p_65.1)) s)
def vc_fib_Fib_Update (X : Told) (t0 : AVal) (up1 : AVal) (K : KvP) (s : Heap) : Prop :=
 wpCall Try.prog X 41 [t0] (fun v_0 s_1 =>
 optK (unaryA .not v_0) fun v_2 =>
 boolK v_2
 (K (.int .i64 1) s_1)
 (optK (lenOfA up1) fun v_3 =>
 optK (nilCheckA t0) fun v_5 =>
 optK (addOff 3 v_5) fun v_6 =>
 optK (rd1 s_1 v_6) fun v_7 =>
 optK (lenOfA v_7) fun v_8 =>
 optK (negB true (eqV 0 false (.int .i64 v_3) (.int .i64 v_8))) fun v_10 =>
 boolK v_10
 (K (.int .i64 2) s_1)
 (optK (nilCheckA t0) fun v_11 =>
 optK (addOff 4 v_11) fun v_12 =>
 optK (wr1 s_1 v_12 .nilslc) fun s_13 =>
 newK 90 [(.bool false), (.bool false), (.bool false), (.bool false), (.bool false), (.bool false), (.bool false), (.bool false), (.bool false), (.bool false), (.bool false), (.bool false), (.bool false), (.bool false), (.bool false), (.bool false), (.bool false), (.bool false), (.bool false), (.bool false), (.bool false), (.bool false), (.bool false), (.bool false), (.bool false), (.bool false), (.bool false), (.bool false), (.bool false), (.bool false), (.bool false), (.bool false)] (fun b_14 s_15 =>
 optK (nilCheckA t0) fun v_16 =>
 optK (addOff 0 v_16) fun v_17 =>
 optK (rd1 s_15 v_17) fun v_18 =>
 optK (nilCheckA t0) fun v_19 =>
 optK (addOff 3 v_19) fun v_20 =>
 optK (rd1 s_15 v_20) fun v_21 =>
 optK (nilCheckA t0) fun v_22 =>
 optK (addOff 1 v_22) fun v_23 =>
 optK (rd1 s_15 v_23) fun v_24 =>
 wpCall Try.prog X 13 [v_18, v_21, up1, v_24] (fun v_25 s_26 =>
 optK (lenOfA v_25) fun v_27 =>
 ∃ I0 : IvP, (∃ m, I0 [(.int .i64 0)] s_26 m) ∧ ∀ (f : Env) (s : Heap) (m0 : Nat), I0 [f 41] s m0 →
 vc_fib_Fib_Update_l0 X t0 (.ptr b_14 0) v_25 (.int .i64 v_27) (f 41) I0 m0 K s) s_15) s_13))) s
def vc_fib_Fib_Update_ann : Nat → List Nat := fun k => cond (Nat.beq k 16) [41] ([])
theorem vc_fib_Fib_Update_eq (X : Told) (t0 : AVal) (up1 : AVal) (K : KvP) (s : Heap) : wpC Try.prog X vc_fib_Fib_Update_ann Try.f22.ntmps none (bodyOf Try.f22) (envOf [t0, up1]) (fun e env s => retK e (resK Try.prog Try.f22.results.toList env (fun vs => K (oneV vs) s) s)) s = vc_fib_Fib_Update X t0 up1 K s := by kernel_rfl
theorem vc_fib_Fib_Update_ok {X : Told} (hX : FrX X) (hn : X 22 = none) {t0 : AVal} {up1 : AVal} {K : KvP} {s : Heap} (h : vc_fib_Fib_Update X t0 up1 K s) : wpCall Try.prog X 22 [t0, up1] K s :=
 wpCall_code hX vc_fib_Fib_Update_ann hn Try.func22 (by kernel_rfl : Try.f22.body = some (bodyOf Try.f22)) (by kernel_rfl) ((vc_fib_Fib_Update_eq X t0 up1 K s).mpr h)
theorem vc_fib_Fib_Update_in {t0 : AVal} {up1 : AVal} {K : KvP} {s : Heap} (h : vc_fib_Fib_Update XX t0 up1 K s) : wpCall Try.prog XX 22 [t0, up1] K s := vc_fib_Fib_Update_ok XX_fr rfl h
def vc_fib_Fib_valid_j0 (X : Told) (t5 : AVal) (t10 : AVal) (K : KvP) (s : Heap) : Prop :=
 optK (pickV t5 t10 (.bool false)) fun v_1 =>
 K v_1 s
def vc_fib_Fib_valid (X : Told) (t0 : AVal) (K : KvP) (s : Heap) : Prop :=
 optK (negB true (eqV 3 true t0 .nilptr)) fun v_0 =>
 boolK v_0
 (optK (nilCheckA t0) fun v_2 =>
 optK (addOff 0 v_2) fun v_3 =>
 optK (rd1 s v_3) fun v_4 =>
 optK (arithV .gtr v_4 (.int .i64 0)) fun v_5 =>
 vc_fib_Fib_valid_j0 X v_0 v_5 K s)
 (vc_fib_Fib_valid_j0 X v_0 .undef K s)
def vc_fib_Fib_valid_ann : Nat → List Nat := fun _ => []
theorem vc_fib_Fib_valid_eq (X : Told) (t0 : AVal) (K : KvP) (s : Heap) : wpC Try.prog X vc_fib_Fib_valid_ann Try.f41.ntmps none (bodyOf Try.f41) (envOf [t0]) (fun e env s => retK e (resK Try.prog Try.f41.results.toList env (fun vs => K (oneV vs) s) s)) s = vc_fib_Fib_valid X t0 K s := by kernel_rfl
theorem vc_fib_Fib_valid_ok {X : Told} (hX : FrX X) (hn : X 41 = none) {t0 : AVal} {K : KvP} {s : Heap} (h : vc_fib_Fib_valid X t0 K s) : wpCall Try.prog X 41 [t0] K s :=
 wpCall_code hX vc_fib_Fib_valid_ann hn Try.func41 (by kernel_rfl : Try.f41.body = some (bodyOf Try.f41)) (by kernel_rfl) ((vc_fib_Fib_valid_eq X t0 K s).mpr h)
theorem vc_fib_Fib_valid_in {t0 : AVal} {K : KvP} {s : Heap} (h : vc_fib_Fib_valid XX t0 K s) : wpCall Try.prog XX 41 [t0] K s := vc_fib_Fib_valid_ok XX_fr rfl h
def vc_addr_Node_j0 (X : Told) (ip0 : AVal) (t6 : AVal) (t8 : AVal) (K : KvP) (s : Heap) : Prop :=
 optK (pickV t6 (.bool true) t8) fun v_1 =>
 boolK v_1
 (K (.tup [(.int .i64 0), (.bool false)]) s)
 (optK (arithV .sub ip0 (.int .u32 184483840)) fun v_2 =>
 optK (arithV .sub v_2 (.int .u32 1)) fun v_3 =>
 optK (convI .i64 v_3) fun v_4 =>
 K (.tup [v_4, (.bool true)]) s)
def vc_addr_Node (X : Told) (ip0 : AVal) (K : KvP) (s : Heap) : Prop :=
 optK (arithV .leq ip0 (.int .u32 184483840)) fun v_0 =>
 boolK v_0
 (vc_addr_Node_j0 X ip0 v_0 .undef K s)
 (optK (arithV .gtr ip0 (.int .u32 184483872)) fun v_5 =>
 vc_addr_Node_j0 X ip0 v_0 v_5 K s)
def vc_addr_Node_ann : Nat → List Nat := fun _ => []
theorem vc_addr_Node_eq (X : Told) (ip0 : AVal) (K : KvP) (s : Heap) : wpC Try.prog X vc_addr_Node_ann Try.f42.ntmps none (bodyOf Try.f42) (envOf [ip0]) (fun e env s => retK e (resK Try.prog Try.f42.results.toList env (fun vs => K (oneV vs) s) s)) s = vc_addr_Node X ip0 K s := by kernel_rfl
theorem vc_addr_Node_ok {X : Told} (hX : FrX X) (hn : X 42 = none) {ip0 : AVal} {K : KvP} {s : Heap} (h : vc_addr_Node X ip0 K s) : wpCall Try.prog X 42 [ip0] K s :=
 wpCall_code hX vc_addr_Node_ann hn Try.func42 (by kernel_rfl : Try.f42.body = some (bodyOf Try.f42)) (by kernel_rfl) ((vc_addr_Node_eq X ip0 K s).mpr h)
theorem vc_addr_Node_in {ip0 : AVal} {K : KvP} {s : Heap} (h : vc_addr_Node XX ip0 K s) : wpCall Try.prog XX 42 [ip0] K s := vc_addr_Node_ok XX_fr rfl h
def vc_fib_Fib_turn_j0 (X : Told) (links2 : AVal) (w6 : AVal) (K : KvP) (s : Heap) : Prop :=
 optK (lenOfA links2) fun v_7 =>
 optK (foldA min2A (.int .i64 v_7) [(.int .i64 64)]) fun v_11 =>
 optK (sliceS 1 links2 none (some v_11) none) fun v_12 =>
 wpCall Try.prog X 44 [w6, v_12] (fun v_13 s_14 =>
 K (.tup []) s_14) s
def vc_fib_Fib_turn (X : Told) (t0 : AVal) (n1 : AVal) (links2 : AVal) (K : KvP) (s : Heap) : Prop :=
 optK (nilCheckA t0) fun v_0 =>
 optK (addOff 5 v_0) fun v_1 =>
 optK (rd1 s v_1) fun v_2 =>
 optK (getM s v_2 n1) fun r_3 =>
 optK (extractA (retM .nilptr true r_3) 0) fun v_4 =>
 optK (extractA (retM .nilptr true r_3) 1) fun v_5 =>
 optK (unaryA .not v_5) fun v_6 =>
 boolK v_6
 (wpCall Try.prog X 62 [(.int .i64 64)] (fun v_15 s_16 =>
 optK (extractA v_15 0) fun v_17 =>
 optK (extractA v_15 1) fun v_18 =>
 optK (nilCheckA t0) fun v_19 =>
 optK (addOff 5 v_19) fun v_20 =>
 optK (rd1 s_16 v_20) fun v_21 =>
 optK (putM s_16 v_21 n1 v_17) fun s_22 =>
 vc_fib_Fib_turn_j0 X links2 v_17 K s_22) s)
 (vc_fib_Fib_turn_j0 X links2 v_4 K s)
def vc_fib_Fib_turn_ann : Nat → List Nat := fun _ => []
theorem vc_fib_Fib_turn_eq (X : Told) (t0 : AVal) (n1 : AVal) (links2 : AVal) (K : KvP) (s : Heap) : wpC Try.prog X vc_fib_Fib_turn_ann Try.f43.ntmps none (bodyOf Try.f43) (envOf [t0, n1, links2]) (fun e env s => retK e (resK Try.prog Try.f43.results.toList env (fun vs => K (oneV vs) s) s)) s = vc_fib_Fib_turn X t0 n1 links2 K s := by kernel_rfl
theorem vc_fib_Fib_turn_ok {X : Told} (hX : FrX X) (hn : X 43 = none) {t0 : AVal} {n1 : AVal} {links2 : AVal} {K : KvP} {s : Heap} (h : vc_fib_Fib_turn X t0 n1 links2 K s) : wpCall Try.prog X 43 [t0, n1, links2] K s :=
 wpCall_code hX vc_fib_Fib_turn_ann hn Try.func43 (by kernel_rfl : Try.f43.body = some (bodyOf Try.f43)) (by kernel_rfl) ((vc_fib_Fib_turn_eq X t0 n1 links2 K s).mpr h)
theorem vc_fib_Fib_turn_in {t0 : AVal} {n1 : AVal} {links2 : AVal} {K : KvP} {s : Heap} (h : vc_fib_Fib_turn XX t0 n1 links2 K s) : wpCall Try.prog XX 43 [t0, n1, links2] K s := vc_fib_Fib_turn_ok XX_fr rfl h
def vc_fib_Fib_find (X : Told) (t0 : AVal) (dst1 : AVal) (K : KvP) (s : Heap) : Prop :=
 newK 89 [(.int .u32 0), .nilslc] (fun b_0 s_1 =>
 optK (nilCheckA t0) fun v_2 =>
 optK (addOff 4 v_2) fun v_3 =>
 optK (rd1 s_1 v_3) fun v_4 =>
 wpCall Try.prog X 68 [v_4, dst1, (.fn (.func 69) [] [])] (fun v_5 s_6 =>
 optK (extractA v_5 0) fun v_7 =>
 optK (extractA v_5 1) fun v_8 =>
 optK (unaryA .not v_8) fun v_9 =>
 boolK v_9
 (optK (fillR [(.int .u32 0), .nilslc] []) fun c_10 =>
 optK (wrAgg s_6 2 (.ptr b_0 0) (.agg c_10)) fun s_11 =>
 optK (rdN s_11 2 (.ptr b_0 0)) fun t4_12 =>
 K (.tup [(.agg t4_12), (.bool false)]) s_11)
 (optK (nilCheckA t0) fun v_13 =>
 optK (addOff 4 v_13) fun v_14 =>
 optK (rd1 s_6 v_14) fun v_15 =>
 optK (iaddrS 2 v_15 v_7) fun v_16 =>
 optK (rdN s_6 2 v_16) fun v_17 =>
 optK (wrAgg s_6 2 (.ptr b_0 0) (.agg v_17)) fun s_18 =>
 optK (rdN s_18 2 (.ptr b_0 0)) fun t4_19 =>
 K (.tup [(.agg t4_19), (.bool true)]) s_18)) s_1) s
def vc_fib_Fib_find_ann : Nat → List Nat := fun _ => []
theorem vc_fib_Fib_find_eq (X : Told) (t0 : AVal) (dst1 : AVal) (K : KvP) (s : Heap) : wpC Try.prog X vc_fib_Fib_find_ann Try.f45.ntmps none (bodyOf Try.f45) (envOf [t0, dst1]) (fun e env s => retK e (resK Try.prog Try.f45.results.toList env (fun vs => K (oneV vs) s) s)) s = vc_fib_Fib_find X t0 dst1 K s := by kernel_rfl
theorem vc_fib_Fib_find_ok {X : Told} (hX : FrX X) (hn : X 45 = none) {t0 : AVal} {dst1 : AVal} {K : KvP} {s : Heap} (h : vc_fib_Fib_find X t0 dst1 K s) : wpCall Try.prog X 45 [t0, dst1] K s :=
 wpCall_code hX vc_fib_Fib_find_ann hn Try.func45 (by kernel_rfl : Try.f45.body = some (bodyOf Try.f45)) (by kernel_rfl) ((vc_fib_Fib_find_eq X t0 dst1 K s).mpr h)
theorem vc_fib_Fib_find_in {t0 : AVal} {dst1 : AVal} {K : KvP} {s : Heap} (h : vc_fib_Fib_find XX t0 dst1 K s) : wpCall Try.prog XX 45 [t0, dst1] K s := vc_fib_Fib_find_ok XX_fr rfl h
def vs_BinarySearchFunc___fib_entry_fib_entry_api_IP__j1 (X : Told) (t35 : AVal) (t39 : AVal) (t47 : AVal) (K : KvP) (s : Heap) : Prop :=
 optK (pickV t39 t47 (.bool false)) fun v_14 =>
 K (.tup [t35, v_14]) s
def vs_BinarySearchFunc___fib_entry_fib_entry_api_IP__l0 (X : Told) (x0 : AVal) (target1 : AVal) (cmp2 : AVal) (n8 : AVal) (i9 : AVal) (j10 : AVal) (I0 : IvP) (m0 : Nat) (K : KvP) (s : Heap) : Prop :=
 optK (arithV .lss i9 j10) fun v_2 =>
 boolK v_2
 (optK (arithV .add i9 j10) fun v_3 =>
 optK (convI .u64 v_3) fun v_4 =>
 optK (shiftV .shr v_4 (.int .u64 1)) fun v_5 =>
 optK (convI .i64 v_5) fun v_6 =>
 optK (iaddrS 2 x0 v_6) fun v_7 =>
 optK (rdN s 2 v_7) fun v_8 =>
 funK Try.prog X cmp2 [(.agg v_8), target1] (fun v_9 s_10 =>
 optK (arithV .lss v_9 (.int .i64 0)) fun v_11 =>
 boolK v_11
 (optK (arithV .add v_6 (.int .i64 1)) fun v_12 =>
 ∃ m', m' < m0 ∧ I0 [v_12, j10] s_10 m')
 (∃ m', m' < m0 ∧ I0 [i9, v_6] s_10 m')) s)
 (optK (arithV .lss i9 n8) fun v_13 =>
 boolK v_13
 (optK (iaddrS 2 x0 i9) fun v_15 =>
 optK (rdN s 2 v_15) fun v_16 =>
 funK Try.prog X cmp2 [(.agg v_16), target1] (fun v_17 s_18 =>
 optK (negB false (eqV 0 true v_17 (.int .i64 0))) fun v_19 =>
 vs_BinarySearchFunc___fib_entry_fib_entry_api_IP__j1 X i9 v_13 v_19 K s_18) s)
 (vs_BinarySearchFunc___fib_entry_fib_entry_api_IP__j1 X i9 v_13 .undef K s))
def vs_BinarySearchFunc___fib_entry_fib_entry_api_IP_ (X : Told) (x0 : AVal) (target1 : AVal) (cmp2 : AVal) (K : KvP) (s : Heap) : Prop :=
 optK (lenOfA x0) fun v_0 =>
 ∃ I0 : IvP, (∃ m, I0 [(.int .i64 0), (.int .i64 v_0)] s m) ∧ ∀ (f : Env) (s : Heap) (m0 : Nat), I0 [f 9, f 10] s m0 →
 vs_BinarySearchFunc___fib_entry_fib_entry_api_IP__l0 X x0 target1 cmp2 (.int .i64 v_0) (f 9) (f 10) I0 m0 K s
def vs_BinarySearchFunc___fib_entry_fib_entry_api_IP__ann : Nat → List Nat := fun k => cond (Nat.beq k 6) [9, 10] ([])
theorem vs_BinarySearchFunc___fib_entry_fib_entry_api_IP__eq (X : Told) (x0 : AVal) (target1 : AVal) (cmp2 : AVal) (K : KvP) (s : Heap) : wpC Try.prog X vs_BinarySearchFunc___fib_entry_fib_entry_api_IP__ann Try.f68.ntmps none (bodyOf Try.f68) (envOf [x0, target1, cmp2]) (fun e env s => retK e (resK Try.prog Try.f68.results.toList env (fun vs => K (oneV vs) s) s)) s = vs_BinarySearchFunc___fib_entry_fib_entry_api_IP_ X x0 target1 cmp2 K s := by kernel_rfl
theorem vs_BinarySearchFunc___fib_entry_fib_entry_api_IP__ok {X : Told} (hX : FrX X) (hn : X 68 = none) {x0 : AVal} {target1 : AVal} {cmp2 : AVal} {K : KvP} {s : Heap} (h : vs_BinarySearchFunc___fib_entry_fib_entry_api_IP_ X x0 target1 cmp2 K s) : wpCall Try.prog X 68 [x0, target1, cmp2] K s :=
 wpCall_code hX vs_BinarySearchFunc___fib_entry_fib_entry_api_IP__ann hn Try.func68 (by kernel_rfl : Try.f68.body = some (bodyOf Try.f68)) (by kernel_rfl) ((vs_BinarySearchFunc___fib_entry_fib_entry_api_IP__eq X x0 target1 cmp2 K s).mpr h)
theorem vs_BinarySearchFunc___fib_entry_fib_entry_api_IP__in {x0 : AVal} {target1 : AVal} {cmp2 : AVal} {K : KvP} {s : Heap} (h : vs_BinarySearchFunc___fib_entry_fib_entry_api_IP_ XX x0 target1 cmp2 K s) : wpCall Try.prog XX 68 [x0, target1, cmp2] K s := vs_BinarySearchFunc___fib_entry_fib_entry_api_IP__ok XX_fr rfl h
def vc_fib_entry_compare (X : Told) (e0 : AVal) (dst1 : AVal) (K : KvP) (s : Heap) : Prop :=
 boxK 89 e0 (fun b_0 s_1 =>
 optK (addOff 0 b_0) fun v_2 =>
 optK (rd1 s_1 v_2) fun v_3 =>
 wpCall Try.prog X 82 [v_3, dst1] (fun v_4 s_5 =>
 K v_4 s_5) s_1) s
def vc_fib_entry_compare_ann : Nat → List Nat := fun _ => []
theorem vc_fib_entry_compare_eq (X : Told) (e0 : AVal) (dst1 : AVal) (K : KvP) (s : Heap) : wpC Try.prog X vc_fib_entry_compare_ann Try.f69.ntmps none (bodyOf Try.f69) (envOf [e0, dst1]) (fun e env s => retK e (resK Try.prog Try.f69.results.toList env (fun vs => K (oneV vs) s) s)) s = vc_fib_entry_compare X e0 dst1 K s := by kernel_rfl
theorem vc_fib_entry_compare_ok {X : Told} (hX : FrX X) (hn : X 69 = none) {e0 : AVal} {dst1 : AVal} {K : KvP} {s : Heap} (h : vc_fib_entry_compare X e0 dst1 K s) : wpCall Try.prog X 69 [e0, dst1] K s :=
 wpCall_code hX vc_fib_entry_compare_ann hn Try.func69 (by kernel_rfl : Try.f69.body = some (bodyOf Try.f69)) (by kernel_rfl) ((vc_fib_entry_compare_eq X e0 dst1 K s).mpr h)
theorem vc_fib_entry_compare_in {e0 : AVal} {dst1 : AVal} {K : KvP} {s : Heap} (h : vc_fib_entry_compare XX e0 dst1 K s) : wpCall Try.prog XX 69 [e0, dst1] K s := vc_fib_entry_compare_ok XX_fr rfl h
def vs_Clone___api_Link_api_Link_ (X : Told) (t0 : AVal) (K : KvP) (s : Heap) : Prop :=
 optK (negB false (eqV 5 true t0 .nilslc)) fun v_0 =>
 boolK v_0
 (K .nilslc s)
 (optK (fillR (repl 0 [(.int .i64 0), (.int .i64 0), (.int .i64 0)]) []) fun c_1 => allOne c_1 = true ∧ newK 27 c_1 (fun b_2 s_3 =>
 appK 27 3 (.slc b_2 0 0 (some 0) 3) t0 (fun v_4 s_5 =>
 K v_4 s_5) s_3) s)
def vs_Clone___api_Link_api_Link__ann : Nat → List Nat := fun _ => []
theorem vs_Clone___api_Link_api_Link__eq (X : Told) (t0 : AVal) (K : KvP) (s : Heap) : wpC Try.prog X vs_Clone___api_Link_api_Link__ann Try.f40.ntmps none (bodyOf Try.f40) (envOf [t0]) (fun e env s => retK e (resK Try.prog Try.f40.results.toList env (fun vs => K (oneV vs) s) s)) s = vs_Clone___api_Link_api_Link_ X t0 K s := by kernel_rfl
theorem vs_Clone___api_Link_api_Link__ok {X : Told} (hX : FrX X) (hn : X 40 = none) {t0 : AVal} {K : KvP} {s : Heap} (h : vs_Clone___api_Link_api_Link_ X t0 K s) : wpCall Try.prog X 40 [t0] K s :=
 wpCall_code hX vs_Clone___api_Link_api_Link__ann hn Try.func40 (by kernel_rfl : Try.f40.body = some (bodyOf Try.f40)) (by kernel_rfl) ((vs_Clone___api_Link_api_Link__eq X t0 K s).mpr h)
theorem vs_Clone___api_Link_api_Link__in {t0 : AVal} {K : KvP} {s : Heap} (h : vs_Clone___api_Link_api_Link_ XX t0 K s) : wpCall Try.prog XX 40 [t0] K s := vs_Clone___api_Link_api_Link__ok XX_fr rfl h
def vllaw14_loop (X : Told) (n0 : AVal) (K : KvP) (s : Heap) : Prop :=
 wpCall Try.prog X 36 [n0] (fun v_0 s_1 =>
 optK (extractA v_0 0) fun v_2 =>
 optK (extractA v_0 1) fun v_3 =>
 K v_2 s_1) s
def vllaw14_loop_ann : Nat → List Nat := fun _ => []
theorem vllaw14_loop_eq (X : Told) (n0 : AVal) (K : KvP) (s : Heap) : wpC Try.prog X vllaw14_loop_ann Try.f21.ntmps none (bodyOf Try.f21) (envOf [n0]) (fun e env s => retK e (resK Try.prog Try.f21.results.toList env (fun vs => K (oneV vs) s) s)) s = vllaw14_loop X n0 K s := by kernel_rfl
theorem vllaw14_loop_ok {X : Told} (hX : FrX X) (hn : X 21 = none) {n0 : AVal} {K : KvP} {s : Heap} (h : vllaw14_loop X n0 K s) : wpCall Try.prog X 21 [n0] K s :=
 wpCall_code hX vllaw14_loop_ann hn Try.func21 (by kernel_rfl : Try.f21.body = some (bodyOf Try.f21)) (by kernel_rfl) ((vllaw14_loop_eq X n0 K s).mpr h)
theorem vllaw14_loop_in {n0 : AVal} {K : KvP} {s : Heap} (h : vllaw14_loop XX n0 K s) : wpCall Try.prog XX 21 [n0] K s := vllaw14_loop_ok XX_fr rfl h
def vllaw14_FibDelivers_j2 (X : Told) (t81 : AVal) (t83 : AVal) (K : KvP) (s : Heap) : Prop :=
 optK (pickV t81 t83 (.bool false)) fun v_51 =>
 K v_51 s
def vllaw14_FibDelivers_j1 (X : Told) (e14 : AVal) (t76 : AVal) (t79 : AVal) (K : KvP) (s : Heap) : Prop :=
 optK (pickV t76 t79 (.bool false)) fun v_50 =>
 boolK v_50
 (optK (negB false (eqV 0 true e14 (.int .i64 13))) fun v_52 =>
 vllaw14_FibDelivers_j2 X v_50 v_52 K s)
 (vllaw14_FibDelivers_j2 X v_50 .undef K s)
def vllaw14_FibDelivers_j0 (X : Told) (t1 : AVal) (n13 : AVal) (e14 : AVal) (t71 : AVal) (t74 : AVal) (K : KvP) (s : Heap) : Prop :=
 optK (pickV t71 t74 (.bool false)) fun v_49 =>
 boolK v_49
 (optK (negB false (eqV 0 false n13 t1)) fun v_53 =>
 vllaw14_FibDelivers_j1 X e14 v_49 v_53 K s)
 (vllaw14_FibDelivers_j1 X e14 v_49 .undef K s)
def vllaw14_FibDelivers_j7 (X : Told) (t151 : AVal) (t155 : AVal) (t157 : AVal) (K : KvP) (s : Heap) : Prop :=
 optK (pickV t155 (.bool true) t157) fun v_106 =>
 optK (pickV t151 v_106 (.bool false)) fun v_107 =>
 K v_107 s
def vllaw14_FibDelivers_j6 (X : Told) (l12 : AVal) (g23 : AVal) (t146 : AVal) (t149 : AVal) (K : KvP) (s : Heap) : Prop :=
 optK (pickV t146 t149 (.bool false)) fun v_102 =>
 boolK v_102
 (optK (lenOfA l12) fun v_103 =>
 optK (negB false (eqV 0 true (.int .i64 v_103) (.int .i64 0))) fun v_105 =>
 boolK v_105
 (vllaw14_FibDelivers_j7 X v_102 v_105 .undef K s)
 (optK (negB false (eqV 0 true g23 (.int .i64 20))) fun v_108 =>
 vllaw14_FibDelivers_j7 X v_102 v_105 v_108 K s))
 (optK (pickV v_102 .undef (.bool false)) fun v_109 =>
 K v_109 s)
def vllaw14_FibDelivers_j5 (X : Told) (t1 : AVal) (x4 : AVal) (p7 : AVal) (ok9 : AVal) (all10 : AVal) (l12 : AVal) (t109 : AVal) (t115 : AVal) (K : KvP) (s : Heap) : Prop :=
 optK (pickV t109 (.bool true) t115) fun v_71 =>
 boolK v_71
 (K (.bool false) s)
 (optK (rdN s 21 p7) fun v_72 =>
 newK 56 [(.int .u32 0), (.int .u32 0), (.int .i64 0), (.int .i64 0), (.int .u32 0), (.int .u32 0), (.int .u64 0), (.int .u64 0), (.int .i64 0), (.int .i64 0), (.int .u64 0), (.int .u32 0), (.int .u64 0), (.int .u32 0), (.int .u32 0), (.int .u32 0), (.int .i64 0), (.int .i64 0), (.int .i64 0), (.int .i64 0), (.int .u64 0)] (fun b_73 s_74 =>
 optK (wrAgg s_74 21 (.ptr b_73 0) (.agg v_72)) fun s_75 =>
 optK (addOff 5 p7) fun v_76 =>
 optK (rd1 s_75 v_76) fun v_77 =>
 optK (arithV .add v_77 (.int .u32 1)) fun v_78 =>
 optK (fillR [(.int .u64 0), (.int .u64 0), (.int .i64 0), (.int .i64 0), (.int .u64 0), (.int .u32 0), (.int .u64 0), (.int .u32 0), (.int .u32 0), (.int .u32 0), (.int .i64 0), (.int .i64 0), (.int .i64 0), (.int .i64 0), (.int .u64 0)] [(14, 1, (.int .u64 7))]) fun c_79 =>
 optK (addOff 5 (.ptr b_73 0)) fun v_80 =>
 optK (wr1 s_75 v_80 v_78) fun s_81 =>
 optK (addOff 6 (.ptr b_73 0)) fun v_82 =>
 optK (wrAgg s_81 15 v_82 (.agg c_79)) fun s_83 =>
 optK (rdN s_83 3 x4) fun v_84 =>
 optK (rdN s_83 21 (.ptr b_73 0)) fun v_85 =>
 wpCall Try.prog X 29 [(.agg v_84), all10, t1, (.agg v_85)] (fun v_86 s_87 =>
 optK (extractA v_86 0) fun v_88 =>
 optK (extractA v_86 1) fun v_89 =>
 optK (extractA v_86 2) fun v_90 =>
 optK (lenOfA l12) fun v_91 =>
 optK (addOff 2 (.ptr b_73 0)) fun v_93 =>
 optK (wr1 s_87 v_93 (.int .i64 v_91)) fun s_94 =>
 optK (rdN s_94 3 x4) fun v_95 =>
 optK (rdN s_94 21 (.ptr b_73 0)) fun v_96 =>
 wpCall Try.prog X 29 [(.agg v_95), all10, t1, (.agg v_96)] (fun v_97 s_98 =>
 optK (extractA v_97 0) fun v_99 =>
 optK (extractA v_97 1) fun v_100 =>
 optK (extractA v_97 2) fun v_101 =>
 boolK ok9
 (wpCall Try.prog X 24 [l12, v_88] (fun v_110 s_111 =>
 vllaw14_FibDelivers_j6 X l12 v_101 ok9 v_110 K s_111) s_98)
 (vllaw14_FibDelivers_j6 X l12 v_101 ok9 .undef K s_98)) s_94) s_83) s)
def vllaw14_FibDelivers_j4 (X : Told) (t1 : AVal) (t2 : AVal) (x4 : AVal) (p7 : AVal) (ok9 : AVal) (all10 : AVal) (d11 : AVal) (l12 : AVal) (length15 : AVal) (t105 : AVal) (t107 : AVal) (K : KvP) (s : Heap) : Prop :=
 optK (pickV t105 (.bool true) t107) fun v_70 =>
 boolK v_70
 (vllaw14_FibDelivers_j5 X t1 x4 p7 ok9 all10 l12 v_70 .undef K s)
 (optK (iaddrS 1 d11 t2) fun v_112 =>
 optK (rd1 s v_112) fun v_113 =>
 optK (negB true (eqV 0 false length15 v_113)) fun v_114 =>
 vllaw14_FibDelivers_j5 X t1 x4 p7 ok9 all10 l12 v_70 v_114 K s)
def vllaw14_FibDelivers_l3 (X : Told) (t1 : AVal) (t2 : AVal) (x4 : AVal) (p7 : AVal) (ok9 : AVal) (all10 : AVal) (d11 : AVal) (l12 : AVal) (n13 : AVal) (e14 : AVal) (length15 : AVal) (i16 : AVal) (I3 : IvP) (m3 : Nat) (K : KvP) (s : Heap) : Prop :=
 optK (lenOfA l12) fun v_57 =>
 optK (arithV .lss i16 (.int .i64 v_57)) fun v_59 =>
 boolK v_59
 (optK (addOff 1 x4) fun v_60 =>
 optK (rd1 s v_60) fun v_61 =>
 optK (iaddrS 1 l12 i16) fun v_62 =>
 optK (rd1 s v_62) fun v_63 =>
 optK (iaddrS 3 v_61 v_63) fun v_64 =>
 optK (addOff 2 v_64) fun v_65 =>
 optK (rd1 s v_65) fun v_66 =>
 optK (arithV .add length15 v_66) fun v_67 =>
 optK (arithV .add i16 (.int .i64 1)) fun v_68 =>
 ∃ m', m' < m3 ∧ I3 [v_67, v_68] s m')
 (optK (negB true (eqV 0 false n13 t2)) fun v_69 =>
 boolK v_69
 (vllaw14_FibDelivers_j4 X t1 t2 x4 p7 ok9 all10 d11 l12 length15 v_69 .undef K s)
 (optK (negB true (eqV 0 true e14 (.int .i64 9))) fun v_115 =>
 vllaw14_FibDelivers_j4 X t1 t2 x4 p7 ok9 all10 d11 l12 length15 v_69 v_115 K s))
def vllaw14_FibDelivers (X : Told) (x0 : AVal) (t1 : AVal) (t2 : AVal) (p3 : AVal) (K : KvP) (s : Heap) : Prop :=
 boxK 63 x0 (fun b_0 s_1 =>
 boxK 56 p3 (fun b_2 s_3 =>
 wpCall Try.prog X 4 [] (fun v_4 s_5 =>
 optK (rdN s_5 3 b_0) fun v_6 =>
 wpCall Try.prog X 26 [(.agg v_6)] (fun v_7 s_8 =>
 optK (lenOfA v_7) fun v_9 =>
 optK (negB false (eqV 0 true (.int .i64 v_9) (.int .i64 0))) fun v_11 =>
 boolK v_11
 (K v_4 s_8)
 (optK (addOff 0 b_0) fun v_12 =>
 optK (rd1 s_8 v_12) fun v_13 =>
 wpCall Try.prog X 27 [t1, v_13] (fun v_14 s_15 =>
 (∀ b, s_8 b ≠ none → s_8 b = none → s_15 b = none) →
 optK (addOff 0 b_0) fun v_16 =>
 optK (rd1 (cutH [(s_8, (add s_8 s_15))] (add s_8 s_15)) v_16) fun v_17 =>
 wpCall Try.prog X 27 [t2, v_17] (fun v_18 s_19 =>
 wpCall Try.prog X 21 [v_18] (fun v_20 s_21 =>
 optK (addOff 1 b_2) fun v_22 =>
 optK (wr1 s_21 v_22 v_20) fun s_23 =>
 optK (addOff 2 b_2) fun v_24 =>
 optK (wr1 s_23 v_24 (.int .i64 40)) fun s_25 =>
 optK (addOff 0 b_0) fun v_26 =>
 optK (rd1 s_25 v_26) fun v_27 =>
 optK (addOff 1 b_0) fun v_28 =>
 optK (rd1 s_25 v_28) fun v_29 =>
 optK (addOff 2 b_0) fun v_30 =>
 optK (rd1 s_25 v_30) fun v_31 =>
 wpCall Try.prog X 28 [v_27, v_29, v_31, v_14] (fun v_32 s_33 =>
 optK (lenOfA v_32) fun v_34 =>
 optK (addOff 0 b_0) fun v_36 =>
 optK (rd1 s_33 v_36) fun v_37 =>
 optK (negB true (eqV 0 false (.int .i64 v_34) v_37)) fun v_38 =>
 boolK v_38
 (K (.bool false) s_33)
 (optK (rdN s_33 3 b_0) fun v_39 =>
 optK (rdN s_33 21 b_2) fun v_40 =>
 wpCall Try.prog X 29 [(.agg v_39), v_7, v_14, (.agg v_40)] (fun v_41 s_42 =>
 optK (extractA v_41 0) fun v_43 =>
 optK (extractA v_41 1) fun v_44 =>
 optK (extractA v_41 2) fun v_45 =>
 optK (iaddrS 1 v_32 v_18) fun v_46 =>
 optK (rd1 s_42 v_46) fun v_47 =>
 optK (arithV .lss v_47 (.int .i64 0)) fun v_48 =>
 boolK v_48
 (boolK v_4
 (optK (lenOfA v_43) fun v_54 =>
 optK (negB false (eqV 0 true (.int .i64 v_54) (.int .i64 0))) fun v_56 =>
 vllaw14_FibDelivers_j0 X v_14 v_44 v_45 v_4 v_56 K s_42)
 (vllaw14_FibDelivers_j0 X v_14 v_44 v_45 v_4 .undef K s_42))
 (∃ I3 : IvP, (∃ m, I3 [(.int .i64 0), (.int .i64 0)] s_42 m) ∧ ∀ (f : Env) (s : Heap) (m3 : Nat), I3 [f 15, f 16] s m3 →
 vllaw14_FibDelivers_l3 X v_14 v_18 b_0 b_2 v_4 v_7 v_32 v_43 v_44 v_45 (f 15) (f 16) I3 m3 K s)) s_33)) s_25) s_19) (add s_8 s_15)) (frz s_8))) s_5) s_3) s_1) s
def vllaw14_FibDelivers_ann : Nat → List Nat := fun k => cond (Nat.beq k 30) [15, 16] ([])
theorem vllaw14_FibDelivers_eq (X : Told) (x0 : AVal) (t1 : AVal) (t2 : AVal) (p3 : AVal) (K : KvP) (s : Heap) : wpC Try.prog X vllaw14_FibDelivers_ann Try.f5.ntmps none (bodyOf Try.f5) (envOf [x0, t1, t2, p3]) (fun e env s => retK e (resK Try.prog Try.f5.results.toList env (fun vs => K (oneV vs) s) s)) s = vllaw14_FibDelivers X x0 t1 t2 p3 K s := by kernel_rfl
theorem vllaw14_FibDelivers_ok {X : Told} (hX : FrX X) (hn : X 5 = none) {x0 : AVal} {t1 : AVal} {t2 : AVal} {p3 : AVal} {K : KvP} {s : Heap} (h : vllaw14_FibDelivers X x0 t1 t2 p3 K s) : wpCall Try.prog X 5 [x0, t1, t2, p3] K s :=
 wpCall_code hX vllaw14_FibDelivers_ann hn Try.func5 (by kernel_rfl : Try.f5.body = some (bodyOf Try.f5)) (by kernel_rfl) ((vllaw14_FibDelivers_eq X x0 t1 t2 p3 K s).mpr h)
theorem vllaw14_FibDelivers_in {x0 : AVal} {t1 : AVal} {t2 : AVal} {p3 : AVal} {K : KvP} {s : Heap} (h : vllaw14_FibDelivers XX x0 t1 t2 p3 K s) : wpCall Try.prog XX 5 [x0, t1, t2, p3] K s := vllaw14_FibDelivers_ok XX_fr rfl h
def vc_fib_Fib_Forward_l0 (X : Told) (p3 : AVal) (t5 : AVal) (link7 : AVal) (t20 : AVal) (t21 : AVal) (t22 : AVal) (I0 : IvP) (m0 : Nat) (K : KvP) (s : Heap) : Prop :=
 optK (arithV .lss t22 t21) fun v_21 =>
 boolK v_21
 (optK (iaddrS 1 t20 t22) fun v_22 =>
 optK (rd1 s v_22) fun v_23 =>
 funK Try.prog X v_23 [] (fun v_24 s_25 =>
 optK (negB true (eqV 0 true v_24 (.int .i64 0))) fun v_26 =>
 boolK v_26
 (optK (fillR [(.int .u32 0), (.int .u32 0), (.int .i64 0), (.int .i64 0), (.int .u32 0), (.int .u32 0), (.int .u64 0), (.int .u64 0), (.int .i64 0), (.int .i64 0), (.int .u64 0), (.int .u32 0), (.int .u64 0), (.int .u32 0), (.int .u32 0), (.int .u32 0), (.int .i64 0), (.int .i64 0), (.int .i64 0), (.int .i64 0), (.int .u64 0)] []) fun c_27 =>
 optK (wrAgg s_25 21 t5 (.agg c_27)) fun s_28 =>
 optK (rdN s_28 21 t5) fun t5_29 =>
 K (.tup [(.int .i64 0), (.agg t5_29), v_24]) s_28)
 (optK (arithV .add t22 (.int .i64 1)) fun v_30 =>
 ∃ m', m' < m0 ∧ I0 [v_30] s_25 m')) s)
 (optK (addOff 2 p3) fun v_31 =>
 optK (rd1 s v_31) fun v_32 =>
 optK (arithV .sub v_32 (.int .i64 1)) fun v_33 =>
 optK (addOff 2 p3) fun v_34 =>
 optK (wr1 s v_34 v_33) fun s_35 =>
 optK (rd1 s_35 link7) fun v_36 =>
 optK (rdN s_35 21 p3) fun v_37 =>
 optK (wrAgg s_35 21 t5 (.agg v_37)) fun s_38 =>
 optK (rdN s_38 21 t5) fun t5_39 =>
 K (.tup [v_36, (.agg t5_39), (.int .i64 0)]) s_38)
def vc_fib_Fib_Forward (X : Told) (t0 : AVal) (p1 : AVal) (K : KvP) (s : Heap) : Prop :=
 boxK 37 t0 (fun b_0 s_1 =>
 boxK 56 p1 (fun b_2 s_3 =>
 newK 56 [(.int .u32 0), (.int .u32 0), (.int .i64 0), (.int .i64 0), (.int .u32 0), (.int .u32 0), (.int .u64 0), (.int .u64 0), (.int .i64 0), (.int .i64 0), (.int .u64 0), (.int .u32 0), (.int .u64 0), (.int .u32 0), (.int .u32 0), (.int .u32 0), (.int .i64 0), (.int .i64 0), (.int .i64 0), (.int .i64 0), (.int .u64 0)] (fun b_4 s_5 =>
 optK (rd1 s_5 b_0) fun v_6 =>
 wpCall Try.prog X 41 [v_6] (fun v_7 s_8 =>
 optK (unaryA .not v_7) fun v_9 =>
 boolK v_9
 (optK (fillR [(.int .u32 0), (.int .u32 0), (.int .i64 0), (.int .i64 0), (.int .u32 0), (.int .u32 0), (.int .u64 0), (.int .u64 0), (.int .i64 0), (.int .i64 0), (.int .u64 0), (.int .u32 0), (.int .u64 0), (.int .u32 0), (.int .u32 0), (.int .u32 0), (.int .i64 0), (.int .i64 0), (.int .i64 0), (.int .i64 0), (.int .u64 0)] []) fun c_10 =>
 optK (wrAgg s_8 21 (.ptr b_4 0) (.agg c_10)) fun s_11 =>
 optK (rdN s_11 21 (.ptr b_4 0)) fun t5_12 =>
 K (.tup [(.int .i64 0), (.agg t5_12), (.int .i64 1)]) s_11)
 (newK 3 [(.int .i64 0)] (fun b_13 s_14 =>
 optK (wr1 s_14 (.ptr b_13 0) (.int .i64 0)) fun s_15 =>
 optK (fillR (repl 3 [.nilFunc]) [(0, 1, (.fn (.func 51) [] [b_2, b_0])), (1, 1, (.fn (.func 53) [] [b_2])), (2, 1, (.fn (.func 54) [] [b_0, b_2, (.ptr b_13 0)]))]) fun c_16 => allOne c_16 = true ∧ newK 108 c_16 (fun b_17 s_18 =>
 optK (lenOfA (.slc b_17 0 3 (some 3) 1)) fun v_19 =>
 ∃ I0 : IvP, (∃ m, I0 [(.int .i64 0)] s_18 m) ∧ ∀ (f : Env) (s : Heap) (m0 : Nat), I0 [f 22] s m0 →
 vc_fib_Fib_Forward_l0 X b_2 (.ptr b_4 0) (.ptr b_13 0) (.slc b_17 0 3 (some 3) 1) (.int .i64 v_19) (f 22) I0 m0 K s) s_15) s_8)) s_5) s_3) s_1) s
def vc_fib_Fib_Forward_ann : Nat → List Nat := fun k => cond (Nat.beq k 12) [22] ([])
theorem vc_fib_Fib_Forward_eq (X : Told) (t0 : AVal) (p1 : AVal) (K : KvP) (s : Heap) : wpC Try.prog X vc_fib_Fib_Forward_ann Try.f32.ntmps none (bodyOf Try.f32) (envOf [t0, p1]) (fun e env s => retK e (resK Try.prog Try.f32.results.toList env (fun vs => K (oneV vs) s) s)) s = vc_fib_Fib_Forward X t0 p1 K s := by kernel_rfl
theorem vc_fib_Fib_Forward_ok {X : Told} (hX : FrX X) (hn : X 32 = none) {t0 : AVal} {p1 : AVal} {K : KvP} {s : Heap} (h : vc_fib_Fib_Forward X t0 p1 K s) : wpCall Try.prog X 32 [t0, p1] K s :=
 wpCall_code hX vc_fib_Fib_Forward_ann hn Try.func32 (by kernel_rfl : Try.f32.body = some (bodyOf Try.f32)) (by kernel_rfl) ((vc_fib_Fib_Forward_eq X t0 p1 K s).mpr h)
theorem vc_fib_Fib_Forward_in {t0 : AVal} {p1 : AVal} {K : KvP} {s : Heap} (h : vc_fib_Fib_Forward XX t0 p1 K s) : wpCall Try.prog XX 32 [t0, p1] K s := vc_fib_Fib_Forward_ok XX_fr rfl h
def vc_fib_Fib_Forward_1 (X : Told) (t0 : AVal) (t1 : AVal) (K : KvP) (s : Heap) : Prop :=
 optK (addOff 1 t0) fun v_0 =>
 optK (rd1 s v_0) fun v_1 =>
 optK (rd1 s t1) fun v_2 =>
 optK (nilCheckA v_2) fun v_3 =>
 optK (addOff 2 v_3) fun v_4 =>
 optK (rd1 s v_4) fun v_5 =>
 optK (negB true (eqV 0 false v_1 v_5)) fun v_6 =>
 wpCall Try.prog X 52 [v_6, (.int .i64 9)] (fun v_7 s_8 =>
 K v_7 s_8) s
def vc_fib_Fib_Forward_1_ann : Nat → List Nat := fun _ => []
theorem vc_fib_Fib_Forward_1_eq (X : Told) (t0 : AVal) (t1 : AVal) (K : KvP) (s : Heap) : wpC Try.prog X vc_fib_Fib_Forward_1_ann Try.f51.ntmps none (bodyOf Try.f51) (envOf [t0, t1]) (fun e env s => retK e (resK Try.prog Try.f51.results.toList env (fun vs => K (oneV vs) s) s)) s = vc_fib_Fib_Forward_1 X t0 t1 K s := by kernel_rfl
theorem vc_fib_Fib_Forward_1_ok {X : Told} (hX : FrX X) (hn : X 51 = none) {t0 : AVal} {t1 : AVal} {K : KvP} {s : Heap} (h : vc_fib_Fib_Forward_1 X t0 t1 K s) : wpCall Try.prog X 51 [t0, t1] K s :=
 wpCall_code hX vc_fib_Fib_Forward_1_ann hn Try.func51 (by kernel_rfl : Try.f51.body = some (bodyOf Try.f51)) (by kernel_rfl) ((vc_fib_Fib_Forward_1_eq X t0 t1 K s).mpr h)
theorem vc_fib_Fib_Forward_1_in {t0 : AVal} {t1 : AVal} {K : KvP} {s : Heap} (h : vc_fib_Fib_Forward_1 XX t0 t1 K s) : wpCall Try.prog XX 51 [t0, t1] K s := vc_fib_Fib_Forward_1_ok XX_fr rfl h
def vc_fib_Fib_Forward_2 (X : Told) (t0 : AVal) (K : KvP) (s : Heap) : Prop :=
 optK (addOff 2 t0) fun v_0 =>
 optK (rd1 s v_0) fun v_1 =>
 optK (arithV .geq v_1 (.int .i64 2)) fun v_2 =>
 wpCall Try.prog X 52 [v_2, (.int .i64 20)] (fun v_3 s_4 =>
 K v_3 s_4) s
def vc_fib_Fib_Forward_2_ann : Nat → List Nat := fun _ => []
theorem vc_fib_Fib_Forward_2_eq (X : Told) (t0 : AVal) (K : KvP) (s : Heap) : wpC Try.prog X vc_fib_Fib_Forward_2_ann Try.f53.ntmps none (bodyOf Try.f53) (envOf [t0]) (fun e env s => retK e (resK Try.prog Try.f53.results.toList env (fun vs => K (oneV vs) s) s)) s = vc_fib_Fib_Forward_2 X t0 K s := by kernel_rfl
theorem vc_fib_Fib_Forward_2_ok {X : Told} (hX : FrX X) (hn : X 53 = none) {t0 : AVal} {K : KvP} {s : Heap} (h : vc_fib_Fib_Forward_2 X t0 K s) : wpCall Try.prog X 53 [t0] K s :=
 wpCall_code hX vc_fib_Fib_Forward_2_ann hn Try.func53 (by kernel_rfl : Try.f53.body = some (bodyOf Try.f53)) (by kernel_rfl) ((vc_fib_Fib_Forward_2_eq X t0 K s).mpr h)
theorem vc_fib_Fib_Forward_2_in {t0 : AVal} {K : KvP} {s : Heap} (h : vc_fib_Fib_Forward_2 XX t0 K s) : wpCall Try.prog XX 53 [t0] K s := vc_fib_Fib_Forward_2_ok XX_fr rfl h
def vc_fib_Fib_Forward_3 (X : Told) (t0 : AVal) (t1 : AVal) (t2 : AVal) (K : KvP) (s : Heap) : Prop :=
 optK (rd1 s t0) fun v_0 =>
 optK (rdN s 21 t1) fun v_1 =>
 wpCall Try.prog X 55 [v_0, (.agg v_1)] (fun v_2 s_3 =>
 optK (extractA v_2 0) fun v_4 =>
 optK (extractA v_2 1) fun v_5 =>
 optK (wr1 s_3 t2 v_4) fun s_6 =>
 wpCall Try.prog X 52 [v_5, (.int .i64 13)] (fun v_7 s_8 =>
 K v_7 s_8) s_6) s
def vc_fib_Fib_Forward_3_ann : Nat → List Nat := fun _ => []
theorem vc_fib_Fib_Forward_3_eq (X : Told) (t0 : AVal) (t1 : AVal) (t2 : AVal) (K : KvP) (s : Heap) : wpC Try.prog X vc_fib_Fib_Forward_3_ann Try.f54.ntmps none (bodyOf Try.f54) (envOf [t0, t1, t2]) (fun e env s => retK e (resK Try.prog Try.f54.results.toList env (fun vs => K (oneV vs) s) s)) s = vc_fib_Fib_Forward_3 X t0 t1 t2 K s := by kernel_rfl
theorem vc_fib_Fib_Forward_3_ok {X : Told} (hX : FrX X) (hn : X 54 = none) {t0 : AVal} {t1 : AVal} {t2 : AVal} {K : KvP} {s : Heap} (h : vc_fib_Fib_Forward_3 X t0 t1 t2 K s) : wpCall Try.prog X 54 [t0, t1, t2] K s :=
 wpCall_code hX vc_fib_Fib_Forward_3_ann hn Try.func54 (by kernel_rfl : Try.f54.body = some (bodyOf Try.f54)) (by kernel_rfl) ((vc_fib_Fib_Forward_3_eq X t0 t1 t2 K s).mpr h)
theorem vc_fib_Fib_Forward_3_in {t0 : AVal} {t1 : AVal} {t2 : AVal} {K : KvP} {s : Heap} (h : vc_fib_Fib_Forward_3 XX t0 t1 t2 K s) : wpCall Try.prog XX 54 [t0, t1, t2] K s := vc_fib_Fib_Forward_3_ok XX_fr rfl h
def vc_fib_unless (X : Told) (ok0 : AVal) (err1 : AVal) (K : KvP) (s : Heap) : Prop :=
 boolK ok0
 (K (.int .i64 0) s)
 (K err1 s)
def vc_fib_unless_ann : Nat → List Nat := fun _ => []
theorem vc_fib_unless_eq (X : Told) (ok0 : AVal) (err1 : AVal) (K : KvP) (s : Heap) : wpC Try.prog X vc_fib_unless_ann Try.f52.ntmps none (bodyOf Try.f52) (envOf [ok0, err1]) (fun e env s => retK e (resK Try.prog Try.f52.results.toList env (fun vs => K (oneV vs) s) s)) s = vc_fib_unless X ok0 err1 K s := by kernel_rfl
theorem vc_fib_unless_ok {X : Told} (hX : FrX X) (hn : X 52 = none) {ok0 : AVal} {err1 : AVal} {K : KvP} {s : Heap} (h : vc_fib_unless X ok0 err1 K s) : wpCall Try.prog X 52 [ok0, err1] K s :=
 wpCall_code hX vc_fib_unless_ann hn Try.func52 (by kernel_rfl : Try.f52.body = some (bodyOf Try.f52)) (by kernel_rfl) ((vc_fib_unless_eq X ok0 err1 K s).mpr h)
theorem vc_fib_unless_in {ok0 : AVal} {err1 : AVal} {K : KvP} {s : Heap} (h : vc_fib_unless XX ok0 err1 K s) : wpCall Try.prog XX 52 [ok0, err1] K s := vc_fib_unless_ok XX_fr rfl h
def vc_fib_Fib_pick (X : Told) (t0 : AVal) (p1 : AVal) (K : KvP) (s : Heap) : Prop :=
 boxK 56 p1 (fun b_0 s_1 =>
 optK (addOff 1 b_0) fun v_2 =>
 optK (rd1 s_1 v_2) fun v_3 =>
 wpCall Try.prog X 42 [v_3] (fun v_4 s_5 =>
 optK (extractA v_4 0) fun v_6 =>
 optK (extractA v_4 1) fun v_7 =>
 optK (unaryA .not v_7) fun v_8 =>
 boolK v_8
 (K (.tup [(.int .i64 0), (.bool false)]) s_5)
 (optK (addOff 1 b_0) fun v_9 =>
 optK (rd1 s_5 v_9) fun v_10 =>
 wpCall Try.prog X 45 [t0, v_10] (fun v_11 s_12 =>
 optK (extractA v_11 0) fun v_13 =>
 optK (extractA v_11 1) fun v_14 =>
 optK (unaryA .not v_14) fun v_15 =>
 boolK v_15
 (K (.tup [(.int .i64 0), (.bool false)]) s_12)
 (optK (nilCheckA t0) fun v_16 =>
 optK (addOff 5 v_16) fun v_17 =>
 optK (rd1 s_12 v_17) fun v_18 =>
 optK (getM s_12 v_18 v_6) fun r_19 =>
 optK (rdN s_12 21 b_0) fun v_20 =>
 wpCall Try.prog X 77 [(.agg v_20)] (fun v_21 s_22 =>
 (∀ b, s_12 b ≠ none → s_12 b = none → s_22 b = none) →
 wpCall Try.prog X 76 [(retM .nilptr false r_19), v_21] (fun v_23 s_24 =>
 optK (extractA v_23 0) fun v_25 =>
 optK (extractA v_23 1) fun v_26 =>
 K (.tup [v_25, v_26]) s_24) (add s_12 s_22)) (frz s_12))) s_5)) s_1) s
def vc_fib_Fib_pick_ann : Nat → List Nat := fun _ => []
theorem vc_fib_Fib_pick_eq (X : Told) (t0 : AVal) (p1 : AVal) (K : KvP) (s : Heap) : wpC Try.prog X vc_fib_Fib_pick_ann Try.f55.ntmps none (bodyOf Try.f55) (envOf [t0, p1]) (fun e env s => retK e (resK Try.prog Try.f55.results.toList env (fun vs => K (oneV vs) s) s)) s = vc_fib_Fib_pick X t0 p1 K s := by kernel_rfl
theorem vc_fib_Fib_pick_ok {X : Told} (hX : FrX X) (hn : X 55 = none) {t0 : AVal} {p1 : AVal} {K : KvP} {s : Heap} (h : vc_fib_Fib_pick X t0 p1 K s) : wpCall Try.prog X 55 [t0, p1] K s :=
 wpCall_code hX vc_fib_Fib_pick_ann hn Try.func55 (by kernel_rfl : Try.f55.body = some (bodyOf Try.f55)) (by kernel_rfl) ((vc_fib_Fib_pick_eq X t0 p1 K s).mpr h)
theorem vc_fib_Fib_pick_in {t0 : AVal} {p1 : AVal} {K : KvP} {s : Heap} (h : vc_fib_Fib_pick XX t0 p1 K s) : wpCall Try.prog XX 55 [t0, p1] K s := vc_fib_Fib_pick_ok XX_fr rfl h
end Go.AM
set_option linter.unusedVariables false
namespace Go.AM
open Go Go.Proofs
set_option maxRecDepth 100000
/-- cmp.Compare[leafmesh/api.IP] (82) -/
def vc_cmp_Compare_api_IP_ (X : Told) (x0 : AVal) (y1 : AVal) (K : AVal → Heap → Prop) (s : Heap) : Prop :=
  wpCall Try.prog X 93 [x0] (fun v_0 s_1 =>
  wpCall Try.prog X 93 [y1] (fun v_2 s_3 =>
  boolK v_0
   (boolK v_2
     (K (.int .i64 0) s_3)
     (K (.int .i64 (-1)) s_3))
   (boolK v_2
     (K (.int .i64 1) s_3)
     (optK (arithV .lss x0 y1) fun v_4 =>
      boolK v_4
       (K (.int .i64 (-1)) s_3)
       (optK (arithV .gtr x0 y1) fun v_5 =>
        boolK v_5
         (K (.int .i64 1) s_3)
         (K (.int .i64 0) s_3))))) s_1) s
def vc_cmp_Compare_api_IP__ann : Nat → List Nat := fun _ => []
theorem vc_cmp_Compare_api_IP__eq (X : Told) (x0 : AVal) (y1 : AVal) (K : AVal → Heap → Prop) (s : Heap) : wpC Try.prog X vc_cmp_Compare_api_IP__ann Try.f82.ntmps none (bodyOf Try.f82) (envOf [x0, y1]) (fun e env s => retK e (resK Try.prog Try.f82.results.toList env (fun vs => K (oneV vs) s) s)) s = vc_cmp_Compare_api_IP_ X x0 y1 K s := by kernel_rfl
theorem vc_cmp_Compare_api_IP__ok {X : Told} (hX : FrX X) (hn : X 82 = none) {x0 : AVal} {y1 : AVal} {K : AVal → Heap → Prop} {s : Heap} (h : vc_cmp_Compare_api_IP_ X x0 y1 K s) : wpCall Try.prog X 82 [x0, y1] K s :=
  wpCall_code hX vc_cmp_Compare_api_IP__ann hn Try.func82 (by kernel_rfl : Try.f82.body = some (bodyOf Try.f82)) (by kernel_rfl) ((vc_cmp_Compare_api_IP__eq X x0 y1 K s).mpr h)
theorem vc_cmp_Compare_api_IP__in {x0 : AVal} {y1 : AVal} {K : AVal → Heap → Prop} {s : Heap} (h : vc_cmp_Compare_api_IP_ XX x0 y1 K s) : wpCall Try.prog XX 82 [x0, y1] K s := vc_cmp_Compare_api_IP__ok XX_fr rfl h
/-- cmp.isNaN[leafmesh/api.IP] (93) -/
def vc_cmp_isNaN_api_IP_ (X : Told) (x0 : AVal) (K : AVal → Heap → Prop) (s : Heap) : Prop :=
  optK (negB true (eqV 0 false x0 x0)) fun v_0 =>
  K v_0 s
def vc_cmp_isNaN_api_IP__ann : Nat → List Nat := fun _ => []
theorem vc_cmp_isNaN_api_IP__eq (X : Told) (x0 : AVal) (K : AVal → Heap → Prop) (s : Heap) : wpC Try.prog X vc_cmp_isNaN_api_IP__ann Try.f93.ntmps none (bodyOf Try.f93) (envOf [x0]) (fun e env s => retK e (resK Try.prog Try.f93.results.toList env (fun vs => K (oneV vs) s) s)) s = vc_cmp_isNaN_api_IP_ X x0 K s := by kernel_rfl
theorem vc_cmp_isNaN_api_IP__ok {X : Told} (hX : FrX X) (hn : X 93 = none) {x0 : AVal} {K : AVal → Heap → Prop} {s : Heap} (h : vc_cmp_isNaN_api_IP_ X x0 K s) : wpCall Try.prog X 93 [x0] K s :=
  wpCall_code hX vc_cmp_isNaN_api_IP__ann hn Try.func93 (by kernel_rfl : Try.f93.body = some (bodyOf Try.f93)) (by kernel_rfl) ((vc_cmp_isNaN_api_IP__eq X x0 K s).mpr h)
theorem vc_cmp_isNaN_api_IP__in {x0 : AVal} {K : AVal → Heap → Prop} {s : Heap} (h : vc_cmp_isNaN_api_IP_ XX x0 K s) : wpCall Try.prog XX 93 [x0] K s := vc_cmp_isNaN_api_IP__ok XX_fr rfl h
/-- leafmesh/spread.Hash (77) -/
def vc_spread_Hash (X : Told) (p0 : AVal) (K : AVal → Heap → Prop) (s : Heap) : Prop :=
  boxK 56 p0 (fun b_0 s_1 =>
  optK (rdN s_1 21 b_0) fun v_2 =>
  wpCall Try.prog X 88 [(.agg v_2)] (fun v_3 s_4 =>
  wpCall Try.prog X 87 [v_3, (.int .u64 14695981039346656037), (.fn (.func 89) [] [])] (fun v_5 s_6 =>
  K v_5 s_6) s_4) s_1) s
def vc_spread_Hash_ann : Nat → List Nat := fun _ => []
theorem vc_spread_Hash_eq (X : Told) (p0 : AVal) (K : AVal → Heap → Prop) (s : Heap) : wpC Try.prog X vc_spread_Hash_ann Try.f77.ntmps none (bodyOf Try.f77) (envOf [p0]) (fun e env s => retK e (resK Try.prog Try.f77.results.toList env (fun vs => K (oneV vs) s) s)) s = vc_spread_Hash X p0 K s := by kernel_rfl
theorem vc_spread_Hash_ok {X : Told} (hX : FrX X) (hn : X 77 = none) {p0 : AVal} {K : AVal → Heap → Prop} {s : Heap} (h : vc_spread_Hash X p0 K s) : wpCall Try.prog X 77 [p0] K s :=
  wpCall_code hX vc_spread_Hash_ann hn Try.func77 (by kernel_rfl : Try.f77.body = some (bodyOf Try.f77)) (by kernel_rfl) ((vc_spread_Hash_eq X p0 K s).mpr h)
theorem vc_spread_Hash_in {p0 : AVal} {K : AVal → Heap → Prop} {s : Heap} (h : vc_spread_Hash XX p0 K s) : wpCall Try.prog XX 77 [p0] K s := vc_spread_Hash_ok XX_fr rfl h
/-- leafmesh/spread.Hash$1 (89) -/
def vc_spread_Hash_1 (X : Told) (h0 : AVal) (b1 : AVal) (K : AVal → Heap → Prop) (s : Heap) : Prop :=
  optK (convI .u64 b1) fun v_0 =>
  optK (arithV .xor h0 v_0) fun v_1 =>
  optK (arithV .mul v_1 (.int .u64 1099511628211)) fun v_2 =>
  K v_2 s
def vc_spread_Hash_1_ann : Nat → List Nat := fun _ => []
theorem vc_spread_Hash_1_eq (X : Told) (h0 : AVal) (b1 : AVal) (K : AVal → Heap → Prop) (s : Heap) : wpC Try.prog X vc_spread_Hash_1_ann Try.f89.ntmps none (bodyOf Try.f89) (envOf [h0, b1]) (fun e env s => retK e (resK Try.prog Try.f89.results.toList env (fun vs => K (oneV vs) s) s)) s = vc_spread_Hash_1 X h0 b1 K s := by kernel_rfl
theorem vc_spread_Hash_1_ok {X : Told} (hX : FrX X) (hn : X 89 = none) {h0 : AVal} {b1 : AVal} {K : AVal → Heap → Prop} {s : Heap} (h : vc_spread_Hash_1 X h0 b1 K s) : wpCall Try.prog X 89 [h0, b1] K s :=
  wpCall_code hX vc_spread_Hash_1_ann hn Try.func89 (by kernel_rfl : Try.f89.body = some (bodyOf Try.f89)) (by kernel_rfl) ((vc_spread_Hash_1_eq X h0 b1 K s).mpr h)
theorem vc_spread_Hash_1_in {h0 : AVal} {b1 : AVal} {K : AVal → Heap → Prop} {s : Heap} (h : vc_spread_Hash_1 XX h0 b1 K s) : wpCall Try.prog XX 89 [h0, b1] K s := vc_spread_Hash_1_ok XX_fr rfl h
/-- leafmesh/spread.fold[byte,uint64] (87) -/
def vc_spread_fold_byte_uint64_ (X : Told) (seq0 : AVal) (start1 : AVal) (combine2 : AVal) (K : AVal → Heap → Prop) (s : Heap) : Prop :=
  boxK 166 combine2 (fun b_0 s_1 =>
  newK 47 [(.int .u64 0)] (fun b_2 s_3 =>
  optK (wr1 s_3 (.ptr b_2 0) start1) fun s_4 =>
  rngK Try.prog X 17 none seq0 [(5, b_0), (7, (.ptr b_2 0))] [11] (rfAs 0 (bodyOf Try.f87)) (rfBo 0 (bodyOf Try.f87)) (fun s_5 =>
    optK (rd1 s_5 (.ptr b_2 0)) fun v_7 =>
    K v_7 s_5)
   (fun s_6 =>
    K (.int .u64 0) s_6)
   (fun id s_8 =>
    cond (Nat.beq id 0)
     (optK (rd1 s_8 (.ptr b_2 0)) fun v_9 =>
      K v_9 s_8)
     (False)) s_4) s_1) s
def vc_spread_fold_byte_uint64__ann : Nat → List Nat := fun k => cond (Nat.beq k 9) [5, 7] ([])
theorem vc_spread_fold_byte_uint64__eq (X : Told) (seq0 : AVal) (start1 : AVal) (combine2 : AVal) (K : AVal → Heap → Prop) (s : Heap) : wpC Try.prog X vc_spread_fold_byte_uint64__ann Try.f87.ntmps none (bodyOf Try.f87) (envOf [seq0, start1, combine2]) (fun e env s => retK e (resK Try.prog Try.f87.results.toList env (fun vs => K (oneV vs) s) s)) s = vc_spread_fold_byte_uint64_ X seq0 start1 combine2 K s := by kernel_rfl
theorem vc_spread_fold_byte_uint64__ok {X : Told} (hX : FrX X) (hn : X 87 = none) {seq0 : AVal} {start1 : AVal} {combine2 : AVal} {K : AVal → Heap → Prop} {s : Heap} (h : vc_spread_fold_byte_uint64_ X seq0 start1 combine2 K s) : wpCall Try.prog X 87 [seq0, start1, combine2] K s :=
  wpCall_code hX vc_spread_fold_byte_uint64__ann hn Try.func87 (by kernel_rfl : Try.f87.body = some (bodyOf Try.f87)) (by kernel_rfl) ((vc_spread_fold_byte_uint64__eq X seq0 start1 combine2 K s).mpr h)
theorem vc_spread_fold_byte_uint64__in {seq0 : AVal} {start1 : AVal} {combine2 : AVal} {K : AVal → Heap → Prop} {s : Heap} (h : vc_spread_fold_byte_uint64_ XX seq0 start1 combine2 K s) : wpCall Try.prog XX 87 [seq0, start1, combine2] K s := vc_spread_fold_byte_uint64__ok XX_fr rfl h
def vc_spread_fold_byte_uint64__r0 (X : Told) (l : Nat) (combine5 : AVal) (result7 : AVal) (t11 : AVal) (E : AExit → Heap → Prop) (s : Heap) : Prop :=
  AExit.nrm = .nrm ∧ beginK l (fun s_0 =>
  optK (rd1 s_0 combine5) fun v_1 =>
  optK (rd1 s_0 result7) fun v_2 =>
  funK Try.prog X v_1 [v_2, t11] (fun v_3 s_4 =>
  optK (wr1 s_4 result7 v_3) fun s_5 =>
  E .nrm s_5) s_0) s
theorem vc_spread_fold_byte_uint64__r0_eq (X : Told) (l : Nat) (f : Env) (t11 : AVal) (E : AExit → Heap → Prop) (s : Heap) : wpC Try.prog X vc_spread_fold_byte_uint64__ann Try.f87.ntmps (some l) (rfAs 0 (bodyOf Try.f87)) (setE f [11] [t11]) (fun e env s => e = .nrm ∧ beginK l (fun s => wpC Try.prog X vc_spread_fold_byte_uint64__ann Try.f87.ntmps (some l) (rfBo 0 (bodyOf Try.f87)) env (fun e _ s => E e s) s) s) s = vc_spread_fold_byte_uint64__r0 X l (f 5) (f 7) t11 E s := by kernel_rfl
theorem vc_spread_fold_byte_uint64__r0_in {l : Nat} {t : Bool} {st : LoopState} {pd : Option Code} {d : Nat} {combine5 : AVal} {result7 : AVal} {t11 : AVal} {K : AVal → Heap → Prop} {s : Heap} (hs : s l = some (t, .loop st pd 17 [(5, combine5), (7, result7)] [11] (rfAs 0 (bodyOf Try.f87)) (rfBo 0 (bodyOf Try.f87)) d)) (h : vc_spread_fold_byte_uint64__r0 XX l combine5 result7 t11 (fun e s => endK l e K s) s) : wpRound Try.prog XX l [t11] K s :=
  wpRound_ok XX_fr vc_spread_fold_byte_uint64__ann hs rfl rfl fun f hf => by
    refine (vc_spread_fold_byte_uint64__r0_eq XX l f t11 (fun e s => endK l e K s) s).mpr ?_
    rw [show f 5 = combine5 from hf (5, combine5) (by simp)]
    rw [show f 7 = result7 from hf (7, result7) (by simp)]
    exact h
/-- leafmesh/spread.flow (88) -/
def vc_spread_flow (X : Told) (p0 : AVal) (K : AVal → Heap → Prop) (s : Heap) : Prop :=
  boxK 56 p0 (fun b_0 s_1 =>
  K (.fn (.func 94) [] [b_0]) s_1) s
def vc_spread_flow_ann : Nat → List Nat := fun _ => []
theorem vc_spread_flow_eq (X : Told) (p0 : AVal) (K : AVal → Heap → Prop) (s : Heap) : wpC Try.prog X vc_spread_flow_ann Try.f88.ntmps none (bodyOf Try.f88) (envOf [p0]) (fun e env s => retK e (resK Try.prog Try.f88.results.toList env (fun vs => K (oneV vs) s) s)) s = vc_spread_flow X p0 K s := by kernel_rfl
theorem vc_spread_flow_ok {X : Told} (hX : FrX X) (hn : X 88 = none) {p0 : AVal} {K : AVal → Heap → Prop} {s : Heap} (h : vc_spread_flow X p0 K s) : wpCall Try.prog X 88 [p0] K s :=
  wpCall_code hX vc_spread_flow_ann hn Try.func88 (by kernel_rfl : Try.f88.body = some (bodyOf Try.f88)) (by kernel_rfl) ((vc_spread_flow_eq X p0 K s).mpr h)
theorem vc_spread_flow_in {p0 : AVal} {K : AVal → Heap → Prop} {s : Heap} (h : vc_spread_flow XX p0 K s) : wpCall Try.prog XX 88 [p0] K s := vc_spread_flow_ok XX_fr rfl h
/-- leafmesh/spread.flow$1 (94) -/
def vc_spread_flow_1_j2 (X : Told) (t22 : AVal) (t27 : AVal) (K : AVal → Heap → Prop) (s : Heap) : Prop :=
  optK (pickV t22 t27 (.bool false)) fun v_7 =>
  K (.tup []) s
def vc_spread_flow_1_j1 (X : Told) (yield0 : AVal) (t1 : AVal) (t15 : AVal) (t20 : AVal) (K : AVal → Heap → Prop) (s : Heap) : Prop :=
  optK (pickV t15 t20 (.bool false)) fun v_6 =>
  boolK v_6
   (optK (addOff 4 t1) fun v_8 =>
    optK (rd1 s v_8) fun v_9 =>
    optK (convI .u64 v_9) fun v_10 =>
    wpCall Try.prog X 95 [v_10, (.int .i64 3), yield0] (fun v_11 s_12 =>
    vc_spread_flow_1_j2 X v_6 v_11 K s_12) s)
   (vc_spread_flow_1_j2 X v_6 .undef K s)
def vc_spread_flow_1_j0 (X : Told) (yield0 : AVal) (t1 : AVal) (t8 : AVal) (t13 : AVal) (K : AVal → Heap → Prop) (s : Heap) : Prop :=
  optK (pickV t8 t13 (.bool false)) fun v_5 =>
  boolK v_5
   (optK (addOff 3 t1) fun v_13 =>
    optK (rd1 s v_13) fun v_14 =>
    optK (convI .u64 v_14) fun v_15 =>
    wpCall Try.prog X 95 [v_15, (.int .i64 2), yield0] (fun v_16 s_17 =>
    vc_spread_flow_1_j1 X yield0 t1 v_5 v_16 K s_17) s)
   (vc_spread_flow_1_j1 X yield0 t1 v_5 .undef K s)
def vc_spread_flow_1 (X : Told) (yield0 : AVal) (t1 : AVal) (K : AVal → Heap → Prop) (s : Heap) : Prop :=
  optK (addOff 0 t1) fun v_0 =>
  optK (rd1 s v_0) fun v_1 =>
  optK (convI .u64 v_1) fun v_2 =>
  wpCall Try.prog X 95 [v_2, (.int .i64 4), yield0] (fun v_3 s_4 =>
  boolK v_3
   (optK (addOff 1 t1) fun v_18 =>
    optK (rd1 s_4 v_18) fun v_19 =>
    optK (convI .u64 v_19) fun v_20 =>
    wpCall Try.prog X 95 [v_20, (.int .i64 4), yield0] (fun v_21 s_22 =>
    vc_spread_flow_1_j0 X yield0 t1 v_3 v_21 K s_22) s_4)
   (vc_spread_flow_1_j0 X yield0 t1 v_3 .undef K s_4)) s
def vc_spread_flow_1_ann : Nat → List Nat := fun _ => []
theorem vc_spread_flow_1_eq (X : Told) (yield0 : AVal) (t1 : AVal) (K : AVal → Heap → Prop) (s : Heap) : wpC Try.prog X vc_spread_flow_1_ann Try.f94.ntmps none (bodyOf Try.f94) (envOf [yield0, t1]) (fun e env s => retK e (resK Try.prog Try.f94.results.toList env (fun vs => K (oneV vs) s) s)) s = vc_spread_flow_1 X yield0 t1 K s := by kernel_rfl
theorem vc_spread_flow_1_ok {X : Told} (hX : FrX X) (hn : X 94 = none) {yield0 : AVal} {t1 : AVal} {K : AVal → Heap → Prop} {s : Heap} (h : vc_spread_flow_1 X yield0 t1 K s) : wpCall Try.prog X 94 [yield0, t1] K s :=
  wpCall_code hX vc_spread_flow_1_ann hn Try.func94 (by kernel_rfl : Try.f94.body = some (bodyOf Try.f94)) (by kernel_rfl) ((vc_spread_flow_1_eq X yield0 t1 K s).mpr h)
theorem vc_spread_flow_1_in {yield0 : AVal} {t1 : AVal} {K : AVal → Heap → Prop} {s : Heap} (h : vc_spread_flow_1 XX yield0 t1 K s) : wpCall Try.prog XX 94 [yield0, t1] K s := vc_spread_flow_1_ok XX_fr rfl h
/-- leafmesh/spread.number (95) -/
def vc_spread_number_l0 (X : Told) (v0 : AVal) (yield2 : AVal) (i7 : AVal) (I0 : List AVal → Heap → Nat → Prop) (m0 : Nat) (K : AVal → Heap → Prop) (s : Heap) : Prop :=
  optK (arithV .geq i7 (.int .i64 0)) fun v_1 =>
  boolK v_1
   (optK (arithV .mul (.int .i64 8) i7) fun v_2 =>
    optK (shiftV .shr v0 v_2) fun v_3 =>
    optK (convI .u8 v_3) fun v_4 =>
    funK Try.prog X yield2 [v_4] (fun v_5 s_6 =>
    optK (unaryA .not v_5) fun v_7 =>
    boolK v_7
     (K (.bool false) s_6)
     (optK (arithV .sub i7 (.int .i64 1)) fun v_8 =>
      ∃ m', m' < m0 ∧ I0 [v_8] s_6 m')) s)
   (K (.bool true) s)
def vc_spread_number (X : Told) (v0 : AVal) (size1 : AVal) (yield2 : AVal) (K : AVal → Heap → Prop) (s : Heap) : Prop :=
  optK (arithV .sub size1 (.int .i64 1)) fun v_0 =>
  ∃ I0 : List AVal → Heap → Nat → Prop, (∃ m, I0 [v_0] s m) ∧ ∀ (f : Env) (s : Heap) (m0 : Nat), I0 [f 7] s m0 →
    vc_spread_number_l0 X v0 yield2 (f 7) I0 m0 K s
def vc_spread_number_ann : Nat → List Nat := fun k => cond (Nat.beq k 4) [7] ([])
theorem vc_spread_number_eq (X : Told) (v0 : AVal) (size1 : AVal) (yield2 : AVal) (K : AVal → Heap → Prop) (s : Heap) : wpC Try.prog X vc_spread_number_ann Try.f95.ntmps none (bodyOf Try.f95) (envOf [v0, size1, yield2]) (fun e env s => retK e (resK Try.prog Try.f95.results.toList env (fun vs => K (oneV vs) s) s)) s = vc_spread_number X v0 size1 yield2 K s := by kernel_rfl
theorem vc_spread_number_ok {X : Told} (hX : FrX X) (hn : X 95 = none) {v0 : AVal} {size1 : AVal} {yield2 : AVal} {K : AVal → Heap → Prop} {s : Heap} (h : vc_spread_number X v0 size1 yield2 K s) : wpCall Try.prog X 95 [v0, size1, yield2] K s :=
  wpCall_code hX vc_spread_number_ann hn Try.func95 (by kernel_rfl : Try.f95.body = some (bodyOf Try.f95)) (by kernel_rfl) ((vc_spread_number_eq X v0 size1 yield2 K s).mpr h)
theorem vc_spread_number_in {v0 : AVal} {size1 : AVal} {yield2 : AVal} {K : AVal → Heap → Prop} {s : Heap} (h : vc_spread_number XX v0 size1 yield2 K s) : wpCall Try.prog XX 95 [v0, size1, yield2] K s := vc_spread_number_ok XX_fr rfl h
end Go.AM
set_option linter.unusedVariables false
namespace Go.AM
open Go Go.Proofs
set_option maxRecDepth 100000
def vw_leafmeshlaw14_walk_j5 (X : Told) (p7 : AVal) (out11 : AVal) (n12 : AVal) (k13 : AVal) (link14 : AVal) (q15 : AVal) (I0 : IvP) (m0 : Nat) (K : KvP) (s : Heap) : Prop :=
 optK (fillR (repl 1 [(.int .i64 0)]) [(0, 1, link14)]) fun c_36 => allOne c_36 = true ∧ newK 3 c_36 (fun b_37 s_38 =>
 (∀ b, s b ≠ none → s b = none → s_38 b = none) →
 ∃ h_39 : Heap, (∀ b, h_39 b ≠ none → (add s s_38) b ≠ none) ∧
 appK 3 1 out11 (.slc b_37 0 1 (some 1) 1) (fun v_40 s_41 =>
 (∀ b, (add s s_38) b ≠ none → (minus (add s s_38) h_39) b = none → s_41 b = none) →
 optK (rdN (cutH [(s, (add s s_38)), (h_39, fullH)] (add s_41 (rest (add s s_38) (minus (add s s_38) h_39)))) 21 q15) fun v_42 =>
 optK (wrAgg (add s_41 (rest (add s s_38) (minus (add s s_38) h_39))) 21 p7 (.agg v_42)) fun s_43 =>
 optK (arithV .add k13 (.int .i64 1)) fun v_44 =>
 ∃ m', m' < m0 ∧ I0 [v_40, n12, v_44] s_43 m') (minus (add s s_38) h_39)) (frz s)
def vw_leafmeshlaw14_walk_j4 (X : Told) (p7 : AVal) (out11 : AVal) (n12 : AVal) (k13 : AVal) (link14 : AVal) (q15 : AVal) (y17 : AVal) (t73 : AVal) (t77 : AVal) (I0 : IvP) (m0 : Nat) (K : KvP) (s : Heap) : Prop :=
 optK (pickV t73 t77 (.bool false)) fun v_32 =>
 boolK v_32
 (K (.tup [out11, (.int .i64 (-1)), (.int .i64 0)]) s)
 (optK (addOff 0 y17) fun v_33 =>
 optK (rd1 s v_33) fun v_34 =>
 optK (negB false (eqV 0 false v_34 n12)) fun v_35 =>
 boolK v_35
 (optK (addOff 1 y17) fun v_45 =>
 optK (rd1 s v_45) fun v_46 =>
 vw_leafmeshlaw14_walk_j5 X p7 out11 v_46 k13 link14 q15 I0 m0 K s)
 (optK (addOff 0 y17) fun v_47 =>
 optK (rd1 s v_47) fun v_48 =>
 vw_leafmeshlaw14_walk_j5 X p7 out11 v_48 k13 link14 q15 I0 m0 K s))
def vw_leafmeshlaw14_walk_j3 (X : Told) (x4 : AVal) (p7 : AVal) (out11 : AVal) (n12 : AVal) (k13 : AVal) (link14 : AVal) (q15 : AVal) (t55 : AVal) (t61 : AVal) (I0 : IvP) (m0 : Nat) (K : KvP) (s : Heap) : Prop :=
 optK (pickV t55 (.bool true) t61) fun v_21 =>
 boolK v_21
 (K (.tup [out11, (.int .i64 (-1)), (.int .i64 0)]) s)
 (optK (addOff 1 x4) fun v_22 =>
 optK (rd1 s v_22) fun v_23 =>
 optK (iaddrS 3 v_23 link14) fun v_24 =>
 optK (rdN s 3 v_24) fun v_25 =>
 newK 27 [(.int .i64 0), (.int .i64 0), (.int .i64 0)] (fun b_26 s_27 =>
 optK (wrAgg s_27 3 (.ptr b_26 0) (.agg v_25)) fun s_28 =>
 optK (addOff 0 (.ptr b_26 0)) fun v_29 =>
 optK (rd1 s_28 v_29) fun v_30 =>
 optK (negB true (eqV 0 false v_30 n12)) fun v_31 =>
 boolK v_31
 (optK (addOff 1 (.ptr b_26 0)) fun v_49 =>
 optK (rd1 s_28 v_49) fun v_50 =>
 optK (negB true (eqV 0 false v_50 n12)) fun v_51 =>
 vw_leafmeshlaw14_walk_j4 X p7 out11 n12 k13 link14 q15 (.ptr b_26 0) v_31 v_51 I0 m0 K s_28)
 (vw_leafmeshlaw14_walk_j4 X p7 out11 n12 k13 link14 q15 (.ptr b_26 0) v_31 .undef I0 m0 K s_28)) s)
def vw_leafmeshlaw14_walk_j2 (X : Told) (x4 : AVal) (p7 : AVal) (out11 : AVal) (n12 : AVal) (k13 : AVal) (link14 : AVal) (q15 : AVal) (t47 : AVal) (t53 : AVal) (I0 : IvP) (m0 : Nat) (K : KvP) (s : Heap) : Prop :=
 optK (pickV t47 (.bool true) t53) fun v_20 =>
 boolK v_20
 (vw_leafmeshlaw14_walk_j3 X x4 p7 out11 n12 k13 link14 q15 v_20 .undef I0 m0 K s)
 (optK (addOff 2 q15) fun v_52 =>
 optK (rd1 s v_52) fun v_53 =>
 optK (addOff 2 p7) fun v_54 =>
 optK (rd1 s v_54) fun v_55 =>
 optK (arithV .sub v_55 (.int .i64 1)) fun v_56 =>
 optK (negB true (eqV 0 false v_53 v_56)) fun v_57 =>
 vw_leafmeshlaw14_walk_j3 X x4 p7 out11 n12 k13 link14 q15 v_20 v_57 I0 m0 K s)
def vw_leafmeshlaw14_walk_j1 (X : Told) (x4 : AVal) (p7 : AVal) (out11 : AVal) (n12 : AVal) (k13 : AVal) (link14 : AVal) (q15 : AVal) (t40 : AVal) (t45 : AVal) (I0 : IvP) (m0 : Nat) (K : KvP) (s : Heap) : Prop :=
 optK (pickV t40 (.bool true) t45) fun v_19 =>
 boolK v_19
 (vw_leafmeshlaw14_walk_j2 X x4 p7 out11 n12 k13 link14 q15 v_19 .undef I0 m0 K s)
 (optK (addOff 2 x4) fun v_58 =>
 optK (rd1 s v_58) fun v_59 =>
 optK (iaddrS 1 v_59 link14) fun v_60 =>
 optK (rd1 s v_60) fun v_61 =>
 optK (unaryA .not v_61) fun v_62 =>
 vw_leafmeshlaw14_walk_j2 X x4 p7 out11 n12 k13 link14 q15 v_19 v_62 I0 m0 K s)
def vw_leafmeshlaw14_walk_l0 (X : Told) (all1 : AVal) (x4 : AVal) (p7 : AVal) (out11 : AVal) (n12 : AVal) (k13 : AVal) (I0 : IvP) (m0 : Nat) (K : KvP) (s : Heap) : Prop :=
 optK (arithV .leq k13 (.int .i64 40)) fun v_4 =>
 boolK v_4
 (optK (iaddrS 1 all1 n12) fun v_5 =>
 optK (rd1 s v_5) fun v_6 =>
 optK (rdN s 21 p7) fun v_7 =>
 ∃ h_8 : Heap, (∀ b, h_8 b ≠ none → s b ≠ none) ∧
 wpCall Try.prog X 32 [v_6, (.agg v_7)] (fun v_9 s_10 =>
 (∀ b, s b ≠ none → (minus s h_8) b = none → s_10 b = none) →
 optK (extractA v_9 0) fun v_11 =>
 optK (extractA v_9 1) fun v_12 =>
 optK (extractA v_9 2) fun v_13 =>
 newK 56 [(.int .u32 0), (.int .u32 0), (.int .i64 0), (.int .i64 0), (.int .u32 0), (.int .u32 0), (.int .u64 0), (.int .u64 0), (.int .i64 0), (.int .i64 0), (.int .u64 0), (.int .u32 0), (.int .u64 0), (.int .u32 0), (.int .u32 0), (.int .u32 0), (.int .i64 0), (.int .i64 0), (.int .i64 0), (.int .i64 0), (.int .u64 0)] (fun b_14 s_15 =>
 (∀ b, (add s_10 (rest s (minus s h_8))) b ≠ none → (cutH [(h_8, fullH)] (add s_10 (rest s (minus s h_8)))) b = none → s_15 b = none) →
 optK (wrAgg (add (add s_10 (rest s (minus s h_8))) s_15) 21 (.ptr b_14 0) v_12) fun s_16 =>
 optK (negB true (eqV 0 true v_13 (.int .i64 0))) fun v_17 =>
 boolK v_17
 (K (.tup [out11, n12, v_13]) s_16)
 (optK (arithV .lss v_11 (.int .i64 0)) fun v_18 =>
 boolK v_18
 (vw_leafmeshlaw14_walk_j1 X x4 p7 out11 n12 k13 v_11 (.ptr b_14 0) v_18 .undef I0 m0 K s_16)
 (optK (addOff 1 x4) fun v_63 =>
 optK (rd1 s_16 v_63) fun v_64 =>
 optK (lenOfA v_64) fun v_65 =>
 optK (arithV .geq v_11 (.int .i64 v_65)) fun v_67 =>
 vw_leafmeshlaw14_walk_j1 X x4 p7 out11 n12 k13 v_11 (.ptr b_14 0) v_18 v_67 I0 m0 K s_16))) (frz (cutH [(h_8, fullH)] (add s_10 (rest s (minus s h_8)))))) (minus s h_8))
 (K (.tup [out11, (.int .i64 (-1)), (.int .i64 0)]) s)
def vw_leafmeshlaw14_walk (X : Told) (x0 : AVal) (all1 : AVal) (t2 : AVal) (p3 : AVal) (K : KvP) (s : Heap) : Prop :=
 boxK 63 x0 (fun b_0 s_1 =>
 boxK 56 p3 (fun b_2 s_3 =>
 ∃ I0 : IvP, (∃ m, I0 [.nilslc, t2, (.int .i64 0)] s_3 m) ∧ ∀ (f : Env) (s : Heap) (m0 : Nat), I0 [f 11, f 12, f 13] s m0 →
 vw_leafmeshlaw14_walk_l0 X all1 b_0 b_2 (f 11) (f 12) (f 13) I0 m0 K s) s_1) s
def vw_leafmeshlaw14_walk_ann : Nat → List Nat := fun k => cond (Nat.beq k 8) [11, 12, 13] (cond (Nat.beq k 1000024) [5] (cond (Nat.beq k 1000088) [3] ([])))
theorem vw_leafmeshlaw14_walk_eq (X : Told) (x0 : AVal) (all1 : AVal) (t2 : AVal) (p3 : AVal) (K : KvP) (s : Heap) : wpC Try.prog X vw_leafmeshlaw14_walk_ann Try.f29.ntmps none (bodyOf Try.f29) (envOf [x0, all1, t2, p3]) (fun e env s => retK e (resK Try.prog Try.f29.results.toList env (fun vs => K (oneV vs) s) s)) s = vw_leafmeshlaw14_walk X x0 all1 t2 p3 K s := by kernel_rfl
theorem vw_leafmeshlaw14_walk_ok {X : Told} (hX : FrX X) (hn : X 29 = none) {x0 : AVal} {all1 : AVal} {t2 : AVal} {p3 : AVal} {K : KvP} {s : Heap} (h : vw_leafmeshlaw14_walk X x0 all1 t2 p3 K s) : wpCall Try.prog X 29 [x0, all1, t2, p3] K s :=
 wpCall_code hX vw_leafmeshlaw14_walk_ann hn Try.func29 (by kernel_rfl : Try.f29.body = some (bodyOf Try.f29)) (by kernel_rfl) ((vw_leafmeshlaw14_walk_eq X x0 all1 t2 p3 K s).mpr h)
theorem vw_leafmeshlaw14_walk_in {x0 : AVal} {all1 : AVal} {t2 : AVal} {p3 : AVal} {K : KvP} {s : Heap} (h : vw_leafmeshlaw14_walk XX x0 all1 t2 p3 K s) : wpCall Try.prog XX 29 [x0, all1, t2, p3] K s := vw_leafmeshlaw14_walk_ok XX_fr rfl h
end Go.AM
