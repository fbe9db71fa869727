/- Part V of a calculus over a small memory that is proved to answer as the program does, and of its use for the functions that the law reaches: see the last part. -/
import Derived.Test.YtnbgeelhoakjgaaU2
import Derived.Test.YtnbgeelhoakjgaaProg
import Derived.KernelRfl
set_option linter.unusedVariables false
namespace Go.AM
open Go Go.Proofs
set_option maxRecDepth 100000
abbrev XX : Told := closedX [9]
theorem XX_fr : FrX XX := closedX_fr _
/-- leafmesh/leafmeshlaw14.FibOf (3) -/
def vc_leafmeshlaw14_FibOf_j3 (X : Told) (t45 : AVal) (t46 : AVal) (K : AVal → Heap → Prop) (s : Heap) : Prop :=
  optK (pickV t45 t46 (.bool false)) fun v_18 =>
  K v_18 s
def vc_leafmeshlaw14_FibOf_j2 (X : Told) (t40 : AVal) (t43 : AVal) (K : AVal → Heap → Prop) (s : Heap) : Prop :=
  optK (pickV t40 t43 (.bool false)) fun v_17 =>
  boolK v_17
   (wpCall Try.prog X 9 [] (fun v_19 s_20 =>
    vc_leafmeshlaw14_FibOf_j3 X v_17 v_19 K s_20) s)
   (vc_leafmeshlaw14_FibOf_j3 X v_17 .undef K s)
def vc_leafmeshlaw14_FibOf_j1 (X : Told) (up2 : AVal) (b10 : AVal) (t35 : AVal) (t38 : AVal) (K : AVal → Heap → Prop) (s : Heap) : Prop :=
  optK (pickV t35 t38 (.bool false)) fun v_16 =>
  boolK v_16
   (wpCall Try.prog X 16 [b10, up2] (fun v_21 s_22 =>
    vc_leafmeshlaw14_FibOf_j2 X v_16 v_21 K s_22) s)
   (vc_leafmeshlaw14_FibOf_j2 X v_16 .undef K s)
def vc_leafmeshlaw14_FibOf_j0 (X : Told) (nodes0 : AVal) (links1 : AVal) (up2 : AVal) (self3 : AVal) (t14 : AVal) (t17 : AVal) (K : AVal → Heap → Prop) (s : Heap) : Prop :=
  optK (pickV t14 (.bool true) t17) fun v_3 =>
  boolK v_3
   (wpCall Try.prog X 9 [] (fun v_4 s_5 =>
    K v_4 s_5) s)
   (wpCall Try.prog X 10 [links1] (fun v_6 s_7 =>
    wpCall Try.prog X 11 [up2] (fun v_8 s_9 =>
    wpCall Try.prog X 13 [nodes0, v_6, v_8, self3] (fun v_10 s_11 =>
    wpCall Try.prog X 14 [nodes0, links1, up2, self3] (fun v_12 s_13 =>
    wpCall Try.prog X 12 [v_10, v_12] (fun v_14 s_15 =>
    boolK v_14
     (wpCall Try.prog X 15 [v_6, links1] (fun v_23 s_24 =>
      vc_leafmeshlaw14_FibOf_j1 X up2 v_8 v_14 v_23 K s_24) s_15)
     (vc_leafmeshlaw14_FibOf_j1 X up2 v_8 v_14 .undef K s_15)) s_13) s_11) s_9) s_7) s)
def vc_leafmeshlaw14_FibOf (X : Told) (nodes0 : AVal) (links1 : AVal) (up2 : AVal) (self3 : AVal) (K : AVal → Heap → Prop) (s : Heap) : Prop :=
  optK (lenOfA links1) fun v_0 =>
  optK (arithV .gtr (.int .i64 v_0) (.int .i64 60)) fun v_2 =>
  boolK v_2
   (vc_leafmeshlaw14_FibOf_j0 X nodes0 links1 up2 self3 v_2 .undef K s)
   (optK (lenOfA up2) fun v_25 =>
    optK (arithV .gtr (.int .i64 v_25) (.int .i64 60)) fun v_27 =>
    vc_leafmeshlaw14_FibOf_j0 X nodes0 links1 up2 self3 v_2 v_27 K s)
def vc_leafmeshlaw14_FibOf_ann : Nat → List Nat := fun _ => []
theorem vc_leafmeshlaw14_FibOf_eq (X : Told) (nodes0 : AVal) (links1 : AVal) (up2 : AVal) (self3 : AVal) (K : AVal → Heap → Prop) (s : Heap) : wpC Try.prog X vc_leafmeshlaw14_FibOf_ann Try.f3.ntmps none (bodyOf Try.f3) (envOf [nodes0, links1, up2, self3]) (fun e env s => retK e (resK Try.prog Try.f3.results.toList env (fun vs => K (oneV vs) s) s)) s = vc_leafmeshlaw14_FibOf X nodes0 links1 up2 self3 K s := by kernel_rfl
theorem vc_leafmeshlaw14_FibOf_ok {X : Told} (hX : FrX X) (hn : X 3 = none) {nodes0 : AVal} {links1 : AVal} {up2 : AVal} {self3 : AVal} {K : AVal → Heap → Prop} {s : Heap} (h : vc_leafmeshlaw14_FibOf X nodes0 links1 up2 self3 K s) : wpCall Try.prog X 3 [nodes0, links1, up2, self3] K s :=
  wpCall_code hX vc_leafmeshlaw14_FibOf_ann hn Try.func3 (by kernel_rfl : Try.f3.body = some (bodyOf Try.f3)) (by kernel_rfl) ((vc_leafmeshlaw14_FibOf_eq X nodes0 links1 up2 self3 K s).mpr h)
theorem vc_leafmeshlaw14_FibOf_in {nodes0 : AVal} {links1 : AVal} {up2 : AVal} {self3 : AVal} {K : AVal → Heap → Prop} {s : Heap} (h : vc_leafmeshlaw14_FibOf XX nodes0 links1 up2 self3 K s) : wpCall Try.prog XX 3 [nodes0, links1, up2, self3] K s := vc_leafmeshlaw14_FibOf_ok XX_fr rfl h
/-- leafmesh/leafmeshkit.Own[leafmesh/api.Link] (10) -/
def vc_leafmeshkit_Own_api_Link_ (X : Told) (l0 : AVal) (K : AVal → Heap → Prop) (s : Heap) : Prop :=
  optK (fillR (repl 0 [(.int .i64 0), (.int .i64 0), (.int .i64 0)]) []) fun c_0 => allOne c_0 = true ∧ newK 27 c_0 (fun b_1 s_2 =>
  appK 27 3 (.slc b_1 0 0 (some 0) 3) l0 (fun v_3 s_4 =>
  K v_3 s_4) s_2) s
def vc_leafmeshkit_Own_api_Link__ann : Nat → List Nat := fun _ => []
theorem vc_leafmeshkit_Own_api_Link__eq (X : Told) (l0 : AVal) (K : AVal → Heap → Prop) (s : Heap) : wpC Try.prog X vc_leafmeshkit_Own_api_Link__ann Try.f10.ntmps none (bodyOf Try.f10) (envOf [l0]) (fun e env s => retK e (resK Try.prog Try.f10.results.toList env (fun vs => K (oneV vs) s) s)) s = vc_leafmeshkit_Own_api_Link_ X l0 K s := by kernel_rfl
theorem vc_leafmeshkit_Own_api_Link__ok {X : Told} (hX : FrX X) (hn : X 10 = none) {l0 : AVal} {K : AVal → Heap → Prop} {s : Heap} (h : vc_leafmeshkit_Own_api_Link_ X l0 K s) : wpCall Try.prog X 10 [l0] K s :=
  wpCall_code hX vc_leafmeshkit_Own_api_Link__ann hn Try.func10 (by kernel_rfl : Try.f10.body = some (bodyOf Try.f10)) (by kernel_rfl) ((vc_leafmeshkit_Own_api_Link__eq X l0 K s).mpr h)
theorem vc_leafmeshkit_Own_api_Link__in {l0 : AVal} {K : AVal → Heap → Prop} {s : Heap} (h : vc_leafmeshkit_Own_api_Link_ XX l0 K s) : wpCall Try.prog XX 10 [l0] K s := vc_leafmeshkit_Own_api_Link__ok XX_fr rfl h
/-- leafmesh/leafmeshkit.Own[bool] (11) -/
def vc_leafmeshkit_Own_bool_ (X : Told) (l0 : AVal) (K : AVal → Heap → Prop) (s : Heap) : Prop :=
  optK (fillR (repl 0 [(.bool false)]) []) fun c_0 => allOne c_0 = true ∧ newK 4 c_0 (fun b_1 s_2 =>
  appK 4 1 (.slc b_1 0 0 (some 0) 1) l0 (fun v_3 s_4 =>
  K v_3 s_4) s_2) s
def vc_leafmeshkit_Own_bool__ann : Nat → List Nat := fun _ => []
theorem vc_leafmeshkit_Own_bool__eq (X : Told) (l0 : AVal) (K : AVal → Heap → Prop) (s : Heap) : wpC Try.prog X vc_leafmeshkit_Own_bool__ann Try.f11.ntmps none (bodyOf Try.f11) (envOf [l0]) (fun e env s => retK e (resK Try.prog Try.f11.results.toList env (fun vs => K (oneV vs) s) s)) s = vc_leafmeshkit_Own_bool_ X l0 K s := by kernel_rfl
theorem vc_leafmeshkit_Own_bool__ok {X : Told} (hX : FrX X) (hn : X 11 = none) {l0 : AVal} {K : AVal → Heap → Prop} {s : Heap} (h : vc_leafmeshkit_Own_bool_ X l0 K s) : wpCall Try.prog X 11 [l0] K s :=
  wpCall_code hX vc_leafmeshkit_Own_bool__ann hn Try.func11 (by kernel_rfl : Try.f11.body = some (bodyOf Try.f11)) (by kernel_rfl) ((vc_leafmeshkit_Own_bool__eq X l0 K s).mpr h)
theorem vc_leafmeshkit_Own_bool__in {l0 : AVal} {K : AVal → Heap → Prop} {s : Heap} (h : vc_leafmeshkit_Own_bool_ XX l0 K s) : wpCall Try.prog XX 11 [l0] K s := vc_leafmeshkit_Own_bool__ok XX_fr rfl h
/-- leafmesh/leafmeshlaw14.entries (12) -/
def vc_leafmeshlaw14_entries_j1 (X : Told) (i5 : AVal) (t28 : AVal) (t40 : AVal) (I0 : List AVal → Heap → Nat → Prop) (m0 : Nat) (K : AVal → Heap → Prop) (s : Heap) : Prop :=
  optK (pickV t28 (.bool true) t40) fun v_15 =>
  boolK v_15
   (K (.bool false) s)
   (optK (arithV .add i5 (.int .i64 1)) fun v_16 =>
    ∃ m', m' < m0 ∧ I0 [v_16] s m')
def vc_leafmeshlaw14_entries_l0 (X : Told) (a0 : AVal) (b1 : AVal) (i5 : AVal) (I0 : List AVal → Heap → Nat → Prop) (m0 : Nat) (K : AVal → Heap → Prop) (s : Heap) : Prop :=
  optK (lenOfA a0) fun v_5 =>
  optK (arithV .lss i5 (.int .i64 v_5)) fun v_7 =>
  boolK v_7
   (optK (iaddrS 2 a0 i5) fun v_8 =>
    optK (addOff 0 v_8) fun v_9 =>
    optK (rd1 s v_9) fun v_10 =>
    optK (iaddrS 2 b1 i5) fun v_11 =>
    optK (addOff 0 v_11) fun v_12 =>
    optK (rd1 s v_12) fun v_13 =>
    optK (negB true (eqV 0 false v_10 v_13)) fun v_14 =>
    boolK v_14
     (vc_leafmeshlaw14_entries_j1 X i5 v_14 .undef I0 m0 K s)
     (optK (iaddrS 2 a0 i5) fun v_17 =>
      optK (addOff 1 v_17) fun v_18 =>
      optK (rd1 s v_18) fun v_19 =>
      optK (iaddrS 2 b1 i5) fun v_20 =>
      optK (addOff 1 v_20) fun v_21 =>
      optK (rd1 s v_21) fun v_22 =>
      wpCall Try.prog X 24 [v_19, v_22] (fun v_23 s_24 =>
      optK (unaryA .not v_23) fun v_25 =>
      vc_leafmeshlaw14_entries_j1 X i5 v_14 v_25 I0 m0 K s_24) s))
   (K (.bool true) s)
def vc_leafmeshlaw14_entries (X : Told) (a0 : AVal) (b1 : AVal) (K : AVal → Heap → Prop) (s : Heap) : Prop :=
  optK (lenOfA a0) fun v_0 =>
  optK (lenOfA b1) fun v_2 =>
  optK (negB true (eqV 0 false (.int .i64 v_0) (.int .i64 v_2))) fun v_4 =>
  boolK v_4
   (K (.bool false) s)
   (∃ I0 : List AVal → Heap → Nat → Prop, (∃ m, I0 [(.int .i64 0)] s m) ∧ ∀ (f : Env) (s : Heap) (m0 : Nat), I0 [f 5] s m0 →
      vc_leafmeshlaw14_entries_l0 X a0 b1 (f 5) I0 m0 K s)
def vc_leafmeshlaw14_entries_ann : Nat → List Nat := fun k => cond (Nat.beq k 8) [5] ([])
theorem vc_leafmeshlaw14_entries_eq (X : Told) (a0 : AVal) (b1 : AVal) (K : AVal → Heap → Prop) (s : Heap) : wpC Try.prog X vc_leafmeshlaw14_entries_ann Try.f12.ntmps none (bodyOf Try.f12) (envOf [a0, b1]) (fun e env s => retK e (resK Try.prog Try.f12.results.toList env (fun vs => K (oneV vs) s) s)) s = vc_leafmeshlaw14_entries X a0 b1 K s := by kernel_rfl
theorem vc_leafmeshlaw14_entries_ok {X : Told} (hX : FrX X) (hn : X 12 = none) {a0 : AVal} {b1 : AVal} {K : AVal → Heap → Prop} {s : Heap} (h : vc_leafmeshlaw14_entries X a0 b1 K s) : wpCall Try.prog X 12 [a0, b1] K s :=
  wpCall_code hX vc_leafmeshlaw14_entries_ann hn Try.func12 (by kernel_rfl : Try.f12.body = some (bodyOf Try.f12)) (by kernel_rfl) ((vc_leafmeshlaw14_entries_eq X a0 b1 K s).mpr h)
theorem vc_leafmeshlaw14_entries_in {a0 : AVal} {b1 : AVal} {K : AVal → Heap → Prop} {s : Heap} (h : vc_leafmeshlaw14_entries XX a0 b1 K s) : wpCall Try.prog XX 12 [a0, b1] K s := vc_leafmeshlaw14_entries_ok XX_fr rfl h
/-- leafmesh/fib.Of (13) -/
def vc_fib_Of_j1 (X : Told) (l9 : AVal) (t20 : AVal) (I0 : List AVal → Heap → Nat → Prop) (m0 : Nat) (K : AVal → Heap → Prop) (s : Heap) : Prop :=
  optK (arithV .add t20 (.int .i64 1)) fun v_5 =>
  ∃ m', m' < m0 ∧ I0 [l9, v_5] s m'
def vc_fib_Of_j2 (X : Told) (nodes0 : AVal) (links1 : AVal) (up2 : AVal) (self3 : AVal) (l9 : AVal) (n10 : AVal) (t20 : AVal) (t28 : AVal) (t30 : AVal) (I0 : List AVal → Heap → Nat → Prop) (m0 : Nat) (K : AVal → Heap → Prop) (s : Heap) : Prop :=
  optK (pickV t28 (.bool true) t30) fun v_9 =>
  boolK v_9
   (vc_fib_Of_j1 X l9 t20 I0 m0 K s)
   (wpCall Try.prog X 36 [n10] (fun v_10 s_11 =>
    optK (extractA v_10 0) fun v_12 =>
    optK (extractA v_10 1) fun v_13 =>
    optK (negB false (eqV 0 true v_13 (.int .i64 0))) fun v_14 =>
    boolK v_14
     (wpCall Try.prog X 30 [nodes0, links1, up2, self3, n10] (fun v_15 s_16 =>
      optK (fillR [(.int .u32 0), .nilslc] [(0, 1, v_12), (1, 1, v_15)]) fun c_17 =>
      optK (fillR (repl 1 [(.int .u32 0), .nilslc]) [(0, 2, (.agg c_17))]) fun c_18 => allOne c_18 = true ∧ newK 86 c_18 (fun b_19 s_20 =>
      appK 86 2 l9 (.slc b_19 0 1 (some 1) 2) (fun v_21 s_22 =>
      vc_fib_Of_j1 X v_21 t20 I0 m0 K s_22) s_20) s_16) s_11)
     (vc_fib_Of_j1 X l9 t20 I0 m0 K s_11)) s)
def vc_fib_Of_l0 (X : Told) (nodes0 : AVal) (links1 : AVal) (up2 : AVal) (self3 : AVal) (l9 : AVal) (t18 : AVal) (t19 : AVal) (t20 : AVal) (I0 : List AVal → Heap → Nat → Prop) (m0 : Nat) (K : AVal → Heap → Prop) (s : Heap) : Prop :=
  optK (arithV .lss t20 t19) fun v_4 =>
  boolK v_4
   (optK (iaddrS 1 t18 t20) fun v_6 =>
    optK (rd1 s v_6) fun v_7 =>
    optK (negB false (eqV 0 false t20 self3)) fun v_8 =>
    boolK v_8
     (vc_fib_Of_j2 X nodes0 links1 up2 self3 l9 t20 t20 v_8 .undef I0 m0 K s)
     (optK (arithV .lss v_7 (.int .i64 0)) fun v_23 =>
      vc_fib_Of_j2 X nodes0 links1 up2 self3 l9 t20 t20 v_8 v_23 I0 m0 K s))
   (K l9 s)
def vc_fib_Of (X : Told) (nodes0 : AVal) (links1 : AVal) (up2 : AVal) (self3 : AVal) (K : AVal → Heap → Prop) (s : Heap) : Prop :=
  wpCall Try.prog X 28 [nodes0, links1, up2, self3] (fun v_0 s_1 =>
  optK (lenOfA v_0) fun v_2 =>
  ∃ I0 : List AVal → Heap → Nat → Prop, (∃ m, I0 [.nilslc, (.int .i64 0)] s_1 m) ∧ ∀ (f : Env) (s : Heap) (m0 : Nat), I0 [f 9, f 20] s m0 →
    vc_fib_Of_l0 X nodes0 links1 up2 self3 (f 9) v_0 (.int .i64 v_2) (f 20) I0 m0 K s) s
def vc_fib_Of_ann : Nat → List Nat := fun k => cond (Nat.beq k 6) [9, 20] ([])
theorem vc_fib_Of_eq (X : Told) (nodes0 : AVal) (links1 : AVal) (up2 : AVal) (self3 : AVal) (K : AVal → Heap → Prop) (s : Heap) : wpC Try.prog X vc_fib_Of_ann Try.f13.ntmps none (bodyOf Try.f13) (envOf [nodes0, links1, up2, self3]) (fun e env s => retK e (resK Try.prog Try.f13.results.toList env (fun vs => K (oneV vs) s) s)) s = vc_fib_Of X nodes0 links1 up2 self3 K s := by kernel_rfl
theorem vc_fib_Of_ok {X : Told} (hX : FrX X) (hn : X 13 = none) {nodes0 : AVal} {links1 : AVal} {up2 : AVal} {self3 : AVal} {K : AVal → Heap → Prop} {s : Heap} (h : vc_fib_Of X nodes0 links1 up2 self3 K s) : wpCall Try.prog X 13 [nodes0, links1, up2, self3] K s :=
  wpCall_code hX vc_fib_Of_ann hn Try.func13 (by kernel_rfl : Try.f13.body = some (bodyOf Try.f13)) (by kernel_rfl) ((vc_fib_Of_eq X nodes0 links1 up2 self3 K s).mpr h)
theorem vc_fib_Of_in {nodes0 : AVal} {links1 : AVal} {up2 : AVal} {self3 : AVal} {K : AVal → Heap → Prop} {s : Heap} (h : vc_fib_Of XX nodes0 links1 up2 self3 K s) : wpCall Try.prog XX 13 [nodes0, links1, up2, self3] K s := vc_fib_Of_ok XX_fr rfl h
/-- leafmesh/leafmeshref14.Of (14) -/
def vc_leafmeshref14_Of_j1 (X : Told) (out9 : AVal) (n10 : AVal) (I0 : List AVal → Heap → Nat → Prop) (m0 : Nat) (K : AVal → Heap → Prop) (s : Heap) : Prop :=
  optK (arithV .add n10 (.int .i64 1)) fun v_9 =>
  ∃ m', m' < m0 ∧ I0 [out9, v_9] s m'
def vc_leafmeshref14_Of_l0 (X : Told) (nodes0 : AVal) (links1 : AVal) (up2 : AVal) (self3 : AVal) (out9 : AVal) (n10 : AVal) (I0 : List AVal → Heap → Nat → Prop) (m0 : Nat) (K : AVal → Heap → Prop) (s : Heap) : Prop :=
  optK (arithV .lss n10 nodes0) fun v_3 =>
  boolK v_3
   (wpCall Try.prog X 38 [nodes0, links1, up2, self3, n10] (fun v_4 s_5 =>
    optK (lenOfA v_4) fun v_6 =>
    optK (arithV .gtr (.int .i64 v_6) (.int .i64 0)) fun v_8 =>
    boolK v_8
     (wpCall Try.prog X 39 [n10] (fun v_10 s_11 =>
      optK (fillR [(.int .u32 0), .nilslc] [(0, 1, v_10), (1, 1, v_4)]) fun c_12 =>
      optK (fillR (repl 1 [(.int .u32 0), .nilslc]) [(0, 2, (.agg c_12))]) fun c_13 => allOne c_13 = true ∧ newK 86 c_13 (fun b_14 s_15 =>
      appK 86 2 out9 (.slc b_14 0 1 (some 1) 2) (fun v_16 s_17 =>
      vc_leafmeshref14_Of_j1 X v_16 n10 I0 m0 K s_17) s_15) s_11) s_5)
     (vc_leafmeshref14_Of_j1 X out9 n10 I0 m0 K s_5)) s)
   (K out9 s)
def vc_leafmeshref14_Of (X : Told) (nodes0 : AVal) (links1 : AVal) (up2 : AVal) (self3 : AVal) (K : AVal → Heap → Prop) (s : Heap) : Prop :=
  wpCall Try.prog X 37 [nodes0, links1, up2, self3] (fun v_0 s_1 =>
  optK (unaryA .not v_0) fun v_2 =>
  boolK v_2
   (K .nilslc s_1)
   (∃ I0 : List AVal → Heap → Nat → Prop, (∃ m, I0 [.nilslc, (.int .i64 0)] s_1 m) ∧ ∀ (f : Env) (s : Heap) (m0 : Nat), I0 [f 9, f 10] s m0 →
      vc_leafmeshref14_Of_l0 X nodes0 links1 up2 self3 (f 9) (f 10) I0 m0 K s)) s
def vc_leafmeshref14_Of_ann : Nat → List Nat := fun k => cond (Nat.beq k 10) [9, 10] ([])
theorem vc_leafmeshref14_Of_eq (X : Told) (nodes0 : AVal) (links1 : AVal) (up2 : AVal) (self3 : AVal) (K : AVal → Heap → Prop) (s : Heap) : wpC Try.prog X vc_leafmeshref14_Of_ann Try.f14.ntmps none (bodyOf Try.f14) (envOf [nodes0, links1, up2, self3]) (fun e env s => retK e (resK Try.prog Try.f14.results.toList env (fun vs => K (oneV vs) s) s)) s = vc_leafmeshref14_Of X nodes0 links1 up2 self3 K s := by kernel_rfl
theorem vc_leafmeshref14_Of_ok {X : Told} (hX : FrX X) (hn : X 14 = none) {nodes0 : AVal} {links1 : AVal} {up2 : AVal} {self3 : AVal} {K : AVal → Heap → Prop} {s : Heap} (h : vc_leafmeshref14_Of X nodes0 links1 up2 self3 K s) : wpCall Try.prog X 14 [nodes0, links1, up2, self3] K s :=
  wpCall_code hX vc_leafmeshref14_Of_ann hn Try.func14 (by kernel_rfl : Try.f14.body = some (bodyOf Try.f14)) (by kernel_rfl) ((vc_leafmeshref14_Of_eq X nodes0 links1 up2 self3 K s).mpr h)
theorem vc_leafmeshref14_Of_in {nodes0 : AVal} {links1 : AVal} {up2 : AVal} {self3 : AVal} {K : AVal → Heap → Prop} {s : Heap} (h : vc_leafmeshref14_Of XX nodes0 links1 up2 self3 K s) : wpCall Try.prog XX 14 [nodes0, links1, up2, self3] K s := vc_leafmeshref14_Of_ok XX_fr rfl h
/-- leafmesh/leafmeshkit.Same[leafmesh/api.Link] (15) -/
def vc_leafmeshkit_Same_api_Link__l0 (X : Told) (a0 : AVal) (b1 : AVal) (i5 : AVal) (I0 : List AVal → Heap → Nat → Prop) (m0 : Nat) (K : AVal → Heap → Prop) (s : Heap) : Prop :=
  optK (lenOfA a0) fun v_5 =>
  optK (arithV .lss i5 (.int .i64 v_5)) fun v_7 =>
  boolK v_7
   (optK (iaddrS 3 a0 i5) fun v_8 =>
    optK (rdN s 3 v_8) fun v_9 =>
    optK (iaddrS 3 b1 i5) fun v_10 =>
    optK (rdN s 3 v_10) fun v_11 =>
    optK (negB true (eqAgg Try.prog 27 (.agg v_9) (.agg v_11))) fun v_12 =>
    boolK v_12
     (K (.bool false) s)
     (optK (arithV .add i5 (.int .i64 1)) fun v_13 =>
      ∃ m', m' < m0 ∧ I0 [v_13] s m'))
   (K (.bool true) s)
def vc_leafmeshkit_Same_api_Link_ (X : Told) (a0 : AVal) (b1 : AVal) (K : AVal → Heap → Prop) (s : Heap) : Prop :=
  optK (lenOfA a0) fun v_0 =>
  optK (lenOfA b1) fun v_2 =>
  optK (negB true (eqV 0 false (.int .i64 v_0) (.int .i64 v_2))) fun v_4 =>
  boolK v_4
   (K (.bool false) s)
   (∃ I0 : List AVal → Heap → Nat → Prop, (∃ m, I0 [(.int .i64 0)] s m) ∧ ∀ (f : Env) (s : Heap) (m0 : Nat), I0 [f 5] s m0 →
      vc_leafmeshkit_Same_api_Link__l0 X a0 b1 (f 5) I0 m0 K s)
def vc_leafmeshkit_Same_api_Link__ann : Nat → List Nat := fun k => cond (Nat.beq k 8) [5] ([])
theorem vc_leafmeshkit_Same_api_Link__eq (X : Told) (a0 : AVal) (b1 : AVal) (K : AVal → Heap → Prop) (s : Heap) : wpC Try.prog X vc_leafmeshkit_Same_api_Link__ann Try.f15.ntmps none (bodyOf Try.f15) (envOf [a0, b1]) (fun e env s => retK e (resK Try.prog Try.f15.results.toList env (fun vs => K (oneV vs) s) s)) s = vc_leafmeshkit_Same_api_Link_ X a0 b1 K s := by kernel_rfl
theorem vc_leafmeshkit_Same_api_Link__ok {X : Told} (hX : FrX X) (hn : X 15 = none) {a0 : AVal} {b1 : AVal} {K : AVal → Heap → Prop} {s : Heap} (h : vc_leafmeshkit_Same_api_Link_ X a0 b1 K s) : wpCall Try.prog X 15 [a0, b1] K s :=
  wpCall_code hX vc_leafmeshkit_Same_api_Link__ann hn Try.func15 (by kernel_rfl : Try.f15.body = some (bodyOf Try.f15)) (by kernel_rfl) ((vc_leafmeshkit_Same_api_Link__eq X a0 b1 K s).mpr h)
theorem vc_leafmeshkit_Same_api_Link__in {a0 : AVal} {b1 : AVal} {K : AVal → Heap → Prop} {s : Heap} (h : vc_leafmeshkit_Same_api_Link_ XX a0 b1 K s) : wpCall Try.prog XX 15 [a0, b1] K s := vc_leafmeshkit_Same_api_Link__ok XX_fr rfl h
/-- leafmesh/leafmeshkit.Same[bool] (16) -/
def vc_leafmeshkit_Same_bool__l0 (X : Told) (a0 : AVal) (b1 : AVal) (i5 : AVal) (I0 : List AVal → Heap → Nat → Prop) (m0 : Nat) (K : AVal → Heap → Prop) (s : Heap) : Prop :=
  optK (lenOfA a0) fun v_5 =>
  optK (arithV .lss i5 (.int .i64 v_5)) fun v_7 =>
  boolK v_7
   (optK (iaddrS 1 a0 i5) fun v_8 =>
    optK (rd1 s v_8) fun v_9 =>
    optK (iaddrS 1 b1 i5) fun v_10 =>
    optK (rd1 s v_10) fun v_11 =>
    optK (negB true (eqV 1 false v_9 v_11)) fun v_12 =>
    boolK v_12
     (K (.bool false) s)
     (optK (arithV .add i5 (.int .i64 1)) fun v_13 =>
      ∃ m', m' < m0 ∧ I0 [v_13] s m'))
   (K (.bool true) s)
def vc_leafmeshkit_Same_bool_ (X : Told) (a0 : AVal) (b1 : AVal) (K : AVal → Heap → Prop) (s : Heap) : Prop :=
  optK (lenOfA a0) fun v_0 =>
  optK (lenOfA b1) fun v_2 =>
  optK (negB true (eqV 0 false (.int .i64 v_0) (.int .i64 v_2))) fun v_4 =>
  boolK v_4
   (K (.bool false) s)
   (∃ I0 : List AVal → Heap → Nat → Prop, (∃ m, I0 [(.int .i64 0)] s m) ∧ ∀ (f : Env) (s : Heap) (m0 : Nat), I0 [f 5] s m0 →
      vc_leafmeshkit_Same_bool__l0 X a0 b1 (f 5) I0 m0 K s)
def vc_leafmeshkit_Same_bool__ann : Nat → List Nat := fun k => cond (Nat.beq k 8) [5] ([])
theorem vc_leafmeshkit_Same_bool__eq (X : Told) (a0 : AVal) (b1 : AVal) (K : AVal → Heap → Prop) (s : Heap) : wpC Try.prog X vc_leafmeshkit_Same_bool__ann Try.f16.ntmps none (bodyOf Try.f16) (envOf [a0, b1]) (fun e env s => retK e (resK Try.prog Try.f16.results.toList env (fun vs => K (oneV vs) s) s)) s = vc_leafmeshkit_Same_bool_ X a0 b1 K s := by kernel_rfl
theorem vc_leafmeshkit_Same_bool__ok {X : Told} (hX : FrX X) (hn : X 16 = none) {a0 : AVal} {b1 : AVal} {K : AVal → Heap → Prop} {s : Heap} (h : vc_leafmeshkit_Same_bool_ X a0 b1 K s) : wpCall Try.prog X 16 [a0, b1] K s :=
  wpCall_code hX vc_leafmeshkit_Same_bool__ann hn Try.func16 (by kernel_rfl : Try.f16.body = some (bodyOf Try.f16)) (by kernel_rfl) ((vc_leafmeshkit_Same_bool__eq X a0 b1 K s).mpr h)
theorem vc_leafmeshkit_Same_bool__in {a0 : AVal} {b1 : AVal} {K : AVal → Heap → Prop} {s : Heap} (h : vc_leafmeshkit_Same_bool_ XX a0 b1 K s) : wpCall Try.prog XX 16 [a0, b1] K s := vc_leafmeshkit_Same_bool__ok XX_fr rfl h
/-- leafmesh/leafmeshkit.Same[int] (24) -/
def vc_leafmeshkit_Same_int__l0 (X : Told) (a0 : AVal) (b1 : AVal) (i5 : AVal) (I0 : List AVal → Heap → Nat → Prop) (m0 : Nat) (K : AVal → Heap → Prop) (s : Heap) : Prop :=
  optK (lenOfA a0) fun v_5 =>
  optK (arithV .lss i5 (.int .i64 v_5)) fun v_7 =>
  boolK v_7
   (optK (iaddrS 1 a0 i5) fun v_8 =>
    optK (rd1 s v_8) fun v_9 =>
    optK (iaddrS 1 b1 i5) fun v_10 =>
    optK (rd1 s v_10) fun v_11 =>
    optK (negB true (eqV 0 false v_9 v_11)) fun v_12 =>
    boolK v_12
     (K (.bool false) s)
     (optK (arithV .add i5 (.int .i64 1)) fun v_13 =>
      ∃ m', m' < m0 ∧ I0 [v_13] s m'))
   (K (.bool true) s)
def vc_leafmeshkit_Same_int_ (X : Told) (a0 : AVal) (b1 : AVal) (K : AVal → Heap → Prop) (s : Heap) : Prop :=
  optK (lenOfA a0) fun v_0 =>
  optK (lenOfA b1) fun v_2 =>
  optK (negB true (eqV 0 false (.int .i64 v_0) (.int .i64 v_2))) fun v_4 =>
  boolK v_4
   (K (.bool false) s)
   (∃ I0 : List AVal → Heap → Nat → Prop, (∃ m, I0 [(.int .i64 0)] s m) ∧ ∀ (f : Env) (s : Heap) (m0 : Nat), I0 [f 5] s m0 →
      vc_leafmeshkit_Same_int__l0 X a0 b1 (f 5) I0 m0 K s)
def vc_leafmeshkit_Same_int__ann : Nat → List Nat := fun k => cond (Nat.beq k 8) [5] ([])
theorem vc_leafmeshkit_Same_int__eq (X : Told) (a0 : AVal) (b1 : AVal) (K : AVal → Heap → Prop) (s : Heap) : wpC Try.prog X vc_leafmeshkit_Same_int__ann Try.f24.ntmps none (bodyOf Try.f24) (envOf [a0, b1]) (fun e env s => retK e (resK Try.prog Try.f24.results.toList env (fun vs => K (oneV vs) s) s)) s = vc_leafmeshkit_Same_int_ X a0 b1 K s := by kernel_rfl
theorem vc_leafmeshkit_Same_int__ok {X : Told} (hX : FrX X) (hn : X 24 = none) {a0 : AVal} {b1 : AVal} {K : AVal → Heap → Prop} {s : Heap} (h : vc_leafmeshkit_Same_int_ X a0 b1 K s) : wpCall Try.prog X 24 [a0, b1] K s :=
  wpCall_code hX vc_leafmeshkit_Same_int__ann hn Try.func24 (by kernel_rfl : Try.f24.body = some (bodyOf Try.f24)) (by kernel_rfl) ((vc_leafmeshkit_Same_int__eq X a0 b1 K s).mpr h)
theorem vc_leafmeshkit_Same_int__in {a0 : AVal} {b1 : AVal} {K : AVal → Heap → Prop} {s : Heap} (h : vc_leafmeshkit_Same_int_ XX a0 b1 K s) : wpCall Try.prog XX 24 [a0, b1] K s := vc_leafmeshkit_Same_int__ok XX_fr rfl h
/-- leafmesh/spf.Dist (28) -/
def vc_spf_Dist (X : Told) (nodes0 : AVal) (links1 : AVal) (up2 : AVal) (t3 : AVal) (K : AVal → Heap → Prop) (s : Heap) : Prop :=
  optK (fillR (repl 1 [(.int .i64 0)]) [(0, 1, t3)]) fun c_0 => allOne c_0 = true ∧ newK 3 c_0 (fun b_1 s_2 =>
  wpCall Try.prog X 47 [nodes0, links1, up2, (.slc b_1 0 1 (some 1) 1)] (fun v_3 s_4 =>
  optK (unaryA .not v_3) fun v_5 =>
  boolK v_5
   (K .nilslc s_4)
   (wpCall Try.prog X 49 [nodes0, links1, up2] (fun v_6 s_7 =>
    wpCall Try.prog X 48 [v_6, t3] (fun v_8 s_9 =>
    K v_8 s_9) s_7) s_4)) s_2) s
def vc_spf_Dist_ann : Nat → List Nat := fun _ => []
theorem vc_spf_Dist_eq (X : Told) (nodes0 : AVal) (links1 : AVal) (up2 : AVal) (t3 : AVal) (K : AVal → Heap → Prop) (s : Heap) : wpC Try.prog X vc_spf_Dist_ann Try.f28.ntmps none (bodyOf Try.f28) (envOf [nodes0, links1, up2, t3]) (fun e env s => retK e (resK Try.prog Try.f28.results.toList env (fun vs => K (oneV vs) s) s)) s = vc_spf_Dist X nodes0 links1 up2 t3 K s := by kernel_rfl
theorem vc_spf_Dist_ok {X : Told} (hX : FrX X) (hn : X 28 = none) {nodes0 : AVal} {links1 : AVal} {up2 : AVal} {t3 : AVal} {K : AVal → Heap → Prop} {s : Heap} (h : vc_spf_Dist X nodes0 links1 up2 t3 K s) : wpCall Try.prog X 28 [nodes0, links1, up2, t3] K s :=
  wpCall_code hX vc_spf_Dist_ann hn Try.func28 (by kernel_rfl : Try.f28.body = some (bodyOf Try.f28)) (by kernel_rfl) ((vc_spf_Dist_eq X nodes0 links1 up2 t3 K s).mpr h)
theorem vc_spf_Dist_in {nodes0 : AVal} {links1 : AVal} {up2 : AVal} {t3 : AVal} {K : AVal → Heap → Prop} {s : Heap} (h : vc_spf_Dist XX nodes0 links1 up2 t3 K s) : wpCall Try.prog XX 28 [nodes0, links1, up2, t3] K s := vc_spf_Dist_ok XX_fr rfl h
/-- leafmesh/spf.Next (30) -/
def vc_spf_Next_l0 (X : Told) (first12 : AVal) (t35 : AVal) (t36 : AVal) (t37 : AVal) (I0 : List AVal → Heap → Nat → Prop) (m0 : Nat) (K : AVal → Heap → Prop) (s : Heap) : Prop :=
  optK (arithV .lss t37 t36) fun v_16 =>
  boolK v_16
   (optK (iaddrS 3 t35 t37) fun v_17 =>
    optK (rdN s 3 v_17) fun v_18 =>
    newK 106 [(.int .i64 0), (.int .i64 0), (.int .i64 0)] (fun b_19 s_20 =>
    optK (wrAgg s_20 3 (.ptr b_19 0) (.agg v_18)) fun s_21 =>
    optK (addOff 0 (.ptr b_19 0)) fun v_22 =>
    optK (rd1 s_21 v_22) fun v_23 =>
    optK (fillR (repl 1 [(.int .i64 0)]) [(0, 1, v_23)]) fun c_24 => allOne c_24 = true ∧ newK 3 c_24 (fun b_25 s_26 =>
    appK 3 1 first12 (.slc b_25 0 1 (some 1) 1) (fun v_27 s_28 =>
    optK (arithV .add t37 (.int .i64 1)) fun v_29 =>
    ∃ m', m' < m0 ∧ I0 [v_27, v_29] s_28 m') s_26) s_21) s)
   (K first12 s)
def vc_spf_Next (X : Told) (nodes0 : AVal) (links1 : AVal) (up2 : AVal) (t3 : AVal) (t4 : AVal) (K : AVal → Heap → Prop) (s : Heap) : Prop :=
  optK (fillR (repl 2 [(.int .i64 0)]) [(0, 1, t3), (1, 1, t4)]) fun c_0 => allOne c_0 = true ∧ newK 3 c_0 (fun b_1 s_2 =>
  wpCall Try.prog X 47 [nodes0, links1, up2, (.slc b_1 0 2 (some 2) 1)] (fun v_3 s_4 =>
  optK (unaryA .not v_3) fun v_5 =>
  boolK v_5
   (K .nilslc s_4)
   (wpCall Try.prog X 49 [nodes0, links1, up2] (fun v_6 s_7 =>
    optK (iaddrS 1 v_6 t3) fun v_8 =>
    optK (rd1 s_7 v_8) fun v_9 =>
    wpCall Try.prog X 48 [v_6, t4] (fun v_10 s_11 =>
    (∀ b, s_7 b ≠ none → s_7 b = none → s_11 b = none) →
    wpCall Try.prog X 50 [v_9, v_10, t3] (fun v_12 s_13 =>
    optK (lenOfA v_12) fun v_14 =>
    ∃ I0 : List AVal → Heap → Nat → Prop, (∃ m, I0 [.nilslc, (.int .i64 0)] s_13 m) ∧ ∀ (f : Env) (s : Heap) (m0 : Nat), I0 [f 12, f 37] s m0 →
      vc_spf_Next_l0 X (f 12) v_12 (.int .i64 v_14) (f 37) I0 m0 K s) (add s_7 s_11)) (frz s_7)) s_4)) s_2) s
def vc_spf_Next_ann : Nat → List Nat := fun k => cond (Nat.beq k 12) [12, 37] ([])
theorem vc_spf_Next_eq (X : Told) (nodes0 : AVal) (links1 : AVal) (up2 : AVal) (t3 : AVal) (t4 : AVal) (K : AVal → Heap → Prop) (s : Heap) : wpC Try.prog X vc_spf_Next_ann Try.f30.ntmps none (bodyOf Try.f30) (envOf [nodes0, links1, up2, t3, t4]) (fun e env s => retK e (resK Try.prog Try.f30.results.toList env (fun vs => K (oneV vs) s) s)) s = vc_spf_Next X nodes0 links1 up2 t3 t4 K s := by kernel_rfl
theorem vc_spf_Next_ok {X : Told} (hX : FrX X) (hn : X 30 = none) {nodes0 : AVal} {links1 : AVal} {up2 : AVal} {t3 : AVal} {t4 : AVal} {K : AVal → Heap → Prop} {s : Heap} (h : vc_spf_Next X nodes0 links1 up2 t3 t4 K s) : wpCall Try.prog X 30 [nodes0, links1, up2, t3, t4] K s :=
  wpCall_code hX vc_spf_Next_ann hn Try.func30 (by kernel_rfl : Try.f30.body = some (bodyOf Try.f30)) (by kernel_rfl) ((vc_spf_Next_eq X nodes0 links1 up2 t3 t4 K s).mpr h)
theorem vc_spf_Next_in {nodes0 : AVal} {links1 : AVal} {up2 : AVal} {t3 : AVal} {t4 : AVal} {K : AVal → Heap → Prop} {s : Heap} (h : vc_spf_Next XX nodes0 links1 up2 t3 t4 K s) : wpCall Try.prog XX 30 [nodes0, links1, up2, t3, t4] K s := vc_spf_Next_ok XX_fr rfl h
/-- leafmesh/addr.Loopback (36) -/
def vc_addr_Loopback_j0 (X : Told) (n0 : AVal) (t6 : AVal) (t8 : AVal) (K : AVal → Heap → Prop) (s : Heap) : Prop :=
  optK (pickV t6 (.bool true) t8) fun v_1 =>
  boolK v_1
   (K (.tup [(.int .u32 0), (.int .i64 2)]) s)
   (optK (convI .u32 n0) fun v_2 =>
    optK (arithV .add (.int .u32 184483840) v_2) fun v_3 =>
    optK (arithV .add v_3 (.int .u32 1)) fun v_4 =>
    K (.tup [v_4, (.int .i64 0)]) s)
def vc_addr_Loopback (X : Told) (n0 : AVal) (K : AVal → Heap → Prop) (s : Heap) : Prop :=
  optK (arithV .lss n0 (.int .i64 0)) fun v_0 =>
  boolK v_0
   (vc_addr_Loopback_j0 X n0 v_0 .undef K s)
   (optK (arithV .geq n0 (.int .i64 32)) fun v_5 =>
    vc_addr_Loopback_j0 X n0 v_0 v_5 K s)
def vc_addr_Loopback_ann : Nat → List Nat := fun _ => []
theorem vc_addr_Loopback_eq (X : Told) (n0 : AVal) (K : AVal → Heap → Prop) (s : Heap) : wpC Try.prog X vc_addr_Loopback_ann Try.f36.ntmps none (bodyOf Try.f36) (envOf [n0]) (fun e env s => retK e (resK Try.prog Try.f36.results.toList env (fun vs => K (oneV vs) s) s)) s = vc_addr_Loopback X n0 K s := by kernel_rfl
theorem vc_addr_Loopback_ok {X : Told} (hX : FrX X) (hn : X 36 = none) {n0 : AVal} {K : AVal → Heap → Prop} {s : Heap} (h : vc_addr_Loopback X n0 K s) : wpCall Try.prog X 36 [n0] K s :=
  wpCall_code hX vc_addr_Loopback_ann hn Try.func36 (by kernel_rfl : Try.f36.body = some (bodyOf Try.f36)) (by kernel_rfl) ((vc_addr_Loopback_eq X n0 K s).mpr h)
theorem vc_addr_Loopback_in {n0 : AVal} {K : AVal → Heap → Prop} {s : Heap} (h : vc_addr_Loopback XX n0 K s) : wpCall Try.prog XX 36 [n0] K s := vc_addr_Loopback_ok XX_fr rfl h
/-- leafmesh/leafmeshref10.Valid (37) -/
def vc_leafmeshref10_Valid_j2 (X : Told) (t24 : AVal) (t27 : AVal) (K : AVal → Heap → Prop) (s : Heap) : Prop :=
  optK (pickV t24 t27 (.bool false)) fun v_5 =>
  K v_5 s
def vc_leafmeshref10_Valid_j1 (X : Told) (nodes0 : AVal) (n3 : AVal) (t20 : AVal) (t22 : AVal) (K : AVal → Heap → Prop) (s : Heap) : Prop :=
  optK (pickV t20 t22 (.bool false)) fun v_4 =>
  boolK v_4
   (optK (arithV .lss n3 nodes0) fun v_6 =>
    vc_leafmeshref10_Valid_j2 X v_4 v_6 K s)
   (vc_leafmeshref10_Valid_j2 X v_4 .undef K s)
def vc_leafmeshref10_Valid_j0 (X : Told) (nodes0 : AVal) (n3 : AVal) (t13 : AVal) (t18 : AVal) (K : AVal → Heap → Prop) (s : Heap) : Prop :=
  optK (pickV t13 t18 (.bool false)) fun v_3 =>
  boolK v_3
   (optK (arithV .geq n3 (.int .i64 0)) fun v_7 =>
    vc_leafmeshref10_Valid_j1 X nodes0 n3 v_3 v_7 K s)
   (vc_leafmeshref10_Valid_j1 X nodes0 n3 v_3 .undef K s)
def vc_leafmeshref10_Valid (X : Told) (nodes0 : AVal) (links1 : AVal) (up2 : AVal) (n3 : AVal) (K : AVal → Heap → Prop) (s : Heap) : Prop :=
  wpCall Try.prog X 58 [nodes0, links1] (fun v_0 s_1 =>
  optK (negB false (eqV 0 true v_0 (.int .i64 0))) fun v_2 =>
  boolK v_2
   (optK (lenOfA up2) fun v_8 =>
    optK (lenOfA links1) fun v_10 =>
    optK (negB false (eqV 0 false (.int .i64 v_8) (.int .i64 v_10))) fun v_12 =>
    vc_leafmeshref10_Valid_j0 X nodes0 n3 v_2 v_12 K s_1)
   (vc_leafmeshref10_Valid_j0 X nodes0 n3 v_2 .undef K s_1)) s
def vc_leafmeshref10_Valid_ann : Nat → List Nat := fun _ => []
theorem vc_leafmeshref10_Valid_eq (X : Told) (nodes0 : AVal) (links1 : AVal) (up2 : AVal) (n3 : AVal) (K : AVal → Heap → Prop) (s : Heap) : wpC Try.prog X vc_leafmeshref10_Valid_ann Try.f37.ntmps none (bodyOf Try.f37) (envOf [nodes0, links1, up2, n3]) (fun e env s => retK e (resK Try.prog Try.f37.results.toList env (fun vs => K (oneV vs) s) s)) s = vc_leafmeshref10_Valid X nodes0 links1 up2 n3 K s := by kernel_rfl
theorem vc_leafmeshref10_Valid_ok {X : Told} (hX : FrX X) (hn : X 37 = none) {nodes0 : AVal} {links1 : AVal} {up2 : AVal} {n3 : AVal} {K : AVal → Heap → Prop} {s : Heap} (h : vc_leafmeshref10_Valid X nodes0 links1 up2 n3 K s) : wpCall Try.prog X 37 [nodes0, links1, up2, n3] K s :=
  wpCall_code hX vc_leafmeshref10_Valid_ann hn Try.func37 (by kernel_rfl : Try.f37.body = some (bodyOf Try.f37)) (by kernel_rfl) ((vc_leafmeshref10_Valid_eq X nodes0 links1 up2 n3 K s).mpr h)
theorem vc_leafmeshref10_Valid_in {nodes0 : AVal} {links1 : AVal} {up2 : AVal} {n3 : AVal} {K : AVal → Heap → Prop} {s : Heap} (h : vc_leafmeshref10_Valid XX nodes0 links1 up2 n3 K s) : wpCall Try.prog XX 37 [nodes0, links1, up2, n3] K s := vc_leafmeshref10_Valid_ok XX_fr rfl h
/-- leafmesh/leafmeshref10.Next (38) -/
def vc_leafmeshref10_Next_j5 (X : Told) (out12 : AVal) (i13 : AVal) (I0 : List AVal → Heap → Nat → Prop) (m0 : Nat) (K : AVal → Heap → Prop) (s : Heap) : Prop :=
  optK (arithV .add i13 (.int .i64 1)) fun v_18 =>
  ∃ m', m' < m0 ∧ I0 [out12, v_18] s m'
def vc_leafmeshref10_Next_j4 (X : Told) (out12 : AVal) (i13 : AVal) (t61 : AVal) (t76 : AVal) (I0 : List AVal → Heap → Nat → Prop) (m0 : Nat) (K : AVal → Heap → Prop) (s : Heap) : Prop :=
  optK (pickV t61 t76 (.bool false)) fun v_17 =>
  boolK v_17
   (optK (fillR (repl 1 [(.int .i64 0)]) [(0, 1, i13)]) fun c_19 => allOne c_19 = true ∧ newK 3 c_19 (fun b_20 s_21 =>
    appK 3 1 out12 (.slc b_20 0 1 (some 1) 1) (fun v_22 s_23 =>
    vc_leafmeshref10_Next_j5 X v_22 i13 I0 m0 K s_23) s_21) s)
   (vc_leafmeshref10_Next_j5 X out12 i13 I0 m0 K s)
def vc_leafmeshref10_Next_j3 (X : Told) (links1 : AVal) (t3 : AVal) (d11 : AVal) (out12 : AVal) (i13 : AVal) (n14 : AVal) (t54 : AVal) (t59 : AVal) (I0 : List AVal → Heap → Nat → Prop) (m0 : Nat) (K : AVal → Heap → Prop) (s : Heap) : Prop :=
  optK (pickV t54 t59 (.bool false)) fun v_16 =>
  boolK v_16
   (optK (iaddrS 1 d11 n14) fun v_24 =>
    optK (rd1 s v_24) fun v_25 =>
    optK (iaddrS 3 links1 i13) fun v_26 =>
    optK (addOff 2 v_26) fun v_27 =>
    optK (rd1 s v_27) fun v_28 =>
    optK (arithV .add v_25 v_28) fun v_29 =>
    optK (iaddrS 1 d11 t3) fun v_30 =>
    optK (rd1 s v_30) fun v_31 =>
    optK (negB false (eqV 0 false v_29 v_31)) fun v_32 =>
    vc_leafmeshref10_Next_j4 X out12 i13 v_16 v_32 I0 m0 K s)
   (vc_leafmeshref10_Next_j4 X out12 i13 v_16 .undef I0 m0 K s)
def vc_leafmeshref10_Next_j2 (X : Told) (links1 : AVal) (t3 : AVal) (d11 : AVal) (out12 : AVal) (i13 : AVal) (n14 : AVal) (t48 : AVal) (t52 : AVal) (I0 : List AVal → Heap → Nat → Prop) (m0 : Nat) (K : AVal → Heap → Prop) (s : Heap) : Prop :=
  optK (pickV t48 t52 (.bool false)) fun v_15 =>
  boolK v_15
   (optK (iaddrS 1 d11 n14) fun v_33 =>
    optK (rd1 s v_33) fun v_34 =>
    optK (arithV .geq v_34 (.int .i64 0)) fun v_35 =>
    vc_leafmeshref10_Next_j3 X links1 t3 d11 out12 i13 n14 v_15 v_35 I0 m0 K s)
   (vc_leafmeshref10_Next_j3 X links1 t3 d11 out12 i13 n14 v_15 .undef I0 m0 K s)
def vc_leafmeshref10_Next_j1 (X : Told) (links1 : AVal) (up2 : AVal) (t3 : AVal) (d11 : AVal) (out12 : AVal) (i13 : AVal) (t31 : AVal) (t34 : AVal) (I0 : List AVal → Heap → Nat → Prop) (m0 : Nat) (K : AVal → Heap → Prop) (s : Heap) : Prop :=
  optK (pickV t31 t34 (.bool false)) fun v_8 =>
  boolK v_8
   (optK (iaddrS 3 links1 i13) fun v_9 =>
    optK (rdN s 3 v_9) fun v_10 =>
    wpCall Try.prog X 60 [(.agg v_10), t3] (fun v_11 s_12 =>
    optK (extractA v_11 0) fun v_13 =>
    optK (extractA v_11 1) fun v_14 =>
    boolK v_14
     (optK (iaddrS 1 up2 i13) fun v_36 =>
      optK (rd1 s_12 v_36) fun v_37 =>
      vc_leafmeshref10_Next_j2 X links1 t3 d11 out12 i13 v_13 v_14 v_37 I0 m0 K s_12)
     (vc_leafmeshref10_Next_j2 X links1 t3 d11 out12 i13 v_13 v_14 .undef I0 m0 K s_12)) s)
   (K out12 s)
def vc_leafmeshref10_Next_l0 (X : Told) (links1 : AVal) (up2 : AVal) (t3 : AVal) (d11 : AVal) (out12 : AVal) (i13 : AVal) (I0 : List AVal → Heap → Nat → Prop) (m0 : Nat) (K : AVal → Heap → Prop) (s : Heap) : Prop :=
  optK (lenOfA links1) fun v_5 =>
  optK (arithV .lss i13 (.int .i64 v_5)) fun v_7 =>
  boolK v_7
   (optK (lenOfA d11) fun v_38 =>
    optK (arithV .gtr (.int .i64 v_38) (.int .i64 0)) fun v_40 =>
    vc_leafmeshref10_Next_j1 X links1 up2 t3 d11 out12 i13 v_7 v_40 I0 m0 K s)
   (vc_leafmeshref10_Next_j1 X links1 up2 t3 d11 out12 i13 v_7 .undef I0 m0 K s)
def vc_leafmeshref10_Next (X : Told) (nodes0 : AVal) (links1 : AVal) (up2 : AVal) (t3 : AVal) (t4 : AVal) (K : AVal → Heap → Prop) (s : Heap) : Prop :=
  wpCall Try.prog X 37 [nodes0, links1, up2, t3] (fun v_0 s_1 =>
  optK (unaryA .not v_0) fun v_2 =>
  boolK v_2
   (K .nilslc s_1)
   (wpCall Try.prog X 59 [nodes0, links1, up2, t4] (fun v_3 s_4 =>
    ∃ I0 : List AVal → Heap → Nat → Prop, (∃ m, I0 [.nilslc, (.int .i64 0)] s_4 m) ∧ ∀ (f : Env) (s : Heap) (m0 : Nat), I0 [f 12, f 13] s m0 →
      vc_leafmeshref10_Next_l0 X links1 up2 t3 v_3 (f 12) (f 13) I0 m0 K s) s_1)) s
def vc_leafmeshref10_Next_ann : Nat → List Nat := fun k => cond (Nat.beq k 12) [12, 13] ([])
theorem vc_leafmeshref10_Next_eq (X : Told) (nodes0 : AVal) (links1 : AVal) (up2 : AVal) (t3 : AVal) (t4 : AVal) (K : AVal → Heap → Prop) (s : Heap) : wpC Try.prog X vc_leafmeshref10_Next_ann Try.f38.ntmps none (bodyOf Try.f38) (envOf [nodes0, links1, up2, t3, t4]) (fun e env s => retK e (resK Try.prog Try.f38.results.toList env (fun vs => K (oneV vs) s) s)) s = vc_leafmeshref10_Next X nodes0 links1 up2 t3 t4 K s := by kernel_rfl
theorem vc_leafmeshref10_Next_ok {X : Told} (hX : FrX X) (hn : X 38 = none) {nodes0 : AVal} {links1 : AVal} {up2 : AVal} {t3 : AVal} {t4 : AVal} {K : AVal → Heap → Prop} {s : Heap} (h : vc_leafmeshref10_Next X nodes0 links1 up2 t3 t4 K s) : wpCall Try.prog X 38 [nodes0, links1, up2, t3, t4] K s :=
  wpCall_code hX vc_leafmeshref10_Next_ann hn Try.func38 (by kernel_rfl : Try.f38.body = some (bodyOf Try.f38)) (by kernel_rfl) ((vc_leafmeshref10_Next_eq X nodes0 links1 up2 t3 t4 K s).mpr h)
theorem vc_leafmeshref10_Next_in {nodes0 : AVal} {links1 : AVal} {up2 : AVal} {t3 : AVal} {t4 : AVal} {K : AVal → Heap → Prop} {s : Heap} (h : vc_leafmeshref10_Next XX nodes0 links1 up2 t3 t4 K s) : wpCall Try.prog XX 38 [nodes0, links1, up2, t3, t4] K s := vc_leafmeshref10_Next_ok XX_fr rfl h
/-- leafmesh/leafmeshref14.loopback (39) -/
def vc_leafmeshref14_loopback (X : Told) (n0 : AVal) (K : AVal → Heap → Prop) (s : Heap) : Prop :=
  wpCall Try.prog X 61 [n0] (fun v_0 s_1 =>
  optK (extractA v_0 0) fun v_2 =>
  optK (extractA v_0 1) fun v_3 =>
  K v_2 s_1) s
def vc_leafmeshref14_loopback_ann : Nat → List Nat := fun _ => []
theorem vc_leafmeshref14_loopback_eq (X : Told) (n0 : AVal) (K : AVal → Heap → Prop) (s : Heap) : wpC Try.prog X vc_leafmeshref14_loopback_ann Try.f39.ntmps none (bodyOf Try.f39) (envOf [n0]) (fun e env s => retK e (resK Try.prog Try.f39.results.toList env (fun vs => K (oneV vs) s) s)) s = vc_leafmeshref14_loopback X n0 K s := by kernel_rfl
theorem vc_leafmeshref14_loopback_ok {X : Told} (hX : FrX X) (hn : X 39 = none) {n0 : AVal} {K : AVal → Heap → Prop} {s : Heap} (h : vc_leafmeshref14_loopback X n0 K s) : wpCall Try.prog X 39 [n0] K s :=
  wpCall_code hX vc_leafmeshref14_loopback_ann hn Try.func39 (by kernel_rfl : Try.f39.body = some (bodyOf Try.f39)) (by kernel_rfl) ((vc_leafmeshref14_loopback_eq X n0 K s).mpr h)
theorem vc_leafmeshref14_loopback_in {n0 : AVal} {K : AVal → Heap → Prop} {s : Heap} (h : vc_leafmeshref14_loopback XX n0 K s) : wpCall Try.prog XX 39 [n0] K s := vc_leafmeshref14_loopback_ok XX_fr rfl h
/-- leafmesh/spf.valid (47) -/
def vc_spf_valid_j7 (X : Told) (t33 : AVal) (t59 : AVal) (t62 : AVal) (I3 : List AVal → Heap → Nat → Prop) (m3 : Nat) (K : AVal → Heap → Prop) (s : Heap) : Prop :=
  optK (pickV t59 (.bool true) t62) fun v_22 =>
  boolK v_22
   (K (.bool false) s)
   (optK (arithV .add t33 (.int .i64 1)) fun v_23 =>
    ∃ m', m' < m3 ∧ I3 [v_23] s m')
def vc_spf_valid_j6 (X : Told) (l11 : AVal) (t33 : AVal) (t54 : AVal) (t57 : AVal) (I3 : List AVal → Heap → Nat → Prop) (m3 : Nat) (K : AVal → Heap → Prop) (s : Heap) : Prop :=
  optK (pickV t54 (.bool true) t57) fun v_21 =>
  boolK v_21
   (vc_spf_valid_j7 X t33 v_21 .undef I3 m3 K s)
   (optK (addOff 2 l11) fun v_24 =>
    optK (rd1 s v_24) fun v_25 =>
    optK (arithV .gtr v_25 (.int .i64 1000)) fun v_26 =>
    vc_spf_valid_j7 X t33 v_21 v_26 I3 m3 K s)
def vc_spf_valid_j5 (X : Told) (l11 : AVal) (t33 : AVal) (t47 : AVal) (t52 : AVal) (I3 : List AVal → Heap → Nat → Prop) (m3 : Nat) (K : AVal → Heap → Prop) (s : Heap) : Prop :=
  optK (pickV t47 (.bool true) t52) fun v_20 =>
  boolK v_20
   (vc_spf_valid_j6 X l11 t33 v_20 .undef I3 m3 K s)
   (optK (addOff 2 l11) fun v_27 =>
    optK (rd1 s v_27) fun v_28 =>
    optK (arithV .lss v_28 (.int .i64 1)) fun v_29 =>
    vc_spf_valid_j6 X l11 t33 v_20 v_29 I3 m3 K s)
def vc_spf_valid_j4 (X : Told) (l11 : AVal) (t33 : AVal) (t41 : AVal) (t45 : AVal) (I3 : List AVal → Heap → Nat → Prop) (m3 : Nat) (K : AVal → Heap → Prop) (s : Heap) : Prop :=
  optK (pickV t41 (.bool true) t45) fun v_19 =>
  boolK v_19
   (vc_spf_valid_j5 X l11 t33 v_19 .undef I3 m3 K s)
   (optK (addOff 0 l11) fun v_30 =>
    optK (rd1 s v_30) fun v_31 =>
    optK (addOff 1 l11) fun v_32 =>
    optK (rd1 s v_32) fun v_33 =>
    optK (negB false (eqV 0 false v_31 v_33)) fun v_34 =>
    vc_spf_valid_j5 X l11 t33 v_19 v_34 I3 m3 K s)
def vc_spf_valid_l3 (X : Told) (ends3 : AVal) (outside9 : AVal) (t31 : AVal) (t32 : AVal) (t33 : AVal) (I3 : List AVal → Heap → Nat → Prop) (m3 : Nat) (K : AVal → Heap → Prop) (s : Heap) : Prop :=
  optK (arithV .lss t33 t32) fun v_9 =>
  boolK v_9
   (optK (iaddrS 3 t31 t33) fun v_10 =>
    optK (rdN s 3 v_10) fun v_11 =>
    newK 27 [(.int .i64 0), (.int .i64 0), (.int .i64 0)] (fun b_12 s_13 =>
    optK (wrAgg s_13 3 (.ptr b_12 0) (.agg v_11)) fun s_14 =>
    optK (addOff 0 (.ptr b_12 0)) fun v_15 =>
    optK (rd1 s_14 v_15) fun v_16 =>
    funK Try.prog X outside9 [v_16] (fun v_17 s_18 =>
    boolK v_17
     (vc_spf_valid_j4 X (.ptr b_12 0) t33 v_17 .undef I3 m3 K s_18)
     (optK (addOff 1 (.ptr b_12 0)) fun v_35 =>
      optK (rd1 s_18 v_35) fun v_36 =>
      funK Try.prog X outside9 [v_36] (fun v_37 s_38 =>
      vc_spf_valid_j4 X (.ptr b_12 0) t33 v_17 v_37 I3 m3 K s_38) s_18)) s_14) s)
   (wpCall Try.prog X 71 [ends3, outside9] (fun v_39 s_40 =>
    optK (unaryA .not v_39) fun v_41 =>
    K v_41 s_40) s)
def vc_spf_valid_j2 (X : Told) (links1 : AVal) (ends3 : AVal) (nodes4 : AVal) (t23 : AVal) (t28 : AVal) (K : AVal → Heap → Prop) (s : Heap) : Prop :=
  optK (pickV t23 (.bool true) t28) fun v_6 =>
  boolK v_6
   (K (.bool false) s)
   (optK (lenOfA links1) fun v_7 =>
    ∃ I3 : List AVal → Heap → Nat → Prop, (∃ m, I3 [(.int .i64 0)] s m) ∧ ∀ (f : Env) (s : Heap) (m3 : Nat), I3 [f 33] s m3 →
      vc_spf_valid_l3 X ends3 (.fn (.func 70) [] [nodes4]) links1 (.int .i64 v_7) (f 33) I3 m3 K s)
def vc_spf_valid_j1 (X : Told) (links1 : AVal) (up2 : AVal) (ends3 : AVal) (nodes4 : AVal) (t18 : AVal) (t21 : AVal) (K : AVal → Heap → Prop) (s : Heap) : Prop :=
  optK (pickV t18 (.bool true) t21) fun v_5 =>
  boolK v_5
   (vc_spf_valid_j2 X links1 ends3 nodes4 v_5 .undef K s)
   (optK (lenOfA up2) fun v_42 =>
    optK (lenOfA links1) fun v_44 =>
    optK (negB true (eqV 0 false (.int .i64 v_42) (.int .i64 v_44))) fun v_46 =>
    vc_spf_valid_j2 X links1 ends3 nodes4 v_5 v_46 K s)
def vc_spf_valid_j0 (X : Told) (links1 : AVal) (up2 : AVal) (ends3 : AVal) (nodes4 : AVal) (t14 : AVal) (t16 : AVal) (K : AVal → Heap → Prop) (s : Heap) : Prop :=
  optK (pickV t14 (.bool true) t16) fun v_4 =>
  boolK v_4
   (vc_spf_valid_j1 X links1 up2 ends3 nodes4 v_4 .undef K s)
   (optK (lenOfA links1) fun v_47 =>
    optK (arithV .gtr (.int .i64 v_47) (.int .i64 128)) fun v_49 =>
    vc_spf_valid_j1 X links1 up2 ends3 nodes4 v_4 v_49 K s)
def vc_spf_valid (X : Told) (nodes0 : AVal) (links1 : AVal) (up2 : AVal) (ends3 : AVal) (K : AVal → Heap → Prop) (s : Heap) : Prop :=
  boxK 3 nodes0 (fun b_0 s_1 =>
  optK (rd1 s_1 b_0) fun v_2 =>
  optK (arithV .lss v_2 (.int .i64 1)) fun v_3 =>
  boolK v_3
   (vc_spf_valid_j0 X links1 up2 ends3 b_0 v_3 .undef K s_1)
   (optK (rd1 s_1 b_0) fun v_50 =>
    optK (arithV .gtr v_50 (.int .i64 32)) fun v_51 =>
    vc_spf_valid_j0 X links1 up2 ends3 b_0 v_3 v_51 K s_1)) s
def vc_spf_valid_ann : Nat → List Nat := fun k => cond (Nat.beq k 10) [33] ([])
theorem vc_spf_valid_eq (X : Told) (nodes0 : AVal) (links1 : AVal) (up2 : AVal) (ends3 : AVal) (K : AVal → Heap → Prop) (s : Heap) : wpC Try.prog X vc_spf_valid_ann Try.f47.ntmps none (bodyOf Try.f47) (envOf [nodes0, links1, up2, ends3]) (fun e env s => retK e (resK Try.prog Try.f47.results.toList env (fun vs => K (oneV vs) s) s)) s = vc_spf_valid X nodes0 links1 up2 ends3 K s := by kernel_rfl
theorem vc_spf_valid_ok {X : Told} (hX : FrX X) (hn : X 47 = none) {nodes0 : AVal} {links1 : AVal} {up2 : AVal} {ends3 : AVal} {K : AVal → Heap → Prop} {s : Heap} (h : vc_spf_valid X nodes0 links1 up2 ends3 K s) : wpCall Try.prog X 47 [nodes0, links1, up2, ends3] K s :=
  wpCall_code hX vc_spf_valid_ann hn Try.func47 (by kernel_rfl : Try.f47.body = some (bodyOf Try.f47)) (by kernel_rfl) ((vc_spf_valid_eq X nodes0 links1 up2 ends3 K s).mpr h)
theorem vc_spf_valid_in {nodes0 : AVal} {links1 : AVal} {up2 : AVal} {ends3 : AVal} {K : AVal → Heap → Prop} {s : Heap} (h : vc_spf_valid XX nodes0 links1 up2 ends3 K s) : wpCall Try.prog XX 47 [nodes0, links1, up2, ends3] K s := vc_spf_valid_ok XX_fr rfl h
/-- leafmesh/spf.distances (48) -/
def vc_spf_distances_j3 (X : Told) (t58 : AVal) (I2 : List AVal → Heap → Nat → Prop) (m2 : Nat) (I1 : List AVal → Heap → Nat → Prop) (m1 : Nat) (K : AVal → Heap → Prop) (s : Heap) : Prop :=
  optK (arithV .add t58 (.int .i64 1)) fun v_59 =>
  ∃ m', m' < m2 ∧ I2 [v_59] s m'
def vc_spf_distances_l2 (X : Told) (dist5 : AVal) (q7 : AVal) (next8 : AVal) (t56 : AVal) (t57 : AVal) (t58 : AVal) (I2 : List AVal → Heap → Nat → Prop) (m2 : Nat) (I1 : List AVal → Heap → Nat → Prop) (m1 : Nat) (K : AVal → Heap → Prop) (s : Heap) : Prop :=
  optK (arithV .lss t58 t57) fun v_48 =>
  boolK v_48
   (optK (iaddrS 3 t56 t58) fun v_49 =>
    optK (rdN s 3 v_49) fun v_50 =>
    newK 106 [(.int .i64 0), (.int .i64 0), (.int .i64 0)] (fun b_51 s_52 =>
    optK (wrAgg s_52 3 (.ptr b_51 0) (.agg v_50)) fun s_53 =>
    optK (addOff 1 (.ptr b_51 0)) fun v_54 =>
    optK (rd1 s_53 v_54) fun v_55 =>
    optK (iaddrS 1 dist5 v_55) fun v_56 =>
    optK (rd1 s_53 v_56) fun v_57 =>
    optK (arithV .lss v_57 (.int .i64 0)) fun v_58 =>
    boolK v_58
     (optK (addOff 1 (.ptr b_51 0)) fun v_60 =>
      optK (rd1 s_53 v_60) fun v_61 =>
      optK (addOff 1 next8) fun v_62 =>
      optK (rd1 s_53 v_62) fun v_63 =>
      optK (addOff 2 (.ptr b_51 0)) fun v_64 =>
      optK (rd1 s_53 v_64) fun v_65 =>
      optK (arithV .add v_63 v_65) fun v_66 =>
      optK (fillR [(.int .i64 0), (.int .i64 0)] [(0, 1, v_61), (1, 1, v_66)]) fun c_67 =>
      wpCall Try.prog X 74 [(.ifc 130 q7), (.ifc 132 (.agg c_67))] (fun v_68 s_69 =>
      vc_spf_distances_j3 X t58 I2 m2 I1 m1 K s_69) s_53)
     (vc_spf_distances_j3 X t58 I2 m2 I1 m1 K s_53)) s)
   (∃ m', m' < m1 ∧ I1 [] s m')
def vc_spf_distances_l1 (X : Told) (all0 : AVal) (dist5 : AVal) (q7 : AVal) (I1 : List AVal → Heap → Nat → Prop) (m1 : Nat) (K : AVal → Heap → Prop) (s : Heap) : Prop :=
  optK (nilCheckA q7) fun v_18 =>
  optK (rd1 s v_18) fun v_19 =>
  wpCall Try.prog X 72 [v_19] (fun v_20 s_21 =>
  optK (arithV .gtr v_20 (.int .i64 0)) fun v_22 =>
  boolK v_22
   (wpCall Try.prog X 73 [(.ifc 130 q7)] (fun v_23 s_24 =>
    optK (tassV 132 (some (.agg [(.int .i64 0), (.int .i64 0)])) true v_23) fun v_25 =>
    optK (extractA v_25 0) fun v_26 =>
    optK (extractA v_25 1) fun v_27 =>
    newK 132 [(.int .i64 0), (.int .i64 0)] (fun b_28 s_29 =>
    optK (wrAgg s_29 2 (.ptr b_28 0) v_26) fun s_30 =>
    optK (addOff 0 (.ptr b_28 0)) fun v_31 =>
    optK (rd1 s_30 v_31) fun v_32 =>
    optK (iaddrS 1 dist5 v_32) fun v_33 =>
    optK (rd1 s_30 v_33) fun v_34 =>
    optK (arithV .geq v_34 (.int .i64 0)) fun v_35 =>
    boolK v_35
     (∃ m', m' < m1 ∧ I1 [] s_30 m')
     (optK (addOff 0 (.ptr b_28 0)) fun v_36 =>
      optK (rd1 s_30 v_36) fun v_37 =>
      optK (addOff 1 (.ptr b_28 0)) fun v_38 =>
      optK (rd1 s_30 v_38) fun v_39 =>
      optK (iaddrS 1 dist5 v_37) fun v_40 =>
      optK (wr1 s_30 v_40 v_39) fun s_41 =>
      optK (addOff 0 (.ptr b_28 0)) fun v_42 =>
      optK (rd1 s_41 v_42) fun v_43 =>
      optK (iaddrS 1 all0 v_43) fun v_44 =>
      optK (rd1 s_41 v_44) fun v_45 =>
      optK (lenOfA v_45) fun v_46 =>
      ∃ I2 : List AVal → Heap → Nat → Prop, (∃ m, I2 [(.int .i64 0)] s_41 m) ∧ ∀ (f : Env) (s : Heap) (m2 : Nat), I2 [f 58] s m2 →
        vc_spf_distances_l2 X dist5 q7 (.ptr b_28 0) v_45 (.int .i64 v_46) (f 58) I2 m2 I1 m1 K s)) s_24) s_21)
   (K dist5 s_21)) s
def vc_spf_distances_l0 (X : Told) (all0 : AVal) (t1 : AVal) (dist5 : AVal) (t16 : AVal) (t17 : AVal) (I0 : List AVal → Heap → Nat → Prop) (m0 : Nat) (K : AVal → Heap → Prop) (s : Heap) : Prop :=
  optK (arithV .lss t17 t16) fun v_8 =>
  boolK v_8
   (optK (iaddrS 1 dist5 t17) fun v_9 =>
    optK (wr1 s v_9 (.int .i64 (-1))) fun s_10 =>
    optK (arithV .add t17 (.int .i64 1)) fun v_11 =>
    ∃ m', m' < m0 ∧ I0 [v_11] s_10 m')
   (optK (fillR [(.int .i64 0), (.int .i64 0)] [(0, 1, t1), (1, 1, (.int .i64 0))]) fun c_12 =>
    optK (fillR (repl 1 [(.int .i64 0), (.int .i64 0)]) [(0, 2, (.agg c_12))]) fun c_13 => allOne c_13 = true ∧ newK 132 c_13 (fun b_14 s_15 =>
    boxK 134 (.slc b_14 0 1 (some 1) 2) (fun b_16 s_17 =>
    ∃ I1 : List AVal → Heap → Nat → Prop, (∃ m, I1 [] s_17 m) ∧ ∀ (f : Env) (s : Heap) (m1 : Nat), I1 [] s m1 →
      vc_spf_distances_l1 X all0 dist5 b_16 I1 m1 K s) s_15) s)
def vc_spf_distances (X : Told) (all0 : AVal) (t1 : AVal) (K : AVal → Heap → Prop) (s : Heap) : Prop :=
  optK (lenOfA all0) fun v_0 =>
  optK (nat? (.int .i64 v_0)) fun n_2 => optK (nat? (.int .i64 v_0)) fun n_3 => (n_2 ≤ n_3 ∧ n_3 ≤ 4294967296) ∧ newK 3 (repl n_3 [(.int .i64 0)]) (fun b_4 s_5 =>
  optK (lenOfA (.slc b_4 0 n_2 (some n_3) 1)) fun v_6 =>
  ∃ I0 : List AVal → Heap → Nat → Prop, (∃ m, I0 [(.int .i64 0)] s_5 m) ∧ ∀ (f : Env) (s : Heap) (m0 : Nat), I0 [f 17] s m0 →
    vc_spf_distances_l0 X all0 t1 (.slc b_4 0 n_2 (some n_3) 1) (.int .i64 v_6) (f 17) I0 m0 K s) s
def vc_spf_distances_ann : Nat → List Nat := fun k => cond (Nat.beq k 6) [17] (cond (Nat.beq k 16) [] (cond (Nat.beq k 26) [58] ([])))
theorem vc_spf_distances_eq (X : Told) (all0 : AVal) (t1 : AVal) (K : AVal → Heap → Prop) (s : Heap) : wpC Try.prog X vc_spf_distances_ann Try.f48.ntmps none (bodyOf Try.f48) (envOf [all0, t1]) (fun e env s => retK e (resK Try.prog Try.f48.results.toList env (fun vs => K (oneV vs) s) s)) s = vc_spf_distances X all0 t1 K s := by kernel_rfl
theorem vc_spf_distances_ok {X : Told} (hX : FrX X) (hn : X 48 = none) {all0 : AVal} {t1 : AVal} {K : AVal → Heap → Prop} {s : Heap} (h : vc_spf_distances X all0 t1 K s) : wpCall Try.prog X 48 [all0, t1] K s :=
  wpCall_code hX vc_spf_distances_ann hn Try.func48 (by kernel_rfl : Try.f48.body = some (bodyOf Try.f48)) (by kernel_rfl) ((vc_spf_distances_eq X all0 t1 K s).mpr h)
theorem vc_spf_distances_in {all0 : AVal} {t1 : AVal} {K : AVal → Heap → Prop} {s : Heap} (h : vc_spf_distances XX all0 t1 K s) : wpCall Try.prog XX 48 [all0, t1] K s := vc_spf_distances_ok XX_fr rfl h
/-- leafmesh/spf.nearer (50) -/
def vc_spf_nearer_j1 (X : Told) (l7 : AVal) (t12 : AVal) (I0 : List AVal → Heap → Nat → Prop) (m0 : Nat) (K : AVal → Heap → Prop) (s : Heap) : Prop :=
  optK (arithV .add t12 (.int .i64 1)) fun v_18 =>
  ∃ m', m' < m0 ∧ I0 [l7, v_18] s m'
def vc_spf_nearer_l0 (X : Told) (dist1 : AVal) (n2 : AVal) (l7 : AVal) (t10 : AVal) (t11 : AVal) (t12 : AVal) (I0 : List AVal → Heap → Nat → Prop) (m0 : Nat) (K : AVal → Heap → Prop) (s : Heap) : Prop :=
  optK (arithV .lss t12 t11) fun v_2 =>
  boolK v_2
   (optK (iaddrS 3 t10 t12) fun v_3 =>
    optK (rdN s 3 v_3) fun v_4 =>
    newK 106 [(.int .i64 0), (.int .i64 0), (.int .i64 0)] (fun b_5 s_6 =>
    optK (wrAgg s_6 3 (.ptr b_5 0) (.agg v_4)) fun s_7 =>
    optK (iaddrS 1 dist1 n2) fun v_8 =>
    optK (rd1 s_7 v_8) fun v_9 =>
    optK (addOff 1 (.ptr b_5 0)) fun v_10 =>
    optK (rd1 s_7 v_10) fun v_11 =>
    optK (iaddrS 1 dist1 v_11) fun v_12 =>
    optK (rd1 s_7 v_12) fun v_13 =>
    optK (addOff 2 (.ptr b_5 0)) fun v_14 =>
    optK (rd1 s_7 v_14) fun v_15 =>
    optK (arithV .add v_13 v_15) fun v_16 =>
    optK (negB false (eqV 0 false v_9 v_16)) fun v_17 =>
    boolK v_17
     (optK (rdN s_7 3 (.ptr b_5 0)) fun v_19 =>
      optK (fillR (repl 1 [(.int .i64 0), (.int .i64 0), (.int .i64 0)]) [(0, 3, (.agg v_19))]) fun c_20 => allOne c_20 = true ∧ newK 106 c_20 (fun b_21 s_22 =>
      appK 106 3 l7 (.slc b_21 0 1 (some 1) 3) (fun v_23 s_24 =>
      vc_spf_nearer_j1 X v_23 t12 I0 m0 K s_24) s_22) s_7)
     (vc_spf_nearer_j1 X l7 t12 I0 m0 K s_7)) s)
   (K l7 s)
def vc_spf_nearer (X : Told) (t0 : AVal) (dist1 : AVal) (n2 : AVal) (K : AVal → Heap → Prop) (s : Heap) : Prop :=
  optK (lenOfA t0) fun v_0 =>
  ∃ I0 : List AVal → Heap → Nat → Prop, (∃ m, I0 [.nilslc, (.int .i64 0)] s m) ∧ ∀ (f : Env) (s : Heap) (m0 : Nat), I0 [f 7, f 12] s m0 →
    vc_spf_nearer_l0 X dist1 n2 (f 7) t0 (.int .i64 v_0) (f 12) I0 m0 K s
def vc_spf_nearer_ann : Nat → List Nat := fun k => cond (Nat.beq k 6) [7, 12] ([])
theorem vc_spf_nearer_eq (X : Told) (t0 : AVal) (dist1 : AVal) (n2 : AVal) (K : AVal → Heap → Prop) (s : Heap) : wpC Try.prog X vc_spf_nearer_ann Try.f50.ntmps none (bodyOf Try.f50) (envOf [t0, dist1, n2]) (fun e env s => retK e (resK Try.prog Try.f50.results.toList env (fun vs => K (oneV vs) s) s)) s = vc_spf_nearer X t0 dist1 n2 K s := by kernel_rfl
theorem vc_spf_nearer_ok {X : Told} (hX : FrX X) (hn : X 50 = none) {t0 : AVal} {dist1 : AVal} {n2 : AVal} {K : AVal → Heap → Prop} {s : Heap} (h : vc_spf_nearer X t0 dist1 n2 K s) : wpCall Try.prog X 50 [t0, dist1, n2] K s :=
  wpCall_code hX vc_spf_nearer_ann hn Try.func50 (by kernel_rfl : Try.f50.body = some (bodyOf Try.f50)) (by kernel_rfl) ((vc_spf_nearer_eq X t0 dist1 n2 K s).mpr h)
theorem vc_spf_nearer_in {t0 : AVal} {dist1 : AVal} {n2 : AVal} {K : AVal → Heap → Prop} {s : Heap} (h : vc_spf_nearer XX t0 dist1 n2 K s) : wpCall Try.prog XX 50 [t0, dist1, n2] K s := vc_spf_nearer_ok XX_fr rfl h
/-- leafmesh/leafmeshref09.Valid (58) -/
def vc_leafmeshref09_Valid_j6 (X : Told) (i5 : AVal) (x6 : AVal) (t53 : AVal) (t56 : AVal) (I1 : List AVal → Heap → Nat → Prop) (m1 : Nat) (K : AVal → Heap → Prop) (s : Heap) : Prop :=
  optK (pickV t53 (.bool true) t56) fun v_20 =>
  boolK v_20
   (K (.int .i64 2) s)
   (optK (addOff 0 x6) fun v_21 =>
    optK (rd1 s v_21) fun v_22 =>
    optK (addOff 1 x6) fun v_23 =>
    optK (rd1 s v_23) fun v_24 =>
    optK (negB false (eqV 0 false v_22 v_24)) fun v_25 =>
    boolK v_25
     (K (.int .i64 12) s)
     (optK (arithV .add i5 (.int .i64 1)) fun v_26 =>
      ∃ m', m' < m1 ∧ I1 [v_26] s m'))
def vc_leafmeshref09_Valid_j5 (X : Told) (i5 : AVal) (x6 : AVal) (t48 : AVal) (t51 : AVal) (I1 : List AVal → Heap → Nat → Prop) (m1 : Nat) (K : AVal → Heap → Prop) (s : Heap) : Prop :=
  optK (pickV t48 (.bool true) t51) fun v_19 =>
  boolK v_19
   (vc_leafmeshref09_Valid_j6 X i5 x6 v_19 .undef I1 m1 K s)
   (optK (addOff 2 x6) fun v_27 =>
    optK (rd1 s v_27) fun v_28 =>
    optK (arithV .gtr v_28 (.int .i64 1000)) fun v_29 =>
    vc_leafmeshref09_Valid_j6 X i5 x6 v_19 v_29 I1 m1 K s)
def vc_leafmeshref09_Valid_j4 (X : Told) (i5 : AVal) (x6 : AVal) (t42 : AVal) (t46 : AVal) (I1 : List AVal → Heap → Nat → Prop) (m1 : Nat) (K : AVal → Heap → Prop) (s : Heap) : Prop :=
  optK (pickV t42 (.bool true) t46) fun v_18 =>
  boolK v_18
   (vc_leafmeshref09_Valid_j5 X i5 x6 v_18 .undef I1 m1 K s)
   (optK (addOff 2 x6) fun v_30 =>
    optK (rd1 s v_30) fun v_31 =>
    optK (arithV .lss v_31 (.int .i64 1)) fun v_32 =>
    vc_leafmeshref09_Valid_j5 X i5 x6 v_18 v_32 I1 m1 K s)
def vc_leafmeshref09_Valid_j3 (X : Told) (nodes0 : AVal) (i5 : AVal) (x6 : AVal) (t37 : AVal) (t40 : AVal) (I1 : List AVal → Heap → Nat → Prop) (m1 : Nat) (K : AVal → Heap → Prop) (s : Heap) : Prop :=
  optK (pickV t37 (.bool true) t40) fun v_17 =>
  boolK v_17
   (vc_leafmeshref09_Valid_j4 X i5 x6 v_17 .undef I1 m1 K s)
   (optK (addOff 1 x6) fun v_33 =>
    optK (rd1 s v_33) fun v_34 =>
    optK (arithV .geq v_34 nodes0) fun v_35 =>
    vc_leafmeshref09_Valid_j4 X i5 x6 v_17 v_35 I1 m1 K s)
def vc_leafmeshref09_Valid_j2 (X : Told) (nodes0 : AVal) (i5 : AVal) (x6 : AVal) (t31 : AVal) (t35 : AVal) (I1 : List AVal → Heap → Nat → Prop) (m1 : Nat) (K : AVal → Heap → Prop) (s : Heap) : Prop :=
  optK (pickV t31 (.bool true) t35) fun v_16 =>
  boolK v_16
   (vc_leafmeshref09_Valid_j3 X nodes0 i5 x6 v_16 .undef I1 m1 K s)
   (optK (addOff 1 x6) fun v_36 =>
    optK (rd1 s v_36) fun v_37 =>
    optK (arithV .lss v_37 (.int .i64 0)) fun v_38 =>
    vc_leafmeshref09_Valid_j3 X nodes0 i5 x6 v_16 v_38 I1 m1 K s)
def vc_leafmeshref09_Valid_l1 (X : Told) (nodes0 : AVal) (links1 : AVal) (i5 : AVal) (I1 : List AVal → Heap → Nat → Prop) (m1 : Nat) (K : AVal → Heap → Prop) (s : Heap) : Prop :=
  optK (lenOfA links1) fun v_5 =>
  optK (arithV .lss i5 (.int .i64 v_5)) fun v_7 =>
  boolK v_7
   (optK (iaddrS 3 links1 i5) fun v_8 =>
    optK (rdN s 3 v_8) fun v_9 =>
    newK 27 [(.int .i64 0), (.int .i64 0), (.int .i64 0)] (fun b_10 s_11 =>
    optK (wrAgg s_11 3 (.ptr b_10 0) (.agg v_9)) fun s_12 =>
    optK (addOff 0 (.ptr b_10 0)) fun v_13 =>
    optK (rd1 s_12 v_13) fun v_14 =>
    optK (arithV .lss v_14 (.int .i64 0)) fun v_15 =>
    boolK v_15
     (vc_leafmeshref09_Valid_j2 X nodes0 i5 (.ptr b_10 0) v_15 .undef I1 m1 K s_12)
     (optK (addOff 0 (.ptr b_10 0)) fun v_39 =>
      optK (rd1 s_12 v_39) fun v_40 =>
      optK (arithV .geq v_40 nodes0) fun v_41 =>
      vc_leafmeshref09_Valid_j2 X nodes0 i5 (.ptr b_10 0) v_15 v_41 I1 m1 K s_12)) s)
   (K (.int .i64 0) s)
def vc_leafmeshref09_Valid_j0 (X : Told) (nodes0 : AVal) (links1 : AVal) (t10 : AVal) (t12 : AVal) (K : AVal → Heap → Prop) (s : Heap) : Prop :=
  optK (pickV t10 (.bool true) t12) fun v_1 =>
  boolK v_1
   (K (.int .i64 2) s)
   (optK (lenOfA links1) fun v_2 =>
    optK (arithV .gtr (.int .i64 v_2) (.int .i64 128)) fun v_4 =>
    boolK v_4
     (K (.int .i64 5) s)
     (∃ I1 : List AVal → Heap → Nat → Prop, (∃ m, I1 [(.int .i64 0)] s m) ∧ ∀ (f : Env) (s : Heap) (m1 : Nat), I1 [f 5] s m1 →
        vc_leafmeshref09_Valid_l1 X nodes0 links1 (f 5) I1 m1 K s))
def vc_leafmeshref09_Valid (X : Told) (nodes0 : AVal) (links1 : AVal) (K : AVal → Heap → Prop) (s : Heap) : Prop :=
  optK (arithV .lss nodes0 (.int .i64 1)) fun v_0 =>
  boolK v_0
   (vc_leafmeshref09_Valid_j0 X nodes0 links1 v_0 .undef K s)
   (optK (arithV .gtr nodes0 (.int .i64 32)) fun v_42 =>
    vc_leafmeshref09_Valid_j0 X nodes0 links1 v_0 v_42 K s)
def vc_leafmeshref09_Valid_ann : Nat → List Nat := fun k => cond (Nat.beq k 12) [5] ([])
theorem vc_leafmeshref09_Valid_eq (X : Told) (nodes0 : AVal) (links1 : AVal) (K : AVal → Heap → Prop) (s : Heap) : wpC Try.prog X vc_leafmeshref09_Valid_ann Try.f58.ntmps none (bodyOf Try.f58) (envOf [nodes0, links1]) (fun e env s => retK e (resK Try.prog Try.f58.results.toList env (fun vs => K (oneV vs) s) s)) s = vc_leafmeshref09_Valid X nodes0 links1 K s := by kernel_rfl
theorem vc_leafmeshref09_Valid_ok {X : Told} (hX : FrX X) (hn : X 58 = none) {nodes0 : AVal} {links1 : AVal} {K : AVal → Heap → Prop} {s : Heap} (h : vc_leafmeshref09_Valid X nodes0 links1 K s) : wpCall Try.prog X 58 [nodes0, links1] K s :=
  wpCall_code hX vc_leafmeshref09_Valid_ann hn Try.func58 (by kernel_rfl : Try.f58.body = some (bodyOf Try.f58)) (by kernel_rfl) ((vc_leafmeshref09_Valid_eq X nodes0 links1 K s).mpr h)
theorem vc_leafmeshref09_Valid_in {nodes0 : AVal} {links1 : AVal} {K : AVal → Heap → Prop} {s : Heap} (h : vc_leafmeshref09_Valid XX nodes0 links1 K s) : wpCall Try.prog XX 58 [nodes0, links1] K s := vc_leafmeshref09_Valid_ok XX_fr rfl h
/-- leafmesh/leafmeshref10.Dist (59) -/
def vc_leafmeshref10_Dist_j3 (X : Told) (more11 : AVal) (i12 : AVal) (I2 : List AVal → Heap → Nat → Prop) (m2 : Nat) (I1 : List AVal → Heap → Nat → Prop) (m1 : Nat) (K : AVal → Heap → Prop) (s : Heap) : Prop :=
  optK (arithV .add i12 (.int .i64 1)) fun v_16 =>
  ∃ m', m' < m2 ∧ I2 [more11, v_16] s m'
def vc_leafmeshref10_Dist_j6 (X : Told) (d9 : AVal) (more11 : AVal) (i12 : AVal) (x13 : AVal) (t97 : AVal) (t104 : AVal) (t118 : AVal) (I2 : List AVal → Heap → Nat → Prop) (m2 : Nat) (I1 : List AVal → Heap → Nat → Prop) (m1 : Nat) (K : AVal → Heap → Prop) (s : Heap) : Prop :=
  optK (pickV t104 (.bool true) t118) fun v_47 =>
  optK (pickV t97 v_47 (.bool false)) fun v_48 =>
  boolK v_48
   (optK (addOff 0 x13) fun v_49 =>
    optK (rd1 s v_49) fun v_50 =>
    optK (addOff 1 x13) fun v_51 =>
    optK (rd1 s v_51) fun v_52 =>
    optK (iaddrS 1 d9 v_52) fun v_53 =>
    optK (rd1 s v_53) fun v_54 =>
    optK (addOff 2 x13) fun v_55 =>
    optK (rd1 s v_55) fun v_56 =>
    optK (arithV .add v_54 v_56) fun v_57 =>
    optK (iaddrS 1 d9 v_50) fun v_58 =>
    optK (wr1 s v_58 v_57) fun s_59 =>
    vc_leafmeshref10_Dist_j3 X (.bool true) i12 I2 m2 I1 m1 K s_59)
   (vc_leafmeshref10_Dist_j3 X more11 i12 I2 m2 I1 m1 K s)
def vc_leafmeshref10_Dist_j5 (X : Told) (d9 : AVal) (more11 : AVal) (i12 : AVal) (x13 : AVal) (I2 : List AVal → Heap → Nat → Prop) (m2 : Nat) (I1 : List AVal → Heap → Nat → Prop) (m1 : Nat) (K : AVal → Heap → Prop) (s : Heap) : Prop :=
  optK (addOff 1 x13) fun v_37 =>
  optK (rd1 s v_37) fun v_38 =>
  optK (iaddrS 1 d9 v_38) fun v_39 =>
  optK (rd1 s v_39) fun v_40 =>
  optK (arithV .geq v_40 (.int .i64 0)) fun v_41 =>
  boolK v_41
   (optK (addOff 0 x13) fun v_42 =>
  optK (rd1 s v_42) fun v_43 =>
  optK (iaddrS 1 d9 v_43) fun v_44 =>
  optK (rd1 s v_44) fun v_45 =>
  optK (arithV .lss v_45 (.int .i64 0)) fun v_46 =>
  boolK v_46
   (vc_leafmeshref10_Dist_j6 X d9 more11 i12 x13 v_41 v_46 .undef I2 m2 I1 m1 K s)
   (optK (addOff 0 x13) fun v_60 =>
    optK (rd1 s v_60) fun v_61 =>
    optK (iaddrS 1 d9 v_61) fun v_62 =>
    optK (rd1 s v_62) fun v_63 =>
    optK (addOff 1 x13) fun v_64 =>
    optK (rd1 s v_64) fun v_65 =>
    optK (iaddrS 1 d9 v_65) fun v_66 =>
    optK (rd1 s v_66) fun v_67 =>
    optK (addOff 2 x13) fun v_68 =>
    optK (rd1 s v_68) fun v_69 =>
    optK (arithV .add v_67 v_69) fun v_70 =>
    optK (arithV .gtr v_63 v_70) fun v_71 =>
    vc_leafmeshref10_Dist_j6 X d9 more11 i12 x13 v_41 v_46 v_71 I2 m2 I1 m1 K s))
   (optK (pickV v_41 .undef (.bool false)) fun v_72 =>
  boolK v_72
   (optK (addOff 0 x13) fun v_73 =>
    optK (rd1 s v_73) fun v_74 =>
    optK (addOff 1 x13) fun v_75 =>
    optK (rd1 s v_75) fun v_76 =>
    optK (iaddrS 1 d9 v_76) fun v_77 =>
    optK (rd1 s v_77) fun v_78 =>
    optK (addOff 2 x13) fun v_79 =>
    optK (rd1 s v_79) fun v_80 =>
    optK (arithV .add v_78 v_80) fun v_81 =>
    optK (iaddrS 1 d9 v_74) fun v_82 =>
    optK (wr1 s v_82 v_81) fun s_83 =>
    vc_leafmeshref10_Dist_j3 X (.bool true) i12 I2 m2 I1 m1 K s_83)
   (vc_leafmeshref10_Dist_j3 X more11 i12 I2 m2 I1 m1 K s))
def vc_leafmeshref10_Dist_j4 (X : Told) (d9 : AVal) (more11 : AVal) (i12 : AVal) (x13 : AVal) (t55 : AVal) (t62 : AVal) (t76 : AVal) (I2 : List AVal → Heap → Nat → Prop) (m2 : Nat) (I1 : List AVal → Heap → Nat → Prop) (m1 : Nat) (K : AVal → Heap → Prop) (s : Heap) : Prop :=
  optK (pickV t62 (.bool true) t76) fun v_35 =>
  optK (pickV t55 v_35 (.bool false)) fun v_36 =>
  boolK v_36
   (optK (addOff 1 x13) fun v_84 =>
    optK (rd1 s v_84) fun v_85 =>
    optK (addOff 0 x13) fun v_86 =>
    optK (rd1 s v_86) fun v_87 =>
    optK (iaddrS 1 d9 v_87) fun v_88 =>
    optK (rd1 s v_88) fun v_89 =>
    optK (addOff 2 x13) fun v_90 =>
    optK (rd1 s v_90) fun v_91 =>
    optK (arithV .add v_89 v_91) fun v_92 =>
    optK (iaddrS 1 d9 v_85) fun v_93 =>
    optK (wr1 s v_93 v_92) fun s_94 =>
    vc_leafmeshref10_Dist_j5 X d9 (.bool true) i12 x13 I2 m2 I1 m1 K s_94)
   (vc_leafmeshref10_Dist_j5 X d9 more11 i12 x13 I2 m2 I1 m1 K s)
def vc_leafmeshref10_Dist_j8 (X : Told) (d9 : AVal) (more11 : AVal) (i12 : AVal) (x13 : AVal) (t97 : AVal) (t104 : AVal) (t118 : AVal) (I2 : List AVal → Heap → Nat → Prop) (m2 : Nat) (I1 : List AVal → Heap → Nat → Prop) (m1 : Nat) (K : AVal → Heap → Prop) (s : Heap) : Prop :=
  optK (pickV t104 (.bool true) t118) fun v_118 =>
  optK (pickV t97 v_118 (.bool false)) fun v_119 =>
  boolK v_119
   (optK (addOff 0 x13) fun v_120 =>
    optK (rd1 s v_120) fun v_121 =>
    optK (addOff 1 x13) fun v_122 =>
    optK (rd1 s v_122) fun v_123 =>
    optK (iaddrS 1 d9 v_123) fun v_124 =>
    optK (rd1 s v_124) fun v_125 =>
    optK (addOff 2 x13) fun v_126 =>
    optK (rd1 s v_126) fun v_127 =>
    optK (arithV .add v_125 v_127) fun v_128 =>
    optK (iaddrS 1 d9 v_121) fun v_129 =>
    optK (wr1 s v_129 v_128) fun s_130 =>
    vc_leafmeshref10_Dist_j3 X (.bool true) i12 I2 m2 I1 m1 K s_130)
   (vc_leafmeshref10_Dist_j3 X more11 i12 I2 m2 I1 m1 K s)
def vc_leafmeshref10_Dist_j7 (X : Told) (d9 : AVal) (more11 : AVal) (i12 : AVal) (x13 : AVal) (I2 : List AVal → Heap → Nat → Prop) (m2 : Nat) (I1 : List AVal → Heap → Nat → Prop) (m1 : Nat) (K : AVal → Heap → Prop) (s : Heap) : Prop :=
  optK (addOff 1 x13) fun v_108 =>
  optK (rd1 s v_108) fun v_109 =>
  optK (iaddrS 1 d9 v_109) fun v_110 =>
  optK (rd1 s v_110) fun v_111 =>
  optK (arithV .geq v_111 (.int .i64 0)) fun v_112 =>
  boolK v_112
   (optK (addOff 0 x13) fun v_113 =>
  optK (rd1 s v_113) fun v_114 =>
  optK (iaddrS 1 d9 v_114) fun v_115 =>
  optK (rd1 s v_115) fun v_116 =>
  optK (arithV .lss v_116 (.int .i64 0)) fun v_117 =>
  boolK v_117
   (vc_leafmeshref10_Dist_j8 X d9 more11 i12 x13 v_112 v_117 .undef I2 m2 I1 m1 K s)
   (optK (addOff 0 x13) fun v_131 =>
    optK (rd1 s v_131) fun v_132 =>
    optK (iaddrS 1 d9 v_132) fun v_133 =>
    optK (rd1 s v_133) fun v_134 =>
    optK (addOff 1 x13) fun v_135 =>
    optK (rd1 s v_135) fun v_136 =>
    optK (iaddrS 1 d9 v_136) fun v_137 =>
    optK (rd1 s v_137) fun v_138 =>
    optK (addOff 2 x13) fun v_139 =>
    optK (rd1 s v_139) fun v_140 =>
    optK (arithV .add v_138 v_140) fun v_141 =>
    optK (arithV .gtr v_134 v_141) fun v_142 =>
    vc_leafmeshref10_Dist_j8 X d9 more11 i12 x13 v_112 v_117 v_142 I2 m2 I1 m1 K s))
   (optK (pickV v_112 .undef (.bool false)) fun v_143 =>
  boolK v_143
   (optK (addOff 0 x13) fun v_144 =>
    optK (rd1 s v_144) fun v_145 =>
    optK (addOff 1 x13) fun v_146 =>
    optK (rd1 s v_146) fun v_147 =>
    optK (iaddrS 1 d9 v_147) fun v_148 =>
    optK (rd1 s v_148) fun v_149 =>
    optK (addOff 2 x13) fun v_150 =>
    optK (rd1 s v_150) fun v_151 =>
    optK (arithV .add v_149 v_151) fun v_152 =>
    optK (iaddrS 1 d9 v_145) fun v_153 =>
    optK (wr1 s v_153 v_152) fun s_154 =>
    vc_leafmeshref10_Dist_j3 X (.bool true) i12 I2 m2 I1 m1 K s_154)
   (vc_leafmeshref10_Dist_j3 X more11 i12 I2 m2 I1 m1 K s))
def vc_leafmeshref10_Dist_l2 (X : Told) (links1 : AVal) (up2 : AVal) (d9 : AVal) (more11 : AVal) (i12 : AVal) (I2 : List AVal → Heap → Nat → Prop) (m2 : Nat) (I1 : List AVal → Heap → Nat → Prop) (m1 : Nat) (K : AVal → Heap → Prop) (s : Heap) : Prop :=
  optK (lenOfA links1) fun v_13 =>
  optK (arithV .lss i12 (.int .i64 v_13)) fun v_15 =>
  boolK v_15
   (optK (iaddrS 3 links1 i12) fun v_17 =>
    optK (rdN s 3 v_17) fun v_18 =>
    newK 27 [(.int .i64 0), (.int .i64 0), (.int .i64 0)] (fun b_19 s_20 =>
    optK (wrAgg s_20 3 (.ptr b_19 0) (.agg v_18)) fun s_21 =>
    optK (iaddrS 1 up2 i12) fun v_22 =>
    optK (rd1 s_21 v_22) fun v_23 =>
    optK (unaryA .not v_23) fun v_24 =>
    boolK v_24
     (vc_leafmeshref10_Dist_j3 X more11 i12 I2 m2 I1 m1 K s_21)
     (optK (addOff 0 (.ptr b_19 0)) fun v_25 =>
      optK (rd1 s_21 v_25) fun v_26 =>
      optK (iaddrS 1 d9 v_26) fun v_27 =>
      optK (rd1 s_21 v_27) fun v_28 =>
      optK (arithV .geq v_28 (.int .i64 0)) fun v_29 =>
      boolK v_29
       (optK (addOff 1 (.ptr b_19 0)) fun v_30 =>
      optK (rd1 s_21 v_30) fun v_31 =>
      optK (iaddrS 1 d9 v_31) fun v_32 =>
      optK (rd1 s_21 v_32) fun v_33 =>
      optK (arithV .lss v_33 (.int .i64 0)) fun v_34 =>
      boolK v_34
       (vc_leafmeshref10_Dist_j4 X d9 more11 i12 (.ptr b_19 0) v_29 v_34 .undef I2 m2 I1 m1 K s_21)
       (optK (addOff 1 (.ptr b_19 0)) fun v_95 =>
        optK (rd1 s_21 v_95) fun v_96 =>
        optK (iaddrS 1 d9 v_96) fun v_97 =>
        optK (rd1 s_21 v_97) fun v_98 =>
        optK (addOff 0 (.ptr b_19 0)) fun v_99 =>
        optK (rd1 s_21 v_99) fun v_100 =>
        optK (iaddrS 1 d9 v_100) fun v_101 =>
        optK (rd1 s_21 v_101) fun v_102 =>
        optK (addOff 2 (.ptr b_19 0)) fun v_103 =>
        optK (rd1 s_21 v_103) fun v_104 =>
        optK (arithV .add v_102 v_104) fun v_105 =>
        optK (arithV .gtr v_98 v_105) fun v_106 =>
        vc_leafmeshref10_Dist_j4 X d9 more11 i12 (.ptr b_19 0) v_29 v_34 v_106 I2 m2 I1 m1 K s_21))
       (optK (pickV v_29 .undef (.bool false)) fun v_107 =>
      boolK v_107
       (optK (addOff 1 (.ptr b_19 0)) fun v_155 =>
        optK (rd1 s_21 v_155) fun v_156 =>
        optK (addOff 0 (.ptr b_19 0)) fun v_157 =>
        optK (rd1 s_21 v_157) fun v_158 =>
        optK (iaddrS 1 d9 v_158) fun v_159 =>
        optK (rd1 s_21 v_159) fun v_160 =>
        optK (addOff 2 (.ptr b_19 0)) fun v_161 =>
        optK (rd1 s_21 v_161) fun v_162 =>
        optK (arithV .add v_160 v_162) fun v_163 =>
        optK (iaddrS 1 d9 v_156) fun v_164 =>
        optK (wr1 s_21 v_164 v_163) fun s_165 =>
        vc_leafmeshref10_Dist_j7 X d9 (.bool true) i12 (.ptr b_19 0) I2 m2 I1 m1 K s_165)
       (vc_leafmeshref10_Dist_j7 X d9 more11 i12 (.ptr b_19 0) I2 m2 I1 m1 K s_21)))) s)
   (∃ m', m' < m1 ∧ I1 [more11] s m')
def vc_leafmeshref10_Dist_l1 (X : Told) (links1 : AVal) (up2 : AVal) (d9 : AVal) (more11 : AVal) (I1 : List AVal → Heap → Nat → Prop) (m1 : Nat) (K : AVal → Heap → Prop) (s : Heap) : Prop :=
  boolK more11
   (∃ I2 : List AVal → Heap → Nat → Prop, (∃ m, I2 [(.bool false), (.int .i64 0)] s m) ∧ ∀ (f : Env) (s : Heap) (m2 : Nat), I2 [f 11, f 12] s m2 →
      vc_leafmeshref10_Dist_l2 X links1 up2 d9 (f 11) (f 12) I2 m2 I1 m1 K s)
   (K d9 s)
def vc_leafmeshref10_Dist_l0 (X : Told) (nodes0 : AVal) (links1 : AVal) (up2 : AVal) (t3 : AVal) (d9 : AVal) (n10 : AVal) (I0 : List AVal → Heap → Nat → Prop) (m0 : Nat) (K : AVal → Heap → Prop) (s : Heap) : Prop :=
  optK (arithV .lss n10 nodes0) fun v_7 =>
  boolK v_7
   (optK (iaddrS 1 d9 n10) fun v_8 =>
    optK (wr1 s v_8 (.int .i64 (-1))) fun s_9 =>
    optK (arithV .add n10 (.int .i64 1)) fun v_10 =>
    ∃ m', m' < m0 ∧ I0 [v_10] s_9 m')
   (optK (iaddrS 1 d9 t3) fun v_11 =>
    optK (wr1 s v_11 (.int .i64 0)) fun s_12 =>
    ∃ I1 : List AVal → Heap → Nat → Prop, (∃ m, I1 [(.bool true)] s_12 m) ∧ ∀ (f : Env) (s : Heap) (m1 : Nat), I1 [f 11] s m1 →
      vc_leafmeshref10_Dist_l1 X links1 up2 d9 (f 11) I1 m1 K s)
def vc_leafmeshref10_Dist (X : Told) (nodes0 : AVal) (links1 : AVal) (up2 : AVal) (t3 : AVal) (K : AVal → Heap → Prop) (s : Heap) : Prop :=
  wpCall Try.prog X 37 [nodes0, links1, up2, t3] (fun v_0 s_1 =>
  optK (unaryA .not v_0) fun v_2 =>
  boolK v_2
   (K .nilslc s_1)
   (optK (nat? nodes0) fun n_3 => optK (nat? nodes0) fun n_4 => (n_3 ≤ n_4 ∧ n_4 ≤ 4294967296) ∧ newK 3 (repl n_4 [(.int .i64 0)]) (fun b_5 s_6 =>
    ∃ I0 : List AVal → Heap → Nat → Prop, (∃ m, I0 [(.int .i64 0)] s_6 m) ∧ ∀ (f : Env) (s : Heap) (m0 : Nat), I0 [f 10] s m0 →
      vc_leafmeshref10_Dist_l0 X nodes0 links1 up2 t3 (.slc b_5 0 n_3 (some n_4) 1) (f 10) I0 m0 K s) s_1)) s
def vc_leafmeshref10_Dist_ann : Nat → List Nat := fun k => cond (Nat.beq k 10) [10] (cond (Nat.beq k 20) [11] (cond (Nat.beq k 26) [11, 12] ([])))
theorem vc_leafmeshref10_Dist_eq (X : Told) (nodes0 : AVal) (links1 : AVal) (up2 : AVal) (t3 : AVal) (K : AVal → Heap → Prop) (s : Heap) : wpC Try.prog X vc_leafmeshref10_Dist_ann Try.f59.ntmps none (bodyOf Try.f59) (envOf [nodes0, links1, up2, t3]) (fun e env s => retK e (resK Try.prog Try.f59.results.toList env (fun vs => K (oneV vs) s) s)) s = vc_leafmeshref10_Dist X nodes0 links1 up2 t3 K s := by kernel_rfl
theorem vc_leafmeshref10_Dist_ok {X : Told} (hX : FrX X) (hn : X 59 = none) {nodes0 : AVal} {links1 : AVal} {up2 : AVal} {t3 : AVal} {K : AVal → Heap → Prop} {s : Heap} (h : vc_leafmeshref10_Dist X nodes0 links1 up2 t3 K s) : wpCall Try.prog X 59 [nodes0, links1, up2, t3] K s :=
  wpCall_code hX vc_leafmeshref10_Dist_ann hn Try.func59 (by kernel_rfl : Try.f59.body = some (bodyOf Try.f59)) (by kernel_rfl) ((vc_leafmeshref10_Dist_eq X nodes0 links1 up2 t3 K s).mpr h)
theorem vc_leafmeshref10_Dist_in {nodes0 : AVal} {links1 : AVal} {up2 : AVal} {t3 : AVal} {K : AVal → Heap → Prop} {s : Heap} (h : vc_leafmeshref10_Dist XX nodes0 links1 up2 t3 K s) : wpCall Try.prog XX 59 [nodes0, links1, up2, t3] K s := vc_leafmeshref10_Dist_ok XX_fr rfl h
/-- leafmesh/leafmeshref10.Other (60) -/
def vc_leafmeshref10_Other (X : Told) (x0 : AVal) (n1 : AVal) (K : AVal → Heap → Prop) (s : Heap) : Prop :=
  boxK 27 x0 (fun b_0 s_1 =>
  optK (addOff 0 b_0) fun v_2 =>
  optK (rd1 s_1 v_2) fun v_3 =>
  optK (negB false (eqV 0 false n1 v_3)) fun v_4 =>
  boolK v_4
   (optK (addOff 1 b_0) fun v_5 =>
    optK (rd1 s_1 v_5) fun v_6 =>
    K (.tup [v_6, (.bool true)]) s_1)
   (optK (addOff 1 b_0) fun v_7 =>
    optK (rd1 s_1 v_7) fun v_8 =>
    optK (negB false (eqV 0 false n1 v_8)) fun v_9 =>
    boolK v_9
     (optK (addOff 0 b_0) fun v_10 =>
      optK (rd1 s_1 v_10) fun v_11 =>
      K (.tup [v_11, (.bool true)]) s_1)
     (K (.tup [(.int .i64 0), (.bool false)]) s_1))) s
def vc_leafmeshref10_Other_ann : Nat → List Nat := fun _ => []
theorem vc_leafmeshref10_Other_eq (X : Told) (x0 : AVal) (n1 : AVal) (K : AVal → Heap → Prop) (s : Heap) : wpC Try.prog X vc_leafmeshref10_Other_ann Try.f60.ntmps none (bodyOf Try.f60) (envOf [x0, n1]) (fun e env s => retK e (resK Try.prog Try.f60.results.toList env (fun vs => K (oneV vs) s) s)) s = vc_leafmeshref10_Other X x0 n1 K s := by kernel_rfl
theorem vc_leafmeshref10_Other_ok {X : Told} (hX : FrX X) (hn : X 60 = none) {x0 : AVal} {n1 : AVal} {K : AVal → Heap → Prop} {s : Heap} (h : vc_leafmeshref10_Other X x0 n1 K s) : wpCall Try.prog X 60 [x0, n1] K s :=
  wpCall_code hX vc_leafmeshref10_Other_ann hn Try.func60 (by kernel_rfl : Try.f60.body = some (bodyOf Try.f60)) (by kernel_rfl) ((vc_leafmeshref10_Other_eq X x0 n1 K s).mpr h)
theorem vc_leafmeshref10_Other_in {x0 : AVal} {n1 : AVal} {K : AVal → Heap → Prop} {s : Heap} (h : vc_leafmeshref10_Other XX x0 n1 K s) : wpCall Try.prog XX 60 [x0, n1] K s := vc_leafmeshref10_Other_ok XX_fr rfl h
/-- leafmesh/leafmeshref01.Loopback (61) -/
def vc_leafmeshref01_Loopback_j0 (X : Told) (n0 : AVal) (t6 : AVal) (t8 : AVal) (K : AVal → Heap → Prop) (s : Heap) : Prop :=
  optK (pickV t6 (.bool true) t8) fun v_1 =>
  boolK v_1
   (K (.tup [(.int .u32 0), (.int .i64 2)]) s)
   (optK (convI .u32 n0) fun v_2 =>
    optK (arithV .add (.int .u32 184483840) v_2) fun v_3 =>
    optK (arithV .add v_3 (.int .u32 1)) fun v_4 =>
    K (.tup [v_4, (.int .i64 0)]) s)
def vc_leafmeshref01_Loopback (X : Told) (n0 : AVal) (K : AVal → Heap → Prop) (s : Heap) : Prop :=
  optK (arithV .lss n0 (.int .i64 0)) fun v_0 =>
  boolK v_0
   (vc_leafmeshref01_Loopback_j0 X n0 v_0 .undef K s)
   (optK (arithV .geq n0 (.int .i64 32)) fun v_5 =>
    vc_leafmeshref01_Loopback_j0 X n0 v_0 v_5 K s)
def vc_leafmeshref01_Loopback_ann : Nat → List Nat := fun _ => []
theorem vc_leafmeshref01_Loopback_eq (X : Told) (n0 : AVal) (K : AVal → Heap → Prop) (s : Heap) : wpC Try.prog X vc_leafmeshref01_Loopback_ann Try.f61.ntmps none (bodyOf Try.f61) (envOf [n0]) (fun e env s => retK e (resK Try.prog Try.f61.results.toList env (fun vs => K (oneV vs) s) s)) s = vc_leafmeshref01_Loopback X n0 K s := by kernel_rfl
theorem vc_leafmeshref01_Loopback_ok {X : Told} (hX : FrX X) (hn : X 61 = none) {n0 : AVal} {K : AVal → Heap → Prop} {s : Heap} (h : vc_leafmeshref01_Loopback X n0 K s) : wpCall Try.prog X 61 [n0] K s :=
  wpCall_code hX vc_leafmeshref01_Loopback_ann hn Try.func61 (by kernel_rfl : Try.f61.body = some (bodyOf Try.f61)) (by kernel_rfl) ((vc_leafmeshref01_Loopback_eq X n0 K s).mpr h)
theorem vc_leafmeshref01_Loopback_in {n0 : AVal} {K : AVal → Heap → Prop} {s : Heap} (h : vc_leafmeshref01_Loopback XX n0 K s) : wpCall Try.prog XX 61 [n0] K s := vc_leafmeshref01_Loopback_ok XX_fr rfl h
/-- leafmesh/spf.valid$1 (70) -/
def vc_spf_valid_1_j0 (X : Told) (t6 : AVal) (t9 : AVal) (K : AVal → Heap → Prop) (s : Heap) : Prop :=
  optK (pickV t6 (.bool true) t9) fun v_1 =>
  K v_1 s
def vc_spf_valid_1 (X : Told) (n0 : AVal) (t1 : AVal) (K : AVal → Heap → Prop) (s : Heap) : Prop :=
  optK (arithV .lss n0 (.int .i64 0)) fun v_0 =>
  boolK v_0
   (vc_spf_valid_1_j0 X v_0 .undef K s)
   (optK (rd1 s t1) fun v_2 =>
    optK (arithV .geq n0 v_2) fun v_3 =>
    vc_spf_valid_1_j0 X v_0 v_3 K s)
def vc_spf_valid_1_ann : Nat → List Nat := fun _ => []
theorem vc_spf_valid_1_eq (X : Told) (n0 : AVal) (t1 : AVal) (K : AVal → Heap → Prop) (s : Heap) : wpC Try.prog X vc_spf_valid_1_ann Try.f70.ntmps none (bodyOf Try.f70) (envOf [n0, t1]) (fun e env s => retK e (resK Try.prog Try.f70.results.toList env (fun vs => K (oneV vs) s) s)) s = vc_spf_valid_1 X n0 t1 K s := by kernel_rfl
theorem vc_spf_valid_1_ok {X : Told} (hX : FrX X) (hn : X 70 = none) {n0 : AVal} {t1 : AVal} {K : AVal → Heap → Prop} {s : Heap} (h : vc_spf_valid_1 X n0 t1 K s) : wpCall Try.prog X 70 [n0, t1] K s :=
  wpCall_code hX vc_spf_valid_1_ann hn Try.func70 (by kernel_rfl : Try.f70.body = some (bodyOf Try.f70)) (by kernel_rfl) ((vc_spf_valid_1_eq X n0 t1 K s).mpr h)
theorem vc_spf_valid_1_in {n0 : AVal} {t1 : AVal} {K : AVal → Heap → Prop} {s : Heap} (h : vc_spf_valid_1 XX n0 t1 K s) : wpCall Try.prog XX 70 [n0, t1] K s := vc_spf_valid_1_ok XX_fr rfl h
/-- slices.ContainsFunc[[]int,int] (71) -/
def vc_slices_ContainsFunc___int_int_ (X : Told) (t0 : AVal) (t1 : AVal) (K : AVal → Heap → Prop) (s : Heap) : Prop :=
  wpCall Try.prog X 83 [t0, t1] (fun v_0 s_1 =>
  optK (arithV .geq v_0 (.int .i64 0)) fun v_2 =>
  K v_2 s_1) s
def vc_slices_ContainsFunc___int_int__ann : Nat → List Nat := fun _ => []
theorem vc_slices_ContainsFunc___int_int__eq (X : Told) (t0 : AVal) (t1 : AVal) (K : AVal → Heap → Prop) (s : Heap) : wpC Try.prog X vc_slices_ContainsFunc___int_int__ann Try.f71.ntmps none (bodyOf Try.f71) (envOf [t0, t1]) (fun e env s => retK e (resK Try.prog Try.f71.results.toList env (fun vs => K (oneV vs) s) s)) s = vc_slices_ContainsFunc___int_int_ X t0 t1 K s := by kernel_rfl
theorem vc_slices_ContainsFunc___int_int__ok {X : Told} (hX : FrX X) (hn : X 71 = none) {t0 : AVal} {t1 : AVal} {K : AVal → Heap → Prop} {s : Heap} (h : vc_slices_ContainsFunc___int_int_ X t0 t1 K s) : wpCall Try.prog X 71 [t0, t1] K s :=
  wpCall_code hX vc_slices_ContainsFunc___int_int__ann hn Try.func71 (by kernel_rfl : Try.f71.body = some (bodyOf Try.f71)) (by kernel_rfl) ((vc_slices_ContainsFunc___int_int__eq X t0 t1 K s).mpr h)
theorem vc_slices_ContainsFunc___int_int__in {t0 : AVal} {t1 : AVal} {K : AVal → Heap → Prop} {s : Heap} (h : vc_slices_ContainsFunc___int_int_ XX t0 t1 K s) : wpCall Try.prog XX 71 [t0, t1] K s := vc_slices_ContainsFunc___int_int__ok XX_fr rfl h
/-- (leafmesh/spf.queue).Len (72) -/
def vc_spf_queue_Len (X : Told) (q0 : AVal) (K : AVal → Heap → Prop) (s : Heap) : Prop :=
  optK (lenOfA q0) fun v_0 =>
  K (.int .i64 v_0) s
def vc_spf_queue_Len_ann : Nat → List Nat := fun _ => []
theorem vc_spf_queue_Len_eq (X : Told) (q0 : AVal) (K : AVal → Heap → Prop) (s : Heap) : wpC Try.prog X vc_spf_queue_Len_ann Try.f72.ntmps none (bodyOf Try.f72) (envOf [q0]) (fun e env s => retK e (resK Try.prog Try.f72.results.toList env (fun vs => K (oneV vs) s) s)) s = vc_spf_queue_Len X q0 K s := by kernel_rfl
theorem vc_spf_queue_Len_ok {X : Told} (hX : FrX X) (hn : X 72 = none) {q0 : AVal} {K : AVal → Heap → Prop} {s : Heap} (h : vc_spf_queue_Len X q0 K s) : wpCall Try.prog X 72 [q0] K s :=
  wpCall_code hX vc_spf_queue_Len_ann hn Try.func72 (by kernel_rfl : Try.f72.body = some (bodyOf Try.f72)) (by kernel_rfl) ((vc_spf_queue_Len_eq X q0 K s).mpr h)
theorem vc_spf_queue_Len_in {q0 : AVal} {K : AVal → Heap → Prop} {s : Heap} (h : vc_spf_queue_Len XX q0 K s) : wpCall Try.prog XX 72 [q0] K s := vc_spf_queue_Len_ok XX_fr rfl h
/-- container/heap.Pop (73) -/
def vc_container_heap_Pop (X : Told) (h0 : AVal) (K : AVal → Heap → Prop) (s : Heap) : Prop :=
  methK Try.prog X h0 "Len" [] (fun v_0 s_1 =>
  optK (arithV .sub v_0 (.int .i64 1)) fun v_2 =>
  methK Try.prog X h0 "Swap" [(.int .i64 0), v_2] (fun v_3 s_4 =>
  wpCall Try.prog X 84 [h0, (.int .i64 0), v_2] (fun v_5 s_6 =>
  methK Try.prog X h0 "Pop" [] (fun v_7 s_8 =>
  K v_7 s_8) s_6) s_4) s_1) s
def vc_container_heap_Pop_ann : Nat → List Nat := fun _ => []
theorem vc_container_heap_Pop_eq (X : Told) (h0 : AVal) (K : AVal → Heap → Prop) (s : Heap) : wpC Try.prog X vc_container_heap_Pop_ann Try.f73.ntmps none (bodyOf Try.f73) (envOf [h0]) (fun e env s => retK e (resK Try.prog Try.f73.results.toList env (fun vs => K (oneV vs) s) s)) s = vc_container_heap_Pop X h0 K s := by kernel_rfl
theorem vc_container_heap_Pop_ok {X : Told} (hX : FrX X) (hn : X 73 = none) {h0 : AVal} {K : AVal → Heap → Prop} {s : Heap} (h : vc_container_heap_Pop X h0 K s) : wpCall Try.prog X 73 [h0] K s :=
  wpCall_code hX vc_container_heap_Pop_ann hn Try.func73 (by kernel_rfl : Try.f73.body = some (bodyOf Try.f73)) (by kernel_rfl) ((vc_container_heap_Pop_eq X h0 K s).mpr h)
theorem vc_container_heap_Pop_in {h0 : AVal} {K : AVal → Heap → Prop} {s : Heap} (h : vc_container_heap_Pop XX h0 K s) : wpCall Try.prog XX 73 [h0] K s := vc_container_heap_Pop_ok XX_fr rfl h
/-- container/heap.Push (74) -/
def vc_container_heap_Push (X : Told) (h0 : AVal) (x1 : AVal) (K : AVal → Heap → Prop) (s : Heap) : Prop :=
  methK Try.prog X h0 "Push" [x1] (fun v_0 s_1 =>
  methK Try.prog X h0 "Len" [] (fun v_2 s_3 =>
  optK (arithV .sub v_2 (.int .i64 1)) fun v_4 =>
  wpCall Try.prog X 85 [h0, v_4] (fun v_5 s_6 =>
  K (.tup []) s_6) s_3) s_1) s
def vc_container_heap_Push_ann : Nat → List Nat := fun _ => []
theorem vc_container_heap_Push_eq (X : Told) (h0 : AVal) (x1 : AVal) (K : AVal → Heap → Prop) (s : Heap) : wpC Try.prog X vc_container_heap_Push_ann Try.f74.ntmps none (bodyOf Try.f74) (envOf [h0, x1]) (fun e env s => retK e (resK Try.prog Try.f74.results.toList env (fun vs => K (oneV vs) s) s)) s = vc_container_heap_Push X h0 x1 K s := by kernel_rfl
theorem vc_container_heap_Push_ok {X : Told} (hX : FrX X) (hn : X 74 = none) {h0 : AVal} {x1 : AVal} {K : AVal → Heap → Prop} {s : Heap} (h : vc_container_heap_Push X h0 x1 K s) : wpCall Try.prog X 74 [h0, x1] K s :=
  wpCall_code hX vc_container_heap_Push_ann hn Try.func74 (by kernel_rfl : Try.f74.body = some (bodyOf Try.f74)) (by kernel_rfl) ((vc_container_heap_Push_eq X h0 x1 K s).mpr h)
theorem vc_container_heap_Push_in {h0 : AVal} {x1 : AVal} {K : AVal → Heap → Prop} {s : Heap} (h : vc_container_heap_Push XX h0 x1 K s) : wpCall Try.prog XX 74 [h0, x1] K s := vc_container_heap_Push_ok XX_fr rfl h
/-- leafmesh/spf.enabled[leafmesh/api.Link] (75) -/
def vc_spf_enabled_api_Link_ (X : Told) (list0 : AVal) (flags1 : AVal) (K : AVal → Heap → Prop) (s : Heap) : Prop :=
  boxK 22 list0 (fun b_0 s_1 =>
  boxK 23 flags1 (fun b_2 s_3 =>
  K (.fn (.func 86) [] [b_0, b_2]) s_3) s_1) s
def vc_spf_enabled_api_Link__ann : Nat → List Nat := fun _ => []
theorem vc_spf_enabled_api_Link__eq (X : Told) (list0 : AVal) (flags1 : AVal) (K : AVal → Heap → Prop) (s : Heap) : wpC Try.prog X vc_spf_enabled_api_Link__ann Try.f75.ntmps none (bodyOf Try.f75) (envOf [list0, flags1]) (fun e env s => retK e (resK Try.prog Try.f75.results.toList env (fun vs => K (oneV vs) s) s)) s = vc_spf_enabled_api_Link_ X list0 flags1 K s := by kernel_rfl
theorem vc_spf_enabled_api_Link__ok {X : Told} (hX : FrX X) (hn : X 75 = none) {list0 : AVal} {flags1 : AVal} {K : AVal → Heap → Prop} {s : Heap} (h : vc_spf_enabled_api_Link_ X list0 flags1 K s) : wpCall Try.prog X 75 [list0, flags1] K s :=
  wpCall_code hX vc_spf_enabled_api_Link__ann hn Try.func75 (by kernel_rfl : Try.f75.body = some (bodyOf Try.f75)) (by kernel_rfl) ((vc_spf_enabled_api_Link__eq X list0 flags1 K s).mpr h)
theorem vc_spf_enabled_api_Link__in {list0 : AVal} {flags1 : AVal} {K : AVal → Heap → Prop} {s : Heap} (h : vc_spf_enabled_api_Link_ XX list0 flags1 K s) : wpCall Try.prog XX 75 [list0, flags1] K s := vc_spf_enabled_api_Link__ok XX_fr rfl h
/-- slices.IndexFunc[[]int,int] (83) -/
def vc_slices_IndexFunc___int_int__l0 (X : Told) (t0 : AVal) (t1 : AVal) (t7 : AVal) (t8 : AVal) (I0 : List AVal → Heap → Nat → Prop) (m0 : Nat) (K : AVal → Heap → Prop) (s : Heap) : Prop :=
  optK (arithV .lss t8 t7) fun v_2 =>
  boolK v_2
   (optK (iaddrS 1 t0 t8) fun v_3 =>
    optK (rd1 s v_3) fun v_4 =>
    funK Try.prog X t1 [v_4] (fun v_5 s_6 =>
    boolK v_5
     (K t8 s_6)
     (optK (arithV .add t8 (.int .i64 1)) fun v_7 =>
      ∃ m', m' < m0 ∧ I0 [v_7] s_6 m')) s)
   (K (.int .i64 (-1)) s)
def vc_slices_IndexFunc___int_int_ (X : Told) (t0 : AVal) (t1 : AVal) (K : AVal → Heap → Prop) (s : Heap) : Prop :=
  optK (lenOfA t0) fun v_0 =>
  ∃ I0 : List AVal → Heap → Nat → Prop, (∃ m, I0 [(.int .i64 0)] s m) ∧ ∀ (f : Env) (s : Heap) (m0 : Nat), I0 [f 8] s m0 →
    vc_slices_IndexFunc___int_int__l0 X t0 t1 (.int .i64 v_0) (f 8) I0 m0 K s
def vc_slices_IndexFunc___int_int__ann : Nat → List Nat := fun k => cond (Nat.beq k 4) [8] ([])
theorem vc_slices_IndexFunc___int_int__eq (X : Told) (t0 : AVal) (t1 : AVal) (K : AVal → Heap → Prop) (s : Heap) : wpC Try.prog X vc_slices_IndexFunc___int_int__ann Try.f83.ntmps none (bodyOf Try.f83) (envOf [t0, t1]) (fun e env s => retK e (resK Try.prog Try.f83.results.toList env (fun vs => K (oneV vs) s) s)) s = vc_slices_IndexFunc___int_int_ X t0 t1 K s := by kernel_rfl
theorem vc_slices_IndexFunc___int_int__ok {X : Told} (hX : FrX X) (hn : X 83 = none) {t0 : AVal} {t1 : AVal} {K : AVal → Heap → Prop} {s : Heap} (h : vc_slices_IndexFunc___int_int_ X t0 t1 K s) : wpCall Try.prog X 83 [t0, t1] K s :=
  wpCall_code hX vc_slices_IndexFunc___int_int__ann hn Try.func83 (by kernel_rfl : Try.f83.body = some (bodyOf Try.f83)) (by kernel_rfl) ((vc_slices_IndexFunc___int_int__eq X t0 t1 K s).mpr h)
theorem vc_slices_IndexFunc___int_int__in {t0 : AVal} {t1 : AVal} {K : AVal → Heap → Prop} {s : Heap} (h : vc_slices_IndexFunc___int_int_ XX t0 t1 K s) : wpCall Try.prog XX 83 [t0, t1] K s := vc_slices_IndexFunc___int_int__ok XX_fr rfl h
/-- container/heap.down (84) -/
def vc_container_heap_down_j0 (X : Told) (i01 : AVal) (i7 : AVal) (K : AVal → Heap → Prop) (s : Heap) : Prop :=
  optK (arithV .gtr i7 i01) fun v_0 =>
  K v_0 s
def vc_container_heap_down_j4 (X : Told) (h0 : AVal) (i01 : AVal) (i7 : AVal) (j9 : AVal) (I1 : List AVal → Heap → Nat → Prop) (m1 : Nat) (K : AVal → Heap → Prop) (s : Heap) : Prop :=
  methK Try.prog X h0 "Less" [j9, i7] (fun v_8 s_9 =>
  optK (unaryA .not v_8) fun v_10 =>
  boolK v_10
   (vc_container_heap_down_j0 X i01 i7 K s_9)
   (methK Try.prog X h0 "Swap" [i7, j9] (fun v_11 s_12 =>
    ∃ m', m' < m1 ∧ I1 [j9] s_12 m') s_9)) s
def vc_container_heap_down_j3 (X : Told) (h0 : AVal) (i01 : AVal) (i7 : AVal) (j9 : AVal) (j210 : AVal) (t28 : AVal) (t32 : AVal) (I1 : List AVal → Heap → Nat → Prop) (m1 : Nat) (K : AVal → Heap → Prop) (s : Heap) : Prop :=
  optK (pickV t28 t32 (.bool false)) fun v_7 =>
  boolK v_7
   (vc_container_heap_down_j4 X h0 i01 i7 j210 I1 m1 K s)
   (vc_container_heap_down_j4 X h0 i01 i7 j9 I1 m1 K s)
def vc_container_heap_down_j2 (X : Told) (h0 : AVal) (i01 : AVal) (n2 : AVal) (i7 : AVal) (j18 : AVal) (t18 : AVal) (t20 : AVal) (I1 : List AVal → Heap → Nat → Prop) (m1 : Nat) (K : AVal → Heap → Prop) (s : Heap) : Prop :=
  optK (pickV t18 (.bool true) t20) fun v_4 =>
  boolK v_4
   (vc_container_heap_down_j0 X i01 i7 K s)
   (optK (arithV .add j18 (.int .i64 1)) fun v_5 =>
    optK (arithV .lss v_5 n2) fun v_6 =>
    boolK v_6
     (methK Try.prog X h0 "Less" [v_5, j18] (fun v_13 s_14 =>
      vc_container_heap_down_j3 X h0 i01 i7 j18 v_5 v_6 v_13 I1 m1 K s_14) s)
     (vc_container_heap_down_j3 X h0 i01 i7 j18 v_5 v_6 .undef I1 m1 K s))
def vc_container_heap_down_l1 (X : Told) (h0 : AVal) (i01 : AVal) (n2 : AVal) (i7 : AVal) (I1 : List AVal → Heap → Nat → Prop) (m1 : Nat) (K : AVal → Heap → Prop) (s : Heap) : Prop :=
  optK (arithV .mul (.int .i64 2) i7) fun v_1 =>
  optK (arithV .add v_1 (.int .i64 1)) fun v_2 =>
  optK (arithV .geq v_2 n2) fun v_3 =>
  boolK v_3
   (vc_container_heap_down_j2 X h0 i01 n2 i7 v_2 v_3 .undef I1 m1 K s)
   (optK (arithV .lss v_2 (.int .i64 0)) fun v_15 =>
    vc_container_heap_down_j2 X h0 i01 n2 i7 v_2 v_3 v_15 I1 m1 K s)
def vc_container_heap_down (X : Told) (h0 : AVal) (i01 : AVal) (n2 : AVal) (K : AVal → Heap → Prop) (s : Heap) : Prop :=
  ∃ I1 : List AVal → Heap → Nat → Prop, (∃ m, I1 [i01] s m) ∧ ∀ (f : Env) (s : Heap) (m1 : Nat), I1 [f 7] s m1 →
    vc_container_heap_down_l1 X h0 i01 n2 (f 7) I1 m1 K s
def vc_container_heap_down_ann : Nat → List Nat := fun k => cond (Nat.beq k 4) [7] ([])
theorem vc_container_heap_down_eq (X : Told) (h0 : AVal) (i01 : AVal) (n2 : AVal) (K : AVal → Heap → Prop) (s : Heap) : wpC Try.prog X vc_container_heap_down_ann Try.f84.ntmps none (bodyOf Try.f84) (envOf [h0, i01, n2]) (fun e env s => retK e (resK Try.prog Try.f84.results.toList env (fun vs => K (oneV vs) s) s)) s = vc_container_heap_down X h0 i01 n2 K s := by kernel_rfl
theorem vc_container_heap_down_ok {X : Told} (hX : FrX X) (hn : X 84 = none) {h0 : AVal} {i01 : AVal} {n2 : AVal} {K : AVal → Heap → Prop} {s : Heap} (h : vc_container_heap_down X h0 i01 n2 K s) : wpCall Try.prog X 84 [h0, i01, n2] K s :=
  wpCall_code hX vc_container_heap_down_ann hn Try.func84 (by kernel_rfl : Try.f84.body = some (bodyOf Try.f84)) (by kernel_rfl) ((vc_container_heap_down_eq X h0 i01 n2 K s).mpr h)
theorem vc_container_heap_down_in {h0 : AVal} {i01 : AVal} {n2 : AVal} {K : AVal → Heap → Prop} {s : Heap} (h : vc_container_heap_down XX h0 i01 n2 K s) : wpCall Try.prog XX 84 [h0, i01, n2] K s := vc_container_heap_down_ok XX_fr rfl h
/-- container/heap.up (85) -/
def vc_container_heap_up_j1 (X : Told) (h0 : AVal) (j1 : AVal) (i4 : AVal) (t11 : AVal) (t16 : AVal) (I0 : List AVal → Heap → Nat → Prop) (m0 : Nat) (K : AVal → Heap → Prop) (s : Heap) : Prop :=
  optK (pickV t11 (.bool true) t16) fun v_3 =>
  boolK v_3
   (K (.tup []) s)
   (methK Try.prog X h0 "Swap" [i4, j1] (fun v_4 s_5 =>
    ∃ m', m' < m0 ∧ I0 [i4] s_5 m') s)
def vc_container_heap_up_l0 (X : Told) (h0 : AVal) (j1 : AVal) (I0 : List AVal → Heap → Nat → Prop) (m0 : Nat) (K : AVal → Heap → Prop) (s : Heap) : Prop :=
  optK (arithV .sub j1 (.int .i64 1)) fun v_0 =>
  optK (arithV .quo v_0 (.int .i64 2)) fun v_1 =>
  optK (negB false (eqV 0 false v_1 j1)) fun v_2 =>
  boolK v_2
   (vc_container_heap_up_j1 X h0 j1 v_1 v_2 .undef I0 m0 K s)
   (methK Try.prog X h0 "Less" [j1, v_1] (fun v_6 s_7 =>
    optK (unaryA .not v_6) fun v_8 =>
    vc_container_heap_up_j1 X h0 j1 v_1 v_2 v_8 I0 m0 K s_7) s)
def vc_container_heap_up (X : Told) (h0 : AVal) (j1 : AVal) (K : AVal → Heap → Prop) (s : Heap) : Prop :=
  ∃ I0 : List AVal → Heap → Nat → Prop, (∃ m, I0 [j1] s m) ∧ ∀ (f : Env) (s : Heap) (m0 : Nat), I0 [f 1] s m0 →
    vc_container_heap_up_l0 X h0 (f 1) I0 m0 K s
def vc_container_heap_up_ann : Nat → List Nat := fun k => cond (Nat.beq k 0) [1] ([])
theorem vc_container_heap_up_eq (X : Told) (h0 : AVal) (j1 : AVal) (K : AVal → Heap → Prop) (s : Heap) : wpC Try.prog X vc_container_heap_up_ann Try.f85.ntmps none (bodyOf Try.f85) (envOf [h0, j1]) (fun e env s => retK e (resK Try.prog Try.f85.results.toList env (fun vs => K (oneV vs) s) s)) s = vc_container_heap_up X h0 j1 K s := by kernel_rfl
theorem vc_container_heap_up_ok {X : Told} (hX : FrX X) (hn : X 85 = none) {h0 : AVal} {j1 : AVal} {K : AVal → Heap → Prop} {s : Heap} (h : vc_container_heap_up X h0 j1 K s) : wpCall Try.prog X 85 [h0, j1] K s :=
  wpCall_code hX vc_container_heap_up_ann hn Try.func85 (by kernel_rfl : Try.f85.body = some (bodyOf Try.f85)) (by kernel_rfl) ((vc_container_heap_up_eq X h0 j1 K s).mpr h)
theorem vc_container_heap_up_in {h0 : AVal} {j1 : AVal} {K : AVal → Heap → Prop} {s : Heap} (h : vc_container_heap_up XX h0 j1 K s) : wpCall Try.prog XX 85 [h0, j1] K s := vc_container_heap_up_ok XX_fr rfl h
/-- leafmesh/spf.enabled[leafmesh/api.Link]$1 (86) -/
def vc_spf_enabled_api_Link__1_j1 (X : Told) (t8 : AVal) (t17 : AVal) (t22 : AVal) (I0 : List AVal → Heap → Nat → Prop) (m0 : Nat) (K : AVal → Heap → Prop) (s : Heap) : Prop :=
  optK (pickV t17 t22 (.bool false)) fun v_12 =>
  boolK v_12
   (K (.tup []) s)
   (optK (arithV .add t8 (.int .i64 1)) fun v_13 =>
    ∃ m', m' < m0 ∧ I0 [v_13] s m')
def vc_spf_enabled_api_Link__1_l0 (X : Told) (yield0 : AVal) (t2 : AVal) (t6 : AVal) (t7 : AVal) (t8 : AVal) (I0 : List AVal → Heap → Nat → Prop) (m0 : Nat) (K : AVal → Heap → Prop) (s : Heap) : Prop :=
  optK (arithV .lss t8 t7) fun v_3 =>
  boolK v_3
   (optK (iaddrS 3 t6 t8) fun v_4 =>
    optK (rdN s 3 v_4) fun v_5 =>
    newK 27 [(.int .i64 0), (.int .i64 0), (.int .i64 0)] (fun b_6 s_7 =>
    optK (wrAgg s_7 3 (.ptr b_6 0) (.agg v_5)) fun s_8 =>
    optK (rd1 s_8 t2) fun v_9 =>
    optK (iaddrS 1 v_9 t8) fun v_10 =>
    optK (rd1 s_8 v_10) fun v_11 =>
    boolK v_11
     (optK (rdN s_8 3 (.ptr b_6 0)) fun v_14 =>
      funK Try.prog X yield0 [t8, (.agg v_14)] (fun v_15 s_16 =>
      optK (unaryA .not v_15) fun v_17 =>
      vc_spf_enabled_api_Link__1_j1 X t8 v_11 v_17 I0 m0 K s_16) s_8)
     (vc_spf_enabled_api_Link__1_j1 X t8 v_11 .undef I0 m0 K s_8)) s)
   (K (.tup []) s)
def vc_spf_enabled_api_Link__1 (X : Told) (yield0 : AVal) (t1 : AVal) (t2 : AVal) (K : AVal → Heap → Prop) (s : Heap) : Prop :=
  optK (rd1 s t1) fun v_0 =>
  optK (lenOfA v_0) fun v_1 =>
  ∃ I0 : List AVal → Heap → Nat → Prop, (∃ m, I0 [(.int .i64 0)] s m) ∧ ∀ (f : Env) (s : Heap) (m0 : Nat), I0 [f 8] s m0 →
    vc_spf_enabled_api_Link__1_l0 X yield0 t2 v_0 (.int .i64 v_1) (f 8) I0 m0 K s
def vc_spf_enabled_api_Link__1_ann : Nat → List Nat := fun k => cond (Nat.beq k 2) [8] ([])
theorem vc_spf_enabled_api_Link__1_eq (X : Told) (yield0 : AVal) (t1 : AVal) (t2 : AVal) (K : AVal → Heap → Prop) (s : Heap) : wpC Try.prog X vc_spf_enabled_api_Link__1_ann Try.f86.ntmps none (bodyOf Try.f86) (envOf [yield0, t1, t2]) (fun e env s => retK e (resK Try.prog Try.f86.results.toList env (fun vs => K (oneV vs) s) s)) s = vc_spf_enabled_api_Link__1 X yield0 t1 t2 K s := by kernel_rfl
theorem vc_spf_enabled_api_Link__1_ok {X : Told} (hX : FrX X) (hn : X 86 = none) {yield0 : AVal} {t1 : AVal} {t2 : AVal} {K : AVal → Heap → Prop} {s : Heap} (h : vc_spf_enabled_api_Link__1 X yield0 t1 t2 K s) : wpCall Try.prog X 86 [yield0, t1, t2] K s :=
  wpCall_code hX vc_spf_enabled_api_Link__1_ann hn Try.func86 (by kernel_rfl : Try.f86.body = some (bodyOf Try.f86)) (by kernel_rfl) ((vc_spf_enabled_api_Link__1_eq X yield0 t1 t2 K s).mpr h)
theorem vc_spf_enabled_api_Link__1_in {yield0 : AVal} {t1 : AVal} {t2 : AVal} {K : AVal → Heap → Prop} {s : Heap} (h : vc_spf_enabled_api_Link__1 XX yield0 t1 t2 K s) : wpCall Try.prog XX 86 [yield0, t1, t2] K s := vc_spf_enabled_api_Link__1_ok XX_fr rfl h
/-- (leafmesh/spf.queue).Less (117) -/
def vc_spf_queue_Less (X : Told) (q0 : AVal) (i1 : AVal) (j2 : AVal) (K : AVal → Heap → Prop) (s : Heap) : Prop :=
  optK (iaddrS 2 q0 i1) fun v_0 =>
  optK (addOff 1 v_0) fun v_1 =>
  optK (rd1 s v_1) fun v_2 =>
  optK (iaddrS 2 q0 j2) fun v_3 =>
  optK (addOff 1 v_3) fun v_4 =>
  optK (rd1 s v_4) fun v_5 =>
  optK (arithV .lss v_2 v_5) fun v_6 =>
  K v_6 s
def vc_spf_queue_Less_ann : Nat → List Nat := fun _ => []
theorem vc_spf_queue_Less_eq (X : Told) (q0 : AVal) (i1 : AVal) (j2 : AVal) (K : AVal → Heap → Prop) (s : Heap) : wpC Try.prog X vc_spf_queue_Less_ann Try.f117.ntmps none (bodyOf Try.f117) (envOf [q0, i1, j2]) (fun e env s => retK e (resK Try.prog Try.f117.results.toList env (fun vs => K (oneV vs) s) s)) s = vc_spf_queue_Less X q0 i1 j2 K s := by kernel_rfl
theorem vc_spf_queue_Less_ok {X : Told} (hX : FrX X) (hn : X 117 = none) {q0 : AVal} {i1 : AVal} {j2 : AVal} {K : AVal → Heap → Prop} {s : Heap} (h : vc_spf_queue_Less X q0 i1 j2 K s) : wpCall Try.prog X 117 [q0, i1, j2] K s :=
  wpCall_code hX vc_spf_queue_Less_ann hn Try.func117 (by kernel_rfl : Try.f117.body = some (bodyOf Try.f117)) (by kernel_rfl) ((vc_spf_queue_Less_eq X q0 i1 j2 K s).mpr h)
theorem vc_spf_queue_Less_in {q0 : AVal} {i1 : AVal} {j2 : AVal} {K : AVal → Heap → Prop} {s : Heap} (h : vc_spf_queue_Less XX q0 i1 j2 K s) : wpCall Try.prog XX 117 [q0, i1, j2] K s := vc_spf_queue_Less_ok XX_fr rfl h
/-- (*leafmesh/spf.queue).Pop (118) -/
def vc_spf_queue_Pop (X : Told) (q0 : AVal) (K : AVal → Heap → Prop) (s : Heap) : Prop :=
  optK (nilCheckA q0) fun v_0 =>
  optK (rd1 s v_0) fun v_1 =>
  optK (lenOfA v_1) fun v_2 =>
  optK (arithV .sub (.int .i64 v_2) (.int .i64 1)) fun v_4 =>
  optK (nilCheckA q0) fun v_5 =>
  optK (rd1 s v_5) fun v_6 =>
  optK (iaddrS 2 v_6 v_4) fun v_7 =>
  optK (rdN s 2 v_7) fun v_8 =>
  newK 132 [(.int .i64 0), (.int .i64 0)] (fun b_9 s_10 =>
  optK (wrAgg s_10 2 (.ptr b_9 0) (.agg v_8)) fun s_11 =>
  optK (nilCheckA q0) fun v_12 =>
  optK (rd1 s_11 v_12) fun v_13 =>
  optK (sliceS 2 v_13 none (some v_4) none) fun v_14 =>
  optK (nilCheckA q0) fun v_15 =>
  optK (wr1 s_11 v_15 v_14) fun s_16 =>
  optK (rdN s_16 2 (.ptr b_9 0)) fun v_17 =>
  K (.ifc 132 (.agg v_17)) s_16) s
def vc_spf_queue_Pop_ann : Nat → List Nat := fun _ => []
theorem vc_spf_queue_Pop_eq (X : Told) (q0 : AVal) (K : AVal → Heap → Prop) (s : Heap) : wpC Try.prog X vc_spf_queue_Pop_ann Try.f118.ntmps none (bodyOf Try.f118) (envOf [q0]) (fun e env s => retK e (resK Try.prog Try.f118.results.toList env (fun vs => K (oneV vs) s) s)) s = vc_spf_queue_Pop X q0 K s := by kernel_rfl
theorem vc_spf_queue_Pop_ok {X : Told} (hX : FrX X) (hn : X 118 = none) {q0 : AVal} {K : AVal → Heap → Prop} {s : Heap} (h : vc_spf_queue_Pop X q0 K s) : wpCall Try.prog X 118 [q0] K s :=
  wpCall_code hX vc_spf_queue_Pop_ann hn Try.func118 (by kernel_rfl : Try.f118.body = some (bodyOf Try.f118)) (by kernel_rfl) ((vc_spf_queue_Pop_eq X q0 K s).mpr h)
theorem vc_spf_queue_Pop_in {q0 : AVal} {K : AVal → Heap → Prop} {s : Heap} (h : vc_spf_queue_Pop XX q0 K s) : wpCall Try.prog XX 118 [q0] K s := vc_spf_queue_Pop_ok XX_fr rfl h
/-- (*leafmesh/spf.queue).Push (119) -/
def vc_spf_queue_Push (X : Told) (q0 : AVal) (x1 : AVal) (K : AVal → Heap → Prop) (s : Heap) : Prop :=
  optK (tassV 132 (some (.agg [(.int .i64 0), (.int .i64 0)])) true x1) fun v_0 =>
  optK (extractA v_0 0) fun v_1 =>
  optK (extractA v_0 1) fun v_2 =>
  newK 132 [(.int .i64 0), (.int .i64 0)] (fun b_3 s_4 =>
  optK (wrAgg s_4 2 (.ptr b_3 0) v_1) fun s_5 =>
  boolK v_2
   (optK (nilCheckA q0) fun v_6 =>
    optK (rd1 s_5 v_6) fun v_7 =>
    optK (rdN s_5 2 (.ptr b_3 0)) fun v_8 =>
    optK (fillR (repl 1 [(.int .i64 0), (.int .i64 0)]) [(0, 2, (.agg v_8))]) fun c_9 => allOne c_9 = true ∧ newK 132 c_9 (fun b_10 s_11 =>
    (∀ b, s_5 b ≠ none → s_5 b = none → s_11 b = none) →
    appK 132 2 v_7 (.slc b_10 0 1 (some 1) 2) (fun v_12 s_13 =>
    optK (nilCheckA q0) fun v_14 =>
    optK (wr1 s_13 v_14 v_12) fun s_15 =>
    K (.tup []) s_15) (add s_5 s_11)) (frz s_5))
   (K (.tup []) s_5)) s
def vc_spf_queue_Push_ann : Nat → List Nat := fun _ => []
theorem vc_spf_queue_Push_eq (X : Told) (q0 : AVal) (x1 : AVal) (K : AVal → Heap → Prop) (s : Heap) : wpC Try.prog X vc_spf_queue_Push_ann Try.f119.ntmps none (bodyOf Try.f119) (envOf [q0, x1]) (fun e env s => retK e (resK Try.prog Try.f119.results.toList env (fun vs => K (oneV vs) s) s)) s = vc_spf_queue_Push X q0 x1 K s := by kernel_rfl
theorem vc_spf_queue_Push_ok {X : Told} (hX : FrX X) (hn : X 119 = none) {q0 : AVal} {x1 : AVal} {K : AVal → Heap → Prop} {s : Heap} (h : vc_spf_queue_Push X q0 x1 K s) : wpCall Try.prog X 119 [q0, x1] K s :=
  wpCall_code hX vc_spf_queue_Push_ann hn Try.func119 (by kernel_rfl : Try.f119.body = some (bodyOf Try.f119)) (by kernel_rfl) ((vc_spf_queue_Push_eq X q0 x1 K s).mpr h)
theorem vc_spf_queue_Push_in {q0 : AVal} {x1 : AVal} {K : AVal → Heap → Prop} {s : Heap} (h : vc_spf_queue_Push XX q0 x1 K s) : wpCall Try.prog XX 119 [q0, x1] K s := vc_spf_queue_Push_ok XX_fr rfl h
/-- (leafmesh/spf.queue).Swap (120) -/
def vc_spf_queue_Swap (X : Told) (q0 : AVal) (i1 : AVal) (j2 : AVal) (K : AVal → Heap → Prop) (s : Heap) : Prop :=
  optK (iaddrS 2 q0 j2) fun v_0 =>
  optK (rdN s 2 v_0) fun v_1 =>
  optK (iaddrS 2 q0 i1) fun v_2 =>
  optK (rdN s 2 v_2) fun v_3 =>
  optK (iaddrS 2 q0 i1) fun v_4 =>
  optK (wrAgg s 2 v_4 (.agg v_1)) fun s_5 =>
  optK (iaddrS 2 q0 j2) fun v_6 =>
  optK (wrAgg s_5 2 v_6 (.agg v_3)) fun s_7 =>
  K (.tup []) s_7
def vc_spf_queue_Swap_ann : Nat → List Nat := fun _ => []
theorem vc_spf_queue_Swap_eq (X : Told) (q0 : AVal) (i1 : AVal) (j2 : AVal) (K : AVal → Heap → Prop) (s : Heap) : wpC Try.prog X vc_spf_queue_Swap_ann Try.f120.ntmps none (bodyOf Try.f120) (envOf [q0, i1, j2]) (fun e env s => retK e (resK Try.prog Try.f120.results.toList env (fun vs => K (oneV vs) s) s)) s = vc_spf_queue_Swap X q0 i1 j2 K s := by kernel_rfl
theorem vc_spf_queue_Swap_ok {X : Told} (hX : FrX X) (hn : X 120 = none) {q0 : AVal} {i1 : AVal} {j2 : AVal} {K : AVal → Heap → Prop} {s : Heap} (h : vc_spf_queue_Swap X q0 i1 j2 K s) : wpCall Try.prog X 120 [q0, i1, j2] K s :=
  wpCall_code hX vc_spf_queue_Swap_ann hn Try.func120 (by kernel_rfl : Try.f120.body = some (bodyOf Try.f120)) (by kernel_rfl) ((vc_spf_queue_Swap_eq X q0 i1 j2 K s).mpr h)
theorem vc_spf_queue_Swap_in {q0 : AVal} {i1 : AVal} {j2 : AVal} {K : AVal → Heap → Prop} {s : Heap} (h : vc_spf_queue_Swap XX q0 i1 j2 K s) : wpCall Try.prog XX 120 [q0, i1, j2] K s := vc_spf_queue_Swap_ok XX_fr rfl h
end Go.AM
set_option linter.unusedVariables false
namespace Go.AM
open Go Go.Proofs
set_option maxRecDepth 100000
/-- leafmesh/spf.edges (49) -/
def vw_spf_edges (X : Told) (nodes0 : AVal) (links1 : AVal) (up2 : AVal) (K : AVal → Heap → Prop) (s : Heap) : Prop :=
  optK (nat? nodes0) fun n_0 => optK (nat? nodes0) fun n_1 => (n_0 ≤ n_1 ∧ n_1 ≤ 4294967296) ∧ newK 103 (repl n_1 [.nilslc]) (fun b_2 s_3 =>
  newK 101 [.nilslc] (fun b_4 s_5 =>
  optK (wr1 s_5 (.ptr b_4 0) (.slc b_2 0 n_0 (some n_1) 1)) fun s_6 =>
  wpCall Try.prog X 75 [links1, up2] (fun v_7 s_8 =>
  rngK Try.prog X 52 none v_7 [(7, (.ptr b_4 0))] [15, 16] (rfAs 0 (bodyOf Try.f49)) (rfBo 0 (bodyOf Try.f49)) (fun s_9 =>
    optK (rd1 s_9 (.ptr b_4 0)) fun v_11 =>
    K v_11 s_9)
   (fun s_10 =>
    K .nilslc s_10)
   (fun id s_12 =>
    cond (Nat.beq id 0)
     (optK (rd1 s_12 (.ptr b_4 0)) fun v_13 =>
      K v_13 s_12)
     (False)) s_8) s_6) s_3) s
def vw_spf_edges_ann : Nat → List Nat := fun k => cond (Nat.beq k 11) [7] (cond (Nat.beq k 1000017) [15] (cond (Nat.beq k 1000034) [15] ([])))
theorem vw_spf_edges_eq (X : Told) (nodes0 : AVal) (links1 : AVal) (up2 : AVal) (K : AVal → Heap → Prop) (s : Heap) : wpC Try.prog X vw_spf_edges_ann Try.f49.ntmps none (bodyOf Try.f49) (envOf [nodes0, links1, up2]) (fun e env s => retK e (resK Try.prog Try.f49.results.toList env (fun vs => K (oneV vs) s) s)) s = vw_spf_edges X nodes0 links1 up2 K s := by kernel_rfl
theorem vw_spf_edges_ok {X : Told} (hX : FrX X) (hn : X 49 = none) {nodes0 : AVal} {links1 : AVal} {up2 : AVal} {K : AVal → Heap → Prop} {s : Heap} (h : vw_spf_edges X nodes0 links1 up2 K s) : wpCall Try.prog X 49 [nodes0, links1, up2] K s :=
  wpCall_code hX vw_spf_edges_ann hn Try.func49 (by kernel_rfl : Try.f49.body = some (bodyOf Try.f49)) (by kernel_rfl) ((vw_spf_edges_eq X nodes0 links1 up2 K s).mpr h)
theorem vw_spf_edges_in {nodes0 : AVal} {links1 : AVal} {up2 : AVal} {K : AVal → Heap → Prop} {s : Heap} (h : vw_spf_edges XX nodes0 links1 up2 K s) : wpCall Try.prog XX 49 [nodes0, links1, up2] K s := vw_spf_edges_ok XX_fr rfl h
def vw_spf_edges_r0 (X : Told) (l : Nat) (all7 : AVal) (t15 : AVal) (t16 : AVal) (E : AExit → Heap → Prop) (s : Heap) : Prop :=
  newK 27 [(.int .i64 0), (.int .i64 0), (.int .i64 0)] (fun b_0 s_1 =>
  optK (wrAgg s_1 3 (.ptr b_0 0) t16) fun s_2 =>
  AExit.nrm = .nrm ∧ beginK l (fun s_3 =>
  optK (rd1 s_3 all7) fun v_4 =>
  optK (addOff 0 (.ptr b_0 0)) fun v_5 =>
  optK (rd1 s_3 v_5) fun v_6 =>
  optK (rd1 s_3 all7) fun v_7 =>
  optK (addOff 0 (.ptr b_0 0)) fun v_8 =>
  optK (rd1 s_3 v_8) fun v_9 =>
  optK (iaddrS 1 v_7 v_9) fun v_10 =>
  optK (rd1 s_3 v_10) fun v_11 =>
  optK (addOff 1 (.ptr b_0 0)) fun v_12 =>
  optK (rd1 s_3 v_12) fun v_13 =>
  optK (addOff 2 (.ptr b_0 0)) fun v_14 =>
  optK (rd1 s_3 v_14) fun v_15 =>
  optK (fillR [(.int .i64 0), (.int .i64 0), (.int .i64 0)] [(0, 1, t15), (1, 1, v_13), (2, 1, v_15)]) fun c_16 =>
  optK (fillR (repl 1 [(.int .i64 0), (.int .i64 0), (.int .i64 0)]) [(0, 3, (.agg c_16))]) fun c_17 => allOne c_17 = true ∧ newK 106 c_17 (fun b_18 s_19 =>
  (∀ b, s_3 b ≠ none → s_3 b = none → s_19 b = none) →
  ∃ h_20 : Heap, (∀ b, h_20 b ≠ none → (add s_3 s_19) b ≠ none) ∧
  appK 106 3 v_11 (.slc b_18 0 1 (some 1) 3) (fun v_21 s_22 =>
  (∀ b, (add s_3 s_19) b ≠ none → (cutH [((hdel s_3 (blkOf all7)), s_3), ((hdel s_3 (blkOf v_5)), s_3)] (minus (add s_3 s_19) h_20)) b = none → s_22 b = none) →
  optK (iaddrS 1 v_4 v_6) fun v_23 =>
  optK (wr1 (add s_22 (rest (add s_3 s_19) (cutH [((hdel s_3 (blkOf all7)), s_3), ((hdel s_3 (blkOf v_5)), s_3)] (minus (add s_3 s_19) h_20)))) v_23 v_21) fun s_24 =>
  optK (rd1 s_24 all7) fun v_25 =>
  optK (addOff 1 (.ptr b_0 0)) fun v_26 =>
  optK (rd1 s_24 v_26) fun v_27 =>
  optK (rd1 s_24 all7) fun v_28 =>
  optK (addOff 1 (.ptr b_0 0)) fun v_29 =>
  optK (rd1 s_24 v_29) fun v_30 =>
  optK (iaddrS 1 v_28 v_30) fun v_31 =>
  optK (rd1 s_24 v_31) fun v_32 =>
  optK (addOff 0 (.ptr b_0 0)) fun v_33 =>
  optK (rd1 s_24 v_33) fun v_34 =>
  optK (addOff 2 (.ptr b_0 0)) fun v_35 =>
  optK (rd1 s_24 v_35) fun v_36 =>
  optK (fillR [(.int .i64 0), (.int .i64 0), (.int .i64 0)] [(0, 1, t15), (1, 1, v_34), (2, 1, v_36)]) fun c_37 =>
  optK (fillR (repl 1 [(.int .i64 0), (.int .i64 0), (.int .i64 0)]) [(0, 3, (.agg c_37))]) fun c_38 => allOne c_38 = true ∧ newK 106 c_38 (fun b_39 s_40 =>
  (∀ b, s_24 b ≠ none → s_24 b = none → s_40 b = none) →
  ∃ h_41 : Heap, (∀ b, h_41 b ≠ none → (add s_24 s_40) b ≠ none) ∧
  appK 106 3 v_32 (.slc b_39 0 1 (some 1) 3) (fun v_42 s_43 =>
  (∀ b, (add s_24 s_40) b ≠ none → (cutH [((hdel s_24 (blkOf all7)), s_24), ((hdel s_24 (blkOf v_26)), s_24)] (minus (add s_24 s_40) h_41)) b = none → s_43 b = none) →
  optK (iaddrS 1 v_25 v_27) fun v_44 =>
  optK (wr1 (add s_43 (rest (add s_24 s_40) (cutH [((hdel s_24 (blkOf all7)), s_24), ((hdel s_24 (blkOf v_26)), s_24)] (minus (add s_24 s_40) h_41)))) v_44 v_42) fun s_45 =>
  E .nrm s_45) (cutH [((hdel s_24 (blkOf all7)), s_24), ((hdel s_24 (blkOf v_26)), s_24)] (minus (add s_24 s_40) h_41))) (frz s_24)) (cutH [((hdel s_3 (blkOf all7)), s_3), ((hdel s_3 (blkOf v_5)), s_3)] (minus (add s_3 s_19) h_20))) (frz s_3)) s_2) s
theorem vw_spf_edges_r0_eq (X : Told) (l : Nat) (f : Env) (t15 : AVal) (t16 : AVal) (E : AExit → Heap → Prop) (s : Heap) : wpC Try.prog X vw_spf_edges_ann Try.f49.ntmps (some l) (rfAs 0 (bodyOf Try.f49)) (setE f [15, 16] [t15, t16]) (fun e env s => e = .nrm ∧ beginK l (fun s => wpC Try.prog X vw_spf_edges_ann Try.f49.ntmps (some l) (rfBo 0 (bodyOf Try.f49)) env (fun e _ s => E e s) s) s) s = vw_spf_edges_r0 X l (f 7) t15 t16 E s := by kernel_rfl
theorem vw_spf_edges_r0_in {l : Nat} {t : Bool} {st : LoopState} {pd : Option Code} {d : Nat} {all7 : AVal} {t15 : AVal} {t16 : AVal} {K : AVal → Heap → Prop} {s : Heap} (hs : s l = some (t, .loop st pd 52 [(7, all7)] [15, 16] (rfAs 0 (bodyOf Try.f49)) (rfBo 0 (bodyOf Try.f49)) d)) (h : vw_spf_edges_r0 XX l all7 t15 t16 (fun e s => endK l e K s) s) : wpRound Try.prog XX l [t15, t16] K s :=
  wpRound_ok XX_fr vw_spf_edges_ann hs rfl rfl fun f hf => by
    refine (vw_spf_edges_r0_eq XX l f t15 t16 (fun e s => endK l e K s) s).mpr ?_
    rw [show f 7 = all7 from hf (7, all7) (by simp)]
    exact h
end Go.AM
