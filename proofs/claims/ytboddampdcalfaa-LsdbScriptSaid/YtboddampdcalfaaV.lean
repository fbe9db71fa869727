/- Part V of a calculus over a small memory that is proved to answer as the program does, and of its use for the functions that the law reaches: see the last part. -/
import Derived.Test.YtboddampdcalfaaU2
import Derived.Test.YtboddampdcalfaaProg
import Derived.KernelRfl
import Derived.Test.YtboddampdcalfaaU1
set_option linter.unusedVariables false
namespace Go.AM
open Go Go.Proofs
set_option maxRecDepth 100000
abbrev XX : Told := toldM 3 52 [(53, 66, 79)] [10,4]
theorem XX_fr : FrX XX := toldM_fr _ _ _ _
/-- leafmesh/leafmeshkit.Own[int] (11) -/
def vc_leafmeshkit_Own_int_ (X : Told) (l0 : AVal) (K : AVal → Heap → Prop) (s : Heap) : Prop :=
  optK (fillR (repl 0 [(.int .i64 0)]) []) fun c_0 => allOne c_0 = true ∧ newK 3 c_0 (fun b_1 s_2 =>
  appK 3 1 (.slc b_1 0 0 (some 0) 1) l0 (fun v_3 s_4 =>
  K v_3 s_4) s_2) s
def vc_leafmeshkit_Own_int__ann : Nat → List Nat := fun _ => []
theorem vc_leafmeshkit_Own_int__eq (X : Told) (l0 : AVal) (K : AVal → Heap → Prop) (s : Heap) : wpC Try.prog X vc_leafmeshkit_Own_int__ann Try.f11.ntmps none (bodyOf Try.f11) (envOf [l0]) (fun e env s => retK e (resK Try.prog Try.f11.results.toList env (fun vs => K (oneV vs) s) s)) s = vc_leafmeshkit_Own_int_ X l0 K s := by kernel_rfl
theorem vc_leafmeshkit_Own_int__ok {X : Told} (hX : FrX X) (hn : X 11 = none) {l0 : AVal} {K : AVal → Heap → Prop} {s : Heap} (h : vc_leafmeshkit_Own_int_ X l0 K s) : wpCall Try.prog X 11 [l0] K s :=
  wpCall_code hX vc_leafmeshkit_Own_int__ann hn Try.func11 (by kernel_rfl : Try.f11.body = some (bodyOf Try.f11)) (by kernel_rfl) ((vc_leafmeshkit_Own_int__eq X l0 K s).mpr h)
theorem vc_leafmeshkit_Own_int__in {l0 : AVal} {K : AVal → Heap → Prop} {s : Heap} (h : vc_leafmeshkit_Own_int_ XX l0 K s) : wpCall Try.prog XX 11 [l0] K s := vc_leafmeshkit_Own_int__ok XX_fr rfl h
/-- leafmesh/lsdb.Check (12) -/
def vc_lsdb_Check_j2 (X : Told) (r3 : AVal) (t19 : AVal) (t22 : AVal) (K : AVal → Heap → Prop) (s : Heap) : Prop :=
  optK (pickV t19 (.bool true) t22) fun v_7 =>
  boolK v_7
   (K (.int .i64 2) s)
   (optK (addOff 2 r3) fun v_8 =>
    optK (rd1 s v_8) fun v_9 =>
    wpCall Try.prog X 45 [v_9] (fun v_10 s_11 =>
    K v_10 s_11) s)
def vc_lsdb_Check_j1 (X : Told) (r3 : AVal) (t14 : AVal) (t17 : AVal) (K : AVal → Heap → Prop) (s : Heap) : Prop :=
  optK (pickV t14 (.bool true) t17) fun v_6 =>
  boolK v_6
   (vc_lsdb_Check_j2 X r3 v_6 .undef K s)
   (optK (addOff 1 r3) fun v_12 =>
    optK (rd1 s v_12) fun v_13 =>
    optK (arithV .gtr v_13 (.int .i64 1073741824)) fun v_14 =>
    vc_lsdb_Check_j2 X r3 v_6 v_14 K s)
def vc_lsdb_Check_j0 (X : Told) (r3 : AVal) (t8 : AVal) (t12 : AVal) (K : AVal → Heap → Prop) (s : Heap) : Prop :=
  optK (pickV t8 (.bool true) t12) fun v_5 =>
  boolK v_5
   (vc_lsdb_Check_j1 X r3 v_5 .undef K s)
   (optK (addOff 1 r3) fun v_15 =>
    optK (rd1 s v_15) fun v_16 =>
    optK (arithV .lss v_16 (.int .i64 1)) fun v_17 =>
    vc_lsdb_Check_j1 X r3 v_5 v_17 K s)
def vc_lsdb_Check (X : Told) (nodes0 : AVal) (r1 : AVal) (K : AVal → Heap → Prop) (s : Heap) : Prop :=
  boxK 24 r1 (fun b_0 s_1 =>
  optK (addOff 0 b_0) fun v_2 =>
  optK (rd1 s_1 v_2) fun v_3 =>
  optK (arithV .lss v_3 (.int .i64 0)) fun v_4 =>
  boolK v_4
   (vc_lsdb_Check_j0 X b_0 v_4 .undef K s_1)
   (optK (addOff 0 b_0) fun v_18 =>
    optK (rd1 s_1 v_18) fun v_19 =>
    optK (arithV .geq v_19 nodes0) fun v_20 =>
    vc_lsdb_Check_j0 X b_0 v_4 v_20 K s_1)) s
def vc_lsdb_Check_ann : Nat → List Nat := fun _ => []
theorem vc_lsdb_Check_eq (X : Told) (nodes0 : AVal) (r1 : AVal) (K : AVal → Heap → Prop) (s : Heap) : wpC Try.prog X vc_lsdb_Check_ann Try.f12.ntmps none (bodyOf Try.f12) (envOf [nodes0, r1]) (fun e env s => retK e (resK Try.prog Try.f12.results.toList env (fun vs => K (oneV vs) s) s)) s = vc_lsdb_Check X nodes0 r1 K s := by kernel_rfl
theorem vc_lsdb_Check_ok {X : Told} (hX : FrX X) (hn : X 12 = none) {nodes0 : AVal} {r1 : AVal} {K : AVal → Heap → Prop} {s : Heap} (h : vc_lsdb_Check X nodes0 r1 K s) : wpCall Try.prog X 12 [nodes0, r1] K s :=
  wpCall_code hX vc_lsdb_Check_ann hn Try.func12 (by kernel_rfl : Try.f12.body = some (bodyOf Try.f12)) (by kernel_rfl) ((vc_lsdb_Check_eq X nodes0 r1 K s).mpr h)
theorem vc_lsdb_Check_in {nodes0 : AVal} {r1 : AVal} {K : AVal → Heap → Prop} {s : Heap} (h : vc_lsdb_Check XX nodes0 r1 K s) : wpCall Try.prog XX 12 [nodes0, r1] K s := vc_lsdb_Check_ok XX_fr rfl h
/-- leafmesh/leafmeshref13.Check (13) -/
def vc_leafmeshref13_Check_j2 (X : Told) (r3 : AVal) (t19 : AVal) (t22 : AVal) (K : AVal → Heap → Prop) (s : Heap) : Prop :=
  optK (pickV t19 (.bool true) t22) fun v_7 =>
  boolK v_7
   (K (.int .i64 2) s)
   (optK (addOff 2 r3) fun v_8 =>
    optK (rd1 s v_8) fun v_9 =>
    wpCall Try.prog X 46 [v_9] (fun v_10 s_11 =>
    K v_10 s_11) s)
def vc_leafmeshref13_Check_j1 (X : Told) (r3 : AVal) (t14 : AVal) (t17 : AVal) (K : AVal → Heap → Prop) (s : Heap) : Prop :=
  optK (pickV t14 (.bool true) t17) fun v_6 =>
  boolK v_6
   (vc_leafmeshref13_Check_j2 X r3 v_6 .undef K s)
   (optK (addOff 1 r3) fun v_12 =>
    optK (rd1 s v_12) fun v_13 =>
    optK (arithV .gtr v_13 (.int .i64 1073741824)) fun v_14 =>
    vc_leafmeshref13_Check_j2 X r3 v_6 v_14 K s)
def vc_leafmeshref13_Check_j0 (X : Told) (r3 : AVal) (t8 : AVal) (t12 : AVal) (K : AVal → Heap → Prop) (s : Heap) : Prop :=
  optK (pickV t8 (.bool true) t12) fun v_5 =>
  boolK v_5
   (vc_leafmeshref13_Check_j1 X r3 v_5 .undef K s)
   (optK (addOff 1 r3) fun v_15 =>
    optK (rd1 s v_15) fun v_16 =>
    optK (arithV .lss v_16 (.int .i64 1)) fun v_17 =>
    vc_leafmeshref13_Check_j1 X r3 v_5 v_17 K s)
def vc_leafmeshref13_Check (X : Told) (nodes0 : AVal) (r1 : AVal) (K : AVal → Heap → Prop) (s : Heap) : Prop :=
  boxK 24 r1 (fun b_0 s_1 =>
  optK (addOff 0 b_0) fun v_2 =>
  optK (rd1 s_1 v_2) fun v_3 =>
  optK (arithV .lss v_3 (.int .i64 0)) fun v_4 =>
  boolK v_4
   (vc_leafmeshref13_Check_j0 X b_0 v_4 .undef K s_1)
   (optK (addOff 0 b_0) fun v_18 =>
    optK (rd1 s_1 v_18) fun v_19 =>
    optK (arithV .geq v_19 nodes0) fun v_20 =>
    vc_leafmeshref13_Check_j0 X b_0 v_4 v_20 K s_1)) s
def vc_leafmeshref13_Check_ann : Nat → List Nat := fun _ => []
theorem vc_leafmeshref13_Check_eq (X : Told) (nodes0 : AVal) (r1 : AVal) (K : AVal → Heap → Prop) (s : Heap) : wpC Try.prog X vc_leafmeshref13_Check_ann Try.f13.ntmps none (bodyOf Try.f13) (envOf [nodes0, r1]) (fun e env s => retK e (resK Try.prog Try.f13.results.toList env (fun vs => K (oneV vs) s) s)) s = vc_leafmeshref13_Check X nodes0 r1 K s := by kernel_rfl
theorem vc_leafmeshref13_Check_ok {X : Told} (hX : FrX X) (hn : X 13 = none) {nodes0 : AVal} {r1 : AVal} {K : AVal → Heap → Prop} {s : Heap} (h : vc_leafmeshref13_Check X nodes0 r1 K s) : wpCall Try.prog X 13 [nodes0, r1] K s :=
  wpCall_code hX vc_leafmeshref13_Check_ann hn Try.func13 (by kernel_rfl : Try.f13.body = some (bodyOf Try.f13)) (by kernel_rfl) ((vc_leafmeshref13_Check_eq X nodes0 r1 K s).mpr h)
theorem vc_leafmeshref13_Check_in {nodes0 : AVal} {r1 : AVal} {K : AVal → Heap → Prop} {s : Heap} (h : vc_leafmeshref13_Check XX nodes0 r1 K s) : wpCall Try.prog XX 13 [nodes0, r1] K s := vc_leafmeshref13_Check_ok XX_fr rfl h
/-- leafmesh/lsdb.Compare (14) -/
def vc_lsdb_Compare (X : Told) (a0 : AVal) (b1 : AVal) (K : AVal → Heap → Prop) (s : Heap) : Prop :=
  boxK 24 a0 (fun b_0 s_1 =>
  boxK 24 b1 (fun b_2 s_3 =>
  optK (addOff 1 b_0) fun v_4 =>
  optK (rd1 s_3 v_4) fun v_5 =>
  optK (addOff 1 b_2) fun v_6 =>
  optK (rd1 s_3 v_6) fun v_7 =>
  wpCall Try.prog X 48 [v_5, v_7] (fun v_8 s_9 =>
  (∀ b, s_3 b ≠ none → s_3 b = none → s_9 b = none) →
  optK (addOff 2 b_0) fun v_10 =>
  optK (rd1 (cutH [(s_3, (add s_3 s_9))] (add s_3 s_9)) v_10) fun v_11 =>
  optK (addOff 2 b_2) fun v_12 =>
  optK (rd1 (cutH [(s_3, (add s_3 s_9))] (add s_3 s_9)) v_12) fun v_13 =>
  wpCall Try.prog X 49 [v_11, v_13] (fun v_14 s_15 =>
  optK (fillR (repl 2 [(.int .i64 0)]) [(0, 1, v_8), (1, 1, v_14)]) fun c_16 => allOne c_16 = true ∧ newK 3 c_16 (fun b_17 s_18 =>
  wpCall Try.prog X 47 [(.slc b_17 0 2 (some 2) 1)] (fun v_19 s_20 =>
  K v_19 s_20) s_18) s_15) (add s_3 s_9)) (frz s_3)) s_1) s
def vc_lsdb_Compare_ann : Nat → List Nat := fun _ => []
theorem vc_lsdb_Compare_eq (X : Told) (a0 : AVal) (b1 : AVal) (K : AVal → Heap → Prop) (s : Heap) : wpC Try.prog X vc_lsdb_Compare_ann Try.f14.ntmps none (bodyOf Try.f14) (envOf [a0, b1]) (fun e env s => retK e (resK Try.prog Try.f14.results.toList env (fun vs => K (oneV vs) s) s)) s = vc_lsdb_Compare X a0 b1 K s := by kernel_rfl
theorem vc_lsdb_Compare_ok {X : Told} (hX : FrX X) (hn : X 14 = none) {a0 : AVal} {b1 : AVal} {K : AVal → Heap → Prop} {s : Heap} (h : vc_lsdb_Compare X a0 b1 K s) : wpCall Try.prog X 14 [a0, b1] K s :=
  wpCall_code hX vc_lsdb_Compare_ann hn Try.func14 (by kernel_rfl : Try.f14.body = some (bodyOf Try.f14)) (by kernel_rfl) ((vc_lsdb_Compare_eq X a0 b1 K s).mpr h)
theorem vc_lsdb_Compare_in {a0 : AVal} {b1 : AVal} {K : AVal → Heap → Prop} {s : Heap} (h : vc_lsdb_Compare XX a0 b1 K s) : wpCall Try.prog XX 14 [a0, b1] K s := vc_lsdb_Compare_ok XX_fr rfl h
/-- leafmesh/leafmeshref13.Compare (15) -/
def vc_leafmeshref13_Compare (X : Told) (a0 : AVal) (b1 : AVal) (K : AVal → Heap → Prop) (s : Heap) : Prop :=
  boxK 24 a0 (fun b_0 s_1 =>
  boxK 24 b1 (fun b_2 s_3 =>
  optK (addOff 1 b_0) fun v_4 =>
  optK (rd1 s_3 v_4) fun v_5 =>
  optK (addOff 1 b_2) fun v_6 =>
  optK (rd1 s_3 v_6) fun v_7 =>
  optK (arithV .lss v_5 v_7) fun v_8 =>
  boolK v_8
   (K (.int .i64 (-1)) s_3)
   (optK (addOff 1 b_0) fun v_9 =>
    optK (rd1 s_3 v_9) fun v_10 =>
    optK (addOff 1 b_2) fun v_11 =>
    optK (rd1 s_3 v_11) fun v_12 =>
    optK (arithV .gtr v_10 v_12) fun v_13 =>
    boolK v_13
     (K (.int .i64 1) s_3)
     (optK (addOff 2 b_0) fun v_14 =>
      optK (rd1 s_3 v_14) fun v_15 =>
      optK (addOff 2 b_2) fun v_16 =>
      optK (rd1 s_3 v_16) fun v_17 =>
      wpCall Try.prog X 50 [v_15, v_17] (fun v_18 s_19 =>
      K v_18 s_19) s_3))) s_1) s
def vc_leafmeshref13_Compare_ann : Nat → List Nat := fun _ => []
theorem vc_leafmeshref13_Compare_eq (X : Told) (a0 : AVal) (b1 : AVal) (K : AVal → Heap → Prop) (s : Heap) : wpC Try.prog X vc_leafmeshref13_Compare_ann Try.f15.ntmps none (bodyOf Try.f15) (envOf [a0, b1]) (fun e env s => retK e (resK Try.prog Try.f15.results.toList env (fun vs => K (oneV vs) s) s)) s = vc_leafmeshref13_Compare X a0 b1 K s := by kernel_rfl
theorem vc_leafmeshref13_Compare_ok {X : Told} (hX : FrX X) (hn : X 15 = none) {a0 : AVal} {b1 : AVal} {K : AVal → Heap → Prop} {s : Heap} (h : vc_leafmeshref13_Compare X a0 b1 K s) : wpCall Try.prog X 15 [a0, b1] K s :=
  wpCall_code hX vc_leafmeshref13_Compare_ann hn Try.func15 (by kernel_rfl : Try.f15.body = some (bodyOf Try.f15)) (by kernel_rfl) ((vc_leafmeshref13_Compare_eq X a0 b1 K s).mpr h)
theorem vc_leafmeshref13_Compare_in {a0 : AVal} {b1 : AVal} {K : AVal → Heap → Prop} {s : Heap} (h : vc_leafmeshref13_Compare XX a0 b1 K s) : wpCall Try.prog XX 15 [a0, b1] K s := vc_leafmeshref13_Compare_ok XX_fr rfl h
/-- leafmesh/leafmeshlaw13.equal (16) -/
def vc_leafmeshlaw13_equal_j1 (X : Told) (t17 : AVal) (t22 : AVal) (K : AVal → Heap → Prop) (s : Heap) : Prop :=
  optK (pickV t17 t22 (.bool false)) fun v_10 =>
  K v_10 s
def vc_leafmeshlaw13_equal_j0 (X : Told) (a2 : AVal) (b3 : AVal) (t10 : AVal) (t15 : AVal) (K : AVal → Heap → Prop) (s : Heap) : Prop :=
  optK (pickV t10 t15 (.bool false)) fun v_9 =>
  boolK v_9
   (optK (addOff 2 a2) fun v_11 =>
    optK (rd1 s v_11) fun v_12 =>
    optK (addOff 2 b3) fun v_13 =>
    optK (rd1 s v_13) fun v_14 =>
    wpCall Try.prog X 34 [v_12, v_14] (fun v_15 s_16 =>
    vc_leafmeshlaw13_equal_j1 X v_9 v_15 K s_16) s)
   (vc_leafmeshlaw13_equal_j1 X v_9 .undef K s)
def vc_leafmeshlaw13_equal (X : Told) (a0 : AVal) (b1 : AVal) (K : AVal → Heap → Prop) (s : Heap) : Prop :=
  boxK 24 a0 (fun b_0 s_1 =>
  boxK 24 b1 (fun b_2 s_3 =>
  optK (addOff 0 b_0) fun v_4 =>
  optK (rd1 s_3 v_4) fun v_5 =>
  optK (addOff 0 b_2) fun v_6 =>
  optK (rd1 s_3 v_6) fun v_7 =>
  optK (negB false (eqV 0 false v_5 v_7)) fun v_8 =>
  boolK v_8
   (optK (addOff 1 b_0) fun v_17 =>
    optK (rd1 s_3 v_17) fun v_18 =>
    optK (addOff 1 b_2) fun v_19 =>
    optK (rd1 s_3 v_19) fun v_20 =>
    optK (negB false (eqV 0 false v_18 v_20)) fun v_21 =>
    vc_leafmeshlaw13_equal_j0 X b_0 b_2 v_8 v_21 K s_3)
   (vc_leafmeshlaw13_equal_j0 X b_0 b_2 v_8 .undef K s_3)) s_1) s
def vc_leafmeshlaw13_equal_ann : Nat → List Nat := fun _ => []
theorem vc_leafmeshlaw13_equal_eq (X : Told) (a0 : AVal) (b1 : AVal) (K : AVal → Heap → Prop) (s : Heap) : wpC Try.prog X vc_leafmeshlaw13_equal_ann Try.f16.ntmps none (bodyOf Try.f16) (envOf [a0, b1]) (fun e env s => retK e (resK Try.prog Try.f16.results.toList env (fun vs => K (oneV vs) s) s)) s = vc_leafmeshlaw13_equal X a0 b1 K s := by kernel_rfl
theorem vc_leafmeshlaw13_equal_ok {X : Told} (hX : FrX X) (hn : X 16 = none) {a0 : AVal} {b1 : AVal} {K : AVal → Heap → Prop} {s : Heap} (h : vc_leafmeshlaw13_equal X a0 b1 K s) : wpCall Try.prog X 16 [a0, b1] K s :=
  wpCall_code hX vc_leafmeshlaw13_equal_ann hn Try.func16 (by kernel_rfl : Try.f16.body = some (bodyOf Try.f16)) (by kernel_rfl) ((vc_leafmeshlaw13_equal_eq X a0 b1 K s).mpr h)
theorem vc_leafmeshlaw13_equal_in {a0 : AVal} {b1 : AVal} {K : AVal → Heap → Prop} {s : Heap} (h : vc_leafmeshlaw13_equal XX a0 b1 K s) : wpCall Try.prog XX 16 [a0, b1] K s := vc_leafmeshlaw13_equal_ok XX_fr rfl h
/-- leafmesh/lsdb.New (17) -/
def vc_lsdb_New_j2 (X : Told) (nodes0 : AVal) (node1 : AVal) (t16 : AVal) (t19 : AVal) (K : AVal → Heap → Prop) (s : Heap) : Prop :=
  optK (pickV t16 (.bool true) t19) fun v_3 =>
  boolK v_3
   (K (.tup [.nilptr, (.int .i64 2)]) s)
   (mapK (fun v_4 s_5 =>
    optK (fillR [(.int .i64 0), (.int .i64 0), (.int .i64 0), .nilmap] [(0, 1, nodes0), (1, 1, node1), (3, 1, v_4)]) fun c_6 =>
    boxK 81 (.agg c_6) (fun b_7 s_8 =>
    K (.tup [b_7, (.int .i64 0)]) s_8) s_5) s)
def vc_lsdb_New_j1 (X : Told) (nodes0 : AVal) (node1 : AVal) (t12 : AVal) (t14 : AVal) (K : AVal → Heap → Prop) (s : Heap) : Prop :=
  optK (pickV t12 (.bool true) t14) fun v_2 =>
  boolK v_2
   (vc_lsdb_New_j2 X nodes0 node1 v_2 .undef K s)
   (optK (arithV .geq node1 nodes0) fun v_9 =>
    vc_lsdb_New_j2 X nodes0 node1 v_2 v_9 K s)
def vc_lsdb_New_j0 (X : Told) (nodes0 : AVal) (node1 : AVal) (t8 : AVal) (t10 : AVal) (K : AVal → Heap → Prop) (s : Heap) : Prop :=
  optK (pickV t8 (.bool true) t10) fun v_1 =>
  boolK v_1
   (vc_lsdb_New_j1 X nodes0 node1 v_1 .undef K s)
   (optK (arithV .lss node1 (.int .i64 0)) fun v_10 =>
    vc_lsdb_New_j1 X nodes0 node1 v_1 v_10 K s)
def vc_lsdb_New (X : Told) (nodes0 : AVal) (node1 : AVal) (K : AVal → Heap → Prop) (s : Heap) : Prop :=
  optK (arithV .lss nodes0 (.int .i64 1)) fun v_0 =>
  boolK v_0
   (vc_lsdb_New_j0 X nodes0 node1 v_0 .undef K s)
   (optK (arithV .gtr nodes0 (.int .i64 32)) fun v_11 =>
    vc_lsdb_New_j0 X nodes0 node1 v_0 v_11 K s)
def vc_lsdb_New_ann : Nat → List Nat := fun _ => []
theorem vc_lsdb_New_eq (X : Told) (nodes0 : AVal) (node1 : AVal) (K : AVal → Heap → Prop) (s : Heap) : wpC Try.prog X vc_lsdb_New_ann Try.f17.ntmps none (bodyOf Try.f17) (envOf [nodes0, node1]) (fun e env s => retK e (resK Try.prog Try.f17.results.toList env (fun vs => K (oneV vs) s) s)) s = vc_lsdb_New X nodes0 node1 K s := by kernel_rfl
theorem vc_lsdb_New_ok {X : Told} (hX : FrX X) (hn : X 17 = none) {nodes0 : AVal} {node1 : AVal} {K : AVal → Heap → Prop} {s : Heap} (h : vc_lsdb_New X nodes0 node1 K s) : wpCall Try.prog X 17 [nodes0, node1] K s :=
  wpCall_code hX vc_lsdb_New_ann hn Try.func17 (by kernel_rfl : Try.f17.body = some (bodyOf Try.f17)) (by kernel_rfl) ((vc_lsdb_New_eq X nodes0 node1 K s).mpr h)
theorem vc_lsdb_New_in {nodes0 : AVal} {node1 : AVal} {K : AVal → Heap → Prop} {s : Heap} (h : vc_lsdb_New XX nodes0 node1 K s) : wpCall Try.prog XX 17 [nodes0, node1] K s := vc_lsdb_New_ok XX_fr rfl h
/-- (*leafmesh/lsdb.DB).All (18) -/
def vc_lsdb_DB_All_l0 (X : Told) (d0 : AVal) (l3 : AVal) (t20 : AVal) (t21 : AVal) (t22 : AVal) (I0 : List AVal → Heap → Nat → Prop) (m0 : Nat) (K : AVal → Heap → Prop) (s : Heap) : Prop :=
  optK (arithV .lss t22 t21) fun v_21 =>
  boolK v_21
   (optK (iaddrS 1 t20 t22) fun v_22 =>
    optK (rd1 s v_22) fun v_23 =>
    optK (nilCheckA d0) fun v_24 =>
    optK (addOff 3 v_24) fun v_25 =>
    optK (rd1 s v_25) fun v_26 =>
    optK (getM s v_26 v_23) fun r_27 =>
    wpCall Try.prog X 54 [(retM (.agg [(.int .i64 0), (.int .i64 0), .nilslc]) false r_27)] (fun v_28 s_29 =>
    optK (fillR (repl 1 [(.int .i64 0), (.int .i64 0), .nilslc]) [(0, 3, v_28)]) fun c_30 => allOne c_30 = true ∧ newK 24 c_30 (fun b_31 s_32 =>
    appK 24 3 l3 (.slc b_31 0 1 (some 1) 3) (fun v_33 s_34 =>
    optK (arithV .add t22 (.int .i64 1)) fun v_35 =>
    ∃ m', m' < m0 ∧ I0 [v_33, v_35] s_34 m') s_32) s_29) s)
   (K l3 s)
def vc_lsdb_DB_All (X : Told) (d0 : AVal) (K : AVal → Heap → Prop) (s : Heap) : Prop :=
  wpCall Try.prog X 51 [d0] (fun v_0 s_1 =>
  optK (unaryA .not v_0) fun v_2 =>
  boolK v_2
   (K .nilslc s_1)
   (optK (nilCheckA d0) fun v_3 =>
    optK (addOff 3 v_3) fun v_4 =>
    optK (rd1 s_1 v_4) fun v_5 =>
    optK (lenM s_1 v_5) fun v_6 =>
    optK (nat? (.int .i64 0)) fun n_8 => optK (nat? (.int .i64 v_6)) fun n_9 => (n_8 ≤ n_9 ∧ n_9 ≤ 4294967296) ∧ newK 24 (repl n_9 [(.int .i64 0), (.int .i64 0), .nilslc]) (fun b_10 s_11 =>
    optK (nilCheckA d0) fun v_12 =>
    optK (addOff 3 v_12) fun v_13 =>
    optK (rd1 s_11 v_13) fun v_14 =>
    wpCall Try.prog X 53 [v_14] (fun v_15 s_16 =>
    wpCall Try.prog X 52 [v_15] (fun v_17 s_18 =>
    optK (lenOfA v_17) fun v_19 =>
    ∃ I0 : List AVal → Heap → Nat → Prop, (∃ m, I0 [(.slc b_10 0 n_8 (some n_9) 3), (.int .i64 0)] s_18 m) ∧ ∀ (f : Env) (s : Heap) (m0 : Nat), I0 [f 3, f 22] s m0 →
      vc_lsdb_DB_All_l0 X d0 (f 3) v_17 (.int .i64 v_19) (f 22) I0 m0 K s) s_16) s_11) s_1)) s
def vc_lsdb_DB_All_ann : Nat → List Nat := fun k => cond (Nat.beq k 10) [3, 22] ([])
theorem vc_lsdb_DB_All_eq (X : Told) (d0 : AVal) (K : AVal → Heap → Prop) (s : Heap) : wpC Try.prog X vc_lsdb_DB_All_ann Try.f18.ntmps none (bodyOf Try.f18) (envOf [d0]) (fun e env s => retK e (resK Try.prog Try.f18.results.toList env (fun vs => K (oneV vs) s) s)) s = vc_lsdb_DB_All X d0 K s := by kernel_rfl
theorem vc_lsdb_DB_All_ok {X : Told} (hX : FrX X) (hn : X 18 = none) {d0 : AVal} {K : AVal → Heap → Prop} {s : Heap} (h : vc_lsdb_DB_All X d0 K s) : wpCall Try.prog X 18 [d0] K s :=
  wpCall_code hX vc_lsdb_DB_All_ann hn Try.func18 (by kernel_rfl : Try.f18.body = some (bodyOf Try.f18)) (by kernel_rfl) ((vc_lsdb_DB_All_eq X d0 K s).mpr h)
theorem vc_lsdb_DB_All_in {d0 : AVal} {K : AVal → Heap → Prop} {s : Heap} (h : vc_lsdb_DB_All XX d0 K s) : wpCall Try.prog XX 18 [d0] K s := vc_lsdb_DB_All_ok XX_fr rfl h
/-- leafmesh/leafmeshlaw13.records (22) -/
def vc_leafmeshlaw13_records_l0 (X : Told) (a0 : AVal) (b1 : AVal) (i5 : AVal) (I0 : List AVal → Heap → Nat → Prop) (m0 : Nat) (K : AVal → Heap → Prop) (s : Heap) : Prop :=
  optK (lenOfA a0) fun v_5 =>
  optK (arithV .lss i5 (.int .i64 v_5)) fun v_7 =>
  boolK v_7
   (optK (iaddrS 3 a0 i5) fun v_8 =>
    optK (rdN s 3 v_8) fun v_9 =>
    optK (iaddrS 3 b1 i5) fun v_10 =>
    optK (rdN s 3 v_10) fun v_11 =>
    wpCall Try.prog X 16 [(.agg v_9), (.agg v_11)] (fun v_12 s_13 =>
    optK (unaryA .not v_12) fun v_14 =>
    boolK v_14
     (K (.bool false) s_13)
     (optK (arithV .add i5 (.int .i64 1)) fun v_15 =>
      ∃ m', m' < m0 ∧ I0 [v_15] s_13 m')) s)
   (K (.bool true) s)
def vc_leafmeshlaw13_records (X : Told) (a0 : AVal) (b1 : AVal) (K : AVal → Heap → Prop) (s : Heap) : Prop :=
  optK (lenOfA a0) fun v_0 =>
  optK (lenOfA b1) fun v_2 =>
  optK (negB true (eqV 0 false (.int .i64 v_0) (.int .i64 v_2))) fun v_4 =>
  boolK v_4
   (K (.bool false) s)
   (∃ I0 : List AVal → Heap → Nat → Prop, (∃ m, I0 [(.int .i64 0)] s m) ∧ ∀ (f : Env) (s : Heap) (m0 : Nat), I0 [f 5] s m0 →
      vc_leafmeshlaw13_records_l0 X a0 b1 (f 5) I0 m0 K s)
def vc_leafmeshlaw13_records_ann : Nat → List Nat := fun k => cond (Nat.beq k 8) [5] ([])
theorem vc_leafmeshlaw13_records_eq (X : Told) (a0 : AVal) (b1 : AVal) (K : AVal → Heap → Prop) (s : Heap) : wpC Try.prog X vc_leafmeshlaw13_records_ann Try.f22.ntmps none (bodyOf Try.f22) (envOf [a0, b1]) (fun e env s => retK e (resK Try.prog Try.f22.results.toList env (fun vs => K (oneV vs) s) s)) s = vc_leafmeshlaw13_records X a0 b1 K s := by kernel_rfl
theorem vc_leafmeshlaw13_records_ok {X : Told} (hX : FrX X) (hn : X 22 = none) {a0 : AVal} {b1 : AVal} {K : AVal → Heap → Prop} {s : Heap} (h : vc_leafmeshlaw13_records X a0 b1 K s) : wpCall Try.prog X 22 [a0, b1] K s :=
  wpCall_code hX vc_leafmeshlaw13_records_ann hn Try.func22 (by kernel_rfl : Try.f22.body = some (bodyOf Try.f22)) (by kernel_rfl) ((vc_leafmeshlaw13_records_eq X a0 b1 K s).mpr h)
theorem vc_leafmeshlaw13_records_in {a0 : AVal} {b1 : AVal} {K : AVal → Heap → Prop} {s : Heap} (h : vc_leafmeshlaw13_records XX a0 b1 K s) : wpCall Try.prog XX 22 [a0, b1] K s := vc_leafmeshlaw13_records_ok XX_fr rfl h
/-- (*leafmesh/lsdb.DB).View (25) -/
def vc_lsdb_DB_View_j2 (X : Told) (t21 : AVal) (t26 : AVal) (t27 : AVal) (t33 : AVal) (t38 : AVal) (I1 : List AVal → Heap → Nat → Prop) (m1 : Nat) (K : AVal → Heap → Prop) (s : Heap) : Prop :=
  optK (pickV t33 t38 (.bool false)) fun v_22 =>
  optK (iaddrS 1 t26 t27) fun v_23 =>
  optK (wr1 s v_23 v_22) fun s_24 =>
  optK (arithV .add t21 (.int .i64 1)) fun v_25 =>
  ∃ m', m' < m1 ∧ I1 [v_25] s_24 m'
def vc_lsdb_DB_View_l1 (X : Told) (d0 : AVal) (l5 : AVal) (t19 : AVal) (t20 : AVal) (t21 : AVal) (I1 : List AVal → Heap → Nat → Prop) (m1 : Nat) (K : AVal → Heap → Prop) (s : Heap) : Prop :=
  optK (arithV .lss t21 t20) fun v_12 =>
  boolK v_12
   (optK (iaddrS 3 t19 t21) fun v_13 =>
    optK (rdN s 3 v_13) fun v_14 =>
    newK 44 [(.int .i64 0), (.int .i64 0), (.int .i64 0)] (fun b_15 s_16 =>
    optK (wrAgg s_16 3 (.ptr b_15 0) (.agg v_14)) fun s_17 =>
    optK (addOff 0 (.ptr b_15 0)) fun v_18 =>
    optK (rd1 s_17 v_18) fun v_19 =>
    wpCall Try.prog X 55 [d0, v_19, t21] (fun v_20 s_21 =>
    boolK v_20
     (optK (addOff 1 (.ptr b_15 0)) fun v_26 =>
      optK (rd1 s_21 v_26) fun v_27 =>
      wpCall Try.prog X 55 [d0, v_27, t21] (fun v_28 s_29 =>
      vc_lsdb_DB_View_j2 X t21 l5 t21 v_20 v_28 I1 m1 K s_29) s_21)
     (vc_lsdb_DB_View_j2 X t21 l5 t21 v_20 .undef I1 m1 K s_21)) s_17) s)
   (K l5 s)
def vc_lsdb_DB_View_j0 (X : Told) (d0 : AVal) (links1 : AVal) (t11 : AVal) (t14 : AVal) (K : AVal → Heap → Prop) (s : Heap) : Prop :=
  optK (pickV t11 (.bool true) t14) fun v_3 =>
  boolK v_3
   (K .nilslc s)
   (optK (lenOfA links1) fun v_4 =>
    optK (nat? (.int .i64 v_4)) fun n_6 => optK (nat? (.int .i64 v_4)) fun n_7 => (n_6 ≤ n_7 ∧ n_7 ≤ 4294967296) ∧ newK 4 (repl n_7 [(.bool false)]) (fun b_8 s_9 =>
    optK (lenOfA links1) fun v_10 =>
    ∃ I1 : List AVal → Heap → Nat → Prop, (∃ m, I1 [(.int .i64 0)] s_9 m) ∧ ∀ (f : Env) (s : Heap) (m1 : Nat), I1 [f 21] s m1 →
      vc_lsdb_DB_View_l1 X d0 (.slc b_8 0 n_6 (some n_7) 1) links1 (.int .i64 v_10) (f 21) I1 m1 K s) s)
def vc_lsdb_DB_View (X : Told) (d0 : AVal) (links1 : AVal) (K : AVal → Heap → Prop) (s : Heap) : Prop :=
  wpCall Try.prog X 51 [d0] (fun v_0 s_1 =>
  optK (unaryA .not v_0) fun v_2 =>
  boolK v_2
   (vc_lsdb_DB_View_j0 X d0 links1 v_2 .undef K s_1)
   (optK (lenOfA links1) fun v_30 =>
    optK (arithV .gtr (.int .i64 v_30) (.int .i64 128)) fun v_32 =>
    vc_lsdb_DB_View_j0 X d0 links1 v_2 v_32 K s_1)) s
def vc_lsdb_DB_View_ann : Nat → List Nat := fun k => cond (Nat.beq k 10) [21] ([])
theorem vc_lsdb_DB_View_eq (X : Told) (d0 : AVal) (links1 : AVal) (K : AVal → Heap → Prop) (s : Heap) : wpC Try.prog X vc_lsdb_DB_View_ann Try.f25.ntmps none (bodyOf Try.f25) (envOf [d0, links1]) (fun e env s => retK e (resK Try.prog Try.f25.results.toList env (fun vs => K (oneV vs) s) s)) s = vc_lsdb_DB_View X d0 links1 K s := by kernel_rfl
theorem vc_lsdb_DB_View_ok {X : Told} (hX : FrX X) (hn : X 25 = none) {d0 : AVal} {links1 : AVal} {K : AVal → Heap → Prop} {s : Heap} (h : vc_lsdb_DB_View X d0 links1 K s) : wpCall Try.prog X 25 [d0, links1] K s :=
  wpCall_code hX vc_lsdb_DB_View_ann hn Try.func25 (by kernel_rfl : Try.f25.body = some (bodyOf Try.f25)) (by kernel_rfl) ((vc_lsdb_DB_View_eq X d0 links1 K s).mpr h)
theorem vc_lsdb_DB_View_in {d0 : AVal} {links1 : AVal} {K : AVal → Heap → Prop} {s : Heap} (h : vc_lsdb_DB_View XX d0 links1 K s) : wpCall Try.prog XX 25 [d0, links1] K s := vc_lsdb_DB_View_ok XX_fr rfl h
/-- leafmesh/leafmeshkit.Same[bool] (26) -/
def vc_leafmeshkit_Same_bool__l0 (X : Told) (a0 : AVal) (b1 : AVal) (i5 : AVal) (I0 : List AVal → Heap → Nat → Prop) (m0 : Nat) (K : AVal → Heap → Prop) (s : Heap) : Prop :=
  optK (lenOfA a0) fun v_5 =>
  optK (arithV .lss i5 (.int .i64 v_5)) fun v_7 =>
  boolK v_7
   (optK (iaddrS 1 a0 i5) fun v_8 =>
    optK (rd1 s v_8) fun v_9 =>
    optK (iaddrS 1 b1 i5) fun v_10 =>
    optK (rd1 s v_10) fun v_11 =>
    optK (negB true (eqV 1 false v_9 v_11)) fun v_12 =>
    boolK v_12
     (K (.bool false) s)
     (optK (arithV .add i5 (.int .i64 1)) fun v_13 =>
      ∃ m', m' < m0 ∧ I0 [v_13] s m'))
   (K (.bool true) s)
def vc_leafmeshkit_Same_bool_ (X : Told) (a0 : AVal) (b1 : AVal) (K : AVal → Heap → Prop) (s : Heap) : Prop :=
  optK (lenOfA a0) fun v_0 =>
  optK (lenOfA b1) fun v_2 =>
  optK (negB true (eqV 0 false (.int .i64 v_0) (.int .i64 v_2))) fun v_4 =>
  boolK v_4
   (K (.bool false) s)
   (∃ I0 : List AVal → Heap → Nat → Prop, (∃ m, I0 [(.int .i64 0)] s m) ∧ ∀ (f : Env) (s : Heap) (m0 : Nat), I0 [f 5] s m0 →
      vc_leafmeshkit_Same_bool__l0 X a0 b1 (f 5) I0 m0 K s)
def vc_leafmeshkit_Same_bool__ann : Nat → List Nat := fun k => cond (Nat.beq k 8) [5] ([])
theorem vc_leafmeshkit_Same_bool__eq (X : Told) (a0 : AVal) (b1 : AVal) (K : AVal → Heap → Prop) (s : Heap) : wpC Try.prog X vc_leafmeshkit_Same_bool__ann Try.f26.ntmps none (bodyOf Try.f26) (envOf [a0, b1]) (fun e env s => retK e (resK Try.prog Try.f26.results.toList env (fun vs => K (oneV vs) s) s)) s = vc_leafmeshkit_Same_bool_ X a0 b1 K s := by kernel_rfl
theorem vc_leafmeshkit_Same_bool__ok {X : Told} (hX : FrX X) (hn : X 26 = none) {a0 : AVal} {b1 : AVal} {K : AVal → Heap → Prop} {s : Heap} (h : vc_leafmeshkit_Same_bool_ X a0 b1 K s) : wpCall Try.prog X 26 [a0, b1] K s :=
  wpCall_code hX vc_leafmeshkit_Same_bool__ann hn Try.func26 (by kernel_rfl : Try.f26.body = some (bodyOf Try.f26)) (by kernel_rfl) ((vc_leafmeshkit_Same_bool__eq X a0 b1 K s).mpr h)
theorem vc_leafmeshkit_Same_bool__in {a0 : AVal} {b1 : AVal} {K : AVal → Heap → Prop} {s : Heap} (h : vc_leafmeshkit_Same_bool_ XX a0 b1 K s) : wpCall Try.prog XX 26 [a0, b1] K s := vc_leafmeshkit_Same_bool__ok XX_fr rfl h
/-- (*leafmesh/lsdb.DB).Receive (27) -/
def vc_lsdb_DB_Receive_j2 (X : Told) (d0 : AVal) (r3 : AVal) (old7 : AVal) (t46 : AVal) (t73 : AVal) (K : AVal → Heap → Prop) (s : Heap) : Prop :=
  boolK t73
   (K (.tup [(.int .i64 2), (.int .i64 0)]) s)
   (optK (fillR [(.bool false), (.bool false), (.int .i64 0)] [(0, 1, (.bool true)), (1, 1, (.bool true)), (2, 1, (.int .i64 1))]) fun c_60 =>
    optK (negB false (eqAgg Try.prog 93 t46 (.agg c_60))) fun v_61 =>
    boolK v_61
     (optK (rdN s 3 old7) fun v_62 =>
      optK (addOff 1 r3) fun v_63 =>
      optK (rd1 s v_63) fun v_64 =>
      wpCall Try.prog X 56 [d0, (.agg v_62), v_64] (fun v_65 s_66 =>
      optK (extractA v_65 0) fun v_67 =>
      optK (extractA v_65 1) fun v_68 =>
      K (.tup [v_67, v_68]) s_66) s)
     (K (.tup [(.int .i64 0), (.int .i64 0)]) s))
def vc_lsdb_DB_Receive_j1 (X : Told) (d0 : AVal) (r3 : AVal) (old7 : AVal) (t46 : AVal) (t47 : AVal) (K : AVal → Heap → Prop) (s : Heap) : Prop :=
  boolK t47
   (optK (nilCheckA d0) fun v_36 =>
    optK (addOff 3 v_36) fun v_37 =>
    optK (rd1 s v_37) fun v_38 =>
    optK (addOff 0 r3) fun v_39 =>
    optK (rd1 s v_39) fun v_40 =>
    optK (rdN s 3 r3) fun v_41 =>
    wpCall Try.prog X 54 [(.agg v_41)] (fun v_42 s_43 =>
    (∀ b, s b ≠ none → s b = none → s_43 b = none) →
    optK (putM (add s s_43) v_38 v_40 v_42) fun s_44 =>
    K (.tup [(.int .i64 1), (.int .i64 0)]) s_44) (frz s))
   (optK (fillR [(.bool false), (.bool false), (.int .i64 0)] [(0, 1, (.bool true))]) fun c_45 =>
    optK (negB false (eqAgg Try.prog 93 t46 (.agg c_45))) fun v_46 =>
    boolK v_46
     (optK (nilCheckA d0) fun v_47 =>
      optK (addOff 2 v_47) fun v_48 =>
      optK (rd1 s v_48) fun v_49 =>
      optK (addOff 1 r3) fun v_50 =>
      optK (rd1 s v_50) fun v_51 =>
      optK (foldA max2A v_49 [v_51]) fun v_54 =>
      optK (nilCheckA d0) fun v_55 =>
      optK (addOff 2 v_55) fun v_56 =>
      optK (wr1 s v_56 v_54) fun s_57 =>
      K (.tup [(.int .i64 0), (.int .i64 0)]) s_57)
     (optK (fillR [(.bool false), (.bool false), (.int .i64 0)] [(1, 1, (.bool true)), (2, 1, (.int .i64 (-1)))]) fun c_58 =>
      optK (negB false (eqAgg Try.prog 93 t46 (.agg c_58))) fun v_59 =>
      boolK v_59
       (vc_lsdb_DB_Receive_j2 X d0 r3 old7 t46 v_59 K s)
       (optK (fillR [(.bool false), (.bool false), (.int .i64 0)] [(0, 1, (.bool true)), (1, 1, (.bool true)), (2, 1, (.int .i64 (-1)))]) fun c_69 =>
        optK (negB false (eqAgg Try.prog 93 t46 (.agg c_69))) fun v_70 =>
        vc_lsdb_DB_Receive_j2 X d0 r3 old7 t46 v_70 K s)))
def vc_lsdb_DB_Receive_j0 (X : Told) (d0 : AVal) (r3 : AVal) (old7 : AVal) (c9 : AVal) (K : AVal → Heap → Prop) (s : Heap) : Prop :=
  optK (rdN s 3 c9) fun v_33 =>
  optK (fillR [(.bool false), (.bool false), (.int .i64 0)] []) fun c_34 =>
  optK (negB false (eqAgg Try.prog 93 (.agg v_33) (.agg c_34))) fun v_35 =>
  boolK v_35
   (vc_lsdb_DB_Receive_j1 X d0 r3 old7 (.agg v_33) v_35 K s)
   (optK (fillR [(.bool false), (.bool false), (.int .i64 0)] [(1, 1, (.bool true)), (2, 1, (.int .i64 1))]) fun c_71 =>
    optK (negB false (eqAgg Try.prog 93 (.agg v_33) (.agg c_71))) fun v_72 =>
    vc_lsdb_DB_Receive_j1 X d0 r3 old7 (.agg v_33) v_72 K s)
def vc_lsdb_DB_Receive (X : Told) (d0 : AVal) (r1 : AVal) (K : AVal → Heap → Prop) (s : Heap) : Prop :=
  boxK 24 r1 (fun b_0 s_1 =>
  wpCall Try.prog X 51 [d0] (fun v_2 s_3 =>
  optK (unaryA .not v_2) fun v_4 =>
  boolK v_4
   (K (.tup [(.int .i64 0), (.int .i64 1)]) s_3)
   (optK (nilCheckA d0) fun v_5 =>
    optK (addOff 0 v_5) fun v_6 =>
    optK (rd1 s_3 v_6) fun v_7 =>
    optK (rdN s_3 3 b_0) fun v_8 =>
    wpCall Try.prog X 12 [v_7, (.agg v_8)] (fun v_9 s_10 =>
    optK (negB true (eqV 0 true v_9 (.int .i64 0))) fun v_11 =>
    boolK v_11
     (K (.tup [(.int .i64 0), v_9]) s_10)
     (optK (nilCheckA d0) fun v_12 =>
      optK (addOff 3 v_12) fun v_13 =>
      optK (rd1 s_10 v_13) fun v_14 =>
      optK (addOff 0 b_0) fun v_15 =>
      optK (rd1 s_10 v_15) fun v_16 =>
      optK (getM s_10 v_14 v_16) fun r_17 =>
      optK (extractA (retM (.agg [(.int .i64 0), (.int .i64 0), .nilslc]) true r_17) 0) fun v_18 =>
      optK (extractA (retM (.agg [(.int .i64 0), (.int .i64 0), .nilslc]) true r_17) 1) fun v_19 =>
      newK 24 [(.int .i64 0), (.int .i64 0), .nilslc] (fun b_20 s_21 =>
      (∀ b, s_10 b ≠ none → s_10 b = none → s_21 b = none) →
      optK (wrAgg (add s_10 s_21) 3 (.ptr b_20 0) v_18) fun s_22 =>
      optK (addOff 0 b_0) fun v_23 =>
      optK (rd1 s_22 v_23) fun v_24 =>
      optK (nilCheckA d0) fun v_25 =>
      optK (addOff 1 v_25) fun v_26 =>
      optK (rd1 s_22 v_26) fun v_27 =>
      optK (negB false (eqV 0 false v_24 v_27)) fun v_28 =>
      optK (fillR [(.bool false), (.bool false), (.int .i64 0)] [(0, 1, v_28), (1, 1, v_19)]) fun c_29 =>
      newK 93 [(.bool false), (.bool false), (.int .i64 0)] (fun b_30 s_31 =>
      (∀ b, s_22 b ≠ none → s_22 b = none → s_31 b = none) →
      optK (wrAgg (add s_22 s_31) 3 (.ptr b_30 0) (.agg c_29)) fun s_32 =>
      boolK v_19
       (optK (rdN s_32 3 b_0) fun v_73 =>
        optK (rdN s_32 3 (.ptr b_20 0)) fun v_74 =>
        wpCall Try.prog X 14 [(.agg v_73), (.agg v_74)] (fun v_75 s_76 =>
        optK (addOff 2 (.ptr b_30 0)) fun v_77 =>
        optK (wr1 s_76 v_77 v_75) fun s_78 =>
        vc_lsdb_DB_Receive_j0 X d0 b_0 (.ptr b_20 0) (.ptr b_30 0) K s_78) s_32)
       (vc_lsdb_DB_Receive_j0 X d0 b_0 (.ptr b_20 0) (.ptr b_30 0) K s_32)) (frz s_22)) (frz s_10))) s_3)) s_1) s
def vc_lsdb_DB_Receive_ann : Nat → List Nat := fun _ => []
theorem vc_lsdb_DB_Receive_eq (X : Told) (d0 : AVal) (r1 : AVal) (K : AVal → Heap → Prop) (s : Heap) : wpC Try.prog X vc_lsdb_DB_Receive_ann Try.f27.ntmps none (bodyOf Try.f27) (envOf [d0, r1]) (fun e env s => retK e (resK Try.prog Try.f27.results.toList env (fun vs => K (oneV vs) s) s)) s = vc_lsdb_DB_Receive X d0 r1 K s := by kernel_rfl
theorem vc_lsdb_DB_Receive_ok {X : Told} (hX : FrX X) (hn : X 27 = none) {d0 : AVal} {r1 : AVal} {K : AVal → Heap → Prop} {s : Heap} (h : vc_lsdb_DB_Receive X d0 r1 K s) : wpCall Try.prog X 27 [d0, r1] K s :=
  wpCall_code hX vc_lsdb_DB_Receive_ann hn Try.func27 (by kernel_rfl : Try.f27.body = some (bodyOf Try.f27)) (by kernel_rfl) ((vc_lsdb_DB_Receive_eq X d0 r1 K s).mpr h)
theorem vc_lsdb_DB_Receive_in {d0 : AVal} {r1 : AVal} {K : AVal → Heap → Prop} {s : Heap} (h : vc_lsdb_DB_Receive XX d0 r1 K s) : wpCall Try.prog XX 27 [d0, r1] K s := vc_lsdb_DB_Receive_ok XX_fr rfl h
/-- leafmesh/leafmeshkit.Pick (29) -/
def vc_leafmeshkit_Pick_j0 (X : Told) (x0 : AVal) (K : AVal → Heap → Prop) (s : Heap) : Prop :=
  K x0 s
def vc_leafmeshkit_Pick (X : Told) (x0 : AVal) (n1 : AVal) (K : AVal → Heap → Prop) (s : Heap) : Prop :=
  optK (arithV .rem x0 n1) fun v_0 =>
  optK (arithV .lss v_0 (.int .i64 0)) fun v_1 =>
  boolK v_1
   (optK (arithV .add v_0 n1) fun v_2 =>
    vc_leafmeshkit_Pick_j0 X v_2 K s)
   (vc_leafmeshkit_Pick_j0 X v_0 K s)
def vc_leafmeshkit_Pick_ann : Nat → List Nat := fun _ => []
theorem vc_leafmeshkit_Pick_eq (X : Told) (x0 : AVal) (n1 : AVal) (K : AVal → Heap → Prop) (s : Heap) : wpC Try.prog X vc_leafmeshkit_Pick_ann Try.f29.ntmps none (bodyOf Try.f29) (envOf [x0, n1]) (fun e env s => retK e (resK Try.prog Try.f29.results.toList env (fun vs => K (oneV vs) s) s)) s = vc_leafmeshkit_Pick X x0 n1 K s := by kernel_rfl
theorem vc_leafmeshkit_Pick_ok {X : Told} (hX : FrX X) (hn : X 29 = none) {x0 : AVal} {n1 : AVal} {K : AVal → Heap → Prop} {s : Heap} (h : vc_leafmeshkit_Pick X x0 n1 K s) : wpCall Try.prog X 29 [x0, n1] K s :=
  wpCall_code hX vc_leafmeshkit_Pick_ann hn Try.func29 (by kernel_rfl : Try.f29.body = some (bodyOf Try.f29)) (by kernel_rfl) ((vc_leafmeshkit_Pick_eq X x0 n1 K s).mpr h)
theorem vc_leafmeshkit_Pick_in {x0 : AVal} {n1 : AVal} {K : AVal → Heap → Prop} {s : Heap} (h : vc_leafmeshkit_Pick XX x0 n1 K s) : wpCall Try.prog XX 29 [x0, n1] K s := vc_leafmeshkit_Pick_ok XX_fr rfl h
/-- (*leafmesh/lsdb.DB).Get (33) -/
def vc_lsdb_DB_Get (X : Told) (d0 : AVal) (n1 : AVal) (K : AVal → Heap → Prop) (s : Heap) : Prop :=
  newK 24 [(.int .i64 0), (.int .i64 0), .nilslc] (fun b_0 s_1 =>
  wpCall Try.prog X 51 [d0] (fun v_2 s_3 =>
  optK (unaryA .not v_2) fun v_4 =>
  boolK v_4
   (optK (fillR [(.int .i64 0), (.int .i64 0), .nilslc] []) fun c_5 =>
    optK (wrAgg s_3 3 (.ptr b_0 0) (.agg c_5)) fun s_6 =>
    optK (rdN s_6 3 (.ptr b_0 0)) fun t4_7 =>
    K (.tup [(.agg t4_7), (.bool false)]) s_6)
   (optK (nilCheckA d0) fun v_8 =>
    optK (addOff 3 v_8) fun v_9 =>
    optK (rd1 s_3 v_9) fun v_10 =>
    optK (getM s_3 v_10 n1) fun r_11 =>
    optK (extractA (retM (.agg [(.int .i64 0), (.int .i64 0), .nilslc]) true r_11) 0) fun v_12 =>
    optK (extractA (retM (.agg [(.int .i64 0), (.int .i64 0), .nilslc]) true r_11) 1) fun v_13 =>
    newK 24 [(.int .i64 0), (.int .i64 0), .nilslc] (fun b_14 s_15 =>
    optK (wrAgg s_15 3 (.ptr b_14 0) v_12) fun s_16 =>
    optK (rdN s_16 3 (.ptr b_14 0)) fun v_17 =>
    wpCall Try.prog X 54 [(.agg v_17)] (fun v_18 s_19 =>
    optK (wrAgg s_19 3 (.ptr b_0 0) v_18) fun s_20 =>
    optK (rdN s_20 3 (.ptr b_0 0)) fun t4_21 =>
    K (.tup [(.agg t4_21), v_13]) s_20) s_16) s_3)) s_1) s
def vc_lsdb_DB_Get_ann : Nat → List Nat := fun _ => []
theorem vc_lsdb_DB_Get_eq (X : Told) (d0 : AVal) (n1 : AVal) (K : AVal → Heap → Prop) (s : Heap) : wpC Try.prog X vc_lsdb_DB_Get_ann Try.f33.ntmps none (bodyOf Try.f33) (envOf [d0, n1]) (fun e env s => retK e (resK Try.prog Try.f33.results.toList env (fun vs => K (oneV vs) s) s)) s = vc_lsdb_DB_Get X d0 n1 K s := by kernel_rfl
theorem vc_lsdb_DB_Get_ok {X : Told} (hX : FrX X) (hn : X 33 = none) {d0 : AVal} {n1 : AVal} {K : AVal → Heap → Prop} {s : Heap} (h : vc_lsdb_DB_Get X d0 n1 K s) : wpCall Try.prog X 33 [d0, n1] K s :=
  wpCall_code hX vc_lsdb_DB_Get_ann hn Try.func33 (by kernel_rfl : Try.f33.body = some (bodyOf Try.f33)) (by kernel_rfl) ((vc_lsdb_DB_Get_eq X d0 n1 K s).mpr h)
theorem vc_lsdb_DB_Get_in {d0 : AVal} {n1 : AVal} {K : AVal → Heap → Prop} {s : Heap} (h : vc_lsdb_DB_Get XX d0 n1 K s) : wpCall Try.prog XX 33 [d0, n1] K s := vc_lsdb_DB_Get_ok XX_fr rfl h
/-- leafmesh/leafmeshkit.Same[int] (34) -/
def vc_leafmeshkit_Same_int__l0 (X : Told) (a0 : AVal) (b1 : AVal) (i5 : AVal) (I0 : List AVal → Heap → Nat → Prop) (m0 : Nat) (K : AVal → Heap → Prop) (s : Heap) : Prop :=
  optK (lenOfA a0) fun v_5 =>
  optK (arithV .lss i5 (.int .i64 v_5)) fun v_7 =>
  boolK v_7
   (optK (iaddrS 1 a0 i5) fun v_8 =>
    optK (rd1 s v_8) fun v_9 =>
    optK (iaddrS 1 b1 i5) fun v_10 =>
    optK (rd1 s v_10) fun v_11 =>
    optK (negB true (eqV 0 false v_9 v_11)) fun v_12 =>
    boolK v_12
     (K (.bool false) s)
     (optK (arithV .add i5 (.int .i64 1)) fun v_13 =>
      ∃ m', m' < m0 ∧ I0 [v_13] s m'))
   (K (.bool true) s)
def vc_leafmeshkit_Same_int_ (X : Told) (a0 : AVal) (b1 : AVal) (K : AVal → Heap → Prop) (s : Heap) : Prop :=
  optK (lenOfA a0) fun v_0 =>
  optK (lenOfA b1) fun v_2 =>
  optK (negB true (eqV 0 false (.int .i64 v_0) (.int .i64 v_2))) fun v_4 =>
  boolK v_4
   (K (.bool false) s)
   (∃ I0 : List AVal → Heap → Nat → Prop, (∃ m, I0 [(.int .i64 0)] s m) ∧ ∀ (f : Env) (s : Heap) (m0 : Nat), I0 [f 5] s m0 →
      vc_leafmeshkit_Same_int__l0 X a0 b1 (f 5) I0 m0 K s)
def vc_leafmeshkit_Same_int__ann : Nat → List Nat := fun k => cond (Nat.beq k 8) [5] ([])
theorem vc_leafmeshkit_Same_int__eq (X : Told) (a0 : AVal) (b1 : AVal) (K : AVal → Heap → Prop) (s : Heap) : wpC Try.prog X vc_leafmeshkit_Same_int__ann Try.f34.ntmps none (bodyOf Try.f34) (envOf [a0, b1]) (fun e env s => retK e (resK Try.prog Try.f34.results.toList env (fun vs => K (oneV vs) s) s)) s = vc_leafmeshkit_Same_int_ X a0 b1 K s := by kernel_rfl
theorem vc_leafmeshkit_Same_int__ok {X : Told} (hX : FrX X) (hn : X 34 = none) {a0 : AVal} {b1 : AVal} {K : AVal → Heap → Prop} {s : Heap} (h : vc_leafmeshkit_Same_int_ X a0 b1 K s) : wpCall Try.prog X 34 [a0, b1] K s :=
  wpCall_code hX vc_leafmeshkit_Same_int__ann hn Try.func34 (by kernel_rfl : Try.f34.body = some (bodyOf Try.f34)) (by kernel_rfl) ((vc_leafmeshkit_Same_int__eq X a0 b1 K s).mpr h)
theorem vc_leafmeshkit_Same_int__in {a0 : AVal} {b1 : AVal} {K : AVal → Heap → Prop} {s : Heap} (h : vc_leafmeshkit_Same_int_ XX a0 b1 K s) : wpCall Try.prog XX 34 [a0, b1] K s := vc_leafmeshkit_Same_int__ok XX_fr rfl h
/-- leafmesh/leafmeshref13.New (37) -/
def vc_leafmeshref13_New_j2 (X : Told) (nodes0 : AVal) (node1 : AVal) (t16 : AVal) (t19 : AVal) (K : AVal → Heap → Prop) (s : Heap) : Prop :=
  optK (pickV t16 (.bool true) t19) fun v_3 =>
  boolK v_3
   (K (.tup [.nilptr, (.int .i64 2)]) s)
   (optK (nat? nodes0) fun n_4 => optK (nat? nodes0) fun n_5 => (n_4 ≤ n_5 ∧ n_5 ≤ 4294967296) ∧ newK 24 (repl n_5 [(.int .i64 0), (.int .i64 0), .nilslc]) (fun b_6 s_7 =>
    optK (fillR [(.int .i64 0), (.int .i64 0), .nilslc, (.int .i64 0)] [(0, 1, nodes0), (1, 1, node1), (2, 1, (.slc b_6 0 n_4 (some n_5) 3))]) fun c_8 =>
    boxK 96 (.agg c_8) (fun b_9 s_10 =>
    K (.tup [b_9, (.int .i64 0)]) s_10) s_7) s)
def vc_leafmeshref13_New_j1 (X : Told) (nodes0 : AVal) (node1 : AVal) (t12 : AVal) (t14 : AVal) (K : AVal → Heap → Prop) (s : Heap) : Prop :=
  optK (pickV t12 (.bool true) t14) fun v_2 =>
  boolK v_2
   (vc_leafmeshref13_New_j2 X nodes0 node1 v_2 .undef K s)
   (optK (arithV .geq node1 nodes0) fun v_11 =>
    vc_leafmeshref13_New_j2 X nodes0 node1 v_2 v_11 K s)
def vc_leafmeshref13_New_j0 (X : Told) (nodes0 : AVal) (node1 : AVal) (t8 : AVal) (t10 : AVal) (K : AVal → Heap → Prop) (s : Heap) : Prop :=
  optK (pickV t8 (.bool true) t10) fun v_1 =>
  boolK v_1
   (vc_leafmeshref13_New_j1 X nodes0 node1 v_1 .undef K s)
   (optK (arithV .lss node1 (.int .i64 0)) fun v_12 =>
    vc_leafmeshref13_New_j1 X nodes0 node1 v_1 v_12 K s)
def vc_leafmeshref13_New (X : Told) (nodes0 : AVal) (node1 : AVal) (K : AVal → Heap → Prop) (s : Heap) : Prop :=
  optK (arithV .lss nodes0 (.int .i64 1)) fun v_0 =>
  boolK v_0
   (vc_leafmeshref13_New_j0 X nodes0 node1 v_0 .undef K s)
   (optK (arithV .gtr nodes0 (.int .i64 32)) fun v_13 =>
    vc_leafmeshref13_New_j0 X nodes0 node1 v_0 v_13 K s)
def vc_leafmeshref13_New_ann : Nat → List Nat := fun _ => []
theorem vc_leafmeshref13_New_eq (X : Told) (nodes0 : AVal) (node1 : AVal) (K : AVal → Heap → Prop) (s : Heap) : wpC Try.prog X vc_leafmeshref13_New_ann Try.f37.ntmps none (bodyOf Try.f37) (envOf [nodes0, node1]) (fun e env s => retK e (resK Try.prog Try.f37.results.toList env (fun vs => K (oneV vs) s) s)) s = vc_leafmeshref13_New X nodes0 node1 K s := by kernel_rfl
theorem vc_leafmeshref13_New_ok {X : Told} (hX : FrX X) (hn : X 37 = none) {nodes0 : AVal} {node1 : AVal} {K : AVal → Heap → Prop} {s : Heap} (h : vc_leafmeshref13_New X nodes0 node1 K s) : wpCall Try.prog X 37 [nodes0, node1] K s :=
  wpCall_code hX vc_leafmeshref13_New_ann hn Try.func37 (by kernel_rfl : Try.f37.body = some (bodyOf Try.f37)) (by kernel_rfl) ((vc_leafmeshref13_New_eq X nodes0 node1 K s).mpr h)
theorem vc_leafmeshref13_New_in {nodes0 : AVal} {node1 : AVal} {K : AVal → Heap → Prop} {s : Heap} (h : vc_leafmeshref13_New XX nodes0 node1 K s) : wpCall Try.prog XX 37 [nodes0, node1] K s := vc_leafmeshref13_New_ok XX_fr rfl h
/-- (*leafmesh/lsdb.DB).Own (38) -/
def vc_lsdb_DB_Own_j0 (X : Told) (d0 : AVal) (links1 : AVal) (t4 : AVal) (own8 : AVal) (t33 : AVal) (t37 : AVal) (K : AVal → Heap → Prop) (s : Heap) : Prop :=
  optK (pickV t33 t37 (.bool false)) fun v_26 =>
  boolK v_26
   (optK (rdN s 3 own8) fun v_27 =>
    wpCall Try.prog X 54 [(.agg v_27)] (fun v_28 s_29 =>
    optK (wrAgg s_29 3 t4 v_28) fun s_30 =>
    optK (rdN s_30 3 t4) fun t4_31 =>
    K (.tup [(.agg t4_31), (.bool false), (.int .i64 0)]) s_30) s)
   (optK (nilCheckA d0) fun v_32 =>
    optK (addOff 2 v_32) fun v_33 =>
    optK (rd1 s v_33) fun v_34 =>
    optK (arithV .geq v_34 (.int .i64 1073741824)) fun v_35 =>
    boolK v_35
     (optK (fillR [(.int .i64 0), (.int .i64 0), .nilslc] []) fun c_36 =>
      optK (wrAgg s 3 t4 (.agg c_36)) fun s_37 =>
      optK (rdN s_37 3 t4) fun t4_38 =>
      K (.tup [(.agg t4_38), (.bool false), (.int .i64 7)]) s_37)
     (optK (nilCheckA d0) fun v_39 =>
      optK (addOff 2 v_39) fun v_40 =>
      optK (rd1 s v_40) fun v_41 =>
      optK (arithV .add v_41 (.int .i64 1)) fun v_42 =>
      wpCall Try.prog X 58 [d0, links1, v_42] (fun v_43 s_44 =>
      wpCall Try.prog X 54 [v_43] (fun v_45 s_46 =>
      optK (wrAgg s_46 3 t4 v_45) fun s_47 =>
      optK (rdN s_47 3 t4) fun t4_48 =>
      K (.tup [(.agg t4_48), (.bool true), (.int .i64 0)]) s_47) s_44) s))
def vc_lsdb_DB_Own (X : Told) (d0 : AVal) (links1 : AVal) (K : AVal → Heap → Prop) (s : Heap) : Prop :=
  newK 24 [(.int .i64 0), (.int .i64 0), .nilslc] (fun b_0 s_1 =>
  wpCall Try.prog X 51 [d0] (fun v_2 s_3 =>
  optK (unaryA .not v_2) fun v_4 =>
  boolK v_4
   (optK (fillR [(.int .i64 0), (.int .i64 0), .nilslc] []) fun c_5 =>
    optK (wrAgg s_3 3 (.ptr b_0 0) (.agg c_5)) fun s_6 =>
    optK (rdN s_6 3 (.ptr b_0 0)) fun t4_7 =>
    K (.tup [(.agg t4_7), (.bool false), (.int .i64 1)]) s_6)
   (wpCall Try.prog X 45 [links1] (fun v_8 s_9 =>
    optK (negB true (eqV 0 true v_8 (.int .i64 0))) fun v_10 =>
    boolK v_10
     (optK (fillR [(.int .i64 0), (.int .i64 0), .nilslc] []) fun c_11 =>
      optK (wrAgg s_9 3 (.ptr b_0 0) (.agg c_11)) fun s_12 =>
      optK (rdN s_12 3 (.ptr b_0 0)) fun t4_13 =>
      K (.tup [(.agg t4_13), (.bool false), v_8]) s_12)
     (optK (nilCheckA d0) fun v_14 =>
      optK (addOff 3 v_14) fun v_15 =>
      optK (rd1 s_9 v_15) fun v_16 =>
      optK (nilCheckA d0) fun v_17 =>
      optK (addOff 1 v_17) fun v_18 =>
      optK (rd1 s_9 v_18) fun v_19 =>
      optK (getM s_9 v_16 v_19) fun r_20 =>
      optK (extractA (retM (.agg [(.int .i64 0), (.int .i64 0), .nilslc]) true r_20) 0) fun v_21 =>
      optK (extractA (retM (.agg [(.int .i64 0), (.int .i64 0), .nilslc]) true r_20) 1) fun v_22 =>
      newK 24 [(.int .i64 0), (.int .i64 0), .nilslc] (fun b_23 s_24 =>
      (∀ b, s_9 b ≠ none → s_9 b = none → s_24 b = none) →
      optK (wrAgg (add s_9 s_24) 3 (.ptr b_23 0) v_21) fun s_25 =>
      boolK v_22
       (optK (addOff 2 (.ptr b_23 0)) fun v_49 =>
        optK (rd1 s_25 v_49) fun v_50 =>
        wpCall Try.prog X 57 [v_50, links1] (fun v_51 s_52 =>
        vc_lsdb_DB_Own_j0 X d0 links1 (.ptr b_0 0) (.ptr b_23 0) v_22 v_51 K s_52) s_25)
       (vc_lsdb_DB_Own_j0 X d0 links1 (.ptr b_0 0) (.ptr b_23 0) v_22 .undef K s_25)) (frz s_9))) s_3)) s_1) s
def vc_lsdb_DB_Own_ann : Nat → List Nat := fun _ => []
theorem vc_lsdb_DB_Own_eq (X : Told) (d0 : AVal) (links1 : AVal) (K : AVal → Heap → Prop) (s : Heap) : wpC Try.prog X vc_lsdb_DB_Own_ann Try.f38.ntmps none (bodyOf Try.f38) (envOf [d0, links1]) (fun e env s => retK e (resK Try.prog Try.f38.results.toList env (fun vs => K (oneV vs) s) s)) s = vc_lsdb_DB_Own X d0 links1 K s := by kernel_rfl
theorem vc_lsdb_DB_Own_ok {X : Told} (hX : FrX X) (hn : X 38 = none) {d0 : AVal} {links1 : AVal} {K : AVal → Heap → Prop} {s : Heap} (h : vc_lsdb_DB_Own X d0 links1 K s) : wpCall Try.prog X 38 [d0, links1] K s :=
  wpCall_code hX vc_lsdb_DB_Own_ann hn Try.func38 (by kernel_rfl : Try.f38.body = some (bodyOf Try.f38)) (by kernel_rfl) ((vc_lsdb_DB_Own_eq X d0 links1 K s).mpr h)
theorem vc_lsdb_DB_Own_in {d0 : AVal} {links1 : AVal} {K : AVal → Heap → Prop} {s : Heap} (h : vc_lsdb_DB_Own XX d0 links1 K s) : wpCall Try.prog XX 38 [d0, links1] K s := vc_lsdb_DB_Own_ok XX_fr rfl h
/-- (*leafmesh/leafmeshref13.DB).Own (39) -/
def vc_leafmeshref13_DB_Own_j0 (X : Told) (d0 : AVal) (l1 : AVal) (t4 : AVal) (r8 : AVal) (t30 : AVal) (t35 : AVal) (K : AVal → Heap → Prop) (s : Heap) : Prop :=
  optK (pickV t30 t35 (.bool false)) fun v_22 =>
  boolK v_22
   (optK (rdN s 3 r8) fun v_23 =>
    wpCall Try.prog X 59 [(.agg v_23)] (fun v_24 s_25 =>
    optK (wrAgg s_25 3 t4 v_24) fun s_26 =>
    optK (rdN s_26 3 t4) fun t4_27 =>
    K (.tup [(.agg t4_27), (.bool false), (.int .i64 0)]) s_26) s)
   (optK (nilCheckA d0) fun v_28 =>
    optK (addOff 3 v_28) fun v_29 =>
    optK (rd1 s v_29) fun v_30 =>
    optK (arithV .geq v_30 (.int .i64 1073741824)) fun v_31 =>
    boolK v_31
     (optK (fillR [(.int .i64 0), (.int .i64 0), .nilslc] []) fun c_32 =>
      optK (wrAgg s 3 t4 (.agg c_32)) fun s_33 =>
      optK (rdN s_33 3 t4) fun t4_34 =>
      K (.tup [(.agg t4_34), (.bool false), (.int .i64 7)]) s_33)
     (optK (nilCheckA d0) fun v_35 =>
      optK (addOff 3 v_35) fun v_36 =>
      optK (rd1 s v_36) fun v_37 =>
      optK (arithV .add v_37 (.int .i64 1)) fun v_38 =>
      optK (nilCheckA d0) fun v_39 =>
      optK (addOff 3 v_39) fun v_40 =>
      optK (wr1 s v_40 v_38) fun s_41 =>
      optK (nilCheckA d0) fun v_42 =>
      optK (addOff 2 v_42) fun v_43 =>
      optK (rd1 s_41 v_43) fun v_44 =>
      optK (nilCheckA d0) fun v_45 =>
      optK (addOff 1 v_45) fun v_46 =>
      optK (rd1 s_41 v_46) fun v_47 =>
      optK (nilCheckA d0) fun v_48 =>
      optK (addOff 1 v_48) fun v_49 =>
      optK (rd1 s_41 v_49) fun v_50 =>
      optK (nilCheckA d0) fun v_51 =>
      optK (addOff 3 v_51) fun v_52 =>
      optK (rd1 s_41 v_52) fun v_53 =>
      optK (fillR [(.int .i64 0), (.int .i64 0), .nilslc] [(0, 1, v_50), (1, 1, v_53), (2, 1, l1)]) fun c_54 =>
      wpCall Try.prog X 59 [(.agg c_54)] (fun v_55 s_56 =>
      (∀ b, s_41 b ≠ none → s_41 b = none → s_56 b = none) →
      optK (iaddrS 3 v_44 v_47) fun v_57 =>
      optK (wrAgg (add s_41 s_56) 3 v_57 v_55) fun s_58 =>
      optK (nilCheckA d0) fun v_59 =>
      optK (addOff 2 v_59) fun v_60 =>
      optK (rd1 s_58 v_60) fun v_61 =>
      optK (nilCheckA d0) fun v_62 =>
      optK (addOff 1 v_62) fun v_63 =>
      optK (rd1 s_58 v_63) fun v_64 =>
      optK (iaddrS 3 v_61 v_64) fun v_65 =>
      optK (rdN s_58 3 v_65) fun v_66 =>
      wpCall Try.prog X 59 [(.agg v_66)] (fun v_67 s_68 =>
      optK (wrAgg s_68 3 t4 v_67) fun s_69 =>
      optK (rdN s_69 3 t4) fun t4_70 =>
      K (.tup [(.agg t4_70), (.bool true), (.int .i64 0)]) s_69) s_58) (frz s_41)))
def vc_leafmeshref13_DB_Own (X : Told) (d0 : AVal) (l1 : AVal) (K : AVal → Heap → Prop) (s : Heap) : Prop :=
  newK 24 [(.int .i64 0), (.int .i64 0), .nilslc] (fun b_0 s_1 =>
  wpCall Try.prog X 46 [l1] (fun v_2 s_3 =>
  optK (nilCheckA d0) fun v_4 =>
  optK (addOff 2 v_4) fun v_5 =>
  optK (rd1 s_3 v_5) fun v_6 =>
  optK (nilCheckA d0) fun v_7 =>
  optK (addOff 1 v_7) fun v_8 =>
  optK (rd1 s_3 v_8) fun v_9 =>
  optK (iaddrS 3 v_6 v_9) fun v_10 =>
  optK (rdN s_3 3 v_10) fun v_11 =>
  newK 24 [(.int .i64 0), (.int .i64 0), .nilslc] (fun b_12 s_13 =>
  (∀ b, s_3 b ≠ none → s_3 b = none → s_13 b = none) →
  optK (wrAgg (add s_3 s_13) 3 (.ptr b_12 0) (.agg v_11)) fun s_14 =>
  optK (negB true (eqV 0 true v_2 (.int .i64 0))) fun v_15 =>
  boolK v_15
   (optK (fillR [(.int .i64 0), (.int .i64 0), .nilslc] []) fun c_16 =>
    optK (wrAgg s_14 3 (.ptr b_0 0) (.agg c_16)) fun s_17 =>
    optK (rdN s_17 3 (.ptr b_0 0)) fun t4_18 =>
    K (.tup [(.agg t4_18), (.bool false), v_2]) s_17)
   (optK (addOff 1 (.ptr b_12 0)) fun v_19 =>
    optK (rd1 s_14 v_19) fun v_20 =>
    optK (arithV .gtr v_20 (.int .i64 0)) fun v_21 =>
    boolK v_21
     (optK (addOff 2 (.ptr b_12 0)) fun v_71 =>
      optK (rd1 s_14 v_71) fun v_72 =>
      wpCall Try.prog X 50 [v_72, l1] (fun v_73 s_74 =>
      optK (negB false (eqV 0 true v_73 (.int .i64 0))) fun v_75 =>
      vc_leafmeshref13_DB_Own_j0 X d0 l1 (.ptr b_0 0) (.ptr b_12 0) v_21 v_75 K s_74) s_14)
     (vc_leafmeshref13_DB_Own_j0 X d0 l1 (.ptr b_0 0) (.ptr b_12 0) v_21 .undef K s_14))) (frz s_3)) s_1) s
def vc_leafmeshref13_DB_Own_ann : Nat → List Nat := fun _ => []
theorem vc_leafmeshref13_DB_Own_eq (X : Told) (d0 : AVal) (l1 : AVal) (K : AVal → Heap → Prop) (s : Heap) : wpC Try.prog X vc_leafmeshref13_DB_Own_ann Try.f39.ntmps none (bodyOf Try.f39) (envOf [d0, l1]) (fun e env s => retK e (resK Try.prog Try.f39.results.toList env (fun vs => K (oneV vs) s) s)) s = vc_leafmeshref13_DB_Own X d0 l1 K s := by kernel_rfl
theorem vc_leafmeshref13_DB_Own_ok {X : Told} (hX : FrX X) (hn : X 39 = none) {d0 : AVal} {l1 : AVal} {K : AVal → Heap → Prop} {s : Heap} (h : vc_leafmeshref13_DB_Own X d0 l1 K s) : wpCall Try.prog X 39 [d0, l1] K s :=
  wpCall_code hX vc_leafmeshref13_DB_Own_ann hn Try.func39 (by kernel_rfl : Try.f39.body = some (bodyOf Try.f39)) (by kernel_rfl) ((vc_leafmeshref13_DB_Own_eq X d0 l1 K s).mpr h)
theorem vc_leafmeshref13_DB_Own_in {d0 : AVal} {l1 : AVal} {K : AVal → Heap → Prop} {s : Heap} (h : vc_leafmeshref13_DB_Own XX d0 l1 K s) : wpCall Try.prog XX 39 [d0, l1] K s := vc_leafmeshref13_DB_Own_ok XX_fr rfl h
/-- leafmesh/leafmeshlaw13.over (40) -/
def vc_leafmeshlaw13_over_l1 (X : Told) (l0 : AVal) (i2 : AVal) (k3 : AVal) (I1 : List AVal → Heap → Nat → Prop) (m1 : Nat) (I0 : List AVal → Heap → Nat → Prop) (m0 : Nat) (K : AVal → Heap → Prop) (s : Heap) : Prop :=
  optK (iaddrS 3 l0 i2) fun v_3 =>
  optK (addOff 2 v_3) fun v_4 =>
  optK (rd1 s v_4) fun v_5 =>
  optK (lenOfA v_5) fun v_6 =>
  optK (arithV .lss k3 (.int .i64 v_6)) fun v_8 =>
  boolK v_8
   (optK (iaddrS 3 l0 i2) fun v_9 =>
    optK (addOff 2 v_9) fun v_10 =>
    optK (rd1 s v_10) fun v_11 =>
    optK (iaddrS 1 v_11 k3) fun v_12 =>
    optK (wr1 s v_12 (.int .i64 (-77))) fun s_13 =>
    optK (arithV .add k3 (.int .i64 1)) fun v_14 =>
    ∃ m', m' < m1 ∧ I1 [v_14] s_13 m')
   (optK (arithV .add i2 (.int .i64 1)) fun v_15 =>
    ∃ m', m' < m0 ∧ I0 [v_15] s m')
def vc_leafmeshlaw13_over_l0 (X : Told) (l0 : AVal) (i2 : AVal) (I0 : List AVal → Heap → Nat → Prop) (m0 : Nat) (K : AVal → Heap → Prop) (s : Heap) : Prop :=
  optK (lenOfA l0) fun v_0 =>
  optK (arithV .lss i2 (.int .i64 v_0)) fun v_2 =>
  boolK v_2
   (∃ I1 : List AVal → Heap → Nat → Prop, (∃ m, I1 [(.int .i64 0)] s m) ∧ ∀ (f : Env) (s : Heap) (m1 : Nat), I1 [f 3] s m1 →
      vc_leafmeshlaw13_over_l1 X l0 i2 (f 3) I1 m1 I0 m0 K s)
   (K (.tup []) s)
def vc_leafmeshlaw13_over (X : Told) (l0 : AVal) (K : AVal → Heap → Prop) (s : Heap) : Prop :=
  ∃ I0 : List AVal → Heap → Nat → Prop, (∃ m, I0 [(.int .i64 0)] s m) ∧ ∀ (f : Env) (s : Heap) (m0 : Nat), I0 [f 2] s m0 →
    vc_leafmeshlaw13_over_l0 X l0 (f 2) I0 m0 K s
def vc_leafmeshlaw13_over_ann : Nat → List Nat := fun k => cond (Nat.beq k 2) [2] (cond (Nat.beq k 8) [3] ([]))
theorem vc_leafmeshlaw13_over_eq (X : Told) (l0 : AVal) (K : AVal → Heap → Prop) (s : Heap) : wpC Try.prog X vc_leafmeshlaw13_over_ann Try.f40.ntmps none (bodyOf Try.f40) (envOf [l0]) (fun e env s => retK e (resK Try.prog Try.f40.results.toList env (fun vs => K (oneV vs) s) s)) s = vc_leafmeshlaw13_over X l0 K s := by kernel_rfl
theorem vc_leafmeshlaw13_over_ok {X : Told} (hX : FrX X) (hn : X 40 = none) {l0 : AVal} {K : AVal → Heap → Prop} {s : Heap} (h : vc_leafmeshlaw13_over X l0 K s) : wpCall Try.prog X 40 [l0] K s :=
  wpCall_code hX vc_leafmeshlaw13_over_ann hn Try.func40 (by kernel_rfl : Try.f40.body = some (bodyOf Try.f40)) (by kernel_rfl) ((vc_leafmeshlaw13_over_eq X l0 K s).mpr h)
theorem vc_leafmeshlaw13_over_in {l0 : AVal} {K : AVal → Heap → Prop} {s : Heap} (h : vc_leafmeshlaw13_over XX l0 K s) : wpCall Try.prog XX 40 [l0] K s := vc_leafmeshlaw13_over_ok XX_fr rfl h
/-- (*leafmesh/leafmeshref13.DB).Receive (43) -/
def vc_leafmeshref13_DB_Receive_j2 (X : Told) (d0 : AVal) (r3 : AVal) (mine8 : AVal) (t66 : AVal) (t68 : AVal) (K : AVal → Heap → Prop) (s : Heap) : Prop :=
  optK (pickV t66 t68 (.bool false)) fun v_48 =>
  boolK v_48
   (K (.tup [(.int .i64 2), (.int .i64 0)]) s)
   (optK (unaryA .not mine8) fun v_49 =>
    boolK v_49
     (optK (nilCheckA d0) fun v_50 =>
      optK (addOff 2 v_50) fun v_51 =>
      optK (rd1 s v_51) fun v_52 =>
      optK (addOff 0 r3) fun v_53 =>
      optK (rd1 s v_53) fun v_54 =>
      optK (rdN s 3 r3) fun v_55 =>
      wpCall Try.prog X 59 [(.agg v_55)] (fun v_56 s_57 =>
      (∀ b, s b ≠ none → s b = none → s_57 b = none) →
      optK (iaddrS 3 v_52 v_54) fun v_58 =>
      optK (wrAgg (add s s_57) 3 v_58 v_56) fun s_59 =>
      K (.tup [(.int .i64 1), (.int .i64 0)]) s_59) (frz s))
     (optK (addOff 1 r3) fun v_60 =>
      optK (rd1 s v_60) fun v_61 =>
      optK (arithV .geq v_61 (.int .i64 1073741824)) fun v_62 =>
      boolK v_62
       (K (.tup [(.int .i64 0), (.int .i64 7)]) s)
       (optK (addOff 1 r3) fun v_63 =>
        optK (rd1 s v_63) fun v_64 =>
        optK (arithV .add v_64 (.int .i64 1)) fun v_65 =>
        optK (nilCheckA d0) fun v_66 =>
        optK (addOff 3 v_66) fun v_67 =>
        optK (wr1 s v_67 v_65) fun s_68 =>
        optK (nilCheckA d0) fun v_69 =>
        optK (addOff 2 v_69) fun v_70 =>
        optK (rd1 s_68 v_70) fun v_71 =>
        optK (nilCheckA d0) fun v_72 =>
        optK (addOff 1 v_72) fun v_73 =>
        optK (rd1 s_68 v_73) fun v_74 =>
        optK (nilCheckA d0) fun v_75 =>
        optK (addOff 3 v_75) fun v_76 =>
        optK (rd1 s_68 v_76) fun v_77 =>
        optK (iaddrS 3 v_71 v_74) fun v_78 =>
        optK (addOff 1 v_78) fun v_79 =>
        optK (wr1 s_68 v_79 v_77) fun s_80 =>
        K (.tup [(.int .i64 3), (.int .i64 0)]) s_80)))
def vc_leafmeshref13_DB_Receive_j1 (X : Told) (d0 : AVal) (r3 : AVal) (t7 : AVal) (mine8 : AVal) (k9 : AVal) (t58 : AVal) (t60 : AVal) (K : AVal → Heap → Prop) (s : Heap) : Prop :=
  optK (pickV t58 t60 (.bool false)) fun v_44 =>
  boolK v_44
   (K (.tup [(.int .i64 0), (.int .i64 0)]) s)
   (optK (addOff 1 t7) fun v_45 =>
    optK (rd1 s v_45) fun v_46 =>
    optK (arithV .gtr v_46 (.int .i64 0)) fun v_47 =>
    boolK v_47
     (optK (arithV .lss k9 (.int .i64 0)) fun v_81 =>
      vc_leafmeshref13_DB_Receive_j2 X d0 r3 mine8 v_47 v_81 K s)
     (vc_leafmeshref13_DB_Receive_j2 X d0 r3 mine8 v_47 .undef K s))
def vc_leafmeshref13_DB_Receive_j0 (X : Told) (d0 : AVal) (r3 : AVal) (t7 : AVal) (mine8 : AVal) (k9 : AVal) (t39 : AVal) (t42 : AVal) (K : AVal → Heap → Prop) (s : Heap) : Prop :=
  optK (pickV t39 t42 (.bool false)) fun v_29 =>
  boolK v_29
   (optK (nilCheckA d0) fun v_30 =>
    optK (addOff 3 v_30) fun v_31 =>
    optK (rd1 s v_31) fun v_32 =>
    optK (addOff 1 r3) fun v_33 =>
    optK (rd1 s v_33) fun v_34 =>
    optK (foldA max2A v_32 [v_34]) fun v_37 =>
    optK (nilCheckA d0) fun v_38 =>
    optK (addOff 3 v_38) fun v_39 =>
    optK (wr1 s v_39 v_37) fun s_40 =>
    K (.tup [(.int .i64 0), (.int .i64 0)]) s_40)
   (optK (addOff 1 t7) fun v_41 =>
    optK (rd1 s v_41) fun v_42 =>
    optK (arithV .gtr v_42 (.int .i64 0)) fun v_43 =>
    boolK v_43
     (optK (negB false (eqV 0 true k9 (.int .i64 0))) fun v_82 =>
      vc_leafmeshref13_DB_Receive_j1 X d0 r3 t7 mine8 k9 v_43 v_82 K s)
     (vc_leafmeshref13_DB_Receive_j1 X d0 r3 t7 mine8 k9 v_43 .undef K s))
def vc_leafmeshref13_DB_Receive (X : Told) (d0 : AVal) (r1 : AVal) (K : AVal → Heap → Prop) (s : Heap) : Prop :=
  boxK 24 r1 (fun b_0 s_1 =>
  optK (nilCheckA d0) fun v_2 =>
  optK (addOff 0 v_2) fun v_3 =>
  optK (rd1 s_1 v_3) fun v_4 =>
  optK (rdN s_1 3 b_0) fun v_5 =>
  wpCall Try.prog X 13 [v_4, (.agg v_5)] (fun v_6 s_7 =>
  optK (negB true (eqV 0 true v_6 (.int .i64 0))) fun v_8 =>
  boolK v_8
   (K (.tup [(.int .i64 0), v_6]) s_7)
   (optK (nilCheckA d0) fun v_9 =>
    optK (addOff 2 v_9) fun v_10 =>
    optK (rd1 s_7 v_10) fun v_11 =>
    optK (addOff 0 b_0) fun v_12 =>
    optK (rd1 s_7 v_12) fun v_13 =>
    optK (iaddrS 3 v_11 v_13) fun v_14 =>
    optK (rdN s_7 3 v_14) fun v_15 =>
    newK 24 [(.int .i64 0), (.int .i64 0), .nilslc] (fun b_16 s_17 =>
    (∀ b, s_7 b ≠ none → s_7 b = none → s_17 b = none) →
    optK (wrAgg (add s_7 s_17) 3 (.ptr b_16 0) (.agg v_15)) fun s_18 =>
    optK (addOff 0 b_0) fun v_19 =>
    optK (rd1 s_18 v_19) fun v_20 =>
    optK (nilCheckA d0) fun v_21 =>
    optK (addOff 1 v_21) fun v_22 =>
    optK (rd1 s_18 v_22) fun v_23 =>
    optK (negB false (eqV 0 false v_20 v_23)) fun v_24 =>
    optK (rdN s_18 3 b_0) fun v_25 =>
    optK (rdN s_18 3 (.ptr b_16 0)) fun v_26 =>
    wpCall Try.prog X 15 [(.agg v_25), (.agg v_26)] (fun v_27 s_28 =>
    boolK v_24
     (optK (addOff 1 (.ptr b_16 0)) fun v_83 =>
      optK (rd1 s_28 v_83) fun v_84 =>
      optK (negB false (eqV 0 true v_84 (.int .i64 0))) fun v_85 =>
      vc_leafmeshref13_DB_Receive_j0 X d0 b_0 (.ptr b_16 0) v_24 v_27 v_24 v_85 K s_28)
     (vc_leafmeshref13_DB_Receive_j0 X d0 b_0 (.ptr b_16 0) v_24 v_27 v_24 .undef K s_28)) s_18) (frz s_7))) s_1) s
def vc_leafmeshref13_DB_Receive_ann : Nat → List Nat := fun _ => []
theorem vc_leafmeshref13_DB_Receive_eq (X : Told) (d0 : AVal) (r1 : AVal) (K : AVal → Heap → Prop) (s : Heap) : wpC Try.prog X vc_leafmeshref13_DB_Receive_ann Try.f43.ntmps none (bodyOf Try.f43) (envOf [d0, r1]) (fun e env s => retK e (resK Try.prog Try.f43.results.toList env (fun vs => K (oneV vs) s) s)) s = vc_leafmeshref13_DB_Receive X d0 r1 K s := by kernel_rfl
theorem vc_leafmeshref13_DB_Receive_ok {X : Told} (hX : FrX X) (hn : X 43 = none) {d0 : AVal} {r1 : AVal} {K : AVal → Heap → Prop} {s : Heap} (h : vc_leafmeshref13_DB_Receive X d0 r1 K s) : wpCall Try.prog X 43 [d0, r1] K s :=
  wpCall_code hX vc_leafmeshref13_DB_Receive_ann hn Try.func43 (by kernel_rfl : Try.f43.body = some (bodyOf Try.f43)) (by kernel_rfl) ((vc_leafmeshref13_DB_Receive_eq X d0 r1 K s).mpr h)
theorem vc_leafmeshref13_DB_Receive_in {d0 : AVal} {r1 : AVal} {K : AVal → Heap → Prop} {s : Heap} (h : vc_leafmeshref13_DB_Receive XX d0 r1 K s) : wpCall Try.prog XX 43 [d0, r1] K s := vc_leafmeshref13_DB_Receive_ok XX_fr rfl h
/-- leafmesh/leafmeshlaw13.same (44) -/
def vc_leafmeshlaw13_same_j2 (X : Told) (n9 : AVal) (x10 : AVal) (t58 : AVal) (t61 : AVal) (I1 : List AVal → Heap → Nat → Prop) (m1 : Nat) (K : AVal → Heap → Prop) (s : Heap) : Prop :=
  optK (pickV t58 (.bool true) t61) fun v_33 =>
  boolK v_33
   (K (.bool false) s)
   (optK (rdN s 3 x10) fun v_34 =>
    optK (fillR (repl 1 [(.int .i64 0), (.int .i64 0), .nilslc]) [(0, 3, (.agg v_34))]) fun c_35 => allOne c_35 = true ∧ newK 24 c_35 (fun b_36 s_37 =>
    wpCall Try.prog X 40 [(.slc b_36 0 1 (some 1) 3)] (fun v_38 s_39 =>
    optK (arithV .add n9 (.int .i64 1)) fun v_40 =>
    ∃ m', m' < m1 ∧ I1 [v_40] s_39 m') s_37) s)
def vc_leafmeshlaw13_same_l1 (X : Told) (d0 : AVal) (o1 : AVal) (n9 : AVal) (I1 : List AVal → Heap → Nat → Prop) (m1 : Nat) (K : AVal → Heap → Prop) (s : Heap) : Prop :=
  optK (nilCheckA o1) fun v_10 =>
  optK (addOff 0 v_10) fun v_11 =>
  optK (rd1 s v_11) fun v_12 =>
  optK (arithV .leq n9 v_12) fun v_13 =>
  boolK v_13
   (wpCall Try.prog X 33 [d0, n9] (fun v_14 s_15 =>
    optK (extractA v_14 0) fun v_16 =>
    optK (extractA v_14 1) fun v_17 =>
    newK 24 [(.int .i64 0), (.int .i64 0), .nilslc] (fun b_18 s_19 =>
    optK (wrAgg s_19 3 (.ptr b_18 0) v_16) fun s_20 =>
    wpCall Try.prog X 62 [o1, n9] (fun v_21 s_22 =>
    optK (extractA v_21 0) fun v_23 =>
    optK (extractA v_21 1) fun v_24 =>
    newK 24 [(.int .i64 0), (.int .i64 0), .nilslc] (fun b_25 s_26 =>
    optK (wrAgg s_26 3 (.ptr b_25 0) v_23) fun s_27 =>
    optK (rdN s_27 3 (.ptr b_18 0)) fun v_28 =>
    optK (rdN s_27 3 (.ptr b_25 0)) fun v_29 =>
    wpCall Try.prog X 16 [(.agg v_28), (.agg v_29)] (fun v_30 s_31 =>
    optK (unaryA .not v_30) fun v_32 =>
    boolK v_32
     (vc_leafmeshlaw13_same_j2 X n9 (.ptr b_18 0) v_32 .undef I1 m1 K s_31)
     (optK (negB true (eqV 1 false v_17 v_24)) fun v_41 =>
      vc_leafmeshlaw13_same_j2 X n9 (.ptr b_18 0) v_32 v_41 I1 m1 K s_31)) s_27) s_22) s_20) s_15) s)
   (K (.bool true) s)
def vc_leafmeshlaw13_same_j0 (X : Told) (d0 : AVal) (o1 : AVal) (a7 : AVal) (t22 : AVal) (t30 : AVal) (K : AVal → Heap → Prop) (s : Heap) : Prop :=
  optK (pickV t22 (.bool true) t30) fun v_7 =>
  boolK v_7
   (K (.bool false) s)
   (wpCall Try.prog X 40 [a7] (fun v_8 s_9 =>
    ∃ I1 : List AVal → Heap → Nat → Prop, (∃ m, I1 [(.int .i64 (-1))] s_9 m) ∧ ∀ (f : Env) (s : Heap) (m1 : Nat), I1 [f 9] s m1 →
      vc_leafmeshlaw13_same_l1 X d0 o1 (f 9) I1 m1 K s) s)
def vc_leafmeshlaw13_same (X : Told) (d0 : AVal) (o1 : AVal) (links2 : AVal) (K : AVal → Heap → Prop) (s : Heap) : Prop :=
  wpCall Try.prog X 18 [d0] (fun v_0 s_1 =>
  wpCall Try.prog X 60 [o1] (fun v_2 s_3 =>
  wpCall Try.prog X 22 [v_0, v_2] (fun v_4 s_5 =>
  optK (unaryA .not v_4) fun v_6 =>
  boolK v_6
   (vc_leafmeshlaw13_same_j0 X d0 o1 v_0 v_6 .undef K s_5)
   (wpCall Try.prog X 25 [d0, links2] (fun v_42 s_43 =>
    wpCall Try.prog X 61 [o1, links2] (fun v_44 s_45 =>
    wpCall Try.prog X 26 [v_42, v_44] (fun v_46 s_47 =>
    optK (unaryA .not v_46) fun v_48 =>
    vc_leafmeshlaw13_same_j0 X d0 o1 v_0 v_6 v_48 K s_47) s_45) s_43) s_5)) s_3) s_1) s
def vc_leafmeshlaw13_same_ann : Nat → List Nat := fun k => cond (Nat.beq k 12) [9] ([])
theorem vc_leafmeshlaw13_same_eq (X : Told) (d0 : AVal) (o1 : AVal) (links2 : AVal) (K : AVal → Heap → Prop) (s : Heap) : wpC Try.prog X vc_leafmeshlaw13_same_ann Try.f44.ntmps none (bodyOf Try.f44) (envOf [d0, o1, links2]) (fun e env s => retK e (resK Try.prog Try.f44.results.toList env (fun vs => K (oneV vs) s) s)) s = vc_leafmeshlaw13_same X d0 o1 links2 K s := by kernel_rfl
theorem vc_leafmeshlaw13_same_ok {X : Told} (hX : FrX X) (hn : X 44 = none) {d0 : AVal} {o1 : AVal} {links2 : AVal} {K : AVal → Heap → Prop} {s : Heap} (h : vc_leafmeshlaw13_same X d0 o1 links2 K s) : wpCall Try.prog X 44 [d0, o1, links2] K s :=
  wpCall_code hX vc_leafmeshlaw13_same_ann hn Try.func44 (by kernel_rfl : Try.f44.body = some (bodyOf Try.f44)) (by kernel_rfl) ((vc_leafmeshlaw13_same_eq X d0 o1 links2 K s).mpr h)
theorem vc_leafmeshlaw13_same_in {d0 : AVal} {o1 : AVal} {links2 : AVal} {K : AVal → Heap → Prop} {s : Heap} (h : vc_leafmeshlaw13_same XX d0 o1 links2 K s) : wpCall Try.prog XX 44 [d0, o1, links2] K s := vc_leafmeshlaw13_same_ok XX_fr rfl h
/-- leafmesh/lsdb.checkLinks (45) -/
def vc_lsdb_checkLinks_j2 (X : Told) (t7 : AVal) (t20 : AVal) (t27 : AVal) (I0 : List AVal → Heap → Nat → Prop) (m0 : Nat) (K : AVal → Heap → Prop) (s : Heap) : Prop :=
  optK (pickV t20 t27 (.bool false)) fun v_8 =>
  boolK v_8
   (K (.int .i64 10) s)
   (optK (arithV .add t7 (.int .i64 1)) fun v_9 =>
    ∃ m', m' < m0 ∧ I0 [v_9] s m')
def vc_lsdb_checkLinks_j1 (X : Told) (links0 : AVal) (i3 : AVal) (l4 : AVal) (t7 : AVal) (t14 : AVal) (t16 : AVal) (I0 : List AVal → Heap → Nat → Prop) (m0 : Nat) (K : AVal → Heap → Prop) (s : Heap) : Prop :=
  optK (pickV t14 (.bool true) t16) fun v_6 =>
  boolK v_6
   (K (.int .i64 2) s)
   (optK (arithV .gtr i3 (.int .i64 0)) fun v_7 =>
    boolK v_7
     (optK (arithV .sub i3 (.int .i64 1)) fun v_10 =>
      optK (iaddrS 1 links0 v_10) fun v_11 =>
      optK (rd1 s v_11) fun v_12 =>
      optK (arithV .leq l4 v_12) fun v_13 =>
      vc_lsdb_checkLinks_j2 X t7 v_7 v_13 I0 m0 K s)
     (vc_lsdb_checkLinks_j2 X t7 v_7 .undef I0 m0 K s))
def vc_lsdb_checkLinks_l0 (X : Told) (links0 : AVal) (t5 : AVal) (t6 : AVal) (t7 : AVal) (I0 : List AVal → Heap → Nat → Prop) (m0 : Nat) (K : AVal → Heap → Prop) (s : Heap) : Prop :=
  optK (arithV .lss t7 t6) fun v_2 =>
  boolK v_2
   (optK (iaddrS 1 t5 t7) fun v_3 =>
    optK (rd1 s v_3) fun v_4 =>
    optK (arithV .lss v_4 (.int .i64 0)) fun v_5 =>
    boolK v_5
     (vc_lsdb_checkLinks_j1 X links0 t7 v_4 t7 v_5 .undef I0 m0 K s)
     (optK (arithV .geq v_4 (.int .i64 128)) fun v_14 =>
      vc_lsdb_checkLinks_j1 X links0 t7 v_4 t7 v_5 v_14 I0 m0 K s))
   (K (.int .i64 0) s)
def vc_lsdb_checkLinks (X : Told) (links0 : AVal) (K : AVal → Heap → Prop) (s : Heap) : Prop :=
  optK (lenOfA links0) fun v_0 =>
  ∃ I0 : List AVal → Heap → Nat → Prop, (∃ m, I0 [(.int .i64 0)] s m) ∧ ∀ (f : Env) (s : Heap) (m0 : Nat), I0 [f 7] s m0 →
    vc_lsdb_checkLinks_l0 X links0 links0 (.int .i64 v_0) (f 7) I0 m0 K s
def vc_lsdb_checkLinks_ann : Nat → List Nat := fun k => cond (Nat.beq k 4) [7] ([])
theorem vc_lsdb_checkLinks_eq (X : Told) (links0 : AVal) (K : AVal → Heap → Prop) (s : Heap) : wpC Try.prog X vc_lsdb_checkLinks_ann Try.f45.ntmps none (bodyOf Try.f45) (envOf [links0]) (fun e env s => retK e (resK Try.prog Try.f45.results.toList env (fun vs => K (oneV vs) s) s)) s = vc_lsdb_checkLinks X links0 K s := by kernel_rfl
theorem vc_lsdb_checkLinks_ok {X : Told} (hX : FrX X) (hn : X 45 = none) {links0 : AVal} {K : AVal → Heap → Prop} {s : Heap} (h : vc_lsdb_checkLinks X links0 K s) : wpCall Try.prog X 45 [links0] K s :=
  wpCall_code hX vc_lsdb_checkLinks_ann hn Try.func45 (by kernel_rfl : Try.f45.body = some (bodyOf Try.f45)) (by kernel_rfl) ((vc_lsdb_checkLinks_eq X links0 K s).mpr h)
theorem vc_lsdb_checkLinks_in {links0 : AVal} {K : AVal → Heap → Prop} {s : Heap} (h : vc_lsdb_checkLinks XX links0 K s) : wpCall Try.prog XX 45 [links0] K s := vc_lsdb_checkLinks_ok XX_fr rfl h
/-- leafmesh/leafmeshref13.links (46) -/
def vc_leafmeshref13_links_j2 (X : Told) (i3 : AVal) (t24 : AVal) (t34 : AVal) (I0 : List AVal → Heap → Nat → Prop) (m0 : Nat) (K : AVal → Heap → Prop) (s : Heap) : Prop :=
  optK (pickV t24 t34 (.bool false)) fun v_8 =>
  boolK v_8
   (K (.int .i64 10) s)
   (optK (arithV .add i3 (.int .i64 1)) fun v_9 =>
    ∃ m', m' < m0 ∧ I0 [v_9] s m')
def vc_leafmeshref13_links_j1 (X : Told) (l0 : AVal) (i3 : AVal) (t15 : AVal) (t20 : AVal) (I0 : List AVal → Heap → Nat → Prop) (m0 : Nat) (K : AVal → Heap → Prop) (s : Heap) : Prop :=
  optK (pickV t15 (.bool true) t20) fun v_6 =>
  boolK v_6
   (K (.int .i64 2) s)
   (optK (arithV .gtr i3 (.int .i64 0)) fun v_7 =>
    boolK v_7
     (optK (iaddrS 1 l0 i3) fun v_10 =>
      optK (rd1 s v_10) fun v_11 =>
      optK (arithV .sub i3 (.int .i64 1)) fun v_12 =>
      optK (iaddrS 1 l0 v_12) fun v_13 =>
      optK (rd1 s v_13) fun v_14 =>
      optK (arithV .leq v_11 v_14) fun v_15 =>
      vc_leafmeshref13_links_j2 X i3 v_7 v_15 I0 m0 K s)
     (vc_leafmeshref13_links_j2 X i3 v_7 .undef I0 m0 K s))
def vc_leafmeshref13_links_l0 (X : Told) (l0 : AVal) (i3 : AVal) (I0 : List AVal → Heap → Nat → Prop) (m0 : Nat) (K : AVal → Heap → Prop) (s : Heap) : Prop :=
  optK (lenOfA l0) fun v_0 =>
  optK (arithV .lss i3 (.int .i64 v_0)) fun v_2 =>
  boolK v_2
   (optK (iaddrS 1 l0 i3) fun v_3 =>
    optK (rd1 s v_3) fun v_4 =>
    optK (arithV .lss v_4 (.int .i64 0)) fun v_5 =>
    boolK v_5
     (vc_leafmeshref13_links_j1 X l0 i3 v_5 .undef I0 m0 K s)
     (optK (iaddrS 1 l0 i3) fun v_16 =>
      optK (rd1 s v_16) fun v_17 =>
      optK (arithV .geq v_17 (.int .i64 128)) fun v_18 =>
      vc_leafmeshref13_links_j1 X l0 i3 v_5 v_18 I0 m0 K s))
   (K (.int .i64 0) s)
def vc_leafmeshref13_links (X : Told) (l0 : AVal) (K : AVal → Heap → Prop) (s : Heap) : Prop :=
  ∃ I0 : List AVal → Heap → Nat → Prop, (∃ m, I0 [(.int .i64 0)] s m) ∧ ∀ (f : Env) (s : Heap) (m0 : Nat), I0 [f 3] s m0 →
    vc_leafmeshref13_links_l0 X l0 (f 3) I0 m0 K s
def vc_leafmeshref13_links_ann : Nat → List Nat := fun k => cond (Nat.beq k 4) [3] ([])
theorem vc_leafmeshref13_links_eq (X : Told) (l0 : AVal) (K : AVal → Heap → Prop) (s : Heap) : wpC Try.prog X vc_leafmeshref13_links_ann Try.f46.ntmps none (bodyOf Try.f46) (envOf [l0]) (fun e env s => retK e (resK Try.prog Try.f46.results.toList env (fun vs => K (oneV vs) s) s)) s = vc_leafmeshref13_links X l0 K s := by kernel_rfl
theorem vc_leafmeshref13_links_ok {X : Told} (hX : FrX X) (hn : X 46 = none) {l0 : AVal} {K : AVal → Heap → Prop} {s : Heap} (h : vc_leafmeshref13_links X l0 K s) : wpCall Try.prog X 46 [l0] K s :=
  wpCall_code hX vc_leafmeshref13_links_ann hn Try.func46 (by kernel_rfl : Try.f46.body = some (bodyOf Try.f46)) (by kernel_rfl) ((vc_leafmeshref13_links_eq X l0 K s).mpr h)
theorem vc_leafmeshref13_links_in {l0 : AVal} {K : AVal → Heap → Prop} {s : Heap} (h : vc_leafmeshref13_links XX l0 K s) : wpCall Try.prog XX 46 [l0] K s := vc_leafmeshref13_links_ok XX_fr rfl h
/-- cmp.Or[int] (47) -/
def vc_cmp_Or_int__l0 (X : Told) (zero3 : AVal) (t6 : AVal) (t7 : AVal) (t8 : AVal) (I0 : List AVal → Heap → Nat → Prop) (m0 : Nat) (K : AVal → Heap → Prop) (s : Heap) : Prop :=
  optK (arithV .lss t8 t7) fun v_2 =>
  boolK v_2
   (optK (iaddrS 1 t6 t8) fun v_3 =>
    optK (rd1 s v_3) fun v_4 =>
    optK (negB true (eqV 0 false v_4 zero3)) fun v_5 =>
    boolK v_5
     (K v_4 s)
     (optK (arithV .add t8 (.int .i64 1)) fun v_6 =>
      ∃ m', m' < m0 ∧ I0 [v_6] s m'))
   (K zero3 s)
def vc_cmp_Or_int_ (X : Told) (vals0 : AVal) (K : AVal → Heap → Prop) (s : Heap) : Prop :=
  optK (lenOfA vals0) fun v_0 =>
  ∃ I0 : List AVal → Heap → Nat → Prop, (∃ m, I0 [(.int .i64 0)] s m) ∧ ∀ (f : Env) (s : Heap) (m0 : Nat), I0 [f 8] s m0 →
    vc_cmp_Or_int__l0 X (.int .i64 0) vals0 (.int .i64 v_0) (f 8) I0 m0 K s
def vc_cmp_Or_int__ann : Nat → List Nat := fun k => cond (Nat.beq k 6) [8] ([])
theorem vc_cmp_Or_int__eq (X : Told) (vals0 : AVal) (K : AVal → Heap → Prop) (s : Heap) : wpC Try.prog X vc_cmp_Or_int__ann Try.f47.ntmps none (bodyOf Try.f47) (envOf [vals0]) (fun e env s => retK e (resK Try.prog Try.f47.results.toList env (fun vs => K (oneV vs) s) s)) s = vc_cmp_Or_int_ X vals0 K s := by kernel_rfl
theorem vc_cmp_Or_int__ok {X : Told} (hX : FrX X) (hn : X 47 = none) {vals0 : AVal} {K : AVal → Heap → Prop} {s : Heap} (h : vc_cmp_Or_int_ X vals0 K s) : wpCall Try.prog X 47 [vals0] K s :=
  wpCall_code hX vc_cmp_Or_int__ann hn Try.func47 (by kernel_rfl : Try.f47.body = some (bodyOf Try.f47)) (by kernel_rfl) ((vc_cmp_Or_int__eq X vals0 K s).mpr h)
theorem vc_cmp_Or_int__in {vals0 : AVal} {K : AVal → Heap → Prop} {s : Heap} (h : vc_cmp_Or_int_ XX vals0 K s) : wpCall Try.prog XX 47 [vals0] K s := vc_cmp_Or_int__ok XX_fr rfl h
/-- cmp.Compare[int] (48) -/
def vc_cmp_Compare_int_ (X : Told) (x0 : AVal) (y1 : AVal) (K : AVal → Heap → Prop) (s : Heap) : Prop :=
  wpCall Try.prog X 63 [x0] (fun v_0 s_1 =>
  wpCall Try.prog X 63 [y1] (fun v_2 s_3 =>
  boolK v_0
   (boolK v_2
     (K (.int .i64 0) s_3)
     (K (.int .i64 (-1)) s_3))
   (boolK v_2
     (K (.int .i64 1) s_3)
     (optK (arithV .lss x0 y1) fun v_4 =>
      boolK v_4
       (K (.int .i64 (-1)) s_3)
       (optK (arithV .gtr x0 y1) fun v_5 =>
        boolK v_5
         (K (.int .i64 1) s_3)
         (K (.int .i64 0) s_3))))) s_1) s
def vc_cmp_Compare_int__ann : Nat → List Nat := fun _ => []
theorem vc_cmp_Compare_int__eq (X : Told) (x0 : AVal) (y1 : AVal) (K : AVal → Heap → Prop) (s : Heap) : wpC Try.prog X vc_cmp_Compare_int__ann Try.f48.ntmps none (bodyOf Try.f48) (envOf [x0, y1]) (fun e env s => retK e (resK Try.prog Try.f48.results.toList env (fun vs => K (oneV vs) s) s)) s = vc_cmp_Compare_int_ X x0 y1 K s := by kernel_rfl
theorem vc_cmp_Compare_int__ok {X : Told} (hX : FrX X) (hn : X 48 = none) {x0 : AVal} {y1 : AVal} {K : AVal → Heap → Prop} {s : Heap} (h : vc_cmp_Compare_int_ X x0 y1 K s) : wpCall Try.prog X 48 [x0, y1] K s :=
  wpCall_code hX vc_cmp_Compare_int__ann hn Try.func48 (by kernel_rfl : Try.f48.body = some (bodyOf Try.f48)) (by kernel_rfl) ((vc_cmp_Compare_int__eq X x0 y1 K s).mpr h)
theorem vc_cmp_Compare_int__in {x0 : AVal} {y1 : AVal} {K : AVal → Heap → Prop} {s : Heap} (h : vc_cmp_Compare_int_ XX x0 y1 K s) : wpCall Try.prog XX 48 [x0, y1] K s := vc_cmp_Compare_int__ok XX_fr rfl h
/-- slices.Compare[[]int,int] (49) -/
def vc_slices_Compare___int_int__l0 (X : Told) (s10 : AVal) (s21 : AVal) (t9 : AVal) (t10 : AVal) (t11 : AVal) (I0 : List AVal → Heap → Nat → Prop) (m0 : Nat) (K : AVal → Heap → Prop) (s : Heap) : Prop :=
  optK (arithV .lss t11 t10) fun v_2 =>
  boolK v_2
   (optK (iaddrS 1 t9 t11) fun v_3 =>
    optK (rd1 s v_3) fun v_4 =>
    optK (lenOfA s21) fun v_5 =>
    optK (arithV .geq t11 (.int .i64 v_5)) fun v_7 =>
    boolK v_7
     (K (.int .i64 1) s)
     (optK (iaddrS 1 s21 t11) fun v_8 =>
      optK (rd1 s v_8) fun v_9 =>
      wpCall Try.prog X 48 [v_4, v_9] (fun v_10 s_11 =>
      optK (negB true (eqV 0 true v_10 (.int .i64 0))) fun v_12 =>
      boolK v_12
       (K v_10 s_11)
       (optK (arithV .add t11 (.int .i64 1)) fun v_13 =>
        ∃ m', m' < m0 ∧ I0 [v_13] s_11 m')) s))
   (optK (lenOfA s10) fun v_14 =>
    optK (lenOfA s21) fun v_16 =>
    optK (arithV .lss (.int .i64 v_14) (.int .i64 v_16)) fun v_18 =>
    boolK v_18
     (K (.int .i64 (-1)) s)
     (K (.int .i64 0) s))
def vc_slices_Compare___int_int_ (X : Told) (s10 : AVal) (s21 : AVal) (K : AVal → Heap → Prop) (s : Heap) : Prop :=
  optK (lenOfA s10) fun v_0 =>
  ∃ I0 : List AVal → Heap → Nat → Prop, (∃ m, I0 [(.int .i64 0)] s m) ∧ ∀ (f : Env) (s : Heap) (m0 : Nat), I0 [f 11] s m0 →
    vc_slices_Compare___int_int__l0 X s10 s21 s10 (.int .i64 v_0) (f 11) I0 m0 K s
def vc_slices_Compare___int_int__ann : Nat → List Nat := fun k => cond (Nat.beq k 4) [11] ([])
theorem vc_slices_Compare___int_int__eq (X : Told) (s10 : AVal) (s21 : AVal) (K : AVal → Heap → Prop) (s : Heap) : wpC Try.prog X vc_slices_Compare___int_int__ann Try.f49.ntmps none (bodyOf Try.f49) (envOf [s10, s21]) (fun e env s => retK e (resK Try.prog Try.f49.results.toList env (fun vs => K (oneV vs) s) s)) s = vc_slices_Compare___int_int_ X s10 s21 K s := by kernel_rfl
theorem vc_slices_Compare___int_int__ok {X : Told} (hX : FrX X) (hn : X 49 = none) {s10 : AVal} {s21 : AVal} {K : AVal → Heap → Prop} {s : Heap} (h : vc_slices_Compare___int_int_ X s10 s21 K s) : wpCall Try.prog X 49 [s10, s21] K s :=
  wpCall_code hX vc_slices_Compare___int_int__ann hn Try.func49 (by kernel_rfl : Try.f49.body = some (bodyOf Try.f49)) (by kernel_rfl) ((vc_slices_Compare___int_int__eq X s10 s21 K s).mpr h)
theorem vc_slices_Compare___int_int__in {s10 : AVal} {s21 : AVal} {K : AVal → Heap → Prop} {s : Heap} (h : vc_slices_Compare___int_int_ XX s10 s21 K s) : wpCall Try.prog XX 49 [s10, s21] K s := vc_slices_Compare___int_int__ok XX_fr rfl h
/-- leafmesh/leafmeshref13.compare (50) -/
def vc_leafmeshref13_compare_j1 (X : Told) (a0 : AVal) (b1 : AVal) (i5 : AVal) (t10 : AVal) (t14 : AVal) (I0 : List AVal → Heap → Nat → Prop) (m0 : Nat) (K : AVal → Heap → Prop) (s : Heap) : Prop :=
  optK (pickV t10 t14 (.bool false)) fun v_3 =>
  boolK v_3
   (optK (iaddrS 1 a0 i5) fun v_4 =>
    optK (rd1 s v_4) fun v_5 =>
    optK (iaddrS 1 b1 i5) fun v_6 =>
    optK (rd1 s v_6) fun v_7 =>
    optK (arithV .lss v_5 v_7) fun v_8 =>
    boolK v_8
     (K (.int .i64 (-1)) s)
     (optK (iaddrS 1 a0 i5) fun v_9 =>
      optK (rd1 s v_9) fun v_10 =>
      optK (iaddrS 1 b1 i5) fun v_11 =>
      optK (rd1 s v_11) fun v_12 =>
      optK (arithV .gtr v_10 v_12) fun v_13 =>
      boolK v_13
       (K (.int .i64 1) s)
       (optK (arithV .add i5 (.int .i64 1)) fun v_14 =>
        ∃ m', m' < m0 ∧ I0 [v_14] s m')))
   (optK (lenOfA a0) fun v_15 =>
    optK (lenOfA b1) fun v_17 =>
    optK (arithV .lss (.int .i64 v_15) (.int .i64 v_17)) fun v_19 =>
    boolK v_19
     (K (.int .i64 (-1)) s)
     (optK (lenOfA a0) fun v_20 =>
      optK (lenOfA b1) fun v_22 =>
      optK (arithV .gtr (.int .i64 v_20) (.int .i64 v_22)) fun v_24 =>
      boolK v_24
       (K (.int .i64 1) s)
       (K (.int .i64 0) s)))
def vc_leafmeshref13_compare_l0 (X : Told) (a0 : AVal) (b1 : AVal) (i5 : AVal) (I0 : List AVal → Heap → Nat → Prop) (m0 : Nat) (K : AVal → Heap → Prop) (s : Heap) : Prop :=
  optK (lenOfA a0) fun v_0 =>
  optK (arithV .lss i5 (.int .i64 v_0)) fun v_2 =>
  boolK v_2
   (optK (lenOfA b1) fun v_25 =>
    optK (arithV .lss i5 (.int .i64 v_25)) fun v_27 =>
    vc_leafmeshref13_compare_j1 X a0 b1 i5 v_2 v_27 I0 m0 K s)
   (vc_leafmeshref13_compare_j1 X a0 b1 i5 v_2 .undef I0 m0 K s)
def vc_leafmeshref13_compare (X : Told) (a0 : AVal) (b1 : AVal) (K : AVal → Heap → Prop) (s : Heap) : Prop :=
  ∃ I0 : List AVal → Heap → Nat → Prop, (∃ m, I0 [(.int .i64 0)] s m) ∧ ∀ (f : Env) (s : Heap) (m0 : Nat), I0 [f 5] s m0 →
    vc_leafmeshref13_compare_l0 X a0 b1 (f 5) I0 m0 K s
def vc_leafmeshref13_compare_ann : Nat → List Nat := fun k => cond (Nat.beq k 4) [5] ([])
theorem vc_leafmeshref13_compare_eq (X : Told) (a0 : AVal) (b1 : AVal) (K : AVal → Heap → Prop) (s : Heap) : wpC Try.prog X vc_leafmeshref13_compare_ann Try.f50.ntmps none (bodyOf Try.f50) (envOf [a0, b1]) (fun e env s => retK e (resK Try.prog Try.f50.results.toList env (fun vs => K (oneV vs) s) s)) s = vc_leafmeshref13_compare X a0 b1 K s := by kernel_rfl
theorem vc_leafmeshref13_compare_ok {X : Told} (hX : FrX X) (hn : X 50 = none) {a0 : AVal} {b1 : AVal} {K : AVal → Heap → Prop} {s : Heap} (h : vc_leafmeshref13_compare X a0 b1 K s) : wpCall Try.prog X 50 [a0, b1] K s :=
  wpCall_code hX vc_leafmeshref13_compare_ann hn Try.func50 (by kernel_rfl : Try.f50.body = some (bodyOf Try.f50)) (by kernel_rfl) ((vc_leafmeshref13_compare_eq X a0 b1 K s).mpr h)
theorem vc_leafmeshref13_compare_in {a0 : AVal} {b1 : AVal} {K : AVal → Heap → Prop} {s : Heap} (h : vc_leafmeshref13_compare XX a0 b1 K s) : wpCall Try.prog XX 50 [a0, b1] K s := vc_leafmeshref13_compare_ok XX_fr rfl h
/-- (*leafmesh/lsdb.DB).valid (51) -/
def vc_lsdb_DB_valid_j0 (X : Told) (t5 : AVal) (t10 : AVal) (K : AVal → Heap → Prop) (s : Heap) : Prop :=
  optK (pickV t5 t10 (.bool false)) fun v_1 =>
  K v_1 s
def vc_lsdb_DB_valid (X : Told) (d0 : AVal) (K : AVal → Heap → Prop) (s : Heap) : Prop :=
  optK (negB true (eqV 3 true d0 .nilptr)) fun v_0 =>
  boolK v_0
   (optK (nilCheckA d0) fun v_2 =>
    optK (addOff 0 v_2) fun v_3 =>
    optK (rd1 s v_3) fun v_4 =>
    optK (arithV .gtr v_4 (.int .i64 0)) fun v_5 =>
    vc_lsdb_DB_valid_j0 X v_0 v_5 K s)
   (vc_lsdb_DB_valid_j0 X v_0 .undef K s)
def vc_lsdb_DB_valid_ann : Nat → List Nat := fun _ => []
theorem vc_lsdb_DB_valid_eq (X : Told) (d0 : AVal) (K : AVal → Heap → Prop) (s : Heap) : wpC Try.prog X vc_lsdb_DB_valid_ann Try.f51.ntmps none (bodyOf Try.f51) (envOf [d0]) (fun e env s => retK e (resK Try.prog Try.f51.results.toList env (fun vs => K (oneV vs) s) s)) s = vc_lsdb_DB_valid X d0 K s := by kernel_rfl
theorem vc_lsdb_DB_valid_ok {X : Told} (hX : FrX X) (hn : X 51 = none) {d0 : AVal} {K : AVal → Heap → Prop} {s : Heap} (h : vc_lsdb_DB_valid X d0 K s) : wpCall Try.prog X 51 [d0] K s :=
  wpCall_code hX vc_lsdb_DB_valid_ann hn Try.func51 (by kernel_rfl : Try.f51.body = some (bodyOf Try.f51)) (by kernel_rfl) ((vc_lsdb_DB_valid_eq X d0 K s).mpr h)
theorem vc_lsdb_DB_valid_in {d0 : AVal} {K : AVal → Heap → Prop} {s : Heap} (h : vc_lsdb_DB_valid XX d0 K s) : wpCall Try.prog XX 51 [d0] K s := vc_lsdb_DB_valid_ok XX_fr rfl h
/-- leafmesh/lsdb.clone (54) -/
def vc_lsdb_clone (X : Told) (r0 : AVal) (K : AVal → Heap → Prop) (s : Heap) : Prop :=
  boxK 24 r0 (fun b_0 s_1 =>
  newK 24 [(.int .i64 0), (.int .i64 0), .nilslc] (fun b_2 s_3 =>
  optK (addOff 2 b_0) fun v_4 =>
  optK (rd1 s_3 v_4) fun v_5 =>
  wpCall Try.prog X 67 [v_5] (fun v_6 s_7 =>
  optK (addOff 2 b_0) fun v_8 =>
  optK (wr1 s_7 v_8 v_6) fun s_9 =>
  optK (rdN s_9 3 b_0) fun v_10 =>
  optK (wrAgg s_9 3 (.ptr b_2 0) (.agg v_10)) fun s_11 =>
  optK (rdN s_11 3 (.ptr b_2 0)) fun t2_12 =>
  K (.agg t2_12) s_11) s_3) s_1) s
def vc_lsdb_clone_ann : Nat → List Nat := fun _ => []
theorem vc_lsdb_clone_eq (X : Told) (r0 : AVal) (K : AVal → Heap → Prop) (s : Heap) : wpC Try.prog X vc_lsdb_clone_ann Try.f54.ntmps none (bodyOf Try.f54) (envOf [r0]) (fun e env s => retK e (resK Try.prog Try.f54.results.toList env (fun vs => K (oneV vs) s) s)) s = vc_lsdb_clone X r0 K s := by kernel_rfl
theorem vc_lsdb_clone_ok {X : Told} (hX : FrX X) (hn : X 54 = none) {r0 : AVal} {K : AVal → Heap → Prop} {s : Heap} (h : vc_lsdb_clone X r0 K s) : wpCall Try.prog X 54 [r0] K s :=
  wpCall_code hX vc_lsdb_clone_ann hn Try.func54 (by kernel_rfl : Try.f54.body = some (bodyOf Try.f54)) (by kernel_rfl) ((vc_lsdb_clone_eq X r0 K s).mpr h)
theorem vc_lsdb_clone_in {r0 : AVal} {K : AVal → Heap → Prop} {s : Heap} (h : vc_lsdb_clone XX r0 K s) : wpCall Try.prog XX 54 [r0] K s := vc_lsdb_clone_ok XX_fr rfl h
/-- (*leafmesh/lsdb.DB).lists (55) -/
def vc_lsdb_DB_lists (X : Told) (d0 : AVal) (n1 : AVal) (link2 : AVal) (K : AVal → Heap → Prop) (s : Heap) : Prop :=
  optK (nilCheckA d0) fun v_0 =>
  optK (addOff 3 v_0) fun v_1 =>
  optK (rd1 s v_1) fun v_2 =>
  optK (getM s v_2 n1) fun r_3 =>
  optK (fieldD none 2 (retM (.agg [(.int .i64 0), (.int .i64 0), .nilslc]) false r_3)) fun v_4 =>
  wpCall Try.prog X 68 [v_4, link2] (fun v_5 s_6 =>
  optK (extractA v_5 0) fun v_7 =>
  optK (extractA v_5 1) fun v_8 =>
  K v_8 s_6) s
def vc_lsdb_DB_lists_ann : Nat → List Nat := fun _ => []
theorem vc_lsdb_DB_lists_eq (X : Told) (d0 : AVal) (n1 : AVal) (link2 : AVal) (K : AVal → Heap → Prop) (s : Heap) : wpC Try.prog X vc_lsdb_DB_lists_ann Try.f55.ntmps none (bodyOf Try.f55) (envOf [d0, n1, link2]) (fun e env s => retK e (resK Try.prog Try.f55.results.toList env (fun vs => K (oneV vs) s) s)) s = vc_lsdb_DB_lists X d0 n1 link2 K s := by kernel_rfl
theorem vc_lsdb_DB_lists_ok {X : Told} (hX : FrX X) (hn : X 55 = none) {d0 : AVal} {n1 : AVal} {link2 : AVal} {K : AVal → Heap → Prop} {s : Heap} (h : vc_lsdb_DB_lists X d0 n1 link2 K s) : wpCall Try.prog X 55 [d0, n1, link2] K s :=
  wpCall_code hX vc_lsdb_DB_lists_ann hn Try.func55 (by kernel_rfl : Try.f55.body = some (bodyOf Try.f55)) (by kernel_rfl) ((vc_lsdb_DB_lists_eq X d0 n1 link2 K s).mpr h)
theorem vc_lsdb_DB_lists_in {d0 : AVal} {n1 : AVal} {link2 : AVal} {K : AVal → Heap → Prop} {s : Heap} (h : vc_lsdb_DB_lists XX d0 n1 link2 K s) : wpCall Try.prog XX 55 [d0, n1, link2] K s := vc_lsdb_DB_lists_ok XX_fr rfl h
/-- (*leafmesh/lsdb.DB).regain (56) -/
def vc_lsdb_DB_regain (X : Told) (d0 : AVal) (own1 : AVal) (seq2 : AVal) (K : AVal → Heap → Prop) (s : Heap) : Prop :=
  boxK 24 own1 (fun b_0 s_1 =>
  optK (arithV .geq seq2 (.int .i64 1073741824)) fun v_2 =>
  boolK v_2
   (K (.tup [(.int .i64 0), (.int .i64 7)]) s_1)
   (optK (addOff 2 b_0) fun v_3 =>
    optK (rd1 s_1 v_3) fun v_4 =>
    optK (arithV .add seq2 (.int .i64 1)) fun v_5 =>
    wpCall Try.prog X 58 [d0, v_4, v_5] (fun v_6 s_7 =>
    K (.tup [(.int .i64 3), (.int .i64 0)]) s_7) s_1)) s
def vc_lsdb_DB_regain_ann : Nat → List Nat := fun _ => []
theorem vc_lsdb_DB_regain_eq (X : Told) (d0 : AVal) (own1 : AVal) (seq2 : AVal) (K : AVal → Heap → Prop) (s : Heap) : wpC Try.prog X vc_lsdb_DB_regain_ann Try.f56.ntmps none (bodyOf Try.f56) (envOf [d0, own1, seq2]) (fun e env s => retK e (resK Try.prog Try.f56.results.toList env (fun vs => K (oneV vs) s) s)) s = vc_lsdb_DB_regain X d0 own1 seq2 K s := by kernel_rfl
theorem vc_lsdb_DB_regain_ok {X : Told} (hX : FrX X) (hn : X 56 = none) {d0 : AVal} {own1 : AVal} {seq2 : AVal} {K : AVal → Heap → Prop} {s : Heap} (h : vc_lsdb_DB_regain X d0 own1 seq2 K s) : wpCall Try.prog X 56 [d0, own1, seq2] K s :=
  wpCall_code hX vc_lsdb_DB_regain_ann hn Try.func56 (by kernel_rfl : Try.f56.body = some (bodyOf Try.f56)) (by kernel_rfl) ((vc_lsdb_DB_regain_eq X d0 own1 seq2 K s).mpr h)
theorem vc_lsdb_DB_regain_in {d0 : AVal} {own1 : AVal} {seq2 : AVal} {K : AVal → Heap → Prop} {s : Heap} (h : vc_lsdb_DB_regain XX d0 own1 seq2 K s) : wpCall Try.prog XX 56 [d0, own1, seq2] K s := vc_lsdb_DB_regain_ok XX_fr rfl h
/-- slices.Equal[[]int,int] (57) -/
def vc_slices_Equal___int_int__l0 (X : Told) (s10 : AVal) (s21 : AVal) (t12 : AVal) (t13 : AVal) (I0 : List AVal → Heap → Nat → Prop) (m0 : Nat) (K : AVal → Heap → Prop) (s : Heap) : Prop :=
  optK (arithV .lss t13 t12) fun v_7 =>
  boolK v_7
   (optK (iaddrS 1 s10 t13) fun v_8 =>
    optK (rd1 s v_8) fun v_9 =>
    optK (iaddrS 1 s21 t13) fun v_10 =>
    optK (rd1 s v_10) fun v_11 =>
    optK (negB true (eqV 0 false v_9 v_11)) fun v_12 =>
    boolK v_12
     (K (.bool false) s)
     (optK (arithV .add t13 (.int .i64 1)) fun v_13 =>
      ∃ m', m' < m0 ∧ I0 [v_13] s m'))
   (K (.bool true) s)
def vc_slices_Equal___int_int_ (X : Told) (s10 : AVal) (s21 : AVal) (K : AVal → Heap → Prop) (s : Heap) : Prop :=
  optK (lenOfA s10) fun v_0 =>
  optK (lenOfA s21) fun v_2 =>
  optK (negB true (eqV 0 false (.int .i64 v_0) (.int .i64 v_2))) fun v_4 =>
  boolK v_4
   (K (.bool false) s)
   (optK (lenOfA s10) fun v_5 =>
    ∃ I0 : List AVal → Heap → Nat → Prop, (∃ m, I0 [(.int .i64 0)] s m) ∧ ∀ (f : Env) (s : Heap) (m0 : Nat), I0 [f 13] s m0 →
      vc_slices_Equal___int_int__l0 X s10 s21 (.int .i64 v_5) (f 13) I0 m0 K s)
def vc_slices_Equal___int_int__ann : Nat → List Nat := fun k => cond (Nat.beq k 8) [13] ([])
theorem vc_slices_Equal___int_int__eq (X : Told) (s10 : AVal) (s21 : AVal) (K : AVal → Heap → Prop) (s : Heap) : wpC Try.prog X vc_slices_Equal___int_int__ann Try.f57.ntmps none (bodyOf Try.f57) (envOf [s10, s21]) (fun e env s => retK e (resK Try.prog Try.f57.results.toList env (fun vs => K (oneV vs) s) s)) s = vc_slices_Equal___int_int_ X s10 s21 K s := by kernel_rfl
theorem vc_slices_Equal___int_int__ok {X : Told} (hX : FrX X) (hn : X 57 = none) {s10 : AVal} {s21 : AVal} {K : AVal → Heap → Prop} {s : Heap} (h : vc_slices_Equal___int_int_ X s10 s21 K s) : wpCall Try.prog X 57 [s10, s21] K s :=
  wpCall_code hX vc_slices_Equal___int_int__ann hn Try.func57 (by kernel_rfl : Try.f57.body = some (bodyOf Try.f57)) (by kernel_rfl) ((vc_slices_Equal___int_int__eq X s10 s21 K s).mpr h)
theorem vc_slices_Equal___int_int__in {s10 : AVal} {s21 : AVal} {K : AVal → Heap → Prop} {s : Heap} (h : vc_slices_Equal___int_int_ XX s10 s21 K s) : wpCall Try.prog XX 57 [s10, s21] K s := vc_slices_Equal___int_int__ok XX_fr rfl h
/-- (*leafmesh/lsdb.DB).originate (58) -/
def vc_lsdb_DB_originate (X : Told) (d0 : AVal) (links1 : AVal) (seq2 : AVal) (K : AVal → Heap → Prop) (s : Heap) : Prop :=
  newK 24 [(.int .i64 0), (.int .i64 0), .nilslc] (fun b_0 s_1 =>
  optK (nilCheckA d0) fun v_2 =>
  optK (addOff 1 v_2) fun v_3 =>
  optK (rd1 s_1 v_3) fun v_4 =>
  wpCall Try.prog X 67 [links1] (fun v_5 s_6 =>
  (∀ b, s_1 b ≠ none → s_1 b = none → s_6 b = none) →
  optK (fillR [(.int .i64 0), (.int .i64 0), .nilslc] [(0, 1, v_4), (1, 1, seq2), (2, 1, v_5)]) fun c_7 =>
  newK 24 [(.int .i64 0), (.int .i64 0), .nilslc] (fun b_8 s_9 =>
  (∀ b, (add s_1 s_6) b ≠ none → (cutH [(s_1, (add s_1 s_6))] (add s_1 s_6)) b = none → s_9 b = none) →
  optK (wrAgg (add (add s_1 s_6) s_9) 3 (.ptr b_8 0) (.agg c_7)) fun s_10 =>
  optK (nilCheckA d0) fun v_11 =>
  optK (addOff 2 v_11) fun v_12 =>
  optK (wr1 s_10 v_12 seq2) fun s_13 =>
  optK (nilCheckA d0) fun v_14 =>
  optK (addOff 3 v_14) fun v_15 =>
  optK (rd1 s_13 v_15) fun v_16 =>
  optK (nilCheckA d0) fun v_17 =>
  optK (addOff 1 v_17) fun v_18 =>
  optK (rd1 s_13 v_18) fun v_19 =>
  optK (rdN s_13 3 (.ptr b_8 0)) fun v_20 =>
  optK (putM s_13 v_16 v_19 (.agg v_20)) fun s_21 =>
  optK (rdN s_21 3 (.ptr b_8 0)) fun v_22 =>
  optK (wrAgg s_21 3 (.ptr b_0 0) (.agg v_22)) fun s_23 =>
  optK (rdN s_23 3 (.ptr b_0 0)) fun t6_24 =>
  K (.agg t6_24) s_23) (frz (cutH [(s_1, (add s_1 s_6))] (add s_1 s_6)))) (frz s_1)) s
def vc_lsdb_DB_originate_ann : Nat → List Nat := fun _ => []
theorem vc_lsdb_DB_originate_eq (X : Told) (d0 : AVal) (links1 : AVal) (seq2 : AVal) (K : AVal → Heap → Prop) (s : Heap) : wpC Try.prog X vc_lsdb_DB_originate_ann Try.f58.ntmps none (bodyOf Try.f58) (envOf [d0, links1, seq2]) (fun e env s => retK e (resK Try.prog Try.f58.results.toList env (fun vs => K (oneV vs) s) s)) s = vc_lsdb_DB_originate X d0 links1 seq2 K s := by kernel_rfl
theorem vc_lsdb_DB_originate_ok {X : Told} (hX : FrX X) (hn : X 58 = none) {d0 : AVal} {links1 : AVal} {seq2 : AVal} {K : AVal → Heap → Prop} {s : Heap} (h : vc_lsdb_DB_originate X d0 links1 seq2 K s) : wpCall Try.prog X 58 [d0, links1, seq2] K s :=
  wpCall_code hX vc_lsdb_DB_originate_ann hn Try.func58 (by kernel_rfl : Try.f58.body = some (bodyOf Try.f58)) (by kernel_rfl) ((vc_lsdb_DB_originate_eq X d0 links1 seq2 K s).mpr h)
theorem vc_lsdb_DB_originate_in {d0 : AVal} {links1 : AVal} {seq2 : AVal} {K : AVal → Heap → Prop} {s : Heap} (h : vc_lsdb_DB_originate XX d0 links1 seq2 K s) : wpCall Try.prog XX 58 [d0, links1, seq2] K s := vc_lsdb_DB_originate_ok XX_fr rfl h
/-- leafmesh/leafmeshref13.own (59) -/
def vc_leafmeshref13_own (X : Told) (r0 : AVal) (K : AVal → Heap → Prop) (s : Heap) : Prop :=
  boxK 24 r0 (fun b_0 s_1 =>
  newK 24 [(.int .i64 0), (.int .i64 0), .nilslc] (fun b_2 s_3 =>
  optK (fillR (repl 0 [(.int .i64 0)]) []) fun c_4 => allOne c_4 = true ∧ newK 3 c_4 (fun b_5 s_6 =>
  optK (addOff 2 b_0) fun v_7 =>
  optK (rd1 s_6 v_7) fun v_8 =>
  appK 3 1 (.slc b_5 0 0 (some 0) 1) v_8 (fun v_9 s_10 =>
  optK (addOff 2 b_0) fun v_11 =>
  optK (wr1 s_10 v_11 v_9) fun s_12 =>
  optK (rdN s_12 3 b_0) fun v_13 =>
  optK (wrAgg s_12 3 (.ptr b_2 0) (.agg v_13)) fun s_14 =>
  optK (rdN s_14 3 (.ptr b_2 0)) fun t2_15 =>
  K (.agg t2_15) s_14) s_6) s_3) s_1) s
def vc_leafmeshref13_own_ann : Nat → List Nat := fun _ => []
theorem vc_leafmeshref13_own_eq (X : Told) (r0 : AVal) (K : AVal → Heap → Prop) (s : Heap) : wpC Try.prog X vc_leafmeshref13_own_ann Try.f59.ntmps none (bodyOf Try.f59) (envOf [r0]) (fun e env s => retK e (resK Try.prog Try.f59.results.toList env (fun vs => K (oneV vs) s) s)) s = vc_leafmeshref13_own X r0 K s := by kernel_rfl
theorem vc_leafmeshref13_own_ok {X : Told} (hX : FrX X) (hn : X 59 = none) {r0 : AVal} {K : AVal → Heap → Prop} {s : Heap} (h : vc_leafmeshref13_own X r0 K s) : wpCall Try.prog X 59 [r0] K s :=
  wpCall_code hX vc_leafmeshref13_own_ann hn Try.func59 (by kernel_rfl : Try.f59.body = some (bodyOf Try.f59)) (by kernel_rfl) ((vc_leafmeshref13_own_eq X r0 K s).mpr h)
theorem vc_leafmeshref13_own_in {r0 : AVal} {K : AVal → Heap → Prop} {s : Heap} (h : vc_leafmeshref13_own XX r0 K s) : wpCall Try.prog XX 59 [r0] K s := vc_leafmeshref13_own_ok XX_fr rfl h
/-- (*leafmesh/leafmeshref13.DB).All (60) -/
def vc_leafmeshref13_DB_All_j1 (X : Told) (out3 : AVal) (n4 : AVal) (I0 : List AVal → Heap → Nat → Prop) (m0 : Nat) (K : AVal → Heap → Prop) (s : Heap) : Prop :=
  optK (arithV .add n4 (.int .i64 1)) fun v_11 =>
  ∃ m', m' < m0 ∧ I0 [out3, v_11] s m'
def vc_leafmeshref13_DB_All_l0 (X : Told) (d0 : AVal) (out3 : AVal) (n4 : AVal) (I0 : List AVal → Heap → Nat → Prop) (m0 : Nat) (K : AVal → Heap → Prop) (s : Heap) : Prop :=
  optK (nilCheckA d0) fun v_0 =>
  optK (addOff 0 v_0) fun v_1 =>
  optK (rd1 s v_1) fun v_2 =>
  optK (arithV .lss n4 v_2) fun v_3 =>
  boolK v_3
   (optK (nilCheckA d0) fun v_4 =>
    optK (addOff 2 v_4) fun v_5 =>
    optK (rd1 s v_5) fun v_6 =>
    optK (iaddrS 3 v_6 n4) fun v_7 =>
    optK (addOff 1 v_7) fun v_8 =>
    optK (rd1 s v_8) fun v_9 =>
    optK (arithV .gtr v_9 (.int .i64 0)) fun v_10 =>
    boolK v_10
     (optK (nilCheckA d0) fun v_12 =>
      optK (addOff 2 v_12) fun v_13 =>
      optK (rd1 s v_13) fun v_14 =>
      optK (iaddrS 3 v_14 n4) fun v_15 =>
      optK (rdN s 3 v_15) fun v_16 =>
      wpCall Try.prog X 59 [(.agg v_16)] (fun v_17 s_18 =>
      optK (fillR (repl 1 [(.int .i64 0), (.int .i64 0), .nilslc]) [(0, 3, v_17)]) fun c_19 => allOne c_19 = true ∧ newK 24 c_19 (fun b_20 s_21 =>
      appK 24 3 out3 (.slc b_20 0 1 (some 1) 3) (fun v_22 s_23 =>
      vc_leafmeshref13_DB_All_j1 X v_22 n4 I0 m0 K s_23) s_21) s_18) s)
     (vc_leafmeshref13_DB_All_j1 X out3 n4 I0 m0 K s))
   (K out3 s)
def vc_leafmeshref13_DB_All (X : Told) (d0 : AVal) (K : AVal → Heap → Prop) (s : Heap) : Prop :=
  ∃ I0 : List AVal → Heap → Nat → Prop, (∃ m, I0 [.nilslc, (.int .i64 0)] s m) ∧ ∀ (f : Env) (s : Heap) (m0 : Nat), I0 [f 3, f 4] s m0 →
    vc_leafmeshref13_DB_All_l0 X d0 (f 3) (f 4) I0 m0 K s
def vc_leafmeshref13_DB_All_ann : Nat → List Nat := fun k => cond (Nat.beq k 6) [3, 4] ([])
theorem vc_leafmeshref13_DB_All_eq (X : Told) (d0 : AVal) (K : AVal → Heap → Prop) (s : Heap) : wpC Try.prog X vc_leafmeshref13_DB_All_ann Try.f60.ntmps none (bodyOf Try.f60) (envOf [d0]) (fun e env s => retK e (resK Try.prog Try.f60.results.toList env (fun vs => K (oneV vs) s) s)) s = vc_leafmeshref13_DB_All X d0 K s := by kernel_rfl
theorem vc_leafmeshref13_DB_All_ok {X : Told} (hX : FrX X) (hn : X 60 = none) {d0 : AVal} {K : AVal → Heap → Prop} {s : Heap} (h : vc_leafmeshref13_DB_All X d0 K s) : wpCall Try.prog X 60 [d0] K s :=
  wpCall_code hX vc_leafmeshref13_DB_All_ann hn Try.func60 (by kernel_rfl : Try.f60.body = some (bodyOf Try.f60)) (by kernel_rfl) ((vc_leafmeshref13_DB_All_eq X d0 K s).mpr h)
theorem vc_leafmeshref13_DB_All_in {d0 : AVal} {K : AVal → Heap → Prop} {s : Heap} (h : vc_leafmeshref13_DB_All XX d0 K s) : wpCall Try.prog XX 60 [d0] K s := vc_leafmeshref13_DB_All_ok XX_fr rfl h
/-- (*leafmesh/leafmeshref13.DB).View (61) -/
def vc_leafmeshref13_DB_View_j1 (X : Told) (i6 : AVal) (t16 : AVal) (t25 : AVal) (t33 : AVal) (I0 : List AVal → Heap → Nat → Prop) (m0 : Nat) (K : AVal → Heap → Prop) (s : Heap) : Prop :=
  optK (pickV t25 t33 (.bool false)) fun v_11 =>
  optK (fillR (repl 1 [(.bool false)]) [(0, 1, v_11)]) fun c_12 => allOne c_12 = true ∧ newK 4 c_12 (fun b_13 s_14 =>
  appK 4 1 t16 (.slc b_13 0 1 (some 1) 1) (fun v_15 s_16 =>
  optK (arithV .add i6 (.int .i64 1)) fun v_17 =>
  ∃ m', m' < m0 ∧ I0 [v_15, v_17] s_16 m') s_14) s
def vc_leafmeshref13_DB_View_l0 (X : Told) (d0 : AVal) (l1 : AVal) (out5 : AVal) (i6 : AVal) (I0 : List AVal → Heap → Nat → Prop) (m0 : Nat) (K : AVal → Heap → Prop) (s : Heap) : Prop :=
  optK (lenOfA l1) fun v_3 =>
  optK (arithV .lss i6 (.int .i64 v_3)) fun v_5 =>
  boolK v_5
   (optK (iaddrS 3 l1 i6) fun v_6 =>
    optK (addOff 0 v_6) fun v_7 =>
    optK (rd1 s v_7) fun v_8 =>
    wpCall Try.prog X 69 [d0, v_8, i6] (fun v_9 s_10 =>
    boolK v_9
     (optK (iaddrS 3 l1 i6) fun v_18 =>
      optK (addOff 1 v_18) fun v_19 =>
      optK (rd1 s_10 v_19) fun v_20 =>
      wpCall Try.prog X 69 [d0, v_20, i6] (fun v_21 s_22 =>
      vc_leafmeshref13_DB_View_j1 X i6 out5 v_9 v_21 I0 m0 K s_22) s_10)
     (vc_leafmeshref13_DB_View_j1 X i6 out5 v_9 .undef I0 m0 K s_10)) s)
   (K out5 s)
def vc_leafmeshref13_DB_View (X : Told) (d0 : AVal) (l1 : AVal) (K : AVal → Heap → Prop) (s : Heap) : Prop :=
  optK (lenOfA l1) fun v_0 =>
  optK (arithV .gtr (.int .i64 v_0) (.int .i64 128)) fun v_2 =>
  boolK v_2
   (K .nilslc s)
   (∃ I0 : List AVal → Heap → Nat → Prop, (∃ m, I0 [.nilslc, (.int .i64 0)] s m) ∧ ∀ (f : Env) (s : Heap) (m0 : Nat), I0 [f 5, f 6] s m0 →
      vc_leafmeshref13_DB_View_l0 X d0 l1 (f 5) (f 6) I0 m0 K s)
def vc_leafmeshref13_DB_View_ann : Nat → List Nat := fun k => cond (Nat.beq k 10) [5, 6] ([])
theorem vc_leafmeshref13_DB_View_eq (X : Told) (d0 : AVal) (l1 : AVal) (K : AVal → Heap → Prop) (s : Heap) : wpC Try.prog X vc_leafmeshref13_DB_View_ann Try.f61.ntmps none (bodyOf Try.f61) (envOf [d0, l1]) (fun e env s => retK e (resK Try.prog Try.f61.results.toList env (fun vs => K (oneV vs) s) s)) s = vc_leafmeshref13_DB_View X d0 l1 K s := by kernel_rfl
theorem vc_leafmeshref13_DB_View_ok {X : Told} (hX : FrX X) (hn : X 61 = none) {d0 : AVal} {l1 : AVal} {K : AVal → Heap → Prop} {s : Heap} (h : vc_leafmeshref13_DB_View X d0 l1 K s) : wpCall Try.prog X 61 [d0, l1] K s :=
  wpCall_code hX vc_leafmeshref13_DB_View_ann hn Try.func61 (by kernel_rfl : Try.f61.body = some (bodyOf Try.f61)) (by kernel_rfl) ((vc_leafmeshref13_DB_View_eq X d0 l1 K s).mpr h)
theorem vc_leafmeshref13_DB_View_in {d0 : AVal} {l1 : AVal} {K : AVal → Heap → Prop} {s : Heap} (h : vc_leafmeshref13_DB_View XX d0 l1 K s) : wpCall Try.prog XX 61 [d0, l1] K s := vc_leafmeshref13_DB_View_ok XX_fr rfl h
/-- (*leafmesh/leafmeshref13.DB).Get (62) -/
def vc_leafmeshref13_DB_Get_j1 (X : Told) (d0 : AVal) (n1 : AVal) (t4 : AVal) (t16 : AVal) (t25 : AVal) (K : AVal → Heap → Prop) (s : Heap) : Prop :=
  optK (pickV t16 (.bool true) t25) fun v_4 =>
  boolK v_4
   (optK (fillR [(.int .i64 0), (.int .i64 0), .nilslc] []) fun c_5 =>
    optK (wrAgg s 3 t4 (.agg c_5)) fun s_6 =>
    optK (rdN s_6 3 t4) fun t4_7 =>
    K (.tup [(.agg t4_7), (.bool false)]) s_6)
   (optK (nilCheckA d0) fun v_8 =>
    optK (addOff 2 v_8) fun v_9 =>
    optK (rd1 s v_9) fun v_10 =>
    optK (iaddrS 3 v_10 n1) fun v_11 =>
    optK (rdN s 3 v_11) fun v_12 =>
    wpCall Try.prog X 59 [(.agg v_12)] (fun v_13 s_14 =>
    optK (wrAgg s_14 3 t4 v_13) fun s_15 =>
    optK (rdN s_15 3 t4) fun t4_16 =>
    K (.tup [(.agg t4_16), (.bool true)]) s_15) s)
def vc_leafmeshref13_DB_Get_j0 (X : Told) (d0 : AVal) (n1 : AVal) (t4 : AVal) (t8 : AVal) (t14 : AVal) (K : AVal → Heap → Prop) (s : Heap) : Prop :=
  optK (pickV t8 (.bool true) t14) fun v_3 =>
  boolK v_3
   (vc_leafmeshref13_DB_Get_j1 X d0 n1 t4 v_3 .undef K s)
   (optK (nilCheckA d0) fun v_17 =>
    optK (addOff 2 v_17) fun v_18 =>
    optK (rd1 s v_18) fun v_19 =>
    optK (iaddrS 3 v_19 n1) fun v_20 =>
    optK (addOff 1 v_20) fun v_21 =>
    optK (rd1 s v_21) fun v_22 =>
    optK (negB false (eqV 0 true v_22 (.int .i64 0))) fun v_23 =>
    vc_leafmeshref13_DB_Get_j1 X d0 n1 t4 v_3 v_23 K s)
def vc_leafmeshref13_DB_Get (X : Told) (d0 : AVal) (n1 : AVal) (K : AVal → Heap → Prop) (s : Heap) : Prop :=
  newK 24 [(.int .i64 0), (.int .i64 0), .nilslc] (fun b_0 s_1 =>
  optK (arithV .lss n1 (.int .i64 0)) fun v_2 =>
  boolK v_2
   (vc_leafmeshref13_DB_Get_j0 X d0 n1 (.ptr b_0 0) v_2 .undef K s_1)
   (optK (nilCheckA d0) fun v_24 =>
    optK (addOff 0 v_24) fun v_25 =>
    optK (rd1 s_1 v_25) fun v_26 =>
    optK (arithV .geq n1 v_26) fun v_27 =>
    vc_leafmeshref13_DB_Get_j0 X d0 n1 (.ptr b_0 0) v_2 v_27 K s_1)) s
def vc_leafmeshref13_DB_Get_ann : Nat → List Nat := fun _ => []
theorem vc_leafmeshref13_DB_Get_eq (X : Told) (d0 : AVal) (n1 : AVal) (K : AVal → Heap → Prop) (s : Heap) : wpC Try.prog X vc_leafmeshref13_DB_Get_ann Try.f62.ntmps none (bodyOf Try.f62) (envOf [d0, n1]) (fun e env s => retK e (resK Try.prog Try.f62.results.toList env (fun vs => K (oneV vs) s) s)) s = vc_leafmeshref13_DB_Get X d0 n1 K s := by kernel_rfl
theorem vc_leafmeshref13_DB_Get_ok {X : Told} (hX : FrX X) (hn : X 62 = none) {d0 : AVal} {n1 : AVal} {K : AVal → Heap → Prop} {s : Heap} (h : vc_leafmeshref13_DB_Get X d0 n1 K s) : wpCall Try.prog X 62 [d0, n1] K s :=
  wpCall_code hX vc_leafmeshref13_DB_Get_ann hn Try.func62 (by kernel_rfl : Try.f62.body = some (bodyOf Try.f62)) (by kernel_rfl) ((vc_leafmeshref13_DB_Get_eq X d0 n1 K s).mpr h)
theorem vc_leafmeshref13_DB_Get_in {d0 : AVal} {n1 : AVal} {K : AVal → Heap → Prop} {s : Heap} (h : vc_leafmeshref13_DB_Get XX d0 n1 K s) : wpCall Try.prog XX 62 [d0, n1] K s := vc_leafmeshref13_DB_Get_ok XX_fr rfl h
/-- cmp.isNaN[int] (63) -/
def vc_cmp_isNaN_int_ (X : Told) (x0 : AVal) (K : AVal → Heap → Prop) (s : Heap) : Prop :=
  optK (negB true (eqV 0 false x0 x0)) fun v_0 =>
  K v_0 s
def vc_cmp_isNaN_int__ann : Nat → List Nat := fun _ => []
theorem vc_cmp_isNaN_int__eq (X : Told) (x0 : AVal) (K : AVal → Heap → Prop) (s : Heap) : wpC Try.prog X vc_cmp_isNaN_int__ann Try.f63.ntmps none (bodyOf Try.f63) (envOf [x0]) (fun e env s => retK e (resK Try.prog Try.f63.results.toList env (fun vs => K (oneV vs) s) s)) s = vc_cmp_isNaN_int_ X x0 K s := by kernel_rfl
theorem vc_cmp_isNaN_int__ok {X : Told} (hX : FrX X) (hn : X 63 = none) {x0 : AVal} {K : AVal → Heap → Prop} {s : Heap} (h : vc_cmp_isNaN_int_ X x0 K s) : wpCall Try.prog X 63 [x0] K s :=
  wpCall_code hX vc_cmp_isNaN_int__ann hn Try.func63 (by kernel_rfl : Try.f63.body = some (bodyOf Try.f63)) (by kernel_rfl) ((vc_cmp_isNaN_int__eq X x0 K s).mpr h)
theorem vc_cmp_isNaN_int__in {x0 : AVal} {K : AVal → Heap → Prop} {s : Heap} (h : vc_cmp_isNaN_int_ XX x0 K s) : wpCall Try.prog XX 63 [x0] K s := vc_cmp_isNaN_int__ok XX_fr rfl h
/-- slices.Clone[[]int,int] (67) -/
def vc_slices_Clone___int_int_ (X : Told) (t0 : AVal) (K : AVal → Heap → Prop) (s : Heap) : Prop :=
  optK (negB false (eqV 5 true t0 .nilslc)) fun v_0 =>
  boolK v_0
   (K .nilslc s)
   (optK (fillR (repl 0 [(.int .i64 0)]) []) fun c_1 => allOne c_1 = true ∧ newK 3 c_1 (fun b_2 s_3 =>
    appK 3 1 (.slc b_2 0 0 (some 0) 1) t0 (fun v_4 s_5 =>
    K v_4 s_5) s_3) s)
def vc_slices_Clone___int_int__ann : Nat → List Nat := fun _ => []
theorem vc_slices_Clone___int_int__eq (X : Told) (t0 : AVal) (K : AVal → Heap → Prop) (s : Heap) : wpC Try.prog X vc_slices_Clone___int_int__ann Try.f67.ntmps none (bodyOf Try.f67) (envOf [t0]) (fun e env s => retK e (resK Try.prog Try.f67.results.toList env (fun vs => K (oneV vs) s) s)) s = vc_slices_Clone___int_int_ X t0 K s := by kernel_rfl
theorem vc_slices_Clone___int_int__ok {X : Told} (hX : FrX X) (hn : X 67 = none) {t0 : AVal} {K : AVal → Heap → Prop} {s : Heap} (h : vc_slices_Clone___int_int_ X t0 K s) : wpCall Try.prog X 67 [t0] K s :=
  wpCall_code hX vc_slices_Clone___int_int__ann hn Try.func67 (by kernel_rfl : Try.f67.body = some (bodyOf Try.f67)) (by kernel_rfl) ((vc_slices_Clone___int_int__eq X t0 K s).mpr h)
theorem vc_slices_Clone___int_int__in {t0 : AVal} {K : AVal → Heap → Prop} {s : Heap} (h : vc_slices_Clone___int_int_ XX t0 K s) : wpCall Try.prog XX 67 [t0] K s := vc_slices_Clone___int_int__ok XX_fr rfl h
/-- slices.BinarySearch[[]int,int] (68) -/
def vc_slices_BinarySearch___int_int__j1 (X : Told) (t31 : AVal) (t35 : AVal) (t42 : AVal) (t48 : AVal) (t50 : AVal) (K : AVal → Heap → Prop) (s : Heap) : Prop :=
  optK (pickV t48 t50 (.bool false)) fun v_22 =>
  optK (pickV t42 (.bool true) v_22) fun v_23 =>
  optK (pickV t35 v_23 (.bool false)) fun v_24 =>
  K (.tup [t31, v_24]) s
def vc_slices_BinarySearch___int_int__l0 (X : Told) (x0 : AVal) (target1 : AVal) (n6 : AVal) (i7 : AVal) (j8 : AVal) (I0 : List AVal → Heap → Nat → Prop) (m0 : Nat) (K : AVal → Heap → Prop) (s : Heap) : Prop :=
  optK (arithV .lss i7 j8) fun v_2 =>
  boolK v_2
   (optK (arithV .add i7 j8) fun v_3 =>
    optK (convI .u64 v_3) fun v_4 =>
    optK (shiftV .shr v_4 (.int .u64 1)) fun v_5 =>
    optK (convI .i64 v_5) fun v_6 =>
    optK (iaddrS 1 x0 v_6) fun v_7 =>
    optK (rd1 s v_7) fun v_8 =>
    wpCall Try.prog X 73 [v_8, target1] (fun v_9 s_10 =>
    boolK v_9
     (optK (arithV .add v_6 (.int .i64 1)) fun v_11 =>
      ∃ m', m' < m0 ∧ I0 [v_11, j8] s_10 m')
     (∃ m', m' < m0 ∧ I0 [i7, v_6] s_10 m')) s)
   (optK (arithV .lss i7 n6) fun v_12 =>
    boolK v_12
     (optK (iaddrS 1 x0 i7) fun v_13 =>
      optK (rd1 s v_13) fun v_14 =>
      optK (negB false (eqV 0 false v_14 target1)) fun v_15 =>
      boolK v_15
       (optK (pickV v_15 (.bool true) .undef) fun v_16 =>
        optK (pickV v_12 v_16 (.bool false)) fun v_17 =>
        K (.tup [i7, v_17]) s)
       (optK (iaddrS 1 x0 i7) fun v_18 =>
        optK (rd1 s v_18) fun v_19 =>
        wpCall Try.prog X 74 [v_19] (fun v_20 s_21 =>
        boolK v_20
         (wpCall Try.prog X 74 [target1] (fun v_25 s_26 =>
          vc_slices_BinarySearch___int_int__j1 X i7 v_12 v_15 v_20 v_25 K s_26) s_21)
         (vc_slices_BinarySearch___int_int__j1 X i7 v_12 v_15 v_20 .undef K s_21)) s))
     (optK (pickV v_12 .undef (.bool false)) fun v_27 =>
      K (.tup [i7, v_27]) s))
def vc_slices_BinarySearch___int_int_ (X : Told) (x0 : AVal) (target1 : AVal) (K : AVal → Heap → Prop) (s : Heap) : Prop :=
  optK (lenOfA x0) fun v_0 =>
  ∃ I0 : List AVal → Heap → Nat → Prop, (∃ m, I0 [(.int .i64 0), (.int .i64 v_0)] s m) ∧ ∀ (f : Env) (s : Heap) (m0 : Nat), I0 [f 7, f 8] s m0 →
    vc_slices_BinarySearch___int_int__l0 X x0 target1 (.int .i64 v_0) (f 7) (f 8) I0 m0 K s
def vc_slices_BinarySearch___int_int__ann : Nat → List Nat := fun k => cond (Nat.beq k 6) [7, 8] ([])
theorem vc_slices_BinarySearch___int_int__eq (X : Told) (x0 : AVal) (target1 : AVal) (K : AVal → Heap → Prop) (s : Heap) : wpC Try.prog X vc_slices_BinarySearch___int_int__ann Try.f68.ntmps none (bodyOf Try.f68) (envOf [x0, target1]) (fun e env s => retK e (resK Try.prog Try.f68.results.toList env (fun vs => K (oneV vs) s) s)) s = vc_slices_BinarySearch___int_int_ X x0 target1 K s := by kernel_rfl
theorem vc_slices_BinarySearch___int_int__ok {X : Told} (hX : FrX X) (hn : X 68 = none) {x0 : AVal} {target1 : AVal} {K : AVal → Heap → Prop} {s : Heap} (h : vc_slices_BinarySearch___int_int_ X x0 target1 K s) : wpCall Try.prog X 68 [x0, target1] K s :=
  wpCall_code hX vc_slices_BinarySearch___int_int__ann hn Try.func68 (by kernel_rfl : Try.f68.body = some (bodyOf Try.f68)) (by kernel_rfl) ((vc_slices_BinarySearch___int_int__eq X x0 target1 K s).mpr h)
theorem vc_slices_BinarySearch___int_int__in {x0 : AVal} {target1 : AVal} {K : AVal → Heap → Prop} {s : Heap} (h : vc_slices_BinarySearch___int_int_ XX x0 target1 K s) : wpCall Try.prog XX 68 [x0, target1] K s := vc_slices_BinarySearch___int_int__ok XX_fr rfl h
/-- (*leafmesh/leafmeshref13.DB).lists (69) -/
def vc_leafmeshref13_DB_lists_j1 (X : Told) (link2 : AVal) (r7 : AVal) (i9 : AVal) (t17 : AVal) (t22 : AVal) (I0 : List AVal → Heap → Nat → Prop) (m0 : Nat) (K : AVal → Heap → Prop) (s : Heap) : Prop :=
  optK (pickV t17 t22 (.bool false)) fun v_7 =>
  boolK v_7
   (optK (addOff 2 r7) fun v_8 =>
    optK (rd1 s v_8) fun v_9 =>
    optK (iaddrS 1 v_9 i9) fun v_10 =>
    optK (rd1 s v_10) fun v_11 =>
    optK (negB false (eqV 0 false v_11 link2)) fun v_12 =>
    boolK v_12
     (K (.bool true) s)
     (optK (arithV .add i9 (.int .i64 1)) fun v_13 =>
      ∃ m', m' < m0 ∧ I0 [v_13] s m'))
   (K (.bool false) s)
def vc_leafmeshref13_DB_lists_l0 (X : Told) (link2 : AVal) (r7 : AVal) (t8 : AVal) (i9 : AVal) (I0 : List AVal → Heap → Nat → Prop) (m0 : Nat) (K : AVal → Heap → Prop) (s : Heap) : Prop :=
  boolK t8
   (optK (addOff 2 r7) fun v_14 =>
    optK (rd1 s v_14) fun v_15 =>
    optK (lenOfA v_15) fun v_16 =>
    optK (arithV .lss i9 (.int .i64 v_16)) fun v_18 =>
    vc_leafmeshref13_DB_lists_j1 X link2 r7 i9 t8 v_18 I0 m0 K s)
   (vc_leafmeshref13_DB_lists_j1 X link2 r7 i9 t8 .undef I0 m0 K s)
def vc_leafmeshref13_DB_lists (X : Told) (d0 : AVal) (n1 : AVal) (link2 : AVal) (K : AVal → Heap → Prop) (s : Heap) : Prop :=
  wpCall Try.prog X 62 [d0, n1] (fun v_0 s_1 =>
  optK (extractA v_0 0) fun v_2 =>
  optK (extractA v_0 1) fun v_3 =>
  newK 24 [(.int .i64 0), (.int .i64 0), .nilslc] (fun b_4 s_5 =>
  optK (wrAgg s_5 3 (.ptr b_4 0) v_2) fun s_6 =>
  ∃ I0 : List AVal → Heap → Nat → Prop, (∃ m, I0 [(.int .i64 0)] s_6 m) ∧ ∀ (f : Env) (s : Heap) (m0 : Nat), I0 [f 9] s m0 →
    vc_leafmeshref13_DB_lists_l0 X link2 (.ptr b_4 0) v_3 (f 9) I0 m0 K s) s_1) s
def vc_leafmeshref13_DB_lists_ann : Nat → List Nat := fun k => cond (Nat.beq k 6) [9] ([])
theorem vc_leafmeshref13_DB_lists_eq (X : Told) (d0 : AVal) (n1 : AVal) (link2 : AVal) (K : AVal → Heap → Prop) (s : Heap) : wpC Try.prog X vc_leafmeshref13_DB_lists_ann Try.f69.ntmps none (bodyOf Try.f69) (envOf [d0, n1, link2]) (fun e env s => retK e (resK Try.prog Try.f69.results.toList env (fun vs => K (oneV vs) s) s)) s = vc_leafmeshref13_DB_lists X d0 n1 link2 K s := by kernel_rfl
theorem vc_leafmeshref13_DB_lists_ok {X : Told} (hX : FrX X) (hn : X 69 = none) {d0 : AVal} {n1 : AVal} {link2 : AVal} {K : AVal → Heap → Prop} {s : Heap} (h : vc_leafmeshref13_DB_lists X d0 n1 link2 K s) : wpCall Try.prog X 69 [d0, n1, link2] K s :=
  wpCall_code hX vc_leafmeshref13_DB_lists_ann hn Try.func69 (by kernel_rfl : Try.f69.body = some (bodyOf Try.f69)) (by kernel_rfl) ((vc_leafmeshref13_DB_lists_eq X d0 n1 link2 K s).mpr h)
theorem vc_leafmeshref13_DB_lists_in {d0 : AVal} {n1 : AVal} {link2 : AVal} {K : AVal → Heap → Prop} {s : Heap} (h : vc_leafmeshref13_DB_lists XX d0 n1 link2 K s) : wpCall Try.prog XX 69 [d0, n1, link2] K s := vc_leafmeshref13_DB_lists_ok XX_fr rfl h
/-- cmp.Less[int] (73) -/
def vc_cmp_Less_int__j1 (X : Told) (t12 : AVal) (t15 : AVal) (K : AVal → Heap → Prop) (s : Heap) : Prop :=
  optK (pickV t12 (.bool true) t15) fun v_3 =>
  K v_3 s
def vc_cmp_Less_int__j0 (X : Told) (x0 : AVal) (y1 : AVal) (t7 : AVal) (t10 : AVal) (K : AVal → Heap → Prop) (s : Heap) : Prop :=
  optK (pickV t7 t10 (.bool false)) fun v_2 =>
  boolK v_2
   (vc_cmp_Less_int__j1 X v_2 .undef K s)
   (optK (arithV .lss x0 y1) fun v_4 =>
    vc_cmp_Less_int__j1 X v_2 v_4 K s)
def vc_cmp_Less_int_ (X : Told) (x0 : AVal) (y1 : AVal) (K : AVal → Heap → Prop) (s : Heap) : Prop :=
  wpCall Try.prog X 63 [x0] (fun v_0 s_1 =>
  boolK v_0
   (wpCall Try.prog X 63 [y1] (fun v_5 s_6 =>
    optK (unaryA .not v_5) fun v_7 =>
    vc_cmp_Less_int__j0 X x0 y1 v_0 v_7 K s_6) s_1)
   (vc_cmp_Less_int__j0 X x0 y1 v_0 .undef K s_1)) s
def vc_cmp_Less_int__ann : Nat → List Nat := fun _ => []
theorem vc_cmp_Less_int__eq (X : Told) (x0 : AVal) (y1 : AVal) (K : AVal → Heap → Prop) (s : Heap) : wpC Try.prog X vc_cmp_Less_int__ann Try.f73.ntmps none (bodyOf Try.f73) (envOf [x0, y1]) (fun e env s => retK e (resK Try.prog Try.f73.results.toList env (fun vs => K (oneV vs) s) s)) s = vc_cmp_Less_int_ X x0 y1 K s := by kernel_rfl
theorem vc_cmp_Less_int__ok {X : Told} (hX : FrX X) (hn : X 73 = none) {x0 : AVal} {y1 : AVal} {K : AVal → Heap → Prop} {s : Heap} (h : vc_cmp_Less_int_ X x0 y1 K s) : wpCall Try.prog X 73 [x0, y1] K s :=
  wpCall_code hX vc_cmp_Less_int__ann hn Try.func73 (by kernel_rfl : Try.f73.body = some (bodyOf Try.f73)) (by kernel_rfl) ((vc_cmp_Less_int__eq X x0 y1 K s).mpr h)
theorem vc_cmp_Less_int__in {x0 : AVal} {y1 : AVal} {K : AVal → Heap → Prop} {s : Heap} (h : vc_cmp_Less_int_ XX x0 y1 K s) : wpCall Try.prog XX 73 [x0, y1] K s := vc_cmp_Less_int__ok XX_fr rfl h
/-- slices.isNaN[int] (74) -/
def vc_slices_isNaN_int_ (X : Told) (x0 : AVal) (K : AVal → Heap → Prop) (s : Heap) : Prop :=
  optK (negB true (eqV 0 false x0 x0)) fun v_0 =>
  K v_0 s
def vc_slices_isNaN_int__ann : Nat → List Nat := fun _ => []
theorem vc_slices_isNaN_int__eq (X : Told) (x0 : AVal) (K : AVal → Heap → Prop) (s : Heap) : wpC Try.prog X vc_slices_isNaN_int__ann Try.f74.ntmps none (bodyOf Try.f74) (envOf [x0]) (fun e env s => retK e (resK Try.prog Try.f74.results.toList env (fun vs => K (oneV vs) s) s)) s = vc_slices_isNaN_int_ X x0 K s := by kernel_rfl
theorem vc_slices_isNaN_int__ok {X : Told} (hX : FrX X) (hn : X 74 = none) {x0 : AVal} {K : AVal → Heap → Prop} {s : Heap} (h : vc_slices_isNaN_int_ X x0 K s) : wpCall Try.prog X 74 [x0] K s :=
  wpCall_code hX vc_slices_isNaN_int__ann hn Try.func74 (by kernel_rfl : Try.f74.body = some (bodyOf Try.f74)) (by kernel_rfl) ((vc_slices_isNaN_int__eq X x0 K s).mpr h)
theorem vc_slices_isNaN_int__in {x0 : AVal} {K : AVal → Heap → Prop} {s : Heap} (h : vc_slices_isNaN_int_ XX x0 K s) : wpCall Try.prog XX 74 [x0] K s := vc_slices_isNaN_int__ok XX_fr rfl h
end Go.AM
set_option linter.unusedVariables false
namespace Go.AM
open Go Go.Proofs
set_option maxRecDepth 100000
/-- (*leafmesh/leafmeshref13.DB).Copy (42) -/
def vc_leafmeshref13_DB_Copy_l0 (X : Told) (d0 : AVal) (c3 : AVal) (n4 : AVal) (I0 : List AVal → Heap → Nat → Prop) (m0 : Nat) (K : AVal → Heap → Prop) (s : Heap) : Prop :=
  optK (nilCheckA d0) fun v_12 =>
  optK (addOff 0 v_12) fun v_13 =>
  optK (rd1 s v_13) fun v_14 =>
  optK (arithV .lss n4 v_14) fun v_15 =>
  boolK v_15
   (optK (nilCheckA c3) fun v_16 =>
    optK (addOff 2 v_16) fun v_17 =>
    optK (rd1 s v_17) fun v_18 =>
    optK (nilCheckA d0) fun v_19 =>
    optK (addOff 2 v_19) fun v_20 =>
    optK (rd1 s v_20) fun v_21 =>
    optK (iaddrS 3 v_21 n4) fun v_22 =>
    optK (rdN s 3 v_22) fun v_23 =>
    wpCall Try.prog X 59 [(.agg v_23)] (fun v_24 s_25 =>
    (∀ b, s b ≠ none → s b = none → s_25 b = none) →
    optK (fillR (repl 1 [(.int .i64 0), (.int .i64 0), .nilslc]) [(0, 3, v_24)]) fun c_26 => allOne c_26 = true ∧ newK 24 c_26 (fun b_27 s_28 =>
    (∀ b, (add s s_25) b ≠ none → (add s s_25) b = none → s_28 b = none) →
    appK 24 3 v_18 (.slc b_27 0 1 (some 1) 3) (fun v_29 s_30 =>
    optK (nilCheckA c3) fun v_31 =>
    optK (addOff 2 v_31) fun v_32 =>
    optK (wr1 s_30 v_32 v_29) fun s_33 =>
    optK (arithV .add n4 (.int .i64 1)) fun v_34 =>
    ∃ m', m' < m0 ∧ I0 [v_34] s_33 m') (add (add s s_25) s_28)) (frz (add s s_25))) (frz s))
   (K c3 s)
def vc_leafmeshref13_DB_Copy (X : Told) (d0 : AVal) (K : AVal → Heap → Prop) (s : Heap) : Prop :=
  optK (nilCheckA d0) fun v_0 =>
  optK (addOff 0 v_0) fun v_1 =>
  optK (rd1 s v_1) fun v_2 =>
  optK (nilCheckA d0) fun v_3 =>
  optK (addOff 1 v_3) fun v_4 =>
  optK (rd1 s v_4) fun v_5 =>
  optK (nilCheckA d0) fun v_6 =>
  optK (addOff 3 v_6) fun v_7 =>
  optK (rd1 s v_7) fun v_8 =>
  optK (fillR [(.int .i64 0), (.int .i64 0), .nilslc, (.int .i64 0)] [(0, 1, v_2), (1, 1, v_5), (3, 1, v_8)]) fun c_9 =>
  boxK 96 (.agg c_9) (fun b_10 s_11 =>
  ∃ I0 : List AVal → Heap → Nat → Prop, (∃ m, I0 [(.int .i64 0)] s_11 m) ∧ ∀ (f : Env) (s : Heap) (m0 : Nat), I0 [f 4] s m0 →
    vc_leafmeshref13_DB_Copy_l0 X d0 b_10 (f 4) I0 m0 K s) s
def vc_leafmeshref13_DB_Copy_ann : Nat → List Nat := fun k => cond (Nat.beq k 6) [4] ([])
theorem vc_leafmeshref13_DB_Copy_eq (X : Told) (d0 : AVal) (K : AVal → Heap → Prop) (s : Heap) : wpC Try.prog X vc_leafmeshref13_DB_Copy_ann Try.f42.ntmps none (bodyOf Try.f42) (envOf [d0]) (fun e env s => retK e (resK Try.prog Try.f42.results.toList env (fun vs => K (oneV vs) s) s)) s = vc_leafmeshref13_DB_Copy X d0 K s := by kernel_rfl
theorem vc_leafmeshref13_DB_Copy_ok {X : Told} (hX : FrX X) (hn : X 42 = none) {d0 : AVal} {K : AVal → Heap → Prop} {s : Heap} (h : vc_leafmeshref13_DB_Copy X d0 K s) : wpCall Try.prog X 42 [d0] K s :=
  wpCall_code hX vc_leafmeshref13_DB_Copy_ann hn Try.func42 (by kernel_rfl : Try.f42.body = some (bodyOf Try.f42)) (by kernel_rfl) ((vc_leafmeshref13_DB_Copy_eq X d0 K s).mpr h)
theorem vc_leafmeshref13_DB_Copy_in {d0 : AVal} {K : AVal → Heap → Prop} {s : Heap} (h : vc_leafmeshref13_DB_Copy XX d0 K s) : wpCall Try.prog XX 42 [d0] K s := vc_leafmeshref13_DB_Copy_ok XX_fr rfl h
abbrev WW : List Nat := [41, 8]
/-- (*leafmesh/lsdb.DB).Copy (41), in any order -/
def vw_lsdb_DB_Copy (X : Told) (d0 : AVal) (K : AVal → Heap → Prop) (s : Heap) : Prop :=
  wpCall Try.prog X 51 [d0] (fun v_0 s_1 =>
  optK (unaryA .not v_0) fun v_2 =>
  boolK v_2
   (K .nilptr s_1)
   (optK (nilCheckA d0) fun v_3 =>
    optK (addOff 0 v_3) fun v_4 =>
    optK (rd1 s_1 v_4) fun v_5 =>
    optK (nilCheckA d0) fun v_6 =>
    optK (addOff 1 v_6) fun v_7 =>
    optK (rd1 s_1 v_7) fun v_8 =>
    optK (nilCheckA d0) fun v_9 =>
    optK (addOff 2 v_9) fun v_10 =>
    optK (rd1 s_1 v_10) fun v_11 =>
    optK (nilCheckA d0) fun v_12 =>
    optK (addOff 3 v_12) fun v_13 =>
    optK (rd1 s_1 v_13) fun v_14 =>
    optK (lenM s_1 v_14) fun v_15 =>
    intK (.int .i64 v_15) (mapK (fun v_17 s_18 =>
    (∀ b, s_1 b ≠ none → s_1 b = none → s_18 b = none) →
    optK (fillR [(.int .i64 0), (.int .i64 0), (.int .i64 0), .nilmap] [(0, 1, v_5), (1, 1, v_8), (2, 1, v_11), (3, 1, v_17)]) fun c_19 =>
    boxK 81 (.agg c_19) (fun b_20 s_21 =>
    optK (nilCheckA d0) fun v_22 =>
    optK (addOff 3 v_22) fun v_23 =>
    optK (rd1 s_21 v_23) fun v_24 =>
    iterK v_24 (fun v_25 s_26 =>
    optK (iterOf s_26 v_25) fun p_27 => ∃ I0 : List Nat → List AVal → Heap → Prop, I0 [] [] (hdel s_26 p_27.1) ∧
      ∀ (n_29 : List Nat) (f_30 : Env) (s_31 : Heap), I0 n_29 [] s_31 → s_31 p_27.1 = none → MapIt s_31 p_27.2.1 p_27.2.2.2.1 p_27.2.2.2.2 ∧
      (∀ e_28 ∈ p_27.2.2.2.2, hasN e_28.born n_29 = false →
        boolK (.bool true)
         (optK (entD (hset s_31 p_27.1 (true, .iter p_27.2.1 p_27.2.2.1 (n_29 ++ [e_28.born]) p_27.2.2.2.1)) v_25) fun v_32 =>
          optK (extractA v_32 0) fun v_33 =>
          optK (extractA v_32 1) fun v_34 =>
          newK 24 [(.int .i64 0), (.int .i64 0), .nilslc] (fun b_35 s_36 =>
          optK (wrAgg s_36 3 (.ptr b_35 0) v_34) fun s_37 =>
          optK (nilCheckA b_20) fun v_38 =>
          optK (addOff 3 v_38) fun v_39 =>
          optK (rd1 s_37 v_39) fun v_40 =>
          optK (rdN s_37 3 (.ptr b_35 0)) fun v_41 =>
          wpCall Try.prog X 54 [(.agg v_41)] (fun v_42 s_43 =>
          (∀ b, s_37 b ≠ none → s_37 b = none → s_43 b = none) →
          optK (putM (add s_37 s_43) v_40 v_33 v_42) fun s_44 =>
          I0 (n_29 ++ [e_28.born]) [] (hdel s_44 p_27.1)) (frz s_37)) (hset s_31 p_27.1 (true, .iter p_27.2.1 p_27.2.2.1 (n_29 ++ [e_28.born]) p_27.2.2.2.1)))
         (K b_20 (hdel (hset s_31 p_27.1 (true, .iter p_27.2.1 p_27.2.2.1 (n_29 ++ [e_28.born]) p_27.2.2.2.1)) p_27.1))) ∧
      ((∀ e_28 ∈ p_27.2.2.2.2, hasN e_28.born n_29 = true) →
        boolK (.bool false)
         (optK (entD s_31 v_25) fun v_45 =>
          optK (extractA v_45 0) fun v_46 =>
          optK (extractA v_45 1) fun v_47 =>
          newK 24 [(.int .i64 0), (.int .i64 0), .nilslc] (fun b_48 s_49 =>
          optK (wrAgg s_49 3 (.ptr b_48 0) v_47) fun s_50 =>
          optK (nilCheckA b_20) fun v_51 =>
          optK (addOff 3 v_51) fun v_52 =>
          optK (rd1 s_50 v_52) fun v_53 =>
          optK (rdN s_50 3 (.ptr b_48 0)) fun v_54 =>
          wpCall Try.prog X 54 [(.agg v_54)] (fun v_55 s_56 =>
          (∀ b, s_50 b ≠ none → s_50 b = none → s_56 b = none) →
          optK (putM (add s_50 s_56) v_53 v_46 v_55) fun s_57 =>
          False) (frz s_50)) s_31)
         (K b_20 s_31))) s_21) (add s_1 s_18)) (frz s_1)))) s
def vw_lsdb_DB_Copy_ann : Nat → List Nat := fun k => cond (Nat.beq k 10) [] ([])
theorem vw_lsdb_DB_Copy_eq (X : Told) (d0 : AVal) (K : AVal → Heap → Prop) (s : Heap) : wpCW Try.prog X WW vw_lsdb_DB_Copy_ann Try.f41.ntmps (bodyOf Try.f41) (envOf [d0]) (fun e env s => retK e (resK Try.prog Try.f41.results.toList env (fun vs => K (oneV vs) s) s)) s = vw_lsdb_DB_Copy X d0 K s := by kernel_rfl
theorem vw_lsdb_DB_Copy_in {d0 : AVal} {K : AVal → Heap → Prop} {s : Heap} (h : vw_lsdb_DB_Copy XX d0 K s) : wpW Try.prog XX 41 [d0] K s :=
  wpW_code vw_lsdb_DB_Copy_ann Try.func41 (by kernel_rfl : Try.f41.body = some (bodyOf Try.f41)) (by kernel_rfl) ((vw_lsdb_DB_Copy_eq XX d0 K s).mpr h)
/-- leafmesh/leafmeshlaw13.LsdbScript (8), in any order -/
def vw_leafmeshlaw13_LsdbScript_j4 (X : Told) (links2 : AVal) (l3 : AVal) (d9 : AVal) (o11 : AVal) (i13 : AVal) (r14 : AVal) (I2 : List AVal → Heap → Nat → Prop) (m2 : Nat) (K : AVal → Heap → Prop) (s : Heap) : Prop :=
  optK (addOff 2 r14) fun v_45 =>
  optK (rd1 s v_45) fun v_46 =>
  optK (iaddrS 4 l3 i13) fun v_47 =>
  optK (addOff 1 v_47) fun v_48 =>
  optK (addOff 2 v_48) fun v_49 =>
  optK (rd1 s v_49) fun v_50 =>
  wpCall Try.prog X 34 [v_46, v_50] (fun v_51 s_52 =>
  optK (unaryA .not v_51) fun v_53 =>
  boolK v_53
   (K (.bool false) s_52)
   (optK (rdN s_52 3 r14) fun v_54 =>
    optK (fillR (repl 1 [(.int .i64 0), (.int .i64 0), .nilslc]) [(0, 3, (.agg v_54))]) fun c_55 => allOne c_55 = true ∧ newK 24 c_55 (fun b_56 s_57 =>
    wpCall Try.prog X 40 [(.slc b_56 0 1 (some 1) 3)] (fun v_58 s_59 =>
    wpCall Try.prog X 44 [d9, o11, links2] (fun v_60 s_61 =>
    optK (unaryA .not v_60) fun v_62 =>
    boolK v_62
     (K (.bool false) s_61)
     (optK (arithV .add i13 (.int .i64 1)) fun v_63 =>
      ∃ m', m' < m2 ∧ I2 [d9, o11, v_63] s_61 m')) s_59) s_57) s_52)) s
def vw_leafmeshlaw13_LsdbScript_j6 (X : Told) (links2 : AVal) (l3 : AVal) (d9 : AVal) (o11 : AVal) (i13 : AVal) (r14 : AVal) (a15 : AVal) (t146 : AVal) (t149 : AVal) (I2 : List AVal → Heap → Nat → Prop) (m2 : Nat) (K : AVal → Heap → Prop) (s : Heap) : Prop :=
  optK (pickV t146 (.bool true) t149) fun v_92 =>
  boolK v_92
   (K (.bool false) s)
   (optK (rdN s 3 a15) fun v_93 =>
    optK (fillR (repl 1 [(.int .i64 0), (.int .i64 0), .nilslc]) [(0, 3, (.agg v_93))]) fun c_94 => allOne c_94 = true ∧ newK 24 c_94 (fun b_95 s_96 =>
    wpCall Try.prog X 40 [(.slc b_95 0 1 (some 1) 3)] (fun v_97 s_98 =>
    vw_leafmeshlaw13_LsdbScript_j4 X links2 l3 d9 o11 i13 r14 I2 m2 K s_98) s_96) s)
def vw_leafmeshlaw13_LsdbScript_j5 (X : Told) (links2 : AVal) (l3 : AVal) (d9 : AVal) (o11 : AVal) (i13 : AVal) (r14 : AVal) (a15 : AVal) (g17 : AVal) (h20 : AVal) (t141 : AVal) (t144 : AVal) (I2 : List AVal → Heap → Nat → Prop) (m2 : Nat) (K : AVal → Heap → Prop) (s : Heap) : Prop :=
  optK (pickV t141 (.bool true) t144) fun v_91 =>
  boolK v_91
   (vw_leafmeshlaw13_LsdbScript_j6 X links2 l3 d9 o11 i13 r14 a15 v_91 .undef I2 m2 K s)
   (optK (negB true (eqV 0 false g17 h20)) fun v_99 =>
    vw_leafmeshlaw13_LsdbScript_j6 X links2 l3 d9 o11 i13 r14 a15 v_91 v_99 I2 m2 K s)
def vw_leafmeshlaw13_LsdbScript_j7 (X : Told) (links2 : AVal) (l3 : AVal) (d9 : AVal) (o11 : AVal) (i13 : AVal) (r14 : AVal) (t110 : AVal) (t113 : AVal) (I2 : List AVal → Heap → Nat → Prop) (m2 : Nat) (K : AVal → Heap → Prop) (s : Heap) : Prop :=
  optK (pickV t110 (.bool true) t113) fun v_127 =>
  boolK v_127
   (K (.bool false) s)
   (vw_leafmeshlaw13_LsdbScript_j4 X links2 l3 d9 o11 i13 r14 I2 m2 K s)
def vw_leafmeshlaw13_LsdbScript_j3 (X : Told) (links2 : AVal) (l3 : AVal) (d9 : AVal) (o11 : AVal) (i13 : AVal) (t59 : AVal) (t63 : AVal) (I2 : List AVal → Heap → Nat → Prop) (m2 : Nat) (K : AVal → Heap → Prop) (s : Heap) : Prop :=
  optK (pickV t59 t63 (.bool false)) fun v_17 =>
  boolK v_17
   (optK (iaddrS 4 l3 i13) fun v_18 =>
    optK (addOff 1 v_18) fun v_19 =>
    optK (addOff 2 v_19) fun v_20 =>
    optK (rd1 s v_20) fun v_21 =>
    optK (lenOfA v_21) fun v_22 =>
    optK (arithV .gtr (.int .i64 v_22) (.int .i64 200)) fun v_24 =>
    boolK v_24
     (wpCall Try.prog X 10 [] (fun v_25 s_26 =>
      K v_25 s_26) s)
     (optK (iaddrS 4 l3 i13) fun v_27 =>
      optK (addOff 1 v_27) fun v_28 =>
      optK (rdN s 3 v_28) fun v_29 =>
      newK 24 [(.int .i64 0), (.int .i64 0), .nilslc] (fun b_30 s_31 =>
      optK (wrAgg s_31 3 (.ptr b_30 0) (.agg v_29)) fun s_32 =>
      optK (addOff 2 (.ptr b_30 0)) fun v_33 =>
      optK (rd1 s_32 v_33) fun v_34 =>
      wpCall Try.prog X 11 [v_34] (fun v_35 s_36 =>
      optK (addOff 2 (.ptr b_30 0)) fun v_37 =>
      optK (wr1 s_36 v_37 v_35) fun s_38 =>
      optK (iaddrS 4 l3 i13) fun v_39 =>
      optK (addOff 0 v_39) fun v_40 =>
      optK (rd1 s_38 v_40) fun v_41 =>
      wpCall Try.prog X 29 [v_41, (.int .i64 4)] (fun v_42 s_43 =>
      optK (negB false (eqV 0 true v_42 (.int .i64 0))) fun v_44 =>
      boolK v_44
       (optK (addOff 2 (.ptr b_30 0)) fun v_64 =>
        optK (rd1 s_43 v_64) fun v_65 =>
        wpCall Try.prog X 38 [d9, v_65] (fun v_66 s_67 =>
        optK (extractA v_66 0) fun v_68 =>
        optK (extractA v_66 1) fun v_69 =>
        optK (extractA v_66 2) fun v_70 =>
        newK 24 [(.int .i64 0), (.int .i64 0), .nilslc] (fun b_71 s_72 =>
        optK (wrAgg s_72 3 (.ptr b_71 0) v_68) fun s_73 =>
        optK (iaddrS 4 l3 i13) fun v_74 =>
        optK (addOff 1 v_74) fun v_75 =>
        optK (addOff 2 v_75) fun v_76 =>
        optK (rd1 s_73 v_76) fun v_77 =>
        wpCall Try.prog X 39 [o11, v_77] (fun v_78 s_79 =>
        optK (extractA v_78 0) fun v_80 =>
        optK (extractA v_78 1) fun v_81 =>
        optK (extractA v_78 2) fun v_82 =>
        newK 24 [(.int .i64 0), (.int .i64 0), .nilslc] (fun b_83 s_84 =>
        optK (wrAgg s_84 3 (.ptr b_83 0) v_80) fun s_85 =>
        optK (rdN s_85 3 (.ptr b_71 0)) fun v_86 =>
        optK (rdN s_85 3 (.ptr b_83 0)) fun v_87 =>
        wpCall Try.prog X 16 [(.agg v_86), (.agg v_87)] (fun v_88 s_89 =>
        optK (unaryA .not v_88) fun v_90 =>
        boolK v_90
         (vw_leafmeshlaw13_LsdbScript_j5 X links2 l3 d9 o11 i13 (.ptr b_30 0) (.ptr b_71 0) v_70 v_82 v_90 .undef I2 m2 K s_89)
         (optK (negB true (eqV 1 false v_69 v_81)) fun v_100 =>
          vw_leafmeshlaw13_LsdbScript_j5 X links2 l3 d9 o11 i13 (.ptr b_30 0) (.ptr b_71 0) v_70 v_82 v_90 v_100 I2 m2 K s_89)) s_85) s_79) s_73) s_67) s_43)
       (optK (negB false (eqV 0 true v_42 (.int .i64 3))) fun v_101 =>
        boolK v_101
         (wpW Try.prog X 41 [d9] (fun v_102 s_103 =>
          wpCall Try.prog X 42 [o11] (fun v_104 s_105 =>
          optK (fillR (repl 1 [(.int .i64 0)]) [(0, 1, (.int .i64 77))]) fun c_106 => allOne c_106 = true ∧ newK 3 c_106 (fun b_107 s_108 =>
          wpCall Try.prog X 38 [d9, (.slc b_107 0 1 (some 1) 1)] (fun v_109 s_110 =>
          optK (fillR [(.int .i64 0), (.int .i64 0), .nilslc] [(0, 1, (.int .i64 0)), (1, 1, (.int .i64 536870912))]) fun c_111 =>
          wpCall Try.prog X 27 [d9, (.agg c_111)] (fun v_112 s_113 =>
          vw_leafmeshlaw13_LsdbScript_j4 X links2 l3 v_102 v_104 i13 (.ptr b_30 0) I2 m2 K s_113) s_110) s_108) s_105) s_103) s_43)
         (optK (rdN s_43 3 (.ptr b_30 0)) fun v_114 =>
          wpCall Try.prog X 27 [d9, (.agg v_114)] (fun v_115 s_116 =>
          optK (extractA v_115 0) fun v_117 =>
          optK (extractA v_115 1) fun v_118 =>
          optK (iaddrS 4 l3 i13) fun v_119 =>
          optK (addOff 1 v_119) fun v_120 =>
          optK (rdN s_116 3 v_120) fun v_121 =>
          wpCall Try.prog X 43 [o11, (.agg v_121)] (fun v_122 s_123 =>
          optK (extractA v_122 0) fun v_124 =>
          optK (extractA v_122 1) fun v_125 =>
          optK (negB true (eqV 0 false v_117 v_124)) fun v_126 =>
          boolK v_126
           (vw_leafmeshlaw13_LsdbScript_j7 X links2 l3 d9 o11 i13 (.ptr b_30 0) v_126 .undef I2 m2 K s_123)
           (optK (negB true (eqV 0 false v_118 v_125)) fun v_128 =>
            vw_leafmeshlaw13_LsdbScript_j7 X links2 l3 d9 o11 i13 (.ptr b_30 0) v_126 v_128 I2 m2 K s_123)) s_116) s_43))) s_38) s_32) s))
   (wpCall Try.prog X 10 [] (fun v_129 s_130 =>
    K v_129 s_130) s)
def vw_leafmeshlaw13_LsdbScript_l2 (X : Told) (links2 : AVal) (l3 : AVal) (d9 : AVal) (o11 : AVal) (i13 : AVal) (I2 : List AVal → Heap → Nat → Prop) (m2 : Nat) (K : AVal → Heap → Prop) (s : Heap) : Prop :=
  optK (negB true (eqV 3 true o11 .nilptr)) fun v_16 =>
  boolK v_16
   (optK (lenOfA l3) fun v_131 =>
    optK (arithV .lss i13 (.int .i64 v_131)) fun v_133 =>
    vw_leafmeshlaw13_LsdbScript_j3 X links2 l3 d9 o11 i13 v_16 v_133 I2 m2 K s)
   (vw_leafmeshlaw13_LsdbScript_j3 X links2 l3 d9 o11 i13 v_16 .undef I2 m2 K s)
def vw_leafmeshlaw13_LsdbScript_j1 (X : Told) (links2 : AVal) (l3 : AVal) (d9 : AVal) (o11 : AVal) (t50 : AVal) (t55 : AVal) (K : AVal → Heap → Prop) (s : Heap) : Prop :=
  optK (pickV t50 (.bool true) t55) fun v_15 =>
  boolK v_15
   (K (.bool false) s)
   (∃ I2 : List AVal → Heap → Nat → Prop, (∃ m, I2 [d9, o11, (.int .i64 0)] s m) ∧ ∀ (f : Env) (s : Heap) (m2 : Nat), I2 [f 9, f 11, f 13] s m2 →
      vw_leafmeshlaw13_LsdbScript_l2 X links2 l3 (f 9) (f 11) (f 13) I2 m2 K s)
def vw_leafmeshlaw13_LsdbScript_j0 (X : Told) (nodes0 : AVal) (node1 : AVal) (links2 : AVal) (l3 : AVal) (t29 : AVal) (t32 : AVal) (K : AVal → Heap → Prop) (s : Heap) : Prop :=
  optK (pickV t29 (.bool true) t32) fun v_3 =>
  boolK v_3
   (wpCall Try.prog X 10 [] (fun v_4 s_5 =>
    K v_4 s_5) s)
   (wpCall Try.prog X 17 [nodes0, node1] (fun v_6 s_7 =>
    optK (extractA v_6 0) fun v_8 =>
    optK (extractA v_6 1) fun v_9 =>
    wpCall Try.prog X 37 [nodes0, node1] (fun v_10 s_11 =>
    optK (extractA v_10 0) fun v_12 =>
    optK (extractA v_10 1) fun v_13 =>
    optK (negB true (eqV 0 false v_9 v_13)) fun v_14 =>
    boolK v_14
     (vw_leafmeshlaw13_LsdbScript_j1 X links2 l3 v_8 v_12 v_14 .undef K s_11)
     (optK (negB false (eqV 3 true v_8 .nilptr)) fun v_134 =>
      optK (negB false (eqV 3 true v_12 .nilptr)) fun v_135 =>
      optK (negB true (eqV 1 false v_134 v_135)) fun v_136 =>
      vw_leafmeshlaw13_LsdbScript_j1 X links2 l3 v_8 v_12 v_14 v_136 K s_11)) s_7) s)
def vw_leafmeshlaw13_LsdbScript (X : Told) (nodes0 : AVal) (node1 : AVal) (links2 : AVal) (l3 : AVal) (K : AVal → Heap → Prop) (s : Heap) : Prop :=
  optK (lenOfA links2) fun v_0 =>
  optK (arithV .gtr (.int .i64 v_0) (.int .i64 130)) fun v_2 =>
  boolK v_2
   (vw_leafmeshlaw13_LsdbScript_j0 X nodes0 node1 links2 l3 v_2 .undef K s)
   (optK (lenOfA l3) fun v_137 =>
    optK (arithV .gtr (.int .i64 v_137) (.int .i64 60)) fun v_139 =>
    vw_leafmeshlaw13_LsdbScript_j0 X nodes0 node1 links2 l3 v_2 v_139 K s)
def vw_leafmeshlaw13_LsdbScript_ann : Nat → List Nat := fun k => cond (Nat.beq k 16) [9, 11, 13] ([])
theorem vw_leafmeshlaw13_LsdbScript_eq (X : Told) (nodes0 : AVal) (node1 : AVal) (links2 : AVal) (l3 : AVal) (K : AVal → Heap → Prop) (s : Heap) : wpCW Try.prog X WW vw_leafmeshlaw13_LsdbScript_ann Try.f8.ntmps (bodyOf Try.f8) (envOf [nodes0, node1, links2, l3]) (fun e env s => retK e (resK Try.prog Try.f8.results.toList env (fun vs => K (oneV vs) s) s)) s = vw_leafmeshlaw13_LsdbScript X nodes0 node1 links2 l3 K s := by kernel_rfl
theorem vw_leafmeshlaw13_LsdbScript_in {nodes0 : AVal} {node1 : AVal} {links2 : AVal} {l3 : AVal} {K : AVal → Heap → Prop} {s : Heap} (h : vw_leafmeshlaw13_LsdbScript XX nodes0 node1 links2 l3 K s) : wpW Try.prog XX 8 [nodes0, node1, links2, l3] K s :=
  wpW_code vw_leafmeshlaw13_LsdbScript_ann Try.func8 (by kernel_rfl : Try.f8.body = some (bodyOf Try.f8)) (by kernel_rfl) ((vw_leafmeshlaw13_LsdbScript_eq XX nodes0 node1 links2 l3 K s).mpr h)
end Go.AM
