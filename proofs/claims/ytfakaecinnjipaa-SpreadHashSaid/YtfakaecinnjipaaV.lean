/- Part V of a calculus over a small memory that is proved to answer as the program does, and of its use for the functions that the law reaches: see the last part. -/
import Derived.Test.YtfakaecinnjipaaU2
import Derived.Test.YtfakaecinnjipaaProg
import Derived.KernelRfl
set_option linter.unusedVariables false
namespace Go.AM
open Go Go.Proofs
set_option maxRecDepth 100000
abbrev XX : Told := closedX [17]
/-- leafmesh/leafmeshlaw11.SpreadHash (9) -/
def vc_leafmeshlaw11_SpreadHash (X : Told) (p0 : AVal) (ttl1 : AVal) (high2 : AVal) (mark3 : AVal) (inner4 : AVal) (K : AVal → Heap → Prop) (s : Heap) : Prop :=
  boxK 66 p0 (fun b_0 s_1 =>
  boxK 64 inner4 (fun b_2 s_3 =>
  optK (rdN s_3 21 b_0) fun v_4 =>
  newK 66 [(.int .u32 0), (.int .u32 0), (.int .i64 0), (.int .i64 0), (.int .u32 0), (.int .u32 0), (.int .u64 0), (.int .u64 0), (.int .i64 0), (.int .i64 0), (.int .u64 0), (.int .u32 0), (.int .u64 0), (.int .u32 0), (.int .u32 0), (.int .u32 0), (.int .i64 0), (.int .i64 0), (.int .i64 0), (.int .i64 0), (.int .u64 0)] (fun b_5 s_6 =>
  optK (wrAgg s_6 21 (.ptr b_5 0) (.agg v_4)) fun s_7 =>
  optK (rdN s_7 15 b_2) fun v_8 =>
  optK (addOff 2 (.ptr b_5 0)) fun v_9 =>
  ((cutH [((hdel s_7 (blkOf b_2)), s_7)] s_7) (blkOf v_9) ≠ none) ∧
  optK (wr1 s_7 v_9 ttl1) fun s_10 =>
  optK (addOff 5 (.ptr b_5 0)) fun v_11 =>
  ((cutH [((hdel s_7 (blkOf b_2)), s_7)] s_10) (blkOf v_11) ≠ none) ∧
  optK (wr1 s_10 v_11 mark3) fun s_12 =>
  optK (addOff 6 (.ptr b_5 0)) fun v_13 =>
  optK (wrAgg s_12 15 v_13 (.agg v_8)) fun s_14 =>
  optK (addOff 3 b_0) fun v_15 =>
  optK (rd1 s_14 v_15) fun v_16 =>
  optK (arithV .and v_16 (.int .i64 65535)) fun v_17 =>
  optK (arithV .and high2 (.int .i64 16777215)) fun v_18 =>
  optK (arithV .mul v_18 (.int .i64 65536)) fun v_19 =>
  optK (arithV .add v_17 v_19) fun v_20 =>
  optK (addOff 3 (.ptr b_5 0)) fun v_21 =>
  optK (wr1 s_14 v_21 v_20) fun s_22 =>
  optK (addOff 4 b_0) fun v_23 =>
  optK (rd1 s_22 v_23) fun v_24 =>
  optK (arithV .and mark3 (.int .u32 4278190080)) fun v_25 =>
  optK (arithV .xor v_24 v_25) fun v_26 =>
  optK (addOff 4 (.ptr b_5 0)) fun v_27 =>
  optK (wr1 s_22 v_27 v_26) fun s_28 =>
  optK (rdN s_28 21 b_0) fun v_29 =>
  wpCall Try.prog X 30 [(.agg v_29)] (fun v_30 s_31 =>
  (∀ b, s_28 b ≠ none → s_28 b = none → s_31 b = none) →
  optK (rdN (cutH [(s_28, (add s_28 s_31))] (add s_28 s_31)) 21 b_0) fun v_32 =>
  wpCall Try.prog X 31 [(.agg v_32)] (fun v_33 s_34 =>
  optK (negB false (eqV 0 false v_30 v_33)) fun v_35 =>
  boolK v_35
   (optK (rdN s_34 21 (.ptr b_5 0)) fun v_36 =>
  wpCall Try.prog X 30 [(.agg v_36)] (fun v_37 s_38 =>
  (∀ b, s_34 b ≠ none → s_34 b = none → s_38 b = none) →
  optK (rdN (cutH [(s_34, (add s_34 s_38))] (add s_34 s_38)) 21 b_0) fun v_39 =>
  wpCall Try.prog X 30 [(.agg v_39)] (fun v_40 s_41 =>
  optK (negB false (eqV 0 false v_37 v_40)) fun v_42 =>
  optK (pickV v_35 v_42 (.bool false)) fun v_43 =>
  boolK v_43
   (wpCall Try.prog X 17 [] (fun v_44 s_45 =>
  optK (pickV v_43 v_44 (.bool false)) fun v_46 =>
  K v_46 s_45) s_41)
   (optK (pickV v_43 .undef (.bool false)) fun v_47 =>
  K v_47 s_41)) (add s_34 s_38)) (frz s_34))
   (optK (pickV v_35 .undef (.bool false)) fun v_48 =>
  boolK v_48
   (wpCall Try.prog X 17 [] (fun v_49 s_50 =>
  optK (pickV v_48 v_49 (.bool false)) fun v_51 =>
  K v_51 s_50) s_34)
   (optK (pickV v_48 .undef (.bool false)) fun v_52 =>
  K v_52 s_34))) (add s_28 s_31)) (frz s_28)) s_3) s_1) s
def vc_leafmeshlaw11_SpreadHash_ann : Nat → List Nat := fun _ => []
theorem vc_leafmeshlaw11_SpreadHash_eq (X : Told) (p0 : AVal) (ttl1 : AVal) (high2 : AVal) (mark3 : AVal) (inner4 : AVal) (K : AVal → Heap → Prop) (s : Heap) : wpC Try.prog X vc_leafmeshlaw11_SpreadHash_ann Try.f9.ntmps none (bodyOf Try.f9) (envOf [p0, ttl1, high2, mark3, inner4]) (fun e env s => retK e (resK Try.prog Try.f9.results.toList env (fun vs => K (oneV vs) s) s)) s = vc_leafmeshlaw11_SpreadHash X p0 ttl1 high2 mark3 inner4 K s := by kernel_rfl
theorem vc_leafmeshlaw11_SpreadHash_ok {X : Told} (hX : FrX X) (hn : X 9 = none) {p0 : AVal} {ttl1 : AVal} {high2 : AVal} {mark3 : AVal} {inner4 : AVal} {K : AVal → Heap → Prop} {s : Heap} (h : vc_leafmeshlaw11_SpreadHash X p0 ttl1 high2 mark3 inner4 K s) : wpCall Try.prog X 9 [p0, ttl1, high2, mark3, inner4] K s :=
  wpCall_code hX vc_leafmeshlaw11_SpreadHash_ann hn Try.func9 (by kernel_rfl : Try.f9.body = some (bodyOf Try.f9)) (by kernel_rfl) ((vc_leafmeshlaw11_SpreadHash_eq X p0 ttl1 high2 mark3 inner4 K s).mpr h)
theorem vc_leafmeshlaw11_SpreadHash_in {p0 : AVal} {ttl1 : AVal} {high2 : AVal} {mark3 : AVal} {inner4 : AVal} {K : AVal → Heap → Prop} {s : Heap} (h : vc_leafmeshlaw11_SpreadHash XX p0 ttl1 high2 mark3 inner4 K s) : wpCall Try.prog XX 9 [p0, ttl1, high2, mark3, inner4] K s := vc_leafmeshlaw11_SpreadHash_ok (closedX_fr _) rfl h
/-- leafmesh/spread.Hash (30) -/
def vc_spread_Hash (X : Told) (p0 : AVal) (K : AVal → Heap → Prop) (s : Heap) : Prop :=
  boxK 66 p0 (fun b_0 s_1 =>
  optK (rdN s_1 21 b_0) fun v_2 =>
  wpCall Try.prog X 44 [(.agg v_2)] (fun v_3 s_4 =>
  wpCall Try.prog X 43 [v_3, (.int .u64 14695981039346656037), (.fn (.func 45) [] [])] (fun v_5 s_6 =>
  K v_5 s_6) s_4) s_1) s
def vc_spread_Hash_ann : Nat → List Nat := fun _ => []
theorem vc_spread_Hash_eq (X : Told) (p0 : AVal) (K : AVal → Heap → Prop) (s : Heap) : wpC Try.prog X vc_spread_Hash_ann Try.f30.ntmps none (bodyOf Try.f30) (envOf [p0]) (fun e env s => retK e (resK Try.prog Try.f30.results.toList env (fun vs => K (oneV vs) s) s)) s = vc_spread_Hash X p0 K s := by kernel_rfl
theorem vc_spread_Hash_ok {X : Told} (hX : FrX X) (hn : X 30 = none) {p0 : AVal} {K : AVal → Heap → Prop} {s : Heap} (h : vc_spread_Hash X p0 K s) : wpCall Try.prog X 30 [p0] K s :=
  wpCall_code hX vc_spread_Hash_ann hn Try.func30 (by kernel_rfl : Try.f30.body = some (bodyOf Try.f30)) (by kernel_rfl) ((vc_spread_Hash_eq X p0 K s).mpr h)
theorem vc_spread_Hash_in {p0 : AVal} {K : AVal → Heap → Prop} {s : Heap} (h : vc_spread_Hash XX p0 K s) : wpCall Try.prog XX 30 [p0] K s := vc_spread_Hash_ok (closedX_fr _) rfl h
/-- leafmesh/spread.Hash$1 (45) -/
def vc_spread_Hash_1 (X : Told) (h0 : AVal) (b1 : AVal) (K : AVal → Heap → Prop) (s : Heap) : Prop :=
  optK (convI .u64 b1) fun v_0 =>
  optK (arithV .xor h0 v_0) fun v_1 =>
  optK (arithV .mul v_1 (.int .u64 1099511628211)) fun v_2 =>
  K v_2 s
def vc_spread_Hash_1_ann : Nat → List Nat := fun _ => []
theorem vc_spread_Hash_1_eq (X : Told) (h0 : AVal) (b1 : AVal) (K : AVal → Heap → Prop) (s : Heap) : wpC Try.prog X vc_spread_Hash_1_ann Try.f45.ntmps none (bodyOf Try.f45) (envOf [h0, b1]) (fun e env s => retK e (resK Try.prog Try.f45.results.toList env (fun vs => K (oneV vs) s) s)) s = vc_spread_Hash_1 X h0 b1 K s := by kernel_rfl
theorem vc_spread_Hash_1_ok {X : Told} (hX : FrX X) (hn : X 45 = none) {h0 : AVal} {b1 : AVal} {K : AVal → Heap → Prop} {s : Heap} (h : vc_spread_Hash_1 X h0 b1 K s) : wpCall Try.prog X 45 [h0, b1] K s :=
  wpCall_code hX vc_spread_Hash_1_ann hn Try.func45 (by kernel_rfl : Try.f45.body = some (bodyOf Try.f45)) (by kernel_rfl) ((vc_spread_Hash_1_eq X h0 b1 K s).mpr h)
theorem vc_spread_Hash_1_in {h0 : AVal} {b1 : AVal} {K : AVal → Heap → Prop} {s : Heap} (h : vc_spread_Hash_1 XX h0 b1 K s) : wpCall Try.prog XX 45 [h0, b1] K s := vc_spread_Hash_1_ok (closedX_fr _) rfl h
/-- leafmesh/spread.fold[byte,uint64] (43) -/
def vc_spread_fold_byte_uint64_ (X : Told) (seq0 : AVal) (start1 : AVal) (combine2 : AVal) (K : AVal → Heap → Prop) (s : Heap) : Prop :=
  boxK 81 combine2 (fun b_0 s_1 =>
  newK 28 [(.int .u64 0)] (fun b_2 s_3 =>
  optK (wr1 s_3 (.ptr b_2 0) start1) fun s_4 =>
  rngK Try.prog X 17 none seq0 [(5, b_0), (7, (.ptr b_2 0))] [11] (rfAs 0 (bodyOf Try.f43)) (rfBo 0 (bodyOf Try.f43)) (fun s_5 =>
    optK (rd1 s_5 (.ptr b_2 0)) fun v_7 =>
    K v_7 s_5)
   (fun s_6 =>
    K (.int .u64 0) s_6)
   (fun id s_8 =>
    cond (Nat.beq id 0)
     (optK (rd1 s_8 (.ptr b_2 0)) fun v_9 =>
      K v_9 s_8)
     (False)) s_4) s_1) s
def vc_spread_fold_byte_uint64__ann : Nat → List Nat := fun k => cond (Nat.beq k 9) [5, 7] ([])
theorem vc_spread_fold_byte_uint64__eq (X : Told) (seq0 : AVal) (start1 : AVal) (combine2 : AVal) (K : AVal → Heap → Prop) (s : Heap) : wpC Try.prog X vc_spread_fold_byte_uint64__ann Try.f43.ntmps none (bodyOf Try.f43) (envOf [seq0, start1, combine2]) (fun e env s => retK e (resK Try.prog Try.f43.results.toList env (fun vs => K (oneV vs) s) s)) s = vc_spread_fold_byte_uint64_ X seq0 start1 combine2 K s := by kernel_rfl
theorem vc_spread_fold_byte_uint64__ok {X : Told} (hX : FrX X) (hn : X 43 = none) {seq0 : AVal} {start1 : AVal} {combine2 : AVal} {K : AVal → Heap → Prop} {s : Heap} (h : vc_spread_fold_byte_uint64_ X seq0 start1 combine2 K s) : wpCall Try.prog X 43 [seq0, start1, combine2] K s :=
  wpCall_code hX vc_spread_fold_byte_uint64__ann hn Try.func43 (by kernel_rfl : Try.f43.body = some (bodyOf Try.f43)) (by kernel_rfl) ((vc_spread_fold_byte_uint64__eq X seq0 start1 combine2 K s).mpr h)
theorem vc_spread_fold_byte_uint64__in {seq0 : AVal} {start1 : AVal} {combine2 : AVal} {K : AVal → Heap → Prop} {s : Heap} (h : vc_spread_fold_byte_uint64_ XX seq0 start1 combine2 K s) : wpCall Try.prog XX 43 [seq0, start1, combine2] K s := vc_spread_fold_byte_uint64__ok (closedX_fr _) rfl h
def vc_spread_fold_byte_uint64__r0 (X : Told) (l : Nat) (combine5 : AVal) (result7 : AVal) (t11 : AVal) (E : AExit → Heap → Prop) (s : Heap) : Prop :=
  AExit.nrm = .nrm ∧ beginK l (fun s_0 =>
  optK (rd1 s_0 combine5) fun v_1 =>
  optK (rd1 s_0 result7) fun v_2 =>
  funK Try.prog X v_1 [v_2, t11] (fun v_3 s_4 =>
  optK (wr1 s_4 result7 v_3) fun s_5 =>
  E .nrm s_5) s_0) s
theorem vc_spread_fold_byte_uint64__r0_eq (X : Told) (l : Nat) (f : Env) (t11 : AVal) (E : AExit → Heap → Prop) (s : Heap) : wpC Try.prog X vc_spread_fold_byte_uint64__ann Try.f43.ntmps (some l) (rfAs 0 (bodyOf Try.f43)) (setE f [11] [t11]) (fun e env s => e = .nrm ∧ beginK l (fun s => wpC Try.prog X vc_spread_fold_byte_uint64__ann Try.f43.ntmps (some l) (rfBo 0 (bodyOf Try.f43)) env (fun e _ s => E e s) s) s) s = vc_spread_fold_byte_uint64__r0 X l (f 5) (f 7) t11 E s := by kernel_rfl
theorem vc_spread_fold_byte_uint64__r0_in {l : Nat} {t : Bool} {st : LoopState} {pd : Option Code} {d : Nat} {combine5 : AVal} {result7 : AVal} {t11 : AVal} {K : AVal → Heap → Prop} {s : Heap} (hs : s l = some (t, .loop st pd 17 [(5, combine5), (7, result7)] [11] (rfAs 0 (bodyOf Try.f43)) (rfBo 0 (bodyOf Try.f43)) d)) (h : vc_spread_fold_byte_uint64__r0 XX l combine5 result7 t11 (fun e s => endK l e K s) s) : wpRound Try.prog XX l [t11] K s :=
  wpRound_ok (closedX_fr _) vc_spread_fold_byte_uint64__ann hs rfl rfl fun f hf => by
    refine (vc_spread_fold_byte_uint64__r0_eq XX l f t11 (fun e s => endK l e K s) s).mpr ?_
    rw [show f 5 = combine5 from hf (5, combine5) (by simp)]
    rw [show f 7 = result7 from hf (7, result7) (by simp)]
    exact h
/-- leafmesh/spread.flow (44) -/
def vc_spread_flow (X : Told) (p0 : AVal) (K : AVal → Heap → Prop) (s : Heap) : Prop :=
  boxK 66 p0 (fun b_0 s_1 =>
  K (.fn (.func 51) [] [b_0]) s_1) s
def vc_spread_flow_ann : Nat → List Nat := fun _ => []
theorem vc_spread_flow_eq (X : Told) (p0 : AVal) (K : AVal → Heap → Prop) (s : Heap) : wpC Try.prog X vc_spread_flow_ann Try.f44.ntmps none (bodyOf Try.f44) (envOf [p0]) (fun e env s => retK e (resK Try.prog Try.f44.results.toList env (fun vs => K (oneV vs) s) s)) s = vc_spread_flow X p0 K s := by kernel_rfl
theorem vc_spread_flow_ok {X : Told} (hX : FrX X) (hn : X 44 = none) {p0 : AVal} {K : AVal → Heap → Prop} {s : Heap} (h : vc_spread_flow X p0 K s) : wpCall Try.prog X 44 [p0] K s :=
  wpCall_code hX vc_spread_flow_ann hn Try.func44 (by kernel_rfl : Try.f44.body = some (bodyOf Try.f44)) (by kernel_rfl) ((vc_spread_flow_eq X p0 K s).mpr h)
theorem vc_spread_flow_in {p0 : AVal} {K : AVal → Heap → Prop} {s : Heap} (h : vc_spread_flow XX p0 K s) : wpCall Try.prog XX 44 [p0] K s := vc_spread_flow_ok (closedX_fr _) rfl h
/-- leafmesh/spread.flow$1 (51) -/
def vc_spread_flow_1_j2 (X : Told) (t22 : AVal) (t27 : AVal) (K : AVal → Heap → Prop) (s : Heap) : Prop :=
  optK (pickV t22 t27 (.bool false)) fun v_7 =>
  K (.tup []) s
def vc_spread_flow_1_j1 (X : Told) (yield0 : AVal) (t1 : AVal) (t15 : AVal) (t20 : AVal) (K : AVal → Heap → Prop) (s : Heap) : Prop :=
  optK (pickV t15 t20 (.bool false)) fun v_6 =>
  boolK v_6
   (optK (addOff 4 t1) fun v_8 =>
    optK (rd1 s v_8) fun v_9 =>
    optK (convI .u64 v_9) fun v_10 =>
    wpCall Try.prog X 52 [v_10, (.int .i64 3), yield0] (fun v_11 s_12 =>
    vc_spread_flow_1_j2 X v_6 v_11 K s_12) s)
   (vc_spread_flow_1_j2 X v_6 .undef K s)
def vc_spread_flow_1_j0 (X : Told) (yield0 : AVal) (t1 : AVal) (t8 : AVal) (t13 : AVal) (K : AVal → Heap → Prop) (s : Heap) : Prop :=
  optK (pickV t8 t13 (.bool false)) fun v_5 =>
  boolK v_5
   (optK (addOff 3 t1) fun v_13 =>
    optK (rd1 s v_13) fun v_14 =>
    optK (convI .u64 v_14) fun v_15 =>
    wpCall Try.prog X 52 [v_15, (.int .i64 2), yield0] (fun v_16 s_17 =>
    vc_spread_flow_1_j1 X yield0 t1 v_5 v_16 K s_17) s)
   (vc_spread_flow_1_j1 X yield0 t1 v_5 .undef K s)
def vc_spread_flow_1 (X : Told) (yield0 : AVal) (t1 : AVal) (K : AVal → Heap → Prop) (s : Heap) : Prop :=
  optK (addOff 0 t1) fun v_0 =>
  optK (rd1 s v_0) fun v_1 =>
  optK (convI .u64 v_1) fun v_2 =>
  wpCall Try.prog X 52 [v_2, (.int .i64 4), yield0] (fun v_3 s_4 =>
  boolK v_3
   (optK (addOff 1 t1) fun v_18 =>
    optK (rd1 s_4 v_18) fun v_19 =>
    optK (convI .u64 v_19) fun v_20 =>
    wpCall Try.prog X 52 [v_20, (.int .i64 4), yield0] (fun v_21 s_22 =>
    vc_spread_flow_1_j0 X yield0 t1 v_3 v_21 K s_22) s_4)
   (vc_spread_flow_1_j0 X yield0 t1 v_3 .undef K s_4)) s
def vc_spread_flow_1_ann : Nat → List Nat := fun _ => []
theorem vc_spread_flow_1_eq (X : Told) (yield0 : AVal) (t1 : AVal) (K : AVal → Heap → Prop) (s : Heap) : wpC Try.prog X vc_spread_flow_1_ann Try.f51.ntmps none (bodyOf Try.f51) (envOf [yield0, t1]) (fun e env s => retK e (resK Try.prog Try.f51.results.toList env (fun vs => K (oneV vs) s) s)) s = vc_spread_flow_1 X yield0 t1 K s := by kernel_rfl
theorem vc_spread_flow_1_ok {X : Told} (hX : FrX X) (hn : X 51 = none) {yield0 : AVal} {t1 : AVal} {K : AVal → Heap → Prop} {s : Heap} (h : vc_spread_flow_1 X yield0 t1 K s) : wpCall Try.prog X 51 [yield0, t1] K s :=
  wpCall_code hX vc_spread_flow_1_ann hn Try.func51 (by kernel_rfl : Try.f51.body = some (bodyOf Try.f51)) (by kernel_rfl) ((vc_spread_flow_1_eq X yield0 t1 K s).mpr h)
theorem vc_spread_flow_1_in {yield0 : AVal} {t1 : AVal} {K : AVal → Heap → Prop} {s : Heap} (h : vc_spread_flow_1 XX yield0 t1 K s) : wpCall Try.prog XX 51 [yield0, t1] K s := vc_spread_flow_1_ok (closedX_fr _) rfl h
/-- leafmesh/spread.number (52) -/
def vc_spread_number_l0 (X : Told) (v0 : AVal) (yield2 : AVal) (i7 : AVal) (I0 : List AVal → Heap → Nat → Prop) (m0 : Nat) (K : AVal → Heap → Prop) (s : Heap) : Prop :=
  optK (arithV .geq i7 (.int .i64 0)) fun v_1 =>
  boolK v_1
   (optK (arithV .mul (.int .i64 8) i7) fun v_2 =>
    optK (shiftV .shr v0 v_2) fun v_3 =>
    optK (convI .u8 v_3) fun v_4 =>
    funK Try.prog X yield2 [v_4] (fun v_5 s_6 =>
    optK (unaryA .not v_5) fun v_7 =>
    boolK v_7
     (K (.bool false) s_6)
     (optK (arithV .sub i7 (.int .i64 1)) fun v_8 =>
      ∃ m', m' < m0 ∧ I0 [v_8] s_6 m')) s)
   (K (.bool true) s)
def vc_spread_number (X : Told) (v0 : AVal) (size1 : AVal) (yield2 : AVal) (K : AVal → Heap → Prop) (s : Heap) : Prop :=
  optK (arithV .sub size1 (.int .i64 1)) fun v_0 =>
  ∃ I0 : List AVal → Heap → Nat → Prop, (∃ m, I0 [v_0] s m) ∧ ∀ (f : Env) (s : Heap) (m0 : Nat), I0 [f 7] s m0 →
    vc_spread_number_l0 X v0 yield2 (f 7) I0 m0 K s
def vc_spread_number_ann : Nat → List Nat := fun k => cond (Nat.beq k 4) [7] ([])
theorem vc_spread_number_eq (X : Told) (v0 : AVal) (size1 : AVal) (yield2 : AVal) (K : AVal → Heap → Prop) (s : Heap) : wpC Try.prog X vc_spread_number_ann Try.f52.ntmps none (bodyOf Try.f52) (envOf [v0, size1, yield2]) (fun e env s => retK e (resK Try.prog Try.f52.results.toList env (fun vs => K (oneV vs) s) s)) s = vc_spread_number X v0 size1 yield2 K s := by kernel_rfl
theorem vc_spread_number_ok {X : Told} (hX : FrX X) (hn : X 52 = none) {v0 : AVal} {size1 : AVal} {yield2 : AVal} {K : AVal → Heap → Prop} {s : Heap} (h : vc_spread_number X v0 size1 yield2 K s) : wpCall Try.prog X 52 [v0, size1, yield2] K s :=
  wpCall_code hX vc_spread_number_ann hn Try.func52 (by kernel_rfl : Try.f52.body = some (bodyOf Try.f52)) (by kernel_rfl) ((vc_spread_number_eq X v0 size1 yield2 K s).mpr h)
theorem vc_spread_number_in {v0 : AVal} {size1 : AVal} {yield2 : AVal} {K : AVal → Heap → Prop} {s : Heap} (h : vc_spread_number XX v0 size1 yield2 K s) : wpCall Try.prog XX 52 [v0, size1, yield2] K s := vc_spread_number_ok (closedX_fr _) rfl h
/-- leafmesh/leafmeshref11.Hash (31) -/
def vc_leafmeshref11_Hash_l0 (X : Told) (h3 : AVal) (l4 : AVal) (i5 : AVal) (I0 : List AVal → Heap → Nat → Prop) (m0 : Nat) (K : AVal → Heap → Prop) (s : Heap) : Prop :=
  optK (lenOfA l4) fun v_5 =>
  optK (arithV .lss i5 (.int .i64 v_5)) fun v_7 =>
  boolK v_7
   (optK (iaddrS 1 l4 i5) fun v_8 =>
    optK (rd1 s v_8) fun v_9 =>
    optK (convI .u64 v_9) fun v_10 =>
    optK (arithV .xor h3 v_10) fun v_11 =>
    optK (arithV .mul v_11 (.int .u64 1099511628211)) fun v_12 =>
    optK (arithV .add i5 (.int .i64 1)) fun v_13 =>
    ∃ m', m' < m0 ∧ I0 [v_12, v_13] s m')
   (K h3 s)
def vc_leafmeshref11_Hash (X : Told) (p0 : AVal) (K : AVal → Heap → Prop) (s : Heap) : Prop :=
  boxK 66 p0 (fun b_0 s_1 =>
  optK (rdN s_1 21 b_0) fun v_2 =>
  wpCall Try.prog X 46 [(.agg v_2)] (fun v_3 s_4 =>
  ∃ I0 : List AVal → Heap → Nat → Prop, (∃ m, I0 [(.int .u64 14695981039346656037), (.int .i64 0)] s_4 m) ∧ ∀ (f : Env) (s : Heap) (m0 : Nat), I0 [f 3, f 5] s m0 →
    vc_leafmeshref11_Hash_l0 X (f 3) v_3 (f 5) I0 m0 K s) s_1) s
def vc_leafmeshref11_Hash_ann : Nat → List Nat := fun k => cond (Nat.beq k 8) [3, 5] ([])
theorem vc_leafmeshref11_Hash_eq (X : Told) (p0 : AVal) (K : AVal → Heap → Prop) (s : Heap) : wpC Try.prog X vc_leafmeshref11_Hash_ann Try.f31.ntmps none (bodyOf Try.f31) (envOf [p0]) (fun e env s => retK e (resK Try.prog Try.f31.results.toList env (fun vs => K (oneV vs) s) s)) s = vc_leafmeshref11_Hash X p0 K s := by kernel_rfl
theorem vc_leafmeshref11_Hash_ok {X : Told} (hX : FrX X) (hn : X 31 = none) {p0 : AVal} {K : AVal → Heap → Prop} {s : Heap} (h : vc_leafmeshref11_Hash X p0 K s) : wpCall Try.prog X 31 [p0] K s :=
  wpCall_code hX vc_leafmeshref11_Hash_ann hn Try.func31 (by kernel_rfl : Try.f31.body = some (bodyOf Try.f31)) (by kernel_rfl) ((vc_leafmeshref11_Hash_eq X p0 K s).mpr h)
theorem vc_leafmeshref11_Hash_in {p0 : AVal} {K : AVal → Heap → Prop} {s : Heap} (h : vc_leafmeshref11_Hash XX p0 K s) : wpCall Try.prog XX 31 [p0] K s := vc_leafmeshref11_Hash_ok (closedX_fr _) rfl h
/-- leafmesh/leafmeshref11.Bytes (46) -/
def vc_leafmeshref11_Bytes (X : Told) (p0 : AVal) (K : AVal → Heap → Prop) (s : Heap) : Prop :=
  boxK 66 p0 (fun b_0 s_1 =>
  optK (addOff 0 b_0) fun v_2 =>
  optK (rd1 s_1 v_2) fun v_3 =>
  optK (convI .u64 v_3) fun v_4 =>
  optK (addOff 1 b_0) fun v_5 =>
  optK (rd1 s_1 v_5) fun v_6 =>
  optK (convI .u64 v_6) fun v_7 =>
  optK (addOff 3 b_0) fun v_8 =>
  optK (rd1 s_1 v_8) fun v_9 =>
  optK (convI .u64 v_9) fun v_10 =>
  optK (addOff 4 b_0) fun v_11 =>
  optK (rd1 s_1 v_11) fun v_12 =>
  optK (convI .u64 v_12) fun v_13 =>
  optK (shiftV .shr v_4 (.int .u64 24)) fun v_14 =>
  optK (convI .u8 v_14) fun v_15 =>
  optK (shiftV .shr v_4 (.int .u64 16)) fun v_16 =>
  optK (convI .u8 v_16) fun v_17 =>
  optK (shiftV .shr v_4 (.int .u64 8)) fun v_18 =>
  optK (convI .u8 v_18) fun v_19 =>
  optK (convI .u8 v_4) fun v_20 =>
  optK (shiftV .shr v_7 (.int .u64 24)) fun v_21 =>
  optK (convI .u8 v_21) fun v_22 =>
  optK (shiftV .shr v_7 (.int .u64 16)) fun v_23 =>
  optK (convI .u8 v_23) fun v_24 =>
  optK (shiftV .shr v_7 (.int .u64 8)) fun v_25 =>
  optK (convI .u8 v_25) fun v_26 =>
  optK (convI .u8 v_7) fun v_27 =>
  optK (shiftV .shr v_10 (.int .u64 8)) fun v_28 =>
  optK (convI .u8 v_28) fun v_29 =>
  optK (convI .u8 v_10) fun v_30 =>
  optK (shiftV .shr v_13 (.int .u64 16)) fun v_31 =>
  optK (convI .u8 v_31) fun v_32 =>
  optK (shiftV .shr v_13 (.int .u64 8)) fun v_33 =>
  optK (convI .u8 v_33) fun v_34 =>
  optK (convI .u8 v_13) fun v_35 =>
  optK (fillR (repl 13 [(.int .u8 0)]) [(0, 1, v_15), (1, 1, v_17), (2, 1, v_19), (3, 1, v_20), (4, 1, v_22), (5, 1, v_24), (6, 1, v_26), (7, 1, v_27), (8, 1, v_29), (9, 1, v_30), (10, 1, v_32), (11, 1, v_34), (12, 1, v_35)]) fun c_36 => allOne c_36 = true ∧ newK 5 c_36 (fun b_37 s_38 =>
  K (.slc b_37 0 13 (some 13) 1) s_38) s_1) s
def vc_leafmeshref11_Bytes_ann : Nat → List Nat := fun _ => []
theorem vc_leafmeshref11_Bytes_eq (X : Told) (p0 : AVal) (K : AVal → Heap → Prop) (s : Heap) : wpC Try.prog X vc_leafmeshref11_Bytes_ann Try.f46.ntmps none (bodyOf Try.f46) (envOf [p0]) (fun e env s => retK e (resK Try.prog Try.f46.results.toList env (fun vs => K (oneV vs) s) s)) s = vc_leafmeshref11_Bytes X p0 K s := by kernel_rfl
theorem vc_leafmeshref11_Bytes_ok {X : Told} (hX : FrX X) (hn : X 46 = none) {p0 : AVal} {K : AVal → Heap → Prop} {s : Heap} (h : vc_leafmeshref11_Bytes X p0 K s) : wpCall Try.prog X 46 [p0] K s :=
  wpCall_code hX vc_leafmeshref11_Bytes_ann hn Try.func46 (by kernel_rfl : Try.f46.body = some (bodyOf Try.f46)) (by kernel_rfl) ((vc_leafmeshref11_Bytes_eq X p0 K s).mpr h)
theorem vc_leafmeshref11_Bytes_in {p0 : AVal} {K : AVal → Heap → Prop} {s : Heap} (h : vc_leafmeshref11_Bytes XX p0 K s) : wpCall Try.prog XX 46 [p0] K s := vc_leafmeshref11_Bytes_ok (closedX_fr _) rfl h
end Go.AM
