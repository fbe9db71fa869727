/- Part F of a calculus over a small memory that is proved to answer as the program does, and of its use for the functions that the law reaches: see the last part. -/
import Derived.Test.YtgehkpnggfnapaaDoorE
import Derived.Test.YtgehkpnggfnapaaDoorD
namespace Go.AM.SG
open Go Go.AM Go.Proofs
/-! ### comparisons that are defined -/
section
variable (P : Program)
def cFs (df : TypeId → AVal → AVal → Bool) (xs ys : List AVal) : List Field → Bool
  | [] => true
  | f :: fs => cond (f.name == "_") (cFs df xs ys fs) (match aPart P f.type xs f.offset, aPart P f.type ys f.offset with
    | some x, some y => df f.type x y && cFs df xs ys fs
    | _, _ => false)
def cEls (df : TypeId → AVal → AVal → Bool) (elem : TypeId) (n : Nat) (xs ys : List AVal) : Nat → Nat → Bool
  | 0, _ => true
  | len + 1, i => match aPart P elem xs (i * n), aPart P elem ys (i * n) with
    | some x, some y => df elem x y && cEls df elem n xs ys len (i + 1)
    | _, _ => false
def cDef : Nat → TypeId → AVal → AVal → Bool
  | 0, _, _, _ => false
  | d + 1, t, x, y => match P.underlying t, x, y with
    | some .bool, .bool _, .bool _ => true
    | some (.int _), .int k _, .int k' _ => intKindEq k k'
    | some (.struct fields), .agg xs, .agg ys => cond (P.stoodInHeld t) false (cFs P (cDef d) xs ys fields.toList)
    | some (.array len elem), .agg xs, .agg ys => match sz P elem with
      | some n => cEls P (cDef d) elem n xs ys len 0
      | none => false
    | _, _, _ => false
variable {P}
theorem cFs_ok {eq : TypeId → AVal → AVal → Option Bool} {df : TypeId → AVal → AVal → Bool} (h : ∀ t x y, df t x y = true → ∃ b, eq t x y = some b ∧ (x = y → b = true)) {xs ys : List AVal} : ∀ {fs : List Field}, cFs P df xs ys fs = true → ∃ b, eqFields P eq xs ys fs = some b ∧ (xs = ys → b = true)
  | [], _ => ⟨true, rfl, fun _ => rfl⟩
  | f :: fs, q => by
    unfold cFs at q
    unfold eqFields
    cases c : (f.name == "_") with
    | true => rw [c] at q; exact cFs_ok h q
    | false =>
      rw [c] at q
      simp only [cond_false] at q ⊢
      cases e : aPart P f.type xs f.offset with
      | none => rw [e] at q; cases q
      | some x =>
        cases e2 : aPart P f.type ys f.offset with
        | none => rw [e, e2] at q; cases q
        | some y =>
          rw [e, e2] at q
          simp only [Bool.and_eq_true] at q
          obtain ⟨b, h1, h2⟩ := h _ _ _ q.1
          simp only [h1]
          have hxy : xs = ys → x = y := fun w => by subst w; rw [e] at e2; exact Option.some.inj e2
          cases b with
          | true => exact cFs_ok h q.2
          | false => exact ⟨false, rfl, fun w => h2 (hxy w)⟩
theorem cEls_ok {eq : TypeId → AVal → AVal → Option Bool} {df : TypeId → AVal → AVal → Bool} (h : ∀ t x y, df t x y = true → ∃ b, eq t x y = some b ∧ (x = y → b = true)) {elem : TypeId} {n : Nat} {xs ys : List AVal} : ∀ {len i : Nat}, cEls P df elem n xs ys len i = true → ∃ b, eqElems P eq elem n xs ys len i = some b ∧ (xs = ys → b = true)
  | 0, _, _ => ⟨true, rfl, fun _ => rfl⟩
  | len + 1, i, q => by
    unfold cEls at q
    unfold eqElems
    cases e : aPart P elem xs (i * n) with
    | none => rw [e] at q; cases q
    | some x =>
      cases e2 : aPart P elem ys (i * n) with
      | none => rw [e, e2] at q; cases q
      | some y =>
        rw [e, e2] at q
        simp only [Bool.and_eq_true] at q
        obtain ⟨b, h1, h2⟩ := h _ _ _ q.1
        simp only [h1]
        have hxy : xs = ys → x = y := fun w => by subst w; rw [e] at e2; exact Option.some.inj e2
        cases b with
        | true => exact cEls_ok h q.2
        | false => exact ⟨false, rfl, fun w => h2 (hxy w)⟩
theorem cDef_ok : ∀ (d : Nat) (t : TypeId) (x y : AVal), cDef P d t x y = true → ∃ b, aEq P d t x y = some b ∧ (x = y → b = true)
  | 0, _, _, _, h => by cases h
  | d + 1, t, x, y, h => by
    unfold cDef at h
    unfold aEq
    split at h
    · rename_i a b hu
      rw [hu]
      exact ⟨_, rfl, fun e => by cases e; simp⟩
    · rename_i k0 k a k' b hu
      rw [hu]
      simp only [h, cond_true]
      exact ⟨_, rfl, fun e => by cases e; rw [eqI_eq]; simp⟩
    · rename_i fields xs ys hu
      rw [hu]
      simp only
      cases c : P.stoodInHeld t with
      | true => rw [c] at h; cases h
      | false =>
        rw [c] at h
        simp only [cond_false] at h ⊢
        obtain ⟨b, h1, h2⟩ := cFs_ok (cDef_ok d) h
        exact ⟨b, h1, fun e => h2 (by cases e; rfl)⟩
    · rename_i len elem xs ys hu
      rw [hu]
      simp only
      cases c : sz P elem with
      | none => rw [c] at h; cases h
      | some n =>
        rw [c] at h
        simp only at h ⊢
        obtain ⟨b, h1, h2⟩ := cEls_ok (cDef_ok d) h
        exact ⟨b, h1, fun e => h2 (by cases e; rfl)⟩
    · cases h
theorem eqAgg_def {t : TypeId} {xs ys : List AVal} (h : cDef P 30 t (.agg xs) (.agg ys) = true) : ∃ b, eqAgg P t (.agg xs) (.agg ys) = some b ∧ (xs = ys → b = true) := by
  obtain ⟨b, h1, h2⟩ := cDef_ok 30 t _ _ h
  exact ⟨b, h1, fun e => h2 (by rw [e])⟩
theorem eqAgg_self {t : TypeId} {xs : List AVal} (h : cDef P 30 t (.agg xs) (.agg xs) = true) : eqAgg P t (.agg xs) (.agg xs) = some true := by
  obtain ⟨b, h1, h2⟩ := eqAgg_def h
  rw [h1, h2 rfl]
end
theorem eq132 (x y z w : Int) : eqAgg Tryd.prog 132 (.agg [.int .u8 x, .int .u8 y]) (.agg [.int .u8 z, .int .u8 w]) = some (decide (x = z ∧ y = w)) := by
  have : eqAgg Tryd.prog 132 (.agg [.int .u8 x, .int .u8 y]) (.agg [.int .u8 z, .int .u8 w]) = cond (eqI x z) (cond (eqI y w) (some true) (some false)) (some false) := by kernel_rfl
  rw [this, eqI_eq, eqI_eq]
  by_cases h1 : x = z
  · by_cases h2 : y = w
    · simp [h1, h2]
    · have e2 : (y == w) = false := beq_eq_false_iff_ne.2 h2
      simp [h1, h2, e2]
  · have e1 : (x == z) = false := beq_eq_false_iff_ne.2 h1
    simp [h1, e1]
theorem eqCd (x : Cd) : eqAgg Tryd.prog 35 (.agg (cR x)) (.agg (cR x)) = some true := by
  obtain ⟨a, b⟩ := x
  exact eqAgg_self (by kernel_rfl : cDef Tryd.prog 30 35 (.agg [.int .u32 a, .int .i64 b]) (.agg [.int .u32 a, .int .i64 b]) = true)
end Go.AM.SG
namespace Go.AM.SG
open Go Go.AM Go.Proofs
variable {K : AVal → Heap → Prop} {s s' s0 : Heap} {lv : AVal}
/-! ### communities -/
structure Cm where
  (b0 b1 b2 b3 b4 b5 b6 b7 : Nat)
def Cm.ok (c : Cm) : Prop := c.b0 < 256 ∧ c.b1 < 256 ∧ c.b2 < 256 ∧ c.b3 < 256 ∧ c.b4 < 256 ∧ c.b5 < 256 ∧ c.b6 < 256 ∧ c.b7 < 256
abbrev u8 (n : Nat) : AVal := .int .u8 (n : Int)
def cmR (c : Cm) : List AVal := [u8 c.b0, u8 c.b1, u8 c.b2, u8 c.b3, u8 c.b4, u8 c.b5, u8 c.b6, u8 c.b7]
abbrev heads : List (Nat × Nat) := [(0, 2), (3, 12), (6, 0), (6, 1), (6, 2), (6, 3), (6, 6)]
abbrev hdN (i : Nat) : Nat × Nat := heads.getD i (0, 0)
def kindN (c : Cm) : Nat := match heads.findIdx? fun h => decide (h.1 = c.b0 ∧ h.2 = c.b1) with
  | some i => i + 1
  | none => 0
theorem kind_at {c : Cm} {i : Nat} (hi : i < 7) (h : (hdN i).1 = c.b0 ∧ (hdN i).2 = c.b1) (hn : ∀ j, j < i → ¬((hdN j).1 = c.b0 ∧ (hdN j).2 = c.b1)) : kindN c = i + 1 := by
  unfold kindN
  have : heads.findIdx? (fun h => decide (h.1 = c.b0 ∧ h.2 = c.b1)) = some i := by
    rw [List.findIdx?_eq_some_iff_getElem]
    have e : ∀ j (hj : j < heads.length), heads[j] = hdN j := fun j hj => by
      show heads[j] = heads[j]?.getD (0, 0)
      rw [List.getElem?_eq_getElem hj]; rfl
    refine ⟨hi, ?_, fun j hj => ?_⟩
    · rw [e]; simpa using h
    · rw [e]; simpa using hn j hj
  rw [this]
theorem kind_no {c : Cm} (hn : ∀ j, j < 7 → ¬((hdN j).1 = c.b0 ∧ (hdN j).2 = c.b1)) : kindN c = 0 := by
  unfold kindN
  have : heads.findIdx? (fun h => decide (h.1 = c.b0 ∧ h.2 = c.b1)) = none := by
    rw [List.findIdx?_eq_none_iff]
    intro h hh
    obtain ⟨j, hj, rfl⟩ := List.mem_iff_getElem.1 hh
    have e : heads[j] = hdN j := by
      show heads[j] = heads[j]?.getD (0, 0)
      rw [List.getElem?_eq_getElem hj]; rfl
    rw [e]
    simpa using hn j hj
  rw [this]
theorem kinds_row {i : Nat} (hi : i < 7) : indexD 7 3 (some 3) (.agg kindsL) (.int .i64 (i : Int)) = some (.agg [.int .i64 ((i + 1 : Nat) : Int), u8 (hdN i).1, u8 (hdN i).2]) := by
  have : i = 0 ∨ i = 1 ∨ i = 2 ∨ i = 3 ∨ i = 4 ∨ i = 5 ∨ i = 6 := by omega
  rcases this with rfl | rfl | rfl | rfl | rfl | rfl | rfl <;> rfl
/-- the table of comm -/
def GlK (s : Heap) : Prop := ∃ t, s 0 = some (t, .glob 0 (.agg kindsL))
theorem GlK.sub (h : GlK s) (k : Sub s s') : GlK s' := by
  obtain ⟨t, h⟩ := h
  exact ⟨t, k _ _ h⟩
theorem GlK.rd (h : GlK s) : gldN s 21 0 = some kindsL := by
  obtain ⟨t, h⟩ := h
  unfold gldN
  rw [h]
  rfl
def KindI (s0 : Heap) (c : Cm) (b : Nat) : List AVal → Heap → Nat → Prop := fun ys t m =>
  ∃ i : Nat, ys = [.int .i64 (i : Int)] ∧ i ≤ 7 ∧ Sub s0 t ∧ (∃ w, t b = some (w, .cells 96 (cmR c))) ∧ (∀ j, j < i → ¬((hdN j).1 = c.b0 ∧ (hdN j).2 = c.b1)) ∧ m = 7 - i
theorem kind_in {c : Cm} (h : GlK s) (hK : ∀ s', Sub s s' → K (.int .i64 (kindN c : Int)) s') : wpCall Tryd.prog XX 65 [.agg (cmR c)] K s := by
  refine vc_comm_Kind_in ⟨rfl, new_step fun b s1 hb h1 u1 => ?_⟩
  have sub1 := u1.sub hb
  simp only [(h.sub sub1).rd, optK_mk]
  refine ⟨KindI s c b, ⟨_, 0, rfl, by omega, sub1, ⟨_, h1⟩, fun j hj => by omega, rfl⟩, ?_⟩
  rintro e t m ⟨i, hy, hi, st, ⟨w, hw⟩, hn, rfl⟩
  simp only [List.cons.injEq, and_true] at hy
  rw [hy]
  simp only [vc_comm_Kind_l0, arith_lss, optK_mk]
  refine boolK_mk (fun hlt => ?_) (fun hge => ?_)
  rotate_left
  · have : i = 7 := by have := of_decide_eq_false hge; omega
    subst this
    have := hK t st
    rw [kind_no hn] at this
    exact this
  have hlt : i < 7 := by have := of_decide_eq_true hlt; omega
  simp only [kinds_row hlt, optK_mk]
  refine new_step fun g s2 hg h2 u2 => ?_
  refine wrAgg_step h2 rfl rfl rfl fun s3 h3 u3 => ?_
  have sub3 : Sub t s3 := fun j e hj => by
    have ne := ne_of_some hg hj
    rw [u3 j ne, u2 j ne]; exact hj
  have r1 : rdN s3 2 (.ptr g 1) = some [u8 (hdN i).1, u8 (hdN i).2] := by simp only [rdN, h3]; rfl
  have hb3 := sub3 _ _ hw
  have r2 : sliceP s3 8 1 (.ptr b 0) none (some (.int .i64 2)) none = some (.slc b 0 2 (some 8) 1) := by simp only [sliceP, hb3]; rfl
  have r3 : s2apN 2 (.slc b 0 2 (some 8) 1) = some (.ptr b 0) := rfl
  have r4 : rdN s3 2 (.ptr b 0) = some [u8 c.b0, u8 c.b1] := by simp only [rdN, hb3]; rfl
  have r5 : rd1 s3 (.ptr g 0) = some (.int .i64 ((i + 1 : Nat) : Int)) := by rw [rd1_mk h3]; rfl
  simp only [addOff_ptr, Nat.zero_add, r1, r2, r3, r4, r5, eq132, negB_mk, Bool.false_bne, optK_mk]
  have ec : decide (((hdN i).1 : Int) = (c.b0 : Int) ∧ ((hdN i).2 : Int) = (c.b1 : Int)) = decide ((hdN i).1 = c.b0 ∧ (hdN i).2 = c.b1) := by
    simp only [Int.natCast_inj]
  rw [ec]
  refine boolK_mk (fun hc => ?_) (fun hc => ?_)
  · have := hK s3 (st.trans sub3)
    rw [kind_at hlt (of_decide_eq_true hc) hn] at this
    exact this
  · have hc := of_decide_eq_false hc
    simp only [add1 (show i ≤ 1000000 by omega), optK_mk]
    refine ⟨_, by omega, i + 1, rfl, by omega, st.trans sub3, ⟨w, hb3⟩, fun j hj => ?_, rfl⟩
    by_cases e : j = i
    · rw [e]; exact hc
    · exact hn j (by omega)
/-- the reference's -/
abbrev typesL : List AVal := [u8 0, u8 2, u8 3, u8 12, u8 6, u8 0, u8 6, u8 1, u8 6, u8 2, u8 6, u8 3, u8 6, u8 6]
theorem types_at {t : Heap} {g i : Nat} {w : Bool} (hg : t g = some (w, .cells 135 typesL)) (hi : i < 7) : iaddrA 7 2 (.ptr g 0) (.int .i64 (i : Int)) = some (.ptr g (i * 2)) ∧ rd1 t (.ptr g (i * 2)) = some (u8 (hdN i).1) ∧ rd1 t (.ptr g (i * 2 + 1)) = some (u8 (hdN i).2) := by
  have : i = 0 ∨ i = 1 ∨ i = 2 ∨ i = 3 ∨ i = 4 ∨ i = 5 ∨ i = 6 := by omega
  rcases this with rfl | rfl | rfl | rfl | rfl | rfl | rfl <;> exact ⟨rfl, by rw [rd1_mk hg]; rfl, by rw [rd1_mk hg]; rfl⟩
def RKindI (t0 : Heap) (c : Cm) : List AVal → Heap → Nat → Prop := fun ys t m => ∃ i : Nat, ys = [.int .i64 (i : Int)] ∧ i ≤ 7 ∧ t = t0 ∧ (∀ j, j < i → ¬((hdN j).1 = c.b0 ∧ (hdN j).2 = c.b1)) ∧ m = 7 - i
theorem rkind_in {c : Cm} (hK : ∀ s', Sub s s' → K (.int .i64 (kindN c : Int)) s') : wpCall Tryd.prog XX 68 [.agg (cmR c)] K s := by
  refine vc_leafmeshref03_Kind_in ⟨rfl, new_step fun b s1 hb h1 u1 => ?_⟩
  have sub1 := u1.sub hb
  refine optK_of (a := [u8 0, u8 2]) rfl (optK_of (a := [u8 3, u8 12]) rfl (optK_of (a := [u8 6, u8 0]) rfl (optK_of (a := [u8 6, u8 1]) rfl (optK_of (a := [u8 6, u8 2]) rfl (optK_of (a := [u8 6, u8 3]) rfl (optK_of (a := [u8 6, u8 6]) rfl (optK_of (a := typesL) rfl (new_step fun g s2 hg h2 u2 => wrAgg_step h2 rfl rfl rfl fun s3 h3 u3 => ?_))))))))
  have sub3 : Sub s1 s3 := fun j e hj => by
    have ne := ne_of_some hg hj
    rw [u3 j ne, u2 j ne]; exact hj
  have hb3 := sub3 _ _ h1
  refine ⟨RKindI s3 c, ⟨_, 0, rfl, by omega, rfl, fun j hj => by omega, rfl⟩, ?_⟩
  rintro e t m ⟨i, hy, hi, rfl, hn, rfl⟩
  simp only [List.cons.injEq, and_true] at hy
  rw [hy]
  simp only [vc_leafmeshref03_Kind_l0, arith_lss, optK_mk]
  refine boolK_mk (fun hlt => ?_) (fun hge => ?_)
  rotate_left
  · have : i = 7 := by have := of_decide_eq_false hge; omega
    subst this
    have := hK t (sub1.trans sub3)
    rw [kind_no hn] at this
    exact this
  have hlt : i < 7 := by have := of_decide_eq_true hlt; omega
  obtain ⟨a1, a2, a3⟩ := types_at h3 hlt
  have i0 : iaddrA 8 1 (.ptr b 0) (.int .i64 0) = some (.ptr b 0) := rfl
  have i1 : iaddrA 8 1 (.ptr b 0) (.int .i64 1) = some (.ptr b 1) := rfl
  have j0 : iaddrA 2 1 (.ptr g (i * 2)) (.int .i64 0) = some (.ptr g (i * 2)) := rfl
  have j1 : iaddrA 2 1 (.ptr g (i * 2)) (.int .i64 1) = some (.ptr g (i * 2 + 1)) := rfl
  have r0 : rd1 t (.ptr b 0) = some (u8 c.b0) := by rw [rd1_mk hb3]; rfl
  have r1 : rd1 t (.ptr b 1) = some (u8 c.b1) := by rw [rd1_mk hb3]; rfl
  have nx : ¬((hdN i).1 = c.b0 ∧ (hdN i).2 = c.b1) → optK (arithV .add (.int .i64 (i : Int)) (.int .i64 1)) fun v_22 => ∃ m', m' < 7 - i ∧ RKindI t c [v_22] t m' := fun hc => by
    simp only [add1 (show i ≤ 1000000 by omega), optK_mk]
    refine ⟨_, by omega, i + 1, rfl, by omega, rfl, fun j hj => ?_, rfl⟩
    by_cases e : j = i
    · rw [e]; exact hc
    · exact hn j (by omega)
  simp only [i0, r0, a1, j0, a2, eqV_int, negB_mk, Bool.false_bne, optK_mk]
  refine boolK_mk (fun h0 => ?_) (fun h0 => ?_)
  · have h0' : (hdN i).1 = c.b0 := by have := eq_of_beq h0; omega
    simp only [i1, r1, a1, j1, a3, eqV_int, negB_mk, Bool.false_bne, optK_mk, vc_leafmeshref03_Kind_j1, h0, pickV_true]
    refine boolK_mk (fun h2 => ?_) (fun h2 => ?_)
    · have h2 : (hdN i).2 = c.b1 := by have := eq_of_beq h2; omega
      simp only [add1 (show i ≤ 1000000 by omega), optK_mk]
      have := hK t (sub1.trans sub3)
      rw [kind_at hlt ⟨h0', h2⟩ hn] at this
      exact this
    · exact nx fun ⟨_, q⟩ => by rw [q] at h2; simp at h2
  · simp only [vc_leafmeshref03_Kind_j1, h0, pickV_false, boolK_false, optK_mk]
    exact nx fun ⟨q, _⟩ => by rw [q] at h0; simp at h0
end Go.AM.SG
namespace Go.AM.SG
open Go Go.AM Go.Proofs
variable {K : AVal → Heap → Prop} {s s' s0 : Heap} {v lv : AVal} {c : Cm} {l : List Cm}
/-! ### elections among communities -/
def cb (c : Cm) : List Nat := [c.b0, c.b1, c.b2, c.b3, c.b4, c.b5, c.b6, c.b7]
theorem cb_ok (h : c.ok) : ∀ x ∈ cb c, x < 256 := fun x hx => by
  obtain ⟨h0, h1, h2, h3, h4, h5, h6, h7⟩ := h
  simp only [cb, List.mem_cons, List.not_mem_nil, or_false] at hx
  rcases hx with rfl | rfl | rfl | rfl | rfl | rfl | rfl | rfl <;> assumption
def nv (l : List Nat) : Nat := l.foldl (fun n x => n * 256 + x) 0
theorem nv_snoc {l : List Nat} {x : Nat} : nv (l ++ [x]) = nv l * 256 + x := by simp [nv, List.foldl_append]
theorem nv_lt : ∀ {l : List Nat}, (∀ x ∈ l, x < 256) → nv l < 256 ^ l.length := by
  have key : ∀ (l : List Nat) (a : Nat), (∀ x ∈ l, x < 256) → l.foldl (fun n x => n * 256 + x) a < (a + 1) * 256 ^ l.length := by
    intro l
    induction l with
    | nil => intro a _; simp
    | cons x l ih =>
      intro a h
      have := ih (a * 256 + x) fun y hy => h y (List.mem_cons_of_mem _ hy)
      have hx := h x List.mem_cons_self
      have e : (a * 256 + x + 1) * 256 ^ l.length ≤ ((a + 1) * 256) * 256 ^ l.length := Nat.mul_le_mul_right _ (by omega)
      rw [List.foldl_cons, List.length_cons, Nat.pow_succ', ← Nat.mul_assoc]
      exact Nat.lt_of_lt_of_le this e
  intro l h
  have := key l 0 h
  simpa [nv] using this
theorem nv_small {l : List Nat} (h : ∀ x ∈ l, x < 256) (hl : l.length ≤ 6) : nv l < 281474976710656 :=
  Nat.lt_of_lt_of_le (nv_lt h) (Nat.pow_le_pow_right (n := 256) (by omega) hl)
/-- one digit more -/
theorem digit {a x : Nat} (ha : a < 281474976710656) (hx : x < 256) : shiftV .shl (.int .u64 (a : Int)) (.int .u64 8) = some (.int .u64 ((a * 256 : Nat) : Int)) ∧ convI .u64 (u8 x) = some (.int .u64 (x : Int)) ∧ arithV .or (.int .u64 ((a * 256 : Nat) : Int)) (.int .u64 (x : Int)) = some (.int .u64 ((a * 256 + x : Nat) : Int)) ∧ arithV .add (.int .u64 ((a * 256 : Nat) : Int)) (.int .u64 (x : Int)) = some (.int .u64 ((a * 256 + x : Nat) : Int)) :=
  ⟨shl_u64 (by omega), cv_u64 hx, or_u64 hx (by omega), add_u64 (by omega)⟩
def NumI (t0 : Heap) (c : Cm) : List AVal → Heap → Nat → Prop := fun ys t m =>
  ∃ i : Nat, ys = [.int .u64 ((nv (((cb c).drop 6).take i) : Nat) : Int), .int .i64 (i : Int)] ∧ i ≤ 2 ∧ t = t0 ∧ m = 2 - i
theorem num_in (hc : c.ok) (hK : ∀ s', Sub s s' → K (.int .u64 ((c.b6 * 256 + c.b7 : Nat) : Int)) s') : wpCall Tryd.prog XX 47 [.agg (cmR c), .int .i64 6, .int .i64 2] K s := by
  refine vc_comm_number_in ⟨rfl, new_step fun b s1 hb h1 u1 => ?_⟩
  have h1 : s1 b = some (false, .cells 96 ((cb c).map u8)) := h1
  have sub1 := u1.sub hb
  refine optK_of (a := .int .i64 8) rfl ?_
  have r2 : sliceP s1 8 1 (.ptr b 0) (some (.int .i64 6)) (some (.int .i64 8)) none = some (.slc b 6 2 (some 2) 1) := by simp only [sliceP, h1]; rfl
  have r3 : lenOfA (.slc b 6 2 (some 2) 1) = some 2 := rfl
  simp only [r2, r3, optK_mk]
  refine ⟨NumI s1 c, ⟨_, 0, rfl, by omega, rfl, rfl⟩, ?_⟩
  rintro e t m ⟨i, hy, hi, rfl, rfl⟩
  simp only [List.cons.injEq, and_true] at hy
  rw [hy.1, hy.2]
  have e2 : ((2 : Nat) : Int) = 2 := rfl
  simp only [vc_comm_number_l0, e2, arith_lss, optK_mk]
  refine boolK_mk (fun hlt => ?_) (fun hge => ?_)
  rotate_left
  · have : i = 2 := by have := of_decide_eq_false hge; omega
    subst this
    have := hK t sub1
    simpa [nv, cb] using this
  have hlt : i < 2 := by have := of_decide_eq_true hlt; omega
  have hx := cb_ok hc
  have hlen : ((cb c).drop 6).length = 2 := rfl
  have hd : ((cb c).drop 6).take (i + 1) = ((cb c).drop 6).take i ++ [((cb c).drop 6)[i]] := by
    rw [List.take_add_one, List.getElem?_eq_getElem (by rw [hlen]; exact hlt)]; rfl
  generalize hxv : ((cb c).drop 6)[i] = x at hd
  have hxm : x < 256 := hx x (by rw [← hxv]; exact List.mem_of_mem_drop (List.getElem_mem _))
  have a1 : iaddrS 1 (.slc b 6 2 (some 2) 1) (.int .i64 (i : Int)) = some (.ptr b (6 + i)) := by
    have : Nat.blt i 2 = true := by rw [Nat.blt_eq]; exact hlt
    simp [iaddrS, this]
  have r1 : rd1 t (.ptr b (6 + i)) = some (u8 x) := by
    rw [rd1_mk h1, List.getElem?_map]
    have : (cb c)[6 + i]? = some x := by
      rw [← hxv, ← List.getElem?_drop]
      exact List.getElem?_eq_getElem (by rw [hlen]; exact hlt)
    rw [this]; rfl
  obtain ⟨q1, q2, q3, _⟩ := digit (nv_small (l := ((cb c).drop 6).take i) (fun y hy => hx y (List.mem_of_mem_drop (List.mem_of_mem_take hy))) (by rw [List.length_take, hlen]; omega)) hxm
  simp only [a1, r1, q1, q2, q3, add1 (show i ≤ 1000000 by omega), optK_mk]
  exact ⟨_, by omega, i + 1, by rw [hd, nv_snoc], by omega, rfl, rfl⟩
/-- what the closure tells and leaves -/
theorem dec_in {g : Nat} (hc : c.ok) (hg : ∃ x, s g = some (false, .cells 3 [x])) (hK : ∀ s', KB g s s' → s' g = some (false, .cells 3 [.int .i64 ((c.b6 * 256 + c.b7 : Nat) : Int)]) → K (.int .i64 ((c.b2 % 32 : Nat) : Int)) s') :
    funK Tryd.prog XX (.fn (.func 46) [] [.ptr g 0]) [.agg (cmR c)] K s := by
  refine ⟨by kernel_rfl, ?_⟩
  show wpCall Tryd.prog XX 46 [.agg (cmR c), .ptr g 0] K s
  refine vc_comm_ElectionOf_1_in ⟨rfl, new_step fun b s1 hb h1 u1 => ?_⟩
  have sub1 := u1.sub hb
  have r1 : rdN s1 8 (.ptr b 0) = some (cmR c) := rdN_all h1 rfl
  simp only [r1, optK_mk]
  refine num_in hc fun s2 sub2 => ?_
  obtain ⟨x, hg⟩ := hg
  have hne : b ≠ g := fun e => by rw [e, hg] at hb; cases hb
  have hb2 := sub2 _ _ h1
  have hg2 := sub2 _ _ (sub1 _ _ hg)
  obtain ⟨c0, c1, c2, c3, c4, c5, c6, c7⟩ := hc
  simp only [cv_i64 (show c.b6 * 256 + c.b7 < 9223372036854775808 by omega), optK_mk]
  refine wr1_step hg2 Nat.zero_lt_one rfl fun s3 h3 u3 => ?_
  have i2 : iaddrA 8 1 (.ptr b 0) (.int .i64 2) = some (.ptr b 2) := rfl
  have r3 : rd1 s3 (.ptr b 2) = some (u8 c.b2) := by rw [rd1_mk (by rw [u3 b hne]; exact hb2)]; rfl
  have e1 : arithV .and (u8 c.b2) (.int .u8 31) = some (.int .u8 ((c.b2 % 32 : Nat) : Int)) := and_u8 (k := 5) (m := 31) c2 rfl (by omega)
  simp only [i2, r3, e1, cv_i64 (show c.b2 % 32 < 9223372036854775808 by omega), optK_mk]
  exact hK s3 ((sub1.trans sub2).keep.trans (u3.keep rfl)) h3
/-- the first election in a list -/
def elN (l : List Cm) : Nat × Nat × Bool := match l.find? fun c => kindN c == 7 with
  | some c => (c.b2 % 32, c.b6 * 256 + c.b7, true)
  | none => (0, 0, false)
theorem el_at {i : Nat} (hi : l[i]? = some c) (hc : kindN c = 7) (hn : ∀ d ∈ l.take i, kindN d ≠ 7) : elN l = (c.b2 % 32, c.b6 * 256 + c.b7, true) := by
  unfold elN
  have : l.find? (fun c => kindN c == 7) = some c := by
    obtain ⟨hlt, he⟩ := List.getElem?_eq_some_iff.1 hi
    have hs : l = l.take i ++ c :: l.drop (i + 1) := by
      rw [← he, List.getElem_cons_drop, List.take_append_drop]
    rw [hs, List.find?_append, List.find?_eq_none.2 fun d hd => by simpa using hn d hd]
    simp [hc]
  rw [this]
theorem el_no (hn : ∀ d ∈ l, kindN d ≠ 7) : elN l = (0, 0, false) := by
  unfold elN
  rw [List.find?_eq_none.2 fun d hd => by simpa using hn d hd]
def FirI (s0 : Heap) (l : List Cm) : List AVal → Heap → Nat → Prop := fun ys t m =>
  ∃ i : Nat, ys = [.int .i64 (i : Int)] ∧ i ≤ l.length ∧ Sub s0 t ∧ (∀ d ∈ l.take i, kindN d ≠ 7) ∧ m = l.length - i
theorem take_no {i : Nat} (hi : l[i]? = some c) (hc : kindN c ≠ 7) (hn : ∀ d ∈ l.take i, kindN d ≠ 7) : ∀ d ∈ l.take (i + 1), kindN d ≠ 7 := fun d hd => by
  rw [List.take_add_one, hi] at hd
  rcases List.mem_append.1 hd with q | q
  · exact hn d q
  · have : d = c := by simpa using q
    rw [this]; exact hc
theorem first_in {g : Nat} (h : SlR 8 s v (l.map cmR)) (hG : GlK s) (hg : s g = some (false, .cells 3 [.int .i64 0])) (hok : ∀ c ∈ l, c.ok) (hl : l.length ≤ 1000)
    (hK : ∀ s', KB g s s' → s' g = some (false, .cells 3 [.int .i64 ((elN l).2.1 : Int)]) → K (.tup [.int .i64 ((elN l).1 : Int), .bool (elN l).2.2]) s') : wpCall Tryd.prog XX 45 [v, .int .i64 7, .fn (.func 46) [] [.ptr g 0]] K s := by
  refine vc_comm_first_int__in ?_
  simp only [vc_comm_first_int_, h.len, List.length_map, optK_mk]
  refine ⟨FirI s l, ⟨_, 0, rfl, by omega, .refl _, by simp, rfl⟩, ?_⟩
  rintro e t m ⟨i, hy, hi, st, hn, rfl⟩
  simp only [List.cons.injEq, and_true] at hy
  rw [hy]
  simp only [vc_comm_first_int__l0, arith_lss, optK_mk]
  refine boolK_mk (fun hlt => ?_) (fun hge => ?_)
  rotate_left
  · have : i = l.length := by have := of_decide_eq_false hge; omega
    subst this
    rw [List.take_length] at hn
    have := hK t st.keep (by rw [el_no hn]; exact st _ _ hg)
    rw [el_no hn] at this
    exact this
  have hlt : i < l.length := by have := of_decide_eq_true hlt; omega
  obtain ⟨c, hci⟩ : ∃ c, l[i]? = some c := ⟨_, List.getElem?_eq_getElem hlt⟩
  have hcm := List.mem_of_getElem? hci
  obtain ⟨pb, po, e1, e2, _⟩ := (h.sub st).get (i := i) (r := cmR c) (by rw [List.getElem?_map, hci]; rfl)
  simp only [e1, e2, optK_mk]
  refine new_step fun b s2 hb h2 u2 => ?_
  refine wrAgg_step h2 rfl rfl rfl fun s3 h3 u3 => ?_
  have sub3 : Sub t s3 := fun j e hj => by
    have ne := ne_of_some hb hj
    rw [u3 j ne, u2 j ne]; exact hj
  have r1 : rdN s3 8 (.ptr b 0) = some (cmR c) := rdN_all h3 rfl
  simp only [r1, optK_mk]
  refine kind_in (hG.sub (st.trans sub3)) fun s4 sub4 => ?_
  have st4 := (st.trans sub3).trans sub4
  simp only [eqV_int, negB_mk, Bool.false_bne, optK_mk]
  refine boolK_mk (fun hk => ?_) (fun hk => ?_)
  · have hk : kindN c = 7 := by have := eq_of_beq hk; omega
    have r2 : rdN s4 8 (.ptr b 0) = some (cmR c) := rdN_all (sub4 _ _ h3) rfl
    simp only [r2, optK_mk]
    refine dec_in (hok c hcm) ⟨_, st4 _ _ hg⟩ fun s5 k5 h5 => ?_
    have e := el_at hci hk hn
    have := hK s5 (st4.keep.trans k5) (by rw [e]; exact h5)
    rw [e] at this
    exact this
  · have hk : kindN c ≠ 7 := fun e => by rw [e] at hk; cases hk
    simp only [add1 (show i ≤ 1000000 by omega), optK_mk]
    exact ⟨_, by omega, i + 1, rfl, by omega, st4, take_no hci hk hn, rfl⟩
theorem elect_in (h : SlR 8 s v (l.map cmR)) (hG : GlK s) (hok : ∀ c ∈ l, c.ok) (hl : l.length ≤ 1000) (hK : ∀ s', Sub s s' → K (.tup [.int .i64 ((elN l).1 : Int), .int .i64 ((elN l).2.1 : Int), .bool (elN l).2.2]) s') : wpCall Tryd.prog XX 28 [v] K s := by
  refine vc_comm_ElectionOf_in (new_step fun g s1 hg h1 u1 => ?_)
  have sub1 := u1.sub hg
  refine first_in (h.sub sub1) (hG.sub sub1) h1 hok hl fun s2 k2 h2 => ?_
  have x0 : ∀ x y : AVal, extractA (.tup [x, y]) 0 = some x := fun _ _ => rfl
  have x1 : ∀ x y : AVal, extractA (.tup [x, y]) 1 = some y := fun _ _ => rfl
  have r1 : rd1 s2 (.ptr g 0) = some (.int .i64 ((elN l).2.1 : Int)) := by rw [rd1_mk h2]; rfl
  simp only [x0, x1, r1, optK_mk]
  refine wr1_step h2 Nat.zero_lt_one rfl fun s3 h3 u3 => ?_
  have h3 : s3 g = some (false, .cells 3 [.int .i64 ((elN l).2.1 : Int)]) := h3
  have r2 : rd1 s3 (.ptr g 0) = some (.int .i64 ((elN l).2.1 : Int)) := by rw [rd1_mk h3]; rfl
  simp only [r2, optK_mk]
  refine hK s3 fun i e hi => ?_
  have ne := ne_of_some hg hi
  rw [u3 i ne]
  exact k2 i e (sub1 i e hi) ne
/-! ### the reference's -/
def RNumI (t0 : Heap) (c : Cm) : List AVal → Heap → Nat → Prop := fun ys t m =>
  ∃ i : Nat, ys = [.int .u64 ((nv (((cb c).drop 2).take i) : Nat) : Int), .int .i64 ((2 + i : Nat) : Int)] ∧ i ≤ 6 ∧ t = t0 ∧ m = 6 - i
theorem rnum_in (hc : c.ok) (hK : ∀ s', Sub s s' → K (.int .u64 ((nv ((cb c).drop 2) : Nat) : Int)) s') : wpCall Tryd.prog XX 69 [.agg (cmR c)] K s := by
  refine vc_leafmeshref03_number_in ⟨rfl, new_step fun b s1 hb h1 u1 => ?_⟩
  have h1 : s1 b = some (false, .cells 96 ((cb c).map u8)) := h1
  have sub1 := u1.sub hb
  refine ⟨RNumI s1 c, ⟨_, 0, rfl, by omega, rfl, rfl⟩, ?_⟩
  rintro e t m ⟨i, hy, hi, rfl, rfl⟩
  simp only [List.cons.injEq, and_true] at hy
  rw [hy.1, hy.2]
  simp only [vc_leafmeshref03_number_l0, arith_lss, optK_mk]
  have hlen : ((cb c).drop 2).length = 6 := rfl
  refine boolK_mk (fun hlt => ?_) (fun hge => ?_)
  rotate_left
  · have : i = 6 := by have := of_decide_eq_false hge; omega
    subst this
    rw [List.take_of_length_le (by rw [hlen]; omega)]
    exact hK t sub1
  have hlt : i < 6 := by have := of_decide_eq_true hlt; omega
  have hx := cb_ok hc
  have hd : ((cb c).drop 2).take (i + 1) = ((cb c).drop 2).take i ++ [((cb c).drop 2)[i]] := by
    rw [List.take_add_one, List.getElem?_eq_getElem (by rw [hlen]; exact hlt)]; rfl
  generalize hxv : ((cb c).drop 2)[i] = x at hd
  have hxm : x < 256 := hx x (by rw [← hxv]; exact List.mem_of_mem_drop (List.getElem_mem _))
  have a1 : iaddrA 8 1 (.ptr b 0) (.int .i64 ((2 + i : Nat) : Int)) = some (.ptr b (2 + i)) := by
    have : ∀ j : Nat, j < 8 → iaddrA 8 1 (.ptr b 0) (.int .i64 (j : Int)) = some (.ptr b j) := fun j hj => by
      have : Nat.blt j 8 = true := by rw [Nat.blt_eq]; omega
      simp [iaddrA, this]
    exact this _ (by omega)
  have r1 : rd1 t (.ptr b (2 + i)) = some (u8 x) := by
    rw [rd1_mk h1, List.getElem?_map]
    have : (cb c)[2 + i]? = some x := by
      rw [← hxv, ← List.getElem?_drop]
      exact List.getElem?_eq_getElem (by rw [hlen]; exact hlt)
    rw [this]; rfl
  obtain ⟨q1, q2, _, q3⟩ := digit (nv_small (l := ((cb c).drop 2).take i) (fun y hy => hx y (List.mem_of_mem_drop (List.mem_of_mem_take hy))) (by rw [List.length_take, hlen]; omega)) hxm
  simp only [q1, a1, r1, q2, q3, add1 (show 2 + i ≤ 1000000 by omega), optK_mk]
  exact ⟨_, by omega, i + 1, by rw [hd, nv_snoc]; rfl, by omega, rfl, rfl⟩
theorem rfirst_in (h : SlR 8 s v (l.map cmR)) (hok : ∀ c ∈ l, c.ok) (hl : l.length ≤ 1000)
    (hK : ∀ s', Sub s s' → K (.tup (match l.find? fun c => kindN c == 7 with | some c => [.int .u64 ((nv ((cb c).drop 2) : Nat) : Int), .bool true] | none => [.int .u64 0, .bool false])) s') : wpCall Tryd.prog XX 57 [v, .int .i64 7] K s := by
  refine vc_leafmeshref03_first_in ?_
  refine ⟨FirI s l, ⟨_, 0, rfl, by omega, .refl _, by simp, rfl⟩, ?_⟩
  rintro e t m ⟨i, hy, hi, st, hn, rfl⟩
  simp only [List.cons.injEq, and_true] at hy
  rw [hy]
  simp only [vc_leafmeshref03_first_l0, (h.sub st).len, List.length_map, arith_lss, optK_mk]
  refine boolK_mk (fun hlt => ?_) (fun hge => ?_)
  rotate_left
  · have : i = l.length := by have := of_decide_eq_false hge; omega
    subst this
    rw [List.take_length] at hn
    have := hK t st
    rw [List.find?_eq_none.2 fun d hd => by simpa using hn d hd] at this
    exact this
  have hlt : i < l.length := by have := of_decide_eq_true hlt; omega
  obtain ⟨c, hci⟩ : ∃ c, l[i]? = some c := ⟨_, List.getElem?_eq_getElem hlt⟩
  have hcm := List.mem_of_getElem? hci
  obtain ⟨pb, po, e1, e2, _⟩ := (h.sub st).get (i := i) (r := cmR c) (by rw [List.getElem?_map, hci]; rfl)
  simp only [e1, e2, optK_mk]
  refine rkind_in fun s4 sub4 => ?_
  have st4 := st.trans sub4
  simp only [eqV_int, negB_mk, Bool.false_bne, optK_mk]
  refine boolK_mk (fun hk => ?_) (fun hk => ?_)
  · have hk : kindN c = 7 := by have := eq_of_beq hk; omega
    obtain ⟨pb', po', e1', e2', _⟩ := (h.sub st4).get (i := i) (r := cmR c) (by rw [List.getElem?_map, hci]; rfl)
    rw [e1] at e1'
    cases e1'
    simp only [e2', optK_mk]
    refine rnum_in (hok c hcm) fun s5 sub5 => ?_
    have := hK s5 (st4.trans sub5)
    have e : l.find? (fun c => kindN c == 7) = some c := by
      obtain ⟨hlt, he⟩ := List.getElem?_eq_some_iff.1 hci
      have hs : l = l.take i ++ c :: l.drop (i + 1) := by
        rw [← he, List.getElem_cons_drop, List.take_append_drop]
      rw [hs, List.find?_append, List.find?_eq_none.2 fun d hd => by simpa using hn d hd]
      simp [hk]
    rw [e] at this
    exact this
  · have hk : kindN c ≠ 7 := fun e => by rw [e] at hk; cases hk
    simp only [add1 (show i ≤ 1000000 by omega), optK_mk]
    exact ⟨_, by omega, i + 1, rfl, by omega, st4, take_no hci hk hn, rfl⟩
theorem relect_in (h : SlR 8 s v (l.map cmR)) (hok : ∀ c ∈ l, c.ok) (hl : l.length ≤ 1000) (hK : ∀ s', Sub s s' → K (.tup [.int .i64 ((elN l).1 : Int), .int .i64 ((elN l).2.1 : Int), .bool (elN l).2.2]) s') : wpCall Tryd.prog XX 35 [v] K s := by
  refine vc_leafmeshref03_ElectionOf_in (rfirst_in h hok hl fun s1 sub1 => ?_)
  have := hK s1 sub1
  have x0 : ∀ x y : AVal, extractA (.tup [x, y]) 0 = some x := fun _ _ => rfl
  have x1 : ∀ x y : AVal, extractA (.tup [x, y]) 1 = some y := fun _ _ => rfl
  unfold elN at this
  cases e : l.find? fun c => kindN c == 7 with
  | none =>
    rw [e] at this
    simp only [x0, x1, optK_mk]
    exact optK_of (a := .int .u64 0) rfl (optK_of (a := .int .u64 0) rfl (optK_of (a := .int .i64 0) rfl (optK_of (a := .int .u64 0) rfl (optK_of (a := .int .i64 0) rfl this))))
  | some c =>
    rw [e] at this
    have hc := hok c (List.mem_of_find?_eq_some e)
    obtain ⟨c0, c1, c2, c3, c4, c5, c6, c7⟩ := hc
    have en : nv ((cb c).drop 2) = ((((c.b2 * 256 + c.b3) * 256 + c.b4) * 256 + c.b5) * 256 + c.b6) * 256 + c.b7 := by simp [nv, cb]
    simp only [x0, x1, shr_u64, optK_mk]
    generalize nv ((cb c).drop 2) = n at en ⊢
    have a1 : arithV .and (.int .u64 ((n / 1099511627776 : Nat) : Int)) (.int .u64 31) = some (.int .u64 ((n / 1099511627776 % 32 : Nat) : Int)) := and_u64 (k := 5) (m := 31) (by omega) rfl (by omega)
    have a2 : arithV .and (.int .u64 (n : Int)) (.int .u64 65535) = some (.int .u64 ((n % 65536 : Nat) : Int)) := and_u64 (k := 16) (m := 65535) (by omega) rfl (by omega)
    have q1 : n / 1099511627776 % 32 = c.b2 % 32 := by omega
    have q2 : n % 65536 = c.b6 * 256 + c.b7 := by omega
    simp only [a1, a2, q1, q2, cv_i64 (show c.b2 % 32 < 9223372036854775808 by omega), cv_i64 (show c.b6 * 256 + c.b7 < 9223372036854775808 by omega), optK_mk]
    exact this
end Go.AM.SG
namespace Go.AM.SG
open Go Go.AM Go.Proofs
variable {K : AVal → Heap → Prop} {s s' s0 : Heap} {v w p q m p' q' m' : AVal}
/-! ### routes -/
structure Es where
  (x0 x1 x2 x3 x4 x5 x6 x7 x8 x9 : Int)
def Es.R (x : Es) : List AVal := [.int .u8 x.x0, .int .u8 x.x1, .int .u8 x.x2, .int .u8 x.x3, .int .u8 x.x4, .int .u8 x.x5, .int .u8 x.x6, .int .u8 x.x7, .int .u8 x.x8, .int .u8 x.x9]
structure Rt where
  (kd rd : Int) (es : Es) (tag mac ip : Int) (hip : Bool) (px pl gw la lb og nx : Int) (hm : Bool) (md : Int) (hp : Bool) (pf : Int) (ho : Bool) (orr tk tl tr tg pe : Int) (st : Bool)
  (path cl : List Int) (cm : List Cm)
def Rt.N (r : Rt) : List AVal := .int .i64 r.kd :: .int .u64 r.rd :: (r.es.R ++ [.int .u32 r.tag, .int .u64 r.mac, .int .u32 r.ip, .bool r.hip, .int .u32 r.px, .int .i64 r.pl, .int .u32 r.gw, .int .u32 r.la, .int .u32 r.lb])
def Rt.T (r : Rt) : List AVal := [.int .i64 r.tk, .int .u32 r.tl, .int .u32 r.tr, .int .u32 r.tg]
def Rt.A (r : Rt) (p q m : AVal) : List AVal := [.int .i64 r.og, p, .int .u32 r.nx, .bool r.hm, .int .u32 r.md, .bool r.hp, .int .u32 r.pf, .bool r.ho, .int .u32 r.orr, q, m, .int .i64 r.tk, .int .u32 r.tl, .int .u32 r.tr, .int .u32 r.tg]
def Rt.row (r : Rt) (p q m : AVal) : List AVal := r.N ++ (r.A p q m ++ [.int .u32 r.pe, .bool r.st])
theorem Rt.A_one (r : Rt) (h1 : p.one = true) (h2 : q.one = true) (h3 : m.one = true) : allOne (r.A p q m) = true := by
  show (p.one && (q.one && (m.one && true))) = true
  rw [h1, h2, h3]; rfl
theorem Rt.row_one (r : Rt) (h1 : p.one = true) (h2 : q.one = true) (h3 : m.one = true) : allOne (r.row p q m) = true := by
  show (p.one && (q.one && (m.one && true))) = true
  rw [h1, h2, h3]; rfl
/-- the lists of a route in memory -/
structure RtAt (s : Heap) (r : Rt) (p q m : AVal) : Prop where
  pa : Sl s p (us r.path)
  cl : Sl s q (us r.cl)
  cm : SlR 8 s m (r.cm.map cmR)
theorem RtAt.sub {r : Rt} (h : RtAt s r p q m) (k : Sub s s') : RtAt s' r p q m := ⟨h.pa.sub k, h.cl.sub k, h.cm.sub k⟩
theorem RtAt.one {r : Rt} (h : RtAt s r p q m) : allOne (r.row p q m) = true := r.row_one h.pa.one h.cl.one h.cm.one
theorem RtAt.oneA {r : Rt} (h : RtAt s r p q m) : allOne (r.A p q m) = true := r.A_one h.pa.one h.cl.one h.cm.one
/-- the lists' blocks are new -/
structure Frs (s : Heap) (r : Rt) (p q m : AVal) : Prop where
  pa : ∀ i o n c, p = .slc i o n c 1 → us r.path ≠ [] → s i = none
  cl : ∀ i o n c, q = .slc i o n c 1 → us r.cl ≠ [] → s i = none
  cm : ∀ i o n c, m = .slc i o n c 8 → r.cm.map cmR ≠ [] → s i = none
theorem Frs.old {r : Rt} (h : Frs s' r p q m) (k : Sub s s') : Frs s r p q m :=
  ⟨fun i o n c e z => fresh_of k (h.pa i o n c e z), fun i o n c e z => fresh_of k (h.cl i o n c e z), fun i o n c e z => fresh_of k (h.cm i o n c e z)⟩
theorem RtAt.keep {r : Rt} {fp : Nat → Prop} (h : RtAt s r p q m) (kb : KeepBut fp s s') (hf : Frs s0 r p q m) (hp : ∀ i, fp i → s0 i ≠ none) : RtAt s' r p q m :=
  ⟨h.pa.keep kb fun i o n c e z w => hp i w (hf.pa i o n c e z), h.cl.keep kb fun i o n c e z w => hp i w (hf.cl i o n c e z), h.cm.keep kb fun i o n c e z w => hp i w (hf.cm i o n c e z)⟩
def Rt.ok (r : Rt) : Prop := (∀ c ∈ r.cm, c.ok) ∧ r.path.length ≤ 20 ∧ r.cl.length ≤ 20 ∧ r.cm.length ≤ 20
/-- routes in memory -/
def Rts (s : Heap) (v : AVal) (R : List Rt) : Prop := ∃ rows : List (List AVal), SlR 38 s v rows ∧ rows.length = R.length ∧ ∀ (i : Nat) (r : Rt), R[i]? = some r → ∃ p q m, rows[i]? = some (r.row p q m) ∧ RtAt s r p q m
theorem Rts.sub {R : List Rt} (h : Rts s v R) (k : Sub s s') : Rts s' v R := by
  obtain ⟨rows, h1, h2, h3⟩ := h
  refine ⟨rows, h1.sub k, h2, fun i r hi => ?_⟩
  obtain ⟨p, q, m, q1, q2⟩ := h3 i r hi
  exact ⟨p, q, m, q1, q2.sub k⟩
theorem Rts.len {R : List Rt} (h : Rts s v R) : lenOfA v = some R.length := by
  obtain ⟨rows, h1, h2, _⟩ := h
  rw [h1.len, h2]
theorem Rts.get {R : List Rt} (h : Rts s v R) {i : Nat} {r : Rt} (hi : R[i]? = some r) : ∃ b o p q m, iaddrS 38 v (.int .i64 (i : Int)) = some (.ptr b o) ∧ rdN s 38 (.ptr b o) = some (r.row p q m) ∧ (∀ j, j < 38 → rd1 s (.ptr b (o + j)) = (r.row p q m)[j]?) ∧ RtAt s r p q m := by
  obtain ⟨rows, h1, h2, h3⟩ := h
  obtain ⟨p, q, m, q1, q2⟩ := h3 i r hi
  obtain ⟨b, o, e1, e2, e3⟩ := h1.get q1
  exact ⟨b, o, p, q, m, e1, e2, e3, q2⟩
/-- is a route about a segment? -/
def eqE (P : Program) (x y : Es) : Bool := match eqAgg P 24 (.agg x.R) (.agg y.R) with
  | some b => b
  | none => false
theorem eqE_ok (x y : Es) : eqAgg Tryd.prog 24 (.agg x.R) (.agg y.R) = some (eqE Tryd.prog x y) := by
  obtain ⟨b, h, _⟩ := eqAgg_def (by kernel_rfl : cDef Tryd.prog 30 24 (.agg x.R) (.agg y.R) = true)
  unfold eqE
  rw [h]
def abt (P : Program) (x : Es) (r : Rt) : Bool := (r.kd == 4) && eqE P r.es x
theorem eqNLRI (r : Rt) : eqAgg Tryd.prog 57 (.agg r.N) (.agg r.N) = some true := eqAgg_self (by kernel_rfl)
theorem eqTun (r : Rt) : eqAgg Tryd.prog 50 (.agg r.T) (.agg r.T) = some true := eqAgg_self (by kernel_rfl)
theorem eqCm (c : Cm) : eqAgg Tryd.prog 96 (.agg (cmR c)) (.agg (cmR c)) = some true := eqAgg_self (by kernel_rfl)
theorem about_in {r : Rt} {x : Es} (h : RtAt s r p q m) (hK : ∀ s', Sub s s' → K (.bool (abt Tryd.prog x r)) s') : wpCall Tryd.prog XX 27 [.agg (r.row p q m), .agg x.R] K s := by
  refine vc_segment_about_in ⟨h.one, new_step fun b s1 hb h1 u1 => ⟨rfl, new_step fun g s2 hg h2 u2 => ?_⟩⟩
  have sub2 := (u1.sub hb).trans (u2.sub hg)
  have hb2 := (u2.sub hg) _ _ h1
  have r0 : rd1 s2 (.ptr b 0) = some (.int .i64 r.kd) := by rw [rd1_mk hb2]; rfl
  have r1 : rdN s2 10 (.ptr b 2) = some r.es.R := by simp only [rdN, hb2]; rfl
  have r2 : rdN s2 10 (.ptr g 0) = some x.R := rdN_all h2 rfl
  simp only [addOff_ptr, Nat.zero_add, r0, r1, r2, eqV_int, negB_mk, Bool.false_bne, eqE_ok, optK_mk]
  have fin := hK s2 sub2
  unfold abt at fin
  cases e : (r.kd == 4) with
  | true =>
    rw [e, Bool.true_and] at fin
    simp only [boolK_true, vc_segment_about_j0, pickV_true, optK_mk]
    exact fin
  | false =>
    rw [e, Bool.false_and] at fin
    simp only [boolK_false, vc_segment_about_j0, pickV_false, optK_mk]
    exact fin
/-! ### copies -/
theorem OwnU_in {l : List Int} (h : Sl s v (us l)) (hl : l.length ≤ 1000000) (hK : ∀ v' s', Sub s s' → Sl s' v' (us l) → (∀ b o n c, v' = .slc b o n c 1 → us l ≠ [] → s b = none) → K v' s') : wpCall Tryd.prog XX 62 [v] K s := by
  refine vc_leafmeshkit_Own_uint32__in ?_
  refine optK_of (a := []) rfl ⟨rfl, new_step fun b s1 hb h1 u1 => ?_⟩
  have sub1 := u1.sub hb
  refine app_copy (h.sub sub1) (by rw [List.length_map]; omega) fun v' s' sub2 h0 h2 => ?_
  by_cases q : us l = []
  · refine hK v' s' (sub1.trans sub2) ?_ fun _ _ _ _ _ h => absurd q h
    rw [h0 q, q]; exact .inr ⟨b, 0, some 0, by simp, by simp, fun h => absurd rfl h⟩
  · obtain ⟨c, h5, rfl, h4⟩ := h2 q
    exact hK _ s' (sub1.trans sub2) (Sl.mk h4 rfl (by simp)) fun b o n c' e _ => by cases e; exact fresh_of sub1 h5
theorem OwnP_in {l : List Int} (h : Sl s v (us l)) (hl : l.length ≤ 1000000) (hK : ∀ v' s', Sub s s' → Sl s' v' (us l) → (∀ b o n c, v' = .slc b o n c 1 → us l ≠ [] → s b = none) → K v' s') : wpCall Tryd.prog XX 63 [v] K s := by
  refine vc_leafmeshkit_Own_api_IP__in ?_
  refine optK_of (a := []) rfl ⟨rfl, new_step fun b s1 hb h1 u1 => ?_⟩
  have sub1 := u1.sub hb
  refine app_copy (h.sub sub1) (by rw [List.length_map]; omega) fun v' s' sub2 h0 h2 => ?_
  by_cases q : us l = []
  · refine hK v' s' (sub1.trans sub2) ?_ fun _ _ _ _ _ h => absurd q h
    rw [h0 q, q]; exact .inr ⟨b, 0, some 0, by simp, by simp, fun h => absurd rfl h⟩
  · obtain ⟨c, h5, rfl, h4⟩ := h2 q
    exact hK _ s' (sub1.trans sub2) (Sl.mk h4 rfl (by simp)) fun b o n c' e _ => by cases e; exact fresh_of sub1 h5
theorem OwnC_in {l : List Cm} (h : SlR 8 s v (l.map cmR)) (hl : l.length ≤ 1000000) (hK : ∀ v' s', Sub s s' → SlR 8 s' v' (l.map cmR) → (∀ b o n c, v' = .slc b o n c 8 → l.map cmR ≠ [] → s b = none) → K v' s') : wpCall Tryd.prog XX 64 [v] K s := by
  refine vc_leafmeshkit_Own_api_Comm__in ?_
  refine optK_of (a := []) rfl ⟨rfl, new_step fun b s1 hb h1 u1 => ?_⟩
  have sub1 := u1.sub hb
  exact app_copyR (h.sub sub1) (by rw [List.length_map]; omega) fun v' s' sub2 h2 h3 => hK v' s' (sub1.trans sub2) h2 fun b o n c e q => fresh_of sub1 (h3 b o n c e q)
theorem SlR.addf {es : Nat} {s2 : Heap} {rows : List (List AVal)} (h : SlR es s2 v rows) (hs : Sub (AM.frz s) s2) : SlR es (add s s2) v rows := by
  refine ⟨h.1, ?_⟩
  rcases h.2 with h | ⟨b, o, cap, h1, h2, h3⟩
  · exact .inl h
  · refine .inr ⟨b, o, cap, h1, h2, fun hl => ?_⟩
    obtain ⟨t, e, cs, q1, q2⟩ := h3 hl
    cases hb : s b with
    | none => exact ⟨t, e, cs, by rw [add_none hb]; exact q1, q2⟩
    | some x =>
      obtain ⟨t', x⟩ := x
      have := hs b _ (frz_some hb)
      rw [q1] at this
      cases this
      exact ⟨t', e, cs, by rw [add_some hb], q2⟩
theorem OwnA_in {r : Rt} (h : RtAt s r p q m) (hr : r.ok) (hK : ∀ s' p' q' m', Sub s s' → RtAt s' r p' q' m' → Frs s r p' q' m' → K (.agg (r.A p' q' m')) s') : wpCall Tryd.prog XX 44 [.agg (r.A p q m)] K s := by
  obtain ⟨_, l1, l2, l3⟩ := hr
  refine vc_leafmeshkit_OwnAttrs_in ⟨h.oneA, new_step fun b s1 hb h1 u1 => new_step fun g s2 hg h2 u2 => ?_⟩
  have sub1 := u1.sub hb
  have sub2 := u2.sub hg
  have h12 := sub2 _ _ h1
  have sub02 := sub1.trans sub2
  have hne : b ≠ g := ne_of_some hg h1
  have r1 : rd1 s2 (.ptr b 1) = some p := by rw [rd1_mk h12]; rfl
  simp only [addOff_ptr, Nat.zero_add, r1, optK_mk]
  refine OwnU_in (h.sub sub02).pa.frz (by omega) fun v6 s7 sub7 h6 f6 _ => ?_
  have h6 := h6.addf sub7
  have f6 : ∀ i o n c, v6 = .slc i o n c 1 → us r.path ≠ [] → s2 i = none := fun i o n c e q => frz_none.1 (f6 i o n c e q)
  have sub27 : Sub s2 (add s2 s7) := sub_add
  have h17 := sub27 _ _ h12
  have h27 := sub27 _ _ h2
  have xc : cutH [(s2, add s2 s7)] (add s2 s7) b = some (false, .cells 52 (r.A p q m)) := cut_keep h12 h17
  have r2 : rd1 (cutH [(s2, add s2 s7)] (add s2 s7)) (.ptr b 9) = some q := by rw [rd1_mk xc]; rfl
  simp only [r2, optK_mk]
  have sub07 := sub02.trans sub27
  generalize add s2 s7 = s8 at *
  refine OwnP_in (h.sub sub07).cl.frz (by omega) fun v10 s11 sub11 h10 f10 _ => ?_
  have h10 := h10.addf sub11
  have f10 : ∀ i o n c, v10 = .slc i o n c 1 → us r.cl ≠ [] → s8 i = none := fun i o n c e q => frz_none.1 (f10 i o n c e q)
  have sub89 : Sub s8 (add s8 s11) := sub_add
  have h19 := sub89 _ _ h17
  have h29 := sub89 _ _ h27
  have xc2 : cutH [(s2, s8), (s8, add s8 s11)] (add s8 s11) b = some (false, .cells 52 (r.A p q m)) := by
    show (if s8 b = none ∧ (add s8 s11) b ≠ none then none else (if s2 b = none ∧ s8 b ≠ none then none else (add s8 s11) b)) = _
    rw [if_neg (by rintro ⟨z, _⟩; rw [h17] at z; cases z), if_neg (by rintro ⟨z, _⟩; rw [h12] at z; cases z)]
    exact h19
  have r3 : rd1 (cutH [(s2, s8), (s8, add s8 s11)] (add s8 s11)) (.ptr b 10) = some m := by rw [rd1_mk xc2]; rfl
  simp only [r3, optK_mk]
  have sub09 := sub07.trans sub89
  have h69 := h6.sub sub89
  generalize add s8 s11 = s9 at *
  refine OwnC_in (h.sub sub09).cm (by omega) fun v14 s15 sub15 h14 f14 => ?_
  have h115 := sub15 _ _ h19
  have h215 := sub15 _ _ h29
  have h615 := h69.sub sub15
  have h1015 := h10.sub sub15
  have sub015 := sub09.trans sub15
  refine wr1_step h115 (by show 1 < 15; omega) h615.one fun s16 h16 u16 => ?_
  refine wr1_step h16 (by show 9 < 15; omega) h1015.one fun s17 h17' u17 => ?_
  refine wr1_step h17' (by show 10 < 15; omega) h14.one fun s18 h18 u18 => ?_
  have h18 : s18 b = some (false, .cells 52 (r.A v6 v10 v14)) := h18
  have r4 : rdN s18 15 (.ptr b 0) = some (r.A v6 v10 v14) := rdN_all h18 rfl
  simp only [r4, optK_mk]
  have h218 : s18 g = some (false, .cells 52 [(.int .i64 0), .nilslc, (.int .u32 0), (.bool false), (.int .u32 0), (.bool false), (.int .u32 0), (.bool false), (.int .u32 0), .nilslc, .nilslc, (.int .i64 0), (.int .u32 0), (.int .u32 0), (.int .u32 0)]) := by
    rw [u18 g hne.symm, u17 g hne.symm, u16 g hne.symm]; exact h215
  refine wrAgg_step h218 rfl rfl (r.A_one h615.one h1015.one h14.one) fun s19 h19' u19 => ?_
  have r5 : rdN s19 15 (.ptr g 0) = some (r.A v6 v10 v14) := rdN_all h19' rfl
  simp only [r5, optK_mk]
  have up : ∀ i e, s15 i = some e → i ≠ b → i ≠ g → s19 i = some e := fun i e hi q1 q2 => by
    rw [u19 i q2, u18 i q1, u17 i q1, u16 i q1]; exact hi
  have subE : Sub s s19 := fun i e hi => up i e (sub015 i e hi) (ne_of_some hb hi) (ne_of_some hg (sub1 _ _ hi))
  have kb : KeepBut (fun i => i = b ∨ i = g) s15 s19 := fun i e hi hn => up i e hi (fun z => hn (.inl z)) (fun z => hn (.inr z))
  have frs : Frs s2 r v6 v10 v14 := ⟨f6, fun i o n c e z => fresh_of sub27 (f10 i o n c e z), fun i o n c e z => fresh_of (sub27.trans sub89) (f14 i o n c e z)⟩
  refine hK s19 v6 v10 v14 subE (RtAt.keep ⟨h615, h1015, h14⟩ kb frs fun i z => ?_) (frs.old sub02)
  rcases z with z | z
  · rw [z, h12]; simp
  · rw [z, h2]; simp
end Go.AM.SG
namespace Go.AM.SG
open Go Go.AM Go.Proofs
variable {K : AVal → Heap → Prop} {s s' s0 t : Heap} {v w p q m p' q' m' : AVal} {R : List Rt}
/-! ### copies of routes -/
abbrev zRt : List AVal := [(.int .i64 0), (.int .u64 0), (.int .u8 0), (.int .u8 0), (.int .u8 0), (.int .u8 0), (.int .u8 0), (.int .u8 0), (.int .u8 0), (.int .u8 0), (.int .u8 0), (.int .u8 0), (.int .u32 0), (.int .u64 0), (.int .u32 0), (.bool false), (.int .u32 0), (.int .i64 0), (.int .u32 0), (.int .u32 0), (.int .u32 0), (.int .i64 0), .nilslc, (.int .u32 0), (.bool false), (.int .u32 0), (.bool false), (.int .u32 0), (.bool false), (.int .u32 0), .nilslc, .nilslc, (.int .i64 0), (.int .u32 0), (.int .u32 0), (.int .u32 0), (.int .u32 0), (.bool false)]
theorem row_set (r : Rt) : setRange (r.row p q m) 21 (r.A p' q' m') = r.row p' q' m' := rfl
theorem OwnR_in {r : Rt} (h : RtAt s r p q m) (hr : r.ok) (hK : ∀ s' p' q' m', Sub s s' → RtAt s' r p' q' m' → Frs s r p' q' m' → K (.agg (r.row p' q' m')) s') : wpCall Tryd.prog XX 26 [.agg (r.row p q m)] K s := by
  refine vc_leafmeshkit_OwnRoute_in ⟨h.one, new_step fun b s1 hb h1 u1 => new_step fun g s2 hg h2 u2 => ?_⟩
  have sub1 := u1.sub hb
  have sub2 := u2.sub hg
  have h12 := sub2 _ _ h1
  have sub02 := sub1.trans sub2
  have hne : b ≠ g := ne_of_some hg h1
  have r1 : rdN s2 15 (.ptr b 21) = some (r.A p q m) := by simp only [rdN, h12]; rfl
  simp only [addOff_ptr, Nat.zero_add, r1, optK_mk]
  refine OwnA_in (h.sub sub02) hr fun s3 p' q' m' sub3 h3 f3 => ?_
  have hb3 : s3 b = some (false, .cells 59 (r.row p q m)) := sub3 _ _ h12
  have hg3 := sub3 _ _ h2
  have e1 : wrAgg s3 15 (.ptr b 21) (.agg (r.A p' q' m')) = some (hset s3 b (false, .cells 59 (r.row p' q' m'))) := by
    have o := h3.oneA
    have e0 : wrN s3 (.ptr b 21) (r.A p' q' m') = cond (Nat.ble (21 + 15) 38 && allOne (r.A p' q' m')) (some (hset s3 b (false, .cells 59 (setRange (r.row p q m) 21 (r.A p' q' m'))))) none := by
      unfold wrN
      simp only [hb3]
      rfl
    rw [o, row_set] at e0
    exact e0
  refine optK_of e1 ?_
  have hb4 : (hset s3 b (false, .cells 59 (r.row p' q' m'))) b = some (false, .cells 59 (r.row p' q' m')) := hset_eq
  have u4 : Upto b s3 (hset s3 b (false, .cells 59 (r.row p' q' m'))) := fun _ hi => hset_other hi
  generalize hset s3 b (false, .cells 59 (r.row p' q' m')) = s4 at *
  have r4 : rdN s4 38 (.ptr b 0) = some (r.row p' q' m') := rdN_all hb4 rfl
  simp only [r4, optK_mk]
  refine wrAgg_step (l := zRt) (show s4 g = some (false, .cells 59 zRt) by rw [u4 g hne.symm]; exact hg3) rfl rfl h3.one fun s5 h5 u5 => ?_
  have r5 : rdN s5 38 (.ptr g 0) = some (r.row p' q' m') := rdN_all h5 rfl
  simp only [r5, optK_mk]
  have up : ∀ i e, s3 i = some e → i ≠ b → i ≠ g → s5 i = some e := fun i e hi q1 q2 => by
    rw [u5 i q2, u4 i q1]; exact hi
  have subE : Sub s s5 := fun i e hi => up i e (sub3 _ _ (sub02 i e hi)) (ne_of_some hb hi) (ne_of_some hg (sub1 _ _ hi))
  have kb : KeepBut (fun i => i = b ∨ i = g) s3 s5 := fun i e hi hn => up i e hi (fun z => hn (.inl z)) (fun z => hn (.inr z))
  refine hK s5 p' q' m' subE (h3.keep kb f3 fun i z => ?_) (f3.old sub02)
  rcases z with z | z
  · rw [z, h12]; simp
  · rw [z, h2]; simp
/-- routes of one's own -/
structure Ows (s0 s : Heap) (v : AVal) (R : List Rt) : Prop where
  sub : Sub s0 s
  ex : ∃ (rows : List (List AVal)) (sb : Heap), Sub s0 sb ∧ Sub sb s ∧ AccR 59 38 sb s v rows ∧ rows.length = R.length ∧ ∀ (i : Nat) (r : Rt), R[i]? = some r → ∃ p q m, rows[i]? = some (r.row p q m) ∧ RtAt sb r p q m
theorem Ows.more (h : Ows s0 s v R) (k : Sub s s') : Ows s0 s' v R := by
  obtain ⟨a, rows, sb, b, c, e, f⟩ := h
  exact ⟨a.trans k, rows, sb, b, c.trans k, e.sub k, f⟩
theorem Ows.nil : Ows s s .nilslc [] := ⟨.refl s, [], s, .refl s, .refl s, ⟨(fun r h => by cases h), .inl ⟨rfl, rfl⟩⟩, rfl, fun i r h => by cases h⟩
theorem Ows.rts (h : Ows s0 s v R) : Rts s v R := by
  obtain ⟨_, rows, sb, _, c, e, f, g⟩ := h
  refine ⟨rows, e.sl, f, fun i r hi => ?_⟩
  obtain ⟨p, q, m, q1, q2⟩ := g i r hi
  exact ⟨p, q, m, q1, q2.sub c⟩
/-- all but the block of the list itself -/
def offV (v : AVal) (t : Heap) : Heap := match v with
  | .slc b _ _ _ _ => hdel t b
  | _ => t
theorem offV_sub : Sub (offV v t) t := fun i x hi => by
  unfold offV at hi
  split at hi
  · rename_i b _ _ _ _
    have hi : (if i = b then none else t i) = some x := hi
    split at hi
    · cases hi
    · exact hi
  · exact hi
theorem offV_at {i : Nat} (h : ∀ b o n c e, v = .slc b o n c e → i ≠ b) : offV v t i = t i := by
  unfold offV
  split
  · exact if_neg (h _ _ _ _ _ rfl)
  · rfl
theorem Ows.put {r : Rt} {y : AVal} (h : Ows s0 s v R) (k : Sub s t) (hr : RtAt t r p q m) (hf : Frs s r p q m) (hy : SlR 38 t y [r.row p q m]) (hl : R.length ≤ 1000) (hK : ∀ v' s', Ows s0 s' v' (R ++ [r]) → K v' s') : appK 59 38 v y K t := by
  obtain ⟨h0, rows, sb, b, c, ac, hlen, hR⟩ := h
  have own : ∀ i b o n c e, v = .slc b o n c e → sb i ≠ none → i ≠ b := fun i b o n c e z z2 z3 => by
    rcases ac.2 with ⟨w, _⟩ | ⟨j, w1, w2, w3⟩
    · rw [w] at z; cases z
    · rw [w2] at z; cases z; rw [z3] at z2; exact z2 w1
  have k1 : Sub sb (offV v t) := fun i x hi => by
    rw [offV_at fun b o n c e z => own i b o n c e z (by rw [hi]; simp)]
    exact k _ _ (c _ _ hi)
  have ac2 : AccR 59 38 (offV v t) t v rows := by
    refine ⟨ac.1, ac.2.imp id fun ⟨i, q1, q2, q3⟩ => ⟨i, ?_, q2, k _ _ q3⟩⟩
    rw [q2]
    exact if_pos rfl
  have kb : KeepBut (fun i => ∃ o n c e, v = .slc i o n c e) t (offV v t) := fun i e hi hn => by
    rw [offV_at fun b o n c e' z z2 => hn ⟨o, n, c, e', by rw [z2]; exact z⟩]
    exact hi
  have hr2 : RtAt (offV v t) r p q m := hr.keep kb hf fun i ⟨o, n, c, e, z⟩ => by
    rcases ac.2 with ⟨w, _⟩ | ⟨j, w1, w2, w3⟩
    · rw [w] at z; cases z
    · rw [w2] at z; cases z; rw [w3]; simp
  refine ac2.app hy (by simp) (by simp only [List.length_singleton]; omega) offV_sub fun v' s' a' k' => ?_
  refine hK v' s' ⟨b.trans (k1.trans k'), rows ++ [r.row p q m], offV v t, b.trans k1, k', a', by simp [hlen], fun i x hx => ?_⟩
  by_cases e : i < R.length
  · rw [List.getElem?_append_left e] at hx
    obtain ⟨p1, q1, m1, w1, w2⟩ := hR i x hx
    exact ⟨p1, q1, m1, by rw [List.getElem?_append_left (by omega)]; exact w1, w2.sub k1⟩
  · have hi : i = R.length := by
      have := (List.getElem?_eq_some_iff.1 hx).1
      simp only [List.length_append, List.length_singleton] at this
      omega
    subst hi
    rw [List.getElem?_append_right (Nat.le_refl _), Nat.sub_self] at hx
    cases hx
    refine ⟨p, q, m, ?_, hr2⟩
    rw [List.getElem?_append_right (by omega), hlen, Nat.sub_self]; rfl
theorem fill_one {zs c : List AVal} (h : c.length = zs.length) : fillR (repl 1 zs) [(0, zs.length, .agg c)] = some c := by
  have e0 : repl 1 zs = zs := by simp [repl]
  rw [e0]
  have e2 : Nat.beq c.length zs.length = true := by rw [h]; exact Nat.beq_refl _
  have e3 : Nat.ble (0 + c.length) zs.length = true := Nat.ble_eq_true_of_le (by omega)
  simp only [fillR, cells_agg, e2, e3, Bool.and_self, cond_true]
  unfold setRange
  rw [List.take_zero, List.nil_append, List.drop_eq_nil_of_le (by omega), List.append_nil]
def OrsI (s0 : Heap) (R : List Rt) : List AVal → Heap → Nat → Prop := fun ys t m =>
  ∃ (i : Nat) (w : AVal), ys = [w, .int .i64 (i : Int)] ∧ i ≤ R.length ∧ Ows s0 t w (R.take i) ∧ m = R.length - i
theorem OwnRs_in (h : Rts s v R) (hok : ∀ r ∈ R, r.ok) (hl : R.length ≤ 1000) (hK : ∀ v' s', Sub s s' → Rts s' v' R → K v' s') : wpCall Tryd.prog XX 7 [v] K s := by
  refine vc_leafmeshkit_OwnRoutes_in ?_
  refine ⟨OrsI s R, ⟨_, 0, _, rfl, by omega, .nil, rfl⟩, ?_⟩
  rintro e t m ⟨i, w, hy, hi, ow, rfl⟩
  simp only [List.cons.injEq, and_true] at hy
  rw [hy.1, hy.2]
  have st := ow.sub
  have hlen := (h.sub st).len
  simp only [vc_leafmeshkit_OwnRoutes_l0, hlen, arith_lss, optK_mk]
  refine boolK_mk (fun hlt => ?_) (fun hge => ?_)
  rotate_left
  · have : i = R.length := by have := of_decide_eq_false hge; omega
    subst this
    rw [List.take_length] at ow
    exact hK w t st ow.rts
  have hlt : i < R.length := by have := of_decide_eq_true hlt; omega
  obtain ⟨r, hri⟩ : ∃ r, R[i]? = some r := ⟨_, List.getElem?_eq_getElem hlt⟩
  obtain ⟨b, o, p, q, m, e1, e2, _, e4⟩ := (h.sub st).get hri
  simp only [e1, e2, optK_mk]
  refine OwnR_in e4 (hok r (List.mem_of_getElem? hri)) fun s2 p' q' m' sub2 h2 f2 => ?_
  refine optK_of (fill_one (zs := zRt) (c := r.row p' q' m') rfl) ⟨h2.one, new_step fun g s3 hg h3 u3 => ?_⟩
  have sub3 := u3.sub hg
  refine ow.put (sub2.trans sub3) (h2.sub sub3) f2 (SlR.mk (rows := [r.row p' q' m']) (by intro r' hr; rw [List.mem_singleton] at hr; subst hr; rfl) (by simpa using h3) rfl (by simp)) (by rw [List.length_take]; omega) fun v' s' ow' => ?_
  simp only [add1 (show i ≤ 1000000 by omega), optK_mk]
  refine ⟨_, by omega, i + 1, v', rfl, by omega, ?_, rfl⟩
  rw [List.take_add_one, hri]
  exact ow'
end Go.AM.SG
namespace Go.AM.SG
open Go Go.AM Go.Proofs
variable {K : AVal → Heap → Prop} {s s' s0 t : Heap} {v w p q m p' q' m' : AVal} {R : List Rt}
/-! ### lists that are compared with their copies -/
def SamI (t0 : Heap) (n : Nat) : List AVal → Heap → Nat → Prop := fun ys t m =>
  ∃ i : Nat, ys = [.int .i64 (i : Int)] ∧ t = t0 ∧ i ≤ n ∧ m = n - i
theorem eqV_b {c : Bool} {a b : Bool} : eqV 1 c (.bool a) (.bool b) = some (a == b) := rfl
theorem SameU_in {l : List Int} (h : Sl s v (us l)) (h' : Sl s w (us l)) (hl : l.length ≤ 1000) (hK : K (.bool true) s) : wpCall Tryd.prog XX 81 [v, w] K s := by
  refine vc_leafmeshkit_Same_uint32__in ?_
  simp only [vc_leafmeshkit_Same_uint32_, h.len, h'.len, List.length_map, eqV_int, beq_self_eq_true, negB_mk, Bool.true_bne, Bool.not_true, boolK_false, optK_mk]
  refine ⟨SamI s l.length, ⟨_, 0, rfl, rfl, by omega, rfl⟩, ?_⟩
  rintro e t m ⟨i, hy, rfl, hi, rfl⟩
  simp only [List.cons.injEq, and_true] at hy
  rw [hy]
  simp only [vc_leafmeshkit_Same_uint32__l0, h.len, List.length_map, arith_lss, optK_mk]
  refine boolK_mk (fun hlt => ?_) (fun _ => hK)
  have hlt : i < l.length := by have := of_decide_eq_true hlt; omega
  obtain ⟨a, e1, e2⟩ := h.get (i := i) (by simpa using hlt)
  obtain ⟨b, e3, e4⟩ := h'.get (i := i) (by simpa using hlt)
  rw [List.getElem?_map, List.getElem?_eq_getElem hlt] at e2 e4
  simp only [e1, e2, e3, e4, Option.map_some, eqV_int, beq_self_eq_true, negB_mk, Bool.true_bne, Bool.not_true, boolK_false, add1 (show i ≤ 1000000 by omega), optK_mk]
  exact ⟨_, by omega, i + 1, rfl, rfl, by omega, rfl⟩
theorem SameP_in {l : List Int} (h : Sl s v (us l)) (h' : Sl s w (us l)) (hl : l.length ≤ 1000) (hK : K (.bool true) s) : wpCall Tryd.prog XX 11 [v, w] K s := by
  refine vc_leafmeshkit_Same_api_IP__in ?_
  simp only [vc_leafmeshkit_Same_api_IP_, h.len, h'.len, List.length_map, eqV_int, beq_self_eq_true, negB_mk, Bool.true_bne, Bool.not_true, boolK_false, optK_mk]
  refine ⟨SamI s l.length, ⟨_, 0, rfl, rfl, by omega, rfl⟩, ?_⟩
  rintro e t m ⟨i, hy, rfl, hi, rfl⟩
  simp only [List.cons.injEq, and_true] at hy
  rw [hy]
  simp only [vc_leafmeshkit_Same_api_IP__l0, h.len, List.length_map, arith_lss, optK_mk]
  refine boolK_mk (fun hlt => ?_) (fun _ => hK)
  have hlt : i < l.length := by have := of_decide_eq_true hlt; omega
  obtain ⟨a, e1, e2⟩ := h.get (i := i) (by simpa using hlt)
  obtain ⟨b, e3, e4⟩ := h'.get (i := i) (by simpa using hlt)
  rw [List.getElem?_map, List.getElem?_eq_getElem hlt] at e2 e4
  simp only [e1, e2, e3, e4, Option.map_some, eqV_int, beq_self_eq_true, negB_mk, Bool.true_bne, Bool.not_true, boolK_false, add1 (show i ≤ 1000000 by omega), optK_mk]
  exact ⟨_, by omega, i + 1, rfl, rfl, by omega, rfl⟩
theorem SameC_in {l : List Cm} (h : SlR 8 s v (l.map cmR)) (h' : SlR 8 s w (l.map cmR)) (hl : l.length ≤ 1000) (hK : K (.bool true) s) : wpCall Tryd.prog XX 82 [v, w] K s := by
  refine vc_leafmeshkit_Same_api_Comm__in ?_
  simp only [vc_leafmeshkit_Same_api_Comm_, h.len, h'.len, List.length_map, eqV_int, beq_self_eq_true, negB_mk, Bool.true_bne, Bool.not_true, boolK_false, optK_mk]
  refine ⟨SamI s l.length, ⟨_, 0, rfl, rfl, by omega, rfl⟩, ?_⟩
  rintro e t m ⟨i, hy, rfl, hi, rfl⟩
  simp only [List.cons.injEq, and_true] at hy
  rw [hy]
  simp only [vc_leafmeshkit_Same_api_Comm__l0, h.len, List.length_map, arith_lss, optK_mk]
  refine boolK_mk (fun hlt => ?_) (fun _ => hK)
  have hlt : i < l.length := by have := of_decide_eq_true hlt; omega
  obtain ⟨a, o, e1, e2, _⟩ := h.get (i := i) (r := cmR l[i]) (by simp [hlt])
  obtain ⟨b, o', e3, e4, _⟩ := h'.get (i := i) (r := cmR l[i]) (by simp [hlt])
  simp only [e1, e2, e3, e4, eqCm, negB_mk, Bool.true_bne, Bool.not_true, boolK_false, add1 (show i ≤ 1000000 by omega), optK_mk]
  exact ⟨_, by omega, i + 1, rfl, rfl, by omega, rfl⟩
theorem SameD_in {l : List Cd} (h : SlR 2 s v (l.map cR)) (h' : SlR 2 s w (l.map cR)) (hl : l.length ≤ 1000) (hK : K (.bool true) s) : wpCall Tryd.prog XX 10 [v, w] K s := by
  refine vc_leafmeshkit_Same_api_Candidate__in ?_
  simp only [vc_leafmeshkit_Same_api_Candidate_, h.len, h'.len, List.length_map, eqV_int, beq_self_eq_true, negB_mk, Bool.true_bne, Bool.not_true, boolK_false, optK_mk]
  refine ⟨SamI s l.length, ⟨_, 0, rfl, rfl, by omega, rfl⟩, ?_⟩
  rintro e t m ⟨i, hy, rfl, hi, rfl⟩
  simp only [List.cons.injEq, and_true] at hy
  rw [hy]
  simp only [vc_leafmeshkit_Same_api_Candidate__l0, h.len, List.length_map, arith_lss, optK_mk]
  refine boolK_mk (fun hlt => ?_) (fun _ => hK)
  have hlt : i < l.length := by have := of_decide_eq_true hlt; omega
  obtain ⟨a, o, e1, e2, _⟩ := h.get (i := i) (r := cR l[i]) (by simp [hlt])
  obtain ⟨b, o', e3, e4, _⟩ := h'.get (i := i) (r := cR l[i]) (by simp [hlt])
  simp only [e1, e2, e3, e4, eqCd, negB_mk, Bool.true_bne, Bool.not_true, boolK_false, add1 (show i ≤ 1000000 by omega), optK_mk]
  exact ⟨_, by omega, i + 1, rfl, rfl, by omega, rfl⟩
theorem SameA_in {r : Rt} (h : RtAt s r p q m) (h' : RtAt s r p' q' m') (hr : r.ok) (hK : ∀ s', Sub s s' → K (.bool true) s') : wpCall Tryd.prog XX 60 [.agg (r.A p q m), .agg (r.A p' q' m')] K s := by
  obtain ⟨_, l1, l2, l3⟩ := hr
  refine vc_leafmeshkit_SameAttrs_in ⟨h.oneA, new_step fun b s1 hb h1 u1 => ⟨h'.oneA, new_step fun g s2 hg h2 u2 => ?_⟩⟩
  have sub1 := u1.sub hb
  have sub2 := u2.sub hg
  have sub02 := sub1.trans sub2
  have hb2 := sub2 _ _ h1
  have z := h.sub sub02
  have z' := h'.sub sub02
  have a0 : rd1 s2 (.ptr b 0) = some (.int .i64 r.og) := by rw [rd1_mk hb2]; rfl
  have a1 : rd1 s2 (.ptr b 1) = some (p) := by rw [rd1_mk hb2]; rfl
  have a2 : rd1 s2 (.ptr b 2) = some (.int .u32 r.nx) := by rw [rd1_mk hb2]; rfl
  have a3 : rd1 s2 (.ptr b 3) = some (.bool r.hm) := by rw [rd1_mk hb2]; rfl
  have a4 : rd1 s2 (.ptr b 4) = some (.int .u32 r.md) := by rw [rd1_mk hb2]; rfl
  have a5 : rd1 s2 (.ptr b 5) = some (.bool r.hp) := by rw [rd1_mk hb2]; rfl
  have a6 : rd1 s2 (.ptr b 6) = some (.int .u32 r.pf) := by rw [rd1_mk hb2]; rfl
  have a7 : rd1 s2 (.ptr b 7) = some (.bool r.ho) := by rw [rd1_mk hb2]; rfl
  have a8 : rd1 s2 (.ptr b 8) = some (.int .u32 r.orr) := by rw [rd1_mk hb2]; rfl
  have a9 : rd1 s2 (.ptr b 9) = some (q) := by rw [rd1_mk hb2]; rfl
  have a10 : rd1 s2 (.ptr b 10) = some (m) := by rw [rd1_mk hb2]; rfl
  have a11 : rdN s2 4 (.ptr b 11) = some r.T := by simp only [rdN, hb2]; rfl
  have b0 : rd1 s2 (.ptr g 0) = some (.int .i64 r.og) := by rw [rd1_mk h2]; rfl
  have b1 : rd1 s2 (.ptr g 1) = some (p') := by rw [rd1_mk h2]; rfl
  have b2 : rd1 s2 (.ptr g 2) = some (.int .u32 r.nx) := by rw [rd1_mk h2]; rfl
  have b3 : rd1 s2 (.ptr g 3) = some (.bool r.hm) := by rw [rd1_mk h2]; rfl
  have b4 : rd1 s2 (.ptr g 4) = some (.int .u32 r.md) := by rw [rd1_mk h2]; rfl
  have b5 : rd1 s2 (.ptr g 5) = some (.bool r.hp) := by rw [rd1_mk h2]; rfl
  have b6 : rd1 s2 (.ptr g 6) = some (.int .u32 r.pf) := by rw [rd1_mk h2]; rfl
  have b7 : rd1 s2 (.ptr g 7) = some (.bool r.ho) := by rw [rd1_mk h2]; rfl
  have b8 : rd1 s2 (.ptr g 8) = some (.int .u32 r.orr) := by rw [rd1_mk h2]; rfl
  have b9 : rd1 s2 (.ptr g 9) = some (q') := by rw [rd1_mk h2]; rfl
  have b10 : rd1 s2 (.ptr g 10) = some (m') := by rw [rd1_mk h2]; rfl
  have b11 : rdN s2 4 (.ptr g 11) = some r.T := by simp only [rdN, h2]; rfl
  have fin := hK s2 sub02
  simp only [addOff_ptr, Nat.zero_add, a0, b0, a1, b1, eqV_int, beq_self_eq_true, negB_mk, Bool.false_bne, boolK_true, optK_mk]
  refine SameU_in z.pa z'.pa (by omega) ?_
  simp only [vc_leafmeshkit_SameAttrs_j0, vc_leafmeshkit_SameAttrs_j1, vc_leafmeshkit_SameAttrs_j2, vc_leafmeshkit_SameAttrs_j3, vc_leafmeshkit_SameAttrs_j4, vc_leafmeshkit_SameAttrs_j5, vc_leafmeshkit_SameAttrs_j6, pickV_true, addOff_ptr, Nat.zero_add, a0, b0, a1, b1, a2, b2, a3, b3, a4, b4, a5, b5, a6, b6, a7, b7, a8, b8, a9, b9, a10, b10, a11, b11, eqV_int, eqV_b, beq_self_eq_true, negB_mk, Bool.false_bne, boolK_true, optK_mk]
  simp only [vc_leafmeshkit_SameAttrs_j7, pickV_true, addOff_ptr, Nat.zero_add, a9, b9, boolK_true, optK_mk]
  refine SameP_in z.cl z'.cl (by omega) ?_
  simp only [vc_leafmeshkit_SameAttrs_j8, pickV_true, addOff_ptr, Nat.zero_add, a10, b10, boolK_true, optK_mk]
  refine SameC_in z.cm z'.cm (by omega) ?_
  simp only [vc_leafmeshkit_SameAttrs_j9, vc_leafmeshkit_SameAttrs_j10, pickV_true, addOff_ptr, Nat.zero_add, a11, b11, eqTun, negB_mk, Bool.false_bne, boolK_true, optK_mk]
  exact fin
theorem SameR_in {r : Rt} (h : RtAt s r p q m) (h' : RtAt s r p' q' m') (hr : r.ok) (hK : ∀ s', Sub s s' → K (.bool true) s') : wpCall Tryd.prog XX 39 [.agg (r.row p q m), .agg (r.row p' q' m')] K s := by
  refine vc_leafmeshkit_SameRoute_in ⟨h.one, new_step fun b s1 hb h1 u1 => ⟨h'.one, new_step fun g s2 hg h2 u2 => ?_⟩⟩
  have sub1 := u1.sub hb
  have sub2 := u2.sub hg
  have sub02 := sub1.trans sub2
  have hb2 := sub2 _ _ h1
  have a0 : rdN s2 21 (.ptr b 0) = some r.N := by simp only [rdN, hb2]; rfl
  have b0 : rdN s2 21 (.ptr g 0) = some r.N := by simp only [rdN, h2]; rfl
  have a1 : rdN s2 15 (.ptr b 21) = some (r.A p q m) := by simp only [rdN, hb2]; rfl
  have b1 : rdN s2 15 (.ptr g 21) = some (r.A p' q' m') := by simp only [rdN, h2]; rfl
  simp only [addOff_ptr, Nat.zero_add, a0, b0, a1, b1, eqNLRI, negB_mk, Bool.false_bne, boolK_true, optK_mk]
  refine SameA_in (h.sub sub02) (h'.sub sub02) hr fun s3 sub3 => ?_
  have hb3 := sub3 _ _ hb2
  have h3 := sub3 _ _ h2
  have a2 : rd1 s3 (.ptr b 36) = some (.int .u32 r.pe) := by rw [rd1_mk hb3]; rfl
  have b2 : rd1 s3 (.ptr g 36) = some (.int .u32 r.pe) := by rw [rd1_mk h3]; rfl
  have a3 : rd1 s3 (.ptr b 37) = some (.bool r.st) := by rw [rd1_mk hb3]; rfl
  have b3 : rd1 s3 (.ptr g 37) = some (.bool r.st) := by rw [rd1_mk h3]; rfl
  simp only [vc_leafmeshkit_SameRoute_j0, vc_leafmeshkit_SameRoute_j1, vc_leafmeshkit_SameRoute_j2, pickV_true, addOff_ptr, Nat.zero_add, a2, b2, a3, b3, eqV_int, eqV_b, beq_self_eq_true, negB_mk, Bool.false_bne, boolK_true, optK_mk]
  exact hK s3 (sub02.trans sub3)
def SrsI (s0 : Heap) (n : Nat) : List AVal → Heap → Nat → Prop := fun ys t m =>
  ∃ i : Nat, ys = [.int .i64 (i : Int)] ∧ Sub s0 t ∧ i ≤ n ∧ m = n - i
theorem SameRs_in (h : Rts s v R) (h' : Rts s w R) (hok : ∀ r ∈ R, r.ok) (hl : R.length ≤ 1000) (hK : ∀ s', Sub s s' → K (.bool true) s') : wpCall Tryd.prog XX 14 [v, w] K s := by
  refine vc_leafmeshkit_SameRoutes_in ?_
  simp only [vc_leafmeshkit_SameRoutes, h.len, h'.len, eqV_int, beq_self_eq_true, negB_mk, Bool.true_bne, Bool.not_true, boolK_false, optK_mk]
  refine ⟨SrsI s R.length, ⟨_, 0, rfl, .refl _, by omega, rfl⟩, ?_⟩
  rintro e t m ⟨i, hy, st, hi, rfl⟩
  simp only [List.cons.injEq, and_true] at hy
  rw [hy]
  simp only [vc_leafmeshkit_SameRoutes_l0, (h.sub st).len, arith_lss, optK_mk]
  refine boolK_mk (fun hlt => ?_) (fun _ => hK t st)
  have hlt : i < R.length := by have := of_decide_eq_true hlt; omega
  obtain ⟨r, hri⟩ : ∃ r, R[i]? = some r := ⟨_, List.getElem?_eq_getElem hlt⟩
  obtain ⟨b, o, p, q, m, e1, e2, _, e4⟩ := (h.sub st).get hri
  obtain ⟨b', o', p', q', m', f1, f2, _, f4⟩ := (h'.sub st).get hri
  simp only [e1, e2, f1, f2, optK_mk]
  refine SameR_in e4 f4 (hok r (List.mem_of_getElem? hri)) fun s2 sub2 => ?_
  simp only [unary_not, Bool.not_true, boolK_false, add1 (show i ≤ 1000000 by omega), optK_mk]
  exact ⟨_, by omega, i + 1, rfl, st.trans sub2, by omega, rfl⟩
end Go.AM.SG
namespace Go.AM.SG
open Go Go.AM Go.Proofs
variable {K : AVal → Heap → Prop} {s s' s0 t : Heap} {v w p q m p' q' m' : AVal} {R : List Rt}
/-! ### are there too many routes? -/
def ManI (t0 : Heap) (R : List Rt) : List AVal → Heap → Nat → Prop := fun ys t m =>
  ∃ i : Nat, ys = [.int .i64 (i : Int)] ∧ t = t0 ∧ i ≤ R.length ∧ (∀ r ∈ R.take i, r.path.length ≤ 20 ∧ r.cl.length ≤ 20 ∧ r.cm.length ≤ 20) ∧ m = R.length - i
theorem many_in (h : Rts s v R) (hT : K (.bool true) s) (hF : R.length ≤ 60 → (∀ r ∈ R, r.path.length ≤ 20 ∧ r.cl.length ≤ 20 ∧ r.cm.length ≤ 20) → K (.bool false) s) : wpCall Tryd.prog XX 5 [v] K s := by
  refine vc_leafmeshkit_ManyRoutes_in ?_
  simp only [vc_leafmeshkit_ManyRoutes, h.len, arith_gtr, optK_mk]
  refine boolK_mk (fun _ => hT) (fun hn => ?_)
  have hn : R.length ≤ 60 := by have := of_decide_eq_false hn; omega
  refine ⟨ManI s R, ⟨_, 0, rfl, rfl, by omega, by simp, rfl⟩, ?_⟩
  rintro e t m ⟨i, hy, rfl, hi, hd, rfl⟩
  simp only [List.cons.injEq, and_true] at hy
  rw [hy]
  simp only [vc_leafmeshkit_ManyRoutes_l0, h.len, arith_lss, optK_mk]
  refine boolK_mk (fun hlt => ?_) (fun hge => ?_)
  rotate_left
  · have : i = R.length := by have := of_decide_eq_false hge; omega
    rw [this, List.take_length] at hd
    exact hF hn hd
  have hlt : i < R.length := by have := of_decide_eq_true hlt; omega
  obtain ⟨r, hri⟩ : ∃ r, R[i]? = some r := ⟨_, List.getElem?_eq_getElem hlt⟩
  obtain ⟨b, o, p, q, m, e1, _, e3, e4⟩ := h.get hri
  have r22 : rd1 t (.ptr b (o + 22)) = some p := e3 22 (by omega)
  have r30 : rd1 t (.ptr b (o + 30)) = some q := e3 30 (by omega)
  have r31 : rd1 t (.ptr b (o + 31)) = some m := e3 31 (by omega)
  have nx : (r.path.length ≤ 20 ∧ r.cl.length ≤ 20 ∧ r.cm.length ≤ 20) → optK (arithV .add (.int .i64 (i : Int)) (.int .i64 1)) fun v_15 => ∃ m', m' < R.length - i ∧ ManI t R [v_15] t m' := fun hr => by
    simp only [add1 (show i ≤ 1000000 by omega), optK_mk]
    refine ⟨_, by omega, i + 1, rfl, rfl, by omega, fun x hx => ?_, rfl⟩
    rw [List.take_add_one, hri] at hx
    rcases List.mem_append.1 hx with z | z
    · exact hd x z
    · have : x = r := by simpa using z
      rw [this]; exact hr
  simp only [e1, addOff_ptr, Nat.add_assoc, Nat.reduceAdd, r22, r30, r31, e4.pa.len, e4.cl.len, e4.cm.len, List.length_map, arith_gtr, optK_mk]
  refine boolK_mk (fun h1 => ?_) (fun h1 => ?_)
  · simp only [vc_leafmeshkit_ManyRoutes_j1, h1, pickV_true, boolK_true, optK_mk, vc_leafmeshkit_ManyRoutes_j2]
    exact hT
  have k1 : r.path.length ≤ 20 := by have := of_decide_eq_false h1; omega
  simp only [vc_leafmeshkit_ManyRoutes_j1, h1, pickV_false, optK_mk]
  refine boolK_mk (fun h2 => ?_) (fun h2 => ?_)
  · simp only [h2, vc_leafmeshkit_ManyRoutes_j2, pickV_true, boolK_true, optK_mk]
    exact hT
  have k2 : r.cl.length ≤ 20 := by have := of_decide_eq_false h2; omega
  simp only [e1, addOff_ptr, Nat.add_assoc, Nat.reduceAdd, r31, e4.cm.len, List.length_map, arith_gtr, optK_mk, vc_leafmeshkit_ManyRoutes_j2, h2, pickV_false]
  refine boolK_mk (fun _ => hT) (fun h3 => ?_)
  exact nx ⟨k1, k2, by have := of_decide_eq_false h3; omega⟩
/-! ### candidates (no program in sight) -/
abbrev Qr := Int × Nat × Nat × Bool
def cds (q : List Qr) : List Cd := q.map fun x => (x.1, (x.2.2.1 : Int))
theorem cds_app {q q' : List Qr} : cds (q ++ q') = cds q ++ cds q' := by simp [cds]
theorem cds_len {q : List Qr} : (cds q).length = q.length := by simp [cds]
/-- the program's algorithm, and whether all agreed -/
def pA : List Qr → Nat
  | [] => 0
  | x :: _ => x.2.1
def pG (q : List Qr) : Bool := q.all fun x => x.2.2.2 && (x.2.1 == pA q)
theorem pA_app {q : List Qr} {x : Qr} : pA (q ++ [x]) = if q = [] then x.2.1 else pA q := by
  cases q <;> rfl
theorem pG_app {q : List Qr} {x : Qr} : pG (q ++ [x]) = (pG q && x.2.2.2 && (x.2.1 == pA (q ++ [x]))) := by
  unfold pG
  cases q with
  | nil => simp [pA]
  | cons y q =>
    have e : pA (y :: q ++ [x]) = pA (y :: q) := rfl
    rw [e, List.all_append, Bool.and_assoc]
    simp
def fin3 (g : Bool) (a : Int) : Int := if g = false ∨ a < 0 ∨ 3 ≤ a then 0 else a
/-- the reference's -/
def rS (q : List Qr) : Int × Bool := q.foldl (fun st x => ((x.2.1 : Int), if x.2.2.2 = false ∨ (0 ≤ st.1 ∧ (x.2.1 : Int) ≠ st.1) then false else st.2)) (-1, true)
theorem rS_app {q : List Qr} {x : Qr} : rS (q ++ [x]) = ((x.2.1 : Int), if x.2.2.2 = false ∨ (0 ≤ (rS q).1 ∧ (x.2.1 : Int) ≠ (rS q).1) then false else (rS q).2) := by simp [rS, List.foldl_append]
theorem both (q : List Qr) : (q = [] ∧ rS q = (-1, true)) ∨ (q ≠ [] ∧ 0 ≤ (rS q).1 ∧ (rS q).2 = pG q ∧ (pG q = true → (rS q).1 = (pA q : Int))) := by
  have key : ∀ (n : Nat) (q : List Qr), q.length = n → (q = [] ∧ rS q = (-1, true)) ∨ (q ≠ [] ∧ 0 ≤ (rS q).1 ∧ (rS q).2 = pG q ∧ (pG q = true → (rS q).1 = (pA q : Int))) := by
    intro n
    induction n with
    | zero => intro q hq; left; rw [List.eq_nil_of_length_eq_zero hq]; exact ⟨rfl, rfl⟩
    | succ n ih =>
      intro q hq
      right
      obtain ⟨q', x, rfl⟩ : ∃ q' x, q = q' ++ [x] := ⟨q.dropLast, q.getLast (by intro e; rw [e] at hq; simp at hq), (List.dropLast_concat_getLast _).symm⟩
      have hl : q'.length = n := by simpa using hq
      rw [rS_app, pG_app, pA_app]
      refine ⟨by simp, by simp, ?_⟩
      rcases ih q' hl with ⟨h1, h2⟩ | ⟨h1, h2, h3, h4⟩
      · subst h1
        rw [h2]
        cases x.2.2.2 <;> simp [pG]
      · rw [if_neg h1]
        simp only
        cases hf : x.2.2.2 with
        | false => simp
        | true =>
          cases hg : pG q' with
          | false => simp [h3, hg]
          | true =>
            have h4 := h4 hg
            rw [h4] at h2 ⊢
            by_cases e : x.2.1 = pA q'
            · simp [e, h3, hg]
            · have e' : ¬ ((x.2.1 : Int) = (pA q' : Int)) := by omega
              simp [e, e', h2]
  exact key q.length q rfl
theorem fin_eq (q : List Qr) : fin3 (pG q) (pA q) = fin3 (rS q).2 (rS q).1 := by
  rcases both q with ⟨h1, h2⟩ | ⟨h1, h2, h3, h4⟩
  · subst h1; rw [h2]; rfl
  · unfold fin3
    rw [h3]
    cases hg : pG q with
    | false => simp
    | true => rw [h4 hg]
/-- the routes about a segment -/
def qs (P : Program) (x : Es) (R : List Rt) : List Qr := (R.filter (abt P x)).map fun r => (r.nx, elN r.cm)
theorem qs_step {P : Program} {x : Es} {i : Nat} {r : Rt} (h : R[i]? = some r) : qs P x (R.take (i + 1)) = qs P x (R.take i) ++ (if abt P x r = true then [(r.nx, elN r.cm)] else []) := by
  unfold qs
  rw [List.take_add_one, h, List.filter_append, List.map_append]
  congr 1
  cases e : abt P x r <;> simp [e]
theorem qs_len {P : Program} {x : Es} : (qs P x R).length ≤ R.length := by
  unfold qs
  rw [List.length_map]
  exact List.length_filter_le _ _
end Go.AM.SG
namespace Go.AM.SG
open Go Go.AM Go.Proofs
variable {K : AVal → Heap → Prop} {s s' s0 t : Heap} {v w p q m p' q' m' : AVal} {R : List Rt} {x : Es}
/-! ### the candidates of a segment -/
theorem algs_in (hK : ∀ v s', Sub s s' → K v s') : wpCall Tryd.prog XX 34 [] K s := by
  refine vc_segment_algorithms_in (new_step fun b s1 hb h1 u1 => ?_)
  refine optK_of (a := [.fn (.func 50) [] [], .fn (.func 51) [] [], .fn (.func 54) [] []]) rfl ?_
  refine wrAgg_step h1 rfl rfl rfl fun s2 h2 u2 => ?_
  have r1 : rdN s2 3 (.ptr b 0) = some [.fn (.func 50) [] [], .fn (.func 51) [] [], .fn (.func 54) [] []] := rdN_all h2 rfl
  simp only [r1, optK_mk]
  refine hK _ s2 fun i e hi => ?_
  have ne := ne_of_some hb hi
  rw [u2 i ne, u1 i ne]; exact hi
theorem fill_cd {n : Int} {k : Nat} {Q : List AVal → Prop} (h : Q (cR (n, (k : Int)))) : optK (fillR [(.int .u32 0), (.int .i64 0)] [(0, 1, .int .u32 n), (1, 1, .int .i64 (k : Int))]) Q := optK_of (a := cR (n, (k : Int))) rfl h
def CanI (s1 : Heap) (R : List Rt) (x : Es) : List AVal → Heap → Nat → Prop := fun ys t m =>
  ∃ (i : Nat) (w : AVal), ys = [w, .int .i64 ((pA (qs Tryd.prog x (R.take i)) : Nat) : Int), .bool (pG (qs Tryd.prog x (R.take i))), .int .i64 (i : Int)] ∧ CL s1 t w (cds (qs Tryd.prog x (R.take i))) ∧ Sub s1 t ∧ i ≤ R.length ∧ m = R.length - i
theorem cand_in (h : Rts s v R) (hG : GlK s) (hok : ∀ r ∈ R, r.ok) (hl : R.length ≤ 100) (hK : ∀ v' s', Sub s s' → SlR 2 s' v' ((putAll (cds (qs Tryd.prog x R))).map cR) → K (.tup [v', .int .i64 (fin3 (pG (qs Tryd.prog x R)) (pA (qs Tryd.prog x R)))]) s') : wpCall Tryd.prog XX 8 [v, .agg x.R] K s := by
  refine vc_segment_Candidates_in ⟨rfl, new_step fun eb s1 heb h1 u1 => ?_⟩
  have sub1 := u1.sub heb
  have h := h.sub sub1
  have hG := hG.sub sub1
  simp only [h.len, optK_mk]
  refine ⟨CanI s1 R x, ⟨_, 0, _, rfl, ⟨(fun r h => by cases h), .inl ⟨rfl, rfl⟩⟩, .refl _, by omega, rfl⟩, ?_⟩
  rintro e t m ⟨i, w, hy, cl, st, hi, rfl⟩
  simp only [List.cons.injEq, and_true] at hy
  rw [hy.1, hy.2.1, hy.2.2.1, hy.2.2.2]
  clear hy
  generalize hq : qs Tryd.prog x (R.take i) = q at *
  have hql : q.length ≤ i := by
    have := qs_len (R := R.take i) (P := Tryd.prog) (x := x)
    rw [hq, List.length_take] at this
    omega
  have hcl : (cds q).length ≤ 100 := by rw [cds_len]; omega
  simp only [vc_segment_Candidates_l0, arith_lss, optK_mk]
  refine boolK_mk (fun hlt => ?_) (fun hge => ?_)
  rotate_left
  · have : i = R.length := by have := of_decide_eq_false hge; omega
    rw [this, List.take_length] at hq
    rw [hq] at hK
    refine sortS_in cl st (by omega) fun s2 l2 cl2 st2 e2 srt stb => ?_
    refine compactF_in cl2 st2 (by omega) fun v3 s3 h3 st3 => ?_
    rw [rdG_put srt stb] at h3
    have fin := hK v3
    unfold fin3 at fin
    cases hg : pG q with
    | false =>
      rw [hg] at fin
      simp only [unary_not, Bool.not_false, boolK_true, vc_segment_Candidates_j5, vc_segment_Candidates_j6, vc_segment_Candidates_j7, pickV_true, optK_mk]
      have := fin s3 (sub1.trans st3) h3
      rw [if_pos (.inl rfl)] at this
      exact this
    | true =>
      rw [hg] at fin
      have c1 : decide (((pA q : Nat) : Int) < 0) = false := decide_eq_false (by omega)
      simp only [unary_not, Bool.not_true, boolK_false, arith_lss, c1, vc_segment_Candidates_j5, pickV_false, optK_mk]
      refine algs_in fun v4 s4 sub4 => ?_
      simp only [arith_geq, vc_segment_Candidates_j6, pickV_false, optK_mk]
      have := fin s4 ((sub1.trans st3).trans sub4) (h3.sub sub4)
      refine boolK_mk (fun c => ?_) (fun c => ?_)
      · have c := of_decide_eq_true c
        rw [if_pos (.inr (.inr c))] at this
        exact this
      · have c := of_decide_eq_false c
        rw [if_neg (by rintro (z | z | z); cases z; omega; exact c z)] at this
        exact this
  have hlt : i < R.length := by have := of_decide_eq_true hlt; omega
  obtain ⟨r, hri⟩ : ∃ r, R[i]? = some r := ⟨_, List.getElem?_eq_getElem hlt⟩
  have hrm := List.mem_of_getElem? hri
  have step := qs_step (P := Tryd.prog) (x := x) hri
  rw [hq] at step
  obtain ⟨b, o, p, pq, m, e1, e2, _, e4⟩ := (h.sub st).get hri
  simp only [e1, e2, optK_mk]
  refine new_step fun g s2 hg h2 u2 => ?_
  refine wrAgg_step h2 rfl rfl e4.one fun s3 h3 u3 => ?_
  have sub3 : Sub t s3 := fun j e hj => by
    have ne := ne_of_some hg hj
    rw [u3 j ne, u2 j ne]; exact hj
  have r3 : rdN s3 38 (.ptr g 0) = some (r.row p pq m) := rdN_all h3 rfl
  have r4 : rdN s3 10 (.ptr eb 0) = some x.R := rdN_all ((st.trans sub3) _ _ h1) rfl
  simp only [r3, r4, optK_mk]
  refine about_in (e4.sub sub3) fun s4 sub4 => ?_
  have st4 := (st.trans sub3).trans sub4
  have sub34 := sub3.trans sub4
  have hg4 := sub4 _ _ h3
  have next : ∀ t5 w5 q5, Sub s1 t5 → CL s1 t5 w5 (cds q5) → q5 = qs Tryd.prog x (R.take (i + 1)) → vc_segment_Candidates_j1 XX w5 (.int .i64 ((pA q5 : Nat) : Int)) (.bool (pG q5)) (.int .i64 (i : Int)) (CanI s1 R x) (R.length - i) K t5 := fun t5 w5 q5 z1 z2 z3 => by
    simp only [vc_segment_Candidates_j1, add1 (show i ≤ 1000000 by omega), optK_mk]
    refine ⟨_, by omega, i + 1, w5, by rw [z3], by rw [← z3]; exact z2, z1, by omega, rfl⟩
  simp only [unary_not, optK_mk]
  cases ha : abt Tryd.prog x r with
  | false =>
    rw [ha] at step
    simp only [Bool.not_false, boolK_true]
    refine next s4 w q st4 (cl.sub sub34) ?_
    rw [step]; simp
  | true =>
    rw [ha, if_pos rfl] at step
    have r5 : rd1 s4 (.ptr g 31) = some m := by rw [rd1_mk hg4]; rfl
    simp only [Bool.not_true, boolK_false, addOff_ptr, Nat.zero_add, Nat.reduceAdd, r5, optK_mk]
    refine elect_in (e4.cm.sub sub34) (hG.sub st4) (hok r hrm).1 (by have := (hok r hrm).2.2.2; omega) fun s5 sub5 => ?_
    have x0 : ∀ x y z : AVal, extractA (.tup [x, y, z]) 0 = some x := fun _ _ _ => rfl
    have x1 : ∀ x y z : AVal, extractA (.tup [x, y, z]) 1 = some y := fun _ _ _ => rfl
    have x2 : ∀ x y z : AVal, extractA (.tup [x, y, z]) 2 = some z := fun _ _ _ => rfl
    have st5 := st4.trans sub5
    have sub35 := sub34.trans sub5
    have hg5 := sub5 _ _ hg4
    have cl5 := cl.sub sub35
    generalize elN r.cm = E at *
    obtain ⟨a, pr, fo⟩ := E
    simp only [x0, x1, x2, cl5.sl.len, List.length_map, cds_len, eqV_int, negB_mk, Bool.false_bne, optK_mk]
    have j4 : ∀ t40 t43, pickV t40 t43 (.bool false) = some (.bool (pG (q ++ [(r.nx, a, pr, fo)]))) → vc_segment_Candidates_j4 XX w (.int .i64 ((pA (q ++ [(r.nx, a, pr, fo)]) : Nat) : Int)) (.ptr g 0) (.int .i64 (pr : Int)) (.int .i64 (i : Int)) t40 t43 (CanI s1 R x) (R.length - i) K s5 := fun t40 t43 hp => by
      have r6 : rd1 s5 (.ptr g 23) = some (.int .u32 r.nx) := by rw [rd1_mk hg5]; rfl
      simp only [vc_segment_Candidates_j4, hp, addOff_ptr, Nat.zero_add, Nat.reduceAdd, r6, optK_mk]
      refine fill_cd (optK_of (fill_one (zs := [(.int .u32 0), (.int .i64 0)]) (c := cR (r.nx, (pr : Int))) rfl) ⟨rfl, new_step fun d s6 hd h6 u6 => ?_⟩)
      have sub6 := u6.sub hd
      refine (cl5.sub sub6).app (SlR.mk (rows := [cR (r.nx, (pr : Int))]) (by intro r' hr; rw [List.mem_singleton] at hr; subst hr; rfl) (by simpa using h6) rfl (by simp)) (by simp) (by rw [List.length_map]; simp only [List.length_singleton]; omega) (st5.trans sub6) fun v7 s7 a7 k7 => ?_
      refine next s7 v7 _ k7 ?_ (by rw [step])
      have : (cds (q ++ [(r.nx, a, pr, fo)])).map cR = (cds q).map cR ++ [cR (r.nx, (pr : Int))] := by rw [cds_app, List.map_append]; rfl
      show AccR 35 2 s1 s7 v7 _
      rw [this]
      exact a7
    have j2 : ∀ al : Nat, al = pA (q ++ [(r.nx, a, pr, fo)]) → vc_segment_Candidates_j2 XX w (.int .i64 (al : Int)) (.bool (pG q)) (.ptr g 0) (.int .i64 (a : Int)) (.int .i64 (pr : Int)) (.bool fo) (.int .i64 (i : Int)) (CanI s1 R x) (R.length - i) K s5 := fun al hal => by
      have hpg := pG_app (q := q) (x := (r.nx, a, pr, fo))
      subst hal
      cases hgq : pG q with
      | false =>
        simp only [vc_segment_Candidates_j2, boolK_false, vc_segment_Candidates_j3, pickV_false, optK_mk]
        exact j4 _ _ (by rw [hpg, hgq]; rfl)
      | true =>
        cases fo with
        | false =>
          simp only [vc_segment_Candidates_j2, boolK_true, boolK_false, vc_segment_Candidates_j3, pickV_true, optK_mk]
          exact j4 _ _ (by rw [hpg, hgq]; rfl)
        | true =>
          simp only [vc_segment_Candidates_j2, boolK_true, vc_segment_Candidates_j3, pickV_true, eqV_int, negB_mk, Bool.false_bne, optK_mk]
          refine j4 _ _ ?_
          rw [hpg, hgq]
          simp only [pickV_true, Bool.true_and]
          congr 2
          rw [Bool.eq_iff_iff]
          simp only [beq_iff_eq]
          omega
    have hpa := pA_app (q := q) (x := (r.nx, a, pr, fo))
    refine boolK_mk (fun hz => ?_) (fun hz => ?_)
    · have : q = [] := List.eq_nil_of_length_eq_zero (by have := eq_of_beq hz; omega)
      rw [if_pos this] at hpa
      exact j2 a hpa.symm
    · have : q ≠ [] := fun e => by rw [e] at hz; cases hz
      rw [if_neg this] at hpa
      exact j2 (pA q) hpa.symm
end Go.AM.SG
namespace Go.AM.SG
open Go Go.AM Go.Proofs
variable {K : AVal → Heap → Prop} {s s' s0 t : Heap} {v w p q m p' q' m' : AVal} {R : List Rt} {x : Es}
/-! ### the reference's candidates -/
theorem putL_len {o : List Cd} {c : Cd} : (putL o c).length ≤ o.length + 1 := by
  unfold putL
  split
  · omega
  · simp only [List.length_append, List.length_cons, List.length_take, List.length_drop]; omega
theorem putAll_snoc {l : List Cd} {c : Cd} : putAll (l ++ [c]) = putL (putAll l) c := by simp [putAll, List.foldl_append]
theorem putAll_len (l : List Cd) : (putAll l).length ≤ l.length := by
  have key : ∀ (l o : List Cd), (l.foldl putL o).length ≤ o.length + l.length := by
    intro l
    induction l with
    | nil => intro o; simp
    | cons c l ih =>
      intro o
      have h1 := ih (putL o c)
      have h2 := putL_len (o := o) (c := c)
      rw [List.foldl_cons, List.length_cons]
      omega
  have := key l []
  simp only [List.length_nil, Nat.zero_add] at this
  exact this
def RCanI (s1 : Heap) (R : List Rt) (x : Es) : List AVal → Heap → Nat → Prop := fun ys t m =>
  ∃ (i : Nat) (w : AVal), ys = [w, .int .i64 (rS (qs Tryd.prog x (R.take i))).1, .bool (rS (qs Tryd.prog x (R.take i))).2, .int .i64 (i : Int)] ∧ SlR 2 t w ((putAll (cds (qs Tryd.prog x (R.take i)))).map cR) ∧ Sub s1 t ∧ i ≤ R.length ∧ m = R.length - i
theorem rcand_in (h : Rts s v R) (hok : ∀ r ∈ R, r.ok) (hl : R.length ≤ 100) (hK : ∀ v' s', Sub s s' → SlR 2 s' v' ((putAll (cds (qs Tryd.prog x R))).map cR) → K (.tup [v', .int .i64 (fin3 (rS (qs Tryd.prog x R)).2 (rS (qs Tryd.prog x R)).1)]) s') : wpCall Tryd.prog XX 9 [v, .agg x.R] K s := by
  refine vc_leafmeshref25_Candidates_in ⟨rfl, new_step fun eb s1 heb h1 u1 => ?_⟩
  have sub1 := u1.sub heb
  have h := h.sub sub1
  refine ⟨RCanI s1 R x, ⟨_, 0, _, rfl, ⟨(fun r h => by cases h), .inl ⟨rfl, rfl⟩⟩, .refl _, by omega, rfl⟩, ?_⟩
  rintro e t m ⟨i, w, hy, sl, st, hi, rfl⟩
  simp only [List.cons.injEq, and_true] at hy
  rw [hy.1, hy.2.1, hy.2.2.1, hy.2.2.2]
  clear hy
  generalize hq : qs Tryd.prog x (R.take i) = q at *
  have hql : q.length ≤ i := by
    have := qs_len (R := R.take i) (P := Tryd.prog) (x := x)
    rw [hq, List.length_take] at this
    omega
  have hpl := putAll_len (cds q)
  rw [cds_len] at hpl
  simp only [vc_leafmeshref25_Candidates_l0, (h.sub st).len, arith_lss, optK_mk]
  refine boolK_mk (fun hlt => ?_) (fun hge => ?_)
  rotate_left
  · have : i = R.length := by have := of_decide_eq_false hge; omega
    rw [this, List.take_length] at hq
    rw [hq] at hK
    have fin := hK w t (sub1.trans st) sl
    unfold fin3 at fin
    cases hg : (rS q).2 with
    | false =>
      rw [hg, if_pos (.inl rfl)] at fin
      simp only [unary_not, Bool.not_false, boolK_true, vc_leafmeshref25_Candidates_j6, vc_leafmeshref25_Candidates_j7, pickV_true, optK_mk]
      exact fin
    | true =>
      rw [hg] at fin
      simp only [unary_not, Bool.not_true, boolK_false, arith_lss, vc_leafmeshref25_Candidates_j6, pickV_false, optK_mk]
      refine boolK_mk (fun c => ?_) (fun c => ?_)
      · rw [if_pos (.inr (.inl (of_decide_eq_true c)))] at fin
        simp only [c, vc_leafmeshref25_Candidates_j7, pickV_true, boolK_true, optK_mk]
        exact fin
      · have c' := of_decide_eq_false c
        simp only [c, arith_gtr, vc_leafmeshref25_Candidates_j7, pickV_false, optK_mk]
        refine boolK_mk (fun d => ?_) (fun d => ?_)
        · have d := of_decide_eq_true d
          rw [if_pos (.inr (.inr (by omega)))] at fin
          exact fin
        · have d := of_decide_eq_false d
          rw [if_neg (by rintro (z | z | z); cases z; omega; omega)] at fin
          exact fin
  have hlt : i < R.length := by have := of_decide_eq_true hlt; omega
  obtain ⟨r, hri⟩ : ∃ r, R[i]? = some r := ⟨_, List.getElem?_eq_getElem hlt⟩
  have hrm := List.mem_of_getElem? hri
  have step := qs_step (P := Tryd.prog) (x := x) hri
  rw [hq] at step
  obtain ⟨b, o, p, pq, m, e1, e2, _, e4⟩ := (h.sub st).get hri
  simp only [e1, e2, optK_mk]
  refine new_step fun g s2 hg h2 u2 => ?_
  refine wrAgg_step h2 rfl rfl e4.one fun s3 h3 u3 => ?_
  have sub3 : Sub t s3 := fun j e hj => by
    have ne := ne_of_some hg hj
    rw [u3 j ne, u2 j ne]; exact hj
  have st3 := st.trans sub3
  have r0 : rd1 s3 (.ptr g 0) = some (.int .i64 r.kd) := by rw [rd1_mk h3]; rfl
  have r3 : rdN s3 10 (.ptr g 2) = some r.es.R := by simp only [rdN, h3]; rfl
  have r4 : rdN s3 10 (.ptr eb 0) = some x.R := rdN_all (st3 _ _ h1) rfl
  have next : ∀ t5 w5 q5, Sub s1 t5 → SlR 2 t5 w5 ((putAll (cds q5)).map cR) → q5 = qs Tryd.prog x (R.take (i + 1)) → vc_leafmeshref25_Candidates_j1 XX w5 (.int .i64 (rS q5).1) (.bool (rS q5).2) (.int .i64 (i : Int)) (RCanI s1 R x) (R.length - i) K t5 := fun t5 w5 q5 z1 z2 z3 => by
    simp only [vc_leafmeshref25_Candidates_j1, add1 (show i ≤ 1000000 by omega), optK_mk]
    refine ⟨_, by omega, i + 1, w5, by rw [z3], by rw [← z3]; exact z2, z1, by omega, rfl⟩
  -- whether it is about the segment
  have j2 : ∀ t28 t33, pickV t28 (.bool true) t33 = some (.bool (!abt Tryd.prog x r)) → vc_leafmeshref25_Candidates_j2 XX w (.int .i64 (rS q).1) (.bool (rS q).2) (.int .i64 (i : Int)) (.ptr g 0) t28 t33 (RCanI s1 R x) (R.length - i) K s3 := fun t28 t33 hp => by
    simp only [vc_leafmeshref25_Candidates_j2, hp, optK_mk]
    cases ha : abt Tryd.prog x r with
    | false =>
      rw [ha] at step
      simp only [Bool.not_false, boolK_true]
      refine next s3 w q st3 (sl.sub sub3) ?_
      rw [step]; simp
    | true =>
      rw [ha, if_pos rfl] at step
      have r5 : rd1 s3 (.ptr g 31) = some m := by rw [rd1_mk h3]; rfl
      simp only [Bool.not_true, boolK_false, addOff_ptr, Nat.zero_add, Nat.reduceAdd, r5, optK_mk]
      refine relect_in (e4.cm.sub sub3) (hok r hrm).1 (by have := (hok r hrm).2.2.2; omega) fun s5 sub5 => ?_
      have x0 : ∀ x y z : AVal, extractA (.tup [x, y, z]) 0 = some x := fun _ _ _ => rfl
      have x1 : ∀ x y z : AVal, extractA (.tup [x, y, z]) 1 = some y := fun _ _ _ => rfl
      have x2 : ∀ x y z : AVal, extractA (.tup [x, y, z]) 2 = some z := fun _ _ _ => rfl
      have st5 := st3.trans sub5
      have hg5 := sub5 _ _ h3
      have sl5 := (sl.sub sub3).sub sub5
      generalize elN r.cm = E at *
      obtain ⟨a, pr, fo⟩ := E
      have r6 : rd1 s5 (.ptr g 23) = some (.int .u32 r.nx) := by rw [rd1_mk hg5]; rfl
      have hrs := rS_app (q := q) (x := (r.nx, a, pr, fo))
      have tail : ∀ fl, fl = (rS (q ++ [(r.nx, a, pr, fo)])).2 → wpCall Tryd.prog XX 36 [w, (.agg (cR (r.nx, (pr : Int))))] (fun v_30 s_31 => vc_leafmeshref25_Candidates_j1 XX v_30 (.int .i64 (a : Int)) (.bool fl) (.int .i64 (i : Int)) (RCanI s1 R x) (R.length - i) K s_31) s5 := fun fl hfl => by
        refine put_in sl5 (putAll_ok _).srt (by omega) fun v6 s6 h6 sub6 => ?_
        have := next s6 v6 (q ++ [(r.nx, a, pr, fo)]) (st5.trans sub6) (by
          have : cds (q ++ [(r.nx, a, pr, fo)]) = cds q ++ [(r.nx, (pr : Int))] := cds_app
          rw [this, putAll_snoc]; exact h6) (by rw [step])
        rw [← hfl, hrs] at this
        exact this
      have j5 : ∀ fl, fl = (rS (q ++ [(r.nx, a, pr, fo)])).2 → vc_leafmeshref25_Candidates_j5 XX w (.bool fl) (.int .i64 (i : Int)) (.ptr g 0) (.int .i64 (a : Int)) (.int .i64 (pr : Int)) (RCanI s1 R x) (R.length - i) K s5 := fun fl hfl => by
        simp only [vc_leafmeshref25_Candidates_j5, addOff_ptr, Nat.zero_add, Nat.reduceAdd, r6, optK_mk]
        exact fill_cd (tail fl hfl)
      simp only [x0, x1, x2, unary_not, optK_mk]
      cases fo with
      | false =>
        simp only [Bool.not_false, boolK_true, pickV_true, optK_mk, vc_leafmeshref25_Candidates_j3, addOff_ptr, Nat.zero_add, Nat.reduceAdd, r6]
        refine fill_cd (tail false ?_)
        rw [hrs]; simp
      | true =>
        simp only [Bool.not_true, boolK_false, arith_geq, optK_mk]
        refine boolK_mk (fun c => ?_) (fun c => ?_)
        · have c' := of_decide_eq_true c
          simp only [eqV_int, negB_mk, Bool.true_bne, vc_leafmeshref25_Candidates_j4, c, pickV_true, pickV_false, optK_mk]
          refine boolK_mk (fun d => ?_) (fun d => ?_)
          · refine j5 false ?_
            have d : (a : Int) ≠ (rS q).1 := by simpa using d
            rw [hrs]
            simp [c', d]
          · refine j5 _ ?_
            have d : (a : Int) = (rS q).1 := by simpa using d
            rw [hrs]
            simp [d]
        · have c' := of_decide_eq_false c
          simp only [vc_leafmeshref25_Candidates_j4, c, pickV_false, boolK_false, optK_mk]
          refine j5 _ ?_
          rw [hrs]
          simp [c']
  simp only [addOff_ptr, Nat.zero_add, r0, r3, r4, eqV_int, negB_mk, Bool.true_bne, eqE_ok, optK_mk]
  unfold abt at j2
  cases hk : (r.kd == 4) with
  | false =>
    rw [hk] at j2
    simp only [Bool.not_false, boolK_true]
    exact j2 _ _ (by rw [Bool.false_and]; rfl)
  | true =>
    rw [hk] at j2
    simp only [Bool.not_true, boolK_false]
    rw [Bool.true_and] at j2
    generalize eqE Tryd.prog r.es x = bb at j2 ⊢
    exact j2 _ _ pickV_false
end Go.AM.SG
namespace Go.AM.SG
open Go Go.AM Go.Proofs
variable {K : AVal → Heap → Prop} {s s' s0 t : Heap} {v w : AVal} {l l' : List Int} {db : Nat}
/-! ### addresses without repetition -/
def dI (l : List Int) : List Int := (rdG none (l.map fun x => ((x, 0) : Cd))).map (·.1)
theorem zAt {l : List Int} {k : Nat} (h : k < l.length) : cAt (l.map fun x => ((x, 0) : Cd)) k = (nAt l k, 0) := by
  rw [cAt_get (by simpa using h), nAt_get h]; simp
theorem dI_step {k : Nat} (h : k < l.length) (h0 : 0 < k) : dI (l.take (k + 1)) = dI (l.take k) ++ (if nAt l (k - 1) = nAt l k then [] else [nAt l k]) := by
  unfold dI
  rw [List.map_take, List.map_take, rdG_step (by simpa using h) h0, List.map_append, zAt (by omega), zAt h]
  congr 1
  split <;> rfl
theorem dI_small (h : l.length < 2) : dI l = l := by
  match l, h with
  | [], _ => rfl
  | [a], _ => rfl
theorem takeN_set {k : Nat} {x : Int} (h : k < l.length) : (l.set k x).take (k + 1) = l.take k ++ [x] := by
  rw [List.take_add_one, List.getElem?_set_self h, List.take_set_of_le (Nat.le_refl k)]
  rfl
theorem us_repl : ∀ n : Nat, repl n [AVal.int .u32 0] = us (List.replicate n 0)
  | 0 => rfl
  | n + 1 => by rw [repl, us_repl n]; rfl
theorem us_one : ∀ l : List Int, allOne (us l) = true
  | [] => rfl
  | x :: l => by
    show allOne (AVal.int .u32 x :: us l) = true
    rw [allOne_cons, us_one l]; rfl
theorem clearU_in {A C : List Int} {Q : Heap → Prop} (h : UAt s db (A ++ C)) (hne : C ≠ []) (hR : ∀ s', UAt s' db (A ++ List.replicate C.length 0) → Upto db s s' → Q s') : clearK [(.int .u32 0)] 1 (.slc db A.length C.length none 1) (fun _ s => Q s) s := by
  unfold clearK
  refine ⟨rfl, ?_⟩
  obtain ⟨m, hm⟩ : ∃ m, C.length = m + 1 := ⟨C.length - 1, by have := List.length_pos_iff.2 hne; omega⟩
  rw [hm] at hR ⊢
  simp only
  rw [us_repl]
  have h' : s db = some (false, .cells 33 (us (A ++ C))) := h
  have e2 : Nat.ble (A.length + (us (List.replicate (m + 1) 0)).length) (us (A ++ C)).length = true := by
    rw [List.length_map, List.length_map, List.length_replicate, List.length_append, hm, Nat.ble_eq]; omega
  have e3 : setRange (us (A ++ C)) A.length (us (List.replicate (m + 1) 0)) = us (A ++ List.replicate (m + 1) 0) := by
    unfold setRange
    simp only [us, List.map_append, List.length_map, List.length_replicate]
    rw [List.take_left' (by simp), List.drop_eq_nil_of_le (by simp [hm]), List.append_nil]
  have e1 : wrN s (.ptr db A.length) (us (List.replicate (m + 1) 0)) = some (hset s db (false, .cells 33 (us (A ++ List.replicate (m + 1) 0)))) := by
    rw [← e3]
    simp only [wrN, h', e2, us_one, Bool.and_self, cond_true]
  exact optK_of e1 (hR _ hset_eq fun _ hi => hset_other hi)
theorem UAt.first {A B : List Int} (h : UAt s db (A ++ B)) : Sl s (.slc db 0 A.length none 1) (us A) := by
  refine .inr ⟨db, 0, none, by rw [List.length_map], (fun c h => by cases h), fun _ => ⟨false, 33, _, h, by simp, fun i hi => ?_⟩⟩
  have e : us (A ++ B) = us A ++ us B := List.map_append
  rw [Nat.zero_add, e, List.getElem?_append_left hi]
def CpI0 (s : Heap) (l : List Int) : List AVal → Heap → Nat → Prop := fun ys t m =>
  ∃ k : Nat, ys = [.int .i64 (k : Int)] ∧ t = s ∧ 1 ≤ k ∧ k ≤ l.length ∧ dI (l.take k) = l.take k ∧ m = l.length - k
def CpI1 (s : Heap) (db : Nat) (l : List Int) (k0 : Nat) : List AVal → Heap → Nat → Prop := fun ys t m =>
  ∃ (k k2 : Nat) (cur : List Int), ys = [.int .i64 (k : Int), .int .i64 (k2 : Int)] ∧ UAt t db cur ∧ KB db s t ∧ cur.length = l.length ∧ 1 ≤ k2 ∧ k0 + k2 ≤ l.length ∧ k < k0 + k2 ∧ (∀ j, k0 + k2 - 1 ≤ j → nAt cur j = nAt l j) ∧ dI (l.take (k0 + k2)) = cur.take k ∧ m = l.length - k0 - k2
theorem compactU_in (h : Acc 33 s0 s v (us l)) (hs : Sub s0 s) (hl : l.length ≤ 1000) (hK : ∀ v' s', Sl s' v' (us (dI l)) → Sub s0 s' → K v' s') : wpCall Tryd.prog XX 38 [v] K s := by
  refine vc_slices_Compact___api_IP_api_IP__in ?_
  simp only [vc_slices_Compact___api_IP_api_IP_, h.sl.len, List.length_map, arith_lss, optK_mk]
  refine boolK_mk (fun hc => ?_) (fun hc => ?_)
  · have hc : l.length < 2 := by have := of_decide_eq_true hc; omega
    exact hK v s (by rw [dI_small hc]; exact h.sl) hs
  have hc : 2 ≤ l.length := by have := of_decide_eq_false hc; omega
  obtain ⟨db, q1, q2, q3⟩ : ∃ db, s0 db = none ∧ v = uV db l.length ∧ UAt s db l := by
    rcases h with ⟨_, q⟩ | ⟨db, q1, q2, q3⟩
    · have : l = [] := List.map_eq_nil_iff.1 q
      rw [this] at hc; simp at hc
    · rw [List.length_map] at q2
      exact ⟨db, q1, q2, q3⟩
  subst q2
  clear h
  have keepS : ∀ {t : Heap}, KB db s t → Sub s0 t := fun {t} kp i e hi => kp i e (hs i e hi) fun w => by rw [w, q1] at hi; cases hi
  refine ⟨CpI0 s l, ⟨_, 1, rfl, rfl, by omega, by omega, dI_small (by rw [List.length_take]; omega), rfl⟩, ?_⟩
  rintro f t m ⟨k0, hy, rfl, hk1, hk2, hpre, rfl⟩
  simp only [List.cons.injEq, and_true] at hy
  rw [hy]
  have lenv : lenOfA (uV db l.length) = some l.length := rfl
  simp only [vc_slices_Compact___api_IP_api_IP__l0, lenv, arith_lss, optK_mk]
  refine boolK_mk (fun hlt => ?_) (fun hge => ?_)
  rotate_left
  · have hge : k0 = l.length := by have := of_decide_eq_false hge; omega
    rw [hge, List.take_length] at hpre
    refine hK _ t ?_ hs
    rw [hpre]
    exact Sl.mk q3 (by simp) (by simp)
  have hlt : k0 < l.length := by have := of_decide_eq_true hlt; omega
  simp only [sub1 hk1 (show k0 ≤ 1000000 by omega), u_ad hlt, u_ad (show k0 - 1 < l.length by omega), q3.rd hlt, q3.rd (show k0 - 1 < l.length by omega), eqV_int, negB_mk, Bool.false_bne, optK_mk]
  have step := dI_step hlt (by omega)
  refine boolK_mk (fun hq => ?_) (fun hq => ?_)
  rotate_left
  · have hne : ¬ nAt l (k0 - 1) = nAt l k0 := fun e => by rw [e] at hq; simp at hq
    simp only [add1 (show k0 ≤ 1000000 by omega), optK_mk]
    refine ⟨_, by omega, k0 + 1, rfl, rfl, by omega, by omega, ?_, rfl⟩
    rw [step, if_neg hne, hpre, List.take_add_one, List.getElem?_eq_getElem hlt, nAt_get hlt]; rfl
  have heq : nAt l (k0 - 1) = nAt l k0 := (eq_of_beq hq).symm
  rw [if_pos heq, List.append_nil, hpre] at step
  have sl : ∀ {k : Nat}, k ≤ l.length → sliceS 1 (uV db l.length) (some (.int .i64 (k : Int))) none none = some (.slc db k (l.length - k) none 1) := fun {k} hk => by
    simp [sliceS, bound, Nat.ble_eq_true_of_le hk]
  have sh : ∀ {k : Nat}, k ≤ l.length → sliceS 1 (uV db l.length) none (some (.int .i64 (k : Int))) none = some (.slc db 0 k none 1) := fun {k} hk => by
    simp [sliceS, bound, Nat.ble_eq_true_of_le hk]
  simp only [sl hk2, optK_mk]
  refine ⟨CpI1 t db l k0, ⟨_, k0, 1, l, rfl, q3, .refl _ _, rfl, by omega, by omega, by omega, fun _ _ => rfl, step, rfl⟩, ?_⟩
  rintro f t2 m ⟨k, k2, cur, hy, hcur, kp, hlen, c1, c2, c3, c4, c5, rfl⟩
  simp only [List.cons.injEq, and_true] at hy
  rw [hy.1, hy.2]
  have lenw : lenOfA (.slc db k0 (l.length - k0) none 1) = some (l.length - k0) := rfl
  simp only [vc_slices_Compact___api_IP_api_IP__l1, lenw, arith_lss, optK_mk]
  refine boolK_mk (fun hlt2 => ?_) (fun hge2 => ?_)
  · have hlt2 : k0 + k2 < l.length := by have := of_decide_eq_true hlt2; omega
    have ad2 : ∀ {i : Nat}, k0 + i < l.length → iaddrS 1 (.slc db k0 (l.length - k0) none 1) (.int .i64 (i : Int)) = some (.ptr db (k0 + i)) := fun {i} hi => by
      have : Nat.blt i (l.length - k0) = true := by rw [Nat.blt_eq]; omega
      simp [iaddrS, this]
    have r1 := hcur.rd (i := k0 + k2) (by omega)
    have r2 := hcur.rd (i := k0 + (k2 - 1)) (by omega)
    rw [c4 _ (by omega)] at r1
    rw [c4 _ (by omega), show k0 + (k2 - 1) = k0 + k2 - 1 by omega] at r2
    have ad3 : iaddrS 1 (.slc db k0 (l.length - k0) none 1) (.int .i64 ((k2 - 1 : Nat) : Int)) = some (.ptr db (k0 + k2 - 1)) := by
      rw [ad2 (by omega), show k0 + (k2 - 1) = k0 + k2 - 1 by omega]
    have stp := dI_step hlt2 (by omega)
    simp only [sub1 c1 (show k2 ≤ 1000000 by omega), ad2 hlt2, r1, ad3, r2, eqV_int, negB_mk, Bool.true_bne, optK_mk]
    refine boolK_mk (fun hr => ?_) (fun hr => ?_)
    · have he : ¬ nAt l (k0 + k2 - 1) = nAt l (k0 + k2) := fun e => by rw [e] at hr; simp at hr
      rw [if_neg he] at stp
      simp only [ad2 hlt2, r1, u_ad (show k < l.length by omega), optK_mk]
      refine hcur.put (by omega) fun s5 h5 u5 => ?_
      simp only [vc_slices_Compact___api_IP_api_IP__j2, add1 (show k ≤ 1000000 by omega), add1 (show k2 ≤ 1000000 by omega), optK_mk]
      refine ⟨_, by omega, k + 1, k2 + 1, cur.set k (nAt l (k0 + k2)), rfl, h5, kp.trans (u5.keep rfl), by rw [List.length_set]; exact hlen, by omega, by omega, by omega, fun j hj => ?_, ?_, rfl⟩
      · rw [nAt_set (by omega), if_neg (by omega)]
        exact c4 j (by omega)
      · rw [show k0 + (k2 + 1) = k0 + k2 + 1 by omega, stp, c5, takeN_set (by omega)]
    · have he : nAt l (k0 + k2 - 1) = nAt l (k0 + k2) := by
        have : (nAt l (k0 + k2) == nAt l (k0 + k2 - 1)) = true := by simpa using hr
        exact (eq_of_beq this).symm
      rw [if_pos he, List.append_nil] at stp
      simp only [vc_slices_Compact___api_IP_api_IP__j2, add1 (show k2 ≤ 1000000 by omega), optK_mk]
      exact ⟨_, by omega, k, k2 + 1, cur, rfl, hcur, kp, hlen, by omega, by omega, by omega, fun j hj => c4 j (by omega), by rw [show k0 + (k2 + 1) = k0 + k2 + 1 by omega, stp, c5], rfl⟩
  · have hge2 : k0 + k2 = l.length := by have := of_decide_eq_false hge2; omega
    rw [hge2, List.take_length] at c5
    have lt : (cur.take k).length = k := by rw [List.length_take]; omega
    have ld : (cur.drop k).length = l.length - k := by rw [List.length_drop, hlen]
    simp only [sl (show k ≤ l.length by omega), optK_mk]
    have := clearU_in (A := cur.take k) (C := cur.drop k) (s := t2) (db := db) (Q := fun s_30 => optK (sliceS 1 (uV db l.length) none (some (.int .i64 (k : Int))) none) fun v_31 => K v_31 s_30) (by rw [List.take_append_drop]; exact hcur) (fun e => by rw [e] at ld; simp at ld; omega) fun s5 h5 u5 => by
      simp only [sh (show k ≤ l.length by omega), optK_mk]
      refine hK _ s5 ?_ (keepS (kp.trans (u5.keep rfl)))
      rw [c5]
      have := h5.first
      rw [lt] at this
      exact this
    rw [lt, ld] at this
    exact this
/-- nothing to sort -/
theorem sortN_in (hK : K (.tup []) s) : wpCall Tryd.prog XX 37 [.nilslc] K s := by
  refine vc_slices_Sort___api_IP_api_IP__in ?_
  have e1 : lenOfA .nilslc = some 0 := rfl
  simp only [vc_slices_Sort___api_IP_api_IP_, e1, cvn_u64 (show 0 < 9223372036854775808 by omega), optK_mk]
  refine len_in (n := 0) (by omega) fun b b1 _ _ => ?_
  refine vc_slices_pdqsortOrdered_api_IP__in ?_
  refine ⟨fun ys t m => ys = [.int .i64 0, .int .i64 0, .int .i64 (b : Int), .bool true, .bool true] ∧ t = s, ⟨0, rfl, rfl⟩, ?_⟩
  rintro f t m ⟨hy, rfl⟩
  simp only [List.cons.injEq, and_true] at hy
  rw [hy.1, hy.2.1, hy.2.2.1, hy.2.2.2.1, hy.2.2.2.2]
  refine optK_of (a := .int .i64 0) rfl (optK_of (a := .bool true) rfl ?_)
  refine vc_slices_insertionSortOrdered_api_IP__in ?_
  refine optK_of (a := .int .i64 1) rfl ?_
  refine ⟨fun ys t2 m => ys = [.int .i64 1] ∧ t2 = t, ⟨0, rfl, rfl⟩, ?_⟩
  rintro f t2 m ⟨hy, rfl⟩
  simp only [List.cons.injEq, and_true] at hy
  rw [hy]
  exact optK_of (a := .bool false) rfl hK
end Go.AM.SG
namespace Go.AM.SG
open Go Go.AM Go.Proofs
/-! ### the cells of an argument, one by one -/
inductive Leaf where
  | i (k : IntKind)
  | b
  | sl (d : Nat) (t : TypeId)
section
variable (P : Program)
def leafF (rec : TypeId → Nat → Option Leaf) (j : Nat) : List Field → Option Leaf
  | [] => none
  | f :: fs => cond (Nat.ble f.offset j && Nat.blt (j - f.offset) (P.cellsOf f.type)) (rec f.type (j - f.offset)) (leafF rec j fs)
def leafK : Nat → TypeId → Nat → Option Leaf
  | 0, _, _ => none
  | d + 1, t, j => match P.underlying t with
    | some (.int k) => cond (Nat.beq j 0) (some (.i k)) none
    | some .bool => cond (Nat.beq j 0) (some .b) none
    | some (.slice _) => cond (Nat.beq j 0) (some (.sl (d + 1) t)) none
    | some (.struct fs) => leafF P (leafK d) j fs.toList
    | some (.array n e) => cond (Nat.blt (j / P.cellsOf e) n && Nat.blt 0 (P.cellsOf e)) (leafK d e (j % P.cellsOf e)) none
    | _ => none
end
variable {P : Program} {s : Heap}
def leafP (P : Program) (s : Heap) : Leaf → AVal → Prop
  | .i k, x => ∃ n, x = .int k n ∧ (Lit.int k n).wf = true
  | .b, x => ∃ b, x = .bool b
  | .sl d t, x => Inp P s d t [x]
theorem part_get {xs : List AVal} {o c j : Nat} {x : AVal} (h : ((xs.drop o).take c)[j]? = some x) : xs[o + j]? = some x := by
  rw [List.getElem?_take] at h
  split at h
  · rw [List.getElem?_drop] at h; exact h
  · cases h
theorem leaf_ok : ∀ (d : Nat) (t : TypeId) (xs : List AVal) (j : Nat) (k : Leaf), Inp P s d t xs → leafK P d t j = some k → ∃ x, xs[j]? = some x ∧ leafP P s k x
  | 0, _, _, _, _, h, _ => h.elim
  | d + 1, t, xs, j, k, h, hk => by
    unfold leafK at hk
    unfold Inp at h
    split at hk
    · rename_i k0 hu
      simp only [hu] at h
      cases e : Nat.beq j 0 with
      | false => rw [e] at hk; cases hk
      | true =>
        rw [e] at hk
        cases hk
        obtain ⟨n, rfl, h2⟩ := h
        exact ⟨_, by rw [Nat.eq_of_beq_eq_true e]; rfl, n, rfl, h2⟩
    · rename_i hu
      simp only [hu] at h
      cases e : Nat.beq j 0 with
      | false => rw [e] at hk; cases hk
      | true =>
        rw [e] at hk
        cases hk
        obtain ⟨b, rfl⟩ := h
        exact ⟨_, by rw [Nat.eq_of_beq_eq_true e]; rfl, b, rfl⟩
    · rename_i e0 hu
      cases e : Nat.beq j 0 with
      | false => rw [e] at hk; cases hk
      | true =>
        rw [e] at hk
        cases hk
        have h' : Inp P s (d + 1) t xs := by unfold Inp; exact h
        simp only [hu] at h
        rcases h with rfl | ⟨b, n, c, rfl, _⟩
        · exact ⟨_, by rw [Nat.eq_of_beq_eq_true e]; rfl, h'⟩
        · exact ⟨_, by rw [Nat.eq_of_beq_eq_true e]; rfl, h'⟩
    · rename_i fs hu
      simp only [hu] at h
      have key : ∀ l : List Field, (∀ f ∈ l, f ∈ fs.toList) → leafF P (leafK P d) j l = some k → ∃ x, xs[j]? = some x ∧ leafP P s k x := by
        intro l
        induction l with
        | nil => intro _ q; cases q
        | cons f l ih =>
          intro hm q
          unfold leafF at q
          cases e : (Nat.ble f.offset j && Nat.blt (j - f.offset) (P.cellsOf f.type)) with
          | false => rw [e] at q; exact ih (fun g hg => hm g (List.mem_cons_of_mem _ hg)) q
          | true =>
            rw [e] at q
            simp only [Bool.and_eq_true] at e
            obtain ⟨x, h1, h2⟩ := leaf_ok d f.type _ (j - f.offset) k (h.2 f (hm f List.mem_cons_self)) q
            refine ⟨x, ?_, h2⟩
            have := part_get h1
            rw [Nat.add_sub_cancel' (Nat.le_of_ble_eq_true e.1)] at this
            exact this
      exact key _ (fun f hf => hf) hk
    · rename_i n e0 hu
      simp only [hu] at h
      cases e : (Nat.blt (j / P.cellsOf e0) n && Nat.blt 0 (P.cellsOf e0)) with
      | false => rw [e] at hk; cases hk
      | true =>
        rw [e] at hk
        simp only [Bool.and_eq_true, Nat.blt_eq] at e
        obtain ⟨x, h1, h2⟩ := leaf_ok d e0 _ (j % P.cellsOf e0) k (h.2 (j / P.cellsOf e0) e.1) hk
        refine ⟨x, ?_, h2⟩
        have := part_get h1
        rw [Nat.mul_comm, Nat.div_add_mod] at this
        exact this
    · cases hk
theorem leaf_i {d : Nat} {t : TypeId} {xs : List AVal} {j : Nat} {k : IntKind} (h : Inp P s d t xs) (hk : leafK P d t j = some (.i k)) : ∃ n, xs[j]? = some (.int k n) ∧ (Lit.int k n).wf = true := by
  obtain ⟨x, h1, n, rfl, h2⟩ := leaf_ok d t xs j _ h hk
  exact ⟨n, h1, h2⟩
theorem leaf_b {d : Nat} {t : TypeId} {xs : List AVal} {j : Nat} (h : Inp P s d t xs) (hk : leafK P d t j = some .b) : ∃ b, xs[j]? = some (.bool b) := by
  obtain ⟨x, h1, n, rfl⟩ := leaf_ok d t xs j _ h hk
  exact ⟨n, h1⟩
theorem leaf_s {d d' : Nat} {t t' : TypeId} {xs : List AVal} {j : Nat} (h : Inp P s d t xs) (hk : leafK P d t j = some (.sl d' t')) : ∃ x, xs[j]? = some x ∧ Inp P s d' t' [x] := leaf_ok d t xs j _ h hk
/-- a list by its elements -/
theorem list_of {xs ys : List AVal} (hl : xs.length = ys.length) (h : ∀ j, j < ys.length → xs[j]? = ys[j]?) : xs = ys := by
  refine List.ext_getElem? fun j => ?_
  by_cases q : j < ys.length
  · exact h j q
  · rw [List.getElem?_eq_none (by omega), List.getElem?_eq_none (by omega)]
end Go.AM.SG
namespace Go.AM.SG
open Go Go.AM Go.Proofs
variable {s : Heap} {d : Nat} {v : AVal}
/-! ### arguments -/
theorem wf8 {n : Int} (h : (Lit.int .u8 n).wf = true) : ∃ m : Nat, n = (m : Int) ∧ m < 256 := by
  have : 0 ≤ n ∧ n ≤ 255 := by
    unfold Lit.wf at h
    simpa [IntKind.min, IntKind.max, IntKind.bits, IntKind.signed] using h
  exact ⟨n.toNat, by omega, by omega⟩
set_option maxRecDepth 100000
theorem cells96 : Tryd.prog.cellsOf 96 = 8 := by kernel_rfl
theorem cells59 : Tryd.prog.cellsOf 59 = 38 := by kernel_rfl
theorem cells24 : Tryd.prog.cellsOf 24 = 10 := by kernel_rfl
theorem inp_cm {xs : List AVal} (h : Inp Tryd.prog s 36 96 xs) : ∃ c : Cm, xs = cmR c ∧ c.ok := by
  have hl := inp_len (by kernel_rfl : isAggT Tryd.prog 96 = some true) h
  rw [cells96] at hl
  obtain ⟨n0, h0, w0⟩ := leaf_i (j := 0) (k := .u8) h (by kernel_rfl)
  obtain ⟨m0, rfl, z0⟩ := wf8 w0
  obtain ⟨n1, h1, w1⟩ := leaf_i (j := 1) (k := .u8) h (by kernel_rfl)
  obtain ⟨m1, rfl, z1⟩ := wf8 w1
  obtain ⟨n2, h2, w2⟩ := leaf_i (j := 2) (k := .u8) h (by kernel_rfl)
  obtain ⟨m2, rfl, z2⟩ := wf8 w2
  obtain ⟨n3, h3, w3⟩ := leaf_i (j := 3) (k := .u8) h (by kernel_rfl)
  obtain ⟨m3, rfl, z3⟩ := wf8 w3
  obtain ⟨n4, h4, w4⟩ := leaf_i (j := 4) (k := .u8) h (by kernel_rfl)
  obtain ⟨m4, rfl, z4⟩ := wf8 w4
  obtain ⟨n5, h5, w5⟩ := leaf_i (j := 5) (k := .u8) h (by kernel_rfl)
  obtain ⟨m5, rfl, z5⟩ := wf8 w5
  obtain ⟨n6, h6, w6⟩ := leaf_i (j := 6) (k := .u8) h (by kernel_rfl)
  obtain ⟨m6, rfl, z6⟩ := wf8 w6
  obtain ⟨n7, h7, w7⟩ := leaf_i (j := 7) (k := .u8) h (by kernel_rfl)
  obtain ⟨m7, rfl, z7⟩ := wf8 w7
  refine ⟨⟨m0, m1, m2, m3, m4, m5, m6, m7⟩, list_of hl fun j hj => ?_, z0, z1, z2, z3, z4, z5, z6, z7⟩
  match j, hj with
  | 0, _ => exact h0
  | 1, _ => exact h1
  | 2, _ => exact h2
  | 3, _ => exact h3
  | 4, _ => exact h4
  | 5, _ => exact h5
  | 6, _ => exact h6
  | 7, _ => exact h7
theorem inp_es {xs : List AVal} (h : Inp Tryd.prog s 40 24 xs) : ∃ x : Es, xs = x.R := by
  have hl := inp_len (by kernel_rfl : isAggT Tryd.prog 24 = some true) h
  rw [cells24] at hl
  obtain ⟨n0, h0, _⟩ := leaf_i (j := 0) (k := .u8) h (by kernel_rfl)
  obtain ⟨n1, h1, _⟩ := leaf_i (j := 1) (k := .u8) h (by kernel_rfl)
  obtain ⟨n2, h2, _⟩ := leaf_i (j := 2) (k := .u8) h (by kernel_rfl)
  obtain ⟨n3, h3, _⟩ := leaf_i (j := 3) (k := .u8) h (by kernel_rfl)
  obtain ⟨n4, h4, _⟩ := leaf_i (j := 4) (k := .u8) h (by kernel_rfl)
  obtain ⟨n5, h5, _⟩ := leaf_i (j := 5) (k := .u8) h (by kernel_rfl)
  obtain ⟨n6, h6, _⟩ := leaf_i (j := 6) (k := .u8) h (by kernel_rfl)
  obtain ⟨n7, h7, _⟩ := leaf_i (j := 7) (k := .u8) h (by kernel_rfl)
  obtain ⟨n8, h8, _⟩ := leaf_i (j := 8) (k := .u8) h (by kernel_rfl)
  obtain ⟨n9, h9, _⟩ := leaf_i (j := 9) (k := .u8) h (by kernel_rfl)
  refine ⟨⟨n0, n1, n2, n3, n4, n5, n6, n7, n8, n9⟩, list_of hl fun j hj => ?_⟩
  match j, hj with
  | 0, _ => exact h0
  | 1, _ => exact h1
  | 2, _ => exact h2
  | 3, _ => exact h3
  | 4, _ => exact h4
  | 5, _ => exact h5
  | 6, _ => exact h6
  | 7, _ => exact h7
  | 8, _ => exact h8
  | 9, _ => exact h9
theorem arg_es (h : Arg Tryd.prog s 40 24 v) : ∃ x : Es, v = .agg x.R := by
  obtain ⟨h1, h2, _⟩ := h
  obtain ⟨l, rfl, _⟩ := h2 (by kernel_rfl)
  obtain ⟨x, hx⟩ := inp_es h1
  exact ⟨x, by rw [cells_agg] at hx; rw [hx]⟩
theorem slice_arg {t e : TypeId} {x : AVal} (hu : Tryd.prog.underlying t = some (.slice e)) (h : Inp Tryd.prog s (d + 1) t [x]) : Arg Tryd.prog s (d + 1) t x := by
  have hx : x.cells = [x] := by
    have h' := h
    unfold Inp at h'
    simp only [hu] at h'
    rcases h' with h' | ⟨b, n, c, h', _⟩
    · cases h'; rfl
    · cases h'; rfl
  have hn : isAggT Tryd.prog t ≠ some true := by unfold isAggT; rw [hu]; simp
  exact ⟨by rw [hx]; exact h, fun w => absurd w hn, fun _ => hx⟩
theorem inp_rt {xs : List AVal} (h : Inp Tryd.prog s 39 59 xs) : ∃ a : Rt × AVal × AVal × AVal, xs = a.1.row a.2.1 a.2.2.1 a.2.2.2 ∧ RtAt s a.1 a.2.1 a.2.2.1 a.2.2.2 ∧ ∀ c ∈ a.1.cm, c.ok := by
  have hl := inp_len (by kernel_rfl : isAggT Tryd.prog 59 = some true) h
  rw [cells59] at hl
  obtain ⟨n0, h0, _⟩ := leaf_i (j := 0) (k := .i64) h (by kernel_rfl)
  obtain ⟨n1, h1, _⟩ := leaf_i (j := 1) (k := .u64) h (by kernel_rfl)
  obtain ⟨n2, h2, _⟩ := leaf_i (j := 2) (k := .u8) h (by kernel_rfl)
  obtain ⟨n3, h3, _⟩ := leaf_i (j := 3) (k := .u8) h (by kernel_rfl)
  obtain ⟨n4, h4, _⟩ := leaf_i (j := 4) (k := .u8) h (by kernel_rfl)
  obtain ⟨n5, h5, _⟩ := leaf_i (j := 5) (k := .u8) h (by kernel_rfl)
  obtain ⟨n6, h6, _⟩ := leaf_i (j := 6) (k := .u8) h (by kernel_rfl)
  obtain ⟨n7, h7, _⟩ := leaf_i (j := 7) (k := .u8) h (by kernel_rfl)
  obtain ⟨n8, h8, _⟩ := leaf_i (j := 8) (k := .u8) h (by kernel_rfl)
  obtain ⟨n9, h9, _⟩ := leaf_i (j := 9) (k := .u8) h (by kernel_rfl)
  obtain ⟨n10, h10, _⟩ := leaf_i (j := 10) (k := .u8) h (by kernel_rfl)
  obtain ⟨n11, h11, _⟩ := leaf_i (j := 11) (k := .u8) h (by kernel_rfl)
  obtain ⟨n12, h12, _⟩ := leaf_i (j := 12) (k := .u32) h (by kernel_rfl)
  obtain ⟨n13, h13, _⟩ := leaf_i (j := 13) (k := .u64) h (by kernel_rfl)
  obtain ⟨n14, h14, _⟩ := leaf_i (j := 14) (k := .u32) h (by kernel_rfl)
  obtain ⟨n15, h15⟩ := leaf_b (j := 15) h (by kernel_rfl)
  obtain ⟨n16, h16, _⟩ := leaf_i (j := 16) (k := .u32) h (by kernel_rfl)
  obtain ⟨n17, h17, _⟩ := leaf_i (j := 17) (k := .i64) h (by kernel_rfl)
  obtain ⟨n18, h18, _⟩ := leaf_i (j := 18) (k := .u32) h (by kernel_rfl)
  obtain ⟨n19, h19, _⟩ := leaf_i (j := 19) (k := .u32) h (by kernel_rfl)
  obtain ⟨n20, h20, _⟩ := leaf_i (j := 20) (k := .u32) h (by kernel_rfl)
  obtain ⟨n21, h21, _⟩ := leaf_i (j := 21) (k := .i64) h (by kernel_rfl)
  obtain ⟨n22, h22, w22⟩ := leaf_s (j := 22) (d' := 37) (t' := 47) h (by kernel_rfl)
  obtain ⟨n23, h23, _⟩ := leaf_i (j := 23) (k := .u32) h (by kernel_rfl)
  obtain ⟨n24, h24⟩ := leaf_b (j := 24) h (by kernel_rfl)
  obtain ⟨n25, h25, _⟩ := leaf_i (j := 25) (k := .u32) h (by kernel_rfl)
  obtain ⟨n26, h26⟩ := leaf_b (j := 26) h (by kernel_rfl)
  obtain ⟨n27, h27, _⟩ := leaf_i (j := 27) (k := .u32) h (by kernel_rfl)
  obtain ⟨n28, h28⟩ := leaf_b (j := 28) h (by kernel_rfl)
  obtain ⟨n29, h29, _⟩ := leaf_i (j := 29) (k := .u32) h (by kernel_rfl)
  obtain ⟨n30, h30, w30⟩ := leaf_s (j := 30) (d' := 37) (t' := 37) h (by kernel_rfl)
  obtain ⟨n31, h31, w31⟩ := leaf_s (j := 31) (d' := 37) (t' := 48) h (by kernel_rfl)
  obtain ⟨n32, h32, _⟩ := leaf_i (j := 32) (k := .i64) h (by kernel_rfl)
  obtain ⟨n33, h33, _⟩ := leaf_i (j := 33) (k := .u32) h (by kernel_rfl)
  obtain ⟨n34, h34, _⟩ := leaf_i (j := 34) (k := .u32) h (by kernel_rfl)
  obtain ⟨n35, h35, _⟩ := leaf_i (j := 35) (k := .u32) h (by kernel_rfl)
  obtain ⟨n36, h36, _⟩ := leaf_i (j := 36) (k := .u32) h (by kernel_rfl)
  obtain ⟨n37, h37⟩ := leaf_b (j := 37) h (by kernel_rfl)
  obtain ⟨lp, hp, _⟩ := arg_slice (d := 36) Tryd.underlying47 (by kernel_rfl) (AVal.int .u32) (fun _ => True) (fun xs h => by obtain ⟨n, e, _⟩ := inp_int Tryd.underlying32 h; exact ⟨n, e, trivial⟩) (slice_arg Tryd.underlying47 w22)
  obtain ⟨lq, hq, _⟩ := arg_slice (d := 36) Tryd.underlying37 (by kernel_rfl) (AVal.int .u32) (fun _ => True) (fun xs h => by obtain ⟨n, e, _⟩ := inp_int Tryd.underlying33 h; exact ⟨n, e, trivial⟩) (slice_arg Tryd.underlying37 w30)
  obtain ⟨lm, hm, hmo, _⟩ := argR (d := 36) Tryd.underlying48 cmR Cm.ok (fun a => by rw [cells96]; rfl) (fun xs h => inp_cm h) (slice_arg Tryd.underlying48 w31)
  rw [cells96] at hm
  refine ⟨(⟨n0, n1, ⟨n2, n3, n4, n5, n6, n7, n8, n9, n10, n11⟩, n12, n13, n14, n15, n16, n17, n18, n19, n20, n21, n23, n24, n25, n26, n27, n28, n29, n32, n33, n34, n35, n36, n37, lp, lq, lm⟩, n22, n30, n31), list_of hl fun j hj => ?_, ⟨hp, hq, hm⟩, hmo⟩
  match j, hj with
  | 0, _ => exact h0
  | 1, _ => exact h1
  | 2, _ => exact h2
  | 3, _ => exact h3
  | 4, _ => exact h4
  | 5, _ => exact h5
  | 6, _ => exact h6
  | 7, _ => exact h7
  | 8, _ => exact h8
  | 9, _ => exact h9
  | 10, _ => exact h10
  | 11, _ => exact h11
  | 12, _ => exact h12
  | 13, _ => exact h13
  | 14, _ => exact h14
  | 15, _ => exact h15
  | 16, _ => exact h16
  | 17, _ => exact h17
  | 18, _ => exact h18
  | 19, _ => exact h19
  | 20, _ => exact h20
  | 21, _ => exact h21
  | 22, _ => exact h22
  | 23, _ => exact h23
  | 24, _ => exact h24
  | 25, _ => exact h25
  | 26, _ => exact h26
  | 27, _ => exact h27
  | 28, _ => exact h28
  | 29, _ => exact h29
  | 30, _ => exact h30
  | 31, _ => exact h31
  | 32, _ => exact h32
  | 33, _ => exact h33
  | 34, _ => exact h34
  | 35, _ => exact h35
  | 36, _ => exact h36
  | 37, _ => exact h37
  | j + 38, q => exact absurd q (by show ¬ j + 38 < 38; omega)
theorem arg_rts (h : Arg Tryd.prog s 40 22 v) : ∃ R : List Rt, Rts s v R ∧ (∀ r ∈ R, ∀ c ∈ r.cm, c.ok) ∧ R.length ≤ maxLen := by
  obtain ⟨l, h1, h2, h3⟩ := argR (d := 39) Tryd.underlying22 (fun a : Rt × AVal × AVal × AVal => a.1.row a.2.1 a.2.2.1 a.2.2.2) (fun a => RtAt s a.1 a.2.1 a.2.2.1 a.2.2.2 ∧ ∀ c ∈ a.1.cm, c.ok) (fun a => by rw [cells59]; rfl) (fun xs h => inp_rt h) h
  rw [cells59] at h1
  refine ⟨l.map (·.1), ⟨_, h1, by simp, fun i r hi => ?_⟩, fun r hr => ?_, by simpa using h3⟩
  · rw [List.getElem?_map] at hi
    cases e : l[i]? with
    | none => rw [e] at hi; cases hi
    | some a =>
      rw [e] at hi
      cases hi
      exact ⟨a.2.1, a.2.2.1, a.2.2.2, by rw [List.getElem?_map, e]; rfl, (h2 a (List.mem_of_getElem? e)).1⟩
  · obtain ⟨a, ha, rfl⟩ := List.mem_map.1 hr
    exact (h2 a ha).2
end Go.AM.SG
namespace Go.AM.SG
open Go Go.AM Go.Proofs
variable {K : AVal → Heap → Prop} {s s' s0 t : Heap} {v w p q m : AVal} {R : List Rt} {x : Es}
/-! ### members (no program in sight) -/
theorem fst_mem {l o : List Cd} (h : Fst1 l o) (y : Int) : y ∈ o.map (·.1) ↔ y ∈ l.map (·.1) := by
  constructor
  · intro hy
    obtain ⟨c, hc, rfl⟩ := List.mem_map.1 hy
    have := (h.mem c).1 hc
    have := List.mem_of_head? this
    exact List.mem_map.2 ⟨c, (fk_mem.1 this).1, rfl⟩
  · intro hy
    obtain ⟨d, hd, rfl⟩ := List.mem_map.1 hy
    have hdk : d ∈ fk d.1 l := fk_mem.2 ⟨hd, rfl⟩
    cases e : (fk d.1 l).head? with
    | none =>
      rw [List.head?_eq_none_iff] at e
      rw [e] at hdk; cases hdk
    | some c =>
      have hc := (fk_mem.1 (List.mem_of_head? e)).2
      refine List.mem_map.2 ⟨c, (h.mem c).2 ?_, hc⟩
      rw [hc]; exact e
theorem fst_srt {o : List Cd} (h : Sct o) : (o.map (·.1)).Pairwise fun a b => a < b := List.pairwise_map.2 h
theorem same_asc {a b : List Int} (ha : a.Pairwise fun x y => x < y) (hb : b.Pairwise fun x y => x < y) (h : ∀ y, y ∈ a ↔ y ∈ b) : a = b := by
  have nl : a.Nodup := List.Pairwise.imp (fun {a b} h e => by rw [e] at h; omega) ha
  have nm : b.Nodup := List.Pairwise.imp (fun {a b} h e => by rw [e] at h; omega) hb
  exact List.Perm.eq_of_pairwise (le := fun a b : Int => a < b) (fun a b _ _ h1 h2 => by omega) ha hb ((List.perm_ext_iff_of_nodup nl nm).2 h)
theorem asc_srt {l : List Int} (h : Asc 0 l.length l) : Srt (l.map fun x => ((x, 0) : Cd)) := by
  unfold Srt
  rw [List.pairwise_map]
  refine List.pairwise_iff_getElem.2 fun i j hi hj hij => ?_
  have := h i j (Nat.zero_le _) hij hj
  rw [nAt_get hi, nAt_get hj] at this
  exact this
theorem members_eq {q : List Qr} {l : List Int} (hp : l.Perm (q.map (·.1))) (ha : Asc 0 l.length l) : dI l = (putAll (cds q)).map (·.1) := by
  have f1 := rdG_fst (asc_srt ha)
  have f2 := putAll_ok (cds q)
  refine same_asc (fst_srt f1.srt) (fst_srt f2.srt) fun y => ?_
  show y ∈ (rdG none (l.map fun x => ((x, 0) : Cd))).map (·.1) ↔ _
  rw [fst_mem f1, fst_mem f2]
  have e1 : (l.map fun x => ((x, 0) : Cd)).map (·.1) = l := by rw [List.map_map]; exact List.map_id l
  have e2 : (cds q).map (·.1) = q.map (·.1) := by unfold cds; rw [List.map_map]; rfl
  rw [e1, e2]
  exact hp.mem_iff
/-! ### the members of a segment -/
def MemI (s1 : Heap) (R : List Rt) (x : Es) : List AVal → Heap → Nat → Prop := fun ys t m =>
  ∃ (i : Nat) (w : AVal), ys = [w, .int .i64 (i : Int)] ∧ Acc 33 s1 t w (us ((qs Tryd.prog x (R.take i)).map (·.1))) ∧ Sub s1 t ∧ i ≤ R.length ∧ m = R.length - i
theorem mem_in (h : Rts s v R) (hl : R.length ≤ 100) (hK : ∀ v' s', Sub s s' → Sl s' v' (us ((putAll (cds (qs Tryd.prog x R))).map (·.1))) → K v' s') : wpCall Tryd.prog XX 12 [v, .agg x.R] K s := by
  refine vc_segment_Members_in ⟨rfl, new_step fun eb s1 heb h1 u1 => ?_⟩
  have sub1 := u1.sub heb
  have h := h.sub sub1
  simp only [h.len, optK_mk]
  refine ⟨MemI s1 R x, ⟨_, 0, _, rfl, .inl ⟨rfl, rfl⟩, .refl _, by omega, rfl⟩, ?_⟩
  rintro e t m ⟨i, w, hy, ac, st, hi, rfl⟩
  simp only [List.cons.injEq, and_true] at hy
  rw [hy.1, hy.2]
  clear hy
  generalize hq : qs Tryd.prog x (R.take i) = q at *
  have hql : q.length ≤ i := by
    have := qs_len (R := R.take i) (P := Tryd.prog) (x := x)
    rw [hq, List.length_take] at this
    omega
  have hql' : (q.map (·.1)).length ≤ 100 := by rw [List.length_map]; omega
  simp only [vc_segment_Members_l0, arith_lss, optK_mk]
  refine boolK_mk (fun hlt => ?_) (fun hge => ?_)
  rotate_left
  · have : i = R.length := by have := of_decide_eq_false hge; omega
    rw [this, List.take_length] at hq
    rw [hq] at hK
    have fin : ∀ t2 l2, Acc 33 s1 t2 w (us l2) → Sub s1 t2 → l2.Perm (q.map (·.1)) → Asc 0 l2.length l2 → wpCall Tryd.prog XX 38 [w] (fun v_25 s_26 => K v_25 s_26) t2 := fun t2 l2 z1 z2 z3 z4 => by
      have z5 := z3.length_eq
      refine compactU_in z1 z2 (by omega) fun v3 s3 h3 k3 => ?_
      rw [members_eq z3 z4] at h3
      exact hK v3 s3 (sub1.trans k3) h3
    rcases ac with ⟨rfl, z⟩ | ⟨db, z1, z2, z3⟩
    · have z : q.map (·.1) = [] := List.map_eq_nil_iff.1 z
      refine sortN_in (fin t [] (.inl ⟨rfl, rfl⟩) st (by rw [z]) fun a b _ _ hb => by simp at hb)
    · rw [List.length_map] at z2
      subst z2
      refine sortU_in z3 (by omega) fun s2 l2 y1 y2 y3 y4 => ?_
      have yl := y2.length_eq
      refine fin s2 l2 (.inr ⟨db, z1, by rw [show (us l2).length = l2.length from List.length_map _, yl], y1⟩) (fun i e hi => y4 i e (st i e hi) fun w => by rw [w, z1] at hi; cases hi) y2 y3
  have hlt : i < R.length := by have := of_decide_eq_true hlt; omega
  obtain ⟨r, hri⟩ : ∃ r, R[i]? = some r := ⟨_, List.getElem?_eq_getElem hlt⟩
  have step := qs_step (P := Tryd.prog) (x := x) hri
  rw [hq] at step
  obtain ⟨b, o, p, pq, m, e1, e2, _, e4⟩ := (h.sub st).get hri
  simp only [e1, e2, optK_mk]
  refine new_step fun g s2 hg h2 u2 => ?_
  refine wrAgg_step h2 rfl rfl e4.one fun s3 h3 u3 => ?_
  have sub3 : Sub t s3 := fun j e hj => by
    have ne := ne_of_some hg hj
    rw [u3 j ne, u2 j ne]; exact hj
  have r3 : rdN s3 38 (.ptr g 0) = some (r.row p pq m) := rdN_all h3 rfl
  have r4 : rdN s3 10 (.ptr eb 0) = some x.R := rdN_all ((st.trans sub3) _ _ h1) rfl
  simp only [r3, r4, optK_mk]
  refine about_in (e4.sub sub3) fun s4 sub4 => ?_
  have st4 := (st.trans sub3).trans sub4
  have sub34 := sub3.trans sub4
  have hg4 := sub4 _ _ h3
  have ac4 : Acc 33 s1 s4 w (us (q.map (·.1))) := ac.imp id fun ⟨b, z1, z2, z3⟩ => ⟨b, z1, z2, sub34 _ _ z3⟩
  have next : ∀ t5 w5 q5, Sub s1 t5 → Acc 33 s1 t5 w5 (us (q5.map (·.1))) → q5 = qs Tryd.prog x (R.take (i + 1)) → vc_segment_Members_j1 XX w5 (.int .i64 (i : Int)) (MemI s1 R x) (R.length - i) K t5 := fun t5 w5 q5 z1 z2 z3 => by
    simp only [vc_segment_Members_j1, add1 (show i ≤ 1000000 by omega), optK_mk]
    refine ⟨_, by omega, i + 1, w5, rfl, by rw [← z3]; exact z2, z1, by omega, rfl⟩
  cases ha : abt Tryd.prog x r with
  | false =>
    rw [ha] at step
    simp only [boolK_false]
    refine next s4 w q st4 ac4 ?_
    rw [step]; simp
  | true =>
    rw [ha, if_pos rfl] at step
    have r5 : rd1 s4 (.ptr g 23) = some (.int .u32 r.nx) := by rw [rd1_mk hg4]; rfl
    simp only [boolK_true, addOff_ptr, Nat.zero_add, Nat.reduceAdd, r5, optK_mk]
    refine optK_of (a := us [r.nx]) rfl ⟨rfl, new_step fun d s5 hd h5 u5 => ?_⟩
    have sub5 := u5.sub hd
    have ac5 : Acc 33 s1 s5 w (us (q.map (·.1))) := ac4.imp id fun ⟨b, z1, z2, z3⟩ => ⟨b, z1, z2, sub5 _ _ z3⟩
    have st5 := st4.trans sub5
    refine ac5.app (m := us [r.nx]) (Sl.mk h5 rfl (by simp)) (by simp) (by rw [List.length_map]; simp only [List.length_map, List.length_singleton] at hql' ⊢; omega) (fun j hj => ?_) fun v6 s6 a6 k6 => ?_
    · cases z : s1 j with
      | none => exact absurd z hj
      | some y => rw [st5 j y z]; simp
    · refine next s6 v6 _ (fun j e hj => k6 j e (st5 j e hj) fun b z zb => ?_) ?_ step.symm
      · rcases ac5 with ⟨y, _⟩ | ⟨b', y1, y2, _⟩
        · rw [y] at z; cases z
        · rw [y2] at z; cases z; rw [zb, y1] at hj; cases hj
      · have : us ((q ++ [(r.nx, elN r.cm)]).map (·.1)) = us (q.map (·.1)) ++ us [r.nx] := by simp [us]
        rw [this]; exact a6
def RMemI (s1 : Heap) (o : List Cd) (w : AVal) : List AVal → Heap → Nat → Prop := fun ys t m =>
  ∃ (i : Nat) (u : AVal), ys = [u, .int .i64 (i : Int)] ∧ Acc 33 s1 t u (us ((o.take i).map (·.1))) ∧ Sub s1 t ∧ i ≤ o.length ∧ m = o.length - i
theorem rmem_in (h : Rts s v R) (hok : ∀ r ∈ R, r.ok) (hl : R.length ≤ 100) (hK : ∀ v' s', Sub s s' → Sl s' v' (us ((putAll (cds (qs Tryd.prog x R))).map (·.1))) → K v' s') : wpCall Tryd.prog XX 13 [v, .agg x.R] K s := by
  refine vc_leafmeshref25_Members_in ⟨rfl, new_step fun eb s1 heb h1 u1 => ?_⟩
  have sub1 := u1.sub heb
  have h := h.sub sub1
  have r1 : rdN s1 10 (.ptr eb 0) = some x.R := rdN_all h1 rfl
  simp only [r1, optK_mk]
  refine rcand_in h hok hl fun w s2 sub2 h2 => ?_
  have x0 : ∀ x y : AVal, extractA (.tup [x, y]) 0 = some x := fun _ _ => rfl
  have x1 : ∀ x y : AVal, extractA (.tup [x, y]) 1 = some y := fun _ _ => rfl
  simp only [x0, x1, optK_mk]
  have hol := putAll_len (cds (qs Tryd.prog x R))
  rw [cds_len] at hol
  have hql := qs_len (R := R) (P := Tryd.prog) (x := x)
  generalize putAll (cds (qs Tryd.prog x R)) = o at *
  refine ⟨RMemI s2 o w, ⟨_, 0, _, rfl, .inl ⟨rfl, rfl⟩, .refl _, by omega, rfl⟩, ?_⟩
  rintro e t m ⟨i, u, hy, ac, st, hi, rfl⟩
  simp only [List.cons.injEq, and_true] at hy
  rw [hy.1, hy.2]
  clear hy
  simp only [vc_leafmeshref25_Members_l0, (h2.sub st).len, List.length_map, arith_lss, optK_mk]
  refine boolK_mk (fun hlt => ?_) (fun hge => ?_)
  rotate_left
  · have : i = o.length := by have := of_decide_eq_false hge; omega
    rw [this, List.take_length] at ac
    exact hK u t ((sub1.trans sub2).trans st) ac.sl
  have hlt : i < o.length := by have := of_decide_eq_true hlt; omega
  obtain ⟨b, p, e1, _, e3⟩ := (h2.sub st).get (i := i) (r := cR o[i]) (by simp [hlt])
  have e4 : rd1 t (.ptr b p) = some (.int .u32 o[i].1) := e3 0 (by omega)
  simp only [e1, addOff_ptr, Nat.add_zero, e4, optK_mk]
  refine optK_of (a := us [o[i].1]) rfl ⟨rfl, new_step fun d s5 hd h5 u5 => ?_⟩
  have sub5 := u5.sub hd
  have ac5 : Acc 33 s2 s5 u (us ((o.take i).map (·.1))) := ac.imp id fun ⟨b, z1, z2, z3⟩ => ⟨b, z1, z2, sub5 _ _ z3⟩
  have st5 := st.trans sub5
  refine ac5.app (m := us [o[i].1]) (Sl.mk h5 rfl (by simp)) (by simp) (by simp only [List.length_map, List.length_singleton, List.length_take]; omega) (fun j hj => ?_) fun v6 s6 a6 k6 => ?_
  · cases z : s2 j with
    | none => exact absurd z hj
    | some y => rw [st5 j y z]; simp
  · simp only [add1 (show i ≤ 1000000 by omega), optK_mk]
    refine ⟨_, by omega, i + 1, v6, rfl, ?_, fun j e hj => k6 j e (st5 j e hj) fun b z zb => ?_, by omega, rfl⟩
    · have : us ((o.take (i + 1)).map (·.1)) = us ((o.take i).map (·.1)) ++ us [o[i].1] := by
        rw [List.take_add_one, List.getElem?_eq_getElem hlt, Option.toList_some]
        simp only [us, List.map_append, List.map_cons, List.map_nil]
      rw [this]; exact a6
    · rcases ac5 with ⟨y, _⟩ | ⟨b', y1, y2, _⟩
      · rw [y] at z; cases z
      · rw [y2] at z; cases z; rw [zb, y1] at hj; cases hj
end Go.AM.SG
namespace Go.AM.SG
open Go Go.AM Go.Proofs
variable {K : AVal → Heap → Prop} {s s' s0 t : Heap} {v w p q m : AVal} {R : List Rt} {x : Es}
/-! ### the law -/
theorem Rts.frz (h : Rts s v R) : Rts (AM.frz s) v R := by
  obtain ⟨rows, h1, h2, h3⟩ := h
  refine ⟨rows, h1.frz, h2, fun i r hi => ?_⟩
  obtain ⟨p, q, m, q1, q2⟩ := h3 i r hi
  exact ⟨p, q, m, q1, q2.pa.frz, q2.cl.frz, q2.cm.frz⟩
theorem awake_in (h : GlK s) (hK : K (.bool true) s) : wpCall Tryd.prog XX 6 [] K s := by
  obtain ⟨t, h⟩ := h
  exact wp_closedG (by rfl) (by rfl) h hK
theorem Segment_in (h : Rts s v R) (hG : GlK s) (hc : ∀ r ∈ R, ∀ c ∈ r.cm, c.ok) : wpCall Tryd.prog XX 3 [v, .agg x.R] (fun v _ => v = .bool true) s := by
  refine vc_leafmeshlaw25_SegmentMembers_in ⟨rfl, new_step fun eb s1 heb h1 u1 => ?_⟩
  have sub1 := u1.sub heb
  have h := h.sub sub1
  have hG := hG.sub sub1
  refine many_in h ?_ fun hl hr => ?_
  · simp only [boolK_true]
    exact awake_in hG rfl
  have hok : ∀ r ∈ R, r.ok := fun r hm => ⟨hc r hm, hr r hm⟩
  simp only [boolK_false]
  refine OwnRs_in h hok (by omega) fun v6 s7 sub7 h6 => ?_
  have h7 := h.sub sub7
  have hG7 := hG.sub sub7
  have e7 := sub7 _ _ h1
  have r7 : rdN s7 10 (.ptr eb 0) = some x.R := rdN_all e7 rfl
  simp only [r7, optK_mk]
  refine cand_in h6 hG7 hok (by omega) fun v9 s10 sub10 h10 => ?_
  have x0 : ∀ x y : AVal, extractA (.tup [x, y]) 0 = some x := fun _ _ => rfl
  have x1 : ∀ x y : AVal, extractA (.tup [x, y]) 1 = some y := fun _ _ => rfl
  have e10 := sub10 _ _ e7
  have r10 : rdN s10 10 (.ptr eb 0) = some x.R := rdN_all e10 rfl
  simp only [x0, x1, r10, optK_mk]
  refine rcand_in (h7.sub sub10) hok (by omega) fun v14 s15 sub15 h15 => ?_
  have e15 := sub15 _ _ e10
  have hol := putAll_len (cds (qs Tryd.prog x R))
  rw [cds_len] at hol
  have hql := qs_len (R := R) (P := Tryd.prog) (x := x)
  simp only [x0, x1, optK_mk]
  refine SameD_in (h10.sub sub15) h15 (by omega) ?_
  have sub715 := sub10.trans sub15
  have h6' := h6.sub sub715
  have h' := h7.sub sub715
  have hG' := hG7.sub sub715
  rw [fin_eq]
  simp only [boolK_true, eqV_int, beq_self_eq_true, negB_mk, Bool.false_bne, optK_mk]
  have r15 : rdN s15 10 (.ptr eb 0) = some x.R := rdN_all e15 rfl
  simp only [vc_leafmeshlaw25_SegmentMembers_j0, pickV_true, boolK_true, r15, optK_mk]
  refine mem_in h6'.frz (by omega) fun v22 s23 sub23 h22 _ => ?_
  have h22 := h22.addf sub23
  have subA : Sub s15 (add s15 s23) := sub_add
  have eA := subA _ _ e15
  have xc := cut_keep e15 eA
  have rA : rdN (cutH [(s15, add s15 s23)] (add s15 s23)) 10 (.ptr eb 0) = some x.R := rdN_all xc rfl
  simp only [rA, optK_mk]
  have h6A := h6'.sub subA
  have hA := h'.sub subA
  have hGA := hG'.sub subA
  generalize add s15 s23 = sA at *
  refine rmem_in hA hok (by omega) fun v25 s26 sub26 h25 => ?_
  refine SameP_in (h22.sub sub26) h25 (by rw [List.length_map]; omega) ?_
  simp only [pickV_true, boolK_true, optK_mk]
  refine SameRs_in (h6A.sub sub26) (hA.sub sub26) hok (by omega) fun s31 sub31 => ?_
  simp only [pickV_true, boolK_true, optK_mk]
  refine awake_in ((hGA.sub sub26).sub sub31) ?_
  simp only [pickV_true, boolK_true, optK_mk]
end Go.AM.SG
namespace Go.AM
open Go Go.Proofs
theorem Segment_wp (s : Heap) (xs : List AVal) (hg : s 0 = some (true, .glob 0 (.agg kindsL))) (h : ArgL Tryd.prog s 40 [22, 24] xs) : wpCall Tryd.prog XX 3 xs (fun v _ => v = .bool true) s := by
  obtain ⟨a, b, rfl, h1, h2⟩ := argl2 h
  obtain ⟨R, hR, hc, hm⟩ := SG.arg_rts h1
  obtain ⟨x, rfl⟩ := SG.arg_es h2
  exact SG.Segment_in hR ⟨_, hg⟩ hc
end Go.AM
