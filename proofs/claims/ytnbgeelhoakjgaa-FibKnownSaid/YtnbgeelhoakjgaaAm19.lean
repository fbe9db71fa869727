/- Part 19 of a calculation in a small memory that is proved to answer as the program does: see the last part. -/
import Derived.Test.YtnbgeelhoakjgaaAm18
namespace Go.AM
open Go Go.RowKit
section
variable {P : Program} {σ : Nat → Value} {base nt : Nat} {ih : Task → M Out}

/-- the whole of a drawn region's work in text order -/
structure Trace (P : Program) (ih : Task → M Out) (nt : Nat) (ops : Array Oper) (Ts : Nat → Tmps) (Hs : Nat → AHeap) (vs : Nat → AVal) (es : Nat → List (Nat × Bool)) : Prop where
  did : ∀ j o, ops[j]? = some o → Did P ih nt ops.toList o (Ts j) (Hs j) (vs j) (es j) (Ts (j + 1)) (Hs (j + 1))
  back : ∀ (j : Nat) (o : Oper), ops[j]? = some o → ∀ e ∈ o.after, Region.binds .any e = true → e.on < j
  sep : ∀ i j p o, i < j → ops[i]? = some p → ops[j]? = some o → ∃ mk, (masks ops.toList [])[j]? = some mk ∧ Sep ops mk i p o (es i) (es j)
/-- what a block holds, and a slot, when those of the set have been done -/
noncomputable def cut (Hs : Nat → AHeap) (es : Nat → List (Nat × Bool)) (X : Nat → Prop) : Nat → Nat → Option ABlk
  | 0, id => (Hs 0).blks.get id
  | j + 1, id => by
    classical
    exact if X j ∧ (id, true) ∈ es j then (Hs (j + 1)).blks.get id else cut Hs es X j id
noncomputable def cutT (ops : Array Oper) (Ts : Nat → Tmps) (vs : Nat → AVal) (X : Nat → Prop) : Nat → Nat → AVal
  | 0, t => tget (Ts 0) t
  | j + 1, t => by
    classical
    exact if X j ∧ ((ops[j]?).bind (·.dst)) = some t then vs j else cutT ops Ts vs X j t
theorem cut_yes {Hs : Nat → AHeap} {es : Nat → List (Nat × Bool)} {X : Nat → Prop} {j id : Nat} (h : X j) (h2 : (id, true) ∈ es j) : cut Hs es X (j + 1) id = (Hs (j + 1)).blks.get id := by
  unfold cut; exact if_pos ⟨h, h2⟩
theorem cut_no {Hs : Nat → AHeap} {es : Nat → List (Nat × Bool)} {X : Nat → Prop} {j id : Nat} (h : X j → (id, true) ∉ es j) : cut Hs es X (j + 1) id = cut Hs es X j id := by
  conv => lhs; unfold cut
  exact if_neg fun k => h k.1 k.2
theorem cutT_yes {ops : Array Oper} {Ts : Nat → Tmps} {vs : Nat → AVal} {X : Nat → Prop} {j t : Nat} {o : Oper} (h : X j) (ho : ops[j]? = some o) (h2 : o.dst = some t) : cutT ops Ts vs X (j + 1) t = vs j := by
  unfold cutT; exact if_pos ⟨h, by simp [ho, h2]⟩
theorem cutT_no {ops : Array Oper} {Ts : Nat → Tmps} {vs : Nat → AVal} {X : Nat → Prop} {j t : Nat} (h : X j → ∀ o, ops[j]? = some o → o.dst ≠ some t) : cutT ops Ts vs X (j + 1) t = cutT ops Ts vs X j t := by
  conv => lhs; unfold cutT
  refine if_neg fun k => ?_
  cases ho : ops[j]? with
  | none => simp [ho] at k
  | some o => exact h k.1 o ho (by simpa [ho] using k.2)
theorem tget_put {T T' : Tmps} {dst : Option Tmp} {v : AVal} (h : setT nt T dst v = some T') (t : Nat) : tget T' t = if dst = some t then v else tget T t := by
  cases dst with
  | none => cases h; simp
  | some d =>
    simp only [setT] at h
    obtain ⟨_, h⟩ := condO_some h
    cases h
    simp only [tget, Tr.get_put]
    by_cases e : d = t
    · simp [e]
    · simp [e]
variable {ops : Array Oper} {Ts : Nat → Tmps} {Hs : Nat → AHeap} {vs : Nat → AVal} {es : Nat → List (Nat × Bool)}
def Closed (ops : Array Oper) (X : Nat → Prop) : Prop := ∀ (j : Nat) (o : Oper), ops[j]? = some o → X j → ∀ e ∈ o.after, Region.binds .any e = true → X e.on
namespace Trace
variable (tr : Trace P ih nt ops Ts Hs vs es)
include tr
/-- one that waits for nothing more, and one later that has been done -/
theorem later {X : Nat → Prop} (hX : Closed ops X) {j i : Nat} {o p : Oper} (ho : ops[j]? = some o) (hj : ¬ X j) (hij : j < i) (hi : X i) (hp : ops[i]? = some p) : Oper.apart ops o p = true ∧ clash (es j) (es i) = false := by
  obtain ⟨mk, h1, h2⟩ := tr.sep j i o p hij ho hp
  rcases h2 with h2 | h2
  · exact absurd (mask_closed tr.back X hX i p mk j hp h1 h2 (hX i p hp hi)) hj
  · exact h2
/-- and one earlier that has not -/
theorem earlier {X : Nat → Prop} (hX : Closed ops X) {j i : Nat} {o p : Oper} (ho : ops[j]? = some o) (hr : ∀ e ∈ o.after, Region.binds .any e = true → X e.on) (hij : i < j) (hi : ¬ X i) (hp : ops[i]? = some p) : Oper.apart ops p o = true ∧ clash (es i) (es j) = false := by
  obtain ⟨mk, h1, h2⟩ := tr.sep i j p o hij hp ho
  rcases h2 with h2 | h2
  · exact absurd (mask_closed tr.back X hX j o mk i ho h1 h2 hr) hi
  · exact h2
theorem blk_late {X : Nat → Prop} (hX : Closed ops X) {j : Nat} {o : Oper} (ho : ops[j]? = some o) (hj : ¬ X j) {id : Nat} {c : Bool} (hid : (id, c) ∈ es j) : ∀ d, j + 1 + d ≤ ops.size → ∀ Y : Nat → Prop, (∀ i, j < i → (Y i ↔ X i)) → cut Hs es Y (j + 1 + d) id = cut Hs es Y (j + 1) id := by
  intro d
  induction d with
  | zero => intro _ _ _; rfl
  | succ d ih2 =>
    intro hd Y hY
    rw [show j + 1 + (d + 1) = (j + 1 + d) + 1 from by omega, cut_no, ih2 (by omega) Y hY]
    intro hy hin
    have hp : ops[j + 1 + d]? = some ops[j + 1 + d] := Array.getElem?_eq_getElem (by omega)
    obtain ⟨_, h2⟩ := tr.later hX ho hj (by omega : j < j + 1 + d) ((hY _ (by omega)).1 hy) hp
    have := clash_spec h2 id c true hid hin
    simp at this
theorem blk_early {X : Nat → Prop} (hX : Closed ops X) {j : Nat} {o : Oper} (ho : ops[j]? = some o) (hr : ∀ e ∈ o.after, Region.binds .any e = true → X e.on) {id : Nat} {c : Bool} (hid : (id, c) ∈ es j) : ∀ k, k ≤ j → cut Hs es X k id = (Hs k).blks.get id := by
  have hjlt := (Array.getElem?_eq_some_iff.1 ho).1
  intro k
  induction k with
  | zero => intro _; rfl
  | succ k ih2 =>
    intro hk
    have hp : ops[k]? = some ops[k] := Array.getElem?_eq_getElem (by omega)
    by_cases hin : (id, true) ∈ es k
    · by_cases hxk : X k
      · exact cut_yes hxk hin
      · obtain ⟨_, h2⟩ := tr.earlier hX ho hr (by omega : k < j) hxk hp
        have := clash_spec h2 id true c hin hid
        simp at this
    · rw [cut_no (fun _ => hin), ih2 (by omega), (tr.did k _ hp).does.same id hin]
theorem blk_ready {X : Nat → Prop} (hX : Closed ops X) {j : Nat} {o : Oper} (ho : ops[j]? = some o) (hj : ¬ X j) (hr : ∀ e ∈ o.after, Region.binds .any e = true → X e.on) {id : Nat} {c : Bool} (hid : (id, c) ∈ es j) : cut Hs es X ops.size id = (Hs j).blks.get id := by
  have hjlt := (Array.getElem?_eq_some_iff.1 ho).1
  have h1 := tr.blk_late hX ho hj hid (ops.size - (j + 1)) (by omega) X (fun _ _ => Iff.rfl)
  rw [show j + 1 + (ops.size - (j + 1)) = ops.size from by omega] at h1
  rw [h1, cut_no (fun h => absurd h hj), tr.blk_early hX ho hr hid j (Nat.le_refl _)]
omit tr in
theorem blk_same {X Y : Nat → Prop} {id : Nat} : ∀ n, (∀ i, i < n → (id, true) ∈ es i → (X i ↔ Y i)) → cut Hs es X n id = cut Hs es Y n id := by
  intro n
  induction n with
  | zero => intro _; rfl
  | succ n ih2 =>
    intro h
    by_cases hin : (id, true) ∈ es n
    · by_cases hx : X n
      · rw [cut_yes hx hin, cut_yes ((h n (by omega) hin).1 hx) hin]
      · rw [cut_no (fun k => absurd k hx), cut_no (fun k => absurd ((h n (by omega) hin).2 k) hx), ih2 fun i hi => h i (by omega)]
    · rw [cut_no (fun _ => hin), cut_no (fun _ => hin), ih2 fun i hi => h i (by omega)]
theorem blk_step {X : Nat → Prop} (hX : Closed ops X) {j : Nat} {o : Oper} (ho : ops[j]? = some o) (hj : ¬ X j) {H H' : AHeap} (hH : ∀ id, H.blks.get id = cut Hs es X ops.size id)
    (hd : ∀ id, (id, true) ∉ es j → H'.blks.get id = H.blks.get id) (hg : ∀ id b, (id, b) ∈ es j → H'.blks.get id = (Hs (j + 1)).blks.get id) (id : Nat) : H'.blks.get id = cut Hs es (fun i => i = j ∨ X i) ops.size id := by
  have hjlt := (Array.getElem?_eq_some_iff.1 ho).1
  by_cases hin : (id, true) ∈ es j
  · rw [hg id true hin]
    have h1 := tr.blk_late hX ho hj hin (ops.size - (j + 1)) (by omega) (fun i => i = j ∨ X i) (fun i hi => ⟨fun h => h.resolve_left (by omega), .inr⟩)
    rw [show j + 1 + (ops.size - (j + 1)) = ops.size from by omega] at h1
    rw [h1, cut_yes (.inl rfl) hin]
  · rw [hd id hin, hH]
    refine blk_same ops.size fun i _ hi => ⟨.inr, fun h => ?_⟩
    rcases h with rfl | h
    · exact absurd hi hin
    · exact h
theorem blk_all {X : Nat → Prop} (hX : ∀ i, i < ops.size → X i) (id : Nat) : ∀ n, n ≤ ops.size → cut Hs es X n id = (Hs n).blks.get id := by
  intro n
  induction n with
  | zero => intro _; rfl
  | succ n ih2 =>
    intro hn
    by_cases hin : (id, true) ∈ es n
    · exact cut_yes (hX n (by omega)) hin
    · have hp : ops[n]? = some ops[n] := Array.getElem?_eq_getElem (by omega)
      rw [cut_no (fun _ => hin), ih2 (by omega), (tr.did n _ hp).does.same id hin]
theorem tmp_late {X : Nat → Prop} (hX : Closed ops X) {j : Nat} {o : Oper} (ho : ops[j]? = some o) (hj : ¬ X j) {t : Nat} (ht : t ∈ o.looksAt ops ∨ o.dst = some t) : ∀ d, j + 1 + d ≤ ops.size → ∀ Y : Nat → Prop, (∀ i, j < i → (Y i ↔ X i)) → cutT ops Ts vs Y (j + 1 + d) t = cutT ops Ts vs Y (j + 1) t := by
  intro d
  induction d with
  | zero => intro _ _ _; rfl
  | succ d ih2 =>
    intro hd Y hY
    rw [show j + 1 + (d + 1) = (j + 1 + d) + 1 from by omega, cutT_no, ih2 (by omega) Y hY]
    intro hy p hp hdst
    obtain ⟨h1, _⟩ := tr.later hX ho hj (by omega : j < j + 1 + d) ((hY _ (by omega)).1 hy) hp
    obtain ⟨_, g2, g3⟩ := Oper.apart_spec h1
    rcases ht with ht | ht
    · exact g3 t hdst ht
    · exact g2 t ht hdst
theorem tmp_early {X : Nat → Prop} (hX : Closed ops X) {j : Nat} {o : Oper} (ho : ops[j]? = some o) (hr : ∀ e ∈ o.after, Region.binds .any e = true → X e.on) {t : Nat} (ht : t ∈ o.looksAt ops) : ∀ k, k ≤ j → cutT ops Ts vs X k t = tget (Ts k) t := by
  have hjlt := (Array.getElem?_eq_some_iff.1 ho).1
  intro k
  induction k with
  | zero => intro _; rfl
  | succ k ih2 =>
    intro hk
    have hp : ops[k]? = some ops[k] := Array.getElem?_eq_getElem (by omega)
    rw [tget_put (tr.did k _ hp).set t]
    by_cases hdst : ops[k].dst = some t
    · rw [if_pos hdst]
      by_cases hxk : X k
      · exact cutT_yes hxk hp hdst
      · obtain ⟨h1, _⟩ := tr.earlier hX ho hr (by omega : k < j) hxk hp
        exact absurd ht ((Oper.apart_spec h1).1 t hdst)
    · rw [if_neg hdst, cutT_no (fun _ p hp' => by rw [hp] at hp'; cases hp'; exact hdst), ih2 (by omega)]
theorem tmp_ready {X : Nat → Prop} (hX : Closed ops X) {j : Nat} {o : Oper} (ho : ops[j]? = some o) (hj : ¬ X j) (hr : ∀ e ∈ o.after, Region.binds .any e = true → X e.on) {t : Nat} (ht : t ∈ o.looksAt ops) : cutT ops Ts vs X ops.size t = tget (Ts j) t := by
  have hjlt := (Array.getElem?_eq_some_iff.1 ho).1
  have h1 := tr.tmp_late hX ho hj (.inl ht) (ops.size - (j + 1)) (by omega) X (fun _ _ => Iff.rfl)
  rw [show j + 1 + (ops.size - (j + 1)) = ops.size from by omega] at h1
  rw [h1, cutT_no (fun h => absurd h hj), tr.tmp_early hX ho hr ht j (Nat.le_refl _)]
omit tr in
theorem tmp_same {X Y : Nat → Prop} {t : Nat} : ∀ n, (∀ i, i < n → (∃ p, ops[i]? = some p ∧ p.dst = some t) → (X i ↔ Y i)) → cutT ops Ts vs X n t = cutT ops Ts vs Y n t := by
  intro n
  induction n with
  | zero => intro _; rfl
  | succ n ih2 =>
    intro h
    by_cases hin : ∃ p, ops[n]? = some p ∧ p.dst = some t
    · obtain ⟨p, hp, hd⟩ := hin
      by_cases hx : X n
      · rw [cutT_yes hx hp hd, cutT_yes ((h n (by omega) ⟨p, hp, hd⟩).1 hx) hp hd]
      · rw [cutT_no (fun k => absurd k hx), cutT_no (fun k => absurd ((h n (by omega) ⟨p, hp, hd⟩).2 k) hx), ih2 fun i hi => h i (by omega)]
    · rw [cutT_no (fun _ p hp hd => hin ⟨p, hp, hd⟩), cutT_no (fun _ p hp hd => hin ⟨p, hp, hd⟩), ih2 fun i hi => h i (by omega)]
theorem tmp_step {X : Nat → Prop} (hX : Closed ops X) {j : Nat} {o : Oper} (ho : ops[j]? = some o) (hj : ¬ X j) {T T' : Tmps} (hT : ∀ t, tget T t = cutT ops Ts vs X ops.size t)
    (hs : setT nt T o.dst (vs j) = some T') (t : Nat) : tget T' t = cutT ops Ts vs (fun i => i = j ∨ X i) ops.size t := by
  have hjlt := (Array.getElem?_eq_some_iff.1 ho).1
  rw [tget_put hs t]
  by_cases hd : o.dst = some t
  · rw [if_pos hd]
    have h1 := tr.tmp_late hX ho hj (.inr hd) (ops.size - (j + 1)) (by omega) (fun i => i = j ∨ X i) (fun i hi => ⟨fun h => h.resolve_left (by omega), .inr⟩)
    rw [show j + 1 + (ops.size - (j + 1)) = ops.size from by omega] at h1
    rw [h1, cutT_yes (.inl rfl) ho hd]
  · rw [if_neg hd, hT]
    refine tmp_same ops.size fun i _ hi => ⟨.inr, fun h => ?_⟩
    rcases h with rfl | h
    · obtain ⟨p, hp, hd'⟩ := hi
      rw [ho] at hp; cases hp
      exact absurd hd' hd
    · exact h
theorem tmp_all {X : Nat → Prop} (hX : ∀ i, i < ops.size → X i) (t : Nat) : ∀ n, n ≤ ops.size → cutT ops Ts vs X n t = tget (Ts n) t := by
  intro n
  induction n with
  | zero => intro _; rfl
  | succ n ih2 =>
    intro hn
    have hp : ops[n]? = some ops[n] := Array.getElem?_eq_getElem (by omega)
    rw [tget_put (tr.did n _ hp).set t]
    by_cases hd : ops[n].dst = some t
    · rw [if_pos hd]; exact cutT_yes (hX n (by omega)) hp hd
    · rw [if_neg hd, cutT_no (fun _ p hp' => by rw [hp] at hp'; cases hp'; exact hd), ih2 (by omega)]
theorem next_le : ∀ d j, j + d ≤ ops.size → (Hs j).next ≤ (Hs (j + d)).next := by
  intro d
  induction d with
  | zero => intro j _; exact Nat.le_refl _
  | succ d ih2 =>
    intro j hj
    have hp : ops[j + d]? = some ops[j + d] := Array.getElem?_eq_getElem (by omega)
    exact Nat.le_trans (ih2 j (by omega)) (tr.did _ _ hp).does.next
theorem lo_eq : ∀ j, j ≤ ops.size → (Hs j).lo = (Hs 0).lo := by
  intro j
  induction j with
  | zero => intro _; rfl
  | succ j ih2 =>
    intro hj
    have hp : ops[j]? = some ops[j] := Array.getElem?_eq_getElem (by omega)
    rw [(tr.did _ _ hp).does.lo, ih2 (by omega)]
end Trace
end
end Go.AM
