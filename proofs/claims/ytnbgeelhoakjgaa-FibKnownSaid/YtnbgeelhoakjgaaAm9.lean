/- Part 9 of a calculation in a small memory that is proved to answer as the program does: see the last part. -/
import Derived.Test.YtnbgeelhoakjgaaAm8
namespace Go.AM
open Go Go.RowKit

section
variable {P : Program} {σ : Nat → Value} {ρ : Ren} {base : Nat} {H H' : AHeap} {w : World}
/-- what a piece of concrete work must come to -/
def Okay (σ : Nat → Value) (ρ : Ren) (base : Nat) (H H' : AHeap) (w : World) {β : Type} (R : Ren → β → Prop) (r : Result β) : Prop :=
  ∃ b w' ρ', r = .ok b w' ∧ Ext ρ ρ' H.next H'.next ∧ WR σ ρ' base H' w' ∧ Below base w w' ∧ R ρ' b
theorem Okay.same {β : Type} {R : Ren → β → Prop} {r : Result β} {b : β} (hr : r = .ok b w) (hwr : WR σ ρ base H w) (hb : H'.blks = H.blks) (hl : H'.lo = H.lo) (h : R ρ b) : Okay σ ρ base H H' w R r :=
  ⟨b, w, ρ, hr, .refl _ _ _, hwr.log hb hl, .refl _ _, h⟩
theorem rd_some {id : Nat} {b : ABlk} (h : rd id H = some (b, H')) : H.blks.get id = some b ∧ H'.blks = H.blks ∧ H'.lo = H.lo ∧ H'.next = H.next := by
  unfold rd at h
  split at h
  · cases h
  · rename_i b' hb; cases h; exact ⟨hb, rfl, rfl, rfl⟩
theorem wr_some {id : Nat} {b : ABlk} {u : Unit} (h : wr id b H = some (u, H')) : H.lo ≤ id ∧ (∃ b0, H.blks.get id = some b0) ∧ (∀ j, H'.blks.get j = if id = j then some b else H.blks.get j) ∧ H'.lo = H.lo ∧ H'.next = H.next := by
  unfold wr at h
  have hc := condO_some h
  clear h
  obtain ⟨hlo, h⟩ := hc
  split at h
  · cases h
  · rename_i b0 hb; cases h
    exact ⟨by simpa [Nat.ble_eq] using hlo, ⟨b0, hb⟩, fun j => Tr.get_put _ _ _ _, rfl, rfl⟩
theorem kill_some {id : Nat} {u : Unit} (h : kill id H = some (u, H')) : H.lo ≤ id ∧ (∃ b0, H.blks.get id = some b0) ∧ (∀ j, H'.blks.get j = if id = j then none else H.blks.get j) ∧ H'.lo = H.lo ∧ H'.next = H.next := by
  unfold kill at h
  have hc := condO_some h
  clear h
  obtain ⟨hlo, h⟩ := hc
  split at h
  · cases h
  · rename_i b0 hb; cases h
    exact ⟨by simpa [Nat.ble_eq] using hlo, ⟨b0, hb⟩, fun j => Tr.get_put _ _ _ _, rfl, rfl⟩
theorem nw_some {b : ABlk} {n : Nat} (h : nw b H = some (n, H')) : n = H.next ∧ H.lo ≤ H.next ∧ (∀ j, H'.blks.get j = if H.next = j then some b else H.blks.get j) ∧ H'.lo = H.lo ∧ H'.next = H.next + 1 := by
  unfold nw at h
  rw [frcN_eq] at h
  have hc := condO_some h
  clear h
  obtain ⟨hlo, h⟩ := hc
  cases h
  exact ⟨rfl, by simpa [Nat.ble_eq] using hlo, fun j => Tr.get_put _ _ _ _, rfl, rfl⟩

theorem cell_of {B : Nat} {cc : Array Value} {e : TypeId} {fr : Nat × Nat} (h : w.heap[B]? = some (.cells cc e fr)) (k : Nat) : w.cell? ⟨B, k, none⟩ = cc[k]? := by
  simp [World.cell?, h]
theorem frozen_of {B : Nat} {cc : Array Value} {e : TypeId} (h : w.heap[B]? = some (.cells cc e (0, 0))) (k : Nat) : w.frozen? ⟨B, k, none⟩ = false := by
  simp [World.frozen?, h]
theorem setCell_upd {B k : Nat} {cc : Array Value} {e : TypeId} {fr : Nat × Nat} (v : Value) (h : w.heap[B]? = some (.cells cc e fr)) :
    Upd w B (.cells (cc.setIfInBounds k v) e fr) (w.setCell ⟨B, k, none⟩ v) := by
  refine ⟨rfl, rfl, rfl, by simp, ?_, fun j hj => Below.heap_setCell _ _ _ _ hj⟩
  simp [World.setCell, Array.getElem?_modify, h]
theorem Upd.trans {w1 w2 : World} {B : Nat} {o1 o2 : Obj} (h : Upd w B o1 w1) (k : Upd w1 B o2 w2) : Upd w B o2 w2 :=
  ⟨k.os.trans h.os, k.tape.trans h.tape, k.output.trans h.output, Nat.le_trans h.size k.size, k.at_, fun j hj => (k.other j hj).trans (h.other j hj)⟩
theorem Upd.self {B : Nat} {o : Obj} (h : w.heap[B]? = some o) : Upd w B o w := ⟨rfl, rfl, rfl, Nat.le_refl _, h, fun _ _ => rfl⟩
theorem run_storeCells {B k : Nat} {e : TypeId} : ∀ (vs : List Value) (i : Nat) (w : World) (cc : Array Value), w.heap[B]? = some (.cells cc e (0, 0)) → k + i + vs.length ≤ cc.size →
    (∀ v ∈ vs, v.oneCell' = true) → ∃ w' cc', (storeCells ⟨B, k, none⟩ vs i).run P w = .ok () w' ∧ Upd w B (.cells cc' e (0, 0)) w' ∧ cc'.size = cc.size ∧
      ∀ j, cc'[j]? = if k + i ≤ j ∧ j < k + i + vs.length then vs[j - (k + i)]? else cc[j]? := by
  intro vs
  induction vs with
  | nil =>
    intro i w cc h _ _
    refine ⟨w, cc, by simp [storeCells], Upd.self h, rfl, fun j => ?_⟩
    rw [if_neg (by simp only [List.length_nil]; omega)]
  | cons v vs ih =>
    intro i w cc h hl h1
    simp only [List.length_cons] at hl
    have hlt : k + i < cc.size := by omega
    have hcell : w.cell? ⟨B, k + i, none⟩ = some cc[k + i] := by rw [cell_of h]; exact Array.getElem?_eq_getElem hlt
    have hst : (store ((⟨B, k, none⟩ : Addr).add i) v).run P w = .ok () (w.setCell ⟨B, k + i, none⟩ v) := by
      rw [addr_add, run_store P w _ v _ (h1 v (by simp)), hcell]
      simp [frozen_of h]
    have hu := setCell_upd (w := w) (k := k + i) v h
    obtain ⟨w', cc', e1, u1, s1, g1⟩ := ih (i + 1) (w.setCell ⟨B, k + i, none⟩ v) _ hu.at_ (by simp; omega) (fun x hx => h1 x (by simp [hx]))
    refine ⟨w', cc', by simp [storeCells, hst, e1], hu.trans u1, by simpa using s1, fun j => ?_⟩
    rw [g1 j]
    by_cases hj : j = k + i
    · subst hj
      rw [if_neg (by omega), if_pos (by simp)]
      simp [hlt]
    · by_cases hj2 : k + (i + 1) ≤ j ∧ j < k + (i + 1) + vs.length
      · rw [if_pos hj2, if_pos (by simp only [List.length_cons]; omega)]
        have : j - (k + i) = (j - (k + (i + 1))) + 1 := by omega
        rw [this, List.getElem?_cons_succ]
      · rw [if_neg hj2, if_neg (by simp only [List.length_cons]; omega)]
        rw [Array.getElem?_setIfInBounds_ne (by omega)]

theorem cellsAt_spec {c : Tr AVal} : ∀ (n o : Nat) (l : List AVal), cellsAt c o n = some l → l.length = n ∧ ∀ i x, l[i]? = some x → c.get (o + i) = some x := by
  intro n
  induction n with
  | zero => intro o l h; cases h; exact ⟨rfl, fun i x h => by simp at h⟩
  | succ n ih =>
    intro o l h
    unfold cellsAt at h
    split at h
    · cases h
    · rename_i v hv
      split at h
      · cases h
      · rename_i vs hvs
        cases h
        obtain ⟨h1, h2⟩ := ih _ _ hvs
        refine ⟨by simp [h1], fun i x hx => ?_⟩
        cases i with
        | zero => simp at hx; subst hx; exact hv
        | succ i => simp at hx; have := h2 i x hx; rw [show o + (i + 1) = o + 1 + i from by omega]; exact this
/-- the cells that an abstract block shows, in the world -/
theorem cells_read {b o n : Nat} {l : List AVal} {e : TypeId} {c : Tr AVal} {N : Nat} {L : Loc} (hwr : WR σ ρ base H w) (hb : H.blks.get b = some (.cells e c N)) (hL : ρ b = some L) (hl : cellsAt c o n = some l) :
    ∃ vs : List Value, vs.length = n ∧ RelL σ ρ l vs ∧ (∀ v ∈ vs, v.oneCell' = true) ∧ ∀ j v, vs[j]? = some v → w.cell? ((⟨L.blk, L.sh + o, none⟩ : Addr).add j) = some v := by
  obtain ⟨L', hL', cc, fr, h1, _, _, _, h5⟩ := hwr.blk b _ hb
  rw [hL] at hL'; cases hL'
  obtain ⟨hlen, hget⟩ := cellsAt_spec n o l hl
  have key : ∀ i x, l[i]? = some x → ∃ v, cc[L.sh + o + i]? = some v ∧ Rel σ ρ x v ∧ v.oneCell' = true := by
    intro i x hx
    obtain ⟨v, a, b, c⟩ := h5 _ _ (hget i x hx)
    exact ⟨v, by rw [Nat.add_assoc]; exact a, b, c⟩
  refine ⟨(List.range n).map fun i => (cc[L.sh + o + i]?).getD undef, by simp, ?_, ?_, ?_⟩
  · refine RelL.of_get (by simp [hlen]) fun i x y hx hy => ?_
    obtain ⟨v, a, b, _⟩ := key i x hx
    have hi : i < n := by rw [← hlen]; exact (List.getElem?_eq_some_iff.1 hx).1
    simp [List.getElem?_map, List.getElem?_range hi, a] at hy
    subst hy; exact b
  · intro v hv
    simp only [List.mem_map, List.mem_range] at hv
    obtain ⟨i, hi, rfl⟩ := hv
    have : l[i]? = some l[i] := List.getElem?_eq_getElem (by omega)
    obtain ⟨v, a, _, c⟩ := key i _ this
    rw [a]; exact c
  · intro j v hv
    have hj : j < n := by have := (List.getElem?_eq_some_iff.1 hv).1; simpa using this
    have : l[j]? = some l[j] := List.getElem?_eq_getElem (by omega)
    obtain ⟨v', a, _, _⟩ := key j _ this
    simp [List.getElem?_map, List.getElem?_range hj, a] at hv
    subst hv
    rw [addr_add, cell_of h1]; exact a
theorem loadCellsA_ok {b o n : Nat} {l : List AVal} {L : Loc} (h : loadCellsA b o n H = some (l, H')) (hwr : WR σ ρ base H w) (hL : ρ b = some L) :
    H'.blks = H.blks ∧ H'.lo = H.lo ∧ H'.next = H.next ∧ ∃ vs : List Value, vs.length = n ∧ RelL σ ρ l vs ∧ (∀ v ∈ vs, v.oneCell' = true) ∧ (∀ j v, vs[j]? = some v → w.cell? ((⟨L.blk, L.sh + o, none⟩ : Addr).add j) = some v) ∧
      (loadCells ⟨L.blk, L.sh + o, none⟩ n).run P w = .ok vs.toArray w := by
  obtain ⟨blk, K, h1, h2⟩ := bd_some h
  obtain ⟨hb, e1, e2, e3⟩ := rd_some h1
  split at h2
  · rename_i e c N
    obtain ⟨l', hl, e⟩ := lift_some h2
    cases e
    obtain ⟨vs, a1, a2, a3, a4⟩ := cells_read hwr hb hL hl
    refine ⟨e1, e2, e3, vs, a1, a2, a3, a4, ?_⟩
    have := run_loadCells_list (P := P) (w := w) ⟨L.blk, L.sh + o, none⟩ vs a4
    rw [a1] at this; exact this
  · exact (fail_some h2).elim
theorem loadA_ok {t : TypeId} {b o : Nat} {v : AVal} {L : Loc} (h : loadA P t b o H = some (v, H')) (hwr : WR σ ρ base H w) (hL : ρ b = some L) :
    H'.blks = H.blks ∧ H'.lo = H.lo ∧ H'.next = H.next ∧ ∃ v', (loadVar t ⟨L.blk, L.sh + o, none⟩).run P w = .ok v' w ∧ Rel σ ρ v v' := by
  unfold loadA at h
  cases ha : isAggT P t with
  | none => simp only [ha] at h; exact (fail_some h).elim
  | some g =>
    cases g with
    | true =>
      simp only [ha] at h
      cases hs : sz P t with
      | none => simp only [hs] at h; exact (fail_some h).elim
      | some n =>
        simp only [hs] at h
        obtain ⟨l, K, h1, h2⟩ := bd_some h
        cases ret_some h2
        obtain ⟨e1, e2, e3, vs, _, r, _, _, e⟩ := loadCellsA_ok (P := P) h1 hwr hL
        exact ⟨e1, e2, e3, .agg vs.toArray, by simp [loadVar, isAgg_run ha, sz_run hs, e], by unfold Rel; exact ⟨_, rfl, by simpa using r⟩⟩
    | false =>
      simp only [ha] at h
      obtain ⟨blk, K, h1, h2⟩ := bd_some h
      obtain ⟨hb, e1, e2, e3⟩ := rd_some h1
      cases blk with
      | cells e c N =>
        simp only at h2
        obtain ⟨x, hx, e⟩ := lift_some h2
        cases e
        obtain ⟨L', hL', cc, fr, h1, _, _, _, h5⟩ := hwr.blk b _ hb
        rw [hL] at hL'; cases hL'
        obtain ⟨v', a, r, _⟩ := h5 _ _ hx
        exact ⟨e1, e2, e3, v', by simp [loadVar, isAgg_run ha, cell_of h1, a], r⟩
      | _ => exact (fail_some h2).elim
theorem allOne_spec {l : List AVal} (h : allOne l = true) : ∀ x ∈ l, x.one = true := by
  induction l with
  | nil => simp
  | cons y ys ih =>
    simp only [allOne, Bool.and_eq_true] at h
    intro x hx
    rcases List.mem_cons.1 hx with rfl | hx
    · exact h.1
    · exact ih h.2 x hx
theorem rel_one {l : List AVal} {vs : List Value} (hσ : One σ) (h : allOne l = true) (hr : RelL σ ρ l vs) : ∀ v ∈ vs, v.oneCell' = true := by
  intro v hv
  obtain ⟨i, hi⟩ := List.getElem?_of_mem hv
  have hlt : i < l.length := by rw [← hr.length]; exact (List.getElem?_eq_some_iff.1 hi).1
  have hx : l[i]? = some l[i] := List.getElem?_eq_getElem hlt
  obtain ⟨y, hy, r⟩ := hr.get i _ hx
  rw [hi] at hy; cases hy
  exact one_cell hσ r (allOne_spec h _ (List.getElem_mem hlt))
theorem storeCellsA_ok {b o : Nat} {vs : List AVal} {u : Unit} {L : Loc} {vs' : List Value} (h : storeCellsA b o vs H = some (u, H')) (hσ : One σ) (hwr : WR σ ρ base H w) (hL : ρ b = some L) (hr : RelL σ ρ vs vs') :
    H'.next = H.next ∧ H'.lo = H.lo ∧ ∃ w', (storeCells ⟨L.blk, L.sh + o, none⟩ vs').run P w = .ok () w' ∧ WR σ ρ base H' w' ∧ Below base w w' := by
  obtain ⟨blk, K, h1, h2⟩ := bd_some h
  obtain ⟨hb, e1, e2, e3⟩ := rd_some h1
  split at h2
  · rename_i e c N
    obtain ⟨hc, h2⟩ := cond_some h2
    rw [Bool.and_eq_true] at hc
    have hle : o + vs.length ≤ N := by simpa [Nat.ble_eq] using hc.1
    obtain ⟨hlo, _, hk, hkl, hkn⟩ := wr_some h2
    rw [e2] at hlo
    obtain ⟨L', hL', cc, fr, p1, p2, p3, p4, p5⟩ := hwr.blk b _ hb
    rw [hL] at hL'; cases hL'
    have hfr := p2 hlo
    subst hfr
    have hlen := hr.length
    obtain ⟨w', cc', q1, q2, q3, q4⟩ := run_storeCells (P := P) (k := L.sh + o) vs' 0 w cc p1 (by rw [hlen]; omega) (rel_one hσ hc.2 hr)
    have hput := hwr.put (K := H') (b := .cells e (Tr.ofListAt c o vs) N) hb hL hlo q2 (by
      refine ⟨cc', (0, 0), rfl, fun _ => rfl, by rw [q3, p3], by rw [q3]; exact p4, fun i v hv => ?_⟩
      rw [Tr.get_ofListAt] at hv
      rw [q4]
      split at hv
      · rename_i hi
        rw [if_pos (by rw [hlen]; omega)]
        obtain ⟨y, hy, r⟩ := hr.get _ _ hv
        refine ⟨y, ?_, r, rel_one hσ hc.2 hr y (List.mem_of_getElem? hy)⟩
        rw [← hy]; congr 1; omega
      · rename_i hi
        rw [if_neg (by rw [hlen]; omega)]
        exact p5 i v hv) (fun j => by rw [hk, e1]) (hkl.trans e2)
    exact ⟨hkn.trans e3, hkl.trans e2, w', q1, hput.1, hput.2⟩
  · exact (fail_some h2).elim
theorem live_lt {j : Nat} {bj : ABlk} {Lj : Loc} (hwr : WR σ ρ base H w) (h : H.blks.get j = some bj) (hL : ρ j = some Lj) : Lj.blk < w.heap.size := by
  obtain ⟨L', hL', hb⟩ := hwr.blk j _ h
  rw [hL] at hL'; cases hL'
  obtain ⟨o, ho⟩ := hb.some
  exact lt_of_get ho
theorem newCells_ok {elem : TypeId} {cs : List AVal} {id : Nat} (h : newCells elem cs H = some (id, H')) (hσ : One σ) (hwr : WR σ ρ base H w) (hf : Free ρ H.next H'.next) {B sh : Nat} {cc : Array Value} {w' : World}
    (hu : Upd w B (.cells cc elem (0, 0)) w') (hB : base ≤ B) (hdead : ∀ j bj Lj, H.blks.get j = some bj → ρ j = some Lj → Lj.blk ≠ B) (hlen : sh + cs.length ≤ cc.size)
    (hrel : ∀ i x, cs[i]? = some x → ∃ v, cc[sh + i]? = some v ∧ Rel σ ρ x v) :
    id = H.next ∧ H'.next = H.next + 1 ∧ H'.lo = H.lo ∧ ∃ ρ', Ext ρ ρ' H.next H'.next ∧ ρ' id = some ⟨B, sh, cc.size⟩ ∧ WR σ ρ' base H' w' ∧ Below base w w' := by
  obtain ⟨hc, h⟩ := cond_some h
  obtain ⟨rfl, hlo, hk, hkl, hkn⟩ := nw_some h
  have hn : ρ H.next = none := hf H.next (Nat.le_refl _) (by omega)
  obtain ⟨ρ', x1, x2, x3, x4⟩ := hwr.new (L := ⟨B, sh, cc.size⟩) (b := .cells elem (Tr.ofListAt .nil 0 cs) cs.length) hn hdead hB hu (fun ρ' hle _ => by
    refine ⟨cc, (0, 0), rfl, fun _ => rfl, rfl, hlen, fun i v hv => ?_⟩
    rw [Tr.get_ofListAt, Tr.get_nil] at hv
    split at hv
    · obtain ⟨y, hy, r⟩ := hrel _ _ hv
      have : i - 0 = i := by omega
      rw [this] at hy hv
      exact ⟨y, hy, Rel.mono hle _ _ r, one_cell hσ r (allOne_spec hc _ (List.mem_of_getElem? hv))⟩
    · cases hv) hk hkl hkn
  exact ⟨rfl, hkn, hkl, ρ', x1, x2, x3, x4⟩
theorem push_upd (w : World) (o : Obj) : Upd w w.heap.size o (w.alloc o) :=
  ⟨rfl, rfl, rfl, by simp, by show (w.heap.push o)[w.heap.size]? = some o; simp, fun k hk => by
    show (w.heap.push o)[k]? = w.heap[k]?; rw [Array.getElem?_push, if_neg hk]⟩
/-- a fresh row -/
theorem fresh_ok {elem : TypeId} {cs : List AVal} {id : Nat} (h : newCells elem cs H = some (id, H')) (hσ : One σ) (hwr : WR σ ρ base H w) (hf : Free ρ H.next H'.next) {vs : List Value} (rest : List Value) (hr : RelL σ ρ cs vs) :
    id = H.next ∧ H'.next = H.next + 1 ∧ H'.lo = H.lo ∧ ∃ ρ', Ext ρ ρ' H.next H'.next ∧ ρ' id = some ⟨w.heap.size, 0, vs.length + rest.length⟩ ∧ WR σ ρ' base H' (w.alloc (.cells (vs ++ rest).toArray elem)) ∧ Below base w (w.alloc (.cells (vs ++ rest).toArray elem)) := by
  have hl := hr.length
  have := newCells_ok h hσ hwr hf (sh := 0) (push_upd w (.cells (vs ++ rest).toArray elem)) hwr.base (fun j bj Lj hj hLj => Nat.ne_of_lt (live_lt hwr hj hLj)) (by simp [hl]) (fun i x hx => by
    obtain ⟨y, hy, r⟩ := hr.get i x hx
    refine ⟨y, ?_, r⟩
    have hi : i < vs.length := (List.getElem?_eq_some_iff.1 hy).1
    simp [List.getElem?_append_left hi, hy])
  simpa using this
end
end Go.AM
