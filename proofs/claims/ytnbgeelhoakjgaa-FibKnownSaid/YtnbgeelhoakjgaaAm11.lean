/- Part 11 of a calculation in a small memory that is proved to answer as the program does: see the last part. -/
import Derived.Test.YtnbgeelhoakjgaaAm10
import Derived.Laws.Append
namespace Go.AM
open Go Go.RowKit

section
variable {P : Program} {σ : Nat → Value} {ρ : Ren} {base : Nat} {H H' : AHeap} {w : World}
theorem makeSlice_ok {t : TypeId} {l c v : AVal} {l' c' : Value} (h : makeSliceA P t l c H = some (v, H')) (hl : Rel σ ρ l l') (hc : Rel σ ρ c c') (hσ : One σ) (hwr : WR σ ρ base H w) (hf : Free ρ H.next H'.next) :
    Okay σ ρ base H H' w (fun ρ' v' => Rel σ ρ' v v') ((Instr.makeSlice t l' c').run P w) := by
  unfold makeSliceA at h
  cases hu : P.underlying t with
  | none => simp only [hu] at h; exact (fail_some h).elim
  | some d =>
    cases hnl : nat? l with
    | none => cases d <;> simp only [hu, hnl] at h <;> exact (fail_some h).elim
    | some n =>
      cases hnc : nat? c with
      | none => cases d <;> simp only [hu, hnl, hnc] at h <;> exact (fail_some h).elim
      | some m =>
        cases d with
        | slice elem =>
          simp only [hu, hnl, hnc] at h
          cases hz : zeros P elem m with
          | none => simp only [hz] at h; exact (fail_some h).elim
          | some p =>
            obtain ⟨cs, es⟩ := p
            cases hb : bytesOf P elem with
            | none => simp only [hz, hb] at h; exact (fail_some h).elim
            | some by_ =>
              simp only [hz, hb] at h
              obtain ⟨hcd, h⟩ := cond_some h
              rw [Bool.and_eq_true, Bool.and_eq_true] at hcd
              have hnm : n ≤ m := by simpa [Nat.ble_eq] using hcd.1
              have hm : m ≤ 4294967296 := by simpa [Nat.ble_eq] using hcd.2.1
              have hby : by_ ≤ 32768 := by simpa [Nat.ble_eq] using hcd.2.2
              obtain ⟨id, K, h1, h2⟩ := bd_some h
              simp only [frcN_eq] at h2
              cases ret_some h2
              obtain ⟨i, z, zz⟩ := zeros_spec (σ := σ) (ρ := ρ) hz hσ
              obtain ⟨kl, rfl⟩ := nat?_rel hnl hl
              obtain ⟨kc, rfl⟩ := nat?_rel hnc hc
              obtain ⟨rfl, hn, hl, ρ', x1, x2, x3, x4⟩ := fresh_ok h1 hσ hwr hf [] zz.rel
              have hbi : i.bytes = by_ := by simp [bytesOf, zz.info] at hb; exact hb
              have hbytes : (i.bytes : Int) * (m : Int) ≤ 281474976710656 := by
                rw [hbi]
                have : by_ * m ≤ 32768 * 4294967296 := Nat.mul_le_mul hby hm
                have h2 : ((by_ * m : Nat) : Int) ≤ 281474976710656 := by omega
                simpa using h2
              have hrun := run_make w t elem i z hu zz.info zz.zero kl kc (n : Int) (m : Int) (by omega) (by omega) hbytes (by omega)
              simp only [Int.toNat_natCast] at hrun
              have hcy := cycle_eq z.cells m
              have hmc : madeCells z.cells (m * i.size) = (replV m z.cells.toList).toArray := by
                unfold madeCells; rw [zz.size, ← zz.zsize]; exact hcy
              rw [hmc] at hrun
              refine ⟨_, _, ρ', hrun, x1, by simpa using x3, by simpa using x4, ?_⟩
              unfold Rel
              refine ⟨_, _, m, x2, rfl, .inl ⟨rfl, ?_⟩, hnm, fun k hk => by cases hk; rfl⟩
              simp [replV_length, zz.zsize]
        | _ => simp only [hu, hnl, hnc] at h; exact (fail_some h).elim

theorem firstA_ok {es n : Nat} {x : AVal} {l : List AVal} {x' : Value} {len : Nat} (h : firstA es n x H = some (l, H')) (hx : Rel σ ρ x x') (hlen : lenOfA x = some len) (hn : n ≤ len) (hwr : WR σ ρ base H w) :
    H'.blks = H.blks ∧ H'.lo = H.lo ∧ H'.next = H.next ∧ ∃ vs : List Value, vs.length = n * es ∧ RelL σ ρ l vs ∧ (∀ v ∈ vs, v.oneCell' = true) ∧
      (∀ b off, x' = .slice (some b) len off → ∀ j v, vs[j]? = some v → w.cell? (b.add j) = some v) ∧
      ∀ w2 : World, w2.heap = w.heap → (Builtin.firstCells es n x').run P w2 = .ok vs.toArray w2 := by
  unfold firstA at h
  split at h
  · rename_i b o ln cap es'
    have hcs := cond_some h
    clear h
    obtain ⟨he, h⟩ := hcs
    have he := Nat.eq_of_beq_eq_true he
    subst he
    cases hlen
    unfold Rel at hx
    obtain ⟨L, a, c, hL, rfl, hoff, hlc, _⟩ := hx
    cases hz : Nat.beq (n * es) 0 with
    | true =>
      rw [hz] at h
      cases ret_some h
      have hne := Nat.eq_of_beq_eq_true hz
      refine ⟨rfl, rfl, rfl, [], by simp [hne], .nil, by simp, fun _ _ _ j v hv => by simp at hv, fun w2 hw2 => ?_⟩
      simp [Builtin.firstCells, loadCells, hne, loadCellsFrom]
    | false =>
    rw [hz] at h
    have h : loadCellsA b o (n * es) H = some (l, H') := h
    obtain ⟨e1, e2, e3, vs, a1, a2, a3, a4, a5⟩ := loadCellsA_ok (P := P) h hwr hL
    rcases hoff with ⟨rfl, _⟩ | ⟨h0, hc0⟩
    · refine ⟨e1, e2, e3, vs, a1, a2, a3, fun b off hb => by cases hb; exact a4, fun w2 hw2 => ?_⟩
      have hcell : ∀ a : Addr, w2.cell? a = w.cell? a := fun a => by simp [World.cell?, hw2]
      exact run_firstCells_some (P := P) w2 es n _ _ c vs a1 (fun j v hv => by rw [hcell]; exact a4 j v hv)
    · have hn0 : n = 0 := by omega
      subst hn0
      have hv : vs = [] := List.eq_nil_of_length_eq_zero (by rw [a1]; simp)
      subst hv
      exact ⟨e1, e2, e3, [], a1, a2, a3, fun _ _ _ j v hv => by simp at hv, fun w2 hw2 => by simp [Builtin.firstCells, loadCells, loadCellsFrom]⟩
  · cases ret_some h
    cases hlen
    have hn0 : n = 0 := by omega
    subst hn0
    unfold Rel at hx; subst hx
    exact ⟨rfl, rfl, rfl, [], by simp, .nil, by simp, (fun b off hb => by cases hb), fun w2 _ => by simp [Builtin.firstCells]⟩
  · exact (fail_some h).elim
theorem lenOf_run {x : AVal} {x' : Value} {n : Nat} (h : lenOfA x = some n) (hx : Rel σ ρ x x') (w : World) : (Builtin.lenOf x').run P w = .ok n w := by
  unfold lenOfA at h
  split at h
  · cases h; unfold Rel at hx; obtain ⟨L, off, c, hL, rfl, _⟩ := hx; rfl
  · cases h; unfold Rel at hx; subst hx; rfl
  · cases h
end
end Go.AM
