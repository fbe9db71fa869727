/- Part 12 of a calculation in a small memory that is proved to answer as the program does: see the last part. -/
import Derived.Test.YtnbgeelhoakjgaaAm11
import Derived.Laws.AppendOwn
namespace Go.AM
open Go Go.RowKit

section
variable {P : Program} {σ : Nat → Value} {ρ : Ren} {base : Nat} {H H' : AHeap} {w : World}
theorem storeCells_nil (a : Addr) (w : World) : (storeCells a []).run P w = .ok () w := by simp [storeCells]
/-- append where there is room -/
theorem append_room {t u ty elem : TypeId} {xd : TypeDesc} {es : Nat} (ht : P.underlying t = some (.slice elem)) (hu : P.underlying u = some xd) (hxd : ∀ k, xd ≠ .int k) (hs : sz P elem = some es)
    {a : Option Addr} {len c n : Nat} {x' : Value} {vs : List Value} (hx : ∀ w, (Builtin.lenOf x').run P w = .ok n w) (hf : (Builtin.firstCells es n x').run P w = .ok vs.toArray w) (hle : len + n ≤ c) :
    (Builtin.append_ #[t, u] ty #[.slice a len c, x']).run P w = (match a with
      | some a => ((storeCells (a.add (len * es)) vs).run P w).andThen fun _ w' => .ok (.slice (some a) (len + n) c) w'
      | none => .ok (.slice none (len + n) c) w) := by
  have hm : (match xd with | .int _ => true | _ => false) = false := by cases xd <;> first | rfl | exact absurd rfl (hxd _)
  cases a with
  | none => simp [Builtin.append_, run_underlying ht, run_underlying hu, sz_run hs, hx, hf, hle]
  | some a => simp [Builtin.append_, run_underlying ht, run_underlying hu, sz_run hs, hx, hf, hle]
/-- append where there is no room -/
theorem append_grow {t u ty elem : TypeId} {xd : TypeDesc} {es : Nat} {i : TypeInfo} {z : Value} (ht : P.underlying t = some (.slice elem)) (hu : P.underlying u = some xd) (hxd : ∀ k, xd ≠ .int k) (hi : P.info? elem = some i) (hz : i.zero = some z) (hes : i.size = es)
    {a : Option Addr} {len c n : Nat} {x' : Value} {olds vs : List Value} (hx : ∀ w, (Builtin.lenOf x').run P w = .ok n w) (hf : ∀ w2 : World, w2.heap = w.heap → (Builtin.firstCells es n x').run P w2 = .ok vs.toArray w2)
    (ho : ∀ w2 : World, w2.heap = w.heap → (Builtin.firstCells es len (.slice a len c)).run P w2 = .ok olds.toArray w2) (hgt : c < len + n) (hneed : len + n ≤ 16777216) (hby : i.bytes ≤ 65536) :
    (Builtin.append_ #[t, u] ty #[.slice a len c, x']).run P w = .ok (.slice (some ⟨w.heap.size, 0, none⟩) (len + n) (grownCap w (len + n) c elem))
        (w.drew.alloc (.cells ((olds ++ vs) ++ (Builtin.zeroCells z.cells (grownCap w (len + n) c elem - (len + n))).toList).toArray elem)) := by
  subst hes
  have hm : (match xd with | .int _ => true | _ => false) = false := by cases xd <;> first | rfl | exact absurd rfl (hxd _)
  have hn : ¬ (len + n ≤ c) := by omega
  have h63' : ¬ (9223372036854775807 < ((len : Int) + (n : Int))) := by omega
  have hfit : Builtin.nextslicecap (len + n) c * i.bytes ≤ 281474976710656 := by
    refine growslice_fits hgt ?_
    have : (len + n) * i.bytes ≤ 16777216 * 65536 := Nat.mul_le_mul hneed hby
    omega
  have h48' : ¬ (281474976710656 < Builtin.nextslicecap (len + n) c * i.bytes) := by omega
  have hf1 := hf w.drew rfl
  have ho1 := ho w.drew rfl
  simp [Builtin.append_, run_underlying ht, run_underlying hu, sizeOf, typeInfo, zeroValue, hi, hz, hx, hn, h63', h48', Question.forced, hf1, ho1, newRow, grownCap]
  congr 2
  apply Array.ext'
  simp
theorem zeroCells_size (z : Array Value) (n : Nat) : (Builtin.zeroCells z n).size = n * z.size := by simp [Builtin.zeroCells]
theorem below_drew {B : Nat} {w w' : World} (h : Below B w.drew w') : Below B w w' := ⟨h.os, h.tape, h.output, h.size, h.block⟩
theorem WR.drew (h : WR σ ρ base H w) : WR σ ρ base H w.drew := ⟨h.blk, h.own, h.inj, h.base⟩

/-- the new row of an append that grows -/
theorem grow_ok {t u ty elem : TypeId} {xd : TypeDesc} {es by_ : Nat} {cs0 : List AVal} (ht : P.underlying t = some (.slice elem)) (hu : P.underlying u = some xd) (hxd : ∀ k, xd ≠ .int k) (hz : zeros P elem 0 = some (cs0, es)) (hb : bytesOf P elem = some by_)
    {a : Option Addr} {len c n : Nat} {x' : Value} {olds vs : List Value} {lo ln : List AVal} (hx : ∀ w, (Builtin.lenOf x').run P w = .ok n w) (hf : ∀ w2 : World, w2.heap = w.heap → (Builtin.firstCells es n x').run P w2 = .ok vs.toArray w2)
    (ho : ∀ w2 : World, w2.heap = w.heap → (Builtin.firstCells es len (.slice a len c)).run P w2 = .ok olds.toArray w2) (hgt : c < len + n) (hneed : len + n ≤ 16777216) (hby : by_ ≤ 65536)
    (hlo : RelL σ ρ lo olds) (hln : RelL σ ρ ln vs) (hol : olds.length = len * es) (hvl : vs.length = n * es) (hσ : One σ) (hwr : WR σ ρ base H w) (hfr : Free ρ H.next H'.next) {id : Nat} (h : newCells elem (lo ++ ln) H = some (id, H')) :
    Okay σ ρ base H H' w (fun ρ' v' => Rel σ ρ' (.slc id 0 (len + n) none es) v') ((Builtin.append_ #[t, u] ty #[.slice a len c, x']).run P w) := by
  obtain ⟨i, z, zz⟩ := zeros_spec (σ := σ) (ρ := ρ) hz hσ
  have hbi : i.bytes = by_ := by simp [bytesOf, zz.info] at hb; exact hb
  have hrun := append_grow (ty := ty) ht hu hxd zz.info zz.zero zz.size hx hf ho hgt hneed (by rw [hbi]; exact hby)
  obtain ⟨rfl, hn, hl, ρ', x1, x2, x3, x4⟩ := fresh_ok h hσ hwr.drew hfr (Builtin.zeroCells z.cells (grownCap w (len + n) c elem - (len + n))).toList (hlo.append hln)
  refine ⟨_, _, ρ', hrun, x1, x3, below_drew x4, ?_⟩
  unfold Rel
  have hge := grownCap_ge w (len + n) c elem
  refine ⟨_, _, _, x2, rfl, .inl ⟨rfl, ?_⟩, hge, fun k hk => by cases hk⟩
  simp only [List.length_append, hol, hvl, Array.length_toList, zeroCells_size, zz.zsize, Nat.zero_add]
  rw [← Nat.add_mul, ← Nat.add_mul]
  exact Nat.mul_le_mul_right _ (by omega)
theorem append_ok {st xt : TypeId} {s x v : AVal} {s' x' : Value} {ty : TypeId} (h : appendA P st xt s x H = some (v, H')) (hs : Rel σ ρ s s') (hx : Rel σ ρ x x') (hσ : One σ) (hwr : WR σ ρ base H w) (hf : Free ρ H.next H'.next) :
    Okay σ ρ base H H' w (fun ρ' v' => Rel σ ρ' v v') ((Builtin.append_ #[st, xt] ty #[s', x']).run P w) := by
  unfold appendA at h
  cases hu : P.underlying st with
  | none => simp only [hu] at h; exact (fail_some h).elim
  | some d =>
    cases hu2 : P.underlying xt with
    | none => cases d <;> simp only [hu, hu2] at h <;> exact (fail_some h).elim
    | some xd =>
      cases d with
      | slice elem =>
        simp only [hu, hu2] at h
        cases hn : lenX xd x with
        | none => simp only [hn] at h; exact (fail_some h).elim
        | some n =>
          have hxd : ∀ k, xd ≠ .int k := by intro k e; subst e; cases hn
          have hlen : lenOfA x = some n := by cases xd <;> first | exact hn | cases hn
          cases hz : zeros P elem 0 with
          | none => simp only [hn, hz] at h; exact (fail_some h).elim
          | some p =>
            obtain ⟨cs0, es⟩ := p
            cases hb : bytesOf P elem with
            | none => simp only [hn, hz, hb] at h; exact (fail_some h).elim
            | some by_ =>
              simp only [hn, hz, hb, frcN_eq] at h
              have hsz : sz P elem = some es := by
                obtain ⟨i, z, zz⟩ := zeros_spec (σ := σ) (ρ := ρ) hz hσ
                simp [sz, zz.info, zz.size]
              have hlo := lenOf_run (P := P) hlen hx
              split at h
              · -- a nil slice
                unfold Rel at hs; subst hs
                split at h
                · cases ret_some h
                  have hv : ∃ vs : List Value, vs = [] ∧ (Builtin.firstCells es 0 x').run P w = .ok vs.toArray w := by
                    refine ⟨[], rfl, ?_⟩
                    unfold lenOfA at hlen
                    split at hlen
                    · cases hlen
                      unfold Rel at hx; obtain ⟨L, off, c, hL, rfl, _⟩ := hx
                      simp [Builtin.firstCells, loadCells, loadCellsFrom]
                    · unfold Rel at hx; subst hx; simp [Builtin.firstCells]
                    · cases hlen
                  obtain ⟨vs, rfl, hv⟩ := hv
                  have := append_room (ty := ty) (a := none) (len := 0) (c := 0) hu hu2 hxd hsz hlo hv (by omega)
                  exact .same this hwr rfl rfl (by unfold Rel; rfl)
                · rename_i m
                  obtain ⟨hcd, h⟩ := cond_some h
                  rw [Bool.and_eq_true] at hcd
                  obtain ⟨l, K, h1, h2⟩ := bd_some h
                  obtain ⟨id, K2, h3, h4⟩ := bd_some h2
                  cases ret_some h4
                  obtain ⟨e1, e2, e3, vs, a1, a2, a3, a4, a5⟩ := firstA_ok (P := P) h1 hx hlen (Nat.le_refl _) hwr
                  have hwr' := hwr.log e1 e2
                  have := grow_ok (P := P) (ty := ty) (H := K) (H' := H') (a := none) (len := 0) (c := 0) (olds := []) (lo := []) (es := es) hu hu2 hxd hz hb hlo a5 (fun w2 _ => by simp [Builtin.firstCells]) (by omega) (by simpa [Nat.ble_eq] using hcd.1) (by simpa [Nat.ble_eq] using hcd.2)
                    .nil a2 (by simp) a1 hσ hwr' (by rw [e3]; exact hf) (by simpa using h3)
                  obtain ⟨b, w', ρ', p1, p2, p3, p4, p5⟩ := this
                  exact ⟨b, w', ρ', p1, by rw [← e3]; exact p2, p3, p4, by simpa using p5⟩
              · -- a slice
                rename_i b o len cap es'
                have hcs := cond_some h
                clear h
                obtain ⟨he, h⟩ := hcs
                have he := Nat.eq_of_beq_eq_true he
                subst he
                have hsrel := hs
                unfold Rel at hs
                obtain ⟨L, a, c, hL, rfl, hoff, hlc, hcap⟩ := hs
                -- which way
                have hway : (∃ dead, wayA cap len n = (true, dead) ∧ len + n ≤ c) ∨
                    (wayA cap len n = (false, false) ∧ c < len + n) ∨
                    (wayA cap len n = (false, true) ∧ n ≠ 0) := by
                  cases cap with
                  | none =>
                    cases hb : Nat.beq n 0 with
                    | true => have := Nat.eq_of_beq_eq_true hb; exact .inl ⟨true, by simp [wayA, hb], by omega⟩
                    | false => exact .inr (.inr ⟨by simp [wayA, hb], fun e => by subst e; simp at hb⟩)
                  | some c' =>
                    have := hcap c' rfl
                    cases hb : Nat.ble (len + n) c' with
                    | true => exact .inl ⟨false, by simp [wayA, hb], by rw [this]; simpa [Nat.ble_eq] using hb⟩
                    | false => exact .inr (.inl ⟨by simp [wayA, hb], by rw [this]; rw [← Nat.not_le, ← Nat.ble_eq, hb]; simp⟩)
                rcases hway with ⟨dead, hw1, hle⟩ | ⟨hw1, hgt⟩ | ⟨hw1, hn0⟩
                · -- in place, for sure
                  simp only [hw1] at h
                  split at h
                  · cases ret_some h
                    have hv : (Builtin.firstCells es 0 x').run P w = .ok ([] : List Value).toArray w := by
                      unfold lenOfA at hlen
                      split at hlen
                      · cases hlen
                        unfold Rel at hx; obtain ⟨L, off, c, hL, rfl, _⟩ := hx
                        simp [Builtin.firstCells, loadCells, loadCellsFrom]
                      · unfold Rel at hx; subst hx; simp [Builtin.firstCells]
                      · cases hlen
                    have := append_room (ty := ty) (a := some a) hu hu2 hxd hsz hlo hv hle
                    simp only [storeCells_nil, Result.andThen_ok] at this
                    exact .same this hwr rfl rfl hsrel
                  · rename_i m
                    obtain ⟨l, K, h1, h2⟩ := bd_some h
                    obtain ⟨_, K2, h3, h4⟩ := bd_some h2
                    cases ret_some h4
                    obtain ⟨e1, e2, e3, vs, a1, a2, a3, a4, a5⟩ := firstA_ok (P := P) h1 hx hlen (Nat.le_refl _) hwr
                    obtain ⟨rfl, hoc⟩ : a = ⟨L.blk, L.sh + o, none⟩ ∧ L.sh + o + c * es ≤ L.sz := by rcases hoff with h | h; exact h; omega
                    have hwr' := hwr.log e1 e2
                    obtain ⟨n1, l1, w', s1, s2, s3⟩ := storeCellsA_ok (P := P) h3 hσ hwr' hL a2
                    have := append_room (ty := ty) (a := some ⟨L.blk, L.sh + o, none⟩) hu hu2 hxd hsz hlo (a5 w rfl) hle
                    simp only [addr_add, Nat.add_assoc, s1, Result.andThen_ok] at this
                    refine ⟨_, w', ρ, this, .refl _ _ _, s2, s3, ?_⟩
                    unfold Rel
                    exact ⟨L, _, c, hL, rfl, .inl ⟨rfl, hoc⟩, hle, hcap⟩
                · -- a new row, for sure
                  simp only [hw1] at h
                  have hcs := cond_some h
                  clear h
                  obtain ⟨hcd, h⟩ := hcs
                  rw [Bool.and_eq_true] at hcd
                  obtain ⟨lo, K, h1, h2⟩ := bd_some h
                  obtain ⟨l, K2, h3, h4⟩ := bd_some h2
                  obtain ⟨_, K3, h5, h6⟩ := bd_some h4
                  simp only [cond_false] at h5
                  cases ret_some h5
                  obtain ⟨id, K4, h7, h8⟩ := bd_some h6
                  cases ret_some h8
                  obtain ⟨e1, e2, e3, olds, b1, b2, b3, b4, b5⟩ := firstA_ok (P := P) h1 hsrel rfl (Nat.le_refl _) hwr
                  have hwr1 := hwr.log e1 e2
                  obtain ⟨f1, f2, f3, vs, a1, a2, a3, a4, a5⟩ := firstA_ok (P := P) h3 hx hlen (Nat.le_refl _) hwr1
                  have hwr2 := hwr1.log f1 f2
                  have := grow_ok (P := P) (ty := ty) hu hu2 hxd hz hb hlo a5 b5 hgt (by simpa [Nat.ble_eq] using hcd.1) (by simpa [Nat.ble_eq] using hcd.2) b2 a2 b1 a1 hσ hwr2 (by rw [f3, e3]; exact hf) h7
                  obtain ⟨b, w', ρ', p1, p2, p3, p4, p5⟩ := this
                  exact ⟨b, w', ρ', p1, by rw [← e3, ← f3]; exact p2, p3, p4, p5⟩
                · -- nobody knows
                  simp only [hw1] at h
                  have hcs := cond_some h
                  clear h
                  obtain ⟨hcd, h⟩ := hcs
                  rw [Bool.and_eq_true] at hcd
                  obtain ⟨lo, K, h1, h2⟩ := bd_some h
                  obtain ⟨l, K2, h3, h4⟩ := bd_some h2
                  obtain ⟨_, K3, h5, h6⟩ := bd_some h4
                  simp only [cond_true] at h5
                  obtain ⟨id, K4, h7, h8⟩ := bd_some h6
                  cases ret_some h8
                  obtain ⟨e1, e2, e3, olds, b1, b2, b3, b4, b5⟩ := firstA_ok (P := P) h1 hsrel rfl (Nat.le_refl _) hwr
                  have hwr1 := hwr.log e1 e2
                  obtain ⟨f1, f2, f3, vs, a1, a2, a3, a4, a5⟩ := firstA_ok (P := P) h3 hx hlen (Nat.le_refl _) hwr1
                  have hwr2 := hwr1.log f1 f2
                  obtain ⟨bk, Kr, g1, g2⟩ := bd_some h5
                  obtain ⟨gb, g3, g4, g5⟩ := rd_some g1
                  cases bk with
                  | cells e2 ct N =>
                    obtain ⟨hee, g2'⟩ := cond_some g2
                    clear g2
                    have hee := Nat.eq_of_beq_eq_true hee
                    subst hee
                    obtain ⟨k1, _, k3, k4, k5⟩ := kill_some g2'
                    rw [g4] at k1 k4
                    have k3 : ∀ j, K3.blks.get j = if b = j then none else K2.blks.get j := fun j => by rw [k3, g3]
                    have hwr3 := hwr2.kill k3 k4
                    have hn3 : K3.next = H.next := by rw [k5, g5, f3, e3]
                    have hf3 : Free ρ K3.next H'.next := by rw [hn3]; exact hf
                    by_cases hroom : c < len + n
                    · have := grow_ok (P := P) (ty := ty) hu hu2 hxd hz hb hlo a5 b5 hroom (by simpa [Nat.ble_eq] using hcd.1) (by simpa [Nat.ble_eq] using hcd.2) b2 a2 b1 a1 hσ hwr3 hf3 h7
                      obtain ⟨b, w', ρ', p1, p2, p3, p4, p5⟩ := this
                      exact ⟨b, w', ρ', p1, by rw [← hn3]; exact p2, p3, p4, p5⟩
                    · have hle : len + n ≤ c := by omega
                      obtain ⟨rfl, hoc⟩ : a = ⟨L.blk, L.sh + o, none⟩ ∧ L.sh + o + c * es ≤ L.sz := by rcases hoff with h | h; exact h; omega
                      obtain ⟨L', hL', cc, fr, q1, q2, q3, q4, q5⟩ := hwr2.blk b _ gb
                      rw [hL] at hL'; cases hL'
                      have hfr := q2 k1
                      subst hfr
                      have hbase := hwr2.own b _ L gb hL k1
                      have hmul : (len + n) * es ≤ c * es := Nat.mul_le_mul_right _ hle
                      rw [Nat.add_mul] at hmul
                      obtain ⟨w', cc', s1, s2, s3, s4⟩ := run_storeCells (P := P) (k := L.sh + o + len * es) vs 0 w cc q1 (by rw [q3]; omega) a3
                      have hrun := append_room (ty := ty) (a := some ⟨L.blk, L.sh + o, none⟩) hu hu2 hxd hsz hlo (a5 w rfl) hle
                      simp only [addr_add, s1, Result.andThen_ok] at hrun
                      obtain ⟨rfl, hn, hl, ρ', x1, x2, x3, x4⟩ := newCells_ok h7 hσ hwr3 hf3 (sh := L.sh + o) s2 hbase (fun j bj Lj hj hLj => by
                          rw [k3] at hj
                          by_cases hbj : b = j
                          · rw [if_pos hbj] at hj; cases hj
                          · rw [if_neg hbj] at hj
                            exact (hwr2.inj b j _ _ L Lj gb hj hL hLj k1 hbj).symm) (by
                          have := b2.length; have := a2.length
                          simp only [List.length_append]; rw [s3, q3]; omega) (fun i x hx' => by
                          have l1 := b2.length
                          have l2 := a2.length
                          by_cases hi : i < lo.length
                          · rw [List.getElem?_append_left hi] at hx'
                            obtain ⟨y, hy, r⟩ := b2.get i x hx'
                            refine ⟨y, ?_, r⟩
                            rw [s4, if_neg (by omega)]
                            have hc := b4 _ _ rfl i y hy
                            rw [addr_add, cell_of q1] at hc
                            exact hc
                          · rw [List.getElem?_append_right (by omega)] at hx'
                            obtain ⟨y, hy, r⟩ := a2.get _ x hx'
                            refine ⟨y, ?_, r⟩
                            have hlt := (List.getElem?_eq_some_iff.1 hy).1
                            rw [s4, if_pos (by omega), ← hy]
                            congr 1; omega)
                      refine ⟨_, w', ρ', hrun, by rw [← hn3]; exact x1, x3, x4, ?_⟩
                      unfold Rel
                      exact ⟨_, _, c, x2, rfl, .inl ⟨rfl, by simp only [Nat.add_zero]; rw [s3, q3]; exact hoc⟩, hle, fun k hk => by cases hk⟩
                  | _ => exact (fail_some g2).elim
              · exact (fail_some h).elim
      | _ => simp only [hu, hu2] at h; exact (fail_some h).elim
end
end Go.AM
