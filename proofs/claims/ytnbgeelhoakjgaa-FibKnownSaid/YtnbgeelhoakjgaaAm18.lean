/- Part 18 of a calculation in a small memory that is proved to answer as the program does: see the last part. -/
import Derived.Test.YtnbgeelhoakjgaaAm17
namespace Go.AM
open Go Go.RowKit
section
variable {P : Program} {σ : Nat → Value} {base nt : Nat} {ih : Task → M Out}

/-- what one operation did, in text order: it does so wherever what it touches is as it was -/
structure Did (P : Program) (ih : Task → M Out) (nt : Nat) (all : List Oper) (o : Oper) (T : Tmps) (H : AHeap) (v : AVal) (e : List (Nat × Bool)) (T' : Tmps) (H' : AHeap) : Prop where
  set : setT nt T o.dst v = some T'
  does : Does e H H'
  fr : ∀ H2 : AHeap, H2.next = H.next → H2.lo = H.lo → (∀ id b, (id, b) ∈ e → H2.blks.get id = H.blks.get id) →
    ∃ H2', valOp P ih all o T H2 = some (v, H2') ∧ Does e H2 H2' ∧ H2'.next = H'.next ∧ ∀ id b, (id, b) ∈ e → H2'.blks.get id = H'.blks.get id
theorem did_of {all : List Oper} {o : Oper} {T T' : Tmps} {H H' : AHeap} {e : List (Nat × Bool)} (hfr : ∀ t, Fr (ih t)) (h : capture (oneOp P ih nt all o T) H = some ((T', e), H')) :
    ∃ v, Did P ih nt all o T H v e T' H' := by
  obtain ⟨d, ⟨K, h1, h2, h3, h4⟩, _⟩ := capture_spec (fr_oneOp P hfr nt all o T) h
  obtain ⟨v, h5, h6⟩ := oneOp_some h1
  obtain ⟨e', d', k⟩ := fr_valOp P hfr all o T _ v K h5
  have he : e' = e := by
    have a1 : K.log = e' := by simpa using d'.log
    unfold capture at h
    rw [h1] at h
    simp only [Option.some.injEq, Prod.mk.injEq] at h
    rw [← a1]; exact h.1.2
  subst he
  refine ⟨v, h6, d, fun H2 hn hl hag => ?_⟩
  obtain ⟨H2', e2, d2, n2, g2⟩ := k H2 hn (Nat.le_of_eq hl) hag
  exact ⟨H2', e2, d2, n2.trans h3, fun id b hb => by rw [g2 id b hb, h2]⟩
def Sep (all : Array Oper) (mk i : Nat) (p o : Oper) (e f : List (Nat × Bool)) : Prop := Nat.testBit mk i = true ∨ (Oper.apart all p o = true ∧ clash e f = false)
theorem trace {all : Array Oper} (hfr : ∀ t, Fr (ih t)) : ∀ (os : List Oper) (mks : List Nat) (done : List (Oper × List (Nat × Bool))) (k : Nat) (T : Tmps) (H : AHeap) (T' : Tmps) (H' : AHeap), done.length = k →
    opsD P ih nt all os mks done T H = some (T', H') →
    ∃ (Ts : Nat → Tmps) (Hs : Nat → AHeap) (vs : Nat → AVal) (es : Nat → List (Nat × Bool)), Ts k = T ∧ Hs k = H ∧ Ts (k + os.length) = T' ∧ Hs (k + os.length) = H' ∧
      ∀ j o, os[j]? = some o → Did P ih nt all.toList o (Ts (k + j)) (Hs (k + j)) (vs (k + j)) (es (k + j)) (Ts (k + j + 1)) (Hs (k + j + 1)) ∧
        ∃ mk, mks[j]? = some mk ∧ (∀ i p, done[i]? = some p → Sep all mk i p.1 o p.2 (es (k + j))) ∧ (∀ i p, i < j → os[i]? = some p → Sep all mk (k + i) p o (es (k + i)) (es (k + j))) := by
  intro os
  induction os with
  | nil =>
    intro mks done k T H T' H' hk h
    cases ret_some h
    exact ⟨fun _ => T, fun _ => H, fun _ => .undef, fun _ => [], rfl, rfl, rfl, rfl, fun j o h => by simp at h⟩
  | cons o os ih2 =>
    intro mks done k T H T' H' hk h
    cases mks with
    | nil => exact (fail_some h).elim
    | cons mk mks =>
      obtain ⟨⟨T1, e⟩, H1, h1, h2⟩ := bd_some h
      obtain ⟨h3, h4⟩ := cond_some h2
      obtain ⟨v, hd⟩ := did_of hfr h1
      obtain ⟨Ts, Hs, vs, es, a1, a2, a3, a4, a5⟩ := ih2 mks (done ++ [(o, e)]) (k + 1) T1 H1 T' H' (by simp [hk]) h4
      refine ⟨fun j => if j = k then T else Ts j, fun j => if j = k then H else Hs j, fun j => if j = k then v else vs j, fun j => if j = k then e else es j, if_pos rfl, if_pos rfl, ?_, ?_, ?_⟩
      · show (if _ then _ else _) = _
        rw [if_neg (by simp)]
        rw [← a3]; congr 1; simp; omega
      · show (if _ then _ else _) = _
        rw [if_neg (by simp)]
        rw [← a4]; congr 1; simp; omega
      · intro j q hq
        cases j with
        | zero =>
          simp at hq; subst hq
          simp only [Nat.add_zero, if_true, if_neg (show ¬ k + 1 = k by omega), a1, a2]
          exact ⟨hd, mk, rfl, fun i p hp => by have := against_spec done 0 h3 i p hp; simpa [Sep] using this, fun i p hi => by omega⟩
        | succ j =>
          simp at hq
          have e1 : k + (j + 1) = k + 1 + j := by omega
          obtain ⟨b1, mk', b2, b3, b4⟩ := a5 j q hq
          simp only [e1, if_neg (show ¬ k + 1 + j = k by omega), if_neg (show ¬ k + 1 + j + 1 = k by omega)]
          refine ⟨b1, mk', by simpa using b2, fun i p hp => b3 i p ?_, fun i p hi hp => ?_⟩
          · rw [List.getElem?_append_left (List.getElem?_eq_some_iff.1 hp).1]; exact hp
          · cases i with
            | zero =>
              simp at hp; subst hp
              simp only [Nat.add_zero, if_true]
              have := b3 k (o, e) (by simp [← hk])
              exact this
            | succ i =>
              simp at hp
              have e2 : k + (i + 1) = k + 1 + i := by omega
              simp only [e2, if_neg (show ¬ k + 1 + i = k by omega)]
              exact b4 i p (by omega) hp
end
end Go.AM
