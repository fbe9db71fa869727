/- Part A3 of the proof: see the last part. -/
import Derived.Test.YtcmcofklcgafiaaGreatA2
import Derived.RangeFuncLeaves
import Derived.RangeFuncNested
import Derived.LoopNIn
import Derived.Maps.RangeRun
import Derived.RecoverIn
import Derived.ProofKit
import Derived.OpenShut
namespace Go.AM
open Go Go.RowKit
section
variable {P : Program} {σ : Nat → Value} {base nt : Nat} {ih : Task → M Out}

/-- what one operation did, in text order: it does so wherever what it touches is as it was -/
structure Did (P : Program) (ih : Task → M Out) (nt : Nat) (all : List Oper) (o : Oper) (T : Tmps) (H : AHeap) (v : AVal) (e : List (Nat × Bool)) (T' : Tmps) (H' : AHeap) : Prop where
  set : setT nt T o.dst v = some T'
  does : Does e H H'
  fr : ∀ H2 : AHeap, H2.next = H.next → H2.lo = H.lo → (∀ id b, (id, b) ∈ e → H2.blks.get id = H.blks.get id) →
    ∃ H2', valOp P ih all o T H2 = some (v, H2') ∧ Does e H2 H2' ∧ H2'.next = H'.next ∧ ∀ id b, (id, b) ∈ e → H2'.blks.get id = H'.blks.get id
theorem did_of {all : List Oper} {o : Oper} {T T' : Tmps} {H H' : AHeap} {e : List (Nat × Bool)} (hfr : ∀ t, Fr (ih t)) (h : capture (oneOp P ih nt all o T) H = some ((T', e), H')) :
    ∃ v, Did P ih nt all o T H v e T' H' := by
  obtain ⟨d, ⟨K, h1, h2, h3, h4⟩, _⟩ := capture_spec (fr_oneOp P hfr nt all o T) h
  obtain ⟨v, h5, h6⟩ := oneOp_some h1
  obtain ⟨e', d', k⟩ := fr_valOp P hfr all o T _ v K h5
  have he : e' = e := by
    have a1 : K.log = e' := by simpa using d'.log
    unfold capture at h
    rw [h1] at h
    simp only [Option.some.injEq, Prod.mk.injEq] at h
    rw [← a1]; exact h.1.2
  subst he
  refine ⟨v, h6, d, fun H2 hn hl hag => ?_⟩
  obtain ⟨H2', e2, d2, n2, g2⟩ := k H2 hn (Nat.le_of_eq hl) hag
  exact ⟨H2', e2, d2, n2.trans h3, fun id b hb => by rw [g2 id b hb, h2]⟩
def Sep (all : Array Oper) (mk i : Nat) (p o : Oper) (e f : List (Nat × Bool)) : Prop := Nat.testBit mk i = true ∨ (Oper.apart all p o = true ∧ clash e f = false)
theorem trace {all : Array Oper} (hfr : ∀ t, Fr (ih t)) : ∀ (os : List Oper) (mks : List Nat) (done : List (Oper × List (Nat × Bool))) (k : Nat) (T : Tmps) (H : AHeap) (T' : Tmps) (H' : AHeap), done.length = k →
    opsD P ih nt all os mks done T H = some (T', H') →
    ∃ (Ts : Nat → Tmps) (Hs : Nat → AHeap) (vs : Nat → AVal) (es : Nat → List (Nat × Bool)), Ts k = T ∧ Hs k = H ∧ Ts (k + os.length) = T' ∧ Hs (k + os.length) = H' ∧
      ∀ j o, os[j]? = some o → Did P ih nt all.toList o (Ts (k + j)) (Hs (k + j)) (vs (k + j)) (es (k + j)) (Ts (k + j + 1)) (Hs (k + j + 1)) ∧
        ∃ mk, mks[j]? = some mk ∧ (∀ i p, done[i]? = some p → Sep all mk i p.1 o p.2 (es (k + j))) ∧ (∀ i p, i < j → os[i]? = some p → Sep all mk (k + i) p o (es (k + i)) (es (k + j))) := by
  intro os
  induction os with
  | nil =>
    intro mks done k T H T' H' hk h
    cases ret_some h
    exact ⟨fun _ => T, fun _ => H, fun _ => .undef, fun _ => [], rfl, rfl, rfl, rfl, fun j o h => by simp at h⟩
  | cons o os ih2 =>
    intro mks done k T H T' H' hk h
    cases mks with
    | nil => exact (fail_some h).elim
    | cons mk mks =>
      obtain ⟨⟨T1, e⟩, H1, h1, h2⟩ := bd_some h
      obtain ⟨h3, h4⟩ := cond_some h2
      obtain ⟨v, hd⟩ := did_of hfr h1
      obtain ⟨Ts, Hs, vs, es, a1, a2, a3, a4, a5⟩ := ih2 mks (done ++ [(o, e)]) (k + 1) T1 H1 T' H' (by simp [hk]) h4
      refine ⟨fun j => if j = k then T else Ts j, fun j => if j = k then H else Hs j, fun j => if j = k then v else vs j, fun j => if j = k then e else es j, if_pos rfl, if_pos rfl, ?_, ?_, ?_⟩
      · show (if _ then _ else _) = _
        rw [if_neg (by simp)]
        rw [← a3]; congr 1; simp; omega
      · show (if _ then _ else _) = _
        rw [if_neg (by simp)]
        rw [← a4]; congr 1; simp; omega
      · intro j q hq
        cases j with
        | zero =>
          simp at hq; subst hq
          simp only [Nat.add_zero, if_true, if_neg (show ¬ k + 1 = k by omega), a1, a2]
          exact ⟨hd, mk, rfl, fun i p hp => by have := against_spec done 0 h3 i p hp; simpa [Sep] using this, fun i p hi => by omega⟩
        | succ j =>
          simp at hq
          have e1 : k + (j + 1) = k + 1 + j := by omega
          obtain ⟨b1, mk', b2, b3, b4⟩ := a5 j q hq
          simp only [e1, if_neg (show ¬ k + 1 + j = k by omega), if_neg (show ¬ k + 1 + j + 1 = k by omega)]
          refine ⟨b1, mk', by simpa using b2, fun i p hp => b3 i p ?_, fun i p hi hp => ?_⟩
          · rw [List.getElem?_append_left (List.getElem?_eq_some_iff.1 hp).1]; exact hp
          · cases i with
            | zero =>
              simp at hp; subst hp
              simp only [Nat.add_zero, if_true]
              have := b3 k (o, e) (by simp [← hk])
              exact this
            | succ i =>
              simp at hp
              have e2 : k + (i + 1) = k + 1 + i := by omega
              simp only [e2, if_neg (show ¬ k + 1 + i = k by omega)]
              exact b4 i p (by omega) hp
end
end Go.AM
namespace Go.AM
open Go Go.RowKit
section
variable {P : Program} {σ : Nat → Value} {base nt : Nat} {ih : Task → M Out}

/-- the whole of a drawn region's work in text order -/
structure Trace (P : Program) (ih : Task → M Out) (nt : Nat) (ops : Array Oper) (Ts : Nat → Tmps) (Hs : Nat → AHeap) (vs : Nat → AVal) (es : Nat → List (Nat × Bool)) : Prop where
  did : ∀ j o, ops[j]? = some o → Did P ih nt ops.toList o (Ts j) (Hs j) (vs j) (es j) (Ts (j + 1)) (Hs (j + 1))
  back : ∀ (j : Nat) (o : Oper), ops[j]? = some o → ∀ e ∈ o.after, Region.binds .any e = true → e.on < j
  sep : ∀ i j p o, i < j → ops[i]? = some p → ops[j]? = some o → ∃ mk, (masks ops.toList [])[j]? = some mk ∧ Sep ops mk i p o (es i) (es j)
/-- what a block holds, and a slot, when those of the set have been done -/
noncomputable def cut (Hs : Nat → AHeap) (es : Nat → List (Nat × Bool)) (X : Nat → Prop) : Nat → Nat → Option ABlk
  | 0, id => (Hs 0).blks.get id
  | j + 1, id => by
    classical
    exact if X j ∧ (id, true) ∈ es j then (Hs (j + 1)).blks.get id else cut Hs es X j id
noncomputable def cutT (ops : Array Oper) (Ts : Nat → Tmps) (vs : Nat → AVal) (X : Nat → Prop) : Nat → Nat → AVal
  | 0, t => tget (Ts 0) t
  | j + 1, t => by
    classical
    exact if X j ∧ ((ops[j]?).bind (·.dst)) = some t then vs j else cutT ops Ts vs X j t
theorem cut_yes {Hs : Nat → AHeap} {es : Nat → List (Nat × Bool)} {X : Nat → Prop} {j id : Nat} (h : X j) (h2 : (id, true) ∈ es j) : cut Hs es X (j + 1) id = (Hs (j + 1)).blks.get id := by
  unfold cut; exact if_pos ⟨h, h2⟩
theorem cut_no {Hs : Nat → AHeap} {es : Nat → List (Nat × Bool)} {X : Nat → Prop} {j id : Nat} (h : X j → (id, true) ∉ es j) : cut Hs es X (j + 1) id = cut Hs es X j id := by
  conv => lhs; unfold cut
  exact if_neg fun k => h k.1 k.2
theorem cutT_yes {ops : Array Oper} {Ts : Nat → Tmps} {vs : Nat → AVal} {X : Nat → Prop} {j t : Nat} {o : Oper} (h : X j) (ho : ops[j]? = some o) (h2 : o.dst = some t) : cutT ops Ts vs X (j + 1) t = vs j := by
  unfold cutT; exact if_pos ⟨h, by simp [ho, h2]⟩
theorem cutT_no {ops : Array Oper} {Ts : Nat → Tmps} {vs : Nat → AVal} {X : Nat → Prop} {j t : Nat} (h : X j → ∀ o, ops[j]? = some o → o.dst ≠ some t) : cutT ops Ts vs X (j + 1) t = cutT ops Ts vs X j t := by
  conv => lhs; unfold cutT
  refine if_neg fun k => ?_
  cases ho : ops[j]? with
  | none => simp [ho] at k
  | some o => exact h k.1 o ho (by simpa [ho] using k.2)
theorem tget_put {T T' : Tmps} {dst : Option Tmp} {v : AVal} (h : setT nt T dst v = some T') (t : Nat) : tget T' t = if dst = some t then v else tget T t := by
  cases dst with
  | none => cases h; simp
  | some d =>
    simp only [setT] at h
    obtain ⟨_, h⟩ := condO_some h
    cases h
    simp only [tget, Tr.get_put]
    by_cases e : d = t
    · simp [e]
    · simp [e]
variable {ops : Array Oper} {Ts : Nat → Tmps} {Hs : Nat → AHeap} {vs : Nat → AVal} {es : Nat → List (Nat × Bool)}
def Closed (ops : Array Oper) (X : Nat → Prop) : Prop := ∀ (j : Nat) (o : Oper), ops[j]? = some o → X j → ∀ e ∈ o.after, Region.binds .any e = true → X e.on
namespace Trace
variable (tr : Trace P ih nt ops Ts Hs vs es)
include tr
/-- one that waits for nothing more, and one later that has been done -/
theorem later {X : Nat → Prop} (hX : Closed ops X) {j i : Nat} {o p : Oper} (ho : ops[j]? = some o) (hj : ¬ X j) (hij : j < i) (hi : X i) (hp : ops[i]? = some p) : Oper.apart ops o p = true ∧ clash (es j) (es i) = false := by
  obtain ⟨mk, h1, h2⟩ := tr.sep j i o p hij ho hp
  rcases h2 with h2 | h2
  · exact absurd (mask_closed tr.back X hX i p mk j hp h1 h2 (hX i p hp hi)) hj
  · exact h2
/-- and one earlier that has not -/
theorem earlier {X : Nat → Prop} (hX : Closed ops X) {j i : Nat} {o p : Oper} (ho : ops[j]? = some o) (hr : ∀ e ∈ o.after, Region.binds .any e = true → X e.on) (hij : i < j) (hi : ¬ X i) (hp : ops[i]? = some p) : Oper.apart ops p o = true ∧ clash (es i) (es j) = false := by
  obtain ⟨mk, h1, h2⟩ := tr.sep i j p o hij hp ho
  rcases h2 with h2 | h2
  · exact absurd (mask_closed tr.back X hX j o mk i ho h1 h2 hr) hi
  · exact h2
theorem blk_late {X : Nat → Prop} (hX : Closed ops X) {j : Nat} {o : Oper} (ho : ops[j]? = some o) (hj : ¬ X j) {id : Nat} {c : Bool} (hid : (id, c) ∈ es j) : ∀ d, j + 1 + d ≤ ops.size → ∀ Y : Nat → Prop, (∀ i, j < i → (Y i ↔ X i)) → cut Hs es Y (j + 1 + d) id = cut Hs es Y (j + 1) id := by
  intro d
  induction d with
  | zero => intro _ _ _; rfl
  | succ d ih2 =>
    intro hd Y hY
    rw [show j + 1 + (d + 1) = (j + 1 + d) + 1 from by omega, cut_no, ih2 (by omega) Y hY]
    intro hy hin
    have hp : ops[j + 1 + d]? = some ops[j + 1 + d] := Array.getElem?_eq_getElem (by omega)
    obtain ⟨_, h2⟩ := tr.later hX ho hj (by omega : j < j + 1 + d) ((hY _ (by omega)).1 hy) hp
    have := clash_spec h2 id c true hid hin
    simp at this
theorem blk_early {X : Nat → Prop} (hX : Closed ops X) {j : Nat} {o : Oper} (ho : ops[j]? = some o) (hr : ∀ e ∈ o.after, Region.binds .any e = true → X e.on) {id : Nat} {c : Bool} (hid : (id, c) ∈ es j) : ∀ k, k ≤ j → cut Hs es X k id = (Hs k).blks.get id := by
  have hjlt := (Array.getElem?_eq_some_iff.1 ho).1
  intro k
  induction k with
  | zero => intro _; rfl
  | succ k ih2 =>
    intro hk
    have hp : ops[k]? = some ops[k] := Array.getElem?_eq_getElem (by omega)
    by_cases hin : (id, true) ∈ es k
    · by_cases hxk : X k
      · exact cut_yes hxk hin
      · obtain ⟨_, h2⟩ := tr.earlier hX ho hr (by omega : k < j) hxk hp
        have := clash_spec h2 id true c hin hid
        simp at this
    · rw [cut_no (fun _ => hin), ih2 (by omega), (tr.did k _ hp).does.same id hin]
theorem blk_ready {X : Nat → Prop} (hX : Closed ops X) {j : Nat} {o : Oper} (ho : ops[j]? = some o) (hj : ¬ X j) (hr : ∀ e ∈ o.after, Region.binds .any e = true → X e.on) {id : Nat} {c : Bool} (hid : (id, c) ∈ es j) : cut Hs es X ops.size id = (Hs j).blks.get id := by
  have hjlt := (Array.getElem?_eq_some_iff.1 ho).1
  have h1 := tr.blk_late hX ho hj hid (ops.size - (j + 1)) (by omega) X (fun _ _ => Iff.rfl)
  rw [show j + 1 + (ops.size - (j + 1)) = ops.size from by omega] at h1
  rw [h1, cut_no (fun h => absurd h hj), tr.blk_early hX ho hr hid j (Nat.le_refl _)]
omit tr in
theorem blk_same {X Y : Nat → Prop} {id : Nat} : ∀ n, (∀ i, i < n → (id, true) ∈ es i → (X i ↔ Y i)) → cut Hs es X n id = cut Hs es Y n id := by
  intro n
  induction n with
  | zero => intro _; rfl
  | succ n ih2 =>
    intro h
    by_cases hin : (id, true) ∈ es n
    · by_cases hx : X n
      · rw [cut_yes hx hin, cut_yes ((h n (by omega) hin).1 hx) hin]
      · rw [cut_no (fun k => absurd k hx), cut_no (fun k => absurd ((h n (by omega) hin).2 k) hx), ih2 fun i hi => h i (by omega)]
    · rw [cut_no (fun _ => hin), cut_no (fun _ => hin), ih2 fun i hi => h i (by omega)]
theorem blk_step {X : Nat → Prop} (hX : Closed ops X) {j : Nat} {o : Oper} (ho : ops[j]? = some o) (hj : ¬ X j) {H H' : AHeap} (hH : ∀ id, H.blks.get id = cut Hs es X ops.size id)
    (hd : ∀ id, (id, true) ∉ es j → H'.blks.get id = H.blks.get id) (hg : ∀ id b, (id, b) ∈ es j → H'.blks.get id = (Hs (j + 1)).blks.get id) (id : Nat) : H'.blks.get id = cut Hs es (fun i => i = j ∨ X i) ops.size id := by
  have hjlt := (Array.getElem?_eq_some_iff.1 ho).1
  by_cases hin : (id, true) ∈ es j
  · rw [hg id true hin]
    have h1 := tr.blk_late hX ho hj hin (ops.size - (j + 1)) (by omega) (fun i => i = j ∨ X i) (fun i hi => ⟨fun h => h.resolve_left (by omega), .inr⟩)
    rw [show j + 1 + (ops.size - (j + 1)) = ops.size from by omega] at h1
    rw [h1, cut_yes (.inl rfl) hin]
  · rw [hd id hin, hH]
    refine blk_same ops.size fun i _ hi => ⟨.inr, fun h => ?_⟩
    rcases h with rfl | h
    · exact absurd hi hin
    · exact h
theorem blk_all {X : Nat → Prop} (hX : ∀ i, i < ops.size → X i) (id : Nat) : ∀ n, n ≤ ops.size → cut Hs es X n id = (Hs n).blks.get id := by
  intro n
  induction n with
  | zero => intro _; rfl
  | succ n ih2 =>
    intro hn
    by_cases hin : (id, true) ∈ es n
    · exact cut_yes (hX n (by omega)) hin
    · have hp : ops[n]? = some ops[n] := Array.getElem?_eq_getElem (by omega)
      rw [cut_no (fun _ => hin), ih2 (by omega), (tr.did n _ hp).does.same id hin]
theorem tmp_late {X : Nat → Prop} (hX : Closed ops X) {j : Nat} {o : Oper} (ho : ops[j]? = some o) (hj : ¬ X j) {t : Nat} (ht : t ∈ o.looksAt ops ∨ o.dst = some t) : ∀ d, j + 1 + d ≤ ops.size → ∀ Y : Nat → Prop, (∀ i, j < i → (Y i ↔ X i)) → cutT ops Ts vs Y (j + 1 + d) t = cutT ops Ts vs Y (j + 1) t := by
  intro d
  induction d with
  | zero => intro _ _ _; rfl
  | succ d ih2 =>
    intro hd Y hY
    rw [show j + 1 + (d + 1) = (j + 1 + d) + 1 from by omega, cutT_no, ih2 (by omega) Y hY]
    intro hy p hp hdst
    obtain ⟨h1, _⟩ := tr.later hX ho hj (by omega : j < j + 1 + d) ((hY _ (by omega)).1 hy) hp
    obtain ⟨_, g2, g3⟩ := Oper.apart_spec h1
    rcases ht with ht | ht
    · exact g3 t hdst ht
    · exact g2 t ht hdst
theorem tmp_early {X : Nat → Prop} (hX : Closed ops X) {j : Nat} {o : Oper} (ho : ops[j]? = some o) (hr : ∀ e ∈ o.after, Region.binds .any e = true → X e.on) {t : Nat} (ht : t ∈ o.looksAt ops) : ∀ k, k ≤ j → cutT ops Ts vs X k t = tget (Ts k) t := by
  have hjlt := (Array.getElem?_eq_some_iff.1 ho).1
  intro k
  induction k with
  | zero => intro _; rfl
  | succ k ih2 =>
    intro hk
    have hp : ops[k]? = some ops[k] := Array.getElem?_eq_getElem (by omega)
    rw [tget_put (tr.did k _ hp).set t]
    by_cases hdst : ops[k].dst = some t
    · rw [if_pos hdst]
      by_cases hxk : X k
      · exact cutT_yes hxk hp hdst
      · obtain ⟨h1, _⟩ := tr.earlier hX ho hr (by omega : k < j) hxk hp
        exact absurd ht ((Oper.apart_spec h1).1 t hdst)
    · rw [if_neg hdst, cutT_no (fun _ p hp' => by rw [hp] at hp'; cases hp'; exact hdst), ih2 (by omega)]
theorem tmp_ready {X : Nat → Prop} (hX : Closed ops X) {j : Nat} {o : Oper} (ho : ops[j]? = some o) (hj : ¬ X j) (hr : ∀ e ∈ o.after, Region.binds .any e = true → X e.on) {t : Nat} (ht : t ∈ o.looksAt ops) : cutT ops Ts vs X ops.size t = tget (Ts j) t := by
  have hjlt := (Array.getElem?_eq_some_iff.1 ho).1
  have h1 := tr.tmp_late hX ho hj (.inl ht) (ops.size - (j + 1)) (by omega) X (fun _ _ => Iff.rfl)
  rw [show j + 1 + (ops.size - (j + 1)) = ops.size from by omega] at h1
  rw [h1, cutT_no (fun h => absurd h hj), tr.tmp_early hX ho hr ht j (Nat.le_refl _)]
omit tr in
theorem tmp_same {X Y : Nat → Prop} {t : Nat} : ∀ n, (∀ i, i < n → (∃ p, ops[i]? = some p ∧ p.dst = some t) → (X i ↔ Y i)) → cutT ops Ts vs X n t = cutT ops Ts vs Y n t := by
  intro n
  induction n with
  | zero => intro _; rfl
  | succ n ih2 =>
    intro h
    by_cases hin : ∃ p, ops[n]? = some p ∧ p.dst = some t
    · obtain ⟨p, hp, hd⟩ := hin
      by_cases hx : X n
      · rw [cutT_yes hx hp hd, cutT_yes ((h n (by omega) ⟨p, hp, hd⟩).1 hx) hp hd]
      · rw [cutT_no (fun k => absurd k hx), cutT_no (fun k => absurd ((h n (by omega) ⟨p, hp, hd⟩).2 k) hx), ih2 fun i hi => h i (by omega)]
    · rw [cutT_no (fun _ p hp hd => hin ⟨p, hp, hd⟩), cutT_no (fun _ p hp hd => hin ⟨p, hp, hd⟩), ih2 fun i hi => h i (by omega)]
theorem tmp_step {X : Nat → Prop} (hX : Closed ops X) {j : Nat} {o : Oper} (ho : ops[j]? = some o) (hj : ¬ X j) {T T' : Tmps} (hT : ∀ t, tget T t = cutT ops Ts vs X ops.size t)
    (hs : setT nt T o.dst (vs j) = some T') (t : Nat) : tget T' t = cutT ops Ts vs (fun i => i = j ∨ X i) ops.size t := by
  have hjlt := (Array.getElem?_eq_some_iff.1 ho).1
  rw [tget_put hs t]
  by_cases hd : o.dst = some t
  · rw [if_pos hd]
    have h1 := tr.tmp_late hX ho hj (.inr hd) (ops.size - (j + 1)) (by omega) (fun i => i = j ∨ X i) (fun i hi => ⟨fun h => h.resolve_left (by omega), .inr⟩)
    rw [show j + 1 + (ops.size - (j + 1)) = ops.size from by omega] at h1
    rw [h1, cutT_yes (.inl rfl) ho hd]
  · rw [if_neg hd, hT]
    refine tmp_same ops.size fun i _ hi => ⟨.inr, fun h => ?_⟩
    rcases h with rfl | h
    · obtain ⟨p, hp, hd'⟩ := hi
      rw [ho] at hp; cases hp
      exact absurd hd' hd
    · exact h
theorem tmp_all {X : Nat → Prop} (hX : ∀ i, i < ops.size → X i) (t : Nat) : ∀ n, n ≤ ops.size → cutT ops Ts vs X n t = tget (Ts n) t := by
  intro n
  induction n with
  | zero => intro _; rfl
  | succ n ih2 =>
    intro hn
    have hp : ops[n]? = some ops[n] := Array.getElem?_eq_getElem (by omega)
    rw [tget_put (tr.did n _ hp).set t]
    by_cases hd : ops[n].dst = some t
    · rw [if_pos hd]; exact cutT_yes (hX n (by omega)) hp hd
    · rw [if_neg hd, cutT_no (fun _ p hp' => by rw [hp] at hp'; cases hp'; exact hd), ih2 (by omega)]
theorem next_le : ∀ d j, j + d ≤ ops.size → (Hs j).next ≤ (Hs (j + d)).next := by
  intro d
  induction d with
  | zero => intro j _; exact Nat.le_refl _
  | succ d ih2 =>
    intro j hj
    have hp : ops[j + d]? = some ops[j + d] := Array.getElem?_eq_getElem (by omega)
    exact Nat.le_trans (ih2 j (by omega)) (tr.did _ _ hp).does.next
theorem lo_eq : ∀ j, j ≤ ops.size → (Hs j).lo = (Hs 0).lo := by
  intro j
  induction j with
  | zero => intro _; rfl
  | succ j ih2 =>
    intro hj
    have hp : ops[j]? = some ops[j] := Array.getElem?_eq_getElem (by omega)
    rw [(tr.did _ _ hp).does.lo, ih2 (by omega)]
end Trace
end
end Go.AM
namespace Go.AM
open Go Go.RowKit
section
variable {P : Program} {σ : Nat → Value} {base nt : Nat} {ih : Task → M Out}
theorem WR.same {ρ : Ren} {H K : AHeap} {w : World} (h : WR σ ρ base H w) (hb : ∀ id, K.blks.get id = H.blks.get id) (hl : K.lo = H.lo) : WR σ ρ base K w := by
  obtain ⟨a, b, c, d⟩ := h
  refine ⟨fun id x hx => ?_, fun id x L hx hL hlo => ?_, fun i j bi bj Li Lj hi hj hLi hLj hlo hne => ?_, d⟩
  · rw [hl]; exact a id x ((hb id).symm.trans hx)
  · rw [hl] at hlo; exact b id x L ((hb id).symm.trans hx) hL hlo
  · rw [hl] at hlo; exact c i j bi bj Li Lj ((hb i).symm.trans hi) ((hb j).symm.trans hj) hLi hLj hlo hne
theorem TRel.same {ρ : Ren} {T T' : Tmps} {tm : Array Value} (h : TRel σ ρ nt T tm) (ht : ∀ t, tget T' t = tget T t) : TRel σ ρ nt T' tm :=
  ⟨h.size, fun i => by rw [ht]; exact h.at_ i⟩
def cntF : List Bool → Nat
  | [] => 0
  | b :: l => (if b then 0 else 1) + cntF l
theorem cntF_set : ∀ (l : List Bool) (i : Nat), l[i]? = some false → cntF (l.set i true) + 1 = cntF l
  | [], i, h => by simp at h
  | b :: l, 0, h => by simp at h; subst h; simp [cntF]; omega
  | b :: l, i + 1, h => by simp at h; have := cntF_set l i h; simp only [List.set_cons_succ, cntF]; omega
theorem cntF_zero : ∀ (l : List Bool), cntF l = 0 → ∀ i : Nat, l[i]? ≠ some false
  | [], _, i => by simp
  | b :: l, h, i => by
    simp only [cntF] at h
    cases b with
    | false => simp at h
    | true =>
      cases i with
      | zero => simp
      | succ i => simpa using cntF_zero l (by simpa using h) i
theorem cntF_replicate (n : Nat) : cntF (List.replicate n false) = n := by
  induction n with
  | zero => rfl
  | succ n ih => simp [List.replicate_succ, cntF, ih]; omega
def Done (listed : Array Bool) : Nat → Prop := fun i => listed.getD i true = true
theorem done_set {listed : Array Bool} {j : Nat} (h : listed.getD j true = false) : Done (listed.setIfInBounds j true) = fun i => i = j ∨ Done listed i := by
  funext i
  apply propext
  unfold Done
  by_cases e : j = i
  · subst e
    have hlt : j < listed.size := by
      rcases Nat.lt_or_ge j listed.size with h' | h'
      · exact h'
      · simp [Array.getElem?_eq_none h'] at h
    simp [hlt]
  · rw [getD_set_ne true e]
    exact ⟨.inr, fun h => h.resolve_left (fun k => e k.symm)⟩
theorem undone {listed : Array Bool} {j : Nat} (h : listed.getD j true = false) : listed.toList[j]? = some false := by
  rcases Nat.lt_or_ge j listed.size with h' | h'
  · simp [Array.getElem?_eq_getElem h'] at h
    simp [h', h]
  · simp [Array.getElem?_eq_none h'] at h
theorem done_of_false {listed : Array Bool} {j : Nat} (h : listed.getD j false = true) : Done listed j := by
  unfold Done
  rcases Nat.lt_or_ge j listed.size with h' | h'
  · simp [Array.getElem?_eq_getElem h'] at h ⊢; exact h
  · simp [Array.getElem?_eq_none h'] at h
variable {ops : Array Oper} {Ts : Nat → Tmps} {Hs : Nat → AHeap} {vs : Nat → AVal} {es : Nat → List (Nat × Bool)}
structure Inv (σ : Nat → Value) (base nt : Nat) (ops : Array Oper) (Ts : Nat → Tmps) (Hs : Nat → AHeap) (vs : Nat → AVal) (es : Nat → List (Nat × Bool)) (ρ0 : Ren) (w0 : World) (d0 : Act) (X : Nat → Prop) (T : Tmps) (H : AHeap) (ρ : Ren) (w : World) (a : Act) : Prop where
  closed : Closed ops X
  blks : ∀ id, H.blks.get id = cut Hs es X ops.size id
  tmps : ∀ t, tget T t = cutT ops Ts vs X ops.size t
  lo : H.lo = (Hs 0).lo
  free : ∀ j, j < ops.size → ¬ X j → Free ρ (Hs j).next (Hs (j + 1)).next
  ext : Ext ρ0 ρ (Hs 0).next (Hs ops.size).next
  wr : WR σ ρ base H w
  below : Below base w0 w
  rel : TRel σ ρ nt T a.tmps
  defers : a.defers = d0.defers
theorem inv_step (hc : CallOK P ih) (hr : RoundOK P ih) (hname : NoNum P) (hfr : ∀ t, Fr (ih t)) (hσ : One σ) (tr : Trace P ih nt ops Ts Hs vs es) {r : Option Nat} {Q : Exit → Act → World → Prop} {K : Act → World → Prop}
    {ρ0 ρ : Ren} {w0 w : World} {d0 a : Act} {X : Nat → Prop} {T : Tmps} {H : AHeap} (hi : Inv σ base nt ops Ts Hs vs es ρ0 w0 d0 X T H ρ w a) {j : Nat} {o : Oper} (ho : ops[j]? = some o) (hj : ¬ X j) (hready : ∀ e ∈ o.after, Region.binds .any e = true → X e.on)
    (hK : ∀ a' w' T' H' ρ', Inv σ base nt ops Ts Hs vs es ρ0 w0 d0 (fun i => i = j ∨ X i) T' H' ρ' w' a' → K a' w') : wpOpIn (FR r) 0 P ops Q j K a w := by
  have hjlt := (Array.getElem?_eq_some_iff.1 ho).1
  have hdid := tr.did j o ho
  obtain ⟨H2', e2, d2, n2, g2⟩ := hdid.fr { H with next := (Hs j).next } rfl (by show H.lo = _; rw [hi.lo, tr.lo_eq j (by omega)])
    (fun id b hb => by show H.blks.get id = _; rw [hi.blks, tr.blk_ready hi.closed ho hj hready hb])
  rw [← valOp_congr (P := P) (ih := ih) (T := T) (fun t ht => by rw [hi.tmps, tr.tmp_ready hi.closed ho hj hready ht])] at e2
  have hT' : ∃ T', setT nt T o.dst (vs j) = some T' := by
    have := hdid.set
    cases hd : o.dst with
    | none => exact ⟨T, rfl⟩
    | some d =>
      rw [hd] at this
      simp only [setT] at this ⊢
      obtain ⟨h1, _⟩ := condO_some this
      rw [h1]; exact ⟨_, rfl⟩
  obtain ⟨T', hT'⟩ := hT'
  unfold wpOpIn
  simp only [ho]
  refine valOp_ok hc hr hname e2 hfr hi.rel hσ (hi.wr.log rfl rfl) (by rw [n2]; exact hi.free j hjlt hj) ?_
  intro v' w' ρ' hp hv
  have hle : ∀ i k, i ≤ k → k ≤ ops.size → (Hs i).next ≤ (Hs k).next := fun i k h1 h2 => by
    have := tr.next_le (k - i) i (by omega)
    rwa [show i + (k - i) = k from by omega] at this
  refine hK _ w' T' H2' ρ' ⟨?_, ?_, ?_, ?_, ?_, ?_, hp.wr, hi.below.trans hp.below, ?_, ?_⟩
  · intro k p hp' hk e he hb
    rcases hk with rfl | hk
    · rw [ho] at hp'; cases hp'; exact .inr (hready e he hb)
    · exact .inr (hi.closed k p hp' hk e he hb)
  · exact tr.blk_step hi.closed ho hj (H := H) (fun id => hi.blks id) d2.same g2
  · exact tr.tmp_step hi.closed ho hj hi.tmps hT'
  · rw [d2.lo]; exact hi.lo
  · intro k hk hx
    have hkj : k ≠ j := fun e => hx (.inl e)
    have hxk : ¬ X k := fun h => hx (.inr h)
    intro id h1 h2
    rw [hp.ext.out id ?_]
    · exact hi.free k hk hxk id h1 h2
    · show id < (Hs j).next ∨ H2'.next ≤ id
      rw [n2]
      rcases Nat.lt_or_ge k j with h | h
      · have := hle (k + 1) j (by omega) (by omega); omega
      · have := hle (j + 1) k (by omega) (by omega); omega
  · refine ⟨hi.ext.le.trans hp.ext.le, fun id hid => ?_⟩
    rw [hp.ext.out id ?_, hi.ext.out id hid]
    show id < (Hs j).next ∨ H2'.next ≤ id
    rw [n2]
    have := hle 0 j (by omega) (by omega)
    have := hle (j + 1) ops.size (by omega) (by omega)
    omega
  · exact put_rel hT' (hi.rel.mono hp.ext.le) hv
  · rw [put_defers]; exact hi.defers
theorem any_ok (hc : CallOK P ih) (hr : RoundOK P ih) (hname : NoNum P) (hfr : ∀ t, Fr (ih t)) (hσ : One σ) (tr : Trace P ih nt ops Ts Hs vs es) {r : Option Nat} {Q : Exit → Act → World → Prop}
    {ρ0 : Ren} {w0 : World} {d0 : Act} (hQ : ∀ a' w' ρ', Ext ρ0 ρ' (Hs 0).next (Hs ops.size).next → WR σ ρ' base (Hs ops.size) w' → Below base w0 w' → TRel σ ρ' nt (Ts ops.size) a'.tmps → a'.defers = d0.defers → Q .normal a' w') :
    ∀ (fuel : Nat) (listed : Array Bool) (T : Tmps) (H : AHeap) (ρ : Ren) (w : World) (a : Act), listed.size = ops.size → cntF listed.toList ≤ fuel → Inv σ base nt ops Ts Hs vs es ρ0 w0 d0 (Done listed) T H ρ w a → wpAnyIn (FR r) 0 P .any ops Q fuel listed a w := by
  have fin : ∀ (listed : Array Bool) (T : Tmps) (H : AHeap) (ρ : Ren) (w : World) (a : Act), (∀ i, i < ops.size → Done listed i) → Inv σ base nt ops Ts Hs vs es ρ0 w0 d0 (Done listed) T H ρ w a → Q .normal a w := by
    intro listed T H ρ w a hall hi
    refine hQ a w ρ hi.ext (hi.wr.same (fun id => ?_) ?_) hi.below (hi.rel.same fun t => ?_) hi.defers
    · rw [hi.blks, tr.blk_all hall id ops.size (Nat.le_refl _)]
    · rw [hi.lo, tr.lo_eq _ (Nat.le_refl _)]
    · rw [hi.tmps, tr.tmp_all hall t ops.size (Nat.le_refl _)]
  have ready : ∀ (listed : Array Bool), listed.size = ops.size → Region.ready .any ops listed = [] → ∀ i, i < ops.size → Done listed i := by
    intro listed hs hnil i
    induction i using Nat.strongRecOn with
    | _ i ih2 =>
      intro hi
      unfold Done
      cases hg : listed.getD i true with
      | true => rfl
      | false =>
        exfalso
        have ho : ops[i]? = some ops[i] := Array.getElem?_eq_getElem hi
        have : i ∈ Region.ready .any ops listed := mem_ready.2 ⟨hg, _, ho, fun e he hb => by
          have hlt := tr.back i _ ho e he hb
          have := ih2 e.on hlt (by omega)
          unfold Done at this
          simp [Array.getElem?_eq_getElem (by omega : e.on < listed.size)] at this ⊢
          exact this⟩
        rw [hnil] at this; cases this
  intro fuel
  induction fuel with
  | zero =>
    intro listed T H ρ w a hs hcnt hi
    have hall : ∀ i, i < ops.size → Done listed i := by
      intro i _
      unfold Done
      cases hg : listed.getD i true with
      | true => rfl
      | false => exact absurd (undone hg) (cntF_zero _ (by omega) i)
    refine ⟨?_, fin _ _ _ _ _ _ hall hi⟩
    cases hrd : Region.ready .any ops listed with
    | nil => rfl
    | cons x xs =>
      exfalso
      have hx : x ∈ Region.ready .any ops listed := by rw [hrd]; simp
      obtain ⟨h1, o, ho, _⟩ := mem_ready.1 hx
      have := hall x (Array.getElem?_eq_some_iff.1 ho).1
      unfold Done at this
      rw [h1] at this; cases this
  | succ fuel ih2 =>
    intro listed T H ρ w a hs hcnt hi
    refine ⟨fun hnil => fin _ _ _ _ _ _ (ready listed hs hnil) hi, fun j hj => ?_⟩
    obtain ⟨hjun, o, ho, hall⟩ := mem_ready.1 hj
    have hjx : ¬ Done listed j := by unfold Done; rw [hjun]; simp
    refine inv_step hc hr hname hfr hσ tr hi ho hjx (fun e he hb => done_of_false (hall e he hb)) ?_
    intro a' w' T' H' ρ' hi'
    refine ih2 _ T' H' ρ' w' a' (by simp [hs]) ?_ (by rw [done_set hjun]; exact hi')
    have := cntF_set _ _ (undone hjun)
    rw [Array.toList_setIfInBounds]
    omega
theorem regionOk_spec {l : List Oper} (h : regionOk l = true) : backEdges l 0 = true ∧ ∀ o ∈ l, ∀ c, o.op ≠ .defer c := by
  simp only [regionOk, Bool.and_eq_true] at h
  refine ⟨h.1, fun o ho c e => ?_⟩
  have := List.all_eq_true.1 h.2 o ho
  rw [e] at this; cases this
theorem opsD_ok (hm : P.follows .mixedOrders = true) (hc : CallOK P ih) (hr : RoundOK P ih) (hname : NoNum P) (hfr : ∀ t, Fr (ih t)) (hσ : One σ) {id : Nat} {r : Option Nat} {Q : Exit → Act → World → Prop} {T T' : Tmps} {H H' : AHeap} {ρ : Ren} {w : World} {a : Act}
    (hok : regionOk ops.toList = true) (h : opsD P ih nt ops ops.toList (masks ops.toList []) [] T H = some (T', H')) (hT : TRel σ ρ nt T a.tmps) (hwr : WR σ ρ base H w) (hf : Free ρ H.next H'.next)
    (hQ : ∀ a' w' ρ', Post σ ρ ρ' base H H' w w' → TRel σ ρ' nt T' a'.tmps → a'.defers = a.defers → Q .normal a' w') : (Code.region id ops true).wpIn (FR r) 0 P Q a w := by
  have hback := (regionOk_spec hok).1
  obtain ⟨Ts, Hs, vs, es, a1, a2, a3, a4, a5⟩ := trace hfr ops.toList _ [] 0 T H T' H' rfl h
  simp only [Nat.zero_add, Array.length_toList] at a3 a4 a5
  have a5' : ∀ j o, ops[j]? = some o → _ := fun j o ho => a5 j o (by rw [Array.getElem?_toList]; exact ho)
  have tr : Trace P ih nt ops Ts Hs vs es := by
    refine ⟨fun j o ho => (a5' j o ho).1, fun j o ho e he hb => ?_, fun i j p o hij hp ho => ?_⟩
    · have := backEdges_spec ops.toList 0 hback j o (by rw [Array.getElem?_toList]; exact ho) e he hb
      omega
    · obtain ⟨_, mk, h1, _, h3⟩ := a5' j o ho
      exact ⟨mk, h1, h3 i p hij (by rw [Array.getElem?_toList]; exact hp)⟩
  subst a1 a2 a3 a4
  refine wpIn_region_any hm (any_ok (base := base) hc hr hname hfr hσ tr (ρ0 := ρ) (w0 := w) (d0 := a) ?_ ops.size _ (Ts 0) (Hs 0) ρ _ a (by simp) (by simp [cntF_replicate]) ?_)
  · intro a' w' ρ' h1 h2 h3 h4 h5
    exact hQ a' w' ρ' ⟨h1, h2, h3⟩ h4 h5
  · have hno : ∀ i, i < ops.size → ¬ Done (Array.replicate ops.size false) i := by
      intro i hi
      unfold Done
      simp [hi]
    have hle : ∀ i k, i ≤ k → k ≤ ops.size → (Hs i).next ≤ (Hs k).next := fun i k h1 h2 => by
      have := tr.next_le (k - i) i (by omega)
      rwa [show i + (k - i) = k from by omega] at this
    refine ⟨?_, ?_, ?_, rfl, ?_, .refl _ _ _, ?_, ?_, hT, rfl⟩
    · intro j o ho hj
      exact absurd hj (hno j (Array.getElem?_eq_some_iff.1 ho).1)
    · intro i
      have : ∀ n, n ≤ ops.size → cut Hs es (Done (Array.replicate ops.size false)) n i = (Hs 0).blks.get i := by
        intro n
        induction n with
        | zero => intro _; rfl
        | succ n ih2 => intro hn; rw [cut_no (fun k => absurd k (hno n (by omega))), ih2 (by omega)]
      rw [this _ (Nat.le_refl _)]
    · intro t
      have : ∀ n, n ≤ ops.size → cutT ops Ts vs (Done (Array.replicate ops.size false)) n t = tget (Ts 0) t := by
        intro n
        induction n with
        | zero => intro _; rfl
        | succ n ih2 => intro hn; rw [cutT_no (fun k => absurd k (hno n (by omega))), ih2 (by omega)]
      rw [this _ (Nat.le_refl _)]
    · intro j hj _ i h1 h2
      exact hf i (Nat.le_trans (hle 0 j (by omega) (by omega)) h1) (Nat.lt_of_lt_of_le h2 (hle (j + 1) ops.size (by omega) (by omega)))
    · obtain ⟨x1, x2, x3, x4⟩ := hwr
      exact ⟨x1, x2, x3, x4⟩
    · exact ⟨rfl, rfl, rfl, Nat.le_refl _, fun _ _ => rfl⟩
end
end Go.AM
namespace Go.AM
open Go Go.RowKit
section
variable {P : Program} {σ : Nat → Value} {ρ : Ren} {base nt : Nat} {H H' : AHeap} {w : World} {T : Tmps}

theorem putObj_upd {B : Nat} {o0 : Obj} (o : Obj) (h : w.heap[B]? = some o0) : Upd w B o (w.putObj B o) :=
  ⟨rfl, rfl, rfl, by simp, World.putObj_heap_same (lt_of_get h), fun _ hk => World.putObj_heap_other hk⟩
/-- what is deferred -/
def DRel (σ : Nat → Value) (ρ : Ren) : List Mk → List Deferred → Prop
  | [], ds => ds = []
  | .mark m :: ms, ds => ∃ L ds', ρ m = some L ∧ ds = { target := .collected L.blk, args := #[] } :: ds' ∧ DRel σ ρ ms ds'
  | .call k args :: ms, ds => ∃ (cs fs : Array Value) (ds' : List Deferred), ds = { target := .fn (.func k) cs, args := fs } :: ds' ∧ RelL σ ρ args (fs ++ cs).toList ∧ DRel σ ρ ms ds'
theorem DRel.mono {ρ ρ' : Ren} (h : Le ρ ρ') : ∀ {ms : List Mk} {ds : List Deferred}, DRel σ ρ ms ds → DRel σ ρ' ms ds
  | [], _, r => r
  | .mark _ :: _, _, r => by unfold DRel at r ⊢; obtain ⟨L, ds', h1, h2, h3⟩ := r; exact ⟨L, ds', h _ _ h1, h2, DRel.mono h h3⟩
  | .call _ _ :: _, _, r => by unfold DRel at r ⊢; obtain ⟨cs, fs, ds', h1, h2, h3⟩ := r; exact ⟨cs, fs, ds', h1, RelL.mono h _ _ h2, DRel.mono h h3⟩
theorem DRel.append : ∀ {ms ms' : List Mk} {ds ds' : List Deferred}, DRel σ ρ ms ds → DRel σ ρ ms' ds' → DRel σ ρ (ms ++ ms') (ds ++ ds')
  | [], _, _, _, h, k => by unfold DRel at h; subst h; exact k
  | .mark m :: ms, _, _, _, h, k => by
    unfold DRel at h
    obtain ⟨L, es, h1, rfl, h3⟩ := h
    show DRel σ ρ (.mark m :: (ms ++ _)) _
    unfold DRel
    exact ⟨L, es ++ _, h1, rfl, DRel.append h3 k⟩
  | .call f as' :: ms, _, _, _, h, k => by
    unfold DRel at h
    obtain ⟨cs, fs, es, rfl, h2, h3⟩ := h
    show DRel σ ρ (.call f as' :: (ms ++ _)) _
    unfold DRel
    exact ⟨cs, fs, es ++ _, rfl, h2, DRel.append h3 k⟩
theorem results_ok {tm : Array Value} (hT : TRel σ ρ nt T tm) (hwr : WR σ ρ base H w) : ∀ (rs : List ResultVar) (H1 H' : AHeap) (vs : List AVal), H1.blks = H.blks → H1.lo = H.lo → resultsA P T rs H1 = some (vs, H') →
    H'.blks = H.blks ∧ H'.lo = H.lo ∧ H'.next = H1.next ∧ ∃ vs', (rs.mapM fun r => (match r with
      | .tmp t => pure (tm.getD t undef)
      | .cell a t => do loadVar t (← asAddr (tm.getD a undef)) : Sem Value)).run P w = .ok vs' w ∧ RelL σ ρ vs vs'
  | [], H1, H', vs, e1, e2, h => by
    cases ret_some h
    exact ⟨e1, e2, rfl, [], by simp, .nil⟩
  | .tmp t :: rs, H1, H', vs, e1, e2, h => by
    obtain ⟨us, K, h1, h2⟩ := bd_some h
    cases ret_some h2
    obtain ⟨a1, a2, a3, vs', a4, a5⟩ := results_ok hT hwr rs H1 _ us e1 e2 h1
    refine ⟨a1, a2, a3, tm.getD t undef :: vs', by simp only [List.mapM_cons, Sem.run_bind, Sem.run_pure, Result.andThen_ok, a4], .cons ?_ a5⟩
    have := hT.at_ t
    unfold tget at this
    cases hg : T.get t with
    | none => rw [hg] at this; exact this
    | some v => rw [hg] at this; exact this
  | .cell x t :: rs, H1, H', vs, e1, e2, h => by
    unfold resultsA at h
    have hx := hT.at_ x
    unfold tget at hx
    cases hg : T.get x with
    | none => simp only [hg] at h; exact (fail_some h).elim
    | some y =>
      rw [hg] at hx
      simp only [Option.getD_some] at hx
      cases y with
      | ptr b o =>
        simp only [hg] at h
        unfold Rel at hx
        obtain ⟨L, hL, hx⟩ := hx
        obtain ⟨v, K, h1, h2⟩ := bd_some h
        obtain ⟨us, K2, h3, h4⟩ := bd_some h2
        cases ret_some h4
        obtain ⟨b1, b2, b3, v', b4, b5⟩ := loadA_ok (P := P) h1 (hwr.log (K := H1) e1 e2) hL
        obtain ⟨a1, a2, a3, vs', a4, a5⟩ := results_ok hT hwr rs K _ us (b1.trans e1) (b2.trans e2) h3
        refine ⟨a1, a2, a3.trans b3, v' :: vs', ?_, .cons b5 a5⟩
        have ea : (asAddr (tm.getD x undef)).run P w = .ok ⟨L.blk, L.sh + o, none⟩ w := by rw [hx]; rfl
        simp only [List.mapM_cons, Sem.run_bind, ea, Sem.run_pure, Result.andThen_ok, b4, a4]
      | _ => simp only [hg] at h; exact (fail_some h).elim
theorem oneV_rel {vs : List AVal} {vs' : List Value} (h : RelL σ ρ vs vs') : Rel σ ρ (oneV vs) (if h : vs'.toArray.size = 1 then vs'.toArray[0] else .tuple vs'.toArray) := by
  match vs, h with
  | [], h => unfold RelL at h; subst h; show Rel σ ρ (.tup []) _; unfold Rel; exact ⟨#[], rfl, .nil⟩
  | [x], h =>
    unfold RelL at h
    obtain ⟨y, ys, rfl, h1, h2⟩ := h
    unfold RelL at h2; subst h2
    exact h1
  | x :: x2 :: xs, h =>
    have hl := h.length
    rw [dif_neg (by simp at hl ⊢; omega)]
    show Rel σ ρ (.tup (x :: x2 :: xs)) _
    unfold Rel
    exact ⟨_, rfl, h⟩
theorem setParams_rel : ∀ (ps : List Tmp) (args : List AVal) (vs : List Value) (T T' : Tmps) (tm : Array Value), setParams nt T ps args = some T' → TRel σ ρ nt T tm → RelL σ ρ args vs → TRel σ ρ nt T' ((ps.zip vs).foldl (fun tmps (x : Tmp × Value) => tmps.setIfInBounds x.1 x.2) tm)
  | [], [], vs, T, T', tm, h, hT, _ => by cases h; exact hT
  | [], _ :: _, _, _, _, _, h, _, _ => by cases h
  | _ :: _, [], _, _, _, _, h, _, _ => by cases h
  | p :: ps, x :: xs, vs, T, T', tm, h, hT, hr => by
    unfold RelL at hr
    obtain ⟨y, ys, rfl, h1, h2⟩ := hr
    simp only [setParams] at h
    obtain ⟨hp, h⟩ := condO_some h
    have := put_rel (nt := nt) (a := { tmps := tm, defers := [] }) (dst := some p) (v := x) (v' := y) (T' := T.put p (some x)) (by simp [setT, hp]) hT h1
    exact setParams_rel ps xs ys _ T' _ h this h2
theorem params_start {args : List AVal} {args' : Array Value} (hr : RelL σ ρ args args'.toList) (hn : args.length ≤ nt) : TRel σ ρ nt (Tr.ofListAt .nil 0 args) (args' ++ Array.replicate (nt - args'.size) undef) := by
  have hl : args'.size = args.length := by simpa using hr.length
  refine ⟨by simp; omega, fun i => ?_⟩
  unfold tget
  rw [Tr.get_ofListAt, Tr.get_nil]
  by_cases hi : i < args.length
  · rw [if_pos ⟨by omega, by omega⟩]
    have hx : args[i - 0]? = some args[i] := by simp [hi]
    obtain ⟨y, hy, hr⟩ := hr.get i args[i] (by simp [hi])
    have hi' : i < args'.size := by omega
    rw [hx]
    simp only [Option.getD_some]
    have : (args' ++ Array.replicate (nt - args'.size) undef).getD i undef = y := by
      rw [Array.getD_eq_getD_getElem?, Array.getElem?_append_left hi', ← Array.getElem?_toList, hy]; rfl
    rw [this]; exact hr
  · rw [if_neg (by omega)]
    have : (args' ++ Array.replicate (nt - args'.size) undef).getD i undef = undef := by
      rw [Array.getD_eq_getD_getElem?, Array.getElem?_append_right (by omega)]
      rw [Array.getElem?_replicate]
      split <;> rfl
    rw [this]; exact rel_undef
end
end Go.AM
namespace Go.AM
open Go Go.RowKit
section
variable {P : Program} {σ : Nat → Value} {ρ : Ren} {base nt : Nat} {H H' : AHeap} {w : World} {T : Tmps} {a : Act} {ih : Task → M Out} {n : Nat}
def exitE : AExit → Exit
  | .nrm => .normal
  | .exit id => .exit id
  | .ret => .ret
def RR (ρ : Ren) : Option Nat → Option Nat → Prop
  | none, r => r = none
  | some l, r => ∃ L, ρ l = some L ∧ r = some L.blk
theorem RR.mono {ρ ρ' : Ren} {x r : Option Nat} (h : RR ρ x r) (hl : Le ρ ρ') : RR ρ' x r := by
  cases x with
  | none => exact h
  | some l => obtain ⟨L, h1, h2⟩ := h; exact ⟨L, hl _ _ h1, h2⟩
def ACode (r : Option Nat) (n : Nat) (P : Program) (c : Code) (Q : Exit → Act → World → Prop) (a : Act) (w : World) : Prop :=
  match c with
  | .loop b => Code.roundsIn (FR r) 0 P b Q (match mapStep b with | some _ => 1000 | none => n) a w
  | c => c.wpIn (FR r) 0 P Q a w
theorem ACode.wp {r : Option Nat} {c : Code} {Q : Exit → Act → World → Prop} (h : ACode r n P c Q a w) : c.wpIn (FR r) 0 P Q a w := by
  cases c <;> first | exact wpIn_loop_rounds _ h | exact h
structure CodePost (σ : Nat → Value) (ρ : Ren) (base nt : Nat) (H H' : AHeap) (w : World) (T' : Tmps) (ms' : List Mk) (ρ' : Ren) (a' : Act) (w' : World) : Prop where
  post : Post σ ρ ρ' base H H' w w'
  tmps : TRel σ ρ' nt T' a'.tmps
  defers : DRel σ ρ' ms' a'.defers
def CodeOK (P : Program) (n : Nat) (ih : Task → M Out) : Prop := ∀ (nt : Nat) (rA : Option Nat) (c : Code) (T : Tmps) (ms : List Mk) (H : AHeap) (o : Out) (H' : AHeap), ih (.code nt rA c T ms) H = some (o, H') →
  ∃ e T' ms', o = .exit e T' ms' ∧ ∀ (σ : Nat → Value) (ρ : Ren) (base : Nat) (w : World) (a : Act) (r : Option Nat) (Q : Exit → Act → World → Prop), One σ → WR σ ρ base H w → Free ρ H.next H'.next → TRel σ ρ nt T a.tmps → RR ρ rA r → DRel σ ρ ms a.defers →
    (∀ a' w' ρ', CodePost σ ρ base nt H H' w T' ms' ρ' a' w' → Q (exitE e) a' w') → ACode r n P c Q a w
/-- what one step of code is to show -/
def Goal (P : Program) (n nt : Nat) (rA : Option Nat) (c : Code) (T : Tmps) (ms : List Mk) (H : AHeap) (o : Out) (H' : AHeap) : Prop :=
  ∃ e T' ms', o = .exit e T' ms' ∧ ∀ (σ : Nat → Value) (ρ : Ren) (base : Nat) (w : World) (a : Act) (r : Option Nat) (Q : Exit → Act → World → Prop), One σ → WR σ ρ base H w → Free ρ H.next H'.next → TRel σ ρ nt T a.tmps → RR ρ rA r → DRel σ ρ ms a.defers →
    (∀ a' w' ρ', CodePost σ ρ base nt H H' w T' ms' ρ' a' w' → Q (exitE e) a' w') → ACode r n P c Q a w
theorem CodePost.stay {ms : List Mk} (hwr : WR σ ρ base H w) (hT : TRel σ ρ nt T a.tmps) (hd : DRel σ ρ ms a.defers) : CodePost σ ρ base nt H H w T ms ρ a w :=
  ⟨⟨.refl _ _ _, hwr, .refl _ _⟩, hT, hd⟩
theorem next_of {t : Task} (hfr : ∀ t, Fr (ih t)) {o : Out} (h : ih t H = some (o, H')) : H.next ≤ H'.next := by obtain ⟨es, d, _⟩ := hfr t H o H' h; exact d.next
theorem CodePost.trans {ρ1 ρ2 : Ren} {K : AHeap} {T1 T2 : Tmps} {ms1 ms2 : List Mk} {a1 a2 : Act} {w1 w2 : World} (h : CodePost σ ρ base nt H K w T1 ms1 ρ1 a1 w1) (k : CodePost σ ρ1 base nt K H' w1 T2 ms2 ρ2 a2 w2)
    (m1 : H.next ≤ K.next) (m2 : K.next ≤ H'.next) : CodePost σ ρ base nt H H' w T2 ms2 ρ2 a2 w2 :=
  ⟨⟨h.post.ext.trans k.post.ext m1 m2, k.post.wr, h.post.below.trans k.post.below⟩, k.tmps, k.defers⟩
/-! ### several ways that come together -/
theorem intKindEq_eq : ∀ {k k' : IntKind}, intKindEq k k' = true → k = k' := by
  intro k k' h; cases k <;> cases k' <;> first | rfl | (cases h; done)
theorem eqFn_eq {f f' : Fn} (h : eqFn f f' = true) : f = f' := by
  unfold eqFn at h
  split at h
  · rw [Nat.eq_of_beq_eq_true h]
  · exact of_decide_eq_true h
mutual
theorem eqA_eq : ∀ {a b : AVal}, eqA a b = true → a = b
  | .bool a, b, h => by
    cases b <;> unfold eqA at h <;> first | (cases h; done) | (have := of_decide_eq_true (p := _ = _) (by simpa using h); simp_all)
  | .int k a, b, h => by
    cases b <;> unfold eqA at h <;> first | (cases h; done) | (simp only [Bool.and_eq_true, eqI_eq, beq_iff_eq] at h; obtain ⟨h1, rfl⟩ := h; rw [intKindEq_eq h1])
  | .str s, b, h => by
    cases b <;> unfold eqA at h <;> first | (cases h; done) | (rw [of_decide_eq_true h])
  | .ptr x o, b, h => by
    cases b <;> unfold eqA at h <;> first | (cases h; done) | (simp only [Bool.and_eq_true] at h; rw [Nat.eq_of_beq_eq_true h.1, Nat.eq_of_beq_eq_true h.2])
  | .nilptr, b, h => by cases b <;> unfold eqA at h <;> first | rfl | (cases h; done)
  | .slc x o l c e, b, h => by
    cases b <;> unfold eqA at h <;> first | (cases h; done) | skip
    rename_i x' o' l' c' e'
    simp only [Bool.and_eq_true] at h
    obtain ⟨h1, h2, h3, h4, h5⟩ := h
    rw [Nat.eq_of_beq_eq_true h1, Nat.eq_of_beq_eq_true h2, Nat.eq_of_beq_eq_true h3, Nat.eq_of_beq_eq_true h5]
    cases c <;> cases c' <;> first | rfl | (cases h4; done) | (rw [Nat.eq_of_beq_eq_true h4])
  | .nilslc, b, h => by cases b <;> unfold eqA at h <;> first | rfl | (cases h; done)
  | .map x, b, h => by
    cases b <;> unfold eqA at h <;> first | (cases h; done) | (rw [Nat.eq_of_beq_eq_true h])
  | .nilmap, b, h => by cases b <;> unfold eqA at h <;> first | rfl | (cases h; done)
  | .fn f a c, b, h => by
    cases b <;> unfold eqA at h <;> first | (cases h; done) | skip
    simp only [Bool.and_eq_true] at h
    obtain ⟨h1, h2, h3⟩ := h
    rw [eqFn_eq h1, eqAs_eq h2, eqAs_eq h3]
  | .yield x, b, h => by
    cases b <;> unfold eqA at h <;> first | (cases h; done) | (rw [Nat.eq_of_beq_eq_true h])
  | .nilFunc, b, h => by cases b <;> unfold eqA at h <;> first | rfl | (cases h; done)
  | .ifc t v, b, h => by
    cases b <;> unfold eqA at h <;> first | (cases h; done) | (simp only [Bool.and_eq_true] at h; rw [Nat.eq_of_beq_eq_true h.1, eqA_eq h.2])
  | .nilIface, b, h => by cases b <;> unfold eqA at h <;> first | rfl | (cases h; done)
  | .agg l, b, h => by
    cases b <;> unfold eqA at h <;> first | (cases h; done) | (rw [eqAs_eq h])
  | .tup l, b, h => by
    cases b <;> unfold eqA at h <;> first | (cases h; done) | (rw [eqAs_eq h])
  | .opq i, b, h => by
    cases b <;> unfold eqA at h <;> first | (cases h; done) | (rw [Nat.eq_of_beq_eq_true h])
theorem eqAs_eq : ∀ {a b : List AVal}, eqAs a b = true → a = b
  | [], b, h => by cases b <;> unfold eqAs at h <;> first | rfl | (cases h; done)
  | x :: xs, b, h => by
    cases b <;> unfold eqAs at h <;> first | (cases h; done) | (simp only [Bool.and_eq_true] at h; rw [eqA_eq h.1, eqAs_eq h.2])
end
theorem join_leaf (hσ : One σ) {a b c : AVal} (h : cond (eqA a b) (some a) (cond (a.one && b.one) (some (.opq 0)) none) = some c) {v : Value} : (Rel σ ρ a v → Rel σ ρ c v) ∧ (Rel σ ρ b v → Rel σ ρ c v) := by
  cases he : eqA a b with
  | true =>
    rw [he] at h
    cases h
    rw [eqA_eq he]
    exact ⟨id, id⟩
  | false =>
    rw [he] at h
    cases ho : a.one && b.one with
    | false => rw [ho] at h; cases h
    | true =>
      rw [ho] at h
      cases h
      simp only [Bool.and_eq_true] at ho
      refine ⟨fun h => ?_, fun h => ?_⟩
      · have := one_cell hσ h ho.1; unfold Rel; exact this
      · have := one_cell hσ h ho.2; unfold Rel; exact this
mutual
theorem joinV_rel (hσ : One σ) : ∀ (a b c : AVal), joinV a b = some c → ∀ v, (Rel σ ρ a v → Rel σ ρ c v) ∧ (Rel σ ρ b v → Rel σ ρ c v)
  | .agg l, b, c, h, v => by
    cases b
    case agg l' =>
      unfold joinV at h
      cases hj : joinVs l l' with
      | none => rw [hj] at h; cases h
      | some l2 =>
        rw [hj] at h
        cases h
        have := joinVs_rel hσ l l' l2 hj
        refine ⟨fun h => ?_, fun h => ?_⟩
        · unfold Rel at h ⊢; obtain ⟨cs, h1, h2⟩ := h; exact ⟨cs, h1, (this _).1 h2⟩
        · unfold Rel at h ⊢; obtain ⟨cs, h1, h2⟩ := h; exact ⟨cs, h1, (this _).2 h2⟩
    all_goals (unfold joinV at h; exact join_leaf hσ h)
  | .tup l, b, c, h, v => by
    cases b
    case tup l' =>
      unfold joinV at h
      cases hj : joinVs l l' with
      | none => rw [hj] at h; cases h
      | some l2 =>
        rw [hj] at h
        cases h
        have := joinVs_rel hσ l l' l2 hj
        refine ⟨fun h => ?_, fun h => ?_⟩
        · unfold Rel at h ⊢; obtain ⟨cs, h1, h2⟩ := h; exact ⟨cs, h1, (this _).1 h2⟩
        · unfold Rel at h ⊢; obtain ⟨cs, h1, h2⟩ := h; exact ⟨cs, h1, (this _).2 h2⟩
    all_goals (unfold joinV at h; exact join_leaf hσ h)
  | .bool _, b, c, h, v => by unfold joinV at h; exact join_leaf hσ h
  | .int _ _, b, c, h, v => by unfold joinV at h; exact join_leaf hσ h
  | .str _, b, c, h, v => by unfold joinV at h; exact join_leaf hσ h
  | .ptr _ _, b, c, h, v => by unfold joinV at h; exact join_leaf hσ h
  | .nilptr, b, c, h, v => by unfold joinV at h; exact join_leaf hσ h
  | .slc _ _ _ _ _, b, c, h, v => by unfold joinV at h; exact join_leaf hσ h
  | .nilslc, b, c, h, v => by unfold joinV at h; exact join_leaf hσ h
  | .map _, b, c, h, v => by unfold joinV at h; exact join_leaf hσ h
  | .nilmap, b, c, h, v => by unfold joinV at h; exact join_leaf hσ h
  | .fn _ _ _, b, c, h, v => by unfold joinV at h; exact join_leaf hσ h
  | .yield _, b, c, h, v => by unfold joinV at h; exact join_leaf hσ h
  | .nilFunc, b, c, h, v => by unfold joinV at h; exact join_leaf hσ h
  | .ifc _ _, b, c, h, v => by unfold joinV at h; exact join_leaf hσ h
  | .nilIface, b, c, h, v => by unfold joinV at h; exact join_leaf hσ h
  | .opq _, b, c, h, v => by unfold joinV at h; exact join_leaf hσ h
theorem joinVs_rel (hσ : One σ) : ∀ (a b c : List AVal), joinVs a b = some c → ∀ l, (RelL σ ρ a l → RelL σ ρ c l) ∧ (RelL σ ρ b l → RelL σ ρ c l)
  | [], b, c, h, l => by
    cases b <;> unfold joinVs at h
    · cases h; exact ⟨id, id⟩
    · cases h
  | x :: xs, b, c, h, l => by
    cases b with
    | nil => unfold joinVs at h; cases h
    | cons y ys =>
      unfold joinVs at h
      cases h1 : joinV x y with
      | none => rw [h1] at h; cases h
      | some z =>
        cases h2 : joinVs xs ys with
        | none => rw [h1, h2] at h; cases h
        | some zs =>
          rw [h1, h2] at h
          cases h
          have a1 := joinV_rel hσ x y z h1
          have a2 := joinVs_rel hσ xs ys zs h2
          refine ⟨fun h => ?_, fun h => ?_⟩
          · unfold RelL at h ⊢; obtain ⟨u, us, e, r1, r2⟩ := h; exact ⟨u, us, e, (a1 _).1 r1, (a2 _).1 r2⟩
          · unfold RelL at h ⊢; obtain ⟨u, us, e, r1, r2⟩ := h; exact ⟨u, us, e, (a1 _).2 r1, (a2 _).2 r2⟩
end
def oval (o : Option AVal) : AVal := o.getD .undef
theorem joinO_rel (hσ : One σ) {a b c : Option AVal} (h : joinO a b = some c) (v : Value) : (Rel σ ρ (oval a) v → Rel σ ρ (oval c) v) ∧ (Rel σ ρ (oval b) v → Rel σ ρ (oval c) v) := by
  unfold joinO at h
  split at h
  · cases h; exact ⟨id, id⟩
  · unfold oval
    cases hj : joinV (a.getD .undef) (b.getD .undef) with
    | none => rw [hj] at h; cases h
    | some c' => rw [hj] at h; cases h; exact joinV_rel hσ _ _ c' hj v
theorem joinL_get : ∀ (T' U : Tmps), joinL T' = some U → ∀ i, joinO none (T'.get i) = some (U.get i)
  | .nil, U, h, i => by cases h; rw [Tr.get_nil]; rfl
  | .node v l r, U, h, i => by
    unfold joinL at h
    split at h
    · rename_i v2 l2 r2 h1 h2 h3
      cases h
      cases i with
      | zero => exact h1
      | succ i =>
        cases hb : Nat.beq (i % 2) 0 with
        | true => simp only [Tr.get, hb, cond_true]; exact joinL_get l l2 h2 _
        | false => simp only [Tr.get, hb, cond_false]; exact joinL_get r r2 h3 _
    · cases h
theorem joinR_get : ∀ (T U : Tmps), joinR T = some U → ∀ i, joinO (T.get i) none = some (U.get i)
  | .nil, U, h, i => by cases h; rw [Tr.get_nil]; rfl
  | .node v l r, U, h, i => by
    unfold joinR at h
    split at h
    · rename_i v2 l2 r2 h1 h2 h3
      cases h
      cases i with
      | zero => exact h1
      | succ i =>
        cases hb : Nat.beq (i % 2) 0 with
        | true => simp only [Tr.get, hb, cond_true]; exact joinR_get l l2 h2 _
        | false => simp only [Tr.get, hb, cond_false]; exact joinR_get r r2 h3 _
    · cases h
theorem joinT_get : ∀ (T T' U : Tmps), joinT T T' = some U → ∀ i, joinO (T.get i) (T'.get i) = some (U.get i)
  | .nil, T', U, h, i => by
    rw [Tr.get_nil]
    exact joinL_get T' U (by cases T' <;> exact h) i
  | .node v l r, T', U, h, i => by
    cases T' with
    | nil => rw [Tr.get_nil]; exact joinR_get _ U h i
    | node v' l' r' =>
      unfold joinT at h
      split at h
      · rename_i v2 l2 r2 h1 h2 h3
        cases h
        cases i with
        | zero => exact h1
        | succ i =>
          cases hb : Nat.beq (i % 2) 0 with
          | true => simp only [Tr.get, hb, cond_true]; exact joinT_get l l' l2 h2 _
          | false => simp only [Tr.get, hb, cond_false]; exact joinT_get r r' r2 h3 _
      · cases h
theorem meetT_get : ∀ (T T' : Tmps) (i : Nat) (x : AVal), (meetT T T').get i = some x → ∃ a b, T.get i = some a ∧ T'.get i = some b ∧ a.one = true ∧ b.one = true ∧ joinV a b = some x
  | .nil, T', i, x, h => by unfold meetT at h; rw [Tr.get_nil] at h; cases h
  | .node v l r, .nil, i, x, h => by unfold meetT at h; rw [Tr.get_nil] at h; cases h
  | .node v l r, .node v' l' r', i, x, h => by
    unfold meetT at h
    cases i with
    | zero =>
      simp only [Tr.get] at h ⊢
      unfold meetO at h
      split at h
      · rename_i a b
        cases ho : a.one && b.one with
        | false => rw [ho] at h; cases h
        | true => rw [ho] at h; simp only [Bool.and_eq_true] at ho; exact ⟨a, b, rfl, rfl, ho.1, ho.2, h⟩
      · cases h
    | succ i =>
      cases hb : Nat.beq (i % 2) 0 with
      | true => simp only [Tr.get, hb, cond_true] at h ⊢; exact meetT_get l l' _ x h
      | false => simp only [Tr.get, hb, cond_false] at h ⊢; exact meetT_get r r' _ x h
theorem eqEs_eq : ∀ {a b : List AEnt}, eqEs a b = true → a = b
  | [], b, h => by cases b <;> unfold eqEs at h <;> first | rfl | (cases h; done)
  | e :: es, b, h => by
    cases b with
    | nil => unfold eqEs at h; cases h
    | cons e' es' =>
      unfold eqEs at h
      simp only [Bool.and_eq_true] at h
      obtain ⟨h1, h2, h3, h4⟩ := h
      rw [eqEs_eq h4]
      cases e; cases e'
      simp only at h1 h2 h3
      rw [eqA_eq h1, eqA_eq h2, Nat.eq_of_beq_eq_true h3]
theorem joinB_rel (hσ : One σ) {own : Prop} {L : Loc} {a b c : ABlk} {o : Option Obj} (h : joinB a b = some c) : (BR σ ρ own L a o → BR σ ρ own L c o) ∧ (BR σ ρ own L b o → BR σ ρ own L c o) := by
  unfold joinB at h
  split at h
  · rename_i e u n e' u' n'
    obtain ⟨h1, h2⟩ := condO_some h
    cases h2
    simp only [Bool.and_eq_true] at h1
    have e1 := Nat.eq_of_beq_eq_true h1.1
    have e2 := Nat.eq_of_beq_eq_true h1.2
    subst e1; subst e2
    refine ⟨fun ⟨cc, fr, q1, q2, q3, q4, q5⟩ => ⟨cc, fr, q1, q2, q3, q4, fun i v hv => ?_⟩, fun ⟨cc, fr, q1, q2, q3, q4, q5⟩ => ⟨cc, fr, q1, q2, q3, q4, fun i v hv => ?_⟩⟩
    · obtain ⟨x, y, hx, hy, o1, o2, hj⟩ := meetT_get _ _ i v hv
      obtain ⟨v', r1, r2, r3⟩ := q5 i x hx
      exact ⟨v', r1, (joinV_rel hσ x y v hj v').1 r2, r3⟩
    · obtain ⟨x, y, hx, hy, o1, o2, hj⟩ := meetT_get _ _ i v hv
      obtain ⟨v', r1, r2, r3⟩ := q5 i y hy
      exact ⟨v', r1, (joinV_rel hσ x y v hj v').2 r2, r3⟩
  · obtain ⟨h1, h2⟩ := condO_some h
    cases h2
    simp only [Bool.and_eq_true] at h1
    rw [eqEs_eq h1.1, Nat.eq_of_beq_eq_true h1.2]
    exact ⟨id, id⟩
  · rename_i x y
    obtain ⟨h1, h2⟩ := condO_some h
    cases h2
    have : x = y := by simpa using h1
    rw [this]
    exact ⟨id, id⟩
  · cases h
theorem joinAt_rel (hσ : One σ) {own : Prop} {L : Loc} (id : Nat) : ∀ (Ks : List AHeap) (b c : ABlk), joinAt id b Ks = some c → (∀ o, BR σ ρ own L b o → BR σ ρ own L c o) ∧ ∀ K ∈ Ks, ∃ b', K.blks.get id = some b' ∧ ∀ o, BR σ ρ own L b' o → BR σ ρ own L c o
  | [], b, c, h => by cases h; exact ⟨fun _ h => h, by simp⟩
  | K :: Ks, b, c, h => by
    unfold joinAt at h
    split at h
    · rename_i b' hb'
      split at h
      · rename_i b2 hb2
        obtain ⟨h1, h2⟩ := joinAt_rel hσ id Ks b2 c h
        refine ⟨fun o r => h1 o ((joinB_rel hσ hb2).1 r), fun J hJ => ?_⟩
        rcases List.mem_cons.1 hJ with rfl | hJ
        · exact ⟨b', hb', fun o r => h1 o ((joinB_rel hσ hb2).2 r)⟩
        · exact h2 J hJ
      · cases h
    · cases h
theorem joinId_rel (hσ : One σ) {own : Prop} {L : Loc} {K : AHeap} {Ks : List AHeap} {id : Nat} {c : ABlk} (h : joinId K Ks id = some c) : ∀ J ∈ K :: Ks, ∃ b', J.blks.get id = some b' ∧ ∀ o, BR σ ρ own L b' o → BR σ ρ own L c o := by
  unfold joinId at h
  split at h
  · rename_i b hb
    obtain ⟨h1, h2⟩ := joinAt_rel hσ id Ks b c h
    intro J hJ
    rcases List.mem_cons.1 hJ with rfl | hJ
    · exact ⟨b, hb, h1⟩
    · exact h2 J hJ
  · cases h
theorem eqE_eq {e e' : AExit} (h : eqE e e' = true) : e = e' := by
  cases e <;> cases e' <;> first | rfl | (cases h; done) | (unfold eqE at h; rw [Nat.eq_of_beq_eq_true h])
theorem eqMs_eq : ∀ {a b : List Mk}, eqMs a b = true → a = b
  | [], b, h => by cases b <;> unfold eqMs at h <;> first | rfl | (cases h; done)
  | .mark x :: xs, b, h => by
    cases b with
    | nil => unfold eqMs at h; cases h
    | cons y ys =>
      cases y with
      | mark y => unfold eqMs at h; simp only [Bool.and_eq_true] at h; rw [Nat.eq_of_beq_eq_true h.1, eqMs_eq h.2]
      | call k a => unfold eqMs at h; cases h
  | .call x u :: xs, b, h => by
    cases b with
    | nil => unfold eqMs at h; cases h
    | cons y ys =>
      cases y with
      | mark y => unfold eqMs at h; cases h
      | call k a => unfold eqMs at h; simp only [Bool.and_eq_true] at h; rw [Nat.eq_of_beq_eq_true h.1, eqAs_eq h.2.1, eqMs_eq h.2.2]
theorem joinT_rel (hσ : One σ) {T T' U : Tmps} {tm : Array Value} (h : joinT T T' = some U) : (TRel σ ρ nt T tm → TRel σ ρ nt U tm) ∧ (TRel σ ρ nt T' tm → TRel σ ρ nt U tm) := by
  have k := joinT_get T T' U h
  refine ⟨fun r => ⟨r.size, fun i => ?_⟩, fun r => ⟨r.size, fun i => ?_⟩⟩
  · exact (joinO_rel hσ (k i) _).1 (r.at_ i)
  · exact (joinO_rel hσ (k i) _).2 (r.at_ i)
theorem joinOuts_rel (hσ : One σ) {e : AExit} {ms : List Mk} {tm : Array Value} : ∀ (r : List (Out × AHeap)) (T U : Tmps), joinOuts e ms T r = some U → (TRel σ ρ nt T tm → TRel σ ρ nt U tm) ∧ ∀ p ∈ r, ∃ T', p.1 = .exit e T' ms ∧ (TRel σ ρ nt T' tm → TRel σ ρ nt U tm)
  | [], T, U, h => by cases h; exact ⟨id, by simp⟩
  | (.val v, K) :: r, T, U, h => by unfold joinOuts at h; cases h
  | (.exit e' T' ms', K) :: r, T, U, h => by
    unfold joinOuts at h
    obtain ⟨h1, h2⟩ := condO_some h
    simp only [Bool.and_eq_true] at h1
    have e1 := eqE_eq h1.1
    have e2 := eqMs_eq h1.2
    subst e1; subst e2
    split at h2
    · rename_i T2 hT2
      obtain ⟨k1, k2⟩ := joinOuts_rel hσ r T2 U h2
      refine ⟨fun r => k1 ((joinT_rel hσ hT2).1 r), fun p hp => ?_⟩
      rcases List.mem_cons.1 hp with rfl | hp
      · exact ⟨T', rfl, fun r => k1 ((joinT_rel hσ hT2).2 r)⟩
      · exact k2 p hp
    · cases h2
/-- what is known behind each of the ways is known behind all -/
theorem joinAll_post (hσ : One σ) {m : N Out} (hm : FrN m) {L : List (Out × AHeap)} {o : Out} (h1 : m { H with log := [] } = some L) (h : joinAll H L = some (o, H')) :
    (∀ p ∈ L, p.2.next ≤ H'.next) ∧ ∀ p ∈ L, ∀ e T ms, p.1 = .exit e T ms → ∃ T', o = .exit e T' ms ∧
      ∀ a' w' ρ', CodePost σ ρ base nt { H with log := [] } p.2 w T ms ρ' a' w' → CodePost σ ρ base nt H H' w T' ms ρ' a' w' := by
  obtain ⟨a1, a2, a3⟩ := hm _ L h1
  have hdoes : ∀ p ∈ L, Does p.2.log { H with log := [] } p.2 := by
    intro p hp
    obtain ⟨es, d⟩ := a2 p hp
    have : p.2.log = es := by simpa using d.log
    rw [this]; exact d
  match L, h, hdoes with
  | [], h, _ => cases h
  | [(o1, K)], h, hdoes =>
    simp only [joinAll, Option.some.injEq, Prod.mk.injEq] at h
    obtain ⟨rfl, rfl⟩ := h
    refine ⟨fun p hp => by simp only [List.mem_singleton] at hp; subst hp; exact Nat.le_refl _, fun p hp e T ms he => ?_⟩
    simp only [List.mem_singleton] at hp
    subst hp
    exact ⟨T, he, fun a' w' ρ' k => ⟨⟨k.post.ext, k.post.wr.log rfl rfl, k.post.below⟩, k.tmps, k.defers⟩⟩
  | (o1, K) :: p :: r, h, hdoes =>
    cases o1 with
    | val v => simp [joinAll] at h
    | exit e T ms =>
      unfold joinAll at h
      simp only at h
      cases hj : joinOuts e ms T (p :: r) with
      | none => simp [hj] at h
      | some T1 =>
        simp only [hj, Option.some.injEq, Prod.mk.injEq] at h
        obtain ⟨rfl, rfl⟩ := h
        have hd : ∀ J ∈ K :: (p :: r).map (·.2), Does J.log { H with log := [] } J := by
          intro J hJ
          rcases List.mem_cons.1 hJ with rfl | hJ
          · exact hdoes (.exit e T ms, J) (by simp)
          · obtain ⟨q, hq, rfl⟩ := List.mem_map.1 hJ
            exact hdoes q (List.mem_cons_of_mem _ hq)
        have hin : ∀ q ∈ ((Out.exit e T ms, K) :: p :: r), q.2 ∈ K :: (p :: r).map (·.2) := by
          intro q hq
          rcases List.mem_cons.1 hq with rfl | hq
          · simp
          · exact List.mem_cons_of_mem _ (List.mem_map.2 ⟨q, hq, rfl⟩)
        have hmax : ∀ J ∈ K :: (p :: r).map (·.2), J.next ≤ maxNext K.next ((p :: r).map (·.2)) := fun J hJ => by
          obtain ⟨h1, h2⟩ := maxNext_ge ((p :: r).map (·.2)) K.next
          rcases List.mem_cons.1 hJ with rfl | hJ
          · exact h1
          · exact h2 J hJ
        refine ⟨fun q hq => hmax _ (hin q hq), fun q hq e2 T2 ms2 he => ?_⟩
        have heads : e2 = e ∧ ms2 = ms ∧ ∀ ρ' tm, TRel σ ρ' nt T2 tm → TRel σ ρ' nt T1 tm := by
          rcases List.mem_cons.1 hq with rfl | hq
          · cases he; exact ⟨rfl, rfl, fun ρ' tm => (joinOuts_rel hσ (p :: r) T T1 hj).1⟩
          · have k := fun ρ' tm => (joinOuts_rel (σ := σ) (ρ := ρ') (nt := nt) (tm := tm) hσ (p :: r) T T1 hj).2 q hq
            obtain ⟨T3, h3, _⟩ := k ρ #[]
            rw [he] at h3
            cases h3
            refine ⟨rfl, rfl, fun ρ' tm r => ?_⟩
            obtain ⟨T4, h4, h5⟩ := k ρ' tm
            rw [he] at h4
            cases h4
            exact h5 r
        obtain ⟨rfl, rfl, hT⟩ := heads
        refine ⟨T1, rfl, fun a' w' ρ' k => ?_⟩
        have dq := hd _ (hin q hq)
        have mq := hmax _ (hin q hq)
        have old : ∀ id b, (joinBlks K ((p :: r).map (·.2)) (logs (K :: (p :: r).map (·.2))) H.blks).get id = some b → ∃ b', q.2.blks.get id = some b' ∧ ∀ (own : Prop) (L : Loc) o, BR σ ρ' own L b' o → BR σ ρ' own L b o := by
          intro id b hb
          by_cases hid : (id, true) ∈ logs (K :: (p :: r).map (·.2))
          · rw [(joinBlks_get _ _ _ _ id).1 hid] at hb
            have k2 := fun (own : Prop) (L : Loc) => joinId_rel (σ := σ) (ρ := ρ') (own := own) (L := L) hσ hb _ (hin q hq)
            obtain ⟨b', h1, _⟩ := k2 True ⟨0, 0, 0⟩
            refine ⟨b', h1, fun own L o r => ?_⟩
            obtain ⟨b2, h3, h4⟩ := k2 own L
            rw [h1] at h3
            cases h3
            exact h4 o r
          · rw [(joinBlks_get _ _ _ _ id).2 hid] at hb
            have hn : (id, true) ∉ q.2.log := fun hm => hid (mem_logs.2 ⟨_, hin q hq, hm⟩)
            exact ⟨b, by rw [dq.same id hn]; exact hb, fun _ _ _ r => r⟩
        have wr := k.post.wr
        have hlo : q.2.lo = H.lo := dq.lo
        refine ⟨⟨⟨k.post.ext.le, fun id hid => k.post.ext.out id ?_⟩, ⟨fun id b hb => ?_, fun id b L hb hL hl => ?_, fun i j bi bj Li Lj hi hj hLi hLj hl hne => ?_, wr.base⟩, k.post.below⟩, hT _ _ k.tmps, k.defers⟩
        · rcases hid with h | h
          · exact Or.inl h
          · exact Or.inr (Nat.le_trans mq h)
        · obtain ⟨b', h1, h2⟩ := old id b hb
          obtain ⟨L, hL, hB⟩ := wr.blk id b' h1
          rw [hlo] at hB
          exact ⟨L, hL, h2 _ _ _ hB⟩
        · obtain ⟨b', h1, _⟩ := old id b hb
          exact wr.own id b' L h1 hL (by rw [hlo]; exact hl)
        · obtain ⟨b1, h1, _⟩ := old i bi hi
          obtain ⟨b2, h2, _⟩ := old j bj hj
          exact wr.inj i j b1 b2 Li Lj h1 h2 hLi hLj (by rw [hlo]; exact hl) hne

/-! ### a loop over a map -/
theorem hasN_eq (n : Nat) : ∀ l : List Nat, hasN n l = l.toArray.contains n
  | [] => by simp [hasN]
  | m :: l => by
    unfold hasN
    rw [hasN_eq n l]
    have : Nat.beq n m = decide (n = m) := by
      cases h : Nat.beq n m with
      | true => simp [Nat.eq_of_beq_eq_true h]
      | false => have : n ≠ m := fun e => by subst e; simp at h
                 simp [this]
    rw [this, Bool.eq_iff_iff]
    simp
theorem leftE_rel {seen : List Nat} : ∀ {es : List AEnt} {es' : List MapEntry}, EsRel σ ρ es es' → EsRel σ ρ (leftE seen es) (es'.filter fun e => !seen.toArray.contains e.born)
  | [], es', hr => by
    have := hr.len
    cases es' with
    | nil => exact ⟨rfl, fun i e e' h => by simp [leftE] at h⟩
    | cons => simp at this
  | a :: es, es', hr => by
    cases es' with
    | nil => have := hr.len; simp at this
    | cons a' es' =>
      have ha := hr.at_ 0 a a' rfl rfl
      have ht : EsRel σ ρ es es' := ⟨by have := hr.len; simpa using this, fun i x y hx hy => hr.at_ (i + 1) x y (by simpa using hx) (by simpa using hy)⟩
      have ih := leftE_rel (seen := seen) ht
      unfold leftE
      rw [hasN_eq, ← ha.born]
      cases hc : seen.toArray.contains a'.born with
      | true => simp only [List.filter, hc, Bool.not_true, cond_true]; exact ih
      | false =>
        simp only [List.filter, hc, Bool.not_false, cond_false]
        refine ⟨by have := ih.len; simp only [List.length_cons]; rw [this], fun i x y hx hy => ?_⟩
        cases i with
        | zero => simp at hx hy; subst hx; subst hy; exact ha
        | succ i => exact ih.at_ i x y (by simpa using hx) (by simpa using hy)
theorem EsRel.mem {es : List AEnt} {es' : List MapEntry} (h : EsRel σ ρ es es') {e' : MapEntry} (he : e' ∈ es') : ∃ e ∈ es, ERel σ ρ e e' := by
  obtain ⟨i, hi, rfl⟩ := List.mem_iff_getElem.1 he
  have hl : i < es.length := by rw [← h.len]; exact hi
  exact ⟨es[i], List.getElem_mem hl, h.at_ i _ _ (List.getElem?_eq_getElem hl) (List.getElem?_eq_getElem hi)⟩
theorem allOld_rel {since : Nat} : ∀ {es : List AEnt} {es' : List MapEntry}, EsRel σ ρ es es' → allOld since es = true → ∀ x ∈ es', x.born < since := by
  intro es es' hr h x hx
  obtain ⟨e, he, hre⟩ := hr.mem hx
  rw [hre.born]
  clear hr hx hre
  induction es with
  | nil => cases he
  | cons a es ih =>
    unfold allOld at h
    simp only [Bool.and_eq_true] at h
    rcases List.mem_cons.1 he with rfl | he
    · simpa [Nat.blt_eq] using h.1
    · exact ih h.2 he
/-- the head of a round: nothing is left, or one that is left comes -/
theorem head_ok {x : AVal} {x' : Value} {d : IterD} {l : List AEnt} (h : headA x H = some ((d, l), H')) (hx : Rel σ ρ x x') (hwr : WR σ ρ base H w) :
    H'.blks = H.blks ∧ H'.lo = H.lo ∧ H'.next = H.next ∧ ((l = [] ∧ ∀ ty, (Instr.next x' false ty).run P w = .ok (.tuple #[.bool false]) w) ∨
      (∃ e ∈ l, ∃ e' w1, (ERel σ ρ e e') ∧ (∀ ty, (Instr.next x' false ty).run P w = .ok (.tuple #[.bool true, e'.key, e'.val]) w1) ∧
        ∀ H2 u, turnA d e H' = some (u, H2) → H2.next = H.next ∧ WR σ ρ base H2 w1 ∧ Below base w w1)) := by
  unfold headA at h
  split at h
  · rename_i r
    unfold Rel at hx
    obtain ⟨L, hL, rfl⟩ := hx
    obtain ⟨blk, K1, g1, g2⟩ := bd_some h
    obtain ⟨hb, e1, e2, e3⟩ := rd_some g1
    cases blk with
    | iter m since seen stepped =>
      obtain ⟨L', hL', hsh, M, q1, q2⟩ := hwr.blk _ _ hb
      rw [hL] at hL'; cases hL'
      cases m with
      | none =>
        cases ret_some g2
        subst q1
        exact ⟨e1, e2, e3, Or.inl ⟨rfl, fun ty => by simp [Instr.next, hsh, getObj, Sem.run, q2]⟩⟩
      | some m =>
        obtain ⟨D, q3, rfl⟩ := q1
        obtain ⟨blk2, K2, g3, g4⟩ := bd_some g2
        obtain ⟨hb2, f1, f2, f3⟩ := rd_some g3
        cases blk2 with
        | map es clock =>
          obtain ⟨hc, g5⟩ := cond_some g4
          cases ret_some g5
          simp only [Bool.and_eq_true] at hc
          rw [e1] at hb2
          obtain ⟨D', hD', es', q4, q5⟩ := hwr.blk _ _ hb2
          rw [q3] at hD'; cases hD'
          refine ⟨f1.trans e1, f2.trans e2, f3.trans e3, ?_⟩
          have hsc : since ≤ stepped := Nat.le_of_ble_eq_true hc.1
          have hold := allOld_rel q5 hc.2
          have hleft := leftE_rel (seen := seen) q5
          have hfil : (leftOf es' seen.toArray).toList = es'.toList.filter fun e => !seen.toArray.contains e.born := by unfold leftOf; exact Array.toList_filter
          rw [← hfil] at hleft
          have step := fun ty => run_next_at (P := P) w ty L.blk D.blk since stepped seen.toArray es' clock q2 q4 hold hsc
          have hz : ∀ ty : TypeId, Value.pointer (some ⟨L.blk, L.sh + 0, none⟩) = Value.pointer (some ⟨L.blk, 0, none⟩) := fun _ => by rw [hsh]
          rcases step 0 with ⟨s1, _⟩ | ⟨e', he', _⟩
          · left
            refine ⟨List.eq_nil_of_length_eq_zero (by rw [← hleft.len]; simpa using s1), fun ty => ?_⟩
            rw [hz ty]
            rcases step ty with ⟨_, s2⟩ | ⟨e', he', _⟩
            · exact s2
            · rw [List.eq_nil_of_length_eq_zero (by simpa using s1 : (leftOf es' seen.toArray).toList.length = 0)] at he'; cases he'
          · right
            have hpos : 0 < (leftOf es' seen.toArray).size := by
              have := List.length_pos_of_mem he'
              simpa using this
            have step0 : ∃ e' ∈ (leftOf es' seen.toArray).toList, ∃ w1 : World, (w1 = w ∨ w1 = w.drew) ∧ ∀ ty, (Instr.next (.pointer (some ⟨L.blk, 0, none⟩)) false ty).run P w = .ok (.tuple #[.bool true, e'.key, e'.val]) (Go.ChangeMaps.setBlock w1 L.blk (.mapIter (some D.blk) since (seen.toArray.push e'.born) clock)) := by
              rcases step 0 with ⟨s1, _⟩ | ⟨e', he', w1, a, b⟩
              · omega
              · exact ⟨e', he', w1, a, fun ty => b⟩
            obtain ⟨e', he', w1, hw1, hrun⟩ := step0
            obtain ⟨e, he, hre⟩ := hleft.mem he'
            refine ⟨e, he, e', _, hre, fun ty => by rw [hz ty]; exact hrun ty, fun H2 u ht => ?_⟩
            unfold turnA at ht
            obtain ⟨hlo, ⟨b0, hb0⟩, hk, hkl, hkn⟩ := wr_some ht
            rw [f1, e1] at hb0
            have hlt : L.blk < w.heap.size := lt_of_get q2
            have hu : Upd w L.blk (.mapIter (some D.blk) since (seen.toArray.push e'.born) clock) (Go.ChangeMaps.setBlock w1 L.blk (.mapIter (some D.blk) since (seen.toArray.push e'.born) clock)) := by
              rcases hw1 with rfl | rfl
              · exact ⟨rfl, rfl, rfl, by simp [Go.ChangeMaps.setBlock], by simp [Go.ChangeMaps.setBlock, hlt], fun k hk => Array.getElem?_setIfInBounds_ne (fun e => hk e.symm)⟩
              · exact ⟨rfl, rfl, rfl, by simp [Go.ChangeMaps.setBlock], by simp [Go.ChangeMaps.setBlock, hlt], fun k hk => Array.getElem?_setIfInBounds_ne (fun e => hk e.symm)⟩
            obtain ⟨k1, k2⟩ := hwr.put (K := H2) (b := .iter (some m) since (seen ++ [e.born]) clock) hb0 hL (by rw [← e2, ← f2]; exact hlo) hu ⟨hsh, some D.blk, ⟨D, q3, rfl⟩, by simp [hre.born]⟩ (fun j => by rw [hk j, f1, e1]) (by rw [hkl, f2, e2])
            exact ⟨by rw [hkn, f3, e3], k1, k2⟩
        | _ => exact (fail_some g4).elim
    | _ => exact (fail_some g2).elim
  · exact (fail_some h).elim
theorem tget_eq' (T : Tmps) (i : Nat) : tget' T i = tget T i := by unfold tget' tget; cases T.get i <;> rfl
/-- the step at a round's head -/
theorem step_wp {b : Code} {s : MapStep} (hs : mapStep b = some s) {r : Option Nat} {Q : Exit → Act → World → Prop} {vs : Array Value} {t : Bool} {w1 : World} (hn : s.nx < a.tmps.size)
    (hrun : ∀ ty, (Instr.next (a.tmps.getD s.it undef) false ty).run P w = .ok (.tuple vs) w1) (hv : vs[0]? = some (.bool t))
    (h : s.rest.wpIn (FR r) 0 P Q ((a.put (some s.nx) (.tuple vs)).put (some s.more) (.bool t)) w1) : b.wpIn (FR r) 0 P Q a w := by
  unfold mapStep at hs
  split at hs
  · rename_i id ops rest
    split at hs
    · rename_i nx it ty1 pos1 af1 more nx' ty2 pos2 af2 hops
      obtain ⟨hc, hs⟩ := condO_some hs
      cases hs
      have hc := Nat.eq_of_beq_eq_true hc
      subst hc
      have e0 : ops = #[⟨some nx, .next (.tmp it) false, ty1, pos1, af1, none⟩, ⟨some more, .extract (.tmp nx) 0, ty2, pos2, af2, none⟩] := by
        apply Array.toList_inj.1; rw [hops]
      subst e0
      refine wpIn_seq (wpIn_region ?_)
      simp only [List.size_toArray, List.length_cons, List.length_nil, Nat.zero_add, Nat.reduceAdd, show List.range 2 = [0, 1] from rfl, wpOpsIn, List.getElem?_toArray, List.getElem?_cons_zero, List.getElem?_cons_succ]
      have w1t : ∀ (o : Oper) (t' : Nat → Option Bool), o.guard = none → Region.wanted o t' = true := fun o t' h => by unfold Region.wanted; rw [h]
      rw [if_pos (w1t _ _ rfl)]
      refine ⟨wide_about, ?_⟩
      rw [Oper.semAt_eq _ _ _ (by intro c h; cases h)]
      have e1 : (execOp a.eval ⟨some nx, .next (.tmp it) false, ty1, pos1, af1, none⟩).run P w = .ok (.value (.tuple vs)) w1 := by
        have he : a.eval (.tmp it) = a.tmps.getD it undef := by simp [Act.eval]
        simp only [execOp, he, Sem.run_bind, hrun ty1, Result.andThen_ok, Sem.run_pure]
      rw [e1, Oper.uponIn_value]
      simp only []
      rw [if_pos (w1t _ _ rfl)]
      refine ⟨wide_about, ?_⟩
      rw [Oper.semAt_eq _ _ _ (by intro c h; cases h)]
      have e2 : (execOp (a.put (some nx) (.tuple vs)).eval ⟨some more, .extract (.tmp nx) 0, ty2, pos2, af2, none⟩).run P w1 = .ok (.value (.bool t)) w1 := by
        have he : (a.put (some nx) (.tuple vs)).eval (.tmp nx) = .tuple vs := by
          simp only [Act.eval, Act.put]
          have : nx < a.tmps.size := hn
          simp [this]
        simp only [execOp, he, Sem.run_bind, Instr.extract, hv, Sem.run_pure, Result.andThen_ok]
      rw [e2, Oper.uponIn_value]
      exact h
    · cases hs
  · cases hs
theorem allN_some {γ δ : Type} {f : γ → N δ} : ∀ {l : List (γ × AHeap)} {L : List (δ × AHeap)}, allN f l = some L → ∀ p ∈ l, ∃ l', f p.1 p.2 = some l' ∧ ∀ q ∈ l', q ∈ L
  | [], _, _, p, hp => by cases hp
  | (a, K) :: r, L, h, p, hp => by
    unfold allN at h
    cases h1 : f a K with
    | none => simp [h1] at h
    | some lq =>
      cases h2 : allN f r with
      | none => simp [h1, h2] at h
      | some Lr =>
        simp only [h1, h2, Option.some.injEq] at h
        subst h
        rcases List.mem_cons.1 hp with rfl | hp
        · exact ⟨lq, h1, fun q hq => List.mem_append.2 (Or.inl hq)⟩
        · obtain ⟨l', h3, h4⟩ := allN_some h2 p hp
          exact ⟨l', h3, fun q hq => List.mem_append.2 (Or.inr (h4 q hq))⟩
theorem bdN_some {γ δ : Type} {m : N γ} {f : γ → N δ} {L : List (δ × AHeap)} (h : bdN m f H = some L) : ∃ l, m H = some l ∧ ∀ p ∈ l, ∃ l', f p.1 p.2 = some l' ∧ ∀ q ∈ l', q ∈ L := by
  unfold bdN at h
  cases h1 : m H with
  | none => simp [h1] at h
  | some l => simp only [h1] at h; exact ⟨l, rfl, allN_some h⟩
theorem oneN_some {γ : Type} {m : M γ} {L : List (γ × AHeap)} (h : oneN m H = some L) : ∃ x K, m H = some (x, K) ∧ L = [(x, K)] := by
  unfold oneN at h
  cases h1 : m H with
  | none => simp [h1] at h
  | some r => simp only [h1, Option.some.injEq] at h; exact ⟨r.1, r.2, rfl, h.symm⟩
theorem mem_pairH {γ : Type} {l : List γ} {a : γ} (h : a ∈ l) : (a, H) ∈ pairH H l := by
  induction l with
  | nil => cases h
  | cons b l ih => rcases List.mem_cons.1 h with rfl | h; exact List.mem_cons_self; exact List.mem_cons_of_mem _ (ih h)
theorem mapRounds_ok (hco : CodeOK P n ih) (hfr : ∀ t, Fr (ih t)) {rA : Option Nat} {b : Code} {s : MapStep} (hs : mapStep b = some s) (h1 : s.nx < nt) (h2 : s.more < nt) : ∀ (k : Nat) (T : Tmps) (ms : List Mk) (H : AHeap) (L : List (Out × AHeap)), mapRounds ih nt rA s k T ms H = some L →
    ∀ (σ : Nat → Value) (ρ : Ren) (base : Nat) (w : World) (a : Act) (r : Option Nat) (Q : Exit → Act → World → Prop), One σ → WR σ ρ base H w → (∀ p ∈ L, Free ρ H.next p.2.next) → TRel σ ρ nt T a.tmps → RR ρ rA r → DRel σ ρ ms a.defers →
      (∀ p ∈ L, ∀ e T' ms', p.1 = .exit e T' ms' → ∀ a' w' ρ', CodePost σ ρ base nt H p.2 w T' ms' ρ' a' w' → Q (exitE e) a' w') → Code.roundsIn (FR r) 0 P b Q k a w := by
  intro k
  induction k with
  | zero => intro T ms H L h; cases h
  | succ k ihk =>
    intro T ms H L h σ ρ base w a r Q hσ hwr hf hT hr hd hQ
    unfold mapRounds at h
    obtain ⟨l1, g1, g2⟩ := bdN_some h
    obtain ⟨hd1, K1, g3, rfl⟩ := oneN_some g1
    obtain ⟨L1, g4, g5⟩ := g2 (hd1, K1) (List.mem_singleton.2 rfl)
    obtain ⟨d, left⟩ := hd1
    have hx := hT.at_ s.it
    rw [← tget_eq'] at hx
    obtain ⟨c1, c2, c3, c4⟩ := head_ok (P := P) g3 hx hwr
    rw [roundsIn_succ]
    rcases c4 with ⟨rfl, c5⟩ | ⟨e, he, e', w1, c5, c6, c7⟩
    · simp only at g4
      obtain ⟨o, K2, g6, rfl⟩ := oneN_some g4
      obtain ⟨o1, K3, g7, g8⟩ := bd_some g6
      have hm := g5 (o, K2) (List.mem_singleton.2 rfl)
      obtain ⟨e, T2, ms2, rfl, k1⟩ := hco _ _ _ _ _ _ _ _ g7
      have hput : TRel σ ρ nt ((T.put s.nx (some (.tup [.bool false]))).put s.more (some (.bool false))) ((a.put (some s.nx) (.tuple #[.bool false])).put (some s.more) (.bool false)).tmps :=
        put_rel (v := .bool false) (v' := .bool false) (dst := some s.more) (T := T.put s.nx (some (.tup [.bool false]))) (by simp only [setT]; rw [show Nat.blt s.more nt = true by simpa [Nat.blt_eq] using h2]; rfl)
          (put_rel (v := .tup [.bool false]) (v' := .tuple #[.bool false]) (dst := some s.nx) (T := T) (by simp only [setT]; rw [show Nat.blt s.nx nt = true by simpa [Nat.blt_eq] using h1]; rfl) hT (by unfold Rel; exact ⟨_, rfl, .cons (by unfold Rel; rfl) .nil⟩)) (by unfold Rel; rfl)
      have hwr1 : WR σ ρ base K1 w := hwr.log c1 c2
      have concl : e ≠ .nrm → o = .exit e T2 ms2 → K3 = K2 → b.wpIn (FR r) 0 P (Exit.then (Code.roundsIn (FR r) 0 P b Q k) Q) a w := by
        rintro hne rfl rfl
        refine step_wp (t := false) hs (by rw [hT.size]; exact h1) c5 rfl ?_
        refine ACode.wp (n := n) (k1 σ ρ base w _ r _ hσ hwr1 (by rw [c3]; exact hf _ hm) hput hr (by rw [put_defers, put_defers]; exact hd) fun a' w' ρ' p => ?_)
        have : Q (exitE e) a' w' := hQ _ hm e T2 ms2 rfl a' w' ρ' ⟨⟨by rw [← c3]; exact p.post.ext, p.post.wr, p.post.below⟩, p.tmps, p.defers⟩
        cases e with
        | nrm => exact absurd rfl hne
        | exit id => exact this
        | ret => exact this
      cases e with
      | nrm => exact (fail_some g8).elim
      | exit id => cases ret_some g8; exact concl (by simp) rfl rfl
      | ret => cases ret_some g8; exact concl (by simp) rfl rfl
    · cases left with
      | nil => cases he
      | cons e0 es0 =>
        simp only at g4
        obtain ⟨l2, g6, g7⟩ := bdN_some g4
        have : l2 = pairH K1 (e0 :: es0) := by have g6 : some (pairH K1 (e0 :: es0)) = some l2 := g6; cases g6; rfl
        subst this
        obtain ⟨L2, g8, g9⟩ := g7 (e, K1) (mem_pairH he)
        obtain ⟨l3, g10, g11⟩ := bdN_some g8
        obtain ⟨o, K3, g12, rfl⟩ := oneN_some g10
        obtain ⟨u, K2, g13, g14⟩ := bd_some g12
        obtain ⟨n2, wr2, bl2⟩ := c7 K2 u g13
        obtain ⟨L3, g15, g16⟩ := g11 (o, K3) (List.mem_singleton.2 rfl)
        have sub : ∀ q ∈ L3, q ∈ L := fun q hq => g5 q (g9 q (g16 q hq))
        obtain ⟨ex, T2, ms2, rfl, k1⟩ := hco _ _ _ _ _ _ _ _ g14
        have hput : TRel σ ρ nt ((T.put s.nx (some (.tup [.bool true, e.key, e.val]))).put s.more (some (.bool true))) ((a.put (some s.nx) (.tuple #[.bool true, e'.key, e'.val])).put (some s.more) (.bool true)).tmps :=
          put_rel (v := .bool true) (v' := .bool true) (dst := some s.more) (T := T.put s.nx (some (.tup [.bool true, e.key, e.val]))) (by simp only [setT]; rw [show Nat.blt s.more nt = true by simpa [Nat.blt_eq] using h2]; rfl)
            (put_rel (v := .tup [.bool true, e.key, e.val]) (v' := .tuple #[.bool true, e'.key, e'.val]) (dst := some s.nx) (T := T) (by simp only [setT]; rw [show Nat.blt s.nx nt = true by simpa [Nat.blt_eq] using h1]; rfl) hT (by unfold Rel; exact ⟨_, rfl, .cons (by unfold Rel; rfl) (.cons c5.key (.cons c5.val .nil))⟩)) (by unfold Rel; rfl)
        have m3 : K2.next ≤ K3.next := next_of hfr g14
        have hfin : ∀ p ∈ L3, K3.next ≤ p.2.next := by
          intro p hp
          have hfrN : FrN (match (generalizing := false) (Out.exit ex T2 ms2 : Out) with
            | .exit .nrm T ms => mapRounds ih nt rA s k T ms
            | o => oneN (ret o)) := by
            split
            · exact frN_mapRounds hfr nt rA s k _ _
            · exact frN_one (fr_ret _)
          obtain ⟨_, q2, _⟩ := hfrN K3 L3 g15
          obtain ⟨es, dd⟩ := q2 p hp
          exact dd.next
        refine step_wp (t := true) hs (by rw [hT.size]; exact h1) c6 rfl ?_
        have hfree : Free ρ K2.next K3.next := by
          have hne : L3 ≠ [] := by
            have hfrN : FrN (match (generalizing := false) (Out.exit ex T2 ms2 : Out) with
              | .exit .nrm T ms => mapRounds ih nt rA s k T ms
              | o => oneN (ret o)) := by
              split
              · exact frN_mapRounds hfr nt rA s k _ _
              · exact frN_one (fr_ret _)
            exact (hfrN K3 L3 g15).1
          cases L3 with
          | nil => exact absurd rfl hne
          | cons p L3 =>
            have := hf p (sub p (by simp))
            rw [n2]
            exact this.left (hfin p (by simp))
        refine ACode.wp (n := n) (k1 σ ρ base w1 _ r _ hσ wr2 hfree hput hr (by rw [put_defers, put_defers]; exact hd) fun a' w' ρ' p => ?_)
        have lift : ∀ {T' ms' K a'' w'' ρ''}, K3.next ≤ K.next → CodePost σ ρ' base nt K3 K w' T' ms' ρ'' a'' w'' → CodePost σ ρ base nt H K w T' ms' ρ'' a'' w'' := by
          intro T' ms' K a'' w'' ρ'' hle q
          have := p.trans q m3 hle
          exact ⟨⟨by rw [← n2]; exact this.post.ext, this.post.wr, bl2.trans this.post.below⟩, this.tmps, this.defers⟩
        cases ex with
        | nrm =>
          show Code.roundsIn (FR r) 0 P b Q k a' w'
          refine ihk T2 ms2 K3 L3 g15 σ ρ' base w' a' r Q hσ p.post.wr (fun q hq => ?_) p.tmps (hr.mono p.post.ext.le) p.defers fun q hq e2 T' ms' he2 a'' w'' ρ'' cp => ?_
          · have h3 := hf q (sub q hq)
            rw [← n2] at h3
            exact p.post.ext.free h3 m3
          · exact hQ q (sub q hq) e2 T' ms' he2 a'' w'' ρ'' (lift (hfin q hq) cp)
        | exit id =>
          obtain ⟨x, K4, g17, rfl⟩ := oneN_some g15
          cases ret_some g17
          exact hQ _ (sub _ (List.mem_singleton.2 rfl)) (.exit id) T2 ms2 rfl a' w' ρ' (lift (Nat.le_refl _) (.stay p.post.wr p.tmps p.defers))
        | ret =>
          obtain ⟨x, K4, g17, rfl⟩ := oneN_some g15
          cases ret_some g17
          exact hQ _ (sub _ (List.mem_singleton.2 rfl)) .ret T2 ms2 rfl a' w' ρ' (lift (Nat.le_refl _) (.stay p.post.wr p.tmps p.defers))
theorem allN_mem {γ δ : Type} {f : γ → N δ} : ∀ {l : List (γ × AHeap)} {L : List (δ × AHeap)}, allN f l = some L → ∀ q ∈ L, ∃ p ∈ l, ∃ l', f p.1 p.2 = some l' ∧ q ∈ l'
  | [], L, h, q, hq => by cases h; cases hq
  | (a, K) :: r, L, h, q, hq => by
    unfold allN at h
    cases h1 : f a K with
    | none => simp [h1] at h
    | some lq =>
      cases h2 : allN f r with
      | none => simp [h1, h2] at h
      | some Lr =>
        simp only [h1, h2, Option.some.injEq] at h
        subst h
        rcases List.mem_append.1 hq with hq | hq
        · exact ⟨(a, K), by simp, lq, h1, hq⟩
        · obtain ⟨p, hp, l', h3, h4⟩ := allN_mem h2 q hq
          exact ⟨p, List.mem_cons_of_mem _ hp, l', h3, h4⟩
theorem bdN_mem {γ δ : Type} {m : N γ} {f : γ → N δ} {L : List (δ × AHeap)} (h : bdN m f H = some L) {q : δ × AHeap} (hq : q ∈ L) : ∃ p l', f p.1 p.2 = some l' ∧ q ∈ l' ∧ ∃ l, m H = some l ∧ p ∈ l := by
  unfold bdN at h
  cases h1 : m H with
  | none => simp [h1] at h
  | some l =>
    simp only [h1] at h
    obtain ⟨p, hp, l', h3, h4⟩ := allN_mem h q hq
    exact ⟨p, l', h3, h4, l, rfl, hp⟩
theorem mapRounds_exits (hco : CodeOK P n ih) {rA : Option Nat} {s : MapStep} : ∀ (k : Nat) (T : Tmps) (ms : List Mk) (H : AHeap) (L : List (Out × AHeap)), mapRounds ih nt rA s k T ms H = some L → ∀ q ∈ L, ∃ e T' ms', q.1 = .exit e T' ms' := by
  intro k
  induction k with
  | zero => intro T ms H L h; cases h
  | succ k ihk =>
    intro T ms H L h q hq
    unfold mapRounds at h
    obtain ⟨⟨⟨d, left⟩, K0⟩, l', h1, h2, _⟩ := bdN_mem h hq
    cases left with
    | nil =>
      obtain ⟨o, K, g1, rfl⟩ := oneN_some h1
      obtain ⟨o1, K1, g2, g3⟩ := bd_some g1
      obtain ⟨e, T2, ms2, rfl, _⟩ := hco _ _ _ _ _ _ _ _ g2
      simp only [List.mem_singleton] at h2
      subst h2
      cases e with
      | nrm => exact (fail_some g3).elim
      | exit id => cases ret_some g3; exact ⟨_, _, _, rfl⟩
      | ret => cases ret_some g3; exact ⟨_, _, _, rfl⟩
    | cons e0 es0 =>
      obtain ⟨p2, l2, h3, h4, _⟩ := bdN_mem h1 h2
      obtain ⟨p3, l3, h5, h6, l4, h7, h8⟩ := bdN_mem h3 h4
      obtain ⟨o, K, g1, rfl⟩ := oneN_some h7
      obtain ⟨u, K1, g2, g3⟩ := bd_some g1
      obtain ⟨e, T2, ms2, rfl, _⟩ := hco _ _ _ _ _ _ _ _ g3
      simp only [List.mem_singleton] at h8
      subst h8
      cases e with
      | nrm => exact ihk _ _ _ _ h5 q h6
      | exit id =>
        obtain ⟨x, K4, g17, rfl⟩ := oneN_some h5
        cases ret_some g17
        simp only [List.mem_singleton] at h6
        subst h6
        exact ⟨_, _, _, rfl⟩
      | ret =>
        obtain ⟨x, K4, g17, rfl⟩ := oneN_some h5
        cases ret_some g17
        simp only [List.mem_singleton] at h6
        subst h6
        exact ⟨_, _, _, rfl⟩
theorem joinAll_exit {L : List (Out × AHeap)} {o : Out} (h : joinAll H L = some (o, H')) : (∃ p ∈ L, p.1 = o) ∨ ∃ e T ms, o = .exit e T ms := by
  match L, h with
  | [], h => cases h
  | [(o1, K)], h =>
    simp only [joinAll, Option.some.injEq, Prod.mk.injEq] at h
    exact Or.inl ⟨(o1, K), List.mem_singleton.2 rfl, h.1⟩
  | (o1, K) :: p :: r, h =>
    cases o1 with
    | val v => simp [joinAll] at h
    | exit e T ms =>
      unfold joinAll at h
      simp only at h
      cases hj : joinOuts e ms T (p :: r) with
      | none => simp [hj] at h
      | some T1 =>
        simp only [hj, Option.some.injEq, Prod.mk.injEq] at h
        exact Or.inr ⟨_, _, _, h.1.symm⟩
theorem mapLoop_ok {rA : Option Nat} {c : Code} {ms : List Mk} {o : Out} {s : MapStep} (hs : mapStep c = some s) (hco : CodeOK P n ih) (hfr : ∀ t, Fr (ih t)) (h : mapLoop ih nt rA s T ms H = some (o, H')) : Goal P (n + 1) nt rA (.loop c) T ms H o H' := by
  unfold mapLoop at h
  obtain ⟨hb, h⟩ := cond_some h
  simp only [Bool.and_eq_true, Nat.blt_eq] at hb
  cases hL : mapRounds ih nt rA s 1000 T ms { H with log := [] } with
  | none => simp only [hL] at h; cases h
  | some L =>
    simp only [hL] at h
    have hfn := frN_mapRounds hfr nt rA s 1000 T ms
    obtain ⟨a1, _, _⟩ := hfn _ L hL
    have allExit : ∀ p ∈ L, ∃ e T' ms', p.1 = .exit e T' ms' := mapRounds_exits hco 1000 T ms _ L hL
    have hex : ∃ e T' ms', o = .exit e T' ms' := by
      rcases joinAll_exit h with ⟨p, hp, rfl⟩ | h2
      · exact allExit p hp
      · exact h2
    obtain ⟨e, T', ms', rfl⟩ := hex
    refine ⟨e, T', ms', rfl, fun σ ρ base w a r Q hσ hwr hf hT hr hd hQ => ?_⟩
    obtain ⟨j1, j3⟩ := joinAll_post (σ := σ) (ρ := ρ) (base := base) (nt := nt) (w := w) hσ hfn hL h
    unfold ACode
    simp only [hs]
    refine mapRounds_ok hco hfr hs hb.1 hb.2 1000 T ms _ L hL σ ρ base w a r Q hσ (hwr.log rfl rfl) (fun p hp => hf.left (j1 p hp)) hT hr hd fun p hp e2 T2 ms2 he a' w' ρ' cp => ?_
    obtain ⟨T3, h3, h4⟩ := j3 p hp e2 T2 ms2 he
    cases h3
    exact hQ a' w' ρ' (h4 a' w' ρ' cp)
theorem seq_ok {rA : Option Nat} {x y : Code} {ms : List Mk} {o : Out} (hco : CodeOK P n ih) (hfr : ∀ t, Fr (ih t)) (h : runCode P ih nt rA (.seq x y) T ms H = some (o, H')) : Goal P (n + 1) nt rA (.seq x y) T ms H o H' := by
  obtain ⟨o1, K, h1, h2⟩ := bd_some h
  have m1 := next_of hfr h1
  obtain ⟨e, T1, ms1, rfl, k1⟩ := hco _ _ _ _ _ _ _ _ h1
  cases e with
  | nrm =>
    have m2 := next_of hfr h2
    obtain ⟨e, T2, ms2, rfl, k2⟩ := hco _ _ _ _ _ _ _ _ h2
    refine ⟨e, T2, ms2, rfl, fun σ ρ base w a r Q hσ hwr hf hT hr hd hQ => wpIn_seq (ACode.wp (n := n) ?_)⟩
    refine k1 σ ρ base w a r _ hσ hwr (hf.left m2) hT hr hd fun a1 w1 ρ1 p1 => ?_
    refine ACode.wp (n := n) (k2 σ ρ1 base w1 a1 r Q hσ p1.post.wr (p1.post.ext.free hf m1) p1.tmps (hr.mono p1.post.ext.le) p1.defers fun a2 w2 ρ2 p2 => hQ a2 w2 ρ2 (p1.trans p2 m1 m2))
  | exit id =>
    cases ret_some h2
    exact ⟨.exit id, T1, ms1, rfl, fun σ ρ base w a r Q hσ hwr hf hT hr hd hQ => wpIn_seq (ACode.wp (n := n) (k1 σ ρ base w a r _ hσ hwr hf hT hr hd fun a1 w1 ρ1 p1 => hQ a1 w1 ρ1 p1))⟩
  | ret =>
    cases ret_some h2
    exact ⟨.ret, T1, ms1, rfl, fun σ ρ base w a r Q hσ hwr hf hT hr hd hQ => wpIn_seq (ACode.wp (n := n) (k1 σ ρ base w a r _ hσ hwr hf hT hr hd fun a1 w1 ρ1 p1 => hQ a1 w1 ρ1 p1))⟩
theorem cond_ok {rA : Option Nat} {x : Operand} {y z : Code} {ms : List Mk} {o : Out} (hco : CodeOK P n ih) (h : runCode P ih nt rA (.cond x y z) T ms H = some (o, H')) : Goal P (n + 1) nt rA (.cond x y z) T ms H o H' := by
  unfold runCode at h
  simp only at h
  generalize hx : ev T x = v at h
  split at h
  · rename_i t
    obtain ⟨e, T1, ms1, rfl, k1⟩ := hco _ _ _ _ _ _ _ _ h
    refine ⟨e, T1, ms1, rfl, fun σ ρ base w a r Q hσ hwr hf hT hr hd hQ => ?_⟩
    have hv := ev_rel (a := a) hx hT
    unfold Rel at hv
    refine wpIn_cond hv ?_
    have := ACode.wp (k1 σ ρ base w a r Q hσ hwr hf hT hr hd hQ)
    cases t <;> exact this
  · exact (fail_some h).elim
theorem block_ok {rA : Option Nat} {id : Nat} {c : Code} {ms : List Mk} {o : Out} (hco : CodeOK P n ih) (h : runCode P ih nt rA (.block id c) T ms H = some (o, H')) : Goal P (n + 1) nt rA (.block id c) T ms H o H' := by
  obtain ⟨o1, K, h1, h2⟩ := bd_some h
  obtain ⟨e, T1, ms1, rfl, k1⟩ := hco _ _ _ _ _ _ _ _ h1
  cases e with
  | nrm =>
    cases ret_some h2
    exact ⟨.nrm, T1, ms1, rfl, fun σ ρ base w a r Q hσ hwr hf hT hr hd hQ => wpIn_block (ACode.wp (n := n) (k1 σ ρ base w a r _ hσ hwr hf hT hr hd fun a1 w1 ρ1 p1 => hQ a1 w1 ρ1 p1))⟩
  | ret =>
    cases ret_some h2
    exact ⟨.ret, T1, ms1, rfl, fun σ ρ base w a r Q hσ hwr hf hT hr hd hQ => wpIn_block (ACode.wp (n := n) (k1 σ ρ base w a r _ hσ hwr hf hT hr hd fun a1 w1 ρ1 p1 => hQ a1 w1 ρ1 p1))⟩
  | exit id' =>
    cases hb : Nat.beq id' id with
    | true =>
      simp only [hb, cond_true] at h2
      cases ret_some h2
      have e := Nat.eq_of_beq_eq_true hb
      exact ⟨.nrm, T1, ms1, rfl, fun σ ρ base w a r Q hσ hwr hf hT hr hd hQ => wpIn_block (ACode.wp (n := n) (k1 σ ρ base w a r _ hσ hwr hf hT hr hd fun a1 w1 ρ1 p1 => by
        show (if id' = id then _ else _)
        rw [if_pos e]; exact hQ a1 w1 ρ1 p1))⟩
    | false =>
      simp only [hb, cond_false] at h2
      cases ret_some h2
      have e : id' ≠ id := fun e => by subst e; simp at hb
      exact ⟨.exit id', T1, ms1, rfl, fun σ ρ base w a r Q hσ hwr hf hT hr hd hQ => wpIn_block (ACode.wp (n := n) (k1 σ ρ base w a r _ hσ hwr hf hT hr hd fun a1 w1 ρ1 p1 => by
        show (if id' = id then _ else _)
        rw [if_neg e]; exact hQ a1 w1 ρ1 p1))⟩
theorem loop_ok {rA : Option Nat} {c : Code} {ms : List Mk} {o : Out} (hco : CodeOK P n ih) (hfr : ∀ t, Fr (ih t)) (h : runCode P ih nt rA (.loop c) T ms H = some (o, H')) : Goal P (n + 1) nt rA (.loop c) T ms H o H' := by
  have e0 : runCode P ih nt rA (.loop c) T ms = (match mapStep c with
    | some s => mapLoop ih nt rA s T ms
    | none => bd (ih (.code nt rA c T ms)) fun o => match o with
      | .exit .nrm T ms => ih (.code nt rA (.loop c) T ms)
      | o => ret o) := rfl
  rw [e0] at h
  cases hs : mapStep c with
  | some s => rw [hs] at h; exact mapLoop_ok hs hco hfr h
  | none =>
  rw [hs] at h
  have hA : ∀ (r : Option Nat) (Q : Exit → Act → World → Prop) (a : Act) (w : World) (k : Nat), ACode r k P (.loop c) Q a w = Code.roundsIn (FR r) 0 P c Q k a w := fun r Q a w k => by unfold ACode; simp only [hs]
  obtain ⟨o1, K, h1, h2⟩ := bd_some h
  have m1 := next_of hfr h1
  obtain ⟨e, T1, ms1, rfl, k1⟩ := hco _ _ _ _ _ _ _ _ h1
  cases e with
  | nrm =>
    have m2 := next_of hfr h2
    obtain ⟨e, T2, ms2, rfl, k2⟩ := hco _ _ _ _ _ _ _ _ h2
    refine ⟨e, T2, ms2, rfl, fun σ ρ base w a r Q hσ hwr hf hT hr hd hQ => (hA r Q a w (n + 1)).mpr (ACode.wp (n := n) (c := c) ?_)⟩
    refine k1 σ ρ base w a r _ hσ hwr (hf.left m2) hT hr hd fun a1 w1 ρ1 p1 => ?_
    exact (hA r Q a1 w1 n).mp (k2 σ ρ1 base w1 a1 r Q hσ p1.post.wr (p1.post.ext.free hf m1) p1.tmps (hr.mono p1.post.ext.le) p1.defers fun a2 w2 ρ2 p2 => hQ a2 w2 ρ2 (p1.trans p2 m1 m2))
  | exit id =>
    cases ret_some h2
    exact ⟨.exit id, T1, ms1, rfl, fun σ ρ base w a r Q hσ hwr hf hT hr hd hQ => (hA r Q a w (n + 1)).mpr (ACode.wp (n := n) (c := c) (k1 σ ρ base w a r _ hσ hwr hf hT hr hd fun a1 w1 ρ1 p1 => hQ a1 w1 ρ1 p1))⟩
  | ret =>
    cases ret_some h2
    exact ⟨.ret, T1, ms1, rfl, fun σ ρ base w a r Q hσ hwr hf hT hr hd hQ => (hA r Q a w (n + 1)).mpr (ACode.wp (n := n) (c := c) (k1 σ ρ base w a r _ hσ hwr hf hT hr hd fun a1 w1 ρ1 p1 => hQ a1 w1 ρ1 p1))⟩
theorem range_eq (n : Nat) : List.range n = List.range' 0 n := List.range_eq_range'
theorem deferOf_some : ∀ {l l' : List Oper} {c : Call}, deferOf l = some (l', c) → ∃ o, l = l' ++ [o] ∧ o.dst = none ∧ o.op = .defer c ∧ o.guard = none
  | [], _, _, h => by cases h
  | [o], l', c, h => by
    unfold deferOf at h
    simp only at h
    split at h
    · cases h; exact ⟨_, rfl, rfl, rfl, rfl⟩
    · cases h
  | o :: o2 :: os, l', c, h => by
    unfold deferOf at h
    cases hr : deferOf (o2 :: os) with
    | none => simp only [hr] at h; cases h
    | some p =>
      obtain ⟨l2, c2⟩ := p
      simp only [hr] at h
      cases h
      obtain ⟨o', h1, h2⟩ := deferOf_some hr
      exact ⟨o', by rw [h1]; rfl, h2⟩
theorem deferA_ok {c : Call} {m : Mk} {ty : TypeId} (h : deferA P T c = some m) (hT : TRel σ ρ nt T a.tmps) : ∃ (k : FuncId) (args : List AVal) (cs fs : Array Value), m = .call k args ∧ isFn P k = true ∧ (resolve a.eval c ty).run P w = .ok { target := .fn (.func k) cs, args := fs } w ∧ RelL σ ρ args (fs ++ cs).toList := by
  obtain ⟨callee, as', ts⟩ := c
  unfold deferA at h
  cases callee with
  | value f =>
    simp only at h
    split at h
    · rename_i l k first cap hl hf
      obtain ⟨hk, h⟩ := condO_some h
      cases h
      have r1 := evs_rel (a := a) hl hT
      have r2 := ev_rel (a := a) hf hT
      unfold Rel at r2
      obtain ⟨fs, cs, he, g1, g2⟩ := r2
      refine ⟨k, _, cs, fs ++ as'.map a.eval, rfl, hk, by simp only [resolve, he, Deferred.ofValue, Sem.run_pure], ?_⟩
      have := (g1.append r1).append g2
      simpa using this
    · cases h
  | invoke r n => cases h
  | builtin b => cases h
theorem region_ok (hm : P.follows .mixedOrders = true) (hname : NoNum P) {rA : Option Nat} {id : Nat} {ops : Array Oper} {draw : Bool} {ms : List Mk} {o : Out} (hc : CallOK P ih) (hro : RoundOK P ih) (hfr : ∀ t, Fr (ih t)) (h : runCode P ih nt rA (.region id ops draw) T ms H = some (o, H')) : Goal P (n + 1) nt rA (.region id ops draw) T ms H o H' := by
  have e0 : runCode P ih nt rA (.region id ops draw) T ms = (match cond draw none (deferOf ops.toList) with
    | some p => match (generalizing := false) rA with
      | none => bd (opsA P ih nt ops.toList p.1 T) fun T => match deferA P T p.2 with
        | some m => ret (.exit .nrm T (m :: ms))
        | none => fail
      | some _ => fail
    | none => bd (cond draw (cond (regionOk ops.toList) (opsD P ih nt ops ops.toList (masks ops.toList []) [] T) fail) (opsA P ih nt ops.toList ops.toList T)) fun T => ret (.exit .nrm T ms)) := rfl
  rw [e0] at h
  cases hdo : cond draw none (deferOf ops.toList) with
  | some p =>
    obtain ⟨l, c⟩ := p
    rw [hdo] at h
    cases draw with
    | true => cases hdo
    | false =>
      simp only [cond_false] at hdo
      cases rA with
      | some _ => exact (fail_some (H := H) h).elim
      | none =>
        obtain ⟨T1, K, h1, h2⟩ := bd_some h
        generalize hda : deferA P T1 c = dm at h2
        cases dm with
        | none => exact (fail_some h2).elim
        | some m =>
          cases ret_some h2
          obtain ⟨o1, ho1, hdst, hop, hgd⟩ := deferOf_some hdo
          refine ⟨.nrm, T1, m :: ms, rfl, fun σ ρ base w a r Q hσ hwr hf hT hr hd hQ => ?_⟩
          unfold RR at hr
          subst hr
          refine wpIn_region ?_
          have hsz : ops.size = l.length + 1 := by have := congrArg List.length ho1; simpa using this
          have hrange : List.range ops.size = List.range' 0 l.length ++ [l.length] := by
            rw [hsz, List.range_succ, List.range_eq_range']
          rw [hrange]
          have hget : ∀ j, j < l.length → l[j]? = ops[0 + j]? := fun j hj => by
            rw [Nat.zero_add, ← Array.getElem?_toList, ho1, List.getElem?_append_left hj]
          have hlast : ops[l.length]? = some o1 := by rw [← Array.getElem?_toList, ho1]; simp
          refine opsA_ok (r := none) (Q := Q) hc hro hname hfr hσ [l.length] l 0 T H T1 ρ w a hget h1 hT hwr hf fun a' w' ρ' p1 p2 p3 => ?_
          simp only [wpOpsIn, hlast]
          rw [if_pos (by unfold Region.wanted; rw [hgd])]
          obtain ⟨k, args, cs, fs, rfl, hk, hrun, hrel⟩ := deferA_ok (w := w') (ty := o1.type) hda p2
          refine ⟨wide_about, ?_⟩
          have e1 : ((o1.semAt (FR none).round a'.eval).run P w') = .ok (.defer { target := .fn (.func k) cs, args := fs }) w' := by
            show ((o1.semAt none a'.eval).run P w') = _
            rw [Oper.semAt_none]
            simp only [execOp, hop, Sem.run_bind, hrun, Result.andThen_ok, Sem.run_pure]
          rw [e1, Oper.uponIn_defer]
          refine hQ _ w' ρ' ⟨p1, by rw [hdst]; exact p2, ?_⟩
          rw [put_defers]
          unfold DRel
          exact ⟨cs, fs, a'.defers, rfl, hrel, by rw [p3]; exact hd.mono p1.ext.le⟩
  | none =>
  rw [hdo] at h
  obtain ⟨T1, K, h1, h2⟩ := bd_some h
  cases ret_some h2
  refine ⟨.nrm, T1, ms, rfl, fun σ ρ base w a r Q hσ hwr hf hT hr hd hQ => ?_⟩
  have fin : ∀ a' w' ρ', Post σ ρ ρ' base H H' w w' → TRel σ ρ' nt T1 a'.tmps → a'.defers = a.defers → Q .normal a' w' := fun a' w' ρ' p1 p2 p3 =>
    hQ a' w' ρ' ⟨p1, p2, by rw [p3]; exact hd.mono p1.ext.le⟩
  cases draw with
  | false =>
    refine wpIn_region ?_
    rw [range_eq]
    have := opsA_ok (r := r) (Q := Q) hc hro hname hfr hσ [] ops.toList 0 T H T1 ρ w a (fun j _ => by simp) h1 hT hwr hf fin
    simpa using this
  | true =>
    obtain ⟨hok, h3⟩ := cond_some h1
    exact opsD_ok hm hc hro hname hfr hσ hok h3 hT hwr hf fin
end
end Go.AM
namespace Go.AM
open Go Go.RowKit
section
variable {P : Program} {σ : Nat → Value} {ρ : Ren} {base nt : Nat} {H H' : AHeap} {w : World} {T : Tmps} {a : Act} {ih : Task → M Out} {n : Nat}
theorem outVal_some {m : M Out} {v : AVal} (h : outVal m H = some (v, H')) : m H = some (.val v, H') := by
  obtain ⟨o, K, h1, h2⟩ := bd_some h
  cases o with
  | exit e T ms => exact (fail_some h2).elim
  | val u => cases ret_some h2; exact h1
theorem results_run {fn : Func} {tm : Array Value} {vs' : List Value} (h : (fn.results.toList.mapM fun r => (match r with
      | .tmp t => pure (tm.getD t undef)
      | .cell a t => do loadVar t (← asAddr (tm.getD a undef)) : Sem Value)).run P w = .ok vs' w) :
    (results fn tm).run P w = .ok (if h : vs'.toArray.size = 1 then vs'.toArray[0] else .tuple vs'.toArray) w := by
  have e : results fn tm = (do
    let vs ← fn.results.mapM fun r => (match r with
      | .tmp t => pure (tm.getD t undef)
      | .cell a t => do loadVar t (← asAddr (tm.getD a undef)) : Sem Value)
    pure (if h : vs.size = 1 then vs[0] else .tuple vs)) := rfl
  rw [e, Array.mapM_eq_mapM_toList]
  simp only [Sem.run_bind, Sem.run_map, h, Result.andThen_ok, Sem.run_pure]
theorem rec_exec {t : Option Tmp} {ts : Array TypeId} {ty : TypeId} {pos : String} {af : Array Edge} {g : Option (Nat × Bool)} {w : World} {a : Act} : (execOp a.eval { dst := t, op := .call { callee := .builtin .recover, args := #[], argTypes := ts }, type := ty, pos := pos, after := af, guard := g }).run P w = .ok .recover w := by
  simp only [execOp, resolve, invoke, Array.map_empty, Sem.run_bind, Sem.run_pure, Result.andThen_ok]
  rfl
theorem recoverD_ret {c₀ : Frame} {cs : List Frame} (h : c₀.mode = .returning) : recoverD (c₀ :: cs) = none := by
  simp [recoverD, h]
/-- a deferred call, while the function returns -/
theorem runDef_ok (hco : CodeOK P n ih) (hfr : ∀ t, Fr (ih t)) (hname : NoNum P) {k : FuncId} {args : List AVal} {u : Unit} (h : runDef P ih k args H = some (u, H')) {args' : Array Value} (hσ : One σ) (hwr : WR σ ρ base H w) (hf : Free ρ H.next H'.next) (hr : RelL σ ρ args args'.toList)
    {R : Ending → FrameMode → World → Prop} (hR : ∀ v ρ' w', Post σ ρ ρ' base H H' w w' → R (.returned v) .returning w') : isFn P k = true ∧ CallsDIn Fence.wide 0 P k args' .returning w R := by
  unfold runDef at h
  cases hfn : P.funcs[k]? with
  | none => simp only [hfn] at h; exact (fail_some h).elim
  | some fn =>
    simp only [hfn] at h
    cases hb : fn.body with
    | none => simp only [hb] at h; exact (fail_some h).elim
    | some c =>
      simp only [hb] at h
      generalize hrs : fn.results.toList = rs at h
      cases rs with
      | cons _ _ => exact (fail_some h).elim
      | nil =>
        obtain ⟨hle, h⟩ := cond_some h
        have hle : args.length ≤ fn.ntmps := by simpa [Nat.ble_eq] using hle
        refine ⟨by unfold isFn; rw [hfn]; simp [hb], ?_⟩
        generalize hdc : defCode fn (Tr.ofListAt .nil 0 args) c = dc at h
        cases dc with
        | none => exact (fail_some h).elim
        | some p =>
          obtain ⟨c', T'⟩ := p
          obtain ⟨o, K, h1, h2⟩ := bd_some h
          obtain ⟨e, T1, ms1, rfl, k1⟩ := hco _ _ _ _ _ _ _ _ h1
          have hK : K = H' ∧ ms1 = [] ∧ e ≠ .exit 0 ∧ (∀ i, e ≠ .exit i) := by
            cases e with
            | nrm => cases ms1 with
              | nil => cases ret_some h2; exact ⟨rfl, rfl, by simp, by simp⟩
              | cons _ _ => exact (fail_some (H := K) h2).elim
            | ret => cases ms1 with
              | nil => cases ret_some h2; exact ⟨rfl, rfl, by simp, by simp⟩
              | cons _ _ => exact (fail_some (H := K) h2).elim
            | exit i => exact (fail_some (H := K) h2).elim
          obtain ⟨rfl, rfl, _, hne⟩ := hK
          have hstart := params_start (nt := fn.ntmps) hr hle
          have hres : fn.results = #[] := by apply Array.toList_inj.1; rw [hrs]
          refine callsDIn_of_wpSIn hfn hb trivial fun c₀ cs hu => ?_
          have fin : ∀ (a0 : Act), a0.defers = [] → TRel σ ρ fn.ntmps T' a0.tmps → c'.wpSIn Fence.wide 0 P (bodyPostS P fn c₀ cs R) a0 (c₀ :: cs) w := by
            intro a0 hd0 hT0
            refine wpSIn_of_wpIn rfl (ACode.wp (n := n) (k1 σ ρ base w a0 none _ hσ hwr hf hT0 rfl (by rw [hd0]; rfl) fun a1 w1 ρ1 p1 => ?_))
            have hd1 : a1.defers = [] := p1.defers
            have main : a1.defers = [] ∧ ∃ u', (c₀ :: cs) = { c₀ with mode := u' } :: cs ∧ ∃ v, (results fn a1.tmps).run P w1 = .ok v w1 ∧ R (.returned v) u' w1 :=
              ⟨hd1, .returning, by cases c₀; simp only at hu; subst hu; rfl, .tuple #[], by simp [results, hres], hR _ ρ1 w1 p1.post⟩
            cases e with
            | nrm => exact main
            | ret => exact main
            | exit i => exact absurd rfl (hne i)
          unfold defCode at hdc
          cases hrt : recTop c with
          | none =>
            rw [hrt] at hdc
            cases hdc
            exact fin _ rfl hstart
          | some q =>
            obtain ⟨t, rest⟩ := q
            rw [hrt] at hdc
            obtain ⟨hlt, hdc⟩ := condO_some hdc
            cases hdc
            unfold recTop at hrt
            split at hrt
            · rename_i id ops rest'
              split at hrt
              · rename_i t' ts ty pos af hops
                cases hrt
                have e0 : ops = #[⟨some t, .call ⟨.builtin .recover, #[], ts⟩, ty, pos, af, none⟩] := by apply Array.toList_inj.1; rw [hops]
                subst e0
                refine wpSIn_seq (wpSIn_region ?_)
                simp only [List.size_toArray, List.length_cons, List.length_nil, Nat.zero_add, show List.range 1 = [0] from rfl, wpOpsSIn, List.getElem?_toArray, List.getElem?_cons_zero]
                refine ⟨wide_about, ?_⟩
                rw [if_pos (by unfold Region.wanted; rfl), rec_exec]
                simp only [recoverD_ret hu]
                refine fin _ (put_defers _ _ _) ?_
                exact put_rel (v := .nilIface) (v' := .nilIface) (dst := some t) (by simp only [setT]; rw [hlt]; rfl) hstart (by unfold Rel; rfl)
              · cases hrt
            · cases hrt
theorem marks_ok (hco : CodeOK P n ih) (hfr : ∀ t, Fr (ih t)) (hname : NoNum P) {fn : Func} {tmps : Array Value} {R : Ending → World → Prop} (hσ : One σ) : ∀ {ms : List Mk} {ds : List Deferred} {H H' : AHeap} {ρ : Ren} {w : World}, takeMarks P ih ms H = some ((), H') → WR σ ρ base H w → Free ρ H.next H'.next → DRel σ ρ ms ds →
    (∀ ρ' w', Post σ ρ ρ' base H H' w w' → LeavesInM Fence.wide 0 P fn tmps R [] .returning w') → LeavesInM Fence.wide 0 P fn tmps R ds .returning w
  | [], ds, H, H', ρ, w, h, hwr, hf, hd, hQ => by
    cases ret_some h
    unfold DRel at hd; subst hd
    exact hQ ρ w ⟨.refl _ _ _, hwr, .refl _ _⟩
  | .mark m :: ms, ds, H, H', ρ, w, h, hwr, hf, hd, hQ => by
    unfold DRel at hd
    obtain ⟨L, ds', hL, rfl, hd⟩ := hd
    obtain ⟨blk, K, h1, h2⟩ := bd_some h
    obtain ⟨hb, e1, e2, e3⟩ := rd_some h1
    cases blk with
    | deferred b =>
      cases b with
      | false => exact (fail_some h2).elim
      | true =>
        obtain ⟨u, K2, h3, h4⟩ := bd_some h2
        obtain ⟨hlo, ⟨b0, hb0⟩, hk, hkl, hkn⟩ := wr_some h3
        obtain ⟨L', hL', hobj⟩ := hwr.blk m _ hb
        rw [hL] at hL'; cases hL'
        have hobj : w.heap[L.blk]? = some (.deferred (some [])) := hobj
        have hput := hwr.put (K := K2) (b := .deferred false) hb hL (by rw [← e2]; exact hlo) (putObj_upd (.deferred none) hobj) rfl (fun j => by rw [hk, e1]) (hkl.trans e2)
        have hn2 : K2.next = H.next := hkn.trans e3
        have := marks_ok (fn := fn) (tmps := tmps) (R := R) hco hfr hname hσ h4 hput.1 (by rw [hn2]; exact hf) hd fun ρ' w' p => hQ ρ' w' ⟨by rw [← hn2]; exact p.ext, p.wr, hput.2.trans p.below⟩
        unfold LeavesInM
        exact ⟨by simp, .inl ⟨L.blk, _, rfl, run_takeDeferred hobj, this⟩⟩
    | _ => exact (fail_some h2).elim
  | .call k args :: ms, ds, H, H', ρ, w, h, hwr, hf, hd, hQ => by
    unfold DRel at hd
    obtain ⟨cs, fs, ds', rfl, hrel, hd⟩ := hd
    obtain ⟨u, K, h1, h2⟩ := bd_some h
    have m1 : H.next ≤ K.next := by obtain ⟨es, d, _⟩ := fr_runDef P hfr k args H u K h1; exact d.next
    have m2 : K.next ≤ H'.next := by obtain ⟨es, d, _⟩ := fr_takeMarks P hfr ms K () H' h2; exact d.next
    obtain ⟨q1, q2⟩ := runDef_ok (R := fun
          | .returned _, u', w' => LeavesInM Fence.wide 0 P fn tmps R ds' (settle u') w'
          | .panicked chain, u', w' => LeavesInM Fence.wide 0 P fn tmps R ds' (raised u' chain) w'
          | .outgrown, _, w' => R .outgrown w') hco hfr hname h1 hσ hwr (hf.left m2) hrel fun v ρ1 w1 p1 => by
      show LeavesInM Fence.wide 0 P fn tmps R ds' (settle .returning) w1
      exact marks_ok (fn := fn) (tmps := tmps) (R := R) hco hfr hname hσ h2 p1.wr (p1.ext.free hf m1) (hd.mono p1.ext.le) fun ρ2 w2 p2 => hQ ρ2 w2 ⟨p1.ext.trans p2.ext m1 m2, p2.wr, p1.below.trans p2.below⟩
    unfold LeavesInM
    refine ⟨by simp, .inr ⟨fun h => by simp [Fence.wide] at h, .func k, cs, k, fs ++ cs, rfl, ?_, fun _ _ => trivial, q2⟩⟩
    simp only [invoke]
    exact isFn_run hname q1 _ w
theorem runCall_ok (hco : CodeOK P n ih) (hfr : ∀ t, Fr (ih t)) (hname : NoNum P) {f : FuncId} {args : List AVal} {v : AVal} (h : runCall P ih f args H = some (.val v, H')) {args' : Array Value} (hσ : One σ) (hwr : WR σ ρ base H w) (hf : Free ρ H.next H'.next) (hr : RelL σ ρ args args'.toList) :
    CallsIn Fence.wide 0 P f args' w (ValPost σ ρ base H H' w v) := by
  unfold runCall at h
  cases hfn : P.funcs[f]? with
  | none => simp only [hfn] at h; exact (fail_some h).elim
  | some fn =>
    simp only [hfn] at h
    cases hb : fn.body with
    | none => simp only [hb] at h; exact (fail_some h).elim
    | some c =>
      simp only [hb] at h
      obtain ⟨hle, h⟩ := cond_some h
      have hle : args.length ≤ fn.ntmps := by simpa [Nat.ble_eq] using hle
      obtain ⟨o, K, h1, h2⟩ := bd_some h
      obtain ⟨e, T1, ms1, rfl, k1⟩ := hco _ _ _ _ _ _ _ _ h1
      have m1 := next_of hfr h1
      have key : ∀ a1 w1 ρ1, CodePost σ ρ base fn.ntmps H K w T1 ms1 ρ1 a1 w1 → bd (takeMarks P ih ms1) (fun _ => bd (resultsA P T1 fn.results.toList) fun vs => ret (Out.val (oneV vs))) K = some (Out.val v, H') →
          LeavesInM Fence.wide 0 P fn a1.tmps (ValPost σ ρ base H H' w v) a1.defers .returning w1 := by
        intro a1 w1 ρ1 p1 h3
        obtain ⟨u, K2, h4, h5⟩ := bd_some h3
        obtain ⟨vs, K3, h6, h7⟩ := bd_some h5
        cases ret_some h7
        have m2 : K.next ≤ K2.next := by obtain ⟨es, d, _⟩ := fr_takeMarks P hfr ms1 K () K2 h4; exact d.next
        have m3 : K2.next ≤ H'.next := by obtain ⟨es, d, _⟩ := fr_resultsA P T1 fn.results.toList K2 vs H' h6; exact d.next
        refine marks_ok (fn := fn) (tmps := a1.tmps) (R := ValPost σ ρ base H H' w (oneV vs)) hco hfr hname hσ h4 p1.post.wr ((p1.post.ext.free hf m1).left m3) p1.defers fun ρ2 w2 p2 => ?_
        obtain ⟨b1, b2, b3, vs', b4, b5⟩ := results_ok (P := P) (p1.tmps.mono p2.ext.le) p2.wr _ K2 _ vs rfl rfl h6
        refine ⟨_, results_run b4, _, ρ2, rfl, ⟨?_, p2.wr.log b1 b2, p1.post.below.trans p2.below⟩, oneV_rel b5⟩
        rw [b3]
        exact p1.post.ext.trans p2.ext m1 m2
      have hnext : ∀ h3 : bd (takeMarks P ih ms1) (fun _ => bd (resultsA P T1 fn.results.toList) fun vs => ret (Out.val (oneV vs))) K = some (.val v, H'), K.next ≤ H'.next := fun h3 => by
        obtain ⟨es, d, _⟩ := fr_bd (fr_takeMarks P hfr ms1) (fun _ => fr_bd (fr_resultsA P T1 fn.results.toList) fun vs => fr_ret (Out.val (oneV vs))) K _ H' h3
        exact d.next
      refine callsIn_of_wp_marks hfn hb trivial ?_ rfl
      have hstart := params_start (nt := fn.ntmps) hr hle
      cases e with
      | exit id => exact (fail_some h2).elim
      | nrm => exact ACode.wp (n := n) (k1 σ ρ base w { tmps := args' ++ Array.replicate (fn.ntmps - args'.size) undef, defers := [] } none _ hσ hwr (hf.left (hnext h2)) hstart rfl rfl fun a1 w1 ρ1 p1 => key a1 w1 ρ1 p1 h2)
      | ret => exact ACode.wp (n := n) (k1 σ ρ base w { tmps := args' ++ Array.replicate (fn.ntmps - args'.size) undef, defers := [] } none _ hσ hwr (hf.left (hnext h2)) hstart rfl rfl fun a1 w1 ρ1 p1 => key a1 w1 ρ1 p1 h2)
end
end Go.AM
namespace Go.AM
open Go Go.RowKit
section
variable {P : Program} {σ : Nat → Value} {ρ : Ren} {base nt : Nat} {H H' : AHeap} {w : World} {T : Tmps} {a : Act} {ih : Task → M Out} {n : Nat}
theorem Post.trans {ρ1 ρ2 : Ren} {K : AHeap} {w1 w2 : World} (h : Post σ ρ ρ1 base H K w w1) (k : Post σ ρ1 ρ2 base K H' w1 w2) (m1 : H.next ≤ K.next) (m2 : K.next ≤ H'.next) : Post σ ρ ρ2 base H H' w w2 :=
  ⟨h.ext.trans k.ext m1 m2, k.wr, h.below.trans k.below⟩
theorem Post.of_same {ρ' : Ren} {K : AHeap} {w1 : World} (h : Post σ ρ ρ' base H K w w1) (hb : H'.blks = K.blks) (hl : H'.lo = K.lo) (hn : H'.next = K.next) : Post σ ρ ρ' base H H' w w1 :=
  ⟨by rw [hn]; exact h.ext, h.wr.log hb hl, h.below⟩
/-- a loop's record is turned -/
theorem turn_ok {l : Nat} {L : Loc} {st st2 : LoopState} {pd pd2 : Option Code} {nt2 : Nat} {T2 : Tmps} {ps : List Tmp} {as bo : Code} {d : Nat} {u : Unit} (hwr : WR σ ρ base H w) (hL : ρ l = some L)
    (hb : H.blks.get l = some (.loop st pd nt2 T2 ps as bo d)) (h : wr l (.loop st2 pd2 nt2 T2 ps as bo d) H = some (u, H')) :
    H'.next = H.next ∧ ∃ r : Loop, w.heap[L.blk]? = some (.loop r) ∧ r.state = st ∧ r.pending = pd ∧ WR σ ρ base H' (w.putObj L.blk (.loop { r with state := st2, pending := pd2 })) ∧ Below base w (w.putObj L.blk (.loop { r with state := st2, pending := pd2 })) := by
  obtain ⟨hlo, ⟨b0, hb0⟩, hk, hkl, hkn⟩ := wr_some h
  obtain ⟨L', hL', fn, tm, D, q1, q2, q3⟩ := hwr.blk l _ hb
  rw [hL] at hL'; cases hL'
  refine ⟨hkn, _, q2, rfl, rfl, ?_⟩
  exact hwr.put (b := .loop st2 pd2 nt2 T2 ps as bo d) hb hL hlo (putObj_upd _ q2) ⟨fn, tm, D, q1, rfl, q3⟩ hk hkl
theorem endRound_ok {l : Nat} {L : Loc} {e : AExit} {v : AVal} (hwr : WR σ ρ base H w) (hL : ρ l = some L) (h : endRoundA l e H = some (.val v, H')) (Q : Act) :
    H'.next = H.next ∧ ∀ R : Ending → World → Prop, (∀ v' w', WR σ ρ base H' w' → Below base w w' → Rel σ ρ v v' → R (.returned v') w') → roundPost P L.blk R (exitE e) Q w := by
  obtain ⟨blk, K, h1, h2⟩ := bd_some h
  obtain ⟨hb, e1, e2, e3⟩ := rd_some h1
  cases blk with
  | loop st pd nt2 T2 ps as bo d =>
    have hwr' : WR σ ρ base K w := hwr.log e1 e2
    have hb' : K.blks.get l = some (.loop st pd nt2 T2 ps as bo d) := by rw [e1]; exact hb
    cases e with
    | nrm =>
      obtain ⟨u, K2, h3, h4⟩ := bd_some h2
      cases ret_some h4
      obtain ⟨n1, r, q1, q2, q3, q4, q5⟩ := turn_ok hwr' hL hb' h3
      exact ⟨n1.trans e3, fun R k => ⟨_, _, run_endRound none q1, k _ _ q4 q5 (by unfold Rel; rfl)⟩⟩
    | ret =>
      obtain ⟨u, K2, h3, h4⟩ := bd_some h2
      cases ret_some h4
      obtain ⟨n1, r, q1, q2, q3, q4, q5⟩ := turn_ok hwr' hL hb' h3
      exact ⟨n1.trans e3, fun R k => ⟨_, _, run_endRound (some .ret) q1, k _ _ q4 q5 (by unfold Rel; rfl)⟩⟩
    | exit id =>
      obtain ⟨u, K2, h3, h4⟩ := bd_some h2
      cases ret_some h4
      obtain ⟨n1, r, q1, q2, q3, q4, q5⟩ := turn_ok hwr' hL hb' h3
      exact ⟨n1.trans e3, fun R k => ⟨_, _, run_endRound (some (.exit id)) q1, k _ _ q4 q5 (by unfold Rel; rfl)⟩⟩
  | _ => exact (fail_some h2).elim
theorem begin_ok {l : Nat} {L : Loc} {u : Unit} (hwr : WR σ ρ base H w) (hL : ρ l = some L) (h : beginA l H = some (u, H')) :
    H'.next = H.next ∧ ∃ w', (Instr.beginRound L.blk).run P w = .ok () w' ∧ WR σ ρ base H' w' ∧ Below base w w' := by
  obtain ⟨blk, K, h1, h2⟩ := bd_some h
  obtain ⟨hb, e1, e2, e3⟩ := rd_some h1
  cases blk with
  | loop st pd nt2 T2 ps as bo d =>
    cases st with
    | ready =>
      obtain ⟨n1, r, q1, q2, q3, q4, q5⟩ := turn_ok (hwr.log (K := K) e1 e2) hL (by rw [e1]; exact hb) h2
      refine ⟨n1.trans e3, _, run_beginRound q1 q2, ?_, ?_⟩
      · have : { r with state := LoopState.busy, pending := pd } = { r with state := LoopState.busy } := by rw [← q3]
        rw [this] at q4; exact q4
      · have : { r with state := LoopState.busy, pending := pd } = { r with state := LoopState.busy } := by rw [← q3]
        rw [this] at q5; exact q5
    | _ => exact (fail_some h2).elim
  | _ => exact (fail_some h2).elim
theorem runRound_ok (hco : CodeOK P n ih) (hfr : ∀ t, Fr (ih t)) {l : Nat} {args : List AVal} {v : AVal} (h : runRound ih l args H = some (.val v, H')) {args' : Array Value} {L : Loc} {nx : Next} (hσ : One σ) (hwr : WR σ ρ base H w) (hf : Free ρ H.next H'.next) (hL : ρ l = some L) (hr : RelL σ ρ args args'.toList)
    (hy : (Instr.yield L.blk args').run P w = .ok nx w) : ∃ fn tm as bo, nx = .round L.blk fn tm as bo ∧ RoundIn Fence.wide 0 P L.blk fn tm as bo w (ValPost σ ρ base H H' w v) := by
  obtain ⟨blk, K, h1, h2⟩ := bd_some h
  obtain ⟨hb, e1, e2, e3⟩ := rd_some h1
  cases blk with
  | loop st pd nt2 T0 ps as bo d =>
    obtain ⟨L', hL', fn, tm, D, q1, q2, q3⟩ := hwr.blk l _ hb
    rw [hL] at hL'; cases hL'
    simp only at h2
    cases hs : setParams nt2 T0 ps args with
    | none => simp only [hs] at h2; exact (fail_some h2).elim
    | some T1 =>
      simp only [hs] at h2
      have hsz : args'.size = ps.length := by
        have h1 : ∀ (ps : List Tmp) (args : List AVal) (T T' : Tmps), setParams nt2 T ps args = some T' → args.length = ps.length := by
          intro ps
          induction ps with
          | nil => intro args T T' h; cases args with | nil => rfl | cons x xs => cases h
          | cons p ps ih2 =>
            intro args T T' h
            cases args with
            | nil => cases h
            | cons x xs => simp only [setParams] at h; obtain ⟨_, h⟩ := condO_some h; simp [ih2 xs _ _ h]
        have := h1 ps args T0 T1 hs
        have := hr.length
        simp at this; omega
      rw [run_yield q2 (by simpa using hsz)] at hy
      cases hy
      refine ⟨_, _, _, _, rfl, ?_⟩
      obtain ⟨o, K1, h3, h4⟩ := bd_some h2
      have m1 := next_of hfr h3
      obtain ⟨e, T2, ms2, rfl, k1⟩ := hco _ _ _ _ _ _ _ _ h3
      cases e with
      | ret => exact (fail_some h4).elim
      | exit id => exact (fail_some h4).elim
      | nrm =>
        cases ms2 with
        | cons m ms => exact (fail_some h4).elim
        | nil =>
          obtain ⟨u, K2, h5, h6⟩ := bd_some h4
          obtain ⟨o, K3, h7, h8⟩ := bd_some h6
          have m3 := next_of hfr h7
          obtain ⟨e, T3, ms3, rfl, k2⟩ := hco _ _ _ _ _ _ _ _ h7
          have h8 : endRoundA l e K3 = some (.val v, H') := h8
          have n2 : K2.next = K1.next := by
            obtain ⟨blk, A, g1, g2⟩ := bd_some h5
            obtain ⟨_, _, _, e3⟩ := rd_some g1
            split at g2
            · obtain ⟨_, _, _, _, e4⟩ := wr_some g2; rw [e4, e3]
            · exact (fail_some g2).elim
          have m4 : K3.next ≤ H'.next := by
            obtain ⟨es, d, _⟩ := fr_endRoundA l e K3 _ H' h8
            exact d.next
          have htm : TRel σ ρ nt2 T1 ((ps.toArray.zip args').foldl (fun tmps (x : Tmp × Value) => tmps.setIfInBounds x.1 x.2) tm) := by
            have := setParams_rel ps args args'.toList T0 T1 tm hs q3 hr
            rw [← Array.foldl_toList]
            simpa using this
          have hwrK : WR σ ρ base K w := hwr.log e1 e2
          refine roundIn_of_wpIn trivial ?_
          have := k1 σ ρ base w { tmps := ((ps.toArray.zip args').foldl (fun tmps (x : Tmp × Value) => tmps.setIfInBounds x.1 x.2) tm), defers := [] } (some L.blk)
            (Exit.then (fun a₁ w₁ => ∃ w₂, (Instr.beginRound L.blk).run P w₁ = .ok () w₂ ∧ bo.wpIn (Fence.wide.inRound L.blk) 0 P (roundPost P L.blk (ValPost σ ρ base H H' w v)) a₁ w₂) (fun _ _ _ => False))
            hσ hwrK (by rw [e3]; exact hf.left (by omega)) htm ⟨L, hL, rfl⟩ rfl ?_
          · exact this.wp
          · intro a1 w1 ρ1 p1
            have hL1 : ρ1 l = some L := p1.post.ext.le _ _ hL
            obtain ⟨n3, w2, g1, g2, g3⟩ := begin_ok (P := P) p1.post.wr hL1 h5
            refine ⟨w2, g1, ?_⟩
            have hf1 : Free ρ1 K1.next H'.next := p1.post.ext.free (by rw [e3]; exact hf) m1
            have := k2 σ ρ1 base w2 a1 (some L.blk) (roundPost P L.blk (ValPost σ ρ base H H' w v)) hσ g2 (by rw [n2]; exact hf1.left m4) p1.tmps ⟨L, hL1, rfl⟩ p1.defers ?_
            · exact this.wp
            · intro a3 w3 ρ3 p3
              have hL3 : ρ3 l = some L := p3.post.ext.le _ _ hL1
              obtain ⟨n4, k3⟩ := endRound_ok (P := P) (v := v) p3.post.wr hL3 h8 a3
              refine k3 _ fun v' w' x1 x2 x3 => ⟨v', ρ3, rfl, ⟨?_, x1, ?_⟩, x3⟩
              · rw [n4]
                have y1 : Ext ρ ρ1 H.next K1.next := by rw [← e3]; exact p1.post.ext
                have y2 : Ext ρ1 ρ3 K1.next K3.next := by rw [← n2]; exact p3.post.ext
                exact y1.trans y2 (by omega) (by omega)
              · exact ((p1.post.below.trans g3).trans p3.post.below).trans x2
  | _ => exact (fail_some h2).elim
end
end Go.AM
namespace Go.AM
open Go Go.RowKit
section
variable {P : Program} {σ : Nat → Value} {ρ : Ren} {base nt : Nat} {H H' : AHeap} {w : World} {T : Tmps} {a : Act} {ih : Task → M Out} {n : Nat}
theorem newBlk_ok {b : ABlk} {id : Nat} {o : Obj} {L : Loc} (hL : L.blk = w.heap.size) (h : nw b H = some (id, H')) (hwr : WR σ ρ base H w) (hf : Free ρ H.next H'.next) (hb : ∀ ρ', Le ρ ρ' → BR σ ρ' True L b (some o)) :
    H'.next = H.next + 1 ∧ ∃ ρ', Post σ ρ ρ' base H H' w (w.alloc o) ∧ ρ' id = some L := by
  obtain ⟨rfl, hlo, hk, hkl, hkn⟩ := nw_some h
  obtain ⟨ρ', x1, x2, x3, x4⟩ := hwr.new (L := L) (b := b) (hf H.next (Nat.le_refl _) (by omega)) (fun j bj Lj hj hLj => by rw [hL]; exact Nat.ne_of_lt (live_lt hwr hj hLj)) (by rw [hL]; exact hwr.base)
    (by rw [hL]; exact push_upd w o) (fun ρ' hle _ => hb ρ' hle) hk hkl hkn
  exact ⟨hkn, ρ', ⟨x1, x3, x4⟩, x2⟩
theorem enter_ok {rA r : Option Nat} {ps : Array Tmp} {as bo : Code} {d l : Nat} {ms : List Nat} {K : AHeap} (hr : RR ρ rA r) (h1 : enterA rA H = some ((d, ms), K)) (h2 : nw (.loop .ready none nt T ps.toList as bo d) K = some (l, H'))
    (hwr : WR σ ρ base H w) (hf : Free ρ H.next H'.next) (hT : TRel σ ρ nt T a.tmps) (fn : FuncId) :
    ∃ L mark w' ρ', (Instr.enterLoop fn a.tmps ps as bo r).run P w = .ok (L.blk, mark) w' ∧ Post σ ρ ρ' base H H' w w' ∧ ρ' l = some L ∧ DRel σ ρ' (ms.map .mark) mark := by
  cases rA with
  | none =>
    unfold RR at hr; subst hr
    obtain ⟨r0, K1, g1, g2⟩ := bd_some h1
    cases ret_some g2
    obtain ⟨_, _, _, _, n2⟩ := nw_some h2
    obtain ⟨n1, ρ1, p1, q1⟩ := newBlk_ok (σ := σ) (w := w) (o := .deferred (some [])) (L := ⟨w.heap.size, 0, 0⟩) rfl g1 hwr (hf.left (by omega)) (fun _ _ => rfl)
    obtain ⟨_, ρ2, p2, q2⟩ := newBlk_ok (σ := σ) (w := w.alloc (.deferred (some []))) (o := .loop { state := .ready, pending := none, fn, tmps := a.tmps, params := ps, assign := as, body := bo, defers := w.heap.size }) (L := ⟨w.heap.size + 1, 0, 0⟩) (by simp) h2 p1.wr (p1.ext.free hf (by omega))
      (fun ρ' hle => ⟨fn, a.tmps, ⟨w.heap.size, 0, 0⟩, hle _ _ q1, rfl, hT.mono (p1.ext.le.trans hle)⟩)
    refine ⟨⟨w.heap.size + 1, 0, 0⟩, _, _, ρ2, run_enterLoop_outer fn a.tmps ps as bo, p1.trans p2 (by omega) (by omega), q2, ?_⟩
    exact ⟨⟨w.heap.size, 0, 0⟩, [], p2.ext.le _ _ q1, rfl, rfl⟩
  | some l0 =>
    obtain ⟨L0, hL0, rfl⟩ := hr
    obtain ⟨blk, K1, g1, g2⟩ := bd_some h1
    obtain ⟨hb, e1, e2, e3⟩ := rd_some g1
    cases blk with
    | loop st pd nt2 T2 ps2 as2 bo2 d2 =>
      cases ret_some g2
      obtain ⟨L', hL', fn2, tm2, D, q1, q2, q3⟩ := hwr.blk l0 _ hb
      rw [hL0] at hL'; cases hL'
      obtain ⟨_, ρ2, p2, q4⟩ := newBlk_ok (σ := σ) (w := w) (o := .loop { state := .ready, pending := none, fn, tmps := a.tmps, params := ps, assign := as, body := bo, defers := D.blk }) (L := ⟨w.heap.size, 0, 0⟩) rfl h2 (hwr.log e1 e2) (by rw [e3]; exact hf)
        (fun ρ' hle => ⟨fn, a.tmps, D, hle _ _ q1, rfl, hT.mono hle⟩)
      refine ⟨⟨w.heap.size, 0, 0⟩, _, _, ρ2, run_enterLoop_inner q2 fn a.tmps ps as bo, ⟨by rw [← e3]; exact p2.ext, p2.wr, p2.below⟩, q4, rfl⟩
    | _ => exact (fail_some g2).elim
theorem rangeFunc_ok (hname : NoNum P) {rA : Option Nat} {x : Operand} {ps : Array Tmp} {as bo : Code} {ms : List Mk} {o : Out} (hco : CodeOK P n ih) (hc : CallOK P ih) (hfr : ∀ t, Fr (ih t)) (h : runCode P ih nt rA (.rangeFunc x ps as bo) T ms H = some (o, H')) :
    Goal P (n + 1) nt rA (.rangeFunc x ps as bo) T ms H o H' := by
  unfold runCode at h
  simp only at h
  generalize hx : ev T x = fv at h
  split at h
  · rename_i k first cap
    obtain ⟨hk, h⟩ := cond_some h
    obtain ⟨⟨d, ms0⟩, K1, h1, h⟩ := bd_some h
    obtain ⟨l, K2, h2, h⟩ := bd_some h
    obtain ⟨u, K3, h3, h⟩ := bd_some h
    obtain ⟨blk, K4, h4, h⟩ := bd_some h
    have h3 := outVal_some h3
    obtain ⟨hb4, e1, e2, e3⟩ := rd_some h4
    cases blk with
    | loop st pd nt2 T2 ps2 as2 bo2 d2 =>
      have hst : st ≠ .busy := by rintro rfl; exact fail_some (H := K4) h
      have h : bd (wr l (.loop .exhausted pd nt2 T2 ps2 as2 bo2 d2)) (fun _ => match pd with
          | none => ret (.exit .nrm T (ms0.map .mark ++ ms))
          | some c => ih (.code nt rA c T (ms0.map .mark ++ ms))) K4 = some (o, H') := by
        cases st <;> first | exact h | exact absurd rfl hst
      obtain ⟨u2, K5, h5, h⟩ := bd_some h
      have m1 : H.next ≤ K1.next := by obtain ⟨es, d, _⟩ := fr_enterA rA H _ K1 h1; exact d.next
      have m2 : K1.next ≤ K2.next := by obtain ⟨_, _, _, _, n2⟩ := nw_some h2; omega
      have m3 := next_of hfr h3
      have m5 : K5.next = K3.next := by obtain ⟨_, _, _, _, e4⟩ := wr_some h5; rw [e4, e3]
      have main : ∀ (e : AExit) (T' : Tmps) (ms' : List Mk) (m6 : K5.next ≤ H'.next), (∀ (σ : Nat → Value) (ρ : Ren) (base : Nat) (w : World) (a : Act) (r : Option Nat) (Q : Exit → Act → World → Prop), One σ → WR σ ρ base K5 w → Free ρ K5.next H'.next → TRel σ ρ nt T a.tmps → RR ρ rA r → DRel σ ρ (ms0.map .mark ++ ms) a.defers →
          (∀ a' w' ρ', CodePost σ ρ base nt K5 H' w T' ms' ρ' a' w' → Q (exitE e) a' w') → (match (generalizing := false) pd with | none => Q .normal a w | some c => c.wpIn (FR r) 0 P Q a w)) →
          ∀ (σ : Nat → Value) (ρ : Ren) (base : Nat) (w : World) (a : Act) (r : Option Nat) (Q : Exit → Act → World → Prop), One σ → WR σ ρ base H w → Free ρ H.next H'.next → TRel σ ρ nt T a.tmps → RR ρ rA r → DRel σ ρ ms a.defers →
            (∀ a' w' ρ', CodePost σ ρ base nt H H' w T' ms' ρ' a' w' → Q (exitE e) a' w') → ACode r (n + 1) P (.rangeFunc x ps as bo) Q a w := by
        intro e T' ms' m6 kk σ ρ base w a r Q hσ hwr hf hT hr hd hQ
        refine wpIn_rangeFunc fun fn _ => ?_
        obtain ⟨L, mark, w1, ρ1, a1, p1, q1, q2⟩ := enter_ok (P := P) (fn := fn) hr h1 h2 hwr (hf.left (by omega)) hT
        have hv := ev_rel (a := a) hx hT
        unfold Rel at hv
        obtain ⟨fs, cs, he, g1, g2⟩ := hv
        have hres : (resolve a.eval (rangeCall x L.blk) 0).run P w1 = .ok { target := .fn (.func k) cs, args := fs ++ #[.func (.yield L.blk) #[] #[]] } w1 := by
          have e1 : (#[Operand.const (.func (.yield L.blk) #[] #[])].map a.eval : Array Value) = #[.func (.yield L.blk) #[] #[]] := by simp [Act.eval]
          simp only [resolve, e1, he, Deferred.ofValue, Sem.run_pure]
        have hyl : Rel σ ρ1 (.yield l) (.func (.yield L.blk) #[] #[]) := by unfold Rel; exact ⟨L, q1, rfl⟩
        have hargs : RelL σ ρ1 (first ++ [.yield l] ++ cap) (fs ++ #[Value.func (.yield L.blk) #[] #[]] ++ cs).toList := by
          have := ((RelL.mono p1.ext.le _ _ g1).append (.cons hyl .nil)).append (RelL.mono p1.ext.le _ _ g2)
          simpa using this
        have hcall := hc k _ K2 u K3 h3 σ ρ1 base w1 _ hσ p1.wr ((p1.ext.free hf (by omega)).left (by omega)) hargs
        refine ⟨L.blk, mark, w1, _, w1, k, fs ++ #[Value.func (.yield L.blk) #[] #[]] ++ cs, w1, a1, hres, fun _ _ => trivial, ?_, fun h => by simp [FR, Fence.wide] at h, ?_⟩
        · simp only [invoke]
          exact isFn_run hname hk _ w1
        · have h5' : CallsIn (FR r) 0 P k (fs ++ #[Value.func (.yield L.blk) #[] #[]] ++ cs) w1 (ValPost σ ρ1 base K2 K3 w1 u) := hcall
          refine h5'.mono ?_
          rintro en w3 ⟨v', ρ3, rfl, p3, _⟩
          have hL3 : ρ3 l = some L := p3.ext.le _ _ q1
          obtain ⟨n5, rc, b1, b2, b3, b4, b5⟩ := turn_ok (p3.wr.log (K := K4) e1 e2) hL3 (by rw [e1]; exact hb4) h5
          refine ⟨pd, w3.putObj L.blk (.loop { rc with state := .exhausted }), by rw [← b3]; exact run_endLoop b1 (by rw [b2]; exact hst), ?_⟩
          have erc : { rc with state := LoopState.exhausted, pending := pd } = { rc with state := LoopState.exhausted } := by rw [← b3]
          rw [erc] at b4 b5
          have pall : Post σ ρ ρ3 base H K5 w (w3.putObj L.blk (.loop { rc with state := .exhausted })) :=
            ⟨by rw [m5]; exact (p1.trans p3 (by omega) (by omega)).ext, b4, ((p1.below.trans p3.below).trans b5)⟩
          refine kk σ ρ3 base _ { a with defers := mark ++ a.defers } r Q hσ b4 (pall.ext.free hf (by omega)) (hT.mono pall.ext.le) (hr.mono pall.ext.le) ((q2.mono p3.ext.le).append (hd.mono pall.ext.le)) ?_
          intro a' w' ρ' p'
          exact hQ a' w' ρ' ⟨pall.trans p'.post (by omega) (by omega), p'.tmps, p'.defers⟩
      cases pd with
      | none =>
        cases ret_some h
        refine ⟨.nrm, T, ms0.map .mark ++ ms, rfl, main .nrm T (ms0.map .mark ++ ms) (Nat.le_refl _) ?_⟩
        intro σ ρ base w a r Q hσ hwr hf hT hr hd hQ
        exact hQ a w ρ (.stay hwr hT hd)
      | some c =>
        have m6 := next_of hfr h
        obtain ⟨e, T', ms', rfl, kk⟩ := hco _ _ _ _ _ _ _ _ h
        exact ⟨e, T', ms', rfl, main e T' ms' m6 fun σ ρ base w a r Q hσ hwr hf hT hr hd hQ => (kk σ ρ base w a r Q hσ hwr hf hT hr hd hQ).wp⟩
    | _ => exact (fail_some h).elim
  · exact (fail_some h).elim
theorem runCode_ok (hm : P.follows .mixedOrders = true) (hname : NoNum P) (hco : CodeOK P n ih) (hc : CallOK P ih) (hro : RoundOK P ih) (hfr : ∀ t, Fr (ih t)) {rA : Option Nat} {c : Code} {ms : List Mk} {o : Out} (h : runCode P ih nt rA c T ms H = some (o, H')) :
    Goal P (n + 1) nt rA c T ms H o H' := by
  cases c with
  | skip =>
    cases ret_some h
    exact ⟨.nrm, T, ms, rfl, fun σ ρ base w a r Q hσ hwr hf hT hr hd hQ => wpIn_skip (hQ a w ρ (.stay hwr hT hd))⟩
  | exit id =>
    cases ret_some h
    exact ⟨.exit id, T, ms, rfl, fun σ ρ base w a r Q hσ hwr hf hT hr hd hQ => wpIn_exit (hQ a w ρ (.stay hwr hT hd))⟩
  | ret =>
    cases ret_some h
    exact ⟨.ret, T, ms, rfl, fun σ ρ base w a r Q hσ hwr hf hT hr hd hQ => wpIn_ret (hQ a w ρ (.stay hwr hT hd))⟩
  | region id ops draw => exact region_ok hm hname hc hro hfr h
  | seq x y => exact seq_ok hco hfr h
  | cond x y z => exact cond_ok hco h
  | block id c => exact block_ok hco h
  | loop c => exact loop_ok hco hfr h
  | rangeFunc x ps as bo => exact rangeFunc_ok hname hco hc hfr h
  | _ => exact (fail_some (H := H) h).elim
/-- what is taken as told is so -/
def ExtOK (P : Program) (X : Told) : Prop := FrX X ∧ ∀ (f : FuncId) (g : List AVal → M AVal), X f = some g → ∀ (args : List AVal) (H : AHeap) (v : AVal) (H' : AHeap), g args H = some (v, H') →
  ∀ (σ : Nat → Value) (ρ : Ren) (base : Nat) (w : World) (args' : Array Value), One σ → WR σ ρ base H w → Free ρ H.next H'.next → RelL σ ρ args args'.toList → CallsIn Fence.wide 0 P f args' w (ValPost σ ρ base H H' w v)
theorem extOK_none : ExtOK P noExt := ⟨frX_none, fun _ _ h => by cases h⟩
theorem run_ok (hm : P.follows .mixedOrders = true) (hname : NoNum P) {X : Told} (hX : ExtOK P X) : ∀ n, CodeOK P n (run P X n) ∧ CallOK P (run P X n) ∧ RoundOK P (run P X n) := by
  intro n
  induction n with
  | zero =>
    refine ⟨fun _ _ _ _ _ H _ _ h => (fail_some (H := H) h).elim, fun _ _ H _ _ h => (fail_some (H := H) h).elim, fun _ _ H _ _ h => (fail_some (H := H) h).elim⟩
  | succ n ih =>
    obtain ⟨h1, h2, h3⟩ := ih
    refine ⟨fun nt rA c T ms H o H' h => runCode_ok hm hname h1 h2 h3 (fr_run P hX.1 n) h, fun f args H v H' h σ ρ base w args' hσ hwr hf hr => ?_,
      fun l args H v H' h σ ρ base w args' L nx hσ hwr hf hL hr hy => runRound_ok h1 (fr_run P hX.1 n) h hσ hwr hf hL hr hy⟩
    have h : runStep P X (run P X n) (.call f args) H = some (Out.val v, H') := h
    cases hg : X f with
    | some g =>
      have e : runStep P X (run P X n) (.call f args) = bd (g args) fun v => ret (Out.val v) := by
        show (match X f with
          | some g => bd (g args) fun v => ret (Out.val v)
          | none => runCall P (run P X n) f args) = _
        rw [hg]
      rw [e] at h
      obtain ⟨v1, H1, h, h'⟩ := bd_some h
      cases ret_some h'
      exact hX.2 f g hg args H v H' h σ ρ base w args' hσ hwr hf hr
    | none =>
      have e : runStep P X (run P X n) (.call f args) = runCall P (run P X n) f args := by
        show (match X f with
          | some g => bd (g args) fun v => ret (Out.val v)
          | none => runCall P (run P X n) f args) = _
        rw [hg]
      rw [e] at h
      exact runCall_ok h1 (fr_run P hX.1 n) hname h hσ hwr hf hr
/-- the empty memory -/
def empty : AHeap := { blks := .nil, next := 0, lo := 0, log := [] }
/-- WHAT IS CALCULATED IS WHAT THE PROGRAM DOES -/
theorem calls_of_run (hm : P.follows .mixedOrders = true) (hname : NoNum P) {X : Told} (hX : ExtOK P X) {n : Nat} {f : FuncId} {args : List AVal} {v : AVal} {H H' : AHeap} (h : run P X n (.call f args) H = some (.val v, H')) (σ : Nat → Value) (hσ : One σ) (ρ : Ren) (w : World)
    (hwr : WR σ ρ w.heap.size H w) (hf : Free ρ H.next H'.next) (args' : Array Value) (hr : RelL σ ρ args args'.toList) :
    Calls P f args' w fun e w' => ∃ v' ρ', e = .returned v' ∧ Rel σ ρ' v v' ∧ WR σ ρ' w.heap.size H' w' ∧ Below w.heap.size w w' := by
  have := (run_ok hm hname hX n).2.1 f args H v H' h σ ρ w.heap.size w args' hσ hwr hf hr
  refine callsIn_wide.1 (this.mono ?_)
  rintro e w' ⟨v', ρ', rfl, p, hv⟩
  exact ⟨v', ρ', rfl, hv, p.wr, p.below⟩
theorem wr_empty {w : World} : WR σ (fun _ => none) w.heap.size empty w := by
  refine ⟨fun id b h => ?_, fun id b L h => ?_, fun i j bi bj Li Lj h => ?_, Nat.le_refl _⟩ <;> (rw [show empty.blks = .nil from rfl, Tr.get_nil] at h; cases h)
end
end Go.AM
namespace Go.AM
open Go Go.RowKit Go.ChangeShapes Go.WideShapes Go.ChangeAt
/-- a calculation that ends in 'true' -/
def isTrue : Option (Out × AHeap) → Bool
  | some (.val (.bool true), _) => true
  | _ => false
theorem isTrue_spec {r : Option (Out × AHeap)} (h : isTrue r = true) : ∃ H', r = some (.val (.bool true), H') := by
  unfold isTrue at h
  split at h
  · exact ⟨_, rfl⟩
  · cases h
def noNumB (P : Program) : Bool := P.funcs.toList.all fun fn => !(fn.name == "runtime.NumGoroutine")
theorem noNum_of {P : Program} (h : noNumB P = true) : NoNum P := by
  intro k fn hk e
  have hm : fn ∈ P.funcs.toList := Array.mem_def.1 (Array.mem_of_getElem? hk)
  have := List.all_eq_true.1 h fn hm
  simp [e] at this
theorem calls_true {P : Program} (hm : P.follows .mixedOrders = true) (hname : noNumB P = true) (n : Nat) {f : FuncId} (args : List AVal) (h : isTrue (run P noExt n (.call f args) empty) = true) (σ : Nat → Value) (hσ : One σ) (args' : Array Value) (hr : RelL σ (fun _ => none) args args'.toList) (w : World) :
    Calls P f args' w fun e w' => e = .returned (.bool true) ∧ Below w.heap.size w w' := by
  obtain ⟨H', h⟩ := isTrue_spec h
  refine (calls_of_run hm (noNum_of hname) extOK_none h σ hσ (fun _ => none) w wr_empty (fun _ _ _ => rfl) args' hr).mono ?_
  rintro e w' ⟨v', ρ', rfl, hv, _, hb⟩
  unfold Rel at hv
  rw [hv]
  exact ⟨rfl, hb⟩
theorem post_of_below {H : Type} {enc : TypeId × Value → H} {P : Program} {f : Func} {s : ChangeSpec} {apart fresh handsOn again : Bool} {W W' : World} {args : Array Value} {v : Value} {ds gs : List (DataW H)} {before pa pv : List MemPlace}
    (hW : DataW.Whole enc P f.params.toList s.vars apart W args.toList ds gs before) (hb : Below W.heap.size W W')
    (hres : ∀ (b : Nat) (sp : Nat → Bool) (hd : Bool), DataW.TrodAll enc P W' b sp hd f.resultTypes.toList (v.resultList f.resultTypes.size) (s.fn H (ds ++ gs)).results [])
    (hargs : ∀ sp : Nat → Bool, (∀ p ∈ before, sp p.block = true) → DataW.TrodAll enc P W' 0 sp true f.params.toList args.toList (s.fn H (ds ++ gs)).args pa)
    (hvars : ∀ sp : Nat → Bool, (∀ p ∈ before, sp p.block = true) → DataW.TrodVars enc P W' sp s.vars (s.fn H (ds ++ gs)).vars pv)
    (hps : before = pa ++ pv)
    (hok : ∀ (j : Nat) (t : TypeId) (r : Value), f.resultTypes[j]? = some t → (v.resultList f.resultTypes.size)[j]? = some r → Value.okWide P W' .any 0 t r) :
    s.post enc P f apart fresh handsOn again W args v W' := by
  have hold : ∀ p ∈ before, (fun b => decide (b < W.heap.size)) p.block = true := fun p hp => by simpa using hW.lt p hp
  have hlt := hW.lt
  refine ⟨ds, gs, before, [], pa, pv, hW, hres _ _ _, hargs _ hold, hvars _ hold, World.keptBut_mono (fun p hp => ⟨hp, ?_⟩) (hb.frame (· ∈ before)), fun _ => ?_⟩
  · rw [hps, List.mem_append] at hp
    exact Or.inr hp
  · obtain ⟨_, _, _, _, _, hz, hn⟩ := hW
    refine ⟨hok, _, _, ([] ++ pa) ++ pv, ⟨[] ++ pa, pv, trodAll_append (hargs _ (fun _ _ => rfl)) (hres _ _ _), hvars _ (fun _ _ => rfl), rfl, ?_, ?_⟩, ?_⟩
    · intro b off hp
      have hm : MemPlace.cell b off ∈ before := by rw [hps]; simpa using hp
      rw [hb.frozen (p := ⟨b, off, none⟩) (hlt _ hm)]
      exact hz b off hm
    · intro ha
      have := hn ha
      rw [hps] at this
      simpa using this
    · intro p hp _
      rw [hps]
      simpa using hp
end Go.AM
namespace Go.AM
open Go Go.RowKit
/-- arguments that are never looked into -/
def anyArgs (k : Nat) : List AVal := (List.range k).map fun i => AVal.opq (i + 1)
theorem calls_true_any {P : Program} (hm : P.follows .mixedOrders = true) (hname : noNumB P = true) (n : Nat) {f : FuncId} (l : List Value) (hl : l.all Value.oneCell' = true) (h : isTrue (run P noExt n (.call f (anyArgs l.length)) empty) = true) (w : World) :
    Calls P f l.toArray w fun e w' => e = .returned (.bool true) ∧ Below w.heap.size w w' := by
  refine calls_true hm hname n _ h (fun i => l.getD (i - 1) (.bool true)) ?_ l.toArray ?_ w
  · intro i
    show (l.getD (i - 1) (.bool true)).oneCell' = true
    rw [List.getD_eq_getElem?_getD]
    cases hi : l[i - 1]? with
    | none => rfl
    | some x => exact List.all_eq_true.1 hl x (List.mem_of_getElem? hi)
  · refine RelL.of_get (by simp [anyArgs]) fun i x y hx hy => ?_
    have : x = .opq (i + 1) := by
      simp only [anyArgs, List.getElem?_map, Option.map_eq_some_iff] at hx
      obtain ⟨j, hj, rfl⟩ := hx
      rw [List.getElem?_eq_some_iff] at hj
      obtain ⟨_, hj⟩ := hj
      simp at hj
      rw [hj]
    subst this
    unfold Rel
    have hy : l[i]? = some y := by simpa using hy
    show y = l.getD (i + 1 - 1) (.bool true)
    rw [Nat.add_sub_cancel]
    rw [List.getD_eq_getElem?_getD, hy]; rfl
end Go.AM
namespace Go.AM
open Go
/-! ### the same machine, laid for the kernel: small closed pieces, recursors in place of recursive equations -/
noncomputable section
/-- the way down to a number's place; a closed piece for each number -/
def path (i : Nat) : List Bool := Nat.rec (motive := fun _ => Nat → List Bool) (fun _ => []) (fun _ ih i => Nat.rec (motive := fun _ => List Bool) [] (fun j _ => Nat.beq (Nat.mod j 2) 0 :: ih (Nat.div j 2)) i) (Nat.succ i) i
def gStep {α : Type} (v : Option α) (gl gr : List Bool → Option α) (p : List Bool) : Option α :=
  List.rec (motive := fun _ => Option α) v (fun b p _ => Bool.rec (motive := fun _ => Option α) (gr p) (gl p) b) p
def gNil {α : Type} (_ : List Bool) : Option α := none
def Tr.getP {α : Type} (t : Tr α) : List Bool → Option α := Tr.rec (motive := fun _ => List Bool → Option α) gNil (fun v _ _ gl gr => gStep v gl gr) t
def Tr.getR {α : Type} (t : Tr α) (i : Nat) : Option α := t.getP (path i)
def pHere {α : Type} (x : Option α) (t : Tr α) : Tr α := Tr.rec (motive := fun _ => Tr α) (.node x .nil .nil) (fun _ l r _ _ => .node x l r) t
def pNil {α : Type} (ih : Tr α → Tr α) (b : Bool) : Tr α := Bool.rec (motive := fun _ => Tr α) (.node none .nil (ih .nil)) (.node none (ih .nil) .nil) b
def pNode {α : Type} (ih : Tr α → Tr α) (b : Bool) (v : Option α) (l r : Tr α) : Tr α := Bool.rec (motive := fun _ => Tr α) (.node v l (ih r)) (.node v (ih l) r) b
def pDown {α : Type} (ih : Tr α → Tr α) (b : Bool) (t : Tr α) : Tr α := Tr.rec (motive := fun _ => Tr α) (pNil ih b) (fun v l r _ _ => pNode ih b v l r) t
def Tr.putP {α : Type} (x : Option α) (p : List Bool) : Tr α → Tr α := List.rec (motive := fun _ => Tr α → Tr α) (pHere x) (fun b _ ih => pDown ih b) p
def Tr.putR {α : Type} (t : Tr α) (i : Nat) (x : Option α) : Tr α := Tr.putP x (path i) t
def pathF (f i : Nat) : List Bool := Nat.rec (motive := fun _ => Nat → List Bool) (fun _ => []) (fun _ ih i => Nat.rec (motive := fun _ => List Bool) [] (fun j _ => Nat.beq (Nat.mod j 2) 0 :: ih (Nat.div j 2)) i) f i
theorem pathF_succ (f j : Nat) : pathF (f + 1) (j + 1) = Nat.beq (j % 2) 0 :: pathF f (j / 2) := rfl
theorem pathF_zero (f : Nat) : pathF (f + 1) 0 = [] := rfl
theorem pathF_fuel : ∀ (f g i : Nat), i < f → i < g → pathF f i = pathF g i := by
  intro f
  induction f with
  | zero => intro g i h; omega
  | succ f ih =>
    intro g i hf hg
    cases g with
    | zero => omega
    | succ g =>
      cases i with
      | zero => rfl
      | succ j => rw [pathF_succ, pathF_succ, ih g (j / 2) (by omega) (by omega)]
theorem path_eq (i : Nat) : path i = pathF (i + 1) i := rfl
theorem path_succ (j : Nat) : path (j + 1) = Nat.beq (j % 2) 0 :: path (j / 2) := by
  rw [path_eq, pathF_succ, path_eq, pathF_fuel (j + 1) (j / 2 + 1) (j / 2) (by omega) (by omega)]
def Tr.listR {α : Type} (t : Tr α) (i : Nat) (l : List α) : Tr α := List.rec (motive := fun _ => Tr α → Nat → Tr α) (fun t _ => t) (fun x _ ih t i => ih (t.putR i (some x)) (Nat.succ i)) l t i
theorem Tr.getR_eq {α : Type} (t : Tr α) (i : Nat) : t.getR i = t.get i := by
  unfold Tr.getR
  induction t generalizing i with
  | nil => exact (Tr.get_nil i).symm
  | node v l r ihl ihr =>
    cases i with
    | zero => rfl
    | succ j =>
      rw [path_succ]
      show Bool.rec (motive := fun _ => Option α) (r.getP (path (j / 2))) (l.getP (path (j / 2))) (Nat.beq (j % 2) 0) = _
      simp only [Tr.get]
      cases Nat.beq (j % 2) 0
      · exact ihr _
      · exact ihl _
theorem Tr.putP_eq {α : Type} (x : Option α) : ∀ (f : Nat) (t : Tr α) (i : Nat), i < f → Tr.putP x (path i) t = Tr.setF f t i x := by
  intro f
  induction f with
  | zero => intro t i h; omega
  | succ f ih =>
    intro t i h
    cases i with
    | zero => cases t <;> rfl
    | succ j =>
      have h2 : j / 2 < f := by omega
      rw [path_succ]
      cases t with
      | nil =>
        show Bool.rec (motive := fun _ => Tr α) (.node none .nil (Tr.putP x (path (j / 2)) .nil)) (.node none (Tr.putP x (path (j / 2)) .nil) .nil) (Nat.beq (j % 2) 0) = cond (Nat.beq (j % 2) 0) (.node none (Tr.setF f .nil (j / 2) x) .nil) (.node none .nil (Tr.setF f .nil (j / 2) x))
        rw [ih .nil (j / 2) h2]
        cases Nat.beq (j % 2) 0 <;> rfl
      | node v l r =>
        show Bool.rec (motive := fun _ => Tr α) (.node v l (Tr.putP x (path (j / 2)) r)) (.node v (Tr.putP x (path (j / 2)) l) r) (Nat.beq (j % 2) 0) = cond (Nat.beq (j % 2) 0) (.node v (Tr.setF f l (j / 2) x) r) (.node v l (Tr.setF f r (j / 2) x))
        rw [ih l (j / 2) h2, ih r (j / 2) h2]
        cases Nat.beq (j % 2) 0 <;> rfl
theorem Tr.putR_eq {α : Type} (t : Tr α) (i : Nat) (x : Option α) : t.putR i x = t.put i x := Tr.putP_eq x (i + 1) t i (by omega)
theorem Tr.listR_eq {α : Type} (l : List α) : ∀ (t : Tr α) (i : Nat), t.listR i l = Tr.ofListAt t i l := by
  induction l with
  | nil => intro t i; rfl
  | cons x xs ih => intro t i; show Tr.listR _ _ xs = _; rw [ih, Tr.putR_eq]; rfl

def bdR {α β : Type} (m : Option (α × AHeap)) (f : α → AHeap → Option (β × AHeap)) : Option (β × AHeap) := Option.rec (motive := fun _ => Option (β × AHeap)) none (fun p => Prod.rec (motive := fun _ => Option (β × AHeap)) f p) m
theorem bdR_eq {α β : Type} (m : M α) (f : α → M β) (H : AHeap) : bdR (m H) (fun a H => f a H) = bd m f H := by
  unfold bd
  cases m H with
  | none => rfl
  | some p => rfl
theorem bdR_eq' {α β : Type} (m : M α) (f : α → M β) (H : AHeap) (g : α → AHeap → Option (β × AHeap)) (h : ∀ a K, g a K = f a K) : bdR (m H) g = bd m f H := by
  rw [← bdR_eq, show g = fun a K => f a K from funext fun a => funext fun K => h a K]
def orU (o : Option AVal) : Option AVal := Option.rec (motive := fun _ => Option AVal) (some .undef) some o
/-- an operand, laid once: the kernel keeps what a closed piece comes to -/
structure XB where
  f : Tmps → Option AVal
def xT (t : Nat) (T : Tmps) : Option AVal := orU (T.getR t)
def xK (o : Option AVal) (_ : Tmps) : Option AVal := o
def xb (x : Operand) : XB := match x with
  | .tmp t => ⟨xT t⟩
  | .const v => ⟨xK (ofV 2 v)⟩
  | .func f => ⟨xK (some (.fn (.func f) [] []))⟩
  | .global _ => ⟨xK none⟩
def evR (T : Tmps) (x : Operand) : Option AVal := XB.rec (motive := fun _ => Option AVal) (fun f => f T) (xb x)
theorem evR_eq (T : Tmps) (x : Operand) : evR T x = ev T x := by
  cases x with
  | tmp t => show orU (T.getR t) = _; rw [Tr.getR_eq]; unfold ev; simp only; cases T.get t <;> rfl
  | _ => rfl
def evsR (T : Tmps) (l : List Operand) : Option (List AVal) := List.rec (motive := fun _ => Option (List AVal)) (some []) (fun x _ ih => Option.rec (motive := fun _ => Option (List AVal)) none (fun v => Option.rec (motive := fun _ => Option (List AVal)) none (fun vs => some (v :: vs)) ih) (evR T x)) l
theorem evsR_eq (T : Tmps) (l : List Operand) : evsR T l = evs T l := by
  induction l with
  | nil => rfl
  | cons x xs ih =>
    show Option.rec (motive := fun _ => Option (List AVal)) none (fun v => Option.rec (motive := fun _ => Option (List AVal)) none (fun vs => some (v :: vs)) (evsR T xs)) (evR T x) = _
    rw [ih, evR_eq]
    cases h1 : ev T x with
    | none => simp [evs, h1]
    | some v => cases h2 : evs T xs <;> simp [evs, h1, h2]

/-! memory -/
def rdR (id : Nat) (H : AHeap) : Option (ABlk × AHeap) := AHeap.rec (motive := fun _ => Option (ABlk × AHeap)) (fun blks next lo log => Option.rec (motive := fun _ => Option (ABlk × AHeap)) none (fun b => some (b, ⟨blks, next, lo, (id, false) :: log⟩)) (blks.getR id)) H
theorem rdR_eq (id : Nat) (H : AHeap) : rdR id H = rd id H := by
  obtain ⟨blks, next, lo, log⟩ := H
  show Option.rec (motive := fun _ => Option (ABlk × AHeap)) none _ (blks.getR id) = _
  rw [Tr.getR_eq]
  unfold rd
  simp only
  cases blks.get id <;> rfl
def wrR (id : Nat) (b : ABlk) (H : AHeap) : Option (Unit × AHeap) := AHeap.rec (motive := fun _ => Option (Unit × AHeap)) (fun blks next lo log => Bool.rec (motive := fun _ => Option (Unit × AHeap)) none (Option.rec (motive := fun _ => Option (Unit × AHeap)) none (fun _ => some ((), ⟨blks.putR id (some b), next, lo, (id, true) :: log⟩)) (blks.getR id)) (Nat.ble lo id)) H
theorem wrR_eq (id : Nat) (b : ABlk) (H : AHeap) : wrR id b H = wr id b H := by
  obtain ⟨blks, next, lo, log⟩ := H
  show Bool.rec (motive := fun _ => Option (Unit × AHeap)) none (Option.rec (motive := fun _ => Option (Unit × AHeap)) none (fun _ => some ((), AHeap.mk (blks.putR id (some b)) next lo ((id, true) :: log))) (blks.getR id)) (Nat.ble lo id) = _
  rw [Tr.getR_eq, Tr.putR_eq]
  unfold wr
  simp only
  cases Nat.ble lo id with
  | false => rfl
  | true => cases blks.get id <;> rfl
def fN {β : Type} (k : Nat → β) (n : Nat) : β := Nat.rec (motive := fun _ => β) (k 0) (fun m _ => k (m + 1)) n
theorem fN_eq {β : Type} (k : Nat → β) (n : Nat) : fN k n = k n := by cases n <;> rfl
def fI {β : Type} (k : Int → β) (n : Int) : β := Int.rec (motive := fun _ => β) (fun a => fN (fun a => k (.ofNat a)) a) (fun a => fN (fun a => k (.negSucc a)) a) n
theorem fI_eq {β : Type} (k : Int → β) (n : Int) : fI k n = k n := by
  cases n with
  | ofNat a => exact fN_eq (fun a => k (.ofNat a)) a
  | negSucc a => exact fN_eq (fun a => k (.negSucc a)) a
def nwR (b : ABlk) (H : AHeap) : Option (Nat × AHeap) := AHeap.rec (motive := fun _ => Option (Nat × AHeap)) (fun blks next lo log => fN (fun n => Bool.rec (motive := fun _ => Option (Nat × AHeap)) none (some (n, ⟨blks.putR n (some b), Nat.succ n, lo, (n, true) :: log⟩)) (Nat.ble lo n)) next) H
theorem nwR_eq (b : ABlk) (H : AHeap) : nwR b H = nw b H := by
  obtain ⟨blks, next, lo, log⟩ := H
  unfold nwR nw
  simp only [frcN_eq, fN_eq, Tr.putR_eq]
  cases Nat.ble lo next <;> rfl
def oneB (v : AVal) : Bool := v.one
def allOneR (l : List AVal) : Bool := List.rec (motive := fun _ => Bool) true (fun v _ ih => Bool.rec (motive := fun _ => Bool) false ih v.one) l
theorem allOneR_eq (l : List AVal) : allOneR l = allOne l := by
  induction l with
  | nil => rfl
  | cons v vs ih =>
    show Bool.rec (motive := fun _ => Bool) false (allOneR vs) v.one = _
    rw [ih]
    cases h : v.one <;> simp [allOne, h]
def lenR (l : List AVal) : Nat := List.rec (motive := fun _ => Nat) 0 (fun _ _ ih => Nat.succ ih) l
theorem lenR_eq (l : List AVal) : lenR l = l.length := by
  induction l with
  | nil => rfl
  | cons v vs ih => show Nat.succ (lenR vs) = _; rw [ih]; rfl
def newCellsR (elem : TypeId) (cs : List AVal) (H : AHeap) : Option (Nat × AHeap) := Bool.rec (motive := fun _ => Option (Nat × AHeap)) none (nwR (.cells elem (Tr.listR .nil 0 cs) (lenR cs)) H) (allOneR cs)
theorem newCellsR_eq (elem : TypeId) (cs : List AVal) (H : AHeap) : newCellsR elem cs H = newCells elem cs H := by
  unfold newCellsR newCells
  rw [allOneR_eq, nwR_eq, Tr.listR_eq, lenR_eq]
  cases allOne cs <;> rfl
def cellsR (c : Tr AVal) (n : Nat) : Nat → Option (List AVal) := Nat.rec (motive := fun _ => Nat → Option (List AVal)) (fun _ => some []) (fun _ ih o => Option.rec (motive := fun _ => Option (List AVal)) none (fun v => Option.rec (motive := fun _ => Option (List AVal)) none (fun vs => some (v :: vs)) (ih (Nat.succ o))) (c.getR o)) n
theorem cellsR_eq (c : Tr AVal) (n : Nat) : ∀ o, cellsR c n o = cellsAt c o n := by
  induction n with
  | zero => intro o; rfl
  | succ n ih =>
    intro o
    show Option.rec (motive := fun _ => Option (List AVal)) none (fun v => Option.rec (motive := fun _ => Option (List AVal)) none (fun vs => some (v :: vs)) (cellsR c n (Nat.succ o))) (c.getR o) = _
    rw [ih, Tr.getR_eq]
    cases h1 : c.get o with
    | none => simp [cellsAt, h1]
    | some v => cases h2 : cellsAt c (o + 1) n <;> simp [cellsAt, h1, h2]
def cell1 (o : Nat) (b : ABlk) (H : AHeap) : Option (AVal × AHeap) := match b with
  | .cells _ c _ => Option.rec (motive := fun _ => Option (AVal × AHeap)) none (fun v => some (v, H)) (c.getR o)
  | _ => none
def cellN (o n : Nat) (b : ABlk) (H : AHeap) : Option (AVal × AHeap) := match b with
  | .cells _ c _ => Option.rec (motive := fun _ => Option (AVal × AHeap)) none (fun l => some (.agg l, H)) (cellsR c n o)
  | _ => none
/-- how a type is loaded: 0: not at all; 1: one cell; n + 2: n cells as one -/
def loadKind (P : Program) (t : TypeId) : Nat := match isAggT P t with
  | some true => match sz P t with
    | some n => n + 2
    | none => 0
  | some false => 1
  | none => 0
def loadS (b o : Nat) (H : AHeap) (k : Nat) : Option (AVal × AHeap) := Nat.rec (motive := fun _ => Option (AVal × AHeap)) none (fun k _ => Nat.rec (motive := fun _ => Option (AVal × AHeap)) (bdR (rdR b H) (cell1 o)) (fun n _ => bdR (rdR b H) (cellN o n)) k) k
def loadR (P : Program) (t : TypeId) (b o : Nat) (H : AHeap) : Option (AVal × AHeap) := loadS b o H (loadKind P t)
theorem loadR_eq (P : Program) (t : TypeId) (b o : Nat) (H : AHeap) : loadR P t b o H = loadA P t b o H := by
  unfold loadR loadKind loadA
  cases isAggT P t with
  | none => rfl
  | some g =>
    cases g with
    | true =>
      simp only
      cases sz P t with
      | none => rfl
      | some n =>
        show bdR (rdR b H) (cellN o n) = bd (loadCellsA b o n) (fun l => ret (.agg l)) H
        rw [rdR_eq]
        unfold loadCellsA bd
        cases rd b H with
        | none => rfl
        | some p =>
          obtain ⟨blk, K⟩ := p
          show cellN o n blk K = _
          cases blk with
          | cells e c m => simp only [cellN, cellsR_eq, lift]; cases cellsAt c o n <;> rfl
          | _ => rfl
    | false =>
      show bdR (rdR b H) (cell1 o) = bd (rd b) (fun blk => match blk with
        | .cells _ c _ => lift (c.get o)
        | _ => fail) H
      rw [rdR_eq]
      unfold bd
      cases rd b H with
      | none => rfl
      | some p =>
        obtain ⟨blk, K⟩ := p
        show cell1 o blk K = _
        cases blk with
        | cells e c m => simp only [cell1, Tr.getR_eq, lift]; cases c.get o <;> rfl
        | _ => rfl
def storeKZ (b o : Nat) (vs : List AVal) (blk : ABlk) (H : AHeap) : Option (Unit × AHeap) := match blk with
  | .cells e c n => Bool.rec (motive := fun _ => Option (Unit × AHeap)) none (wrR b (.cells e (Tr.listR c o vs) n) H) (Bool.rec (motive := fun _ => Bool) false (allOneR vs) (Nat.ble (Nat.add o (lenR vs)) n))
  | _ => none
def storeCellsR (b o : Nat) (vs : List AVal) (H : AHeap) : Option (Unit × AHeap) := bdR (rdR b H) (storeKZ b o vs)
theorem storeCellsR_eq (b o : Nat) (vs : List AVal) (H : AHeap) : storeCellsR b o vs H = storeCellsA b o vs H := by
  unfold storeCellsR storeCellsA bd
  rw [rdR_eq]
  cases rd b H with
  | none => rfl
  | some p =>
    obtain ⟨blk, K⟩ := p
    show storeKZ b o vs blk K = _
    cases blk with
    | cells e c n =>
      simp only [storeKZ, allOneR_eq, lenR_eq, wrR_eq, Tr.listR_eq]
      show Bool.rec (motive := fun _ => Option (Unit × AHeap)) none _ (Bool.rec (motive := fun _ => Bool) false (allOne vs) (Nat.ble (o + vs.length) n)) = _
      cases Nat.ble (o + vs.length) n with
      | false => rfl
      | true => cases allOne vs <;> rfl
    | _ => rfl
def storeP (n : Nat) (p : AVal) (cs : List AVal) (H : AHeap) : Option (Unit × AHeap) := match p with
  | .ptr b o => Bool.rec (motive := fun _ => Option (Unit × AHeap)) none (storeCellsR b o cs H) (Nat.beq (lenR cs) n)
  | _ => none
def storeR (P : Program) (t : TypeId) (p v : AVal) (H : AHeap) : Option (Unit × AHeap) := Option.rec (motive := fun _ => Option (Unit × AHeap)) none (fun n => storeP n p v.cells H) (sz P t)
theorem storeR_eq (P : Program) (t : TypeId) (p v : AVal) (H : AHeap) : storeR P t p v H = storeA P t p v H := by
  unfold storeR storeA
  cases sz P t with
  | none => cases p <;> rfl
  | some n =>
    show storeP n p v.cells H = _
    cases p with
    | ptr b o =>
      simp only [storeP, lenR_eq, storeCellsR_eq]
      cases Nat.beq v.cells.length n <;> rfl
    | _ => rfl

/-! operations -/
def vN (r : Option (AVal × AHeap)) : Option (ANext × AHeap) := bdR r fun v H => some (.val v, H)
theorem vN_eq (m : M AVal) (H : AHeap) : vN (m H) = bd m (fun x => ret (.val x)) H := bdR_eq m (fun x => ret (ANext.val x)) H
def uN (r : Option (Unit × AHeap)) : Option (ANext × AHeap) := bdR r fun _ H => some (.val .undef, H)
theorem uN_eq (m : M Unit) (H : AHeap) : uN (m H) = bd m (fun _ => ret (.val .undef)) H := bdR_eq m (fun _ => ret (ANext.val .undef)) H
def oN {α : Type} (o : Option α) (k : α → Option (ANext × AHeap)) : Option (ANext × AHeap) := Option.rec (motive := fun _ => Option (ANext × AHeap)) none k o
def lN (H : AHeap) (o : Option AVal) : Option (ANext × AHeap) := oN o fun b => some (.val b, H)
abbrev OpF := Program → Tmps → AHeap → Option (ANext × AHeap)
def oMove (x : Operand) : OpF := fun _ T H => lN H (evR T x)
def oPick (c a b : Operand) : OpF := fun _ T H => match evR T c with
  | some (.bool t) => cond t (lN H (evR T a)) (lN H (evR T b))
  | _ => none
def allocS (t : TypeId) (z : AVal) (H : AHeap) : Option (ANext × AHeap) := bdR (newCellsR t z.cells H) fun id H => some (.val (.ptr id 0), H)
def oAlloc (t : TypeId) : OpF := fun P _ H => oN (zeroA P t) fun z => allocS t z H
def oBox (t : TypeId) (x : Operand) : OpF := fun _ T H => oN (evR T x) fun v => allocS t v H
def oBuild (t : TypeId) (ps : Array (Nat × Operand)) : OpF := fun P T H => oN (evParts T ps.toList) fun l => lN H (buildA P t l)
def oBuildSlice (t : TypeId) (n : Nat) (ps : Array (Nat × Operand)) : OpF := fun P T H => oN (evParts T ps.toList) fun l => vN (buildSliceA P t n l H)
def loadV (P : Program) (t : TypeId) (H : AHeap) (p : AVal) : Option (ANext × AHeap) := match p with
  | .ptr b o => vN (loadR P t b o H)
  | _ => none
def oLoad (t : TypeId) (a : Operand) : OpF := match a with
  | .global g => fun P T H => opA P T (.load t (.global g)) H
  | a => fun P T H => oN (evR T a) (loadV P t H)
def oStore (t : TypeId) (a x : Operand) : OpF := fun P T H => oN (evR T a) fun p => oN (evR T x) fun v => uN (storeR P t p v H)
def oNil (x : Operand) : OpF := fun _ T H => oN (evR T x) fun a => lN H (nilCheckA a)
def cmpA (b : Bool) : Option AVal := some (.bool b)
def arI (k : IntKind) (n : Int) : Option AVal := fI (fun n => fI (fun n => some (.int k n)) (wrapK k n)) n
def arithSel (op : BinOp) : IntKind → Int → Int → Option AVal := match op with
  | .add => fun k x y => arI k (Int.add x y)
  | .sub => fun k x y => arI k (Int.sub x y)
  | .mul => fun k x y => arI k (Int.mul x y)
  | .eql => fun _ x y => cmpA (eqI x y)
  | .neq => fun _ x y => cmpA (!eqI x y)
  | .lss => fun _ x y => cmpA (ltI x y)
  | .leq => fun _ x y => cmpA (!ltI y x)
  | .gtr => fun _ x y => cmpA (ltI y x)
  | .geq => fun _ x y => cmpA (!ltI x y)
  | op => arith op
def binRest (op : BinOp) : Program → TypeId → Operand → Operand → AVal → AVal → Option AVal := match op with
  | .eql => fun P t x y a b => cond (guardPair P t x y a b) ((aEq P 30 t a b).map .bool) none
  | .neq => fun P t x y a b => cond (guardPair P t x y a b) ((aEq P 30 t a b).map fun r => .bool !r) none
  | _ => fun _ _ _ _ _ _ => none
def sameK (op : BinOp) (k : IntKind) (m : Int) (k' : IntKind) (n : Int) : Option AVal := cond (intKindEq k k') (arithSel op k m n) none
def intSel (op : BinOp) : IntKind → Int → IntKind → Int → Option AVal := match op with
  | .shl => fun k m _ n => shiftA .shl k m n
  | .shr => fun k m _ n => shiftA .shr k m n
  | op => sameK op
def binI (P : Program) (op : BinOp) (t : TypeId) (x y : Operand) (k : IntKind) (m : Int) (b : AVal) : Option AVal := match b with
  | .int k' n => intSel op k m k' n
  | b => binRest op P t x y (.int k m) b
def binF (P : Program) (op : BinOp) (t : TypeId) (x y : Operand) (a b : AVal) : Option AVal := match a with
  | .int k m => binI P op t x y k m b
  | a => binRest op P t x y a b
def oBin (op : BinOp) (t : TypeId) (x y : Operand) : OpF := fun P T H => oN (evR T x) fun a => oN (evR T y) fun b => lN H (binF P op t x y a b)
def oUn (op : UnOp) (x : Operand) : OpF := fun _ T H => oN (evR T x) fun a => lN H (unaryA op a)
def oConvert (s d : TypeId) (x : Operand) : OpF := fun P T H => oN (evR T x) fun a => lN H (convertA P s d a)
def oIface (t : TypeId) (x : Operand) : OpF := fun P T H => oN (evR T x) fun a => lN H (makeIfaceA P t a)
def oField (t : TypeId) (x : Operand) (f : Nat) : OpF := fun P T H => oN (evR T x) fun a => lN H (fieldA P t a f)
/-- where a field lies: none: nowhere -/
def offF (P : Program) (s : TypeId) (f : Nat) : Option Nat := match P.underlying s with
  | some (.struct fields) => match fields[f]? with
    | some fd => match sz P fd.type with
      | some (_ + 1) => some fd.offset
      | _ => none
    | none => none
  | _ => none
def addO (H : AHeap) (k : Nat) (p : AVal) : Option (ANext × AHeap) := match p with
  | .ptr b o => fN (fun q => some (.val (.ptr b q), H)) (Nat.add o k)
  | _ => none
def oFieldAddr (s : TypeId) (x : Operand) (f : Nat) : OpF := fun P T H => oN (evR T x) fun a => oN (offF P s f) fun k => addO H k a
def oIndexAddr (t : TypeId) (x i : Operand) : OpF := fun P T H => oN (evR T x) fun a => oN (evR T i) fun b => lN H (indexAddrA P t a b)
def oIndex (t : TypeId) (x i : Operand) : OpF := fun P T H => oN (evR T x) fun a => oN (evR T i) fun b => lN H (indexA P t a b)
def oAssert (x : Operand) (a : TypeId) (ok : Bool) : OpF := fun P T H => oN (evR T x) fun v => lN H (typeAssertA P v a ok)
def oExtract (x : Operand) (i : Nat) : OpF := fun _ T H => oN (evR T x) fun v => lN H (extractA v i)
def oMakeSlice (t : TypeId) (l c : Operand) : OpF := fun P T H => oN (evR T l) fun a => oN (evR T c) fun b => vN (makeSliceA P t a b H)
def oLookup (t : TypeId) (x k : Operand) (ok : Bool) : OpF := fun P T H => oN (evR T x) fun a => oN (evR T k) fun b => vN (lookupA P t a b ok H)
def cBuiltin (b : Builtin) (ts : Array TypeId) (as : Array Operand) : OpF := fun P T H => oN (evsR T as.toList) fun args => vN (builtinA P b ts.toList args H)
def invK (P : Program) (name : String) (args : List AVal) (H : AHeap) (r : AVal) : Option (ANext × AHeap) := match r with
  | .ifc t v => bd (methodA P t v name) (fun p => goA P p.1 (p.2 :: args)) H
  | _ => none
def cInvoke (r : Operand) (name : String) (as : Array Operand) : OpF := fun P T H => oN (evsR T as.toList) fun args => oN (evR T r) (invK P name args H)
def valK (P : Program) (args : List AVal) (H : AHeap) (r : AVal) : Option (ANext × AHeap) := match r with
  | .fn (.func k) first cap => goA P k (first ++ args ++ cap) H
  | .fn (.method name) [.ifc t v] _ => bd (methodA P t v name) (fun p => goA P p.1 (p.2 :: args)) H
  | .yield l => bd (rd l) (fun blk => match blk with
      | .loop _ _ _ _ ps _ _ _ => cond (Nat.beq ps.length args.length) (ret (.round l args)) fail
      | _ => fail) H
  | _ => none
def cValue (f : Operand) (as : Array Operand) : OpF := fun P T H => oN (evsR T as.toList) fun args => oN (evR T f) (valK P args H)
def oCall (c : Call) : OpF := match c with
  | ⟨.builtin b, as, ts⟩ => cBuiltin b ts as
  | ⟨.invoke r name, as, _⟩ => cInvoke r name as
  | ⟨.value f, as, _⟩ => cValue f as
def oFail : OpF := fun _ _ _ => none
structure OB where
  f : OpF
def opB (o : Op) : OB := match o with
  | .move x => ⟨oMove x⟩
  | .assign x => ⟨oMove x⟩
  | .pick c a b => ⟨oPick c a b⟩
  | .alloc t => ⟨oAlloc t⟩
  | .box t x => ⟨oBox t x⟩
  | .build t ps => ⟨oBuild t ps⟩
  | .buildSlice t n ps => ⟨oBuildSlice t n ps⟩
  | .load t a => ⟨oLoad t a⟩
  | .store t a x => ⟨oStore t a x⟩
  | .nilCheck x => ⟨oNil x⟩
  | .binOp op t x y _ => ⟨oBin op t x y⟩
  | .unOp op _ x => ⟨oUn op x⟩
  | .convert s d x => ⟨oConvert s d x⟩
  | .makeInterface t x => ⟨oIface t x⟩
  | .makeSlice t l c => ⟨oMakeSlice t l c⟩
  | .fieldAddr s x f => ⟨oFieldAddr s x f⟩
  | .field t x f => ⟨oField t x f⟩
  | .indexAddr t x i => ⟨oIndexAddr t x i⟩
  | .index t x i => ⟨oIndex t x i⟩
  | .typeAssert x _ a ok => ⟨oAssert x a ok⟩
  | .extract x i => ⟨oExtract x i⟩
  | .lookup t x k ok => ⟨oLookup t x k ok⟩
  | .call c => ⟨oCall c⟩
  | o => ⟨fun P T => opA P T o⟩
def opSel (o : Op) : OpF := fun P T H => OB.rec (motive := fun _ => Option (ANext × AHeap)) (fun f => f P T H) (opB o)
theorem lN_eq (H : AHeap) (o : Option AVal) : lN H o = bd (lift o) (fun x => ret (ANext.val x)) H := by cases o <;> rfl
theorem e1_l (x : Operand) (f : AVal → Option AVal) (T : Tmps) (H : AHeap) : (oN (evR T x) fun a => lN H (f a)) = (match ev T x with | some a => bd (lift (f a)) (fun x => ret (ANext.val x)) | none => fail) H := by
  rw [evR_eq]
  cases ev T x with
  | none => rfl
  | some a => exact lN_eq H (f a)
theorem e2_l (x y : Operand) (f : AVal → AVal → Option AVal) (T : Tmps) (H : AHeap) : (oN (evR T x) fun a => oN (evR T y) fun b => lN H (f a b)) = (match ev T x, ev T y with | some a, some b => bd (lift (f a b)) (fun x => ret (ANext.val x)) | _, _ => fail) H := by
  rw [evR_eq, evR_eq]
  cases ev T x with
  | none => rfl
  | some a =>
    cases ev T y with
    | none => rfl
    | some b => exact lN_eq H (f a b)
theorem e2_v (x y : Operand) (f : AVal → AVal → M AVal) (T : Tmps) (H : AHeap) : (oN (evR T x) fun a => oN (evR T y) fun b => vN (f a b H)) = (match ev T x, ev T y with | some a, some b => bd (f a b) (fun x => ret (ANext.val x)) | _, _ => fail) H := by
  rw [evR_eq, evR_eq]
  cases ev T x with
  | none => rfl
  | some a =>
    cases ev T y with
    | none => rfl
    | some b => exact vN_eq (f a b) H
theorem arI_eq (k : IntKind) (n : Int) : arI k n = some (.int k (wrapK k n)) := by unfold arI; rw [fI_eq, fI_eq]
theorem arithSel_eq (op : BinOp) (k : IntKind) (x y : Int) : arithSel op k x y = arith op k x y := by
  cases op <;> first | rfl | (simp only [arithSel, arI_eq, arith, frc_eq]; rfl)
theorem binF_eq (P : Program) (op : BinOp) (t : TypeId) (x y : Operand) (a b : AVal) : binF P op t x y a b = binA P op t x y a b := by
  cases a
  case int k m =>
    cases b
    case int k' n => cases op <;> simp only [binF, binI, intSel, sameK, binA, arithSel_eq] <;> rfl
    all_goals (cases op <;> rfl)
  all_goals (cases op <;> rfl)
theorem allocS_eq (t : TypeId) (z : AVal) (H : AHeap) : allocS t z H = bd (bd (newCells t z.cells) fun id => ret (.ptr id 0)) (fun x => ret (ANext.val x)) H := by
  unfold allocS bd
  rw [newCellsR_eq]
  cases newCells t z.cells H <;> rfl
theorem opSel_eq (P : Program) (T : Tmps) (H : AHeap) (o : Op) : opSel o P T H = opA P T o H := by
  cases o
  case move x => simp only [opSel, opB, oMove, opA, evR_eq]; cases ev T x <;> rfl
  case assign x => simp only [opSel, opB, oMove, opA, evR_eq]; cases ev T x <;> rfl
  case pick c a b =>
    simp only [opSel, opB, oPick, opA, evR_eq]
    generalize ev T c = v
    cases v with
    | none => rfl
    | some v =>
      cases v with
      | bool t =>
        cases t
        · simp only [cond_false]; cases ev T b <;> rfl
        · simp only [cond_true]; cases ev T a <;> rfl
      | _ => rfl
  case alloc t =>
    simp only [opSel, opB, oAlloc, opA, allocA]
    cases zeroA P t with
    | none => rfl
    | some z => exact allocS_eq t z H
  case box t x =>
    simp only [opSel, opB, oBox, opA, evR_eq]
    cases ev T x with
    | none => rfl
    | some v => exact allocS_eq t v H
  case build t ps =>
    simp only [opSel, opB, oBuild, opA]
    cases evParts T ps.toList with
    | none => rfl
    | some l => exact lN_eq H _
  case buildSlice t n ps =>
    simp only [opSel, opB, oBuildSlice, opA]
    cases evParts T ps.toList with
    | none => rfl
    | some l => exact vN_eq _ H
  case load t a =>
    by_cases hgl : ∃ g, a = .global g
    · obtain ⟨g, rfl⟩ := hgl
      rfl
    have hA : opA P T (.load t a) = (match ev T a with
      | some p => bd (match p with | .ptr b o => loadA P t b o | _ => fail) fun x => ret (.val x)
      | none => fail) := by cases a <;> first | exact absurd ⟨_, rfl⟩ hgl | rfl
    have hB : opSel (.load t a) P T H = oN (evR T a) (loadV P t H) := by cases a <;> first | exact absurd ⟨_, rfl⟩ hgl | rfl
    rw [hA, hB]
    simp only [evR_eq]
    cases ev T a with
    | none => rfl
    | some p =>
      cases p with
      | ptr b o => show vN (loadR P t b o H) = _; rw [loadR_eq]; exact vN_eq _ H
      | _ => rfl
  case store t a x =>
    simp only [opSel, opB, oStore, opA, evR_eq]
    cases ev T a with
    | none => rfl
    | some p =>
      cases ev T x with
      | none => rfl
      | some v => show uN (storeR P t p v H) = _; rw [storeR_eq]; exact uN_eq _ H
  case nilCheck x => exact e1_l x nilCheckA T H
  case binOp op t x y t2 =>
    have := e2_l x y (binA P op t x y) T H
    simp only [opSel, opB, oBin, binF_eq]
    exact this
  case unOp op t x => exact e1_l x (unaryA op) T H
  case convert s d x => exact e1_l x (convertA P s d) T H
  case makeInterface t x => exact e1_l x (makeIfaceA P t) T H
  case fieldAddr s x f =>
    have := e1_l x (fun a => fieldAddrA P s a f) T H
    refine Eq.trans ?_ this
    simp only [opSel, opB, oFieldAddr, evR_eq]
    cases ev T x with
    | none => rfl
    | some a =>
      show oN (offF P s f) (fun k => addO H k a) = lN H (fieldAddrA P s a f)
      cases a with
      | ptr b o =>
        unfold offF fieldAddrA
        cases hu : P.underlying s with
        | none => rfl
        | some d =>
          cases d with
          | struct fields =>
            simp only
            cases fields[f]? with
            | none => rfl
            | some fd =>
              simp only
              cases sz P fd.type with
              | none => rfl
              | some n =>
                cases n with
                | zero => rfl
                | succ n => simp only [frcN_eq, oN, addO, fN_eq]; rfl
          | _ => rfl
      | _ =>
        have : ∀ v : AVal, (∀ b o, v ≠ .ptr b o) → fieldAddrA P s v f = none := by
          intro v hv
          unfold fieldAddrA
          split
          · exact absurd rfl (hv _ _)
          · rfl
        rw [this _ (by intro b o h; cases h)]
        cases offF P s f <;> rfl
  case field t x f => exact e1_l x (fun a => fieldA P t a f) T H
  case indexAddr t x i => exact e2_l x i (indexAddrA P t) T H
  case index t x i => exact e2_l x i (indexA P t) T H
  case typeAssert x t a ok => exact e1_l x (fun v => typeAssertA P v a ok) T H
  case extract x i => exact e1_l x (fun v => extractA v i) T H
  case makeSlice t l c => exact e2_v l c (makeSliceA P t) T H
  case lookup t x k ok => exact e2_v x k (fun a b => lookupA P t a b ok) T H
  case call c =>
    obtain ⟨callee, as, ts⟩ := c
    cases callee with
    | value f =>
      simp only [opSel, opB, oCall, cValue, opA, callA, evR_eq, evsR_eq]
      cases evs T as.toList with
      | none => rfl
      | some args =>
        show oN (ev T f) (valK P args H) = _
        simp only
        generalize ev T f = v
        cases v with
        | none => rfl
        | some v =>
          show valK P args H v = _
          cases v with
          | fn f first cap =>
            cases f with
            | func k => rfl
            | method n =>
              cases first with
              | nil => rfl
              | cons y ys =>
                cases ys with
                | nil => cases y <;> rfl
                | cons z zs => cases y <;> rfl
            | _ => rfl
          | _ => rfl
    | invoke r n =>
      simp only [opSel, opB, oCall, cInvoke, opA, callA, evR_eq, evsR_eq]
      cases evs T as.toList with
      | none => rfl
      | some args =>
        show oN (ev T r) (invK P n args H) = _
        simp only
        cases ev T r with
        | none => rfl
        | some v => cases v <;> rfl
    | builtin b =>
      simp only [opSel, opB, oCall, cBuiltin, opA, callA, evsR_eq]
      cases evs T as.toList with
      | none => rfl
      | some args => exact vN_eq _ H
  all_goals rfl

/-! ### code -/
section
variable (P : Program) (ih : Task → M Out)
def outV (o : Out) (H : AHeap) : Option (AVal × AHeap) := match o with
  | .val v => some (v, H)
  | _ => none
def nextR (x : ANext) (H : AHeap) : Option (AVal × AHeap) := ANext.rec (motive := fun _ => Option (AVal × AHeap)) (fun v => some (v, H)) (fun f args => bdR (ih (.call f args) H) outV) (fun l args => bdR (ih (.round l args) H) outV) x
theorem nextR_eq (x : ANext) (H : AHeap) : nextR ih x H = nextA ih x H := by
  have key : ∀ t, bdR (ih t H) outV = outVal (ih t) H := fun t => by
    refine bdR_eq' (ih t) _ H outV fun o K => ?_
    cases o <;> rfl
  cases x with
  | val v => rfl
  | enter f args => exact key _
  | round l args => exact key _
def valR (all : List Oper) (op : Op) (g : Option (Nat × Bool)) (T : Tmps) (H : AHeap) : Option (AVal × AHeap) := Option.rec (motive := fun _ => Option (AVal × AHeap)) (bdR (opSel op P T H) (nextR ih)) (fun g => match wantedA all T (some g) with
  | some true => bdR (opSel op P T H) (nextR ih)
  | some false => some (.undef, H)
  | none => none) g
def setR (nt : Nat) (T : Tmps) (dst : Option Tmp) (v : AVal) (H : AHeap) : Option (Tmps × AHeap) := Option.rec (motive := fun _ => Option (Tmps × AHeap)) (some (T, H)) (fun d => Bool.rec (motive := fun _ => Option (Tmps × AHeap)) none (some (T.putR d (some v), H)) (Nat.ble (Nat.succ d) nt)) dst
def oneR (nt : Nat) (all : List Oper) (o : Oper) (T : Tmps) (H : AHeap) : Option (Tmps × AHeap) := Oper.rec (motive := fun _ => Option (Tmps × AHeap)) (fun dst op _ _ _ g => bdR (valR P ih all op g T H) (setR nt T dst)) o
theorem oneR_eq (nt : Nat) (all : List Oper) (o : Oper) (T : Tmps) (H : AHeap) : oneR P ih nt all o T H = oneOp P ih nt all o T H := by
  obtain ⟨dst, op, ty, pos, af, g⟩ := o
  have hop : ∀ K, bdR (opSel op P T K) (nextR ih) = bd (opA P T op) (nextA ih) K := fun K => by
    rw [opSel_eq]
    exact bdR_eq' (opA P T op) (nextA ih) K (nextR ih) (nextR_eq ih)
  have hv : valR P ih all op g T H = valOp P ih all ⟨dst, op, ty, pos, af, g⟩ T H := by
    cases g with
    | none => exact hop H
    | some g =>
      show (match wantedA all T (some g) with
        | some true => bdR (opSel op P T H) (nextR ih)
        | some false => some (.undef, H)
        | none => none) = _
      unfold valOp
      simp only
      cases wantedA all T (some g) with
      | none => rfl
      | some b => cases b with
        | true => exact hop H
        | false => rfl
  show bdR (valR P ih all op g T H) (setR nt T dst) = _
  rw [hv]
  refine bdR_eq' _ (fun v => lift (setT nt T dst v)) H _ fun v K => ?_
  cases dst with
  | none => rfl
  | some d =>
    show Bool.rec (motive := fun _ => Option (Tmps × AHeap)) none (some (T.putR d (some v), K)) (Nat.ble (d + 1) nt) = _
    rw [Tr.putR_eq]
    show _ = lift (cond (Nat.ble (d + 1) nt) (some (T.put d (some v))) none) K
    cases Nat.ble (d + 1) nt <;> rfl
def opsR (nt : Nat) (all l : List Oper) : Tmps → AHeap → Option (Tmps × AHeap) := List.rec (motive := fun _ => Tmps → AHeap → Option (Tmps × AHeap)) (fun T H => some (T, H)) (fun o _ k T H => bdR (oneR P ih nt all o T H) k) l
theorem opsR_eq (nt : Nat) (all : List Oper) : ∀ (l : List Oper) (T : Tmps) (H : AHeap), opsR P ih nt all l T H = opsA P ih nt all l T H
  | [], _, _ => rfl
  | o :: os, T, H => by
    show bdR (oneR P ih nt all o T H) (opsR P ih nt all os) = _
    rw [oneR_eq]
    exact bdR_eq' _ _ H _ fun T K => opsR_eq nt all os T K
def capR (r : Option (Tmps × AHeap)) (log : List (Nat × Bool)) : Option ((Tmps × List (Nat × Bool)) × AHeap) := bdR r fun T K => AHeap.rec (motive := fun _ => Option ((Tmps × List (Nat × Bool)) × AHeap)) (fun blks next lo l => some ((T, l), ⟨blks, next, lo, l ++ log⟩)) K
/-- what of the pairs is settled by the code alone -/
def pairOK (all : Array Oper) (o : Oper) (mk : Nat) : List Oper → Nat → Bool
  | [], _ => true
  | p :: ps, j => (Nat.testBit mk j || Oper.apart all p o) && pairOK all o mk ps (j + 1)
def staticOK (all : Array Oper) : List Oper → List Nat → List Oper → Bool
  | o :: os, mk :: mks, done => pairOK all o mk done 0 && staticOK all os mks (done ++ [o])
  | [], _, _ => true
  | _, _, _ => true
def freeOK (mk : Nat) (es : List (Nat × Bool)) (l : List (Nat × List (Nat × Bool))) : Bool := List.rec (motive := fun _ => Bool) true (fun p _ ih => Bool.rec (motive := fun _ => Bool) (Bool.rec (motive := fun _ => Bool) ih false (clash p.2 es)) ih (Nat.testBit mk p.1)) l
def idxE : List (Oper × List (Nat × Bool)) → Nat → List (Nat × List (Nat × Bool))
  | [], _ => []
  | p :: r, i => match p.2 with
    | [] => idxE r (i + 1)
    | e :: es => (i, e :: es) :: idxE r (i + 1)
theorem clash_nil : ∀ es : List (Nat × Bool), clash es [] = false
  | [] => rfl
  | e :: es => by unfold clash; rw [clash_nil es]; rfl
theorem against_free {all : Array Oper} {o : Oper} {mk : Nat} (es : List (Nat × Bool)) : ∀ (done : List (Oper × List (Nat × Bool))) (i : Nat), pairOK all o mk (done.map (·.1)) i = true → against all o mk es done i = freeOK mk es (idxE done i)
  | [], _, _ => rfl
  | (p, e) :: r, i, h => by
    simp only [List.map_cons] at h
    unfold pairOK at h
    simp only [Bool.and_eq_true, Bool.or_eq_true] at h
    have ih := against_free es r (i + 1) h.2
    unfold against idxE
    rw [ih]
    cases e with
    | nil =>
      simp only [clash, Bool.not_false, Bool.and_true]
      rcases h.1 with h1 | h1 <;> simp [h1]
    | cons e0 e =>
      show _ = Bool.rec (motive := fun _ => Bool) (Bool.rec (motive := fun _ => Bool) (freeOK mk es (idxE r (i + 1))) false (clash (e0 :: e) es)) (freeOK mk es (idxE r (i + 1))) (Nat.testBit mk i)
      cases ht : Nat.testBit mk i with
      | true => simp
      | false =>
        have h1 : Oper.apart all p o = true := by rcases h.1 with h1 | h1; rw [h1] at ht; cases ht; exact h1
        simp only [h1, Bool.false_or, Bool.true_and]
        cases clash (e0 :: e) es <;> simp
theorem against_nil {all : Array Oper} {o : Oper} {mk : Nat} : ∀ (done : List (Oper × List (Nat × Bool))) (i : Nat), pairOK all o mk (done.map (·.1)) i = true → against all o mk [] done i = true
  | [], _, _ => rfl
  | (p, e) :: r, i, h => by
    simp only [List.map_cons] at h
    unfold pairOK at h
    simp only [Bool.and_eq_true, Bool.or_eq_true] at h
    unfold against
    rw [against_nil r (i + 1) h.2, clash_nil]
    rcases h.1 with h1 | h1 <;> simp [h1]
theorem idxE_snoc (o : Oper) (e : List (Nat × Bool)) : ∀ (d : List (Oper × List (Nat × Bool))) (i : Nat), idxE (d ++ [(o, e)]) i = idxE d i ++ (match e with | [] => [] | a :: es => [(i + d.length, a :: es)])
  | [], i => by cases e <;> simp [idxE]
  | (p, e') :: d, i => by
    have := idxE_snoc o e d (i + 1)
    simp only [List.cons_append]
    unfold idxE
    rw [this]
    have hl : i + 1 + d.length = i + (d.length + 1) := by omega
    cases e' <;> cases e <;> simp [hl]
def eventK (os : List Nat → Nat → List (Nat × List (Nat × Bool)) → Tmps → AHeap → Option (Tmps × AHeap)) (mk : Nat) (mks : List Nat) (n : Nat) (done : List (Nat × List (Nat × Bool))) (T : Tmps) (H : AHeap) (es : List (Nat × Bool)) : Option (Tmps × AHeap) :=
  List.rec (motive := fun _ => Option (Tmps × AHeap)) (os mks (Nat.succ n) done T H) (fun _ _ _ => Bool.rec (motive := fun _ => Option (Tmps × AHeap)) none (os mks (Nat.succ n) (done ++ [(n, es)]) T H) (freeOK mk es done)) es
def stepDF (nt : Nat) (allL : List Oper) (o : Oper) (os : List Nat → Nat → List (Nat × List (Nat × Bool)) → Tmps → AHeap → Option (Tmps × AHeap)) (mks : List Nat) (n : Nat) (done : List (Nat × List (Nat × Bool))) (T : Tmps) (H : AHeap) : Option (Tmps × AHeap) :=
  List.rec (motive := fun _ => Option (Tmps × AHeap)) none (fun mk mks _ => AHeap.rec (motive := fun _ => Option (Tmps × AHeap)) (fun blks next lo log => bdR (oneR P ih nt allL o T ⟨blks, next, lo, []⟩) fun T K => AHeap.rec (motive := fun _ => Option (Tmps × AHeap)) (fun blks next lo l => eventK os mk mks n done T ⟨blks, next, lo, l ++ log⟩ l) K) H) mks
def opsDF (nt : Nat) (allL : List Oper) (l : List Oper) : List Nat → Nat → List (Nat × List (Nat × Bool)) → Tmps → AHeap → Option (Tmps × AHeap) :=
  List.rec (motive := fun _ => List Nat → Nat → List (Nat × List (Nat × Bool)) → Tmps → AHeap → Option (Tmps × AHeap)) (fun _ _ _ T H => some (T, H)) (fun o _ os => stepDF P ih nt allL o os) l
theorem opsDF_cons (nt : Nat) (allL : List Oper) (o : Oper) (os : List Oper) (mk : Nat) (mks : List Nat) (n : Nat) (d : List (Nat × List (Nat × Bool))) (T : Tmps) (b : Tr ABlk) (nx lo : Nat) (log : List (Nat × Bool)) :
    opsDF P ih nt allL (o :: os) (mk :: mks) n d T ⟨b, nx, lo, log⟩ = bdR (oneR P ih nt allL o T ⟨b, nx, lo, []⟩) (fun T K => AHeap.rec (motive := fun _ => Option (Tmps × AHeap)) (fun blks next lo l => eventK (opsDF P ih nt allL os) mk mks n d T ⟨blks, next, lo, l ++ log⟩ l) K) := rfl
theorem opsDF_eq (nt : Nat) (all : Array Oper) : ∀ (l : List Oper) (mks : List Nat) (done : List (Oper × List (Nat × Bool))) (T : Tmps) (H : AHeap), staticOK all l mks (done.map (·.1)) = true →
    opsDF P ih nt all.toList l mks done.length (idxE done 0) T H = opsD P ih nt all l mks done T H
  | [], _, _, _, _, _ => rfl
  | _ :: _, [], _, _, _, _ => rfl
  | o :: os, mk :: mks, done, T, H, hs => by
    unfold staticOK at hs
    simp only [Bool.and_eq_true] at hs
    obtain ⟨hp, hs⟩ := hs
    obtain ⟨blks, next, lo, log⟩ := H
    have e0 : opsD P ih nt all (o :: os) (mk :: mks) done T = bd (capture (oneOp P ih nt all.toList o T)) (fun r => cond (against all o mk r.2 done 0) (opsD P ih nt all os mks (done ++ [(o, r.2)]) r.1) fail) := by rw [opsD]
    rw [e0]
    rw [opsDF_cons, oneR_eq]
    unfold bd capture
    cases h1 : oneOp P ih nt all.toList o T ⟨blks, next, lo, []⟩ with
    | none => simp only [h1]; rfl
    | some p =>
      obtain ⟨T1, b1, n1, l1, g1⟩ := p
      simp only [h1]
      show eventK (opsDF P ih nt all.toList os) mk mks done.length (idxE done 0) T1 ⟨b1, n1, l1, g1 ++ log⟩ g1 = _
      have hs' : staticOK all os mks ((done ++ [(o, g1)]).map (·.1)) = true := by simpa using hs
      have ih2 := opsDF_eq nt all os mks (done ++ [(o, g1)]) T1 ⟨b1, n1, l1, g1 ++ log⟩ hs'
      rw [idxE_snoc] at ih2
      cases g1 with
      | nil =>
        rw [against_nil done 0 hp]
        simp only [List.append_nil, List.length_append, List.length_cons, List.length_nil] at ih2
        exact ih2
      | cons e es =>
        rw [against_free (e :: es) done 0 hp]
        simp only [Nat.zero_add, List.length_append, List.length_cons, List.length_nil] at ih2
        show Bool.rec (motive := fun _ => Option (Tmps × AHeap)) none (opsDF P ih nt all.toList os mks (Nat.succ done.length) (idxE done 0 ++ [(done.length, e :: es)]) T1 ⟨b1, n1, l1, (e :: es) ++ log⟩) (freeOK mk (e :: es) (idxE done 0)) = _
        cases freeOK mk (e :: es) (idxE done 0) with
        | false => rfl
        | true => exact ih2
def opsDR (nt : Nat) (ops : Array Oper) (T : Tmps) (H : AHeap) : Option (Tmps × AHeap) := cond (staticOK ops ops.toList (masks ops.toList []) []) (opsDF P ih nt ops.toList ops.toList (masks ops.toList []) 0 [] T H) (opsD P ih nt ops ops.toList (masks ops.toList []) [] T H)
theorem opsDR_eq (nt : Nat) (ops : Array Oper) (T : Tmps) (H : AHeap) : opsDR P ih nt ops T H = opsD P ih nt ops ops.toList (masks ops.toList []) [] T H := by
  unfold opsDR
  cases hs : staticOK ops ops.toList (masks ops.toList []) [] with
  | false => rfl
  | true => exact opsDF_eq P ih nt ops ops.toList (masks ops.toList []) [] T H hs
end
abbrev CodeF := Program → (Task → M Out) → Nat → Option Nat → Tmps → List Mk → AHeap → Option (Out × AHeap)
def nrmO (ms : List Mk) (r : Option (Tmps × AHeap)) : Option (Out × AHeap) := bdR r fun T H => some (.exit .nrm T ms, H)
def cSkip : CodeF := fun _ _ _ _ T ms H => some (.exit .nrm T ms, H)
def defS (P : Program) (ms : List Mk) (c : Call) (T : Tmps) (H : AHeap) : Option (Out × AHeap) := match deferA P T c with
  | some m => some (.exit .nrm T (m :: ms), H)
  | none => none
def cRegion (ops : Array Oper) (draw : Bool) : CodeF := match draw with
  | false => match deferOf ops.toList with
    | none => fun P ih nt _ T ms H => nrmO ms (opsR P ih nt ops.toList ops.toList T H)
    | some p => fun P ih nt rnd T ms H => match rnd with
      | none => bdR (opsR P ih nt ops.toList p.1 T H) (defS P ms p.2)
      | some _ => none
  | true => fun P ih nt _ T ms H => nrmO ms (cond (regionOk ops.toList) (opsDR P ih nt ops T H) none)
def seqK (ih : Task → M Out) (nt : Nat) (rnd : Option Nat) (b : Code) (o : Out) (H : AHeap) : Option (Out × AHeap) := match o with
  | .exit .nrm T ms => ih (.code nt rnd b T ms) H
  | o => some (o, H)
def cSeq (a b : Code) : CodeF := fun _ ih nt rnd T ms H => bdR (ih (.code nt rnd a T ms) H) (seqK ih nt rnd b)
def cCond (c : Operand) (a b : Code) : CodeF := fun _ ih nt rnd T ms H => match evR T c with
  | some (.bool t) => ih (.code nt rnd (cond t a b) T ms) H
  | _ => none
def blockK (id : Nat) (o : Out) (H : AHeap) : Option (Out × AHeap) := match o with
  | .exit (.exit id') T ms => cond (Nat.beq id' id) (some (.exit .nrm T ms, H)) (some (.exit (.exit id') T ms, H))
  | o => some (o, H)
def cBlock (id : Nat) (b : Code) : CodeF := fun _ ih nt rnd T ms H => bdR (ih (.code nt rnd b T ms) H) (blockK id)
def cLoop (b : Code) : CodeF := fun _ ih nt rnd T ms H => match mapStep b with
    | some s => mapLoop ih nt rnd s T ms H
    | none => bdR (ih (.code nt rnd b T ms) H) (seqK ih nt rnd (.loop b))
def cExit (id : Nat) : CodeF := fun _ _ _ _ T ms H => some (.exit (.exit id) T ms, H)
def cRet : CodeF := fun _ _ _ _ T ms H => some (.exit .ret T ms, H)
structure CB where
  f : CodeF
def codeB (c : Code) : CB := match c with
  | .skip => ⟨cSkip⟩
  | .region _ ops draw => ⟨cRegion ops draw⟩
  | .seq a b => ⟨cSeq a b⟩
  | .cond c a b => ⟨cCond c a b⟩
  | .block id b => ⟨cBlock id b⟩
  | .loop b => ⟨cLoop b⟩
  | .exit id => ⟨cExit id⟩
  | .ret => ⟨cRet⟩
  | c => ⟨fun P ih nt rnd T ms => runCode P ih nt rnd c T ms⟩
def codeSel (c : Code) : CodeF := fun P ih nt rnd T ms H => CB.rec (motive := fun _ => Option (Out × AHeap)) (fun f => f P ih nt rnd T ms H) (codeB c)
theorem seqK_eq (ih : Task → M Out) (nt : Nat) (rnd : Option Nat) (b : Code) (o : Out) (H : AHeap) : seqK ih nt rnd b o H = (match (generalizing := false) o with
    | .exit .nrm T ms => ih (.code nt rnd b T ms)
    | o => ret o) H := by
  cases o with
  | val v => rfl
  | exit e T ms => cases e <;> rfl
theorem codeSel_eq (P : Program) (ih : Task → M Out) (nt : Nat) (rnd : Option Nat) (c : Code) (T : Tmps) (ms : List Mk) (H : AHeap) : codeSel c P ih nt rnd T ms H = runCode P ih nt rnd c T ms H := by
  cases c
  case region id ops draw =>
    cases draw with
    | false =>
      have e1 : runCode P ih nt rnd (.region id ops false) T ms = (match deferOf ops.toList with
        | some p => match (generalizing := false) rnd with
          | none => bd (opsA P ih nt ops.toList p.1 T) fun T => match deferA P T p.2 with
            | some m => ret (.exit .nrm T (m :: ms))
            | none => fail
          | some _ => fail
        | none => bd (opsA P ih nt ops.toList ops.toList T) fun T => ret (.exit .nrm T ms)) := rfl
      have e2 : codeSel (.region id ops false) P ih nt rnd T ms H = (match deferOf ops.toList with
        | none => fun P ih nt _ T ms H => nrmO ms (opsR P ih nt ops.toList ops.toList T H)
        | some p => fun P ih nt rnd T ms H => match rnd with
          | none => bdR (opsR P ih nt ops.toList p.1 T H) (defS P ms p.2)
          | some _ => none : CodeF) P ih nt rnd T ms H := rfl
      rw [e1, e2]
      cases deferOf ops.toList with
      | some p =>
        cases rnd with
        | some _ => rfl
        | none =>
          show bdR (opsR P ih nt ops.toList p.1 T H) (defS P ms p.2) = _
          rw [opsR_eq]
          refine bdR_eq' (opsA P ih nt ops.toList p.1 T) _ H _ fun T K => ?_
          unfold defS
          cases deferA P T p.2 <;> rfl
      | none =>
      show nrmO ms (opsR P ih nt ops.toList ops.toList T H) = bd (opsA P ih nt ops.toList ops.toList T) (fun T => ret (.exit .nrm T ms)) H
      rw [opsR_eq]
      exact bdR_eq (opsA P ih nt ops.toList ops.toList T) (fun T => ret (Out.exit .nrm T ms)) H
    | true =>
      show nrmO ms (cond (regionOk ops.toList) (opsDR P ih nt ops T H) none) = bd (cond (regionOk ops.toList) (opsD P ih nt ops ops.toList (masks ops.toList []) [] T) fail) (fun T => ret (.exit .nrm T ms)) H
      rw [opsDR_eq, ← bdR_eq]
      unfold nrmO
      cases regionOk ops.toList <;> rfl
  case seq a b => exact bdR_eq' (ih (.code nt rnd a T ms)) _ H _ fun o K => seqK_eq ih nt rnd b o K
  case cond c a b =>
    show (match evR T c with
      | some (.bool t) => ih (.code nt rnd (cond t a b) T ms) H
      | _ => none) = _
    rw [evR_eq]
    unfold runCode
    simp only
    generalize ev T c = v
    cases v with
    | none => rfl
    | some v => cases v <;> rfl
  case block id b =>
    refine bdR_eq' (ih (.code nt rnd b T ms)) _ H _ fun o K => ?_
    cases o with
    | val v => rfl
    | exit e T ms =>
      cases e with
      | exit id' => show cond (Nat.beq id' id) _ _ = _; cases h : Nat.beq id' id <;> simp only [h] <;> rfl
      | _ => rfl
  case loop b =>
    show (match mapStep b with
      | some s => mapLoop ih nt rnd s T ms H
      | none => bdR (ih (.code nt rnd b T ms) H) (seqK ih nt rnd (.loop b))) = _
    unfold runCode
    simp only
    cases mapStep b with
    | some s => rfl
    | none => exact bdR_eq' (ih (.code nt rnd b T ms)) _ H _ fun o K => seqK_eq ih nt rnd (.loop b) o K
  all_goals rfl
def resR (P : Program) (T : Tmps) (l : List ResultVar) : AHeap → Option (List AVal × AHeap) := resultsA P T l
def endCall (P : Program) (ih : Task → M Out) (rs : List ResultVar) (o : Out) (H : AHeap) : Option (Out × AHeap) := match o with
  | .exit (.exit _) _ _ => none
  | .exit _ T ms => bd (takeMarks P ih ms) (fun _ => bd (resultsA P T rs) fun vs => ret (.val (oneV vs))) H
  | _ => none
def callS (P : Program) (ih : Task → M Out) (args : List AVal) (fn : Func) (c : Code) (H : AHeap) : Option (Out × AHeap) := cond (Nat.ble (lenR args) fn.ntmps) (bdR (ih (.code fn.ntmps none c (Tr.listR .nil 0 args) []) H) (endCall P ih fn.results.toList)) none
def callR (P : Program) (ih : Task → M Out) (f : FuncId) (args : List AVal) (H : AHeap) : Option (Out × AHeap) := match P.funcs[f]? with
  | some fn => match fn.body with
    | some c => callS P ih args fn c H
    | none => none
  | none => none
theorem callR_eq (P : Program) (ih : Task → M Out) (f : FuncId) (args : List AVal) (H : AHeap) : callR P ih f args H = runCall P ih f args H := by
  unfold callR runCall
  cases P.funcs[f]? with
  | none => rfl
  | some fn =>
    simp only
    cases fn.body with
    | none => rfl
    | some c =>
      simp only [callS, lenR_eq, Tr.listR_eq]
      cases Nat.ble args.length fn.ntmps with
      | false => rfl
      | true =>
        simp only [cond_true]
        refine bdR_eq' (ih (.code fn.ntmps none c (Tr.ofListAt .nil 0 args) [])) _ H _ fun o K => ?_
        cases o with
        | val v => rfl
        | exit e T ms => cases e <;> rfl
def stepR (P : Program) (X : Told) (ih : Task → M Out) (t : Task) : M Out := match t with
  | .code nt rnd c T ms => codeSel c P ih nt rnd T ms
  | .call f args => match X f with
    | some g => bd (g args) fun v => ret (.val v)
    | none => callR P ih f args
  | .round l args => runRound ih l args
def runR (P : Program) (X : Told) (n : Nat) : Task → M Out := Nat.rec (motive := fun _ => Task → M Out) (fun _ _ => none) (fun _ ih => stepR P X ih) n
theorem runR_eq (P : Program) (X : Told) : ∀ (n : Nat) (t : Task), runR P X n t = run P X n t
  | 0, _ => rfl
  | n + 1, t => by
    have : runR P X n = run P X n := funext fun t => runR_eq P X n t
    show stepR P X (runR P X n) t = runStep P X (run P X n) t
    rw [this]
    cases t with
    | code nt rnd c T ms => exact funext fun H => codeSel_eq P _ nt rnd c T ms H
    | call f args =>
      show (match X f with
        | some g => bd (g args) fun v => ret (Out.val v)
        | none => callR P (run P X n) f args) = (match X f with
        | some g => bd (g args) fun v => ret (Out.val v)
        | none => runCall P (run P X n) f args)
      rw [show callR P (run P X n) f args = runCall P (run P X n) f args from funext fun H => callR_eq _ _ _ _ _]
    | round => rfl
end
end Go.AM
