/- Part A3 of a calculus over a small memory that is proved to answer as the program does, and of its use for the functions that the law reaches: see the last part. -/
import Derived.Test.YtboddampdcalfaaA2
import Derived.RangeFuncLeaves
import Derived.RangeFuncNested
import Derived.LoopNIn
import Derived.ProofKit
import Derived.OpenShut
namespace Go.AM
open Go Go.RowKit
section
variable {P : Program} {σ : Nat → Value} {base nt : Nat} {ih : Task → M Out}

/-- what one operation did, in text order: it does so wherever what it touches is as it was -/
structure Did (P : Program) (ih : Task → M Out) (nt : Nat) (all : List Oper) (o : Oper) (T : Tmps) (H : AHeap) (v : AVal) (e : List (Nat × Bool)) (T' : Tmps) (H' : AHeap) : Prop where
  set : setT nt T o.dst v = some T'
  does : Does e H H'
  fr : ∀ H2 : AHeap, H2.next = H.next → H2.lo = H.lo → (∀ id b, (id, b) ∈ e → H2.blks.get id = H.blks.get id) →
    ∃ H2', valOp P ih all o T H2 = some (v, H2') ∧ Does e H2 H2' ∧ H2'.next = H'.next ∧ ∀ id b, (id, b) ∈ e → H2'.blks.get id = H'.blks.get id
theorem did_of {all : List Oper} {o : Oper} {T T' : Tmps} {H H' : AHeap} {e : List (Nat × Bool)} (hfr : ∀ t, Fr (ih t)) (h : capture (oneOp P ih nt all o T) H = some ((T', e), H')) :
    ∃ v, Did P ih nt all o T H v e T' H' := by
  obtain ⟨d, ⟨K, h1, h2, h3, h4⟩, _⟩ := capture_spec (fr_oneOp P hfr nt all o T) h
  obtain ⟨v, h5, h6⟩ := oneOp_some h1
  obtain ⟨e', d', k⟩ := fr_valOp P hfr all o T _ v K h5
  have he : e' = e := by
    have a1 : K.log = e' := by simpa using d'.log
    unfold capture at h
    rw [h1] at h
    simp only [Option.some.injEq, Prod.mk.injEq] at h
    rw [← a1]; exact h.1.2
  subst he
  refine ⟨v, h6, d, fun H2 hn hl hag => ?_⟩
  obtain ⟨H2', e2, d2, n2, g2⟩ := k H2 hn (Nat.le_of_eq hl) hag
  exact ⟨H2', e2, d2, n2.trans h3, fun id b hb => by rw [g2 id b hb, h2]⟩
def Sep (all : Array Oper) (mk i : Nat) (p o : Oper) (e f : List (Nat × Bool)) : Prop := Nat.testBit mk i = true ∨ (Oper.apart all p o = true ∧ clash e f = false)
theorem trace {all : Array Oper} (hfr : ∀ t, Fr (ih t)) : ∀ (os : List Oper) (mks : List Nat) (done : List (Oper × List (Nat × Bool))) (k : Nat) (T : Tmps) (H : AHeap) (T' : Tmps) (H' : AHeap), done.length = k →
    opsD P ih nt all os mks done T H = some (T', H') →
    ∃ (Ts : Nat → Tmps) (Hs : Nat → AHeap) (vs : Nat → AVal) (es : Nat → List (Nat × Bool)), Ts k = T ∧ Hs k = H ∧ Ts (k + os.length) = T' ∧ Hs (k + os.length) = H' ∧
      ∀ j o, os[j]? = some o → Did P ih nt all.toList o (Ts (k + j)) (Hs (k + j)) (vs (k + j)) (es (k + j)) (Ts (k + j + 1)) (Hs (k + j + 1)) ∧
        ∃ mk, mks[j]? = some mk ∧ (∀ i p, done[i]? = some p → Sep all mk i p.1 o p.2 (es (k + j))) ∧ (∀ i p, i < j → os[i]? = some p → Sep all mk (k + i) p o (es (k + i)) (es (k + j))) := by
  intro os
  induction os with
  | nil =>
    intro mks done k T H T' H' hk h
    cases ret_some h
    exact ⟨fun _ => T, fun _ => H, fun _ => .undef, fun _ => [], rfl, rfl, rfl, rfl, fun j o h => by simp at h⟩
  | cons o os ih2 =>
    intro mks done k T H T' H' hk h
    cases mks with
    | nil => exact (fail_some h).elim
    | cons mk mks =>
      obtain ⟨⟨T1, e⟩, H1, h1, h2⟩ := bd_some h
      obtain ⟨h3, h4⟩ := cond_some h2
      obtain ⟨v, hd⟩ := did_of hfr h1
      obtain ⟨Ts, Hs, vs, es, a1, a2, a3, a4, a5⟩ := ih2 mks (done ++ [(o, e)]) (k + 1) T1 H1 T' H' (by simp [hk]) h4
      refine ⟨fun j => if j = k then T else Ts j, fun j => if j = k then H else Hs j, fun j => if j = k then v else vs j, fun j => if j = k then e else es j, if_pos rfl, if_pos rfl, ?_, ?_, ?_⟩
      · show (if _ then _ else _) = _
        rw [if_neg (by simp)]
        rw [← a3]; congr 1; simp; omega
      · show (if _ then _ else _) = _
        rw [if_neg (by simp)]
        rw [← a4]; congr 1; simp; omega
      · intro j q hq
        cases j with
        | zero =>
          simp at hq; subst hq
          simp only [Nat.add_zero, if_true, if_neg (show ¬ k + 1 = k by omega), a1, a2]
          exact ⟨hd, mk, rfl, fun i p hp => by have := against_spec done 0 h3 i p hp; simpa [Sep] using this, fun i p hi => by omega⟩
        | succ j =>
          simp at hq
          have e1 : k + (j + 1) = k + 1 + j := by omega
          obtain ⟨b1, mk', b2, b3, b4⟩ := a5 j q hq
          simp only [e1, if_neg (show ¬ k + 1 + j = k by omega), if_neg (show ¬ k + 1 + j + 1 = k by omega)]
          refine ⟨b1, mk', by simpa using b2, fun i p hp => b3 i p ?_, fun i p hi hp => ?_⟩
          · rw [List.getElem?_append_left (List.getElem?_eq_some_iff.1 hp).1]; exact hp
          · cases i with
            | zero =>
              simp at hp; subst hp
              simp only [Nat.add_zero, if_true]
              have := b3 k (o, e) (by simp [← hk])
              exact this
            | succ i =>
              simp at hp
              have e2 : k + (i + 1) = k + 1 + i := by omega
              simp only [e2, if_neg (show ¬ k + 1 + i = k by omega)]
              exact b4 i p (by omega) hp
end
end Go.AM
namespace Go.AM
open Go Go.RowKit
section
variable {P : Program} {σ : Nat → Value} {base nt : Nat} {ih : Task → M Out}

/-- the whole of a drawn region's work in text order -/
structure Trace (P : Program) (ih : Task → M Out) (nt : Nat) (ops : Array Oper) (Ts : Nat → Tmps) (Hs : Nat → AHeap) (vs : Nat → AVal) (es : Nat → List (Nat × Bool)) : Prop where
  did : ∀ j o, ops[j]? = some o → Did P ih nt ops.toList o (Ts j) (Hs j) (vs j) (es j) (Ts (j + 1)) (Hs (j + 1))
  back : ∀ (j : Nat) (o : Oper), ops[j]? = some o → ∀ e ∈ o.after, Region.binds .any e = true → e.on < j
  sep : ∀ i j p o, i < j → ops[i]? = some p → ops[j]? = some o → ∃ mk, (masks ops.toList [])[j]? = some mk ∧ Sep ops mk i p o (es i) (es j)
/-- what a block holds, and a slot, when those of the set have been done -/
noncomputable def cut (Hs : Nat → AHeap) (es : Nat → List (Nat × Bool)) (X : Nat → Prop) : Nat → Nat → Option ABlk
  | 0, id => (Hs 0).blks.get id
  | j + 1, id => by
    classical
    exact if X j ∧ (id, true) ∈ es j then (Hs (j + 1)).blks.get id else cut Hs es X j id
noncomputable def cutT (ops : Array Oper) (Ts : Nat → Tmps) (vs : Nat → AVal) (X : Nat → Prop) : Nat → Nat → AVal
  | 0, t => tget (Ts 0) t
  | j + 1, t => by
    classical
    exact if X j ∧ ((ops[j]?).bind (·.dst)) = some t then vs j else cutT ops Ts vs X j t
theorem cut_yes {Hs : Nat → AHeap} {es : Nat → List (Nat × Bool)} {X : Nat → Prop} {j id : Nat} (h : X j) (h2 : (id, true) ∈ es j) : cut Hs es X (j + 1) id = (Hs (j + 1)).blks.get id := by
  unfold cut; exact if_pos ⟨h, h2⟩
theorem cut_no {Hs : Nat → AHeap} {es : Nat → List (Nat × Bool)} {X : Nat → Prop} {j id : Nat} (h : X j → (id, true) ∉ es j) : cut Hs es X (j + 1) id = cut Hs es X j id := by
  conv => lhs; unfold cut
  exact if_neg fun k => h k.1 k.2
theorem cutT_yes {ops : Array Oper} {Ts : Nat → Tmps} {vs : Nat → AVal} {X : Nat → Prop} {j t : Nat} {o : Oper} (h : X j) (ho : ops[j]? = some o) (h2 : o.dst = some t) : cutT ops Ts vs X (j + 1) t = vs j := by
  unfold cutT; exact if_pos ⟨h, by simp [ho, h2]⟩
theorem cutT_no {ops : Array Oper} {Ts : Nat → Tmps} {vs : Nat → AVal} {X : Nat → Prop} {j t : Nat} (h : X j → ∀ o, ops[j]? = some o → o.dst ≠ some t) : cutT ops Ts vs X (j + 1) t = cutT ops Ts vs X j t := by
  conv => lhs; unfold cutT
  refine if_neg fun k => ?_
  cases ho : ops[j]? with
  | none => simp [ho] at k
  | some o => exact h k.1 o ho (by simpa [ho] using k.2)
theorem tget_put {T T' : Tmps} {dst : Option Tmp} {v : AVal} (h : setT nt T dst v = some T') (t : Nat) : tget T' t = if dst = some t then v else tget T t := by
  cases dst with
  | none => cases h; simp
  | some d =>
    simp only [setT] at h
    obtain ⟨_, h⟩ := condO_some h
    cases h
    simp only [tget, Tr.get_put]
    by_cases e : d = t
    · simp [e]
    · simp [e]
variable {ops : Array Oper} {Ts : Nat → Tmps} {Hs : Nat → AHeap} {vs : Nat → AVal} {es : Nat → List (Nat × Bool)}
def Closed (ops : Array Oper) (X : Nat → Prop) : Prop := ∀ (j : Nat) (o : Oper), ops[j]? = some o → X j → ∀ e ∈ o.after, Region.binds .any e = true → X e.on
namespace Trace
variable (tr : Trace P ih nt ops Ts Hs vs es)
include tr
/-- one that waits for nothing more, and one later that has been done -/
theorem later {X : Nat → Prop} (hX : Closed ops X) {j i : Nat} {o p : Oper} (ho : ops[j]? = some o) (hj : ¬ X j) (hij : j < i) (hi : X i) (hp : ops[i]? = some p) : Oper.apart ops o p = true ∧ clash (es j) (es i) = false := by
  obtain ⟨mk, h1, h2⟩ := tr.sep j i o p hij ho hp
  rcases h2 with h2 | h2
  · exact absurd (mask_closed tr.back X hX i p mk j hp h1 h2 (hX i p hp hi)) hj
  · exact h2
/-- and one earlier that has not -/
theorem earlier {X : Nat → Prop} (hX : Closed ops X) {j i : Nat} {o p : Oper} (ho : ops[j]? = some o) (hr : ∀ e ∈ o.after, Region.binds .any e = true → X e.on) (hij : i < j) (hi : ¬ X i) (hp : ops[i]? = some p) : Oper.apart ops p o = true ∧ clash (es i) (es j) = false := by
  obtain ⟨mk, h1, h2⟩ := tr.sep i j p o hij hp ho
  rcases h2 with h2 | h2
  · exact absurd (mask_closed tr.back X hX j o mk i ho h1 h2 hr) hi
  · exact h2
theorem blk_late {X : Nat → Prop} (hX : Closed ops X) {j : Nat} {o : Oper} (ho : ops[j]? = some o) (hj : ¬ X j) {id : Nat} {c : Bool} (hid : (id, c) ∈ es j) : ∀ d, j + 1 + d ≤ ops.size → ∀ Y : Nat → Prop, (∀ i, j < i → (Y i ↔ X i)) → cut Hs es Y (j + 1 + d) id = cut Hs es Y (j + 1) id := by
  intro d
  induction d with
  | zero => intro _ _ _; rfl
  | succ d ih2 =>
    intro hd Y hY
    rw [show j + 1 + (d + 1) = (j + 1 + d) + 1 from by omega, cut_no, ih2 (by omega) Y hY]
    intro hy hin
    have hp : ops[j + 1 + d]? = some ops[j + 1 + d] := Array.getElem?_eq_getElem (by omega)
    obtain ⟨_, h2⟩ := tr.later hX ho hj (by omega : j < j + 1 + d) ((hY _ (by omega)).1 hy) hp
    have := clash_spec h2 id c true hid hin
    simp at this
theorem blk_early {X : Nat → Prop} (hX : Closed ops X) {j : Nat} {o : Oper} (ho : ops[j]? = some o) (hr : ∀ e ∈ o.after, Region.binds .any e = true → X e.on) {id : Nat} {c : Bool} (hid : (id, c) ∈ es j) : ∀ k, k ≤ j → cut Hs es X k id = (Hs k).blks.get id := by
  have hjlt := (Array.getElem?_eq_some_iff.1 ho).1
  intro k
  induction k with
  | zero => intro _; rfl
  | succ k ih2 =>
    intro hk
    have hp : ops[k]? = some ops[k] := Array.getElem?_eq_getElem (by omega)
    by_cases hin : (id, true) ∈ es k
    · by_cases hxk : X k
      · exact cut_yes hxk hin
      · obtain ⟨_, h2⟩ := tr.earlier hX ho hr (by omega : k < j) hxk hp
        have := clash_spec h2 id true c hin hid
        simp at this
    · rw [cut_no (fun _ => hin), ih2 (by omega), (tr.did k _ hp).does.same id hin]
theorem blk_ready {X : Nat → Prop} (hX : Closed ops X) {j : Nat} {o : Oper} (ho : ops[j]? = some o) (hj : ¬ X j) (hr : ∀ e ∈ o.after, Region.binds .any e = true → X e.on) {id : Nat} {c : Bool} (hid : (id, c) ∈ es j) : cut Hs es X ops.size id = (Hs j).blks.get id := by
  have hjlt := (Array.getElem?_eq_some_iff.1 ho).1
  have h1 := tr.blk_late hX ho hj hid (ops.size - (j + 1)) (by omega) X (fun _ _ => Iff.rfl)
  rw [show j + 1 + (ops.size - (j + 1)) = ops.size from by omega] at h1
  rw [h1, cut_no (fun h => absurd h hj), tr.blk_early hX ho hr hid j (Nat.le_refl _)]
omit tr in
theorem blk_same {X Y : Nat → Prop} {id : Nat} : ∀ n, (∀ i, i < n → (id, true) ∈ es i → (X i ↔ Y i)) → cut Hs es X n id = cut Hs es Y n id := by
  intro n
  induction n with
  | zero => intro _; rfl
  | succ n ih2 =>
    intro h
    by_cases hin : (id, true) ∈ es n
    · by_cases hx : X n
      · rw [cut_yes hx hin, cut_yes ((h n (by omega) hin).1 hx) hin]
      · rw [cut_no (fun k => absurd k hx), cut_no (fun k => absurd ((h n (by omega) hin).2 k) hx), ih2 fun i hi => h i (by omega)]
    · rw [cut_no (fun _ => hin), cut_no (fun _ => hin), ih2 fun i hi => h i (by omega)]
theorem blk_step {X : Nat → Prop} (hX : Closed ops X) {j : Nat} {o : Oper} (ho : ops[j]? = some o) (hj : ¬ X j) {H H' : AHeap} (hH : ∀ id, H.blks.get id = cut Hs es X ops.size id)
    (hd : ∀ id, (id, true) ∉ es j → H'.blks.get id = H.blks.get id) (hg : ∀ id b, (id, b) ∈ es j → H'.blks.get id = (Hs (j + 1)).blks.get id) (id : Nat) : H'.blks.get id = cut Hs es (fun i => i = j ∨ X i) ops.size id := by
  have hjlt := (Array.getElem?_eq_some_iff.1 ho).1
  by_cases hin : (id, true) ∈ es j
  · rw [hg id true hin]
    have h1 := tr.blk_late hX ho hj hin (ops.size - (j + 1)) (by omega) (fun i => i = j ∨ X i) (fun i hi => ⟨fun h => h.resolve_left (by omega), .inr⟩)
    rw [show j + 1 + (ops.size - (j + 1)) = ops.size from by omega] at h1
    rw [h1, cut_yes (.inl rfl) hin]
  · rw [hd id hin, hH]
    refine blk_same ops.size fun i _ hi => ⟨.inr, fun h => ?_⟩
    rcases h with rfl | h
    · exact absurd hi hin
    · exact h
theorem blk_all {X : Nat → Prop} (hX : ∀ i, i < ops.size → X i) (id : Nat) : ∀ n, n ≤ ops.size → cut Hs es X n id = (Hs n).blks.get id := by
  intro n
  induction n with
  | zero => intro _; rfl
  | succ n ih2 =>
    intro hn
    by_cases hin : (id, true) ∈ es n
    · exact cut_yes (hX n (by omega)) hin
    · have hp : ops[n]? = some ops[n] := Array.getElem?_eq_getElem (by omega)
      rw [cut_no (fun _ => hin), ih2 (by omega), (tr.did n _ hp).does.same id hin]
theorem tmp_late {X : Nat → Prop} (hX : Closed ops X) {j : Nat} {o : Oper} (ho : ops[j]? = some o) (hj : ¬ X j) {t : Nat} (ht : t ∈ o.looksAt ops ∨ o.dst = some t) : ∀ d, j + 1 + d ≤ ops.size → ∀ Y : Nat → Prop, (∀ i, j < i → (Y i ↔ X i)) → cutT ops Ts vs Y (j + 1 + d) t = cutT ops Ts vs Y (j + 1) t := by
  intro d
  induction d with
  | zero => intro _ _ _; rfl
  | succ d ih2 =>
    intro hd Y hY
    rw [show j + 1 + (d + 1) = (j + 1 + d) + 1 from by omega, cutT_no, ih2 (by omega) Y hY]
    intro hy p hp hdst
    obtain ⟨h1, _⟩ := tr.later hX ho hj (by omega : j < j + 1 + d) ((hY _ (by omega)).1 hy) hp
    obtain ⟨_, g2, g3⟩ := Oper.apart_spec h1
    rcases ht with ht | ht
    · exact g3 t hdst ht
    · exact g2 t ht hdst
theorem tmp_early {X : Nat → Prop} (hX : Closed ops X) {j : Nat} {o : Oper} (ho : ops[j]? = some o) (hr : ∀ e ∈ o.after, Region.binds .any e = true → X e.on) {t : Nat} (ht : t ∈ o.looksAt ops) : ∀ k, k ≤ j → cutT ops Ts vs X k t = tget (Ts k) t := by
  have hjlt := (Array.getElem?_eq_some_iff.1 ho).1
  intro k
  induction k with
  | zero => intro _; rfl
  | succ k ih2 =>
    intro hk
    have hp : ops[k]? = some ops[k] := Array.getElem?_eq_getElem (by omega)
    rw [tget_put (tr.did k _ hp).set t]
    by_cases hdst : ops[k].dst = some t
    · rw [if_pos hdst]
      by_cases hxk : X k
      · exact cutT_yes hxk hp hdst
      · obtain ⟨h1, _⟩ := tr.earlier hX ho hr (by omega : k < j) hxk hp
        exact absurd ht ((Oper.apart_spec h1).1 t hdst)
    · rw [if_neg hdst, cutT_no (fun _ p hp' => by rw [hp] at hp'; cases hp'; exact hdst), ih2 (by omega)]
theorem tmp_ready {X : Nat → Prop} (hX : Closed ops X) {j : Nat} {o : Oper} (ho : ops[j]? = some o) (hj : ¬ X j) (hr : ∀ e ∈ o.after, Region.binds .any e = true → X e.on) {t : Nat} (ht : t ∈ o.looksAt ops) : cutT ops Ts vs X ops.size t = tget (Ts j) t := by
  have hjlt := (Array.getElem?_eq_some_iff.1 ho).1
  have h1 := tr.tmp_late hX ho hj (.inl ht) (ops.size - (j + 1)) (by omega) X (fun _ _ => Iff.rfl)
  rw [show j + 1 + (ops.size - (j + 1)) = ops.size from by omega] at h1
  rw [h1, cutT_no (fun h => absurd h hj), tr.tmp_early hX ho hr ht j (Nat.le_refl _)]
omit tr in
theorem tmp_same {X Y : Nat → Prop} {t : Nat} : ∀ n, (∀ i, i < n → (∃ p, ops[i]? = some p ∧ p.dst = some t) → (X i ↔ Y i)) → cutT ops Ts vs X n t = cutT ops Ts vs Y n t := by
  intro n
  induction n with
  | zero => intro _; rfl
  | succ n ih2 =>
    intro h
    by_cases hin : ∃ p, ops[n]? = some p ∧ p.dst = some t
    · obtain ⟨p, hp, hd⟩ := hin
      by_cases hx : X n
      · rw [cutT_yes hx hp hd, cutT_yes ((h n (by omega) ⟨p, hp, hd⟩).1 hx) hp hd]
      · rw [cutT_no (fun k => absurd k hx), cutT_no (fun k => absurd ((h n (by omega) ⟨p, hp, hd⟩).2 k) hx), ih2 fun i hi => h i (by omega)]
    · rw [cutT_no (fun _ p hp hd => hin ⟨p, hp, hd⟩), cutT_no (fun _ p hp hd => hin ⟨p, hp, hd⟩), ih2 fun i hi => h i (by omega)]
theorem tmp_step {X : Nat → Prop} (hX : Closed ops X) {j : Nat} {o : Oper} (ho : ops[j]? = some o) (hj : ¬ X j) {T T' : Tmps} (hT : ∀ t, tget T t = cutT ops Ts vs X ops.size t)
    (hs : setT nt T o.dst (vs j) = some T') (t : Nat) : tget T' t = cutT ops Ts vs (fun i => i = j ∨ X i) ops.size t := by
  have hjlt := (Array.getElem?_eq_some_iff.1 ho).1
  rw [tget_put hs t]
  by_cases hd : o.dst = some t
  · rw [if_pos hd]
    have h1 := tr.tmp_late hX ho hj (.inr hd) (ops.size - (j + 1)) (by omega) (fun i => i = j ∨ X i) (fun i hi => ⟨fun h => h.resolve_left (by omega), .inr⟩)
    rw [show j + 1 + (ops.size - (j + 1)) = ops.size from by omega] at h1
    rw [h1, cutT_yes (.inl rfl) ho hd]
  · rw [if_neg hd, hT]
    refine tmp_same ops.size fun i _ hi => ⟨.inr, fun h => ?_⟩
    rcases h with rfl | h
    · obtain ⟨p, hp, hd'⟩ := hi
      rw [ho] at hp; cases hp
      exact absurd hd' hd
    · exact h
theorem tmp_all {X : Nat → Prop} (hX : ∀ i, i < ops.size → X i) (t : Nat) : ∀ n, n ≤ ops.size → cutT ops Ts vs X n t = tget (Ts n) t := by
  intro n
  induction n with
  | zero => intro _; rfl
  | succ n ih2 =>
    intro hn
    have hp : ops[n]? = some ops[n] := Array.getElem?_eq_getElem (by omega)
    rw [tget_put (tr.did n _ hp).set t]
    by_cases hd : ops[n].dst = some t
    · rw [if_pos hd]; exact cutT_yes (hX n (by omega)) hp hd
    · rw [if_neg hd, cutT_no (fun _ p hp' => by rw [hp] at hp'; cases hp'; exact hd), ih2 (by omega)]
theorem next_le : ∀ d j, j + d ≤ ops.size → (Hs j).next ≤ (Hs (j + d)).next := by
  intro d
  induction d with
  | zero => intro j _; exact Nat.le_refl _
  | succ d ih2 =>
    intro j hj
    have hp : ops[j + d]? = some ops[j + d] := Array.getElem?_eq_getElem (by omega)
    exact Nat.le_trans (ih2 j (by omega)) (tr.did _ _ hp).does.next
theorem lo_eq : ∀ j, j ≤ ops.size → (Hs j).lo = (Hs 0).lo := by
  intro j
  induction j with
  | zero => intro _; rfl
  | succ j ih2 =>
    intro hj
    have hp : ops[j]? = some ops[j] := Array.getElem?_eq_getElem (by omega)
    rw [(tr.did _ _ hp).does.lo, ih2 (by omega)]
end Trace
end
end Go.AM
namespace Go.AM
open Go Go.RowKit
section
variable {P : Program} {σ : Nat → Value} {base nt : Nat} {ih : Task → M Out}
theorem WR.same {ρ : Ren} {H K : AHeap} {w : World} (h : WR σ ρ base H w) (hb : ∀ id, K.blks.get id = H.blks.get id) (hl : K.lo = H.lo) : WR σ ρ base K w := by
  obtain ⟨a, b, c, d⟩ := h
  refine ⟨fun id x hx => ?_, fun id x L hx hL hlo => ?_, fun i j bi bj Li Lj hi hj hLi hLj hlo hne => ?_, d⟩
  · rw [hl]; exact a id x ((hb id).symm.trans hx)
  · rw [hl] at hlo; exact b id x L ((hb id).symm.trans hx) hL hlo
  · rw [hl] at hlo; exact c i j bi bj Li Lj ((hb i).symm.trans hi) ((hb j).symm.trans hj) hLi hLj hlo hne
theorem TRel.same {ρ : Ren} {T T' : Tmps} {tm : Array Value} (h : TRel σ ρ nt T tm) (ht : ∀ t, tget T' t = tget T t) : TRel σ ρ nt T' tm :=
  ⟨h.size, fun i => by rw [ht]; exact h.at_ i⟩
def cntF : List Bool → Nat
  | [] => 0
  | b :: l => (if b then 0 else 1) + cntF l
theorem cntF_set : ∀ (l : List Bool) (i : Nat), l[i]? = some false → cntF (l.set i true) + 1 = cntF l
  | [], i, h => by simp at h
  | b :: l, 0, h => by simp at h; subst h; simp [cntF]; omega
  | b :: l, i + 1, h => by simp at h; have := cntF_set l i h; simp only [List.set_cons_succ, cntF]; omega
theorem cntF_zero : ∀ (l : List Bool), cntF l = 0 → ∀ i : Nat, l[i]? ≠ some false
  | [], _, i => by simp
  | b :: l, h, i => by
    simp only [cntF] at h
    cases b with
    | false => simp at h
    | true =>
      cases i with
      | zero => simp
      | succ i => simpa using cntF_zero l (by simpa using h) i
theorem cntF_replicate (n : Nat) : cntF (List.replicate n false) = n := by
  induction n with
  | zero => rfl
  | succ n ih => simp [List.replicate_succ, cntF, ih]; omega
def Done (listed : Array Bool) : Nat → Prop := fun i => listed.getD i true = true
theorem done_set {listed : Array Bool} {j : Nat} (h : listed.getD j true = false) : Done (listed.setIfInBounds j true) = fun i => i = j ∨ Done listed i := by
  funext i
  apply propext
  unfold Done
  by_cases e : j = i
  · subst e
    have hlt : j < listed.size := by
      rcases Nat.lt_or_ge j listed.size with h' | h'
      · exact h'
      · simp [Array.getElem?_eq_none h'] at h
    simp [hlt]
  · rw [getD_set_ne true e]
    exact ⟨.inr, fun h => h.resolve_left (fun k => e k.symm)⟩
theorem undone {listed : Array Bool} {j : Nat} (h : listed.getD j true = false) : listed.toList[j]? = some false := by
  rcases Nat.lt_or_ge j listed.size with h' | h'
  · simp [Array.getElem?_eq_getElem h'] at h
    simp [h', h]
  · simp [Array.getElem?_eq_none h'] at h
theorem done_of_false {listed : Array Bool} {j : Nat} (h : listed.getD j false = true) : Done listed j := by
  unfold Done
  rcases Nat.lt_or_ge j listed.size with h' | h'
  · simp [Array.getElem?_eq_getElem h'] at h ⊢; exact h
  · simp [Array.getElem?_eq_none h'] at h
variable {ops : Array Oper} {Ts : Nat → Tmps} {Hs : Nat → AHeap} {vs : Nat → AVal} {es : Nat → List (Nat × Bool)}
structure Inv (σ : Nat → Value) (base nt : Nat) (ops : Array Oper) (Ts : Nat → Tmps) (Hs : Nat → AHeap) (vs : Nat → AVal) (es : Nat → List (Nat × Bool)) (ρ0 : Ren) (w0 : World) (d0 : Act) (X : Nat → Prop) (T : Tmps) (H : AHeap) (ρ : Ren) (w : World) (a : Act) : Prop where
  closed : Closed ops X
  blks : ∀ id, H.blks.get id = cut Hs es X ops.size id
  tmps : ∀ t, tget T t = cutT ops Ts vs X ops.size t
  lo : H.lo = (Hs 0).lo
  free : ∀ j, j < ops.size → ¬ X j → Free ρ (Hs j).next (Hs (j + 1)).next
  ext : Ext ρ0 ρ (Hs 0).next (Hs ops.size).next
  wr : WR σ ρ base H w
  below : Below base w0 w
  rel : TRel σ ρ nt T a.tmps
  defers : a.defers = d0.defers
theorem inv_step (hc : CallOK P ih) (hr : RoundOK P ih) (hname : NoNum P) (hfr : ∀ t, Fr (ih t)) (hσ : One σ) (tr : Trace P ih nt ops Ts Hs vs es) {r : Option Nat} {Q : Exit → Act → World → Prop} {K : Act → World → Prop}
    {ρ0 ρ : Ren} {w0 w : World} {d0 a : Act} {X : Nat → Prop} {T : Tmps} {H : AHeap} (hi : Inv σ base nt ops Ts Hs vs es ρ0 w0 d0 X T H ρ w a) {j : Nat} {o : Oper} (ho : ops[j]? = some o) (hj : ¬ X j) (hready : ∀ e ∈ o.after, Region.binds .any e = true → X e.on)
    (hK : ∀ a' w' T' H' ρ', Inv σ base nt ops Ts Hs vs es ρ0 w0 d0 (fun i => i = j ∨ X i) T' H' ρ' w' a' → K a' w') : wpOpIn (FR r) 0 P ops Q j K a w := by
  have hjlt := (Array.getElem?_eq_some_iff.1 ho).1
  have hdid := tr.did j o ho
  obtain ⟨H2', e2, d2, n2, g2⟩ := hdid.fr { H with next := (Hs j).next } rfl (by show H.lo = _; rw [hi.lo, tr.lo_eq j (by omega)])
    (fun id b hb => by show H.blks.get id = _; rw [hi.blks, tr.blk_ready hi.closed ho hj hready hb])
  rw [← valOp_congr (P := P) (ih := ih) (T := T) (fun t ht => by rw [hi.tmps, tr.tmp_ready hi.closed ho hj hready ht])] at e2
  have hT' : ∃ T', setT nt T o.dst (vs j) = some T' := by
    have := hdid.set
    cases hd : o.dst with
    | none => exact ⟨T, rfl⟩
    | some d =>
      rw [hd] at this
      simp only [setT] at this ⊢
      obtain ⟨h1, _⟩ := condO_some this
      rw [h1]; exact ⟨_, rfl⟩
  obtain ⟨T', hT'⟩ := hT'
  unfold wpOpIn
  simp only [ho]
  refine valOp_ok hc hr hname e2 hfr hi.rel hσ (hi.wr.log rfl rfl) (by rw [n2]; exact hi.free j hjlt hj) ?_
  intro v' w' ρ' hp hv
  have hle : ∀ i k, i ≤ k → k ≤ ops.size → (Hs i).next ≤ (Hs k).next := fun i k h1 h2 => by
    have := tr.next_le (k - i) i (by omega)
    rwa [show i + (k - i) = k from by omega] at this
  refine hK _ w' T' H2' ρ' ⟨?_, ?_, ?_, ?_, ?_, ?_, hp.wr, hi.below.trans hp.below, ?_, ?_⟩
  · intro k p hp' hk e he hb
    rcases hk with rfl | hk
    · rw [ho] at hp'; cases hp'; exact .inr (hready e he hb)
    · exact .inr (hi.closed k p hp' hk e he hb)
  · exact tr.blk_step hi.closed ho hj (H := H) (fun id => hi.blks id) d2.same g2
  · exact tr.tmp_step hi.closed ho hj hi.tmps hT'
  · rw [d2.lo]; exact hi.lo
  · intro k hk hx
    have hkj : k ≠ j := fun e => hx (.inl e)
    have hxk : ¬ X k := fun h => hx (.inr h)
    intro id h1 h2
    rw [hp.ext.out id ?_]
    · exact hi.free k hk hxk id h1 h2
    · show id < (Hs j).next ∨ H2'.next ≤ id
      rw [n2]
      rcases Nat.lt_or_ge k j with h | h
      · have := hle (k + 1) j (by omega) (by omega); omega
      · have := hle (j + 1) k (by omega) (by omega); omega
  · refine ⟨hi.ext.le.trans hp.ext.le, fun id hid => ?_⟩
    rw [hp.ext.out id ?_, hi.ext.out id hid]
    show id < (Hs j).next ∨ H2'.next ≤ id
    rw [n2]
    have := hle 0 j (by omega) (by omega)
    have := hle (j + 1) ops.size (by omega) (by omega)
    omega
  · exact put_rel hT' (hi.rel.mono hp.ext.le) hv
  · rw [put_defers]; exact hi.defers
theorem any_ok (hc : CallOK P ih) (hr : RoundOK P ih) (hname : NoNum P) (hfr : ∀ t, Fr (ih t)) (hσ : One σ) (tr : Trace P ih nt ops Ts Hs vs es) {r : Option Nat} {Q : Exit → Act → World → Prop}
    {ρ0 : Ren} {w0 : World} {d0 : Act} (hQ : ∀ a' w' ρ', Ext ρ0 ρ' (Hs 0).next (Hs ops.size).next → WR σ ρ' base (Hs ops.size) w' → Below base w0 w' → TRel σ ρ' nt (Ts ops.size) a'.tmps → a'.defers = d0.defers → Q .normal a' w') :
    ∀ (fuel : Nat) (listed : Array Bool) (T : Tmps) (H : AHeap) (ρ : Ren) (w : World) (a : Act), listed.size = ops.size → cntF listed.toList ≤ fuel → Inv σ base nt ops Ts Hs vs es ρ0 w0 d0 (Done listed) T H ρ w a → wpAnyIn (FR r) 0 P .any ops Q fuel listed a w := by
  have fin : ∀ (listed : Array Bool) (T : Tmps) (H : AHeap) (ρ : Ren) (w : World) (a : Act), (∀ i, i < ops.size → Done listed i) → Inv σ base nt ops Ts Hs vs es ρ0 w0 d0 (Done listed) T H ρ w a → Q .normal a w := by
    intro listed T H ρ w a hall hi
    refine hQ a w ρ hi.ext (hi.wr.same (fun id => ?_) ?_) hi.below (hi.rel.same fun t => ?_) hi.defers
    · rw [hi.blks, tr.blk_all hall id ops.size (Nat.le_refl _)]
    · rw [hi.lo, tr.lo_eq _ (Nat.le_refl _)]
    · rw [hi.tmps, tr.tmp_all hall t ops.size (Nat.le_refl _)]
  have ready : ∀ (listed : Array Bool), listed.size = ops.size → Region.ready .any ops listed = [] → ∀ i, i < ops.size → Done listed i := by
    intro listed hs hnil i
    induction i using Nat.strongRecOn with
    | _ i ih2 =>
      intro hi
      unfold Done
      cases hg : listed.getD i true with
      | true => rfl
      | false =>
        exfalso
        have ho : ops[i]? = some ops[i] := Array.getElem?_eq_getElem hi
        have : i ∈ Region.ready .any ops listed := mem_ready.2 ⟨hg, _, ho, fun e he hb => by
          have hlt := tr.back i _ ho e he hb
          have := ih2 e.on hlt (by omega)
          unfold Done at this
          simp [Array.getElem?_eq_getElem (by omega : e.on < listed.size)] at this ⊢
          exact this⟩
        rw [hnil] at this; cases this
  intro fuel
  induction fuel with
  | zero =>
    intro listed T H ρ w a hs hcnt hi
    have hall : ∀ i, i < ops.size → Done listed i := by
      intro i _
      unfold Done
      cases hg : listed.getD i true with
      | true => rfl
      | false => exact absurd (undone hg) (cntF_zero _ (by omega) i)
    refine ⟨?_, fin _ _ _ _ _ _ hall hi⟩
    cases hrd : Region.ready .any ops listed with
    | nil => rfl
    | cons x xs =>
      exfalso
      have hx : x ∈ Region.ready .any ops listed := by rw [hrd]; simp
      obtain ⟨h1, o, ho, _⟩ := mem_ready.1 hx
      have := hall x (Array.getElem?_eq_some_iff.1 ho).1
      unfold Done at this
      rw [h1] at this; cases this
  | succ fuel ih2 =>
    intro listed T H ρ w a hs hcnt hi
    refine ⟨fun hnil => fin _ _ _ _ _ _ (ready listed hs hnil) hi, fun j hj => ?_⟩
    obtain ⟨hjun, o, ho, hall⟩ := mem_ready.1 hj
    have hjx : ¬ Done listed j := by unfold Done; rw [hjun]; simp
    refine inv_step hc hr hname hfr hσ tr hi ho hjx (fun e he hb => done_of_false (hall e he hb)) ?_
    intro a' w' T' H' ρ' hi'
    refine ih2 _ T' H' ρ' w' a' (by simp [hs]) ?_ (by rw [done_set hjun]; exact hi')
    have := cntF_set _ _ (undone hjun)
    rw [Array.toList_setIfInBounds]
    omega
theorem regionOk_spec {l : List Oper} (h : regionOk l = true) : backEdges l 0 = true ∧ ∀ o ∈ l, ∀ c, o.op ≠ .defer c := by
  simp only [regionOk, Bool.and_eq_true] at h
  refine ⟨h.1, fun o ho c e => ?_⟩
  have := List.all_eq_true.1 h.2 o ho
  rw [e] at this; cases this
theorem opsD_ok (hm : P.follows .mixedOrders = true) (hc : CallOK P ih) (hr : RoundOK P ih) (hname : NoNum P) (hfr : ∀ t, Fr (ih t)) (hσ : One σ) {id : Nat} {r : Option Nat} {Q : Exit → Act → World → Prop} {T T' : Tmps} {H H' : AHeap} {ρ : Ren} {w : World} {a : Act}
    (hok : regionOk ops.toList = true) (h : opsD P ih nt ops ops.toList (masks ops.toList []) [] T H = some (T', H')) (hT : TRel σ ρ nt T a.tmps) (hwr : WR σ ρ base H w) (hf : Free ρ H.next H'.next)
    (hQ : ∀ a' w' ρ', Post σ ρ ρ' base H H' w w' → TRel σ ρ' nt T' a'.tmps → a'.defers = a.defers → Q .normal a' w') : (Code.region id ops true).wpIn (FR r) 0 P Q a w := by
  have hback := (regionOk_spec hok).1
  obtain ⟨Ts, Hs, vs, es, a1, a2, a3, a4, a5⟩ := trace hfr ops.toList _ [] 0 T H T' H' rfl h
  simp only [Nat.zero_add, Array.length_toList] at a3 a4 a5
  have a5' : ∀ j o, ops[j]? = some o → _ := fun j o ho => a5 j o (by rw [Array.getElem?_toList]; exact ho)
  have tr : Trace P ih nt ops Ts Hs vs es := by
    refine ⟨fun j o ho => (a5' j o ho).1, fun j o ho e he hb => ?_, fun i j p o hij hp ho => ?_⟩
    · have := backEdges_spec ops.toList 0 hback j o (by rw [Array.getElem?_toList]; exact ho) e he hb
      omega
    · obtain ⟨_, mk, h1, _, h3⟩ := a5' j o ho
      exact ⟨mk, h1, h3 i p hij (by rw [Array.getElem?_toList]; exact hp)⟩
  subst a1 a2 a3 a4
  refine wpIn_region_any hm (any_ok (base := base) hc hr hname hfr hσ tr (ρ0 := ρ) (w0 := w) (d0 := a) ?_ ops.size _ (Ts 0) (Hs 0) ρ _ a (by simp) (by simp [cntF_replicate]) ?_)
  · intro a' w' ρ' h1 h2 h3 h4 h5
    exact hQ a' w' ρ' ⟨h1, h2, h3⟩ h4 h5
  · have hno : ∀ i, i < ops.size → ¬ Done (Array.replicate ops.size false) i := by
      intro i hi
      unfold Done
      simp [hi]
    have hle : ∀ i k, i ≤ k → k ≤ ops.size → (Hs i).next ≤ (Hs k).next := fun i k h1 h2 => by
      have := tr.next_le (k - i) i (by omega)
      rwa [show i + (k - i) = k from by omega] at this
    refine ⟨?_, ?_, ?_, rfl, ?_, .refl _ _ _, ?_, ?_, hT, rfl⟩
    · intro j o ho hj
      exact absurd hj (hno j (Array.getElem?_eq_some_iff.1 ho).1)
    · intro i
      have : ∀ n, n ≤ ops.size → cut Hs es (Done (Array.replicate ops.size false)) n i = (Hs 0).blks.get i := by
        intro n
        induction n with
        | zero => intro _; rfl
        | succ n ih2 => intro hn; rw [cut_no (fun k => absurd k (hno n (by omega))), ih2 (by omega)]
      rw [this _ (Nat.le_refl _)]
    · intro t
      have : ∀ n, n ≤ ops.size → cutT ops Ts vs (Done (Array.replicate ops.size false)) n t = tget (Ts 0) t := by
        intro n
        induction n with
        | zero => intro _; rfl
        | succ n ih2 => intro hn; rw [cutT_no (fun k => absurd k (hno n (by omega))), ih2 (by omega)]
      rw [this _ (Nat.le_refl _)]
    · intro j hj _ i h1 h2
      exact hf i (Nat.le_trans (hle 0 j (by omega) (by omega)) h1) (Nat.lt_of_lt_of_le h2 (hle (j + 1) ops.size (by omega) (by omega)))
    · obtain ⟨x1, x2, x3, x4⟩ := hwr
      exact ⟨x1, x2, x3, x4⟩
    · exact ⟨rfl, rfl, rfl, Nat.le_refl _, fun _ _ => rfl⟩
end
end Go.AM
namespace Go.AM
open Go Go.RowKit
section
variable {P : Program} {σ : Nat → Value} {ρ : Ren} {base nt : Nat} {H H' : AHeap} {w : World} {T : Tmps}

theorem putObj_upd {B : Nat} {o0 : Obj} (o : Obj) (h : w.heap[B]? = some o0) : Upd w B o (w.putObj B o) :=
  ⟨rfl, rfl, rfl, by simp, World.putObj_heap_same (lt_of_get h), fun _ hk => World.putObj_heap_other hk⟩
/-- the marks among the deferred calls -/
def DRel (ρ : Ren) : List Nat → List Deferred → Prop
  | [], ds => ds = []
  | m :: ms, ds => ∃ L ds', ρ m = some L ∧ ds = { target := .collected L.blk, args := #[] } :: ds' ∧ DRel ρ ms ds'
theorem DRel.mono {ρ ρ' : Ren} (h : Le ρ ρ') : ∀ {ms : List Nat} {ds : List Deferred}, DRel ρ ms ds → DRel ρ' ms ds
  | [], _, r => r
  | _ :: _, _, r => by unfold DRel at r ⊢; obtain ⟨L, ds', h1, h2, h3⟩ := r; exact ⟨L, ds', h _ _ h1, h2, DRel.mono h h3⟩
theorem DRel.append {ms ms' : List Nat} {ds ds' : List Deferred} (h : DRel ρ ms ds) (k : DRel ρ ms' ds') : DRel ρ (ms ++ ms') (ds ++ ds') := by
  induction ms generalizing ds with
  | nil => unfold DRel at h; subst h; exact k
  | cons m ms ih => unfold DRel at h; obtain ⟨L, es, h1, rfl, h3⟩ := h; show DRel ρ (m :: (ms ++ ms')) _; unfold DRel; exact ⟨L, es ++ ds', h1, rfl, ih h3⟩
theorem marks_ok {fn : Func} {tmps : Array Value} {R : Ending → World → Prop} : ∀ {ms : List Nat} {ds : List Deferred} {H H' : AHeap} {w : World}, takeMarks ms H = some ((), H') → WR σ ρ base H w → DRel ρ ms ds →
    H'.next = H.next ∧ ((∀ w', WR σ ρ base H' w' → Below base w w' → LeavesInM Fence.wide 0 P fn tmps R [] .returning w') → LeavesInM Fence.wide 0 P fn tmps R ds .returning w)
  | [], ds, H, H', w, h, hwr, hd => by
    cases ret_some h
    unfold DRel at hd; subst hd
    exact ⟨rfl, fun k => k w hwr (.refl _ _)⟩
  | m :: ms, ds, H, H', w, h, hwr, hd => by
    unfold DRel at hd
    obtain ⟨L, ds', hL, rfl, hd⟩ := hd
    obtain ⟨blk, K, h1, h2⟩ := bd_some h
    obtain ⟨hb, e1, e2, e3⟩ := rd_some h1
    cases blk with
    | deferred b =>
      cases b with
      | false => exact (fail_some h2).elim
      | true =>
        obtain ⟨u, K2, h3, h4⟩ := bd_some h2
        obtain ⟨hlo, ⟨b0, hb0⟩, hk, hkl, hkn⟩ := wr_some h3
        obtain ⟨L', hL', hobj⟩ := hwr.blk m _ hb
        rw [hL] at hL'; cases hL'
        have hobj : w.heap[L.blk]? = some (.deferred (some [])) := hobj
        have hput := hwr.put (K := K2) (b := .deferred false) hb hL (by rw [← e2]; exact hlo) (putObj_upd (.deferred none) hobj) rfl (fun j => by rw [hk, e1]) (hkl.trans e2)
        obtain ⟨n1, k1⟩ := marks_ok (fn := fn) (tmps := tmps) (R := R) h4 hput.1 hd
        refine ⟨n1.trans (hkn.trans e3), fun k => ?_⟩
        unfold LeavesInM
        exact ⟨by simp, .inl ⟨L.blk, _, rfl, run_takeDeferred hobj, k1 fun w' hw' hbl => k w' hw' (hput.2.trans hbl)⟩⟩
    | _ => exact (fail_some h2).elim
theorem results_ok {tm : Array Value} (hT : TRel σ ρ nt T tm) (hwr : WR σ ρ base H w) : ∀ (rs : List ResultVar) (H1 H' : AHeap) (vs : List AVal), H1.blks = H.blks → H1.lo = H.lo → resultsA P T rs H1 = some (vs, H') →
    H'.blks = H.blks ∧ H'.lo = H.lo ∧ H'.next = H1.next ∧ ∃ vs', (rs.mapM fun r => (match r with
      | .tmp t => pure (tm.getD t undef)
      | .cell a t => do loadVar t (← asAddr (tm.getD a undef)) : Sem Value)).run P w = .ok vs' w ∧ RelL σ ρ vs vs'
  | [], H1, H', vs, e1, e2, h => by
    cases ret_some h
    exact ⟨e1, e2, rfl, [], by simp, .nil⟩
  | .tmp t :: rs, H1, H', vs, e1, e2, h => by
    obtain ⟨us, K, h1, h2⟩ := bd_some h
    cases ret_some h2
    obtain ⟨a1, a2, a3, vs', a4, a5⟩ := results_ok hT hwr rs H1 _ us e1 e2 h1
    refine ⟨a1, a2, a3, tm.getD t undef :: vs', by simp only [List.mapM_cons, Sem.run_bind, Sem.run_pure, Result.andThen_ok, a4], .cons ?_ a5⟩
    have := hT.at_ t
    unfold tget at this
    cases hg : T.get t with
    | none => rw [hg] at this; exact this
    | some v => rw [hg] at this; exact this
  | .cell x t :: rs, H1, H', vs, e1, e2, h => by
    unfold resultsA at h
    have hx := hT.at_ x
    unfold tget at hx
    cases hg : T.get x with
    | none => simp only [hg] at h; exact (fail_some h).elim
    | some y =>
      rw [hg] at hx
      simp only [Option.getD_some] at hx
      cases y with
      | ptr b o =>
        simp only [hg] at h
        unfold Rel at hx
        obtain ⟨L, hL, hx⟩ := hx
        obtain ⟨v, K, h1, h2⟩ := bd_some h
        obtain ⟨us, K2, h3, h4⟩ := bd_some h2
        cases ret_some h4
        obtain ⟨b1, b2, b3, v', b4, b5⟩ := loadA_ok (P := P) h1 (hwr.log (K := H1) e1 e2) hL
        obtain ⟨a1, a2, a3, vs', a4, a5⟩ := results_ok hT hwr rs K _ us (b1.trans e1) (b2.trans e2) h3
        refine ⟨a1, a2, a3.trans b3, v' :: vs', ?_, .cons b5 a5⟩
        have ea : (asAddr (tm.getD x undef)).run P w = .ok ⟨L.blk, L.sh + o, none⟩ w := by rw [hx]; rfl
        simp only [List.mapM_cons, Sem.run_bind, ea, Sem.run_pure, Result.andThen_ok, b4, a4]
      | _ => simp only [hg] at h; exact (fail_some h).elim
theorem oneV_rel {vs : List AVal} {vs' : List Value} (h : RelL σ ρ vs vs') : Rel σ ρ (oneV vs) (if h : vs'.toArray.size = 1 then vs'.toArray[0] else .tuple vs'.toArray) := by
  match vs, h with
  | [], h => unfold RelL at h; subst h; show Rel σ ρ (.tup []) _; unfold Rel; exact ⟨#[], rfl, .nil⟩
  | [x], h =>
    unfold RelL at h
    obtain ⟨y, ys, rfl, h1, h2⟩ := h
    unfold RelL at h2; subst h2
    exact h1
  | x :: x2 :: xs, h =>
    have hl := h.length
    rw [dif_neg (by simp at hl ⊢; omega)]
    show Rel σ ρ (.tup (x :: x2 :: xs)) _
    unfold Rel
    exact ⟨_, rfl, h⟩
theorem setParams_rel : ∀ (ps : List Tmp) (args : List AVal) (vs : List Value) (T T' : Tmps) (tm : Array Value), setParams nt T ps args = some T' → TRel σ ρ nt T tm → RelL σ ρ args vs → TRel σ ρ nt T' ((ps.zip vs).foldl (fun tmps (x : Tmp × Value) => tmps.setIfInBounds x.1 x.2) tm)
  | [], [], vs, T, T', tm, h, hT, _ => by cases h; exact hT
  | [], _ :: _, _, _, _, _, h, _, _ => by cases h
  | _ :: _, [], _, _, _, _, h, _, _ => by cases h
  | p :: ps, x :: xs, vs, T, T', tm, h, hT, hr => by
    unfold RelL at hr
    obtain ⟨y, ys, rfl, h1, h2⟩ := hr
    simp only [setParams] at h
    obtain ⟨hp, h⟩ := condO_some h
    have := put_rel (nt := nt) (a := { tmps := tm, defers := [] }) (dst := some p) (v := x) (v' := y) (T' := T.put p (some x)) (by simp [setT, hp]) hT h1
    exact setParams_rel ps xs ys _ T' _ h this h2
theorem params_start {args : List AVal} {args' : Array Value} (hr : RelL σ ρ args args'.toList) (hn : args.length ≤ nt) : TRel σ ρ nt (Tr.ofListAt .nil 0 args) (args' ++ Array.replicate (nt - args'.size) undef) := by
  have hl : args'.size = args.length := by simpa using hr.length
  refine ⟨by simp; omega, fun i => ?_⟩
  unfold tget
  rw [Tr.get_ofListAt, Tr.get_nil]
  by_cases hi : i < args.length
  · rw [if_pos ⟨by omega, by omega⟩]
    have hx : args[i - 0]? = some args[i] := by simp [hi]
    obtain ⟨y, hy, hr⟩ := hr.get i args[i] (by simp [hi])
    have hi' : i < args'.size := by omega
    rw [hx]
    simp only [Option.getD_some]
    have : (args' ++ Array.replicate (nt - args'.size) undef).getD i undef = y := by
      rw [Array.getD_eq_getD_getElem?, Array.getElem?_append_left hi', ← Array.getElem?_toList, hy]; rfl
    rw [this]; exact hr
  · rw [if_neg (by omega)]
    have : (args' ++ Array.replicate (nt - args'.size) undef).getD i undef = undef := by
      rw [Array.getD_eq_getD_getElem?, Array.getElem?_append_right (by omega)]
      rw [Array.getElem?_replicate]
      split <;> rfl
    rw [this]; exact rel_undef
end
end Go.AM
namespace Go.AM
open Go Go.RowKit
section
variable {P : Program} {σ : Nat → Value} {ρ : Ren} {base nt : Nat} {H H' : AHeap} {w : World} {T : Tmps} {a : Act} {ih : Task → M Out} {n : Nat}
def exitE : AExit → Exit
  | .nrm => .normal
  | .exit id => .exit id
  | .ret => .ret
def RR (ρ : Ren) : Option Nat → Option Nat → Prop
  | none, r => r = none
  | some l, r => ∃ L, ρ l = some L ∧ r = some L.blk
theorem RR.mono {ρ ρ' : Ren} {x r : Option Nat} (h : RR ρ x r) (hl : Le ρ ρ') : RR ρ' x r := by
  cases x with
  | none => exact h
  | some l => obtain ⟨L, h1, h2⟩ := h; exact ⟨L, hl _ _ h1, h2⟩
def ACode (r : Option Nat) (n : Nat) (P : Program) (c : Code) (Q : Exit → Act → World → Prop) (a : Act) (w : World) : Prop :=
  match c with
  | .loop b => Code.roundsIn (FR r) 0 P b Q n a w
  | c => c.wpIn (FR r) 0 P Q a w
theorem ACode.wp {r : Option Nat} {c : Code} {Q : Exit → Act → World → Prop} (h : ACode r n P c Q a w) : c.wpIn (FR r) 0 P Q a w := by
  cases c <;> first | exact wpIn_loop_rounds n h | exact h
structure CodePost (σ : Nat → Value) (ρ : Ren) (base nt : Nat) (H H' : AHeap) (w : World) (T' : Tmps) (ms' : List Nat) (ρ' : Ren) (a' : Act) (w' : World) : Prop where
  post : Post σ ρ ρ' base H H' w w'
  tmps : TRel σ ρ' nt T' a'.tmps
  defers : DRel ρ' ms' a'.defers
def CodeOK (P : Program) (n : Nat) (ih : Task → M Out) : Prop := ∀ (nt : Nat) (rA : Option Nat) (c : Code) (T : Tmps) (ms : List Nat) (H : AHeap) (o : Out) (H' : AHeap), ih (.code nt rA c T ms) H = some (o, H') →
  ∃ e T' ms', o = .exit e T' ms' ∧ ∀ (σ : Nat → Value) (ρ : Ren) (base : Nat) (w : World) (a : Act) (r : Option Nat) (Q : Exit → Act → World → Prop), One σ → WR σ ρ base H w → Free ρ H.next H'.next → TRel σ ρ nt T a.tmps → RR ρ rA r → DRel ρ ms a.defers →
    (∀ a' w' ρ', CodePost σ ρ base nt H H' w T' ms' ρ' a' w' → Q (exitE e) a' w') → ACode r n P c Q a w
/-- what one step of code is to show -/
def Goal (P : Program) (n nt : Nat) (rA : Option Nat) (c : Code) (T : Tmps) (ms : List Nat) (H : AHeap) (o : Out) (H' : AHeap) : Prop :=
  ∃ e T' ms', o = .exit e T' ms' ∧ ∀ (σ : Nat → Value) (ρ : Ren) (base : Nat) (w : World) (a : Act) (r : Option Nat) (Q : Exit → Act → World → Prop), One σ → WR σ ρ base H w → Free ρ H.next H'.next → TRel σ ρ nt T a.tmps → RR ρ rA r → DRel ρ ms a.defers →
    (∀ a' w' ρ', CodePost σ ρ base nt H H' w T' ms' ρ' a' w' → Q (exitE e) a' w') → ACode r n P c Q a w
theorem CodePost.stay {ms : List Nat} (hwr : WR σ ρ base H w) (hT : TRel σ ρ nt T a.tmps) (hd : DRel ρ ms a.defers) : CodePost σ ρ base nt H H w T ms ρ a w :=
  ⟨⟨.refl _ _ _, hwr, .refl _ _⟩, hT, hd⟩
theorem next_of {t : Task} (hfr : ∀ t, Fr (ih t)) {o : Out} (h : ih t H = some (o, H')) : H.next ≤ H'.next := by obtain ⟨es, d, _⟩ := hfr t H o H' h; exact d.next
theorem CodePost.trans {ρ1 ρ2 : Ren} {K : AHeap} {T1 T2 : Tmps} {ms1 ms2 : List Nat} {a1 a2 : Act} {w1 w2 : World} (h : CodePost σ ρ base nt H K w T1 ms1 ρ1 a1 w1) (k : CodePost σ ρ1 base nt K H' w1 T2 ms2 ρ2 a2 w2)
    (m1 : H.next ≤ K.next) (m2 : K.next ≤ H'.next) : CodePost σ ρ base nt H H' w T2 ms2 ρ2 a2 w2 :=
  ⟨⟨h.post.ext.trans k.post.ext m1 m2, k.post.wr, h.post.below.trans k.post.below⟩, k.tmps, k.defers⟩
theorem seq_ok {rA : Option Nat} {x y : Code} {ms : List Nat} {o : Out} (hco : CodeOK P n ih) (hfr : ∀ t, Fr (ih t)) (h : runCode P ih nt rA (.seq x y) T ms H = some (o, H')) : Goal P (n + 1) nt rA (.seq x y) T ms H o H' := by
  obtain ⟨o1, K, h1, h2⟩ := bd_some h
  have m1 := next_of hfr h1
  obtain ⟨e, T1, ms1, rfl, k1⟩ := hco _ _ _ _ _ _ _ _ h1
  cases e with
  | nrm =>
    have m2 := next_of hfr h2
    obtain ⟨e, T2, ms2, rfl, k2⟩ := hco _ _ _ _ _ _ _ _ h2
    refine ⟨e, T2, ms2, rfl, fun σ ρ base w a r Q hσ hwr hf hT hr hd hQ => wpIn_seq (ACode.wp (n := n) ?_)⟩
    refine k1 σ ρ base w a r _ hσ hwr (hf.left m2) hT hr hd fun a1 w1 ρ1 p1 => ?_
    refine ACode.wp (n := n) (k2 σ ρ1 base w1 a1 r Q hσ p1.post.wr (p1.post.ext.free hf m1) p1.tmps (hr.mono p1.post.ext.le) p1.defers fun a2 w2 ρ2 p2 => hQ a2 w2 ρ2 (p1.trans p2 m1 m2))
  | exit id =>
    cases ret_some h2
    exact ⟨.exit id, T1, ms1, rfl, fun σ ρ base w a r Q hσ hwr hf hT hr hd hQ => wpIn_seq (ACode.wp (n := n) (k1 σ ρ base w a r _ hσ hwr hf hT hr hd fun a1 w1 ρ1 p1 => hQ a1 w1 ρ1 p1))⟩
  | ret =>
    cases ret_some h2
    exact ⟨.ret, T1, ms1, rfl, fun σ ρ base w a r Q hσ hwr hf hT hr hd hQ => wpIn_seq (ACode.wp (n := n) (k1 σ ρ base w a r _ hσ hwr hf hT hr hd fun a1 w1 ρ1 p1 => hQ a1 w1 ρ1 p1))⟩
theorem cond_ok {rA : Option Nat} {x : Operand} {y z : Code} {ms : List Nat} {o : Out} (hco : CodeOK P n ih) (h : runCode P ih nt rA (.cond x y z) T ms H = some (o, H')) : Goal P (n + 1) nt rA (.cond x y z) T ms H o H' := by
  unfold runCode at h
  simp only at h
  generalize hx : ev T x = v at h
  split at h
  · rename_i t
    obtain ⟨e, T1, ms1, rfl, k1⟩ := hco _ _ _ _ _ _ _ _ h
    refine ⟨e, T1, ms1, rfl, fun σ ρ base w a r Q hσ hwr hf hT hr hd hQ => ?_⟩
    have hv := ev_rel (a := a) hx hT
    unfold Rel at hv
    refine wpIn_cond hv ?_
    have := ACode.wp (k1 σ ρ base w a r Q hσ hwr hf hT hr hd hQ)
    cases t <;> exact this
  · exact (fail_some h).elim
theorem block_ok {rA : Option Nat} {id : Nat} {c : Code} {ms : List Nat} {o : Out} (hco : CodeOK P n ih) (h : runCode P ih nt rA (.block id c) T ms H = some (o, H')) : Goal P (n + 1) nt rA (.block id c) T ms H o H' := by
  obtain ⟨o1, K, h1, h2⟩ := bd_some h
  obtain ⟨e, T1, ms1, rfl, k1⟩ := hco _ _ _ _ _ _ _ _ h1
  cases e with
  | nrm =>
    cases ret_some h2
    exact ⟨.nrm, T1, ms1, rfl, fun σ ρ base w a r Q hσ hwr hf hT hr hd hQ => wpIn_block (ACode.wp (n := n) (k1 σ ρ base w a r _ hσ hwr hf hT hr hd fun a1 w1 ρ1 p1 => hQ a1 w1 ρ1 p1))⟩
  | ret =>
    cases ret_some h2
    exact ⟨.ret, T1, ms1, rfl, fun σ ρ base w a r Q hσ hwr hf hT hr hd hQ => wpIn_block (ACode.wp (n := n) (k1 σ ρ base w a r _ hσ hwr hf hT hr hd fun a1 w1 ρ1 p1 => hQ a1 w1 ρ1 p1))⟩
  | exit id' =>
    cases hb : Nat.beq id' id with
    | true =>
      simp only [hb, cond_true] at h2
      cases ret_some h2
      have e := Nat.eq_of_beq_eq_true hb
      exact ⟨.nrm, T1, ms1, rfl, fun σ ρ base w a r Q hσ hwr hf hT hr hd hQ => wpIn_block (ACode.wp (n := n) (k1 σ ρ base w a r _ hσ hwr hf hT hr hd fun a1 w1 ρ1 p1 => by
        show (if id' = id then _ else _)
        rw [if_pos e]; exact hQ a1 w1 ρ1 p1))⟩
    | false =>
      simp only [hb, cond_false] at h2
      cases ret_some h2
      have e : id' ≠ id := fun e => by subst e; simp at hb
      exact ⟨.exit id', T1, ms1, rfl, fun σ ρ base w a r Q hσ hwr hf hT hr hd hQ => wpIn_block (ACode.wp (n := n) (k1 σ ρ base w a r _ hσ hwr hf hT hr hd fun a1 w1 ρ1 p1 => by
        show (if id' = id then _ else _)
        rw [if_neg e]; exact hQ a1 w1 ρ1 p1))⟩
theorem loop_ok {rA : Option Nat} {c : Code} {ms : List Nat} {o : Out} (hco : CodeOK P n ih) (hfr : ∀ t, Fr (ih t)) (h : runCode P ih nt rA (.loop c) T ms H = some (o, H')) : Goal P (n + 1) nt rA (.loop c) T ms H o H' := by
  obtain ⟨o1, K, h1, h2⟩ := bd_some h
  have m1 := next_of hfr h1
  obtain ⟨e, T1, ms1, rfl, k1⟩ := hco _ _ _ _ _ _ _ _ h1
  cases e with
  | nrm =>
    have m2 := next_of hfr h2
    obtain ⟨e, T2, ms2, rfl, k2⟩ := hco _ _ _ _ _ _ _ _ h2
    refine ⟨e, T2, ms2, rfl, fun σ ρ base w a r Q hσ hwr hf hT hr hd hQ => ACode.wp (n := n) (c := c) ?_⟩
    refine k1 σ ρ base w a r _ hσ hwr (hf.left m2) hT hr hd fun a1 w1 ρ1 p1 => ?_
    exact k2 σ ρ1 base w1 a1 r Q hσ p1.post.wr (p1.post.ext.free hf m1) p1.tmps (hr.mono p1.post.ext.le) p1.defers fun a2 w2 ρ2 p2 => hQ a2 w2 ρ2 (p1.trans p2 m1 m2)
  | exit id =>
    cases ret_some h2
    exact ⟨.exit id, T1, ms1, rfl, fun σ ρ base w a r Q hσ hwr hf hT hr hd hQ => ACode.wp (n := n) (c := c) (k1 σ ρ base w a r _ hσ hwr hf hT hr hd fun a1 w1 ρ1 p1 => hQ a1 w1 ρ1 p1)⟩
  | ret =>
    cases ret_some h2
    exact ⟨.ret, T1, ms1, rfl, fun σ ρ base w a r Q hσ hwr hf hT hr hd hQ => ACode.wp (n := n) (c := c) (k1 σ ρ base w a r _ hσ hwr hf hT hr hd fun a1 w1 ρ1 p1 => hQ a1 w1 ρ1 p1)⟩
theorem range_eq (n : Nat) : List.range n = List.range' 0 n := List.range_eq_range'
theorem region_ok (hm : P.follows .mixedOrders = true) (hname : NoNum P) {rA : Option Nat} {id : Nat} {ops : Array Oper} {draw : Bool} {ms : List Nat} {o : Out} (hc : CallOK P ih) (hro : RoundOK P ih) (hfr : ∀ t, Fr (ih t)) (h : runCode P ih nt rA (.region id ops draw) T ms H = some (o, H')) : Goal P (n + 1) nt rA (.region id ops draw) T ms H o H' := by
  obtain ⟨T1, K, h1, h2⟩ := bd_some h
  cases ret_some h2
  refine ⟨.nrm, T1, ms, rfl, fun σ ρ base w a r Q hσ hwr hf hT hr hd hQ => ?_⟩
  have fin : ∀ a' w' ρ', Post σ ρ ρ' base H H' w w' → TRel σ ρ' nt T1 a'.tmps → a'.defers = a.defers → Q .normal a' w' := fun a' w' ρ' p1 p2 p3 =>
    hQ a' w' ρ' ⟨p1, p2, by rw [p3]; exact hd.mono p1.ext.le⟩
  cases draw with
  | false =>
    refine wpIn_region ?_
    rw [range_eq]
    have := opsA_ok (r := r) (Q := Q) hc hro hname hfr hσ ops.toList 0 T H T1 ρ w a (fun j => by simp) h1 hT hwr hf fin
    simpa using this
  | true =>
    obtain ⟨hok, h3⟩ := cond_some h1
    exact opsD_ok hm hc hro hname hfr hσ hok h3 hT hwr hf fin
end
end Go.AM
namespace Go.AM
open Go Go.RowKit
section
variable {P : Program} {σ : Nat → Value} {ρ : Ren} {base nt : Nat} {H H' : AHeap} {w : World} {T : Tmps} {a : Act} {ih : Task → M Out} {n : Nat}
theorem outVal_some {m : M Out} {v : AVal} (h : outVal m H = some (v, H')) : m H = some (.val v, H') := by
  obtain ⟨o, K, h1, h2⟩ := bd_some h
  cases o with
  | exit e T ms => exact (fail_some h2).elim
  | val u => cases ret_some h2; exact h1
theorem results_run {fn : Func} {tm : Array Value} {vs' : List Value} (h : (fn.results.toList.mapM fun r => (match r with
      | .tmp t => pure (tm.getD t undef)
      | .cell a t => do loadVar t (← asAddr (tm.getD a undef)) : Sem Value)).run P w = .ok vs' w) :
    (results fn tm).run P w = .ok (if h : vs'.toArray.size = 1 then vs'.toArray[0] else .tuple vs'.toArray) w := by
  have e : results fn tm = (do
    let vs ← fn.results.mapM fun r => (match r with
      | .tmp t => pure (tm.getD t undef)
      | .cell a t => do loadVar t (← asAddr (tm.getD a undef)) : Sem Value)
    pure (if h : vs.size = 1 then vs[0] else .tuple vs)) := rfl
  rw [e, Array.mapM_eq_mapM_toList]
  simp only [Sem.run_bind, Sem.run_map, h, Result.andThen_ok, Sem.run_pure]
theorem runCall_ok (hco : CodeOK P n ih) (hfr : ∀ t, Fr (ih t)) {f : FuncId} {args : List AVal} {v : AVal} (h : runCall P ih f args H = some (.val v, H')) {args' : Array Value} (hσ : One σ) (hwr : WR σ ρ base H w) (hf : Free ρ H.next H'.next) (hr : RelL σ ρ args args'.toList) :
    CallsIn Fence.wide 0 P f args' w (ValPost σ ρ base H H' w v) := by
  unfold runCall at h
  cases hfn : P.funcs[f]? with
  | none => simp only [hfn] at h; exact (fail_some h).elim
  | some fn =>
    simp only [hfn] at h
    cases hb : fn.body with
    | none => simp only [hb] at h; exact (fail_some h).elim
    | some c =>
      simp only [hb] at h
      obtain ⟨hle, h⟩ := cond_some h
      have hle : args.length ≤ fn.ntmps := by simpa [Nat.ble_eq] using hle
      obtain ⟨o, K, h1, h2⟩ := bd_some h
      obtain ⟨e, T1, ms1, rfl, k1⟩ := hco _ _ _ _ _ _ _ _ h1
      have m1 := next_of hfr h1
      have key : ∀ a1 w1 ρ1, CodePost σ ρ base fn.ntmps H K w T1 ms1 ρ1 a1 w1 → bd (takeMarks ms1) (fun _ => bd (resultsA P T1 fn.results.toList) fun vs => ret (Out.val (oneV vs))) K = some (Out.val v, H') →
          LeavesInM Fence.wide 0 P fn a1.tmps (ValPost σ ρ base H H' w v) a1.defers .returning w1 := by
        intro a1 w1 ρ1 p1 h3
        obtain ⟨u, K2, h4, h5⟩ := bd_some h3
        obtain ⟨vs, K3, h6, h7⟩ := bd_some h5
        cases ret_some h7
        obtain ⟨n1, k2⟩ := marks_ok (fn := fn) (tmps := a1.tmps) (R := ValPost σ ρ base H H' w (oneV vs)) h4 p1.post.wr p1.defers
        refine k2 fun w2 hw2 hb2 => ?_
        obtain ⟨b1, b2, b3, vs', b4, b5⟩ := results_ok (P := P) p1.tmps hw2 _ K2 _ vs rfl rfl h6
        refine ⟨_, results_run b4, _, ρ1, rfl, ⟨?_, hw2.log b1 b2, p1.post.below.trans hb2⟩, oneV_rel b5⟩
        rw [b3, n1]; exact p1.post.ext
      have hnext : ∀ h3 : bd (takeMarks ms1) (fun _ => bd (resultsA P T1 fn.results.toList) fun vs => ret (Out.val (oneV vs))) K = some (.val v, H'), K.next ≤ H'.next := fun h3 => by
        obtain ⟨es, d, _⟩ := fr_bd (fr_takeMarks ms1) (fun _ => fr_bd (fr_resultsA P T1 fn.results.toList) fun vs => fr_ret (Out.val (oneV vs))) K _ H' h3
        exact d.next
      refine callsIn_of_wp_marks hfn hb trivial ?_ rfl
      have hstart := params_start (nt := fn.ntmps) hr hle
      cases e with
      | exit id => exact (fail_some h2).elim
      | nrm => exact ACode.wp (n := n) (k1 σ ρ base w { tmps := args' ++ Array.replicate (fn.ntmps - args'.size) undef, defers := [] } none _ hσ hwr (hf.left (hnext h2)) hstart rfl rfl fun a1 w1 ρ1 p1 => key a1 w1 ρ1 p1 h2)
      | ret => exact ACode.wp (n := n) (k1 σ ρ base w { tmps := args' ++ Array.replicate (fn.ntmps - args'.size) undef, defers := [] } none _ hσ hwr (hf.left (hnext h2)) hstart rfl rfl fun a1 w1 ρ1 p1 => key a1 w1 ρ1 p1 h2)
end
end Go.AM
namespace Go.AM
open Go Go.RowKit
section
variable {P : Program} {σ : Nat → Value} {ρ : Ren} {base nt : Nat} {H H' : AHeap} {w : World} {T : Tmps} {a : Act} {ih : Task → M Out} {n : Nat}
theorem Post.trans {ρ1 ρ2 : Ren} {K : AHeap} {w1 w2 : World} (h : Post σ ρ ρ1 base H K w w1) (k : Post σ ρ1 ρ2 base K H' w1 w2) (m1 : H.next ≤ K.next) (m2 : K.next ≤ H'.next) : Post σ ρ ρ2 base H H' w w2 :=
  ⟨h.ext.trans k.ext m1 m2, k.wr, h.below.trans k.below⟩
theorem Post.of_same {ρ' : Ren} {K : AHeap} {w1 : World} (h : Post σ ρ ρ' base H K w w1) (hb : H'.blks = K.blks) (hl : H'.lo = K.lo) (hn : H'.next = K.next) : Post σ ρ ρ' base H H' w w1 :=
  ⟨by rw [hn]; exact h.ext, h.wr.log hb hl, h.below⟩
/-- a loop's record is turned -/
theorem turn_ok {l : Nat} {L : Loc} {st st2 : LoopState} {pd pd2 : Option Code} {nt2 : Nat} {T2 : Tmps} {ps : List Tmp} {as bo : Code} {d : Nat} {u : Unit} (hwr : WR σ ρ base H w) (hL : ρ l = some L)
    (hb : H.blks.get l = some (.loop st pd nt2 T2 ps as bo d)) (h : wr l (.loop st2 pd2 nt2 T2 ps as bo d) H = some (u, H')) :
    H'.next = H.next ∧ ∃ r : Loop, w.heap[L.blk]? = some (.loop r) ∧ r.state = st ∧ r.pending = pd ∧ WR σ ρ base H' (w.putObj L.blk (.loop { r with state := st2, pending := pd2 })) ∧ Below base w (w.putObj L.blk (.loop { r with state := st2, pending := pd2 })) := by
  obtain ⟨hlo, ⟨b0, hb0⟩, hk, hkl, hkn⟩ := wr_some h
  obtain ⟨L', hL', fn, tm, D, q1, q2, q3⟩ := hwr.blk l _ hb
  rw [hL] at hL'; cases hL'
  refine ⟨hkn, _, q2, rfl, rfl, ?_⟩
  exact hwr.put (b := .loop st2 pd2 nt2 T2 ps as bo d) hb hL hlo (putObj_upd _ q2) ⟨fn, tm, D, q1, rfl, q3⟩ hk hkl
theorem endRound_ok {l : Nat} {L : Loc} {e : AExit} {v : AVal} (hwr : WR σ ρ base H w) (hL : ρ l = some L) (h : endRoundA l e H = some (.val v, H')) (Q : Act) :
    H'.next = H.next ∧ ∀ R : Ending → World → Prop, (∀ v' w', WR σ ρ base H' w' → Below base w w' → Rel σ ρ v v' → R (.returned v') w') → roundPost P L.blk R (exitE e) Q w := by
  obtain ⟨blk, K, h1, h2⟩ := bd_some h
  obtain ⟨hb, e1, e2, e3⟩ := rd_some h1
  cases blk with
  | loop st pd nt2 T2 ps as bo d =>
    have hwr' : WR σ ρ base K w := hwr.log e1 e2
    have hb' : K.blks.get l = some (.loop st pd nt2 T2 ps as bo d) := by rw [e1]; exact hb
    cases e with
    | nrm =>
      obtain ⟨u, K2, h3, h4⟩ := bd_some h2
      cases ret_some h4
      obtain ⟨n1, r, q1, q2, q3, q4, q5⟩ := turn_ok hwr' hL hb' h3
      exact ⟨n1.trans e3, fun R k => ⟨_, _, run_endRound none q1, k _ _ q4 q5 (by unfold Rel; rfl)⟩⟩
    | ret =>
      obtain ⟨u, K2, h3, h4⟩ := bd_some h2
      cases ret_some h4
      obtain ⟨n1, r, q1, q2, q3, q4, q5⟩ := turn_ok hwr' hL hb' h3
      exact ⟨n1.trans e3, fun R k => ⟨_, _, run_endRound (some .ret) q1, k _ _ q4 q5 (by unfold Rel; rfl)⟩⟩
    | exit id =>
      obtain ⟨u, K2, h3, h4⟩ := bd_some h2
      cases ret_some h4
      obtain ⟨n1, r, q1, q2, q3, q4, q5⟩ := turn_ok hwr' hL hb' h3
      exact ⟨n1.trans e3, fun R k => ⟨_, _, run_endRound (some (.exit id)) q1, k _ _ q4 q5 (by unfold Rel; rfl)⟩⟩
  | _ => exact (fail_some h2).elim
theorem begin_ok {l : Nat} {L : Loc} {u : Unit} (hwr : WR σ ρ base H w) (hL : ρ l = some L) (h : beginA l H = some (u, H')) :
    H'.next = H.next ∧ ∃ w', (Instr.beginRound L.blk).run P w = .ok () w' ∧ WR σ ρ base H' w' ∧ Below base w w' := by
  obtain ⟨blk, K, h1, h2⟩ := bd_some h
  obtain ⟨hb, e1, e2, e3⟩ := rd_some h1
  cases blk with
  | loop st pd nt2 T2 ps as bo d =>
    cases st with
    | ready =>
      obtain ⟨n1, r, q1, q2, q3, q4, q5⟩ := turn_ok (hwr.log (K := K) e1 e2) hL (by rw [e1]; exact hb) h2
      refine ⟨n1.trans e3, _, run_beginRound q1 q2, ?_, ?_⟩
      · have : { r with state := LoopState.busy, pending := pd } = { r with state := LoopState.busy } := by rw [← q3]
        rw [this] at q4; exact q4
      · have : { r with state := LoopState.busy, pending := pd } = { r with state := LoopState.busy } := by rw [← q3]
        rw [this] at q5; exact q5
    | _ => exact (fail_some h2).elim
  | _ => exact (fail_some h2).elim
theorem runRound_ok (hco : CodeOK P n ih) (hfr : ∀ t, Fr (ih t)) {l : Nat} {args : List AVal} {v : AVal} (h : runRound ih l args H = some (.val v, H')) {args' : Array Value} {L : Loc} {nx : Next} (hσ : One σ) (hwr : WR σ ρ base H w) (hf : Free ρ H.next H'.next) (hL : ρ l = some L) (hr : RelL σ ρ args args'.toList)
    (hy : (Instr.yield L.blk args').run P w = .ok nx w) : ∃ fn tm as bo, nx = .round L.blk fn tm as bo ∧ RoundIn Fence.wide 0 P L.blk fn tm as bo w (ValPost σ ρ base H H' w v) := by
  obtain ⟨blk, K, h1, h2⟩ := bd_some h
  obtain ⟨hb, e1, e2, e3⟩ := rd_some h1
  cases blk with
  | loop st pd nt2 T0 ps as bo d =>
    obtain ⟨L', hL', fn, tm, D, q1, q2, q3⟩ := hwr.blk l _ hb
    rw [hL] at hL'; cases hL'
    simp only at h2
    cases hs : setParams nt2 T0 ps args with
    | none => simp only [hs] at h2; exact (fail_some h2).elim
    | some T1 =>
      simp only [hs] at h2
      have hsz : args'.size = ps.length := by
        have h1 : ∀ (ps : List Tmp) (args : List AVal) (T T' : Tmps), setParams nt2 T ps args = some T' → args.length = ps.length := by
          intro ps
          induction ps with
          | nil => intro args T T' h; cases args with | nil => rfl | cons x xs => cases h
          | cons p ps ih2 =>
            intro args T T' h
            cases args with
            | nil => cases h
            | cons x xs => simp only [setParams] at h; obtain ⟨_, h⟩ := condO_some h; simp [ih2 xs _ _ h]
        have := h1 ps args T0 T1 hs
        have := hr.length
        simp at this; omega
      rw [run_yield q2 (by simpa using hsz)] at hy
      cases hy
      refine ⟨_, _, _, _, rfl, ?_⟩
      obtain ⟨o, K1, h3, h4⟩ := bd_some h2
      have m1 := next_of hfr h3
      obtain ⟨e, T2, ms2, rfl, k1⟩ := hco _ _ _ _ _ _ _ _ h3
      cases e with
      | ret => exact (fail_some h4).elim
      | exit id => exact (fail_some h4).elim
      | nrm =>
        cases ms2 with
        | cons m ms => exact (fail_some h4).elim
        | nil =>
          obtain ⟨u, K2, h5, h6⟩ := bd_some h4
          obtain ⟨o, K3, h7, h8⟩ := bd_some h6
          have m3 := next_of hfr h7
          obtain ⟨e, T3, ms3, rfl, k2⟩ := hco _ _ _ _ _ _ _ _ h7
          have h8 : endRoundA l e K3 = some (.val v, H') := h8
          have n2 : K2.next = K1.next := by
            obtain ⟨blk, A, g1, g2⟩ := bd_some h5
            obtain ⟨_, _, _, e3⟩ := rd_some g1
            split at g2
            · obtain ⟨_, _, _, _, e4⟩ := wr_some g2; rw [e4, e3]
            · exact (fail_some g2).elim
          have m4 : K3.next ≤ H'.next := by
            obtain ⟨es, d, _⟩ := fr_endRoundA l e K3 _ H' h8
            exact d.next
          have htm : TRel σ ρ nt2 T1 ((ps.toArray.zip args').foldl (fun tmps (x : Tmp × Value) => tmps.setIfInBounds x.1 x.2) tm) := by
            have := setParams_rel ps args args'.toList T0 T1 tm hs q3 hr
            rw [← Array.foldl_toList]
            simpa using this
          have hwrK : WR σ ρ base K w := hwr.log e1 e2
          refine roundIn_of_wpIn trivial ?_
          have := k1 σ ρ base w { tmps := ((ps.toArray.zip args').foldl (fun tmps (x : Tmp × Value) => tmps.setIfInBounds x.1 x.2) tm), defers := [] } (some L.blk)
            (Exit.then (fun a₁ w₁ => ∃ w₂, (Instr.beginRound L.blk).run P w₁ = .ok () w₂ ∧ bo.wpIn (Fence.wide.inRound L.blk) 0 P (roundPost P L.blk (ValPost σ ρ base H H' w v)) a₁ w₂) (fun _ _ _ => False))
            hσ hwrK (by rw [e3]; exact hf.left (by omega)) htm ⟨L, hL, rfl⟩ rfl ?_
          · exact this.wp
          · intro a1 w1 ρ1 p1
            have hL1 : ρ1 l = some L := p1.post.ext.le _ _ hL
            obtain ⟨n3, w2, g1, g2, g3⟩ := begin_ok (P := P) p1.post.wr hL1 h5
            refine ⟨w2, g1, ?_⟩
            have hf1 : Free ρ1 K1.next H'.next := p1.post.ext.free (by rw [e3]; exact hf) m1
            have := k2 σ ρ1 base w2 a1 (some L.blk) (roundPost P L.blk (ValPost σ ρ base H H' w v)) hσ g2 (by rw [n2]; exact hf1.left m4) p1.tmps ⟨L, hL1, rfl⟩ p1.defers ?_
            · exact this.wp
            · intro a3 w3 ρ3 p3
              have hL3 : ρ3 l = some L := p3.post.ext.le _ _ hL1
              obtain ⟨n4, k3⟩ := endRound_ok (P := P) (v := v) p3.post.wr hL3 h8 a3
              refine k3 _ fun v' w' x1 x2 x3 => ⟨v', ρ3, rfl, ⟨?_, x1, ?_⟩, x3⟩
              · rw [n4]
                have y1 : Ext ρ ρ1 H.next K1.next := by rw [← e3]; exact p1.post.ext
                have y2 : Ext ρ1 ρ3 K1.next K3.next := by rw [← n2]; exact p3.post.ext
                exact y1.trans y2 (by omega) (by omega)
              · exact ((p1.post.below.trans g3).trans p3.post.below).trans x2
  | _ => exact (fail_some h2).elim
end
end Go.AM
namespace Go.AM
open Go Go.RowKit
section
variable {P : Program} {σ : Nat → Value} {ρ : Ren} {base nt : Nat} {H H' : AHeap} {w : World} {T : Tmps} {a : Act} {ih : Task → M Out} {n : Nat}
theorem newBlk_ok {b : ABlk} {id : Nat} {o : Obj} {L : Loc} (hL : L.blk = w.heap.size) (h : nw b H = some (id, H')) (hwr : WR σ ρ base H w) (hf : Free ρ H.next H'.next) (hb : ∀ ρ', Le ρ ρ' → BR σ ρ' True L b (some o)) :
    H'.next = H.next + 1 ∧ ∃ ρ', Post σ ρ ρ' base H H' w (w.alloc o) ∧ ρ' id = some L := by
  obtain ⟨rfl, hlo, hk, hkl, hkn⟩ := nw_some h
  obtain ⟨ρ', x1, x2, x3, x4⟩ := hwr.new (L := L) (b := b) (hf H.next (Nat.le_refl _) (by omega)) (fun j bj Lj hj hLj => by rw [hL]; exact Nat.ne_of_lt (live_lt hwr hj hLj)) (by rw [hL]; exact hwr.base)
    (by rw [hL]; exact push_upd w o) (fun ρ' hle _ => hb ρ' hle) hk hkl hkn
  exact ⟨hkn, ρ', ⟨x1, x3, x4⟩, x2⟩
theorem enter_ok {rA r : Option Nat} {ps : Array Tmp} {as bo : Code} {d l : Nat} {ms : List Nat} {K : AHeap} (hr : RR ρ rA r) (h1 : enterA rA H = some ((d, ms), K)) (h2 : nw (.loop .ready none nt T ps.toList as bo d) K = some (l, H'))
    (hwr : WR σ ρ base H w) (hf : Free ρ H.next H'.next) (hT : TRel σ ρ nt T a.tmps) (fn : FuncId) :
    ∃ L mark w' ρ', (Instr.enterLoop fn a.tmps ps as bo r).run P w = .ok (L.blk, mark) w' ∧ Post σ ρ ρ' base H H' w w' ∧ ρ' l = some L ∧ DRel ρ' ms mark := by
  cases rA with
  | none =>
    unfold RR at hr; subst hr
    obtain ⟨r0, K1, g1, g2⟩ := bd_some h1
    cases ret_some g2
    obtain ⟨_, _, _, _, n2⟩ := nw_some h2
    obtain ⟨n1, ρ1, p1, q1⟩ := newBlk_ok (σ := σ) (w := w) (o := .deferred (some [])) (L := ⟨w.heap.size, 0, 0⟩) rfl g1 hwr (hf.left (by omega)) (fun _ _ => rfl)
    obtain ⟨_, ρ2, p2, q2⟩ := newBlk_ok (σ := σ) (w := w.alloc (.deferred (some []))) (o := .loop { state := .ready, pending := none, fn, tmps := a.tmps, params := ps, assign := as, body := bo, defers := w.heap.size }) (L := ⟨w.heap.size + 1, 0, 0⟩) (by simp) h2 p1.wr (p1.ext.free hf (by omega))
      (fun ρ' hle => ⟨fn, a.tmps, ⟨w.heap.size, 0, 0⟩, hle _ _ q1, rfl, hT.mono (p1.ext.le.trans hle)⟩)
    refine ⟨⟨w.heap.size + 1, 0, 0⟩, _, _, ρ2, run_enterLoop_outer fn a.tmps ps as bo, p1.trans p2 (by omega) (by omega), q2, ?_⟩
    exact ⟨⟨w.heap.size, 0, 0⟩, [], p2.ext.le _ _ q1, rfl, rfl⟩
  | some l0 =>
    obtain ⟨L0, hL0, rfl⟩ := hr
    obtain ⟨blk, K1, g1, g2⟩ := bd_some h1
    obtain ⟨hb, e1, e2, e3⟩ := rd_some g1
    cases blk with
    | loop st pd nt2 T2 ps2 as2 bo2 d2 =>
      cases ret_some g2
      obtain ⟨L', hL', fn2, tm2, D, q1, q2, q3⟩ := hwr.blk l0 _ hb
      rw [hL0] at hL'; cases hL'
      obtain ⟨_, ρ2, p2, q4⟩ := newBlk_ok (σ := σ) (w := w) (o := .loop { state := .ready, pending := none, fn, tmps := a.tmps, params := ps, assign := as, body := bo, defers := D.blk }) (L := ⟨w.heap.size, 0, 0⟩) rfl h2 (hwr.log e1 e2) (by rw [e3]; exact hf)
        (fun ρ' hle => ⟨fn, a.tmps, D, hle _ _ q1, rfl, hT.mono hle⟩)
      refine ⟨⟨w.heap.size, 0, 0⟩, _, _, ρ2, run_enterLoop_inner q2 fn a.tmps ps as bo, ⟨by rw [← e3]; exact p2.ext, p2.wr, p2.below⟩, q4, rfl⟩
    | _ => exact (fail_some g2).elim
theorem rangeFunc_ok (hname : NoNum P) {rA : Option Nat} {x : Operand} {ps : Array Tmp} {as bo : Code} {ms : List Nat} {o : Out} (hco : CodeOK P n ih) (hc : CallOK P ih) (hfr : ∀ t, Fr (ih t)) (h : runCode P ih nt rA (.rangeFunc x ps as bo) T ms H = some (o, H')) :
    Goal P (n + 1) nt rA (.rangeFunc x ps as bo) T ms H o H' := by
  unfold runCode at h
  simp only at h
  generalize hx : ev T x = fv at h
  split at h
  · rename_i k first cap
    obtain ⟨hk, h⟩ := cond_some h
    obtain ⟨⟨d, ms0⟩, K1, h1, h⟩ := bd_some h
    obtain ⟨l, K2, h2, h⟩ := bd_some h
    obtain ⟨u, K3, h3, h⟩ := bd_some h
    obtain ⟨blk, K4, h4, h⟩ := bd_some h
    have h3 := outVal_some h3
    obtain ⟨hb4, e1, e2, e3⟩ := rd_some h4
    cases blk with
    | loop st pd nt2 T2 ps2 as2 bo2 d2 =>
      have hst : st ≠ .busy := by rintro rfl; exact fail_some (H := K4) h
      have h : bd (wr l (.loop .exhausted pd nt2 T2 ps2 as2 bo2 d2)) (fun _ => match pd with
          | none => ret (.exit .nrm T (ms0 ++ ms))
          | some c => ih (.code nt rA c T (ms0 ++ ms))) K4 = some (o, H') := by
        cases st <;> first | exact h | exact absurd rfl hst
      obtain ⟨u2, K5, h5, h⟩ := bd_some h
      have m1 : H.next ≤ K1.next := by obtain ⟨es, d, _⟩ := fr_enterA rA H _ K1 h1; exact d.next
      have m2 : K1.next ≤ K2.next := by obtain ⟨_, _, _, _, n2⟩ := nw_some h2; omega
      have m3 := next_of hfr h3
      have m5 : K5.next = K3.next := by obtain ⟨_, _, _, _, e4⟩ := wr_some h5; rw [e4, e3]
      have main : ∀ (e : AExit) (T' : Tmps) (ms' : List Nat) (m6 : K5.next ≤ H'.next), (∀ (σ : Nat → Value) (ρ : Ren) (base : Nat) (w : World) (a : Act) (r : Option Nat) (Q : Exit → Act → World → Prop), One σ → WR σ ρ base K5 w → Free ρ K5.next H'.next → TRel σ ρ nt T a.tmps → RR ρ rA r → DRel ρ (ms0 ++ ms) a.defers →
          (∀ a' w' ρ', CodePost σ ρ base nt K5 H' w T' ms' ρ' a' w' → Q (exitE e) a' w') → (match (generalizing := false) pd with | none => Q .normal a w | some c => c.wpIn (FR r) 0 P Q a w)) →
          ∀ (σ : Nat → Value) (ρ : Ren) (base : Nat) (w : World) (a : Act) (r : Option Nat) (Q : Exit → Act → World → Prop), One σ → WR σ ρ base H w → Free ρ H.next H'.next → TRel σ ρ nt T a.tmps → RR ρ rA r → DRel ρ ms a.defers →
            (∀ a' w' ρ', CodePost σ ρ base nt H H' w T' ms' ρ' a' w' → Q (exitE e) a' w') → ACode r (n + 1) P (.rangeFunc x ps as bo) Q a w := by
        intro e T' ms' m6 kk σ ρ base w a r Q hσ hwr hf hT hr hd hQ
        refine wpIn_rangeFunc fun fn _ => ?_
        obtain ⟨L, mark, w1, ρ1, a1, p1, q1, q2⟩ := enter_ok (P := P) (fn := fn) hr h1 h2 hwr (hf.left (by omega)) hT
        have hv := ev_rel (a := a) hx hT
        unfold Rel at hv
        obtain ⟨fs, cs, he, g1, g2⟩ := hv
        have hres : (resolve a.eval (rangeCall x L.blk) 0).run P w1 = .ok { target := .fn (.func k) cs, args := fs ++ #[.func (.yield L.blk) #[] #[]] } w1 := by
          have e1 : (#[Operand.const (.func (.yield L.blk) #[] #[])].map a.eval : Array Value) = #[.func (.yield L.blk) #[] #[]] := by simp [Act.eval]
          simp only [resolve, e1, he, Deferred.ofValue, Sem.run_pure]
        have hyl : Rel σ ρ1 (.yield l) (.func (.yield L.blk) #[] #[]) := by unfold Rel; exact ⟨L, q1, rfl⟩
        have hargs : RelL σ ρ1 (first ++ [.yield l] ++ cap) (fs ++ #[Value.func (.yield L.blk) #[] #[]] ++ cs).toList := by
          have := ((RelL.mono p1.ext.le _ _ g1).append (.cons hyl .nil)).append (RelL.mono p1.ext.le _ _ g2)
          simpa using this
        have hcall := hc k _ K2 u K3 h3 σ ρ1 base w1 _ hσ p1.wr ((p1.ext.free hf (by omega)).left (by omega)) hargs
        refine ⟨L.blk, mark, w1, _, w1, k, fs ++ #[Value.func (.yield L.blk) #[] #[]] ++ cs, w1, a1, hres, fun _ _ => trivial, ?_, fun h => by simp [FR, Fence.wide] at h, ?_⟩
        · simp only [invoke]
          exact isFn_run hname hk _ w1
        · have h5' : CallsIn (FR r) 0 P k (fs ++ #[Value.func (.yield L.blk) #[] #[]] ++ cs) w1 (ValPost σ ρ1 base K2 K3 w1 u) := hcall
          refine h5'.mono ?_
          rintro en w3 ⟨v', ρ3, rfl, p3, _⟩
          have hL3 : ρ3 l = some L := p3.ext.le _ _ q1
          obtain ⟨n5, rc, b1, b2, b3, b4, b5⟩ := turn_ok (p3.wr.log (K := K4) e1 e2) hL3 (by rw [e1]; exact hb4) h5
          refine ⟨pd, w3.putObj L.blk (.loop { rc with state := .exhausted }), by rw [← b3]; exact run_endLoop b1 (by rw [b2]; exact hst), ?_⟩
          have erc : { rc with state := LoopState.exhausted, pending := pd } = { rc with state := LoopState.exhausted } := by rw [← b3]
          rw [erc] at b4 b5
          have pall : Post σ ρ ρ3 base H K5 w (w3.putObj L.blk (.loop { rc with state := .exhausted })) :=
            ⟨by rw [m5]; exact (p1.trans p3 (by omega) (by omega)).ext, b4, ((p1.below.trans p3.below).trans b5)⟩
          refine kk σ ρ3 base _ { a with defers := mark ++ a.defers } r Q hσ b4 (pall.ext.free hf (by omega)) (hT.mono pall.ext.le) (hr.mono pall.ext.le) ((q2.mono p3.ext.le).append (hd.mono pall.ext.le)) ?_
          intro a' w' ρ' p'
          exact hQ a' w' ρ' ⟨pall.trans p'.post (by omega) (by omega), p'.tmps, p'.defers⟩
      cases pd with
      | none =>
        cases ret_some h
        refine ⟨.nrm, T, ms0 ++ ms, rfl, main .nrm T (ms0 ++ ms) (Nat.le_refl _) ?_⟩
        intro σ ρ base w a r Q hσ hwr hf hT hr hd hQ
        exact hQ a w ρ (.stay hwr hT hd)
      | some c =>
        have m6 := next_of hfr h
        obtain ⟨e, T', ms', rfl, kk⟩ := hco _ _ _ _ _ _ _ _ h
        exact ⟨e, T', ms', rfl, main e T' ms' m6 fun σ ρ base w a r Q hσ hwr hf hT hr hd hQ => (kk σ ρ base w a r Q hσ hwr hf hT hr hd hQ).wp⟩
    | _ => exact (fail_some h).elim
  · exact (fail_some h).elim
theorem runCode_ok (hm : P.follows .mixedOrders = true) (hname : NoNum P) (hco : CodeOK P n ih) (hc : CallOK P ih) (hro : RoundOK P ih) (hfr : ∀ t, Fr (ih t)) {rA : Option Nat} {c : Code} {ms : List Nat} {o : Out} (h : runCode P ih nt rA c T ms H = some (o, H')) :
    Goal P (n + 1) nt rA c T ms H o H' := by
  cases c with
  | skip =>
    cases ret_some h
    exact ⟨.nrm, T, ms, rfl, fun σ ρ base w a r Q hσ hwr hf hT hr hd hQ => wpIn_skip (hQ a w ρ (.stay hwr hT hd))⟩
  | exit id =>
    cases ret_some h
    exact ⟨.exit id, T, ms, rfl, fun σ ρ base w a r Q hσ hwr hf hT hr hd hQ => wpIn_exit (hQ a w ρ (.stay hwr hT hd))⟩
  | ret =>
    cases ret_some h
    exact ⟨.ret, T, ms, rfl, fun σ ρ base w a r Q hσ hwr hf hT hr hd hQ => wpIn_ret (hQ a w ρ (.stay hwr hT hd))⟩
  | region id ops draw => exact region_ok hm hname hc hro hfr h
  | seq x y => exact seq_ok hco hfr h
  | cond x y z => exact cond_ok hco h
  | block id c => exact block_ok hco h
  | loop c => exact loop_ok hco hfr h
  | rangeFunc x ps as bo => exact rangeFunc_ok hname hco hc hfr h
  | _ => exact (fail_some (H := H) h).elim
/-- what is taken as told is so -/
def ExtOK (P : Program) (X : Told) : Prop := FrX X ∧ ∀ (f : FuncId) (g : List AVal → M AVal), X f = some g → ∀ (args : List AVal) (H : AHeap) (v : AVal) (H' : AHeap), g args H = some (v, H') →
  ∀ (σ : Nat → Value) (ρ : Ren) (base : Nat) (w : World) (args' : Array Value), One σ → WR σ ρ base H w → Free ρ H.next H'.next → RelL σ ρ args args'.toList → CallsIn Fence.wide 0 P f args' w (ValPost σ ρ base H H' w v)
theorem extOK_none : ExtOK P noExt := ⟨frX_none, fun _ _ h => by cases h⟩
theorem run_ok (hm : P.follows .mixedOrders = true) (hname : NoNum P) {X : Told} (hX : ExtOK P X) : ∀ n, CodeOK P n (run P X n) ∧ CallOK P (run P X n) ∧ RoundOK P (run P X n) := by
  intro n
  induction n with
  | zero =>
    refine ⟨fun _ _ _ _ _ H _ _ h => (fail_some (H := H) h).elim, fun _ _ H _ _ h => (fail_some (H := H) h).elim, fun _ _ H _ _ h => (fail_some (H := H) h).elim⟩
  | succ n ih =>
    obtain ⟨h1, h2, h3⟩ := ih
    refine ⟨fun nt rA c T ms H o H' h => runCode_ok hm hname h1 h2 h3 (fr_run P hX.1 n) h, fun f args H v H' h σ ρ base w args' hσ hwr hf hr => ?_,
      fun l args H v H' h σ ρ base w args' L nx hσ hwr hf hL hr hy => runRound_ok h1 (fr_run P hX.1 n) h hσ hwr hf hL hr hy⟩
    have h : runStep P X (run P X n) (.call f args) H = some (Out.val v, H') := h
    cases hg : X f with
    | some g =>
      have e : runStep P X (run P X n) (.call f args) = bd (g args) fun v => ret (Out.val v) := by
        show (match X f with
          | some g => bd (g args) fun v => ret (Out.val v)
          | none => runCall P (run P X n) f args) = _
        rw [hg]
      rw [e] at h
      obtain ⟨v1, H1, h, h'⟩ := bd_some h
      cases ret_some h'
      exact hX.2 f g hg args H v H' h σ ρ base w args' hσ hwr hf hr
    | none =>
      have e : runStep P X (run P X n) (.call f args) = runCall P (run P X n) f args := by
        show (match X f with
          | some g => bd (g args) fun v => ret (Out.val v)
          | none => runCall P (run P X n) f args) = _
        rw [hg]
      rw [e] at h
      exact runCall_ok h1 (fr_run P hX.1 n) h hσ hwr hf hr
/-- the empty memory -/
def empty : AHeap := { blks := .nil, next := 0, lo := 0, log := [] }
/-- WHAT IS CALCULATED IS WHAT THE PROGRAM DOES -/
theorem calls_of_run (hm : P.follows .mixedOrders = true) (hname : NoNum P) {X : Told} (hX : ExtOK P X) {n : Nat} {f : FuncId} {args : List AVal} {v : AVal} {H H' : AHeap} (h : run P X n (.call f args) H = some (.val v, H')) (σ : Nat → Value) (hσ : One σ) (ρ : Ren) (w : World)
    (hwr : WR σ ρ w.heap.size H w) (hf : Free ρ H.next H'.next) (args' : Array Value) (hr : RelL σ ρ args args'.toList) :
    Calls P f args' w fun e w' => ∃ v' ρ', e = .returned v' ∧ Rel σ ρ' v v' ∧ WR σ ρ' w.heap.size H' w' ∧ Below w.heap.size w w' := by
  have := (run_ok hm hname hX n).2.1 f args H v H' h σ ρ w.heap.size w args' hσ hwr hf hr
  refine callsIn_wide.1 (this.mono ?_)
  rintro e w' ⟨v', ρ', rfl, p, hv⟩
  exact ⟨v', ρ', rfl, hv, p.wr, p.below⟩
theorem wr_empty {w : World} : WR σ (fun _ => none) w.heap.size empty w := by
  refine ⟨fun id b h => ?_, fun id b L h => ?_, fun i j bi bj Li Lj h => ?_, Nat.le_refl _⟩ <;> (rw [show empty.blks = .nil from rfl, Tr.get_nil] at h; cases h)
end
end Go.AM
namespace Go.AM
open Go Go.RowKit Go.ChangeShapes Go.WideShapes Go.ChangeAt
/-- a calculation that ends in 'true' -/
def isTrue : Option (Out × AHeap) → Bool
  | some (.val (.bool true), _) => true
  | _ => false
theorem isTrue_spec {r : Option (Out × AHeap)} (h : isTrue r = true) : ∃ H', r = some (.val (.bool true), H') := by
  unfold isTrue at h
  split at h
  · exact ⟨_, rfl⟩
  · cases h
def noNumB (P : Program) : Bool := P.funcs.toList.all fun fn => !(fn.name == "runtime.NumGoroutine")
theorem noNum_of {P : Program} (h : noNumB P = true) : NoNum P := by
  intro k fn hk e
  have hm : fn ∈ P.funcs.toList := Array.mem_def.1 (Array.mem_of_getElem? hk)
  have := List.all_eq_true.1 h fn hm
  simp [e] at this
theorem calls_true {P : Program} (hm : P.follows .mixedOrders = true) (hname : noNumB P = true) (n : Nat) {f : FuncId} (args : List AVal) (h : isTrue (run P noExt n (.call f args) empty) = true) (σ : Nat → Value) (hσ : One σ) (args' : Array Value) (hr : RelL σ (fun _ => none) args args'.toList) (w : World) :
    Calls P f args' w fun e w' => e = .returned (.bool true) ∧ Below w.heap.size w w' := by
  obtain ⟨H', h⟩ := isTrue_spec h
  refine (calls_of_run hm (noNum_of hname) extOK_none h σ hσ (fun _ => none) w wr_empty (fun _ _ _ => rfl) args' hr).mono ?_
  rintro e w' ⟨v', ρ', rfl, hv, _, hb⟩
  unfold Rel at hv
  rw [hv]
  exact ⟨rfl, hb⟩
theorem post_of_below {H : Type} {enc : TypeId × Value → H} {P : Program} {f : Func} {s : ChangeSpec} {apart fresh handsOn again : Bool} {W W' : World} {args : Array Value} {v : Value} {ds gs : List (DataW H)} {before pa pv : List MemPlace}
    (hW : DataW.Whole enc P f.params.toList s.vars apart W args.toList ds gs before) (hb : Below W.heap.size W W')
    (hres : ∀ (b : Nat) (sp : Nat → Bool) (hd : Bool), DataW.TrodAll enc P W' b sp hd f.resultTypes.toList (v.resultList f.resultTypes.size) (s.fn H (ds ++ gs)).results [])
    (hargs : ∀ sp : Nat → Bool, (∀ p ∈ before, sp p.block = true) → DataW.TrodAll enc P W' 0 sp true f.params.toList args.toList (s.fn H (ds ++ gs)).args pa)
    (hvars : ∀ sp : Nat → Bool, (∀ p ∈ before, sp p.block = true) → DataW.TrodVars enc P W' sp s.vars (s.fn H (ds ++ gs)).vars pv)
    (hps : before = pa ++ pv)
    (hok : ∀ (j : Nat) (t : TypeId) (r : Value), f.resultTypes[j]? = some t → (v.resultList f.resultTypes.size)[j]? = some r → Value.okWide P W' .any 0 t r) :
    s.post enc P f apart fresh handsOn again W args v W' := by
  have hold : ∀ p ∈ before, (fun b => decide (b < W.heap.size)) p.block = true := fun p hp => by simpa using hW.lt p hp
  have hlt := hW.lt
  refine ⟨ds, gs, before, [], pa, pv, hW, hres _ _ _, hargs _ hold, hvars _ hold, World.keptBut_mono (fun p hp => ⟨hp, ?_⟩) (hb.frame (· ∈ before)), fun _ => ?_⟩
  · rw [hps, List.mem_append] at hp
    exact Or.inr hp
  · obtain ⟨_, _, _, _, _, hz, hn⟩ := hW
    refine ⟨hok, _, _, ([] ++ pa) ++ pv, ⟨[] ++ pa, pv, trodAll_append (hargs _ (fun _ _ => rfl)) (hres _ _ _), hvars _ (fun _ _ => rfl), rfl, ?_, ?_⟩, ?_⟩
    · intro b off hp
      have hm : MemPlace.cell b off ∈ before := by rw [hps]; simpa using hp
      rw [hb.frozen (p := ⟨b, off, none⟩) (hlt _ hm)]
      exact hz b off hm
    · intro ha
      have := hn ha
      rw [hps] at this
      simpa using this
    · intro p hp _
      rw [hps]
      simpa using hp
end Go.AM
namespace Go.AM
open Go Go.RowKit
/-- arguments that are never looked into -/
def anyArgs (k : Nat) : List AVal := (List.range k).map AVal.opq
theorem calls_true_any {P : Program} (hm : P.follows .mixedOrders = true) (hname : noNumB P = true) (n : Nat) {f : FuncId} (l : List Value) (hl : l.all Value.oneCell' = true) (h : isTrue (run P noExt n (.call f (anyArgs l.length)) empty) = true) (w : World) :
    Calls P f l.toArray w fun e w' => e = .returned (.bool true) ∧ Below w.heap.size w w' := by
  refine calls_true hm hname n _ h (fun i => l.getD i (.bool true)) ?_ l.toArray ?_ w
  · intro i
    show (l.getD i (.bool true)).oneCell' = true
    rw [List.getD_eq_getElem?_getD]
    cases hi : l[i]? with
    | none => rfl
    | some x => exact List.all_eq_true.1 hl x (List.mem_of_getElem? hi)
  · refine RelL.of_get (by simp [anyArgs]) fun i x y hx hy => ?_
    have : x = .opq i := by
      simp only [anyArgs, List.getElem?_map, Option.map_eq_some_iff] at hx
      obtain ⟨j, hj, rfl⟩ := hx
      rw [List.getElem?_eq_some_iff] at hj
      obtain ⟨_, hj⟩ := hj
      simp at hj
      rw [hj]
    subst this
    unfold Rel
    have hy : l[i]? = some y := by simpa using hy
    show y = l.getD i (.bool true)
    rw [List.getD_eq_getElem?_getD, hy]; rfl
end Go.AM
