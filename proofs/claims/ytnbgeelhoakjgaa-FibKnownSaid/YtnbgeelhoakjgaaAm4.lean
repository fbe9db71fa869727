/- Part 4 of a calculation in a small memory that is proved to answer as the program does: see the last part. -/
import Derived.Test.YtnbgeelhoakjgaaAm3
namespace Go.AM
open Go

/-! ### what a piece of work touches, and that it hangs on nothing else -/
structure Does (es : List (Nat × Bool)) (H H' : AHeap) : Prop where
  log : H'.log = es ++ H.log
  next : H.next ≤ H'.next
  lo : H'.lo = H.lo
  same : ∀ id, (id, true) ∉ es → H'.blks.get id = H.blks.get id
  touch : ∀ id b, (id, b) ∈ es → H.blks.get id ≠ none ∨ (H.next ≤ id ∧ id < H'.next)
  wlo : ∀ id, (id, true) ∈ es → H.lo ≤ id
  gone : ∀ id, H'.blks.get id ≠ none → H.blks.get id ≠ none ∨ (H.next ≤ id ∧ id < H'.next)
def Fr {α : Type} (m : M α) : Prop := ∀ H1 a H1', m H1 = some (a, H1') → ∃ es, Does es H1 H1' ∧
  ∀ H2 : AHeap, H2.next = H1.next → H2.lo ≤ H1.lo → (∀ id b, (id, b) ∈ es → H2.blks.get id = H1.blks.get id) →
    ∃ H2', m H2 = some (a, H2') ∧ Does es H2 H2' ∧ H2'.next = H1'.next ∧ ∀ id b, (id, b) ∈ es → H2'.blks.get id = H1'.blks.get id

theorem Does.refl (H : AHeap) : Does [] H H := ⟨rfl, Nat.le_refl _, rfl, fun _ _ => rfl, by simp, by simp, fun _ h => Or.inl h⟩
theorem Does.trans {es1 es2 : List (Nat × Bool)} {H H' H'' : AHeap} (h1 : Does es1 H H') (h2 : Does es2 H' H'') : Does (es2 ++ es1) H H'' :=
  ⟨by rw [h2.log, h1.log, List.append_assoc], Nat.le_trans h1.next h2.next, h2.lo.trans h1.lo, fun id hid => by
    rw [h2.same id (fun h => hid (by simp [h])), h1.same id (fun h => hid (by simp [h]))],
    fun id b hb => by
      have n1 := h1.next
      have n2 := h2.next
      rcases List.mem_append.1 hb with hb | hb
      · rcases h2.touch id b hb with h | h
        · rcases h1.gone id h with h | h
          · exact Or.inl h
          · exact Or.inr ⟨h.1, by omega⟩
        · exact Or.inr ⟨by omega, h.2⟩
      · rcases h1.touch id b hb with h | h
        · exact Or.inl h
        · exact Or.inr ⟨h.1, by omega⟩,
    fun id hb => by
      rcases List.mem_append.1 hb with hb | hb
      · rw [← h1.lo]; exact h2.wlo id hb
      · exact h1.wlo id hb,
    fun id h => by
      have n1 := h1.next
      have n2 := h2.next
      rcases h2.gone id h with h | h
      · rcases h1.gone id h with h | h
        · exact Or.inl h
        · exact Or.inr ⟨h.1, by omega⟩
      · exact Or.inr ⟨by omega, h.2⟩⟩
variable {α β : Type}
theorem fr_ret (a : α) : Fr (ret a) := by
  intro H1 x H1' h
  simp only [ret, Option.some.injEq, Prod.mk.injEq] at h
  obtain ⟨rfl, rfl⟩ := h
  exact ⟨[], .refl _, fun H2 hn _ _ => ⟨H2, rfl, .refl _, hn, by simp⟩⟩
theorem fr_fail : Fr (fail : M α) := by intro H1 x H1' h; simp [fail] at h
theorem fr_lift (o : Option α) : Fr (lift o) := by
  cases o with
  | none => intro H1 x H1' h; simp [lift] at h
  | some a => exact fr_ret a
theorem fr_bd {m : M α} {f : α → M β} (hm : Fr m) (hf : ∀ a, Fr (f a)) : Fr (bd m f) := by
  intro H1 b H1'' h
  unfold bd at h
  cases h1 : m H1 with
  | none => simp [h1] at h
  | some p =>
    obtain ⟨a, H1'⟩ := p
    simp only [h1] at h
    obtain ⟨es1, d1, k1⟩ := hm H1 a H1' h1
    obtain ⟨es2, d2, k2⟩ := hf a H1' b H1'' h
    refine ⟨es2 ++ es1, d1.trans d2, fun H2 hn hl hag => ?_⟩
    obtain ⟨H2', e1, d1', n1, g1⟩ := k1 H2 hn hl (fun id b hb => hag id b (by simp [hb]))
    have hmid : ∀ id b, (id, b) ∈ es2 → H2'.blks.get id = H1'.blks.get id := by
      intro id b hb
      by_cases hin : ∃ c, (id, c) ∈ es1
      · obtain ⟨c, hc⟩ := hin; exact g1 id c hc
      · rw [d1'.same id (fun h => hin ⟨_, h⟩), d1.same id (fun h => hin ⟨_, h⟩)]
        exact hag id b (by simp [hb])
    obtain ⟨H2'', e2, d2', n2, g2⟩ := k2 H2' n1 (by rw [d1'.lo, d1.lo]; exact hl) hmid
    refine ⟨H2'', by simp [bd, e1, e2], d1'.trans d2', n2, fun id b hb => ?_⟩
    by_cases hin : ∃ c, (id, c) ∈ es2
    · obtain ⟨c, hc⟩ := hin; exact g2 id c hc
    · rw [d2'.same id (fun h => hin ⟨_, h⟩), d2.same id (fun h => hin ⟨_, h⟩)]
      rcases List.mem_append.1 hb with hb | hb
      · exact absurd ⟨_, hb⟩ hin
      · exact g1 id b hb
theorem fr_rd (id : Nat) : Fr (rd id) := by
  intro H1 x H1' h
  unfold rd at h
  cases h1 : H1.blks.get id with
  | none => simp [h1] at h
  | some b =>
    simp only [h1, Option.some.injEq, Prod.mk.injEq] at h
    obtain ⟨rfl, rfl⟩ := h
    have key : ∀ H : AHeap, H.blks.get id = some b → Does [(id, false)] H { H with log := (id, false) :: H.log } := fun H hH =>
      ⟨rfl, Nat.le_refl _, rfl, fun _ _ => rfl, fun i c hc => by
        simp only [List.mem_singleton, Prod.mk.injEq] at hc
        obtain ⟨rfl, rfl⟩ := hc
        rw [hH]; simp, by simp, fun _ h => Or.inl h⟩
    refine ⟨[(id, false)], key _ h1, fun H2 hn hl hag => ?_⟩
    have e := hag id false (by simp)
    refine ⟨{ H2 with log := (id, false) :: H2.log }, by simp [rd, e, h1], key _ (by rw [e, h1]), hn, fun i c hc => ?_⟩
    simp only [List.mem_singleton, Prod.mk.injEq] at hc
    obtain ⟨rfl, rfl⟩ := hc
    exact e
theorem fr_put (id : Nat) (x : Option ABlk) : Fr (fun H : AHeap => cond (Nat.ble H.lo id) (match H.blks.get id with | none => none | some _ => some ((), { H with blks := H.blks.put id x, log := (id, true) :: H.log })) none) := by
  intro H1 u H1' h
  cases hlo : Nat.ble H1.lo id with
  | false => simp [hlo] at h
  | true =>
    simp only [hlo, cond_true] at h
    cases h1 : H1.blks.get id with
    | none => simp [h1] at h
    | some b =>
      simp only [h1, Option.some.injEq, Prod.mk.injEq] at h
      obtain ⟨_, rfl⟩ := h
      have key : ∀ H : AHeap, H.blks.get id = some b → H.lo ≤ id → Does [(id, true)] H { H with blks := H.blks.put id x, log := (id, true) :: H.log } := fun H hH hl =>
        ⟨rfl, Nat.le_refl _, rfl, fun i hi => by
          have : id ≠ i := fun e => hi (by simp [e])
          simp [Tr.get_put, this], fun i c hc => by
          simp only [List.mem_singleton, Prod.mk.injEq] at hc
          obtain ⟨rfl, rfl⟩ := hc
          rw [hH]; simp, fun i hi => by
          simp only [List.mem_singleton, Prod.mk.injEq] at hi
          rw [hi.1]; exact hl, fun i hi => by
          by_cases e : id = i
          · subst e; rw [hH]; simp
          · simp [Tr.get_put, e] at hi; exact Or.inl hi⟩
      have hle : H1.lo ≤ id := Nat.le_of_ble_eq_true hlo
      refine ⟨[(id, true)], key _ h1 hle, fun H2 hn hl hag => ?_⟩
      have e := hag id true (by simp)
      have hlo2 : Nat.ble H2.lo id = true := Nat.ble_eq_true_of_le (Nat.le_trans hl hle)
      refine ⟨_, by simp only [hlo2, cond_true, e, h1], key _ (by rw [e, h1]) (Nat.le_trans hl hle), hn, fun i c hc => ?_⟩
      simp only [List.mem_singleton, Prod.mk.injEq] at hc
      obtain ⟨rfl, rfl⟩ := hc
      simp [Tr.get_put]
theorem fr_wr (id : Nat) (b : ABlk) : Fr (wr id b) := fr_put id (some b)
theorem fr_kill (id : Nat) : Fr (kill id) := fr_put id none
theorem fr_nw (b : ABlk) : Fr (nw b) := by
  intro H1 n H1' h
  unfold nw at h
  simp only [frcN_eq] at h
  cases hlo : Nat.ble H1.lo H1.next with
  | false => simp [hlo] at h
  | true =>
    simp only [hlo, cond_true, Option.some.injEq, Prod.mk.injEq] at h
    obtain ⟨rfl, rfl⟩ := h
    have key : ∀ H : AHeap, H.lo ≤ H.next → Does [(H.next, true)] H { H with blks := H.blks.put H.next (some b), next := H.next + 1, log := (H.next, true) :: H.log } := fun H hl =>
      ⟨rfl, Nat.le_succ _, rfl, fun i hi => by
        have : H.next ≠ i := fun e => hi (by simp [e])
        simp [Tr.get_put, this], fun i c hc => by
        simp only [List.mem_singleton, Prod.mk.injEq] at hc
        obtain ⟨rfl, rfl⟩ := hc
        exact Or.inr ⟨Nat.le_refl _, Nat.lt_succ_self _⟩, fun i hi => by
        simp only [List.mem_singleton, Prod.mk.injEq] at hi
        rw [hi.1]; exact hl, fun i hi => by
        by_cases e : H.next = i
        · subst e; exact Or.inr ⟨Nat.le_refl _, Nat.lt_succ_self _⟩
        · simp [Tr.get_put, e] at hi; exact Or.inl hi⟩
    have hle : H1.lo ≤ H1.next := Nat.le_of_ble_eq_true hlo
    refine ⟨_, key _ hle, fun H2 hn hl hag => ?_⟩
    have hle2 : H2.lo ≤ H2.next := by rw [hn]; exact Nat.le_trans hl hle
    have hlo2 : Nat.ble H2.lo H1.next = true := Nat.ble_eq_true_of_le (Nat.le_trans hl hle)
    refine ⟨{ H2 with blks := H2.blks.put H2.next (some b), next := H2.next + 1, log := (H2.next, true) :: H2.log }, by simp [nw, frcN_eq, hn, hlo2], by rw [← hn]; exact key _ hle2, by simp [hn], fun i c hc => ?_⟩
    simp only [List.mem_singleton, Prod.mk.injEq] at hc
    obtain ⟨rfl, rfl⟩ := hc
    simp [Tr.get_put, hn]
theorem fr_capture {m : M α} (hm : Fr m) : Fr (capture m) := by
  intro H1 r H1' h
  unfold capture at h
  cases h1 : m { H1 with log := [] } with
  | none => simp [h1] at h
  | some p =>
    obtain ⟨a, K⟩ := p
    simp only [h1, Option.some.injEq, Prod.mk.injEq] at h
    obtain ⟨rfl, rfl⟩ := h
    obtain ⟨es, d, k⟩ := hm _ a K h1
    have hlog : K.log = es := by simpa using d.log
    refine ⟨es, ⟨by simp [hlog], d.next, d.lo, d.same, d.touch, d.wlo, d.gone⟩, fun H2 hn hl hag => ?_⟩
    obtain ⟨K2, e2, d2, n2, g2⟩ := k { H2 with log := [] } hn hl hag
    have hlog2 : K2.log = es := by simpa using d2.log
    exact ⟨{ K2 with log := es ++ H2.log }, by simp [capture, e2, hlog, hlog2], ⟨rfl, d2.next, d2.lo, d2.same, d2.touch, d2.wlo, d2.gone⟩, n2, g2⟩
theorem fr_cond (b : Bool) {x y : M α} (hx : Fr x) (hy : Fr y) : Fr (cond b x y) := by cases b <;> assumption
theorem capture_spec {m : M α} (hm : Fr m) {H : AHeap} {a : α} {es : List (Nat × Bool)} {H' : AHeap} (h : capture m H = some ((a, es), H')) :
    Does es H H' ∧ (∃ K, m { H with log := [] } = some (a, K) ∧ K.blks = H'.blks ∧ K.next = H'.next ∧ K.lo = H'.lo) ∧
    ∀ H2 : AHeap, H2.next = H.next → H2.lo ≤ H.lo → (∀ id b, (id, b) ∈ es → H2.blks.get id = H.blks.get id) →
      ∃ H2', m H2 = some (a, H2') ∧ Does es H2 H2' ∧ H2'.next = H'.next ∧ ∀ id b, (id, b) ∈ es → H2'.blks.get id = H'.blks.get id := by
  unfold capture at h
  cases h1 : m { H with log := [] } with
  | none => simp [h1] at h
  | some p =>
    obtain ⟨a', K⟩ := p
    simp only [h1, Option.some.injEq, Prod.mk.injEq] at h
    obtain ⟨⟨rfl, rfl⟩, rfl⟩ := h
    obtain ⟨es, d, k⟩ := hm _ a' K h1
    have hlog : K.log = es := by simpa using d.log
    rw [hlog]
    exact ⟨⟨rfl, d.next, d.lo, d.same, d.touch, d.wlo, d.gone⟩, ⟨K, rfl, rfl, rfl, rfl⟩, fun H2 hn hl hag => k H2 hn hl hag⟩

/-! ### several ways -/
inductive All2 {α β : Type} (R : α → β → Prop) : List α → List β → Prop where
  | nil : All2 R [] []
  | cons {a : α} {b : β} {l : List α} {m : List β} : R a b → All2 R l m → All2 R (a :: l) (b :: m)
theorem All2.append {α β : Type} {R : α → β → Prop} {a c : List α} {b d : List β} (h : All2 R a b) (k : All2 R c d) : All2 R (a ++ c) (b ++ d) := by
  induction h with
  | nil => exact k
  | cons h _ ih => exact .cons h ih
theorem All2.mem {α β : Type} {R : α → β → Prop} {a : List α} {b : List β} (h : All2 R a b) : ∀ y ∈ b, ∃ x ∈ a, R x y := by
  induction h with
  | nil => intro y hy; cases hy
  | cons h _ ih =>
    intro y hy
    rcases List.mem_cons.1 hy with rfl | hy
    · exact ⟨_, List.mem_cons_self, h⟩
    · obtain ⟨x, hx, hr⟩ := ih y hy; exact ⟨x, List.mem_cons_of_mem _ hx, hr⟩
theorem Does.uniq {es es' : List (Nat × Bool)} {H H' : AHeap} (h : Does es H H') (k : Does es' H H') : es = es' := List.append_cancel_right (h.log.symm.trans k.log)
/-- one way of the first memory, and the same of the second -/
structure WayR {γ : Type} (H1 H2 : AHeap) (p q : γ × AHeap) : Prop where
  out : q.1 = p.1
  next : q.2.next = p.2.next
  does : ∀ es, Does es H1 p.2 → Does es H2 q.2 ∧ ∀ id b, (id, b) ∈ es → q.2.blks.get id = p.2.blks.get id
def FrN {γ : Type} (m : N γ) : Prop := ∀ H1 L, m H1 = some L → L ≠ [] ∧ (∀ p ∈ L, ∃ es, Does es H1 p.2) ∧
  ∀ H2 : AHeap, H2.next = H1.next → H2.lo ≤ H1.lo → (∀ p ∈ L, ∀ es, Does es H1 p.2 → ∀ id b, (id, b) ∈ es → H2.blks.get id = H1.blks.get id) →
    ∃ L2, m H2 = some L2 ∧ All2 (WayR H1 H2) L L2
theorem frN_none {γ : Type} : FrN (fun _ => none : N γ) := fun _ _ h => by cases h
theorem frN_one {γ : Type} {m : M γ} (hm : Fr m) : FrN (oneN m) := by
  intro H1 L h
  unfold oneN at h
  cases h1 : m H1 with
  | none => simp [h1] at h
  | some r =>
    obtain ⟨a, K⟩ := r
    simp only [h1, Option.some.injEq] at h
    subst h
    obtain ⟨es, d, k⟩ := hm H1 a K h1
    refine ⟨by simp, fun p hp => ⟨es, by simp at hp; subst hp; exact d⟩, fun H2 hn hl hag => ?_⟩
    obtain ⟨K2, e2, d2, n2, g2⟩ := k H2 hn hl (hag (a, K) (by simp) es d)
    refine ⟨[(a, K2)], by simp [oneN, e2], .cons ⟨rfl, n2, fun es' d' => ?_⟩ .nil⟩
    rw [d'.uniq d]; exact ⟨d2, g2⟩
theorem Does.nil_of_refl {es : List (Nat × Bool)} {H : AHeap} (h : Does es H H) : es = [] := h.uniq (.refl H)
theorem frN_each {γ : Type} (a : γ) (l : List γ) : FrN (eachN (a :: l)) := by
  intro H1 L h
  have h : some (pairH H1 (a :: l)) = some L := h
  cases h
  have hmem : ∀ (l : List γ) (H : AHeap) p, p ∈ pairH H l → p.2 = H := by
    intro l H p
    induction l with
    | nil => intro h; cases h
    | cons b l ih => intro h; rcases List.mem_cons.1 h with rfl | h; rfl; exact ih h
  refine ⟨by simp [pairH], fun p hp => ⟨[], by rw [hmem _ _ p hp]; exact .refl _⟩, fun H2 hn hl _ => ⟨pairH H2 (a :: l), rfl, ?_⟩⟩
  generalize a :: l = l
  induction l with
  | nil => exact .nil
  | cons b l ih => exact .cons ⟨rfl, hn, fun es d => by rw [d.nil_of_refl]; exact ⟨.refl _, by simp⟩⟩ ih
theorem frN_all {γ δ : Type} {f : γ → N δ} (hf : ∀ a, FrN (f a)) {H1 : AHeap} : ∀ (l : List (γ × AHeap)) (L : List (δ × AHeap)), (∀ p ∈ l, ∃ es, Does es H1 p.2) → allN f l = some L →
    (l ≠ [] → L ≠ []) ∧ (∀ p ∈ L, ∃ es, Does es H1 p.2) ∧ (∀ p ∈ l, ∀ es, Does es H1 p.2 → ∃ q ∈ L, ∃ es', Does (es' ++ es) H1 q.2) ∧
      ∀ H2 : AHeap, H2.next = H1.next → (∀ p ∈ L, ∀ es, Does es H1 p.2 → ∀ id b, (id, b) ∈ es → H2.blks.get id = H1.blks.get id) → H2.lo ≤ H1.lo →
      ∀ l2, All2 (WayR H1 H2) l l2 → ∃ L2, allN f l2 = some L2 ∧ All2 (WayR H1 H2) L L2 := by
  intro l
  induction l with
  | nil =>
    intro L _ h
    cases h
    refine ⟨fun h => absurd rfl h, by simp, by simp, fun H2 _ _ _ l2 h2 => ?_⟩
    cases h2
    exact ⟨[], rfl, .nil⟩
  | cons p l ih =>
    obtain ⟨a, K⟩ := p
    intro L hl h
    unfold allN at h
    cases h1 : f a K with
    | none => simp [h1] at h
    | some lq =>
      simp only [h1] at h
      cases h2 : allN f l with
      | none => simp [h2] at h
      | some Lr =>
        simp only [h2, Option.some.injEq] at h
        subst h
        obtain ⟨eK, dK⟩ := hl (a, K) (by simp)
        obtain ⟨q1, q2, q3⟩ := hf a K lq h1
        obtain ⟨r1, r2, r4, r3⟩ := ih Lr (fun p hp => hl p (by simp [hp])) h2
        refine ⟨fun _ => ?_, fun p hp => ?_, fun p hp es d => ?_, fun H2 hn hag hlo l2 hl2 => ?_⟩
        · intro e; exact q1 (List.append_eq_nil_iff.1 e).1
        · rcases List.mem_append.1 hp with hp | hp
          · obtain ⟨es', d'⟩ := q2 p hp; exact ⟨es' ++ eK, dK.trans d'⟩
          · exact r2 p hp
        · rcases List.mem_cons.1 hp with rfl | hp
          · cases hlq : lq with
            | nil => exact absurd hlq q1
            | cons q lq' =>
              obtain ⟨es', d'⟩ := q2 q (by rw [hlq]; simp)
              exact ⟨q, by simp, es', d.trans d'⟩
          · obtain ⟨q, hq, es', d'⟩ := r4 p hp es d
            exact ⟨q, by simp [hq], es', d'⟩
        · cases hl2 with
          | @cons _ b _ l2' hR hl2' =>
            obtain ⟨b1, K2⟩ := b
            obtain ⟨h3, h4, h5⟩ := hR
            simp only at h3 h4 h5
            subst h3
            obtain ⟨d2, g2⟩ := h5 eK dK
            have mid : ∀ p ∈ lq, ∀ es, Does es K p.2 → ∀ id b, (id, b) ∈ es → K2.blks.get id = K.blks.get id := by
              intro p hp es d id b hb
              by_cases hin : ∃ c, (id, c) ∈ eK
              · obtain ⟨c, hc⟩ := hin; exact g2 id c hc
              · rw [d2.same id (fun h => hin ⟨_, h⟩), dK.same id (fun h => hin ⟨_, h⟩)]
                exact hag p (by simp [hp]) _ (dK.trans d) id b (by simp [hb])
            obtain ⟨lq2, e2, a2⟩ := q3 K2 h4 (by rw [d2.lo, dK.lo]; exact hlo) mid
            obtain ⟨L2, e3, a3⟩ := r3 H2 hn (fun p hp => hag p (by simp [hp])) hlo l2' hl2'
            refine ⟨lq2 ++ L2, by unfold allN; simp [e2, e3], All2.append ?_ a3⟩
            have conv : ∀ p q, p ∈ lq → WayR K K2 p q → WayR H1 H2 p q := by
              intro p q hp ⟨o1, o2, o3⟩
              refine ⟨o1, o2, fun es d => ?_⟩
              obtain ⟨es', d'⟩ := q2 p hp
              obtain ⟨d3, g3⟩ := o3 es' d'
              rw [d.uniq (dK.trans d')]
              refine ⟨d2.trans d3, fun id b hb => ?_⟩
              by_cases hin : ∃ c, (id, c) ∈ es'
              · obtain ⟨c, hc⟩ := hin; exact g3 id c hc
              · rw [d3.same id (fun h => hin ⟨_, h⟩), d'.same id (fun h => hin ⟨_, h⟩)]
                rcases List.mem_append.1 hb with hb | hb
                · exact absurd ⟨_, hb⟩ hin
                · exact g2 id b hb
            have : ∀ (u : List (δ × AHeap)) (v : List (δ × AHeap)), (∀ p ∈ u, p ∈ lq) → All2 (WayR K K2) u v → All2 (WayR H1 H2) u v := by
              intro u v hu huv
              induction huv with
              | nil => exact .nil
              | cons h _ ih2 => exact .cons (conv _ _ (hu _ (by simp)) h) (ih2 fun p hp => hu p (by simp [hp]))
            exact this lq lq2 (fun _ h => h) a2
theorem frN_bd {γ δ : Type} {m : N γ} {f : γ → N δ} (hm : FrN m) (hf : ∀ a, FrN (f a)) : FrN (bdN m f) := by
  intro H1 L h
  unfold bdN at h
  cases h1 : m H1 with
  | none => simp [h1] at h
  | some l =>
    simp only [h1] at h
    obtain ⟨a1, a2, a3⟩ := hm H1 l h1
    obtain ⟨b1, b2, b4, b3⟩ := frN_all hf l L a2 h
    refine ⟨b1 a1, b2, fun H2 hn hl hag => ?_⟩
    obtain ⟨l2, e2, r2⟩ := a3 H2 hn hl (fun p hp es d id b hb => by
      obtain ⟨q, hq, es', d'⟩ := b4 p hp es d
      exact hag q hq _ d' id b (by simp [hb]))
    obtain ⟨L2, e3, r3⟩ := b3 H2 hn hag hl l2 r2
    exact ⟨L2, by simp [bdN, e2, e3], r3⟩

def joinId (K : AHeap) (Ks : List AHeap) (id : Nat) : Option ABlk := match K.blks.get id with | some b => joinAt id b Ks | none => none
theorem joinBlks_get (K : AHeap) (Ks : List AHeap) : ∀ (es : List (Nat × Bool)) (t : Tr ABlk) (i : Nat), ((i, true) ∈ es → (joinBlks K Ks es t).get i = joinId K Ks i) ∧ ((i, true) ∉ es → (joinBlks K Ks es t).get i = t.get i) := by
  intro es
  induction es with
  | nil => intro t i; exact ⟨by simp, fun _ => rfl⟩
  | cons e es ih =>
    obtain ⟨id, b⟩ := e
    intro t i
    cases b with
    | false =>
      obtain ⟨h1, h2⟩ := ih t i
      exact ⟨fun h => h1 (by simpa using h), fun h => h2 (by simpa using h)⟩
    | true =>
      obtain ⟨h1, h2⟩ := ih (t.put id (joinId K Ks id)) i
      refine ⟨fun h => ?_, fun h => ?_⟩
      · by_cases hi : (i, true) ∈ es
        · exact h1 hi
        · have : i = id := by rcases List.mem_cons.1 h with h | h; (injection h with h _); exact absurd h hi
          subst this
          refine (h2 hi).trans ?_
          rw [Tr.get_put, if_pos rfl]
      · have hne : id ≠ i := fun e => h (by simp [e])
        refine (h2 fun hi => h (by simp [hi])).trans ?_
        rw [Tr.get_put, if_neg hne]
theorem joinAt_congr (id : Nat) : ∀ (Ks Ks2 : List AHeap) (b : ABlk), All2 (fun K K2 : AHeap => K2.blks.get id = K.blks.get id) Ks Ks2 → joinAt id b Ks2 = joinAt id b Ks := by
  intro Ks Ks2 b h
  induction h generalizing b with
  | nil => rfl
  | cons h _ ih =>
    unfold joinAt
    rw [h]
    split
    · split
      · exact ih _
      · rfl
    · rfl
theorem maxNext_ge (Ks : List AHeap) : ∀ n, n ≤ maxNext n Ks ∧ ∀ K ∈ Ks, K.next ≤ maxNext n Ks := by
  induction Ks with
  | nil => intro n; exact ⟨Nat.le_refl _, by simp⟩
  | cons K Ks ih =>
    intro n
    unfold maxNext
    cases h : Nat.ble n K.next with
    | true =>
      simp only [cond_true]
      have := Nat.le_of_ble_eq_true h
      obtain ⟨h1, h2⟩ := ih K.next
      exact ⟨by omega, fun J hJ => by rcases List.mem_cons.1 hJ with rfl | hJ; exact h1; exact h2 J hJ⟩
    | false =>
      simp only [cond_false]
      have : ¬ n ≤ K.next := fun e => by rw [Nat.ble_eq_true_of_le e] at h; cases h
      obtain ⟨h1, h2⟩ := ih n
      exact ⟨h1, fun J hJ => by rcases List.mem_cons.1 hJ with rfl | hJ; omega; exact h2 J hJ⟩
theorem maxNext_congr : ∀ (Ks Ks2 : List AHeap) (n : Nat), All2 (fun K K2 : AHeap => K2.next = K.next) Ks Ks2 → maxNext n Ks2 = maxNext n Ks := by
  intro Ks Ks2 n h
  induction h generalizing n with
  | nil => rfl
  | cons h _ ih => unfold maxNext; rw [h, ih, ih]
theorem mem_logs {Ks : List AHeap} {e : Nat × Bool} : e ∈ logs Ks ↔ ∃ K ∈ Ks, e ∈ K.log := by
  induction Ks with
  | nil => simp [logs]
  | cons K Ks ih => simp [logs, ih]
theorem logs_congr : ∀ (Ks Ks2 : List AHeap), All2 (fun K K2 : AHeap => K2.log = K.log) Ks Ks2 → logs Ks2 = logs Ks := by
  intro Ks Ks2 h
  induction h with
  | nil => rfl
  | cons h _ ih => unfold logs; rw [h, ih]
theorem All2.imp {α β : Type} {R S : α → β → Prop} {l : List α} {m : List β} (h : All2 R l m) (k : ∀ a b, a ∈ l → R a b → S a b) : All2 S l m := by
  induction h with
  | nil => exact .nil
  | cons h _ ih => exact .cons (k _ _ (by simp) h) (ih fun a b ha => k a b (by simp [ha]))
theorem All2.map {α β γ δ : Type} {f : α → γ} {g : β → δ} {S : γ → δ → Prop} {l : List α} {m : List β} (h : All2 (fun a b => S (f a) (g b)) l m) : All2 S (l.map f) (m.map g) := by
  induction h with
  | nil => exact .nil
  | cons h _ ih => exact .cons h ih
theorem joinOuts_congr {e : AExit} {ms : List Nat} : ∀ (r r2 : List (Out × AHeap)) (T : Tmps), All2 (fun p q : Out × AHeap => q.1 = p.1) r r2 → joinOuts e ms T r2 = joinOuts e ms T r := by
  intro r r2 T h
  induction h generalizing T with
  | nil => rfl
  | @cons p q l m h _ ih =>
    obtain ⟨o, K⟩ := p
    obtain ⟨o2, K2⟩ := q
    simp only at h
    subst h
    cases o2 with
    | val v => rfl
    | exit e' T' ms' =>
      unfold joinOuts
      cases joinT T T' with
      | none => rfl
      | some T1 => simp only [ih]
/-- what all ways together do -/
theorem does_join {H : AHeap} {K : AHeap} {Ks : List AHeap} (hd : ∀ J ∈ K :: Ks, Does J.log { H with log := [] } J) :
    Does (logs (K :: Ks)) H { blks := joinBlks K Ks (logs (K :: Ks)) H.blks, next := maxNext K.next Ks, lo := H.lo, log := logs (K :: Ks) ++ H.log } := by
  have hmax : ∀ J ∈ K :: Ks, J.next ≤ maxNext K.next Ks := fun J hJ => by
    obtain ⟨h1, h2⟩ := maxNext_ge Ks K.next
    rcases List.mem_cons.1 hJ with rfl | hJ
    · exact h1
    · exact h2 J hJ
  refine ⟨rfl, Nat.le_trans (hd K (by simp)).next (hmax K (by simp)), rfl, fun id hid => (joinBlks_get K Ks _ _ id).2 hid, fun id b hb => ?_, fun id hb => ?_, fun id h => ?_⟩
  · obtain ⟨J, hJ, hb⟩ := mem_logs.1 hb
    rcases (hd J hJ).touch id b hb with h | h
    · exact Or.inl h
    · exact Or.inr ⟨h.1, Nat.lt_of_lt_of_le h.2 (hmax J hJ)⟩
  · obtain ⟨J, hJ, hb⟩ := mem_logs.1 hb
    exact (hd J hJ).wlo id hb
  · by_cases hid : (id, true) ∈ logs (K :: Ks)
    · have h' : joinId K Ks id ≠ none := by rw [← (joinBlks_get K Ks _ _ id).1 hid]; exact h
      have : K.blks.get id ≠ none := by
        intro e
        unfold joinId at h'
        rw [e] at h'
        exact h' rfl
      rcases (hd K (by simp)).gone id this with h | h
      · exact Or.inl h
      · exact Or.inr ⟨h.1, Nat.lt_of_lt_of_le h.2 (hmax K (by simp))⟩
    · exact Or.inl (by rw [← (joinBlks_get K Ks _ _ id).2 hid]; exact h)
def joinN (m : N Out) : M Out := fun H => match m { H with log := [] } with
  | none => none
  | some L => joinAll H L
theorem fr_joinN {m : N Out} (hm : FrN m) : Fr (joinN m) := by
  intro H1 o H1' h
  unfold joinN at h
  cases h1 : m { H1 with log := [] } with
  | none => simp [h1] at h
  | some L =>
    simp only [h1] at h
    obtain ⟨a1, a2, a3⟩ := hm _ L h1
    have hdoes : ∀ p ∈ L, Does p.2.log { H1 with log := [] } p.2 := by
      intro p hp
      obtain ⟨es, d⟩ := a2 p hp
      have : p.2.log = es := by simpa using d.log
      rw [this]; exact d
    match L, h, hdoes, a3, h1 with
    | [], h, _, _, _ => exact absurd rfl a1
    | [(o1, K)], h, hdoes, a3, h1 =>
      simp only [joinAll, Option.some.injEq, Prod.mk.injEq] at h
      obtain ⟨rfl, rfl⟩ := h
      have d := hdoes (o1, K) (by simp)
      refine ⟨K.log, ⟨rfl, d.next, d.lo, d.same, d.touch, d.wlo, d.gone⟩, fun H2 hn hl hag => ?_⟩
      obtain ⟨L2, e2, r2⟩ := a3 { H2 with log := [] } hn hl (fun p hp es d' id b hb => by
        simp only [List.mem_singleton] at hp
        subst hp
        rw [d'.uniq d] at hb
        exact hag id b hb)
      cases r2 with
      | @cons _ q _ _ hR hr =>
        cases hr
        obtain ⟨o2, K2⟩ := q
        obtain ⟨x1, x2, x3⟩ := hR
        simp only at x1
        subst x1
        obtain ⟨d2, g2⟩ := x3 _ d
        have hlog : K2.log = K.log := by simpa using d2.log
        exact ⟨{ K2 with log := K2.log ++ H2.log }, by simp [joinN, e2, joinAll], ⟨by rw [hlog], d2.next, d2.lo, d2.same, d2.touch, d2.wlo, d2.gone⟩, x2, g2⟩
    | (o1, K) :: p :: r, h, hdoes, a3, h1 =>
      cases o1 with
      | val v => simp [joinAll] at h
      | exit e T ms =>
        unfold joinAll at h
        simp only at h
        cases hj : joinOuts e ms T (p :: r) with
        | none => simp [hj] at h
        | some T1 =>
          simp only [hj, Option.some.injEq, Prod.mk.injEq] at h
          obtain ⟨rfl, rfl⟩ := h
          have hd : ∀ J ∈ K :: (p :: r).map (·.2), Does J.log { H1 with log := [] } J := by
            intro J hJ
            rcases List.mem_cons.1 hJ with rfl | hJ
            · exact hdoes (.exit e T ms, J) (by simp)
            · obtain ⟨q, hq, rfl⟩ := List.mem_map.1 hJ
              exact hdoes q (List.mem_cons_of_mem _ hq)
          refine ⟨_, does_join hd, fun H2 hn hl hag => ?_⟩
          have hag' : ∀ p' ∈ ((Out.exit e T ms, K) :: p :: r), ∀ id b, (id, b) ∈ p'.2.log → H2.blks.get id = H1.blks.get id := by
            intro p' hp id b hb
            refine hag id b (mem_logs.2 ⟨p'.2, ?_, hb⟩)
            rcases List.mem_cons.1 hp with rfl | hp
            · simp
            · exact List.mem_cons_of_mem _ (List.mem_map.2 ⟨p', hp, rfl⟩)
          obtain ⟨L2, e2, r2⟩ := a3 { H2 with log := [] } hn hl (fun p' hp es d' id b hb => by
            rw [d'.uniq (hdoes p' hp)] at hb
            exact hag' p' hp id b hb)
          have full : All2 (fun p' q : Out × AHeap => q.1 = p'.1 ∧ q.2.next = p'.2.next ∧ q.2.log = p'.2.log ∧ Does q.2.log { H2 with log := [] } q.2 ∧ ∀ id, (id, true) ∈ logs (K :: (p :: r).map (·.2)) ∨ (∃ b, (id, b) ∈ logs (K :: (p :: r).map (·.2))) → q.2.blks.get id = p'.2.blks.get id) ((Out.exit e T ms, K) :: p :: r) L2 := by
            refine r2.imp fun p' q hp hR => ?_
            obtain ⟨d2, g2⟩ := hR.does _ (hdoes p' hp)
            have hlog : q.2.log = p'.2.log := by simpa using d2.log
            refine ⟨hR.out, hR.next, hlog, by rw [hlog]; exact d2, fun id hid => ?_⟩
            have hid : ∃ b, (id, b) ∈ logs (K :: (p :: r).map (·.2)) := by rcases hid with h | h; exact ⟨_, h⟩; exact h
            obtain ⟨b, hb⟩ := hid
            by_cases hin : ∃ c, (id, c) ∈ p'.2.log
            · obtain ⟨c, hc⟩ := hin; exact g2 id c hc
            · rw [d2.same id (fun h => hin ⟨_, h⟩), (hdoes p' hp).same id (fun h => hin ⟨_, h⟩)]
              exact hag id b hb
          cases full with
          | @cons _ q _ L3 hq hL3 =>
            obtain ⟨o2, K2⟩ := q
            obtain ⟨x1, x2, x3, x4, x5⟩ := hq
            simp only at x1 x2 x3 x4 x5
            subst x1
            cases hL3 with
            | @cons _ q2 _ L4 hq2 hL4 =>
              have hall : All2 (fun p' q : Out × AHeap => q.1 = p'.1 ∧ q.2.next = p'.2.next ∧ q.2.log = p'.2.log ∧ Does q.2.log { H2 with log := [] } q.2 ∧ ∀ id, (id, true) ∈ logs (K :: (p :: r).map (·.2)) ∨ (∃ b, (id, b) ∈ logs (K :: (p :: r).map (·.2))) → q.2.blks.get id = p'.2.blks.get id) (p :: r) (q2 :: L4) := .cons hq2 hL4
              have j2 : joinOuts e ms T (q2 :: L4) = some T1 := by rw [joinOuts_congr (p :: r) (q2 :: L4) T (hall.imp fun _ _ _ h => h.1)]; exact hj
              have l2 : logs (K2 :: (q2 :: L4).map (·.2)) = logs (K :: (p :: r).map (·.2)) := logs_congr _ _ (.cons x3 ((hall.imp fun _ _ _ h => h.2.2.1).map))
              have n2 : maxNext K2.next ((q2 :: L4).map (·.2)) = maxNext K.next ((p :: r).map (·.2)) := by rw [x2]; exact maxNext_congr _ _ _ ((hall.imp fun _ _ _ h => h.2.1).map)
              have hd2 : ∀ J ∈ K2 :: (q2 :: L4).map (·.2), Does J.log { H2 with log := [] } J := by
                intro J hJ
                rcases List.mem_cons.1 hJ with rfl | hJ
                · exact x4
                · obtain ⟨q, hq, rfl⟩ := List.mem_map.1 hJ
                  obtain ⟨p', _, h⟩ := hall.mem q hq
                  exact h.2.2.2.1
              refine ⟨_, by unfold joinN; simp only [e2]; unfold joinAll; simp only [j2]; rfl, by rw [← l2]; exact does_join hd2, n2, fun id b hb => ?_⟩
              simp only [l2]
              by_cases hid : (id, true) ∈ logs (K :: (p :: r).map (·.2))
              · rw [(joinBlks_get _ _ _ _ id).1 hid, (joinBlks_get _ _ _ _ id).1 hid]
                unfold joinId
                rw [x5 id (Or.inl hid)]
                split
                · exact joinAt_congr id _ _ _ ((hall.imp fun _ _ _ h => h.2.2.2.2 id (Or.inl hid)).map)
                · rfl
              · rw [(joinBlks_get _ _ _ _ id).2 hid, (joinBlks_get _ _ _ _ id).2 hid]
                exact hag id b hb

/-! ### every operation -/
section
variable (P : Program)
theorem fr_newCells (elem : TypeId) (cs : List AVal) : Fr (newCells elem cs) := fr_cond _ (fr_nw _) fr_fail
theorem fr_allocA (t : TypeId) : Fr (allocA P t) := by
  unfold allocA; split
  · exact fr_bd (fr_newCells _ _) fun _ => fr_ret _
  · exact fr_fail
theorem fr_boxA (t : TypeId) (v : AVal) : Fr (boxA t v) := fr_bd (fr_newCells _ _) fun _ => fr_ret _
theorem fr_loadCellsA (b o n : Nat) : Fr (loadCellsA b o n) := fr_bd (fr_rd _) fun _ => by split <;> first | exact fr_lift _ | exact fr_fail
theorem fr_loadA (t : TypeId) (b o : Nat) : Fr (loadA P t b o) := by
  unfold loadA
  repeat' first | exact fr_fail | exact fr_lift _ | exact fr_ret _ | exact fr_loadCellsA _ _ _ | exact fr_rd _ | (refine fr_bd ?_ fun _ => ?_) | split
theorem fr_storeCellsA (b o : Nat) (vs : List AVal) : Fr (storeCellsA b o vs) := fr_bd (fr_rd _) fun _ => by
  split
  · exact fr_cond _ (fr_wr _ _) fr_fail
  · exact fr_fail
theorem fr_storeA (t : TypeId) (p v : AVal) : Fr (storeA P t p v) := by
  unfold storeA
  repeat' first | exact fr_fail | exact fr_storeCellsA _ _ _ | (refine fr_cond _ ?_ ?_) | split
theorem fr_buildSliceA (t : TypeId) (n : Nat) (l : List (Nat × AVal)) : Fr (buildSliceA P t n l) := by
  unfold buildSliceA
  repeat' first | exact fr_fail | exact fr_ret _ | exact fr_newCells _ _ | (refine fr_cond _ ?_ ?_) | (refine fr_bd ?_ fun _ => ?_) | split
theorem fr_makeSliceA (t : TypeId) (l c : AVal) : Fr (makeSliceA P t l c) := by
  unfold makeSliceA
  simp only [frcN_eq]
  repeat' first | exact fr_fail | exact fr_ret _ | exact fr_newCells _ _ | (refine fr_cond _ ?_ ?_) | (refine fr_bd ?_ fun _ => ?_) | split
theorem fr_sliceM (t : TypeId) (x : AVal) (lo hi mx : Option AVal) : Fr (sliceM P t x lo hi mx) := by
  unfold sliceM
  repeat' first | exact fr_fail | exact fr_lift _ | exact fr_rd _ | (refine fr_cond _ ?_ ?_) | (refine fr_bd ?_ fun _ => ?_) | split
theorem fr_firstA (es n : Nat) (x : AVal) : Fr (firstA es n x) := by
  unfold firstA
  repeat' first | exact fr_fail | exact fr_ret _ | exact fr_loadCellsA _ _ _ | (refine fr_cond _ ?_ ?_) | split
theorem fr_killC (b : Nat) (e : TypeId) : Fr (killC b e) := fr_bd (fr_rd _) fun _ => by
  split
  · exact fr_cond _ (fr_kill _) fr_fail
  · exact fr_fail
theorem fr_appendA (st xt : TypeId) (s x : AVal) : Fr (appendA P st xt s x) := by
  unfold appendA
  simp only [frcN_eq]
  repeat' first | exact fr_fail | exact fr_ret _ | exact fr_newCells _ _ | exact fr_firstA _ _ _ | exact fr_storeCellsA _ _ _ | exact fr_killC _ _ | (refine fr_cond _ ?_ ?_) | (refine fr_bd ?_ fun _ => ?_) | split
theorem fr_copyA (t : TypeId) (d s : AVal) : Fr (copyA P t d s) := by
  unfold copyA
  simp only [frcN_eq]
  repeat' first | exact fr_fail | exact fr_ret _ | exact fr_firstA _ _ _ | exact fr_storeCellsA _ _ _ | (refine fr_cond _ ?_ ?_) | (refine fr_bd ?_ fun _ => ?_) | split
theorem fr_lenA (t : TypeId) (x : AVal) : Fr (lenA P t x) := by
  unfold lenA
  simp only [frcN_eq]
  repeat' first | exact fr_fail | exact fr_ret _ | exact fr_rd _ | (refine fr_bd ?_ fun _ => ?_) | split
theorem fr_clearA (t : TypeId) (x : AVal) : Fr (clearA P t x) := by
  unfold clearA
  repeat' first | exact fr_fail | exact fr_ret _ | exact fr_rd _ | exact fr_wr _ _ | exact fr_storeCellsA _ _ _ | (refine fr_cond _ ?_ ?_) | (refine fr_bd ?_ fun _ => ?_) | split
theorem fr_lookupA (t : TypeId) (x k : AVal) (ok : Bool) : Fr (lookupA P t x k ok) := by
  unfold lookupA
  repeat' first | exact fr_fail | exact fr_ret _ | exact fr_lift _ | exact fr_rd _ | (refine fr_cond _ ?_ ?_) | (refine fr_bd ?_ fun _ => ?_) | split
theorem fr_mapUpdateA (t : TypeId) (m k v : AVal) : Fr (mapUpdateA P t m k v) := by
  unfold mapUpdateA
  simp only [frcN_eq]
  repeat' first | exact fr_fail | exact fr_ret _ | exact fr_lift _ | exact fr_rd _ | exact fr_wr _ _ | (refine fr_cond _ ?_ ?_) | (refine fr_bd ?_ fun _ => ?_) | split
theorem fr_deleteA (t : TypeId) (m k : AVal) : Fr (deleteA P t m k) := by
  unfold deleteA
  repeat' first | exact fr_fail | exact fr_ret _ | exact fr_lift _ | exact fr_rd _ | exact fr_wr _ _ | (refine fr_cond _ ?_ ?_) | (refine fr_bd ?_ fun _ => ?_) | split
theorem fr_rangeA (t : TypeId) (x : AVal) : Fr (rangeA P t x) := by
  unfold rangeA
  repeat' first | exact fr_fail | exact fr_ret _ | exact fr_rd _ | exact fr_nw _ | (refine fr_bd ?_ fun _ => ?_) | split
theorem fr_entryA (x : AVal) : Fr (entryA x) := by
  unfold entryA
  repeat' first | exact fr_fail | exact fr_ret _ | exact fr_rd _ | (refine fr_cond _ ?_ ?_) | (refine fr_bd ?_ fun _ => ?_) | split
theorem fr_headA (x : AVal) : Fr (headA x) := by
  unfold headA
  repeat' first | exact fr_fail | exact fr_ret _ | exact fr_rd _ | (refine fr_cond _ ?_ ?_) | (refine fr_bd ?_ fun _ => ?_) | split
theorem fr_get (t : TypeId) (x : APl) : Fr (x.get P t) := by
  cases x
  · exact fr_ret _
  · exact fr_loadA _ _ _ _
theorem fr_stepA (s : FieldStep) (x : APl) (t : TypeId) : Fr (stepA P s x t) := by
  unfold stepA
  repeat' first | exact fr_fail | exact fr_ret _ | exact fr_get _ _ _ | (refine fr_cond _ ?_ ?_) | (refine fr_bd ?_ fun _ => ?_) | split
theorem fr_followA : ∀ (l : List FieldStep) (t : TypeId) (x : APl), Fr (followA P l t x)
  | [], _, _ => fr_ret _
  | _ :: l, _, _ => fr_bd (fr_stepA _ _ _ _) fun _ => fr_followA l _ _
theorem fr_receiverA (t : TypeId) (x : APl) (b : Bool) : Fr (receiverA P t x b) := by
  unfold receiverA
  repeat' first | exact fr_fail | exact fr_ret _ | exact fr_get _ _ _ | exact fr_loadA _ _ _ _ | (refine fr_cond _ ?_ ?_) | (refine fr_bd ?_ fun _ => ?_) | split
theorem fr_methodA (t : TypeId) (v : AVal) (n : String) : Fr (methodA P t v n) := by
  unfold methodA
  repeat' first | exact fr_fail | exact fr_ret _ | exact fr_followA _ _ _ _ | exact fr_receiverA _ _ _ _ | (refine fr_bd ?_ fun _ => ?_) | split
theorem fr_builtinA (b : Builtin) (ts : List TypeId) (as : List AVal) : Fr (builtinA P b ts as) := by
  unfold builtinA
  split <;> first | exact fr_fail | exact fr_appendA _ _ _ _ _ | exact fr_lenA _ _ _ | exact fr_clearA _ _ _ | exact fr_lift _ | exact fr_copyA _ _ _ _ | exact fr_deleteA _ _ _ _
theorem fr_goA (k : FuncId) (as : List AVal) : Fr (goA P k as) := fr_cond _ (fr_ret _) fr_fail
theorem fr_callA (T : Tmps) (c : Call) : Fr (callA P T c) := by
  unfold callA
  repeat' first | exact fr_fail | exact fr_ret _ | exact fr_rd _ | (refine fr_cond _ ?_ ?_) | exact fr_goA _ _ _ | exact fr_builtinA _ _ _ _ | exact fr_methodA _ _ _ _ | (refine fr_bd ?_ fun _ => ?_) | split
theorem fr_opA (T : Tmps) (o : Op) : Fr (opA P T o) := by
  unfold opA
  cases o <;> simp only <;> repeat' first | exact fr_fail | exact fr_ret _ | exact fr_lift _ | exact fr_allocA _ _ | exact fr_rangeA _ _ _ | exact fr_entryA _ | exact fr_boxA _ _ | exact fr_buildSliceA _ _ _ _ | exact fr_loadA _ _ _ _ | exact fr_storeA _ _ _ _ | exact fr_makeSliceA _ _ _ _ | exact fr_sliceM _ _ _ _ _ _ | exact fr_lookupA _ _ _ _ _ | exact fr_mapUpdateA _ _ _ _ _ | exact fr_callA _ _ _ | (refine fr_bd ?_ fun _ => ?_) | exact fr_nw _ | (refine fr_cond _ ?_ ?_) | split | (show Fr (bd (nw _) _))

def FrX (X : Told) : Prop := ∀ f g args, X f = some g → Fr (g args)
theorem frX_none : FrX noExt := fun _ _ _ h => by cases h
theorem fr_outVal {m : M Out} (h : Fr m) : Fr (outVal m) := fr_bd h fun _ => by split <;> first | exact fr_ret _ | exact fr_fail
section
variable {ih : Task → M Out} (hih : ∀ t, Fr (ih t))
include hih
theorem fr_nextA (x : ANext) : Fr (nextA ih x) := by
  unfold nextA
  split <;> first | exact fr_ret _ | exact fr_outVal (hih _)
theorem fr_valOp (all : List Oper) (o : Oper) (T : Tmps) : Fr (valOp P ih all o T) := by
  unfold valOp
  split
  · exact fr_bd (fr_opA _ _ _) fun _ => fr_nextA hih _
  · exact fr_ret _
  · exact fr_fail
theorem fr_oneOp (nt : Nat) (all : List Oper) (o : Oper) (T : Tmps) : Fr (oneOp P ih nt all o T) := fr_bd (fr_valOp P hih _ _ _) fun _ => fr_lift _
theorem fr_opsA (nt : Nat) (all : List Oper) : ∀ (l : List Oper) (T : Tmps), Fr (opsA P ih nt all l T)
  | [], _ => fr_ret _
  | _ :: l, _ => fr_bd (fr_oneOp P hih _ _ _ _) fun _ => fr_opsA nt all l _
theorem fr_opsD (nt : Nat) (all : Array Oper) : ∀ (l : List Oper) (mks : List Nat) (done : List (Oper × List (Nat × Bool))) (T : Tmps), Fr (opsD P ih nt all l mks done T)
  | [], _, _, _ => fr_ret _
  | _ :: _, [], _, _ => fr_fail
  | _ :: l, _ :: mks, _, _ => fr_bd (fr_capture (fr_oneOp P hih _ _ _ _)) fun _ => fr_cond _ (fr_opsD nt all l mks _ _) fr_fail
omit hih in
theorem fr_resultsA (T : Tmps) : ∀ l : List ResultVar, Fr (resultsA P T l)
  | [] => fr_ret _
  | .tmp _ :: l => fr_bd (fr_resultsA T l) fun _ => fr_ret _
  | .cell a t :: l => by
    unfold resultsA
    split
    · exact fr_bd (fr_loadA _ _ _ _) fun _ => fr_bd (fr_resultsA T l) fun _ => fr_ret _
    · exact fr_fail
omit hih in
theorem fr_takeMarks : ∀ l : List Nat, Fr (takeMarks l)
  | [] => fr_ret _
  | _ :: l => fr_bd (fr_rd _) fun _ => by
    split
    · exact fr_bd (fr_wr _ _) fun _ => fr_takeMarks l
    · exact fr_fail
omit hih in
theorem fr_enterA (r : Option Nat) : Fr (enterA r) := by
  unfold enterA
  repeat' first | exact fr_fail | exact fr_ret _ | exact fr_rd _ | exact fr_nw _ | (refine fr_bd ?_ fun _ => ?_) | split
theorem frN_mapRounds (nt : Nat) (r : Option Nat) (s : MapStep) : ∀ (k : Nat) (T : Tmps) (ms : List Nat), FrN (mapRounds ih nt r s k T ms)
  | 0, _, _ => frN_none
  | k + 1, T, ms => by
    unfold mapRounds
    refine frN_bd (frN_one (fr_headA _)) fun h => ?_
    split
    · refine frN_one (fr_bd (hih _) fun o => ?_)
      split
      · exact fr_fail
      · exact fr_ret _
    · refine frN_bd (frN_each _ _) fun e => frN_bd (frN_one (fr_bd (fr_wr _ _) fun _ => hih _)) fun o => ?_
      split
      · exact frN_mapRounds nt r s k _ _
      · exact frN_one (fr_ret _)
theorem fr_mapLoop (nt : Nat) (r : Option Nat) (s : MapStep) (T : Tmps) (ms : List Nat) : Fr (mapLoop ih nt r s T ms) := fr_cond _ (fr_joinN (frN_mapRounds hih nt r s 1000 T ms)) fr_fail
theorem fr_runCode (nt : Nat) (r : Option Nat) (c : Code) (T : Tmps) (ms : List Nat) : Fr (runCode P ih nt r c T ms) := by
  unfold runCode
  repeat' first | exact fr_fail | exact fr_mapLoop hih _ _ _ _ _ | exact fr_ret _ | exact hih _ | exact fr_outVal (hih _) | exact fr_rd _ | exact fr_wr _ _ | exact fr_nw _ | exact fr_enterA _ | exact fr_opsD P hih _ _ _ _ _ _ | exact fr_opsA P hih _ _ _ _ | (refine fr_cond _ ?_ ?_) | (refine fr_bd ?_ fun _ => ?_) | split
theorem fr_runCall (f : FuncId) (args : List AVal) : Fr (runCall P ih f args) := by
  unfold runCall
  repeat' first | exact fr_fail | exact fr_ret _ | exact hih _ | exact fr_takeMarks _ | exact fr_resultsA _ _ _ | (refine fr_cond _ ?_ ?_) | (refine fr_bd ?_ fun _ => ?_) | split
omit hih in
theorem fr_endRoundA (l : Nat) (e : AExit) : Fr (endRoundA l e) := by
  unfold endRoundA
  repeat' first | exact fr_fail | exact fr_ret _ | exact fr_rd _ | exact fr_wr _ _ | (refine fr_bd ?_ fun _ => ?_) | split
omit hih in
theorem fr_beginA (l : Nat) : Fr (beginA l) := by
  unfold beginA
  repeat' first | exact fr_fail | exact fr_ret _ | exact fr_rd _ | exact fr_wr _ _ | (refine fr_bd ?_ fun _ => ?_) | split
theorem fr_runRound (l : Nat) (args : List AVal) : Fr (runRound ih l args) := by
  unfold runRound
  repeat' first | exact fr_fail | exact fr_ret _ | exact hih _ | exact fr_rd _ | exact fr_beginA _ | exact fr_endRoundA _ _ | (refine fr_bd ?_ fun _ => ?_) | split
theorem fr_runStep {X : Told} (hX : FrX X) (t : Task) : Fr (runStep P X ih t) := by
  cases t with
  | code => exact fr_runCode P hih _ _ _ _ _
  | call f args =>
    show Fr (match X f with
      | some g => bd (g args) fun v => ret (.val v)
      | none => runCall P ih f args)
    split
    · rename_i g hg
      exact fr_bd (hX f g args hg) fun _ => fr_ret _
    · exact fr_runCall P hih _ _
  | round => exact fr_runRound hih _ _
end
theorem fr_run {X : Told} (hX : FrX X) : ∀ (n : Nat) (t : Task), Fr (run P X n t)
  | 0, _ => fr_fail
  | n + 1, t => fr_runStep P (fr_run hX n) hX t
end
end Go.AM
