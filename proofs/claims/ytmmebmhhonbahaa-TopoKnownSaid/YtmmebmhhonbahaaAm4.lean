/- Part 4 of a calculation in a small memory that is proved to answer as the program does: see the last part. -/
import Derived.Test.YtmmebmhhonbahaaAm3
namespace Go.AM
open Go

/-! ### what a piece of work touches, and that it hangs on nothing else -/
structure Does (es : List (Nat × Bool)) (H H' : AHeap) : Prop where
  log : H'.log = es ++ H.log
  next : H.next ≤ H'.next
  lo : H'.lo = H.lo
  same : ∀ id, (id, true) ∉ es → H'.blks.get id = H.blks.get id
  touch : ∀ id b, (id, b) ∈ es → H.blks.get id ≠ none ∨ (H.next ≤ id ∧ id < H'.next)
  wlo : ∀ id, (id, true) ∈ es → H.lo ≤ id
  gone : ∀ id, H'.blks.get id ≠ none → H.blks.get id ≠ none ∨ (H.next ≤ id ∧ id < H'.next)
def Fr {α : Type} (m : M α) : Prop := ∀ H1 a H1', m H1 = some (a, H1') → ∃ es, Does es H1 H1' ∧
  ∀ H2 : AHeap, H2.next = H1.next → H2.lo ≤ H1.lo → (∀ id b, (id, b) ∈ es → H2.blks.get id = H1.blks.get id) →
    ∃ H2', m H2 = some (a, H2') ∧ Does es H2 H2' ∧ H2'.next = H1'.next ∧ ∀ id b, (id, b) ∈ es → H2'.blks.get id = H1'.blks.get id

theorem Does.refl (H : AHeap) : Does [] H H := ⟨rfl, Nat.le_refl _, rfl, fun _ _ => rfl, by simp, by simp, fun _ h => Or.inl h⟩
theorem Does.trans {es1 es2 : List (Nat × Bool)} {H H' H'' : AHeap} (h1 : Does es1 H H') (h2 : Does es2 H' H'') : Does (es2 ++ es1) H H'' :=
  ⟨by rw [h2.log, h1.log, List.append_assoc], Nat.le_trans h1.next h2.next, h2.lo.trans h1.lo, fun id hid => by
    rw [h2.same id (fun h => hid (by simp [h])), h1.same id (fun h => hid (by simp [h]))],
    fun id b hb => by
      have n1 := h1.next
      have n2 := h2.next
      rcases List.mem_append.1 hb with hb | hb
      · rcases h2.touch id b hb with h | h
        · rcases h1.gone id h with h | h
          · exact Or.inl h
          · exact Or.inr ⟨h.1, by omega⟩
        · exact Or.inr ⟨by omega, h.2⟩
      · rcases h1.touch id b hb with h | h
        · exact Or.inl h
        · exact Or.inr ⟨h.1, by omega⟩,
    fun id hb => by
      rcases List.mem_append.1 hb with hb | hb
      · rw [← h1.lo]; exact h2.wlo id hb
      · exact h1.wlo id hb,
    fun id h => by
      have n1 := h1.next
      have n2 := h2.next
      rcases h2.gone id h with h | h
      · rcases h1.gone id h with h | h
        · exact Or.inl h
        · exact Or.inr ⟨h.1, by omega⟩
      · exact Or.inr ⟨by omega, h.2⟩⟩
variable {α β : Type}
theorem fr_ret (a : α) : Fr (ret a) := by
  intro H1 x H1' h
  simp only [ret, Option.some.injEq, Prod.mk.injEq] at h
  obtain ⟨rfl, rfl⟩ := h
  exact ⟨[], .refl _, fun H2 hn _ _ => ⟨H2, rfl, .refl _, hn, by simp⟩⟩
theorem fr_fail : Fr (fail : M α) := by intro H1 x H1' h; simp [fail] at h
theorem fr_lift (o : Option α) : Fr (lift o) := by
  cases o with
  | none => intro H1 x H1' h; simp [lift] at h
  | some a => exact fr_ret a
theorem fr_bd {m : M α} {f : α → M β} (hm : Fr m) (hf : ∀ a, Fr (f a)) : Fr (bd m f) := by
  intro H1 b H1'' h
  unfold bd at h
  cases h1 : m H1 with
  | none => simp [h1] at h
  | some p =>
    obtain ⟨a, H1'⟩ := p
    simp only [h1] at h
    obtain ⟨es1, d1, k1⟩ := hm H1 a H1' h1
    obtain ⟨es2, d2, k2⟩ := hf a H1' b H1'' h
    refine ⟨es2 ++ es1, d1.trans d2, fun H2 hn hl hag => ?_⟩
    obtain ⟨H2', e1, d1', n1, g1⟩ := k1 H2 hn hl (fun id b hb => hag id b (by simp [hb]))
    have hmid : ∀ id b, (id, b) ∈ es2 → H2'.blks.get id = H1'.blks.get id := by
      intro id b hb
      by_cases hin : ∃ c, (id, c) ∈ es1
      · obtain ⟨c, hc⟩ := hin; exact g1 id c hc
      · rw [d1'.same id (fun h => hin ⟨_, h⟩), d1.same id (fun h => hin ⟨_, h⟩)]
        exact hag id b (by simp [hb])
    obtain ⟨H2'', e2, d2', n2, g2⟩ := k2 H2' n1 (by rw [d1'.lo, d1.lo]; exact hl) hmid
    refine ⟨H2'', by simp [bd, e1, e2], d1'.trans d2', n2, fun id b hb => ?_⟩
    by_cases hin : ∃ c, (id, c) ∈ es2
    · obtain ⟨c, hc⟩ := hin; exact g2 id c hc
    · rw [d2'.same id (fun h => hin ⟨_, h⟩), d2.same id (fun h => hin ⟨_, h⟩)]
      rcases List.mem_append.1 hb with hb | hb
      · exact absurd ⟨_, hb⟩ hin
      · exact g1 id b hb
theorem fr_rd (id : Nat) : Fr (rd id) := by
  intro H1 x H1' h
  unfold rd at h
  cases h1 : H1.blks.get id with
  | none => simp [h1] at h
  | some b =>
    simp only [h1, Option.some.injEq, Prod.mk.injEq] at h
    obtain ⟨rfl, rfl⟩ := h
    have key : ∀ H : AHeap, H.blks.get id = some b → Does [(id, false)] H { H with log := (id, false) :: H.log } := fun H hH =>
      ⟨rfl, Nat.le_refl _, rfl, fun _ _ => rfl, fun i c hc => by
        simp only [List.mem_singleton, Prod.mk.injEq] at hc
        obtain ⟨rfl, rfl⟩ := hc
        rw [hH]; simp, by simp, fun _ h => Or.inl h⟩
    refine ⟨[(id, false)], key _ h1, fun H2 hn hl hag => ?_⟩
    have e := hag id false (by simp)
    refine ⟨{ H2 with log := (id, false) :: H2.log }, by simp [rd, e, h1], key _ (by rw [e, h1]), hn, fun i c hc => ?_⟩
    simp only [List.mem_singleton, Prod.mk.injEq] at hc
    obtain ⟨rfl, rfl⟩ := hc
    exact e
theorem fr_put (id : Nat) (x : Option ABlk) : Fr (fun H : AHeap => cond (Nat.ble H.lo id) (match H.blks.get id with | none => none | some _ => some ((), { H with blks := H.blks.put id x, log := (id, true) :: H.log })) none) := by
  intro H1 u H1' h
  cases hlo : Nat.ble H1.lo id with
  | false => simp [hlo] at h
  | true =>
    simp only [hlo, cond_true] at h
    cases h1 : H1.blks.get id with
    | none => simp [h1] at h
    | some b =>
      simp only [h1, Option.some.injEq, Prod.mk.injEq] at h
      obtain ⟨_, rfl⟩ := h
      have key : ∀ H : AHeap, H.blks.get id = some b → H.lo ≤ id → Does [(id, true)] H { H with blks := H.blks.put id x, log := (id, true) :: H.log } := fun H hH hl =>
        ⟨rfl, Nat.le_refl _, rfl, fun i hi => by
          have : id ≠ i := fun e => hi (by simp [e])
          simp [Tr.get_put, this], fun i c hc => by
          simp only [List.mem_singleton, Prod.mk.injEq] at hc
          obtain ⟨rfl, rfl⟩ := hc
          rw [hH]; simp, fun i hi => by
          simp only [List.mem_singleton, Prod.mk.injEq] at hi
          rw [hi.1]; exact hl, fun i hi => by
          by_cases e : id = i
          · subst e; rw [hH]; simp
          · simp [Tr.get_put, e] at hi; exact Or.inl hi⟩
      have hle : H1.lo ≤ id := Nat.le_of_ble_eq_true hlo
      refine ⟨[(id, true)], key _ h1 hle, fun H2 hn hl hag => ?_⟩
      have e := hag id true (by simp)
      have hlo2 : Nat.ble H2.lo id = true := Nat.ble_eq_true_of_le (Nat.le_trans hl hle)
      refine ⟨_, by simp only [hlo2, cond_true, e, h1], key _ (by rw [e, h1]) (Nat.le_trans hl hle), hn, fun i c hc => ?_⟩
      simp only [List.mem_singleton, Prod.mk.injEq] at hc
      obtain ⟨rfl, rfl⟩ := hc
      simp [Tr.get_put]
theorem fr_wr (id : Nat) (b : ABlk) : Fr (wr id b) := fr_put id (some b)
theorem fr_kill (id : Nat) : Fr (kill id) := fr_put id none
theorem fr_nw (b : ABlk) : Fr (nw b) := by
  intro H1 n H1' h
  unfold nw at h
  simp only [frcN_eq] at h
  cases hlo : Nat.ble H1.lo H1.next with
  | false => simp [hlo] at h
  | true =>
    simp only [hlo, cond_true, Option.some.injEq, Prod.mk.injEq] at h
    obtain ⟨rfl, rfl⟩ := h
    have key : ∀ H : AHeap, H.lo ≤ H.next → Does [(H.next, true)] H { H with blks := H.blks.put H.next (some b), next := H.next + 1, log := (H.next, true) :: H.log } := fun H hl =>
      ⟨rfl, Nat.le_succ _, rfl, fun i hi => by
        have : H.next ≠ i := fun e => hi (by simp [e])
        simp [Tr.get_put, this], fun i c hc => by
        simp only [List.mem_singleton, Prod.mk.injEq] at hc
        obtain ⟨rfl, rfl⟩ := hc
        exact Or.inr ⟨Nat.le_refl _, Nat.lt_succ_self _⟩, fun i hi => by
        simp only [List.mem_singleton, Prod.mk.injEq] at hi
        rw [hi.1]; exact hl, fun i hi => by
        by_cases e : H.next = i
        · subst e; exact Or.inr ⟨Nat.le_refl _, Nat.lt_succ_self _⟩
        · simp [Tr.get_put, e] at hi; exact Or.inl hi⟩
    have hle : H1.lo ≤ H1.next := Nat.le_of_ble_eq_true hlo
    refine ⟨_, key _ hle, fun H2 hn hl hag => ?_⟩
    have hle2 : H2.lo ≤ H2.next := by rw [hn]; exact Nat.le_trans hl hle
    have hlo2 : Nat.ble H2.lo H1.next = true := Nat.ble_eq_true_of_le (Nat.le_trans hl hle)
    refine ⟨{ H2 with blks := H2.blks.put H2.next (some b), next := H2.next + 1, log := (H2.next, true) :: H2.log }, by simp [nw, frcN_eq, hn, hlo2], by rw [← hn]; exact key _ hle2, by simp [hn], fun i c hc => ?_⟩
    simp only [List.mem_singleton, Prod.mk.injEq] at hc
    obtain ⟨rfl, rfl⟩ := hc
    simp [Tr.get_put, hn]
theorem fr_capture {m : M α} (hm : Fr m) : Fr (capture m) := by
  intro H1 r H1' h
  unfold capture at h
  cases h1 : m { H1 with log := [] } with
  | none => simp [h1] at h
  | some p =>
    obtain ⟨a, K⟩ := p
    simp only [h1, Option.some.injEq, Prod.mk.injEq] at h
    obtain ⟨rfl, rfl⟩ := h
    obtain ⟨es, d, k⟩ := hm _ a K h1
    have hlog : K.log = es := by simpa using d.log
    refine ⟨es, ⟨by simp [hlog], d.next, d.lo, d.same, d.touch, d.wlo, d.gone⟩, fun H2 hn hl hag => ?_⟩
    obtain ⟨K2, e2, d2, n2, g2⟩ := k { H2 with log := [] } hn hl hag
    have hlog2 : K2.log = es := by simpa using d2.log
    exact ⟨{ K2 with log := es ++ H2.log }, by simp [capture, e2, hlog, hlog2], ⟨rfl, d2.next, d2.lo, d2.same, d2.touch, d2.wlo, d2.gone⟩, n2, g2⟩
theorem fr_cond (b : Bool) {x y : M α} (hx : Fr x) (hy : Fr y) : Fr (cond b x y) := by cases b <;> assumption
theorem capture_spec {m : M α} (hm : Fr m) {H : AHeap} {a : α} {es : List (Nat × Bool)} {H' : AHeap} (h : capture m H = some ((a, es), H')) :
    Does es H H' ∧ (∃ K, m { H with log := [] } = some (a, K) ∧ K.blks = H'.blks ∧ K.next = H'.next ∧ K.lo = H'.lo) ∧
    ∀ H2 : AHeap, H2.next = H.next → H2.lo ≤ H.lo → (∀ id b, (id, b) ∈ es → H2.blks.get id = H.blks.get id) →
      ∃ H2', m H2 = some (a, H2') ∧ Does es H2 H2' ∧ H2'.next = H'.next ∧ ∀ id b, (id, b) ∈ es → H2'.blks.get id = H'.blks.get id := by
  unfold capture at h
  cases h1 : m { H with log := [] } with
  | none => simp [h1] at h
  | some p =>
    obtain ⟨a', K⟩ := p
    simp only [h1, Option.some.injEq, Prod.mk.injEq] at h
    obtain ⟨⟨rfl, rfl⟩, rfl⟩ := h
    obtain ⟨es, d, k⟩ := hm _ a' K h1
    have hlog : K.log = es := by simpa using d.log
    rw [hlog]
    exact ⟨⟨rfl, d.next, d.lo, d.same, d.touch, d.wlo, d.gone⟩, ⟨K, rfl, rfl, rfl, rfl⟩, fun H2 hn hl hag => k H2 hn hl hag⟩

/-! ### every operation -/
section
variable (P : Program)
theorem fr_newCells (elem : TypeId) (cs : List AVal) : Fr (newCells elem cs) := fr_cond _ (fr_nw _) fr_fail
theorem fr_allocA (t : TypeId) : Fr (allocA P t) := by
  unfold allocA; split
  · exact fr_bd (fr_newCells _ _) fun _ => fr_ret _
  · exact fr_fail
theorem fr_boxA (t : TypeId) (v : AVal) : Fr (boxA t v) := fr_bd (fr_newCells _ _) fun _ => fr_ret _
theorem fr_loadCellsA (b o n : Nat) : Fr (loadCellsA b o n) := fr_bd (fr_rd _) fun _ => by split <;> first | exact fr_lift _ | exact fr_fail
theorem fr_loadA (t : TypeId) (b o : Nat) : Fr (loadA P t b o) := by
  unfold loadA
  repeat' first | exact fr_fail | exact fr_lift _ | exact fr_ret _ | exact fr_loadCellsA _ _ _ | exact fr_rd _ | (refine fr_bd ?_ fun _ => ?_) | split
theorem fr_storeCellsA (b o : Nat) (vs : List AVal) : Fr (storeCellsA b o vs) := fr_bd (fr_rd _) fun _ => by
  split
  · exact fr_cond _ (fr_wr _ _) fr_fail
  · exact fr_fail
theorem fr_storeA (t : TypeId) (p v : AVal) : Fr (storeA P t p v) := by
  unfold storeA
  repeat' first | exact fr_fail | exact fr_storeCellsA _ _ _ | (refine fr_cond _ ?_ ?_) | split
theorem fr_buildSliceA (t : TypeId) (n : Nat) (l : List (Nat × AVal)) : Fr (buildSliceA P t n l) := by
  unfold buildSliceA
  repeat' first | exact fr_fail | exact fr_ret _ | exact fr_newCells _ _ | (refine fr_cond _ ?_ ?_) | (refine fr_bd ?_ fun _ => ?_) | split
theorem fr_makeSliceA (t : TypeId) (l c : AVal) : Fr (makeSliceA P t l c) := by
  unfold makeSliceA
  simp only [frcN_eq]
  repeat' first | exact fr_fail | exact fr_ret _ | exact fr_newCells _ _ | (refine fr_cond _ ?_ ?_) | (refine fr_bd ?_ fun _ => ?_) | split
theorem fr_sliceM (t : TypeId) (x : AVal) (lo hi mx : Option AVal) : Fr (sliceM P t x lo hi mx) := by
  unfold sliceM
  repeat' first | exact fr_fail | exact fr_lift _ | exact fr_rd _ | (refine fr_cond _ ?_ ?_) | (refine fr_bd ?_ fun _ => ?_) | split
theorem fr_firstA (es n : Nat) (x : AVal) : Fr (firstA es n x) := by
  unfold firstA
  repeat' first | exact fr_fail | exact fr_ret _ | exact fr_loadCellsA _ _ _ | (refine fr_cond _ ?_ ?_) | split
theorem fr_killC (b : Nat) (e : TypeId) : Fr (killC b e) := fr_bd (fr_rd _) fun _ => by
  split
  · exact fr_cond _ (fr_kill _) fr_fail
  · exact fr_fail
theorem fr_appendA (st xt : TypeId) (s x : AVal) : Fr (appendA P st xt s x) := by
  unfold appendA
  simp only [frcN_eq]
  repeat' first | exact fr_fail | exact fr_ret _ | exact fr_newCells _ _ | exact fr_firstA _ _ _ | exact fr_storeCellsA _ _ _ | exact fr_killC _ _ | (refine fr_cond _ ?_ ?_) | (refine fr_bd ?_ fun _ => ?_) | split
theorem fr_copyA (t : TypeId) (d s : AVal) : Fr (copyA P t d s) := by
  unfold copyA
  simp only [frcN_eq]
  repeat' first | exact fr_fail | exact fr_ret _ | exact fr_firstA _ _ _ | exact fr_storeCellsA _ _ _ | (refine fr_cond _ ?_ ?_) | (refine fr_bd ?_ fun _ => ?_) | split
theorem fr_lenA (t : TypeId) (x : AVal) : Fr (lenA P t x) := by
  unfold lenA
  repeat' first | exact fr_fail | exact fr_ret _ | exact fr_rd _ | (refine fr_bd ?_ fun _ => ?_) | split
theorem fr_clearA (t : TypeId) (x : AVal) : Fr (clearA P t x) := by
  unfold clearA
  repeat' first | exact fr_fail | exact fr_ret _ | exact fr_rd _ | exact fr_wr _ _ | exact fr_storeCellsA _ _ _ | (refine fr_cond _ ?_ ?_) | (refine fr_bd ?_ fun _ => ?_) | split
theorem fr_lookupA (t : TypeId) (x k : AVal) (ok : Bool) : Fr (lookupA P t x k ok) := by
  unfold lookupA
  repeat' first | exact fr_fail | exact fr_ret _ | exact fr_lift _ | exact fr_rd _ | (refine fr_cond _ ?_ ?_) | (refine fr_bd ?_ fun _ => ?_) | split
theorem fr_mapUpdateA (t : TypeId) (m k v : AVal) : Fr (mapUpdateA P t m k v) := by
  unfold mapUpdateA
  simp only [frcN_eq]
  repeat' first | exact fr_fail | exact fr_ret _ | exact fr_lift _ | exact fr_rd _ | exact fr_wr _ _ | (refine fr_cond _ ?_ ?_) | (refine fr_bd ?_ fun _ => ?_) | split
theorem fr_get (t : TypeId) (x : APl) : Fr (x.get P t) := by
  cases x
  · exact fr_ret _
  · exact fr_loadA _ _ _ _
theorem fr_stepA (s : FieldStep) (x : APl) (t : TypeId) : Fr (stepA P s x t) := by
  unfold stepA
  repeat' first | exact fr_fail | exact fr_ret _ | exact fr_get _ _ _ | (refine fr_cond _ ?_ ?_) | (refine fr_bd ?_ fun _ => ?_) | split
theorem fr_followA : ∀ (l : List FieldStep) (t : TypeId) (x : APl), Fr (followA P l t x)
  | [], _, _ => fr_ret _
  | _ :: l, _, _ => fr_bd (fr_stepA _ _ _ _) fun _ => fr_followA l _ _
theorem fr_receiverA (t : TypeId) (x : APl) (b : Bool) : Fr (receiverA P t x b) := by
  unfold receiverA
  repeat' first | exact fr_fail | exact fr_ret _ | exact fr_get _ _ _ | exact fr_loadA _ _ _ _ | (refine fr_cond _ ?_ ?_) | (refine fr_bd ?_ fun _ => ?_) | split
theorem fr_methodA (t : TypeId) (v : AVal) (n : String) : Fr (methodA P t v n) := by
  unfold methodA
  repeat' first | exact fr_fail | exact fr_ret _ | exact fr_followA _ _ _ _ | exact fr_receiverA _ _ _ _ | (refine fr_bd ?_ fun _ => ?_) | split
theorem fr_builtinA (b : Builtin) (ts : List TypeId) (as : List AVal) : Fr (builtinA P b ts as) := by
  unfold builtinA
  split <;> first | exact fr_fail | exact fr_appendA _ _ _ _ _ | exact fr_lenA _ _ _ | exact fr_clearA _ _ _ | exact fr_lift _
theorem fr_goA (k : FuncId) (as : List AVal) : Fr (goA P k as) := fr_cond _ (fr_ret _) fr_fail
theorem fr_callA (T : Tmps) (c : Call) : Fr (callA P T c) := by
  unfold callA
  repeat' first | exact fr_fail | exact fr_ret _ | exact fr_rd _ | (refine fr_cond _ ?_ ?_) | exact fr_goA _ _ _ | exact fr_builtinA _ _ _ _ | exact fr_methodA _ _ _ _ | (refine fr_bd ?_ fun _ => ?_) | split
theorem fr_opA (T : Tmps) (o : Op) : Fr (opA P T o) := by
  unfold opA
  cases o <;> simp only <;> repeat' first | exact fr_fail | exact fr_ret _ | exact fr_lift _ | exact fr_allocA _ _ | exact fr_boxA _ _ | exact fr_buildSliceA _ _ _ _ | exact fr_loadA _ _ _ _ | exact fr_storeA _ _ _ _ | exact fr_makeSliceA _ _ _ _ | exact fr_sliceM _ _ _ _ _ _ | exact fr_lookupA _ _ _ _ _ | exact fr_mapUpdateA _ _ _ _ _ | exact fr_callA _ _ _ | (refine fr_bd ?_ fun _ => ?_) | exact fr_nw _ | (refine fr_cond _ ?_ ?_) | split | (show Fr (bd (nw _) _))

def FrX (X : Told) : Prop := ∀ f g args, X f = some g → Fr (g args)
theorem frX_none : FrX noExt := fun _ _ _ h => by cases h
theorem fr_outVal {m : M Out} (h : Fr m) : Fr (outVal m) := fr_bd h fun _ => by split <;> first | exact fr_ret _ | exact fr_fail
section
variable {ih : Task → M Out} (hih : ∀ t, Fr (ih t))
include hih
theorem fr_nextA (x : ANext) : Fr (nextA ih x) := by
  unfold nextA
  split <;> first | exact fr_ret _ | exact fr_outVal (hih _)
theorem fr_valOp (all : List Oper) (o : Oper) (T : Tmps) : Fr (valOp P ih all o T) := by
  unfold valOp
  split
  · exact fr_bd (fr_opA _ _ _) fun _ => fr_nextA hih _
  · exact fr_ret _
  · exact fr_fail
theorem fr_oneOp (nt : Nat) (all : List Oper) (o : Oper) (T : Tmps) : Fr (oneOp P ih nt all o T) := fr_bd (fr_valOp P hih _ _ _) fun _ => fr_lift _
theorem fr_opsA (nt : Nat) (all : List Oper) : ∀ (l : List Oper) (T : Tmps), Fr (opsA P ih nt all l T)
  | [], _ => fr_ret _
  | _ :: l, _ => fr_bd (fr_oneOp P hih _ _ _ _) fun _ => fr_opsA nt all l _
theorem fr_opsD (nt : Nat) (all : Array Oper) : ∀ (l : List Oper) (mks : List Nat) (done : List (Oper × List (Nat × Bool))) (T : Tmps), Fr (opsD P ih nt all l mks done T)
  | [], _, _, _ => fr_ret _
  | _ :: _, [], _, _ => fr_fail
  | _ :: l, _ :: mks, _, _ => fr_bd (fr_capture (fr_oneOp P hih _ _ _ _)) fun _ => fr_cond _ (fr_opsD nt all l mks _ _) fr_fail
omit hih in
theorem fr_resultsA (T : Tmps) : ∀ l : List ResultVar, Fr (resultsA P T l)
  | [] => fr_ret _
  | .tmp _ :: l => fr_bd (fr_resultsA T l) fun _ => fr_ret _
  | .cell a t :: l => by
    unfold resultsA
    split
    · exact fr_bd (fr_loadA _ _ _ _) fun _ => fr_bd (fr_resultsA T l) fun _ => fr_ret _
    · exact fr_fail
omit hih in
theorem fr_takeMarks : ∀ l : List Nat, Fr (takeMarks l)
  | [] => fr_ret _
  | _ :: l => fr_bd (fr_rd _) fun _ => by
    split
    · exact fr_bd (fr_wr _ _) fun _ => fr_takeMarks l
    · exact fr_fail
omit hih in
theorem fr_enterA (r : Option Nat) : Fr (enterA r) := by
  unfold enterA
  repeat' first | exact fr_fail | exact fr_ret _ | exact fr_rd _ | exact fr_nw _ | (refine fr_bd ?_ fun _ => ?_) | split
theorem fr_runCode (nt : Nat) (r : Option Nat) (c : Code) (T : Tmps) (ms : List Nat) : Fr (runCode P ih nt r c T ms) := by
  unfold runCode
  repeat' first | exact fr_fail | exact fr_ret _ | exact hih _ | exact fr_outVal (hih _) | exact fr_rd _ | exact fr_wr _ _ | exact fr_nw _ | exact fr_enterA _ | exact fr_opsD P hih _ _ _ _ _ _ | exact fr_opsA P hih _ _ _ _ | (refine fr_cond _ ?_ ?_) | (refine fr_bd ?_ fun _ => ?_) | split
theorem fr_runCall (f : FuncId) (args : List AVal) : Fr (runCall P ih f args) := by
  unfold runCall
  repeat' first | exact fr_fail | exact fr_ret _ | exact hih _ | exact fr_takeMarks _ | exact fr_resultsA _ _ _ | (refine fr_cond _ ?_ ?_) | (refine fr_bd ?_ fun _ => ?_) | split
omit hih in
theorem fr_endRoundA (l : Nat) (e : AExit) : Fr (endRoundA l e) := by
  unfold endRoundA
  repeat' first | exact fr_fail | exact fr_ret _ | exact fr_rd _ | exact fr_wr _ _ | (refine fr_bd ?_ fun _ => ?_) | split
omit hih in
theorem fr_beginA (l : Nat) : Fr (beginA l) := by
  unfold beginA
  repeat' first | exact fr_fail | exact fr_ret _ | exact fr_rd _ | exact fr_wr _ _ | (refine fr_bd ?_ fun _ => ?_) | split
theorem fr_runRound (l : Nat) (args : List AVal) : Fr (runRound ih l args) := by
  unfold runRound
  repeat' first | exact fr_fail | exact fr_ret _ | exact hih _ | exact fr_rd _ | exact fr_beginA _ | exact fr_endRoundA _ _ | (refine fr_bd ?_ fun _ => ?_) | split
theorem fr_runStep {X : Told} (hX : FrX X) (t : Task) : Fr (runStep P X ih t) := by
  cases t with
  | code => exact fr_runCode P hih _ _ _ _ _
  | call f args =>
    show Fr (match X f with
      | some g => bd (g args) fun v => ret (.val v)
      | none => runCall P ih f args)
    split
    · rename_i g hg
      exact fr_bd (hX f g args hg) fun _ => fr_ret _
    · exact fr_runCall P hih _ _
  | round => exact fr_runRound hih _ _
end
theorem fr_run {X : Told} (hX : FrX X) : ∀ (n : Nat) (t : Task), Fr (run P X n t)
  | 0, _ => fr_fail
  | n + 1, t => fr_runStep P (fr_run hX n) hX t
end
end Go.AM
