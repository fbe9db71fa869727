/- Part 22 of a calculation in a small memory that is proved to answer as the program does: see the last part. -/
import Derived.Test.YtnbgeelhoakjgaaAm21
import Derived.Maps.RangeRun
namespace Go.AM
open Go Go.RowKit
section
variable {P : Program} {σ : Nat → Value} {ρ : Ren} {base nt : Nat} {H H' : AHeap} {w : World} {T : Tmps} {a : Act} {ih : Task → M Out} {n : Nat}
def exitE : AExit → Exit
  | .nrm => .normal
  | .exit id => .exit id
  | .ret => .ret
def RR (ρ : Ren) : Option Nat → Option Nat → Prop
  | none, r => r = none
  | some l, r => ∃ L, ρ l = some L ∧ r = some L.blk
theorem RR.mono {ρ ρ' : Ren} {x r : Option Nat} (h : RR ρ x r) (hl : Le ρ ρ') : RR ρ' x r := by
  cases x with
  | none => exact h
  | some l => obtain ⟨L, h1, h2⟩ := h; exact ⟨L, hl _ _ h1, h2⟩
def ACode (r : Option Nat) (n : Nat) (P : Program) (c : Code) (Q : Exit → Act → World → Prop) (a : Act) (w : World) : Prop :=
  match c with
  | .loop b => Code.roundsIn (FR r) 0 P b Q (match mapStep b with | some _ => 1000 | none => n) a w
  | c => c.wpIn (FR r) 0 P Q a w
theorem ACode.wp {r : Option Nat} {c : Code} {Q : Exit → Act → World → Prop} (h : ACode r n P c Q a w) : c.wpIn (FR r) 0 P Q a w := by
  cases c <;> first | exact wpIn_loop_rounds _ h | exact h
structure CodePost (σ : Nat → Value) (ρ : Ren) (base nt : Nat) (H H' : AHeap) (w : World) (T' : Tmps) (ms' : List Nat) (ρ' : Ren) (a' : Act) (w' : World) : Prop where
  post : Post σ ρ ρ' base H H' w w'
  tmps : TRel σ ρ' nt T' a'.tmps
  defers : DRel ρ' ms' a'.defers
def CodeOK (P : Program) (n : Nat) (ih : Task → M Out) : Prop := ∀ (nt : Nat) (rA : Option Nat) (c : Code) (T : Tmps) (ms : List Nat) (H : AHeap) (o : Out) (H' : AHeap), ih (.code nt rA c T ms) H = some (o, H') →
  ∃ e T' ms', o = .exit e T' ms' ∧ ∀ (σ : Nat → Value) (ρ : Ren) (base : Nat) (w : World) (a : Act) (r : Option Nat) (Q : Exit → Act → World → Prop), One σ → WR σ ρ base H w → Free ρ H.next H'.next → TRel σ ρ nt T a.tmps → RR ρ rA r → DRel ρ ms a.defers →
    (∀ a' w' ρ', CodePost σ ρ base nt H H' w T' ms' ρ' a' w' → Q (exitE e) a' w') → ACode r n P c Q a w
/-- what one step of code is to show -/
def Goal (P : Program) (n nt : Nat) (rA : Option Nat) (c : Code) (T : Tmps) (ms : List Nat) (H : AHeap) (o : Out) (H' : AHeap) : Prop :=
  ∃ e T' ms', o = .exit e T' ms' ∧ ∀ (σ : Nat → Value) (ρ : Ren) (base : Nat) (w : World) (a : Act) (r : Option Nat) (Q : Exit → Act → World → Prop), One σ → WR σ ρ base H w → Free ρ H.next H'.next → TRel σ ρ nt T a.tmps → RR ρ rA r → DRel ρ ms a.defers →
    (∀ a' w' ρ', CodePost σ ρ base nt H H' w T' ms' ρ' a' w' → Q (exitE e) a' w') → ACode r n P c Q a w
theorem CodePost.stay {ms : List Nat} (hwr : WR σ ρ base H w) (hT : TRel σ ρ nt T a.tmps) (hd : DRel ρ ms a.defers) : CodePost σ ρ base nt H H w T ms ρ a w :=
  ⟨⟨.refl _ _ _, hwr, .refl _ _⟩, hT, hd⟩
theorem next_of {t : Task} (hfr : ∀ t, Fr (ih t)) {o : Out} (h : ih t H = some (o, H')) : H.next ≤ H'.next := by obtain ⟨es, d, _⟩ := hfr t H o H' h; exact d.next
theorem CodePost.trans {ρ1 ρ2 : Ren} {K : AHeap} {T1 T2 : Tmps} {ms1 ms2 : List Nat} {a1 a2 : Act} {w1 w2 : World} (h : CodePost σ ρ base nt H K w T1 ms1 ρ1 a1 w1) (k : CodePost σ ρ1 base nt K H' w1 T2 ms2 ρ2 a2 w2)
    (m1 : H.next ≤ K.next) (m2 : K.next ≤ H'.next) : CodePost σ ρ base nt H H' w T2 ms2 ρ2 a2 w2 :=
  ⟨⟨h.post.ext.trans k.post.ext m1 m2, k.post.wr, h.post.below.trans k.post.below⟩, k.tmps, k.defers⟩
/-! ### several ways that come together -/
theorem intKindEq_eq : ∀ {k k' : IntKind}, intKindEq k k' = true → k = k' := by
  intro k k' h; cases k <;> cases k' <;> first | rfl | (cases h; done)
mutual
theorem eqA_eq : ∀ {a b : AVal}, eqA a b = true → a = b
  | .bool a, b, h => by
    cases b <;> unfold eqA at h <;> first | (cases h; done) | (have := of_decide_eq_true (p := _ = _) (by simpa using h); simp_all)
  | .int k a, b, h => by
    cases b <;> unfold eqA at h <;> first | (cases h; done) | (simp only [Bool.and_eq_true, eqI_eq, beq_iff_eq] at h; obtain ⟨h1, rfl⟩ := h; rw [intKindEq_eq h1])
  | .str s, b, h => by
    cases b <;> unfold eqA at h <;> first | (cases h; done) | (rw [of_decide_eq_true h])
  | .ptr x o, b, h => by
    cases b <;> unfold eqA at h <;> first | (cases h; done) | (simp only [Bool.and_eq_true] at h; rw [Nat.eq_of_beq_eq_true h.1, Nat.eq_of_beq_eq_true h.2])
  | .nilptr, b, h => by cases b <;> unfold eqA at h <;> first | rfl | (cases h; done)
  | .slc x o l c e, b, h => by
    cases b <;> unfold eqA at h <;> first | (cases h; done) | skip
    rename_i x' o' l' c' e'
    simp only [Bool.and_eq_true] at h
    obtain ⟨h1, h2, h3, h4, h5⟩ := h
    rw [Nat.eq_of_beq_eq_true h1, Nat.eq_of_beq_eq_true h2, Nat.eq_of_beq_eq_true h3, Nat.eq_of_beq_eq_true h5]
    cases c <;> cases c' <;> first | rfl | (cases h4; done) | (rw [Nat.eq_of_beq_eq_true h4])
  | .nilslc, b, h => by cases b <;> unfold eqA at h <;> first | rfl | (cases h; done)
  | .map x, b, h => by
    cases b <;> unfold eqA at h <;> first | (cases h; done) | (rw [Nat.eq_of_beq_eq_true h])
  | .nilmap, b, h => by cases b <;> unfold eqA at h <;> first | rfl | (cases h; done)
  | .fn f a c, b, h => by
    cases b
    case fn f' a' c' =>
      cases f <;> cases f' <;> first | (unfold eqA at h; cases h; done) | skip
      unfold eqA at h
      simp only [Bool.and_eq_true] at h
      obtain ⟨h1, h2, h3⟩ := h
      rw [Nat.eq_of_beq_eq_true h1, eqAs_eq h2, eqAs_eq h3]
    all_goals (cases f <;> unfold eqA at h <;> cases h)
  | .yield x, b, h => by
    cases b <;> unfold eqA at h <;> first | (cases h; done) | (rw [Nat.eq_of_beq_eq_true h])
  | .nilFunc, b, h => by cases b <;> unfold eqA at h <;> first | rfl | (cases h; done)
  | .ifc t v, b, h => by
    cases b <;> unfold eqA at h <;> first | (cases h; done) | (simp only [Bool.and_eq_true] at h; rw [Nat.eq_of_beq_eq_true h.1, eqA_eq h.2])
  | .nilIface, b, h => by cases b <;> unfold eqA at h <;> first | rfl | (cases h; done)
  | .agg l, b, h => by
    cases b <;> unfold eqA at h <;> first | (cases h; done) | (rw [eqAs_eq h])
  | .tup l, b, h => by
    cases b <;> unfold eqA at h <;> first | (cases h; done) | (rw [eqAs_eq h])
  | .opq i, b, h => by
    cases b <;> unfold eqA at h <;> first | (cases h; done) | (rw [Nat.eq_of_beq_eq_true h])
theorem eqAs_eq : ∀ {a b : List AVal}, eqAs a b = true → a = b
  | [], b, h => by cases b <;> unfold eqAs at h <;> first | rfl | (cases h; done)
  | x :: xs, b, h => by
    cases b <;> unfold eqAs at h <;> first | (cases h; done) | (simp only [Bool.and_eq_true] at h; rw [eqA_eq h.1, eqAs_eq h.2])
end
theorem join_leaf (hσ : One σ) {a b c : AVal} (h : cond (eqA a b) (some a) (cond (a.one && b.one) (some (.opq 0)) none) = some c) {v : Value} : (Rel σ ρ a v → Rel σ ρ c v) ∧ (Rel σ ρ b v → Rel σ ρ c v) := by
  cases he : eqA a b with
  | true =>
    rw [he] at h
    cases h
    rw [eqA_eq he]
    exact ⟨id, id⟩
  | false =>
    rw [he] at h
    cases ho : a.one && b.one with
    | false => rw [ho] at h; cases h
    | true =>
      rw [ho] at h
      cases h
      simp only [Bool.and_eq_true] at ho
      refine ⟨fun h => ?_, fun h => ?_⟩
      · have := one_cell hσ h ho.1; unfold Rel; exact this
      · have := one_cell hσ h ho.2; unfold Rel; exact this
mutual
theorem joinV_rel (hσ : One σ) : ∀ (a b c : AVal), joinV a b = some c → ∀ v, (Rel σ ρ a v → Rel σ ρ c v) ∧ (Rel σ ρ b v → Rel σ ρ c v)
  | .agg l, b, c, h, v => by
    cases b
    case agg l' =>
      unfold joinV at h
      cases hj : joinVs l l' with
      | none => rw [hj] at h; cases h
      | some l2 =>
        rw [hj] at h
        cases h
        have := joinVs_rel hσ l l' l2 hj
        refine ⟨fun h => ?_, fun h => ?_⟩
        · unfold Rel at h ⊢; obtain ⟨cs, h1, h2⟩ := h; exact ⟨cs, h1, (this _).1 h2⟩
        · unfold Rel at h ⊢; obtain ⟨cs, h1, h2⟩ := h; exact ⟨cs, h1, (this _).2 h2⟩
    all_goals (unfold joinV at h; exact join_leaf hσ h)
  | .tup l, b, c, h, v => by
    cases b
    case tup l' =>
      unfold joinV at h
      cases hj : joinVs l l' with
      | none => rw [hj] at h; cases h
      | some l2 =>
        rw [hj] at h
        cases h
        have := joinVs_rel hσ l l' l2 hj
        refine ⟨fun h => ?_, fun h => ?_⟩
        · unfold Rel at h ⊢; obtain ⟨cs, h1, h2⟩ := h; exact ⟨cs, h1, (this _).1 h2⟩
        · unfold Rel at h ⊢; obtain ⟨cs, h1, h2⟩ := h; exact ⟨cs, h1, (this _).2 h2⟩
    all_goals (unfold joinV at h; exact join_leaf hσ h)
  | .bool _, b, c, h, v => by unfold joinV at h; exact join_leaf hσ h
  | .int _ _, b, c, h, v => by unfold joinV at h; exact join_leaf hσ h
  | .str _, b, c, h, v => by unfold joinV at h; exact join_leaf hσ h
  | .ptr _ _, b, c, h, v => by unfold joinV at h; exact join_leaf hσ h
  | .nilptr, b, c, h, v => by unfold joinV at h; exact join_leaf hσ h
  | .slc _ _ _ _ _, b, c, h, v => by unfold joinV at h; exact join_leaf hσ h
  | .nilslc, b, c, h, v => by unfold joinV at h; exact join_leaf hσ h
  | .map _, b, c, h, v => by unfold joinV at h; exact join_leaf hσ h
  | .nilmap, b, c, h, v => by unfold joinV at h; exact join_leaf hσ h
  | .fn _ _ _, b, c, h, v => by unfold joinV at h; exact join_leaf hσ h
  | .yield _, b, c, h, v => by unfold joinV at h; exact join_leaf hσ h
  | .nilFunc, b, c, h, v => by unfold joinV at h; exact join_leaf hσ h
  | .ifc _ _, b, c, h, v => by unfold joinV at h; exact join_leaf hσ h
  | .nilIface, b, c, h, v => by unfold joinV at h; exact join_leaf hσ h
  | .opq _, b, c, h, v => by unfold joinV at h; exact join_leaf hσ h
theorem joinVs_rel (hσ : One σ) : ∀ (a b c : List AVal), joinVs a b = some c → ∀ l, (RelL σ ρ a l → RelL σ ρ c l) ∧ (RelL σ ρ b l → RelL σ ρ c l)
  | [], b, c, h, l => by
    cases b <;> unfold joinVs at h
    · cases h; exact ⟨id, id⟩
    · cases h
  | x :: xs, b, c, h, l => by
    cases b with
    | nil => unfold joinVs at h; cases h
    | cons y ys =>
      unfold joinVs at h
      cases h1 : joinV x y with
      | none => rw [h1] at h; cases h
      | some z =>
        cases h2 : joinVs xs ys with
        | none => rw [h1, h2] at h; cases h
        | some zs =>
          rw [h1, h2] at h
          cases h
          have a1 := joinV_rel hσ x y z h1
          have a2 := joinVs_rel hσ xs ys zs h2
          refine ⟨fun h => ?_, fun h => ?_⟩
          · unfold RelL at h ⊢; obtain ⟨u, us, e, r1, r2⟩ := h; exact ⟨u, us, e, (a1 _).1 r1, (a2 _).1 r2⟩
          · unfold RelL at h ⊢; obtain ⟨u, us, e, r1, r2⟩ := h; exact ⟨u, us, e, (a1 _).2 r1, (a2 _).2 r2⟩
end
def oval (o : Option AVal) : AVal := o.getD .undef
theorem joinO_rel (hσ : One σ) {a b c : Option AVal} (h : joinO a b = some c) (v : Value) : (Rel σ ρ (oval a) v → Rel σ ρ (oval c) v) ∧ (Rel σ ρ (oval b) v → Rel σ ρ (oval c) v) := by
  cases a with
  | none =>
    cases b with
    | none => cases h; exact ⟨id, id⟩
    | some b => cases h
  | some a =>
    cases b with
    | none => cases h
    | some b =>
      unfold joinO at h
      simp only at h
      cases hj : joinV a b with
      | none => rw [hj] at h; cases h
      | some c' => rw [hj] at h; cases h; exact joinV_rel hσ a b c' hj v
theorem joinT_get : ∀ (T T' U : Tmps), joinT T T' = some U → ∀ i, joinO (T.get i) (T'.get i) = some (U.get i)
  | .nil, T', U, h, i => by
    cases T' with
    | nil => cases h; cases i <;> rfl
    | node => cases h
  | .node v l r, T', U, h, i => by
    cases T' with
    | nil => cases h
    | node v' l' r' =>
      unfold joinT at h
      split at h
      · rename_i v2 l2 r2 h1 h2 h3
        cases h
        cases i with
        | zero => exact h1
        | succ i =>
          cases hb : Nat.beq (i % 2) 0 with
          | true => simp only [Tr.get, hb, cond_true]; exact joinT_get l l' l2 h2 _
          | false => simp only [Tr.get, hb, cond_false]; exact joinT_get r r' r2 h3 _
      · cases h
theorem meetT_get : ∀ (T T' : Tmps) (i : Nat) (x : AVal), (meetT T T').get i = some x → ∃ a b, T.get i = some a ∧ T'.get i = some b ∧ a.one = true ∧ b.one = true ∧ joinV a b = some x
  | .nil, T', i, x, h => by unfold meetT at h; rw [Tr.get_nil] at h; cases h
  | .node v l r, .nil, i, x, h => by unfold meetT at h; rw [Tr.get_nil] at h; cases h
  | .node v l r, .node v' l' r', i, x, h => by
    unfold meetT at h
    cases i with
    | zero =>
      simp only [Tr.get] at h ⊢
      unfold meetO at h
      split at h
      · rename_i a b
        cases ho : a.one && b.one with
        | false => rw [ho] at h; cases h
        | true => rw [ho] at h; simp only [Bool.and_eq_true] at ho; exact ⟨a, b, rfl, rfl, ho.1, ho.2, h⟩
      · cases h
    | succ i =>
      cases hb : Nat.beq (i % 2) 0 with
      | true => simp only [Tr.get, hb, cond_true] at h ⊢; exact meetT_get l l' _ x h
      | false => simp only [Tr.get, hb, cond_false] at h ⊢; exact meetT_get r r' _ x h
theorem eqEs_eq : ∀ {a b : List AEnt}, eqEs a b = true → a = b
  | [], b, h => by cases b <;> unfold eqEs at h <;> first | rfl | (cases h; done)
  | e :: es, b, h => by
    cases b with
    | nil => unfold eqEs at h; cases h
    | cons e' es' =>
      unfold eqEs at h
      simp only [Bool.and_eq_true] at h
      obtain ⟨h1, h2, h3, h4⟩ := h
      rw [eqEs_eq h4]
      cases e; cases e'
      simp only at h1 h2 h3
      rw [eqA_eq h1, eqA_eq h2, Nat.eq_of_beq_eq_true h3]
theorem joinB_rel (hσ : One σ) {own : Prop} {L : Loc} {a b c : ABlk} {o : Option Obj} (h : joinB a b = some c) : (BR σ ρ own L a o → BR σ ρ own L c o) ∧ (BR σ ρ own L b o → BR σ ρ own L c o) := by
  unfold joinB at h
  split at h
  · rename_i e u n e' u' n'
    obtain ⟨h1, h2⟩ := condO_some h
    cases h2
    simp only [Bool.and_eq_true] at h1
    have e1 := Nat.eq_of_beq_eq_true h1.1
    have e2 := Nat.eq_of_beq_eq_true h1.2
    subst e1; subst e2
    refine ⟨fun ⟨cc, fr, q1, q2, q3, q4, q5⟩ => ⟨cc, fr, q1, q2, q3, q4, fun i v hv => ?_⟩, fun ⟨cc, fr, q1, q2, q3, q4, q5⟩ => ⟨cc, fr, q1, q2, q3, q4, fun i v hv => ?_⟩⟩
    · obtain ⟨x, y, hx, hy, o1, o2, hj⟩ := meetT_get _ _ i v hv
      obtain ⟨v', r1, r2, r3⟩ := q5 i x hx
      exact ⟨v', r1, (joinV_rel hσ x y v hj v').1 r2, r3⟩
    · obtain ⟨x, y, hx, hy, o1, o2, hj⟩ := meetT_get _ _ i v hv
      obtain ⟨v', r1, r2, r3⟩ := q5 i y hy
      exact ⟨v', r1, (joinV_rel hσ x y v hj v').2 r2, r3⟩
  · obtain ⟨h1, h2⟩ := condO_some h
    cases h2
    simp only [Bool.and_eq_true] at h1
    rw [eqEs_eq h1.1, Nat.eq_of_beq_eq_true h1.2]
    exact ⟨id, id⟩
  · rename_i x y
    obtain ⟨h1, h2⟩ := condO_some h
    cases h2
    have : x = y := by simpa using h1
    rw [this]
    exact ⟨id, id⟩
  · cases h
theorem joinAt_rel (hσ : One σ) {own : Prop} {L : Loc} (id : Nat) : ∀ (Ks : List AHeap) (b c : ABlk), joinAt id b Ks = some c → (∀ o, BR σ ρ own L b o → BR σ ρ own L c o) ∧ ∀ K ∈ Ks, ∃ b', K.blks.get id = some b' ∧ ∀ o, BR σ ρ own L b' o → BR σ ρ own L c o
  | [], b, c, h => by cases h; exact ⟨fun _ h => h, by simp⟩
  | K :: Ks, b, c, h => by
    unfold joinAt at h
    split at h
    · rename_i b' hb'
      split at h
      · rename_i b2 hb2
        obtain ⟨h1, h2⟩ := joinAt_rel hσ id Ks b2 c h
        refine ⟨fun o r => h1 o ((joinB_rel hσ hb2).1 r), fun J hJ => ?_⟩
        rcases List.mem_cons.1 hJ with rfl | hJ
        · exact ⟨b', hb', fun o r => h1 o ((joinB_rel hσ hb2).2 r)⟩
        · exact h2 J hJ
      · cases h
    · cases h
theorem joinId_rel (hσ : One σ) {own : Prop} {L : Loc} {K : AHeap} {Ks : List AHeap} {id : Nat} {c : ABlk} (h : joinId K Ks id = some c) : ∀ J ∈ K :: Ks, ∃ b', J.blks.get id = some b' ∧ ∀ o, BR σ ρ own L b' o → BR σ ρ own L c o := by
  unfold joinId at h
  split at h
  · rename_i b hb
    obtain ⟨h1, h2⟩ := joinAt_rel hσ id Ks b c h
    intro J hJ
    rcases List.mem_cons.1 hJ with rfl | hJ
    · exact ⟨b, hb, h1⟩
    · exact h2 J hJ
  · cases h
theorem eqE_eq {e e' : AExit} (h : eqE e e' = true) : e = e' := by
  cases e <;> cases e' <;> first | rfl | (cases h; done) | (unfold eqE at h; rw [Nat.eq_of_beq_eq_true h])
theorem eqNs_eq : ∀ {a b : List Nat}, eqNs a b = true → a = b
  | [], b, h => by cases b <;> unfold eqNs at h <;> first | rfl | (cases h; done)
  | x :: xs, b, h => by
    cases b with
    | nil => unfold eqNs at h; cases h
    | cons y ys => unfold eqNs at h; simp only [Bool.and_eq_true] at h; rw [Nat.eq_of_beq_eq_true h.1, eqNs_eq h.2]
theorem joinT_rel (hσ : One σ) {T T' U : Tmps} {tm : Array Value} (h : joinT T T' = some U) : (TRel σ ρ nt T tm → TRel σ ρ nt U tm) ∧ (TRel σ ρ nt T' tm → TRel σ ρ nt U tm) := by
  have k := joinT_get T T' U h
  refine ⟨fun r => ⟨r.size, fun i => ?_⟩, fun r => ⟨r.size, fun i => ?_⟩⟩
  · exact (joinO_rel hσ (k i) _).1 (r.at_ i)
  · exact (joinO_rel hσ (k i) _).2 (r.at_ i)
theorem joinOuts_rel (hσ : One σ) {e : AExit} {ms : List Nat} {tm : Array Value} : ∀ (r : List (Out × AHeap)) (T U : Tmps), joinOuts e ms T r = some U → (TRel σ ρ nt T tm → TRel σ ρ nt U tm) ∧ ∀ p ∈ r, ∃ T', p.1 = .exit e T' ms ∧ (TRel σ ρ nt T' tm → TRel σ ρ nt U tm)
  | [], T, U, h => by cases h; exact ⟨id, by simp⟩
  | (.val v, K) :: r, T, U, h => by unfold joinOuts at h; cases h
  | (.exit e' T' ms', K) :: r, T, U, h => by
    unfold joinOuts at h
    obtain ⟨h1, h2⟩ := condO_some h
    simp only [Bool.and_eq_true] at h1
    have e1 := eqE_eq h1.1
    have e2 := eqNs_eq h1.2
    subst e1; subst e2
    split at h2
    · rename_i T2 hT2
      obtain ⟨k1, k2⟩ := joinOuts_rel hσ r T2 U h2
      refine ⟨fun r => k1 ((joinT_rel hσ hT2).1 r), fun p hp => ?_⟩
      rcases List.mem_cons.1 hp with rfl | hp
      · exact ⟨T', rfl, fun r => k1 ((joinT_rel hσ hT2).2 r)⟩
      · exact k2 p hp
    · cases h2
/-- what is known behind each of the ways is known behind all -/
theorem joinAll_post (hσ : One σ) {m : N Out} (hm : FrN m) {L : List (Out × AHeap)} {o : Out} (h1 : m { H with log := [] } = some L) (h : joinAll H L = some (o, H')) :
    (∀ p ∈ L, p.2.next ≤ H'.next) ∧ ∀ p ∈ L, ∀ e T ms, p.1 = .exit e T ms → ∃ T', o = .exit e T' ms ∧
      ∀ a' w' ρ', CodePost σ ρ base nt { H with log := [] } p.2 w T ms ρ' a' w' → CodePost σ ρ base nt H H' w T' ms ρ' a' w' := by
  obtain ⟨a1, a2, a3⟩ := hm _ L h1
  have hdoes : ∀ p ∈ L, Does p.2.log { H with log := [] } p.2 := by
    intro p hp
    obtain ⟨es, d⟩ := a2 p hp
    have : p.2.log = es := by simpa using d.log
    rw [this]; exact d
  match L, h, hdoes with
  | [], h, _ => cases h
  | [(o1, K)], h, hdoes =>
    simp only [joinAll, Option.some.injEq, Prod.mk.injEq] at h
    obtain ⟨rfl, rfl⟩ := h
    refine ⟨fun p hp => by simp only [List.mem_singleton] at hp; subst hp; exact Nat.le_refl _, fun p hp e T ms he => ?_⟩
    simp only [List.mem_singleton] at hp
    subst hp
    exact ⟨T, he, fun a' w' ρ' k => ⟨⟨k.post.ext, k.post.wr.log rfl rfl, k.post.below⟩, k.tmps, k.defers⟩⟩
  | (o1, K) :: p :: r, h, hdoes =>
    cases o1 with
    | val v => simp [joinAll] at h
    | exit e T ms =>
      unfold joinAll at h
      simp only at h
      cases hj : joinOuts e ms T (p :: r) with
      | none => simp [hj] at h
      | some T1 =>
        simp only [hj, Option.some.injEq, Prod.mk.injEq] at h
        obtain ⟨rfl, rfl⟩ := h
        have hd : ∀ J ∈ K :: (p :: r).map (·.2), Does J.log { H with log := [] } J := by
          intro J hJ
          rcases List.mem_cons.1 hJ with rfl | hJ
          · exact hdoes (.exit e T ms, J) (by simp)
          · obtain ⟨q, hq, rfl⟩ := List.mem_map.1 hJ
            exact hdoes q (List.mem_cons_of_mem _ hq)
        have hin : ∀ q ∈ ((Out.exit e T ms, K) :: p :: r), q.2 ∈ K :: (p :: r).map (·.2) := by
          intro q hq
          rcases List.mem_cons.1 hq with rfl | hq
          · simp
          · exact List.mem_cons_of_mem _ (List.mem_map.2 ⟨q, hq, rfl⟩)
        have hmax : ∀ J ∈ K :: (p :: r).map (·.2), J.next ≤ maxNext K.next ((p :: r).map (·.2)) := fun J hJ => by
          obtain ⟨h1, h2⟩ := maxNext_ge ((p :: r).map (·.2)) K.next
          rcases List.mem_cons.1 hJ with rfl | hJ
          · exact h1
          · exact h2 J hJ
        refine ⟨fun q hq => hmax _ (hin q hq), fun q hq e2 T2 ms2 he => ?_⟩
        have heads : e2 = e ∧ ms2 = ms ∧ ∀ ρ' tm, TRel σ ρ' nt T2 tm → TRel σ ρ' nt T1 tm := by
          rcases List.mem_cons.1 hq with rfl | hq
          · cases he; exact ⟨rfl, rfl, fun ρ' tm => (joinOuts_rel hσ (p :: r) T T1 hj).1⟩
          · have k := fun ρ' tm => (joinOuts_rel (σ := σ) (ρ := ρ') (nt := nt) (tm := tm) hσ (p :: r) T T1 hj).2 q hq
            obtain ⟨T3, h3, _⟩ := k ρ #[]
            rw [he] at h3
            cases h3
            refine ⟨rfl, rfl, fun ρ' tm r => ?_⟩
            obtain ⟨T4, h4, h5⟩ := k ρ' tm
            rw [he] at h4
            cases h4
            exact h5 r
        obtain ⟨rfl, rfl, hT⟩ := heads
        refine ⟨T1, rfl, fun a' w' ρ' k => ?_⟩
        have dq := hd _ (hin q hq)
        have mq := hmax _ (hin q hq)
        have old : ∀ id b, (joinBlks K ((p :: r).map (·.2)) (logs (K :: (p :: r).map (·.2))) H.blks).get id = some b → ∃ b', q.2.blks.get id = some b' ∧ ∀ (own : Prop) (L : Loc) o, BR σ ρ' own L b' o → BR σ ρ' own L b o := by
          intro id b hb
          by_cases hid : (id, true) ∈ logs (K :: (p :: r).map (·.2))
          · rw [(joinBlks_get _ _ _ _ id).1 hid] at hb
            have k2 := fun (own : Prop) (L : Loc) => joinId_rel (σ := σ) (ρ := ρ') (own := own) (L := L) hσ hb _ (hin q hq)
            obtain ⟨b', h1, _⟩ := k2 True ⟨0, 0, 0⟩
            refine ⟨b', h1, fun own L o r => ?_⟩
            obtain ⟨b2, h3, h4⟩ := k2 own L
            rw [h1] at h3
            cases h3
            exact h4 o r
          · rw [(joinBlks_get _ _ _ _ id).2 hid] at hb
            have hn : (id, true) ∉ q.2.log := fun hm => hid (mem_logs.2 ⟨_, hin q hq, hm⟩)
            exact ⟨b, by rw [dq.same id hn]; exact hb, fun _ _ _ r => r⟩
        have wr := k.post.wr
        have hlo : q.2.lo = H.lo := dq.lo
        refine ⟨⟨⟨k.post.ext.le, fun id hid => k.post.ext.out id ?_⟩, ⟨fun id b hb => ?_, fun id b L hb hL hl => ?_, fun i j bi bj Li Lj hi hj hLi hLj hl hne => ?_, wr.base⟩, k.post.below⟩, hT _ _ k.tmps, k.defers⟩
        · rcases hid with h | h
          · exact Or.inl h
          · exact Or.inr (Nat.le_trans mq h)
        · obtain ⟨b', h1, h2⟩ := old id b hb
          obtain ⟨L, hL, hB⟩ := wr.blk id b' h1
          rw [hlo] at hB
          exact ⟨L, hL, h2 _ _ _ hB⟩
        · obtain ⟨b', h1, _⟩ := old id b hb
          exact wr.own id b' L h1 hL (by rw [hlo]; exact hl)
        · obtain ⟨b1, h1, _⟩ := old i bi hi
          obtain ⟨b2, h2, _⟩ := old j bj hj
          exact wr.inj i j b1 b2 Li Lj h1 h2 hLi hLj (by rw [hlo]; exact hl) hne

/-! ### a loop over a map -/
theorem memN_eq (n : Nat) : ∀ l : List Nat, memN n l = l.toArray.contains n
  | [] => by simp [memN]
  | m :: l => by
    unfold memN
    rw [memN_eq n l]
    have : Nat.beq n m = decide (n = m) := by
      cases h : Nat.beq n m with
      | true => simp [Nat.eq_of_beq_eq_true h]
      | false => have : n ≠ m := fun e => by subst e; simp at h
                 simp [this]
    rw [this, Bool.eq_iff_iff]
    simp
theorem leftE_rel {seen : List Nat} : ∀ {es : List AEnt} {es' : List MapEntry}, EsRel σ ρ es es' → EsRel σ ρ (leftE seen es) (es'.filter fun e => !seen.toArray.contains e.born)
  | [], es', hr => by
    have := hr.len
    cases es' with
    | nil => exact ⟨rfl, fun i e e' h => by simp [leftE] at h⟩
    | cons => simp at this
  | a :: es, es', hr => by
    cases es' with
    | nil => have := hr.len; simp at this
    | cons a' es' =>
      have ha := hr.at_ 0 a a' rfl rfl
      have ht : EsRel σ ρ es es' := ⟨by have := hr.len; simpa using this, fun i x y hx hy => hr.at_ (i + 1) x y (by simpa using hx) (by simpa using hy)⟩
      have ih := leftE_rel (seen := seen) ht
      unfold leftE
      rw [memN_eq, ← ha.born]
      cases hc : seen.toArray.contains a'.born with
      | true => simp only [List.filter, hc, Bool.not_true, cond_true]; exact ih
      | false =>
        simp only [List.filter, hc, Bool.not_false, cond_false]
        refine ⟨by have := ih.len; simp only [List.length_cons]; rw [this], fun i x y hx hy => ?_⟩
        cases i with
        | zero => simp at hx hy; subst hx; subst hy; exact ha
        | succ i => exact ih.at_ i x y (by simpa using hx) (by simpa using hy)
theorem EsRel.mem {es : List AEnt} {es' : List MapEntry} (h : EsRel σ ρ es es') {e' : MapEntry} (he : e' ∈ es') : ∃ e ∈ es, ERel σ ρ e e' := by
  obtain ⟨i, hi, rfl⟩ := List.mem_iff_getElem.1 he
  have hl : i < es.length := by rw [← h.len]; exact hi
  exact ⟨es[i], List.getElem_mem hl, h.at_ i _ _ (List.getElem?_eq_getElem hl) (List.getElem?_eq_getElem hi)⟩
theorem allOld_rel {since : Nat} : ∀ {es : List AEnt} {es' : List MapEntry}, EsRel σ ρ es es' → allOld since es = true → ∀ x ∈ es', x.born < since := by
  intro es es' hr h x hx
  obtain ⟨e, he, hre⟩ := hr.mem hx
  rw [hre.born]
  clear hr hx hre
  induction es with
  | nil => cases he
  | cons a es ih =>
    unfold allOld at h
    simp only [Bool.and_eq_true] at h
    rcases List.mem_cons.1 he with rfl | he
    · simpa [Nat.blt_eq] using h.1
    · exact ih h.2 he
/-- the head of a round: nothing is left, or one that is left comes -/
theorem head_ok {x : AVal} {x' : Value} {d : IterD} {l : List AEnt} (h : headA x H = some ((d, l), H')) (hx : Rel σ ρ x x') (hwr : WR σ ρ base H w) :
    H'.blks = H.blks ∧ H'.lo = H.lo ∧ H'.next = H.next ∧ ((l = [] ∧ ∀ ty, (Instr.next x' false ty).run P w = .ok (.tuple #[.bool false]) w) ∨
      (∃ e ∈ l, ∃ e' w1, (ERel σ ρ e e') ∧ (∀ ty, (Instr.next x' false ty).run P w = .ok (.tuple #[.bool true, e'.key, e'.val]) w1) ∧
        ∀ H2 u, turnA d e H' = some (u, H2) → H2.next = H.next ∧ WR σ ρ base H2 w1 ∧ Below base w w1)) := by
  unfold headA at h
  split at h
  · rename_i r
    unfold Rel at hx
    obtain ⟨L, hL, rfl⟩ := hx
    obtain ⟨blk, K1, g1, g2⟩ := bd_some h
    obtain ⟨hb, e1, e2, e3⟩ := rd_some g1
    cases blk with
    | iter m since seen stepped =>
      obtain ⟨L', hL', hsh, M, q1, q2⟩ := hwr.blk _ _ hb
      rw [hL] at hL'; cases hL'
      cases m with
      | none =>
        cases ret_some g2
        subst q1
        exact ⟨e1, e2, e3, Or.inl ⟨rfl, fun ty => by simp [Instr.next, hsh, getObj, Sem.run, q2]⟩⟩
      | some m =>
        obtain ⟨D, q3, rfl⟩ := q1
        obtain ⟨blk2, K2, g3, g4⟩ := bd_some g2
        obtain ⟨hb2, f1, f2, f3⟩ := rd_some g3
        cases blk2 with
        | map es clock =>
          obtain ⟨hc, g5⟩ := cond_some g4
          cases ret_some g5
          simp only [Bool.and_eq_true] at hc
          rw [e1] at hb2
          obtain ⟨D', hD', es', q4, q5⟩ := hwr.blk _ _ hb2
          rw [q3] at hD'; cases hD'
          refine ⟨f1.trans e1, f2.trans e2, f3.trans e3, ?_⟩
          have hsc : since ≤ stepped := Nat.le_of_ble_eq_true hc.1
          have hold := allOld_rel q5 hc.2
          have hleft := leftE_rel (seen := seen) q5
          have hfil : (leftOf es' seen.toArray).toList = es'.toList.filter fun e => !seen.toArray.contains e.born := by unfold leftOf; exact Array.toList_filter
          rw [← hfil] at hleft
          have step := fun ty => run_next_at (P := P) w ty L.blk D.blk since stepped seen.toArray es' clock q2 q4 hold hsc
          have hz : ∀ ty : TypeId, Value.pointer (some ⟨L.blk, L.sh + 0, none⟩) = Value.pointer (some ⟨L.blk, 0, none⟩) := fun _ => by rw [hsh]
          rcases step 0 with ⟨s1, _⟩ | ⟨e', he', _⟩
          · left
            refine ⟨List.eq_nil_of_length_eq_zero (by rw [← hleft.len]; simpa using s1), fun ty => ?_⟩
            rw [hz ty]
            rcases step ty with ⟨_, s2⟩ | ⟨e', he', _⟩
            · exact s2
            · rw [List.eq_nil_of_length_eq_zero (by simpa using s1 : (leftOf es' seen.toArray).toList.length = 0)] at he'; cases he'
          · right
            have hpos : 0 < (leftOf es' seen.toArray).size := by
              have := List.length_pos_of_mem he'
              simpa using this
            have step0 : ∃ e' ∈ (leftOf es' seen.toArray).toList, ∃ w1 : World, (w1 = w ∨ w1 = w.drew) ∧ ∀ ty, (Instr.next (.pointer (some ⟨L.blk, 0, none⟩)) false ty).run P w = .ok (.tuple #[.bool true, e'.key, e'.val]) (Go.ChangeMaps.setBlock w1 L.blk (.mapIter (some D.blk) since (seen.toArray.push e'.born) clock)) := by
              rcases step 0 with ⟨s1, _⟩ | ⟨e', he', w1, a, b⟩
              · omega
              · exact ⟨e', he', w1, a, fun ty => b⟩
            obtain ⟨e', he', w1, hw1, hrun⟩ := step0
            obtain ⟨e, he, hre⟩ := hleft.mem he'
            refine ⟨e, he, e', _, hre, fun ty => by rw [hz ty]; exact hrun ty, fun H2 u ht => ?_⟩
            unfold turnA at ht
            obtain ⟨hlo, ⟨b0, hb0⟩, hk, hkl, hkn⟩ := wr_some ht
            rw [f1, e1] at hb0
            have hlt : L.blk < w.heap.size := lt_of_get q2
            have hu : Upd w L.blk (.mapIter (some D.blk) since (seen.toArray.push e'.born) clock) (Go.ChangeMaps.setBlock w1 L.blk (.mapIter (some D.blk) since (seen.toArray.push e'.born) clock)) := by
              rcases hw1 with rfl | rfl
              · exact ⟨rfl, rfl, rfl, by simp [Go.ChangeMaps.setBlock], by simp [Go.ChangeMaps.setBlock, hlt], fun k hk => Array.getElem?_setIfInBounds_ne (fun e => hk e.symm)⟩
              · exact ⟨rfl, rfl, rfl, by simp [Go.ChangeMaps.setBlock], by simp [Go.ChangeMaps.setBlock, hlt], fun k hk => Array.getElem?_setIfInBounds_ne (fun e => hk e.symm)⟩
            obtain ⟨k1, k2⟩ := hwr.put (K := H2) (b := .iter (some m) since (seen ++ [e.born]) clock) hb0 hL (by rw [← e2, ← f2]; exact hlo) hu ⟨hsh, some D.blk, ⟨D, q3, rfl⟩, by simp [hre.born]⟩ (fun j => by rw [hk j, f1, e1]) (by rw [hkl, f2, e2])
            exact ⟨by rw [hkn, f3, e3], k1, k2⟩
        | _ => exact (fail_some g4).elim
    | _ => exact (fail_some g2).elim
  · exact (fail_some h).elim
theorem tget_eq' (T : Tmps) (i : Nat) : tget' T i = tget T i := by unfold tget' tget; cases T.get i <;> rfl
/-- the step at a round's head -/
theorem step_wp {b : Code} {s : MapStep} (hs : mapStep b = some s) {r : Option Nat} {Q : Exit → Act → World → Prop} {vs : Array Value} {t : Bool} {w1 : World} (hn : s.nx < a.tmps.size)
    (hrun : ∀ ty, (Instr.next (a.tmps.getD s.it undef) false ty).run P w = .ok (.tuple vs) w1) (hv : vs[0]? = some (.bool t))
    (h : s.rest.wpIn (FR r) 0 P Q ((a.put (some s.nx) (.tuple vs)).put (some s.more) (.bool t)) w1) : b.wpIn (FR r) 0 P Q a w := by
  unfold mapStep at hs
  split at hs
  · rename_i id ops rest
    split at hs
    · rename_i nx it ty1 pos1 af1 more nx' ty2 pos2 af2 hops
      obtain ⟨hc, hs⟩ := condO_some hs
      cases hs
      have hc := Nat.eq_of_beq_eq_true hc
      subst hc
      have e0 : ops = #[⟨some nx, .next (.tmp it) false, ty1, pos1, af1, none⟩, ⟨some more, .extract (.tmp nx) 0, ty2, pos2, af2, none⟩] := by
        apply Array.toList_inj.1; rw [hops]
      subst e0
      refine wpIn_seq (wpIn_region ?_)
      simp only [List.size_toArray, List.length_cons, List.length_nil, Nat.zero_add, Nat.reduceAdd, show List.range 2 = [0, 1] from rfl, wpOpsIn, List.getElem?_toArray, List.getElem?_cons_zero, List.getElem?_cons_succ]
      have w1t : ∀ (o : Oper) (t' : Nat → Option Bool), o.guard = none → Region.wanted o t' = true := fun o t' h => by unfold Region.wanted; rw [h]
      rw [if_pos (w1t _ _ rfl)]
      refine ⟨wide_about, ?_⟩
      rw [Oper.semAt_eq _ _ _ (by intro c h; cases h)]
      have e1 : (execOp a.eval ⟨some nx, .next (.tmp it) false, ty1, pos1, af1, none⟩).run P w = .ok (.value (.tuple vs)) w1 := by
        have he : a.eval (.tmp it) = a.tmps.getD it undef := by simp [Act.eval]
        simp only [execOp, he, Sem.run_bind, hrun ty1, Result.andThen_ok, Sem.run_pure]
      rw [e1, Oper.uponIn_value]
      simp only []
      rw [if_pos (w1t _ _ rfl)]
      refine ⟨wide_about, ?_⟩
      rw [Oper.semAt_eq _ _ _ (by intro c h; cases h)]
      have e2 : (execOp (a.put (some nx) (.tuple vs)).eval ⟨some more, .extract (.tmp nx) 0, ty2, pos2, af2, none⟩).run P w1 = .ok (.value (.bool t)) w1 := by
        have he : (a.put (some nx) (.tuple vs)).eval (.tmp nx) = .tuple vs := by
          simp only [Act.eval, Act.put]
          have : nx < a.tmps.size := hn
          simp [this]
        simp only [execOp, he, Sem.run_bind, Instr.extract, hv, Sem.run_pure, Result.andThen_ok]
      rw [e2, Oper.uponIn_value]
      exact h
    · cases hs
  · cases hs
theorem allN_some {γ δ : Type} {f : γ → N δ} : ∀ {l : List (γ × AHeap)} {L : List (δ × AHeap)}, allN f l = some L → ∀ p ∈ l, ∃ l', f p.1 p.2 = some l' ∧ ∀ q ∈ l', q ∈ L
  | [], _, _, p, hp => by cases hp
  | (a, K) :: r, L, h, p, hp => by
    unfold allN at h
    cases h1 : f a K with
    | none => simp [h1] at h
    | some lq =>
      cases h2 : allN f r with
      | none => simp [h1, h2] at h
      | some Lr =>
        simp only [h1, h2, Option.some.injEq] at h
        subst h
        rcases List.mem_cons.1 hp with rfl | hp
        · exact ⟨lq, h1, fun q hq => List.mem_append.2 (Or.inl hq)⟩
        · obtain ⟨l', h3, h4⟩ := allN_some h2 p hp
          exact ⟨l', h3, fun q hq => List.mem_append.2 (Or.inr (h4 q hq))⟩
theorem bdN_some {γ δ : Type} {m : N γ} {f : γ → N δ} {L : List (δ × AHeap)} (h : bdN m f H = some L) : ∃ l, m H = some l ∧ ∀ p ∈ l, ∃ l', f p.1 p.2 = some l' ∧ ∀ q ∈ l', q ∈ L := by
  unfold bdN at h
  cases h1 : m H with
  | none => simp [h1] at h
  | some l => simp only [h1] at h; exact ⟨l, rfl, allN_some h⟩
theorem oneN_some {γ : Type} {m : M γ} {L : List (γ × AHeap)} (h : oneN m H = some L) : ∃ x K, m H = some (x, K) ∧ L = [(x, K)] := by
  unfold oneN at h
  cases h1 : m H with
  | none => simp [h1] at h
  | some r => simp only [h1, Option.some.injEq] at h; exact ⟨r.1, r.2, rfl, h.symm⟩
theorem mem_pairH {γ : Type} {l : List γ} {a : γ} (h : a ∈ l) : (a, H) ∈ pairH H l := by
  induction l with
  | nil => cases h
  | cons b l ih => rcases List.mem_cons.1 h with rfl | h; exact List.mem_cons_self; exact List.mem_cons_of_mem _ (ih h)
theorem mapRounds_ok (hco : CodeOK P n ih) (hfr : ∀ t, Fr (ih t)) {rA : Option Nat} {b : Code} {s : MapStep} (hs : mapStep b = some s) (h1 : s.nx < nt) (h2 : s.more < nt) : ∀ (k : Nat) (T : Tmps) (ms : List Nat) (H : AHeap) (L : List (Out × AHeap)), mapRounds ih nt rA s k T ms H = some L →
    ∀ (σ : Nat → Value) (ρ : Ren) (base : Nat) (w : World) (a : Act) (r : Option Nat) (Q : Exit → Act → World → Prop), One σ → WR σ ρ base H w → (∀ p ∈ L, Free ρ H.next p.2.next) → TRel σ ρ nt T a.tmps → RR ρ rA r → DRel ρ ms a.defers →
      (∀ p ∈ L, ∀ e T' ms', p.1 = .exit e T' ms' → ∀ a' w' ρ', CodePost σ ρ base nt H p.2 w T' ms' ρ' a' w' → Q (exitE e) a' w') → Code.roundsIn (FR r) 0 P b Q k a w := by
  intro k
  induction k with
  | zero => intro T ms H L h; cases h
  | succ k ihk =>
    intro T ms H L h σ ρ base w a r Q hσ hwr hf hT hr hd hQ
    unfold mapRounds at h
    obtain ⟨l1, g1, g2⟩ := bdN_some h
    obtain ⟨hd1, K1, g3, rfl⟩ := oneN_some g1
    obtain ⟨L1, g4, g5⟩ := g2 (hd1, K1) (List.mem_singleton.2 rfl)
    obtain ⟨d, left⟩ := hd1
    have hx := hT.at_ s.it
    rw [← tget_eq'] at hx
    obtain ⟨c1, c2, c3, c4⟩ := head_ok (P := P) g3 hx hwr
    rw [roundsIn_succ]
    rcases c4 with ⟨rfl, c5⟩ | ⟨e, he, e', w1, c5, c6, c7⟩
    · simp only at g4
      obtain ⟨o, K2, g6, rfl⟩ := oneN_some g4
      obtain ⟨o1, K3, g7, g8⟩ := bd_some g6
      have hm := g5 (o, K2) (List.mem_singleton.2 rfl)
      obtain ⟨e, T2, ms2, rfl, k1⟩ := hco _ _ _ _ _ _ _ _ g7
      have hput : TRel σ ρ nt ((T.put s.nx (some (.tup [.bool false]))).put s.more (some (.bool false))) ((a.put (some s.nx) (.tuple #[.bool false])).put (some s.more) (.bool false)).tmps :=
        put_rel (v := .bool false) (v' := .bool false) (dst := some s.more) (T := T.put s.nx (some (.tup [.bool false]))) (by simp only [setT]; rw [show Nat.blt s.more nt = true by simpa [Nat.blt_eq] using h2]; rfl)
          (put_rel (v := .tup [.bool false]) (v' := .tuple #[.bool false]) (dst := some s.nx) (T := T) (by simp only [setT]; rw [show Nat.blt s.nx nt = true by simpa [Nat.blt_eq] using h1]; rfl) hT (by unfold Rel; exact ⟨_, rfl, .cons (by unfold Rel; rfl) .nil⟩)) (by unfold Rel; rfl)
      have hwr1 : WR σ ρ base K1 w := hwr.log c1 c2
      have concl : e ≠ .nrm → o = .exit e T2 ms2 → K3 = K2 → b.wpIn (FR r) 0 P (Exit.then (Code.roundsIn (FR r) 0 P b Q k) Q) a w := by
        rintro hne rfl rfl
        refine step_wp (t := false) hs (by rw [hT.size]; exact h1) c5 rfl ?_
        refine ACode.wp (n := n) (k1 σ ρ base w _ r _ hσ hwr1 (by rw [c3]; exact hf _ hm) hput hr (by rw [put_defers, put_defers]; exact hd) fun a' w' ρ' p => ?_)
        have : Q (exitE e) a' w' := hQ _ hm e T2 ms2 rfl a' w' ρ' ⟨⟨by rw [← c3]; exact p.post.ext, p.post.wr, p.post.below⟩, p.tmps, p.defers⟩
        cases e with
        | nrm => exact absurd rfl hne
        | exit id => exact this
        | ret => exact this
      cases e with
      | nrm => exact (fail_some g8).elim
      | exit id => cases ret_some g8; exact concl (by simp) rfl rfl
      | ret => cases ret_some g8; exact concl (by simp) rfl rfl
    · cases left with
      | nil => cases he
      | cons e0 es0 =>
        simp only at g4
        obtain ⟨l2, g6, g7⟩ := bdN_some g4
        have : l2 = pairH K1 (e0 :: es0) := by have g6 : some (pairH K1 (e0 :: es0)) = some l2 := g6; cases g6; rfl
        subst this
        obtain ⟨L2, g8, g9⟩ := g7 (e, K1) (mem_pairH he)
        obtain ⟨l3, g10, g11⟩ := bdN_some g8
        obtain ⟨o, K3, g12, rfl⟩ := oneN_some g10
        obtain ⟨u, K2, g13, g14⟩ := bd_some g12
        obtain ⟨n2, wr2, bl2⟩ := c7 K2 u g13
        obtain ⟨L3, g15, g16⟩ := g11 (o, K3) (List.mem_singleton.2 rfl)
        have sub : ∀ q ∈ L3, q ∈ L := fun q hq => g5 q (g9 q (g16 q hq))
        obtain ⟨ex, T2, ms2, rfl, k1⟩ := hco _ _ _ _ _ _ _ _ g14
        have hput : TRel σ ρ nt ((T.put s.nx (some (.tup [.bool true, e.key, e.val]))).put s.more (some (.bool true))) ((a.put (some s.nx) (.tuple #[.bool true, e'.key, e'.val])).put (some s.more) (.bool true)).tmps :=
          put_rel (v := .bool true) (v' := .bool true) (dst := some s.more) (T := T.put s.nx (some (.tup [.bool true, e.key, e.val]))) (by simp only [setT]; rw [show Nat.blt s.more nt = true by simpa [Nat.blt_eq] using h2]; rfl)
            (put_rel (v := .tup [.bool true, e.key, e.val]) (v' := .tuple #[.bool true, e'.key, e'.val]) (dst := some s.nx) (T := T) (by simp only [setT]; rw [show Nat.blt s.nx nt = true by simpa [Nat.blt_eq] using h1]; rfl) hT (by unfold Rel; exact ⟨_, rfl, .cons (by unfold Rel; rfl) (.cons c5.key (.cons c5.val .nil))⟩)) (by unfold Rel; rfl)
        have m3 : K2.next ≤ K3.next := next_of hfr g14
        have hfin : ∀ p ∈ L3, K3.next ≤ p.2.next := by
          intro p hp
          have hfrN : FrN (match (generalizing := false) (Out.exit ex T2 ms2 : Out) with
            | .exit .nrm T ms => mapRounds ih nt rA s k T ms
            | o => oneN (ret o)) := by
            split
            · exact frN_mapRounds hfr nt rA s k _ _
            · exact frN_one (fr_ret _)
          obtain ⟨_, q2, _⟩ := hfrN K3 L3 g15
          obtain ⟨es, dd⟩ := q2 p hp
          exact dd.next
        refine step_wp (t := true) hs (by rw [hT.size]; exact h1) c6 rfl ?_
        have hfree : Free ρ K2.next K3.next := by
          have hne : L3 ≠ [] := by
            have hfrN : FrN (match (generalizing := false) (Out.exit ex T2 ms2 : Out) with
              | .exit .nrm T ms => mapRounds ih nt rA s k T ms
              | o => oneN (ret o)) := by
              split
              · exact frN_mapRounds hfr nt rA s k _ _
              · exact frN_one (fr_ret _)
            exact (hfrN K3 L3 g15).1
          cases L3 with
          | nil => exact absurd rfl hne
          | cons p L3 =>
            have := hf p (sub p (by simp))
            rw [n2]
            exact this.left (hfin p (by simp))
        refine ACode.wp (n := n) (k1 σ ρ base w1 _ r _ hσ wr2 hfree hput hr (by rw [put_defers, put_defers]; exact hd) fun a' w' ρ' p => ?_)
        have lift : ∀ {T' ms' K a'' w'' ρ''}, K3.next ≤ K.next → CodePost σ ρ' base nt K3 K w' T' ms' ρ'' a'' w'' → CodePost σ ρ base nt H K w T' ms' ρ'' a'' w'' := by
          intro T' ms' K a'' w'' ρ'' hle q
          have := p.trans q m3 hle
          exact ⟨⟨by rw [← n2]; exact this.post.ext, this.post.wr, bl2.trans this.post.below⟩, this.tmps, this.defers⟩
        cases ex with
        | nrm =>
          show Code.roundsIn (FR r) 0 P b Q k a' w'
          refine ihk T2 ms2 K3 L3 g15 σ ρ' base w' a' r Q hσ p.post.wr (fun q hq => ?_) p.tmps (hr.mono p.post.ext.le) p.defers fun q hq e2 T' ms' he2 a'' w'' ρ'' cp => ?_
          · have h3 := hf q (sub q hq)
            rw [← n2] at h3
            exact p.post.ext.free h3 m3
          · exact hQ q (sub q hq) e2 T' ms' he2 a'' w'' ρ'' (lift (hfin q hq) cp)
        | exit id =>
          obtain ⟨x, K4, g17, rfl⟩ := oneN_some g15
          cases ret_some g17
          exact hQ _ (sub _ (List.mem_singleton.2 rfl)) (.exit id) T2 ms2 rfl a' w' ρ' (lift (Nat.le_refl _) (.stay p.post.wr p.tmps p.defers))
        | ret =>
          obtain ⟨x, K4, g17, rfl⟩ := oneN_some g15
          cases ret_some g17
          exact hQ _ (sub _ (List.mem_singleton.2 rfl)) .ret T2 ms2 rfl a' w' ρ' (lift (Nat.le_refl _) (.stay p.post.wr p.tmps p.defers))
theorem allN_mem {γ δ : Type} {f : γ → N δ} : ∀ {l : List (γ × AHeap)} {L : List (δ × AHeap)}, allN f l = some L → ∀ q ∈ L, ∃ p ∈ l, ∃ l', f p.1 p.2 = some l' ∧ q ∈ l'
  | [], L, h, q, hq => by cases h; cases hq
  | (a, K) :: r, L, h, q, hq => by
    unfold allN at h
    cases h1 : f a K with
    | none => simp [h1] at h
    | some lq =>
      cases h2 : allN f r with
      | none => simp [h1, h2] at h
      | some Lr =>
        simp only [h1, h2, Option.some.injEq] at h
        subst h
        rcases List.mem_append.1 hq with hq | hq
        · exact ⟨(a, K), by simp, lq, h1, hq⟩
        · obtain ⟨p, hp, l', h3, h4⟩ := allN_mem h2 q hq
          exact ⟨p, List.mem_cons_of_mem _ hp, l', h3, h4⟩
theorem bdN_mem {γ δ : Type} {m : N γ} {f : γ → N δ} {L : List (δ × AHeap)} (h : bdN m f H = some L) {q : δ × AHeap} (hq : q ∈ L) : ∃ p l', f p.1 p.2 = some l' ∧ q ∈ l' ∧ ∃ l, m H = some l ∧ p ∈ l := by
  unfold bdN at h
  cases h1 : m H with
  | none => simp [h1] at h
  | some l =>
    simp only [h1] at h
    obtain ⟨p, hp, l', h3, h4⟩ := allN_mem h q hq
    exact ⟨p, l', h3, h4, l, rfl, hp⟩
theorem mapRounds_exits (hco : CodeOK P n ih) {rA : Option Nat} {s : MapStep} : ∀ (k : Nat) (T : Tmps) (ms : List Nat) (H : AHeap) (L : List (Out × AHeap)), mapRounds ih nt rA s k T ms H = some L → ∀ q ∈ L, ∃ e T' ms', q.1 = .exit e T' ms' := by
  intro k
  induction k with
  | zero => intro T ms H L h; cases h
  | succ k ihk =>
    intro T ms H L h q hq
    unfold mapRounds at h
    obtain ⟨⟨⟨d, left⟩, K0⟩, l', h1, h2, _⟩ := bdN_mem h hq
    cases left with
    | nil =>
      obtain ⟨o, K, g1, rfl⟩ := oneN_some h1
      obtain ⟨o1, K1, g2, g3⟩ := bd_some g1
      obtain ⟨e, T2, ms2, rfl, _⟩ := hco _ _ _ _ _ _ _ _ g2
      simp only [List.mem_singleton] at h2
      subst h2
      cases e with
      | nrm => exact (fail_some g3).elim
      | exit id => cases ret_some g3; exact ⟨_, _, _, rfl⟩
      | ret => cases ret_some g3; exact ⟨_, _, _, rfl⟩
    | cons e0 es0 =>
      obtain ⟨p2, l2, h3, h4, _⟩ := bdN_mem h1 h2
      obtain ⟨p3, l3, h5, h6, l4, h7, h8⟩ := bdN_mem h3 h4
      obtain ⟨o, K, g1, rfl⟩ := oneN_some h7
      obtain ⟨u, K1, g2, g3⟩ := bd_some g1
      obtain ⟨e, T2, ms2, rfl, _⟩ := hco _ _ _ _ _ _ _ _ g3
      simp only [List.mem_singleton] at h8
      subst h8
      cases e with
      | nrm => exact ihk _ _ _ _ h5 q h6
      | exit id =>
        obtain ⟨x, K4, g17, rfl⟩ := oneN_some h5
        cases ret_some g17
        simp only [List.mem_singleton] at h6
        subst h6
        exact ⟨_, _, _, rfl⟩
      | ret =>
        obtain ⟨x, K4, g17, rfl⟩ := oneN_some h5
        cases ret_some g17
        simp only [List.mem_singleton] at h6
        subst h6
        exact ⟨_, _, _, rfl⟩
theorem joinAll_exit {L : List (Out × AHeap)} {o : Out} (h : joinAll H L = some (o, H')) : (∃ p ∈ L, p.1 = o) ∨ ∃ e T ms, o = .exit e T ms := by
  match L, h with
  | [], h => cases h
  | [(o1, K)], h =>
    simp only [joinAll, Option.some.injEq, Prod.mk.injEq] at h
    exact Or.inl ⟨(o1, K), List.mem_singleton.2 rfl, h.1⟩
  | (o1, K) :: p :: r, h =>
    cases o1 with
    | val v => simp [joinAll] at h
    | exit e T ms =>
      unfold joinAll at h
      simp only at h
      cases hj : joinOuts e ms T (p :: r) with
      | none => simp [hj] at h
      | some T1 =>
        simp only [hj, Option.some.injEq, Prod.mk.injEq] at h
        exact Or.inr ⟨_, _, _, h.1.symm⟩
theorem mapLoop_ok {rA : Option Nat} {c : Code} {ms : List Nat} {o : Out} {s : MapStep} (hs : mapStep c = some s) (hco : CodeOK P n ih) (hfr : ∀ t, Fr (ih t)) (h : mapLoop ih nt rA s T ms H = some (o, H')) : Goal P (n + 1) nt rA (.loop c) T ms H o H' := by
  unfold mapLoop at h
  obtain ⟨hb, h⟩ := cond_some h
  simp only [Bool.and_eq_true, Nat.blt_eq] at hb
  cases hL : mapRounds ih nt rA s 1000 T ms { H with log := [] } with
  | none => simp only [hL] at h; cases h
  | some L =>
    simp only [hL] at h
    have hfn := frN_mapRounds hfr nt rA s 1000 T ms
    obtain ⟨a1, _, _⟩ := hfn _ L hL
    have allExit : ∀ p ∈ L, ∃ e T' ms', p.1 = .exit e T' ms' := mapRounds_exits hco 1000 T ms _ L hL
    have hex : ∃ e T' ms', o = .exit e T' ms' := by
      rcases joinAll_exit h with ⟨p, hp, rfl⟩ | h2
      · exact allExit p hp
      · exact h2
    obtain ⟨e, T', ms', rfl⟩ := hex
    refine ⟨e, T', ms', rfl, fun σ ρ base w a r Q hσ hwr hf hT hr hd hQ => ?_⟩
    obtain ⟨j1, j3⟩ := joinAll_post (σ := σ) (ρ := ρ) (base := base) (nt := nt) (w := w) hσ hfn hL h
    unfold ACode
    simp only [hs]
    refine mapRounds_ok hco hfr hs hb.1 hb.2 1000 T ms _ L hL σ ρ base w a r Q hσ (hwr.log rfl rfl) (fun p hp => hf.left (j1 p hp)) hT hr hd fun p hp e2 T2 ms2 he a' w' ρ' cp => ?_
    obtain ⟨T3, h3, h4⟩ := j3 p hp e2 T2 ms2 he
    cases h3
    exact hQ a' w' ρ' (h4 a' w' ρ' cp)
theorem seq_ok {rA : Option Nat} {x y : Code} {ms : List Nat} {o : Out} (hco : CodeOK P n ih) (hfr : ∀ t, Fr (ih t)) (h : runCode P ih nt rA (.seq x y) T ms H = some (o, H')) : Goal P (n + 1) nt rA (.seq x y) T ms H o H' := by
  obtain ⟨o1, K, h1, h2⟩ := bd_some h
  have m1 := next_of hfr h1
  obtain ⟨e, T1, ms1, rfl, k1⟩ := hco _ _ _ _ _ _ _ _ h1
  cases e with
  | nrm =>
    have m2 := next_of hfr h2
    obtain ⟨e, T2, ms2, rfl, k2⟩ := hco _ _ _ _ _ _ _ _ h2
    refine ⟨e, T2, ms2, rfl, fun σ ρ base w a r Q hσ hwr hf hT hr hd hQ => wpIn_seq (ACode.wp (n := n) ?_)⟩
    refine k1 σ ρ base w a r _ hσ hwr (hf.left m2) hT hr hd fun a1 w1 ρ1 p1 => ?_
    refine ACode.wp (n := n) (k2 σ ρ1 base w1 a1 r Q hσ p1.post.wr (p1.post.ext.free hf m1) p1.tmps (hr.mono p1.post.ext.le) p1.defers fun a2 w2 ρ2 p2 => hQ a2 w2 ρ2 (p1.trans p2 m1 m2))
  | exit id =>
    cases ret_some h2
    exact ⟨.exit id, T1, ms1, rfl, fun σ ρ base w a r Q hσ hwr hf hT hr hd hQ => wpIn_seq (ACode.wp (n := n) (k1 σ ρ base w a r _ hσ hwr hf hT hr hd fun a1 w1 ρ1 p1 => hQ a1 w1 ρ1 p1))⟩
  | ret =>
    cases ret_some h2
    exact ⟨.ret, T1, ms1, rfl, fun σ ρ base w a r Q hσ hwr hf hT hr hd hQ => wpIn_seq (ACode.wp (n := n) (k1 σ ρ base w a r _ hσ hwr hf hT hr hd fun a1 w1 ρ1 p1 => hQ a1 w1 ρ1 p1))⟩
theorem cond_ok {rA : Option Nat} {x : Operand} {y z : Code} {ms : List Nat} {o : Out} (hco : CodeOK P n ih) (h : runCode P ih nt rA (.cond x y z) T ms H = some (o, H')) : Goal P (n + 1) nt rA (.cond x y z) T ms H o H' := by
  unfold runCode at h
  simp only at h
  generalize hx : ev T x = v at h
  split at h
  · rename_i t
    obtain ⟨e, T1, ms1, rfl, k1⟩ := hco _ _ _ _ _ _ _ _ h
    refine ⟨e, T1, ms1, rfl, fun σ ρ base w a r Q hσ hwr hf hT hr hd hQ => ?_⟩
    have hv := ev_rel (a := a) hx hT
    unfold Rel at hv
    refine wpIn_cond hv ?_
    have := ACode.wp (k1 σ ρ base w a r Q hσ hwr hf hT hr hd hQ)
    cases t <;> exact this
  · exact (fail_some h).elim
theorem block_ok {rA : Option Nat} {id : Nat} {c : Code} {ms : List Nat} {o : Out} (hco : CodeOK P n ih) (h : runCode P ih nt rA (.block id c) T ms H = some (o, H')) : Goal P (n + 1) nt rA (.block id c) T ms H o H' := by
  obtain ⟨o1, K, h1, h2⟩ := bd_some h
  obtain ⟨e, T1, ms1, rfl, k1⟩ := hco _ _ _ _ _ _ _ _ h1
  cases e with
  | nrm =>
    cases ret_some h2
    exact ⟨.nrm, T1, ms1, rfl, fun σ ρ base w a r Q hσ hwr hf hT hr hd hQ => wpIn_block (ACode.wp (n := n) (k1 σ ρ base w a r _ hσ hwr hf hT hr hd fun a1 w1 ρ1 p1 => hQ a1 w1 ρ1 p1))⟩
  | ret =>
    cases ret_some h2
    exact ⟨.ret, T1, ms1, rfl, fun σ ρ base w a r Q hσ hwr hf hT hr hd hQ => wpIn_block (ACode.wp (n := n) (k1 σ ρ base w a r _ hσ hwr hf hT hr hd fun a1 w1 ρ1 p1 => hQ a1 w1 ρ1 p1))⟩
  | exit id' =>
    cases hb : Nat.beq id' id with
    | true =>
      simp only [hb, cond_true] at h2
      cases ret_some h2
      have e := Nat.eq_of_beq_eq_true hb
      exact ⟨.nrm, T1, ms1, rfl, fun σ ρ base w a r Q hσ hwr hf hT hr hd hQ => wpIn_block (ACode.wp (n := n) (k1 σ ρ base w a r _ hσ hwr hf hT hr hd fun a1 w1 ρ1 p1 => by
        show (if id' = id then _ else _)
        rw [if_pos e]; exact hQ a1 w1 ρ1 p1))⟩
    | false =>
      simp only [hb, cond_false] at h2
      cases ret_some h2
      have e : id' ≠ id := fun e => by subst e; simp at hb
      exact ⟨.exit id', T1, ms1, rfl, fun σ ρ base w a r Q hσ hwr hf hT hr hd hQ => wpIn_block (ACode.wp (n := n) (k1 σ ρ base w a r _ hσ hwr hf hT hr hd fun a1 w1 ρ1 p1 => by
        show (if id' = id then _ else _)
        rw [if_neg e]; exact hQ a1 w1 ρ1 p1))⟩
theorem loop_ok {rA : Option Nat} {c : Code} {ms : List Nat} {o : Out} (hco : CodeOK P n ih) (hfr : ∀ t, Fr (ih t)) (h : runCode P ih nt rA (.loop c) T ms H = some (o, H')) : Goal P (n + 1) nt rA (.loop c) T ms H o H' := by
  have e0 : runCode P ih nt rA (.loop c) T ms = (match mapStep c with
    | some s => mapLoop ih nt rA s T ms
    | none => bd (ih (.code nt rA c T ms)) fun o => match o with
      | .exit .nrm T ms => ih (.code nt rA (.loop c) T ms)
      | o => ret o) := rfl
  rw [e0] at h
  cases hs : mapStep c with
  | some s => rw [hs] at h; exact mapLoop_ok hs hco hfr h
  | none =>
  rw [hs] at h
  have hA : ∀ (r : Option Nat) (Q : Exit → Act → World → Prop) (a : Act) (w : World) (k : Nat), ACode r k P (.loop c) Q a w = Code.roundsIn (FR r) 0 P c Q k a w := fun r Q a w k => by unfold ACode; simp only [hs]
  obtain ⟨o1, K, h1, h2⟩ := bd_some h
  have m1 := next_of hfr h1
  obtain ⟨e, T1, ms1, rfl, k1⟩ := hco _ _ _ _ _ _ _ _ h1
  cases e with
  | nrm =>
    have m2 := next_of hfr h2
    obtain ⟨e, T2, ms2, rfl, k2⟩ := hco _ _ _ _ _ _ _ _ h2
    refine ⟨e, T2, ms2, rfl, fun σ ρ base w a r Q hσ hwr hf hT hr hd hQ => (hA r Q a w (n + 1)).mpr (ACode.wp (n := n) (c := c) ?_)⟩
    refine k1 σ ρ base w a r _ hσ hwr (hf.left m2) hT hr hd fun a1 w1 ρ1 p1 => ?_
    exact (hA r Q a1 w1 n).mp (k2 σ ρ1 base w1 a1 r Q hσ p1.post.wr (p1.post.ext.free hf m1) p1.tmps (hr.mono p1.post.ext.le) p1.defers fun a2 w2 ρ2 p2 => hQ a2 w2 ρ2 (p1.trans p2 m1 m2))
  | exit id =>
    cases ret_some h2
    exact ⟨.exit id, T1, ms1, rfl, fun σ ρ base w a r Q hσ hwr hf hT hr hd hQ => (hA r Q a w (n + 1)).mpr (ACode.wp (n := n) (c := c) (k1 σ ρ base w a r _ hσ hwr hf hT hr hd fun a1 w1 ρ1 p1 => hQ a1 w1 ρ1 p1))⟩
  | ret =>
    cases ret_some h2
    exact ⟨.ret, T1, ms1, rfl, fun σ ρ base w a r Q hσ hwr hf hT hr hd hQ => (hA r Q a w (n + 1)).mpr (ACode.wp (n := n) (c := c) (k1 σ ρ base w a r _ hσ hwr hf hT hr hd fun a1 w1 ρ1 p1 => hQ a1 w1 ρ1 p1))⟩
theorem range_eq (n : Nat) : List.range n = List.range' 0 n := List.range_eq_range'
theorem region_ok (hm : P.follows .mixedOrders = true) (hname : NoNum P) {rA : Option Nat} {id : Nat} {ops : Array Oper} {draw : Bool} {ms : List Nat} {o : Out} (hc : CallOK P ih) (hro : RoundOK P ih) (hfr : ∀ t, Fr (ih t)) (h : runCode P ih nt rA (.region id ops draw) T ms H = some (o, H')) : Goal P (n + 1) nt rA (.region id ops draw) T ms H o H' := by
  obtain ⟨T1, K, h1, h2⟩ := bd_some h
  cases ret_some h2
  refine ⟨.nrm, T1, ms, rfl, fun σ ρ base w a r Q hσ hwr hf hT hr hd hQ => ?_⟩
  have fin : ∀ a' w' ρ', Post σ ρ ρ' base H H' w w' → TRel σ ρ' nt T1 a'.tmps → a'.defers = a.defers → Q .normal a' w' := fun a' w' ρ' p1 p2 p3 =>
    hQ a' w' ρ' ⟨p1, p2, by rw [p3]; exact hd.mono p1.ext.le⟩
  cases draw with
  | false =>
    refine wpIn_region ?_
    rw [range_eq]
    have := opsA_ok (r := r) (Q := Q) hc hro hname hfr hσ ops.toList 0 T H T1 ρ w a (fun j => by simp) h1 hT hwr hf fin
    simpa using this
  | true =>
    obtain ⟨hok, h3⟩ := cond_some h1
    exact opsD_ok hm hc hro hname hfr hσ hok h3 hT hwr hf fin
end
end Go.AM
