/- Part 22 of a calculation in a small memory that is proved to answer as the program does: see the last part. -/
import Derived.Test.YtmmebmhhonbahaaAm21
namespace Go.AM
open Go Go.RowKit
section
variable {P : Program} {σ : Nat → Value} {ρ : Ren} {base nt : Nat} {H H' : AHeap} {w : World} {T : Tmps} {a : Act} {ih : Task → M Out} {n : Nat}
def exitE : AExit → Exit
  | .nrm => .normal
  | .exit id => .exit id
  | .ret => .ret
def RR (ρ : Ren) : Option Nat → Option Nat → Prop
  | none, r => r = none
  | some l, r => ∃ L, ρ l = some L ∧ r = some L.blk
theorem RR.mono {ρ ρ' : Ren} {x r : Option Nat} (h : RR ρ x r) (hl : Le ρ ρ') : RR ρ' x r := by
  cases x with
  | none => exact h
  | some l => obtain ⟨L, h1, h2⟩ := h; exact ⟨L, hl _ _ h1, h2⟩
def ACode (r : Option Nat) (n : Nat) (P : Program) (c : Code) (Q : Exit → Act → World → Prop) (a : Act) (w : World) : Prop :=
  match c with
  | .loop b => Code.roundsIn (FR r) 0 P b Q n a w
  | c => c.wpIn (FR r) 0 P Q a w
theorem ACode.wp {r : Option Nat} {c : Code} {Q : Exit → Act → World → Prop} (h : ACode r n P c Q a w) : c.wpIn (FR r) 0 P Q a w := by
  cases c <;> first | exact wpIn_loop_rounds n h | exact h
structure CodePost (σ : Nat → Value) (ρ : Ren) (base nt : Nat) (H H' : AHeap) (w : World) (T' : Tmps) (ms' : List Nat) (ρ' : Ren) (a' : Act) (w' : World) : Prop where
  post : Post σ ρ ρ' base H H' w w'
  tmps : TRel σ ρ' nt T' a'.tmps
  defers : DRel ρ' ms' a'.defers
def CodeOK (P : Program) (n : Nat) (ih : Task → M Out) : Prop := ∀ (nt : Nat) (rA : Option Nat) (c : Code) (T : Tmps) (ms : List Nat) (H : AHeap) (o : Out) (H' : AHeap), ih (.code nt rA c T ms) H = some (o, H') →
  ∃ e T' ms', o = .exit e T' ms' ∧ ∀ (σ : Nat → Value) (ρ : Ren) (base : Nat) (w : World) (a : Act) (r : Option Nat) (Q : Exit → Act → World → Prop), One σ → WR σ ρ base H w → Free ρ H.next H'.next → TRel σ ρ nt T a.tmps → RR ρ rA r → DRel ρ ms a.defers →
    (∀ a' w' ρ', CodePost σ ρ base nt H H' w T' ms' ρ' a' w' → Q (exitE e) a' w') → ACode r n P c Q a w
/-- what one step of code is to show -/
def Goal (P : Program) (n nt : Nat) (rA : Option Nat) (c : Code) (T : Tmps) (ms : List Nat) (H : AHeap) (o : Out) (H' : AHeap) : Prop :=
  ∃ e T' ms', o = .exit e T' ms' ∧ ∀ (σ : Nat → Value) (ρ : Ren) (base : Nat) (w : World) (a : Act) (r : Option Nat) (Q : Exit → Act → World → Prop), One σ → WR σ ρ base H w → Free ρ H.next H'.next → TRel σ ρ nt T a.tmps → RR ρ rA r → DRel ρ ms a.defers →
    (∀ a' w' ρ', CodePost σ ρ base nt H H' w T' ms' ρ' a' w' → Q (exitE e) a' w') → ACode r n P c Q a w
theorem CodePost.stay {ms : List Nat} (hwr : WR σ ρ base H w) (hT : TRel σ ρ nt T a.tmps) (hd : DRel ρ ms a.defers) : CodePost σ ρ base nt H H w T ms ρ a w :=
  ⟨⟨.refl _ _ _, hwr, .refl _ _⟩, hT, hd⟩
theorem next_of {t : Task} (hfr : ∀ t, Fr (ih t)) {o : Out} (h : ih t H = some (o, H')) : H.next ≤ H'.next := by obtain ⟨es, d, _⟩ := hfr t H o H' h; exact d.next
theorem CodePost.trans {ρ1 ρ2 : Ren} {K : AHeap} {T1 T2 : Tmps} {ms1 ms2 : List Nat} {a1 a2 : Act} {w1 w2 : World} (h : CodePost σ ρ base nt H K w T1 ms1 ρ1 a1 w1) (k : CodePost σ ρ1 base nt K H' w1 T2 ms2 ρ2 a2 w2)
    (m1 : H.next ≤ K.next) (m2 : K.next ≤ H'.next) : CodePost σ ρ base nt H H' w T2 ms2 ρ2 a2 w2 :=
  ⟨⟨h.post.ext.trans k.post.ext m1 m2, k.post.wr, h.post.below.trans k.post.below⟩, k.tmps, k.defers⟩
theorem seq_ok {rA : Option Nat} {x y : Code} {ms : List Nat} {o : Out} (hco : CodeOK P n ih) (hfr : ∀ t, Fr (ih t)) (h : runCode P ih nt rA (.seq x y) T ms H = some (o, H')) : Goal P (n + 1) nt rA (.seq x y) T ms H o H' := by
  obtain ⟨o1, K, h1, h2⟩ := bd_some h
  have m1 := next_of hfr h1
  obtain ⟨e, T1, ms1, rfl, k1⟩ := hco _ _ _ _ _ _ _ _ h1
  cases e with
  | nrm =>
    have m2 := next_of hfr h2
    obtain ⟨e, T2, ms2, rfl, k2⟩ := hco _ _ _ _ _ _ _ _ h2
    refine ⟨e, T2, ms2, rfl, fun σ ρ base w a r Q hσ hwr hf hT hr hd hQ => wpIn_seq (ACode.wp (n := n) ?_)⟩
    refine k1 σ ρ base w a r _ hσ hwr (hf.left m2) hT hr hd fun a1 w1 ρ1 p1 => ?_
    refine ACode.wp (n := n) (k2 σ ρ1 base w1 a1 r Q hσ p1.post.wr (p1.post.ext.free hf m1) p1.tmps (hr.mono p1.post.ext.le) p1.defers fun a2 w2 ρ2 p2 => hQ a2 w2 ρ2 (p1.trans p2 m1 m2))
  | exit id =>
    cases ret_some h2
    exact ⟨.exit id, T1, ms1, rfl, fun σ ρ base w a r Q hσ hwr hf hT hr hd hQ => wpIn_seq (ACode.wp (n := n) (k1 σ ρ base w a r _ hσ hwr hf hT hr hd fun a1 w1 ρ1 p1 => hQ a1 w1 ρ1 p1))⟩
  | ret =>
    cases ret_some h2
    exact ⟨.ret, T1, ms1, rfl, fun σ ρ base w a r Q hσ hwr hf hT hr hd hQ => wpIn_seq (ACode.wp (n := n) (k1 σ ρ base w a r _ hσ hwr hf hT hr hd fun a1 w1 ρ1 p1 => hQ a1 w1 ρ1 p1))⟩
theorem cond_ok {rA : Option Nat} {x : Operand} {y z : Code} {ms : List Nat} {o : Out} (hco : CodeOK P n ih) (h : runCode P ih nt rA (.cond x y z) T ms H = some (o, H')) : Goal P (n + 1) nt rA (.cond x y z) T ms H o H' := by
  unfold runCode at h
  simp only at h
  generalize hx : ev T x = v at h
  split at h
  · rename_i t
    obtain ⟨e, T1, ms1, rfl, k1⟩ := hco _ _ _ _ _ _ _ _ h
    refine ⟨e, T1, ms1, rfl, fun σ ρ base w a r Q hσ hwr hf hT hr hd hQ => ?_⟩
    have hv := ev_rel (a := a) hx hT
    unfold Rel at hv
    refine wpIn_cond hv ?_
    have := ACode.wp (k1 σ ρ base w a r Q hσ hwr hf hT hr hd hQ)
    cases t <;> exact this
  · exact (fail_some h).elim
theorem block_ok {rA : Option Nat} {id : Nat} {c : Code} {ms : List Nat} {o : Out} (hco : CodeOK P n ih) (h : runCode P ih nt rA (.block id c) T ms H = some (o, H')) : Goal P (n + 1) nt rA (.block id c) T ms H o H' := by
  obtain ⟨o1, K, h1, h2⟩ := bd_some h
  obtain ⟨e, T1, ms1, rfl, k1⟩ := hco _ _ _ _ _ _ _ _ h1
  cases e with
  | nrm =>
    cases ret_some h2
    exact ⟨.nrm, T1, ms1, rfl, fun σ ρ base w a r Q hσ hwr hf hT hr hd hQ => wpIn_block (ACode.wp (n := n) (k1 σ ρ base w a r _ hσ hwr hf hT hr hd fun a1 w1 ρ1 p1 => hQ a1 w1 ρ1 p1))⟩
  | ret =>
    cases ret_some h2
    exact ⟨.ret, T1, ms1, rfl, fun σ ρ base w a r Q hσ hwr hf hT hr hd hQ => wpIn_block (ACode.wp (n := n) (k1 σ ρ base w a r _ hσ hwr hf hT hr hd fun a1 w1 ρ1 p1 => hQ a1 w1 ρ1 p1))⟩
  | exit id' =>
    cases hb : Nat.beq id' id with
    | true =>
      simp only [hb, cond_true] at h2
      cases ret_some h2
      have e := Nat.eq_of_beq_eq_true hb
      exact ⟨.nrm, T1, ms1, rfl, fun σ ρ base w a r Q hσ hwr hf hT hr hd hQ => wpIn_block (ACode.wp (n := n) (k1 σ ρ base w a r _ hσ hwr hf hT hr hd fun a1 w1 ρ1 p1 => by
        show (if id' = id then _ else _)
        rw [if_pos e]; exact hQ a1 w1 ρ1 p1))⟩
    | false =>
      simp only [hb, cond_false] at h2
      cases ret_some h2
      have e : id' ≠ id := fun e => by subst e; simp at hb
      exact ⟨.exit id', T1, ms1, rfl, fun σ ρ base w a r Q hσ hwr hf hT hr hd hQ => wpIn_block (ACode.wp (n := n) (k1 σ ρ base w a r _ hσ hwr hf hT hr hd fun a1 w1 ρ1 p1 => by
        show (if id' = id then _ else _)
        rw [if_neg e]; exact hQ a1 w1 ρ1 p1))⟩
theorem loop_ok {rA : Option Nat} {c : Code} {ms : List Nat} {o : Out} (hco : CodeOK P n ih) (hfr : ∀ t, Fr (ih t)) (h : runCode P ih nt rA (.loop c) T ms H = some (o, H')) : Goal P (n + 1) nt rA (.loop c) T ms H o H' := by
  obtain ⟨o1, K, h1, h2⟩ := bd_some h
  have m1 := next_of hfr h1
  obtain ⟨e, T1, ms1, rfl, k1⟩ := hco _ _ _ _ _ _ _ _ h1
  cases e with
  | nrm =>
    have m2 := next_of hfr h2
    obtain ⟨e, T2, ms2, rfl, k2⟩ := hco _ _ _ _ _ _ _ _ h2
    refine ⟨e, T2, ms2, rfl, fun σ ρ base w a r Q hσ hwr hf hT hr hd hQ => ACode.wp (n := n) (c := c) ?_⟩
    refine k1 σ ρ base w a r _ hσ hwr (hf.left m2) hT hr hd fun a1 w1 ρ1 p1 => ?_
    exact k2 σ ρ1 base w1 a1 r Q hσ p1.post.wr (p1.post.ext.free hf m1) p1.tmps (hr.mono p1.post.ext.le) p1.defers fun a2 w2 ρ2 p2 => hQ a2 w2 ρ2 (p1.trans p2 m1 m2)
  | exit id =>
    cases ret_some h2
    exact ⟨.exit id, T1, ms1, rfl, fun σ ρ base w a r Q hσ hwr hf hT hr hd hQ => ACode.wp (n := n) (c := c) (k1 σ ρ base w a r _ hσ hwr hf hT hr hd fun a1 w1 ρ1 p1 => hQ a1 w1 ρ1 p1)⟩
  | ret =>
    cases ret_some h2
    exact ⟨.ret, T1, ms1, rfl, fun σ ρ base w a r Q hσ hwr hf hT hr hd hQ => ACode.wp (n := n) (c := c) (k1 σ ρ base w a r _ hσ hwr hf hT hr hd fun a1 w1 ρ1 p1 => hQ a1 w1 ρ1 p1)⟩
theorem range_eq (n : Nat) : List.range n = List.range' 0 n := List.range_eq_range'
theorem region_ok (hm : P.follows .mixedOrders = true) (hname : NoNum P) {rA : Option Nat} {id : Nat} {ops : Array Oper} {draw : Bool} {ms : List Nat} {o : Out} (hc : CallOK P ih) (hro : RoundOK P ih) (hfr : ∀ t, Fr (ih t)) (h : runCode P ih nt rA (.region id ops draw) T ms H = some (o, H')) : Goal P (n + 1) nt rA (.region id ops draw) T ms H o H' := by
  obtain ⟨T1, K, h1, h2⟩ := bd_some h
  cases ret_some h2
  refine ⟨.nrm, T1, ms, rfl, fun σ ρ base w a r Q hσ hwr hf hT hr hd hQ => ?_⟩
  have fin : ∀ a' w' ρ', Post σ ρ ρ' base H H' w w' → TRel σ ρ' nt T1 a'.tmps → a'.defers = a.defers → Q .normal a' w' := fun a' w' ρ' p1 p2 p3 =>
    hQ a' w' ρ' ⟨p1, p2, by rw [p3]; exact hd.mono p1.ext.le⟩
  cases draw with
  | false =>
    refine wpIn_region ?_
    rw [range_eq]
    have := opsA_ok (r := r) (Q := Q) hc hro hname hfr hσ ops.toList 0 T H T1 ρ w a (fun j => by simp) h1 hT hwr hf fin
    simpa using this
  | true =>
    obtain ⟨hok, h3⟩ := cond_some h1
    exact opsD_ok hm hc hro hname hfr hσ hok h3 hT hwr hf fin
end
end Go.AM
