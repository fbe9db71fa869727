/- Part 16 of a calculation in a small memory that is proved to answer as the program does: see the last part. -/
import Derived.Test.YtnbgeelhoakjgaaAm15
import Derived.OrdersIn
import Derived.RangeFuncCalls
namespace Go.AM
open Go Go.RowKit

/-- the wide fence, in a round or in none -/
def FR (r : Option Nat) : Fence := { Fence.wide with round := r }
section
variable {P : Program} {σ : Nat → Value} {ρ : Ren} {base : Nat} {H H' : AHeap} {w : World} {nt : Nat} {T : Tmps} {a : Act}
structure Post (σ : Nat → Value) (ρ ρ' : Ren) (base : Nat) (H H' : AHeap) (w w' : World) : Prop where
  ext : Ext ρ ρ' H.next H'.next
  wr : WR σ ρ' base H' w'
  below : Below base w w'
def ValPost (σ : Nat → Value) (ρ : Ren) (base : Nat) (H H' : AHeap) (w : World) (v : AVal) : Ending → World → Prop :=
  fun e w' => ∃ v' ρ', e = .returned v' ∧ Post σ ρ ρ' base H H' w w' ∧ Rel σ ρ' v v'
def CallOK (P : Program) (ih : Task → M Out) : Prop := ∀ (f : FuncId) (args : List AVal) (H : AHeap) (v : AVal) (H' : AHeap), ih (.call f args) H = some (.val v, H') →
  ∀ (σ : Nat → Value) (ρ : Ren) (base : Nat) (w : World) (args' : Array Value), One σ → WR σ ρ base H w → Free ρ H.next H'.next → RelL σ ρ args args'.toList →
    CallsIn Fence.wide 0 P f args' w (ValPost σ ρ base H H' w v)
def RoundOK (P : Program) (ih : Task → M Out) : Prop := ∀ (l : Nat) (args : List AVal) (H : AHeap) (v : AVal) (H' : AHeap), ih (.round l args) H = some (.val v, H') →
  ∀ (σ : Nat → Value) (ρ : Ren) (base : Nat) (w : World) (args' : Array Value) (L : Loc) (n : Next), One σ → WR σ ρ base H w → Free ρ H.next H'.next → ρ l = some L → RelL σ ρ args args'.toList →
    (Instr.yield L.blk args').run P w = .ok n w → ∃ fn tm as bo, n = .round L.blk fn tm as bo ∧ RoundIn Fence.wide 0 P L.blk fn tm as bo w (ValPost σ ρ base H H' w v)
theorem put_rel {v : AVal} {v' : Value} {dst : Option Tmp} {T' : Tmps} (h : setT nt T dst v = some T') (hT : TRel σ ρ nt T a.tmps) (hv : Rel σ ρ v v') : TRel σ ρ nt T' (a.put dst v').tmps := by
  cases dst with
  | none => cases h; exact hT
  | some d =>
    simp only [setT] at h
    obtain ⟨hd, h⟩ := condO_some h
    cases h
    have hd : d < nt := by simpa [Nat.blt_eq] using hd
    refine ⟨by simp [Act.put, hT.size], fun i => ?_⟩
    have hlt : d < a.tmps.size := by rw [hT.size]; exact hd
    simp only [tget, Tr.get_put, Act.put]
    by_cases hi : d = i
    · subst hi; simp [hlt]; exact hv
    · have := hT.at_ i
      unfold tget at this
      simp only [if_neg hi, Array.getD_eq_getD_getElem?, Array.getElem?_setIfInBounds_ne hi] at this ⊢
      exact this
theorem put_defers (a : Act) (dst : Option Tmp) (v : Value) : (a.put dst v).defers = a.defers := by cases dst <;> rfl
theorem wanted_rel {ops : Array Oper} {o : Oper} {b : Bool} (h : wantedA ops.toList T o.guard = some b) (hT : TRel σ ρ nt T a.tmps) : Region.wanted o (yielded ops a.tmps) = b := by
  unfold Region.wanted
  unfold wantedA at h
  cases hg : o.guard with
  | none => simp only [hg] at h ⊢; cases h; rfl
  | some g =>
    obtain ⟨j, want⟩ := g
    simp only [hg] at h ⊢
    unfold yielded
    cases hj : ops[j]? with
    | none =>
      have : ops.toList[j]? = none := by rw [Array.getElem?_toList]; exact hj
      simp only [this] at h; cases h; rfl
    | some oj =>
      have : ops.toList[j]? = some oj := by rw [Array.getElem?_toList]; exact hj
      simp only [this] at h
      cases hd : oj.dst with
      | none => simp only [hd] at h; cases h; simp [hd]
      | some d =>
        simp only [hd] at h
        simp only [Option.bind_some, hd]
        have hr := hT.at_ d
        unfold tget at hr
        have notBool : ∀ x : AVal, Rel σ ρ x (a.tmps.getD d undef) → (∀ b, x ≠ .bool b) → (∀ i, x ≠ .opq i) → ∀ b, a.tmps[d]? ≠ some (.bool b) := by
          intro x hx h1 h2 b hb
          have e : a.tmps.getD d undef = .bool b := by simp [Array.getD_eq_getD_getElem?, hb]
          rw [e] at hx
          cases x <;> unfold Rel at hx <;> first
            | exact h1 _ rfl
            | exact h2 _ rfl
            | (cases hx; done)
            | (obtain ⟨_, _, hx⟩ := hx; cases hx; done)
            | (obtain ⟨_, _, _, _, hx, _⟩ := hx; cases hx; done)
            | (obtain ⟨_, _, hx, _⟩ := hx; cases hx; done)
            | (obtain ⟨_, hx, _⟩ := hx; cases hx; done)
        cases hx : T.get d with
        | none =>
          simp only [hx] at h hr
          cases h
          have hno := notBool _ hr (by simp [AVal.undef]) (by simp [AVal.undef])
          cases hx2 : a.tmps[d]? with
          | none => rfl
          | some y => cases y <;> first | rfl | exact absurd hx2 (hno _)
        | some x =>
          rw [hx] at hr
          simp only [Option.getD_some] at hr
          cases x with
          | bool b' =>
            simp only [hx] at h
            cases h
            unfold Rel at hr
            have hlt : d < a.tmps.size := by
              rcases Nat.lt_or_ge d a.tmps.size with h | h
              · exact h
              · simp [Array.getD_eq_getD_getElem?, Array.getElem?_eq_none h, undef] at hr
            have e : a.tmps[d]? = some (.bool b') := by
              rw [Array.getElem?_eq_getElem hlt]
              simp [Array.getD_eq_getD_getElem?, hlt] at hr
              rw [hr]
            rw [e]
            cases b' <;> cases want <;> rfl
          | opq i => simp only [hx] at h; cases h
          | _ =>
            simp only [hx] at h
            cases h
            have hno := notBool _ hr (by simp) (by simp)
            cases hx2 : a.tmps[d]? with
            | none => rfl
            | some y => cases y <;> first | rfl | exact absurd hx2 (hno _)
theorem wide_about {o : Oper} {r : Option Nat} {ρ' : Operand → Value} : ∀ f, o.about P w ρ' = some f → (FR r).fn f := fun _ _ => trivial
/-- one operation, whatever follows -/
theorem valOp_ok {ih : Task → M Out} (hc : CallOK P ih) (hr : RoundOK P ih) (hname : NoNum P) {ops : Array Oper} {o : Oper} {v : AVal} {r : Option Nat} {Q : Exit → Act → World → Prop} {K : Act → World → Prop}
    (h : valOp P ih ops.toList o T H = some (v, H')) (hfr : ∀ t, Fr (ih t)) (hT : TRel σ ρ nt T a.tmps) (hσ : One σ) (hwr : WR σ ρ base H w) (hf : Free ρ H.next H'.next)
    (hK : ∀ v' w' ρ', Post σ ρ ρ' base H H' w w' → Rel σ ρ' v v' → K (a.put o.dst v') w') :
    if Region.wanted o (yielded ops a.tmps) then o.wpIn (FR r) 0 P a w K Q else (∀ f, o.about P w a.eval = some f → (FR r).fn f) ∧ K (a.put o.dst undef) w := by
  unfold valOp at h
  generalize hw : wantedA ops.toList T o.guard = wb at h
  cases wb with
  | none => exact (fail_some h).elim
  | some wb =>
    rw [wanted_rel hw hT]
    cases wb with
    | false =>
      cases ret_some h
      exact ⟨wide_about, hK _ _ ρ ⟨.refl _ _ _, hwr, .refl _ _⟩ rel_undef⟩
    | true =>
      simp only [if_true]
      obtain ⟨x, K1, h1, h2⟩ := bd_some h
      have hnd : ∀ c, o.op ≠ .defer c := fun c e => by rw [e] at h1; exact fail_some (H := H) h1
      have m1 : H.next ≤ K1.next := by obtain ⟨es, d, _⟩ := fr_opA P T o.op H x K1 h1; exact d.next
      have m2 : K1.next ≤ H'.next := by obtain ⟨es, d, _⟩ := fr_nextA hfr x K1 v H' h2; exact d.next
      obtain ⟨nx, w1, ρ1, e1, x1, x2, x3, x4⟩ := op_ok (P := P) (a := a) hname h1 hT hσ hwr (hf.left m2)
      refine ⟨wide_about, ?_⟩
      rw [Oper.semAt_eq _ _ _ hnd, e1]
      have hf1 : Free ρ1 K1.next H'.next := x1.free hf m1
      have fin : ∀ v' w' ρ', Post σ ρ1 ρ' base K1 H' w1 w' → Rel σ ρ' v v' → K (a.put o.dst v') w' := fun v' w' ρ' hp hv =>
        hK v' w' ρ' ⟨x1.trans hp.ext m1 m2, hp.wr, x3.trans hp.below⟩ hv
      cases x with
      | val u =>
        cases ret_some h2
        rcases x4 with ⟨v', rfl, hv⟩ | ⟨rfl, rfl⟩
        · exact fin v' w1 ρ1 ⟨.refl _ _ _, x2, .refl _ _⟩ hv
        · exact fin undef w1 ρ1 ⟨.refl _ _ _, x2, .refl _ _⟩ rel_undef
      | enter f args =>
        obtain ⟨args', rfl, hargs⟩ := x4
        obtain ⟨out, K2, h3, h4⟩ := bd_some h2
        cases out with
        | exit e T ms => exact (fail_some h4).elim
        | val u =>
          cases ret_some h4
          have := hc f args K1 v H' h3 σ ρ1 base w1 args' hσ x2 hf1 hargs
          refine ⟨fun h => by simp [FR, Fence.wide] at h, ?_⟩
          have h5 : CallsIn (FR r) 0 P f args' w1 (ValPost σ ρ1 base K1 H' w1 v) := this
          refine h5.mono ?_
          rintro e w2 ⟨v', ρ', rfl, hp, hv⟩
          exact fin v' w2 ρ' hp hv
      | round l args =>
        obtain ⟨L, args', hL, hargs, hy⟩ := x4
        obtain ⟨out, K2, h3, h4⟩ := bd_some h2
        cases out with
        | exit e T ms => exact (fail_some h4).elim
        | val u =>
          cases ret_some h4
          obtain ⟨fn, tm, as, bo, rfl, hri⟩ := hr l args K1 v H' h3 σ ρ1 base w1 args' L nx hσ x2 hf1 hL hargs hy
          refine ⟨fun h => by simp [FR, Fence.wide] at h, ?_⟩
          have h5 : RoundIn (FR r) 0 P L.blk fn tm as bo w1 (ValPost σ ρ1 base K1 H' w1 v) := hri
          refine h5.mono ?_
          rintro e w2 ⟨v', ρ', rfl, hp, hv⟩
          exact fin v' w2 ρ' hp hv
theorem oneOp_some {ih : Task → M Out} {all : List Oper} {o : Oper} {T' : Tmps} (h : oneOp P ih nt all o T H = some (T', H')) : ∃ v, valOp P ih all o T H = some (v, H') ∧ setT nt T o.dst v = some T' := by
  obtain ⟨v, K, h1, h2⟩ := bd_some h
  obtain ⟨x, hx, e⟩ := lift_some h2
  cases e
  exact ⟨v, h1, hx⟩
theorem opsA_ok {ih : Task → M Out} (hc : CallOK P ih) (hr : RoundOK P ih) (hname : NoNum P) (hfr : ∀ t, Fr (ih t)) {ops : Array Oper} {r : Option Nat} {Q : Exit → Act → World → Prop} (hσ : One σ) :
    ∀ (os : List Oper) (k : Nat) (T : Tmps) (H : AHeap) (T' : Tmps) (ρ : Ren) (w : World) (a : Act), (∀ j, os[j]? = ops[k + j]?) → opsA P ih nt ops.toList os T H = some (T', H') → TRel σ ρ nt T a.tmps → WR σ ρ base H w → Free ρ H.next H'.next →
      (∀ a' w' ρ', Post σ ρ ρ' base H H' w w' → TRel σ ρ' nt T' a'.tmps → a'.defers = a.defers → Q .normal a' w') → wpOpsIn (FR r) 0 P ops Q (List.range' k os.length) a w := by
  intro os
  induction os with
  | nil =>
    intro k T H T' ρ w a hk h hT hwr hf hQ
    cases ret_some h
    simp only [List.length_nil, List.range'_zero, wpOpsIn]
    exact hQ a w ρ ⟨.refl _ _ _, hwr, .refl _ _⟩ hT rfl
  | cons o os ih2 =>
    intro k T H T' ρ w a hk h hT hwr hf hQ
    obtain ⟨T1, K, h1, h2⟩ := bd_some h
    obtain ⟨v, h3, h4⟩ := oneOp_some h1
    have h0 : ops[k]? = some o := by have := hk 0; simpa using this.symm
    have m1 : H.next ≤ K.next := by obtain ⟨es, d, _⟩ := fr_valOp P hfr _ _ _ H v K h3; exact d.next
    have m2 : K.next ≤ H'.next := by obtain ⟨es, d, _⟩ := fr_opsA P hfr _ _ _ _ K T' H' h2; exact d.next
    simp only [List.length_cons, List.range'_succ, wpOpsIn, h0]
    refine valOp_ok hc hr hname h3 hfr hT hσ hwr (hf.left m2) ?_
    intro v' w1 ρ1 hp hv
    refine ih2 (k + 1) T1 K T' ρ1 w1 (a.put o.dst v') (fun j => by have := hk (j + 1); rw [show k + 1 + j = k + (j + 1) from by omega]; simpa using this) h2 (put_rel h4 (hT.mono hp.ext.le) hv) hp.wr (hp.ext.free hf m1) ?_
    intro a' w' ρ' hp' hT' hd
    exact hQ a' w' ρ' ⟨hp.ext.trans hp'.ext m1 m2, hp'.wr, hp.below.trans hp'.below⟩ hT' (hd.trans (put_defers _ _ _))
end
end Go.AM
