/- Part 25 of a calculation in a small memory that is proved to answer as the program does: see the last part. -/
import Derived.Test.YtnbgeelhoakjgaaAm24
namespace Go.AM
open Go Go.RowKit
section
variable {P : Program} {σ : Nat → Value} {ρ : Ren} {base nt : Nat} {H H' : AHeap} {w : World} {T : Tmps} {a : Act} {ih : Task → M Out} {n : Nat}
theorem newBlk_ok {b : ABlk} {id : Nat} {o : Obj} {L : Loc} (hL : L.blk = w.heap.size) (h : nw b H = some (id, H')) (hwr : WR σ ρ base H w) (hf : Free ρ H.next H'.next) (hb : ∀ ρ', Le ρ ρ' → BR σ ρ' True L b (some o)) :
    H'.next = H.next + 1 ∧ ∃ ρ', Post σ ρ ρ' base H H' w (w.alloc o) ∧ ρ' id = some L := by
  obtain ⟨rfl, hlo, hk, hkl, hkn⟩ := nw_some h
  obtain ⟨ρ', x1, x2, x3, x4⟩ := hwr.new (L := L) (b := b) (hf H.next (Nat.le_refl _) (by omega)) (fun j bj Lj hj hLj => by rw [hL]; exact Nat.ne_of_lt (live_lt hwr hj hLj)) (by rw [hL]; exact hwr.base)
    (by rw [hL]; exact push_upd w o) (fun ρ' hle _ => hb ρ' hle) hk hkl hkn
  exact ⟨hkn, ρ', ⟨x1, x3, x4⟩, x2⟩
theorem enter_ok {rA r : Option Nat} {ps : Array Tmp} {as bo : Code} {d l : Nat} {ms : List Nat} {K : AHeap} (hr : RR ρ rA r) (h1 : enterA rA H = some ((d, ms), K)) (h2 : nw (.loop .ready none nt T ps.toList as bo d) K = some (l, H'))
    (hwr : WR σ ρ base H w) (hf : Free ρ H.next H'.next) (hT : TRel σ ρ nt T a.tmps) (fn : FuncId) :
    ∃ L mark w' ρ', (Instr.enterLoop fn a.tmps ps as bo r).run P w = .ok (L.blk, mark) w' ∧ Post σ ρ ρ' base H H' w w' ∧ ρ' l = some L ∧ DRel ρ' ms mark := by
  cases rA with
  | none =>
    unfold RR at hr; subst hr
    obtain ⟨r0, K1, g1, g2⟩ := bd_some h1
    cases ret_some g2
    obtain ⟨_, _, _, _, n2⟩ := nw_some h2
    obtain ⟨n1, ρ1, p1, q1⟩ := newBlk_ok (σ := σ) (w := w) (o := .deferred (some [])) (L := ⟨w.heap.size, 0, 0⟩) rfl g1 hwr (hf.left (by omega)) (fun _ _ => rfl)
    obtain ⟨_, ρ2, p2, q2⟩ := newBlk_ok (σ := σ) (w := w.alloc (.deferred (some []))) (o := .loop { state := .ready, pending := none, fn, tmps := a.tmps, params := ps, assign := as, body := bo, defers := w.heap.size }) (L := ⟨w.heap.size + 1, 0, 0⟩) (by simp) h2 p1.wr (p1.ext.free hf (by omega))
      (fun ρ' hle => ⟨fn, a.tmps, ⟨w.heap.size, 0, 0⟩, hle _ _ q1, rfl, hT.mono (p1.ext.le.trans hle)⟩)
    refine ⟨⟨w.heap.size + 1, 0, 0⟩, _, _, ρ2, run_enterLoop_outer fn a.tmps ps as bo, p1.trans p2 (by omega) (by omega), q2, ?_⟩
    exact ⟨⟨w.heap.size, 0, 0⟩, [], p2.ext.le _ _ q1, rfl, rfl⟩
  | some l0 =>
    obtain ⟨L0, hL0, rfl⟩ := hr
    obtain ⟨blk, K1, g1, g2⟩ := bd_some h1
    obtain ⟨hb, e1, e2, e3⟩ := rd_some g1
    cases blk with
    | loop st pd nt2 T2 ps2 as2 bo2 d2 =>
      cases ret_some g2
      obtain ⟨L', hL', fn2, tm2, D, q1, q2, q3⟩ := hwr.blk l0 _ hb
      rw [hL0] at hL'; cases hL'
      obtain ⟨_, ρ2, p2, q4⟩ := newBlk_ok (σ := σ) (w := w) (o := .loop { state := .ready, pending := none, fn, tmps := a.tmps, params := ps, assign := as, body := bo, defers := D.blk }) (L := ⟨w.heap.size, 0, 0⟩) rfl h2 (hwr.log e1 e2) (by rw [e3]; exact hf)
        (fun ρ' hle => ⟨fn, a.tmps, D, hle _ _ q1, rfl, hT.mono hle⟩)
      refine ⟨⟨w.heap.size, 0, 0⟩, _, _, ρ2, run_enterLoop_inner q2 fn a.tmps ps as bo, ⟨by rw [← e3]; exact p2.ext, p2.wr, p2.below⟩, q4, rfl⟩
    | _ => exact (fail_some g2).elim
theorem rangeFunc_ok (hname : NoNum P) {rA : Option Nat} {x : Operand} {ps : Array Tmp} {as bo : Code} {ms : List Nat} {o : Out} (hco : CodeOK P n ih) (hc : CallOK P ih) (hfr : ∀ t, Fr (ih t)) (h : runCode P ih nt rA (.rangeFunc x ps as bo) T ms H = some (o, H')) :
    Goal P (n + 1) nt rA (.rangeFunc x ps as bo) T ms H o H' := by
  unfold runCode at h
  simp only at h
  generalize hx : ev T x = fv at h
  split at h
  · rename_i k first cap
    obtain ⟨hk, h⟩ := cond_some h
    obtain ⟨⟨d, ms0⟩, K1, h1, h⟩ := bd_some h
    obtain ⟨l, K2, h2, h⟩ := bd_some h
    obtain ⟨u, K3, h3, h⟩ := bd_some h
    obtain ⟨blk, K4, h4, h⟩ := bd_some h
    have h3 := outVal_some h3
    obtain ⟨hb4, e1, e2, e3⟩ := rd_some h4
    cases blk with
    | loop st pd nt2 T2 ps2 as2 bo2 d2 =>
      have hst : st ≠ .busy := by rintro rfl; exact fail_some (H := K4) h
      have h : bd (wr l (.loop .exhausted pd nt2 T2 ps2 as2 bo2 d2)) (fun _ => match pd with
          | none => ret (.exit .nrm T (ms0 ++ ms))
          | some c => ih (.code nt rA c T (ms0 ++ ms))) K4 = some (o, H') := by
        cases st <;> first | exact h | exact absurd rfl hst
      obtain ⟨u2, K5, h5, h⟩ := bd_some h
      have m1 : H.next ≤ K1.next := by obtain ⟨es, d, _⟩ := fr_enterA rA H _ K1 h1; exact d.next
      have m2 : K1.next ≤ K2.next := by obtain ⟨_, _, _, _, n2⟩ := nw_some h2; omega
      have m3 := next_of hfr h3
      have m5 : K5.next = K3.next := by obtain ⟨_, _, _, _, e4⟩ := wr_some h5; rw [e4, e3]
      have main : ∀ (e : AExit) (T' : Tmps) (ms' : List Nat) (m6 : K5.next ≤ H'.next), (∀ (σ : Nat → Value) (ρ : Ren) (base : Nat) (w : World) (a : Act) (r : Option Nat) (Q : Exit → Act → World → Prop), One σ → WR σ ρ base K5 w → Free ρ K5.next H'.next → TRel σ ρ nt T a.tmps → RR ρ rA r → DRel ρ (ms0 ++ ms) a.defers →
          (∀ a' w' ρ', CodePost σ ρ base nt K5 H' w T' ms' ρ' a' w' → Q (exitE e) a' w') → (match (generalizing := false) pd with | none => Q .normal a w | some c => c.wpIn (FR r) 0 P Q a w)) →
          ∀ (σ : Nat → Value) (ρ : Ren) (base : Nat) (w : World) (a : Act) (r : Option Nat) (Q : Exit → Act → World → Prop), One σ → WR σ ρ base H w → Free ρ H.next H'.next → TRel σ ρ nt T a.tmps → RR ρ rA r → DRel ρ ms a.defers →
            (∀ a' w' ρ', CodePost σ ρ base nt H H' w T' ms' ρ' a' w' → Q (exitE e) a' w') → ACode r (n + 1) P (.rangeFunc x ps as bo) Q a w := by
        intro e T' ms' m6 kk σ ρ base w a r Q hσ hwr hf hT hr hd hQ
        refine wpIn_rangeFunc fun fn _ => ?_
        obtain ⟨L, mark, w1, ρ1, a1, p1, q1, q2⟩ := enter_ok (P := P) (fn := fn) hr h1 h2 hwr (hf.left (by omega)) hT
        have hv := ev_rel (a := a) hx hT
        unfold Rel at hv
        obtain ⟨fs, cs, he, g1, g2⟩ := hv
        have hres : (resolve a.eval (rangeCall x L.blk) 0).run P w1 = .ok { target := .fn (.func k) cs, args := fs ++ #[.func (.yield L.blk) #[] #[]] } w1 := by
          have e1 : (#[Operand.const (.func (.yield L.blk) #[] #[])].map a.eval : Array Value) = #[.func (.yield L.blk) #[] #[]] := by simp [Act.eval]
          simp only [resolve, e1, he, Deferred.ofValue, Sem.run_pure]
        have hyl : Rel σ ρ1 (.yield l) (.func (.yield L.blk) #[] #[]) := by unfold Rel; exact ⟨L, q1, rfl⟩
        have hargs : RelL σ ρ1 (first ++ [.yield l] ++ cap) (fs ++ #[Value.func (.yield L.blk) #[] #[]] ++ cs).toList := by
          have := ((RelL.mono p1.ext.le _ _ g1).append (.cons hyl .nil)).append (RelL.mono p1.ext.le _ _ g2)
          simpa using this
        have hcall := hc k _ K2 u K3 h3 σ ρ1 base w1 _ hσ p1.wr ((p1.ext.free hf (by omega)).left (by omega)) hargs
        refine ⟨L.blk, mark, w1, _, w1, k, fs ++ #[Value.func (.yield L.blk) #[] #[]] ++ cs, w1, a1, hres, fun _ _ => trivial, ?_, fun h => by simp [FR, Fence.wide] at h, ?_⟩
        · simp only [invoke]
          exact isFn_run hname hk _ w1
        · have h5' : CallsIn (FR r) 0 P k (fs ++ #[Value.func (.yield L.blk) #[] #[]] ++ cs) w1 (ValPost σ ρ1 base K2 K3 w1 u) := hcall
          refine h5'.mono ?_
          rintro en w3 ⟨v', ρ3, rfl, p3, _⟩
          have hL3 : ρ3 l = some L := p3.ext.le _ _ q1
          obtain ⟨n5, rc, b1, b2, b3, b4, b5⟩ := turn_ok (p3.wr.log (K := K4) e1 e2) hL3 (by rw [e1]; exact hb4) h5
          refine ⟨pd, w3.putObj L.blk (.loop { rc with state := .exhausted }), by rw [← b3]; exact run_endLoop b1 (by rw [b2]; exact hst), ?_⟩
          have erc : { rc with state := LoopState.exhausted, pending := pd } = { rc with state := LoopState.exhausted } := by rw [← b3]
          rw [erc] at b4 b5
          have pall : Post σ ρ ρ3 base H K5 w (w3.putObj L.blk (.loop { rc with state := .exhausted })) :=
            ⟨by rw [m5]; exact (p1.trans p3 (by omega) (by omega)).ext, b4, ((p1.below.trans p3.below).trans b5)⟩
          refine kk σ ρ3 base _ { a with defers := mark ++ a.defers } r Q hσ b4 (pall.ext.free hf (by omega)) (hT.mono pall.ext.le) (hr.mono pall.ext.le) ((q2.mono p3.ext.le).append (hd.mono pall.ext.le)) ?_
          intro a' w' ρ' p'
          exact hQ a' w' ρ' ⟨pall.trans p'.post (by omega) (by omega), p'.tmps, p'.defers⟩
      cases pd with
      | none =>
        cases ret_some h
        refine ⟨.nrm, T, ms0 ++ ms, rfl, main .nrm T (ms0 ++ ms) (Nat.le_refl _) ?_⟩
        intro σ ρ base w a r Q hσ hwr hf hT hr hd hQ
        exact hQ a w ρ (.stay hwr hT hd)
      | some c =>
        have m6 := next_of hfr h
        obtain ⟨e, T', ms', rfl, kk⟩ := hco _ _ _ _ _ _ _ _ h
        exact ⟨e, T', ms', rfl, main e T' ms' m6 fun σ ρ base w a r Q hσ hwr hf hT hr hd hQ => (kk σ ρ base w a r Q hσ hwr hf hT hr hd hQ).wp⟩
    | _ => exact (fail_some h).elim
  · exact (fail_some h).elim
theorem runCode_ok (hm : P.follows .mixedOrders = true) (hname : NoNum P) (hco : CodeOK P n ih) (hc : CallOK P ih) (hro : RoundOK P ih) (hfr : ∀ t, Fr (ih t)) {rA : Option Nat} {c : Code} {ms : List Nat} {o : Out} (h : runCode P ih nt rA c T ms H = some (o, H')) :
    Goal P (n + 1) nt rA c T ms H o H' := by
  cases c with
  | skip =>
    cases ret_some h
    exact ⟨.nrm, T, ms, rfl, fun σ ρ base w a r Q hσ hwr hf hT hr hd hQ => wpIn_skip (hQ a w ρ (.stay hwr hT hd))⟩
  | exit id =>
    cases ret_some h
    exact ⟨.exit id, T, ms, rfl, fun σ ρ base w a r Q hσ hwr hf hT hr hd hQ => wpIn_exit (hQ a w ρ (.stay hwr hT hd))⟩
  | ret =>
    cases ret_some h
    exact ⟨.ret, T, ms, rfl, fun σ ρ base w a r Q hσ hwr hf hT hr hd hQ => wpIn_ret (hQ a w ρ (.stay hwr hT hd))⟩
  | region id ops draw => exact region_ok hm hname hc hro hfr h
  | seq x y => exact seq_ok hco hfr h
  | cond x y z => exact cond_ok hco h
  | block id c => exact block_ok hco h
  | loop c => exact loop_ok hco hfr h
  | rangeFunc x ps as bo => exact rangeFunc_ok hname hco hc hfr h
  | _ => exact (fail_some (H := H) h).elim
/-- what is taken as told is so -/
def ExtOK (P : Program) (X : Told) : Prop := FrX X ∧ ∀ (f : FuncId) (g : List AVal → M AVal), X f = some g → ∀ (args : List AVal) (H : AHeap) (v : AVal) (H' : AHeap), g args H = some (v, H') →
  ∀ (σ : Nat → Value) (ρ : Ren) (base : Nat) (w : World) (args' : Array Value), One σ → WR σ ρ base H w → Free ρ H.next H'.next → RelL σ ρ args args'.toList → CallsIn Fence.wide 0 P f args' w (ValPost σ ρ base H H' w v)
theorem extOK_none : ExtOK P noExt := ⟨frX_none, fun _ _ h => by cases h⟩
theorem run_ok (hm : P.follows .mixedOrders = true) (hname : NoNum P) {X : Told} (hX : ExtOK P X) : ∀ n, CodeOK P n (run P X n) ∧ CallOK P (run P X n) ∧ RoundOK P (run P X n) := by
  intro n
  induction n with
  | zero =>
    refine ⟨fun _ _ _ _ _ H _ _ h => (fail_some (H := H) h).elim, fun _ _ H _ _ h => (fail_some (H := H) h).elim, fun _ _ H _ _ h => (fail_some (H := H) h).elim⟩
  | succ n ih =>
    obtain ⟨h1, h2, h3⟩ := ih
    refine ⟨fun nt rA c T ms H o H' h => runCode_ok hm hname h1 h2 h3 (fr_run P hX.1 n) h, fun f args H v H' h σ ρ base w args' hσ hwr hf hr => ?_,
      fun l args H v H' h σ ρ base w args' L nx hσ hwr hf hL hr hy => runRound_ok h1 (fr_run P hX.1 n) h hσ hwr hf hL hr hy⟩
    have h : runStep P X (run P X n) (.call f args) H = some (Out.val v, H') := h
    cases hg : X f with
    | some g =>
      have e : runStep P X (run P X n) (.call f args) = bd (g args) fun v => ret (Out.val v) := by
        show (match X f with
          | some g => bd (g args) fun v => ret (Out.val v)
          | none => runCall P (run P X n) f args) = _
        rw [hg]
      rw [e] at h
      obtain ⟨v1, H1, h, h'⟩ := bd_some h
      cases ret_some h'
      exact hX.2 f g hg args H v H' h σ ρ base w args' hσ hwr hf hr
    | none =>
      have e : runStep P X (run P X n) (.call f args) = runCall P (run P X n) f args := by
        show (match X f with
          | some g => bd (g args) fun v => ret (Out.val v)
          | none => runCall P (run P X n) f args) = _
        rw [hg]
      rw [e] at h
      exact runCall_ok h1 (fr_run P hX.1 n) h hσ hwr hf hr
/-- the empty memory -/
def empty : AHeap := { blks := .nil, next := 0, lo := 0, log := [] }
/-- WHAT IS CALCULATED IS WHAT THE PROGRAM DOES -/
theorem calls_of_run (hm : P.follows .mixedOrders = true) (hname : NoNum P) {X : Told} (hX : ExtOK P X) {n : Nat} {f : FuncId} {args : List AVal} {v : AVal} {H H' : AHeap} (h : run P X n (.call f args) H = some (.val v, H')) (σ : Nat → Value) (hσ : One σ) (ρ : Ren) (w : World)
    (hwr : WR σ ρ w.heap.size H w) (hf : Free ρ H.next H'.next) (args' : Array Value) (hr : RelL σ ρ args args'.toList) :
    Calls P f args' w fun e w' => ∃ v' ρ', e = .returned v' ∧ Rel σ ρ' v v' ∧ WR σ ρ' w.heap.size H' w' ∧ Below w.heap.size w w' := by
  have := (run_ok hm hname hX n).2.1 f args H v H' h σ ρ w.heap.size w args' hσ hwr hf hr
  refine callsIn_wide.1 (this.mono ?_)
  rintro e w' ⟨v', ρ', rfl, p, hv⟩
  exact ⟨v', ρ', rfl, hv, p.wr, p.below⟩
theorem wr_empty {w : World} : WR σ (fun _ => none) w.heap.size empty w := by
  refine ⟨fun id b h => ?_, fun id b L h => ?_, fun i j bi bj Li Lj h => ?_, Nat.le_refl _⟩ <;> (rw [show empty.blks = .nil from rfl, Tr.get_nil] at h; cases h)
end
end Go.AM
