/- Part 23 of a calculation in a small memory that is proved to answer as the program does: see the last part. -/
import Derived.Test.YtnbgeelhoakjgaaAm22
namespace Go.AM
open Go Go.RowKit
section
variable {P : Program} {σ : Nat → Value} {ρ : Ren} {base nt : Nat} {H H' : AHeap} {w : World} {T : Tmps} {a : Act} {ih : Task → M Out} {n : Nat}
theorem outVal_some {m : M Out} {v : AVal} (h : outVal m H = some (v, H')) : m H = some (.val v, H') := by
  obtain ⟨o, K, h1, h2⟩ := bd_some h
  cases o with
  | exit e T ms => exact (fail_some h2).elim
  | val u => cases ret_some h2; exact h1
theorem results_run {fn : Func} {tm : Array Value} {vs' : List Value} (h : (fn.results.toList.mapM fun r => (match r with
      | .tmp t => pure (tm.getD t undef)
      | .cell a t => do loadVar t (← asAddr (tm.getD a undef)) : Sem Value)).run P w = .ok vs' w) :
    (results fn tm).run P w = .ok (if h : vs'.toArray.size = 1 then vs'.toArray[0] else .tuple vs'.toArray) w := by
  have e : results fn tm = (do
    let vs ← fn.results.mapM fun r => (match r with
      | .tmp t => pure (tm.getD t undef)
      | .cell a t => do loadVar t (← asAddr (tm.getD a undef)) : Sem Value)
    pure (if h : vs.size = 1 then vs[0] else .tuple vs)) := rfl
  rw [e, Array.mapM_eq_mapM_toList]
  simp only [Sem.run_bind, Sem.run_map, h, Result.andThen_ok, Sem.run_pure]
theorem runCall_ok (hco : CodeOK P n ih) (hfr : ∀ t, Fr (ih t)) {f : FuncId} {args : List AVal} {v : AVal} (h : runCall P ih f args H = some (.val v, H')) {args' : Array Value} (hσ : One σ) (hwr : WR σ ρ base H w) (hf : Free ρ H.next H'.next) (hr : RelL σ ρ args args'.toList) :
    CallsIn Fence.wide 0 P f args' w (ValPost σ ρ base H H' w v) := by
  unfold runCall at h
  cases hfn : P.funcs[f]? with
  | none => simp only [hfn] at h; exact (fail_some h).elim
  | some fn =>
    simp only [hfn] at h
    cases hb : fn.body with
    | none => simp only [hb] at h; exact (fail_some h).elim
    | some c =>
      simp only [hb] at h
      obtain ⟨hle, h⟩ := cond_some h
      have hle : args.length ≤ fn.ntmps := by simpa [Nat.ble_eq] using hle
      obtain ⟨o, K, h1, h2⟩ := bd_some h
      obtain ⟨e, T1, ms1, rfl, k1⟩ := hco _ _ _ _ _ _ _ _ h1
      have m1 := next_of hfr h1
      have key : ∀ a1 w1 ρ1, CodePost σ ρ base fn.ntmps H K w T1 ms1 ρ1 a1 w1 → bd (takeMarks ms1) (fun _ => bd (resultsA P T1 fn.results.toList) fun vs => ret (Out.val (oneV vs))) K = some (Out.val v, H') →
          LeavesInM Fence.wide 0 P fn a1.tmps (ValPost σ ρ base H H' w v) a1.defers .returning w1 := by
        intro a1 w1 ρ1 p1 h3
        obtain ⟨u, K2, h4, h5⟩ := bd_some h3
        obtain ⟨vs, K3, h6, h7⟩ := bd_some h5
        cases ret_some h7
        obtain ⟨n1, k2⟩ := marks_ok (fn := fn) (tmps := a1.tmps) (R := ValPost σ ρ base H H' w (oneV vs)) h4 p1.post.wr p1.defers
        refine k2 fun w2 hw2 hb2 => ?_
        obtain ⟨b1, b2, b3, vs', b4, b5⟩ := results_ok (P := P) p1.tmps hw2 _ K2 _ vs rfl rfl h6
        refine ⟨_, results_run b4, _, ρ1, rfl, ⟨?_, hw2.log b1 b2, p1.post.below.trans hb2⟩, oneV_rel b5⟩
        rw [b3, n1]; exact p1.post.ext
      have hnext : ∀ h3 : bd (takeMarks ms1) (fun _ => bd (resultsA P T1 fn.results.toList) fun vs => ret (Out.val (oneV vs))) K = some (.val v, H'), K.next ≤ H'.next := fun h3 => by
        obtain ⟨es, d, _⟩ := fr_bd (fr_takeMarks ms1) (fun _ => fr_bd (fr_resultsA P T1 fn.results.toList) fun vs => fr_ret (Out.val (oneV vs))) K _ H' h3
        exact d.next
      refine callsIn_of_wp_marks hfn hb trivial ?_ rfl
      have hstart := params_start (nt := fn.ntmps) hr hle
      cases e with
      | exit id => exact (fail_some h2).elim
      | nrm => exact ACode.wp (n := n) (k1 σ ρ base w { tmps := args' ++ Array.replicate (fn.ntmps - args'.size) undef, defers := [] } none _ hσ hwr (hf.left (hnext h2)) hstart rfl rfl fun a1 w1 ρ1 p1 => key a1 w1 ρ1 p1 h2)
      | ret => exact ACode.wp (n := n) (k1 σ ρ base w { tmps := args' ++ Array.replicate (fn.ntmps - args'.size) undef, defers := [] } none _ hσ hwr (hf.left (hnext h2)) hstart rfl rfl fun a1 w1 ρ1 p1 => key a1 w1 ρ1 p1 h2)
end
end Go.AM
