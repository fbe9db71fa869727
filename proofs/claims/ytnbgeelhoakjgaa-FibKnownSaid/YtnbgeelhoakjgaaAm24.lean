/- Part 24 of a calculation in a small memory that is proved to answer as the program does: see the last part. -/
import Derived.Test.YtnbgeelhoakjgaaAm23
namespace Go.AM
open Go Go.RowKit
section
variable {P : Program} {σ : Nat → Value} {ρ : Ren} {base nt : Nat} {H H' : AHeap} {w : World} {T : Tmps} {a : Act} {ih : Task → M Out} {n : Nat}
theorem Post.trans {ρ1 ρ2 : Ren} {K : AHeap} {w1 w2 : World} (h : Post σ ρ ρ1 base H K w w1) (k : Post σ ρ1 ρ2 base K H' w1 w2) (m1 : H.next ≤ K.next) (m2 : K.next ≤ H'.next) : Post σ ρ ρ2 base H H' w w2 :=
  ⟨h.ext.trans k.ext m1 m2, k.wr, h.below.trans k.below⟩
theorem Post.of_same {ρ' : Ren} {K : AHeap} {w1 : World} (h : Post σ ρ ρ' base H K w w1) (hb : H'.blks = K.blks) (hl : H'.lo = K.lo) (hn : H'.next = K.next) : Post σ ρ ρ' base H H' w w1 :=
  ⟨by rw [hn]; exact h.ext, h.wr.log hb hl, h.below⟩
/-- a loop's record is turned -/
theorem turn_ok {l : Nat} {L : Loc} {st st2 : LoopState} {pd pd2 : Option Code} {nt2 : Nat} {T2 : Tmps} {ps : List Tmp} {as bo : Code} {d : Nat} {u : Unit} (hwr : WR σ ρ base H w) (hL : ρ l = some L)
    (hb : H.blks.get l = some (.loop st pd nt2 T2 ps as bo d)) (h : wr l (.loop st2 pd2 nt2 T2 ps as bo d) H = some (u, H')) :
    H'.next = H.next ∧ ∃ r : Loop, w.heap[L.blk]? = some (.loop r) ∧ r.state = st ∧ r.pending = pd ∧ WR σ ρ base H' (w.putObj L.blk (.loop { r with state := st2, pending := pd2 })) ∧ Below base w (w.putObj L.blk (.loop { r with state := st2, pending := pd2 })) := by
  obtain ⟨hlo, ⟨b0, hb0⟩, hk, hkl, hkn⟩ := wr_some h
  obtain ⟨L', hL', fn, tm, D, q1, q2, q3⟩ := hwr.blk l _ hb
  rw [hL] at hL'; cases hL'
  refine ⟨hkn, _, q2, rfl, rfl, ?_⟩
  exact hwr.put (b := .loop st2 pd2 nt2 T2 ps as bo d) hb hL hlo (putObj_upd _ q2) ⟨fn, tm, D, q1, rfl, q3⟩ hk hkl
theorem endRound_ok {l : Nat} {L : Loc} {e : AExit} {v : AVal} (hwr : WR σ ρ base H w) (hL : ρ l = some L) (h : endRoundA l e H = some (.val v, H')) (Q : Act) :
    H'.next = H.next ∧ ∀ R : Ending → World → Prop, (∀ v' w', WR σ ρ base H' w' → Below base w w' → Rel σ ρ v v' → R (.returned v') w') → roundPost P L.blk R (exitE e) Q w := by
  obtain ⟨blk, K, h1, h2⟩ := bd_some h
  obtain ⟨hb, e1, e2, e3⟩ := rd_some h1
  cases blk with
  | loop st pd nt2 T2 ps as bo d =>
    have hwr' : WR σ ρ base K w := hwr.log e1 e2
    have hb' : K.blks.get l = some (.loop st pd nt2 T2 ps as bo d) := by rw [e1]; exact hb
    cases e with
    | nrm =>
      obtain ⟨u, K2, h3, h4⟩ := bd_some h2
      cases ret_some h4
      obtain ⟨n1, r, q1, q2, q3, q4, q5⟩ := turn_ok hwr' hL hb' h3
      exact ⟨n1.trans e3, fun R k => ⟨_, _, run_endRound none q1, k _ _ q4 q5 (by unfold Rel; rfl)⟩⟩
    | ret =>
      obtain ⟨u, K2, h3, h4⟩ := bd_some h2
      cases ret_some h4
      obtain ⟨n1, r, q1, q2, q3, q4, q5⟩ := turn_ok hwr' hL hb' h3
      exact ⟨n1.trans e3, fun R k => ⟨_, _, run_endRound (some .ret) q1, k _ _ q4 q5 (by unfold Rel; rfl)⟩⟩
    | exit id =>
      obtain ⟨u, K2, h3, h4⟩ := bd_some h2
      cases ret_some h4
      obtain ⟨n1, r, q1, q2, q3, q4, q5⟩ := turn_ok hwr' hL hb' h3
      exact ⟨n1.trans e3, fun R k => ⟨_, _, run_endRound (some (.exit id)) q1, k _ _ q4 q5 (by unfold Rel; rfl)⟩⟩
  | _ => exact (fail_some h2).elim
theorem begin_ok {l : Nat} {L : Loc} {u : Unit} (hwr : WR σ ρ base H w) (hL : ρ l = some L) (h : beginA l H = some (u, H')) :
    H'.next = H.next ∧ ∃ w', (Instr.beginRound L.blk).run P w = .ok () w' ∧ WR σ ρ base H' w' ∧ Below base w w' := by
  obtain ⟨blk, K, h1, h2⟩ := bd_some h
  obtain ⟨hb, e1, e2, e3⟩ := rd_some h1
  cases blk with
  | loop st pd nt2 T2 ps as bo d =>
    cases st with
    | ready =>
      obtain ⟨n1, r, q1, q2, q3, q4, q5⟩ := turn_ok (hwr.log (K := K) e1 e2) hL (by rw [e1]; exact hb) h2
      refine ⟨n1.trans e3, _, run_beginRound q1 q2, ?_, ?_⟩
      · have : { r with state := LoopState.busy, pending := pd } = { r with state := LoopState.busy } := by rw [← q3]
        rw [this] at q4; exact q4
      · have : { r with state := LoopState.busy, pending := pd } = { r with state := LoopState.busy } := by rw [← q3]
        rw [this] at q5; exact q5
    | _ => exact (fail_some h2).elim
  | _ => exact (fail_some h2).elim
theorem runRound_ok (hco : CodeOK P n ih) (hfr : ∀ t, Fr (ih t)) {l : Nat} {args : List AVal} {v : AVal} (h : runRound ih l args H = some (.val v, H')) {args' : Array Value} {L : Loc} {nx : Next} (hσ : One σ) (hwr : WR σ ρ base H w) (hf : Free ρ H.next H'.next) (hL : ρ l = some L) (hr : RelL σ ρ args args'.toList)
    (hy : (Instr.yield L.blk args').run P w = .ok nx w) : ∃ fn tm as bo, nx = .round L.blk fn tm as bo ∧ RoundIn Fence.wide 0 P L.blk fn tm as bo w (ValPost σ ρ base H H' w v) := by
  obtain ⟨blk, K, h1, h2⟩ := bd_some h
  obtain ⟨hb, e1, e2, e3⟩ := rd_some h1
  cases blk with
  | loop st pd nt2 T0 ps as bo d =>
    obtain ⟨L', hL', fn, tm, D, q1, q2, q3⟩ := hwr.blk l _ hb
    rw [hL] at hL'; cases hL'
    simp only at h2
    cases hs : setParams nt2 T0 ps args with
    | none => simp only [hs] at h2; exact (fail_some h2).elim
    | some T1 =>
      simp only [hs] at h2
      have hsz : args'.size = ps.length := by
        have h1 : ∀ (ps : List Tmp) (args : List AVal) (T T' : Tmps), setParams nt2 T ps args = some T' → args.length = ps.length := by
          intro ps
          induction ps with
          | nil => intro args T T' h; cases args with | nil => rfl | cons x xs => cases h
          | cons p ps ih2 =>
            intro args T T' h
            cases args with
            | nil => cases h
            | cons x xs => simp only [setParams] at h; obtain ⟨_, h⟩ := condO_some h; simp [ih2 xs _ _ h]
        have := h1 ps args T0 T1 hs
        have := hr.length
        simp at this; omega
      rw [run_yield q2 (by simpa using hsz)] at hy
      cases hy
      refine ⟨_, _, _, _, rfl, ?_⟩
      obtain ⟨o, K1, h3, h4⟩ := bd_some h2
      have m1 := next_of hfr h3
      obtain ⟨e, T2, ms2, rfl, k1⟩ := hco _ _ _ _ _ _ _ _ h3
      cases e with
      | ret => exact (fail_some h4).elim
      | exit id => exact (fail_some h4).elim
      | nrm =>
        cases ms2 with
        | cons m ms => exact (fail_some h4).elim
        | nil =>
          obtain ⟨u, K2, h5, h6⟩ := bd_some h4
          obtain ⟨o, K3, h7, h8⟩ := bd_some h6
          have m3 := next_of hfr h7
          obtain ⟨e, T3, ms3, rfl, k2⟩ := hco _ _ _ _ _ _ _ _ h7
          have h8 : endRoundA l e K3 = some (.val v, H') := h8
          have n2 : K2.next = K1.next := by
            obtain ⟨blk, A, g1, g2⟩ := bd_some h5
            obtain ⟨_, _, _, e3⟩ := rd_some g1
            split at g2
            · obtain ⟨_, _, _, _, e4⟩ := wr_some g2; rw [e4, e3]
            · exact (fail_some g2).elim
          have m4 : K3.next ≤ H'.next := by
            obtain ⟨es, d, _⟩ := fr_endRoundA l e K3 _ H' h8
            exact d.next
          have htm : TRel σ ρ nt2 T1 ((ps.toArray.zip args').foldl (fun tmps (x : Tmp × Value) => tmps.setIfInBounds x.1 x.2) tm) := by
            have := setParams_rel ps args args'.toList T0 T1 tm hs q3 hr
            rw [← Array.foldl_toList]
            simpa using this
          have hwrK : WR σ ρ base K w := hwr.log e1 e2
          refine roundIn_of_wpIn trivial ?_
          have := k1 σ ρ base w { tmps := ((ps.toArray.zip args').foldl (fun tmps (x : Tmp × Value) => tmps.setIfInBounds x.1 x.2) tm), defers := [] } (some L.blk)
            (Exit.then (fun a₁ w₁ => ∃ w₂, (Instr.beginRound L.blk).run P w₁ = .ok () w₂ ∧ bo.wpIn (Fence.wide.inRound L.blk) 0 P (roundPost P L.blk (ValPost σ ρ base H H' w v)) a₁ w₂) (fun _ _ _ => False))
            hσ hwrK (by rw [e3]; exact hf.left (by omega)) htm ⟨L, hL, rfl⟩ rfl ?_
          · exact this.wp
          · intro a1 w1 ρ1 p1
            have hL1 : ρ1 l = some L := p1.post.ext.le _ _ hL
            obtain ⟨n3, w2, g1, g2, g3⟩ := begin_ok (P := P) p1.post.wr hL1 h5
            refine ⟨w2, g1, ?_⟩
            have hf1 : Free ρ1 K1.next H'.next := p1.post.ext.free (by rw [e3]; exact hf) m1
            have := k2 σ ρ1 base w2 a1 (some L.blk) (roundPost P L.blk (ValPost σ ρ base H H' w v)) hσ g2 (by rw [n2]; exact hf1.left m4) p1.tmps ⟨L, hL1, rfl⟩ p1.defers ?_
            · exact this.wp
            · intro a3 w3 ρ3 p3
              have hL3 : ρ3 l = some L := p3.post.ext.le _ _ hL1
              obtain ⟨n4, k3⟩ := endRound_ok (P := P) (v := v) p3.post.wr hL3 h8 a3
              refine k3 _ fun v' w' x1 x2 x3 => ⟨v', ρ3, rfl, ⟨?_, x1, ?_⟩, x3⟩
              · rw [n4]
                have y1 : Ext ρ ρ1 H.next K1.next := by rw [← e3]; exact p1.post.ext
                have y2 : Ext ρ1 ρ3 K1.next K3.next := by rw [← n2]; exact p3.post.ext
                exact y1.trans y2 (by omega) (by omega)
              · exact ((p1.post.below.trans g3).trans p3.post.below).trans x2
  | _ => exact (fail_some h2).elim
end
end Go.AM
