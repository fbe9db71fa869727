/- Part 21 of a calculation in a small memory that is proved to answer as the program does: see the last part. -/
import Derived.Test.YtnbgeelhoakjgaaAm20
import Derived.RangeFuncLeaves
import Derived.RangeFuncNested
import Derived.LoopNIn
namespace Go.AM
open Go Go.RowKit
section
variable {P : Program} {σ : Nat → Value} {ρ : Ren} {base nt : Nat} {H H' : AHeap} {w : World} {T : Tmps}

theorem putObj_upd {B : Nat} {o0 : Obj} (o : Obj) (h : w.heap[B]? = some o0) : Upd w B o (w.putObj B o) :=
  ⟨rfl, rfl, rfl, by simp, World.putObj_heap_same (lt_of_get h), fun _ hk => World.putObj_heap_other hk⟩
/-- the marks among the deferred calls -/
def DRel (ρ : Ren) : List Nat → List Deferred → Prop
  | [], ds => ds = []
  | m :: ms, ds => ∃ L ds', ρ m = some L ∧ ds = { target := .collected L.blk, args := #[] } :: ds' ∧ DRel ρ ms ds'
theorem DRel.mono {ρ ρ' : Ren} (h : Le ρ ρ') : ∀ {ms : List Nat} {ds : List Deferred}, DRel ρ ms ds → DRel ρ' ms ds
  | [], _, r => r
  | _ :: _, _, r => by unfold DRel at r ⊢; obtain ⟨L, ds', h1, h2, h3⟩ := r; exact ⟨L, ds', h _ _ h1, h2, DRel.mono h h3⟩
theorem DRel.append {ms ms' : List Nat} {ds ds' : List Deferred} (h : DRel ρ ms ds) (k : DRel ρ ms' ds') : DRel ρ (ms ++ ms') (ds ++ ds') := by
  induction ms generalizing ds with
  | nil => unfold DRel at h; subst h; exact k
  | cons m ms ih => unfold DRel at h; obtain ⟨L, es, h1, rfl, h3⟩ := h; show DRel ρ (m :: (ms ++ ms')) _; unfold DRel; exact ⟨L, es ++ ds', h1, rfl, ih h3⟩
theorem marks_ok {fn : Func} {tmps : Array Value} {R : Ending → World → Prop} : ∀ {ms : List Nat} {ds : List Deferred} {H H' : AHeap} {w : World}, takeMarks ms H = some ((), H') → WR σ ρ base H w → DRel ρ ms ds →
    H'.next = H.next ∧ ((∀ w', WR σ ρ base H' w' → Below base w w' → LeavesInM Fence.wide 0 P fn tmps R [] .returning w') → LeavesInM Fence.wide 0 P fn tmps R ds .returning w)
  | [], ds, H, H', w, h, hwr, hd => by
    cases ret_some h
    unfold DRel at hd; subst hd
    exact ⟨rfl, fun k => k w hwr (.refl _ _)⟩
  | m :: ms, ds, H, H', w, h, hwr, hd => by
    unfold DRel at hd
    obtain ⟨L, ds', hL, rfl, hd⟩ := hd
    obtain ⟨blk, K, h1, h2⟩ := bd_some h
    obtain ⟨hb, e1, e2, e3⟩ := rd_some h1
    cases blk with
    | deferred b =>
      cases b with
      | false => exact (fail_some h2).elim
      | true =>
        obtain ⟨u, K2, h3, h4⟩ := bd_some h2
        obtain ⟨hlo, ⟨b0, hb0⟩, hk, hkl, hkn⟩ := wr_some h3
        obtain ⟨L', hL', hobj⟩ := hwr.blk m _ hb
        rw [hL] at hL'; cases hL'
        have hobj : w.heap[L.blk]? = some (.deferred (some [])) := hobj
        have hput := hwr.put (K := K2) (b := .deferred false) hb hL (by rw [← e2]; exact hlo) (putObj_upd (.deferred none) hobj) rfl (fun j => by rw [hk, e1]) (hkl.trans e2)
        obtain ⟨n1, k1⟩ := marks_ok (fn := fn) (tmps := tmps) (R := R) h4 hput.1 hd
        refine ⟨n1.trans (hkn.trans e3), fun k => ?_⟩
        unfold LeavesInM
        exact ⟨by simp, .inl ⟨L.blk, _, rfl, run_takeDeferred hobj, k1 fun w' hw' hbl => k w' hw' (hput.2.trans hbl)⟩⟩
    | _ => exact (fail_some h2).elim
theorem results_ok {tm : Array Value} (hT : TRel σ ρ nt T tm) (hwr : WR σ ρ base H w) : ∀ (rs : List ResultVar) (H1 H' : AHeap) (vs : List AVal), H1.blks = H.blks → H1.lo = H.lo → resultsA P T rs H1 = some (vs, H') →
    H'.blks = H.blks ∧ H'.lo = H.lo ∧ H'.next = H1.next ∧ ∃ vs', (rs.mapM fun r => (match r with
      | .tmp t => pure (tm.getD t undef)
      | .cell a t => do loadVar t (← asAddr (tm.getD a undef)) : Sem Value)).run P w = .ok vs' w ∧ RelL σ ρ vs vs'
  | [], H1, H', vs, e1, e2, h => by
    cases ret_some h
    exact ⟨e1, e2, rfl, [], by simp, .nil⟩
  | .tmp t :: rs, H1, H', vs, e1, e2, h => by
    obtain ⟨us, K, h1, h2⟩ := bd_some h
    cases ret_some h2
    obtain ⟨a1, a2, a3, vs', a4, a5⟩ := results_ok hT hwr rs H1 _ us e1 e2 h1
    refine ⟨a1, a2, a3, tm.getD t undef :: vs', by simp only [List.mapM_cons, Sem.run_bind, Sem.run_pure, Result.andThen_ok, a4], .cons ?_ a5⟩
    have := hT.at_ t
    unfold tget at this
    cases hg : T.get t with
    | none => rw [hg] at this; exact this
    | some v => rw [hg] at this; exact this
  | .cell x t :: rs, H1, H', vs, e1, e2, h => by
    unfold resultsA at h
    have hx := hT.at_ x
    unfold tget at hx
    cases hg : T.get x with
    | none => simp only [hg] at h; exact (fail_some h).elim
    | some y =>
      rw [hg] at hx
      simp only [Option.getD_some] at hx
      cases y with
      | ptr b o =>
        simp only [hg] at h
        unfold Rel at hx
        obtain ⟨L, hL, hx⟩ := hx
        obtain ⟨v, K, h1, h2⟩ := bd_some h
        obtain ⟨us, K2, h3, h4⟩ := bd_some h2
        cases ret_some h4
        obtain ⟨b1, b2, b3, v', b4, b5⟩ := loadA_ok (P := P) h1 (hwr.log (K := H1) e1 e2) hL
        obtain ⟨a1, a2, a3, vs', a4, a5⟩ := results_ok hT hwr rs K _ us (b1.trans e1) (b2.trans e2) h3
        refine ⟨a1, a2, a3.trans b3, v' :: vs', ?_, .cons b5 a5⟩
        have ea : (asAddr (tm.getD x undef)).run P w = .ok ⟨L.blk, L.sh + o, none⟩ w := by rw [hx]; rfl
        simp only [List.mapM_cons, Sem.run_bind, ea, Sem.run_pure, Result.andThen_ok, b4, a4]
      | _ => simp only [hg] at h; exact (fail_some h).elim
theorem oneV_rel {vs : List AVal} {vs' : List Value} (h : RelL σ ρ vs vs') : Rel σ ρ (oneV vs) (if h : vs'.toArray.size = 1 then vs'.toArray[0] else .tuple vs'.toArray) := by
  match vs, h with
  | [], h => unfold RelL at h; subst h; show Rel σ ρ (.tup []) _; unfold Rel; exact ⟨#[], rfl, .nil⟩
  | [x], h =>
    unfold RelL at h
    obtain ⟨y, ys, rfl, h1, h2⟩ := h
    unfold RelL at h2; subst h2
    exact h1
  | x :: x2 :: xs, h =>
    have hl := h.length
    rw [dif_neg (by simp at hl ⊢; omega)]
    show Rel σ ρ (.tup (x :: x2 :: xs)) _
    unfold Rel
    exact ⟨_, rfl, h⟩
theorem setParams_rel : ∀ (ps : List Tmp) (args : List AVal) (vs : List Value) (T T' : Tmps) (tm : Array Value), setParams nt T ps args = some T' → TRel σ ρ nt T tm → RelL σ ρ args vs → TRel σ ρ nt T' ((ps.zip vs).foldl (fun tmps (x : Tmp × Value) => tmps.setIfInBounds x.1 x.2) tm)
  | [], [], vs, T, T', tm, h, hT, _ => by cases h; exact hT
  | [], _ :: _, _, _, _, _, h, _, _ => by cases h
  | _ :: _, [], _, _, _, _, h, _, _ => by cases h
  | p :: ps, x :: xs, vs, T, T', tm, h, hT, hr => by
    unfold RelL at hr
    obtain ⟨y, ys, rfl, h1, h2⟩ := hr
    simp only [setParams] at h
    obtain ⟨hp, h⟩ := condO_some h
    have := put_rel (nt := nt) (a := { tmps := tm, defers := [] }) (dst := some p) (v := x) (v' := y) (T' := T.put p (some x)) (by simp [setT, hp]) hT h1
    exact setParams_rel ps xs ys _ T' _ h this h2
theorem params_start {args : List AVal} {args' : Array Value} (hr : RelL σ ρ args args'.toList) (hn : args.length ≤ nt) : TRel σ ρ nt (Tr.ofListAt .nil 0 args) (args' ++ Array.replicate (nt - args'.size) undef) := by
  have hl : args'.size = args.length := by simpa using hr.length
  refine ⟨by simp; omega, fun i => ?_⟩
  unfold tget
  rw [Tr.get_ofListAt, Tr.get_nil]
  by_cases hi : i < args.length
  · rw [if_pos ⟨by omega, by omega⟩]
    have hx : args[i - 0]? = some args[i] := by simp [hi]
    obtain ⟨y, hy, hr⟩ := hr.get i args[i] (by simp [hi])
    have hi' : i < args'.size := by omega
    rw [hx]
    simp only [Option.getD_some]
    have : (args' ++ Array.replicate (nt - args'.size) undef).getD i undef = y := by
      rw [Array.getD_eq_getD_getElem?, Array.getElem?_append_left hi', ← Array.getElem?_toList, hy]; rfl
    rw [this]; exact hr
  · rw [if_neg (by omega)]
    have : (args' ++ Array.replicate (nt - args'.size) undef).getD i undef = undef := by
      rw [Array.getD_eq_getD_getElem?, Array.getElem?_append_right (by omega)]
      rw [Array.getElem?_replicate]
      split <;> rfl
    rw [this]; exact rel_undef
end
end Go.AM
