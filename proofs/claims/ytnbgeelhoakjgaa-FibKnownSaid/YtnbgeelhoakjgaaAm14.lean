/- Part 14 of a calculation in a small memory that is proved to answer as the program does: see the last part. -/
import Derived.Test.YtnbgeelhoakjgaaAm13
namespace Go.AM
open Go Go.RowKit

section
variable {P : Program} {σ : Nat → Value} {ρ : Ren} {base : Nat} {H H' : AHeap} {w : World} {nt : Nat} {T : Tmps} {a : Act}
theorem ev_rel {x : Operand} {v : AVal} (h : ev T x = some v) (hT : TRel σ ρ nt T a.tmps) : Rel σ ρ v (a.eval x) := by
  cases x with
  | tmp t =>
    have := hT.at_ t
    unfold tget at this
    simp only [ev] at h
    split at h
    · rename_i u hu; cases h; rw [hu] at this; exact this
    · rename_i hu; cases h; rw [hu] at this; exact this
  | const c => exact ofV_rel 2 c v h
  | global g => cases h
  | func f => cases h; unfold Rel; exact ⟨#[], #[], rfl, .nil, .nil⟩
theorem evs_rel : ∀ {l : List Operand} {vs : List AVal}, evs T l = some vs → TRel σ ρ nt T a.tmps → RelL σ ρ vs (l.map a.eval)
  | [], vs, h, _ => by cases h; exact .nil
  | x :: l, vs, h, hT => by
    unfold evs at h
    split at h
    · cases h
    · rename_i v hv
      split at h
      · cases h
      · rename_i us hus
        cases h
        exact .cons (ev_rel hv hT) (evs_rel hus hT)
theorem evParts_rel : ∀ {l : List (Nat × Operand)} {ps : List (Nat × AVal)}, evParts T l = some ps → TRel σ ρ nt T a.tmps → PRel σ ρ ps (l.map fun (i, x) => (i, a.eval x))
  | [], ps, h, _ => by cases h; exact .nil
  | (i, x) :: l, ps, h, hT => by
    unfold evParts at h
    split at h
    · rename_i v us hv hus
      cases h
      exact .cons (ev_rel hv hT) (evParts_rel hus hT)
    · cases h
theorem opt_rel {x : Option Operand} {v : Option AVal} (h : opt T x = some v) (hT : TRel σ ρ nt T a.tmps) : ORel σ ρ v (x.map a.eval) := by
  cases x with
  | none => cases h; exact .none
  | some x =>
    simp only [opt] at h
    split at h
    · rename_i u hu; cases h; exact .some (ev_rel hu hT)
    · cases h

/-- no function of the program is the one that counts goroutines -/
def NoNum (P : Program) : Prop := ∀ (k : FuncId) (fn : Func), P.funcs[k]? = some fn → fn.name ≠ "runtime.NumGoroutine"
/-- what an operation asks for next -/
def NRel (P : Program) (σ : Nat → Value) (ρ : Ren) (w : World) : ANext → Next → Prop
  | .val v, n => (∃ v', n = .value v' ∧ Rel σ ρ v v') ∨ (n = .skip ∧ v = .undef)
  | .enter f args, n => ∃ args' : Array Value, n = .enter f args' ∧ RelL σ ρ args args'.toList
  | .round l args, n => ∃ (L : Loc) (args' : Array Value), ρ l = some L ∧ RelL σ ρ args args'.toList ∧ (Instr.yield L.blk args').run P w = .ok n w
def OkayN (P : Program) (σ : Nat → Value) (ρ : Ren) (base : Nat) (H H' : AHeap) (w : World) (x : ANext) (r : Result Next) : Prop :=
  ∃ n w' ρ', r = .ok n w' ∧ Ext ρ ρ' H.next H'.next ∧ WR σ ρ' base H' w' ∧ Below base w w' ∧ NRel P σ ρ' w' x n
theorem OkayN.of_val {v : AVal} {s : Sem Value} (h : Okay σ ρ base H H' w (fun ρ' v' => Rel σ ρ' v v') (s.run P w)) : OkayN P σ ρ base H H' w (.val v) ((do pure (.value (← s)) : Sem Next).run P w) := by
  obtain ⟨b, w', ρ', e, x1, x2, x3, r⟩ := h
  exact ⟨.value b, w', ρ', by simp [e], x1, x2, x3, .inl ⟨b, rfl, r⟩⟩
theorem OkayN.pure {v : AVal} {s : Sem Value} {v' : Value} (h : s.run P w = .ok v' w) (hr : Rel σ ρ v v') (hwr : WR σ ρ base H w) : OkayN P σ ρ base H H w (.val v) ((do pure (.value (← s)) : Sem Next).run P w) :=
  .of_val (.same h hwr rfl rfl hr)
theorem isFn_run {k : FuncId} (hname : NoNum P) (h : isFn P k = true) (args : Array Value) (w : World) : (callFunc k args).run P w = .ok (.enter k args) w := by
  unfold isFn at h
  split at h
  · rename_i fn hfn
    have h1 : ¬ fn.name = "runtime.NumGoroutine" := hname k fn hfn
    have h2 : ¬ fn.body = none := by intro e; rw [e] at h; cases h
    simp [callFunc, hfn, h1, h2]
  · cases h
theorem go_ok {k : FuncId} {args : List AVal} {x : ANext} {args' : Array Value} (hname : NoNum P) (h : goA P k args H = some (x, H')) (hr : RelL σ ρ args args'.toList) (hwr : WR σ ρ base H w) :
    OkayN P σ ρ base H H' w x ((callFunc k args').run P w) := by
  obtain ⟨hf, h2⟩ := cond_some h
  cases ret_some h2
  exact ⟨_, w, ρ, isFn_run hname hf args' w, .refl _ _ _, hwr, .refl _ _, args', rfl, hr⟩
theorem meth_ok {t : TypeId} {v : AVal} {name : String} {args : List AVal} {x : ANext} {v' : Value} {args' : List Value} (hname : NoNum P)
    (h : bd (methodA P t v name) (fun p => goA P p.1 (p.2 :: args)) H = some (x, H')) (hv : Rel σ ρ v v') (hr : RelL σ ρ args args') (hwr : WR σ ρ base H w) :
    OkayN P σ ρ base H H' w x ((callMethod (.iface t v') name args'.toArray).run P w) := by
  obtain ⟨p, K, h1, h2⟩ := bd_some h
  obtain ⟨sm, r', e, r⟩ := method_ok (P := P) h1 hv hwr (P.types.size + Made.depth - 1)
  have hd : P.types.size + Made.depth - 1 + 1 = P.types.size + Made.depth := by have : 0 < Made.depth := by decide
                                                                                omega
  rw [hd] at e
  obtain ⟨n, w', ρ', q1, q2, q3, q4, q5⟩ := go_ok (args' := #[r'] ++ args'.toArray) hname h2 (by simpa using RelL.cons r hr) (hwr.log sm.blks sm.lo)
  refine ⟨n, w', ρ', ?_, by rw [← sm.next]; exact q2, q3, q4, q5⟩
  simp only [callMethod, Sem.run_bind, run_program, Result.andThen_ok, e]
  exact q1
theorem builtin_ok {b : Builtin} {ts : Array TypeId} {args : List AVal} {v : AVal} {args' : Array Value} {ty : TypeId} {cs : Array Bool} (h : builtinA P b ts.toList args H = some (v, H')) (hr : RelL σ ρ args args'.toList) (hσ : One σ) (hwr : WR σ ρ base H w) (hf : Free ρ H.next H'.next) :
    OkayN P σ ρ base H H' w (.val v) ((builtin b ts ty cs args').run P w) := by
  obtain ⟨ts⟩ := ts
  obtain ⟨args'⟩ := args'
  simp only at hr h
  unfold builtinA at h
  split at h
  · rename_i st xt s x
    unfold RelL at hr; obtain ⟨s', l1, rfl, hs, hr⟩ := hr
    unfold RelL at hr; obtain ⟨x', l2, rfl, hx, hr⟩ := hr
    unfold RelL at hr; subst hr
    exact .of_val (append_ok h hs hx hσ hwr hf)
  · rename_i t ts x
    unfold RelL at hr; obtain ⟨x', l2, rfl, hx, hr⟩ := hr
    unfold RelL at hr; subst hr
    exact .of_val (len_ok h hx hwr ts)
  · rename_i t ts x
    unfold RelL at hr; obtain ⟨x', l2, rfl, hx, hr⟩ := hr
    unfold RelL at hr; subst hr
    exact .of_val (clear_ok h hx hσ hwr ts)
  · rename_i x xs
    unfold RelL at hr; obtain ⟨x', l2, rfl, hx, hr⟩ := hr
    obtain ⟨r, hr1, hr2⟩ := lift_some h
    cases hr2
    obtain ⟨v', e, r⟩ := min_run (P := P) hr1 hx hr w
    exact .pure (s := Builtin.min_ _ _ _) (by simpa [Builtin.min_] using e) r hwr
  · rename_i x xs
    unfold RelL at hr; obtain ⟨x', l2, rfl, hx, hr⟩ := hr
    obtain ⟨r, hr1, hr2⟩ := lift_some h
    cases hr2
    obtain ⟨v', e, r⟩ := max_run (P := P) hr1 hx hr w
    exact .pure (s := Builtin.max_ _ _ _) (by simpa [Builtin.max_] using e) r hwr
  · rename_i t ts d s
    unfold RelL at hr; obtain ⟨d', l2, rfl, hd, hr⟩ := hr
    unfold RelL at hr; obtain ⟨s', l3, rfl, hs, hr⟩ := hr
    unfold RelL at hr; subst hr
    exact .of_val (copy_ok (ts := ts) h hd hs hσ hwr)
  · rename_i t ts d s
    unfold RelL at hr; obtain ⟨d', l2, rfl, hd, hr⟩ := hr
    unfold RelL at hr; obtain ⟨s', l3, rfl, hs, hr⟩ := hr
    unfold RelL at hr; subst hr
    exact .of_val (delete_ok (ts := ts) h hd hs hwr)
  · exact (fail_some h).elim
theorem yield_ok {l : Nat} {args : List AVal} {x : ANext} {args' : Array Value} {L : Loc} (h : bd (rd l) (fun blk => match blk with
        | .loop _ _ _ _ ps _ _ _ => cond (Nat.beq ps.length args.length) (ret (.round l args)) fail
        | _ => fail) H = some (x, H')) (hL : ρ l = some L) (hr : RelL σ ρ args args'.toList) (hwr : WR σ ρ base H w) :
    OkayN P σ ρ base H H' w x ((Instr.yield L.blk args').run P w) := by
  obtain ⟨blk, K, h1, h2⟩ := bd_some h
  obtain ⟨hb, e1, e2, e3⟩ := rd_some h1
  cases blk with
  | loop st pd nt T ps as bo d =>
    obtain ⟨hl, h3⟩ := cond_some h2
    cases ret_some h3
    have hl := Nat.eq_of_beq_eq_true hl
    obtain ⟨L', hL', fn, tm, D, _, q2, _⟩ := hwr.blk l _ hb
    rw [hL] at hL'; cases hL'
    have hsz : args'.size = ps.length := by have := hr.length; simp at this; omega
    have hrun : ∃ n, (Instr.yield L.blk args').run P w = .ok n w := by
      refine ⟨.round L.blk fn ((ps.toArray.zip args').foldl (fun tmps (x : Tmp × Value) => tmps.setIfInBounds x.1 x.2) tm) as bo, ?_⟩
      simp only [Instr.yield, Instr.getLoop, getObj, Sem.run_bind, Sem.run, q2, Result.andThen_ok]
      simp [hsz]
    obtain ⟨n, hn⟩ := hrun
    exact ⟨n, w, ρ, hn, by rw [← e3]; exact .refl _ _ _, hwr.log e1 e2, .refl _ _, L, args', hL, hr, hn⟩
  | _ => exact (fail_some h2).elim
theorem inv_method (name : String) (cap : Array Value) (v : Value) (X : Array Value) (w : World) : (invoke (.fn (.method name) cap) (#[v] ++ X)).run P w = (callMethod v name X).run P w := by
  have e0 : (#[v] ++ X)[0]? = some v := by rw [Array.getElem?_append_left (by simp)]; rfl
  have e1 : (#[v] ++ X).extract 1 (#[v] ++ X).size = X := by
    apply Array.ext'
    rw [Array.toList_extract]
    simp only [List.extract_eq_take_drop, Array.toList_append, List.singleton_append, List.drop_succ_cons, List.drop_zero, Array.size_append]
    rw [List.take_of_length_le (by simp)]
  simp only [invoke, e0, e1]
theorem call_ok {c : Call} {x : ANext} {ty : TypeId} (hname : NoNum P) (h : callA P T c H = some (x, H')) (hT : TRel σ ρ nt T a.tmps) (hσ : One σ) (hwr : WR σ ρ base H w) (hf : Free ρ H.next H'.next) :
    OkayN P σ ρ base H H' w x ((do let d ← resolve a.eval c ty; invoke d.target d.args : Sem Next).run P w) := by
  unfold callA at h
  generalize hargs : evs T c.args.toList = ao at h
  cases ao with
  | none => exact (fail_some h).elim
  | some args =>
    have hr := evs_rel hargs hT
    have hr' : RelL σ ρ args (c.args.map a.eval).toList := by simpa using hr
    simp only at h
    cases hc : c.callee with
    | builtin b =>
      simp only [hc] at h
      obtain ⟨v, K, h1, h2⟩ := bd_some h
      cases ret_some h2
      simp only [resolve, hc, invoke, Sem.run_bind, Sem.run_pure, Result.andThen_ok]
      exact builtin_ok (P := P) h1 hr' hσ hwr hf
    | invoke r name =>
      simp only [hc] at h
      generalize hrv : ev T r = rv at h
      split at h
      · rename_i t v
        have hv := ev_rel (a := a) hrv hT
        unfold Rel at hv
        obtain ⟨v', he, hv⟩ := hv
        have := meth_ok (P := P) hname h hv hr hwr
        simp only [resolve, hc, he, Sem.run_bind, Sem.run_pure, Result.andThen_ok, inv_method]
        have e : (List.map a.eval c.args.toList).toArray = Array.map a.eval c.args := by apply Array.ext'; simp
        rw [e] at this; exact this
      · exact (fail_some h).elim
    | value f =>
      simp only [hc] at h
      generalize hfv : ev T f = fv at h
      split at h
      · rename_i k first cap
        have hv := ev_rel (a := a) hfv hT
        unfold Rel at hv
        obtain ⟨fs, cs, he, h1, h2⟩ := hv
        have := go_ok (args' := fs ++ c.args.map a.eval ++ cs) hname h (by simpa using (h1.append hr).append h2) hwr
        simp only [resolve, hc, he, Deferred.ofValue, invoke, Sem.run_bind, Sem.run_pure, Result.andThen_ok]
        exact this
      · rename_i name t v cap
        have hv := ev_rel (a := a) hfv hT
        unfold Rel at hv
        obtain ⟨fs, cs, he, h1, h2⟩ := hv
        unfold RelL at h1
        obtain ⟨y, ys, hfs, h1, h3⟩ := h1
        unfold RelL at h3; subst h3
        unfold Rel at h1
        obtain ⟨v', rfl, h1⟩ := h1
        have hfs' : fs = #[.iface t v'] := by apply Array.ext'; rw [hfs]
        subst hfs'
        have := meth_ok (P := P) hname h h1 hr hwr
        simp only [resolve, hc, he, Deferred.ofValue, Sem.run_bind, Sem.run_pure, Result.andThen_ok, inv_method]
        have e : (List.map a.eval c.args.toList).toArray = Array.map a.eval c.args := by apply Array.ext'; simp
        rw [e] at this; exact this
      · rename_i l
        have hv := ev_rel (a := a) hfv hT
        unfold Rel at hv
        obtain ⟨L, hL, he⟩ := hv
        have := yield_ok (P := P) h hL hr' hwr
        simp only [resolve, hc, he, Deferred.ofValue, invoke, Sem.run_bind, Sem.run_pure, Result.andThen_ok]
        simpa using this
      · exact (fail_some h).elim
end
end Go.AM
