/- Part 17 of a calculation in a small memory that is proved to answer as the program does: see the last part. -/
import Derived.Test.YtnbgeelhoakjgaaAm16
namespace Go.AM
open Go Go.RowKit

/-! ### the work hangs on the slots that are looked at -/
theorem ev_tget (T : Tmps) (t : Tmp) : ev T (.tmp t) = some (tget T t) := by simp only [ev, tget]; cases T.get t <;> rfl
def EvSame (T T' : Tmps) (x : Operand) : Prop := ev T x = ev T' x
theorem evs_congr {T T' : Tmps} : ∀ {l : List Operand}, (∀ x ∈ l, ev T x = ev T' x) → evs T l = evs T' l
  | [], _ => rfl
  | x :: l, h => by unfold evs; rw [h x (by simp), evs_congr (fun y hy => h y (by simp [hy]))]
theorem evParts_congr {T T' : Tmps} : ∀ {l : List (Nat × Operand)}, (∀ x ∈ l.map (·.2), ev T x = ev T' x) → evParts T l = evParts T' l
  | [], _ => rfl
  | (i, x) :: l, h => by unfold evParts; rw [h x (by simp), evParts_congr (fun y hy => h y (by simp at hy ⊢; exact .inr hy))]
theorem opt_congr {T T' : Tmps} {x : Option Operand} (h : ∀ y, x = some y → ev T y = ev T' y) : opt T x = opt T' x := by
  cases x with
  | none => rfl
  | some y => simp only [opt]; rw [h y rfl]
theorem callA_congr {P : Program} {T T' : Tmps} {c : Call} (h : ∀ x ∈ c.operands, ev T x = ev T' x) : callA P T c = callA P T' c := by
  have h1 : evs T c.args.toList = evs T' c.args.toList := evs_congr fun x hx => h x (by simp [Call.operands]; right; simpa using hx)
  unfold callA
  rw [h1]
  cases hc : c.callee with
  | builtin b => rfl
  | invoke r n => dsimp only; rw [h r (by simp [Call.operands, hc])]
  | value f => dsimp only; rw [h f (by simp [Call.operands, hc])]
theorem opA_congr {P : Program} {T T' : Tmps} {o : Op} (h : ∀ x ∈ o.operands, ev T x = ev T' x) : opA P T o = opA P T' o := by
  cases o <;> simp only [Op.operands] at h <;> unfold opA <;> simp only
  case build t ps => rw [evParts_congr (T := T) (T' := T') (fun x hx => h x (by simpa using hx))]
  case buildSlice t n ps => rw [evParts_congr (T := T) (T' := T') (fun x hx => h x (by simpa using hx))]
  case makeFunc f a b => rw [evs_congr (T := T) (T' := T') (l := a.toList) (fun x hx => h x (by simp at hx ⊢; exact .inl hx)), evs_congr (T := T) (T' := T') (l := b.toList) (fun x hx => h x (by simp at hx ⊢; exact .inr hx))]
  case call c => exact callA_congr h
  case slice t x lo hi mx =>
    rw [h x (by simp), opt_congr (T := T) (T' := T') (x := lo) (fun y hy => h y (by simp [hy])), opt_congr (T := T) (T' := T') (x := hi) (fun y hy => h y (by simp [hy])), opt_congr (T := T) (T' := T') (x := mx) (fun y hy => h y (by simp [hy]))]
  all_goals first
    | rfl
    | (simp only [h _ (by simp : _ ∈ _)]; done)
    | (rename_i x y; rw [h x (by simp), h y (by simp)]; done)
    | (rename_i x y z; rw [h x (by simp), h y (by simp), h z (by simp)]; done)
    | (rename_i x; rw [h x (by simp)]; done)
    | skip
  case binOp op ty x y yt => rw [h x (by simp), h y (by simp)]
  case fieldAddr ty x f => rw [h x (by simp)]
  case field ty x f => rw [h x (by simp)]
  case typeAssert x a b c => rw [h x (by simp)]
  case extract x i => rw [h x (by simp)]
  case makeMap t r => rw [opt_congr (T := T) (T' := T') (x := r) (fun y hy => h y (by simp [hy]))]
  case lookup t x k ok => rw [h x (by simp), h k (by simp)]
theorem valOp_congr {P : Program} {ih : Task → M Out} {ops : Array Oper} {o : Oper} {T T' : Tmps} (h : ∀ t ∈ o.looksAt ops, tget T t = tget T' t) : valOp P ih ops.toList o T = valOp P ih ops.toList o T' := by
  have hev : ∀ x ∈ o.op.operands, ev T x = ev T' x := by
    intro x hx
    cases x with
    | tmp t => rw [ev_tget, ev_tget, h t (List.mem_append_left _ (List.mem_filterMap.2 ⟨.tmp t, by simpa using hx, rfl⟩))]
    | _ => rfl
  have hw : wantedA ops.toList T o.guard = wantedA ops.toList T' o.guard := by
    unfold wantedA
    cases hg : o.guard with
    | none => rfl
    | some g =>
      obtain ⟨j, want⟩ := g
      dsimp only
      cases hj : ops.toList[j]? with
      | none => rfl
      | some oj =>
        dsimp only
        cases hd : oj.dst with
        | none => rfl
        | some d =>
          dsimp only
          have hj' : ops[j]? = some oj := by rw [← Array.getElem?_toList]; exact hj
          have := h d (List.mem_append_right _ (by simp [hg, hj', hd]))
          unfold tget at this
          cases h1 : T.get d with
          | none =>
            cases h2 : T'.get d with
            | none => rfl
            | some y => rw [h1, h2] at this; simp [AVal.undef] at this; subst this; rfl
          | some x =>
            cases h2 : T'.get d with
            | none => rw [h1, h2] at this; simp [AVal.undef] at this; subst this; rfl
            | some y => rw [h1, h2] at this; simp at this; subst this; rfl
  unfold valOp
  rw [hw, opA_congr hev]

/-! ### which operations come before which -/
def orStep (acc : List Nat) (s : Nat) (e : Edge) : Nat := cond (Region.binds .any e) (s ||| (2 ^ e.on ||| acc.getD e.on 0)) s
theorem orFold (acc : List Nat) : ∀ (l : List Edge) (s i : Nat), Nat.testBit (l.foldl (orStep acc) s) i = true → Nat.testBit s i = true ∨ ∃ e ∈ l, Region.binds .any e = true ∧ (e.on = i ∨ Nat.testBit (acc.getD e.on 0) i = true)
  | [], s, i, h => .inl h
  | e :: l, s, i, h => by
    rcases orFold acc l _ i h with h | ⟨e', he, hb⟩
    · unfold orStep at h
      cases hb : Region.binds .any e with
      | false => rw [hb] at h; exact .inl h
      | true =>
        rw [hb] at h
        simp only [cond_true, Nat.testBit_or, Bool.or_eq_true] at h
        rcases h with h | h | h
        · exact .inl h
        · refine .inr ⟨e, by simp, hb, .inl ?_⟩
          rw [Nat.testBit_two_pow] at h; simpa using h
        · exact .inr ⟨e, by simp, hb, .inr h⟩
    · exact .inr ⟨e', by simp [he], hb⟩
theorem masks_spec : ∀ (os : List Oper) (acc : List Nat), ∃ L : List Nat, masks os acc = acc ++ L ∧ L.length = os.length ∧
    ∀ j o, os[j]? = some o → ∃ pre : List Nat, (∀ k, k < acc.length + j → pre[k]? = (acc ++ L)[k]?) ∧ pre.length = acc.length + j ∧ L[j]? = some (o.after.toList.foldl (orStep pre) 0) := by
  intro os
  induction os with
  | nil => intro acc; exact ⟨[], by simp [masks], rfl, fun j o h => by simp at h⟩
  | cons o os ih =>
    intro acc
    obtain ⟨L, h1, h2, h3⟩ := ih (acc ++ [o.after.toList.foldl (orStep acc) 0])
    refine ⟨o.after.toList.foldl (orStep acc) 0 :: L, ?_, by simp [h2], fun j q hq => ?_⟩
    · show masks os (acc ++ [_]) = _
      rw [show (acc ++ [o.after.toList.foldl (fun s e => cond (Region.binds .any e) (s ||| (2 ^ e.on ||| acc.getD e.on 0)) s) 0]) = acc ++ [o.after.toList.foldl (orStep acc) 0] from rfl, h1]
      simp
    · cases j with
      | zero =>
        simp at hq; subst hq
        exact ⟨acc, fun k hk => by rw [List.getElem?_append_left (by omega)], by simp, by simp⟩
      | succ j =>
        simp at hq
        obtain ⟨pre, p1, p2, p3⟩ := h3 j q hq
        refine ⟨pre, fun k hk => ?_, by rw [p2]; simp; omega, by simpa using p3⟩
        rw [p1 k (by simp; omega)]; simp
/-- a bit that is set stands for an operation in each set that is closed and holds what this one waits for -/
theorem mask_closed {ops : Array Oper} (hb : ∀ (j : Nat) (o : Oper), ops[j]? = some o → ∀ e ∈ o.after, Region.binds .any e = true → e.on < j) (X : Nat → Prop)
    (hX : ∀ (j : Nat) (o : Oper), ops[j]? = some o → X j → ∀ e ∈ o.after, Region.binds .any e = true → X e.on) :
    ∀ (j : Nat) (o : Oper) (mk i : Nat), ops[j]? = some o → (masks ops.toList [])[j]? = some mk → Nat.testBit mk i = true → (∀ e ∈ o.after, Region.binds .any e = true → X e.on) → X i := by
  obtain ⟨L, h1, h2, h3⟩ := masks_spec ops.toList []
  rw [h1]
  simp only [List.nil_append] at h3 ⊢
  intro j
  induction j using Nat.strongRecOn with
  | _ j ih =>
    intro o mk i ho hmk hbit hready
    obtain ⟨pre, p1, p2, p3⟩ := h3 j o (by rw [Array.getElem?_toList]; exact ho)
    rw [p3] at hmk; cases hmk
    rcases orFold pre _ _ _ hbit with h | ⟨e, he, hbe, h⟩
    · simp at h
    · have he' : e ∈ o.after := Array.mem_def.2 he
      rcases h with rfl | h
      · exact hready e he' hbe
      · have hlt := hb j o ho e he' hbe
        have hXe := hready e he' hbe
        have hge : e.on < ops.size := by have := (Array.getElem?_eq_some_iff.1 ho).1; omega
        have hoe : ops[e.on]? = some ops[e.on] := Array.getElem?_eq_getElem hge
        have hm : L[e.on]? = some (pre.getD e.on 0) := by
          rw [← p1 e.on (by simp at p2 ⊢; omega)]
          have : e.on < pre.length := by simp at p2; omega
          simp [List.getD_eq_getElem?_getD, List.getElem?_eq_getElem this]
        exact ih e.on hlt _ _ i hoe hm h (hX e.on _ hoe hXe)
theorem backEdges_spec : ∀ (l : List Oper) (i : Nat), backEdges l i = true → ∀ j o, l[j]? = some o → ∀ e ∈ o.after, Region.binds .any e = true → e.on < i + j
  | [], _, _, j, o, h => by simp at h
  | p :: l, i, h, j, o, ho => by
    simp only [backEdges, Bool.and_eq_true] at h
    cases j with
    | zero =>
      simp at ho; subst ho
      intro e he hb
      have := List.all_eq_true.1 h.1 e (Array.mem_def.1 he)
      simp only [hb, Bool.not_true, Bool.false_or, Nat.blt_eq] at this
      omega
    | succ j =>
      simp at ho
      intro e he hb
      have := backEdges_spec l (i + 1) h.2 j o ho e he hb
      omega
theorem clash_spec {a b : List (Nat × Bool)} (h : clash a b = false) : ∀ id x y, (id, x) ∈ a → (id, y) ∈ b → x = false ∧ y = false := by
  have c1 : ∀ (e : Nat × Bool) (fs : List (Nat × Bool)), clash1 e fs = false → ∀ y, (e.1, y) ∈ fs → e.2 = false ∧ y = false := by
    intro e fs
    induction fs with
    | nil => intro _ y hy; cases hy
    | cons f fs ih =>
      intro h y hy
      simp only [clash1, Bool.or_eq_false_iff, Bool.and_eq_false_iff] at h
      rcases List.mem_cons.1 hy with rfl | hy
      · rcases h.1 with h | h
        · simp at h
        · exact h
      · exact ih h.2 y hy
  induction a with
  | nil => intro id x y hx; cases hx
  | cons e es ih =>
    intro id x y hx hy
    simp only [clash, Bool.or_eq_false_iff] at h
    rcases List.mem_cons.1 hx with rfl | hx
    · exact c1 _ _ h.1 y hy
    · exact ih h.2 id x y hx hy
theorem against_spec {all : Array Oper} {o : Oper} {mk : Nat} {es : List (Nat × Bool)} : ∀ (l : List (Oper × List (Nat × Bool))) (i : Nat), against all o mk es l i = true →
    ∀ j p, l[j]? = some p → Nat.testBit mk (i + j) = true ∨ (Oper.apart all p.1 o = true ∧ clash p.2 es = false)
  | [], _, _, j, p, h => by simp at h
  | q :: l, i, h, j, p, hp => by
    simp only [against, Bool.and_eq_true, Bool.or_eq_true, Bool.not_eq_true'] at h
    cases j with
    | zero => simp at hp; subst hp; exact h.1
    | succ j =>
      simp at hp
      have := against_spec l (i + 1) h.2 j p hp
      rw [show i + (j + 1) = i + 1 + j from by omega]; exact this
end Go.AM
