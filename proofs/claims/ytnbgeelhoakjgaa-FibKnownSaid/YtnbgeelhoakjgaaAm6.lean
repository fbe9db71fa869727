/- Part 6 of a calculation in a small memory that is proved to answer as the program does: see the last part. -/
import Derived.Test.YtnbgeelhoakjgaaAm5
import Derived.ChangeKeysEq
import Derived.MapKept
namespace Go.AM
open Go Go.RowKit

section
variable {P : Program}
/-! ### types -/
theorem sz_run {t : TypeId} {n : Nat} (h : sz P t = some n) (w : World) : (sizeOf t).run P w = .ok n w := by
  unfold sz at h
  cases hi : P.info? t with
  | none => simp [hi] at h
  | some i => simp only [hi, Option.some.injEq] at h; subst h; simp [sizeOf, typeInfo, hi]
theorem info_run {t : TypeId} {i : TypeInfo} (h : P.info? t = some i) (w : World) : (typeInfo t).run P w = .ok i w := by simp [typeInfo, h]
theorem isAgg_run {t : TypeId} {b : Bool} (h : isAggT P t = some b) (w : World) : (isAgg t).run P w = .ok b w := by
  unfold isAggT at h
  cases hu : P.underlying t with
  | none => simp [hu] at h
  | some d =>
    simp only [hu] at h
    cases d <;> simp at h <;> subst h <;> simp [isAgg, run_underlying hu]
theorem ofV_rel {σ : Nat → Value} {ρ : Ren} : ∀ (d : Nat) (v : Value) (x : AVal), ofV d v = some x → Rel σ ρ x v := by
  have mapM : ∀ (d : Nat), (∀ v x, ofV d v = some x → Rel σ ρ x v) → ∀ (l : List Value) (r : List AVal), l.mapM (ofV d) = some r → RelL σ ρ r l := by
    intro d hd l
    induction l with
    | nil => intro r h; simp at h; subst h; exact .nil
    | cons v l ih =>
      intro r h
      rw [List.mapM_cons] at h
      cases h1 : ofV d v with
      | none => simp [h1] at h
      | some x =>
        cases h2 : l.mapM (ofV d) with
        | none => simp [h1, h2] at h
        | some xs => simp [h1, h2] at h; subst h; exact .cons (hd _ _ h1) (ih _ h2)
  intro d
  induction d with
  | zero =>
    intro v x h
    cases v with
    | pointer a => cases a <;> simp [ofV] at h; subst h; unfold Rel; rfl
    | slice a l c =>
      cases a with
      | some a => simp [ofV] at h
      | none => cases l with
        | succ l => simp [ofV] at h
        | zero => cases c with
          | succ c => simp [ofV] at h
          | zero => simp [ofV] at h; subst h; unfold Rel; rfl
    | map r => cases r <;> simp [ofV] at h; subst h; unfold Rel; rfl
    | _ => simp [ofV] at h <;> (try subst h) <;> (try (unfold Rel; rfl))
  | succ d ih =>
    intro v x h
    cases v with
    | pointer a => cases a <;> simp [ofV] at h; subst h; unfold Rel; rfl
    | slice a l c =>
      cases a with
      | some a => simp [ofV] at h
      | none => cases l with
        | succ l => simp [ofV] at h
        | zero => cases c with
          | succ c => simp [ofV] at h
          | zero => simp [ofV] at h; subst h; unfold Rel; rfl
    | map r => cases r <;> simp [ofV] at h; subst h; unfold Rel; rfl
    | agg cs =>
      simp only [ofV, Option.map_eq_some_iff] at h
      obtain ⟨r, h1, rfl⟩ := h
      unfold Rel; exact ⟨cs, rfl, mapM d ih _ _ h1⟩
    | tuple cs =>
      simp only [ofV, Option.map_eq_some_iff] at h
      obtain ⟨r, h1, rfl⟩ := h
      unfold Rel; exact ⟨cs, rfl, mapM d ih _ _ h1⟩
    | _ => simp [ofV] at h <;> (try subst h) <;> (try (unfold Rel; rfl))
theorem zero_run {t : TypeId} {z : AVal} (h : zeroA P t = some z) : ∃ v, (∀ w, (zeroValue t).run P w = .ok v w) ∧ ∀ (σ : Nat → Value) (ρ : Ren), Rel σ ρ z v := by
  unfold zeroA at h
  cases hi : P.info? t with
  | none => simp [hi] at h
  | some i =>
    simp only [hi] at h
    cases hz : i.zero with
    | none => simp [hz] at h
    | some v => simp only [hz] at h; exact ⟨v, fun w => by simp [zeroValue, typeInfo, hi, hz], fun σ ρ => ofV_rel 2 v z h⟩

variable {σ : Nat → Value} {ρ : Ren}
theorem part_run {t : TypeId} {cs : List AVal} {cs' : Array Value} {off : Nat} {x : AVal} (h : aPart P t cs off = some x) (hr : RelL σ ρ cs cs'.toList) (w : World) :
    ∃ v, (part t cs' off).run P w = .ok v w ∧ Rel σ ρ x v := by
  unfold aPart at h
  cases ha : isAggT P t with
  | none => simp [ha] at h
  | some b =>
    cases b with
    | true =>
      simp only [ha] at h
      cases hs : sz P t with
      | none => simp [hs] at h
      | some n =>
        simp only [hs] at h
        obtain ⟨hle, h⟩ := condO_some h
        cases h
        refine ⟨.agg (cs'.extract off (off + n)), by simp [part, isAgg_run ha, sz_run hs], ?_⟩
        unfold Rel
        refine ⟨_, rfl, ?_⟩
        have e : (cs'.extract off (off + n)).toList = (cs'.toList.drop off).take n := by
          rw [Array.toList_extract, List.extract_eq_take_drop]
          congr 1; omega
        rw [e]
        exact (hr.drop off).take n
    | false =>
      simp only [ha] at h
      obtain ⟨v, hv, hrel⟩ := hr.get off x h
      have hv' : cs'[off]? = some v := by rw [← Array.getElem?_toList]; exact hv
      exact ⟨v, by simp [part, isAgg_run ha, hv'], hrel⟩

/-! ### equality -/
theorem kind_eq {k k' : IntKind} (h : intKindEq k k' = true) : k = k' := by cases k <;> cases k' <;> simp [intKindEq] at h <;> rfl
theorem eqFields_run {eq : TypeId → AVal → AVal → Option Bool} (D : Nat)
    (heq : ∀ t x y b x' y', eq t x y = some b → Rel σ ρ x x' → Rel σ ρ y y' → ∀ w, (Op.equalIn D t x' y').run P w = .ok b w) (w : World)
    {xs ys : List AVal} {xs' ys' : Array Value} (hx : RelL σ ρ xs xs'.toList) (hy : RelL σ ρ ys ys'.toList) :
    ∀ (fs : List Field) (b : Bool), eqFields P eq xs ys fs = some b → (Op.eqFields D xs' ys' fs).run P w = .ok b w := by
  intro fs
  induction fs with
  | nil => intro b h; simp [eqFields] at h; subst h; simp [Op.eqFields]
  | cons f fs ih =>
    intro b h
    unfold eqFields at h
    cases hn : f.name == "_" with
    | true =>
      simp only [hn, cond_true] at h
      have : f.name = "_" := by simpa using hn
      simp [Op.eqFields, this, ih b h]
    | false =>
      simp only [hn, cond_false] at h
      have hne : ¬ f.name = "_" := by simpa using hn
      cases h1 : aPart P f.type xs f.offset with
      | none => simp [h1] at h
      | some x =>
        cases h2 : aPart P f.type ys f.offset with
        | none => simp [h1, h2] at h
        | some y =>
          simp only [h1, h2] at h
          obtain ⟨x', e1, r1⟩ := part_run h1 hx w
          obtain ⟨y', e2, r2⟩ := part_run h2 hy w
          cases h3 : eq f.type x y with
          | none => simp [h3] at h
          | some r =>
            have e3 := heq _ _ _ _ _ _ h3 r1 r2 w
            cases r with
            | true => simp only [h3] at h; simp [Op.eqFields, hne, e1, e2, e3, ih b h]
            | false => simp only [h3, Option.some.injEq] at h; subst h; simp [Op.eqFields, hne, e1, e2, e3]
theorem eqElems_run {eq : TypeId → AVal → AVal → Option Bool} (D : Nat) {e : TypeId} {c : Nat}
    (heq : ∀ t x y b x' y', eq t x y = some b → Rel σ ρ x x' → Rel σ ρ y y' → ∀ w, (Op.equalIn D t x' y').run P w = .ok b w) (w : World)
    {xs ys : List AVal} {xs' ys' : Array Value} (hx : RelL σ ρ xs xs'.toList) (hy : RelL σ ρ ys ys'.toList) :
    ∀ (len i : Nat) (b : Bool), eqElems P eq e c xs ys len i = some b → (Op.eqItems D e c xs' ys' (List.range' i len)).run P w = .ok b w := by
  intro len
  induction len with
  | zero => intro i b h; simp [eqElems] at h; subst h; simp [Op.eqItems]
  | succ len ih =>
    intro i b h
    unfold eqElems at h
    cases h1 : aPart P e xs (i * c) with
    | none => simp [h1] at h
    | some x =>
      cases h2 : aPart P e ys (i * c) with
      | none => simp [h1, h2] at h
      | some y =>
        simp only [h1, h2] at h
        obtain ⟨x', e1, r1⟩ := part_run h1 hx w
        obtain ⟨y', e2, r2⟩ := part_run h2 hy w
        rw [List.range'_succ]
        cases h3 : eq e x y with
        | none => simp [h3] at h
        | some r =>
          have e3 := heq _ _ _ _ _ _ h3 r1 r2 w
          cases r with
          | true => simp only [h3] at h; simp [Op.eqItems, e1, e2, e3, ih _ b h]
          | false => simp only [h3, Option.some.injEq] at h; subst h; simp [Op.eqItems, e1, e2, e3]
theorem aEq_run : ∀ (d : Nat) (t : TypeId) (x y : AVal) (b : Bool) (x' y' : Value), aEq P d t x y = some b → Rel σ ρ x x' → Rel σ ρ y y' →
    ∀ (D : Nat), d ≤ D → ∀ w, (Op.equalIn D t x' y').run P w = .ok b w := by
  intro d
  induction d with
  | zero => intro t x y b x' y' h; simp [aEq] at h
  | succ d ih =>
    intro t x y b x' y' h hx hy D hD w
    obtain ⟨D, rfl⟩ : ∃ k, D = k + 1 := ⟨D - 1, by omega⟩
    unfold aEq at h
    split at h
    case h_10 =>
      rename_i fields xs ys hu
      have hst : P.stoodInHeld t = false := by
        cases hs : P.stoodInHeld t with
        | true => simp [hs] at h
        | false => rfl
      simp only [hst, cond_false] at h
      unfold Rel at hx hy
      obtain ⟨xs', rfl, hx⟩ := hx
      obtain ⟨ys', rfl, hy⟩ := hy
      have hf : P.fieldsOf t = fields := by simp [Program.fieldsOf, hu]
      rw [run_equalIn_struct w D t xs' ys' (by rw [hf]; exact hu) hst, hf]
      exact eqFields_run D (fun t x y b x' y' h r1 r2 w => ih t x y b x' y' h r1 r2 D (by omega) w) w hx hy _ _ h
    case h_11 =>
      rename_i len elem xs ys hu
      cases hs : sz P elem with
      | none => simp [hs] at h
      | some n =>
        simp only [hs] at h
        unfold Rel at hx hy
        obtain ⟨xs', rfl, hx⟩ := hx
        obtain ⟨ys', rfl, hy⟩ := hy
        have hs' := hs
        unfold sz at hs'
        cases hi : P.info? elem with
        | none => simp [hi] at hs'
        | some i =>
          have hc : P.cellsOf elem = n := by simp [hi] at hs'; simp [Program.cellsOf, hi, hs']
          rw [run_equalIn_array w D xs' ys' hu hi, hc, List.range_eq_range']
          exact eqElems_run D (fun t x y b x' y' h r1 r2 w => ih t x y b x' y' h r1 r2 D (by omega) w) w hx hy _ _ _ h
    all_goals (first | (cases h; done) | skip)
    all_goals (rename_i hu; unfold Rel at hx hy)
    all_goals (first
      | (subst hx; subst hy)
      | (subst hx; obtain ⟨_, _, rfl⟩ := hy)
      | (obtain ⟨_, _, rfl⟩ := hx; subst hy)
      | (subst hx; obtain ⟨_, rfl, _⟩ := hy)
      | (obtain ⟨_, rfl, _⟩ := hx; subst hy)
      | (subst hx; obtain ⟨_, _, _, _, rfl, _⟩ := hy)
      | (obtain ⟨_, _, _, _, rfl, _⟩ := hx; subst hy)
      | (subst hx; obtain ⟨_, _, rfl, _⟩ := hy)
      | (obtain ⟨_, _, rfl, _⟩ := hx; subst hy)
      | skip)
    all_goals (try (have hc := condO_some h; clear h; obtain ⟨hk, h⟩ := hc; replace hk := kind_eq hk; subst hk))
    all_goals (try (cases h; done))
    all_goals (simp only [Option.some.injEq] at h; subst h)
    all_goals (simp [Op.equalIn, run_underlying hu, eqI_eq])
end
end Go.AM
