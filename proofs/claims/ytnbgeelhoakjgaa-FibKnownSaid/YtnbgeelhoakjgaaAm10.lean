/- Part 10 of a calculation in a small memory that is proved to answer as the program does: see the last part. -/
import Derived.Test.YtnbgeelhoakjgaaAm9
import Derived.Laws.MakeOwn
import Derived.Great.BuildSlice
namespace Go.AM
open Go Go.RowKit

section
variable {P : Program} {σ : Nat → Value} {ρ : Ren} {base : Nat} {H H' : AHeap} {w : World}
def replV (n : Nat) (z : List Value) : List Value := match n with
  | 0 => []
  | n + 1 => z ++ replV n z
theorem replV_length (n : Nat) (z : List Value) : (replV n z).length = n * z.length := by
  induction n with
  | zero => simp [replV]
  | succ n ih => simp [replV, ih, Nat.add_mul]; omega
theorem replV_get (n : Nat) (z : List Value) (i : Nat) (hi : i < n * z.length) : (replV n z)[i]? = z[i % z.length]? := by
  induction n generalizing i with
  | zero => simp at hi
  | succ n ih =>
    have hz : 0 < z.length := by
      rcases Nat.eq_zero_or_pos z.length with h | h
      · rw [h] at hi; simp at hi
      · exact h
    simp only [replV]
    by_cases h : i < z.length
    · rw [List.getElem?_append_left h, Nat.mod_eq_of_lt h]
    · rw [List.getElem?_append_right (by omega), ih _ (by rw [Nat.add_mul] at hi; omega)]
      rw [Nat.mod_eq_sub_mod (a := i) (by omega)]
theorem repl_rel {z : List AVal} {z' : List Value} (h : RelL σ ρ z z') (n : Nat) : RelL σ ρ (repl n z) (replV n z') := by
  induction n with
  | zero => exact .nil
  | succ n ih => exact h.append ih
theorem repl_length (n : Nat) (z : List AVal) : (repl n z).length = n * z.length := by
  induction n with
  | zero => simp [repl]
  | succ n ih => simp [repl, ih, Nat.add_mul]; omega
theorem cycle_eq (z : Array Value) (n : Nat) : ((Array.range (n * z.size)).map (z[· % z.size]!)) = (replV n z.toList).toArray := by
  apply Array.ext
  · simp [replV_length]
  · intro i h1 h2
    simp only [Array.size_map, Array.size_range] at h1
    have hz : 0 < z.size := by
      rcases Nat.eq_zero_or_pos z.size with h | h
      · rw [h] at h1; simp at h1
      · exact h
    have hg := replV_get n z.toList i (by simpa using h1)
    have hm : i % z.size < z.size := Nat.mod_lt _ hz
    simp only [Array.getElem_map, Array.getElem_range, List.getElem_toArray]
    have h2' : i < (replV n z.toList).length := by simpa using h2
    rw [List.getElem?_eq_getElem h2'] at hg
    simp only [Array.length_toList, Array.getElem?_toList, Array.getElem?_eq_getElem hm, Option.some.injEq] at hg
    rw [hg]
    simp [hm]
structure Zeros (P : Program) (σ : Nat → Value) (ρ : Ren) (elem : TypeId) (n : Nat) (cs : List AVal) (es : Nat) (i : TypeInfo) (z : Value) : Prop where
  info : P.info? elem = some i
  zero : i.zero = some z
  size : i.size = es
  zsize : z.cells.size = es
  rel : RelL σ ρ cs (replV n z.cells.toList)
theorem zeros_spec {elem : TypeId} {n : Nat} {cs : List AVal} {es : Nat} (h : zeros P elem n = some (cs, es)) (hσ : One σ) : ∃ i z, Zeros P σ ρ elem n cs es i z := by
  unfold zeros at h
  split at h
  · rename_i za m hz hs
    obtain ⟨hb, h⟩ := condO_some h
    cases h
    have hb := Nat.eq_of_beq_eq_true hb
    unfold zeroA at hz
    cases hi : P.info? elem with
    | none => simp [hi] at hz
    | some i =>
      simp only [hi] at hz
      cases hzv : i.zero with
      | none => simp [hzv] at hz
      | some z =>
        simp only [hzv] at hz
        have hr := rel_cells hσ (ofV_rel (σ := σ) (ρ := ρ) 2 z za hz)
        refine ⟨i, z, hi, hzv, ?_, ?_, repl_rel hr n⟩
        · simp [sz, hi] at hs; exact hs
        · have := hr.length; simp at this; omega
  · cases h
theorem alloc_ok {t : TypeId} {v : AVal} (h : allocA P t H = some (v, H')) (hσ : One σ) (hwr : WR σ ρ base H w) (hf : Free ρ H.next H'.next) :
    Okay σ ρ base H H' w (fun ρ' v' => Rel σ ρ' v v') ((Instr.alloc t true (.tuple #[])).run P w) := by
  unfold allocA at h
  cases hz : zeroA P t with
  | none => simp only [hz] at h; exact (fail_some h).elim
  | some z =>
    simp only [hz] at h
    obtain ⟨id, K, h1, h2⟩ := bd_some h
    cases ret_some h2
    obtain ⟨zv, e, r⟩ := zero_run hz
    have := fresh_ok h1 hσ hwr hf [] (rel_cells hσ (r σ ρ))
    obtain ⟨rfl, hn, hl, ρ', x1, x2, x3, x4⟩ := this
    refine ⟨.pointer (some ⟨w.heap.size, 0, none⟩), _, ρ', ?_, x1, x3, x4, ?_⟩
    · simp [Instr.alloc, e, newVar, newRow]
    · unfold Rel; exact ⟨_, x2, rfl⟩
theorem box_ok {t : TypeId} {x v : AVal} {x' : Value} (h : boxA t x H = some (v, H')) (hx : Rel σ ρ x x') (hσ : One σ) (hwr : WR σ ρ base H w) (hf : Free ρ H.next H'.next) :
    Okay σ ρ base H H' w (fun ρ' v' => Rel σ ρ' v v') ((Instr.box t x').run P w) := by
  obtain ⟨id, K, h1, h2⟩ := bd_some h
  cases ret_some h2
  obtain ⟨rfl, hn, hl, ρ', x1, x2, x3, x4⟩ := fresh_ok h1 hσ hwr hf [] (rel_cells hσ hx)
  refine ⟨.pointer (some ⟨w.heap.size, 0, none⟩), _, ρ', ?_, x1, x3, x4, ?_⟩
  · simp [Instr.box, newVar, newRow]
  · unfold Rel; exact ⟨_, x2, rfl⟩

/-! ### building -/
theorem setAll (l : List Value) : ∀ (n off : Nat) (a : Array Value), off + n + l.length ≤ a.size →
    ((l.zipIdx n).foldl (fun (cs : Array Value) (x : Value × Nat) => cs.setIfInBounds (off + x.2) x.1) a).size = a.size ∧
    ∀ j : Nat, ((l.zipIdx n).foldl (fun (cs : Array Value) (x : Value × Nat) => cs.setIfInBounds (off + x.2) x.1) a)[j]? = if off + n ≤ j ∧ j < off + n + l.length then l[j - (off + n)]? else a[j]? := by
  induction l with
  | nil => intro n off a h; refine ⟨rfl, fun j => ?_⟩; simp only [List.zipIdx_nil, List.foldl_nil, List.length_nil]; rw [if_neg (by omega)]
  | cons v l ih =>
    intro n off a h
    simp only [List.length_cons] at h
    obtain ⟨h1, h2⟩ := ih (n + 1) off (a.setIfInBounds (off + n) v) (by simp; omega)
    simp only [List.zipIdx_cons, List.foldl_cons]
    refine ⟨by rw [h1]; simp, fun j => ?_⟩
    rw [h2 j]
    by_cases hj : j = off + n
    · subst hj
      rw [if_neg (by omega), if_pos (by simp)]
      have : off + n < a.size := by omega
      simp [this]
    · by_cases hj2 : off + (n + 1) ≤ j ∧ j < off + (n + 1) + l.length
      · rw [if_pos hj2, if_pos (by simp only [List.length_cons]; omega)]
        have : j - (off + n) = (j - (off + (n + 1))) + 1 := by omega
        rw [this, List.getElem?_cons_succ]
      · rw [if_neg hj2, if_neg (by simp only [List.length_cons]; omega), Array.getElem?_setIfInBounds_ne (by omega)]
theorem setRange_rel {cs vs : List AVal} {cs' : Array Value} {vs' : Array Value} {off : Nat} (h : RelL σ ρ cs cs'.toList) (hv : RelL σ ρ vs vs'.toList) (hl : off + vs.length ≤ cs.length) :
    RelL σ ρ (setRange cs off vs) (vs'.zipIdx.foldl (fun (cs : Array Value) (x : Value × Nat) => cs.setIfInBounds (off + x.2) x.1) cs').toList := by
  have e1 := h.length
  have e2 := hv.length
  simp only [Array.length_toList] at e1 e2
  obtain ⟨s1, s2⟩ := setAll vs'.toList 0 off cs' (by simp; omega)
  have hfold : vs'.zipIdx.foldl (fun (cs : Array Value) (x : Value × Nat) => cs.setIfInBounds (off + x.2) x.1) cs' = (vs'.toList.zipIdx 0).foldl (fun (cs : Array Value) (x : Value × Nat) => cs.setIfInBounds (off + x.2) x.1) cs' := by
    rw [← Array.foldl_toList]; simp
  rw [hfold]
  refine RelL.of_get ?_ fun i x y hx hy => ?_
  · simp only [Array.length_toList, s1, setRange, List.length_append, List.length_take, List.length_drop]; omega
  · rw [Array.getElem?_toList, s2] at hy
    unfold setRange at hx
    by_cases hi : off ≤ i ∧ i < off + vs.length
    · rw [if_pos (by simp; omega)] at hy
      rw [List.append_assoc, List.getElem?_append_right (by simp; omega), List.getElem?_append_left (by simp; omega)] at hx
      simp only [List.length_take] at hx
      have : i - min off cs.length = i - (off + 0) := by omega
      rw [this] at hx
      obtain ⟨z, hz, r⟩ := hv.get _ _ hx
      rw [hz] at hy; cases hy; exact r
    · rw [if_neg (by simp; omega)] at hy
      have hx' : cs[i]? = some x := by
        by_cases h2 : i < off
        · rw [List.append_assoc, List.getElem?_append_left (by simp; omega), List.getElem?_take, if_pos h2] at hx; exact hx
        · rw [List.getElem?_append_right (by simp; omega), List.getElem?_drop] at hx
          rw [← hx]; congr 1; simp; omega
      obtain ⟨z, hz, r⟩ := h.get _ _ hx'
      rw [Array.getElem?_toList] at hz
      rw [hz] at hy; cases hy; exact r
inductive PRel (σ : Nat → Value) (ρ : Ren) : List (Nat × AVal) → List (Nat × Value) → Prop
  | nil : PRel σ ρ [] []
  | cons {i x v l l'} (h : Rel σ ρ x v) (t : PRel σ ρ l l') : PRel σ ρ ((i, x) :: l) ((i, v) :: l')
theorem fill_run {place : Nat → Option (Nat × Nat)} (hσ : One σ) : ∀ (l : List (Nat × AVal)) (l' : List (Nat × Value)) (cs r : List AVal) (cs' : Array Value), PRel σ ρ l l' → fillA place cs l = some r → RelL σ ρ cs cs'.toList →
    ∃ r' : Array Value, Instr.fill place cs' l' = some r' ∧ RelL σ ρ r r'.toList := by
  intro l
  induction l with
  | nil => intro l' cs r cs' hp h hr; cases hp; cases h; exact ⟨cs', rfl, hr⟩
  | cons p l ih =>
    intro l' cs r cs' hp h hr
    cases hp with
    | cons hx ht =>
      rename_i i x v l'
      simp only [fillA] at h
      split at h
      · cases h
      · rename_i off size hpl
        obtain ⟨hc, h⟩ := condO_some h
        rw [Bool.and_eq_true] at hc
        have h1 : x.cells.length = size := Nat.eq_of_beq_eq_true hc.1
        have h2 : off + x.cells.length ≤ cs.length := by simpa [Nat.ble_eq] using hc.2
        have hv := rel_cells hσ hx
        have e1 := hr.length
        have e2 := hv.length
        simp only [Array.length_toList] at e1 e2
        obtain ⟨r', g1, g2⟩ := ih _ _ _ _ ht h (setRange_rel hr hv h2)
        refine ⟨r', ?_, g2⟩
        unfold Instr.fill
        simp only [hpl]
        rw [if_neg (by simp only [ne_eq, Bool.or_eq_true, decide_eq_true_eq, not_or]; omega)]
        exact g1
theorem mapM_sz {fields : Array Field} (h : (fields.toList.all fun f => (sz P f.type).isSome) = true) (w : World) :
    (fields.mapM fun f => (do pure (f.offset, ← sizeOf f.type) : Sem (Nat × Nat))).run P w = .ok (fields.map fun f => (f.offset, P.cellsOf f.type)) w := by
  rw [Array.mapM_eq_mapM_toList]
  simp only [Sem.run_map]
  have key : ∀ l : List Field, (l.all fun f => (sz P f.type).isSome) = true → (l.mapM fun f => (do pure (f.offset, ← sizeOf f.type) : Sem (Nat × Nat))).run P w = .ok (l.map fun f => (f.offset, P.cellsOf f.type)) w := by
    intro l
    induction l with
    | nil => intro _; simp
    | cons f l ih =>
      intro hl
      simp only [List.all_cons, Bool.and_eq_true] at hl
      obtain ⟨n, hn⟩ := Option.isSome_iff_exists.1 hl.1
      have hc : P.cellsOf f.type = n := by
        unfold sz at hn
        cases hi : P.info? f.type with
        | none => simp [hi] at hn
        | some i => simp [hi] at hn; simp [Program.cellsOf, hi, hn]
      simp only [List.mapM_cons, Sem.run_bind, sz_run hn, Result.andThen_ok, ih hl.2, Sem.run_pure, List.map_cons, hc]
  rw [key _ h]
  simp only [Result.andThen_ok]
  congr 1
  apply Array.ext'
  simp
theorem build_run {t : TypeId} {l : List (Nat × AVal)} {parts : Array (Nat × Value)} {v : AVal} (h : buildA P t l = some v) (hp : PRel σ ρ l parts.toList) (hσ : One σ) (w : World) :
    ∃ v', (Instr.build t parts).run P w = .ok v' w ∧ Rel σ ρ v v' := by
  unfold buildA at h
  split at h
  · rename_i z fields hz hu
    obtain ⟨hall, h⟩ := condO_some h
    simp only [Option.map_eq_some_iff] at h
    obtain ⟨r, hr, rfl⟩ := h
    obtain ⟨zv, e, hrel⟩ := zero_run hz
    obtain ⟨r', g1, g2⟩ := fill_run hσ l parts.toList _ _ zv.cells hp hr (rel_cells hσ (hrel σ ρ))
    have hplace : (fun i => (fields.map fun f => (f.offset, P.cellsOf f.type))[i]?) = placeOf P fields.toList := by
      funext i
      simp only [placeOf, Array.getElem?_map, Array.getElem?_toList]
      cases hf : fields[i]? with
      | none => rfl
      | some f =>
        have hm : f ∈ fields.toList := by
          have := Array.mem_of_getElem? hf
          exact Array.mem_def.1 this
        have hs := List.all_eq_true.1 hall f hm
        obtain ⟨n, hn⟩ := Option.isSome_iff_exists.1 hs
        have hc : P.cellsOf f.type = n := by
          have hn' := hn
          unfold sz at hn'
          cases hi : P.info? f.type with
          | none => simp [hi] at hn'
          | some i => simp [hi] at hn'; simp [Program.cellsOf, hi, hn']
        simp [hn, hc]
    refine ⟨.agg r', ?_, by unfold Rel; exact ⟨_, rfl, g2⟩⟩
    simp only [Instr.build, Sem.run_bind, e, Result.andThen_ok, run_underlying hu, mapM_sz hall]
    rw [hplace, g1]
    rfl
  · rename_i z n elem hz hu
    split at h
    · rename_i c hs
      simp only [Option.map_eq_some_iff] at h
      obtain ⟨r, hr, rfl⟩ := h
      obtain ⟨zv, e, hrel⟩ := zero_run hz
      obtain ⟨r', g1, g2⟩ := fill_run hσ l parts.toList _ _ zv.cells hp hr (rel_cells hσ (hrel σ ρ))
      refine ⟨.agg r', ?_, by unfold Rel; exact ⟨_, rfl, g2⟩⟩
      simp [Instr.build, e, run_underlying hu, sz_run hs, g1]
    · cases h
  · cases h
theorem buildSlice_ok {t : TypeId} {n : Nat} {l : List (Nat × AVal)} {parts : Array (Nat × Value)} {v : AVal} (h : buildSliceA P t n l H = some (v, H')) (hp : PRel σ ρ l parts.toList) (hσ : One σ) (hwr : WR σ ρ base H w) (hf : Free ρ H.next H'.next) :
    Okay σ ρ base H H' w (fun ρ' v' => Rel σ ρ' v v') ((Instr.buildSlice t n parts).run P w) := by
  unfold buildSliceA at h
  cases hu : P.underlying t with
  | none => simp only [hu] at h; exact (fail_some h).elim
  | some d =>
    cases d with
    | slice elem =>
      simp only [hu] at h
      cases hz : zeros P elem n with
      | none => simp only [hz] at h; exact (fail_some h).elim
      | some p =>
        obtain ⟨cs, es⟩ := p
        simp only [hz] at h
        obtain ⟨hle, h⟩ := cond_some h
        have hle : n * es ≤ 16777216 := by simpa [Nat.ble_eq] using hle
        cases hfl : fillA (fun i => some (i * es, es)) cs l with
        | none => simp only [hfl] at h; exact (fail_some h).elim
        | some r =>
          simp only [hfl] at h
          obtain ⟨id, K, h1, h2⟩ := bd_some h
          cases ret_some h2
          obtain ⟨i, z, zz⟩ := zeros_spec (σ := σ) (ρ := ρ) hz hσ
          obtain ⟨r', g1, g2⟩ := fill_run hσ l parts.toList _ _ (replV n z.cells.toList).toArray hp hfl (by simpa using zz.rel)
          obtain ⟨rfl, hn, hl, ρ', x1, x2, x3, x4⟩ := fresh_ok h1 hσ hwr hf [] g2
          have hs : sz P elem = some es := by simp [sz, zz.info, zz.size]
          have hlen : r'.size = n * es := by
            have a := g2.length
            simp only [Array.length_toList] at a
            have b : ∀ (l : List (Nat × AVal)) (cs r : List AVal), fillA (fun i => some (i * es, es)) cs l = some r → r.length = cs.length := by
              intro l
              induction l with
              | nil => intro cs r h; cases h; rfl
              | cons p l ih =>
                intro cs r h
                obtain ⟨i, v⟩ := p
                simp only [fillA] at h
                obtain ⟨hc, h⟩ := condO_some h
                rw [Bool.and_eq_true] at hc
                have h2 : i * es + v.cells.length ≤ cs.length := by simpa [Nat.ble_eq] using hc.2
                rw [ih _ _ h]
                simp only [setRange, List.length_append, List.length_take, List.length_drop]; omega
            have c := zz.rel.length
            rw [replV_length] at c
            have := b _ _ _ hfl
            have d := zz.zsize
            simp only [Array.length_toList] at c
            rw [d] at c
            omega
          refine ⟨.slice (some ⟨w.heap.size, 0, none⟩) n n, _, ρ', ?_, x1, x3, x4, ?_⟩
          · have hbig : ¬ (n * es > 2 ^ 24) := by simp; omega
            by_cases h0 : n * es = 0
            · have hc : (replV n z.cells.toList).toArray = #[] := by
                apply Array.eq_empty_of_size_eq_zero
                simp only [List.size_toArray, replV_length, Array.length_toList, zz.zsize]; exact h0
              rw [hc] at g1
              simp [Instr.buildSlice, run_underlying hu, sz_run hs, h0, g1, newRow, show (Array.range 0) = (#[] : Array Nat) from rfl]
            · have hcy := cycle_eq z.cells n
              rw [zz.zsize] at hcy
              simp [Instr.buildSlice, run_underlying hu, sz_run hs, hbig, h0, zeroValue, typeInfo, zz.info, zz.zero, newRow, zz.zsize, hcy, g1]
          · unfold Rel
            refine ⟨_, _, n, x2, rfl, .inl ⟨rfl, ?_⟩, Nat.le_refl _, fun k hk => by cases hk; rfl⟩
            simp [hlen]
    | _ => simp only [hu] at h; exact (fail_some h).elim
end
end Go.AM
