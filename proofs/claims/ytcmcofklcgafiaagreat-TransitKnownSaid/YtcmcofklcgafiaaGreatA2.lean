/- Part A2 of the proof: see the last part. -/
import Derived.Test.YtcmcofklcgafiaaGreatA1
import Derived.Laws.MakeOwn
import Derived.Great.BuildSlice
import Derived.Laws.Append
import Derived.Laws.AppendOwn
import Derived.OrdersIn
import Derived.RangeFuncCalls
namespace Go.AM
open Go Go.RowKit

section
variable {P : Program} {σ : Nat → Value} {ρ : Ren} {base : Nat} {H H' : AHeap} {w : World}
def replV (n : Nat) (z : List Value) : List Value := match n with
  | 0 => []
  | n + 1 => z ++ replV n z
theorem replV_length (n : Nat) (z : List Value) : (replV n z).length = n * z.length := by
  induction n with
  | zero => simp [replV]
  | succ n ih => simp [replV, ih, Nat.add_mul]; omega
theorem replV_get (n : Nat) (z : List Value) (i : Nat) (hi : i < n * z.length) : (replV n z)[i]? = z[i % z.length]? := by
  induction n generalizing i with
  | zero => simp at hi
  | succ n ih =>
    have hz : 0 < z.length := by
      rcases Nat.eq_zero_or_pos z.length with h | h
      · rw [h] at hi; simp at hi
      · exact h
    simp only [replV]
    by_cases h : i < z.length
    · rw [List.getElem?_append_left h, Nat.mod_eq_of_lt h]
    · rw [List.getElem?_append_right (by omega), ih _ (by rw [Nat.add_mul] at hi; omega)]
      rw [Nat.mod_eq_sub_mod (a := i) (by omega)]
theorem repl_rel {z : List AVal} {z' : List Value} (h : RelL σ ρ z z') (n : Nat) : RelL σ ρ (repl n z) (replV n z') := by
  induction n with
  | zero => exact .nil
  | succ n ih => exact h.append ih
theorem repl_length (n : Nat) (z : List AVal) : (repl n z).length = n * z.length := by
  induction n with
  | zero => simp [repl]
  | succ n ih => simp [repl, ih, Nat.add_mul]; omega
theorem cycle_eq (z : Array Value) (n : Nat) : ((Array.range (n * z.size)).map (z[· % z.size]!)) = (replV n z.toList).toArray := by
  apply Array.ext
  · simp [replV_length]
  · intro i h1 h2
    simp only [Array.size_map, Array.size_range] at h1
    have hz : 0 < z.size := by
      rcases Nat.eq_zero_or_pos z.size with h | h
      · rw [h] at h1; simp at h1
      · exact h
    have hg := replV_get n z.toList i (by simpa using h1)
    have hm : i % z.size < z.size := Nat.mod_lt _ hz
    simp only [Array.getElem_map, Array.getElem_range, List.getElem_toArray]
    have h2' : i < (replV n z.toList).length := by simpa using h2
    rw [List.getElem?_eq_getElem h2'] at hg
    simp only [Array.length_toList, Array.getElem?_toList, Array.getElem?_eq_getElem hm, Option.some.injEq] at hg
    rw [hg]
    simp [hm]
structure Zeros (P : Program) (σ : Nat → Value) (ρ : Ren) (elem : TypeId) (n : Nat) (cs : List AVal) (es : Nat) (i : TypeInfo) (z : Value) : Prop where
  info : P.info? elem = some i
  zero : i.zero = some z
  size : i.size = es
  zsize : z.cells.size = es
  rel : RelL σ ρ cs (replV n z.cells.toList)
theorem zeros_spec {elem : TypeId} {n : Nat} {cs : List AVal} {es : Nat} (h : zeros P elem n = some (cs, es)) (hσ : One σ) : ∃ i z, Zeros P σ ρ elem n cs es i z := by
  unfold zeros at h
  split at h
  · rename_i za m hz hs
    obtain ⟨hb, h⟩ := condO_some h
    cases h
    have hb := Nat.eq_of_beq_eq_true hb
    unfold zeroA at hz
    cases hi : P.info? elem with
    | none => simp [hi] at hz
    | some i =>
      simp only [hi] at hz
      cases hzv : i.zero with
      | none => simp [hzv] at hz
      | some z =>
        simp only [hzv] at hz
        have hr := rel_cells hσ (ofV_rel (σ := σ) (ρ := ρ) 2 z za hz)
        refine ⟨i, z, hi, hzv, ?_, ?_, repl_rel hr n⟩
        · simp [sz, hi] at hs; exact hs
        · have := hr.length; simp at this; omega
  · cases h
theorem alloc_ok {t : TypeId} {v : AVal} (h : allocA P t H = some (v, H')) (hσ : One σ) (hwr : WR σ ρ base H w) (hf : Free ρ H.next H'.next) :
    Okay σ ρ base H H' w (fun ρ' v' => Rel σ ρ' v v') ((Instr.alloc t true (.tuple #[])).run P w) := by
  unfold allocA at h
  cases hz : zeroA P t with
  | none => simp only [hz] at h; exact (fail_some h).elim
  | some z =>
    simp only [hz] at h
    obtain ⟨id, K, h1, h2⟩ := bd_some h
    cases ret_some h2
    obtain ⟨zv, e, r⟩ := zero_run hz
    have := fresh_ok h1 hσ hwr hf [] (rel_cells hσ (r σ ρ))
    obtain ⟨rfl, hn, hl, ρ', x1, x2, x3, x4⟩ := this
    refine ⟨.pointer (some ⟨w.heap.size, 0, none⟩), _, ρ', ?_, x1, x3, x4, ?_⟩
    · simp [Instr.alloc, e, newVar, newRow]
    · unfold Rel; exact ⟨_, x2, rfl⟩
theorem box_ok {t : TypeId} {x v : AVal} {x' : Value} (h : boxA t x H = some (v, H')) (hx : Rel σ ρ x x') (hσ : One σ) (hwr : WR σ ρ base H w) (hf : Free ρ H.next H'.next) :
    Okay σ ρ base H H' w (fun ρ' v' => Rel σ ρ' v v') ((Instr.box t x').run P w) := by
  obtain ⟨id, K, h1, h2⟩ := bd_some h
  cases ret_some h2
  obtain ⟨rfl, hn, hl, ρ', x1, x2, x3, x4⟩ := fresh_ok h1 hσ hwr hf [] (rel_cells hσ hx)
  refine ⟨.pointer (some ⟨w.heap.size, 0, none⟩), _, ρ', ?_, x1, x3, x4, ?_⟩
  · simp [Instr.box, newVar, newRow]
  · unfold Rel; exact ⟨_, x2, rfl⟩

/-! ### building -/
theorem setAll (l : List Value) : ∀ (n off : Nat) (a : Array Value), off + n + l.length ≤ a.size →
    ((l.zipIdx n).foldl (fun (cs : Array Value) (x : Value × Nat) => cs.setIfInBounds (off + x.2) x.1) a).size = a.size ∧
    ∀ j : Nat, ((l.zipIdx n).foldl (fun (cs : Array Value) (x : Value × Nat) => cs.setIfInBounds (off + x.2) x.1) a)[j]? = if off + n ≤ j ∧ j < off + n + l.length then l[j - (off + n)]? else a[j]? := by
  induction l with
  | nil => intro n off a h; refine ⟨rfl, fun j => ?_⟩; simp only [List.zipIdx_nil, List.foldl_nil, List.length_nil]; rw [if_neg (by omega)]
  | cons v l ih =>
    intro n off a h
    simp only [List.length_cons] at h
    obtain ⟨h1, h2⟩ := ih (n + 1) off (a.setIfInBounds (off + n) v) (by simp; omega)
    simp only [List.zipIdx_cons, List.foldl_cons]
    refine ⟨by rw [h1]; simp, fun j => ?_⟩
    rw [h2 j]
    by_cases hj : j = off + n
    · subst hj
      rw [if_neg (by omega), if_pos (by simp)]
      have : off + n < a.size := by omega
      simp [this]
    · by_cases hj2 : off + (n + 1) ≤ j ∧ j < off + (n + 1) + l.length
      · rw [if_pos hj2, if_pos (by simp only [List.length_cons]; omega)]
        have : j - (off + n) = (j - (off + (n + 1))) + 1 := by omega
        rw [this, List.getElem?_cons_succ]
      · rw [if_neg hj2, if_neg (by simp only [List.length_cons]; omega), Array.getElem?_setIfInBounds_ne (by omega)]
theorem setRange_rel {cs vs : List AVal} {cs' : Array Value} {vs' : Array Value} {off : Nat} (h : RelL σ ρ cs cs'.toList) (hv : RelL σ ρ vs vs'.toList) (hl : off + vs.length ≤ cs.length) :
    RelL σ ρ (setRange cs off vs) (vs'.zipIdx.foldl (fun (cs : Array Value) (x : Value × Nat) => cs.setIfInBounds (off + x.2) x.1) cs').toList := by
  have e1 := h.length
  have e2 := hv.length
  simp only [Array.length_toList] at e1 e2
  obtain ⟨s1, s2⟩ := setAll vs'.toList 0 off cs' (by simp; omega)
  have hfold : vs'.zipIdx.foldl (fun (cs : Array Value) (x : Value × Nat) => cs.setIfInBounds (off + x.2) x.1) cs' = (vs'.toList.zipIdx 0).foldl (fun (cs : Array Value) (x : Value × Nat) => cs.setIfInBounds (off + x.2) x.1) cs' := by
    rw [← Array.foldl_toList]; simp
  rw [hfold]
  refine RelL.of_get ?_ fun i x y hx hy => ?_
  · simp only [Array.length_toList, s1, setRange, List.length_append, List.length_take, List.length_drop]; omega
  · rw [Array.getElem?_toList, s2] at hy
    unfold setRange at hx
    by_cases hi : off ≤ i ∧ i < off + vs.length
    · rw [if_pos (by simp; omega)] at hy
      rw [List.append_assoc, List.getElem?_append_right (by simp; omega), List.getElem?_append_left (by simp; omega)] at hx
      simp only [List.length_take] at hx
      have : i - min off cs.length = i - (off + 0) := by omega
      rw [this] at hx
      obtain ⟨z, hz, r⟩ := hv.get _ _ hx
      rw [hz] at hy; cases hy; exact r
    · rw [if_neg (by simp; omega)] at hy
      have hx' : cs[i]? = some x := by
        by_cases h2 : i < off
        · rw [List.append_assoc, List.getElem?_append_left (by simp; omega), List.getElem?_take, if_pos h2] at hx; exact hx
        · rw [List.getElem?_append_right (by simp; omega), List.getElem?_drop] at hx
          rw [← hx]; congr 1; simp; omega
      obtain ⟨z, hz, r⟩ := h.get _ _ hx'
      rw [Array.getElem?_toList] at hz
      rw [hz] at hy; cases hy; exact r
inductive PRel (σ : Nat → Value) (ρ : Ren) : List (Nat × AVal) → List (Nat × Value) → Prop
  | nil : PRel σ ρ [] []
  | cons {i x v l l'} (h : Rel σ ρ x v) (t : PRel σ ρ l l') : PRel σ ρ ((i, x) :: l) ((i, v) :: l')
theorem fill_run {place : Nat → Option (Nat × Nat)} (hσ : One σ) : ∀ (l : List (Nat × AVal)) (l' : List (Nat × Value)) (cs r : List AVal) (cs' : Array Value), PRel σ ρ l l' → fillA place cs l = some r → RelL σ ρ cs cs'.toList →
    ∃ r' : Array Value, Instr.fill place cs' l' = some r' ∧ RelL σ ρ r r'.toList := by
  intro l
  induction l with
  | nil => intro l' cs r cs' hp h hr; cases hp; cases h; exact ⟨cs', rfl, hr⟩
  | cons p l ih =>
    intro l' cs r cs' hp h hr
    cases hp with
    | cons hx ht =>
      rename_i i x v l'
      simp only [fillA] at h
      split at h
      · cases h
      · rename_i off size hpl
        obtain ⟨hc, h⟩ := condO_some h
        rw [Bool.and_eq_true] at hc
        have h1 : x.cells.length = size := Nat.eq_of_beq_eq_true hc.1
        have h2 : off + x.cells.length ≤ cs.length := by simpa [Nat.ble_eq] using hc.2
        have hv := rel_cells hσ hx
        have e1 := hr.length
        have e2 := hv.length
        simp only [Array.length_toList] at e1 e2
        obtain ⟨r', g1, g2⟩ := ih _ _ _ _ ht h (setRange_rel hr hv h2)
        refine ⟨r', ?_, g2⟩
        unfold Instr.fill
        simp only [hpl]
        rw [if_neg (by simp only [ne_eq, Bool.or_eq_true, decide_eq_true_eq, not_or]; omega)]
        exact g1
theorem mapM_sz {fields : Array Field} (h : (fields.toList.all fun f => (sz P f.type).isSome) = true) (w : World) :
    (fields.mapM fun f => (do pure (f.offset, ← sizeOf f.type) : Sem (Nat × Nat))).run P w = .ok (fields.map fun f => (f.offset, P.cellsOf f.type)) w := by
  rw [Array.mapM_eq_mapM_toList]
  simp only [Sem.run_map]
  have key : ∀ l : List Field, (l.all fun f => (sz P f.type).isSome) = true → (l.mapM fun f => (do pure (f.offset, ← sizeOf f.type) : Sem (Nat × Nat))).run P w = .ok (l.map fun f => (f.offset, P.cellsOf f.type)) w := by
    intro l
    induction l with
    | nil => intro _; simp
    | cons f l ih =>
      intro hl
      simp only [List.all_cons, Bool.and_eq_true] at hl
      obtain ⟨n, hn⟩ := Option.isSome_iff_exists.1 hl.1
      have hc : P.cellsOf f.type = n := by
        unfold sz at hn
        cases hi : P.info? f.type with
        | none => simp [hi] at hn
        | some i => simp [hi] at hn; simp [Program.cellsOf, hi, hn]
      simp only [List.mapM_cons, Sem.run_bind, sz_run hn, Result.andThen_ok, ih hl.2, Sem.run_pure, List.map_cons, hc]
  rw [key _ h]
  simp only [Result.andThen_ok]
  congr 1
  apply Array.ext'
  simp
theorem build_run {t : TypeId} {l : List (Nat × AVal)} {parts : Array (Nat × Value)} {v : AVal} (h : buildA P t l = some v) (hp : PRel σ ρ l parts.toList) (hσ : One σ) (w : World) :
    ∃ v', (Instr.build t parts).run P w = .ok v' w ∧ Rel σ ρ v v' := by
  unfold buildA at h
  split at h
  · rename_i z fields hz hu
    obtain ⟨hall, h⟩ := condO_some h
    simp only [Option.map_eq_some_iff] at h
    obtain ⟨r, hr, rfl⟩ := h
    obtain ⟨zv, e, hrel⟩ := zero_run hz
    obtain ⟨r', g1, g2⟩ := fill_run hσ l parts.toList _ _ zv.cells hp hr (rel_cells hσ (hrel σ ρ))
    have hplace : (fun i => (fields.map fun f => (f.offset, P.cellsOf f.type))[i]?) = placeOf P fields.toList := by
      funext i
      simp only [placeOf, Array.getElem?_map, Array.getElem?_toList]
      cases hf : fields[i]? with
      | none => rfl
      | some f =>
        have hm : f ∈ fields.toList := by
          have := Array.mem_of_getElem? hf
          exact Array.mem_def.1 this
        have hs := List.all_eq_true.1 hall f hm
        obtain ⟨n, hn⟩ := Option.isSome_iff_exists.1 hs
        have hc : P.cellsOf f.type = n := by
          have hn' := hn
          unfold sz at hn'
          cases hi : P.info? f.type with
          | none => simp [hi] at hn'
          | some i => simp [hi] at hn'; simp [Program.cellsOf, hi, hn']
        simp [hn, hc]
    refine ⟨.agg r', ?_, by unfold Rel; exact ⟨_, rfl, g2⟩⟩
    simp only [Instr.build, Sem.run_bind, e, Result.andThen_ok, run_underlying hu, mapM_sz hall]
    rw [hplace, g1]
    rfl
  · rename_i z n elem hz hu
    split at h
    · rename_i c hs
      simp only [Option.map_eq_some_iff] at h
      obtain ⟨r, hr, rfl⟩ := h
      obtain ⟨zv, e, hrel⟩ := zero_run hz
      obtain ⟨r', g1, g2⟩ := fill_run hσ l parts.toList _ _ zv.cells hp hr (rel_cells hσ (hrel σ ρ))
      refine ⟨.agg r', ?_, by unfold Rel; exact ⟨_, rfl, g2⟩⟩
      simp [Instr.build, e, run_underlying hu, sz_run hs, g1]
    · cases h
  · cases h
theorem buildSlice_ok {t : TypeId} {n : Nat} {l : List (Nat × AVal)} {parts : Array (Nat × Value)} {v : AVal} (h : buildSliceA P t n l H = some (v, H')) (hp : PRel σ ρ l parts.toList) (hσ : One σ) (hwr : WR σ ρ base H w) (hf : Free ρ H.next H'.next) :
    Okay σ ρ base H H' w (fun ρ' v' => Rel σ ρ' v v') ((Instr.buildSlice t n parts).run P w) := by
  unfold buildSliceA at h
  cases hu : P.underlying t with
  | none => simp only [hu] at h; exact (fail_some h).elim
  | some d =>
    cases d with
    | slice elem =>
      simp only [hu] at h
      cases hz : zeros P elem n with
      | none => simp only [hz] at h; exact (fail_some h).elim
      | some p =>
        obtain ⟨cs, es⟩ := p
        simp only [hz] at h
        obtain ⟨hle, h⟩ := cond_some h
        have hle : n * es ≤ 16777216 := by simpa [Nat.ble_eq] using hle
        cases hfl : fillA (fun i => some (i * es, es)) cs l with
        | none => simp only [hfl] at h; exact (fail_some h).elim
        | some r =>
          simp only [hfl] at h
          obtain ⟨id, K, h1, h2⟩ := bd_some h
          cases ret_some h2
          obtain ⟨i, z, zz⟩ := zeros_spec (σ := σ) (ρ := ρ) hz hσ
          obtain ⟨r', g1, g2⟩ := fill_run hσ l parts.toList _ _ (replV n z.cells.toList).toArray hp hfl (by simpa using zz.rel)
          obtain ⟨rfl, hn, hl, ρ', x1, x2, x3, x4⟩ := fresh_ok h1 hσ hwr hf [] g2
          have hs : sz P elem = some es := by simp [sz, zz.info, zz.size]
          have hlen : r'.size = n * es := by
            have a := g2.length
            simp only [Array.length_toList] at a
            have b : ∀ (l : List (Nat × AVal)) (cs r : List AVal), fillA (fun i => some (i * es, es)) cs l = some r → r.length = cs.length := by
              intro l
              induction l with
              | nil => intro cs r h; cases h; rfl
              | cons p l ih =>
                intro cs r h
                obtain ⟨i, v⟩ := p
                simp only [fillA] at h
                obtain ⟨hc, h⟩ := condO_some h
                rw [Bool.and_eq_true] at hc
                have h2 : i * es + v.cells.length ≤ cs.length := by simpa [Nat.ble_eq] using hc.2
                rw [ih _ _ h]
                simp only [setRange, List.length_append, List.length_take, List.length_drop]; omega
            have c := zz.rel.length
            rw [replV_length] at c
            have := b _ _ _ hfl
            have d := zz.zsize
            simp only [Array.length_toList] at c
            rw [d] at c
            omega
          refine ⟨.slice (some ⟨w.heap.size, 0, none⟩) n n, _, ρ', ?_, x1, x3, x4, ?_⟩
          · have hbig : ¬ (n * es > 2 ^ 24) := by simp; omega
            by_cases h0 : n * es = 0
            · have hc : (replV n z.cells.toList).toArray = #[] := by
                apply Array.eq_empty_of_size_eq_zero
                simp only [List.size_toArray, replV_length, Array.length_toList, zz.zsize]; exact h0
              rw [hc] at g1
              simp [Instr.buildSlice, run_underlying hu, sz_run hs, h0, g1, newRow, show (Array.range 0) = (#[] : Array Nat) from rfl]
            · have hcy := cycle_eq z.cells n
              rw [zz.zsize] at hcy
              simp [Instr.buildSlice, run_underlying hu, sz_run hs, hbig, h0, zeroValue, typeInfo, zz.info, zz.zero, newRow, zz.zsize, hcy, g1]
          · unfold Rel
            refine ⟨_, _, n, x2, rfl, .inl ⟨rfl, ?_⟩, Nat.le_refl _, fun k hk => by cases hk; rfl⟩
            simp [hlen]
    | _ => simp only [hu] at h; exact (fail_some h).elim
end
end Go.AM
namespace Go.AM
open Go Go.RowKit

section
variable {P : Program} {σ : Nat → Value} {ρ : Ren} {base : Nat} {H H' : AHeap} {w : World}
theorem makeSlice_ok {t : TypeId} {l c v : AVal} {l' c' : Value} (h : makeSliceA P t l c H = some (v, H')) (hl : Rel σ ρ l l') (hc : Rel σ ρ c c') (hσ : One σ) (hwr : WR σ ρ base H w) (hf : Free ρ H.next H'.next) :
    Okay σ ρ base H H' w (fun ρ' v' => Rel σ ρ' v v') ((Instr.makeSlice t l' c').run P w) := by
  unfold makeSliceA at h
  cases hu : P.underlying t with
  | none => simp only [hu] at h; exact (fail_some h).elim
  | some d =>
    cases hnl : nat? l with
    | none => cases d <;> simp only [hu, hnl] at h <;> exact (fail_some h).elim
    | some n =>
      cases hnc : nat? c with
      | none => cases d <;> simp only [hu, hnl, hnc] at h <;> exact (fail_some h).elim
      | some m =>
        cases d with
        | slice elem =>
          simp only [hu, hnl, hnc] at h
          cases hz : zeros P elem m with
          | none => simp only [hz] at h; exact (fail_some h).elim
          | some p =>
            obtain ⟨cs, es⟩ := p
            cases hb : bytesOf P elem with
            | none => simp only [hz, hb] at h; exact (fail_some h).elim
            | some by_ =>
              simp only [hz, hb] at h
              obtain ⟨hcd, h⟩ := cond_some h
              rw [Bool.and_eq_true, Bool.and_eq_true] at hcd
              have hnm : n ≤ m := by simpa [Nat.ble_eq] using hcd.1
              have hm : m ≤ 4294967296 := by simpa [Nat.ble_eq] using hcd.2.1
              have hby : by_ ≤ 32768 := by simpa [Nat.ble_eq] using hcd.2.2
              obtain ⟨id, K, h1, h2⟩ := bd_some h
              simp only [frcN_eq] at h2
              cases ret_some h2
              obtain ⟨i, z, zz⟩ := zeros_spec (σ := σ) (ρ := ρ) hz hσ
              obtain ⟨kl, rfl⟩ := nat?_rel hnl hl
              obtain ⟨kc, rfl⟩ := nat?_rel hnc hc
              obtain ⟨rfl, hn, hl, ρ', x1, x2, x3, x4⟩ := fresh_ok h1 hσ hwr hf [] zz.rel
              have hbi : i.bytes = by_ := by simp [bytesOf, zz.info] at hb; exact hb
              have hbytes : (i.bytes : Int) * (m : Int) ≤ 281474976710656 := by
                rw [hbi]
                have : by_ * m ≤ 32768 * 4294967296 := Nat.mul_le_mul hby hm
                have h2 : ((by_ * m : Nat) : Int) ≤ 281474976710656 := by omega
                simpa using h2
              have hrun := run_make w t elem i z hu zz.info zz.zero kl kc (n : Int) (m : Int) (by omega) (by omega) hbytes (by omega)
              simp only [Int.toNat_natCast] at hrun
              have hcy := cycle_eq z.cells m
              have hmc : madeCells z.cells (m * i.size) = (replV m z.cells.toList).toArray := by
                unfold madeCells; rw [zz.size, ← zz.zsize]; exact hcy
              rw [hmc] at hrun
              refine ⟨_, _, ρ', hrun, x1, by simpa using x3, by simpa using x4, ?_⟩
              unfold Rel
              refine ⟨_, _, m, x2, rfl, .inl ⟨rfl, ?_⟩, hnm, fun k hk => by cases hk; rfl⟩
              simp [replV_length, zz.zsize]
        | _ => simp only [hu, hnl, hnc] at h; exact (fail_some h).elim

theorem firstA_ok {es n : Nat} {x : AVal} {l : List AVal} {x' : Value} {len : Nat} (h : firstA es n x H = some (l, H')) (hx : Rel σ ρ x x') (hlen : lenOfA x = some len) (hn : n ≤ len) (hwr : WR σ ρ base H w) :
    H'.blks = H.blks ∧ H'.lo = H.lo ∧ H'.next = H.next ∧ ∃ vs : List Value, vs.length = n * es ∧ RelL σ ρ l vs ∧ (∀ v ∈ vs, v.oneCell' = true) ∧
      (∀ b off, x' = .slice (some b) len off → ∀ j v, vs[j]? = some v → w.cell? (b.add j) = some v) ∧
      ∀ w2 : World, w2.heap = w.heap → (Builtin.firstCells es n x').run P w2 = .ok vs.toArray w2 := by
  unfold firstA at h
  split at h
  · rename_i b o ln cap es'
    have hcs := cond_some h
    clear h
    obtain ⟨he, h⟩ := hcs
    have he := Nat.eq_of_beq_eq_true he
    subst he
    cases hlen
    unfold Rel at hx
    obtain ⟨L, a, c, hL, rfl, hoff, hlc, _⟩ := hx
    cases hz : Nat.beq (n * es) 0 with
    | true =>
      rw [hz] at h
      cases ret_some h
      have hne := Nat.eq_of_beq_eq_true hz
      refine ⟨rfl, rfl, rfl, [], by simp [hne], .nil, by simp, fun _ _ _ j v hv => by simp at hv, fun w2 hw2 => ?_⟩
      simp [Builtin.firstCells, loadCells, hne, loadCellsFrom]
    | false =>
    rw [hz] at h
    have h : loadCellsA b o (n * es) H = some (l, H') := h
    obtain ⟨e1, e2, e3, vs, a1, a2, a3, a4, a5⟩ := loadCellsA_ok (P := P) h hwr hL
    rcases hoff with ⟨rfl, _⟩ | ⟨h0, hc0⟩
    · refine ⟨e1, e2, e3, vs, a1, a2, a3, fun b off hb => by cases hb; exact a4, fun w2 hw2 => ?_⟩
      have hcell : ∀ a : Addr, w2.cell? a = w.cell? a := fun a => by simp [World.cell?, hw2]
      exact run_firstCells_some (P := P) w2 es n _ _ c vs a1 (fun j v hv => by rw [hcell]; exact a4 j v hv)
    · have hn0 : n = 0 := by omega
      subst hn0
      have hv : vs = [] := List.eq_nil_of_length_eq_zero (by rw [a1]; simp)
      subst hv
      exact ⟨e1, e2, e3, [], a1, a2, a3, fun _ _ _ j v hv => by simp at hv, fun w2 hw2 => by simp [Builtin.firstCells, loadCells, loadCellsFrom]⟩
  · cases ret_some h
    cases hlen
    have hn0 : n = 0 := by omega
    subst hn0
    unfold Rel at hx; subst hx
    exact ⟨rfl, rfl, rfl, [], by simp, .nil, by simp, (fun b off hb => by cases hb), fun w2 _ => by simp [Builtin.firstCells]⟩
  · exact (fail_some h).elim
theorem lenOf_run {x : AVal} {x' : Value} {n : Nat} (h : lenOfA x = some n) (hx : Rel σ ρ x x') (w : World) : (Builtin.lenOf x').run P w = .ok n w := by
  unfold lenOfA at h
  split at h
  · cases h; unfold Rel at hx; obtain ⟨L, off, c, hL, rfl, _⟩ := hx; rfl
  · cases h; unfold Rel at hx; subst hx; rfl
  · cases h
end
end Go.AM
namespace Go.AM
open Go Go.RowKit

section
variable {P : Program} {σ : Nat → Value} {ρ : Ren} {base : Nat} {H H' : AHeap} {w : World}
theorem storeCells_nil (a : Addr) (w : World) : (storeCells a []).run P w = .ok () w := by simp [storeCells]
/-- append where there is room -/
theorem append_room {t u ty elem : TypeId} {xd : TypeDesc} {es : Nat} (ht : P.underlying t = some (.slice elem)) (hu : P.underlying u = some xd) (hxd : ∀ k, xd ≠ .int k) (hs : sz P elem = some es)
    {a : Option Addr} {len c n : Nat} {x' : Value} {vs : List Value} (hx : ∀ w, (Builtin.lenOf x').run P w = .ok n w) (hf : (Builtin.firstCells es n x').run P w = .ok vs.toArray w) (hle : len + n ≤ c) :
    (Builtin.append_ #[t, u] ty #[.slice a len c, x']).run P w = (match a with
      | some a => ((storeCells (a.add (len * es)) vs).run P w).andThen fun _ w' => .ok (.slice (some a) (len + n) c) w'
      | none => .ok (.slice none (len + n) c) w) := by
  have hm : (match xd with | .int _ => true | _ => false) = false := by cases xd <;> first | rfl | exact absurd rfl (hxd _)
  cases a with
  | none => simp [Builtin.append_, run_underlying ht, run_underlying hu, sz_run hs, hx, hf, hle]
  | some a => simp [Builtin.append_, run_underlying ht, run_underlying hu, sz_run hs, hx, hf, hle]
/-- append where there is no room -/
theorem append_grow {t u ty elem : TypeId} {xd : TypeDesc} {es : Nat} {i : TypeInfo} {z : Value} (ht : P.underlying t = some (.slice elem)) (hu : P.underlying u = some xd) (hxd : ∀ k, xd ≠ .int k) (hi : P.info? elem = some i) (hz : i.zero = some z) (hes : i.size = es)
    {a : Option Addr} {len c n : Nat} {x' : Value} {olds vs : List Value} (hx : ∀ w, (Builtin.lenOf x').run P w = .ok n w) (hf : ∀ w2 : World, w2.heap = w.heap → (Builtin.firstCells es n x').run P w2 = .ok vs.toArray w2)
    (ho : ∀ w2 : World, w2.heap = w.heap → (Builtin.firstCells es len (.slice a len c)).run P w2 = .ok olds.toArray w2) (hgt : c < len + n) (hneed : len + n ≤ 16777216) (hby : i.bytes ≤ 65536) :
    (Builtin.append_ #[t, u] ty #[.slice a len c, x']).run P w = .ok (.slice (some ⟨w.heap.size, 0, none⟩) (len + n) (grownCap w (len + n) c elem))
        (w.drew.alloc (.cells ((olds ++ vs) ++ (Builtin.zeroCells z.cells (grownCap w (len + n) c elem - (len + n))).toList).toArray elem)) := by
  subst hes
  have hm : (match xd with | .int _ => true | _ => false) = false := by cases xd <;> first | rfl | exact absurd rfl (hxd _)
  have hn : ¬ (len + n ≤ c) := by omega
  have h63' : ¬ (9223372036854775807 < ((len : Int) + (n : Int))) := by omega
  have hfit : Builtin.nextslicecap (len + n) c * i.bytes ≤ 281474976710656 := by
    refine growslice_fits hgt ?_
    have : (len + n) * i.bytes ≤ 16777216 * 65536 := Nat.mul_le_mul hneed hby
    omega
  have h48' : ¬ (281474976710656 < Builtin.nextslicecap (len + n) c * i.bytes) := by omega
  have hf1 := hf w.drew rfl
  have ho1 := ho w.drew rfl
  simp [Builtin.append_, run_underlying ht, run_underlying hu, sizeOf, typeInfo, zeroValue, hi, hz, hx, hn, h63', h48', Question.forced, hf1, ho1, newRow, grownCap]
  congr 2
  apply Array.ext'
  simp
theorem zeroCells_size (z : Array Value) (n : Nat) : (Builtin.zeroCells z n).size = n * z.size := by simp [Builtin.zeroCells]
theorem below_drew {B : Nat} {w w' : World} (h : Below B w.drew w') : Below B w w' := ⟨h.os, h.tape, h.output, h.size, h.block⟩
theorem WR.drew (h : WR σ ρ base H w) : WR σ ρ base H w.drew := ⟨h.blk, h.own, h.inj, h.base⟩

/-- the new row of an append that grows -/
theorem grow_ok {t u ty elem : TypeId} {xd : TypeDesc} {es by_ : Nat} {cs0 : List AVal} (ht : P.underlying t = some (.slice elem)) (hu : P.underlying u = some xd) (hxd : ∀ k, xd ≠ .int k) (hz : zeros P elem 0 = some (cs0, es)) (hb : bytesOf P elem = some by_)
    {a : Option Addr} {len c n : Nat} {x' : Value} {olds vs : List Value} {lo ln : List AVal} (hx : ∀ w, (Builtin.lenOf x').run P w = .ok n w) (hf : ∀ w2 : World, w2.heap = w.heap → (Builtin.firstCells es n x').run P w2 = .ok vs.toArray w2)
    (ho : ∀ w2 : World, w2.heap = w.heap → (Builtin.firstCells es len (.slice a len c)).run P w2 = .ok olds.toArray w2) (hgt : c < len + n) (hneed : len + n ≤ 16777216) (hby : by_ ≤ 65536)
    (hlo : RelL σ ρ lo olds) (hln : RelL σ ρ ln vs) (hol : olds.length = len * es) (hvl : vs.length = n * es) (hσ : One σ) (hwr : WR σ ρ base H w) (hfr : Free ρ H.next H'.next) {id : Nat} (h : newCells elem (lo ++ ln) H = some (id, H')) :
    Okay σ ρ base H H' w (fun ρ' v' => Rel σ ρ' (.slc id 0 (len + n) none es) v') ((Builtin.append_ #[t, u] ty #[.slice a len c, x']).run P w) := by
  obtain ⟨i, z, zz⟩ := zeros_spec (σ := σ) (ρ := ρ) hz hσ
  have hbi : i.bytes = by_ := by simp [bytesOf, zz.info] at hb; exact hb
  have hrun := append_grow (ty := ty) ht hu hxd zz.info zz.zero zz.size hx hf ho hgt hneed (by rw [hbi]; exact hby)
  obtain ⟨rfl, hn, hl, ρ', x1, x2, x3, x4⟩ := fresh_ok h hσ hwr.drew hfr (Builtin.zeroCells z.cells (grownCap w (len + n) c elem - (len + n))).toList (hlo.append hln)
  refine ⟨_, _, ρ', hrun, x1, x3, below_drew x4, ?_⟩
  unfold Rel
  have hge := grownCap_ge w (len + n) c elem
  refine ⟨_, _, _, x2, rfl, .inl ⟨rfl, ?_⟩, hge, fun k hk => by cases hk⟩
  simp only [List.length_append, hol, hvl, Array.length_toList, zeroCells_size, zz.zsize, Nat.zero_add]
  rw [← Nat.add_mul, ← Nat.add_mul]
  exact Nat.mul_le_mul_right _ (by omega)
theorem append_ok {st xt : TypeId} {s x v : AVal} {s' x' : Value} {ty : TypeId} (h : appendA P st xt s x H = some (v, H')) (hs : Rel σ ρ s s') (hx : Rel σ ρ x x') (hσ : One σ) (hwr : WR σ ρ base H w) (hf : Free ρ H.next H'.next) :
    Okay σ ρ base H H' w (fun ρ' v' => Rel σ ρ' v v') ((Builtin.append_ #[st, xt] ty #[s', x']).run P w) := by
  unfold appendA at h
  cases hu : P.underlying st with
  | none => simp only [hu] at h; exact (fail_some h).elim
  | some d =>
    cases hu2 : P.underlying xt with
    | none => cases d <;> simp only [hu, hu2] at h <;> exact (fail_some h).elim
    | some xd =>
      cases d with
      | slice elem =>
        simp only [hu, hu2] at h
        cases hn : lenX xd x with
        | none => simp only [hn] at h; exact (fail_some h).elim
        | some n =>
          have hxd : ∀ k, xd ≠ .int k := by intro k e; subst e; cases hn
          have hlen : lenOfA x = some n := by cases xd <;> first | exact hn | cases hn
          cases hz : zeros P elem 0 with
          | none => simp only [hn, hz] at h; exact (fail_some h).elim
          | some p =>
            obtain ⟨cs0, es⟩ := p
            cases hb : bytesOf P elem with
            | none => simp only [hn, hz, hb] at h; exact (fail_some h).elim
            | some by_ =>
              simp only [hn, hz, hb, frcN_eq] at h
              have hsz : sz P elem = some es := by
                obtain ⟨i, z, zz⟩ := zeros_spec (σ := σ) (ρ := ρ) hz hσ
                simp [sz, zz.info, zz.size]
              have hlo := lenOf_run (P := P) hlen hx
              split at h
              · -- a nil slice
                unfold Rel at hs; subst hs
                split at h
                · cases ret_some h
                  have hv : ∃ vs : List Value, vs = [] ∧ (Builtin.firstCells es 0 x').run P w = .ok vs.toArray w := by
                    refine ⟨[], rfl, ?_⟩
                    unfold lenOfA at hlen
                    split at hlen
                    · cases hlen
                      unfold Rel at hx; obtain ⟨L, off, c, hL, rfl, _⟩ := hx
                      simp [Builtin.firstCells, loadCells, loadCellsFrom]
                    · unfold Rel at hx; subst hx; simp [Builtin.firstCells]
                    · cases hlen
                  obtain ⟨vs, rfl, hv⟩ := hv
                  have := append_room (ty := ty) (a := none) (len := 0) (c := 0) hu hu2 hxd hsz hlo hv (by omega)
                  exact .same this hwr rfl rfl (by unfold Rel; rfl)
                · rename_i m
                  obtain ⟨hcd, h⟩ := cond_some h
                  rw [Bool.and_eq_true] at hcd
                  obtain ⟨l, K, h1, h2⟩ := bd_some h
                  obtain ⟨id, K2, h3, h4⟩ := bd_some h2
                  cases ret_some h4
                  obtain ⟨e1, e2, e3, vs, a1, a2, a3, a4, a5⟩ := firstA_ok (P := P) h1 hx hlen (Nat.le_refl _) hwr
                  have hwr' := hwr.log e1 e2
                  have := grow_ok (P := P) (ty := ty) (H := K) (H' := H') (a := none) (len := 0) (c := 0) (olds := []) (lo := []) (es := es) hu hu2 hxd hz hb hlo a5 (fun w2 _ => by simp [Builtin.firstCells]) (by omega) (by simpa [Nat.ble_eq] using hcd.1) (by simpa [Nat.ble_eq] using hcd.2)
                    .nil a2 (by simp) a1 hσ hwr' (by rw [e3]; exact hf) (by simpa using h3)
                  obtain ⟨b, w', ρ', p1, p2, p3, p4, p5⟩ := this
                  exact ⟨b, w', ρ', p1, by rw [← e3]; exact p2, p3, p4, by simpa using p5⟩
              · -- a slice
                rename_i b o len cap es'
                have hcs := cond_some h
                clear h
                obtain ⟨he, h⟩ := hcs
                have he := Nat.eq_of_beq_eq_true he
                subst he
                have hsrel := hs
                unfold Rel at hs
                obtain ⟨L, a, c, hL, rfl, hoff, hlc, hcap⟩ := hs
                -- which way
                have hway : (∃ dead, wayA cap len n = (true, dead) ∧ len + n ≤ c) ∨
                    (wayA cap len n = (false, false) ∧ c < len + n) ∨
                    (wayA cap len n = (false, true) ∧ n ≠ 0) := by
                  cases cap with
                  | none =>
                    cases hb : Nat.beq n 0 with
                    | true => have := Nat.eq_of_beq_eq_true hb; exact .inl ⟨true, by simp [wayA, hb], by omega⟩
                    | false => exact .inr (.inr ⟨by simp [wayA, hb], fun e => by subst e; simp at hb⟩)
                  | some c' =>
                    have := hcap c' rfl
                    cases hb : Nat.ble (len + n) c' with
                    | true => exact .inl ⟨false, by simp [wayA, hb], by rw [this]; simpa [Nat.ble_eq] using hb⟩
                    | false => exact .inr (.inl ⟨by simp [wayA, hb], by rw [this]; rw [← Nat.not_le, ← Nat.ble_eq, hb]; simp⟩)
                rcases hway with ⟨dead, hw1, hle⟩ | ⟨hw1, hgt⟩ | ⟨hw1, hn0⟩
                · -- in place, for sure
                  simp only [hw1] at h
                  split at h
                  · cases ret_some h
                    have hv : (Builtin.firstCells es 0 x').run P w = .ok ([] : List Value).toArray w := by
                      unfold lenOfA at hlen
                      split at hlen
                      · cases hlen
                        unfold Rel at hx; obtain ⟨L, off, c, hL, rfl, _⟩ := hx
                        simp [Builtin.firstCells, loadCells, loadCellsFrom]
                      · unfold Rel at hx; subst hx; simp [Builtin.firstCells]
                      · cases hlen
                    have := append_room (ty := ty) (a := some a) hu hu2 hxd hsz hlo hv hle
                    simp only [storeCells_nil, Result.andThen_ok] at this
                    exact .same this hwr rfl rfl hsrel
                  · rename_i m
                    obtain ⟨l, K, h1, h2⟩ := bd_some h
                    obtain ⟨_, K2, h3, h4⟩ := bd_some h2
                    cases ret_some h4
                    obtain ⟨e1, e2, e3, vs, a1, a2, a3, a4, a5⟩ := firstA_ok (P := P) h1 hx hlen (Nat.le_refl _) hwr
                    obtain ⟨rfl, hoc⟩ : a = ⟨L.blk, L.sh + o, none⟩ ∧ L.sh + o + c * es ≤ L.sz := by rcases hoff with h | h; exact h; omega
                    have hwr' := hwr.log e1 e2
                    obtain ⟨n1, l1, w', s1, s2, s3⟩ := storeCellsA_ok (P := P) h3 hσ hwr' hL a2
                    have := append_room (ty := ty) (a := some ⟨L.blk, L.sh + o, none⟩) hu hu2 hxd hsz hlo (a5 w rfl) hle
                    simp only [addr_add, Nat.add_assoc, s1, Result.andThen_ok] at this
                    refine ⟨_, w', ρ, this, .refl _ _ _, s2, s3, ?_⟩
                    unfold Rel
                    exact ⟨L, _, c, hL, rfl, .inl ⟨rfl, hoc⟩, hle, hcap⟩
                · -- a new row, for sure
                  simp only [hw1] at h
                  have hcs := cond_some h
                  clear h
                  obtain ⟨hcd, h⟩ := hcs
                  rw [Bool.and_eq_true] at hcd
                  obtain ⟨lo, K, h1, h2⟩ := bd_some h
                  obtain ⟨l, K2, h3, h4⟩ := bd_some h2
                  obtain ⟨_, K3, h5, h6⟩ := bd_some h4
                  simp only [cond_false] at h5
                  cases ret_some h5
                  obtain ⟨id, K4, h7, h8⟩ := bd_some h6
                  cases ret_some h8
                  obtain ⟨e1, e2, e3, olds, b1, b2, b3, b4, b5⟩ := firstA_ok (P := P) h1 hsrel rfl (Nat.le_refl _) hwr
                  have hwr1 := hwr.log e1 e2
                  obtain ⟨f1, f2, f3, vs, a1, a2, a3, a4, a5⟩ := firstA_ok (P := P) h3 hx hlen (Nat.le_refl _) hwr1
                  have hwr2 := hwr1.log f1 f2
                  have := grow_ok (P := P) (ty := ty) hu hu2 hxd hz hb hlo a5 b5 hgt (by simpa [Nat.ble_eq] using hcd.1) (by simpa [Nat.ble_eq] using hcd.2) b2 a2 b1 a1 hσ hwr2 (by rw [f3, e3]; exact hf) h7
                  obtain ⟨b, w', ρ', p1, p2, p3, p4, p5⟩ := this
                  exact ⟨b, w', ρ', p1, by rw [← e3, ← f3]; exact p2, p3, p4, p5⟩
                · -- nobody knows
                  simp only [hw1] at h
                  have hcs := cond_some h
                  clear h
                  obtain ⟨hcd, h⟩ := hcs
                  rw [Bool.and_eq_true] at hcd
                  obtain ⟨lo, K, h1, h2⟩ := bd_some h
                  obtain ⟨l, K2, h3, h4⟩ := bd_some h2
                  obtain ⟨_, K3, h5, h6⟩ := bd_some h4
                  simp only [cond_true] at h5
                  obtain ⟨id, K4, h7, h8⟩ := bd_some h6
                  cases ret_some h8
                  obtain ⟨e1, e2, e3, olds, b1, b2, b3, b4, b5⟩ := firstA_ok (P := P) h1 hsrel rfl (Nat.le_refl _) hwr
                  have hwr1 := hwr.log e1 e2
                  obtain ⟨f1, f2, f3, vs, a1, a2, a3, a4, a5⟩ := firstA_ok (P := P) h3 hx hlen (Nat.le_refl _) hwr1
                  have hwr2 := hwr1.log f1 f2
                  obtain ⟨bk, Kr, g1, g2⟩ := bd_some h5
                  obtain ⟨gb, g3, g4, g5⟩ := rd_some g1
                  cases bk with
                  | cells e2 ct N =>
                    obtain ⟨hee, g2'⟩ := cond_some g2
                    clear g2
                    have hee := Nat.eq_of_beq_eq_true hee
                    subst hee
                    obtain ⟨k1, _, k3, k4, k5⟩ := kill_some g2'
                    rw [g4] at k1 k4
                    have k3 : ∀ j, K3.blks.get j = if b = j then none else K2.blks.get j := fun j => by rw [k3, g3]
                    have hwr3 := hwr2.kill k3 k4
                    have hn3 : K3.next = H.next := by rw [k5, g5, f3, e3]
                    have hf3 : Free ρ K3.next H'.next := by rw [hn3]; exact hf
                    by_cases hroom : c < len + n
                    · have := grow_ok (P := P) (ty := ty) hu hu2 hxd hz hb hlo a5 b5 hroom (by simpa [Nat.ble_eq] using hcd.1) (by simpa [Nat.ble_eq] using hcd.2) b2 a2 b1 a1 hσ hwr3 hf3 h7
                      obtain ⟨b, w', ρ', p1, p2, p3, p4, p5⟩ := this
                      exact ⟨b, w', ρ', p1, by rw [← hn3]; exact p2, p3, p4, p5⟩
                    · have hle : len + n ≤ c := by omega
                      obtain ⟨rfl, hoc⟩ : a = ⟨L.blk, L.sh + o, none⟩ ∧ L.sh + o + c * es ≤ L.sz := by rcases hoff with h | h; exact h; omega
                      obtain ⟨L', hL', cc, fr, q1, q2, q3, q4, q5⟩ := hwr2.blk b _ gb
                      rw [hL] at hL'; cases hL'
                      have hfr := q2 k1
                      subst hfr
                      have hbase := hwr2.own b _ L gb hL k1
                      have hmul : (len + n) * es ≤ c * es := Nat.mul_le_mul_right _ hle
                      rw [Nat.add_mul] at hmul
                      obtain ⟨w', cc', s1, s2, s3, s4⟩ := run_storeCells (P := P) (k := L.sh + o + len * es) vs 0 w cc q1 (by rw [q3]; omega) a3
                      have hrun := append_room (ty := ty) (a := some ⟨L.blk, L.sh + o, none⟩) hu hu2 hxd hsz hlo (a5 w rfl) hle
                      simp only [addr_add, s1, Result.andThen_ok] at hrun
                      obtain ⟨rfl, hn, hl, ρ', x1, x2, x3, x4⟩ := newCells_ok h7 hσ hwr3 hf3 (sh := L.sh + o) s2 hbase (fun j bj Lj hj hLj => by
                          rw [k3] at hj
                          by_cases hbj : b = j
                          · rw [if_pos hbj] at hj; cases hj
                          · rw [if_neg hbj] at hj
                            exact (hwr2.inj b j _ _ L Lj gb hj hL hLj k1 hbj).symm) (by
                          have := b2.length; have := a2.length
                          simp only [List.length_append]; rw [s3, q3]; omega) (fun i x hx' => by
                          have l1 := b2.length
                          have l2 := a2.length
                          by_cases hi : i < lo.length
                          · rw [List.getElem?_append_left hi] at hx'
                            obtain ⟨y, hy, r⟩ := b2.get i x hx'
                            refine ⟨y, ?_, r⟩
                            rw [s4, if_neg (by omega)]
                            have hc := b4 _ _ rfl i y hy
                            rw [addr_add, cell_of q1] at hc
                            exact hc
                          · rw [List.getElem?_append_right (by omega)] at hx'
                            obtain ⟨y, hy, r⟩ := a2.get _ x hx'
                            refine ⟨y, ?_, r⟩
                            have hlt := (List.getElem?_eq_some_iff.1 hy).1
                            rw [s4, if_pos (by omega), ← hy]
                            congr 1; omega)
                      refine ⟨_, w', ρ', hrun, by rw [← hn3]; exact x1, x3, x4, ?_⟩
                      unfold Rel
                      exact ⟨_, _, c, x2, rfl, .inl ⟨rfl, by simp only [Nat.add_zero]; rw [s3, q3]; exact hoc⟩, hle, fun k hk => by cases hk⟩
                  | _ => exact (fail_some g2).elim
              · exact (fail_some h).elim
      | _ => simp only [hu, hu2] at h; exact (fail_some h).elim
end
end Go.AM
namespace Go.AM
open Go Go.RowKit

section
variable {P : Program} {σ : Nat → Value} {ρ : Ren} {base : Nat} {H H' : AHeap} {w : World}
theorem len_ok {t : TypeId} {x v : AVal} {x' : Value} {ty : TypeId} (h : lenA P t x H = some (v, H')) (hx : Rel σ ρ x x') (hwr : WR σ ρ base H w) (ts : List TypeId) :
    Okay σ ρ base H H' w (fun ρ' v' => Rel σ ρ' v v') ((Builtin.len_ (t :: ts).toArray ty #[x']).run P w) := by
  unfold lenA at h
  generalize hu : P.underlying t = d at h
  split at h
  · rename_i s
    cases ret_some h
    unfold Rel at hx; subst hx
    exact .same (b := goInt s.size) (by simp [Builtin.len_, run_underlying hu]) hwr rfl rfl (by unfold Rel; rfl)
  · rename_i n e
    cases ret_some h
    exact .same (b := goInt n) (by simp [Builtin.len_, run_underlying hu]) hwr rfl rfl (by unfold Rel; rfl)
  · rename_i e b o n c es
    cases ret_some h
    unfold Rel at hx
    obtain ⟨L, off, cc, _, rfl, _⟩ := hx
    exact .same (b := goInt n) (by simp [Builtin.len_, run_underlying hu]) hwr rfl rfl (by unfold Rel; rfl)
  · rename_i e
    cases ret_some h
    unfold Rel at hx; subst hx
    exact .same (b := goInt 0) (by simp [Builtin.len_, run_underlying hu]) hwr rfl rfl (by unfold Rel; rfl)
  · cases ret_some h
    unfold Rel at hx; subst hx
    exact .same (b := goInt 0) (by simp [Builtin.len_, run_underlying hu]) hwr rfl rfl (by unfold Rel; rfl)
  · rename_i kt et b
    obtain ⟨blk, K1, g1, g2⟩ := bd_some h
    obtain ⟨hb, e1, e2, e3⟩ := rd_some g1
    split at g2
    · rename_i es clock
      rw [frcN_eq] at g2
      cases ret_some g2
      unfold Rel at hx
      obtain ⟨L, hL, rfl⟩ := hx
      obtain ⟨L', hL', es', q1, q2⟩ := hwr.blk _ _ hb
      rw [hL] at hL'; cases hL'
      have hl : es'.size = es.length := by have := q2.len; simpa using this
      exact .same (b := goInt es'.size) (by simp [Builtin.len_, run_underlying hu, getObj, Sem.run, q1]) hwr e1 e2 (by unfold Rel; rw [hl]; rfl)
    · exact (fail_some g2).elim
  · exact (fail_some h).elim
/-! ### ranges over maps -/
theorem newBlk_ok' {b : ABlk} {id : Nat} {o : Obj} (h : nw b H = some (id, H')) (hwr : WR σ ρ base H w) (hf : Free ρ H.next H'.next) (hb : ∀ ρ', Le ρ ρ' → BR σ ρ' True ⟨w.heap.size, 0, 0⟩ b (some o)) :
    ∃ ρ', Ext ρ ρ' H.next H'.next ∧ WR σ ρ' base H' (w.alloc o) ∧ Below base w (w.alloc o) ∧ ρ' id = some ⟨w.heap.size, 0, 0⟩ := by
  obtain ⟨rfl, hlo, hk, hkl, hkn⟩ := nw_some h
  obtain ⟨ρ', x1, x2, x3, x4⟩ := hwr.new (L := ⟨w.heap.size, 0, 0⟩) (b := b) (hf H.next (Nat.le_refl _) (by omega)) (fun j bj Lj hj hLj => Nat.ne_of_lt (live_lt hwr hj hLj)) hwr.base
    (push_upd w o) (fun ρ' hle _ => hb ρ' hle) hk hkl hkn
  exact ⟨ρ', x1, x3, x4, x2⟩
theorem range_ok {t : TypeId} {x v : AVal} {x' : Value} (h : rangeA P t x H = some (v, H')) (hx : Rel σ ρ x x') (hwr : WR σ ρ base H w) (hf : Free ρ H.next H'.next) :
    Okay σ ρ base H H' w (fun ρ' v' => Rel σ ρ' v v') ((Instr.range t x').run P w) := by
  unfold rangeA at h
  generalize hu : P.underlying t = d at h
  split at h
  · rename_i kt et
    unfold Rel at hx; subst hx
    obtain ⟨id, K, h1, h2⟩ := bd_some h
    cases ret_some h2
    have := newBlk_ok' (o := .mapIter none 0 #[] 0) h1 hwr hf (fun ρ' _ => ⟨rfl, none, rfl, rfl⟩)
    obtain ⟨ρ', p1, p2, p3, p4⟩ := this
    exact ⟨.pointer (some ⟨w.heap.size, 0, none⟩), _, ρ', by simp [Instr.range, run_underlying hu, newObj, Sem.run], p1, p2, p3, by unfold Rel; exact ⟨_, p4, rfl⟩⟩
  · rename_i kt et b
    unfold Rel at hx
    obtain ⟨L, hL, rfl⟩ := hx
    obtain ⟨blk, K1, g1, g2⟩ := bd_some h
    obtain ⟨hb, e1, e2, e3⟩ := rd_some g1
    split at g2
    · rename_i es clock
      obtain ⟨id, K, h1, h2⟩ := bd_some g2
      cases ret_some h2
      obtain ⟨L', hL', es', q1, q2⟩ := hwr.blk _ _ hb
      rw [hL] at hL'; cases hL'
      have := newBlk_ok' (o := .mapIter (some L.blk) clock #[] clock) h1 (hwr.log e1 e2) (by rw [e3]; exact hf) (fun ρ' hle => ⟨rfl, some L.blk, ⟨L, hle _ _ hL, rfl⟩, rfl⟩)
      obtain ⟨ρ', p1, p2, p3, p4⟩ := this
      exact ⟨.pointer (some ⟨w.heap.size, 0, none⟩), _, ρ', by simp [Instr.range, run_underlying hu, getObj, Sem.run, q1, newObj, Sem.run], by rw [← e3]; exact p1, p2, p3, by unfold Rel; exact ⟨_, p4, rfl⟩⟩
    · exact (fail_some g2).elim
  · exact (fail_some h).elim
theorem findBorn_rel {n : Nat} {e : AEnt} : ∀ {es : List AEnt} {es' : List MapEntry}, EsRel σ ρ es es' → findBorn n es = some e → ∃ e', es'.find? (·.born == n) = some e' ∧ ERel σ ρ e e'
  | [], _, _, h => by cases h
  | a :: es, es', hr, h => by
    cases es' with
    | nil => have := hr.len; simp at this
    | cons a' es' =>
      have ha := hr.at_ 0 a a' rfl rfl
      have ht : EsRel σ ρ es es' := ⟨by have := hr.len; simpa using this, fun i x y hx hy => hr.at_ (i + 1) x y (by simpa using hx) (by simpa using hy)⟩
      unfold findBorn at h
      cases hb : Nat.beq a.born n with
      | true =>
        simp only [hb, cond_true] at h
        cases h
        have := Nat.eq_of_beq_eq_true hb
        exact ⟨a', by simp [List.find?, ha.born, this], ha⟩
      | false =>
        simp only [hb, cond_false] at h
        obtain ⟨e', h1, h2⟩ := findBorn_rel ht h
        have : ¬ a.born = n := fun e => by subst e; simp at hb
        exact ⟨e', by have hf : (a.born == n) = false := by simpa using this
                      simp [List.find?, ha.born, hf, h1], h2⟩
theorem lastN_eq : ∀ l : List Nat, lastN l = l.getLast?
  | [] => rfl
  | [_] => rfl
  | _ :: b :: l => by unfold lastN; rw [lastN_eq (b :: l)]; simp [List.getLast?_cons_cons]
theorem entry_ok {x v : AVal} {x' : Value} (h : entryA x H = some (v, H')) (hx : Rel σ ρ x x') (hwr : WR σ ρ base H w) :
    Okay σ ρ base H H' w (fun ρ' v' => Rel σ ρ' v v') ((Instr.entry x').run P w) := by
  unfold entryA at h
  split at h
  · rename_i r
    unfold Rel at hx
    obtain ⟨L, hL, rfl⟩ := hx
    obtain ⟨blk, K1, g1, g2⟩ := bd_some h
    obtain ⟨hb, e1, e2, e3⟩ := rd_some g1
    cases blk with
    | iter m since seen stepped =>
      cases m with
      | none => exact (fail_some g2).elim
      | some m =>
        simp only at g2
        generalize hst : lastN seen = ls at g2
        cases ls with
        | none => exact (fail_some g2).elim
        | some stamp =>
          obtain ⟨blk2, K2, g3, g4⟩ := bd_some g2
          obtain ⟨hb2, f1, f2, f3⟩ := rd_some g3
          cases blk2 with
          | map es clock =>
            obtain ⟨hc, g5⟩ := cond_some g4
            have hc := Nat.eq_of_beq_eq_true hc
            subst hc
            generalize he : findBorn stamp es = r1 at g5
            cases r1 with
            | none => exact (fail_some g5).elim
            | some e =>
              cases ret_some g5
              obtain ⟨L', hL', hsh, M, q1, q2⟩ := hwr.blk _ _ hb
              rw [hL] at hL'; cases hL'
              obtain ⟨D, q3, rfl⟩ := q1
              rw [e1] at hb2
              obtain ⟨D', hD', es', q4, q5⟩ := hwr.blk _ _ hb2
              rw [q3] at hD'; cases hD'
              obtain ⟨e', q6, q7⟩ := findBorn_rel q5 he
              rw [lastN_eq] at hst
              have q6' : es'.find? (·.born == stamp) = some e' := by rw [← Array.find?_toList]; exact q6
              have hback : seen.toArray.back? = some stamp := by simp [hst]
              exact .same (b := .tuple #[e'.key, e'.val]) (by
                simp only [Instr.entry, hsh, Nat.add_zero, getObj, Sem.run_bind, Sem.run, q2, q4, Result.andThen, hback, q6', bne_self_eq_false, Bool.false_eq_true, if_false]
                rfl) hwr (by rw [f1, e1]) (by rw [f2, e2]) (by
                  unfold Rel; exact ⟨_, rfl, .cons q7.key (.cons q7.val .nil)⟩)
          | _ => exact (fail_some g4).elim
    | _ => exact (fail_some g2).elim
  · exact (fail_some h).elim
theorem rel_undefL : Rel σ ρ .undef (.tuple #[]) := rel_undef
theorem clear_ok {t : TypeId} {x v : AVal} {x' : Value} {ty : TypeId} (h : clearA P t x H = some (v, H')) (hx : Rel σ ρ x x') (hσ : One σ) (hwr : WR σ ρ base H w) (ts : List TypeId) :
    Okay σ ρ base H H' w (fun ρ' v' => Rel σ ρ' v v') ((Builtin.clear_ (t :: ts).toArray ty #[x']).run P w) := by
  unfold clearA at h
  generalize hu : P.underlying t = d at h
  split at h
  · rename_i e
    cases ret_some h
    unfold Rel at hx; subst hx
    exact .same (b := .tuple #[]) (by simp [Builtin.clear_, run_underlying hu]) hwr rfl rfl rel_undefL
  · rename_i elem b o n c es
    cases hz : zeros P elem n with
    | none => simp only [hz] at h; exact (fail_some h).elim
    | some p =>
      obtain ⟨cs, es'⟩ := p
      simp only [hz] at h
      have hcs := cond_some h
      clear h
      obtain ⟨he, h⟩ := hcs
      have he := Nat.eq_of_beq_eq_true he
      subst he
      unfold Rel at hx
      obtain ⟨L, a, cc, hL, rfl, hoff, hlc, _⟩ := hx
      split at h
      · cases ret_some h
        exact .same (b := .tuple #[]) (by simp [Builtin.clear_, run_underlying hu]) hwr rfl rfl rel_undefL
      · rename_i m
        obtain ⟨_, K, h1, h2⟩ := bd_some h
        cases ret_some h2
        obtain ⟨i, z, zz⟩ := zeros_spec (σ := σ) (ρ := ρ) hz hσ
        obtain ⟨rfl, hoc⟩ : a = ⟨L.blk, L.sh + o, none⟩ ∧ L.sh + o + cc * es ≤ L.sz := by rcases hoff with h | h; exact h; omega
        obtain ⟨n1, l1, w', s1, s2, s3⟩ := storeCellsA_ok (P := P) h1 hσ hwr hL zz.rel
        refine ⟨.tuple #[], w', ρ, ?_, .refl _ _ _, s2, s3, rel_undefL⟩
        have hzc : Builtin.zeroCells z.cells (m + 1) = (replV (m + 1) z.cells.toList).toArray := cycle_eq z.cells (m + 1)
        simp [Builtin.clear_, run_underlying hu, zeroValue, typeInfo, zz.info, zz.zero, hzc, s1]
  · exact (fail_some h).elim
theorem min_run {l : List AVal} {x v : AVal} {l' : List Value} {x' : Value} (h : foldA min2A x l = some v) (hx : Rel σ ρ x x') (hl : RelL σ ρ l l') (w : World) :
    ∃ v', (l'.foldlM Builtin.min2 x').run P w = .ok v' w ∧ Rel σ ρ v v' := by
  induction l generalizing x x' l' with
  | nil => unfold RelL at hl; subst hl; cases h; exact ⟨x', by simp, hx⟩
  | cons y ys ih =>
    unfold RelL at hl
    obtain ⟨y', ys', rfl, hy, hys⟩ := hl
    simp only [foldA] at h
    split at h
    · rename_i z hz
      unfold min2A at hz
      split at hz
      · rename_i k a k' b
        obtain ⟨hk, hz'⟩ := condO_some hz
        clear hz
        have hk := kind_eq hk
        subst hk
        simp only [Option.some.injEq] at hz'
        subst hz'
        unfold Rel at hx hy; subst hx; subst hy
        obtain ⟨v', e, r⟩ := ih (x' := .int k (if b < a then b else a)) h (by unfold Rel; rw [ltI_eq]; by_cases hab : b < a <;> simp [hab]) hys
        exact ⟨v', by simp only [List.foldlM_cons, Builtin.min2, Sem.run_bind, Sem.run_pure, Result.andThen_ok]; exact e, r⟩
      · cases hz
    · cases h
theorem max_run {l : List AVal} {x v : AVal} {l' : List Value} {x' : Value} (h : foldA max2A x l = some v) (hx : Rel σ ρ x x') (hl : RelL σ ρ l l') (w : World) :
    ∃ v', (l'.foldlM Builtin.max2 x').run P w = .ok v' w ∧ Rel σ ρ v v' := by
  induction l generalizing x x' l' with
  | nil => unfold RelL at hl; subst hl; cases h; exact ⟨x', by simp, hx⟩
  | cons y ys ih =>
    unfold RelL at hl
    obtain ⟨y', ys', rfl, hy, hys⟩ := hl
    simp only [foldA] at h
    split at h
    · rename_i z hz
      unfold max2A at hz
      split at hz
      · rename_i k a k' b
        obtain ⟨hk, hz'⟩ := condO_some hz
        clear hz
        have hk := kind_eq hk
        subst hk
        simp only [Option.some.injEq] at hz'
        subst hz'
        unfold Rel at hx hy; subst hx; subst hy
        obtain ⟨v', e, r⟩ := ih (x' := .int k (if a < b then b else a)) h (by unfold Rel; rw [ltI_eq]; by_cases hab : a < b <;> simp [hab]) hys
        exact ⟨v', by simp only [List.foldlM_cons, Builtin.max2, Sem.run_bind, Sem.run_pure, Result.andThen_ok]; exact e, r⟩
      · cases hz
    · cases h
theorem sliceM_ok {t : TypeId} {x v : AVal} {lo hi mx : Option AVal} {x' : Value} {lo' hi' mx' : Option Value} (h : sliceM P t x lo hi mx H = some (v, H')) (hx : Rel σ ρ x x')
    (hlo : ORel σ ρ lo lo') (hhi : ORel σ ρ hi hi') (hmx : ORel σ ρ mx mx') (hwr : WR σ ρ base H w) :
    Okay σ ρ base H H' w (fun ρ' v' => Rel σ ρ' v v') ((Instr.sliceAt t x' lo' hi' mx').run P w) := by
  unfold sliceM at h
  generalize hu : P.underlying t = d at h
  split at h
  · rename_i n elem b o
    cases hs : sz P elem with
    | none => simp only [hs] at h; exact (fail_some h).elim
    | some es =>
      simp only [hs] at h
      obtain ⟨blk, K, h1, h2⟩ := bd_some h
      obtain ⟨hb, e1, e2, e3⟩ := rd_some h1
      cases blk with
      | cells e c N =>
        obtain ⟨hle, h3⟩ := cond_some h2
        obtain ⟨v', hv, he⟩ := lift_some h3
        cases he
        have hle : o + n * es ≤ N := by simpa [Nat.ble_eq] using hle
        obtain ⟨r, p1, p2⟩ := slice_run (P := P) hv hx hlo hhi hmx w (fun n' elem' b' o' L es' q1 q2 q3 q4 => by
          cases q2
          rw [hu] at q1; cases q1
          rw [hs] at q4; cases q4
          obtain ⟨L', hL', cc, fr, r1, r2, r3, r4, r5⟩ := hwr.blk b _ hb
          rw [q3] at hL'; cases hL'
          omega)
        exact .same p1 hwr e1 e2 p2
      | _ => exact (fail_some h2).elim
  · rename_i hno
    obtain ⟨v', hv, he⟩ := lift_some h
    cases he
    obtain ⟨r, p1, p2⟩ := slice_run (P := P) hv hx hlo hhi hmx w (fun n' elem' b' o' L es' q1 q2 q3 q4 => absurd q2 (fun e => hno _ _ _ _ (by rw [← hu, q1]) e))
    exact .same p1 hwr rfl rfl p2

/-! ### methods -/
inductive PlRel (σ : Nat → Value) (ρ : Ren) : APl → Place → Prop
  | val {v v'} (h : Rel σ ρ v v') : PlRel σ ρ (.val v) (.val v')
  | var {b o : Nat} {L : Loc} (h : ρ b = some L) : PlRel σ ρ (.var b o) (.var ⟨L.blk, L.sh + o, none⟩)
structure Same (H H' : AHeap) : Prop where
  blks : H'.blks = H.blks
  lo : H'.lo = H.lo
  next : H'.next = H.next
theorem Same.refl (H : AHeap) : Same H H := ⟨rfl, rfl, rfl⟩
theorem Same.trans {a b c : AHeap} (h : Same a b) (k : Same b c) : Same a c := ⟨k.blks.trans h.blks, k.lo.trans h.lo, k.next.trans h.next⟩
theorem get_ok {t : TypeId} {x : APl} {x' : Place} {v : AVal} (h : x.get P t H = some (v, H')) (hx : PlRel σ ρ x x') (hwr : WR σ ρ base H w) : Same H H' ∧ ∃ v', (x'.get t).run P w = .ok v' w ∧ Rel σ ρ v v' := by
  cases hx with
  | val hv => cases ret_some h; exact ⟨.refl _, _, rfl, hv⟩
  | var hL =>
    obtain ⟨e1, e2, e3, v', e, r⟩ := loadA_ok (P := P) h hwr hL
    exact ⟨⟨e1, e2, e3⟩, v', e, r⟩
theorem step_ok {s : FieldStep} {x : APl} {t : TypeId} {p : TypeId × APl} {x' : Place} (h : stepA P s x t H = some (p, H')) (hx : PlRel σ ρ x x') (hwr : WR σ ρ base H w) :
    Same H H' ∧ ∃ y', PlRel σ ρ p.2 y' ∧ ∀ rest, (follow (s :: rest) t x').run P w = (follow rest p.1 y').run P w := by
  unfold stepA at h
  generalize hu : P.underlying s.struct = d at h
  split at h
  · rename_i fields
    generalize hf : fields[s.index]? = f at h
    split at h
    · rename_i f
      generalize hs : sz P f.type = nn at h
      split at h
      · rename_i n
        cases hd : s.deref with
        | true =>
          simp only [hd, cond_true] at h
          obtain ⟨v, K, h1, h2⟩ := bd_some h
          obtain ⟨sm, v', e, r⟩ := get_ok (P := P) h1 hx hwr
          split at h2
          · rename_i b o
            cases ret_some h2
            unfold Rel at r
            obtain ⟨L, hL, rfl⟩ := r
            refine ⟨sm, .var ⟨L.blk, L.sh + o + f.offset, none⟩, by rw [Nat.add_assoc]; exact .var hL, fun rest => ?_⟩
            simp [follow, run_underlying hu, hf, hd, e, asAddr, fieldPlace, sz_run hs, addr_add]
          · exact (fail_some h2).elim
        | false =>
          simp only [hd, cond_false] at h
          cases hx with
          | var hL =>
            rename_i b o L
            cases ret_some h
            refine ⟨.refl _, .var ⟨L.blk, L.sh + o + f.offset, none⟩, by rw [Nat.add_assoc]; exact .var hL, fun rest => ?_⟩
            simp [follow, run_underlying hu, hf, hd, fieldPlace, sz_run hs, addr_add]
          | val hv =>
            rename_i v v'
            cases v with
            | agg cs =>
              simp only at h
              unfold Rel at hv
              obtain ⟨cs', rfl, hv⟩ := hv
              generalize hy : aPart P f.type cs f.offset = yy at h
              cases yy with
              | some y =>
                cases ret_some h
                obtain ⟨y', e, r⟩ := part_run hy hv w
                refine ⟨.refl _, .val y', .val r, fun rest => ?_⟩
                simp [follow, run_underlying hu, hf, hd, e]
              | none => exact (fail_some h).elim
            | _ => exact (fail_some h).elim
      · exact (fail_some h).elim
    · exact (fail_some h).elim
  · exact (fail_some h).elim
theorem follow_ok : ∀ (l : List FieldStep) {x : APl} {t : TypeId} {p : TypeId × APl} {x' : Place} {H H' : AHeap}, followA P l t x H = some (p, H') → PlRel σ ρ x x' → WR σ ρ base H w →
    Same H H' ∧ ∃ y', PlRel σ ρ p.2 y' ∧ (follow l t x').run P w = .ok (p.1, y') w
  | [], x, t, p, x', H, H', h, hx, hwr => by cases ret_some h; exact ⟨.refl _, x', hx, by simp [follow]⟩
  | s :: l, x, t, p, x', H, H', h, hx, hwr => by
    obtain ⟨q, K, h1, h2⟩ := bd_some h
    obtain ⟨sm, y', r, e⟩ := step_ok (P := P) h1 hx hwr
    obtain ⟨sm2, z', r2, e2⟩ := follow_ok l h2 r (hwr.log sm.blks sm.lo)
    exact ⟨sm.trans sm2, z', r2, (e l).trans e2⟩
theorem receiver_ok {xt : TypeId} {x : APl} {pr : Bool} {v : AVal} {x' : Place} {wr_ : Option String} (h : receiverA P xt x pr H = some (v, H')) (hx : PlRel σ ρ x x') (hwr : WR σ ρ base H w) :
    Same H H' ∧ ∃ v', (receiverAt xt x' pr wr_).run P w = .ok v' w ∧ Rel σ ρ v v' := by
  unfold receiverA at h
  generalize hu : P.underlying xt = du at h
  split at h
  · rename_i elem
    cases pr with
    | true =>
      simp only [cond_true] at h
      obtain ⟨sm, v', e, r⟩ := get_ok (P := P) h hx hwr
      exact ⟨sm, v', by simp [receiverAt, run_underlying hu, e], r⟩
    | false =>
      simp only [cond_false] at h
      obtain ⟨p, K, h1, h2⟩ := bd_some h
      obtain ⟨sm, v', e, r⟩ := get_ok (P := P) h1 hx hwr
      split at h2
      · rename_i b o
        unfold Rel at r
        obtain ⟨L, hL, rfl⟩ := r
        obtain ⟨e1, e2, e3, v', e', r'⟩ := loadA_ok (P := P) h2 (hwr.log sm.blks sm.lo) hL
        refine ⟨sm.trans ⟨e1, e2, e3⟩, v', ?_, r'⟩
        have hchk : ∀ name : String, Builtin.ssaWrapNilChk_ #[xt] xt #[.pointer (some ⟨L.blk, L.sh + o, none⟩), strVal "", strVal name] = pure (.pointer (some ⟨L.blk, L.sh + o, none⟩)) := fun _ => rfl
        cases wr_ <;> simp [receiverAt, run_underlying hu, e, hchk, asAddr, e']
      · exact (fail_some h2).elim
  · rename_i d hnp
    have hd : ∀ e, d ≠ .pointer e := fun e he => hnp e (by rw [he])
    cases pr with
    | true =>
      simp only [cond_true] at h
      cases hx with
      | val hv => exact (fail_some h).elim
      | var hL =>
        cases ret_some h
        refine ⟨.refl _, _, ?_, by unfold Rel; exact ⟨_, hL, rfl⟩⟩
        simp only [receiverAt, Sem.run_bind, run_underlying hu, Result.andThen_ok]
        cases d <;> first | exact absurd rfl (hd _) | rfl
    | false =>
      simp only [cond_false] at h
      obtain ⟨sm, v', e, r⟩ := get_ok (P := P) h hx hwr
      refine ⟨sm, v', ?_, r⟩
      simp only [receiverAt, Sem.run_bind, run_underlying hu, Result.andThen_ok]
      cases d <;> first | exact absurd rfl (hd _) | exact e
  · exact (fail_some h).elim
theorem method_ok {t : TypeId} {x : AVal} {name : String} {p : FuncId × AVal} {x' : Value} (h : methodA P t x name H = some (p, H')) (hx : Rel σ ρ x x') (hwr : WR σ ρ base H w) (n : Nat) :
    Same H H' ∧ ∃ r', (method (n + 1) t x' name).run P w = .ok (p.1, r') w ∧ Rel σ ρ p.2 r' := by
  unfold methodA at h
  generalize hi : P.info? t = ii at h
  split at h
  · rename_i i
    generalize hm : i.methods.find? (·.name == name) = mm at h
    split at h
    · rename_i m
      generalize hf : m.func = ff at h
      split at h
      · rename_i f pr
        obtain ⟨q, K, h1, h2⟩ := bd_some h
        obtain ⟨r, K2, h3, h4⟩ := bd_some h2
        cases ret_some h4
        obtain ⟨sm, y', r1, e1⟩ := follow_ok (P := P) m.path.toList h1 (.val hx) hwr
        obtain ⟨sm2, v', e2, r2⟩ := receiver_ok (P := P) (wr_ := if m.path.isEmpty then some ((name.splitOn ".").getLastD name) else none) h3 r1 (hwr.log sm.blks sm.lo)
        refine ⟨sm.trans sm2, v', ?_, r2⟩
        simp only [method, Sem.run_bind, info_run hi, Result.andThen_ok, hm, e1, hf, e2, Sem.run_pure]
      · exact (fail_some h).elim
    · exact (fail_some h).elim
  · exact (fail_some h).elim
/-! ### maps with keys that are numbers, texts or Booleans -/
theorem getObj_map {b clock : Nat} {es : Array MapEntry} (hb : w.heap[b]? = some (.map es clock)) : (getObj b).run P w = .ok (.map es clock) w := by simp [getObj, Sem.run, hb]
theorem EsRel.cons {e : AEnt} {es : List AEnt} {l : List MapEntry} (h : EsRel σ ρ (e :: es) l) : ∃ e' es', l = e' :: es' ∧ ERel σ ρ e e' ∧ EsRel σ ρ es es' := by
  cases l with
  | nil => have := h.len; simp at this
  | cons e' es' => exact ⟨e', es', rfl, h.at_ 0 _ _ rfl rfl, by have := h.len; simpa using this, fun i a b ha hb => h.at_ (i + 1) a b ha hb⟩
theorem EsRel.nil {l : List MapEntry} (h : EsRel σ ρ [] l) : l = [] := List.eq_nil_of_length_eq_zero h.len
theorem bytes_eq {x y : ByteArray} (h : (x == y) = true) : x = y := by
  cases x with
  | mk a =>
    cases y with
    | mk b =>
      have : (a == b) = true := h
      rw [eq_of_beq this]
theorem bytes_refl (x : ByteArray) : (x == x) = true := by
  cases x with
  | mk a => show (a == a) = true; exact beq_self_eq_true a
theorem keyEq_rel {kd : TypeDesc} {a b : AVal} {a' b' : Value} {r : Bool} (h : keyEq kd a b = some r) (ha : Rel σ ρ a a') (hb : Rel σ ρ b b') : Instr.sameNow kd a' b' = some r ∧ (r = true → a' = b' ∧ ∀ n, Instr.sameBits n b' a' = true) := by
  unfold keyEq at h
  split at h
  · split at h
    · obtain ⟨hk, h⟩ := condO_some h
      have hk := kind_eq hk
      cases h
      unfold Rel at ha hb
      subst ha; subst hb; subst hk
      refine ⟨by simp [Instr.sameNow, eqI_eq], fun e => ?_⟩
      rw [eqI_eq] at e
      have := eq_of_beq e
      subst this
      exact ⟨rfl, fun n => by cases n <;> simp [Instr.sameBits]⟩
    · cases h
  · split at h
    · cases h
      unfold Rel at ha hb
      subst ha; subst hb
      refine ⟨rfl, fun e => ?_⟩
      have := bytes_eq e
      subst this
      exact ⟨rfl, fun n => by cases n <;> simp [Instr.sameBits, bytes_refl]⟩
    · cases h
  · split at h
    · cases h
      unfold Rel at ha hb
      subst ha; subst hb
      refine ⟨rfl, fun e => ?_⟩
      have := eq_of_beq e
      subst this
      exact ⟨rfl, fun n => by cases n <;> simp [Instr.sameBits]⟩
    · cases h
  · cases h
theorem Rel.agg {cs : List AVal} {v : Value} (h : Rel σ ρ (.agg cs) v) : ∃ cs', v = .agg cs' ∧ RelL σ ρ cs cs'.toList := by unfold Rel at h; exact h
theorem sameP_rel : ∀ (n : Nat) {a b : AVal} {a' b' : Value}, sameP n a b = true → Rel σ ρ a a' → Rel σ ρ b b' → ∀ m, n ≤ m → Instr.sameBits m b' a' = true
  | 0, a, b, _, _, h, _, _, _, _ => by cases a <;> cases b <;> cases h
  | n + 1, a, b, a', b', h, ha, hb, m, hm => by
    obtain ⟨m, rfl⟩ : ∃ k, m = k + 1 := ⟨m - 1, by omega⟩
    unfold sameP at h
    split at h
    · unfold Rel at ha hb; subst ha; subst hb
      have := eq_of_beq h; subst this
      simp [Instr.sameBits]
    · unfold Rel at ha hb; subst ha; subst hb
      obtain ⟨h1, h2⟩ := Bool.and_eq_true_iff.1 h
      have := kind_eq h1; subst this
      rw [eqI_eq] at h2
      have := eq_of_beq h2; subst this
      simp [Instr.sameBits]
    · unfold Rel at ha hb; subst ha; subst hb
      have := bytes_eq h; subst this
      simp [Instr.sameBits, bytes_refl]
    · rename_i _ _ _ n' xs ys q4
      cases q4
      obtain ⟨xs', rfl, hx⟩ := ha.agg
      obtain ⟨ys', rfl, hy⟩ := hb.agg
      have key : ∀ (xs ys : List AVal) (xs' ys' : List Value), sameL (sameP n) xs ys = true → RelL σ ρ xs xs' → RelL σ ρ ys ys' → ys'.length = xs'.length ∧ (ys'.zip xs').all (fun (x, y) => Instr.sameBits m x y) = true := by
        intro xs
        induction xs with
        | nil =>
          intro ys xs' ys' h hx hy
          cases ys with
          | cons => cases h
          | nil => unfold RelL at hx hy; subst hx; subst hy; exact ⟨rfl, rfl⟩
        | cons x xs ih =>
          intro ys xs' ys' h hx hy
          cases ys with
          | nil => cases h
          | cons y ys =>
            unfold sameL at h
            obtain ⟨h1, h2⟩ := Bool.and_eq_true_iff.1 h
            unfold RelL at hx hy
            obtain ⟨x', xs2, rfl, hx1, hx2⟩ := hx
            obtain ⟨y', ys2, rfl, hy1, hy2⟩ := hy
            obtain ⟨e1, e2⟩ := ih _ _ _ h2 hx2 hy2
            exact ⟨by simp [e1], by simp only [List.zip_cons_cons, List.all_cons, e2, Bool.and_true]; exact sameP_rel n h1 hx1 hy1 m (by omega)⟩
      obtain ⟨e1, e2⟩ := key xs ys _ _ h hx hy
      simp only [Instr.sameBits]
      rw [Bool.and_eq_true_iff]
      exact ⟨by simpa using e1, e2⟩
    · cases h
theorem findNow_rel {kd : TypeDesc} {kt : TypeId} {k : AVal} {k' : Value} (hnd : aggD kd = false) (hk : Rel σ ρ k k') : ∀ (es : List AEnt) (es' : List MapEntry) (i : Nat) (r : Option (Nat × AVal)), findE P kt kd k es i = some r → EsRel σ ρ es es' →
    (r = none ∧ Instr.findNow kd k' es' i = some none) ∨ ∃ j v v' e', r = some (i + j, v) ∧ Instr.findNow kd k' es' i = some (some (i + j, v')) ∧ Rel σ ρ v v' ∧ es'[j]? = some e' ∧ Instr.sameBits 10000 e'.key k' = true := by
  intro es
  induction es with
  | nil =>
    intro es' i r h hr
    cases h
    rw [hr.nil]
    exact .inl ⟨rfl, rfl⟩
  | cons e es ih =>
    intro es' i r h hr
    obtain ⟨e', es2, rfl, he, hr⟩ := hr.cons
    simp only [findE, keyEqT, hnd] at h
    split at h
    · rename_i q
      cases h
      obtain ⟨q1, q2⟩ := keyEq_rel q hk he.key
      exact .inr ⟨0, e.val, e'.val, e', rfl, by simp [Instr.findNow, q1], he.val, rfl, (q2 rfl).2 _⟩
    · rename_i q
      obtain ⟨q1, _⟩ := keyEq_rel q hk he.key
      rcases ih es2 (i + 1) r h hr with ⟨h1, h2⟩ | ⟨j, v, v', e2, h1, h2, h3, h4, h5⟩
      · exact .inl ⟨h1, by simp [Instr.findNow, q1, h2]⟩
      · have : i + 1 + j = i + (j + 1) := by omega
        rw [this] at h1 h2
        exact .inr ⟨j + 1, v, v', e2, h1, by simp [Instr.findNow, q1, h2], h3, h4, h5⟩
    · cases h
theorem findAsking_rel {kd : TypeDesc} {kt : TypeId} {k : AVal} {k' : Value} (hnd : aggD kd = true) (hk : Rel σ ρ k k') (w : World) : ∀ (es : List AEnt) (es' : List MapEntry) (i : Nat) (r : Option (Nat × AVal)), findE P kt kd k es i = some r → EsRel σ ρ es es' →
    (r = none ∧ (Instr.findAsking kt k' es' i).run P w = .ok none w) ∨ ∃ j v v' e', r = some (i + j, v) ∧ (Instr.findAsking kt k' es' i).run P w = .ok (some (i + j, v')) w ∧ Rel σ ρ v v' ∧ es'[j]? = some e' ∧ Instr.sameBits 10000 e'.key k' = true := by
  intro es
  induction es with
  | nil =>
    intro es' i r h hr
    cases h
    rw [hr.nil]
    exact .inl ⟨rfl, by simp [Instr.findAsking]⟩
  | cons e es ih =>
    intro es' i r h hr
    obtain ⟨e', es2, rfl, he, hr⟩ := hr.cons
    simp only [findE, keyEqT, hnd] at h
    cases q : aEq P 30 kt k e.key with
    | none => simp only [q] at h; cases h
    | some b =>
      have e1 : (Op.equal kt k' e'.key).run P w = .ok b w := aEq_run 30 kt k e.key b k' e'.key q hk he.key 10000 (by decide) w
      cases b with
      | true =>
        simp only [q] at h
        cases q2 : sameP 10 k e.key with
        | false => simp only [q2, cond_false] at h; cases h
        | true =>
          simp only [q2, cond_true] at h
          cases h
          refine .inr ⟨0, e.val, e'.val, e', rfl, ?_, he.val, rfl, sameP_rel 10 q2 hk he.key 10000 (by decide)⟩
          unfold Instr.findAsking
          simp [e1]
      | false =>
        simp only [q] at h
        rcases ih es2 (i + 1) r h hr with ⟨h1, h2⟩ | ⟨j, v, v', e2, h1, h2, h3, h4, h5⟩
        · refine .inl ⟨h1, ?_⟩
          unfold Instr.findAsking
          simp [e1, h2]
        · have : i + 1 + j = i + (j + 1) := by omega
          rw [this] at h1 h2
          refine .inr ⟨j + 1, v, v', e2, h1, ?_, h3, h4, h5⟩
          unfold Instr.findAsking
          simp [e1, h2]
theorem findE_rel {kd : TypeDesc} {kt : TypeId} (hu : P.underlying kt = some kd) {k : AVal} {k' : Value} (hk : Rel σ ρ k k') (w : World) (es : List AEnt) (es' : List MapEntry) (r : Option (Nat × AVal)) (h : findE P kt kd k es 0 = some r) (hr : EsRel σ ρ es es') :
    (r = none ∧ (Instr.findKey kt k' es').run P w = .ok none w) ∨ ∃ j v v' e', r = some (0 + j, v) ∧ (Instr.findKey kt k' es').run P w = .ok (some (0 + j, v')) w ∧ Rel σ ρ v v' ∧ es'[j]? = some e' ∧ Instr.sameBits 10000 e'.key k' = true := by
  cases hnd : aggD kd with
  | false =>
    rcases findNow_rel hnd hk es es' 0 r h hr with ⟨h1, h2⟩ | ⟨j, v, v', e2, h1, h2, h3⟩
    · exact .inl ⟨h1, by simp [Instr.findKey, run_underlying hu, h2]⟩
    · exact .inr ⟨j, v, v', e2, h1, by simp only [Instr.findKey, Sem.run_bind, run_underlying hu, Result.andThen_ok, h2, Sem.run_pure], h3⟩
  | true =>
    have e0 : (Instr.findKey kt k' es').run P w = (Instr.findAsking kt k' es').run P w := by
      cases es' with
      | nil => simp [Instr.findKey, run_underlying hu, Instr.findNow, Instr.findAsking]
      | cons e es' => cases kd <;> first | (cases hnd; done) | simp [Instr.findKey, run_underlying hu, Instr.findNow, Instr.sameNow]
    rw [e0]
    exact findAsking_rel hnd hk w es es' 0 r h hr
theorem keyElems_run {ck : TypeId → AVal → Bool} {e : TypeId} {c : Nat} {b : Bool} {n : Nat} (w : World) (hs : (sizeOf e).run P w = .ok c w)
    (hck : ∀ t x x', ck t x = true → Rel σ ρ x x' → (Instr.checkKey b n t x').run P w = .ok () w) {cs : List AVal} {cs' : Array Value} (hr : RelL σ ρ cs cs'.toList) :
    ∀ (len i : Nat), keyElems P ck e c cs len i = true → (forIn (List.range' i len) PUnit.unit fun i _ => do
      Instr.checkKey b n e (← part e cs' (i * (← sizeOf e)))
      pure (ForInStep.yield PUnit.unit)).run P w = .ok PUnit.unit w := by
  intro len
  induction len with
  | zero => intro i _; simp
  | succ len ih =>
    intro i h
    unfold keyElems at h
    cases h1 : aPart P e cs (i * c) with
    | none => simp [h1] at h
    | some x =>
      simp only [h1] at h
      obtain ⟨h2, h3⟩ := Bool.and_eq_true_iff.1 h
      obtain ⟨x', e1, r1⟩ := part_run h1 hr w
      rw [List.range'_succ]
      simp only [List.forIn_cons, Sem.run_bind, hs, Result.andThen_ok, e1, hck _ _ _ h2 r1, Sem.run_pure]
      exact ih (i + 1) h3
theorem keyFields_run {ck : TypeId → AVal → Bool} {b : Bool} {n : Nat} (w : World)
    (hck : ∀ t x x', ck t x = true → Rel σ ρ x x' → (Instr.checkKey b n t x').run P w = .ok () w) {cs : List AVal} {cs' : Array Value} (hr : RelL σ ρ cs cs'.toList) :
    ∀ (fs : List Field), keyFields P ck cs fs = true → (forIn fs PUnit.unit fun (f : Field) _ => do
      if f.name ≠ "_" then
        Instr.checkKey b n f.type (← part f.type cs' f.offset)
        pure (ForInStep.yield PUnit.unit)
      else pure (ForInStep.yield PUnit.unit)).run P w = .ok PUnit.unit w := by
  intro fs
  induction fs with
  | nil => intro _; simp
  | cons f fs ih =>
    intro h
    unfold keyFields at h
    cases hn : f.name == "_" with
    | true =>
      simp only [hn, cond_true] at h
      have hn' : f.name = "_" := by simpa using hn
      simp only [List.forIn_cons, hn', ne_eq, not_true_eq_false, if_false, Sem.run_bind, Sem.run_pure, Result.andThen_ok]
      exact ih h
    | false =>
      simp only [hn, cond_false] at h
      have hn' : ¬ f.name = "_" := by simpa using hn
      cases h1 : aPart P f.type cs f.offset with
      | none => simp [h1] at h
      | some x =>
        simp only [h1] at h
        obtain ⟨h2, h3⟩ := Bool.and_eq_true_iff.1 h
        obtain ⟨x', e1, r1⟩ := part_run h1 hr w
        simp only [List.forIn_cons, hn', ne_eq, not_false_eq_true, if_true, Sem.run_bind, e1, Result.andThen_ok, hck _ _ _ h2 r1, Sem.run_pure]
        exact ih h3
theorem checkKey_run : ∀ (d : Nat) {t : TypeId} {k : AVal} {k' : Value}, keyOkT P d t k = true → Rel σ ρ k k' → ∀ (b : Bool) (D : Nat), d ≤ D → ∀ w, (Instr.checkKey b D t k').run P w = .ok () w
  | 0, _, _, _, h, _, _, _, _, _ => by cases h
  | d + 1, t, k, k', h, hk, b, D, hD, w => by
    obtain ⟨D, rfl⟩ : ∃ k, D = k + 1 := ⟨D - 1, by omega⟩
    unfold keyOkT at h
    generalize hu : P.underlying t = kd at h
    split at h
    · unfold Rel at hk; subst hk
      simp [Instr.checkKey, run_underlying hu]
    · unfold Rel at hk; subst hk
      simp [Instr.checkKey, run_underlying hu]
    · unfold Rel at hk; subst hk
      simp [Instr.checkKey, run_underlying hu]
    · rename_i len e cs
      obtain ⟨cs', rfl, hr⟩ := hk.agg
      cases hs : sz P e with
      | none => simp only [hs] at h; cases h
      | some c =>
        simp only [hs] at h
        unfold Instr.checkKey
        simp only [Sem.run_bind, run_underlying hu, Result.andThen_ok]
        simp only [Std.Legacy.Range.forIn_eq_forIn_range', Std.Legacy.Range.size, Nat.sub_zero, Nat.add_one_sub_one, Nat.div_one]
        have := keyElems_run (b := b) (n := D) w (sz_run hs w) (fun t x x' h1 r1 => checkKey_run d h1 r1 b D (by omega) w) hr len 0 h
        simp at this ⊢
        rw [this]
        rfl
    · rename_i fs cs
      obtain ⟨cs', rfl, hr⟩ := hk.agg
      unfold Instr.checkKey
      simp only [Sem.run_bind, run_underlying hu, Result.andThen_ok]
      rw [← Array.forIn_toList]
      have := keyFields_run (b := b) (n := D) w (fun t x x' h1 r1 => checkKey_run d h1 r1 b D (by omega) w) hr fs.toList h
      simp at this ⊢
      rw [this]
      rfl
    · cases h
theorem makeMap_ok {v : AVal} (h : makeMapA H = some (v, H')) (hwr : WR σ ρ base H w) (hf : Free ρ H.next H'.next) (t : TypeId) (o : Option Value) (ho : ∀ x, o = some x → ∃ k n a b, x = .int k n ∧ P.underlying t = some (.map a b)) :
    Okay σ ρ base H H' w (fun ρ' v' => Rel σ ρ' v v') ((Instr.makeMap t o).run P w) := by
  obtain ⟨id, K, h1, h2⟩ := bd_some h
  cases ret_some h2
  obtain ⟨rfl, hlo, hk, hkl, hkn⟩ := nw_some h1
  have hn : ρ H.next = none := hf H.next (Nat.le_refl _) (by omega)
  obtain ⟨ρ', x1, x2, x3, x4⟩ := hwr.new (L := ⟨w.heap.size, 0, 0⟩) (b := .map [] 0) hn (fun j bj Lj hj hLj => Nat.ne_of_lt (live_lt hwr hj hLj)) hwr.base (push_upd w (.map #[] 0)) (fun ρ' hle _ => ⟨#[], rfl, rfl, fun i e e' he _ => by simp at he⟩) hk hkl hkn
  refine ⟨.map (some w.heap.size), w.alloc (.map #[] 0), ρ', ?_, x1, x3, x4, by unfold Rel; exact ⟨_, x2, rfl⟩⟩
  cases o with
  | none => simp [Instr.makeMap]
  | some x =>
    obtain ⟨k, n, a, b, rfl, hu⟩ := ho x rfl
    simp [Instr.makeMap, run_underlying hu, asInt, asIntOf]
def lookRes (ok : Bool) (z : Value) : Option (Nat × Value) → Value
  | some (_, v) => if ok then .tuple #[v, .bool true] else v
  | none => if ok then .tuple #[z, .bool false] else z
theorem lookup_some {t kt et : TypeId} {kd : TypeDesc} {k' z : Value} {ok : Bool} {b clock : Nat} {es : Array MapEntry} {r : Option (Nat × Value)} (hu : P.underlying t = some (.map kt et)) (hku : P.underlying kt = some kd) (hc : ∀ b w, (Instr.checkKey b 10000 kt k').run P w = .ok () w)
    (hz : ∀ w, (zeroValue et).run P w = .ok z w) (hb : w.heap[b]? = some (.map es clock)) (hf : (Instr.findKey kt k' es.toList).run P w = .ok r w) : (Instr.lookup t (.map (some b)) k' ok).run P w = .ok (lookRes ok z r) w := by
  unfold Instr.lookup
  simp only [Sem.run_bind, run_underlying hu, Result.andThen_ok, getObj_map hb, Sem.run_pure, hc, hf]
  cases r with
  | none => simp only [Sem.run_bind, hz, Result.andThen_ok, Sem.run_pure]; rfl
  | some p => obtain ⟨j, v⟩ := p; simp only [Sem.run_bind, Result.andThen_ok, Sem.run_pure]; rfl
theorem lookup_none {t kt et : TypeId} {kd : TypeDesc} {k' z : Value} {ok : Bool} (hu : P.underlying t = some (.map kt et)) (hku : P.underlying kt = some kd) (hc : ∀ b w, (Instr.checkKey b 10000 kt k').run P w = .ok () w)
    (hz : ∀ w, (zeroValue et).run P w = .ok z w) : (Instr.lookup t (.map none) k' ok).run P w = .ok (lookRes ok z none) w := by
  unfold Instr.lookup
  have hf : (Instr.findKey kt k' (#[] : Array MapEntry).toList).run P w = .ok none w := by simp [Instr.findKey, run_underlying hku, Instr.findNow]
  simp only [Sem.run_bind, run_underlying hu, Result.andThen_ok, Sem.run_pure, hc, hf, hz]
  rfl
theorem lookRes_rel {ok : Bool} {z v : AVal} {z' v' : Value} (hz : Rel σ ρ z z') (hv : Rel σ ρ v v') (j : Nat) : Rel σ ρ (cond ok (.tup [v, .bool true]) v) (lookRes ok z' (some (j, v'))) ∧ Rel σ ρ (cond ok (.tup [z, .bool false]) z) (lookRes ok z' none) := by
  have two : ∀ {x : AVal} {x' : Value} (b : Bool), Rel σ ρ x x' → Rel σ ρ (.tup [x, .bool b]) (.tuple #[x', .bool b]) := fun b h => by
    unfold Rel
    exact ⟨_, rfl, .cons h (.cons (by unfold Rel; rfl) .nil)⟩
  cases ok with
  | true => exact ⟨two true hv, two false hz⟩
  | false => exact ⟨hv, hz⟩
theorem lookup_ok {t : TypeId} {x k v : AVal} {x' k' : Value} {ok : Bool} (h : lookupA P t x k ok H = some (v, H')) (hx : Rel σ ρ x x') (hk : Rel σ ρ k k') (hwr : WR σ ρ base H w) :
    Okay σ ρ base H H' w (fun ρ' v' => Rel σ ρ' v v') ((Instr.lookup t x' k' ok).run P w) := by
  unfold lookupA at h
  generalize hu : P.underlying t = d at h
  split at h
  · rename_i kt et
    generalize hku : P.underlying kt = kd at h
    generalize hz : zeroA P et = z at h
    split at h
    · rename_i kd z
      obtain ⟨hs, h⟩ := cond_some h
      obtain ⟨r, K, h1, h2⟩ := bd_some h
      clear h
      obtain ⟨z', hz1, hz2⟩ := zero_run (P := P) hz
      have hzr := hz2 σ ρ
      split at h1
      · cases ret_some h1
        cases ret_some h2
        unfold Rel at hx; subst hx
        exact .same (lookup_none hu hku (fun b w => checkKey_run 10 hs hk b 10000 (by decide) w) hz1) hwr rfl rfl (lookRes_rel hzr hzr 0).2
      · obtain ⟨blk, K1, g1, g2⟩ := bd_some h1
        obtain ⟨hb, e1, e2, e3⟩ := rd_some g1
        split at g2
        · obtain ⟨r', hr, e⟩ := lift_some g2
          cases e
          unfold Rel at hx
          obtain ⟨L, hL, rfl⟩ := hx
          obtain ⟨L', hL', es', q1, q2⟩ := hwr.blk _ _ hb
          rw [hL] at hL'; cases hL'
          rcases findE_rel hku hk w _ es'.toList r hr q2 with ⟨rfl, a2⟩ | ⟨j, v1, v', e', rfl, a2, a3, _⟩
          · cases ret_some h2
            exact .same (lookup_some hu hku (fun b w => checkKey_run 10 hs hk b 10000 (by decide) w) hz1 q1 a2) hwr e1 e2 (lookRes_rel hzr hzr 0).2
          · cases ret_some h2
            exact .same (lookup_some hu hku (fun b w => checkKey_run 10 hs hk b 10000 (by decide) w) hz1 q1 a2) hwr e1 e2 (lookRes_rel hzr a3 _).1
        · exact (fail_some g2).elim
      · exact (fail_some h1).elim
    · exact (fail_some h).elim
  · exact (fail_some h).elim
theorem setObj_map {b clock : Nat} {es : Array MapEntry} (o : Obj) (hb : w.heap[b]? = some (.map es clock)) : ∃ w', (setObj b o).run P w = .ok () w' ∧ Upd w b o w' := by
  have hlt := lt_of_get hb
  refine ⟨{ w with heap := w.heap.setIfInBounds b o }, by simp [setObj, Sem.run, hb], rfl, rfl, rfl, by simp, by simp [hlt], fun k hk => ?_⟩
  show (w.heap.setIfInBounds b o)[k]? = w.heap[k]?
  rw [Array.getElem?_setIfInBounds_ne (fun e => hk e.symm)]
theorem modE_get (f : AEnt → AEnt) : ∀ (es : List AEnt) (i j : Nat), (modE es i f)[j]? = if i = j then (es[j]?).map f else es[j]?
  | [], i, j => by simp [modE]
  | e :: es, 0, j => by cases j <;> simp [modE]
  | e :: es, i + 1, j => by
    cases j with
    | zero => simp [modE]
    | succ j => simp only [modE, List.getElem?_cons_succ, modE_get f es i j, Nat.add_right_cancel_iff]
theorem modE_length (f : AEnt → AEnt) : ∀ (es : List AEnt) (i : Nat), (modE es i f).length = es.length
  | [], _ => rfl
  | e :: es, 0 => rfl
  | e :: es, i + 1 => by simp [modE, modE_length f es i]
theorem EsRel.modify {es : List AEnt} {es' : Array MapEntry} {k v : AVal} {k' v' : Value} (h : EsRel σ ρ es es'.toList) (hk : Rel σ ρ k k') (hv : Rel σ ρ v v') (i : Nat) : EsRel σ ρ (modE es i fun e => { e with key := k, val := v }) (es'.modify i fun e => { e with key := k', val := v' }).toList := by
  refine ⟨by have := h.len; simp [modE_length] at this ⊢; exact this, fun j e e' he he' => ?_⟩
  rw [modE_get] at he
  rw [Array.getElem?_toList, Array.getElem?_modify] at he'
  have at_ := h.at_ j
  simp only [Array.getElem?_toList] at at_
  split at he
  · rename_i hij
    rw [if_pos hij] at he'
    rw [Option.map_eq_some_iff] at he
    obtain ⟨a, ha, rfl⟩ := he
    cases hb : es'[j]? with
    | none => rw [hb] at he'; cases he'
    | some b =>
      rw [hb] at he'; cases he'
      exact ⟨hk, hv, (at_ a b ha hb).born⟩
  · rename_i hij
    rw [if_neg hij] at he'
    exact at_ e e' he he'
theorem EsRel.push {es : List AEnt} {es' : Array MapEntry} {k v : AVal} {k' v' : Value} (h : EsRel σ ρ es es'.toList) (hk : Rel σ ρ k k') (hv : Rel σ ρ v v') (c : Nat) : EsRel σ ρ (es ++ [{ key := k, val := v, born := c }]) (es'.push { key := k', val := v', born := c }).toList := by
  have hl := h.len
  refine ⟨by simp at hl ⊢; exact hl, fun j e e' he he' => ?_⟩
  rw [Array.toList_push, List.getElem?_append] at he'
  rw [List.getElem?_append] at he
  rw [hl] at he'
  split at he
  · rename_i hlt
    rw [if_pos hlt] at he'
    exact h.at_ j e e' he he'
  · rename_i hlt
    rw [if_neg hlt] at he'
    cases q : j - es.length with
    | zero => rw [q] at he he'; cases he; cases he'; exact ⟨hk, hv, rfl⟩
    | succ n => rw [q] at he; cases he
theorem mapUpdate_ok {t : TypeId} {m k v : AVal} {m' k' v' : Value} {u : Unit} (h : mapUpdateA P t m k v H = some (u, H')) (hm : Rel σ ρ m m') (hk : Rel σ ρ k k') (hv : Rel σ ρ v v') (hwr : WR σ ρ base H w) :
    H'.next = H.next ∧ H'.lo = H.lo ∧ ∃ w', (Instr.mapUpdate t m' k' v').run P w = .ok () w' ∧ WR σ ρ base H' w' ∧ Below base w w' := by
  unfold mapUpdateA at h
  generalize hu : P.underlying t = d at h
  split at h
  · rename_i kt et b
    generalize hku : P.underlying kt = kd at h
    split at h
    · rename_i kd
      obtain ⟨hs, h⟩ := cond_some h
      obtain ⟨blk, K1, g1, g2⟩ := bd_some h
      clear h
      obtain ⟨hb, e1, e2, e3⟩ := rd_some g1
      split at g2
      · rename_i es clock
        obtain ⟨r, K2, g3, g4⟩ := bd_some g2
        obtain ⟨r', hr, e⟩ := lift_some g3
        cases e
        unfold Rel at hm
        obtain ⟨L, hL, rfl⟩ := hm
        obtain ⟨L', hL', es', q1, q2⟩ := hwr.blk _ _ hb
        rw [hL] at hL'; cases hL'
        have hc : (Instr.checkKey false 10000 kt k').run P w = .ok () w := checkKey_run 10 hs hk _ 10000 (by decide) _
        rcases findE_rel hku hk w _ es'.toList r hr q2 with ⟨rfl, a2⟩ | ⟨j, v1, v2, e', rfl, a2, a3, a4, a5⟩
        · simp only [frcN_eq] at g4
          obtain ⟨w1, _, w3, w4, w5⟩ := wr_some g4
          obtain ⟨w', s1, s2⟩ := setObj_map (P := P) (.map (es'.push { key := k', val := v', born := clock }) (clock + 1)) q1
          obtain ⟨p1, p2⟩ := hwr.put (K := H') (b := .map (es ++ [{ key := k, val := v, born := clock }]) (clock + 1)) hb hL (by rw [← e2]; exact w1) s2 ⟨_, rfl, q2.push hk hv clock⟩ (fun j => by rw [w3 j, e1]) (by rw [w4, e2])
          refine ⟨by rw [w5, e3], by rw [w4, e2], w', ?_, p1, p2⟩
          simp only [Instr.mapUpdate, Sem.run_bind, run_underlying hu, Result.andThen_ok, getObj_map q1, hc, a2, Sem.run_pure, s1]
        · simp only at g4
          rw [Nat.zero_add] at g4 a2
          obtain ⟨w1, _, w3, w4, w5⟩ := wr_some g4
          obtain ⟨w', s1, s2⟩ := setObj_map (P := P) (.map (es'.modify j fun e => { e with key := k', val := v' }) clock) q1
          obtain ⟨p1, p2⟩ := hwr.put (K := H') (b := .map (modE es j fun e => { e with key := k, val := v }) clock) hb hL (by rw [← e2]; exact w1) s2 ⟨_, rfl, q2.modify hk hv j⟩ (fun j => by rw [w3 j, e1]) (by rw [w4, e2])
          refine ⟨by rw [w5, e3], by rw [w4, e2], w', ?_, p1, p2⟩
          have hst : (Instr.keyThatStays (((es'[j]?).map (·.key)).getD k') k').run P w = .ok k' w := by
            rw [Array.getElem?_toList] at a4
            simp [Instr.keyThatStays, a4, a5]
          simp only [Instr.mapUpdate, Sem.run_bind, run_underlying hu, Result.andThen_ok, getObj_map q1, hc, a2, Sem.run_pure, hst, s1]
      · exact (fail_some g2).elim
    · exact (fail_some h).elim
  · exact (fail_some h).elim
theorem copy_ok {dT : TypeId} {d s v : AVal} {d' s' : Value} {ty : TypeId} {ts : List TypeId} (h : copyA P dT d s H = some (v, H')) (hd : Rel σ ρ d d') (hx : Rel σ ρ s s') (hσ : One σ) (hwr : WR σ ρ base H w) :
    Okay σ ρ base H H' w (fun ρ' v' => Rel σ ρ' v v') ((Builtin.copy_ (dT :: ts).toArray ty #[d', s']).run P w) := by
  unfold copyA at h
  generalize hu : P.underlying dT = u at h
  generalize hm : lenOfA s = m at h
  generalize hk : lenOfA d = k at h
  split at h
  · rename_i elem m k
    generalize hs : sz P elem = es at h
    split at h
    · rename_i es
      simp only [frcN_eq] at h
      obtain ⟨cs, K, h1, h2⟩ := bd_some h
      clear h
      obtain ⟨e1, e2, e3, vs, a1, a2, a3, a4, a5⟩ := firstA_ok (P := P) h1 hx hm (Nat.min_le_left _ _) hwr
      have hlo := lenOf_run (P := P) hm hx w
      have hf := a5 w rfl
      have hmin : Nat.min m k = min m k := rfl
      split at h2
      · rename_i b o l cap es'
        obtain ⟨hes, h3⟩ := cond_some h2
        have hes := Nat.eq_of_beq_eq_true hes
        subst hes
        unfold Rel at hd
        obtain ⟨L, a, c, hL, rfl, hoff, hlc, hcap⟩ := hd
        have hkl : l = k := Option.some.inj hk
        subst hkl
        generalize hn : min m l = n at *
        split at h3
        · cases ret_some h3
          have hvs : vs = [] := List.eq_nil_of_length_eq_zero (by rw [a1, Nat.zero_mul])
          subst hvs
          refine .same (b := goInt 0) ?_ hwr e1 e2 (by unfold Rel; rfl)
          simp [Builtin.copy_, run_underlying hu, hlo, sz_run hs, hmin, hn, hf, storeCells_nil]
        · rename_i n
          obtain ⟨u, K2, h4, h5⟩ := bd_some h3
          cases ret_some h5
          have ha : a = ⟨L.blk, L.sh + o, none⟩ := by
            rcases hoff with ⟨h, _⟩ | ⟨h, _⟩
            · exact h
            · subst h; simp at hn
          subst ha
          obtain ⟨n1, l1, w', s1, s2, s3⟩ := storeCellsA_ok (P := P) h4 hσ (hwr.log e1 e2) hL a2
          refine ⟨goInt (n + 1), w', ρ, ?_, .refl _ _ _, s2, s3, by unfold Rel; rfl⟩
          simp [Builtin.copy_, run_underlying hu, hlo, sz_run hs, hmin, hn, hf, s1]
      · rename_i hno
        cases ret_some h2
        have hd0 : d = .nilslc ∧ k = 0 := by
          unfold lenOfA at hk
          split at hk
          · exact absurd rfl (hno _ _ _ _ _)
          · cases hk; exact ⟨rfl, rfl⟩
          · cases hk
        obtain ⟨rfl, rfl⟩ := hd0
        unfold Rel at hd; subst hd
        simp only [Nat.min_zero] at hf
        refine .same (b := goInt 0) ?_ hwr e1 e2 (by unfold Rel; simp [goInt])
        have hmin0 : Nat.min m 0 = 0 := Nat.min_zero m
        simp [Builtin.copy_, run_underlying hu, hlo, sz_run hs, hmin0, hf]
    · exact (fail_some h).elim
  · exact (fail_some h).elim
theorem EsRel.erase {es : List AEnt} {es' : Array MapEntry} (h : EsRel σ ρ es es'.toList) (i : Nat) : EsRel σ ρ (es.eraseIdx i) (es'.eraseIdxIfInBounds i).toList := by
  have e : (es'.eraseIdxIfInBounds i).toList = es'.toList.eraseIdx i := by simp [Array.eraseIdxIfInBounds]; split <;> simp_all [List.eraseIdx_of_length_le]
  rw [e]
  have hl := h.len
  refine ⟨by rw [List.length_eraseIdx, List.length_eraseIdx, hl], fun j a b ha hb => ?_⟩
  rw [List.getElem?_eraseIdx] at ha hb
  split at ha
  · rename_i hlt; rw [if_pos hlt] at hb; exact h.at_ _ _ _ ha hb
  · rename_i hlt; rw [if_neg hlt] at hb; exact h.at_ _ _ _ ha hb
theorem delete_ok {t : TypeId} {m k v : AVal} {m' k' : Value} {ty : TypeId} {ts : List TypeId} (h : deleteA P t m k H = some (v, H')) (hm : Rel σ ρ m m') (hk : Rel σ ρ k k') (hwr : WR σ ρ base H w) :
    Okay σ ρ base H H' w (fun ρ' v' => Rel σ ρ' v v') ((Builtin.delete_ (t :: ts).toArray ty #[m', k']).run P w) := by
  unfold deleteA at h
  generalize hu : P.underlying t = d at h
  split at h
  · rename_i kt et
    generalize hku : P.underlying kt = kd at h
    split at h
    · rename_i kd
      obtain ⟨hs, h⟩ := cond_some h
      have hc : ∀ b, (Instr.checkKey b 10000 kt k').run P w = .ok () w := fun b => checkKey_run 10 hs hk _ 10000 (by decide) _
      split at h
      · cases ret_some h
        unfold Rel at hm; subst hm
        exact .same (b := .tuple #[]) (by simp [Builtin.delete_, run_underlying hu, hc]) hwr rfl rfl rel_undefL
      · rename_i b
        obtain ⟨blk, K1, g1, g2⟩ := bd_some h
        obtain ⟨hb, e1, e2, e3⟩ := rd_some g1
        split at g2
        · rename_i es clock
          obtain ⟨r, K2, g3, g4⟩ := bd_some g2
          obtain ⟨r', hr, e⟩ := lift_some g3
          cases e
          unfold Rel at hm
          obtain ⟨L, hL, rfl⟩ := hm
          obtain ⟨L', hL', es', q1, q2⟩ := hwr.blk _ _ hb
          rw [hL] at hL'; cases hL'
          rcases findE_rel hku hk w _ es'.toList r hr q2 with ⟨rfl, a2⟩ | ⟨j, v1, v2, e', rfl, a2, a3, a4, a5⟩
          · simp only at g4
            obtain ⟨u, K3, g5, g6⟩ := bd_some g4
            cases ret_some g6
            obtain ⟨w1, _, w3, w4, w5⟩ := wr_some g5
            obtain ⟨w', s1, s2⟩ := setObj_map (P := P) (.map es' clock) q1
            obtain ⟨p1, p2⟩ := hwr.put (K := H') (b := .map es clock) hb hL (by rw [← e2]; exact w1) s2 ⟨_, rfl, q2⟩ (fun j => by rw [w3 j, e1]) (by rw [w4, e2])
            refine ⟨.tuple #[], w', ρ, ?_, .refl _ _ _, p1, p2, rel_undefL⟩
            simp [Builtin.delete_, run_underlying hu, hc, getObj_map q1, a2, s1]
          · simp only at g4
            rw [Nat.zero_add] at g4 a2
            obtain ⟨u, K3, g5, g6⟩ := bd_some g4
            cases ret_some g6
            obtain ⟨w1, _, w3, w4, w5⟩ := wr_some g5
            obtain ⟨w', s1, s2⟩ := setObj_map (P := P) (.map (es'.eraseIdxIfInBounds j) clock) q1
            obtain ⟨p1, p2⟩ := hwr.put (K := H') (b := .map (es.eraseIdx j) clock) hb hL (by rw [← e2]; exact w1) s2 ⟨_, rfl, q2.erase j⟩ (fun j => by rw [w3 j, e1]) (by rw [w4, e2])
            refine ⟨.tuple #[], w', ρ, ?_, .refl _ _ _, p1, p2, rel_undefL⟩
            simp [Builtin.delete_, run_underlying hu, hc, getObj_map q1, a2, s1]
        · exact (fail_some g2).elim
      · exact (fail_some h).elim
    · exact (fail_some h).elim
  · exact (fail_some h).elim
end
end Go.AM
namespace Go.AM
open Go Go.RowKit

section
variable {P : Program} {σ : Nat → Value} {ρ : Ren} {base : Nat} {H H' : AHeap} {w : World} {nt : Nat} {T : Tmps} {a : Act}
theorem ev_rel {x : Operand} {v : AVal} (h : ev T x = some v) (hT : TRel σ ρ nt T a.tmps) : Rel σ ρ v (a.eval x) := by
  cases x with
  | tmp t =>
    have := hT.at_ t
    unfold tget at this
    simp only [ev] at h
    split at h
    · rename_i u hu; cases h; rw [hu] at this; exact this
    · rename_i hu; cases h; rw [hu] at this; exact this
  | const c => exact ofV_rel 2 c v h
  | global g => cases h
  | func f => cases h; unfold Rel; exact ⟨#[], #[], rfl, .nil, .nil⟩
theorem evs_rel : ∀ {l : List Operand} {vs : List AVal}, evs T l = some vs → TRel σ ρ nt T a.tmps → RelL σ ρ vs (l.map a.eval)
  | [], vs, h, _ => by cases h; exact .nil
  | x :: l, vs, h, hT => by
    unfold evs at h
    split at h
    · cases h
    · rename_i v hv
      split at h
      · cases h
      · rename_i us hus
        cases h
        exact .cons (ev_rel hv hT) (evs_rel hus hT)
theorem evParts_rel : ∀ {l : List (Nat × Operand)} {ps : List (Nat × AVal)}, evParts T l = some ps → TRel σ ρ nt T a.tmps → PRel σ ρ ps (l.map fun (i, x) => (i, a.eval x))
  | [], ps, h, _ => by cases h; exact .nil
  | (i, x) :: l, ps, h, hT => by
    unfold evParts at h
    split at h
    · rename_i v us hv hus
      cases h
      exact .cons (ev_rel hv hT) (evParts_rel hus hT)
    · cases h
theorem opt_rel {x : Option Operand} {v : Option AVal} (h : opt T x = some v) (hT : TRel σ ρ nt T a.tmps) : ORel σ ρ v (x.map a.eval) := by
  cases x with
  | none => cases h; exact .none
  | some x =>
    simp only [opt] at h
    split at h
    · rename_i u hu; cases h; exact .some (ev_rel hu hT)
    · cases h

/-- no function of the program is the one that counts goroutines -/
def NoNum (P : Program) : Prop := ∀ (k : FuncId) (fn : Func), P.funcs[k]? = some fn → fn.name ≠ "runtime.NumGoroutine"
/-- what an operation asks for next -/
def NRel (P : Program) (σ : Nat → Value) (ρ : Ren) (w : World) : ANext → Next → Prop
  | .val v, n => (∃ v', n = .value v' ∧ Rel σ ρ v v') ∨ (n = .skip ∧ v = .undef)
  | .enter f args, n => ∃ args' : Array Value, n = .enter f args' ∧ RelL σ ρ args args'.toList
  | .round l args, n => ∃ (L : Loc) (args' : Array Value), ρ l = some L ∧ RelL σ ρ args args'.toList ∧ (Instr.yield L.blk args').run P w = .ok n w
def OkayN (P : Program) (σ : Nat → Value) (ρ : Ren) (base : Nat) (H H' : AHeap) (w : World) (x : ANext) (r : Result Next) : Prop :=
  ∃ n w' ρ', r = .ok n w' ∧ Ext ρ ρ' H.next H'.next ∧ WR σ ρ' base H' w' ∧ Below base w w' ∧ NRel P σ ρ' w' x n
theorem OkayN.of_val {v : AVal} {s : Sem Value} (h : Okay σ ρ base H H' w (fun ρ' v' => Rel σ ρ' v v') (s.run P w)) : OkayN P σ ρ base H H' w (.val v) ((do pure (.value (← s)) : Sem Next).run P w) := by
  obtain ⟨b, w', ρ', e, x1, x2, x3, r⟩ := h
  exact ⟨.value b, w', ρ', by simp [e], x1, x2, x3, .inl ⟨b, rfl, r⟩⟩
theorem OkayN.pure {v : AVal} {s : Sem Value} {v' : Value} (h : s.run P w = .ok v' w) (hr : Rel σ ρ v v') (hwr : WR σ ρ base H w) : OkayN P σ ρ base H H w (.val v) ((do pure (.value (← s)) : Sem Next).run P w) :=
  .of_val (.same h hwr rfl rfl hr)
theorem isFn_run {k : FuncId} (hname : NoNum P) (h : isFn P k = true) (args : Array Value) (w : World) : (callFunc k args).run P w = .ok (.enter k args) w := by
  unfold isFn at h
  split at h
  · rename_i fn hfn
    have h1 : ¬ fn.name = "runtime.NumGoroutine" := hname k fn hfn
    have h2 : ¬ fn.body = none := by intro e; rw [e] at h; cases h
    simp [callFunc, hfn, h1, h2]
  · cases h
theorem go_ok {k : FuncId} {args : List AVal} {x : ANext} {args' : Array Value} (hname : NoNum P) (h : goA P k args H = some (x, H')) (hr : RelL σ ρ args args'.toList) (hwr : WR σ ρ base H w) :
    OkayN P σ ρ base H H' w x ((callFunc k args').run P w) := by
  obtain ⟨hf, h2⟩ := cond_some h
  cases ret_some h2
  exact ⟨_, w, ρ, isFn_run hname hf args' w, .refl _ _ _, hwr, .refl _ _, args', rfl, hr⟩
theorem meth_ok {t : TypeId} {v : AVal} {name : String} {args : List AVal} {x : ANext} {v' : Value} {args' : List Value} (hname : NoNum P)
    (h : bd (methodA P t v name) (fun p => goA P p.1 (p.2 :: args)) H = some (x, H')) (hv : Rel σ ρ v v') (hr : RelL σ ρ args args') (hwr : WR σ ρ base H w) :
    OkayN P σ ρ base H H' w x ((callMethod (.iface t v') name args'.toArray).run P w) := by
  obtain ⟨p, K, h1, h2⟩ := bd_some h
  obtain ⟨sm, r', e, r⟩ := method_ok (P := P) h1 hv hwr (P.types.size + Made.depth - 1)
  have hd : P.types.size + Made.depth - 1 + 1 = P.types.size + Made.depth := by have : 0 < Made.depth := by decide
                                                                                omega
  rw [hd] at e
  obtain ⟨n, w', ρ', q1, q2, q3, q4, q5⟩ := go_ok (args' := #[r'] ++ args'.toArray) hname h2 (by simpa using RelL.cons r hr) (hwr.log sm.blks sm.lo)
  refine ⟨n, w', ρ', ?_, by rw [← sm.next]; exact q2, q3, q4, q5⟩
  simp only [callMethod, Sem.run_bind, run_program, Result.andThen_ok, e]
  exact q1
theorem builtin_ok {b : Builtin} {ts : Array TypeId} {args : List AVal} {v : AVal} {args' : Array Value} {ty : TypeId} {cs : Array Bool} (h : builtinA P b ts.toList args H = some (v, H')) (hr : RelL σ ρ args args'.toList) (hσ : One σ) (hwr : WR σ ρ base H w) (hf : Free ρ H.next H'.next) :
    OkayN P σ ρ base H H' w (.val v) ((builtin b ts ty cs args').run P w) := by
  obtain ⟨ts⟩ := ts
  obtain ⟨args'⟩ := args'
  simp only at hr h
  unfold builtinA at h
  split at h
  · rename_i st xt s x
    unfold RelL at hr; obtain ⟨s', l1, rfl, hs, hr⟩ := hr
    unfold RelL at hr; obtain ⟨x', l2, rfl, hx, hr⟩ := hr
    unfold RelL at hr; subst hr
    exact .of_val (append_ok h hs hx hσ hwr hf)
  · rename_i t ts x
    unfold RelL at hr; obtain ⟨x', l2, rfl, hx, hr⟩ := hr
    unfold RelL at hr; subst hr
    exact .of_val (len_ok h hx hwr ts)
  · rename_i t ts x
    unfold RelL at hr; obtain ⟨x', l2, rfl, hx, hr⟩ := hr
    unfold RelL at hr; subst hr
    exact .of_val (clear_ok h hx hσ hwr ts)
  · rename_i x xs
    unfold RelL at hr; obtain ⟨x', l2, rfl, hx, hr⟩ := hr
    obtain ⟨r, hr1, hr2⟩ := lift_some h
    cases hr2
    obtain ⟨v', e, r⟩ := min_run (P := P) hr1 hx hr w
    exact .pure (s := Builtin.min_ _ _ _) (by simpa [Builtin.min_] using e) r hwr
  · rename_i x xs
    unfold RelL at hr; obtain ⟨x', l2, rfl, hx, hr⟩ := hr
    obtain ⟨r, hr1, hr2⟩ := lift_some h
    cases hr2
    obtain ⟨v', e, r⟩ := max_run (P := P) hr1 hx hr w
    exact .pure (s := Builtin.max_ _ _ _) (by simpa [Builtin.max_] using e) r hwr
  · rename_i t ts d s
    unfold RelL at hr; obtain ⟨d', l2, rfl, hd, hr⟩ := hr
    unfold RelL at hr; obtain ⟨s', l3, rfl, hs, hr⟩ := hr
    unfold RelL at hr; subst hr
    exact .of_val (copy_ok (ts := ts) h hd hs hσ hwr)
  · rename_i t ts d s
    unfold RelL at hr; obtain ⟨d', l2, rfl, hd, hr⟩ := hr
    unfold RelL at hr; obtain ⟨s', l3, rfl, hs, hr⟩ := hr
    unfold RelL at hr; subst hr
    exact .of_val (delete_ok (ts := ts) h hd hs hwr)
  · exact (fail_some h).elim
theorem yield_ok {l : Nat} {args : List AVal} {x : ANext} {args' : Array Value} {L : Loc} (h : bd (rd l) (fun blk => match blk with
        | .loop _ _ _ _ ps _ _ _ => cond (Nat.beq ps.length args.length) (ret (.round l args)) fail
        | _ => fail) H = some (x, H')) (hL : ρ l = some L) (hr : RelL σ ρ args args'.toList) (hwr : WR σ ρ base H w) :
    OkayN P σ ρ base H H' w x ((Instr.yield L.blk args').run P w) := by
  obtain ⟨blk, K, h1, h2⟩ := bd_some h
  obtain ⟨hb, e1, e2, e3⟩ := rd_some h1
  cases blk with
  | loop st pd nt T ps as bo d =>
    obtain ⟨hl, h3⟩ := cond_some h2
    cases ret_some h3
    have hl := Nat.eq_of_beq_eq_true hl
    obtain ⟨L', hL', fn, tm, D, _, q2, _⟩ := hwr.blk l _ hb
    rw [hL] at hL'; cases hL'
    have hsz : args'.size = ps.length := by have := hr.length; simp at this; omega
    have hrun : ∃ n, (Instr.yield L.blk args').run P w = .ok n w := by
      refine ⟨.round L.blk fn ((ps.toArray.zip args').foldl (fun tmps (x : Tmp × Value) => tmps.setIfInBounds x.1 x.2) tm) as bo, ?_⟩
      simp only [Instr.yield, Instr.getLoop, getObj, Sem.run_bind, Sem.run, q2, Result.andThen_ok]
      simp [hsz]
    obtain ⟨n, hn⟩ := hrun
    exact ⟨n, w, ρ, hn, by rw [← e3]; exact .refl _ _ _, hwr.log e1 e2, .refl _ _, L, args', hL, hr, hn⟩
  | _ => exact (fail_some h2).elim
theorem inv_method (name : String) (cap : Array Value) (v : Value) (X : Array Value) (w : World) : (invoke (.fn (.method name) cap) (#[v] ++ X)).run P w = (callMethod v name X).run P w := by
  have e0 : (#[v] ++ X)[0]? = some v := by rw [Array.getElem?_append_left (by simp)]; rfl
  have e1 : (#[v] ++ X).extract 1 (#[v] ++ X).size = X := by
    apply Array.ext'
    rw [Array.toList_extract]
    simp only [List.extract_eq_take_drop, Array.toList_append, List.singleton_append, List.drop_succ_cons, List.drop_zero, Array.size_append]
    rw [List.take_of_length_le (by simp)]
  simp only [invoke, e0, e1]
theorem call_ok {c : Call} {x : ANext} {ty : TypeId} (hname : NoNum P) (h : callA P T c H = some (x, H')) (hT : TRel σ ρ nt T a.tmps) (hσ : One σ) (hwr : WR σ ρ base H w) (hf : Free ρ H.next H'.next) :
    OkayN P σ ρ base H H' w x ((do let d ← resolve a.eval c ty; invoke d.target d.args : Sem Next).run P w) := by
  unfold callA at h
  generalize hargs : evs T c.args.toList = ao at h
  cases ao with
  | none => exact (fail_some h).elim
  | some args =>
    have hr := evs_rel hargs hT
    have hr' : RelL σ ρ args (c.args.map a.eval).toList := by simpa using hr
    simp only at h
    cases hc : c.callee with
    | builtin b =>
      simp only [hc] at h
      obtain ⟨v, K, h1, h2⟩ := bd_some h
      cases ret_some h2
      simp only [resolve, hc, invoke, Sem.run_bind, Sem.run_pure, Result.andThen_ok]
      exact builtin_ok (P := P) h1 hr' hσ hwr hf
    | invoke r name =>
      simp only [hc] at h
      generalize hrv : ev T r = rv at h
      split at h
      · rename_i t v
        have hv := ev_rel (a := a) hrv hT
        unfold Rel at hv
        obtain ⟨v', he, hv⟩ := hv
        have := meth_ok (P := P) hname h hv hr hwr
        simp only [resolve, hc, he, Sem.run_bind, Sem.run_pure, Result.andThen_ok, inv_method]
        have e : (List.map a.eval c.args.toList).toArray = Array.map a.eval c.args := by apply Array.ext'; simp
        rw [e] at this; exact this
      · exact (fail_some h).elim
    | value f =>
      simp only [hc] at h
      generalize hfv : ev T f = fv at h
      split at h
      · rename_i k first cap
        have hv := ev_rel (a := a) hfv hT
        unfold Rel at hv
        obtain ⟨fs, cs, he, h1, h2⟩ := hv
        have := go_ok (args' := fs ++ c.args.map a.eval ++ cs) hname h (by simpa using (h1.append hr).append h2) hwr
        simp only [resolve, hc, he, Deferred.ofValue, invoke, Sem.run_bind, Sem.run_pure, Result.andThen_ok]
        exact this
      · rename_i name t v cap
        have hv := ev_rel (a := a) hfv hT
        unfold Rel at hv
        obtain ⟨fs, cs, he, h1, h2⟩ := hv
        unfold RelL at h1
        obtain ⟨y, ys, hfs, h1, h3⟩ := h1
        unfold RelL at h3; subst h3
        unfold Rel at h1
        obtain ⟨v', rfl, h1⟩ := h1
        have hfs' : fs = #[.iface t v'] := by apply Array.ext'; rw [hfs]
        subst hfs'
        have := meth_ok (P := P) hname h h1 hr hwr
        simp only [resolve, hc, he, Deferred.ofValue, Sem.run_bind, Sem.run_pure, Result.andThen_ok, inv_method]
        have e : (List.map a.eval c.args.toList).toArray = Array.map a.eval c.args := by apply Array.ext'; simp
        rw [e] at this; exact this
      · rename_i l
        have hv := ev_rel (a := a) hfv hT
        unfold Rel at hv
        obtain ⟨L, hL, he⟩ := hv
        have := yield_ok (P := P) h hL hr' hwr
        simp only [resolve, hc, he, Deferred.ofValue, invoke, Sem.run_bind, Sem.run_pure, Result.andThen_ok]
        simpa using this
      · exact (fail_some h).elim
end
end Go.AM
namespace Go.AM
open Go Go.RowKit

section
variable {P : Program} {σ : Nat → Value} {ρ : Ren} {base : Nat} {H H' : AHeap} {w : World} {nt : Nat} {T : Tmps} {a : Act}
def okNil : Value → Bool
  | .pointer none | .nilIface | .nilFunc => false
  | .func (.method _) _ _ => false
  | _ => true
theorem nilCheck_okNil {x v : AVal} {x' : Value} (h : nilCheckA x = some v) (hx : Rel σ ρ x x') : v = x ∧ okNil x' = true := by
  have hv : v = x := by
    unfold nilCheckA at h
    split at h <;> first | (cases h; done) | (cases h; rfl)
  subst hv
  refine ⟨rfl, ?_⟩
  cases v
  case fn f as bs =>
    unfold Rel at hx
    obtain ⟨as', bs', rfl, _⟩ := hx
    cases f <;> first | rfl | (simp [nilCheckA] at h; done)
  all_goals (unfold Rel at hx; first
    | (simp [nilCheckA] at h; done)
    | (subst hx; rfl)
    | (obtain ⟨_, _, rfl⟩ := hx; rfl)
    | (obtain ⟨_, _, _, _, rfl, _⟩ := hx; rfl)
    | (obtain ⟨_, rfl, _⟩ := hx; rfl))
theorem nil_exec {y : Operand} {dst : Option Tmp} {type : TypeId} {pos : String} {after : Array Edge} {guard : Option (Nat × Bool)} (h : okNil (a.eval y) = true) (w : World) :
    (execOp a.eval { dst, op := .nilCheck y, type, pos, after, guard }).run P w = .ok (.value (a.eval y)) w := by
  simp only [execOp]
  generalize a.eval y = x' at *
  cases x' with
  | pointer q => cases q <;> first | rfl | (simp [okNil] at h; done)
  | func f as bs => cases f <;> first | rfl | (simp [okNil] at h; done)
  | _ => first | rfl | (simp [okNil] at h; done)
/-- a pure operation -/
theorem pure_ok {o : Option AVal} {x : ANext} {s : Sem Value} (h : bd (lift o) (fun x => ret (ANext.val x)) H = some (x, H')) (hwr : WR σ ρ base H w)
    (hs : ∀ v, o = some v → ∃ v', s.run P w = .ok v' w ∧ Rel σ ρ v v') : OkayN P σ ρ base H H' w x ((do pure (.value (← s)) : Sem Next).run P w) := by
  obtain ⟨v, K, h1, h2⟩ := bd_some h
  obtain ⟨v', hv, e⟩ := lift_some h1
  cases e
  cases ret_some h2
  obtain ⟨u, e, r⟩ := hs v hv
  exact .pure e r hwr
theorem val_ok {m : M AVal} {x : ANext} {s : Sem Value} (h : bd m (fun x => ret (ANext.val x)) H = some (x, H'))
    (hs : ∀ v, m H = some (v, H') → Okay σ ρ base H H' w (fun ρ' v' => Rel σ ρ' v v') (s.run P w)) : OkayN P σ ρ base H H' w x ((do pure (.value (← s)) : Sem Next).run P w) := by
  obtain ⟨v, K, h1, h2⟩ := bd_some h
  cases ret_some h2
  exact .of_val (hs v h1)
theorem op_ok {o : Oper} {x : ANext} (hname : NoNum P) (h : opA P T o.op H = some (x, H')) (hT : TRel σ ρ nt T a.tmps) (hσ : One σ) (hwr : WR σ ρ base H w) (hf : Free ρ H.next H'.next) :
    OkayN P σ ρ base H H' w x ((execOp a.eval o).run P w) := by
  obtain ⟨dst, op, type, pos, after, guard⟩ := o
  simp only at h
  unfold opA at h
  cases op <;> simp only [execOp] at h ⊢ <;> try (exact (fail_some h).elim)
  case move y =>
    generalize hy : ev T y = v at h
    cases v with
    | none => exact (fail_some h).elim
    | some v =>
      obtain ⟨_, K, h1, h2⟩ := bd_some h
      cases ret_some h1; cases ret_some h2
      exact ⟨_, w, ρ, rfl, .refl _ _ _, hwr, .refl _ _, .inl ⟨_, rfl, ev_rel hy hT⟩⟩
  case assign y =>
    generalize hy : ev T y = v at h
    cases v with
    | none => exact (fail_some h).elim
    | some v =>
      obtain ⟨_, K, h1, h2⟩ := bd_some h
      cases ret_some h1; cases ret_some h2
      exact ⟨_, w, ρ, rfl, .refl _ _ _, hwr, .refl _ _, .inl ⟨_, rfl, ev_rel hy hT⟩⟩
  case pick c y z =>
    generalize hc : ev T c = v at h
    split at h
    · rename_i t
      have hcr := ev_rel (a := a) hc hT
      unfold Rel at hcr
      cases t with
      | true =>
        simp only [cond_true] at h
        generalize hy : ev T y = v at h
        cases v with
        | none => exact (fail_some h).elim
        | some v =>
          obtain ⟨_, K, h1, h2⟩ := bd_some h
          cases ret_some h1; cases ret_some h2
          exact ⟨_, w, ρ, by simp [hcr, asBool], .refl _ _ _, hwr, .refl _ _, .inl ⟨_, rfl, ev_rel hy hT⟩⟩
      | false =>
        simp only [cond_false] at h
        generalize hy : ev T z = v at h
        cases v with
        | none => exact (fail_some h).elim
        | some v =>
          obtain ⟨_, K, h1, h2⟩ := bd_some h
          cases ret_some h1; cases ret_some h2
          exact ⟨_, w, ρ, by simp [hcr, asBool], .refl _ _ _, hwr, .refl _ _, .inl ⟨_, rfl, ev_rel hy hT⟩⟩
    · exact (fail_some h).elim
  case alloc t => exact val_ok h fun v hv => alloc_ok hv hσ hwr hf
  case box t y =>
    generalize hy : ev T y = v at h
    cases v with
    | none => exact (fail_some h).elim
    | some v => exact val_ok h fun u hu => box_ok hu (ev_rel hy hT) hσ hwr hf
  case build t ps =>
    generalize hy : evParts T ps.toList = v at h
    cases v with
    | none => exact (fail_some h).elim
    | some l => exact pure_ok h hwr fun v hv => build_run hv (by simpa using evParts_rel (a := a) hy hT) hσ w
  case buildSlice t n ps =>
    generalize hy : evParts T ps.toList = v at h
    cases v with
    | none => exact (fail_some h).elim
    | some l => exact val_ok h fun v hv => buildSlice_ok hv (by simpa using evParts_rel (a := a) hy hT) hσ hwr hf
  case load t y =>
    by_cases hgl : ∃ g, y = .global g
    · obtain ⟨g, rfl⟩ := hgl
      refine val_ok h fun u hu => ?_
      obtain ⟨e1, e2, e3, v', e, r⟩ := gloadA_ok (P := P) hu hwr
      exact .same (by simp [Instr.loadAt, Instr.sureAddr, Act.eval, e]) hwr e1 e2 r
    replace h : (match ev T y with
      | some p => bd (match p with
        | .ptr b o => loadA P t b o
        | _ => fail) fun r => ret (ANext.val r)
      | none => fail) H = some (x, H') := by
      cases y <;> first | exact absurd ⟨_, rfl⟩ hgl | exact h
    generalize hy : ev T y = v at h
    cases v with
    | none => exact (fail_some h).elim
    | some v =>
      refine val_ok h fun u hu => ?_
      have hr := ev_rel (a := a) hy hT
      split at hu
      · rename_i b o
        unfold Rel at hr
        obtain ⟨L, hL, he⟩ := hr
        obtain ⟨e1, e2, e3, v', e, r⟩ := loadA_ok (P := P) hu hwr hL
        exact .same (by simp [Instr.loadAt, he, Instr.sureAddr, e]) hwr e1 e2 r
      · exact (fail_some hu).elim
  case store t y z =>
    generalize hy : ev T y = v at h
    generalize hz : ev T z = u at h
    cases v with
    | none => exact (fail_some h).elim
    | some v =>
      cases u with
      | none => exact (fail_some h).elim
      | some u =>
        obtain ⟨_, K, h1, h2⟩ := bd_some h
        cases ret_some h2
        have hr := ev_rel (a := a) hy hT
        have hq := ev_rel (a := a) hz hT
        unfold storeA at h1
        split at h1
        · rename_i b o
          generalize hs : sz P t = n at h1
          cases n with
          | none => exact (fail_some h1).elim
          | some n =>
            obtain ⟨hl, h3⟩ := cond_some h1
            have hl := Nat.eq_of_beq_eq_true hl
            unfold Rel at hr
            obtain ⟨L, hL, he⟩ := hr
            have hcs := rel_cells hσ hq
            obtain ⟨n1, l1, w', s1, s2, s3⟩ := storeCellsA_ok (P := P) h3 hσ hwr hL hcs
            have hsize : (a.eval z).cells.size = n := by have := hcs.length; simp at this; omega
            exact ⟨.skip, w', ρ, by simp [Instr.storeAt, he, Instr.sureAddr, storeVar, sz_run hs, hsize, s1], .refl _ _ _, s2, s3, .inr ⟨rfl, rfl⟩⟩
        · exact (fail_some h1).elim
  case sliceToArrayPointer t y =>
    generalize hy : ev T y = v at h
    cases v with
    | none => exact (fail_some h).elim
    | some v =>
      refine pure_ok h hwr fun u hu => ?_
      have hr := ev_rel (a := a) hy hT
      unfold s2apA at hu
      generalize hd : P.underlying t = d at hu
      split at hu
      · rename_i n e b o len c es
        obtain ⟨hl, hu⟩ := condO_some hu
        cases hu
        obtain ⟨h1, h2⟩ := Bool.and_eq_true_iff.1 hl
        have h1 := Nat.le_of_ble_eq_true h1
        have h2 : 0 < len := Nat.le_of_ble_eq_true h2
        unfold Rel at hr
        obtain ⟨L, a', c', hL, hv, hor, _⟩ := hr
        have ha : a' = ⟨L.blk, L.sh + o, none⟩ := by
          rcases hor with ⟨h, _⟩ | ⟨h, _⟩
          · exact h
          · omega
        refine ⟨.pointer (some ⟨L.blk, L.sh + o, none⟩), ?_, by unfold Rel; exact ⟨L, hL, rfl⟩⟩
        have hnl : ¬ len < n := by omega
        simp [Instr.arrayAt, run_underlying hd, hv, ha, hnl]
      · cases hu
  case nilCheck y =>
    generalize hy : ev T y = v at h
    cases v with
    | none => exact (fail_some h).elim
    | some v =>
      obtain ⟨u, K, h1, h2⟩ := bd_some h
      obtain ⟨u', hu, e⟩ := lift_some h1
      cases e
      cases ret_some h2
      obtain ⟨rfl, r⟩ := nilCheck_okNil hu (ev_rel (a := a) hy hT)
      exact ⟨_, w, ρ, nil_exec (dst := dst) (type := type) (pos := pos) (after := after) (guard := guard) r w, .refl _ _ _, hwr, .refl _ _, .inl ⟨_, rfl, ev_rel hy hT⟩⟩
  case binOp op t y z t2 =>
    generalize hy : ev T y = v at h
    generalize hz : ev T z = u at h
    cases v with
    | none => exact (fail_some h).elim
    | some v =>
      cases u with
      | none => exact (fail_some h).elim
      | some u => exact pure_ok h hwr fun r hr => binA_run hr (ev_rel hy hT) (ev_rel hz hT) w
  case unOp op t y =>
    generalize hy : ev T y = v at h
    cases v with
    | none => exact (fail_some h).elim
    | some v => exact pure_ok h hwr fun r hr => unary_run hr (ev_rel hy hT) w
  case convert s d y =>
    generalize hy : ev T y = v at h
    cases v with
    | none => exact (fail_some h).elim
    | some v => exact pure_ok h hwr fun r hr => convert_run hr (ev_rel hy hT) w
  case makeInterface t y =>
    generalize hy : ev T y = v at h
    cases v with
    | none => exact (fail_some h).elim
    | some v => exact pure_ok h hwr fun r hr => makeIface_run hr (ev_rel hy hT) w
  case makeFunc f fs cs =>
    have key : ∀ g : Fn, (match evs T fs.toList, evs T cs.toList with
        | some a, some b => ret (ANext.val (.fn g a b))
        | _, _ => fail) H = some (x, H') → OkayN P σ ρ base H H' w x ((do pure (.value (← Instr.makeFunc g (fs.map a.eval) (cs.map a.eval))) : Sem Next).run P w) := by
      intro g h
      generalize h1 : evs T fs.toList = l1 at h
      generalize h2 : evs T cs.toList = l2 at h
      cases l1 with
      | none => exact (fail_some h).elim
      | some l1 =>
        cases l2 with
        | none => exact (fail_some h).elim
        | some l2 =>
          cases ret_some h
          have r1 := evs_rel (a := a) h1 hT
          have r2 := evs_rel (a := a) h2 hT
          exact .pure (v' := .func g (fs.map a.eval) (cs.map a.eval)) rfl (by unfold Rel; exact ⟨_, _, rfl, by simpa using r1, by simpa using r2⟩) hwr
    cases f with
    | func k => exact key _ h
    | method n => exact key _ h
    | _ => exact (fail_some h).elim
  case makeSlice t y z =>
    generalize hy : ev T y = v at h
    generalize hz : ev T z = u at h
    cases v with
    | none => exact (fail_some h).elim
    | some v =>
      cases u with
      | none => exact (fail_some h).elim
      | some u => exact val_ok h fun r hr => makeSlice_ok hr (ev_rel hy hT) (ev_rel hz hT) hσ hwr hf
  case slice t y lo hi mx =>
    generalize hy : ev T y = v at h
    generalize hlo : opt T lo = o1 at h
    generalize hhi : opt T hi = o2 at h
    generalize hmx : opt T mx = o3 at h
    cases v with
    | none => exact (fail_some h).elim
    | some v =>
      cases o1 with
      | none => exact (fail_some h).elim
      | some o1 =>
        cases o2 with
        | none => exact (fail_some h).elim
        | some o2 =>
          cases o3 with
          | none => exact (fail_some h).elim
          | some o3 => exact val_ok h fun r hr => sliceM_ok hr (ev_rel hy hT) (opt_rel hlo hT) (opt_rel hhi hT) (opt_rel hmx hT) hwr
  case fieldAddr s y f =>
    generalize hy : ev T y = v at h
    cases v with
    | none => exact (fail_some h).elim
    | some v => exact pure_ok h hwr fun r hr => fieldAddr_run hr (ev_rel hy hT) w
  case field s y f =>
    generalize hy : ev T y = v at h
    cases v with
    | none => exact (fail_some h).elim
    | some v => exact pure_ok h hwr fun r hr => field_run hr (ev_rel hy hT) w
  case indexAddr t y z =>
    generalize hy : ev T y = v at h
    generalize hz : ev T z = u at h
    cases v with
    | none => exact (fail_some h).elim
    | some v =>
      cases u with
      | none => exact (fail_some h).elim
      | some u => exact pure_ok h hwr fun r hr => indexAddr_run hr (ev_rel hy hT) (ev_rel hz hT) w
  case index t y z =>
    generalize hy : ev T y = v at h
    generalize hz : ev T z = u at h
    cases v with
    | none => exact (fail_some h).elim
    | some v =>
      cases u with
      | none => exact (fail_some h).elim
      | some u => exact pure_ok h hwr fun r hr => index_run hr (ev_rel hy hT) (ev_rel hz hT) w
  case typeAssert y t as_ ok =>
    generalize hy : ev T y = v at h
    cases v with
    | none => exact (fail_some h).elim
    | some v => exact pure_ok h hwr fun r hr => typeAssert_run hr (ev_rel hy hT) w
  case extract y i =>
    generalize hy : ev T y = v at h
    cases v with
    | none => exact (fail_some h).elim
    | some v => exact pure_ok h hwr fun r hr => extract_run hr (ev_rel hy hT) w
  case makeMap t r =>
    generalize hu : P.underlying t = d at h
    generalize ho : opt T r = o at h
    have hr := fun o1 (e : o = some o1) => opt_rel (a := a) (ho.trans e) hT
    split at h
    · have := hr _ rfl
      cases r with
      | none => exact val_ok h fun v hv => makeMap_ok hv hwr hf t none (fun x hx => by cases hx)
      | some y => cases this
    · have := hr _ rfl
      cases r with
      | none => cases this
      | some y =>
        cases this
        rename_i q
        unfold Rel at q
        exact val_ok h fun v hv => makeMap_ok hv hwr hf t _ (fun x hx => by cases hx; exact ⟨_, _, _, _, q, hu⟩)
    · exact (fail_some h).elim
  case lookup t y z ok =>
    generalize hy : ev T y = v at h
    generalize hz : ev T z = u at h
    cases v with
    | none => exact (fail_some h).elim
    | some v =>
      cases u with
      | none => exact (fail_some h).elim
      | some u => exact val_ok h fun r hr => lookup_ok hr (ev_rel hy hT) (ev_rel hz hT) hwr
  case mapUpdate t m k y =>
    generalize hm : ev T m = v1 at h
    generalize hk : ev T k = v2 at h
    generalize hy : ev T y = v3 at h
    cases v1 with
    | none => exact (fail_some h).elim
    | some v1 =>
      cases v2 with
      | none => exact (fail_some h).elim
      | some v2 =>
        cases v3 with
        | none => exact (fail_some h).elim
        | some v3 =>
          obtain ⟨_, K, h1, h2⟩ := bd_some h
          cases ret_some h2
          obtain ⟨n1, l1, w', s1, s2, s3⟩ := mapUpdate_ok h1 (ev_rel hm hT) (ev_rel hk hT) (ev_rel hy hT) hwr
          exact ⟨.skip, w', ρ, by simp [s1], .refl _ _ _, s2, s3, .inr ⟨rfl, rfl⟩⟩
  case insert t m k y =>
    generalize hm : ev T m = v1 at h
    generalize hk : ev T k = v2 at h
    generalize hy : ev T y = v3 at h
    cases v1 with
    | none => exact (fail_some h).elim
    | some v1 =>
      cases v2 with
      | none => exact (fail_some h).elim
      | some v2 =>
        cases v3 with
        | none => exact (fail_some h).elim
        | some v3 =>
          obtain ⟨_, K, h1, h2⟩ := bd_some h
          cases ret_some h2
          obtain ⟨n1, l1, w', s1, s2, s3⟩ := mapUpdate_ok h1 (ev_rel hm hT) (ev_rel hk hT) (ev_rel hy hT) hwr
          exact ⟨.skip, w', ρ, by simp [s1], .refl _ _ _, s2, s3, .inr ⟨rfl, rfl⟩⟩
  case range t y =>
    generalize hy : ev T y = v at h
    cases v with
    | none => exact (fail_some h).elim
    | some v => exact val_ok h fun u hu => range_ok hu (ev_rel hy hT) hwr hf
  case entry y =>
    generalize hy : ev T y = v at h
    cases v with
    | none => exact (fail_some h).elim
    | some v => exact val_ok h fun u hu => entry_ok hu (ev_rel hy hT) hwr
  case call c => exact call_ok hname h hT hσ hwr hf
end
end Go.AM
namespace Go.AM
open Go Go.RowKit

/-- the wide fence, in a round or in none -/
def FR (r : Option Nat) : Fence := { Fence.wide with round := r }
section
variable {P : Program} {σ : Nat → Value} {ρ : Ren} {base : Nat} {H H' : AHeap} {w : World} {nt : Nat} {T : Tmps} {a : Act}
structure Post (σ : Nat → Value) (ρ ρ' : Ren) (base : Nat) (H H' : AHeap) (w w' : World) : Prop where
  ext : Ext ρ ρ' H.next H'.next
  wr : WR σ ρ' base H' w'
  below : Below base w w'
def ValPost (σ : Nat → Value) (ρ : Ren) (base : Nat) (H H' : AHeap) (w : World) (v : AVal) : Ending → World → Prop :=
  fun e w' => ∃ v' ρ', e = .returned v' ∧ Post σ ρ ρ' base H H' w w' ∧ Rel σ ρ' v v'
def CallOK (P : Program) (ih : Task → M Out) : Prop := ∀ (f : FuncId) (args : List AVal) (H : AHeap) (v : AVal) (H' : AHeap), ih (.call f args) H = some (.val v, H') →
  ∀ (σ : Nat → Value) (ρ : Ren) (base : Nat) (w : World) (args' : Array Value), One σ → WR σ ρ base H w → Free ρ H.next H'.next → RelL σ ρ args args'.toList →
    CallsIn Fence.wide 0 P f args' w (ValPost σ ρ base H H' w v)
def RoundOK (P : Program) (ih : Task → M Out) : Prop := ∀ (l : Nat) (args : List AVal) (H : AHeap) (v : AVal) (H' : AHeap), ih (.round l args) H = some (.val v, H') →
  ∀ (σ : Nat → Value) (ρ : Ren) (base : Nat) (w : World) (args' : Array Value) (L : Loc) (n : Next), One σ → WR σ ρ base H w → Free ρ H.next H'.next → ρ l = some L → RelL σ ρ args args'.toList →
    (Instr.yield L.blk args').run P w = .ok n w → ∃ fn tm as bo, n = .round L.blk fn tm as bo ∧ RoundIn Fence.wide 0 P L.blk fn tm as bo w (ValPost σ ρ base H H' w v)
theorem put_rel {v : AVal} {v' : Value} {dst : Option Tmp} {T' : Tmps} (h : setT nt T dst v = some T') (hT : TRel σ ρ nt T a.tmps) (hv : Rel σ ρ v v') : TRel σ ρ nt T' (a.put dst v').tmps := by
  cases dst with
  | none => cases h; exact hT
  | some d =>
    simp only [setT] at h
    obtain ⟨hd, h⟩ := condO_some h
    cases h
    have hd : d < nt := by simpa [Nat.blt_eq] using hd
    refine ⟨by simp [Act.put, hT.size], fun i => ?_⟩
    have hlt : d < a.tmps.size := by rw [hT.size]; exact hd
    simp only [tget, Tr.get_put, Act.put]
    by_cases hi : d = i
    · subst hi; simp [hlt]; exact hv
    · have := hT.at_ i
      unfold tget at this
      simp only [if_neg hi, Array.getD_eq_getD_getElem?, Array.getElem?_setIfInBounds_ne hi] at this ⊢
      exact this
theorem put_defers (a : Act) (dst : Option Tmp) (v : Value) : (a.put dst v).defers = a.defers := by cases dst <;> rfl
theorem wanted_rel {ops : Array Oper} {o : Oper} {b : Bool} (h : wantedA ops.toList T o.guard = some b) (hT : TRel σ ρ nt T a.tmps) : Region.wanted o (yielded ops a.tmps) = b := by
  unfold Region.wanted
  unfold wantedA at h
  cases hg : o.guard with
  | none => simp only [hg] at h ⊢; cases h; rfl
  | some g =>
    obtain ⟨j, want⟩ := g
    simp only [hg] at h ⊢
    unfold yielded
    cases hj : ops[j]? with
    | none =>
      have : ops.toList[j]? = none := by rw [Array.getElem?_toList]; exact hj
      simp only [this] at h; cases h; rfl
    | some oj =>
      have : ops.toList[j]? = some oj := by rw [Array.getElem?_toList]; exact hj
      simp only [this] at h
      cases hd : oj.dst with
      | none => simp only [hd] at h; cases h; simp [hd]
      | some d =>
        simp only [hd] at h
        simp only [Option.bind_some, hd]
        have hr := hT.at_ d
        unfold tget at hr
        have notBool : ∀ x : AVal, Rel σ ρ x (a.tmps.getD d undef) → (∀ b, x ≠ .bool b) → (∀ i, x ≠ .opq i) → ∀ b, a.tmps[d]? ≠ some (.bool b) := by
          intro x hx h1 h2 b hb
          have e : a.tmps.getD d undef = .bool b := by simp [Array.getD_eq_getD_getElem?, hb]
          rw [e] at hx
          cases x <;> unfold Rel at hx <;> first
            | exact h1 _ rfl
            | exact h2 _ rfl
            | (cases hx; done)
            | (obtain ⟨_, _, hx⟩ := hx; cases hx; done)
            | (obtain ⟨_, _, _, _, hx, _⟩ := hx; cases hx; done)
            | (obtain ⟨_, _, hx, _⟩ := hx; cases hx; done)
            | (obtain ⟨_, hx, _⟩ := hx; cases hx; done)
        cases hx : T.get d with
        | none =>
          simp only [hx] at h hr
          cases h
          have hno := notBool _ hr (by simp [AVal.undef]) (by simp [AVal.undef])
          cases hx2 : a.tmps[d]? with
          | none => rfl
          | some y => cases y <;> first | rfl | exact absurd hx2 (hno _)
        | some x =>
          rw [hx] at hr
          simp only [Option.getD_some] at hr
          cases x with
          | bool b' =>
            simp only [hx] at h
            cases h
            unfold Rel at hr
            have hlt : d < a.tmps.size := by
              rcases Nat.lt_or_ge d a.tmps.size with h | h
              · exact h
              · simp [Array.getD_eq_getD_getElem?, Array.getElem?_eq_none h, undef] at hr
            have e : a.tmps[d]? = some (.bool b') := by
              rw [Array.getElem?_eq_getElem hlt]
              simp [Array.getD_eq_getD_getElem?, hlt] at hr
              rw [hr]
            rw [e]
            cases b' <;> cases want <;> rfl
          | opq i => simp only [hx] at h; cases h
          | _ =>
            simp only [hx] at h
            cases h
            have hno := notBool _ hr (by simp) (by simp)
            cases hx2 : a.tmps[d]? with
            | none => rfl
            | some y => cases y <;> first | rfl | exact absurd hx2 (hno _)
theorem wide_about {o : Oper} {r : Option Nat} {ρ' : Operand → Value} : ∀ f, o.about P w ρ' = some f → (FR r).fn f := fun _ _ => trivial
/-- one operation, whatever follows -/
theorem valOp_ok {ih : Task → M Out} (hc : CallOK P ih) (hr : RoundOK P ih) (hname : NoNum P) {ops : Array Oper} {o : Oper} {v : AVal} {r : Option Nat} {Q : Exit → Act → World → Prop} {K : Act → World → Prop}
    (h : valOp P ih ops.toList o T H = some (v, H')) (hfr : ∀ t, Fr (ih t)) (hT : TRel σ ρ nt T a.tmps) (hσ : One σ) (hwr : WR σ ρ base H w) (hf : Free ρ H.next H'.next)
    (hK : ∀ v' w' ρ', Post σ ρ ρ' base H H' w w' → Rel σ ρ' v v' → K (a.put o.dst v') w') :
    if Region.wanted o (yielded ops a.tmps) then o.wpIn (FR r) 0 P a w K Q else (∀ f, o.about P w a.eval = some f → (FR r).fn f) ∧ K (a.put o.dst undef) w := by
  unfold valOp at h
  generalize hw : wantedA ops.toList T o.guard = wb at h
  cases wb with
  | none => exact (fail_some h).elim
  | some wb =>
    rw [wanted_rel hw hT]
    cases wb with
    | false =>
      cases ret_some h
      exact ⟨wide_about, hK _ _ ρ ⟨.refl _ _ _, hwr, .refl _ _⟩ rel_undef⟩
    | true =>
      simp only [if_true]
      obtain ⟨x, K1, h1, h2⟩ := bd_some h
      have hnd : ∀ c, o.op ≠ .defer c := fun c e => by rw [e] at h1; exact fail_some (H := H) h1
      have m1 : H.next ≤ K1.next := by obtain ⟨es, d, _⟩ := fr_opA P T o.op H x K1 h1; exact d.next
      have m2 : K1.next ≤ H'.next := by obtain ⟨es, d, _⟩ := fr_nextA hfr x K1 v H' h2; exact d.next
      obtain ⟨nx, w1, ρ1, e1, x1, x2, x3, x4⟩ := op_ok (P := P) (a := a) hname h1 hT hσ hwr (hf.left m2)
      refine ⟨wide_about, ?_⟩
      rw [Oper.semAt_eq _ _ _ hnd, e1]
      have hf1 : Free ρ1 K1.next H'.next := x1.free hf m1
      have fin : ∀ v' w' ρ', Post σ ρ1 ρ' base K1 H' w1 w' → Rel σ ρ' v v' → K (a.put o.dst v') w' := fun v' w' ρ' hp hv =>
        hK v' w' ρ' ⟨x1.trans hp.ext m1 m2, hp.wr, x3.trans hp.below⟩ hv
      cases x with
      | val u =>
        cases ret_some h2
        rcases x4 with ⟨v', rfl, hv⟩ | ⟨rfl, rfl⟩
        · exact fin v' w1 ρ1 ⟨.refl _ _ _, x2, .refl _ _⟩ hv
        · exact fin undef w1 ρ1 ⟨.refl _ _ _, x2, .refl _ _⟩ rel_undef
      | enter f args =>
        obtain ⟨args', rfl, hargs⟩ := x4
        obtain ⟨out, K2, h3, h4⟩ := bd_some h2
        cases out with
        | exit e T ms => exact (fail_some h4).elim
        | val u =>
          cases ret_some h4
          have := hc f args K1 v H' h3 σ ρ1 base w1 args' hσ x2 hf1 hargs
          refine ⟨fun h => by simp [FR, Fence.wide] at h, ?_⟩
          have h5 : CallsIn (FR r) 0 P f args' w1 (ValPost σ ρ1 base K1 H' w1 v) := this
          refine h5.mono ?_
          rintro e w2 ⟨v', ρ', rfl, hp, hv⟩
          exact fin v' w2 ρ' hp hv
      | round l args =>
        obtain ⟨L, args', hL, hargs, hy⟩ := x4
        obtain ⟨out, K2, h3, h4⟩ := bd_some h2
        cases out with
        | exit e T ms => exact (fail_some h4).elim
        | val u =>
          cases ret_some h4
          obtain ⟨fn, tm, as, bo, rfl, hri⟩ := hr l args K1 v H' h3 σ ρ1 base w1 args' L nx hσ x2 hf1 hL hargs hy
          refine ⟨fun h => by simp [FR, Fence.wide] at h, ?_⟩
          have h5 : RoundIn (FR r) 0 P L.blk fn tm as bo w1 (ValPost σ ρ1 base K1 H' w1 v) := hri
          refine h5.mono ?_
          rintro e w2 ⟨v', ρ', rfl, hp, hv⟩
          exact fin v' w2 ρ' hp hv
theorem oneOp_some {ih : Task → M Out} {all : List Oper} {o : Oper} {T' : Tmps} (h : oneOp P ih nt all o T H = some (T', H')) : ∃ v, valOp P ih all o T H = some (v, H') ∧ setT nt T o.dst v = some T' := by
  obtain ⟨v, K, h1, h2⟩ := bd_some h
  obtain ⟨x, hx, e⟩ := lift_some h2
  cases e
  exact ⟨v, h1, hx⟩
theorem opsA_ok {ih : Task → M Out} (hc : CallOK P ih) (hr : RoundOK P ih) (hname : NoNum P) (hfr : ∀ t, Fr (ih t)) {ops : Array Oper} {r : Option Nat} {Q : Exit → Act → World → Prop} (hσ : One σ) (rest : List Nat) :
    ∀ (os : List Oper) (k : Nat) (T : Tmps) (H : AHeap) (T' : Tmps) (ρ : Ren) (w : World) (a : Act), (∀ j, j < os.length → os[j]? = ops[k + j]?) → opsA P ih nt ops.toList os T H = some (T', H') → TRel σ ρ nt T a.tmps → WR σ ρ base H w → Free ρ H.next H'.next →
      (∀ a' w' ρ', Post σ ρ ρ' base H H' w w' → TRel σ ρ' nt T' a'.tmps → a'.defers = a.defers → wpOpsIn (FR r) 0 P ops Q rest a' w') → wpOpsIn (FR r) 0 P ops Q (List.range' k os.length ++ rest) a w := by
  intro os
  induction os with
  | nil =>
    intro k T H T' ρ w a hk h hT hwr hf hQ
    cases ret_some h
    simp only [List.length_nil, List.range'_zero, List.nil_append]
    exact hQ a w ρ ⟨.refl _ _ _, hwr, .refl _ _⟩ hT rfl
  | cons o os ih2 =>
    intro k T H T' ρ w a hk h hT hwr hf hQ
    obtain ⟨T1, K, h1, h2⟩ := bd_some h
    obtain ⟨v, h3, h4⟩ := oneOp_some h1
    have h0 : ops[k]? = some o := by have := hk 0 (by simp); simpa using this.symm
    have m1 : H.next ≤ K.next := by obtain ⟨es, d, _⟩ := fr_valOp P hfr _ _ _ H v K h3; exact d.next
    have m2 : K.next ≤ H'.next := by obtain ⟨es, d, _⟩ := fr_opsA P hfr _ _ _ _ K T' H' h2; exact d.next
    simp only [List.length_cons, List.range'_succ, List.cons_append, wpOpsIn, h0]
    refine valOp_ok hc hr hname h3 hfr hT hσ hwr (hf.left m2) ?_
    intro v' w1 ρ1 hp hv
    refine ih2 (k + 1) T1 K T' ρ1 w1 (a.put o.dst v') (fun j hj => by have := hk (j + 1) (by simpa using hj); rw [show k + 1 + j = k + (j + 1) from by omega]; simpa using this) h2 (put_rel h4 (hT.mono hp.ext.le) hv) hp.wr (hp.ext.free hf m1) ?_
    intro a' w' ρ' hp' hT' hd
    exact hQ a' w' ρ' ⟨hp.ext.trans hp'.ext m1 m2, hp'.wr, hp.below.trans hp'.below⟩ hT' (hd.trans (put_defers _ _ _))
end
end Go.AM
namespace Go.AM
open Go Go.RowKit

/-! ### the work hangs on the slots that are looked at -/
theorem ev_tget (T : Tmps) (t : Tmp) : ev T (.tmp t) = some (tget T t) := by simp only [ev, tget]; cases T.get t <;> rfl
def EvSame (T T' : Tmps) (x : Operand) : Prop := ev T x = ev T' x
theorem evs_congr {T T' : Tmps} : ∀ {l : List Operand}, (∀ x ∈ l, ev T x = ev T' x) → evs T l = evs T' l
  | [], _ => rfl
  | x :: l, h => by unfold evs; rw [h x (by simp), evs_congr (fun y hy => h y (by simp [hy]))]
theorem evParts_congr {T T' : Tmps} : ∀ {l : List (Nat × Operand)}, (∀ x ∈ l.map (·.2), ev T x = ev T' x) → evParts T l = evParts T' l
  | [], _ => rfl
  | (i, x) :: l, h => by unfold evParts; rw [h x (by simp), evParts_congr (fun y hy => h y (by simp at hy ⊢; exact .inr hy))]
theorem opt_congr {T T' : Tmps} {x : Option Operand} (h : ∀ y, x = some y → ev T y = ev T' y) : opt T x = opt T' x := by
  cases x with
  | none => rfl
  | some y => simp only [opt]; rw [h y rfl]
theorem callA_congr {P : Program} {T T' : Tmps} {c : Call} (h : ∀ x ∈ c.operands, ev T x = ev T' x) : callA P T c = callA P T' c := by
  have h1 : evs T c.args.toList = evs T' c.args.toList := evs_congr fun x hx => h x (by simp [Call.operands]; right; simpa using hx)
  unfold callA
  rw [h1]
  cases hc : c.callee with
  | builtin b => rfl
  | invoke r n => dsimp only; rw [h r (by simp [Call.operands, hc])]
  | value f => dsimp only; rw [h f (by simp [Call.operands, hc])]
theorem opA_congr {P : Program} {T T' : Tmps} {o : Op} (h : ∀ x ∈ o.operands, ev T x = ev T' x) : opA P T o = opA P T' o := by
  cases o <;> simp only [Op.operands] at h <;> unfold opA <;> simp only
  case build t ps => rw [evParts_congr (T := T) (T' := T') (fun x hx => h x (by simpa using hx))]
  case buildSlice t n ps => rw [evParts_congr (T := T) (T' := T') (fun x hx => h x (by simpa using hx))]
  case makeFunc f a b => rw [evs_congr (T := T) (T' := T') (l := a.toList) (fun x hx => h x (by simp at hx ⊢; exact .inl hx)), evs_congr (T := T) (T' := T') (l := b.toList) (fun x hx => h x (by simp at hx ⊢; exact .inr hx))]
  case call c => exact callA_congr h
  case load ty x => cases x <;> first | rfl | (simp only; rw [h _ (by simp)])
  case slice t x lo hi mx =>
    rw [h x (by simp), opt_congr (T := T) (T' := T') (x := lo) (fun y hy => h y (by simp [hy])), opt_congr (T := T) (T' := T') (x := hi) (fun y hy => h y (by simp [hy])), opt_congr (T := T) (T' := T') (x := mx) (fun y hy => h y (by simp [hy]))]
  all_goals first
    | rfl
    | (simp only [h _ (by simp : _ ∈ _)]; done)
    | (rename_i x y; rw [h x (by simp), h y (by simp)]; done)
    | (rename_i x y z; rw [h x (by simp), h y (by simp), h z (by simp)]; done)
    | (rename_i x; rw [h x (by simp)]; done)
    | skip
  case binOp op ty x y yt => rw [h x (by simp), h y (by simp)]
  case fieldAddr ty x f => rw [h x (by simp)]
  case field ty x f => rw [h x (by simp)]
  case typeAssert x a b c => rw [h x (by simp)]
  case extract x i => rw [h x (by simp)]
  case makeMap t r => rw [opt_congr (T := T) (T' := T') (x := r) (fun y hy => h y (by simp [hy]))]
  case lookup t x k ok => rw [h x (by simp), h k (by simp)]
theorem valOp_congr {P : Program} {ih : Task → M Out} {ops : Array Oper} {o : Oper} {T T' : Tmps} (h : ∀ t ∈ o.looksAt ops, tget T t = tget T' t) : valOp P ih ops.toList o T = valOp P ih ops.toList o T' := by
  have hev : ∀ x ∈ o.op.operands, ev T x = ev T' x := by
    intro x hx
    cases x with
    | tmp t => rw [ev_tget, ev_tget, h t (List.mem_append_left _ (List.mem_filterMap.2 ⟨.tmp t, by simpa using hx, rfl⟩))]
    | _ => rfl
  have hw : wantedA ops.toList T o.guard = wantedA ops.toList T' o.guard := by
    unfold wantedA
    cases hg : o.guard with
    | none => rfl
    | some g =>
      obtain ⟨j, want⟩ := g
      dsimp only
      cases hj : ops.toList[j]? with
      | none => rfl
      | some oj =>
        dsimp only
        cases hd : oj.dst with
        | none => rfl
        | some d =>
          dsimp only
          have hj' : ops[j]? = some oj := by rw [← Array.getElem?_toList]; exact hj
          have := h d (List.mem_append_right _ (by simp [hg, hj', hd]))
          unfold tget at this
          cases h1 : T.get d with
          | none =>
            cases h2 : T'.get d with
            | none => rfl
            | some y => rw [h1, h2] at this; simp [AVal.undef] at this; subst this; rfl
          | some x =>
            cases h2 : T'.get d with
            | none => rw [h1, h2] at this; simp [AVal.undef] at this; subst this; rfl
            | some y => rw [h1, h2] at this; simp at this; subst this; rfl
  unfold valOp
  rw [hw, opA_congr hev]

/-! ### which operations come before which -/
def orStep (acc : List Nat) (s : Nat) (e : Edge) : Nat := cond (Region.binds .any e) (s ||| (2 ^ e.on ||| acc.getD e.on 0)) s
theorem orFold (acc : List Nat) : ∀ (l : List Edge) (s i : Nat), Nat.testBit (l.foldl (orStep acc) s) i = true → Nat.testBit s i = true ∨ ∃ e ∈ l, Region.binds .any e = true ∧ (e.on = i ∨ Nat.testBit (acc.getD e.on 0) i = true)
  | [], s, i, h => .inl h
  | e :: l, s, i, h => by
    rcases orFold acc l _ i h with h | ⟨e', he, hb⟩
    · unfold orStep at h
      cases hb : Region.binds .any e with
      | false => rw [hb] at h; exact .inl h
      | true =>
        rw [hb] at h
        simp only [cond_true, Nat.testBit_or, Bool.or_eq_true] at h
        rcases h with h | h | h
        · exact .inl h
        · refine .inr ⟨e, by simp, hb, .inl ?_⟩
          rw [Nat.testBit_two_pow] at h; simpa using h
        · exact .inr ⟨e, by simp, hb, .inr h⟩
    · exact .inr ⟨e', by simp [he], hb⟩
theorem masks_spec : ∀ (os : List Oper) (acc : List Nat), ∃ L : List Nat, masks os acc = acc ++ L ∧ L.length = os.length ∧
    ∀ j o, os[j]? = some o → ∃ pre : List Nat, (∀ k, k < acc.length + j → pre[k]? = (acc ++ L)[k]?) ∧ pre.length = acc.length + j ∧ L[j]? = some (o.after.toList.foldl (orStep pre) 0) := by
  intro os
  induction os with
  | nil => intro acc; exact ⟨[], by simp [masks], rfl, fun j o h => by simp at h⟩
  | cons o os ih =>
    intro acc
    obtain ⟨L, h1, h2, h3⟩ := ih (acc ++ [o.after.toList.foldl (orStep acc) 0])
    refine ⟨o.after.toList.foldl (orStep acc) 0 :: L, ?_, by simp [h2], fun j q hq => ?_⟩
    · show masks os (acc ++ [_]) = _
      rw [show (acc ++ [o.after.toList.foldl (fun s e => cond (Region.binds .any e) (s ||| (2 ^ e.on ||| acc.getD e.on 0)) s) 0]) = acc ++ [o.after.toList.foldl (orStep acc) 0] from rfl, h1]
      simp
    · cases j with
      | zero =>
        simp at hq; subst hq
        exact ⟨acc, fun k hk => by rw [List.getElem?_append_left (by omega)], by simp, by simp⟩
      | succ j =>
        simp at hq
        obtain ⟨pre, p1, p2, p3⟩ := h3 j q hq
        refine ⟨pre, fun k hk => ?_, by rw [p2]; simp; omega, by simpa using p3⟩
        rw [p1 k (by simp; omega)]; simp
/-- a bit that is set stands for an operation in each set that is closed and holds what this one waits for -/
theorem mask_closed {ops : Array Oper} (hb : ∀ (j : Nat) (o : Oper), ops[j]? = some o → ∀ e ∈ o.after, Region.binds .any e = true → e.on < j) (X : Nat → Prop)
    (hX : ∀ (j : Nat) (o : Oper), ops[j]? = some o → X j → ∀ e ∈ o.after, Region.binds .any e = true → X e.on) :
    ∀ (j : Nat) (o : Oper) (mk i : Nat), ops[j]? = some o → (masks ops.toList [])[j]? = some mk → Nat.testBit mk i = true → (∀ e ∈ o.after, Region.binds .any e = true → X e.on) → X i := by
  obtain ⟨L, h1, h2, h3⟩ := masks_spec ops.toList []
  rw [h1]
  simp only [List.nil_append] at h3 ⊢
  intro j
  induction j using Nat.strongRecOn with
  | _ j ih =>
    intro o mk i ho hmk hbit hready
    obtain ⟨pre, p1, p2, p3⟩ := h3 j o (by rw [Array.getElem?_toList]; exact ho)
    rw [p3] at hmk; cases hmk
    rcases orFold pre _ _ _ hbit with h | ⟨e, he, hbe, h⟩
    · simp at h
    · have he' : e ∈ o.after := Array.mem_def.2 he
      rcases h with rfl | h
      · exact hready e he' hbe
      · have hlt := hb j o ho e he' hbe
        have hXe := hready e he' hbe
        have hge : e.on < ops.size := by have := (Array.getElem?_eq_some_iff.1 ho).1; omega
        have hoe : ops[e.on]? = some ops[e.on] := Array.getElem?_eq_getElem hge
        have hm : L[e.on]? = some (pre.getD e.on 0) := by
          rw [← p1 e.on (by simp at p2 ⊢; omega)]
          have : e.on < pre.length := by simp at p2; omega
          simp [List.getD_eq_getElem?_getD, List.getElem?_eq_getElem this]
        exact ih e.on hlt _ _ i hoe hm h (hX e.on _ hoe hXe)
theorem backEdges_spec : ∀ (l : List Oper) (i : Nat), backEdges l i = true → ∀ j o, l[j]? = some o → ∀ e ∈ o.after, Region.binds .any e = true → e.on < i + j
  | [], _, _, j, o, h => by simp at h
  | p :: l, i, h, j, o, ho => by
    simp only [backEdges, Bool.and_eq_true] at h
    cases j with
    | zero =>
      simp at ho; subst ho
      intro e he hb
      have := List.all_eq_true.1 h.1 e (Array.mem_def.1 he)
      simp only [hb, Bool.not_true, Bool.false_or, Nat.blt_eq] at this
      omega
    | succ j =>
      simp at ho
      intro e he hb
      have := backEdges_spec l (i + 1) h.2 j o ho e he hb
      omega
theorem clash_spec {a b : List (Nat × Bool)} (h : clash a b = false) : ∀ id x y, (id, x) ∈ a → (id, y) ∈ b → x = false ∧ y = false := by
  have c1 : ∀ (e : Nat × Bool) (fs : List (Nat × Bool)), clash1 e fs = false → ∀ y, (e.1, y) ∈ fs → e.2 = false ∧ y = false := by
    intro e fs
    induction fs with
    | nil => intro _ y hy; cases hy
    | cons f fs ih =>
      intro h y hy
      simp only [clash1, Bool.or_eq_false_iff, Bool.and_eq_false_iff] at h
      rcases List.mem_cons.1 hy with rfl | hy
      · rcases h.1 with h | h
        · simp at h
        · exact h
      · exact ih h.2 y hy
  induction a with
  | nil => intro id x y hx; cases hx
  | cons e es ih =>
    intro id x y hx hy
    simp only [clash, Bool.or_eq_false_iff] at h
    rcases List.mem_cons.1 hx with rfl | hx
    · exact c1 _ _ h.1 y hy
    · exact ih h.2 id x y hx hy
theorem against_spec {all : Array Oper} {o : Oper} {mk : Nat} {es : List (Nat × Bool)} : ∀ (l : List (Oper × List (Nat × Bool))) (i : Nat), against all o mk es l i = true →
    ∀ j p, l[j]? = some p → Nat.testBit mk (i + j) = true ∨ (Oper.apart all p.1 o = true ∧ clash p.2 es = false)
  | [], _, _, j, p, h => by simp at h
  | q :: l, i, h, j, p, hp => by
    simp only [against, Bool.and_eq_true, Bool.or_eq_true, Bool.not_eq_true'] at h
    cases j with
    | zero => simp at hp; subst hp; exact h.1
    | succ j =>
      simp at hp
      have := against_spec l (i + 1) h.2 j p hp
      rw [show i + (j + 1) = i + 1 + j from by omega]; exact this
end Go.AM
