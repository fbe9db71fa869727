/- Part U1 of a calculus over a small memory that is proved to answer as the program does, and of its use for the functions that the law reaches: see the last part. -/
import Derived.Test.YtboddampdcalfaaA2
import Derived.Test.YtboddampdcalfaaA3
import Derived.DataReads
import Derived.ChangeArms
import Derived.OpenShut
namespace Go.AM
open Go Go.RowKit Go.ChangeShapes Go.WideShapes Go.ChangeAt
/-! ### what comes in -/
/-- the fields lie one behind the other -/
def tiles (P : Program) (total : Nat) : Nat → List Field → Bool
  | off, [] => Nat.beq off total
  | off, f :: fs => Nat.beq f.offset off && tiles P total (off + P.cellsOf f.type) fs
/-- types that are read: Booleans, integers, texts, slices, structs and arrays of such -/
def plainT (P : Program) : Nat → TypeId → Bool
  | 0, _ => false
  | d + 1, t => match P.underlying t with
    | some .bool | some (.int _) | some .string => true
    | some (.slice e) => Nat.blt 0 (P.cellsOf e) && plainT P d e
    | some (.struct fs) => tiles P (P.cellsOf t) 0 fs.toList && fs.toList.all fun f => plainT P d f.type
    | some (.array n e) => Nat.beq (P.cellsOf t) (n * P.cellsOf e) && (Nat.blt 0 (P.cellsOf e) && plainT P d e)
    | _ => false
def Inp (P : Program) (s : Heap) : Nat → TypeId → List AVal → Prop
  | 0, _, _ => False
  | d + 1, t, xs => match P.underlying t with
    | some .bool => ∃ b, xs = [.bool b]
    | some (.int k) => ∃ n, xs = [.int k n] ∧ (Lit.int k n).wf = true
    | some .string => ∃ v, xs = [.str v] ∧ v.size ≤ maxLen
    | some (.slice e) => xs = [.nilslc] ∨ ∃ b len cap, xs = [.slc b 0 len (some cap) (P.cellsOf e)] ∧ len ≤ cap ∧ cap ≤ maxLen ∧
        (0 < cap → ∃ el l, s b = some (true, .cells el l) ∧ l.length = cap * P.cellsOf e ∧ ∀ i, i < cap → Inp P s d e ((l.drop (i * P.cellsOf e)).take (P.cellsOf e)))
    | some (.struct fs) => xs.length = P.cellsOf t ∧ ∀ f ∈ fs.toList, Inp P s d f.type ((xs.drop f.offset).take (P.cellsOf f.type))
    | some (.array n e) => xs.length = P.cellsOf t ∧ ∀ i, i < n → Inp P s d e ((xs.drop (i * P.cellsOf e)).take (P.cellsOf e))
    | _ => False
abbrev IB := List (Loc × TypeId × List AVal)
def rhoB (B : IB) : Ren := fun id => match id with
  | 0 => some ⟨0, 0, 0⟩
  | i + 1 => match B[i]? with
    | some x => some x.1
    | none => none
def heapB (B : IB) : Heap := fun id => match id with
  | 0 => none
  | i + 1 => match B[i]? with
    | some x => some (true, .cells x.2.1 x.2.2)
    | none => none
theorem rhoB_le (B C : IB) : Le (rhoB B) (rhoB (B ++ C)) := by
  intro id L h
  cases id with
  | zero => exact h
  | succ i =>
    unfold rhoB at h ⊢
    simp only at h ⊢
    cases e : B[i]? with
    | none => rw [e] at h; cases h
    | some x => rw [e] at h; rw [List.getElem?_append_left (List.getElem?_eq_some_iff.1 e).1, e]; exact h
theorem heapB_sub (B C : IB) : Sub (heapB B) (heapB (B ++ C)) := by
  intro id L h
  cases id with
  | zero => exact h
  | succ i =>
    unfold heapB at h ⊢
    simp only at h ⊢
    cases e : B[i]? with
    | none => rw [e] at h; cases h
    | some x => rw [e] at h; rw [List.getElem?_append_left (List.getElem?_eq_some_iff.1 e).1, e]; exact h
theorem Inp.sub {P : Program} {s s' : Heap} (hs : Sub s s') : ∀ (d : Nat) (t : TypeId) (xs : List AVal), Inp P s d t xs → Inp P s' d t xs
  | 0, _, _, h => h
  | d + 1, t, xs, h => by
    unfold Inp at h ⊢
    split at h
    · exact h
    · exact h
    · exact h
    · rcases h with h | ⟨b, len, cap, h1, h2, h3, h4⟩
      · exact .inl h
      · refine .inr ⟨b, len, cap, h1, h2, h3, fun hc => ?_⟩
        obtain ⟨el, l, q1, q2, q3⟩ := h4 hc
        exact ⟨el, l, hs _ _ q1, q2, fun i hi => Inp.sub hs d _ _ (q3 i hi)⟩
    · exact ⟨h.1, fun f hf => Inp.sub hs d _ _ (h.2 f hf)⟩
    · exact ⟨h.1, fun i hi => Inp.sub hs d _ _ (h.2 i hi)⟩
    · exact h
def VB (σ : Nat → Value) (B : IB) (W : World) : Prop := ∀ (i : Nat) (x : Loc × TypeId × List AVal), B[i]? = some x → ∃ (cc : Array Value) (fr : Nat × Nat), W.heap[x.1.blk]? = some (.cells cc x.2.1 fr) ∧ cc.size = x.1.sz ∧ x.1.sh + x.2.2.length ≤ cc.size ∧ allOne x.2.2 = true ∧
  ∀ (j : Nat) (v : AVal), x.2.2[j]? = some v → ∃ v', cc[x.1.sh + j]? = some v' ∧ Rel σ (rhoB B) v v' ∧ v'.oneCell' = true
theorem VB.snoc {σ : Nat → Value} {B : IB} {W : World} (h : VB σ B W) (x : Loc × TypeId × List AVal)
    (hx : ∃ (cc : Array Value) (fr : Nat × Nat), W.heap[x.1.blk]? = some (.cells cc x.2.1 fr) ∧ cc.size = x.1.sz ∧ x.1.sh + x.2.2.length ≤ cc.size ∧ allOne x.2.2 = true ∧ ∀ (j : Nat) (v : AVal), x.2.2[j]? = some v → ∃ v', cc[x.1.sh + j]? = some v' ∧ Rel σ (rhoB B) v v' ∧ v'.oneCell' = true) : VB σ (B ++ [x]) W := by
  intro i y hy
  rw [List.getElem?_append] at hy
  split at hy
  · obtain ⟨cc, fr, h1, h2, h3, h4, h5⟩ := h i y hy
    exact ⟨cc, fr, h1, h2, h3, h4, fun j v hv => let ⟨v', q1, q2, q3⟩ := h5 j v hv; ⟨v', q1, Rel.mono (rhoB_le B [x]) _ _ q2, q3⟩⟩
  · have : y = x := by
      cases e : i - B.length with
      | zero => rw [e] at hy; exact (Option.some.inj hy).symm
      | succ k => rw [e] at hy; cases hy
    subst this
    obtain ⟨cc, fr, h1, h2, h3, h4, h5⟩ := hx
    exact ⟨cc, fr, h1, h2, h3, h4, fun j v hv => let ⟨v', q1, q2, q3⟩ := h5 j v hv; ⟨v', q1, Rel.mono (rhoB_le B [y]) _ _ q2, q3⟩⟩
section
variable {H : Type} {enc : TypeId × Value → H} {P : Program} {W : World} {σ : Nat → Value}
/-- reading one after the other -/
theorem open_many (hσ : One σ) (Q : Nat → List AVal → Heap → Prop) (hQ : ∀ i xs s s', Sub s s' → Q i xs s → Q i xs s') (css : Nat → List Value) : ∀ (n : Nat) (B : IB), VB σ B W →
    (∀ i, i < n → ∀ B, VB σ B W → ∃ xs C, VB σ (B ++ C) W ∧ RelL σ (rhoB (B ++ C)) xs (css i) ∧ allOne xs = true ∧ Q i xs (heapB (B ++ C))) →
    ∃ (xss : Nat → List AVal) (C : IB), VB σ (B ++ C) W ∧ ∀ i, i < n → RelL σ (rhoB (B ++ C)) (xss i) (css i) ∧ allOne (xss i) = true ∧ Q i (xss i) (heapB (B ++ C))
  | 0, B, hB, _ => ⟨fun _ => [], [], by simpa using hB, fun i hi => by omega⟩
  | n + 1, B, hB, h => by
    obtain ⟨xss, C, h1, h2⟩ := open_many hσ Q hQ css n B hB fun i hi => h i (by omega)
    obtain ⟨xs, D, g1, g2, g3, g4⟩ := h n (by omega) (B ++ C) h1
    refine ⟨fun i => if i = n then xs else xss i, C ++ D, by rw [← List.append_assoc]; exact g1, fun i hi => ?_⟩
    rw [← List.append_assoc]
    by_cases e : i = n
    · subst e
      simp only [if_true]
      exact ⟨g2, g3, g4⟩
    · simp only [if_neg e]
      obtain ⟨q1, q2, q3⟩ := h2 i (by omega)
      exact ⟨RelL.mono (rhoB_le (B ++ C) D) _ _ q1, q2, hQ _ _ _ _ (heapB_sub (B ++ C) D) q3⟩
/-- pieces of the same length, one behind the other -/
def pieces (xss : Nat → List AVal) (es n : Nat) : List AVal := (List.range (n * es)).map fun j => (xss (j / es)).getD (j % es) .undef
theorem pieces_length (xss : Nat → List AVal) (es n : Nat) : (pieces xss es n).length = n * es := by simp [pieces]
theorem pieces_get (xss : Nat → List AVal) (es n j : Nat) (h : j < n * es) : (pieces xss es n)[j]? = some ((xss (j / es)).getD (j % es) .undef) := by simp [pieces, h]
theorem pieces_part (xss : Nat → List AVal) (es n i : Nat) (h0 : 0 < es) (hi : i < n) (hl : (xss i).length = es) : ((pieces xss es n).drop (i * es)).take es = xss i := by
  have hm : (i + 1) * es ≤ n * es := Nat.mul_le_mul_right _ hi
  rw [Nat.add_mul, Nat.one_mul] at hm
  apply List.ext_getElem?
  intro j
  rw [List.getElem?_take]
  split
  · rename_i hj
    rw [List.getElem?_drop, pieces_get _ _ _ _ (by omega)]
    have e1 : (i * es + j) / es = i := by rw [Nat.mul_comm, Nat.mul_add_div h0, Nat.div_eq_of_lt hj]; omega
    have e2 : (i * es + j) % es = j := by rw [Nat.mul_comm, Nat.mul_add_mod, Nat.mod_eq_of_lt hj]
    rw [e1, e2, List.getD_eq_getElem?_getD, List.getElem?_eq_getElem (by omega)]; rfl
  · rw [List.getElem?_eq_none (by omega)]
theorem allOne_at {l : List AVal} (h : ∀ (j : Nat) (v : AVal), l[j]? = some v → v.one = true) : allOne l = true := allOne_of fun x hx => by
  obtain ⟨i, hi⟩ := List.getElem?_of_mem hx
  exact h i x hi
theorem tiles_le {P : Program} {total : Nat} : ∀ {fs : List Field} {off : Nat}, tiles P total off fs = true → off ≤ total
  | [], off, h => by have := Nat.eq_of_beq_eq_true h; omega
  | f :: fs, off, h => by
    unfold tiles at h
    have := tiles_le (Bool.and_eq_true_iff.1 h).2
    omega
theorem open_fields (hσ : One σ) (d : Nat) (cs : List Value) (total : Nat) (hl : cs.length = total) : ∀ (fs : List Field) (off : Nat) (B : IB), VB σ B W → tiles P total off fs = true →
    (∀ f ∈ fs, ∀ B, VB σ B W → ∃ xs C, VB σ (B ++ C) W ∧ RelL σ (rhoB (B ++ C)) xs ((cs.drop f.offset).take (P.cellsOf f.type)) ∧ allOne xs = true ∧ Inp P (heapB (B ++ C)) d f.type xs) →
    ∃ xs C, VB σ (B ++ C) W ∧ RelL σ (rhoB (B ++ C)) xs (cs.drop off) ∧ allOne xs = true ∧ ∀ f ∈ fs, off ≤ f.offset ∧ Inp P (heapB (B ++ C)) d f.type ((xs.drop (f.offset - off)).take (P.cellsOf f.type))
  | [], off, B, hB, ht, _ => by
    refine ⟨[], [], by simpa using hB, ?_, rfl, by simp⟩
    have := Nat.eq_of_beq_eq_true ht
    rw [List.drop_eq_nil_of_le (by omega)]
    exact .nil
  | f :: fs, off, B, hB, ht, h => by
    unfold tiles at ht
    obtain ⟨h1, h2⟩ := Bool.and_eq_true_iff.1 ht
    have ho := Nat.eq_of_beq_eq_true h1
    have hle := tiles_le h2
    obtain ⟨xs, C, g1, g2, g3, g4⟩ := h f (by simp) B hB
    obtain ⟨ys, D, k1, k2, k3, k4⟩ := open_fields hσ d cs total hl fs (off + P.cellsOf f.type) (B ++ C) g1 h2 fun f' hf' => h f' (by simp [hf'])
    have hx : xs.length = P.cellsOf f.type := by
      have := g2.length
      rw [← this, List.length_take, List.length_drop, ho]; omega
    refine ⟨xs ++ ys, C ++ D, by rw [← List.append_assoc]; exact k1, ?_, allOne_append g3 k3, fun f' hf' => ?_⟩
    · rw [← List.append_assoc]
      have e : cs.drop off = (cs.drop f.offset).take (P.cellsOf f.type) ++ cs.drop (off + P.cellsOf f.type) := by
        rw [ho, ← List.drop_drop, List.take_append_drop]
      rw [e]
      exact RelL.append (RelL.mono (rhoB_le (B ++ C) D) _ _ g2) k2
    · rw [← List.append_assoc]
      rcases List.mem_cons.1 hf' with rfl | hf'
      · refine ⟨by omega, ?_⟩
        rw [ho, Nat.sub_self, List.drop_zero, ← hx, List.take_left]
        exact Inp.sub (heapB_sub (B ++ C) D) _ _ _ g4
      · obtain ⟨q1, q2⟩ := k4 f' hf'
        refine ⟨by omega, ?_⟩
        have e : (xs ++ ys).drop (f'.offset - off) = ys.drop (f'.offset - (off + P.cellsOf f.type)) := by
          rw [List.drop_append, List.drop_eq_nil_of_le (by omega), List.nil_append, hx]
          congr 1; omega
        rw [e]
        exact q2
theorem open_ok (hσ : One σ) : ∀ (d : Nat) (t : TypeId) (cs : List Value) (fuel : Nat) (x : DataW H × List MemPlace), plainT P d t = true → DataW.trod enc P W 0 (fun _ => true) true fuel t cs = some x →
    ∀ B, VB σ B W → ∃ xs C, VB σ (B ++ C) W ∧ RelL σ (rhoB (B ++ C)) xs cs ∧ allOne xs = true ∧ Inp P (heapB (B ++ C)) d t xs
  | 0, _, _, _, _, hp, _, _, _ => by cases hp
  | d + 1, t, cs, fuel, x, hp, h, B, hB => by
    unfold plainT at hp
    unfold Inp
    split at hp
    · rename_i hu
      obtain ⟨b, rfl, _⟩ := DataW.trod_bool hu h
      refine ⟨[.bool b], [], by simpa using hB, .cons (by unfold Rel; rfl) .nil, rfl, ?_⟩
      exact ⟨b, rfl⟩
    · rename_i k hu
      obtain ⟨n, rfl, _, hw⟩ := DataW.trod_int hu h
      refine ⟨[.int k n], [], by simpa using hB, .cons (by unfold Rel; rfl) .nil, rfl, ?_⟩
      exact ⟨n, rfl, hw⟩
    · rename_i hu
      obtain ⟨v, rfl, _, hv⟩ := DataW.trod_string hu h
      refine ⟨[.str v], [], by simpa using hB, .cons (by unfold Rel; rfl) .nil, rfl, ?_⟩
      exact ⟨v, rfl, hv⟩
    · rename_i e hu
      obtain ⟨hp1, hp2⟩ := Bool.and_eq_true_iff.1 hp
      have hes : 0 < P.cellsOf e := by rwa [Nat.blt_eq] at hp1
      rcases DataW.trod_slice hu h with ⟨rfl, _⟩ | ⟨a, len, cap, elems, rest, n, _, rfl, _, _, hlc, hcm, hel, hrd, hsp, _⟩
      · exact ⟨[.nilslc], [], by simpa using hB, .cons (by unfold Rel; rfl) .nil, rfl, .inl rfl⟩
      · obtain ⟨hrl, hrd2⟩ := hsp rfl
        have each : ∀ i, i < cap → ∃ y, (W.cells? 0 (a.add (i * P.cellsOf e)) (P.cellsOf e)).bind (DataW.trod enc P W 0 (fun _ => true) true n e) = some y := by
          intro i hi
          by_cases hil : i < len
          · rw [hrd i hil]; exact ⟨_, List.getElem?_eq_getElem (by omega)⟩
          · have := hrd2 (i - len) (by omega)
            rw [show len + (i - len) = i by omega] at this
            rw [this]; exact ⟨_, List.getElem?_eq_getElem (by omega)⟩
        by_cases hc : cap = 0
        · subst hc
          have hl0 : len = 0 := by omega
          subst hl0
          refine ⟨[.slc 0 0 0 (some 0) (P.cellsOf e)], [], by simpa using hB, .cons ?_ .nil, rfl, .inr ⟨0, 0, 0, rfl, Nat.le_refl _, hcm, fun h => by omega⟩⟩
          unfold Rel
          exact ⟨⟨0, 0, 0⟩, a, 0, rfl, rfl, .inr ⟨rfl, rfl⟩, Nat.le_refl _, fun k hk => by cases hk; rfl⟩
        · have css : ∀ i, i < cap → ∃ c, W.cells? 0 (a.add (i * P.cellsOf e)) (P.cellsOf e) = some c ∧ ∃ y, DataW.trod enc P W 0 (fun _ => true) true n e c = some y := by
            intro i hi
            obtain ⟨y, hy⟩ := each i hi
            rw [Option.bind_eq_some_iff] at hy
            obtain ⟨c, h1, h2⟩ := hy
            exact ⟨c, h1, y, h2⟩
          obtain ⟨xss, C, h1, h2⟩ := open_many (W := W) hσ (fun _ xs s => Inp P s d e xs) (fun i xs s s' hs h => Inp.sub hs d e xs h) (fun i => (W.cells? 0 (a.add (i * P.cellsOf e)) (P.cellsOf e)).getD []) cap B hB fun i hi B hB => by
            obtain ⟨c, g1, y, g2⟩ := css i hi
            rw [g1]
            exact open_ok hσ d e c n y hp2 g2 B hB
          -- the block
          have cell : ∀ i j, i < cap → j < P.cellsOf e → ∃ v, W.cell? (a.add (i * P.cellsOf e + j)) = some v ∧ ((W.cells? 0 (a.add (i * P.cellsOf e)) (P.cellsOf e)).getD [])[j]? = some v := by
            intro i j hi hj
            obtain ⟨c, g1, _⟩ := css i hi
            obtain ⟨_, g2, g3⟩ := World.cells?_some g1
            have g4 := g3 j hj
            rw [List.getElem?_eq_getElem (by omega)] at g4
            refine ⟨c[j]'(by omega), ?_, by rw [g1]; simp⟩
            rw [← g4]
            congr 1
            unfold Addr.add
            by_cases z1 : i * P.cellsOf e = 0
            · by_cases z2 : j = 0
              · simp [z1, z2]
              · simp [z1, z2]
            · by_cases z2 : j = 0
              · simp [z1, z2]
              · simp [z1, z2, Nat.add_assoc]
          obtain ⟨v0, hv0, _⟩ := cell 0 0 (by omega) hes
          rw [Nat.zero_mul, Nat.zero_add] at hv0
          have hblk : ∃ cc el fr, W.heap[a.block]? = some (.cells cc el fr) ∧ a.spot = none := by
            have e0 : a.add 0 = a := by simp [Addr.add]
            rw [e0] at hv0
            unfold World.cell? at hv0
            split at hv0
            · rename_i cc el fr hb
              cases hs : a.spot with
              | none => exact ⟨cc, el, fr, hb, rfl⟩
              | some k => rw [hs] at hv0; simp at hv0
            · cases hv0
          obtain ⟨cc, el, fr, hb, hspot⟩ := hblk
          have ha : a = ⟨a.block, a.off, none⟩ := by cases a; simp only at hspot; rw [hspot]
          have at_ : ∀ k, k < cap * P.cellsOf e → ∃ v, cc[a.off + k]? = some v ∧ ((W.cells? 0 (a.add ((k / P.cellsOf e) * P.cellsOf e)) (P.cellsOf e)).getD [])[k % P.cellsOf e]? = some v := by
            intro k hk
            have hq : k / P.cellsOf e < cap := by rw [Nat.div_lt_iff_lt_mul hes]; exact hk
            obtain ⟨v, g1, g2⟩ := cell (k / P.cellsOf e) (k % P.cellsOf e) hq (Nat.mod_lt _ hes)
            refine ⟨v, ?_, g2⟩
            rw [Nat.mul_comm, Nat.div_add_mod, ha, addr_add, cell_of hb] at g1
            exact g1
          have hlen : ∀ i, i < cap → (xss i).length = P.cellsOf e := by
            intro i hi
            have := (h2 i hi).1.length
            obtain ⟨c, g1, _⟩ := css i hi
            rw [g1] at this
            rw [← this]
            exact (World.cells?_some g1).2.1
          have hsz : a.off + cap * P.cellsOf e ≤ cc.size := by
            have hpos : 0 < cap * P.cellsOf e := Nat.mul_pos (by omega) hes
            obtain ⟨v, g1, _⟩ := at_ (cap * P.cellsOf e - 1) (by omega)
            have := (Array.getElem?_eq_some_iff.1 g1).1
            omega
          have hvb : VB σ ((B ++ C) ++ [(⟨a.block, a.off, cc.size⟩, el, pieces xss (P.cellsOf e) cap)]) W := by
            refine h1.snoc _ ⟨cc, fr, hb, rfl, by rw [pieces_length]; exact hsz, ?_, fun j v hv => ?_⟩
            · refine allOne_at fun j v hv => ?_
              have hj : j < cap * P.cellsOf e := by have := (List.getElem?_eq_some_iff.1 hv).1; rwa [pieces_length] at this
              rw [pieces_get _ _ _ _ hj] at hv
              have hq : j / P.cellsOf e < cap := by rw [Nat.div_lt_iff_lt_mul hes]; exact hj
              have hm : j % P.cellsOf e < (xss (j / P.cellsOf e)).length := by rw [hlen _ hq]; exact Nat.mod_lt _ hes
              rw [List.getD_eq_getElem?_getD, List.getElem?_eq_getElem hm] at hv
              cases hv
              exact allOne_get (h2 _ hq).2.1 _ (List.getElem_mem hm)
            · have hj : j < cap * P.cellsOf e := by have := (List.getElem?_eq_some_iff.1 hv).1; rwa [pieces_length] at this
              rw [pieces_get _ _ _ _ hj] at hv
              have hq : j / P.cellsOf e < cap := by rw [Nat.div_lt_iff_lt_mul hes]; exact hj
              have hm : j % P.cellsOf e < (xss (j / P.cellsOf e)).length := by rw [hlen _ hq]; exact Nat.mod_lt _ hes
              rw [List.getD_eq_getElem?_getD, List.getElem?_eq_getElem hm] at hv
              cases hv
              obtain ⟨r1, r2, _⟩ := h2 _ hq
              obtain ⟨y, g1, g2⟩ := r1.get (j % P.cellsOf e) _ (List.getElem?_eq_getElem hm)
              obtain ⟨v', k1, k2⟩ := at_ j hj
              rw [g1] at k2
              cases k2
              exact ⟨y, k1, g2, one_cell hσ g2 (allOne_get r2 _ (List.getElem_mem hm))⟩
          refine ⟨[.slc ((B ++ C).length + 1) 0 len (some cap) (P.cellsOf e)], C ++ [(⟨a.block, a.off, cc.size⟩, el, pieces xss (P.cellsOf e) cap)], by rw [← List.append_assoc]; exact hvb, ?_, rfl, .inr ⟨_, len, cap, rfl, hlc, hcm, fun _ => ⟨el, pieces xss (P.cellsOf e) cap, ?_, pieces_length _ _ _, fun i hi => ?_⟩⟩⟩
          · rw [← List.append_assoc]
            refine .cons ?_ .nil
            unfold Rel
            refine ⟨⟨a.block, a.off, cc.size⟩, a, cap, ?_, rfl, .inl ⟨ha, by simpa using hsz⟩, hlc, fun k hk => by cases hk; rfl⟩
            unfold rhoB
            simp
          · rw [← List.append_assoc]
            unfold heapB
            simp
          · rw [pieces_part _ _ _ _ hes hi (hlen i hi), ← List.append_assoc]
            exact Inp.sub (heapB_sub (B ++ C) _) _ _ _ (h2 i hi).2.2
    · rename_i fs hu
      obtain ⟨hp1, hp2⟩ := Bool.and_eq_true_iff.1 hp
      obtain ⟨xs, n, _, _, hl, hxl, hx⟩ := DataW.trod_struct hu h
      obtain ⟨ys, C, g1, g2, g3, g4⟩ := open_fields (W := W) (P := P) hσ d cs (P.cellsOf t) hl fs.toList 0 B hB hp1 fun f hf B hB => by
        obtain ⟨i, hi⟩ := List.getElem?_of_mem hf
        have hi' : fs[i]? = some f := by simpa using hi
        have := hx i f hi'
        rw [List.getElem?_eq_getElem (by rw [hxl]; exact (Array.getElem?_eq_some_iff.1 hi').1)] at this
        exact open_ok hσ d f.type _ n _ (List.all_eq_true.1 hp2 f hf) this B hB
      rw [List.drop_zero] at g2
      exact ⟨ys, C, g1, g2, g3, by rw [← g2.length]; exact hl, fun f hf => by simpa using (g4 f hf).2⟩
    · rename_i n e hu
      obtain ⟨hp1, hp2⟩ := Bool.and_eq_true_iff.1 hp
      obtain ⟨hp2, hp3⟩ := Bool.and_eq_true_iff.1 hp2
      have hes : 0 < P.cellsOf e := by rwa [Nat.blt_eq] at hp2
      have htot := Nat.eq_of_beq_eq_true hp1
      obtain ⟨ys, m, _, _, hl, hyl, hy⟩ := DataW.trod_array hu h
      obtain ⟨xss, C, h1, h2⟩ := open_many (W := W) hσ (fun _ xs s => Inp P s d e xs) (fun i xs s s' hs h => Inp.sub hs d e xs h) (fun i => (cs.drop (i * P.cellsOf e)).take (P.cellsOf e)) n B hB fun i hi B hB => by
        have := hy i hi
        rw [List.getElem?_eq_getElem (by omega)] at this
        exact open_ok hσ d e _ m _ hp3 this B hB
      have hlen : ∀ i, i < n → (xss i).length = P.cellsOf e := by
        intro i hi
        have := (h2 i hi).1.length
        rw [← this, List.length_take, List.length_drop, hl, htot]
        have : (i + 1) * P.cellsOf e ≤ n * P.cellsOf e := Nat.mul_le_mul_right _ hi
        rw [Nat.add_mul, Nat.one_mul] at this
        omega
      refine ⟨pieces xss (P.cellsOf e) n, C, h1, ?_, ?_, by rw [pieces_length, htot], fun i hi => ?_⟩
      · refine RelL.of_get (by rw [pieces_length, hl, htot]) fun j x y hx hy' => ?_
        have hj : j < n * P.cellsOf e := by have := (List.getElem?_eq_some_iff.1 hx).1; rwa [pieces_length] at this
        rw [pieces_get _ _ _ _ hj] at hx
        have hq : j / P.cellsOf e < n := by rw [Nat.div_lt_iff_lt_mul hes]; exact hj
        have hm : j % P.cellsOf e < (xss (j / P.cellsOf e)).length := by rw [hlen _ hq]; exact Nat.mod_lt _ hes
        rw [List.getD_eq_getElem?_getD, List.getElem?_eq_getElem hm] at hx
        cases hx
        obtain ⟨y', g1, g2⟩ := (h2 _ hq).1.get (j % P.cellsOf e) _ (List.getElem?_eq_getElem hm)
        rw [List.getElem?_take, if_pos (Nat.mod_lt _ hes), List.getElem?_drop, Nat.mul_comm, Nat.div_add_mod, hy'] at g1
        cases g1
        exact g2
      · refine allOne_at fun j v hv => ?_
        have hj : j < n * P.cellsOf e := by have := (List.getElem?_eq_some_iff.1 hv).1; rwa [pieces_length] at this
        rw [pieces_get _ _ _ _ hj] at hv
        have hq : j / P.cellsOf e < n := by rw [Nat.div_lt_iff_lt_mul hes]; exact hj
        have hm : j % P.cellsOf e < (xss (j / P.cellsOf e)).length := by rw [hlen _ hq]; exact Nat.mod_lt _ hes
        rw [List.getD_eq_getElem?_getD, List.getElem?_eq_getElem hm] at hv
        cases hv
        exact allOne_get (h2 _ hq).2.1 _ (List.getElem_mem hm)
      · rw [pieces_part _ _ _ _ hes hi (hlen i hi)]
        exact (h2 i hi).2.2
    · cases hp
end
end Go.AM
namespace Go.AM
open Go Go.RowKit Go.ChangeShapes Go.WideShapes Go.ChangeAt
section
variable {H : Type} {enc : TypeId × Value → H} {P : Program} {W W' : World} {σ : Nat → Value}
theorem mapM_keep {α β : Type} {f g : α → Option β} : ∀ {l : List α} {ys : List β}, l.mapM f = some ys → (∀ x ∈ l, ∀ y ∈ ys, f x = some y → g x = some y) → l.mapM g = some ys
  | [], ys, h, _ => by simpa using h
  | a :: l, ys, h, hg => by
    rw [List.mapM_cons] at h ⊢
    cases ha : f a with
    | none => rw [ha] at h; cases h
    | some b =>
      rw [ha] at h
      cases hl : l.mapM f with
      | none => rw [hl] at h; cases h
      | some bs =>
        rw [hl] at h
        cases h
        rw [hg a (by simp) b (by simp) ha, mapM_keep hl fun x hx y hy => hg x (by simp [hx]) y (by simp [hy])]
        rfl
theorem cells_keep (hb : Below W.heap.size W W') {a : Addr} {n : Nat} {cs : List Value} (h : W.cells? 0 a n = some cs) : W'.cells? 0 a n = some cs := by
  unfold World.cells? at h ⊢
  rw [if_pos (Nat.zero_le _)] at h ⊢
  refine mapM_keep h fun i _ v _ hv => ?_
  have hlt : (a.add i).block < W.heap.size := by
    unfold World.cell? at hv
    cases hq : W.heap[(a.add i).block]? with
    | none => rw [hq] at hv; cases hv
    | some o => exact (Array.getElem?_eq_some_iff.1 hq).1
  rw [← hv]
  exact hb.cell hlt
theorem trod_keep (hb : Below W.heap.size W W') (sp : Nat → Bool) : ∀ (d : Nat) (t : TypeId) (cs : List Value) (fuel : Nat) (x : DataW H × List MemPlace), plainT P d t = true → DataW.trod enc P W 0 (fun _ => true) true fuel t cs = some x →
    (∀ p ∈ x.2, sp p.block = true) → DataW.trod enc P W' 0 sp true fuel t cs = some x
  | 0, _, _, _, _, hp, _, _ => by cases hp
  | d + 1, t, cs, fuel, x, hp, h, hsp => by
    unfold plainT at hp
    cases fuel with
    | zero => cases h
    | succ fuel =>
    split at hp
    · rename_i hu
      obtain ⟨b, rfl, rfl⟩ := DataW.trod_bool hu h
      simp only [DataW.trod, hu]
    · rename_i k hu
      obtain ⟨n, rfl, rfl, hw⟩ := DataW.trod_int hu h
      simp [DataW.trod, hu, hw]
    · rename_i hu
      obtain ⟨v, rfl, rfl, hv⟩ := DataW.trod_string hu h
      simp [DataW.trod, hu, hv]
    · rename_i e hu
      obtain ⟨hp1, hp2⟩ := Bool.and_eq_true_iff.1 hp
      have hes : 0 < P.cellsOf e := by rwa [Nat.blt_eq] at hp1
      rcases DataW.trod_slice hu h with ⟨rfl, rfl⟩ | ⟨a, len, cap, elems, rest, n, hn, rfl, rfl, _, hlc, hcm, hel, _, hspare, _⟩
      · simp only [DataW.trod, hu]
      · obtain ⟨hrl, _⟩ := hspare rfl
        have h0 := h
        simp only [DataW.trod, hu, if_true, Nat.zero_le, true_and] at h ⊢
        rw [if_pos ⟨hlc, hcm⟩] at h ⊢
        rw [Option.bind_eq_some_iff] at h
        obtain ⟨el2, g1, g2⟩ := h
        rw [Option.map_eq_some_iff] at g2
        obtain ⟨re2, g2, g3⟩ := g2
        have hlen1 : el2.length = len := by rw [mapM_some_length g1]; simp
        have hlen2 : re2.length = cap - len := by rw [mapM_some_length g2]; simp
        simp only [Prod.mk.injEq, DataW.slice.injEq] at g3
        obtain ⟨⟨g31, g32⟩, g4⟩ := g3
        have keepE : ∀ y, (y ∈ el2 ∨ y ∈ re2) → ∀ c, DataW.trod enc P W 0 (fun _ => true) true fuel e c = some y → DataW.trod enc P W' 0 sp true fuel e c = some y := by
          intro y hy c hc
          refine trod_keep hb sp d e c fuel y hp2 hc fun p hpm => hsp p ?_
          simp only
          rw [← g4]
          refine List.mem_append_right _ (List.mem_flatMap.2 ⟨y, ?_, hpm⟩)
          rcases hy with hy | hy
          · exact List.mem_append_left _ hy
          · exact List.mem_append_right _ hy
        have keepB : ∀ i y, (y ∈ el2 ∨ y ∈ re2) → (W.cells? 0 (a.add (i * P.cellsOf e)) (P.cellsOf e)).bind (DataW.trod enc P W 0 (fun _ => true) true fuel e) = some y →
            (W'.cells? 0 (a.add (i * P.cellsOf e)) (P.cellsOf e)).bind (DataW.trod enc P W' 0 sp true fuel e) = some y := by
          intro i y hy hi
          rw [Option.bind_eq_some_iff] at hi ⊢
          obtain ⟨c, c1, c2⟩ := hi
          exact ⟨c, cells_keep hb c1, keepE y hy c c2⟩
        rw [mapM_keep g1 fun i _ y hy hi => keepB i y (.inl hy) hi]
        simp only [Option.bind_some]
        by_cases hz : cap - len = 0
        · have : re2 = [] := List.eq_nil_of_length_eq_zero (by omega)
          subst this
          simp only [hz, List.range_zero, List.mapM_nil]
          simp only [← g31, ← g32, ← g4, List.map_nil]
          split <;> simp
        · have hblk : sp a.block = true := by
            refine hsp (.cell a.block (a.off + 0)) ?_
            simp only
            refine List.mem_append_left _ ?_
            unfold MemPlace.row
            refine List.mem_map.2 ⟨0, ?_, rfl⟩
            rw [List.mem_range, hel, hrl]
            exact Nat.mul_pos (by omega) hes
          rw [if_pos hblk, mapM_keep g2 fun i _ y hy hi => keepB (len + i) y (.inr hy) hi]
          simp only [Option.map_some, ← g31, ← g32, ← g4]
    · rename_i fs hu
      obtain ⟨_, hp2⟩ := Bool.and_eq_true_iff.1 hp
      obtain ⟨xs, n, _, rfl, hl, hxl, hx⟩ := DataW.trod_struct hu h
      simp only [DataW.trod, hu] at h ⊢
      rw [if_pos hl] at h ⊢
      rw [Option.map_eq_some_iff] at h ⊢
      obtain ⟨ys, h1, h2⟩ := h
      refine ⟨ys, mapM_keep h1 fun f hf y hy hfy => ?_, h2⟩
      refine trod_keep hb sp d f.type _ fuel y (List.all_eq_true.1 hp2 f hf) hfy fun p hpm => hsp p ?_
      simp only [Prod.mk.injEq] at h2 ⊢
      rw [← h2.2]
      exact List.mem_flatMap.2 ⟨y, hy, hpm⟩
    · rename_i n e hu
      obtain ⟨_, hp2⟩ := Bool.and_eq_true_iff.1 hp
      obtain ⟨_, hp3⟩ := Bool.and_eq_true_iff.1 hp2
      obtain ⟨xs, m, _, rfl, hl, hxl, hx⟩ := DataW.trod_array hu h
      simp only [DataW.trod, hu] at h ⊢
      rw [if_pos hl] at h ⊢
      rw [Option.map_eq_some_iff] at h ⊢
      obtain ⟨ys, h1, h2⟩ := h
      refine ⟨ys, mapM_keep h1 fun i _ y hy hfy => ?_, h2⟩
      refine trod_keep hb sp d e _ fuel y hp3 hfy fun p hpm => hsp p ?_
      simp only [Prod.mk.injEq] at h2 ⊢
      rw [← h2.2]
      exact List.mem_flatMap.2 ⟨y, hy, hpm⟩
    · cases hp
theorem trodAll_keep (hb : Below W.heap.size W W') (sp : Nat → Bool) (d : Nat) : ∀ (ts : List TypeId) (vs : List Value) (ds : List (DataW H)) (ps : List MemPlace), (ts.all fun t => plainT P d t) = true → DataW.TrodAll enc P W 0 (fun _ => true) true ts vs ds ps →
    (∀ p ∈ ps, sp p.block = true) → DataW.TrodAll enc P W' 0 sp true ts vs ds ps
  | [], vs, ds, ps, _, h, _ => by
    cases vs <;> cases ds <;> first | exact h | exact h.elim
  | t :: ts, [], ds, ps, _, h, _ => by cases ds <;> exact h.elim
  | t :: ts, v :: vs, [], ps, _, h, _ => h.elim
  | t :: ts, v :: vs, x :: ds, ps, hp, h, hsp => by
    simp only [List.all_cons, Bool.and_eq_true] at hp
    obtain ⟨p, q, ⟨fuel, h1⟩, h2, rfl⟩ := h
    exact ⟨p, q, ⟨fuel, trod_keep hb sp d t _ fuel _ hp.1 h1 fun p hpm => hsp p (by simp [hpm])⟩, trodAll_keep hb sp d ts vs ds q hp.2 h2 fun p hpm => hsp p (by simp [hpm]), rfl⟩

/-! ### the arguments -/
/-- what an argument of type t is -/
def Arg (P : Program) (s : Heap) (d : Nat) (t : TypeId) (v : AVal) : Prop := Inp P s d t v.cells ∧ (isAggT P t = some true → ∃ l, v = .agg l ∧ allOne l = true) ∧ (isAggT P t ≠ some true → v.cells = [v])
def ArgL (P : Program) (s : Heap) (d : Nat) : List TypeId → List AVal → Prop
  | [], [] => True
  | t :: ts, v :: vs => Arg P s d t v ∧ ArgL P s d ts vs
  | _, _ => False
theorem Arg.sub {s s' : Heap} (hs : Sub s s') {d : Nat} {t : TypeId} {v : AVal} (h : Arg P s d t v) : Arg P s' d t v := ⟨Inp.sub hs _ _ _ h.1, h.2⟩
theorem okWide_cells {base : Nat} {t : TypeId} {v : Value} {d : Nat} (hp : plainT P d t = true) (h : Value.okWide P W .any base t v) : (isAggT P t = some true ∧ ∃ cs, v = .agg cs) ∨ (isAggT P t ≠ some true ∧ v.cells = #[v]) := by
  cases d with
  | zero => cases hp
  | succ d =>
    unfold plainT at hp
    unfold Value.okWide at h
    unfold isAggT
    split at hp <;> rename_i hu
    all_goals (try rw [hu] at h)
    all_goals (try simp only at h)
    · right
      refine ⟨by rw [hu]; simp, ?_⟩
      unfold Cell.okWide Cell.ok at h
      simp only [hu] at h
      cases v <;> simp_all <;> rfl
    · right
      refine ⟨by rw [hu]; simp, ?_⟩
      unfold Cell.okWide Cell.ok at h
      simp only [hu] at h
      cases v <;> simp_all <;> rfl
    · right
      refine ⟨by rw [hu]; simp, ?_⟩
      unfold Cell.okWide Cell.ok at h
      simp only [hu] at h
      cases v <;> simp_all <;> rfl
    · right
      refine ⟨by rw [hu]; simp, ?_⟩
      unfold Cell.okWide Cell.ok at h
      simp only [hu] at h
      cases v <;> simp_all <;> rfl
    · left
      obtain ⟨cs, e, _⟩ := h
      exact ⟨by rw [hu], cs, e⟩
    · left
      obtain ⟨cs, e, _⟩ := h
      exact ⟨by rw [hu], cs, e⟩
    · cases hp
theorem open_args (hσ : One σ) (d : Nat) (base : Nat) : ∀ (ts : List TypeId) (vs : List Value) (ds : List (DataW H)) (ps : List MemPlace) (B : IB), VB σ B W → (ts.all fun t => plainT P d t) = true → DataW.TrodAll enc P W 0 (fun _ => true) true ts vs ds ps →
    (∀ (j : Nat) t v, ts[j]? = some t → vs[j]? = some v → Value.okWide P W .any base t v) → ∃ xs C, VB σ (B ++ C) W ∧ RelL σ (rhoB (B ++ C)) xs vs ∧ ArgL P (heapB (B ++ C)) d ts xs
  | [], vs, ds, ps, B, hB, _, h, _ => by
    cases vs with
    | nil => exact ⟨[], [], by simpa using hB, .nil, trivial⟩
    | cons v vs => cases ds <;> exact h.elim
  | t :: ts, [], ds, ps, B, hB, _, h, _ => by cases ds <;> exact h.elim
  | t :: ts, v :: vs, [], ps, B, hB, _, h, _ => h.elim
  | t :: ts, v :: vs, x :: ds, ps, B, hB, hp, h, hv => by
    simp only [List.all_cons, Bool.and_eq_true] at hp
    obtain ⟨p, q, ⟨fuel, h1⟩, h2, rfl⟩ := h
    obtain ⟨xs, C, g1, g2, g3, g4⟩ := open_ok hσ d t _ fuel _ hp.1 h1 B hB
    obtain ⟨ys, D, k1, k2, k3⟩ := open_args hσ d base ts vs ds q (B ++ C) g1 hp.2 h2 fun j t v hj hv' => hv (j + 1) t v (by simpa using hj) (by simpa using hv')
    have hsub := heapB_sub (B ++ C) D
    have hle := rhoB_le (B ++ C) D
    rcases okWide_cells hp.1 (hv 0 t v rfl rfl) with ⟨ha, cs, rfl⟩ | ⟨ha, hc⟩
    · refine ⟨.agg xs :: ys, C ++ D, by rw [← List.append_assoc]; exact k1, ?_, ?_⟩
      · rw [← List.append_assoc]
        exact .cons (by unfold Rel; exact ⟨cs, rfl, RelL.mono hle _ _ g2⟩) k2
      · rw [← List.append_assoc]
        exact ⟨⟨Inp.sub hsub _ _ _ g4, fun _ => ⟨xs, rfl, g3⟩, fun h => absurd ha h⟩, k3⟩
    · rw [hc] at g2
      obtain ⟨y, rfl⟩ : ∃ y, xs = [y] := by
        have := g2.length
        cases xs with
        | nil => simp at this
        | cons y r => cases r with
          | nil => exact ⟨y, rfl⟩
          | cons _ _ => simp at this
      have hr : Rel σ (rhoB (B ++ C)) y v := by
        unfold RelL at g2
        obtain ⟨_, _, e, r, _⟩ := g2
        cases e; exact r
      have hy : y.one = true := by simpa [allOne] using g3
      refine ⟨y :: ys, C ++ D, by rw [← List.append_assoc]; exact k1, ?_, ?_⟩
      · rw [← List.append_assoc]
        exact .cons (Rel.mono hle _ _ hr) k2
      · rw [← List.append_assoc]
        refine ⟨⟨?_, fun h => absurd h ha, fun _ => one_cells hy⟩, k3⟩
        rw [one_cells hy]
        exact Inp.sub hsub _ _ _ g4
end
/-- abstract memory for what comes in -/
def memB (B : IB) : AHeap := { blks := Tr.ofListAt .nil 1 (B.map fun x => .cells x.2.1 (Tr.ofListAt .nil 0 x.2.2) x.2.2.length), next := B.length + 1, lo := B.length + 1, log := [] }
theorem memB_get (B : IB) (id : Nat) : (memB B).blks.get id = match id with
    | 0 => none
    | i + 1 => match B[i]? with
      | some x => some (.cells x.2.1 (Tr.ofListAt .nil 0 x.2.2) x.2.2.length)
      | none => none := by
  unfold memB
  simp only
  rw [Tr.get_ofListAt]
  cases id with
  | zero => rw [if_neg (by omega), Tr.get_nil]
  | succ i =>
    by_cases h : i < B.length
    · rw [if_pos (by simp; omega)]
      simp [List.getElem?_eq_getElem h]
    · rw [if_neg (by simp; omega), Tr.get_nil]
      have : B[i]? = none := List.getElem?_eq_none (by omega)
      simp only [this]
theorem memB_h (B : IB) {σ : Nat → Value} {W : World} (h : VB σ B W) : HRel (heapB B) (memB B) := by
  refine ⟨Nat.le_refl _, fun i hi => ?_, fun i t b hi => ?_⟩
  · rw [memB_get] at hi
    cases i with
    | zero => exact absurd rfl hi
    | succ i =>
      simp only at hi
      cases e : B[i]? with
      | none => rw [e] at hi; exact absurd rfl hi
      | some x => have := (List.getElem?_eq_some_iff.1 e).1; show i + 1 < B.length + 1; omega
  · cases i with
    | zero => cases hi
    | succ i =>
      unfold heapB at hi
      simp only at hi
      cases e : B[i]? with
      | none => rw [e] at hi; cases hi
      | some x =>
        rw [e] at hi
        cases hi
        obtain ⟨_, _, _, _, _, h4, _⟩ := h i x e
        have e2 : (memB B).blks.get (i + 1) = some (.cells x.2.1 (Tr.ofListAt .nil 0 x.2.2) x.2.2.length) := by rw [memB_get]; simp only [e]
        exact ⟨by simp, _, e2, rfl, rfl, h4, fun j hj => ofListAt_get _ _ hj⟩
theorem memB_wr (B : IB) {σ : Nat → Value} {W : World} (h : VB σ B W) : WR σ (rhoB B) W.heap.size (memB B) W := by
  have key : ∀ id b, (memB B).blks.get id = some b → ∃ i x, id = i + 1 ∧ B[i]? = some x ∧ b = .cells x.2.1 (Tr.ofListAt .nil 0 x.2.2) x.2.2.length := by
    intro id b hb
    rw [memB_get] at hb
    cases id with
    | zero => cases hb
    | succ i =>
      simp only at hb
      cases e : B[i]? with
      | none => rw [e] at hb; cases hb
      | some x => rw [e] at hb; cases hb; exact ⟨i, x, rfl, e, rfl⟩
  have lo : ∀ id b, (memB B).blks.get id = some b → ¬ (memB B).lo ≤ id := by
    intro id b hb
    obtain ⟨i, x, rfl, e, _⟩ := key id b hb
    have := (List.getElem?_eq_some_iff.1 e).1
    show ¬ B.length + 1 ≤ i + 1
    omega
  refine ⟨fun id b hb => ?_, fun id b L hb _ hl => absurd hl (lo id b hb), fun i j bi bj Li Lj hi _ _ _ hl _ => absurd hl (lo i bi hi), Nat.le_refl _⟩
  obtain ⟨i, x, rfl, e, rfl⟩ := key id b hb
  refine ⟨x.1, by unfold rhoB; simp [e], ?_⟩
  obtain ⟨cc, fr, h1, h2, h3, _, h5⟩ := h i x e
  refine ⟨cc, fr, h1, fun hl => absurd hl (lo _ _ hb), h2, h3, fun j v hj => ?_⟩
  have hlt : j < x.2.2.length := by
    rcases Nat.lt_or_ge j x.2.2.length with h | h
    · exact h
    · rw [Tr.get_ofListAt, if_neg (by omega), Tr.get_nil] at hj; cases hj
  rw [ofListAt_get _ _ hlt] at hj
  exact h5 j v hj
end Go.AM
namespace Go.AM
open Go Go.RowKit Go.ChangeShapes Go.WideShapes Go.ChangeAt
/-- functions without arguments of which it is known that they return true -/
def closedX (l : List FuncId) : Told := fun f => cond (memN f l) (some fun args => match args with
  | [] => ret (.bool true)
  | _ => fail) none
theorem closedX_fr (l : List FuncId) : FrX (closedX l) := by
  intro f g args h
  unfold closedX at h
  cases hm : memN f l with
  | false => rw [hm] at h; cases h
  | true =>
    rw [hm] at h
    cases h
    cases args with
    | nil => exact fr_ret _
    | cons _ _ => exact fr_fail
theorem wr_below {σ : Nat → Value} {ρ : Ren} {base : Nat} {H : AHeap} {w w' : World} (h : WR σ ρ base H w) (hb : Below w.heap.size w w') : WR σ ρ base H w' := by
  refine ⟨fun id b hid => ?_, h.own, h.inj, Nat.le_trans h.base hb.size⟩
  obtain ⟨L, h1, h2⟩ := h.blk id b hid
  refine ⟨L, h1, ?_⟩
  have hlt := live_lt h hid h1
  rw [hb.block L.blk hlt]; exact h2
theorem wpCall.mono {P : Program} {X : Told} {f : FuncId} {args : List AVal} {K K' : AVal → Heap → Prop} {s : Heap} (h : wpCall P X f args K s) (hk : ∀ v s', K v s' → K' v s') : wpCall P X f args K' s :=
  wpF.mono h fun _ s' ⟨v, e, hv⟩ => ⟨v, e, hk v s' hv⟩
end Go.AM
namespace Go.AM
open Go
/-! ### words for the proofs of single functions -/
def bodyOf (fn : Func) : Code := match fn.body with
  | some c => c
  | none => .refuse ""
variable {α : Type} {K : α → Prop} {s s' : Heap}
@[simp] theorem optK_mk {a : α} : optK (some a) K = K a := id rfl
theorem optK_of {o : Option α} {a : α} (h : o = some a) (hk : K a) : optK o K := by rw [h]; exact hk
@[simp] theorem boolK_true {p q : Prop} : boolK (.bool true) p q = p := id rfl
@[simp] theorem boolK_false {p q : Prop} : boolK (.bool false) p q = q := id rfl
theorem boolK_mk {b : Bool} {p q : Prop} (h1 : b = true → p) (h2 : b = false → q) : boolK (.bool b) p q := by cases b; exact h2 rfl; exact h1 rfl
@[simp] theorem pickV_true {a b : AVal} : pickV (.bool true) a b = some a := id rfl
@[simp] theorem pickV_false {a b : AVal} : pickV (.bool false) a b = some b := id rfl
@[simp] theorem nilCheck_ptr {b o : Nat} : nilCheckA (.ptr b o) = some (.ptr b o) := id rfl
@[simp] theorem addOff_ptr {b o k : Nat} : addOff k (.ptr b o) = some (.ptr b (o + k)) := id rfl
@[simp] theorem nat?_mk {k : IntKind} {n : Nat} : nat? (.int k (n : Int)) = some n := id rfl
@[simp] theorem intKindEq_self {k : IntKind} : intKindEq k k = true := by cases k <;> rfl
@[simp] theorem arith_add {k : IntKind} {x y : Int} : arithV .add (.int k x) (.int k y) = some (.int k (k.wrap (x + y))) := by simp [arithV, arith, frc_eq, wrapK_eq]
@[simp] theorem arith_sub {k : IntKind} {x y : Int} : arithV .sub (.int k x) (.int k y) = some (.int k (k.wrap (x - y))) := by simp [arithV, arith, frc_eq, wrapK_eq]
@[simp] theorem arith_mul {k : IntKind} {x y : Int} : arithV .mul (.int k x) (.int k y) = some (.int k (k.wrap (x * y))) := by simp [arithV, arith, frc_eq, wrapK_eq]
theorem arith_quo {k : IntKind} {x y : Int} (h : y ≠ 0) : arithV .quo (.int k x) (.int k y) = some (.int k (k.wrap (x.tdiv y))) := by
  have : (y == 0) = false := by simpa using h
  simp [arithV, arith, frc_eq, wrapK_eq, eqI_eq, this]
theorem arith_rem {k : IntKind} {x y : Int} (h : y ≠ 0) : arithV .rem (.int k x) (.int k y) = some (.int k (x.tmod y)) := by
  have : (y == 0) = false := by simpa using h
  simp [arithV, arith, frc_eq, eqI_eq, this]
@[simp] theorem arith_lss {k : IntKind} {x y : Int} : arithV .lss (.int k x) (.int k y) = some (.bool (decide (x < y))) := by simp [arithV, arith, ltI_eq]
@[simp] theorem arith_gtr {k : IntKind} {x y : Int} : arithV .gtr (.int k x) (.int k y) = some (.bool (decide (y < x))) := by simp [arithV, arith, ltI_eq]
@[simp] theorem arith_leq {k : IntKind} {x y : Int} : arithV .leq (.int k x) (.int k y) = some (.bool (decide (x ≤ y))) := by
  simp only [arithV, arith, ltI_eq, intKindEq_self, cond_true]
  by_cases h : x ≤ y
  · simp [h, Int.not_lt.2 h]
  · simp [h, Int.not_le.1 h]
@[simp] theorem arith_geq {k : IntKind} {x y : Int} : arithV .geq (.int k x) (.int k y) = some (.bool (decide (y ≤ x))) := by
  simp only [arithV, arith, ltI_eq, intKindEq_self, cond_true]
  by_cases h : y ≤ x
  · simp [h, Int.not_lt.2 h]
  · simp [h, Int.not_le.1 h]
@[simp] theorem eqV_int {c : Bool} {k : IntKind} {x y : Int} : eqV 0 c (.int k x) (.int k y) = some (x == y) := by simp [eqV, eqI_eq]
@[simp] theorem eqV_bool {c : Bool} {x y : Bool} : eqV 1 c (.bool x) (.bool y) = some (x == y) := id rfl
@[simp] theorem eqV_ptr {c : Bool} {b o : Nat} : eqV 3 c (.ptr b o) .nilptr = some false := id rfl
@[simp] theorem eqV_nilptr {c : Bool} : eqV 3 c .nilptr .nilptr = some true := id rfl
@[simp] theorem eqV_slc {c : Bool} {b o l es : Nat} {cp : Option Nat} : eqV 5 c (.slc b o l cp es) .nilslc = some false := id rfl
@[simp] theorem eqV_nilslc {c : Bool} : eqV 5 c .nilslc .nilslc = some true := id rfl
@[simp] theorem negB_mk {n b : Bool} : negB n (some b) = some (.bool (n != b)) := by cases n <;> cases b <;> rfl
@[simp] theorem unary_not {b : Bool} : unaryA .not (.bool b) = some (.bool !b) := id rfl
theorem rd1_mk {b o : Nat} {t : Bool} {e : TypeId} {l : List AVal} (h : s b = some (t, .cells e l)) : rd1 s (.ptr b o) = l[o]? := by simp [rd1, h]
theorem wr1_mk {b o : Nat} {e : TypeId} {l : List AVal} {v : AVal} (h : s b = some (false, .cells e l)) (hl : o < l.length) (hv : v.one = true) : wr1 s (.ptr b o) v = some (hset s b (false, .cells e (l.set o v))) := by
  have : Nat.blt o l.length = true := by rw [Nat.blt_eq]; exact hl
  simp [wr1, h, hv, this]
@[simp] theorem one_int {k : IntKind} {n : Int} : (AVal.int k n).one = true := id rfl
@[simp] theorem cells_agg {l : List AVal} : (AVal.agg l).cells = l := id rfl
@[simp] theorem allOne_nil : allOne [] = true := id rfl
@[simp] theorem allOne_cons {v : AVal} {l : List AVal} : allOne (v :: l) = (v.one && allOne l) := id rfl
theorem wrap64 {n : Int} (h1 : -9223372036854775808 ≤ n) (h2 : n ≤ 9223372036854775807) : IntKind.i64.wrap n = n := by
  rw [← wrapK_eq]
  simp only [wrapK]
  rw [wrapM_eq _ _ _ (by omega) (by omega)]
  split <;> omega
/-- what one heap still holds of another one, but for some blocks -/
def KeepBut (fp : Nat → Prop) (s s' : Heap) : Prop := ∀ b e, s b = some e → ¬ fp b → s' b = some e
theorem KeepBut.refl (fp : Nat → Prop) (s : Heap) : KeepBut fp s s := fun _ _ h _ => h
theorem KeepBut.trans {fp : Nat → Prop} {a b c : Heap} (h : KeepBut fp a b) (k : KeepBut fp b c) : KeepBut fp a c := fun i e hi hf => k i e (h i e hi hf) hf
theorem KeepBut.mono {fp fp' : Nat → Prop} {a b : Heap} (h : KeepBut fp a b) (hf : ∀ i, fp i → fp' i) : KeepBut fp' a b := fun i e hi hn => h i e hi fun k => hn (hf i k)
theorem Sub.keep {fp : Nat → Prop} {a b : Heap} (h : Sub a b) : KeepBut fp a b := fun i e hi _ => h i e hi
theorem Sub.refl (s : Heap) : Sub s s := fun _ _ h => h
theorem Sub.trans {a b c : Heap} (h : Sub a b) (k : Sub b c) : Sub a c := fun i e hi => k i e (h i e hi)
theorem sub_new {b : Nat} {e : Bool × Blk} (h : s b = none) : Sub s (hset s b e) := fun i x hi => by
  unfold hset
  have : i ≠ b := fun q => by rw [q, h] at hi; cases hi
  rw [if_neg this]; exact hi
@[simp] theorem hset_eq {b : Nat} {e : Bool × Blk} : hset s b e b = some e := if_pos rfl
theorem hset_other {b i : Nat} {e : Bool × Blk} (h : i ≠ b) : hset s b e i = s i := if_neg h
theorem ne_of_some {b i : Nat} {e : Bool × Blk} (hb : s b = none) (hi : s i = some e) : i ≠ b := fun q => by rw [q, hb] at hi; cases hi
theorem cut_refl {s : Heap} : cutH [(s, s)] s = s := by
  funext b
  show (if s b = none ∧ s b ≠ none then none else s b) = _
  rw [if_neg]; rintro ⟨h1, h2⟩; exact h2 h1
theorem add_frz {s : Heap} : add s (frz s) = s := by
  funext b
  unfold add frz
  cases s b <;> rfl
theorem sub_add {s t : Heap} : Sub s (add s t) := fun i e hi => add_some hi
theorem wrAgg_all {b : Nat} {e : TypeId} {l cs : List AVal} {n : Nat} {s : Heap} (h : s b = some (false, .cells e l)) (hl : cs.length = l.length) (hn : l.length = n) (ho : allOne cs = true) : wrAgg s n (.ptr b 0) (.agg cs) = some (hset s b (false, .cells e cs)) := by
  have e1 : Nat.beq cs.length n = true := by rw [hl, hn]; exact Nat.beq_refl _
  have e2 : Nat.ble (0 + cs.length) l.length = true := Nat.ble_eq_true_of_le (by omega)
  have e3 : setRange l 0 cs = cs := by unfold setRange; rw [List.drop_eq_nil_of_le (by omega)]; simp
  simp only [wrAgg, cells_agg, e1, cond_true, wrN, h, e2, ho, Bool.and_self, e3]
theorem rdN_all {b : Nat} {t : Bool} {e : TypeId} {l : List AVal} {n : Nat} {s : Heap} (h : s b = some (t, .cells e l)) (hn : l.length = n) : rdN s n (.ptr b 0) = some l := by
  have e1 : Nat.ble (0 + n) l.length = true := Nat.ble_eq_true_of_le (by omega)
  simp only [rdN, h, takeAt, e1, cond_true, List.drop_zero]
  rw [List.take_of_length_le (by omega)]
/-- the same but for one block -/
def Upto (b : Nat) (s s' : Heap) : Prop := ∀ i, i ≠ b → s' i = s i
theorem Upto.keep {fp : Nat → Prop} {b : Nat} {s s' : Heap} (h : Upto b s s') (hb : fp b) : KeepBut fp s s' := fun i e hi hn => by
  rw [h i fun q => hn (q ▸ hb)]; exact hi
theorem Upto.sub {b : Nat} {s s' : Heap} (h : Upto b s s') (hb : s b = none) : Sub s s' := fun i e hi => by
  rw [h i (ne_of_some hb hi)]; exact hi
theorem Upto.at {b i : Nat} {s s' : Heap} {e : Bool × Blk} (h : Upto b s s') (hi : s i = some e) (hb : s b = none) : s' i = some e := h.sub hb i e hi
theorem new_step {elem : TypeId} {cs : List AVal} {K : Nat → Heap → Prop} {s : Heap} (h : ∀ b s', s b = none → s' b = some (false, .cells elem cs) → Upto b s s' → K b s') : newK elem cs K s :=
  fun b hb => h b _ hb hset_eq fun _ hi => hset_other hi
theorem wr1_step {b o : Nat} {e : TypeId} {l : List AVal} {v : AVal} {K : Heap → Prop} {s : Heap} (h : s b = some (false, .cells e l)) (ho : o < l.length) (hv : v.one = true) (hk : ∀ s', s' b = some (false, .cells e (l.set o v)) → Upto b s s' → K s') : optK (wr1 s (.ptr b o) v) K :=
  optK_of (wr1_mk h ho hv) (hk _ hset_eq fun _ hi => hset_other hi)
theorem wrAgg_step {b : Nat} {e : TypeId} {l cs : List AVal} {n : Nat} {K : Heap → Prop} {s : Heap} (h : s b = some (false, .cells e l)) (hl : cs.length = l.length) (hn : l.length = n) (ho : allOne cs = true) (hk : ∀ s', s' b = some (false, .cells e cs) → Upto b s s' → K s') : optK (wrAgg s n (.ptr b 0) (.agg cs)) K :=
  optK_of (wrAgg_all h hl hn ho) (hk _ hset_eq fun _ hi => hset_other hi)
end Go.AM
namespace Go.AM
open Go
/-! ### slices of one-cell elements -/
def Sl (s : Heap) (v : AVal) (l : List AVal) : Prop := (v = .nilslc ∧ l = []) ∨ ∃ b o cap, v = .slc b o l.length cap 1 ∧ (∀ c, cap = some c → l.length ≤ c) ∧
  (l ≠ [] → ∃ t e cs, s b = some (t, .cells e cs) ∧ o + l.length ≤ cs.length ∧ ∀ i, i < l.length → cs[o + i]? = l[i]?)
variable {s s' : Heap} {v : AVal} {l : List AVal}
theorem Sl.len (h : Sl s v l) : lenOfA v = some l.length := by
  rcases h with ⟨rfl, rfl⟩ | ⟨b, o, cap, rfl, _⟩
  · rfl
  · rfl
theorem Sl.get (h : Sl s v l) {i : Nat} (hi : i < l.length) : ∃ p, iaddrS 1 v (.int .i64 (i : Int)) = some p ∧ rd1 s p = l[i]? := by
  rcases h with ⟨rfl, rfl⟩ | ⟨b, o, cap, rfl, _, h⟩
  · simp at hi
  · obtain ⟨t, e, cs, h1, h2, h3⟩ := h (by rintro rfl; simp at hi)
    refine ⟨.ptr b (o + i), ?_, by rw [rd1_mk h1, h3 i hi]⟩
    have : Nat.blt i l.length = true := by rw [Nat.blt_eq]; exact hi
    simp [iaddrS, this]
theorem Sl.rd (h : Sl s v l) : rdSl s 1 v = some l := by
  rcases h with ⟨rfl, rfl⟩ | ⟨b, o, cap, rfl, _, h⟩
  · rfl
  · cases l with
    | nil => rfl
    | cons x r =>
      obtain ⟨t, e, cs, h1, h2, h3⟩ := h (by simp)
      have e1 : Nat.beq ((x :: r).length * 1) 0 = false := rfl
      have e2 : Nat.ble (o + (x :: r).length * 1) cs.length = true := Nat.ble_eq_true_of_le (by omega)
      simp only [rdSl, Nat.beq_refl, cond_true, e1, cond_false, h1, takeAt, e2]
      congr 1
      apply List.ext_getElem?
      intro i
      rw [List.getElem?_take]
      split
      · rename_i hi
        rw [List.getElem?_drop, h3 i (by omega)]
      · rw [List.getElem?_eq_none (by omega)]
theorem Sl.sub (h : Sl s v l) (hs : Sub s s') : Sl s' v l := by
  rcases h with h | ⟨b, o, cap, h1, h2, h3⟩
  · exact .inl h
  · refine .inr ⟨b, o, cap, h1, h2, fun hl => ?_⟩
    obtain ⟨t, e, cs, q1, q2⟩ := h3 hl
    exact ⟨t, e, cs, hs _ _ q1, q2⟩
theorem Sl.keep {fp : Nat → Prop} (h : Sl s v l) (hs : KeepBut fp s s') (hn : ∀ b o n c, v = .slc b o n c 1 → l ≠ [] → ¬ fp b) : Sl s' v l := by
  rcases h with h | ⟨b, o, cap, h1, h2, h3⟩
  · exact .inl h
  · refine .inr ⟨b, o, cap, h1, h2, fun hl => ?_⟩
    obtain ⟨t, e, cs, q1, q2⟩ := h3 hl
    exact ⟨t, e, cs, hs _ _ q1 (hn b o _ cap h1 hl), q2⟩
theorem Sl.mk {b : Nat} {t : Bool} {e : TypeId} {n : Nat} {cap : Option Nat} (h : s b = some (t, .cells e l)) (hn : n = l.length) (hc : ∀ c, cap = some c → l.length ≤ c) : Sl s (.slc b 0 n cap 1) l := by
  subst hn
  exact .inr ⟨b, 0, cap, rfl, hc, fun _ => ⟨t, e, l, h, by omega, fun i _ => by rw [Nat.zero_add]⟩⟩
/-- a list that grows by append; 's0': the memory that was there before it -/
def Acc (elem : TypeId) (s0 s : Heap) (v : AVal) (l : List AVal) : Prop := (v = .nilslc ∧ l = []) ∨ ∃ b, s0 b = none ∧ v = .slc b 0 l.length none 1 ∧ s b = some (false, .cells elem l)
theorem Acc.sl {elem : TypeId} {s0 : Heap} (h : Acc elem s0 s v l) : Sl s v l := by
  rcases h with h | ⟨b, _, rfl, h⟩
  · exact .inl h
  · exact Sl.mk h rfl (by simp)
theorem Acc.app {elem : TypeId} {s0 : Heap} {y : AVal} {m : List AVal} {K : AVal → Heap → Prop} (h : Acc elem s0 s v l) (hy : Sl s y m) (hm : m ≠ []) (hl : l.length + m.length ≤ 16777216) (hdom : ∀ i, s0 i ≠ none → s i ≠ none)
    (hK : ∀ v' s', Acc elem s0 s' v' (l ++ m) → (∀ i e, s i = some e → (∀ b, v = .slc b 0 l.length none 1 → i ≠ b) → s' i = some e) → K v' s') : appK elem 1 v y K s := by
  obtain ⟨k, hk⟩ : ∃ k, m.length = k + 1 := by cases m with | nil => exact absurd rfl hm | cons a r => exact ⟨r.length, rfl⟩
  refine optK_of hy.rd (optK_of hy.len ?_)
  rcases h with ⟨rfl, rfl⟩ | ⟨b, hb0, rfl, hb⟩
  · simp only
    rw [hk]
    refine ⟨by simp at hl; omega, new_step fun c s1 hc h1 u1 => hK _ _ (.inr ⟨c, ?_, ?_, by simpa using h1⟩) fun i e hi _ => u1.at hi hc⟩
    · cases q : s0 c with
      | none => rfl
      | some x => exact absurd hc (hdom c (by rw [q]; simp))
    · simp [hk]
  · refine ⟨rfl, ?_⟩
    simp only
    rw [hk]
    simp only
    refine optK_of (Sl.rd (Sl.mk (l := l) hb rfl (by simp))) ?_
    unfold dropK
    rw [hb]
    refine ⟨rfl, by omega, new_step fun c s1 hc h1 u1 => hK _ _ (.inr ⟨c, ?_, by simp [hk], h1⟩) fun i e hi hib => ?_⟩
    · by_cases e : c = b
      · rw [e]; exact hb0
      · have hc' : s c = none := by rw [← hc]; exact (if_neg e).symm
        cases q : s0 c with
        | none => rfl
        | some x => exact absurd hc' (hdom c (by rw [q]; simp))
    · have hne := hib b rfl
      have : hdel s b i = some e := by rw [← hi]; exact if_neg hne
      exact u1.at this hc
/-- a copy made by append to an empty list -/
theorem app_copy {elem : TypeId} {b : Nat} {y : AVal} {m : List AVal} {K : AVal → Heap → Prop} (hy : Sl s y m) (hl : m.length ≤ 16777216)
    (hK : ∀ v' s', Sub s s' → (m = [] → v' = .slc b 0 0 (some 0) 1) → (m ≠ [] → ∃ c, s c = none ∧ v' = .slc c 0 m.length none 1 ∧ s' c = some (false, .cells elem m)) → K v' s') : appK elem 1 (.slc b 0 0 (some 0) 1) y K s := by
  refine optK_of hy.rd (optK_of hy.len ⟨rfl, ?_⟩)
  cases m with
  | nil => exact ⟨Nat.le_refl _, hK _ _ (.refl _) (fun _ => rfl) (fun h => absurd rfl h)⟩
  | cons x r =>
    have e0 : Nat.ble (0 + (r.length + 1)) 0 = false := by rw [Nat.zero_add]; rfl
    simp only [List.length_cons, e0, cond_false]
    refine optK_of (a := []) rfl ⟨by simp at hl; omega, new_step fun c s1 hc h1 u1 => hK _ _ (u1.sub hc) (by simp) fun _ => ⟨c, hc, by simp, by simpa using h1⟩⟩
end Go.AM
namespace Go.AM
open Go
/-! ### arguments by their types -/
section
variable {P : Program} {s : Heap} {d : Nat} {t e : TypeId} {v : AVal}
theorem arg_int {k : IntKind} (hu : P.underlying t = some (.int k)) (h : Arg P s (d + 1) t v) : ∃ n, v = .int k n ∧ (Lit.int k n).wf = true := by
  obtain ⟨h1, _, h3⟩ := h
  have : isAggT P t ≠ some true := by unfold isAggT; rw [hu]; simp
  rw [h3 this] at h1
  unfold Inp at h1
  simp only [hu] at h1
  obtain ⟨n, e, hn⟩ := h1
  exact ⟨n, by simpa using e, hn⟩
theorem inp_slice (hu : P.underlying t = some (.slice e)) (hc : P.cellsOf e = 1) {A : Type} (f : A → AVal) (Q : A → Prop) (he : ∀ xs, Inp P s d e xs → ∃ a, xs = [f a] ∧ Q a) {xs : List AVal} (h : Inp P s (d + 1) t xs) : ∃ v, xs = [v] ∧ ∃ l : List A, Sl s v (l.map f) ∧ (∀ a ∈ l, Q a) ∧ l.length ≤ maxLen := by
  unfold Inp at h
  simp only [hu] at h
  rcases h with rfl | ⟨b, len, cap, rfl, h1, h2, h3⟩
  · exact ⟨_, rfl, [], .inl ⟨rfl, rfl⟩, by simp, by simp⟩
  · refine ⟨_, rfl, ?_⟩
    rw [hc] at h3 ⊢
    by_cases hz : cap = 0
    · subst hz
      have : len = 0 := by omega
      subst this
      exact ⟨[], .inr ⟨b, 0, some 0, rfl, by simp, by simp⟩, by simp, by simp⟩
    · obtain ⟨el, l, g1, g2, g3⟩ := h3 (by omega)
      simp only [Nat.mul_one] at g2 g3
      have each : ∀ i, i < cap → ∃ a, l[i]? = some (f a) ∧ Q a := by
        intro i hi
        obtain ⟨a, q1, q2⟩ := he _ (g3 i hi)
        refine ⟨a, ?_, q2⟩
        have := congrArg (fun r : List AVal => r[0]?) q1
        simpa [List.getElem?_take, List.getElem?_drop] using this
      have mk : ∀ n, n ≤ cap → ∃ r : List A, r.length = n ∧ (∀ i, i < n → l[i]? = (r.map f)[i]?) ∧ ∀ a ∈ r, Q a := by
        intro n
        induction n with
        | zero => exact fun _ => ⟨[], rfl, by simp, by simp⟩
        | succ n ih =>
          intro hn
          obtain ⟨r, r1, r2, r3⟩ := ih (by omega)
          obtain ⟨a, a1, a2⟩ := each n (by omega)
          refine ⟨r ++ [a], by simp [r1], fun i hi => ?_, fun b hb => ?_⟩
          · by_cases e : i = n
            · subst e; rw [a1]; simp [← r1]
            · rw [r2 i (by omega)]; simp [List.getElem?_append, r1, show i < n by omega]
          · rcases List.mem_append.1 hb with hb | hb
            · exact r3 b hb
            · rw [List.mem_singleton.1 hb]; exact a2
      obtain ⟨r, r1, r2, r3⟩ := mk len h1
      refine ⟨r, .inr ⟨b, 0, some cap, by simp [r1], by simp [r1]; exact h1, fun _ => ⟨true, el, l, g1, by simp [r1]; omega, fun i hi => ?_⟩⟩, r3, by omega⟩
      rw [Nat.zero_add]
      exact r2 i (by simpa [r1] using hi)
theorem inp_int {k : IntKind} (hu : P.underlying t = some (.int k)) {xs : List AVal} (h : Inp P s (d + 1) t xs) : ∃ n, xs = [.int k n] ∧ (Lit.int k n).wf = true := by
  unfold Inp at h
  simp only [hu] at h
  exact h
end
end Go.AM
namespace Go.AM
open Go Go.RowKit Go.ChangeShapes Go.WideShapes Go.ChangeAt
/-! ### laws whose arguments are never looked into -/
section
variable {H : Type} {enc : TypeId × Value → H} {P : Program} {W : World}
end
end Go.AM
namespace Go.AM
open Go
/-! ### the same machine, laid for the kernel: small closed pieces, recursors in place of recursive equations -/
noncomputable section
/-- the way down to a number's place; a closed piece for each number -/
def path (i : Nat) : List Bool := Nat.rec (motive := fun _ => Nat → List Bool) (fun _ => []) (fun _ ih i => Nat.rec (motive := fun _ => List Bool) [] (fun j _ => Nat.beq (Nat.mod j 2) 0 :: ih (Nat.div j 2)) i) (Nat.succ i) i
def gStep {α : Type} (v : Option α) (gl gr : List Bool → Option α) (p : List Bool) : Option α :=
  List.rec (motive := fun _ => Option α) v (fun b p _ => Bool.rec (motive := fun _ => Option α) (gr p) (gl p) b) p
def gNil {α : Type} (_ : List Bool) : Option α := none
def Tr.getP {α : Type} (t : Tr α) : List Bool → Option α := Tr.rec (motive := fun _ => List Bool → Option α) gNil (fun v _ _ gl gr => gStep v gl gr) t
def Tr.getR {α : Type} (t : Tr α) (i : Nat) : Option α := t.getP (path i)
def pHere {α : Type} (x : Option α) (t : Tr α) : Tr α := Tr.rec (motive := fun _ => Tr α) (.node x .nil .nil) (fun _ l r _ _ => .node x l r) t
def pNil {α : Type} (ih : Tr α → Tr α) (b : Bool) : Tr α := Bool.rec (motive := fun _ => Tr α) (.node none .nil (ih .nil)) (.node none (ih .nil) .nil) b
def pNode {α : Type} (ih : Tr α → Tr α) (b : Bool) (v : Option α) (l r : Tr α) : Tr α := Bool.rec (motive := fun _ => Tr α) (.node v l (ih r)) (.node v (ih l) r) b
def pDown {α : Type} (ih : Tr α → Tr α) (b : Bool) (t : Tr α) : Tr α := Tr.rec (motive := fun _ => Tr α) (pNil ih b) (fun v l r _ _ => pNode ih b v l r) t
def Tr.putP {α : Type} (x : Option α) (p : List Bool) : Tr α → Tr α := List.rec (motive := fun _ => Tr α → Tr α) (pHere x) (fun b _ ih => pDown ih b) p
def Tr.putR {α : Type} (t : Tr α) (i : Nat) (x : Option α) : Tr α := Tr.putP x (path i) t
def pathF (f i : Nat) : List Bool := Nat.rec (motive := fun _ => Nat → List Bool) (fun _ => []) (fun _ ih i => Nat.rec (motive := fun _ => List Bool) [] (fun j _ => Nat.beq (Nat.mod j 2) 0 :: ih (Nat.div j 2)) i) f i
theorem pathF_succ (f j : Nat) : pathF (f + 1) (j + 1) = Nat.beq (j % 2) 0 :: pathF f (j / 2) := rfl
theorem pathF_fuel : ∀ (f g i : Nat), i < f → i < g → pathF f i = pathF g i := by
  intro f
  induction f with
  | zero => intro g i h; omega
  | succ f ih =>
    intro g i hf hg
    cases g with
    | zero => omega
    | succ g =>
      cases i with
      | zero => rfl
      | succ j => rw [pathF_succ, pathF_succ, ih g (j / 2) (by omega) (by omega)]
theorem path_eq (i : Nat) : path i = pathF (i + 1) i := rfl
theorem path_succ (j : Nat) : path (j + 1) = Nat.beq (j % 2) 0 :: path (j / 2) := by
  rw [path_eq, pathF_succ, path_eq, pathF_fuel (j + 1) (j / 2 + 1) (j / 2) (by omega) (by omega)]
def Tr.listR {α : Type} (t : Tr α) (i : Nat) (l : List α) : Tr α := List.rec (motive := fun _ => Tr α → Nat → Tr α) (fun t _ => t) (fun x _ ih t i => ih (t.putR i (some x)) (Nat.succ i)) l t i
theorem Tr.getR_eq {α : Type} (t : Tr α) (i : Nat) : t.getR i = t.get i := by
  unfold Tr.getR
  induction t generalizing i with
  | nil => exact (Tr.get_nil i).symm
  | node v l r ihl ihr =>
    cases i with
    | zero => rfl
    | succ j =>
      rw [path_succ]
      show Bool.rec (motive := fun _ => Option α) (r.getP (path (j / 2))) (l.getP (path (j / 2))) (Nat.beq (j % 2) 0) = _
      simp only [Tr.get]
      cases Nat.beq (j % 2) 0
      · exact ihr _
      · exact ihl _
theorem Tr.putP_eq {α : Type} (x : Option α) : ∀ (f : Nat) (t : Tr α) (i : Nat), i < f → Tr.putP x (path i) t = Tr.setF f t i x := by
  intro f
  induction f with
  | zero => intro t i h; omega
  | succ f ih =>
    intro t i h
    cases i with
    | zero => cases t <;> rfl
    | succ j =>
      have h2 : j / 2 < f := by omega
      rw [path_succ]
      cases t with
      | nil =>
        show Bool.rec (motive := fun _ => Tr α) (.node none .nil (Tr.putP x (path (j / 2)) .nil)) (.node none (Tr.putP x (path (j / 2)) .nil) .nil) (Nat.beq (j % 2) 0) = cond (Nat.beq (j % 2) 0) (.node none (Tr.setF f .nil (j / 2) x) .nil) (.node none .nil (Tr.setF f .nil (j / 2) x))
        rw [ih .nil (j / 2) h2]
        cases Nat.beq (j % 2) 0 <;> rfl
      | node v l r =>
        show Bool.rec (motive := fun _ => Tr α) (.node v l (Tr.putP x (path (j / 2)) r)) (.node v (Tr.putP x (path (j / 2)) l) r) (Nat.beq (j % 2) 0) = cond (Nat.beq (j % 2) 0) (.node v (Tr.setF f l (j / 2) x) r) (.node v l (Tr.setF f r (j / 2) x))
        rw [ih l (j / 2) h2, ih r (j / 2) h2]
        cases Nat.beq (j % 2) 0 <;> rfl
theorem Tr.putR_eq {α : Type} (t : Tr α) (i : Nat) (x : Option α) : t.putR i x = t.put i x := Tr.putP_eq x (i + 1) t i (by omega)
theorem Tr.listR_eq {α : Type} (l : List α) : ∀ (t : Tr α) (i : Nat), t.listR i l = Tr.ofListAt t i l := by
  induction l with
  | nil => intro t i; rfl
  | cons x xs ih => intro t i; show Tr.listR _ _ xs = _; rw [ih, Tr.putR_eq]; rfl

def bdR {α β : Type} (m : Option (α × AHeap)) (f : α → AHeap → Option (β × AHeap)) : Option (β × AHeap) := Option.rec (motive := fun _ => Option (β × AHeap)) none (fun p => Prod.rec (motive := fun _ => Option (β × AHeap)) f p) m
theorem bdR_eq {α β : Type} (m : M α) (f : α → M β) (H : AHeap) : bdR (m H) (fun a H => f a H) = bd m f H := by
  unfold bd
  cases m H with
  | none => rfl
  | some p => rfl
theorem bdR_eq' {α β : Type} (m : M α) (f : α → M β) (H : AHeap) (g : α → AHeap → Option (β × AHeap)) (h : ∀ a K, g a K = f a K) : bdR (m H) g = bd m f H := by
  rw [← bdR_eq, show g = fun a K => f a K from funext fun a => funext fun K => h a K]
def orU (o : Option AVal) : Option AVal := Option.rec (motive := fun _ => Option AVal) (some .undef) some o
/-- an operand, laid once: the kernel keeps what a closed piece comes to -/
structure XB where
  f : Tmps → Option AVal
def xT (t : Nat) (T : Tmps) : Option AVal := orU (T.getR t)
def xK (o : Option AVal) (_ : Tmps) : Option AVal := o
def xb (x : Operand) : XB := match x with
  | .tmp t => ⟨xT t⟩
  | .const v => ⟨xK (ofV 2 v)⟩
  | .func f => ⟨xK (some (.fn (.func f) [] []))⟩
  | .global _ => ⟨xK none⟩
def evR (T : Tmps) (x : Operand) : Option AVal := XB.rec (motive := fun _ => Option AVal) (fun f => f T) (xb x)
theorem evR_eq (T : Tmps) (x : Operand) : evR T x = ev T x := by
  cases x with
  | tmp t => show orU (T.getR t) = _; rw [Tr.getR_eq]; unfold ev; simp only; cases T.get t <;> rfl
  | _ => rfl
def evsR (T : Tmps) (l : List Operand) : Option (List AVal) := List.rec (motive := fun _ => Option (List AVal)) (some []) (fun x _ ih => Option.rec (motive := fun _ => Option (List AVal)) none (fun v => Option.rec (motive := fun _ => Option (List AVal)) none (fun vs => some (v :: vs)) ih) (evR T x)) l
theorem evsR_eq (T : Tmps) (l : List Operand) : evsR T l = evs T l := by
  induction l with
  | nil => rfl
  | cons x xs ih =>
    show Option.rec (motive := fun _ => Option (List AVal)) none (fun v => Option.rec (motive := fun _ => Option (List AVal)) none (fun vs => some (v :: vs)) (evsR T xs)) (evR T x) = _
    rw [ih, evR_eq]
    cases h1 : ev T x with
    | none => simp [evs, h1]
    | some v => cases h2 : evs T xs <;> simp [evs, h1, h2]

/-! memory -/
def rdR (id : Nat) (H : AHeap) : Option (ABlk × AHeap) := AHeap.rec (motive := fun _ => Option (ABlk × AHeap)) (fun blks next lo log => Option.rec (motive := fun _ => Option (ABlk × AHeap)) none (fun b => some (b, ⟨blks, next, lo, (id, false) :: log⟩)) (blks.getR id)) H
theorem rdR_eq (id : Nat) (H : AHeap) : rdR id H = rd id H := by
  obtain ⟨blks, next, lo, log⟩ := H
  show Option.rec (motive := fun _ => Option (ABlk × AHeap)) none _ (blks.getR id) = _
  rw [Tr.getR_eq]
  unfold rd
  simp only
  cases blks.get id <;> rfl
def wrR (id : Nat) (b : ABlk) (H : AHeap) : Option (Unit × AHeap) := AHeap.rec (motive := fun _ => Option (Unit × AHeap)) (fun blks next lo log => Bool.rec (motive := fun _ => Option (Unit × AHeap)) none (Option.rec (motive := fun _ => Option (Unit × AHeap)) none (fun _ => some ((), ⟨blks.putR id (some b), next, lo, (id, true) :: log⟩)) (blks.getR id)) (Nat.ble lo id)) H
theorem wrR_eq (id : Nat) (b : ABlk) (H : AHeap) : wrR id b H = wr id b H := by
  obtain ⟨blks, next, lo, log⟩ := H
  show Bool.rec (motive := fun _ => Option (Unit × AHeap)) none (Option.rec (motive := fun _ => Option (Unit × AHeap)) none (fun _ => some ((), AHeap.mk (blks.putR id (some b)) next lo ((id, true) :: log))) (blks.getR id)) (Nat.ble lo id) = _
  rw [Tr.getR_eq, Tr.putR_eq]
  unfold wr
  simp only
  cases Nat.ble lo id with
  | false => rfl
  | true => cases blks.get id <;> rfl
def fN {β : Type} (k : Nat → β) (n : Nat) : β := Nat.rec (motive := fun _ => β) (k 0) (fun m _ => k (m + 1)) n
theorem fN_eq {β : Type} (k : Nat → β) (n : Nat) : fN k n = k n := by cases n <;> rfl
def fI {β : Type} (k : Int → β) (n : Int) : β := Int.rec (motive := fun _ => β) (fun a => fN (fun a => k (.ofNat a)) a) (fun a => fN (fun a => k (.negSucc a)) a) n
theorem fI_eq {β : Type} (k : Int → β) (n : Int) : fI k n = k n := by
  cases n with
  | ofNat a => exact fN_eq (fun a => k (.ofNat a)) a
  | negSucc a => exact fN_eq (fun a => k (.negSucc a)) a
def nwR (b : ABlk) (H : AHeap) : Option (Nat × AHeap) := AHeap.rec (motive := fun _ => Option (Nat × AHeap)) (fun blks next lo log => fN (fun n => Bool.rec (motive := fun _ => Option (Nat × AHeap)) none (some (n, ⟨blks.putR n (some b), Nat.succ n, lo, (n, true) :: log⟩)) (Nat.ble lo n)) next) H
theorem nwR_eq (b : ABlk) (H : AHeap) : nwR b H = nw b H := by
  obtain ⟨blks, next, lo, log⟩ := H
  unfold nwR nw
  simp only [frcN_eq, fN_eq, Tr.putR_eq]
  cases Nat.ble lo next <;> rfl
def allOneR (l : List AVal) : Bool := List.rec (motive := fun _ => Bool) true (fun v _ ih => Bool.rec (motive := fun _ => Bool) false ih v.one) l
theorem allOneR_eq (l : List AVal) : allOneR l = allOne l := by
  induction l with
  | nil => rfl
  | cons v vs ih =>
    show Bool.rec (motive := fun _ => Bool) false (allOneR vs) v.one = _
    rw [ih]
    cases h : v.one <;> simp [allOne, h]
def lenR (l : List AVal) : Nat := List.rec (motive := fun _ => Nat) 0 (fun _ _ ih => Nat.succ ih) l
theorem lenR_eq (l : List AVal) : lenR l = l.length := by
  induction l with
  | nil => rfl
  | cons v vs ih => show Nat.succ (lenR vs) = _; rw [ih]; rfl
def newCellsR (elem : TypeId) (cs : List AVal) (H : AHeap) : Option (Nat × AHeap) := Bool.rec (motive := fun _ => Option (Nat × AHeap)) none (nwR (.cells elem (Tr.listR .nil 0 cs) (lenR cs)) H) (allOneR cs)
theorem newCellsR_eq (elem : TypeId) (cs : List AVal) (H : AHeap) : newCellsR elem cs H = newCells elem cs H := by
  unfold newCellsR newCells
  rw [allOneR_eq, nwR_eq, Tr.listR_eq, lenR_eq]
  cases allOne cs <;> rfl
def cellsR (c : Tr AVal) (n : Nat) : Nat → Option (List AVal) := Nat.rec (motive := fun _ => Nat → Option (List AVal)) (fun _ => some []) (fun _ ih o => Option.rec (motive := fun _ => Option (List AVal)) none (fun v => Option.rec (motive := fun _ => Option (List AVal)) none (fun vs => some (v :: vs)) (ih (Nat.succ o))) (c.getR o)) n
theorem cellsR_eq (c : Tr AVal) (n : Nat) : ∀ o, cellsR c n o = cellsAt c o n := by
  induction n with
  | zero => intro o; rfl
  | succ n ih =>
    intro o
    show Option.rec (motive := fun _ => Option (List AVal)) none (fun v => Option.rec (motive := fun _ => Option (List AVal)) none (fun vs => some (v :: vs)) (cellsR c n (Nat.succ o))) (c.getR o) = _
    rw [ih, Tr.getR_eq]
    cases h1 : c.get o with
    | none => simp [cellsAt, h1]
    | some v => cases h2 : cellsAt c (o + 1) n <;> simp [cellsAt, h1, h2]
def cell1 (o : Nat) (b : ABlk) (H : AHeap) : Option (AVal × AHeap) := match b with
  | .cells _ c _ => Option.rec (motive := fun _ => Option (AVal × AHeap)) none (fun v => some (v, H)) (c.getR o)
  | _ => none
def cellN (o n : Nat) (b : ABlk) (H : AHeap) : Option (AVal × AHeap) := match b with
  | .cells _ c _ => Option.rec (motive := fun _ => Option (AVal × AHeap)) none (fun l => some (.agg l, H)) (cellsR c n o)
  | _ => none
/-- how a type is loaded: 0: not at all; 1: one cell; n + 2: n cells as one -/
def loadKind (P : Program) (t : TypeId) : Nat := match isAggT P t with
  | some true => match sz P t with
    | some n => n + 2
    | none => 0
  | some false => 1
  | none => 0
def loadS (b o : Nat) (H : AHeap) (k : Nat) : Option (AVal × AHeap) := Nat.rec (motive := fun _ => Option (AVal × AHeap)) none (fun k _ => Nat.rec (motive := fun _ => Option (AVal × AHeap)) (bdR (rdR b H) (cell1 o)) (fun n _ => bdR (rdR b H) (cellN o n)) k) k
def loadR (P : Program) (t : TypeId) (b o : Nat) (H : AHeap) : Option (AVal × AHeap) := loadS b o H (loadKind P t)
theorem loadR_eq (P : Program) (t : TypeId) (b o : Nat) (H : AHeap) : loadR P t b o H = loadA P t b o H := by
  unfold loadR loadKind loadA
  cases isAggT P t with
  | none => rfl
  | some g =>
    cases g with
    | true =>
      simp only
      cases sz P t with
      | none => rfl
      | some n =>
        show bdR (rdR b H) (cellN o n) = bd (loadCellsA b o n) (fun l => ret (.agg l)) H
        rw [rdR_eq]
        unfold loadCellsA bd
        cases rd b H with
        | none => rfl
        | some p =>
          obtain ⟨blk, K⟩ := p
          show cellN o n blk K = _
          cases blk with
          | cells e c m => simp only [cellN, cellsR_eq, lift]; cases cellsAt c o n <;> rfl
          | _ => rfl
    | false =>
      show bdR (rdR b H) (cell1 o) = bd (rd b) (fun blk => match blk with
        | .cells _ c _ => lift (c.get o)
        | _ => fail) H
      rw [rdR_eq]
      unfold bd
      cases rd b H with
      | none => rfl
      | some p =>
        obtain ⟨blk, K⟩ := p
        show cell1 o blk K = _
        cases blk with
        | cells e c m => simp only [cell1, Tr.getR_eq, lift]; cases c.get o <;> rfl
        | _ => rfl
def storeKZ (b o : Nat) (vs : List AVal) (blk : ABlk) (H : AHeap) : Option (Unit × AHeap) := match blk with
  | .cells e c n => Bool.rec (motive := fun _ => Option (Unit × AHeap)) none (wrR b (.cells e (Tr.listR c o vs) n) H) (Bool.rec (motive := fun _ => Bool) false (allOneR vs) (Nat.ble (Nat.add o (lenR vs)) n))
  | _ => none
def storeCellsR (b o : Nat) (vs : List AVal) (H : AHeap) : Option (Unit × AHeap) := bdR (rdR b H) (storeKZ b o vs)
theorem storeCellsR_eq (b o : Nat) (vs : List AVal) (H : AHeap) : storeCellsR b o vs H = storeCellsA b o vs H := by
  unfold storeCellsR storeCellsA bd
  rw [rdR_eq]
  cases rd b H with
  | none => rfl
  | some p =>
    obtain ⟨blk, K⟩ := p
    show storeKZ b o vs blk K = _
    cases blk with
    | cells e c n =>
      simp only [storeKZ, allOneR_eq, lenR_eq, wrR_eq, Tr.listR_eq]
      show Bool.rec (motive := fun _ => Option (Unit × AHeap)) none _ (Bool.rec (motive := fun _ => Bool) false (allOne vs) (Nat.ble (o + vs.length) n)) = _
      cases Nat.ble (o + vs.length) n with
      | false => rfl
      | true => cases allOne vs <;> rfl
    | _ => rfl
def storeP (n : Nat) (p : AVal) (cs : List AVal) (H : AHeap) : Option (Unit × AHeap) := match p with
  | .ptr b o => Bool.rec (motive := fun _ => Option (Unit × AHeap)) none (storeCellsR b o cs H) (Nat.beq (lenR cs) n)
  | _ => none
def storeR (P : Program) (t : TypeId) (p v : AVal) (H : AHeap) : Option (Unit × AHeap) := Option.rec (motive := fun _ => Option (Unit × AHeap)) none (fun n => storeP n p v.cells H) (sz P t)
theorem storeR_eq (P : Program) (t : TypeId) (p v : AVal) (H : AHeap) : storeR P t p v H = storeA P t p v H := by
  unfold storeR storeA
  cases sz P t with
  | none => cases p <;> rfl
  | some n =>
    show storeP n p v.cells H = _
    cases p with
    | ptr b o =>
      simp only [storeP, lenR_eq, storeCellsR_eq]
      cases Nat.beq v.cells.length n <;> rfl
    | _ => rfl

/-! operations -/
def vN (r : Option (AVal × AHeap)) : Option (ANext × AHeap) := bdR r fun v H => some (.val v, H)
theorem vN_eq (m : M AVal) (H : AHeap) : vN (m H) = bd m (fun x => ret (.val x)) H := bdR_eq m (fun x => ret (ANext.val x)) H
def uN (r : Option (Unit × AHeap)) : Option (ANext × AHeap) := bdR r fun _ H => some (.val .undef, H)
theorem uN_eq (m : M Unit) (H : AHeap) : uN (m H) = bd m (fun _ => ret (.val .undef)) H := bdR_eq m (fun _ => ret (ANext.val .undef)) H
def oN {α : Type} (o : Option α) (k : α → Option (ANext × AHeap)) : Option (ANext × AHeap) := Option.rec (motive := fun _ => Option (ANext × AHeap)) none k o
def lN (H : AHeap) (o : Option AVal) : Option (ANext × AHeap) := oN o fun b => some (.val b, H)
abbrev OpF := Program → Tmps → AHeap → Option (ANext × AHeap)
def oMove (x : Operand) : OpF := fun _ T H => lN H (evR T x)
def oPick (c a b : Operand) : OpF := fun _ T H => match evR T c with
  | some (.bool t) => cond t (lN H (evR T a)) (lN H (evR T b))
  | _ => none
def allocS (t : TypeId) (z : AVal) (H : AHeap) : Option (ANext × AHeap) := bdR (newCellsR t z.cells H) fun id H => some (.val (.ptr id 0), H)
def oAlloc (t : TypeId) : OpF := fun P _ H => oN (zeroA P t) fun z => allocS t z H
def oBox (t : TypeId) (x : Operand) : OpF := fun _ T H => oN (evR T x) fun v => allocS t v H
def oBuild (t : TypeId) (ps : Array (Nat × Operand)) : OpF := fun P T H => oN (evParts T ps.toList) fun l => lN H (buildA P t l)
def oBuildSlice (t : TypeId) (n : Nat) (ps : Array (Nat × Operand)) : OpF := fun P T H => oN (evParts T ps.toList) fun l => vN (buildSliceA P t n l H)
def loadV (P : Program) (t : TypeId) (H : AHeap) (p : AVal) : Option (ANext × AHeap) := match p with
  | .ptr b o => vN (loadR P t b o H)
  | _ => none
def oLoad (t : TypeId) (a : Operand) : OpF := match a with
  | .global g => fun P T H => opA P T (.load t (.global g)) H
  | a => fun P T H => oN (evR T a) (loadV P t H)
def oStore (t : TypeId) (a x : Operand) : OpF := fun P T H => oN (evR T a) fun p => oN (evR T x) fun v => uN (storeR P t p v H)
def oNil (x : Operand) : OpF := fun _ T H => oN (evR T x) fun a => lN H (nilCheckA a)
def cmpA (b : Bool) : Option AVal := some (.bool b)
def arI (k : IntKind) (n : Int) : Option AVal := fI (fun n => fI (fun n => some (.int k n)) (wrapK k n)) n
def arithSel (op : BinOp) : IntKind → Int → Int → Option AVal := match op with
  | .add => fun k x y => arI k (Int.add x y)
  | .sub => fun k x y => arI k (Int.sub x y)
  | .mul => fun k x y => arI k (Int.mul x y)
  | .eql => fun _ x y => cmpA (eqI x y)
  | .neq => fun _ x y => cmpA (!eqI x y)
  | .lss => fun _ x y => cmpA (ltI x y)
  | .leq => fun _ x y => cmpA (!ltI y x)
  | .gtr => fun _ x y => cmpA (ltI y x)
  | .geq => fun _ x y => cmpA (!ltI x y)
  | op => arith op
def binRest (op : BinOp) : Program → TypeId → Operand → Operand → AVal → AVal → Option AVal := match op with
  | .eql => fun P t x y a b => cond (guardPair P t x y a b) ((aEq P 30 t a b).map .bool) none
  | .neq => fun P t x y a b => cond (guardPair P t x y a b) ((aEq P 30 t a b).map fun r => .bool !r) none
  | _ => fun _ _ _ _ _ _ => none
def sameK (op : BinOp) (k : IntKind) (m : Int) (k' : IntKind) (n : Int) : Option AVal := cond (intKindEq k k') (arithSel op k m n) none
def intSel (op : BinOp) : IntKind → Int → IntKind → Int → Option AVal := match op with
  | .shl => fun k m _ n => shiftA .shl k m n
  | .shr => fun k m _ n => shiftA .shr k m n
  | op => sameK op
def binI (P : Program) (op : BinOp) (t : TypeId) (x y : Operand) (k : IntKind) (m : Int) (b : AVal) : Option AVal := match b with
  | .int k' n => intSel op k m k' n
  | b => binRest op P t x y (.int k m) b
def binF (P : Program) (op : BinOp) (t : TypeId) (x y : Operand) (a b : AVal) : Option AVal := match a with
  | .int k m => binI P op t x y k m b
  | a => binRest op P t x y a b
def oBin (op : BinOp) (t : TypeId) (x y : Operand) : OpF := fun P T H => oN (evR T x) fun a => oN (evR T y) fun b => lN H (binF P op t x y a b)
def oUn (op : UnOp) (x : Operand) : OpF := fun _ T H => oN (evR T x) fun a => lN H (unaryA op a)
def oConvert (s d : TypeId) (x : Operand) : OpF := fun P T H => oN (evR T x) fun a => lN H (convertA P s d a)
def oIface (t : TypeId) (x : Operand) : OpF := fun P T H => oN (evR T x) fun a => lN H (makeIfaceA P t a)
def oField (t : TypeId) (x : Operand) (f : Nat) : OpF := fun P T H => oN (evR T x) fun a => lN H (fieldA P t a f)
/-- where a field lies: none: nowhere -/
def offF (P : Program) (s : TypeId) (f : Nat) : Option Nat := match P.underlying s with
  | some (.struct fields) => match fields[f]? with
    | some fd => match sz P fd.type with
      | some (_ + 1) => some fd.offset
      | _ => none
    | none => none
  | _ => none
def addO (H : AHeap) (k : Nat) (p : AVal) : Option (ANext × AHeap) := match p with
  | .ptr b o => fN (fun q => some (.val (.ptr b q), H)) (Nat.add o k)
  | _ => none
def oFieldAddr (s : TypeId) (x : Operand) (f : Nat) : OpF := fun P T H => oN (evR T x) fun a => oN (offF P s f) fun k => addO H k a
def oIndexAddr (t : TypeId) (x i : Operand) : OpF := fun P T H => oN (evR T x) fun a => oN (evR T i) fun b => lN H (indexAddrA P t a b)
def oIndex (t : TypeId) (x i : Operand) : OpF := fun P T H => oN (evR T x) fun a => oN (evR T i) fun b => lN H (indexA P t a b)
def oAssert (x : Operand) (a : TypeId) (ok : Bool) : OpF := fun P T H => oN (evR T x) fun v => lN H (typeAssertA P v a ok)
def oExtract (x : Operand) (i : Nat) : OpF := fun _ T H => oN (evR T x) fun v => lN H (extractA v i)
def oMakeSlice (t : TypeId) (l c : Operand) : OpF := fun P T H => oN (evR T l) fun a => oN (evR T c) fun b => vN (makeSliceA P t a b H)
def oLookup (t : TypeId) (x k : Operand) (ok : Bool) : OpF := fun P T H => oN (evR T x) fun a => oN (evR T k) fun b => vN (lookupA P t a b ok H)
def cBuiltin (b : Builtin) (ts : Array TypeId) (as : Array Operand) : OpF := fun P T H => oN (evsR T as.toList) fun args => vN (builtinA P b ts.toList args H)
def invK (P : Program) (name : String) (args : List AVal) (H : AHeap) (r : AVal) : Option (ANext × AHeap) := match r with
  | .ifc t v => bd (methodA P t v name) (fun p => goA P p.1 (p.2 :: args)) H
  | _ => none
def cInvoke (r : Operand) (name : String) (as : Array Operand) : OpF := fun P T H => oN (evsR T as.toList) fun args => oN (evR T r) (invK P name args H)
def valK (P : Program) (args : List AVal) (H : AHeap) (r : AVal) : Option (ANext × AHeap) := match r with
  | .fn (.func k) first cap => goA P k (first ++ args ++ cap) H
  | .fn (.method name) [.ifc t v] _ => bd (methodA P t v name) (fun p => goA P p.1 (p.2 :: args)) H
  | .yield l => bd (rd l) (fun blk => match blk with
      | .loop _ _ _ _ ps _ _ _ => cond (Nat.beq ps.length args.length) (ret (.round l args)) fail
      | _ => fail) H
  | _ => none
def cValue (f : Operand) (as : Array Operand) : OpF := fun P T H => oN (evsR T as.toList) fun args => oN (evR T f) (valK P args H)
def oCall (c : Call) : OpF := match c with
  | ⟨.builtin b, as, ts⟩ => cBuiltin b ts as
  | ⟨.invoke r name, as, _⟩ => cInvoke r name as
  | ⟨.value f, as, _⟩ => cValue f as
structure OB where
  f : OpF
def opB (o : Op) : OB := match o with
  | .move x => ⟨oMove x⟩
  | .assign x => ⟨oMove x⟩
  | .pick c a b => ⟨oPick c a b⟩
  | .alloc t => ⟨oAlloc t⟩
  | .box t x => ⟨oBox t x⟩
  | .build t ps => ⟨oBuild t ps⟩
  | .buildSlice t n ps => ⟨oBuildSlice t n ps⟩
  | .load t a => ⟨oLoad t a⟩
  | .store t a x => ⟨oStore t a x⟩
  | .nilCheck x => ⟨oNil x⟩
  | .binOp op t x y _ => ⟨oBin op t x y⟩
  | .unOp op _ x => ⟨oUn op x⟩
  | .convert s d x => ⟨oConvert s d x⟩
  | .makeInterface t x => ⟨oIface t x⟩
  | .makeSlice t l c => ⟨oMakeSlice t l c⟩
  | .fieldAddr s x f => ⟨oFieldAddr s x f⟩
  | .field t x f => ⟨oField t x f⟩
  | .indexAddr t x i => ⟨oIndexAddr t x i⟩
  | .index t x i => ⟨oIndex t x i⟩
  | .typeAssert x _ a ok => ⟨oAssert x a ok⟩
  | .extract x i => ⟨oExtract x i⟩
  | .lookup t x k ok => ⟨oLookup t x k ok⟩
  | .call c => ⟨oCall c⟩
  | o => ⟨fun P T => opA P T o⟩
def opSel (o : Op) : OpF := fun P T H => OB.rec (motive := fun _ => Option (ANext × AHeap)) (fun f => f P T H) (opB o)
theorem lN_eq (H : AHeap) (o : Option AVal) : lN H o = bd (lift o) (fun x => ret (ANext.val x)) H := by cases o <;> rfl
theorem e1_l (x : Operand) (f : AVal → Option AVal) (T : Tmps) (H : AHeap) : (oN (evR T x) fun a => lN H (f a)) = (match ev T x with | some a => bd (lift (f a)) (fun x => ret (ANext.val x)) | none => fail) H := by
  rw [evR_eq]
  cases ev T x with
  | none => rfl
  | some a => exact lN_eq H (f a)
theorem e2_l (x y : Operand) (f : AVal → AVal → Option AVal) (T : Tmps) (H : AHeap) : (oN (evR T x) fun a => oN (evR T y) fun b => lN H (f a b)) = (match ev T x, ev T y with | some a, some b => bd (lift (f a b)) (fun x => ret (ANext.val x)) | _, _ => fail) H := by
  rw [evR_eq, evR_eq]
  cases ev T x with
  | none => rfl
  | some a =>
    cases ev T y with
    | none => rfl
    | some b => exact lN_eq H (f a b)
theorem e2_v (x y : Operand) (f : AVal → AVal → M AVal) (T : Tmps) (H : AHeap) : (oN (evR T x) fun a => oN (evR T y) fun b => vN (f a b H)) = (match ev T x, ev T y with | some a, some b => bd (f a b) (fun x => ret (ANext.val x)) | _, _ => fail) H := by
  rw [evR_eq, evR_eq]
  cases ev T x with
  | none => rfl
  | some a =>
    cases ev T y with
    | none => rfl
    | some b => exact vN_eq (f a b) H
theorem arI_eq (k : IntKind) (n : Int) : arI k n = some (.int k (wrapK k n)) := by unfold arI; rw [fI_eq, fI_eq]
theorem arithSel_eq (op : BinOp) (k : IntKind) (x y : Int) : arithSel op k x y = arith op k x y := by
  cases op <;> first | rfl | (simp only [arithSel, arI_eq, arith, frc_eq]; rfl)
theorem binF_eq (P : Program) (op : BinOp) (t : TypeId) (x y : Operand) (a b : AVal) : binF P op t x y a b = binA P op t x y a b := by
  cases a
  case int k m =>
    cases b
    case int k' n => cases op <;> simp only [binF, binI, intSel, sameK, binA, arithSel_eq] <;> rfl
    all_goals (cases op <;> rfl)
  all_goals (cases op <;> rfl)
theorem allocS_eq (t : TypeId) (z : AVal) (H : AHeap) : allocS t z H = bd (bd (newCells t z.cells) fun id => ret (.ptr id 0)) (fun x => ret (ANext.val x)) H := by
  unfold allocS bd
  rw [newCellsR_eq]
  cases newCells t z.cells H <;> rfl
theorem opSel_eq (P : Program) (T : Tmps) (H : AHeap) (o : Op) : opSel o P T H = opA P T o H := by
  cases o
  case move x => simp only [opSel, opB, oMove, opA, evR_eq]; cases ev T x <;> rfl
  case assign x => simp only [opSel, opB, oMove, opA, evR_eq]; cases ev T x <;> rfl
  case pick c a b =>
    simp only [opSel, opB, oPick, opA, evR_eq]
    generalize ev T c = v
    cases v with
    | none => rfl
    | some v =>
      cases v with
      | bool t =>
        cases t
        · simp only [cond_false]; cases ev T b <;> rfl
        · simp only [cond_true]; cases ev T a <;> rfl
      | _ => rfl
  case alloc t =>
    simp only [opSel, opB, oAlloc, opA, allocA]
    cases zeroA P t with
    | none => rfl
    | some z => exact allocS_eq t z H
  case box t x =>
    simp only [opSel, opB, oBox, opA, evR_eq]
    cases ev T x with
    | none => rfl
    | some v => exact allocS_eq t v H
  case build t ps =>
    simp only [opSel, opB, oBuild, opA]
    cases evParts T ps.toList with
    | none => rfl
    | some l => exact lN_eq H _
  case buildSlice t n ps =>
    simp only [opSel, opB, oBuildSlice, opA]
    cases evParts T ps.toList with
    | none => rfl
    | some l => exact vN_eq _ H
  case load t a =>
    by_cases hgl : ∃ g, a = .global g
    · obtain ⟨g, rfl⟩ := hgl
      rfl
    have hA : opA P T (.load t a) = (match ev T a with
      | some p => bd (match p with | .ptr b o => loadA P t b o | _ => fail) fun x => ret (.val x)
      | none => fail) := by cases a <;> first | exact absurd ⟨_, rfl⟩ hgl | rfl
    have hB : opSel (.load t a) P T H = oN (evR T a) (loadV P t H) := by cases a <;> first | exact absurd ⟨_, rfl⟩ hgl | rfl
    rw [hA, hB]
    simp only [evR_eq]
    cases ev T a with
    | none => rfl
    | some p =>
      cases p with
      | ptr b o => show vN (loadR P t b o H) = _; rw [loadR_eq]; exact vN_eq _ H
      | _ => rfl
  case store t a x =>
    simp only [opSel, opB, oStore, opA, evR_eq]
    cases ev T a with
    | none => rfl
    | some p =>
      cases ev T x with
      | none => rfl
      | some v => show uN (storeR P t p v H) = _; rw [storeR_eq]; exact uN_eq _ H
  case nilCheck x => exact e1_l x nilCheckA T H
  case binOp op t x y t2 =>
    have := e2_l x y (binA P op t x y) T H
    simp only [opSel, opB, oBin, binF_eq]
    exact this
  case unOp op t x => exact e1_l x (unaryA op) T H
  case convert s d x => exact e1_l x (convertA P s d) T H
  case makeInterface t x => exact e1_l x (makeIfaceA P t) T H
  case fieldAddr s x f =>
    have := e1_l x (fun a => fieldAddrA P s a f) T H
    refine Eq.trans ?_ this
    simp only [opSel, opB, oFieldAddr, evR_eq]
    cases ev T x with
    | none => rfl
    | some a =>
      show oN (offF P s f) (fun k => addO H k a) = lN H (fieldAddrA P s a f)
      cases a with
      | ptr b o =>
        unfold offF fieldAddrA
        cases hu : P.underlying s with
        | none => rfl
        | some d =>
          cases d with
          | struct fields =>
            simp only
            cases fields[f]? with
            | none => rfl
            | some fd =>
              simp only
              cases sz P fd.type with
              | none => rfl
              | some n =>
                cases n with
                | zero => rfl
                | succ n => simp only [frcN_eq, oN, addO, fN_eq]; rfl
          | _ => rfl
      | _ =>
        have : ∀ v : AVal, (∀ b o, v ≠ .ptr b o) → fieldAddrA P s v f = none := by
          intro v hv
          unfold fieldAddrA
          split
          · exact absurd rfl (hv _ _)
          · rfl
        rw [this _ (by intro b o h; cases h)]
        cases offF P s f <;> rfl
  case field t x f => exact e1_l x (fun a => fieldA P t a f) T H
  case indexAddr t x i => exact e2_l x i (indexAddrA P t) T H
  case index t x i => exact e2_l x i (indexA P t) T H
  case typeAssert x t a ok => exact e1_l x (fun v => typeAssertA P v a ok) T H
  case extract x i => exact e1_l x (fun v => extractA v i) T H
  case makeSlice t l c => exact e2_v l c (makeSliceA P t) T H
  case lookup t x k ok => exact e2_v x k (fun a b => lookupA P t a b ok) T H
  case call c =>
    obtain ⟨callee, as, ts⟩ := c
    cases callee with
    | value f =>
      simp only [opSel, opB, oCall, cValue, opA, callA, evR_eq, evsR_eq]
      cases evs T as.toList with
      | none => rfl
      | some args =>
        show oN (ev T f) (valK P args H) = _
        simp only
        generalize ev T f = v
        cases v with
        | none => rfl
        | some v =>
          show valK P args H v = _
          cases v with
          | fn f first cap =>
            cases f with
            | func k => rfl
            | method n =>
              cases first with
              | nil => rfl
              | cons y ys =>
                cases ys with
                | nil => cases y <;> rfl
                | cons z zs => cases y <;> rfl
            | _ => rfl
          | _ => rfl
    | invoke r n =>
      simp only [opSel, opB, oCall, cInvoke, opA, callA, evR_eq, evsR_eq]
      cases evs T as.toList with
      | none => rfl
      | some args =>
        show oN (ev T r) (invK P n args H) = _
        simp only
        cases ev T r with
        | none => rfl
        | some v => cases v <;> rfl
    | builtin b =>
      simp only [opSel, opB, oCall, cBuiltin, opA, callA, evsR_eq]
      cases evs T as.toList with
      | none => rfl
      | some args => exact vN_eq _ H
  all_goals rfl

/-! ### code -/
section
variable (P : Program) (ih : Task → M Out)
def outV (o : Out) (H : AHeap) : Option (AVal × AHeap) := match o with
  | .val v => some (v, H)
  | _ => none
def nextR (x : ANext) (H : AHeap) : Option (AVal × AHeap) := ANext.rec (motive := fun _ => Option (AVal × AHeap)) (fun v => some (v, H)) (fun f args => bdR (ih (.call f args) H) outV) (fun l args => bdR (ih (.round l args) H) outV) x
theorem nextR_eq (x : ANext) (H : AHeap) : nextR ih x H = nextA ih x H := by
  have key : ∀ t, bdR (ih t H) outV = outVal (ih t) H := fun t => by
    refine bdR_eq' (ih t) _ H outV fun o K => ?_
    cases o <;> rfl
  cases x with
  | val v => rfl
  | enter f args => exact key _
  | round l args => exact key _
def valR (all : List Oper) (op : Op) (g : Option (Nat × Bool)) (T : Tmps) (H : AHeap) : Option (AVal × AHeap) := Option.rec (motive := fun _ => Option (AVal × AHeap)) (bdR (opSel op P T H) (nextR ih)) (fun g => match wantedA all T (some g) with
  | some true => bdR (opSel op P T H) (nextR ih)
  | some false => some (.undef, H)
  | none => none) g
def setR (nt : Nat) (T : Tmps) (dst : Option Tmp) (v : AVal) (H : AHeap) : Option (Tmps × AHeap) := Option.rec (motive := fun _ => Option (Tmps × AHeap)) (some (T, H)) (fun d => Bool.rec (motive := fun _ => Option (Tmps × AHeap)) none (some (T.putR d (some v), H)) (Nat.ble (Nat.succ d) nt)) dst
def oneR (nt : Nat) (all : List Oper) (o : Oper) (T : Tmps) (H : AHeap) : Option (Tmps × AHeap) := Oper.rec (motive := fun _ => Option (Tmps × AHeap)) (fun dst op _ _ _ g => bdR (valR P ih all op g T H) (setR nt T dst)) o
theorem oneR_eq (nt : Nat) (all : List Oper) (o : Oper) (T : Tmps) (H : AHeap) : oneR P ih nt all o T H = oneOp P ih nt all o T H := by
  obtain ⟨dst, op, ty, pos, af, g⟩ := o
  have hop : ∀ K, bdR (opSel op P T K) (nextR ih) = bd (opA P T op) (nextA ih) K := fun K => by
    rw [opSel_eq]
    exact bdR_eq' (opA P T op) (nextA ih) K (nextR ih) (nextR_eq ih)
  have hv : valR P ih all op g T H = valOp P ih all ⟨dst, op, ty, pos, af, g⟩ T H := by
    cases g with
    | none => exact hop H
    | some g =>
      show (match wantedA all T (some g) with
        | some true => bdR (opSel op P T H) (nextR ih)
        | some false => some (.undef, H)
        | none => none) = _
      unfold valOp
      simp only
      cases wantedA all T (some g) with
      | none => rfl
      | some b => cases b with
        | true => exact hop H
        | false => rfl
  show bdR (valR P ih all op g T H) (setR nt T dst) = _
  rw [hv]
  refine bdR_eq' _ (fun v => lift (setT nt T dst v)) H _ fun v K => ?_
  cases dst with
  | none => rfl
  | some d =>
    show Bool.rec (motive := fun _ => Option (Tmps × AHeap)) none (some (T.putR d (some v), K)) (Nat.ble (d + 1) nt) = _
    rw [Tr.putR_eq]
    show _ = lift (cond (Nat.ble (d + 1) nt) (some (T.put d (some v))) none) K
    cases Nat.ble (d + 1) nt <;> rfl
def opsR (nt : Nat) (all l : List Oper) : Tmps → AHeap → Option (Tmps × AHeap) := List.rec (motive := fun _ => Tmps → AHeap → Option (Tmps × AHeap)) (fun T H => some (T, H)) (fun o _ k T H => bdR (oneR P ih nt all o T H) k) l
theorem opsR_eq (nt : Nat) (all : List Oper) : ∀ (l : List Oper) (T : Tmps) (H : AHeap), opsR P ih nt all l T H = opsA P ih nt all l T H
  | [], _, _ => rfl
  | o :: os, T, H => by
    show bdR (oneR P ih nt all o T H) (opsR P ih nt all os) = _
    rw [oneR_eq]
    exact bdR_eq' _ _ H _ fun T K => opsR_eq nt all os T K
/-- what of the pairs is settled by the code alone -/
def pairOK (all : Array Oper) (o : Oper) (mk : Nat) : List Oper → Nat → Bool
  | [], _ => true
  | p :: ps, j => (Nat.testBit mk j || Oper.apart all p o) && pairOK all o mk ps (j + 1)
def staticOK (all : Array Oper) : List Oper → List Nat → List Oper → Bool
  | o :: os, mk :: mks, done => pairOK all o mk done 0 && staticOK all os mks (done ++ [o])
  | [], _, _ => true
  | _, _, _ => true
def freeOK (mk : Nat) (es : List (Nat × Bool)) (l : List (Nat × List (Nat × Bool))) : Bool := List.rec (motive := fun _ => Bool) true (fun p _ ih => Bool.rec (motive := fun _ => Bool) (Bool.rec (motive := fun _ => Bool) ih false (clash p.2 es)) ih (Nat.testBit mk p.1)) l
def idxE : List (Oper × List (Nat × Bool)) → Nat → List (Nat × List (Nat × Bool))
  | [], _ => []
  | p :: r, i => match p.2 with
    | [] => idxE r (i + 1)
    | e :: es => (i, e :: es) :: idxE r (i + 1)
theorem clash_nil : ∀ es : List (Nat × Bool), clash es [] = false
  | [] => rfl
  | e :: es => by unfold clash; rw [clash_nil es]; rfl
theorem against_free {all : Array Oper} {o : Oper} {mk : Nat} (es : List (Nat × Bool)) : ∀ (done : List (Oper × List (Nat × Bool))) (i : Nat), pairOK all o mk (done.map (·.1)) i = true → against all o mk es done i = freeOK mk es (idxE done i)
  | [], _, _ => rfl
  | (p, e) :: r, i, h => by
    simp only [List.map_cons] at h
    unfold pairOK at h
    simp only [Bool.and_eq_true, Bool.or_eq_true] at h
    have ih := against_free es r (i + 1) h.2
    unfold against idxE
    rw [ih]
    cases e with
    | nil =>
      simp only [clash, Bool.not_false, Bool.and_true]
      rcases h.1 with h1 | h1 <;> simp [h1]
    | cons e0 e =>
      show _ = Bool.rec (motive := fun _ => Bool) (Bool.rec (motive := fun _ => Bool) (freeOK mk es (idxE r (i + 1))) false (clash (e0 :: e) es)) (freeOK mk es (idxE r (i + 1))) (Nat.testBit mk i)
      cases ht : Nat.testBit mk i with
      | true => simp
      | false =>
        have h1 : Oper.apart all p o = true := by rcases h.1 with h1 | h1; rw [h1] at ht; cases ht; exact h1
        simp only [h1, Bool.false_or, Bool.true_and]
        cases clash (e0 :: e) es <;> simp
theorem against_nil {all : Array Oper} {o : Oper} {mk : Nat} : ∀ (done : List (Oper × List (Nat × Bool))) (i : Nat), pairOK all o mk (done.map (·.1)) i = true → against all o mk [] done i = true
  | [], _, _ => rfl
  | (p, e) :: r, i, h => by
    simp only [List.map_cons] at h
    unfold pairOK at h
    simp only [Bool.and_eq_true, Bool.or_eq_true] at h
    unfold against
    rw [against_nil r (i + 1) h.2, clash_nil]
    rcases h.1 with h1 | h1 <;> simp [h1]
theorem idxE_snoc (o : Oper) (e : List (Nat × Bool)) : ∀ (d : List (Oper × List (Nat × Bool))) (i : Nat), idxE (d ++ [(o, e)]) i = idxE d i ++ (match e with | [] => [] | a :: es => [(i + d.length, a :: es)])
  | [], i => by cases e <;> simp [idxE]
  | (p, e') :: d, i => by
    have := idxE_snoc o e d (i + 1)
    simp only [List.cons_append]
    unfold idxE
    rw [this]
    have hl : i + 1 + d.length = i + (d.length + 1) := by omega
    cases e' <;> cases e <;> simp [hl]
def eventK (os : List Nat → Nat → List (Nat × List (Nat × Bool)) → Tmps → AHeap → Option (Tmps × AHeap)) (mk : Nat) (mks : List Nat) (n : Nat) (done : List (Nat × List (Nat × Bool))) (T : Tmps) (H : AHeap) (es : List (Nat × Bool)) : Option (Tmps × AHeap) :=
  List.rec (motive := fun _ => Option (Tmps × AHeap)) (os mks (Nat.succ n) done T H) (fun _ _ _ => Bool.rec (motive := fun _ => Option (Tmps × AHeap)) none (os mks (Nat.succ n) (done ++ [(n, es)]) T H) (freeOK mk es done)) es
def stepDF (nt : Nat) (allL : List Oper) (o : Oper) (os : List Nat → Nat → List (Nat × List (Nat × Bool)) → Tmps → AHeap → Option (Tmps × AHeap)) (mks : List Nat) (n : Nat) (done : List (Nat × List (Nat × Bool))) (T : Tmps) (H : AHeap) : Option (Tmps × AHeap) :=
  List.rec (motive := fun _ => Option (Tmps × AHeap)) none (fun mk mks _ => AHeap.rec (motive := fun _ => Option (Tmps × AHeap)) (fun blks next lo log => bdR (oneR P ih nt allL o T ⟨blks, next, lo, []⟩) fun T K => AHeap.rec (motive := fun _ => Option (Tmps × AHeap)) (fun blks next lo l => eventK os mk mks n done T ⟨blks, next, lo, l ++ log⟩ l) K) H) mks
def opsDF (nt : Nat) (allL : List Oper) (l : List Oper) : List Nat → Nat → List (Nat × List (Nat × Bool)) → Tmps → AHeap → Option (Tmps × AHeap) :=
  List.rec (motive := fun _ => List Nat → Nat → List (Nat × List (Nat × Bool)) → Tmps → AHeap → Option (Tmps × AHeap)) (fun _ _ _ T H => some (T, H)) (fun o _ os => stepDF P ih nt allL o os) l
theorem opsDF_cons (nt : Nat) (allL : List Oper) (o : Oper) (os : List Oper) (mk : Nat) (mks : List Nat) (n : Nat) (d : List (Nat × List (Nat × Bool))) (T : Tmps) (b : Tr ABlk) (nx lo : Nat) (log : List (Nat × Bool)) :
    opsDF P ih nt allL (o :: os) (mk :: mks) n d T ⟨b, nx, lo, log⟩ = bdR (oneR P ih nt allL o T ⟨b, nx, lo, []⟩) (fun T K => AHeap.rec (motive := fun _ => Option (Tmps × AHeap)) (fun blks next lo l => eventK (opsDF P ih nt allL os) mk mks n d T ⟨blks, next, lo, l ++ log⟩ l) K) := rfl
theorem opsDF_eq (nt : Nat) (all : Array Oper) : ∀ (l : List Oper) (mks : List Nat) (done : List (Oper × List (Nat × Bool))) (T : Tmps) (H : AHeap), staticOK all l mks (done.map (·.1)) = true →
    opsDF P ih nt all.toList l mks done.length (idxE done 0) T H = opsD P ih nt all l mks done T H
  | [], _, _, _, _, _ => rfl
  | _ :: _, [], _, _, _, _ => rfl
  | o :: os, mk :: mks, done, T, H, hs => by
    unfold staticOK at hs
    simp only [Bool.and_eq_true] at hs
    obtain ⟨hp, hs⟩ := hs
    obtain ⟨blks, next, lo, log⟩ := H
    have e0 : opsD P ih nt all (o :: os) (mk :: mks) done T = bd (capture (oneOp P ih nt all.toList o T)) (fun r => cond (against all o mk r.2 done 0) (opsD P ih nt all os mks (done ++ [(o, r.2)]) r.1) fail) := by rw [opsD]
    rw [e0]
    rw [opsDF_cons, oneR_eq]
    unfold bd capture
    cases h1 : oneOp P ih nt all.toList o T ⟨blks, next, lo, []⟩ with
    | none => simp only [h1]; rfl
    | some p =>
      obtain ⟨T1, b1, n1, l1, g1⟩ := p
      simp only [h1]
      show eventK (opsDF P ih nt all.toList os) mk mks done.length (idxE done 0) T1 ⟨b1, n1, l1, g1 ++ log⟩ g1 = _
      have hs' : staticOK all os mks ((done ++ [(o, g1)]).map (·.1)) = true := by simpa using hs
      have ih2 := opsDF_eq nt all os mks (done ++ [(o, g1)]) T1 ⟨b1, n1, l1, g1 ++ log⟩ hs'
      rw [idxE_snoc] at ih2
      cases g1 with
      | nil =>
        rw [against_nil done 0 hp]
        simp only [List.append_nil, List.length_append, List.length_cons, List.length_nil] at ih2
        exact ih2
      | cons e es =>
        rw [against_free (e :: es) done 0 hp]
        simp only [Nat.zero_add, List.length_append, List.length_cons, List.length_nil] at ih2
        show Bool.rec (motive := fun _ => Option (Tmps × AHeap)) none (opsDF P ih nt all.toList os mks (Nat.succ done.length) (idxE done 0 ++ [(done.length, e :: es)]) T1 ⟨b1, n1, l1, (e :: es) ++ log⟩) (freeOK mk (e :: es) (idxE done 0)) = _
        cases freeOK mk (e :: es) (idxE done 0) with
        | false => rfl
        | true => exact ih2
def opsDR (nt : Nat) (ops : Array Oper) (T : Tmps) (H : AHeap) : Option (Tmps × AHeap) := cond (staticOK ops ops.toList (masks ops.toList []) []) (opsDF P ih nt ops.toList ops.toList (masks ops.toList []) 0 [] T H) (opsD P ih nt ops ops.toList (masks ops.toList []) [] T H)
theorem opsDR_eq (nt : Nat) (ops : Array Oper) (T : Tmps) (H : AHeap) : opsDR P ih nt ops T H = opsD P ih nt ops ops.toList (masks ops.toList []) [] T H := by
  unfold opsDR
  cases hs : staticOK ops ops.toList (masks ops.toList []) [] with
  | false => rfl
  | true => exact opsDF_eq P ih nt ops ops.toList (masks ops.toList []) [] T H hs
end
abbrev CodeF := Program → (Task → M Out) → Nat → Option Nat → Tmps → List Mk → AHeap → Option (Out × AHeap)
def nrmO (ms : List Mk) (r : Option (Tmps × AHeap)) : Option (Out × AHeap) := bdR r fun T H => some (.exit .nrm T ms, H)
def cSkip : CodeF := fun _ _ _ _ T ms H => some (.exit .nrm T ms, H)
def defS (P : Program) (ms : List Mk) (c : Call) (T : Tmps) (H : AHeap) : Option (Out × AHeap) := match deferA P T c with
  | some m => some (.exit .nrm T (m :: ms), H)
  | none => none
def cRegion (ops : Array Oper) (draw : Bool) : CodeF := match draw with
  | false => match deferOf ops.toList with
    | none => fun P ih nt _ T ms H => nrmO ms (opsR P ih nt ops.toList ops.toList T H)
    | some p => fun P ih nt rnd T ms H => match rnd with
      | none => bdR (opsR P ih nt ops.toList p.1 T H) (defS P ms p.2)
      | some _ => none
  | true => fun P ih nt _ T ms H => nrmO ms (cond (regionOk ops.toList) (opsDR P ih nt ops T H) none)
def seqK (ih : Task → M Out) (nt : Nat) (rnd : Option Nat) (b : Code) (o : Out) (H : AHeap) : Option (Out × AHeap) := match o with
  | .exit .nrm T ms => ih (.code nt rnd b T ms) H
  | o => some (o, H)
def cSeq (a b : Code) : CodeF := fun _ ih nt rnd T ms H => bdR (ih (.code nt rnd a T ms) H) (seqK ih nt rnd b)
def cCond (c : Operand) (a b : Code) : CodeF := fun _ ih nt rnd T ms H => match evR T c with
  | some (.bool t) => ih (.code nt rnd (cond t a b) T ms) H
  | _ => none
def blockK (id : Nat) (o : Out) (H : AHeap) : Option (Out × AHeap) := match o with
  | .exit (.exit id') T ms => cond (Nat.beq id' id) (some (.exit .nrm T ms, H)) (some (.exit (.exit id') T ms, H))
  | o => some (o, H)
def cBlock (id : Nat) (b : Code) : CodeF := fun _ ih nt rnd T ms H => bdR (ih (.code nt rnd b T ms) H) (blockK id)
def cLoop (b : Code) : CodeF := fun _ ih nt rnd T ms H => match mapStep b with
    | some s => mapLoop ih nt rnd s T ms H
    | none => bdR (ih (.code nt rnd b T ms) H) (seqK ih nt rnd (.loop b))
def cExit (id : Nat) : CodeF := fun _ _ _ _ T ms H => some (.exit (.exit id) T ms, H)
def cRet : CodeF := fun _ _ _ _ T ms H => some (.exit .ret T ms, H)
structure CB where
  f : CodeF
def codeB (c : Code) : CB := match c with
  | .skip => ⟨cSkip⟩
  | .region _ ops draw => ⟨cRegion ops draw⟩
  | .seq a b => ⟨cSeq a b⟩
  | .cond c a b => ⟨cCond c a b⟩
  | .block id b => ⟨cBlock id b⟩
  | .loop b => ⟨cLoop b⟩
  | .exit id => ⟨cExit id⟩
  | .ret => ⟨cRet⟩
  | c => ⟨fun P ih nt rnd T ms => runCode P ih nt rnd c T ms⟩
def codeSel (c : Code) : CodeF := fun P ih nt rnd T ms H => CB.rec (motive := fun _ => Option (Out × AHeap)) (fun f => f P ih nt rnd T ms H) (codeB c)
theorem seqK_eq (ih : Task → M Out) (nt : Nat) (rnd : Option Nat) (b : Code) (o : Out) (H : AHeap) : seqK ih nt rnd b o H = (match (generalizing := false) o with
    | .exit .nrm T ms => ih (.code nt rnd b T ms)
    | o => ret o) H := by
  cases o with
  | val v => rfl
  | exit e T ms => cases e <;> rfl
theorem codeSel_eq (P : Program) (ih : Task → M Out) (nt : Nat) (rnd : Option Nat) (c : Code) (T : Tmps) (ms : List Mk) (H : AHeap) : codeSel c P ih nt rnd T ms H = runCode P ih nt rnd c T ms H := by
  cases c
  case region id ops draw =>
    cases draw with
    | false =>
      have e1 : runCode P ih nt rnd (.region id ops false) T ms = (match deferOf ops.toList with
        | some p => match (generalizing := false) rnd with
          | none => bd (opsA P ih nt ops.toList p.1 T) fun T => match deferA P T p.2 with
            | some m => ret (.exit .nrm T (m :: ms))
            | none => fail
          | some _ => fail
        | none => bd (opsA P ih nt ops.toList ops.toList T) fun T => ret (.exit .nrm T ms)) := rfl
      have e2 : codeSel (.region id ops false) P ih nt rnd T ms H = (match deferOf ops.toList with
        | none => fun P ih nt _ T ms H => nrmO ms (opsR P ih nt ops.toList ops.toList T H)
        | some p => fun P ih nt rnd T ms H => match rnd with
          | none => bdR (opsR P ih nt ops.toList p.1 T H) (defS P ms p.2)
          | some _ => none : CodeF) P ih nt rnd T ms H := rfl
      rw [e1, e2]
      cases deferOf ops.toList with
      | some p =>
        cases rnd with
        | some _ => rfl
        | none =>
          show bdR (opsR P ih nt ops.toList p.1 T H) (defS P ms p.2) = _
          rw [opsR_eq]
          refine bdR_eq' (opsA P ih nt ops.toList p.1 T) _ H _ fun T K => ?_
          unfold defS
          cases deferA P T p.2 <;> rfl
      | none =>
      show nrmO ms (opsR P ih nt ops.toList ops.toList T H) = bd (opsA P ih nt ops.toList ops.toList T) (fun T => ret (.exit .nrm T ms)) H
      rw [opsR_eq]
      exact bdR_eq (opsA P ih nt ops.toList ops.toList T) (fun T => ret (Out.exit .nrm T ms)) H
    | true =>
      show nrmO ms (cond (regionOk ops.toList) (opsDR P ih nt ops T H) none) = bd (cond (regionOk ops.toList) (opsD P ih nt ops ops.toList (masks ops.toList []) [] T) fail) (fun T => ret (.exit .nrm T ms)) H
      rw [opsDR_eq, ← bdR_eq]
      unfold nrmO
      cases regionOk ops.toList <;> rfl
  case seq a b => exact bdR_eq' (ih (.code nt rnd a T ms)) _ H _ fun o K => seqK_eq ih nt rnd b o K
  case cond c a b =>
    show (match evR T c with
      | some (.bool t) => ih (.code nt rnd (cond t a b) T ms) H
      | _ => none) = _
    rw [evR_eq]
    unfold runCode
    simp only
    generalize ev T c = v
    cases v with
    | none => rfl
    | some v => cases v <;> rfl
  case block id b =>
    refine bdR_eq' (ih (.code nt rnd b T ms)) _ H _ fun o K => ?_
    cases o with
    | val v => rfl
    | exit e T ms =>
      cases e with
      | exit id' => show cond (Nat.beq id' id) _ _ = _; cases h : Nat.beq id' id <;> simp only [h] <;> rfl
      | _ => rfl
  case loop b =>
    show (match mapStep b with
      | some s => mapLoop ih nt rnd s T ms H
      | none => bdR (ih (.code nt rnd b T ms) H) (seqK ih nt rnd (.loop b))) = _
    unfold runCode
    simp only
    cases mapStep b with
    | some s => rfl
    | none => exact bdR_eq' (ih (.code nt rnd b T ms)) _ H _ fun o K => seqK_eq ih nt rnd (.loop b) o K
  all_goals rfl
def endCall (P : Program) (ih : Task → M Out) (rs : List ResultVar) (o : Out) (H : AHeap) : Option (Out × AHeap) := match o with
  | .exit (.exit _) _ _ => none
  | .exit _ T ms => bd (takeMarks P ih ms) (fun _ => bd (resultsA P T rs) fun vs => ret (.val (oneV vs))) H
  | _ => none
def callS (P : Program) (ih : Task → M Out) (args : List AVal) (fn : Func) (c : Code) (H : AHeap) : Option (Out × AHeap) := cond (Nat.ble (lenR args) fn.ntmps) (bdR (ih (.code fn.ntmps none c (Tr.listR .nil 0 args) []) H) (endCall P ih fn.results.toList)) none
def callR (P : Program) (ih : Task → M Out) (f : FuncId) (args : List AVal) (H : AHeap) : Option (Out × AHeap) := match P.funcs[f]? with
  | some fn => match fn.body with
    | some c => callS P ih args fn c H
    | none => none
  | none => none
theorem callR_eq (P : Program) (ih : Task → M Out) (f : FuncId) (args : List AVal) (H : AHeap) : callR P ih f args H = runCall P ih f args H := by
  unfold callR runCall
  cases P.funcs[f]? with
  | none => rfl
  | some fn =>
    simp only
    cases fn.body with
    | none => rfl
    | some c =>
      simp only [callS, lenR_eq, Tr.listR_eq]
      cases Nat.ble args.length fn.ntmps with
      | false => rfl
      | true =>
        simp only [cond_true]
        refine bdR_eq' (ih (.code fn.ntmps none c (Tr.ofListAt .nil 0 args) [])) _ H _ fun o K => ?_
        cases o with
        | val v => rfl
        | exit e T ms => cases e <;> rfl
def stepR (P : Program) (X : Told) (ih : Task → M Out) (t : Task) : M Out := match t with
  | .code nt rnd c T ms => codeSel c P ih nt rnd T ms
  | .call f args => match X f with
    | some g => bd (g args) fun v => ret (.val v)
    | none => callR P ih f args
  | .round l args => runRound ih l args
def runR (P : Program) (X : Told) (n : Nat) : Task → M Out := Nat.rec (motive := fun _ => Task → M Out) (fun _ _ => none) (fun _ ih => stepR P X ih) n
theorem runR_eq (P : Program) (X : Told) : ∀ (n : Nat) (t : Task), runR P X n t = run P X n t
  | 0, _ => rfl
  | n + 1, t => by
    have : runR P X n = run P X n := funext fun t => runR_eq P X n t
    show stepR P X (runR P X n) t = runStep P X (run P X n) t
    rw [this]
    cases t with
    | code nt rnd c T ms => exact funext fun H => codeSel_eq P _ nt rnd c T ms H
    | call f args =>
      show (match X f with
        | some g => bd (g args) fun v => ret (Out.val v)
        | none => callR P (run P X n) f args) = (match X f with
        | some g => bd (g args) fun v => ret (Out.val v)
        | none => runCall P (run P X n) f args)
      rw [show callR P (run P X n) f args = runCall P (run P X n) f args from funext fun H => callR_eq _ _ _ _ _]
    | round => rfl
end
end Go.AM
namespace Go.AM
open Go Go.RowKit Go.ChangeShapes Go.WideShapes Go.ChangeAt
/-! ### laws that are calculated, with functions taken as told -/
theorem calls_trueX {P : Program} (hm : P.follows .mixedOrders = true) (hname : noNumB P = true) {X : Told} (hX : ExtOK P X) (n : Nat) {f : FuncId} (args : List AVal) (h : isTrue (runR P X n (.call f args) empty) = true) (σ : Nat → Value) (hσ : One σ) (args' : Array Value) (hr : RelL σ (fun _ => none) args args'.toList) (w : World) :
    Calls P f args' w fun e w' => e = .returned (.bool true) ∧ Below w.heap.size w w' := by
  rw [runR_eq] at h
  obtain ⟨H', h⟩ := isTrue_spec h
  refine (calls_of_run hm (noNum_of hname) hX h σ hσ (fun _ => none) w wr_empty (fun _ _ _ => rfl) args' hr).mono ?_
  rintro e w' ⟨v', ρ', rfl, hv, _, hb⟩
  unfold Rel at hv
  rw [hv]
  exact ⟨rfl, hb⟩
theorem closedX_okX {P : Program} (hm : P.follows .mixedOrders = true) (hname : noNumB P = true) {X : Told} (hX : ExtOK P X) (l : List FuncId) (h : ∀ f ∈ l, ∃ n, isTrue (runR P X n (.call f []) empty) = true) : ExtOK P (closedX l) := by
  refine ⟨closedX_fr l, fun f g hg args H v H' hr σ ρ base w args' hσ hwr hf hra => ?_⟩
  unfold closedX at hg
  cases hmem : memN f l with
  | false => rw [hmem] at hg; cases hg
  | true =>
    rw [hmem] at hg
    cases hg
    cases args with
    | cons _ _ => exact (fail_some (H := H) hr).elim
    | nil =>
      cases ret_some (H := H) hr
      obtain ⟨n, hn⟩ := h f (memN_iff.1 hmem)
      have ha : args' = #[] := by
        unfold RelL at hra
        cases args'; simp_all
      subst ha
      refine callsIn_wide.2 ((calls_trueX hm hname hX n [] hn (fun _ => .bool true) (fun _ => rfl) #[] .nil w).mono ?_)
      rintro e w' ⟨rfl, hb⟩
      exact ⟨_, ρ, rfl, ⟨.refl _ _ _, wr_below hwr hb, hb.mono hwr.base⟩, by unfold Rel; rfl⟩
def orX (X Y : Told) : Told := fun f => match X f with
  | some g => some g
  | none => Y f
theorem orX_ok {P : Program} {X Y : Told} (hX : ExtOK P X) (hY : ExtOK P Y) : ExtOK P (orX X Y) := by
  refine ⟨fun f g args h => ?_, fun f g h => ?_⟩
  · unfold orX at h
    cases hx : X f with
    | some g' => rw [hx] at h; cases h; exact hX.1 f _ args hx
    | none => rw [hx] at h; exact hY.1 f g args h
  · unfold orX at h
    cases hx : X f with
    | some g' => rw [hx] at h; cases h; exact hX.2 f _ hx
    | none => rw [hx] at h; exact hY.2 f g h
end Go.AM
namespace Go.AM
open Go
/-! ### a long calculation in several theorems: between two of them stands a printed part of the memory -/
variable {P : Program} {X : Told}
structure Cov (K H : AHeap) : Prop where
  next : H.next = K.next
  lo : H.lo ≤ K.lo
  sub : ∀ i b, K.blks.get i = some b → H.blks.get i = some b
  top : ∀ i, H.next ≤ i → H.blks.get i = none
theorem Fr.cov {α : Type} {m : M α} (hf : Fr m) {K K1 H : AHeap} {a : α} (h : m K = some (a, K1)) (c : Cov K H) : ∃ H1, m H = some (a, H1) ∧ Cov K1 H1 := by
  obtain ⟨es, d, q⟩ := hf K a K1 h
  obtain ⟨H1, e, d2, n, ag⟩ := q H c.next c.lo (fun id b hm => by
    cases hk : K.blks.get id with
    | some x => exact c.sub id x hk
    | none =>
      rcases d.touch id b hm with h1 | ⟨h1, _⟩
      · exact absurd hk h1
      · exact c.top id (by rw [c.next]; exact h1))
  refine ⟨H1, e, n, by rw [d2.lo, d.lo]; exact c.lo, fun i b hi => ?_, fun i hi => ?_⟩
  · by_cases hm : (i, true) ∈ es
    · rw [ag i true hm]; exact hi
    · rw [d2.same i hm]
      rw [d.same i hm] at hi
      exact c.sub i b hi
  · cases hk : H1.blks.get i with
    | none => rfl
    | some x =>
      have n1 := d2.next
      rcases d2.gone i (by rw [hk]; simp) with h1 | ⟨_, h2⟩
      · exact absurd (c.top i (by omega)) h1
      · omega
def eqT : Tmps → Tmps → Bool
  | .nil, .nil => true
  | .node v l r, .node v' l' r' => (match v, v' with | none, none => true | some a, some b => eqA a b | _, _ => false) && (eqT l l' && eqT r r')
  | _, _ => false
theorem eqT_eq : ∀ {a b : Tmps}, eqT a b = true → a = b
  | .nil, .nil, _ => rfl
  | .nil, .node _ _ _, h => by cases h
  | .node _ _ _, .nil, h => by cases h
  | .node v l r, .node v' l' r', h => by
    unfold eqT at h
    obtain ⟨h1, h2⟩ := Bool.and_eq_true_iff.1 h
    obtain ⟨h2, h3⟩ := Bool.and_eq_true_iff.1 h2
    rw [eqT_eq h2, eqT_eq h3]
    cases v <;> cases v' <;> first | rfl | (cases h1; done) | (simp only at h1; rw [eqA_eq h1])
def eqB : ABlk → ABlk → Bool
  | .cells e c n, .cells e' c' n' => Nat.beq e e' && (eqT c c' && Nat.beq n n')
  | .map es k, .map es' k' => eqEs es es' && Nat.beq k k'
  | .one v, .one v' => eqA v v'
  | .deferred a, .deferred b => a == b
  | _, _ => false
theorem eqB_eq {a b : ABlk} (h : eqB a b = true) : a = b := by
  unfold eqB at h
  split at h
  · simp only [Bool.and_eq_true] at h
    rw [Nat.eq_of_beq_eq_true h.1, eqT_eq h.2.1, Nat.eq_of_beq_eq_true h.2.2]
  · simp only [Bool.and_eq_true] at h
    rw [eqEs_eq h.1, Nat.eq_of_beq_eq_true h.2]
  · rw [eqA_eq h]
  · rw [eq_of_beq h]
  · cases h
noncomputable def mkB (l : List (Nat × ABlk)) : Tr ABlk := List.rec (motive := fun _ => Tr ABlk) .nil (fun p _ ih => ih.putR p.1 (some p.2)) l
noncomputable def mkK (l : List (Nat × ABlk)) (n : Nat) : AHeap := { blks := mkB l, next := n, lo := 0, log := [] }
theorem mkB_get : ∀ {l : List (Nat × ABlk)} {i : Nat} {b : ABlk}, (mkB l).get i = some b → (i, b) ∈ l
  | [], i, b, h => by
    have : (Tr.nil : Tr ABlk).get i = some b := h
    rw [Tr.get_nil] at this; cases this
  | (j, c) :: l, i, b, h => by
    have : ((mkB l).putR j (some c)).get i = some b := h
    rw [Tr.putR_eq, Tr.get_put] at this
    split at this
    · rename_i e; cases this; subst e; exact List.mem_cons_self ..
    · exact List.mem_cons_of_mem _ (mkB_get this)
noncomputable def subB (l : List (Nat × ABlk)) (t : Tr ABlk) : Bool := List.rec (motive := fun _ => Bool) true (fun p _ ih => match t.getR p.1 with
  | some b => eqB b p.2 && ih
  | none => false) l
theorem subB_mem {t : Tr ABlk} : ∀ {l : List (Nat × ABlk)}, subB l t = true → ∀ p ∈ l, t.get p.1 = some p.2
  | [], _, _, h => by cases h
  | q :: l, h, p, hp => by
    have h : (match t.getR q.1 with | some b => eqB b q.2 && subB l t | none => false) = true := h
    rw [Tr.getR_eq] at h
    cases e : t.get q.1 with
    | none => simp only [e] at h; cases h
    | some b =>
      simp only [e] at h
      obtain ⟨h1, h2⟩ := Bool.and_eq_true_iff.1 h
      rcases List.mem_cons.1 hp with rfl | hp
      · rw [e, eqB_eq h1]
      · exact subB_mem h2 p hp
/-- the first statements of a list of statements, and the rest -/
def splitS : Nat → Code → List Code × Code
  | k + 1, .seq a b => (a :: (splitS k b).1, (splitS k b).2)
  | _, c => ([], c)
noncomputable def runL (P : Program) (X : Told) (n nt : Nat) : List Code → Tmps → M Tmps
  | [], T => ret T
  | c :: cs, T => bd (runR P X n (.code nt none c T [])) fun o => match o with
    | .exit .nrm T [] => runL P X n nt cs T
    | _ => fail
def epi (P : Program) (X : Told) (n : Nat) (fn : Func) (o : Out) : M Out := match o with
  | .exit e T ms => match e with
    | .exit _ => fail
    | _ => bd (takeMarks P (run P X n) ms) fun _ => bd (resultsA P T fn.results.toList) fun vs => ret (.val (oneV vs))
  | _ => fail
def endF (P : Program) (X : Told) (fn : Func) (n : Nat) (c : Code) (T : Tmps) : M Out := bd (run P X n (.code fn.ntmps none c T [])) (epi P X n fn)
theorem fr_runL (hX : FrX X) (n nt : Nat) : ∀ (cs : List Code) (T : Tmps), Fr (runL P X n nt cs T)
  | [], _ => fr_ret _
  | c :: cs, T => fr_bd (by rw [runR_eq]; exact fr_run P hX n _) fun o => by
    split
    · exact fr_runL hX n nt cs _
    · exact fr_fail
theorem fr_epi (hX : FrX X) (n : Nat) (fn : Func) (o : Out) : Fr (epi P X n fn o) := by
  unfold epi
  split
  · split
    · exact fr_fail
    · exact fr_bd (fr_takeMarks P (fr_run P hX n) _) fun _ => fr_bd (fr_resultsA P _ _) fun _ => fr_ret _
  · exact fr_fail
theorem fr_endF (hX : FrX X) (fn : Func) (n : Nat) (c : Code) (T : Tmps) : Fr (endF P X fn n c T) := fr_bd (fr_run P hX n _) fun _ => fr_epi hX n fn _
theorem mono_endF (fn : Func) (c : Code) (T : Tmps) : Mono fun n => endF P X fn n c T := mono_of fun n => LeM.bd (le_run n _) fun o => by
  unfold epi
  split
  · split
    · exact LeM.refl _
    · exact LeM.bd (le_takeMarks (le_run n) _) fun _ => LeM.refl _
  · exact LeM.refl _
def Good (P : Program) (X : Told) (fn : Func) (c : Code) (T : Tmps) (K : AHeap) : Prop := ∀ H, Cov K H → ∃ n H1, endF P X fn n c T H = some (.val (.bool true), H1)
theorem runL_seq {fn : Func} {n : Nat} {r : Out × AHeap} {T1 : Tmps} {H1 : AHeap} : ∀ (k : Nat) (c : Code) (T : Tmps) (H : AHeap), runL P X n fn.ntmps (splitS k c).1 T H = some (T1, H1) → (∃ n2, endF P X fn n2 (splitS k c).2 T1 H1 = some r) → ∃ n3, endF P X fn n3 c T H = some r := by
  intro k
  induction k with
  | zero =>
    intro c T H h he
    have e : splitS 0 c = ([], c) := by unfold splitS; rfl
    rw [e] at h he
    cases h
    exact he
  | succ k ih =>
    intro c T H h he
    by_cases hs : ∃ a b, c = .seq a b
    · obtain ⟨a, b, rfl⟩ := hs
      have e : splitS (k + 1) (.seq a b) = (a :: (splitS k b).1, (splitS k b).2) := by rw [splitS]
      rw [e] at h he
      obtain ⟨o, Ha, h1, h2⟩ := bd_some (H := H) h
      rw [runR_eq] at h1
      split at h2
      · rename_i Ta
        obtain ⟨n3, h3⟩ := ih b Ta Ha h2 he
        have m1 := mono_run (P := P) (X := X) (.code fn.ntmps none a T []) n (max n n3) H _ (Nat.le_max_left _ _) h1
        have m2 := mono_endF (P := P) (X := X) fn b Ta n3 (max n n3) Ha _ (Nat.le_max_right _ _) h3
        have m3 := mono_endF (P := P) (X := X) fn b Ta n3 (max n n3 + 1) Ha _ (by omega) h3
        refine ⟨max n n3 + 1, ?_⟩
        obtain ⟨o2, Hb, m4, m5⟩ := bd_some (H := Ha) m2
        have m6 : run P X (max n n3 + 1) (.code fn.ntmps none (.seq a b) T []) H = some (o2, Hb) := by
          show bd (run P X (max n n3) (.code fn.ntmps none a T [])) (fun o => match o with
            | .exit .nrm T ms => run P X (max n n3) (.code fn.ntmps none b T ms)
            | o => ret o) H = _
          unfold bd
          simp only at m1
          rw [m1]
          exact m4
        have m7 : epi P X (max n n3 + 1) fn o2 Hb = some r := by
          obtain ⟨o3, Hc, m8, m9⟩ := bd_some (H := Ha) m3
          have := mono_run (P := P) (X := X) (.code fn.ntmps none b Ta []) (max n n3) (max n n3 + 1) Ha _ (by omega) m4
          simp only at this
          rw [m8] at this
          cases this
          exact m9
        show bd (run P X (max n n3 + 1) (.code fn.ntmps none (.seq a b) T [])) (epi P X (max n n3 + 1) fn) H = some r
        unfold bd
        rw [m6]
        exact m7
      · exact (fail_some h2).elim
    · have e : splitS (k + 1) c = ([], c) := by
        cases c <;> first | (exact absurd ⟨_, _, rfl⟩ hs) | rfl
      rw [e] at h he
      cases h
      exact he
noncomputable def chk (P : Program) (X : Told) (n nt : Nat) (cs : List Code) (T : Tmps) (K : AHeap) (T2 : Tmps) (l : List (Nat × ABlk)) (nx : Nat) : Bool := match runL P X n nt cs T K with
  | some (T1, K1) => eqT T1 T2 && (Nat.beq K1.next nx && (Nat.beq K1.lo 0 && subB l K1.blks))
  | none => false
theorem Good.cut (hX : FrX X) {fn : Func} {c : Code} {T T2 : Tmps} {K : AHeap} {l : List (Nat × ABlk)} {nx n k : Nat} (h : chk P X n fn.ntmps (splitS k c).1 T K T2 l nx = true) (g : Good P X fn (splitS k c).2 T2 (mkK l nx)) : Good P X fn c T K := by
  intro H hc
  unfold chk at h
  split at h
  · rename_i T1 K1 e
    simp only [Bool.and_eq_true] at h
    obtain ⟨h1, h2, h3, h4⟩ := h
    have h1 := eqT_eq h1
    subst h1
    obtain ⟨H1, e1, c1⟩ := (fr_runL hX n fn.ntmps _ T).cov e hc
    have c2 : Cov (mkK l nx) H1 := ⟨by rw [c1.next]; exact Nat.eq_of_beq_eq_true h2, by
      have := c1.lo; rw [Nat.eq_of_beq_eq_true h3] at this; exact this, fun i b hi => c1.sub i b (subB_mem h4 (i, b) (mkB_get hi)), c1.top⟩
    obtain ⟨n2, H2, e2⟩ := g H1 c2
    obtain ⟨n3, e3⟩ := runL_seq k c T H e1 ⟨n2, e2⟩
    exact ⟨n3, H2, e3⟩
  · cases h
noncomputable def endR (P : Program) (X : Told) (fn : Func) (n : Nat) (c : Code) (T : Tmps) (K : AHeap) : Bool := match runR P X n (.code fn.ntmps none c T []) K with
  | some (.exit e T ms, K1) => (match e with
    | .exit _ => false
    | _ => match ms with
      | [] => isTrue (bd (resultsA P T fn.results.toList) (fun vs => ret (.val (oneV vs))) K1)
      | _ => false)
  | _ => false
theorem Good.last (hX : FrX X) {fn : Func} {c : Code} {T : Tmps} {K : AHeap} {n : Nat} (h : endR P X fn n c T K = true) : Good P X fn c T K := by
  intro H hc
  have : ∃ K1, endF P X fn n c T K = some (.val (.bool true), K1) := by
    unfold endR at h
    rw [runR_eq] at h
    split at h
    · rename_i e T ms K1 q
      unfold endF bd
      rw [q]
      cases e with
      | exit _ => cases h
      | nrm =>
        cases ms with
        | cons _ _ => cases h
        | nil => exact isTrue_spec h
      | ret =>
        cases ms with
        | cons _ _ => cases h
        | nil => exact isTrue_spec h
    · cases h
  obtain ⟨K1, e⟩ := this
  obtain ⟨H1, e1, _⟩ := (fr_endF hX fn n c T).cov e hc
  exact ⟨n, H1, e1⟩
end Go.AM
namespace Go.AM
open Go Go.RowKit Go.ChangeShapes Go.WideShapes Go.ChangeAt
/-! ### a law that reads a variable of a package, which holds numbers and Booleans -/
end Go.AM
namespace Go.AM
open Go Go.RowKit Go.ChangeShapes Go.WideShapes
/-! ### what a laid variable of numbers holds, cell by cell -/
end Go.AM
namespace Go.AM
open Go Go.RowKit Go.ChangeShapes Go.WideShapes Go.ChangeAt
/-! ### steps in regions whose order is open -/
section
variable {s s2 : Heap} {v : AVal} {l : List AVal}
theorem newM {l : List (Heap × Heap)} {elem : TypeId} {cs : List AVal} {R : Nat → Heap → Prop} (h : ∀ b s2, s b = none → add s s2 b = some (false, .cells elem cs) → Upto b s (add s s2) → R b s2) :
    newK elem cs (fun b s2 => (∀ i, s i ≠ none → cutH l s i = none → s2 i = none) → R b s2) (frz (cutH l s)) := by
  refine new_step fun b s2 hb h2 u2 hq => ?_
  have hsb : s b = none := by
    cases e : s b with
    | none => rfl
    | some x =>
      have := hq b (by rw [e]; simp) (frz_none.1 hb)
      rw [this] at h2; cases h2
  refine h b s2 hsb (by rw [add_none hsb]; exact h2) fun i hi => ?_
  cases e : s i with
  | some x => rw [add_some e]
  | none => rw [add_none e, u2 i hi, frz_none.2 (cutH_none e)]
theorem Sl.addf (h : Sl s2 v l) (hs : Sub (frz s) s2) : Sl (add s s2) v l := by
  rcases h with h | ⟨b, o, cap, h1, h2, h3⟩
  · exact .inl h
  · refine .inr ⟨b, o, cap, h1, h2, fun hl => ?_⟩
    obtain ⟨t, e, cs, q1, q2⟩ := h3 hl
    cases hb : s b with
    | none => exact ⟨t, e, cs, by rw [add_none hb]; exact q1, q2⟩
    | some x =>
      obtain ⟨t', x⟩ := x
      have := hs b _ (frz_some hb)
      rw [q1] at this
      cases this
      exact ⟨t', e, cs, by rw [add_some hb], q2⟩
theorem Sl.frz (h : Sl s v l) : Sl (frz s) v l := by
  rcases h with h | ⟨b, o, cap, h1, h2, h3⟩
  · exact .inl h
  · refine .inr ⟨b, o, cap, h1, h2, fun hl => ?_⟩
    obtain ⟨t, e, cs, q1, q2⟩ := h3 hl
    exact ⟨true, e, cs, frz_some q1, q2⟩
theorem Sl.ne (h : Sl s v l) {b : Nat} (hb : s b = none) : ∀ b' o n c, v = .slc b' o n c 1 → l ≠ [] → ¬ b' = b := by
  rintro b' o n c rfl hl rfl
  rcases h with ⟨h, _⟩ | ⟨b, o, cap, h1, h2, h3⟩
  · cases h
  · cases h1
    obtain ⟨t, e, cs, q1, q2⟩ := h3 hl
    rw [hb] at q1; cases q1
theorem Sl.one {v : AVal} {l : List AVal} (h : Sl s v l) : v.one = true := by
  rcases h with ⟨rfl, _⟩ | ⟨b, o, cap, rfl, _⟩ <;> rfl
theorem Upto.slk {b : Nat} {s s' : Heap} (h : Upto b s s') {s0 : Heap} (hs : Sl s v l) (h0 : Sl s0 v l) (hb : s0 b = none) : Sl s' v l :=
  hs.keep (fp := fun i => i = b) (h.keep rfl) fun b' o n c e hl => h0.ne hb b' o n c e hl
end
end Go.AM
namespace Go.AM
open Go Go.RowKit Go.ChangeShapes Go.WideShapes Go.ChangeAt
/-! ### laws that look at their arguments, and read a variable of a package in functions that are taken as told -/
/-! ### memory at the start -/
theorem ArgL.sub {P : Program} {s s' : Heap} (hs : Sub s s') {d : Nat} : ∀ {ts : List TypeId} {xs : List AVal}, ArgL P s d ts xs → ArgL P s' d ts xs
  | [], [], _ => trivial
  | [], _ :: _, h => h.elim
  | _ :: _, [], h => h.elim
  | _ :: _, _ :: _, ⟨h1, h2⟩ => ⟨Arg.sub hs h1, ArgL.sub hs h2⟩
end Go.AM
namespace Go.AM
open Go
/-! ### rounds of a loop over an iterator -/
variable {P : Program} {X : Told} {A : Nat → List Nat}
/-! ### the loops of a function over iterators, in their order -/
end Go.AM
namespace Go.AM
open Go
/-! ### slices whose elements are rows of cells -/
def SlR (es : Nat) (s : Heap) (v : AVal) (rows : List (List AVal)) : Prop := (∀ r ∈ rows, r.length = es) ∧ ((v = .nilslc ∧ rows = []) ∨ ∃ b o cap, v = .slc b o rows.length cap es ∧ (∀ c, cap = some c → rows.length ≤ c) ∧
  (rows ≠ [] → ∃ t e cs, s b = some (t, .cells e cs) ∧ o + rows.length * es ≤ cs.length ∧ (cs.drop o).take (rows.length * es) = rows.flatten))
theorem flat_len {es : Nat} : ∀ {rows : List (List AVal)}, (∀ r ∈ rows, r.length = es) → rows.flatten.length = rows.length * es
  | [], _ => by simp
  | r :: rows, h => by
    rw [List.flatten_cons, List.length_append, flat_len fun q hq => h q (by simp [hq]), h r (by simp), List.length_cons, Nat.succ_mul, Nat.add_comm]
theorem flat_row {es : Nat} : ∀ {rows : List (List AVal)} {i : Nat} {r : List AVal}, (∀ r ∈ rows, r.length = es) → rows[i]? = some r → (rows.flatten.drop (i * es)).take es = r
  | [], _, _, _, h => by simp at h
  | q :: rows, 0, r, hl, h => by
    simp only [List.getElem?_cons_zero, Option.some.injEq] at h
    subst h
    have := hl q (by simp)
    rw [Nat.zero_mul, List.drop_zero, List.flatten_cons, List.take_append_of_le_length (by omega), List.take_of_length_le (by omega)]
  | q :: rows, i + 1, r, hl, h => by
    have hq := hl q (by simp)
    have e1 : (i + 1) * es = i * es + es := Nat.succ_mul _ _
    rw [List.flatten_cons, List.drop_append, List.drop_eq_nil_of_le (by omega), List.nil_append, hq, e1, Nat.add_sub_cancel]
    exact flat_row (fun r hr => hl r (by simp [hr])) (by simpa using h)
variable {s s2 s' : Heap} {v : AVal} {rows : List (List AVal)} {es : Nat}
theorem SlR.len (h : SlR es s v rows) : lenOfA v = some rows.length := by
  rcases h.2 with ⟨rfl, rfl⟩ | ⟨b, o, cap, rfl, _⟩
  · rfl
  · rfl
theorem SlR.one (h : SlR es s v rows) : v.one = true := by
  rcases h.2 with ⟨rfl, _⟩ | ⟨b, o, cap, rfl, _⟩ <;> rfl
theorem SlR.get (h : SlR es s v rows) {i : Nat} {r : List AVal} (hi : rows[i]? = some r) : ∃ b o, iaddrS es v (.int .i64 (i : Int)) = some (.ptr b o) ∧ rdN s es (.ptr b o) = some r ∧ ∀ j, j < es → rd1 s (.ptr b (o + j)) = r[j]? := by
  have hlt := (List.getElem?_eq_some_iff.1 hi).1
  obtain ⟨hl, h⟩ := h
  rcases h with ⟨rfl, rfl⟩ | ⟨b, o, cap, rfl, _, h⟩
  · simp at hlt
  · obtain ⟨t, e, cs, h1, h2, h3⟩ := h (by rintro rfl; simp at hlt)
    have e1 : Nat.blt i rows.length = true := by rw [Nat.blt_eq]; exact hlt
    have e2 : (i + 1) * es ≤ rows.length * es := Nat.mul_le_mul_right _ hlt
    rw [Nat.succ_mul] at e2
    have row : (cs.drop (o + i * es)).take es = r := by
      rw [← flat_row hl hi, ← h3, List.drop_take, List.take_take, List.drop_drop, Nat.min_eq_left (by omega)]
    refine ⟨b, o + i * es, by simp [iaddrS, e1], ?_, fun j hj => ?_⟩
    · have e3 : Nat.ble (o + i * es + es) cs.length = true := Nat.ble_eq_true_of_le (by omega)
      simp only [rdN, h1, takeAt, e3, cond_true, row]
    · rw [rd1_mk h1, ← row, List.getElem?_take, if_pos hj, List.getElem?_drop]
theorem SlR.rd (h : SlR es s v rows) : rdSl s es v = some rows.flatten := by
  obtain ⟨hl, h⟩ := h
  rcases h with ⟨rfl, rfl⟩ | ⟨b, o, cap, rfl, _, h⟩
  · rfl
  · simp only [rdSl, Nat.beq_refl, cond_true]
    cases hz : Nat.beq (rows.length * es) 0 with
    | true =>
      rw [cond_true]
      have := flat_len hl
      rw [Nat.eq_of_beq_eq_true hz] at this
      rw [List.eq_nil_of_length_eq_zero this]
    | false =>
      rw [cond_false]
      obtain ⟨t, e, cs, h1, h2, h3⟩ := h (by rintro rfl; simp at hz)
      have e2 : Nat.ble (o + rows.length * es) cs.length = true := Nat.ble_eq_true_of_le h2
      simp only [h1, takeAt, e2, cond_true, h3]
theorem SlR.sub (h : SlR es s v rows) (hs : Sub s s') : SlR es s' v rows := by
  refine ⟨h.1, ?_⟩
  rcases h.2 with h | ⟨b, o, cap, h1, h2, h3⟩
  · exact .inl h
  · refine .inr ⟨b, o, cap, h1, h2, fun hl => ?_⟩
    obtain ⟨t, e, cs, q1, q2⟩ := h3 hl
    exact ⟨t, e, cs, hs _ _ q1, q2⟩
theorem SlR.frz (h : SlR es s v rows) : SlR es (frz s) v rows := by
  refine ⟨h.1, ?_⟩
  rcases h.2 with h | ⟨b, o, cap, h1, h2, h3⟩
  · exact .inl h
  · refine .inr ⟨b, o, cap, h1, h2, fun hl => ?_⟩
    obtain ⟨t, e, cs, q1, q2⟩ := h3 hl
    exact ⟨true, e, cs, frz_some q1, q2⟩
theorem SlR.keep {fp : Nat → Prop} (h : SlR es s v rows) (hs : KeepBut fp s s') (hn : ∀ b o n c, v = .slc b o n c es → rows ≠ [] → ¬ fp b) : SlR es s' v rows := by
  refine ⟨h.1, ?_⟩
  rcases h.2 with h | ⟨b, o, cap, h1, h2, h3⟩
  · exact .inl h
  · refine .inr ⟨b, o, cap, h1, h2, fun hl => ?_⟩
    obtain ⟨t, e, cs, q1, q2⟩ := h3 hl
    exact ⟨t, e, cs, hs _ _ q1 (hn b o _ cap h1 hl), q2⟩
theorem SlR.mk {b : Nat} {t : Bool} {e : TypeId} {n : Nat} {cap : Option Nat} (hl : ∀ r ∈ rows, r.length = es) (h : s b = some (t, .cells e rows.flatten)) (hn : n = rows.length) (hc : ∀ c, cap = some c → rows.length ≤ c) : SlR es s (.slc b 0 n cap es) rows := by
  subst hn
  refine ⟨hl, .inr ⟨b, 0, cap, rfl, hc, fun _ => ⟨t, e, _, h, by rw [flat_len hl]; omega, ?_⟩⟩⟩
  rw [List.drop_zero, ← flat_len hl, List.take_of_length_le (Nat.le_refl _)]
theorem SlR.empty {b o : Nat} {c : Nat} : SlR es s (.slc b o 0 (some c) es) [] := ⟨by simp, .inr ⟨b, o, some c, rfl, by simp, fun h => absurd rfl h⟩⟩
/-- without the first elements -/
theorem SlR.drop (h : SlR es s v rows) {k : Nat} (hk : k ≤ rows.length) (hne : rows ≠ []) : ∃ v', sliceS es v (some (.int .i64 (k : Int))) none none = some v' ∧ SlR es s v' (rows.drop k) ∧ ∀ b o n c, v' = .slc b o n c es → ∃ o n c, v = .slc b o n c es := by
  obtain ⟨hl, h⟩ := h
  rcases h with ⟨rfl, rfl⟩ | ⟨b, o, cap, rfl, hc, h⟩
  · exact absurd rfl hne
  · obtain ⟨t, e, cs, h1, h2, h3⟩ := h hne
    have hrow : ∀ r ∈ rows.drop k, r.length = es := fun r hr => hl r (List.mem_of_mem_drop hr)
    have hlen : (rows.drop k).length = rows.length - k := List.length_drop
    have data : rows.drop k ≠ [] → ∃ t e cs, s b = some (t, .cells e cs) ∧ o + k * es + (rows.drop k).length * es ≤ cs.length ∧ (cs.drop (o + k * es)).take ((rows.drop k).length * es) = (rows.drop k).flatten := fun _ => by
      have e2 : k * es + (rows.length - k) * es = rows.length * es := by rw [← Nat.add_mul]; congr 1; omega
      refine ⟨t, e, cs, h1, by rw [hlen]; omega, ?_⟩
      have e3 : rows.flatten.drop (k * es) = (rows.drop k).flatten := by
        have : rows.flatten = (rows.take k).flatten ++ (rows.drop k).flatten := by rw [← List.flatten_append, List.take_append_drop]
        have hk2 : (rows.take k).flatten.length = k * es := by rw [flat_len fun r hr => hl r (List.mem_of_mem_take hr), List.length_take, Nat.min_eq_left hk]
        rw [this, ← hk2, List.drop_left]
      rw [← e3, ← h3, List.drop_take, List.drop_drop, hlen]
      congr 1
      omega
    have b1 : bound (some (.int .i64 (k : Int))) 0 rows.length = some k := by
      simp [bound, Nat.ble_eq_true_of_le hk]
    cases cap with
    | none =>
      refine ⟨.slc b (o + k * es) (rows.length - k) none es, ?_, ⟨hrow, .inr ⟨b, o + k * es, none, by rw [hlen], by simp, data⟩⟩, fun b' o' n' c' e => by cases e; exact ⟨_, _, _, rfl⟩⟩
      simp [sliceS, bound, Nat.ble_eq_true_of_le hk]
    | some c =>
      have hc' := hc c rfl
      refine ⟨.slc b (o + k * es) (rows.length - k) (some (c - k)) es, ?_, ⟨hrow, .inr ⟨b, o + k * es, some (c - k), by rw [hlen], fun d hd => by cases hd; rw [hlen]; omega, data⟩⟩, fun b' o' n' c' e => by cases e; exact ⟨_, _, _, rfl⟩⟩
      simp [sliceS, bound, Nat.ble_eq_true_of_le hk, Nat.ble_eq_true_of_le hc']
theorem inpR {P : Program} {d : Nat} {t e : TypeId} (hu : P.underlying t = some (.slice e)) {A : Type} (f : A → List AVal) (Q : A → Prop) (hf : ∀ a, (f a).length = P.cellsOf e) (he : ∀ xs, Inp P s d e xs → ∃ a, xs = f a ∧ Q a) {xs : List AVal} (h : Inp P s (d + 1) t xs) : ∃ v, xs = [v] ∧ ∃ l : List A, SlR (P.cellsOf e) s v (l.map f) ∧ (∀ a ∈ l, Q a) ∧ l.length ≤ maxLen := by
  unfold Inp at h
  simp only [hu] at h
  have hrow : ∀ (l : List A), ∀ r ∈ l.map f, r.length = P.cellsOf e := fun l r hr => by obtain ⟨a, _, rfl⟩ := List.mem_map.1 hr; exact hf a
  rcases h with rfl | ⟨b, len, cap, rfl, h1, h2, h3⟩
  · exact ⟨_, rfl, [], ⟨hrow [], .inl ⟨rfl, rfl⟩⟩, by simp, by simp⟩
  · refine ⟨_, rfl, ?_⟩
    by_cases hz : cap = 0
    · subst hz
      have : len = 0 := by omega
      subst this
      exact ⟨[], .empty, by simp, by simp⟩
    · obtain ⟨el, l, g1, g2, g3⟩ := h3 (by omega)
      have mk : ∀ n, n ≤ cap → ∃ r : List A, r.length = n ∧ (r.map f).flatten = l.take (n * P.cellsOf e) ∧ ∀ a ∈ r, Q a := by
        intro n
        induction n with
        | zero => exact fun _ => ⟨[], rfl, by simp, by simp⟩
        | succ n ih =>
          intro hn
          obtain ⟨r, r1, r2, r3⟩ := ih (by omega)
          obtain ⟨a, a1, a2⟩ := he _ (g3 n (by omega))
          refine ⟨r ++ [a], by simp [r1], ?_, fun b hb => ?_⟩
          · rw [List.map_append, List.flatten_append, r2, List.map_singleton, List.flatten_singleton, ← a1, Nat.succ_mul, List.take_add]
          · rcases List.mem_append.1 hb with hb | hb
            · exact r3 b hb
            · rw [List.mem_singleton.1 hb]; exact a2
      obtain ⟨r, r1, r2, r3⟩ := mk len h1
      refine ⟨r, ⟨hrow r, .inr ⟨b, 0, some cap, by simp [r1], by simp [r1]; exact h1, fun _ => ⟨true, el, l, g1, ?_, ?_⟩⟩⟩, r3, by omega⟩
      · rw [List.length_map, r1, g2, Nat.zero_add]; exact Nat.mul_le_mul_right _ h1
      · rw [List.length_map, r1, List.drop_zero, r2]
theorem argR {P : Program} {d : Nat} {t e : TypeId} {v : AVal} (hu : P.underlying t = some (.slice e)) {A : Type} (f : A → List AVal) (Q : A → Prop) (hf : ∀ a, (f a).length = P.cellsOf e) (he : ∀ xs, Inp P s d e xs → ∃ a, xs = f a ∧ Q a) (h : Arg P s (d + 1) t v) : ∃ l : List A, SlR (P.cellsOf e) s v (l.map f) ∧ (∀ a ∈ l, Q a) ∧ l.length ≤ maxLen := by
  obtain ⟨h1, _, h3⟩ := h
  have : isAggT P t ≠ some true := by unfold isAggT; rw [hu]; simp
  rw [h3 this] at h1
  obtain ⟨v', e1, h4⟩ := inpR hu f Q hf he h1
  cases e1
  exact h4
theorem argl4 {P : Program} {d : Nat} {t u w y : TypeId} {xs : List AVal} (h : ArgL P s d [t, u, w, y] xs) : ∃ a b c e, xs = [a, b, c, e] ∧ Arg P s d t a ∧ Arg P s d u b ∧ Arg P s d w c ∧ Arg P s d y e := by
  match xs, h with
  | [a, b, c, e], ⟨h1, h2, h3, h4, _⟩ => exact ⟨a, b, c, e, rfl, h1, h2, h3, h4⟩
end Go.AM
namespace Go.AM
open Go
variable {s s2 s' : Heap} {v : AVal} {rows : List (List AVal)} {es : Nat}
/-- the first elements alone -/
theorem SlR.take (h : SlR es s v rows) {k : Nat} (hk : k ≤ rows.length) (hne : rows ≠ []) : ∃ v', sliceS es v none (some (.int .i64 (k : Int))) none = some v' ∧ SlR es s v' (rows.take k) ∧ ∀ b o n c, v' = .slc b o n c es → ∃ o n c, v = .slc b o n c es := by
  obtain ⟨hl, h⟩ := h
  rcases h with ⟨rfl, rfl⟩ | ⟨b, o, cap, rfl, hc, h⟩
  · exact absurd rfl hne
  · obtain ⟨t, e, cs, h1, h2, h3⟩ := h hne
    have hrow : ∀ r ∈ rows.take k, r.length = es := fun r hr => hl r (List.mem_of_mem_take hr)
    have hlen : (rows.take k).length = k := by rw [List.length_take, Nat.min_eq_left hk]
    have e2 : k * es ≤ rows.length * es := Nat.mul_le_mul_right _ hk
    have data : rows.take k ≠ [] → ∃ t e cs, s b = some (t, .cells e cs) ∧ o + (rows.take k).length * es ≤ cs.length ∧ (cs.drop o).take ((rows.take k).length * es) = (rows.take k).flatten := fun _ => by
      refine ⟨t, e, cs, h1, by rw [hlen]; omega, ?_⟩
      have e3 : rows.flatten.take (k * es) = (rows.take k).flatten := by
        have : rows.flatten = (rows.take k).flatten ++ (rows.drop k).flatten := by rw [← List.flatten_append, List.take_append_drop]
        have hk2 : (rows.take k).flatten.length = k * es := by rw [flat_len hrow, hlen]
        rw [this, ← hk2, List.take_left]
      rw [← e3, ← h3, List.take_take, hlen, Nat.min_eq_left e2]
    cases cap with
    | none =>
      refine ⟨.slc b o k none es, ?_, ⟨hrow, .inr ⟨b, o, none, by rw [hlen], by simp, data⟩⟩, fun b' o' n' c' e => by cases e; exact ⟨_, _, _, rfl⟩⟩
      simp [sliceS, bound, Nat.ble_eq_true_of_le hk]
    | some c =>
      have hc' := hc c rfl
      refine ⟨.slc b o k (some c) es, ?_, ⟨hrow, .inr ⟨b, o, some c, by rw [hlen], fun d hd => by cases hd; rw [hlen]; omega, data⟩⟩, fun b' o' n' c' e => by cases e; exact ⟨_, _, _, rfl⟩⟩
      simp [sliceS, bound, Nat.ble_eq_true_of_le (Nat.le_trans hk hc')]
/-- a list of rows that grows by append; 's0': the memory that was there before it -/
def AccR (elem : TypeId) (es : Nat) (s0 s : Heap) (v : AVal) (rows : List (List AVal)) : Prop := (∀ r ∈ rows, r.length = es) ∧ ((v = .nilslc ∧ rows = []) ∨ ∃ b, s0 b = none ∧ v = .slc b 0 rows.length none es ∧ s b = some (false, .cells elem rows.flatten))
theorem AccR.sl {elem : TypeId} {s0 : Heap} (h : AccR elem es s0 s v rows) : SlR es s v rows := by
  obtain ⟨hl, h⟩ := h
  rcases h with h | ⟨b, _, rfl, h⟩
  · exact ⟨hl, .inl h⟩
  · exact SlR.mk hl h rfl (by simp)
theorem AccR.sub {elem : TypeId} {s0 s s' : Heap} (h : AccR elem es s0 s v rows) (hs : Sub s s') : AccR elem es s0 s' v rows := by
  obtain ⟨hl, h⟩ := h
  rcases h with h | ⟨b, h0, rfl, h⟩
  · exact ⟨hl, .inl h⟩
  · exact ⟨hl, .inr ⟨b, h0, rfl, hs _ _ h⟩⟩
theorem AccR.app {elem : TypeId} {s0 : Heap} {y : AVal} {m : List (List AVal)} {K : AVal → Heap → Prop} (h : AccR elem es s0 s v rows) (hy : SlR es s y m) (hm : m ≠ []) (hl : rows.length + m.length ≤ 16777216) (hdom : Sub s0 s)
    (hK : ∀ v' s', AccR elem es s0 s' v' (rows ++ m) → Sub s0 s' → K v' s') : appK elem es v y K s := by
  obtain ⟨k, hk⟩ : ∃ k, m.length = k + 1 := by cases m with | nil => exact absurd rfl hm | cons a r => exact ⟨r.length, rfl⟩
  refine optK_of hy.rd (optK_of hy.len ?_)
  obtain ⟨hrow, h⟩ := h
  have hrow2 : ∀ r ∈ rows ++ m, r.length = es := fun r hr => by rcases List.mem_append.1 hr with hr | hr; exact hrow r hr; exact hy.1 r hr
  rcases h with ⟨rfl, rfl⟩ | ⟨b, hb0, rfl, hb⟩
  · simp only
    rw [hk]
    refine ⟨by simp at hl; omega, new_step fun c s1 hc h1 u1 => hK _ _ ⟨hrow2, .inr ⟨c, ?_, by simp [hk], by simpa using h1⟩⟩ (hdom.trans (u1.sub hc))⟩
    cases q : s0 c with
    | none => rfl
    | some x => rw [hdom c x q] at hc; cases hc
  · refine ⟨rfl, ?_⟩
    simp only
    rw [hk]
    simp only
    refine optK_of (SlR.rd (SlR.mk hrow hb rfl (by simp))) ?_
    unfold dropK
    rw [hb]
    have hdel0 : Sub s0 (hdel s b) := fun i e hi => by
      have hib : i ≠ b := ne_of_some hb0 hi
      rw [← hdom i e hi]; exact if_neg hib
    refine ⟨rfl, by omega, new_step fun c s1 hc h1 u1 => hK _ _ ⟨hrow2, .inr ⟨c, ?_, by simp [hk], by simpa using h1⟩⟩ (hdel0.trans (u1.sub hc))⟩
    cases q : s0 c with
    | none => rfl
    | some x => rw [hdel0 c x q] at hc; cases hc
end Go.AM
namespace Go.AM
open Go
variable {α β : Type} {P : Program} {X : Told} {A : Nat → List Nat} {nt : Nat} {rnd : Option Nat}
/-! ### functions with one statement 'defer' in their first statements -/
end Go.AM
namespace Go.AM
open Go
variable {P : Program} {X : Told}
/-- what a call does not know, it leaves as it is -/
theorem wpCall.frame (hX : FrX X) {f : FuncId} {args : List AVal} {K : AVal → Heap → Prop} {r s : Heap} (hsub : Sub r s)
    (h : wpCall P X f args (fun v s1 => (∀ i, s i ≠ none → r i = none → s1 i = none) → K v (add s1 (rest s r))) r) : wpCall P X f args K s := by
  intro H hH
  obtain ⟨n, o, H1, s1, es, h1, h2, h3, h4, d, kno, out⟩ := wpF.framed (fun n => fr_run P hX n (.call f args)) h (hH.sub hsub)
  obtain ⟨v, rfl, hK⟩ := h4
  have hout : ∀ i, s i ≠ none → r i = none → s1 i = none := fun i hi hr => (out i hr (hH.lt hi)).1
  refine ⟨n, .val v, H1, h1, add s1 (rest s r), ?_, ?_, v, rfl, hK hout⟩
  · refine ⟨h2.lo, h2.wf, fun id t b hid => ?_⟩
    cases q : s1 id with
    | some x =>
      rw [add_some q] at hid
      exact h2.at_ id t b (by rw [q]; exact hid)
    | none =>
      rw [add_none q] at hid
      unfold rest at hid
      split at hid
      · rename_i e
        obtain ⟨k1, k2⟩ := hH.at_ id t b hid
        have hlt := hH.lt (i := id) (by rw [hid]; exact Option.some_ne_none _)
        rw [d.lo, (out id e hlt).2]
        exact ⟨k1, k2⟩
      · cases hid
  · intro id b hid
    cases q : r id with
    | some x =>
      have e1 := hsub id x q
      rw [hid] at e1
      cases e1
      exact add_some (h3 id b q)
    | none =>
      have hlt := hH.lt (i := id) (by rw [hid]; exact Option.some_ne_none _)
      rw [add_none (out id q hlt).1]
      unfold rest
      rw [if_pos q]; exact hid
/-- a call on a part of memory: the other part stays, the new blocks are none of its -/
theorem wpCall.part (hX : FrX X) {f : FuncId} {args : List AVal} {K : AVal → Heap → Prop} {r s : Heap} (hsub : Sub r s)
    (h : wpCall P X f args (fun v s1 => ∀ s', Sub s1 s' → (∀ i, r i = none → s i ≠ none → s' i = s i ∧ s1 i = none) → K v s') r) : wpCall P X f args K s := by
  refine wpCall.frame hX hsub (wpF.mono h fun o s1 ⟨v, e, hv⟩ => ⟨v, e, fun hout => hv _ sub_add fun i hr hi => ?_⟩)
  have := hout i hi hr
  refine ⟨?_, this⟩
  rw [add_none this]
  unfold rest
  rw [if_pos hr]
end Go.AM
namespace Go.AM
open Go
variable {α β : Type} {P : Program} {X : Told} {A : Nat → List Nat} {nt : Nat} {rnd : Option Nat}
/-! ### deferred functions that begin with 'recover', while the function returns -/
end Go.AM
namespace Go.AM
open Go
/-! ### long functions in parts: code behind the first statements -/
end Go.AM
namespace Go.AM
open Go Go.RowKit
/-! ### the calculus where a range over a map may write: what memory is afterwards is not determined -/
/-- memory as it is told, beside other blocks (t), is memory as the program has it -/
structure Fit (σ : Nat → Value) (ρ : Ren) (base : Nat) (s t : Heap) (H : AHeap) (w : World) : Prop where
  one : One σ
  rel : HRel (add s t) H
  wr : WR σ ρ base H w
  free : ∀ id, H.next ≤ id → ρ id = none
  dis : ∀ i, t i ≠ none → s i = none
structure Stp (σ : Nat → Value) (ρ ρ' : Ren) (base : Nat) (s s' t : Heap) (H H' : AHeap) (w w' : World) : Prop where
  post : Post σ ρ ρ' base H H' w w'
  next : H.next ≤ H'.next
  lo : H'.lo = H.lo
  pers : Pers s s'
  fit : Fit σ ρ' base s' t H' w'
variable {α β : Type} {σ : Nat → Value} {ρ ρ' ρ1 ρ2 : Ren} {base nt : Nat} {s s' s1 s2 t : Heap} {H H' H1 H2 : AHeap} {w w' w1 w2 : World} {P : Program} {X : Told} {A : Nat → List Nat}
theorem Stp.refl (h : Fit σ ρ base s t H w) : Stp σ ρ ρ base s s t H H w w := ⟨⟨.refl _ _ _, h.wr, .refl _ _⟩, Nat.le_refl _, rfl, .refl _, h⟩
theorem Stp.trans (h : Stp σ ρ ρ1 base s s1 t H H1 w w1) (k : Stp σ ρ1 ρ2 base s1 s2 t H1 H2 w1 w2) : Stp σ ρ ρ2 base s s2 t H H2 w w2 :=
  ⟨h.post.trans k.post h.next k.next, Nat.le_trans h.next k.next, k.lo.trans h.lo, h.pers.trans k.pers, k.fit⟩
theorem Fit.freeTo (h : Fit σ ρ base s t H w) (b : Nat) : Free ρ H.next b := fun id hid _ => h.free id hid
theorem Fit.sub (h : Fit σ ρ base s t H w) (hs : Sub s' s) : Fit σ ρ base s' t H w :=
  ⟨h.one, h.rel.sub fun i e hi => by
    cases q : s' i with
    | some x => rw [add_some q] at hi; cases hi; exact add_some (hs i _ q)
    | none =>
      rw [add_none q] at hi
      rw [add_none (h.dis i (by rw [hi]; simp))]; exact hi, h.wr, h.free, fun i hi => by
    cases q : s' i with
    | none => rfl
    | some x => have := hs i x q; rw [h.dis i hi] at this; cases this⟩
theorem stp_of {es : List (Nat × Bool)} (hf : Fit σ ρ base s t H w) (hp : Post σ ρ ρ' base H H' w w') (d : Does es H H') (hr : HRel (add s' t) H') (hd : ∀ i, t i ≠ none → s' i = none) (hpe : Pers (add s t) (add s' t)) : Stp σ ρ ρ' base s s' t H H' w w' := by
  refine ⟨hp, d.next, d.lo, fun i b hi => ?_, hf.one, hr, hp.wr, fun id hid => ?_, hd⟩
  · have := hpe i b (add_some hi)
    cases q : s' i with
    | some x => rw [add_some q] at this; exact this
    | none =>
      rw [add_none q] at this
      have := hf.dis i (by rw [this]; simp)
      rw [hi] at this; cases this
  · rw [hp.ext.out id (.inr hid)]
    exact hf.free id (Nat.le_trans d.next hid)
structure Grd (P : Program) (X : Told) : Prop where
  mixed : P.follows .mixedOrders = true
  nonum : NoNum P
  ext : ExtOK P X
/-- what a call does, whatever orders it takes -/
def wpW (P : Program) (X : Told) (f : FuncId) (args : List AVal) (K : AVal → Heap → Prop) (s : Heap) : Prop := Grd P X → ∀ (t : Heap) (σ : Nat → Value) (ρ : Ren) (base : Nat) (H : AHeap) (w : World) (args' : Array Value), Fit σ ρ base s t H w → RelL σ ρ args args'.toList →
  CallsIn Fence.wide 0 P f args' w (fun e w' => ∃ v v' s' ρ' H', e = .returned v' ∧ Rel σ ρ' v v' ∧ Stp σ ρ ρ' base s s' t H H' w w' ∧ K v s')
theorem wpW.mono {f : FuncId} {args : List AVal} {K K' : AVal → Heap → Prop} (h : wpW P X f args K s) (hk : ∀ v s', K v s' → K' v s') : wpW P X f args K' s := fun g t σ ρ base H w args' hf hr =>
  (h g t σ ρ base H w args' hf hr).mono fun _ _ ⟨v, v', s', ρ', H', e, r, st, k⟩ => ⟨v, v', s', ρ', H', e, r, st, hk v s' k⟩
/-- a call on a part of memory: the other part stays, the new blocks are none of its -/
theorem wpW.part {f : FuncId} {args : List AVal} {K : AVal → Heap → Prop} {r : Heap} (hsub : Sub r s)
    (h : wpW P X f args (fun v s1 => ∀ s', Sub s1 s' → (∀ i, r i = none → s i ≠ none → s' i = s i ∧ s1 i = none) → K v s') r) : wpW P X f args K s := fun g t σ ρ base H w args' hf hr => by
  have e1 : add r (add (rest s r) t) = add s t := by
    funext i
    cases q : r i with
    | some x => rw [add_some q, add_some (hsub i x q)]
    | none =>
      rw [add_none q]
      cases q2 : s i with
      | some y => rw [add_some q2, add_some (show rest s r i = some y by unfold rest; rw [if_pos q, q2])]
      | none => rw [add_none q2, add_none (show rest s r i = none by unfold rest; rw [if_pos q, q2])]
  have hf2 : Fit σ ρ base r (add (rest s r) t) H w := ⟨hf.one, by rw [e1]; exact hf.rel, hf.wr, hf.free, fun i hi => by
    cases q : rest s r i with
    | some x => unfold rest at q; split at q
                · assumption
                · cases q
    | none =>
      rw [add_none q] at hi
      cases q2 : r i with
      | none => rfl
      | some x => have := hsub i x q2; rw [hf.dis i hi] at this; cases this⟩
  refine (h g _ σ ρ base H w args' hf2 hr).mono ?_
  rintro e w' ⟨v, v', s1, ρ', H', rfl, hv, st, k⟩
  have hd1 : ∀ i, rest s r i ≠ none → s1 i = none := fun i hi => st.fit.dis i (by
    cases q : rest s r i with
    | none => exact absurd q hi
    | some x => rw [add_some q]; simp)
  have hd2 : ∀ i, t i ≠ none → s1 i = none := fun i hi => st.fit.dis i (by
    cases q : rest s r i with
    | some x => rw [add_some q]; simp
    | none => rw [add_none q]; exact hi)
  have e2 : add s1 (add (rest s r) t) = add (add s1 (rest s r)) t := by
    funext i
    cases q : s1 i with
    | some x => rw [add_some q, add_some (add_some q)]
    | none =>
      rw [add_none q]
      cases q2 : rest s r i with
      | some y => rw [add_some q2, add_some (by rw [add_none q]; exact q2)]
      | none => rw [add_none q2, add_none (by rw [add_none q]; exact q2)]
  refine ⟨v, v', add s1 (rest s r), ρ', H', rfl, hv, ⟨st.post, st.next, st.lo, fun i b hi => ?_, st.fit.one, by rw [← e2]; exact st.fit.rel, st.fit.wr, st.fit.free, fun i hi => ?_⟩, k _ sub_add fun i hr hi => ?_⟩
  · cases q : r i with
    | some x =>
      have := hsub i x q
      rw [hi] at this
      cases this
      exact add_some (st.pers i b q)
    | none =>
      have hre : rest s r i = some (true, b) := by unfold rest; rw [if_pos q]; exact hi
      rw [add_none (hd1 i (by rw [hre]; simp))]; exact hre
  · rw [add_none (hd2 i hi)]
    unfold rest
    split
    · exact hf.dis i hi
    · rfl
  · have hre : rest s r i = s i := by unfold rest; rw [if_pos hr]
    have := hd1 i (by rw [hre]; exact hi)
    exact ⟨by rw [add_none this]; exact hre, this⟩
/-- what code does -/
def CW (P : Program) (X : Told) (nt : Nat) (c : Code) (env : Env) (K : AExit → Env → Heap → Prop) (s : Heap) : Prop := Grd P X → ∀ (t : Heap) (σ : Nat → Value) (ρ : Ren) (base : Nat) (H : AHeap) (w : World) (T : Tmps) (a : Act) (Q : Exit → Act → World → Prop),
  Fit σ ρ base s t H w → TR T env → TRel σ ρ nt T a.tmps → a.defers = [] →
  (∀ e env' s' T' ρ' H' a' w', K e env' s' → TR T' env' → (∀ j, j ∉ assigned c → env' j = env j) → Stp σ ρ ρ' base s s' t H H' w w' → TRel σ ρ' nt T' a'.tmps → a'.defers = [] → Q (exitE e) a' w') → c.wpIn (FR none) 0 P Q a w
theorem marksNil {c : Code} (hrf : noRF c = true) {env : Env} {K : AExit → Env → Heap → Prop} (hX : FrX X) (h : wpC P X A nt none c env K s) {T : Tmps} (hT : TR T env) :
    wpF (fun n => run P X n (.code nt none c T [])) (fun o s' => ∃ e T' env', o = .exit e T' [] ∧ TR T' env' ∧ (∀ j, j ∉ assigned c → env' j = env j) ∧ K e env' s') s := by
  have := code_K (A := A) (nt := nt) (rnd := none) hX c env K s h T [] hT (by simp) List.nodup_nil
  rw [add_mk0] at this
  refine (wpF.both (R := fun o => o = reMs [] o) this fun n H a H' hrun => ?_).mono ?_
  · have e0 := run_noRF (P := P) (X := X) (nt := nt) (rnd := none) n c hrf T [] H
    have hrun : run P X n (.code nt none c T []) H = some (a, H') := hrun
    rw [hrun] at e0
    simp only [reO, Option.some.injEq, Prod.mk.injEq, and_true] at e0
    exact e0
  · rintro o S' ⟨⟨e, T', env', ms', s', rfl, j1, rfl, j4, _, j2, _, j3⟩, hR⟩
    have hm : ms' = [] := by
      have hR : Out.exit e T' (mkm (ms' ++ [])) = .exit e T' [] := hR
      simp only [List.append_nil, Out.exit.injEq, true_and] at hR
      cases ms' with
      | nil => rfl
      | cons _ _ => simp [mkm] at hR
    subst hm
    exact ⟨e, T', env', hR, j1, j2, by rw [List.nil_append, add_mk0]; exact j3⟩
/-- code that the calculus without orders shows -/
theorem CW.lift {c : Code} (hrf : noRF c = true) {env : Env} {K : AExit → Env → Heap → Prop} (h : wpC P X A nt none c env K s) : CW P X nt c env K s := fun g t σ ρ base H w T a Q hf hT hTr hd hQ => by
  have hfr := fun n => fr_run P g.ext.1 n (.code nt none c T [])
  obtain ⟨n, o, H', h1, S, h2, h3, s', rfl, h5, e, T', env', rfl, j1, j2, j3⟩ := wpF.frame hfr (marksNil hrf g.ext.1 h hT) hf.dis H hf.rel
  obtain ⟨es, d, _⟩ := hfr n H _ H' h1
  obtain ⟨e2, T2, ms2, he, k⟩ := (run_ok g.mixed g.nonum g.ext n).1 _ _ _ _ _ _ _ _ h1
  cases he
  refine ACode.wp (n := n) (k σ ρ base w a none Q hf.one hf.wr (hf.freeTo _) hTr rfl (by unfold DRel; exact hd) fun a' w' ρ' p => ?_)
  have hd' := p.defers
  unfold DRel at hd'
  exact hQ e env' s' T' ρ' H' a' w' j3 j1 j2 (stp_of hf p.post d h2 h5 h3) p.tmps hd'
/-! ### operations -/
section
variable (P X)
def opW (W : List Nat) (env : Env) (K : AVal → Heap → Prop) (s : Heap) (o : Op) : Prop := match o with
  | .call c => match c.callee with
    | .value (.func k) => cond (memN k W) (cond (isFn P k) (wpW P X k (c.args.toList.map (evD env)) K s) False) (wpOp P X env K s (.call c))
    | _ => wpOp P X env K s (.call c)
  | o => wpOp P X env K s o
def opsW (W : List Nat) (nt : Nat) (all : List Oper) : List Oper → Kn → Env → (Env → Heap → Prop) → Heap → Prop
  | [], _, env, K, s => K env s
  | o :: os, kn, env, K, s => guardE all o.guard kn env
      (fun kn => opW P X W env (fun v s => setK nt o.dst env v fun env => opsW W nt all os (forget kn o.dst) env K s) s o.op)
      (fun kn => setK nt o.dst env .undef fun env => opsW W nt all os (mark kn o.dst) env K s)
end
theorem opW_cases {W : List Nat} {env : Env} {K : AVal → Heap → Prop} {o : Op} (h : opW P X W env K s o) :
    wpOp P X env K s o ∨ ∃ c k, o = .call c ∧ c.callee = .value (.func k) ∧ isFn P k = true ∧ wpW P X k (c.args.toList.map (evD env)) K s := by
  unfold opW at h
  split at h
  · rename_i c
    split at h
    · rename_i k hc
      cases hm : memN k W with
      | false => rw [hm] at h; exact .inl h
      | true =>
        rw [hm, cond_true] at h
        cases hk : isFn P k with
        | false => rw [hk] at h; exact h.elim
        | true => rw [hk] at h; exact .inr ⟨c, k, rfl, hc, hk, h⟩
    · exact .inl h
  · exact .inl h
theorem opsW_ok {W : List Nat} {ops : Array Oper} {K : Env → Heap → Prop} (g : Grd P X) {Q : Exit → Act → World → Prop} : ∀ (os : List Oper) (k : Nat) (kn : Kn) (env : Env) (s : Heap) (ρ : Ren) (H : AHeap) (w : World) (T : Tmps) (a : Act), (∀ j, j < os.length → os[j]? = ops[k + j]?) →
    (os.all fun o => okOp o.op) = true → KnOk kn env → opsW P X W nt ops.toList os kn env K s → Fit σ ρ base s t H w → TR T env → TRel σ ρ nt T a.tmps → a.defers = [] →
    (∀ env' s' T' ρ' H' a' w', K env' s' → TR T' env' → (∀ j, (∀ o ∈ os, o.dst ≠ some j) → env' j = env j) → Stp σ ρ ρ' base s s' t H H' w w' → TRel σ ρ' nt T' a'.tmps → a'.defers = [] → Q .normal a' w') →
    wpOpsIn (FR none) 0 P ops Q (List.range' k os.length) a w
  | [], k, kn, env, s, ρ, H, w, T, a, _, _, _, h, hf, hT, hTr, hd, hQ => by
    simp only [List.length_nil, List.range'_zero]
    exact hQ env s T ρ H a w h hT (fun _ _ => rfl) (.refl hf) hTr hd
  | o :: os, k, kn, env, s, ρ, H, w, T, a, hk, ha, hkn, h, hf, hT, hTr, hd, hQ => by
    simp only [List.all_cons, Bool.and_eq_true] at ha
    have h0 : ops[k]? = some o := by have := hk 0 (by simp); simpa using this.symm
    obtain ⟨kn', hkn', hcase⟩ := guardE_ok hT hkn h
    simp only [List.length_cons, List.range'_succ, wpOpsIn, h0]
    have next : ∀ (v : AVal) (v' : Value) (kn2 : Kn) (s1 : Heap) (ρ1 : Ren) (H1 : AHeap) (w1 : World), (∀ env', (∀ d, o.dst ≠ some d → env' d = env d) → (∀ d, o.dst = some d → env' d = v) → KnOk kn2 env') → (setK nt o.dst env v fun env => opsW P X W nt ops.toList os kn2 env K s1) →
        Stp σ ρ ρ1 base s s1 t H H1 w w1 → Rel σ ρ1 v v' → wpOpsIn (FR none) 0 P ops Q (List.range' (k + 1) os.length) (a.put o.dst v') w1 := by
      intro v v' kn2 s1 ρ1 H1 w1 hk2 hv st hrel
      obtain ⟨T', env', e1, e2, e3, e4, e5⟩ := tr_upd2 hT hv
      refine opsW_ok g os (k + 1) kn2 env' s1 ρ1 H1 w1 T' _ (fun j hj => by have := hk (j + 1) (by simpa using hj); rw [show k + 1 + j = k + (j + 1) from by omega]; simpa using this) ha.2 (hk2 env' e4 e5) e3 st.fit e2 (put_rel e1 (hTr.mono st.post.ext.le) hrel) (by rw [put_defers]; exact hd) ?_
      intro env2 s2 T2 ρ2 H2 a2 w2 k1 k2 k3 k4 k5 k6
      exact hQ env2 s2 T2 ρ2 H2 a2 w2 k1 k2 (fun j hj => (k3 j fun p hp => hj p (by simp [hp])).trans (e4 j (hj o (by simp)))) (st.trans k4) k5 k6
    have go : ∀ {Qv : AVal → Heap → Prop}, wpF (fun n => valOp P (run P X n) ops.toList o T) Qv s → (∀ v v' s1 ρ1 H1 w1, Qv v s1 → Stp σ ρ ρ1 base s s1 t H H1 w w1 → Rel σ ρ1 v v' → wpOpsIn (FR none) 0 P ops Q (List.range' (k + 1) os.length) (a.put o.dst v') w1) →
        if Region.wanted o (yielded ops a.tmps) then o.wpIn (FR none) 0 P a w (fun a w => wpOpsIn (FR none) 0 P ops Q (List.range' (k + 1) os.length) a w) Q else (∀ f, o.about P w a.eval = some f → (FR none).fn f) ∧ wpOpsIn (FR none) 0 P ops Q (List.range' (k + 1) os.length) (a.put o.dst undef) w := by
      intro Qv hw hn
      have hfr := fun n => fr_valOp P (fr_run P g.ext.1 n) ops.toList o T
      obtain ⟨n, v, H1, h1, S, h2, h3, s1, rfl, h5, hv⟩ := wpF.frame hfr hw hf.dis H hf.rel
      obtain ⟨es, d, _⟩ := hfr n H _ H1 h1
      obtain ⟨_, r2, r3⟩ := run_ok g.mixed g.nonum g.ext n
      exact valOp_ok (K := fun a w => wpOpsIn (FR none) 0 P ops Q (List.range' (k + 1) os.length) a w) r2 r3 g.nonum h1 (fr_run P g.ext.1 n) hTr hf.one hf.wr (hf.freeTo _) fun v' w1 ρ1 hp hrel => hn v v' s1 ρ1 H1 w1 hv (stp_of hf hp d h2 h5 h3) hrel
    rcases hcase with ⟨hw, h⟩ | ⟨hw, h⟩
    · rcases opW_cases h with h | ⟨c, f, hop, hce, hfn, h⟩
      · exact go (wp_val_go hw hT ha.1 h) fun v v' s1 ρ1 H1 w1 hv st hrel => next v v' _ s1 ρ1 H1 w1 (fun env' e4 _ => hkn'.forget e4) hv st hrel
      · rw [wanted_rel hw hTr]
        simp only [if_true]
        have hoo := okOp_all ha.1 (by rw [hop]; intro t g; simp)
        rw [hop] at hoo
        have hargs : c.args.toList.all okX = true := List.all_eq_true.2 fun x hx => List.all_eq_true.1 hoo x (by
          show x ∈ c.operands.toList
          unfold Call.operands; simp only [Array.toList_append, List.mem_append]; exact .inr hx)
        have hopA : opA P T o.op H = some (.enter f (c.args.toList.map (evD env)), H) := by
          rw [hop]
          show callA P T c H = _
          unfold callA
          rw [evs_of hT hargs]
          simp only [hce, ev, List.nil_append, List.append_nil]
          unfold goA
          rw [hfn]; rfl
        have hnd : ∀ c, o.op ≠ .defer c := fun c e => by rw [hop] at e; cases e
        obtain ⟨nx, w1, ρ1, e1, x1, x2, x3, x4⟩ := op_ok (P := P) (a := a) g.nonum hopA hTr hf.one hf.wr (hf.freeTo _)
        obtain ⟨args', rfl, hra⟩ := x4
        refine ⟨wide_about, ?_⟩
        rw [Oper.semAt_eq _ _ _ hnd, e1]
        have hf1 : Fit σ ρ1 base s t H w1 := ⟨hf.one, hf.rel, x2, fun id hid => by rw [x1.out id (.inr hid)]; exact hf.free id hid, hf.dis⟩
        have st0 : Stp σ ρ ρ1 base s s t H H w w1 := ⟨⟨x1, x2, x3⟩, Nat.le_refl _, rfl, .refl _, hf1⟩
        refine ⟨fun h => by simp [FR, Fence.wide] at h, ?_⟩
        have h5 : CallsIn (FR none) 0 P f args' w1 _ := h g t σ ρ1 base H w1 args' hf1 hra
        refine h5.mono ?_
        rintro e w2 ⟨v, v', s2, ρ2, H2, rfl, hv, st, hk⟩
        exact next v v' _ s2 ρ2 H2 w2 (fun env' e4 _ => hkn'.forget e4) hk (st0.trans st) hv
    · exact go (wp_val_skip (s := s) (Q := fun v s' => v = .undef ∧ s' = s) hw ⟨rfl, rfl⟩) fun v v' s1 ρ1 H1 w1 hv st hrel => by
        obtain ⟨rfl, rfl⟩ := hv
        exact next .undef v' _ s1 ρ1 H1 w1 (fun env' e4 e5 => hkn'.mark e4 fun d hd => e5 d hd) h st hrel
end Go.AM
namespace Go.AM
open Go Go.RowKit
variable {σ : Nat → Value} {ρ ρ' ρ1 ρ2 : Ren} {base nt : Nat} {s s' s1 s2 t : Heap} {H H' H1 H2 : AHeap} {w w' w1 w2 : World} {P : Program} {X : Told} {A : Nat → List Nat} {W : List Nat}
/-- a range over a map: in whatever order (the iterator is hidden; its mark says which entries were seen) -/
def mapLoopW (st : MapStep) (ls slots : List Nat) (body : Env → (AExit → Env → Heap → Prop) → Heap → Prop) (env : Env) (K : AExit → Env → Heap → Prop) (s : Heap) : Prop :=
  optK (iterOf s (env st.it)) fun p => ∃ I : List Nat → List AVal → Heap → Prop, I [] (ls.map env) (hdel s p.1) ∧
    ∀ (sn : List Nat) (f : Env) (s1 : Heap), I sn (ls.map f) s1 → s1 p.1 = none → MapIt s1 p.2.1 p.2.2.2.1 p.2.2.2.2 ∧
      (∀ e ∈ p.2.2.2.2, hasN e.born sn = false → body (turnE st (mixE slots f env) e) (fun ex env' s2 => match ex with
        | .nrm => I (sn ++ [e.born]) (ls.map env') (hdel s2 p.1)
        | ex => K ex env' (hdel s2 p.1)) (hset s1 p.1 (true, .iter p.2.1 p.2.2.1 (sn ++ [e.born]) p.2.2.2.1))) ∧
      ((∀ e ∈ p.2.2.2.2, hasN e.born sn = true) → body (doneE st (mixE slots f env)) (fun ex env' s2 => match ex with
        | .nrm => False
        | ex => K ex env' s2) s1)
def mapOkW (nt : Nat) (st : MapStep) (slots : List Nat) : Bool := (!memN st.it slots) && ((memN st.nx slots && memN st.more slots) && (Nat.blt st.nx nt && Nat.blt st.more nt))
def wpCW (P : Program) (X : Told) (W : List Nat) (A : Nat → List Nat) (nt : Nat) : Code → Env → (AExit → Env → Heap → Prop) → Heap → Prop
  | .skip, env, K, s => K .nrm env s
  | .region id ops draw, env, K, s => cond draw (wpC P X A nt none (.region id ops true) env K s)
      (cond ((ops.toList.all fun o => okOp o.op) && (deferOf ops.toList).isNone) (opsW P X W nt ops.toList ops.toList [] env (fun env s => K .nrm env s) s) False)
  | .seq a b, env, K, s => wpCW P X W A nt a env (fun e env s => match e with
      | .nrm => wpCW P X W A nt b env K s
      | e => K e env s) s
  | .cond c a b, env, K, s => cond (okX c) (boolK (evD env c) (wpCW P X W A nt a env K s) (wpCW P X W A nt b env K s)) False
  | .block id b, env, K, s => wpCW P X W A nt b env (fun e env s => match e with
      | .exit id' => cond (Nat.beq id' id) (K .nrm env s) (K (.exit id') env s)
      | e => K e env s) s
  | .loop b, env, K, s => match mapStep b with
    | some st => cond (mapOkW nt st (assigned b)) (mapLoopW st (A (2 * firstR b)) (assigned b) (match b with
      | .seq _ r => fun env K s => wpCW P X W A nt r env K s
      | _ => fun _ _ _ => False) env K s) False
    | none => loopK (A (2 * firstR b)) (assigned b) (fun env K s => wpCW P X W A nt b env K s) env K s
  | .exit id, env, K, s => K (.exit id) env s
  | .ret, env, K, s => K .ret env s
  | _, _, _, _ => False
def CodeW (P : Program) (X : Told) (W : List Nat) (A : Nat → List Nat) (nt : Nat) (c : Code) : Prop := ∀ (env : Env) (K : AExit → Env → Heap → Prop) (s : Heap), wpCW P X W A nt c env K s → CW P X nt c env K s
theorem regionW {id : Nat} {ops : Array Oper} {draw : Bool} : CodeW P X W A nt (.region id ops draw) := by
  intro env K s h
  unfold wpCW at h
  cases draw with
  | true =>
    rw [cond_true] at h
    exact CW.lift rfl h
  | false =>
    rw [cond_false] at h
    cases hok : ((ops.toList.all fun o => okOp o.op) && (deferOf ops.toList).isNone) with
    | false => rw [hok] at h; exact h.elim
    | true =>
      rw [hok, cond_true] at h
      obtain ⟨hok, hdn⟩ := Bool.and_eq_true_iff.1 hok
      intro g t σ ρ base H w T a Q hf hT hTr hd hQ
      refine wpIn_region ?_
      rw [range_eq]
      have := opsW_ok (W := W) (ops := ops) (Q := Q) (K := fun env s => K .nrm env s) g ops.toList 0 [] env s ρ H w T a (fun j _ => by simp) hok .nil h hf hT hTr hd fun env' s' T' ρ' H' a' w' k1 k2 k3 k4 k5 k6 =>
        hQ .nrm env' s' T' ρ' H' a' w' k1 k2 (fun j hj => k3 j fun o ho hd => hj (dstsOf_mem ho hd)) k4 k5 k6
      simpa using this
theorem seqW {a b : Code} (ha : CodeW P X W A nt a) (hb : CodeW P X W A nt b) : CodeW P X W A nt (.seq a b) := by
  intro env K s h g t σ ρ base H w T ac Q hf hT hTr hd hQ
  unfold wpCW at h
  refine wpIn_seq (ha env _ s h g t σ ρ base H w T ac _ hf hT hTr hd fun e env1 s1 T1 ρ1 H1 a1 w1 k1 k2 k3 k4 k5 k6 => ?_)
  cases e with
  | nrm =>
    refine hb env1 K s1 k1 g t σ ρ1 base H1 w1 T1 a1 Q k4.fit k2 k5 k6 fun e env2 s2 T2 ρ2 H2 a2 w2 j1 j2 j3 j4 j5 j6 => ?_
    exact hQ e env2 s2 T2 ρ2 H2 a2 w2 j1 j2 (fun j hj => by simp only [assigned, List.mem_append, not_or] at hj; exact (j3 j hj.2).trans (k3 j hj.1)) (k4.trans j4) j5 j6
  | exit id => exact hQ _ env1 s1 T1 ρ1 H1 a1 w1 k1 k2 (fun j hj => by simp only [assigned, List.mem_append, not_or] at hj; exact k3 j hj.1) k4 k5 k6
  | ret => exact hQ _ env1 s1 T1 ρ1 H1 a1 w1 k1 k2 (fun j hj => by simp only [assigned, List.mem_append, not_or] at hj; exact k3 j hj.1) k4 k5 k6
theorem condW {c : Operand} {a b : Code} (ha : CodeW P X W A nt a) (hb : CodeW P X W A nt b) : CodeW P X W A nt (.cond c a b) := by
  intro env K s h g t σ ρ base H w T ac Q hf hT hTr hd hQ
  unfold wpCW at h
  cases hok : okX c with
  | false => rw [hok] at h; exact h.elim
  | true =>
    rw [hok, cond_true] at h
    have hv := ev_rel (a := ac) (ev_of hT hok) hTr
    unfold boolK at h
    split at h
    · rename_i e
      rw [e] at hv
      unfold Rel at hv
      exact wpIn_cond hv (ha env K s h g t σ ρ base H w T ac Q hf hT hTr hd fun e env1 s1 T1 ρ1 H1 a1 w1 k1 k2 k3 k4 k5 k6 => hQ e env1 s1 T1 ρ1 H1 a1 w1 k1 k2 (fun j hj => k3 j fun q => hj (by simp [assigned, q])) k4 k5 k6)
    · rename_i e
      rw [e] at hv
      unfold Rel at hv
      exact wpIn_cond hv (hb env K s h g t σ ρ base H w T ac Q hf hT hTr hd fun e env1 s1 T1 ρ1 H1 a1 w1 k1 k2 k3 k4 k5 k6 => hQ e env1 s1 T1 ρ1 H1 a1 w1 k1 k2 (fun j hj => k3 j fun q => hj (by simp [assigned, q])) k4 k5 k6)
    · exact h.elim
theorem blockW {id : Nat} {b : Code} (hb : CodeW P X W A nt b) : CodeW P X W A nt (.block id b) := by
  intro env K s h g t σ ρ base H w T ac Q hf hT hTr hd hQ
  unfold wpCW at h
  refine wpIn_block (hb env _ s h g t σ ρ base H w T ac _ hf hT hTr hd fun e env1 s1 T1 ρ1 H1 a1 w1 k1 k2 k3 k4 k5 k6 => ?_)
  cases e with
  | exit id' =>
    simp only at k1
    cases hb : Nat.beq id' id with
    | true =>
      rw [hb] at k1
      have e := Nat.eq_of_beq_eq_true hb
      show (if id' = id then _ else _)
      rw [if_pos e]
      exact hQ .nrm env1 s1 T1 ρ1 H1 a1 w1 k1 k2 k3 k4 k5 k6
    | false =>
      rw [hb] at k1
      have e : id' ≠ id := fun e => by subst e; simp at hb
      show (if id' = id then _ else _)
      rw [if_neg e]
      exact hQ (.exit id') env1 s1 T1 ρ1 H1 a1 w1 k1 k2 k3 k4 k5 k6
  | nrm => exact hQ .nrm env1 s1 T1 ρ1 H1 a1 w1 k1 k2 k3 k4 k5 k6
  | ret => exact hQ .ret env1 s1 T1 ρ1 H1 a1 w1 k1 k2 k3 k4 k5 k6
theorem stayW {c : Code} {e : AExit} (hc : ∀ (Q : Exit → Act → World → Prop) (a : Act) (w : World), Q (exitE e) a w → c.wpIn (FR none) 0 P Q a w) {env : Env} {K : AExit → Env → Heap → Prop} {s : Heap} (h : K e env s) : CW P X nt c env K s :=
  fun _ _ _ ρ _ H w T a Q hf hT hTr hd hQ => hc Q a w (hQ e env s T ρ H a w h hT (fun _ _ => rfl) (.refl hf) hTr hd)
/-- a loop -/
theorem loopNW {b : Code} (hb : CodeW P X W A nt b) {ls : List Nat} {env : Env} {K : AExit → Env → Heap → Prop} {s : Heap} (h : loopK ls (assigned b) (fun env K s => wpCW P X W A nt b env K s) env K s) : CW P X nt (.loop b) env K s := by
  intro g t σ ρ base H w T a Q hf hT hTr hd hQ
  obtain ⟨I, ⟨m, h0⟩, hstep⟩ := h
  refine wpIn_loop_rounds (m + 1) ?_
  have key : ∀ (k m : Nat) (env1 : Env) (s1 : Heap) (T1 : Tmps) (ρ1 : Ren) (H1 : AHeap) (a1 : Act) (w1 : World), m < k → I (ls.map env1) s1 m → TR T1 env1 → (∀ j, j ∉ assigned b → env1 j = env j) → Stp σ ρ ρ1 base s s1 t H H1 w w1 → TRel σ ρ1 nt T1 a1.tmps → a1.defers = [] → Code.roundsIn (FR none) 0 P b Q k a1 w1 := by
    intro k
    induction k with
    | zero => intro m env1 s1 T1 ρ1 H1 a1 w1 hm; omega
    | succ k ih =>
      intro m env1 s1 T1 ρ1 H1 a1 w1 hm hI hT1 hoff st hTr1 hd1
      rw [roundsIn_succ]
      have hbody := hstep env1 s1 m hI
      have hmix : mixE (assigned b) env1 env = env1 := by
        funext j
        unfold mixE
        cases hj : memN j (assigned b) with
        | true => rfl
        | false => exact (hoff j fun q => by rw [memN_iff.2 q] at hj; cases hj).symm
      rw [hmix] at hbody
      refine hb env1 _ s1 hbody g t σ ρ1 base H1 w1 T1 a1 _ st.fit hT1 hTr1 hd1 fun e env2 s2 T2 ρ2 H2 a2 w2 k1 k2 k3 k4 k5 k6 => ?_
      have hoff2 : ∀ j, j ∉ assigned b → env2 j = env j := fun j hj => (k3 j hj).trans (hoff j hj)
      cases e with
      | nrm =>
        obtain ⟨m', hlt, hI'⟩ := k1
        exact ih m' env2 s2 T2 ρ2 H2 a2 w2 (by omega) hI' k2 hoff2 (st.trans k4) k5 k6
      | exit id => exact hQ _ env2 s2 T2 ρ2 H2 a2 w2 k1 k2 hoff2 (st.trans k4) k5 k6
      | ret => exact hQ _ env2 s2 T2 ρ2 H2 a2 w2 k1 k2 hoff2 (st.trans k4) k5 k6
  exact key (m + 1) m env s T ρ H a w (Nat.lt_succ_self _) h0 hT (fun _ _ => rfl) (.refl hf) hTr hd
theorem leftE_all {seen : List Nat} : ∀ {es : List AEnt}, leftE seen es = [] → ∀ e ∈ es, hasN e.born seen = true
  | x :: es, h, e, he => by
    unfold leftE at h
    cases c : hasN x.born seen with
    | false => rw [c] at h; cases h
    | true =>
      rw [c] at h
      rcases List.mem_cons.1 he with rfl | he
      · exact c
      · exact leftE_all h e he
theorem headW {s0 : Heap} {r stp : Nat} {mo : Option Nat} {since c : Nat} {sn : List Nat} {es : List AEnt} (hrel : HRel s0 H) (hit : H.blks.get r = some (.iter mo since sn stp)) (hst : since ≤ stp) (hmap : MapIt s0 mo c es) (hold : allOld since es = true) :
    ∃ d H1, headA (.ptr r 0) H = some ((d, leftE sn es), H1) ∧ d.b = r ∧ ∀ m, mo = some m → d.m = m ∧ d.since = since ∧ d.seen = sn ∧ d.clock = c := by
  cases mo with
  | none =>
    have hmap : es = [] := hmap
    subst hmap
    refine ⟨⟨r, 0, 0, [], 0⟩, { H with log := [(r, false)] ++ H.log }, ?_, rfl, fun m e => by cases e⟩
    show bd (rd r) _ H = _
    unfold bd rd
    rw [hit]
    rfl
  | some m =>
    obtain ⟨tg, hm⟩ := hmap
    obtain ⟨_, ab, g1, g2⟩ := hrel.at_ m tg _ hm
    cases ab <;> first | exact g2.elim | skip
    obtain ⟨rfl, rfl⟩ := g2
    refine ⟨⟨r, m, since, sn, c⟩, { H with log := [(m, false), (r, false)] ++ H.log }, ?_, rfl, fun m' e => by cases e; exact ⟨rfl, rfl, rfl, rfl⟩⟩
    show bd (rd r) _ H = _
    unfold bd rd
    rw [hit]
    simp only
    rw [g1]
    simp only [Nat.ble_eq_true_of_le hst, hold, Bool.and_self, cond_true]
    rfl
theorem MapIt.add {s0 : Heap} {mo : Option Nat} {c : Nat} {es : List AEnt} (h : MapIt s0 mo c es) (t : Heap) : MapIt (add s0 t) mo c es := by
  cases mo with
  | none => exact h
  | some m => obtain ⟨tg, hm⟩ := h; exact ⟨tg, add_some hm⟩
theorem mapLoopW_ok {b : Code} {st : MapStep} (hms : mapStep b = some st) (hb : CodeW P X W A nt st.rest) (hok : mapOkW nt st (assigned b) = true) {ls : List Nat} {env : Env} {K : AExit → Env → Heap → Prop} {s : Heap}
    (h : mapLoopW st ls (assigned b) (fun env K s => wpCW P X W A nt st.rest env K s) env K s) : CW P X nt (.loop b) env K s := by
  intro g t σ ρ base H w T a Q hf hT hTr hd hQ
  unfold mapOkW at hok
  simp only [Bool.and_eq_true, Bool.not_eq_true'] at hok
  obtain ⟨hits, ⟨k3, k4⟩, k5, k6⟩ := hok
  obtain ⟨p, hp, I, hI0, hstep⟩ := optK_some h
  obtain ⟨r, mo, since, c, es⟩ := p
  simp only at hI0 hstep
  obtain ⟨hit, stepped, q1, q2, q3, q4, _, _⟩ := iterOf_some hp
  obtain ⟨b0, hseq⟩ := mapStep_seq hms
  have hsub : ∀ j, memN j (assigned b) = false → j ∉ assigned st.rest ∧ Nat.beq j st.nx = false ∧ Nat.beq j st.more = false := fun j hj => by
    refine ⟨fun hm => ?_, ?_, ?_⟩
    · rw [hseq] at hj
      have : memN j (assigned b0 ++ assigned st.rest) = true := memN_iff.2 (List.mem_append_right _ hm)
      rw [show assigned (.seq b0 st.rest) = assigned b0 ++ assigned st.rest from rfl] at hj
      rw [hj] at this; cases this
    · cases e : Nat.beq j st.nx with
      | false => rfl
      | true => rw [Nat.eq_of_beq_eq_true e, k3] at hj; cases hj
    · cases e : Nat.beq j st.more with
      | false => rfl
      | true => rw [Nat.eq_of_beq_eq_true e, k4] at hj; cases hj
  have hmix : ∀ env1, Off (assigned b) env env1 → mixE (assigned b) env1 env = env1 := fun env1 ho => by
    funext j
    unfold mixE
    cases hj : memN j (assigned b) with
    | true => rfl
    | false => exact (ho j hj).symm
  have offs : ∀ {env1 env' : Env} {v u : AVal}, Off (assigned b) env env1 → (∀ j, j ∉ assigned st.rest → env' j = upd (upd env1 st.nx v) st.more u j) → Off (assigned b) env env' := fun {env1 env' v u} ho hj j hm => by
    obtain ⟨z1, z2, z3⟩ := hsub j hm
    rw [hj j z1]
    unfold upd
    rw [z3, z2]
    exact ho j hm
  have toOff : ∀ {env' : Env}, Off (assigned b) env env' → ∀ j, j ∉ assigned (.loop b) → env' j = env j := fun {env'} ho j hj => by
    refine ho j ?_
    cases e : memN j (assigned b) with
    | false => rfl
    | true => exact absurd (memN_iff.1 e) hj
  have htr : t r = none := by
    cases e : t r with
    | none => rfl
    | some x => have := hf.dis r (by rw [e]; simp); rw [q1] at this; cases this
  obtain ⟨lo1, ab, g1, g2⟩ := hf.rel.at_ r false _ (add_some q1)
  cases ab <;> first | exact g2.elim | skip
  obtain ⟨rfl, rfl, rfl, rfl⟩ := g2
  have hdsub : Sub (hdel s r) s := fun i e hi => by
    unfold hdel at hi
    split at hi
    · cases hi
    · exact hi
  have hf0 : Fit σ ρ base (hdel s r) t H w := hf.sub hdsub
  -- what comes behind, for all of memory
  have hQ2 : ∀ e env' s' T' ρ' H' a' w', K e env' s' → TR T' env' → Off (assigned b) env env' → Stp σ ρ ρ' base (hdel s r) s' t H H' w w' → TRel σ ρ' nt T' a'.tmps → a'.defers = [] → Q (exitE e) a' w' := fun e env' s' T' ρ' H' a' w' j1 j2 j3 j4 j5 j6 =>
    hQ e env' s' T' ρ' H' a' w' j1 j2 (toOff j3) ⟨j4.post, j4.next, j4.lo, fun i bk hi => j4.pers i bk (by
      show (if i = r then none else s i) = _
      rw [if_neg fun q => by rw [q, q1] at hi; cases hi]; exact hi), j4.fit⟩ j5 j6
  refine wpIn_loop_rounds (es.length + 1) ?_
  have key : ∀ (k : Nat) (sn : List Nat) (env1 : Env) (s1 : Heap) (stp : Nat) (T1 : Tmps) (ρ1 : Ren) (H1 : AHeap) (a1 : Act) (w1 : World), (leftE sn es).length < k → I sn (ls.map env1) s1 → s1 r = none → H1.blks.get r = some (.iter mo since sn stp) → since ≤ stp →
      TR T1 env1 → Off (assigned b) env env1 → Stp σ ρ ρ1 base (hdel s r) s1 t H H1 w w1 → TRel σ ρ1 nt T1 a1.tmps → a1.defers = [] → Code.roundsIn (FR none) 0 P b Q k a1 w1 := by
    intro k
    induction k with
    | zero => intro sn env1 s1 stp T1 ρ1 H1 a1 w1 hk; omega
    | succ k ih =>
      intro sn env1 s1 stp T1 ρ1 H1 a1 w1 hk hI hs1 hb1 hstp hT1 hoff sp hTr1 hd1
      rw [roundsIn_succ]
      obtain ⟨hmap, hmore, hdone⟩ := hstep sn env1 s1 hI hs1
      rw [hmix env1 hoff] at hmore hdone
      obtain ⟨d, HA, z1, z2, z3⟩ := headW sp.fit.rel hb1 hstp (hmap.add t) q4
      have hx := hTr1.at_ st.it
      rw [hT1 st.it, hoff st.it hits, hit] at hx
      obtain ⟨c1, c2, c3, c4⟩ := head_ok (P := P) z1 hx sp.fit.wr
      have n1 : st.nx < nt := by simpa [Nat.blt_eq] using k5
      have n2 : st.more < nt := by simpa [Nat.blt_eq] using k6
      rcases c4 with ⟨hl, c5⟩ | ⟨e, he, e', w2, c5, c6, c7⟩
      · refine step_wp (t := false) hms (by rw [hTr1.size]; exact n1) c5 rfl ?_
        have hput : TRel σ ρ1 nt ((T1.put st.nx (some (.tup [.bool false]))).put st.more (some (.bool false))) ((a1.put (some st.nx) (.tuple #[.bool false])).put (some st.more) (.bool false)).tmps :=
          put_rel (v := .bool false) (v' := .bool false) (dst := some st.more) (T := T1.put st.nx (some (.tup [.bool false]))) (by simp only [setT]; rw [k6]; rfl)
            (put_rel (v := .tup [.bool false]) (v' := .tuple #[.bool false]) (dst := some st.nx) (T := T1) (by simp only [setT]; rw [k5]; rfl) hTr1 (by unfold Rel; exact ⟨_, rfl, .cons (by unfold Rel; rfl) .nil⟩)) (by unfold Rel; rfl)
        refine hb _ _ s1 (hdone (leftE_all hl)) g t σ ρ1 base H1 w1 _ _ _ sp.fit (tr_put (tr_put hT1 st.nx (.tup [.bool false])) st.more (.bool false)) hput (by rw [put_defers, put_defers]; exact hd1) fun ex env2 s2 T2 ρ2 H2 a2 w2 j1 j2 j3 j4 j5 j6 => ?_
        cases ex with
        | nrm => exact j1.elim
        | exit id => exact hQ2 _ env2 s2 T2 ρ2 H2 a2 w2 j1 j2 (offs hoff j3) (sp.trans j4) j5 j6
        | ret => exact hQ2 _ env2 s2 T2 ρ2 H2 a2 w2 j1 j2 (offs hoff j3) (sp.trans j4) j5 j6
      · obtain ⟨m1, m2⟩ := leftE_mem he
        obtain ⟨m, rfl⟩ : ∃ m, mo = some m := by
          cases mo with
          | none => have hmap : es = [] := hmap; rw [hmap] at m1; cases m1
          | some m => exact ⟨m, rfl⟩
        obtain ⟨dm, dsi, dse, dcl⟩ := z3 m rfl
        have hlo : H1.lo ≤ r := by rw [sp.lo]; exact lo1 rfl
        have ht : turnA d e HA = some ((), { HA with blks := HA.blks.put r (some (.iter (some m) since (sn ++ [e.born]) c)), log := (r, true) :: HA.log }) := by
          unfold turnA wr
          rw [z2, c2, Nat.ble_eq_true_of_le hlo, cond_true, c1, hb1, dm, dsi, dse, dcl]
        obtain ⟨y1, y2, y3⟩ := c7 _ () ht
        generalize hH2 : ({ HA with blks := HA.blks.put r (some (.iter (some m) since (sn ++ [e.born]) c)), log := (r, true) :: HA.log } : AHeap) = HB at y1 y2 ht
        have b1 : ∀ i, HB.blks.get i = if r = i then some (.iter (some m) since (sn ++ [e.born]) c) else H1.blks.get i := fun i => by rw [← hH2]; show (HA.blks.put r _).get i = _; rw [Tr.get_put, c1]
        have b2 : HB.lo = H1.lo := by rw [← hH2]; exact c2
        have f2 : Fit σ ρ1 base (hset s1 r (true, .iter (some m) since (sn ++ [e.born]) c)) t HB w2 := by
          refine ⟨hf.one, ⟨by rw [b2, y1]; exact sp.fit.rel.lo, fun i hi => ?_, fun i tg bk hi => ?_⟩, y2, fun id hid => sp.fit.free id (by rw [← y1]; exact hid), fun i hi => ?_⟩
          · rw [y1]
            rw [b1] at hi
            split at hi
            · rename_i q; subst q; exact sp.fit.rel.wf r (by rw [hb1]; simp)
            · exact sp.fit.rel.wf i hi
          · rw [b1, b2]
            by_cases q : i = r
            · subst q
              rw [if_pos rfl]
              rw [add_some hset_same] at hi
              cases hi
              exact ⟨(fun q => by cases q), _, rfl, rfl, rfl, rfl, rfl⟩
            · rw [if_neg (Ne.symm q)]
              refine sp.fit.rel.at_ i tg bk ?_
              rw [← hi]
              unfold add
              rw [hset_ne q]
          · have : i ≠ r := fun q => by subst q; exact hi htr
            rw [hset_ne this]
            exact sp.fit.dis i hi
        have hput : TRel σ ρ1 nt ((T1.put st.nx (some (.tup [.bool true, e.key, e.val]))).put st.more (some (.bool true))) ((a1.put (some st.nx) (.tuple #[.bool true, e'.key, e'.val])).put (some st.more) (.bool true)).tmps :=
          put_rel (v := .bool true) (v' := .bool true) (dst := some st.more) (T := T1.put st.nx (some (.tup [.bool true, e.key, e.val]))) (by simp only [setT]; rw [k6]; rfl)
            (put_rel (v := .tup [.bool true, e.key, e.val]) (v' := .tuple #[.bool true, e'.key, e'.val]) (dst := some st.nx) (T := T1) (by simp only [setT]; rw [k5]; rfl) hTr1 (by unfold Rel; exact ⟨_, rfl, .cons (by unfold Rel; rfl) (.cons c5.key (.cons c5.val .nil))⟩)) (by unfold Rel; rfl)
        refine step_wp (t := true) hms (by rw [hTr1.size]; exact n1) c6 rfl ?_
        refine hb _ _ _ (hmore e m1 m2) g t σ ρ1 base HB w2 _ _ _ f2 (tr_put (tr_put hT1 st.nx (.tup [.bool true, e.key, e.val])) st.more (.bool true)) hput (by rw [put_defers, put_defers]; exact hd1) fun ex env2 s2 T2 ρ2 H2 a2 w3 j1 j2 j3 j4 j5 j6 => ?_
        have hr2 : s2 r = some (true, .iter (some m) since (sn ++ [e.born]) c) := j4.pers r _ hset_same
        have f3 : Fit σ ρ2 base (hdel s2 r) t H2 w3 := j4.fit.sub fun i x hi => by
          unfold hdel at hi
          split at hi
          · cases hi
          · exact hi
        have sp2 : Stp σ ρ ρ2 base (hdel s r) (hdel s2 r) t H H2 w w3 := by
          have po : Post σ ρ1 ρ1 base H1 HB w1 w2 := ⟨by rw [y1]; exact .refl _ _ _, y2, y3⟩
          refine ⟨(sp.post.trans po sp.next (by rw [y1]; exact Nat.le_refl _)).trans j4.post (by rw [y1]; exact sp.next) j4.next, Nat.le_trans sp.next (by rw [← y1]; exact j4.next), j4.lo.trans (b2.trans sp.lo), fun i bk hi => ?_, f3⟩
          have hne : i ≠ r := fun q => by subst q; rw [hdel_same] at hi; cases hi
          rw [hdel_ne hne]
          refine j4.pers i bk ?_
          rw [hset_ne hne]
          exact sp.pers i bk hi
        cases ex with
        | nrm =>
          obtain ⟨_, ab, g1, g2⟩ := j4.fit.rel.at_ r true _ (add_some hr2)
          cases ab <;> first | exact g2.elim | skip
          obtain ⟨rfl, rfl, rfl, rfl⟩ := g2
          have := leftE_lt he
          exact ih (sn ++ [e.born]) env2 (hdel s2 r) c T2 ρ2 H2 a2 w3 (by omega) j1 hdel_same g1 q3 j2 (offs hoff j3) sp2 j5 j6
        | exit id => exact hQ2 _ env2 _ T2 ρ2 H2 a2 w3 j1 j2 (offs hoff j3) sp2 j5 j6
        | ret => exact hQ2 _ env2 _ T2 ρ2 H2 a2 w3 j1 j2 (offs hoff j3) sp2 j5 j6
  exact key (es.length + 1) [] env (hdel s r) stepped T ρ H a w (by rw [leftE_nil]; omega) hI0 hdel_same g1 q2 hT (fun _ _ => rfl) (.refl hf0) hTr hd
theorem code_W : ∀ c : Code, CodeW P X W A nt c
  | .skip => fun _ _ _ h => stayW (e := .nrm) (fun _ _ _ h => wpIn_skip h) h
  | .region _ _ _ => regionW
  | .seq a b => seqW (code_W a) (code_W b)
  | .cond _ a b => condW (code_W a) (code_W b)
  | .block _ b => blockW (code_W b)
  | .loop b => fun env K s h => by
    have hb := code_W b
    unfold wpCW at h
    cases hms : mapStep b with
    | none => rw [hms] at h; exact loopNW hb h
    | some st =>
      rw [hms] at h
      simp only at h
      cases hok : mapOkW nt st (assigned b) with
      | false => rw [hok] at h; exact h.elim
      | true =>
        rw [hok, cond_true] at h
        obtain ⟨a, hseq⟩ := mapStep_seq hms
        subst hseq
        exact mapLoopW_ok hms (code_W st.rest) hok h
  | .exit id => fun _ _ _ h => stayW (e := .exit id) (fun _ _ _ h => wpIn_exit h) h
  | .ret => fun _ _ _ h => stayW (e := .ret) (fun _ _ _ h => wpIn_ret h) h
  | .rangeFunc _ _ _ _ => fun _ _ _ h => h.elim
  | .scope _ => fun _ _ _ h => h.elim
  | .label _ => fun _ _ _ h => h.elim
  | .goto _ => fun _ _ _ h => h.elim
  | .refuse _ => fun _ _ _ h => h.elim
end Go.AM
namespace Go.AM
open Go Go.RowKit Go.ChangeShapes Go.WideShapes Go.ChangeAt
variable {σ : Nat → Value} {ρ ρ' ρ1 ρ2 : Ren} {base nt : Nat} {s s' s1 s2 t : Heap} {H H' H1 H2 : AHeap} {w w' w1 w2 : World} {P : Program} {X : Told} {W : List Nat}
theorem wpW_code (A : Nat → List Nat) {f : FuncId} {fn : Func} {c : Code} (hfn : P.funcs[f]? = some fn) (hb : fn.body = some c) {args : List AVal} (hl : Nat.ble args.length fn.ntmps = true) {K : AVal → Heap → Prop} {s : Heap}
    (h : wpCW P X W A fn.ntmps c (envOf args) (fun e env s => retK e (resK P fn.results.toList env (fun vs => K (oneV vs) s) s)) s) : wpW P X f args K s := by
  intro g t σ ρ base H w args' hf hr
  have hle : args.length ≤ fn.ntmps := Nat.le_of_ble_eq_true hl
  refine callsIn_of_wp_marks hfn hb trivial ?_ rfl
  refine code_W c _ _ s h g t σ ρ base H w (Tr.ofListAt .nil 0 args) { tmps := args' ++ Array.replicate (fn.ntmps - args'.size) undef, defers := [] } _ hf (tr_args args) (params_start hr hle) rfl fun e env1 s1 T1 ρ1 H1 a1 w1 k1 k2 k3 k4 k5 k6 => ?_
  have body : resK P fn.results.toList env1 (fun vs => K (oneV vs) s1) s1 → LeavesInM Fence.wide 0 P fn a1.tmps (fun e w' => ∃ v v' s' ρ' H', e = .returned v' ∧ Rel σ ρ' v v' ∧ Stp σ ρ ρ' base s s' t H H' w w' ∧ K v s') a1.defers .returning w1 := by
    intro hr
    rw [k6]
    obtain ⟨n, vs, H2, h1, s', h2, _, rfl, hK⟩ := wp_results k2 _ _ _ hr H1 (k4.fit.rel.sub fun i e hi => add_some hi)
    obtain ⟨b1, b2, b3, vs', b4, b5⟩ := results_ok (P := P) k5 k4.fit.wr _ H1 _ vs rfl rfl h1
    refine ⟨_, results_run b4, oneV vs, _, s', ρ1, H2, rfl, oneV_rel b5, ?_, hK⟩
    refine ⟨⟨by rw [b3]; exact k4.post.ext, k4.post.wr.log b1 b2, k4.post.below⟩, by rw [b3]; exact k4.next, b2.trans k4.lo, k4.pers, hf.one, k4.fit.rel.eqv b3 b2 (fun i => by rw [b1]), k4.fit.wr.log b1 b2, fun id hid => k4.fit.free id (by rw [← b3]; exact hid), k4.fit.dis⟩
  cases e with
  | exit id => exact k1.elim
  | nrm => exact body k1
  | ret => exact body k1
/-- A LAW THAT THE CALCULUS SHOWS IS A LAW OF THE PROGRAM -/
theorem law_of_wpW {H : Type} {enc : TypeId × Value → H} (hm : P.follows .mixedOrders = true) (hname : noNumB P = true) (hX : ExtOK P X) {f : FuncId} {ts : List TypeId} (d : Nat) (hp : (ts.all fun t => plainT P d t) = true)
    (h : ∀ (s : Heap) (xs : List AVal), ArgL P s d ts xs → wpW P X f xs (fun v _ => v = .bool true) s) {W : World} {base : Nat} {args : Array Value} {ds : List (DataW H)} {ps : List MemPlace}
    (hA : DataW.TrodAll enc P W 0 (fun _ => true) true ts args.toList ds ps) (hv : ∀ (j : Nat) t v, ts[j]? = some t → args[j]? = some v → Value.okWide P W .any base t v) :
    Calls P f args W fun e W' => e = .returned (.bool true) ∧ Below W.heap.size W W' := by
  have hσ : One (fun _ => Value.bool true) := fun _ => rfl
  obtain ⟨xs, C, h1, h2, h3⟩ := open_args (W := W) hσ d base ts args.toList ds ps [] (fun i x hx => by simp at hx) hp hA fun j t v hj hj' => hv j t v hj (by simpa using hj')
  rw [List.nil_append] at h1 h2 h3
  have e0 : add (heapB C) (fun _ => none) = heapB C := by funext i; unfold add; cases heapB C i <;> rfl
  have hfit : Fit (fun _ => Value.bool true) (rhoB C) W.heap.size (heapB C) (fun _ => none) (memB C) W := by
    refine ⟨hσ, by rw [e0]; exact memB_h C h1, memB_wr C h1, fun id hlo => ?_, fun i hi => absurd rfl hi⟩
    cases id with
    | zero => exact absurd hlo (by show ¬ C.length + 1 ≤ 0; omega)
    | succ i =>
      have : C.length + 1 ≤ i + 1 := hlo
      unfold rhoB
      simp only
      rw [List.getElem?_eq_none (by omega)]
  refine callsIn_wide.1 ((h (heapB C) xs h3 ⟨hm, noNum_of hname, hX⟩ _ _ _ _ _ W args hfit h2).mono ?_)
  rintro e W' ⟨v, v', s', ρ', H', rfl, hr, st, rfl⟩
  unfold Rel at hr
  subst hr
  exact ⟨rfl, st.post.below⟩
end Go.AM
