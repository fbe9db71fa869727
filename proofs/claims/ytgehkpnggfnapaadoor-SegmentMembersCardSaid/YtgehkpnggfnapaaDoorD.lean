/- Part D of a calculus over a small memory that is proved to answer as the program does, and of its use for the functions that the law reaches: see the last part. -/
import Derived.Test.YtgehkpnggfnapaaDoorU2
import Derived.Test.YtgehkpnggfnapaaDoorV
namespace Go.AM.SG
/-! ### stable sorting: plain law -/
abbrev Cd := Int × Int
def Srt (l : List Cd) : Prop := l.Pairwise fun u v => u.1 ≤ v.1
def fk (x : Int) (l : List Cd) : List Cd := l.filter fun c => decide (c.1 = x)
/-- the same elements, and those with the same key in the same order -/
def Stb (l l' : List Cd) : Prop := ∀ x, fk x l' = fk x l
theorem fk_app {x : Int} {l m : List Cd} : fk x (l ++ m) = fk x l ++ fk x m := List.filter_append ..
theorem Stb.refl (l : List Cd) : Stb l l := fun _ => rfl
theorem Stb.trans {l m n : List Cd} (h : Stb l m) (h' : Stb m n) : Stb l n := fun x => (h' x).trans (h x)
theorem Stb.app {l l' m m' : List Cd} (h : Stb l l') (h' : Stb m m') : Stb (l ++ m) (l' ++ m') := fun x => by rw [fk_app, fk_app, h x, h' x]
theorem fk_mem {x : Int} {l : List Cd} {c : Cd} : c ∈ fk x l ↔ c ∈ l ∧ c.1 = x := by unfold fk; rw [List.mem_filter, decide_eq_true_eq]
theorem Stb.mem {l l' : List Cd} (h : Stb l l') {c : Cd} : c ∈ l' ↔ c ∈ l := by
  have h1 : c ∈ fk c.1 l' ↔ c ∈ fk c.1 l := by rw [h c.1]
  rw [fk_mem, fk_mem] at h1
  simpa using h1
theorem fk_none {x : Int} {l : List Cd} (h : ∀ c ∈ l, c.1 ≠ x) : fk x l = [] := by
  unfold fk
  exact List.filter_eq_nil_iff.2 fun c hc => by simpa using h c hc
theorem Stb.swap {U V : List Cd} (h : ∀ u ∈ U, ∀ v ∈ V, v.1 < u.1) : Stb (U ++ V) (V ++ U) := fun x => by
  rw [fk_app, fk_app]
  by_cases q : ∃ u ∈ U, u.1 = x
  · obtain ⟨u, hu, rfl⟩ := q
    rw [fk_none (l := V) fun v hv => by have := h u hu v hv; omega]
    simp
  · rw [fk_none (l := U) fun u hu e => q ⟨u, hu, e⟩]
    simp
theorem Srt.app {l m : List Cd} (h : Srt l) (h' : Srt m) (hlm : ∀ u ∈ l, ∀ v ∈ m, u.1 ≤ v.1) : Srt (l ++ m) := List.pairwise_append.2 ⟨h, h', hlm⟩
theorem Srt.parts {l m : List Cd} (h : Srt (l ++ m)) : Srt l ∧ Srt m ∧ ∀ u ∈ l, ∀ v ∈ m, u.1 ≤ v.1 := List.pairwise_append.1 h
/-- what merging leaves -/
structure Mrg (X Y Z : List Cd) : Prop where
  srt : Srt Z
  stb : Stb (X ++ Y) Z
  len : Z.length = X.length + Y.length
theorem Mrg.nil_l {Y : List Cd} (h : Srt Y) : Mrg [] Y Y := ⟨h, .refl _, by simp⟩
theorem Mrg.nil_r {X : List Cd} (h : Srt X) : Mrg X [] X := ⟨h, by rw [List.append_nil]; exact .refl _, by simp⟩
/-- the two halves of a symmetric merge -/
theorem Mrg.halves {A U V B Z W : List Cd} (hX : Srt (A ++ U)) (hY : Srt (V ++ B)) (h1 : ∀ a ∈ A, ∀ b ∈ B, a.1 ≤ b.1) (h2 : ∀ u ∈ U, ∀ v ∈ V, v.1 < u.1) (hZ : Mrg A V Z) (hW : Mrg U B W) : Mrg (A ++ U) (V ++ B) (Z ++ W) := by
  obtain ⟨_, _, x3⟩ := hX.parts
  obtain ⟨_, _, y3⟩ := hY.parts
  refine ⟨hZ.srt.app hW.srt fun z hz w hw => ?_, ?_, ?_⟩
  · have hz := hZ.stb.mem.1 hz
    have hw := hW.stb.mem.1 hw
    rcases List.mem_append.1 hz with p | p <;> rcases List.mem_append.1 hw with q | q
    · exact x3 z p w q
    · exact h1 z p w q
    · have := h2 w q z p; omega
    · exact y3 z p w q
  · have e1 : Stb (A ++ U ++ (V ++ B)) (A ++ V ++ (U ++ B)) := by
      have := ((Stb.refl A).app (Stb.swap h2)).app (Stb.refl B)
      simpa [List.append_assoc] using this
    exact e1.trans (hZ.stb.app hW.stb)
  · rw [List.length_append, List.length_append, List.length_append, hZ.len, hW.len]
    omega
/-- the first one goes between the smaller ones and the others -/
theorem Mrg.one_l {a : Cd} {V B : List Cd} (hY : Srt (V ++ B)) (h1 : ∀ v ∈ V, v.1 < a.1) (h2 : ∀ b ∈ B, a.1 ≤ b.1) : Mrg [a] (V ++ B) (V ++ (a :: B)) := by
  have hs : Srt ([] ++ [a]) := by unfold Srt; simp
  have hb : Srt B := hY.parts.2.1
  have := Mrg.halves (A := []) (U := [a]) (V := V) (B := B) (Z := V) (W := a :: B) hs hY (fun a h => by cases h) (fun u hu v hv => by rw [List.mem_singleton] at hu; rw [hu]; exact h1 v hv) (Mrg.nil_l hY.parts.1) ⟨?_, Stb.refl _, by simp; omega⟩
  · exact this
  · exact List.pairwise_cons.2 ⟨h2, hb⟩
/-- the last one goes behind those that are not greater -/
theorem Mrg.one_r {y : Cd} {A U : List Cd} (hX : Srt (A ++ U)) (h1 : ∀ a ∈ A, a.1 ≤ y.1) (h2 : ∀ u ∈ U, y.1 < u.1) : Mrg (A ++ U) [y] (A ++ (y :: U)) := by
  have hs : Srt ([y] ++ []) := by unfold Srt; simp
  have := Mrg.halves (A := A) (U := U) (V := [y]) (B := []) (Z := A ++ [y]) (W := U) hX hs (fun a _ b h => by cases h) (fun u hu v hv => by rw [List.mem_singleton] at hv; rw [hv]; exact h2 u hu) ⟨hX.parts.1.app (by unfold Srt; simp) fun u hu v hv => by rw [List.mem_singleton] at hv; rw [hv]; exact h1 u hu, Stb.refl _, by simp⟩ (Mrg.nil_r hX.parts.2.1)
  simpa [List.append_assoc] using this
/-! ### one of each key -/
def Sct (l : List Cd) : Prop := l.Pairwise fun u v => u.1 < v.1
/-- the first ones of their keys, strictly ascending -/
structure Fst1 (l o : List Cd) : Prop where
  srt : Sct o
  mem : ∀ c, c ∈ o ↔ (fk c.1 l).head? = some c
theorem sct_same {l m : List Cd} (hl : Sct l) (hm : Sct m) (h : ∀ c, c ∈ l ↔ c ∈ m) : l = m := by
  have nl : l.Nodup := List.Pairwise.imp (fun {a b} h e => by rw [e] at h; omega) hl
  have nm : m.Nodup := List.Pairwise.imp (fun {a b} h e => by rw [e] at h; omega) hm
  exact List.Perm.eq_of_pairwise (le := fun a b : Cd => a.1 < b.1) (fun a b _ _ h1 h2 => by omega) hl hm ((List.perm_ext_iff_of_nodup nl nm).2 h)
theorem Fst1.same {l l' o o' : List Cd} (h : Fst1 l o) (h' : Fst1 l' o') (s : Stb l l') : o = o' :=
  sct_same h.srt h'.srt fun c => by rw [h.mem, h'.mem, s c.1]
end Go.AM.SG
namespace Go.AM.SG
/-! ### compaction of a sorted list; insertion one by one -/
theorem fk_cons {x : Int} {a : Cd} {l : List Cd} : fk x (a :: l) = if a.1 = x then a :: fk x l else fk x l := by
  unfold fk
  rw [List.filter_cons]
  by_cases h : a.1 = x
  · simp [h]
  · simp [h]
/-- how many have smaller keys -/
def rnk (o : List Cd) (x : Int) : Nat := o.countP fun c => decide (c.1 < x)
def putL (o : List Cd) (c : Cd) : List Cd := if ∃ d ∈ o, d.1 = c.1 then o else o.take (rnk o c.1) ++ c :: o.drop (rnk o c.1)
theorem rnk_split : ∀ {o : List Cd} {x : Int}, Sct o → (∀ d ∈ o.take (rnk o x), d.1 < x) ∧ ∀ d ∈ o.drop (rnk o x), x ≤ d.1
  | [], _, _ => by simp
  | a :: o, x, h => by
    obtain ⟨h1, h2⟩ := List.pairwise_cons.1 h
    have ih := rnk_split (x := x) h2
    by_cases q : a.1 < x
    · have e : rnk (a :: o) x = rnk o x + 1 := by unfold rnk; rw [List.countP_cons, if_pos (by simpa using q)]
      rw [e, List.take_succ_cons, List.drop_succ_cons]
      exact ⟨fun d hd => by
        rcases List.mem_cons.1 hd with r | r
        · rw [r]; exact q
        · exact ih.1 d r, ih.2⟩
    · have e : rnk (a :: o) x = 0 := by
        unfold rnk
        rw [List.countP_eq_zero]
        intro d hd
        rcases List.mem_cons.1 hd with r | r
        · rw [r]; simpa using q
        · have := h1 d r; simp; omega
      rw [e]
      exact ⟨by simp, fun d hd => by
        rcases List.mem_cons.1 hd with r | r
        · rw [r]; omega
        · have := h1 d r; omega⟩
theorem putL_ok {l o : List Cd} {c : Cd} (h : Fst1 l o) : Fst1 (l ++ [c]) (putL o c) := by
  have hf : ∀ x, fk x (l ++ [c]) = fk x l ++ (if c.1 = x then [c] else []) := fun x => by
    rw [fk_app, fk_cons]
    congr 1
  have keep : ∀ x, (∃ d ∈ o, d.1 = x) → (fk x (l ++ [c])).head? = (fk x l).head? := fun x ⟨d, hd, e⟩ => by
    have := (h.mem d).1 hd
    rw [e] at this
    rw [hf]
    cases hl : fk x l with
    | nil => rw [hl] at this; cases this
    | cons a r => rfl
  have none_ : ∀ x, (¬ ∃ d ∈ o, d.1 = x) → fk x l = [] := fun x hx => by
    cases hl : fk x l with
    | nil => rfl
    | cons a r =>
      have ha : a.1 = x := (fk_mem.1 (by rw [hl]; simp : a ∈ fk x l)).2
      exact absurd ⟨a, (h.mem a).2 (by rw [ha, hl]; rfl), ha⟩ hx
  unfold putL
  by_cases q : ∃ d ∈ o, d.1 = c.1
  · rw [if_pos q]
    refine ⟨h.srt, fun d => ?_⟩
    rw [h.mem]
    by_cases e : ∃ y ∈ o, y.1 = d.1
    · rw [keep _ e]
    · have hc : ¬ c.1 = d.1 := fun r => e (by rw [← r]; exact q)
      rw [hf, if_neg hc, List.append_nil]
  · rw [if_neg q]
    obtain ⟨k1, k2⟩ := rnk_split (x := c.1) h.srt
    have hs := h.srt
    rw [← List.take_append_drop (rnk o c.1) o] at hs
    obtain ⟨s1, s2, s3⟩ := List.pairwise_append.1 hs
    have k2' : ∀ d ∈ o.drop (rnk o c.1), c.1 < d.1 := fun d hd => by
      have := k2 d hd
      have hne : d.1 ≠ c.1 := fun e => q ⟨d, List.mem_of_mem_drop hd, e⟩
      omega
    refine ⟨List.pairwise_append.2 ⟨s1, List.pairwise_cons.2 ⟨k2', s2⟩, fun u hu v hv => ?_⟩, fun d => ?_⟩
    · rcases List.mem_cons.1 hv with r | r
      · rw [r]; exact k1 u hu
      · exact s3 u hu v r
    · have m : d ∈ o.take (rnk o c.1) ++ c :: o.drop (rnk o c.1) ↔ d = c ∨ d ∈ o := by
        have : d ∈ o ↔ d ∈ o.take (rnk o c.1) ∨ d ∈ o.drop (rnk o c.1) := by rw [← List.mem_append, List.take_append_drop]
        rw [List.mem_append, List.mem_cons, this]
        constructor
        · rintro (h | h | h)
          · exact .inr (.inl h)
          · exact .inl h
          · exact .inr (.inr h)
        · rintro (h | h | h)
          · exact .inr (.inl h)
          · exact .inl h
          · exact .inr (.inr h)
      rw [m, hf]
      by_cases e : c.1 = d.1
      · rw [if_pos e, none_ d.1 (by rw [← e]; exact q), List.nil_append, List.head?_cons]
        constructor
        · rintro (h | h)
          · rw [h]
          · exact absurd ⟨d, h, e.symm⟩ q
        · intro h
          exact .inl (Option.some.inj h).symm
      · rw [if_neg e, List.append_nil, ← h.mem d]
        exact ⟨fun h => h.elim (fun h => absurd (by rw [h]) e) id, .inr⟩
def putAll (l : List Cd) : List Cd := l.foldl putL []
theorem putAll_ok (l : List Cd) : Fst1 l (putAll l) := by
  have : ∀ (m p o : List Cd), Fst1 p o → Fst1 (p ++ m) (m.foldl putL o) := by
    intro m
    induction m with
    | nil => intro p o h; rw [List.append_nil]; exact h
    | cons c m ih =>
      intro p o h
      have := ih (p ++ [c]) (putL o c) (putL_ok h)
      rw [List.append_assoc] at this
      exact this
  exact this l [] [] ⟨List.Pairwise.nil, fun c => by simp [fk]⟩
end Go.AM.SG
namespace Go.AM.SG
/-! ### exchanges and rotations of lists -/
def cAt (l : List Cd) (j : Nat) : Cd := l.getD j (0, 0)
def swpC (l : List Cd) (i j : Nat) : List Cd := (l.set i (cAt l j)).set j (cAt l i)
theorem swpC_len {l : List Cd} {i j : Nat} : (swpC l i j).length = l.length := by simp [swpC]
theorem cAt_get {l : List Cd} {j : Nat} (h : j < l.length) : cAt l j = l[j] := by simp [cAt, h]
theorem cAt_set {l : List Cd} {i j : Nat} {x : Cd} (hi : i < l.length) : cAt (l.set i x) j = if j = i then x else cAt l j := by
  unfold cAt
  rw [List.getD_eq_getElem?_getD, List.getElem?_set, List.getD_eq_getElem?_getD]
  by_cases h : j = i
  · subst h; simp [hi]
  · rw [if_neg (Ne.symm h), if_neg h]
theorem cAt_swp {l : List Cd} {i j k : Nat} (hi : i < l.length) (hj : j < l.length) : cAt (swpC l i j) k = if k = j then cAt l i else if k = i then cAt l j else cAt l k := by
  unfold swpC
  rw [cAt_set (by simpa using hj), cAt_set hi]
theorem list_ext {l m : List Cd} (hl : l.length = m.length) (h : ∀ k, k < l.length → cAt l k = cAt m k) : l = m := by
  refine List.ext_getElem hl fun k h1 h2 => ?_
  rw [← cAt_get h1, ← cAt_get h2]
  exact h k h1
theorem cAt_app {l m : List Cd} {k : Nat} : cAt (l ++ m) k = if k < l.length then cAt l k else cAt m (k - l.length) := by
  unfold cAt
  rw [List.getD_eq_getElem?_getD, List.getD_eq_getElem?_getD, List.getD_eq_getElem?_getD, List.getElem?_append]
  by_cases h : k < l.length
  · rw [if_pos h, if_pos h]
  · rw [if_neg h, if_neg h]
/-- n elements from a on are exchanged with those from b on, k of them so far -/
structure SwR (l : List Cd) (a b k : Nat) (l' : List Cd) : Prop where
  len : l'.length = l.length
  at_ : ∀ i, cAt l' i = if a ≤ i ∧ i < a + k then cAt l (b + (i - a)) else if b ≤ i ∧ i < b + k then cAt l (a + (i - b)) else cAt l i
theorem SwR.start {l : List Cd} {a b : Nat} : SwR l a b 0 l := ⟨rfl, fun i => by rw [if_neg (by omega), if_neg (by omega)]⟩
theorem SwR.step {l l' : List Cd} {a b k : Nat} (h : SwR l a b k l') (hab : a + k < b) (hb : b + k < l.length) : SwR l a b (k + 1) (swpC l' (a + k) (b + k)) := by
  refine ⟨by rw [swpC_len, h.len], fun i => ?_⟩
  rw [cAt_swp (by rw [h.len]; omega) (by rw [h.len]; omega), h.at_ i, h.at_ (a + k), h.at_ (b + k)]
  by_cases c1 : i = b + k
  · rw [if_pos c1, if_neg (by omega), if_neg (by omega), if_neg (by omega), if_pos (by omega)]
    congr 1
    omega
  · rw [if_neg c1]
    by_cases c2 : i = a + k
    · rw [if_pos c2, if_neg (by omega), if_neg (by omega), if_pos (by omega)]
      congr 1
      omega
    · rw [if_neg c2]
      by_cases c3 : a ≤ i ∧ i < a + k
      · rw [if_pos c3, if_pos (by omega)]
      · rw [if_neg c3]
        by_cases c4 : b ≤ i ∧ i < b + k
        · rw [if_pos c4, if_neg (by omega), if_pos (by omega)]
        · rw [if_neg c4, if_neg (by omega), if_neg (by omega)]
theorem SwR.parts {P X Q Y R l' : List Cd} (hn : X.length = Y.length) (h : SwR (P ++ X ++ Q ++ Y ++ R) P.length (P.length + X.length + Q.length) X.length l') : l' = P ++ Y ++ Q ++ X ++ R := by
  refine list_ext (by rw [h.len]; simp only [List.length_append]; omega) fun k hk => ?_
  rw [h.len] at hk
  simp only [List.length_append] at hk
  rw [h.at_ k]
  simp only [cAt_app, List.length_append]
  by_cases c1 : k < P.length
  · rw [if_neg (by omega), if_neg (by omega)]
    simp only [show k < P.length + X.length + Q.length + Y.length by omega, show k < P.length + X.length + Q.length by omega, show k < P.length + X.length by omega, c1, if_true, show k < P.length + Y.length + Q.length + X.length by omega, show k < P.length + Y.length + Q.length by omega, show k < P.length + Y.length by omega]
  by_cases c2 : k < P.length + X.length
  · rw [if_pos (by omega)]
    have e : P.length + X.length + Q.length + (k - P.length) - (P.length + X.length + Q.length) = k - P.length := by omega
    rw [if_pos (by omega), if_neg (by omega), e, if_pos (by omega), if_pos (by omega), if_pos (by omega), if_neg c1]
  by_cases c3 : k < P.length + X.length + Q.length
  · rw [if_neg (by omega), if_neg (by omega), if_pos (by omega), if_pos (by omega), if_neg (by omega), if_pos (by omega), if_pos (by omega), if_neg (by omega)]
    congr 1
    omega
  by_cases c4 : k < P.length + X.length + Q.length + Y.length
  · rw [if_neg (by omega), if_pos (by omega), if_pos (by omega), if_pos (by omega), if_pos (by omega), if_neg (by omega), if_pos (by omega), if_neg (by omega)]
    congr 1
    omega
  · rw [if_neg (by omega), if_neg (by omega), if_neg (by omega), if_neg (by omega)]
    congr 1
    omega
/-- what is left to be rotated -/
theorem rot_big {D X1 X2 Y E l' : List Cd} (hn : X1.length = Y.length) (h : SwR (D ++ (X1 ++ X2) ++ Y ++ E) D.length (D.length + X1.length + X2.length) X1.length l') : l' = (D ++ Y) ++ X2 ++ X1 ++ E := by
  have h' : SwR (D ++ X1 ++ X2 ++ Y ++ E) D.length (D.length + X1.length + X2.length) X1.length l' := by
    simpa only [List.append_assoc] using h
  exact h'.parts hn
theorem rot_small {D X Y1 Y2 E l' : List Cd} (hn : X.length = Y2.length) (h : SwR (D ++ X ++ (Y1 ++ Y2) ++ E) D.length (D.length + X.length + Y1.length) X.length l') : l' = D ++ Y2 ++ Y1 ++ (X ++ E) := by
  have h' : SwR (D ++ X ++ Y1 ++ Y2 ++ E) D.length (D.length + X.length + Y1.length) X.length l' := by
    simpa only [List.append_assoc] using h
  have := h'.parts hn
  simpa only [List.append_assoc] using this
end Go.AM.SG
namespace Go.AM.SG
/-! ### where a symmetric merge cuts -/
theorem srt_le {X : List Cd} (h : Srt X) {i j : Nat} (hij : i ≤ j) (hj : j < X.length) : (cAt X i).1 ≤ (cAt X j).1 := by
  rw [cAt_get (by omega), cAt_get hj]
  by_cases e : i = j
  · subst e; exact Int.le_refl _
  · exact List.pairwise_iff_getElem.1 h i j (by omega) hj (by omega)
theorem mem_cAt {X : List Cd} {c : Cd} : c ∈ X ↔ ∃ i, i < X.length ∧ cAt X i = c := by
  rw [List.mem_iff_getElem]
  constructor
  · rintro ⟨i, h, e⟩; exact ⟨i, h, by rw [cAt_get h]; exact e⟩
  · rintro ⟨i, h, e⟩; exact ⟨i, h, by rw [← cAt_get h]; exact e⟩
theorem cAt_take {X : List Cd} {k i : Nat} (h : i < k) : cAt (X.take k) i = cAt X i := by
  unfold cAt
  rw [List.getD_eq_getElem?_getD, List.getD_eq_getElem?_getD, List.getElem?_take, if_pos h]
theorem cAt_drop {X : List Cd} {k i : Nat} : cAt (X.drop k) i = cAt X (k + i) := by
  unfold cAt
  rw [List.getD_eq_getElem?_getD, List.getD_eq_getElem?_getD, List.getElem?_drop]
/-- k of the first list and q of the second go before the others -/
theorem sym_cut {X Y : List Cd} {k q : Nat} (hX : Srt X) (hY : Srt Y) (hk : k ≤ X.length) (hq : q ≤ Y.length)
    (h1 : 0 < k → q < Y.length → (cAt X (k - 1)).1 ≤ (cAt Y q).1) (h2 : k < X.length → 0 < q → (cAt Y (q - 1)).1 < (cAt X k).1) :
    (∀ x ∈ X.take k, ∀ y ∈ Y.drop q, x.1 ≤ y.1) ∧ ∀ x ∈ X.drop k, ∀ y ∈ Y.take q, y.1 < x.1 := by
  constructor
  · intro x hx y hy
    obtain ⟨i, hi, rfl⟩ := mem_cAt.1 hx
    obtain ⟨j, hj, rfl⟩ := mem_cAt.1 hy
    rw [List.length_take] at hi
    rw [List.length_drop] at hj
    rw [cAt_take (by omega), cAt_drop]
    have e1 := srt_le hX (i := i) (j := k - 1) (by omega) (by omega)
    have e2 := srt_le hY (i := q) (j := q + j) (by omega) (by omega)
    have := h1 (by omega) (by omega)
    omega
  · intro x hx y hy
    obtain ⟨i, hi, rfl⟩ := mem_cAt.1 hx
    obtain ⟨j, hj, rfl⟩ := mem_cAt.1 hy
    rw [List.length_drop] at hi
    rw [List.length_take] at hj
    rw [cAt_take (by omega), cAt_drop]
    have e1 := srt_le hX (i := k) (j := k + i) (by omega) (by omega)
    have e2 := srt_le hY (i := j) (j := q - 1) (by omega) (by omega)
    have := h2 (by omega) (by omega)
    omega
/-- the search of a symmetric merge, positions counted from where X begins -/
structure SymS (X Y : List Cd) (mid start r : Nat) : Prop where
  le : start ≤ r
  lo : (if mid < X.length then mid - Y.length else 0) ≤ start
  hi : r ≤ if mid < X.length then mid else X.length
  s1 : (if mid < X.length then mid - Y.length else 0) < start → (cAt X (start - 1)).1 ≤ (cAt Y (mid - start)).1
  s2 : (r < if mid < X.length then mid else X.length) → (cAt Y (mid - 1 - r)).1 < (cAt X r).1
theorem SymS.cut {X Y : List Cd} {mid k : Nat} (hX : Srt X) (hY : Srt Y) (hmid : mid = (X.length + Y.length) / 2) (h : SymS X Y mid k k) : k ≤ X.length ∧ k ≤ mid ∧ mid - k ≤ Y.length ∧
    (∀ x ∈ X.take k, ∀ y ∈ Y.drop (mid - k), x.1 ≤ y.1) ∧ ∀ x ∈ X.drop k, ∀ y ∈ Y.take (mid - k), y.1 < x.1 := by
  have lo := h.lo
  have hi := h.hi
  have s1 := h.s1
  have s2 := h.s2
  have hk : k ≤ X.length ∧ k ≤ mid ∧ mid - k ≤ Y.length := by
    by_cases c : mid < X.length
    · rw [if_pos c] at lo hi; omega
    · rw [if_neg c] at lo hi; omega
  refine ⟨hk.1, hk.2.1, hk.2.2, ?_⟩
  refine sym_cut hX hY hk.1 hk.2.2 (fun p0 p1 => s1 ?_) fun p0 p1 => ?_
  · by_cases c : mid < X.length
    · rw [if_pos c] at lo ⊢; omega
    · rw [if_neg c]; omega
  · have := s2 (by
      by_cases c : mid < X.length
      · rw [if_pos c]; omega
      · rw [if_neg c]; omega)
    rw [show mid - k - 1 = mid - 1 - k by omega]
    exact this
theorem ins_cut {X : List Cd} {y : Cd} {k : Nat} (hX : Srt X) (hk : k ≤ X.length) (h1 : 0 < k → (cAt X (k - 1)).1 ≤ y.1) (h2 : k < X.length → y.1 < (cAt X k).1) : (∀ a ∈ X.take k, a.1 ≤ y.1) ∧ ∀ u ∈ X.drop k, y.1 < u.1 := by
  constructor
  · intro x hx
    obtain ⟨i, hi, rfl⟩ := mem_cAt.1 hx
    rw [List.length_take] at hi
    rw [cAt_take (by omega)]
    have := srt_le hX (i := i) (j := k - 1) (by omega) (by omega)
    have := h1 (by omega)
    omega
  · intro x hx
    obtain ⟨i, hi, rfl⟩ := mem_cAt.1 hx
    rw [List.length_drop] at hi
    rw [cAt_drop]
    have := srt_le hX (i := k) (j := k + i) (by omega) (by omega)
    have := h2 (by omega)
    omega
theorem ins_cut_l {Y : List Cd} {a : Cd} {k : Nat} (hY : Srt Y) (hk : k ≤ Y.length) (h1 : 0 < k → (cAt Y (k - 1)).1 < a.1) (h2 : k < Y.length → a.1 ≤ (cAt Y k).1) : (∀ v ∈ Y.take k, v.1 < a.1) ∧ ∀ b ∈ Y.drop k, a.1 ≤ b.1 := by
  constructor
  · intro x hx
    obtain ⟨i, hi, rfl⟩ := mem_cAt.1 hx
    rw [List.length_take] at hi
    rw [cAt_take (by omega)]
    have := srt_le hY (i := i) (j := k - 1) (by omega) (by omega)
    have := h1 (by omega)
    omega
  · intro x hx
    obtain ⟨i, hi, rfl⟩ := mem_cAt.1 hx
    rw [List.length_drop] at hi
    rw [cAt_drop]
    have := srt_le hY (i := k) (j := k + i) (by omega) (by omega)
    have := h2 (by omega)
    omega
/-- an element that goes left over those behind a place, one exchange after the other -/
theorem shift_left {P U R : List Cd} {y : Cd} {u : Cd} : swpC (P ++ U ++ [u] ++ y :: R) (P.length + U.length + 1) (P.length + U.length) = P ++ U ++ y :: u :: R := by
  refine list_ext (by rw [swpC_len]; simp only [List.length_append, List.length_cons, List.length_nil]; omega) fun k hk => ?_
  rw [swpC_len] at hk
  simp only [List.length_append, List.length_cons, List.length_nil] at hk
  rw [cAt_swp (by simp only [List.length_append, List.length_cons, List.length_nil]; omega) (by simp only [List.length_append, List.length_cons, List.length_nil]; omega)]
  simp only [cAt_app, List.length_append, List.length_cons, List.length_nil]
  by_cases c1 : k = P.length + U.length
  · rw [if_pos c1, if_neg (by omega), if_neg (by omega)]
    rw [show P.length + U.length + 1 - (P.length + U.length + (0 + 1)) = 0 by omega, show k - (P.length + U.length) = 0 by omega]
    rfl
  rw [if_neg c1]
  by_cases c2 : k = P.length + U.length + 1
  · rw [if_pos c2, if_pos (by omega), if_neg (by omega), if_neg (by omega)]
    rw [show P.length + U.length - (P.length + U.length) = 0 by omega, show k - (P.length + U.length) = 1 by omega]
    rfl
  rw [if_neg c2]
  by_cases c3 : k < P.length + U.length
  · rw [if_pos (by omega), if_pos c3, if_pos c3]
  · rw [if_neg (by omega), if_neg c3]
    obtain ⟨j, hj⟩ : ∃ j, k = P.length + U.length + 2 + j := ⟨k - (P.length + U.length + 2), by omega⟩
    rw [hj, show P.length + U.length + 2 + j - (P.length + U.length + (0 + 1)) = j + 1 by omega, show P.length + U.length + 2 + j - (P.length + U.length) = j + 2 by omega]
    rfl
end Go.AM.SG
namespace Go.AM.SG
open Go Go.AM Go.Proofs
variable {K : AVal → Heap → Prop} {s s' s0 : Heap} {db : Nat} {l : List Cd}
/-! ### candidates in memory, and how they are compared -/
def cR (x : Cd) : List AVal := [.int .u32 x.1, .int .i64 x.2]
abbrev flC (q : List Cd) : List AVal := (q.map cR).flatten
theorem cR_len (q : List Cd) : ∀ r ∈ q.map cR, r.length = 2 := fun r hr => by obtain ⟨x, _, rfl⟩ := List.mem_map.1 hr; rfl
theorem flC_len (q : List Cd) : (flC q).length = q.length * 2 := by rw [flat_len (cR_len q), List.length_map]
theorem flC_put {x : Cd} : ∀ {q : List Cd} {i : Nat}, i < q.length → setRange (flC q) (i * 2) (cR x) = flC (q.set i x)
  | [], _, h => by simp at h
  | y :: q, 0, _ => rfl
  | y :: q, i + 1, h => by
    have ih := flC_put (x := x) (q := q) (i := i) (by simpa using h)
    have e3 : (i + 1) * 2 = i * 2 + 2 := by omega
    have e4 : setRange (flC (y :: q)) (i * 2 + 2) (cR x) = .int .u32 y.1 :: .int .i64 y.2 :: setRange (flC q) (i * 2) (cR x) := by
      have e5 : flC (y :: q) = .int .u32 y.1 :: .int .i64 y.2 :: flC q := rfl
      unfold setRange
      rw [e5]
      show (.int .u32 y.1 :: .int .i64 y.2 :: (flC q).take (i * 2)) ++ cR x ++ (flC q).drop (i * 2 + 2) = _
      rfl
    rw [e3, e4, ih]; rfl
def CAt (s : Heap) (db : Nat) (l : List Cd) : Prop := s db = some (false, .cells 35 (flC l))
abbrev cV (db : Nat) (l : List Cd) : AVal := .slc db 0 l.length none 2
theorem c_ad {n i : Nat} (hi : i < n) : iaddrS 2 (.slc db 0 n none 2) (.int .i64 (i : Int)) = some (.ptr db (i * 2)) := by
  have : Nat.blt i n = true := by rw [Nat.blt_eq]; exact hi
  simp [iaddrS, this]
theorem CAt.sl (h : CAt s db l) : SlR 2 s (cV db l) (l.map cR) := by
  refine SlR.mk (cR_len l) h (by rw [List.length_map]) (by simp)
theorem CAt.row (h : CAt s db l) {i : Nat} (hi : i < l.length) : rdN s 2 (.ptr db (i * 2)) = some (cR (cAt l i)) := by
  obtain ⟨b, p, h1, h2, _⟩ := h.sl.get (i := i) (r := cR (cAt l i)) (by simp [cAt_get hi, hi])
  rw [c_ad hi] at h1
  cases h1
  exact h2
theorem CAt.put (h : CAt s db l) {i : Nat} {x : Cd} {R : Heap → Prop} (hi : i < l.length) (hR : ∀ s', CAt s' db (l.set i x) → Upto db s s' → R s') : optK (wrAgg s 2 (.ptr db (i * 2)) (.agg (cR x))) R := by
  have e0 : i * 2 + 2 ≤ (flC l).length := by rw [flC_len]; omega
  have e1 : Nat.ble (i * 2 + (cR x).length) (flC l).length = true := Nat.ble_eq_true_of_le (by show i * 2 + 2 ≤ _; omega)
  have e2 : wrAgg s 2 (.ptr db (i * 2)) (.agg (cR x)) = some (hset s db (false, .cells 35 (flC (l.set i x)))) := by
    have h : s db = some (false, .cells 35 (flC l)) := h
    rw [← flC_put hi]
    simp only [wrAgg, cells_agg, show Nat.beq (cR x).length 2 = true from rfl, cond_true, wrN, h, e1, show allOne (cR x) = true from rfl, Bool.and_self]
  exact optK_of e2 (hR _ hset_eq fun _ hi => hset_other hi)
/-- two are exchanged -/
theorem CAt.swap (h : CAt s db l) {i j : Nat} {R : Heap → Prop} (hi : i < l.length) (hj : j < l.length) (hR : ∀ s', CAt s' db (swpC l i j) → Upto db s s' → R s') :
    optK (wrAgg s 2 (.ptr db (i * 2)) (.agg (cR (cAt l j)))) fun s_10 => optK (wrAgg s_10 2 (.ptr db (j * 2)) (.agg (cR (cAt l i)))) R := by
  refine h.put hi fun s1 h1 u1 => ?_
  exact h1.put (by simpa using hj) fun s2 h2 u2 => hR s2 h2 fun k hk => by rw [u2 k hk, u1 k hk]
theorem CAt.sub (h : CAt s db l) (k : Sub s s') : CAt s' db l := k _ _ h
abbrev cmpv : AVal := .fn (.func 30) [] []
theorem cmp_in {a b : Cd} (hK : ∀ s' (r : Int), Sub s s' → (r < 0 ↔ a.1 < b.1) → K (.int .i64 r) s') : funK Tryd.prog XX cmpv [.agg (cR a), .agg (cR b)] K s := by
  refine ⟨by kernel_rfl, ?_⟩
  show wpCall Tryd.prog XX 30 [.agg (cR a), .agg (cR b)] K s
  refine vc_segment_Candidates_1_in ⟨rfl, new_step fun x s1 hx h1 u1 => ⟨rfl, new_step fun y s2 hy h2 u2 => ?_⟩⟩
  have sub2 := (u1.sub hx).trans (u2.sub hy)
  have h12 : s2 x = some (false, .cells 35 (cR a)) := u2.sub hy _ _ h1
  have h22 : s2 y = some (false, .cells 35 (cR b)) := h2
  have ra : (cR a)[0]? = some (.int .u32 a.1) := rfl
  have rb : (cR b)[0]? = some (.int .u32 b.1) := rfl
  simp only [addOff_ptr, Nat.zero_add, rd1_mk h12, rd1_mk h22, ra, rb, optK_mk]
  refine vc_cmp_Compare_api_IP__in (vc_cmp_isNaN_api_IP__in ?_)
  simp only [vc_cmp_isNaN_api_IP_, eqV_int, negB_mk, beq_self_eq_true, Bool.true_bne, Bool.not_true, optK_mk]
  refine vc_cmp_isNaN_api_IP__in ?_
  simp only [vc_cmp_isNaN_api_IP_, eqV_int, negB_mk, beq_self_eq_true, Bool.true_bne, Bool.not_true, optK_mk, boolK_false, arith_lss, arith_gtr]
  refine boolK_mk (fun c => ?_) (fun c => ?_)
  · have c := of_decide_eq_true c
    exact hK s2 (-1) sub2 ⟨fun _ => c, fun _ => by decide⟩
  · have c := of_decide_eq_false c
    refine boolK_mk (fun c2 => ?_) (fun c2 => ?_)
    · exact hK s2 1 sub2 ⟨fun h => absurd h (by decide), fun h => absurd h c⟩
    · exact hK s2 0 sub2 ⟨fun h => absurd h (by decide), fun h => absurd h c⟩
end Go.AM.SG
namespace Go.AM.SG
open Go Go.AM Go.Proofs
variable {K : AVal → Heap → Prop} {s s' s0 : Heap} {db : Nat} {l : List Cd}
/-! ### ranges are exchanged, blocks rotated -/
abbrev KB (db : Nat) (s s' : Heap) : Prop := KeepBut (fun b => b = db) s s'
theorem swapRange_in {a b n k : Nat} {cv : AVal} (h : CAt s db l) (hk : k = l.length) (hl : l.length ≤ 100000) (hab : a + n ≤ b) (hb : b + n ≤ l.length) (hK : ∀ s' l', CAt s' db l' → SwR l a b n l' → KB db s s' → K (.tup []) s') :
    wpCall Tryd.prog XX 90 [.slc db 0 k none 2, .int .i64 (a : Int), .int .i64 (b : Int), .int .i64 (n : Int), cv] K s := by
  subst hk
  refine vc_slices_swapRangeCmpFunc_api_Candidate__in ?_
  refine ⟨fun ys t m => ∃ (i : Nat) (l1 : List Cd), ys = [.int .i64 i] ∧ i ≤ n ∧ m = n - i ∧ CAt t db l1 ∧ SwR l a b i l1 ∧ KB db s t, ⟨_, 0, l, rfl, by omega, rfl, h, .start, .refl _ s⟩, ?_⟩
  rintro f t m ⟨i, l1, hy, hi, rfl, h1, sw, kp⟩
  simp only [List.cons.injEq, and_true] at hy
  rw [hy]
  simp only [vc_slices_swapRangeCmpFunc_api_Candidate__l0, arith_lss, optK_mk]
  refine boolK_mk (fun hlt => ?_) (fun hge => ?_)
  · have hlt : i < n := by have := of_decide_eq_true hlt; omega
    have e1 : IntKind.i64.wrap ((a : Int) + i) = ((a + i : Nat) : Int) := by rw [wrap64 (by omega) (by omega)]; omega
    have e2 : IntKind.i64.wrap ((b : Int) + i) = ((b + i : Nat) : Int) := by rw [wrap64 (by omega) (by omega)]; omega
    have len := sw.len
    simp only [arith_add, e1, e2, c_ad (show b + i < l.length by omega), c_ad (show a + i < l.length by omega), h1.row (show b + i < l1.length by omega), h1.row (show a + i < l1.length by omega), optK_mk]
    refine h1.swap (by omega) (by omega) fun s2 h2 u2 => ?_
    rw [wrap64 (by omega) (by omega)]
    exact ⟨_, by omega, i + 1, _, rfl, by omega, rfl, h2, sw.step (by omega) (by omega), kp.trans (u2.keep rfl)⟩
  · have hge : i = n := by have := of_decide_eq_false hge; omega
    subst hge
    exact hK t l1 h1 sw kp
theorem rotate_in {P X Y Q : List Cd} {a m b k : Nat} {cv : AVal} (h : CAt s db (P ++ X ++ Y ++ Q)) (hk : k = (P ++ X ++ Y ++ Q).length) (hl : k ≤ 100000) (ha : a = P.length) (hm : m = a + X.length) (hb : b = m + Y.length) (hX : X ≠ []) (hY : Y ≠ [])
    (hK : ∀ s', CAt s' db (P ++ Y ++ X ++ Q) → KB db s s' → K (.tup []) s') : wpCall Tryd.prog XX 84 [.slc db 0 k none 2, .int .i64 (a : Int), .int .i64 (m : Int), .int .i64 (b : Int), cv] K s := by
  have lx : 0 < X.length := List.length_pos_iff.2 hX
  have ly : 0 < Y.length := List.length_pos_iff.2 hY
  have hlen : k = P.length + X.length + Y.length + Q.length := by rw [hk]; simp only [List.length_append]
  refine vc_slices_rotateCmpFunc_api_Candidate__in ?_
  have e1 : IntKind.i64.wrap ((m : Int) - a) = ((X.length : Nat) : Int) := by rw [wrap64 (by omega) (by omega)]; omega
  have e2 : IntKind.i64.wrap ((b : Int) - m) = ((Y.length : Nat) : Int) := by rw [wrap64 (by omega) (by omega)]; omega
  simp only [vc_slices_rotateCmpFunc_api_Candidate_, arith_sub, e1, e2, optK_mk]
  refine ⟨fun ys t c => ∃ (D A B E : List Cd), ys = [.int .i64 (A.length : Nat), .int .i64 (B.length : Nat)] ∧ 0 < A.length ∧ 0 < B.length ∧ c = A.length + B.length ∧ D.length + A.length = m ∧ D ++ B ++ A ++ E = P ++ Y ++ X ++ Q ∧ CAt t db (D ++ A ++ B ++ E) ∧ KB db s t, ⟨_, P, X, Y, Q, rfl, lx, ly, rfl, by omega, rfl, h, .refl _ s⟩, ?_⟩
  rintro f t c ⟨D, A, B, E, hy, hA, hB, rfl, hm2, heq, h1, kp⟩
  simp only [List.cons.injEq, and_true] at hy
  rw [hy.1, hy.2]
  have hlen2 : k = D.length + A.length + B.length + E.length := by
    have := congrArg List.length heq
    simp only [List.length_append] at this
    omega
  have hk1 : k = (D ++ A ++ B ++ E).length := by simp only [List.length_append]; omega
  have s1 : IntKind.i64.wrap ((m : Int) - (A.length : Nat)) = ((D.length : Nat) : Int) := by rw [wrap64 (by omega) (by omega)]; omega
  simp only [vc_slices_rotateCmpFunc_api_Candidate__l0, eqV_int, negB_mk, Bool.true_bne, optK_mk]
  cases c1 : (((A.length : Nat) : Int) == ((B.length : Nat) : Int)) with
  | true =>
    have c1 : A.length = B.length := by have := eq_of_beq c1; omega
    simp only [Bool.not_true, boolK_false, arith_sub, s1, optK_mk]
    refine swapRange_in h1 hk1 (by omega) (by omega) (by simp only [List.length_append]; omega) fun s2 l2 h2 sw kp2 => ?_
    have e : l2 = D ++ B ++ [] ++ A ++ E := by
      refine SwR.parts (P := D) (X := A) (Q := []) (Y := B) (R := E) c1 ?_
      have e3 : D ++ A ++ [] ++ B ++ E = D ++ A ++ B ++ E := by simp
      rw [e3, show D.length + A.length + ([] : List Cd).length = m by simp; omega]
      exact sw
    rw [List.append_nil, heq] at e
    rw [e] at h2
    exact hK s2 h2 (kp.trans kp2)
  | false =>
    have c1 : ¬ A.length = B.length := by
      have : ¬ ((A.length : Nat) : Int) = ((B.length : Nat) : Int) := by simpa using c1
      omega
    simp only [Bool.not_false, boolK_true, arith_gtr, optK_mk]
    refine boolK_mk (fun c2 => ?_) (fun c2 => ?_)
    · have c2 : B.length < A.length := by have := of_decide_eq_true c2; omega
      have hA2 : A = A.take B.length ++ A.drop B.length := (List.take_append_drop ..).symm
      have l1 : (A.take B.length).length = B.length := by rw [List.length_take]; omega
      have l2 : (A.drop B.length).length = A.length - B.length := by rw [List.length_drop]
      simp only [arith_sub, s1, optK_mk]
      refine swapRange_in h1 hk1 (by omega) (by omega) (by simp only [List.length_append]; omega) fun s2 l3 h2 sw kp2 => ?_
      have e : l3 = (D ++ B) ++ A.drop B.length ++ A.take B.length ++ E := by
        refine rot_big l1 ?_
        rw [List.take_append_drop, l1, l2, show D.length + B.length + (A.length - B.length) = m by omega]
        exact sw
      rw [e] at h2
      have e4 : IntKind.i64.wrap (((A.length : Nat) : Int) - ((B.length : Nat) : Int)) = (((A.drop B.length).length : Nat) : Int) := by rw [wrap64 (by omega) (by omega), l2]; omega
      simp only [arith_sub, e4, optK_mk]
      refine ⟨_, ?_, D ++ B, A.drop B.length, A.take B.length, E, by rw [l1], by omega, by omega, rfl, by rw [List.length_append]; omega, ?_, h2, kp.trans kp2⟩
      · rw [l1, l2]; omega
      · rw [← heq]
        simp only [List.append_assoc]
        rw [← List.append_assoc (A.take B.length), List.take_append_drop]
    · have c2 : A.length < B.length := by have := of_decide_eq_false c2; omega
      have l1 : (B.take (B.length - A.length)).length = B.length - A.length := by rw [List.length_take]; omega
      have l2 : (B.drop (B.length - A.length)).length = A.length := by rw [List.length_drop]; omega
      have s2 : IntKind.i64.wrap ((m : Int) + (B.length : Nat)) = ((m + B.length : Nat) : Int) := by rw [wrap64 (by omega) (by omega)]; omega
      have s3 : IntKind.i64.wrap (((m + B.length : Nat) : Int) - (A.length : Nat)) = ((m + B.length - A.length : Nat) : Int) := by rw [wrap64 (by omega) (by omega)]; omega
      simp only [arith_sub, arith_add, s1, s2, s3, optK_mk]
      refine swapRange_in h1 hk1 (by omega) (by omega) (by simp only [List.length_append]; omega) fun s2 l3 h2 sw kp2 => ?_
      have e : l3 = D ++ B.drop (B.length - A.length) ++ B.take (B.length - A.length) ++ (A ++ E) := by
        refine rot_small l2.symm ?_
        rw [List.take_append_drop, l1, show D.length + A.length + (B.length - A.length) = m + B.length - A.length by omega]
        exact sw
      rw [e] at h2
      have e4 : IntKind.i64.wrap (((B.length : Nat) : Int) - ((A.length : Nat) : Int)) = (((B.take (B.length - A.length)).length : Nat) : Int) := by rw [wrap64 (by omega) (by omega), l1]; omega
      simp only [arith_sub, e4, optK_mk]
      refine ⟨_, ?_, D, B.drop (B.length - A.length), B.take (B.length - A.length), A ++ E, by rw [l2], by omega, by omega, rfl, by omega, ?_, h2, kp.trans kp2⟩
      · rw [l1, l2]; omega
      · rw [← heq]
        simp only [List.append_assoc]
        rw [← List.append_assoc (B.take (B.length - A.length)), List.take_append_drop]
end Go.AM.SG
namespace Go.AM.SG
open Go Go.AM Go.Proofs
variable {K : AVal → Heap → Prop} {s s' s0 : Heap} {db : Nat} {l : List Cd}
theorem cAt_mid {L R : List Cd} {y : Cd} {n : Nat} (hn : n = L.length) : cAt (L ++ y :: R) n = y := by
  subst hn
  rw [cAt_app, if_neg (by omega), Nat.sub_self]; rfl
theorem CAt.swap2 (h : CAt s db l) {i j : Nat} {x y : Cd} {R : Heap → Prop} (hi : i < l.length) (hj : j < l.length) (hx : cAt l i = x) (hy : cAt l j = y) (hR : ∀ s', CAt s' db (swpC l i j) → Upto db s s' → R s') :
    optK (wrAgg s 2 (.ptr db (i * 2)) (.agg (cR y))) fun s_10 => optK (wrAgg s_10 2 (.ptr db (j * 2)) (.agg (cR x))) R := by
  subst hx hy
  exact h.swap hi hj hR
/-- insertion sort of a range -/
theorem insertion_in {P X Q : List Cd} {a b k : Nat} (h : CAt s db (P ++ X ++ Q)) (hk : k = (P ++ X ++ Q).length) (hl : k ≤ 100000) (ha : a = P.length) (hb : b = a + X.length)
    (hK : ∀ s' Z, CAt s' db (P ++ Z ++ Q) → Srt Z → Stb X Z → Z.length = X.length → KB db s s' → K (.tup []) s') : wpCall Tryd.prog XX 66 [.slc db 0 k none 2, .int .i64 (a : Int), .int .i64 (b : Int), cmpv] K s := by
  have hlen : k = P.length + X.length + Q.length := by rw [hk]; simp only [List.length_append]
  refine vc_slices_insertionSortCmpFunc_api_Candidate__in ?_
  have e1 : IntKind.i64.wrap ((a : Int) + 1) = ((a + 1 : Nat) : Int) := by rw [wrap64 (by omega) (by omega)]; omega
  simp only [vc_slices_insertionSortCmpFunc_api_Candidate_, arith_add, e1, optK_mk]
  refine ⟨fun ys t m => ∃ (j : Nat) (Z : List Cd), ys = [.int .i64 ((a + j : Nat) : Int)] ∧ 1 ≤ j ∧ (j ≤ X.length ∨ X = []) ∧ m = X.length + 1 - j ∧ CAt t db (P ++ Z ++ X.drop j ++ Q) ∧ Srt Z ∧ Stb (X.take j) Z ∧ Z.length = (X.take j).length ∧ KB db s t, ⟨_, 1, X.take 1, rfl, by omega, ?_, rfl, ?_, ?_, .refl _, rfl, .refl _ s⟩, ?_⟩
  · cases X with
    | nil => exact .inr rfl
    | cons x r => exact .inl (by simp)
  · rw [List.append_assoc P, List.take_append_drop]; exact h
  · unfold Srt
    cases X with
    | nil => simp
    | cons x r => simp
  rintro f t m ⟨j, Z, hy, hj, hjX, rfl, h1, srt, stb, hzl, kp⟩
  simp only [List.cons.injEq, and_true] at hy
  rw [hy]
  simp only [vc_slices_insertionSortCmpFunc_api_Candidate__l0, arith_lss, optK_mk]
  refine boolK_mk (fun hlt => ?_) (fun hge => ?_)
  rotate_left
  · have hge : X.length ≤ j := by have := of_decide_eq_false hge; omega
    rw [List.take_of_length_le hge] at stb hzl
    rw [List.drop_eq_nil_of_le hge, List.append_nil] at h1
    exact hK t Z h1 srt stb hzl kp
  have hlt : j < X.length := by have := of_decide_eq_true hlt; omega
  obtain ⟨y, hyj⟩ : ∃ y, X[j]? = some y := ⟨_, List.getElem?_eq_getElem hlt⟩
  have hdrop : X.drop j = y :: X.drop (j + 1) := by
    rw [List.drop_eq_getElem_cons hlt]
    congr 1
    rw [List.getElem?_eq_getElem hlt] at hyj
    exact Option.some.inj hyj
  have htake : X.take (j + 1) = X.take j ++ [y] := by rw [List.take_add_one, hyj]; rfl
  have hzl2 : Z.length = j := by rw [hzl, List.length_take]; omega
  refine ⟨fun ys t c => ∃ (A V : List Cd), ys = [.int .i64 ((a + A.length : Nat) : Int)] ∧ c = A.length ∧ Z = A ++ V ∧ (∀ u ∈ V, y.1 < u.1) ∧ CAt t db (P ++ A ++ y :: (V ++ X.drop (j + 1) ++ Q)) ∧ KB db s t, ⟨_, Z, [], by rw [hzl2], rfl, by simp, by simp, ?_, kp⟩, ?_⟩
  · rw [hdrop] at h1
    simpa [List.append_assoc] using h1
  rintro f t2 c ⟨A, V, hy2, rfl, rfl, hV, h2, kp2⟩
  simp only [List.cons.injEq, and_true] at hy2
  rw [hy2]
  have hk2 : k = (P ++ A ++ y :: (V ++ X.drop (j + 1) ++ Q)).length := by
    simp only [List.length_append, List.length_cons, List.length_drop] at hzl2 ⊢
    omega
  rw [List.length_append] at hzl2
  -- the next element
  have done : ∀ t3, CAt t3 db (P ++ A ++ y :: (V ++ X.drop (j + 1) ++ Q)) → KB db s t3 → (∀ u ∈ A, u.1 ≤ y.1) → optK (arithV .add (.int .i64 ((a + j : Nat) : Int)) (.int .i64 1)) fun v_15 =>
      ∃ m', m' < X.length + 1 - j ∧ ∃ (j : Nat) (Z : List Cd), [v_15] = [.int .i64 ((a + j : Nat) : Int)] ∧ 1 ≤ j ∧ (j ≤ X.length ∨ X = []) ∧ m' = X.length + 1 - j ∧ CAt t3 db (P ++ Z ++ X.drop j ++ Q) ∧ Srt Z ∧ Stb (X.take j) Z ∧ Z.length = (X.take j).length ∧ KB db s t3 := fun t3 h2 kp2 hA => by
    have mg := Mrg.one_r srt hA hV
    simp only [arith_add, optK_mk]
    rw [wrap64 (by omega) (by omega)]
    refine ⟨_, ?_, j + 1, A ++ y :: V, ?_, by omega, .inl (by omega), rfl, ?_, mg.srt, ?_, ?_, kp2⟩
    · omega
    · rw [show ((a + (j + 1) : Nat) : Int) = ((a + j : Nat) : Int) + 1 by omega]
    · simpa [List.append_assoc] using h2
    · rw [htake]
      exact (stb.app (.refl [y])).trans mg.stb
    · rw [mg.len, htake, List.length_append, List.length_append, List.length_take]
      simp only [List.length_singleton]
      omega
  simp only [vc_slices_insertionSortCmpFunc_api_Candidate__l1, arith_gtr, optK_mk]
  refine boolK_mk (fun hp => ?_) (fun hp => ?_)
  rotate_left
  · have hA : A = [] := List.eq_nil_of_length_eq_zero (by have := of_decide_eq_false hp; omega)
    simp only [vc_slices_insertionSortCmpFunc_api_Candidate__j2, hp, pickV_false, boolK_false, optK_mk]
    exact done t2 h2 kp2 fun u hu => by rw [hA] at hu; cases hu
  have hpl : 0 < A.length := by have := of_decide_eq_true hp; omega
  obtain ⟨A', u, rfl⟩ : ∃ A' u, A = A' ++ [u] := ⟨A.dropLast, A.getLast (by intro e; rw [e] at hpl; simp at hpl), (List.dropLast_concat_getLast _).symm⟩
  have eA : (A' ++ [u]).length = A'.length + 1 := by simp
  rw [eA] at hzl2
  have e2 : IntKind.i64.wrap (((a + (A'.length + 1) : Nat) : Int) - 1) = ((a + A'.length : Nat) : Int) := by rw [wrap64 (by omega) (by omega)]; omega
  have lk : (P ++ (A' ++ [u]) ++ y :: (V ++ X.drop (j + 1) ++ Q)).length = k := hk2.symm
  have lk2 : a + A'.length + 1 < k := by
    rw [← lk]; simp only [List.length_append, List.length_cons, List.length_nil]; omega
  have r1 : cAt (P ++ (A' ++ [u]) ++ y :: (V ++ X.drop (j + 1) ++ Q)) (a + (A'.length + 1)) = y := cAt_mid (by rw [List.length_append, eA]; omega)
  have r2 : cAt (P ++ (A' ++ [u]) ++ y :: (V ++ X.drop (j + 1) ++ Q)) (a + A'.length) = u := by
    have : P ++ (A' ++ [u]) ++ y :: (V ++ X.drop (j + 1) ++ Q) = (P ++ A') ++ u :: (y :: (V ++ X.drop (j + 1) ++ Q)) := by simp [List.append_assoc]
    rw [this]
    exact cAt_mid (by rw [List.length_append]; omega)
  have w1 := h2.row (i := a + (A'.length + 1)) (by rw [lk]; omega)
  have w2 := h2.row (i := a + A'.length) (by rw [lk]; omega)
  rw [r1] at w1
  rw [r2] at w2
  simp only [eA, c_ad (show a + (A'.length + 1) < k by omega), w1, arith_sub, e2, c_ad (show a + A'.length < k by omega), w2, optK_mk]
  refine cmp_in fun s3 r sub3 hr => ?_
  have h3 := h2.sub sub3
  have kp3 : KB db s s3 := kp2.trans sub3.keep
  have w1' := h3.row (i := a + (A'.length + 1)) (by rw [lk]; omega)
  have w2' := h3.row (i := a + A'.length) (by rw [lk]; omega)
  rw [r1] at w1'
  rw [r2] at w2'
  have hp' : decide ((a : Int) < ((a + (A'.length + 1) : Nat) : Int)) = true := decide_eq_true (by omega)
  simp only [arith_lss, optK_mk, vc_slices_insertionSortCmpFunc_api_Candidate__j2, hp', pickV_true]
  refine boolK_mk (fun hc => ?_) (fun hc => ?_)
  · have hc : y.1 < u.1 := hr.1 (of_decide_eq_true hc)
    simp only [arith_sub, e2, c_ad (show a + (A'.length + 1) < k by omega), c_ad (show a + A'.length < k by omega), w1', w2', optK_mk]
    refine h3.swap2 (by rw [lk]; omega) (by rw [lk]; omega) r1 r2 fun s4 h4 u4 => ?_
    refine ⟨_, ?_, A', u :: V, rfl, rfl, by simp [List.append_assoc], fun v hv => ?_, ?_, kp3.trans (u4.keep rfl)⟩
    · omega
    · rcases List.mem_cons.1 hv with q | q
      · rw [q]; exact hc
      · exact hV v q
    · have e := shift_left (P := P) (U := A') (R := V ++ X.drop (j + 1) ++ Q) (y := y) (u := u)
      have e5 : P ++ (A' ++ [u]) ++ y :: (V ++ X.drop (j + 1) ++ Q) = P ++ A' ++ [u] ++ y :: (V ++ X.drop (j + 1) ++ Q) := by simp [List.append_assoc]
      rw [e5, show a + (A'.length + 1) = P.length + A'.length + 1 by omega, show a + A'.length = P.length + A'.length by omega, e] at h4
      simpa [List.append_assoc] using h4
  · have hc : ¬ y.1 < u.1 := fun q => of_decide_eq_false hc (hr.2 q)
    exact done s3 h3 kp3 fun v hv => by
      have hs := srt.parts.1
      rcases List.mem_append.1 hv with q | q
      · have := hs.parts.2.2 v q u (by simp)
        omega
      · rw [List.mem_singleton] at q
        rw [q]; omega
end Go.AM.SG
namespace Go.AM.SG
open Go Go.AM Go.Proofs
variable {K : AVal → Heap → Prop} {s s' s0 : Heap} {db : Nat} {l : List Cd}
theorem half_mk {w : Nat} (h : w ≤ 1000000) : convI .u64 (.int .i64 (w : Int)) = some (.int .u64 (w : Int)) ∧ shiftV .shr (.int .u64 (w : Int)) (.int .u64 1) = some (.int .u64 ((w / 2 : Nat) : Int)) ∧ convI .i64 (.int .u64 ((w / 2 : Nat) : Int)) = some (.int .i64 ((w / 2 : Nat) : Int)) := by
  refine ⟨?_, ?_, ?_⟩
  · show some (AVal.int .u64 (wrapK .u64 (w : Int))) = _
    rw [show wrapK .u64 (w : Int) = w by simp only [wrapK]; rw [wrapM_eq _ _ _ (by omega) (by omega)]; split <;> omega]
  · show frc ((w : Int).fdiv ((2 ^ (min 1 (IntKind.bits .u64)) : Nat) : Int)) (fun n => some (AVal.int .u64 n)) = _
    rw [frc_eq, Nat.min_eq_left (show 1 ≤ IntKind.bits .u64 by decide), Int.fdiv_eq_ediv_of_nonneg _ (Int.natCast_nonneg _), ← Int.natCast_ediv]
  · show some (AVal.int .i64 (wrapK .i64 ((w / 2 : Nat) : Int))) = _
    rw [show wrapK .i64 ((w / 2 : Nat) : Int) = ((w / 2 : Nat) : Int) by simp only [wrapK]; rw [wrapM_eq _ _ _ (by omega) (by omega)]; split <;> omega]
theorem swpC_comm {i j : Nat} (h : i ≠ j) : swpC l i j = swpC l j i := by
  unfold swpC
  rw [List.set_comm _ _ h]
theorem shift_right {P U R : List Cd} {y u : Cd} : swpC (P ++ U ++ [u] ++ y :: R) (P.length + U.length) (P.length + U.length + 1) = P ++ U ++ y :: u :: R := by
  rw [swpC_comm (by omega)]
  exact shift_left
/-- one element before a sorted list -/
theorem one_l_in {P Y Q : List Cd} {x : Cd} {a m b k : Nat} (h : CAt s db (P ++ [x] ++ Y ++ Q)) (hk : k = (P ++ [x] ++ Y ++ Q).length) (hl : k ≤ 100000) (ha : a = P.length) (hm : m = a + 1) (hb : b = m + Y.length) (hY : Srt Y)
    (hK : ∀ s' Z, CAt s' db (P ++ Z ++ Q) → Mrg [x] Y Z → KB db s s' → K (.tup []) s') :
    ∃ I0 : List AVal → Heap → Nat → Prop, (∃ m', I0 [.int .i64 (m : Int), .int .i64 (b : Int)] s m') ∧ ∀ (f : Env) (s : Heap) (m0 : Nat), I0 [f 10, f 11] s m0 →
      vc_slices_symMergeCmpFunc_api_Candidate__l0 XX (.slc db 0 k none 2) (.int .i64 (a : Int)) cmpv (f 10) (f 11) I0 m0 K s := by
  have hlen : k = P.length + 1 + Y.length + Q.length := by rw [hk]; simp only [List.length_append, List.length_singleton]
  have hcx : cAt (P ++ [x] ++ Y ++ Q) a = x := by
    rw [show P ++ [x] ++ Y ++ Q = P ++ x :: (Y ++ Q) by simp]
    exact cAt_mid ha
  have hcy : ∀ i, i < Y.length → cAt (P ++ [x] ++ Y ++ Q) (m + i) = cAt Y i := fun i hi => by
    rw [cAt_app, if_pos (by simp only [List.length_append, List.length_singleton]; omega), cAt_app, if_neg (by simp only [List.length_append, List.length_singleton]; omega)]
    congr 1
    simp only [List.length_append, List.length_singleton]
    omega
  refine ⟨fun ys t c => ∃ i j : Nat, ys = [.int .i64 ((m + i : Nat) : Int), .int .i64 ((m + j : Nat) : Int)] ∧ i ≤ j ∧ j ≤ Y.length ∧ c = j - i ∧ Sub s t ∧ (0 < i → (cAt Y (i - 1)).1 < x.1) ∧ (j < Y.length → x.1 ≤ (cAt Y j).1), ⟨_, 0, Y.length, by rw [hb]; rfl, by omega, Nat.le_refl _, rfl, .refl s, fun h => absurd h (by omega), fun h => absurd h (by omega)⟩, ?_⟩
  rintro f t c ⟨i, j, hy, hij, hj, rfl, st, k1, k2⟩
  simp only [List.cons.injEq, and_true] at hy
  rw [hy.1, hy.2]
  have ht := h.sub st
  simp only [vc_slices_symMergeCmpFunc_api_Candidate__l0, arith_lss, optK_mk]
  refine boolK_mk (fun hlt => ?_) (fun hge => ?_)
  · have hlt : i < j := by have := of_decide_eq_true hlt; omega
    have e1 : IntKind.i64.wrap (((m + i : Nat) : Int) + ((m + j : Nat) : Int)) = ((2 * m + i + j : Nat) : Int) := by rw [wrap64 (by omega) (by omega)]; omega
    obtain ⟨q1, q2, q3⟩ := half_mk (w := 2 * m + i + j) (by omega)
    have e2 : (2 * m + i + j) / 2 = m + (i + j) / 2 := by omega
    rw [e2] at q2 q3
    have hh : (i + j) / 2 < j := by omega
    have r1 := ht.row (i := m + (i + j) / 2) (by rw [← hk]; omega)
    have r2 := ht.row (i := a) (by rw [← hk]; omega)
    rw [hcy _ (by omega)] at r1
    rw [hcx] at r2
    simp only [arith_add, e1, q1, q2, q3, c_ad (show m + (i + j) / 2 < k by omega), c_ad (show a < k by omega), r1, r2, optK_mk]
    refine cmp_in fun s3 r sub3 hr => ?_
    simp only [arith_lss, optK_mk]
    refine boolK_mk (fun hc => ?_) (fun hc => ?_)
    · have hc := hr.1 (of_decide_eq_true hc)
      rw [wrap64 (by omega) (by omega)]
      exact ⟨_, by omega, (i + j) / 2 + 1, j, by rw [show ((m + ((i + j) / 2 + 1) : Nat) : Int) = ((m + (i + j) / 2 : Nat) : Int) + 1 by omega], by omega, hj, rfl, st.trans sub3, fun _ => by rw [Nat.add_sub_cancel]; exact hc, k2⟩
    · have hc : x.1 ≤ (cAt Y ((i + j) / 2)).1 := by
        have : ¬ (cAt Y ((i + j) / 2)).1 < x.1 := fun q => of_decide_eq_false hc (hr.2 q)
        omega
      exact ⟨_, by omega, i, (i + j) / 2, rfl, by omega, by omega, rfl, st.trans sub3, k1, fun _ => hc⟩
  · have hge : i = j := by have := of_decide_eq_false hge; omega
    subst hge
    obtain ⟨p1, p2⟩ := ins_cut_l hY hj k1 k2
    have mg : Mrg [x] Y (Y.take i ++ x :: Y.drop i) := by
      have := Mrg.one_l (a := x) (V := Y.take i) (B := Y.drop i) (by rw [List.take_append_drop]; exact hY) p1 p2
      rwa [List.take_append_drop] at this
    refine ⟨fun ys t c => ∃ n : Nat, ys = [.int .i64 ((a + n : Nat) : Int)] ∧ n ≤ i ∧ c = i - n ∧ CAt t db (P ++ Y.take n ++ x :: (Y.drop n ++ Q)) ∧ KB db s t, ⟨_, 0, rfl, by omega, rfl, by simpa using ht, st.keep⟩, ?_⟩
    rintro f t2 c ⟨n, hy2, hn, rfl, h2, kp⟩
    simp only [List.cons.injEq, and_true] at hy2
    rw [hy2]
    have e1 : IntKind.i64.wrap (((m + i : Nat) : Int) - 1) = ((a + i : Nat) : Int) := by rw [wrap64 (by omega) (by omega)]; omega
    simp only [vc_slices_symMergeCmpFunc_api_Candidate__l1, arith_sub, e1, arith_lss, optK_mk]
    refine boolK_mk (fun hlt => ?_) (fun hge => ?_)
    · have hlt : n < i := by have := of_decide_eq_true hlt; omega
      have hny : n < Y.length := by omega
      have ltk : (Y.take n).length = n := by rw [List.length_take]; omega
      obtain ⟨u, hu, ed⟩ : ∃ u, Y[n]? = some u ∧ Y.drop n = u :: Y.drop (n + 1) := ⟨Y[n], List.getElem?_eq_getElem hny, List.drop_eq_getElem_cons hny⟩
      have lk : (P ++ Y.take n ++ x :: (Y.drop n ++ Q)).length = k := by
        simp only [List.length_append, List.length_cons, List.length_drop, ltk]; omega
      have e2 : IntKind.i64.wrap (((a + n : Nat) : Int) + 1) = ((a + n + 1 : Nat) : Int) := by rw [wrap64 (by omega) (by omega)]; omega
      have c1 : cAt (P ++ Y.take n ++ x :: (Y.drop n ++ Q)) (a + n) = x := cAt_mid (by rw [List.length_append, ltk]; omega)
      have c2 : cAt (P ++ Y.take n ++ x :: (Y.drop n ++ Q)) (a + n + 1) = u := by
        rw [ed, show P ++ Y.take n ++ x :: (u :: Y.drop (n + 1) ++ Q) = (P ++ Y.take n ++ [x]) ++ u :: (Y.drop (n + 1) ++ Q) by simp]
        exact cAt_mid (by simp only [List.length_append, ltk, List.length_singleton]; omega)
      have r1 := h2.row (i := a + n) (by rw [lk]; omega)
      have r2 := h2.row (i := a + n + 1) (by rw [lk]; omega)
      rw [c1] at r1
      rw [c2] at r2
      simp only [arith_add, e2, c_ad (show a + n + 1 < k by omega), c_ad (show a + n < k by omega), r1, r2, optK_mk]
      refine h2.swap2 (by rw [lk]; omega) (by rw [lk]; omega) c1 c2 fun s4 h4 u4 => ?_
      refine ⟨_, by omega, n + 1, by rw [show a + (n + 1) = a + n + 1 by omega], by omega, rfl, ?_, kp.trans (u4.keep rfl)⟩
      have e := shift_right (P := P) (U := Y.take n) (R := Y.drop (n + 1) ++ Q) (y := u) (u := x)
      rw [ed, show P ++ Y.take n ++ x :: (u :: Y.drop (n + 1) ++ Q) = P ++ Y.take n ++ [x] ++ u :: (Y.drop (n + 1) ++ Q) by simp, show a + n = P.length + (Y.take n).length by rw [ltk]; omega, e] at h4
      rw [List.take_add_one, hu]
      simpa [List.append_assoc] using h4
    · have hge : n = i := by have := of_decide_eq_false hge; omega
      subst hge
      refine hK t2 _ ?_ mg kp
      simpa [List.append_assoc] using h2
end Go.AM.SG
namespace Go.AM.SG
open Go Go.AM Go.Proofs
variable {K : AVal → Heap → Prop} {s s' s0 : Heap} {db : Nat} {l : List Cd}
/-- one element behind a sorted list -/
theorem one_r_in {P X Q : List Cd} {y : Cd} {a m k : Nat} (h : CAt s db (P ++ X ++ [y] ++ Q)) (hk : k = (P ++ X ++ [y] ++ Q).length) (hl : k ≤ 100000) (ha : a = P.length) (hm : m = a + X.length) (hX : Srt X)
    (hK : ∀ s' Z, CAt s' db (P ++ Z ++ Q) → Mrg X [y] Z → KB db s s' → K (.tup []) s') :
    ∃ I2 : List AVal → Heap → Nat → Prop, (∃ m', I2 [.int .i64 (a : Int), .int .i64 (m : Int)] s m') ∧ ∀ (f : Env) (s : Heap) (m2 : Nat), I2 [f 14, f 15] s m2 →
      vc_slices_symMergeCmpFunc_api_Candidate__l2 XX (.slc db 0 k none 2) (.int .i64 (m : Int)) cmpv (f 14) (f 15) I2 m2 K s := by
  have hlen : k = P.length + X.length + 1 + Q.length := by rw [hk]; simp only [List.length_append, List.length_singleton]
  have hcy : cAt (P ++ X ++ [y] ++ Q) m = y := by
    rw [show P ++ X ++ [y] ++ Q = (P ++ X) ++ y :: Q by simp]
    exact cAt_mid (by rw [List.length_append]; omega)
  have hcx : ∀ i, i < X.length → cAt (P ++ X ++ [y] ++ Q) (a + i) = cAt X i := fun i hi => by
    rw [cAt_app, if_pos (by simp only [List.length_append, List.length_singleton]; omega), cAt_app, if_pos (by simp only [List.length_append]; omega), cAt_app, if_neg (by omega)]
    congr 1
    omega
  refine ⟨fun ys t c => ∃ i j : Nat, ys = [.int .i64 ((a + i : Nat) : Int), .int .i64 ((a + j : Nat) : Int)] ∧ i ≤ j ∧ j ≤ X.length ∧ c = j - i ∧ Sub s t ∧ (0 < i → (cAt X (i - 1)).1 ≤ y.1) ∧ (j < X.length → y.1 < (cAt X j).1), ⟨_, 0, X.length, by rw [hm]; rfl, by omega, Nat.le_refl _, rfl, .refl s, fun h => absurd h (by omega), fun h => absurd h (by omega)⟩, ?_⟩
  rintro f t c ⟨i, j, hy, hij, hj, rfl, st, k1, k2⟩
  simp only [List.cons.injEq, and_true] at hy
  rw [hy.1, hy.2]
  have ht := h.sub st
  simp only [vc_slices_symMergeCmpFunc_api_Candidate__l2, arith_lss, optK_mk]
  refine boolK_mk (fun hlt => ?_) (fun hge => ?_)
  · have hlt : i < j := by have := of_decide_eq_true hlt; omega
    have e1 : IntKind.i64.wrap (((a + i : Nat) : Int) + ((a + j : Nat) : Int)) = ((2 * a + i + j : Nat) : Int) := by rw [wrap64 (by omega) (by omega)]; omega
    obtain ⟨q1, q2, q3⟩ := half_mk (w := 2 * a + i + j) (by omega)
    have e2 : (2 * a + i + j) / 2 = a + (i + j) / 2 := by omega
    rw [e2] at q2 q3
    have hh : (i + j) / 2 < j := by omega
    have r1 := ht.row (i := a + (i + j) / 2) (by rw [← hk]; omega)
    have r2 := ht.row (i := m) (by rw [← hk]; omega)
    rw [hcx _ (by omega)] at r1
    rw [hcy] at r2
    simp only [arith_add, e1, q1, q2, q3, c_ad (show a + (i + j) / 2 < k by omega), c_ad (show m < k by omega), r1, r2, optK_mk]
    refine cmp_in fun s3 r sub3 hr => ?_
    simp only [arith_lss, unary_not, optK_mk]
    by_cases hc : r < 0
    · rw [decide_eq_true hc]
      simp only [Bool.not_true, boolK_false]
      exact ⟨_, by omega, i, (i + j) / 2, rfl, by omega, by omega, rfl, st.trans sub3, k1, fun _ => hr.1 hc⟩
    · rw [decide_eq_false hc]
      have hc : (cAt X ((i + j) / 2)).1 ≤ y.1 := by
        have : ¬ y.1 < (cAt X ((i + j) / 2)).1 := fun q => hc (hr.2 q)
        omega
      simp only [Bool.not_false, boolK_true]
      rw [wrap64 (by omega) (by omega)]
      exact ⟨_, by omega, (i + j) / 2 + 1, j, by rw [show ((a + ((i + j) / 2 + 1) : Nat) : Int) = ((a + (i + j) / 2 : Nat) : Int) + 1 by omega], by omega, hj, rfl, st.trans sub3, fun _ => by rw [Nat.add_sub_cancel]; exact hc, k2⟩
  · have hge : i = j := by have := of_decide_eq_false hge; omega
    subst hge
    obtain ⟨p1, p2⟩ := ins_cut hX hj k1 k2
    have mg : Mrg X [y] (X.take i ++ y :: X.drop i) := by
      have := Mrg.one_r (y := y) (A := X.take i) (U := X.drop i) (by rw [List.take_append_drop]; exact hX) p1 p2
      rwa [List.take_append_drop] at this
    refine ⟨fun ys t c => ∃ n : Nat, ys = [.int .i64 ((a + n : Nat) : Int)] ∧ i ≤ n ∧ n ≤ X.length ∧ c = n - i ∧ CAt t db (P ++ X.take n ++ y :: (X.drop n ++ Q)) ∧ KB db s t, ⟨_, X.length, by rw [hm], hj, Nat.le_refl _, rfl, by simpa using ht, st.keep⟩, ?_⟩
    rintro f t2 c ⟨n, hy2, hn, hnX, rfl, h2, kp⟩
    simp only [List.cons.injEq, and_true] at hy2
    rw [hy2]
    simp only [vc_slices_symMergeCmpFunc_api_Candidate__l3, arith_gtr, optK_mk]
    refine boolK_mk (fun hlt => ?_) (fun hge => ?_)
    · have hlt : i < n := by have := of_decide_eq_true hlt; omega
      obtain ⟨n, rfl⟩ : ∃ n', n = n' + 1 := ⟨n - 1, by omega⟩
      have hny : n < X.length := by omega
      have ltk : (X.take n).length = n := by rw [List.length_take]; omega
      obtain ⟨u, hu, ed⟩ : ∃ u, X[n]? = some u ∧ X.drop n = u :: X.drop (n + 1) := ⟨X[n], List.getElem?_eq_getElem hny, List.drop_eq_getElem_cons hny⟩
      have et : X.take (n + 1) = X.take n ++ [u] := by rw [List.take_add_one, hu]; rfl
      rw [et] at h2
      have lk : (P ++ (X.take n ++ [u]) ++ y :: (X.drop (n + 1) ++ Q)).length = k := by
        simp only [List.length_append, List.length_cons, List.length_drop, ltk, List.length_nil]; omega
      have e2 : IntKind.i64.wrap (((a + (n + 1) : Nat) : Int) - 1) = ((a + n : Nat) : Int) := by rw [wrap64 (by omega) (by omega)]; omega
      have c1 : cAt (P ++ (X.take n ++ [u]) ++ y :: (X.drop (n + 1) ++ Q)) (a + (n + 1)) = y := cAt_mid (by simp only [List.length_append, ltk, List.length_singleton]; omega)
      have c2 : cAt (P ++ (X.take n ++ [u]) ++ y :: (X.drop (n + 1) ++ Q)) (a + n) = u := by
        rw [show P ++ (X.take n ++ [u]) ++ y :: (X.drop (n + 1) ++ Q) = (P ++ X.take n) ++ u :: (y :: (X.drop (n + 1) ++ Q)) by simp]
        exact cAt_mid (by rw [List.length_append, ltk]; omega)
      have r1 := h2.row (i := a + (n + 1)) (by rw [lk]; omega)
      have r2 := h2.row (i := a + n) (by rw [lk]; omega)
      rw [c1] at r1
      rw [c2] at r2
      simp only [arith_sub, e2, c_ad (show a + (n + 1) < k by omega), c_ad (show a + n < k by omega), r1, r2, optK_mk]
      refine h2.swap2 (by rw [lk]; omega) (by rw [lk]; omega) c1 c2 fun s4 h4 u4 => ?_
      refine ⟨_, by omega, n, rfl, by omega, by omega, rfl, ?_, kp.trans (u4.keep rfl)⟩
      have e := shift_left (P := P) (U := X.take n) (R := X.drop (n + 1) ++ Q) (y := y) (u := u)
      rw [show P ++ (X.take n ++ [u]) ++ y :: (X.drop (n + 1) ++ Q) = P ++ X.take n ++ [u] ++ y :: (X.drop (n + 1) ++ Q) by simp, show a + (n + 1) = P.length + (X.take n).length + 1 by rw [ltk]; omega, show a + n = P.length + (X.take n).length by rw [ltk]; omega, e] at h4
      rw [ed]
      simpa [List.append_assoc] using h4
    · have hge : n = i := by have := of_decide_eq_false hge; omega
      subst hge
      refine hK t2 _ ?_ mg kp
      simpa [List.append_assoc] using h2
end Go.AM.SG
namespace Go.AM.SG
open Go Go.AM Go.Proofs
theorem len0 {l : List Cd} (h : l = []) : l.length = 0 := by rw [h]; rfl
set_option maxHeartbeats 1000000 in
/-- a symmetric merge -/
theorem sym_in : ∀ (N : Nat) {P X Y Q : List Cd} {a m b k db : Nat} {s : Heap} {K : AVal → Heap → Prop}, X.length + Y.length ≤ N → CAt s db (P ++ X ++ Y ++ Q) → k = (P ++ X ++ Y ++ Q).length → k ≤ 100000 → a = P.length → m = a + X.length → b = m + Y.length → X ≠ [] → Y ≠ [] → Srt X → Srt Y →
    (∀ s' Z, CAt s' db (P ++ Z ++ Q) → Mrg X Y Z → KB db s s' → K (.tup []) s') → wpCall Tryd.prog XX 67 [.slc db 0 k none 2, .int .i64 (a : Int), .int .i64 (m : Int), .int .i64 (b : Int), cmpv] K s
  | 0, P, X, Y, Q, a, m, b, k, db, s, K, hN, h, hk, hl, ha, hm, hb, hX, hY, sX, sY, hK => by
    have := List.length_pos_iff.2 hX
    omega
  | N + 1, P, X, Y, Q, a, m, b, k, db, s, K, hN, h, hk, hl, ha, hm, hb, hX, hY, sX, sY, hK => by
    have lx := List.length_pos_iff.2 hX
    have ly := List.length_pos_iff.2 hY
    have hlen : k = P.length + X.length + Y.length + Q.length := by rw [hk]; simp only [List.length_append]
    refine vc_slices_symMergeCmpFunc_api_Candidate__in ?_
    have e1 : IntKind.i64.wrap ((m : Int) - a) = ((X.length : Nat) : Int) := by rw [wrap64 (by omega) (by omega)]; omega
    have e2 : IntKind.i64.wrap ((b : Int) - m) = ((Y.length : Nat) : Int) := by rw [wrap64 (by omega) (by omega)]; omega
    simp only [vc_slices_symMergeCmpFunc_api_Candidate_, arith_sub, e1, e2, eqV_int, negB_mk, Bool.false_bne, optK_mk]
    cases c1 : (((X.length : Nat) : Int) == 1) with
    | true =>
      have c1 : X.length = 1 := by have := eq_of_beq c1; omega
      obtain ⟨x, rfl⟩ := List.length_eq_one_iff.1 c1
      simp only [boolK_true]
      exact one_l_in h hk hl ha hm hb sY hK
    | false =>
    simp only [boolK_false]
    cases c2 : (((Y.length : Nat) : Int) == 1) with
    | true =>
      have c2 : Y.length = 1 := by have := eq_of_beq c2; omega
      obtain ⟨y, rfl⟩ := List.length_eq_one_iff.1 c2
      simp only [boolK_true]
      exact one_r_in h hk hl ha hm sX hK
    | false =>
    have c1 : X.length ≠ 1 := fun q => by rw [q] at c1; cases c1
    have c2 : Y.length ≠ 1 := fun q => by rw [q] at c2; cases c2
    simp only [boolK_false]
    obtain ⟨μ, hμ⟩ : ∃ μ, μ = (X.length + Y.length) / 2 := ⟨_, rfl⟩
    have e3 : IntKind.i64.wrap ((a : Int) + b) = ((a + b : Nat) : Int) := by rw [wrap64 (by omega) (by omega)]; omega
    obtain ⟨q1, q2, q3⟩ := half_mk (w := a + b) (by omega)
    have e4 : (a + b) / 2 = a + μ := by omega
    rw [e4] at q2 q3
    have e5 : IntKind.i64.wrap (((a + μ : Nat) : Int) + m) = ((a + μ + m : Nat) : Int) := by rw [wrap64 (by omega) (by omega)]; omega
    simp only [arith_add, e3, q1, q2, q3, e5, arith_gtr, arith_sub, optK_mk]
    -- what comes once the bounds of the search are laid
    have main : ∀ σ ρ : Nat, SymS X Y μ σ ρ → vc_slices_symMergeCmpFunc_api_Candidate__j4 XX (.slc db 0 k none 2) (.int .i64 (a : Int)) (.int .i64 (m : Int)) (.int .i64 (b : Int)) cmpv (.int .i64 ((a + μ : Nat) : Int)) (.int .i64 ((a + μ + m : Nat) : Int)) (.int .i64 ((a + σ : Nat) : Int)) (.int .i64 ((a + ρ : Nat) : Int)) K s := by
      intro σ ρ h0
      have e6 : IntKind.i64.wrap (((a + μ + m : Nat) : Int) - 1) = ((a + μ + m - 1 : Nat) : Int) := by rw [wrap64 (by omega) (by omega)]; omega
      simp only [vc_slices_symMergeCmpFunc_api_Candidate__j4, arith_sub, e6, optK_mk]
      refine ⟨fun ys t c => ∃ σ ρ : Nat, ys = [.int .i64 ((a + σ : Nat) : Int), .int .i64 ((a + ρ : Nat) : Int)] ∧ c = ρ - σ ∧ Sub s t ∧ SymS X Y μ σ ρ, ⟨_, σ, ρ, rfl, rfl, .refl s, h0⟩, ?_⟩
      rintro f t c ⟨σ, ρ, hy, rfl, st, hs⟩
      simp only [List.cons.injEq, and_true] at hy
      rw [hy.1, hy.2]
      have ht := h.sub st
      have hle := hs.le
      have hlo := hs.lo
      have hhi := hs.hi
      simp only [vc_slices_symMergeCmpFunc_api_Candidate__l5, arith_lss, optK_mk]
      refine boolK_mk (fun hlt => ?_) (fun hge => ?_)
      · have hlt : σ < ρ := by have := of_decide_eq_true hlt; omega
        obtain ⟨γ, hγ⟩ : ∃ γ, γ = (σ + ρ) / 2 := ⟨_, rfl⟩
        have g1 : σ ≤ γ ∧ γ < ρ := by omega
        have g2 : γ < X.length ∧ γ + 1 ≤ μ ∧ μ - 1 - γ < Y.length := by
          by_cases c : μ < X.length
          · rw [if_pos c] at hlo hhi; omega
          · rw [if_neg c] at hlo hhi; omega
        have e7 : IntKind.i64.wrap (((a + σ : Nat) : Int) + ((a + ρ : Nat) : Int)) = ((2 * a + σ + ρ : Nat) : Int) := by rw [wrap64 (by omega) (by omega)]; omega
        obtain ⟨q1, q2, q3⟩ := half_mk (w := 2 * a + σ + ρ) (by omega)
        have e8 : (2 * a + σ + ρ) / 2 = a + γ := by omega
        rw [e8] at q2 q3
        have e9 : IntKind.i64.wrap (((a + μ + m - 1 : Nat) : Int) - ((a + γ : Nat) : Int)) = ((m + (μ - 1 - γ) : Nat) : Int) := by rw [wrap64 (by omega) (by omega)]; omega
        have cx : cAt (P ++ X ++ Y ++ Q) (a + γ) = cAt X γ := by
          rw [cAt_app, if_pos (by simp only [List.length_append]; omega), cAt_app, if_pos (by simp only [List.length_append]; omega), cAt_app, if_neg (by omega)]
          congr 1
          omega
        have cy : cAt (P ++ X ++ Y ++ Q) (m + (μ - 1 - γ)) = cAt Y (μ - 1 - γ) := by
          rw [cAt_app, if_pos (by simp only [List.length_append]; omega), cAt_app, if_neg (by simp only [List.length_append]; omega)]
          congr 1
          simp only [List.length_append]
          omega
        have r1 := ht.row (i := a + γ) (by rw [← hk]; omega)
        have r2 := ht.row (i := m + (μ - 1 - γ)) (by rw [← hk]; omega)
        rw [cx] at r1
        rw [cy] at r2
        simp only [arith_add, e7, q1, q2, q3, arith_sub, e9, c_ad (show m + (μ - 1 - γ) < k by omega), c_ad (show a + γ < k by omega), r1, r2, optK_mk]
        refine cmp_in fun s3 r sub3 hr => ?_
        simp only [arith_lss, unary_not, optK_mk]
        by_cases hc : r < 0
        · rw [decide_eq_true hc]
          simp only [Bool.not_true, boolK_false]
          exact ⟨_, by omega, σ, γ, rfl, rfl, st.trans sub3, g1.1, hlo, by omega, hs.s1, fun _ => hr.1 hc⟩
        · rw [decide_eq_false hc]
          have hc : (cAt X γ).1 ≤ (cAt Y (μ - 1 - γ)).1 := by
            have : ¬ (cAt Y (μ - 1 - γ)).1 < (cAt X γ).1 := fun q => hc (hr.2 q)
            omega
          simp only [Bool.not_false, boolK_true]
          rw [wrap64 (by omega) (by omega)]
          refine ⟨_, by omega, γ + 1, ρ, by rw [show ((a + (γ + 1) : Nat) : Int) = ((a + γ : Nat) : Int) + 1 by omega], rfl, st.trans sub3, by omega, by omega, hhi, fun _ => ?_, hs.s2⟩
          rw [Nat.add_sub_cancel, show μ - (γ + 1) = μ - 1 - γ by omega]
          exact hc
      · have hge : σ = ρ := by have := of_decide_eq_false hge; omega
        subst hge
        obtain ⟨k1, k2, k3, k4, k5⟩ := hs.cut sX sY hμ
        obtain ⟨A, hA⟩ : ∃ A, A = X.take σ := ⟨_, rfl⟩
        obtain ⟨V0, hU⟩ : ∃ U, U = X.drop σ := ⟨_, rfl⟩
        obtain ⟨V, hV⟩ : ∃ V, V = Y.take (μ - σ) := ⟨_, rfl⟩
        obtain ⟨B, hB⟩ : ∃ B, B = Y.drop (μ - σ) := ⟨_, rfl⟩
        have eX : X = A ++ V0 := by rw [hA, hU, List.take_append_drop]
        have eY : Y = V ++ B := by rw [hV, hB, List.take_append_drop]
        have lA : A.length = σ := by rw [hA, List.length_take]; omega
        have lU : V0.length = X.length - σ := by rw [hU, List.length_drop]
        have lV : V.length = μ - σ := by rw [hV, List.length_take]; omega
        have lB : B.length = Y.length - (μ - σ) := by rw [hB, List.length_drop]
        rw [← hA, ← hB] at k4
        rw [← hU, ← hV] at k5
        have sA : Srt A := by rw [eX] at sX; exact sX.parts.1
        have sU : Srt V0 := by rw [eX] at sX; exact sX.parts.2.1
        have sV : Srt V := by rw [eY] at sY; exact sY.parts.1
        have sB : Srt B := by rw [eY] at sY; exact sY.parts.2.1
        clear hA hU hV hB
        have e7 : IntKind.i64.wrap (((a + μ + m : Nat) : Int) - ((a + σ : Nat) : Int)) = ((m + (μ - σ) : Nat) : Int) := by rw [wrap64 (by omega) (by omega)]; omega
        -- behind the merge of the first half
        have tail9 : ∀ (t : Heap) (Z : List Cd), CAt t db (P ++ Z ++ V0 ++ B ++ Q) → Mrg A V Z → KB db s t → vc_slices_symMergeCmpFunc_api_Candidate__j9 XX (.slc db 0 k none 2) (.int .i64 (b : Int)) cmpv (.int .i64 ((a + μ : Nat) : Int)) (.int .i64 ((m + (μ - σ) : Nat) : Int)) K t := fun t Z h1 mz kp => by
          have lZ : Z.length = μ := by rw [mz.len, lA, lV]; omega
          have whole : ∀ (t : Heap) (W : List Cd), CAt t db (P ++ Z ++ W ++ Q) → Mrg V0 B W → KB db s t → K (.tup []) t := fun t W h2 mw kp2 => by
            refine hK t (Z ++ W) (by simpa [List.append_assoc] using h2) ?_ kp2
            rw [eX, eY]
            exact Mrg.halves (by rw [← eX]; exact sX) (by rw [← eY]; exact sY) k4 k5 mz mw
          simp only [vc_slices_symMergeCmpFunc_api_Candidate__j9, arith_lss, optK_mk]
          by_cases d1 : V0 = []
          · rw [decide_eq_false (show ¬ ((a + μ : Nat) : Int) < ((m + (μ - σ) : Nat) : Int) by have := len0 d1; omega)]
            simp only [boolK_false, vc_slices_symMergeCmpFunc_api_Candidate__j10, pickV_false, optK_mk]
            refine whole t B ?_ (by rw [d1]; exact Mrg.nil_l sB) kp
            rw [d1, List.append_nil] at h1
            exact h1
          have lU0 := List.length_pos_iff.2 d1
          rw [decide_eq_true (show ((a + μ : Nat) : Int) < ((m + (μ - σ) : Nat) : Int) by omega)]
          simp only [boolK_true]
          by_cases d2 : B = []
          · rw [decide_eq_false (show ¬ ((m + (μ - σ) : Nat) : Int) < (b : Int) by have := len0 d2; omega)]
            simp only [vc_slices_symMergeCmpFunc_api_Candidate__j10, pickV_true, boolK_false, optK_mk]
            refine whole t V0 ?_ (by rw [d2]; exact Mrg.nil_r sU) kp
            rw [d2, List.append_nil] at h1
            exact h1
          have lB0 := List.length_pos_iff.2 d2
          rw [decide_eq_true (show ((m + (μ - σ) : Nat) : Int) < (b : Int) by omega)]
          simp only [vc_slices_symMergeCmpFunc_api_Candidate__j10, pickV_true, boolK_true, optK_mk]
          refine sym_in N (P := P ++ Z) (X := V0) (Y := B) (Q := Q) (by omega) h1 (by simp only [List.length_append]; omega) hl (by rw [List.length_append]; omega) (by omega) (by omega) d1 d2 sU sB fun t2 W h2 mw kp2 => whole t2 W h2 mw (kp.trans kp2)
        have tail7 : ∀ t : Heap, CAt t db (P ++ A ++ V ++ V0 ++ B ++ Q) → KB db s t → vc_slices_symMergeCmpFunc_api_Candidate__j7 XX (.slc db 0 k none 2) (.int .i64 (a : Int)) (.int .i64 (b : Int)) cmpv (.int .i64 ((a + μ : Nat) : Int)) (.int .i64 ((a + σ : Nat) : Int)) (.int .i64 ((m + (μ - σ) : Nat) : Int)) K t := fun t h1 kp => by
          simp only [vc_slices_symMergeCmpFunc_api_Candidate__j7, arith_lss, optK_mk]
          by_cases d1 : A = []
          · rw [decide_eq_false (show ¬ (a : Int) < ((a + σ : Nat) : Int) by have := len0 d1; omega)]
            simp only [boolK_false, vc_slices_symMergeCmpFunc_api_Candidate__j8, pickV_false, optK_mk]
            refine tail9 t V ?_ (by rw [d1]; exact Mrg.nil_l sV) kp
            rw [d1, List.append_nil] at h1
            exact h1
          have lA0 := List.length_pos_iff.2 d1
          rw [decide_eq_true (show (a : Int) < ((a + σ : Nat) : Int) by omega)]
          simp only [boolK_true]
          by_cases d2 : V = []
          · rw [decide_eq_false (show ¬ ((a + σ : Nat) : Int) < ((a + μ : Nat) : Int) by have := len0 d2; omega)]
            simp only [vc_slices_symMergeCmpFunc_api_Candidate__j8, pickV_true, boolK_false, optK_mk]
            refine tail9 t A ?_ (by rw [d2]; exact Mrg.nil_r sA) kp
            rw [d2, List.append_nil] at h1
            exact h1
          have lV0 := List.length_pos_iff.2 d2
          rw [decide_eq_true (show ((a + σ : Nat) : Int) < ((a + μ : Nat) : Int) by omega)]
          simp only [vc_slices_symMergeCmpFunc_api_Candidate__j8, pickV_true, boolK_true, optK_mk]
          refine sym_in N (P := P) (X := A) (Y := V) (Q := V0 ++ B ++ Q) (by omega) (by simpa [List.append_assoc] using h1) (by simp only [List.length_append]; omega) hl ha (by omega) (by omega) d1 d2 sA sV fun t2 Z h2 mz kp2 => tail9 t2 Z (by simpa [List.append_assoc] using h2) mz (kp.trans kp2)
        simp only [arith_sub, e7, optK_mk]
        have ht2 : CAt t db (P ++ A ++ V0 ++ V ++ (B ++ Q)) := by
          rw [eX, eY] at ht
          simpa [List.append_assoc] using ht
        by_cases d1 : V0 = []
        · rw [decide_eq_false (show ¬ ((a + σ : Nat) : Int) < (m : Int) by have := len0 d1; omega)]
          simp only [boolK_false, vc_slices_symMergeCmpFunc_api_Candidate__j6, pickV_false, optK_mk]
          refine tail7 t ?_ st.keep
          rw [d1] at ht2 ⊢
          simpa [List.append_assoc] using ht2
        have lU0 := List.length_pos_iff.2 d1
        rw [decide_eq_true (show ((a + σ : Nat) : Int) < (m : Int) by omega)]
        simp only [boolK_true, arith_lss, optK_mk]
        by_cases d2 : V = []
        · rw [decide_eq_false (show ¬ (m : Int) < ((m + (μ - σ) : Nat) : Int) by have := len0 d2; omega)]
          simp only [vc_slices_symMergeCmpFunc_api_Candidate__j6, pickV_true, boolK_false, optK_mk]
          refine tail7 t ?_ st.keep
          rw [d2] at ht2 ⊢
          simpa [List.append_assoc] using ht2
        have lV0 := List.length_pos_iff.2 d2
        rw [decide_eq_true (show (m : Int) < ((m + (μ - σ) : Nat) : Int) by omega)]
        simp only [vc_slices_symMergeCmpFunc_api_Candidate__j6, pickV_true, boolK_true, optK_mk]
        refine rotate_in (P := P ++ A) (X := V0) (Y := V) (Q := B ++ Q) ht2 (by simp only [List.length_append]; omega) hl (by rw [List.length_append]; omega) (by omega) (by omega) d1 d2 fun t2 h2 kp2 => tail7 t2 (by simpa [List.append_assoc] using h2) (st.keep.trans kp2)
    refine boolK_mk (fun hc => ?_) (fun hc => ?_)
    · have hc : μ < X.length := by have := of_decide_eq_true hc; omega
      have e6 : IntKind.i64.wrap (((a + μ + m : Nat) : Int) - (b : Int)) = ((a + (μ - Y.length) : Nat) : Int) := by rw [wrap64 (by omega) (by omega)]; omega
      rw [e6]
      refine main (μ - Y.length) μ ⟨by omega, by rw [if_pos hc]; exact Nat.le_refl _, by rw [if_pos hc]; exact Nat.le_refl _, fun q => ?_, fun q => ?_⟩
      · rw [if_pos hc] at q; omega
      · rw [if_pos hc] at q; omega
    · have hc : ¬ μ < X.length := by have := of_decide_eq_false hc; omega
      have := main 0 X.length ⟨by omega, by rw [if_neg hc]; exact Nat.le_refl _, by rw [if_neg hc]; exact Nat.le_refl _, fun q => ?_, fun q => ?_⟩
      · rw [Nat.add_zero, ← hm] at this
        exact this
      · rw [if_neg hc] at q; omega
      · rw [if_neg hc] at q; omega
end Go.AM.SG
namespace Go.AM.SG
open Go Go.AM Go.Proofs
variable {K : AVal → Heap → Prop} {s s' s0 : Heap} {db : Nat} {l l' : List Cd}
/-! ### stable sorting -/
/-- sorted inside the blocks of a size -/
def SR (l : List Cd) (lo hi bs : Nat) : Prop := ∀ i j, lo ≤ i → i ≤ j → j < hi → i / bs = j / bs → (cAt l i).1 ≤ (cAt l j).1
theorem cut3 {a b : Nat} (hab : a ≤ b) : l.take a ++ (l.drop a).take (b - a) ++ l.drop b = l := by
  have h : l.drop b = (l.drop a).drop (b - a) := by rw [List.drop_drop, Nat.add_sub_cancel' hab]
  rw [h, List.append_assoc, List.take_append_drop, List.take_append_drop]
theorem cut4 {a m b : Nat} (h1 : a ≤ m) (h2 : m ≤ b) : l.take a ++ (l.drop a).take (m - a) ++ (l.drop m).take (b - m) ++ l.drop b = l := by
  have h : l.drop b = (l.drop m).drop (b - m) := by rw [List.drop_drop, Nat.add_sub_cancel' h2]
  rw [h, List.append_assoc (l.take a ++ (l.drop a).take (m - a)), List.take_append_drop, cut3 h1]
theorem seg_len {a b : Nat} (hab : a ≤ b) (hb : b ≤ l.length) : ((l.drop a).take (b - a)).length = b - a := by rw [List.length_take, List.length_drop]; omega
theorem seg_at {a b i : Nat} (hi : i < b - a) : cAt ((l.drop a).take (b - a)) i = cAt l (a + i) := by rw [cAt_take hi, cAt_drop]
theorem seg_srt {a b bs : Nat} (hab : a ≤ b) (hb : b ≤ l.length) (h : ∀ i j, a ≤ i → i ≤ j → j < b → (cAt l i).1 ≤ (cAt l j).1) : Srt ((l.drop a).take (b - a)) := by
  refine List.pairwise_iff_getElem.2 fun i j hi hj hij => ?_
  rw [← cAt_get hi, ← cAt_get hj]
  rw [seg_len hab hb] at hi hj
  rw [seg_at hi, seg_at hj]
  exact h _ _ (by omega) (by omega) (by omega)
/-- a range is sorted anew, all else stays -/
structure Seg (l : List Cd) (a b : Nat) (l' : List Cd) : Prop where
  len : l'.length = l.length
  out : ∀ i, i < a ∨ b ≤ i → cAt l' i = cAt l i
  srt : ∀ i j, a ≤ i → i ≤ j → j < b → (cAt l' i).1 ≤ (cAt l' j).1
  stb : Stb l l'
theorem Seg.mk' {P X Z Q : List Cd} (hZ : Srt Z) (hs : Stb X Z) (hl : Z.length = X.length) : Seg (P ++ X ++ Q) P.length (P.length + X.length) (P ++ Z ++ Q) := by
  refine ⟨by simp only [List.length_append]; omega, fun i hi => ?_, fun i j h1 h2 h3 => ?_, ((Stb.refl P).app hs).app (Stb.refl Q)⟩
  · rw [cAt_app, cAt_app, cAt_app, cAt_app]
    simp only [List.length_append, hl]
    by_cases c : i < P.length
    · rw [if_pos (by omega), if_pos c, if_pos (by omega), if_pos c]
    · rw [if_neg (by omega), if_neg (by omega)]
  · have e : ∀ i, P.length ≤ i → i < P.length + X.length → cAt (P ++ Z ++ Q) i = cAt Z (i - P.length) := fun i h1 h2 => by
      rw [cAt_app, if_pos (by simp only [List.length_append]; omega), cAt_app, if_neg (by omega)]
    rw [e i h1 (by omega), e j (by omega) h3]
    exact srt_le hZ (by omega) (by omega)
theorem ins_seg {a b k : Nat} (h : CAt s db l) (hk : k = l.length) (hl : k ≤ 100000) (hab : a ≤ b) (hb : b ≤ l.length) (hK : ∀ s' l', CAt s' db l' → Seg l a b l' → KB db s s' → K (.tup []) s') : wpCall Tryd.prog XX 66 [.slc db 0 k none 2, .int .i64 (a : Int), .int .i64 (b : Int), cmpv] K s := by
  have e := cut3 (l := l) hab
  have la : (l.take a).length = a := by rw [List.length_take]; omega
  have lx := seg_len hab hb
  refine insertion_in (P := l.take a) (X := (l.drop a).take (b - a)) (Q := l.drop b) (by rw [e]; exact h) (by rw [e]; exact hk) hl la.symm (by rw [lx]; omega) fun s' Z h1 srt stb hz kp => ?_
  have sg := Seg.mk' (P := l.take a) (Q := l.drop b) srt stb hz
  rw [e, la, lx, show a + (b - a) = b by omega] at sg
  exact hK s' _ h1 sg kp
theorem sym_seg {a m b k : Nat} (h : CAt s db l) (hk : k = l.length) (hl : k ≤ 100000) (h1 : a < m) (h2 : m < b) (hb : b ≤ l.length) (s1 : ∀ i j, a ≤ i → i ≤ j → j < m → (cAt l i).1 ≤ (cAt l j).1) (s2 : ∀ i j, m ≤ i → i ≤ j → j < b → (cAt l i).1 ≤ (cAt l j).1)
    (hK : ∀ s' l', CAt s' db l' → Seg l a b l' → KB db s s' → K (.tup []) s') : wpCall Tryd.prog XX 67 [.slc db 0 k none 2, .int .i64 (a : Int), .int .i64 (m : Int), .int .i64 (b : Int), cmpv] K s := by
  have e := cut4 (l := l) (show a ≤ m by omega) (show m ≤ b by omega)
  have la : (l.take a).length = a := by rw [List.length_take]; omega
  have lx := seg_len (l := l) (show a ≤ m by omega) (by omega)
  have ly := seg_len (l := l) (show m ≤ b by omega) hb
  refine sym_in _ (P := l.take a) (X := (l.drop a).take (m - a)) (Y := (l.drop m).take (b - m)) (Q := l.drop b) (Nat.le_refl _) (by rw [e]; exact h) (by rw [e]; exact hk) hl la.symm (by rw [lx]; omega) (by rw [ly]; omega) (fun q => by rw [q] at lx; simp at lx; omega) (fun q => by rw [q] at ly; simp at ly; omega) (seg_srt (bs := 1) (by omega) (by omega) s1) (seg_srt (bs := 1) (by omega) hb s2) fun s' Z h3 mg kp => ?_
  have sg := Seg.mk' (P := l.take a) (Q := l.drop b) mg.srt mg.stb (by rw [mg.len, List.length_append])
  rw [← List.append_assoc (l.take a), e, la, List.length_append, lx, ly, show a + (m - a + (b - m)) = b by omega] at sg
  exact hK s' _ h3 sg kp
end Go.AM.SG
namespace Go.AM.SG
open Go Go.AM Go.Proofs
variable {K : AVal → Heap → Prop} {s s' s0 : Heap} {db : Nat} {l l' : List Cd}
theorem blk_eq {i c B : Nat} (h1 : c * B ≤ i) (h2 : i < c * B + B) : i / B = c := Nat.div_eq_of_lt_le h1 (by rw [Nat.succ_mul]; exact h2)
theorem blk_lt {i c B : Nat} (hB : 0 < B) (h : i < c * B) : i / B < c := (Nat.div_lt_iff_lt_mul hB).2 h
theorem blk_le {i c B : Nat} (hB : 0 < B) (h : c * B ≤ i) : c ≤ i / B := (Nat.le_div_iff_mul_le hB).2 h
/-- one more block is sorted -/
theorem SR.grow {c B e : Nat} (hB : 0 < B) (h : SR l 0 (c * B) B) (sg : Seg l (c * B) e l') (he : e ≤ c * B + B) : SR l' 0 e B := fun i j _ hij hj hq => by
  by_cases c1 : j < c * B
  · rw [sg.out i (.inl (by omega)), sg.out j (.inl c1)]
    exact h i j (by omega) hij c1 hq
  · have q1 := blk_le hB (show c * B ≤ j by omega)
    by_cases c2 : i < c * B
    · have := blk_lt hB c2
      omega
    · exact sg.srt i j (by omega) hij hj
theorem Seg.self {a e : Nat} (h : ∀ i j, a ≤ i → i ≤ j → j < e → (cAt l i).1 ≤ (cAt l j).1) : Seg l a e l := ⟨rfl, fun _ _ => rfl, h, .refl l⟩
theorem SR.blk {c B lo hi : Nat} (h : SR l lo hi B) : ∀ i j, lo ≤ i → j < hi → c * B ≤ i → i ≤ j → j < c * B + B → (cAt l i).1 ≤ (cAt l j).1 := fun i j h1 h2 h3 h4 h5 =>
  h i j h1 h4 h2 (by rw [blk_eq h3 (by omega), blk_eq (by omega) h5])
theorem stable_in {k : Nat} (h : CAt s db l) (hk : k = l.length) (hl : k ≤ 1000) (hK : ∀ s' l', CAt s' db l' → l'.length = l.length → Srt l' → Stb l l' → KB db s s' → K (.tup []) s') : wpCall Tryd.prog XX 48 [.slc db 0 k none 2, .int .i64 (k : Int), cmpv] K s := by
  refine vc_slices_stableCmpFunc_api_Candidate__in ?_
  refine ⟨fun ys t m => ∃ (c : Nat) (l1 : List Cd), ys = [.int .i64 ((c * 20 : Nat) : Int), .int .i64 ((c * 20 + 20 : Nat) : Int)] ∧ c * 20 ≤ k ∧ m = k - c * 20 ∧ CAt t db l1 ∧ l1.length = k ∧ SR l1 0 (c * 20) 20 ∧ Stb l l1 ∧ KB db s t, ⟨_, 0, l, rfl, by omega, rfl, h, hk.symm, fun i j _ _ hj => by omega, .refl l, .refl _ s⟩, ?_⟩
  rintro f t m ⟨c, l1, hy, hc, rfl, h1, len1, sr, stb, kp⟩
  simp only [List.cons.injEq, and_true] at hy
  rw [hy.1, hy.2]
  simp only [vc_slices_stableCmpFunc_api_Candidate__l0, arith_leq, optK_mk]
  refine boolK_mk (fun hle => ?_) (fun hgt => ?_)
  · have hle : c * 20 + 20 ≤ k := by have := of_decide_eq_true hle; omega
    refine ins_seg h1 len1.symm (by omega) (by omega) (by omega) fun s2 l2 h2 sg kp2 => ?_
    simp only [arith_add, optK_mk]
    rw [wrap64 (by omega) (by omega)]
    exact ⟨_, by omega, c + 1, l2, by rw [show (c + 1) * 20 = c * 20 + 20 by omega]; rfl, by omega, rfl, h2, by rw [sg.len]; exact len1, by rw [show (c + 1) * 20 = c * 20 + 20 by omega]; exact sr.grow (by omega) sg (by omega), stb.trans sg.stb, kp.trans kp2⟩
  have hgt : k < c * 20 + 20 := by have := of_decide_eq_false hgt; omega
  refine ins_seg h1 len1.symm (by omega) hc (by omega) fun s2 l2 h2 sg kp2 => ?_
  have sr2 := sr.grow (by omega) sg (by omega)
  have stb2 := stb.trans sg.stb
  have len2 : l2.length = k := by rw [sg.len]; exact len1
  have kp3 := kp.trans kp2
  clear sr stb h1 len1 kp kp2 sg hy
  refine ⟨fun ys t m => ∃ (B : Nat) (l1 : List Cd), ys = [.int .i64 (B : Int)] ∧ 1 ≤ B ∧ B ≤ 2 * k + 20 ∧ m = 2 * k + 20 - B ∧ CAt t db l1 ∧ l1.length = k ∧ SR l1 0 k B ∧ Stb l l1 ∧ KB db s t, ⟨_, 20, l2, rfl, by omega, by omega, rfl, h2, len2, sr2, stb2, kp3⟩, ?_⟩
  clear h2 sr2 stb2 len2 kp3
  rintro f t m ⟨B, l1, hy, hB, hB2, rfl, h1, len1, sr, stb, kp⟩
  simp only [List.cons.injEq, and_true] at hy
  rw [hy]
  simp only [vc_slices_stableCmpFunc_api_Candidate__l1, arith_lss, optK_mk]
  refine boolK_mk (fun hlt => ?_) (fun hge => ?_)
  rotate_left
  · have hge : k ≤ B := by have := of_decide_eq_false hge; omega
    refine hK t l1 h1 (by omega) (List.pairwise_iff_getElem.2 fun i j hi hj hij => ?_) stb kp
    rw [← cAt_get hi, ← cAt_get hj]
    exact sr i j (by omega) (by omega) (by omega) (by rw [Nat.div_eq_of_lt (by omega), Nat.div_eq_of_lt (by omega)])
  have hlt : B < k := by have := of_decide_eq_true hlt; omega
  have e1 : IntKind.i64.wrap (2 * (B : Int)) = ((2 * B : Nat) : Int) := by rw [wrap64 (by omega) (by omega)]; omega
  simp only [arith_mul, e1, optK_mk]
  refine ⟨fun ys t m => ∃ (c : Nat) (l2 : List Cd), ys = [.int .i64 ((c * (2 * B) : Nat) : Int), .int .i64 ((c * (2 * B) + 2 * B : Nat) : Int)] ∧ c * (2 * B) ≤ k ∧ m = k - c * (2 * B) ∧ CAt t db l2 ∧ l2.length = k ∧ SR l2 0 (c * (2 * B)) (2 * B) ∧ SR l2 (c * (2 * B)) k B ∧ Stb l l2 ∧ KB db s t, ⟨_, 0, l1, by simp, by omega, rfl, h1, len1, fun i j _ _ hj => by omega, by rw [Nat.zero_mul]; exact sr, stb, kp⟩, ?_⟩
  clear h1 len1 sr stb kp hy
  rintro f t m ⟨c, l2, hy, hc, rfl, h1, len1, sr, sr', stb, kp⟩
  simp only [List.cons.injEq, and_true] at hy
  rw [hy.1, hy.2]
  have e2 : IntKind.i64.wrap (((c * (2 * B) : Nat) : Int) + (B : Int)) = ((c * (2 * B) + B : Nat) : Int) := by rw [wrap64 (by omega) (by omega)]; omega
  have eb : (2 * c) * B = c * (2 * B) := by rw [Nat.mul_comm 2 c, Nat.mul_assoc]
  have eb1 : (2 * c + 1) * B = c * (2 * B) + B := by rw [Nat.succ_mul, eb]
  -- the two halves of a block
  have first : ∀ e, e ≤ k → e ≤ c * (2 * B) + B → ∀ i j, c * (2 * B) ≤ i → i ≤ j → j < e → (cAt l2 i).1 ≤ (cAt l2 j).1 := fun e q1 q2 i j p1 p2 p3 => sr'.blk (c := 2 * c) i j p1 (by omega) (by omega) p2 (by omega)
  have second : ∀ e, e ≤ k → e ≤ c * (2 * B) + 2 * B → ∀ i j, c * (2 * B) + B ≤ i → i ≤ j → j < e → (cAt l2 i).1 ≤ (cAt l2 j).1 := fun e q1 q2 i j p1 p2 p3 => sr'.blk (c := 2 * c + 1) i j (by omega) (by omega) (by omega) p2 (by omega)
  -- the next size
  have nxt : ∀ t2 l3, CAt t2 db l3 → Seg l2 (c * (2 * B)) k l3 → KB db t t2 → k < c * (2 * B) + 2 * B → vc_slices_stableCmpFunc_api_Candidate__j3 XX (.int .i64 (B : Int)) (fun ys t m => ∃ (B : Nat) (l1 : List Cd), ys = [.int .i64 (B : Int)] ∧ 1 ≤ B ∧ B ≤ 2 * k + 20 ∧ m = 2 * k + 20 - B ∧ CAt t db l1 ∧ l1.length = k ∧ SR l1 0 k B ∧ Stb l l1 ∧ KB db s t) (2 * k + 20 - B) K t2 := fun t2 l3 q1 q2 q3 q4 => by
    have e3 : IntKind.i64.wrap ((B : Int) * 2) = ((2 * B : Nat) : Int) := by rw [wrap64 (by omega) (by omega)]; omega
    simp only [vc_slices_stableCmpFunc_api_Candidate__j3, arith_mul, e3, optK_mk]
    exact ⟨_, by omega, 2 * B, l3, rfl, by omega, by omega, rfl, q1, by rw [q2.len]; exact len1, sr.grow (by omega) q2 (by omega), stb.trans q2.stb, kp.trans q3⟩
  simp only [vc_slices_stableCmpFunc_api_Candidate__l2, arith_leq, optK_mk]
  refine boolK_mk (fun hle => ?_) (fun hgt => ?_)
  · have hle : c * (2 * B) + 2 * B ≤ k := by have := of_decide_eq_true hle; omega
    simp only [arith_add, e2, optK_mk]
    refine sym_seg h1 len1.symm (by omega) (by omega) (by omega) (by omega) (first _ (by omega) (by omega)) (second _ hle (by omega)) fun s2 l3 h2 sg kp2 => ?_
    simp only [arith_mul, arith_add, e1, optK_mk]
    rw [wrap64 (by omega) (by omega)]
    have ec : (c + 1) * (2 * B) = c * (2 * B) + 2 * B := Nat.succ_mul ..
    exact ⟨_, by omega, c + 1, l3, by rw [ec]; rfl, by omega, rfl, h2, by rw [sg.len]; exact len1, by rw [ec]; exact sr.grow (by omega) sg (by omega), fun i j p1 p2 p3 p4 => by
      rw [ec] at p1
      rw [sg.out i (.inr p1), sg.out j (.inr (by omega))]
      exact sr' i j (by omega) p2 p3 p4, stb.trans sg.stb, kp.trans kp2⟩
  have hgt : k < c * (2 * B) + 2 * B := by have := of_decide_eq_false hgt; omega
  simp only [arith_add, e2, arith_lss, optK_mk]
  refine boolK_mk (fun hm => ?_) (fun hm => ?_)
  · have hm : c * (2 * B) + B < k := by have := of_decide_eq_true hm; omega
    refine sym_seg h1 len1.symm (by omega) (by omega) hm (by omega) (first _ (by omega) (by omega)) (second _ (by omega) (by omega)) fun s2 l3 h2 sg kp2 => nxt s2 l3 h2 sg kp2 hgt
  · have hm : k ≤ c * (2 * B) + B := by have := of_decide_eq_false hm; omega
    exact nxt t l2 h1 (Seg.self (first k (Nat.le_refl _) hm)) (.refl _ t) hgt
end Go.AM.SG
namespace Go.AM.SG
/-! ### compaction as the library does it -/
def rdG : Option Int → List Cd → List Cd
  | _, [] => []
  | o, c :: l => if o = some c.1 then rdG o l else c :: rdG (some c.1) l
def lastK : Option Int → List Cd → Option Int
  | o, [] => o
  | _, c :: l => lastK (some c.1) l
theorem rdG_app : ∀ {m : List Cd} {o : Option Int} {x : Cd}, rdG o (m ++ [x]) = rdG o m ++ (if lastK o m = some x.1 then [] else [x])
  | [], o, x => by
    show (if o = some x.1 then rdG o [] else x :: rdG (some x.1) []) = [] ++ (if o = some x.1 then [] else [x])
    by_cases h : o = some x.1
    · rw [if_pos h, if_pos h]; rfl
    · rw [if_neg h, if_neg h]; rfl
  | c :: m, o, x => by
    have e1 : rdG o (c :: m ++ [x]) = if o = some c.1 then rdG o (m ++ [x]) else c :: rdG (some c.1) (m ++ [x]) := rfl
    have e2 : rdG o (c :: m) = if o = some c.1 then rdG o m else c :: rdG (some c.1) m := rfl
    have e3 : lastK o (c :: m) = lastK (some c.1) m := rfl
    rw [e1, e2, e3]
    by_cases h : o = some c.1
    · rw [if_pos h, if_pos h, rdG_app, h]
    · rw [if_neg h, if_neg h, rdG_app, List.cons_append]
theorem lastK_app : ∀ {m : List Cd} {o : Option Int} {x : Cd}, lastK o (m ++ [x]) = some x.1
  | [], _, _ => rfl
  | c :: m, o, x => by
    show lastK (some c.1) (m ++ [x]) = _
    exact lastK_app
theorem lastK_take {l : List Cd} {k : Nat} (h : k < l.length) (h0 : 0 < k) : lastK none (l.take k) = some (cAt l (k - 1)).1 := by
  obtain ⟨j, rfl⟩ : ∃ j, k = j + 1 := ⟨k - 1, by omega⟩
  rw [List.take_add_one, List.getElem?_eq_getElem (by omega), Option.toList_some, lastK_app, Nat.add_sub_cancel, cAt_get (by omega)]
theorem rdG_step {l : List Cd} {k : Nat} (h : k < l.length) (h0 : 0 < k) : rdG none (l.take (k + 1)) = rdG none (l.take k) ++ (if (cAt l (k - 1)).1 = (cAt l k).1 then [] else [cAt l k]) := by
  rw [List.take_add_one, List.getElem?_eq_getElem h, Option.toList_some, rdG_app, lastK_take h h0, cAt_get h]
  simp only [Option.some.injEq]
theorem rdG_ok : ∀ {l : List Cd} {o : Option Int}, Srt l → (∀ c ∈ l, ∀ k, o = some k → k ≤ c.1) → Sct (rdG o l) ∧ (∀ c ∈ rdG o l, ∀ k, o = some k → k < c.1) ∧ ∀ c, c ∈ rdG o l ↔ o ≠ some c.1 ∧ (fk c.1 l).head? = some c
  | [], o, _, _ => by
    refine ⟨List.Pairwise.nil, fun c h => ?_, fun c => ⟨fun h => ?_, fun h => ?_⟩⟩
    · cases h
    · cases h
    · cases h.2
  | a :: l, o, h, ho => by
    obtain ⟨h1, h2⟩ := List.pairwise_cons.1 h
    have e : rdG o (a :: l) = if o = some a.1 then rdG o l else a :: rdG (some a.1) l := rfl
    rw [e]
    by_cases q : o = some a.1
    · rw [if_pos q]
      obtain ⟨k1, k2, k3⟩ := rdG_ok (o := o) h2 fun c hc k hk => ho c (List.mem_cons_of_mem _ hc) k hk
      refine ⟨k1, k2, fun c => ?_⟩
      rw [k3 c, fk_cons]
      by_cases r : a.1 = c.1
      · rw [if_pos r]
        exact ⟨fun w => absurd (by rw [q, r]) w.1, fun w => absurd (by rw [q, r]) w.1⟩
      · rw [if_neg r]
    · rw [if_neg q]
      obtain ⟨k1, k2, k3⟩ := rdG_ok (o := some a.1) h2 fun c hc k hk => by cases hk; exact h1 c hc
      have lt : ∀ k, o = some k → k < a.1 := fun k hk => by
        have := ho a (by simp) k hk
        have : k ≠ a.1 := fun e => q (by rw [hk, e])
        omega
      refine ⟨List.pairwise_cons.2 ⟨fun c hc => k2 c hc _ rfl, k1⟩, fun c hc k hk => ?_, fun c => ?_⟩
      · rcases List.mem_cons.1 hc with r | r
        · rw [r]; exact lt k hk
        · have := k2 c r _ rfl
          have := lt k hk
          omega
      · rw [List.mem_cons, k3 c, fk_cons]
        by_cases r : a.1 = c.1
        · rw [if_pos r]
          constructor
          · rintro (w | w)
            · rw [w]
              exact ⟨fun z => q z, rfl⟩
            · exact absurd (by rw [r]) w.1
          · rintro ⟨_, w⟩
            exact .inl (Option.some.inj w).symm
        · rw [if_neg r]
          constructor
          · rintro (w | w)
            · exact absurd (by rw [w]) r
            · refine ⟨fun z => ?_, w.2⟩
              have hc : c ∈ fk c.1 l := List.mem_of_mem_head? w.2
              have h3 := h1 c (fk_mem.1 hc).1
              have := lt _ z
              omega
          · rintro ⟨_, w⟩
            exact .inr ⟨fun z => r (Option.some.inj z), w⟩
theorem rdG_fst {l : List Cd} (h : Srt l) : Fst1 l (rdG none l) := by
  obtain ⟨k1, _, k3⟩ := rdG_ok (o := none) h fun _ _ _ e => by cases e
  exact ⟨k1, fun c => by rw [k3 c]; exact ⟨fun h => h.2, fun h => ⟨(fun e => by cases e), h⟩⟩⟩
/-- sorting stably and compacting is inserting one by one -/
theorem rdG_put {l m : List Cd} (h : Srt m) (s : Stb l m) : rdG none m = putAll l := ((putAll_ok l).same (rdG_fst h) s).symm
end Go.AM.SG
namespace Go.AM.SG
open Go Go.AM Go.Proofs
variable {K : AVal → Heap → Prop} {s s' s0 : Heap} {db : Nat} {l l' : List Cd} {v : AVal}
/-- a list of candidates that grows by append -/
abbrev CL (s0 s : Heap) (v : AVal) (l : List Cd) : Prop := AccR 35 2 s0 s v (l.map cR)
theorem nil_in (hK : K (.tup []) s) : wpCall Tryd.prog XX 48 [.nilslc, .int .i64 0, cmpv] K s := by
  refine vc_slices_stableCmpFunc_api_Candidate__in ?_
  refine ⟨fun ys t m => ys = [.int .i64 0, .int .i64 20] ∧ t = s, ⟨0, rfl, rfl⟩, ?_⟩
  rintro f t m ⟨hy, rfl⟩
  simp only [List.cons.injEq, and_true] at hy
  rw [hy.1, hy.2]
  have c1 : decide ((20 : Int) ≤ 0) = false := by decide
  simp only [vc_slices_stableCmpFunc_api_Candidate__l0, arith_leq, c1, boolK_false, optK_mk]
  refine vc_slices_insertionSortCmpFunc_api_Candidate__in ?_
  have e1 : IntKind.i64.wrap ((0 : Int) + 1) = 1 := by rw [wrap64 (by omega) (by omega)]; rfl
  simp only [vc_slices_insertionSortCmpFunc_api_Candidate_, arith_add, e1, optK_mk]
  refine ⟨fun ys t2 m => ys = [.int .i64 1] ∧ t2 = t, ⟨0, rfl, rfl⟩, ?_⟩
  rintro f t2 m ⟨hy, rfl⟩
  simp only [List.cons.injEq, and_true] at hy
  rw [hy]
  have c2 : decide ((1 : Int) < 0) = false := by decide
  simp only [vc_slices_insertionSortCmpFunc_api_Candidate__l0, arith_lss, c2, boolK_false, optK_mk]
  refine ⟨fun ys t m => ys = [.int .i64 20] ∧ t = t2, ⟨0, rfl, rfl⟩, ?_⟩
  rintro f t m ⟨hy, rfl⟩
  simp only [List.cons.injEq, and_true] at hy
  rw [hy]
  have c3 : decide ((20 : Int) < 0) = false := by decide
  simp only [vc_slices_stableCmpFunc_api_Candidate__l1, arith_lss, c3, boolK_false, optK_mk]
  exact hK
theorem sortS_in (h : CL s0 s v l) (hs : Sub s0 s) (hl : l.length ≤ 1000) (hK : ∀ s' l', CL s0 s' v l' → Sub s0 s' → l'.length = l.length → Srt l' → Stb l l' → K (.tup []) s') : wpCall Tryd.prog XX 29 [v, cmpv] K s := by
  refine vc_slices_SortStableFunc___api_Candidate_api_Candidate__in ?_
  simp only [vc_slices_SortStableFunc___api_Candidate_api_Candidate_, h.sl.len, List.length_map, optK_mk]
  obtain ⟨hr, q⟩ := h
  rcases q with ⟨rfl, q⟩ | ⟨db, q1, q2, q3⟩
  · have hl0 : l = [] := List.map_eq_nil_iff.1 q
    subst hl0
    exact nil_in (hK s [] ⟨hr, .inl ⟨rfl, rfl⟩⟩ hs rfl List.Pairwise.nil (.refl []))
  · rw [List.length_map] at q2
    rw [q2]
    refine stable_in (l := l) q3 rfl hl fun s' l' h1 e1 srt stb kp => hK s' l' ⟨cR_len l', .inr ⟨db, q1, by rw [q2, List.length_map, e1], h1⟩⟩ (fun i e hi => kp i e (hs i e hi) fun w => by rw [w, q1] at hi; cases hi) e1 srt stb
abbrev eqv : AVal := .fn (.func 33) [] []
theorem eq_in {a b : Cd} (hK : ∀ s' (r : Bool), Sub s s' → (r = true ↔ a.1 = b.1) → K (.bool r) s') : funK Tryd.prog XX eqv [.agg (cR a), .agg (cR b)] K s := by
  refine ⟨by kernel_rfl, ?_⟩
  show wpCall Tryd.prog XX 33 [.agg (cR a), .agg (cR b)] K s
  refine vc_segment_Candidates_2_in ⟨rfl, new_step fun x s1 hx h1 u1 => ⟨rfl, new_step fun y s2 hy h2 u2 => ?_⟩⟩
  have sub2 := (u1.sub hx).trans (u2.sub hy)
  have h12 : s2 x = some (false, .cells 35 (cR a)) := u2.sub hy _ _ h1
  have h22 : s2 y = some (false, .cells 35 (cR b)) := h2
  have ra : (cR a)[0]? = some (.int .u32 a.1) := rfl
  have rb : (cR b)[0]? = some (.int .u32 b.1) := rfl
  simp only [addOff_ptr, Nat.zero_add, rd1_mk h12, rd1_mk h22, ra, rb, eqV_int, negB_mk, Bool.false_bne, optK_mk]
  exact hK s2 _ sub2 ⟨fun h => eq_of_beq h, fun h => by rw [h]; exact beq_self_eq_true _⟩
end Go.AM.SG
namespace Go.AM.SG
open Go Go.AM Go.Proofs
variable {K : AVal → Heap → Prop} {s s' s0 : Heap} {db : Nat} {l l' : List Cd} {v : AVal}
theorem flC_app {a b : List Cd} : flC (a ++ b) = flC a ++ flC b := by simp [flC]
theorem repl_rows : ∀ n : Nat, repl n [AVal.int .u32 0, .int .i64 0] = flC (List.replicate n (0, 0))
  | 0 => rfl
  | n + 1 => by rw [repl, repl_rows n]; rfl
theorem allOne_flC : ∀ q : List Cd, allOne (flC q) = true
  | [] => rfl
  | x :: q => by
    show allOne (.int .u32 x.1 :: .int .i64 x.2 :: flC q) = true
    rw [allOne_cons, allOne_cons, allOne_flC q]; rfl
/-- the first k of a longer list -/
theorem CAt.first {A B : List Cd} (h : CAt s db (A ++ B)) : SlR 2 s (.slc db 0 A.length none 2) (A.map cR) := by
  refine ⟨cR_len A, .inr ⟨db, 0, none, by rw [List.length_map], (fun c h => by cases h), fun _ => ⟨false, 35, _, h, ?_, ?_⟩⟩⟩
  · rw [flC_len, List.length_map, List.length_append]; omega
  · rw [List.drop_zero, List.length_map, flC_app, ← flC_len A, List.take_left]
theorem clear_in {A C : List Cd} {R : Heap → Prop} (h : CAt s db (A ++ C)) (hne : C ≠ []) (hR : ∀ s', CAt s' db (A ++ List.replicate C.length (0, 0)) → Upto db s s' → R s') : clearK [(.int .u32 0), (.int .i64 0)] 2 (.slc db (A.length * 2) C.length none 2) (fun _ s => R s) s := by
  unfold clearK
  refine ⟨rfl, ?_⟩
  obtain ⟨m, hm⟩ : ∃ m, C.length = m + 1 := ⟨C.length - 1, by have := List.length_pos_iff.2 hne; omega⟩
  rw [hm] at hR ⊢
  simp only
  rw [repl_rows]
  have h' : s db = some (false, .cells 35 (flC (A ++ C))) := h
  have e2 : Nat.ble (A.length * 2 + (flC (List.replicate (m + 1) (0, 0))).length) (flC (A ++ C)).length = true := by
    rw [flC_len, flC_len, List.length_replicate, List.length_append, hm, Nat.ble_eq]; omega
  have e3 : setRange (flC (A ++ C)) (A.length * 2) (flC (List.replicate (m + 1) (0, 0))) = flC (A ++ List.replicate (m + 1) (0, 0)) := by
    unfold setRange
    rw [flC_app, flC_app, ← flC_len A, List.take_left, List.drop_eq_nil_of_le, List.append_nil]
    rw [List.length_append, flC_len, flC_len, flC_len, List.length_replicate]; omega
  have e1 : wrN s (.ptr db (A.length * 2)) (flC (List.replicate (m + 1) (0, 0))) = some (hset s db (false, .cells 35 (flC (A ++ List.replicate (m + 1) (0, 0))))) := by
    rw [← e3]
    simp only [wrN, h', e2, allOne_flC, Bool.and_self, cond_true]
  exact optK_of e1 (hR _ hset_eq fun _ hi => hset_other hi)
theorem take_set {q : List Cd} {k : Nat} {x : Cd} (h : k < q.length) : (q.set k x).take (k + 1) = q.take k ++ [x] := by
  rw [List.take_add_one, List.getElem?_set_self h, List.take_set_of_le (Nat.le_refl k)]
  rfl
theorem compactF_in (h : CL s0 s v l) (hs : Sub s0 s) (hl : l.length ≤ 1000) (hK : ∀ v' s', SlR 2 s' v' ((rdG none l).map cR) → Sub s0 s' → K v' s') : wpCall Tryd.prog XX 32 [v, eqv] K s := by
  refine vc_slices_CompactFunc___api_Candidate_api_Candidate__in ?_
  simp only [vc_slices_CompactFunc___api_Candidate_api_Candidate_, h.sl.len, List.length_map, arith_lss, optK_mk]
  refine boolK_mk (fun hc => ?_) (fun hc => ?_)
  · have hc : l.length < 2 := by have := of_decide_eq_true hc; omega
    have e : rdG none l = l := by
      match l, hc with
      | [], _ => rfl
      | [a], _ => rfl
    exact hK v s (by rw [e]; exact h.sl) hs
  have hc : 2 ≤ l.length := by have := of_decide_eq_false hc; omega
  obtain ⟨db, q1, q2, q3⟩ : ∃ db, s0 db = none ∧ v = .slc db 0 l.length none 2 ∧ CAt s db l := by
    rcases h.2 with ⟨_, q⟩ | ⟨db, q1, q2, q3⟩
    · have : l = [] := List.map_eq_nil_iff.1 q
      rw [this] at hc; simp at hc
    · rw [List.length_map] at q2
      exact ⟨db, q1, q2, q3⟩
  subst q2
  clear h
  have keepS : ∀ {t : Heap}, KB db s t → Sub s0 t := fun {t} kp i e hi => kp i e (hs i e hi) fun w => by rw [w, q1] at hi; cases hi
  refine ⟨fun ys t m => ∃ k : Nat, ys = [.int .i64 (k : Int)] ∧ 1 ≤ k ∧ k ≤ l.length ∧ m = l.length - k ∧ Sub s t ∧ rdG none (l.take k) = l.take k, ⟨_, 1, rfl, by omega, by omega, rfl, .refl s, ?_⟩, ?_⟩
  · match l, hc with
    | a :: r, _ => rfl
  rintro f t m ⟨k0, hy, hk1, hk2, rfl, st, hpre⟩
  simp only [List.cons.injEq, and_true] at hy
  rw [hy]
  have ht := q3.sub st
  have lenv : lenOfA (.slc db 0 l.length none 2) = some l.length := rfl
  simp only [vc_slices_CompactFunc___api_Candidate_api_Candidate__l0, lenv, arith_lss, optK_mk]
  refine boolK_mk (fun hlt => ?_) (fun hge => ?_)
  rotate_left
  · have hge : k0 = l.length := by have := of_decide_eq_false hge; omega
    rw [hge, List.take_length] at hpre
    exact hK _ t (by rw [hpre]; exact ht.sl) (keepS st.keep)
  have hlt : k0 < l.length := by have := of_decide_eq_true hlt; omega
  have w1 : IntKind.i64.wrap ((k0 : Int) - 1) = ((k0 - 1 : Nat) : Int) := by rw [wrap64 (by omega) (by omega)]; omega
  simp only [c_ad hlt, ht.row hlt, arith_sub, w1, c_ad (show k0 - 1 < l.length by omega), ht.row (show k0 - 1 < l.length by omega), optK_mk]
  refine eq_in fun s3 r sub3 hr => ?_
  have st3 := st.trans sub3
  have step := rdG_step hlt (by omega)
  have h3 := q3.sub st3
  cases r with
  | false =>
    have hne : ¬ (cAt l (k0 - 1)).1 = (cAt l k0).1 := fun e => by have := hr.2 e.symm; cases this
    simp only [boolK_false, arith_add, optK_mk]
    rw [wrap64 (by omega) (by omega)]
    refine ⟨_, by omega, k0 + 1, rfl, by omega, by omega, rfl, st3, ?_⟩
    rw [step, if_neg hne, hpre, List.take_add_one, List.getElem?_eq_getElem hlt, cAt_get hlt]; rfl
  | true =>
  have heq : (cAt l (k0 - 1)).1 = (cAt l k0).1 := (hr.1 rfl).symm
  rw [if_pos heq, List.append_nil, hpre] at step
  have sl : ∀ {k : Nat}, k ≤ l.length → sliceS 2 (.slc db 0 l.length none 2) (some (.int .i64 (k : Int))) none none = some (.slc db (k * 2) (l.length - k) none 2) := fun {k} hk => by
    simp [sliceS, bound, Nat.ble_eq_true_of_le hk]
  have sh : ∀ {k : Nat}, k ≤ l.length → sliceS 2 (.slc db 0 l.length none 2) none (some (.int .i64 (k : Int))) none = some (.slc db 0 k none 2) := fun {k} hk => by
    simp [sliceS, bound, Nat.ble_eq_true_of_le hk]
  simp only [boolK_true, sl hk2, optK_mk]
  refine ⟨fun ys t m => ∃ (k k2 : Nat) (cur : List Cd), ys = [.int .i64 (k : Int), .int .i64 (k2 : Int)] ∧ CAt t db cur ∧ KB db s t ∧ cur.length = l.length ∧ 1 ≤ k2 ∧ k0 + k2 ≤ l.length ∧ m = l.length - k0 - k2 ∧ k < k0 + k2 ∧ (∀ j, k0 + k2 - 1 ≤ j → cAt cur j = cAt l j) ∧ rdG none (l.take (k0 + k2)) = cur.take k, ⟨_, k0, 1, l, rfl, h3, st3.keep, rfl, by omega, by omega, rfl, by omega, fun _ _ => rfl, step⟩, ?_⟩
  rintro f t2 m ⟨k, k2, cur, hy, hcur, kp, hlen, c1, c2, rfl, c3, c4, c5⟩
  simp only [List.cons.injEq, and_true] at hy
  rw [hy.1, hy.2]
  have lenw : lenOfA (.slc db (k0 * 2) (l.length - k0) none 2) = some (l.length - k0) := rfl
  simp only [vc_slices_CompactFunc___api_Candidate_api_Candidate__l1, lenw, arith_lss, optK_mk]
  refine boolK_mk (fun hlt2 => ?_) (fun hge2 => ?_)
  · have hlt2 : k0 + k2 < l.length := by have := of_decide_eq_true hlt2; omega
    have ad2 : ∀ {i : Nat}, k0 + i < l.length → iaddrS 2 (.slc db (k0 * 2) (l.length - k0) none 2) (.int .i64 (i : Int)) = some (.ptr db ((k0 + i) * 2)) := fun {i} hi => by
      have : Nat.blt i (l.length - k0) = true := by rw [Nat.blt_eq]; omega
      rw [Nat.add_mul]
      simp [iaddrS, this]
    have w2 : IntKind.i64.wrap ((k2 : Int) - 1) = ((k2 - 1 : Nat) : Int) := by rw [wrap64 (by omega) (by omega)]; omega
    have r1 := hcur.row (i := k0 + k2) (by omega)
    have r2 := hcur.row (i := k0 + (k2 - 1)) (by omega)
    rw [c4 _ (by omega)] at r1
    rw [c4 _ (by omega), show k0 + (k2 - 1) = k0 + k2 - 1 by omega] at r2
    have ad3 : iaddrS 2 (.slc db (k0 * 2) (l.length - k0) none 2) (.int .i64 ((k2 - 1 : Nat) : Int)) = some (.ptr db ((k0 + k2 - 1) * 2)) := by
      rw [ad2 (by omega), show k0 + (k2 - 1) = k0 + k2 - 1 by omega]
    have stp := rdG_step hlt2 (by omega)
    simp only [ad2 hlt2, r1, arith_sub, w2, ad3, r2, optK_mk]
    refine eq_in fun s4 r sub4 hr => ?_
    have kp4 : KB db s s4 := kp.trans sub4.keep
    have hcur4 := hcur.sub sub4
    have r1' := hcur4.row (i := k0 + k2) (by omega)
    rw [c4 _ (by omega)] at r1'
    simp only [unary_not, optK_mk]
    cases r with
    | true =>
      have he : (cAt l (k0 + k2 - 1)).1 = (cAt l (k0 + k2)).1 := (hr.1 rfl).symm
      rw [if_pos he, List.append_nil] at stp
      simp only [Bool.not_true, boolK_false, vc_slices_CompactFunc___api_Candidate_api_Candidate__j2, arith_add, optK_mk]
      rw [wrap64 (by omega) (by omega)]
      exact ⟨_, by omega, k, k2 + 1, cur, rfl, hcur4, kp4, hlen, by omega, by omega, rfl, by omega, fun j hj => c4 j (by omega), by rw [show k0 + (k2 + 1) = k0 + k2 + 1 by omega, stp, c5]⟩
    | false =>
      have he : ¬ (cAt l (k0 + k2 - 1)).1 = (cAt l (k0 + k2)).1 := fun e => by have := hr.2 e.symm; cases this
      rw [if_neg he] at stp
      simp only [Bool.not_false, boolK_true, ad2 hlt2, r1', c_ad (show k < l.length by omega), optK_mk]
      refine hcur4.put (by omega) fun s5 h5 u5 => ?_
      simp only [vc_slices_CompactFunc___api_Candidate_api_Candidate__j2, arith_add, optK_mk]
      rw [wrap64 (by omega) (by omega), wrap64 (by omega) (by omega)]
      refine ⟨_, by omega, k + 1, k2 + 1, cur.set k (cAt l (k0 + k2)), rfl, h5, kp4.trans (u5.keep rfl), by rw [List.length_set]; exact hlen, by omega, by omega, rfl, by omega, fun j hj => ?_, ?_⟩
      · rw [cAt_set (by omega), if_neg (by omega)]
        exact c4 j (by omega)
      · rw [show k0 + (k2 + 1) = k0 + k2 + 1 by omega, stp, c5, take_set (by omega)]
  · have hge2 : k0 + k2 = l.length := by have := of_decide_eq_false hge2; omega
    rw [hge2, List.take_length] at c5
    have lt : (cur.take k).length = k := by rw [List.length_take]; omega
    have ld : (cur.drop k).length = l.length - k := by rw [List.length_drop, hlen]
    simp only [sl (show k ≤ l.length by omega), optK_mk]
    have := clear_in (A := cur.take k) (C := cur.drop k) (s := t2) (db := db) (R := fun s_33 => optK (sliceS 2 (.slc db 0 l.length none 2) none (some (.int .i64 (k : Int))) none) fun v_34 => K v_34 s_33) (by rw [List.take_append_drop]; exact hcur) (fun e => by rw [e] at ld; simp at ld; omega) fun s5 h5 u5 => by
      simp only [sh (show k ≤ l.length by omega), optK_mk]
      refine hK _ s5 ?_ (keepS (kp.trans (u5.keep rfl)))
      rw [c5]
      have := h5.first
      rw [lt] at this
      exact this
    rw [lt, ld] at this
    exact this
end Go.AM.SG
namespace Go.AM.SG
open Go Go.AM Go.Proofs
variable {K : AVal → Heap → Prop} {s s' s0 : Heap} {db : Nat} {o : List Cd} {v : AVal} {c : Cd}
theorem take_nil {es k : Nat} (hk : k ≤ 0) (h : SlR es s v []) : ∃ v', sliceS es v none (some (.int .i64 (k : Int))) none = some v' ∧ SlR es s v' [] := by
  obtain ⟨hr, q⟩ := h
  have e : k = 0 := by omega
  rcases q with ⟨rfl, _⟩ | ⟨b, off, cap, rfl, hc, _⟩
  · subst e
    exact ⟨.nilslc, rfl, hr, .inl ⟨rfl, rfl⟩⟩
  · cases cap with
    | none =>
      refine ⟨.slc b off k none es, by simp [sliceS, bound, Nat.ble_eq_true_of_le hk], ?_⟩
      subst e
      exact ⟨hr, .inr ⟨b, off, none, rfl, (fun c h => by cases h), fun h => absurd rfl h⟩⟩
    | some cc =>
      refine ⟨.slc b off k (some cc) es, by simp [sliceS, bound, Nat.ble_eq_true_of_le (Nat.le_trans hk (Nat.zero_le cc))], ?_⟩
      subst e
      exact ⟨hr, .inr ⟨b, off, some cc, rfl, (fun c h => by simp), fun h => absurd rfl h⟩⟩
theorem drop_nil {es k : Nat} (hk : k ≤ 0) (h : SlR es s v []) : ∃ v', sliceS es v (some (.int .i64 (k : Int))) none none = some v' ∧ SlR es s v' [] := by
  obtain ⟨hr, q⟩ := h
  have e : k = 0 := by omega
  rcases q with ⟨rfl, _⟩ | ⟨b, off, cap, rfl, hc, _⟩
  · subst e
    exact ⟨.nilslc, rfl, hr, .inl ⟨rfl, rfl⟩⟩
  · cases cap with
    | none =>
      refine ⟨.slc b (off + k * es) 0 none es, by simp [sliceS, bound, Nat.ble_eq_true_of_le hk], ?_⟩
      exact ⟨hr, .inr ⟨b, _, none, rfl, (fun c h => by cases h), fun h => absurd rfl h⟩⟩
    | some cc =>
      refine ⟨.slc b (off + k * es) 0 (some (cc - k)) es, by simp [sliceS, bound, Nat.ble_eq_true_of_le hk], ?_⟩
      exact ⟨hr, .inr ⟨b, _, some (cc - k), rfl, (fun c h => by simp), fun h => absurd rfl h⟩⟩
theorem takeR {es : Nat} {rows : List (List AVal)} (h : SlR es s v rows) {k : Nat} (hk : k ≤ rows.length) : ∃ v', sliceS es v none (some (.int .i64 (k : Int))) none = some v' ∧ SlR es s v' (rows.take k) := by
  by_cases q : rows = []
  · subst q
    rw [List.take_nil]
    exact take_nil (by simpa using hk) h
  · obtain ⟨v', h1, h2, _⟩ := h.take hk q
    exact ⟨v', h1, h2⟩
theorem dropR {es : Nat} {rows : List (List AVal)} (h : SlR es s v rows) {k : Nat} (hk : k ≤ rows.length) : ∃ v', sliceS es v (some (.int .i64 (k : Int))) none none = some v' ∧ SlR es s v' (rows.drop k) := by
  by_cases q : rows = []
  · subst q
    rw [List.drop_nil]
    exact drop_nil (by simpa using hk) h
  · obtain ⟨v', h1, h2, _⟩ := h.drop hk q
    exact ⟨v', h1, h2⟩
theorem rnk_le : rnk o c.1 ≤ o.length := List.countP_le_length
theorem rnk_at (h : Sct o) {i : Nat} (hi : i < o.length) : (cAt o i).1 < c.1 ↔ i < rnk o c.1 := by
  obtain ⟨k1, k2⟩ := rnk_split (x := c.1) h
  constructor
  · intro q
    by_cases r : i < rnk o c.1
    · exact r
    · have e : cAt o i = cAt (o.drop (rnk o c.1)) (i - rnk o c.1) := by rw [cAt_drop]; congr 1; omega
      have := k2 (cAt o i) (by rw [e, cAt_get (by rw [List.length_drop]; omega)]; exact List.getElem_mem _)
      omega
  · intro r
    have e : cAt o i = cAt (o.take (rnk o c.1)) i := by rw [cAt_take r]
    exact k1 (cAt o i) (by rw [e, cAt_get (by rw [List.length_take]; omega)]; exact List.getElem_mem _)
theorem fresh_of (k : Sub s s') {b : Nat} (h : s' b = none) : s b = none := by
  cases q : s b with
  | none => rfl
  | some y => rw [k _ _ q] at h; cases h
theorem put_in (h : SlR 2 s v (o.map cR)) (ho : Sct o) (hl : o.length ≤ 1000) (hK : ∀ v' s', SlR 2 s' v' ((putL o c).map cR) → Sub s s' → K v' s') : wpCall Tryd.prog XX 36 [v, .agg (cR c)] K s := by
  refine vc_leafmeshref25_put_in ⟨rfl, new_step fun x s1 hx h1 u1 => ?_⟩
  have h1 : s1 x = some (false, .cells 35 (cR c)) := h1
  have sub1 := u1.sub hx
  have x0 : rd1 s1 (.ptr x 0) = some (.int .u32 c.1) := by rw [rd1_mk h1]; rfl
  have hs1 := h.sub sub1
  have hrl : rnk o c.1 ≤ o.length := rnk_le
  refine ⟨fun ys t m => ∃ i : Nat, ys = [.int .i64 ((min i (rnk o c.1) : Nat) : Int), .int .i64 (i : Int)] ∧ t = s1 ∧ i ≤ o.length ∧ m = o.length - i ∧ ∀ d ∈ o.take i, d.1 ≠ c.1, ⟨_, 0, by rw [Nat.zero_min]; rfl, rfl, by omega, rfl, by simp⟩, ?_⟩
  rintro f t m ⟨i, hy, rfl, hi, rfl, hne⟩
  simp only [List.cons.injEq, and_true] at hy
  rw [hy.1, hy.2]
  simp only [vc_leafmeshref25_put_l0, hs1.len, List.length_map, arith_lss, optK_mk]
  refine boolK_mk (fun hlt => ?_) (fun hge => ?_)
  · have hlt : i < o.length := by have := of_decide_eq_true hlt; omega
    obtain ⟨pb, po, e1, _, e3⟩ := hs1.get (i := i) (r := cR (cAt o i)) (by simp [cAt_get hlt, hlt])
    have r0 : rd1 t (.ptr pb po) = some (.int .u32 (cAt o i).1) := e3 0 (by omega)
    simp only [e1, addOff_ptr, Nat.add_zero, r0, x0, eqV_int, negB_mk, Bool.false_bne, optK_mk, arith_lss]
    have hat := rnk_at (c := c) ho hlt
    cases he : ((cAt o i).1 == c.1) with
    | true =>
      have he : (cAt o i).1 = c.1 := eq_of_beq he
      simp only [boolK_true]
      refine hK v t ?_ sub1
      unfold putL
      rw [if_pos ⟨cAt o i, by rw [cAt_get hlt]; exact List.getElem_mem hlt, he⟩]
      exact hs1
    | false =>
      have he : ¬ (cAt o i).1 = c.1 := by simpa using he
      simp only [boolK_false]
      have nx : ∀ k : Nat, k = min (i + 1) (rnk o c.1) → vc_leafmeshref25_put_j1 XX (.int .i64 (k : Int)) (.int .i64 (i : Int)) (fun ys t' m => ∃ i : Nat, ys = [.int .i64 ((min i (rnk o c.1) : Nat) : Int), .int .i64 (i : Int)] ∧ t' = t ∧ i ≤ o.length ∧ m = o.length - i ∧ ∀ d ∈ o.take i, d.1 ≠ c.1) (o.length - i) K t := fun k hk => by
        simp only [vc_leafmeshref25_put_j1, arith_add, optK_mk]
        rw [wrap64 (by omega) (by omega)]
        refine ⟨_, by omega, i + 1, by rw [hk]; rfl, by trivial, by omega, rfl, fun d hd => ?_⟩
        rw [List.take_add_one, List.getElem?_eq_getElem hlt] at hd
        rcases List.mem_append.1 hd with q | q
        · exact hne d q
        · have : d = o[i] := by simpa using q
          rw [this, ← cAt_get hlt]; exact he
      refine boolK_mk (fun hb => ?_) (fun hb => ?_)
      · have hb := hat.1 (of_decide_eq_true hb)
        simp only [arith_add, optK_mk]
        rw [wrap64 (by omega) (by omega)]
        exact nx (i + 1) (by omega)
      · have hb : ¬ i < rnk o c.1 := fun q => of_decide_eq_false hb (hat.2 q)
        exact nx _ (by omega)
  · have hge : i = o.length := by have := of_decide_eq_false hge; omega
    subst hge
    rw [List.take_length] at hne
    rw [Nat.min_eq_right hrl]
    have ep : putL o c = o.take (rnk o c.1) ++ c :: o.drop (rnk o c.1) := by
      unfold putL
      rw [if_neg fun ⟨d, hd, e⟩ => hne d hd e]
    rw [ep] at hK
    refine optK_of (a := []) rfl ⟨rfl, ?_⟩
    refine newM (l := []) fun b2 s2 hb2 h2 u2 => ?_
    obtain ⟨w, hw1, hw2⟩ := takeR hs1 (k := rnk o c.1) (by rw [List.length_map]; exact hrl)
    obtain ⟨w', hw3, hw4⟩ := dropR hs1 (k := rnk o c.1) (by rw [List.length_map]; exact hrl)
    simp only [hw1, optK_mk]
    have sub2 : Sub t (add t s2) := sub_add
    have lt : ((o.map cR).take (rnk o c.1)).length ≤ 1000 := by rw [List.length_take, List.length_map]; omega
    have ld : ((o.map cR).drop (rnk o c.1)).length ≤ 1000 := by rw [List.length_drop, List.length_map]; omega
    refine app_ownR (rows := []) (s0 := frz (add t s2)) (.inl ⟨rfl, b2, rfl⟩) (hw2.sub sub2).frz (by simp only [List.length_nil]; omega) (.refl _) fun v3 s3 own3 sub3 _ => ?_
    rw [List.nil_append] at own3
    generalize hM1 : add t s2 = M1 at *
    have subM2 : Sub M1 (add M1 s3) := sub_add
    have own3' : ((o.map cR).take (rnk o c.1) = [] ∧ ∃ b, v3 = .slc b 0 0 (some 0) 2) ∨ AccR 35 2 t (add M1 s3) v3 ((o.map cR).take (rnk o c.1)) := own3.imp id fun ⟨a1, a2⟩ => ⟨a1, a2.imp id fun ⟨b, a3, a4, a5⟩ => by
      have a6 := frz_none.1 a3
      exact ⟨b, fresh_of sub2 a6, a4, by rw [add_none a6]; exact a5⟩⟩
    generalize hM2 : add M1 s3 = M2 at *
    have subt : Sub t M2 := sub2.trans subM2
    have xc : cutH [(t, M1), (M1, M2)] M2 x = some (false, .cells 35 (cR c)) := by
      show (if M1 x = none ∧ M2 x ≠ none then none else (if t x = none ∧ M1 x ≠ none then none else M2 x)) = _
      rw [if_neg (by rintro ⟨q, _⟩; rw [sub2 _ _ h1] at q; cases q), if_neg (by rintro ⟨q, _⟩; rw [h1] at q; cases q)]
      exact subt _ _ h1
    have xr : rdN (cutH [(t, M1), (M1, M2)] M2) 2 (.ptr x 0) = some (cR c) := rdN_all xc rfl
    simp only [xr, optK_mk]
    refine optK_of (a := cR c) rfl ⟨rfl, ?_⟩
    refine newM (l := [(t, M1), (M1, M2)]) fun b4 s4 hb4 h4 u4 => ?_
    have subM3 : Sub M2 (add M2 s4) := sub_add
    have own4 : ((o.map cR).take (rnk o c.1) = [] ∧ ∃ b, v3 = .slc b 0 0 (some 0) 2) ∨ AccR 35 2 t (add M2 s4) v3 ((o.map cR).take (rnk o c.1)) := own3'.imp id fun a => a.sub subM3
    generalize add M2 s4 = M3 at *
    refine app_ownR own4 (m := [cR c]) (SlR.mk (by intro r hr; rw [List.mem_singleton] at hr; subst hr; rfl) (by simpa using h4) rfl (by simp)) (by simp only [List.length_singleton]; omega) (subt.trans subM3) fun v5 s5 own5 sub5 => ?_
    simp only [hw3, optK_mk]
    refine app_ownR own5 (hw4.sub sub5) (by simp only [List.length_append, List.length_singleton]; omega) sub5 fun v6 s6 own6 sub6 => ?_
    rcases own6 with ⟨q, _⟩ | q
    · simp at q
    · refine hK v6 s6 ?_ (sub1.trans sub6)
      have := q.sl
      rw [List.map_append, List.map_cons, List.map_take, List.map_drop]
      simpa [List.append_assoc] using this
end Go.AM.SG
