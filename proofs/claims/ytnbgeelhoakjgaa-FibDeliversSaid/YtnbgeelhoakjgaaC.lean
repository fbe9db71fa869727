/- Part C of a calculus over a small memory that is proved to answer as the program does, and of its use for the functions that the law reaches: see the last part. -/
import Derived.Test.YtnbgeelhoakjgaaU2
import Derived.Test.YtnbgeelhoakjgaaV
namespace Go.AM
open Go
/-! ### shortest paths: plain law -/
abbrev Lnk := Nat × Nat × Nat
/-- link i is up and joins n with m at cost c -/
def Ed (G : List Lnk) (U : List Bool) (i n m c : Nat) : Prop := U[i]? = some true ∧ (G[i]? = some (n, m, c) ∨ G[i]? = some (m, n, c))
theorem Ed.sym {G : List Lnk} {U : List Bool} {i n m c : Nat} (h : Ed G U i n m c) : Ed G U i m n c := ⟨h.1, h.2.symm⟩
structure GOk (N : Nat) (G : List Lnk) (U : List Bool) : Prop where
  len : U.length = G.length
  ok : ∀ x ∈ G, x.1 < N ∧ x.2.1 < N ∧ x.1 ≠ x.2.1 ∧ 1 ≤ x.2.2 ∧ x.2.2 ≤ 65535
variable {N : Nat} {G : List Lnk} {U : List Bool} {from_ : Nat} {d d' : Nat → Int}
theorem GOk.ed (z : GOk N G U) {i n m c : Nat} (h : Ed G U i n m c) : n < N ∧ m < N ∧ n ≠ m ∧ 1 ≤ c ∧ c ≤ 65535 := by
  rcases h.2 with e | e
  · have := z.ok _ (List.mem_of_getElem? e); exact ⟨this.1, this.2.1, this.2.2.1, this.2.2.2.1, this.2.2.2.2⟩
  · have := z.ok _ (List.mem_of_getElem? e); exact ⟨this.2.1, this.1, Ne.symm this.2.2.1, this.2.2.2.1, this.2.2.2.2⟩
/-- the other end, and the cost, of a link are determined -/
theorem Ed.uniq (z : GOk N G U) {i n m c m' c' : Nat} (h : Ed G U i n m c) (h' : Ed G U i n m' c') : m = m' ∧ c = c' := by
  have k1 := z.ed h
  have k2 := z.ed h'
  rcases h.2 with e | e <;> rcases h'.2 with e' | e' <;> rw [e] at e' <;> simp only [Option.some.injEq, Prod.mk.injEq] at e' <;> omega
structure IsDist (N : Nat) (G : List Lnk) (U : List Bool) (from_ : Nat) (d : Nat → Int) : Prop where
  fr : d from_ = 0
  lo : ∀ n, n < N → -1 ≤ d n
  sup : ∀ n, n < N → 0 ≤ d n → n ≠ from_ → ∃ i m c, Ed G U i n m c ∧ 0 ≤ d m ∧ d n = d m + c
  clo : ∀ i n m c, Ed G U i n m c → 0 ≤ d m → 0 ≤ d n ∧ d n ≤ d m + c
theorem dist_le (z : GOk N G U) (h : IsDist N G U from_ d) (h' : IsDist N G U from_ d') : ∀ (k : Nat) (n : Nat), n < N → d' n = k → 0 ≤ d n ∧ d n ≤ k := by
  intro k
  induction k using Nat.strongRecOn with
  | _ k ih =>
    intro n hn hk
    by_cases e : n = from_
    · rw [e, h.fr]
      rw [e, h'.fr] at hk
      omega
    · obtain ⟨i, m, c, h1, h2, h3⟩ := h'.sup n hn (by omega) e
      obtain ⟨_, hm, _, hc, _⟩ := z.ed h1
      obtain ⟨g1, g2⟩ := ih (d' m).toNat (by omega) m hm (by omega)
      obtain ⟨g3, g4⟩ := h.clo i n m c h1 g1
      omega
theorem dist_uniq (z : GOk N G U) (h : IsDist N G U from_ d) (h' : IsDist N G U from_ d') {n : Nat} (hn : n < N) : d n = d' n := by
  have a := h.lo n hn
  have b := h'.lo n hn
  by_cases e : 0 ≤ d' n
  · obtain ⟨g1, g2⟩ := dist_le z h h' (d' n).toNat n hn (by omega)
    obtain ⟨g3, g4⟩ := dist_le z h' h (d n).toNat n hn (by omega)
    omega
  · by_cases e2 : 0 ≤ d n
    · obtain ⟨g3, g4⟩ := dist_le z h' h (d n).toNat n hn (by omega)
      omega
    · omega
/-! ### what the program does: done nodes, and a queue of nodes with lengths -/
abbrev It := Nat × Nat
structure DInv (N : Nat) (G : List Lnk) (U : List Bool) (from_ : Nat) (d : Nat → Int) (q : List It) : Prop where
  lo : ∀ n, n < N → -1 ≤ d n
  fr : d from_ = 0 ∨ (∀ n, n < N → d n = -1) ∧ (from_, 0) ∈ q
  sup : ∀ n, n < N → 0 ≤ d n → n ≠ from_ → ∃ i m c, Ed G U i n m c ∧ 0 ≤ d m ∧ d n = d m + c
  qn : ∀ x ∈ q, x.1 < N ∧ (x = (from_, 0) ∨ ∃ i m c, Ed G U i x.1 m c ∧ 0 ≤ d m ∧ (x.2 : Int) = d m + c)
  mon : ∀ x ∈ q, ∀ n, n < N → d n ≤ x.2
  clo : ∀ i n m c, Ed G U i n m c → 0 ≤ d m → (0 ≤ d n ∧ d n ≤ d m + c) ∨ ∃ k : Nat, (n, k) ∈ q ∧ (k : Int) = d m + c
theorem DInv.end_ (h : DInv N G U from_ d []) : IsDist N G U from_ d := by
  refine ⟨?_, h.lo, h.sup, fun i n m c e hm => ?_⟩
  · rcases h.fr with e | ⟨_, e⟩
    · exact e
    · cases e
  · rcases h.clo i n m c e hm with q | ⟨k, q, _⟩
    · exact q
    · cases q
/-- the shortest item is of a node that is done -/
theorem DInv.skip {q q' : List It} {x : It} (h : DInv N G U from_ d q) (hx : 0 ≤ d x.1) (hq : ∀ y, y ∈ q ↔ y = x ∨ y ∈ q') : DInv N G U from_ d q' := by
  have xN := (h.qn x ((hq x).2 (.inl rfl))).1
  refine ⟨h.lo, ?_, h.sup, fun y hy => h.qn y ((hq y).2 (.inr hy)), fun y hy => h.mon y ((hq y).2 (.inr hy)), fun i n m c e hm => ?_⟩
  · rcases h.fr with e | ⟨e1, _⟩
    · exact .inl e
    · have := e1 x.1 xN; omega
  · rcases h.clo i n m c e hm with k | ⟨k, k1, k2⟩
    · exact .inl k
    · rcases (hq _).1 k1 with e2 | e2
      · refine .inl ?_
        have := h.mon x ((hq x).2 (.inl rfl)) n (by rw [← e2] at xN; exact xN)
        rw [← e2] at hx this
        exact ⟨hx, by show d n ≤ d m + c; have : d n ≤ ((k : Nat) : Int) := this; omega⟩
      · exact .inr ⟨k, e2, k2⟩
def updI (d : Nat → Int) (n : Nat) (v : Int) : Nat → Int := fun k => if k = n then v else d k
theorem updI_same {n : Nat} {v : Int} : updI d n v n = v := if_pos rfl
theorem updI_ne {n k : Nat} {v : Int} (h : k ≠ n) : updI d n v k = d k := if_neg h
/-- the shortest item is of a node that is not done: it is done now, and its neighbours come into the queue -/
theorem DInv.take (z : GOk N G U) {q q' : List It} {x : It} (h : DInv N G U from_ d q) (hx : d x.1 < 0) (hin : x ∈ q) (hq : ∀ y, y ∈ q → y = x ∨ y ∈ q') (hmin : ∀ y ∈ q, x.2 ≤ y.2)
    (hnew : ∀ i m c, Ed G U i x.1 m c → d m < 0 → (m, x.2 + c) ∈ q') (hold : ∀ y ∈ q', y ∈ q ∨ ∃ i m c, Ed G U i x.1 m c ∧ y = (m, x.2 + c)) : DInv N G U from_ (updI d x.1 x.2) q' := by
  obtain ⟨xN, hqn⟩ := h.qn x hin
  have hmx := h.mon x hin
  have keep : ∀ n, 0 ≤ d n → updI d x.1 x.2 n = d n := fun n hn => updI_ne fun e => by rw [e] at hn; omega
  have hcase : ∀ n, updI d x.1 x.2 n = d n ∨ n = x.1 ∧ updI d x.1 x.2 n = x.2 := fun n => by
    by_cases e : n = x.1
    · exact .inr ⟨e, by rw [e, updI_same]⟩
    · exact .inl (updI_ne e)
  refine ⟨fun n hn => ?_, ?_, fun n hn h0 hne => ?_, fun y hy => ?_, fun y hy n hn => ?_, fun i n m c e hm => ?_⟩
  · have := h.lo n hn
    rcases hcase n with e | ⟨_, e⟩ <;> rw [e] <;> omega
  · refine .inl ?_
    rcases h.fr with e | ⟨e1, e2⟩
    · rw [keep from_ (by omega)]; exact e
    · have := hmin _ e2
      have : x.2 = 0 := by simpa using this
      rcases hqn with e3 | ⟨i, m, c, e3, e4, e5⟩
      · rw [e3, updI_same]; rfl
      · have := e1 m (z.ed e3).2.1; omega
  · rcases hcase n with e | ⟨e1, e⟩
    · rw [e] at h0 ⊢
      obtain ⟨i, m, c, g1, g2, g3⟩ := h.sup n hn h0 hne
      exact ⟨i, m, c, g1, by rw [keep m g2]; exact g2, by rw [keep m g2]; exact g3⟩
    · rw [e]
      rcases hqn with e3 | ⟨i, m, c, e3, e4, e5⟩
      · exact absurd (e1.trans (by rw [e3])) hne
      · exact ⟨i, m, c, by rw [e1]; exact e3, by rw [keep m e4]; exact e4, by rw [keep m e4]; exact e5⟩
  · rcases hold y hy with g | ⟨i, m, c, g1, rfl⟩
    · obtain ⟨k1, k2⟩ := h.qn y g
      refine ⟨k1, k2.imp id fun ⟨i, m, c, g1, g2, g3⟩ => ⟨i, m, c, g1, by rw [keep m g2]; exact g2, by rw [keep m g2]; exact g3⟩⟩
    · refine ⟨(z.ed g1).2.1, .inr ⟨i, x.1, c, g1.sym, ?_⟩⟩
      rw [updI_same]
      exact ⟨by omega, by show ((x.2 + c : Nat) : Int) = x.2 + c; omega⟩
  · have hy2 : x.2 ≤ y.2 := by
      rcases hold y hy with g | ⟨i, m, c, g1, rfl⟩
      · exact hmin y g
      · exact Nat.le_add_right _ _
    rcases hcase n with e | ⟨e1, e⟩
    · rw [e]; have := hmx n hn; omega
    · rw [e]; omega
  · rcases hcase m with em | ⟨em1, em⟩
    · rw [em] at hm ⊢
      rcases h.clo i n m c e hm with k | ⟨k, k1, k2⟩
      · left; rw [keep n k.1]; exact k
      · rcases hq _ k1 with e2 | e2
        · left
          have e3 : n = x.1 := by rw [← e2]
          have e4 : k = x.2 := by rw [← e2]
          rw [e3, updI_same]
          omega
        · exact .inr ⟨k, e2, k2⟩
    · rw [em] at hm ⊢
      subst em1
      by_cases e0 : d n < 0
      · exact .inr ⟨x.2 + c, hnew i n c e.sym e0, by omega⟩
      · left
        have := hmx n (z.ed e).1
        rw [keep n (by omega)]
        omega
end Go.AM
namespace Go.AM
open Go
variable {N : Nat} {G : List Lnk} {U : List Bool} {from_ : Nat} {d d' : Nat → Int}
theorem sumF_le {α : Type} {f g : α → Nat} : ∀ {l : List α}, (∀ x ∈ l, f x ≤ g x) → (l.map f).sum ≤ (l.map g).sum := by
  intro l
  induction l with
  | nil => intro _; exact Nat.le_refl _
  | cons a l ih =>
    intro h
    have := ih fun x hx => h x (by simp [hx])
    have := h a (by simp)
    simp only [List.map_cons, List.sum_cons]
    omega
theorem sumF_lt {α : Type} {f g : α → Nat} {y : α} : ∀ {l : List α}, (∀ x ∈ l, f x ≤ g x) → y ∈ l → f y + 1 ≤ g y → (l.map f).sum + 1 ≤ (l.map g).sum := by
  intro l
  induction l with
  | nil => intro _ h; cases h
  | cons a l ih =>
    intro h hy h1
    simp only [List.map_cons, List.sum_cons]
    rcases List.mem_cons.1 hy with e | e
    · have := sumF_le (l := l) fun x hx => h x (by simp [hx])
      rw [e] at h1
      omega
    · have := ih (fun x hx => h x (by simp [hx])) e h1
      have := h a (by simp)
      omega
theorem cntF_le {α : Type} {p q : α → Bool} : ∀ {l : List α}, (∀ x ∈ l, p x = true → q x = true) → l.countP p ≤ l.countP q := by
  intro l
  induction l with
  | nil => intro _; exact Nat.le_refl _
  | cons a l ih =>
    intro h
    have h1 := ih fun x hx => h x (by simp [hx])
    rw [List.countP_cons, List.countP_cons]
    by_cases e : p a = true
    · rw [if_pos e, if_pos (h a (by simp) e)]; omega
    · rw [if_neg e]; split <;> omega
theorem cntF_lt {α : Type} {p q : α → Bool} {y : α} : ∀ {l : List α}, (∀ x ∈ l, p x = true → q x = true) → y ∈ l → p y = false → q y = true → l.countP p + 1 ≤ l.countP q := by
  intro l
  induction l with
  | nil => intro _ h; cases h
  | cons a l ih =>
    intro h hy h1 h2
    rw [List.countP_cons, List.countP_cons]
    rcases List.mem_cons.1 hy with e | e
    · have := cntF_le (l := l) fun x hx => h x (by simp [hx])
      rw [← e, h1, h2]
      simp only [Bool.false_eq_true, if_false, if_true]; omega
    · have h3 := ih (fun x hx => h x (by simp [hx])) e h1 h2
      by_cases e : p a = true
      · rw [if_pos e, if_pos (h a (by simp) e)]; omega
      · rw [if_neg e]; split <;> omega
/-! ### what the reference does: distances that shrink -/
def cntD (N : Nat) (d : Nat → Int) : Nat := (List.range N).countP fun n => decide (0 ≤ d n)
def muD (N : Nat) (d : Nat → Int) : Nat := ((List.range N).map fun n => if d n < 0 then 3000000 else (d n).toNat).sum
structure RInv (N : Nat) (G : List Lnk) (U : List Bool) (from_ : Nat) (d : Nat → Int) : Prop where
  lo : ∀ n, n < N → -1 ≤ d n
  fr : d from_ = 0
  sup : ∀ n, n < N → 0 ≤ d n → n ≠ from_ → ∃ i m c, Ed G U i n m c ∧ 0 ≤ d m ∧ d m + c ≤ d n
  bd : ∀ n, n < N → d n ≤ cntD N d * 65535
theorem cntD_le {N : Nat} {d : Nat → Int} : cntD N d ≤ N := by
  have := List.countP_le_length (p := fun n => decide (0 ≤ d n)) (l := List.range N)
  rw [List.length_range] at this
  exact this
theorem RInv.relax (z : GOk N G U) (hN : N ≤ 40) (h : RInv N G U from_ d) {i a b c : Nat} (e : Ed G U i a b c) (ha : 0 ≤ d a) (hb : d b < 0 ∨ d a + c < d b) : RInv N G U from_ (updI d b (d a + c)) ∧ muD N (updI d b (d a + c)) + 1 ≤ muD N d := by
  obtain ⟨k1, k2, k3, k4, k5⟩ := z.ed e
  have hbf : b ≠ from_ := fun q => by rw [q, h.fr] at hb; omega
  have hba := h.bd a k1
  have hcN := cntD_le (N := N) (d := d)
  have hB : (cntD N d : Int) * 65535 ≤ 40 * 65535 := by omega
  have hcnt : cntD N d ≤ cntD N (updI d b (d a + c)) := cntF_le fun n _ hn => by
    have hn := of_decide_eq_true hn
    refine decide_eq_true ?_
    by_cases q : n = b
    · rw [q, updI_same]; omega
    · rw [updI_ne q]; exact hn
  refine ⟨⟨fun n hn => ?_, by rw [updI_ne (Ne.symm hbf)]; exact h.fr, fun n hn h0 hne => ?_, fun n hn => ?_⟩, ?_⟩
  · by_cases q : n = b
    · rw [q, updI_same]; omega
    · rw [updI_ne q]; exact h.lo n hn
  · by_cases q : n = b
    · rw [q, updI_same]
      exact ⟨i, a, c, e.sym, by rw [updI_ne k3]; exact ha, by rw [updI_ne k3]; omega⟩
    · rw [updI_ne q] at h0 ⊢
      obtain ⟨j, m, c', g1, g2, g3⟩ := h.sup n hn h0 hne
      by_cases q2 : m = b
      · refine ⟨j, m, c', g1, ?_, ?_⟩
        · rw [q2, updI_same]; omega
        · rw [q2, updI_same]
          rw [q2] at g2 g3
          omega
      · exact ⟨j, m, c', g1, by rw [updI_ne q2]; exact g2, by rw [updI_ne q2]; exact g3⟩
  · by_cases q : n = b
    · rw [q, updI_same]
      rcases hb with hb | hb
      · have : cntD N d + 1 ≤ cntD N (updI d b (d a + c)) := cntF_lt (y := b) (fun n _ hn => by
          have hn := of_decide_eq_true hn
          refine decide_eq_true ?_
          by_cases q : n = b
          · rw [q, updI_same]; omega
          · rw [updI_ne q]; exact hn) (List.mem_range.2 k2) (decide_eq_false (by omega)) (decide_eq_true (by rw [updI_same]; omega))
        omega
      · have := h.bd b k2
        omega
    · rw [updI_ne q]
      have := h.bd n hn
      omega
  · unfold muD
    refine sumF_lt (y := b) (fun n hn => ?_) (List.mem_range.2 k2) ?_
    · have hn := List.mem_range.1 hn
      by_cases q : n = b
      · rw [q, updI_same]
        split <;> split <;> omega
      · rw [updI_ne q]
        exact Nat.le_refl _
    · rw [updI_same]
      split <;> split <;> omega
theorem RInv.end_ (h : RInv N G U from_ d) (clo : ∀ i a b c, Ed G U i a b c → 0 ≤ d a → 0 ≤ d b ∧ d b ≤ d a + c) : IsDist N G U from_ d := by
  refine ⟨h.fr, h.lo, fun n hn h0 hne => ?_, fun i n m c e hm => clo i m n c e.sym hm⟩
  obtain ⟨i, m, c, g1, g2, g3⟩ := h.sup n hn h0 hne
  have := clo i m n c g1.sym g2
  exact ⟨i, m, c, g1, g2, by omega⟩
theorem RInv.start {from_ N : Nat} (hf : from_ < N) : RInv N G U from_ (fun n => if n = from_ then 0 else -1) := by
  refine ⟨fun n _ => by split <;> omega, if_pos rfl, fun n _ h0 hne => ?_, fun n _ => ?_⟩
  · rw [if_neg hne] at h0; omega
  · have : (0 : Int) ≤ (cntD N (fun n => if n = from_ then 0 else -1) : Int) * 65535 := by omega
    split <;> omega
/-! ### next links, parents -/
def oth (x : Lnk) (n : Nat) : Option Nat := if x.1 = n then some x.2.1 else if x.2.1 = n then some x.1 else none
/-- the links at a node that are up, ascending: link, other end, cost -/
def edL (G : List Lnk) (U : List Bool) (n : Nat) : List (Nat × Nat × Nat) := (List.range G.length).filterMap fun i => if U.getD i false then (match G[i]? with | some x => (oth x n).map fun m => (i, m, x.2.2) | none => none) else none
theorem mem_edL {i n m c : Nat} (z : GOk N G U) : (i, m, c) ∈ edL G U n ↔ Ed G U i n m c := by
  unfold edL Ed
  rw [List.mem_filterMap]
  constructor
  · rintro ⟨j, hj, e⟩
    split at e
    · rename_i hu
      cases hg : G[j]? with
      | none => rw [hg] at e; cases e
      | some x =>
        rw [hg] at e
        simp only [Option.map_eq_some_iff, Prod.mk.injEq] at e
        obtain ⟨m', e1, rfl, rfl, rfl⟩ := e
        have hlt : j < U.length := by rw [z.len]; exact List.mem_range.1 hj
        refine ⟨by rw [List.getD_eq_getElem?_getD, List.getElem?_eq_getElem hlt] at hu; rw [List.getElem?_eq_getElem hlt]; simpa using hu, ?_⟩
        unfold oth at e1
        split at e1
        · rename_i q
          cases e1
          exact .inl (by rw [hg, ← q])
        · split at e1
          · rename_i q
            cases e1
            exact .inr (by rw [hg, ← q])
          · cases e1
    · cases e
  · rintro ⟨hu, he⟩
    have hlt : i < G.length := by rcases he with e | e <;> exact (List.getElem?_eq_some_iff.1 e).1
    have hne : n ≠ m := (z.ed ⟨hu, he⟩).2.2.1
    refine ⟨i, List.mem_range.2 hlt, ?_⟩
    rw [List.getD_eq_getElem?_getD, hu]
    simp only [Option.getD_some, if_true]
    rcases he with e | e
    · rw [e]
      show ((if n = n then some m else if m = n then some n else none).map fun m' => (i, m', c)) = some (i, m, c)
      rw [if_pos rfl]; rfl
    · rw [e]
      show ((if m = n then some n else if n = n then some m else none).map fun m' => (i, m', c)) = some (i, m, c)
      rw [if_neg (Ne.symm hne), if_pos rfl]; rfl
/-- the links that begin shortest paths, ascending -/
def nearL (G : List Lnk) (U : List Bool) (d : Nat → Int) (n : Nat) : List (Nat × Nat × Nat) := (edL G U n).filter fun e => decide (d n = d e.2.1 + e.2.2)
def parL (G : List Lnk) (U : List Bool) (d : Nat → Int) (n : Nat) : Int := match nearL G U d n with
  | [] => -1
  | e :: _ => e.1
end Go.AM
namespace Go.AM
open Go
/-! ### a heap of nodes with lengths -/
def key (x : It) : Int := (x.2 : Int)
def at0 (q : List It) (j : Nat) : It := q.getD j (0, 0)
def ky (q : List It) (j : Nat) : Int := key (at0 q j)
def swp (q : List It) (i j : Nat) : List It := (q.set i (at0 q j)).set j (at0 q i)
theorem swp_len (q : List It) (i j : Nat) : (swp q i j).length = q.length := by simp [swp]
theorem at0_get {q : List It} {j : Nat} (h : j < q.length) : at0 q j = q[j] := by simp [at0, h]
theorem at0_set {q : List It} {i j : Nat} {x : It} (hi : i < q.length) : at0 (q.set i x) j = if j = i then x else at0 q j := by
  unfold at0
  rw [List.getD_eq_getElem?_getD, List.getElem?_set, List.getD_eq_getElem?_getD]
  by_cases e : i = j
  · subst e; simp [hi]
  · rw [if_neg e, if_neg (Ne.symm e)]
theorem at0_swp {q : List It} {i j m : Nat} (hi : i < q.length) (hj : j < q.length) : at0 (swp q i j) m = if m = j then at0 q i else if m = i then at0 q j else at0 q m := by
  unfold swp
  rw [at0_set (by simpa using hj), at0_set hi]
theorem ky_swp {q : List It} {i j m : Nat} (hi : i < q.length) (hj : j < q.length) : ky (swp q i j) m = if m = j then ky q i else if m = i then ky q j else ky q m := by
  unfold ky
  rw [at0_swp hi hj]
  split
  · rfl
  · split <;> rfl
theorem set_perm : ∀ {q : List It} {i : Nat} {x : It} (h : i < q.length), (q[i] :: q.set i x).Perm (x :: q)
  | y :: q, 0, x, _ => List.Perm.swap x y q
  | y :: q, i + 1, x, h => by
    have hi : i < q.length := by simpa using h
    have ih := set_perm (q := q) (i := i) (x := x) hi
    show (q[i] :: y :: q.set i x).Perm (x :: y :: q)
    exact (List.Perm.swap _ _ _).trans ((ih.cons y).trans (List.Perm.swap _ _ _))
theorem swp_perm {q : List It} {i j : Nat} (hi : i < q.length) (hj : j < q.length) : (swp q i j).Perm q := by
  by_cases e : i = j
  · subst e
    unfold swp
    rw [at0_get hi, List.set_set, List.set_getElem_self]
  · have h1 := set_perm (q := q) (i := i) (x := at0 q j) hi
    have hj' : j < (q.set i (at0 q j)).length := by simpa using hj
    have h2 := set_perm (q := q.set i (at0 q j)) (i := j) (x := at0 q i) hj'
    have e1 : (q.set i (at0 q j))[j] = at0 q j := by
      rw [List.getElem_set_ne e]
      exact (at0_get hj).symm
    rw [e1] at h2
    rw [← at0_get hi] at h1
    have h3 : (at0 q j :: swp q i j).Perm (at0 q j :: q) := h2.trans h1
    exact h3.cons_inv
/-- a heap below k -/
def Hp (q : List It) (k : Nat) : Prop := ∀ j, 0 < j → j < q.length → k ≤ (j - 1) / 2 → ky q ((j - 1) / 2) ≤ ky q j
/-- what holds in 'down' -/
structure Dn (q : List It) (i0 i : Nat) : Prop where
  ok : ∀ j, 0 < j → j < q.length → i0 ≤ (j - 1) / 2 → (j - 1) / 2 ≠ i → ky q ((j - 1) / 2) ≤ ky q j
  gr : i ≠ i0 → ∀ j, 0 < j → j < q.length → (j - 1) / 2 = i → ky q ((i - 1) / 2) ≤ ky q j
  le : i0 ≤ i
  pr : i ≠ i0 → i0 ≤ (i - 1) / 2
theorem Hp.dn {q : List It} {i0 : Nat} (h : Hp q (i0 + 1)) : Dn q i0 i0 := ⟨fun j h0 h1 h2 h3 => h j h0 h1 (by omega), fun e => absurd rfl e, Nat.le_refl _, fun e => absurd rfl e⟩
theorem Dn.done {q : List It} {i0 i : Nat} (h : Dn q i0 i) (hc : ∀ j, 0 < j → j < q.length → (j - 1) / 2 = i → ky q i ≤ ky q j) : Hp q i0 := fun j h0 h1 h2 => by
  by_cases e : (j - 1) / 2 = i
  · rw [e]; exact hc j h0 h1 e
  · exact h.ok j h0 h1 h2 e
theorem Dn.swap {q : List It} {i0 i j : Nat} (h : Dn q i0 i) (hj : j < q.length) (hc : j = 2 * i + 1 ∨ j = 2 * i + 2) (hlt : ky q j < ky q i) (hmin : ∀ m, 0 < m → m < q.length → (m - 1) / 2 = i → ky q j ≤ ky q m) : Dn (swp q i j) i0 j := by
  have hi : i < q.length := by omega
  have hle := h.le
  refine ⟨fun m h0 h1 h2 h3 => ?_, fun _ m h0 h1 h2 => ?_, by omega, fun _ => by omega⟩
  · rw [swp_len] at h1
    rw [ky_swp hi hj, ky_swp hi hj]
    by_cases e1 : m = j
    · rw [if_neg (show (m - 1) / 2 ≠ j by omega), if_pos (show (m - 1) / 2 = i by omega), if_pos e1]
      omega
    · rw [if_neg h3, if_neg e1]
      by_cases e2 : (m - 1) / 2 = i
      · rw [if_pos e2, if_neg (show m ≠ i by omega)]
        exact hmin m h0 h1 e2
      · rw [if_neg e2]
        by_cases e3 : m = i
        · rw [if_pos e3]
          have hne : i ≠ i0 := by omega
          subst e3
          exact h.gr hne j (by omega) hj (by omega)
        · rw [if_neg e3]
          exact h.ok m h0 h1 h2 e2
  · rw [swp_len] at h1
    rw [ky_swp hi hj, ky_swp hi hj]
    rw [if_neg (show (j - 1) / 2 ≠ j by omega), if_pos (show (j - 1) / 2 = i by omega), if_neg (show m ≠ j by omega), if_neg (show m ≠ i by omega)]
    have := h.ok m h0 h1 (by omega) (by omega)
    rw [h2] at this
    exact this
/-- what holds in 'up' -/
structure Up (q : List It) (j : Nat) : Prop where
  ok : ∀ m, 0 < m → m < q.length → m ≠ j → ky q ((m - 1) / 2) ≤ ky q m
  gr : 0 < j → ∀ m, 0 < m → m < q.length → (m - 1) / 2 = j → ky q ((j - 1) / 2) ≤ ky q m
theorem Up.done {q : List It} {j : Nat} (h : Up q j) (hc : 0 < j → ky q ((j - 1) / 2) ≤ ky q j) : Hp q 0 := fun m h0 h1 _ => by
  by_cases e : m = j
  · subst e; exact hc h0
  · exact h.ok m h0 h1 e
theorem Up.swap {q : List It} {j : Nat} (h : Up q j) (hj : j < q.length) (h0 : 0 < j) (hlt : ky q j < ky q ((j - 1) / 2)) : Up (swp q ((j - 1) / 2) j) ((j - 1) / 2) := by
  have hi : (j - 1) / 2 < q.length := by omega
  refine ⟨fun m m0 m1 m2 => ?_, fun i0 m m0 m1 m2 => ?_⟩
  · rw [swp_len] at m1
    rw [ky_swp hi hj, ky_swp hi hj]
    by_cases e1 : m = j
    · rw [if_neg (show (m - 1) / 2 ≠ j by omega), if_pos (show (m - 1) / 2 = (j - 1) / 2 by rw [e1]), if_pos e1]
      omega
    · rw [if_neg e1, if_neg m2]
      by_cases e2 : (m - 1) / 2 = j
      · rw [if_pos e2]
        exact h.gr h0 m m0 m1 e2
      · rw [if_neg e2]
        by_cases e3 : (m - 1) / 2 = (j - 1) / 2
        · rw [if_pos e3]
          have := h.ok m m0 m1 e1
          rw [e3] at this
          omega
        · rw [if_neg e3]
          exact h.ok m m0 m1 e1
  · rw [swp_len] at m1
    rw [ky_swp hi hj, ky_swp hi hj]
    rw [if_neg (show ((j - 1) / 2 - 1) / 2 ≠ j by omega), if_neg (show ((j - 1) / 2 - 1) / 2 ≠ (j - 1) / 2 by omega)]
    have hp := h.ok ((j - 1) / 2) i0 hi (by omega)
    by_cases e1 : m = j
    · rw [if_pos e1]; exact hp
    · rw [if_neg e1, if_neg (show m ≠ (j - 1) / 2 by omega)]
      have := h.ok m m0 m1 e1
      rw [m2] at this
      omega
theorem Hp.root {q : List It} (h : Hp q 0) : ∀ j, j < q.length → ky q 0 ≤ ky q j
  | 0, _ => Int.le_refl _
  | j + 1, hj => by
    have h1 := h (j + 1) (by omega) hj (by omega)
    have h2 := Hp.root h ((j + 1 - 1) / 2) (by omega)
    omega
theorem Hp.leaf {q : List It} {k : Nat} (h : q.length ≤ 2 * k + 1) : Hp q k := fun j h0 h1 h2 => by omega
end Go.AM
namespace Go.AM
open Go
variable {N : Nat} {G : List Lnk} {U : List Bool} {r : Nat} {d : Nat → Int}
/-! ### parents and the ways to the root: plain law -/
/-- the other end of a link -/
def far (G : List Lnk) (i n : Nat) : Nat := match G[i]? with
  | some (a, b, _) => a + b - n
  | none => n
theorem far_ed (z : GOk N G U) {i n m c : Nat} (h : Ed G U i n m c) : far G i n = m := by
  have := z.ed h
  unfold far
  rcases h.2 with e | e <;> rw [e] <;> simp only <;> omega
theorem mem_nearL (z : GOk N G U) {n i m c : Nat} : (i, m, c) ∈ nearL G U d n ↔ Ed G U i n m c ∧ d n = d m + c := by
  unfold nearL
  rw [List.mem_filter, mem_edL z, decide_eq_true_eq]
theorem parL_cases (G : List Lnk) (U : List Bool) (d : Nat → Int) (n : Nat) : (parL G U d n = -1 ∧ nearL G U d n = []) ∨ ∃ i m c : Nat, parL G U d n = (i : Int) ∧ (i, m, c) ∈ nearL G U d n ∧ ∃ l, nearL G U d n = (i, m, c) :: l := by
  unfold parL
  cases h : nearL G U d n with
  | nil => exact .inl ⟨rfl, rfl⟩
  | cons e l => obtain ⟨i, m, c⟩ := e; exact .inr ⟨i, m, c, rfl, by simp, l, rfl⟩
theorem par_some (z : GOk N G U) (h : IsDist N G U r d) {n i : Nat} (hp : parL G U d n = (i : Int)) : ∃ m c, Ed G U i n m c ∧ far G i n = m ∧ n < N ∧ m < N ∧ 0 ≤ d m ∧ d n = d m + c ∧ 1 ≤ c := by
  rcases parL_cases G U d n with ⟨e, _⟩ | ⟨j, m, c, e, hm, _⟩
  · rw [e] at hp; omega
  · rw [e] at hp
    have : j = i := by omega
    subst this
    obtain ⟨h1, h2⟩ := (mem_nearL z).1 hm
    obtain ⟨n1, m1, _, c1, _⟩ := z.ed h1
    have lm := h.lo m m1
    refine ⟨m, c, h1, far_ed z h1, n1, m1, ?_, h2, c1⟩
    by_cases q : 0 ≤ d n
    · exact (h.clo j m n c h1.sym q).1
    · omega
theorem par_none (z : GOk N G U) (h : IsDist N G U r d) {n : Nat} (hn : n < N) (h0 : 0 ≤ d n) (hr : n ≠ r) : ∃ i : Nat, parL G U d n = (i : Int) := by
  obtain ⟨i, m, c, h1, _, h3⟩ := h.sup n hn h0 hr
  rcases parL_cases G U d n with ⟨_, e⟩ | ⟨j, _, _, e, _, _⟩
  · have := (mem_nearL (d := d) z).2 ⟨h1, h3⟩
    rw [e] at this; cases this
  · exact ⟨j, e⟩
theorem par_root (z : GOk N G U) (h : IsDist N G U r d) : parL G U d r = -1 := by
  rcases parL_cases G U d r with ⟨e, _⟩ | ⟨j, m, c, e, _, _⟩
  · exact e
  · obtain ⟨m, c, _, _, _, _, h1, h2, h3⟩ := par_some z h e
    rw [h.fr] at h2; omega
theorem par_neg (z : GOk N G U) (h : IsDist N G U r d) {n : Nat} (h0 : d n < 0) : parL G U d n = -1 := by
  rcases parL_cases G U d n with ⟨e, _⟩ | ⟨j, m, c, e, _, _⟩
  · exact e
  · obtain ⟨m, c, _, _, _, _, h1, h2, h3⟩ := par_some z h e
    omega
theorem par_lt (z : GOk N G U) (h : IsDist N G U r d) {n i : Nat} (hp : parL G U d n = (i : Int)) : i < G.length := by
  obtain ⟨m, c, h1, _⟩ := par_some z h hp
  rcases h1.2 with e | e <;> exact (List.getElem?_eq_some_iff.1 e).1
/-- a link is the parent of one node alone -/
theorem par_inj (z : GOk N G U) (h : IsDist N G U r d) {n n' i : Nat} (hp : parL G U d n = (i : Int)) (hp' : parL G U d n' = (i : Int)) : n = n' := by
  obtain ⟨m, c, h1, _, _, _, _, h2, h3⟩ := par_some z h hp
  obtain ⟨m', c', h1', _, _, _, _, h2', h3'⟩ := par_some z h hp'
  rcases h1.2 with e | e <;> rcases h1'.2 with e' | e' <;> rw [e] at e' <;> simp only [Option.some.injEq, Prod.mk.injEq] at e' <;> obtain ⟨rfl, rfl, rfl⟩ := e' <;> first | rfl | omega
inductive OnP (G : List Lnk) (p : Nat → Int) : Nat → Nat → Prop where
  | here {n i : Nat} : p n = (i : Int) → OnP G p n i
  | up {n i j : Nat} : p n = (i : Int) → OnP G p (far G i n) j → OnP G p n j
theorem OnP.no {p : Nat → Int} {n j : Nat} (h : OnP G p n j) : ∃ i : Nat, p n = (i : Int) := by
  cases h with
  | here e => exact ⟨_, e⟩
  | up e _ => exact ⟨_, e⟩
/-- the node below a link of a way -/
theorem OnP.node (z : GOk N G U) (h : IsDist N G U r d) {n j : Nat} (hj : OnP G (parL G U d) n j) : ∃ n', parL G U d n' = (j : Int) ∧ d n' ≤ d n ∧ (n' ≠ n → d n' < d n) ∧ ∀ k, OnP G (parL G U d) n' k → OnP G (parL G U d) n k := by
  induction hj with
  | here e => exact ⟨_, e, Int.le_refl _, fun q => absurd rfl q, fun _ hk => hk⟩
  | up e _ ih =>
    obtain ⟨n', h1, h2, h3, h4⟩ := ih
    obtain ⟨m, c, _, e2, _, _, _, e3, e4⟩ := par_some z h e
    rw [e2] at h2
    refine ⟨n', h1, by omega, fun _ => by omega, fun k hk => .up e (h4 k hk)⟩
theorem OnP.lt (z : GOk N G U) (h : IsDist N G U r d) {n j : Nat} (hj : OnP G (parL G U d) n j) : j < G.length := by
  obtain ⟨n', h1, _⟩ := hj.node z h
  exact par_lt z h h1
/-- links of the tree of some nodes -/
def InT (G : List Lnk) (p : Nat → Int) (M : Nat → Prop) (j : Nat) : Prop := ∃ m, M m ∧ OnP G p m j
theorem InT.closed (z : GOk N G U) (h : IsDist N G U r d) {M : Nat → Prop} {n i : Nat} (hp : parL G U d n = (i : Int)) (hi : InT G (parL G U d) M i) {j : Nat} (hj : OnP G (parL G U d) n j) : InT G (parL G U d) M j := by
  obtain ⟨m, hm, h1⟩ := hi
  obtain ⟨n', h2, _, _, h3⟩ := h1.node z h
  have := par_inj z h hp h2
  subst this
  exact ⟨m, hm, h3 j hj⟩
end Go.AM
namespace Go.AM
open Go
variable {N : Nat} {G : List Lnk} {U : List Bool} {r : Nat} {d d' : Nat → Int}
/-! ### the distances, the parents: as functions of the network -/
theorem edL_far (z : GOk N G U) {n : Nat} (hn : ¬ n < N) : edL G U n = [] := by
  cases h : edL G U n with
  | nil => rfl
  | cons e l =>
    obtain ⟨i, m, c⟩ := e
    have := (mem_edL z).1 (by rw [h]; exact List.mem_cons_self .. : (i, m, c) ∈ edL G U n)
    exact absurd (z.ed this).1 hn
theorem nearL_congr (z : GOk N G U) (hd : ∀ n, n < N → d n = d' n) {n : Nat} : nearL G U d n = nearL G U d' n := by
  unfold nearL
  by_cases hn : n < N
  · refine List.filter_congr fun e he => ?_
    obtain ⟨i, m, c⟩ := e
    have := z.ed ((mem_edL z).1 he)
    rw [hd n hn]
    show decide (d' n = d m + c) = decide (d' n = d' m + c)
    rw [hd m this.2.1]
  · rw [edL_far z hn]; rfl
open Classical in
noncomputable def dF (N : Nat) (G : List Lnk) (U : List Bool) (r : Nat) : Nat → Int := fun n => if h : ∃ d, IsDist N G U r d then h.choose n else 0
theorem dF_is (h : IsDist N G U r d) : IsDist N G U r (dF N G U r) := by
  have hx : ∃ d, IsDist N G U r d := ⟨d, h⟩
  have e : dF N G U r = hx.choose := by
    funext n
    unfold dF
    rw [dif_pos hx]
  rw [e]; exact hx.choose_spec
theorem dF_eq (z : GOk N G U) (h : IsDist N G U r d) {n : Nat} (hn : n < N) : d n = dF N G U r n := dist_uniq z h (dF_is h) hn
end Go.AM
namespace Go.AM
open Go
variable {N : Nat} {G : List Lnk} {U U' : List Bool} {r : Nat} {d d' : Nat → Int} {M : Nat → Prop}
/-! ### there are distances -/
theorem dist_exists (z : GOk N G U) (hN : N ≤ 40) (hr : r < N) : ∃ d, IsDist N G U r d := by
  have key : ∀ (k : Nat) (d : Nat → Int), RInv N G U r d → muD N d = k → ∃ d, IsDist N G U r d := by
    intro k
    induction k using Nat.strongRecOn with
    | _ k ih =>
      intro d h hk
      by_cases q : ∀ i a b c, Ed G U i a b c → 0 ≤ d a → 0 ≤ d b ∧ d b ≤ d a + c
      · exact ⟨d, h.end_ q⟩
      · have : ∃ i a b c, Ed G U i a b c ∧ 0 ≤ d a ∧ (d b < 0 ∨ d a + c < d b) := by
          apply Classical.byContradiction
          intro hno
          refine q fun i a b c e h0 => ?_
          apply Classical.byContradiction
          intro hn2
          exact hno ⟨i, a, b, c, e, h0, by omega⟩
        obtain ⟨i, a, b, c, e, h0, hb⟩ := this
        obtain ⟨h1, h2⟩ := h.relax z hN e h0 hb
        exact ih _ (by omega) _ h1 rfl
  exact key _ _ (RInv.start hr) rfl
theorem dF_all (z : GOk N G U) (hN : N ≤ 40) (hr : r < N) : IsDist N G U r (dF N G U r) := by
  obtain ⟨d, h⟩ := dist_exists z hN hr
  exact dF_is h
/-! ### components -/
inductive Con (G : List Lnk) (U : List Bool) : Nat → Nat → Prop where
  | refl (n : Nat) : Con G U n n
  | step {n m k i c : Nat} : Con G U n m → Ed G U i m k c → Con G U n k
theorem Con.trans {n m k : Nat} (h : Con G U n m) (h' : Con G U m k) : Con G U n k := by
  induction h' with
  | refl => exact h
  | step _ e ih => exact .step ih e
theorem Con.symm {n m : Nat} (h : Con G U n m) : Con G U m n := by
  induction h with
  | refl => exact .refl _
  | step _ e ih => exact (Con.step (.refl _) e.sym).trans ih
theorem con_of_dist (z : GOk N G U) (h : IsDist N G U r d) : ∀ (k n : Nat), n < N → 0 ≤ d n → (d n).toNat = k → Con G U r n := by
  intro k
  induction k using Nat.strongRecOn with
  | _ k ih =>
    intro n hn h0 hk
    by_cases e : n = r
    · rw [e]; exact .refl _
    · obtain ⟨i, m, c, h1, h2, h3⟩ := h.sup n hn h0 e
      obtain ⟨_, hm, _, hc, _⟩ := z.ed h1
      exact .step (ih (d m).toNat (by omega) m hm h2 rfl) h1.sym
theorem dist_of_con (h : IsDist N G U r d) {n : Nat} (c : Con G U r n) : 0 ≤ d n := by
  induction c with
  | refl => rw [h.fr]; exact Int.le_refl _
  | step _ e ih => exact (h.clo _ _ _ _ e.sym ih).1
theorem dist_con (z : GOk N G U) (h : IsDist N G U r d) {n : Nat} (hn : n < N) : 0 ≤ d n ↔ Con G U r n := ⟨fun h0 => con_of_dist z h _ n hn h0 rfl, dist_of_con h⟩
/-! ### fewer links -/
/-! ### the nodes of a tree -/
abbrev Tr0 (G : List Lnk) (U : List Bool) (d : Nat → Int) (M : Nat → Prop) : Nat → Prop := InT G (parL G U d) M
/-- the nodes that a tree connects -/
def InV (G : List Lnk) (U : List Bool) (r : Nat) (d : Nat → Int) (M : Nat → Prop) (n : Nat) : Prop := n = r ∨ ∃ i : Nat, parL G U d n = (i : Int) ∧ Tr0 G U d M i
theorem Tr0.lt (z : GOk N G U) (h : IsDist N G U r d) {i : Nat} (hi : Tr0 G U d M i) : i < G.length := by
  obtain ⟨m, _, q⟩ := hi
  exact q.lt z h
/-- the ends of a link of a tree: the lower one, and the upper one -/
theorem Tr0.ends (z : GOk N G U) (h : IsDist N G U r d) {i : Nat} (hi : Tr0 G U d M i) : ∃ n m c, parL G U d n = (i : Int) ∧ Ed G U i n m c ∧ n < N ∧ m < N ∧ far G i n = m ∧ n ≠ r ∧ d m < d n ∧ 0 ≤ d m ∧ InV G U r d M n ∧ InV G U r d M m := by
  obtain ⟨q, hq, h1⟩ := hi
  obtain ⟨n, hn, _, _, hw⟩ := h1.node z h
  obtain ⟨m, c, e1, e2, e3, e4, e5, e6, e7⟩ := par_some z h hn
  refine ⟨n, m, c, hn, e1, e3, e4, e2, fun e => ?_, by omega, e5, .inr ⟨i, hn, q, hq, hw i (.here hn)⟩, ?_⟩
  · rw [e, par_root z h] at hn; omega
  · by_cases e : m = r
    · exact .inl e
    · obtain ⟨j, hj⟩ := par_none z h e4 e5 e
      exact .inr ⟨j, hj, q, hq, hw j (.up hn (by rw [e2]; exact .here hj))⟩
theorem InV.at (z : GOk N G U) (h : IsDist N G U r d) {i a b c : Nat} (hi : Tr0 G U d M i) (hg : G[i]? = some (a, b, c)) : InV G U r d M a ∧ InV G U r d M b := by
  obtain ⟨n, m, c', _, e, _, _, _, _, _, _, h1, h2⟩ := hi.ends z h
  rcases e.2 with q | q <;> rw [hg] at q <;> simp only [Option.some.injEq, Prod.mk.injEq] at q <;> obtain ⟨rfl, rfl, _⟩ := q
  · exact ⟨h1, h2⟩
  · exact ⟨h2, h1⟩
theorem InV.lt (z : GOk N G U) (hr : r < N) (h : IsDist N G U r d) {n : Nat} (hn : InV G U r d M n) : n < N ∧ 0 ≤ d n := by
  rcases hn with rfl | ⟨i, hi, _⟩
  · exact ⟨hr, by rw [h.fr]; exact Int.le_refl _⟩
  · obtain ⟨m, c, _, _, h1, _, h2, h3, _⟩ := par_some z h hi
    exact ⟨h1, by omega⟩
/-- a member is connected -/
theorem InV.mem (z : GOk N G U) (h : IsDist N G U r d) {n : Nat} (hn : n < N) (h0 : 0 ≤ d n) (hm : M n) : InV G U r d M n := by
  by_cases e : n = r
  · exact .inl e
  · obtain ⟨i, hi⟩ := par_none z h hn h0 e
    exact .inr ⟨i, hi, n, hm, .here hi⟩
/-- what is closed under the links of a tree, and has its root, has its nodes -/
theorem InV.all (z : GOk N G U) (hr : r < N) (h : IsDist N G U r d) {P : Nat → Prop} (h0 : P r) (hs : ∀ i n m c, Tr0 G U d M i → Ed G U i n m c → P m → P n) : ∀ (k n : Nat), (d n).toNat = k → InV G U r d M n → P n := by
  intro k
  induction k using Nat.strongRecOn with
  | _ k ih =>
    intro n hk hn
    rcases hn with rfl | ⟨i, hi, ht⟩
    · exact h0
    · obtain ⟨n', m, c, e1, e2, _, _, _, _, e3, e4, _, e5⟩ := ht.ends z h
      have := par_inj z h hi e1
      subst this
      exact hs i n m c ht e2 (ih (d m).toNat (by omega) m rfl e5)
/-- a node that is no member has a link below it -/
theorem OnP.under (z : GOk N G U) (h : IsDist N G U r d) {m n j : Nat} (hj : OnP G (parL G U d) m j) (hp : parL G U d n = (j : Int)) (hne : n ≠ m) : ∃ c j' : Nat, parL G U d c = (j' : Int) ∧ OnP G (parL G U d) m j' ∧ far G j' c = n ∧ j' ≠ j := by
  induction hj with
  | here e => exact absurd (par_inj z h hp e) hne
  | up e h2 ih =>
    rename_i m i j
    by_cases q : n = far G i m
    · refine ⟨m, i, e, .here e, q.symm, fun q2 => ?_⟩
      subst q2
      exact hne (par_inj z h hp e)
    · obtain ⟨c, j', h3, h4, h5, h6⟩ := ih hp q
      exact ⟨c, j', h3, .up e h4, h5, h6⟩
theorem InV.two (z : GOk N G U) (h : IsDist N G U r d) {n i : Nat} (hp : parL G U d n = (i : Int)) (ht : Tr0 G U d M i) (hm : ¬ M n) : ∃ j m c, Tr0 G U d M j ∧ Ed G U j n m c ∧ j ≠ i := by
  obtain ⟨q, hq, h1⟩ := ht
  obtain ⟨c, j', h2, h3, h4, h5⟩ := h1.under z h hp (fun e => hm (e ▸ hq))
  obtain ⟨m, c', e1, e2, _⟩ := par_some z h h2
  rw [h4] at e2
  subst e2
  exact ⟨j', c, c', ⟨q, hq, h3⟩, e1.sym, h5⟩
/-- the nodes but for the root stand for the links -/
theorem InV.count (z : GOk N G U) (hr : r < N) (h : IsDist N G U r d) {V T : List Nat} (hV : V.Nodup) (hT : T.Nodup) (mV : ∀ n, n ∈ V ↔ InV G U r d M n) (mT : ∀ i, i ∈ T ↔ Tr0 G U d M i) : V.length = T.length + 1 := by
  have hrV : r ∈ V := (mV r).2 (.inl rfl)
  have e1 := List.length_erase_of_mem hrV
  have hpos : 0 < V.length := List.length_pos_of_mem hrV
  have nd : (V.erase r).Nodup := hV.erase r
  have memE : ∀ n, n ∈ V.erase r ↔ n ≠ r ∧ n ∈ V := fun n => hV.mem_erase_iff
  have key : ∀ n ∈ V.erase r, ∃ i : Nat, parL G U d n = (i : Int) ∧ Tr0 G U d M i := fun n hn => by
    obtain ⟨h1, h2⟩ := (memE n).1 hn
    rcases (mV n).1 h2 with e | e
    · exact absurd e h1
    · exact e
  have nm : ((V.erase r).map fun n => (parL G U d n).toNat).Nodup := by
    refine List.pairwise_map.2 (List.Pairwise.imp_of_mem (fun {a b} ha hb hab => ?_) nd)
    intro e
    obtain ⟨i, hi, _⟩ := key a ha
    obtain ⟨j, hj, _⟩ := key b hb
    rw [hi, hj] at e
    have : i = j := by omega
    subst this
    exact hab (par_inj z h hi hj)
  have pm : ((V.erase r).map fun n => (parL G U d n).toNat).Perm T := by
    refine (List.perm_ext_iff_of_nodup nm hT).2 fun i => ?_
    rw [List.mem_map, mT]
    constructor
    · rintro ⟨n, hn, rfl⟩
      obtain ⟨i, hi, ht⟩ := key n hn
      rw [hi]; exact ht
    · intro ht
      obtain ⟨n, m, c, h1, _, _, _, _, h2, _, _, h3, _⟩ := ht.ends z h
      exact ⟨n, (memE n).2 ⟨h2, (mV n).2 h3⟩, by rw [h1]; rfl⟩
  have := pm.length_eq
  rw [List.length_map] at this
  omega
end Go.AM
namespace Go.AM
open Go Go.Proofs
variable {K : AVal → Heap → Prop} {s s' : Heap}
/-! ### the queue in memory -/
def shR (x : It) : List AVal := [.int .i64 (x.1 : Int), .int .i64 (x.2 : Int)]
abbrev flatQ (q : List It) : List AVal := (q.map shR).flatten
theorem shR_len (q : List It) : ∀ r ∈ q.map shR, r.length = 2 := fun r hr => by obtain ⟨x, _, rfl⟩ := List.mem_map.1 hr; rfl
theorem flatQ_len (q : List It) : (flatQ q).length = q.length * 2 := by rw [flat_len (shR_len q), List.length_map]
theorem flatQ_put {x : It} : ∀ {q : List It} {i : Nat}, i < q.length → setRange (flatQ q) (i * 2) (shR x) = flatQ (q.set i x)
  | [], _, h => by simp at h
  | y :: q, 0, _ => rfl
  | y :: q, i + 1, h => by
    have ih := flatQ_put (x := x) (q := q) (i := i) (by simpa using h)
    have e3 : (i + 1) * 2 = i * 2 + 2 := by omega
    have e4 : setRange (flatQ (y :: q)) (i * 2 + 2) (shR x) = .int .i64 (y.1 : Int) :: .int .i64 (y.2 : Int) :: setRange (flatQ q) (i * 2) (shR x) := by
      have e5 : flatQ (y :: q) = .int .i64 (y.1 : Int) :: .int .i64 (y.2 : Int) :: flatQ q := rfl
      unfold setRange
      rw [e5]
      show (.int .i64 (y.1 : Int) :: .int .i64 (y.2 : Int) :: (flatQ q).take (i * 2)) ++ shR x ++ (flatQ q).drop (i * 2 + 2) = _
      rfl
    rw [e3, e4, ih]; rfl
/-- q: the heap; r: what lies behind it in the list -/
structure QAt (s : Heap) (o sb : Nat) (cap : Option Nat) (q : List It) : Prop where
  ob : s o = some (false, .cells 134 [.slc sb 0 q.length cap 2])
  dt : ∃ tl, s sb = some (false, .cells 132 (flatQ q ++ tl)) ∧ ∀ c, cap = some c → q.length ≤ c ∧ c * 2 = q.length * 2 + tl.length
  ln : q.length ≤ 1000000
variable {o sb : Nat} {cap : Option Nat} {q : List It}
theorem QAt.ne (h : QAt s o sb cap q) : o ≠ sb := by
  rintro rfl
  obtain ⟨tl, e, _⟩ := h.dt
  rw [h.ob] at e; cases e
theorem QAt.keep {fp : Nat → Prop} (h : QAt s o sb cap q) (k : KeepBut fp s s') (h1 : ¬ fp o) (h2 : ¬ fp sb) : QAt s' o sb cap q := by
  obtain ⟨tl, e, hc⟩ := h.dt
  exact ⟨k _ _ h.ob h1, ⟨tl, k _ _ e h2, hc⟩, h.ln⟩
theorem QAt.sub (h : QAt s o sb cap q) (k : Sub s s') : QAt s' o sb cap q := h.keep (fp := fun _ => False) k.keep (fun h => h) fun h => h
theorem q_addr {n i : Nat} (hi : i < n) : iaddrS 2 (.slc sb 0 n cap 2) (.int .i64 (i : Int)) = some (.ptr sb (i * 2)) := by
  have : Nat.blt i n = true := by rw [Nat.blt_eq]; exact hi
  simp [iaddrS, this]
theorem QAt.sl (h : QAt s o sb cap q) : SlR 2 s (.slc sb 0 q.length cap 2) (q.map shR) := by
  obtain ⟨tl, e, hc⟩ := h.dt
  refine ⟨shR_len q, .inr ⟨sb, 0, cap, by simp, fun c hc' => by simpa using (hc c hc').1, fun _ => ⟨_, _, _, e, ?_, ?_⟩⟩⟩
  · rw [List.length_append, flatQ_len, List.length_map]; omega
  · rw [List.drop_zero, List.length_map, ← flatQ_len, List.take_left]
theorem QAt.row (h : QAt s o sb cap q) {i : Nat} (hi : i < q.length) : rdN s 2 (.ptr sb (i * 2)) = some (shR (at0 q i)) ∧ rd1 s (.ptr sb (i * 2)) = some (.int .i64 ((at0 q i).1 : Int)) ∧ rd1 s (.ptr sb (i * 2 + 1)) = some (.int .i64 ((at0 q i).2 : Int)) := by
  obtain ⟨b, p, h1, h2, h3⟩ := h.sl.get (i := i) (r := shR (at0 q i)) (by simp [at0_get hi, hi])
  rw [q_addr hi] at h1
  cases h1
  exact ⟨h2, h3 0 (by omega), h3 1 (by omega)⟩
abbrev qv (o : Nat) : AVal := .ifc 130 (.ptr o 0)
theorem meth_Len : methodA Try.prog 130 (.ptr o 0) "Len" = bd (loadA Try.prog 134 o 0) fun r => ret (72, r) := by kernel_rfl
theorem meth_Less : methodA Try.prog 130 (.ptr o 0) "Less" = bd (loadA Try.prog 134 o 0) fun r => ret (117, r) := by kernel_rfl
theorem meth_Swap : methodA Try.prog 130 (.ptr o 0) "Swap" = bd (loadA Try.prog 134 o 0) fun r => ret (120, r) := by kernel_rfl
theorem meth_Pop : methodA Try.prog 130 (.ptr o 0) "Pop" = ret (118, .ptr o 0) := by kernel_rfl
theorem meth_Push : methodA Try.prog 130 (.ptr o 0) "Push" = ret (119, .ptr o 0) := by kernel_rfl
theorem load134 {R : AVal → Prop} : loadK Try.prog 134 (.ptr o 0) R s = optK (rd1 s (.ptr o 0)) R := by kernel_rfl
/-- a method with a value receiver -/
theorem valM {name : String} {f : FuncId} {args : List AVal} (hm : methodA Try.prog 130 (.ptr o 0) name = bd (loadA Try.prog 134 o 0) fun r => ret (f, r)) (hf : isFn Try.prog f = true) (h : QAt s o sb cap q) (hK : wpCall Try.prog XX f (.slc sb 0 q.length cap 2 :: args) K s) : methK Try.prog XX (qv o) name args K s := by
  show wpF (fun _ => methodA Try.prog 130 (.ptr o 0) name) _ s
  rw [hm]
  refine wpF.bd (.const _) (fun _ => .const _) (wp_load (p := .ptr o 0) ?_)
  rw [load134, rd1_mk h.ob]
  exact wpF.ret ⟨hf, hK⟩
theorem mLen_in (h : QAt s o sb cap q) (hK : K (.int .i64 (q.length : Int)) s) : methK Try.prog XX (qv o) "Len" [] K s := by
  refine valM meth_Len (by kernel_rfl) h (vc_spf_queue_Len_in ?_)
  simp only [vc_spf_queue_Len, lenOf_slc, optK_mk]
  exact hK
theorem mLess_in {i j : Nat} (h : QAt s o sb cap q) (hi : i < q.length) (hj : j < q.length) (hK : K (.bool (decide (ky q i < ky q j))) s) : methK Try.prog XX (qv o) "Less" [.int .i64 (i : Int), .int .i64 (j : Int)] K s := by
  refine valM meth_Less (by kernel_rfl) h (vc_spf_queue_Less_in ?_)
  simp only [vc_spf_queue_Less, q_addr hi, q_addr hj, addOff_ptr, (h.row hi).2.2, (h.row hj).2.2, arith_lss, optK_mk]
  exact hK
theorem mSwap_in {i j : Nat} (h : QAt s o sb cap q) (hi : i < q.length) (hj : j < q.length) (hK : ∀ s', QAt s' o sb cap (swp q i j) → KeepBut (fun b => b = sb) s s' → K (.tup []) s') : methK Try.prog XX (qv o) "Swap" [.int .i64 (i : Int), .int .i64 (j : Int)] K s := by
  refine valM meth_Swap (by kernel_rfl) h (vc_spf_queue_Swap_in ?_)
  have ri := (h.row hi).1
  have rj := (h.row hj).1
  obtain ⟨tl, hd, hc⟩ := h.dt
  have wr : ∀ {s : Heap} {q : List It} {i : Nat} {x : It} {R : Heap → Prop}, s sb = some (false, .cells 132 (flatQ q ++ tl)) → i < q.length → (∀ s', s' sb = some (false, .cells 132 (flatQ (q.set i x) ++ tl)) → Upto sb s s' → R s') → optK (wrAgg s 2 (.ptr sb (i * 2)) (.agg (shR x))) R := by
    intro s q i x R hs hi hR
    have e0 : i * 2 + 2 ≤ (flatQ q).length := by rw [flatQ_len]; omega
    have e1 : Nat.ble (i * 2 + (shR x).length) (flatQ q ++ tl).length = true := Nat.ble_eq_true_of_le (by rw [List.length_append]; show i * 2 + 2 ≤ _; omega)
    have e3 : setRange (flatQ q ++ tl) (i * 2) (shR x) = flatQ (q.set i x) ++ tl := by
      rw [← flatQ_put hi]
      unfold setRange
      rw [List.take_append_of_le_length (by omega), List.drop_append_of_le_length (by show i * 2 + 2 ≤ _; omega), List.append_assoc, List.append_assoc, List.append_assoc]
    have e2 : wrAgg s 2 (.ptr sb (i * 2)) (.agg (shR x)) = some (hset s sb (false, .cells 132 (flatQ (q.set i x) ++ tl))) := by
      rw [← e3]
      simp only [wrAgg, cells_agg, show Nat.beq (shR x).length 2 = true from rfl, cond_true, wrN, hs, e1, show allOne (shR x) = true from rfl, Bool.and_self]
    exact optK_of e2 (hR _ hset_eq fun _ hi => hset_other hi)
  simp only [vc_spf_queue_Swap, q_addr hi, q_addr hj, ri, rj, optK_mk]
  refine wr hd hi fun s1 h1 u1 => wr h1 (by simpa using hj) fun s2 h2 u2 => ?_
  refine hK _ ⟨?_, ⟨tl, h2, fun c e => by rw [swp_len]; exact hc c e⟩, by rw [swp_len]; exact h.ln⟩ ((u1.keep (fp := fun b => b = sb) rfl).trans (u2.keep (fp := fun b => b = sb) rfl))
  rw [u2 o h.ne, u1 o h.ne, swp_len]; exact h.ob
end Go.AM
namespace Go.AM
open Go Go.Proofs
variable {K : AVal → Heap → Prop} {s s' : Heap} {o sb : Nat} {cap : Option Nat} {q r : List It}
theorem at0_app {j : Nat} (h : j < q.length) : at0 (q ++ r) j = at0 q j := by
  rw [at0_get (by rw [List.length_append]; omega), at0_get h, List.getElem_append_left h]
theorem ky_app {j : Nat} (h : j < q.length) : ky (q ++ r) j = ky q j := by unfold ky; rw [at0_app h]
theorem swp_app {i j : Nat} (hi : i < q.length) (hj : j < q.length) : swp (q ++ r) i j = swp q i j ++ r := by
  unfold swp
  rw [at0_app hi, at0_app hj, List.set_append_left _ _ hi, List.set_append_left _ _ (by simpa using hj)]
theorem mLessA {i j : Nat} (h : QAt s o sb cap (q ++ r)) (hi : i < q.length) (hj : j < q.length) (hK : ∀ s', Sub s s' → K (.bool (decide (ky q i < ky q j))) s') : methK Try.prog XX (qv o) "Less" [.int .i64 (i : Int), .int .i64 (j : Int)] K s := by
  refine mLess_in h (by rw [List.length_append]; omega) (by rw [List.length_append]; omega) ?_
  rw [ky_app hi, ky_app hj]
  exact hK s (.refl s)
theorem mSwapA {i j : Nat} (h : QAt s o sb cap (q ++ r)) (hi : i < q.length) (hj : j < q.length) (hK : ∀ s', QAt s' o sb cap (swp q i j ++ r) → KeepBut (fun b => b = sb) s s' → K (.tup []) s') : methK Try.prog XX (qv o) "Swap" [.int .i64 (i : Int), .int .i64 (j : Int)] K s := by
  refine mSwap_in h (by rw [List.length_append]; omega) (by rw [List.length_append]; omega) fun s' z k => hK s' ?_ k
  rw [← swp_app hi hj]; exact z
theorem QAt.ln2 (h : QAt s o sb cap (q ++ r)) : q.length ≤ 1000000 := by have := h.ln; rw [List.length_append] at this; omega
/-- sift down -/
theorem down_in {i0 : Nat} (h : QAt s o sb cap (q ++ r)) (hd : Hp q (i0 + 1)) (h0 : i0 < q.length) (hK : ∀ s' q' b, QAt s' o sb cap (q' ++ r) → q'.Perm q → Hp q' i0 → KeepBut (fun b => b = sb) s s' → (b = false → q' = q) → ((∀ j, 0 < j → j < q.length → (j - 1) / 2 = i0 → ky q i0 ≤ ky q j) → b = false) → K (.bool b) s') : wpCall Try.prog XX 84 [qv o, .int .i64 (i0 : Int), .int .i64 (q.length : Int)] K s := by
  refine vh_down_in ?_
  refine ⟨fun ys s1 n => ∃ (i : Nat) (q1 : List It), ys = [.int .i64 i] ∧ n = q.length - i ∧ i < q.length ∧ QAt s1 o sb cap (q1 ++ r) ∧ q1.Perm q ∧ Dn q1 i0 i ∧ KeepBut (fun b => b = sb) s s1 ∧ (i = i0 → q1 = q) ∧ ((∀ j, 0 < j → j < q.length → (j - 1) / 2 = i0 → ky q i0 ≤ ky q j) → i = i0), ⟨_, i0, q, rfl, rfl, h0, h, .refl q, hd.dn, .refl _ s, fun _ => rfl, fun _ => rfl⟩, ?_⟩
  rintro f s1 n ⟨i, q1, hy, rfl, hi, z, hp, dn, kp, same, stay⟩
  simp only [List.cons.injEq, and_true] at hy
  rw [hy]
  have hlen := hp.length_eq
  have hl := h.ln2
  have m1 : IntKind.i64.wrap (2 * (i : Int)) = ((2 * i : Nat) : Int) := by rw [wrap64 (by omega) (by omega)]; omega
  have m2 : IntKind.i64.wrap (((2 * i : Nat) : Int) + 1) = ((2 * i + 1 : Nat) : Int) := by rw [wrap64 (by omega) (by omega)]; omega
  have m3 : IntKind.i64.wrap (((2 * i + 1 : Nat) : Int) + 1) = ((2 * i + 2 : Nat) : Int) := by rw [wrap64 (by omega) (by omega)]; omega
  simp only [vh_down_l1, arith_mul, optK_mk, m1, arith_add, m2, arith_geq, arith_lss]
  have fin : ∀ s2, Sub s1 s2 → (∀ j, 0 < j → j < q1.length → (j - 1) / 2 = i → ky q1 i ≤ ky q1 j) → vh_down_j0 XX (.int .i64 (i0 : Int)) (.int .i64 (i : Int)) K s2 := by
    intro s2 hs hc
    simp only [vh_down_j0, arith_gtr, optK_mk]
    refine hK s2 q1 _ (z.sub hs) hp (dn.done hc) (kp.trans hs.keep) (fun hb => same ?_) fun hst => ?_
    · have := of_decide_eq_false hb
      have := dn.le
      omega
    · rw [stay hst, decide_eq_false_iff_not]
      omega
  by_cases hc : q.length ≤ 2 * i + 1
  · have e1 : decide ((q.length : Int) ≤ ((2 * i + 1 : Nat) : Int)) = true := by rw [decide_eq_true_eq]; omega
    rw [e1]
    simp only [boolK_true, vh_down_j2, pickV_true, optK_mk]
    exact fin s1 (.refl s1) fun j a b c => by omega
  · have e1 : decide ((q.length : Int) ≤ ((2 * i + 1 : Nat) : Int)) = false := by rw [decide_eq_false_iff_not]; omega
    have e2 : decide (((2 * i + 1 : Nat) : Int) < 0) = false := by rw [decide_eq_false_iff_not]; omega
    rw [e1, e2]
    simp only [boolK_false, vh_down_j2, pickV_false, optK_mk, arith_add, m3, arith_lss]
    -- what comes once the child is chosen
    have go : ∀ (s2 : Heap) (j : Nat), Sub s1 s2 → j < q1.length → (j = 2 * i + 1 ∨ j = 2 * i + 2) → (∀ m, 0 < m → m < q1.length → (m - 1) / 2 = i → ky q1 j ≤ ky q1 m) →
        vh_down_j4 XX (qv o) (.int .i64 (i0 : Int)) (.int .i64 (i : Int)) (.int .i64 (j : Int)) (fun ys s1 n => ∃ (i : Nat) (q1 : List It), ys = [.int .i64 i] ∧ n = q.length - i ∧ i < q.length ∧ QAt s1 o sb cap (q1 ++ r) ∧ q1.Perm q ∧ Dn q1 i0 i ∧ KeepBut (fun b => b = sb) s s1 ∧ (i = i0 → q1 = q) ∧ ((∀ j, 0 < j → j < q.length → (j - 1) / 2 = i0 → ky q i0 ≤ ky q j) → i = i0)) (q.length - i) K s2 := by
      intro s2 j hs hj hc2 hmin
      unfold vh_down_j4
      refine mLessA (z.sub hs) hj (by omega) fun s3 hs3 => ?_
      simp only [unary_not, optK_mk]
      refine boolK_mk (fun hb => ?_) (fun hb => ?_)
      · have hb : ¬ ky q1 j < ky q1 i := by simpa using hb
        exact fin s3 (hs.trans hs3) fun m a b c => by have := hmin m a b c; omega
      · have hb : ky q1 j < ky q1 i := by simpa using hb
        refine mSwapA (z.sub (hs.trans hs3)) (by omega) hj fun s4 z4 k4 => ?_
        refine ⟨_, ?_, j, _, rfl, rfl, by omega, z4, (swp_perm (by omega) hj).trans hp, dn.swap hj hc2 hb hmin, (kp.trans (hs.trans hs3).keep).trans k4, fun e => ?_, fun hst => ?_⟩
        · omega
        · have := dn.le; omega
        · have e1 := stay hst
          have e2 := same e1
          subst e1
          rw [e2] at hb
          have := hst j (by omega) (by omega) (by omega)
          omega
    refine boolK_mk (fun hb => ?_) (fun hb => ?_)
    · have hb2 : 2 * i + 2 < q.length := by have := of_decide_eq_true hb; omega
      rw [hb]
      refine mLessA z (by omega) (by omega) fun s2 hs2 => ?_
      simp only [vh_down_j3, pickV_true, optK_mk]
      refine boolK_mk (fun hl2 => ?_) (fun hl2 => ?_)
      · have hl2 := of_decide_eq_true hl2
        exact go s2 (2 * i + 2) hs2 (by omega) (.inr rfl) fun m a b c => by
          have : m = 2 * i + 1 ∨ m = 2 * i + 2 := by omega
          rcases this with rfl | rfl
          · omega
          · exact Int.le_refl _
      · have hl2 := of_decide_eq_false hl2
        exact go s2 (2 * i + 1) hs2 (by omega) (.inl rfl) fun m a b c => by
          have : m = 2 * i + 1 ∨ m = 2 * i + 2 := by omega
          rcases this with rfl | rfl
          · exact Int.le_refl _
          · omega
    · have hb2 : ¬ 2 * i + 2 < q.length := by have := of_decide_eq_false hb; omega
      rw [hb]
      simp only [vh_down_j3, pickV_false, optK_mk, boolK_false]
      exact go s1 (2 * i + 1) (.refl s1) (by omega) (.inl rfl) fun m a b c => by
        have : m = 2 * i + 1 := by omega
        subst this
        exact Int.le_refl _
/-- sift up -/
theorem up_in {j0 : Nat} (h : QAt s o sb cap (q ++ r)) (hu : Up q j0) (h0 : j0 < q.length) (hK : ∀ s' q', QAt s' o sb cap (q' ++ r) → q'.Perm q → Hp q' 0 → KeepBut (fun b => b = sb) s s' → K (.tup []) s') : wpCall Try.prog XX 85 [qv o, .int .i64 (j0 : Int)] K s := by
  refine vh_up_in ?_
  refine ⟨fun ys s1 n => ∃ (j : Nat) (q1 : List It), ys = [.int .i64 j] ∧ n = j ∧ j < q.length ∧ QAt s1 o sb cap (q1 ++ r) ∧ q1.Perm q ∧ Up q1 j ∧ KeepBut (fun b => b = sb) s s1, ⟨_, j0, q, rfl, rfl, h0, h, .refl q, hu, .refl _ s⟩, ?_⟩
  rintro f s1 n ⟨j, q1, hy, rfl, hj, z, hp, up, kp⟩
  simp only [List.cons.injEq, and_true] at hy
  rw [hy]
  have hlen := hp.length_eq
  have hl := h.ln2
  simp only [vh_up_l0, arith_sub, optK_mk]
  rw [wrap64 (by omega) (by omega)]
  simp only [arith_quo (show (2 : Int) ≠ 0 by omega), optK_mk]
  have e1 : ((n : Int) - 1).tdiv 2 = (((n - 1) / 2 : Nat) : Int) := by
    cases n with
    | zero => rfl
    | succ m =>
      rw [show ((m + 1 : Nat) : Int) - 1 = (m : Int) by omega, show m + 1 - 1 = m by omega, Int.tdiv_eq_ediv_of_nonneg (by omega)]
      rfl
  rw [e1, wrap64 (by omega) (by omega)]
  simp only [eqV_int, negB_mk, Bool.false_bne, optK_mk]
  cases n with
  | zero =>
    simp only [show ((((0 - 1) / 2 : Nat) : Int) == ((0 : Nat) : Int)) = true from rfl, boolK_true, vh_up_j1, pickV_true, optK_mk]
    exact hK s1 q1 z hp (up.done fun h => absurd h (by omega)) kp
  | succ m =>
    have e2 : ((((m + 1 - 1) / 2 : Nat) : Int) == ((m + 1 : Nat) : Int)) = false := by
      cases hq : ((((m + 1 - 1) / 2 : Nat) : Int) == ((m + 1 : Nat) : Int)) with
      | false => rfl
      | true => have := eq_of_beq hq; omega
    rw [e2]
    simp only [boolK_false]
    refine mLessA z (by omega) (by omega) fun s2 hs2 => ?_
    simp only [unary_not, optK_mk, vh_up_j1, pickV_false]
    refine boolK_mk (fun hb => ?_) (fun hb => ?_)
    · have hb : ¬ ky q1 (m + 1) < ky q1 ((m + 1 - 1) / 2) := by simpa using hb
      exact hK s2 q1 (z.sub hs2) hp (up.done fun _ => by omega) (kp.trans hs2.keep)
    · have hb : ky q1 (m + 1) < ky q1 ((m + 1 - 1) / 2) := by simpa using hb
      refine mSwapA (z.sub hs2) (by omega) (by omega) fun s3 z3 k3 => ?_
      exact ⟨_, by omega, _, _, rfl, rfl, by omega, z3, (swp_perm (by omega) (by omega)).trans hp, up.swap (by omega) (by omega) hb, (kp.trans hs2.keep).trans k3⟩
end Go.AM
namespace Go.AM
open Go Go.Proofs
variable {K : AVal → Heap → Prop} {s s' : Heap} {o sb : Nat} {cap : Option Nat} {q r : List It}
theorem sub_upto {s s' s'' : Heap} {b : Nat} (h : Sub s s') (u : Upto b s' s'') (hb : s b = none) : Sub s s'' := fun i e hi => by rw [u i (ne_of_some hb hi)]; exact h i e hi
theorem flatQ_app (a b : List It) : flatQ (a ++ b) = flatQ a ++ flatQ b := by simp [flatQ]
theorem down_nil {x : It} (hK : ∀ b, K (.bool b) s) : wpCall Try.prog XX 84 [qv o, .int .i64 0, .int .i64 0] K s := by
  refine vh_down_in ?_
  refine ⟨fun ys s1 n => ys = [.int .i64 0] ∧ s1 = s, ⟨0, rfl, rfl⟩, ?_⟩
  rintro f s1 n ⟨hy, rfl⟩
  simp only [List.cons.injEq, and_true] at hy
  rw [hy]
  simp only [vh_down_l1, arith_mul, optK_mk, arith_add, arith_geq]
  rw [show IntKind.i64.wrap (2 * 0) = 0 by rw [wrap64 (by omega) (by omega)]; rfl, show IntKind.i64.wrap (0 + 1) = 1 by rw [wrap64 (by omega) (by omega)]; rfl]
  simp only [show decide ((0 : Int) ≤ 1) = true from rfl, boolK_true, vh_down_j2, pickV_true, optK_mk, vh_down_j0, arith_gtr]
  exact hK _
/-- the last element is taken off -/
theorem mPop_in {x : It} (h : QAt s o sb cap (q ++ [x])) (hK : ∀ s', QAt s' o sb cap q → KeepBut (fun b => b = o) s s' → K (.ifc 132 (.agg (shR x))) s') : methK Try.prog XX (qv o) "Pop" [] K s := by
  show wpF (fun _ => methodA Try.prog 130 (.ptr o 0) "Pop") _ s
  rw [meth_Pop]
  refine wpF.ret ⟨by kernel_rfl, vc_spf_queue_Pop_in ?_⟩
  have hln := h.ln
  rw [List.length_append, List.length_singleton] at hln
  have hlen : (q ++ [x]).length = q.length + 1 := by simp
  have row := (h.row (i := q.length) (by rw [hlen]; omega)).1
  have hx : at0 (q ++ [x]) q.length = x := by rw [at0_get (by rw [hlen]; omega)]; simp
  rw [hx] at row
  have e1 : IntKind.i64.wrap (((q ++ [x]).length : Int) - 1) = (q.length : Int) := by rw [wrap64 (by omega) (by omega), hlen]; omega
  have ad := q_addr (sb := sb) (cap := cap) (n := (q ++ [x]).length) (i := q.length) (by rw [hlen]; omega)
  simp only [vc_spf_queue_Pop, nilCheck_ptr, rd1_mk h.ob, List.getElem?_cons_zero, lenOf_slc, arith_sub, e1, ad, row, optK_mk]
  refine new_step fun b s1 hb h1 u1 => wrAgg_step h1 rfl rfl rfl fun s2 h2 u2 => ?_
  have h2 : s2 b = some (false, .cells 132 (shR x)) := h2
  have sub2 : Sub s s2 := sub_upto (u1.sub hb) u2 hb
  have z2 := h.sub sub2
  obtain ⟨tl, hd, hc⟩ := z2.dt
  have sl : sliceS 2 (.slc sb 0 (q ++ [x]).length cap 2) none (some (.int .i64 (q.length : Int))) none = some (.slc sb 0 q.length cap 2) := by
    cases cap with
    | none =>
      have e3 : Nat.ble q.length (q.length + 1) = true := Nat.ble_eq_true_of_le (by omega)
      simp [sliceS, bound, e3]
    | some c =>
      have := (hc c rfl).1
      have e3 : Nat.ble q.length c = true := Nat.ble_eq_true_of_le (by rw [hlen] at this; omega)
      simp [sliceS, bound, e3]
  simp only [rd1_mk z2.ob, List.getElem?_cons_zero, sl, optK_mk]
  have hbo : b ≠ o := fun e => by rw [e, h.ob] at hb; cases hb
  refine wr1_step z2.ob (by simp) rfl fun s3 h3 u3 => ?_
  have h23 : s3 b = some (false, .cells 132 (shR x)) := (u3 b hbo).trans h2
  have rb : rdN s3 2 (.ptr b 0) = some (shR x) := rdN_all h23 rfl
  simp only [rb, optK_mk]
  have k3 : KeepBut (fun b => b = o) s s3 := sub2.keep.trans (u3.keep (fp := fun b => b = o) rfl)
  refine hK s3 ⟨h3, ⟨shR x ++ tl, ?_, fun c e => ?_⟩, by omega⟩ k3
  · rw [u3 sb (Ne.symm z2.ne), hd, flatQ_app, List.append_assoc]
    simp [flatQ]
  · have := hc c e
    rw [hlen] at this
    rw [List.length_append]
    show q.length ≤ c ∧ c * 2 = q.length * 2 + (2 + tl.length)
    omega
theorem Pop_in (h : QAt s o sb cap q) (hh : Hp q 0) (hq : 0 < q.length) (hK : ∀ s' q' x, QAt s' o sb cap q' → Hp q' 0 → q.Perm (x :: q') → (∀ y ∈ q, x.2 ≤ y.2) → KeepBut (fun b => b = o ∨ b = sb) s s' → K (.ifc 132 (.agg (shR x))) s') : wpCall Try.prog XX 73 [qv o] K s := by
  refine vh_Pop_in (mLen_in h ?_)
  obtain ⟨n, hn⟩ : ∃ n, q.length = n + 1 := ⟨q.length - 1, by omega⟩
  have hln := h.ln
  have e1 : IntKind.i64.wrap ((q.length : Int) - 1) = (n : Int) := by rw [wrap64 (by omega) (by omega)]; omega
  simp only [arith_sub, e1, optK_mk]
  have sw := mSwap_in (i := 0) (j := n) (K := fun v_3 s_4 => wpCall Try.prog XX 84 [qv o, (.int .i64 0), .int .i64 (n : Int)] (fun v_5 s_6 => methK Try.prog XX (qv o) "Pop" [] (fun v_7 s_8 => K v_7 s_8) s_6) s_4) h (by omega) (by omega) fun s1 z1 k1 => ?_
  · exact sw
  -- the first one is the last one now
  have hlast : (swp q 0 n).length = n + 1 := by rw [swp_len, hn]
  obtain ⟨q1, x, e, hq1⟩ : ∃ q1 x, swp q 0 n = q1 ++ [x] ∧ q1.length = n := by
    refine ⟨(swp q 0 n).take n, at0 (swp q 0 n) n, ?_, by rw [List.length_take]; omega⟩
    rw [at0_get (by omega)]
    conv => lhs; rw [← List.take_append_drop n (swp q 0 n)]
    congr 1
    rw [List.drop_eq_getElem_cons (by omega), List.drop_eq_nil_of_le (by omega)]
  have perm : q.Perm (x :: q1) := by
    have p1 := swp_perm (q := q) (i := 0) (j := n) (by omega) (by omega)
    rw [e] at p1
    exact p1.symm.trans (List.perm_append_singleton x q1)
  have hx : x = at0 q 0 := by
    have h1 : at0 (swp q 0 n) n = at0 q 0 := by rw [at0_swp (by omega) (by omega), if_pos rfl]
    rw [e, at0_get (by simp [hq1])] at h1
    rw [← h1]
    simp [← hq1]
  have hmin : ∀ y ∈ q, x.2 ≤ y.2 := fun y hy => by
    obtain ⟨j, hj, rfl⟩ := List.getElem_of_mem hy
    have := Hp.root hh j hj
    rw [hx]
    unfold ky key at this
    rw [at0_get hj] at this
    omega
  have hp1 : Hp q1 1 := fun j h0 h1 h2 => by
    have hj : j < n := by omega
    have e2 : ∀ k, 0 < k → k < n → ky q1 k = ky q k := fun k k0 kn => by
      have h3 : ky (swp q 0 n) k = ky q k := by rw [ky_swp (by omega) (by omega), if_neg (by omega), if_neg (by omega)]
      rw [e, ky_app (by omega)] at h3
      exact h3
    rw [e2 j h0 hj, e2 ((j - 1) / 2) (by omega) (by omega)]
    exact hh j h0 (by omega) (by omega)
  rw [e] at z1
  have fin : ∀ s2 q2, QAt s2 o sb cap (q2 ++ [x]) → q2.Perm q1 → Hp q2 0 → KeepBut (fun b => b = sb) s1 s2 → methK Try.prog XX (qv o) "Pop" [] (fun v_7 s_8 => K v_7 s_8) s2 := fun s2 q2 z2 p2 h2 k2 => by
    refine mPop_in z2 fun s3 z3 k3 => hK s3 q2 x z3 h2 (perm.trans (p2.symm.cons x)) hmin ?_
    exact ((k1.trans k2).mono fun i hi => .inr hi).trans (k3.mono fun i hi => .inl hi)
  cases n with
  | zero =>
    have : q1 = [] := List.eq_nil_of_length_eq_zero hq1
    subst this
    exact down_nil (x := x) fun b => fin s1 [] z1 (.refl _) (fun j h0 h1 => by simp at h1) (.refl _ _)
  | succ m =>
    have hd := down_in (i0 := 0) (q := q1) (r := [x]) (K := fun v_5 s_6 => methK Try.prog XX (qv o) "Pop" [] (fun v_7 s_8 => K v_7 s_8) s_6) z1 hp1 (by omega) fun s2 q2 b z2 p2 h2 k2 _ _ => fin s2 q2 z2 p2 h2 k2
    rw [hq1] at hd
    exact hd
theorem Push_in {x : It} (h : QAt s o sb cap q) (hh : Hp q 0) (hl : q.length ≤ 10000) (hK : ∀ s' sb' cap' q', QAt s' o sb' cap' q' → Hp q' 0 → q'.Perm (x :: q) → KeepBut (fun b => b = o ∨ b = sb) s s' → (sb' = sb ∨ s sb' = none) → K (.tup []) s') : wpCall Try.prog XX 74 [qv o, .ifc 132 (.agg (shR x))] K s := by
  refine vh_Push_in ?_
  show wpF (fun _ => methodA Try.prog 130 (.ptr o 0) "Push") _ s
  rw [meth_Push]
  refine wpF.ret ⟨by kernel_rfl, vc_spf_queue_Push_in ?_⟩
  have t1 : tassV 132 (some (.agg [(.int .i64 0), (.int .i64 0)])) true (.ifc 132 (.agg (shR x))) = some (.tup [.agg (shR x), .bool true]) := rfl
  have t2 : extractA (.tup [.agg (shR x), .bool true]) 0 = some (.agg (shR x)) := rfl
  have t3 : extractA (.tup [.agg (shR x), .bool true]) 1 = some (.bool true) := rfl
  simp only [vc_spf_queue_Push, t1, t2, t3, optK_mk]
  refine new_step fun b s1 hb h1 u1 => wrAgg_step h1 rfl rfl rfl fun s2 h2 u2 => ?_
  have h2 : s2 b = some (false, .cells 132 (shR x)) := h2
  have sub2 : Sub s s2 := sub_upto (u1.sub hb) u2 hb
  have z2 := h.sub sub2
  have rb : rdN s2 2 (.ptr b 0) = some (shR x) := rdN_all h2 rfl
  simp only [boolK_true, nilCheck_ptr, rd1_mk z2.ob, List.getElem?_cons_zero, rb, optK_mk]
  refine optK_of (a := shR x) rfl ⟨rfl, newM (s := s2) (l := []) fun b3 s3 hb3 h3 u3 => ?_⟩
  have h3 : add s2 s3 b3 = some (false, .cells 132 (shR x)) := h3
  have sub3 := u3.sub hb3
  generalize add s2 s3 = t at h3 u3 sub3
  have z3 := z2.sub sub3
  have lit : SlR 2 t (.slc b3 0 1 (some 1) 2) ([x].map shR) := SlR.mk (shR_len [x]) (by simpa using h3) rfl (by simp)
  have subt := sub2.trans sub3
  -- what comes after the append
  have fin : ∀ s4 sb' cap', s4 o = some (false, .cells 134 [.slc sb 0 q.length cap 2]) → (∃ tl, s4 sb' = some (false, .cells 132 (flatQ (q ++ [x]) ++ tl)) ∧ ∀ c, cap' = some c → (q ++ [x]).length ≤ c ∧ c * 2 = (q ++ [x]).length * 2 + tl.length) → KeepBut (fun b => b = o ∨ b = sb) s s4 → (sb' = sb ∨ s sb' = none) →
      optK (wr1 s4 (.ptr o 0) (.slc sb' 0 (q.length + 1) cap' 2)) fun s_15 => methK Try.prog XX (qv o) "Len" [] (fun v_2 s_3 => optK (arithV .sub v_2 (.int .i64 1)) fun v_4 => wpCall Try.prog XX 85 [qv o, v_4] (fun v_5 s_6 => K (.tup []) s_6) s_3) s_15 := fun s4 sb' cap' ho hd kp hfr => by
    refine wr1_step ho (by simp) rfl fun s5 h5 u5 => ?_
    have hne : sb' ≠ o := by
      rintro rfl
      obtain ⟨tl, e, _⟩ := hd
      rw [ho] at e; cases e
    obtain ⟨tl, hd1, hd2⟩ := hd
    have z5 : QAt s5 o sb' cap' (q ++ [x]) := ⟨by rw [h5]; simp, ⟨tl, by rw [u5 sb' hne]; exact hd1, hd2⟩, by rw [List.length_append]; simp; omega⟩
    refine mLen_in z5 ?_
    have e1 : IntKind.i64.wrap (((q ++ [x]).length : Int) - 1) = (q.length : Int) := by rw [List.length_append, List.length_singleton, wrap64 (by omega) (by omega)]; omega
    simp only [arith_sub, e1, optK_mk]
    have hup : Up (q ++ [x]) q.length := ⟨fun m m0 m1 m2 => by
      rw [List.length_append, List.length_singleton] at m1
      rw [ky_app (by omega), ky_app (by omega)]
      exact hh m m0 (by omega) (by omega), fun _ m m0 m1 m2 => by
      rw [List.length_append, List.length_singleton] at m1
      omega⟩
    refine up_in (q := q ++ [x]) (r := []) (by rw [List.append_nil]; exact z5) hup (by simp) fun s6 q6 z6 p6 h6 k6 => ?_
    rw [List.append_nil] at z6
    refine hK s6 sb' cap' q6 z6 h6 (p6.trans (List.perm_append_singleton x q)) ?_ hfr
    intro i e hi hn
    have h4 := kp i e hi hn
    have h5' : s5 i = some e := by rw [u5 i fun q => hn (.inl q)]; exact h4
    by_cases q2 : i = sb'
    · -- a block of its own: it was not there, or is the list's
      rcases hfr with q3 | q3
      · exact absurd (.inr (q2.trans q3)) hn
      · rw [q2, q3] at hi; cases hi
    · exact k6 i e h5' q2
  obtain ⟨tl, hd, hc⟩ := z3.dt
  have hne := z3.ne
  have o3 : t o = some (false, .cells 134 [.slc sb 0 q.length cap 2]) := z3.ob
  have flat1 : flatQ (q ++ [x]) = flatQ q ++ shR x := by rw [flatQ_app]; simp [flatQ]
  have old : rdSl t 2 (.slc sb 0 q.length cap 2) = some (flatQ q) := by
    have := z3.sl.rd
    simpa using this
  -- in a new block
  have fresh : ∀ t', (∀ i e, i ≠ sb → t i = some e → t' i = some e) → (∀ i, t' i = none → i = sb ∨ t i = none) → growK 132 2 (q.length + 1) (flatQ q ++ shR x) (fun v_12 s_13 => optK (wr1 s_13 (.ptr o 0) v_12) fun s_15 => methK Try.prog XX (qv o) "Len" [] (fun v_2 s_3 => optK (arithV .sub v_2 (.int .i64 1)) fun v_4 => wpCall Try.prog XX 85 [qv o, v_4] (fun v_5 s_6 => K (.tup []) s_6) s_3) s_15) t' := fun t' h1 h2 => by
    refine ⟨by omega, new_step fun c s4 hc4 h4 u4 => ?_⟩
    have hoc : o ≠ c := fun e => by rw [← e, h1 o _ hne o3] at hc4; cases hc4
    refine fin s4 c none ?_ ⟨[], by rw [List.append_nil, flat1]; exact h4, fun c e => by cases e⟩ (fun i e hi hn => ?_) ?_
    · rw [u4 o hoc]; exact h1 o _ hne o3
    · have h5 := h1 i e (fun q => hn (.inr q)) (subt i e hi)
      rw [u4 i (ne_of_some hc4 h5)]; exact h5
    · rcases h2 c hc4 with e | e
      · exact .inl e
      · refine .inr ?_
        cases q : s c with
        | none => rfl
        | some y => rw [subt c y q] at e; cases e
  refine optK_of lit.rd (optK_of lit.len ⟨rfl, ?_⟩)
  have lf : ([x].map shR).flatten = shR x := by simp
  have ll : ([x].map shR).length = 1 := rfl
  rw [lf, ll]
  simp only
  cases cap with
  | none =>
    simp only
    refine optK_of old ?_
    unfold dropK
    rw [hd]
    refine ⟨rfl, ?_⟩
    exact fresh (hdel t sb) (fun i e hi he => by rw [← he]; exact if_neg hi) fun i hi => by
      by_cases e : i = sb
      · exact .inl e
      · exact .inr (by rw [← hi]; exact (if_neg e).symm)
  | some c =>
    obtain ⟨c1, c2⟩ := hc c rfl
    simp only
    by_cases hfit : q.length + 1 ≤ c
    · have e1 : Nat.ble (q.length + 1) c = true := Nat.ble_eq_true_of_le hfit
      have htl : 2 ≤ tl.length := by omega
      have e3 : Nat.ble (0 + q.length * 2 + (shR x).length) (flatQ q ++ tl).length = true := Nat.ble_eq_true_of_le (by rw [List.length_append, flatQ_len]; show 0 + q.length * 2 + 2 ≤ _; omega)
      have e4 : wrN t (.ptr sb (0 + q.length * 2)) (shR x) = some (hset t sb (false, .cells 132 (setRange (flatQ q ++ tl) (0 + q.length * 2) (shR x)))) := by
        simp only [wrN, hd, e3, show allOne (shR x) = true from rfl, Bool.and_self, cond_true]
      have e5 : setRange (flatQ q ++ tl) (0 + q.length * 2) (shR x) = flatQ (q ++ [x]) ++ tl.drop 2 := by
        rw [Nat.zero_add, ← flatQ_len, flat1]
        unfold setRange
        rw [List.take_left]
        show flatQ q ++ shR x ++ (flatQ q ++ tl).drop ((flatQ q).length + 2) = _
        rw [List.drop_append, List.drop_eq_nil_of_le (by omega), List.nil_append]
        congr 2
        omega
      simp only [e1, cond_true, e4, optK_mk]
      rw [e5]
      refine fin _ sb (some c) (by rw [hset_other hne]; exact o3) ⟨tl.drop 2, hset_eq, fun c' e => ?_⟩ (fun i e hi hn => ?_) (.inl rfl)
      · cases e
        rw [List.length_append, List.length_singleton, List.length_drop]
        omega
      · rw [hset_other fun q => hn (.inr q)]; exact subt i e hi
    · have e1 : Nat.ble (q.length + 1) c = false := by
        cases e : Nat.ble (q.length + 1) c with
        | false => rfl
        | true => exact absurd (Nat.le_of_ble_eq_true e) hfit
      simp only [e1, cond_false]
      exact optK_of old (fresh t (fun i e _ he => he) fun i hi => .inr hi)
end Go.AM
namespace Go.AM
open Go Go.Proofs
variable {K : AVal → Heap → Prop} {s s' s0 : Heap} {o sb db : Nat} {cap : Option Nat} {q : List It} {N : Nat} {G : List Lnk} {U : List Bool} {from_ : Nat} {d : Nat → Int} {av : AVal}
/-! ### distances: the program's way -/
def dl (N : Nat) (d : Nat → Int) : List AVal := (List.range N).map fun n => .int .i64 (d n)
theorem dl_len : (dl N d).length = N := by unfold dl; simp
theorem dl_get {n : Nat} (h : n < N) : (dl N d)[n]? = some (.int .i64 (d n)) := by unfold dl; simp [h]
theorem dl_set {n : Nat} {v : Int} (h : n < N) : (dl N d).set n (.int .i64 v) = dl N (updI d n v) := by
  refine List.ext_getElem? fun i => ?_
  rw [List.getElem?_set]
  by_cases e : n = i
  · subst e
    rw [if_pos rfl, dl_len, if_pos h, dl_get h, updI_same]
  · rw [if_neg e]
    by_cases hi : i < N
    · rw [dl_get hi, dl_get hi, updI_ne (Ne.symm e)]
    · rw [List.getElem?_eq_none (by rw [dl_len]; omega), List.getElem?_eq_none (by rw [dl_len]; omega)]
def edR (e : Nat × Nat × Nat) : List AVal := [.int .i64 (e.1 : Int), .int .i64 (e.2.1 : Int), .int .i64 (e.2.2 : Int)]
structure AdjR (s : Heap) (av : AVal) (N : Nat) (E : Nat → List (Nat × Nat × Nat)) : Prop where
  ex : ∃ vs : Nat → AVal, Sl s av ((List.range N).map vs) ∧ ∀ n, n < N → SlR 3 s (vs n) ((E n).map edR)
theorem AdjR.sub {E : Nat → List (Nat × Nat × Nat)} (h : AdjR s av N E) (k : Sub s s') : AdjR s' av N E := by
  obtain ⟨vs, h1, h2⟩ := h
  exact ⟨vs, h1.sub k, fun n hn => (h2 n hn).sub k⟩
theorem AdjR.at {E : Nat → List (Nat × Nat × Nat)} (h : AdjR s av N E) {n : Nat} (hn : n < N) : ∃ p v, iaddrS 1 av (.int .i64 (n : Int)) = some p ∧ rd1 s p = some v ∧ SlR 3 s v ((E n).map edR) := by
  obtain ⟨vs, h1, h2⟩ := h
  obtain ⟨p, g1, g2⟩ := h1.get (i := n) (by simpa using hn)
  refine ⟨p, vs n, g1, ?_, h2 n hn⟩
  rw [g2]; simp [hn]
theorem AdjR.len {E : Nat → List (Nat × Nat × Nat)} (h : AdjR s av N E) : lenOfA av = some N := by
  obtain ⟨vs, h1, _⟩ := h
  rw [h1.len]; simp
/-- what is still to be looked at -/
def leftD (N : Nat) (G : List Lnk) (U : List Bool) (d : Nat → Int) : Nat := ((List.range N).map fun n => if d n < 0 then (edL G U n).length else 0).sum
theorem edL_len {n : Nat} : (edL G U n).length ≤ G.length := by
  have := List.length_filterMap_le (fun i => if U.getD i false then (match G[i]? with | some x => (oth x n).map fun m => (i, m, x.2.2) | none => none) else none) (List.range G.length)
  rw [List.length_range] at this
  exact this
theorem leftD_le : leftD N G U d ≤ N * G.length := by
  have : ∀ {l : List Nat}, (l.map fun n => if d n < 0 then (edL G U n).length else 0).sum ≤ l.length * G.length := by
    intro l
    induction l with
    | nil => simp
    | cons a l ih =>
      have h1 := edL_len (G := G) (U := U) (n := a)
      simp only [List.map_cons, List.sum_cons, List.length_cons, Nat.succ_mul]
      split <;> omega
  have h := this (l := List.range N)
  rw [List.length_range] at h
  exact h
theorem sumF_eq {α : Type} [DecidableEq α] {f g : α → Nat} {y : α} {k : Nat} : ∀ {l : List α}, l.Nodup → y ∈ l → (∀ x ∈ l, x ≠ y → f x = g x) → f y + k = g y → (l.map f).sum + k = (l.map g).sum := by
  intro l
  induction l with
  | nil => intro _ h; cases h
  | cons a l ih =>
    intro nd hy h h1
    obtain ⟨na, nl⟩ := List.nodup_cons.1 nd
    simp only [List.map_cons, List.sum_cons]
    by_cases e : a = y
    · subst e
      have : (l.map f) = l.map g := List.map_congr_left fun x hx => h x (by simp [hx]) fun q => na (q ▸ hx)
      rw [this]; omega
    · have hy' : y ∈ l := by
        rcases List.mem_cons.1 hy with q | q
        · exact absurd q.symm e
        · exact q
      have := ih nl hy' (fun x hx => h x (by simp [hx])) h1
      have := h a (by simp) e
      omega
theorem leftD_done {n : Nat} {v : Nat} (hn : n < N) (hd : d n < 0) : leftD N G U (updI d n v) + (edL G U n).length = leftD N G U d := by
  unfold leftD
  refine sumF_eq (y := n) List.nodup_range (List.mem_range.2 hn) (fun x _ hx => by rw [updI_ne hx]) ?_
  rw [updI_same, if_neg (by omega), if_pos hd]; omega
def pushed (G : List Lnk) (U : List Bool) (d : Nat → Int) (x : It) (i : Nat) : List It := ((edL G U x.1).take i).filterMap fun e => if d e.2.1 < 0 then some (e.2.1, x.2 + e.2.2) else none
theorem pushed_succ {x : It} {i : Nat} {e : Nat × Nat × Nat} (he : (edL G U x.1)[i]? = some e) : pushed G U d x (i + 1) = pushed G U d x i ++ (if d e.2.1 < 0 then [(e.2.1, x.2 + e.2.2)] else []) := by
  unfold pushed
  rw [List.take_add_one, he, List.filterMap_append]
  congr 1
  by_cases c : d e.2.1 < 0
  · simp [c]
  · simp [c]
theorem pushed_len {x : It} {i : Nat} : (pushed G U d x i).length ≤ i := by
  unfold pushed
  exact Nat.le_trans (List.length_filterMap_le _ _) (List.length_take_le _ _)
theorem mem_pushed {x y : It} : y ∈ pushed G U d x (edL G U x.1).length ↔ ∃ e ∈ edL G U x.1, d e.2.1 < 0 ∧ y = (e.2.1, x.2 + e.2.2) := by
  unfold pushed
  rw [List.take_length, List.mem_filterMap]
  constructor
  · rintro ⟨e, h1, h2⟩
    split at h2
    · rename_i c; cases h2; exact ⟨e, h1, c, rfl⟩
    · cases h2
  · rintro ⟨e, h1, h2, rfl⟩
    exact ⟨e, h1, if_pos h2⟩
/-- the queue, the distances, and all that was there before -/
structure DSt (s0 s : Heap) (o sb : Nat) (cap : Option Nat) (q : List It) (db N : Nat) (d : Nat → Int) : Prop where
  sub : Sub s0 s
  qa : QAt s o sb cap q
  hp : Hp q 0
  dd : s db = some (false, .cells 3 (dl N d))
  f : s0 o = none ∧ s0 sb = none ∧ s0 db = none
theorem DSt.more (z : DSt s0 s o sb cap q db N d) (k : Sub s s') : DSt s0 s' o sb cap q db N d := ⟨z.sub.trans k, z.qa.sub k, z.hp, k _ _ z.dd, z.f⟩
theorem DSt.db_ne (z : DSt s0 s o sb cap q db N d) : db ≠ o ∧ db ≠ sb := by
  constructor
  · rintro rfl
    have := z.dd
    rw [z.qa.ob] at this; cases this
  · rintro rfl
    obtain ⟨tl, e, _⟩ := z.qa.dt
    rw [z.dd] at e; cases e
theorem Distances_in (z : GOk N G U) (hN : N ≤ 32) (hG : G.length ≤ 128) (hC : ∀ x ∈ G, x.2.2 ≤ 1000) (ha : AdjR s av N (edL G U)) (hf : from_ < N)
    (hK : ∀ d b s', IsDist N G U from_ d → (∀ n, n < N → d n ≤ 32000) → Sub s s' → s b = none → s' b = some (false, .cells 3 (dl N d)) → K (.slc b 0 N (some N) 1) s') : wpCall Try.prog XX 48 [av, .int .i64 (from_ : Int)] K s := by
  have hcost : ∀ {i n m c : Nat}, Ed G U i n m c → c ≤ 1000 := fun {i n m c} e => by
    rcases e.2 with e | e
    · exact hC _ (List.mem_of_getElem? e)
    · exact hC _ (List.mem_of_getElem? e)
  refine vc_spf_distances_in ?_
  have n0 : nat? (.int .i64 (N : Int)) = some N := nat?_mk
  simp only [vc_spf_distances, ha.len, n0, optK_mk, lenOf_slc]
  refine ⟨⟨Nat.le_refl _, by omega⟩, new_step fun db s1 hdb h1 u1 => ?_⟩
  have sub1 := u1.sub hdb
  refine ⟨fun ys s2 m => ∃ i : Nat, ys = [.int .i64 i] ∧ i ≤ N ∧ m = N - i ∧ Sub s s2 ∧ s2 db = some (false, .cells 3 (dl N fun n => if n < i then -1 else 0)), ⟨_, 0, rfl, by omega, rfl, sub1, ?_⟩, ?_⟩
  · rw [h1, repl_one]
    congr 3
    unfold dl
    refine List.ext_getElem? fun i => ?_
    by_cases hi : i < N
    · simp [hi]
    · simp [hi]
  rintro f s2 m ⟨i, hy, hi, rfl, sub2, h2⟩
  simp only [List.cons.injEq, and_true] at hy
  rw [hy]
  simp only [vc_spf_distances_l0, arith_lss, optK_mk]
  refine boolK_mk (fun hlt => ?_) (fun hge => ?_)
  · have hlt : i < N := by have := of_decide_eq_true hlt; omega
    have ad : iaddrS 1 (.slc db 0 N (some N) 1) (.int .i64 (i : Int)) = some (.ptr db i) := by
      have : Nat.blt i N = true := by rw [Nat.blt_eq]; exact hlt
      simp [iaddrS, this]
    simp only [ad, optK_mk]
    refine wr1_step h2 (by rw [dl_len]; exact hlt) rfl fun s3 h3 u3 => ?_
    simp only [arith_add, optK_mk]
    rw [wrap64 (by omega) (by omega)]
    refine ⟨_, by omega, i + 1, rfl, by omega, rfl, sub_upto sub2 u3 hdb, ?_⟩
    rw [h3, dl_set hlt]
    congr 3
    unfold dl
    refine List.map_congr_left fun n hn => ?_
    congr 1
    by_cases e : n = i
    · rw [e, updI_same]; exact (if_pos (by omega)).symm
    · rw [updI_ne e]
      by_cases c : n < i
      · show (if n < i then (-1 : Int) else 0) = if n < i + 1 then -1 else 0
        rw [if_pos c, if_pos (by omega)]
      · show (if n < i then (-1 : Int) else 0) = if n < i + 1 then -1 else 0
        rw [if_neg c, if_neg (by omega)]
  have hge : i = N := by have := of_decide_eq_false hge; omega
  subst hge
  have h2 : s2 db = some (false, .cells 3 (dl i fun _ => -1)) := by
    rw [h2]
    congr 3
    unfold dl
    refine List.map_congr_left fun n hn => ?_
    congr 1
    exact if_pos (List.mem_range.1 hn)
  refine optK_of (a := shR (from_, 0)) rfl (optK_of (a := shR (from_, 0)) rfl ⟨rfl, new_step fun sb s3 hsb h3 u3 => ⟨rfl, new_step fun o s4 ho h4 u4 => ?_⟩⟩)
  have h4 : s4 o = some (false, .cells 134 [.slc sb 0 1 (some 1) 2]) := h4
  have sub3 := u3.sub hsb
  have sub4 := u4.sub ho
  have old : ∀ b, s2 b = none → s b = none := fun b hb => by
    cases q : s b with
    | none => rfl
    | some x => rw [sub2 b x q] at hb; cases hb
  have st0 : DSt s s4 o sb (some 1) [(from_, 0)] db i (fun _ => -1) := by
    refine ⟨(sub2.trans sub3).trans sub4, ⟨h4, ⟨[], ?_, fun c e => by cases e; simp⟩, by simp⟩, fun j h0 h1 => by simp at h1; omega, sub4 _ _ (sub3 _ _ h2), ?_, old _ hsb, hdb⟩
    · rw [List.append_nil, sub4 _ _ h3]; rfl
    · cases q : s o with
      | none => rfl
      | some x => rw [sub3 _ _ (sub2 _ _ q)] at ho; cases ho
  obtain ⟨vs, hv1, hv2⟩ := ha
  have hnl : i * G.length ≤ 32 * 128 := Nat.mul_le_mul hN hG
  have inv0 : DInv i G U from_ (fun _ => -1) [(from_, 0)] := ⟨fun n _ => Int.le_refl _, .inr ⟨fun n _ => rfl, by simp⟩, fun n _ h => absurd h (by decide), fun x hx => by rw [List.mem_singleton] at hx; subst hx; exact ⟨hf, .inl rfl⟩, fun x hx n _ => by rw [List.mem_singleton] at hx; subst hx; show (-1 : Int) ≤ 0; omega, fun j n m c _ h => absurd h (by decide)⟩
  refine ⟨fun ys s5 m => ∃ sb cap q d, DSt s s5 o sb cap q db i d ∧ DInv i G U from_ d q ∧ m = q.length + leftD i G U d ∧ m ≤ 5000 ∧ ∀ n, n < i → d n ≤ (cntD i d : Int) * 1000, ⟨_, sb, some 1, _, _, st0, inv0, rfl, by
    have := leftD_le (N := i) (G := G) (U := U) (d := fun _ => -1)
    show 1 + _ ≤ 5000
    omega, fun n _ => by show (-1 : Int) ≤ _; omega⟩, ?_⟩
  clear st0 inv0
  rintro f s5 m ⟨sb, cap, q, d, st, inv, rfl, hm, hdm'⟩
  have hcl := cntD_le (N := i) (d := d)
  have hdm : ∀ n, n < i → d n ≤ 32000 := fun n hn => by have := hdm' n hn; omega
  simp only [vc_spf_distances_l1, nilCheck_ptr, rd1_mk st.qa.ob, List.getElem?_cons_zero, optK_mk]
  refine vc_spf_queue_Len_in ?_
  simp only [vc_spf_queue_Len, lenOf_slc, optK_mk, arith_gtr]
  refine boolK_mk (fun hlt => ?_) (fun hge => ?_)
  rotate_left
  · have hge : q = [] := List.eq_nil_of_length_eq_zero (by have := of_decide_eq_false hge; omega)
    subst hge
    exact hK d db s5 inv.end_ hdm st.sub st.f.2.2 st.dd
  have hlt : 0 < q.length := by have := of_decide_eq_true hlt; omega
  refine Pop_in st.qa st.hp hlt fun s6 q1 x z6 hp6 perm hmin k6 => ?_
  have dbn := st.db_ne
  have st6 : DSt s s6 o sb cap q1 db i d := ⟨fun b e hb => k6 b e (st.sub b e hb) (by rintro (rfl | rfl); rw [st.f.1] at hb; cases hb; rw [st.f.2.1] at hb; cases hb), z6, hp6, k6 _ _ st.dd (by rintro (q | q); exact dbn.1 q; exact dbn.2 q), st.f⟩
  have t1 : tassV 132 (some (.agg [(.int .i64 0), (.int .i64 0)])) true (.ifc 132 (.agg (shR x))) = some (.tup [.agg (shR x), .bool true]) := rfl
  have t2 : extractA (.tup [.agg (shR x), .bool true]) 0 = some (.agg (shR x)) := rfl
  have t3 : extractA (.tup [.agg (shR x), .bool true]) 1 = some (.bool true) := rfl
  simp only [t1, t2, t3, optK_mk]
  refine new_step fun bx s7 hbx h7 u7 => wrAgg_step h7 rfl rfl rfl fun s8 h8 u8 => ?_
  have h8 : s8 bx = some (false, .cells 132 [.int .i64 (x.1 : Int), .int .i64 (x.2 : Int)]) := h8
  have st8 := st6.more (sub_upto (u7.sub hbx) u8 hbx)
  have memx : x ∈ q := perm.mem_iff.2 (by simp)
  have xN := (inv.qn x memx).1
  have g0 : [AVal.int .i64 (x.1 : Int), .int .i64 (x.2 : Int)][0]? = some (.int .i64 (x.1 : Int)) := rfl
  have g1 : [AVal.int .i64 (x.1 : Int), .int .i64 (x.2 : Int)][1]? = some (.int .i64 (x.2 : Int)) := rfl
  have ad : ∀ {n : Nat}, n < i → iaddrS 1 (.slc db 0 i (some i) 1) (.int .i64 (n : Int)) = some (.ptr db n) := fun {n} hn => by
    have : Nat.blt n i = true := by rw [Nat.blt_eq]; exact hn
    simp [iaddrS, this]
  have plen := perm.length_eq
  rw [List.length_cons] at plen
  simp only [addOff_ptr, Nat.zero_add, rd1_mk h8, g0, g1, ad xN, rd1_mk st8.dd, dl_get xN, arith_geq, optK_mk]
  refine boolK_mk (fun hd => ?_) (fun hd => ?_)
  · have hd := of_decide_eq_true hd
    exact ⟨_, by omega, sb, cap, q1, d, st8, inv.skip hd fun y => (perm.mem_iff).trans List.mem_cons, rfl, by omega, hdm'⟩
  · have hd : d x.1 < 0 := by have := of_decide_eq_false hd; omega
    refine wr1_step st8.dd (by rw [dl_len]; exact xN) rfl fun s9 h9 u9 => ?_
    rw [dl_set xN] at h9
    have hbxs : ∀ {b : Nat} {e : Bool × Blk}, s6 b = some e → b ≠ bx := fun {b e} hb q => by rw [q, hbx] at hb; cases hb
    have bxd : bx ≠ db := fun e => hbxs st6.dd e.symm
    have h9x : s9 bx = _ := (u9 bx bxd).trans h8
    have sub9 : Sub s s9 := sub_upto st8.sub u9 st.f.2.2
    have st9 : DSt s s9 o sb cap q1 db i (updI d x.1 x.2) := ⟨sub9, st8.qa.keep (fp := fun b => b = db) (u9.keep rfl) (Ne.symm dbn.1) (Ne.symm dbn.2), hp6, h9, st.f⟩
    obtain ⟨pa, a1, a2⟩ := (hv1.sub sub9).get (i := x.1) (by simpa using xN)
    have a2 : rd1 s9 pa = some (vs x.1) := by rw [a2]; simp [xN]
    have a3 := hv2 x.1 xN
    simp only [addOff_ptr, Nat.zero_add, rd1_mk h9x, g0, a1, a2, a3.len, List.length_map, optK_mk]
    have hleft := leftD_done (G := G) (U := U) (v := x.2) xN hd
    refine ⟨fun ys s10 m => ∃ (k sb : Nat) (cap : Option Nat) (q2 : List It), ys = [.int .i64 k] ∧ k ≤ (edL G U x.1).length ∧ m = (edL G U x.1).length - k ∧ DSt s s10 o sb cap q2 db i (updI d x.1 x.2) ∧ q2.Perm (pushed G U (updI d x.1 x.2) x k ++ q1) ∧ s10 bx = some (false, .cells 132 [.int .i64 (x.1 : Int), .int .i64 (x.2 : Int)]) ∧ bx ≠ sb, ⟨_, 0, sb, cap, q1, rfl, by omega, rfl, st9, by simp [pushed], h9x, fun e => by obtain ⟨tl, e2, _⟩ := z6.dt; rw [← e, hbx] at e2; cases e2⟩, ?_⟩
    rintro f2 s10 m2 ⟨k, sb, cap, q2, hy2, hk, rfl, st10, perm2, hx10, hbsb⟩
    simp only [List.cons.injEq, and_true] at hy2
    rw [hy2]
    have hp2 := perm2.length_eq
    rw [List.length_append] at hp2
    have hpl := pushed_len (G := G) (U := U) (d := updI d x.1 x.2) (x := x) (i := k)
    have hxs : x.2 ≤ 100000 := by
      rcases (inv.qn x memx).2 with e | ⟨j, m, c, e1, e2, e3⟩
      · rw [e]; exact Nat.zero_le _
      · have := hdm m (z.ed e1).2.1
        have := (z.ed e1).2.2.2.2
        omega
    simp only [vc_spf_distances_l2, arith_lss, optK_mk]
    refine boolK_mk (fun hlt2 => ?_) (fun hge2 => ?_)
    · have hlt2 : k < (edL G U x.1).length := by have := of_decide_eq_true hlt2; omega
      obtain ⟨e, he⟩ : ∃ e, (edL G U x.1)[k]? = some e := ⟨_, List.getElem?_eq_getElem hlt2⟩
      obtain ⟨j, mm, c⟩ := e
      have hed := (mem_edL z).1 (List.mem_of_getElem? he)
      obtain ⟨_, mN, nem, c1, c2⟩ := z.ed hed
      obtain ⟨pb, po, e1, e2, e3⟩ := (a3.sub st10.sub).get (i := k) (r := edR (j, mm, c)) (by rw [List.getElem?_map, he]; rfl)
      simp only [e1, e2, optK_mk]
      refine new_step fun be s11 hbe h11 u11 => wrAgg_step h11 rfl rfl rfl fun s12 h12 u12 => ?_
      have h12 : s12 be = some (false, .cells 106 [.int .i64 (j : Int), .int .i64 (mm : Int), .int .i64 (c : Int)]) := h12
      have sub12 : Sub s10 s12 := sub_upto (u11.sub hbe) u12 hbe
      have st12 := st10.more sub12
      have hx12 := sub12 _ _ hx10
      have y1 : [AVal.int .i64 (j : Int), .int .i64 (mm : Int), .int .i64 (c : Int)][1]? = some (.int .i64 (mm : Int)) := rfl
      have y2 : [AVal.int .i64 (j : Int), .int .i64 (mm : Int), .int .i64 (c : Int)][2]? = some (.int .i64 (c : Int)) := rfl
      have hps := pushed_succ (d := updI d x.1 x.2) he
      have next : ∀ s13 sb cap q3, DSt s s13 o sb cap q3 db i (updI d x.1 x.2) → q3.Perm (pushed G U (updI d x.1 x.2) x (k + 1) ++ q1) → s13 bx = some (false, .cells 132 [.int .i64 (x.1 : Int), .int .i64 (x.2 : Int)]) → bx ≠ sb →
          vc_spf_distances_j3 XX (.int .i64 (k : Int)) (fun ys s10 m => ∃ (k sb : Nat) (cap : Option Nat) (q2 : List It), ys = [.int .i64 k] ∧ k ≤ (edL G U x.1).length ∧ m = (edL G U x.1).length - k ∧ DSt s s10 o sb cap q2 db i (updI d x.1 x.2) ∧ q2.Perm (pushed G U (updI d x.1 x.2) x k ++ q1) ∧ s10 bx = some (false, .cells 132 [.int .i64 (x.1 : Int), .int .i64 (x.2 : Int)]) ∧ bx ≠ sb) ((edL G U x.1).length - k) (fun ys s5 m => ∃ sb cap q d, DSt s s5 o sb cap q db i d ∧ DInv i G U from_ d q ∧ m = q.length + leftD i G U d ∧ m ≤ 5000 ∧ ∀ n, n < i → d n ≤ (cntD i d : Int) * 1000) (q.length + leftD i G U d) K s13 := fun s13 sb cap q3 z3 p3 h13 h14 => by
        simp only [vc_spf_distances_j3, arith_add, optK_mk]
        have := edL_len (G := G) (U := U) (n := x.1)
        rw [wrap64 (by omega) (by omega)]
        exact ⟨_, by omega, k + 1, sb, cap, q3, rfl, by omega, rfl, z3, p3, h13, h14⟩
      simp only [addOff_ptr, Nat.zero_add, rd1_mk h12, y1, y2, ad mN, rd1_mk st12.dd, dl_get mN, arith_lss, optK_mk]
      refine boolK_mk (fun hneg => ?_) (fun hneg => ?_)
      · have hneg := of_decide_eq_true hneg
        rw [if_pos hneg] at hps
        simp only [addOff_ptr, Nat.zero_add, rd1_mk h12, y1, y2, rd1_mk hx12, g1, arith_add, optK_mk]
        rw [wrap64 (by omega) (by omega)]
        refine optK_of (a := shR (mm, x.2 + c)) (by show some [AVal.int .i64 (mm : Int), .int .i64 ((x.2 : Int) + (c : Int))] = some (shR (mm, x.2 + c)); unfold shR; rw [show ((x.2 + c : Nat) : Int) = (x.2 : Int) + (c : Int) by omega]) ?_
        have := edL_len (G := G) (U := U) (n := x.1)
        refine Push_in st12.qa st12.hp (by omega) fun s13 sb' cap' q3 z13 hp13 perm3 k13 hfr => ?_
        have dbn' := st12.db_ne
        have sub13 : Sub s s13 := fun b e hb => k13 b e (st12.sub b e hb) (by rintro (rfl | rfl); rw [st12.f.1] at hb; cases hb; rw [st12.f.2.1] at hb; cases hb)
        have hx13 : s13 bx = _ := k13 _ _ hx12 (by
          rintro (e | e)
          · rw [e, st12.qa.ob] at hx12; cases hx12
          · exact hbsb e)
        refine next s13 sb' cap' q3 ⟨sub13, z13, hp13, k13 _ _ st12.dd (by rintro (q | q); exact dbn'.1 q; exact dbn'.2 q), st12.f.1, ?_, st12.f.2.2⟩ ?_ hx13 ?_
        · rcases hfr with e | e
          · rw [e]; exact st12.f.2.1
          · cases q : s sb' with
            | none => rfl
            | some y => rw [st12.sub _ _ q] at e; cases e
        · rw [hps, List.append_assoc]
          refine perm3.trans ((perm2.cons _).trans ?_)
          exact (List.perm_middle (l₁ := pushed G U (updI d x.1 x.2) x k) (a := (mm, x.2 + c)) (l₂ := q1)).symm
        · intro e
          rcases hfr with q | q
          · exact hbsb (e.trans q)
          · rw [← e, hx12] at q; cases q
      · have hneg := of_decide_eq_false hneg
        rw [if_neg hneg, List.append_nil] at hps
        exact next s12 sb cap q2 st12 (by rw [hps]; exact perm2) hx12 hbsb
    · have hge2 : k = (edL G U x.1).length := by have := of_decide_eq_false hge2; omega
      subst hge2
      have mp := fun y => (perm2.mem_iff (a := y)).trans List.mem_append
      have tk := inv.take z (q' := q2) hd memx (fun y hy => by
        rcases List.mem_cons.1 (perm.mem_iff.1 hy) with e | e
        · exact .inl e
        · exact .inr ((mp y).2 (.inr e))) (fun y hy => hmin y hy) (fun j m c e hm => (mp _).2 (.inl (mem_pushed.2 ⟨(j, m, c), (mem_edL z).2 e, by rw [updI_ne (Ne.symm (z.ed e).2.2.1)]; exact hm, rfl⟩))) fun y hy => by
        rcases (mp y).1 hy with e | e
        · obtain ⟨⟨j, m, c⟩, e1, e2, e3⟩ := mem_pushed.1 e
          exact .inr ⟨j, m, c, (mem_edL z).1 e1, e3⟩
        · exact .inl (perm.mem_iff.2 (by simp [e]))
      refine ⟨_, ?_, sb, cap, q2, _, st10, tk, rfl, by omega, fun n hn => ?_⟩
      · omega
      · have hc1 : cntD i d + 1 ≤ cntD i (updI d x.1 x.2) := cntF_lt (y := x.1) (fun n _ hn => by
          have hn := of_decide_eq_true hn
          refine decide_eq_true ?_
          by_cases e : n = x.1
          · rw [e, updI_same]; omega
          · rw [updI_ne e]; exact hn) (List.mem_range.2 xN) (decide_eq_false (by omega)) (decide_eq_true (by rw [updI_same]; omega))
        by_cases e : n = x.1
        · rw [e, updI_same]
          rcases (inv.qn x memx).2 with e | ⟨j, m, c, e1, e2, e3⟩
          · rw [e]; show (0 : Int) ≤ _; omega
          · have := hdm' m (z.ed e1).2.1
            have := hcost e1
            omega
        · rw [updI_ne e]
          have := hdm' n hn
          omega
end Go.AM
namespace Go.AM
open Go Go.Proofs
variable {K : AVal → Heap → Prop} {s s' s0 t R : Heap} {N : Nat} {G : List Lnk} {U : List Bool} {v y : AVal} {rows : List (List AVal)}
/-- append to a list of one's own while some other blocks are hidden -/
theorem app_hid {row : List AVal} (hs : Sub R t) (hv : AccR 106 3 s0 t v rows) (hvis : ∀ b n, v = .slc b 0 n none 3 → R b = t b) (hy : SlR 3 R y [row]) (hl : rows.length ≤ 1000)
    (hK : ∀ c s22, ((∀ b, t b ≠ none → R b = none → s22 b = none) → (∀ i e, t i = some e → (∀ n, v ≠ .slc i 0 n none 3) → i ≠ c ∧ add s22 (rest t R) i = some e) ∧ add s22 (rest t R) c = some (false, .cells 106 (rows ++ [row]).flatten) ∧ (t c = none ∨ ∃ n, v = .slc c 0 n none 3)) →
      K (.slc c 0 (rows.length + 1) none 3) s22) : appK 106 3 v y K R := by
  have hf : [row].flatten = row := by simp
  have hm : [row].length = 1 := rfl
  have fl : (rows ++ [row]).flatten = rows.flatten ++ row := by simp
  refine optK_of hy.rd (optK_of hy.len ?_)
  rw [hf, hm]
  obtain ⟨hrow, hv⟩ := hv
  -- once the new block is there
  have fin : ∀ (R' : Heap), (∀ i, (∀ n, v ≠ .slc i 0 n none 3) → R' i = R i) → (∀ i, R' i = none → R i = none ∨ ∃ n, v = .slc i 0 n none 3) → newK 106 (rows.flatten ++ row) (fun b => K (.slc b 0 (rows.length + 1) none 3)) R' := fun R' h1 h2 => by
    refine new_step fun c s22 hc h4 u4 => hK c s22 fun hcond => ?_
    have hct : t c = none ∨ ∃ n, v = .slc c 0 n none 3 := by
      rcases h2 c hc with e | e
      · left
        cases q : t c with
        | none => rfl
        | some x =>
          have := hcond c (by rw [q]; simp) e
          rw [h4] at this; cases this
      · exact .inr e
    refine ⟨fun i e hi hn => ?_, ?_, hct⟩
    · have hic : i ≠ c := by
        rintro rfl
        rcases hct with q | ⟨n, q⟩
        · rw [hi] at q; cases q
        · exact hn n q
      refine ⟨hic, ?_⟩
      have hR : R' i = R i := h1 i hn
      have h5 : s22 i = R i := by rw [← hR]; exact u4 i hic
      cases q : R i with
      | some x =>
        have := hs i x q
        rw [hi] at this
        cases this
        exact add_some (by rw [h5, q])
      | none =>
        rw [add_none (by rw [h5, q])]
        unfold rest
        rw [if_pos q]; exact hi
    · rw [fl]; exact add_some h4
  rcases hv with ⟨rfl, rfl⟩ | ⟨b, hb0, rfl, hb⟩
  · simp only
    refine ⟨by omega, ?_⟩
    exact fin R (fun _ _ => rfl) fun i hi => .inl hi
  · refine ⟨rfl, ?_⟩
    simp only
    have hbR : R b = some (false, .cells 106 rows.flatten) := by rw [hvis b _ rfl]; exact hb
    refine optK_of (SlR.rd (SlR.mk hrow hbR rfl (by simp))) ?_
    unfold dropK
    rw [hbR]
    refine ⟨rfl, by omega, ?_⟩
    exact fin (hdel R b) (fun i hn => if_neg fun e => hn rows.length (by rw [e])) fun i hi => by
      by_cases e : i = b
      · exact .inr ⟨rows.length, by rw [e]⟩
      · exact .inl (by rw [← hi]; exact (if_neg e).symm)
/-! ### edges -/
structure EB (s0 s : Heap) (o ab N : Nat) (E : Nat → List (Nat × Nat × Nat)) : Prop where
  sub : Sub s0 s
  f : s0 o = none ∧ s0 ab = none
  oc : s o = some (false, .cells 101 [.slc ab 0 N (some N) 1])
  row : ∃ vs : Nat → AVal, s ab = some (false, .cells 103 ((List.range N).map vs)) ∧ (∀ n, n < N → AccR 106 3 s0 s (vs n) ((E n).map edR)) ∧
    ∀ n m, n < N → m < N → n ≠ m → ∀ b k b' k', vs n = .slc b 0 k none 3 → vs m = .slc b' 0 k' none 3 → b ≠ b'
theorem EB.more {o ab : Nat} {E : Nat → List (Nat × Nat × Nat)} (z : EB s0 s o ab N E) (k : Sub s s') : EB s0 s' o ab N E := by
  obtain ⟨h1, h2, h3, vs, h4, h5, h6⟩ := z
  exact ⟨h1.trans k, h2, k _ _ h3, vs, k _ _ h4, fun n hn => (h5 n hn).sub k, h6⟩
theorem vs_set {vs : Nat → AVal} {n : Nat} {v : AVal} (h : n < N) : ((List.range N).map vs).set n v = (List.range N).map fun i => if i = n then v else vs i := by
  refine List.ext_getElem? fun i => ?_
  rw [List.getElem?_set]
  by_cases e : n = i
  · subst e
    simp [h]
  · rw [if_neg e]
    by_cases hi : i < N
    · simp [hi, Ne.symm e]
    · simp [hi]
def addE (E : Nat → List (Nat × Nat × Nat)) (n : Nat) (e : Nat × Nat × Nat) : Nat → List (Nat × Nat × Nat) := fun k => if k = n then E k ++ [e] else E k
/-- one edge is appended to a node's list -/
theorem EB.put {o ab n : Nat} {E : Nat → List (Nat × Nat × Nat)} {e : Nat × Nat × Nat} (z : EB s0 t o ab N E) {vs : Nat → AVal} (h4 : t ab = some (false, .cells 103 ((List.range N).map vs))) (h5 : ∀ n, n < N → AccR 106 3 s0 t (vs n) ((E n).map edR)) (h6 : ∀ n m, n < N → m < N → n ≠ m → ∀ b k b' k', vs n = .slc b 0 k none 3 → vs m = .slc b' 0 k' none 3 → b ≠ b') (hn : n < N) (hs : Sub R t) (hR : ∀ i, R i = t i ∨ (t i ≠ none ∧ ∃ el cs, t i = some (false, .cells el cs) ∧ el ≠ 106)) (hy : SlR 3 R y [edR e]) (hl : (E n).length ≤ 500) {J : Heap → Prop}
    (hJ : ∀ s4, EB s0 s4 o ab N (addE E n e) → (∀ i el cs, t i = some (false, .cells el cs) → el ≠ 106 → el ≠ 103 → s4 i = t i) → (∀ i x, t i = some (false, x) → (∀ el cs, x ≠ .cells el cs) → s4 i = t i) → J s4) :
    appK 106 3 (vs n) y (fun v_21 s_22 => (∀ b, t b ≠ none → R b = none → s_22 b = none) → optK (wr1 (add s_22 (rest t R)) (.ptr ab n) v_21) J) R := by
  have own : ∀ b k, vs n = .slc b 0 k none 3 → ∃ cs, t b = some (false, .cells 106 cs) := fun b k e => by
    rcases (h5 n hn).2 with ⟨e', _⟩ | ⟨b', _, e', h⟩
    · rw [e'] at e; cases e
    · rw [e'] at e; cases e; exact ⟨_, h⟩
  refine app_hid hs (h5 n hn) (fun b k e => ?_) hy (by rw [List.length_map]; omega) fun c s22 hf hcond => ?_
  · rcases hR b with q | ⟨_, el, cs, q, ne⟩
    · exact q
    · obtain ⟨cs', q'⟩ := own b k e
      rw [q'] at q; cases q; exact absurd rfl ne
  obtain ⟨g1, g2, g3⟩ := hf hcond
  generalize add s22 (rest t R) = M at g1 g2
  have notown : ∀ i el cs, t i = some (false, .cells el cs) → el ≠ 106 → ∀ k, vs n ≠ .slc i 0 k none 3 := fun i el cs h ne k e => by
    obtain ⟨cs', q⟩ := own i k e
    rw [h] at q; cases q; exact ne rfl
  obtain ⟨c1, m1⟩ := g1 ab _ h4 (notown ab _ _ h4 (by decide))
  obtain ⟨c2, m2⟩ := g1 o _ z.oc (notown o _ _ z.oc (by decide))
  refine wr1_step m1 (by simpa using hn) rfl fun s4 h7 u7 => ?_
  rw [vs_set hn] at h7
  have oab : o ≠ ab := by
    rintro rfl
    rw [z.oc] at h4; cases h4
  have f0 : ∀ {i : Nat} {x : Bool × Blk}, s0 i = some x → i ≠ c ∧ (∀ k, vs n ≠ .slc i 0 k none 3) := fun {i x} hi => by
    have own0 : ∀ k, vs n ≠ .slc i 0 k none 3 := fun k e => by
      rcases (h5 n hn).2 with ⟨e', _⟩ | ⟨b', hb', e', h⟩
      · rw [e'] at e; cases e
      · rw [e'] at e; cases e; rw [hi] at hb'; cases hb'
    refine ⟨fun q => ?_, own0⟩
    rcases g3 with q2 | ⟨k, q2⟩
    · rw [q] at hi; rw [z.sub _ _ hi] at q2; cases q2
    · rw [← q] at q2; exact own0 k q2
  have cab : c ≠ ab := Ne.symm c1
  have hc4 : s4 c = some (false, .cells 106 ((E n).map edR ++ [edR e]).flatten) := by rw [u7 c cab]; exact g2
  have hc0 : s0 c = none := by
    cases q : s0 c with
    | none => rfl
    | some x => exact absurd rfl (f0 q).1
  refine hJ s4 ⟨fun i x hi => ?_, z.f, by rw [u7 o oab]; exact m2, fun i => if i = n then .slc c 0 (((E n).map edR).length + 1) none 3 else vs i, h7, fun m hm => ?_, fun a b ha hb hab x k x' k' v1 v2 => ?_⟩ (fun i el cs hi h111 h109 => ?_) fun i x hi hx => ?_
  · obtain ⟨q1, q2⟩ := f0 hi
    obtain ⟨_, q3⟩ := g1 i x (z.sub i x hi) q2
    rw [u7 i (fun q => by rw [q, z.f.2] at hi; cases hi)]; exact q3
  · by_cases e1 : m = n
    · subst e1
      have eE : addE E m e m = E m ++ [e] := if_pos rfl
      rw [eE, List.map_append]
      simp only [if_true]
      exact ⟨fun r hr => by
        rcases List.mem_append.1 hr with q | q
        · exact (h5 m hn).1 r q
        · rw [List.map_singleton, List.mem_singleton] at q; subst q; rfl, .inr ⟨c, hc0, by simp, by simpa using hc4⟩⟩
    · have eE : addE E n e m = E m := if_neg e1
      rw [eE]
      simp only [if_neg e1]
      obtain ⟨r0, q⟩ := h5 m hm
      refine ⟨r0, ?_⟩
      rcases q with q | ⟨b, q1, q2, q3⟩
      · exact .inl q
      · obtain ⟨w1, w2⟩ := g1 b _ q3 fun k e3 => h6 n m hn hm (Ne.symm e1) b k b _ e3 q2 rfl
        refine .inr ⟨b, q1, q2, ?_⟩
        rw [u7 b (fun q => by rw [q, h4] at q3; cases q3)]; exact w2
  · have e1 : (if a = n then AVal.slc c 0 (((E n).map edR).length + 1) none 3 else vs a) = .slc x 0 k none 3 := v1
    have e2 : (if b = n then AVal.slc c 0 (((E n).map edR).length + 1) none 3 else vs b) = .slc x' 0 k' none 3 := v2
    clear v1 v2
    by_cases e3 : a = n
    · rw [if_pos e3] at e1
      rw [if_neg (fun q => hab (e3.trans q.symm))] at e2
      cases e1
      intro q
      subst q
      rcases (h5 b hb).2 with ⟨e', _⟩ | ⟨b', q1, e', q3⟩
      · rw [e'] at e2; cases e2
      · rw [e'] at e2; cases e2
        rcases g3 with q | ⟨k2, q⟩
        · rw [q] at q3; cases q3
        · exact h6 n b hn hb (fun q => hab (e3.trans q)) _ k2 _ _ q e' rfl
    · rw [if_neg e3] at e1
      by_cases e4 : b = n
      · rw [if_pos e4] at e2
        cases e2
        intro q
        subst q
        rcases (h5 a ha).2 with ⟨e', _⟩ | ⟨b', q1, e', q3⟩
        · rw [e'] at e1; cases e1
        · rw [e'] at e1; cases e1
          rcases g3 with q | ⟨k2, q⟩
          · rw [q] at q3; cases q3
          · exact h6 n a hn ha (Ne.symm e3) _ k2 _ _ q e' rfl
      · rw [if_neg e4] at e2
        exact h6 a b ha hb hab x k x' k' e1 e2
  · obtain ⟨w1, w2⟩ := g1 i _ hi (notown i _ _ hi h111)
    rw [u7 i (fun q => by rw [q, h4] at hi; cases hi; exact h109 rfl), w2, hi]
  · obtain ⟨w1, w2⟩ := g1 i _ hi fun k e3 => by
      obtain ⟨cs', q⟩ := own i k e3
      rw [hi] at q; cases q; exact hx _ _ rfl
    rw [u7 i (fun q => by rw [q, h4] at hi; cases hi; exact hx _ _ rfl), w2, hi]
end Go.AM
namespace Go.AM
open Go Go.Proofs
variable {K : AVal → Heap → Prop} {s s' s0 t R : Heap} {N : Nat} {G : List Lnk} {U : List Bool} {E : Nat → List (Nat × Nat × Nat)} {o ab : Nat}
theorem EB.loop {l : Nat} {x : Blk} (z : EB s0 s o ab N E) (hl : s l = some (false, x)) (hx : ∀ el cs, x ≠ .cells el cs) (h0 : s0 l = none) (u : Upto l s s') : EB s0 s' o ab N E := by
  obtain ⟨vs, h4, h5, h6⟩ := z.row
  have ne : ∀ {i el cs}, s i = some (false, .cells el cs) → i ≠ l := fun {i el cs} h q => by rw [q, hl] at h; cases h; exact hx _ _ rfl
  refine ⟨sub_upto z.sub u h0, z.f, by rw [u o (ne z.oc)]; exact z.oc, vs, by rw [u ab (ne h4)]; exact h4, fun n hn => ?_, h6⟩
  obtain ⟨r0, q⟩ := h5 n hn
  refine ⟨r0, q.imp id fun ⟨b, q1, q2, q3⟩ => ⟨b, q1, q2, by rw [u b (ne q3)]; exact q3⟩⟩
theorem minus_no {t : Heap} : minus t (fun _ => none) = t := by
  funext b
  unfold minus
  rw [if_pos rfl]
/-- two blocks are hidden -/
theorem cut2_at {s3 : Heap} {x y i : Nat} (h1 : i ≠ x) (h2 : i ≠ y) : cutH [(hdel s3 x, s3), (hdel s3 y, s3)] t i = t i := by
  show (if hdel s3 y i = none ∧ s3 i ≠ none then none else (if hdel s3 x i = none ∧ s3 i ≠ none then none else t i)) = _
  have e1 : hdel s3 x i = s3 i := if_neg h1
  have e2 : hdel s3 y i = s3 i := if_neg h2
  rw [e1, e2]
  by_cases q : s3 i = none
  · rw [if_neg (by rintro ⟨_, h⟩; exact h q), if_neg (by rintro ⟨_, h⟩; exact h q)]
  · rw [if_neg (by rintro ⟨h, _⟩; exact q h), if_neg (by rintro ⟨h, _⟩; exact q h)]
theorem lit3 {e : Nat × Nat × Nat} {R : Nat → Heap → Prop} (hK : ∀ b s2, s b = none → add s s2 b = some (false, .cells 106 (edR e)) → Upto b s (add s s2) → R b s2) :
    optK (fillR [(.int .i64 0), (.int .i64 0), (.int .i64 0)] [(0, 1, .int .i64 (e.1 : Int)), (1, 1, .int .i64 (e.2.1 : Int)), (2, 1, .int .i64 (e.2.2 : Int))]) fun c_16 =>
    optK (fillR (repl 1 [(.int .i64 0), (.int .i64 0), (.int .i64 0)]) [(0, 3, (.agg c_16))]) fun c_17 => allOne c_17 = true ∧ newK 106 c_17 (fun b s2 => (∀ b, s b ≠ none → s b = none → s2 b = none) → R b s2) (frz s) :=
  optK_of (a := edR e) rfl (optK_of (a := edR e) rfl ⟨rfl, newM (l := []) hK⟩)
abbrev rdyC (ac bo : Code) (o d : Nat) : Blk := .loop .ready none 52 [(7, .ptr o 0)] [15, 16] ac bo d
abbrev bsyC (ac bo : Code) (o d : Nat) : Blk := .loop .busy none 52 [(7, .ptr o 0)] [15, 16] ac bo d
theorem round_in {l i a b c d : Nat} (z : EB s0 s o ab N E) (hl : s l = some (false, rdyC (rfAs 0 (bodyOf Try.f49)) (rfBo 0 (bodyOf Try.f49)) o d)) (h0 : s0 l = none) (ha : a < N) (hb : b < N) (hab : a ≠ b) (hle : ∀ n, (E n).length ≤ 300)
    (hK : ∀ s', EB s0 s' o ab N (addE (addE E a (i, b, c)) b (i, a, c)) → s' l = some (false, rdyC (rfAs 0 (bodyOf Try.f49)) (rfBo 0 (bodyOf Try.f49)) o d) → (∀ j el cs, s j = some (false, .cells el cs) → el ≠ 106 → el ≠ 103 → s' j = s j) → K (.bool true) s') :
    wpRound Try.prog XX l [.int .i64 (i : Int), .agg [.int .i64 (a : Int), .int .i64 (b : Int), .int .i64 (c : Int)]] K s := by
  refine vw_spf_edges_r0_in hl ?_
  refine new_step fun b0 s1 hb0 h1 u1 => wrAgg_step h1 rfl rfl rfl fun s2 h2 u2 => ⟨rfl, ?_⟩
  have h2 : s2 b0 = some (false, .cells 27 [.int .i64 (a : Int), .int .i64 (b : Int), .int .i64 (c : Int)]) := h2
  have sub2 : Sub s s2 := sub_upto (u1.sub hb0) u2 hb0
  have z2 := z.more sub2
  have l2 := sub2 _ _ hl
  unfold beginK
  rw [l2]
  simp only
  have u3 : Upto l s2 (hset s2 l (false, bsyC (rfAs 0 (bodyOf Try.f49)) (rfBo 0 (bodyOf Try.f49)) o d)) := fun _ hi => hset_other hi
  have l3 : hset s2 l (false, bsyC (rfAs 0 (bodyOf Try.f49)) (rfBo 0 (bodyOf Try.f49)) o d) l = some (false, bsyC (rfAs 0 (bodyOf Try.f49)) (rfBo 0 (bodyOf Try.f49)) o d) := hset_eq
  have z3 := z2.loop l2 (fun _ _ h => by cases h) h0 u3
  have lb0 : b0 ≠ l := fun q => by rw [q, l2] at h2; cases h2
  have h3 : hset s2 l (false, bsyC (rfAs 0 (bodyOf Try.f49)) (rfBo 0 (bodyOf Try.f49)) o d) b0 = _ := (u3 b0 lb0).trans h2
  have c3 : ∀ j el cs, s j = some (false, .cells el cs) → hset s2 l (false, bsyC (rfAs 0 (bodyOf Try.f49)) (rfBo 0 (bodyOf Try.f49)) o d) j = s j := fun j el cs hj => by rw [u3 j (fun q => by rw [q, hl] at hj; cases hj), sub2 _ _ hj, hj]
  generalize hset s2 l (false, bsyC (rfAs 0 (bodyOf Try.f49)) (rfBo 0 (bodyOf Try.f49)) o d) = s3 at u3 l3 z3 h3 c3
  clear u3
  obtain ⟨vs, h4, h5, h6⟩ := z3.row
  have x0 : [AVal.int .i64 (a : Int), .int .i64 (b : Int), .int .i64 (c : Int)][0]? = some (.int .i64 (a : Int)) := rfl
  have x1 : [AVal.int .i64 (a : Int), .int .i64 (b : Int), .int .i64 (c : Int)][1]? = some (.int .i64 (b : Int)) := rfl
  have x2 : [AVal.int .i64 (a : Int), .int .i64 (b : Int), .int .i64 (c : Int)][2]? = some (.int .i64 (c : Int)) := rfl
  have ad : ∀ {n : Nat}, n < N → iaddrS 1 (.slc ab 0 N (some N) 1) (.int .i64 (n : Int)) = some (.ptr ab n) := fun {n} hn => by
    have : Nat.blt n N = true := by rw [Nat.blt_eq]; exact hn
    simp [iaddrS, this]
  have ra : ((List.range N).map vs)[a]? = some (vs a) := by simp [ha]
  simp only [rd1_mk z3.oc, List.getElem?_cons_zero, addOff_ptr, Nat.zero_add, rd1_mk h3, x0, x1, x2, ad ha, rd1_mk h4, ra, optK_mk]
  refine lit3 (e := (i, b, c)) fun b18 s19 hb18 h18 u18 => ⟨fun _ => none, fun _ h => absurd rfl h, ?_⟩
  have sub3 := u18.sub hb18
  rw [minus_no]
  have hidden : ∀ {s3 t : Heap} {b0 : Nat}, Sub s3 t → s3 o = some (false, .cells 101 [.slc ab 0 N (some N) 1]) → s3 b0 = some (false, .cells 27 [.int .i64 (a : Int), .int .i64 (b : Int), .int .i64 (c : Int)]) → ∀ j, cutH [(hdel s3 o, s3), (hdel s3 b0, s3)] t j = t j ∨ (t j ≠ none ∧ ∃ el cs, t j = some (false, .cells el cs) ∧ el ≠ 106) := fun {s3 t b0} hs ho hb j => by
    by_cases e1 : j = o
    · rw [e1, hs _ _ ho]
      exact .inr ⟨by simp, _, _, rfl, by decide⟩
    · by_cases e2 : j = b0
      · rw [e2, hs _ _ hb]
        exact .inr ⟨by simp, _, _, rfl, by decide⟩
      · exact .inl (cut2_at e1 e2)
  have lit : ∀ {s3 t : Heap} {x y b18 : Nat} {e : Nat × Nat × Nat}, t b18 = some (false, .cells 106 (edR e)) → b18 ≠ x → b18 ≠ y → SlR 3 (cutH [(hdel s3 x, s3), (hdel s3 y, s3)] t) (.slc b18 0 1 (some 1) 3) [edR e] := fun {s3 t x y b18 e} h q1 q2 => SlR.mk (rows := [edR e]) (by intro r hr; rw [List.mem_singleton] at hr; subst hr; rfl) (by rw [cut2_at q1 q2]; simpa using h) rfl (by simp)
  have nb : ∀ {j : Nat} {e : Bool × Blk}, s3 j = some e → b18 ≠ j := fun {j e} h q => by rw [← q, hb18] at h; cases h
  refine EB.put (z3.more sub3) (sub3 _ _ h4) (fun n hn => (h5 n hn).sub sub3) h6 ha (cutH_sub _ _) (hidden sub3 z3.oc h3) (lit h18 (nb z3.oc) (nb h3)) (by have := hle a; omega) fun s4 z4 k1 k2 => ?_
  have h34 : s4 b0 = _ := (k1 b0 _ _ (sub3 _ _ h3) (by decide) (by decide)).trans (sub3 _ _ h3)
  have l4 : s4 l = _ := (k2 l _ (sub3 _ _ l3) (fun _ _ h => by cases h)).trans (sub3 _ _ l3)
  have c4 : ∀ j el cs, s j = some (false, .cells el cs) → el ≠ 106 → el ≠ 103 → s4 j = s j := fun j el cs hj e1 e2 => by
    have q := c3 j el cs hj
    rw [hj] at q
    rw [k1 j el cs (sub3 _ _ q) e1 e2, sub3 _ _ q, hj]
  clear k1 k2 c3 sub3 h18 u18 hb18 nb h4 h5 h6 ra
  obtain ⟨ws, h4, h5, h6⟩ := z4.row
  have rb : ((List.range N).map ws)[b]? = some (ws b) := by simp [hb]
  simp only [rd1_mk z4.oc, List.getElem?_cons_zero, addOff_ptr, Nat.zero_add, rd1_mk h34, x0, x1, x2, ad hb, rd1_mk h4, rb, optK_mk]
  refine lit3 (e := (i, a, c)) fun b39 s40 hb39 h39 u39 => ⟨fun _ => none, fun _ h => absurd rfl h, ?_⟩
  have sub4 := u39.sub hb39
  rw [minus_no]
  have nb : ∀ {j : Nat} {e : Bool × Blk}, s4 j = some e → b39 ≠ j := fun {j e} h q => by rw [← q, hb39] at h; cases h
  refine EB.put (z4.more sub4) (sub4 _ _ h4) (fun n hn => (h5 n hn).sub sub4) h6 hb (cutH_sub _ _) (hidden sub4 z4.oc h34) (lit h39 (nb z4.oc) (nb h34)) ?_ fun s5 z5 k1 k2 => ?_
  · have : addE E a (i, b, c) b = E b := if_neg (Ne.symm hab)
    rw [this]
    have := hle b; omega
  have l5 : s5 l = _ := (k2 l _ (sub4 _ _ l4) (fun _ _ h => by cases h)).trans (sub4 _ _ l4)
  unfold endK
  rw [l5]
  simp only
  refine hK _ (z5.loop l5 (fun _ _ h => by cases h) h0 fun _ hi => hset_other hi) hset_eq fun j el cs hj e1 e2 => ?_
  have q := c4 j el cs hj e1 e2
  rw [hj] at q
  rw [hset_other (fun q => by rw [q, hl] at hj; cases hj), k1 j el cs (sub4 _ _ q) e1 e2, sub4 _ _ q, hj]
end Go.AM
namespace Go.AM
open Go Go.Proofs
variable {K : AVal → Heap → Prop} {s s' s0 : Heap} {N : Nat} {G : List Lnk} {U : List Bool} {lv uv : AVal}
def lkR (x : Lnk) : List AVal := [.int .i64 (x.1 : Int), .int .i64 (x.2.1 : Int), .int .i64 (x.2.2 : Int)]
def edF (G : List Lnk) (U : List Bool) (n i : Nat) : Option (Nat × Nat × Nat) := if U.getD i false then (match G[i]? with | some x => (oth x n).map fun m => (i, m, x.2.2) | none => none) else none
def edP (G : List Lnk) (U : List Bool) (k n : Nat) : List (Nat × Nat × Nat) := (List.range k).filterMap (edF G U n)
theorem edP_succ {k n : Nat} : edP G U (k + 1) n = edP G U k n ++ (edF G U n k).toList := by
  unfold edP
  rw [List.range_succ, List.filterMap_append]
  congr 1
theorem edP_len {k n : Nat} : (edP G U k n).length ≤ k := by
  have := List.length_filterMap_le (edF G U n) (List.range k)
  rw [List.length_range] at this
  exact this
theorem edP_down {k : Nat} (h : U.getD k false = false) : edP G U (k + 1) = edP G U k := by
  funext n
  rw [edP_succ]
  have : edF G U n k = none := by unfold edF; rw [h]; rfl
  rw [this]; simp
theorem edP_up {k a b c : Nat} (h : U.getD k false = true) (hg : G[k]? = some (a, b, c)) (hab : a ≠ b) : edP G U (k + 1) = addE (addE (edP G U k) a (k, b, c)) b (k, a, c) := by
  funext n
  rw [edP_succ]
  have e1 : edF G U n k = (oth (a, b, c) n).map fun m => (k, m, c) := by unfold edF; rw [h, hg]; rfl
  rw [e1]
  unfold addE oth
  by_cases q1 : a = n
  · subst q1
    rw [if_pos rfl, if_neg hab, if_pos rfl]; rfl
  · by_cases q2 : b = n
    · subst q2
      rw [if_neg q1, if_pos rfl, if_pos rfl, if_neg (Ne.symm hab)]; rfl
    · rw [if_neg q1, if_neg q2, if_neg (Ne.symm q2), if_neg (Ne.symm q1)]; simp
set_option maxHeartbeats 1000000 in
theorem Edges_in (z : GOk N G U) (hN : N ≤ 32) (hG : G.length ≤ 128) (hl : SlR 3 s lv (G.map lkR)) (hu : Sl s uv (U.map AVal.bool)) (hK : ∀ v s', Sub s s' → AdjR s' v N (edL G U) → K v s') : wpCall Try.prog XX 49 [.int .i64 (N : Int), lv, uv] K s := by
  refine vw_spf_edges_in ?_
  have n0 : nat? (.int .i64 (N : Int)) = some N := nat?_mk
  simp only [vw_spf_edges, n0, optK_mk]
  refine ⟨⟨Nat.le_refl _, by omega⟩, new_step fun ab s1 hab h1 u1 => new_step fun o s2 ho h2 u2 => ?_⟩
  have sub1 := u1.sub hab
  have hos : s o = none := by
    cases q : s o with
    | none => rfl
    | some x => rw [sub1 _ _ q] at ho; cases ho
  refine wr1_step h2 (by simp) rfl fun s3 h3 u3 => ?_
  have h3 : s3 o = some (false, .cells 101 [.slc ab 0 N (some N) 1]) := h3
  have sub3 : Sub s s3 := sub_upto (sub1.trans (u2.sub ho)) u3 hos
  have hoab : ab ≠ o := fun q => by rw [q, ho] at h1; cases h1
  have h3a : s3 ab = some (false, .cells 103 ((List.range N).map fun _ => AVal.nilslc)) := by
    rw [u3 ab hoab, u2 ab hoab, h1, repl_one]
    congr 3
    refine List.ext_getElem? fun i => ?_
    by_cases hi : i < N
    · simp [hi]
    · simp [hi]
  have z3 : EB s s3 o ab N (edP G U 0) := ⟨sub3, ⟨hos, hab⟩, h3, fun _ => .nilslc, h3a, fun n _ => ⟨by simp [edP], .inl ⟨rfl, rfl⟩⟩, fun n m _ _ _ b k b' k' e => by cases e⟩
  refine vc_spf_enabled_api_Link__in (box_step hl.one fun b0 s4 hb0 h4 u4 => box_step hu.one fun b2 s5 hb2 h5 u5 => ?_)
  have sub5 : Sub s3 s5 := (u4.sub hb0).trans (u5.sub hb2)
  have z5 := z3.more sub5
  have h4' : s5 b0 = some (false, .cells 22 [lv]) := (u5.sub hb2) _ _ h4
  refine ⟨by kernel_rfl, trivial, fun l d hlf => ?_⟩
  have u6 : Upto l s5 (hset s5 l (false, rdyC (rfAs 0 (bodyOf Try.f49)) (rfBo 0 (bodyOf Try.f49)) o d)) := fun _ hi => hset_other hi
  have l6 : (hset s5 l (false, rdyC (rfAs 0 (bodyOf Try.f49)) (rfBo 0 (bodyOf Try.f49)) o d)) l = _ := hset_eq
  have z6 := z5.more (u6.sub hlf)
  have hls : s l = none := by
    cases q : s l with
    | none => rfl
    | some x => rw [sub5 _ _ (sub3 _ _ q)] at hlf; cases hlf
  have h6a := (u6.sub hlf) _ _ h4'
  have h6b := (u6.sub hlf) _ _ h5
  show wpCall Try.prog XX 86 [.yield l, .ptr b0 0, .ptr b2 0] _ (hset s5 l (false, rdyC (rfAs 0 (bodyOf Try.f49)) (rfBo 0 (bodyOf Try.f49)) o d))
  generalize hset s5 l (false, rdyC (rfAs 0 (bodyOf Try.f49)) (rfBo 0 (bodyOf Try.f49)) o d) = s6 at u6 l6 z6 h6a h6b
  refine vc_spf_enabled_api_Link__1_in ?_
  simp only [vc_spf_enabled_api_Link__1, rd1_mk h6a, List.getElem?_cons_zero, hl.len, List.length_map, optK_mk]
  refine ⟨fun ys t m => ∃ i : Nat, ys = [.int .i64 i] ∧ i ≤ G.length ∧ m = G.length - i ∧ EB s t o ab N (edP G U i) ∧ t l = some (false, rdyC (rfAs 0 (bodyOf Try.f49)) (rfBo 0 (bodyOf Try.f49)) o d) ∧ t b2 = some (false, .cells 23 [uv]), ⟨_, 0, rfl, by omega, rfl, z6, l6, h6b⟩, ?_⟩
  rintro f t m ⟨i, hy, hi, rfl, zt, lt, ht2⟩
  simp only [List.cons.injEq, and_true] at hy
  rw [hy]
  simp only [vc_spf_enabled_api_Link__1_l0, arith_lss, optK_mk]
  refine boolK_mk (fun hlt => ?_) (fun hge => ?_)
  · have hlt : i < G.length := by have := of_decide_eq_true hlt; omega
    obtain ⟨x, hx⟩ : ∃ x, G[i]? = some x := ⟨_, List.getElem?_eq_getElem hlt⟩
    obtain ⟨a, b, c⟩ := x
    have ok := z.ok _ (List.mem_of_getElem? hx)
    obtain ⟨pb, po, e1, e2, _⟩ := (hl.sub zt.sub).get (i := i) (r := lkR (a, b, c)) (by rw [List.getElem?_map, hx]; rfl)
    obtain ⟨p, g1, g2⟩ := (hu.sub zt.sub).get (i := i) (by rw [List.length_map, z.len]; exact hlt)
    have g3 : (U.map AVal.bool)[i]? = some (.bool (U.getD i false)) := by
      have : i < U.length := by rw [z.len]; exact hlt
      simp [this]
    rw [g3] at g2
    simp only [e1, e2, optK_mk]
    refine new_step fun be t1 hbe h7 u7 => wrAgg_step h7 rfl rfl rfl fun t2 h8 u8 => ?_
    have h8 : t2 be = some (false, .cells 27 (lkR (a, b, c))) := h8
    have subt : Sub t t2 := sub_upto (u7.sub hbe) u8 hbe
    have z2 := zt.more subt
    have lt2 := subt _ _ lt
    have hb22 := subt _ _ ht2
    have g2' : rd1 t2 p = some (.bool (U.getD i false)) := by
      obtain ⟨p', g1', g2'⟩ := (hu.sub z2.sub).get (i := i) (by rw [List.length_map, z.len]; exact hlt)
      rw [g1] at g1'; cases g1'
      rw [g2', g3]
    have next : ∀ t3, EB s t3 o ab N (edP G U (i + 1)) → t3 l = some (false, rdyC (rfAs 0 (bodyOf Try.f49)) (rfBo 0 (bodyOf Try.f49)) o d) → t3 b2 = some (false, .cells 23 [uv]) → ∃ m', m' < G.length - i ∧ ∃ i' : Nat, [AVal.int .i64 ((i : Int) + 1)] = [.int .i64 i'] ∧ i' ≤ G.length ∧ m' = G.length - i' ∧ EB s t3 o ab N (edP G U i') ∧ t3 l = some (false, rdyC (rfAs 0 (bodyOf Try.f49)) (rfBo 0 (bodyOf Try.f49)) o d) ∧ t3 b2 = some (false, .cells 23 [uv]) := fun t3 a1 a2 a3 => ⟨_, by omega, i + 1, rfl, by omega, rfl, a1, a2, a3⟩
    simp only [rd1_mk hb22, List.getElem?_cons_zero, g1, g2', optK_mk]
    refine boolK_mk (fun hup => ?_) (fun hdn => ?_)
    · have r3 : rdN t2 3 (.ptr be 0) = some (lkR (a, b, c)) := rdN_all h8 rfl
      simp only [r3, optK_mk]
      refine ⟨by unfold loopLen; rw [lt2]; rfl, round_in (i := i) (a := a) (b := b) (c := c) (E := edP G U i) z2 lt2 hls ok.1 ok.2.1 ok.2.2.1 (fun n => Nat.le_trans edP_len (by omega)) fun t3 z3 l3 k3 => ?_⟩
      rw [← edP_up hup hx ok.2.2.1] at z3
      simp only [unary_not, Bool.not_true, hup, vc_spf_enabled_api_Link__1_j1, pickV_true, boolK_false, arith_add, optK_mk]
      rw [wrap64 (by omega) (by omega)]
      exact next t3 z3 l3 ((k3 b2 _ _ hb22 (by decide) (by decide)).trans hb22)
    · simp only [hdn, vc_spf_enabled_api_Link__1_j1, pickV_false, boolK_false, arith_add, optK_mk]
      rw [wrap64 (by omega) (by omega)]
      exact next t2 (by rw [edP_down hdn]; exact z2) lt2 hb22
  · have hge : i = G.length := by have := of_decide_eq_false hge; omega
    subst hge
    unfold doneK3
    rw [lt]
    refine ⟨(fun h => by cases h), ?_⟩
    have z9 := zt.loop lt (fun _ _ h => by cases h) hls (s' := hdel t l) fun i hi => if_neg hi
    simp only [rd1_mk z9.oc, List.getElem?_cons_zero, optK_mk]
    obtain ⟨vs, q1, q2, _⟩ := z9.row
    exact hK _ _ z9.sub ⟨vs, .inr ⟨ab, 0, some N, by simp, by simp, fun _ => ⟨false, 103, _, q1, by simp, fun i _ => by rw [Nat.zero_add]⟩⟩, fun n hn => (q2 n hn).sl⟩
end Go.AM
namespace Go.AM
open Go Go.Proofs
variable {K : AVal → Heap → Prop} {s s' s0 : Heap} {lv uv ev : AVal}
/-! ### which inputs are valid -/
abbrev RLk := Int × Int × Int
def rwR (x : RLk) : List AVal := [.int .i64 x.1, .int .i64 x.2.1, .int .i64 x.2.2]
def okL (n : Int) (x : RLk) : Prop := (0 ≤ x.1 ∧ x.1 < n) ∧ (0 ≤ x.2.1 ∧ x.2.1 < n) ∧ x.1 ≠ x.2.1 ∧ 1 ≤ x.2.2 ∧ x.2.2 ≤ 1000
def vld (n : Int) (L : List RLk) (U : List Bool) : Prop := 1 ≤ n ∧ n ≤ 32 ∧ L.length ≤ 128 ∧ U.length = L.length ∧ ∀ x ∈ L, okL n x
theorem okD {n a p c : Int} (h : okL n (a, p, c)) : (0 ≤ a ∧ a < n) ∧ (0 ≤ p ∧ p < n) ∧ a ≠ p ∧ 1 ≤ c ∧ c ≤ 1000 := h
theorem okI {n a p c : Int} (h : (0 ≤ a ∧ a < n) ∧ (0 ≤ p ∧ p < n) ∧ a ≠ p ∧ 1 ≤ c ∧ c ≤ 1000) : okL n (a, p, c) := h
theorem outside_in {n x : Int} {b : Nat} (hb : s b = some (false, .cells 3 [.int .i64 n])) (hK : K (.bool (decide (x < 0 ∨ n ≤ x))) s) : funK Try.prog XX (.fn (.func 70) [] [.ptr b 0]) [.int .i64 x] K s := by
  refine ⟨by kernel_rfl, ?_⟩
  show wpCall Try.prog XX 70 [.int .i64 x, .ptr b 0] K s
  refine vc_spf_valid_1_in ?_
  simp only [vc_spf_valid_1, arith_lss, optK_mk]
  refine boolK_mk (fun h => ?_) (fun h => ?_)
  · rw [h]
    have h := of_decide_eq_true h
    simp only [vc_spf_valid_1_j0, pickV_true, optK_mk]
    rw [decide_eq_true (.inl h)] at hK
    exact hK
  · rw [h]
    have h := of_decide_eq_false h
    simp only [rd1_mk hb, List.getElem?_cons_zero, arith_geq, vc_spf_valid_1_j0, pickV_false, optK_mk]
    have e : decide (x < 0 ∨ n ≤ x) = decide (n ≤ x) := by
      by_cases q : n ≤ x
      · rw [decide_eq_true q, decide_eq_true (.inr q)]
      · rw [decide_eq_false q, decide_eq_false (by omega)]
    rw [e] at hK
    exact hK
theorem ContainsF_in {n : Int} {b : Nat} {es : List Int} (hb : s b = some (false, .cells 3 [.int .i64 n])) (he : Sl s ev (es.map (AVal.int .i64))) (hl : es.length ≤ 1000) (hK : ∀ r : Bool, (r = false ↔ ∀ e ∈ es, 0 ≤ e ∧ e < n) → K (.bool r) s) : wpCall Try.prog XX 71 [ev, .fn (.func 70) [] [.ptr b 0]] K s := by
  refine vs_ContainsFunc___int_int__in (vs_IndexFunc___int_int__in ?_)
  simp only [vs_IndexFunc___int_int_, he.len, List.length_map, optK_mk]
  refine ⟨fun ys t m => ∃ i : Nat, ys = [.int .i64 i] ∧ t = s ∧ i ≤ es.length ∧ m = es.length - i ∧ ∀ e ∈ es.take i, 0 ≤ e ∧ e < n, ⟨_, 0, rfl, rfl, by omega, rfl, by simp⟩, ?_⟩
  rintro f t m ⟨i, hy, rfl, hi, rfl, hq⟩
  simp only [List.cons.injEq, and_true] at hy
  rw [hy]
  simp only [vs_IndexFunc___int_int__l0, arith_lss, optK_mk]
  refine boolK_mk (fun hlt => ?_) (fun hge => ?_)
  · have hlt : i < es.length := by have := of_decide_eq_true hlt; omega
    obtain ⟨p, g1, g2⟩ := he.get (i := i) (by rw [List.length_map]; exact hlt)
    have g3 : (es.map (AVal.int .i64))[i]? = some (.int .i64 es[i]) := by simp [hlt]
    rw [g3] at g2
    simp only [g1, g2, optK_mk]
    refine outside_in hb ?_
    refine boolK_mk (fun h => ?_) (fun h => ?_)
    · have h := of_decide_eq_true h
      simp only [arith_geq, optK_mk]
      rw [decide_eq_true (show (0 : Int) ≤ i by omega)]
      refine hK true ⟨(fun h => by cases h), fun hall => ?_⟩
      have := hall _ (List.getElem_mem hlt)
      omega
    · have h := of_decide_eq_false h
      simp only [arith_add, optK_mk]
      rw [wrap64 (by omega) (by omega)]
      refine ⟨_, by omega, i + 1, rfl, by trivial, by omega, rfl, fun e he => ?_⟩
      rw [List.take_add_one, List.getElem?_eq_getElem hlt] at he
      rcases List.mem_append.1 he with q | q
      · exact hq e q
      · have : e = es[i] := by simpa using q
        rw [this]; omega
  · have hge : i = es.length := by have := of_decide_eq_false hge; omega
    subst hge
    rw [List.take_length] at hq
    simp only [arith_geq, optK_mk]
    exact hK _ ⟨fun _ => hq, fun _ => rfl⟩
theorem valid_in {n : Int} {L : List RLk} {U : List Bool} {es : List Int} (hl : SlR 3 s lv (L.map rwR)) (hlm : L.length ≤ 9223372036854775807) (hu : Sl s uv (U.map AVal.bool)) (he : Sl s ev (es.map (AVal.int .i64))) (hel : es.length ≤ 1000)
    (hK : ∀ s' (r : Bool), Sub s s' → (r = true ↔ vld n L U ∧ ∀ e ∈ es, 0 ≤ e ∧ e < n) → K (.bool r) s') : wpCall Try.prog XX 47 [.int .i64 n, lv, uv, ev] K s := by
  refine vc_spf_valid_in (box_step rfl fun b s1 hb h1 u1 => ?_)
  have sub1 := u1.sub hb
  have no : ∀ {s'}, Sub s s' → ¬ (vld n L U ∧ ∀ e ∈ es, 0 ≤ e ∧ e < n) → K (.bool false) s' := fun {s'} h q => hK s' false h ⟨(fun h => by cases h), fun h => absurd h q⟩
  simp only [rd1_mk h1, List.getElem?_cons_zero, arith_lss, arith_gtr, optK_mk, (hl.sub sub1).len, (hu.sub sub1).len, List.length_map]
  by_cases c1 : n < 1
  · rw [decide_eq_true c1]
    simp only [boolK_true, vc_spf_valid_j0, vc_spf_valid_j1, vc_spf_valid_j2, pickV_true, optK_mk]
    exact no sub1 fun h => by have := h.1.1; omega
  rw [decide_eq_false c1]
  simp only [boolK_false]
  by_cases c2 : (32 : Int) < n
  · rw [decide_eq_true c2]
    simp only [vc_spf_valid_j0, vc_spf_valid_j1, vc_spf_valid_j2, pickV_true, pickV_false, boolK_true, optK_mk]
    exact no sub1 fun h => by have := h.1.2.1; omega
  rw [decide_eq_false c2]
  simp only [vc_spf_valid_j0, pickV_false, boolK_false, optK_mk, (hl.sub sub1).len, List.length_map, arith_gtr]
  by_cases c3 : (128 : Int) < L.length
  · rw [decide_eq_true c3]
    simp only [vc_spf_valid_j1, vc_spf_valid_j2, pickV_true, pickV_false, boolK_true, optK_mk]
    exact no sub1 fun h => by have := h.1.2.2.1; omega
  rw [decide_eq_false c3]
  simp only [vc_spf_valid_j1, pickV_false, boolK_false, optK_mk, (hl.sub sub1).len, (hu.sub sub1).len, List.length_map, eqV_int, negB_mk, Bool.true_bne]
  cases c4 : ((U.length : Int) == (L.length : Int)) with
  | false =>
    have c4 : ¬ (U.length : Int) = L.length := by simpa using c4
    simp only [Bool.not_false, vc_spf_valid_j2, pickV_false, boolK_true, optK_mk]
    exact no sub1 fun h => by have := h.1.2.2.2.1; omega
  | true =>
  have c4 : (U.length : Int) = L.length := by simpa using c4
  simp only [Bool.not_true, vc_spf_valid_j2, pickV_false, boolK_false, optK_mk, (hl.sub sub1).len, List.length_map]
  refine ⟨fun ys t m => ∃ i : Nat, ys = [.int .i64 i] ∧ i ≤ L.length ∧ m = L.length - i ∧ Sub s1 t ∧ ∀ x ∈ L.take i, okL n x, ⟨_, 0, rfl, by omega, rfl, .refl s1, by simp⟩, ?_⟩
  rintro f t m ⟨i, hy, hi, rfl, ht, hq⟩
  simp only [List.cons.injEq, and_true] at hy
  rw [hy]
  have ht1 := sub1.trans ht
  simp only [vc_spf_valid_l3, arith_lss, optK_mk]
  refine boolK_mk (fun hlt => ?_) (fun hge => ?_)
  · have hlt : i < L.length := by have := of_decide_eq_true hlt; omega
    obtain ⟨x, hx⟩ : ∃ x, L[i]? = some x := ⟨_, List.getElem?_eq_getElem hlt⟩
    obtain ⟨a, p, c⟩ := x
    obtain ⟨pb, po, e1, e2, _⟩ := (hl.sub ht1).get (i := i) (r := rwR (a, p, c)) (by rw [List.getElem?_map, hx]; rfl)
    simp only [e1, e2, optK_mk]
    refine new_step fun be t1 hbe h7 u7 => wrAgg_step h7 rfl rfl rfl fun t2 h8 u8 => ?_
    have h8 : t2 be = some (false, .cells 27 [.int .i64 a, .int .i64 p, .int .i64 c]) := h8
    have subt : Sub t t2 := sub_upto (u7.sub hbe) u8 hbe
    have hb2 := subt _ _ (ht _ _ h1)
    have st2 := ht1.trans subt
    have y0 : [AVal.int .i64 a, .int .i64 p, .int .i64 c][0]? = some (.int .i64 a) := rfl
    have y1 : [AVal.int .i64 a, .int .i64 p, .int .i64 c][1]? = some (.int .i64 p) := rfl
    have y2 : [AVal.int .i64 a, .int .i64 p, .int .i64 c][2]? = some (.int .i64 c) := rfl
    have bad : ¬ okL n (a, p, c) → ¬ (vld n L U ∧ ∀ e ∈ es, 0 ≤ e ∧ e < n) := fun h q => h (q.1.2.2.2.2 _ (List.mem_of_getElem? hx))
    have stop : ∀ t59 t62, pickV t59 (.bool true) t62 = some (.bool true) → ¬ okL n (a, p, c) → vc_spf_valid_j7 XX (.int .i64 (i : Int)) t59 t62 (fun ys t m => ∃ i : Nat, ys = [.int .i64 i] ∧ i ≤ L.length ∧ m = L.length - i ∧ Sub s1 t ∧ ∀ x ∈ L.take i, okL n x) (L.length - i) K t2 := fun t59 t62 h q => by
      simp only [vc_spf_valid_j7, h, optK_mk, boolK_true]
      exact no st2 (bad q)
    simp only [addOff_ptr, Nat.zero_add, rd1_mk h8, y0, optK_mk]
    refine outside_in hb2 ?_
    by_cases d1 : a < 0 ∨ n ≤ a
    · rw [decide_eq_true d1]
      simp only [boolK_true, vc_spf_valid_j4, vc_spf_valid_j5, vc_spf_valid_j6, pickV_true, optK_mk]
      exact stop _ _ rfl fun h => by have := okD h; omega
    rw [decide_eq_false d1]
    simp only [boolK_false, addOff_ptr, Nat.zero_add, rd1_mk h8, y1, optK_mk]
    refine outside_in hb2 ?_
    by_cases d2 : p < 0 ∨ n ≤ p
    · rw [decide_eq_true d2]
      simp only [boolK_true, vc_spf_valid_j4, vc_spf_valid_j5, vc_spf_valid_j6, pickV_true, pickV_false, optK_mk]
      exact stop _ _ rfl fun h => by have := okD h; omega
    rw [decide_eq_false d2]
    simp only [vc_spf_valid_j4, pickV_false, boolK_false, addOff_ptr, Nat.zero_add, rd1_mk h8, y0, y1, eqV_int, negB_mk, Bool.false_bne, optK_mk]
    cases d3 : (a == p) with
    | true =>
      have d3 : a = p := by simpa using d3
      simp only [vc_spf_valid_j5, vc_spf_valid_j6, boolK_true, pickV_true, pickV_false, optK_mk]
      exact stop _ _ rfl fun h => (okD h).2.2.1 d3
    | false =>
    have d3 : a ≠ p := by simpa using d3
    simp only [vc_spf_valid_j5, pickV_false, boolK_false, addOff_ptr, Nat.zero_add, rd1_mk h8, y2, arith_lss, optK_mk]
    by_cases d4 : c < 1
    · rw [decide_eq_true d4]
      simp only [vc_spf_valid_j6, boolK_true, pickV_true, pickV_false, optK_mk]
      exact stop _ _ rfl fun h => by have := okD h; omega
    rw [decide_eq_false d4]
    simp only [vc_spf_valid_j6, pickV_false, boolK_false, addOff_ptr, Nat.zero_add, rd1_mk h8, y2, arith_gtr, optK_mk]
    by_cases d5 : 1000 < c
    · rw [decide_eq_true d5]
      exact stop _ _ rfl fun h => by have := okD h; omega
    rw [decide_eq_false d5]
    simp only [vc_spf_valid_j7, pickV_false, boolK_false, arith_add, optK_mk]
    rw [wrap64 (by omega) (by omega)]
    refine ⟨_, by omega, i + 1, rfl, by omega, rfl, ht.trans subt, fun y hy => ?_⟩
    rw [List.take_add_one, hx] at hy
    rcases List.mem_append.1 hy with q | q
    · exact hq y q
    · have : y = (a, p, c) := by simpa using q
      rw [this]
      exact okI ⟨by omega, by omega, d3, by omega, by omega⟩
  · have hge : i = L.length := by have := of_decide_eq_false hge; omega
    subst hge
    rw [List.take_length] at hq
    refine ContainsF_in (ht _ _ h1) (he.sub ht1) hel fun r hr => ?_
    simp only [unary_not, optK_mk]
    refine hK t (!r) ht1 ?_
    have hv : vld n L U := ⟨by omega, by omega, by omega, by omega, hq⟩
    cases r with
    | true => exact ⟨(fun h => by cases h), fun h => absurd (hr.2 h.2) (by decide)⟩
    | false => exact ⟨fun _ => ⟨hv, hr.1 rfl⟩, fun _ => rfl⟩
end Go.AM
