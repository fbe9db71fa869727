/- Part D of a calculus over a small memory that is proved to answer as the program does, and of its use for the functions that the law reaches: see the last part. -/
import Derived.Test.YtboddampdcalfaaC
namespace Go.AM
open Go Go.Proofs
/-! ### flooding: the plain law -/
abbrev Msg := Int × Int × Rec
/-- what is stored is as new as a record -/
def Geq (o : Option Rec) (r : Rec) : Prop := ∃ w, o = some w ∧ cmpRR r w ≠ 1
def nwT (x : Rec) : Option Rec → Bool
  | none => true
  | some v => decide (cmpRR x v = 1)
def GeMono (o o' : Option Rec) : Prop := ∀ r, Geq o r → Geq o' r
theorem GeMono.refl (o : Option Rec) : GeMono o o := fun _ h => h
theorem cmp_lt {a b : Rec} (h : cmpRR a b = 1) : cmpRR b a ≠ 1 := by rw [cmpRR_neg, h]; decide
theorem cmp_le {a b : Rec} (h : cmpRR a b ≠ 1) (h2 : cmpRR a b ≠ 0) : cmpRR b a = 1 := by
  rcases cmpRR_vals a b with e | e | e
  · rw [cmpRR_neg, e]; rfl
  · exact absurd e h2
  · exact absurd e h
/-- newer than a newer one -/
theorem cmp_tr {a b c : Rec} (h1 : cmpRR a b = 1) (h2 : cmpRR c b ≠ 1) : cmpRR a c = 1 := by
  rcases cmpRR_vals a c with e | e | e
  · exact absurd h1 (cmpRR_trans (b := c) (by rw [e]; decide) h2)
  · exact absurd h1 (cmpRR_trans (b := c) (by rw [e]; decide) h2)
  · exact e
theorem Geq.self (r : Rec) : Geq (some r) r := ⟨r, rfl, by rw [cmpRR_refl]; decide⟩
theorem mono_some {o w : Rec} (h : cmpRR o w ≠ 1) : GeMono (some o) (some w) := fun r ⟨x, e, hx⟩ => by
  cases e
  exact ⟨w, rfl, cmpRR_trans hx h⟩
theorem mono_none (o : Option Rec) : GeMono none o := fun r ⟨x, e, _⟩ => by cases e
theorem nw_geq {x : Rec} {o : Option Rec} : nwT x o = true ↔ ¬ Geq o x := by
  cases o with
  | none => exact ⟨fun _ h => (by obtain ⟨w, e, _⟩ := h; cases e), fun _ => rfl⟩
  | some v =>
    unfold nwT
    rw [decide_eq_true_iff]
    constructor
    · rintro h ⟨w, e, hw⟩
      cases e; exact hw h
    · intro h
      exact Classical.byContradiction fun q => h ⟨v, rfl, q⟩
theorem GeMono.nw {x : Rec} {o o' : Option Rec} (h : GeMono o o') (hx : nwT x o' = true) : nwT x o = true := nw_geq.2 fun q => nw_geq.1 hx (h x q)
variable {node last : Int} {F : List (Int × Rec)}
/-- what receiving a record does where the own record is there -/
theorem recv_cases {r : Rec} (hc : chkR 8 r.1 r.2.1 r.2.2 = 0) (hg : GoodF 8 F) (ho : r.1 = node → ∃ o, look F node = some o) (hy : ∀ o, r.1 = node → look F node = some o → cmpRR r o = 1 → r.2.1 < 1073741824) :
    (look F r.1 = some r ∧ recvR 8 node last F r = ⟨last, F, 0, 0⟩) ∨
    (∃ o, look F r.1 = some o ∧ cmpRR r o = -1 ∧ recvR 8 node last F r = ⟨last, F, 2, 0⟩) ∨
    (r.1 ≠ node ∧ nwT r (look F r.1) = true ∧ recvR 8 node last F r = ⟨last, stor F r.1 r, 1, 0⟩) ∨
    (r.1 = node ∧ ∃ o, look F node = some o ∧ cmpRR r o = 1 ∧ recvR 8 node last F r = ⟨r.2.1 + 1, stor F node (node, r.2.1 + 1, o.2.2), 3, 0⟩) := by
  unfold recvR
  rw [if_neg (by simp [hc])]
  cases e : look F r.1 with
  | none =>
    have hn : r.1 ≠ node := fun q => by
      obtain ⟨o, h⟩ := ho q
      rw [q, h] at e; cases e
    simp only [if_neg hn]
    exact .inr (.inr (.inl ⟨hn, rfl, trivial⟩))
  | some o =>
    have h1 := (hg _ _ e).1
    simp only
    rcases cmpRR_vals r o with hv | hv | hv
    · have hv' : cmpR r.2.1 o.2.1 r.2.2 o.2.2 = -1 := hv
      rw [if_pos hv']
      exact .inr (.inl ⟨o, rfl, hv, rfl⟩)
    · have hv' : cmpR r.2.1 o.2.1 r.2.2 o.2.2 = 0 := hv
      rw [if_neg (by rw [hv']; decide), if_neg (by rw [hv']; decide)]
      have := cmpRR_zero hv h1.symm
      exact .inl ⟨by rw [this], rfl⟩
    · have hv' : cmpR r.2.1 o.2.1 r.2.2 o.2.2 = 1 := hv
      rw [if_neg (by rw [hv']; decide), if_pos hv']
      by_cases hn : r.1 = node
      · have e2 : look F node = some o := by rw [← hn]; exact e
        have := hy o hn e2 hv
        rw [if_pos hn, if_neg (by omega)]
        exact .inr (.inr (.inr ⟨hn, o, e2, hv, rfl⟩))
      · rw [if_neg hn]
        exact .inr (.inr (.inl ⟨hn, by unfold nwT; exact decide_eq_true hv, rfl⟩))
/-! ### sums -/
theorem sum_le {α : Type} {f g : α → Nat} : ∀ {l : List α}, (∀ x ∈ l, f x ≤ g x) → (l.map f).sum ≤ (l.map g).sum := by
  intro l
  induction l with
  | nil => intro _; exact Nat.le_refl _
  | cons a l ih =>
    intro h
    have := ih fun x hx => h x (by simp [hx])
    have := h a (by simp)
    simp only [List.map_cons, List.sum_cons]
    omega
theorem sum_lt {α : Type} {f g : α → Nat} {y : α} : ∀ {l : List α}, (∀ x ∈ l, f x ≤ g x) → y ∈ l → f y + 1 ≤ g y → (l.map f).sum + 1 ≤ (l.map g).sum := by
  intro l
  induction l with
  | nil => intro _ h; cases h
  | cons a l ih =>
    intro h hy h1
    simp only [List.map_cons, List.sum_cons]
    rcases List.mem_cons.1 hy with e | e
    · have := sum_le (l := l) fun x hx => h x (by simp [hx])
      rw [e] at h1
      omega
    · have := ih (fun x hx => h x (by simp [hx])) e h1
      have := h a (by simp)
      omega
theorem sum_const {α : Type} {f : α → Nat} {c : Nat} : ∀ {l : List α}, (∀ x ∈ l, f x ≤ c) → (l.map f).sum ≤ l.length * c := by
  intro l
  induction l with
  | nil => intro _; simp
  | cons a l ih =>
    intro h
    have := ih fun x hx => h x (by simp [hx])
    have := h a (by simp)
    simp only [List.map_cons, List.sum_cons, List.length_cons, Nat.succ_mul]
    omega
theorem sum_succ {α : Type} {f : α → Nat} : ∀ {l : List α}, (l.map fun x => f x + 1).sum = (l.map f).sum + l.length := by
  intro l
  induction l with
  | nil => rfl
  | cons a l ih => simp only [List.map_cons, List.sum_cons, ih, List.length_cons]; omega
theorem cnt_le {α : Type} {p q : α → Bool} : ∀ {l : List α}, (∀ x ∈ l, p x = true → q x = true) → l.countP p ≤ l.countP q := by
  intro l
  induction l with
  | nil => intro _; exact Nat.le_refl _
  | cons a l ih =>
    intro h
    have h1 := ih fun x hx => h x (by simp [hx])
    rw [List.countP_cons, List.countP_cons]
    by_cases e : p a = true
    · rw [if_pos e, if_pos (h a (by simp) e)]; omega
    · rw [if_neg e]; split <;> omega
theorem cnt_lt {α : Type} {p q : α → Bool} {y : α} : ∀ {l : List α}, (∀ x ∈ l, p x = true → q x = true) → y ∈ l → p y = false → q y = true → l.countP p + 1 ≤ l.countP q := by
  intro l
  induction l with
  | nil => intro _ h; cases h
  | cons a l ih =>
    intro h hy h1 h2
    rw [List.countP_cons, List.countP_cons]
    rcases List.mem_cons.1 hy with e | e
    · have := cnt_le (l := l) fun x hx => h x (by simp [hx])
      rw [← e, h1, h2]
      simp only [Bool.false_eq_true, if_false, if_true]; omega
    · have h3 := ih (fun x hx => h x (by simp [hx])) e h1 h2
      by_cases e : p a = true
      · rw [if_pos e, if_pos (h a (by simp) e)]; omega
      · rw [if_neg e]; split <;> omega
/-! ### what is sent -/
def sprd (jn : Int → Int → Bool) (n e : Int) (rs : List Rec) : List Msg := (List.range 8).flatMap fun k : Nat => if (k : Int) ≠ n ∧ (k : Int) ≠ e ∧ jn n k = true then rs.map fun r => (n, (k : Int), r) else []
theorem mem_sprd {jn : Int → Int → Bool} {n e : Int} {rs : List Rec} {m : Msg} : m ∈ sprd jn n e rs ↔ ∃ k : Nat, k < 8 ∧ ((k : Int) ≠ n ∧ (k : Int) ≠ e ∧ jn n k = true) ∧ ∃ r ∈ rs, m = (n, (k : Int), r) := by
  unfold sprd
  rw [List.mem_flatMap]
  constructor
  · rintro ⟨k, hk, hm⟩
    by_cases c : (k : Int) ≠ n ∧ (k : Int) ≠ e ∧ jn n k = true
    · rw [if_pos c] at hm
      obtain ⟨r, hr, e⟩ := List.mem_map.1 hm
      exact ⟨k, List.mem_range.1 hk, c, r, hr, e.symm⟩
    · rw [if_neg c] at hm; cases hm
  · rintro ⟨k, hk, c, r, hr, e⟩
    exact ⟨k, List.mem_range.2 hk, by rw [if_pos c]; exact List.mem_map.2 ⟨r, hr, e.symm⟩⟩
theorem len_flat {α β : Type} {f : α → List β} {c : Nat} : ∀ {l : List α}, (∀ x ∈ l, (f x).length ≤ c) → (l.flatMap f).length ≤ l.length * c := by
  intro l
  induction l with
  | nil => intro _; simp
  | cons a l ih =>
    intro h
    have := ih fun x hx => h x (by simp [hx])
    have := h a (by simp)
    rw [List.flatMap_cons, List.length_append, List.length_cons, Nat.succ_mul]
    omega
theorem sprd_len {jn : Int → Int → Bool} {n e : Int} {rs : List Rec} : (sprd jn n e rs).length ≤ 8 * rs.length := by
  have := len_flat (l := List.range 8) (f := fun k : Nat => if (k : Int) ≠ n ∧ (k : Int) ≠ e ∧ jn n k = true then rs.map fun r => (n, (k : Int), r) else []) (c := rs.length) fun k _ => by
    split
    · rw [List.length_map]; exact Nat.le_refl _
    · exact Nat.zero_le _
  rw [List.length_range] at this
  exact this
end Go.AM
namespace Go.AM
open Go Go.Proofs
variable {jn : Int → Int → Bool} {l A : List Rec} {X : Nat → St13} {ms : List Msg}
structure Flo (jn : Int → Int → Bool) (l A : List Rec) (X : Nat → St13) (ms : List Msg) : Prop where
  gd : ∀ d, d < 8 → GoodF 8 (X d).F
  ow : ∀ d : Nat, d < 8 → ∃ q, look (X d).F (d : Int) = some ((d : Int), q, [(d : Int)])
  cur : ∀ d, d < 8 → ∀ k r, look (X d).F k = some r → r ∈ A
  ver : ∀ v ∈ A, 0 ≤ v.1 → v.1 < 8 → v ∈ l ∨ Geq (look (X v.1.toNat).F v.1) v
  msg : ∀ m ∈ ms, ∃ f t : Nat, f < 8 ∧ t < 8 ∧ m.1 = f ∧ m.2.1 = t ∧ m.2.2 ∈ A ∧ chkR 8 m.2.2.1 m.2.2.2.1 m.2.2.2.2 = 0 ∧ Geq (look (X f).F m.2.2.1) m.2.2
  agr : ∀ a b : Nat, a < 8 → b < 8 → a ≠ b → jn a b = true → ∀ k r, look (X a).F k = some r → Geq (look (X b).F k) r ∨ ((a : Int), (b : Int), r) ∈ ms
def wtM (A : List Rec) (P : Nat) (m : Msg) : Nat := 1 + A.countP (fun x => nwT x (some m.2.2)) + P
def PP (l : List Rec) (X : Nat → St13) : Nat := l.countP fun x => nwT x (look (X x.1.toNat).F x.1)
def Psi (A : List Rec) (F : List (Int × Rec)) : Nat := A.countP fun x => nwT x (look F x.1)
def PsiS (A : List Rec) (X : Nat → St13) : Nat := ((List.range 8).map fun d => Psi A (X d).F).sum
def Phi (l A : List Rec) (X : Nat → St13) (ms : List Msg) : Nat := (ms.map (wtM A (PP l X))).sum + 392 * (PsiS A X + 8 * PP l X)
theorem wtM_le {P : Nat} {m : Msg} : wtM A P m ≤ 1 + A.length + P := by
  have := List.countP_le_length (p := fun x => nwT x (some m.2.2)) (l := A)
  unfold wtM; omega
def updD (X : Nat → St13) (t : Nat) (y : St13) : Nat → St13 := fun d => if d = t then y else X d
theorem updD_same {t : Nat} {y : St13} : updD X t y t = y := if_pos rfl
theorem updD_ne {t d : Nat} {y : St13} (h : d ≠ t) : updD X t y d = X d := if_neg h
/-- what is known of a database after another one -/
theorem updD_mono {t : Nat} {y : St13} (h : ∀ k, GeMono (look (X t).F k) (look y.F k)) (d : Nat) (k : Int) : GeMono (look (X d).F k) (look (updD X t y d).F k) := by
  by_cases e : d = t
  · rw [e, updD_same]; exact h k
  · rw [updD_ne e]; exact .refl _
theorem PP_mono {t : Nat} {y : St13} (h : ∀ k, GeMono (look (X t).F k) (look y.F k)) : PP l (updD X t y) ≤ PP l X := cnt_le fun _ _ hx => (updD_mono h _ _).nw hx
/-- the parts of an invariant that hold after any step that makes a database newer -/
theorem flo_step {A' : List Rec} {t : Nat} {y : St13} {f : Nat} {r : Rec} {m1 m2 nw : List Msg} (z : Flo jn l A X (m1 ++ ((f : Int), (t : Int), r) :: m2)) (ht : t < 8) (hA : ∀ x ∈ A, x ∈ A') (hm : ∀ k, GeMono (look (X t).F k) (look y.F k)) (hg : GoodF 8 y.F)
    (how : ∃ q, look y.F (t : Int) = some ((t : Int), q, [(t : Int)])) (hcur : ∀ k x, look y.F k = some x → x ∈ A') (hver : ∀ v ∈ A', v ∈ A ∨ (v.1 = (t : Int) ∧ Geq (look y.F v.1) v)) (hr : Geq (look y.F r.1) r)
    (hnw : ∀ m ∈ nw, ∃ b : Nat, b < 8 ∧ m.1 = t ∧ m.2.1 = b ∧ look y.F m.2.2.1 = some m.2.2)
    (hagr : ∀ b : Nat, b < 8 → t ≠ b → jn t b = true → ∀ k x, look y.F k = some x → look (X t).F k = some x ∨ Geq (look (X b).F k) x ∨ ((t : Int), (b : Int), x) ∈ nw) :
    Flo jn l A' (updD X t y) (m1 ++ m2 ++ nw) := by
  have um := updD_mono (X := X) hm
  have sub : ∀ m, m ∈ m1 ++ m2 → m ∈ m1 ++ ((f : Int), (t : Int), r) :: m2 := fun m h => by
    rcases List.mem_append.1 h with h | h
    · exact List.mem_append.2 (.inl h)
    · exact List.mem_append.2 (.inr (List.mem_cons_of_mem _ h))
  refine ⟨fun d hd => ?_, fun d hd => ?_, fun d hd k x hx => ?_, fun v hv h0 h8 => ?_, fun m hm => ?_, fun a b ha hb hab hj k x hx => ?_⟩
  · by_cases e : d = t
    · rw [e, updD_same]; exact hg
    · rw [updD_ne e]; exact z.gd d hd
  · by_cases e : d = t
    · rw [e, updD_same]; exact how
    · rw [updD_ne e]; exact z.ow d hd
  · by_cases e : d = t
    · rw [e, updD_same] at hx; exact hcur k x hx
    · rw [updD_ne e] at hx; exact hA x (z.cur d hd k x hx)
  · rcases hver v hv with h | ⟨h1, h2⟩
    · rcases z.ver v h h0 h8 with h | h
      · exact .inl h
      · exact .inr (um _ _ v h)
    · refine .inr ?_
      rw [show v.1.toNat = t by omega, updD_same]; exact h2
  · rcases List.mem_append.1 hm with hm | hm
    · obtain ⟨f', t', h1, h2, h3, h4, h5, h6, h7⟩ := z.msg m (sub m hm)
      exact ⟨f', t', h1, h2, h3, h4, hA _ h5, h6, um _ _ _ h7⟩
    · obtain ⟨b, h1, h2, h3, h4⟩ := hnw m hm
      refine ⟨t, b, ht, h1, h2, h3, hcur _ _ h4, (hg _ _ h4).2, ?_⟩
      rw [updD_same, h4]; exact .self _
  · by_cases e : a = t
    · rw [e, updD_same] at hx
      rw [e] at hab hj ⊢
      rcases hagr b hb hab hj k x hx with h | h | h
      · rcases z.agr t b ht hb hab hj k x h with h | h
        · exact .inl (um _ _ _ h)
        · refine .inr ?_
          rcases List.mem_append.1 h with h | h
          · exact List.mem_append.2 (.inl (List.mem_append.2 (.inl h)))
          · rcases List.mem_cons.1 h with h | h
            · cases h; exact absurd rfl hab
            · exact List.mem_append.2 (.inl (List.mem_append.2 (.inr h)))
      · exact .inl (um _ _ _ h)
      · exact .inr (List.mem_append.2 (.inr h))
    · rw [updD_ne e] at hx
      rcases z.agr a b ha hb hab hj k x hx with h | h
      · exact .inl (um _ _ _ h)
      · have kx := (z.gd a ha k x hx).1
        rcases List.mem_append.1 h with h | h
        · exact .inr (List.mem_append.2 (.inl (List.mem_append.2 (.inl h))))
        · rcases List.mem_cons.1 h with h | h
          · simp only [Prod.mk.injEq] at h
            obtain ⟨h1, h2, h3⟩ := h
            have hbt : b = t := by omega
            subst h3
            rw [hbt, updD_same, ← kx]
            exact .inl hr
          · exact .inr (List.mem_append.2 (.inl (List.mem_append.2 (.inr h))))
theorem sum_app {α : Type} {f : α → Nat} {a b : List α} : ((a ++ b).map f).sum = (a.map f).sum + (b.map f).sum := by
  induction a with
  | nil => simp
  | cons x a ih => simp only [List.cons_append, List.map_cons, List.sum_cons, ih]; omega
theorem stor_mono {F : List (Int × Rec)} {n : Int} {w : Rec} (h : nwT w (look F n) = true) (k : Int) : GeMono (look F k) (look (stor F n w) k) := by
  rw [look_stor]
  by_cases e : k = n
  · rw [if_pos e, e]
    cases q : look F n with
    | none => exact mono_none _
    | some o =>
      rw [q] at h
      exact mono_some (cmp_lt (of_decide_eq_true h))
  · rw [if_neg e]; exact .refl _
/-- one message: what it leads to, and why this ends -/
theorem turn13 {f t : Nat} {r : Rec} {m1 m2 : List Msg} (z : Flo jn l A X (m1 ++ ((f : Int), (t : Int), r) :: m2)) (hy : ∀ x ∈ l, x.2.1 < 536870912) (hb : A.length + PP l X ≤ 48) :
    (recvR 8 t (X t).last (X t).F r).err = 0 ∧ ∃ c, look (recvR 8 t (X t).last (X t).F r).F r.1 = some c ∧ ∃ A', 
      Flo jn l A' (updD X t ⟨(recvR 8 t (X t).last (X t).F r).last, (recvR 8 t (X t).last (X t).F r).F⟩) (m1 ++ m2 ++ (if (recvR 8 t (X t).last (X t).F r).code = 1 then sprd jn t f [c] else if (recvR 8 t (X t).last (X t).F r).code = 3 then sprd jn t (-1) [c] else if (recvR 8 t (X t).last (X t).F r).code = 2 then [((t : Int), (f : Int), c)] else [])) ∧
      A'.length + PP l (updD X t ⟨(recvR 8 t (X t).last (X t).F r).last, (recvR 8 t (X t).last (X t).F r).F⟩) ≤ 48 ∧
      Phi l A' (updD X t ⟨(recvR 8 t (X t).last (X t).F r).last, (recvR 8 t (X t).last (X t).F r).F⟩) (m1 ++ m2 ++ (if (recvR 8 t (X t).last (X t).F r).code = 1 then sprd jn t f [c] else if (recvR 8 t (X t).last (X t).F r).code = 3 then sprd jn t (-1) [c] else if (recvR 8 t (X t).last (X t).F r).code = 2 then [((t : Int), (f : Int), c)] else [])) + 1 ≤ Phi l A X (m1 ++ ((f : Int), (t : Int), r) :: m2) := by
  obtain ⟨f', t', hf, ht, e1, e2, hrA, hc, hrf⟩ := z.msg _ (List.mem_append.2 (.inr (List.mem_cons_self)))
  have e1 : f = f' := by have : ((f : Int)) = f' := e1; omega
  have e2 : t = t' := by have : ((t : Int)) = t' := e2; omega
  subst e1; subst e2
  have hrA : r ∈ A := hrA
  have hc : chkR 8 r.1 r.2.1 r.2.2 = 0 := hc
  have hrf : Geq (look (X f).F r.1) r := hrf
  have hrg := chkR_rg hc
  obtain ⟨q0, how⟩ := z.ow t ht
  have inl : ∀ o, r.1 = (t : Int) → look (X t).F (t : Int) = some o → cmpRR r o = 1 → r ∈ l := fun o h1 h2 h3 => by
    rcases z.ver r hrA hrg.1.1 hrg.1.2 with h | ⟨w, h, h4⟩
    · exact h
    · rw [show r.1.toNat = t by omega, h1, h2] at h
      cases h; exact absurd h3 h4
  have hcs := recv_cases (node := t) (last := (X t).last) hc (z.gd t ht) (fun _ => ⟨_, how⟩) fun o h1 h2 h3 => by have := hy r (inl o h1 h2 h3); omega
  have sub : ∀ m, m ∈ m1 ++ m2 → m ∈ m1 ++ ((f : Int), (t : Int), r) :: m2 := fun m h => by
    rcases List.mem_append.1 h with h | h
    · exact List.mem_append.2 (.inl h)
    · exact List.mem_append.2 (.inr (List.mem_cons_of_mem _ h))
  have phi0 : ∀ P, ((m1 ++ ((f : Int), (t : Int), r) :: m2).map (wtM A P)).sum = ((m1 ++ m2).map (wtM A P)).sum + wtM A P ((f : Int), (t : Int), r) := fun P => by
    rw [sum_app, sum_app, List.map_cons, List.sum_cons]; omega
  have wpos : ∀ P m, 1 ≤ wtM A P m := fun P m => by unfold wtM; omega
  have Xsame : updD X t ⟨(X t).last, (X t).F⟩ = X := by
    funext d
    by_cases e : d = t
    · rw [e, updD_same]
    · rw [updD_ne e]
  rcases hcs with ⟨h1, hG⟩ | ⟨o, h1, h2, hG⟩ | ⟨h1, h2, hG⟩ | ⟨h1, o, h2, h3, hG⟩
  · -- the same one
    rw [hG]
    refine ⟨rfl, r, h1, A, ?_, ?_, ?_⟩
    · exact flo_step z ht (fun x h => h) (fun k => .refl _) (z.gd t ht) ⟨_, how⟩ (z.cur t ht) (fun v h => .inl h) (by rw [h1]; exact .self _) (by simp) fun b hb hn hj k x hx => .inl hx
    · rw [Xsame]; exact hb
    · rw [Xsame]
      unfold Phi
      rw [phi0]
      have := wpos (PP l X) ((f : Int), (t : Int), r)
      simp only [Int.reduceEq, if_false, List.append_nil]
      have e0 : ((0 : Int) = 1) = False := by simp
      simp
      omega
  · -- an older one
    have hoA := z.cur t ht _ _ h1
    rw [hG]
    refine ⟨rfl, o, h1, A, ?_, ?_, ?_⟩
    · refine flo_step z ht (fun x h => h) (fun k => .refl _) (z.gd t ht) ⟨_, how⟩ (z.cur t ht) (fun v h => .inl h) (by rw [h1]; exact ⟨o, rfl, by rw [h2]; decide⟩) (fun m hm => ?_) fun b hb hn hj k x hx => .inl hx
      have hm : m = ((t : Int), (f : Int), o) := by simpa using hm
      subst hm
      refine ⟨f, hf, rfl, rfl, ?_⟩
      rw [show o.1 = r.1 from (z.gd t ht _ _ h1).1]; exact h1
    · rw [Xsame]; exact hb
    · rw [Xsame]
      unfold Phi
      rw [phi0, sum_app]
      have hw : wtM A (PP l X) ((t : Int), (f : Int), o) + 1 ≤ wtM A (PP l X) ((f : Int), (t : Int), r) := by
        unfold wtM
        have hor : cmpRR o r = 1 := by rw [cmpRR_neg, h2]; rfl
        have := cnt_lt (l := A) (p := fun x => nwT x (some o)) (q := fun x => nwT x (some r)) (y := o) (fun x _ hx => by
          have hx : cmpRR x o = 1 := of_decide_eq_true hx
          exact decide_eq_true (cmp_tr hx (cmp_lt hor))) hoA (decide_eq_false (by rw [cmpRR_refl]; decide)) (decide_eq_true hor)
        show 1 + A.countP (fun x => nwT x (some o)) + PP l X + 1 ≤ 1 + A.countP (fun x => nwT x (some r)) + PP l X
        omega
      simp
      omega
  · -- a new one
    have hmono := stor_mono (w := r) h2
    have lk : look (stor (X t).F r.1 r) r.1 = some r := by rw [look_stor, if_pos rfl]
    rw [hG]
    have hP : PP l (updD X t ⟨(X t).last, stor (X t).F r.1 r⟩) ≤ PP l X := PP_mono (y := ⟨(X t).last, stor (X t).F r.1 r⟩) hmono
    refine ⟨rfl, r, lk, A, ?_, Nat.le_trans (Nat.add_le_add_left hP _) hb, ?_⟩
    · refine flo_step (y := ⟨(X t).last, stor (X t).F r.1 r⟩) z ht (fun x h => h) hmono (fun k x hx => ?_) ⟨q0, ?_⟩ (fun k x hx => ?_) (fun v h => .inl h) (by show Geq (look (stor (X t).F r.1 r) r.1) r; rw [lk]; exact .self _) (fun m hm => ?_) fun b hb hn hj k x hx => ?_
      · have hx : look (stor (X t).F r.1 r) k = some x := hx
        rw [look_stor] at hx
        split at hx
        · rename_i e; cases hx; exact ⟨e.symm, hc⟩
        · exact z.gd t ht k x hx
      · show look (stor (X t).F r.1 r) (t : Int) = _
        rw [look_stor, if_neg (Ne.symm h1)]; exact how
      · have hx : look (stor (X t).F r.1 r) k = some x := hx
        rw [look_stor] at hx
        split at hx
        · cases hx; exact hrA
        · exact z.cur t ht k x hx
      · have hm : m ∈ sprd jn t f [r] := by simpa using hm
        obtain ⟨b, hb, _, r', hr', e⟩ := mem_sprd.1 hm
        have : r' = r := by simpa using hr'
        subst this; subst e
        exact ⟨b, hb, rfl, rfl, lk⟩
      · have hx : look (stor (X t).F r.1 r) k = some x := hx
        rw [look_stor] at hx
        split at hx
        · rename_i e
          cases hx
          by_cases ebf : b = f
          · rw [ebf, e]; exact .inr (.inl hrf)
          · refine .inr (.inr ?_)
            have : ((t : Int), (b : Int), r) ∈ sprd jn t f [r] := mem_sprd.2 ⟨b, hb, ⟨by omega, by omega, hj⟩, r, by simp, rfl⟩
            simpa using this
        · exact .inl hx
    · have hPsi : PsiS A (updD X t ⟨(X t).last, stor (X t).F r.1 r⟩) + 1 ≤ PsiS A X := by
        unfold PsiS
        refine sum_lt (y := t) (fun d _ => ?_) (List.mem_range.2 ht) ?_
        · exact cnt_le fun x _ hx => (updD_mono (X := X) (y := ⟨(X t).last, stor (X t).F r.1 r⟩) hmono d x.1).nw hx
        · rw [updD_same]
          refine cnt_lt (y := r) (fun x _ hx => (hmono x.1).nw hx) hrA ?_ h2
          show nwT r (look (stor (X t).F r.1 r) r.1) = false
          rw [lk]; exact decide_eq_false (by rw [cmpRR_refl]; decide)
      have hold : ((m1 ++ m2).map (wtM A (PP l (updD X t ⟨(X t).last, stor (X t).F r.1 r⟩)))).sum ≤ ((m1 ++ m2).map (wtM A (PP l X))).sum := sum_le fun m _ => by unfold wtM; omega
      have hnew : ((sprd jn t f [r]).map (wtM A (PP l (updD X t ⟨(X t).last, stor (X t).F r.1 r⟩)))).sum ≤ 392 := by
        have h1 := sum_const (l := sprd jn t f [r]) (f := wtM A (PP l (updD X t ⟨(X t).last, stor (X t).F r.1 r⟩))) (c := 49) fun m _ => by
          have := wtM_le (A := A) (P := PP l (updD X t ⟨(X t).last, stor (X t).F r.1 r⟩)) (m := m)
          omega
        have h2 := sprd_len (jn := jn) (n := t) (e := f) (rs := [r])
        have h3 : (sprd jn t f [r]).length * 49 ≤ 8 * 49 := Nat.mul_le_mul_right _ h2
        omega
      have w1 := wpos (PP l X) ((f : Int), (t : Int), r)
      unfold Phi
      rw [phi0, sum_app]
      generalize PP l (updD X t ⟨(X t).last, stor (X t).F r.1 r⟩) = P' at *
      generalize PsiS A (updD X t ⟨(X t).last, stor (X t).F r.1 r⟩) = S' at *
      simp only [if_true]
      omega
  · -- one's own, from an earlier life
    rw [how] at h2
    have ho : o = ((t : Int), q0, [(t : Int)]) := by cases h2; rfl
    subst ho
    have hrl := inl _ h1 how h3
    have hseq := hy r hrl
    have hwr : cmpRR ((t : Int), r.2.1 + 1, [(t : Int)]) r = 1 := cmpRR_lt (by show r.2.1 < r.2.1 + 1; omega)
    have hwo : nwT ((t : Int), r.2.1 + 1, [(t : Int)]) (look (X t).F (t : Int)) = true := by
      rw [how]; exact decide_eq_true (cmp_tr hwr (cmp_lt h3))
    have hmono := stor_mono hwo
    have lk : look (stor (X t).F (t : Int) ((t : Int), r.2.1 + 1, [(t : Int)])) (t : Int) = some ((t : Int), r.2.1 + 1, [(t : Int)]) := by rw [look_stor, if_pos rfl]
    have lkr : look (stor (X t).F (t : Int) ((t : Int), r.2.1 + 1, [(t : Int)])) r.1 = some ((t : Int), r.2.1 + 1, [(t : Int)]) := by rw [h1]; exact lk
    have hgood : GoodF 8 (stor (X t).F (t : Int) ((t : Int), r.2.1 + 1, [(t : Int)])) := by
      have := good_step (node := (t : Int)) (last := (X t).last) (z.gd t ht) hc
      rw [hG] at this; exact this
    rw [hG]
    have hP : PP l (updD X t ⟨r.2.1 + 1, stor (X t).F (t : Int) ((t : Int), r.2.1 + 1, [(t : Int)])⟩) + 1 ≤ PP l X := by
      refine cnt_lt (y := r) (fun x _ hx => (updD_mono (X := X) (y := ⟨r.2.1 + 1, stor (X t).F (t : Int) ((t : Int), r.2.1 + 1, [(t : Int)])⟩) hmono _ _).nw hx) hrl ?_ ?_
      · rw [show r.1.toNat = t by omega, updD_same]
        show nwT r (look (stor (X t).F (t : Int) ((t : Int), r.2.1 + 1, [(t : Int)])) r.1) = false
        rw [lkr]; exact decide_eq_false (cmp_lt hwr)
      · rw [show r.1.toNat = t by omega, h1, how]
        exact decide_eq_true h3
    refine ⟨rfl, _, lkr, ((t : Int), r.2.1 + 1, [(t : Int)]) :: A, ?_, ?_, ?_⟩
    · refine flo_step (y := ⟨r.2.1 + 1, stor (X t).F (t : Int) ((t : Int), r.2.1 + 1, [(t : Int)])⟩) z ht (fun x h => List.mem_cons_of_mem _ h) hmono hgood ⟨_, lk⟩ (fun k x hx => ?_) (fun v h => ?_) ?_ (fun m hm => ?_) fun b hb hn hj k x hx => ?_
      · have hx : look (stor (X t).F (t : Int) ((t : Int), r.2.1 + 1, [(t : Int)])) k = some x := hx
        rw [look_stor] at hx
        split at hx
        · cases hx; exact List.mem_cons_self
        · exact List.mem_cons_of_mem _ (z.cur t ht k x hx)
      · rcases List.mem_cons.1 h with e | e
        · refine .inr ⟨by rw [e], ?_⟩
          rw [e]
          show Geq (look (stor (X t).F (t : Int) ((t : Int), r.2.1 + 1, [(t : Int)])) (t : Int)) _
          rw [lk]; exact .self _
        · exact .inl e
      · show Geq (look (stor (X t).F (t : Int) ((t : Int), r.2.1 + 1, [(t : Int)])) r.1) r
        rw [lkr]; exact ⟨_, rfl, cmp_lt hwr⟩
      · have hm : m ∈ sprd jn t (-1) [((t : Int), r.2.1 + 1, [(t : Int)])] := by simpa using hm
        obtain ⟨b, hb, _, r', hr', e⟩ := mem_sprd.1 hm
        have : r' = ((t : Int), r.2.1 + 1, [(t : Int)]) := by simpa using hr'
        subst this; subst e
        exact ⟨b, hb, rfl, rfl, lk⟩
      · have hx : look (stor (X t).F (t : Int) ((t : Int), r.2.1 + 1, [(t : Int)])) k = some x := hx
        rw [look_stor] at hx
        split at hx
        · cases hx
          refine .inr (.inr ?_)
          have : ((t : Int), (b : Int), ((t : Int), r.2.1 + 1, [(t : Int)])) ∈ sprd jn t (-1) [((t : Int), r.2.1 + 1, [(t : Int)])] := mem_sprd.2 ⟨b, hb, ⟨by omega, by omega, hj⟩, _, List.mem_singleton.2 rfl, rfl⟩
          simpa using this
        · exact .inl hx
    · show A.length + 1 + PP l (updD X t ⟨r.2.1 + 1, stor (X t).F (t : Int) ((t : Int), r.2.1 + 1, [(t : Int)])⟩) ≤ 48
      omega
    · have hPsi : PsiS (((t : Int), r.2.1 + 1, [(t : Int)]) :: A) (updD X t ⟨r.2.1 + 1, stor (X t).F (t : Int) ((t : Int), r.2.1 + 1, [(t : Int)])⟩) + 1 ≤ PsiS A X + 8 := by
        have e8 : ((List.range 8).map fun d => Psi A (X d).F + 1).sum = PsiS A X + 8 := by rw [sum_succ]; rfl
        rw [← e8]
        unfold PsiS
        refine sum_lt (y := t) (fun d _ => ?_) (List.mem_range.2 ht) ?_
        · unfold Psi
          rw [List.countP_cons]
          have := cnt_le (l := A) (p := fun x => nwT x (look (updD X t ⟨r.2.1 + 1, stor (X t).F (t : Int) ((t : Int), r.2.1 + 1, [(t : Int)])⟩ d).F x.1)) (q := fun x => nwT x (look (X d).F x.1)) fun x _ hx => (updD_mono (X := X) (y := ⟨r.2.1 + 1, stor (X t).F (t : Int) ((t : Int), r.2.1 + 1, [(t : Int)])⟩) hmono d x.1).nw hx
          split <;> omega
        · rw [updD_same]
          unfold Psi
          rw [List.countP_cons]
          have e0 : nwT ((t : Int), r.2.1 + 1, [(t : Int)]) (look (stor (X t).F (t : Int) ((t : Int), r.2.1 + 1, [(t : Int)])) (t : Int)) = false := by
            rw [lk]; exact decide_eq_false (by rw [cmpRR_refl]; decide)
          have := cnt_lt (l := A) (y := r) (p := fun x => nwT x (look (stor (X t).F (t : Int) ((t : Int), r.2.1 + 1, [(t : Int)])) x.1)) (q := fun x => nwT x (look (X t).F x.1)) (fun x _ hx => (hmono x.1).nw hx) hrA (by
            show nwT r (look (stor (X t).F (t : Int) ((t : Int), r.2.1 + 1, [(t : Int)])) r.1) = false
            rw [lkr]; exact decide_eq_false (cmp_lt hwr)) (by
            show nwT r (look (X t).F r.1) = true
            rw [h1, how]; exact decide_eq_true h3)
          have e1 : (if nwT ((t : Int), r.2.1 + 1, [(t : Int)]) (look (stor (X t).F (t : Int) ((t : Int), r.2.1 + 1, [(t : Int)])) (t : Int)) = true then 1 else 0) = 0 := by rw [e0]; rfl
          simp only [e1]
          omega
      have hw : ∀ m, wtM (((t : Int), r.2.1 + 1, [(t : Int)]) :: A) (PP l (updD X t ⟨r.2.1 + 1, stor (X t).F (t : Int) ((t : Int), r.2.1 + 1, [(t : Int)])⟩)) m ≤ wtM A (PP l X) m := fun m => by
        unfold wtM
        rw [List.countP_cons]
        split <;> omega
      have hold : ((m1 ++ m2).map (wtM (((t : Int), r.2.1 + 1, [(t : Int)]) :: A) (PP l (updD X t ⟨r.2.1 + 1, stor (X t).F (t : Int) ((t : Int), r.2.1 + 1, [(t : Int)])⟩)))).sum ≤ ((m1 ++ m2).map (wtM A (PP l X))).sum := sum_le fun m _ => hw m
      have hnew : ((sprd jn t (-1) [((t : Int), r.2.1 + 1, [(t : Int)])]).map (wtM (((t : Int), r.2.1 + 1, [(t : Int)]) :: A) (PP l (updD X t ⟨r.2.1 + 1, stor (X t).F (t : Int) ((t : Int), r.2.1 + 1, [(t : Int)])⟩)))).sum ≤ 392 := by
        have h1 := sum_const (l := sprd jn t (-1) [((t : Int), r.2.1 + 1, [(t : Int)])]) (f := wtM (((t : Int), r.2.1 + 1, [(t : Int)]) :: A) (PP l (updD X t ⟨r.2.1 + 1, stor (X t).F (t : Int) ((t : Int), r.2.1 + 1, [(t : Int)])⟩))) (c := 49) fun m _ => by
          have := wtM_le (A := A) (P := PP l X) (m := m)
          have := hw m
          omega
        have h2 := sprd_len (jn := jn) (n := t) (e := -1) (rs := [((t : Int), r.2.1 + 1, [(t : Int)])])
        have h3 : (sprd jn t (-1) [((t : Int), r.2.1 + 1, [(t : Int)])]).length * 49 ≤ 8 * 49 := Nat.mul_le_mul_right _ h2
        omega
      have w1 := wpos (PP l X) ((f : Int), (t : Int), r)
      unfold Phi
      rw [phi0]
      have e3 : ((3 : Int) = 1) = False := by simp
      simp only [e3, if_false, if_true]
      rw [sum_app]
      generalize PP l (updD X t ⟨r.2.1 + 1, stor (X t).F (t : Int) ((t : Int), r.2.1 + 1, [(t : Int)])⟩) = P' at *
      generalize PsiS (((t : Int), r.2.1 + 1, [(t : Int)]) :: A) (updD X t ⟨r.2.1 + 1, stor (X t).F (t : Int) ((t : Int), r.2.1 + 1, [(t : Int)])⟩) = S' at *
      omega
end Go.AM
namespace Go.AM
open Go Go.Proofs
variable {jn : Int → Int → Bool} {l A : List Rec} {X : Nat → St13} {ms : List Msg}
theorem mem_allR {F : List (Int × Rec)} {r : Rec} : r ∈ allR F ↔ ∃ k, look F k = some r := by
  unfold allR
  rw [List.mem_filterMap]
  constructor
  · rintro ⟨k, _, h⟩; exact ⟨k, h⟩
  · rintro ⟨k, h⟩
    refine ⟨k, (sortI_perm _).mem_iff.2 ?_, h⟩
    exact Classical.byContradiction fun q => by rw [look_none.2 q] at h; cases h
theorem allR_len8 {F : List (Int × Rec)} (hg : GoodF 8 F) (hn : (F.map (·.1)).Nodup) : (allR F).length ≤ 8 := by
  have h1 : (allR F).length ≤ (sortI (F.map (·.1))).length := List.length_filterMap_le _ _
  rw [(sortI_perm _).length_eq] at h1
  have := nodup_rg (N := 8) hn fun x hx => by
    obtain ⟨r, hr⟩ := look_mem hx
    obtain ⟨h2, h3⟩ := hg x r hr
    have := chkR_rg h3
    omega
  omega
/-- what is under way at the start -/
def ms0 (jn : Int → Int → Bool) (X : Nat → St13) (n : Nat) : List Msg := (List.range n).flatMap fun d : Nat => sprd jn d (-1) (allR (X d).F)
theorem ms0_succ {n : Nat} : ms0 jn X (n + 1) = ms0 jn X n ++ sprd jn n (-1) (allR (X n).F) := by
  unfold ms0
  rw [List.range_succ, List.flatMap_append]; simp
theorem ms0_len (h : ∀ d, d < 8 → GoodF 8 (X d).F ∧ ((X d).F.map (·.1)).Nodup) {n : Nat} (hn : n ≤ 8) : (ms0 jn X n).length ≤ 512 := by
  have := len_flat (l := List.range n) (f := fun d : Nat => sprd jn d (-1) (allR (X d).F)) (c := 64) fun d hd => by
    have hd := List.mem_range.1 hd
    obtain ⟨h1, h2⟩ := h d (by omega)
    have := sprd_len (jn := jn) (n := d) (e := -1) (rs := allR (X d).F)
    have := allR_len8 h1 h2
    omega
  rw [List.length_range] at this
  have : (ms0 jn X n).length ≤ n * 64 := this
  omega
structure Beg2 (l : List Rec) (d : Nat) (y : St13) : Prop where
  gd : GoodF 8 y.F
  nd : (y.F.map (·.1)).Nodup
  ow : ∃ q, look y.F (d : Int) = some ((d : Int), q, [(d : Int)])
  src : ∀ k r, look y.F k = some r → k = (d : Int) ∨ r ∈ l
theorem flo_start (hX : ∀ d, d < 8 → Beg2 l d (X d)) (hl : l.length ≤ 20) : ∃ A, Flo jn l A X (ms0 jn X 8) ∧ A.length + PP l X ≤ 48 ∧ Phi l A X (ms0 jn X 8) ≤ 175616 := by
  have hlen := ms0_len (jn := jn) (X := X) (fun d hd => ⟨(hX d hd).gd, (hX d hd).nd⟩) (n := 8) (Nat.le_refl _)
  have hP : PP l X ≤ 20 := Nat.le_trans List.countP_le_length hl
  have ow : ∀ d : Nat, d < 8 → (look (X d).F (d : Int)).getD (0, 0, []) ∈ l ++ (List.range 8).map (fun d : Nat => (look (X d).F (d : Int)).getD (0, 0, [])) := fun d hd => List.mem_append.2 (.inr (List.mem_map.2 ⟨d, List.mem_range.2 hd, rfl⟩))
  have cur : ∀ d, d < 8 → ∀ k r, look (X d).F k = some r → r ∈ l ++ (List.range 8).map (fun d : Nat => (look (X d).F (d : Int)).getD (0, 0, [])) := fun d hd k r h => by
    rcases (hX d hd).src k r h with e | e
    · have := ow d hd
      rw [e] at h
      rw [h] at this; exact this
    · exact List.mem_append.2 (.inl e)
  have hA : (l ++ (List.range 8).map (fun d : Nat => (look (X d).F (d : Int)).getD (0, 0, []))).length ≤ 28 := by
    rw [List.length_append, List.length_map, List.length_range]; omega
  refine ⟨l ++ (List.range 8).map (fun d : Nat => (look (X d).F (d : Int)).getD (0, 0, [])), ⟨fun d hd => (hX d hd).gd, fun d hd => (hX d hd).ow, cur, fun v hv h0 h8 => ?_, fun m hm => ?_, fun a b ha hb hab hj k r h => ?_⟩, by omega, ?_⟩
  · rcases List.mem_append.1 hv with h | h
    · exact .inl h
    · obtain ⟨d, hd, e⟩ := List.mem_map.1 h
      obtain ⟨q, hq⟩ := (hX d (List.mem_range.1 hd)).ow
      rw [hq] at e
      subst e
      refine .inr ?_
      show Geq (look (X (d : Int).toNat).F (d : Int)) _
      rw [Int.toNat_natCast, hq]; exact .self _
  · obtain ⟨f, hf, hm⟩ := List.mem_flatMap.1 hm
    have hf := List.mem_range.1 hf
    obtain ⟨b, hb, _, r, hr, rfl⟩ := mem_sprd.1 hm
    obtain ⟨k, hk⟩ := mem_allR.1 hr
    obtain ⟨h1, h2⟩ := (hX f hf).gd k r hk
    refine ⟨f, b, hf, hb, rfl, rfl, cur f hf k r hk, h2, ?_⟩
    show Geq (look (X f).F r.1) r
    rw [h1, hk]; exact .self _
  · refine .inr (List.mem_flatMap.2 ⟨a, List.mem_range.2 ha, mem_sprd.2 ⟨b, hb, ⟨by omega, by omega, hj⟩, r, mem_allR.2 ⟨k, h⟩, rfl⟩⟩)
  · unfold Phi
    have h1 := sum_const (l := ms0 jn X 8) (f := wtM (l ++ (List.range 8).map (fun d : Nat => (look (X d).F (d : Int)).getD (0, 0, []))) (PP l X)) (c := 49) fun m _ => by
      have := wtM_le (A := l ++ (List.range 8).map (fun d : Nat => (look (X d).F (d : Int)).getD (0, 0, []))) (P := PP l X) (m := m)
      omega
    have h2 : PsiS (l ++ (List.range 8).map (fun d : Nat => (look (X d).F (d : Int)).getD (0, 0, []))) X ≤ 8 * 28 := by
      have := sum_const (l := List.range 8) (f := fun d => Psi (l ++ (List.range 8).map (fun d : Nat => (look (X d).F (d : Int)).getD (0, 0, []))) (X d).F) (c := 28) fun d _ => Nat.le_trans List.countP_le_length hA
      rw [List.length_range] at this
      exact this
    have h3 : (ms0 jn X 8).length * 49 ≤ 512 * 49 := Nat.mul_le_mul_right _ hlen
    omega
theorem Phi_len : ms.length ≤ Phi l A X ms := by
  unfold Phi
  have : ms.length ≤ (ms.map (wtM A (PP l X))).sum := by
    induction ms with
    | nil => exact Nat.zero_le _
    | cons m ms ih =>
      rw [List.map_cons, List.sum_cons, List.length_cons]
      have : 1 ≤ wtM A (PP l X) m := by unfold wtM; omega
      omega
  omega
/-- nothing is under way: joined nodes agree -/
theorem flo_end (z : Flo jn l A X []) {a b : Nat} (ha : a < 8) (hb : b < 8) (hj : jn a b = true) (hs : jn b a = true) (hna : ((X a).F.map (·.1)).Nodup) (hnb : ((X b).F.map (·.1)).Nodup) : allR (X a).F = allR (X b).F := by
  by_cases e : a = b
  · rw [e]
  refine allR_ext hna hnb fun k => ?_
  have one : ∀ {a b : Nat}, a < 8 → b < 8 → a ≠ b → jn a b = true → ∀ r, look (X a).F k = some r → Geq (look (X b).F k) r := fun {a b} ha hb hab hj r h => by
    rcases z.agr a b ha hb hab hj k r h with h | h
    · exact h
    · cases h
  cases h1 : look (X a).F k with
  | none =>
    cases h2 : look (X b).F k with
    | none => rfl
    | some y =>
      obtain ⟨w, hw, _⟩ := one hb ha (Ne.symm e) hs y h2
      rw [h1] at hw; cases hw
  | some x =>
    obtain ⟨w, hw, h3⟩ := one ha hb e hj x h1
    obtain ⟨u, hu, h4⟩ := one hb ha (Ne.symm e) hs w hw
    rw [h1] at hu
    cases hu
    rw [hw]
    have : cmpRR x w = 0 := by
      rcases cmpRR_vals x w with q | q | q
      · exact absurd (by rw [cmpRR_neg, q]; rfl) h4
      · exact q
      · exact absurd q h3
    rw [cmpRR_zero this ((z.gd a ha k x h1).1.trans (z.gd b hb k w hw).1.symm)]
end Go.AM
namespace Go.AM
open Go Go.Proofs
/-! ### databases that are read alone -/
def MapR (s : Heap) (b : Nat) (l : List (Int × AVal)) : Prop := ∃ t es c, s b = some (t, .map es c) ∧ EsOK es c l
theorem MapR.get {s : Heap} {b : Nat} {l : List (Int × AVal)} (h : MapR s b l) {k : Int} : getM s (.map b) (.int .i64 k) = some (look l k) := by
  obtain ⟨t, es, c, hb, ho⟩ := h
  obtain ⟨r, g1, g2, _⟩ := findI_kv (k := k) (i := 0) ho.kv
  unfold getM
  simp only [hb, g1]
  rw [← g2]
  cases r <;> rfl
theorem MapR.len {s : Heap} {b : Nat} {l : List (Int × AVal)} (h : MapR s b l) : lenM s (.map b) = some l.length := by
  obtain ⟨t, es, c, hb, ho⟩ := h
  simp [lenM, hb, ho.len]
theorem MapR.sub {s s' : Heap} {b : Nat} {l : List (Int × AVal)} (h : MapR s b l) (k : Sub s s') : MapR s' b l := by
  obtain ⟨t, es, c, hb, ho⟩ := h
  exact ⟨t, es, c, k _ _ hb, ho⟩
theorem MapR.nd {s : Heap} {b : Nat} {l : List (Int × AVal)} (h : MapR s b l) : (l.map (·.1)).Nodup := by
  obtain ⟨t, es, c, hb, ho⟩ := h
  exact ho.nd
section
variable {α β : Type} {K : AVal → Heap → Prop} {s : Heap} {P : Program} {X : Told}
theorem wp_sortedR {P : Program} {X : Told} {f it : FuncId} {its : List FuncId} {elem : TypeId} {m b : Nat} {l : List (Int × AVal)} (hf : X f = some (sortedG its elem)) (hit : memN it its = true) (hb : s b = some (false, .one (.map m))) (hm : MapR s m l) (hl : l.length ≤ 1000)
    (h : ∀ v s', Acc elem s s' v (izs (sortI (l.map (·.1)))) → Sub s s' → K v s') : wpCall P X f [.fn (.func it) [] [.ptr b 0]] K s := by
  obtain ⟨tt, es, c, hes, ho⟩ := hm
  refine wp_told hf ?_
  unfold sortedG
  refine wpF.cond hit (wpF.bd (.const _) (fun _ => .const _) (wpF.rd hb fun ab hab => ?_))
  cases ab <;> first | exact hab.elim | skip
  cases hab
  refine wpF.bd (.const _) (fun _ => .const _) (wpF.rd hes fun ab hab => ?_)
  cases ab <;> first | exact hab.elim | skip
  obtain ⟨rfl, rfl⟩ := hab
  have hk := keysI_ok (bs := []) (ks := []) ho.kv ho.bd ho.lt ho.bs (by simp) ho.nd (by simp)
  simp only [hk]
  refine wpF.cond (by rw [Nat.ble_eq, ho.len]; omega) ?_
  cases hs : sortI (l.map (·.1)) with
  | nil => exact wpF.ret (h _ s (by rw [hs]; exact .inl ⟨rfl, rfl⟩) (.refl s))
  | cons x r =>
    have e1 : ints (x :: r) = izs (x :: r) := ints_eq _
    have e4 : ∀ k : List Int, allOne (izs k) = true := by
      intro k
      induction k with
      | nil => rfl
      | cons y k ih => simpa [allOne] using ih
    simp only [e1]
    refine wpF.bd (.const _) (fun _ => .const _) (wp_newCells (e4 _) fun b hb => wpF.ret (h _ _ ?_ fun i e hi => ?_))
    · rw [hs]
      exact .inr ⟨b, hb, by simp, hset_eq⟩
    · rw [hset_other (ne_of_some hb hi)]; exact hi
end
variable {K : AVal → Heap → Prop} {s s' s0 : Heap} {Fz : Nat → Prop} {d m : Nat} {nodes node last n q : Int} {F G : List (Int × Rec)} {v : AVal} {L : List Int}
structure DbR (s : Heap) (d m : Nat) (nodes node last : Int) (F : List (Int × Rec)) : Prop where
  dc : ∃ t, s d = some (t, .cells 81 [.int .i64 nodes, .int .i64 node, .int .i64 last, .map m])
  mp : ∃ l, MapR s m l ∧ Pairs (fun v r => ∃ lv, v = recV r.1 r.2.1 lv ∧ Sli s lv r.2.2) l F
  nn : 1 ≤ nodes ∧ nodes ≤ 32 ∧ 0 ≤ node ∧ node < nodes
  gd : ∀ k r, look F k = some r → r.1 = k ∧ (0 ≤ k ∧ k < nodes) ∧ r.2.2.length ≤ 100000
theorem Db.rd (z : Db Fz s d m nodes node last F) : DbR s d m nodes node last F := by
  obtain ⟨l, ⟨es, c, h1, h2⟩, h3⟩ := z.mp
  exact ⟨⟨_, z.dc⟩, ⟨l, ⟨_, es, c, h1, h2⟩, h3.mono fun a b ⟨lv, e, h4, _⟩ => ⟨lv, e, h4⟩⟩, z.nn, z.gd⟩
theorem DbR.sub (z : DbR s d m nodes node last F) (k : Sub s s') : DbR s' d m nodes node last F := by
  obtain ⟨l, h1, h3⟩ := z.mp
  obtain ⟨t, h⟩ := z.dc
  exact ⟨⟨t, k _ _ h⟩, ⟨l, h1.sub k, h3.mono fun a b ⟨lv, e, h4⟩ => ⟨lv, e, h4.sub k⟩⟩, z.nn, z.gd⟩
theorem DbR.frz (z : DbR s d m nodes node last F) : DbR (frz s) d m nodes node last F := by
  obtain ⟨l, ⟨t, es, c, h1, h2⟩, h3⟩ := z.mp
  obtain ⟨t', h⟩ := z.dc
  exact ⟨⟨_, frz_some h⟩, ⟨l, ⟨_, es, c, frz_some h1, h2⟩, h3.mono fun a b ⟨lv, e, h4⟩ => ⟨lv, e, h4.frz⟩⟩, z.nn, z.gd⟩
theorem DbR.short (z : DbR s d m nodes node last F) : (F.map (·.1)).Nodup ∧ F.length ≤ 32 := by
  obtain ⟨l, hm, hp⟩ := z.mp
  have hk := hp.keys
  have nd : (F.map (·.1)).Nodup := by rw [← hk]; exact hm.nd
  refine ⟨nd, ?_⟩
  have := nodup_rg (N := 32) nd fun x hx => by
    obtain ⟨r, hr⟩ := look_mem hx
    have := z.gd x r hr
    have := z.nn
    omega
  simpa using this
theorem validR_in (z : DbR s d m nodes node last F) (hK : K (.bool true) s) : wpCall Try.prog XX 51 [.ptr d 0] K s := by
  refine vc_lsdb_DB_valid_in ?_
  have hp : decide ((0 : Int) < nodes) = true := decide_eq_true (by have := z.nn; omega)
  obtain ⟨t, zdc⟩ := z.dc
  simp only [vc_lsdb_DB_valid, eqV_ptr, negB_mk, Bool.true_bne, Bool.not_false, boolK_true, nilCheck_ptr, addOff_ptr, Nat.zero_add, rd1_mk zdc, List.getElem?_cons_zero, arith_gtr, hp, vc_lsdb_DB_valid_j0, pickV_true, optK_mk]
  exact hK
theorem GetR_in (z : DbR s d m nodes node last F) {o : Rec} (hlk : look F n = some o) (hK : ∀ s' v', Sub s s' → Sli s' v' o.2.2 → (∀ b o1 n c, v' = .slc b o1 n c 1 → o.2.2 ≠ [] → s b = none) → K (.tup [recV o.1 o.2.1 v', .bool true]) s') : wpCall Try.prog XX 33 [.ptr d 0, .int .i64 n] K s := by
  refine vc_lsdb_DB_Get_in (new_step fun b0 s1 hb0 h1 u1 => ?_)
  have sub1 := u1.sub hb0
  have z1 := z.sub sub1
  refine validR_in z1 ?_
  have p3 : [AVal.int .i64 nodes, .int .i64 node, .int .i64 last, .map m][3]? = some (.map m) := rfl
  obtain ⟨l, hm, hp⟩ := z1.mp
  rcases hp.look n with ⟨_, h4⟩ | ⟨a, o', h3, h4, lo, rfl, hlo⟩
  · rw [hlk] at h4; cases h4
  rw [hlk] at h4; cases h4
  have hol := (z.gd _ _ hlk).2.2
  simp only [unary_not, Bool.not_true, boolK_false, nilCheck_ptr, addOff_ptr, Nat.zero_add, rd1_mk (Classical.choose_spec z1.dc), p3, hm.get, h3, retM, cond_true, ext0, ext1, optK_mk]
  refine new_step fun b2 s2 hb2 h2 u2 => wrAgg_step h2 rfl rfl (by rw [allOne_cons, allOne_cons, allOne_cons, hlo.one]; rfl) fun s3 h3' u3 => ?_
  have h3' : s3 b2 = some (false, .cells 24 [.int .i64 o.1, .int .i64 o.2.1, lo]) := h3'
  have sub13 : Sub s1 s3 := (u2.sub hb2).upto u3 hb2
  simp only [rdN_all (n := 3) h3' rfl, optK_mk]
  refine clone_in (hlo.sub sub13) (by omega) fun v4 s4 sub4 sl4 fr4 => ?_
  have h14 := sub4 _ _ (sub13 _ _ h1)
  refine wrAgg_step h14 rfl rfl (by rw [allOne_cons, allOne_cons, allOne_cons, sl4.one]; rfl) fun s5 h5 u5 => ?_
  have h5 : s5 b0 = some (false, .cells 24 [.int .i64 o.1, .int .i64 o.2.1, v4]) := h5
  simp only [rdN_all (n := 3) h5 rfl, optK_mk]
  have old : ∀ b, s3 b = none → s b = none := fun b hb => by
    cases q : s b with
    | none => rfl
    | some x => rw [sub13 _ _ (sub1 b x q)] at hb; cases hb
  refine hK s5 v4 (((sub1.trans sub13).trans sub4).upto u5 hb0) ?_ fun b o1 n c e hne => old b (fr4 b o1 n c e hne)
  refine sl4.keep (fp := fun i => i = b0) (u5.keep rfl) fun b o n c e hne hb => ?_
  have := fr4 b o n c e (by simpa using hne)
  rw [hb, sub13 _ _ h1] at this; cases this
theorem AllR_in (z : DbR s d m nodes node last F) (hK : ∀ v s', Sub s s' → RcsF (fun x => s x ≠ none) s' v (allR F) → K v s') : wpCall Try.prog XX 18 [.ptr d 0] K s := by
  refine vc_lsdb_DB_All_in (validR_in z ?_)
  have p3 : [AVal.int .i64 nodes, .int .i64 node, .int .i64 last, .map m][3]? = some (.map m) := rfl
  obtain ⟨hnd, hlen⟩ := z.short
  obtain ⟨l, hm, hp⟩ := z.mp
  have hkeys := hp.keys
  have hll : l.length = F.length := by have := congrArg List.length hkeys; simpa using this
  have n0 : nat? (.int .i64 0) = some 0 := rfl
  simp only [unary_not, Bool.not_true, boolK_false, nilCheck_ptr, addOff_ptr, Nat.zero_add, rd1_mk (Classical.choose_spec z.dc), p3, hm.len, n0, nat?_mk, optK_mk]
  refine ⟨⟨Nat.zero_le _, by omega⟩, new_step fun b1 s1 hb1 h1 u1 => ?_⟩
  have sub1 := u1.sub hb1
  have z1 := z.sub sub1
  have hm1 : MapR s1 m l := hm.sub sub1
  simp only [rd1_mk (Classical.choose_spec z1.dc), p3, optK_mk]
  refine wp_keys (it := 66) rfl fun b2 s2 hb2 h2 u2 => ?_
  have sub2 := u2.sub hb2
  have hm2 : MapR s2 m l := hm1.sub sub2
  refine wp_sortedR (its := [66]) (elem := 3) rfl rfl h2 hm2 (by omega) fun v17 s3 acc3 sub3 => ?_
  rw [hkeys] at acc3
  have sub13 := sub2.trans sub3
  have sub03 := sub1.trans sub13
  have ks : (sortI (F.map (·.1))).length = F.length := by rw [(sortI_perm _).length_eq, List.length_map]
  have hin : ∀ x ∈ sortI (F.map (·.1)), ∃ r, look F x = some r := fun x hx => look_mem ((sortI_perm _).mem_iff.1 hx)
  obtain ⟨al, aa⟩ := filterMap_all hin
  simp only [acc3.sl.len, List.length_map, ks, optK_mk]
  have acc3' : Acc 3 s s3 v17 (izs (sortI (F.map (·.1)))) := by
    rcases acc3 with h | ⟨b, h0, a, h2⟩
    · exact .inl h
    · refine .inr ⟨b, ?_, a, h2⟩
      cases q : s b with
      | none => rfl
      | some y => rw [sub2 b y (sub1 b y q)] at h0; cases h0
  rw [hll] at h1 ⊢
  refine ⟨fun ys s4 k => ∃ (i : Nat) (cs : List AVal) (rows : List (List AVal)), ys = [.slc b1 0 i (some F.length) 3, .int .i64 i] ∧ i ≤ F.length ∧ k = F.length - i ∧ Sub s s4 ∧ Acc 3 s s4 v17 (izs (sortI (F.map (·.1)))) ∧
    s4 b1 = some (false, .cells 24 cs) ∧ cs.length = F.length * 3 ∧ rows.length = i ∧ (∀ r ∈ rows, r.length = 3) ∧ cs.take (i * 3) = rows.flatten ∧
    ∀ (j : Nat) (r : Rec), j < i → (allR F)[j]? = some r → ∃ lv, rows[j]? = some [.int .i64 r.1, .int .i64 r.2.1, lv] ∧ Sli s4 lv r.2.2 ∧ ∀ b o n c, lv = .slc b o n c 1 → r.2.2 ≠ [] → b ≠ b1 ∧ s b = none,
    ⟨_, 0, _, [], rfl, by omega, rfl, sub03, acc3', sub13 _ _ h1, repl_len rfl, rfl, by simp, by simp, fun j r h => by omega⟩, ?_⟩
  rintro f s4 k ⟨i, cs, rows, hy, hi, rfl, sub4, acc4, h4, hcs, hrl, hr3, htk, hrows⟩
  simp only [List.cons.injEq, and_true] at hy
  rw [hy.1, hy.2]
  have z4 := z.sub sub4
  simp only [vc_lsdb_DB_All_l0, arith_lss, optK_mk]
  refine boolK_mk (fun hlt => ?_) (fun hge => ?_)
  · have hlt : i < F.length := by have := of_decide_eq_true hlt; omega
    have hik : i < (sortI (F.map (·.1))).length := by rw [ks]; exact hlt
    obtain ⟨p, g1, g2⟩ := acc4.sl.get (i := i) (by rw [List.length_map]; exact hik)
    have e1 : (izs (sortI (F.map (·.1))))[i]? = some (.int .i64 (sortI (F.map (·.1)))[i]) := by simp [hik]
    rw [e1] at g2
    obtain ⟨l4, hm4, hp4⟩ := z4.mp
    obtain ⟨o, ho⟩ := hin _ (List.getElem_mem hik)
    have hall : (allR F)[i]? = some o := aa i _ o (List.getElem?_eq_getElem hik) ho
    rcases hp4.look (sortI (F.map (·.1)))[i] with ⟨_, h6⟩ | ⟨a, o2, h5, h6, lo, rfl, hlo⟩
    · rw [h6] at ho; cases ho
    · rw [ho] at h6; cases h6
      have hol := (z.gd _ _ ho).2.2
      simp only [g1, g2, nilCheck_ptr, addOff_ptr, Nat.zero_add, rd1_mk (Classical.choose_spec z4.dc), p3, hm4.get, h5, retM, cond_false, optK_mk]
      refine clone_in hlo (by omega) fun lv' s5 sub5 sl5 fr5 => ?_
      have h5b := sub5 _ _ h4
      refine optK_of (fillr3 rfl) ⟨by show allOne [AVal.int .i64 o.1, .int .i64 o.2.1, lv'] = true; rw [allOne_cons, allOne_cons, allOne_cons, sl5.one]; rfl, new_step fun b6 s6 hb6 h6 u6 => ?_⟩
      have sub6 := u6.sub hb6
      have lit : SlR 3 s6 (.slc b6 0 1 (some 1) 3) [[.int .i64 o.1, .int .i64 o.2.1, lv']] := SlR.mk (rows := [[.int .i64 o.1, .int .i64 o.2.1, lv']]) (by intro r hr; rw [List.mem_singleton] at hr; subst hr; rfl) (by simpa using h6) rfl (by simp)
      have hb1s : s b1 = none := hb1
      refine app_cap (sub6 _ _ h5b) lit hlt hcs rfl (by rw [allOne_cons, allOne_cons, allOne_cons, sl5.one]; rfl) fun s7 h7 u7 => ?_
      have sub46 := sub5.trans sub6
      have sub7 : Sub s s7 := (sub4.trans sub46).upto u7 hb1s
      have hle : i * 3 + 3 ≤ cs.length := by rw [hcs]; omega
      simp only [arith_add, optK_mk]
      rw [wrap64 (by omega) (by omega)]
      refine ⟨F.length - (i + 1), by omega, i + 1, _, rows ++ [[.int .i64 o.1, .int .i64 o.2.1, lv']], rfl, by omega, rfl, sub7, ?_, h7, ?_, by rw [List.length_append, hrl]; rfl, fun r hr => ?_, ?_, fun j r hj hr => ?_⟩
      · rcases acc4 with h | ⟨b, h0, a, h2⟩
        · exact .inl h
        · refine .inr ⟨b, h0, a, ?_⟩
          rw [u7 b (by rintro rfl; rw [h4] at h2; cases h2)]
          exact sub46 _ _ h2
      · rw [setRange_len (by show i * 3 + 3 ≤ _; exact hle)]; exact hcs
      · rw [List.mem_append, List.mem_singleton] at hr
        rcases hr with hr | rfl
        · exact hr3 r hr
        · rfl
      · have := setRange_take (cs := cs) (row := [.int .i64 o.1, .int .i64 o.2.1, lv']) (o := i * 3) (by omega)
        rw [show (i + 1) * 3 = i * 3 + [AVal.int .i64 o.1, .int .i64 o.2.1, lv'].length by show (i + 1) * 3 = i * 3 + 3; omega, this, htk, List.flatten_append]
        simp
      · by_cases e : j = i
        · subst e
          rw [hall] at hr; cases hr
          refine ⟨lv', by rw [List.getElem?_append_right (by omega), hrl, Nat.sub_self]; rfl, ?_, fun b o1 n1 c1 e hne => ?_⟩
          · refine (sl5.sub sub6).keep (fp := fun i => i = b1) (u7.keep rfl) fun b o1 n1 c1 e hne hb => ?_
            have := fr5 b o1 n1 c1 e (by simpa using hne)
            rw [hb, h4] at this; cases this
          · have := fr5 b o1 n1 c1 e hne
            refine ⟨(by rintro rfl; rw [h4] at this; cases this), ?_⟩
            cases q : s b with
            | none => rfl
            | some x => rw [sub4 b x q] at this; cases this
        · obtain ⟨lv, x1, x2, x3⟩ := hrows j r (by omega) hr
          exact ⟨lv, by rw [List.getElem?_append_left (by omega)]; exact x1, (x2.sub sub46).keep (fp := fun i => i = b1) (u7.keep rfl) fun b o1 n1 c1 e hne => (x3 b o1 n1 c1 e (by simpa using hne)).1, x3⟩
  · have hge : i = F.length := by have := of_decide_eq_false hge; omega
    subst hge
    rw [List.take_of_length_le (by omega)] at htk
    have al2 : (allR F).length = F.length := al.trans ks
    refine hK _ s4 sub4 ⟨rows, ?_, by rw [hrl, al2], fun b o n c e _ hb => ?_, fun j r hr => ?_⟩
    · refine SlR.mk hr3 (by rw [← htk]; exact h4) hrl.symm fun c e => by cases e; omega
    · injection e with e
      rw [← e] at hb
      exact hb hb1
    · have hj : j < F.length := by
        have := (List.getElem?_eq_some_iff.1 hr).1
        omega
      obtain ⟨lv, x1, x2, x3⟩ := hrows j r hj hr
      exact ⟨lv, x1, x2, fun b o n c e hne h => h (x3 b o n c e hne).2⟩
end Go.AM
namespace Go.AM
open Go Go.Proofs
variable {K : AVal → Heap → Prop} {s s' s0 : Heap} {v uv lv : AVal}
abbrev bls13 (l : List Bool) : List AVal := l.map AVal.bool
/-! ### which nodes are joined -/
def hitJ (us : List Bool) (a b : Int) (i : Nat) : Bool := us.getD i false && ((((i % 8 : Nat) : Int) == a && (((i / 8 + i) % 8 : Nat) : Int) == b) || (((i % 8 : Nat) : Int) == b && (((i / 8 + i) % 8 : Nat) : Int) == a))
def jnB (us : List Bool) (a b : Int) : Bool := (List.range (min us.length 64)).any (hitJ us a b)
theorem jnB_sym {us : List Bool} {a b : Int} : jnB us a b = jnB us b a := by
  unfold jnB
  congr 1
  funext i
  unfold hitJ
  rw [Bool.or_comm]
theorem joined_in {us : List Bool} {a b : Int} (hu : Sl s uv (bls13 us)) (hK : K (.bool (jnB us a b)) s) : wpCall Try.prog XX 36 [uv, .int .i64 a, .int .i64 b] K s := by
  refine vc_leafmeshlaw13_joined_in ?_
  refine ⟨fun ys s1 n => ∃ i : Nat, ys = [.int .i64 i] ∧ s1 = s ∧ i ≤ min us.length 64 ∧ n = min us.length 64 - i ∧ ∀ j, j < i → hitJ us a b j = false, ⟨_, 0, rfl, rfl, by omega, rfl, fun j h => by omega⟩, ?_⟩
  rintro f s1 n ⟨i, hy, rfl, hi, rfl, hno⟩
  simp only [List.cons.injEq, and_true] at hy
  rw [hy]
  simp only [vc_leafmeshlaw13_joined_l0, hu.len, optK_mk, arith_lss, List.length_map]
  have stop : i = min us.length 64 → K (.bool false) s1 := fun e => by
    have : jnB us a b = false := by
      unfold jnB
      rw [List.any_eq_false]
      intro j hj
      rw [hno j (by have := List.mem_range.1 hj; omega)]; decide
    rw [this] at hK; exact hK
  have main : i < us.length → i < 64 → vc_leafmeshlaw13_joined_j1 XX uv (.int .i64 a) (.int .i64 b) (.int .i64 i) (.bool true) (.bool true) (fun ys s1_1 n => ∃ i : Nat, ys = [.int .i64 i] ∧ s1_1 = s1 ∧ i ≤ min us.length 64 ∧ n = min us.length 64 - i ∧ ∀ j, j < i → hitJ us a b j = false) (min us.length 64 - i) K s1 := fun hlt h64 => by
    have e1 : (i : Int).tmod 8 = ((i % 8 : Nat) : Int) := by rw [Int.tmod_eq_emod_of_nonneg (by omega)]; omega
    have e2 : IntKind.i64.wrap ((i : Int).tdiv 8) = ((i / 8 : Nat) : Int) := by
      rw [Int.tdiv_eq_ediv_of_nonneg (by omega), wrap64 (by omega) (by omega)]; omega
    have e3 : IntKind.i64.wrap (((i / 8 : Nat) : Int) + (i : Int)) = ((i / 8 + i : Nat) : Int) := by
      rw [wrap64 (by omega) (by omega)]; omega
    have e4 : ((i / 8 + i : Nat) : Int).tmod 8 = (((i / 8 + i) % 8 : Nat) : Int) := by rw [Int.tmod_eq_emod_of_nonneg (by omega)]; omega
    obtain ⟨p, g1, g2⟩ := hu.get (i := i) (by simpa using hlt)
    have g3 : (bls13 us)[i]? = some (.bool (us.getD i false)) := by simp [hlt]
    rw [g3] at g2
    have next : hitJ us a b i = false → optK (arithV .add (.int .i64 i) (.int .i64 1)) fun v_23 => ∃ m', m' < min us.length 64 - i ∧ (∃ k : Nat, [v_23] = [AVal.int .i64 k] ∧ True ∧ k ≤ min us.length 64 ∧ m' = min us.length 64 - k ∧ ∀ j, j < k → hitJ us a b j = false) := fun hh => by
      simp only [arith_add, optK_mk]
      rw [wrap64 (by omega) (by omega)]
      refine ⟨_, by omega, i + 1, rfl, by trivial, by omega, rfl, fun j hj => ?_⟩
      by_cases e : j = i
      · rw [e]; exact hh
      · exact hno j (by omega)
    have hit : hitJ us a b i = true → K (.bool true) s1 := fun hh => by
      have : jnB us a b = true := by
        unfold jnB
        rw [List.any_eq_true]
        exact ⟨i, List.mem_range.2 (by omega), hh⟩
      rw [this] at hK; exact hK
    have hdef : hitJ us a b i = (us.getD i false && ((((i % 8 : Nat) : Int) == a && (((i / 8 + i) % 8 : Nat) : Int) == b) || (((i % 8 : Nat) : Int) == b && (((i / 8 + i) % 8 : Nat) : Int) == a))) := rfl
    simp only [vc_leafmeshlaw13_joined_j1, pickV_true, optK_mk, boolK_true, arith_rem (k := .i64) (x := (i : Int)) (y := 8) (by decide), arith_quo (k := .i64) (x := (i : Int)) (y := 8) (by decide), e1, e2, arith_add, e3, arith_rem (k := .i64) (x := ((i / 8 + i : Nat) : Int)) (y := 8) (by decide), e4, g1, g2, eqV_int, negB_mk, Bool.false_bne]
    cases c0 : us.getD i false with
    | false =>
      simp only [boolK_false, pickV_false, optK_mk]
      have := next (by rw [hdef, c0]; rfl)
      simpa only [arith_add, optK_mk] using this
    | true =>
      simp only [boolK_true]
      cases c1 : (((i % 8 : Nat) : Int) == a) with
      | true =>
        simp only [boolK_true, vc_leafmeshlaw13_joined_j2, pickV_true, optK_mk]
        cases c2 : ((((i / 8 + i) % 8 : Nat) : Int) == b) with
        | true =>
          simp only [boolK_true]
          exact hit (by rw [hdef, c0, c1, c2]; rfl)
        | false =>
          simp only [boolK_false, eqV_int, negB_mk, Bool.false_bne, optK_mk]
          cases c3 : (((i % 8 : Nat) : Int) == b) with
          | true =>
            simp only [boolK_true, optK_mk, vc_leafmeshlaw13_joined_j3, pickV_true, pickV_false]
            cases c4 : ((((i / 8 + i) % 8 : Nat) : Int) == a) with
            | true => simp only [boolK_true]; exact hit (by rw [hdef, c0, c1, c2, c3, c4]; rfl)
            | false => simp only [boolK_false]; exact next (by rw [hdef, c0, c1, c2, c3, c4]; rfl)
          | false =>
            simp only [boolK_false, vc_leafmeshlaw13_joined_j3, pickV_false, pickV_true, optK_mk]
            exact next (by rw [hdef, c0, c1, c2, c3]; rfl)
      | false =>
        simp only [boolK_false, vc_leafmeshlaw13_joined_j2, pickV_false, optK_mk, eqV_int, negB_mk, Bool.false_bne]
        cases c3 : (((i % 8 : Nat) : Int) == b) with
        | true =>
          simp only [boolK_true, optK_mk, vc_leafmeshlaw13_joined_j3, pickV_true, pickV_false]
          cases c4 : ((((i / 8 + i) % 8 : Nat) : Int) == a) with
          | true => simp only [boolK_true]; exact hit (by rw [hdef, c0, c1, c3, c4]; rfl)
          | false => simp only [boolK_false]; exact next (by rw [hdef, c0, c1, c3, c4]; rfl)
        | false =>
          simp only [boolK_false, vc_leafmeshlaw13_joined_j3, pickV_false, pickV_true, optK_mk]
          exact next (by rw [hdef, c0, c1, c3]; rfl)
  refine boolK_mk (fun h => ?_) (fun h => ?_)
  · rw [h]
    have h := of_decide_eq_true h
    by_cases h64 : i < 64
    · rw [decide_eq_true (show (i : Int) < 64 by omega)]
      exact main (by omega) h64
    · rw [decide_eq_false (show ¬ (i : Int) < 64 by omega)]
      simp only [vc_leafmeshlaw13_joined_j1, pickV_true, optK_mk, boolK_false]
      exact stop (by omega)
  · rw [h]
    have h := of_decide_eq_false h
    simp only [vc_leafmeshlaw13_joined_j1, pickV_false, optK_mk, boolK_false]
    exact stop (by omega)
end Go.AM
namespace Go.AM
open Go Go.Proofs
variable {K : AVal → Heap → Prop} {s s' s0 : Heap} {v uv lv : AVal} {Fz W : Nat → Prop}
/-! ### messages in memory -/
abbrev GM := Int × Int × RA
def gRow (g : GM) : List AVal := [.int .i64 g.1, .int .i64 g.2.1, .int .i64 g.2.2.1, .int .i64 g.2.2.2.1, g.2.2.2.2.1]
def gMsg (g : GM) : Msg := (g.1, g.2.1, raRec g.2.2)
/-- the links of a record in memory; none of its blocks is in W -/
def LkOK (W : Nat → Prop) (s : Heap) (a : RA) : Prop := Sli s a.2.2.1 a.2.2.2 ∧ ∀ b o n c, a.2.2.1 = .slc b o n c 1 → a.2.2.2 ≠ [] → ¬ W b
theorem LkOK.keep {fp : Nat → Prop} {a : RA} (h : LkOK W s a) (k : KeepBut fp s s') (hf : ∀ b, fp b → W b) : LkOK W s' a := ⟨h.1.keep k fun b o n c e hne hb => h.2 b o n c e (by simpa using hne) (hf b hb), h.2⟩
theorem LkOK.sub {a : RA} (h : LkOK W s a) (k : Sub s s') : LkOK W s' a := ⟨h.1.sub k, h.2⟩
theorem LkOK.weak {W' : Nat → Prop} {a : RA} (h : LkOK W s a) (k : ∀ b, W' b → W b) : LkOK W' s a := ⟨h.1, fun b o n c e hne q => h.2 b o n c e hne (k b q)⟩
theorem rows_ra {Q : AVal → Rec → Prop} : ∀ {rs : List Rec} {rows : List (List AVal)}, rows.length = rs.length → (∀ (i : Nat) (r : Rec), rs[i]? = some r → ∃ lv, rows[i]? = some [.int .i64 r.1, .int .i64 r.2.1, lv] ∧ Q lv r) → ∃ ras : List RA, ras.map raRec = rs ∧ ras.map raR = rows ∧ ∀ a ∈ ras, Q a.2.2.1 (raRec a) := by
  intro rs
  induction rs with
  | nil =>
    intro rows h _
    have : rows = [] := List.eq_nil_of_length_eq_zero (by simpa using h)
    subst this
    exact ⟨[], rfl, rfl, by simp⟩
  | cons r rs ih =>
    intro rows h hi
    cases rows with
    | nil => simp at h
    | cons x rows =>
      obtain ⟨ras, h1, h2, h3⟩ := ih (rows := rows) (by simpa using h) fun i y hy => by
        have := hi (i + 1) y (by simpa using hy)
        simpa using this
      obtain ⟨lv, e1, e2⟩ := hi 0 r rfl
      have e1 : x = [.int .i64 r.1, .int .i64 r.2.1, lv] := by simpa using e1
      refine ⟨(r.1, r.2.1, lv, r.2.2) :: ras, by rw [List.map_cons, h1]; rfl, by rw [List.map_cons, h2, e1]; rfl, fun a ha => ?_⟩
      rcases List.mem_cons.1 ha with e | e
      · subst e; exact e2
      · exact h3 a e
theorem RcsF.ra {rs : List Rec} (h : RcsF Fz s v rs) : ∃ ras : List RA, ras.map raRec = rs ∧ SlR 3 s v (ras.map raR) ∧ ∀ a ∈ ras, LkOK Fz s a := by
  obtain ⟨rows, h1, h2, _, h3⟩ := h
  obtain ⟨ras, g1, g2, g3⟩ := rows_ra (Q := fun lv r => Sli s lv r.2.2 ∧ ∀ b o n c, lv = .slc b o n c 1 → r.2.2 ≠ [] → ¬ Fz b) h2 h3
  exact ⟨ras, g1, by rw [g2]; exact h1, fun a ha => g3 a ha⟩
def gsprd (jn : Int → Int → Bool) (n e : Int) (ras : List RA) (k : Nat) : List GM := (List.range k).flatMap fun k : Nat => if (k : Int) ≠ n ∧ (k : Int) ≠ e ∧ jn n k = true then ras.map fun a => (n, (k : Int), a) else []
theorem gsprd_msg {jn : Int → Int → Bool} {n e : Int} {ras : List RA} : (gsprd jn n e ras 8).map gMsg = sprd jn n e (ras.map raRec) := by
  unfold gsprd sprd
  rw [List.map_flatMap]
  congr 1
  funext k
  split
  · rw [List.map_map, List.map_map]; rfl
  · rfl
theorem gsprd_succ {jn : Int → Int → Bool} {n e : Int} {ras : List RA} {k : Nat} : gsprd jn n e ras (k + 1) = gsprd jn n e ras k ++ if (k : Int) ≠ n ∧ (k : Int) ≠ e ∧ jn n k = true then ras.map fun a => (n, (k : Int), a) else [] := by
  unfold gsprd
  rw [List.range_succ, List.flatMap_append]; simp
theorem mem_gsprd {jn : Int → Int → Bool} {n e : Int} {ras : List RA} {k : Nat} {g : GM} (h : g ∈ gsprd jn n e ras k) : g.2.2 ∈ ras := by
  unfold gsprd at h
  obtain ⟨j, _, h⟩ := List.mem_flatMap.1 h
  split at h
  · obtain ⟨a, ha, e⟩ := List.mem_map.1 h
    rw [← e]; exact ha
  · cases h
theorem gsprd_len {jn : Int → Int → Bool} {n e : Int} {ras : List RA} {k : Nat} : (gsprd jn n e ras k).length ≤ k * ras.length := by
  have := len_flat (l := List.range k) (f := fun k : Nat => if (k : Int) ≠ n ∧ (k : Int) ≠ e ∧ jn n k = true then ras.map fun a => (n, (k : Int), a) else ([] : List GM)) (c := ras.length) fun k _ => by
    split
    · rw [List.length_map]; exact Nat.le_refl _
    · exact Nat.zero_le _
  rw [List.length_range] at this
  exact this
theorem fillM {a b c d x : AVal} (ha : a.one = true) (hb : b.one = true) : fillR [(.int .i64 0), (.int .i64 0), (.int .i64 0), (.int .i64 0), .nilslc] [(0, 1, a), (1, 1, b), (2, 3, (.agg [c, d, x]))] = some [a, b, c, d, x] := by
  show cond (Nat.beq a.cells.length 1 && Nat.ble (0 + a.cells.length) 5) (fillR (setRange _ 0 a.cells) _) none = _
  rw [one_cells ha]
  show cond (Nat.beq b.cells.length 1 && Nat.ble (1 + b.cells.length) 5) (fillR (setRange _ 1 b.cells) _) none = _
  rw [one_cells hb]
  rfl
theorem gRow_one {g : GM} (h : g.2.2.2.2.1.one = true) : allOne (gRow g) = true := by
  unfold gRow
  rw [allOne_cons, allOne_cons, allOne_cons, allOne_cons, allOne_cons, h]; rfl
theorem lenRow (gs : List GM) : ∀ r ∈ gs.map gRow, r.length = 5 := fun r h => by obtain ⟨g, _, rfl⟩ := List.mem_map.1 h; rfl
/-- one message that is appended -/
theorem litM {g : GM} (h : g.2.2.2.2.1.one = true) {R : Nat → Heap → Prop} (hK : ∀ b s', s b = none → Sub s s' → SlR 5 s' (.slc b 0 1 (some 1) 5) ([g].map gRow) → R b s') :
    optK (fillR (repl 1 [(.int .i64 0), (.int .i64 0), (.int .i64 0), (.int .i64 0), .nilslc]) [(0, 5, (.agg (gRow g)))]) fun c => allOne c = true ∧ newK 63 c R s :=
  optK_of (a := gRow g) rfl ⟨gRow_one h, new_step fun b s1 hb h1 u1 => hK b s1 hb (u1.sub hb) (SlR.mk (lenRow _) (by simpa using h1) rfl (by simp))⟩
theorem litM' {g : GM} {n k p q : Int} {x : AVal} (hg : gRow g = [.int .i64 n, .int .i64 k, .int .i64 p, .int .i64 q, x]) (h : x.one = true) {R : Nat → Heap → Prop} (hK : ∀ b s', s b = none → Sub s s' → SlR 5 s' (.slc b 0 1 (some 1) 5) ([g].map gRow) → R b s') :
    optK (fillR (repl 1 [(.int .i64 0), (.int .i64 0), (.int .i64 0), (.int .i64 0), .nilslc]) [(0, 5, (.agg [.int .i64 n, .int .i64 k, .int .i64 p, .int .i64 q, x]))]) fun c => allOne c = true ∧ newK 63 c R s := by
  rw [← hg]
  refine litM ?_ hK
  have : g.2.2.2.2.1 = x := by
    unfold gRow at hg
    simp only [List.cons.injEq, and_true] at hg
    exact hg.2.2.2.2
  rw [this]; exact h
theorem Spread_in {us : List Bool} {n e : Int} {ras : List RA} (hu : Sl s uv (bls13 us)) (hl : SlR 3 s lv (ras.map raR)) (ho : ∀ a ∈ ras, a.2.2.1.one = true) (hlen : ras.length ≤ 1000)
    (hK : ∀ v s', Sub s s' → AccR 63 5 s s' v ((gsprd (jnB us) n e ras 8).map gRow) → K v s') : wpCall Try.prog XX 35 [uv, .int .i64 n, .int .i64 e, lv] K s := by
  refine vc_leafmeshlaw13_spread_in ?_
  refine ⟨fun ys t m => ∃ (k : Nat) (w : AVal), ys = [w, .int .i64 k] ∧ k ≤ 8 ∧ m = 8 - k ∧ Sub s t ∧ AccR 63 5 s t w ((gsprd (jnB us) n e ras k).map gRow), ⟨_, 0, _, rfl, by omega, rfl, .refl s, lenRow _, .inl ⟨rfl, rfl⟩⟩, ?_⟩
  rintro f t m ⟨k, w, hy, hk, rfl, hs, acc⟩
  simp only [List.cons.injEq, and_true] at hy
  rw [hy.1, hy.2]
  simp only [vc_leafmeshlaw13_spread_l0, arith_lss, optK_mk]
  refine boolK_mk (fun hlt => ?_) (fun hge => ?_)
  · have hlt : k < 8 := by have := of_decide_eq_true hlt; omega
    refine ⟨fun ys t m => ∃ (i : Nat) (w : AVal), ys = [w, .int .i64 i] ∧ i ≤ ras.length ∧ m = ras.length - i ∧ (0 < i → (k : Int) ≠ n ∧ (k : Int) ≠ e ∧ jnB us n k = true) ∧ Sub s t ∧ AccR 63 5 s t w ((gsprd (jnB us) n e ras k ++ (ras.take i).map fun a => (n, (k : Int), a)).map gRow), ⟨_, 0, w, rfl, by omega, rfl, fun h => by omega, hs, by simpa using acc⟩, ?_⟩
    rintro f2 t2 m ⟨i, w2, hy2, hi, rfl, hcond, hs2, acc2⟩
    simp only [List.cons.injEq, and_true] at hy2
    rw [hy2.1, hy2.2]
    -- the next node
    have next : ((k : Int) ≠ n ∧ (k : Int) ≠ e ∧ jnB us n k = true → i = ras.length) → ∃ m', m' < 8 - k ∧ ∃ (k' : Nat) (w : AVal), [w2, AVal.int .i64 ((k : Int) + 1)] = [w, .int .i64 k'] ∧ k' ≤ 8 ∧ m' = 8 - k' ∧ Sub s t2 ∧ AccR 63 5 s t2 w ((gsprd (jnB us) n e ras k').map gRow) := fun hall => by
      refine ⟨8 - (k + 1), by omega, k + 1, w2, rfl, by omega, rfl, hs2, ?_⟩
      rw [gsprd_succ]
      by_cases c : (k : Int) ≠ n ∧ (k : Int) ≠ e ∧ jnB us n k = true
      · rw [if_pos c]
        rw [hall c, List.take_length] at acc2
        exact acc2
      · rw [if_neg c]
        have : i = 0 := Nat.eq_zero_of_not_pos fun q => c (hcond q)
        subst this
        simpa using acc2
    have stop3 : ∀ t30 t34, pickV t30 t34 (.bool false) = some (.bool false) → ((k : Int) ≠ n ∧ (k : Int) ≠ e ∧ jnB us n k = true → i = ras.length) → vc_leafmeshlaw13_spread_j4 XX (.int .i64 n) lv w2 (.int .i64 k) (.int .i64 i) t30 t34 (fun ys t m => ∃ (i : Nat) (w : AVal), ys = [w, .int .i64 i] ∧ i ≤ ras.length ∧ m = ras.length - i ∧ (0 < i → (k : Int) ≠ n ∧ (k : Int) ≠ e ∧ jnB us n k = true) ∧ Sub s t ∧ AccR 63 5 s t w ((gsprd (jnB us) n e ras k ++ (ras.take i).map fun a => (n, (k : Int), a)).map gRow)) (ras.length - i) (fun ys t m => ∃ (k : Nat) (w : AVal), ys = [w, .int .i64 k] ∧ k ≤ 8 ∧ m = 8 - k ∧ Sub s t ∧ AccR 63 5 s t w ((gsprd (jnB us) n e ras k).map gRow)) (8 - k) K t2 := fun t30 t34 hp hall => by
      simp only [vc_leafmeshlaw13_spread_j4, hp, optK_mk, boolK_false, arith_add]
      rw [wrap64 (by omega) (by omega)]
      exact next hall
    simp only [vc_leafmeshlaw13_spread_l1, eqV_int, negB_mk, Bool.true_bne, optK_mk]
    cases c1 : ((k : Int) == n) with
    | true =>
      have c1 : (k : Int) = n := by simpa using c1
      simp only [Bool.not_true, boolK_false, vc_leafmeshlaw13_spread_j2, vc_leafmeshlaw13_spread_j3, pickV_false, optK_mk]
      exact stop3 (.bool false) .undef rfl fun c => absurd c1 c.1
    | false =>
      have c1 : (k : Int) ≠ n := by simpa using c1
      simp only [Bool.not_false, boolK_true, vc_leafmeshlaw13_spread_j2, pickV_true, optK_mk]
      cases c2 : ((k : Int) == e) with
      | true =>
        have c2 : (k : Int) = e := by simpa using c2
        simp only [Bool.not_true, boolK_false, vc_leafmeshlaw13_spread_j3, pickV_false, optK_mk]
        exact stop3 (.bool false) .undef rfl fun c => absurd c2 c.2.1
      | false =>
        have c2 : (k : Int) ≠ e := by simpa using c2
        simp only [Bool.not_false, boolK_true]
        refine joined_in (hu.sub hs2) ?_
        simp only [vc_leafmeshlaw13_spread_j3, pickV_true, optK_mk]
        refine boolK_mk (fun c3 => ?_) (fun c3 => ?_)
        · have hlen2 := (hl.sub hs2).len
          simp only [hlen2, optK_mk, arith_lss, List.length_map]
          by_cases hli : i < ras.length
          · have pk : pickV (.bool (jnB us n k)) (.bool (decide ((i : Int) < (ras.length : Int)))) (.bool false) = some (.bool true) := by rw [c3, decide_eq_true (show (i : Int) < ras.length by omega)]; rfl
            obtain ⟨b, o, g1, g2, _⟩ := (hl.sub hs2).get (i := i) (r := raR ras[i]) (by simp [hli])
            have hone := ho _ (List.getElem_mem hli)
            simp only [vc_leafmeshlaw13_spread_j4, pk, boolK_true, g1, g2, optK_mk]
            refine optK_of (fillM (a := .int .i64 n) (b := .int .i64 k) (c := .int .i64 ras[i].1) (d := .int .i64 ras[i].2.1) (x := ras[i].2.2.1) rfl rfl) ?_
            refine litM' (g := (n, (k : Int), ras[i])) (n := n) (k := k) (p := ras[i].1) (q := ras[i].2.1) (x := ras[i].2.2.1) rfl hone fun b3 s3 hb3 sub3 lit => ?_
            have accS := acc2.sub sub3
            have hl8 := gsprd_len (jn := jnB us) (n := n) (e := e) (ras := ras) (k := k)
            have hkr : k * ras.length ≤ 8 * 1000 := Nat.mul_le_mul (by omega) hlen
            refine accS.app lit (by simp) (by simp; omega) (hs2.trans sub3) fun w4 s4 acc4 sub4 => ?_
            simp only [arith_add, optK_mk]
            rw [wrap64 (by omega) (by omega)]
            refine ⟨ras.length - (i + 1), by omega, i + 1, w4, rfl, by omega, rfl, fun _ => ⟨c1, c2, c3⟩, sub4, ?_⟩
            have e1 : ras.take (i + 1) = ras.take i ++ [ras[i]] := by rw [List.take_add_one, List.getElem?_eq_getElem hli]; rfl
            have e2 : gsprd (jnB us) n e ras k ++ (ras.take (i + 1)).map (fun a => (n, (k : Int), a)) = (gsprd (jnB us) n e ras k ++ (ras.take i).map fun a => (n, (k : Int), a)) ++ [(n, (k : Int), ras[i])] := by rw [e1, List.map_append, List.append_assoc]; rfl
            rw [e2, List.map_append (l₂ := [(n, (k : Int), ras[i])])]
            exact acc4
          · refine stop3 (.bool (jnB us n k)) (.bool (decide ((i : Int) < (ras.length : Int)))) ?_ fun _ => by omega
            rw [c3, decide_eq_false (show ¬ (i : Int) < ras.length by omega)]; rfl
        · refine stop3 (.bool (jnB us n k)) .undef (by rw [c3]; rfl) fun c => ?_
          rw [c3] at c; exact absurd c.2.2 (by decide)
  · have hge : k = 8 := by have := of_decide_eq_false hge; omega
    subst hge
    exact hK w t hs acc
end Go.AM
namespace Go.AM
open Go Go.Proofs
variable {K : AVal → Heap → Prop} {s s' s0 : Heap} {Fz : Nat → Prop} {d m : Nat} {nodes node last n q : Int} {F G : List (Int × Rec)} {v : AVal} {L : List Int}
theorem recv_src {r x : Rec} {k : Int} (hno : look F node = none) (hx : look (recvR 8 node last F r).F k = some x) : x = r ∨ look F k = some x := by
  by_cases hc : chkR 8 r.1 r.2.1 r.2.2 = 0
  · rw [recv_look hc] at hx
    by_cases e : k = r.1
    · rw [if_pos e] at hx
      unfold upV at hx
      cases e2 : look F k with
      | none =>
        rw [e2] at hx
        simp only at hx
        split at hx
        · cases hx
        · cases hx; exact .inl rfl
      | some o =>
        rw [e2] at hx
        simp only at hx
        split at hx
        · split at hx
          · rename_i hn
            rw [e, hn, hno] at e2; cases e2
          · cases hx; exact .inl rfl
        · exact .inr hx
    · rw [if_neg e] at hx
      exact .inr hx
  · rw [show r = (r.1, r.2.1, r.2.2) from rfl, recvR_err hc] at hx
    exact .inr hx
theorem begun2_in {rv lv : AVal} {rs : List Rec} (hn : 0 ≤ node ∧ node < 8) (ha : Rcs s rv rs) (hm : rs.length ≤ 60) (hsh : ∀ r ∈ rs, r.2.2.length ≤ 20) (hy : ∀ r ∈ rs, r.2.1 < 536870912) (hL : Sli s lv L) (hLl : L.length ≤ 100000) (hchk : chkL none L = 0)
    (hK : ∀ s' d m last F, Sub s s' → s d = none → s m = none → Db (fun b => s b ≠ none) s' d m 8 node last F → GoodF 8 F → look F node = some (node, last, L) → (∀ k r, look F k = some r → k = node ∨ r ∈ rs) → K (.ptr d 0) s') : wpCall Try.prog XX 31 [.int .i64 node, rv, lv] K s := by
  refine vc_leafmeshlaw13_begun_in (New13_in (by omega) fun s1 d m sub1 hd hmm mk => ?_)
  have z1 := mk (fun b => s b ≠ none) fun b h => h
  simp only [ext0, ext1, eqV_int, eqV_ptr, negB_mk, beq_self_eq_true, Bool.true_bne, Bool.false_bne, Bool.not_true, boolK_false, vc_leafmeshlaw13_begun_j0, pickV_false, optK_mk]
  refine ⟨fun ys t k => ∃ (i : Nat) (la : Int) (F : List (Int × Rec)), ys = [.int .i64 i] ∧ i ≤ rs.length ∧ k = rs.length - i ∧ Sub s t ∧ Db (fun b => s b ≠ none) t d m 8 node la F ∧ Inv13 node 536870912 la F ∧ ∀ k r, look F k = some r → r ∈ rs, ⟨_, 0, 0, [], rfl, by omega, rfl, sub1, z1, ⟨fun k r h => (by cases h), fun k r h => (by cases h), rfl, by omega⟩, fun k r h => by cases h⟩, ?_⟩
  rintro f t k ⟨i, la, F, hy1, hi, rfl, hs, z, inv, src⟩
  simp only [List.cons.injEq, and_true] at hy1
  rw [hy1]
  have har := ha.sub hs
  have hF : ∀ b, s b ≠ none → t b ≠ none := fun b hb => by
    cases e : s b with
    | none => exact absurd e hb
    | some x => rw [hs b x e]; exact Option.some_ne_none _
  have subK : ∀ {t' : Heap}, KeepBut (fun i => i = d ∨ i = m) t t' → Sub s t' := fun {t'} k b e hb => k b e (hs b e hb) (by rintro (rfl | rfl); rw [hd] at hb; cases hb; rw [hmm] at hb; cases hb)
  simp only [vc_leafmeshlaw13_begun_l1, har.len, arith_lss, optK_mk]
  refine boolK_mk (fun hlt => ?_) (fun hge => ?_)
  · have hlt : i < rs.length := by have := of_decide_eq_true hlt; omega
    obtain ⟨p, o, lv', g1, g2, g3, _⟩ := har.at hlt
    have hrl := hsh _ (List.getElem_mem hlt)
    simp only [g1, g2, optK_mk]
    refine Receive_in z hF g3 (by omega) fun t' kb z' => ?_
    simp only [arith_add, optK_mk]
    rw [wrap64 (by omega) (by omega)]
    exact ⟨_, by omega, i + 1, _, _, rfl, by omega, rfl, subK kb, z', inv13_step inv (hy _ (List.getElem_mem hlt)), fun k x hx => by
      rcases recv_src inv.no hx with e | e
      · rw [e]; exact List.getElem_mem hlt
      · exact src k x e⟩
  · have hla := inv.la
    refine Own1_in z hF (hL.sub hs) hLl inv.no (by omega) hchk fun t' v' kb z' sl' => ?_
    simp only [ext3, optK_mk]
    refine new_step fun b t1 hb h1 u1 => wrAgg_step h1 rfl rfl (by rw [allOne_cons, allOne_cons, allOne_cons, sl'.one]; rfl) fun t2 h2 u2 => ?_
    have subt : Sub t' t2 := (u1.sub hb).upto u2 hb
    simp only [eqV_int, negB_mk, beq_self_eq_true, Bool.true_bne, Bool.not_true, boolK_false, optK_mk]
    refine hK t2 d m _ _ ((subK kb).trans subt) hd hmm (z'.sub subt) (fun k r h => ?_) (by rw [look_stor, if_pos rfl]) fun k r h => ?_
    · rw [look_stor] at h
      split at h
      · rename_i e
        cases h
        refine ⟨e.symm, ?_⟩
        unfold chkR
        rw [if_neg (by show ¬ (node < 0 ∨ 8 ≤ node ∨ la + 1 < 1 ∨ 1073741824 < la + 1); omega)]
        exact hchk
      · exact inv.gd k r h
    · rw [look_stor] at h
      split at h
      · rename_i e; exact .inl e
      · exact .inr (src k r h)
end Go.AM
namespace Go.AM
open Go Go.Proofs
variable {K : AVal → Heap → Prop} {h h' s s' s0 : Heap} {v tv dv : AVal} {N : Nat} {D M : Nat → Nat} {X : Nat → St13} {gs : List GM}
/-! ### the databases of several nodes, apart from lists that grow -/
def Wd (N : Nat) (D M : Nat → Nat) (b : Nat) : Prop := ∃ j, j < N ∧ (b = D j ∨ b = M j)
def Wx (N : Nat) (D M : Nat → Nat) (k b : Nat) : Prop := ∃ j, j < N ∧ j ≠ k ∧ (b = D j ∨ b = M j)
structure Net (N : Nat) (h : Heap) (D M : Nat → Nat) (X : Nat → St13) (gs : List GM) : Prop where
  db : ∀ k, k < N → Db (Wx N D M k) h (D k) (M k) 8 k (X k).last (X k).F
  lk : ∀ g ∈ gs, LkOK (Wd N D M) h g.2.2 ∧ g.2.2.2.2.2.length ≤ 100000
theorem Net.sub (z : Net N h D M X gs) (k : Sub h h') : Net N h' D M X gs := ⟨fun j hj => (z.db j hj).sub k, fun g hg => ⟨(z.lk g hg).1.sub k, (z.lk g hg).2⟩⟩
theorem Net.alive (z : Net N h D M X gs) {b : Nat} (hb : Wd N D M b) : h b ≠ none := by
  obtain ⟨j, hj, rfl | rfl⟩ := hb
  · exact (z.db j hj).alive.1
  · exact (z.db j hj).alive.2
/-- what a memory has beyond another one is nothing of a database's -/
theorem Db.up {Fz : Nat → Prop} {d m : Nat} {nodes node last : Int} {F : List (Int × Rec)} (z : Db Fz h d m nodes node last F) (k : Sub h s) : Db (fun b => Fz b ∨ h b = none) s d m nodes node last F := by
  obtain ⟨l, ⟨es, c, h1, h2⟩, h3⟩ := z.mp
  refine ⟨k _ _ z.dc, ⟨l, ⟨es, c, k _ _ h1, h2⟩, h3.mono fun a b ⟨lv, e, h4, h5⟩ => ⟨lv, e, h4.sub k, fun b' o n c e' hne => ?_⟩⟩, ?_, ?_, z.nn, z.gd⟩
  · obtain ⟨q1, q2, q3⟩ := h5 b' o n c e' hne
    refine ⟨fun q => q.elim q1 fun q => ?_, q2, q3⟩
    subst e'
    rcases h4 with ⟨q0, _⟩ | ⟨b2, o2, c2, q0, _, q4⟩
    · cases q0
    · cases q0
      obtain ⟨t, e, cs, q5, _⟩ := q4 (by simpa using hne)
      rw [q5] at q; cases q
  · exact fun q => q.elim z.fd fun q => z.alive.1 q
  · exact fun q => q.elim z.fm fun q => z.alive.2 q
theorem LkOK.up {W : Nat → Prop} {a : RA} (z : LkOK W h a) (k : Sub h s) : LkOK (fun b => W b ∨ h b = none) s a := by
  refine ⟨z.1.sub k, fun b o n c e hne q => q.elim (z.2 b o n c e hne) fun q => ?_⟩
  obtain ⟨h4, _⟩ := z
  rw [e] at h4
  rcases h4 with ⟨q0, _⟩ | ⟨b2, o2, c2, q0, _, q4⟩
  · cases q0
  · cases q0
    obtain ⟨t, e, cs, q5, _⟩ := q4 (by simpa using hne)
    rw [q5] at q; cases q
/-- x without what s has beyond h -/
def cutB (x h s : Heap) : Heap := fun i => if (h i).isNone = true ∧ (s i).isSome = true then none else x i
theorem cutB_sub {x : Heap} : Sub (cutB x h s) x := fun i e hi => by
  unfold cutB at hi
  split at hi
  · cases hi
  · exact hi
theorem cutB_keep {x : Heap} : KeepBut (fun i => h i = none ∧ s i ≠ none) x (cutB x h s) := fun i e hi hn => by
  unfold cutB
  rw [if_neg]
  · exact hi
  · rintro ⟨a, b⟩
    exact hn ⟨by simpa using a, fun q => by rw [q] at b; cases b⟩
theorem cutB_none {x : Heap} {i : Nat} (h1 : h i = none) (h2 : s i ≠ none) : cutB x h s i = none := by
  unfold cutB
  rw [if_pos]
  refine ⟨by rw [h1]; rfl, ?_⟩
  cases e : s i with
  | none => exact absurd e h2
  | some y => rfl
theorem cutB_at {x : Heap} {i : Nat} {e : Bool × Blk} (hx : x i = some e) (hi : h i ≠ none ∨ s i = none) : cutB x h s i = some e := by
  refine cutB_keep i e hx ?_
  rintro ⟨a, b⟩
  rcases hi with q | q
  · exact q a
  · exact b q
/-- a list of messages that grows -/
def OwnM (h s : Heap) (v : AVal) (rows : List (List AVal)) : Prop := (rows = [] ∧ ∃ b, v = .slc b 0 0 (some 0) 5) ∨ AccR 63 5 h s v rows
theorem OwnM.mono {rows : List (List AVal)} (z : OwnM h s v rows) (hs : ∀ b, h b = none → s b ≠ none → h' b = none ∧ s' b = s b) : OwnM h' s' v rows := by
  rcases z with z | ⟨z0, z⟩
  · exact .inl z
  · refine .inr ⟨z0, ?_⟩
    rcases z with z | ⟨b, h1, h2, h3⟩
    · exact .inl z
    · obtain ⟨q1, q2⟩ := hs b h1 (by rw [h3]; simp)
      exact .inr ⟨b, q1, h2, by rw [q2]; exact h3⟩
theorem OwnM.sl {rows : List (List AVal)} (z : OwnM h s v rows) : SlR 5 s v rows := by
  rcases z with ⟨rfl, b, rfl⟩ | z
  · exact .empty
  · exact z.sl
/-- a record is received by one of the nodes -/
theorem net_recv {t : Nat} {n q : Int} {lv : AVal} {L : List Int} {rows : List (List AVal)} (z : Net N h D M X gs) (hs : Sub h s) (ht : t < N) (hl : Sli s lv L) (hll : L.length ≤ 100000) (acc : OwnM h s tv rows)
    (hK : ∀ h' s', Sub h' s' → Net N h' D M (updD X t ⟨(recvR 8 t (X t).last (X t).F (n, q, L)).last, (recvR 8 t (X t).last (X t).F (n, q, L)).F⟩) gs → OwnM h' s' tv rows → KeepBut (Wd N D M) s s' → KeepBut (Wd N D M) h h' →
      K (.tup [.int .i64 (recvR 8 t (X t).last (X t).F (n, q, L)).code, .int .i64 (recvR 8 t (X t).last (X t).F (n, q, L)).err]) s') : wpCall Try.prog XX 27 [.ptr (D t) 0, recV n q lv] K s := by
  have zt := (z.db t ht).up hs
  have za := z.db t ht
  have wt : ∀ b, b = D t ∨ b = M t → Wd N D M b := fun b hb => ⟨t, ht, hb⟩
  refine Receive_in (zt.weak (Fz := fun b => Wx N D M t b ∨ (h b = none ∧ s b ≠ none)) fun b hb => hb.imp id And.left) (fun b hb => ?_) hl hll fun s2 k2 z2 => ?_
  · rcases hb with ⟨j, hj, _, hb⟩ | hb
    · cases e : h b with
      | none => exact absurd e (z.alive ⟨j, hj, hb⟩)
      | some y => rw [hs b y e]; exact Option.some_ne_none _
    · exact hb.2
  have kW : KeepBut (Wd N D M) s s2 := fun b e hb hn => k2 b e hb fun q => hn (wt b q)
  -- the memory without the list
  have own : ∀ b, h b = none → s b ≠ none → cutB s2 h s b = none ∧ s2 b = s b := fun b h1 h2 => by
    refine ⟨cutB_none h1 h2, ?_⟩
    cases e : s b with
    | none => exact absurd e h2
    | some y => exact k2 b y e (by rintro (q | q); exact za.alive.1 (by rw [← q]; exact h1); exact za.alive.2 (by rw [← q]; exact h1))
  have kh : KeepBut (fun b => b = D t ∨ b = M t) h (cutB s2 h s) := fun b e hb hn => cutB_at (k2 b e (hs b e hb) hn) (.inl (by rw [hb]; simp))
  refine hK (cutB s2 h s) s2 cutB_sub ⟨fun k hk => ?_, fun g hg => ?_⟩ (acc.mono own) kW fun b e hb hn => kh b e hb fun q => hn (wt b q)
  · by_cases e : k = t
    · subst e
      rw [updD_same]
      exact (z2.keep (fp := fun i => h i = none ∧ s i ≠ none) cutB_keep fun b hb => .inr hb).weak fun b hb => .inl hb
    · rw [updD_ne e]
      exact (z.db k hk).keep kh fun b hb => ⟨t, ht, Ne.symm e, hb⟩
  · exact ⟨(z.lk g hg).1.keep kh wt, (z.lk g hg).2⟩
end Go.AM
namespace Go.AM
open Go Go.Proofs
variable {K : AVal → Heap → Prop} {h h' s s' s0 : Heap} {v tv dv : AVal} {N : Nat} {D M : Nat → Nat} {X : Nat → St13} {gs : List GM}
def updN (f : Nat → Nat) (k x : Nat) : Nat → Nat := fun i => if i = k then x else f i
theorem updN_same {f : Nat → Nat} {k x : Nat} : updN f k x k = x := if_pos rfl
theorem updN_ne {f : Nat → Nat} {k x i : Nat} (e : i ≠ k) : updN f k x i = f i := if_neg e
theorem sub_none {b : Nat} (k : Sub h s) (e : s b = none) : h b = none := by
  cases q : h b with
  | none => rfl
  | some x => rw [k b x q] at e; cases e
/-- one more node -/
theorem net_new {d m : Nat} {last : Int} {F : List (Int × Rec)} (z : Net N h D M X gs) (hs : Sub h s) (ss : Sub s s') (hd : s d = none) (hm : s m = none) (zn : Db (fun b => s b ≠ none) s' d m 8 N last F) :
    Net (N + 1) (cutB s' h s) (updN D N d) (updN M N m) (updD X N ⟨last, F⟩) gs ∧ Sub h (cutB s' h s) := by
  have sub : Sub h (cutB s' h s) := fun i e hi => cutB_at (ss _ _ (hs _ _ hi)) (.inl (by rw [hi]; simp))
  have hd0 := sub_none hs hd
  have hm0 := sub_none hs hm
  refine ⟨⟨fun k hk => ?_, fun g hg => ⟨((z.lk g hg).1.up sub).weak fun b hb => ?_, (z.lk g hg).2⟩⟩, sub⟩
  · by_cases e : k = N
    · subst e
      rw [updN_same, updN_same, updD_same]
      refine (zn.keep (fp := fun i => h i = none ∧ s i ≠ none) cutB_keep fun b hb => hb.2).weak fun b hb => ?_
      obtain ⟨j, hj, hne, hb⟩ := hb
      have hj : j < k := by omega
      rw [updN_ne hne, updN_ne hne] at hb
      cases q : h b with
      | none => exact absurd q (z.alive ⟨j, hj, hb⟩)
      | some y => rw [hs b y q]; exact Option.some_ne_none _
    · rw [updN_ne e, updN_ne e, updD_ne e]
      refine ((z.db k (by omega)).up sub).weak fun b hb => ?_
      obtain ⟨j, hj, hne, hb⟩ := hb
      by_cases ej : j = N
      · subst ej
        rw [updN_same, updN_same] at hb
        refine .inr ?_
        rcases hb with rfl | rfl
        · exact hd0
        · exact hm0
      · rw [updN_ne ej, updN_ne ej] at hb
        exact .inl ⟨j, by omega, hne, hb⟩
  · obtain ⟨j, hj, hb⟩ := hb
    by_cases ej : j = N
    · subst ej
      rw [updN_same, updN_same] at hb
      refine .inr ?_
      rcases hb with rfl | rfl
      · exact hd0
      · exact hm0
    · rw [updN_ne ej, updN_ne ej] at hb
      exact .inl ⟨j, by omega, hb⟩
theorem Net.add {gs2 : List GM} (z : Net N h D M X gs) (k : ∀ g ∈ gs2, LkOK (Wd N D M) h g.2.2 ∧ g.2.2.2.2.2.length ≤ 100000) : Net N h D M X (gs ++ gs2) := ⟨z.db, fun g hg => (List.mem_append.1 hg).elim (z.lk g) (k g)⟩
/-! ### two lists that grow, apart from the rest -/
structure Two (h s : Heap) (dv : AVal) (l : List AVal) (tv : AVal) (rows : List (List AVal)) : Prop where
  sub : Sub h s
  da : Acc 32 h s dv l
  ta : OwnM h s tv rows
  ne : ∀ b n c b' n', dv = .slc b 0 n c 1 → tv = .slc b' 0 n' none 5 → b ≠ b'
theorem hdel_at {b i : Nat} (e : i ≠ b) : hdel s b i = s i := if_neg e
theorem hdel_no {b : Nat} : hdel s b b = none := if_pos rfl
theorem hdel_sub {b : Nat} : Sub (hdel s b) s := fun i e hi => by
  by_cases q : i = b
  · rw [q, hdel_no] at hi; cases hi
  · rw [hdel_at q] at hi; exact hi
theorem OwnM.blk {rows : List (List AVal)} {b n : Nat} (z : OwnM h s tv rows) (e : tv = .slc b 0 n none 5) : h b = none ∧ s b ≠ none := by
  rcases z with ⟨_, b', e'⟩ | ⟨_, ⟨e', _⟩ | ⟨b', h1, e', h3⟩⟩
  · rw [e] at e'; cases e'
  · rw [e] at e'; cases e'
  · rw [e] at e'; cases e'
    exact ⟨h1, by rw [h3]; simp⟩
theorem Acc.blk {e : TypeId} {l : List AVal} {b n : Nat} {c : Option Nat} (z : Acc e h s dv l) (q : dv = .slc b 0 n c 1) : h b = none ∧ s b ≠ none := by
  rcases z with ⟨e', _⟩ | ⟨b', h1, e', h3⟩
  · rw [q] at e'; cases e'
  · rw [q] at e'; cases e'
    exact ⟨h1, by rw [h3]; simp⟩
theorem OwnM.mono2 {rows : List (List AVal)} (z : OwnM h s tv rows) (hs : ∀ b n, tv = .slc b 0 n none 5 → h b = none → s b ≠ none → h' b = none ∧ s' b = s b) : OwnM h' s' tv rows := by
  rcases z with z | ⟨z0, z⟩
  · exact .inl z
  · refine .inr ⟨z0, ?_⟩
    rcases z with z | ⟨b, h1, h2, h3⟩
    · exact .inl z
    · obtain ⟨q1, q2⟩ := hs b _ h2 h1 (by rw [h3]; simp)
      exact .inr ⟨b, q1, h2, by rw [q2]; exact h3⟩
theorem Acc.mono2 {e : TypeId} {l : List AVal} (z : Acc e h s dv l) (hs : ∀ b n, dv = .slc b 0 n none 1 → h b = none → s b ≠ none → h' b = none ∧ s' b = s b) : Acc e h' s' dv l := by
  rcases z with z | ⟨b, h1, h2, h3⟩
  · exact .inl z
  · obtain ⟨q1, q2⟩ := hs b _ h2 h1 (by rw [h3]; simp)
    exact .inr ⟨b, q1, h2, by rw [q2]; exact h3⟩
theorem Two.up {l : List AVal} {rows : List (List AVal)} (z : Two h s dv l tv rows) (hs : Sub s s') (hh : Sub h' s') (hn : ∀ b, h b = none → s b ≠ none → h' b = none) : Two h' s' dv l tv rows := by
  have key : ∀ b, h b = none → s b ≠ none → h' b = none ∧ s' b = s b := fun b h1 h2 => by
    refine ⟨hn b h1 h2, ?_⟩
    cases e : s b with
    | none => exact absurd e h2
    | some y => exact hs b y e
  exact ⟨hh, z.da.mono2 fun b n _ => key b, z.ta.mono2 fun b n _ => key b, z.ne⟩
theorem Two.more {l : List AVal} {rows : List (List AVal)} (z : Two h s dv l tv rows) (hs : Sub s s') : Two h s' dv l tv rows := z.up hs (z.sub.trans hs) fun _ h _ => h
theorem two_d {l : List AVal} {rows : List (List AVal)} {x y : AVal} (z : Two h s dv l tv rows) (hy : Sl s y [x]) (hl : l.length ≤ 1000) (hK : ∀ v' s', Two h s' v' (l ++ [x]) tv rows → K v' s') : appK 32 1 dv y K s := by
  rcases z.da with ⟨rfl, rfl⟩ | ⟨b, hb0, rfl, hb⟩
  · refine Acc.app (s0 := s) (.inl ⟨rfl, rfl⟩) hy (by simp) (by simp) (fun i hi => hi) fun v' s1 a keep => ?_
    have sub1 : Sub s s1 := fun i e hi => keep i e hi fun b q => by cases q
    refine hK v' s1 ⟨z.sub.trans sub1, a.mono2 fun b n _ h1 h2 => ⟨sub_none z.sub h1, rfl⟩, (z.more sub1).ta, fun b n c b' n' e e' q => ?_⟩
    subst q
    exact (z.ta.blk e').2 (a.blk e).1
  · refine Acc.app (s0 := hdel s b) (.inr ⟨b, hdel_no, rfl, hb⟩) hy (by simp) (by simp; omega) (fun i hi q => ?_) fun v' s1 a keep => ?_
    · cases e : hdel s b i with
      | none => exact hi e
      | some w => rw [hdel_sub i w e] at q; cases q
    · have keep' : ∀ i e, i ≠ b → s i = some e → s1 i = some e := fun i e hne hi => keep i e hi fun b' q => by cases q; exact hne
      have nb : ∀ i, h i ≠ none → i ≠ b := fun i hi q => hi (by rw [q]; exact hb0)
      have old : ∀ c, hdel s b c = none → h c = none := fun c hc => by
        cases e : h c with
        | none => rfl
        | some w =>
          rw [hdel_at (nb c (by rw [e]; simp)), z.sub c w e] at hc
          cases hc
      refine hK v' s1 ⟨fun i e hi => keep' i e (nb i (by rw [hi]; simp)) (z.sub i e hi), a.mono2 fun c n _ h1 h2 => ⟨old c h1, rfl⟩, z.ta.mono2 fun c n e h1 h2 => ⟨h1, ?_⟩, fun c n cp b' n' e e' q => ?_⟩
      · have hne : c ≠ b := Ne.symm (z.ne _ _ _ _ _ rfl e)
        cases q : s c with
        | none => exact absurd q h2
        | some w => exact keep' c w hne q
      · subst q
        have hne : c ≠ b := Ne.symm (z.ne _ _ _ _ _ rfl e')
        have h1 := (a.blk e).1
        rw [hdel_at hne] at h1
        exact (z.ta.blk e').2 h1
theorem two_t {l : List AVal} {rows m : List (List AVal)} {y : AVal} (z : Two h s dv l tv rows) (hy : SlR 5 s y m) (hl : rows.length + m.length ≤ 16777216) (hK : ∀ v' s', Two h s' dv l v' (rows ++ m) → K v' s') : appK 63 5 tv y K s := by
  have plain : OwnM s s tv rows → appK 63 5 tv y K s := fun w => by
    refine app_ownR (s0 := s) w hy hl (.refl s) fun v' s1 a sub1 => ?_
    have a : OwnM s s1 v' (rows ++ m) := a
    refine hK v' s1 ⟨z.sub.trans sub1, (z.more sub1).da, a.mono2 fun b n _ h1 h2 => ⟨sub_none z.sub h1, rfl⟩, fun b n c b' n' e e' q => ?_⟩
    subst q
    exact (z.da.blk e).2 (a.blk e').1
  rcases z.ta with w | ⟨w0, w | ⟨b, hb0, rfl, hb⟩⟩
  · exact plain (.inl w)
  · exact plain (.inr ⟨w0, .inl w⟩)
  · refine app_ownR (s0 := hdel s b) (.inr ⟨w0, .inr ⟨b, hdel_no, rfl, hb⟩⟩) hy hl hdel_sub fun v' s1 a sub1 => ?_
    have a : OwnM (hdel s b) s1 v' (rows ++ m) := a
    have nb : ∀ i, h i ≠ none → i ≠ b := fun i hi q => hi (by rw [q]; exact hb0)
    have old : ∀ c, hdel s b c = none → h c = none := fun c hc => by
      cases e : h c with
      | none => rfl
      | some w =>
        rw [hdel_at (nb c (by rw [e]; simp)), z.sub c w e] at hc
        cases hc
    refine hK v' s1 ⟨fun i e hi => sub1 i e (by rw [hdel_at (nb i (by rw [hi]; simp))]; exact z.sub i e hi), z.da.mono2 fun c n e h1 h2 => ⟨h1, ?_⟩, a.mono2 fun c n _ h1 h2 => ⟨old c h1, rfl⟩, fun c n cp b' n' e e' q => ?_⟩
    · have hne : c ≠ b := z.ne _ _ _ _ _ e rfl
      cases q : s c with
      | none => exact absurd q h2
      | some w => exact sub1 c w (by rw [hdel_at hne]; exact q)
    · subst q
      have hne : c ≠ b := z.ne _ _ _ _ _ e rfl
      have h1 := (a.blk e').1
      rw [hdel_at hne] at h1
      exact (z.da.blk e).2 h1
end Go.AM
namespace Go.AM
open Go Go.Proofs
variable {K : AVal → Heap → Prop} {h h' s s' h0 : Heap} {v tv dv uv ov : AVal} {D M : Nat → Nat} {X : Nat → St13} {gs : List GM} {us : List Bool} {os : List Int} {l : List Rec}
/-- a list that stays as it is -/
def SlW (W : Nat → Prop) (s : Heap) (v : AVal) (l : List AVal) : Prop := Sl s v l ∧ ∀ b o n c, v = .slc b o n c 1 → l ≠ [] → ¬ W b
theorem SlW.keep {W : Nat → Prop} {l : List AVal} (z : SlW W s v l) (k : KeepBut W s s') : SlW W s' v l := ⟨z.1.keep k fun b o n c e hne => z.2 b o n c e hne, z.2⟩
def ptrs (D : Nat → Nat) (n : Nat) : List AVal := (List.range n).map fun k => .ptr (D k) 0
structure Sta (h0 : Heap) (D M : Nat → Nat) (uv dv ov : AVal) (us : List Bool) (os : List Int) : Prop where
  hu : SlW (Wd 8 D M) h0 uv (bls13 us)
  hd : SlW (Wd 8 D M) h0 dv (ptrs D 8)
  ho : SlW (Wd 8 D M) h0 ov (os.map (AVal.int .i64))
def Inv8 (h0 : Heap) (us : List Bool) (l : List Rec) (D M : Nat → Nat) (ys : List AVal) (s : Heap) (m : Nat) : Prop := ∃ (turns : Nat) (tv : AVal) (h : Heap) (X : Nat → St13) (gs : List GM) (A : List Rec), ys = [tv, .int .i64 turns] ∧ Sub h s ∧ KeepBut (Wd 8 D M) h0 h ∧ Net 8 h D M X gs ∧ OwnM h s tv (gs.map gRow) ∧
  Flo (jnB us) l A X (gs.map gMsg) ∧ A.length + PP l X ≤ 48 ∧ Phi l A X (gs.map gMsg) + turns ≤ 175616 ∧ m = Phi l A X (gs.map gMsg)
theorem ptr_at {h : Heap} (z : Sl h dv (ptrs D 8)) {t : Nat} (ht : t < 8) : ∃ p, iaddrS 1 dv (.int .i64 (t : Int)) = some p ∧ rd1 h p = some (.ptr (D t) 0) := by
  have hl : (ptrs D 8).length = 8 := by unfold ptrs; simp
  obtain ⟨p, h1, h2⟩ := z.get (i := t) (by rw [hl]; exact ht)
  refine ⟨p, h1, ?_⟩
  rw [h2]
  unfold ptrs
  rw [List.getElem?_map, List.getElem?_range ht]
  rfl
theorem two_own {rows : List (List AVal)} (hs : Sub h s) (z : OwnM h s tv rows) : Two h s .nilslc [] tv rows := ⟨hs, .inl ⟨rfl, rfl⟩, z, fun b n c b' n' e => by cases e⟩
theorem litR {a : RA} (ho : a.2.2.1.one = true) {R : Nat → Heap → Prop} (hK : ∀ b s', s b = none → Sub s s' → SlR 3 s' (.slc b 0 1 (some 1) 3) ([a].map raR) → R b s') :
    optK (fillR (repl 1 [(.int .i64 0), (.int .i64 0), .nilslc]) [(0, 3, (.agg [.int .i64 a.1, .int .i64 a.2.1, a.2.2.1]))]) fun c => allOne c = true ∧ newK 24 c R s :=
  optK_of (a := raR a) rfl ⟨by unfold raR; rw [allOne_cons, allOne_cons, allOne_cons, ho]; rfl, new_step fun b s1 hb h1 u1 => hK b s1 hb (u1.sub hb) (SlR.mk (fun r hr => by obtain ⟨g, _, rfl⟩ := List.mem_map.1 hr; rfl) (by simpa using h1) rfl (by simp))⟩
theorem j10_in {t f : Nat} {c : Rec} {code : Int} {b64 b98 : Nat} {v' w : AVal} {g : GM} {rows : List (List AVal)} {turns : Nat} {I8 : List AVal → Heap → Nat → Prop} {m8 : Nat} {s84 : Heap}
    (hg1 : g.1 = (f : Int)) (hg2 : g.2.1 = (t : Int)) (hu : Sl s uv (bls13 us)) (hb64 : s b64 = some (false, .cells 63 (gRow g))) (hb98 : s b98 = some (false, .cells 24 [.int .i64 c.1, .int .i64 c.2.1, v'])) (hv : v'.one = true)
    (two : Two h s84 .nilslc [] w rows) (hs : Sub s84 s) (hlen : rows.length ≤ 1000000) (hcode : code = 0 ∨ code = 1 ∨ code = 2 ∨ code = 3)
    (fin : ∀ (gn : List GM) (s4 : Heap) (w4 : AVal), gn.map gMsg = (if code = 1 then sprd (jnB us) t f [c] else if code = 3 then sprd (jnB us) t (-1) [c] else if code = 2 then [((t : Int), (f : Int), c)] else []) → (∀ g ∈ gn, g.2.2 = (c.1, c.2.1, v', c.2.2)) → (∃ s3, Sub s s3 ∧ Two (cutB s3 h s84) s4 .nilslc [] w4 (rows ++ gn.map gRow)) →
      vc_leafmeshlaw13_LsdbFloods_j11 XX w4 (.int .i64 turns) I8 m8 K s4) :
    vc_leafmeshlaw13_LsdbFloods_j10 XX uv w (.int .i64 turns) (.ptr b64 0) (.int .i64 code) (.ptr b98 0) (.bool false) (.bool false) I8 m8 K s := by
  have x0 : (gRow g)[0]? = some (.int .i64 (f : Int)) := by unfold gRow; rw [hg1]; rfl
  have x1 : (gRow g)[1]? = some (.int .i64 (t : Int)) := by unfold gRow; rw [hg2]; rfl
  have ra1 : raRec (c.1, c.2.1, v', c.2.2) = c := rfl
  -- the list at a later memory
  have up : ∀ s3, Sub s s3 → Two (cutB s3 h s84) s3 .nilslc [] w rows := fun s3 hs3 => two.up (hs.trans hs3) cutB_sub fun b h1 h2 => cutB_none h1 h2
  have sp : ∀ e : Int, ∀ s3, Sub s s3 → ∀ vl, SlR 3 s3 vl ([(c.1, c.2.1, v', c.2.2)].map raR) → (∀ gn : List GM, gn.map gMsg = sprd (jnB us) t e [c] → (∀ g ∈ gn, g.2.2 = (c.1, c.2.1, v', c.2.2)) → ∀ s4 w4, (∃ s3, Sub s s3 ∧ Two (cutB s3 h s84) s4 .nilslc [] w4 (rows ++ gn.map gRow)) → vc_leafmeshlaw13_LsdbFloods_j11 XX w4 (.int .i64 turns) I8 m8 K s4) →
      wpCall Try.prog XX 35 [uv, .int .i64 (t : Int), .int .i64 e, vl] (fun v_113 s_114 => appK 63 5 w v_113 (fun v_115 s_116 => vc_leafmeshlaw13_LsdbFloods_j11 XX v_115 (.int .i64 turns) I8 m8 K s_116) s_114) s3 := fun e s3 sub3 vl hvl fin2 => by
    refine Spread_in (hu.sub sub3) hvl (by intro a ha; rw [List.mem_singleton] at ha; subst ha; exact hv) (by simp) fun v5 s5 sub5 acc5 => ?_
    have hl5 := gsprd_len (jn := jnB us) (n := t) (e := e) (ras := [(c.1, c.2.1, v', c.2.2)]) (k := 8)
    refine two_t (up s5 (sub3.trans sub5)) acc5.sl (by rw [List.length_map]; simp at hl5; omega) fun v6 s6 z6 => ?_
    refine fin2 _ (by rw [gsprd_msg]; rfl) (fun g hg => ?_) s6 v6 ⟨s5, sub3.trans sub5, z6⟩
    simpa using mem_gsprd hg
  have rd3 : rdN s 3 (.ptr b98 0) = some [.int .i64 c.1, .int .i64 c.2.1, v'] := rdN_all (n := 3) hb98 rfl
  simp only [vc_leafmeshlaw13_LsdbFloods_j10, pickV_false, boolK_false, eqV_int, negB_mk, Bool.false_bne, optK_mk, addOff_ptr, Nat.zero_add, rd1_mk hb64, x0, x1, rd3]
  rcases hcode with rfl | rfl | rfl | rfl
  · simp only [show ((0 : Int) == 1) = false from rfl, show ((0 : Int) == 3) = false from rfl, show ((0 : Int) == 2) = false from rfl, boolK_false]
    exact fin [] s w rfl (by simp) ⟨s, .refl s, by simpa using up s (.refl s)⟩
  · simp only [show ((1 : Int) == 1) = true from rfl, boolK_true]
    refine litR (a := (c.1, c.2.1, v', c.2.2)) hv fun b s3 hb sub3 lit => ?_
    exact sp f s3 sub3 _ lit fun gn h1 h2 s4 w4 h4 => fin gn s4 w4 (by rw [h1]; rfl) h2 h4
  · simp only [show ((2 : Int) == 1) = false from rfl, show ((2 : Int) == 3) = false from rfl, show ((2 : Int) == 2) = true from rfl, boolK_false, boolK_true]
    refine optK_of (fillM (a := .int .i64 t) (b := .int .i64 f) (c := .int .i64 c.1) (d := .int .i64 c.2.1) (x := v') rfl rfl) ?_
    refine litM' (g := ((t : Int), (f : Int), c.1, c.2.1, v', c.2.2)) (n := t) (k := f) (p := c.1) (q := c.2.1) (x := v') rfl hv fun b s3 hb sub3 lit => ?_
    refine two_t (up s3 sub3) lit (by simp; omega) fun v6 s6 z6 => ?_
    exact fin [((t : Int), (f : Int), c.1, c.2.1, v', c.2.2)] s6 v6 rfl (by intro g hg; rw [List.mem_singleton] at hg; subst hg; rfl) ⟨s3, sub3, z6⟩
  · simp only [show ((3 : Int) == 1) = false from rfl, show ((3 : Int) == 3) = true from rfl, boolK_false, boolK_true]
    refine litR (a := (c.1, c.2.1, v', c.2.2)) hv fun b s3 hb sub3 lit => ?_
    exact sp (-1) s3 sub3 _ lit fun gn h1 h2 s4 w4 h4 => fin gn s4 w4 (by rw [h1]; rfl) h2 h4
end Go.AM
namespace Go.AM
open Go Go.Proofs
variable {K : AVal → Heap → Prop} {h h' s s' h0 : Heap} {v tv dv uv ov : AVal} {D M : Nat → Nat} {X : Nat → St13} {gs : List GM} {us : List Bool} {os : List Int} {l A : List Rec}
theorem gMsg_raw {g : GM} : gMsg g = (g.1, g.2.1, g.2.2.1, g.2.2.2.1, g.2.2.2.2.2) := rfl
theorem rd3_at {s : Heap} {b : Nat} {t : Bool} {e : TypeId} {a0 a1 a2 a3 a4 : AVal} (h : s b = some (t, .cells e [a0, a1, a2, a3, a4])) : rdN s 3 (.ptr b 2) = some [a2, a3, a4] := by
  simp only [rdN, h]
  rfl
theorem SlR_mem {es : Nat} {s : Heap} {v : AVal} {rows : List (List AVal)} (_ : SlR es s v rows) : True := trivial
theorem j9_in {turns i : Nat} (st : Sta h0 D M uv dv ov us os) (hs : Sub h s) (hk : KeepBut (Wd 8 D M) h0 h) (net : Net 8 h D M X gs) (own : OwnM h s tv (gs.map gRow)) (flo : Flo (jnB us) l A X (gs.map gMsg)) (hA : A.length + PP l X ≤ 48)
    (hPhi : Phi l A X (gs.map gMsg) + turns ≤ 175616) (hi : i < gs.length) (hy : ∀ x ∈ l, x.2.1 < 536870912) : vc_leafmeshlaw13_LsdbFloods_j9 XX uv dv tv (.int .i64 turns) (.int .i64 i) (Inv8 h0 us l D M) (Phi l A X (gs.map gMsg)) K s := by
  have hlen : gs.length ≤ 175616 := by
    have := Phi_len (l := l) (A := A) (X := X) (ms := gs.map gMsg)
    rw [List.length_map] at this; omega
  have hlg := net.lk gs[i] (List.getElem_mem hi)
  obtain ⟨f, t, hf, ht, hg1, hg2, _⟩ := flo.msg (gMsg gs[i]) (List.mem_map.2 ⟨gs[i], List.getElem_mem hi, rfl⟩)
  have hg1 : gs[i].1 = (f : Int) := hg1
  have hg2 : gs[i].2.1 = (t : Int) := hg2
  obtain ⟨g, hg⟩ : ∃ g, g = gs[i] := ⟨_, rfl⟩
  rw [← hg] at hlg hg1 hg2
  have hone := hlg.1.1.one
  obtain ⟨b, o, e1, e2, _⟩ := own.sl.get (i := i) (r := gRow g) (by rw [hg]; simp [hi])
  have z0 : ∀ {b : Nat}, s b = none → h b = none := fun hb => sub_none hs hb
  have z5 : (gRow g).length = 5 := rfl
  simp only [vc_leafmeshlaw13_LsdbFloods_j9, e1, e2, optK_mk]
  refine new_step fun b64 s65 hb64 h65 u65 => wrAgg_step h65 rfl rfl (gRow_one hone) fun s66 h66 u66 => ?_
  refine optK_of (a := []) rfl ⟨rfl, new_step fun b68 s69 hb68 h69 u69 => ?_⟩
  have sub6 : Sub s s69 := ((u65.sub hb64).upto u66 hb64).trans (u69.sub hb68)
  have h64 : s69 b64 = some (false, .cells 63 (gRow g)) := u69.at h66 hb68
  have sl69 := own.sl.sub sub6
  have hne : gs.map gRow ≠ [] := by intro e; have := congrArg List.length e; rw [List.length_map] at this; simp at this; rw [this] at hi; simp at hi
  obtain ⟨v70, k1, k2, _⟩ := sl69.take (k := i) (by rw [List.length_map]; omega) hne
  simp only [k1, optK_mk]
  refine app_ownR (s0 := s69) (rows := []) (.inl ⟨rfl, b68, rfl⟩) k2 (by simp; omega) (.refl s69) fun v71 s72 own71 sub72 => ?_
  obtain ⟨v74, k3, k4, _⟩ := (sl69.sub sub72).drop (k := i + 1) (by rw [List.length_map]; omega) hne
  simp only [arith_add, optK_mk]
  rw [wrap64 (by omega) (by omega)]
  rw [show ((i : Int) + 1) = ((i + 1 : Nat) : Int) by omega, k3]
  simp only [optK_mk]
  refine app_ownR (s0 := s69) own71 k4 (by simp; omega) sub72 fun v75 s76 own75 sub76 => ?_
  have own75 : OwnM s69 s76 v75 (([] ++ (gs.map gRow).take i) ++ (gs.map gRow).drop (i + 1)) := own75
  have erow : ([] ++ (gs.map gRow).take i) ++ (gs.map gRow).drop (i + 1) = (gs.take i ++ gs.drop (i + 1)).map gRow := by rw [List.nil_append, List.map_append, List.map_take, List.map_drop]
  rw [erow] at own75
  have h64' := sub76 _ _ h64
  have x0 : (gRow g)[0]? = some (.int .i64 (f : Int)) := by unfold gRow; rw [hg1]; rfl
  have x1 : (gRow g)[1]? = some (.int .i64 (t : Int)) := by unfold gRow; rw [hg2]; rfl
  have x2 : (gRow g)[2]? = some (.int .i64 g.2.2.1) := rfl
  have kS : KeepBut (Wd 8 D M) h0 s76 := fun b e hb hn => sub76 _ _ (sub6 _ _ (hs _ _ (hk b e hb hn)))
  have d76 := (st.hd.keep kS).1
  obtain ⟨p, p1, p2⟩ := ptr_at d76 ht
  have r3 : rdN s76 3 (.ptr b64 2) = some [.int .i64 g.2.2.1, .int .i64 g.2.2.2.1, g.2.2.2.2.1] := rd3_at h64'
  simp only [addOff_ptr, Nat.zero_add, rd1_mk h64', x1, p1, p2, r3, optK_mk]
  have net69 : Net 8 s69 D M X (gs.take i ++ gs.drop (i + 1)) := ⟨(net.sub (hs.trans sub6)).db, fun y hy => (net.sub (hs.trans sub6)).lk y ((List.mem_append.1 hy).elim (fun q => List.mem_of_mem_take q) fun q => List.mem_of_mem_drop q)⟩
  have split : gs = gs.take i ++ g :: gs.drop (i + 1) := by rw [hg, ← List.drop_eq_getElem_cons hi, List.take_append_drop]
  refine net_recv net69 sub76 ht (((hlg.1.1.sub hs).sub sub6).sub sub76) hlg.2 own75 fun h84 s84 sub84 net84 own84 kw kh => ?_
  have hmsg : gs.map gMsg = (gs.take i).map gMsg ++ ((f : Int), (t : Int), raRec g.2.2) :: (gs.drop (i + 1)).map gMsg := by
    conv => lhs; rw [split]
    rw [List.map_append, List.map_cons]
    congr 2
    rw [gMsg, hg1, hg2]
  rw [hmsg] at flo hPhi ⊢
  obtain ⟨herr, c, hc, A', flo', hA', hPhi'⟩ := turn13 flo hy hA
  have hraw : raRec g.2.2 = (g.2.2.1, g.2.2.2.1, g.2.2.2.2.2) := rfl
  rw [hraw] at herr hc flo' hA' hPhi' hPhi ⊢
  have hcode : ∀ {x : Rec}, (recvR 8 t (X t).last (X t).F x).code = 0 ∨ (recvR 8 t (X t).last (X t).F x).code = 1 ∨ (recvR 8 t (X t).last (X t).F x).code = 2 ∨ (recvR 8 t (X t).last (X t).F x).code = 3 := fun {x} => by
    unfold recvR
    split
    · exact .inl rfl
    · cases look (X t).F x.1 with
      | none =>
        simp only
        split
        · exact .inl rfl
        · exact .inr (.inl rfl)
      | some o =>
        simp only
        split
        · exact .inr (.inr (.inl rfl))
        · split
          · split
            · split
              · exact .inl rfl
              · exact .inr (.inr (.inr rfl))
            · exact .inr (.inl rfl)
          · exact .inl rfl
  have hcode := hcode (x := (g.2.2.1, g.2.2.2.1, g.2.2.2.2.2))
  generalize hG : recvR 8 t (X t).last (X t).F (g.2.2.1, g.2.2.2.1, g.2.2.2.2.2) = G at *
  have w64 : ¬ Wd 8 D M b64 := fun q => net.alive q (z0 hb64)
  have h64s := kw _ _ h64' w64
  have kS2 : KeepBut (Wd 8 D M) h0 s84 := fun b e hb hn => kw _ _ (kS b e hb hn) hn
  obtain ⟨p', p1', p2'⟩ := ptr_at (st.hd.keep kS2).1 ht
  simp only [ext0, ext1, rd1_mk h64s, x1, x2, p1', p2', optK_mk]
  have zt := ((net84.db t ht).sub sub84).rd.frz
  rw [updD_same] at zt
  refine GetR_in zt hc fun s95 v' sub95 sl95 fr95 _ => ?_
  simp only [ext0, ext1, optK_mk]
  have subA : Sub s84 (add s84 s95) := sub_add
  have slA : Sli (add s84 s95) v' c.2.2 := sl95.keep (fp := fun b => frz s84 b ≠ none) (fun b e hb hn => by
    have : s84 b = none := frz_none.1 (Classical.not_not.1 hn)
    rw [add_none this]; exact hb) fun b o n c e hne q => q (fr95 b o n c e (by simpa using hne))
  refine newM (s := add s84 s95) fun b98 s99 hb98 h98 u98 => ?_
  have subB := subA.trans (u98.sub hb98)
  have slB := slA.sub (u98.sub hb98)
  have hb98s : s84 b98 = none := sub_none subA hb98
  refine wrAgg_step h98 rfl rfl (by rw [allOne_cons, allOne_cons, allOne_cons, slA.one]; rfl) fun s100 h100 u100 => ?_
  have sub100 : Sub s84 s100 := subB.upto u100 hb98s
  have hne98 : ∀ b o n c', v' = .slc b o n c' 1 → c.2.2 ≠ [] → b ≠ b98 := fun b o n c' e hne q => by
    have := slA.ne hb98 b o n c' e (by simpa using hne)
    exact this q
  have sl100 : Sli s100 v' c.2.2 := slB.keep (fp := fun i => i = b98) (u100.keep rfl) fun b o n c' e hne => hne98 b o n c' e (by simpa using hne)
  rw [herr]
  simp only [eqV_int, negB_mk, beq_self_eq_true, Bool.true_bne, Bool.not_true, boolK_false, unary_not, optK_mk]
  refine j10_in (h := h84) (s84 := s84) (g := g) (c := c) (rows := (gs.take i ++ gs.drop (i + 1)).map gRow) (us := us) (turns := turns) (t := t) (f := f) hg1 hg2 (st.hu.keep fun b e hb hn => sub100 _ _ (kS2 b e hb hn)).1 (sub100 _ _ h64s) h100 sl100.one (two_own sub84 own84) sub100 (by rw [List.length_map, List.length_append, List.length_take, List.length_drop]; omega) hcode fun gn s4 w4 hgn hgn2 hz => ?_
  obtain ⟨s3, sub3, two⟩ := hz
  simp only [vc_leafmeshlaw13_LsdbFloods_j11, arith_add, optK_mk]
  rw [wrap64 (by omega) (by omega)]
  have subh : Sub h84 (cutB s3 h84 s84) := fun b e hb => cutB_at (sub3 _ _ (sub100 _ _ (sub84 b e hb))) (.inl (by rw [hb]; simp))
  have net2 := (net84.sub subh).add (gs2 := gn) fun y hy => by
    rw [hgn2 y hy]
    refine ⟨⟨?_, fun b o n c' e hne q => ?_⟩, ?_⟩
    · refine (sl100.sub sub3).keep cutB_keep fun b o n c' e hne q => ?_
      have := frz_none.1 (fr95 b o n c' e (by simpa using hne))
      exact q.2 this
    · have h1 := frz_none.1 (fr95 b o n c' e hne)
      exact net84.alive q (sub_none sub84 h1)
    · exact ((net84.db t ht).gd _ _ (by rw [updD_same]; exact hc)).2.2
  have hms : (gs.take i ++ gs.drop (i + 1) ++ gn).map gMsg = (gs.take i).map gMsg ++ (gs.drop (i + 1)).map gMsg ++ (if G.code = 1 then sprd (jnB us) t f [c] else if G.code = 3 then sprd (jnB us) t (-1) [c] else if G.code = 2 then [((t : Int), (f : Int), c)] else []) := by rw [List.map_append, hgn, List.map_append]
  rw [← hms] at flo' hPhi'
  refine ⟨_, ?_, turns + 1, w4, cutB s3 h84 s84, updD X t ⟨G.last, G.F⟩, gs.take i ++ gs.drop (i + 1) ++ gn, A', rfl, two.sub, fun b e hb hn => subh _ _ (kh _ _ (sub6 _ _ (hs _ _ (hk b e hb hn))) hn), net2, by rw [List.map_append]; exact two.ta, flo', hA', ?_, rfl⟩
  · omega
  · omega
end Go.AM
namespace Go.AM
open Go Go.Proofs
variable {K : AVal → Heap → Prop} {h h' s s' h0 : Heap} {v tv dv uv ov : AVal} {D M : Nat → Nat} {X : Nat → St13} {gs : List GM} {us : List Bool} {os : List Int} {l A : List Rec}
theorem Pick13b_in {x : Int} {n : Nat} (hn : 1 ≤ n ∧ n ≤ 1000000) (hK : ∀ r : Nat, r < n → K (.int .i64 r) s) : wpCall Try.prog XX 29 [.int .i64 x, .int .i64 n] K s := by
  refine vc_leafmeshkit_Pick_in ?_
  have h1 : x.tmod n < n := Int.tmod_lt_of_pos x (by omega)
  have h2 : -(n : Int) < x.tmod n := Int.lt_tmod_of_pos x (by omega)
  simp only [vc_leafmeshkit_Pick, arith_rem (k := .i64) (x := x) (y := (n : Int)) (by omega), optK_mk]
  generalize x.tmod n = y at h1 h2
  simp only [arith_lss, optK_mk]
  refine boolK_mk (fun h => ?_) (fun h => ?_)
  · have h := of_decide_eq_true h
    simp only [arith_add, optK_mk, vc_leafmeshkit_Pick_j0]
    rw [wrap64 (by omega) (by omega)]
    have e : y + n = ((y + n).toNat : Int) := by omega
    rw [e]
    exact hK _ (by omega)
  · have h := of_decide_eq_false h
    simp only [vc_leafmeshkit_Pick_j0]
    have e : y = (y.toNat : Int) := by omega
    rw [e]
    exact hK _ (by omega)
/-- the end: all that are joined agree -/
theorem end_in (st : Sta h0 D M uv dv ov us os) (hs : Sub h s) (hk : KeepBut (Wd 8 D M) h0 h) (net : Net 8 h D M X gs) (flo : Flo (jnB us) l A X []) (hK : ∀ s', K (.bool true) s') :
    ∃ I12 : List AVal → Heap → Nat → Prop, (∃ m, I12 [(.int .i64 0)] s m) ∧ ∀ (f : Env) (s : Heap) (m12 : Nat), I12 [f 22] s m12 →
      vc_leafmeshlaw13_LsdbFloods_l12 XX uv (.bool true) dv (f 22) I12 m12 K s := by
  have hu := st.hu.keep hk
  have hd := st.hd.keep hk
  refine ⟨fun ys s2 m => ∃ a : Nat, ys = [.int .i64 a] ∧ a ≤ 8 ∧ m = 8 - a ∧ Sub h s2, ⟨_, 0, rfl, by omega, rfl, hs⟩, ?_⟩
  rintro f s2 m ⟨a, hy, ha, rfl, hs2⟩
  simp only [List.cons.injEq, and_true] at hy
  rw [hy]
  simp only [vc_leafmeshlaw13_LsdbFloods_l12, arith_lss, optK_mk]
  refine boolK_mk (fun hlt => ?_) (fun _ => hK s2)
  have hlt : a < 8 := by have := of_decide_eq_true hlt; omega
  refine ⟨fun ys s2 m => ∃ b : Nat, ys = [.int .i64 b] ∧ b ≤ 8 ∧ m = 8 - b ∧ Sub h s2, ⟨_, 0, rfl, by omega, rfl, hs2⟩, ?_⟩
  rintro f3 s3 m3 ⟨b, hy3, hb, rfl, hs3⟩
  simp only [List.cons.injEq, and_true] at hy3
  rw [hy3]
  obtain ⟨pa, pa1, pa2⟩ := ptr_at (hd.1.sub hs3) hlt
  simp only [vc_leafmeshlaw13_LsdbFloods_l13, arith_lss, optK_mk]
  refine boolK_mk (fun hlb => ?_) (fun hge => ?_)
  · have hlb : b < 8 := by have := of_decide_eq_true hlb; omega
    refine joined_in (hu.1.sub hs3) ?_
    have next : ∀ s4, Sub h s4 → ∃ m', m' < 8 - b ∧ ∃ b' : Nat, [AVal.int .i64 ((b : Int) + 1)] = [AVal.int .i64 b'] ∧ b' ≤ 8 ∧ m' = 8 - b' ∧ Sub h s4 := fun s4 h4 => ⟨8 - (b + 1), by omega, b + 1, rfl, by omega, rfl, h4⟩
    refine boolK_mk (fun hj => ?_) (fun hj => ?_)
    · simp only [pa1, pa2, optK_mk]
      have za := (net.db a hlt).rd
      have zb := (net.db b hlb).rd
      refine AllR_in (za.sub hs3).frz fun v156 s157 sub157 r157 _ => ?_
      have subA : Sub s3 (add s3 s157) := sub_add
      have r157' : RcsF (fun x => frz s3 x ≠ none) (add s3 s157) v156 (allR (X a).F) := r157.keep (fp := fun x => frz s3 x ≠ none) (fun b e hb hn => by
        have : s3 b = none := frz_none.1 (Classical.not_not.1 hn)
        rw [add_none this]; exact hb) fun b hb => hb
      have subC : Sub s3 (cutH [(s3, add s3 s157)] (add s3 s157)) := fun i e hi => cut_keep hi (add_some hi)
      obtain ⟨pb, pb1, pb2⟩ := ptr_at ((hd.1.sub hs3).sub subC) hlb
      simp only [pb1, pb2, optK_mk]
      refine AllR_in ((zb.sub hs3).sub subA) fun v160 s161 sub161 r161 => ?_
      have heq := flo_end flo hlt hlb hj (by rw [jnB_sym]; exact hj) za.short.1 zb.short.1
      rw [← heq] at r161
      have hg := allR_good (net.db a hlt)
      refine records_in (r157'.rcs.sub sub161) r161.rcs (by omega) hg.2 fun s163 sub163 => ?_
      simp only [unary_not, Bool.not_true, optK_mk, hj, pickV_true, boolK_false, arith_add]
      rw [wrap64 (by omega) (by omega)]
      exact next s163 (hs3.trans ((subA.trans sub161).trans sub163))
    · rw [hj]
      simp only [pickV_false, optK_mk, boolK_false, arith_add]
      rw [wrap64 (by omega) (by omega)]
      exact next s3 hs3
  · obtain ⟨q, hq⟩ := flo.ow a hlt
    simp only [pa1, pa2, optK_mk]
    refine GetR_in ((net.db a hlt).rd.sub hs3) hq fun s4 v' sub4 sl4 _ => ?_
    simp only [ext0, ext1, optK_mk]
    refine new_step fun b1 s5 hb1 h5 u5 => wrAgg_step h5 rfl rfl (by rw [allOne_cons, allOne_cons, allOne_cons, sl4.one]; rfl) fun s6 h6 u6 => ?_
    have sub6 : Sub s4 s6 := (u5.sub hb1).upto u6 hb1
    have h6 : s6 b1 = some (false, .cells 24 [.int .i64 (a : Int), .int .i64 q, v']) := h6
    have x2 : [AVal.int .i64 (a : Int), .int .i64 q, v'][2]? = some v' := rfl
    simp only [unary_not, Bool.not_true, optK_mk, boolK_false, addOff_ptr, Nat.zero_add, rd1_mk h6, x2]
    refine lit1_step rfl rfl fun b7 s7 hb7 h7 u7 => ?_
    have sub7 := u7.sub hb7
    have sl7 : Sli s7 (.slc b7 0 1 (some 1) 1) [(a : Int)] := Sl.mk h7 rfl (by simp)
    refine Same_in ((sl4.sub sub6).sub sub7) sl7 (by simp) ?_
    simp only [beq_self_eq_true, Bool.not_true, unary_not, optK_mk, vc_leafmeshlaw13_LsdbFloods_j14, pickV_false, boolK_false, arith_add]
    rw [wrap64 (by omega) (by omega)]
    exact ⟨8 - (a + 1), by omega, a + 1, rfl, by omega, rfl, hs3.trans ((sub4.trans sub6).trans sub7)⟩
/-- messages, one after the other -/
theorem loop8_in (st : Sta h0 D M uv dv ov us os) (hol : os.length ≤ 60) (hy : ∀ x ∈ l, x.2.1 < 536870912) (hK : ∀ s', K (.bool true) s') (f : Env) (s : Heap) (m8 : Nat) (hI : Inv8 h0 us l D M [f 11, f 15] s m8) :
    vc_leafmeshlaw13_LsdbFloods_l8 XX uv ov (.bool true) dv (f 11) (f 15) (Inv8 h0 us l D M) m8 K s := by
  obtain ⟨turns, tv, h, X, gs, A, e, hs, hk, net, own, flo, hA, hPhi, rfl⟩ := hI
  simp only [List.cons.injEq, and_true] at e
  rw [e.1, e.2]
  have hlen : gs.length ≤ 175616 := by
    have := Phi_len (l := l) (A := A) (X := X) (ms := gs.map gMsg)
    rw [List.length_map] at this; omega
  simp only [vc_leafmeshlaw13_LsdbFloods_l8, own.sl.len, List.length_map, arith_gtr, optK_mk]
  refine boolK_mk (fun hlt => ?_) (fun hge => ?_)
  · have hlt : 0 < gs.length := by have := of_decide_eq_true hlt; omega
    rw [decide_eq_false (show ¬ (200000 : Int) < turns by omega)]
    have ho := ((st.ho.keep hk).1.sub hs)
    simp only [boolK_false, ho.len, List.length_map, optK_mk]
    refine boolK_mk (fun hol2 => ?_) (fun _ => ?_)
    · have hol2 : 0 < os.length := by have := of_decide_eq_true hol2; omega
      have e1 : (turns : Int).tmod (os.length : Int) = ((turns % os.length : Nat) : Int) := by rw [Int.tmod_eq_emod_of_nonneg (by omega)]; exact (Int.natCast_emod turns os.length).symm
      obtain ⟨p, p1, p2⟩ := sli_at ho (k := turns % os.length) (Nat.mod_lt _ hol2)
      simp only [arith_rem (k := .i64) (x := (turns : Int)) (y := (os.length : Int)) (by omega), e1, p1, p2, optK_mk]
      exact Pick13b_in (by omega) fun r hr => j9_in st hs hk net own flo hA hPhi hr hy
    · exact j9_in (i := 0) st hs hk net own flo hA hPhi hlt hy
  · have hge : gs = [] := by
      have := of_decide_eq_false hge
      exact List.eq_nil_of_length_eq_zero (by omega)
    subst hge
    exact end_in st hs hk net flo hK
end Go.AM
namespace Go.AM
open Go Go.Proofs
variable {K : AVal → Heap → Prop} {h h' s s' h0 : Heap} {v tv dv uv ov lv wv : AVal} {D M : Nat → Nat} {X : Nat → St13} {gs : List GM} {us : List Bool} {os ws : List Int} {rs : List Rec} {n : Nat}
theorem ms0_congr {jn : Int → Int → Bool} {X Y : Nat → St13} {n : Nat} (e : ∀ d, d < n → X d = Y d) : ms0 jn X n = ms0 jn Y n := by
  induction n with
  | zero => rfl
  | succ n ih => rw [ms0_succ, ms0_succ, ih fun d hd => e d (by omega), e n (by omega)]
def Inv4 (s0 : Heap) (us : List Bool) (rs : List Rec) (ys : List AVal) (s : Heap) (m : Nat) : Prop := ∃ (n : Nat) (dv tv : AVal) (h : Heap) (D M : Nat → Nat) (X : Nat → St13) (gs : List GM), ys = [dv, tv, .int .i64 n] ∧ n ≤ 8 ∧ m = 8 - n ∧ Sub s0 h ∧ Two h s dv (ptrs D n) tv (gs.map gRow) ∧ Net n h D M X gs ∧
  (∀ j, j < n → s0 (D j) = none ∧ s0 (M j) = none) ∧ gs.map gMsg = ms0 (jnB us) X n ∧ ∀ j, j < n → Beg2 rs j (X j)
theorem ms0_len4 (hb : ∀ j, j < n → Beg2 rs j (X j)) (hn : n ≤ 8) {jn : Int → Int → Bool} : (ms0 jn X n).length ≤ 512 := by
  have := len_flat (l := List.range n) (f := fun d : Nat => sprd jn d (-1) (allR (X d).F)) (c := 64) fun d hd => by
    have hd := List.mem_range.1 hd
    have h1 := (hb d hd).gd
    have h2 := (hb d hd).nd
    have := sprd_len (jn := jn) (n := d) (e := -1) (rs := allR (X d).F)
    have := allR_len8 h1 h2
    omega
  rw [List.length_range] at this
  have : (ms0 jn X n).length ≤ n * 64 := this
  omega
/-- a node begins, and sends its records to its neighbours -/
theorem node_in {s0 t s2 : Heap} {ownv : AVal} {ras : List RA} (hu : Sl s0 uv (bls13 us)) (hn : n < 8) (hs0 : Sub s0 h) (two : Two h t dv (ptrs D n) tv (gs.map gRow)) (net : Net n h D M X gs) (hDM : ∀ j, j < n → s0 (D j) = none ∧ s0 (M j) = none) (hms : gs.map gMsg = ms0 (jnB us) X n) (hbeg : ∀ j, j < n → Beg2 rs j (X j))
    (ht : Sub t s2) (acc : AccR 24 3 t s2 ownv (ras.map raR)) (hras : ∀ a ∈ ras, Sli s2 a.2.2.1 a.2.2.2 ∧ raRec a ∈ rs) (hlen : ras.length ≤ 60) (hsh : ∀ r ∈ rs, r.2.2.length ≤ 20) (hy : ∀ r ∈ rs, r.2.1 < 536870912) :
    optK (fillR (repl 1 [(.int .i64 0)]) [(0, 1, .int .i64 (n : Int))]) fun c_33 => allOne c_33 = true ∧ newK 3 c_33 (fun b_34 s_35 =>
    wpCall Try.prog XX 31 [.int .i64 (n : Int), ownv, (.slc b_34 0 1 (some 1) 1)] (fun v_36 s_37 =>
    optK (fillR (repl 1 [.nilptr]) [(0, 1, v_36)]) fun c_38 => allOne c_38 = true ∧ newK 32 c_38 (fun b_39 s_40 =>
    appK 32 1 dv (.slc b_39 0 1 (some 1) 1) (fun v_41 s_42 =>
    optK (iaddrS 1 v_41 (.int .i64 (n : Int))) fun v_43 =>
    optK (rd1 s_42 v_43) fun v_44 =>
    optK (negB false (eqV 3 true v_44 .nilptr)) fun v_45 =>
    boolK v_45
     (K (.bool false) s_42)
     (optK (iaddrS 1 v_41 (.int .i64 (n : Int))) fun v_46 =>
      optK (rd1 s_42 v_46) fun v_47 =>
      wpCall Try.prog XX 18 [v_47] (fun v_48 s_49 =>
      wpCall Try.prog XX 35 [uv, .int .i64 (n : Int), (.int .i64 (-1)), v_48] (fun v_50 s_51 =>
      appK 63 5 tv v_50 (fun v_52 s_53 =>
      optK (arithV .add (.int .i64 (n : Int)) (.int .i64 1)) fun v_54 =>
      ∃ m', m' < 8 - n ∧ Inv4 s0 us rs [v_41, v_52, v_54] s_53 m') s_51) s_49) s_42)) s_40) s_37) s_35) s2 := by
  refine lit1_step rfl rfl fun b34 s35 hb34 h35 u35 => ?_
  have sub35 := u35.sub hb34
  have sl35 : Sli s35 (.slc b34 0 1 (some 1) 1) [(n : Int)] := Sl.mk h35 rfl (by simp)
  have two35 := two.more (ht.trans sub35)
  have rcs : Rcs s35 ownv (ras.map raRec) := ⟨ras.map raR, acc.sl.sub sub35, by simp, fun i r hi => by
    rw [List.getElem?_map] at hi
    cases e : ras[i]? with
    | none => rw [e] at hi; cases hi
    | some a =>
      rw [e] at hi
      cases hi
      exact ⟨a.2.2.1, by rw [List.getElem?_map, e]; rfl, (hras a (List.mem_of_getElem? e)).1.sub sub35⟩⟩
  have hin : ∀ r ∈ ras.map raRec, r ∈ rs := fun r hr => by obtain ⟨a, ha, rfl⟩ := List.mem_map.1 hr; exact (hras a ha).2
  refine begun2_in (by omega) rcs (by rw [List.length_map]; exact hlen) (fun r hr => hsh r (hin r hr)) (fun r hr => hy r (hin r hr)) sl35 (by simp) (by unfold chkL; rw [if_neg (by omega)]; rfl) fun s37 d m last F sub37 hd hm zn gd ow src => ?_
  obtain ⟨net', subh⟩ := net_new net two35.sub sub37 hd hm zn
  have two37 := two35.up (h' := cutB s37 h s35) sub37 cutB_sub fun b h1 h2 => cutB_none h1 h2
  refine lit1_step rfl rfl fun b39 s40 hb39 h40 u40 => ?_
  have sub40 := u40.sub hb39
  have hpl : (ptrs D n).length = n := by unfold ptrs; simp
  have ep : ptrs D n ++ [.ptr d 0] = ptrs (updN D n d) (n + 1) := by
    unfold ptrs
    rw [List.range_succ, List.map_append, List.map_singleton, updN_same]
    congr 1
    refine List.map_congr_left fun k hk => ?_
    have := List.mem_range.1 hk
    rw [updN_ne (by omega)]
  refine two_d (two37.more sub40) (Sl.mk h40 rfl (by simp)) (by omega) fun v41 s42 two42 => ?_
  obtain ⟨p, p1, p2⟩ := two42.da.sl.get (i := n) (by rw [List.length_append, hpl]; simp)
  have p2 : rd1 s42 p = some (.ptr d 0) := by rw [p2, List.getElem?_append_right (by omega), hpl, Nat.sub_self]; rfl
  simp only [p1, p2, eqV_ptr, negB_mk, Bool.false_bne, boolK_false, optK_mk]
  have dbn := net'.db n (by omega)
  rw [updN_same, updN_same, updD_same] at dbn
  refine AllR_in (dbn.rd.sub two42.sub) fun v48 s49 sub49 r49 => ?_
  obtain ⟨ras2, g1, g2, g3⟩ := r49.ra
  have hgood := allR_good dbn
  have hl8 := allR_len8 gd dbn.rd.short.1
  have hl2 : ras2.length ≤ 8 := by
    have e9 : (ras2.map raRec).length = (allR F).length := congrArg List.length g1
    rw [List.length_map] at e9
    omega
  have subA := (((hs0.trans two.sub).trans ht).trans sub35).trans (sub37.trans sub40)
  have subB : Sub s0 s42 := (hs0.trans subh).trans two42.sub
  refine Spread_in (n := (n : Int)) (e := -1) (hu.sub (subB.trans sub49)) g2 (fun a ha => (g3 a ha).1.one) (by omega) fun v50 s51 sub51 acc51 => ?_
  have two51 := two42.up (h' := cutB s51 (cutB s37 h s35) s42) (sub49.trans sub51) cutB_sub fun b h1 h2 => cutB_none h1 h2
  have subh2 : Sub (cutB s37 h s35) (cutB s51 (cutB s37 h s35) s42) := fun b e hb => cutB_at (sub51 _ _ (sub49 _ _ (two42.sub b e hb))) (.inl (by rw [hb]; simp))
  have hl5 := gsprd_len (jn := jnB us) (n := n) (e := -1) (ras := ras2) (k := 8)
  have hgl : gs.length ≤ 512 := by
    have := ms0_len4 (jn := jnB us) hbeg (by omega)
    rw [← hms, List.length_map] at this; exact this
  refine two_t two51 acc51.sl (by rw [List.length_map, List.length_map]; omega) fun v52 s53 two53 => ?_
  simp only [arith_add, optK_mk]
  rw [wrap64 (by omega) (by omega)]
  rw [ep, ← List.map_append] at two53
  refine ⟨8 - (n + 1), by omega, n + 1, v41, v52, _, updN D n d, updN M n m, updD X n ⟨last, F⟩, gs ++ gsprd (jnB us) n (-1) ras2 8, rfl, by omega, rfl, (hs0.trans subh).trans subh2, two53, (net'.sub subh2).add fun g hg => ?_, fun j hj => ?_, ?_, fun j hj => ?_⟩
  · have ha := mem_gsprd hg
    obtain ⟨q1, q2⟩ := g3 _ ha
    refine ⟨⟨(q1.sub sub51).keep cutB_keep fun b o n c e hne q => q2 b o n c e (by simpa using hne) q.2, fun b o n c e hne q => q2 b o n c e hne ?_⟩, ?_⟩
    · cases w : cutB s37 h s35 b with
      | none => exact absurd w (net'.alive q)
      | some y => rw [two42.sub b y w]; exact Option.some_ne_none _
    · have : raRec g.2.2 ∈ allR F := by rw [← g1]; exact List.mem_map.2 ⟨_, ha, rfl⟩
      exact hgood.2 _ this
  · by_cases e : j = n
    · subst e
      rw [updN_same, updN_same]
      have sub0 : Sub s0 s35 := hs0.trans two35.sub
      exact ⟨sub_none sub0 hd, sub_none sub0 hm⟩
    · rw [updN_ne e, updN_ne e]
      exact hDM j (by omega)
  · rw [List.map_append, hms, gsprd_msg, g1, ms0_succ, updD_same]
    congr 1
    exact ms0_congr fun d hd => (updD_ne (by omega)).symm
  · by_cases e : j = n
    · subst e
      rw [updD_same]
      exact ⟨gd, dbn.rd.short.1, ⟨_, ow⟩, fun k r hk => (src k r hk).imp id fun q => hin r q⟩
    · rw [updD_ne e]
      exact hbeg j (by omega)
end Go.AM
namespace Go.AM
open Go Go.Proofs
variable {K : AVal → Heap → Prop} {h h' s s' h0 : Heap} {v tv dv uv ov lv wv : AVal} {D M : Nat → Nat} {X : Nat → St13} {gs : List GM} {us : List Bool} {os ws : List Int} {rs : List Rec} {n : Nat}
/-- the block of a list of messages -/
def blkH (tv : AVal) (s : Heap) : Heap := fun i => match tv with
  | .slc b _ _ none _ => if i = b then s i else none
  | _ => none
theorem phase2 {A : List Rec} (hsh : ∀ x ∈ rs, x.2.1 < 536870912) (hu : Sl s uv (bls13 us)) (ho : Sli s ov os) (hol : os.length ≤ 60) (hs0 : Sub s h) (two : Two h s' dv (ptrs D 8) tv (gs.map gRow)) (net : Net 8 h D M X gs) (hDM : ∀ j, j < 8 → s (D j) = none ∧ s (M j) = none)
    (flo : Flo (jnB us) rs A X (gs.map gMsg)) (hA : A.length + PP rs X ≤ 48) (hPhi : Phi rs A X (gs.map gMsg) ≤ 175616) (hK : ∀ s', K (.bool true) s') :
    ∃ I8 : List AVal → Heap → Nat → Prop, (∃ m, I8 [tv, (.int .i64 0)] s' m) ∧ ∀ (f : Env) (s : Heap) (m8 : Nat), I8 [f 11, f 15] s m8 →
      vc_leafmeshlaw13_LsdbFloods_l8 XX uv ov (.bool true) dv (f 11) (f 15) I8 m8 K s := by
  have subh : Sub h (cutB s' h (blkH tv s')) := fun b e hb => cutB_at (two.sub b e hb) (.inl (by rw [hb]; simp))
  have noW : ∀ b, s b ≠ none → ¬ Wd 8 D M b := fun b hb q => by
    obtain ⟨j, hj, rfl | rfl⟩ := q
    · exact hb (hDM j hj).1
    · exact hb (hDM j hj).2
  have wu : ∀ {w : AVal} {l : List AVal}, Sl s w l → SlW (Wd 8 D M) (cutB s' h (blkH tv s')) w l := fun {w l} z => by
    refine ⟨z.sub (hs0.trans subh), fun b o n c e hne => noW b fun q => ?_⟩
    rcases z with ⟨q0, _⟩ | ⟨b2, o2, c2, q0, _, q4⟩
    · rw [e] at q0; cases q0
    · rw [e] at q0; cases q0
      obtain ⟨t, e, cs, q5, _⟩ := q4 hne
      rw [q5] at q; cases q
  have hpl : ptrs D 8 ≠ [] := by unfold ptrs; simp [List.range_succ]
  have hd : SlW (Wd 8 D M) (cutB s' h (blkH tv s')) dv (ptrs D 8) := by
    rcases two.da with ⟨_, q⟩ | ⟨b, h1, h2, h3⟩
    · exact absurd q hpl
    · have hT : blkH tv s' b = none := by
        unfold blkH
        split
        · rename_i b' o' n' es' 
          split
          · rename_i e
            subst e
            exact absurd h3 (by
              intro h3
              rcases two.ta with ⟨_, b2, q⟩ | ⟨_, ⟨q, _⟩ | ⟨b2, _, q, _⟩⟩
              · cases q
              · cases q
              · cases q
                exact two.ne _ _ _ _ _ h2 rfl rfl)
          · rfl
        · rfl
      refine ⟨.inr ⟨b, 0, none, by rw [h2], by simp, fun _ => ⟨false, 32, _, cutB_at h3 (.inr hT), by simp, fun i _ => by rw [Nat.zero_add]⟩⟩, fun b' o n c e _ q => ?_⟩
      rw [h2] at e
      cases e
      exact net.alive q h1
  refine ⟨Inv8 (cutB s' h (blkH tv s')) us rs D M, ⟨_, 0, tv, cutB s' h (blkH tv s'), X, gs, A, rfl, cutB_sub, .refl _ _, net.sub subh, two.ta.mono2 fun b n e h1 h2 => ⟨cutB_none h1 ?_, rfl⟩, flo, hA, by omega, rfl⟩, fun f s2 m hI => loop8_in ⟨wu hu, hd, wu ho⟩ hol hsh hK f s2 m hI⟩
  rw [e]
  unfold blkH
  simp only [if_true]
  exact h2
theorem rdN_sub {p : AVal} {k : Nat} {l : List AVal} (hs : Sub s s') (e : rdN s k p = some l) : rdN s' k p = some l := by
  unfold rdN at e ⊢
  split at e
  · rename_i b o
    split at e
    · rename_i t ty cs h
      rw [hs _ _ h]
      exact e
    · cases e
  · cases e
set_option maxRecDepth 100000 in
theorem arg_bs {d : Nat} {v : AVal} (h : Arg Try.prog s (d + 2) 46 v) : ∃ l : List Bool, Sl s v (bls13 l) := by
  obtain ⟨l, h1, _, h3⟩ := arg_slice (d := d + 1) Try.underlying46 (by kernel_rfl) AVal.bool (fun _ => True) (fun xs h => inp_bool Try.underlying4 h) h
  exact ⟨l, h1⟩
set_option maxHeartbeats 1000000 in
theorem Floods_in (hu : Sl s uv (bls13 us)) (ha : Rcs s lv rs) (hm : rs.length ≤ 9223372036854775807) (hw : Sli s wv ws) (hwm : ws.length ≤ 9223372036854775807) (ho : Sli s ov os) : wpCall Try.prog XX 7 [uv, lv, wv, ov] (fun v _ => v = .bool true) s := by
  have give : ∀ t30 t33, pickV t30 (.bool true) t33 = some (.bool true) → ∀ s, vc_leafmeshlaw13_LsdbFloods_j0 XX uv lv wv ov (.bool true) t30 t33 (fun v _ => v = .bool true) s := fun t30 t33 h s => by
    simp only [vc_leafmeshlaw13_LsdbFloods_j0, vc_leafmeshlaw13_LsdbFloods_j1, vc_leafmeshlaw13_LsdbFloods_j2, vc_leafmeshlaw13_LsdbFloods_j3, h, pickV_true, optK_mk, boolK_true]
  refine vc_leafmeshlaw13_LsdbFloods_in (wp_closedM rfl rfl ?_)
  simp only [ha.len, arith_gtr, optK_mk]
  refine boolK_mk (fun h20 => ?_) (fun h20 => ?_)
  · rw [h20]; exact give _ _ rfl s
  rw [h20]
  have h20 : rs.length ≤ 20 := by have := of_decide_eq_false h20; omega
  refine light_in ha hm ?_ fun hsh _ => ?_
  · simp only [unary_not, Bool.not_false, optK_mk]
    exact give _ _ rfl s
  simp only [unary_not, Bool.not_true, optK_mk, vc_leafmeshlaw13_LsdbFloods_j0, pickV_false, boolK_false]
  refine young_in ha (by omega) ?_ fun hy => ?_
  · simp only [unary_not, Bool.not_false, optK_mk, vc_leafmeshlaw13_LsdbFloods_j1, vc_leafmeshlaw13_LsdbFloods_j2, vc_leafmeshlaw13_LsdbFloods_j3, pickV_false, pickV_true, boolK_true]
  simp only [unary_not, Bool.not_true, optK_mk, vc_leafmeshlaw13_LsdbFloods_j1, pickV_false, boolK_false, hw.len, List.length_map, arith_gtr]
  by_cases hw60 : (60 : Int) < ws.length
  · rw [decide_eq_true hw60]
    simp only [vc_leafmeshlaw13_LsdbFloods_j2, vc_leafmeshlaw13_LsdbFloods_j3, pickV_false, pickV_true, boolK_true, optK_mk]
  rw [decide_eq_false hw60]
  simp only [vc_leafmeshlaw13_LsdbFloods_j2, pickV_false, boolK_false, optK_mk, ho.len, List.length_map, arith_gtr]
  by_cases ho60 : (60 : Int) < os.length
  · rw [decide_eq_true ho60]
    simp only [vc_leafmeshlaw13_LsdbFloods_j3, pickV_false, boolK_true, optK_mk]
  rw [decide_eq_false ho60]
  simp only [vc_leafmeshlaw13_LsdbFloods_j3, pickV_false, boolK_false, optK_mk]
  refine ⟨Inv4 s us rs, ⟨_, 0, .nilslc, .nilslc, s, fun _ => 0, fun _ => 0, fun _ => ⟨0, []⟩, [], rfl, by omega, rfl, .refl s, ⟨.refl s, .inl ⟨rfl, rfl⟩, .inr ⟨lenRow [], .inl ⟨rfl, rfl⟩⟩, fun b n c b' n' e => by cases e⟩, ⟨fun k hk => by omega, by simp⟩, fun j hj => by omega, rfl, fun j hj => by omega⟩, ?_⟩
  rintro f t m4 ⟨n, dv, tv, h, D, M, X, gs, e, hn, rfl, hs0, two, net, hDM, hms, hbeg⟩
  simp only [List.cons.injEq, and_true] at e
  rw [e.1, e.2.1, e.2.2]
  simp only [vc_leafmeshlaw13_LsdbFloods_l4, arith_lss, optK_mk]
  refine boolK_mk (fun hlt => ?_) (fun hge => ?_)
  · have hlt : n < 8 := by have := of_decide_eq_true hlt; omega
    have st : Sub s t := hs0.trans two.sub
    refine ⟨fun ys s2 m => ∃ (i : Nat) (ownv : AVal) (ras : List RA), ys = [ownv, .int .i64 i] ∧ i ≤ rs.length ∧ m = rs.length - i ∧ Sub t s2 ∧ AccR 24 3 t s2 ownv (ras.map raR) ∧ (∀ a ∈ ras, Sli s a.2.2.1 a.2.2.2 ∧ raRec a ∈ rs) ∧ ras.length ≤ i, ⟨_, 0, .nilslc, [], rfl, by omega, rfl, .refl t, ⟨by simp, .inl ⟨rfl, rfl⟩⟩, by simp, Nat.le_refl _⟩, ?_⟩
    rintro f2 s2 m5 ⟨i, ownv, ras, e2, hi, rfl, ht, acc, hras, hrl⟩
    simp only [List.cons.injEq, and_true] at e2
    rw [e2.1, e2.2]
    have sub2 := st.trans ht
    have ha2 := ha.sub sub2
    simp only [vc_leafmeshlaw13_LsdbFloods_l5, ha2.len, arith_lss, optK_mk]
    refine boolK_mk (fun hlt2 => ?_) (fun hge2 => ?_)
    · have hlt2 : i < rs.length := by have := of_decide_eq_true hlt2; omega
      have skip : vc_leafmeshlaw13_LsdbFloods_j7 XX ownv (.int .i64 i) (fun ys s2 m => ∃ (i : Nat) (ownv : AVal) (ras : List RA), ys = [ownv, .int .i64 i] ∧ i ≤ rs.length ∧ m = rs.length - i ∧ Sub t s2 ∧ AccR 24 3 t s2 ownv (ras.map raR) ∧ (∀ a ∈ ras, Sli s a.2.2.1 a.2.2.2 ∧ raRec a ∈ rs) ∧ ras.length ≤ i) (rs.length - i) (Inv4 s us rs) (8 - n) (fun v _ => v = .bool true) s2 := by
        simp only [vc_leafmeshlaw13_LsdbFloods_j7, arith_add, optK_mk]
        rw [wrap64 (by omega) (by omega)]
        exact ⟨_, by omega, i + 1, ownv, ras, rfl, by omega, rfl, ht, acc, hras, by omega⟩
      have put : vc_leafmeshlaw13_LsdbFloods_j6 XX lv ownv (.int .i64 i) (.bool true) .undef (fun ys s2 m => ∃ (i : Nat) (ownv : AVal) (ras : List RA), ys = [ownv, .int .i64 i] ∧ i ≤ rs.length ∧ m = rs.length - i ∧ Sub t s2 ∧ AccR 24 3 t s2 ownv (ras.map raR) ∧ (∀ a ∈ ras, Sli s a.2.2.1 a.2.2.2 ∧ raRec a ∈ rs) ∧ ras.length ≤ i) (rs.length - i) (Inv4 s us rs) (8 - n) (fun v _ => v = .bool true) s2 := by
        obtain ⟨p, o, lv', g1, g2, _, _⟩ := ha2.at hlt2
        obtain ⟨p0, o0, lv0, q1, q2, q3, _⟩ := ha.at hlt2
        have elv : lv' = lv0 := by
          rw [q1] at g1
          cases g1
          have := rdN_sub sub2 q2
          rw [this] at g2
          simpa using g2.symm
        subst elv
        simp only [vc_leafmeshlaw13_LsdbFloods_j6, pickV_true, boolK_true, g1, g2, optK_mk]
        refine litR (a := (rs[i].1, rs[i].2.1, lv', rs[i].2.2)) q3.one fun b3 s3 hb3 sub3 lit => ?_
        refine (acc.sub sub3).app lit (by simp) (by simp; omega) (ht.trans sub3) fun v4 s4 acc4 sub4 => ?_
        simp only [vc_leafmeshlaw13_LsdbFloods_j7, arith_add, optK_mk]
        rw [wrap64 (by omega) (by omega)]
        refine ⟨_, by omega, i + 1, v4, ras ++ [(rs[i].1, rs[i].2.1, lv', rs[i].2.2)], rfl, by omega, rfl, sub4, by rw [List.map_append]; exact acc4, fun a ha => ?_, by simp; omega⟩
        rcases List.mem_append.1 ha with q | q
        · exact hras a q
        · rw [List.mem_singleton] at q
          subst q
          exact ⟨q3, List.getElem_mem hlt2⟩
      have hw2 := hw.sub sub2
      simp only [hw2.len, List.length_map, eqV_int, negB_mk, Bool.false_bne, optK_mk]
      cases hz : ((ws.length : Int) == 0) with
      | true =>
        simp only [boolK_true]
        exact put
      | false =>
        have hz : 0 < ws.length := by have : ¬ (ws.length : Int) = 0 := by simpa using hz
                                      omega
        have e1 : (i : Int).tmod (ws.length : Int) = ((i % ws.length : Nat) : Int) := by rw [Int.tmod_eq_emod_of_nonneg (by omega)]; exact (Int.natCast_emod i ws.length).symm
        obtain ⟨p, p1, p2⟩ := sli_at hw2 (k := i % ws.length) (Nat.mod_lt _ hz)
        simp only [boolK_false, arith_rem (k := .i64) (x := (i : Int)) (y := (ws.length : Int)) (by omega), e1, p1, p2, optK_mk]
        refine Pick13b_in (n := 8) (by omega) fun r hr => ?_
        simp only [eqV_int, negB_mk, Bool.false_bne, optK_mk]
        cases hrn : ((r : Int) == (n : Int)) with
        | true =>
          have := put
          simp only [vc_leafmeshlaw13_LsdbFloods_j6, pickV_true, pickV_false, optK_mk] at this ⊢
          exact this
        | false =>
          simp only [vc_leafmeshlaw13_LsdbFloods_j6, pickV_false, boolK_false, optK_mk]
          exact skip
    · refine node_in (K := fun v _ => v = .bool true) hu hlt hs0 two net hDM hms hbeg ht acc (fun a ha => ⟨(hras a ha).1.sub sub2, (hras a ha).2⟩) (by omega) hsh hy
  · have hge : n = 8 := by have := of_decide_eq_false hge; omega
    subst hge
    obtain ⟨A, flo, hA, hPhi⟩ := flo_start (jn := jnB us) hbeg h20
    rw [← hms] at flo hPhi
    exact phase2 hy hu ho (by omega) hs0 two net hDM flo hA hPhi fun _ => rfl
theorem Floods_wp (s : Heap) (xs : List AVal) (h : ArgL Try.prog s 40 [46, 35, 22, 22] xs) : wpCall Try.prog XX 7 xs (fun v _ => v = .bool true) s := by
  obtain ⟨a, b, c, e, rfl, h1, h2, h3, h4⟩ := argl4 h
  obtain ⟨us, hu⟩ := arg_bs (d := 38) h1
  obtain ⟨rs, hr, hm⟩ := arg_rs (d := 36) h2
  obtain ⟨ws, hw, hm2⟩ := arg_os (d := 38) h3
  obtain ⟨os, ho, _⟩ := arg_os (d := 38) h4
  exact Floods_in hu hr (by unfold maxLen at hm; omega) hw (by unfold maxLen at hm2; omega) ho
end Go.AM
