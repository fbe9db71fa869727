/- Part E of a calculus over a small memory that is proved to answer as the program does, and of its use for the functions that the law reaches: see the last part. -/
import Derived.Test.YtnbgeelhoakjgaaV
import Derived.Test.YtnbgeelhoakjgaaU2
import Derived.Test.YtnbgeelhoakjgaaD
namespace Go.AM.WH
open Go Go.Proofs
/-! ### members with their loads, ordered by load, then by number -/
abbrev Shr := Int × Int
def key (x : Shr) : Int := x.2 * 1000 + x.1
def at0 (q : List Shr) (j : Nat) : Shr := q.getD j (0, 0)
def ky (q : List Shr) (j : Nat) : Int := key (at0 q j)
def swp (q : List Shr) (i j : Nat) : List Shr := (q.set i (at0 q j)).set j (at0 q i)
theorem swp_len (q : List Shr) (i j : Nat) : (swp q i j).length = q.length := by simp [swp]
theorem at0_get {q : List Shr} {j : Nat} (h : j < q.length) : at0 q j = q[j] := by simp [at0, h]
theorem at0_set {q : List Shr} {i j : Nat} {x : Shr} (hi : i < q.length) : at0 (q.set i x) j = if j = i then x else at0 q j := by
  unfold at0
  rw [List.getD_eq_getElem?_getD, List.getElem?_set, List.getD_eq_getElem?_getD]
  by_cases e : i = j
  · subst e; simp [hi]
  · rw [if_neg e, if_neg (Ne.symm e)]
theorem at0_swp {q : List Shr} {i j m : Nat} (hi : i < q.length) (hj : j < q.length) : at0 (swp q i j) m = if m = j then at0 q i else if m = i then at0 q j else at0 q m := by
  unfold swp
  rw [at0_set (by simpa using hj), at0_set hi]
theorem ky_swp {q : List Shr} {i j m : Nat} (hi : i < q.length) (hj : j < q.length) : ky (swp q i j) m = if m = j then ky q i else if m = i then ky q j else ky q m := by
  unfold ky
  rw [at0_swp hi hj]
  split
  · rfl
  · split <;> rfl
theorem set_perm : ∀ {q : List Shr} {i : Nat} {x : Shr} (h : i < q.length), (q[i] :: q.set i x).Perm (x :: q)
  | y :: q, 0, x, _ => List.Perm.swap x y q
  | y :: q, i + 1, x, h => by
    have hi : i < q.length := by simpa using h
    have ih := set_perm (q := q) (i := i) (x := x) hi
    show (q[i] :: y :: q.set i x).Perm (x :: y :: q)
    exact (List.Perm.swap _ _ _).trans ((ih.cons y).trans (List.Perm.swap _ _ _))
theorem swp_perm {q : List Shr} {i j : Nat} (hi : i < q.length) (hj : j < q.length) : (swp q i j).Perm q := by
  by_cases e : i = j
  · subst e
    unfold swp
    rw [at0_get hi, List.set_set, List.set_getElem_self]
  · have h1 := set_perm (q := q) (i := i) (x := at0 q j) hi
    have hj' : j < (q.set i (at0 q j)).length := by simpa using hj
    have h2 := set_perm (q := q.set i (at0 q j)) (i := j) (x := at0 q i) hj'
    have e1 : (q.set i (at0 q j))[j] = at0 q j := by
      rw [List.getElem_set_ne e]
      exact (at0_get hj).symm
    rw [e1] at h2
    rw [← at0_get hi] at h1
    have h3 : (at0 q j :: swp q i j).Perm (at0 q j :: q) := h2.trans h1
    exact h3.cons_inv
/-- a heap below k -/
def Hp (q : List Shr) (k : Nat) : Prop := ∀ j, 0 < j → j < q.length → k ≤ (j - 1) / 2 → ky q ((j - 1) / 2) ≤ ky q j
/-- what holds in 'down' -/
structure Dn (q : List Shr) (i0 i : Nat) : Prop where
  ok : ∀ j, 0 < j → j < q.length → i0 ≤ (j - 1) / 2 → (j - 1) / 2 ≠ i → ky q ((j - 1) / 2) ≤ ky q j
  gr : i ≠ i0 → ∀ j, 0 < j → j < q.length → (j - 1) / 2 = i → ky q ((i - 1) / 2) ≤ ky q j
  le : i0 ≤ i
  pr : i ≠ i0 → i0 ≤ (i - 1) / 2
theorem Hp.dn {q : List Shr} {i0 : Nat} (h : Hp q (i0 + 1)) : Dn q i0 i0 := ⟨fun j h0 h1 h2 h3 => h j h0 h1 (by omega), fun e => absurd rfl e, Nat.le_refl _, fun e => absurd rfl e⟩
theorem Dn.done {q : List Shr} {i0 i : Nat} (h : Dn q i0 i) (hc : ∀ j, 0 < j → j < q.length → (j - 1) / 2 = i → ky q i ≤ ky q j) : Hp q i0 := fun j h0 h1 h2 => by
  by_cases e : (j - 1) / 2 = i
  · rw [e]; exact hc j h0 h1 e
  · exact h.ok j h0 h1 h2 e
theorem Dn.swap {q : List Shr} {i0 i j : Nat} (h : Dn q i0 i) (hj : j < q.length) (hc : j = 2 * i + 1 ∨ j = 2 * i + 2) (hlt : ky q j < ky q i) (hmin : ∀ m, 0 < m → m < q.length → (m - 1) / 2 = i → ky q j ≤ ky q m) : Dn (swp q i j) i0 j := by
  have hi : i < q.length := by omega
  have hle := h.le
  refine ⟨fun m h0 h1 h2 h3 => ?_, fun _ m h0 h1 h2 => ?_, by omega, fun _ => by omega⟩
  · rw [swp_len] at h1
    rw [ky_swp hi hj, ky_swp hi hj]
    by_cases e1 : m = j
    · rw [if_neg (show (m - 1) / 2 ≠ j by omega), if_pos (show (m - 1) / 2 = i by omega), if_pos e1]
      omega
    · rw [if_neg h3, if_neg e1]
      by_cases e2 : (m - 1) / 2 = i
      · rw [if_pos e2, if_neg (show m ≠ i by omega)]
        exact hmin m h0 h1 e2
      · rw [if_neg e2]
        by_cases e3 : m = i
        · rw [if_pos e3]
          have hne : i ≠ i0 := by omega
          subst e3
          exact h.gr hne j (by omega) hj (by omega)
        · rw [if_neg e3]
          exact h.ok m h0 h1 h2 e2
  · rw [swp_len] at h1
    rw [ky_swp hi hj, ky_swp hi hj]
    rw [if_neg (show (j - 1) / 2 ≠ j by omega), if_pos (show (j - 1) / 2 = i by omega), if_neg (show m ≠ j by omega), if_neg (show m ≠ i by omega)]
    have := h.ok m h0 h1 (by omega) (by omega)
    rw [h2] at this
    exact this
/-- what holds in 'up' -/
structure Up (q : List Shr) (j : Nat) : Prop where
  ok : ∀ m, 0 < m → m < q.length → m ≠ j → ky q ((m - 1) / 2) ≤ ky q m
  gr : 0 < j → ∀ m, 0 < m → m < q.length → (m - 1) / 2 = j → ky q ((j - 1) / 2) ≤ ky q m
theorem Up.done {q : List Shr} {j : Nat} (h : Up q j) (hc : 0 < j → ky q ((j - 1) / 2) ≤ ky q j) : Hp q 0 := fun m h0 h1 _ => by
  by_cases e : m = j
  · subst e; exact hc h0
  · exact h.ok m h0 h1 e
theorem Up.swap {q : List Shr} {j : Nat} (h : Up q j) (hj : j < q.length) (h0 : 0 < j) (hlt : ky q j < ky q ((j - 1) / 2)) : Up (swp q ((j - 1) / 2) j) ((j - 1) / 2) := by
  have hi : (j - 1) / 2 < q.length := by omega
  refine ⟨fun m m0 m1 m2 => ?_, fun i0 m m0 m1 m2 => ?_⟩
  · rw [swp_len] at m1
    rw [ky_swp hi hj, ky_swp hi hj]
    by_cases e1 : m = j
    · rw [if_neg (show (m - 1) / 2 ≠ j by omega), if_pos (show (m - 1) / 2 = (j - 1) / 2 by rw [e1]), if_pos e1]
      omega
    · rw [if_neg e1, if_neg m2]
      by_cases e2 : (m - 1) / 2 = j
      · rw [if_pos e2]
        exact h.gr h0 m m0 m1 e2
      · rw [if_neg e2]
        by_cases e3 : (m - 1) / 2 = (j - 1) / 2
        · rw [if_pos e3]
          have := h.ok m m0 m1 e1
          rw [e3] at this
          omega
        · rw [if_neg e3]
          exact h.ok m m0 m1 e1
  · rw [swp_len] at m1
    rw [ky_swp hi hj, ky_swp hi hj]
    rw [if_neg (show ((j - 1) / 2 - 1) / 2 ≠ j by omega), if_neg (show ((j - 1) / 2 - 1) / 2 ≠ (j - 1) / 2 by omega)]
    have hp := h.ok ((j - 1) / 2) i0 hi (by omega)
    by_cases e1 : m = j
    · rw [if_pos e1]; exact hp
    · rw [if_neg e1, if_neg (show m ≠ (j - 1) / 2 by omega)]
      have := h.ok m m0 m1 e1
      rw [m2] at this
      omega
theorem Hp.root {q : List Shr} (h : Hp q 0) : ∀ j, j < q.length → ky q 0 ≤ ky q j
  | 0, _ => Int.le_refl _
  | j + 1, hj => by
    have h1 := h (j + 1) (by omega) hj (by omega)
    have h2 := Hp.root h ((j + 1 - 1) / 2) (by omega)
    omega
theorem Hp.leaf {q : List Shr} {k : Nat} (h : q.length ≤ 2 * k + 1) : Hp q k := fun j h0 h1 h2 => by omega
end Go.AM.WH
namespace Go.AM.WH
open Go Go.Proofs
variable {K : AVal → Heap → Prop} {s : Heap}
def shR (x : Shr) : List AVal := [.int .i64 x.1, .int .i64 x.2]
abbrev flatQ (q : List Shr) : List AVal := (q.map shR).flatten
theorem shR_len (q : List Shr) : ∀ r ∈ q.map shR, r.length = 2 := fun r hr => by obtain ⟨x, _, rfl⟩ := List.mem_map.1 hr; rfl
theorem flatQ_len (q : List Shr) : (flatQ q).length = q.length * 2 := by rw [flat_len (shR_len q), List.length_map]
theorem flatQ_put {x : Shr} : ∀ {q : List Shr} {i : Nat}, i < q.length → setRange (flatQ q) (i * 2) (shR x) = flatQ (q.set i x)
  | y :: q, 0, _ => by simp [setRange, shR, flatQ]
  | y :: q, i + 1, h => by
    have ih := flatQ_put (x := x) (q := q) (i := i) (by simpa using h)
    have e : flatQ (y :: q) = .int .i64 y.1 :: .int .i64 y.2 :: flatQ q := rfl
    have e2 : flatQ ((y :: q).set (i + 1) x) = .int .i64 y.1 :: .int .i64 y.2 :: flatQ (q.set i x) := rfl
    rw [e, e2, ← ih]
    have e3 : (i + 1) * 2 = i * 2 + 2 := by omega
    rw [e3]
    simp [setRange, shR, List.take_succ_cons, Nat.add_right_comm _ 2]
theorem flatQ_set1 {v : Int} : ∀ {q : List Shr} {i : Nat}, i < q.length → (flatQ q).set (i * 2 + 1) (.int .i64 v) = flatQ (q.set i ((at0 q i).1, v))
  | y :: q, 0, _ => rfl
  | y :: q, i + 1, h => by
    have ih := flatQ_set1 (v := v) (q := q) (i := i) (by simpa using h)
    have e3 : (i + 1) * 2 + 1 = (i * 2 + 1) + 2 := by omega
    rw [e3]
    exact congrArg (fun t => AVal.int .i64 y.1 :: AVal.int .i64 y.2 :: t) ih
theorem flatQ_set0 {v : Int} : ∀ {q : List Shr} {i : Nat}, i < q.length → (flatQ q).set (i * 2) (.int .i64 v) = flatQ (q.set i (v, (at0 q i).2))
  | y :: q, 0, _ => rfl
  | y :: q, i + 1, h => by
    have ih := flatQ_set0 (v := v) (q := q) (i := i) (by simpa using h)
    have e3 : (i + 1) * 2 = i * 2 + 2 := by omega
    rw [e3]
    exact congrArg (fun t => AVal.int .i64 y.1 :: AVal.int .i64 y.2 :: t) ih
structure QAt (s : Heap) (o sb : Nat) (q : List Shr) : Prop where
  ob : ∃ t, s o = some (t, .cells 147 [.slc sb 0 q.length (some q.length) 2])
  dt : s sb = some (false, .cells 149 (flatQ q))
  rg : ∀ x ∈ q, 0 ≤ x.1 ∧ x.1 < 1000
  ln : q.length ≤ 1000
variable {o sb : Nat} {q : List Shr}
theorem QAt.sub {s' : Heap} (h : QAt s o sb q) (hs : Sub s s') : QAt s' o sb q := by
  obtain ⟨⟨t, h1⟩, h2, h3, h4⟩ := h
  exact ⟨⟨t, hs _ _ h1⟩, hs _ _ h2, h3, h4⟩
theorem q_addr {n i : Nat} (hi : i < n) : iaddrS 2 (.slc sb 0 n (some n) 2) (.int .i64 (i : Int)) = some (.ptr sb (i * 2)) := by
  have : Nat.blt i n = true := by rw [Nat.blt_eq]; exact hi
  simp [iaddrS, this]
theorem QAt.row (h : QAt s o sb q) {i : Nat} (hi : i < q.length) : rdN s 2 (.ptr sb (i * 2)) = some (shR (at0 q i)) ∧ rd1 s (.ptr sb (i * 2)) = some (.int .i64 (at0 q i).1) ∧ rd1 s (.ptr sb (i * 2 + 1)) = some (.int .i64 (at0 q i).2) := by
  have hs : SlR 2 s (.slc sb 0 q.length (some q.length) 2) (q.map shR) := SlR.mk (shR_len q) h.dt (by simp) (by simp)
  obtain ⟨b, p, h1, h2, h3⟩ := hs.get (i := i) (r := shR (at0 q i)) (by simp [at0_get hi, hi])
  rw [q_addr hi] at h1
  cases h1
  exact ⟨h2, h3 0 (by omega), h3 1 (by omega)⟩
theorem cut_new {s : Heap} {b : Nat} (hb : s b = none) : ∀ {l : List (Heap × Heap)} {t : Heap}, (∀ p ∈ l, p.2 = s) → t b ≠ none → cutH l t b ≠ none
  | [], _, _, h => h
  | p :: l, t, hp, h => by
    refine cut_new hb (l := l) (t := fun b => if p.1 b = none ∧ p.2 b ≠ none then none else t b) (fun r hr => hp r (by simp [hr])) ?_
    show (if p.1 b = none ∧ p.2 b ≠ none then none else t b) ≠ none
    rw [if_neg (by rintro ⟨_, h⟩; rw [hp p (by simp)] at h; exact h hb)]
    exact h
theorem ky_lt {a b : Shr} (ha : 0 ≤ a.1 ∧ a.1 < 1000) (hb : 0 ≤ b.1 ∧ b.1 < 1000) : decide (key a < key b) = if (a.2 == b.2) = true then decide (a.1 < b.1) else decide (a.2 < b.2) := by
  unfold key
  by_cases e : a.2 = b.2
  · rw [if_pos (by simpa using e), e]; congr 1; apply propext; omega
  · rw [if_neg (by simpa using e)]; congr 1; apply propext; omega
theorem Less_in {i j : Nat} (h : QAt s o sb q) (hi : i < q.length) (hj : j < q.length) (hK : ∀ s', Sub s s' → K (.bool (decide (ky q i < ky q j))) s') : wpCall Try.prog XX 92 [.ptr o 0, .int .i64 (i : Int), .int .i64 (j : Int)] K s := by
  obtain ⟨t, ho⟩ := h.ob
  have ri := (h.row hi).1
  have rj := (h.row hj).1
  refine vc_spread_order_Less_in ?_
  simp only [vc_spread_order_Less, nilCheck_ptr, addOff_ptr, optK_mk, rd1_mk ho, Nat.zero_add, List.getElem?_cons_zero, q_addr hi, q_addr hj, ri, rj]
  refine newM (l := []) fun x s1 hx hx1 ux => newM (l := [(s, add s s1)]) fun y s2 hy hy2 uy => ⟨?_, ?_⟩
  · refine cut_new hx (fun p hp => by simp only [List.mem_cons, List.not_mem_nil, or_false] at hp; rcases hp with rfl | rfl <;> rfl) ?_
    rw [sub_add x _ hx1]; simp
  · have hyx : y ≠ x := by rintro rfl; rw [hx1] at hy; cases hy
    refine wrAgg_step (sub_add x _ hx1) rfl rfl rfl fun s3 hx3 u3 => ?_
    refine wrAgg_step ((u3 y hyx).trans hy2) rfl rfl rfl fun s4 hy4 u4 => ?_
    have hx4 : s4 x = _ := (u4 x hyx.symm).trans hx3
    have sub4 : Sub s s4 := fun i e hi => by
      have hiA : add s s1 i = some e := sub_add i e hi
      rw [u4 i (ne_of_some hy hiA), u3 i (ne_of_some hx hi)]
      exact sub_add i e hiA
    have hk := hK _ sub4
    have e := ky_lt (h.rg _ (List.getElem_mem hi)) (h.rg _ (List.getElem_mem hj))
    rw [← at0_get hi, ← at0_get hj] at e
    unfold ky at hk
    rw [e] at hk
    simp only [addOff_ptr, optK_mk, rd1_mk hx4, rd1_mk hy4, Nat.zero_add, shR, List.getElem?_cons_zero, List.getElem?_cons_succ, eqV_int, negB_mk, Bool.true_bne, arith_lss]
    cases hq : ((at0 q i).2 == (at0 q j).2) with
    | true => rw [hq, if_pos rfl] at hk; simp only [Bool.not_true, boolK_false]; exact hk
    | false => rw [hq, if_neg (by simp)] at hk; simp only [Bool.not_false, boolK_true]; exact hk
theorem Swap_in {i j : Nat} (h : QAt s o sb q) (hi : i < q.length) (hj : j < q.length) (hK : ∀ s', QAt s' o sb (swp q i j) → KeepBut (fun b => b = sb) s s' → K (.tup []) s') : wpCall Try.prog XX 114 [.ptr o 0, .int .i64 (i : Int), .int .i64 (j : Int)] K s := by
  obtain ⟨t, ho⟩ := h.ob
  have ri := (h.row hi).1
  have rj := (h.row hj).1
  refine vc_spread_order_Swap_in ?_
  simp only [vc_spread_order_Swap, nilCheck_ptr, addOff_ptr, optK_mk, rd1_mk ho, Nat.zero_add, List.getElem?_cons_zero, q_addr hi, q_addr hj, ri, rj]
  have hos : o ≠ sb := by rintro rfl; rw [h.dt] at ho; cases ho
  have wr : ∀ {s : Heap} {q : List Shr} {i : Nat} {x : Shr} {R : Heap → Prop}, s sb = some (false, .cells 149 (flatQ q)) → i < q.length → (∀ s', s' sb = some (false, .cells 149 (flatQ (q.set i x))) → Upto sb s s' → R s') → optK (wrAgg s 2 (.ptr sb (i * 2)) (.agg (shR x))) R := by
    intro s q i x R hs hi hR
    have e1 : Nat.ble (i * 2 + (shR x).length) (flatQ q).length = true := Nat.ble_eq_true_of_le (by rw [flatQ_len]; show i * 2 + 2 ≤ _; omega)
    have e2 : wrAgg s 2 (.ptr sb (i * 2)) (.agg (shR x)) = some (hset s sb (false, .cells 149 (flatQ (q.set i x)))) := by
      rw [← flatQ_put hi]
      simp only [wrAgg, cells_agg, show Nat.beq (shR x).length 2 = true from rfl, cond_true, wrN, hs, e1, show allOne (shR x) = true from rfl, Bool.and_self]
    exact optK_of e2 (hR _ hset_eq fun _ hi => hset_other hi)
  refine wr h.dt hi fun s1 h1 u1 => wr h1 (by simpa using hj) fun s2 h2 u2 => ?_
  refine hK _ ⟨⟨t, ?_⟩, h2, fun x hx => h.rg x ((swp_perm hi hj).mem_iff.1 hx), by rw [swp_len]; exact h.ln⟩ ((u1.keep (fp := fun b => b = sb) rfl).trans (u2.keep (fp := fun b => b = sb) rfl))
  rw [u2 o hos, u1 o hos, swp_len]; exact ho
abbrev qv (o : Nat) : AVal := .ifc 122 (.agg [.ptr o 0])
theorem meth_Len : methodA Try.prog 122 (.agg [.ptr o 0]) "Len" = ret (113, .ptr o 0) := by kernel_rfl
theorem meth_Less : methodA Try.prog 122 (.agg [.ptr o 0]) "Less" = ret (92, .ptr o 0) := by kernel_rfl
theorem meth_Swap : methodA Try.prog 122 (.agg [.ptr o 0]) "Swap" = ret (114, .ptr o 0) := by kernel_rfl
theorem mLen_in (h : QAt s o sb q) (hK : K (.int .i64 (q.length : Int)) s) : methK Try.prog XX (qv o) "Len" [] K s := by
  show wpF (fun _ => methodA Try.prog 122 (.agg [.ptr o 0]) "Len") _ s
  rw [meth_Len]
  obtain ⟨t, ho⟩ := h.ob
  refine wpF.ret ⟨by kernel_rfl, vc_spread_order_Len_in ?_⟩
  simp only [vc_spread_order_Len, nilCheck_ptr, addOff_ptr, optK_mk, rd1_mk ho, Nat.zero_add, List.getElem?_cons_zero, lenOf_slc]
  exact hK
theorem mLess_in {i j : Nat} (h : QAt s o sb q) (hi : i < q.length) (hj : j < q.length) (hK : ∀ s', Sub s s' → K (.bool (decide (ky q i < ky q j))) s') : methK Try.prog XX (qv o) "Less" [.int .i64 (i : Int), .int .i64 (j : Int)] K s := by
  show wpF (fun _ => methodA Try.prog 122 (.agg [.ptr o 0]) "Less") _ s
  rw [meth_Less]
  exact wpF.ret ⟨by kernel_rfl, Less_in h hi hj hK⟩
theorem mSwap_in {i j : Nat} (h : QAt s o sb q) (hi : i < q.length) (hj : j < q.length) (hK : ∀ s', QAt s' o sb (swp q i j) → KeepBut (fun b => b = sb) s s' → K (.tup []) s') : methK Try.prog XX (qv o) "Swap" [.int .i64 (i : Int), .int .i64 (j : Int)] K s := by
  show wpF (fun _ => methodA Try.prog 122 (.agg [.ptr o 0]) "Swap") _ s
  rw [meth_Swap]
  exact wpF.ret ⟨by kernel_rfl, Swap_in h hi hj hK⟩
end Go.AM.WH
namespace Go.AM.WH
open Go Go.Proofs
variable {K : AVal → Heap → Prop} {s : Heap} {o sb : Nat} {q : List Shr}
theorem QAt.of {q : List Shr} (h : QAt s o sb q) {s' : Heap} {q' : List Shr} (hd : s' sb = some (false, .cells 149 (flatQ q'))) (hp : q'.length = q.length) (hr : ∀ x ∈ q', 0 ≤ x.1 ∧ x.1 < 1000) (hk : KeepBut (fun b => b = sb) s s') : QAt s' o sb q' := by
  obtain ⟨t, ho⟩ := h.ob
  have hos : ¬ o = sb := by rintro rfl; rw [h.dt] at ho; cases ho
  exact ⟨⟨t, by rw [hp]; exact hk _ _ ho hos⟩, hd, hr, by rw [hp]; exact h.ln⟩
/-- sift down -/
theorem down_in {i0 : Nat} (h : QAt s o sb q) (hd : Hp q (i0 + 1)) (h0 : i0 < q.length) (hK : ∀ s' q' b, QAt s' o sb q' → q'.Perm q → Hp q' i0 → KeepBut (fun b => b = sb) s s' → (b = false → q' = q) → ((∀ j, 0 < j → j < q.length → (j - 1) / 2 = i0 → ky q i0 ≤ ky q j) → b = false) → K (.bool b) s') : wpCall Try.prog XX 84 [qv o, .int .i64 (i0 : Int), .int .i64 (q.length : Int)] K s := by
  refine vh_down_in ?_
  refine ⟨fun ys s1 n => ∃ (i : Nat) (q1 : List Shr), ys = [.int .i64 i] ∧ n = q.length - i ∧ i < q.length ∧ QAt s1 o sb q1 ∧ q1.Perm q ∧ Dn q1 i0 i ∧ KeepBut (fun b => b = sb) s s1 ∧ (i = i0 → q1 = q) ∧ ((∀ j, 0 < j → j < q.length → (j - 1) / 2 = i0 → ky q i0 ≤ ky q j) → i = i0), ⟨_, i0, q, rfl, rfl, h0, h, .refl q, hd.dn, .refl _ s, fun _ => rfl, fun _ => rfl⟩, ?_⟩
  rintro f s1 n ⟨i, q1, hy, rfl, hi, z, hp, dn, kp, same, stay⟩
  simp only [List.cons.injEq, and_true] at hy
  rw [hy]
  have hlen := hp.length_eq
  have hl := h.ln
  have m1 : IntKind.i64.wrap (2 * (i : Int)) = ((2 * i : Nat) : Int) := by rw [wrap64 (by omega) (by omega)]; omega
  have m2 : IntKind.i64.wrap (((2 * i : Nat) : Int) + 1) = ((2 * i + 1 : Nat) : Int) := by rw [wrap64 (by omega) (by omega)]; omega
  have m3 : IntKind.i64.wrap (((2 * i + 1 : Nat) : Int) + 1) = ((2 * i + 2 : Nat) : Int) := by rw [wrap64 (by omega) (by omega)]; omega
  simp only [vh_down_l1, arith_mul, optK_mk, m1, arith_add, m2, arith_geq, arith_lss]
  have fin : ∀ s2, Sub s1 s2 → (∀ j, 0 < j → j < q1.length → (j - 1) / 2 = i → ky q1 i ≤ ky q1 j) → vh_down_j0 XX (.int .i64 (i0 : Int)) (.int .i64 (i : Int)) K s2 := by
    intro s2 hs hc
    simp only [vh_down_j0, arith_gtr, optK_mk]
    refine hK s2 q1 _ (z.sub hs) hp (dn.done hc) (kp.trans hs.keep) (fun hb => same ?_) fun hst => ?_
    · have := of_decide_eq_false hb
      have := dn.le
      omega
    · rw [stay hst, decide_eq_false_iff_not]
      omega
  by_cases hc : q.length ≤ 2 * i + 1
  · have e1 : decide ((q.length : Int) ≤ ((2 * i + 1 : Nat) : Int)) = true := by rw [decide_eq_true_eq]; omega
    rw [e1]
    simp only [boolK_true, vh_down_j2, pickV_true, optK_mk]
    exact fin s1 (.refl s1) fun j a b c => by omega
  · have e1 : decide ((q.length : Int) ≤ ((2 * i + 1 : Nat) : Int)) = false := by rw [decide_eq_false_iff_not]; omega
    have e2 : decide (((2 * i + 1 : Nat) : Int) < 0) = false := by rw [decide_eq_false_iff_not]; omega
    rw [e1, e2]
    simp only [boolK_false, vh_down_j2, pickV_false, optK_mk, arith_add, m3, arith_lss]
    -- what comes once the child is chosen
    have go : ∀ (s2 : Heap) (j : Nat), Sub s1 s2 → j < q1.length → (j = 2 * i + 1 ∨ j = 2 * i + 2) → (∀ m, 0 < m → m < q1.length → (m - 1) / 2 = i → ky q1 j ≤ ky q1 m) →
        vh_down_j4 XX (qv o) (.int .i64 (i0 : Int)) (.int .i64 (i : Int)) (.int .i64 (j : Int)) (fun ys s1 n => ∃ (i : Nat) (q1 : List Shr), ys = [.int .i64 i] ∧ n = q.length - i ∧ i < q.length ∧ QAt s1 o sb q1 ∧ q1.Perm q ∧ Dn q1 i0 i ∧ KeepBut (fun b => b = sb) s s1 ∧ (i = i0 → q1 = q) ∧ ((∀ j, 0 < j → j < q.length → (j - 1) / 2 = i0 → ky q i0 ≤ ky q j) → i = i0)) (q.length - i) K s2 := by
      intro s2 j hs hj hc2 hmin
      unfold vh_down_j4
      refine mLess_in (z.sub hs) hj (by omega) fun s3 hs3 => ?_
      simp only [unary_not, optK_mk]
      refine boolK_mk (fun hb => ?_) (fun hb => ?_)
      · have hb : ¬ ky q1 j < ky q1 i := by simpa using hb
        exact fin s3 (hs.trans hs3) fun m a b c => by have := hmin m a b c; omega
      · have hb : ky q1 j < ky q1 i := by simpa using hb
        refine mSwap_in (z.sub (hs.trans hs3)) (by omega) hj fun s4 z4 k4 => ?_
        refine ⟨_, ?_, j, _, rfl, rfl, by omega, z4, (swp_perm (by omega) hj).trans hp, dn.swap hj hc2 hb hmin, (kp.trans (hs.trans hs3).keep).trans k4, fun e => ?_, fun hst => ?_⟩
        · omega
        · have := dn.le; omega
        · have e1 := stay hst
          have e2 := same e1
          subst e1
          rw [e2] at hb
          have := hst j (by omega) (by omega) (by omega)
          omega
    refine boolK_mk (fun hb => ?_) (fun hb => ?_)
    · have hb2 : 2 * i + 2 < q.length := by have := of_decide_eq_true hb; omega
      rw [hb]
      refine mLess_in z (by omega) (by omega) fun s2 hs2 => ?_
      simp only [vh_down_j3, pickV_true, optK_mk]
      refine boolK_mk (fun hl2 => ?_) (fun hl2 => ?_)
      · have hl2 := of_decide_eq_true hl2
        exact go s2 (2 * i + 2) hs2 (by omega) (.inr rfl) fun m a b c => by
          have : m = 2 * i + 1 ∨ m = 2 * i + 2 := by omega
          rcases this with rfl | rfl
          · omega
          · exact Int.le_refl _
      · have hl2 := of_decide_eq_false hl2
        exact go s2 (2 * i + 1) hs2 (by omega) (.inl rfl) fun m a b c => by
          have : m = 2 * i + 1 ∨ m = 2 * i + 2 := by omega
          rcases this with rfl | rfl
          · exact Int.le_refl _
          · omega
    · have hb2 : ¬ 2 * i + 2 < q.length := by have := of_decide_eq_false hb; omega
      rw [hb]
      simp only [vh_down_j3, pickV_false, optK_mk, boolK_false]
      exact go s1 (2 * i + 1) (.refl s1) (by omega) (.inl rfl) fun m a b c => by
        have : m = 2 * i + 1 := by omega
        subst this
        exact Int.le_refl _
/-- sift up -/
theorem up_in {j0 : Nat} (h : QAt s o sb q) (hu : Up q j0) (h0 : j0 < q.length) (hK : ∀ s' q', QAt s' o sb q' → q'.Perm q → Hp q' 0 → KeepBut (fun b => b = sb) s s' → K (.tup []) s') : wpCall Try.prog XX 85 [qv o, .int .i64 (j0 : Int)] K s := by
  refine vh_up_in ?_
  refine ⟨fun ys s1 n => ∃ (j : Nat) (q1 : List Shr), ys = [.int .i64 j] ∧ n = j ∧ j < q.length ∧ QAt s1 o sb q1 ∧ q1.Perm q ∧ Up q1 j ∧ KeepBut (fun b => b = sb) s s1, ⟨_, j0, q, rfl, rfl, h0, h, .refl q, hu, .refl _ s⟩, ?_⟩
  rintro f s1 n ⟨j, q1, hy, rfl, hj, z, hp, up, kp⟩
  simp only [List.cons.injEq, and_true] at hy
  rw [hy]
  have hlen := hp.length_eq
  have hl := h.ln
  simp only [vh_up_l0, arith_sub, optK_mk]
  rw [wrap64 (by omega) (by omega)]
  simp only [arith_quo (show (2 : Int) ≠ 0 by omega), optK_mk]
  have e1 : ((n : Int) - 1).tdiv 2 = (((n - 1) / 2 : Nat) : Int) := by
    cases n with
    | zero => rfl
    | succ m =>
      rw [show ((m + 1 : Nat) : Int) - 1 = (m : Int) by omega, show m + 1 - 1 = m by omega, Int.tdiv_eq_ediv_of_nonneg (by omega)]
      rfl
  rw [e1, wrap64 (by omega) (by omega)]
  simp only [eqV_int, negB_mk, Bool.false_bne, optK_mk]
  cases n with
  | zero =>
    simp only [show ((((0 - 1) / 2 : Nat) : Int) == ((0 : Nat) : Int)) = true from rfl, boolK_true, vh_up_j1, pickV_true, optK_mk]
    exact hK s1 q1 z hp (up.done fun h => absurd h (by omega)) kp
  | succ m =>
    have e2 : ((((m + 1 - 1) / 2 : Nat) : Int) == ((m + 1 : Nat) : Int)) = false := by
      cases hq : ((((m + 1 - 1) / 2 : Nat) : Int) == ((m + 1 : Nat) : Int)) with
      | false => rfl
      | true => have := eq_of_beq hq; omega
    rw [e2]
    simp only [boolK_false]
    refine mLess_in z (by omega) (by omega) fun s2 hs2 => ?_
    simp only [unary_not, optK_mk, vh_up_j1, pickV_false]
    refine boolK_mk (fun hb => ?_) (fun hb => ?_)
    · have hb : ¬ ky q1 (m + 1) < ky q1 ((m + 1 - 1) / 2) := by simpa using hb
      exact hK s2 q1 (z.sub hs2) hp (up.done fun _ => by omega) (kp.trans hs2.keep)
    · have hb : ky q1 (m + 1) < ky q1 ((m + 1 - 1) / 2) := by simpa using hb
      refine mSwap_in (z.sub hs2) (by omega) (by omega) fun s3 z3 k3 => ?_
      exact ⟨_, by omega, _, _, rfl, rfl, by omega, z3, (swp_perm (by omega) (by omega)).trans hp, up.swap (by omega) (by omega) hb, (kp.trans hs2.keep).trans k3⟩
theorem Init_in (h : QAt s o sb q) (hK : ∀ s' q', QAt s' o sb q' → q'.Perm q → Hp q' 0 → KeepBut (fun b => b = sb) s s' → K (.tup []) s') : wpCall Try.prog XX 90 [qv o] K s := by
  refine vh_Init_in (mLen_in h ?_)
  have hl := h.ln
  have e1 : (q.length : Int).tdiv 2 = ((q.length / 2 : Nat) : Int) := by rw [Int.tdiv_eq_ediv_of_nonneg (by omega)]; rfl
  simp only [arith_quo (show (2 : Int) ≠ 0 by omega), optK_mk, e1]
  rw [wrap64 (by omega) (by omega)]
  simp only [arith_sub, optK_mk]
  rw [wrap64 (by omega) (by omega)]
  refine ⟨fun ys s1 n => ∃ (j : Nat) (q1 : List Shr), ys = [.int .i64 ((j : Int) - 1)] ∧ n = j ∧ j ≤ q.length / 2 ∧ QAt s1 o sb q1 ∧ q1.Perm q ∧ Hp q1 j ∧ KeepBut (fun b => b = sb) s s1, ⟨_, q.length / 2, q, rfl, rfl, by omega, h, .refl q, .leaf (by omega), .refl _ s⟩, ?_⟩
  rintro f s1 n ⟨j, q1, hy, rfl, hj, z, hp, hh, kp⟩
  simp only [List.cons.injEq, and_true] at hy
  rw [hy]
  have hlen := hp.length_eq
  simp only [vh_Init_l0, arith_geq, optK_mk]
  refine boolK_mk (fun hb => ?_) (fun hb => ?_)
  · have hb := of_decide_eq_true hb
    obtain ⟨i, rfl⟩ : ∃ i, n = i + 1 := ⟨n - 1, by omega⟩
    rw [show ((i + 1 : Nat) : Int) - 1 = (i : Int) by omega, ← hlen]
    refine down_in z hh (by omega) fun s2 q2 b z2 p2 h2 k2 _ _ => ?_
    simp only [arith_sub, optK_mk]
    rw [wrap64 (by omega) (by omega)]
    exact ⟨_, by omega, i, q2, rfl, rfl, by omega, z2, p2.trans hp, h2, kp.trans k2⟩
  · have hb := of_decide_eq_false hb
    obtain rfl : n = 0 := by omega
    exact hK s1 q1 z hp hh kp
end Go.AM.WH
namespace Go.AM.WH
open Go Go.Proofs
variable {K : AVal → Heap → Prop} {s : Heap} {o sb : Nat} {q : List Shr}
/-- the load of one changes -/
def upd2 (q : List Shr) (i : Nat) (d : Int) : List Shr := q.set i ((at0 q i).1, (at0 q i).2 + d)
theorem upd2_len (q : List Shr) (i : Nat) (d : Int) : (upd2 q i d).length = q.length := by simp [upd2]
theorem ky_upd2 {i m : Nat} {d : Int} (hi : i < q.length) : ky (upd2 q i d) m = if m = i then ky q i + d * 1000 else ky q m := by
  unfold ky upd2
  rw [at0_set hi]
  split
  · unfold key; simp only; omega
  · rfl
theorem upd2_rg {i : Nat} {d : Int} (hi : i < q.length) (hr : ∀ x ∈ q, 0 ≤ x.1 ∧ x.1 < 1000) : ∀ x ∈ upd2 q i d, 0 ≤ x.1 ∧ x.1 < 1000 := fun x hx => by
  rcases List.mem_or_eq_of_mem_set hx with h | rfl
  · exact hr x h
  · exact hr (at0 q i) (by rw [at0_get hi]; exact List.getElem_mem hi)
/-- up to the call of Fix -/
theorem change_in {i : Nat} {d : Int} (h : QAt s o sb q) (hi : i < q.length) (hd : -1 ≤ d ∧ d ≤ 1) (hb : 0 ≤ (at0 q i).2 ∧ (at0 q i).2 ≤ 100000)
    (hK : ∀ s', QAt s' o sb (upd2 q i d) → KeepBut (fun b => b = sb) s s' → wpCall Try.prog XX 91 [qv o, .int .i64 (i : Int)] (fun _ s'' => K (.tup []) s'') s') : wpCall Try.prog XX 79 [.agg [.ptr o 0], .int .i64 (i : Int), .int .i64 d] K s := by
  refine vc_spread_queue_change_in ⟨rfl, new_step fun b s1 hb1 h1 u1 => ?_⟩
  have z1 := h.sub (u1.sub hb1)
  obtain ⟨t, ho⟩ := z1.ob
  have h1 : s1 b = some (false, .cells 122 [.ptr o 0]) := h1
  have r := (z1.row hi).2.2
  simp only [addOff_ptr, optK_mk, rd1_mk h1, rd1_mk ho, Nat.zero_add, List.getElem?_cons_zero, nilCheck_ptr, q_addr hi, r, arith_add]
  rw [wrap64 (by omega) (by omega)]
  refine wr1_step z1.dt (by rw [flatQ_len]; omega) rfl fun s2 h2 u2 => ?_
  have hbs : b ≠ sb := by rintro rfl; rw [h.dt] at hb1; cases hb1
  refine optK_of (rdN_all ((u2 b hbs).trans h1) rfl) ?_
  refine hK s2 (z1.of (by rw [flatQ_set1 hi] at h2; exact h2) (upd2_len _ _ _) (upd2_rg hi h.rg) (u2.keep (fp := fun b => b = sb) rfl)) ((u1.sub hb1).keep.trans (u2.keep (fp := fun b => b = sb) rfl))
theorem change0_in (h : QAt s o sb q) (hh : Hp q 0) (hi : 0 < q.length) (hb : 0 ≤ (at0 q 0).2 ∧ (at0 q 0).2 ≤ 100000)
    (hK : ∀ s' q', QAt s' o sb q' → q'.Perm (upd2 q 0 1) → Hp q' 0 → KeepBut (fun b => b = sb) s s' → K (.tup []) s') : wpCall Try.prog XX 79 [.agg [.ptr o 0], .int .i64 0, .int .i64 1] K s := by
  refine change_in (i := 0) h hi (by omega) hb fun s1 z1 k1 => ?_
  refine vh_Fix_in (mLen_in z1 ?_)
  have hd : Hp (upd2 q 0 1) 1 := fun j h0 h1 h2 => by
    rw [upd2_len] at h1
    rw [ky_upd2 hi, ky_upd2 hi, if_neg (by omega), if_neg (by omega)]
    exact hh j h0 h1 (by omega)
  refine down_in (i0 := 0) z1 hd (by rw [upd2_len]; exact hi) fun s2 q2 b z2 p2 h2 k2 same _ => ?_
  simp only [unary_not, optK_mk]
  refine boolK_mk (fun _ => ?_) (fun _ => hK s2 q2 z2 p2 h2 (k1.trans k2))
  refine up_in (j0 := 0) z2 ⟨fun m m0 m1 _ => h2 m m0 m1 (by omega), fun h => absurd h (by omega)⟩ (by rw [p2.length_eq, upd2_len]; exact hi) fun s3 q3 z3 p3 h3 k3 => hK s3 q3 z3 (p3.trans p2) h3 ((k1.trans k2).trans k3)
theorem changeM_in {i : Nat} (h : QAt s o sb q) (hh : Hp q 0) (hi : i < q.length) (hb : 0 ≤ (at0 q i).2 ∧ (at0 q i).2 ≤ 100000)
    (hK : ∀ s' q', QAt s' o sb q' → q'.Perm (upd2 q i (-1)) → Hp q' 0 → KeepBut (fun b => b = sb) s s' → K (.tup []) s') : wpCall Try.prog XX 79 [.agg [.ptr o 0], .int .i64 (i : Int), .int .i64 (-1)] K s := by
  refine change_in h hi (by omega) hb fun s1 z1 k1 => ?_
  refine vh_Fix_in (mLen_in z1 ?_)
  have hd : Hp (upd2 q i (-1)) (i + 1) := fun j h0 h1 h2 => by
    rw [upd2_len] at h1
    rw [ky_upd2 hi, ky_upd2 hi, if_neg (by omega), if_neg (by omega)]
    exact hh j h0 h1 (by omega)
  have hi1 : i < (upd2 q i (-1)).length := by rw [upd2_len]; exact hi
  refine down_in (i0 := i) z1 hd hi1 fun s2 q2 b z2 p2 h2 k2 same stay => ?_
  have hb : b = false := stay fun j h0 h1 h2 => by
    rw [upd2_len] at h1
    rw [ky_upd2 hi, ky_upd2 hi, if_pos rfl, if_neg (by omega)]
    have := hh j h0 h1 (by omega)
    rw [h2] at this
    omega
  subst hb
  have e2 := same rfl
  subst e2
  simp only [unary_not, Bool.not_false, optK_mk, boolK_true]
  refine up_in (j0 := i) z2 ⟨fun m m0 m1 m2 => ?_, fun i0 m m0 m1 m2 => ?_⟩ hi1 fun s3 q3 z3 p3 h3 k3 => hK s3 q3 z3 p3 h3 ((k1.trans k2).trans k3)
  · rw [upd2_len] at m1
    rw [ky_upd2 hi, ky_upd2 hi, if_neg m2]
    have := hh m m0 m1 (by omega)
    split
    · rename_i e; rw [e] at this; omega
    · exact this
  · rw [upd2_len] at m1
    rw [ky_upd2 hi, ky_upd2 hi, if_neg (show (i - 1) / 2 ≠ i by omega), if_neg (show m ≠ i by omega)]
    have a := hh m m0 m1 (by omega)
    have b := hh i i0 hi (by omega)
    rw [m2] at a
    omega
theorem most_in (h : QAt s o sb q) (hq : 0 < q.length) (hK : ∀ s' (m : Nat), Sub s s' → m < q.length → (∀ j, j < q.length → ky q j ≤ ky q m) → K (.int .i64 (m : Int)) s') : wpCall Try.prog XX 80 [.agg [.ptr o 0]] K s := by
  refine vc_spread_queue_most_in ⟨rfl, new_step fun b s1 hb1 h1 u1 => ?_⟩
  have sub1 := u1.sub hb1
  have z1 := h.sub sub1
  obtain ⟨t, ho⟩ := z1.ob
  have h1 : s1 b = some (false, .cells 122 [.ptr o 0]) := h1
  have hl := h.ln
  simp only [addOff_ptr, optK_mk, rd1_mk h1, rd1_mk ho, Nat.zero_add, List.getElem?_cons_zero, nilCheck_ptr, lenOf_slc]
  refine ⟨fun ys s2 n => ∃ (m i : Nat), ys = [.int .i64 m, .int .i64 i] ∧ n = q.length - i ∧ i ≤ q.length ∧ m < q.length ∧ (∀ j, j < i → ky q j ≤ ky q m) ∧ Sub s1 s2, ⟨_, 0, 0, rfl, rfl, by omega, hq, by omega, .refl s1⟩, ?_⟩
  rintro f s2 n ⟨m, i, hy, rfl, hi, hm, hb, sub2⟩
  simp only [List.cons.injEq, and_true] at hy
  rw [hy.1, hy.2]
  have z2 := z1.sub sub2
  simp only [vc_spread_queue_most_l0, arith_lss, optK_mk]
  refine boolK_mk (fun hlt => ?_) (fun hge => ?_)
  · have hlt : i < q.length := by have := of_decide_eq_true hlt; omega
    simp only [addOff_ptr, optK_mk, rd1_mk (sub2 _ _ h1), Nat.zero_add, List.getElem?_cons_zero]
    refine Less_in z2 hm hlt fun s3 sub3 => ?_
    simp only [vc_spread_queue_most_j1, arith_add, optK_mk]
    rw [wrap64 (by omega) (by omega)]
    refine boolK_mk (fun hb2 => ?_) (fun hb2 => ?_)
    · have hb2 := of_decide_eq_true hb2
      refine ⟨_, by omega, i, i + 1, rfl, rfl, by omega, hlt, fun j hj => ?_, sub2.trans sub3⟩
      by_cases e : j = i
      · subst e; exact Int.le_refl _
      · have := hb j (by omega); omega
    · have hb2 := of_decide_eq_false hb2
      refine ⟨_, by omega, m, i + 1, rfl, rfl, by omega, hm, fun j hj => ?_, sub2.trans sub3⟩
      by_cases e : j = i
      · subst e; omega
      · exact hb j (by omega)
  · have hge : q.length ≤ i := by have := of_decide_eq_false hge; omega
    exact hK s2 m (sub1.trans sub2) hm fun j hj => hb j (by omega)
theorem build_in (h : QAt s o sb q) (hK : ∀ s' q', QAt s' o sb q' → q'.Perm q → Hp q' 0 → KeepBut (fun b => b = sb) s s' → K (.tup []) s') : wpCall Try.prog XX 78 [.agg [.ptr o 0]] K s := by
  refine vc_spread_queue_build_in ⟨rfl, new_step fun b s1 hb1 h1 u1 => optK_of (rdN_all h1 rfl) ?_⟩
  exact Init_in (h.sub (u1.sub hb1)) fun s2 q2 z2 p2 h2 k2 => hK s2 q2 z2 p2 h2 ((u1.sub hb1).keep.trans k2)
end Go.AM.WH
namespace Go.AM.WH
open Go Go.Proofs
variable {K : AVal → Heap → Prop} {s : Heap}
/-! ### wheels -/
abbrev Sli (s : Heap) (v : AVal) (l : List Int) : Prop := Sl s v (l.map (AVal.int .i64))
theorem sli_at {v : AVal} {l : List Int} (h : Sli s v l) {k : Nat} (hk : k < l.length) : ∃ p, iaddrS 1 v (.int .i64 (k : Int)) = some p ∧ rd1 s p = some (.int .i64 l[k]) := by
  obtain ⟨p, h1, h2⟩ := h.get (i := k) (by simpa using hk)
  exact ⟨p, h1, by rw [h2]; simp [hk]⟩
abbrev ints (l : List Int) : List AVal := l.map (AVal.int .i64)
theorem b_addr {bb n i : Nat} {cap : Option Nat} (hi : i < n) : iaddrS 1 (.slc bb 0 n cap 1) (.int .i64 (i : Int)) = some (.ptr bb i) := by
  have : Nat.blt i n = true := by rw [Nat.blt_eq]; exact hi
  simp [iaddrS, this]
theorem ints_at {B : List Int} {i : Nat} (hi : i < B.length) : (ints B)[i]? = some (.int .i64 B[i]) := by simp [ints, hi]
theorem ints_set {B : List Int} {i : Nat} {v : Int} : (ints B).set i (.int .i64 v) = ints (B.set i v) := by simp [ints, List.map_set]
theorem _root_.Go.AM.Sub.upto {s s' s'' : Heap} {b : Nat} (h : Sub s s') (u : Upto b s' s'') (hb : s b = none) : Sub s s'' := fun i e hi => by rw [u i (ne_of_some hb hi)]; exact h i e hi
/-- the number of buckets of a member; a bucket holds its member's number plus 1, or 0 -/
def ld (B : List Int) (m : Int) : Nat := B.count (m + 1)
/-- a wheel in memory: its buckets lie in a block of its own -/
structure WAt (s : Heap) (w bb : Nat) (mv : AVal) (cap : Option Nat) (B M : List Int) : Prop where
  wb : s w = some (false, .cells 119 [.slc bb 0 B.length cap 1, mv])
  bs : s bb = some (false, .cells 3 (ints B))
  ms : Sli s mv M
  cp : ∀ c, cap = some c → B.length ≤ c
  pos : 1 ≤ B.length ∧ B.length ≤ 256
variable {w bb : Nat} {mv : AVal} {cap : Option Nat} {B M : List Int}
theorem WAt.sub {s' : Heap} (h : WAt s w bb mv cap B M) (hs : Sub s s') : WAt s' w bb mv cap B M := ⟨hs _ _ h.wb, hs _ _ h.bs, h.ms.sub hs, h.cp, h.pos⟩
theorem WAt.ne (h : WAt s w bb mv cap B M) : w ≠ bb := by
  rintro rfl
  have := h.wb
  rw [h.bs] at this
  cases this
theorem valid_rd {t1 : Bool} {n : Nat} (hw : s w = some (t1, .cells 119 [.slc bb 0 n cap 1, mv])) (hp : 1 ≤ n) (hK : K (.bool true) s) : wpCall Try.prog XX 63 [.ptr w 0] K s := by
  refine vc_spread_Wheel_valid_in ?_
  have hp : decide ((0 : Int) < (n : Int)) = true := by rw [decide_eq_true_eq]; omega
  simp only [vc_spread_Wheel_valid, eqV_ptr, negB_mk, Bool.bne_false, optK_mk, boolK_true, nilCheck_ptr, addOff_ptr, rd1_mk hw, Nat.zero_add, List.getElem?_cons_zero, lenOf_slc, arith_gtr, hp, vc_spread_Wheel_valid_j0, pickV_true]
  exact hK
theorem valid_in (h : WAt s w bb mv cap B M) (hK : K (.bool true) s) : wpCall Try.prog XX 63 [.ptr w 0] K s := by
  refine vc_spread_Wheel_valid_in ?_
  have hp : decide ((0 : Int) < (B.length : Int)) = true := by have := h.pos; rw [decide_eq_true_eq]; omega
  simp only [vc_spread_Wheel_valid, eqV_ptr, negB_mk, Bool.bne_false, optK_mk, boolK_true, nilCheck_ptr, addOff_ptr, rd1_mk h.wb, Nat.zero_add, List.getElem?_cons_zero, lenOf_slc, arith_gtr, hp, vc_spread_Wheel_valid_j0, pickV_true]
  exact hK
theorem New_in {n : Nat} (h1 : 1 ≤ n) (h2 : n ≤ 256) (hK : ∀ w bb s', s w = none → s bb = none → Sub s s' → WAt s' w bb .nilslc (some n) (List.replicate n 0) [] → K (.tup [.ptr w 0, .int .i64 0]) s') : wpCall Try.prog XX 62 [.int .i64 (n : Int)] K s := by
  refine vc_spread_New_in ?_
  have e1 : decide ((n : Int) < 1) = false := by rw [decide_eq_false_iff_not]; omega
  have e2 : decide ((256 : Int) < (n : Int)) = false := by rw [decide_eq_false_iff_not]; omega
  simp only [vc_spread_New, arith_lss, arith_gtr, e1, e2, optK_mk, boolK_false, vc_spread_New_j0, pickV_false, nat?_mk]
  refine ⟨⟨Nat.le_refl _, by omega⟩, new_step fun bb s1 hb hb1 u1 => ?_⟩
  refine optK_of (a := [.slc bb 0 n (some n) 1, .nilslc]) rfl ⟨rfl, new_step fun w s2 hw hw2 u2 => ?_⟩
  have hbb : s2 bb = some (false, .cells 3 (ints (List.replicate n 0))) := by
    rw [u2.at hb1 hw, repl_one]
    simp [ints]
  have hws : s w = none := by
    cases e : s w with
    | none => rfl
    | some x => rw [u1.sub hb w x e] at hw; cases hw
  refine hK w bb s2 hws hb ((u1.sub hb).trans (u2.sub hw)) ⟨?_, hbb, .inl ⟨rfl, rfl⟩, fun c e => by cases e; simp, by simp; omega⟩
  rw [List.length_replicate]; exact hw2
/-- a copy -/
theorem Clone_in {v : AVal} {l : List Int} (h : Sli s v l) (hl : l.length ≤ 100000) (hK : ∀ v' s', Sub s s' → Sli s' v' l → (l ≠ [] → ∃ c, s c = none ∧ v' = .slc c 0 l.length none 1 ∧ s' c = some (false, .cells 3 (ints l))) → K v' s') : wpCall Try.prog XX 46 [v] K s := by
  refine vs_Clone___int_int__in ?_
  have cases0 : (v = .nilslc ∧ l = []) ∨ ∃ b o c, v = .slc b o l.length c 1 := by
    rcases h with ⟨a, b⟩ | ⟨b, o, c, a, _⟩
    · exact .inl ⟨a, by simpa using b⟩
    · exact .inr ⟨b, o, c, by simpa using a⟩
  rcases cases0 with ⟨rfl, rfl⟩ | ⟨b, o, c, rfl⟩
  · simp only [vs_Clone___int_int_, eqV_nilslc, negB_mk, Bool.false_bne, optK_mk, boolK_true]
    exact hK _ _ (.refl s) (.inl ⟨rfl, rfl⟩) fun h => absurd rfl h
  · simp only [vs_Clone___int_int_, eqV_slc, negB_mk, Bool.false_bne, optK_mk, boolK_false]
    refine optK_of (a := []) rfl ⟨rfl, new_step fun d s1 hd h1 u1 => ?_⟩
    refine app_copy (h.sub (u1.sub hd)) (by simp; omega) fun v' s2 sub2 g1 g2 => hK _ _ ((u1.sub hd).trans sub2) ?_ fun hne => ?_
    · by_cases hm : l.map (AVal.int .i64) = []
      · rw [g1 hm]
        unfold Sli; rw [hm]
        exact .inr ⟨d, 0, some 0, rfl, by simp, fun h => absurd rfl h⟩
      · obtain ⟨c, _, rfl, hc⟩ := g2 hm
        exact Sl.mk hc rfl (by simp)
    · obtain ⟨c, hc0, e, hc⟩ := g2 (by simpa using hne)
      refine ⟨c, ?_, by simpa using e, hc⟩
      cases q : s c with
      | none => rfl
      | some x => rw [u1.sub hd c x q] at hc0; cases hc0
end Go.AM.WH
namespace Go.AM.WH
open Go Go.Proofs
variable {K : AVal → Heap → Prop} {s : Heap} {w bb : Nat} {mv : AVal} {cap : Option Nat} {B M : List Int}
/-- ascending numbers of links -/
def Asc (l : List Int) : Prop := l.Pairwise (· < ·) ∧ ∀ x ∈ l, 0 ≤ x ∧ x < 128
theorem check_in {v : AVal} {l : List Int} (h : WAt s w bb mv cap B M) (hl : Sli s v l) (ha : Asc l) (hlen : l.length ≤ B.length) (hK : K (.int .i64 0) s) : wpCall Try.prog XX 64 [.ptr w 0, v] K s := by
  refine vc_spread_Wheel_check_in ?_
  have hp := h.pos
  simp only [vc_spread_Wheel_check, hl.len, optK_mk, List.length_map]
  refine ⟨fun ys s1 n => ∃ k : Nat, ys = [.int .i64 k] ∧ s1 = s ∧ k ≤ l.length ∧ n = l.length - k, ⟨_, 0, rfl, rfl, by omega, rfl⟩, ?_⟩
  rintro f s1 n ⟨k, hy, rfl, hk, rfl⟩
  simp only [List.cons.injEq, and_true] at hy
  rw [hy]
  simp only [vc_spread_Wheel_check_l0, optK_mk, arith_lss]
  refine boolK_mk (fun hlt => ?_) (fun hge => ?_)
  · have hlt : k < l.length := by have := of_decide_eq_true hlt; omega
    obtain ⟨p, g1, g2⟩ := sli_at hl hlt
    have hr := ha.2 _ (List.getElem_mem hlt)
    have e1 : decide (l[k] < 0) = false := by rw [decide_eq_false_iff_not]; omega
    have e2 : decide ((128 : Int) ≤ l[k]) = false := by rw [decide_eq_false_iff_not]; omega
    have fin : optK (arithV .add (.int .i64 (k : Int)) (.int .i64 1)) fun v_9 => ∃ m', m' < l.length - k ∧ ∃ k_1 : Nat, [v_9] = [AVal.int .i64 k_1] ∧ True ∧ k_1 ≤ l.length ∧ m' = l.length - k_1 := by
      simp only [arith_add, optK_mk]
      rw [wrap64 (by omega) (by omega)]
      exact ⟨_, by omega, k + 1, by simp, by trivial, by omega, rfl⟩
    simp only [g1, g2, optK_mk, arith_lss, arith_geq, e1, e2, boolK_false, vc_spread_Wheel_check_j1, pickV_false, arith_gtr]
    refine boolK_mk (fun hp => ?_) (fun hp => ?_)
    · rw [hp]
      have hp : 0 < k := by have := of_decide_eq_true hp; omega
      obtain ⟨q, g3, g4⟩ := sli_at hl (k := k - 1) (by omega)
      have ew : IntKind.i64.wrap ((k : Int) - 1) = ((k - 1 : Nat) : Int) := by rw [wrap64 (by omega) (by omega)]; omega
      have hlt2 : l[k - 1] < l[k] := List.pairwise_iff_getElem.1 ha.1 (k - 1) k (by omega) hlt (by omega)
      have e3 : decide (l[k] ≤ l[k - 1]) = false := by rw [decide_eq_false_iff_not]; omega
      simp only [arith_sub, ew, g3, g4, optK_mk, arith_leq, e3, vc_spread_Wheel_check_j2, pickV_true, boolK_false]
      exact fin
    · rw [hp]
      simp only [vc_spread_Wheel_check_j2, pickV_false, optK_mk, boolK_false]
      exact fin
  · have e3 : decide ((B.length : Int) < (l.length : Int)) = false := by rw [decide_eq_false_iff_not]; omega
    simp only [hl.len, List.length_map, optK_mk, nilCheck_ptr, addOff_ptr, rd1_mk h.wb, Nat.zero_add, List.getElem?_cons_zero, lenOf_slc, arith_gtr, e3, boolK_false]
    exact hK
theorem last_in {m : Int} {t1 t2 : Bool} {mv : AVal} (hw : s w = some (t1, .cells 119 [.slc bb 0 B.length cap 1, mv])) (hbs : s bb = some (t2, .cells 3 (ints B))) (hp : 1 ≤ B.length ∧ B.length ≤ 256) (hm : 0 ≤ m ∧ m < 128) (hin : m + 1 ∈ B) (hK : ∀ i : Nat, ∀ hi : i < B.length, B[i] = m + 1 → (∀ k (hk : k < B.length), i < k → B[k] ≠ m + 1) → K (.int .i64 (i : Int)) s) : wpCall Try.prog XX 81 [.ptr w 0, .int .i64 m] K s := by
  refine vc_spread_Wheel_last_in ?_
  simp only [vc_spread_Wheel_last, nilCheck_ptr, addOff_ptr, rd1_mk hw, Nat.zero_add, List.getElem?_cons_zero, lenOf_slc, optK_mk, arith_sub]
  rw [wrap64 (by omega) (by omega)]
  refine ⟨fun ys s1 n => ∃ k : Nat, ys = [.int .i64 k] ∧ s1 = s ∧ n = k ∧ k < B.length ∧ m + 1 ∈ B.take (k + 1) ∧ ∀ j (hj : j < B.length), k < j → B[j] ≠ m + 1, ⟨_, B.length - 1, by simp; omega, rfl, rfl, by omega, by rw [List.take_of_length_le (by omega)]; exact hin, fun j hj h => by omega⟩, ?_⟩
  rintro f s1 n ⟨k, hy, rfl, rfl, hk, hmem, hlast⟩
  simp only [List.cons.injEq, and_true] at hy
  rw [hy]
  rw [List.take_succ_eq_append_getElem hk, List.mem_append, List.mem_singleton] at hmem
  simp only [vc_spread_Wheel_last_l0, arith_gtr, optK_mk]
  refine boolK_mk (fun hg => ?_) (fun hg => ?_)
  · rw [hg]
    have hg := of_decide_eq_true hg
    simp only [nilCheck_ptr, addOff_ptr, rd1_mk hw, Nat.zero_add, List.getElem?_cons_zero, optK_mk, b_addr hk, rd1_mk hbs, ints_at hk, arith_add]
    rw [wrap64 (n := m + 1) (by omega) (by omega)]
    simp only [eqV_int, negB_mk, Bool.true_bne, optK_mk, vc_spread_Wheel_last_j1, pickV_true]
    cases hq : (B[n] == m + 1) with
    | true =>
      simp only [Bool.not_true, boolK_false]
      exact hK n hk (eq_of_beq hq) hlast
    | false =>
      have hne : ¬ m + 1 = B[n] := fun e => by rw [e] at hq; simp at hq
      simp only [Bool.not_false, boolK_true, arith_sub, optK_mk]
      rw [wrap64 (by omega) (by omega)]
      refine ⟨n - 1, by omega, n - 1, by simp; omega, by trivial, rfl, by omega, ?_, fun j hj hjk => ?_⟩
      · rw [show n - 1 + 1 = n by omega]
        exact hmem.resolve_right hne
      · by_cases e : j = n
        · subst e; exact fun e => hne e.symm
        · exact hlast j hj (by omega)
  · rw [hg]
    have hg := of_decide_eq_false hg
    have : n = 0 := by omega
    subst this
    simp only [vc_spread_Wheel_last_j1, pickV_false, optK_mk, boolK_false]
    refine hK 0 hk ?_ fun j hj h => hlast j hj h
    rcases hmem with h | h
    · simp at h
    · exact h.symm
/-! ### the queue -/
/-- the buckets of all but the members are taken away -/
def clr (M B : List Int) : List Int := B.map fun b => if b - 1 ∈ M then b else 0
theorem clr_len (M B : List Int) : (clr M B).length = B.length := by simp [clr]
/-- what is known of the elements of a queue -/
def QF (q : List Shr) (M : List Int) (f : Int → Int) : Prop := (q.map (·.1)).Perm M ∧ ∀ x ∈ q, x.2 = f x.1
abbrev QM (q : List Shr) (M B : List Int) : Prop := QF q M fun m => (ld B m : Nat)
theorem QF.perm {q q' : List Shr} {f : Int → Int} (h : QF q M f) (hp : q'.Perm q) : QF q' M f := ⟨(hp.map _).trans h.1, fun x hx => h.2 x (hp.mem_iff.1 hx)⟩
theorem ld_set {i : Nat} {v m : Int} (hi : i < B.length) : ld (B.set i v) m + (if B[i] = m + 1 then 1 else 0) = ld B m + (if v = m + 1 then 1 else 0) := by
  unfold ld
  have e1 : B = B.take i ++ B[i] :: B.drop (i + 1) := by
    conv => lhs; rw [← List.take_append_drop i B, List.drop_eq_getElem_cons hi]
  have e2 : B.set i v = B.take i ++ v :: B.drop (i + 1) := by
    rw [List.set_eq_take_append_cons_drop, if_pos hi]
  rw [e2]
  conv => rhs; rw [e1]
  simp only [List.count_append, List.count_cons, beq_iff_eq]
  omega
theorem QF.upd {q : List Shr} {j : Nat} {d : Int} {f f' : Int → Int} (h : QF q M f) (hnd : M.Nodup) (hj : j < q.length) (h1 : f' (at0 q j).1 = f (at0 q j).1 + d) (h2 : ∀ m ∈ M, m ≠ (at0 q j).1 → f' m = f m) : QF (upd2 q j d) M f' := by
  have e1 : (upd2 q j d).map (·.1) = q.map (·.1) := by
    unfold upd2
    rw [List.map_set]
    apply List.ext_getElem (by simp)
    intro n n1 n2
    rw [List.getElem_set]
    split
    · rename_i e; subst e; simp [at0_get hj]
    · rfl
  refine ⟨by rw [e1]; exact h.1, fun x hx => ?_⟩
  obtain ⟨n, hn, rfl⟩ := List.getElem_of_mem hx
  have hn' : n < q.length := by rw [upd2_len] at hn; exact hn
  by_cases e : n = j
  · subst e
    have : (upd2 q n d)[n] = ((at0 q n).1, (at0 q n).2 + d) := by simp [upd2]
    rw [this]
    simp only
    rw [h1, h.2 (at0 q n) (by rw [at0_get hj]; exact List.getElem_mem hj)]
  · have hx' : (upd2 q j d)[n] = q[n] := by
      simp [upd2, List.getElem_set_ne (Ne.symm e)]
    rw [hx']
    have hnd2 : (q.map (·.1)).Nodup := h.1.nodup_iff.2 hnd
    have hne : q[n].1 ≠ (at0 q j).1 := by
      intro e2
      rw [at0_get hj] at e2
      have hn2 : n < (q.map (·.1)).length := by simpa using hn'
      have hj2 : j < (q.map (·.1)).length := by simpa using hj
      rcases Nat.lt_or_gt_of_ne e with hlt | hlt
      · exact List.pairwise_iff_getElem.1 hnd2 n j hn2 hj2 hlt (by simpa using e2)
      · exact List.pairwise_iff_getElem.1 hnd2 j n hj2 hn2 hlt (by simpa using e2.symm)
    have hm : q[n].1 ∈ M := h.1.mem_iff.1 (List.mem_map.2 ⟨_, List.getElem_mem hn', rfl⟩)
    rw [h.2 _ (List.getElem_mem hn'), h2 _ hm hne]
end Go.AM.WH
namespace Go.AM.WH
open Go Go.Proofs
variable {K : AVal → Heap → Prop} {s : Heap} {w bb : Nat} {mv : AVal} {cap : Option Nat} {B M : List Int}
/-- the blocks of 'queue' -/
structure Qb (s : Heap) (t2 pb db ob qb n : Nat) (pl : List Int) (Q : List Shr) : Prop where
  a : s t2 = some (false, .cells 122 [.nilptr])
  p : s pb = some (false, .cells 144 (ints pl))
  d : s db = some (false, .cells 149 (flatQ Q))
  o : s ob = some (false, .cells 147 [.slc db 0 n (some n) 2])
  q : s qb = some (false, .cells 122 [.ptr ob 0])
variable {t2 pb db ob qb n : Nat} {pl : List Int} {Q : List Shr}
theorem Qb.setP {s' : Heap} {pl' : List Int} (h : Qb s t2 pb db ob qb n pl Q) (u : Upto pb s s') (hp : s' pb = some (false, .cells 144 (ints pl'))) : Qb s' t2 pb db ob qb n pl' Q := by
  obtain ⟨h1, h2, h3, h4, h5⟩ := h
  have n1 : t2 ≠ pb := by rintro rfl; rw [h1] at h2; cases h2
  have n2 : db ≠ pb := by rintro rfl; rw [h3] at h2; cases h2
  have n3 : ob ≠ pb := by rintro rfl; rw [h4] at h2; cases h2
  have n4 : qb ≠ pb := by rintro rfl; rw [h5] at h2; cases h2
  exact ⟨(u _ n1).trans h1, hp, (u _ n2).trans h3, (u _ n3).trans h4, (u _ n4).trans h5⟩
theorem Qb.setD {s' : Heap} {Q' : List Shr} (h : Qb s t2 pb db ob qb n pl Q) (u : Upto db s s') (hp : s' db = some (false, .cells 149 (flatQ Q'))) : Qb s' t2 pb db ob qb n pl Q' := by
  obtain ⟨h1, h2, h3, h4, h5⟩ := h
  have n1 : t2 ≠ db := by rintro rfl; rw [h1] at h3; cases h3
  have n2 : pb ≠ db := by rintro rfl; rw [h2] at h3; cases h3
  have n3 : ob ≠ db := by rintro rfl; rw [h4] at h3; cases h3
  have n4 : qb ≠ db := by rintro rfl; rw [h5] at h3; cases h3
  exact ⟨(u _ n1).trans h1, (u _ n2).trans h2, hp, (u _ n3).trans h4, (u _ n4).trans h5⟩
theorem Qb.setB {s' : Heap} {b : Nat} {l : List AVal} (h : Qb s t2 pb db ob qb n pl Q) (u : Upto b s s') (hb : s b = some (false, .cells 3 l)) : Qb s' t2 pb db ob qb n pl Q := by
  obtain ⟨h1, h2, h3, h4, h5⟩ := h
  have n1 : t2 ≠ b := by rintro rfl; rw [h1] at hb; cases hb
  have n2 : pb ≠ b := by rintro rfl; rw [h2] at hb; cases hb
  have n3 : db ≠ b := by rintro rfl; rw [h3] at hb; cases hb
  have n4 : ob ≠ b := by rintro rfl; rw [h4] at hb; cases hb
  have n5 : qb ≠ b := by rintro rfl; rw [h5] at hb; cases hb
  exact ⟨(u _ n1).trans h1, (u _ n2).trans h2, (u _ n3).trans h3, (u _ n4).trans h4, (u _ n5).trans h5⟩
theorem Qb.sub {s' : Heap} (h : Qb s t2 pb db ob qb n pl Q) (hs : Sub s s') : Qb s' t2 pb db ob qb n pl Q := ⟨hs _ _ h.a, hs _ _ h.p, hs _ _ h.d, hs _ _ h.o, hs _ _ h.q⟩
/-- where the members stand, after the first i of them -/
def Pl (M : List Int) (i : Nat) (pl : List Int) : Prop := pl.length = 128 ∧ (∀ j (hj : j < M.length), j < i → pl[M[j].toNat]? = some ((j : Int) + 1)) ∧ ∀ k : Nat, k < 128 → (∀ j (hj : j < M.length), j < i → M[j] ≠ (k : Int)) → pl[k]? = some 0
theorem Pl.step {i : Nat} (ha : Asc M) (hi : i < M.length) (h : Pl M i pl) : Pl M (i + 1) (pl.set M[i].toNat ((i : Int) + 1)) := by
  obtain ⟨h1, h2, h3⟩ := h
  have hr := ha.2 _ (List.getElem_mem hi)
  refine ⟨by rw [List.length_set]; exact h1, fun j hj hji => ?_, fun k hk hno => ?_⟩
  · by_cases e : j = i
    · subst e
      rw [List.getElem?_set, if_pos rfl, if_pos (by omega)]
    · have hlt : M[j] < M[i] := List.pairwise_iff_getElem.1 ha.1 j i hj hi (by omega)
      have hr2 := ha.2 _ (List.getElem_mem hj)
      rw [List.getElem?_set, if_neg (by omega)]
      exact h2 j hj (by omega)
  · have hne := hno i hi (by omega)
    rw [List.getElem?_set, if_neg (by omega)]
    exact h3 k hk fun j hj hji => hno j hj (by omega)
/-- the queue's elements after the first i members -/
def Q1 (M : List Int) (i : Nat) (Q : List Shr) : Prop := Q.length = M.length ∧ (∀ j (hj : j < M.length), j < i → at0 Q j = (M[j], 0)) ∧ ∀ j, j < M.length → i ≤ j → at0 Q j = (0, 0)
theorem Q1.step {i : Nat} (hi : i < M.length) (h : Q1 M i Q) : Q1 M (i + 1) (Q.set i (M[i], (at0 Q i).2)) := by
  obtain ⟨h1, h2, h3⟩ := h
  have e0 := h3 i hi (Nat.le_refl _)
  refine ⟨by rw [List.length_set]; exact h1, fun j hj hji => ?_, fun j hj hij => ?_⟩
  · rw [at0_set (by omega), e0]
    split
    · rename_i e; subst e; rfl
    · exact h2 j hj (by omega)
  · rw [at0_set (by omega), if_neg (by omega)]
    exact h3 j hj (by omega)
/-- the queue's elements when the buckets B were counted -/
def Q2 (M B : List Int) (Q : List Shr) : Prop := Q.length = M.length ∧ ∀ j (hj : j < M.length), at0 Q j = (M[j], ((ld (clr M B) M[j] : Nat) : Int))
theorem ld_clr_app {b m : Int} : ld (clr M (B ++ [b])) m = ld (clr M B) m + (if (if b - 1 ∈ M then b else 0) = m + 1 then 1 else 0) := by
  unfold ld clr
  rw [List.map_append, List.count_append]
  simp [List.count_singleton]
theorem Q2.qm (ha : Asc M) (h : Q2 M B Q) : QM Q M (clr M B) := by
  have e : Q.map (·.1) = M := by
    apply List.ext_getElem (by simp [h.1])
    intro j h1 h2
    rw [List.getElem_map, ← at0_get (by simpa using h1), h.2 j h2]
  refine ⟨by rw [e], fun x hx => ?_⟩
  obtain ⟨j, hj, rfl⟩ := List.getElem_of_mem hx
  rw [← at0_get hj, h.2 j (by rw [← h.1]; exact hj)]
theorem arr_addr {pb k : Nat} (hk : k < 128) : iaddrA 128 1 (.ptr pb 0) (.int .i64 (k : Int)) = some (.ptr pb k) := by
  have : Nat.blt k 128 = true := by rw [Nat.blt_eq]; exact hk
  simp [iaddrA, this]
theorem queue_in (h : WAt s w bb mv cap B M) (ha : Asc M) (hM : M.length ≤ 256) (hr : ∀ b ∈ B, 0 ≤ b ∧ b ≤ 128) (hfree : ∀ b o n c, mv = .slc b o n c 1 → M ≠ [] → ¬ b = bb)
    (hK : ∀ s' o sb q, WAt s' w bb mv cap (clr M B) M → QAt s' o sb q → QM q M (clr M B) → Hp q 0 → s sb = none → s o = none → KeepBut (fun b => b = bb) s s' → K (.agg [.ptr o 0]) s') : wpCall Try.prog XX 65 [.ptr w 0] K s := by
  have hp := h.pos
  refine vc_spread_Wheel_queue_in (new_step fun t2 s1 ht h1 u1 => new_step fun pb s2 hpb h2 u2 => ?_)
  have sub2 := (u1.sub ht).trans (u2.sub hpb)
  have z2 := h.sub sub2
  simp only [nilCheck_ptr, addOff_ptr, rd1_mk z2.wb, Nat.zero_add, List.getElem?_cons_zero, List.getElem?_cons_succ, optK_mk, z2.ms.len, List.length_map, nat?_mk]
  refine ⟨⟨Nat.le_refl _, by omega⟩, new_step fun db s3 hdb h3 u3 => ?_⟩
  refine optK_of (a := [.slc db 0 M.length (some M.length) 2]) rfl ⟨rfl, new_step fun ob s4 hob h4 u4 => ?_⟩
  refine optK_of (a := [.ptr ob 0]) rfl (new_step fun qb s5 hqb h5 u5 => wrAgg_step h5 rfl rfl rfl fun s6 h6 u6 => ?_)
  have sub3 := sub2.trans (u3.sub hdb)
  have sub4 := sub3.trans (u4.sub hob)
  have fresh : ∀ {b : Nat} {s' : Heap}, Sub s s' → s' b = none → s b = none := fun {b s'} hs hb => by
    cases e : s b with
    | none => rfl
    | some x => rw [hs b x e] at hb; cases hb
  have ft := ht
  have fp := fresh (u1.sub ht) hpb
  have fd := fresh sub2 hdb
  have fo := fresh sub3 hob
  have fq := fresh sub4 hqb
  have sub6 : Sub s s6 := (sub4.trans (u5.sub hqb)).upto u6 fq
  have h2 : s2 pb = some (false, .cells 144 (ints (List.replicate 128 0))) := h2
  have z6 : Qb s6 t2 pb db ob qb M.length (List.replicate 128 0) (List.replicate M.length (0, 0)) := by
    have e1 : s4 t2 = _ := u4.at (u3.at (u2.at h1 hpb) hdb) hob
    have e2 : s4 pb = _ := u4.at (u3.at h2 hdb) hob
    have e3 : s4 db = _ := u4.at h3 hob
    have n1 : t2 ≠ qb := ne_of_some hqb e1
    have n2 : pb ≠ qb := ne_of_some hqb e2
    have n3 : db ≠ qb := ne_of_some hqb e3
    have n4 : ob ≠ qb := ne_of_some hqb h4
    refine ⟨by rw [u6 _ n1]; exact u5.at e1 hqb, by rw [u6 _ n2]; exact u5.at e2 hqb, ?_, by rw [u6 _ n4]; exact u5.at h4 hqb, h6⟩
    rw [u6 _ n3, u5.at e3 hqb]
    have : ∀ k, repl k [AVal.int .i64 0, .int .i64 0] = flatQ (List.replicate k (0, 0)) := by
      intro k
      induction k with
      | zero => rfl
      | succ k ih => rw [repl, ih]; rfl
    rw [this]
  have z := h.sub sub6
  simp only [rd1_mk z.wb, List.getElem?_cons_zero, List.getElem?_cons_succ, optK_mk, z.ms.len, List.length_map]
  refine ⟨fun ys s' m => ∃ (i : Nat) (pl : List Int) (Q : List Shr), ys = [.int .i64 i] ∧ i ≤ M.length ∧ m = M.length - i ∧ Sub s s' ∧ Qb s' t2 pb db ob qb M.length pl Q ∧ Pl M i pl ∧ Q1 M i Q, ⟨_, 0, _, _, rfl, by omega, rfl, sub6, z6, ⟨rfl, fun j hj h => by omega, fun k hk _ => by rw [List.getElem?_replicate, if_pos hk]⟩, ⟨by simp, fun j hj h => by omega, fun j hj _ => by simp [at0, hj]⟩⟩, ?_⟩
  rintro f s7 m ⟨i, pl, Q, hy, hi, rfl, sub7, z7, hpl, hq1⟩
  simp only [List.cons.injEq, and_true] at hy
  rw [hy]
  simp only [vc_spread_Wheel_queue_l0, arith_lss, optK_mk]
  have w7 := h.sub sub7
  refine boolK_mk (fun hlt => ?_) (fun hge => ?_)
  · have hlt : i < M.length := by have := of_decide_eq_true hlt; omega
    obtain ⟨pp, g1, g2⟩ := sli_at w7.ms hlt
    have hmi := ha.2 _ (List.getElem_mem hlt)
    have e1 : iaddrA 128 1 (.ptr pb 0) (.int .i64 M[i]) = some (.ptr pb M[i].toNat) := by
      have := arr_addr (pb := pb) (k := M[i].toNat) (by omega)
      rwa [Int.toNat_of_nonneg hmi.1] at this
    simp only [g1, g2, optK_mk, arith_add, e1]
    rw [wrap64 (by omega) (by omega)]
    refine wr1_step z7.p (by simp [hpl.1]; omega) rfl fun s8 h8 u8 => ?_
    rw [ints_set] at h8
    have z8 := z7.setP u8 h8
    have sub8 : Sub s s8 := sub7.upto u8 fp
    simp only [addOff_ptr, optK_mk, rd1_mk z8.q, rd1_mk z8.o, Nat.zero_add, List.getElem?_cons_zero, nilCheck_ptr, q_addr hlt]
    refine wr1_step z8.d (by rw [flatQ_len, hq1.1]; omega) rfl fun s9 h9 u9 => ?_
    have h9 : s9 db = some (false, .cells 149 ((flatQ Q).set (i * 2) (.int .i64 M[i]))) := h9
    rw [flatQ_set0 (by rw [hq1.1]; exact hlt)] at h9
    exact ⟨_, by omega, i + 1, _, _, rfl, by omega, rfl, sub8.upto u9 fd, z8.setD u9 h9, hpl.step ha hlt, hq1.step hlt⟩
  · have hge : i = M.length := by have := of_decide_eq_false hge; omega
    subst hge
    simp only [nilCheck_ptr, addOff_ptr, optK_mk, rd1_mk w7.wb, Nat.zero_add, List.getElem?_cons_zero, lenOf_slc]
    have q2 : Q2 M [] Q := ⟨hq1.1, fun j hj => by rw [hq1.2.1 j hj hj]; rfl⟩
    refine ⟨fun ys s' m => ∃ (i : Nat) (Q : List Shr), ys = [.int .i64 i] ∧ i ≤ B.length ∧ m = B.length - i ∧ KeepBut (fun b => b = bb) s s' ∧ s' bb = some (false, .cells 3 (ints (clr M (B.take i) ++ B.drop i))) ∧ Qb s' t2 pb db ob qb M.length pl Q ∧ Q2 M (B.take i) Q, ⟨_, 0, Q, rfl, by omega, rfl, sub7.keep, by rw [w7.bs]; rfl, z7, q2⟩, ?_⟩
    rintro f s8 m ⟨i, Q, hy, hi, rfl, k8, b8, z8, q8⟩
    simp only [List.cons.injEq, and_true] at hy
    rw [hy]
    have w8 : s8 w = some (false, .cells 119 [.slc bb 0 B.length cap 1, mv]) := k8 _ _ h.wb h.ne
    simp only [vc_spread_Wheel_queue_l1, arith_lss, optK_mk]
    refine boolK_mk (fun hlt => ?_) (fun hge => ?_)
    · have hlt : i < B.length := by have := of_decide_eq_true hlt; omega
      have hb := hr _ (List.getElem_mem hlt)
      have ec : (clr M (B.take i)).length = i := by rw [clr_len, List.length_take, Nat.min_eq_left hi]
      have el : B.drop i = B[i] :: B.drop (i + 1) := List.drop_eq_getElem_cons hlt
      have et : B.take (i + 1) = B.take i ++ [B[i]] := List.take_succ_eq_append_getElem hlt
      have hrd : rd1 s8 (.ptr bb i) = some (.int .i64 B[i]) := by
        rw [rd1_mk b8, el]
        simp only [ints, List.map_append]
        rw [List.getElem?_append_right (by rw [List.length_map, ec]; omega), List.length_map, ec, Nat.sub_self]
        rfl
      have fin : ∀ (s9 : Heap) (Q9 : List Shr), KeepBut (fun b => b = bb) s s9 → s9 bb = some (false, .cells 3 (ints (clr M (B.take (i + 1)) ++ B.drop (i + 1)))) → Qb s9 t2 pb db ob qb M.length pl Q9 → Q2 M (B.take (i + 1)) Q9 →
          vc_spread_Wheel_queue_j2 XX (.int .i64 (i : Int)) (fun ys s' m => ∃ (i : Nat) (Q : List Shr), ys = [.int .i64 i] ∧ i ≤ B.length ∧ m = B.length - i ∧ KeepBut (fun b => b = bb) s s' ∧ s' bb = some (false, .cells 3 (ints (clr M (B.take i) ++ B.drop i))) ∧ Qb s' t2 pb db ob qb M.length pl Q ∧ Q2 M (B.take i) Q) (B.length - i) K s9 := by
        intro s9 Q9 a1 a2 a3 a4
        simp only [vc_spread_Wheel_queue_j2, arith_add, optK_mk]
        rw [wrap64 (by omega) (by omega)]
        exact ⟨_, by omega, i + 1, Q9, rfl, by omega, rfl, a1, a2, a3, a4⟩
      have same : (if B[i] - 1 ∈ M then B[i] else 0) = B[i] → clr M (B.take (i + 1)) ++ B.drop (i + 1) = clr M (B.take i) ++ B.drop i := by
        intro e
        rw [et, el]
        unfold clr
        rw [List.map_append, List.map_singleton, e, List.append_assoc]
        rfl
      simp only [b_addr hlt, hrd, optK_mk, eqV_int, negB_mk, Bool.false_bne]
      cases hz : (B[i] == 0) with
      | true =>
        have hz := eq_of_beq hz
        simp only [boolK_true]
        have e0 : (if B[i] - 1 ∈ M then B[i] else 0) = B[i] := by rw [hz]; split <;> rfl
        refine fin s8 Q k8 (by rw [same e0]; exact b8) z8 ⟨q8.1, fun j hj => ?_⟩
        rw [q8.2 j hj, et, ld_clr_app, e0, hz, if_neg (by have := ha.2 _ (List.getElem_mem hj); omega)]
        rfl
      | false =>
        have hz : B[i] ≠ 0 := fun e => by rw [e] at hz; simp at hz
        have hk : (B[i] - 1).toNat < 128 := by omega
        have ew : IntKind.i64.wrap (B[i] - 1) = (((B[i] - 1).toNat : Nat) : Int) := by rw [wrap64 (by omega) (by omega)]; omega
        have e1 := arr_addr (pb := pb) hk
        simp only [boolK_false, arith_sub, optK_mk, ew, e1]
        by_cases hin : B[i] - 1 ∈ M
        · obtain ⟨j, hj, ej⟩ := List.getElem_of_mem hin
          have hpl2 := hpl.2.1 j hj hj
          rw [ej] at hpl2
          have hrp : rd1 s8 (.ptr pb (B[i] - 1).toNat) = some (.int .i64 ((j : Int) + 1)) := by
            rw [rd1_mk z8.p]
            simp only [ints, List.getElem?_map, hpl2, Option.map_some]
          have hne : (((j : Int) + 1) == 0) = false := by
            cases hq : (((j : Int) + 1) == 0) with
            | false => rfl
            | true => have := eq_of_beq hq; omega
          have ej1 : IntKind.i64.wrap ((j : Int) + 1 - 1) = (j : Int) := by rw [wrap64 (by omega) (by omega)]; omega
          have hlj : j < Q.length := by rw [q8.1]; exact hj
          have hq2 : QAt s8 ob db Q := ⟨⟨_, by rw [q8.1]; exact z8.o⟩, z8.d, fun x hx => by
            obtain ⟨m, hm, rfl⟩ := List.getElem_of_mem hx
            have hm2 : m < M.length := by rw [← q8.1]; exact hm
            rw [← at0_get hm, q8.2 m hm2]
            have := ha.2 _ (List.getElem_mem hm2)
            exact ⟨this.1, by show M[m] < 1000; omega⟩, by rw [q8.1]; omega⟩
          have hrow := (hq2.row hlj).2.2
          have hcnt : ld (clr M (B.take i)) M[j] ≤ 256 := by
            refine Nat.le_trans List.count_le_length ?_
            rw [ec]; omega
          simp only [hrp, optK_mk, eqV_int, negB_mk, Bool.false_bne, hne, boolK_false, addOff_ptr, rd1_mk z8.q, rd1_mk z8.o, Nat.zero_add, List.getElem?_cons_zero, nilCheck_ptr, arith_sub, ew, e1, ej1, q_addr hj, hrow, arith_add]
          rw [q8.2 j hj]
          simp only
          rw [wrap64 (by omega) (by omega)]
          refine wr1_step z8.d (by rw [flatQ_len]; omega) rfl fun s9 h9 u9 => ?_
          rw [flatQ_set1 hlj] at h9
          have e0 : (if B[i] - 1 ∈ M then B[i] else 0) = B[i] := if_pos hin
          have nb : bb ≠ db := by rintro rfl; have := z8.d; rw [b8] at this; cases this
          refine fin s9 _ (fun x e hx hn => by rw [u9 x (ne_of_some fd hx)]; exact k8 x e hx hn) (by rw [same e0, u9 bb nb]; exact b8) (z8.setD u9 h9) ⟨by rw [List.length_set]; exact q8.1, fun m hm => ?_⟩
          · rw [at0_set hlj, et, ld_clr_app, e0]
            split
            · rename_i e
              subst e
              rw [q8.2 m hm, ej, if_pos (by omega)]
              rfl
            · rename_i e
              have hne2 : ¬ B[i] = M[m] + 1 := fun e2 => by
                have : M[m] = M[j] := by omega
                rcases Nat.lt_or_gt_of_ne e with hlt | hlt
                · have := List.pairwise_iff_getElem.1 ha.1 m j hm hj hlt; omega
                · have := List.pairwise_iff_getElem.1 ha.1 j m hj hm hlt; omega
              rw [q8.2 m hm, if_neg hne2]
              rfl
        · have hpl3 := hpl.2.2 (B[i] - 1).toNat hk fun j hj _ e => hin (by
            have e2 : M[j] = B[i] - 1 := by rw [e]; omega
            rw [← e2]; exact List.getElem_mem hj)
          have hrp : rd1 s8 (.ptr pb (B[i] - 1).toNat) = some (.int .i64 0) := by
            rw [rd1_mk z8.p]
            simp only [ints, List.getElem?_map, hpl3, Option.map_some]
          simp only [hrp, optK_mk, eqV_int, negB_mk, Bool.false_bne, beq_self_eq_true, boolK_true, nilCheck_ptr, addOff_ptr, rd1_mk w8, Nat.zero_add, List.getElem?_cons_zero, b_addr hlt]
          refine wr1_step b8 (by simp [ints, ec]; omega) rfl fun s9 h9 u9 => ?_
          rw [ints_set] at h9
          have e0 : (if B[i] - 1 ∈ M then B[i] else 0) = 0 := if_neg hin
          have el2 : (clr M (B.take i) ++ B.drop i).set i 0 = clr M (B.take (i + 1)) ++ B.drop (i + 1) := by
            rw [List.set_append_right _ _ (by rw [ec]; omega), ec, Nat.sub_self, el, List.set_cons_zero, et]
            unfold clr
            rw [List.map_append, List.map_singleton, e0, List.append_assoc]
            rfl
          rw [el2] at h9
          refine fin s9 Q (k8.trans (u9.keep (fp := fun b => b = bb) rfl)) h9 (z8.setB u9 b8) ⟨q8.1, fun j hj => ?_⟩
          rw [q8.2 j hj, et, ld_clr_app, e0, if_neg (by have := ha.2 _ (List.getElem_mem hj); omega)]
          rfl
    · have hge : i = B.length := by have := of_decide_eq_false hge; omega
      subst hge
      rw [List.take_length, List.drop_length, List.append_nil] at b8
      rw [List.take_length] at q8
      have hq2 : QAt s8 ob db Q := ⟨⟨_, by rw [q8.1]; exact z8.o⟩, z8.d, fun x hx => by
        obtain ⟨m, hm, rfl⟩ := List.getElem_of_mem hx
        have hm2 : m < M.length := by rw [← q8.1]; exact hm
        rw [← at0_get hm, q8.2 m hm2]
        have := ha.2 _ (List.getElem_mem hm2)
        exact ⟨this.1, by show M[m] < 1000; omega⟩, by rw [q8.1]; omega⟩
      refine optK_of (rdN_all z8.q rfl) (build_in hq2 fun s9 q9 z9 p9 hh9 k9 => ?_)
      have n4 : ¬ qb = db := by rintro rfl; have := z8.q; rw [z8.d] at this; cases this
      have n1 : ¬ t2 = db := by rintro rfl; have := z8.a; rw [z8.d] at this; cases this
      have n5 : ¬ bb = db := by rintro rfl; rw [z8.d] at b8; cases b8
      refine optK_of (rdN_all (k9 _ _ z8.q n4) rfl) (wrAgg_step (k9 _ _ z8.a n1) rfl rfl rfl fun s10 h10 u10 => optK_of (rdN_all h10 rfl) ?_)
      have k10 : KeepBut (fun b => b = bb) s s10 := fun x e hx hn => by
        rw [u10 x (ne_of_some ft hx)]
        exact k9 x e (k8 x e hx hn) (fun e2 => by rw [e2, fd] at hx; cases hx)
      have nbt : bb ≠ t2 := by rintro rfl; rw [h.bs] at ft; cases ft
      have b10 : s10 bb = some (false, .cells 3 (ints (clr M B))) := by rw [u10 bb nbt]; exact k9 _ _ b8 n5
      have not : ob ≠ t2 := by rintro rfl; have := z8.o; rw [z8.a] at this; cases this
      have ndt : db ≠ t2 := by rintro rfl; have := z8.d; rw [z8.a] at this; cases this
      obtain ⟨tt, ho9⟩ := z9.ob
      refine hK s10 ob db q9 ⟨by rw [clr_len]; exact k10 _ _ h.wb h.ne, b10, h.ms.keep k10 fun b' o' n' c' e hl => hfree b' o' n' c' e (by simpa using hl), by rw [clr_len]; exact h.cp, by rw [clr_len]; exact h.pos⟩ ⟨⟨tt, by rw [u10 ob not]; exact ho9⟩, by rw [u10 db ndt]; exact z9.dt, z9.rg, z9.ln⟩ ((q8.qm ha).perm p9) hh9 fd fo k10
end Go.AM.WH
namespace Go.AM.WH
open Go Go.Proofs
variable {K : AVal → Heap → Prop} {s : Heap} {w bb o sb : Nat} {mv : AVal} {cap : Option Nat} {B M : List Int} {q : List Shr}
/-- one step of filling and balancing -/
inductive Stp (M : List Int) : List Int → List Int → Prop
  | fill {B : List Int} {i : Nat} {t : Int} (hi : i < B.length) (h0 : B[i] = 0) (ht : t ∈ M) (hmin : ∀ a ∈ M, ld B t ≤ ld B a) (hfst : ∀ k (hk : k < B.length), k < i → B[k] ≠ 0) (htie : ∀ a ∈ M, ld B a = ld B t → t ≤ a) : Stp M B (B.set i (t + 1))
  | move {B : List Int} {i : Nat} {f t : Int} (hi : i < B.length) (hf : B[i] = f + 1) (hfr : f ∈ M) (ht : t ∈ M) (hmin : ∀ a ∈ M, ld B t ≤ ld B a) (hmax : ∀ a ∈ M, ld B a ≤ ld B f) (hd : ld B t + 1 < ld B f) (hnz : ∀ b ∈ B, b ≠ 0) (hlst : ∀ k (hk : k < B.length), i < k → B[k] ≠ f + 1) (htie : ∀ a ∈ M, ld B a = ld B t → t ≤ a) (hftie : ∀ a ∈ M, ld B a = ld B f → a ≤ f) : Stp M B (B.set i (t + 1))
inductive Rch (M : List Int) (B : List Int) : List Int → Prop
  | refl : Rch M B B
  | tail {B1 B2 : List Int} (h : Rch M B B1) (h2 : Stp M B1 B2) : Rch M B B2
theorem Stp.len {B B' : List Int} (h : Stp M B B') : B'.length = B.length := by cases h <;> simp
theorem Rch.len {B B' : List Int} (h : Rch M B B') : B'.length = B.length := by
  induction h with
  | refl => rfl
  | tail _ h2 ih => rw [h2.len, ih]
/-- a wheel and its queue in memory -/
structure St (s : Heap) (w bb : Nat) (mv : AVal) (cap : Option Nat) (o sb : Nat) (B M : List Int) (q : List Shr) : Prop where
  wa : WAt s w bb mv cap B M
  qa : QAt s o sb q
  qm : QM q M B
  hp : Hp q 0
  fr : ∀ b o n c, mv = .slc b o n c 1 → M ≠ [] → ¬ (b = bb ∨ b = sb)
  asc : Asc M
  rg : ∀ b ∈ B, 0 ≤ b ∧ b ≤ 128
theorem St.nbs (h : St s w bb mv cap o sb B M q) : bb ≠ sb := by
  rintro rfl
  have := h.wa.bs
  rw [h.qa.dt] at this; cases this
theorem St.nws (h : St s w bb mv cap o sb B M q) : w ≠ sb := by
  rintro rfl
  have := h.wa.wb
  rw [h.qa.dt] at this; cases this
theorem St.nob (h : St s w bb mv cap o sb B M q) : o ≠ bb := by
  rintro rfl
  obtain ⟨t, ho⟩ := h.qa.ob
  rw [h.wa.bs] at ho; cases ho
theorem St.qlen (h : St s w bb mv cap o sb B M q) : q.length = M.length := by have := h.qm.1.length_eq; simpa using this
theorem St.mem (h : St s w bb mv cap o sb B M q) {i : Nat} (hi : i < q.length) : (at0 q i).1 ∈ M ∧ (at0 q i).2 = (ld B (at0 q i).1 : Nat) ∧ 0 ≤ (at0 q i).1 ∧ (at0 q i).1 < 128 := by
  have h1 : at0 q i ∈ q := by rw [at0_get hi]; exact List.getElem_mem hi
  have h2 : (at0 q i).1 ∈ M := h.qm.1.mem_iff.1 (List.mem_map.2 ⟨_, h1, rfl⟩)
  exact ⟨h2, h.qm.2 _ h1, h.asc.2 _ h2⟩
theorem ld_le (B : List Int) (m : Int) : ld B m ≤ B.length := List.count_le_length
/-- every member stands in the queue -/
theorem St.find (h : St s w bb mv cap o sb B M q) {a : Int} (ha : a ∈ M) : ∃ j, j < q.length ∧ (at0 q j).1 = a := by
  have := h.qm.1.mem_iff.2 ha
  obtain ⟨x, hx, rfl⟩ := List.mem_map.1 this
  obtain ⟨j, hj, rfl⟩ := List.getElem_of_mem hx
  exact ⟨j, hj, by rw [at0_get hj]⟩
theorem St.least (h : St s w bb mv cap o sb B M q) (hq : 0 < q.length) : ∀ a ∈ M, ld B (at0 q 0).1 ≤ ld B a := fun a ha => by
  obtain ⟨j, hj, e⟩ := h.find ha
  have k := h.hp.root j hj
  unfold ky key at k
  have m0 := h.mem hq
  have mj := h.mem hj
  rw [e] at mj k
  omega
theorem St.tie (h : St s w bb mv cap o sb B M q) (hq : 0 < q.length) : ∀ a ∈ M, ld B a = ld B (at0 q 0).1 → (at0 q 0).1 ≤ a := fun a ha e0 => by
  obtain ⟨j, hj, e⟩ := h.find ha
  have k := h.hp.root j hj
  unfold ky key at k
  have m0 := h.mem hq
  have mj := h.mem hj
  rw [e] at mj k
  omega
theorem Asc.nodup (h : Asc M) : M.Nodup := h.1.imp fun h => by omega
/-- a bucket is written -/
theorem St.setB {s' : Heap} {B' : List Int} (h : St s w bb mv cap o sb B M q) (u : Upto bb s s') (hb : s' bb = some (false, .cells 3 (ints B'))) (hl : B'.length = B.length) : WAt s' w bb mv cap B' M ∧ QAt s' o sb q := by
  obtain ⟨t, ho⟩ := h.qa.ob
  refine ⟨⟨by rw [hl, u w h.wa.ne]; exact h.wa.wb, hb, h.wa.ms.keep (fp := fun b => b = bb) (u.keep rfl) fun b' o' n' c' e hne => fun e2 => h.fr b' o' n' c' e (by simpa using hne) (.inl e2), by rw [hl]; exact h.wa.cp, by rw [hl]; exact h.wa.pos⟩, ⟨⟨t, by rw [u o h.nob]; exact ho⟩, by rw [u sb h.nbs.symm]; exact h.qa.dt, h.qa.rg, h.qa.ln⟩⟩
theorem WAt.keepQ {s' : Heap} (h : WAt s w bb mv cap B M) (k : KeepBut (fun b => b = sb) s s') (hw : w ≠ sb) (hb : bb ≠ sb) (fr : ∀ b o n c, mv = .slc b o n c 1 → M ≠ [] → ¬ (b = bb ∨ b = sb)) : WAt s' w bb mv cap B M :=
  ⟨k _ _ h.wb hw, k _ _ h.bs hb, h.ms.keep k fun b' o' n' c' e hne => fun e2 => fr b' o' n' c' e (by simpa using hne) (.inr e2), h.cp, h.pos⟩
theorem fill_in (h : St s w bb mv cap o sb B M q) (hM : M ≠ []) (hK : ∀ s' B' q', St s' w bb mv cap o sb B' M q' → Rch M B B' → (∀ b ∈ B', b ≠ 0) → KeepBut (fun b => b = bb ∨ b = sb) s s' → K (.tup []) s') : wpCall Try.prog XX 66 [.ptr w 0, .agg [.ptr o 0]] K s := by
  refine vc_spread_Wheel_fill_in ⟨rfl, new_step fun x s1 hx h1 u1 => ?_⟩
  have h1 : s1 x = some (false, .cells 122 [.ptr o 0]) := h1
  have sub1 := u1.sub hx
  have hpos := h.wa.pos
  simp only [nilCheck_ptr, addOff_ptr, rd1_mk (h.wa.sub sub1).wb, Nat.zero_add, List.getElem?_cons_zero, optK_mk, lenOf_slc]
  have h01 : St s1 w bb mv cap o sb B M q := ⟨h.wa.sub sub1, h.qa.sub sub1, h.qm, h.hp, h.fr, h.asc, h.rg⟩
  refine ⟨fun ys s' n => ∃ (i : Nat) (B' : List Int) (q' : List Shr), ys = [.int .i64 i] ∧ i ≤ B.length ∧ n = B.length - i ∧ St s' w bb mv cap o sb B' M q' ∧ Rch M B B' ∧ (∀ k (hk : k < B'.length), k < i → B'[k] ≠ 0) ∧ KeepBut (fun b => b = bb ∨ b = sb) s s' ∧ s' x = some (false, .cells 122 [.ptr o 0]), ⟨_, 0, B, q, rfl, by omega, rfl, h01, .refl, fun k hk h => by omega, sub1.keep, h1⟩, ?_⟩
  rintro f s2 n ⟨i, B', q', hy, hi, rfl, z, rc, nz, kp, hx2⟩
  simp only [List.cons.injEq, and_true] at hy
  rw [hy]
  have hlB := rc.len
  have hxb : x ≠ bb := by rintro rfl; rw [z.wa.bs] at hx2; cases hx2
  have hxs : x ≠ sb := by rintro rfl; rw [z.qa.dt] at hx2; cases hx2
  simp only [vc_spread_Wheel_fill_l0, arith_lss, optK_mk]
  refine boolK_mk (fun hlt => ?_) (fun hge => ?_)
  · have hlt : i < B.length := by have := of_decide_eq_true hlt; omega
    have hlt' : i < B'.length := by omega
    have fin : ∀ (s3 : Heap) (B3 : List Int) (q3 : List Shr), St s3 w bb mv cap o sb B3 M q3 → Rch M B B3 → (∀ k (hk : k < B3.length), k < i + 1 → B3[k] ≠ 0) → KeepBut (fun b => b = bb ∨ b = sb) s s3 → s3 x = some (false, .cells 122 [.ptr o 0]) →
        vc_spread_Wheel_fill_j1 XX (.int .i64 (i : Int)) (fun ys s' n => ∃ (i : Nat) (B' : List Int) (q' : List Shr), ys = [.int .i64 i] ∧ i ≤ B.length ∧ n = B.length - i ∧ St s' w bb mv cap o sb B' M q' ∧ Rch M B B' ∧ (∀ k (hk : k < B'.length), k < i → B'[k] ≠ 0) ∧ KeepBut (fun b => b = bb ∨ b = sb) s s' ∧ s' x = some (false, .cells 122 [.ptr o 0])) (B.length - i) K s3 := by
      intro s3 B3 q3 a1 a2 a3 a4 a5
      simp only [vc_spread_Wheel_fill_j1, arith_add, optK_mk]
      rw [wrap64 (by omega) (by omega)]
      exact ⟨_, by omega, i + 1, B3, q3, rfl, by omega, rfl, a1, a2, a3, a4, a5⟩
    have hb := z.rg _ (List.getElem_mem hlt')
    simp only [b_addr hlt, rd1_mk z.wa.bs, ints_at hlt', optK_mk, eqV_int, negB_mk, Bool.false_bne]
    cases hz : (B'[i] == 0) with
    | false =>
      have hz : B'[i] ≠ 0 := fun e => by rw [e] at hz; simp at hz
      simp only [boolK_false]
      exact fin s2 B' q' z rc (fun k hk hki => by
        by_cases e : k = i
        · subst e; exact hz
        · exact nz k hk (by omega)) kp hx2
    | true =>
      have hz := eq_of_beq hz
      have hq : 0 < q'.length := by
        rw [z.qlen]
        cases M with
        | nil => exact absurd rfl hM
        | cons a r => simp
      obtain ⟨tt, ho⟩ := z.qa.ob
      have mm := z.mem hq
      have row : rd1 s2 (.ptr sb 0) = some (.int .i64 (at0 q' 0).1) := (z.qa.row hq).2.1
      have qa0 : iaddrS 2 (.slc sb 0 q'.length (some q'.length) 2) (.int .i64 0) = some (.ptr sb 0) := q_addr (i := 0) hq
      simp only [boolK_true, nilCheck_ptr, addOff_ptr, rd1_mk z.wa.wb, rd1_mk hx2, rd1_mk ho, Nat.zero_add, List.getElem?_cons_zero, optK_mk, qa0, Nat.add_zero, row, arith_add, b_addr hlt']
      rw [wrap64 (by omega) (by omega)]
      refine wr1_step z.wa.bs (by simp [ints]; exact hlt') rfl fun s3 h3 u3 => ?_
      rw [ints_set] at h3
      obtain ⟨wa3, qa3⟩ := z.setB u3 h3 (by simp)
      refine optK_of (rdN_all ((u3 x hxb).trans hx2) rfl) ?_
      have hle : ld B' (at0 q' 0).1 ≤ B'.length := ld_le _ _
      refine change0_in qa3 z.hp hq ⟨by rw [mm.2.1]; omega, by rw [mm.2.1]; omega⟩ fun s4 q4 qa4 p4 hh4 k4 => ?_
      have l1 : ∀ m, 0 ≤ m → (ld (B'.set i ((at0 q' 0).1 + 1)) m : Nat) = ld B' m + (if (at0 q' 0).1 = m then 1 else 0) := by
        intro m hm0
        have := ld_set (B := B') (i := i) (v := (at0 q' 0).1 + 1) (m := m) hlt'
        by_cases e : (at0 q' 0).1 = m
        · rw [if_pos e]
          rw [if_pos (show (at0 q' 0).1 + 1 = m + 1 by omega)] at this
          rw [if_neg (show ¬ B'[i] = m + 1 by omega)] at this
          omega
        · rw [if_neg e]
          rw [if_neg (show ¬ (at0 q' 0).1 + 1 = m + 1 by omega)] at this
          rw [if_neg (show ¬ B'[i] = m + 1 by omega)] at this
          omega
      have qm4 : QM q4 M (B'.set i ((at0 q' 0).1 + 1)) := (z.qm.upd z.asc.nodup hq (by show ((ld _ _ : Nat) : Int) = _; rw [l1 _ mm.2.2.1, if_pos rfl]; omega) fun m hm hne => by
        show ((ld _ _ : Nat) : Int) = _
        rw [l1 _ (z.asc.2 m hm).1, if_neg (fun e => hne e.symm)]
        rfl).perm p4
      have st4 : St s4 w bb mv cap o sb (B'.set i ((at0 q' 0).1 + 1)) M q4 := ⟨wa3.keepQ k4 z.nws z.nbs z.fr, qa4, qm4, hh4, z.fr, z.asc, fun b hb => by
        rcases List.mem_or_eq_of_mem_set hb with h | rfl
        · exact z.rg b h
        · omega⟩
      refine fin s4 _ q4 st4 (rc.tail (.fill hlt' hz mm.1 (z.least hq) (fun k hk hki => nz k hk hki) (z.tie hq))) (fun k hk hki => ?_) (kp.trans ((u3.keep (fp := fun b => b = bb ∨ b = sb) (.inl rfl)).trans (k4.mono fun b e => .inr e))) (k4 _ _ ((u3 x hxb).trans hx2) hxs)
      rw [List.getElem_set]
      split
      · omega
      · have hk' : k < B'.length := by simpa using hk
        exact nz k hk' (by omega)
  · have hge : i = B.length := by have := of_decide_eq_false hge; omega
    subst hge
    refine hK s2 B' q' z rc (fun b hb => ?_) kp
    obtain ⟨k, hk, rfl⟩ := List.getElem_of_mem hb
    exact nz k hk (by omega)
/-! ### balancing -/
/-- squares of loads -/
def pot (M B : List Int) : Nat := (M.map fun m => ld B m * ld B m).sum
theorem sum_perm {l l' : List Nat} (h : l.Perm l') : l.sum = l'.sum := by
  induction h with
  | nil => rfl
  | cons x _ ih => simp [ih]
  | swap x y l => simp; omega
  | trans _ _ h1 h2 => rw [h1, h2]
theorem pot_less {B' : List Int} {f t : Int} (hnd : M.Nodup) (hf : f ∈ M) (ht : t ∈ M) (hd : ld B t + 1 < ld B f) (h1 : ld B' f + 1 = ld B f) (h2 : ld B' t = ld B t + 1) (h3 : ∀ m ∈ M, m ≠ f → m ≠ t → ld B' m = ld B m) : pot M B' < pot M B := by
  have hne : t ≠ f := by rintro rfl; omega
  have p1 := List.perm_cons_erase hf
  have ht2 : t ∈ M.erase f := (List.mem_erase_of_ne hne).2 ht
  have p2 := List.perm_cons_erase ht2
  have p : M.Perm (f :: t :: (M.erase f).erase t) := p1.trans (p2.cons f)
  have e1 : pot M B' = (List.map (fun m => ld B' m * ld B' m) (f :: t :: (M.erase f).erase t)).sum := sum_perm (p.map _)
  have e2 : pot M B = (List.map (fun m => ld B m * ld B m) (f :: t :: (M.erase f).erase t)).sum := sum_perm (p.map _)
  have nd := p.nodup_iff.1 hnd
  have e3 : List.map (fun m => ld B' m * ld B' m) ((M.erase f).erase t) = List.map (fun m => ld B m * ld B m) ((M.erase f).erase t) := by
    refine List.map_congr_left fun m hm => ?_
    have hmM : m ∈ M := p.mem_iff.2 (by simp [hm])
    have n1 : m ≠ f := by
      rintro rfl
      have := (List.nodup_cons.1 nd).1
      exact this (by simp [hm])
    have n2 : m ≠ t := by
      rintro rfl
      exact (List.nodup_cons.1 (List.nodup_cons.1 nd).2).1 hm
    rw [h3 m hmM n1 n2]
  rw [e1, e2]
  simp only [List.map_cons, List.sum_cons, e3, h2]
  obtain ⟨a, ha⟩ : ∃ a, ld B f = ld B t + 2 + a := ⟨ld B f - ld B t - 2, by omega⟩
  have hb : ld B' f = ld B t + 1 + a := by omega
  rw [ha, hb]
  generalize ld B t = b
  have : (b + 1 + a) * (b + 1 + a) + (b + 1) * (b + 1) < (b + 2 + a) * (b + 2 + a) + b * b := by
    simp only [Nat.add_mul, Nat.mul_add, Nat.mul_one, Nat.one_mul]
    have := Nat.mul_comm a b
    omega
  omega
theorem balance_in (h : St s w bb mv cap o sb B M q) (hM : M ≠ []) (hnz : ∀ b ∈ B, b ≠ 0) (hK : ∀ s' B' q', St s' w bb mv cap o sb B' M q' → Rch M B B' → (∀ b ∈ B', b ≠ 0) → (∀ a ∈ M, ∀ c ∈ M, ld B' a ≤ ld B' c + 1) → KeepBut (fun b => b = bb ∨ b = sb) s s' → K (.tup []) s') : wpCall Try.prog XX 67 [.ptr w 0, .agg [.ptr o 0]] K s := by
  refine vc_spread_Wheel_balance_in ⟨rfl, new_step fun x s1 hx h1 u1 => ?_⟩
  have h1 : s1 x = some (false, .cells 122 [.ptr o 0]) := h1
  have sub1 := u1.sub hx
  have hpos := h.wa.pos
  have h01 : St s1 w bb mv cap o sb B M q := ⟨h.wa.sub sub1, h.qa.sub sub1, h.qm, h.hp, h.fr, h.asc, h.rg⟩
  refine ⟨fun ys s' n => ∃ (B' : List Int) (q' : List Shr), n = pot M B' ∧ St s' w bb mv cap o sb B' M q' ∧ Rch M B B' ∧ (∀ b ∈ B', b ≠ 0) ∧ KeepBut (fun b => b = bb ∨ b = sb) s s' ∧ s' x = some (false, .cells 122 [.ptr o 0]), ⟨_, B, q, rfl, h01, .refl, hnz, sub1.keep, h1⟩, ?_⟩
  rintro f s2 n ⟨B', q', rfl, z, rc, nz, kp, hx2⟩
  have hlB := rc.len
  have hq : 0 < q'.length := by
    rw [z.qlen]
    cases M with
    | nil => exact absurd rfl hM
    | cons a r => simp
  unfold vc_spread_Wheel_balance_l0
  refine optK_of (rdN_all hx2 rfl) (most_in z.qa hq fun s3 m sub3 hm hmax => ?_)
  have z3 : St s3 w bb mv cap o sb B' M q' := ⟨z.wa.sub sub3, z.qa.sub sub3, z.qm, z.hp, z.fr, z.asc, z.rg⟩
  have hx3 := sub3 _ _ hx2
  obtain ⟨tt, ho⟩ := z3.qa.ob
  have mm := z3.mem hm
  have m0 := z3.mem hq
  have row0 : rd1 s3 (.ptr sb 0) = some (.int .i64 (at0 q' 0).1) ∧ rd1 s3 (.ptr sb 1) = some (.int .i64 (at0 q' 0).2) := ⟨(z3.qa.row hq).2.1, (z3.qa.row hq).2.2⟩
  have rowm := (z3.qa.row hm).2
  have qa0 : iaddrS 2 (.slc sb 0 q'.length (some q'.length) 2) (.int .i64 0) = some (.ptr sb 0) := q_addr (i := 0) hq
  have l0 : ld B' (at0 q' 0).1 ≤ B'.length := ld_le _ _
  have lm : ld B' (at0 q' m).1 ≤ B'.length := ld_le _ _
  have hmaxl : ∀ a ∈ M, ld B' a ≤ ld B' (at0 q' m).1 := fun a ha => by
    obtain ⟨j, hj, e⟩ := z3.find ha
    have k := hmax j hj
    unfold ky key at k
    have mj := z3.mem hj
    rw [e] at mj k
    omega
  have htieM : ∀ a ∈ M, ld B' a = ld B' (at0 q' m).1 → a ≤ (at0 q' m).1 := fun a ha e0 => by
    obtain ⟨j, hj, e⟩ := z3.find ha
    have k := hmax j hj
    unfold ky key at k
    have mj := z3.mem hj
    rw [e] at mj k
    omega
  simp only [addOff_ptr, rd1_mk hx3, rd1_mk ho, Nat.zero_add, List.getElem?_cons_zero, nilCheck_ptr, optK_mk, qa0, q_addr hm, row0.2, rowm.2, arith_sub]
  rw [mm.2.1, m0.2.1, wrap64 (by omega) (by omega)]
  simp only [arith_leq, optK_mk]
  refine boolK_mk (fun hle => ?_) (fun hgt => ?_)
  · have hle := of_decide_eq_true hle
    refine hK s3 B' q' z3 rc nz (fun a ha c hc => ?_) (kp.trans sub3.keep)
    have := hmaxl a ha
    have := z3.least hq c hc
    omega
  · have hgt := of_decide_eq_false hgt
    have hin : (at0 q' m).1 + 1 ∈ B' := by
      have : 0 < ld B' (at0 q' m).1 := by omega
      exact List.count_pos_iff.1 this
    simp only [nilCheck_ptr, addOff_ptr, rd1_mk z3.wa.wb, rd1_mk hx3, rd1_mk ho, Nat.zero_add, List.getElem?_cons_zero, optK_mk, q_addr hm, Nat.add_zero, rowm.1]
    refine last_in (frz_some z3.wa.wb) (frz_some z3.wa.bs) z3.wa.pos mm.2.2 hin fun i hi hBi hlst _ => ?_
    rw [add_frz, cut_refl]
    simp only [addOff_ptr, rd1_mk hx3, rd1_mk ho, Nat.zero_add, List.getElem?_cons_zero, nilCheck_ptr, optK_mk, qa0, Nat.add_zero, row0.1, arith_add, b_addr hi]
    rw [wrap64 (by omega) (by omega)]
    refine wr1_step z3.wa.bs (by simp [ints]; exact hi) rfl fun s4 h4 u4 => ?_
    rw [ints_set] at h4
    obtain ⟨wa4, qa4⟩ := z3.setB u4 h4 (by simp)
    have hxb : x ≠ bb := by rintro rfl; rw [z3.wa.bs] at hx3; cases hx3
    have hxs : x ≠ sb := by rintro rfl; rw [z3.qa.dt] at hx3; cases hx3
    have hx4 := (u4 x hxb).trans hx3
    refine optK_of (rdN_all hx4 rfl) (changeM_in qa4 z3.hp hm ⟨by rw [mm.2.1]; omega, by rw [mm.2.1]; omega⟩ fun s5 q5 qa5 p5 hh5 k5 => ?_)
    have hx5 := k5 _ _ hx4 hxs
    have hmt : (at0 q' m).1 ≠ (at0 q' 0).1 := fun e => by rw [e] at hgt; omega
    have hm0 : m ≠ 0 := by rintro rfl; exact hmt rfl
    have hq5 : 0 < q5.length := by rw [p5.length_eq, upd2_len]; exact hq
    -- the least one is the least one still
    have root : at0 q5 0 = at0 q' 0 := by
      have hin5 : at0 q5 0 ∈ upd2 q' m (-1) := p5.mem_iff.1 (by rw [at0_get hq5]; exact List.getElem_mem hq5)
      have h0in : at0 q' 0 ∈ upd2 q' m (-1) := by
        have : at0 (upd2 q' m (-1)) 0 = at0 q' 0 := by unfold upd2; rw [at0_set hm, if_neg (Ne.symm hm0)]
        rw [← this, at0_get (by rw [upd2_len]; exact hq)]
        exact List.getElem_mem _
      obtain ⟨j, hj, ej⟩ := List.getElem_of_mem (p5.mem_iff.2 h0in)
      have k1 := hh5.root j hj
      have k1' : key (at0 q5 0) ≤ key (at0 q' 0) := by
        unfold ky at k1
        rwa [at0_get hj, ej] at k1
      obtain ⟨i2, hi2, ei2⟩ := List.getElem_of_mem hin5
      have hi2' : i2 < q'.length := by rw [upd2_len] at hi2; exact hi2
      have e5 : at0 (upd2 q' m (-1)) i2 = at0 q5 0 := by rw [at0_get hi2, ei2]
      have mi := z3.mem hi2'
      have kr := z3.hp.root i2 hi2'
      unfold upd2 at e5
      rw [at0_set hm] at e5
      unfold ky key at kr
      unfold key at k1'
      by_cases e : i2 = m
      · rw [if_pos e] at e5
        rw [← e5] at k1'
        simp only at k1'
        omega
      · rw [if_neg e] at e5
        rw [← e5] at k1' ⊢
        obtain ⟨a1, a2⟩ : (at0 q' i2).2 = (at0 q' 0).2 ∧ (at0 q' i2).1 = (at0 q' 0).1 := by omega
        exact Prod.ext a2 a1
    have l1 : ∀ a, ld (B'.set i ((at0 q' 0).1 + 1)) a + (if (at0 q' m).1 = a then 1 else 0) = ld B' a + (if (at0 q' 0).1 = a then 1 else 0) := by
      intro a
      have := ld_set (B := B') (i := i) (v := (at0 q' 0).1 + 1) (m := a) hi
      by_cases e1 : (at0 q' m).1 = a
      · rw [if_pos e1]
        rw [if_pos (show B'[i] = a + 1 by omega)] at this
        by_cases e2 : (at0 q' 0).1 = a
        · exact absurd (e1.trans e2.symm) hmt
        · rw [if_neg e2]
          rw [if_neg (show ¬ (at0 q' 0).1 + 1 = a + 1 by omega)] at this
          exact this
      · rw [if_neg e1]
        rw [if_neg (show ¬ B'[i] = a + 1 by omega)] at this
        by_cases e2 : (at0 q' 0).1 = a
        · rw [if_pos e2]
          rw [if_pos (show (at0 q' 0).1 + 1 = a + 1 by omega)] at this
          exact this
        · rw [if_neg e2]
          rw [if_neg (show ¬ (at0 q' 0).1 + 1 = a + 1 by omega)] at this
          exact this
    have lf : ld (B'.set i ((at0 q' 0).1 + 1)) (at0 q' m).1 + 1 = ld B' (at0 q' m).1 := by
      have := l1 (at0 q' m).1
      rw [if_pos rfl, if_neg (fun e => hmt e.symm)] at this
      exact this
    have lt : ld (B'.set i ((at0 q' 0).1 + 1)) (at0 q' 0).1 = ld B' (at0 q' 0).1 + 1 := by
      have := l1 (at0 q' 0).1
      rw [if_neg hmt, if_pos rfl] at this
      exact this
    have lo : ∀ a, a ≠ (at0 q' m).1 → a ≠ (at0 q' 0).1 → ld (B'.set i ((at0 q' 0).1 + 1)) a = ld B' a := fun a e1 e2 => by
      have := l1 a
      rw [if_neg (Ne.symm e1), if_neg (Ne.symm e2)] at this
      exact this
    have qf5 : QF q5 M fun a => (ld B' a : Int) - (if (at0 q' m).1 = a then 1 else 0) := (z3.qm.upd z3.asc.nodup hm (by show (ld B' (at0 q' m).1 : Int) - (if (at0 q' m).1 = (at0 q' m).1 then 1 else 0) = _; rw [if_pos rfl]; rfl) fun a ha hne => by
      show (ld B' a : Int) - (if (at0 q' m).1 = a then 1 else 0) = _
      rw [if_neg (Ne.symm hne)]; simp).perm p5
    refine optK_of (rdN_all hx5 rfl) (change0_in qa5 hh5 hq5 ⟨by rw [root, m0.2.1]; omega, by rw [root, m0.2.1]; omega⟩ fun s6 q6 qa6 p6 hh6 k6 => ?_)
    have qm6 : QM q6 M (B'.set i ((at0 q' 0).1 + 1)) := (qf5.upd z3.asc.nodup hq5 (by
      rw [root]
      show ((ld _ _ : Nat) : Int) = (ld B' (at0 q' 0).1 : Int) - (if (at0 q' m).1 = (at0 q' 0).1 then 1 else 0) + 1
      rw [lt, if_neg hmt]; omega) fun a ha hne => by
      rw [root] at hne
      show ((ld _ _ : Nat) : Int) = (ld B' a : Int) - (if (at0 q' m).1 = a then 1 else 0)
      have := l1 a
      rw [if_neg (Ne.symm hne)] at this
      split
      · rename_i e; rw [if_pos e] at this; omega
      · rename_i e; rw [if_neg e] at this; omega).perm p6
    have wa6 := (wa4.keepQ k5 z3.nws z3.nbs z3.fr).keepQ k6 z3.nws z3.nbs z3.fr
    have stp : Stp M B' (B'.set i ((at0 q' 0).1 + 1)) := .move hi hBi mm.1 m0.1 (z3.least hq) hmaxl (by omega) nz hlst (z3.tie hq) htieM
    refine ⟨pot M (B'.set i ((at0 q' 0).1 + 1)), pot_less z3.asc.nodup mm.1 m0.1 (by omega) lf lt fun a _ e1 e2 => lo a e1 e2, _, q6, rfl, ⟨wa6, qa6, qm6, hh6, z3.fr, z3.asc, fun b hb => ?_⟩, rc.tail stp, fun b hb => ?_, (kp.trans sub3.keep).trans ((u4.keep (fp := fun b => b = bb ∨ b = sb) (.inl rfl)).trans ((k5.mono fun b e => .inr e).trans (k6.mono fun b e => .inr e))), k6 _ _ hx5 hxs⟩
    · rcases List.mem_or_eq_of_mem_set hb with h | rfl
      · exact z3.rg b h
      · omega
    · rcases List.mem_or_eq_of_mem_set hb with h | rfl
      · exact nz b h
      · omega
end Go.AM.WH
namespace Go.AM.WH
open Go Go.Proofs
variable {K : AVal → Heap → Prop} {s : Heap} {w bb : Nat} {mv : AVal} {cap : Option Nat} {B M l : List Int}
theorem Stp.elt {B B' : List Int} (h : Stp M B B') : ∀ b ∈ B', b ∈ B ∨ b - 1 ∈ M := by
  intro b hb
  cases h with
  | @fill i t hi h0 ht hmin _ _ =>
    rcases List.mem_or_eq_of_mem_set hb with h | rfl
    · exact .inl h
    · exact .inr (by rw [Int.add_sub_cancel]; exact ht)
  | @move i f t hi hf hfr ht hmin hmax hd _ _ _ _ =>
    rcases List.mem_or_eq_of_mem_set hb with h | rfl
    · exact .inl h
    · exact .inr (by rw [Int.add_sub_cancel]; exact ht)
theorem Rch.elt {B B' : List Int} (h : Rch M B B') : ∀ b ∈ B', b ∈ B ∨ b - 1 ∈ M := by
  induction h with
  | refl => exact fun b hb => .inl hb
  | tail _ h2 ih =>
    intro b hb
    rcases h2.elt b hb with h | h
    · exact ih b h
    · exact .inr h
theorem Rch.trans {B B1 B2 : List Int} (h : Rch M B B1) (h2 : Rch M B1 B2) : Rch M B B2 := by
  induction h2 with
  | refl => exact h
  | tail _ h3 ih => exact ih.tail h3
theorem clr_elt : ∀ b ∈ clr M B, b = 0 ∨ b - 1 ∈ M := by
  intro b hb
  obtain ⟨x, _, rfl⟩ := List.mem_map.1 hb
  split
  · rename_i h; exact .inr h
  · exact .inl rfl
/-- what Set leaves -/
structure Aft (l B B' : List Int) : Prop where
  none : l = [] → B' = clr [] B
  rch : Rch l (clr l B) B'
  elt : l ≠ [] → ∀ b ∈ B', b - 1 ∈ l
  bal : ∀ a ∈ l, ∀ c ∈ l, ld B' a ≤ ld B' c + 1
theorem Aft.len (h : Aft l B M) : M.length = B.length := by rw [h.rch.len, clr_len]
theorem Aft.rg (h : Aft l B M) (ha : Asc l) : ∀ b ∈ M, 0 ≤ b ∧ b ≤ 128 := by
  intro b hb
  by_cases e : l = []
  · rw [h.none e] at hb
    obtain ⟨x, _, rfl⟩ := List.mem_map.1 hb
    rw [if_neg (by simp)]
    omega
  · have := ha.2 _ (h.elt e b hb)
    omega
theorem clear_step {K : AVal → Heap → Prop} (hb : s bb = some (false, .cells 3 (ints B))) (hp : 1 ≤ B.length) (hK : ∀ s', s' bb = some (false, .cells 3 (ints (List.replicate B.length 0))) → Upto bb s s' → K .undef s') : clearK [.int .i64 0] 1 (.slc bb 0 B.length cap 1) K s := by
  obtain ⟨n, hn⟩ : ∃ n, B.length = n + 1 := ⟨B.length - 1, by omega⟩
  rw [hn]
  refine ⟨rfl, ?_⟩
  have e1 : wrN s (.ptr bb 0) (repl (n + 1) [.int .i64 0]) = some (hset s bb (false, .cells 3 (ints (List.replicate B.length 0)))) := by
    have e2 : repl (n + 1) [AVal.int .i64 0] = ints (List.replicate B.length 0) := by rw [repl_one, hn]; simp [ints]
    have e3 : setRange (ints B) 0 (ints (List.replicate B.length 0)) = ints (List.replicate B.length 0) := by
      unfold setRange; rw [List.drop_eq_nil_of_le (by simp)]; simp
    have e4 : ∀ k, allOne (ints (List.replicate k 0)) = true := by
      intro k; induction k with
      | zero => rfl
      | succ k ih => simpa [List.replicate_succ, allOne] using ih
    simp only [wrN, hb, e2, e3, e4]
    have : Nat.ble (0 + (ints (List.replicate B.length 0)).length) (ints B).length = true := by rw [Nat.ble_eq]; simp
    rw [this]; rfl
  refine optK_of e1 (hK _ ?_ ?_)
  · simp [hset]
  · intro i hi
    simp [hset, hi]
theorem Set_in {v : AVal} (h : WAt s w bb mv cap B M) (hl : Sli s v l) (ha : Asc l) (hlen : l.length ≤ B.length) (hr : ∀ b ∈ B, 0 ≤ b ∧ b ≤ 128)
    (hK : ∀ s' mv' B', WAt s' w bb mv' cap B' l → Aft l B B' → KeepBut (fun b => b = w ∨ b = bb) s s' → (l ≠ [] → ∃ c n k, s c = none ∧ mv' = .slc c 0 n k 1) → K (.int .i64 0) s') : wpCall Try.prog XX 44 [.ptr w 0, v] K s := by
  have hp := h.pos
  refine vc_spread_Wheel_Set_in (valid_in h ?_)
  simp only [unary_not, Bool.not_true, optK_mk, boolK_false]
  refine check_in h hl ha hlen ?_
  simp only [eqV_int, negB_mk, beq_self_eq_true, Bool.true_bne, Bool.not_true, optK_mk, boolK_false]
  refine Clone_in hl (by omega) fun v6 s7 sub7 sl7 g7 => ?_
  have w7 := h.sub sub7
  simp only [nilCheck_ptr, addOff_ptr, Nat.zero_add, optK_mk]
  refine wr1_step w7.wb (by simp) sl7.one fun s10 h10 u10 => ?_
  have h10 : s10 w = some (false, .cells 119 [.slc bb 0 B.length cap 1, v6]) := h10
  have mfree : ∀ b o n c, v6 = .slc b o n c 1 → l ≠ [] → s b = none := by
    intro b o n c e hne
    obtain ⟨c', hc, e2, _⟩ := g7 hne
    rw [e2] at e; cases e; exact hc
  have w10 : WAt s10 w bb v6 cap B l := ⟨h10, by rw [u10 bb h.ne.symm]; exact w7.bs, sl7.keep (fp := fun b => b = w) (u10.keep rfl) fun b o n c e hne e2 => (by
    have := mfree b o n c e (by simpa using hne)
    rw [e2, h.wb] at this; cases this), h.cp, h.pos⟩
  have k10 : KeepBut (fun b => b = w ∨ b = bb) s s10 := (sub7.keep).trans (u10.keep (.inl rfl))
  simp only [hl.len, List.length_map, optK_mk, eqV_int, negB_mk, Bool.false_bne]
  cases hz : (((l.length : Nat) : Int) == 0) with
  | true =>
    have hz := eq_of_beq hz
    have hl0 : l = [] := List.length_eq_zero_iff.1 (by omega)
    subst hl0
    simp only [boolK_true, nilCheck_ptr, addOff_ptr, rd1_mk h10, Nat.zero_add, List.getElem?_cons_zero, optK_mk]
    refine clear_step w10.bs hp.1 fun s11 h11 u11 => ?_
    have e0 : clr [] B = List.replicate B.length 0 := by
      unfold clr
      simp only [List.not_mem_nil, if_false]
      rw [List.map_const']
    refine hK s11 v6 (clr [] B) ⟨by rw [clr_len, u11 w h.ne]; exact h10, by rw [h11, e0], w10.ms.keep (fp := fun b => b = bb) (u11.keep rfl) fun b o n c e hne => absurd rfl hne, by rw [clr_len]; exact h.cp, by rw [clr_len]; exact h.pos⟩ ⟨fun _ => rfl, .refl, fun e => absurd rfl e, fun a ha => by simp at ha⟩ (k10.trans (u11.keep (.inr rfl))) fun e => absurd rfl e
  | false =>
    have hz : ¬ ((l.length : Nat) : Int) = 0 := fun e => by rw [e] at hz; simp at hz
    have hne : l ≠ [] := fun e => by rw [e] at hz; simp at hz
    simp only [boolK_false]
    refine queue_in w10 ha (by omega) hr (fun b o n c e hM => fun e2 => by
      have := mfree b o n c e hM
      rw [e2, h.bs] at this; cases this) fun s20 o sb q w20 q20 qm20 hp20 fsb fo k20 => ?_
    refine new_step fun x s22 hx h22 u22 => wrAgg_step h22 rfl rfl rfl fun s23 h23 u23 => optK_of (rdN_all h23 rfl) ?_
    have h23 : s23 x = some (false, .cells 122 [.ptr o 0]) := h23
    have sub23 : Sub s20 s23 := (Sub.refl s20).trans ((u22.sub hx).upto u23 hx)
    have st : St s23 w bb v6 cap o sb (clr l B) l q := ⟨w20.sub sub23, q20.sub sub23, qm20, hp20, fun b o' n c e hM => fun e2 => by
      have e0 := mfree b o' n c e hM
      rcases e2 with e2 | e2
      · rw [e2, h.bs] at e0; cases e0
      · obtain ⟨c', hc, e3, hc2⟩ := g7 hM
        have e4 : b = c' := by rw [e3] at e; injection e with e1; exact e1.symm
        rw [e4] at e2
        have : s10 c' ≠ none := by
          rw [u10 c' (fun e => by rw [e, h.wb] at hc; cases hc), hc2]; simp
        exact this (by rw [e2]; exact fsb), ha, fun b hb => by
          rcases clr_elt b hb with h | h
          · omega
          · have := ha.2 _ h; omega⟩
    have nx : ¬ (x = bb ∨ x = sb) := by
      rintro (e | e)
      · have := w20.bs; rw [← e, hx] at this; cases this
      · have := q20.dt; rw [← e, hx] at this; cases this
    refine fill_in st hne fun s26 B26 q26 st26 rc26 nz26 k26 => ?_
    refine optK_of (rdN_all (k26 _ _ h23 nx) rfl) ?_
    refine balance_in st26 hne nz26 fun s29 B29 q29 st29 rc29 nz29 bal29 k29 => ?_
    have rc := rc26.trans rc29
    refine hK s29 v6 B29 st29.wa ⟨fun e => absurd e hne, rc, fun _ b hb => ?_, bal29⟩ ?_ fun _ => by obtain ⟨c, hc, e, _⟩ := g7 hne; exact ⟨c, _, _, hc, e⟩
    · rcases rc.elt b hb with h | h
      · rcases clr_elt b h with h | h
        · exact absurd h (nz29 b hb)
        · exact h
      · exact h
    · intro i e hi hn
      have n1 : ¬ i = bb := fun e => hn (.inr e)
      have i10 := k10 i e hi hn
      have i20 := k20 i e i10 n1
      have i23 := sub23 i e i20
      have n2 : ¬ (i = bb ∨ i = sb) := by
        rintro (e2 | e2)
        · exact n1 e2
        · rw [e2, fsb] at i10; cases i10
      exact k29 i e (k26 i e i23 n2) n2
end Go.AM.WH
namespace Go.AM.FB
open Go Go.Proofs
variable {K : AVal → Heap → Prop} {s s' s0 t : Heap} {lv uv v y w : AVal} {N : Nat} {G : List Lnk} {U : List Bool} {d : Nat → Int} {L : List RLk}
/-! ### small ones -/
theorem Loop_in {n : Nat} (hn : n < 32) (hK : K (.int .u32 (lbk n)) s) : wpCall Try.prog XX 21 [.int .i64 (n : Int)] K s := by
  refine vllaw14_loop_in (aLoop_in hn ?_)
  have x0 : extractA (.tup [.int .u32 (lbk n), .int .i64 0]) 0 = some (.int .u32 (lbk n)) := rfl
  have x1 : extractA (.tup [.int .u32 (lbk n), .int .i64 0]) 1 = some (.int .i64 0) := rfl
  simp only [x0, x1, optK_mk]
  exact hK
theorem u32w {x : Int} (h1 : 0 ≤ x) (h2 : x < 4294967296) : IntKind.u32.wrap x = x := by
  unfold IntKind.wrap
  simp [IntKind.bits, IntKind.signed]
  omega
theorem Node_in {n : Nat} (hn : n < 32) (hK : K (.tup [.int .i64 (n : Int), .bool true]) s) : wpCall Try.prog XX 42 [.int .u32 (lbk n)] K s := by
  refine vc_addr_Node_in ?_
  have c1 : decide (lbk n ≤ 184483840) = false := decide_eq_false (by unfold lbk; omega)
  have c2 : decide ((184483872 : Int) < lbk n) = false := decide_eq_false (by unfold lbk; omega)
  have a1 : arithV .sub (.int .u32 (lbk n)) (.int .u32 184483840) = some (.int .u32 ((n : Int) + 1)) := by
    rw [arith_sub, show lbk n - 184483840 = (n : Int) + 1 by unfold lbk; omega, u32w (by omega) (by omega)]
  have a2 : arithV .sub (.int .u32 ((n : Int) + 1)) (.int .u32 1) = some (.int .u32 (n : Int)) := by
    rw [arith_sub, show (n : Int) + 1 - 1 = (n : Int) by omega, u32w (by omega) (by omega)]
  have a3 : convI .i64 (.int .u32 (n : Int)) = some (.int .i64 (n : Int)) := by
    show some (AVal.int .i64 (wrapK .i64 (n : Int))) = _
    rw [show wrapK .i64 (n : Int) = n by simp only [wrapK]; rw [wrapM_eq _ _ _ (by omega) (by omega)]; split <;> omega]
  simp only [vc_addr_Node, arith_leq, arith_gtr, c1, c2, boolK_false, optK_mk, vc_addr_Node_j0, pickV_false, a1, a2, a3]
  exact hK
/-- the cells of a table -/
def fibC (n x : Int) (lv ev : AVal) (mb : Nat) : List AVal := [.int .i64 n, .int .i64 x, .int .u32 (184483841 + x), lv, ev, .map mb]
theorem valid_in {f : Nat} {tg : Bool} {n x : Int} {lv ev : AVal} {mb : Nat} (h : s f = some (tg, .cells 82 (fibC n x lv ev mb))) (hn : 0 < n) (hK : K (.bool true) s) : wpCall Try.prog XX 41 [.ptr f 0] K s := by
  refine vc_fib_Fib_valid_in ?_
  have e : (fibC n x lv ev mb)[0]? = some (.int .i64 n) := rfl
  have hp : decide ((0 : Int) < n) = true := decide_eq_true hn
  simp only [vc_fib_Fib_valid, eqV_ptr, negB_mk, Bool.bne_false, optK_mk, boolK_true, nilCheck_ptr, addOff_ptr, rd1_mk h, Nat.zero_add, e, arith_gtr, hp, vc_fib_Fib_valid_j0, pickV_true]
  exact hK
theorem CloneL_in {rows : List (List AVal)} (h : SlR 3 s v rows) (hl : rows.length ≤ 1000000) (hK : ∀ w s', Sub s s' → SlR 3 s' w rows → (∀ b o n c, w = .slc b o n c 3 → rows ≠ [] → s b = none) → K w s') : wpCall Try.prog XX 40 [v] K s := by
  refine vs_Clone___api_Link_api_Link__in ?_
  have cases0 : (v = .nilslc ∧ rows = []) ∨ ∃ b o c, v = .slc b o rows.length c 3 := by
    rcases h.2 with ⟨a, b⟩ | ⟨b, o, c, a, _⟩
    · exact .inl ⟨a, b⟩
    · exact .inr ⟨b, o, c, a⟩
  rcases cases0 with ⟨rfl, rfl⟩ | ⟨b, o, c, rfl⟩
  · simp only [vs_Clone___api_Link_api_Link_, eqV_nilslc, negB_mk, Bool.false_bne, optK_mk, boolK_true]
    exact hK _ _ (.refl s) ⟨by simp, .inl ⟨rfl, rfl⟩⟩ fun _ _ _ _ _ h => absurd rfl h
  · simp only [vs_Clone___api_Link_api_Link_, eqV_slc, negB_mk, Bool.false_bne, optK_mk, boolK_false]
    refine optK_of (a := []) rfl ⟨rfl, new_step fun d s1 hd h1 u1 => ?_⟩
    have sub1 := u1.sub hd
    exact app_copyR (h.sub sub1) (by omega) fun v' s' sub2 h2 h3 => hK v' s' (sub1.trans sub2) h2 fun b o n c e q => fresh_of sub1 (h3 b o n c e q)
/-- a new table -/
theorem New_in {n x : Int} (hl : SlR 3 s lv (L.map rwR)) (hlm : L.length ≤ 9223372036854775807)
    (hbad : ¬ (vld n L (List.replicate L.length false) ∧ 0 ≤ x ∧ x < n) → ∀ s' e, Sub s s' → e ≠ 0 → K (.tup [.nilptr, .int .i64 e]) s')
    (hK : vld n L (List.replicate L.length false) → 0 ≤ x → x < n → ∀ f mb lv' s', Sub s s' → s f = none → s mb = none → f ≠ mb → s' f = some (false, .cells 82 (fibC n x lv' .nilslc mb)) → s' mb = some (false, .map [] 0) → SlR 3 s' lv' (L.map rwR) → (∀ b o n c, lv' = .slc b o n c 3 → L.map rwR ≠ [] → b ≠ f ∧ b ≠ mb) → K (.tup [.ptr f 0, .int .i64 0]) s') :
    wpCall Try.prog XX 18 [.int .i64 n, lv, .int .i64 x] K s := by
  refine vc_fib_New_in ?_
  have bad0 : ∀ {s'}, ¬ (vld n L (List.replicate L.length false) ∧ 0 ≤ x ∧ x < n) → Sub s s' → ∀ {e : Int}, e ≠ 0 → K (.tup [.nilptr, .int .i64 e]) s' := fun {s'} h k {e} he => hbad h s' e k he
  simp only [vc_fib_New, hl.len, List.length_map, arith_gtr, optK_mk]
  refine boolK_mk (fun c => ?_) (fun c => ?_)
  · have c' := of_decide_eq_true c
    rw [c]
    simp only [vc_fib_New_j0, pickV_true, boolK_true, optK_mk]
    exact bad0 (fun h => by have := h.1.2.2.1; omega) (.refl s) (by omega)
  have c' := of_decide_eq_false c
  rw [c]
  simp only [nat?_mk, optK_mk]
  refine ⟨⟨Nat.le_refl _, by omega⟩, new_step fun ub s1 hub h1 u1 => ?_⟩
  have sub1 := u1.sub hub
  have hu1 : Sl s1 (.slc ub 0 L.length (some L.length) 1) ((List.replicate L.length false).map AVal.bool) := by
    rw [repl_one] at h1
    refine Sl.mk (l := (List.replicate L.length false).map AVal.bool) (t := false) (e := 4) ?_ (by simp) (by simp)
    rw [h1, List.map_replicate]
  refine Dist_in (hl.sub sub1) hlm hu1 fun dv s2 sub2 hno hyes => ?_
  have s02 := sub1.trans sub2
  by_cases q : vld n L (List.replicate L.length false) ∧ (0 : Int) ≤ 0 ∧ 0 < n
  rotate_left
  · rw [hno q]
    have q' : ¬ (vld n L (List.replicate L.length false) ∧ 0 ≤ x ∧ x < n) := fun h => q ⟨h.1, by omega, by omega⟩
    simp only [eqV_nilslc, negB_mk, Bool.false_bne, optK_mk, vc_fib_New_j0, pickV_false, boolK_true]
    exact bad0 q' s02 (by omega)
  obtain ⟨hv, _, hn0⟩ := q
  obtain ⟨N, rfl⟩ : ∃ N : Nat, n = N := ⟨n.toNat, by omega⟩
  obtain ⟨d, db, _, _, rfl, _, _⟩ := hyes N 0 hv rfl (by omega) rfl
  simp only [eqV_slc, negB_mk, Bool.false_bne, optK_mk, vc_fib_New_j0, pickV_false, boolK_false, arith_lss]
  by_cases c1 : x < 0
  · rw [decide_eq_true c1]
    simp only [vc_fib_New_j1, pickV_true, boolK_true, optK_mk]
    exact bad0 (fun h => by omega) s02 (by omega)
  rw [decide_eq_false c1]
  simp only [boolK_false, arith_geq, optK_mk, vc_fib_New_j1, pickV_false]
  by_cases c2 : (N : Int) ≤ x
  · rw [decide_eq_true c2]
    simp only [boolK_true]
    exact bad0 (fun h => by omega) s02 (by omega)
  rw [decide_eq_false c2]
  simp only [boolK_false]
  obtain ⟨r, rfl⟩ : ∃ r : Nat, x = r := ⟨x.toNat, by omega⟩
  have hN := hv.2.1
  refine aLoop_in (by omega) ?_
  have x0 : extractA (.tup [.int .u32 (lbk r), .int .i64 0]) 0 = some (.int .u32 (lbk r)) := rfl
  have x1 : extractA (.tup [.int .u32 (lbk r), .int .i64 0]) 1 = some (.int .i64 0) := rfl
  simp only [x0, x1, eqV_int, negB_mk, beq_self_eq_true, Bool.true_bne, Bool.not_true, boolK_false, optK_mk]
  refine CloneL_in (hl.sub s02) (by rw [List.length_map]; omega) fun lv' s3 sub3 hl3 fr3 => ?_
  have s03 := s02.trans sub3
  intro mb hmb
  have sub4 : Sub s3 (hset s3 mb (false, .map [] 0)) := sub_new hmb
  have hm4 : hset s3 mb (false, .map [] 0) mb = some (false, .map [] 0) := by simp [hset]
  generalize hset s3 mb (false, .map [] 0) = s4 at sub4 hm4
  have hone : lv'.one = true := hl3.one
  refine optK_of (a := fibC N r lv' .nilslc mb) ?_ ?_
  · show cond (Nat.beq lv'.cells.length 1 && Nat.ble (3 + lv'.cells.length) 6) (fillR (setRange [.int .i64 (N : Int), .int .i64 (r : Int), .int .u32 (lbk r), .nilslc, .nilslc, .nilmap] 3 lv'.cells) [(5, 1, .map mb)]) none = _
    rw [one_cells hone]
    rfl
  refine ⟨?_, new_step fun f s5 hf h5 u5 => ?_⟩
  · show ((AVal.int .i64 (N : Int)).one && ((AVal.int .i64 (r : Int)).one && ((AVal.int .u32 _).one && (lv'.one && (AVal.nilslc.one && ((AVal.map mb).one && true)))))) = true
    rw [hone]; rfl
  have sub5 := u5.sub hf
  have hfm : f ≠ mb := fun e => by rw [e, hm4] at hf; cases hf
  refine hK hv (by omega) (by omega) f mb lv' s5 (s03.trans (sub4.trans sub5)) (fresh_of (s03.trans sub4) hf) (fresh_of s03 hmb) hfm h5 (sub5 _ _ hm4) (hl3.sub (sub4.trans sub5)) fun b o n c e hne => ?_
  have := hl3.was b o n c e hne
  exact ⟨fun q => this (fresh_of sub4 (by rw [q]; exact hf)), fun q => this (by rw [q]; exact hmb)⟩
end Go.AM.FB
namespace Go.AM.FB
open Go Go.Proofs
variable {K : AVal → Heap → Prop} {s s' s0 t : Heap} {lv uv v y w : AVal} {N : Nat} {G : List Lnk} {U : List Bool} {d : Nat → Int} {L : List RLk}
/-! ### the map of wheels -/
def mE : Nat → List (Nat × Nat) → List AEnt
  | _, [] => []
  | i, p :: l => ⟨.int .i64 (p.1 : Int), .ptr p.2 0, i⟩ :: mE (i + 1) l
theorem mE_len : ∀ {i : Nat} {l : List (Nat × Nat)}, (mE i l).length = l.length
  | _, [] => rfl
  | i, p :: l => by show (mE (i + 1) l).length + 1 = _; rw [mE_len]; rfl
theorem mE_app {p : Nat × Nat} : ∀ {i : Nat} {l : List (Nat × Nat)}, mE i (l ++ [p]) = mE i l ++ [⟨.int .i64 (p.1 : Int), .ptr p.2 0, i + l.length⟩]
  | _, [] => rfl
  | i, q :: l => by
    show _ :: mE (i + 1) (l ++ [p]) = _ :: mE (i + 1) l ++ _
    rw [mE_app, List.cons_append]
    have : i + 1 + l.length = i + (q :: l).length := by rw [List.length_cons]; omega
    rw [this]
theorem mE_old : ∀ {i : Nat} {l : List (Nat × Nat)} {c : Nat}, i + l.length ≤ c → allOld c (mE i l) = true
  | _, [], _, _ => rfl
  | i, p :: l, c, h => by
    rw [List.length_cons] at h
    show (Nat.blt i c && allOld c (mE (i + 1) l)) = true
    rw [mE_old (by omega), Bool.and_true, Nat.blt_eq]
    omega
theorem mE_mem : ∀ {i : Nat} {l : List (Nat × Nat)} {e : AEnt}, e ∈ mE i l → ∃ p ∈ l, e.key = .int .i64 (p.1 : Int) ∧ e.val = .ptr p.2 0 ∧ i ≤ e.born
  | _, [], e, h => by cases h
  | i, p :: l, e, h => by
    rcases List.mem_cons.1 h with rfl | h
    · exact ⟨p, by simp, rfl, rfl, Nat.le_refl _⟩
    · obtain ⟨q, hq, a, b, c⟩ := mE_mem h
      exact ⟨q, List.mem_cons_of_mem _ hq, a, b, by omega⟩
theorem mE_born : ∀ {i : Nat} {l : List (Nat × Nat)} {e : AEnt}, e ∈ mE i l → findBorn e.born (mE i l) = some e
  | _, [], e, h => by cases h
  | i, p :: l, e, h => by
    show cond (Nat.beq i e.born) _ (findBorn e.born (mE (i + 1) l)) = _
    rcases List.mem_cons.1 h with rfl | h
    · rw [Nat.beq_refl]; rfl
    · obtain ⟨_, _, _, _, c⟩ := mE_mem h
      have : Nat.beq i e.born = false := by
        cases q : Nat.beq i e.born with
        | false => rfl
        | true => have := Nat.eq_of_beq_eq_true q; omega
      rw [this]
      exact mE_born h
def wOf (l : List (Nat × Nat)) (n : Nat) : Option Nat := (l.find? fun p => p.1 == n).map (·.2)
theorem keq {a b : Nat} : keyEq (.int .i64) (.int .i64 (a : Int)) (.int .i64 (b : Int)) = some (b == a) := by
  show some (eqI (a : Int) b) = _
  rw [eqI_eq]
  congr 1
  rw [Bool.eq_iff_iff]
  simp only [beq_iff_eq]
  omega
theorem mE_find {n : Nat} : ∀ {i j : Nat} {l : List (Nat × Nat)}, ∃ r, findI (.int .i64 (n : Int)) (mE i l) j = some r ∧ r.map (·.2) = (wOf l n).map fun w => AVal.ptr w 0
  | _, _, [] => ⟨none, rfl, rfl⟩
  | i, j, p :: l => by
    have e : findI (.int .i64 (n : Int)) (mE i (p :: l)) j = match (some (p.1 == n) : Option Bool) with
        | some true => some (some (j, AVal.ptr p.2 0))
        | some false => findI (.int .i64 (n : Int)) (mE (i + 1) l) (j + 1)
        | none => none := by
      rw [← keq]; rfl
    cases q : (p.1 == n) with
    | true =>
      rw [q] at e
      refine ⟨some (j, .ptr p.2 0), e, ?_⟩
      unfold wOf
      rw [List.find?_cons_of_pos (by exact q)]
      rfl
    | false =>
      rw [q] at e
      obtain ⟨r, h1, h2⟩ := mE_find (n := n) (i := i + 1) (j := j + 1) (l := l)
      refine ⟨r, e.trans h1, ?_⟩
      rw [h2]
      unfold wOf
      rw [List.find?_cons_of_neg (by rw [q]; simp)]
theorem wOf_none {l : List (Nat × Nat)} {n : Nat} (h : n ∉ l.map (·.1)) : wOf l n = none := by
  unfold wOf
  rw [Option.map_eq_none_iff, List.find?_eq_none]
  intro p hp q
  exact h (List.mem_map.2 ⟨p, hp, by simpa using q⟩)
theorem wOf_some {l : List (Nat × Nat)} {n : Nat} (h : n ∈ l.map (·.1)) : ∃ w, wOf l n = some w ∧ (n, w) ∈ l := by
  obtain ⟨p, hp, rfl⟩ := List.mem_map.1 h
  unfold wOf
  cases q : l.find? fun x => x.1 == p.1 with
  | none =>
    have := List.find?_eq_none.1 q p hp
    simp at this
  | some y =>
    have h1 := List.mem_of_find?_eq_some q
    have h2 := List.find?_some q
    refine ⟨y.2, rfl, ?_⟩
    have h2 : y.1 = p.1 := by simpa using h2
    rw [← h2]
    exact h1
theorem mget {mb : Nat} {tg : Bool} {c : Nat} {l : List (Nat × Nat)} {n : Nat} (h : s mb = some (tg, .map (mE 0 l) c)) : getM s (.map mb) (.int .i64 (n : Int)) = some ((wOf l n).map fun w => AVal.ptr w 0) := by
  obtain ⟨r, h1, h2⟩ := mE_find (n := n) (i := 0) (j := 0) (l := l)
  unfold getM
  simp only [h, h1]
  rw [← h2]
  cases r <;> rfl
theorem mput {mb w : Nat} {l : List (Nat × Nat)} {n : Nat} {R : Heap → Prop} (h : s mb = some (false, .map (mE 0 l) l.length)) (hn : n ∉ l.map (·.1))
    (hK : ∀ s', s' mb = some (false, .map (mE 0 (l ++ [(n, w)])) (l ++ [(n, w)]).length) → Upto mb s s' → R s') : optK (putM s (.map mb) (.int .i64 (n : Int)) (.ptr w 0)) R := by
  obtain ⟨r, h1, h2⟩ := mE_find (n := n) (i := 0) (j := 0) (l := l)
  rw [wOf_none hn] at h2
  have hr : r = none := by cases r with | none => rfl | some x => cases h2
  subst hr
  refine optK_of (a := hset s mb (false, .map (mE 0 (l ++ [(n, w)])) (l ++ [(n, w)]).length)) ?_ (hK _ (by simp [hset]) fun i hi => by simp [hset, hi])
  unfold putM putE
  simp only [h, h1]
  rw [mE_app, List.length_append, Nat.zero_add]
  rfl
/-- a wheel that has its links -/
def Wh (s : Heap) (w : Nat) (l : List Nat) : Prop := ∃ bb mv cap B, WH.WAt s w bb mv cap B (l.map fun (n : Nat) => (n : Int)) ∧ WH.Aft (l.map fun (n : Nat) => (n : Int)) (List.replicate 64 0) B
theorem Wh.sub {w : Nat} {l : List Nat} (h : Wh s w l) (k : Sub s s') : Wh s' w l := by
  obtain ⟨bb, mv, cap, B, h1, h2⟩ := h
  exact ⟨bb, mv, cap, B, h1.sub k, h2⟩
theorem min64 {a b : Int} : foldA min2A (.int .i64 a) [.int .i64 b] = some (.int .i64 (if b < a then b else a)) := by
  by_cases h : b < a
  · have : ltI b a = true := by rw [ltI_eq]; exact decide_eq_true h
    simp only [foldA, min2A, this, if_pos h]; rfl
  · have : ltI b a = false := by rw [ltI_eq]; exact decide_eq_false h
    simp only [foldA, min2A, this, if_neg h]; rfl
theorem iz_ints {l : List Nat} : iz l = (l.map fun (n : Nat) => (n : Int)).map (AVal.int .i64) := by
  unfold iz
  rw [List.map_map]
  rfl
/-- the whole of a list as a part of it -/
theorem Sl.whole {l : List AVal} (h : Sl s v l) : ∃ v', sliceS 1 v none (some (.int .i64 (l.length : Int))) none = some v' ∧ Sl s v' l := by
  rcases h with ⟨rfl, rfl⟩ | ⟨b, o, cap, rfl, h2, h3⟩
  · exact ⟨.nilslc, rfl, .inl ⟨rfl, rfl⟩⟩
  · cases cap with
    | none =>
      refine ⟨.slc b o l.length none 1, ?_, .inr ⟨b, o, none, rfl, by simp, h3⟩⟩
      simp [sliceS, bound, Nat.ble_eq_true_of_le (Nat.le_refl l.length)]
    | some c =>
      refine ⟨.slc b o l.length (some c) 1, ?_, .inr ⟨b, o, some c, rfl, h2, h3⟩⟩
      simp [sliceS, bound, Nat.ble_eq_true_of_le (h2 c rfl)]
/-- a node that has no wheel gets one, and the wheel its links -/
theorem turn_in {f mb n : Nat} {a x : Int} {lv ev : AVal} {ws : List (Nat × Nat)} {l : List Nat} (hf : s f = some (false, .cells 82 (fibC a x lv ev mb))) (hm : s mb = some (false, .map (mE 0 ws) ws.length)) (hn : n ∉ ws.map (·.1))
    (hl : Sl s v (iz l)) (ha : l.Pairwise (· < ·)) (hb : ∀ i ∈ l, i < 128) (hlen : l.length ≤ 64) (hne : l ≠ [])
    (hK : ∀ s' w, s w = none → s' mb = some (false, .map (mE 0 (ws ++ [(n, w)])) (ws ++ [(n, w)]).length) → KeepBut (fun b => b = mb) s s' → (∀ t, (∀ i e, s i = none → s' i = some e → t i = some e) → Wh t w l) → K (.tup []) s') : wpCall Try.prog XX 43 [.ptr f 0, .int .i64 (n : Int), v] K s := by
  refine vc_fib_Fib_turn_in ?_
  have e5 : (fibC a x lv ev mb)[5]? = some (.map mb) := rfl
  have hg := mget (n := n) hm
  rw [wOf_none hn] at hg
  have hg : getM s (.map mb) (.int .i64 (n : Int)) = some none := hg
  have x0 : extractA (retM .nilptr true none) 0 = some .nilptr := rfl
  have x1 : extractA (retM .nilptr true none) 1 = some (.bool false) := rfl
  simp only [vc_fib_Fib_turn, nilCheck_ptr, addOff_ptr, Nat.zero_add, rd1_mk hf, e5, hg, x0, x1, unary_not, Bool.not_false, boolK_true, optK_mk]
  refine WH.New_in (n := 64) (by omega) (by omega) fun w bb s1 hw hbb sub1 wa => ?_
  have y0 : extractA (.tup [.ptr w 0, .int .i64 0]) 0 = some (.ptr w 0) := rfl
  have y1 : extractA (.tup [.ptr w 0, .int .i64 0]) 1 = some (.int .i64 0) := rfl
  have hf1 := sub1 _ _ hf
  simp only [y0, y1, rd1_mk hf1, e5, optK_mk]
  refine mput (sub1 _ _ hm) hn fun s2 hm2 u2 => ?_
  have wm : w ≠ mb := fun e => by rw [e, hm] at hw; cases hw
  have bm : bb ≠ mb := fun e => by rw [e, hm] at hbb; cases hbb
  have wa2 : WH.WAt s2 w bb .nilslc (some 64) (List.replicate 64 0) [] := ⟨by rw [u2 w wm]; exact wa.wb, by rw [u2 bb bm]; exact wa.bs, .inl ⟨rfl, rfl⟩, wa.cp, wa.pos⟩
  have hl2 : Sl s2 v (iz l) := (hl.sub sub1).keep (fp := fun b => b = mb) (u2.keep rfl) fun b o k c e hne => fun q => by
    rcases hl with ⟨r, _⟩ | ⟨b', o', c', r1, _, r3⟩
    · rw [r] at e; cases e
    · rw [r1] at e
      cases e
      obtain ⟨t, el, cs, r4, _⟩ := r3 hne
      rw [q, hm] at r4
      cases r4
  unfold vc_fib_Fib_turn_j0
  have c1 : (if (64 : Int) < ((iz l).length : Int) then (64 : Int) else ((iz l).length : Int)) = ((iz l).length : Int) := if_neg (by rw [iz_len]; omega)
  obtain ⟨v', hv', hlv⟩ := Sl.whole hl2
  simp only [hl2.len, min64, c1, hv', optK_mk]
  have asc : WH.Asc (l.map fun (n : Nat) => (n : Int)) := ⟨by
    rw [List.pairwise_map]
    exact ha.imp fun h => by omega, fun z hz => by
    obtain ⟨i, hi, rfl⟩ := List.mem_map.1 hz
    have := hb i hi
    omega⟩
  rw [iz_ints] at hlv
  refine WH.Set_in wa2 hlv asc (by rw [List.length_map, List.length_replicate]; exact hlen) (fun b hb => by have := List.eq_of_mem_replicate hb; omega) fun s3 mv3 B3 wa3 aft k3 fr3 => ?_
  have ne : l.map (fun (n : Nat) => (n : Int)) ≠ [] := by simpa using hne
  obtain ⟨c, k, kk, hc, hmv⟩ := fr3 ne
  have hs2c : s c = none := by
    cases q : s c with
    | none => rfl
    | some e =>
      by_cases e2 : c = mb
      · rw [e2, hm2] at hc; cases hc
      · have := sub1 _ _ q
        rw [← u2 c e2, hc] at this
        cases this
  refine hK s3 w hw (k3 _ _ hm2 fun q => q.elim (fun e => wm e.symm) fun e => bm e.symm) (fun i e hi hn => ?_) fun t ht => ?_
  · have hn : i ≠ mb := hn
    have h2 : s2 i = some e := by rw [u2 i hn]; exact sub1 _ _ hi
    refine k3 _ _ h2 fun q => q.elim (fun e2 => ?_) fun e2 => ?_
    · rw [e2, hw] at hi; cases hi
    · rw [e2, hbb] at hi; cases hi
  · refine ⟨bb, mv3, some 64, B3, ⟨ht _ _ hw wa3.wb, ht _ _ hbb wa3.bs, ?_, wa3.cp, wa3.pos⟩, aft⟩
    rcases wa3.ms with q | ⟨b, o, cap, q1, q2, q3⟩
    · exact .inl q
    · refine .inr ⟨b, o, cap, q1, q2, fun hne => ?_⟩
      obtain ⟨tt, e, cs, r1, r2⟩ := q3 hne
      refine ⟨tt, e, cs, ht _ _ ?_ r1, r2⟩
      rw [hmv] at q1
      cases q1
      exact hs2c
end Go.AM.FB
namespace Go.AM.FB
open Go Go.Proofs
variable {K : AVal → Heap → Prop} {s s' s0 t : Heap} {lv uv v y w : AVal} {N : Nat} {G : List Lnk} {U : List Bool} {d : Nat → Int} {L : List RLk}
/-! ### the nodes that a table reaches -/
noncomputable def lnk (N : Nat) (G : List Lnk) (U : List Bool) (x n : Nat) : List Nat := nrL G U (dF N G U n) x
noncomputable def ndL (N : Nat) (G : List Lnk) (U : List Bool) (x : Nat) : List Nat := (List.range N).filter fun n => !(lnk N G U x n).isEmpty
theorem ofP_nd {x : Nat} : ∀ k, ofP N G U x k = ((List.range k).filter fun n => !(lnk N G U x n).isEmpty).map fun n => (lbk n, lnk N G U x n)
  | 0 => rfl
  | k + 1 => by
    rw [ofP_succ, ofP_nd k, List.range_succ, List.filter_append, List.map_append]
    congr 1
    unfold ofE
    by_cases q : nrL G U (dF N G U k) x = []
    · rw [if_pos q]
      have : (lnk N G U x k).isEmpty = true := by unfold lnk; rw [q]; rfl
      simp [this]
    · rw [if_neg q]
      have : (lnk N G U x k).isEmpty = false := by
        unfold lnk
        cases e : nrL G U (dF N G U k) x with
        | nil => exact absurd e q
        | cons a b => rfl
      simp [this]
      rfl
theorem ofP_all {x : Nat} : ofP N G U x N = (ndL N G U x).map fun n => (lbk n, lnk N G U x n) := ofP_nd N
theorem mem_ndL {x n : Nat} : n ∈ ndL N G U x ↔ n < N ∧ lnk N G U x n ≠ [] := by
  unfold ndL
  rw [List.mem_filter, List.mem_range]
  constructor
  · rintro ⟨h1, h2⟩
    refine ⟨h1, fun q => ?_⟩
    rw [q] at h2; cases h2
  · rintro ⟨h1, h2⟩
    refine ⟨h1, ?_⟩
    cases e : lnk N G U x n with
    | nil => exact absurd e h2
    | cons a b => rfl
theorem ndL_asc {x : Nat} : (ndL N G U x).Pairwise (· < ·) := List.Pairwise.filter _ List.pairwise_lt_range
theorem ndL_len {x : Nat} : (ndL N G U x).length ≤ N := by
  have := List.length_filter_le (fun n => !(lnk N G U x n).isEmpty) (List.range N)
  rw [List.length_range] at this
  exact this
theorem edL_asc {n : Nat} : (edL G U n).Pairwise fun a b => a.1 < b.1 := by
  unfold edL
  rw [List.pairwise_filterMap]
  refine List.Pairwise.imp ?_ List.pairwise_lt_range
  intro a b hab x hx y hy
  have f : ∀ {i : Nat} {e : Nat × Nat × Nat}, (if U.getD i false then (match G[i]? with | some x => (oth x n).map fun m => (i, m, x.2.2) | none => none) else none) = some e → e.1 = i := fun {i e} h => by
    split at h
    · split at h
      · obtain ⟨m, _, rfl⟩ := Option.map_eq_some_iff.1 h
        rfl
      · cases h
    · cases h
  rw [f hx, f hy]
  exact hab
theorem nrL_asc {n : Nat} : (nrL G U d n).Pairwise (· < ·) := by
  unfold nrL
  rw [List.pairwise_map]
  exact (List.Pairwise.filter _ edL_asc)
theorem nrL_lt {n i : Nat} (h : i ∈ nrL G U d n) : i < G.length := by
  unfold nrL at h
  obtain ⟨e, he, rfl⟩ := List.mem_map.1 h
  have he := (List.mem_filter.1 he).1
  unfold edL at he
  obtain ⟨j, hj, hq⟩ := List.mem_filterMap.1 he
  rw [List.mem_range] at hj
  split at hq
  · split at hq
    · obtain ⟨m, _, rfl⟩ := Option.map_eq_some_iff.1 hq
      exact hj
    · cases hq
  · cases hq
theorem nrL_len {n : Nat} : (nrL G U d n).length ≤ G.length := by
  unfold nrL
  rw [List.length_map]
  exact Nat.le_trans (List.length_filter_le _ _) edL_len
theorem lnk_asc {x n : Nat} : (lnk N G U x n).Pairwise (· < ·) := nrL_asc
theorem lnk_lt {x n i : Nat} (h : i ∈ lnk N G U x n) : i < G.length := nrL_lt h
theorem lnk_len {x n : Nat} : (lnk N G U x n).length ≤ G.length := nrL_len
/-! ### tables that are read -/
/-- a wheel that is read -/
def WhR (s : Heap) (w : Nat) (l : List Nat) : Prop := ∃ t1 t2 bb mv cap B, s w = some (t1, .cells 119 [.slc bb 0 B.length cap 1, mv]) ∧ s bb = some (t2, .cells 3 (WH.ints B)) ∧ (∀ c, cap = some c → B.length ≤ c) ∧ B.length = 64 ∧ WH.Sli s mv (l.map fun (n : Nat) => (n : Int)) ∧ WH.Aft (l.map fun (n : Nat) => (n : Int)) (List.replicate 64 0) B
theorem Wh.rd {w : Nat} {l : List Nat} (h : Wh s w l) : WhR s w l := by
  obtain ⟨bb, mv, cap, B, h1, h2⟩ := h
  exact ⟨false, false, bb, mv, cap, B, h1.wb, h1.bs, h1.cp, by rw [h2.len, List.length_replicate], h1.ms, h2⟩
theorem WhR.sub {w : Nat} {l : List Nat} (h : WhR s w l) (k : Sub s s') : WhR s' w l := by
  obtain ⟨t1, t2, bb, mv, cap, B, h1, h2, h3, h4, h5, h6⟩ := h
  exact ⟨t1, t2, bb, mv, cap, B, k _ _ h1, k _ _ h2, h3, h4, h5.sub k, h6⟩
theorem Sl.frz {l : List AVal} (h : Sl s v l) : Sl (AM.frz s) v l := by
  rcases h with h | ⟨b, o, cap, h1, h2, h3⟩
  · exact .inl h
  · refine .inr ⟨b, o, cap, h1, h2, fun hl => ?_⟩
    obtain ⟨t, e, cs, q1, q2⟩ := h3 hl
    exact ⟨true, e, cs, frz_some q1, q2⟩
theorem WhR.frz {w : Nat} {l : List Nat} (h : WhR s w l) : WhR (AM.frz s) w l := by
  obtain ⟨t1, t2, bb, mv, cap, B, h1, h2, h3, h4, h5, h6⟩ := h
  exact ⟨true, true, bb, mv, cap, B, frz_some h1, frz_some h2, h3, h4, Sl.frz h5, h6⟩
/-- the table of node 'x' -/
structure FibR (s : Heap) (f N : Nat) (G : List Lnk) (U : List Bool) (x : Nat) : Prop where
  ex : ∃ (tf : Bool) (lv ev : AVal) (mb : Nat) (R : List EnV) (tm : Bool) (c : Nat) (ws : List (Nat × Nat)), s f = some (tf, .cells 82 (fibC (N : Int) (x : Int) lv ev mb)) ∧ SlR 2 s ev (R.map enR) ∧ R.map kyE = ofP N G U x N ∧ (∀ y ∈ R, Sl s y.2.1 (iz y.2.2)) ∧
    s mb = some (tm, .map (mE 0 ws) c) ∧ ws.map (·.1) = ndL N G U x ∧ ∀ p ∈ ws, WhR s p.2 (lnk N G U x p.1)
theorem FibR.sub {f x : Nat} (h : FibR s f N G U x) (k : Sub s s') : FibR s' f N G U x := by
  obtain ⟨tf, lv, ev, mb, R, tm, c, ws, h1, h2, h3, h4, h5, h6, h7⟩ := h.ex
  exact ⟨tf, lv, ev, mb, R, tm, c, ws, k _ _ h1, h2.sub k, h3, fun y hy => (h4 y hy).sub k, k _ _ h5, h6, fun p hp => (h7 p hp).sub k⟩
theorem FibR.frz {f x : Nat} (h : FibR s f N G U x) : FibR (AM.frz s) f N G U x := by
  obtain ⟨tf, lv, ev, mb, R, tm, c, ws, h1, h2, h3, h4, h5, h6, h7⟩ := h.ex
  exact ⟨true, lv, ev, mb, R, true, c, ws, frz_some h1, h2.frz, h3, fun y hy => Sl.frz (h4 y hy), frz_some h5, h6, fun p hp => (h7 p hp).frz⟩
end Go.AM.FB
namespace Go.AM.FB
open Go Go.Proofs
variable {K : AVal → Heap → Prop} {s s' s0 t : Heap} {lv uv v y w : AVal} {N : Nat} {G : List Lnk} {U : List Bool} {d : Nat → Int} {L : List RLk}
/-! ### Update: the rounds -/
def offK (H t : Heap) (f rb mb : Nat) : Heap := fun i => if i = f ∨ i = rb ∨ i = mb then t i else H i
def rchL (l : List Nat) : List AVal := (List.range 32).map fun j => .bool (decide (j ∈ l))
theorem rchL_len {l : List Nat} : (rchL l).length = 32 := by unfold rchL; simp
theorem rchL_get {l : List Nat} {n : Nat} (h : n < 32) : (rchL l)[n]? = some (.bool (decide (n ∈ l))) := by unfold rchL; simp [h]
theorem rchL_set {l : List Nat} {n : Nat} (h : n < 32) : (rchL l).set n (.bool true) = rchL (l ++ [n]) := by
  apply List.ext_getElem?
  intro i
  rw [List.getElem?_set]
  by_cases e : n = i
  · subst e
    rw [if_pos rfl, rchL_len, if_pos h, rchL_get h]
    simp
  · rw [if_neg e]
    by_cases q : i < 32
    · rw [rchL_get q, rchL_get q]
      simp [Ne.symm e]
    · rw [List.getElem?_eq_none (by rw [rchL_len]; omega), List.getElem?_eq_none (by rw [rchL_len]; omega)]
theorem AccR.offv {elem : TypeId} {es : Nat} {rows : List (List AVal)} (h : AccR elem es s0 t v rows) : AccR elem es (offV v t) t v rows := by
  refine ⟨h.1, h.2.imp id fun ⟨i, q1, q2, q3⟩ => ⟨i, ?_, q2, q3⟩⟩
  rw [q2]
  exact if_pos rfl
theorem AccR.own {elem : TypeId} {es : Nat} {rows : List (List AVal)} (h : AccR elem es s0 t v rows) {i : Nat} (hi : s0 i ≠ none) : ∀ b o n c e, v = .slc b o n c e → i ≠ b := fun b o n c e q q2 => by
  rcases h.2 with ⟨r, _⟩ | ⟨j, r1, r2, _⟩
  · rw [r] at q; cases q
  · rw [r2] at q; cases q; exact hi (by rw [q2]; exact r1)
theorem iaddrA_ok {rb n : Nat} (h : n < 32) : iaddrA 32 1 (.ptr rb 0) (.int .i64 (n : Int)) = some (.ptr rb n) := by
  have : Nat.blt n 32 = true := by rw [Nat.blt_eq]; exact h
  show (match nat? (.int .i64 (n : Int)) with | some i => cond (Nat.blt i 32) (some (AVal.ptr rb (0 + i * 1))) none | none => none) = _
  rw [nat?_mk]
  simp [this]
structure UpI (sB t : Heap) (f rb mb N : Nat) (G : List Lnk) (U : List Bool) (x : Nat) (lv : AVal) (R : List EnV) (k : Nat) : Prop where
  ex : ∃ (ev : AVal) (ws : List (Nat × Nat)) (H : Heap), ws.map (·.1) = (ndL N G U x).take k ∧ Sub sB H ∧ Sub H t ∧ H f = none ∧ H rb = none ∧ H mb = none ∧ t f = some (false, .cells 82 (fibC (N : Int) (x : Int) lv ev mb)) ∧ t rb = some (false, .cells 90 (rchL ((ndL N G U x).take k))) ∧
    t mb = some (false, .map (mE 0 ws) ws.length) ∧ AccR 89 2 (offK H t f rb mb) t ev ((R.take k).map enR) ∧ ∀ p ∈ ws, Wh H p.2 (lnk N G U x p.1)
theorem step_in {sB : Heap} {f rb mb x k n : Nat} {wv : AVal} {R : List EnV} {J : Heap → Prop} (z : UpI sB t f rb mb N G U x lv R k) (hN : N ≤ 32) (hG : G.length ≤ 64) (hk : (ndL N G U x)[k]? = some n) (hR : R[k]? = some (lbk n, wv, lnk N G U x n)) (hw : Sl sB wv (iz (lnk N G U x n)))
    (hK : ∀ t', UpI sB t' f rb mb N G U x lv R (k + 1) → J t') :
    newK 86 [(.int .u32 0), .nilslc] (fun b_32 s_33 =>
    optK (wrAgg s_33 2 (.ptr b_32 0) (.agg (enR (lbk n, wv, lnk N G U x n)))) fun s_34 =>
    optK (nilCheckA (.ptr f 0)) fun v_35 =>
    optK (addOff 4 v_35) fun v_36 =>
    optK (rd1 s_34 v_36) fun v_37 =>
    optK (rdN s_34 2 (.ptr b_32 0)) fun v_38 =>
    optK (fillR (repl 1 [(.int .u32 0), .nilslc]) [(0, 2, (.agg v_38))]) fun c_39 => allOne c_39 = true ∧ newK 89 c_39 (fun b_40 s_41 =>
    (∀ b, s_34 b ≠ none → s_34 b = none → s_41 b = none) →
    appK 89 2 v_37 (.slc b_40 0 1 (some 1) 2) (fun v_42 s_43 =>
    optK (nilCheckA (.ptr f 0)) fun v_44 =>
    optK (addOff 4 v_44) fun v_45 =>
    optK (wr1 s_43 v_45 v_42) fun s_46 =>
    optK (addOff 0 (.ptr b_32 0)) fun v_47 =>
    optK (rd1 s_46 v_47) fun v_48 =>
    wpCall Try.prog XX 42 [v_48] (fun v_49 s_50 =>
    optK (extractA v_49 0) fun v_51 =>
    optK (extractA v_49 1) fun v_52 =>
    boolK v_52
     (optK (iaddrA 32 1 (.ptr rb 0) v_51) fun v_54 =>
      optK (wr1 s_50 v_54 (.bool true)) fun s_55 =>
      optK (addOff 1 (.ptr b_32 0)) fun v_56 =>
      optK (rd1 s_55 v_56) fun v_57 =>
      wpCall Try.prog XX 43 [(.ptr f 0), v_51, v_57] (fun v_58 s_59 => J s_59) s_55)
     (J s_50)) s_46) (add s_34 s_41)) (frz s_34)) t := by
  obtain ⟨ev, ws, H, hws, hBH, hHt, hHf, hHr, hHm, hf, hr, hm, acc, hwh⟩ := z.ex
  have hnl : n ∈ ndL N G U x := List.mem_of_getElem? hk
  have hn : n < N := (mem_ndL.1 hnl).1
  have hone : wv.one = true := hw.one
  have allone : allOne (enR (lbk n, wv, lnk N G U x n)) = true := by
    show ((AVal.int .u32 (lbk n)).one && (wv.one && true)) = true
    rw [hone]; rfl
  refine new_step fun b32 t1 hb32 h1 u1 => wrAgg_step h1 rfl rfl allone fun t2 h2 u2 => ?_
  have st2 : Sub t t2 := sub_upto (u1.sub hb32) u2 hb32
  have f4 : (fibC (N : Int) (x : Int) lv ev mb)[4]? = some ev := rfl
  have f2 := st2 _ _ hf
  simp only [nilCheck_ptr, addOff_ptr, Nat.zero_add, rd1_mk f2, f4, rdN_all h2 (show (enR (lbk n, wv, lnk N G U x n)).length = 2 from rfl), optK_mk]
  refine optK_of (fill_one (zs := [(.int .u32 0), .nilslc]) (c := enR (lbk n, wv, lnk N G U x n)) rfl) ⟨allone, ?_⟩
  refine newM (l := []) fun b40 s41 hb40 h40 u40 => ?_
  have st3 : Sub t2 (add t2 s41) := u40.sub hb40
  generalize add t2 s41 = t3 at h40 u40 st3
  have st03 := st2.trans st3
  have acc3 := AccR.offv (acc.sub st03)
  have fOff : ∀ {i e}, offK H t f rb mb i = some e → offV ev t3 i = some e := fun {i e} hi => by
    rw [offV_at (AccR.own acc (by rw [hi]; simp))]
    unfold offK at hi
    split at hi
    · exact st03 _ _ hi
    · exact st03 _ _ (hHt _ _ hi)
  have oK1 : ∀ {i}, i = f ∨ i = rb ∨ i = mb → offK H t f rb mb i = t i := fun h => if_pos h
  have oK2 : Sub H (offK H t f rb mb) := fun i e hi => by
    unfold offK
    rw [if_neg]
    · exact hi
    · rintro (q | q | q)
      · rw [q, hHf] at hi; cases hi
      · rw [q, hHr] at hi; cases hi
      · rw [q, hHm] at hi; cases hi
  have cnot : ∀ {i}, t i = none → ∀ b o n c e, ev = .slc b o n c e → i ≠ b := fun {i} hi b o n c e q q2 => by
    rcases acc.2 with ⟨r, _⟩ | ⟨j, _, r2, r3⟩
    · rw [r] at q; cases q
    · rw [r2] at q; cases q; rw [q2, r3] at hi; cases hi
  have h32 : offV ev t3 b32 = some (false, .cells 86 (enR (lbk n, wv, lnk N G U x n))) := by
    rw [offV_at (cnot hb32)]
    exact st3 _ _ h2
  have hkl : R.take k ++ [(lbk n, wv, lnk N G U x n)] = R.take (k + 1) := by rw [List.take_add_one, hR]; rfl
  have hndl : (ndL N G U x).take k ++ [n] = (ndL N G U x).take (k + 1) := by rw [List.take_add_one, hk]; rfl
  have hkn : k < (ndL N G U x).length := (List.getElem?_eq_some_iff.1 hk).1
  have hNl := ndL_len (N := N) (G := G) (U := U) (x := x)
  refine acc3.app (SlR.mk (rows := [enR (lbk n, wv, lnk N G U x n)]) (by intro r hr; rw [List.mem_singleton] at hr; subst hr; rfl) (by simpa using h40) rfl (by simp)) (by simp) (by rw [List.length_map, List.length_take]; simp only [List.length_singleton]; omega) offV_sub fun v' t4 a4 k4 => ?_
  have f4' : t4 f = some (false, .cells 82 (fibC (N : Int) (x : Int) lv ev mb)) := k4 _ _ (fOff (by rw [oK1 (.inl rfl)]; exact hf))
  have r4' : t4 rb = some (false, .cells 90 (rchL ((ndL N G U x).take k))) := k4 _ _ (fOff (by rw [oK1 (.inr (.inl rfl))]; exact hr))
  have m4' : t4 mb = some (false, .map (mE 0 ws) ws.length) := k4 _ _ (fOff (by rw [oK1 (.inr (.inr rfl))]; exact hm))
  have n1 : rb ≠ f := fun e => by rw [e, f4'] at r4'; cases r4'
  have n2 : mb ≠ f := fun e => by rw [e, f4'] at m4'; cases m4'
  have n3 : mb ≠ rb := fun e => by rw [e, r4'] at m4'; cases m4'
  have h4H : Sub H t4 := fun i e hi => k4 _ _ (fOff (oK2 _ _ hi))
  have h32' := k4 _ _ h32
  have n4 : b32 ≠ f := fun e => by rw [e, hf] at hb32; cases hb32
  have n5 : b32 ≠ rb := fun e => by rw [e, hr] at hb32; cases hb32
  try simp only [nilCheck_ptr, addOff_ptr, Nat.zero_add, optK_mk]
  refine wr1_step f4' (show 4 < (fibC (N : Int) (x : Int) lv ev mb).length from by show 4 < 6; omega) a4.sl.one fun t5 h5 u5 => ?_
  have h5 : t5 f = some (false, .cells 82 (fibC (N : Int) (x : Int) lv v' mb)) := h5
  have b5 : t5 b32 = some (false, .cells 86 (enR (lbk n, wv, lnk N G U x n))) := by rw [u5 _ n4]; exact h32'
  have e0 : (enR (lbk n, wv, lnk N G U x n))[0]? = some (.int .u32 (lbk n)) := rfl
  have e1 : (enR (lbk n, wv, lnk N G U x n))[1]? = some wv := rfl
  simp only [rd1_mk b5, e0, optK_mk]
  refine Node_in (by omega) ?_
  have x0 : extractA (.tup [.int .i64 (n : Int), .bool true]) 0 = some (.int .i64 (n : Int)) := rfl
  have x1 : extractA (.tup [.int .i64 (n : Int), .bool true]) 1 = some (.bool true) := rfl
  simp only [x0, x1, boolK_true, iaddrA_ok (show n < 32 by omega), optK_mk]
  have r5 : t5 rb = some (false, .cells 90 (rchL ((ndL N G U x).take k))) := by rw [u5 _ n1]; exact r4'
  refine wr1_step r5 (by rw [rchL_len]; omega) rfl fun t6 h6 u6 => ?_
  rw [rchL_set (by omega), hndl] at h6
  have b6 : t6 b32 = some (false, .cells 86 (enR (lbk n, wv, lnk N G U x n))) := by rw [u6 _ n5]; exact b5
  simp only [rd1_mk b6, e1, optK_mk]
  have f6 : t6 f = some (false, .cells 82 (fibC (N : Int) (x : Int) lv v' mb)) := by rw [u6 _ (Ne.symm n1)]; exact h5
  have m6 : t6 mb = some (false, .map (mE 0 ws) ws.length) := by rw [u6 _ n3, u5 _ n2]; exact m4'
  have H6 : Sub H t6 := fun i e hi => by
    have i1 : i ≠ f := fun q => by rw [q, hHf] at hi; cases hi
    have i2 : i ≠ rb := fun q => by rw [q, hHr] at hi; cases hi
    rw [u6 _ i2, u5 _ i1]
    exact h4H _ _ hi
  have nin : n ∉ ws.map (·.1) := by
    rw [hws]
    intro q
    have := ndL_asc (N := N) (G := G) (U := U) (x := x)
    obtain ⟨j, hj⟩ := List.mem_iff_getElem?.1 q
    rw [List.getElem?_take] at hj
    split at hj
    · rename_i hjk
      obtain ⟨a1, a2⟩ := List.getElem?_eq_some_iff.1 hj
      obtain ⟨c1, c2⟩ := List.getElem?_eq_some_iff.1 hk
      have := List.pairwise_iff_getElem.1 this j k a1 c1 hjk
      omega
    · cases hj
  refine turn_in f6 m6 nin ((hw.sub hBH).sub H6) lnk_asc (fun i hi => by have := lnk_lt hi; omega) (Nat.le_trans lnk_len hG) (mem_ndL.1 hnl).2 fun t7 w hw7 m7 k7 wh7 => ?_
  -- the list's block
  have cb : ∃ c, v' = .slc c 0 ((R.take k).map enR ++ [enR (lbk n, wv, lnk N G U x n)]).length none 2 ∧ offV ev t3 c = none ∧ t4 c = some (false, .cells 89 ((R.take k).map enR ++ [enR (lbk n, wv, lnk N G U x n)]).flatten) := by
    rcases a4.2 with ⟨_, q⟩ | ⟨c, q1, q2, q3⟩
    · simp at q
    · exact ⟨c, q2, q1, q3⟩
  obtain ⟨c, hv', hc0, hc4⟩ := cb
  have hcf : c ≠ f := fun e => by rw [e, f4'] at hc4; cases hc4
  have hcr : c ≠ rb := fun e => by rw [e, r4'] at hc4; cases hc4
  have hcm : c ≠ mb := fun e => by rw [e, m4'] at hc4; cases hc4
  have hcH : H c = none := by
    cases q : H c with
    | none => rfl
    | some e => rw [fOff (oK2 _ _ q)] at hc0; cases hc0
  have c6 : t6 c = some (false, .cells 89 ((R.take k).map enR ++ [enR (lbk n, wv, lnk N G U x n)]).flatten) := by rw [u6 _ hcr, u5 _ hcf]; exact hc4
  have c7 := k7 _ _ c6 hcm
  have f7 := k7 _ _ f6 (fun e => n2 e.symm)
  have r7 := k7 _ _ h6 (fun e => n3 e.symm)
  have HH : Sub H fun i => if i = f ∨ i = rb ∨ i = mb ∨ i = c then none else t7 i := fun i e hi => by
    show (if i = f ∨ i = rb ∨ i = mb ∨ i = c then none else t7 i) = some e
    have im : i ≠ mb := fun q => by rw [q, hHm] at hi; cases hi
    rw [if_neg]
    · exact k7 _ _ (H6 _ _ hi) im
    · rintro (q | q | q | q)
      · rw [q, hHf] at hi; cases hi
      · rw [q, hHr] at hi; cases hi
      · rw [q, hHm] at hi; cases hi
      · rw [q, hcH] at hi; cases hi
  refine hK t7 ⟨⟨v', ws ++ [(n, w)], fun i => if i = f ∨ i = rb ∨ i = mb ∨ i = c then none else t7 i, ?_, hBH.trans HH, ?_, by simp, by simp, by simp, f7, r7, m7, ⟨?_, .inr ⟨c, ?_, ?_, ?_⟩⟩, ?_⟩⟩
  · rw [List.map_append, hws, ← hndl]; rfl
  · intro i e hi
    have hi : (if i = f ∨ i = rb ∨ i = mb ∨ i = c then none else t7 i) = some e := hi
    split at hi
    · cases hi
    · exact hi
  · intro r hr
    obtain ⟨y, _, rfl⟩ := List.mem_map.1 hr
    rfl
  · show (if c = f ∨ c = rb ∨ c = mb then t7 c else if c = f ∨ c = rb ∨ c = mb ∨ c = c then none else t7 c) = none
    rw [if_neg (by rintro (q | q | q) <;> contradiction), if_pos (.inr (.inr (.inr rfl)))]
  · rw [hv', ← hkl, List.map_append]; rfl
  · rw [← hkl, List.map_append]; exact c7
  · intro p hp
    rcases List.mem_append.1 hp with q | q
    · exact (hwh p q).sub HH
    · rw [List.mem_singleton] at q
      subst q
      refine wh7 _ fun i e hi hie => ?_
      show (if i = f ∨ i = rb ∨ i = mb ∨ i = c then none else t7 i) = some e
      rw [if_neg]
      · exact hie
      · rintro (q | q | q | q)
        · rw [q, f6] at hi; cases hi
        · rw [q, h6] at hi; cases hi
        · rw [q, m6] at hi; cases hi
        · rw [q, c6] at hi; cases hi
end Go.AM.FB
namespace Go.AM.FB
open Go Go.Proofs
variable {K : AVal → Heap → Prop} {s s' s0 t : Heap} {lv uv v y w : AVal} {N : Nat} {G : List Lnk} {U : List Bool} {d : Nat → Int} {L : List RLk}
/-! ### Update: a table that is new is filled -/
def shS : List AVal := [.tup [.bool true, .int .i64 0, .ptr 0 0], .bool true, .tup [.int .i64 0, .ptr 0 0], .int .i64 0, .ptr 0 0, .int .i64 0, .ptr 0 0, .int .i64 0, .ptr 0 0, .bool true, .bool true, .undef, .undef]
def shT : List AVal := [.tup [.bool false], .bool false, .tup [.int .i64 0, .ptr 0 0], .int .i64 0, .ptr 0 0, .int .i64 0, .ptr 0 0, .int .i64 0, .ptr 0 0, .bool true, .bool true, .undef, .undef]
theorem undefs {a b c d e f g h i j k l m : AVal} (hq : [a, b, c, d, e, f, g, h, i, j, k, l, m] = [.undef, .undef, .undef, .undef, .undef, .undef, .undef, .undef, .undef, .undef, .undef, .undef, .undef] ∨ shEs [a, b, c, d, e, f, g, h, i, j, k, l, m] shS = true) : shE l .undef = true ∧ shE m .undef = true := by
  rcases hq with q | q
  · simp only [List.cons.injEq, and_true] at q
    obtain ⟨_, _, _, _, _, _, _, _, _, _, _, q1, q2⟩ := q
    rw [q1, q2]
    exact ⟨rfl, rfl⟩
  · unfold shS at q
    simp only [shEs, Bool.and_eq_true, and_true] at q
    obtain ⟨_, _, _, _, _, _, _, _, _, _, _, q1, q2⟩ := q
    exact ⟨q1, q2⟩
theorem shS_T {a b c d e f g h i j k l m : AVal} (hq : shEs [a, b, c, d, e, f, g, h, i, j, k, l, m] shS = true) : shEs [.tup [.bool false], .bool false, c, d, e, f, g, h, i, j, k, l, m] shT = true := by
  unfold shS at hq
  unfold shT
  simp only [shEs, Bool.and_eq_true, and_true] at hq ⊢
  obtain ⟨_, _, q⟩ := hq
  exact ⟨rfl, rfl, q⟩
theorem Update_in {f mb x : Nat} (hv : vld (N : Int) L U) (hx : x < N) (hG : L.length ≤ 64) (h0 : Sub s0 s) (hf0 : s0 f = none) (hm0 : s0 mb = none) (hf : s f = some (false, .cells 82 (fibC (N : Int) (x : Int) lv .nilslc mb))) (hm : s mb = some (false, .map [] 0))
    (hl : SlR 3 s lv (L.map rwR)) (hlf : ∀ b o n c, lv = .slc b o n c 3 → L.map rwR ≠ [] → b ≠ f ∧ b ≠ mb) (hu : Sl s0 uv (U.map AVal.bool))
    (hK : ∀ s', Sub s0 s' → FibR s' f N (L.map toL) U x → K (.int .i64 0) s') : wpCall Try.prog XX 22 [.ptr f 0, uv] K s := by
  have hN := hv.1
  obtain ⟨z, hG2, hN32, hC, hrw⟩ := vld.gok hv
  refine vc_fib_Fib_Update_in (valid_in hf (by omega) ?_)
  have c3 : (fibC (N : Int) (x : Int) lv .nilslc mb)[3]? = some lv := rfl
  have c0 : (fibC (N : Int) (x : Int) lv .nilslc mb)[0]? = some (.int .i64 (N : Int)) := rfl
  have c1 : (fibC (N : Int) (x : Int) lv .nilslc mb)[1]? = some (.int .i64 (x : Int)) := rfl
  have eul : U.length = L.length := hv.2.2.2.1
  simp only [unary_not, Bool.not_true, boolK_false, (hu.sub h0).len, List.length_map, nilCheck_ptr, addOff_ptr, Nat.zero_add, rd1_mk hf, c3, hl.len, eqV_int, negB_mk, eul, beq_self_eq_true, Bool.true_bne, optK_mk]
  refine wr1_step hf (show 4 < (fibC (N : Int) (x : Int) lv .nilslc mb).length from by show 4 < 6; omega) rfl fun s1 h1 u1 => ?_
  have h1 : s1 f = some (false, .cells 82 (fibC (N : Int) (x : Int) lv .nilslc mb)) := h1
  have fm : mb ≠ f := fun e => by rw [e, hf] at hm; cases hm
  have m1 : s1 mb = some (false, .map [] 0) := by rw [u1 _ fm]; exact hm
  have h01 : Sub s0 s1 := fun i e hi => by
    rw [u1 _ (fun q => by rw [q, hf0] at hi; cases hi)]
    exact h0 _ _ hi
  have hl1 : SlR 3 s1 lv (L.map rwR) := hl.keep (fp := fun b => b = f) (u1.keep rfl) fun b o n c e hne => (hlf b o n c e hne).1
  refine new_step fun rb s2 hrb h2 u2 => ?_
  have sub2 := u2.sub hrb
  have rf : rb ≠ f := fun e => by rw [e, h1] at hrb; cases hrb
  have rm : rb ≠ mb := fun e => by rw [e, m1] at hrb; cases hrb
  have f2 := sub2 _ _ h1
  have m2 := sub2 _ _ m1
  simp only [rd1_mk f2, c3, c0, c1, optK_mk]
  refine sOf_in (hl1.sub sub2) (by omega) ((hu.sub h01).sub sub2) fun ov s3 R en hRk => ?_
  have sub3 := en.sub
  have hRk : R.map kyE = ofP N (L.map toL) U x N := by
    rw [hRk]
    unfold ofEn
    rw [if_pos ⟨hv, by omega, by omega⟩, Int.toNat_natCast, Int.toNat_natCast]
  have hRn := hRk.trans (ofP_all (N := N) (G := L.map toL) (U := U) (x := x))
  have hRlen : R.length = (ndL N (L.map toL) U x).length := by have := congrArg List.length hRn; simpa using this
  obtain ⟨sb, kb1, kb2, acc, hrows⟩ := en.ex
  have slo := acc.sl
  have f3 := sub3 _ _ f2
  have m3 := sub3 _ _ m2
  have r3 := sub3 _ _ h2
  -- what stays as it is
  have hB : ∃ sB : Heap, sB = fun i => if i = f ∨ i = rb ∨ i = mb then none else s3 i := ⟨_, rfl⟩
  obtain ⟨sB, hB⟩ := hB
  have bOut : ∀ {i}, s2 i = none ∨ ¬ (i = f ∨ i = rb ∨ i = mb) → sB i = s3 i := fun {i} h => by
    rw [hB]
    show (if i = f ∨ i = rb ∨ i = mb then none else s3 i) = _
    rw [if_neg]
    rcases h with h | h
    · rintro (q | q | q)
      · rw [q, f2] at h; cases h
      · rw [q, h2] at h; cases h
      · rw [q, m2] at h; cases h
    · exact h
  have hBs : Sub sB s3 := fun i e hi => by
    rw [hB] at hi
    have hi : (if i = f ∨ i = rb ∨ i = mb then none else s3 i) = some e := hi
    split at hi
    · cases hi
    · exact hi
  have slB : SlR 2 sB ov (R.map enR) := by
    refine ⟨acc.1, ?_⟩
    rcases acc.2 with q | ⟨b, q1, q2, q3⟩
    · exact .inl q
    · have := AccR.sl (s := sB) (s0 := sb) (elem := 86) ⟨acc.1, .inr ⟨b, q1, q2, by rw [bOut (.inl (fresh_of kb1 q1))]; exact q3⟩⟩
      exact this.2
  have slW : ∀ y ∈ R, Sl sB y.2.1 (iz y.2.2) := fun y hy => by
    rcases hrows y hy with ⟨q1, q2⟩ | ⟨b, q1, q2, q3⟩
    · exact .inl ⟨q1, q2⟩
    · have := Acc.sl (s := sB) (s0 := s2) (elem := 3) (v := y.2.1) (l := iz y.2.2) (.inr ⟨b, q1, q2, by rw [bOut (.inl q1)]; exact kb2 _ _ q3⟩)
      exact this
  have rows : ∀ {k n : Nat}, (ndL N (L.map toL) U x)[k]? = some n → ∃ wv, R[k]? = some (lbk n, wv, lnk N (L.map toL) U x n) := fun {k n} hk => by
    have := congrArg (fun l => l[k]?) hRn
    simp only [List.getElem?_map, hk, Option.map_some] at this
    cases hR : R[k]? with
    | none => rw [hR] at this; cases this
    | some y =>
      rw [hR] at this
      obtain ⟨a, b, c⟩ := y
      have this : some (a, c) = some (lbk n, lnk N (L.map toL) U x n) := this
      cases this
      exact ⟨b, rfl⟩
  have hGL : (L.map toL).length ≤ 64 := by rw [List.length_map]; exact hG
  have hNl := ndL_len (N := N) (G := L.map toL) (U := U) (x := x)
  have start : UpI sB s3 f rb mb N (L.map toL) U x lv R 0 := ⟨⟨.nilslc, [], sB, rfl, .refl _, hBs, by rw [hB]; simp, by rw [hB]; simp, by rw [hB]; simp, f3, r3, m3, ⟨(fun r h => by cases h), .inl ⟨rfl, rfl⟩⟩, fun p hp => by cases hp⟩⟩
  simp only [slo.len, List.length_map, optK_mk]
  refine ⟨fun ys t m => ∃ k : Nat, ys = [.int .i64 k] ∧ k ≤ R.length ∧ m = R.length - k ∧ UpI sB t f rb mb N (L.map toL) U x lv R k, ⟨_, 0, rfl, by omega, rfl, start⟩, ?_⟩
  rintro g t m ⟨k, hy, hk, rfl, up⟩
  simp only [List.cons.injEq, and_true] at hy
  rw [hy]
  simp only [vc_fib_Fib_Update_l0, arith_lss, optK_mk]
  refine boolK_mk (fun hlt => ?_) (fun hge => ?_)
  · have hlt : k < R.length := by have := of_decide_eq_true hlt; omega
    obtain ⟨n, hn⟩ : ∃ n, (ndL N (L.map toL) U x)[k]? = some n := ⟨_, List.getElem?_eq_getElem (by omega)⟩
    obtain ⟨wv, hR⟩ := rows hn
    have hBt : Sub sB t := by
      obtain ⟨ev, ws, H, _, q1, q2, _⟩ := up.ex
      exact q1.trans q2
    obtain ⟨pb, po, e1, e2, _⟩ := (slB.sub hBt).get (i := k) (r := enR (lbk n, wv, lnk N (L.map toL) U x n)) (by rw [List.getElem?_map, hR]; rfl)
    simp only [e1, e2, optK_mk]
    refine step_in (J := fun t' => vc_fib_Fib_Update_j1 XX (.int .i64 (k : Int)) _ _ K t') up hN32 hGL hn hR (slW _ (List.mem_of_getElem? hR)) fun t' up' => ?_
    show vc_fib_Fib_Update_j1 XX (.int .i64 (k : Int)) _ _ K t'
    simp only [vc_fib_Fib_Update_j1, arith_add, optK_mk]
    rw [wrap64 (by omega) (by omega)]
    exact ⟨_, by omega, k + 1, rfl, by omega, rfl, up'⟩
  · have hge : k = R.length := by have := of_decide_eq_false hge; omega
    subst hge
    obtain ⟨ev, ws, H, hws, q1, q2, hHf, hHr, hHm, tf, tr, tm, ta, hwh⟩ := up.ex
    have hk2 : (ndL N (L.map toL) U x).take R.length = ndL N (L.map toL) U x := by rw [hRlen, List.take_length]
    rw [hk2] at hws tr
    rw [List.take_length] at ta
    have c5 : (fibC (N : Int) (x : Int) lv ev mb)[5]? = some (.map mb) := rfl
    have done : FibR t f N (L.map toL) U x := ⟨⟨false, lv, ev, mb, R, false, ws.length, ws, tf, ta.sl, hRk, fun y hy => ((slW y hy).sub q1).sub q2, tm, hws, fun p hp => ((hwh p hp).sub q2).rd⟩⟩
    have h0B : Sub s0 sB := fun i e hi => by
      have h2i := sub2 _ _ (h01 _ _ hi)
      have ir : i ≠ rb := fun q => by
        rw [q] at hi
        rw [h01 _ _ hi] at hrb; cases hrb
      rw [bOut (.inr ?_)]
      · exact sub3 _ _ h2i
      · rintro (q | q | q)
        · rw [q, hf0] at hi; cases hi
        · exact ir q
        · rw [q, hm0] at hi; cases hi
    have fin := hK t (h0B.trans (q1.trans q2)) done
    simp only [nilCheck_ptr, addOff_ptr, Nat.zero_add, rd1_mk tf, c5, optK_mk]
    unfold iterK
    simp only [tm]
    intro r hr
    have rmb : r ≠ mb := fun e => by rw [e, tm] at hr; cases hr
    have rrb : r ≠ rb := fun e => by rw [e, tr] at hr; cases hr
    have sr : hset t r (false, .iter (some mb) ws.length [] ws.length) r = some (false, .iter (some mb) ws.length [] ws.length) := by simp [hset]
    have sm : hset t r (false, .iter (some mb) ws.length [] ws.length) mb = some (false, .map (mE 0 ws) ws.length) := by
      rw [hset_other (Ne.symm rmb)]
      exact tm
    have hd : hdel (hset t r (false, .iter (some mb) ws.length [] ws.length)) r = t := by
      funext i
      unfold hdel hset
      by_cases q : i = r
      · rw [if_pos q, q, hr]
      · rw [if_neg q, if_neg q]
    have wl : ws.length ≤ 32 := by
      have := congrArg List.length hws
      rw [List.length_map] at this
      omega
    refine optK_of (a := (r, some mb, ws.length, ws.length, mE 0 ws)) ?_ ?_
    · unfold iterOf
      simp only [sr, sm]
      have a1 : Nat.ble ws.length ws.length = true := Nat.ble_eq_true_of_le (Nat.le_refl _)
      have a2 : allOld ws.length (mE 0 ws) = true := mE_old (by omega)
      have a3 : Nat.blt (mE 0 ws).length 900 = true := by rw [Nat.blt_eq, mE_len]; omega
      simp only [a1, a2, a3, Bool.and_self, cond_true]
    refine ⟨shS, shT, fun e he sn hsn g hg => ?_, fun g hg => ?_, fun g => ?_⟩
    · simp only [boolK_true, hd]
      obtain ⟨p, hp, ek, ev', _⟩ := mE_mem he
      have hpn : p.1 ∈ ndL N (L.map toL) U x := by rw [← hws]; exact List.mem_map.2 ⟨p, hp, rfl⟩
      have hp32 : p.1 < 32 := by have := (mem_ndL.1 hpn).1; omega
      have fr : frz (hset t r (true, .iter (some mb) ws.length sn ws.length)) r = some (true, .iter (some mb) ws.length sn ws.length) := by
        refine frz_some (t := true) ?_
        simp [hset]
      have fmb : frz (hset t r (true, .iter (some mb) ws.length sn ws.length)) mb = some (true, .map (mE 0 ws) ws.length) := by
        refine frz_some (t := false) ?_
        rw [hset_other (Ne.symm rmb)]
        exact tm
      have frb : frz (hset t r (true, .iter (some mb) ws.length sn ws.length)) rb = some (true, .cells 90 (rchL (ndL N (L.map toL) U x))) := by
        refine frz_some (t := false) ?_
        rw [hset_other (Ne.symm rrb)]
        exact tr
      have hent : entD (frz (hset t r (true, .iter (some mb) ws.length sn ws.length))) (.ptr r 0) = some (.tup [e.key, e.val]) := by
        unfold entD
        simp only [fr, hsn, fmb, Nat.beq_refl, cond_true, mE_born he]
      have x0 : extractA (.tup [e.key, e.val]) 0 = some e.key := rfl
      have x1 : extractA (.tup [e.key, e.val]) 1 = some e.val := rfl
      have hrd : rd1 (frz (hset t r (true, .iter (some mb) ws.length sn ws.length))) (.ptr rb p.1) = some (.bool true) := by
        rw [rd1_mk frb, rchL_get hp32, decide_eq_true hpn]
      simp only [hent, x0, x1, optK_mk]
      rw [ek, ev']
      simp only [iaddrA_ok hp32, hrd, unary_not, Bool.not_true, boolK_false, optK_mk]
      obtain ⟨l1, l2⟩ := undefs hg
      refine ⟨by trivial, ?_⟩
      unfold shS
      simp only [shEs, l1, l2, Bool.and_true]
      rfl
    · simp only [boolK_false]
      refine ⟨by trivial, fun hne => ?_⟩
      rcases hg with ⟨q, _⟩ | ⟨_, q⟩
      · exact absurd q hne
      · exact shS_T q
    · rw [hd]
      exact fin
end Go.AM.FB
namespace Go.AM.FB
open Go Go.Proofs
variable {K : AVal → Heap → Prop} {s s' s0 t : Heap} {lv uv v y w : AVal} {N : Nat} {G : List Lnk} {U : List Bool} {d : Nat → Int} {L : List RLk}
/-! ### find, Lookup, Reach -/
theorem half_mk {w : Nat} (h : w ≤ 1000000) : convI .u64 (.int .i64 (w : Int)) = some (.int .u64 (w : Int)) ∧ shiftV .shr (.int .u64 (w : Int)) (.int .u64 1) = some (.int .u64 ((w / 2 : Nat) : Int)) ∧ convI .i64 (.int .u64 ((w / 2 : Nat) : Int)) = some (.int .i64 ((w / 2 : Nat) : Int)) := by
  refine ⟨?_, ?_, ?_⟩
  · show some (AVal.int .u64 (wrapK .u64 (w : Int))) = _
    rw [show wrapK .u64 (w : Int) = w by simp only [wrapK]; rw [wrapM_eq _ _ _ (by omega) (by omega)]; split <;> omega]
  · show frc ((w : Int).fdiv ((2 ^ (min 1 (IntKind.bits .u64)) : Nat) : Int)) (fun n => some (AVal.int .u64 n)) = _
    rw [frc_eq, Nat.min_eq_left (show 1 ≤ IntKind.bits .u64 by decide), Int.fdiv_eq_ediv_of_nonneg _ (Int.natCast_nonneg _), ← Int.natCast_ediv]
  · show some (AVal.int .i64 (wrapK .i64 ((w / 2 : Nat) : Int))) = _
    rw [show wrapK .i64 ((w / 2 : Nat) : Int) = ((w / 2 : Nat) : Int) by simp only [wrapK]; rw [wrapM_eq _ _ _ (by omega) (by omega)]; split <;> omega]
theorem cmp_in {a b : Int} (hK : K (.int .i64 (if a < b then -1 else if b < a then 1 else 0)) s) : wpCall Try.prog XX 82 [.int .u32 a, .int .u32 b] K s := by
  refine vc_cmp_Compare_api_IP__in (vc_cmp_isNaN_api_IP__in ?_)
  simp only [vc_cmp_isNaN_api_IP_, eqV_int, negB_mk, beq_self_eq_true, Bool.true_bne, Bool.not_true, optK_mk]
  refine vc_cmp_isNaN_api_IP__in ?_
  simp only [vc_cmp_isNaN_api_IP_, eqV_int, negB_mk, beq_self_eq_true, Bool.true_bne, Bool.not_true, optK_mk, boolK_false, arith_lss, arith_gtr]
  by_cases c : a < b
  · rw [if_pos c] at hK
    rw [decide_eq_true c, boolK_true]
    exact hK
  · rw [if_neg c] at hK
    rw [decide_eq_false c, boolK_false]
    by_cases c2 : b < a
    · rw [if_pos c2] at hK
      rw [decide_eq_true c2, boolK_true]
      exact hK
    · rw [if_neg c2] at hK
      rw [decide_eq_false c2, boolK_false]
      exact hK
theorem ecmp_in {a b : Int} {wv : AVal} (hw : wv.one = true) (hK : ∀ s', Sub s s' → K (.int .i64 (if a < b then -1 else if b < a then 1 else 0)) s') : funK Try.prog XX (.fn (.func 69) [] []) [.agg [.int .u32 a, wv], .int .u32 b] K s := by
  refine fn_in (k := 69) (first := []) (cap := []) (by kernel_rfl) ?_
  show wpCall Try.prog XX 69 [.agg [.int .u32 a, wv], .int .u32 b] K s
  refine vc_fib_entry_compare_in ⟨?_, new_step fun b s1 hb h1 u1 => ?_⟩
  · show ((AVal.int .u32 a).one && (wv.one && true)) = true
    rw [hw]; rfl
  · have e0 : [AVal.int .u32 a, wv][0]? = some (.int .u32 a) := rfl
    have h1 : s1 b = some (false, .cells 89 [.int .u32 a, wv]) := h1
    simp only [addOff_ptr, Nat.zero_add, rd1_mk h1, e0, optK_mk]
    exact cmp_in (hK _ (u1.sub hb))
/-- entries that lie in order -/
def Ord (R : List EnV) : Prop := (R.map (·.1)).Pairwise (· < ·)
theorem Ord.lt {R : List EnV} (h : Ord R) {i j : Nat} {a b : EnV} (hi : R[i]? = some a) (hj : R[j]? = some b) (hij : i < j) : a.1 < b.1 := by
  unfold Ord at h
  obtain ⟨x1, x2⟩ := List.getElem?_eq_some_iff.1 hi
  obtain ⟨y1, y2⟩ := List.getElem?_eq_some_iff.1 hj
  have := List.pairwise_iff_getElem.1 h i j (by simpa using x1) (by simpa using y1) hij
  simp only [List.getElem_map, x2, y2] at this
  exact this
theorem Search_in {R : List EnV} {q : Int} {ev : AVal} (he : SlR 2 s ev (R.map enR)) (ho : Ord R) (hl : R.length ≤ 1000) (hw : ∀ y ∈ R, y.2.1.one = true)
    (hK : ∀ s' (i : Nat) (b : Bool), Sub s s' → (b = true → ∃ y, R[i]? = some y ∧ y.1 = q) → (b = false → ∀ y ∈ R, y.1 ≠ q) → K (.tup [.int .i64 (i : Int), .bool b]) s') : wpCall Try.prog XX 68 [ev, .int .u32 q, .fn (.func 69) [] []] K s := by
  refine vs_BinarySearchFunc___fib_entry_fib_entry_api_IP__in ?_
  simp only [vs_BinarySearchFunc___fib_entry_fib_entry_api_IP_, he.len, List.length_map, optK_mk]
  refine ⟨fun ys t m => ∃ i j : Nat, ys = [.int .i64 i, .int .i64 j] ∧ i ≤ j ∧ j ≤ R.length ∧ m = j - i ∧ Sub s t ∧ (∀ k a, R[k]? = some a → k < i → a.1 < q) ∧ ∀ k a, R[k]? = some a → j ≤ k → q ≤ a.1, ⟨_, 0, R.length, rfl, by omega, by omega, rfl, .refl s, fun k a _ h => by omega, fun k a h1 h2 => by rw [List.getElem?_eq_none h2] at h1; cases h1⟩, ?_⟩
  rintro f t m ⟨i, j, hy, hij, hj, rfl, st, hlo, hhi⟩
  simp only [List.cons.injEq, and_true] at hy
  rw [hy.1, hy.2]
  simp only [vs_BinarySearchFunc___fib_entry_fib_entry_api_IP__l0, arith_lss, optK_mk]
  refine boolK_mk (fun hlt => ?_) (fun hge => ?_)
  · have hlt : i < j := by have := of_decide_eq_true hlt; omega
    have a1 : arithV .add (.int .i64 (i : Int)) (.int .i64 (j : Int)) = some (.int .i64 ((i + j : Nat) : Int)) := by
      rw [arith_add, wrap64 (by omega) (by omega)]
      congr 2
    obtain ⟨g1, g2, g3⟩ := half_mk (w := i + j) (by omega)
    have hh : (i + j) / 2 < R.length := by omega
    obtain ⟨y, hy⟩ : ∃ y, R[(i + j) / 2]? = some y := ⟨_, List.getElem?_eq_getElem hh⟩
    obtain ⟨pb, po, e1, e2, _⟩ := (he.sub st).get (i := (i + j) / 2) (r := enR y) (by rw [List.getElem?_map, hy]; rfl)
    simp only [a1, g1, g2, g3, e1, e2, optK_mk]
    refine ecmp_in (a := y.1) (hw y (List.mem_of_getElem? hy)) fun t' st' => ?_
    simp only [arith_lss, optK_mk]
    refine boolK_mk (fun c => ?_) (fun c => ?_)
    · have c : y.1 < q := by
        have c := of_decide_eq_true c
        by_cases h : y.1 < q
        · exact h
        · rw [if_neg h] at c
          split at c <;> omega
      simp only [arith_add, optK_mk]
      rw [wrap64 (by omega) (by omega)]
      refine ⟨_, ?_, (i + j) / 2 + 1, j, rfl, by omega, hj, rfl, st.trans st', fun k a hk hki => ?_, hhi⟩
      · omega
      · by_cases e : k = (i + j) / 2
        · rw [e, hy] at hk; cases hk; exact c
        · have := ho.lt hk hy (by omega)
          omega
    · have c : ¬ y.1 < q := fun h => by
        have c := of_decide_eq_false c
        rw [if_pos h] at c
        omega
      refine ⟨_, ?_, i, (i + j) / 2, rfl, by omega, by omega, rfl, st.trans st', hlo, fun k a hk hki => ?_⟩
      · omega
      · by_cases e : k = (i + j) / 2
        · rw [e, hy] at hk; cases hk; omega
        · have := ho.lt hy hk (by omega)
          omega
  · have hge : i = j := by have := of_decide_eq_false hge; omega
    subst hge
    refine boolK_mk (fun c => ?_) (fun c => ?_)
    · have c' : i < R.length := by have := of_decide_eq_true c; omega
      obtain ⟨y, hy⟩ : ∃ y, R[i]? = some y := ⟨_, List.getElem?_eq_getElem c'⟩
      obtain ⟨pb, po, e1, e2, _⟩ := (he.sub st).get (i := i) (r := enR y) (by rw [List.getElem?_map, hy]; rfl)
      simp only [e1, e2, optK_mk]
      refine ecmp_in (a := y.1) (hw y (List.mem_of_getElem? hy)) fun t' st' => ?_
      rw [c]
      simp only [eqV_int, negB_mk, Bool.false_bne, optK_mk, vs_BinarySearchFunc___fib_entry_fib_entry_api_IP__j1, pickV_true]
      have hq := hhi i y hy (Nat.le_refl _)
      refine hK t' i _ (st.trans st') (fun b => ⟨y, hy, ?_⟩) fun b a ha ea => ?_
      · have b := eq_of_beq b
        by_cases h : q < y.1
        · rw [if_neg (by omega), if_pos h] at b; omega
        · omega
      · obtain ⟨k, hk⟩ := List.mem_iff_getElem?.1 ha
        have hki : k = i := by
          by_cases e : k < i
          · have := hlo k a hk e; omega
          · by_cases e2 : i < k
            · have := ho.lt hy hk e2; omega
            · omega
        rw [hki, hy] at hk
        cases hk
        rw [if_neg (by omega), if_neg (by omega)] at b
        simp at b
    · have c' : i = R.length := by have := of_decide_eq_false c; omega
      rw [c]
      simp only [vs_BinarySearchFunc___fib_entry_fib_entry_api_IP__j1, pickV_false, optK_mk]
      refine hK t i _ st (fun b => by cases b) fun _ a ha ea => ?_
      obtain ⟨k, hk⟩ := List.mem_iff_getElem?.1 ha
      have := hlo k a hk (by have := (List.getElem?_eq_some_iff.1 hk).1; omega)
      omega
end Go.AM.FB
namespace Go.AM.FB
open Go Go.Proofs
variable {K : AVal → Heap → Prop} {s s' s0 t : Heap} {lv uv v y w : AVal} {N : Nat} {G : List Lnk} {U : List Bool} {d : Nat → Int} {L : List RLk}
/-- what a table has, for one who reads it -/
theorem FibR.ord {R : List EnV} {x : Nat} (hR : R.map kyE = ofP N G U x N) : Ord R ∧ R.map (·.1) = (ndL N G U x).map lbk := by
  have e1 : R.map (·.1) = (R.map kyE).map (·.1) := by rw [List.map_map]; rfl
  have e2 : R.map (·.1) = (ndL N G U x).map lbk := by rw [e1, hR, ofP_all, List.map_map]; rfl
  refine ⟨?_, e2⟩
  unfold Ord
  rw [e2, List.pairwise_map]
  exact ndL_asc.imp fun h => by unfold lbk; omega
theorem lbk_inj {a b : Nat} (h : lbk a = lbk b) : a = b := by unfold lbk at h; omega
theorem FibR.row {R : List EnV} {x : Nat} (hR : R.map kyE = ofP N G U x N) {y : EnV} (hy : y ∈ R) : ∃ n ∈ ndL N G U x, y.1 = lbk n ∧ y.2.2 = lnk N G U x n := by
  have : kyE y ∈ R.map kyE := List.mem_map.2 ⟨y, hy, rfl⟩
  rw [hR, ofP_all] at this
  obtain ⟨n, hn, e⟩ := List.mem_map.1 this
  obtain ⟨a, b, c⟩ := y
  have e : (lbk n, lnk N G U x n) = (a, c) := e
  cases e
  exact ⟨n, hn, rfl, rfl⟩
theorem FibR.has {R : List EnV} {x n : Nat} (hR : R.map kyE = ofP N G U x N) (hn : n ∈ ndL N G U x) : ∃ y ∈ R, y.1 = lbk n := by
  have : lbk n ∈ R.map (·.1) := by rw [(FibR.ord hR).2]; exact List.mem_map.2 ⟨n, hn, rfl⟩
  obtain ⟨y, hy, e⟩ := List.mem_map.1 this
  exact ⟨y, hy, e⟩
theorem find_in {f x : Nat} {q : Int} (h : FibR s f N G U x) (hN : N ≤ 32)
    (hK : ∀ s' (a : Int) (wv : AVal) (b : Bool), Sub s s' → (b = true → ∃ n ∈ ndL N G U x, q = lbk n ∧ Sl s wv (iz (lnk N G U x n))) → (b = false → wv = .nilslc ∧ ∀ n ∈ ndL N G U x, q ≠ lbk n) → wv.one = true → K (.tup [.agg [.int .u32 a, wv], .bool b]) s') : wpCall Try.prog XX 45 [.ptr f 0, .int .u32 q] K s := by
  obtain ⟨tf, lv, ev, mb, R, tm, c, ws, h1, h2, h3, h4, h5, h6, h7⟩ := h.ex
  have hRl : R.length ≤ 32 := by
    have := congrArg List.length h3
    rw [List.length_map] at this
    have := ofP_len (N := N) (G := G) (U := U) (x := x) (k := N)
    omega
  refine vc_fib_Fib_find_in (new_step fun b0 s1 hb0 hb1 u1 => ?_)
  have sub1 := u1.sub hb0
  have f1 := sub1 _ _ h1
  have c4 : (fibC (N : Int) (x : Int) lv ev mb)[4]? = some ev := rfl
  simp only [nilCheck_ptr, addOff_ptr, Nat.zero_add, rd1_mk f1, c4, optK_mk]
  refine Search_in (h2.sub sub1) (FibR.ord h3).1 (by omega) (fun y hy => (h4 y hy).one) fun s2 i b sub2 hyes hno => ?_
  have b2 := sub2 _ _ hb1
  have x0 : extractA (.tup [.int .i64 (i : Int), .bool b]) 0 = some (.int .i64 (i : Int)) := rfl
  have x1 : extractA (.tup [.int .i64 (i : Int), .bool b]) 1 = some (.bool b) := rfl
  simp only [x0, x1, unary_not, optK_mk]
  cases b with
  | false =>
    simp only [Bool.not_false, boolK_true]
    refine optK_of (a := [.int .u32 0, .nilslc]) rfl (wrAgg_step b2 rfl rfl rfl fun s3 h3' u3 => ?_)
    refine optK_of (rdN_all h3' rfl) ?_
    refine hK s3 0 .nilslc false (sub_upto (sub1.trans sub2) u3 hb0) (fun h => by cases h) (fun _ => ⟨rfl, fun n hn e => ?_⟩) rfl
    obtain ⟨y, hy, e2⟩ := FibR.has h3 hn
    exact hno rfl y hy (by rw [e2, e])
  | true =>
    obtain ⟨y, hy, eq⟩ := hyes rfl
    obtain ⟨n, hn, e1, e2⟩ := FibR.row h3 (List.mem_of_getElem? hy)
    have f2 := sub2 _ _ f1
    have hone := (h4 y (List.mem_of_getElem? hy)).one
    simp only [Bool.not_true, boolK_false, rd1_mk f2, c4, optK_mk]
    obtain ⟨pb, po, g1, g2, _⟩ := ((h2.sub sub1).sub sub2).get (i := i) (r := enR y) (by rw [List.getElem?_map, hy]; rfl)
    simp only [g1, g2, optK_mk]
    refine wrAgg_step b2 rfl rfl ?_ fun s3 h3' u3 => ?_
    · show ((AVal.int .u32 y.1).one && (y.2.1.one && true)) = true
      rw [hone]; rfl
    refine optK_of (rdN_all h3' rfl) ?_
    exact hK s3 y.1 y.2.1 true (sub_upto (sub1.trans sub2) u3 hb0) (fun _ => ⟨n, hn, by rw [← eq, e1], by rw [← e2]; exact h4 y (List.mem_of_getElem? hy)⟩) (fun h => by cases h) hone
end Go.AM.FB
set_option linter.unusedVariables false
namespace Go.AM.FB
open Go Go.Proofs
variable {K : AVal → Heap → Prop} {s s' s0 t : Heap} {lv uv v y w : AVal} {N : Nat} {G : List Lnk} {U : List Bool} {d : Nat → Int} {L : List RLk}
/-! ### the tables of all nodes -/
theorem Pick_in {p : Int} (hp : -9223372036854775808 ≤ p ∧ p ≤ 9223372036854775807) (hN : 1 ≤ N) (hN2 : N ≤ 1000) (hK : ∀ r : Nat, r < N → K (.int .i64 (r : Int)) s) : wpCall Try.prog XX 27 [.int .i64 p, .int .i64 (N : Int)] K s := by
  refine vlkit_Pick_in ?_
  simp only [vlkit_Pick, arith_rem (show (N : Int) ≠ 0 by omega), arith_lss, optK_mk]
  have h1 := Int.tmod_lt_of_pos p (show (0 : Int) < (N : Int) by omega)
  have h2 : -(N : Int) < p.tmod N := by
    have := Int.tmod_lt_of_pos (-p) (show (0 : Int) < (N : Int) by omega)
    rw [Int.neg_tmod] at this
    omega
  refine boolK_mk (fun c => ?_) (fun c => ?_)
  · have c := of_decide_eq_true c
    simp only [arith_add, optK_mk, vlkit_Pick_j0]
    rw [wrap64 (by omega) (by omega)]
    obtain ⟨r, hr⟩ : ∃ r : Nat, p.tmod N + N = r := ⟨(p.tmod N + N).toNat, by omega⟩
    rw [hr]
    exact hK r (by omega)
  · have c := of_decide_eq_false c
    simp only [vlkit_Pick_j0]
    obtain ⟨r, hr⟩ : ∃ r : Nat, p.tmod N = r := ⟨(p.tmod N).toNat, by omega⟩
    rw [hr]
    exact hK r (by omega)
abbrev netC (n : Int) (lv uv : AVal) : List AVal := [.int .i64 n, lv, uv]
theorem vld_up {n : Int} (h : vld n L (List.replicate L.length false)) (hU : U.length = L.length) : vld n L U := ⟨h.1, h.2.1, h.2.2.1, hU, h.2.2.2.2⟩
theorem tables_in {n : Int} (hn : -9223372036854775808 ≤ n ∧ n ≤ 9223372036854775807) (hl : SlR 3 s lv (L.map rwR)) (hlm : L.length ≤ 9223372036854775807) (hu : Sl s uv (U.map AVal.bool)) (hum : U.length ≤ 9223372036854775807)
    (hno : ∀ s' w, Sub s s' → lenOfA w = some 0 → K w s')
    (hK : ∀ (N : Nat) (s' : Heap) (w : AVal) (fs : List Nat), n = (N : Int) → vld (N : Int) L U → L.length ≤ 60 → Sub s s' → Sl s' w (fs.map fun f => .ptr f 0) → fs.length = N → (∀ i f, fs[i]? = some f → FibR s' f N (L.map toL) U i) → K w s') :
    wpCall Try.prog XX 26 [.agg (netC n lv uv)] K s := by
  refine vllaw14_tables_in ⟨?_, new_step fun b s1 hb hb1 u1 => ?_⟩
  · show ((AVal.int .i64 n).one && (lv.one && (uv.one && true))) = true
    rw [hl.one, hu.one]; rfl
  have sub1 := u1.sub hb
  have hb1 : s1 b = some (false, .cells 63 (netC n lv uv)) := hb1
  have e0 : (netC n lv uv)[0]? = some (.int .i64 n) := rfl
  have e1 : (netC n lv uv)[1]? = some lv := rfl
  have e2 : (netC n lv uv)[2]? = some uv := rfl
  have hl1 := hl.sub sub1
  have hu1 := hu.sub sub1
  simp only [addOff_ptr, Nat.zero_add, rd1_mk hb1, e1, e2, hl1.len, hu1.len, List.length_map, arith_gtr, eqV_int, negB_mk, Bool.true_bne, optK_mk]
  by_cases c1 : (60 : Int) < (L.length : Int)
  · rw [decide_eq_true c1]
    simp only [boolK_true, vllaw14_tables_j0, pickV_true, optK_mk]
    exact hno _ _ sub1 rfl
  rw [decide_eq_false c1]
  simp only [boolK_false, vllaw14_tables_j0, pickV_false, optK_mk]
  refine boolK_mk (fun c2 => hno _ _ sub1 rfl) (fun c2 => ?_)
  have hU : U.length = L.length := by
    have c2 : (U.length : Int) = L.length := by simpa using c2
    omega
  refine ⟨fun ys t m => ∃ (k : Nat) (ov : AVal) (fs : List Nat) (H : Heap), ys = [ov, .int .i64 k] ∧ m = (n - k).toNat ∧ Sub s1 H ∧ Sub H t ∧ Acc 37 H t ov (fs.map fun f => .ptr f 0) ∧ fs.length = k ∧ (0 < k → vld n L U ∧ (k : Int) ≤ n) ∧ ∀ i f, fs[i]? = some f → FibR H f n.toNat (L.map toL) U i, ⟨_, 0, .nilslc, [], s1, rfl, rfl, .refl _, .refl _, .inl ⟨rfl, rfl⟩, rfl, fun h => by omega, fun i f h => by cases h⟩, ?_⟩
  rintro g t m ⟨k, ov, fs, H, hy, rfl, s1H, Ht, acc, hfs, hk, hF⟩
  simp only [List.cons.injEq, and_true] at hy
  rw [hy.1, hy.2]
  have st := s1H.trans Ht
  have bt := st _ _ hb1
  simp only [vllaw14_tables_l1, addOff_ptr, Nat.zero_add, rd1_mk bt, e0, e1, arith_lss, optK_mk]
  refine boolK_mk (fun hlt => ?_) (fun hge => ?_)
  rotate_left
  · have hge := of_decide_eq_false hge
    by_cases k0 : 0 < k
    · obtain ⟨hv, hkn⟩ := hk k0
      have en : n = (k : Int) := by omega
      subst en
      rw [Int.toNat_natCast] at hF
      exact hK k t ov fs rfl hv (by omega) (sub1.trans st) acc.sl hfs fun i f hi => (hF i f hi).sub Ht
    · have : fs = [] := List.eq_nil_of_length_eq_zero (by omega)
      subst this
      exact hno _ _ (sub1.trans st) acc.sl.len
  have hlt := of_decide_eq_true hlt
  refine wpCall.part XX_fr Ht ?_
  refine New_in (hl1.sub s1H) hlm (fun _ s2 e sub2 he s' sub' _ => ?_) fun hv hx0 hxn f mb lv' s2 sub2 hf hmb hfm h2f h2m hl2 hlf s' sub' kept => ?_
  · have x0 : extractA (.tup [.nilptr, .int .i64 e]) 0 = some .nilptr := rfl
    have x1 : extractA (.tup [.nilptr, .int .i64 e]) 1 = some (.int .i64 e) := rfl
    have c : (e == 0) = false := by simpa using he
    simp only [x0, x1, eqV_int, c, negB_mk, Bool.true_bne, Bool.not_false, boolK_true, vllaw14_tables_j2, vllaw14_tables_j3, pickV_true, optK_mk]
    refine hno _ _ (fun i e hi => ?_) rfl
    exact sub' _ _ (sub2 _ _ (s1H _ _ (sub1 _ _ hi)))
  have hv := vld_up hv hU
  obtain ⟨N, rfl⟩ : ∃ N : Nat, n = N := ⟨n.toNat, by omega⟩
  rw [Int.toNat_natCast] at hF
  have x0 : extractA (.tup [.ptr f 0, .int .i64 0]) 0 = some (.ptr f 0) := rfl
  have x1 : extractA (.tup [.ptr f 0, .int .i64 0]) 1 = some (.int .i64 0) := rfl
  have b' := sub' _ _ (sub2 _ _ (s1H _ _ hb1))
  simp only [x0, x1, eqV_int, beq_self_eq_true, negB_mk, Bool.true_bne, Bool.not_true, boolK_false, eqV_ptr, Bool.false_bne, vllaw14_tables_j2, pickV_false, addOff_ptr, Nat.zero_add, rd1_mk b', e2, optK_mk]
  refine wpCall.part XX_fr sub' ?_
  refine Update_in (s0 := H) hv (by omega) (by omega) sub2 hf hmb h2f h2m hl2 hlf (hu1.sub s1H) fun s3 sub3 hF3 s'' sub'' kept2 => ?_
  simp only [eqV_int, beq_self_eq_true, negB_mk, Bool.true_bne, Bool.not_true, vllaw14_tables_j3, pickV_false, boolK_false, optK_mk]
  -- the list of tables is hidden from both calls
  have acc2 : Acc 37 s3 s'' ov (fs.map fun f => .ptr f 0) := by
    rcases acc with q | ⟨c, q1, q2, q3⟩
    · exact .inl q
    · obtain ⟨k1, k2⟩ := kept c q1 (by rw [q3]; simp)
      obtain ⟨k3, k4⟩ := kept2 c k2 (by rw [k1, q3]; simp)
      exact .inr ⟨c, k4, q2, by rw [k3, k1]; exact q3⟩
  refine lit1_step rfl rfl fun b6 s4 hb6 h6 u6 => ?_
  have sub4 := u6.sub hb6
  refine (acc2.sub sub4).app2 (sub''.trans sub4) (Sl.mk h6 rfl (by simp)) (by simp) (by rw [List.length_map]; simp only [List.length_singleton]; have := hv.2.1; omega) fun v' s5 acc5 sub5 => ?_
  simp only [arith_add, optK_mk]
  rw [wrap64 (by omega) (by omega)]
  refine ⟨_, ?_, k + 1, v', fs ++ [f], s3, rfl, rfl, ?_, sub5, by rw [List.map_append]; exact acc5, by rw [List.length_append]; simp only [List.length_singleton]; omega, fun _ => ⟨hv, by omega⟩, fun i f' hi => ?_⟩
  · omega
  · exact s1H.trans sub3
  · rw [Int.toNat_natCast]
    rw [List.getElem?_append] at hi
    split at hi
    · exact (hF i f' hi).sub sub3
    · rename_i hge
      have : i = fs.length := by
        have := (List.getElem?_eq_some_iff.1 hi).1
        simp only [List.length_singleton] at this
        omega
      rw [this, Nat.sub_self] at hi
      simp only [List.getElem?_cons_zero, Option.some.injEq] at hi
      subst hi
      rw [this, hfs]
      exact hF3
end Go.AM.FB
namespace Go.AM.FB
open Go Go.Proofs
variable {K : AVal → Heap → Prop} {s s' s0 t : Heap} {lv uv v y w : AVal} {N : Nat} {G : List Lnk} {U : List Bool} {d : Nat → Int} {L : List RLk}
/-! ### FibReach -/
theorem known_in (hK : K (.bool true) s) : wpCall Try.prog XX 4 [] K s := wp_closed rfl hK
theorem iz_izs {T : List Nat} : iz T = izs (T.map fun (n : Nat) => (n : Int)) := by
  unfold iz
  exact (List.map_map ..).symm
end Go.AM.FB
namespace Go.AM.FB
open Go Go.Proofs
variable {s : Heap} {v : AVal}
/-! ### arguments -/
set_option maxRecDepth 100000 in
theorem arg_net {d : Nat} (h : Arg Try.prog s (d + 4) 63 v) : ∃ (n : Int) (L : List RLk) (U : List Bool) (lv uv : AVal), v = .agg (netC n lv uv) ∧ SlR 3 s lv (L.map rwR) ∧ Sl s uv (U.map AVal.bool) ∧ L.length ≤ 9223372036854775807 ∧ U.length ≤ 9223372036854775807 ∧ (-9223372036854775808 ≤ n ∧ n ≤ 9223372036854775807) := by
  obtain ⟨h1, h2, _⟩ := h
  have ha : isAggT Try.prog 63 = some true := by kernel_rfl
  obtain ⟨l, rfl, _⟩ := h2 ha
  rw [cells_agg] at h1
  unfold Inp at h1
  simp only [Try.underlying63] at h1
  obtain ⟨g1, g2⟩ := h1
  rw [show Try.prog.cellsOf 63 = 3 by kernel_rfl] at g1
  have k0 := g2 _ (List.mem_cons_self)
  have k2 := g2 _ (List.mem_cons_of_mem _ List.mem_cons_self)
  have k3 := g2 _ (List.mem_cons_of_mem _ (List.mem_cons_of_mem _ List.mem_cons_self))
  match l, g1 with
  | [a, c, e], _ =>
    obtain ⟨n, e1, w1⟩ := inp_int (xs := [a]) Try.underlying3 k0
    obtain ⟨lv, e3, L, hL, _, hl1⟩ := inpR (d := d + 2) (xs := [c]) Try.underlying22 rwR (fun _ => True) (fun a => by rw [cells27]; rfl) (fun xs h => inp_lk h) k2
    obtain ⟨uv, e4, U, hU, _, hl2⟩ := inp_slice (d := d + 2) (xs := [e]) Try.underlying23 (by kernel_rfl) AVal.bool (fun _ => True) (fun xs h => inp_bool Try.underlying4 h) k3
    rw [cells27] at hL
    cases e1; cases e3; cases e4
    exact ⟨n, L, U, c, e, rfl, hL, hU, by unfold maxLen at hl1; omega, by unfold maxLen at hl2; omega, bd64 w1⟩
end Go.AM.FB
set_option linter.unusedVariables false
namespace Go.AM.FB
open Go Go.Proofs
variable {K : AVal → Heap → Prop} {s : Heap}
/-! ### the hash of a list of bytes -/
def xorU (x y : Int) : Int := wrapK .u64 ((BitVec.ofInt (IntKind.bits .u64) x ^^^ BitVec.ofInt (IntKind.bits .u64) y).toNat : Nat)
theorem arith_xor64 {x y : Int} : arithV .xor (.int .u64 x) (.int .u64 y) = some (.int .u64 (xorU x y)) := by simp [arithV, arith, frc_eq, xorU]
def fnvStep (h b : Int) : Int := IntKind.u64.wrap (xorU h (wrapK .u64 b) * 1099511628211)
def fnv : Int → List Int → Int
  | h, [] => h
  | h, b :: r => fnv (fnvStep h b) r
theorem fnv_cons (h b : Int) (r : List Int) : fnv h (b :: r) = fnv (fnvStep h b) r := rfl
theorem fnv_app (h : Int) : ∀ (a b : List Int), fnv h (a ++ b) = fnv (fnv h a) b := by
  intro a
  induction a generalizing h with
  | nil => intro b; rfl
  | cons x r ih => intro b; exact ih (fnvStep h x) b
theorem convI_mk {k k' : IntKind} {n : Int} : convI k (.int k' n) = some (.int k (wrapK k n)) := rfl
theorem wu64 (n : Int) : wrapK .u64 n = n % 18446744073709551616 := by
  simp only [wrapK]; rw [wrapM_eq _ _ _ (by omega) (by omega)]; split <;> omega
/-- the lowest bytes of a number, the most significant one first -/
def numB (v : Int) : Nat → List Int
  | 0 => []
  | n + 1 => wrapK .u8 (v.fdiv ((2 ^ (8 * n) : Nat) : Int)) :: numB v n
theorem shr_mk {v : Int} {m : Nat} (hm : m ≤ 64) : shiftV .shr (.int .u64 v) (.int .i64 (m : Int)) = some (.int .u64 (v.fdiv ((2 ^ m : Nat) : Int))) := by
  show frc (v.fdiv ((2 ^ (min m (IntKind.bits .u64)) : Nat) : Int)) (fun n => some (AVal.int .u64 n)) = _
  rw [frc_eq, Nat.min_eq_left (show m ≤ IntKind.bits .u64 from hm)]
/-! ### a loop over an iterator that folds -/
structure Fold (l c r d : Nat) (h : Int) (s : Heap) : Prop where
  lp : s l = some (false, .loop .ready none 17 [(5, .ptr c 0), (7, .ptr r 0)] [11] (rfAs 0 (bodyOf Try.f87)) (rfBo 0 (bodyOf Try.f87)) d)
  cb : ∃ t, s c = some (t, .cells 166 [.fn (.func 89) [] []])
  rs : s r = some (false, .cells 47 [.int .u64 h])
theorem round_in {l c r d : Nat} {h b : Int} (z : Fold l c r d h s) (hK : ∀ s', Fold l c r d (fnvStep h b) s' → KeepBut (fun i => i = l ∨ i = r) s s' → K (.bool true) s') : wpRound Try.prog XX l [.int .u8 b] K s := by
  obtain ⟨h1, ⟨t, h2⟩, h3⟩ := z
  have hlc : l ≠ c := by rintro rfl; rw [h1] at h2; cases h2
  have hlr : l ≠ r := by rintro rfl; rw [h1] at h3; cases h3
  have hcr : c ≠ r := by rintro rfl; rw [h2] at h3; cases h3
  refine vc_spread_fold_byte_uint64__r0_in h1 ⟨rfl, ?_⟩
  unfold beginK
  rw [h1]
  simp only
  have u1 : Upto l s (hset s l (false, .loop .busy none 17 [(5, .ptr c 0), (7, .ptr r 0)] [11] (rfAs 0 (bodyOf Try.f87)) (rfBo 0 (bodyOf Try.f87)) d)) := fun _ hi => hset_other hi
  have b1 : (hset s l (false, .loop .busy none 17 [(5, .ptr c 0), (7, .ptr r 0)] [11] (rfAs 0 (bodyOf Try.f87)) (rfBo 0 (bodyOf Try.f87)) d)) l = some (false, .loop .busy none 17 [(5, .ptr c 0), (7, .ptr r 0)] [11] (rfAs 0 (bodyOf Try.f87)) (rfBo 0 (bodyOf Try.f87)) d) := hset_eq
  generalize hset s l (false, .loop .busy none 17 [(5, .ptr c 0), (7, .ptr r 0)] [11] (rfAs 0 (bodyOf Try.f87)) (rfBo 0 (bodyOf Try.f87)) d) = s1 at u1 b1
  have c1 : s1 c = _ := (u1 c hlc.symm).trans h2
  have r1 : s1 r = _ := (u1 r hlr.symm).trans h3
  simp only [rd1_mk c1, rd1_mk r1, List.getElem?_cons_zero, optK_mk]
  refine fn_in (by kernel_rfl) (vc_spread_Hash_1_in ?_)
  simp only [vc_spread_Hash_1, convI_mk, arith_xor64, arith_mul, optK_mk]
  refine wr1_step r1 (by simp) rfl fun s2 r2 u2 => ?_
  have b2 : s2 l = _ := (u2 l hlr).trans b1
  unfold endK
  rw [b2]
  simp only
  have u3 : Upto l s2 (hset s2 l (false, .loop .ready none 17 [(5, .ptr c 0), (7, .ptr r 0)] [11] (rfAs 0 (bodyOf Try.f87)) (rfBo 0 (bodyOf Try.f87)) d)) := fun _ hi => hset_other hi
  refine hK _ ⟨hset_eq, ⟨t, ?_⟩, ?_⟩ ((u1.keep (.inl rfl)).trans ((u2.keep (.inr rfl)).trans (u3.keep (.inl rfl))))
  · rw [u3 c hlc.symm, u2 c hcr]; exact c1
  · rw [u3 r hlr.symm]; exact r2
theorem number_in {l c r d : Nat} {h v : Int} {n : Nat} (hn : n ≤ 4) (z : Fold l c r d h s) (hK : ∀ s', Fold l c r d (fnv h (numB v n)) s' → KeepBut (fun i => i = l ∨ i = r) s s' → K (.bool true) s') : wpCall Try.prog XX 95 [.int .u64 v, .int .i64 (n : Int), .yield l] K s := by
  refine vc_spread_number_in ?_
  simp only [vc_spread_number, arith_sub, optK_mk]
  rw [wrap64 (by omega) (by omega)]
  refine ⟨fun ys s1 m => ∃ (h1 : Int) (j : Nat), ys = [.int .i64 ((j : Int) - 1)] ∧ Fold l c r d h1 s1 ∧ KeepBut (fun i => i = l ∨ i = r) s s1 ∧ j ≤ n ∧ m = j ∧ fnv h (numB v n) = fnv h1 (numB v j), ⟨_, h, n, rfl, z, .refl _ s, by omega, rfl, rfl⟩, ?_⟩
  rintro f s1 m ⟨h1, j, hy, z1, k1, hj, rfl, he⟩
  simp only [List.cons.injEq, and_true] at hy
  rw [hy]
  simp only [vc_spread_number_l0, arith_geq, optK_mk]
  refine boolK_mk (fun hge => ?_) (fun hlt => ?_)
  · have hge : 0 ≤ (m : Int) - 1 := of_decide_eq_true hge
    obtain ⟨i, rfl⟩ : ∃ i, m = i + 1 := ⟨m - 1, by omega⟩
    have e1 : (((i + 1 : Nat) : Int) - 1) = (i : Int) := by omega
    rw [e1]
    have e2 : IntKind.i64.wrap (8 * (i : Int)) = ((8 * i : Nat) : Int) := by rw [wrap64 (by omega) (by omega)]; omega
    simp only [arith_mul, optK_mk, e2, shr_mk (show 8 * i ≤ 64 by omega), convI_mk]
    refine ⟨by unfold loopLen; rw [z1.lp]; rfl, round_in z1 fun s2 z2 k2 => ?_⟩
    simp only [unary_not, Bool.not_true, boolK_false, optK_mk, arith_sub]
    rw [wrap64 (by omega) (by omega)]
    exact ⟨i, by omega, _, i, rfl, z2, k1.trans k2, by omega, rfl, he⟩
  · have hlt : ¬ 0 ≤ (m : Int) - 1 := of_decide_eq_false hlt
    obtain rfl : m = 0 := by omega
    have z1 : Fold l c r d (fnv h (numB v n)) s1 := by rw [he]; exact z1
    exact hK _ z1 k1
def flowB (a b e v : Int) : List Int := numB (wrapK .u64 a) 4 ++ (numB (wrapK .u64 b) 4 ++ (numB (wrapK .u64 e) 2 ++ numB (wrapK .u64 v) 3))
/-- the cells of a packet -/
def Pk (a b e v : Int) (cs : List AVal) : Prop := cs.length = 21 ∧ allOne cs = true ∧ cs[0]? = some (.int .u32 a) ∧ cs[1]? = some (.int .u32 b) ∧ cs[3]? = some (.int .i64 e) ∧ cs[4]? = some (.int .u32 v)
variable {a b e v : Int} {cs : List AVal}
theorem flow1_in {l c r d q : Nat} {t : Bool} {ty : TypeId} {h : Int} (hp : Pk a b e v cs) (z : Fold l c r d h s) (hq : s q = some (t, .cells ty cs)) (hql : q ≠ l ∧ q ≠ r) (hK : ∀ s', Fold l c r d (fnv h (flowB a b e v)) s' → KeepBut (fun i => i = l ∨ i = r) s s' → K (.tup []) s') : wpCall Try.prog XX 94 [.yield l, .ptr q 0] K s := by
  obtain ⟨p1, p2, p3, p4, p5, p6⟩ := hp
  have hno : ¬ (q = l ∨ q = r) := by rintro (e | e); exact hql.1 e; exact hql.2 e
  refine vc_spread_flow_1_in ?_
  simp only [vc_spread_flow_1, addOff_ptr, optK_mk, rd1_mk hq, Nat.zero_add, p3, convI_mk]
  refine number_in (n := 4) (by omega) z fun s1 z1 k1 => ?_
  have q1 := k1 _ _ hq hno
  simp only [boolK_true, optK_mk, rd1_mk q1, p4, convI_mk]
  refine number_in (n := 4) (by omega) z1 fun s2 z2 k2 => ?_
  have q2 := k2 _ _ q1 hno
  simp only [vc_spread_flow_1_j0, pickV_true, boolK_true, addOff_ptr, optK_mk, rd1_mk q2, Nat.zero_add, p5, convI_mk]
  refine number_in (n := 2) (by omega) z2 fun s3 z3 k3 => ?_
  have q3 := k3 _ _ q2 hno
  simp only [vc_spread_flow_1_j1, pickV_true, boolK_true, addOff_ptr, optK_mk, rd1_mk q3, Nat.zero_add, p6, convI_mk]
  refine number_in (n := 3) (by omega) z3 fun s4 z4 k4 => ?_
  simp only [vc_spread_flow_1_j2, pickV_true, optK_mk]
  have z4 : Fold l c r d (fnv h (flowB a b e v)) s4 := by
    unfold flowB
    rw [fnv_app, fnv_app, fnv_app]
    exact z4
  exact hK _ z4 ((k1.trans k2).trans (k3.trans k4))
theorem Hash_in (hp : Pk a b e v cs) (hK : ∀ s', Sub s s' → K (.int .u64 (fnv 14695981039346656037 (flowB a b e v))) s') : wpCall Try.prog XX 77 [.agg cs] K s := by
  obtain ⟨p1, p2, _⟩ := id hp
  refine vc_spread_Hash_in ⟨p2, new_step fun x s1 hx h1 u1 => optK_of (rdN_all h1 p1) ?_⟩
  refine vc_spread_flow_in ⟨p2, new_step fun q s2 hq h2 u2 => ?_⟩
  refine vc_spread_fold_byte_uint64__in (box_step rfl fun c s3 hc h3 u3 => new_step fun r s4 hr h4 u4 => wr1_step h4 (by simp) rfl fun s5 h5 u5 => ⟨by kernel_rfl, trivial, fun l d hl => ?_⟩)
  have sub2 : Sub s s2 := (u1.sub hx).trans (u2.sub hq)
  have sub4 : Sub s2 s4 := (u3.sub hc).trans (u4.sub hr)
  have hr2 : s2 r = none := by
    cases w : s2 r with
    | none => rfl
    | some y => rw [u3.sub hc r y w] at hr; cases hr
  have sub5 : Sub s2 s5 := sub4.upto u5 hr2
  have c5 : s5 c = some (false, .cells 166 [.fn (.func 89) [] []]) := by
    rw [u5 c (ne_of_some hr h3)]; exact u4.at h3 hr
  have u6 : Upto l s5 (hset s5 l (false, .loop .ready none 17 [(5, .ptr c 0), (7, .ptr r 0)] [11] (rfAs 0 (bodyOf Try.f87)) (rfBo 0 (bodyOf Try.f87)) d)) := fun _ hi => hset_other hi
  have b6 : (hset s5 l (false, .loop .ready none 17 [(5, .ptr c 0), (7, .ptr r 0)] [11] (rfAs 0 (bodyOf Try.f87)) (rfBo 0 (bodyOf Try.f87)) d)) l = _ := hset_eq
  show wpCall Try.prog XX 94 [.yield l, .ptr q 0] _ (hset s5 l (false, .loop .ready none 17 [(5, .ptr c 0), (7, .ptr r 0)] [11] (rfAs 0 (bodyOf Try.f87)) (rfBo 0 (bodyOf Try.f87)) d))
  generalize hset s5 l (false, .loop .ready none 17 [(5, .ptr c 0), (7, .ptr r 0)] [11] (rfAs 0 (bodyOf Try.f87)) (rfBo 0 (bodyOf Try.f87)) d) = s6 at u6 b6
  have sub6 := u6.sub hl
  have q6 := sub6 _ _ (sub5 _ _ h2)
  refine flow1_in (h := 14695981039346656037) hp ⟨b6, ⟨_, sub6 _ _ c5⟩, sub6 _ _ h5⟩ q6 ⟨?_, ?_⟩ fun s7 z7 k7 => ?_
  · rintro rfl; rw [sub5 _ _ h2] at hl; cases hl
  · rintro rfl; rw [hr2] at h2; cases h2
  · unfold doneK3
    rw [z7.lp]
    refine ⟨by simp, ?_⟩
    have hlr : l ≠ r := by rintro rfl; rw [hl] at h5; cases h5
    have r8 : hdel s7 l r = some (false, .cells 47 [.int .u64 (fnv 14695981039346656037 (flowB a b e v))]) := by
      rw [hdel_ne hlr.symm]; exact z7.rs
    simp only [rd1_mk r8, List.getElem?_cons_zero, optK_mk]
    refine hK _ fun i y hi => ?_
    have hi2 := sub2 i y hi
    have hi5 := sub5 i y hi2
    have hil : i ≠ l := ne_of_some hl hi5
    have hir : i ≠ r := ne_of_some hr2 hi2
    rw [hdel_ne hil]
    exact k7 i y (sub6 i y hi5) (by rintro (q | q); exact hil q; exact hir q)
end Go.AM.FB
set_option linter.unusedVariables false
namespace Go.AM.FB
open Go Go.Proofs
variable {K : AVal → Heap → Prop} {s s' s0 t : Heap} {lv uv v y w : AVal} {N : Nat} {G : List Lnk} {U : List Bool} {d : Nat → Int} {L : List RLk}
/-! ### Forward -/
def WhB (s : Heap) (w : Nat) (l : List Nat) (B : List Int) : Prop := ∃ t1 t2 bb mv cap, s w = some (t1, .cells 119 [.slc bb 0 B.length cap 1, mv]) ∧ s bb = some (t2, .cells 3 (WH.ints B)) ∧ (∀ c, cap = some c → B.length ≤ c) ∧ B.length = 64 ∧ WH.Sli s mv (l.map fun (n : Nat) => (n : Int)) ∧ WH.Aft (l.map fun (n : Nat) => (n : Int)) (List.replicate 64 0) B
theorem WhB.sub {w : Nat} {l : List Nat} {B : List Int} (h : WhB s w l B) (k : Sub s s') : WhB s' w l B := by
  obtain ⟨t1, t2, bb, mv, cap, h1, h2, h3, h4, h5, h6⟩ := h
  exact ⟨t1, t2, bb, mv, cap, k _ _ h1, k _ _ h2, h3, h4, h5.sub k, h6⟩
theorem WhB.frz {w : Nat} {l : List Nat} {B : List Int} (h : WhB s w l B) : WhB (AM.frz s) w l B := by
  obtain ⟨t1, t2, bb, mv, cap, h1, h2, h3, h4, h5, h6⟩ := h
  exact ⟨true, true, bb, mv, cap, frz_some h1, frz_some h2, h3, h4, Sl.frz h5, h6⟩
/-- a table with the buckets of its wheels -/
structure FibB (s : Heap) (f N : Nat) (G : List Lnk) (U : List Bool) (x : Nat) (Bf : Nat → List Int) : Prop where
  r : FibR s f N G U x
  ex : ∃ (tf : Bool) (lv ev : AVal) (mb : Nat) (tm : Bool) (c : Nat) (ws : List (Nat × Nat)), s f = some (tf, .cells 82 (fibC (N : Int) (x : Int) lv ev mb)) ∧
    s mb = some (tm, .map (mE 0 ws) c) ∧ ws.map (·.1) = ndL N G U x ∧ ∀ p ∈ ws, WhB s p.2 (lnk N G U x p.1) (Bf p.1)
theorem FibB.sub {f x : Nat} {Bf : Nat → List Int} (h : FibB s f N G U x Bf) (k : Sub s s') : FibB s' f N G U x Bf := by
  obtain ⟨tf, lv, ev, mb, tm, c, ws, h1, h5, h6, h7⟩ := h.ex
  exact ⟨h.r.sub k, tf, lv, ev, mb, tm, c, ws, k _ _ h1, k _ _ h5, h6, fun p hp => (h7 p hp).sub k⟩
theorem FibB.frz {f x : Nat} {Bf : Nat → List Int} (h : FibB s f N G U x Bf) : FibB (AM.frz s) f N G U x Bf := by
  obtain ⟨tf, lv, ev, mb, tm, c, ws, h1, h5, h6, h7⟩ := h.ex
  exact ⟨h.r.frz, true, lv, ev, mb, true, c, ws, frz_some h1, frz_some h5, h6, fun p hp => (h7 p hp).frz⟩
open Classical in
theorem FibR.b {f x : Nat} (h : FibR s f N G U x) : ∃ Bf, FibB s f N G U x Bf := by
  obtain ⟨tf, lv, ev, mb, R, tm, c, ws, h1, h2, h3, h4, h5, h6, h7⟩ := h.ex
  have nd : (ws.map (·.1)).Nodup := by rw [h6]; exact ndL_asc.imp fun h => by omega
  have hB : ∀ p ∈ ws, ∃ B, WhB s p.2 (lnk N G U x p.1) B := fun p hp => by
    obtain ⟨t1, t2, bb, mv, cap, B, q⟩ := h7 p hp
    exact ⟨B, t1, t2, bb, mv, cap, q⟩
  have same : ∀ p ∈ ws, ∀ q ∈ ws, p.1 = q.1 → p.2 = q.2 := fun p hp q hq e => by
    obtain ⟨i, hi⟩ := List.mem_iff_getElem?.1 hp
    obtain ⟨j, hj⟩ := List.mem_iff_getElem?.1 hq
    obtain ⟨a1, a2⟩ := List.getElem?_eq_some_iff.1 hi
    obtain ⟨b1, b2⟩ := List.getElem?_eq_some_iff.1 hj
    have : i = j := by
      have := (List.getElem_inj (h₀ := by simpa using a1) (h₁ := by simpa using b1) nd).1 (by simp only [List.getElem_map, a2, b2]; exact e)
      exact this
    subst this
    rw [hi] at hj
    cases hj; rfl
  refine ⟨fun n => if h : ∃ B : List Int, ∃ p ∈ ws, p.1 = n ∧ WhB s p.2 (lnk N G U x p.1) B then h.choose else [], h, tf, lv, ev, mb, tm, c, ws, h1, h5, h6, fun p hp => ?_⟩
  have q : ∃ B : List Int, ∃ p' ∈ ws, p'.1 = p.1 ∧ WhB s p'.2 (lnk N G U x p'.1) B := by
    obtain ⟨B, hb⟩ := hB p hp
    exact ⟨B, p, hp, rfl, hb⟩
  rw [dif_pos q]
  obtain ⟨p', m', e', b'⟩ := q.choose_spec
  generalize q.choose = B at b' ⊢
  rw [← same p' m' p hp e']
  rw [e'] at b'
  exact b'
def hopI (Bf : Nat → List Int) (n : Nat) (h : Int) : Int := (Bf n).getD (h % 64).toNat 0 - 1
theorem FibB.hop {f x : Nat} {Bf : Nat → List Int} (h : FibB s f N G U x Bf) {n : Nat} {q : Int} (hn : n ∈ ndL N G U x) : ∃ i ∈ lnk N G U x n, hopI Bf n q = (i : Int) := by
  obtain ⟨tf, lv, ev, mb, tm, c, ws, h1, h5, h6, h7⟩ := h.ex
  obtain ⟨w, _, hw⟩ := wOf_some (l := ws) (n := n) (by rw [h6]; exact hn)
  obtain ⟨t1, t2, bb, mv, cap, k1, k2, k3, k4, k5, k6⟩ := h7 _ hw
  have hne := (mem_ndL.1 hn).2
  have hi : (q % 64).toNat < (Bf n).length := by
    have := Int.emod_lt_of_pos q (b := 64) (by omega)
    have := Int.emod_nonneg q (b := 64) (by omega)
    have k4 : (Bf n).length = 64 := k4
    omega
  have := k6.elt (by simpa using hne) _ (List.getElem_mem hi)
  obtain ⟨i, hi1, hi2⟩ := List.mem_map.1 this
  refine ⟨i, hi1, ?_⟩
  unfold hopI
  rw [List.getD_eq_getElem?_getD, List.getElem?_eq_getElem hi]
  exact hi2.symm
theorem fnvStep_nn {h b : Int} : 0 ≤ fnvStep h b := by
  unfold fnvStep
  rw [← wrapK_eq, wu64]
  exact Int.emod_nonneg _ (by omega)
theorem fnv_nn : ∀ {l : List Int} {h : Int}, 0 ≤ h → 0 ≤ fnv h l
  | [], _, h => h
  | b :: l, h, _ => by rw [fnv_cons]; exact fnv_nn fnvStep_nn
theorem s_addr {kd : IntKind} {bb n i : Nat} {cap : Option Nat} (hi : i < n) : iaddrS 1 (.slc bb 0 n cap 1) (.int kd (i : Int)) = some (.ptr bb i) := by
  have : Nat.blt i n = true := by rw [Nat.blt_eq]; exact hi
  simp [iaddrS, this]
theorem PickW_in {w : Nat} {l : List Nat} {Bf : Nat → List Int} {n : Nat} {h : Int} (z : WhB s w l (Bf n)) (hl : l ≠ []) (hl2 : ∀ i ∈ l, i < 1000) (hl3 : l.length ≤ 1000) (hh : 0 ≤ h) (hK : K (.tup [.int .i64 (hopI Bf n h), .bool true]) s) : wpCall Try.prog XX 76 [.ptr w 0, .int .u64 h] K s := by
  obtain ⟨t1, t2, bb, mv, cap, k1, k2, k3, k4, k5, k6⟩ := z
  refine vc_spread_Wheel_Pick_in (WH.valid_rd k1 (by omega) ?_)
  have lM : lenOfA mv = some l.length := by rw [Sl.len k5, List.length_map, List.length_map]
  have hne : (((l.length : Nat) : Int) == 0) = false := beq_eq_false_iff_ne.2 fun h0 => hl (List.length_eq_zero_iff.1 (by omega))
  have h1 := Int.emod_nonneg h (b := 64) (by omega)
  have h2 := Int.emod_lt_of_pos h (b := 64) (by omega)
  obtain ⟨i, hi, e1, e2⟩ : ∃ i : Nat, i < (Bf n).length ∧ h.tmod 64 = i ∧ (h % 64).toNat = i := ⟨(h % 64).toNat, by omega, by rw [Int.tmod_eq_emod_of_nonneg hh]; omega, rfl⟩
  have hb := k6.elt (by simpa using hl) _ (List.getElem_mem hi)
  obtain ⟨j, hj, hj2⟩ := List.mem_map.1 hb
  have hj3 := hl2 j hj
  have ew : ((Bf n).length : Int) % 18446744073709551616 = 64 := by rw [k4]; rfl
  have er : (WH.ints (Bf n))[i]? = some (.int .i64 (Bf n)[i]) := WH.ints_at hi
  unfold hopI at hK
  rw [e2, List.getD_eq_getElem?_getD, List.getElem?_eq_getElem hi] at hK
  have ad : iaddrS 1 (.slc bb 0 (Bf n).length cap 1) (.int .u64 (i : Int)) = some (.ptr bb i) := s_addr hi
  simp only [unary_not, Bool.not_true, optK_mk, boolK_false, nilCheck_ptr, addOff_ptr, rd1_mk k1, Nat.zero_add, List.getElem?_cons_zero, List.getElem?_cons_succ, lM, eqV_int, hne, negB_mk, Bool.false_bne, vc_spread_Wheel_Pick_j0, pickV_false, lenOf_slc, convI_mk, wu64, ew, arith_rem (k := .u64) (x := h) (y := 64) (by omega), e1, ad, rd1_mk k2, er, arith_sub]
  rw [wrap64 (by omega) (by omega)]
  exact hK
theorem pick_in {f x m : Nat} {Bf : Nat → List Int} {a e vn : Int} {cs : List AVal} (h : FibB s f N G U x Bf) (hN : N ≤ 32) (hG : G.length ≤ 128) (hp : Pk a (lbk m) e vn cs) (hm : m < 32)
    (hyes : m ∈ ndL N G U x → ∀ s', Sub s s' → K (.tup [.int .i64 (hopI Bf m (fnv 14695981039346656037 (flowB a (lbk m) e vn))), .bool true]) s')
    (hno : m ∉ ndL N G U x → ∀ s', Sub s s' → K (.tup [.int .i64 0, .bool false]) s') : wpCall Try.prog XX 55 [.ptr f 0, .agg cs] K s := by
  obtain ⟨p1, p2, p3, p4, p5, p6⟩ := id hp
  refine vc_fib_Fib_pick_in ⟨p2, new_step fun b s1 hb h1 u1 => ?_⟩
  have sub1 := u1.sub hb
  have h1 : s1 b = some (false, .cells 56 cs) := h1
  simp only [addOff_ptr, Nat.zero_add, rd1_mk h1, p4, optK_mk]
  refine Node_in hm ?_
  have x0 : extractA (.tup [.int .i64 (m : Int), .bool true]) 0 = some (.int .i64 (m : Int)) := rfl
  have x1 : extractA (.tup [.int .i64 (m : Int), .bool true]) 1 = some (.bool true) := rfl
  simp only [x0, x1, unary_not, Bool.not_true, boolK_false, rd1_mk h1, p4, optK_mk]
  refine find_in (h.r.sub sub1) hN fun s2 ra rw bb sub2 fy fn _ => ?_
  have y0 : extractA (.tup [.agg [.int .u32 ra, rw], .bool bb]) 0 = some (.agg [.int .u32 ra, rw]) := rfl
  have y1 : extractA (.tup [.agg [.int .u32 ra, rw], .bool bb]) 1 = some (.bool bb) := rfl
  have s02 := sub1.trans sub2
  simp only [y0, y1, unary_not, optK_mk]
  cases bb with
  | false =>
    simp only [Bool.not_false, boolK_true]
    exact hno (fun hq => (fn rfl).2 m hq rfl) _ s02
  | true =>
    obtain ⟨n, hn, e1, _⟩ := fy rfl
    have hmn : m = n := lbk_inj e1
    subst hmn
    have h2 := h.sub s02
    obtain ⟨tf, lv, ev, mb, tm, c, ws, k1, k5, k6, k7⟩ := h2.ex
    obtain ⟨w, w1, w2⟩ := wOf_some (l := ws) (n := m) (by rw [k6]; exact hn)
    have c5 : (fibC (N : Int) (x : Int) lv ev mb)[5]? = some (.map mb) := rfl
    have hg := mget (n := m) k5
    rw [w1] at hg
    have hg : getM s2 (.map mb) (.int .i64 (m : Int)) = some (some (.ptr w 0)) := hg
    have b2 := sub2 _ _ h1
    simp only [Bool.not_true, boolK_false, nilCheck_ptr, addOff_ptr, Nat.zero_add, rd1_mk k1, c5, hg, optK_mk]
    refine optK_of (rdN_all b2 p1) ?_
    refine Hash_in hp fun s3 sub3 _ => ?_
    have sub4 : Sub s2 (add s2 s3) := sub_add
    refine PickW_in (n := m) ((k7 _ w2).sub sub4) (mem_ndL.1 hn).2 (fun i hi => by have := lnk_lt hi; omega) (Nat.le_trans lnk_len (by omega)) (fnv_nn (by omega)) ?_
    have z0 : ∀ q : Int, extractA (.tup [.int .i64 q, .bool true]) 0 = some (.int .i64 q) := fun _ => rfl
    have z1 : ∀ q : Int, extractA (.tup [.int .i64 q, .bool true]) 1 = some (.bool true) := fun _ => rfl
    simp only [z0, z1, optK_mk]
    exact hyes hn _ (s02.trans sub4)
end Go.AM.FB
set_option linter.unusedVariables false
namespace Go.AM.FB
open Go Go.Proofs
variable {K : AVal → Heap → Prop} {s s' s0 t : Heap} {lv uv v y w : AVal} {N : Nat} {G : List Lnk} {U : List Bool} {d : Nat → Int} {L : List RLk}
theorem allOne_set {x : AVal} (hx : x.one = true) : ∀ {l : List AVal} {i : Nat}, allOne l = true → allOne (l.set i x) = true
  | [], _, _ => rfl
  | y :: l, 0, h => by
    simp only [allOne_cons, Bool.and_eq_true] at h
    simp only [List.set_cons_zero, allOne_cons, hx, h.2, Bool.and_self]
  | y :: l, i + 1, h => by
    simp only [allOne_cons, Bool.and_eq_true] at h
    rw [List.set_cons_succ, allOne_cons, h.1, allOne_set hx h.2]; rfl
def zP : List AVal := [(.int .u32 0), (.int .u32 0), (.int .i64 0), (.int .i64 0), (.int .u32 0), (.int .u32 0), (.int .u64 0), (.int .u64 0), (.int .i64 0), (.int .i64 0), (.int .u64 0), (.int .u32 0), (.int .u64 0), (.int .u32 0), (.int .u32 0), (.int .u32 0), (.int .i64 0), (.int .i64 0), (.int .i64 0), (.int .i64 0), (.int .u64 0)]
theorem unless_in {b : Bool} {e : Int} (hK : K (.int .i64 (if b = true then 0 else e)) s) : wpCall Try.prog XX 52 [.bool b, .int .i64 e] K s := by
  refine vc_fib_unless_in ?_
  cases b <;> exact hK
/-- what Forward answers -/
inductive Fwd (N : Nat) (G : List Lnk) (U : List Bool) (x m : Nat) (ttl : Int) (Bf : Nat → List Int) (h : Int) (cs : List AVal) : AVal → Prop where
  | at_ : x = m → Fwd N G U x m ttl Bf h cs (.tup [.int .i64 0, .agg zP, .int .i64 9])
  | time : x ≠ m → ttl < 2 → Fwd N G U x m ttl Bf h cs (.tup [.int .i64 0, .agg zP, .int .i64 20])
  | down : x ≠ m → 2 ≤ ttl → m ∉ ndL N G U x → Fwd N G U x m ttl Bf h cs (.tup [.int .i64 0, .agg zP, .int .i64 13])
  | go : x ≠ m → 2 ≤ ttl → m ∈ ndL N G U x → Fwd N G U x m ttl Bf h cs (.tup [.int .i64 (hopI Bf m h), .agg (cs.set 2 (.int .i64 (ttl - 1))), .int .i64 0])
theorem Forward_in {f x m : Nat} {Bf : Nat → List Int} {a e vn ttl : Int} {cs : List AVal} (h : FibB s f N G U x Bf) (hN : N ≤ 32) (hN0 : 1 ≤ N) (hG : G.length ≤ 128) (hp : Pk a (lbk m) e vn cs) (hc : cs[2]? = some (.int .i64 ttl)) (ht : -9223372036854775808 ≤ ttl ∧ ttl ≤ 9223372036854775807) (hm : m < 32)
    (hK : ∀ s' r, Sub s s' → Fwd N G U x m ttl Bf (fnv 14695981039346656037 (flowB a (lbk m) e vn)) cs r → K r s') : wpCall Try.prog XX 32 [.ptr f 0, .agg cs] K s := by
  obtain ⟨p1, p2, p3, p4, p5, p6⟩ := id hp
  refine vc_fib_Fib_Forward_in (box_step rfl fun b0 s1 hb0 h1 u1 => ⟨p2, new_step fun b2 s2 hb2 h2 u2 => new_step fun b4 s3 hb4 h3 u3 => ?_⟩)
  have sub1 := u1.sub hb0
  have sub2 := u2.sub hb2
  have sub3 := u3.sub hb4
  have h1' := sub3 _ _ (sub2 _ _ h1)
  have h2' := sub3 _ _ h2
  have s03 := (sub1.trans sub2).trans sub3
  have hf3 := h.sub s03
  obtain ⟨tf, lv, ev, mb, tm, c, ws, k1, k5, k6, k7⟩ := hf3.ex
  have ca : (fibC (N : Int) (x : Int) lv ev mb)[2]? = some (.int .u32 (lbk x)) := rfl
  simp only [rd1_mk h1', List.getElem?_cons_zero, optK_mk]
  refine valid_in k1 (by omega) ?_
  simp only [unary_not, Bool.not_true, boolK_false, optK_mk]
  refine new_step fun b13 s4 hb13 h4 u4 => wr1_step h4 (by simp) rfl fun s5 h5 u5 => ?_
  have h5 : s5 b13 = some (false, .cells 3 [.int .i64 0]) := h5
  have sub5 : Sub s3 s5 := sub_upto (u4.sub hb13) u5 hb13
  refine optK_of (a := [.fn (.func 51) [] [.ptr b2 0, .ptr b0 0], .fn (.func 53) [] [.ptr b2 0], .fn (.func 54) [] [.ptr b0 0, .ptr b2 0, .ptr b13 0]]) rfl ⟨rfl, new_step fun b17 s6 hb17 h6 u6 => ?_⟩
  have sub6 := u6.sub hb17
  have e3 : lenOfA (.slc b17 0 3 (some 3) 1) = some 3 := rfl
  simp only [e3, optK_mk]
  -- what does not change
  have hr : ∃ r : Heap, r = hdel s6 b13 := ⟨_, rfl⟩
  obtain ⟨r, hr⟩ := hr
  have rin : ∀ {i e}, s3 i = some e → r i = some e := fun {i e} hi => by
    rw [hr]
    have ne : i ≠ b13 := fun q => by rw [q, hb13] at hi; cases hi
    rw [hdel_ne ne]
    exact sub6 _ _ (sub5 _ _ hi)
  have ne17 : b17 ≠ b13 := fun q => by rw [q, h5] at hb17; cases hb17
  have r17 : r b17 = some (false, .cells 108 [.fn (.func 51) [] [.ptr b2 0, .ptr b0 0], .fn (.func 53) [] [.ptr b2 0], .fn (.func 54) [] [.ptr b0 0, .ptr b2 0, .ptr b13 0]]) := by
    rw [hr, hdel_ne ne17]; exact h6
  have rs6 : Sub r s6 := fun i e hi => by
    rw [hr] at hi
    have hi : (if i = b13 then none else s6 i) = some e := hi
    split at hi
    · cases hi
    · exact hi
  have s3r : Sub s3 r := fun i e hi => rin hi
  have r13 : r b13 = none := by rw [hr]; simp [hdel]
  refine ⟨fun ys t mm => ∃ (i : Nat) (q : Int), ys = [.int .i64 i] ∧ i ≤ 3 ∧ mm = 3 - i ∧ Sub r t ∧ t b13 = some (false, .cells 3 [.int .i64 q]) ∧ (1 ≤ i → x ≠ m) ∧ (2 ≤ i → 2 ≤ ttl) ∧ (3 ≤ i → m ∈ ndL N G U x ∧ q = hopI Bf m (fnv 14695981039346656037 (flowB a (lbk m) e vn))), ⟨_, 0, 0, rfl, by omega, rfl, rs6, sub6 _ _ h5, fun h => by omega, fun h => by omega, fun h => by omega⟩, ?_⟩
  rintro g t mm ⟨i, q, hy, hi, rfl, rt, t13, i1, i2, i3⟩
  simp only [List.cons.injEq, and_true] at hy
  rw [hy]
  have t0 := rt _ _ (s3r _ _ h1')
  have t2 := rt _ _ (s3r _ _ h2')
  have t2 : t b2 = some (false, .cells 56 cs) := t2
  have t4 := rt _ _ (s3r _ _ h3)
  have t4 : t b4 = some (false, .cells 56 zP) := t4
  have t17 := rt _ _ r17
  have tF := rt _ _ (s3r _ _ k1)
  have hft := hf3.sub (s3r.trans rt)
  have e0 : fillR zP [] = some zP := rfl
  have st := s03.trans (s3r.trans rt)
  -- an error ends it
  have stop : ∀ (t' : Heap) (er : Int), Sub r t' → (er == 0) = false → (∀ s', Sub s s' → K (.tup [.int .i64 0, .agg zP, .int .i64 er]) s') →
      optK (negB true (eqV 0 true (.int .i64 er) (.int .i64 0))) (fun v_26 => boolK v_26 (optK (fillR [(.int .u32 0), (.int .u32 0), (.int .i64 0), (.int .i64 0), (.int .u32 0), (.int .u32 0), (.int .u64 0), (.int .u64 0), (.int .i64 0), (.int .i64 0), (.int .u64 0), (.int .u32 0), (.int .u64 0), (.int .u32 0), (.int .u32 0), (.int .u32 0), (.int .i64 0), (.int .i64 0), (.int .i64 0), (.int .i64 0), (.int .u64 0)] []) fun c_27 =>
      optK (wrAgg t' 21 (.ptr b4 0) (.agg c_27)) fun s_28 =>
      optK (rdN s_28 21 (.ptr b4 0)) fun t5_29 =>
      K (.tup [(.int .i64 0), (.agg t5_29), (.int .i64 er)]) s_28) (optK (arithV .add (.int .i64 (i : Int)) (.int .i64 1)) fun v_30 =>
      ∃ m', m' < 3 - i ∧ ∃ (i : Nat) (q : Int), [v_30] = [.int .i64 i] ∧ i ≤ 3 ∧ m' = 3 - i ∧ Sub r t' ∧ t' b13 = some (false, .cells 3 [.int .i64 q]) ∧ (1 ≤ i → x ≠ m) ∧ (2 ≤ i → 2 ≤ ttl) ∧ (3 ≤ i → m ∈ ndL N G U x ∧ q = hopI Bf m (fnv 14695981039346656037 (flowB a (lbk m) e vn))))) := fun t' er rt' her hk => by
    have t4' := rt' _ _ (s3r _ _ h3)
    have t4' : t' b4 = some (false, .cells 56 zP) := t4'
    simp only [eqV_int, her, negB_mk, Bool.true_bne, Bool.not_false, boolK_true, optK_mk]
    refine optK_of e0 (wrAgg_step t4' rfl rfl rfl fun t5 h5' u5' => optK_of (rdN_all h5' rfl) (hk _ ?_))
    have hb4s : s b4 = none := fresh_of (sub1.trans sub2) hb4
    exact sub_upto (s03.trans (s3r.trans rt')) u5' hb4s
  have goOn : ∀ (t' : Heap) (q' : Int), Sub r t' → t' b13 = some (false, .cells 3 [.int .i64 q']) → i < 3 → (1 ≤ i + 1 → x ≠ m) → (2 ≤ i + 1 → 2 ≤ ttl) → (3 ≤ i + 1 → m ∈ ndL N G U x ∧ q' = hopI Bf m (fnv 14695981039346656037 (flowB a (lbk m) e vn))) →
      optK (negB true (eqV 0 true (.int .i64 0) (.int .i64 0))) (fun v_26 => boolK v_26 (optK (fillR [(.int .u32 0), (.int .u32 0), (.int .i64 0), (.int .i64 0), (.int .u32 0), (.int .u32 0), (.int .u64 0), (.int .u64 0), (.int .i64 0), (.int .i64 0), (.int .u64 0), (.int .u32 0), (.int .u64 0), (.int .u32 0), (.int .u32 0), (.int .u32 0), (.int .i64 0), (.int .i64 0), (.int .i64 0), (.int .i64 0), (.int .u64 0)] []) fun c_27 =>
      optK (wrAgg t' 21 (.ptr b4 0) (.agg c_27)) fun s_28 =>
      optK (rdN s_28 21 (.ptr b4 0)) fun t5_29 =>
      K (.tup [(.int .i64 0), (.agg t5_29), (.int .i64 0)]) s_28) (optK (arithV .add (.int .i64 (i : Int)) (.int .i64 1)) fun v_30 =>
      ∃ m', m' < 3 - i ∧ ∃ (i : Nat) (q : Int), [v_30] = [.int .i64 i] ∧ i ≤ 3 ∧ m' = 3 - i ∧ Sub r t' ∧ t' b13 = some (false, .cells 3 [.int .i64 q]) ∧ (1 ≤ i → x ≠ m) ∧ (2 ≤ i → 2 ≤ ttl) ∧ (3 ≤ i → m ∈ ndL N G U x ∧ q = hopI Bf m (fnv 14695981039346656037 (flowB a (lbk m) e vn))))) := fun t' q' a1 a2 a0 a3 a4 a5 => by
    have c : negB true (eqV 0 true (.int .i64 0) (.int .i64 0)) = some (.bool false) := rfl
    simp only [c, boolK_false, arith_add, optK_mk]
    rw [wrap64 (by omega) (by omega)]
    exact ⟨3 - (i + 1), by omega, i + 1, q', rfl, by omega, rfl, a1, a2, a3, a4, a5⟩
  simp only [vc_fib_Fib_Forward_l0, arith_lss, optK_mk]
  refine boolK_mk (fun hlt => ?_) (fun hge => ?_)
  · have hlt : i < 3 := by have := of_decide_eq_true hlt; omega
    have ad : iaddrS 1 (.slc b17 0 3 (some 3) 1) (.int .i64 (i : Int)) = some (.ptr b17 i) := s_addr hlt
    match i, hlt with
    | 0, _ =>
      have q0 : rd1 t (.ptr b17 0) = some (.fn (.func 51) [] [.ptr b2 0, .ptr b0 0]) := by rw [rd1_mk t17]; rfl
      simp only [ad, q0, optK_mk]
      refine fn_in (k := 51) (first := []) (cap := [.ptr b2 0, .ptr b0 0]) (by kernel_rfl) ?_
      show wpCall Try.prog XX 51 [.ptr b2 0, .ptr b0 0] _ t
      refine vc_fib_Fib_Forward_1_in ?_
      simp only [vc_fib_Fib_Forward_1, addOff_ptr, Nat.zero_add, rd1_mk t2, p4, rd1_mk t0, List.getElem?_cons_zero, nilCheck_ptr, rd1_mk tF, ca, eqV_int, negB_mk, Bool.true_bne, optK_mk]
      refine unless_in ?_
      by_cases c : m = x
      · have c2 : (lbk m == lbk x) = true := by rw [c]; simp
        simp only [c2, Bool.not_true, Bool.false_eq_true, if_false]
        exact stop t 9 rt rfl fun s' hs => hK s' _ hs (.at_ c.symm)
      · have c2 : (lbk m == lbk x) = false := beq_eq_false_iff_ne.2 fun e => c (lbk_inj e)
        simp only [c2, Bool.not_false, if_true]
        exact goOn t q rt t13 (by omega) (fun _ e => c e.symm) (fun h => by omega) fun h => by omega
    | 1, _ =>
      have q0 : rd1 t (.ptr b17 1) = some (.fn (.func 53) [] [.ptr b2 0]) := by rw [rd1_mk t17]; rfl
      simp only [ad, q0, optK_mk]
      refine fn_in (k := 53) (first := []) (cap := [.ptr b2 0]) (by kernel_rfl) ?_
      show wpCall Try.prog XX 53 [.ptr b2 0] _ t
      refine vc_fib_Fib_Forward_2_in ?_
      simp only [vc_fib_Fib_Forward_2, addOff_ptr, Nat.zero_add, rd1_mk t2, hc, arith_geq, optK_mk]
      refine unless_in ?_
      by_cases c : 2 ≤ ttl
      · rw [decide_eq_true c]
        simp only [if_true]
        exact goOn t q rt t13 (by omega) (fun _ => i1 (by omega)) (fun _ => c) fun h => by omega
      · rw [decide_eq_false c]
        simp only [Bool.false_eq_true, if_false]
        exact stop t 20 rt rfl fun s' hs => hK s' _ hs (.time (i1 (by omega)) (by omega))
    | 2, _ =>
      have q0 : rd1 t (.ptr b17 2) = some (.fn (.func 54) [] [.ptr b0 0, .ptr b2 0, .ptr b13 0]) := by rw [rd1_mk t17]; rfl
      simp only [ad, q0, optK_mk]
      refine fn_in (k := 54) (first := []) (cap := [.ptr b0 0, .ptr b2 0, .ptr b13 0]) (by kernel_rfl) ?_
      show wpCall Try.prog XX 54 [.ptr b0 0, .ptr b2 0, .ptr b13 0] _ t
      refine vc_fib_Fib_Forward_3_in ?_
      simp only [vc_fib_Fib_Forward_3, rd1_mk t0, List.getElem?_cons_zero, optK_mk]
      refine optK_of (rdN_all t2 p1) (pick_in hft hN hG hp hm (fun hq t' st' => ?_) fun hq t' st' => ?_)
      · have z0 : ∀ q : Int, extractA (.tup [.int .i64 q, .bool true]) 0 = some (.int .i64 q) := fun _ => rfl
        have z1 : ∀ q : Int, extractA (.tup [.int .i64 q, .bool true]) 1 = some (.bool true) := fun _ => rfl
        simp only [z0, z1, optK_mk]
        refine wr1_step (st' _ _ t13) (by simp) rfl fun t7 h7 u7 => unless_in ?_
        simp only [if_true]
        have rt7 : Sub r t7 := sub_upto (rt.trans st') u7 r13
        exact goOn t7 _ rt7 h7 (by omega) (fun _ => i1 (by omega)) (fun _ => i2 (by omega)) fun _ => ⟨hq, rfl⟩
      · have z0 : extractA (.tup [.int .i64 0, .bool false]) 0 = some (.int .i64 0) := rfl
        have z1 : extractA (.tup [.int .i64 0, .bool false]) 1 = some (.bool false) := rfl
        simp only [z0, z1, optK_mk]
        refine wr1_step (st' _ _ t13) (by simp) rfl fun t7 h7 u7 => unless_in ?_
        simp only [Bool.false_eq_true, if_false]
        have rt7 : Sub r t7 := sub_upto (rt.trans st') u7 r13
        exact stop t7 13 rt7 rfl fun s' hs => hK s' _ hs (.down (i1 (by omega)) (i2 (by omega)) hq)
  · have hge : i = 3 := by have := of_decide_eq_false hge; omega
    subst hge
    obtain ⟨hq, rfl⟩ := i3 (by omega)
    simp only [addOff_ptr, Nat.zero_add, rd1_mk t2, hc, arith_sub, optK_mk]
    have h2t := i2 (by omega)
    rw [wrap64 (by omega) (by omega)]
    refine wr1_step t2 (by rw [p1]; omega) rfl fun t5 h5 u5 => ?_
    have n1 : b13 ≠ b2 := fun q => by rw [q, t2] at t13; cases t13
    have n2 : b4 ≠ b2 := fun q => by rw [q, h2] at hb4; cases hb4
    have t13' : t5 b13 = some (false, .cells 3 [.int .i64 (hopI Bf m (fnv 14695981039346656037 (flowB a (lbk m) e vn)))]) := by rw [u5 _ n1]; exact t13
    have t4' : t5 b4 = some (false, .cells 56 zP) := by rw [u5 _ n2]; exact t4
    simp only [rd1_mk t13', List.getElem?_cons_zero, optK_mk]
    have ls : (cs.set 2 (.int .i64 (ttl - 1))).length = 21 := by rw [List.length_set]; exact p1
    refine optK_of (rdN_all h5 ls) (wrAgg_step t4' (by rw [ls]; rfl) rfl ?_ fun t6 h6 u6 => optK_of (rdN_all h6 ls) ?_)
    · exact allOne_set rfl p2
    refine hK t6 _ ?_ (.go (i1 (by omega)) h2t hq)
    have hb2s : s b2 = none := fresh_of sub1 hb2
    have hb4s : s b4 = none := fresh_of (sub1.trans sub2) hb4
    exact sub_upto (sub_upto st u5 hb2s) u6 hb4s
end Go.AM.FB
set_option linter.unusedVariables false
namespace Go.AM.FB
open Go Go.Proofs
variable {K : AVal → Heap → Prop} {s s' s0 t : Heap} {lv uv v y w : AVal} {N : Nat} {G : List Lnk} {U : List Bool} {d : Nat → Int} {L : List RLk}
/-! ### walks: what they answer -/
noncomputable def wk (N : Nat) (G : List Lnk) (U : List Bool) (BB : Nat → Nat → List Int) (m : Nat) (h : Int) : Nat → Nat → Int → List Nat × Int × Int
  | 0, _, _ => ([], -1, 0)
  | k + 1, x, ttl => if x = m then ([], (x : Int), 9) else if ttl < 2 then ([], (x : Int), 20) else if m ∉ ndL N G U x then ([], (x : Int), 13) else
    ((hopI (BB x) m h).toNat :: (wk N G U BB m h k (far G (hopI (BB x) m h).toNat x) (ttl - 1)).1, (wk N G U BB m h k (far G (hopI (BB x) m h).toNat x) (ttl - 1)).2)
/-- a link to a node that is nearer -/
theorem lnk_ed (z : GOk N G U) {x m i : Nat} (h : i ∈ lnk N G U x m) : ∃ n c, Ed G U i x n c ∧ dF N G U m x = dF N G U m n + c ∧ far G i x = n ∧ n < N ∧ 1 ≤ c := by
  unfold lnk nrL at h
  obtain ⟨⟨i', n, c⟩, he, rfl⟩ := List.mem_map.1 h
  obtain ⟨h1, h2⟩ := (mem_nearL z).1 he
  exact ⟨n, c, h1, h2, far_ed z h1, (z.ed h1).2.1, (z.ed h1).2.2.2.1⟩
/-! ### walks in memory -/
theorem rest_self : rest s s = fun _ => none := by
  funext i
  unfold rest
  split
  · rename_i h; exact h
  · rfl
theorem add_nil : add s (fun _ => none) = s := by
  funext i
  unfold add
  cases s i <;> rfl
theorem minus_nil : minus s (fun _ => none) = s := by
  funext i
  unfold minus
  rw [if_pos rfl]
/-- append while one block is hidden -/
theorem app_loose {elem : TypeId} {out yv : AVal} {l m : List AVal} {T : Heap} {q : Nat} {K1 : AVal → Heap → Prop} (ha : Acc elem s0 T out l) (hs : Sub s0 T) (hq : s0 q ≠ none) (hy : Sl (hdel T q) yv m) (hm : m ≠ []) (hl : l.length + m.length ≤ 16777216)
    (hK : ∀ v' F, Acc elem s0 F v' (l ++ m) → Sub s0 F → K1 v' F) :
    appK elem 1 out yv (fun v s41 => (∀ b, T b ≠ none → (minus T fun i => if i = q then T i else none) b = none → s41 b = none) → K1 v (add s41 (rest T (minus T fun i => if i = q then T i else none)))) (minus T fun i => if i = q then T i else none) := by
  have eR : (minus T fun i => if i = q then T i else none) = hdel T q := by
    funext i
    unfold minus hdel
    by_cases e : i = q
    · subst e
      simp only [if_true]
      by_cases c : T i = none
      · rw [if_pos c, c]
      · rw [if_neg c]
    · simp [e]
  rw [eR]
  have aR : Acc elem (hdel s0 q) (hdel T q) out l := by
    rcases ha with h | ⟨b, h0, h1, h2⟩
    · exact .inl h
    · have ne : b ≠ q := fun e => hq (by rw [← e]; exact h0)
      exact .inr ⟨b, by rw [hdel_ne ne]; exact h0, h1, by rw [hdel_ne ne]; exact h2⟩
  have sR : Sub (hdel s0 q) (hdel T q) := fun i e hi => by
    unfold hdel at hi ⊢
    split at hi
    · cases hi
    · rename_i ne
      rw [if_neg ne]
      exact hs _ _ hi
  refine aR.app2 sR hy hm hl fun v' s' a' k' hcond => ?_
  have hqT : T q ≠ none := by
    cases e : s0 q with
    | none => exact absurd e hq
    | some x => rw [hs _ _ e]; simp
  have hsq : s' q = none := hcond q hqT (by simp [hdel])
  refine hK v' _ ?_ fun i e hi => ?_
  · rcases a' with h | ⟨b, h0, h1, h2⟩
    · exact .inl h
    · have ne : b ≠ q := fun e => by rw [e, hsq] at h2; cases h2
      rw [hdel_ne ne] at h0
      exact .inr ⟨b, h0, h1, add_some h2⟩
  · by_cases ne : i = q
    · subst ne
      rw [add_none hsq]
      unfold rest
      rw [if_pos (by simp [hdel])]
      exact hs _ _ hi
    · exact add_some (k' _ _ (by rw [hdel_ne ne]; exact hi))
theorem walk_in {x m : Nat} {fs : List Nat} {BB : Nat → Nat → List Int} {av : AVal} {a e vn ttl : Int} {cs : List AVal} (z : GOk N G U) (hN : N ≤ 32) (hN0 : 1 ≤ N) (hG : G.length ≤ 128) (hl : SlR 3 s lv (G.map lkR)) (hu : Sl s uv (U.map AVal.bool)) (hall : Sl s av (fs.map fun f => .ptr f 0)) (hfs : fs.length = N)
    (hF : ∀ i f, fs[i]? = some f → FibB s f N G U i (BB i)) (hp : Pk a (lbk m) e vn cs) (hc : cs[2]? = some (.int .i64 ttl)) (ht : 0 ≤ ttl ∧ ttl ≤ 1000) (hx : x < N) (hm : m < N)
    (hK : ∀ s' w, Sub s s' → Acc 3 s s' w (iz (wk N G U BB m (fnv 14695981039346656037 (flowB a (lbk m) e vn)) 41 x ttl).1) → K (.tup [w, .int .i64 (wk N G U BB m (fnv 14695981039346656037 (flowB a (lbk m) e vn)) 41 x ttl).2.1, .int .i64 (wk N G U BB m (fnv 14695981039346656037 (flowB a (lbk m) e vn)) 41 x ttl).2.2]) s') :
    wpCall Try.prog XX 29 [.agg (netC (N : Int) lv uv), av, .int .i64 (x : Int), .agg cs] K s := by
  generalize hh : fnv 14695981039346656037 (flowB a (lbk m) e vn) = hq at hK
  refine vw_leafmeshlaw14_walk_in ⟨?_, new_step fun b0 s1 hb0 h1 u1 => ⟨hp.2.1, new_step fun b2 s2 hb2 h2 u2 => ?_⟩⟩
  · show ((AVal.int .i64 (N : Int)).one && (lv.one && (uv.one && true))) = true
    rw [hl.one, hu.one]; rfl
  have h1 : s1 b0 = some (false, .cells 63 (netC (N : Int) lv uv)) := h1
  have h2 : s2 b2 = some (false, .cells 56 cs) := h2
  have sub1 := u1.sub hb0
  have sub2 := u2.sub hb2
  have s02 := sub1.trans sub2
  have hb2s : s b2 = none := fresh_of sub1 hb2
  have e1 : (netC (N : Int) lv uv)[1]? = some lv := rfl
  have e2 : (netC (N : Int) lv uv)[2]? = some uv := rfl
  have set0 : ∀ {q : Int}, cs[2]? = some (.int .i64 q) → cs.set 2 (.int .i64 q) = cs := fun {q} h => by
    apply List.ext_getElem?
    intro i
    rw [List.getElem?_set]
    by_cases e : 2 = i
    · subst e
      rw [if_pos rfl, if_pos (by rw [hp.1]; omega), h]
    · rw [if_neg e]
  -- memory but for the packet
  have hr : ∃ r : Heap, r = hdel s2 b2 := ⟨_, rfl⟩
  obtain ⟨r, hr⟩ := hr
  have rs2 : Sub r s2 := fun i e hi => by
    rw [hr] at hi
    have hi : (if i = b2 then none else s2 i) = some e := hi
    split at hi
    · cases hi
    · exact hi
  have sr : Sub s r := fun i e hi => by
    have ne : i ≠ b2 := fun q => by rw [q, hb2s] at hi; cases hi
    rw [hr, hdel_ne ne]
    exact s02 _ _ hi
  have ne02 : b0 ≠ b2 := fun q => by rw [q, hb2] at h1; cases h1
  have r0 : r b0 = some (false, .cells 63 (netC (N : Int) lv uv)) := by rw [hr, hdel_ne ne02]; exact sub2 _ _ h1
  have r2 : r b2 = none := by rw [hr]; simp [hdel]
  refine ⟨fun ys t mm => ∃ (k n : Nat) (ov : AVal) (l : List Nat) (q : Int), ys = [ov, .int .i64 (n : Int), .int .i64 (k : Int)] ∧ k ≤ 41 ∧ mm = 41 - k ∧ n < N ∧ 0 ≤ q ∧ q ≤ 1000 ∧ Sub r t ∧ t b2 = some (false, .cells 56 (cs.set 2 (.int .i64 q))) ∧ Acc 3 s2 t ov (iz l) ∧ l.length = k ∧
    wk N G U BB m hq 41 x ttl = (l ++ (wk N G U BB m hq (41 - k) n q).1, (wk N G U BB m hq (41 - k) n q).2), ⟨_, 0, x, .nilslc, [], ttl, rfl, by omega, rfl, hx, ht.1, ht.2, rs2, by rw [set0 hc]; exact h2, .inl ⟨rfl, rfl⟩, rfl, rfl⟩, ?_⟩
  rintro g t mm ⟨k, n, ov, l, q, hy, hk, rfl, hn, hq0, hq1, rt, t2, acc, hlk, hwk⟩
  simp only [List.cons.injEq, and_true] at hy
  rw [hy.1, hy.2.1, hy.2.2]
  have st := sr.trans rt
  simp only [vw_leafmeshlaw14_walk_l0, arith_leq, optK_mk]
  refine boolK_mk (fun hlt => ?_) (fun hge => ?_)
  rotate_left
  · have hge := of_decide_eq_false hge
    have hk' : k = 41 := by omega
    subst hk'
    have e0 : wk N G U BB m hq 41 x ttl = (l, -1, 0) := by rw [hwk]; simp [wk]
    have := hK t ov st
    rw [e0] at this
    exact this (acc.weak s02)
  have hlt : k ≤ 40 := by have := of_decide_eq_true hlt; omega
  obtain ⟨j, hj⟩ : ∃ j, 41 - k = j + 1 := ⟨40 - k, by omega⟩
  obtain ⟨f, hf⟩ : ∃ f, fs[n]? = some f := ⟨_, List.getElem?_eq_getElem (by omega)⟩
  obtain ⟨fp, g1, g2⟩ := (hall.sub st).get (i := n) (by rw [List.length_map]; omega)
  rw [List.getElem?_map, hf] at g2
  have g2 : rd1 t fp = some (.ptr f 0) := g2
  have cl : (cs.set 2 (.int .i64 q)).length = 21 := by rw [List.length_set]; exact hp.1
  simp only [g1, g2, optK_mk]
  refine optK_of (rdN_all t2 cl) ⟨fun _ => none, fun _ h => absurd rfl h, ?_⟩
  rw [minus_nil]
  have hp' : Pk a (lbk m) e vn (cs.set 2 (.int .i64 q)) := by
    obtain ⟨q1, q2, q3, q4, q5, q6⟩ := hp
    refine ⟨cl, allOne_set rfl q2, ?_, ?_, ?_, ?_⟩ <;> rw [List.getElem?_set_ne (by omega)] <;> assumption
  have hc' : (cs.set 2 (AVal.int .i64 q))[2]? = some (.int .i64 q) := by rw [List.getElem?_set_self (by rw [hp.1]; omega)]
  refine Forward_in ((hF n f hf).sub st) hN hN0 hG hp' hc' (by omega) (by omega) fun t1 rv tt1 fwd _ => ?_
  rw [rest_self, add_nil]
  rw [hh] at fwd
  have x0 : ∀ {p q r : AVal}, extractA (.tup [p, q, r]) 0 = some p := rfl
  have x1 : ∀ {p q r : AVal}, extractA (.tup [p, q, r]) 1 = some q := rfl
  have x2 : ∀ {p q r : AVal}, extractA (.tup [p, q, r]) 2 = some r := rfl
  -- an error ends the walk
  have stop : ∀ er : Int, (er == 0) = false → wk N G U BB m hq (j + 1) n q = ([], (n : Int), er) → rv = .tup [.int .i64 0, .agg zP, .int .i64 er] → K (.tup [ov, .int .i64 (n : Int), .int .i64 er]) = K (.tup [ov, .int .i64 (n : Int), .int .i64 er]) ∧ ∀ t3, Sub t t3 → K (.tup [ov, .int .i64 (n : Int), .int .i64 er]) t3 := fun er _ hw _ => ⟨rfl, fun t3 k3 => by
    have e0 : wk N G U BB m hq 41 x ttl = (l, (n : Int), er) := by rw [hwk, hj, hw]; simp
    have := hK t3 ov (st.trans k3)
    rw [e0] at this
    exact this ((acc.sub k3).weak s02)⟩
  have err : ∀ er : Int, (er == 0) = false → wk N G U BB m hq (j + 1) n q = ([], (n : Int), er) → rv = .tup [.int .i64 0, .agg zP, .int .i64 er] → ∀ t3, Sub t t3 → K (.tup [ov, .int .i64 (n : Int), .int .i64 er]) t3 := fun er a b c => (stop er a b c).2
  cases fwd with
  | at_ hxm =>
    simp only [x0, x1, x2, optK_mk]
    refine newM fun b14 s15 hb14 h14 u14 => ?_
    have k15 := u14.sub hb14
    generalize add t1 s15 = t3 at h14 u14 k15
    refine wrAgg_step h14 rfl rfl rfl fun t4 h4 u4 => ?_
    have c : negB true (eqV 0 true (.int .i64 9) (.int .i64 0)) = some (.bool true) := rfl
    simp only [c, boolK_true, optK_mk]
    refine err 9 rfl (by simp [wk, hxm]) rfl t4 (sub_upto (tt1.trans k15) u4 (fresh_of tt1 hb14))
  | time hxm htt =>
    simp only [x0, x1, x2, optK_mk]
    refine newM fun b14 s15 hb14 h14 u14 => ?_
    have k15 := u14.sub hb14
    generalize add t1 s15 = t3 at h14 u14 k15
    refine wrAgg_step h14 rfl rfl rfl fun t4 h4 u4 => ?_
    have c : negB true (eqV 0 true (.int .i64 20) (.int .i64 0)) = some (.bool true) := rfl
    simp only [c, boolK_true, optK_mk]
    refine err 20 rfl (by simp [wk, hxm, htt]) rfl t4 (sub_upto (tt1.trans k15) u4 (fresh_of tt1 hb14))
  | down hxm htt hnd =>
    simp only [x0, x1, x2, optK_mk]
    refine newM fun b14 s15 hb14 h14 u14 => ?_
    have k15 := u14.sub hb14
    generalize add t1 s15 = t3 at h14 u14 k15
    refine wrAgg_step h14 rfl rfl rfl fun t4 h4 u4 => ?_
    have c : negB true (eqV 0 true (.int .i64 13) (.int .i64 0)) = some (.bool true) := rfl
    simp only [c, boolK_true, optK_mk]
    refine err 13 rfl (by simp [wk, hxm, show ¬ q < 2 by omega, hnd]) rfl t4 (sub_upto (tt1.trans k15) u4 (fresh_of tt1 hb14))
  | go hxm htt hnd =>
    obtain ⟨i, hi, hop⟩ := (hF n f hf).hop (q := hq) hnd
    obtain ⟨nn, cst, ed, _, hfar, hnn, _⟩ := lnk_ed z hi
    have hw : wk N G U BB m hq (j + 1) n q = (i :: (wk N G U BB m hq j nn (q - 1)).1, (wk N G U BB m hq j nn (q - 1)).2) := by
      have : (hopI (BB n) m hq).toNat = i := by rw [hop]; rfl
      simp only [wk, if_neg hxm, if_neg (show ¬ q < 2 by omega), if_neg (show ¬ m ∉ ndL N G U n from fun h => h hnd), this, hfar]
    rw [hop]
    rw [List.set_set]
    have cl' : (cs.set 2 (.int .i64 (q - 1))).length = 21 := by rw [List.length_set]; exact hp.1
    simp only [x0, x1, x2, optK_mk]
    refine newM fun b14 s15 hb14 h14 u14 => ?_
    have k15 := u14.sub hb14
    generalize add t1 s15 = t3 at h14 u14 k15
    have h14 : t3 b14 = some (false, .cells 56 zP) := h14
    refine wrAgg_step h14 (by rw [cl']; rfl) rfl (allOne_set rfl hp.2.1) fun t4 h4 u4 => ?_
    have tt4 : Sub t t4 := sub_upto (tt1.trans k15) u4 (fresh_of tt1 hb14)
    have rt4 := rt.trans tt4
    have st4 := st.trans tt4
    have b04 := rt4 _ _ r0
    have b24 := tt4 _ _ t2
    have iG : i < G.length := lnk_lt hi
    have c : negB true (eqV 0 true (.int .i64 0) (.int .i64 0)) = some (.bool false) := rfl
    have c2 : decide ((i : Int) < 0) = false := decide_eq_false (by omega)
    have c3 : decide ((G.length : Int) ≤ (i : Int)) = false := decide_eq_false (by omega)
    have lv4 := hl.sub st4
    have uv4 := hu.sub st4
    obtain ⟨up, w1, w2⟩ := uv4.get (i := i) (by rw [List.length_map, z.len]; exact iG)
    rw [List.getElem?_map, ed.1] at w2
    have w2 : rd1 t4 up = some (.bool true) := w2
    have q4 : (cs.set 2 (.int .i64 (q - 1)))[2]? = some (AVal.int .i64 (q - 1)) := by rw [List.getElem?_set_self (by rw [hp.1]; omega)]
    simp only [c, boolK_false, arith_lss, c2, addOff_ptr, Nat.zero_add, rd1_mk b04, e1, e2, lv4.len, List.length_map, arith_geq, c3, vw_leafmeshlaw14_walk_j1, pickV_false, w1, w2, unary_not, Bool.not_true, vw_leafmeshlaw14_walk_j2, rd1_mk h4, q4, rd1_mk b24, hc', arith_sub, optK_mk]
    rw [wrap64 (by omega) (by omega)]
    simp only [eqV_int, beq_self_eq_true, negB_mk, Bool.true_bne, Bool.not_true, vw_leafmeshlaw14_walk_j3, pickV_false, boolK_false, addOff_ptr, Nat.zero_add, rd1_mk b04, e1, optK_mk]
    -- the link
    obtain ⟨la, lb, lc, hG2, hcase⟩ : ∃ la lb lc, G[i]? = some (la, lb, lc) ∧ ((la = n ∧ lb = nn) ∨ (la = nn ∧ lb = n ∧ la ≠ n)) := by
      have hne := (z.ed ed).2.2.1
      rcases ed.2 with h | h
      · exact ⟨_, _, _, h, .inl ⟨rfl, rfl⟩⟩
      · exact ⟨_, _, _, h, .inr ⟨rfl, rfl, fun e => hne e.symm⟩⟩
    obtain ⟨pb, po, y1, y2, _⟩ := lv4.get (i := i) (r := lkR (la, lb, lc)) (by rw [List.getElem?_map, hG2]; rfl)
    simp only [y1, y2, optK_mk]
    refine new_step fun b26 t5 hb26 h5 u5 => wrAgg_step h5 rfl rfl rfl fun t6 h6 u6 => ?_
    have h6 : t6 b26 = some (false, .cells 27 [.int .i64 (la : Int), .int .i64 (lb : Int), .int .i64 (lc : Int)]) := h6
    have k46 : Sub t4 t6 := sub_upto (u5.sub hb26) u6 hb26
    have tt6 := tt4.trans k46
    have f0 : [AVal.int .i64 (la : Int), .int .i64 (lb : Int), .int .i64 (lc : Int)][0]? = some (.int .i64 (la : Int)) := rfl
    have f1 : [AVal.int .i64 (la : Int), .int .i64 (lb : Int), .int .i64 (lc : Int)][1]? = some (.int .i64 (lb : Int)) := rfl
    have h46 := k46 _ _ h4
    have b26' := tt6 _ _ t2
    have nb : b14 ≠ b2 := fun e => by rw [e] at hb14; rw [tt1 _ _ t2] at hb14; cases hb14
    -- the rest: the link is appended, the packet replaced
    have last : vw_leafmeshlaw14_walk_j5 XX (.ptr b2 0) ov (.int .i64 (nn : Int)) (.int .i64 (k : Int)) (.int .i64 (i : Int)) (.ptr b14 0) (fun ys t mm => ∃ (k n : Nat) (ov : AVal) (l : List Nat) (q : Int), ys = [ov, .int .i64 (n : Int), .int .i64 (k : Int)] ∧ k ≤ 41 ∧ mm = 41 - k ∧ n < N ∧ 0 ≤ q ∧ q ≤ 1000 ∧ Sub r t ∧ t b2 = some (false, .cells 56 (cs.set 2 (.int .i64 q))) ∧ Acc 3 s2 t ov (iz l) ∧ l.length = k ∧
        wk N G U BB m hq 41 x ttl = (l ++ (wk N G U BB m hq (41 - k) n q).1, (wk N G U BB m hq (41 - k) n q).2)) (41 - k) K t6 := by
      unfold vw_leafmeshlaw14_walk_j5
      refine optK_of (a := [.int .i64 (i : Int)]) rfl ⟨rfl, newM (l := []) fun b37 s38 hb37 h37 u37 => ?_⟩
      have k67 := u37.sub hb37
      generalize add t6 s38 = T at h37 u37 k67
      have hTq := k67 _ _ h46
      refine ⟨fun i => if i = b14 then T i else none, fun b hb => ?_, ?_⟩
      · by_cases eb : b = b14
        · subst eb; rw [hTq]; simp
        · exact absurd (if_neg eb) hb
      have s2t : ∀ i e, s2 i = some e → i ≠ b2 → t i = some e := fun i e hi ne => rt _ _ (by rw [hr, hdel_ne ne]; exact hi)
      -- what the list's block is apart from
      have base : ∃ B0 : Heap, B0 = fun i => if i = b14 then T i else if i = b2 then T i else r i := ⟨_, rfl⟩
      obtain ⟨B0, hB0⟩ := base
      have tT := tt6.trans k67
      have rT := rt.trans tT
      have bT : Sub B0 T := fun i e hi => by
        rw [hB0] at hi
        have hi : (if i = b14 then T i else if i = b2 then T i else r i) = some e := hi
        split at hi
        · exact hi
        · split at hi
          · exact hi
          · exact rT _ _ hi
      have ne37 : b37 ≠ b14 := fun e => by rw [e, h46] at hb37; cases hb37
      have accT : Acc 3 B0 T ov (iz l) := by
        rcases acc with h | ⟨b, q0, q1, q2⟩
        · exact .inl h
        · refine .inr ⟨b, ?_, q1, tT _ _ q2⟩
          have n1 : b ≠ b14 := fun e => by rw [e] at q2; rw [tt1 _ _ q2] at hb14; cases hb14
          have n2 : b ≠ b2 := fun e => by rw [e, h2] at q0; cases q0
          rw [hB0]
          show (if b = b14 then T b else if b = b2 then T b else r b) = none
          rw [if_neg n1, if_neg n2, hr, hdel_ne n2]
          exact q0
      refine app_loose (yv := .slc b37 0 1 (some 1) 1) (K1 := fun v_40 F => optK (rdN (cutH [(t6, T), (fun i => if i = b14 then T i else none, fullH)] F) 21 (.ptr b14 0)) fun v_42 =>
        optK (wrAgg F 21 (.ptr b2 0) (.agg v_42)) fun s_43 =>
        optK (arithV .add (.int .i64 (k : Int)) (.int .i64 1)) fun v_44 =>
        ∃ m', m' < 41 - k ∧ ∃ (k n : Nat) (ov : AVal) (l : List Nat) (q : Int), [v_40, .int .i64 (nn : Int), v_44] = [ov, .int .i64 (n : Int), .int .i64 (k : Int)] ∧ k ≤ 41 ∧ m' = 41 - k ∧ n < N ∧ 0 ≤ q ∧ q ≤ 1000 ∧ Sub r s_43 ∧ s_43 b2 = some (false, .cells 56 (cs.set 2 (.int .i64 q))) ∧ Acc 3 s2 s_43 ov (iz l) ∧ l.length = k ∧
          wk N G U BB m hq 41 x ttl = (l ++ (wk N G U BB m hq (41 - k) n q).1, (wk N G U BB m hq (41 - k) n q).2)) accT bT (by rw [hB0]; show (if b14 = b14 then T b14 else if b14 = b2 then T b14 else r b14) ≠ none; rw [if_pos rfl, hTq]; simp) (m := [.int .i64 (i : Int)]) (Sl.mk (by rw [hdel_ne ne37]; exact h37) rfl (by simp)) (by simp) (by rw [iz_len, hlk]; simp only [List.length_singleton]; omega) fun v' F aF kF => ?_
      have F14 : F b14 = some (false, .cells 56 (cs.set 2 (.int .i64 (q - 1)))) := kF _ _ (by rw [hB0]; show (if b14 = b14 then T b14 else if b14 = b2 then T b14 else r b14) = _; rw [if_pos rfl]; exact hTq)
      have F2 : F b2 = some (false, .cells 56 (cs.set 2 (.int .i64 q))) := kF _ _ (by rw [hB0]; show (if b2 = b14 then T b2 else if b2 = b2 then T b2 else r b2) = _; rw [if_neg (Ne.symm nb), if_pos rfl]; exact tT _ _ t2)
      have rF : Sub r F := fun i e hi => by
        refine kF _ _ ?_
        rw [hB0]
        show (if i = b14 then T i else if i = b2 then T i else r i) = some e
        split
        · exact rT _ _ hi
        · split
          · exact rT _ _ hi
          · exact hi
      have cF : cutH [(t6, T), (fun i => if i = b14 then T i else none, fullH)] F b14 = some (false, .cells 56 (cs.set 2 (.int .i64 (q - 1)))) := by
        have hne : cutH [(t6, T), (fun i => if i = b14 then T i else none, fullH)] F b14 ≠ none := by
          refine cutH_put (by rw [F14]; simp) fun p hp => ?_
          simp only [List.mem_cons, List.not_mem_nil, or_false] at hp
          rcases hp with rfl | rfl
          · rintro ⟨h, _⟩; have h : t6 b14 = none := h; rw [h46] at h; cases h
          · rintro ⟨h, _⟩; have h : (if b14 = b14 then T b14 else none) = none := h; rw [if_pos rfl, hTq] at h; cases h
        rw [(cutH_get hne).2.2, F14]
      refine optK_of (rdN_all cF cl') (wrAgg_step F2 (by rw [cl', cl]) cl (allOne_set rfl hp.2.1) fun F' hF' uF' => ?_)
      simp only [arith_add, optK_mk]
      rw [wrap64 (by omega) (by omega)]
      refine ⟨41 - (k + 1), by omega, k + 1, nn, v', l ++ [i], q - 1, rfl, by omega, rfl, hnn, by omega, by omega, ?_, hF', ?_, by rw [List.length_append, hlk]; rfl, ?_⟩
      · intro i e hi
        have ne : i ≠ b2 := fun q => by rw [q, r2] at hi; cases hi
        rw [uF' _ ne]
        exact rF _ _ hi
      · rcases aF with h | ⟨b, q0, q1, q2⟩
        · simp at h
        · have n2 : b ≠ b2 := fun e => by
            rw [e, hB0] at q0
            have q0 : (if b2 = b14 then T b2 else if b2 = b2 then T b2 else r b2) = none := q0
            rw [if_neg (Ne.symm nb), if_pos rfl, tT _ _ t2] at q0
            cases q0
          have n1 : b ≠ b14 := fun e => by
            rw [e, hB0] at q0
            have q0 : (if b14 = b14 then T b14 else if b14 = b2 then T b14 else r b14) = none := q0
            rw [if_pos rfl, hTq] at q0
            cases q0
          refine .inr ⟨b, ?_, ?_, ?_⟩
          · rw [hB0] at q0
            have q0 : (if b = b14 then T b else if b = b2 then T b else r b) = none := q0
            rw [if_neg n1, if_neg n2, hr, hdel_ne n2] at q0
            exact q0
          · rw [iz_app]; exact q1
          · rw [uF' _ n2, iz_app]; exact q2
      · rw [hwk, hj, hw]
        have : 41 - (k + 1) = j := by omega
        rw [this]
        simp
    have enn : ∀ a b : Nat, a ≠ b → ((a : Int) == (b : Int)) = false := fun a b h => beq_eq_false_iff_ne.2 (by omega)
    rcases hcase with ⟨q1, q2⟩ | ⟨q1, q2, q3⟩
    · subst q1 q2
      simp only [addOff_ptr, Nat.zero_add, rd1_mk h6, f0, eqV_int, beq_self_eq_true, negB_mk, Bool.true_bne, Bool.not_true, boolK_false, vw_leafmeshlaw14_walk_j4, pickV_false, Bool.false_bne, boolK_true, f1, optK_mk]
      exact last
    · subst q1 q2
      simp only [addOff_ptr, Nat.zero_add, rd1_mk h6, f0, f1, eqV_int, enn _ _ q3, beq_self_eq_true, negB_mk, Bool.true_bne, Bool.not_true, Bool.not_false, boolK_true, boolK_false, vw_leafmeshlaw14_walk_j4, pickV_true, Bool.false_bne, optK_mk]
      exact last
end Go.AM.FB
set_option linter.unusedVariables false
namespace Go.AM.FB
open Go Go.Proofs
variable {N : Nat} {G : List Lnk} {U : List Bool} {d d' : Nat → Int}
/-! ### the plain law of walks -/
theorem tri (z : GOk N G U) {n m i c : Nat} (hn : IsDist N G U n d) (hm : IsDist N G U m d') (e : Ed G U i n m c) : ∀ (k y : Nat), y < N → 0 ≤ d' y → (d' y).toNat = k → 0 ≤ d y ∧ d y ≤ d' y + c := by
  intro k
  induction k using Nat.strongRecOn with
  | _ k ih =>
    intro y hy h0 hk
    by_cases q : y = m
    · subst q
      have := hn.clo _ _ _ _ e.sym (by rw [hn.fr]; omega)
      rw [hn.fr] at this
      rw [hm.fr]
      omega
    · obtain ⟨i', p, c', e1, e2, e3⟩ := hm.sup y hy h0 q
      have hp := (z.ed e1).2.1
      have h1 := (z.ed e1).2.2.2.1
      obtain ⟨a1, a2⟩ := ih (d' p).toNat (by omega) p hp e2 rfl
      have := hn.clo _ _ _ _ e1 a1
      omega
theorem sym_le (z : GOk N G U) (hN : N ≤ 40) {a : Nat} (ha : a < N) (h : IsDist N G U a d) : ∀ (k n : Nat), n < N → 0 ≤ d n → (d n).toNat = k → ∀ dn, IsDist N G U n dn → 0 ≤ dn a ∧ dn a ≤ d n := by
  intro k
  induction k using Nat.strongRecOn with
  | _ k ih =>
    intro n hn h0 hk dn isn
    by_cases q : n = a
    · subst q
      rw [isn.fr, h.fr]
      omega
    · obtain ⟨i, p, c, e1, e2, e3⟩ := h.sup n hn h0 q
      have hp := (z.ed e1).2.1
      have h1 := (z.ed e1).2.2.2.1
      have isp := dF_all z hN hp
      obtain ⟨a1, a2⟩ := ih (d p).toNat (by omega) p hp e2 rfl _ isp
      obtain ⟨b1, b2⟩ := tri z isn isp e1 _ a ha a1 rfl
      omega
/-- distances are the same both ways -/
theorem dist_sym (z : GOk N G U) (hN : N ≤ 40) {a b : Nat} (ha : a < N) (hb : b < N) (h : IsDist N G U a d) (h' : IsDist N G U b d') : (0 ≤ d b ↔ 0 ≤ d' a) ∧ (0 ≤ d b → d b = d' a) := by
  have f1 : 0 ≤ d b → 0 ≤ d' a ∧ d' a ≤ d b := fun q => sym_le z hN ha h _ b hb q rfl _ h'
  have f2 : 0 ≤ d' a → 0 ≤ d b ∧ d b ≤ d' a := fun q => sym_le z hN hb h' _ a ha q rfl _ h
  refine ⟨⟨fun q => (f1 q).1, fun q => (f2 q).1⟩, fun q => ?_⟩
  have := f1 q
  have := f2 this.1
  omega
/-- whether a node has an entry for 'm', by the distances from 'm' -/
theorem nd_iff (z : GOk N G U) (hN : N ≤ 40) {m x : Nat} (hm : m < N) (hx : x < N) : m ∈ ndL N G U x ↔ x ≠ m ∧ 0 ≤ dF N G U m x := by
  have is := dF_all z hN hm
  rw [mem_ndL]
  unfold lnk
  rw [ne_eq, nrL_nil]
  constructor
  · rintro ⟨_, q⟩
    refine ⟨fun e => q (by rw [e]; exact par_root z is), ?_⟩
    by_cases c : 0 ≤ dF N G U m x
    · exact c
    · exact absurd (par_neg z is (by omega)) q
  · rintro ⟨q1, q2⟩
    obtain ⟨i, hi⟩ := par_none z is hx q2 q1
    exact ⟨hm, by rw [hi]; omega⟩
noncomputable def cntN (N : Nat) (D : Nat → Int) (x : Nat) : Nat := (List.range N).countP fun n => decide (0 ≤ D n ∧ D n < D x)
theorem cntN_lt {D : Nat → Int} {x n : Nat} (hn : n < N) (h0 : 0 ≤ D n) (h : D n < D x) : cntN N D n + 1 ≤ cntN N D x := by
  unfold cntN
  refine cntF_lt (y := n) (fun a _ ha => ?_) (List.mem_range.2 hn) ?_ ?_
  · rw [decide_eq_true_eq] at ha ⊢
    omega
  · simp
  · rw [decide_eq_true_eq]; exact ⟨h0, h⟩
theorem cntN_le {D : Nat → Int} {x : Nat} (hx : x < N) : cntN N D x + 1 ≤ N := by
  have h1 : cntN N D x + 1 ≤ (List.range N).countP fun _ => true := by
    unfold cntN
    refine cntF_lt (y := x) (fun a _ _ => rfl) (List.mem_range.2 hx) ?_ rfl
    simp
  have h2 : (List.range N).countP (fun _ => true) = N := by
    rw [List.countP_true, List.length_range]
  omega
def cst (G : List Lnk) (i : Nat) : Nat := match G[i]? with
  | some x => x.2.2
  | none => 0
def csum (G : List Lnk) (l : List Nat) : Nat := (l.map (cst G)).sum
theorem cst_ed {i n m c : Nat} (h : Ed G U i n m c) : cst G i = c := by
  unfold cst
  rcases h.2 with e | e <;> rw [e]
variable {BB : Nat → Nat → List Int} {m : Nat} {h : Int}
/-- a packet that can arrive arrives, over links whose costs add up to the distance -/
theorem wk_all (z : GOk N G U) (hN : N ≤ 40) (hm : m < N) (hop : ∀ x, x < N → m ∈ ndL N G U x → ∃ i ∈ lnk N G U x m, hopI (BB x) m h = (i : Int)) : ∀ (c x fuel : Nat) (ttl : Int), x < N → 0 ≤ dF N G U m x → cntN N (dF N G U m) x ≤ c → c + 1 ≤ fuel → (c : Int) + 2 ≤ ttl →
    ∃ l, wk N G U BB m h fuel x ttl = (l, (m : Int), 9) ∧ (csum G l : Int) = dF N G U m x ∧ l.length ≤ c ∧ ∀ i ∈ l, i < G.length := by
  have is := dF_all z hN hm
  intro c
  induction c with
  | zero =>
    intro x fuel ttl hx h0 hc hf ht
    obtain ⟨k, rfl⟩ : ∃ k, fuel = k + 1 := ⟨fuel - 1, by omega⟩
    have e : x = m := by
      by_cases q : x = m
      · exact q
      · exfalso
        obtain ⟨i, hi, _⟩ := hop x hx ((nd_iff z hN hm hx).2 ⟨q, h0⟩)
        obtain ⟨n, c, e1, e2, _, hn, h1⟩ := lnk_ed z hi
        have hn0 : 0 ≤ dF N G U m n := by
          by_cases q0 : 0 ≤ dF N G U m n
          · exact q0
          · have := (dist_con z is hx).1 h0
            have hl := is.clo _ _ _ _ e1.sym h0
            exact hl.1
        have := cntN_lt (D := dF N G U m) (x := x) hn hn0 (by omega)
        omega
    subst e
    refine ⟨[], by simp [wk], ?_, by simp, by simp⟩
    rw [is.fr]; rfl
  | succ c ih =>
    intro x fuel ttl hx h0 hc hf ht
    obtain ⟨k, rfl⟩ : ∃ k, fuel = k + 1 := ⟨fuel - 1, by omega⟩
    by_cases q : x = m
    · subst q
      refine ⟨[], by simp [wk], ?_, by simp, by simp⟩
      rw [is.fr]; rfl
    · have hnd := (nd_iff z hN hm hx).2 ⟨q, h0⟩
      obtain ⟨i, hi, hh⟩ := hop x hx hnd
      obtain ⟨n, w, e1, e2, hfar, hn, h1⟩ := lnk_ed z hi
      have hn0 := (is.clo _ _ _ _ e1.sym h0).1
      have hcn := cntN_lt (D := dF N G U m) (x := x) hn hn0 (by omega)
      obtain ⟨l, l1, l2, l3, l4⟩ := ih n k (ttl - 1) hn hn0 (by omega) (by omega) (by omega)
      have ti : (hopI (BB x) m h).toNat = i := by rw [hh]; rfl
      refine ⟨i :: l, ?_, ?_, by rw [List.length_cons]; omega, fun j hj => ?_⟩
      · simp only [wk, if_neg q, if_neg (show ¬ ttl < 2 by omega), if_neg (show ¬ m ∉ ndL N G U x from fun a => a hnd), ti, hfar, l1]
      · unfold csum at l2 ⊢
        rw [List.map_cons, List.sum_cons, cst_ed e1]
        omega
      · rcases List.mem_cons.1 hj with rfl | hj
        · exact lnk_lt hi
        · exact l4 j hj
theorem wk_down (z : GOk N G U) (hN : N ≤ 40) (hm : m < N) {x k : Nat} {ttl : Int} (hx : x < N) (h0 : ¬ 0 ≤ dF N G U m x) (ht : 2 ≤ ttl) : wk N G U BB m h (k + 1) x ttl = ([], (x : Int), 13) := by
  have q : x ≠ m := fun e => by
    rw [e, (dF_all z hN hm).fr] at h0
    omega
  have hnd : m ∉ ndL N G U x := fun a => h0 ((nd_iff z hN hm hx).1 a).2
  simp only [wk, if_neg q, if_neg (show ¬ ttl < 2 by omega), if_pos hnd]
/-- with as many steps as the way has, it ends one too early -/
theorem wk_time : ∀ (k x : Nat) (ttl : Int) (l : List Nat), wk N G U BB m h k x ttl = (l, (m : Int), 9) → l ≠ [] → (wk N G U BB m h k x (l.length : Int)).2.2 = 20 := by
  intro k
  induction k with
  | zero => intro x ttl l e hl; simp only [wk, Prod.mk.injEq] at e; exact absurd e.1.symm hl
  | succ k ih =>
    intro x ttl l e hl
    simp only [wk] at e
    by_cases q : x = m
    · rw [if_pos q] at e
      cases e
      exact absurd rfl hl
    rw [if_neg q] at e
    by_cases q2 : ttl < 2
    · rw [if_pos q2] at e; cases e
    rw [if_neg q2] at e
    by_cases q3 : m ∉ ndL N G U x
    · rw [if_pos q3] at e; cases e
    rw [if_neg q3] at e
    obtain ⟨e1, e2⟩ := Prod.mk.inj e
    subst e1
    have e3 : wk N G U BB m h k (far G (hopI (BB x) m h).toNat x) (ttl - 1) = ((wk N G U BB m h k (far G (hopI (BB x) m h).toNat x) (ttl - 1)).1, ((m : Int), 9)) := Prod.ext rfl e2
    generalize (wk N G U BB m h k (far G (hopI (BB x) m h).toNat x) (ttl - 1)).1 = l' at *
    simp only [wk, if_neg q, if_neg q3, List.length_cons]
    by_cases q4 : l' = []
    · rw [q4]
      simp
    · have hlen : 0 < l'.length := List.length_pos_iff.2 q4
      rw [if_neg (show ¬ ((l'.length + 1 : Nat) : Int) < 2 by omega)]
      have := ih (far G (hopI (BB x) m h).toNat x) (ttl - 1) l' e3 q4
      have e4 : ((l'.length + 1 : Nat) : Int) - 1 = (l'.length : Int) := by omega
      rw [e4]
      exact this
end Go.AM.FB
set_option linter.unusedVariables false
namespace Go.AM.FB
open Go Go.Proofs
variable {K : AVal → Heap → Prop} {s s' s0 t : Heap} {lv uv v y w : AVal} {N : Nat} {G : List Lnk} {U : List Bool} {d : Nat → Int} {L : List RLk}
/-! ### FibDelivers -/
theorem csum_take {l : List Nat} {i : Nat} : csum G (l.take i) ≤ csum G l := by
  unfold csum
  have h : (l.map (cst G)).sum = ((l.take i).map (cst G)).sum + ((l.drop i).map (cst G)).sum := by
    rw [← List.sum_append, ← List.map_append, List.take_append_drop]
  omega
theorem csum_succ {l : List Nat} {i k : Nat} (h : l[i]? = some k) : csum G (l.take (i + 1)) = csum G (l.take i) + cst G k := by
  unfold csum
  rw [List.take_add_one, h, List.map_append, List.sum_append]
  simp
open Classical in
theorem all_B {fs : List Nat} (hF : ∀ i f, fs[i]? = some f → FibR s f N G U i) : ∃ BB : Nat → Nat → List Int, ∀ i f, fs[i]? = some f → FibB s f N G U i (BB i) := by
  refine ⟨fun i => if h : ∃ f, ∃ Bf, fs[i]? = some f ∧ FibB s f N G U i Bf then h.choose_spec.choose else fun _ => [], fun i f hf => ?_⟩
  have h : ∃ f, ∃ Bf, fs[i]? = some f ∧ FibB s f N G U i Bf := by
    obtain ⟨Bf, hb⟩ := (hF i f hf).b
    exact ⟨f, Bf, hf, hb⟩
  simp only [dif_pos h]
  obtain ⟨q1, q2⟩ := h.choose_spec.choose_spec
  generalize h.choose_spec.choose = B at q1 q2 ⊢
  have e : f = h.choose := Option.some.inj (hf.symm.trans q1)
  exact e ▸ q2
theorem wrAgg_at {b o n : Nat} {e : TypeId} {l cs : List AVal} {K : Heap → Prop} (h : s b = some (false, .cells e l)) (hl : cs.length = n) (ho : o + n ≤ l.length) (h1 : allOne cs = true)
    (hk : ∀ s', s' b = some (false, .cells e (setRange l o cs)) → Upto b s s' → K s') : optK (wrAgg s n (.ptr b o) (.agg cs)) K := by
  refine optK_of (a := hset s b (false, .cells e (setRange l o cs))) ?_ (hk _ (by simp [hset]) fun i hi => by simp [hset, hi])
  have e2 : Nat.ble (o + cs.length) l.length = true := Nat.ble_eq_true_of_le (by omega)
  have e3 : Nat.beq cs.length n = true := by rw [hl]; exact Nat.beq_refl _
  unfold wrAgg
  unfold wrN
  simp only [cells_agg, e3, cond_true, h, e2, h1, Bool.and_self]
def frC : List AVal := [(.int .u64 0), (.int .u64 0), (.int .i64 0), (.int .i64 0), (.int .u64 0), (.int .u32 0), (.int .u64 0), (.int .u32 0), (.int .u32 0), (.int .u32 0), (.int .i64 0), (.int .i64 0), (.int .i64 0), (.int .i64 0), (.int .u64 7)]
theorem allOne_mem : ∀ {l : List AVal}, allOne l = true ↔ ∀ y ∈ l, y.one = true
  | [] => by simp [allOne]
  | x :: l => by
    rw [allOne_cons, Bool.and_eq_true, allOne_mem]
    simp
theorem ik {n : Nat} {l : List Nat} : ((((iz l).length : Nat) : Int) == (n : Int)) = (l.length == n) := by
  rw [iz_len, Bool.eq_iff_iff]
  simp only [beq_iff_eq]
  omega
theorem Delivers_in {n p1 p2 a e vn mk dst0 ttl0 : Int} {cs : List AVal} (hn : -9223372036854775808 ≤ n ∧ n ≤ 9223372036854775807) (hp1 : -9223372036854775808 ≤ p1 ∧ p1 ≤ 9223372036854775807) (hp2 : -9223372036854775808 ≤ p2 ∧ p2 ≤ 9223372036854775807)
    (hl : SlR 3 s lv (L.map rwR)) (hlm : L.length ≤ 9223372036854775807) (hu : Sl s uv (U.map AVal.bool)) (hum : U.length ≤ 9223372036854775807) (hp : Pk a dst0 e vn cs) (hp3 : cs[2]? = some (.int .i64 ttl0)) (hp5 : cs[5]? = some (.int .u32 mk))
    (hK : ∀ s', K (.bool true) s') : wpCall Try.prog XX 5 [.agg (netC n lv uv), .int .i64 p1, .int .i64 p2, .agg cs] K s := by
  refine vllaw14_FibDelivers_in ⟨?_, new_step fun b s1 hb hb1 u1 => ⟨hp.2.1, new_step fun pb s2 hpb hb2 u2 => ?_⟩⟩
  · show ((AVal.int .i64 n).one && (lv.one && (uv.one && true))) = true
    rw [hl.one, hu.one]; rfl
  have sub1 := u1.sub hb
  have sub2 := u2.sub hpb
  have hb1 : s1 b = some (false, .cells 63 (netC n lv uv)) := hb1
  have hb2 : s2 pb = some (false, .cells 56 cs) := hb2
  have e0 : (netC n lv uv)[0]? = some (.int .i64 n) := rfl
  have e1 : (netC n lv uv)[1]? = some lv := rfl
  have e2 : (netC n lv uv)[2]? = some uv := rfl
  have s02 := sub1.trans sub2
  have hl1 := hl.sub sub1
  have hu1 := hu.sub sub1
  have hb12 := sub2 _ _ hb1
  refine known_in (optK_of (rdN_all hb12 rfl) (wpCall.part XX_fr sub2 ?_))
  refine tables_in hn hl1 hlm hu1 hum (fun sR w subR hw s3 sub3 kept => ?_) fun N sR w fs en hv hL subR hw hfs hF s3 sub3 kept => ?_
  · have c : negB false (eqV 0 true (.int .i64 ((0 : Nat) : Int)) (.int .i64 0)) = some (.bool true) := rfl
    simp only [hw, c, boolK_true, optK_mk]
    exact hK _
  subst en
  obtain ⟨z, hG, hN32, hC, hrw⟩ := vld.gok hv
  have hN1 : 1 ≤ N := by have := hv.1; omega
  obtain ⟨BB, hB⟩ := all_B hF
  have c0 : (((fs.map fun f => AVal.ptr f 0).length : Int) == 0) = false := by
    cases c : (((fs.map fun f => AVal.ptr f 0).length : Int) == 0) with
    | false => rfl
    | true => have := eq_of_beq c; rw [List.length_map] at this; omega
  have bR := subR _ _ hb1
  have b3 := sub3 _ _ bR
  obtain ⟨pb3, pbR⟩ := kept pb hpb (by rw [hb2]; simp)
  rw [hb2] at pb3
  simp only [hw.len, eqV_int, negB_mk, Bool.false_bne, c0, boolK_false, addOff_ptr, Nat.zero_add, rd1_mk b3, e0, optK_mk]
  refine Pick_in hp1 hN1 (by omega) fun x hx _ => ?_
  rw [add_frz, cut_refl]
  simp only [rd1_mk b3, e0, optK_mk]
  refine Pick_in hp2 hN1 (by omega) fun m hm => Loop_in (by omega) ?_
  try simp only [addOff_ptr, Nat.zero_add, optK_mk]
  have l21 : cs.length = 21 := hp.1
  refine wr1_step pb3 (by rw [l21]; omega) rfl fun s4 h4 u4 => ?_
  refine wr1_step h4 (by rw [List.length_set, l21]; omega) rfl fun s5 h5 u5 => ?_
  -- the packet that is sent
  have hcs : ∃ c1 : List AVal, c1 = (cs.set 1 (.int .u32 (lbk m))).set 2 (.int .i64 40) := ⟨_, rfl⟩
  obtain ⟨c1, hc1⟩ := hcs
  rw [← hc1] at h5
  have pk1 : Pk a (lbk m) e vn c1 := by
    obtain ⟨q1, q2, q3, q4, q5, q6⟩ := hp
    refine ⟨by rw [hc1]; simp [q1], by rw [hc1]; exact allOne_set rfl (allOne_set rfl q2), ?_, ?_, ?_, ?_⟩
    · rw [hc1, List.getElem?_set_ne (by omega), List.getElem?_set_ne (by omega)]; exact q3
    · rw [hc1, List.getElem?_set_ne (by omega), List.getElem?_set_self (by omega)]
    · rw [hc1, List.getElem?_set_ne (by omega), List.getElem?_set_ne (by omega)]; exact q5
    · rw [hc1, List.getElem?_set_ne (by omega), List.getElem?_set_ne (by omega)]; exact q6
  have t1 : c1[2]? = some (.int .i64 40) := by rw [hc1, List.getElem?_set_self (by rw [List.length_set]; omega)]
  have m1 : c1[5]? = some (.int .u32 mk) := by rw [hc1, List.getElem?_set_ne (by omega), List.getElem?_set_ne (by omega)]; exact hp5
  have l1 : c1.length = 21 := pk1.1
  have R5 : Sub sR s5 := fun i y hi => by
    have ne : i ≠ pb := fun q => by rw [q, pbR] at hi; cases hi
    rw [u5 _ ne, u4 _ ne]
    exact sub3 _ _ hi
  have lvR := hl1.sub subR
  have uvR := hu1.sub subR
  have b5 := R5 _ _ bR
  simp only [rd1_mk b5, e0, e1, e2, optK_mk]
  refine Dist_in (lvR.sub R5) hlm (uvR.sub R5) fun dv s6 sub6 _ hyes => ?_
  obtain ⟨d, db, isd, hbd, rfl, hdb, hd⟩ := hyes N x hv rfl hx rfl
  have R6 := R5.trans sub6
  have b6 := R6 _ _ bR
  have h6 := sub6 _ _ h5
  have eL : lenOfA (.slc db 0 N (some N) 1) = some N := rfl
  simp only [eL, rd1_mk b6, e0, eqV_int, beq_self_eq_true, negB_mk, Bool.true_bne, Bool.not_true, boolK_false, optK_mk]
  refine optK_of (rdN_all b6 rfl) (optK_of (rdN_all h6 l1) ?_)
  have hGn : (L.map toL).length ≤ 128 := hG
  have lvG : SlR 3 sR lv ((L.map toL).map lkR) := by rw [← hrw]; exact lvR
  have hop : ∀ y, y < N → m ∈ ndL N (L.map toL) U y → ∃ i ∈ lnk N (L.map toL) U y m, hopI (BB y) m (fnv 14695981039346656037 (flowB a (lbk m) e vn)) = (i : Int) := fun y hy hnd => by
    obtain ⟨f, hf⟩ : ∃ f, fs[y]? = some f := ⟨_, List.getElem?_eq_getElem (by omega)⟩
    exact (hB y f hf).hop hnd
  have isD := dF_all z (show N ≤ 40 by omega) hm
  obtain ⟨sy1, sy2⟩ := dist_sym z (by omega) hx hm isd isD
  refine walk_in z hN32 hN1 hGn (lvG.sub R6) (uvR.sub R6) (hw.sub R6) hfs (fun i f hf => (hB i f hf).sub R6) pk1 t1 (by omega) hx hm fun s7 w1 sub7 hw1 => ?_
  have R7 := R6.trans sub7
  have d7 := sub7 _ _ hd
  have z0 : ∀ {p q r : AVal}, extractA (.tup [p, q, r]) 0 = some p := rfl
  have z1 : ∀ {p q r : AVal}, extractA (.tup [p, q, r]) 1 = some q := rfl
  have z2 : ∀ {p q r : AVal}, extractA (.tup [p, q, r]) 2 = some r := rfl
  simp only [z0, z1, z2, dl_ad hm, rd1_mk d7, dl_get hm, arith_lss, optK_mk]
  refine boolK_mk (fun hneg => ?_) (fun hpos => ?_)
  · have hneg := of_decide_eq_true hneg
    have hD : ¬ 0 ≤ dF N (L.map toL) U m x := fun q => by have := sy1.2 q; omega
    rw [wk_down z (by omega) hm hx hD (by omega)] at hw1 ⊢
    have q0 : lenOfA w1 = some 0 := hw1.sl.len
    have c1' : negB false (eqV 0 true (.int .i64 ((0 : Nat) : Int)) (.int .i64 0)) = some (.bool true) := rfl
    have c2' : negB false (eqV 0 true (.int .i64 13) (.int .i64 13)) = some (.bool true) := rfl
    simp only [boolK_true, q0, vllaw14_FibDelivers_j0, pickV_true, eqV_int, beq_self_eq_true, negB_mk, Bool.false_bne, vllaw14_FibDelivers_j1, vllaw14_FibDelivers_j2, optK_mk]
    exact hK _
  have hpos : 0 ≤ d m := by have := of_decide_eq_false hpos; omega
  have hD := sy1.1 hpos
  have hcn := cntN_le (D := dF N (L.map toL) U m) hx
  obtain ⟨l, hwk, hcs, hll, hlG⟩ := wk_all z (by omega) hm hop 31 x 41 40 hx hD (by omega) (by omega) (by omega)
  rw [hwk] at hw1 ⊢
  have hw1 : Sl s7 w1 (iz l) := hw1.sl
  have hdm : d m = (csum (L.map toL) l : Int) := by rw [hcs]; exact sy2 hpos
  have hdb2 := hbd m hm
  -- the costs are added
  refine ⟨fun ys t mm => ∃ i : Nat, ys = [.int .i64 (csum (L.map toL) (l.take i) : Int), .int .i64 (i : Int)] ∧ i ≤ l.length ∧ mm = l.length - i ∧ t = s7, ⟨_, 0, rfl, by omega, rfl, rfl⟩, ?_⟩
  rintro g t mm ⟨i, hy, hi, rfl, rfl⟩
  simp only [List.cons.injEq, and_true] at hy
  rw [hy.1, hy.2]
  have b7 := R7 _ _ bR
  simp only [vllaw14_FibDelivers_l3, hw1.len, iz_len, arith_lss, optK_mk]
  refine boolK_mk (fun hlt => ?_) (fun hge => ?_)
  · have hlt : i < l.length := by have := of_decide_eq_true hlt; omega
    obtain ⟨k, hk⟩ : ∃ k, l[i]? = some k := ⟨_, List.getElem?_eq_getElem hlt⟩
    have hkG := hlG k (List.mem_of_getElem? hk)
    obtain ⟨lp, g1, g2⟩ := hw1.get (i := i) (by rw [iz_len]; exact hlt)
    rw [iz_get, hk] at g2
    have g2 : rd1 t lp = some (.int .i64 (k : Int)) := g2
    obtain ⟨lx, hlx⟩ : ∃ lx, (L.map toL)[k]? = some lx := ⟨_, List.getElem?_eq_getElem hkG⟩
    obtain ⟨la, lb, lc⟩ := lx
    obtain ⟨pb', po, y1, _, y3⟩ := (lvG.sub R7).get (i := k) (r := lkR (la, lb, lc)) (by rw [List.getElem?_map, hlx]; rfl)
    have y4 : rd1 t (.ptr pb' (po + 2)) = some (.int .i64 (lc : Int)) := y3 2 (by omega)
    have hc : cst (L.map toL) k = lc := by unfold cst; rw [hlx]
    have cs1 := csum_succ (G := L.map toL) hk
    have cs2 := csum_take (G := L.map toL) (l := l) (i := i + 1)
    simp only [addOff_ptr, Nat.zero_add, rd1_mk b7, e1, g1, g2, y1, y4, arith_add, optK_mk]
    rw [wrap64 (by omega) (by omega), wrap64 (by omega) (by omega)]
    refine ⟨_, ?_, i + 1, ?_, by omega, rfl, by trivial⟩
    · omega
    · rw [cs1, hc]
      have : ((csum (L.map toL) (l.take i) + lc : Nat) : Int) = (csum (L.map toL) (l.take i) : Int) + (lc : Int) := by omega
      rw [this]
      rfl
  have hge : i = l.length := by have := of_decide_eq_false hge; omega
  subst hge
  rw [List.take_length]
  have cc : (((csum (L.map toL) l : Nat) : Int) == ((csum (L.map toL) l : Nat) : Int)) = true := by simp
  have c9 : negB true (eqV 0 true (.int .i64 9) (.int .i64 9)) = some (.bool false) := rfl
  have hd7 : (dl N d)[m]? = some (.int .i64 ((csum (L.map toL) l : Nat) : Int)) := by rw [dl_get hm, hdm]
  simp only [eqV_int, beq_self_eq_true, negB_mk, Bool.true_bne, Bool.not_true, boolK_false, vllaw14_FibDelivers_j4, pickV_false, dl_ad hm, rd1_mk d7, hd7, vllaw14_FibDelivers_j5, optK_mk]
  -- the same flow with another mark and another frame
  have h7 := sub7 _ _ h6
  refine optK_of (rdN_all h7 l1) (new_step fun qb s8 hqb h8 u8 => wrAgg_step h8 (by rw [l1]; rfl) rfl pk1.2.1 fun s9 h9 u9 => ?_)
  have npq : pb ≠ qb := fun e => by rw [e, hqb] at h7; cases h7
  have pb9 : s9 pb = some (false, .cells 56 c1) := by rw [u9 _ npq, u8 _ npq]; exact h7
  simp only [addOff_ptr, Nat.zero_add, rd1_mk pb9, m1, optK_mk]
  refine optK_of (a := .int .u32 (IntKind.u32.wrap (mk + 1))) arith_add (optK_of (a := frC) rfl ?_)
  refine wr1_step h9 (by rw [l1]; omega) rfl fun s10 h10 u10 => ?_
  refine wrAgg_at h10 (n := 15) rfl (by rw [List.length_set, l1]; omega) rfl fun s11 h11 u11 => ?_
  have hc2 : ∃ c2 : List AVal, c2 = setRange (c1.set 5 (.int .u32 (IntKind.u32.wrap (mk + 1)))) 6 frC := ⟨_, rfl⟩
  obtain ⟨c2, hc2⟩ := hc2
  rw [← hc2] at h11
  have l2 : c2.length = 21 := by rw [hc2]; unfold setRange; rw [List.length_append, List.length_append, List.length_take, List.length_drop, List.length_set, l1]; rfl
  have at2 : ∀ i, i < 5 → c2[i]? = c1[i]? := fun i hi => by
    rw [hc2]
    unfold setRange
    rw [List.append_assoc, List.getElem?_append_left (by rw [List.length_take, List.length_set, l1]; omega), List.getElem?_take, if_pos (by omega), List.getElem?_set_ne (by omega)]
  have o2 : allOne c2 = true := by
    have h5' : allOne (c1.set 5 (.int .u32 (IntKind.u32.wrap (mk + 1)))) = true := allOne_set rfl pk1.2.1
    rw [allOne_mem] at h5' ⊢
    intro y hy
    rw [hc2] at hy
    unfold setRange at hy
    rcases List.mem_append.1 hy with hy | hy
    · rcases List.mem_append.1 hy with hy | hy
      · exact h5' y (List.mem_of_mem_take hy)
      · exact (allOne_mem (l := frC)).1 rfl y hy
    · exact h5' y (List.mem_of_mem_drop hy)
  have pk2 : Pk a (lbk m) e vn c2 := by
    obtain ⟨q1, q2, q3, q4, q5, q6⟩ := pk1
    exact ⟨l2, o2, by rw [at2 0 (by omega)]; exact q3, by rw [at2 1 (by omega)]; exact q4, by rw [at2 3 (by omega)]; exact q5, by rw [at2 4 (by omega)]; exact q6⟩
  have t2 : c2[2]? = some (.int .i64 40) := by rw [at2 2 (by omega)]; exact t1
  have S11 : Sub t s11 := fun i y hi => by
    have ne : i ≠ qb := fun q => by rw [q, hqb] at hi; cases hi
    rw [u11 _ ne, u10 _ ne, u9 _ ne, u8 _ ne]
    exact hi
  have R11 := R7.trans S11
  have b11 := R11 _ _ bR
  refine optK_of (rdN_all b11 rfl) (optK_of (rdN_all h11 l2) ?_)
  refine walk_in z hN32 hN1 hGn (lvG.sub R11) (uvR.sub R11) (hw.sub R11) hfs (fun i f hf => (hB i f hf).sub R11) pk2 t2 (by omega) hx hm fun s12 w2 sub12 hw2 => ?_
  rw [hwk] at hw2 ⊢
  have hw2 : Acc 3 s11 s12 w2 (iz l) := hw2
  have h12 := sub12 _ _ h11
  have w1at : Sl s12 w1 (iz l) := (hw1.sub S11).sub sub12
  simp only [z0, z1, z2, w1at.len, iz_len, optK_mk]
  refine wr1_step h12 (by rw [l2]; omega) rfl fun s13 h13 u13 => ?_
  have hqR : sR qb = none := fresh_of R7 hqb
  have hqt : t qb = none := hqb
  have R13 : Sub sR s13 := fun i y hi => by
    have ne : i ≠ qb := fun q => by rw [q, hqR] at hi; cases hi
    rw [u13 _ ne]
    exact sub12 _ _ (R11 _ _ hi)
  have b13 := R13 _ _ bR
  have l3 : (c2.set 2 (AVal.int .i64 (l.length : Int))).length = 21 := by rw [List.length_set]; exact l2
  have pk3 : Pk a (lbk m) e vn (c2.set 2 (.int .i64 (l.length : Int))) := by
    obtain ⟨q1, q2, q3, q4, q5, q6⟩ := pk2
    refine ⟨l3, allOne_set rfl q2, ?_, ?_, ?_, ?_⟩ <;> rw [List.getElem?_set_ne (by omega)] <;> assumption
  have t3 : (c2.set 2 (AVal.int .i64 (l.length : Int)))[2]? = some (.int .i64 (l.length : Int)) := by rw [List.getElem?_set_self (by omega)]
  refine optK_of (rdN_all b13 rfl) (optK_of (rdN_all h13 l3) ?_)
  have w1s : Sl s13 w1 (iz l) := hw1.keep (fp := fun b => b = qb) (fun i y hi ne => by
    rw [u13 _ ne]; exact sub12 _ _ (S11 _ _ hi)) fun b' o n c e' hne q => by
      rcases hw1 with ⟨q1, _⟩ | ⟨b'', o'', c'', q1, _, q3⟩
      · rw [q1] at e'; cases e'
      · rw [q1] at e'; cases e'
        obtain ⟨tt, el, cs', q4, _⟩ := q3 hne
        rw [q, hqb] at q4; cases q4
  have w2s : Sl s13 w2 (iz l) := hw2.sl.keep (fp := fun b => b = qb) (u13.keep rfl) fun b' o n c e' hne q => by
    rcases hw2 with ⟨q1, _⟩ | ⟨b'', q0, q1, _⟩
    · rw [q1] at e'; cases e'
    · rw [q1] at e'; cases e'
      rw [q, h11] at q0; cases q0
  refine walk_in z hN32 hN1 hGn (lvG.sub R13) (uvR.sub R13) (hw.sub R13) hfs (fun i f hf => (hB i f hf).sub R13) pk3 t3 (by omega) hx hm fun s14 w3 sub14 hw3 => ?_
  simp only [z0, z1, z2, boolK_true, optK_mk]
  have f1 := w1s.sub sub14
  have f2 := w2s.sub sub14
  rw [iz_izs] at f1 f2
  refine Same_in f1 f2 (by rw [List.length_map]; omega) fun bb hbb => ?_
  rw [hbb.2 rfl]
  simp only [vllaw14_FibDelivers_j6, pickV_true, boolK_true, (w1s.sub sub14).len, iz_len, optK_mk]
  by_cases q : l = []
  · subst q
    have c : negB false (eqV 0 true (.int .i64 (([] : List Nat).length : Int)) (.int .i64 0)) = some (.bool true) := rfl
    simp only [c, boolK_true, vllaw14_FibDelivers_j7, pickV_true, optK_mk]
    exact hK _
  · have hlen : 0 < l.length := List.length_pos_iff.2 q
    have c : ((l.length : Int) == 0) = false := beq_eq_false_iff_ne.2 (by omega)
    have ht := wk_time 41 x 40 l hwk q
    rw [ht]
    simp only [eqV_int, c, negB_mk, Bool.false_bne, boolK_false, beq_self_eq_true, vllaw14_FibDelivers_j7, pickV_false, pickV_true, optK_mk]
    exact hK _
end Go.AM.FB
set_option linter.unusedVariables false
namespace Go.AM.FB
open Go Go.Proofs
variable {K : AVal → Heap → Prop} {s s' s0 t : Heap} {v : AVal}
/-! ### packets that are given -/
set_option maxRecDepth 100000 in
theorem inp_50 {d : Nat} {xs : List AVal} (h : Inp Try.prog s (d + 2) 50 xs) : ∃ a0 a1 a2 a3 a4 : Int, xs = [.int .i64 a0, .int .u64 a1, .int .u32 a2, .int .u64 a3, .int .u32 a4] := by
  unfold Inp at h
  simp only [Try.underlying50] at h
  obtain ⟨h1, h2⟩ := h
  rw [show Try.prog.cellsOf 50 = 5 by kernel_rfl] at h1
  have k0 := h2 _ List.mem_cons_self
  have k1 := h2 _ (List.mem_cons_of_mem _ List.mem_cons_self)
  have k2 := h2 _ (List.mem_cons_of_mem _ (List.mem_cons_of_mem _ List.mem_cons_self))
  have k3 := h2 _ (List.mem_cons_of_mem _ (List.mem_cons_of_mem _ (List.mem_cons_of_mem _ List.mem_cons_self)))
  have k4 := h2 _ (List.mem_cons_of_mem _ (List.mem_cons_of_mem _ (List.mem_cons_of_mem _ (List.mem_cons_of_mem _ List.mem_cons_self))))
  match xs, h1 with
  | [c0, c1, c2, c3, c4], _ =>
    obtain ⟨n0, e0, _⟩ := inp_int (xs := [c0]) Try.underlying3 k0
    obtain ⟨n1, e1, _⟩ := inp_int (xs := [c1]) Try.underlying48 k1
    obtain ⟨n2, e2, _⟩ := inp_int (xs := [c2]) Try.underlying45 k2
    obtain ⟨n3, e3, _⟩ := inp_int (xs := [c3]) Try.underlying48 k3
    obtain ⟨n4, e4, _⟩ := inp_int (xs := [c4]) Try.underlying45 k4
    cases e0; cases e1; cases e2; cases e3; cases e4
    exact ⟨n0, n1, n2, n3, n4, rfl⟩
set_option maxRecDepth 100000 in
theorem inp_52 {d : Nat} {xs : List AVal} (h : Inp Try.prog s (d + 2) 52 xs) : ∃ a0 a1 a2 a3 a4 a5 : Int, xs = [.int .u32 a0, .int .u32 a1, .int .i64 a2, .int .i64 a3, .int .i64 a4, .int .i64 a5] := by
  unfold Inp at h
  simp only [Try.underlying52] at h
  obtain ⟨h1, h2⟩ := h
  rw [show Try.prog.cellsOf 52 = 6 by kernel_rfl] at h1
  have k0 := h2 _ List.mem_cons_self
  have k1 := h2 _ (List.mem_cons_of_mem _ List.mem_cons_self)
  have k2 := h2 _ (List.mem_cons_of_mem _ (List.mem_cons_of_mem _ List.mem_cons_self))
  have k3 := h2 _ (List.mem_cons_of_mem _ (List.mem_cons_of_mem _ (List.mem_cons_of_mem _ List.mem_cons_self)))
  have k4 := h2 _ (List.mem_cons_of_mem _ (List.mem_cons_of_mem _ (List.mem_cons_of_mem _ (List.mem_cons_of_mem _ List.mem_cons_self))))
  have k5 := h2 _ (List.mem_cons_of_mem _ (List.mem_cons_of_mem _ (List.mem_cons_of_mem _ (List.mem_cons_of_mem _ (List.mem_cons_of_mem _ List.mem_cons_self)))))
  match xs, h1 with
  | [c0, c1, c2, c3, c4, c5], _ =>
    obtain ⟨n0, e0, _⟩ := inp_int (xs := [c0]) Try.underlying45 k0
    obtain ⟨n1, e1, _⟩ := inp_int (xs := [c1]) Try.underlying45 k1
    obtain ⟨n2, e2, _⟩ := inp_int (xs := [c2]) Try.underlying3 k2
    obtain ⟨n3, e3, _⟩ := inp_int (xs := [c3]) Try.underlying3 k3
    obtain ⟨n4, e4, _⟩ := inp_int (xs := [c4]) Try.underlying3 k4
    obtain ⟨n5, e5, _⟩ := inp_int (xs := [c5]) Try.underlying3 k5
    cases e0; cases e1; cases e2; cases e3; cases e4; cases e5
    exact ⟨n0, n1, n2, n3, n4, n5, rfl⟩
set_option maxRecDepth 100000 in
theorem inp_54 {d : Nat} {xs : List AVal} (h : Inp Try.prog s (d + 3) 54 xs) : ∃ a0 a1 a2 a3 a4 a5 a6 a7 a8 a9 a10 a11 a12 a13 a14 : Int, xs = [.int .u64 a0, .int .u64 a1, .int .i64 a2, .int .i64 a3, .int .u64 a4, .int .u32 a5, .int .u64 a6, .int .u32 a7, .int .u32 a8, .int .u32 a9, .int .i64 a10, .int .i64 a11, .int .i64 a12, .int .i64 a13, .int .u64 a14] := by
  unfold Inp at h
  simp only [Try.underlying54] at h
  obtain ⟨h1, h2⟩ := h
  rw [show Try.prog.cellsOf 54 = 15 by kernel_rfl] at h1
  have k0 := h2 _ List.mem_cons_self
  have k1 := h2 _ (List.mem_cons_of_mem _ List.mem_cons_self)
  have k2 := h2 _ (List.mem_cons_of_mem _ (List.mem_cons_of_mem _ List.mem_cons_self))
  have k3 := h2 _ (List.mem_cons_of_mem _ (List.mem_cons_of_mem _ (List.mem_cons_of_mem _ List.mem_cons_self)))
  have k4 := h2 _ (List.mem_cons_of_mem _ (List.mem_cons_of_mem _ (List.mem_cons_of_mem _ (List.mem_cons_of_mem _ List.mem_cons_self))))
  have k5 := h2 _ (List.mem_cons_of_mem _ (List.mem_cons_of_mem _ (List.mem_cons_of_mem _ (List.mem_cons_of_mem _ (List.mem_cons_of_mem _ List.mem_cons_self)))))
  match xs, h1 with
  | [c0, c1, c2, c3, c4, c5, c6, c7, c8, c9, c10, c11, c12, c13, c14], _ =>
    obtain ⟨n0, e0, _⟩ := inp_int (xs := [c0]) Try.underlying48 k0
    obtain ⟨n1, e1, _⟩ := inp_int (xs := [c1]) Try.underlying48 k1
    obtain ⟨n2, e2, _⟩ := inp_int (xs := [c2]) Try.underlying3 k2
    obtain ⟨n3, n4, n5, n6, n7, e3⟩ := inp_50 (d := d) (xs := [c3, c4, c5, c6, c7]) k3
    obtain ⟨n8, n9, n10, n11, n12, n13, e4⟩ := inp_52 (d := d) (xs := [c8, c9, c10, c11, c12, c13]) k4
    obtain ⟨n14, e5, _⟩ := inp_int (xs := [c14]) Try.underlying47 k5
    cases e0; cases e1; cases e2; cases e3; cases e4; cases e5
    exact ⟨n0, n1, n2, n3, n4, n5, n6, n7, n8, n9, n10, n11, n12, n13, n14, rfl⟩
def pkt (a0 a1 a2 a3 a4 a5 a6 a7 a8 a9 a10 a11 a12 a13 a14 a15 a16 a17 a18 a19 a20 : Int) : List AVal := [.int .u32 a0, .int .u32 a1, .int .i64 a2, .int .i64 a3, .int .u32 a4, .int .u32 a5, .int .u64 a6, .int .u64 a7, .int .i64 a8, .int .i64 a9, .int .u64 a10, .int .u32 a11, .int .u64 a12, .int .u32 a13, .int .u32 a14, .int .u32 a15, .int .i64 a16, .int .i64 a17, .int .i64 a18, .int .i64 a19, .int .u64 a20]
set_option maxRecDepth 100000 in
theorem arg_pkt {d : Nat} (h : Arg Try.prog s (d + 4) 56 v) : ∃ a0 a1 a2 a3 a4 a5 a6 a7 a8 a9 a10 a11 a12 a13 a14 a15 a16 a17 a18 a19 a20 : Int, v = .agg (pkt a0 a1 a2 a3 a4 a5 a6 a7 a8 a9 a10 a11 a12 a13 a14 a15 a16 a17 a18 a19 a20) ∧ (Lit.int .u32 a1).wf = true ∧ (Lit.int .i64 a2).wf = true := by
  obtain ⟨h1, h2, _⟩ := h
  have ha : isAggT Try.prog 56 = some true := by kernel_rfl
  obtain ⟨l, rfl, _⟩ := h2 ha
  rw [cells_agg] at h1
  unfold Inp at h1
  simp only [Try.underlying56] at h1
  obtain ⟨g1, g2⟩ := h1
  rw [show Try.prog.cellsOf 56 = 21 by kernel_rfl] at g1
  have k0 := g2 _ List.mem_cons_self
  have k1 := g2 _ (List.mem_cons_of_mem _ List.mem_cons_self)
  have k2 := g2 _ (List.mem_cons_of_mem _ (List.mem_cons_of_mem _ List.mem_cons_self))
  have k3 := g2 _ (List.mem_cons_of_mem _ (List.mem_cons_of_mem _ (List.mem_cons_of_mem _ List.mem_cons_self)))
  have k4 := g2 _ (List.mem_cons_of_mem _ (List.mem_cons_of_mem _ (List.mem_cons_of_mem _ (List.mem_cons_of_mem _ List.mem_cons_self))))
  have k5 := g2 _ (List.mem_cons_of_mem _ (List.mem_cons_of_mem _ (List.mem_cons_of_mem _ (List.mem_cons_of_mem _ (List.mem_cons_of_mem _ List.mem_cons_self)))))
  have k6 := g2 _ (List.mem_cons_of_mem _ (List.mem_cons_of_mem _ (List.mem_cons_of_mem _ (List.mem_cons_of_mem _ (List.mem_cons_of_mem _ (List.mem_cons_of_mem _ List.mem_cons_self))))))
  match l, g1 with
  | [c0, c1, c2, c3, c4, c5, c6, c7, c8, c9, c10, c11, c12, c13, c14, c15, c16, c17, c18, c19, c20], _ =>
    obtain ⟨n0, e0, w0⟩ := inp_int (xs := [c0]) Try.underlying45 k0
    obtain ⟨n1, e1, w1⟩ := inp_int (xs := [c1]) Try.underlying45 k1
    obtain ⟨n2, e2, w2⟩ := inp_int (xs := [c2]) Try.underlying3 k2
    obtain ⟨n3, e3, w3⟩ := inp_int (xs := [c3]) Try.underlying3 k3
    obtain ⟨n4, e4, w4⟩ := inp_int (xs := [c4]) Try.underlying44 k4
    obtain ⟨n5, e5, w5⟩ := inp_int (xs := [c5]) Try.underlying44 k5
    obtain ⟨n6, n7, n8, n9, n10, n11, n12, n13, n14, n15, n16, n17, n18, n19, n20, e6⟩ := inp_54 (d := d) (xs := [c6, c7, c8, c9, c10, c11, c12, c13, c14, c15, c16, c17, c18, c19, c20]) k6
    cases e0; cases e1; cases e2; cases e3; cases e4; cases e5; cases e6
    exact ⟨n0, n1, n2, n3, n4, n5, n6, n7, n8, n9, n10, n11, n12, n13, n14, n15, n16, n17, n18, n19, n20, rfl, w1, w2⟩

theorem Delivers_wp (s : Heap) (xs : List AVal) (h : ArgL Try.prog s 40 [63, 3, 3, 56] xs) : wpCall Try.prog XX 5 xs (fun v _ => v = .bool true) s := by
  obtain ⟨a, b, c, e, rfl, h1, h2, h3, h4⟩ := argl4 h
  obtain ⟨n, L, U, lv, uv, rfl, hl, hu, hlm, hum, hn⟩ := arg_net (d := 36) h1
  obtain ⟨p, rfl, w2⟩ := arg_int (k := .i64) Try.underlying3 h2
  obtain ⟨q, rfl, w3⟩ := arg_int (k := .i64) Try.underlying3 h3
  obtain ⟨a0, a1, a2, a3, a4, a5, a6, a7, a8, a9, a10, a11, a12, a13, a14, a15, a16, a17, a18, a19, a20, rfl, _, _⟩ := arg_pkt (d := 36) h4
  exact Delivers_in (a := a0) (e := a3) (vn := a4) (mk := a5) (dst0 := a1) (ttl0 := a2) hn (bd64 w2) (bd64 w3) hl hlm hu hum ⟨rfl, rfl, rfl, rfl, rfl, rfl⟩ rfl rfl fun _ => rfl
end Go.AM.FB
