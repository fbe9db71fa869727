/- Part E of a calculus over a small memory that is proved to answer as the program does, and of its use for the functions that the law reaches: see the last part. -/
import Derived.Test.YtnbgeelhoakjgaaV
import Derived.Test.YtnbgeelhoakjgaaU2
import Derived.Test.YtnbgeelhoakjgaaD
namespace Go.AM.WH
open Go Go.Proofs
/-! ### members with their loads, ordered by load, then by number -/
abbrev Shr := Int × Int
def key (x : Shr) : Int := x.2 * 1000 + x.1
def at0 (q : List Shr) (j : Nat) : Shr := q.getD j (0, 0)
def ky (q : List Shr) (j : Nat) : Int := key (at0 q j)
def swp (q : List Shr) (i j : Nat) : List Shr := (q.set i (at0 q j)).set j (at0 q i)
theorem swp_len (q : List Shr) (i j : Nat) : (swp q i j).length = q.length := by simp [swp]
theorem at0_get {q : List Shr} {j : Nat} (h : j < q.length) : at0 q j = q[j] := by simp [at0, h]
theorem at0_set {q : List Shr} {i j : Nat} {x : Shr} (hi : i < q.length) : at0 (q.set i x) j = if j = i then x else at0 q j := by
  unfold at0
  rw [List.getD_eq_getElem?_getD, List.getElem?_set, List.getD_eq_getElem?_getD]
  by_cases e : i = j
  · subst e; simp [hi]
  · rw [if_neg e, if_neg (Ne.symm e)]
theorem at0_swp {q : List Shr} {i j m : Nat} (hi : i < q.length) (hj : j < q.length) : at0 (swp q i j) m = if m = j then at0 q i else if m = i then at0 q j else at0 q m := by
  unfold swp
  rw [at0_set (by simpa using hj), at0_set hi]
theorem ky_swp {q : List Shr} {i j m : Nat} (hi : i < q.length) (hj : j < q.length) : ky (swp q i j) m = if m = j then ky q i else if m = i then ky q j else ky q m := by
  unfold ky
  rw [at0_swp hi hj]
  split
  · rfl
  · split <;> rfl
theorem set_perm : ∀ {q : List Shr} {i : Nat} {x : Shr} (h : i < q.length), (q[i] :: q.set i x).Perm (x :: q)
  | y :: q, 0, x, _ => List.Perm.swap x y q
  | y :: q, i + 1, x, h => by
    have hi : i < q.length := by simpa using h
    have ih := set_perm (q := q) (i := i) (x := x) hi
    show (q[i] :: y :: q.set i x).Perm (x :: y :: q)
    exact (List.Perm.swap _ _ _).trans ((ih.cons y).trans (List.Perm.swap _ _ _))
theorem swp_perm {q : List Shr} {i j : Nat} (hi : i < q.length) (hj : j < q.length) : (swp q i j).Perm q := by
  by_cases e : i = j
  · subst e
    unfold swp
    rw [at0_get hi, List.set_set, List.set_getElem_self]
  · have h1 := set_perm (q := q) (i := i) (x := at0 q j) hi
    have hj' : j < (q.set i (at0 q j)).length := by simpa using hj
    have h2 := set_perm (q := q.set i (at0 q j)) (i := j) (x := at0 q i) hj'
    have e1 : (q.set i (at0 q j))[j] = at0 q j := by
      rw [List.getElem_set_ne e]
      exact (at0_get hj).symm
    rw [e1] at h2
    rw [← at0_get hi] at h1
    have h3 : (at0 q j :: swp q i j).Perm (at0 q j :: q) := h2.trans h1
    exact h3.cons_inv
/-- a heap below k -/
def Hp (q : List Shr) (k : Nat) : Prop := ∀ j, 0 < j → j < q.length → k ≤ (j - 1) / 2 → ky q ((j - 1) / 2) ≤ ky q j
/-- what holds in 'down' -/
structure Dn (q : List Shr) (i0 i : Nat) : Prop where
  ok : ∀ j, 0 < j → j < q.length → i0 ≤ (j - 1) / 2 → (j - 1) / 2 ≠ i → ky q ((j - 1) / 2) ≤ ky q j
  gr : i ≠ i0 → ∀ j, 0 < j → j < q.length → (j - 1) / 2 = i → ky q ((i - 1) / 2) ≤ ky q j
  le : i0 ≤ i
  pr : i ≠ i0 → i0 ≤ (i - 1) / 2
theorem Hp.dn {q : List Shr} {i0 : Nat} (h : Hp q (i0 + 1)) : Dn q i0 i0 := ⟨fun j h0 h1 h2 h3 => h j h0 h1 (by omega), fun e => absurd rfl e, Nat.le_refl _, fun e => absurd rfl e⟩
theorem Dn.done {q : List Shr} {i0 i : Nat} (h : Dn q i0 i) (hc : ∀ j, 0 < j → j < q.length → (j - 1) / 2 = i → ky q i ≤ ky q j) : Hp q i0 := fun j h0 h1 h2 => by
  by_cases e : (j - 1) / 2 = i
  · rw [e]; exact hc j h0 h1 e
  · exact h.ok j h0 h1 h2 e
theorem Dn.swap {q : List Shr} {i0 i j : Nat} (h : Dn q i0 i) (hj : j < q.length) (hc : j = 2 * i + 1 ∨ j = 2 * i + 2) (hlt : ky q j < ky q i) (hmin : ∀ m, 0 < m → m < q.length → (m - 1) / 2 = i → ky q j ≤ ky q m) : Dn (swp q i j) i0 j := by
  have hi : i < q.length := by omega
  have hle := h.le
  refine ⟨fun m h0 h1 h2 h3 => ?_, fun _ m h0 h1 h2 => ?_, by omega, fun _ => by omega⟩
  · rw [swp_len] at h1
    rw [ky_swp hi hj, ky_swp hi hj]
    by_cases e1 : m = j
    · rw [if_neg (show (m - 1) / 2 ≠ j by omega), if_pos (show (m - 1) / 2 = i by omega), if_pos e1]
      omega
    · rw [if_neg h3, if_neg e1]
      by_cases e2 : (m - 1) / 2 = i
      · rw [if_pos e2, if_neg (show m ≠ i by omega)]
        exact hmin m h0 h1 e2
      · rw [if_neg e2]
        by_cases e3 : m = i
        · rw [if_pos e3]
          have hne : i ≠ i0 := by omega
          subst e3
          exact h.gr hne j (by omega) hj (by omega)
        · rw [if_neg e3]
          exact h.ok m h0 h1 h2 e2
  · rw [swp_len] at h1
    rw [ky_swp hi hj, ky_swp hi hj]
    rw [if_neg (show (j - 1) / 2 ≠ j by omega), if_pos (show (j - 1) / 2 = i by omega), if_neg (show m ≠ j by omega), if_neg (show m ≠ i by omega)]
    have := h.ok m h0 h1 (by omega) (by omega)
    rw [h2] at this
    exact this
/-- what holds in 'up' -/
structure Up (q : List Shr) (j : Nat) : Prop where
  ok : ∀ m, 0 < m → m < q.length → m ≠ j → ky q ((m - 1) / 2) ≤ ky q m
  gr : 0 < j → ∀ m, 0 < m → m < q.length → (m - 1) / 2 = j → ky q ((j - 1) / 2) ≤ ky q m
theorem Up.done {q : List Shr} {j : Nat} (h : Up q j) (hc : 0 < j → ky q ((j - 1) / 2) ≤ ky q j) : Hp q 0 := fun m h0 h1 _ => by
  by_cases e : m = j
  · subst e; exact hc h0
  · exact h.ok m h0 h1 e
theorem Up.swap {q : List Shr} {j : Nat} (h : Up q j) (hj : j < q.length) (h0 : 0 < j) (hlt : ky q j < ky q ((j - 1) / 2)) : Up (swp q ((j - 1) / 2) j) ((j - 1) / 2) := by
  have hi : (j - 1) / 2 < q.length := by omega
  refine ⟨fun m m0 m1 m2 => ?_, fun i0 m m0 m1 m2 => ?_⟩
  · rw [swp_len] at m1
    rw [ky_swp hi hj, ky_swp hi hj]
    by_cases e1 : m = j
    · rw [if_neg (show (m - 1) / 2 ≠ j by omega), if_pos (show (m - 1) / 2 = (j - 1) / 2 by rw [e1]), if_pos e1]
      omega
    · rw [if_neg e1, if_neg m2]
      by_cases e2 : (m - 1) / 2 = j
      · rw [if_pos e2]
        exact h.gr h0 m m0 m1 e2
      · rw [if_neg e2]
        by_cases e3 : (m - 1) / 2 = (j - 1) / 2
        · rw [if_pos e3]
          have := h.ok m m0 m1 e1
          rw [e3] at this
          omega
        · rw [if_neg e3]
          exact h.ok m m0 m1 e1
  · rw [swp_len] at m1
    rw [ky_swp hi hj, ky_swp hi hj]
    rw [if_neg (show ((j - 1) / 2 - 1) / 2 ≠ j by omega), if_neg (show ((j - 1) / 2 - 1) / 2 ≠ (j - 1) / 2 by omega)]
    have hp := h.ok ((j - 1) / 2) i0 hi (by omega)
    by_cases e1 : m = j
    · rw [if_pos e1]; exact hp
    · rw [if_neg e1, if_neg (show m ≠ (j - 1) / 2 by omega)]
      have := h.ok m m0 m1 e1
      rw [m2] at this
      omega
theorem Hp.root {q : List Shr} (h : Hp q 0) : ∀ j, j < q.length → ky q 0 ≤ ky q j
  | 0, _ => Int.le_refl _
  | j + 1, hj => by
    have h1 := h (j + 1) (by omega) hj (by omega)
    have h2 := Hp.root h ((j + 1 - 1) / 2) (by omega)
    omega
theorem Hp.leaf {q : List Shr} {k : Nat} (h : q.length ≤ 2 * k + 1) : Hp q k := fun j h0 h1 h2 => by omega
end Go.AM.WH
namespace Go.AM.WH
open Go Go.Proofs
variable {K : AVal → Heap → Prop} {s : Heap}
def shR (x : Shr) : List AVal := [.int .i64 x.1, .int .i64 x.2]
abbrev flatQ (q : List Shr) : List AVal := (q.map shR).flatten
theorem shR_len (q : List Shr) : ∀ r ∈ q.map shR, r.length = 2 := fun r hr => by obtain ⟨x, _, rfl⟩ := List.mem_map.1 hr; rfl
theorem flatQ_len (q : List Shr) : (flatQ q).length = q.length * 2 := by rw [flat_len (shR_len q), List.length_map]
theorem flatQ_put {x : Shr} : ∀ {q : List Shr} {i : Nat}, i < q.length → setRange (flatQ q) (i * 2) (shR x) = flatQ (q.set i x)
  | y :: q, 0, _ => by simp [setRange, shR, flatQ]
  | y :: q, i + 1, h => by
    have ih := flatQ_put (x := x) (q := q) (i := i) (by simpa using h)
    have e : flatQ (y :: q) = .int .i64 y.1 :: .int .i64 y.2 :: flatQ q := rfl
    have e2 : flatQ ((y :: q).set (i + 1) x) = .int .i64 y.1 :: .int .i64 y.2 :: flatQ (q.set i x) := rfl
    rw [e, e2, ← ih]
    have e3 : (i + 1) * 2 = i * 2 + 2 := by omega
    rw [e3]
    simp [setRange, shR, List.take_succ_cons, Nat.add_right_comm _ 2]
theorem flatQ_set1 {v : Int} : ∀ {q : List Shr} {i : Nat}, i < q.length → (flatQ q).set (i * 2 + 1) (.int .i64 v) = flatQ (q.set i ((at0 q i).1, v))
  | y :: q, 0, _ => rfl
  | y :: q, i + 1, h => by
    have ih := flatQ_set1 (v := v) (q := q) (i := i) (by simpa using h)
    have e3 : (i + 1) * 2 + 1 = (i * 2 + 1) + 2 := by omega
    rw [e3]
    exact congrArg (fun t => AVal.int .i64 y.1 :: AVal.int .i64 y.2 :: t) ih
theorem flatQ_set0 {v : Int} : ∀ {q : List Shr} {i : Nat}, i < q.length → (flatQ q).set (i * 2) (.int .i64 v) = flatQ (q.set i (v, (at0 q i).2))
  | y :: q, 0, _ => rfl
  | y :: q, i + 1, h => by
    have ih := flatQ_set0 (v := v) (q := q) (i := i) (by simpa using h)
    have e3 : (i + 1) * 2 = i * 2 + 2 := by omega
    rw [e3]
    exact congrArg (fun t => AVal.int .i64 y.1 :: AVal.int .i64 y.2 :: t) ih
structure QAt (s : Heap) (o sb : Nat) (q : List Shr) : Prop where
  ob : ∃ t, s o = some (t, .cells 147 [.slc sb 0 q.length (some q.length) 2])
  dt : s sb = some (false, .cells 149 (flatQ q))
  rg : ∀ x ∈ q, 0 ≤ x.1 ∧ x.1 < 1000
  ln : q.length ≤ 1000
variable {o sb : Nat} {q : List Shr}
theorem QAt.sub {s' : Heap} (h : QAt s o sb q) (hs : Sub s s') : QAt s' o sb q := by
  obtain ⟨⟨t, h1⟩, h2, h3, h4⟩ := h
  exact ⟨⟨t, hs _ _ h1⟩, hs _ _ h2, h3, h4⟩
theorem q_addr {n i : Nat} (hi : i < n) : iaddrS 2 (.slc sb 0 n (some n) 2) (.int .i64 (i : Int)) = some (.ptr sb (i * 2)) := by
  have : Nat.blt i n = true := by rw [Nat.blt_eq]; exact hi
  simp [iaddrS, this]
theorem QAt.row (h : QAt s o sb q) {i : Nat} (hi : i < q.length) : rdN s 2 (.ptr sb (i * 2)) = some (shR (at0 q i)) ∧ rd1 s (.ptr sb (i * 2)) = some (.int .i64 (at0 q i).1) ∧ rd1 s (.ptr sb (i * 2 + 1)) = some (.int .i64 (at0 q i).2) := by
  have hs : SlR 2 s (.slc sb 0 q.length (some q.length) 2) (q.map shR) := SlR.mk (shR_len q) h.dt (by simp) (by simp)
  obtain ⟨b, p, h1, h2, h3⟩ := hs.get (i := i) (r := shR (at0 q i)) (by simp [at0_get hi, hi])
  rw [q_addr hi] at h1
  cases h1
  exact ⟨h2, h3 0 (by omega), h3 1 (by omega)⟩
theorem cut_new {s : Heap} {b : Nat} (hb : s b = none) : ∀ {l : List (Heap × Heap)} {t : Heap}, (∀ p ∈ l, p.2 = s) → t b ≠ none → cutH l t b ≠ none
  | [], _, _, h => h
  | p :: l, t, hp, h => by
    refine cut_new hb (l := l) (t := fun b => if p.1 b = none ∧ p.2 b ≠ none then none else t b) (fun r hr => hp r (by simp [hr])) ?_
    show (if p.1 b = none ∧ p.2 b ≠ none then none else t b) ≠ none
    rw [if_neg (by rintro ⟨_, h⟩; rw [hp p (by simp)] at h; exact h hb)]
    exact h
theorem ky_lt {a b : Shr} (ha : 0 ≤ a.1 ∧ a.1 < 1000) (hb : 0 ≤ b.1 ∧ b.1 < 1000) : decide (key a < key b) = if (a.2 == b.2) = true then decide (a.1 < b.1) else decide (a.2 < b.2) := by
  unfold key
  by_cases e : a.2 = b.2
  · rw [if_pos (by simpa using e), e]; congr 1; apply propext; omega
  · rw [if_neg (by simpa using e)]; congr 1; apply propext; omega
theorem Less_in {i j : Nat} (h : QAt s o sb q) (hi : i < q.length) (hj : j < q.length) (hK : ∀ s', Sub s s' → K (.bool (decide (ky q i < ky q j))) s') : wpCall Try.prog XX 92 [.ptr o 0, .int .i64 (i : Int), .int .i64 (j : Int)] K s := by
  obtain ⟨t, ho⟩ := h.ob
  have ri := (h.row hi).1
  have rj := (h.row hj).1
  refine vc_spread_order_Less_in ?_
  simp only [vc_spread_order_Less, nilCheck_ptr, addOff_ptr, optK_mk, rd1_mk ho, Nat.zero_add, List.getElem?_cons_zero, q_addr hi, q_addr hj, ri, rj]
  refine newM (l := []) fun x s1 hx hx1 ux => newM (l := [(s, add s s1)]) fun y s2 hy hy2 uy => ⟨?_, ?_⟩
  · refine cut_new hx (fun p hp => by simp only [List.mem_cons, List.not_mem_nil, or_false] at hp; rcases hp with rfl | rfl <;> rfl) ?_
    rw [sub_add x _ hx1]; simp
  · have hyx : y ≠ x := by rintro rfl; rw [hx1] at hy; cases hy
    refine wrAgg_step (sub_add x _ hx1) rfl rfl rfl fun s3 hx3 u3 => ?_
    refine wrAgg_step ((u3 y hyx).trans hy2) rfl rfl rfl fun s4 hy4 u4 => ?_
    have hx4 : s4 x = _ := (u4 x hyx.symm).trans hx3
    have sub4 : Sub s s4 := fun i e hi => by
      have hiA : add s s1 i = some e := sub_add i e hi
      rw [u4 i (ne_of_some hy hiA), u3 i (ne_of_some hx hi)]
      exact sub_add i e hiA
    have hk := hK _ sub4
    have e := ky_lt (h.rg _ (List.getElem_mem hi)) (h.rg _ (List.getElem_mem hj))
    rw [← at0_get hi, ← at0_get hj] at e
    unfold ky at hk
    rw [e] at hk
    simp only [addOff_ptr, optK_mk, rd1_mk hx4, rd1_mk hy4, Nat.zero_add, shR, List.getElem?_cons_zero, List.getElem?_cons_succ, eqV_int, negB_mk, Bool.true_bne, arith_lss]
    cases hq : ((at0 q i).2 == (at0 q j).2) with
    | true => rw [hq, if_pos rfl] at hk; simp only [Bool.not_true, boolK_false]; exact hk
    | false => rw [hq, if_neg (by simp)] at hk; simp only [Bool.not_false, boolK_true]; exact hk
theorem Swap_in {i j : Nat} (h : QAt s o sb q) (hi : i < q.length) (hj : j < q.length) (hK : ∀ s', QAt s' o sb (swp q i j) → KeepBut (fun b => b = sb) s s' → K (.tup []) s') : wpCall Try.prog XX 114 [.ptr o 0, .int .i64 (i : Int), .int .i64 (j : Int)] K s := by
  obtain ⟨t, ho⟩ := h.ob
  have ri := (h.row hi).1
  have rj := (h.row hj).1
  refine vc_spread_order_Swap_in ?_
  simp only [vc_spread_order_Swap, nilCheck_ptr, addOff_ptr, optK_mk, rd1_mk ho, Nat.zero_add, List.getElem?_cons_zero, q_addr hi, q_addr hj, ri, rj]
  have hos : o ≠ sb := by rintro rfl; rw [h.dt] at ho; cases ho
  have wr : ∀ {s : Heap} {q : List Shr} {i : Nat} {x : Shr} {R : Heap → Prop}, s sb = some (false, .cells 149 (flatQ q)) → i < q.length → (∀ s', s' sb = some (false, .cells 149 (flatQ (q.set i x))) → Upto sb s s' → R s') → optK (wrAgg s 2 (.ptr sb (i * 2)) (.agg (shR x))) R := by
    intro s q i x R hs hi hR
    have e1 : Nat.ble (i * 2 + (shR x).length) (flatQ q).length = true := Nat.ble_eq_true_of_le (by rw [flatQ_len]; show i * 2 + 2 ≤ _; omega)
    have e2 : wrAgg s 2 (.ptr sb (i * 2)) (.agg (shR x)) = some (hset s sb (false, .cells 149 (flatQ (q.set i x)))) := by
      rw [← flatQ_put hi]
      simp only [wrAgg, cells_agg, show Nat.beq (shR x).length 2 = true from rfl, cond_true, wrN, hs, e1, show allOne (shR x) = true from rfl, Bool.and_self]
    exact optK_of e2 (hR _ hset_eq fun _ hi => hset_other hi)
  refine wr h.dt hi fun s1 h1 u1 => wr h1 (by simpa using hj) fun s2 h2 u2 => ?_
  refine hK _ ⟨⟨t, ?_⟩, h2, fun x hx => h.rg x ((swp_perm hi hj).mem_iff.1 hx), by rw [swp_len]; exact h.ln⟩ ((u1.keep (fp := fun b => b = sb) rfl).trans (u2.keep (fp := fun b => b = sb) rfl))
  rw [u2 o hos, u1 o hos, swp_len]; exact ho
abbrev qv (o : Nat) : AVal := .ifc 122 (.agg [.ptr o 0])
theorem meth_Len : methodA Try.prog 122 (.agg [.ptr o 0]) "Len" = ret (113, .ptr o 0) := by kernel_rfl
theorem meth_Less : methodA Try.prog 122 (.agg [.ptr o 0]) "Less" = ret (92, .ptr o 0) := by kernel_rfl
theorem meth_Swap : methodA Try.prog 122 (.agg [.ptr o 0]) "Swap" = ret (114, .ptr o 0) := by kernel_rfl
theorem mLen_in (h : QAt s o sb q) (hK : K (.int .i64 (q.length : Int)) s) : methK Try.prog XX (qv o) "Len" [] K s := by
  show wpF (fun _ => methodA Try.prog 122 (.agg [.ptr o 0]) "Len") _ s
  rw [meth_Len]
  obtain ⟨t, ho⟩ := h.ob
  refine wpF.ret ⟨by kernel_rfl, vc_spread_order_Len_in ?_⟩
  simp only [vc_spread_order_Len, nilCheck_ptr, addOff_ptr, optK_mk, rd1_mk ho, Nat.zero_add, List.getElem?_cons_zero, lenOf_slc]
  exact hK
theorem mLess_in {i j : Nat} (h : QAt s o sb q) (hi : i < q.length) (hj : j < q.length) (hK : ∀ s', Sub s s' → K (.bool (decide (ky q i < ky q j))) s') : methK Try.prog XX (qv o) "Less" [.int .i64 (i : Int), .int .i64 (j : Int)] K s := by
  show wpF (fun _ => methodA Try.prog 122 (.agg [.ptr o 0]) "Less") _ s
  rw [meth_Less]
  exact wpF.ret ⟨by kernel_rfl, Less_in h hi hj hK⟩
theorem mSwap_in {i j : Nat} (h : QAt s o sb q) (hi : i < q.length) (hj : j < q.length) (hK : ∀ s', QAt s' o sb (swp q i j) → KeepBut (fun b => b = sb) s s' → K (.tup []) s') : methK Try.prog XX (qv o) "Swap" [.int .i64 (i : Int), .int .i64 (j : Int)] K s := by
  show wpF (fun _ => methodA Try.prog 122 (.agg [.ptr o 0]) "Swap") _ s
  rw [meth_Swap]
  exact wpF.ret ⟨by kernel_rfl, Swap_in h hi hj hK⟩
end Go.AM.WH
namespace Go.AM.WH
open Go Go.Proofs
variable {K : AVal → Heap → Prop} {s : Heap} {o sb : Nat} {q : List Shr}
theorem QAt.of {q : List Shr} (h : QAt s o sb q) {s' : Heap} {q' : List Shr} (hd : s' sb = some (false, .cells 149 (flatQ q'))) (hp : q'.length = q.length) (hr : ∀ x ∈ q', 0 ≤ x.1 ∧ x.1 < 1000) (hk : KeepBut (fun b => b = sb) s s') : QAt s' o sb q' := by
  obtain ⟨t, ho⟩ := h.ob
  have hos : ¬ o = sb := by rintro rfl; rw [h.dt] at ho; cases ho
  exact ⟨⟨t, by rw [hp]; exact hk _ _ ho hos⟩, hd, hr, by rw [hp]; exact h.ln⟩
/-- sift down -/
theorem down_in {i0 : Nat} (h : QAt s o sb q) (hd : Hp q (i0 + 1)) (h0 : i0 < q.length) (hK : ∀ s' q' b, QAt s' o sb q' → q'.Perm q → Hp q' i0 → KeepBut (fun b => b = sb) s s' → (b = false → q' = q) → ((∀ j, 0 < j → j < q.length → (j - 1) / 2 = i0 → ky q i0 ≤ ky q j) → b = false) → K (.bool b) s') : wpCall Try.prog XX 84 [qv o, .int .i64 (i0 : Int), .int .i64 (q.length : Int)] K s := by
  refine vc_container_heap_down_in ?_
  refine ⟨fun ys s1 n => ∃ (i : Nat) (q1 : List Shr), ys = [.int .i64 i] ∧ n = q.length - i ∧ i < q.length ∧ QAt s1 o sb q1 ∧ q1.Perm q ∧ Dn q1 i0 i ∧ KeepBut (fun b => b = sb) s s1 ∧ (i = i0 → q1 = q) ∧ ((∀ j, 0 < j → j < q.length → (j - 1) / 2 = i0 → ky q i0 ≤ ky q j) → i = i0), ⟨_, i0, q, rfl, rfl, h0, h, .refl q, hd.dn, .refl _ s, fun _ => rfl, fun _ => rfl⟩, ?_⟩
  rintro f s1 n ⟨i, q1, hy, rfl, hi, z, hp, dn, kp, same, stay⟩
  simp only [List.cons.injEq, and_true] at hy
  rw [hy]
  have hlen := hp.length_eq
  have hl := h.ln
  have m1 : IntKind.i64.wrap (2 * (i : Int)) = ((2 * i : Nat) : Int) := by rw [wrap64 (by omega) (by omega)]; omega
  have m2 : IntKind.i64.wrap (((2 * i : Nat) : Int) + 1) = ((2 * i + 1 : Nat) : Int) := by rw [wrap64 (by omega) (by omega)]; omega
  have m3 : IntKind.i64.wrap (((2 * i + 1 : Nat) : Int) + 1) = ((2 * i + 2 : Nat) : Int) := by rw [wrap64 (by omega) (by omega)]; omega
  simp only [vc_container_heap_down_l1, arith_mul, optK_mk, m1, arith_add, m2, arith_geq, arith_lss]
  have fin : ∀ s2, Sub s1 s2 → (∀ j, 0 < j → j < q1.length → (j - 1) / 2 = i → ky q1 i ≤ ky q1 j) → vc_container_heap_down_j0 XX (.int .i64 (i0 : Int)) (.int .i64 (i : Int)) K s2 := by
    intro s2 hs hc
    simp only [vc_container_heap_down_j0, arith_gtr, optK_mk]
    refine hK s2 q1 _ (z.sub hs) hp (dn.done hc) (kp.trans hs.keep) (fun hb => same ?_) fun hst => ?_
    · have := of_decide_eq_false hb
      have := dn.le
      omega
    · rw [stay hst, decide_eq_false_iff_not]
      omega
  by_cases hc : q.length ≤ 2 * i + 1
  · have e1 : decide ((q.length : Int) ≤ ((2 * i + 1 : Nat) : Int)) = true := by rw [decide_eq_true_eq]; omega
    rw [e1]
    simp only [boolK_true, vc_container_heap_down_j2, pickV_true, optK_mk]
    exact fin s1 (.refl s1) fun j a b c => by omega
  · have e1 : decide ((q.length : Int) ≤ ((2 * i + 1 : Nat) : Int)) = false := by rw [decide_eq_false_iff_not]; omega
    have e2 : decide (((2 * i + 1 : Nat) : Int) < 0) = false := by rw [decide_eq_false_iff_not]; omega
    rw [e1, e2]
    simp only [boolK_false, vc_container_heap_down_j2, pickV_false, optK_mk, arith_add, m3, arith_lss]
    -- what comes once the child is chosen
    have go : ∀ (s2 : Heap) (j : Nat), Sub s1 s2 → j < q1.length → (j = 2 * i + 1 ∨ j = 2 * i + 2) → (∀ m, 0 < m → m < q1.length → (m - 1) / 2 = i → ky q1 j ≤ ky q1 m) →
        vc_container_heap_down_j4 XX (qv o) (.int .i64 (i0 : Int)) (.int .i64 (i : Int)) (.int .i64 (j : Int)) (fun ys s1 n => ∃ (i : Nat) (q1 : List Shr), ys = [.int .i64 i] ∧ n = q.length - i ∧ i < q.length ∧ QAt s1 o sb q1 ∧ q1.Perm q ∧ Dn q1 i0 i ∧ KeepBut (fun b => b = sb) s s1 ∧ (i = i0 → q1 = q) ∧ ((∀ j, 0 < j → j < q.length → (j - 1) / 2 = i0 → ky q i0 ≤ ky q j) → i = i0)) (q.length - i) K s2 := by
      intro s2 j hs hj hc2 hmin
      unfold vc_container_heap_down_j4
      refine mLess_in (z.sub hs) hj (by omega) fun s3 hs3 => ?_
      simp only [unary_not, optK_mk]
      refine boolK_mk (fun hb => ?_) (fun hb => ?_)
      · have hb : ¬ ky q1 j < ky q1 i := by simpa using hb
        exact fin s3 (hs.trans hs3) fun m a b c => by have := hmin m a b c; omega
      · have hb : ky q1 j < ky q1 i := by simpa using hb
        refine mSwap_in (z.sub (hs.trans hs3)) (by omega) hj fun s4 z4 k4 => ?_
        refine ⟨_, ?_, j, _, rfl, rfl, by omega, z4, (swp_perm (by omega) hj).trans hp, dn.swap hj hc2 hb hmin, (kp.trans (hs.trans hs3).keep).trans k4, fun e => ?_, fun hst => ?_⟩
        · omega
        · have := dn.le; omega
        · have e1 := stay hst
          have e2 := same e1
          subst e1
          rw [e2] at hb
          have := hst j (by omega) (by omega) (by omega)
          omega
    refine boolK_mk (fun hb => ?_) (fun hb => ?_)
    · have hb2 : 2 * i + 2 < q.length := by have := of_decide_eq_true hb; omega
      rw [hb]
      refine mLess_in z (by omega) (by omega) fun s2 hs2 => ?_
      simp only [vc_container_heap_down_j3, pickV_true, optK_mk]
      refine boolK_mk (fun hl2 => ?_) (fun hl2 => ?_)
      · have hl2 := of_decide_eq_true hl2
        exact go s2 (2 * i + 2) hs2 (by omega) (.inr rfl) fun m a b c => by
          have : m = 2 * i + 1 ∨ m = 2 * i + 2 := by omega
          rcases this with rfl | rfl
          · omega
          · exact Int.le_refl _
      · have hl2 := of_decide_eq_false hl2
        exact go s2 (2 * i + 1) hs2 (by omega) (.inl rfl) fun m a b c => by
          have : m = 2 * i + 1 ∨ m = 2 * i + 2 := by omega
          rcases this with rfl | rfl
          · exact Int.le_refl _
          · omega
    · have hb2 : ¬ 2 * i + 2 < q.length := by have := of_decide_eq_false hb; omega
      rw [hb]
      simp only [vc_container_heap_down_j3, pickV_false, optK_mk, boolK_false]
      exact go s1 (2 * i + 1) (.refl s1) (by omega) (.inl rfl) fun m a b c => by
        have : m = 2 * i + 1 := by omega
        subst this
        exact Int.le_refl _
/-- sift up -/
theorem up_in {j0 : Nat} (h : QAt s o sb q) (hu : Up q j0) (h0 : j0 < q.length) (hK : ∀ s' q', QAt s' o sb q' → q'.Perm q → Hp q' 0 → KeepBut (fun b => b = sb) s s' → K (.tup []) s') : wpCall Try.prog XX 85 [qv o, .int .i64 (j0 : Int)] K s := by
  refine vc_container_heap_up_in ?_
  refine ⟨fun ys s1 n => ∃ (j : Nat) (q1 : List Shr), ys = [.int .i64 j] ∧ n = j ∧ j < q.length ∧ QAt s1 o sb q1 ∧ q1.Perm q ∧ Up q1 j ∧ KeepBut (fun b => b = sb) s s1, ⟨_, j0, q, rfl, rfl, h0, h, .refl q, hu, .refl _ s⟩, ?_⟩
  rintro f s1 n ⟨j, q1, hy, rfl, hj, z, hp, up, kp⟩
  simp only [List.cons.injEq, and_true] at hy
  rw [hy]
  have hlen := hp.length_eq
  have hl := h.ln
  simp only [vc_container_heap_up_l0, arith_sub, optK_mk]
  rw [wrap64 (by omega) (by omega)]
  simp only [arith_quo (show (2 : Int) ≠ 0 by omega), optK_mk]
  have e1 : ((n : Int) - 1).tdiv 2 = (((n - 1) / 2 : Nat) : Int) := by
    cases n with
    | zero => rfl
    | succ m =>
      rw [show ((m + 1 : Nat) : Int) - 1 = (m : Int) by omega, show m + 1 - 1 = m by omega, Int.tdiv_eq_ediv_of_nonneg (by omega)]
      rfl
  rw [e1, wrap64 (by omega) (by omega)]
  simp only [eqV_int, negB_mk, Bool.false_bne, optK_mk]
  cases n with
  | zero =>
    simp only [show ((((0 - 1) / 2 : Nat) : Int) == ((0 : Nat) : Int)) = true from rfl, boolK_true, vc_container_heap_up_j1, pickV_true, optK_mk]
    exact hK s1 q1 z hp (up.done fun h => absurd h (by omega)) kp
  | succ m =>
    have e2 : ((((m + 1 - 1) / 2 : Nat) : Int) == ((m + 1 : Nat) : Int)) = false := by
      cases hq : ((((m + 1 - 1) / 2 : Nat) : Int) == ((m + 1 : Nat) : Int)) with
      | false => rfl
      | true => have := eq_of_beq hq; omega
    rw [e2]
    simp only [boolK_false]
    refine mLess_in z (by omega) (by omega) fun s2 hs2 => ?_
    simp only [unary_not, optK_mk, vc_container_heap_up_j1, pickV_false]
    refine boolK_mk (fun hb => ?_) (fun hb => ?_)
    · have hb : ¬ ky q1 (m + 1) < ky q1 ((m + 1 - 1) / 2) := by simpa using hb
      exact hK s2 q1 (z.sub hs2) hp (up.done fun _ => by omega) (kp.trans hs2.keep)
    · have hb : ky q1 (m + 1) < ky q1 ((m + 1 - 1) / 2) := by simpa using hb
      refine mSwap_in (z.sub hs2) (by omega) (by omega) fun s3 z3 k3 => ?_
      exact ⟨_, by omega, _, _, rfl, rfl, by omega, z3, (swp_perm (by omega) (by omega)).trans hp, up.swap (by omega) (by omega) hb, (kp.trans hs2.keep).trans k3⟩
theorem Init_in (h : QAt s o sb q) (hK : ∀ s' q', QAt s' o sb q' → q'.Perm q → Hp q' 0 → KeepBut (fun b => b = sb) s s' → K (.tup []) s') : wpCall Try.prog XX 90 [qv o] K s := by
  refine vc_container_heap_Init_in (mLen_in h ?_)
  have hl := h.ln
  have e1 : (q.length : Int).tdiv 2 = ((q.length / 2 : Nat) : Int) := by rw [Int.tdiv_eq_ediv_of_nonneg (by omega)]; rfl
  simp only [arith_quo (show (2 : Int) ≠ 0 by omega), optK_mk, e1]
  rw [wrap64 (by omega) (by omega)]
  simp only [arith_sub, optK_mk]
  rw [wrap64 (by omega) (by omega)]
  refine ⟨fun ys s1 n => ∃ (j : Nat) (q1 : List Shr), ys = [.int .i64 ((j : Int) - 1)] ∧ n = j ∧ j ≤ q.length / 2 ∧ QAt s1 o sb q1 ∧ q1.Perm q ∧ Hp q1 j ∧ KeepBut (fun b => b = sb) s s1, ⟨_, q.length / 2, q, rfl, rfl, by omega, h, .refl q, .leaf (by omega), .refl _ s⟩, ?_⟩
  rintro f s1 n ⟨j, q1, hy, rfl, hj, z, hp, hh, kp⟩
  simp only [List.cons.injEq, and_true] at hy
  rw [hy]
  have hlen := hp.length_eq
  simp only [vc_container_heap_Init_l0, arith_geq, optK_mk]
  refine boolK_mk (fun hb => ?_) (fun hb => ?_)
  · have hb := of_decide_eq_true hb
    obtain ⟨i, rfl⟩ : ∃ i, n = i + 1 := ⟨n - 1, by omega⟩
    rw [show ((i + 1 : Nat) : Int) - 1 = (i : Int) by omega, ← hlen]
    refine down_in z hh (by omega) fun s2 q2 b z2 p2 h2 k2 _ _ => ?_
    simp only [arith_sub, optK_mk]
    rw [wrap64 (by omega) (by omega)]
    exact ⟨_, by omega, i, q2, rfl, rfl, by omega, z2, p2.trans hp, h2, kp.trans k2⟩
  · have hb := of_decide_eq_false hb
    obtain rfl : n = 0 := by omega
    exact hK s1 q1 z hp hh kp
end Go.AM.WH
namespace Go.AM.WH
open Go Go.Proofs
variable {K : AVal → Heap → Prop} {s : Heap} {o sb : Nat} {q : List Shr}
/-- the load of one changes -/
def upd2 (q : List Shr) (i : Nat) (d : Int) : List Shr := q.set i ((at0 q i).1, (at0 q i).2 + d)
theorem upd2_len (q : List Shr) (i : Nat) (d : Int) : (upd2 q i d).length = q.length := by simp [upd2]
theorem ky_upd2 {i m : Nat} {d : Int} (hi : i < q.length) : ky (upd2 q i d) m = if m = i then ky q i + d * 1000 else ky q m := by
  unfold ky upd2
  rw [at0_set hi]
  split
  · unfold key; simp only; omega
  · rfl
theorem upd2_rg {i : Nat} {d : Int} (hi : i < q.length) (hr : ∀ x ∈ q, 0 ≤ x.1 ∧ x.1 < 1000) : ∀ x ∈ upd2 q i d, 0 ≤ x.1 ∧ x.1 < 1000 := fun x hx => by
  rcases List.mem_or_eq_of_mem_set hx with h | rfl
  · exact hr x h
  · exact hr (at0 q i) (by rw [at0_get hi]; exact List.getElem_mem hi)
/-- up to the call of Fix -/
theorem change_in {i : Nat} {d : Int} (h : QAt s o sb q) (hi : i < q.length) (hd : -1 ≤ d ∧ d ≤ 1) (hb : 0 ≤ (at0 q i).2 ∧ (at0 q i).2 ≤ 100000)
    (hK : ∀ s', QAt s' o sb (upd2 q i d) → KeepBut (fun b => b = sb) s s' → wpCall Try.prog XX 91 [qv o, .int .i64 (i : Int)] (fun _ s'' => K (.tup []) s'') s') : wpCall Try.prog XX 79 [.agg [.ptr o 0], .int .i64 (i : Int), .int .i64 d] K s := by
  refine vc_spread_queue_change_in ⟨rfl, new_step fun b s1 hb1 h1 u1 => ?_⟩
  have z1 := h.sub (u1.sub hb1)
  obtain ⟨t, ho⟩ := z1.ob
  have h1 : s1 b = some (false, .cells 122 [.ptr o 0]) := h1
  have r := (z1.row hi).2.2
  simp only [addOff_ptr, optK_mk, rd1_mk h1, rd1_mk ho, Nat.zero_add, List.getElem?_cons_zero, nilCheck_ptr, q_addr hi, r, arith_add]
  rw [wrap64 (by omega) (by omega)]
  refine wr1_step z1.dt (by rw [flatQ_len]; omega) rfl fun s2 h2 u2 => ?_
  have hbs : b ≠ sb := by rintro rfl; rw [h.dt] at hb1; cases hb1
  refine optK_of (rdN_all ((u2 b hbs).trans h1) rfl) ?_
  refine hK s2 (z1.of (by rw [flatQ_set1 hi] at h2; exact h2) (upd2_len _ _ _) (upd2_rg hi h.rg) (u2.keep (fp := fun b => b = sb) rfl)) ((u1.sub hb1).keep.trans (u2.keep (fp := fun b => b = sb) rfl))
theorem change0_in (h : QAt s o sb q) (hh : Hp q 0) (hi : 0 < q.length) (hb : 0 ≤ (at0 q 0).2 ∧ (at0 q 0).2 ≤ 100000)
    (hK : ∀ s' q', QAt s' o sb q' → q'.Perm (upd2 q 0 1) → Hp q' 0 → KeepBut (fun b => b = sb) s s' → K (.tup []) s') : wpCall Try.prog XX 79 [.agg [.ptr o 0], .int .i64 0, .int .i64 1] K s := by
  refine change_in (i := 0) h hi (by omega) hb fun s1 z1 k1 => ?_
  refine vc_container_heap_Fix_in (mLen_in z1 ?_)
  have hd : Hp (upd2 q 0 1) 1 := fun j h0 h1 h2 => by
    rw [upd2_len] at h1
    rw [ky_upd2 hi, ky_upd2 hi, if_neg (by omega), if_neg (by omega)]
    exact hh j h0 h1 (by omega)
  refine down_in (i0 := 0) z1 hd (by rw [upd2_len]; exact hi) fun s2 q2 b z2 p2 h2 k2 same _ => ?_
  simp only [unary_not, optK_mk]
  refine boolK_mk (fun _ => ?_) (fun _ => hK s2 q2 z2 p2 h2 (k1.trans k2))
  refine up_in (j0 := 0) z2 ⟨fun m m0 m1 _ => h2 m m0 m1 (by omega), fun h => absurd h (by omega)⟩ (by rw [p2.length_eq, upd2_len]; exact hi) fun s3 q3 z3 p3 h3 k3 => hK s3 q3 z3 (p3.trans p2) h3 ((k1.trans k2).trans k3)
theorem changeM_in {i : Nat} (h : QAt s o sb q) (hh : Hp q 0) (hi : i < q.length) (hb : 0 ≤ (at0 q i).2 ∧ (at0 q i).2 ≤ 100000)
    (hK : ∀ s' q', QAt s' o sb q' → q'.Perm (upd2 q i (-1)) → Hp q' 0 → KeepBut (fun b => b = sb) s s' → K (.tup []) s') : wpCall Try.prog XX 79 [.agg [.ptr o 0], .int .i64 (i : Int), .int .i64 (-1)] K s := by
  refine change_in h hi (by omega) hb fun s1 z1 k1 => ?_
  refine vc_container_heap_Fix_in (mLen_in z1 ?_)
  have hd : Hp (upd2 q i (-1)) (i + 1) := fun j h0 h1 h2 => by
    rw [upd2_len] at h1
    rw [ky_upd2 hi, ky_upd2 hi, if_neg (by omega), if_neg (by omega)]
    exact hh j h0 h1 (by omega)
  have hi1 : i < (upd2 q i (-1)).length := by rw [upd2_len]; exact hi
  refine down_in (i0 := i) z1 hd hi1 fun s2 q2 b z2 p2 h2 k2 same stay => ?_
  have hb : b = false := stay fun j h0 h1 h2 => by
    rw [upd2_len] at h1
    rw [ky_upd2 hi, ky_upd2 hi, if_pos rfl, if_neg (by omega)]
    have := hh j h0 h1 (by omega)
    rw [h2] at this
    omega
  subst hb
  have e2 := same rfl
  subst e2
  simp only [unary_not, Bool.not_false, optK_mk, boolK_true]
  refine up_in (j0 := i) z2 ⟨fun m m0 m1 m2 => ?_, fun i0 m m0 m1 m2 => ?_⟩ hi1 fun s3 q3 z3 p3 h3 k3 => hK s3 q3 z3 p3 h3 ((k1.trans k2).trans k3)
  · rw [upd2_len] at m1
    rw [ky_upd2 hi, ky_upd2 hi, if_neg m2]
    have := hh m m0 m1 (by omega)
    split
    · rename_i e; rw [e] at this; omega
    · exact this
  · rw [upd2_len] at m1
    rw [ky_upd2 hi, ky_upd2 hi, if_neg (show (i - 1) / 2 ≠ i by omega), if_neg (show m ≠ i by omega)]
    have a := hh m m0 m1 (by omega)
    have b := hh i i0 hi (by omega)
    rw [m2] at a
    omega
theorem most_in (h : QAt s o sb q) (hq : 0 < q.length) (hK : ∀ s' (m : Nat), Sub s s' → m < q.length → (∀ j, j < q.length → ky q j ≤ ky q m) → K (.int .i64 (m : Int)) s') : wpCall Try.prog XX 80 [.agg [.ptr o 0]] K s := by
  refine vc_spread_queue_most_in ⟨rfl, new_step fun b s1 hb1 h1 u1 => ?_⟩
  have sub1 := u1.sub hb1
  have z1 := h.sub sub1
  obtain ⟨t, ho⟩ := z1.ob
  have h1 : s1 b = some (false, .cells 122 [.ptr o 0]) := h1
  have hl := h.ln
  simp only [addOff_ptr, optK_mk, rd1_mk h1, rd1_mk ho, Nat.zero_add, List.getElem?_cons_zero, nilCheck_ptr, lenOf_slc]
  refine ⟨fun ys s2 n => ∃ (m i : Nat), ys = [.int .i64 m, .int .i64 i] ∧ n = q.length - i ∧ i ≤ q.length ∧ m < q.length ∧ (∀ j, j < i → ky q j ≤ ky q m) ∧ Sub s1 s2, ⟨_, 0, 0, rfl, rfl, by omega, hq, by omega, .refl s1⟩, ?_⟩
  rintro f s2 n ⟨m, i, hy, rfl, hi, hm, hb, sub2⟩
  simp only [List.cons.injEq, and_true] at hy
  rw [hy.1, hy.2]
  have z2 := z1.sub sub2
  simp only [vc_spread_queue_most_l0, arith_lss, optK_mk]
  refine boolK_mk (fun hlt => ?_) (fun hge => ?_)
  · have hlt : i < q.length := by have := of_decide_eq_true hlt; omega
    simp only [addOff_ptr, optK_mk, rd1_mk (sub2 _ _ h1), Nat.zero_add, List.getElem?_cons_zero]
    refine Less_in z2 hm hlt fun s3 sub3 => ?_
    simp only [vc_spread_queue_most_j1, arith_add, optK_mk]
    rw [wrap64 (by omega) (by omega)]
    refine boolK_mk (fun hb2 => ?_) (fun hb2 => ?_)
    · have hb2 := of_decide_eq_true hb2
      refine ⟨_, by omega, i, i + 1, rfl, rfl, by omega, hlt, fun j hj => ?_, sub2.trans sub3⟩
      by_cases e : j = i
      · subst e; exact Int.le_refl _
      · have := hb j (by omega); omega
    · have hb2 := of_decide_eq_false hb2
      refine ⟨_, by omega, m, i + 1, rfl, rfl, by omega, hm, fun j hj => ?_, sub2.trans sub3⟩
      by_cases e : j = i
      · subst e; omega
      · exact hb j (by omega)
  · have hge : q.length ≤ i := by have := of_decide_eq_false hge; omega
    exact hK s2 m (sub1.trans sub2) hm fun j hj => hb j (by omega)
theorem build_in (h : QAt s o sb q) (hK : ∀ s' q', QAt s' o sb q' → q'.Perm q → Hp q' 0 → KeepBut (fun b => b = sb) s s' → K (.tup []) s') : wpCall Try.prog XX 78 [.agg [.ptr o 0]] K s := by
  refine vc_spread_queue_build_in ⟨rfl, new_step fun b s1 hb1 h1 u1 => optK_of (rdN_all h1 rfl) ?_⟩
  exact Init_in (h.sub (u1.sub hb1)) fun s2 q2 z2 p2 h2 k2 => hK s2 q2 z2 p2 h2 ((u1.sub hb1).keep.trans k2)
end Go.AM.WH
namespace Go.AM.WH
open Go Go.Proofs
variable {K : AVal → Heap → Prop} {s : Heap}
/-! ### wheels -/
abbrev Sli (s : Heap) (v : AVal) (l : List Int) : Prop := Sl s v (l.map (AVal.int .i64))
theorem sli_at {v : AVal} {l : List Int} (h : Sli s v l) {k : Nat} (hk : k < l.length) : ∃ p, iaddrS 1 v (.int .i64 (k : Int)) = some p ∧ rd1 s p = some (.int .i64 l[k]) := by
  obtain ⟨p, h1, h2⟩ := h.get (i := k) (by simpa using hk)
  exact ⟨p, h1, by rw [h2]; simp [hk]⟩
abbrev ints (l : List Int) : List AVal := l.map (AVal.int .i64)
theorem b_addr {bb n i : Nat} {cap : Option Nat} (hi : i < n) : iaddrS 1 (.slc bb 0 n cap 1) (.int .i64 (i : Int)) = some (.ptr bb i) := by
  have : Nat.blt i n = true := by rw [Nat.blt_eq]; exact hi
  simp [iaddrS, this]
theorem ints_at {B : List Int} {i : Nat} (hi : i < B.length) : (ints B)[i]? = some (.int .i64 B[i]) := by simp [ints, hi]
theorem ints_set {B : List Int} {i : Nat} {v : Int} : (ints B).set i (.int .i64 v) = ints (B.set i v) := by simp [ints, List.map_set]
theorem _root_.Go.AM.Sub.upto {s s' s'' : Heap} {b : Nat} (h : Sub s s') (u : Upto b s' s'') (hb : s b = none) : Sub s s'' := fun i e hi => by rw [u i (ne_of_some hb hi)]; exact h i e hi
/-- the number of buckets of a member; a bucket holds its member's number plus 1, or 0 -/
def ld (B : List Int) (m : Int) : Nat := B.count (m + 1)
/-- a wheel in memory: its buckets lie in a block of its own -/
structure WAt (s : Heap) (w bb : Nat) (mv : AVal) (cap : Option Nat) (B M : List Int) : Prop where
  wb : s w = some (false, .cells 119 [.slc bb 0 B.length cap 1, mv])
  bs : s bb = some (false, .cells 3 (ints B))
  ms : Sli s mv M
  cp : ∀ c, cap = some c → B.length ≤ c
  pos : 1 ≤ B.length ∧ B.length ≤ 256
variable {w bb : Nat} {mv : AVal} {cap : Option Nat} {B M : List Int}
theorem WAt.sub {s' : Heap} (h : WAt s w bb mv cap B M) (hs : Sub s s') : WAt s' w bb mv cap B M := ⟨hs _ _ h.wb, hs _ _ h.bs, h.ms.sub hs, h.cp, h.pos⟩
theorem WAt.ne (h : WAt s w bb mv cap B M) : w ≠ bb := by
  rintro rfl
  have := h.wb
  rw [h.bs] at this
  cases this
theorem valid_in (h : WAt s w bb mv cap B M) (hK : K (.bool true) s) : wpCall Try.prog XX 63 [.ptr w 0] K s := by
  refine vc_spread_Wheel_valid_in ?_
  have hp : decide ((0 : Int) < (B.length : Int)) = true := by have := h.pos; rw [decide_eq_true_eq]; omega
  simp only [vc_spread_Wheel_valid, eqV_ptr, negB_mk, Bool.bne_false, optK_mk, boolK_true, nilCheck_ptr, addOff_ptr, rd1_mk h.wb, Nat.zero_add, List.getElem?_cons_zero, lenOf_slc, arith_gtr, hp, vc_spread_Wheel_valid_j0, pickV_true]
  exact hK
theorem New_in {n : Nat} (h1 : 1 ≤ n) (h2 : n ≤ 256) (hK : ∀ w bb s', s w = none → s bb = none → Sub s s' → WAt s' w bb .nilslc (some n) (List.replicate n 0) [] → K (.tup [.ptr w 0, .int .i64 0]) s') : wpCall Try.prog XX 62 [.int .i64 (n : Int)] K s := by
  refine vc_spread_New_in ?_
  have e1 : decide ((n : Int) < 1) = false := by rw [decide_eq_false_iff_not]; omega
  have e2 : decide ((256 : Int) < (n : Int)) = false := by rw [decide_eq_false_iff_not]; omega
  simp only [vc_spread_New, arith_lss, arith_gtr, e1, e2, optK_mk, boolK_false, vc_spread_New_j0, pickV_false, nat?_mk]
  refine ⟨⟨Nat.le_refl _, by omega⟩, new_step fun bb s1 hb hb1 u1 => ?_⟩
  refine optK_of (a := [.slc bb 0 n (some n) 1, .nilslc]) rfl ⟨rfl, new_step fun w s2 hw hw2 u2 => ?_⟩
  have hbb : s2 bb = some (false, .cells 3 (ints (List.replicate n 0))) := by
    rw [u2.at hb1 hw, repl_one]
    simp [ints]
  have hws : s w = none := by
    cases e : s w with
    | none => rfl
    | some x => rw [u1.sub hb w x e] at hw; cases hw
  refine hK w bb s2 hws hb ((u1.sub hb).trans (u2.sub hw)) ⟨?_, hbb, .inl ⟨rfl, rfl⟩, fun c e => by cases e; simp, by simp; omega⟩
  rw [List.length_replicate]; exact hw2
/-- a copy -/
theorem Clone_in {v : AVal} {l : List Int} (h : Sli s v l) (hl : l.length ≤ 100000) (hK : ∀ v' s', Sub s s' → Sli s' v' l → (l ≠ [] → ∃ c, s c = none ∧ v' = .slc c 0 l.length none 1 ∧ s' c = some (false, .cells 3 (ints l))) → K v' s') : wpCall Try.prog XX 46 [v] K s := by
  refine vc_slices_Clone___int_int__in ?_
  have cases0 : (v = .nilslc ∧ l = []) ∨ ∃ b o c, v = .slc b o l.length c 1 := by
    rcases h with ⟨a, b⟩ | ⟨b, o, c, a, _⟩
    · exact .inl ⟨a, by simpa using b⟩
    · exact .inr ⟨b, o, c, by simpa using a⟩
  rcases cases0 with ⟨rfl, rfl⟩ | ⟨b, o, c, rfl⟩
  · simp only [vc_slices_Clone___int_int_, eqV_nilslc, negB_mk, Bool.false_bne, optK_mk, boolK_true]
    exact hK _ _ (.refl s) (.inl ⟨rfl, rfl⟩) fun h => absurd rfl h
  · simp only [vc_slices_Clone___int_int_, eqV_slc, negB_mk, Bool.false_bne, optK_mk, boolK_false]
    refine optK_of (a := []) rfl ⟨rfl, new_step fun d s1 hd h1 u1 => ?_⟩
    refine app_copy (h.sub (u1.sub hd)) (by simp; omega) fun v' s2 sub2 g1 g2 => hK _ _ ((u1.sub hd).trans sub2) ?_ fun hne => ?_
    · by_cases hm : l.map (AVal.int .i64) = []
      · rw [g1 hm]
        unfold Sli; rw [hm]
        exact .inr ⟨d, 0, some 0, rfl, by simp, fun h => absurd rfl h⟩
      · obtain ⟨c, _, rfl, hc⟩ := g2 hm
        exact Sl.mk hc rfl (by simp)
    · obtain ⟨c, hc0, e, hc⟩ := g2 (by simpa using hne)
      refine ⟨c, ?_, by simpa using e, hc⟩
      cases q : s c with
      | none => rfl
      | some x => rw [u1.sub hd c x q] at hc0; cases hc0
end Go.AM.WH
namespace Go.AM.WH
open Go Go.Proofs
variable {K : AVal → Heap → Prop} {s : Heap} {w bb : Nat} {mv : AVal} {cap : Option Nat} {B M : List Int}
/-- ascending numbers of links -/
def Asc (l : List Int) : Prop := l.Pairwise (· < ·) ∧ ∀ x ∈ l, 0 ≤ x ∧ x < 128
theorem check_in {v : AVal} {l : List Int} (h : WAt s w bb mv cap B M) (hl : Sli s v l) (ha : Asc l) (hlen : l.length ≤ B.length) (hK : K (.int .i64 0) s) : wpCall Try.prog XX 64 [.ptr w 0, v] K s := by
  refine vc_spread_Wheel_check_in ?_
  have hp := h.pos
  simp only [vc_spread_Wheel_check, hl.len, optK_mk, List.length_map]
  refine ⟨fun ys s1 n => ∃ k : Nat, ys = [.int .i64 k] ∧ s1 = s ∧ k ≤ l.length ∧ n = l.length - k, ⟨_, 0, rfl, rfl, by omega, rfl⟩, ?_⟩
  rintro f s1 n ⟨k, hy, rfl, hk, rfl⟩
  simp only [List.cons.injEq, and_true] at hy
  rw [hy]
  simp only [vc_spread_Wheel_check_l0, optK_mk, arith_lss]
  refine boolK_mk (fun hlt => ?_) (fun hge => ?_)
  · have hlt : k < l.length := by have := of_decide_eq_true hlt; omega
    obtain ⟨p, g1, g2⟩ := sli_at hl hlt
    have hr := ha.2 _ (List.getElem_mem hlt)
    have e1 : decide (l[k] < 0) = false := by rw [decide_eq_false_iff_not]; omega
    have e2 : decide ((128 : Int) ≤ l[k]) = false := by rw [decide_eq_false_iff_not]; omega
    have fin : optK (arithV .add (.int .i64 (k : Int)) (.int .i64 1)) fun v_9 => ∃ m', m' < l.length - k ∧ ∃ k_1 : Nat, [v_9] = [AVal.int .i64 k_1] ∧ True ∧ k_1 ≤ l.length ∧ m' = l.length - k_1 := by
      simp only [arith_add, optK_mk]
      rw [wrap64 (by omega) (by omega)]
      exact ⟨_, by omega, k + 1, by simp, by trivial, by omega, rfl⟩
    simp only [g1, g2, optK_mk, arith_lss, arith_geq, e1, e2, boolK_false, vc_spread_Wheel_check_j1, pickV_false, arith_gtr]
    refine boolK_mk (fun hp => ?_) (fun hp => ?_)
    · rw [hp]
      have hp : 0 < k := by have := of_decide_eq_true hp; omega
      obtain ⟨q, g3, g4⟩ := sli_at hl (k := k - 1) (by omega)
      have ew : IntKind.i64.wrap ((k : Int) - 1) = ((k - 1 : Nat) : Int) := by rw [wrap64 (by omega) (by omega)]; omega
      have hlt2 : l[k - 1] < l[k] := List.pairwise_iff_getElem.1 ha.1 (k - 1) k (by omega) hlt (by omega)
      have e3 : decide (l[k] ≤ l[k - 1]) = false := by rw [decide_eq_false_iff_not]; omega
      simp only [arith_sub, ew, g3, g4, optK_mk, arith_leq, e3, vc_spread_Wheel_check_j2, pickV_true, boolK_false]
      exact fin
    · rw [hp]
      simp only [vc_spread_Wheel_check_j2, pickV_false, optK_mk, boolK_false]
      exact fin
  · have e3 : decide ((B.length : Int) < (l.length : Int)) = false := by rw [decide_eq_false_iff_not]; omega
    simp only [hl.len, List.length_map, optK_mk, nilCheck_ptr, addOff_ptr, rd1_mk h.wb, Nat.zero_add, List.getElem?_cons_zero, lenOf_slc, arith_gtr, e3, boolK_false]
    exact hK
theorem last_in {m : Int} {t1 t2 : Bool} {mv : AVal} (hw : s w = some (t1, .cells 119 [.slc bb 0 B.length cap 1, mv])) (hbs : s bb = some (t2, .cells 3 (ints B))) (hp : 1 ≤ B.length ∧ B.length ≤ 256) (hm : 0 ≤ m ∧ m < 128) (hin : m + 1 ∈ B) (hK : ∀ i : Nat, ∀ hi : i < B.length, B[i] = m + 1 → (∀ k (hk : k < B.length), i < k → B[k] ≠ m + 1) → K (.int .i64 (i : Int)) s) : wpCall Try.prog XX 81 [.ptr w 0, .int .i64 m] K s := by
  refine vc_spread_Wheel_last_in ?_
  simp only [vc_spread_Wheel_last, nilCheck_ptr, addOff_ptr, rd1_mk hw, Nat.zero_add, List.getElem?_cons_zero, lenOf_slc, optK_mk, arith_sub]
  rw [wrap64 (by omega) (by omega)]
  refine ⟨fun ys s1 n => ∃ k : Nat, ys = [.int .i64 k] ∧ s1 = s ∧ n = k ∧ k < B.length ∧ m + 1 ∈ B.take (k + 1) ∧ ∀ j (hj : j < B.length), k < j → B[j] ≠ m + 1, ⟨_, B.length - 1, by simp; omega, rfl, rfl, by omega, by rw [List.take_of_length_le (by omega)]; exact hin, fun j hj h => by omega⟩, ?_⟩
  rintro f s1 n ⟨k, hy, rfl, rfl, hk, hmem, hlast⟩
  simp only [List.cons.injEq, and_true] at hy
  rw [hy]
  rw [List.take_succ_eq_append_getElem hk, List.mem_append, List.mem_singleton] at hmem
  simp only [vc_spread_Wheel_last_l0, arith_gtr, optK_mk]
  refine boolK_mk (fun hg => ?_) (fun hg => ?_)
  · rw [hg]
    have hg := of_decide_eq_true hg
    simp only [nilCheck_ptr, addOff_ptr, rd1_mk hw, Nat.zero_add, List.getElem?_cons_zero, optK_mk, b_addr hk, rd1_mk hbs, ints_at hk, arith_add]
    rw [wrap64 (n := m + 1) (by omega) (by omega)]
    simp only [eqV_int, negB_mk, Bool.true_bne, optK_mk, vc_spread_Wheel_last_j1, pickV_true]
    cases hq : (B[n] == m + 1) with
    | true =>
      simp only [Bool.not_true, boolK_false]
      exact hK n hk (eq_of_beq hq) hlast
    | false =>
      have hne : ¬ m + 1 = B[n] := fun e => by rw [e] at hq; simp at hq
      simp only [Bool.not_false, boolK_true, arith_sub, optK_mk]
      rw [wrap64 (by omega) (by omega)]
      refine ⟨n - 1, by omega, n - 1, by simp; omega, by trivial, rfl, by omega, ?_, fun j hj hjk => ?_⟩
      · rw [show n - 1 + 1 = n by omega]
        exact hmem.resolve_right hne
      · by_cases e : j = n
        · subst e; exact fun e => hne e.symm
        · exact hlast j hj (by omega)
  · rw [hg]
    have hg := of_decide_eq_false hg
    have : n = 0 := by omega
    subst this
    simp only [vc_spread_Wheel_last_j1, pickV_false, optK_mk, boolK_false]
    refine hK 0 hk ?_ fun j hj h => hlast j hj h
    rcases hmem with h | h
    · simp at h
    · exact h.symm
/-! ### the queue -/
/-- the buckets of all but the members are taken away -/
def clr (M B : List Int) : List Int := B.map fun b => if b - 1 ∈ M then b else 0
theorem clr_len (M B : List Int) : (clr M B).length = B.length := by simp [clr]
/-- what is known of the elements of a queue -/
def QF (q : List Shr) (M : List Int) (f : Int → Int) : Prop := (q.map (·.1)).Perm M ∧ ∀ x ∈ q, x.2 = f x.1
abbrev QM (q : List Shr) (M B : List Int) : Prop := QF q M fun m => (ld B m : Nat)
theorem QF.perm {q q' : List Shr} {f : Int → Int} (h : QF q M f) (hp : q'.Perm q) : QF q' M f := ⟨(hp.map _).trans h.1, fun x hx => h.2 x (hp.mem_iff.1 hx)⟩
theorem ld_set {i : Nat} {v m : Int} (hi : i < B.length) : ld (B.set i v) m + (if B[i] = m + 1 then 1 else 0) = ld B m + (if v = m + 1 then 1 else 0) := by
  unfold ld
  have e1 : B = B.take i ++ B[i] :: B.drop (i + 1) := by
    conv => lhs; rw [← List.take_append_drop i B, List.drop_eq_getElem_cons hi]
  have e2 : B.set i v = B.take i ++ v :: B.drop (i + 1) := by
    rw [List.set_eq_take_append_cons_drop, if_pos hi]
  rw [e2]
  conv => rhs; rw [e1]
  simp only [List.count_append, List.count_cons, beq_iff_eq]
  omega
theorem QF.upd {q : List Shr} {j : Nat} {d : Int} {f f' : Int → Int} (h : QF q M f) (hnd : M.Nodup) (hj : j < q.length) (h1 : f' (at0 q j).1 = f (at0 q j).1 + d) (h2 : ∀ m ∈ M, m ≠ (at0 q j).1 → f' m = f m) : QF (upd2 q j d) M f' := by
  have e1 : (upd2 q j d).map (·.1) = q.map (·.1) := by
    unfold upd2
    rw [List.map_set]
    apply List.ext_getElem (by simp)
    intro n n1 n2
    rw [List.getElem_set]
    split
    · rename_i e; subst e; simp [at0_get hj]
    · rfl
  refine ⟨by rw [e1]; exact h.1, fun x hx => ?_⟩
  obtain ⟨n, hn, rfl⟩ := List.getElem_of_mem hx
  have hn' : n < q.length := by rw [upd2_len] at hn; exact hn
  by_cases e : n = j
  · subst e
    have : (upd2 q n d)[n] = ((at0 q n).1, (at0 q n).2 + d) := by simp [upd2]
    rw [this]
    simp only
    rw [h1, h.2 (at0 q n) (by rw [at0_get hj]; exact List.getElem_mem hj)]
  · have hx' : (upd2 q j d)[n] = q[n] := by
      simp [upd2, List.getElem_set_ne (Ne.symm e)]
    rw [hx']
    have hnd2 : (q.map (·.1)).Nodup := h.1.nodup_iff.2 hnd
    have hne : q[n].1 ≠ (at0 q j).1 := by
      intro e2
      rw [at0_get hj] at e2
      have hn2 : n < (q.map (·.1)).length := by simpa using hn'
      have hj2 : j < (q.map (·.1)).length := by simpa using hj
      rcases Nat.lt_or_gt_of_ne e with hlt | hlt
      · exact List.pairwise_iff_getElem.1 hnd2 n j hn2 hj2 hlt (by simpa using e2)
      · exact List.pairwise_iff_getElem.1 hnd2 j n hj2 hn2 hlt (by simpa using e2.symm)
    have hm : q[n].1 ∈ M := h.1.mem_iff.1 (List.mem_map.2 ⟨_, List.getElem_mem hn', rfl⟩)
    rw [h.2 _ (List.getElem_mem hn'), h2 _ hm hne]
end Go.AM.WH
namespace Go.AM.WH
open Go Go.Proofs
variable {K : AVal → Heap → Prop} {s : Heap} {w bb : Nat} {mv : AVal} {cap : Option Nat} {B M : List Int}
/-- the blocks of 'queue' -/
structure Qb (s : Heap) (t2 pb db ob qb n : Nat) (pl : List Int) (Q : List Shr) : Prop where
  a : s t2 = some (false, .cells 122 [.nilptr])
  p : s pb = some (false, .cells 144 (ints pl))
  d : s db = some (false, .cells 149 (flatQ Q))
  o : s ob = some (false, .cells 147 [.slc db 0 n (some n) 2])
  q : s qb = some (false, .cells 122 [.ptr ob 0])
variable {t2 pb db ob qb n : Nat} {pl : List Int} {Q : List Shr}
theorem Qb.setP {s' : Heap} {pl' : List Int} (h : Qb s t2 pb db ob qb n pl Q) (u : Upto pb s s') (hp : s' pb = some (false, .cells 144 (ints pl'))) : Qb s' t2 pb db ob qb n pl' Q := by
  obtain ⟨h1, h2, h3, h4, h5⟩ := h
  have n1 : t2 ≠ pb := by rintro rfl; rw [h1] at h2; cases h2
  have n2 : db ≠ pb := by rintro rfl; rw [h3] at h2; cases h2
  have n3 : ob ≠ pb := by rintro rfl; rw [h4] at h2; cases h2
  have n4 : qb ≠ pb := by rintro rfl; rw [h5] at h2; cases h2
  exact ⟨(u _ n1).trans h1, hp, (u _ n2).trans h3, (u _ n3).trans h4, (u _ n4).trans h5⟩
theorem Qb.setD {s' : Heap} {Q' : List Shr} (h : Qb s t2 pb db ob qb n pl Q) (u : Upto db s s') (hp : s' db = some (false, .cells 149 (flatQ Q'))) : Qb s' t2 pb db ob qb n pl Q' := by
  obtain ⟨h1, h2, h3, h4, h5⟩ := h
  have n1 : t2 ≠ db := by rintro rfl; rw [h1] at h3; cases h3
  have n2 : pb ≠ db := by rintro rfl; rw [h2] at h3; cases h3
  have n3 : ob ≠ db := by rintro rfl; rw [h4] at h3; cases h3
  have n4 : qb ≠ db := by rintro rfl; rw [h5] at h3; cases h3
  exact ⟨(u _ n1).trans h1, (u _ n2).trans h2, hp, (u _ n3).trans h4, (u _ n4).trans h5⟩
theorem Qb.setB {s' : Heap} {b : Nat} {l : List AVal} (h : Qb s t2 pb db ob qb n pl Q) (u : Upto b s s') (hb : s b = some (false, .cells 3 l)) : Qb s' t2 pb db ob qb n pl Q := by
  obtain ⟨h1, h2, h3, h4, h5⟩ := h
  have n1 : t2 ≠ b := by rintro rfl; rw [h1] at hb; cases hb
  have n2 : pb ≠ b := by rintro rfl; rw [h2] at hb; cases hb
  have n3 : db ≠ b := by rintro rfl; rw [h3] at hb; cases hb
  have n4 : ob ≠ b := by rintro rfl; rw [h4] at hb; cases hb
  have n5 : qb ≠ b := by rintro rfl; rw [h5] at hb; cases hb
  exact ⟨(u _ n1).trans h1, (u _ n2).trans h2, (u _ n3).trans h3, (u _ n4).trans h4, (u _ n5).trans h5⟩
theorem Qb.sub {s' : Heap} (h : Qb s t2 pb db ob qb n pl Q) (hs : Sub s s') : Qb s' t2 pb db ob qb n pl Q := ⟨hs _ _ h.a, hs _ _ h.p, hs _ _ h.d, hs _ _ h.o, hs _ _ h.q⟩
/-- where the members stand, after the first i of them -/
def Pl (M : List Int) (i : Nat) (pl : List Int) : Prop := pl.length = 128 ∧ (∀ j (hj : j < M.length), j < i → pl[M[j].toNat]? = some ((j : Int) + 1)) ∧ ∀ k : Nat, k < 128 → (∀ j (hj : j < M.length), j < i → M[j] ≠ (k : Int)) → pl[k]? = some 0
theorem Pl.step {i : Nat} (ha : Asc M) (hi : i < M.length) (h : Pl M i pl) : Pl M (i + 1) (pl.set M[i].toNat ((i : Int) + 1)) := by
  obtain ⟨h1, h2, h3⟩ := h
  have hr := ha.2 _ (List.getElem_mem hi)
  refine ⟨by rw [List.length_set]; exact h1, fun j hj hji => ?_, fun k hk hno => ?_⟩
  · by_cases e : j = i
    · subst e
      rw [List.getElem?_set, if_pos rfl, if_pos (by omega)]
    · have hlt : M[j] < M[i] := List.pairwise_iff_getElem.1 ha.1 j i hj hi (by omega)
      have hr2 := ha.2 _ (List.getElem_mem hj)
      rw [List.getElem?_set, if_neg (by omega)]
      exact h2 j hj (by omega)
  · have hne := hno i hi (by omega)
    rw [List.getElem?_set, if_neg (by omega)]
    exact h3 k hk fun j hj hji => hno j hj (by omega)
/-- the queue's elements after the first i members -/
def Q1 (M : List Int) (i : Nat) (Q : List Shr) : Prop := Q.length = M.length ∧ (∀ j (hj : j < M.length), j < i → at0 Q j = (M[j], 0)) ∧ ∀ j, j < M.length → i ≤ j → at0 Q j = (0, 0)
theorem Q1.step {i : Nat} (hi : i < M.length) (h : Q1 M i Q) : Q1 M (i + 1) (Q.set i (M[i], (at0 Q i).2)) := by
  obtain ⟨h1, h2, h3⟩ := h
  have e0 := h3 i hi (Nat.le_refl _)
  refine ⟨by rw [List.length_set]; exact h1, fun j hj hji => ?_, fun j hj hij => ?_⟩
  · rw [at0_set (by omega), e0]
    split
    · rename_i e; subst e; rfl
    · exact h2 j hj (by omega)
  · rw [at0_set (by omega), if_neg (by omega)]
    exact h3 j hj (by omega)
/-- the queue's elements when the buckets B were counted -/
def Q2 (M B : List Int) (Q : List Shr) : Prop := Q.length = M.length ∧ ∀ j (hj : j < M.length), at0 Q j = (M[j], ((ld (clr M B) M[j] : Nat) : Int))
theorem ld_clr_app {b m : Int} : ld (clr M (B ++ [b])) m = ld (clr M B) m + (if (if b - 1 ∈ M then b else 0) = m + 1 then 1 else 0) := by
  unfold ld clr
  rw [List.map_append, List.count_append]
  simp [List.count_singleton]
theorem Q2.qm (ha : Asc M) (h : Q2 M B Q) : QM Q M (clr M B) := by
  have e : Q.map (·.1) = M := by
    apply List.ext_getElem (by simp [h.1])
    intro j h1 h2
    rw [List.getElem_map, ← at0_get (by simpa using h1), h.2 j h2]
  refine ⟨by rw [e], fun x hx => ?_⟩
  obtain ⟨j, hj, rfl⟩ := List.getElem_of_mem hx
  rw [← at0_get hj, h.2 j (by rw [← h.1]; exact hj)]
theorem arr_addr {pb k : Nat} (hk : k < 128) : iaddrA 128 1 (.ptr pb 0) (.int .i64 (k : Int)) = some (.ptr pb k) := by
  have : Nat.blt k 128 = true := by rw [Nat.blt_eq]; exact hk
  simp [iaddrA, this]
theorem queue_in (h : WAt s w bb mv cap B M) (ha : Asc M) (hM : M.length ≤ 256) (hr : ∀ b ∈ B, 0 ≤ b ∧ b ≤ 128) (hfree : ∀ b o n c, mv = .slc b o n c 1 → M ≠ [] → ¬ b = bb)
    (hK : ∀ s' o sb q, WAt s' w bb mv cap (clr M B) M → QAt s' o sb q → QM q M (clr M B) → Hp q 0 → s sb = none → s o = none → KeepBut (fun b => b = bb) s s' → K (.agg [.ptr o 0]) s') : wpCall Try.prog XX 65 [.ptr w 0] K s := by
  have hp := h.pos
  refine vc_spread_Wheel_queue_in (new_step fun t2 s1 ht h1 u1 => new_step fun pb s2 hpb h2 u2 => ?_)
  have sub2 := (u1.sub ht).trans (u2.sub hpb)
  have z2 := h.sub sub2
  simp only [nilCheck_ptr, addOff_ptr, rd1_mk z2.wb, Nat.zero_add, List.getElem?_cons_zero, List.getElem?_cons_succ, optK_mk, z2.ms.len, List.length_map, nat?_mk]
  refine ⟨⟨Nat.le_refl _, by omega⟩, new_step fun db s3 hdb h3 u3 => ?_⟩
  refine optK_of (a := [.slc db 0 M.length (some M.length) 2]) rfl ⟨rfl, new_step fun ob s4 hob h4 u4 => ?_⟩
  refine optK_of (a := [.ptr ob 0]) rfl (new_step fun qb s5 hqb h5 u5 => wrAgg_step h5 rfl rfl rfl fun s6 h6 u6 => ?_)
  have sub3 := sub2.trans (u3.sub hdb)
  have sub4 := sub3.trans (u4.sub hob)
  have fresh : ∀ {b : Nat} {s' : Heap}, Sub s s' → s' b = none → s b = none := fun {b s'} hs hb => by
    cases e : s b with
    | none => rfl
    | some x => rw [hs b x e] at hb; cases hb
  have ft := ht
  have fp := fresh (u1.sub ht) hpb
  have fd := fresh sub2 hdb
  have fo := fresh sub3 hob
  have fq := fresh sub4 hqb
  have sub6 : Sub s s6 := (sub4.trans (u5.sub hqb)).upto u6 fq
  have h2 : s2 pb = some (false, .cells 144 (ints (List.replicate 128 0))) := h2
  have z6 : Qb s6 t2 pb db ob qb M.length (List.replicate 128 0) (List.replicate M.length (0, 0)) := by
    have e1 : s4 t2 = _ := u4.at (u3.at (u2.at h1 hpb) hdb) hob
    have e2 : s4 pb = _ := u4.at (u3.at h2 hdb) hob
    have e3 : s4 db = _ := u4.at h3 hob
    have n1 : t2 ≠ qb := ne_of_some hqb e1
    have n2 : pb ≠ qb := ne_of_some hqb e2
    have n3 : db ≠ qb := ne_of_some hqb e3
    have n4 : ob ≠ qb := ne_of_some hqb h4
    refine ⟨by rw [u6 _ n1]; exact u5.at e1 hqb, by rw [u6 _ n2]; exact u5.at e2 hqb, ?_, by rw [u6 _ n4]; exact u5.at h4 hqb, h6⟩
    rw [u6 _ n3, u5.at e3 hqb]
    have : ∀ k, repl k [AVal.int .i64 0, .int .i64 0] = flatQ (List.replicate k (0, 0)) := by
      intro k
      induction k with
      | zero => rfl
      | succ k ih => rw [repl, ih]; rfl
    rw [this]
  have z := h.sub sub6
  simp only [rd1_mk z.wb, List.getElem?_cons_zero, List.getElem?_cons_succ, optK_mk, z.ms.len, List.length_map]
  refine ⟨fun ys s' m => ∃ (i : Nat) (pl : List Int) (Q : List Shr), ys = [.int .i64 i] ∧ i ≤ M.length ∧ m = M.length - i ∧ Sub s s' ∧ Qb s' t2 pb db ob qb M.length pl Q ∧ Pl M i pl ∧ Q1 M i Q, ⟨_, 0, _, _, rfl, by omega, rfl, sub6, z6, ⟨rfl, fun j hj h => by omega, fun k hk _ => by rw [List.getElem?_replicate, if_pos hk]⟩, ⟨by simp, fun j hj h => by omega, fun j hj _ => by simp [at0, hj]⟩⟩, ?_⟩
  rintro f s7 m ⟨i, pl, Q, hy, hi, rfl, sub7, z7, hpl, hq1⟩
  simp only [List.cons.injEq, and_true] at hy
  rw [hy]
  simp only [vc_spread_Wheel_queue_l0, arith_lss, optK_mk]
  have w7 := h.sub sub7
  refine boolK_mk (fun hlt => ?_) (fun hge => ?_)
  · have hlt : i < M.length := by have := of_decide_eq_true hlt; omega
    obtain ⟨pp, g1, g2⟩ := sli_at w7.ms hlt
    have hmi := ha.2 _ (List.getElem_mem hlt)
    have e1 : iaddrA 128 1 (.ptr pb 0) (.int .i64 M[i]) = some (.ptr pb M[i].toNat) := by
      have := arr_addr (pb := pb) (k := M[i].toNat) (by omega)
      rwa [Int.toNat_of_nonneg hmi.1] at this
    simp only [g1, g2, optK_mk, arith_add, e1]
    rw [wrap64 (by omega) (by omega)]
    refine wr1_step z7.p (by simp [hpl.1]; omega) rfl fun s8 h8 u8 => ?_
    rw [ints_set] at h8
    have z8 := z7.setP u8 h8
    have sub8 : Sub s s8 := sub7.upto u8 fp
    simp only [addOff_ptr, optK_mk, rd1_mk z8.q, rd1_mk z8.o, Nat.zero_add, List.getElem?_cons_zero, nilCheck_ptr, q_addr hlt]
    refine wr1_step z8.d (by rw [flatQ_len, hq1.1]; omega) rfl fun s9 h9 u9 => ?_
    have h9 : s9 db = some (false, .cells 149 ((flatQ Q).set (i * 2) (.int .i64 M[i]))) := h9
    rw [flatQ_set0 (by rw [hq1.1]; exact hlt)] at h9
    exact ⟨_, by omega, i + 1, _, _, rfl, by omega, rfl, sub8.upto u9 fd, z8.setD u9 h9, hpl.step ha hlt, hq1.step hlt⟩
  · have hge : i = M.length := by have := of_decide_eq_false hge; omega
    subst hge
    simp only [nilCheck_ptr, addOff_ptr, optK_mk, rd1_mk w7.wb, Nat.zero_add, List.getElem?_cons_zero, lenOf_slc]
    have q2 : Q2 M [] Q := ⟨hq1.1, fun j hj => by rw [hq1.2.1 j hj hj]; rfl⟩
    refine ⟨fun ys s' m => ∃ (i : Nat) (Q : List Shr), ys = [.int .i64 i] ∧ i ≤ B.length ∧ m = B.length - i ∧ KeepBut (fun b => b = bb) s s' ∧ s' bb = some (false, .cells 3 (ints (clr M (B.take i) ++ B.drop i))) ∧ Qb s' t2 pb db ob qb M.length pl Q ∧ Q2 M (B.take i) Q, ⟨_, 0, Q, rfl, by omega, rfl, sub7.keep, by rw [w7.bs]; rfl, z7, q2⟩, ?_⟩
    rintro f s8 m ⟨i, Q, hy, hi, rfl, k8, b8, z8, q8⟩
    simp only [List.cons.injEq, and_true] at hy
    rw [hy]
    have w8 : s8 w = some (false, .cells 119 [.slc bb 0 B.length cap 1, mv]) := k8 _ _ h.wb h.ne
    simp only [vc_spread_Wheel_queue_l1, arith_lss, optK_mk]
    refine boolK_mk (fun hlt => ?_) (fun hge => ?_)
    · have hlt : i < B.length := by have := of_decide_eq_true hlt; omega
      have hb := hr _ (List.getElem_mem hlt)
      have ec : (clr M (B.take i)).length = i := by rw [clr_len, List.length_take, Nat.min_eq_left hi]
      have el : B.drop i = B[i] :: B.drop (i + 1) := List.drop_eq_getElem_cons hlt
      have et : B.take (i + 1) = B.take i ++ [B[i]] := List.take_succ_eq_append_getElem hlt
      have hrd : rd1 s8 (.ptr bb i) = some (.int .i64 B[i]) := by
        rw [rd1_mk b8, el]
        simp only [ints, List.map_append]
        rw [List.getElem?_append_right (by rw [List.length_map, ec]; omega), List.length_map, ec, Nat.sub_self]
        rfl
      have fin : ∀ (s9 : Heap) (Q9 : List Shr), KeepBut (fun b => b = bb) s s9 → s9 bb = some (false, .cells 3 (ints (clr M (B.take (i + 1)) ++ B.drop (i + 1)))) → Qb s9 t2 pb db ob qb M.length pl Q9 → Q2 M (B.take (i + 1)) Q9 →
          vc_spread_Wheel_queue_j2 XX (.int .i64 (i : Int)) (fun ys s' m => ∃ (i : Nat) (Q : List Shr), ys = [.int .i64 i] ∧ i ≤ B.length ∧ m = B.length - i ∧ KeepBut (fun b => b = bb) s s' ∧ s' bb = some (false, .cells 3 (ints (clr M (B.take i) ++ B.drop i))) ∧ Qb s' t2 pb db ob qb M.length pl Q ∧ Q2 M (B.take i) Q) (B.length - i) K s9 := by
        intro s9 Q9 a1 a2 a3 a4
        simp only [vc_spread_Wheel_queue_j2, arith_add, optK_mk]
        rw [wrap64 (by omega) (by omega)]
        exact ⟨_, by omega, i + 1, Q9, rfl, by omega, rfl, a1, a2, a3, a4⟩
      have same : (if B[i] - 1 ∈ M then B[i] else 0) = B[i] → clr M (B.take (i + 1)) ++ B.drop (i + 1) = clr M (B.take i) ++ B.drop i := by
        intro e
        rw [et, el]
        unfold clr
        rw [List.map_append, List.map_singleton, e, List.append_assoc]
        rfl
      simp only [b_addr hlt, hrd, optK_mk, eqV_int, negB_mk, Bool.false_bne]
      cases hz : (B[i] == 0) with
      | true =>
        have hz := eq_of_beq hz
        simp only [boolK_true]
        have e0 : (if B[i] - 1 ∈ M then B[i] else 0) = B[i] := by rw [hz]; split <;> rfl
        refine fin s8 Q k8 (by rw [same e0]; exact b8) z8 ⟨q8.1, fun j hj => ?_⟩
        rw [q8.2 j hj, et, ld_clr_app, e0, hz, if_neg (by have := ha.2 _ (List.getElem_mem hj); omega)]
        rfl
      | false =>
        have hz : B[i] ≠ 0 := fun e => by rw [e] at hz; simp at hz
        have hk : (B[i] - 1).toNat < 128 := by omega
        have ew : IntKind.i64.wrap (B[i] - 1) = (((B[i] - 1).toNat : Nat) : Int) := by rw [wrap64 (by omega) (by omega)]; omega
        have e1 := arr_addr (pb := pb) hk
        simp only [boolK_false, arith_sub, optK_mk, ew, e1]
        by_cases hin : B[i] - 1 ∈ M
        · obtain ⟨j, hj, ej⟩ := List.getElem_of_mem hin
          have hpl2 := hpl.2.1 j hj hj
          rw [ej] at hpl2
          have hrp : rd1 s8 (.ptr pb (B[i] - 1).toNat) = some (.int .i64 ((j : Int) + 1)) := by
            rw [rd1_mk z8.p]
            simp only [ints, List.getElem?_map, hpl2, Option.map_some]
          have hne : (((j : Int) + 1) == 0) = false := by
            cases hq : (((j : Int) + 1) == 0) with
            | false => rfl
            | true => have := eq_of_beq hq; omega
          have ej1 : IntKind.i64.wrap ((j : Int) + 1 - 1) = (j : Int) := by rw [wrap64 (by omega) (by omega)]; omega
          have hlj : j < Q.length := by rw [q8.1]; exact hj
          have hq2 : QAt s8 ob db Q := ⟨⟨_, by rw [q8.1]; exact z8.o⟩, z8.d, fun x hx => by
            obtain ⟨m, hm, rfl⟩ := List.getElem_of_mem hx
            have hm2 : m < M.length := by rw [← q8.1]; exact hm
            rw [← at0_get hm, q8.2 m hm2]
            have := ha.2 _ (List.getElem_mem hm2)
            exact ⟨this.1, by show M[m] < 1000; omega⟩, by rw [q8.1]; omega⟩
          have hrow := (hq2.row hlj).2.2
          have hcnt : ld (clr M (B.take i)) M[j] ≤ 256 := by
            refine Nat.le_trans List.count_le_length ?_
            rw [ec]; omega
          simp only [hrp, optK_mk, eqV_int, negB_mk, Bool.false_bne, hne, boolK_false, addOff_ptr, rd1_mk z8.q, rd1_mk z8.o, Nat.zero_add, List.getElem?_cons_zero, nilCheck_ptr, arith_sub, ew, e1, ej1, q_addr hj, hrow, arith_add]
          rw [q8.2 j hj]
          simp only
          rw [wrap64 (by omega) (by omega)]
          refine wr1_step z8.d (by rw [flatQ_len]; omega) rfl fun s9 h9 u9 => ?_
          rw [flatQ_set1 hlj] at h9
          have e0 : (if B[i] - 1 ∈ M then B[i] else 0) = B[i] := if_pos hin
          have nb : bb ≠ db := by rintro rfl; have := z8.d; rw [b8] at this; cases this
          refine fin s9 _ (fun x e hx hn => by rw [u9 x (ne_of_some fd hx)]; exact k8 x e hx hn) (by rw [same e0, u9 bb nb]; exact b8) (z8.setD u9 h9) ⟨by rw [List.length_set]; exact q8.1, fun m hm => ?_⟩
          · rw [at0_set hlj, et, ld_clr_app, e0]
            split
            · rename_i e
              subst e
              rw [q8.2 m hm, ej, if_pos (by omega)]
              rfl
            · rename_i e
              have hne2 : ¬ B[i] = M[m] + 1 := fun e2 => by
                have : M[m] = M[j] := by omega
                rcases Nat.lt_or_gt_of_ne e with hlt | hlt
                · have := List.pairwise_iff_getElem.1 ha.1 m j hm hj hlt; omega
                · have := List.pairwise_iff_getElem.1 ha.1 j m hj hm hlt; omega
              rw [q8.2 m hm, if_neg hne2]
              rfl
        · have hpl3 := hpl.2.2 (B[i] - 1).toNat hk fun j hj _ e => hin (by
            have e2 : M[j] = B[i] - 1 := by rw [e]; omega
            rw [← e2]; exact List.getElem_mem hj)
          have hrp : rd1 s8 (.ptr pb (B[i] - 1).toNat) = some (.int .i64 0) := by
            rw [rd1_mk z8.p]
            simp only [ints, List.getElem?_map, hpl3, Option.map_some]
          simp only [hrp, optK_mk, eqV_int, negB_mk, Bool.false_bne, beq_self_eq_true, boolK_true, nilCheck_ptr, addOff_ptr, rd1_mk w8, Nat.zero_add, List.getElem?_cons_zero, b_addr hlt]
          refine wr1_step b8 (by simp [ints, ec]; omega) rfl fun s9 h9 u9 => ?_
          rw [ints_set] at h9
          have e0 : (if B[i] - 1 ∈ M then B[i] else 0) = 0 := if_neg hin
          have el2 : (clr M (B.take i) ++ B.drop i).set i 0 = clr M (B.take (i + 1)) ++ B.drop (i + 1) := by
            rw [List.set_append_right _ _ (by rw [ec]; omega), ec, Nat.sub_self, el, List.set_cons_zero, et]
            unfold clr
            rw [List.map_append, List.map_singleton, e0, List.append_assoc]
            rfl
          rw [el2] at h9
          refine fin s9 Q (k8.trans (u9.keep (fp := fun b => b = bb) rfl)) h9 (z8.setB u9 b8) ⟨q8.1, fun j hj => ?_⟩
          rw [q8.2 j hj, et, ld_clr_app, e0, if_neg (by have := ha.2 _ (List.getElem_mem hj); omega)]
          rfl
    · have hge : i = B.length := by have := of_decide_eq_false hge; omega
      subst hge
      rw [List.take_length, List.drop_length, List.append_nil] at b8
      rw [List.take_length] at q8
      have hq2 : QAt s8 ob db Q := ⟨⟨_, by rw [q8.1]; exact z8.o⟩, z8.d, fun x hx => by
        obtain ⟨m, hm, rfl⟩ := List.getElem_of_mem hx
        have hm2 : m < M.length := by rw [← q8.1]; exact hm
        rw [← at0_get hm, q8.2 m hm2]
        have := ha.2 _ (List.getElem_mem hm2)
        exact ⟨this.1, by show M[m] < 1000; omega⟩, by rw [q8.1]; omega⟩
      refine optK_of (rdN_all z8.q rfl) (build_in hq2 fun s9 q9 z9 p9 hh9 k9 => ?_)
      have n4 : ¬ qb = db := by rintro rfl; have := z8.q; rw [z8.d] at this; cases this
      have n1 : ¬ t2 = db := by rintro rfl; have := z8.a; rw [z8.d] at this; cases this
      have n5 : ¬ bb = db := by rintro rfl; rw [z8.d] at b8; cases b8
      refine optK_of (rdN_all (k9 _ _ z8.q n4) rfl) (wrAgg_step (k9 _ _ z8.a n1) rfl rfl rfl fun s10 h10 u10 => optK_of (rdN_all h10 rfl) ?_)
      have k10 : KeepBut (fun b => b = bb) s s10 := fun x e hx hn => by
        rw [u10 x (ne_of_some ft hx)]
        exact k9 x e (k8 x e hx hn) (fun e2 => by rw [e2, fd] at hx; cases hx)
      have nbt : bb ≠ t2 := by rintro rfl; rw [h.bs] at ft; cases ft
      have b10 : s10 bb = some (false, .cells 3 (ints (clr M B))) := by rw [u10 bb nbt]; exact k9 _ _ b8 n5
      have not : ob ≠ t2 := by rintro rfl; have := z8.o; rw [z8.a] at this; cases this
      have ndt : db ≠ t2 := by rintro rfl; have := z8.d; rw [z8.a] at this; cases this
      obtain ⟨tt, ho9⟩ := z9.ob
      refine hK s10 ob db q9 ⟨by rw [clr_len]; exact k10 _ _ h.wb h.ne, b10, h.ms.keep k10 fun b' o' n' c' e hl => hfree b' o' n' c' e (by simpa using hl), by rw [clr_len]; exact h.cp, by rw [clr_len]; exact h.pos⟩ ⟨⟨tt, by rw [u10 ob not]; exact ho9⟩, by rw [u10 db ndt]; exact z9.dt, z9.rg, z9.ln⟩ ((q8.qm ha).perm p9) hh9 fd fo k10
end Go.AM.WH
namespace Go.AM.WH
open Go Go.Proofs
variable {K : AVal → Heap → Prop} {s : Heap} {w bb o sb : Nat} {mv : AVal} {cap : Option Nat} {B M : List Int} {q : List Shr}
/-- one step of filling and balancing -/
inductive Stp (M : List Int) : List Int → List Int → Prop
  | fill {B : List Int} {i : Nat} {t : Int} (hi : i < B.length) (h0 : B[i] = 0) (ht : t ∈ M) (hmin : ∀ a ∈ M, ld B t ≤ ld B a) (hfst : ∀ k (hk : k < B.length), k < i → B[k] ≠ 0) (htie : ∀ a ∈ M, ld B a = ld B t → t ≤ a) : Stp M B (B.set i (t + 1))
  | move {B : List Int} {i : Nat} {f t : Int} (hi : i < B.length) (hf : B[i] = f + 1) (hfr : f ∈ M) (ht : t ∈ M) (hmin : ∀ a ∈ M, ld B t ≤ ld B a) (hmax : ∀ a ∈ M, ld B a ≤ ld B f) (hd : ld B t + 1 < ld B f) (hnz : ∀ b ∈ B, b ≠ 0) (hlst : ∀ k (hk : k < B.length), i < k → B[k] ≠ f + 1) (htie : ∀ a ∈ M, ld B a = ld B t → t ≤ a) (hftie : ∀ a ∈ M, ld B a = ld B f → a ≤ f) : Stp M B (B.set i (t + 1))
inductive Rch (M : List Int) (B : List Int) : List Int → Prop
  | refl : Rch M B B
  | tail {B1 B2 : List Int} (h : Rch M B B1) (h2 : Stp M B1 B2) : Rch M B B2
theorem Stp.len {B B' : List Int} (h : Stp M B B') : B'.length = B.length := by cases h <;> simp
theorem Rch.len {B B' : List Int} (h : Rch M B B') : B'.length = B.length := by
  induction h with
  | refl => rfl
  | tail _ h2 ih => rw [h2.len, ih]
/-- a wheel and its queue in memory -/
structure St (s : Heap) (w bb : Nat) (mv : AVal) (cap : Option Nat) (o sb : Nat) (B M : List Int) (q : List Shr) : Prop where
  wa : WAt s w bb mv cap B M
  qa : QAt s o sb q
  qm : QM q M B
  hp : Hp q 0
  fr : ∀ b o n c, mv = .slc b o n c 1 → M ≠ [] → ¬ (b = bb ∨ b = sb)
  asc : Asc M
  rg : ∀ b ∈ B, 0 ≤ b ∧ b ≤ 128
theorem St.nbs (h : St s w bb mv cap o sb B M q) : bb ≠ sb := by
  rintro rfl
  have := h.wa.bs
  rw [h.qa.dt] at this; cases this
theorem St.nws (h : St s w bb mv cap o sb B M q) : w ≠ sb := by
  rintro rfl
  have := h.wa.wb
  rw [h.qa.dt] at this; cases this
theorem St.nob (h : St s w bb mv cap o sb B M q) : o ≠ bb := by
  rintro rfl
  obtain ⟨t, ho⟩ := h.qa.ob
  rw [h.wa.bs] at ho; cases ho
theorem St.qlen (h : St s w bb mv cap o sb B M q) : q.length = M.length := by have := h.qm.1.length_eq; simpa using this
theorem St.mem (h : St s w bb mv cap o sb B M q) {i : Nat} (hi : i < q.length) : (at0 q i).1 ∈ M ∧ (at0 q i).2 = (ld B (at0 q i).1 : Nat) ∧ 0 ≤ (at0 q i).1 ∧ (at0 q i).1 < 128 := by
  have h1 : at0 q i ∈ q := by rw [at0_get hi]; exact List.getElem_mem hi
  have h2 : (at0 q i).1 ∈ M := h.qm.1.mem_iff.1 (List.mem_map.2 ⟨_, h1, rfl⟩)
  exact ⟨h2, h.qm.2 _ h1, h.asc.2 _ h2⟩
theorem ld_le (B : List Int) (m : Int) : ld B m ≤ B.length := List.count_le_length
/-- every member stands in the queue -/
theorem St.find (h : St s w bb mv cap o sb B M q) {a : Int} (ha : a ∈ M) : ∃ j, j < q.length ∧ (at0 q j).1 = a := by
  have := h.qm.1.mem_iff.2 ha
  obtain ⟨x, hx, rfl⟩ := List.mem_map.1 this
  obtain ⟨j, hj, rfl⟩ := List.getElem_of_mem hx
  exact ⟨j, hj, by rw [at0_get hj]⟩
theorem St.least (h : St s w bb mv cap o sb B M q) (hq : 0 < q.length) : ∀ a ∈ M, ld B (at0 q 0).1 ≤ ld B a := fun a ha => by
  obtain ⟨j, hj, e⟩ := h.find ha
  have k := h.hp.root j hj
  unfold ky key at k
  have m0 := h.mem hq
  have mj := h.mem hj
  rw [e] at mj k
  omega
theorem St.tie (h : St s w bb mv cap o sb B M q) (hq : 0 < q.length) : ∀ a ∈ M, ld B a = ld B (at0 q 0).1 → (at0 q 0).1 ≤ a := fun a ha e0 => by
  obtain ⟨j, hj, e⟩ := h.find ha
  have k := h.hp.root j hj
  unfold ky key at k
  have m0 := h.mem hq
  have mj := h.mem hj
  rw [e] at mj k
  omega
theorem Asc.nodup (h : Asc M) : M.Nodup := h.1.imp fun h => by omega
/-- a bucket is written -/
theorem St.setB {s' : Heap} {B' : List Int} (h : St s w bb mv cap o sb B M q) (u : Upto bb s s') (hb : s' bb = some (false, .cells 3 (ints B'))) (hl : B'.length = B.length) : WAt s' w bb mv cap B' M ∧ QAt s' o sb q := by
  obtain ⟨t, ho⟩ := h.qa.ob
  refine ⟨⟨by rw [hl, u w h.wa.ne]; exact h.wa.wb, hb, h.wa.ms.keep (fp := fun b => b = bb) (u.keep rfl) fun b' o' n' c' e hne => fun e2 => h.fr b' o' n' c' e (by simpa using hne) (.inl e2), by rw [hl]; exact h.wa.cp, by rw [hl]; exact h.wa.pos⟩, ⟨⟨t, by rw [u o h.nob]; exact ho⟩, by rw [u sb h.nbs.symm]; exact h.qa.dt, h.qa.rg, h.qa.ln⟩⟩
theorem WAt.keepQ {s' : Heap} (h : WAt s w bb mv cap B M) (k : KeepBut (fun b => b = sb) s s') (hw : w ≠ sb) (hb : bb ≠ sb) (fr : ∀ b o n c, mv = .slc b o n c 1 → M ≠ [] → ¬ (b = bb ∨ b = sb)) : WAt s' w bb mv cap B M :=
  ⟨k _ _ h.wb hw, k _ _ h.bs hb, h.ms.keep k fun b' o' n' c' e hne => fun e2 => fr b' o' n' c' e (by simpa using hne) (.inr e2), h.cp, h.pos⟩
theorem fill_in (h : St s w bb mv cap o sb B M q) (hM : M ≠ []) (hK : ∀ s' B' q', St s' w bb mv cap o sb B' M q' → Rch M B B' → (∀ b ∈ B', b ≠ 0) → KeepBut (fun b => b = bb ∨ b = sb) s s' → K (.tup []) s') : wpCall Try.prog XX 66 [.ptr w 0, .agg [.ptr o 0]] K s := by
  refine vc_spread_Wheel_fill_in ⟨rfl, new_step fun x s1 hx h1 u1 => ?_⟩
  have h1 : s1 x = some (false, .cells 122 [.ptr o 0]) := h1
  have sub1 := u1.sub hx
  have hpos := h.wa.pos
  simp only [nilCheck_ptr, addOff_ptr, rd1_mk (h.wa.sub sub1).wb, Nat.zero_add, List.getElem?_cons_zero, optK_mk, lenOf_slc]
  have h01 : St s1 w bb mv cap o sb B M q := ⟨h.wa.sub sub1, h.qa.sub sub1, h.qm, h.hp, h.fr, h.asc, h.rg⟩
  refine ⟨fun ys s' n => ∃ (i : Nat) (B' : List Int) (q' : List Shr), ys = [.int .i64 i] ∧ i ≤ B.length ∧ n = B.length - i ∧ St s' w bb mv cap o sb B' M q' ∧ Rch M B B' ∧ (∀ k (hk : k < B'.length), k < i → B'[k] ≠ 0) ∧ KeepBut (fun b => b = bb ∨ b = sb) s s' ∧ s' x = some (false, .cells 122 [.ptr o 0]), ⟨_, 0, B, q, rfl, by omega, rfl, h01, .refl, fun k hk h => by omega, sub1.keep, h1⟩, ?_⟩
  rintro f s2 n ⟨i, B', q', hy, hi, rfl, z, rc, nz, kp, hx2⟩
  simp only [List.cons.injEq, and_true] at hy
  rw [hy]
  have hlB := rc.len
  have hxb : x ≠ bb := by rintro rfl; rw [z.wa.bs] at hx2; cases hx2
  have hxs : x ≠ sb := by rintro rfl; rw [z.qa.dt] at hx2; cases hx2
  simp only [vc_spread_Wheel_fill_l0, arith_lss, optK_mk]
  refine boolK_mk (fun hlt => ?_) (fun hge => ?_)
  · have hlt : i < B.length := by have := of_decide_eq_true hlt; omega
    have hlt' : i < B'.length := by omega
    have fin : ∀ (s3 : Heap) (B3 : List Int) (q3 : List Shr), St s3 w bb mv cap o sb B3 M q3 → Rch M B B3 → (∀ k (hk : k < B3.length), k < i + 1 → B3[k] ≠ 0) → KeepBut (fun b => b = bb ∨ b = sb) s s3 → s3 x = some (false, .cells 122 [.ptr o 0]) →
        vc_spread_Wheel_fill_j1 XX (.int .i64 (i : Int)) (fun ys s' n => ∃ (i : Nat) (B' : List Int) (q' : List Shr), ys = [.int .i64 i] ∧ i ≤ B.length ∧ n = B.length - i ∧ St s' w bb mv cap o sb B' M q' ∧ Rch M B B' ∧ (∀ k (hk : k < B'.length), k < i → B'[k] ≠ 0) ∧ KeepBut (fun b => b = bb ∨ b = sb) s s' ∧ s' x = some (false, .cells 122 [.ptr o 0])) (B.length - i) K s3 := by
      intro s3 B3 q3 a1 a2 a3 a4 a5
      simp only [vc_spread_Wheel_fill_j1, arith_add, optK_mk]
      rw [wrap64 (by omega) (by omega)]
      exact ⟨_, by omega, i + 1, B3, q3, rfl, by omega, rfl, a1, a2, a3, a4, a5⟩
    have hb := z.rg _ (List.getElem_mem hlt')
    simp only [b_addr hlt, rd1_mk z.wa.bs, ints_at hlt', optK_mk, eqV_int, negB_mk, Bool.false_bne]
    cases hz : (B'[i] == 0) with
    | false =>
      have hz : B'[i] ≠ 0 := fun e => by rw [e] at hz; simp at hz
      simp only [boolK_false]
      exact fin s2 B' q' z rc (fun k hk hki => by
        by_cases e : k = i
        · subst e; exact hz
        · exact nz k hk (by omega)) kp hx2
    | true =>
      have hz := eq_of_beq hz
      have hq : 0 < q'.length := by
        rw [z.qlen]
        cases M with
        | nil => exact absurd rfl hM
        | cons a r => simp
      obtain ⟨tt, ho⟩ := z.qa.ob
      have mm := z.mem hq
      have row : rd1 s2 (.ptr sb 0) = some (.int .i64 (at0 q' 0).1) := (z.qa.row hq).2.1
      have qa0 : iaddrS 2 (.slc sb 0 q'.length (some q'.length) 2) (.int .i64 0) = some (.ptr sb 0) := q_addr (i := 0) hq
      simp only [boolK_true, nilCheck_ptr, addOff_ptr, rd1_mk z.wa.wb, rd1_mk hx2, rd1_mk ho, Nat.zero_add, List.getElem?_cons_zero, optK_mk, qa0, Nat.add_zero, row, arith_add, b_addr hlt']
      rw [wrap64 (by omega) (by omega)]
      refine wr1_step z.wa.bs (by simp [ints]; exact hlt') rfl fun s3 h3 u3 => ?_
      rw [ints_set] at h3
      obtain ⟨wa3, qa3⟩ := z.setB u3 h3 (by simp)
      refine optK_of (rdN_all ((u3 x hxb).trans hx2) rfl) ?_
      have hle : ld B' (at0 q' 0).1 ≤ B'.length := ld_le _ _
      refine change0_in qa3 z.hp hq ⟨by rw [mm.2.1]; omega, by rw [mm.2.1]; omega⟩ fun s4 q4 qa4 p4 hh4 k4 => ?_
      have l1 : ∀ m, 0 ≤ m → (ld (B'.set i ((at0 q' 0).1 + 1)) m : Nat) = ld B' m + (if (at0 q' 0).1 = m then 1 else 0) := by
        intro m hm0
        have := ld_set (B := B') (i := i) (v := (at0 q' 0).1 + 1) (m := m) hlt'
        by_cases e : (at0 q' 0).1 = m
        · rw [if_pos e]
          rw [if_pos (show (at0 q' 0).1 + 1 = m + 1 by omega)] at this
          rw [if_neg (show ¬ B'[i] = m + 1 by omega)] at this
          omega
        · rw [if_neg e]
          rw [if_neg (show ¬ (at0 q' 0).1 + 1 = m + 1 by omega)] at this
          rw [if_neg (show ¬ B'[i] = m + 1 by omega)] at this
          omega
      have qm4 : QM q4 M (B'.set i ((at0 q' 0).1 + 1)) := (z.qm.upd z.asc.nodup hq (by show ((ld _ _ : Nat) : Int) = _; rw [l1 _ mm.2.2.1, if_pos rfl]; omega) fun m hm hne => by
        show ((ld _ _ : Nat) : Int) = _
        rw [l1 _ (z.asc.2 m hm).1, if_neg (fun e => hne e.symm)]
        rfl).perm p4
      have st4 : St s4 w bb mv cap o sb (B'.set i ((at0 q' 0).1 + 1)) M q4 := ⟨wa3.keepQ k4 z.nws z.nbs z.fr, qa4, qm4, hh4, z.fr, z.asc, fun b hb => by
        rcases List.mem_or_eq_of_mem_set hb with h | rfl
        · exact z.rg b h
        · omega⟩
      refine fin s4 _ q4 st4 (rc.tail (.fill hlt' hz mm.1 (z.least hq) (fun k hk hki => nz k hk hki) (z.tie hq))) (fun k hk hki => ?_) (kp.trans ((u3.keep (fp := fun b => b = bb ∨ b = sb) (.inl rfl)).trans (k4.mono fun b e => .inr e))) (k4 _ _ ((u3 x hxb).trans hx2) hxs)
      rw [List.getElem_set]
      split
      · omega
      · have hk' : k < B'.length := by simpa using hk
        exact nz k hk' (by omega)
  · have hge : i = B.length := by have := of_decide_eq_false hge; omega
    subst hge
    refine hK s2 B' q' z rc (fun b hb => ?_) kp
    obtain ⟨k, hk, rfl⟩ := List.getElem_of_mem hb
    exact nz k hk (by omega)
/-! ### balancing -/
/-- squares of loads -/
def pot (M B : List Int) : Nat := (M.map fun m => ld B m * ld B m).sum
theorem sum_perm {l l' : List Nat} (h : l.Perm l') : l.sum = l'.sum := by
  induction h with
  | nil => rfl
  | cons x _ ih => simp [ih]
  | swap x y l => simp; omega
  | trans _ _ h1 h2 => rw [h1, h2]
theorem pot_less {B' : List Int} {f t : Int} (hnd : M.Nodup) (hf : f ∈ M) (ht : t ∈ M) (hd : ld B t + 1 < ld B f) (h1 : ld B' f + 1 = ld B f) (h2 : ld B' t = ld B t + 1) (h3 : ∀ m ∈ M, m ≠ f → m ≠ t → ld B' m = ld B m) : pot M B' < pot M B := by
  have hne : t ≠ f := by rintro rfl; omega
  have p1 := List.perm_cons_erase hf
  have ht2 : t ∈ M.erase f := (List.mem_erase_of_ne hne).2 ht
  have p2 := List.perm_cons_erase ht2
  have p : M.Perm (f :: t :: (M.erase f).erase t) := p1.trans (p2.cons f)
  have e1 : pot M B' = (List.map (fun m => ld B' m * ld B' m) (f :: t :: (M.erase f).erase t)).sum := sum_perm (p.map _)
  have e2 : pot M B = (List.map (fun m => ld B m * ld B m) (f :: t :: (M.erase f).erase t)).sum := sum_perm (p.map _)
  have nd := p.nodup_iff.1 hnd
  have e3 : List.map (fun m => ld B' m * ld B' m) ((M.erase f).erase t) = List.map (fun m => ld B m * ld B m) ((M.erase f).erase t) := by
    refine List.map_congr_left fun m hm => ?_
    have hmM : m ∈ M := p.mem_iff.2 (by simp [hm])
    have n1 : m ≠ f := by
      rintro rfl
      have := (List.nodup_cons.1 nd).1
      exact this (by simp [hm])
    have n2 : m ≠ t := by
      rintro rfl
      exact (List.nodup_cons.1 (List.nodup_cons.1 nd).2).1 hm
    rw [h3 m hmM n1 n2]
  rw [e1, e2]
  simp only [List.map_cons, List.sum_cons, e3, h2]
  obtain ⟨a, ha⟩ : ∃ a, ld B f = ld B t + 2 + a := ⟨ld B f - ld B t - 2, by omega⟩
  have hb : ld B' f = ld B t + 1 + a := by omega
  rw [ha, hb]
  generalize ld B t = b
  have : (b + 1 + a) * (b + 1 + a) + (b + 1) * (b + 1) < (b + 2 + a) * (b + 2 + a) + b * b := by
    simp only [Nat.add_mul, Nat.mul_add, Nat.mul_one, Nat.one_mul]
    have := Nat.mul_comm a b
    omega
  omega
theorem balance_in (h : St s w bb mv cap o sb B M q) (hM : M ≠ []) (hnz : ∀ b ∈ B, b ≠ 0) (hK : ∀ s' B' q', St s' w bb mv cap o sb B' M q' → Rch M B B' → (∀ b ∈ B', b ≠ 0) → (∀ a ∈ M, ∀ c ∈ M, ld B' a ≤ ld B' c + 1) → KeepBut (fun b => b = bb ∨ b = sb) s s' → K (.tup []) s') : wpCall Try.prog XX 67 [.ptr w 0, .agg [.ptr o 0]] K s := by
  refine vc_spread_Wheel_balance_in ⟨rfl, new_step fun x s1 hx h1 u1 => ?_⟩
  have h1 : s1 x = some (false, .cells 122 [.ptr o 0]) := h1
  have sub1 := u1.sub hx
  have hpos := h.wa.pos
  have h01 : St s1 w bb mv cap o sb B M q := ⟨h.wa.sub sub1, h.qa.sub sub1, h.qm, h.hp, h.fr, h.asc, h.rg⟩
  refine ⟨fun ys s' n => ∃ (B' : List Int) (q' : List Shr), n = pot M B' ∧ St s' w bb mv cap o sb B' M q' ∧ Rch M B B' ∧ (∀ b ∈ B', b ≠ 0) ∧ KeepBut (fun b => b = bb ∨ b = sb) s s' ∧ s' x = some (false, .cells 122 [.ptr o 0]), ⟨_, B, q, rfl, h01, .refl, hnz, sub1.keep, h1⟩, ?_⟩
  rintro f s2 n ⟨B', q', rfl, z, rc, nz, kp, hx2⟩
  have hlB := rc.len
  have hq : 0 < q'.length := by
    rw [z.qlen]
    cases M with
    | nil => exact absurd rfl hM
    | cons a r => simp
  unfold vc_spread_Wheel_balance_l0
  refine optK_of (rdN_all hx2 rfl) (most_in z.qa hq fun s3 m sub3 hm hmax => ?_)
  have z3 : St s3 w bb mv cap o sb B' M q' := ⟨z.wa.sub sub3, z.qa.sub sub3, z.qm, z.hp, z.fr, z.asc, z.rg⟩
  have hx3 := sub3 _ _ hx2
  obtain ⟨tt, ho⟩ := z3.qa.ob
  have mm := z3.mem hm
  have m0 := z3.mem hq
  have row0 : rd1 s3 (.ptr sb 0) = some (.int .i64 (at0 q' 0).1) ∧ rd1 s3 (.ptr sb 1) = some (.int .i64 (at0 q' 0).2) := ⟨(z3.qa.row hq).2.1, (z3.qa.row hq).2.2⟩
  have rowm := (z3.qa.row hm).2
  have qa0 : iaddrS 2 (.slc sb 0 q'.length (some q'.length) 2) (.int .i64 0) = some (.ptr sb 0) := q_addr (i := 0) hq
  have l0 : ld B' (at0 q' 0).1 ≤ B'.length := ld_le _ _
  have lm : ld B' (at0 q' m).1 ≤ B'.length := ld_le _ _
  have hmaxl : ∀ a ∈ M, ld B' a ≤ ld B' (at0 q' m).1 := fun a ha => by
    obtain ⟨j, hj, e⟩ := z3.find ha
    have k := hmax j hj
    unfold ky key at k
    have mj := z3.mem hj
    rw [e] at mj k
    omega
  have htieM : ∀ a ∈ M, ld B' a = ld B' (at0 q' m).1 → a ≤ (at0 q' m).1 := fun a ha e0 => by
    obtain ⟨j, hj, e⟩ := z3.find ha
    have k := hmax j hj
    unfold ky key at k
    have mj := z3.mem hj
    rw [e] at mj k
    omega
  simp only [addOff_ptr, rd1_mk hx3, rd1_mk ho, Nat.zero_add, List.getElem?_cons_zero, nilCheck_ptr, optK_mk, qa0, q_addr hm, row0.2, rowm.2, arith_sub]
  rw [mm.2.1, m0.2.1, wrap64 (by omega) (by omega)]
  simp only [arith_leq, optK_mk]
  refine boolK_mk (fun hle => ?_) (fun hgt => ?_)
  · have hle := of_decide_eq_true hle
    refine hK s3 B' q' z3 rc nz (fun a ha c hc => ?_) (kp.trans sub3.keep)
    have := hmaxl a ha
    have := z3.least hq c hc
    omega
  · have hgt := of_decide_eq_false hgt
    have hin : (at0 q' m).1 + 1 ∈ B' := by
      have : 0 < ld B' (at0 q' m).1 := by omega
      exact List.count_pos_iff.1 this
    simp only [nilCheck_ptr, addOff_ptr, rd1_mk z3.wa.wb, rd1_mk hx3, rd1_mk ho, Nat.zero_add, List.getElem?_cons_zero, optK_mk, q_addr hm, Nat.add_zero, rowm.1]
    refine last_in (frz_some z3.wa.wb) (frz_some z3.wa.bs) z3.wa.pos mm.2.2 hin fun i hi hBi hlst _ => ?_
    rw [add_frz, cut_refl]
    simp only [addOff_ptr, rd1_mk hx3, rd1_mk ho, Nat.zero_add, List.getElem?_cons_zero, nilCheck_ptr, optK_mk, qa0, Nat.add_zero, row0.1, arith_add, b_addr hi]
    rw [wrap64 (by omega) (by omega)]
    refine wr1_step z3.wa.bs (by simp [ints]; exact hi) rfl fun s4 h4 u4 => ?_
    rw [ints_set] at h4
    obtain ⟨wa4, qa4⟩ := z3.setB u4 h4 (by simp)
    have hxb : x ≠ bb := by rintro rfl; rw [z3.wa.bs] at hx3; cases hx3
    have hxs : x ≠ sb := by rintro rfl; rw [z3.qa.dt] at hx3; cases hx3
    have hx4 := (u4 x hxb).trans hx3
    refine optK_of (rdN_all hx4 rfl) (changeM_in qa4 z3.hp hm ⟨by rw [mm.2.1]; omega, by rw [mm.2.1]; omega⟩ fun s5 q5 qa5 p5 hh5 k5 => ?_)
    have hx5 := k5 _ _ hx4 hxs
    have hmt : (at0 q' m).1 ≠ (at0 q' 0).1 := fun e => by rw [e] at hgt; omega
    have hm0 : m ≠ 0 := by rintro rfl; exact hmt rfl
    have hq5 : 0 < q5.length := by rw [p5.length_eq, upd2_len]; exact hq
    -- the least one is the least one still
    have root : at0 q5 0 = at0 q' 0 := by
      have hin5 : at0 q5 0 ∈ upd2 q' m (-1) := p5.mem_iff.1 (by rw [at0_get hq5]; exact List.getElem_mem hq5)
      have h0in : at0 q' 0 ∈ upd2 q' m (-1) := by
        have : at0 (upd2 q' m (-1)) 0 = at0 q' 0 := by unfold upd2; rw [at0_set hm, if_neg (Ne.symm hm0)]
        rw [← this, at0_get (by rw [upd2_len]; exact hq)]
        exact List.getElem_mem _
      obtain ⟨j, hj, ej⟩ := List.getElem_of_mem (p5.mem_iff.2 h0in)
      have k1 := hh5.root j hj
      have k1' : key (at0 q5 0) ≤ key (at0 q' 0) := by
        unfold ky at k1
        rwa [at0_get hj, ej] at k1
      obtain ⟨i2, hi2, ei2⟩ := List.getElem_of_mem hin5
      have hi2' : i2 < q'.length := by rw [upd2_len] at hi2; exact hi2
      have e5 : at0 (upd2 q' m (-1)) i2 = at0 q5 0 := by rw [at0_get hi2, ei2]
      have mi := z3.mem hi2'
      have kr := z3.hp.root i2 hi2'
      unfold upd2 at e5
      rw [at0_set hm] at e5
      unfold ky key at kr
      unfold key at k1'
      by_cases e : i2 = m
      · rw [if_pos e] at e5
        rw [← e5] at k1'
        simp only at k1'
        omega
      · rw [if_neg e] at e5
        rw [← e5] at k1' ⊢
        obtain ⟨a1, a2⟩ : (at0 q' i2).2 = (at0 q' 0).2 ∧ (at0 q' i2).1 = (at0 q' 0).1 := by omega
        exact Prod.ext a2 a1
    have l1 : ∀ a, ld (B'.set i ((at0 q' 0).1 + 1)) a + (if (at0 q' m).1 = a then 1 else 0) = ld B' a + (if (at0 q' 0).1 = a then 1 else 0) := by
      intro a
      have := ld_set (B := B') (i := i) (v := (at0 q' 0).1 + 1) (m := a) hi
      by_cases e1 : (at0 q' m).1 = a
      · rw [if_pos e1]
        rw [if_pos (show B'[i] = a + 1 by omega)] at this
        by_cases e2 : (at0 q' 0).1 = a
        · exact absurd (e1.trans e2.symm) hmt
        · rw [if_neg e2]
          rw [if_neg (show ¬ (at0 q' 0).1 + 1 = a + 1 by omega)] at this
          exact this
      · rw [if_neg e1]
        rw [if_neg (show ¬ B'[i] = a + 1 by omega)] at this
        by_cases e2 : (at0 q' 0).1 = a
        · rw [if_pos e2]
          rw [if_pos (show (at0 q' 0).1 + 1 = a + 1 by omega)] at this
          exact this
        · rw [if_neg e2]
          rw [if_neg (show ¬ (at0 q' 0).1 + 1 = a + 1 by omega)] at this
          exact this
    have lf : ld (B'.set i ((at0 q' 0).1 + 1)) (at0 q' m).1 + 1 = ld B' (at0 q' m).1 := by
      have := l1 (at0 q' m).1
      rw [if_pos rfl, if_neg (fun e => hmt e.symm)] at this
      exact this
    have lt : ld (B'.set i ((at0 q' 0).1 + 1)) (at0 q' 0).1 = ld B' (at0 q' 0).1 + 1 := by
      have := l1 (at0 q' 0).1
      rw [if_neg hmt, if_pos rfl] at this
      exact this
    have lo : ∀ a, a ≠ (at0 q' m).1 → a ≠ (at0 q' 0).1 → ld (B'.set i ((at0 q' 0).1 + 1)) a = ld B' a := fun a e1 e2 => by
      have := l1 a
      rw [if_neg (Ne.symm e1), if_neg (Ne.symm e2)] at this
      exact this
    have qf5 : QF q5 M fun a => (ld B' a : Int) - (if (at0 q' m).1 = a then 1 else 0) := (z3.qm.upd z3.asc.nodup hm (by show (ld B' (at0 q' m).1 : Int) - (if (at0 q' m).1 = (at0 q' m).1 then 1 else 0) = _; rw [if_pos rfl]; rfl) fun a ha hne => by
      show (ld B' a : Int) - (if (at0 q' m).1 = a then 1 else 0) = _
      rw [if_neg (Ne.symm hne)]; simp).perm p5
    refine optK_of (rdN_all hx5 rfl) (change0_in qa5 hh5 hq5 ⟨by rw [root, m0.2.1]; omega, by rw [root, m0.2.1]; omega⟩ fun s6 q6 qa6 p6 hh6 k6 => ?_)
    have qm6 : QM q6 M (B'.set i ((at0 q' 0).1 + 1)) := (qf5.upd z3.asc.nodup hq5 (by
      rw [root]
      show ((ld _ _ : Nat) : Int) = (ld B' (at0 q' 0).1 : Int) - (if (at0 q' m).1 = (at0 q' 0).1 then 1 else 0) + 1
      rw [lt, if_neg hmt]; omega) fun a ha hne => by
      rw [root] at hne
      show ((ld _ _ : Nat) : Int) = (ld B' a : Int) - (if (at0 q' m).1 = a then 1 else 0)
      have := l1 a
      rw [if_neg (Ne.symm hne)] at this
      split
      · rename_i e; rw [if_pos e] at this; omega
      · rename_i e; rw [if_neg e] at this; omega).perm p6
    have wa6 := (wa4.keepQ k5 z3.nws z3.nbs z3.fr).keepQ k6 z3.nws z3.nbs z3.fr
    have stp : Stp M B' (B'.set i ((at0 q' 0).1 + 1)) := .move hi hBi mm.1 m0.1 (z3.least hq) hmaxl (by omega) nz hlst (z3.tie hq) htieM
    refine ⟨pot M (B'.set i ((at0 q' 0).1 + 1)), pot_less z3.asc.nodup mm.1 m0.1 (by omega) lf lt fun a _ e1 e2 => lo a e1 e2, _, q6, rfl, ⟨wa6, qa6, qm6, hh6, z3.fr, z3.asc, fun b hb => ?_⟩, rc.tail stp, fun b hb => ?_, (kp.trans sub3.keep).trans ((u4.keep (fp := fun b => b = bb ∨ b = sb) (.inl rfl)).trans ((k5.mono fun b e => .inr e).trans (k6.mono fun b e => .inr e))), k6 _ _ hx5 hxs⟩
    · rcases List.mem_or_eq_of_mem_set hb with h | rfl
      · exact z3.rg b h
      · omega
    · rcases List.mem_or_eq_of_mem_set hb with h | rfl
      · exact nz b h
      · omega
end Go.AM.WH
namespace Go.AM.WH
open Go Go.Proofs
variable {K : AVal → Heap → Prop} {s : Heap} {w bb : Nat} {mv : AVal} {cap : Option Nat} {B M l : List Int}
theorem Stp.elt {B B' : List Int} (h : Stp M B B') : ∀ b ∈ B', b ∈ B ∨ b - 1 ∈ M := by
  intro b hb
  cases h with
  | @fill i t hi h0 ht hmin _ _ =>
    rcases List.mem_or_eq_of_mem_set hb with h | rfl
    · exact .inl h
    · exact .inr (by rw [Int.add_sub_cancel]; exact ht)
  | @move i f t hi hf hfr ht hmin hmax hd _ _ _ _ =>
    rcases List.mem_or_eq_of_mem_set hb with h | rfl
    · exact .inl h
    · exact .inr (by rw [Int.add_sub_cancel]; exact ht)
theorem Rch.elt {B B' : List Int} (h : Rch M B B') : ∀ b ∈ B', b ∈ B ∨ b - 1 ∈ M := by
  induction h with
  | refl => exact fun b hb => .inl hb
  | tail _ h2 ih =>
    intro b hb
    rcases h2.elt b hb with h | h
    · exact ih b h
    · exact .inr h
theorem Rch.trans {B B1 B2 : List Int} (h : Rch M B B1) (h2 : Rch M B1 B2) : Rch M B B2 := by
  induction h2 with
  | refl => exact h
  | tail _ h3 ih => exact ih.tail h3
theorem clr_elt : ∀ b ∈ clr M B, b = 0 ∨ b - 1 ∈ M := by
  intro b hb
  obtain ⟨x, _, rfl⟩ := List.mem_map.1 hb
  split
  · rename_i h; exact .inr h
  · exact .inl rfl
/-- what Set leaves -/
structure Aft (l B B' : List Int) : Prop where
  none : l = [] → B' = clr [] B
  rch : Rch l (clr l B) B'
  elt : l ≠ [] → ∀ b ∈ B', b - 1 ∈ l
  bal : ∀ a ∈ l, ∀ c ∈ l, ld B' a ≤ ld B' c + 1
theorem Aft.len (h : Aft l B M) : M.length = B.length := by rw [h.rch.len, clr_len]
theorem Aft.rg (h : Aft l B M) (ha : Asc l) : ∀ b ∈ M, 0 ≤ b ∧ b ≤ 128 := by
  intro b hb
  by_cases e : l = []
  · rw [h.none e] at hb
    obtain ⟨x, _, rfl⟩ := List.mem_map.1 hb
    rw [if_neg (by simp)]
    omega
  · have := ha.2 _ (h.elt e b hb)
    omega
theorem clear_step {K : AVal → Heap → Prop} (hb : s bb = some (false, .cells 3 (ints B))) (hp : 1 ≤ B.length) (hK : ∀ s', s' bb = some (false, .cells 3 (ints (List.replicate B.length 0))) → Upto bb s s' → K .undef s') : clearK [.int .i64 0] 1 (.slc bb 0 B.length cap 1) K s := by
  obtain ⟨n, hn⟩ : ∃ n, B.length = n + 1 := ⟨B.length - 1, by omega⟩
  rw [hn]
  refine ⟨rfl, ?_⟩
  have e1 : wrN s (.ptr bb 0) (repl (n + 1) [.int .i64 0]) = some (hset s bb (false, .cells 3 (ints (List.replicate B.length 0)))) := by
    have e2 : repl (n + 1) [AVal.int .i64 0] = ints (List.replicate B.length 0) := by rw [repl_one, hn]; simp [ints]
    have e3 : setRange (ints B) 0 (ints (List.replicate B.length 0)) = ints (List.replicate B.length 0) := by
      unfold setRange; rw [List.drop_eq_nil_of_le (by simp)]; simp
    have e4 : ∀ k, allOne (ints (List.replicate k 0)) = true := by
      intro k; induction k with
      | zero => rfl
      | succ k ih => simpa [List.replicate_succ, allOne] using ih
    simp only [wrN, hb, e2, e3, e4]
    have : Nat.ble (0 + (ints (List.replicate B.length 0)).length) (ints B).length = true := by rw [Nat.ble_eq]; simp
    rw [this]; rfl
  refine optK_of e1 (hK _ ?_ ?_)
  · simp [hset]
  · intro i hi
    simp [hset, hi]
theorem Set_in {v : AVal} (h : WAt s w bb mv cap B M) (hl : Sli s v l) (ha : Asc l) (hlen : l.length ≤ B.length) (hr : ∀ b ∈ B, 0 ≤ b ∧ b ≤ 128)
    (hK : ∀ s' mv' B', WAt s' w bb mv' cap B' l → Aft l B B' → KeepBut (fun b => b = w ∨ b = bb) s s' → (l ≠ [] → ∃ c n k, s c = none ∧ mv' = .slc c 0 n k 1) → K (.int .i64 0) s') : wpCall Try.prog XX 44 [.ptr w 0, v] K s := by
  have hp := h.pos
  refine vc_spread_Wheel_Set_in (valid_in h ?_)
  simp only [unary_not, Bool.not_true, optK_mk, boolK_false]
  refine check_in h hl ha hlen ?_
  simp only [eqV_int, negB_mk, beq_self_eq_true, Bool.true_bne, Bool.not_true, optK_mk, boolK_false]
  refine Clone_in hl (by omega) fun v6 s7 sub7 sl7 g7 => ?_
  have w7 := h.sub sub7
  simp only [nilCheck_ptr, addOff_ptr, Nat.zero_add, optK_mk]
  refine wr1_step w7.wb (by simp) sl7.one fun s10 h10 u10 => ?_
  have h10 : s10 w = some (false, .cells 119 [.slc bb 0 B.length cap 1, v6]) := h10
  have mfree : ∀ b o n c, v6 = .slc b o n c 1 → l ≠ [] → s b = none := by
    intro b o n c e hne
    obtain ⟨c', hc, e2, _⟩ := g7 hne
    rw [e2] at e; cases e; exact hc
  have w10 : WAt s10 w bb v6 cap B l := ⟨h10, by rw [u10 bb h.ne.symm]; exact w7.bs, sl7.keep (fp := fun b => b = w) (u10.keep rfl) fun b o n c e hne e2 => (by
    have := mfree b o n c e (by simpa using hne)
    rw [e2, h.wb] at this; cases this), h.cp, h.pos⟩
  have k10 : KeepBut (fun b => b = w ∨ b = bb) s s10 := (sub7.keep).trans (u10.keep (.inl rfl))
  simp only [hl.len, List.length_map, optK_mk, eqV_int, negB_mk, Bool.false_bne]
  cases hz : (((l.length : Nat) : Int) == 0) with
  | true =>
    have hz := eq_of_beq hz
    have hl0 : l = [] := List.length_eq_zero_iff.1 (by omega)
    subst hl0
    simp only [boolK_true, nilCheck_ptr, addOff_ptr, rd1_mk h10, Nat.zero_add, List.getElem?_cons_zero, optK_mk]
    refine clear_step w10.bs hp.1 fun s11 h11 u11 => ?_
    have e0 : clr [] B = List.replicate B.length 0 := by
      unfold clr
      simp only [List.not_mem_nil, if_false]
      rw [List.map_const']
    refine hK s11 v6 (clr [] B) ⟨by rw [clr_len, u11 w h.ne]; exact h10, by rw [h11, e0], w10.ms.keep (fp := fun b => b = bb) (u11.keep rfl) fun b o n c e hne => absurd rfl hne, by rw [clr_len]; exact h.cp, by rw [clr_len]; exact h.pos⟩ ⟨fun _ => rfl, .refl, fun e => absurd rfl e, fun a ha => by simp at ha⟩ (k10.trans (u11.keep (.inr rfl))) fun e => absurd rfl e
  | false =>
    have hz : ¬ ((l.length : Nat) : Int) = 0 := fun e => by rw [e] at hz; simp at hz
    have hne : l ≠ [] := fun e => by rw [e] at hz; simp at hz
    simp only [boolK_false]
    refine queue_in w10 ha (by omega) hr (fun b o n c e hM => fun e2 => by
      have := mfree b o n c e hM
      rw [e2, h.bs] at this; cases this) fun s20 o sb q w20 q20 qm20 hp20 fsb fo k20 => ?_
    refine new_step fun x s22 hx h22 u22 => wrAgg_step h22 rfl rfl rfl fun s23 h23 u23 => optK_of (rdN_all h23 rfl) ?_
    have h23 : s23 x = some (false, .cells 122 [.ptr o 0]) := h23
    have sub23 : Sub s20 s23 := (Sub.refl s20).trans ((u22.sub hx).upto u23 hx)
    have st : St s23 w bb v6 cap o sb (clr l B) l q := ⟨w20.sub sub23, q20.sub sub23, qm20, hp20, fun b o' n c e hM => fun e2 => by
      have e0 := mfree b o' n c e hM
      rcases e2 with e2 | e2
      · rw [e2, h.bs] at e0; cases e0
      · obtain ⟨c', hc, e3, hc2⟩ := g7 hM
        have e4 : b = c' := by rw [e3] at e; injection e with e1; exact e1.symm
        rw [e4] at e2
        have : s10 c' ≠ none := by
          rw [u10 c' (fun e => by rw [e, h.wb] at hc; cases hc), hc2]; simp
        exact this (by rw [e2]; exact fsb), ha, fun b hb => by
          rcases clr_elt b hb with h | h
          · omega
          · have := ha.2 _ h; omega⟩
    have nx : ¬ (x = bb ∨ x = sb) := by
      rintro (e | e)
      · have := w20.bs; rw [← e, hx] at this; cases this
      · have := q20.dt; rw [← e, hx] at this; cases this
    refine fill_in st hne fun s26 B26 q26 st26 rc26 nz26 k26 => ?_
    refine optK_of (rdN_all (k26 _ _ h23 nx) rfl) ?_
    refine balance_in st26 hne nz26 fun s29 B29 q29 st29 rc29 nz29 bal29 k29 => ?_
    have rc := rc26.trans rc29
    refine hK s29 v6 B29 st29.wa ⟨fun e => absurd e hne, rc, fun _ b hb => ?_, bal29⟩ ?_ fun _ => by obtain ⟨c, hc, e, _⟩ := g7 hne; exact ⟨c, _, _, hc, e⟩
    · rcases rc.elt b hb with h | h
      · rcases clr_elt b h with h | h
        · exact absurd h (nz29 b hb)
        · exact h
      · exact h
    · intro i e hi hn
      have n1 : ¬ i = bb := fun e => hn (.inr e)
      have i10 := k10 i e hi hn
      have i20 := k20 i e i10 n1
      have i23 := sub23 i e i20
      have n2 : ¬ (i = bb ∨ i = sb) := by
        rintro (e2 | e2)
        · exact n1 e2
        · rw [e2, fsb] at i10; cases i10
      exact k29 i e (k26 i e i23 n2) n2
end Go.AM.WH
namespace Go.AM.FB
open Go Go.Proofs
variable {K : AVal → Heap → Prop} {s s' s0 t : Heap} {lv uv v y w : AVal} {N : Nat} {G : List Lnk} {U : List Bool} {d : Nat → Int} {L : List RLk}
/-! ### small ones -/
theorem Loop_in {n : Nat} (hn : n < 32) (hK : K (.int .u32 (lbk n)) s) : wpCall Try.prog XX 21 [.int .i64 (n : Int)] K s := by
  refine vc_leafmeshlaw14_loop_in (aLoop_in hn ?_)
  have x0 : extractA (.tup [.int .u32 (lbk n), .int .i64 0]) 0 = some (.int .u32 (lbk n)) := rfl
  have x1 : extractA (.tup [.int .u32 (lbk n), .int .i64 0]) 1 = some (.int .i64 0) := rfl
  simp only [x0, x1, optK_mk]
  exact hK
theorem u32w {x : Int} (h1 : 0 ≤ x) (h2 : x < 4294967296) : IntKind.u32.wrap x = x := by
  unfold IntKind.wrap
  simp [IntKind.bits, IntKind.signed]
  omega
theorem Node_in {n : Nat} (hn : n < 32) (hK : K (.tup [.int .i64 (n : Int), .bool true]) s) : wpCall Try.prog XX 42 [.int .u32 (lbk n)] K s := by
  refine vc_addr_Node_in ?_
  have c1 : decide (lbk n ≤ 184483840) = false := decide_eq_false (by unfold lbk; omega)
  have c2 : decide ((184483872 : Int) < lbk n) = false := decide_eq_false (by unfold lbk; omega)
  have a1 : arithV .sub (.int .u32 (lbk n)) (.int .u32 184483840) = some (.int .u32 ((n : Int) + 1)) := by
    rw [arith_sub, show lbk n - 184483840 = (n : Int) + 1 by unfold lbk; omega, u32w (by omega) (by omega)]
  have a2 : arithV .sub (.int .u32 ((n : Int) + 1)) (.int .u32 1) = some (.int .u32 (n : Int)) := by
    rw [arith_sub, show (n : Int) + 1 - 1 = (n : Int) by omega, u32w (by omega) (by omega)]
  have a3 : convI .i64 (.int .u32 (n : Int)) = some (.int .i64 (n : Int)) := by
    show some (AVal.int .i64 (wrapK .i64 (n : Int))) = _
    rw [show wrapK .i64 (n : Int) = n by simp only [wrapK]; rw [wrapM_eq _ _ _ (by omega) (by omega)]; split <;> omega]
  simp only [vc_addr_Node, arith_leq, arith_gtr, c1, c2, boolK_false, optK_mk, vc_addr_Node_j0, pickV_false, a1, a2, a3]
  exact hK
/-- the cells of a table -/
def fibC (n x : Int) (lv ev : AVal) (mb : Nat) : List AVal := [.int .i64 n, .int .i64 x, .int .u32 (184483841 + x), lv, ev, .map mb]
theorem valid_in {f : Nat} {tg : Bool} {n x : Int} {lv ev : AVal} {mb : Nat} (h : s f = some (tg, .cells 82 (fibC n x lv ev mb))) (hn : 0 < n) (hK : K (.bool true) s) : wpCall Try.prog XX 41 [.ptr f 0] K s := by
  refine vc_fib_Fib_valid_in ?_
  have e : (fibC n x lv ev mb)[0]? = some (.int .i64 n) := rfl
  have hp : decide ((0 : Int) < n) = true := decide_eq_true hn
  simp only [vc_fib_Fib_valid, eqV_ptr, negB_mk, Bool.bne_false, optK_mk, boolK_true, nilCheck_ptr, addOff_ptr, rd1_mk h, Nat.zero_add, e, arith_gtr, hp, vc_fib_Fib_valid_j0, pickV_true]
  exact hK
theorem CloneL_in {rows : List (List AVal)} (h : SlR 3 s v rows) (hl : rows.length ≤ 1000000) (hK : ∀ w s', Sub s s' → SlR 3 s' w rows → (∀ b o n c, w = .slc b o n c 3 → rows ≠ [] → s b = none) → K w s') : wpCall Try.prog XX 40 [v] K s := by
  refine vc_slices_Clone___api_Link_api_Link__in ?_
  have cases0 : (v = .nilslc ∧ rows = []) ∨ ∃ b o c, v = .slc b o rows.length c 3 := by
    rcases h.2 with ⟨a, b⟩ | ⟨b, o, c, a, _⟩
    · exact .inl ⟨a, b⟩
    · exact .inr ⟨b, o, c, a⟩
  rcases cases0 with ⟨rfl, rfl⟩ | ⟨b, o, c, rfl⟩
  · simp only [vc_slices_Clone___api_Link_api_Link_, eqV_nilslc, negB_mk, Bool.false_bne, optK_mk, boolK_true]
    exact hK _ _ (.refl s) ⟨by simp, .inl ⟨rfl, rfl⟩⟩ fun _ _ _ _ _ h => absurd rfl h
  · simp only [vc_slices_Clone___api_Link_api_Link_, eqV_slc, negB_mk, Bool.false_bne, optK_mk, boolK_false]
    refine optK_of (a := []) rfl ⟨rfl, new_step fun d s1 hd h1 u1 => ?_⟩
    have sub1 := u1.sub hd
    exact app_copyR (h.sub sub1) (by omega) fun v' s' sub2 h2 h3 => hK v' s' (sub1.trans sub2) h2 fun b o n c e q => fresh_of sub1 (h3 b o n c e q)
/-- a new table -/
theorem New_in {n x : Int} (hl : SlR 3 s lv (L.map rwR)) (hlm : L.length ≤ 9223372036854775807)
    (hbad : ¬ (vld n L (List.replicate L.length false) ∧ 0 ≤ x ∧ x < n) → ∀ s' e, Sub s s' → e ≠ 0 → K (.tup [.nilptr, .int .i64 e]) s')
    (hK : vld n L (List.replicate L.length false) → 0 ≤ x → x < n → ∀ f mb lv' s', Sub s s' → s f = none → s mb = none → f ≠ mb → s' f = some (false, .cells 82 (fibC n x lv' .nilslc mb)) → s' mb = some (false, .map [] 0) → SlR 3 s' lv' (L.map rwR) → (∀ b o n c, lv' = .slc b o n c 3 → L.map rwR ≠ [] → b ≠ f ∧ b ≠ mb) → K (.tup [.ptr f 0, .int .i64 0]) s') :
    wpCall Try.prog XX 18 [.int .i64 n, lv, .int .i64 x] K s := by
  refine vc_fib_New_in ?_
  have bad0 : ∀ {s'}, ¬ (vld n L (List.replicate L.length false) ∧ 0 ≤ x ∧ x < n) → Sub s s' → ∀ {e : Int}, e ≠ 0 → K (.tup [.nilptr, .int .i64 e]) s' := fun {s'} h k {e} he => hbad h s' e k he
  simp only [vc_fib_New, hl.len, List.length_map, arith_gtr, optK_mk]
  refine boolK_mk (fun c => ?_) (fun c => ?_)
  · have c' := of_decide_eq_true c
    rw [c]
    simp only [vc_fib_New_j0, pickV_true, boolK_true, optK_mk]
    exact bad0 (fun h => by have := h.1.2.2.1; omega) (.refl s) (by omega)
  have c' := of_decide_eq_false c
  rw [c]
  simp only [nat?_mk, optK_mk]
  refine ⟨⟨Nat.le_refl _, by omega⟩, new_step fun ub s1 hub h1 u1 => ?_⟩
  have sub1 := u1.sub hub
  have hu1 : Sl s1 (.slc ub 0 L.length (some L.length) 1) ((List.replicate L.length false).map AVal.bool) := by
    rw [repl_one] at h1
    refine Sl.mk (l := (List.replicate L.length false).map AVal.bool) (t := false) (e := 4) ?_ (by simp) (by simp)
    rw [h1, List.map_replicate]
  refine Dist_in (hl.sub sub1) hlm hu1 fun dv s2 sub2 hno hyes => ?_
  have s02 := sub1.trans sub2
  by_cases q : vld n L (List.replicate L.length false) ∧ (0 : Int) ≤ 0 ∧ 0 < n
  rotate_left
  · rw [hno q]
    have q' : ¬ (vld n L (List.replicate L.length false) ∧ 0 ≤ x ∧ x < n) := fun h => q ⟨h.1, by omega, by omega⟩
    simp only [eqV_nilslc, negB_mk, Bool.false_bne, optK_mk, vc_fib_New_j0, pickV_false, boolK_true]
    exact bad0 q' s02 (by omega)
  obtain ⟨hv, _, hn0⟩ := q
  obtain ⟨N, rfl⟩ : ∃ N : Nat, n = N := ⟨n.toNat, by omega⟩
  obtain ⟨d, db, _, _, rfl, _, _⟩ := hyes N 0 hv rfl (by omega) rfl
  simp only [eqV_slc, negB_mk, Bool.false_bne, optK_mk, vc_fib_New_j0, pickV_false, boolK_false, arith_lss]
  by_cases c1 : x < 0
  · rw [decide_eq_true c1]
    simp only [vc_fib_New_j1, pickV_true, boolK_true, optK_mk]
    exact bad0 (fun h => by omega) s02 (by omega)
  rw [decide_eq_false c1]
  simp only [boolK_false, arith_geq, optK_mk, vc_fib_New_j1, pickV_false]
  by_cases c2 : (N : Int) ≤ x
  · rw [decide_eq_true c2]
    simp only [boolK_true]
    exact bad0 (fun h => by omega) s02 (by omega)
  rw [decide_eq_false c2]
  simp only [boolK_false]
  obtain ⟨r, rfl⟩ : ∃ r : Nat, x = r := ⟨x.toNat, by omega⟩
  have hN := hv.2.1
  refine aLoop_in (by omega) ?_
  have x0 : extractA (.tup [.int .u32 (lbk r), .int .i64 0]) 0 = some (.int .u32 (lbk r)) := rfl
  have x1 : extractA (.tup [.int .u32 (lbk r), .int .i64 0]) 1 = some (.int .i64 0) := rfl
  simp only [x0, x1, eqV_int, negB_mk, beq_self_eq_true, Bool.true_bne, Bool.not_true, boolK_false, optK_mk]
  refine CloneL_in (hl.sub s02) (by rw [List.length_map]; omega) fun lv' s3 sub3 hl3 fr3 => ?_
  have s03 := s02.trans sub3
  intro mb hmb
  have sub4 : Sub s3 (hset s3 mb (false, .map [] 0)) := sub_new hmb
  have hm4 : hset s3 mb (false, .map [] 0) mb = some (false, .map [] 0) := by simp [hset]
  generalize hset s3 mb (false, .map [] 0) = s4 at sub4 hm4
  have hone : lv'.one = true := hl3.one
  refine optK_of (a := fibC N r lv' .nilslc mb) ?_ ?_
  · show cond (Nat.beq lv'.cells.length 1 && Nat.ble (3 + lv'.cells.length) 6) (fillR (setRange [.int .i64 (N : Int), .int .i64 (r : Int), .int .u32 (lbk r), .nilslc, .nilslc, .nilmap] 3 lv'.cells) [(5, 1, .map mb)]) none = _
    rw [one_cells hone]
    rfl
  refine ⟨?_, new_step fun f s5 hf h5 u5 => ?_⟩
  · show ((AVal.int .i64 (N : Int)).one && ((AVal.int .i64 (r : Int)).one && ((AVal.int .u32 _).one && (lv'.one && (AVal.nilslc.one && ((AVal.map mb).one && true)))))) = true
    rw [hone]; rfl
  have sub5 := u5.sub hf
  have hfm : f ≠ mb := fun e => by rw [e, hm4] at hf; cases hf
  refine hK hv (by omega) (by omega) f mb lv' s5 (s03.trans (sub4.trans sub5)) (fresh_of (s03.trans sub4) hf) (fresh_of s03 hmb) hfm h5 (sub5 _ _ hm4) (hl3.sub (sub4.trans sub5)) fun b o n c e hne => ?_
  have := hl3.was b o n c e hne
  exact ⟨fun q => this (fresh_of sub4 (by rw [q]; exact hf)), fun q => this (by rw [q]; exact hmb)⟩
end Go.AM.FB
namespace Go.AM.FB
open Go Go.Proofs
variable {K : AVal → Heap → Prop} {s s' s0 t : Heap} {lv uv v y w : AVal} {N : Nat} {G : List Lnk} {U : List Bool} {d : Nat → Int} {L : List RLk}
/-! ### the map of wheels -/
def mE : Nat → List (Nat × Nat) → List AEnt
  | _, [] => []
  | i, p :: l => ⟨.int .i64 (p.1 : Int), .ptr p.2 0, i⟩ :: mE (i + 1) l
theorem mE_len : ∀ {i : Nat} {l : List (Nat × Nat)}, (mE i l).length = l.length
  | _, [] => rfl
  | i, p :: l => by show (mE (i + 1) l).length + 1 = _; rw [mE_len]; rfl
theorem mE_app {p : Nat × Nat} : ∀ {i : Nat} {l : List (Nat × Nat)}, mE i (l ++ [p]) = mE i l ++ [⟨.int .i64 (p.1 : Int), .ptr p.2 0, i + l.length⟩]
  | _, [] => rfl
  | i, q :: l => by
    show _ :: mE (i + 1) (l ++ [p]) = _ :: mE (i + 1) l ++ _
    rw [mE_app, List.cons_append]
    have : i + 1 + l.length = i + (q :: l).length := by rw [List.length_cons]; omega
    rw [this]
theorem mE_old : ∀ {i : Nat} {l : List (Nat × Nat)} {c : Nat}, i + l.length ≤ c → allOld c (mE i l) = true
  | _, [], _, _ => rfl
  | i, p :: l, c, h => by
    rw [List.length_cons] at h
    show (Nat.blt i c && allOld c (mE (i + 1) l)) = true
    rw [mE_old (by omega), Bool.and_true, Nat.blt_eq]
    omega
theorem mE_mem : ∀ {i : Nat} {l : List (Nat × Nat)} {e : AEnt}, e ∈ mE i l → ∃ p ∈ l, e.key = .int .i64 (p.1 : Int) ∧ e.val = .ptr p.2 0 ∧ i ≤ e.born
  | _, [], e, h => by cases h
  | i, p :: l, e, h => by
    rcases List.mem_cons.1 h with rfl | h
    · exact ⟨p, by simp, rfl, rfl, Nat.le_refl _⟩
    · obtain ⟨q, hq, a, b, c⟩ := mE_mem h
      exact ⟨q, List.mem_cons_of_mem _ hq, a, b, by omega⟩
theorem mE_born : ∀ {i : Nat} {l : List (Nat × Nat)} {e : AEnt}, e ∈ mE i l → findBorn e.born (mE i l) = some e
  | _, [], e, h => by cases h
  | i, p :: l, e, h => by
    show cond (Nat.beq i e.born) _ (findBorn e.born (mE (i + 1) l)) = _
    rcases List.mem_cons.1 h with rfl | h
    · rw [Nat.beq_refl]; rfl
    · obtain ⟨_, _, _, _, c⟩ := mE_mem h
      have : Nat.beq i e.born = false := by
        cases q : Nat.beq i e.born with
        | false => rfl
        | true => have := Nat.eq_of_beq_eq_true q; omega
      rw [this]
      exact mE_born h
def wOf (l : List (Nat × Nat)) (n : Nat) : Option Nat := (l.find? fun p => p.1 == n).map (·.2)
theorem keq {a b : Nat} : keyEq (.int .i64) (.int .i64 (a : Int)) (.int .i64 (b : Int)) = some (b == a) := by
  show some (eqI (a : Int) b) = _
  rw [eqI_eq]
  congr 1
  rw [Bool.eq_iff_iff]
  simp only [beq_iff_eq]
  omega
theorem mE_find {n : Nat} : ∀ {i j : Nat} {l : List (Nat × Nat)}, ∃ r, findI (.int .i64 (n : Int)) (mE i l) j = some r ∧ r.map (·.2) = (wOf l n).map fun w => AVal.ptr w 0
  | _, _, [] => ⟨none, rfl, rfl⟩
  | i, j, p :: l => by
    have e : findI (.int .i64 (n : Int)) (mE i (p :: l)) j = match (some (p.1 == n) : Option Bool) with
        | some true => some (some (j, AVal.ptr p.2 0))
        | some false => findI (.int .i64 (n : Int)) (mE (i + 1) l) (j + 1)
        | none => none := by
      rw [← keq]; rfl
    cases q : (p.1 == n) with
    | true =>
      rw [q] at e
      refine ⟨some (j, .ptr p.2 0), e, ?_⟩
      unfold wOf
      rw [List.find?_cons_of_pos (by exact q)]
      rfl
    | false =>
      rw [q] at e
      obtain ⟨r, h1, h2⟩ := mE_find (n := n) (i := i + 1) (j := j + 1) (l := l)
      refine ⟨r, e.trans h1, ?_⟩
      rw [h2]
      unfold wOf
      rw [List.find?_cons_of_neg (by rw [q]; simp)]
theorem wOf_none {l : List (Nat × Nat)} {n : Nat} (h : n ∉ l.map (·.1)) : wOf l n = none := by
  unfold wOf
  rw [Option.map_eq_none_iff, List.find?_eq_none]
  intro p hp q
  exact h (List.mem_map.2 ⟨p, hp, by simpa using q⟩)
theorem mget {mb : Nat} {tg : Bool} {c : Nat} {l : List (Nat × Nat)} {n : Nat} (h : s mb = some (tg, .map (mE 0 l) c)) : getM s (.map mb) (.int .i64 (n : Int)) = some ((wOf l n).map fun w => AVal.ptr w 0) := by
  obtain ⟨r, h1, h2⟩ := mE_find (n := n) (i := 0) (j := 0) (l := l)
  unfold getM
  simp only [h, h1]
  rw [← h2]
  cases r <;> rfl
theorem mput {mb w : Nat} {l : List (Nat × Nat)} {n : Nat} {R : Heap → Prop} (h : s mb = some (false, .map (mE 0 l) l.length)) (hn : n ∉ l.map (·.1))
    (hK : ∀ s', s' mb = some (false, .map (mE 0 (l ++ [(n, w)])) (l ++ [(n, w)]).length) → Upto mb s s' → R s') : optK (putM s (.map mb) (.int .i64 (n : Int)) (.ptr w 0)) R := by
  obtain ⟨r, h1, h2⟩ := mE_find (n := n) (i := 0) (j := 0) (l := l)
  rw [wOf_none hn] at h2
  have hr : r = none := by cases r with | none => rfl | some x => cases h2
  subst hr
  refine optK_of (a := hset s mb (false, .map (mE 0 (l ++ [(n, w)])) (l ++ [(n, w)]).length)) ?_ (hK _ (by simp [hset]) fun i hi => by simp [hset, hi])
  unfold putM putE
  simp only [h, h1]
  rw [mE_app, List.length_append, Nat.zero_add]
  rfl
/-- a wheel that has its links -/
def Wh (s : Heap) (w : Nat) (l : List Nat) : Prop := ∃ bb mv cap B, WH.WAt s w bb mv cap B (l.map fun (n : Nat) => (n : Int)) ∧ WH.Aft (l.map fun (n : Nat) => (n : Int)) (List.replicate 64 0) B
theorem Wh.sub {w : Nat} {l : List Nat} (h : Wh s w l) (k : Sub s s') : Wh s' w l := by
  obtain ⟨bb, mv, cap, B, h1, h2⟩ := h
  exact ⟨bb, mv, cap, B, h1.sub k, h2⟩
theorem min64 {a b : Int} : foldA min2A (.int .i64 a) [.int .i64 b] = some (.int .i64 (if b < a then b else a)) := by
  by_cases h : b < a
  · have : ltI b a = true := by rw [ltI_eq]; exact decide_eq_true h
    simp only [foldA, min2A, this, if_pos h]; rfl
  · have : ltI b a = false := by rw [ltI_eq]; exact decide_eq_false h
    simp only [foldA, min2A, this, if_neg h]; rfl
theorem iz_ints {l : List Nat} : iz l = (l.map fun (n : Nat) => (n : Int)).map (AVal.int .i64) := by
  unfold iz
  rw [List.map_map]
  rfl
/-- the whole of a list as a part of it -/
theorem Sl.whole {l : List AVal} (h : Sl s v l) : ∃ v', sliceS 1 v none (some (.int .i64 (l.length : Int))) none = some v' ∧ Sl s v' l := by
  rcases h with ⟨rfl, rfl⟩ | ⟨b, o, cap, rfl, h2, h3⟩
  · exact ⟨.nilslc, rfl, .inl ⟨rfl, rfl⟩⟩
  · cases cap with
    | none =>
      refine ⟨.slc b o l.length none 1, ?_, .inr ⟨b, o, none, rfl, by simp, h3⟩⟩
      simp [sliceS, bound, Nat.ble_eq_true_of_le (Nat.le_refl l.length)]
    | some c =>
      refine ⟨.slc b o l.length (some c) 1, ?_, .inr ⟨b, o, some c, rfl, h2, h3⟩⟩
      simp [sliceS, bound, Nat.ble_eq_true_of_le (h2 c rfl)]
/-- a node that has no wheel gets one, and the wheel its links -/
theorem turn_in {f mb n : Nat} {a x : Int} {lv ev : AVal} {ws : List (Nat × Nat)} {l : List Nat} (hf : s f = some (false, .cells 82 (fibC a x lv ev mb))) (hm : s mb = some (false, .map (mE 0 ws) ws.length)) (hn : n ∉ ws.map (·.1))
    (hl : Sl s v (iz l)) (ha : l.Pairwise (· < ·)) (hb : ∀ i ∈ l, i < 128) (hlen : l.length ≤ 64) (hne : l ≠ [])
    (hK : ∀ s' w, s w = none → s' mb = some (false, .map (mE 0 (ws ++ [(n, w)])) (ws ++ [(n, w)]).length) → KeepBut (fun b => b = mb) s s' → (∀ t, (∀ i e, s i = none → s' i = some e → t i = some e) → Wh t w l) → K (.tup []) s') : wpCall Try.prog XX 43 [.ptr f 0, .int .i64 (n : Int), v] K s := by
  refine vc_fib_Fib_turn_in ?_
  have e5 : (fibC a x lv ev mb)[5]? = some (.map mb) := rfl
  have hg := mget (n := n) hm
  rw [wOf_none hn] at hg
  have hg : getM s (.map mb) (.int .i64 (n : Int)) = some none := hg
  have x0 : extractA (retM .nilptr true none) 0 = some .nilptr := rfl
  have x1 : extractA (retM .nilptr true none) 1 = some (.bool false) := rfl
  simp only [vc_fib_Fib_turn, nilCheck_ptr, addOff_ptr, Nat.zero_add, rd1_mk hf, e5, hg, x0, x1, unary_not, Bool.not_false, boolK_true, optK_mk]
  refine WH.New_in (n := 64) (by omega) (by omega) fun w bb s1 hw hbb sub1 wa => ?_
  have y0 : extractA (.tup [.ptr w 0, .int .i64 0]) 0 = some (.ptr w 0) := rfl
  have y1 : extractA (.tup [.ptr w 0, .int .i64 0]) 1 = some (.int .i64 0) := rfl
  have hf1 := sub1 _ _ hf
  simp only [y0, y1, rd1_mk hf1, e5, optK_mk]
  refine mput (sub1 _ _ hm) hn fun s2 hm2 u2 => ?_
  have wm : w ≠ mb := fun e => by rw [e, hm] at hw; cases hw
  have bm : bb ≠ mb := fun e => by rw [e, hm] at hbb; cases hbb
  have wa2 : WH.WAt s2 w bb .nilslc (some 64) (List.replicate 64 0) [] := ⟨by rw [u2 w wm]; exact wa.wb, by rw [u2 bb bm]; exact wa.bs, .inl ⟨rfl, rfl⟩, wa.cp, wa.pos⟩
  have hl2 : Sl s2 v (iz l) := (hl.sub sub1).keep (fp := fun b => b = mb) (u2.keep rfl) fun b o k c e hne => fun q => by
    rcases hl with ⟨r, _⟩ | ⟨b', o', c', r1, _, r3⟩
    · rw [r] at e; cases e
    · rw [r1] at e
      cases e
      obtain ⟨t, el, cs, r4, _⟩ := r3 hne
      rw [q, hm] at r4
      cases r4
  unfold vc_fib_Fib_turn_j0
  have c1 : (if (64 : Int) < ((iz l).length : Int) then (64 : Int) else ((iz l).length : Int)) = ((iz l).length : Int) := if_neg (by rw [iz_len]; omega)
  obtain ⟨v', hv', hlv⟩ := Sl.whole hl2
  simp only [hl2.len, min64, c1, hv', optK_mk]
  have asc : WH.Asc (l.map fun (n : Nat) => (n : Int)) := ⟨by
    rw [List.pairwise_map]
    exact ha.imp fun h => by omega, fun z hz => by
    obtain ⟨i, hi, rfl⟩ := List.mem_map.1 hz
    have := hb i hi
    omega⟩
  rw [iz_ints] at hlv
  refine WH.Set_in wa2 hlv asc (by rw [List.length_map, List.length_replicate]; exact hlen) (fun b hb => by have := List.eq_of_mem_replicate hb; omega) fun s3 mv3 B3 wa3 aft k3 fr3 => ?_
  have ne : l.map (fun (n : Nat) => (n : Int)) ≠ [] := by simpa using hne
  obtain ⟨c, k, kk, hc, hmv⟩ := fr3 ne
  have hs2c : s c = none := by
    cases q : s c with
    | none => rfl
    | some e =>
      by_cases e2 : c = mb
      · rw [e2, hm2] at hc; cases hc
      · have := sub1 _ _ q
        rw [← u2 c e2, hc] at this
        cases this
  refine hK s3 w hw (k3 _ _ hm2 fun q => q.elim (fun e => wm e.symm) fun e => bm e.symm) (fun i e hi hn => ?_) fun t ht => ?_
  · have hn : i ≠ mb := hn
    have h2 : s2 i = some e := by rw [u2 i hn]; exact sub1 _ _ hi
    refine k3 _ _ h2 fun q => q.elim (fun e2 => ?_) fun e2 => ?_
    · rw [e2, hw] at hi; cases hi
    · rw [e2, hbb] at hi; cases hi
  · refine ⟨bb, mv3, some 64, B3, ⟨ht _ _ hw wa3.wb, ht _ _ hbb wa3.bs, ?_, wa3.cp, wa3.pos⟩, aft⟩
    rcases wa3.ms with q | ⟨b, o, cap, q1, q2, q3⟩
    · exact .inl q
    · refine .inr ⟨b, o, cap, q1, q2, fun hne => ?_⟩
      obtain ⟨tt, e, cs, r1, r2⟩ := q3 hne
      refine ⟨tt, e, cs, ht _ _ ?_ r1, r2⟩
      rw [hmv] at q1
      cases q1
      exact hs2c
end Go.AM.FB
namespace Go.AM.FB
open Go Go.Proofs
variable {K : AVal → Heap → Prop} {s s' s0 t : Heap} {lv uv v y w : AVal} {N : Nat} {G : List Lnk} {U : List Bool} {d : Nat → Int} {L : List RLk}
/-! ### the nodes that a table reaches -/
noncomputable def lnk (N : Nat) (G : List Lnk) (U : List Bool) (x n : Nat) : List Nat := nrL G U (dF N G U n) x
noncomputable def ndL (N : Nat) (G : List Lnk) (U : List Bool) (x : Nat) : List Nat := (List.range N).filter fun n => !(lnk N G U x n).isEmpty
theorem ofP_nd {x : Nat} : ∀ k, ofP N G U x k = ((List.range k).filter fun n => !(lnk N G U x n).isEmpty).map fun n => (lbk n, lnk N G U x n)
  | 0 => rfl
  | k + 1 => by
    rw [ofP_succ, ofP_nd k, List.range_succ, List.filter_append, List.map_append]
    congr 1
    unfold ofE
    by_cases q : nrL G U (dF N G U k) x = []
    · rw [if_pos q]
      have : (lnk N G U x k).isEmpty = true := by unfold lnk; rw [q]; rfl
      simp [this]
    · rw [if_neg q]
      have : (lnk N G U x k).isEmpty = false := by
        unfold lnk
        cases e : nrL G U (dF N G U k) x with
        | nil => exact absurd e q
        | cons a b => rfl
      simp [this]
      rfl
theorem ofP_all {x : Nat} : ofP N G U x N = (ndL N G U x).map fun n => (lbk n, lnk N G U x n) := ofP_nd N
theorem mem_ndL {x n : Nat} : n ∈ ndL N G U x ↔ n < N ∧ lnk N G U x n ≠ [] := by
  unfold ndL
  rw [List.mem_filter, List.mem_range]
  constructor
  · rintro ⟨h1, h2⟩
    refine ⟨h1, fun q => ?_⟩
    rw [q] at h2; cases h2
  · rintro ⟨h1, h2⟩
    refine ⟨h1, ?_⟩
    cases e : lnk N G U x n with
    | nil => exact absurd e h2
    | cons a b => rfl
theorem ndL_asc {x : Nat} : (ndL N G U x).Pairwise (· < ·) := List.Pairwise.filter _ List.pairwise_lt_range
theorem ndL_len {x : Nat} : (ndL N G U x).length ≤ N := by
  have := List.length_filter_le (fun n => !(lnk N G U x n).isEmpty) (List.range N)
  rw [List.length_range] at this
  exact this
theorem edL_asc {n : Nat} : (edL G U n).Pairwise fun a b => a.1 < b.1 := by
  unfold edL
  rw [List.pairwise_filterMap]
  refine List.Pairwise.imp ?_ List.pairwise_lt_range
  intro a b hab x hx y hy
  have f : ∀ {i : Nat} {e : Nat × Nat × Nat}, (if U.getD i false then (match G[i]? with | some x => (oth x n).map fun m => (i, m, x.2.2) | none => none) else none) = some e → e.1 = i := fun {i e} h => by
    split at h
    · split at h
      · obtain ⟨m, _, rfl⟩ := Option.map_eq_some_iff.1 h
        rfl
      · cases h
    · cases h
  rw [f hx, f hy]
  exact hab
theorem nrL_asc {n : Nat} : (nrL G U d n).Pairwise (· < ·) := by
  unfold nrL
  rw [List.pairwise_map]
  exact (List.Pairwise.filter _ edL_asc)
theorem nrL_lt {n i : Nat} (h : i ∈ nrL G U d n) : i < G.length := by
  unfold nrL at h
  obtain ⟨e, he, rfl⟩ := List.mem_map.1 h
  have he := (List.mem_filter.1 he).1
  unfold edL at he
  obtain ⟨j, hj, hq⟩ := List.mem_filterMap.1 he
  rw [List.mem_range] at hj
  split at hq
  · split at hq
    · obtain ⟨m, _, rfl⟩ := Option.map_eq_some_iff.1 hq
      exact hj
    · cases hq
  · cases hq
theorem nrL_len {n : Nat} : (nrL G U d n).length ≤ G.length := by
  unfold nrL
  rw [List.length_map]
  exact Nat.le_trans (List.length_filter_le _ _) edL_len
theorem lnk_asc {x n : Nat} : (lnk N G U x n).Pairwise (· < ·) := nrL_asc
theorem lnk_lt {x n i : Nat} (h : i ∈ lnk N G U x n) : i < G.length := nrL_lt h
theorem lnk_len {x n : Nat} : (lnk N G U x n).length ≤ G.length := nrL_len
/-! ### tables that are read -/
/-- a wheel that is read -/
def WhR (s : Heap) (w : Nat) (l : List Nat) : Prop := ∃ t1 t2 bb mv cap B, s w = some (t1, .cells 119 [.slc bb 0 B.length cap 1, mv]) ∧ s bb = some (t2, .cells 3 (WH.ints B)) ∧ (∀ c, cap = some c → B.length ≤ c) ∧ B.length = 64 ∧ WH.Sli s mv (l.map fun (n : Nat) => (n : Int)) ∧ WH.Aft (l.map fun (n : Nat) => (n : Int)) (List.replicate 64 0) B
theorem Wh.rd {w : Nat} {l : List Nat} (h : Wh s w l) : WhR s w l := by
  obtain ⟨bb, mv, cap, B, h1, h2⟩ := h
  exact ⟨false, false, bb, mv, cap, B, h1.wb, h1.bs, h1.cp, by rw [h2.len, List.length_replicate], h1.ms, h2⟩
theorem WhR.sub {w : Nat} {l : List Nat} (h : WhR s w l) (k : Sub s s') : WhR s' w l := by
  obtain ⟨t1, t2, bb, mv, cap, B, h1, h2, h3, h4, h5, h6⟩ := h
  exact ⟨t1, t2, bb, mv, cap, B, k _ _ h1, k _ _ h2, h3, h4, h5.sub k, h6⟩
theorem Sl.frz {l : List AVal} (h : Sl s v l) : Sl (AM.frz s) v l := by
  rcases h with h | ⟨b, o, cap, h1, h2, h3⟩
  · exact .inl h
  · refine .inr ⟨b, o, cap, h1, h2, fun hl => ?_⟩
    obtain ⟨t, e, cs, q1, q2⟩ := h3 hl
    exact ⟨true, e, cs, frz_some q1, q2⟩
theorem WhR.frz {w : Nat} {l : List Nat} (h : WhR s w l) : WhR (AM.frz s) w l := by
  obtain ⟨t1, t2, bb, mv, cap, B, h1, h2, h3, h4, h5, h6⟩ := h
  exact ⟨true, true, bb, mv, cap, B, frz_some h1, frz_some h2, h3, h4, Sl.frz h5, h6⟩
/-- the table of node 'x' -/
structure FibR (s : Heap) (f N : Nat) (G : List Lnk) (U : List Bool) (x : Nat) : Prop where
  ex : ∃ (tf : Bool) (lv ev : AVal) (mb : Nat) (R : List EnV) (tm : Bool) (c : Nat) (ws : List (Nat × Nat)), s f = some (tf, .cells 82 (fibC (N : Int) (x : Int) lv ev mb)) ∧ SlR 2 s ev (R.map enR) ∧ R.map kyE = ofP N G U x N ∧ (∀ y ∈ R, Sl s y.2.1 (iz y.2.2)) ∧
    s mb = some (tm, .map (mE 0 ws) c) ∧ ws.map (·.1) = ndL N G U x ∧ ∀ p ∈ ws, WhR s p.2 (lnk N G U x p.1)
theorem FibR.sub {f x : Nat} (h : FibR s f N G U x) (k : Sub s s') : FibR s' f N G U x := by
  obtain ⟨tf, lv, ev, mb, R, tm, c, ws, h1, h2, h3, h4, h5, h6, h7⟩ := h.ex
  exact ⟨tf, lv, ev, mb, R, tm, c, ws, k _ _ h1, h2.sub k, h3, fun y hy => (h4 y hy).sub k, k _ _ h5, h6, fun p hp => (h7 p hp).sub k⟩
theorem FibR.frz {f x : Nat} (h : FibR s f N G U x) : FibR (AM.frz s) f N G U x := by
  obtain ⟨tf, lv, ev, mb, R, tm, c, ws, h1, h2, h3, h4, h5, h6, h7⟩ := h.ex
  exact ⟨true, lv, ev, mb, R, true, c, ws, frz_some h1, h2.frz, h3, fun y hy => Sl.frz (h4 y hy), frz_some h5, h6, fun p hp => (h7 p hp).frz⟩
end Go.AM.FB
namespace Go.AM.FB
open Go Go.Proofs
variable {K : AVal → Heap → Prop} {s s' s0 t : Heap} {lv uv v y w : AVal} {N : Nat} {G : List Lnk} {U : List Bool} {d : Nat → Int} {L : List RLk}
/-! ### Update: the rounds -/
def offK (H t : Heap) (f rb mb : Nat) : Heap := fun i => if i = f ∨ i = rb ∨ i = mb then t i else H i
def rchL (l : List Nat) : List AVal := (List.range 32).map fun j => .bool (decide (j ∈ l))
theorem rchL_len {l : List Nat} : (rchL l).length = 32 := by unfold rchL; simp
theorem rchL_get {l : List Nat} {n : Nat} (h : n < 32) : (rchL l)[n]? = some (.bool (decide (n ∈ l))) := by unfold rchL; simp [h]
theorem rchL_set {l : List Nat} {n : Nat} (h : n < 32) : (rchL l).set n (.bool true) = rchL (l ++ [n]) := by
  apply List.ext_getElem?
  intro i
  rw [List.getElem?_set]
  by_cases e : n = i
  · subst e
    rw [if_pos rfl, rchL_len, if_pos h, rchL_get h]
    simp
  · rw [if_neg e]
    by_cases q : i < 32
    · rw [rchL_get q, rchL_get q]
      simp [Ne.symm e]
    · rw [List.getElem?_eq_none (by rw [rchL_len]; omega), List.getElem?_eq_none (by rw [rchL_len]; omega)]
theorem AccR.offv {elem : TypeId} {es : Nat} {rows : List (List AVal)} (h : AccR elem es s0 t v rows) : AccR elem es (offV v t) t v rows := by
  refine ⟨h.1, h.2.imp id fun ⟨i, q1, q2, q3⟩ => ⟨i, ?_, q2, q3⟩⟩
  rw [q2]
  exact if_pos rfl
theorem AccR.own {elem : TypeId} {es : Nat} {rows : List (List AVal)} (h : AccR elem es s0 t v rows) {i : Nat} (hi : s0 i ≠ none) : ∀ b o n c e, v = .slc b o n c e → i ≠ b := fun b o n c e q q2 => by
  rcases h.2 with ⟨r, _⟩ | ⟨j, r1, r2, _⟩
  · rw [r] at q; cases q
  · rw [r2] at q; cases q; exact hi (by rw [q2]; exact r1)
theorem iaddrA_ok {rb n : Nat} (h : n < 32) : iaddrA 32 1 (.ptr rb 0) (.int .i64 (n : Int)) = some (.ptr rb n) := by
  have : Nat.blt n 32 = true := by rw [Nat.blt_eq]; exact h
  show (match nat? (.int .i64 (n : Int)) with | some i => cond (Nat.blt i 32) (some (AVal.ptr rb (0 + i * 1))) none | none => none) = _
  rw [nat?_mk]
  simp [this]
structure UpI (sB t : Heap) (f rb mb N : Nat) (G : List Lnk) (U : List Bool) (x : Nat) (lv : AVal) (R : List EnV) (k : Nat) : Prop where
  ex : ∃ (ev : AVal) (ws : List (Nat × Nat)) (H : Heap), ws.map (·.1) = (ndL N G U x).take k ∧ Sub sB H ∧ Sub H t ∧ H f = none ∧ H rb = none ∧ H mb = none ∧ t f = some (false, .cells 82 (fibC (N : Int) (x : Int) lv ev mb)) ∧ t rb = some (false, .cells 90 (rchL ((ndL N G U x).take k))) ∧
    t mb = some (false, .map (mE 0 ws) ws.length) ∧ AccR 89 2 (offK H t f rb mb) t ev ((R.take k).map enR) ∧ ∀ p ∈ ws, Wh H p.2 (lnk N G U x p.1)
theorem step_in {sB : Heap} {f rb mb x k n : Nat} {wv : AVal} {R : List EnV} {J : Heap → Prop} (z : UpI sB t f rb mb N G U x lv R k) (hN : N ≤ 32) (hG : G.length ≤ 64) (hk : (ndL N G U x)[k]? = some n) (hR : R[k]? = some (lbk n, wv, lnk N G U x n)) (hw : Sl sB wv (iz (lnk N G U x n)))
    (hK : ∀ t', UpI sB t' f rb mb N G U x lv R (k + 1) → J t') :
    newK 86 [(.int .u32 0), .nilslc] (fun b_32 s_33 =>
    optK (wrAgg s_33 2 (.ptr b_32 0) (.agg (enR (lbk n, wv, lnk N G U x n)))) fun s_34 =>
    optK (nilCheckA (.ptr f 0)) fun v_35 =>
    optK (addOff 4 v_35) fun v_36 =>
    optK (rd1 s_34 v_36) fun v_37 =>
    optK (rdN s_34 2 (.ptr b_32 0)) fun v_38 =>
    optK (fillR (repl 1 [(.int .u32 0), .nilslc]) [(0, 2, (.agg v_38))]) fun c_39 => allOne c_39 = true ∧ newK 89 c_39 (fun b_40 s_41 =>
    (∀ b, s_34 b ≠ none → s_34 b = none → s_41 b = none) →
    appK 89 2 v_37 (.slc b_40 0 1 (some 1) 2) (fun v_42 s_43 =>
    optK (nilCheckA (.ptr f 0)) fun v_44 =>
    optK (addOff 4 v_44) fun v_45 =>
    optK (wr1 s_43 v_45 v_42) fun s_46 =>
    optK (addOff 0 (.ptr b_32 0)) fun v_47 =>
    optK (rd1 s_46 v_47) fun v_48 =>
    wpCall Try.prog XX 42 [v_48] (fun v_49 s_50 =>
    optK (extractA v_49 0) fun v_51 =>
    optK (extractA v_49 1) fun v_52 =>
    boolK v_52
     (optK (iaddrA 32 1 (.ptr rb 0) v_51) fun v_54 =>
      optK (wr1 s_50 v_54 (.bool true)) fun s_55 =>
      optK (addOff 1 (.ptr b_32 0)) fun v_56 =>
      optK (rd1 s_55 v_56) fun v_57 =>
      wpCall Try.prog XX 43 [(.ptr f 0), v_51, v_57] (fun v_58 s_59 => J s_59) s_55)
     (J s_50)) s_46) (add s_34 s_41)) (frz s_34)) t := by
  obtain ⟨ev, ws, H, hws, hBH, hHt, hHf, hHr, hHm, hf, hr, hm, acc, hwh⟩ := z.ex
  have hnl : n ∈ ndL N G U x := List.mem_of_getElem? hk
  have hn : n < N := (mem_ndL.1 hnl).1
  have hone : wv.one = true := hw.one
  have allone : allOne (enR (lbk n, wv, lnk N G U x n)) = true := by
    show ((AVal.int .u32 (lbk n)).one && (wv.one && true)) = true
    rw [hone]; rfl
  refine new_step fun b32 t1 hb32 h1 u1 => wrAgg_step h1 rfl rfl allone fun t2 h2 u2 => ?_
  have st2 : Sub t t2 := sub_upto (u1.sub hb32) u2 hb32
  have f4 : (fibC (N : Int) (x : Int) lv ev mb)[4]? = some ev := rfl
  have f2 := st2 _ _ hf
  simp only [nilCheck_ptr, addOff_ptr, Nat.zero_add, rd1_mk f2, f4, rdN_all h2 (show (enR (lbk n, wv, lnk N G U x n)).length = 2 from rfl), optK_mk]
  refine optK_of (fill_one (zs := [(.int .u32 0), .nilslc]) (c := enR (lbk n, wv, lnk N G U x n)) rfl) ⟨allone, ?_⟩
  refine newM (l := []) fun b40 s41 hb40 h40 u40 => ?_
  have st3 : Sub t2 (add t2 s41) := u40.sub hb40
  generalize add t2 s41 = t3 at h40 u40 st3
  have st03 := st2.trans st3
  have acc3 := AccR.offv (acc.sub st03)
  have fOff : ∀ {i e}, offK H t f rb mb i = some e → offV ev t3 i = some e := fun {i e} hi => by
    rw [offV_at (AccR.own acc (by rw [hi]; simp))]
    unfold offK at hi
    split at hi
    · exact st03 _ _ hi
    · exact st03 _ _ (hHt _ _ hi)
  have oK1 : ∀ {i}, i = f ∨ i = rb ∨ i = mb → offK H t f rb mb i = t i := fun h => if_pos h
  have oK2 : Sub H (offK H t f rb mb) := fun i e hi => by
    unfold offK
    rw [if_neg]
    · exact hi
    · rintro (q | q | q)
      · rw [q, hHf] at hi; cases hi
      · rw [q, hHr] at hi; cases hi
      · rw [q, hHm] at hi; cases hi
  have cnot : ∀ {i}, t i = none → ∀ b o n c e, ev = .slc b o n c e → i ≠ b := fun {i} hi b o n c e q q2 => by
    rcases acc.2 with ⟨r, _⟩ | ⟨j, _, r2, r3⟩
    · rw [r] at q; cases q
    · rw [r2] at q; cases q; rw [q2, r3] at hi; cases hi
  have h32 : offV ev t3 b32 = some (false, .cells 86 (enR (lbk n, wv, lnk N G U x n))) := by
    rw [offV_at (cnot hb32)]
    exact st3 _ _ h2
  have hkl : R.take k ++ [(lbk n, wv, lnk N G U x n)] = R.take (k + 1) := by rw [List.take_add_one, hR]; rfl
  have hndl : (ndL N G U x).take k ++ [n] = (ndL N G U x).take (k + 1) := by rw [List.take_add_one, hk]; rfl
  have hkn : k < (ndL N G U x).length := (List.getElem?_eq_some_iff.1 hk).1
  have hNl := ndL_len (N := N) (G := G) (U := U) (x := x)
  refine acc3.app (SlR.mk (rows := [enR (lbk n, wv, lnk N G U x n)]) (by intro r hr; rw [List.mem_singleton] at hr; subst hr; rfl) (by simpa using h40) rfl (by simp)) (by simp) (by rw [List.length_map, List.length_take]; simp only [List.length_singleton]; omega) offV_sub fun v' t4 a4 k4 => ?_
  have f4' : t4 f = some (false, .cells 82 (fibC (N : Int) (x : Int) lv ev mb)) := k4 _ _ (fOff (by rw [oK1 (.inl rfl)]; exact hf))
  have r4' : t4 rb = some (false, .cells 90 (rchL ((ndL N G U x).take k))) := k4 _ _ (fOff (by rw [oK1 (.inr (.inl rfl))]; exact hr))
  have m4' : t4 mb = some (false, .map (mE 0 ws) ws.length) := k4 _ _ (fOff (by rw [oK1 (.inr (.inr rfl))]; exact hm))
  have n1 : rb ≠ f := fun e => by rw [e, f4'] at r4'; cases r4'
  have n2 : mb ≠ f := fun e => by rw [e, f4'] at m4'; cases m4'
  have n3 : mb ≠ rb := fun e => by rw [e, r4'] at m4'; cases m4'
  have h4H : Sub H t4 := fun i e hi => k4 _ _ (fOff (oK2 _ _ hi))
  have h32' := k4 _ _ h32
  have n4 : b32 ≠ f := fun e => by rw [e, hf] at hb32; cases hb32
  have n5 : b32 ≠ rb := fun e => by rw [e, hr] at hb32; cases hb32
  try simp only [nilCheck_ptr, addOff_ptr, Nat.zero_add, optK_mk]
  refine wr1_step f4' (show 4 < (fibC (N : Int) (x : Int) lv ev mb).length from by show 4 < 6; omega) a4.sl.one fun t5 h5 u5 => ?_
  have h5 : t5 f = some (false, .cells 82 (fibC (N : Int) (x : Int) lv v' mb)) := h5
  have b5 : t5 b32 = some (false, .cells 86 (enR (lbk n, wv, lnk N G U x n))) := by rw [u5 _ n4]; exact h32'
  have e0 : (enR (lbk n, wv, lnk N G U x n))[0]? = some (.int .u32 (lbk n)) := rfl
  have e1 : (enR (lbk n, wv, lnk N G U x n))[1]? = some wv := rfl
  simp only [rd1_mk b5, e0, optK_mk]
  refine Node_in (by omega) ?_
  have x0 : extractA (.tup [.int .i64 (n : Int), .bool true]) 0 = some (.int .i64 (n : Int)) := rfl
  have x1 : extractA (.tup [.int .i64 (n : Int), .bool true]) 1 = some (.bool true) := rfl
  simp only [x0, x1, boolK_true, iaddrA_ok (show n < 32 by omega), optK_mk]
  have r5 : t5 rb = some (false, .cells 90 (rchL ((ndL N G U x).take k))) := by rw [u5 _ n1]; exact r4'
  refine wr1_step r5 (by rw [rchL_len]; omega) rfl fun t6 h6 u6 => ?_
  rw [rchL_set (by omega), hndl] at h6
  have b6 : t6 b32 = some (false, .cells 86 (enR (lbk n, wv, lnk N G U x n))) := by rw [u6 _ n5]; exact b5
  simp only [rd1_mk b6, e1, optK_mk]
  have f6 : t6 f = some (false, .cells 82 (fibC (N : Int) (x : Int) lv v' mb)) := by rw [u6 _ (Ne.symm n1)]; exact h5
  have m6 : t6 mb = some (false, .map (mE 0 ws) ws.length) := by rw [u6 _ n3, u5 _ n2]; exact m4'
  have H6 : Sub H t6 := fun i e hi => by
    have i1 : i ≠ f := fun q => by rw [q, hHf] at hi; cases hi
    have i2 : i ≠ rb := fun q => by rw [q, hHr] at hi; cases hi
    rw [u6 _ i2, u5 _ i1]
    exact h4H _ _ hi
  have nin : n ∉ ws.map (·.1) := by
    rw [hws]
    intro q
    have := ndL_asc (N := N) (G := G) (U := U) (x := x)
    obtain ⟨j, hj⟩ := List.mem_iff_getElem?.1 q
    rw [List.getElem?_take] at hj
    split at hj
    · rename_i hjk
      obtain ⟨a1, a2⟩ := List.getElem?_eq_some_iff.1 hj
      obtain ⟨c1, c2⟩ := List.getElem?_eq_some_iff.1 hk
      have := List.pairwise_iff_getElem.1 this j k a1 c1 hjk
      omega
    · cases hj
  refine turn_in f6 m6 nin ((hw.sub hBH).sub H6) lnk_asc (fun i hi => by have := lnk_lt hi; omega) (Nat.le_trans lnk_len hG) (mem_ndL.1 hnl).2 fun t7 w hw7 m7 k7 wh7 => ?_
  -- the list's block
  have cb : ∃ c, v' = .slc c 0 ((R.take k).map enR ++ [enR (lbk n, wv, lnk N G U x n)]).length none 2 ∧ offV ev t3 c = none ∧ t4 c = some (false, .cells 89 ((R.take k).map enR ++ [enR (lbk n, wv, lnk N G U x n)]).flatten) := by
    rcases a4.2 with ⟨_, q⟩ | ⟨c, q1, q2, q3⟩
    · simp at q
    · exact ⟨c, q2, q1, q3⟩
  obtain ⟨c, hv', hc0, hc4⟩ := cb
  have hcf : c ≠ f := fun e => by rw [e, f4'] at hc4; cases hc4
  have hcr : c ≠ rb := fun e => by rw [e, r4'] at hc4; cases hc4
  have hcm : c ≠ mb := fun e => by rw [e, m4'] at hc4; cases hc4
  have hcH : H c = none := by
    cases q : H c with
    | none => rfl
    | some e => rw [fOff (oK2 _ _ q)] at hc0; cases hc0
  have c6 : t6 c = some (false, .cells 89 ((R.take k).map enR ++ [enR (lbk n, wv, lnk N G U x n)]).flatten) := by rw [u6 _ hcr, u5 _ hcf]; exact hc4
  have c7 := k7 _ _ c6 hcm
  have f7 := k7 _ _ f6 (fun e => n2 e.symm)
  have r7 := k7 _ _ h6 (fun e => n3 e.symm)
  have HH : Sub H fun i => if i = f ∨ i = rb ∨ i = mb ∨ i = c then none else t7 i := fun i e hi => by
    show (if i = f ∨ i = rb ∨ i = mb ∨ i = c then none else t7 i) = some e
    have im : i ≠ mb := fun q => by rw [q, hHm] at hi; cases hi
    rw [if_neg]
    · exact k7 _ _ (H6 _ _ hi) im
    · rintro (q | q | q | q)
      · rw [q, hHf] at hi; cases hi
      · rw [q, hHr] at hi; cases hi
      · rw [q, hHm] at hi; cases hi
      · rw [q, hcH] at hi; cases hi
  refine hK t7 ⟨⟨v', ws ++ [(n, w)], fun i => if i = f ∨ i = rb ∨ i = mb ∨ i = c then none else t7 i, ?_, hBH.trans HH, ?_, by simp, by simp, by simp, f7, r7, m7, ⟨?_, .inr ⟨c, ?_, ?_, ?_⟩⟩, ?_⟩⟩
  · rw [List.map_append, hws, ← hndl]; rfl
  · intro i e hi
    have hi : (if i = f ∨ i = rb ∨ i = mb ∨ i = c then none else t7 i) = some e := hi
    split at hi
    · cases hi
    · exact hi
  · intro r hr
    obtain ⟨y, _, rfl⟩ := List.mem_map.1 hr
    rfl
  · show (if c = f ∨ c = rb ∨ c = mb then t7 c else if c = f ∨ c = rb ∨ c = mb ∨ c = c then none else t7 c) = none
    rw [if_neg (by rintro (q | q | q) <;> contradiction), if_pos (.inr (.inr (.inr rfl)))]
  · rw [hv', ← hkl, List.map_append]; rfl
  · rw [← hkl, List.map_append]; exact c7
  · intro p hp
    rcases List.mem_append.1 hp with q | q
    · exact (hwh p q).sub HH
    · rw [List.mem_singleton] at q
      subst q
      refine wh7 _ fun i e hi hie => ?_
      show (if i = f ∨ i = rb ∨ i = mb ∨ i = c then none else t7 i) = some e
      rw [if_neg]
      · exact hie
      · rintro (q | q | q | q)
        · rw [q, f6] at hi; cases hi
        · rw [q, h6] at hi; cases hi
        · rw [q, m6] at hi; cases hi
        · rw [q, c6] at hi; cases hi
end Go.AM.FB
namespace Go.AM.FB
open Go Go.Proofs
variable {K : AVal → Heap → Prop} {s s' s0 t : Heap} {lv uv v y w : AVal} {N : Nat} {G : List Lnk} {U : List Bool} {d : Nat → Int} {L : List RLk}
/-! ### Update: a table that is new is filled -/
def shS : List AVal := [.tup [.bool true, .int .i64 0, .ptr 0 0], .bool true, .tup [.int .i64 0, .ptr 0 0], .int .i64 0, .ptr 0 0, .int .i64 0, .ptr 0 0, .int .i64 0, .ptr 0 0, .bool true, .bool true, .undef, .undef]
def shT : List AVal := [.tup [.bool false], .bool false, .tup [.int .i64 0, .ptr 0 0], .int .i64 0, .ptr 0 0, .int .i64 0, .ptr 0 0, .int .i64 0, .ptr 0 0, .bool true, .bool true, .undef, .undef]
theorem undefs {a b c d e f g h i j k l m : AVal} (hq : [a, b, c, d, e, f, g, h, i, j, k, l, m] = [.undef, .undef, .undef, .undef, .undef, .undef, .undef, .undef, .undef, .undef, .undef, .undef, .undef] ∨ shEs [a, b, c, d, e, f, g, h, i, j, k, l, m] shS = true) : shE l .undef = true ∧ shE m .undef = true := by
  rcases hq with q | q
  · simp only [List.cons.injEq, and_true] at q
    obtain ⟨_, _, _, _, _, _, _, _, _, _, _, q1, q2⟩ := q
    rw [q1, q2]
    exact ⟨rfl, rfl⟩
  · unfold shS at q
    simp only [shEs, Bool.and_eq_true, and_true] at q
    obtain ⟨_, _, _, _, _, _, _, _, _, _, _, q1, q2⟩ := q
    exact ⟨q1, q2⟩
theorem shS_T {a b c d e f g h i j k l m : AVal} (hq : shEs [a, b, c, d, e, f, g, h, i, j, k, l, m] shS = true) : shEs [.tup [.bool false], .bool false, c, d, e, f, g, h, i, j, k, l, m] shT = true := by
  unfold shS at hq
  unfold shT
  simp only [shEs, Bool.and_eq_true, and_true] at hq ⊢
  obtain ⟨_, _, q⟩ := hq
  exact ⟨rfl, rfl, q⟩
theorem Update_in {f mb x : Nat} (hv : vld (N : Int) L U) (hx : x < N) (hG : L.length ≤ 64) (h0 : Sub s0 s) (hf0 : s0 f = none) (hm0 : s0 mb = none) (hf : s f = some (false, .cells 82 (fibC (N : Int) (x : Int) lv .nilslc mb))) (hm : s mb = some (false, .map [] 0))
    (hl : SlR 3 s lv (L.map rwR)) (hlf : ∀ b o n c, lv = .slc b o n c 3 → L.map rwR ≠ [] → b ≠ f ∧ b ≠ mb) (hu : Sl s0 uv (U.map AVal.bool))
    (hK : ∀ s', Sub s0 s' → FibR s' f N (L.map toL) U x → K (.int .i64 0) s') : wpCall Try.prog XX 22 [.ptr f 0, uv] K s := by
  have hN := hv.1
  obtain ⟨z, hG2, hN32, hC, hrw⟩ := vld.gok hv
  refine vc_fib_Fib_Update_in (valid_in hf (by omega) ?_)
  have c3 : (fibC (N : Int) (x : Int) lv .nilslc mb)[3]? = some lv := rfl
  have c0 : (fibC (N : Int) (x : Int) lv .nilslc mb)[0]? = some (.int .i64 (N : Int)) := rfl
  have c1 : (fibC (N : Int) (x : Int) lv .nilslc mb)[1]? = some (.int .i64 (x : Int)) := rfl
  have eul : U.length = L.length := hv.2.2.2.1
  simp only [unary_not, Bool.not_true, boolK_false, (hu.sub h0).len, List.length_map, nilCheck_ptr, addOff_ptr, Nat.zero_add, rd1_mk hf, c3, hl.len, eqV_int, negB_mk, eul, beq_self_eq_true, Bool.true_bne, optK_mk]
  refine wr1_step hf (show 4 < (fibC (N : Int) (x : Int) lv .nilslc mb).length from by show 4 < 6; omega) rfl fun s1 h1 u1 => ?_
  have h1 : s1 f = some (false, .cells 82 (fibC (N : Int) (x : Int) lv .nilslc mb)) := h1
  have fm : mb ≠ f := fun e => by rw [e, hf] at hm; cases hm
  have m1 : s1 mb = some (false, .map [] 0) := by rw [u1 _ fm]; exact hm
  have h01 : Sub s0 s1 := fun i e hi => by
    rw [u1 _ (fun q => by rw [q, hf0] at hi; cases hi)]
    exact h0 _ _ hi
  have hl1 : SlR 3 s1 lv (L.map rwR) := hl.keep (fp := fun b => b = f) (u1.keep rfl) fun b o n c e hne => (hlf b o n c e hne).1
  refine new_step fun rb s2 hrb h2 u2 => ?_
  have sub2 := u2.sub hrb
  have rf : rb ≠ f := fun e => by rw [e, h1] at hrb; cases hrb
  have rm : rb ≠ mb := fun e => by rw [e, m1] at hrb; cases hrb
  have f2 := sub2 _ _ h1
  have m2 := sub2 _ _ m1
  simp only [rd1_mk f2, c3, c0, c1, optK_mk]
  refine sOf_in (hl1.sub sub2) (by omega) ((hu.sub h01).sub sub2) fun ov s3 R en hRk => ?_
  have sub3 := en.sub
  have hRk : R.map kyE = ofP N (L.map toL) U x N := by
    rw [hRk]
    unfold ofEn
    rw [if_pos ⟨hv, by omega, by omega⟩, Int.toNat_natCast, Int.toNat_natCast]
  have hRn := hRk.trans (ofP_all (N := N) (G := L.map toL) (U := U) (x := x))
  have hRlen : R.length = (ndL N (L.map toL) U x).length := by have := congrArg List.length hRn; simpa using this
  obtain ⟨sb, kb1, kb2, acc, hrows⟩ := en.ex
  have slo := acc.sl
  have f3 := sub3 _ _ f2
  have m3 := sub3 _ _ m2
  have r3 := sub3 _ _ h2
  -- what stays as it is
  have hB : ∃ sB : Heap, sB = fun i => if i = f ∨ i = rb ∨ i = mb then none else s3 i := ⟨_, rfl⟩
  obtain ⟨sB, hB⟩ := hB
  have bOut : ∀ {i}, s2 i = none ∨ ¬ (i = f ∨ i = rb ∨ i = mb) → sB i = s3 i := fun {i} h => by
    rw [hB]
    show (if i = f ∨ i = rb ∨ i = mb then none else s3 i) = _
    rw [if_neg]
    rcases h with h | h
    · rintro (q | q | q)
      · rw [q, f2] at h; cases h
      · rw [q, h2] at h; cases h
      · rw [q, m2] at h; cases h
    · exact h
  have hBs : Sub sB s3 := fun i e hi => by
    rw [hB] at hi
    have hi : (if i = f ∨ i = rb ∨ i = mb then none else s3 i) = some e := hi
    split at hi
    · cases hi
    · exact hi
  have slB : SlR 2 sB ov (R.map enR) := by
    refine ⟨acc.1, ?_⟩
    rcases acc.2 with q | ⟨b, q1, q2, q3⟩
    · exact .inl q
    · have := AccR.sl (s := sB) (s0 := sb) (elem := 86) ⟨acc.1, .inr ⟨b, q1, q2, by rw [bOut (.inl (fresh_of kb1 q1))]; exact q3⟩⟩
      exact this.2
  have slW : ∀ y ∈ R, Sl sB y.2.1 (iz y.2.2) := fun y hy => by
    rcases hrows y hy with ⟨q1, q2⟩ | ⟨b, q1, q2, q3⟩
    · exact .inl ⟨q1, q2⟩
    · have := Acc.sl (s := sB) (s0 := s2) (elem := 3) (v := y.2.1) (l := iz y.2.2) (.inr ⟨b, q1, q2, by rw [bOut (.inl q1)]; exact kb2 _ _ q3⟩)
      exact this
  have rows : ∀ {k n : Nat}, (ndL N (L.map toL) U x)[k]? = some n → ∃ wv, R[k]? = some (lbk n, wv, lnk N (L.map toL) U x n) := fun {k n} hk => by
    have := congrArg (fun l => l[k]?) hRn
    simp only [List.getElem?_map, hk, Option.map_some] at this
    cases hR : R[k]? with
    | none => rw [hR] at this; cases this
    | some y =>
      rw [hR] at this
      obtain ⟨a, b, c⟩ := y
      have this : some (a, c) = some (lbk n, lnk N (L.map toL) U x n) := this
      cases this
      exact ⟨b, rfl⟩
  have hGL : (L.map toL).length ≤ 64 := by rw [List.length_map]; exact hG
  have hNl := ndL_len (N := N) (G := L.map toL) (U := U) (x := x)
  have start : UpI sB s3 f rb mb N (L.map toL) U x lv R 0 := ⟨⟨.nilslc, [], sB, rfl, .refl _, hBs, by rw [hB]; simp, by rw [hB]; simp, by rw [hB]; simp, f3, r3, m3, ⟨(fun r h => by cases h), .inl ⟨rfl, rfl⟩⟩, fun p hp => by cases hp⟩⟩
  simp only [slo.len, List.length_map, optK_mk]
  refine ⟨fun ys t m => ∃ k : Nat, ys = [.int .i64 k] ∧ k ≤ R.length ∧ m = R.length - k ∧ UpI sB t f rb mb N (L.map toL) U x lv R k, ⟨_, 0, rfl, by omega, rfl, start⟩, ?_⟩
  rintro g t m ⟨k, hy, hk, rfl, up⟩
  simp only [List.cons.injEq, and_true] at hy
  rw [hy]
  simp only [vc_fib_Fib_Update_l0, arith_lss, optK_mk]
  refine boolK_mk (fun hlt => ?_) (fun hge => ?_)
  · have hlt : k < R.length := by have := of_decide_eq_true hlt; omega
    obtain ⟨n, hn⟩ : ∃ n, (ndL N (L.map toL) U x)[k]? = some n := ⟨_, List.getElem?_eq_getElem (by omega)⟩
    obtain ⟨wv, hR⟩ := rows hn
    have hBt : Sub sB t := by
      obtain ⟨ev, ws, H, _, q1, q2, _⟩ := up.ex
      exact q1.trans q2
    obtain ⟨pb, po, e1, e2, _⟩ := (slB.sub hBt).get (i := k) (r := enR (lbk n, wv, lnk N (L.map toL) U x n)) (by rw [List.getElem?_map, hR]; rfl)
    simp only [e1, e2, optK_mk]
    refine step_in (J := fun t' => vc_fib_Fib_Update_j1 XX (.int .i64 (k : Int)) _ _ K t') up hN32 hGL hn hR (slW _ (List.mem_of_getElem? hR)) fun t' up' => ?_
    show vc_fib_Fib_Update_j1 XX (.int .i64 (k : Int)) _ _ K t'
    simp only [vc_fib_Fib_Update_j1, arith_add, optK_mk]
    rw [wrap64 (by omega) (by omega)]
    exact ⟨_, by omega, k + 1, rfl, by omega, rfl, up'⟩
  · have hge : k = R.length := by have := of_decide_eq_false hge; omega
    subst hge
    obtain ⟨ev, ws, H, hws, q1, q2, hHf, hHr, hHm, tf, tr, tm, ta, hwh⟩ := up.ex
    have hk2 : (ndL N (L.map toL) U x).take R.length = ndL N (L.map toL) U x := by rw [hRlen, List.take_length]
    rw [hk2] at hws tr
    rw [List.take_length] at ta
    have c5 : (fibC (N : Int) (x : Int) lv ev mb)[5]? = some (.map mb) := rfl
    have done : FibR t f N (L.map toL) U x := ⟨⟨false, lv, ev, mb, R, false, ws.length, ws, tf, ta.sl, hRk, fun y hy => ((slW y hy).sub q1).sub q2, tm, hws, fun p hp => ((hwh p hp).sub q2).rd⟩⟩
    have h0B : Sub s0 sB := fun i e hi => by
      have h2i := sub2 _ _ (h01 _ _ hi)
      have ir : i ≠ rb := fun q => by
        rw [q] at hi
        rw [h01 _ _ hi] at hrb; cases hrb
      rw [bOut (.inr ?_)]
      · exact sub3 _ _ h2i
      · rintro (q | q | q)
        · rw [q, hf0] at hi; cases hi
        · exact ir q
        · rw [q, hm0] at hi; cases hi
    have fin := hK t (h0B.trans (q1.trans q2)) done
    simp only [nilCheck_ptr, addOff_ptr, Nat.zero_add, rd1_mk tf, c5, optK_mk]
    unfold iterK
    simp only [tm]
    intro r hr
    have rmb : r ≠ mb := fun e => by rw [e, tm] at hr; cases hr
    have rrb : r ≠ rb := fun e => by rw [e, tr] at hr; cases hr
    have sr : hset t r (false, .iter (some mb) ws.length [] ws.length) r = some (false, .iter (some mb) ws.length [] ws.length) := by simp [hset]
    have sm : hset t r (false, .iter (some mb) ws.length [] ws.length) mb = some (false, .map (mE 0 ws) ws.length) := by
      rw [hset_other (Ne.symm rmb)]
      exact tm
    have hd : hdel (hset t r (false, .iter (some mb) ws.length [] ws.length)) r = t := by
      funext i
      unfold hdel hset
      by_cases q : i = r
      · rw [if_pos q, q, hr]
      · rw [if_neg q, if_neg q]
    have wl : ws.length ≤ 32 := by
      have := congrArg List.length hws
      rw [List.length_map] at this
      omega
    refine optK_of (a := (r, some mb, ws.length, ws.length, mE 0 ws)) ?_ ?_
    · unfold iterOf
      simp only [sr, sm]
      have a1 : Nat.ble ws.length ws.length = true := Nat.ble_eq_true_of_le (Nat.le_refl _)
      have a2 : allOld ws.length (mE 0 ws) = true := mE_old (by omega)
      have a3 : Nat.blt (mE 0 ws).length 900 = true := by rw [Nat.blt_eq, mE_len]; omega
      simp only [a1, a2, a3, Bool.and_self, cond_true]
    refine ⟨shS, shT, fun e he sn hsn g hg => ?_, fun g hg => ?_, fun g => ?_⟩
    · simp only [boolK_true, hd]
      obtain ⟨p, hp, ek, ev', _⟩ := mE_mem he
      have hpn : p.1 ∈ ndL N (L.map toL) U x := by rw [← hws]; exact List.mem_map.2 ⟨p, hp, rfl⟩
      have hp32 : p.1 < 32 := by have := (mem_ndL.1 hpn).1; omega
      have fr : frz (hset t r (true, .iter (some mb) ws.length sn ws.length)) r = some (true, .iter (some mb) ws.length sn ws.length) := by
        refine frz_some (t := true) ?_
        simp [hset]
      have fmb : frz (hset t r (true, .iter (some mb) ws.length sn ws.length)) mb = some (true, .map (mE 0 ws) ws.length) := by
        refine frz_some (t := false) ?_
        rw [hset_other (Ne.symm rmb)]
        exact tm
      have frb : frz (hset t r (true, .iter (some mb) ws.length sn ws.length)) rb = some (true, .cells 90 (rchL (ndL N (L.map toL) U x))) := by
        refine frz_some (t := false) ?_
        rw [hset_other (Ne.symm rrb)]
        exact tr
      have hent : entD (frz (hset t r (true, .iter (some mb) ws.length sn ws.length))) (.ptr r 0) = some (.tup [e.key, e.val]) := by
        unfold entD
        simp only [fr, hsn, fmb, Nat.beq_refl, cond_true, mE_born he]
      have x0 : extractA (.tup [e.key, e.val]) 0 = some e.key := rfl
      have x1 : extractA (.tup [e.key, e.val]) 1 = some e.val := rfl
      have hrd : rd1 (frz (hset t r (true, .iter (some mb) ws.length sn ws.length))) (.ptr rb p.1) = some (.bool true) := by
        rw [rd1_mk frb, rchL_get hp32, decide_eq_true hpn]
      simp only [hent, x0, x1, optK_mk]
      rw [ek, ev']
      simp only [iaddrA_ok hp32, hrd, unary_not, Bool.not_true, boolK_false, optK_mk]
      obtain ⟨l1, l2⟩ := undefs hg
      refine ⟨by trivial, ?_⟩
      unfold shS
      simp only [shEs, l1, l2, Bool.and_true]
      rfl
    · simp only [boolK_false]
      refine ⟨by trivial, fun hne => ?_⟩
      rcases hg with ⟨q, _⟩ | ⟨_, q⟩
      · exact absurd q hne
      · exact shS_T q
    · rw [hd]
      exact fin
end Go.AM.FB
namespace Go.AM.FB
open Go Go.Proofs
variable {K : AVal → Heap → Prop} {s s' s0 t : Heap} {lv uv v y w : AVal} {N : Nat} {G : List Lnk} {U : List Bool} {d : Nat → Int} {L : List RLk}
/-! ### find, Lookup, Reach -/
theorem half_mk {w : Nat} (h : w ≤ 1000000) : convI .u64 (.int .i64 (w : Int)) = some (.int .u64 (w : Int)) ∧ shiftV .shr (.int .u64 (w : Int)) (.int .u64 1) = some (.int .u64 ((w / 2 : Nat) : Int)) ∧ convI .i64 (.int .u64 ((w / 2 : Nat) : Int)) = some (.int .i64 ((w / 2 : Nat) : Int)) := by
  refine ⟨?_, ?_, ?_⟩
  · show some (AVal.int .u64 (wrapK .u64 (w : Int))) = _
    rw [show wrapK .u64 (w : Int) = w by simp only [wrapK]; rw [wrapM_eq _ _ _ (by omega) (by omega)]; split <;> omega]
  · show frc ((w : Int).fdiv ((2 ^ (min 1 (IntKind.bits .u64)) : Nat) : Int)) (fun n => some (AVal.int .u64 n)) = _
    rw [frc_eq, Nat.min_eq_left (show 1 ≤ IntKind.bits .u64 by decide), Int.fdiv_eq_ediv_of_nonneg _ (Int.natCast_nonneg _), ← Int.natCast_ediv]
  · show some (AVal.int .i64 (wrapK .i64 ((w / 2 : Nat) : Int))) = _
    rw [show wrapK .i64 ((w / 2 : Nat) : Int) = ((w / 2 : Nat) : Int) by simp only [wrapK]; rw [wrapM_eq _ _ _ (by omega) (by omega)]; split <;> omega]
theorem cmp_in {a b : Int} (hK : K (.int .i64 (if a < b then -1 else if b < a then 1 else 0)) s) : wpCall Try.prog XX 82 [.int .u32 a, .int .u32 b] K s := by
  refine vc_cmp_Compare_api_IP__in (vc_cmp_isNaN_api_IP__in ?_)
  simp only [vc_cmp_isNaN_api_IP_, eqV_int, negB_mk, beq_self_eq_true, Bool.true_bne, Bool.not_true, optK_mk]
  refine vc_cmp_isNaN_api_IP__in ?_
  simp only [vc_cmp_isNaN_api_IP_, eqV_int, negB_mk, beq_self_eq_true, Bool.true_bne, Bool.not_true, optK_mk, boolK_false, arith_lss, arith_gtr]
  by_cases c : a < b
  · rw [if_pos c] at hK
    rw [decide_eq_true c, boolK_true]
    exact hK
  · rw [if_neg c] at hK
    rw [decide_eq_false c, boolK_false]
    by_cases c2 : b < a
    · rw [if_pos c2] at hK
      rw [decide_eq_true c2, boolK_true]
      exact hK
    · rw [if_neg c2] at hK
      rw [decide_eq_false c2, boolK_false]
      exact hK
theorem ecmp_in {a b : Int} {wv : AVal} (hw : wv.one = true) (hK : ∀ s', Sub s s' → K (.int .i64 (if a < b then -1 else if b < a then 1 else 0)) s') : funK Try.prog XX (.fn (.func 69) [] []) [.agg [.int .u32 a, wv], .int .u32 b] K s := by
  refine fn_in (k := 69) (first := []) (cap := []) (by kernel_rfl) ?_
  show wpCall Try.prog XX 69 [.agg [.int .u32 a, wv], .int .u32 b] K s
  refine vc_fib_entry_compare_in ⟨?_, new_step fun b s1 hb h1 u1 => ?_⟩
  · show ((AVal.int .u32 a).one && (wv.one && true)) = true
    rw [hw]; rfl
  · have e0 : [AVal.int .u32 a, wv][0]? = some (.int .u32 a) := rfl
    have h1 : s1 b = some (false, .cells 89 [.int .u32 a, wv]) := h1
    simp only [addOff_ptr, Nat.zero_add, rd1_mk h1, e0, optK_mk]
    exact cmp_in (hK _ (u1.sub hb))
/-- entries that lie in order -/
def Ord (R : List EnV) : Prop := (R.map (·.1)).Pairwise (· < ·)
theorem Ord.lt {R : List EnV} (h : Ord R) {i j : Nat} {a b : EnV} (hi : R[i]? = some a) (hj : R[j]? = some b) (hij : i < j) : a.1 < b.1 := by
  unfold Ord at h
  obtain ⟨x1, x2⟩ := List.getElem?_eq_some_iff.1 hi
  obtain ⟨y1, y2⟩ := List.getElem?_eq_some_iff.1 hj
  have := List.pairwise_iff_getElem.1 h i j (by simpa using x1) (by simpa using y1) hij
  simp only [List.getElem_map, x2, y2] at this
  exact this
theorem Search_in {R : List EnV} {q : Int} {ev : AVal} (he : SlR 2 s ev (R.map enR)) (ho : Ord R) (hl : R.length ≤ 1000) (hw : ∀ y ∈ R, y.2.1.one = true)
    (hK : ∀ s' (i : Nat) (b : Bool), Sub s s' → (b = true → ∃ y, R[i]? = some y ∧ y.1 = q) → (b = false → ∀ y ∈ R, y.1 ≠ q) → K (.tup [.int .i64 (i : Int), .bool b]) s') : wpCall Try.prog XX 68 [ev, .int .u32 q, .fn (.func 69) [] []] K s := by
  refine vc_slices_BinarySearchFunc___fib_entry_fib_entry_api_IP__in ?_
  simp only [vc_slices_BinarySearchFunc___fib_entry_fib_entry_api_IP_, he.len, List.length_map, optK_mk]
  refine ⟨fun ys t m => ∃ i j : Nat, ys = [.int .i64 i, .int .i64 j] ∧ i ≤ j ∧ j ≤ R.length ∧ m = j - i ∧ Sub s t ∧ (∀ k a, R[k]? = some a → k < i → a.1 < q) ∧ ∀ k a, R[k]? = some a → j ≤ k → q ≤ a.1, ⟨_, 0, R.length, rfl, by omega, by omega, rfl, .refl s, fun k a _ h => by omega, fun k a h1 h2 => by rw [List.getElem?_eq_none h2] at h1; cases h1⟩, ?_⟩
  rintro f t m ⟨i, j, hy, hij, hj, rfl, st, hlo, hhi⟩
  simp only [List.cons.injEq, and_true] at hy
  rw [hy.1, hy.2]
  simp only [vc_slices_BinarySearchFunc___fib_entry_fib_entry_api_IP__l0, arith_lss, optK_mk]
  refine boolK_mk (fun hlt => ?_) (fun hge => ?_)
  · have hlt : i < j := by have := of_decide_eq_true hlt; omega
    have a1 : arithV .add (.int .i64 (i : Int)) (.int .i64 (j : Int)) = some (.int .i64 ((i + j : Nat) : Int)) := by
      rw [arith_add, wrap64 (by omega) (by omega)]
      congr 2
    obtain ⟨g1, g2, g3⟩ := half_mk (w := i + j) (by omega)
    have hh : (i + j) / 2 < R.length := by omega
    obtain ⟨y, hy⟩ : ∃ y, R[(i + j) / 2]? = some y := ⟨_, List.getElem?_eq_getElem hh⟩
    obtain ⟨pb, po, e1, e2, _⟩ := (he.sub st).get (i := (i + j) / 2) (r := enR y) (by rw [List.getElem?_map, hy]; rfl)
    simp only [a1, g1, g2, g3, e1, e2, optK_mk]
    refine ecmp_in (a := y.1) (hw y (List.mem_of_getElem? hy)) fun t' st' => ?_
    simp only [arith_lss, optK_mk]
    refine boolK_mk (fun c => ?_) (fun c => ?_)
    · have c : y.1 < q := by
        have c := of_decide_eq_true c
        by_cases h : y.1 < q
        · exact h
        · rw [if_neg h] at c
          split at c <;> omega
      simp only [arith_add, optK_mk]
      rw [wrap64 (by omega) (by omega)]
      refine ⟨_, ?_, (i + j) / 2 + 1, j, rfl, by omega, hj, rfl, st.trans st', fun k a hk hki => ?_, hhi⟩
      · omega
      · by_cases e : k = (i + j) / 2
        · rw [e, hy] at hk; cases hk; exact c
        · have := ho.lt hk hy (by omega)
          omega
    · have c : ¬ y.1 < q := fun h => by
        have c := of_decide_eq_false c
        rw [if_pos h] at c
        omega
      refine ⟨_, ?_, i, (i + j) / 2, rfl, by omega, by omega, rfl, st.trans st', hlo, fun k a hk hki => ?_⟩
      · omega
      · by_cases e : k = (i + j) / 2
        · rw [e, hy] at hk; cases hk; omega
        · have := ho.lt hy hk (by omega)
          omega
  · have hge : i = j := by have := of_decide_eq_false hge; omega
    subst hge
    refine boolK_mk (fun c => ?_) (fun c => ?_)
    · have c' : i < R.length := by have := of_decide_eq_true c; omega
      obtain ⟨y, hy⟩ : ∃ y, R[i]? = some y := ⟨_, List.getElem?_eq_getElem c'⟩
      obtain ⟨pb, po, e1, e2, _⟩ := (he.sub st).get (i := i) (r := enR y) (by rw [List.getElem?_map, hy]; rfl)
      simp only [e1, e2, optK_mk]
      refine ecmp_in (a := y.1) (hw y (List.mem_of_getElem? hy)) fun t' st' => ?_
      rw [c]
      simp only [eqV_int, negB_mk, Bool.false_bne, optK_mk, vc_slices_BinarySearchFunc___fib_entry_fib_entry_api_IP__j1, pickV_true]
      have hq := hhi i y hy (Nat.le_refl _)
      refine hK t' i _ (st.trans st') (fun b => ⟨y, hy, ?_⟩) fun b a ha ea => ?_
      · have b := eq_of_beq b
        by_cases h : q < y.1
        · rw [if_neg (by omega), if_pos h] at b; omega
        · omega
      · obtain ⟨k, hk⟩ := List.mem_iff_getElem?.1 ha
        have hki : k = i := by
          by_cases e : k < i
          · have := hlo k a hk e; omega
          · by_cases e2 : i < k
            · have := ho.lt hy hk e2; omega
            · omega
        rw [hki, hy] at hk
        cases hk
        rw [if_neg (by omega), if_neg (by omega)] at b
        simp at b
    · have c' : i = R.length := by have := of_decide_eq_false c; omega
      rw [c]
      simp only [vc_slices_BinarySearchFunc___fib_entry_fib_entry_api_IP__j1, pickV_false, optK_mk]
      refine hK t i _ st (fun b => by cases b) fun _ a ha ea => ?_
      obtain ⟨k, hk⟩ := List.mem_iff_getElem?.1 ha
      have := hlo k a hk (by have := (List.getElem?_eq_some_iff.1 hk).1; omega)
      omega
end Go.AM.FB
namespace Go.AM.FB
open Go Go.Proofs
variable {K : AVal → Heap → Prop} {s s' s0 t : Heap} {lv uv v y w : AVal} {N : Nat} {G : List Lnk} {U : List Bool} {d : Nat → Int} {L : List RLk}
/-- what a table has, for one who reads it -/
theorem FibR.ord {R : List EnV} {x : Nat} (hR : R.map kyE = ofP N G U x N) : Ord R ∧ R.map (·.1) = (ndL N G U x).map lbk := by
  have e1 : R.map (·.1) = (R.map kyE).map (·.1) := by rw [List.map_map]; rfl
  have e2 : R.map (·.1) = (ndL N G U x).map lbk := by rw [e1, hR, ofP_all, List.map_map]; rfl
  refine ⟨?_, e2⟩
  unfold Ord
  rw [e2, List.pairwise_map]
  exact ndL_asc.imp fun h => by unfold lbk; omega
theorem lbk_inj {a b : Nat} (h : lbk a = lbk b) : a = b := by unfold lbk at h; omega
theorem FibR.row {R : List EnV} {x : Nat} (hR : R.map kyE = ofP N G U x N) {y : EnV} (hy : y ∈ R) : ∃ n ∈ ndL N G U x, y.1 = lbk n ∧ y.2.2 = lnk N G U x n := by
  have : kyE y ∈ R.map kyE := List.mem_map.2 ⟨y, hy, rfl⟩
  rw [hR, ofP_all] at this
  obtain ⟨n, hn, e⟩ := List.mem_map.1 this
  obtain ⟨a, b, c⟩ := y
  have e : (lbk n, lnk N G U x n) = (a, c) := e
  cases e
  exact ⟨n, hn, rfl, rfl⟩
theorem FibR.has {R : List EnV} {x n : Nat} (hR : R.map kyE = ofP N G U x N) (hn : n ∈ ndL N G U x) : ∃ y ∈ R, y.1 = lbk n := by
  have : lbk n ∈ R.map (·.1) := by rw [(FibR.ord hR).2]; exact List.mem_map.2 ⟨n, hn, rfl⟩
  obtain ⟨y, hy, e⟩ := List.mem_map.1 this
  exact ⟨y, hy, e⟩
theorem find_in {f x : Nat} {q : Int} (h : FibR s f N G U x) (hN : N ≤ 32)
    (hK : ∀ s' (a : Int) (wv : AVal) (b : Bool), Sub s s' → (b = true → ∃ n ∈ ndL N G U x, q = lbk n ∧ Sl s wv (iz (lnk N G U x n))) → (b = false → wv = .nilslc ∧ ∀ n ∈ ndL N G U x, q ≠ lbk n) → wv.one = true → K (.tup [.agg [.int .u32 a, wv], .bool b]) s') : wpCall Try.prog XX 45 [.ptr f 0, .int .u32 q] K s := by
  obtain ⟨tf, lv, ev, mb, R, tm, c, ws, h1, h2, h3, h4, h5, h6, h7⟩ := h.ex
  have hRl : R.length ≤ 32 := by
    have := congrArg List.length h3
    rw [List.length_map] at this
    have := ofP_len (N := N) (G := G) (U := U) (x := x) (k := N)
    omega
  refine vc_fib_Fib_find_in (new_step fun b0 s1 hb0 hb1 u1 => ?_)
  have sub1 := u1.sub hb0
  have f1 := sub1 _ _ h1
  have c4 : (fibC (N : Int) (x : Int) lv ev mb)[4]? = some ev := rfl
  simp only [nilCheck_ptr, addOff_ptr, Nat.zero_add, rd1_mk f1, c4, optK_mk]
  refine Search_in (h2.sub sub1) (FibR.ord h3).1 (by omega) (fun y hy => (h4 y hy).one) fun s2 i b sub2 hyes hno => ?_
  have b2 := sub2 _ _ hb1
  have x0 : extractA (.tup [.int .i64 (i : Int), .bool b]) 0 = some (.int .i64 (i : Int)) := rfl
  have x1 : extractA (.tup [.int .i64 (i : Int), .bool b]) 1 = some (.bool b) := rfl
  simp only [x0, x1, unary_not, optK_mk]
  cases b with
  | false =>
    simp only [Bool.not_false, boolK_true]
    refine optK_of (a := [.int .u32 0, .nilslc]) rfl (wrAgg_step b2 rfl rfl rfl fun s3 h3' u3 => ?_)
    refine optK_of (rdN_all h3' rfl) ?_
    refine hK s3 0 .nilslc false (sub_upto (sub1.trans sub2) u3 hb0) (fun h => by cases h) (fun _ => ⟨rfl, fun n hn e => ?_⟩) rfl
    obtain ⟨y, hy, e2⟩ := FibR.has h3 hn
    exact hno rfl y hy (by rw [e2, e])
  | true =>
    obtain ⟨y, hy, eq⟩ := hyes rfl
    obtain ⟨n, hn, e1, e2⟩ := FibR.row h3 (List.mem_of_getElem? hy)
    have f2 := sub2 _ _ f1
    have hone := (h4 y (List.mem_of_getElem? hy)).one
    simp only [Bool.not_true, boolK_false, rd1_mk f2, c4, optK_mk]
    obtain ⟨pb, po, g1, g2, _⟩ := ((h2.sub sub1).sub sub2).get (i := i) (r := enR y) (by rw [List.getElem?_map, hy]; rfl)
    simp only [g1, g2, optK_mk]
    refine wrAgg_step b2 rfl rfl ?_ fun s3 h3' u3 => ?_
    · show ((AVal.int .u32 y.1).one && (y.2.1.one && true)) = true
      rw [hone]; rfl
    refine optK_of (rdN_all h3' rfl) ?_
    exact hK s3 y.1 y.2.1 true (sub_upto (sub1.trans sub2) u3 hb0) (fun _ => ⟨n, hn, by rw [← eq, e1], by rw [← e2]; exact h4 y (List.mem_of_getElem? hy)⟩) (fun h => by cases h) hone
theorem Lookup_in {f x : Nat} {q : Int} (h : FibR s f N G U x) (hN : N ≤ 32) (hN0 : 0 < N) (hG : G.length ≤ 1000)
    (hK : ∀ s' w l, Sub s s' → Sl s' w (iz l) → l.length ≤ 1000 → (∀ n, n < N → q = lbk n → l = lnk N G U x n) → (l ≠ [] ↔ ∃ n ∈ ndL N G U x, q = lbk n) → K w s') : wpCall Try.prog XX 25 [.ptr f 0, .int .u32 q] K s := by
  obtain ⟨tf, lv, ev, mb, R, tm, c, ws, h1, _⟩ := h.ex
  refine vc_fib_Fib_Lookup_in (valid_in h1 (by omega) ?_)
  simp only [unary_not, Bool.not_true, boolK_false, optK_mk]
  refine find_in h hN fun s1 a wv b sub1 hyes hno hone => ?_
  have x0 : extractA (.tup [.agg [.int .u32 a, wv], .bool b]) 0 = some (.agg [.int .u32 a, wv]) := rfl
  have x1 : extractA (.tup [.agg [.int .u32 a, wv], .bool b]) 1 = some (.bool b) := rfl
  simp only [x0, x1, optK_mk]
  refine new_step fun b2 s2 hb2 h2 u2 => wrAgg_step h2 rfl rfl ?_ fun s3 h3 u3 => ?_
  · show ((AVal.int .u32 a).one && (wv.one && true)) = true
    rw [hone]; rfl
  have sub3 : Sub s s3 := sub1.trans (sub_upto (u2.sub hb2) u3 hb2)
  have e1 : [AVal.int .u32 a, wv][1]? = some wv := rfl
  simp only [addOff_ptr, Nat.zero_add, rd1_mk h3, e1, optK_mk]
  have go : ∀ l : List Nat, Sl s wv (iz l) → l.length ≤ 1000 → (∀ n, n < N → q = lbk n → l = lnk N G U x n) → (l ≠ [] ↔ ∃ n ∈ ndL N G U x, q = lbk n) → wpCall Try.prog XX 46 [wv] (fun v_12 s_13 => K v_12 s_13) s3 := fun l hl hlen k1 k2 => by
    refine WH.Clone_in (l := l.map fun (n : Nat) => (n : Int)) ?_ (by rw [List.length_map]; omega) fun v' s4 sub4 sl4 _ => ?_
    · show Sl s3 wv _
      rw [← iz_ints]; exact hl.sub sub3
    · refine hK s4 v' l (sub3.trans sub4) ?_ hlen k1 k2
      rw [iz_ints]; exact sl4
  cases b with
  | false =>
    obtain ⟨e, hq⟩ := hno rfl
    refine go [] (by rw [e]; exact .inl ⟨rfl, rfl⟩) (by simp) (fun n hn e2 => ?_) ⟨fun h => absurd rfl h, fun ⟨n, hn, e2⟩ => absurd e2 (hq n hn)⟩
    by_cases c : lnk N G U x n = []
    · exact c.symm
    · exact absurd e2 (hq n (mem_ndL.2 ⟨hn, c⟩))
  | true =>
    obtain ⟨n, hn, e, hs⟩ := hyes rfl
    refine go _ hs (Nat.le_trans lnk_len hG) (fun m hm e2 => by rw [lbk_inj (e.symm.trans e2)]) ⟨fun _ => ⟨n, hn, e⟩, fun _ => (mem_ndL.1 hn).2⟩
theorem app_put {elem : TypeId} {b k n : Nat} {l : List AVal} {a yv : AVal} (hb : s b = some (false, .cells elem l)) (hn : l.length = n) (hk : k < n) (hy : Sl s yv [a]) (ha : a.one = true)
    (hK : ∀ s', s' b = some (false, .cells elem (l.set k a)) → Upto b s s' → K (.slc b 0 (k + 1) (some n) 1) s') : appK elem 1 (.slc b 0 k (some n) 1) yv K s := by
  refine optK_of hy.rd (optK_of hy.len ⟨rfl, ?_⟩)
  have e0 : Nat.ble (k + 1) n = true := Nat.ble_eq_true_of_le hk
  simp only [List.length_singleton, e0, cond_true]
  have e1 : setRange l k [a] = l.set k a := by
    unfold setRange
    rw [List.set_eq_take_append_cons_drop, if_pos (by omega)]
    simp
  have e2 : wrN s (.ptr b (0 + k * 1)) [a] = some (hset s b (false, .cells elem (l.set k a))) := by
    have e3 : Nat.ble (k + 1) l.length = true := Nat.ble_eq_true_of_le (by omega)
    rw [Nat.zero_add, Nat.mul_one]
    unfold wrN
    simp only [hb, List.length_singleton, e3, e1, allOne, ha, Bool.and_self, cond_true]
  exact optK_of e2 (hK _ (by simp [hset]) fun i hi => by simp [hset, hi])
theorem Reach_in {f x : Nat} (h : FibR s f N G U x) (hN : N ≤ 32) (hN0 : 0 < N) (hK : ∀ s' w, Sub s s' → Sl s' w ((ndL N G U x).map fun n => .int .u32 (lbk n)) → K w s') : wpCall Try.prog XX 19 [.ptr f 0] K s := by
  obtain ⟨tf, lv, ev, mb, R, tm, c, ws, h1, h2, h3, h4, h5, h6, h7⟩ := h.ex
  have eR := (FibR.ord h3).2
  have hRl : R.length = (ndL N G U x).length := by have := congrArg List.length eR; simpa using this
  have hNl := ndL_len (N := N) (G := G) (U := U) (x := x)
  refine vc_fib_Fib_Reach_in (valid_in h1 (by omega) ?_)
  have c4 : (fibC (N : Int) (x : Int) lv ev mb)[4]? = some ev := rfl
  have z0 : nat? (.int .i64 0) = some 0 := nat?_mk (n := 0)
  simp only [unary_not, Bool.not_true, boolK_false, nilCheck_ptr, addOff_ptr, Nat.zero_add, rd1_mk h1, c4, h2.len, List.length_map, z0, nat?_mk, optK_mk]
  refine ⟨⟨Nat.zero_le _, by omega⟩, new_step fun b s1 hb hb1 u1 => ?_⟩
  have sub1 := u1.sub hb
  simp only [rd1_mk (sub1 _ _ h1), c4, h2.len, List.length_map, optK_mk]
  refine ⟨fun ys t m => ∃ (k : Nat) (l : List AVal), ys = [.slc b 0 k (some R.length) 1, .int .i64 k] ∧ k ≤ R.length ∧ m = R.length - k ∧ Sub s t ∧ t b = some (false, .cells 45 l) ∧ l.length = R.length ∧ ∀ i n, i < k → (ndL N G U x)[i]? = some n → l[i]? = some (.int .u32 (lbk n)), ⟨_, 0, _, rfl, by omega, rfl, sub1, hb1, by rw [repl_one]; simp, fun i n h => by omega⟩, ?_⟩
  rintro g t m ⟨k, l, hy, hk, rfl, st, tb, ll, hl⟩
  simp only [List.cons.injEq, and_true] at hy
  rw [hy.1, hy.2]
  simp only [vc_fib_Fib_Reach_l0, arith_lss, optK_mk]
  refine boolK_mk (fun hlt => ?_) (fun hge => ?_)
  · have hlt : k < R.length := by have := of_decide_eq_true hlt; omega
    obtain ⟨y, hy⟩ : ∃ y, R[k]? = some y := ⟨_, List.getElem?_eq_getElem hlt⟩
    obtain ⟨n, hn⟩ : ∃ n, (ndL N G U x)[k]? = some n := ⟨_, List.getElem?_eq_getElem (by omega)⟩
    have eyn : y.1 = lbk n := by
      have := congrArg (fun l => l[k]?) eR
      simp only [List.getElem?_map, hy, hn, Option.map_some] at this
      exact Option.some.inj this
    have hone := (h4 y (List.mem_of_getElem? hy)).one
    obtain ⟨pb, po, g1, g2, _⟩ := (h2.sub st).get (i := k) (r := enR y) (by rw [List.getElem?_map, hy]; rfl)
    simp only [g1, g2, optK_mk]
    refine new_step fun b2 t2 hb2 h2' u2 => wrAgg_step h2' rfl rfl ?_ fun t3 h3' u3 => ?_
    · show ((AVal.int .u32 y.1).one && (y.2.1.one && true)) = true
      rw [hone]; rfl
    have st3 : Sub t t3 := sub_upto (u2.sub hb2) u3 hb2
    have h3' : t3 b2 = some (false, .cells 89 (enR y)) := h3'
    have e0 : (enR y)[0]? = some (.int .u32 y.1) := rfl
    simp only [addOff_ptr, Nat.zero_add, rd1_mk h3', e0, optK_mk]
    refine lit1_step rfl rfl fun b6 t6 hb6 h6' u6 => ?_
    have st6 := st3.trans (u6.sub hb6)
    have tb6 := st6 _ _ tb
    refine app_put tb6 ll hlt (Sl.mk h6' rfl (by simp)) rfl fun t7 h7' u7 => ?_
    simp only [arith_add, optK_mk]
    rw [wrap64 (by omega) (by omega)]
    refine ⟨_, by omega, k + 1, _, rfl, by omega, rfl, fun i e hi => ?_, h7', by rw [List.length_set]; exact ll, fun i m hi hm => ?_⟩
    · have hib : i ≠ b := fun q => by rw [q, hb] at hi; cases hi
      rw [u7 _ hib]
      exact st6 _ _ (st _ _ hi)
    · rw [List.getElem?_set]
      by_cases e : k = i
      · subst e
        rw [hn] at hm
        cases hm
        rw [if_pos rfl, if_pos (by omega), eyn]
      · rw [if_neg e]
        exact hl i m (by omega) hm
  · have hge : k = R.length := by have := of_decide_eq_false hge; omega
    subst hge
    refine hK t _ st (.inr ⟨b, 0, some R.length, by rw [List.length_map, hRl], fun c e => by cases e; rw [List.length_map]; omega, fun _ => ⟨false, 45, l, tb, by rw [List.length_map]; omega, fun i hi => ?_⟩⟩)
    rw [List.length_map] at hi
    rw [Nat.zero_add, List.getElem?_map, List.getElem?_eq_getElem hi]
    exact hl i _ (by omega) (List.getElem?_eq_getElem hi)
end Go.AM.FB
set_option linter.unusedVariables false
namespace Go.AM.FB
open Go Go.Proofs
variable {K : AVal → Heap → Prop} {s s' s0 t : Heap} {lv uv v y w : AVal} {N : Nat} {G : List Lnk} {U : List Bool} {d : Nat → Int} {L : List RLk}
/-! ### the tables of all nodes -/
theorem Pick_in {p : Int} (hp : -9223372036854775808 ≤ p ∧ p ≤ 9223372036854775807) (hN : 1 ≤ N) (hN2 : N ≤ 1000) (hK : ∀ r : Nat, r < N → K (.int .i64 (r : Int)) s) : wpCall Try.prog XX 27 [.int .i64 p, .int .i64 (N : Int)] K s := by
  refine vc_leafmeshkit_Pick_in ?_
  simp only [vc_leafmeshkit_Pick, arith_rem (show (N : Int) ≠ 0 by omega), arith_lss, optK_mk]
  have h1 := Int.tmod_lt_of_pos p (show (0 : Int) < (N : Int) by omega)
  have h2 : -(N : Int) < p.tmod N := by
    have := Int.tmod_lt_of_pos (-p) (show (0 : Int) < (N : Int) by omega)
    rw [Int.neg_tmod] at this
    omega
  refine boolK_mk (fun c => ?_) (fun c => ?_)
  · have c := of_decide_eq_true c
    simp only [arith_add, optK_mk, vc_leafmeshkit_Pick_j0]
    rw [wrap64 (by omega) (by omega)]
    obtain ⟨r, hr⟩ : ∃ r : Nat, p.tmod N + N = r := ⟨(p.tmod N + N).toNat, by omega⟩
    rw [hr]
    exact hK r (by omega)
  · have c := of_decide_eq_false c
    simp only [vc_leafmeshkit_Pick_j0]
    obtain ⟨r, hr⟩ : ∃ r : Nat, p.tmod N = r := ⟨(p.tmod N).toNat, by omega⟩
    rw [hr]
    exact hK r (by omega)
def ips (l : List Int) : List AVal := l.map (AVal.int .u32)
theorem Has_in {l : List Int} {q : Int} (h : Sl s v (ips l)) (hl : l.length ≤ 1000000) (hK : K (.bool (decide (q ∈ l))) s) : wpCall Try.prog XX 31 [v, .int .u32 q] K s := by
  refine vc_leafmeshkit_Has_api_IP__in ?_
  have len : (ips l).length = l.length := by unfold ips; simp
  refine ⟨fun ys t m => ∃ i : Nat, ys = [.int .i64 i] ∧ t = s ∧ i ≤ l.length ∧ m = l.length - i ∧ q ∉ l.take i, ⟨_, 0, rfl, rfl, by omega, rfl, by simp⟩, ?_⟩
  rintro f t m ⟨i, hy, rfl, hi, rfl, hq⟩
  simp only [List.cons.injEq, and_true] at hy
  rw [hy]
  simp only [vc_leafmeshkit_Has_api_IP__l0, h.len, len, arith_lss, optK_mk]
  refine boolK_mk (fun hlt => ?_) (fun hge => ?_)
  · have hlt : i < l.length := by have := of_decide_eq_true hlt; omega
    obtain ⟨p, g1, g2⟩ := h.get (i := i) (by rw [len]; exact hlt)
    have e1 : (ips l)[i]? = some (.int .u32 l[i]) := by unfold ips; simp [hlt]
    rw [e1] at g2
    simp only [g1, g2, eqV_int, negB_mk, Bool.false_bne, optK_mk]
    refine boolK_mk (fun c => ?_) (fun c => ?_)
    · have c : l[i] = q := by simpa using c
      have : q ∈ l := by rw [← c]; exact List.getElem_mem hlt
      rw [decide_eq_true this] at hK
      exact hK
    · have c : ¬ l[i] = q := by simpa using c
      simp only [arith_add, optK_mk]
      rw [wrap64 (by omega) (by omega)]
      refine ⟨_, by omega, i + 1, rfl, by trivial, by omega, rfl, ?_⟩
      rw [List.take_add_one, List.getElem?_eq_getElem hlt]
      simp only [Option.toList_some, List.mem_append, List.mem_singleton]
      rintro (a | a)
      · exact hq a
      · exact c a.symm
  · have hge : i = l.length := by have := of_decide_eq_false hge; omega
    subst hge
    rw [List.take_length] at hq
    rw [decide_eq_false hq] at hK
    exact hK
theorem SameI_in {l : List Int} (h : Sl s v (ips l)) (h' : Sl s w (ips l)) (hl : l.length ≤ 1000000) (hK : K (.bool true) s) : wpCall Try.prog XX 23 [v, w] K s := by
  refine vc_leafmeshkit_Same_api_IP__in ?_
  have len : (ips l).length = l.length := by unfold ips; simp
  simp only [vc_leafmeshkit_Same_api_IP_, h.len, h'.len, len, eqV_int, negB_mk, Bool.true_bne, beq_self_eq_true, Bool.not_true, boolK_false, optK_mk]
  refine ⟨fun ys t m => ∃ i : Nat, ys = [.int .i64 i] ∧ t = s ∧ i ≤ l.length ∧ m = l.length - i, ⟨_, 0, rfl, rfl, by omega, rfl⟩, ?_⟩
  rintro f t m ⟨i, hy, rfl, hi, rfl⟩
  simp only [List.cons.injEq, and_true] at hy
  rw [hy]
  simp only [vc_leafmeshkit_Same_api_IP__l0, h.len, len, arith_lss, optK_mk]
  refine boolK_mk (fun hlt => ?_) (fun hge => hK)
  have hlt : i < l.length := by have := of_decide_eq_true hlt; omega
  obtain ⟨p, g1, g2⟩ := h.get (i := i) (by rw [len]; exact hlt)
  obtain ⟨q, g3, g4⟩ := h'.get (i := i) (by rw [len]; exact hlt)
  have e1 : (ips l)[i]? = some (.int .u32 l[i]) := by unfold ips; simp [hlt]
  rw [e1] at g2 g4
  simp only [g1, g2, g3, g4, eqV_int, negB_mk, Bool.true_bne, beq_self_eq_true, Bool.not_true, boolK_false, arith_add, optK_mk]
  rw [wrap64 (by omega) (by omega)]
  exact ⟨_, by omega, i + 1, rfl, by trivial, by omega, rfl⟩
abbrev netC (n : Int) (lv uv : AVal) : List AVal := [.int .i64 n, lv, uv]
theorem vld_up {n : Int} (h : vld n L (List.replicate L.length false)) (hU : U.length = L.length) : vld n L U := ⟨h.1, h.2.1, h.2.2.1, hU, h.2.2.2.2⟩
theorem tables_in {n : Int} (hn : -9223372036854775808 ≤ n ∧ n ≤ 9223372036854775807) (hl : SlR 3 s lv (L.map rwR)) (hlm : L.length ≤ 9223372036854775807) (hu : Sl s uv (U.map AVal.bool)) (hum : U.length ≤ 9223372036854775807)
    (hno : ∀ s' w, Sub s s' → lenOfA w = some 0 → K w s')
    (hK : ∀ (N : Nat) (s' : Heap) (w : AVal) (fs : List Nat), n = (N : Int) → vld (N : Int) L U → L.length ≤ 60 → Sub s s' → Sl s' w (fs.map fun f => .ptr f 0) → fs.length = N → (∀ i f, fs[i]? = some f → FibR s' f N (L.map toL) U i) → K w s') :
    wpCall Try.prog XX 26 [.agg (netC n lv uv)] K s := by
  refine vc_leafmeshlaw14_tables_in ⟨?_, new_step fun b s1 hb hb1 u1 => ?_⟩
  · show ((AVal.int .i64 n).one && (lv.one && (uv.one && true))) = true
    rw [hl.one, hu.one]; rfl
  have sub1 := u1.sub hb
  have hb1 : s1 b = some (false, .cells 63 (netC n lv uv)) := hb1
  have e0 : (netC n lv uv)[0]? = some (.int .i64 n) := rfl
  have e1 : (netC n lv uv)[1]? = some lv := rfl
  have e2 : (netC n lv uv)[2]? = some uv := rfl
  have hl1 := hl.sub sub1
  have hu1 := hu.sub sub1
  simp only [addOff_ptr, Nat.zero_add, rd1_mk hb1, e1, e2, hl1.len, hu1.len, List.length_map, arith_gtr, eqV_int, negB_mk, Bool.true_bne, optK_mk]
  by_cases c1 : (60 : Int) < (L.length : Int)
  · rw [decide_eq_true c1]
    simp only [boolK_true, vc_leafmeshlaw14_tables_j0, pickV_true, optK_mk]
    exact hno _ _ sub1 rfl
  rw [decide_eq_false c1]
  simp only [boolK_false, vc_leafmeshlaw14_tables_j0, pickV_false, optK_mk]
  refine boolK_mk (fun c2 => hno _ _ sub1 rfl) (fun c2 => ?_)
  have hU : U.length = L.length := by
    have c2 : (U.length : Int) = L.length := by simpa using c2
    omega
  refine ⟨fun ys t m => ∃ (k : Nat) (ov : AVal) (fs : List Nat) (H : Heap), ys = [ov, .int .i64 k] ∧ m = (n - k).toNat ∧ Sub s1 H ∧ Sub H t ∧ Acc 37 H t ov (fs.map fun f => .ptr f 0) ∧ fs.length = k ∧ (0 < k → vld n L U ∧ (k : Int) ≤ n) ∧ ∀ i f, fs[i]? = some f → FibR H f n.toNat (L.map toL) U i, ⟨_, 0, .nilslc, [], s1, rfl, rfl, .refl _, .refl _, .inl ⟨rfl, rfl⟩, rfl, fun h => by omega, fun i f h => by cases h⟩, ?_⟩
  rintro g t m ⟨k, ov, fs, H, hy, rfl, s1H, Ht, acc, hfs, hk, hF⟩
  simp only [List.cons.injEq, and_true] at hy
  rw [hy.1, hy.2]
  have st := s1H.trans Ht
  have bt := st _ _ hb1
  simp only [vc_leafmeshlaw14_tables_l1, addOff_ptr, Nat.zero_add, rd1_mk bt, e0, e1, arith_lss, optK_mk]
  refine boolK_mk (fun hlt => ?_) (fun hge => ?_)
  rotate_left
  · have hge := of_decide_eq_false hge
    by_cases k0 : 0 < k
    · obtain ⟨hv, hkn⟩ := hk k0
      have en : n = (k : Int) := by omega
      subst en
      rw [Int.toNat_natCast] at hF
      exact hK k t ov fs rfl hv (by omega) (sub1.trans st) acc.sl hfs fun i f hi => (hF i f hi).sub Ht
    · have : fs = [] := List.eq_nil_of_length_eq_zero (by omega)
      subst this
      exact hno _ _ (sub1.trans st) acc.sl.len
  have hlt := of_decide_eq_true hlt
  refine wpCall.part XX_fr Ht ?_
  refine New_in (hl1.sub s1H) hlm (fun _ s2 e sub2 he s' sub' _ => ?_) fun hv hx0 hxn f mb lv' s2 sub2 hf hmb hfm h2f h2m hl2 hlf s' sub' kept => ?_
  · have x0 : extractA (.tup [.nilptr, .int .i64 e]) 0 = some .nilptr := rfl
    have x1 : extractA (.tup [.nilptr, .int .i64 e]) 1 = some (.int .i64 e) := rfl
    have c : (e == 0) = false := by simpa using he
    simp only [x0, x1, eqV_int, c, negB_mk, Bool.true_bne, Bool.not_false, boolK_true, vc_leafmeshlaw14_tables_j2, vc_leafmeshlaw14_tables_j3, pickV_true, optK_mk]
    refine hno _ _ (fun i e hi => ?_) rfl
    exact sub' _ _ (sub2 _ _ (s1H _ _ (sub1 _ _ hi)))
  have hv := vld_up hv hU
  obtain ⟨N, rfl⟩ : ∃ N : Nat, n = N := ⟨n.toNat, by omega⟩
  rw [Int.toNat_natCast] at hF
  have x0 : extractA (.tup [.ptr f 0, .int .i64 0]) 0 = some (.ptr f 0) := rfl
  have x1 : extractA (.tup [.ptr f 0, .int .i64 0]) 1 = some (.int .i64 0) := rfl
  have b' := sub' _ _ (sub2 _ _ (s1H _ _ hb1))
  simp only [x0, x1, eqV_int, beq_self_eq_true, negB_mk, Bool.true_bne, Bool.not_true, boolK_false, eqV_ptr, Bool.false_bne, vc_leafmeshlaw14_tables_j2, pickV_false, addOff_ptr, Nat.zero_add, rd1_mk b', e2, optK_mk]
  refine wpCall.part XX_fr sub' ?_
  refine Update_in (s0 := H) hv (by omega) (by omega) sub2 hf hmb h2f h2m hl2 hlf (hu1.sub s1H) fun s3 sub3 hF3 s'' sub'' kept2 => ?_
  simp only [eqV_int, beq_self_eq_true, negB_mk, Bool.true_bne, Bool.not_true, vc_leafmeshlaw14_tables_j3, pickV_false, boolK_false, optK_mk]
  -- the list of tables is hidden from both calls
  have acc2 : Acc 37 s3 s'' ov (fs.map fun f => .ptr f 0) := by
    rcases acc with q | ⟨c, q1, q2, q3⟩
    · exact .inl q
    · obtain ⟨k1, k2⟩ := kept c q1 (by rw [q3]; simp)
      obtain ⟨k3, k4⟩ := kept2 c k2 (by rw [k1, q3]; simp)
      exact .inr ⟨c, k4, q2, by rw [k3, k1]; exact q3⟩
  refine lit1_step rfl rfl fun b6 s4 hb6 h6 u6 => ?_
  have sub4 := u6.sub hb6
  refine (acc2.sub sub4).app2 (sub''.trans sub4) (Sl.mk h6 rfl (by simp)) (by simp) (by rw [List.length_map]; simp only [List.length_singleton]; have := hv.2.1; omega) fun v' s5 acc5 sub5 => ?_
  simp only [arith_add, optK_mk]
  rw [wrap64 (by omega) (by omega)]
  refine ⟨_, ?_, k + 1, v', fs ++ [f], s3, rfl, rfl, ?_, sub5, by rw [List.map_append]; exact acc5, by rw [List.length_append]; simp only [List.length_singleton]; omega, fun _ => ⟨hv, by omega⟩, fun i f' hi => ?_⟩
  · omega
  · exact s1H.trans sub3
  · rw [Int.toNat_natCast]
    rw [List.getElem?_append] at hi
    split at hi
    · exact (hF i f' hi).sub sub3
    · rename_i hge
      have : i = fs.length := by
        have := (List.getElem?_eq_some_iff.1 hi).1
        simp only [List.length_singleton] at this
        omega
      rw [this, Nat.sub_self] at hi
      simp only [List.getElem?_cons_zero, Option.some.injEq] at hi
      subst hi
      rw [this, hfs]
      exact hF3
end Go.AM.FB
namespace Go.AM.FB
open Go Go.Proofs
variable {K : AVal → Heap → Prop} {s s' s0 t : Heap} {lv uv v y w : AVal} {N : Nat} {G : List Lnk} {U : List Bool} {d : Nat → Int} {L : List RLk}
/-! ### FibReach -/
theorem known_in (hK : K (.bool true) s) : wpCall Try.prog XX 4 [] K s := wp_closed rfl hK
theorem cut2 {T : Heap} {b : Nat} {e : Bool × Blk} (h : t b = some e) (hT : T b = some e) : cutH [(t, t), (t, T)] T b = some e := by
  have h1 : cutH [(t, t), (t, T)] T b ≠ none := by
    refine cutH_put (by rw [hT]; simp) fun p hp => ?_
    simp only [List.mem_cons, List.not_mem_nil, or_false] at hp
    rcases hp with rfl | rfl
    · rintro ⟨q, _⟩; have q : t b = none := q; rw [h] at q; cases q
    · rintro ⟨q, _⟩; have q : t b = none := q; rw [h] at q; cases q
  rw [(cutH_get h1).2.2, hT]
/-- which nodes have a positive distance -/
theorem pos_nd (z : GOk N G U) (hN : N ≤ 40) {x n : Nat} (hx : x < N) (hn : n < N) (h : IsDist N G U x d) : 0 < d n ↔ n ∈ ndL N G U x := by
  rw [mem_ndL]
  have os := of_same z hN hx hn h
  constructor
  · intro hp
    refine ⟨hn, fun q => ?_⟩
    rcases os.1 q with e | e
    · rw [e, h.fr] at hp; omega
    · omega
  · rintro ⟨_, q⟩
    have h1 : ¬ (n = x ∨ d n < 0) := fun e => q (os.2 e)
    have hne : n ≠ x := fun e => h1 (.inl e)
    have h0 : 0 ≤ d n := by
      by_cases c : 0 ≤ d n
      · exact c
      · exact absurd (.inr (by omega)) h1
    obtain ⟨i, m, c, e1, e2, e3⟩ := h.sup n hn h0 hne
    have := (z.ed e1).2.2.2.1
    omega
noncomputable def wantL (N : Nat) (G : List Lnk) (U : List Bool) (x k : Nat) : List Int := ((ndL N G U x).filter fun n => decide (n < k)).map lbk
theorem want_0 {x : Nat} : wantL N G U x 0 = [] := by
  unfold wantL
  rw [List.filter_eq_nil_iff.2 (by intro a _; simp)]
  rfl
theorem want_all {x : Nat} : wantL N G U x N = (ndL N G U x).map lbk := by
  unfold wantL
  rw [List.filter_eq_self.2]
  intro a ha
  exact decide_eq_true (mem_ndL.1 ha).1
theorem range_lt {k N : Nat} (h : k ≤ N) : (List.range N).filter (fun n => decide (n < k)) = List.range k := by
  obtain ⟨m, rfl⟩ : ∃ m, N = k + m := ⟨N - k, by omega⟩
  rw [List.range_add, List.filter_append, List.filter_eq_self.2, List.filter_eq_nil_iff.2, List.append_nil]
  · intro a ha
    obtain ⟨b, _, rfl⟩ := List.mem_map.1 ha
    simp
  · intro a ha
    exact decide_eq_true (List.mem_range.1 ha)
theorem want_succ {x k : Nat} (hk : k < N) : wantL N G U x (k + 1) = wantL N G U x k ++ (if k ∈ ndL N G U x then [lbk k] else []) := by
  have e : ∀ j, j ≤ N → wantL N G U x j = ((List.range j).filter fun n => !(lnk N G U x n).isEmpty).map lbk := fun j hj => by
    unfold wantL ndL
    rw [List.filter_filter, ← range_lt hj, List.filter_filter]
    congr 2
    funext n
    rw [Bool.and_comm]
  rw [e _ hk, e _ (by omega), List.range_succ, List.filter_append, List.map_append]
  congr 1
  by_cases q : lnk N G U x k = []
  · have h1 : ¬ k ∈ ndL N G U x := fun h => (mem_ndL.1 h).2 q
    rw [if_neg h1]
    simp [q]
  · have h1 : k ∈ ndL N G U x := mem_ndL.2 ⟨hk, q⟩
    rw [if_pos h1]
    simp [q]
theorem want_len {x k : Nat} : (wantL N G U x k).length ≤ N := by
  unfold wantL
  rw [List.length_map]
  exact Nat.le_trans (List.length_filter_le _ _) ndL_len
theorem iz_izs {T : List Nat} : iz T = izs (T.map fun (n : Nat) => (n : Int)) := by
  unfold iz
  exact (List.map_map ..).symm
theorem ips_app {a b : List Int} : ips (a ++ b) = ips a ++ ips b := by unfold ips; simp
theorem FibReach_in {n p q : Int} (hn : -9223372036854775808 ≤ n ∧ n ≤ 9223372036854775807) (hp : -9223372036854775808 ≤ p ∧ p ≤ 9223372036854775807) (hl : SlR 3 s lv (L.map rwR)) (hlm : L.length ≤ 9223372036854775807) (hu : Sl s uv (U.map AVal.bool)) (hum : U.length ≤ 9223372036854775807)
    (hK : ∀ s', K (.bool true) s') : wpCall Try.prog XX 6 [.agg (netC n lv uv), .int .i64 p, .int .u32 q] K s := by
  refine vc_leafmeshlaw14_FibReach_in ⟨?_, new_step fun b s1 hb hb1 u1 => ?_⟩
  · show ((AVal.int .i64 n).one && (lv.one && (uv.one && true))) = true
    rw [hl.one, hu.one]; rfl
  have sub1 := u1.sub hb
  have hb1 : s1 b = some (false, .cells 63 (netC n lv uv)) := hb1
  have e0 : (netC n lv uv)[0]? = some (.int .i64 n) := rfl
  have e1 : (netC n lv uv)[1]? = some lv := rfl
  have e2 : (netC n lv uv)[2]? = some uv := rfl
  have hl1 := hl.sub sub1
  have hu1 := hu.sub sub1
  refine known_in (optK_of (rdN_all hb1 rfl) ?_)
  refine tables_in hn hl1 hlm hu1 hum (fun s2 w sub2 hw => ?_) fun N s2 w fs en hv hL sub2 hw hfs hF => ?_
  · have c : negB false (eqV 0 true (.int .i64 ((0 : Nat) : Int)) (.int .i64 0)) = some (.bool true) := rfl
    simp only [hw, c, boolK_true, optK_mk]
    exact hK _
  subst en
  obtain ⟨z, hG, hN32, hC, hrw⟩ := vld.gok hv
  have hN1 : 1 ≤ N := by have := hv.1; omega
  have c0 : (((fs.map fun f => AVal.ptr f 0).length : Int) == 0) = false := by
    cases c : (((fs.map fun f => AVal.ptr f 0).length : Int) == 0) with
    | false => rfl
    | true => have := eq_of_beq c; rw [List.length_map] at this; omega
  have hb2 := sub2 _ _ hb1
  simp only [hw.len, eqV_int, negB_mk, Bool.false_bne, c0, boolK_false, addOff_ptr, Nat.zero_add, rd1_mk hb2, e0, optK_mk]
  refine Pick_in hp hN1 (by omega) fun x hx => ?_
  simp only [rd1_mk hb2, e0, e1, e2, optK_mk]
  refine Dist_in (hl1.sub sub2) hlm (hu1.sub sub2) fun dv s3 sub3 _ hyes => ?_
  obtain ⟨d, db, isd, hbd, rfl, hdb, hd⟩ := hyes N x hv rfl hx rfl
  obtain ⟨f, hf⟩ : ∃ f, fs[x]? = some f := ⟨_, List.getElem?_eq_getElem (by omega)⟩
  have hFx := (hF x f hf).sub sub3
  have s13 := sub2.trans sub3
  have hGl : (L.map toL).length ≤ 1000 := by rw [List.length_map]; omega
  refine ⟨fun ys t m => ∃ (k : Nat) (wv : AVal), ys = [wv, .int .i64 k] ∧ k ≤ N ∧ m = N - k ∧ Sub s3 t ∧ Acc 45 s3 t wv (ips (wantL N (L.map toL) U x k)), ⟨_, 0, .nilslc, rfl, by omega, rfl, .refl _, .inl ⟨rfl, by rw [want_0]; rfl⟩⟩, ?_⟩
  rintro g t m ⟨k, wv, hy, hk, rfl, st, acc⟩
  simp only [List.cons.injEq, and_true] at hy
  rw [hy.1, hy.2]
  have eL : lenOfA (.slc db 0 N (some N) 1) = some N := rfl
  have hFt := hFx.sub st
  have bt := st _ _ (s13 _ _ hb1)
  have hdt := st _ _ hd
  obtain ⟨fp, g1, g2⟩ := ((hw.sub sub3).sub st).get (i := x) (by rw [List.length_map]; omega)
  rw [List.getElem?_map, hf] at g2
  have g2 : rd1 t fp = some (.ptr f 0) := g2
  simp only [vc_leafmeshlaw14_FibReach_l0, eL, arith_lss, optK_mk]
  refine boolK_mk (fun hlt => ?_) (fun hge => ?_)
  · have hlt : k < N := by have := of_decide_eq_true hlt; omega
    simp only [g1, g2, optK_mk]
    refine Loop_in (by omega) fun _ => ?_
    rw [add_frz]
    refine Lookup_in hFt.frz hN32 hN1 hGl fun s4 lw l sub4 hlw hll hln _ => ?_
    intro _
    have sT : Sub t (add t s4) := sub_add
    have hlT := hlw.addf sub4
    generalize hT : add t s4 = T at sT hlT
    have cb := cut2 bt (sT _ _ bt)
    simp only [addOff_ptr, Nat.zero_add, rd1_mk cb, e0, e1, e2, optK_mk]
    refine sNext_in (((hl1.sub s13).sub st).sub sT) (((hu1.sub s13).sub st).sub sT) hv hx hlt fun nv s5 d5 isd5 ac5 sub5 => ?_
    have el : l = nrL (L.map toL) U d5 x := by
      rw [hln k hlt rfl]
      exact (nrL_dF z isd5).symm
    have sl5 := ac5.sl
    rw [← el, iz_izs] at sl5
    have slw := hlT.sub sub5
    rw [iz_izs] at slw
    refine Same_in slw sl5 (by rw [List.length_map]; omega) fun bb hbb => ?_
    rw [hbb.2 rfl]
    have hd5 := sub5 _ _ (sT _ _ hdt)
    have s35 := st.trans (sT.trans sub5)
    have acc5 := acc.sub (sT.trans sub5)
    have nx : ∀ v' t', Sub s3 t' → Acc 45 s3 t' v' (ips (wantL N (L.map toL) U x (k + 1))) → vc_leafmeshlaw14_FibReach_j1 XX v' (.int .i64 (k : Int)) (fun ys t m => ∃ (k : Nat) (wv : AVal), ys = [wv, .int .i64 k] ∧ k ≤ N ∧ m = N - k ∧ Sub s3 t ∧ Acc 45 s3 t wv (ips (wantL N (L.map toL) U x k))) (N - k) K t' := fun v' t' a1 a2 => by
      simp only [vc_leafmeshlaw14_FibReach_j1, arith_add, optK_mk]
      rw [wrap64 (by omega) (by omega)]
      exact ⟨_, by omega, k + 1, v', rfl, by omega, rfl, a1, a2⟩
    simp only [unary_not, Bool.not_true, boolK_false, dl_ad hlt, rd1_mk hd5, dl_get hlt, arith_gtr, optK_mk]
    have pn := pos_nd z (by omega) hx hlt isd
    refine boolK_mk (fun c => ?_) (fun c => ?_)
    · have c := of_decide_eq_true c
      refine Loop_in (by omega) (lit1_step rfl rfl fun b6 s6 hb6 h6 u6 => ?_)
      have sub6 := u6.sub hb6
      refine (acc5.sub sub6).app2 (s35.trans sub6) (Sl.mk h6 rfl (by simp)) (by simp) ?_ fun v' s7 a7 k7 => ?_
      · have := want_len (N := N) (G := L.map toL) (U := U) (x := x) (k := k)
        unfold ips
        rw [List.length_map]
        simp only [List.length_singleton]
        omega
      · refine nx v' s7 k7 ?_
        rw [want_succ hlt, if_pos (pn.1 c), ips_app]
        exact a7
    · have c := of_decide_eq_false c
      refine nx wv s5 s35 ?_
      rw [want_succ hlt, if_neg (fun h => c (pn.2 h)), List.append_nil]
      exact acc5
  · have hge : k = N := by have := of_decide_eq_false hge; omega
    subst hge
    rw [want_all] at acc
    simp only [boolK_true, g1, g2, optK_mk]
    refine Reach_in hFt hN32 hN1 fun s4 rv sub4 hr => ?_
    have hlen : ((ndL k (L.map toL) U x).map lbk).length ≤ 1000000 := by
      rw [List.length_map]
      have := ndL_len (N := k) (G := L.map toL) (U := U) (x := x)
      omega
    have hr : Sl s4 rv (ips ((ndL k (L.map toL) U x).map lbk)) := by
      unfold ips
      rw [List.map_map]
      exact hr
    refine SameI_in hr (acc.sl.sub sub4) hlen ?_
    simp only [vc_leafmeshlaw14_FibReach_j2, pickV_true, boolK_true, optK_mk]
    obtain ⟨fp', g3, g4⟩ := (((hw.sub sub3).sub st).sub sub4).get (i := x) (by rw [List.length_map]; omega)
    rw [List.getElem?_map, hf] at g4
    have g4 : rd1 s4 fp' = some (.ptr f 0) := g4
    simp only [g3, g4, optK_mk]
    refine Lookup_in (hFt.sub sub4) hN32 hN1 hGl fun s5 lw l sub5 hlw hll _ hne => ?_
    simp only [hlw.len, iz_len, arith_gtr, optK_mk]
    refine Has_in ((acc.sl.sub sub4).sub sub5) hlen ?_
    have e : decide ((0 : Int) < (l.length : Int)) = decide (q ∈ (ndL k (L.map toL) U x).map lbk) := by
      rw [decide_eq_decide]
      constructor
      · intro h
        have hne' : l ≠ [] := fun q => by rw [q] at h; simp at h
        obtain ⟨n, h1, h2⟩ := hne.1 hne'
        exact List.mem_map.2 ⟨n, h1, h2.symm⟩
      · intro h
        obtain ⟨n, h1, h2⟩ := List.mem_map.1 h
        have := hne.2 ⟨n, h1, h2.symm⟩
        have := List.length_pos_iff.2 this
        omega
    rw [e]
    have e3 : negB false (eqV 1 false (.bool (decide (q ∈ (ndL k (L.map toL) U x).map lbk))) (.bool (decide (q ∈ (ndL k (L.map toL) U x).map lbk)))) = some (.bool true) := by
      cases decide (q ∈ (ndL k (L.map toL) U x).map lbk) <;> rfl
    simp only [e3, vc_leafmeshlaw14_FibReach_j3, pickV_true, optK_mk]
    exact hK _
end Go.AM.FB
namespace Go.AM.FB
open Go Go.Proofs
variable {s : Heap} {v : AVal}
/-! ### arguments -/
set_option maxRecDepth 100000 in
theorem arg_net {d : Nat} (h : Arg Try.prog s (d + 4) 63 v) : ∃ (n : Int) (L : List RLk) (U : List Bool) (lv uv : AVal), v = .agg (netC n lv uv) ∧ SlR 3 s lv (L.map rwR) ∧ Sl s uv (U.map AVal.bool) ∧ L.length ≤ 9223372036854775807 ∧ U.length ≤ 9223372036854775807 ∧ (-9223372036854775808 ≤ n ∧ n ≤ 9223372036854775807) := by
  obtain ⟨h1, h2, _⟩ := h
  have ha : isAggT Try.prog 63 = some true := by kernel_rfl
  obtain ⟨l, rfl, _⟩ := h2 ha
  rw [cells_agg] at h1
  unfold Inp at h1
  simp only [Try.underlying63] at h1
  obtain ⟨g1, g2⟩ := h1
  rw [show Try.prog.cellsOf 63 = 3 by kernel_rfl] at g1
  have k0 := g2 _ (List.mem_cons_self)
  have k2 := g2 _ (List.mem_cons_of_mem _ List.mem_cons_self)
  have k3 := g2 _ (List.mem_cons_of_mem _ (List.mem_cons_of_mem _ List.mem_cons_self))
  match l, g1 with
  | [a, c, e], _ =>
    obtain ⟨n, e1, w1⟩ := inp_int (xs := [a]) Try.underlying3 k0
    obtain ⟨lv, e3, L, hL, _, hl1⟩ := inpR (d := d + 2) (xs := [c]) Try.underlying22 rwR (fun _ => True) (fun a => by rw [cells27]; rfl) (fun xs h => inp_lk h) k2
    obtain ⟨uv, e4, U, hU, _, hl2⟩ := inp_slice (d := d + 2) (xs := [e]) Try.underlying23 (by kernel_rfl) AVal.bool (fun _ => True) (fun xs h => inp_bool Try.underlying4 h) k3
    rw [cells27] at hL
    cases e1; cases e3; cases e4
    exact ⟨n, L, U, c, e, rfl, hL, hU, by unfold maxLen at hl1; omega, by unfold maxLen at hl2; omega, bd64 w1⟩
theorem Reach_wp (s : Heap) (xs : List AVal) (h : ArgL Try.prog s 40 [63, 3, 45] xs) : wpCall Try.prog XX 6 xs (fun v _ => v = .bool true) s := by
  obtain ⟨a, b, c, rfl, h1, h2, h3⟩ := argl3 h
  obtain ⟨n, L, U, lv, uv, rfl, hl, hu, hlm, hum, hn⟩ := arg_net (d := 36) h1
  obtain ⟨p, rfl, w2⟩ := arg_int (k := .i64) Try.underlying3 h2
  obtain ⟨q, rfl, _⟩ := arg_int (k := .u32) Try.underlying45 h3
  exact FibReach_in hn (bd64 w2) hl hlm hu hum fun _ => rfl
end Go.AM.FB
