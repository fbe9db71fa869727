/- Part D of a calculus over a small memory that is proved to answer as the program does, and of its use for the functions that the law reaches: see the last part. -/
import Derived.Test.YtfakaecinnjipaaV
import Derived.Test.YtfakaecinnjipaaU2
namespace Go.AM
open Go Go.Proofs
/-! ### members with their loads, ordered by load, then by number -/
abbrev Shr := Int × Int
def key (x : Shr) : Int := x.2 * 1000 + x.1
def at0 (q : List Shr) (j : Nat) : Shr := q.getD j (0, 0)
def ky (q : List Shr) (j : Nat) : Int := key (at0 q j)
def swp (q : List Shr) (i j : Nat) : List Shr := (q.set i (at0 q j)).set j (at0 q i)
theorem swp_len (q : List Shr) (i j : Nat) : (swp q i j).length = q.length := by simp [swp]
theorem at0_get {q : List Shr} {j : Nat} (h : j < q.length) : at0 q j = q[j] := by simp [at0, h]
theorem at0_set {q : List Shr} {i j : Nat} {x : Shr} (hi : i < q.length) : at0 (q.set i x) j = if j = i then x else at0 q j := by
  unfold at0
  rw [List.getD_eq_getElem?_getD, List.getElem?_set, List.getD_eq_getElem?_getD]
  by_cases e : i = j
  · subst e; simp [hi]
  · rw [if_neg e, if_neg (Ne.symm e)]
theorem at0_swp {q : List Shr} {i j m : Nat} (hi : i < q.length) (hj : j < q.length) : at0 (swp q i j) m = if m = j then at0 q i else if m = i then at0 q j else at0 q m := by
  unfold swp
  rw [at0_set (by simpa using hj), at0_set hi]
theorem ky_swp {q : List Shr} {i j m : Nat} (hi : i < q.length) (hj : j < q.length) : ky (swp q i j) m = if m = j then ky q i else if m = i then ky q j else ky q m := by
  unfold ky
  rw [at0_swp hi hj]
  split
  · rfl
  · split <;> rfl
theorem set_perm : ∀ {q : List Shr} {i : Nat} {x : Shr} (h : i < q.length), (q[i] :: q.set i x).Perm (x :: q)
  | y :: q, 0, x, _ => List.Perm.swap x y q
  | y :: q, i + 1, x, h => by
    have hi : i < q.length := by simpa using h
    have ih := set_perm (q := q) (i := i) (x := x) hi
    show (q[i] :: y :: q.set i x).Perm (x :: y :: q)
    exact (List.Perm.swap _ _ _).trans ((ih.cons y).trans (List.Perm.swap _ _ _))
theorem swp_perm {q : List Shr} {i j : Nat} (hi : i < q.length) (hj : j < q.length) : (swp q i j).Perm q := by
  by_cases e : i = j
  · subst e
    unfold swp
    rw [at0_get hi, List.set_set, List.set_getElem_self]
  · have h1 := set_perm (q := q) (i := i) (x := at0 q j) hi
    have hj' : j < (q.set i (at0 q j)).length := by simpa using hj
    have h2 := set_perm (q := q.set i (at0 q j)) (i := j) (x := at0 q i) hj'
    have e1 : (q.set i (at0 q j))[j] = at0 q j := by
      rw [List.getElem_set_ne e]
      exact (at0_get hj).symm
    rw [e1] at h2
    rw [← at0_get hi] at h1
    have h3 : (at0 q j :: swp q i j).Perm (at0 q j :: q) := h2.trans h1
    exact h3.cons_inv
/-- a heap below k -/
def Hp (q : List Shr) (k : Nat) : Prop := ∀ j, 0 < j → j < q.length → k ≤ (j - 1) / 2 → ky q ((j - 1) / 2) ≤ ky q j
/-- what holds in 'down' -/
structure Dn (q : List Shr) (i0 i : Nat) : Prop where
  ok : ∀ j, 0 < j → j < q.length → i0 ≤ (j - 1) / 2 → (j - 1) / 2 ≠ i → ky q ((j - 1) / 2) ≤ ky q j
  gr : i ≠ i0 → ∀ j, 0 < j → j < q.length → (j - 1) / 2 = i → ky q ((i - 1) / 2) ≤ ky q j
  le : i0 ≤ i
  pr : i ≠ i0 → i0 ≤ (i - 1) / 2
theorem Hp.dn {q : List Shr} {i0 : Nat} (h : Hp q (i0 + 1)) : Dn q i0 i0 := ⟨fun j h0 h1 h2 h3 => h j h0 h1 (by omega), fun e => absurd rfl e, Nat.le_refl _, fun e => absurd rfl e⟩
theorem Dn.done {q : List Shr} {i0 i : Nat} (h : Dn q i0 i) (hc : ∀ j, 0 < j → j < q.length → (j - 1) / 2 = i → ky q i ≤ ky q j) : Hp q i0 := fun j h0 h1 h2 => by
  by_cases e : (j - 1) / 2 = i
  · rw [e]; exact hc j h0 h1 e
  · exact h.ok j h0 h1 h2 e
theorem Dn.swap {q : List Shr} {i0 i j : Nat} (h : Dn q i0 i) (hj : j < q.length) (hc : j = 2 * i + 1 ∨ j = 2 * i + 2) (hlt : ky q j < ky q i) (hmin : ∀ m, 0 < m → m < q.length → (m - 1) / 2 = i → ky q j ≤ ky q m) : Dn (swp q i j) i0 j := by
  have hi : i < q.length := by omega
  have hle := h.le
  refine ⟨fun m h0 h1 h2 h3 => ?_, fun _ m h0 h1 h2 => ?_, by omega, fun _ => by omega⟩
  · rw [swp_len] at h1
    rw [ky_swp hi hj, ky_swp hi hj]
    by_cases e1 : m = j
    · rw [if_neg (show (m - 1) / 2 ≠ j by omega), if_pos (show (m - 1) / 2 = i by omega), if_pos e1]
      omega
    · rw [if_neg h3, if_neg e1]
      by_cases e2 : (m - 1) / 2 = i
      · rw [if_pos e2, if_neg (show m ≠ i by omega)]
        exact hmin m h0 h1 e2
      · rw [if_neg e2]
        by_cases e3 : m = i
        · rw [if_pos e3]
          have hne : i ≠ i0 := by omega
          subst e3
          exact h.gr hne j (by omega) hj (by omega)
        · rw [if_neg e3]
          exact h.ok m h0 h1 h2 e2
  · rw [swp_len] at h1
    rw [ky_swp hi hj, ky_swp hi hj]
    rw [if_neg (show (j - 1) / 2 ≠ j by omega), if_pos (show (j - 1) / 2 = i by omega), if_neg (show m ≠ j by omega), if_neg (show m ≠ i by omega)]
    have := h.ok m h0 h1 (by omega) (by omega)
    rw [h2] at this
    exact this
/-- what holds in 'up' -/
structure Up (q : List Shr) (j : Nat) : Prop where
  ok : ∀ m, 0 < m → m < q.length → m ≠ j → ky q ((m - 1) / 2) ≤ ky q m
  gr : 0 < j → ∀ m, 0 < m → m < q.length → (m - 1) / 2 = j → ky q ((j - 1) / 2) ≤ ky q m
theorem Up.done {q : List Shr} {j : Nat} (h : Up q j) (hc : 0 < j → ky q ((j - 1) / 2) ≤ ky q j) : Hp q 0 := fun m h0 h1 _ => by
  by_cases e : m = j
  · subst e; exact hc h0
  · exact h.ok m h0 h1 e
theorem Up.swap {q : List Shr} {j : Nat} (h : Up q j) (hj : j < q.length) (h0 : 0 < j) (hlt : ky q j < ky q ((j - 1) / 2)) : Up (swp q ((j - 1) / 2) j) ((j - 1) / 2) := by
  have hi : (j - 1) / 2 < q.length := by omega
  refine ⟨fun m m0 m1 m2 => ?_, fun i0 m m0 m1 m2 => ?_⟩
  · rw [swp_len] at m1
    rw [ky_swp hi hj, ky_swp hi hj]
    by_cases e1 : m = j
    · rw [if_neg (show (m - 1) / 2 ≠ j by omega), if_pos (show (m - 1) / 2 = (j - 1) / 2 by rw [e1]), if_pos e1]
      omega
    · rw [if_neg e1, if_neg m2]
      by_cases e2 : (m - 1) / 2 = j
      · rw [if_pos e2]
        exact h.gr h0 m m0 m1 e2
      · rw [if_neg e2]
        by_cases e3 : (m - 1) / 2 = (j - 1) / 2
        · rw [if_pos e3]
          have := h.ok m m0 m1 e1
          rw [e3] at this
          omega
        · rw [if_neg e3]
          exact h.ok m m0 m1 e1
  · rw [swp_len] at m1
    rw [ky_swp hi hj, ky_swp hi hj]
    rw [if_neg (show ((j - 1) / 2 - 1) / 2 ≠ j by omega), if_neg (show ((j - 1) / 2 - 1) / 2 ≠ (j - 1) / 2 by omega)]
    have hp := h.ok ((j - 1) / 2) i0 hi (by omega)
    by_cases e1 : m = j
    · rw [if_pos e1]; exact hp
    · rw [if_neg e1, if_neg (show m ≠ (j - 1) / 2 by omega)]
      have := h.ok m m0 m1 e1
      rw [m2] at this
      omega
theorem Hp.root {q : List Shr} (h : Hp q 0) : ∀ j, j < q.length → ky q 0 ≤ ky q j
  | 0, _ => Int.le_refl _
  | j + 1, hj => by
    have h1 := h (j + 1) (by omega) hj (by omega)
    have h2 := Hp.root h ((j + 1 - 1) / 2) (by omega)
    omega
theorem Hp.leaf {q : List Shr} {k : Nat} (h : q.length ≤ 2 * k + 1) : Hp q k := fun j h0 h1 h2 => by omega
end Go.AM
namespace Go.AM
open Go Go.Proofs
variable {K : AVal → Heap → Prop} {s : Heap}
def shR (x : Shr) : List AVal := [.int .i64 x.1, .int .i64 x.2]
abbrev flatQ (q : List Shr) : List AVal := (q.map shR).flatten
theorem shR_len (q : List Shr) : ∀ r ∈ q.map shR, r.length = 2 := fun r hr => by obtain ⟨x, _, rfl⟩ := List.mem_map.1 hr; rfl
theorem flatQ_len (q : List Shr) : (flatQ q).length = q.length * 2 := by rw [flat_len (shR_len q), List.length_map]
theorem flatQ_put {x : Shr} : ∀ {q : List Shr} {i : Nat}, i < q.length → setRange (flatQ q) (i * 2) (shR x) = flatQ (q.set i x)
  | y :: q, 0, _ => by simp [setRange, shR, flatQ]
  | y :: q, i + 1, h => by
    have ih := flatQ_put (x := x) (q := q) (i := i) (by simpa using h)
    have e : flatQ (y :: q) = .int .i64 y.1 :: .int .i64 y.2 :: flatQ q := rfl
    have e2 : flatQ ((y :: q).set (i + 1) x) = .int .i64 y.1 :: .int .i64 y.2 :: flatQ (q.set i x) := rfl
    rw [e, e2, ← ih]
    have e3 : (i + 1) * 2 = i * 2 + 2 := by omega
    rw [e3]
    simp [setRange, shR, List.take_succ_cons, Nat.add_right_comm _ 2]
theorem flatQ_set1 {v : Int} : ∀ {q : List Shr} {i : Nat}, i < q.length → (flatQ q).set (i * 2 + 1) (.int .i64 v) = flatQ (q.set i ((at0 q i).1, v))
  | y :: q, 0, _ => rfl
  | y :: q, i + 1, h => by
    have ih := flatQ_set1 (v := v) (q := q) (i := i) (by simpa using h)
    have e3 : (i + 1) * 2 + 1 = (i * 2 + 1) + 2 := by omega
    rw [e3]
    exact congrArg (fun t => AVal.int .i64 y.1 :: AVal.int .i64 y.2 :: t) ih
theorem flatQ_set0 {v : Int} : ∀ {q : List Shr} {i : Nat}, i < q.length → (flatQ q).set (i * 2) (.int .i64 v) = flatQ (q.set i (v, (at0 q i).2))
  | y :: q, 0, _ => rfl
  | y :: q, i + 1, h => by
    have ih := flatQ_set0 (v := v) (q := q) (i := i) (by simpa using h)
    have e3 : (i + 1) * 2 = i * 2 + 2 := by omega
    rw [e3]
    exact congrArg (fun t => AVal.int .i64 y.1 :: AVal.int .i64 y.2 :: t) ih
structure QAt (s : Heap) (o sb : Nat) (q : List Shr) : Prop where
  ob : ∃ t, s o = some (t, .cells 87 [.slc sb 0 q.length (some q.length) 2])
  dt : s sb = some (false, .cells 89 (flatQ q))
  rg : ∀ x ∈ q, 0 ≤ x.1 ∧ x.1 < 1000
  ln : q.length ≤ 1000
variable {o sb : Nat} {q : List Shr}
theorem QAt.sub {s' : Heap} (h : QAt s o sb q) (hs : Sub s s') : QAt s' o sb q := by
  obtain ⟨⟨t, h1⟩, h2, h3, h4⟩ := h
  exact ⟨⟨t, hs _ _ h1⟩, hs _ _ h2, h3, h4⟩
theorem q_addr {n i : Nat} (hi : i < n) : iaddrS 2 (.slc sb 0 n (some n) 2) (.int .i64 (i : Int)) = some (.ptr sb (i * 2)) := by
  have : Nat.blt i n = true := by rw [Nat.blt_eq]; exact hi
  simp [iaddrS, this]
theorem QAt.row (h : QAt s o sb q) {i : Nat} (hi : i < q.length) : rdN s 2 (.ptr sb (i * 2)) = some (shR (at0 q i)) ∧ rd1 s (.ptr sb (i * 2)) = some (.int .i64 (at0 q i).1) ∧ rd1 s (.ptr sb (i * 2 + 1)) = some (.int .i64 (at0 q i).2) := by
  have hs : SlR 2 s (.slc sb 0 q.length (some q.length) 2) (q.map shR) := SlR.mk (shR_len q) h.dt (by simp) (by simp)
  obtain ⟨b, p, h1, h2, h3⟩ := hs.get (i := i) (r := shR (at0 q i)) (by simp [at0_get hi, hi])
  rw [q_addr hi] at h1
  cases h1
  exact ⟨h2, h3 0 (by omega), h3 1 (by omega)⟩
theorem cut_new {s : Heap} {b : Nat} (hb : s b = none) : ∀ {l : List (Heap × Heap)} {t : Heap}, (∀ p ∈ l, p.2 = s) → t b ≠ none → cutH l t b ≠ none
  | [], _, _, h => h
  | p :: l, t, hp, h => by
    refine cut_new hb (l := l) (t := fun b => if p.1 b = none ∧ p.2 b ≠ none then none else t b) (fun r hr => hp r (by simp [hr])) ?_
    show (if p.1 b = none ∧ p.2 b ≠ none then none else t b) ≠ none
    rw [if_neg (by rintro ⟨_, h⟩; rw [hp p (by simp)] at h; exact h hb)]
    exact h
theorem ky_lt {a b : Shr} (ha : 0 ≤ a.1 ∧ a.1 < 1000) (hb : 0 ≤ b.1 ∧ b.1 < 1000) : decide (key a < key b) = if (a.2 == b.2) = true then decide (a.1 < b.1) else decide (a.2 < b.2) := by
  unfold key
  by_cases e : a.2 = b.2
  · rw [if_pos (by simpa using e), e]; congr 1; apply propext; omega
  · rw [if_neg (by simpa using e)]; congr 1; apply propext; omega
theorem Less_in {i j : Nat} (h : QAt s o sb q) (hi : i < q.length) (hj : j < q.length) (hK : ∀ s', Sub s s' → K (.bool (decide (ky q i < ky q j))) s') : wpCall Try.prog XX 55 [.ptr o 0, .int .i64 (i : Int), .int .i64 (j : Int)] K s := by
  obtain ⟨t, ho⟩ := h.ob
  have ri := (h.row hi).1
  have rj := (h.row hj).1
  refine vc_spread_order_Less_in ?_
  simp only [vc_spread_order_Less, nilCheck_ptr, addOff_ptr, optK_mk, rd1_mk ho, Nat.zero_add, List.getElem?_cons_zero, q_addr hi, q_addr hj, ri, rj]
  refine newM (l := []) fun x s1 hx hx1 ux => newM (l := [(s, add s s1)]) fun y s2 hy hy2 uy => ⟨?_, ?_⟩
  · refine cut_new hx (fun p hp => by simp only [List.mem_cons, List.not_mem_nil, or_false] at hp; rcases hp with rfl | rfl <;> rfl) ?_
    rw [sub_add x _ hx1]; simp
  · have hyx : y ≠ x := by rintro rfl; rw [hx1] at hy; cases hy
    refine wrAgg_step (sub_add x _ hx1) rfl rfl rfl fun s3 hx3 u3 => ?_
    refine wrAgg_step ((u3 y hyx).trans hy2) rfl rfl rfl fun s4 hy4 u4 => ?_
    have hx4 : s4 x = _ := (u4 x hyx.symm).trans hx3
    have sub4 : Sub s s4 := fun i e hi => by
      have hiA : add s s1 i = some e := sub_add i e hi
      rw [u4 i (ne_of_some hy hiA), u3 i (ne_of_some hx hi)]
      exact sub_add i e hiA
    have hk := hK _ sub4
    have e := ky_lt (h.rg _ (List.getElem_mem hi)) (h.rg _ (List.getElem_mem hj))
    rw [← at0_get hi, ← at0_get hj] at e
    unfold ky at hk
    rw [e] at hk
    simp only [addOff_ptr, optK_mk, rd1_mk hx4, rd1_mk hy4, Nat.zero_add, shR, List.getElem?_cons_zero, List.getElem?_cons_succ, eqV_int, negB_mk, Bool.true_bne, arith_lss]
    cases hq : ((at0 q i).2 == (at0 q j).2) with
    | true => rw [hq, if_pos rfl] at hk; simp only [Bool.not_true, boolK_false]; exact hk
    | false => rw [hq, if_neg (by simp)] at hk; simp only [Bool.not_false, boolK_true]; exact hk
theorem Swap_in {i j : Nat} (h : QAt s o sb q) (hi : i < q.length) (hj : j < q.length) (hK : ∀ s', QAt s' o sb (swp q i j) → KeepBut (fun b => b = sb) s s' → K (.tup []) s') : wpCall Try.prog XX 76 [.ptr o 0, .int .i64 (i : Int), .int .i64 (j : Int)] K s := by
  obtain ⟨t, ho⟩ := h.ob
  have ri := (h.row hi).1
  have rj := (h.row hj).1
  refine vc_spread_order_Swap_in ?_
  simp only [vc_spread_order_Swap, nilCheck_ptr, addOff_ptr, optK_mk, rd1_mk ho, Nat.zero_add, List.getElem?_cons_zero, q_addr hi, q_addr hj, ri, rj]
  have hos : o ≠ sb := by rintro rfl; rw [h.dt] at ho; cases ho
  have wr : ∀ {s : Heap} {q : List Shr} {i : Nat} {x : Shr} {R : Heap → Prop}, s sb = some (false, .cells 89 (flatQ q)) → i < q.length → (∀ s', s' sb = some (false, .cells 89 (flatQ (q.set i x))) → Upto sb s s' → R s') → optK (wrAgg s 2 (.ptr sb (i * 2)) (.agg (shR x))) R := by
    intro s q i x R hs hi hR
    have e1 : Nat.ble (i * 2 + (shR x).length) (flatQ q).length = true := Nat.ble_eq_true_of_le (by rw [flatQ_len]; show i * 2 + 2 ≤ _; omega)
    have e2 : wrAgg s 2 (.ptr sb (i * 2)) (.agg (shR x)) = some (hset s sb (false, .cells 89 (flatQ (q.set i x)))) := by
      rw [← flatQ_put hi]
      simp only [wrAgg, cells_agg, show Nat.beq (shR x).length 2 = true from rfl, cond_true, wrN, hs, e1, show allOne (shR x) = true from rfl, Bool.and_self]
    exact optK_of e2 (hR _ hset_eq fun _ hi => hset_other hi)
  refine wr h.dt hi fun s1 h1 u1 => wr h1 (by simpa using hj) fun s2 h2 u2 => ?_
  refine hK _ ⟨⟨t, ?_⟩, h2, fun x hx => h.rg x ((swp_perm hi hj).mem_iff.1 hx), by rw [swp_len]; exact h.ln⟩ ((u1.keep (fp := fun b => b = sb) rfl).trans (u2.keep (fp := fun b => b = sb) rfl))
  rw [u2 o hos, u1 o hos, swp_len]; exact ho
abbrev qv (o : Nat) : AVal := .ifc 71 (.agg [.ptr o 0])
theorem meth_Len : methodA Try.prog 71 (.agg [.ptr o 0]) "Len" = ret (75, .ptr o 0) := by kernel_rfl
theorem meth_Less : methodA Try.prog 71 (.agg [.ptr o 0]) "Less" = ret (55, .ptr o 0) := by kernel_rfl
theorem meth_Swap : methodA Try.prog 71 (.agg [.ptr o 0]) "Swap" = ret (76, .ptr o 0) := by kernel_rfl
theorem mLen_in (h : QAt s o sb q) (hK : K (.int .i64 (q.length : Int)) s) : methK Try.prog XX (qv o) "Len" [] K s := by
  show wpF (fun _ => methodA Try.prog 71 (.agg [.ptr o 0]) "Len") _ s
  rw [meth_Len]
  obtain ⟨t, ho⟩ := h.ob
  refine wpF.ret ⟨by kernel_rfl, vc_spread_order_Len_in ?_⟩
  simp only [vc_spread_order_Len, nilCheck_ptr, addOff_ptr, optK_mk, rd1_mk ho, Nat.zero_add, List.getElem?_cons_zero, lenOf_slc]
  exact hK
theorem mLess_in {i j : Nat} (h : QAt s o sb q) (hi : i < q.length) (hj : j < q.length) (hK : ∀ s', Sub s s' → K (.bool (decide (ky q i < ky q j))) s') : methK Try.prog XX (qv o) "Less" [.int .i64 (i : Int), .int .i64 (j : Int)] K s := by
  show wpF (fun _ => methodA Try.prog 71 (.agg [.ptr o 0]) "Less") _ s
  rw [meth_Less]
  exact wpF.ret ⟨by kernel_rfl, Less_in h hi hj hK⟩
theorem mSwap_in {i j : Nat} (h : QAt s o sb q) (hi : i < q.length) (hj : j < q.length) (hK : ∀ s', QAt s' o sb (swp q i j) → KeepBut (fun b => b = sb) s s' → K (.tup []) s') : methK Try.prog XX (qv o) "Swap" [.int .i64 (i : Int), .int .i64 (j : Int)] K s := by
  show wpF (fun _ => methodA Try.prog 71 (.agg [.ptr o 0]) "Swap") _ s
  rw [meth_Swap]
  exact wpF.ret ⟨by kernel_rfl, Swap_in h hi hj hK⟩
end Go.AM
namespace Go.AM
open Go Go.Proofs
variable {K : AVal → Heap → Prop} {s : Heap} {o sb : Nat} {q : List Shr}
theorem QAt.of {q : List Shr} (h : QAt s o sb q) {s' : Heap} {q' : List Shr} (hd : s' sb = some (false, .cells 89 (flatQ q'))) (hp : q'.length = q.length) (hr : ∀ x ∈ q', 0 ≤ x.1 ∧ x.1 < 1000) (hk : KeepBut (fun b => b = sb) s s') : QAt s' o sb q' := by
  obtain ⟨t, ho⟩ := h.ob
  have hos : ¬ o = sb := by rintro rfl; rw [h.dt] at ho; cases ho
  exact ⟨⟨t, by rw [hp]; exact hk _ _ ho hos⟩, hd, hr, by rw [hp]; exact h.ln⟩
/-- sift down -/
theorem down_in {i0 : Nat} (h : QAt s o sb q) (hd : Hp q (i0 + 1)) (h0 : i0 < q.length) (hK : ∀ s' q' b, QAt s' o sb q' → q'.Perm q → Hp q' i0 → KeepBut (fun b => b = sb) s s' → (b = false → q' = q) → ((∀ j, 0 < j → j < q.length → (j - 1) / 2 = i0 → ky q i0 ≤ ky q j) → b = false) → K (.bool b) s') : wpCall Try.prog XX 56 [qv o, .int .i64 (i0 : Int), .int .i64 (q.length : Int)] K s := by
  refine vc_container_heap_down_in ?_
  refine ⟨fun ys s1 n => ∃ (i : Nat) (q1 : List Shr), ys = [.int .i64 i] ∧ n = q.length - i ∧ i < q.length ∧ QAt s1 o sb q1 ∧ q1.Perm q ∧ Dn q1 i0 i ∧ KeepBut (fun b => b = sb) s s1 ∧ (i = i0 → q1 = q) ∧ ((∀ j, 0 < j → j < q.length → (j - 1) / 2 = i0 → ky q i0 ≤ ky q j) → i = i0), ⟨_, i0, q, rfl, rfl, h0, h, .refl q, hd.dn, .refl _ s, fun _ => rfl, fun _ => rfl⟩, ?_⟩
  rintro f s1 n ⟨i, q1, hy, rfl, hi, z, hp, dn, kp, same, stay⟩
  simp only [List.cons.injEq, and_true] at hy
  rw [hy]
  have hlen := hp.length_eq
  have hl := h.ln
  have m1 : IntKind.i64.wrap (2 * (i : Int)) = ((2 * i : Nat) : Int) := by rw [wrap64 (by omega) (by omega)]; omega
  have m2 : IntKind.i64.wrap (((2 * i : Nat) : Int) + 1) = ((2 * i + 1 : Nat) : Int) := by rw [wrap64 (by omega) (by omega)]; omega
  have m3 : IntKind.i64.wrap (((2 * i + 1 : Nat) : Int) + 1) = ((2 * i + 2 : Nat) : Int) := by rw [wrap64 (by omega) (by omega)]; omega
  simp only [vc_container_heap_down_l1, arith_mul, optK_mk, m1, arith_add, m2, arith_geq, arith_lss]
  have fin : ∀ s2, Sub s1 s2 → (∀ j, 0 < j → j < q1.length → (j - 1) / 2 = i → ky q1 i ≤ ky q1 j) → vc_container_heap_down_j0 XX (.int .i64 (i0 : Int)) (.int .i64 (i : Int)) K s2 := by
    intro s2 hs hc
    simp only [vc_container_heap_down_j0, arith_gtr, optK_mk]
    refine hK s2 q1 _ (z.sub hs) hp (dn.done hc) (kp.trans hs.keep) (fun hb => same ?_) fun hst => ?_
    · have := of_decide_eq_false hb
      have := dn.le
      omega
    · rw [stay hst, decide_eq_false_iff_not]
      omega
  by_cases hc : q.length ≤ 2 * i + 1
  · have e1 : decide ((q.length : Int) ≤ ((2 * i + 1 : Nat) : Int)) = true := by rw [decide_eq_true_eq]; omega
    rw [e1]
    simp only [boolK_true, vc_container_heap_down_j2, pickV_true, optK_mk]
    exact fin s1 (.refl s1) fun j a b c => by omega
  · have e1 : decide ((q.length : Int) ≤ ((2 * i + 1 : Nat) : Int)) = false := by rw [decide_eq_false_iff_not]; omega
    have e2 : decide (((2 * i + 1 : Nat) : Int) < 0) = false := by rw [decide_eq_false_iff_not]; omega
    rw [e1, e2]
    simp only [boolK_false, vc_container_heap_down_j2, pickV_false, optK_mk, arith_add, m3, arith_lss]
    -- what comes once the child is chosen
    have go : ∀ (s2 : Heap) (j : Nat), Sub s1 s2 → j < q1.length → (j = 2 * i + 1 ∨ j = 2 * i + 2) → (∀ m, 0 < m → m < q1.length → (m - 1) / 2 = i → ky q1 j ≤ ky q1 m) →
        vc_container_heap_down_j4 XX (qv o) (.int .i64 (i0 : Int)) (.int .i64 (i : Int)) (.int .i64 (j : Int)) (fun ys s1 n => ∃ (i : Nat) (q1 : List Shr), ys = [.int .i64 i] ∧ n = q.length - i ∧ i < q.length ∧ QAt s1 o sb q1 ∧ q1.Perm q ∧ Dn q1 i0 i ∧ KeepBut (fun b => b = sb) s s1 ∧ (i = i0 → q1 = q) ∧ ((∀ j, 0 < j → j < q.length → (j - 1) / 2 = i0 → ky q i0 ≤ ky q j) → i = i0)) (q.length - i) K s2 := by
      intro s2 j hs hj hc2 hmin
      unfold vc_container_heap_down_j4
      refine mLess_in (z.sub hs) hj (by omega) fun s3 hs3 => ?_
      simp only [unary_not, optK_mk]
      refine boolK_mk (fun hb => ?_) (fun hb => ?_)
      · have hb : ¬ ky q1 j < ky q1 i := by simpa using hb
        exact fin s3 (hs.trans hs3) fun m a b c => by have := hmin m a b c; omega
      · have hb : ky q1 j < ky q1 i := by simpa using hb
        refine mSwap_in (z.sub (hs.trans hs3)) (by omega) hj fun s4 z4 k4 => ?_
        refine ⟨_, ?_, j, _, rfl, rfl, by omega, z4, (swp_perm (by omega) hj).trans hp, dn.swap hj hc2 hb hmin, (kp.trans (hs.trans hs3).keep).trans k4, fun e => ?_, fun hst => ?_⟩
        · omega
        · have := dn.le; omega
        · have e1 := stay hst
          have e2 := same e1
          subst e1
          rw [e2] at hb
          have := hst j (by omega) (by omega) (by omega)
          omega
    refine boolK_mk (fun hb => ?_) (fun hb => ?_)
    · have hb2 : 2 * i + 2 < q.length := by have := of_decide_eq_true hb; omega
      rw [hb]
      refine mLess_in z (by omega) (by omega) fun s2 hs2 => ?_
      simp only [vc_container_heap_down_j3, pickV_true, optK_mk]
      refine boolK_mk (fun hl2 => ?_) (fun hl2 => ?_)
      · have hl2 := of_decide_eq_true hl2
        exact go s2 (2 * i + 2) hs2 (by omega) (.inr rfl) fun m a b c => by
          have : m = 2 * i + 1 ∨ m = 2 * i + 2 := by omega
          rcases this with rfl | rfl
          · omega
          · exact Int.le_refl _
      · have hl2 := of_decide_eq_false hl2
        exact go s2 (2 * i + 1) hs2 (by omega) (.inl rfl) fun m a b c => by
          have : m = 2 * i + 1 ∨ m = 2 * i + 2 := by omega
          rcases this with rfl | rfl
          · exact Int.le_refl _
          · omega
    · have hb2 : ¬ 2 * i + 2 < q.length := by have := of_decide_eq_false hb; omega
      rw [hb]
      simp only [vc_container_heap_down_j3, pickV_false, optK_mk, boolK_false]
      exact go s1 (2 * i + 1) (.refl s1) (by omega) (.inl rfl) fun m a b c => by
        have : m = 2 * i + 1 := by omega
        subst this
        exact Int.le_refl _
/-- sift up -/
theorem up_in {j0 : Nat} (h : QAt s o sb q) (hu : Up q j0) (h0 : j0 < q.length) (hK : ∀ s' q', QAt s' o sb q' → q'.Perm q → Hp q' 0 → KeepBut (fun b => b = sb) s s' → K (.tup []) s') : wpCall Try.prog XX 57 [qv o, .int .i64 (j0 : Int)] K s := by
  refine vc_container_heap_up_in ?_
  refine ⟨fun ys s1 n => ∃ (j : Nat) (q1 : List Shr), ys = [.int .i64 j] ∧ n = j ∧ j < q.length ∧ QAt s1 o sb q1 ∧ q1.Perm q ∧ Up q1 j ∧ KeepBut (fun b => b = sb) s s1, ⟨_, j0, q, rfl, rfl, h0, h, .refl q, hu, .refl _ s⟩, ?_⟩
  rintro f s1 n ⟨j, q1, hy, rfl, hj, z, hp, up, kp⟩
  simp only [List.cons.injEq, and_true] at hy
  rw [hy]
  have hlen := hp.length_eq
  have hl := h.ln
  simp only [vc_container_heap_up_l0, arith_sub, optK_mk]
  rw [wrap64 (by omega) (by omega)]
  simp only [arith_quo (show (2 : Int) ≠ 0 by omega), optK_mk]
  have e1 : ((n : Int) - 1).tdiv 2 = (((n - 1) / 2 : Nat) : Int) := by
    cases n with
    | zero => rfl
    | succ m =>
      rw [show ((m + 1 : Nat) : Int) - 1 = (m : Int) by omega, show m + 1 - 1 = m by omega, Int.tdiv_eq_ediv_of_nonneg (by omega)]
      rfl
  rw [e1, wrap64 (by omega) (by omega)]
  simp only [eqV_int, negB_mk, Bool.false_bne, optK_mk]
  cases n with
  | zero =>
    simp only [show ((((0 - 1) / 2 : Nat) : Int) == ((0 : Nat) : Int)) = true from rfl, boolK_true, vc_container_heap_up_j1, pickV_true, optK_mk]
    exact hK s1 q1 z hp (up.done fun h => absurd h (by omega)) kp
  | succ m =>
    have e2 : ((((m + 1 - 1) / 2 : Nat) : Int) == ((m + 1 : Nat) : Int)) = false := by
      cases hq : ((((m + 1 - 1) / 2 : Nat) : Int) == ((m + 1 : Nat) : Int)) with
      | false => rfl
      | true => have := eq_of_beq hq; omega
    rw [e2]
    simp only [boolK_false]
    refine mLess_in z (by omega) (by omega) fun s2 hs2 => ?_
    simp only [unary_not, optK_mk, vc_container_heap_up_j1, pickV_false]
    refine boolK_mk (fun hb => ?_) (fun hb => ?_)
    · have hb : ¬ ky q1 (m + 1) < ky q1 ((m + 1 - 1) / 2) := by simpa using hb
      exact hK s2 q1 (z.sub hs2) hp (up.done fun _ => by omega) (kp.trans hs2.keep)
    · have hb : ky q1 (m + 1) < ky q1 ((m + 1 - 1) / 2) := by simpa using hb
      refine mSwap_in (z.sub hs2) (by omega) (by omega) fun s3 z3 k3 => ?_
      exact ⟨_, by omega, _, _, rfl, rfl, by omega, z3, (swp_perm (by omega) (by omega)).trans hp, up.swap (by omega) (by omega) hb, (kp.trans hs2.keep).trans k3⟩
theorem Init_in (h : QAt s o sb q) (hK : ∀ s' q', QAt s' o sb q' → q'.Perm q → Hp q' 0 → KeepBut (fun b => b = sb) s s' → K (.tup []) s') : wpCall Try.prog XX 53 [qv o] K s := by
  refine vc_container_heap_Init_in (mLen_in h ?_)
  have hl := h.ln
  have e1 : (q.length : Int).tdiv 2 = ((q.length / 2 : Nat) : Int) := by rw [Int.tdiv_eq_ediv_of_nonneg (by omega)]; rfl
  simp only [arith_quo (show (2 : Int) ≠ 0 by omega), optK_mk, e1]
  rw [wrap64 (by omega) (by omega)]
  simp only [arith_sub, optK_mk]
  rw [wrap64 (by omega) (by omega)]
  refine ⟨fun ys s1 n => ∃ (j : Nat) (q1 : List Shr), ys = [.int .i64 ((j : Int) - 1)] ∧ n = j ∧ j ≤ q.length / 2 ∧ QAt s1 o sb q1 ∧ q1.Perm q ∧ Hp q1 j ∧ KeepBut (fun b => b = sb) s s1, ⟨_, q.length / 2, q, rfl, rfl, by omega, h, .refl q, .leaf (by omega), .refl _ s⟩, ?_⟩
  rintro f s1 n ⟨j, q1, hy, rfl, hj, z, hp, hh, kp⟩
  simp only [List.cons.injEq, and_true] at hy
  rw [hy]
  have hlen := hp.length_eq
  simp only [vc_container_heap_Init_l0, arith_geq, optK_mk]
  refine boolK_mk (fun hb => ?_) (fun hb => ?_)
  · have hb := of_decide_eq_true hb
    obtain ⟨i, rfl⟩ : ∃ i, n = i + 1 := ⟨n - 1, by omega⟩
    rw [show ((i + 1 : Nat) : Int) - 1 = (i : Int) by omega, ← hlen]
    refine down_in z hh (by omega) fun s2 q2 b z2 p2 h2 k2 _ _ => ?_
    simp only [arith_sub, optK_mk]
    rw [wrap64 (by omega) (by omega)]
    exact ⟨_, by omega, i, q2, rfl, rfl, by omega, z2, p2.trans hp, h2, kp.trans k2⟩
  · have hb := of_decide_eq_false hb
    obtain rfl : n = 0 := by omega
    exact hK s1 q1 z hp hh kp
end Go.AM
namespace Go.AM
open Go Go.Proofs
variable {K : AVal → Heap → Prop} {s : Heap} {o sb : Nat} {q : List Shr}
/-- the load of one changes -/
def upd2 (q : List Shr) (i : Nat) (d : Int) : List Shr := q.set i ((at0 q i).1, (at0 q i).2 + d)
theorem upd2_len (q : List Shr) (i : Nat) (d : Int) : (upd2 q i d).length = q.length := by simp [upd2]
theorem ky_upd2 {i m : Nat} {d : Int} (hi : i < q.length) : ky (upd2 q i d) m = if m = i then ky q i + d * 1000 else ky q m := by
  unfold ky upd2
  rw [at0_set hi]
  split
  · unfold key; simp only; omega
  · rfl
theorem upd2_rg {i : Nat} {d : Int} (hi : i < q.length) (hr : ∀ x ∈ q, 0 ≤ x.1 ∧ x.1 < 1000) : ∀ x ∈ upd2 q i d, 0 ≤ x.1 ∧ x.1 < 1000 := fun x hx => by
  rcases List.mem_or_eq_of_mem_set hx with h | rfl
  · exact hr x h
  · exact hr (at0 q i) (by rw [at0_get hi]; exact List.getElem_mem hi)
/-- up to the call of Fix -/
theorem change_in {i : Nat} {d : Int} (h : QAt s o sb q) (hi : i < q.length) (hd : -1 ≤ d ∧ d ≤ 1) (hb : 0 ≤ (at0 q i).2 ∧ (at0 q i).2 ≤ 100000)
    (hK : ∀ s', QAt s' o sb (upd2 q i d) → KeepBut (fun b => b = sb) s s' → wpCall Try.prog XX 54 [qv o, .int .i64 (i : Int)] (fun _ s'' => K (.tup []) s'') s') : wpCall Try.prog XX 48 [.agg [.ptr o 0], .int .i64 (i : Int), .int .i64 d] K s := by
  refine vc_spread_queue_change_in ⟨rfl, new_step fun b s1 hb1 h1 u1 => ?_⟩
  have z1 := h.sub (u1.sub hb1)
  obtain ⟨t, ho⟩ := z1.ob
  have h1 : s1 b = some (false, .cells 71 [.ptr o 0]) := h1
  have r := (z1.row hi).2.2
  simp only [addOff_ptr, optK_mk, rd1_mk h1, rd1_mk ho, Nat.zero_add, List.getElem?_cons_zero, nilCheck_ptr, q_addr hi, r, arith_add]
  rw [wrap64 (by omega) (by omega)]
  refine wr1_step z1.dt (by rw [flatQ_len]; omega) rfl fun s2 h2 u2 => ?_
  have hbs : b ≠ sb := by rintro rfl; rw [h.dt] at hb1; cases hb1
  refine optK_of (rdN_all ((u2 b hbs).trans h1) rfl) ?_
  refine hK s2 (z1.of (by rw [flatQ_set1 hi] at h2; exact h2) (upd2_len _ _ _) (upd2_rg hi h.rg) (u2.keep (fp := fun b => b = sb) rfl)) ((u1.sub hb1).keep.trans (u2.keep (fp := fun b => b = sb) rfl))
theorem change0_in (h : QAt s o sb q) (hh : Hp q 0) (hi : 0 < q.length) (hb : 0 ≤ (at0 q 0).2 ∧ (at0 q 0).2 ≤ 100000)
    (hK : ∀ s' q', QAt s' o sb q' → q'.Perm (upd2 q 0 1) → Hp q' 0 → KeepBut (fun b => b = sb) s s' → K (.tup []) s') : wpCall Try.prog XX 48 [.agg [.ptr o 0], .int .i64 0, .int .i64 1] K s := by
  refine change_in (i := 0) h hi (by omega) hb fun s1 z1 k1 => ?_
  refine vc_container_heap_Fix_in (mLen_in z1 ?_)
  have hd : Hp (upd2 q 0 1) 1 := fun j h0 h1 h2 => by
    rw [upd2_len] at h1
    rw [ky_upd2 hi, ky_upd2 hi, if_neg (by omega), if_neg (by omega)]
    exact hh j h0 h1 (by omega)
  refine down_in (i0 := 0) z1 hd (by rw [upd2_len]; exact hi) fun s2 q2 b z2 p2 h2 k2 same _ => ?_
  simp only [unary_not, optK_mk]
  refine boolK_mk (fun _ => ?_) (fun _ => hK s2 q2 z2 p2 h2 (k1.trans k2))
  refine up_in (j0 := 0) z2 ⟨fun m m0 m1 _ => h2 m m0 m1 (by omega), fun h => absurd h (by omega)⟩ (by rw [p2.length_eq, upd2_len]; exact hi) fun s3 q3 z3 p3 h3 k3 => hK s3 q3 z3 (p3.trans p2) h3 ((k1.trans k2).trans k3)
theorem changeM_in {i : Nat} (h : QAt s o sb q) (hh : Hp q 0) (hi : i < q.length) (hb : 0 ≤ (at0 q i).2 ∧ (at0 q i).2 ≤ 100000)
    (hK : ∀ s' q', QAt s' o sb q' → q'.Perm (upd2 q i (-1)) → Hp q' 0 → KeepBut (fun b => b = sb) s s' → K (.tup []) s') : wpCall Try.prog XX 48 [.agg [.ptr o 0], .int .i64 (i : Int), .int .i64 (-1)] K s := by
  refine change_in h hi (by omega) hb fun s1 z1 k1 => ?_
  refine vc_container_heap_Fix_in (mLen_in z1 ?_)
  have hd : Hp (upd2 q i (-1)) (i + 1) := fun j h0 h1 h2 => by
    rw [upd2_len] at h1
    rw [ky_upd2 hi, ky_upd2 hi, if_neg (by omega), if_neg (by omega)]
    exact hh j h0 h1 (by omega)
  have hi1 : i < (upd2 q i (-1)).length := by rw [upd2_len]; exact hi
  refine down_in (i0 := i) z1 hd hi1 fun s2 q2 b z2 p2 h2 k2 same stay => ?_
  have hb : b = false := stay fun j h0 h1 h2 => by
    rw [upd2_len] at h1
    rw [ky_upd2 hi, ky_upd2 hi, if_pos rfl, if_neg (by omega)]
    have := hh j h0 h1 (by omega)
    rw [h2] at this
    omega
  subst hb
  have e2 := same rfl
  subst e2
  simp only [unary_not, Bool.not_false, optK_mk, boolK_true]
  refine up_in (j0 := i) z2 ⟨fun m m0 m1 m2 => ?_, fun i0 m m0 m1 m2 => ?_⟩ hi1 fun s3 q3 z3 p3 h3 k3 => hK s3 q3 z3 p3 h3 ((k1.trans k2).trans k3)
  · rw [upd2_len] at m1
    rw [ky_upd2 hi, ky_upd2 hi, if_neg m2]
    have := hh m m0 m1 (by omega)
    split
    · rename_i e; rw [e] at this; omega
    · exact this
  · rw [upd2_len] at m1
    rw [ky_upd2 hi, ky_upd2 hi, if_neg (show (i - 1) / 2 ≠ i by omega), if_neg (show m ≠ i by omega)]
    have a := hh m m0 m1 (by omega)
    have b := hh i i0 hi (by omega)
    rw [m2] at a
    omega
theorem most_in (h : QAt s o sb q) (hq : 0 < q.length) (hK : ∀ s' (m : Nat), Sub s s' → m < q.length → (∀ j, j < q.length → ky q j ≤ ky q m) → K (.int .i64 (m : Int)) s') : wpCall Try.prog XX 49 [.agg [.ptr o 0]] K s := by
  refine vc_spread_queue_most_in ⟨rfl, new_step fun b s1 hb1 h1 u1 => ?_⟩
  have sub1 := u1.sub hb1
  have z1 := h.sub sub1
  obtain ⟨t, ho⟩ := z1.ob
  have h1 : s1 b = some (false, .cells 71 [.ptr o 0]) := h1
  have hl := h.ln
  simp only [addOff_ptr, optK_mk, rd1_mk h1, rd1_mk ho, Nat.zero_add, List.getElem?_cons_zero, nilCheck_ptr, lenOf_slc]
  refine ⟨fun ys s2 n => ∃ (m i : Nat), ys = [.int .i64 m, .int .i64 i] ∧ n = q.length - i ∧ i ≤ q.length ∧ m < q.length ∧ (∀ j, j < i → ky q j ≤ ky q m) ∧ Sub s1 s2, ⟨_, 0, 0, rfl, rfl, by omega, hq, by omega, .refl s1⟩, ?_⟩
  rintro f s2 n ⟨m, i, hy, rfl, hi, hm, hb, sub2⟩
  simp only [List.cons.injEq, and_true] at hy
  rw [hy.1, hy.2]
  have z2 := z1.sub sub2
  simp only [vc_spread_queue_most_l0, arith_lss, optK_mk]
  refine boolK_mk (fun hlt => ?_) (fun hge => ?_)
  · have hlt : i < q.length := by have := of_decide_eq_true hlt; omega
    simp only [addOff_ptr, optK_mk, rd1_mk (sub2 _ _ h1), Nat.zero_add, List.getElem?_cons_zero]
    refine Less_in z2 hm hlt fun s3 sub3 => ?_
    simp only [vc_spread_queue_most_j1, arith_add, optK_mk]
    rw [wrap64 (by omega) (by omega)]
    refine boolK_mk (fun hb2 => ?_) (fun hb2 => ?_)
    · have hb2 := of_decide_eq_true hb2
      refine ⟨_, by omega, i, i + 1, rfl, rfl, by omega, hlt, fun j hj => ?_, sub2.trans sub3⟩
      by_cases e : j = i
      · subst e; exact Int.le_refl _
      · have := hb j (by omega); omega
    · have hb2 := of_decide_eq_false hb2
      refine ⟨_, by omega, m, i + 1, rfl, rfl, by omega, hm, fun j hj => ?_, sub2.trans sub3⟩
      by_cases e : j = i
      · subst e; omega
      · exact hb j (by omega)
  · have hge : q.length ≤ i := by have := of_decide_eq_false hge; omega
    exact hK s2 m (sub1.trans sub2) hm fun j hj => hb j (by omega)
theorem build_in (h : QAt s o sb q) (hK : ∀ s' q', QAt s' o sb q' → q'.Perm q → Hp q' 0 → KeepBut (fun b => b = sb) s s' → K (.tup []) s') : wpCall Try.prog XX 47 [.agg [.ptr o 0]] K s := by
  refine vc_spread_queue_build_in ⟨rfl, new_step fun b s1 hb1 h1 u1 => optK_of (rdN_all h1 rfl) ?_⟩
  exact Init_in (h.sub (u1.sub hb1)) fun s2 q2 z2 p2 h2 k2 => hK s2 q2 z2 p2 h2 ((u1.sub hb1).keep.trans k2)
end Go.AM
namespace Go.AM
open Go Go.Proofs
variable {K : AVal → Heap → Prop} {s : Heap}
/-! ### wheels -/
abbrev Sli (s : Heap) (v : AVal) (l : List Int) : Prop := Sl s v (l.map (AVal.int .i64))
theorem sli_at {v : AVal} {l : List Int} (h : Sli s v l) {k : Nat} (hk : k < l.length) : ∃ p, iaddrS 1 v (.int .i64 (k : Int)) = some p ∧ rd1 s p = some (.int .i64 l[k]) := by
  obtain ⟨p, h1, h2⟩ := h.get (i := k) (by simpa using hk)
  exact ⟨p, h1, by rw [h2]; simp [hk]⟩
abbrev ints (l : List Int) : List AVal := l.map (AVal.int .i64)
theorem b_addr {bb n i : Nat} {cap : Option Nat} (hi : i < n) : iaddrS 1 (.slc bb 0 n cap 1) (.int .i64 (i : Int)) = some (.ptr bb i) := by
  have : Nat.blt i n = true := by rw [Nat.blt_eq]; exact hi
  simp [iaddrS, this]
theorem ints_at {B : List Int} {i : Nat} (hi : i < B.length) : (ints B)[i]? = some (.int .i64 B[i]) := by simp [ints, hi]
theorem ints_set {B : List Int} {i : Nat} {v : Int} : (ints B).set i (.int .i64 v) = ints (B.set i v) := by simp [ints, List.map_set]
theorem Sub.upto {s s' s'' : Heap} {b : Nat} (h : Sub s s') (u : Upto b s' s'') (hb : s b = none) : Sub s s'' := fun i e hi => by rw [u i (ne_of_some hb hi)]; exact h i e hi
/-- the number of buckets of a member; a bucket holds its member's number plus 1, or 0 -/
def ld (B : List Int) (m : Int) : Nat := B.count (m + 1)
/-- a wheel in memory: its buckets lie in a block of its own -/
structure WAt (s : Heap) (w bb : Nat) (mv : AVal) (cap : Option Nat) (B M : List Int) : Prop where
  wb : s w = some (false, .cells 53 [.slc bb 0 B.length cap 1, mv])
  bs : s bb = some (false, .cells 3 (ints B))
  ms : Sli s mv M
  cp : ∀ c, cap = some c → B.length ≤ c
  pos : 1 ≤ B.length ∧ B.length ≤ 256
variable {w bb : Nat} {mv : AVal} {cap : Option Nat} {B M : List Int}
theorem WAt.sub {s' : Heap} (h : WAt s w bb mv cap B M) (hs : Sub s s') : WAt s' w bb mv cap B M := ⟨hs _ _ h.wb, hs _ _ h.bs, h.ms.sub hs, h.cp, h.pos⟩
theorem WAt.ne (h : WAt s w bb mv cap B M) : w ≠ bb := by
  rintro rfl
  have := h.wb
  rw [h.bs] at this
  cases this
theorem valid_rd {t1 : Bool} {n : Nat} (hw : s w = some (t1, .cells 53 [.slc bb 0 n cap 1, mv])) (hp : 1 ≤ n) (hK : K (.bool true) s) : wpCall Try.prog XX 32 [.ptr w 0] K s := by
  refine vc_spread_Wheel_valid_in ?_
  have hp : decide ((0 : Int) < (n : Int)) = true := by rw [decide_eq_true_eq]; omega
  simp only [vc_spread_Wheel_valid, eqV_ptr, negB_mk, Bool.bne_false, optK_mk, boolK_true, nilCheck_ptr, addOff_ptr, rd1_mk hw, Nat.zero_add, List.getElem?_cons_zero, lenOf_slc, arith_gtr, hp, vc_spread_Wheel_valid_j0, pickV_true]
  exact hK
theorem valid_in (h : WAt s w bb mv cap B M) (hK : K (.bool true) s) : wpCall Try.prog XX 32 [.ptr w 0] K s := by
  refine vc_spread_Wheel_valid_in ?_
  have hp : decide ((0 : Int) < (B.length : Int)) = true := by have := h.pos; rw [decide_eq_true_eq]; omega
  simp only [vc_spread_Wheel_valid, eqV_ptr, negB_mk, Bool.bne_false, optK_mk, boolK_true, nilCheck_ptr, addOff_ptr, rd1_mk h.wb, Nat.zero_add, List.getElem?_cons_zero, lenOf_slc, arith_gtr, hp, vc_spread_Wheel_valid_j0, pickV_true]
  exact hK
theorem New_in {n : Nat} (h1 : 1 ≤ n) (h2 : n ≤ 256) (hK : ∀ w bb s', s w = none → s bb = none → Sub s s' → WAt s' w bb .nilslc (some n) (List.replicate n 0) [] → K (.tup [.ptr w 0, .int .i64 0]) s') : wpCall Try.prog XX 10 [.int .i64 (n : Int)] K s := by
  refine vc_spread_New_in ?_
  have e1 : decide ((n : Int) < 1) = false := by rw [decide_eq_false_iff_not]; omega
  have e2 : decide ((256 : Int) < (n : Int)) = false := by rw [decide_eq_false_iff_not]; omega
  simp only [vc_spread_New, arith_lss, arith_gtr, e1, e2, optK_mk, boolK_false, vc_spread_New_j0, pickV_false, nat?_mk]
  refine ⟨⟨Nat.le_refl _, by omega⟩, new_step fun bb s1 hb hb1 u1 => ?_⟩
  refine optK_of (a := [.slc bb 0 n (some n) 1, .nilslc]) rfl ⟨rfl, new_step fun w s2 hw hw2 u2 => ?_⟩
  have hbb : s2 bb = some (false, .cells 3 (ints (List.replicate n 0))) := by
    rw [u2.at hb1 hw, repl_one]
    simp [ints]
  have hws : s w = none := by
    cases e : s w with
    | none => rfl
    | some x => rw [u1.sub hb w x e] at hw; cases hw
  refine hK w bb s2 hws hb ((u1.sub hb).trans (u2.sub hw)) ⟨?_, hbb, .inl ⟨rfl, rfl⟩, fun c e => by cases e; simp, by simp; omega⟩
  rw [List.length_replicate]; exact hw2
/-- a copy -/
theorem Clone_in {v : AVal} {l : List Int} (h : Sli s v l) (hl : l.length ≤ 100000) (hK : ∀ v' s', Sub s s' → Sli s' v' l → (l ≠ [] → ∃ c, s c = none ∧ v' = .slc c 0 l.length none 1 ∧ s' c = some (false, .cells 3 (ints l))) → K v' s') : wpCall Try.prog XX 33 [v] K s := by
  refine vc_slices_Clone___int_int__in ?_
  have cases0 : (v = .nilslc ∧ l = []) ∨ ∃ b o c, v = .slc b o l.length c 1 := by
    rcases h with ⟨a, b⟩ | ⟨b, o, c, a, _⟩
    · exact .inl ⟨a, by simpa using b⟩
    · exact .inr ⟨b, o, c, by simpa using a⟩
  rcases cases0 with ⟨rfl, rfl⟩ | ⟨b, o, c, rfl⟩
  · simp only [vc_slices_Clone___int_int_, eqV_nilslc, negB_mk, Bool.false_bne, optK_mk, boolK_true]
    exact hK _ _ (.refl s) (.inl ⟨rfl, rfl⟩) fun h => absurd rfl h
  · simp only [vc_slices_Clone___int_int_, eqV_slc, negB_mk, Bool.false_bne, optK_mk, boolK_false]
    refine optK_of (a := []) rfl ⟨rfl, new_step fun d s1 hd h1 u1 => ?_⟩
    refine app_copy (h.sub (u1.sub hd)) (by simp; omega) fun v' s2 sub2 g1 g2 => hK _ _ ((u1.sub hd).trans sub2) ?_ fun hne => ?_
    · by_cases hm : l.map (AVal.int .i64) = []
      · rw [g1 hm]
        unfold Sli; rw [hm]
        exact .inr ⟨d, 0, some 0, rfl, by simp, fun h => absurd rfl h⟩
      · obtain ⟨c, _, rfl, hc⟩ := g2 hm
        exact Sl.mk hc rfl (by simp)
    · obtain ⟨c, hc0, e, hc⟩ := g2 (by simpa using hne)
      refine ⟨c, ?_, by simpa using e, hc⟩
      cases q : s c with
      | none => rfl
      | some x => rw [u1.sub hd c x q] at hc0; cases hc0
theorem Buckets_in (h : WAt s w bb mv cap B M) (hr : ∀ b ∈ B, 0 ≤ b ∧ b ≤ 1000) (hK : ∀ v' s', Sub s s' → Sli s' v' (B.map (· - 1)) → (∃ c, s c = none ∧ v' = .slc c 0 B.length none 1 ∧ s' c = some (false, .cells 3 (ints (B.map (· - 1))))) → K v' s') : wpCall Try.prog XX 13 [.ptr w 0] K s := by
  refine vc_spread_Wheel_Buckets_in (valid_in h ?_)
  have hp := h.pos
  have hb : Sli s (.slc bb 0 B.length cap 1) B := Sl.mk h.bs (by simp) (by simpa using h.cp)
  simp only [unary_not, Bool.not_true, optK_mk, boolK_false, nilCheck_ptr, addOff_ptr, rd1_mk h.wb, Nat.zero_add, List.getElem?_cons_zero]
  refine Clone_in hb (by omega) fun v1 s1 sub1 _ g1 => ?_
  obtain ⟨c, hc0, rfl, hc⟩ := g1 (by intro e; rw [e] at hp; simp at hp)
  simp only [lenOf_slc, optK_mk]
  refine ⟨fun ys s2 n => ∃ i : Nat, ys = [.int .i64 i] ∧ i ≤ B.length ∧ n = B.length - i ∧ s2 c = some (false, .cells 3 (ints ((B.take i).map (· - 1) ++ B.drop i))) ∧ Sub s s2, ⟨_, 0, rfl, by omega, rfl, by simpa using hc, sub1⟩, ?_⟩
  rintro f s2 n ⟨i, hy, hi, rfl, h2, sub2⟩
  simp only [List.cons.injEq, and_true] at hy
  rw [hy]
  simp only [vc_spread_Wheel_Buckets_l0, arith_lss, optK_mk]
  refine boolK_mk (fun hlt => ?_) (fun hge => ?_)
  · have hlt : i < B.length := by have := of_decide_eq_true hlt; omega
    have e1 : (B.take i).map (· - 1) ++ B.drop i = (B.take i).map (· - 1) ++ B[i] :: B.drop (i + 1) := by rw [List.drop_eq_getElem_cons hlt]
    have e2 : ((B.take i).map (· - 1)).length = i := by rw [List.length_map, List.length_take, Nat.min_eq_left hi]
    have hrd : rd1 s2 (.ptr c i) = some (.int .i64 B[i]) := by
      rw [rd1_mk h2, e1]
      simp only [ints, List.map_append]
      rw [List.getElem?_append_right (by simp [e2]; omega)]
      simp [e2]
      have : i - min i B.length = 0 := by omega
      simp [this]
    have hbi := hr _ (List.getElem_mem hlt)
    simp only [b_addr hlt, hrd, optK_mk, arith_sub]
    rw [wrap64 (by omega) (by omega)]
    refine wr1_step h2 (by simp [ints]; omega) rfl fun s3 h3 u3 => ?_
    simp only [arith_add, optK_mk]
    rw [wrap64 (by omega) (by omega)]
    refine ⟨_, by omega, i + 1, rfl, by omega, rfl, ?_, sub2.upto u3 hc0⟩
    rw [h3, ints_set]
    congr 3
    rw [e1, List.set_append_right _ _ (by rw [e2]; omega), e2, Nat.sub_self, List.set_cons_zero, List.take_succ_eq_append_getElem hlt, List.map_append, List.append_assoc]
    rfl
  · have hge : i = B.length := by have := of_decide_eq_false hge; omega
    subst hge
    rw [List.take_length, List.drop_length, List.append_nil] at h2
    exact hK _ _ sub2 (Sl.mk h2 (by simp) (by simp)) ⟨c, hc0, rfl, h2⟩
theorem Members_in (h : WAt s w bb mv cap B M) (hl : M.length ≤ 1000) (hK : ∀ v' s', Sub s s' → Sli s' v' M → (M ≠ [] → ∃ c, s c = none ∧ v' = .slc c 0 M.length none 1 ∧ s' c = some (false, .cells 3 (ints M))) → K v' s') : wpCall Try.prog XX 16 [.ptr w 0] K s := by
  refine vc_spread_Wheel_Members_in (valid_in h ?_)
  simp only [unary_not, Bool.not_true, optK_mk, boolK_false, nilCheck_ptr, addOff_ptr, rd1_mk h.wb, Nat.zero_add, List.getElem?_cons_zero, List.getElem?_cons_succ]
  exact Clone_in h.ms (by omega) fun v1 s1 sub1 h1 g => hK _ _ sub1 h1 g
theorem Load_rd {m : Int} {t1 t2 : Bool} (hw : s w = some (t1, .cells 53 [.slc bb 0 B.length cap 1, mv])) (hbs : s bb = some (t2, .cells 3 (ints B))) (hp : 1 ≤ B.length ∧ B.length ≤ 256) (hm : 0 ≤ m ∧ m < 128) (hK : K (.int .i64 (ld B m : Nat)) s) : wpCall Try.prog XX 20 [.ptr w 0, .int .i64 m] K s := by
  refine vc_spread_Wheel_Load_in (valid_rd hw hp.1 ?_)
  have e1 : decide (m < 0) = false := by rw [decide_eq_false_iff_not]; omega
  have e2 : decide ((128 : Int) ≤ m) = false := by rw [decide_eq_false_iff_not]; omega
  simp only [unary_not, Bool.not_true, optK_mk, boolK_false, arith_lss, arith_geq, e1, e2, vc_spread_Wheel_Load_j0, vc_spread_Wheel_Load_j1, pickV_false, nilCheck_ptr, addOff_ptr, rd1_mk hw, Nat.zero_add, List.getElem?_cons_zero, lenOf_slc]
  refine ⟨fun ys s2 n => ∃ i : Nat, ys = [.int .i64 ((B.take i).count (m + 1) : Nat), .int .i64 i] ∧ s2 = s ∧ i ≤ B.length ∧ n = B.length - i, ⟨_, 0, rfl, rfl, by omega, rfl⟩, ?_⟩
  rintro f s2 n ⟨i, hy, rfl, hi, rfl⟩
  simp only [List.cons.injEq, and_true] at hy
  rw [hy.1, hy.2]
  simp only [vc_spread_Wheel_Load_l2, arith_lss, optK_mk]
  refine boolK_mk (fun hlt => ?_) (fun hge => ?_)
  · have hlt : i < B.length := by have := of_decide_eq_true hlt; omega
    simp only [b_addr hlt, rd1_mk hbs, ints_at hlt, optK_mk, arith_add]
    rw [wrap64 (n := m + 1) (by omega) (by omega)]
    simp only [eqV_int, negB_mk, Bool.false_bne, optK_mk]
    have hcnt : (B.take i).count (m + 1) ≤ B.length := Nat.le_trans List.count_le_length (by simp; omega)
    have hstep : (B.take (i + 1)).count (m + 1) = (B.take i).count (m + 1) + if B[i] == m + 1 then 1 else 0 := by
      rw [List.take_succ_eq_append_getElem hlt, List.count_append, List.count_singleton]
    cases hq : (B[i] == m + 1) with
    | true =>
      rw [hq, if_pos rfl] at hstep
      simp only [boolK_true, vc_spread_Wheel_Load_j3, optK_mk, arith_add]
      rw [wrap64 (by omega) (by omega), wrap64 (by omega) (by omega)]
      exact ⟨_, by omega, i + 1, by rw [hstep]; rfl, by trivial, by omega, rfl⟩
    | false =>
      rw [hq, if_neg (by simp)] at hstep
      simp only [boolK_false, vc_spread_Wheel_Load_j3, optK_mk, arith_add]
      rw [wrap64 (by omega) (by omega)]
      exact ⟨_, by omega, i + 1, by rw [hstep]; rfl, by trivial, by omega, rfl⟩
  · have hge : i = B.length := by have := of_decide_eq_false hge; omega
    subst hge
    rw [List.take_length]
    exact hK
theorem Load_in {m : Int} (h : WAt s w bb mv cap B M) (hm : 0 ≤ m ∧ m < 128) (hK : K (.int .i64 (ld B m : Nat)) s) : wpCall Try.prog XX 20 [.ptr w 0, .int .i64 m] K s := Load_rd h.wb h.bs h.pos hm hK
end Go.AM
namespace Go.AM
open Go Go.Proofs
variable {K : AVal → Heap → Prop} {s : Heap} {w bb : Nat} {mv : AVal} {cap : Option Nat} {B M : List Int}
/-- ascending numbers of links -/
def Asc (l : List Int) : Prop := l.Pairwise (· < ·) ∧ ∀ x ∈ l, 0 ≤ x ∧ x < 128
theorem check_in {v : AVal} {l : List Int} (h : WAt s w bb mv cap B M) (hl : Sli s v l) (ha : Asc l) (hlen : l.length ≤ B.length) (hK : K (.int .i64 0) s) : wpCall Try.prog XX 34 [.ptr w 0, v] K s := by
  refine vc_spread_Wheel_check_in ?_
  have hp := h.pos
  simp only [vc_spread_Wheel_check, hl.len, optK_mk, List.length_map]
  refine ⟨fun ys s1 n => ∃ k : Nat, ys = [.int .i64 k] ∧ s1 = s ∧ k ≤ l.length ∧ n = l.length - k, ⟨_, 0, rfl, rfl, by omega, rfl⟩, ?_⟩
  rintro f s1 n ⟨k, hy, rfl, hk, rfl⟩
  simp only [List.cons.injEq, and_true] at hy
  rw [hy]
  simp only [vc_spread_Wheel_check_l0, optK_mk, arith_lss]
  refine boolK_mk (fun hlt => ?_) (fun hge => ?_)
  · have hlt : k < l.length := by have := of_decide_eq_true hlt; omega
    obtain ⟨p, g1, g2⟩ := sli_at hl hlt
    have hr := ha.2 _ (List.getElem_mem hlt)
    have e1 : decide (l[k] < 0) = false := by rw [decide_eq_false_iff_not]; omega
    have e2 : decide ((128 : Int) ≤ l[k]) = false := by rw [decide_eq_false_iff_not]; omega
    have fin : optK (arithV .add (.int .i64 (k : Int)) (.int .i64 1)) fun v_9 => ∃ m', m' < l.length - k ∧ ∃ k_1 : Nat, [v_9] = [AVal.int .i64 k_1] ∧ True ∧ k_1 ≤ l.length ∧ m' = l.length - k_1 := by
      simp only [arith_add, optK_mk]
      rw [wrap64 (by omega) (by omega)]
      exact ⟨_, by omega, k + 1, by simp, by trivial, by omega, rfl⟩
    simp only [g1, g2, optK_mk, arith_lss, arith_geq, e1, e2, boolK_false, vc_spread_Wheel_check_j1, pickV_false, arith_gtr]
    refine boolK_mk (fun hp => ?_) (fun hp => ?_)
    · rw [hp]
      have hp : 0 < k := by have := of_decide_eq_true hp; omega
      obtain ⟨q, g3, g4⟩ := sli_at hl (k := k - 1) (by omega)
      have ew : IntKind.i64.wrap ((k : Int) - 1) = ((k - 1 : Nat) : Int) := by rw [wrap64 (by omega) (by omega)]; omega
      have hlt2 : l[k - 1] < l[k] := List.pairwise_iff_getElem.1 ha.1 (k - 1) k (by omega) hlt (by omega)
      have e3 : decide (l[k] ≤ l[k - 1]) = false := by rw [decide_eq_false_iff_not]; omega
      simp only [arith_sub, ew, g3, g4, optK_mk, arith_leq, e3, vc_spread_Wheel_check_j2, pickV_true, boolK_false]
      exact fin
    · rw [hp]
      simp only [vc_spread_Wheel_check_j2, pickV_false, optK_mk, boolK_false]
      exact fin
  · have e3 : decide ((B.length : Int) < (l.length : Int)) = false := by rw [decide_eq_false_iff_not]; omega
    simp only [hl.len, List.length_map, optK_mk, nilCheck_ptr, addOff_ptr, rd1_mk h.wb, Nat.zero_add, List.getElem?_cons_zero, lenOf_slc, arith_gtr, e3, boolK_false]
    exact hK
theorem last_in {m : Int} {t1 t2 : Bool} {mv : AVal} (hw : s w = some (t1, .cells 53 [.slc bb 0 B.length cap 1, mv])) (hbs : s bb = some (t2, .cells 3 (ints B))) (hp : 1 ≤ B.length ∧ B.length ≤ 256) (hm : 0 ≤ m ∧ m < 128) (hin : m + 1 ∈ B) (hK : ∀ i : Nat, ∀ hi : i < B.length, B[i] = m + 1 → (∀ k (hk : k < B.length), i < k → B[k] ≠ m + 1) → K (.int .i64 (i : Int)) s) : wpCall Try.prog XX 50 [.ptr w 0, .int .i64 m] K s := by
  refine vc_spread_Wheel_last_in ?_
  simp only [vc_spread_Wheel_last, nilCheck_ptr, addOff_ptr, rd1_mk hw, Nat.zero_add, List.getElem?_cons_zero, lenOf_slc, optK_mk, arith_sub]
  rw [wrap64 (by omega) (by omega)]
  refine ⟨fun ys s1 n => ∃ k : Nat, ys = [.int .i64 k] ∧ s1 = s ∧ n = k ∧ k < B.length ∧ m + 1 ∈ B.take (k + 1) ∧ ∀ j (hj : j < B.length), k < j → B[j] ≠ m + 1, ⟨_, B.length - 1, by simp; omega, rfl, rfl, by omega, by rw [List.take_of_length_le (by omega)]; exact hin, fun j hj h => by omega⟩, ?_⟩
  rintro f s1 n ⟨k, hy, rfl, rfl, hk, hmem, hlast⟩
  simp only [List.cons.injEq, and_true] at hy
  rw [hy]
  rw [List.take_succ_eq_append_getElem hk, List.mem_append, List.mem_singleton] at hmem
  simp only [vc_spread_Wheel_last_l0, arith_gtr, optK_mk]
  refine boolK_mk (fun hg => ?_) (fun hg => ?_)
  · rw [hg]
    have hg := of_decide_eq_true hg
    simp only [nilCheck_ptr, addOff_ptr, rd1_mk hw, Nat.zero_add, List.getElem?_cons_zero, optK_mk, b_addr hk, rd1_mk hbs, ints_at hk, arith_add]
    rw [wrap64 (n := m + 1) (by omega) (by omega)]
    simp only [eqV_int, negB_mk, Bool.true_bne, optK_mk, vc_spread_Wheel_last_j1, pickV_true]
    cases hq : (B[n] == m + 1) with
    | true =>
      simp only [Bool.not_true, boolK_false]
      exact hK n hk (eq_of_beq hq) hlast
    | false =>
      have hne : ¬ m + 1 = B[n] := fun e => by rw [e] at hq; simp at hq
      simp only [Bool.not_false, boolK_true, arith_sub, optK_mk]
      rw [wrap64 (by omega) (by omega)]
      refine ⟨n - 1, by omega, n - 1, by simp; omega, by trivial, rfl, by omega, ?_, fun j hj hjk => ?_⟩
      · rw [show n - 1 + 1 = n by omega]
        exact hmem.resolve_right hne
      · by_cases e : j = n
        · subst e; exact fun e => hne e.symm
        · exact hlast j hj (by omega)
  · rw [hg]
    have hg := of_decide_eq_false hg
    have : n = 0 := by omega
    subst this
    simp only [vc_spread_Wheel_last_j1, pickV_false, optK_mk, boolK_false]
    refine hK 0 hk ?_ fun j hj h => hlast j hj h
    rcases hmem with h | h
    · simp at h
    · exact h.symm
/-! ### the queue -/
/-- the buckets of all but the members are taken away -/
def clr (M B : List Int) : List Int := B.map fun b => if b - 1 ∈ M then b else 0
theorem clr_len (M B : List Int) : (clr M B).length = B.length := by simp [clr]
/-- where members stand: index plus 1, 0 for others -/
def placeOf' (M : List Int) (k : Int) : Int := if k ∈ M then ((M.idxOf k : Nat) : Int) + 1 else 0
/-- what is known of the elements of a queue -/
def QF (q : List Shr) (M : List Int) (f : Int → Int) : Prop := (q.map (·.1)).Perm M ∧ ∀ x ∈ q, x.2 = f x.1
abbrev QM (q : List Shr) (M B : List Int) : Prop := QF q M fun m => (ld B m : Nat)
theorem QF.perm {q q' : List Shr} {f : Int → Int} (h : QF q M f) (hp : q'.Perm q) : QF q' M f := ⟨(hp.map _).trans h.1, fun x hx => h.2 x (hp.mem_iff.1 hx)⟩
theorem ld_set {i : Nat} {v m : Int} (hi : i < B.length) : ld (B.set i v) m + (if B[i] = m + 1 then 1 else 0) = ld B m + (if v = m + 1 then 1 else 0) := by
  unfold ld
  have e1 : B = B.take i ++ B[i] :: B.drop (i + 1) := by
    conv => lhs; rw [← List.take_append_drop i B, List.drop_eq_getElem_cons hi]
  have e2 : B.set i v = B.take i ++ v :: B.drop (i + 1) := by
    rw [List.set_eq_take_append_cons_drop, if_pos hi]
  rw [e2]
  conv => rhs; rw [e1]
  simp only [List.count_append, List.count_cons, beq_iff_eq]
  omega
theorem QF.upd {q : List Shr} {j : Nat} {d : Int} {f f' : Int → Int} (h : QF q M f) (hnd : M.Nodup) (hj : j < q.length) (h1 : f' (at0 q j).1 = f (at0 q j).1 + d) (h2 : ∀ m ∈ M, m ≠ (at0 q j).1 → f' m = f m) : QF (upd2 q j d) M f' := by
  have e1 : (upd2 q j d).map (·.1) = q.map (·.1) := by
    unfold upd2
    rw [List.map_set]
    apply List.ext_getElem (by simp)
    intro n n1 n2
    rw [List.getElem_set]
    split
    · rename_i e; subst e; simp [at0_get hj]
    · rfl
  refine ⟨by rw [e1]; exact h.1, fun x hx => ?_⟩
  obtain ⟨n, hn, rfl⟩ := List.getElem_of_mem hx
  have hn' : n < q.length := by rw [upd2_len] at hn; exact hn
  by_cases e : n = j
  · subst e
    have : (upd2 q n d)[n] = ((at0 q n).1, (at0 q n).2 + d) := by simp [upd2]
    rw [this]
    simp only
    rw [h1, h.2 (at0 q n) (by rw [at0_get hj]; exact List.getElem_mem hj)]
  · have hx' : (upd2 q j d)[n] = q[n] := by
      simp [upd2, List.getElem_set_ne (Ne.symm e)]
    rw [hx']
    have hnd2 : (q.map (·.1)).Nodup := h.1.nodup_iff.2 hnd
    have hne : q[n].1 ≠ (at0 q j).1 := by
      intro e2
      rw [at0_get hj] at e2
      have hn2 : n < (q.map (·.1)).length := by simpa using hn'
      have hj2 : j < (q.map (·.1)).length := by simpa using hj
      rcases Nat.lt_or_gt_of_ne e with hlt | hlt
      · exact List.pairwise_iff_getElem.1 hnd2 n j hn2 hj2 hlt (by simpa using e2)
      · exact List.pairwise_iff_getElem.1 hnd2 j n hj2 hn2 hlt (by simpa using e2.symm)
    have hm : q[n].1 ∈ M := h.1.mem_iff.1 (List.mem_map.2 ⟨_, List.getElem_mem hn', rfl⟩)
    rw [h.2 _ (List.getElem_mem hn'), h2 _ hm hne]
end Go.AM
namespace Go.AM
open Go Go.Proofs
variable {K : AVal → Heap → Prop} {s : Heap} {w bb : Nat} {mv : AVal} {cap : Option Nat} {B M : List Int}
/-- the blocks of 'queue' -/
structure Qb (s : Heap) (t2 pb db ob qb n : Nat) (pl : List Int) (Q : List Shr) : Prop where
  a : s t2 = some (false, .cells 71 [.nilptr])
  p : s pb = some (false, .cells 84 (ints pl))
  d : s db = some (false, .cells 89 (flatQ Q))
  o : s ob = some (false, .cells 87 [.slc db 0 n (some n) 2])
  q : s qb = some (false, .cells 71 [.ptr ob 0])
variable {t2 pb db ob qb n : Nat} {pl : List Int} {Q : List Shr}
theorem Qb.setP {s' : Heap} {pl' : List Int} (h : Qb s t2 pb db ob qb n pl Q) (u : Upto pb s s') (hp : s' pb = some (false, .cells 84 (ints pl'))) : Qb s' t2 pb db ob qb n pl' Q := by
  obtain ⟨h1, h2, h3, h4, h5⟩ := h
  have n1 : t2 ≠ pb := by rintro rfl; rw [h1] at h2; cases h2
  have n2 : db ≠ pb := by rintro rfl; rw [h3] at h2; cases h2
  have n3 : ob ≠ pb := by rintro rfl; rw [h4] at h2; cases h2
  have n4 : qb ≠ pb := by rintro rfl; rw [h5] at h2; cases h2
  exact ⟨(u _ n1).trans h1, hp, (u _ n2).trans h3, (u _ n3).trans h4, (u _ n4).trans h5⟩
theorem Qb.setD {s' : Heap} {Q' : List Shr} (h : Qb s t2 pb db ob qb n pl Q) (u : Upto db s s') (hp : s' db = some (false, .cells 89 (flatQ Q'))) : Qb s' t2 pb db ob qb n pl Q' := by
  obtain ⟨h1, h2, h3, h4, h5⟩ := h
  have n1 : t2 ≠ db := by rintro rfl; rw [h1] at h3; cases h3
  have n2 : pb ≠ db := by rintro rfl; rw [h2] at h3; cases h3
  have n3 : ob ≠ db := by rintro rfl; rw [h4] at h3; cases h3
  have n4 : qb ≠ db := by rintro rfl; rw [h5] at h3; cases h3
  exact ⟨(u _ n1).trans h1, (u _ n2).trans h2, hp, (u _ n3).trans h4, (u _ n4).trans h5⟩
theorem Qb.setB {s' : Heap} {b : Nat} {l : List AVal} (h : Qb s t2 pb db ob qb n pl Q) (u : Upto b s s') (hb : s b = some (false, .cells 3 l)) : Qb s' t2 pb db ob qb n pl Q := by
  obtain ⟨h1, h2, h3, h4, h5⟩ := h
  have n1 : t2 ≠ b := by rintro rfl; rw [h1] at hb; cases hb
  have n2 : pb ≠ b := by rintro rfl; rw [h2] at hb; cases hb
  have n3 : db ≠ b := by rintro rfl; rw [h3] at hb; cases hb
  have n4 : ob ≠ b := by rintro rfl; rw [h4] at hb; cases hb
  have n5 : qb ≠ b := by rintro rfl; rw [h5] at hb; cases hb
  exact ⟨(u _ n1).trans h1, (u _ n2).trans h2, (u _ n3).trans h3, (u _ n4).trans h4, (u _ n5).trans h5⟩
theorem Qb.sub {s' : Heap} (h : Qb s t2 pb db ob qb n pl Q) (hs : Sub s s') : Qb s' t2 pb db ob qb n pl Q := ⟨hs _ _ h.a, hs _ _ h.p, hs _ _ h.d, hs _ _ h.o, hs _ _ h.q⟩
/-- where the members stand, after the first i of them -/
def Pl (M : List Int) (i : Nat) (pl : List Int) : Prop := pl.length = 128 ∧ (∀ j (hj : j < M.length), j < i → pl[M[j].toNat]? = some ((j : Int) + 1)) ∧ ∀ k : Nat, k < 128 → (∀ j (hj : j < M.length), j < i → M[j] ≠ (k : Int)) → pl[k]? = some 0
theorem Pl.step {i : Nat} (ha : Asc M) (hi : i < M.length) (h : Pl M i pl) : Pl M (i + 1) (pl.set M[i].toNat ((i : Int) + 1)) := by
  obtain ⟨h1, h2, h3⟩ := h
  have hr := ha.2 _ (List.getElem_mem hi)
  refine ⟨by rw [List.length_set]; exact h1, fun j hj hji => ?_, fun k hk hno => ?_⟩
  · by_cases e : j = i
    · subst e
      rw [List.getElem?_set, if_pos rfl, if_pos (by omega)]
    · have hlt : M[j] < M[i] := List.pairwise_iff_getElem.1 ha.1 j i hj hi (by omega)
      have hr2 := ha.2 _ (List.getElem_mem hj)
      rw [List.getElem?_set, if_neg (by omega)]
      exact h2 j hj (by omega)
  · have hne := hno i hi (by omega)
    rw [List.getElem?_set, if_neg (by omega)]
    exact h3 k hk fun j hj hji => hno j hj (by omega)
/-- the queue's elements after the first i members -/
def Q1 (M : List Int) (i : Nat) (Q : List Shr) : Prop := Q.length = M.length ∧ (∀ j (hj : j < M.length), j < i → at0 Q j = (M[j], 0)) ∧ ∀ j, j < M.length → i ≤ j → at0 Q j = (0, 0)
theorem Q1.step {i : Nat} (hi : i < M.length) (h : Q1 M i Q) : Q1 M (i + 1) (Q.set i (M[i], (at0 Q i).2)) := by
  obtain ⟨h1, h2, h3⟩ := h
  have e0 := h3 i hi (Nat.le_refl _)
  refine ⟨by rw [List.length_set]; exact h1, fun j hj hji => ?_, fun j hj hij => ?_⟩
  · rw [at0_set (by omega), e0]
    split
    · rename_i e; subst e; rfl
    · exact h2 j hj (by omega)
  · rw [at0_set (by omega), if_neg (by omega)]
    exact h3 j hj (by omega)
/-- the queue's elements when the buckets B were counted -/
def Q2 (M B : List Int) (Q : List Shr) : Prop := Q.length = M.length ∧ ∀ j (hj : j < M.length), at0 Q j = (M[j], ((ld (clr M B) M[j] : Nat) : Int))
theorem ld_clr_app {b m : Int} : ld (clr M (B ++ [b])) m = ld (clr M B) m + (if (if b - 1 ∈ M then b else 0) = m + 1 then 1 else 0) := by
  unfold ld clr
  rw [List.map_append, List.count_append]
  simp [List.count_singleton]
theorem Q2.qm (ha : Asc M) (h : Q2 M B Q) : QM Q M (clr M B) := by
  have e : Q.map (·.1) = M := by
    apply List.ext_getElem (by simp [h.1])
    intro j h1 h2
    rw [List.getElem_map, ← at0_get (by simpa using h1), h.2 j h2]
  refine ⟨by rw [e], fun x hx => ?_⟩
  obtain ⟨j, hj, rfl⟩ := List.getElem_of_mem hx
  rw [← at0_get hj, h.2 j (by rw [← h.1]; exact hj)]
theorem arr_addr {pb k : Nat} (hk : k < 128) : iaddrA 128 1 (.ptr pb 0) (.int .i64 (k : Int)) = some (.ptr pb k) := by
  have : Nat.blt k 128 = true := by rw [Nat.blt_eq]; exact hk
  simp [iaddrA, this]
theorem queue_in (h : WAt s w bb mv cap B M) (ha : Asc M) (hM : M.length ≤ 256) (hr : ∀ b ∈ B, 0 ≤ b ∧ b ≤ 128) (hfree : ∀ b o n c, mv = .slc b o n c 1 → M ≠ [] → ¬ b = bb)
    (hK : ∀ s' o sb q, WAt s' w bb mv cap (clr M B) M → QAt s' o sb q → QM q M (clr M B) → Hp q 0 → s sb = none → s o = none → KeepBut (fun b => b = bb) s s' → K (.agg [.ptr o 0]) s') : wpCall Try.prog XX 35 [.ptr w 0] K s := by
  have hp := h.pos
  refine vc_spread_Wheel_queue_in (new_step fun t2 s1 ht h1 u1 => new_step fun pb s2 hpb h2 u2 => ?_)
  have sub2 := (u1.sub ht).trans (u2.sub hpb)
  have z2 := h.sub sub2
  simp only [nilCheck_ptr, addOff_ptr, rd1_mk z2.wb, Nat.zero_add, List.getElem?_cons_zero, List.getElem?_cons_succ, optK_mk, z2.ms.len, List.length_map, nat?_mk]
  refine ⟨⟨Nat.le_refl _, by omega⟩, new_step fun db s3 hdb h3 u3 => ?_⟩
  refine optK_of (a := [.slc db 0 M.length (some M.length) 2]) rfl ⟨rfl, new_step fun ob s4 hob h4 u4 => ?_⟩
  refine optK_of (a := [.ptr ob 0]) rfl (new_step fun qb s5 hqb h5 u5 => wrAgg_step h5 rfl rfl rfl fun s6 h6 u6 => ?_)
  have sub3 := sub2.trans (u3.sub hdb)
  have sub4 := sub3.trans (u4.sub hob)
  have fresh : ∀ {b : Nat} {s' : Heap}, Sub s s' → s' b = none → s b = none := fun {b s'} hs hb => by
    cases e : s b with
    | none => rfl
    | some x => rw [hs b x e] at hb; cases hb
  have ft := ht
  have fp := fresh (u1.sub ht) hpb
  have fd := fresh sub2 hdb
  have fo := fresh sub3 hob
  have fq := fresh sub4 hqb
  have sub6 : Sub s s6 := (sub4.trans (u5.sub hqb)).upto u6 fq
  have h2 : s2 pb = some (false, .cells 84 (ints (List.replicate 128 0))) := h2
  have z6 : Qb s6 t2 pb db ob qb M.length (List.replicate 128 0) (List.replicate M.length (0, 0)) := by
    have e1 : s4 t2 = _ := u4.at (u3.at (u2.at h1 hpb) hdb) hob
    have e2 : s4 pb = _ := u4.at (u3.at h2 hdb) hob
    have e3 : s4 db = _ := u4.at h3 hob
    have n1 : t2 ≠ qb := ne_of_some hqb e1
    have n2 : pb ≠ qb := ne_of_some hqb e2
    have n3 : db ≠ qb := ne_of_some hqb e3
    have n4 : ob ≠ qb := ne_of_some hqb h4
    refine ⟨by rw [u6 _ n1]; exact u5.at e1 hqb, by rw [u6 _ n2]; exact u5.at e2 hqb, ?_, by rw [u6 _ n4]; exact u5.at h4 hqb, h6⟩
    rw [u6 _ n3, u5.at e3 hqb]
    have : ∀ k, repl k [AVal.int .i64 0, .int .i64 0] = flatQ (List.replicate k (0, 0)) := by
      intro k
      induction k with
      | zero => rfl
      | succ k ih => rw [repl, ih]; rfl
    rw [this]
  have z := h.sub sub6
  simp only [rd1_mk z.wb, List.getElem?_cons_zero, List.getElem?_cons_succ, optK_mk, z.ms.len, List.length_map]
  refine ⟨fun ys s' m => ∃ (i : Nat) (pl : List Int) (Q : List Shr), ys = [.int .i64 i] ∧ i ≤ M.length ∧ m = M.length - i ∧ Sub s s' ∧ Qb s' t2 pb db ob qb M.length pl Q ∧ Pl M i pl ∧ Q1 M i Q, ⟨_, 0, _, _, rfl, by omega, rfl, sub6, z6, ⟨rfl, fun j hj h => by omega, fun k hk _ => by rw [List.getElem?_replicate, if_pos hk]⟩, ⟨by simp, fun j hj h => by omega, fun j hj _ => by simp [at0, hj]⟩⟩, ?_⟩
  rintro f s7 m ⟨i, pl, Q, hy, hi, rfl, sub7, z7, hpl, hq1⟩
  simp only [List.cons.injEq, and_true] at hy
  rw [hy]
  simp only [vc_spread_Wheel_queue_l0, arith_lss, optK_mk]
  have w7 := h.sub sub7
  refine boolK_mk (fun hlt => ?_) (fun hge => ?_)
  · have hlt : i < M.length := by have := of_decide_eq_true hlt; omega
    obtain ⟨pp, g1, g2⟩ := sli_at w7.ms hlt
    have hmi := ha.2 _ (List.getElem_mem hlt)
    have e1 : iaddrA 128 1 (.ptr pb 0) (.int .i64 M[i]) = some (.ptr pb M[i].toNat) := by
      have := arr_addr (pb := pb) (k := M[i].toNat) (by omega)
      rwa [Int.toNat_of_nonneg hmi.1] at this
    simp only [g1, g2, optK_mk, arith_add, e1]
    rw [wrap64 (by omega) (by omega)]
    refine wr1_step z7.p (by simp [hpl.1]; omega) rfl fun s8 h8 u8 => ?_
    rw [ints_set] at h8
    have z8 := z7.setP u8 h8
    have sub8 : Sub s s8 := sub7.upto u8 fp
    simp only [addOff_ptr, optK_mk, rd1_mk z8.q, rd1_mk z8.o, Nat.zero_add, List.getElem?_cons_zero, nilCheck_ptr, q_addr hlt]
    refine wr1_step z8.d (by rw [flatQ_len, hq1.1]; omega) rfl fun s9 h9 u9 => ?_
    have h9 : s9 db = some (false, .cells 89 ((flatQ Q).set (i * 2) (.int .i64 M[i]))) := h9
    rw [flatQ_set0 (by rw [hq1.1]; exact hlt)] at h9
    exact ⟨_, by omega, i + 1, _, _, rfl, by omega, rfl, sub8.upto u9 fd, z8.setD u9 h9, hpl.step ha hlt, hq1.step hlt⟩
  · have hge : i = M.length := by have := of_decide_eq_false hge; omega
    subst hge
    simp only [nilCheck_ptr, addOff_ptr, optK_mk, rd1_mk w7.wb, Nat.zero_add, List.getElem?_cons_zero, lenOf_slc]
    have q2 : Q2 M [] Q := ⟨hq1.1, fun j hj => by rw [hq1.2.1 j hj hj]; rfl⟩
    refine ⟨fun ys s' m => ∃ (i : Nat) (Q : List Shr), ys = [.int .i64 i] ∧ i ≤ B.length ∧ m = B.length - i ∧ KeepBut (fun b => b = bb) s s' ∧ s' bb = some (false, .cells 3 (ints (clr M (B.take i) ++ B.drop i))) ∧ Qb s' t2 pb db ob qb M.length pl Q ∧ Q2 M (B.take i) Q, ⟨_, 0, Q, rfl, by omega, rfl, sub7.keep, by rw [w7.bs]; rfl, z7, q2⟩, ?_⟩
    rintro f s8 m ⟨i, Q, hy, hi, rfl, k8, b8, z8, q8⟩
    simp only [List.cons.injEq, and_true] at hy
    rw [hy]
    have w8 : s8 w = some (false, .cells 53 [.slc bb 0 B.length cap 1, mv]) := k8 _ _ h.wb h.ne
    simp only [vc_spread_Wheel_queue_l1, arith_lss, optK_mk]
    refine boolK_mk (fun hlt => ?_) (fun hge => ?_)
    · have hlt : i < B.length := by have := of_decide_eq_true hlt; omega
      have hb := hr _ (List.getElem_mem hlt)
      have ec : (clr M (B.take i)).length = i := by rw [clr_len, List.length_take, Nat.min_eq_left hi]
      have el : B.drop i = B[i] :: B.drop (i + 1) := List.drop_eq_getElem_cons hlt
      have et : B.take (i + 1) = B.take i ++ [B[i]] := List.take_succ_eq_append_getElem hlt
      have hrd : rd1 s8 (.ptr bb i) = some (.int .i64 B[i]) := by
        rw [rd1_mk b8, el]
        simp only [ints, List.map_append]
        rw [List.getElem?_append_right (by rw [List.length_map, ec]; omega), List.length_map, ec, Nat.sub_self]
        rfl
      have fin : ∀ (s9 : Heap) (Q9 : List Shr), KeepBut (fun b => b = bb) s s9 → s9 bb = some (false, .cells 3 (ints (clr M (B.take (i + 1)) ++ B.drop (i + 1)))) → Qb s9 t2 pb db ob qb M.length pl Q9 → Q2 M (B.take (i + 1)) Q9 →
          vc_spread_Wheel_queue_j2 XX (.int .i64 (i : Int)) (fun ys s' m => ∃ (i : Nat) (Q : List Shr), ys = [.int .i64 i] ∧ i ≤ B.length ∧ m = B.length - i ∧ KeepBut (fun b => b = bb) s s' ∧ s' bb = some (false, .cells 3 (ints (clr M (B.take i) ++ B.drop i))) ∧ Qb s' t2 pb db ob qb M.length pl Q ∧ Q2 M (B.take i) Q) (B.length - i) K s9 := by
        intro s9 Q9 a1 a2 a3 a4
        simp only [vc_spread_Wheel_queue_j2, arith_add, optK_mk]
        rw [wrap64 (by omega) (by omega)]
        exact ⟨_, by omega, i + 1, Q9, rfl, by omega, rfl, a1, a2, a3, a4⟩
      have same : (if B[i] - 1 ∈ M then B[i] else 0) = B[i] → clr M (B.take (i + 1)) ++ B.drop (i + 1) = clr M (B.take i) ++ B.drop i := by
        intro e
        rw [et, el]
        unfold clr
        rw [List.map_append, List.map_singleton, e, List.append_assoc]
        rfl
      simp only [b_addr hlt, hrd, optK_mk, eqV_int, negB_mk, Bool.false_bne]
      cases hz : (B[i] == 0) with
      | true =>
        have hz := eq_of_beq hz
        simp only [boolK_true]
        have e0 : (if B[i] - 1 ∈ M then B[i] else 0) = B[i] := by rw [hz]; split <;> rfl
        refine fin s8 Q k8 (by rw [same e0]; exact b8) z8 ⟨q8.1, fun j hj => ?_⟩
        rw [q8.2 j hj, et, ld_clr_app, e0, hz, if_neg (by have := ha.2 _ (List.getElem_mem hj); omega)]
        rfl
      | false =>
        have hz : B[i] ≠ 0 := fun e => by rw [e] at hz; simp at hz
        have hk : (B[i] - 1).toNat < 128 := by omega
        have ew : IntKind.i64.wrap (B[i] - 1) = (((B[i] - 1).toNat : Nat) : Int) := by rw [wrap64 (by omega) (by omega)]; omega
        have e1 := arr_addr (pb := pb) hk
        simp only [boolK_false, arith_sub, optK_mk, ew, e1]
        by_cases hin : B[i] - 1 ∈ M
        · obtain ⟨j, hj, ej⟩ := List.getElem_of_mem hin
          have hpl2 := hpl.2.1 j hj hj
          rw [ej] at hpl2
          have hrp : rd1 s8 (.ptr pb (B[i] - 1).toNat) = some (.int .i64 ((j : Int) + 1)) := by
            rw [rd1_mk z8.p]
            simp only [ints, List.getElem?_map, hpl2, Option.map_some]
          have hne : (((j : Int) + 1) == 0) = false := by
            cases hq : (((j : Int) + 1) == 0) with
            | false => rfl
            | true => have := eq_of_beq hq; omega
          have ej1 : IntKind.i64.wrap ((j : Int) + 1 - 1) = (j : Int) := by rw [wrap64 (by omega) (by omega)]; omega
          have hlj : j < Q.length := by rw [q8.1]; exact hj
          have hq2 : QAt s8 ob db Q := ⟨⟨_, by rw [q8.1]; exact z8.o⟩, z8.d, fun x hx => by
            obtain ⟨m, hm, rfl⟩ := List.getElem_of_mem hx
            have hm2 : m < M.length := by rw [← q8.1]; exact hm
            rw [← at0_get hm, q8.2 m hm2]
            have := ha.2 _ (List.getElem_mem hm2)
            exact ⟨this.1, by show M[m] < 1000; omega⟩, by rw [q8.1]; omega⟩
          have hrow := (hq2.row hlj).2.2
          have hcnt : ld (clr M (B.take i)) M[j] ≤ 256 := by
            refine Nat.le_trans List.count_le_length ?_
            rw [ec]; omega
          simp only [hrp, optK_mk, eqV_int, negB_mk, Bool.false_bne, hne, boolK_false, addOff_ptr, rd1_mk z8.q, rd1_mk z8.o, Nat.zero_add, List.getElem?_cons_zero, nilCheck_ptr, arith_sub, ew, e1, ej1, q_addr hj, hrow, arith_add]
          rw [q8.2 j hj]
          simp only
          rw [wrap64 (by omega) (by omega)]
          refine wr1_step z8.d (by rw [flatQ_len]; omega) rfl fun s9 h9 u9 => ?_
          rw [flatQ_set1 hlj] at h9
          have e0 : (if B[i] - 1 ∈ M then B[i] else 0) = B[i] := if_pos hin
          have nb : bb ≠ db := by rintro rfl; have := z8.d; rw [b8] at this; cases this
          refine fin s9 _ (fun x e hx hn => by rw [u9 x (ne_of_some fd hx)]; exact k8 x e hx hn) (by rw [same e0, u9 bb nb]; exact b8) (z8.setD u9 h9) ⟨by rw [List.length_set]; exact q8.1, fun m hm => ?_⟩
          · rw [at0_set hlj, et, ld_clr_app, e0]
            split
            · rename_i e
              subst e
              rw [q8.2 m hm, ej, if_pos (by omega)]
              rfl
            · rename_i e
              have hne2 : ¬ B[i] = M[m] + 1 := fun e2 => by
                have : M[m] = M[j] := by omega
                rcases Nat.lt_or_gt_of_ne e with hlt | hlt
                · have := List.pairwise_iff_getElem.1 ha.1 m j hm hj hlt; omega
                · have := List.pairwise_iff_getElem.1 ha.1 j m hj hm hlt; omega
              rw [q8.2 m hm, if_neg hne2]
              rfl
        · have hpl3 := hpl.2.2 (B[i] - 1).toNat hk fun j hj _ e => hin (by
            have e2 : M[j] = B[i] - 1 := by rw [e]; omega
            rw [← e2]; exact List.getElem_mem hj)
          have hrp : rd1 s8 (.ptr pb (B[i] - 1).toNat) = some (.int .i64 0) := by
            rw [rd1_mk z8.p]
            simp only [ints, List.getElem?_map, hpl3, Option.map_some]
          simp only [hrp, optK_mk, eqV_int, negB_mk, Bool.false_bne, beq_self_eq_true, boolK_true, nilCheck_ptr, addOff_ptr, rd1_mk w8, Nat.zero_add, List.getElem?_cons_zero, b_addr hlt]
          refine wr1_step b8 (by simp [ints, ec]; omega) rfl fun s9 h9 u9 => ?_
          rw [ints_set] at h9
          have e0 : (if B[i] - 1 ∈ M then B[i] else 0) = 0 := if_neg hin
          have el2 : (clr M (B.take i) ++ B.drop i).set i 0 = clr M (B.take (i + 1)) ++ B.drop (i + 1) := by
            rw [List.set_append_right _ _ (by rw [ec]; omega), ec, Nat.sub_self, el, List.set_cons_zero, et]
            unfold clr
            rw [List.map_append, List.map_singleton, e0, List.append_assoc]
            rfl
          rw [el2] at h9
          refine fin s9 Q (k8.trans (u9.keep (fp := fun b => b = bb) rfl)) h9 (z8.setB u9 b8) ⟨q8.1, fun j hj => ?_⟩
          rw [q8.2 j hj, et, ld_clr_app, e0, if_neg (by have := ha.2 _ (List.getElem_mem hj); omega)]
          rfl
    · have hge : i = B.length := by have := of_decide_eq_false hge; omega
      subst hge
      rw [List.take_length, List.drop_length, List.append_nil] at b8
      rw [List.take_length] at q8
      have hq2 : QAt s8 ob db Q := ⟨⟨_, by rw [q8.1]; exact z8.o⟩, z8.d, fun x hx => by
        obtain ⟨m, hm, rfl⟩ := List.getElem_of_mem hx
        have hm2 : m < M.length := by rw [← q8.1]; exact hm
        rw [← at0_get hm, q8.2 m hm2]
        have := ha.2 _ (List.getElem_mem hm2)
        exact ⟨this.1, by show M[m] < 1000; omega⟩, by rw [q8.1]; omega⟩
      refine optK_of (rdN_all z8.q rfl) (build_in hq2 fun s9 q9 z9 p9 hh9 k9 => ?_)
      have n4 : ¬ qb = db := by rintro rfl; have := z8.q; rw [z8.d] at this; cases this
      have n1 : ¬ t2 = db := by rintro rfl; have := z8.a; rw [z8.d] at this; cases this
      have n5 : ¬ bb = db := by rintro rfl; rw [z8.d] at b8; cases b8
      refine optK_of (rdN_all (k9 _ _ z8.q n4) rfl) (wrAgg_step (k9 _ _ z8.a n1) rfl rfl rfl fun s10 h10 u10 => optK_of (rdN_all h10 rfl) ?_)
      have k10 : KeepBut (fun b => b = bb) s s10 := fun x e hx hn => by
        rw [u10 x (ne_of_some ft hx)]
        exact k9 x e (k8 x e hx hn) (fun e2 => by rw [e2, fd] at hx; cases hx)
      have nbt : bb ≠ t2 := by rintro rfl; rw [h.bs] at ft; cases ft
      have b10 : s10 bb = some (false, .cells 3 (ints (clr M B))) := by rw [u10 bb nbt]; exact k9 _ _ b8 n5
      have not : ob ≠ t2 := by rintro rfl; have := z8.o; rw [z8.a] at this; cases this
      have ndt : db ≠ t2 := by rintro rfl; have := z8.d; rw [z8.a] at this; cases this
      obtain ⟨tt, ho9⟩ := z9.ob
      refine hK s10 ob db q9 ⟨by rw [clr_len]; exact k10 _ _ h.wb h.ne, b10, h.ms.keep k10 fun b' o' n' c' e hl => hfree b' o' n' c' e (by simpa using hl), by rw [clr_len]; exact h.cp, by rw [clr_len]; exact h.pos⟩ ⟨⟨tt, by rw [u10 ob not]; exact ho9⟩, by rw [u10 db ndt]; exact z9.dt, z9.rg, z9.ln⟩ ((q8.qm ha).perm p9) hh9 fd fo k10
end Go.AM
namespace Go.AM
open Go Go.Proofs
variable {K : AVal → Heap → Prop} {s : Heap} {w bb o sb : Nat} {mv : AVal} {cap : Option Nat} {B M : List Int} {q : List Shr}
/-- one step of filling and balancing -/
inductive Stp (M : List Int) : List Int → List Int → Prop
  | fill {B : List Int} {i : Nat} {t : Int} (hi : i < B.length) (h0 : B[i] = 0) (ht : t ∈ M) (hmin : ∀ a ∈ M, ld B t ≤ ld B a) (hfst : ∀ k (hk : k < B.length), k < i → B[k] ≠ 0) (htie : ∀ a ∈ M, ld B a = ld B t → t ≤ a) : Stp M B (B.set i (t + 1))
  | move {B : List Int} {i : Nat} {f t : Int} (hi : i < B.length) (hf : B[i] = f + 1) (hfr : f ∈ M) (ht : t ∈ M) (hmin : ∀ a ∈ M, ld B t ≤ ld B a) (hmax : ∀ a ∈ M, ld B a ≤ ld B f) (hd : ld B t + 1 < ld B f) (hnz : ∀ b ∈ B, b ≠ 0) (hlst : ∀ k (hk : k < B.length), i < k → B[k] ≠ f + 1) (htie : ∀ a ∈ M, ld B a = ld B t → t ≤ a) (hftie : ∀ a ∈ M, ld B a = ld B f → a ≤ f) : Stp M B (B.set i (t + 1))
inductive Rch (M : List Int) (B : List Int) : List Int → Prop
  | refl : Rch M B B
  | tail {B1 B2 : List Int} (h : Rch M B B1) (h2 : Stp M B1 B2) : Rch M B B2
theorem Stp.len {B B' : List Int} (h : Stp M B B') : B'.length = B.length := by cases h <;> simp
theorem Rch.len {B B' : List Int} (h : Rch M B B') : B'.length = B.length := by
  induction h with
  | refl => rfl
  | tail _ h2 ih => rw [h2.len, ih]
/-- a wheel and its queue in memory -/
structure St (s : Heap) (w bb : Nat) (mv : AVal) (cap : Option Nat) (o sb : Nat) (B M : List Int) (q : List Shr) : Prop where
  wa : WAt s w bb mv cap B M
  qa : QAt s o sb q
  qm : QM q M B
  hp : Hp q 0
  fr : ∀ b o n c, mv = .slc b o n c 1 → M ≠ [] → ¬ (b = bb ∨ b = sb)
  asc : Asc M
  rg : ∀ b ∈ B, 0 ≤ b ∧ b ≤ 128
theorem St.nbs (h : St s w bb mv cap o sb B M q) : bb ≠ sb := by
  rintro rfl
  have := h.wa.bs
  rw [h.qa.dt] at this; cases this
theorem St.nws (h : St s w bb mv cap o sb B M q) : w ≠ sb := by
  rintro rfl
  have := h.wa.wb
  rw [h.qa.dt] at this; cases this
theorem St.nob (h : St s w bb mv cap o sb B M q) : o ≠ bb := by
  rintro rfl
  obtain ⟨t, ho⟩ := h.qa.ob
  rw [h.wa.bs] at ho; cases ho
theorem St.qlen (h : St s w bb mv cap o sb B M q) : q.length = M.length := by have := h.qm.1.length_eq; simpa using this
theorem St.mem (h : St s w bb mv cap o sb B M q) {i : Nat} (hi : i < q.length) : (at0 q i).1 ∈ M ∧ (at0 q i).2 = (ld B (at0 q i).1 : Nat) ∧ 0 ≤ (at0 q i).1 ∧ (at0 q i).1 < 128 := by
  have h1 : at0 q i ∈ q := by rw [at0_get hi]; exact List.getElem_mem hi
  have h2 : (at0 q i).1 ∈ M := h.qm.1.mem_iff.1 (List.mem_map.2 ⟨_, h1, rfl⟩)
  exact ⟨h2, h.qm.2 _ h1, h.asc.2 _ h2⟩
theorem ld_le (B : List Int) (m : Int) : ld B m ≤ B.length := List.count_le_length
/-- every member stands in the queue -/
theorem St.find (h : St s w bb mv cap o sb B M q) {a : Int} (ha : a ∈ M) : ∃ j, j < q.length ∧ (at0 q j).1 = a := by
  have := h.qm.1.mem_iff.2 ha
  obtain ⟨x, hx, rfl⟩ := List.mem_map.1 this
  obtain ⟨j, hj, rfl⟩ := List.getElem_of_mem hx
  exact ⟨j, hj, by rw [at0_get hj]⟩
theorem St.least (h : St s w bb mv cap o sb B M q) (hq : 0 < q.length) : ∀ a ∈ M, ld B (at0 q 0).1 ≤ ld B a := fun a ha => by
  obtain ⟨j, hj, e⟩ := h.find ha
  have k := h.hp.root j hj
  unfold ky key at k
  have m0 := h.mem hq
  have mj := h.mem hj
  rw [e] at mj k
  omega
theorem St.tie (h : St s w bb mv cap o sb B M q) (hq : 0 < q.length) : ∀ a ∈ M, ld B a = ld B (at0 q 0).1 → (at0 q 0).1 ≤ a := fun a ha e0 => by
  obtain ⟨j, hj, e⟩ := h.find ha
  have k := h.hp.root j hj
  unfold ky key at k
  have m0 := h.mem hq
  have mj := h.mem hj
  rw [e] at mj k
  omega
theorem Asc.nodup (h : Asc M) : M.Nodup := h.1.imp fun h => by omega
/-- a bucket is written -/
theorem St.setB {s' : Heap} {B' : List Int} (h : St s w bb mv cap o sb B M q) (u : Upto bb s s') (hb : s' bb = some (false, .cells 3 (ints B'))) (hl : B'.length = B.length) : WAt s' w bb mv cap B' M ∧ QAt s' o sb q := by
  obtain ⟨t, ho⟩ := h.qa.ob
  refine ⟨⟨by rw [hl, u w h.wa.ne]; exact h.wa.wb, hb, h.wa.ms.keep (fp := fun b => b = bb) (u.keep rfl) fun b' o' n' c' e hne => fun e2 => h.fr b' o' n' c' e (by simpa using hne) (.inl e2), by rw [hl]; exact h.wa.cp, by rw [hl]; exact h.wa.pos⟩, ⟨⟨t, by rw [u o h.nob]; exact ho⟩, by rw [u sb h.nbs.symm]; exact h.qa.dt, h.qa.rg, h.qa.ln⟩⟩
theorem WAt.keepQ {s' : Heap} (h : WAt s w bb mv cap B M) (k : KeepBut (fun b => b = sb) s s') (hw : w ≠ sb) (hb : bb ≠ sb) (fr : ∀ b o n c, mv = .slc b o n c 1 → M ≠ [] → ¬ (b = bb ∨ b = sb)) : WAt s' w bb mv cap B M :=
  ⟨k _ _ h.wb hw, k _ _ h.bs hb, h.ms.keep k fun b' o' n' c' e hne => fun e2 => fr b' o' n' c' e (by simpa using hne) (.inr e2), h.cp, h.pos⟩
theorem fill_in (h : St s w bb mv cap o sb B M q) (hM : M ≠ []) (hK : ∀ s' B' q', St s' w bb mv cap o sb B' M q' → Rch M B B' → (∀ b ∈ B', b ≠ 0) → KeepBut (fun b => b = bb ∨ b = sb) s s' → K (.tup []) s') : wpCall Try.prog XX 36 [.ptr w 0, .agg [.ptr o 0]] K s := by
  refine vc_spread_Wheel_fill_in ⟨rfl, new_step fun x s1 hx h1 u1 => ?_⟩
  have h1 : s1 x = some (false, .cells 71 [.ptr o 0]) := h1
  have sub1 := u1.sub hx
  have hpos := h.wa.pos
  simp only [nilCheck_ptr, addOff_ptr, rd1_mk (h.wa.sub sub1).wb, Nat.zero_add, List.getElem?_cons_zero, optK_mk, lenOf_slc]
  have h01 : St s1 w bb mv cap o sb B M q := ⟨h.wa.sub sub1, h.qa.sub sub1, h.qm, h.hp, h.fr, h.asc, h.rg⟩
  refine ⟨fun ys s' n => ∃ (i : Nat) (B' : List Int) (q' : List Shr), ys = [.int .i64 i] ∧ i ≤ B.length ∧ n = B.length - i ∧ St s' w bb mv cap o sb B' M q' ∧ Rch M B B' ∧ (∀ k (hk : k < B'.length), k < i → B'[k] ≠ 0) ∧ KeepBut (fun b => b = bb ∨ b = sb) s s' ∧ s' x = some (false, .cells 71 [.ptr o 0]), ⟨_, 0, B, q, rfl, by omega, rfl, h01, .refl, fun k hk h => by omega, sub1.keep, h1⟩, ?_⟩
  rintro f s2 n ⟨i, B', q', hy, hi, rfl, z, rc, nz, kp, hx2⟩
  simp only [List.cons.injEq, and_true] at hy
  rw [hy]
  have hlB := rc.len
  have hxb : x ≠ bb := by rintro rfl; rw [z.wa.bs] at hx2; cases hx2
  have hxs : x ≠ sb := by rintro rfl; rw [z.qa.dt] at hx2; cases hx2
  simp only [vc_spread_Wheel_fill_l0, arith_lss, optK_mk]
  refine boolK_mk (fun hlt => ?_) (fun hge => ?_)
  · have hlt : i < B.length := by have := of_decide_eq_true hlt; omega
    have hlt' : i < B'.length := by omega
    have fin : ∀ (s3 : Heap) (B3 : List Int) (q3 : List Shr), St s3 w bb mv cap o sb B3 M q3 → Rch M B B3 → (∀ k (hk : k < B3.length), k < i + 1 → B3[k] ≠ 0) → KeepBut (fun b => b = bb ∨ b = sb) s s3 → s3 x = some (false, .cells 71 [.ptr o 0]) →
        vc_spread_Wheel_fill_j1 XX (.int .i64 (i : Int)) (fun ys s' n => ∃ (i : Nat) (B' : List Int) (q' : List Shr), ys = [.int .i64 i] ∧ i ≤ B.length ∧ n = B.length - i ∧ St s' w bb mv cap o sb B' M q' ∧ Rch M B B' ∧ (∀ k (hk : k < B'.length), k < i → B'[k] ≠ 0) ∧ KeepBut (fun b => b = bb ∨ b = sb) s s' ∧ s' x = some (false, .cells 71 [.ptr o 0])) (B.length - i) K s3 := by
      intro s3 B3 q3 a1 a2 a3 a4 a5
      simp only [vc_spread_Wheel_fill_j1, arith_add, optK_mk]
      rw [wrap64 (by omega) (by omega)]
      exact ⟨_, by omega, i + 1, B3, q3, rfl, by omega, rfl, a1, a2, a3, a4, a5⟩
    have hb := z.rg _ (List.getElem_mem hlt')
    simp only [b_addr hlt, rd1_mk z.wa.bs, ints_at hlt', optK_mk, eqV_int, negB_mk, Bool.false_bne]
    cases hz : (B'[i] == 0) with
    | false =>
      have hz : B'[i] ≠ 0 := fun e => by rw [e] at hz; simp at hz
      simp only [boolK_false]
      exact fin s2 B' q' z rc (fun k hk hki => by
        by_cases e : k = i
        · subst e; exact hz
        · exact nz k hk (by omega)) kp hx2
    | true =>
      have hz := eq_of_beq hz
      have hq : 0 < q'.length := by
        rw [z.qlen]
        cases M with
        | nil => exact absurd rfl hM
        | cons a r => simp
      obtain ⟨tt, ho⟩ := z.qa.ob
      have mm := z.mem hq
      have row : rd1 s2 (.ptr sb 0) = some (.int .i64 (at0 q' 0).1) := (z.qa.row hq).2.1
      have qa0 : iaddrS 2 (.slc sb 0 q'.length (some q'.length) 2) (.int .i64 0) = some (.ptr sb 0) := q_addr (i := 0) hq
      simp only [boolK_true, nilCheck_ptr, addOff_ptr, rd1_mk z.wa.wb, rd1_mk hx2, rd1_mk ho, Nat.zero_add, List.getElem?_cons_zero, optK_mk, qa0, Nat.add_zero, row, arith_add, b_addr hlt']
      rw [wrap64 (by omega) (by omega)]
      refine wr1_step z.wa.bs (by simp [ints]; exact hlt') rfl fun s3 h3 u3 => ?_
      rw [ints_set] at h3
      obtain ⟨wa3, qa3⟩ := z.setB u3 h3 (by simp)
      refine optK_of (rdN_all ((u3 x hxb).trans hx2) rfl) ?_
      have hle : ld B' (at0 q' 0).1 ≤ B'.length := ld_le _ _
      refine change0_in qa3 z.hp hq ⟨by rw [mm.2.1]; omega, by rw [mm.2.1]; omega⟩ fun s4 q4 qa4 p4 hh4 k4 => ?_
      have l1 : ∀ m, 0 ≤ m → (ld (B'.set i ((at0 q' 0).1 + 1)) m : Nat) = ld B' m + (if (at0 q' 0).1 = m then 1 else 0) := by
        intro m hm0
        have := ld_set (B := B') (i := i) (v := (at0 q' 0).1 + 1) (m := m) hlt'
        by_cases e : (at0 q' 0).1 = m
        · rw [if_pos e]
          rw [if_pos (show (at0 q' 0).1 + 1 = m + 1 by omega)] at this
          rw [if_neg (show ¬ B'[i] = m + 1 by omega)] at this
          omega
        · rw [if_neg e]
          rw [if_neg (show ¬ (at0 q' 0).1 + 1 = m + 1 by omega)] at this
          rw [if_neg (show ¬ B'[i] = m + 1 by omega)] at this
          omega
      have qm4 : QM q4 M (B'.set i ((at0 q' 0).1 + 1)) := (z.qm.upd z.asc.nodup hq (by show ((ld _ _ : Nat) : Int) = _; rw [l1 _ mm.2.2.1, if_pos rfl]; omega) fun m hm hne => by
        show ((ld _ _ : Nat) : Int) = _
        rw [l1 _ (z.asc.2 m hm).1, if_neg (fun e => hne e.symm)]
        rfl).perm p4
      have st4 : St s4 w bb mv cap o sb (B'.set i ((at0 q' 0).1 + 1)) M q4 := ⟨wa3.keepQ k4 z.nws z.nbs z.fr, qa4, qm4, hh4, z.fr, z.asc, fun b hb => by
        rcases List.mem_or_eq_of_mem_set hb with h | rfl
        · exact z.rg b h
        · omega⟩
      refine fin s4 _ q4 st4 (rc.tail (.fill hlt' hz mm.1 (z.least hq) (fun k hk hki => nz k hk hki) (z.tie hq))) (fun k hk hki => ?_) (kp.trans ((u3.keep (fp := fun b => b = bb ∨ b = sb) (.inl rfl)).trans (k4.mono fun b e => .inr e))) (k4 _ _ ((u3 x hxb).trans hx2) hxs)
      rw [List.getElem_set]
      split
      · omega
      · have hk' : k < B'.length := by simpa using hk
        exact nz k hk' (by omega)
  · have hge : i = B.length := by have := of_decide_eq_false hge; omega
    subst hge
    refine hK s2 B' q' z rc (fun b hb => ?_) kp
    obtain ⟨k, hk, rfl⟩ := List.getElem_of_mem hb
    exact nz k hk (by omega)
/-! ### balancing -/
/-- squares of loads -/
def pot (M B : List Int) : Nat := (M.map fun m => ld B m * ld B m).sum
theorem sum_perm {l l' : List Nat} (h : l.Perm l') : l.sum = l'.sum := by
  induction h with
  | nil => rfl
  | cons x _ ih => simp [ih]
  | swap x y l => simp; omega
  | trans _ _ h1 h2 => rw [h1, h2]
theorem pot_less {B' : List Int} {f t : Int} (hnd : M.Nodup) (hf : f ∈ M) (ht : t ∈ M) (hd : ld B t + 1 < ld B f) (h1 : ld B' f + 1 = ld B f) (h2 : ld B' t = ld B t + 1) (h3 : ∀ m ∈ M, m ≠ f → m ≠ t → ld B' m = ld B m) : pot M B' < pot M B := by
  have hne : t ≠ f := by rintro rfl; omega
  have p1 := List.perm_cons_erase hf
  have ht2 : t ∈ M.erase f := (List.mem_erase_of_ne hne).2 ht
  have p2 := List.perm_cons_erase ht2
  have p : M.Perm (f :: t :: (M.erase f).erase t) := p1.trans (p2.cons f)
  have e1 : pot M B' = (List.map (fun m => ld B' m * ld B' m) (f :: t :: (M.erase f).erase t)).sum := sum_perm (p.map _)
  have e2 : pot M B = (List.map (fun m => ld B m * ld B m) (f :: t :: (M.erase f).erase t)).sum := sum_perm (p.map _)
  have nd := p.nodup_iff.1 hnd
  have e3 : List.map (fun m => ld B' m * ld B' m) ((M.erase f).erase t) = List.map (fun m => ld B m * ld B m) ((M.erase f).erase t) := by
    refine List.map_congr_left fun m hm => ?_
    have hmM : m ∈ M := p.mem_iff.2 (by simp [hm])
    have n1 : m ≠ f := by
      rintro rfl
      have := (List.nodup_cons.1 nd).1
      exact this (by simp [hm])
    have n2 : m ≠ t := by
      rintro rfl
      exact (List.nodup_cons.1 (List.nodup_cons.1 nd).2).1 hm
    rw [h3 m hmM n1 n2]
  rw [e1, e2]
  simp only [List.map_cons, List.sum_cons, e3, h2]
  obtain ⟨a, ha⟩ : ∃ a, ld B f = ld B t + 2 + a := ⟨ld B f - ld B t - 2, by omega⟩
  have hb : ld B' f = ld B t + 1 + a := by omega
  rw [ha, hb]
  generalize ld B t = b
  have : (b + 1 + a) * (b + 1 + a) + (b + 1) * (b + 1) < (b + 2 + a) * (b + 2 + a) + b * b := by
    simp only [Nat.add_mul, Nat.mul_add, Nat.mul_one, Nat.one_mul]
    have := Nat.mul_comm a b
    omega
  omega
theorem balance_in (h : St s w bb mv cap o sb B M q) (hM : M ≠ []) (hnz : ∀ b ∈ B, b ≠ 0) (hK : ∀ s' B' q', St s' w bb mv cap o sb B' M q' → Rch M B B' → (∀ b ∈ B', b ≠ 0) → (∀ a ∈ M, ∀ c ∈ M, ld B' a ≤ ld B' c + 1) → KeepBut (fun b => b = bb ∨ b = sb) s s' → K (.tup []) s') : wpCall Try.prog XX 37 [.ptr w 0, .agg [.ptr o 0]] K s := by
  refine vc_spread_Wheel_balance_in ⟨rfl, new_step fun x s1 hx h1 u1 => ?_⟩
  have h1 : s1 x = some (false, .cells 71 [.ptr o 0]) := h1
  have sub1 := u1.sub hx
  have hpos := h.wa.pos
  have h01 : St s1 w bb mv cap o sb B M q := ⟨h.wa.sub sub1, h.qa.sub sub1, h.qm, h.hp, h.fr, h.asc, h.rg⟩
  refine ⟨fun ys s' n => ∃ (B' : List Int) (q' : List Shr), n = pot M B' ∧ St s' w bb mv cap o sb B' M q' ∧ Rch M B B' ∧ (∀ b ∈ B', b ≠ 0) ∧ KeepBut (fun b => b = bb ∨ b = sb) s s' ∧ s' x = some (false, .cells 71 [.ptr o 0]), ⟨_, B, q, rfl, h01, .refl, hnz, sub1.keep, h1⟩, ?_⟩
  rintro f s2 n ⟨B', q', rfl, z, rc, nz, kp, hx2⟩
  have hlB := rc.len
  have hq : 0 < q'.length := by
    rw [z.qlen]
    cases M with
    | nil => exact absurd rfl hM
    | cons a r => simp
  unfold vc_spread_Wheel_balance_l0
  refine optK_of (rdN_all hx2 rfl) (most_in z.qa hq fun s3 m sub3 hm hmax => ?_)
  have z3 : St s3 w bb mv cap o sb B' M q' := ⟨z.wa.sub sub3, z.qa.sub sub3, z.qm, z.hp, z.fr, z.asc, z.rg⟩
  have hx3 := sub3 _ _ hx2
  obtain ⟨tt, ho⟩ := z3.qa.ob
  have mm := z3.mem hm
  have m0 := z3.mem hq
  have row0 : rd1 s3 (.ptr sb 0) = some (.int .i64 (at0 q' 0).1) ∧ rd1 s3 (.ptr sb 1) = some (.int .i64 (at0 q' 0).2) := ⟨(z3.qa.row hq).2.1, (z3.qa.row hq).2.2⟩
  have rowm := (z3.qa.row hm).2
  have qa0 : iaddrS 2 (.slc sb 0 q'.length (some q'.length) 2) (.int .i64 0) = some (.ptr sb 0) := q_addr (i := 0) hq
  have l0 : ld B' (at0 q' 0).1 ≤ B'.length := ld_le _ _
  have lm : ld B' (at0 q' m).1 ≤ B'.length := ld_le _ _
  have hmaxl : ∀ a ∈ M, ld B' a ≤ ld B' (at0 q' m).1 := fun a ha => by
    obtain ⟨j, hj, e⟩ := z3.find ha
    have k := hmax j hj
    unfold ky key at k
    have mj := z3.mem hj
    rw [e] at mj k
    omega
  have htieM : ∀ a ∈ M, ld B' a = ld B' (at0 q' m).1 → a ≤ (at0 q' m).1 := fun a ha e0 => by
    obtain ⟨j, hj, e⟩ := z3.find ha
    have k := hmax j hj
    unfold ky key at k
    have mj := z3.mem hj
    rw [e] at mj k
    omega
  simp only [addOff_ptr, rd1_mk hx3, rd1_mk ho, Nat.zero_add, List.getElem?_cons_zero, nilCheck_ptr, optK_mk, qa0, q_addr hm, row0.2, rowm.2, arith_sub]
  rw [mm.2.1, m0.2.1, wrap64 (by omega) (by omega)]
  simp only [arith_leq, optK_mk]
  refine boolK_mk (fun hle => ?_) (fun hgt => ?_)
  · have hle := of_decide_eq_true hle
    refine hK s3 B' q' z3 rc nz (fun a ha c hc => ?_) (kp.trans sub3.keep)
    have := hmaxl a ha
    have := z3.least hq c hc
    omega
  · have hgt := of_decide_eq_false hgt
    have hin : (at0 q' m).1 + 1 ∈ B' := by
      have : 0 < ld B' (at0 q' m).1 := by omega
      exact List.count_pos_iff.1 this
    simp only [nilCheck_ptr, addOff_ptr, rd1_mk z3.wa.wb, rd1_mk hx3, rd1_mk ho, Nat.zero_add, List.getElem?_cons_zero, optK_mk, q_addr hm, Nat.add_zero, rowm.1]
    refine last_in (frz_some z3.wa.wb) (frz_some z3.wa.bs) z3.wa.pos mm.2.2 hin fun i hi hBi hlst _ => ?_
    rw [add_frz, cut_refl]
    simp only [addOff_ptr, rd1_mk hx3, rd1_mk ho, Nat.zero_add, List.getElem?_cons_zero, nilCheck_ptr, optK_mk, qa0, Nat.add_zero, row0.1, arith_add, b_addr hi]
    rw [wrap64 (by omega) (by omega)]
    refine wr1_step z3.wa.bs (by simp [ints]; exact hi) rfl fun s4 h4 u4 => ?_
    rw [ints_set] at h4
    obtain ⟨wa4, qa4⟩ := z3.setB u4 h4 (by simp)
    have hxb : x ≠ bb := by rintro rfl; rw [z3.wa.bs] at hx3; cases hx3
    have hxs : x ≠ sb := by rintro rfl; rw [z3.qa.dt] at hx3; cases hx3
    have hx4 := (u4 x hxb).trans hx3
    refine optK_of (rdN_all hx4 rfl) (changeM_in qa4 z3.hp hm ⟨by rw [mm.2.1]; omega, by rw [mm.2.1]; omega⟩ fun s5 q5 qa5 p5 hh5 k5 => ?_)
    have hx5 := k5 _ _ hx4 hxs
    have hmt : (at0 q' m).1 ≠ (at0 q' 0).1 := fun e => by rw [e] at hgt; omega
    have hm0 : m ≠ 0 := by rintro rfl; exact hmt rfl
    have hq5 : 0 < q5.length := by rw [p5.length_eq, upd2_len]; exact hq
    -- the least one is the least one still
    have root : at0 q5 0 = at0 q' 0 := by
      have hin5 : at0 q5 0 ∈ upd2 q' m (-1) := p5.mem_iff.1 (by rw [at0_get hq5]; exact List.getElem_mem hq5)
      have h0in : at0 q' 0 ∈ upd2 q' m (-1) := by
        have : at0 (upd2 q' m (-1)) 0 = at0 q' 0 := by unfold upd2; rw [at0_set hm, if_neg (Ne.symm hm0)]
        rw [← this, at0_get (by rw [upd2_len]; exact hq)]
        exact List.getElem_mem _
      obtain ⟨j, hj, ej⟩ := List.getElem_of_mem (p5.mem_iff.2 h0in)
      have k1 := hh5.root j hj
      have k1' : key (at0 q5 0) ≤ key (at0 q' 0) := by
        unfold ky at k1
        rwa [at0_get hj, ej] at k1
      obtain ⟨i2, hi2, ei2⟩ := List.getElem_of_mem hin5
      have hi2' : i2 < q'.length := by rw [upd2_len] at hi2; exact hi2
      have e5 : at0 (upd2 q' m (-1)) i2 = at0 q5 0 := by rw [at0_get hi2, ei2]
      have mi := z3.mem hi2'
      have kr := z3.hp.root i2 hi2'
      unfold upd2 at e5
      rw [at0_set hm] at e5
      unfold ky key at kr
      unfold key at k1'
      by_cases e : i2 = m
      · rw [if_pos e] at e5
        rw [← e5] at k1'
        simp only at k1'
        omega
      · rw [if_neg e] at e5
        rw [← e5] at k1' ⊢
        obtain ⟨a1, a2⟩ : (at0 q' i2).2 = (at0 q' 0).2 ∧ (at0 q' i2).1 = (at0 q' 0).1 := by omega
        exact Prod.ext a2 a1
    have l1 : ∀ a, ld (B'.set i ((at0 q' 0).1 + 1)) a + (if (at0 q' m).1 = a then 1 else 0) = ld B' a + (if (at0 q' 0).1 = a then 1 else 0) := by
      intro a
      have := ld_set (B := B') (i := i) (v := (at0 q' 0).1 + 1) (m := a) hi
      by_cases e1 : (at0 q' m).1 = a
      · rw [if_pos e1]
        rw [if_pos (show B'[i] = a + 1 by omega)] at this
        by_cases e2 : (at0 q' 0).1 = a
        · exact absurd (e1.trans e2.symm) hmt
        · rw [if_neg e2]
          rw [if_neg (show ¬ (at0 q' 0).1 + 1 = a + 1 by omega)] at this
          exact this
      · rw [if_neg e1]
        rw [if_neg (show ¬ B'[i] = a + 1 by omega)] at this
        by_cases e2 : (at0 q' 0).1 = a
        · rw [if_pos e2]
          rw [if_pos (show (at0 q' 0).1 + 1 = a + 1 by omega)] at this
          exact this
        · rw [if_neg e2]
          rw [if_neg (show ¬ (at0 q' 0).1 + 1 = a + 1 by omega)] at this
          exact this
    have lf : ld (B'.set i ((at0 q' 0).1 + 1)) (at0 q' m).1 + 1 = ld B' (at0 q' m).1 := by
      have := l1 (at0 q' m).1
      rw [if_pos rfl, if_neg (fun e => hmt e.symm)] at this
      exact this
    have lt : ld (B'.set i ((at0 q' 0).1 + 1)) (at0 q' 0).1 = ld B' (at0 q' 0).1 + 1 := by
      have := l1 (at0 q' 0).1
      rw [if_neg hmt, if_pos rfl] at this
      exact this
    have lo : ∀ a, a ≠ (at0 q' m).1 → a ≠ (at0 q' 0).1 → ld (B'.set i ((at0 q' 0).1 + 1)) a = ld B' a := fun a e1 e2 => by
      have := l1 a
      rw [if_neg (Ne.symm e1), if_neg (Ne.symm e2)] at this
      exact this
    have qf5 : QF q5 M fun a => (ld B' a : Int) - (if (at0 q' m).1 = a then 1 else 0) := (z3.qm.upd z3.asc.nodup hm (by show (ld B' (at0 q' m).1 : Int) - (if (at0 q' m).1 = (at0 q' m).1 then 1 else 0) = _; rw [if_pos rfl]; rfl) fun a ha hne => by
      show (ld B' a : Int) - (if (at0 q' m).1 = a then 1 else 0) = _
      rw [if_neg (Ne.symm hne)]; simp).perm p5
    refine optK_of (rdN_all hx5 rfl) (change0_in qa5 hh5 hq5 ⟨by rw [root, m0.2.1]; omega, by rw [root, m0.2.1]; omega⟩ fun s6 q6 qa6 p6 hh6 k6 => ?_)
    have qm6 : QM q6 M (B'.set i ((at0 q' 0).1 + 1)) := (qf5.upd z3.asc.nodup hq5 (by
      rw [root]
      show ((ld _ _ : Nat) : Int) = (ld B' (at0 q' 0).1 : Int) - (if (at0 q' m).1 = (at0 q' 0).1 then 1 else 0) + 1
      rw [lt, if_neg hmt]; omega) fun a ha hne => by
      rw [root] at hne
      show ((ld _ _ : Nat) : Int) = (ld B' a : Int) - (if (at0 q' m).1 = a then 1 else 0)
      have := l1 a
      rw [if_neg (Ne.symm hne)] at this
      split
      · rename_i e; rw [if_pos e] at this; omega
      · rename_i e; rw [if_neg e] at this; omega).perm p6
    have wa6 := (wa4.keepQ k5 z3.nws z3.nbs z3.fr).keepQ k6 z3.nws z3.nbs z3.fr
    have stp : Stp M B' (B'.set i ((at0 q' 0).1 + 1)) := .move hi hBi mm.1 m0.1 (z3.least hq) hmaxl (by omega) nz hlst (z3.tie hq) htieM
    refine ⟨pot M (B'.set i ((at0 q' 0).1 + 1)), pot_less z3.asc.nodup mm.1 m0.1 (by omega) lf lt fun a _ e1 e2 => lo a e1 e2, _, q6, rfl, ⟨wa6, qa6, qm6, hh6, z3.fr, z3.asc, fun b hb => ?_⟩, rc.tail stp, fun b hb => ?_, (kp.trans sub3.keep).trans ((u4.keep (fp := fun b => b = bb ∨ b = sb) (.inl rfl)).trans ((k5.mono fun b e => .inr e).trans (k6.mono fun b e => .inr e))), k6 _ _ hx5 hxs⟩
    · rcases List.mem_or_eq_of_mem_set hb with h | rfl
      · exact z3.rg b h
      · omega
    · rcases List.mem_or_eq_of_mem_set hb with h | rfl
      · exact nz b h
      · omega
end Go.AM
namespace Go.AM
open Go Go.Proofs
variable {K : AVal → Heap → Prop} {s : Heap} {w bb : Nat} {mv : AVal} {cap : Option Nat} {B M l : List Int}
theorem Stp.elt {B B' : List Int} (h : Stp M B B') : ∀ b ∈ B', b ∈ B ∨ b - 1 ∈ M := by
  intro b hb
  cases h with
  | @fill i t hi h0 ht hmin _ _ =>
    rcases List.mem_or_eq_of_mem_set hb with h | rfl
    · exact .inl h
    · exact .inr (by rw [Int.add_sub_cancel]; exact ht)
  | @move i f t hi hf hfr ht hmin hmax hd _ _ _ _ =>
    rcases List.mem_or_eq_of_mem_set hb with h | rfl
    · exact .inl h
    · exact .inr (by rw [Int.add_sub_cancel]; exact ht)
theorem Rch.elt {B B' : List Int} (h : Rch M B B') : ∀ b ∈ B', b ∈ B ∨ b - 1 ∈ M := by
  induction h with
  | refl => exact fun b hb => .inl hb
  | tail _ h2 ih =>
    intro b hb
    rcases h2.elt b hb with h | h
    · exact ih b h
    · exact .inr h
theorem Rch.trans {B B1 B2 : List Int} (h : Rch M B B1) (h2 : Rch M B1 B2) : Rch M B B2 := by
  induction h2 with
  | refl => exact h
  | tail _ h3 ih => exact ih.tail h3
theorem clr_elt : ∀ b ∈ clr M B, b = 0 ∨ b - 1 ∈ M := by
  intro b hb
  obtain ⟨x, _, rfl⟩ := List.mem_map.1 hb
  split
  · rename_i h; exact .inr h
  · exact .inl rfl
/-- what Set leaves -/
structure Aft (l B B' : List Int) : Prop where
  none : l = [] → B' = clr [] B
  rch : Rch l (clr l B) B'
  elt : l ≠ [] → ∀ b ∈ B', b - 1 ∈ l
  bal : ∀ a ∈ l, ∀ c ∈ l, ld B' a ≤ ld B' c + 1
theorem Aft.len (h : Aft l B M) : M.length = B.length := by rw [h.rch.len, clr_len]
theorem Aft.rg (h : Aft l B M) (ha : Asc l) : ∀ b ∈ M, 0 ≤ b ∧ b ≤ 128 := by
  intro b hb
  by_cases e : l = []
  · rw [h.none e] at hb
    obtain ⟨x, _, rfl⟩ := List.mem_map.1 hb
    rw [if_neg (by simp)]
    omega
  · have := ha.2 _ (h.elt e b hb)
    omega
theorem clear_step {K : AVal → Heap → Prop} (hb : s bb = some (false, .cells 3 (ints B))) (hp : 1 ≤ B.length) (hK : ∀ s', s' bb = some (false, .cells 3 (ints (List.replicate B.length 0))) → Upto bb s s' → K .undef s') : clearK [.int .i64 0] 1 (.slc bb 0 B.length cap 1) K s := by
  obtain ⟨n, hn⟩ : ∃ n, B.length = n + 1 := ⟨B.length - 1, by omega⟩
  rw [hn]
  refine ⟨rfl, ?_⟩
  have e1 : wrN s (.ptr bb 0) (repl (n + 1) [.int .i64 0]) = some (hset s bb (false, .cells 3 (ints (List.replicate B.length 0)))) := by
    have e2 : repl (n + 1) [AVal.int .i64 0] = ints (List.replicate B.length 0) := by rw [repl_one, hn]; simp [ints]
    have e3 : setRange (ints B) 0 (ints (List.replicate B.length 0)) = ints (List.replicate B.length 0) := by
      unfold setRange; rw [List.drop_eq_nil_of_le (by simp)]; simp
    have e4 : ∀ k, allOne (ints (List.replicate k 0)) = true := by
      intro k; induction k with
      | zero => rfl
      | succ k ih => simpa [List.replicate_succ, allOne] using ih
    simp only [wrN, hb, e2, e3, e4]
    have : Nat.ble (0 + (ints (List.replicate B.length 0)).length) (ints B).length = true := by rw [Nat.ble_eq]; simp
    rw [this]; rfl
  refine optK_of e1 (hK _ ?_ ?_)
  · simp [hset]
  · intro i hi
    simp [hset, hi]
theorem Set_in {v : AVal} (h : WAt s w bb mv cap B M) (hl : Sli s v l) (ha : Asc l) (hlen : l.length ≤ B.length) (hr : ∀ b ∈ B, 0 ≤ b ∧ b ≤ 128)
    (hK : ∀ s' mv' B', WAt s' w bb mv' cap B' l → Aft l B B' → KeepBut (fun b => b = w ∨ b = bb) s s' → (l ≠ [] → ∃ c n k, s c = none ∧ mv' = .slc c 0 n k 1) → K (.int .i64 0) s') : wpCall Try.prog XX 14 [.ptr w 0, v] K s := by
  have hp := h.pos
  refine vc_spread_Wheel_Set_in (valid_in h ?_)
  simp only [unary_not, Bool.not_true, optK_mk, boolK_false]
  refine check_in h hl ha hlen ?_
  simp only [eqV_int, negB_mk, beq_self_eq_true, Bool.true_bne, Bool.not_true, optK_mk, boolK_false]
  refine Clone_in hl (by omega) fun v6 s7 sub7 sl7 g7 => ?_
  have w7 := h.sub sub7
  simp only [nilCheck_ptr, addOff_ptr, Nat.zero_add, optK_mk]
  refine wr1_step w7.wb (by simp) sl7.one fun s10 h10 u10 => ?_
  have h10 : s10 w = some (false, .cells 53 [.slc bb 0 B.length cap 1, v6]) := h10
  have mfree : ∀ b o n c, v6 = .slc b o n c 1 → l ≠ [] → s b = none := by
    intro b o n c e hne
    obtain ⟨c', hc, e2, _⟩ := g7 hne
    rw [e2] at e; cases e; exact hc
  have w10 : WAt s10 w bb v6 cap B l := ⟨h10, by rw [u10 bb h.ne.symm]; exact w7.bs, sl7.keep (fp := fun b => b = w) (u10.keep rfl) fun b o n c e hne e2 => (by
    have := mfree b o n c e (by simpa using hne)
    rw [e2, h.wb] at this; cases this), h.cp, h.pos⟩
  have k10 : KeepBut (fun b => b = w ∨ b = bb) s s10 := (sub7.keep).trans (u10.keep (.inl rfl))
  simp only [hl.len, List.length_map, optK_mk, eqV_int, negB_mk, Bool.false_bne]
  cases hz : (((l.length : Nat) : Int) == 0) with
  | true =>
    have hz := eq_of_beq hz
    have hl0 : l = [] := List.length_eq_zero_iff.1 (by omega)
    subst hl0
    simp only [boolK_true, nilCheck_ptr, addOff_ptr, rd1_mk h10, Nat.zero_add, List.getElem?_cons_zero, optK_mk]
    refine clear_step w10.bs hp.1 fun s11 h11 u11 => ?_
    have e0 : clr [] B = List.replicate B.length 0 := by
      unfold clr
      simp only [List.not_mem_nil, if_false]
      rw [List.map_const']
    refine hK s11 v6 (clr [] B) ⟨by rw [clr_len, u11 w h.ne]; exact h10, by rw [h11, e0], w10.ms.keep (fp := fun b => b = bb) (u11.keep rfl) fun b o n c e hne => absurd rfl hne, by rw [clr_len]; exact h.cp, by rw [clr_len]; exact h.pos⟩ ⟨fun _ => rfl, .refl, fun e => absurd rfl e, fun a ha => by simp at ha⟩ (k10.trans (u11.keep (.inr rfl))) fun e => absurd rfl e
  | false =>
    have hz : ¬ ((l.length : Nat) : Int) = 0 := fun e => by rw [e] at hz; simp at hz
    have hne : l ≠ [] := fun e => by rw [e] at hz; simp at hz
    simp only [boolK_false]
    refine queue_in w10 ha (by omega) hr (fun b o n c e hM => fun e2 => by
      have := mfree b o n c e hM
      rw [e2, h.bs] at this; cases this) fun s20 o sb q w20 q20 qm20 hp20 fsb fo k20 => ?_
    refine new_step fun x s22 hx h22 u22 => wrAgg_step h22 rfl rfl rfl fun s23 h23 u23 => optK_of (rdN_all h23 rfl) ?_
    have h23 : s23 x = some (false, .cells 71 [.ptr o 0]) := h23
    have sub23 : Sub s20 s23 := (Sub.refl s20).trans ((u22.sub hx).upto u23 hx)
    have st : St s23 w bb v6 cap o sb (clr l B) l q := ⟨w20.sub sub23, q20.sub sub23, qm20, hp20, fun b o' n c e hM => fun e2 => by
      have e0 := mfree b o' n c e hM
      rcases e2 with e2 | e2
      · rw [e2, h.bs] at e0; cases e0
      · obtain ⟨c', hc, e3, hc2⟩ := g7 hM
        have e4 : b = c' := by rw [e3] at e; injection e with e1; exact e1.symm
        rw [e4] at e2
        have : s10 c' ≠ none := by
          rw [u10 c' (fun e => by rw [e, h.wb] at hc; cases hc), hc2]; simp
        exact this (by rw [e2]; exact fsb), ha, fun b hb => by
          rcases clr_elt b hb with h | h
          · omega
          · have := ha.2 _ h; omega⟩
    have nx : ¬ (x = bb ∨ x = sb) := by
      rintro (e | e)
      · have := w20.bs; rw [← e, hx] at this; cases this
      · have := q20.dt; rw [← e, hx] at this; cases this
    refine fill_in st hne fun s26 B26 q26 st26 rc26 nz26 k26 => ?_
    refine optK_of (rdN_all (k26 _ _ h23 nx) rfl) ?_
    refine balance_in st26 hne nz26 fun s29 B29 q29 st29 rc29 nz29 bal29 k29 => ?_
    have rc := rc26.trans rc29
    refine hK s29 v6 B29 st29.wa ⟨fun e => absurd e hne, rc, fun _ b hb => ?_, bal29⟩ ?_ fun _ => by obtain ⟨c, hc, e, _⟩ := g7 hne; exact ⟨c, _, _, hc, e⟩
    · rcases rc.elt b hb with h | h
      · rcases clr_elt b h with h | h
        · exact absurd h (nz29 b hb)
        · exact h
      · exact h
    · intro i e hi hn
      have n1 : ¬ i = bb := fun e => hn (.inr e)
      have i10 := k10 i e hi hn
      have i20 := k20 i e i10 n1
      have i23 := sub23 i e i20
      have n2 : ¬ (i = bb ∨ i = sb) := by
        rintro (e2 | e2)
        · exact n1 e2
        · rw [e2, fsb] at i10; cases i10
      exact k29 i e (k26 i e i23 n2) n2
end Go.AM
namespace Go.AM
open Go Go.Proofs
variable {B B' M l : List Int}
/-! ### what filling and balancing do, in plain lists -/
/-- a wheel that Set left -/
structure Bal (M B : List Int) : Prop where
  none : M = [] → ∀ b ∈ B, b = 0
  elt : M ≠ [] → ∀ b ∈ B, b - 1 ∈ M
  bal : ∀ a ∈ M, ∀ c ∈ M, ld B a ≤ ld B c + 1
theorem Aft.Bal (h : Aft l B B') : Bal l B' := ⟨fun e b hb => by
  rw [h.none e] at hb
  obtain ⟨x, _, rfl⟩ := List.mem_map.1 hb
  rw [if_neg (by simp)], h.elt, h.bal⟩
theorem Bal.rg (h : Bal M B) (ha : Asc M) : ∀ b ∈ B, 0 ≤ b ∧ b ≤ 128 := by
  intro b hb
  by_cases e : M = []
  · rw [h.none e b hb]; omega
  · have := ha.2 _ (h.elt e b hb)
    omega
theorem clr_self (h : ∀ b ∈ B, b - 1 ∈ M) : clr M B = B := by
  unfold clr
  conv => rhs; rw [← List.map_id B]
  exact List.map_congr_left fun b hb => by rw [if_pos (h b hb)]; rfl
/-- no step leads on from a balanced full wheel -/
theorem Rch.still (h : Rch M B B') (h0 : ∀ b ∈ B, b ≠ 0) (hb : ∀ a ∈ M, ∀ c ∈ M, ld B a ≤ ld B c + 1) : B' = B := by
  induction h with
  | refl => rfl
  | tail _ h2 ih =>
    rw [ih] at h2
    cases h2 with
    | @fill i t hi hz ht hmin _ _ => exact absurd hz (h0 _ (List.getElem_mem hi))
    | @move i f t hi hf hfr ht hmin hmax hd _ _ _ _ =>
      have := hb f hfr t ht
      omega
theorem still_of (ha : Asc M) (hM : M ≠ []) (hb : Bal M B) (h : Aft M B B') : B' = B := by
  have e := h.rch
  rw [clr_self (hb.elt hM)] at e
  refine e.still (fun b hb2 => ?_) hb.bal
  have := ha.2 _ (hb.elt hM b hb2)
  omega
theorem ld_new {i : Nat} {t : Int} (hi : i < B.length) {m : Int} (h0 : B[i] ≠ m + 1) : ld (B.set i (t + 1)) m = ld B m + (if t = m then 1 else 0) := by
  have := ld_set (B := B) (i := i) (v := t + 1) (m := m) hi
  rw [if_neg h0] at this
  by_cases e : t = m
  · rw [if_pos (by omega)] at this
    rw [if_pos e]; omega
  · rw [if_neg (by omega)] at this
    rw [if_neg e]; omega
theorem ld_clr {a : Int} (h : a ∈ l) (ha : 0 ≤ a) : ld (clr l B) a = ld B a := by
  unfold ld clr
  induction B with
  | nil => rfl
  | cons b r ih =>
    rw [List.map_cons, List.count_cons, List.count_cons, ih]
    by_cases e : b - 1 ∈ l
    · rw [if_pos e]
    · rw [if_neg e]
      have h1 : ((0 : Int) == a + 1) = false := by
        cases q : ((0 : Int) == a + 1) with
        | false => rfl
        | true => have := eq_of_beq q; omega
      have h2 : (b == a + 1) = false := by
        cases q : (b == a + 1) with
        | false => rfl
        | true =>
          have q := eq_of_beq q
          exact absurd (by rw [q, Int.add_sub_cancel]; exact h) e
      rw [h1, h2]
/-- removals -/
theorem gone_inv {B1 : List Int} (hp : ∀ a ∈ l, 0 ≤ a) (hb : ∀ a ∈ l, ∀ c ∈ l, ld B a ≤ ld B c + 1) (h : Rch l (clr l B) B1) :
    (∀ k (h1 : k < B.length) (h2 : k < B1.length), B[k] - 1 ∈ l → B1[k] = B[k]) ∧ ∀ a ∈ l, ∀ c ∈ l, ld B1 a ≤ ld B1 c + 1 := by
  induction h with
  | refl =>
    refine ⟨fun k h1 h2 h3 => by simp [clr, h3], fun a ha c hc => ?_⟩
    rw [ld_clr ha (hp a ha), ld_clr hc (hp c hc)]
    exact hb a ha c hc
  | @tail B1 B2 h1 h2 ih =>
    obtain ⟨i1, i2⟩ := ih
    cases h2 with
    | @fill i t hi hz ht hmin _ _ =>
      have hl : ∀ a ∈ l, ld (B1.set i (t + 1)) a = ld B1 a + (if t = a then 1 else 0) := fun a ha => ld_new hi (by have := hp a ha; omega)
      refine ⟨fun k k1 k2 k3 => ?_, fun a ha c hc => ?_⟩
      · have k2' : k < B1.length := by simpa using k2
        rw [List.getElem_set]
        split
        · rename_i e
          subst e
          have := i1 i k1 hi k3
          have := hp _ k3
          omega
        · exact i1 k k1 k2' k3
      · rw [hl a ha, hl c hc]
        have := i2 a ha c hc
        have := hmin c hc
        split <;> split <;> (try subst_vars) <;> omega
    | @move i f t hi hf hfr ht hmin hmax hd _ _ _ _ =>
      have := i2 f hfr t ht
      omega
/-- additions -/
theorem comes_inv {B1 : List Int} (hM : ∀ a ∈ M, a ∈ l) (hp : ∀ a ∈ l, 0 ≤ a) (h0 : ∀ b ∈ B, b - 1 ∈ M) (hb : ∀ a ∈ M, ∀ c ∈ M, ld B a ≤ ld B c + 1) (h : Rch l B B1) :
    (∀ b ∈ B1, b ≠ 0) ∧ (∀ k (h1 : k < B.length) (h2 : k < B1.length), B1[k] = B[k] ∨ B1[k] - 1 ∉ M) ∧ (∀ a ∈ M, ∀ c ∈ M, ld B1 a ≤ ld B1 c + 1) ∧ (∀ a ∈ l, a ∉ M → ∀ c ∈ M, ld B1 a ≤ ld B1 c) ∧ (∀ a ∈ l, a ∉ M → ∀ c ∈ l, c ∉ M → ld B1 a ≤ ld B1 c + 1) := by
  induction h with
  | refl =>
    have z : ∀ a, a ∉ M → ld B a = 0 := fun a ha => by
      refine List.count_eq_zero.2 fun h => ha ?_
      have := h0 _ h
      rwa [Int.add_sub_cancel] at this
    refine ⟨fun b h => ?_, fun _ _ _ => .inl rfl, hb, fun a _ h c _ => by rw [z a h]; omega, fun a _ h c _ _ => by rw [z a h]; omega⟩
    have := hp _ (hM _ (h0 b h))
    omega
  | @tail B1 B2 h1 h2 ih =>
    obtain ⟨i0, i1, i2, i3, i4⟩ := ih
    cases h2 with
    | @fill i t hi hz ht hmin _ _ => exact absurd hz (i0 _ (List.getElem_mem hi))
    | @move i f t hi hf hfr ht hmin hmax hd _ _ _ _ =>
      have hft : f ≠ t := by rintro rfl; omega
      have tn : t ∉ M := fun tm => by
        by_cases fm : f ∈ M
        · have := i2 f fm t tm; omega
        · have := i3 f hfr fm t tm; omega
      have fm : f ∈ M := Classical.byContradiction fun fm => by
        have := i4 f hfr fm t ht tn; omega
      have hl : ∀ a, ld (B1.set i (t + 1)) a + (if f = a then 1 else 0) = ld B1 a + (if t = a then 1 else 0) := fun a => by
        have := ld_set (B := B1) (i := i) (v := t + 1) (m := a) hi
        rw [hf] at this
        have e1 : (if f + 1 = a + 1 then 1 else 0) = (if f = a then 1 else 0) := by split <;> split <;> omega
        have e2 : (if t + 1 = a + 1 then 1 else 0) = (if t = a then 1 else 0) := by split <;> split <;> omega
        rw [e1, e2] at this
        exact this
      have hlf : ld (B1.set i (t + 1)) f + 1 = ld B1 f := by have := hl f; rw [if_pos rfl, if_neg (fun e => hft e.symm)] at this; exact this
      have hlt : ld (B1.set i (t + 1)) t = ld B1 t + 1 := by have := hl t; rw [if_neg hft, if_pos rfl] at this; exact this
      have hlo : ∀ a, a ≠ f → a ≠ t → ld (B1.set i (t + 1)) a = ld B1 a := fun a h1 h2 => by have := hl a; rw [if_neg (Ne.symm h1), if_neg (Ne.symm h2)] at this; exact this
      refine ⟨fun b hb2 => ?_, fun k k1 k2 => ?_, fun a ha c hc => ?_, fun a ha hna c hc => ?_, fun a ha hna c hc hnc => ?_⟩
      · rcases List.mem_or_eq_of_mem_set hb2 with h | rfl
        · exact i0 b h
        · have := hp t ht; omega
      · rw [List.getElem_set]
        split
        · exact .inr (by rw [Int.add_sub_cancel]; exact tn)
        · exact i1 k k1 (by simpa using k2)
      · have at' : a ≠ t := fun e => tn (e ▸ ha)
        have ct : c ≠ t := fun e => tn (e ▸ hc)
        have x1 := i2 a ha c hc
        have x2 := hmax a (hM a ha)
        by_cases e1 : a = f <;> by_cases e2 : c = f
        · subst e1; subst e2; omega
        · subst e1; rw [hlo c e2 ct]; omega
        · subst e2; rw [hlo a e1 at']; omega
        · rw [hlo a e1 at', hlo c e2 ct]; omega
      · have af : a ≠ f := fun e => hna (e ▸ fm)
        have ct : c ≠ t := fun e => tn (e ▸ hc)
        have x1 := i3 a ha hna c hc
        have x2 := i2 f fm c hc
        have x4 := i4 a ha hna t ht tn
        by_cases e1 : a = t <;> by_cases e2 : c = f
        · subst e1; subst e2; omega
        · subst e1; rw [hlo c e2 ct]; omega
        · subst e2; rw [hlo a af e1]; omega
        · rw [hlo a af e1, hlo c e2 ct]; omega
      · have af : a ≠ f := fun e => hna (e ▸ fm)
        have cf : c ≠ f := fun e => hnc (e ▸ fm)
        have x1 := i4 a ha hna c hc hnc
        have x2 := hmin c hc
        by_cases e1 : a = t <;> by_cases e2 : c = t
        · subst e1; subst e2; omega
        · subst e1; rw [hlo c cf e2]; omega
        · subst e2; rw [hlo a af e1]; omega
        · rw [hlo a af e1, hlo c cf e2]; omega
end Go.AM
namespace Go.AM
open Go Go.Proofs
variable {K : AVal → Heap → Prop} {s : Heap} {w bb : Nat} {mv : AVal} {cap : Option Nat} {B M : List Int}
/-! ### helpers -/
theorem Pick_in {a n : Int} (hn : 0 < n) (hn2 : n ≤ 1000000) (hK : K (.int .i64 (a % n)) s) : wpCall Try.prog XX 22 [.int .i64 a, .int .i64 n] K s := by
  refine vc_leafmeshkit_Pick_in ?_
  have hne : n ≠ 0 := by omega
  have h1 := Int.emod_nonneg a hne
  have h2 := Int.emod_lt_of_pos a hn
  simp only [vc_leafmeshkit_Pick, arith_rem hne, optK_mk, arith_lss, vc_leafmeshkit_Pick_j0]
  have key : a.tmod n = a % n ∨ (a.tmod n = a % n - n ∧ a % n ≠ 0 ∧ a.tmod n < 0) := by
    rw [Int.tmod_eq_emod]
    split
    · left; omega
    · right
      rename_i h
      have : ¬ n ∣ a := fun hd => h (.inr hd)
      have hz : a % n ≠ 0 := fun e => this (Int.dvd_of_emod_eq_zero e)
      have : (n.natAbs : Int) = n := by omega
      omega
  rcases key with e | ⟨e, hz, hlt⟩
  · have : decide (a.tmod n < 0) = false := by simp; omega
    rw [this]
    simp only [boolK_false]
    rw [e]; exact hK
  · have : decide (a.tmod n < 0) = true := by simpa using hlt
    rw [this]
    simp only [boolK_true, arith_add, optK_mk]
    rw [e, wrap64 (by omega) (by omega)]
    rw [show a % n - n + n = a % n by omega]; exact hK
theorem Same_in {v v' : AVal} {l m : List Int} (h : Sli s v l) (h' : Sli s v' m) (hl : l.length ≤ 10000000) (hK : K (.bool (l == m)) s) : wpCall Try.prog XX 12 [v, v'] K s := by
  refine vc_leafmeshkit_Same_int__in ?_
  simp only [vc_leafmeshkit_Same_int_, h.len, h'.len, optK_mk, eqV_int, negB_mk, List.length_map, Bool.true_bne]
  refine boolK_mk (fun hne => ?_) (fun heq => ?_)
  · have : (l == m) = false := by
      cases q : (l == m) with
      | false => rfl
      | true => rw [eq_of_beq q] at hne; simp at hne
    rw [← this]; exact hK
  · have hlm : l.length = m.length := by
      have : (l.length : Int) = m.length := by simpa using heq
      omega
    refine ⟨fun ys s1 n => ∃ k : Nat, ys = [.int .i64 k] ∧ s1 = s ∧ k ≤ l.length ∧ n = l.length - k ∧ (l == m) = (l.drop k == m.drop k), ⟨_, 0, rfl, rfl, by omega, rfl, by simp⟩, ?_⟩
    rintro f s1 n ⟨k, hy, rfl, hk, rfl, he⟩
    simp only [List.cons.injEq, and_true] at hy
    rw [hy]
    simp only [vc_leafmeshkit_Same_int__l0, h.len, optK_mk, arith_lss, List.length_map]
    refine boolK_mk (fun hlt => ?_) (fun hge => ?_)
    · have hlt : k < l.length := by simpa using hlt
      obtain ⟨p, g1, g2⟩ := sli_at h hlt
      obtain ⟨p', g3, g4⟩ := sli_at h' (k := k) (by omega)
      rw [List.drop_eq_getElem_cons hlt, List.drop_eq_getElem_cons (show k < m.length by omega), List.cons_beq_cons] at he
      simp only [g1, g2, g3, g4, optK_mk, eqV_int, negB_mk, Bool.true_bne]
      cases hq : (l[k] == m[k]) with
      | false =>
        rw [hq, Bool.false_and] at he; rw [he] at hK
        simp only [Bool.not_false, boolK_true]; exact hK
      | true =>
        rw [hq, Bool.true_and] at he
        simp only [Bool.not_true, boolK_false, arith_add, optK_mk]
        rw [wrap64 (by omega) (by omega)]
        exact ⟨_, by omega, k + 1, by simp, by trivial, by omega, rfl, he⟩
    · have hge : l.length ≤ k := by simpa using hge
      rw [List.drop_eq_nil_of_le hge, List.drop_eq_nil_of_le (by omega)] at he
      rw [he] at hK; exact hK
theorem Has_in {v : AVal} {l : List Int} {x : Int} (h : Sli s v l) (hl : l.length ≤ 1000000) (hK : K (.bool (decide (x ∈ l))) s) : wpCall Try.prog XX 21 [v, .int .i64 x] K s := by
  refine vc_leafmeshkit_Has_int__in ?_
  refine ⟨fun ys s1 n => ∃ k : Nat, ys = [.int .i64 k] ∧ s1 = s ∧ k ≤ l.length ∧ n = l.length - k ∧ (x ∈ l ↔ x ∈ l.drop k), ⟨_, 0, rfl, rfl, by omega, rfl, by simp⟩, ?_⟩
  rintro f s1 n ⟨k, hy, rfl, hk, rfl, he⟩
  simp only [List.cons.injEq, and_true] at hy
  rw [hy]
  simp only [vc_leafmeshkit_Has_int__l0, h.len, List.length_map, optK_mk, arith_lss]
  refine boolK_mk (fun hlt => ?_) (fun hge => ?_)
  · have hlt : k < l.length := by have := of_decide_eq_true hlt; omega
    obtain ⟨p, g1, g2⟩ := sli_at h hlt
    rw [List.drop_eq_getElem_cons hlt, List.mem_cons] at he
    simp only [g1, g2, optK_mk, eqV_int, negB_mk, Bool.false_bne]
    cases hq : (l[k] == x) with
    | true =>
      have : x ∈ l := he.2 (.inl (eq_of_beq hq).symm)
      rw [decide_eq_true this] at hK
      simp only [boolK_true]; exact hK
    | false =>
      have hne : x ≠ l[k] := fun e => by rw [e] at hq; simp at hq
      simp only [boolK_false, arith_add, optK_mk]
      rw [wrap64 (by omega) (by omega)]
      exact ⟨_, by omega, k + 1, by simp, by trivial, by omega, rfl, he.trans ⟨fun h => h.resolve_left hne, .inr⟩⟩
  · have hge : l.length ≤ k := by have := of_decide_eq_false hge; omega
    rw [List.drop_eq_nil_of_le hge] at he
    have : ¬ x ∈ l := fun h => by simpa using he.1 h
    rw [decide_eq_false this] at hK
    exact hK

theorem Own_in {v : AVal} {l : List Int} (h : Sli s v l) (hl : l.length ≤ 10000000) (hK : ∀ v' s', Sub s s' → ((ints l = [] ∧ ∃ b, v' = .slc b 0 0 (some 0) 1) ∨ Acc 3 s s' v' (ints l)) → K v' s') : wpCall Try.prog XX 24 [v] K s := by
  refine vc_leafmeshkit_Own_int__in ?_
  refine optK_of (a := []) rfl ⟨rfl, new_step fun b s1 hb h1 u1 => ?_⟩
  refine app_copy (h.sub (u1.sub hb)) (by simp; omega) fun v' s2 sub2 g1 g2 => hK _ _ ((u1.sub hb).trans sub2) ?_
  by_cases hm : l.map (AVal.int .i64) = []
  · exact .inl ⟨hm, b, g1 hm⟩
  · obtain ⟨c, hc0, rfl, hc⟩ := g2 hm
    refine .inr (.inr ⟨c, ?_, rfl, hc⟩)
    cases q : s c with
    | none => rfl
    | some x => rw [u1.sub hb c x q] at hc0; cases hc0
/-- a slice of slices of numbers -/
def Sll (s : Heap) (v : AVal) (l : List (AVal × List Int)) : Prop := Sl s v (l.map Prod.fst) ∧ ∀ a ∈ l, Sli s a.1 a.2
theorem Sll.sub {s' : Heap} {v : AVal} {l : List (AVal × List Int)} (h : Sll s v l) (hs : Sub s s') : Sll s' v l := ⟨h.1.sub hs, fun a ha => (h.2 a ha).sub hs⟩
theorem Sll.at {v : AVal} {l : List (AVal × List Int)} (h : Sll s v l) {k : Nat} (hk : k < l.length) : ∃ p, iaddrS 1 v (.int .i64 (k : Int)) = some p ∧ rd1 s p = some l[k].1 ∧ Sli s l[k].1 l[k].2 := by
  obtain ⟨p, h1, h2⟩ := h.1.get (i := k) (by simpa using hk)
  exact ⟨p, h1, by rw [h2]; simp [hk], h.2 _ (List.getElem_mem hk)⟩
def shortL (l : List (AVal × List Int)) : Prop := (∀ a ∈ l, a.2.length ≤ 64) ∧ l.length ≤ 8
theorem short_in {v : AVal} {l : List (AVal × List Int)} (h : Sll s v l) (hl : l.length ≤ 9223372036854775807) (h1 : shortL l → K (.bool true) s) (h2 : K (.bool false) s) : wpCall Try.prog XX 18 [v] K s := by
  refine vc_leafmeshlaw11_short_in ?_
  refine ⟨fun ys s1 n => ∃ k : Nat, ys = [.int .i64 k] ∧ s1 = s ∧ k ≤ l.length ∧ n = l.length - k ∧ ∀ j (hj : j < l.length), j < k → l[j].2.length ≤ 64, ⟨_, 0, rfl, rfl, by omega, rfl, fun j hj h => by omega⟩, ?_⟩
  rintro f s1 n ⟨k, hy, rfl, hk, rfl, he⟩
  simp only [List.cons.injEq, and_true] at hy
  rw [hy]
  simp only [vc_leafmeshlaw11_short_l0, h.1.len, List.length_map, optK_mk, arith_lss]
  refine boolK_mk (fun hlt => ?_) (fun hge => ?_)
  · have hlt : k < l.length := by have := of_decide_eq_true hlt; omega
    obtain ⟨p, g1, g2, g3⟩ := h.at hlt
    simp only [g1, g2, g3.len, List.length_map, optK_mk, arith_gtr]
    refine boolK_mk (fun _ => h2) (fun hs => ?_)
    have hs := of_decide_eq_false hs
    simp only [arith_add, optK_mk]
    rw [wrap64 (by omega) (by omega)]
    refine ⟨_, by omega, k + 1, by simp, by trivial, by omega, rfl, fun j hj hjk => ?_⟩
    by_cases e : j = k
    · subst e; omega
    · exact he j hj (by omega)
  · have hge : k = l.length := by have := of_decide_eq_false hge; omega
    subst hge
    simp only [arith_leq, optK_mk]
    by_cases h8 : l.length ≤ 8
    · rw [decide_eq_true (by omega)]
      refine h1 ⟨fun a ha => ?_, h8⟩
      obtain ⟨j, hj, rfl⟩ := List.getElem_of_mem ha
      exact he j hj hj
    · rw [decide_eq_false (by omega)]
      exact h2
/-! ### members -/
theorem Asc.len {l : List Int} {n : Nat} (h : l.Pairwise (· < ·)) (hr : ∀ x ∈ l, 0 ≤ x ∧ x < (n : Int)) : l.length ≤ n := by
  induction n generalizing l with
  | zero =>
    cases l with
    | nil => simp
    | cons a r => have := hr a (by simp); omega
  | succ n ih =>
    rcases List.eq_nil_or_concat l with rfl | ⟨r, a, e⟩
    · simp
    · rw [List.concat_eq_append] at e
      subst e
      have hp := List.pairwise_append.1 h
      have := ih hp.1 fun x hx => by
        have h1 := hr x (by simp [hx])
        have h2 := hp.2.2 x hx a (by simp)
        have h3 := hr a (by simp)
        omega
      simp; omega
set_option maxRecDepth 20000 in
theorem members_in {v : AVal} {l : List Int} {most : Int} (h : Sli s v l) (hl : l.length ≤ 1000000) (hm : 1 ≤ most ∧ most ≤ 128)
    (hK : ∀ v' s' L, Sub s s' → Sli s' v' L → Asc L → (L.length : Int) ≤ most → (most = 128 → ∀ x ∈ l, x % 128 ∈ L) → (L ≠ [] → ∃ c n k, s c = none ∧ v' = .slc c 0 n k 1) → K v' s') : wpCall Try.prog XX 23 [v, .int .i64 most] K s := by
  refine vc_leafmeshlaw11_members_in ?_
  refine ⟨fun ys s1 m => ∃ (n : Nat) (v1 : AVal) (L : List Int), ys = [v1, .int .i64 n] ∧ Sub s s1 ∧ n ≤ 128 ∧ m = 128 - n ∧ Acc 3 s s1 v1 (ints L) ∧ L.Pairwise (· < ·) ∧ (∀ x ∈ L, 0 ≤ x ∧ x < (n : Int)) ∧ (L.length : Int) ≤ most ∧ ∀ x ∈ l, x % 128 < (n : Int) → x % 128 ∈ L, ⟨_, 0, .nilslc, [], rfl, .refl s, by omega, rfl, .inl ⟨rfl, rfl⟩, List.Pairwise.nil, by simp, by simp; omega, fun x _ hx => by have := Int.emod_nonneg x (b := 128) (by omega); omega⟩, ?_⟩
  rintro f s1 m ⟨n, v1, L, hy, sub1, hn, rfl, acc, hp, hr, hlen, hall⟩
  simp only [List.cons.injEq, and_true] at hy
  rw [hy.1, hy.2]
  have hln := Asc.len hp hr
  have fin : (n : Int) = 128 ∨ most ≤ (L.length : Int) → K v1 s1 := fun hc => by
    refine hK _ _ L sub1 acc.sl ⟨hp, fun x hx => by have := hr x hx; omega⟩ hlen (fun e x hx => hall x hx ?_) fun hne => ?_
    · have := Int.emod_lt_of_pos x (b := 128) (by omega)
      omega
    · rcases acc with ⟨_, e⟩ | ⟨b, hb, e, _⟩
      · exact absurd (by simpa using e) hne
      · exact ⟨b, _, _, hb, e⟩
  simp only [vc_leafmeshlaw11_members_l0, arith_lss, optK_mk]
  refine boolK_mk (fun h1 => ?_) (fun h1 => ?_)
  · rw [h1]
    have h1 := of_decide_eq_true h1
    simp only [acc.sl.len, List.length_map, optK_mk, arith_lss, vc_leafmeshlaw11_members_j1, pickV_true]
    refine boolK_mk (fun h2 => ?_) (fun h2 => ?_)
    · have h2 := of_decide_eq_true h2
      have next : ∀ (s2 : Heap) (v2 : AVal) (L2 : List Int), Sub s s2 → Acc 3 s s2 v2 (ints L2) → L2.Pairwise (· < ·) → (∀ x ∈ L2, 0 ≤ x ∧ x < ((n + 1 : Nat) : Int)) → (L2.length : Int) ≤ most → (∀ x ∈ l, x % 128 < ((n + 1 : Nat) : Int) → x % 128 ∈ L2) →
          vc_leafmeshlaw11_members_j2 XX v2 (.int .i64 (n : Int)) (fun ys s1 m => ∃ (n : Nat) (v1 : AVal) (L : List Int), ys = [v1, .int .i64 n] ∧ Sub s s1 ∧ n ≤ 128 ∧ m = 128 - n ∧ Acc 3 s s1 v1 (ints L) ∧ L.Pairwise (· < ·) ∧ (∀ x ∈ L, 0 ≤ x ∧ x < (n : Int)) ∧ (L.length : Int) ≤ most ∧ ∀ x ∈ l, x % 128 < (n : Int) → x % 128 ∈ L) (128 - n) K s2 := by
        intro s2 v2 L2 a1 a2 a3 a4 a5 a6
        simp only [vc_leafmeshlaw11_members_j2, arith_add, optK_mk]
        rw [wrap64 (by omega) (by omega)]
        exact ⟨_, by omega, n + 1, v2, L2, rfl, a1, by omega, rfl, a2, a3, a4, a5, a6⟩
      refine ⟨fun ys s2 m => ∃ i : Nat, ys = [v1, .int .i64 i] ∧ s2 = s1 ∧ i ≤ l.length ∧ m = l.length - i ∧ ∀ j (hj : j < l.length), j < i → l[j] % 128 ≠ (n : Int), ⟨_, 0, rfl, rfl, by omega, rfl, fun j hj h => by omega⟩, ?_⟩
      rintro f s2 m ⟨i, hy, rfl, hi, rfl, hno⟩
      simp only [List.cons.injEq, and_true] at hy
      rw [hy.1, hy.2]
      simp only [vc_leafmeshlaw11_members_l3, (h.sub sub1).len, List.length_map, optK_mk, arith_lss]
      refine boolK_mk (fun hlt => ?_) (fun hge => ?_)
      · have hlt : i < l.length := by have := of_decide_eq_true hlt; omega
        obtain ⟨p, g1, g2⟩ := sli_at (h.sub sub1) hlt
        simp only [g1, g2, optK_mk]
        refine Pick_in (by omega) (by omega) ?_
        simp only [eqV_int, negB_mk, Bool.false_bne, optK_mk]
        cases hq : (l[i] % 128 == (n : Int)) with
        | true =>
          have hq := eq_of_beq hq
          simp only [boolK_true]
          refine lit1_step (elem := 3) (z := .int .i64 0) (v := .int .i64 (n : Int)) rfl rfl fun b s3 hb h3 u3 => ?_
          have acc3 : Acc 3 s s3 v1 (ints L) := by
            rcases acc with a | ⟨c, c1, c2, c3⟩
            · exact .inl a
            · exact .inr ⟨c, c1, c2, u3.at c3 hb⟩
          have lit : Sl s3 (.slc b 0 1 (some 1) 1) [AVal.int .i64 (n : Int)] := Sl.mk h3 rfl (by simp)
          have sub3 : Sub s s3 := sub1.trans (u3.sub hb)
          have hl2 : (ints L).length + [AVal.int .i64 (n : Int)].length ≤ 16777216 := by
            rw [List.length_map, List.length_singleton]; omega
          have e2 : ints L ++ [AVal.int .i64 (n : Int)] = ints (L ++ [(n : Int)]) := by rw [ints, ints, List.map_append]; rfl
          refine acc3.app lit (List.cons_ne_nil _ _) hl2 (fun i hi => ?_) fun v' s4 acc4 k4 => ?_
          · cases e : s i with
            | none => exact absurd e hi
            | some x => rw [sub3 i x e]; exact Option.some_ne_none _
          · rw [e2] at acc4
            refine next s4 v' (L ++ [(n : Int)]) (fun i e hi => k4 i e (sub3 i e hi) fun b hb2 e3 => ?_) acc4 ?_ ?_ ?_ ?_
            · rcases acc with ⟨a, _⟩ | ⟨c, c1, c2, _⟩
              · rw [a] at hb2; cases hb2
              · rw [c2] at hb2
                injection hb2 with b1
                rw [e3, ← b1, c1] at hi; cases hi
            · refine List.pairwise_append.2 ⟨hp, List.pairwise_singleton _ _, fun a ha b hb => ?_⟩
              rw [List.mem_singleton] at hb
              have := hr a ha
              omega
            · intro x hx
              rcases List.mem_append.1 hx with hx | hx
              · have := hr x hx; omega
              · rw [List.mem_singleton] at hx; omega
            · rw [List.length_append, List.length_singleton]; omega
            · intro x hx hx2
              by_cases e : x % 128 = (n : Int)
              · exact List.mem_append_right _ (by rw [e]; exact List.mem_singleton_self _)
              · exact List.mem_append_left _ (hall x hx (by omega))
        | false =>
          have hne : l[i] % 128 ≠ (n : Int) := fun e => by rw [e] at hq; simp at hq
          simp only [boolK_false, arith_add, optK_mk]
          rw [wrap64 (by omega) (by omega)]
          refine ⟨_, by omega, i + 1, rfl, by trivial, by omega, rfl, fun j hj hji => ?_⟩
          by_cases e : j = i
          · subst e; exact hne
          · exact hno j hj (by omega)
      · have hge : i = l.length := by have := of_decide_eq_false hge; omega
        subst hge
        refine next s2 v1 L sub1 acc hp (fun x hx => by have := hr x hx; omega) hlen fun x hx hx2 => ?_
        by_cases e : x % 128 = (n : Int)
        · obtain ⟨j, hj, rfl⟩ := List.getElem_of_mem hx
          exact absurd e (hno j hj hj)
        · exact hall x hx (by omega)
    · exact fin (.inr (by have := of_decide_eq_false h2; omega))
  · rw [h1]
    simp only [vc_leafmeshlaw11_members_j1, pickV_false, optK_mk, boolK_false]
    exact fin (.inl (by have := of_decide_eq_false h1; omega))
end Go.AM
namespace Go.AM
open Go Go.Proofs
variable {K : AVal → Heap → Prop} {s : Heap} {w bb : Nat} {mv : AVal} {cap : Option Nat} {B M : List Int}
theorem extract0 {a b : AVal} : extractA (.tup [a, b]) 0 = some a := rfl
theorem extract1 {a b : AVal} : extractA (.tup [a, b]) 1 = some b := rfl
theorem KeepBut.fresh {s0 s s' : Heap} {w bb : Nat} (h : Sub s0 s) (k : KeepBut (fun b => b = w ∨ b = bb) s s') (hw : s0 w = none) (hb : s0 bb = none) : Sub s0 s' := fun i e hi => k i e (h i e hi) fun h => by
  rcases h with rfl | rfl
  · rw [hw] at hi; cases hi
  · rw [hb] at hi; cases hi
/-- a wheel that lists made -/
structure Whl (s : Heap) (w bb : Nat) (mv : AVal) (cap : Option Nat) (B M : List Int) : Prop where
  wa : WAt s w bb mv cap B M
  asc : Asc M
  len : M.length ≤ B.length
  max : B.length ≤ 64
  bal : Bal M B
theorem Whl.sub {s' : Heap} (h : Whl s w bb mv cap B M) (hs : Sub s s') : Whl s' w bb mv cap B M := ⟨h.wa.sub hs, h.asc, h.len, h.max, h.bal⟩
theorem Whl.rg (h : Whl s w bb mv cap B M) : ∀ b ∈ B, 0 ≤ b ∧ b ≤ 128 := h.bal.rg h.asc
theorem wheel_in {a : Int} {v : AVal} {l : List (AVal × List Int)} (h : Sll s v l) (hl : shortL l)
    (hK : ∀ w bb mv cap B M s', s w = none → s bb = none → Sub s s' → Whl s' w bb mv cap B M → K (.ptr w 0) s') : wpCall Try.prog XX 19 [.int .i64 a, v] K s := by
  refine vc_leafmeshlaw11_wheel_in (Pick_in (by omega) (by omega) ?_)
  have r0 := Int.emod_nonneg a (b := 64) (by omega)
  have r1 := Int.emod_lt_of_pos a (b := 64) (by omega)
  obtain ⟨n, hn⟩ : ∃ n : Nat, 1 + a % 64 = n := ⟨(1 + a % 64).toNat, by omega⟩
  simp only [arith_add, optK_mk]
  rw [wrap64 (by omega) (by omega), hn]
  refine New_in (by omega) (by omega) fun w bb s1 hw hb sub1 wa1 => ?_
  simp only [extract0, extract1, optK_mk, eqV_int, negB_mk, beq_self_eq_true, Bool.true_bne, Bool.not_true, boolK_false, eqV_ptr, Bool.false_bne, vc_leafmeshlaw11_wheel_j0, pickV_false]
  have h8 := hl.2
  refine ⟨fun ys s' m => ∃ (i : Nat) (mv : AVal) (B M : List Int), ys = [.int .i64 i] ∧ i ≤ l.length ∧ m = l.length - i ∧ Sub s s' ∧ Whl s' w bb mv (some n) B M ∧ B.length = n, ⟨_, 0, _, _, _, rfl, by omega, rfl, sub1, ⟨wa1, ⟨List.Pairwise.nil, by simp⟩, by simp, by simp; omega, ⟨fun _ b hb => (List.mem_replicate.1 hb).2, fun e => absurd rfl e, fun a ha => by simp at ha⟩⟩, by simp⟩, ?_⟩
  rintro f s2 m ⟨i, mv, B, M, hy, hi, rfl, sub2, z, hB⟩
  simp only [List.cons.injEq, and_true] at hy
  rw [hy]
  have h2 := h.sub sub2
  simp only [vc_leafmeshlaw11_wheel_l1, h2.1.len, List.length_map, optK_mk, arith_lss]
  refine boolK_mk (fun hlt => ?_) (fun hge => ?_)
  · have hlt : i < l.length := by have := of_decide_eq_true hlt; omega
    obtain ⟨p, g1, g2, g3⟩ := h2.at hlt
    simp only [g1, g2, optK_mk]
    refine Pick_in (by omega) (by omega) fun _ => ?_
    rw [add_frz]
    simp only [arith_add, optK_mk]
    rw [wrap64 (by omega) (by omega), hn]
    refine members_in g3 (by have := hl.1 _ (List.getElem_mem hlt); omega) (by omega) fun v3 s3 L sub3 sl3 asc3 len3 _ _ => ?_
    have z3 := z.sub sub3
    refine Set_in z3.wa sl3 asc3 (by omega) z3.rg fun s4 mv4 B4 wa4 aft4 k4 _ => ?_
    simp only [eqV_int, negB_mk, beq_self_eq_true, Bool.true_bne, Bool.not_true, boolK_false, optK_mk, arith_add]
    rw [wrap64 (by omega) (by omega)]
    refine ⟨_, by omega, i + 1, mv4, B4, L, rfl, by omega, rfl, KeepBut.fresh (sub2.trans sub3) k4 hw hb, ⟨wa4, asc3, by rw [aft4.len]; omega, by rw [aft4.len]; omega, aft4.Bal⟩, by rw [aft4.len]; exact hB⟩
  · exact hK w bb mv _ B M s2 hw hb sub2 z
end Go.AM
namespace Go.AM
open Go Go.Proofs
variable {K : AVal → Heap → Prop} {s : Heap} {w bb : Nat} {mv : AVal} {cap : Option Nat} {B M : List Int}
theorem min64 {a b : Int} : foldA min2A (.int .i64 a) [.int .i64 b] = some (.int .i64 (if b < a then b else a)) := by
  by_cases h : b < a
  · have : ltI b a = true := by rw [ltI_eq]; exact decide_eq_true h
    simp only [foldA, min2A, this, if_pos h]; rfl
  · have : ltI b a = false := by rw [ltI_eq]; exact decide_eq_false h
    simp only [foldA, min2A, this, if_neg h]; rfl
theorem max64 {a b : Int} : foldA max2A (.int .i64 a) [.int .i64 b] = some (.int .i64 (if a < b then b else a)) := by
  by_cases h : a < b
  · have : ltI a b = true := by rw [ltI_eq]; exact decide_eq_true h
    simp only [foldA, max2A, this, if_pos h]; rfl
  · have : ltI a b = false := by rw [ltI_eq]; exact decide_eq_false h
    simp only [foldA, max2A, this, if_neg h]; rfl
/-- a slice of buckets' members -/
abbrev outB (B : List Int) : List Int := B.map (· - 1)
theorem out_at {v : AVal} (h : Sli s v (outB B)) {k : Nat} (hk : k < B.length) : ∃ p, iaddrS 1 v (.int .i64 (k : Int)) = some p ∧ rd1 s p = some (.int .i64 (B[k] - 1)) := by
  obtain ⟨p, h1, h2⟩ := sli_at h (k := k) (by simpa using hk)
  exact ⟨p, h1, by rw [h2]; simp⟩
theorem sets_same {v u : AVal} (z : Whl s w bb mv cap B M) (hM : M ≠ []) (hv : Sli s v M) (hu : Sli s u (outB B)) (hc : ∃ c n, u = .slc c 0 n none 1 ∧ ¬ (c = w ∨ c = bb)) (hK : ∀ s', K (.bool true) s') : wpCall Try.prog XX 15 [.ptr w 0, v, u] K s := by
  have hx := z.max
  refine vc_leafmeshlaw11_sets_in (Set_in z.wa hv z.asc z.len z.rg fun s1 mv1 B1 wa1 aft1 k1 _ => ?_)
  have e : B1 = B := still_of z.asc hM z.bal aft1
  subst e
  simp only [eqV_int, negB_mk, beq_self_eq_true, Bool.false_bne, optK_mk, boolK_true]
  refine Buckets_in wa1 (fun b hb => by have := z.rg b hb; omega) fun v2 s2 sub2 sl2 _ => ?_
  have hu2 : Sli s2 u (outB B1) := (hu.keep k1 fun b o n c e _ => by
    obtain ⟨c', n', e2, h⟩ := hc
    rw [e2] at e; injection e with e3
    rw [← e3]; exact h).sub sub2
  refine Same_in sl2 hu2 (by simp; omega) ?_
  simp only [vc_leafmeshlaw11_sets_j0, beq_self_eq_true, pickV_true, optK_mk]
  exact hK _
theorem Fair_in {a : Int} {v : AVal} {l : List (AVal × List Int)} (h : Sll s v l) (hl : l.length ≤ 9223372036854775807) : wpCall Try.prog XX 4 [.int .i64 a, v] (fun v _ => v = .bool true) s := by
  refine vc_leafmeshlaw11_SpreadFair_in (wp_closed rfl ?_)
  refine short_in h hl (fun hs => ?_) ?_
  · simp only [unary_not, Bool.not_true, optK_mk, boolK_false]
    refine wheel_in h hs fun w bb mv cap B M s1 hw hb sub1 z => ?_
    simp only [eqV_ptr, negB_mk, Bool.false_bne, optK_mk, boolK_false]
    have hp := z.wa.pos
    have hx := z.max
    have hML := z.len
    refine Buckets_in z.wa (fun b hb => by have := z.rg b hb; omega) fun vb s2 sub2 slb hcb => ?_
    have z2 := z.sub sub2
    refine Members_in z2.wa (by omega) fun vm s3 sub3 slm _ => ?_
    have z3 := z2.sub sub3
    have slb3 := slb.sub sub3
    have lenM : lenOfA vm = some M.length := by rw [slm.len, List.length_map]
    have lenB : lenOfA vb = some B.length := by rw [slb.len, List.length_map, List.length_map]
    simp only [lenM, optK_mk, eqV_int, negB_mk, Bool.false_bne]
    refine boolK_mk (fun _ => trivial) (fun hz => ?_)
    have hM : M ≠ [] := fun e => by rw [e] at hz; simp at hz
    have hM0 : 0 < M.length := List.length_pos_iff.2 hM
    simp only [lenB, optK_mk]
    refine ⟨fun ys s4 n => ∃ (i : Nat) (lo hi : Int), ys = [.int .i64 lo, .int .i64 hi, .int .i64 i] ∧ s4 = s3 ∧ i ≤ M.length ∧ n = M.length - i ∧ ((i = 0 ∧ lo = B.length ∧ hi = 0) ∨ ∃ a ∈ M, ∃ c ∈ M, lo = (ld B a : Nat) ∧ hi = (ld B c : Nat)), ⟨_, 0, _, _, rfl, rfl, by omega, rfl, .inl ⟨rfl, rfl, rfl⟩⟩, ?_⟩
    rintro f s4 n ⟨i, lo, hi, hy, rfl, hiM, rfl, hlh⟩
    simp only [List.cons.injEq, and_true] at hy
    rw [hy.1, hy.2.1, hy.2.2]
    simp only [vc_leafmeshlaw11_SpreadFair_l0, lenM, optK_mk, arith_lss]
    refine boolK_mk (fun hlt => ?_) (fun hge => ?_)
    · have hlt : i < M.length := by have := of_decide_eq_true hlt; omega
      have hmr := z.asc.2 _ (List.getElem_mem hlt)
      refine ⟨fun ys s5 n => ∃ k : Nat, ys = [.int .i64 (ld (B.take k) M[i] : Nat), .int .i64 k] ∧ s5 = s4 ∧ k ≤ B.length ∧ n = B.length - k, ⟨_, 0, rfl, rfl, by omega, rfl⟩, ?_⟩
      rintro f s5 n ⟨k, hy, rfl, hk, rfl⟩
      simp only [List.cons.injEq, and_true] at hy
      rw [hy.1, hy.2]
      have hcnt : ld (B.take k) M[i] ≤ B.length := Nat.le_trans List.count_le_length (by simp; omega)
      simp only [vc_leafmeshlaw11_SpreadFair_l1, lenB, optK_mk, arith_lss]
      refine boolK_mk (fun hlt2 => ?_) (fun hge2 => ?_)
      · have hlt2 : k < B.length := by have := of_decide_eq_true hlt2; omega
        obtain ⟨p, g1, g2⟩ := out_at slb3 hlt2
        obtain ⟨q, g3, g4⟩ := sli_at slm hlt
        have hstep : ld (B.take (k + 1)) M[i] = ld (B.take k) M[i] + if B[k] - 1 == M[i] then 1 else 0 := by
          unfold ld
          rw [List.take_succ_eq_append_getElem hlt2, List.count_append, List.count_singleton]
          have : (B[k] == M[i] + 1) = (B[k] - 1 == M[i]) := by
            by_cases e : B[k] = M[i] + 1
            · rw [e, Int.add_sub_cancel]; simp
            · have e2 : B[k] - 1 ≠ M[i] := by omega
              rw [beq_eq_false_iff_ne.2 e, beq_eq_false_iff_ne.2 e2]
          rw [this]
        simp only [g1, g2, g3, g4, optK_mk, eqV_int, negB_mk, Bool.false_bne]
        cases hq : (B[k] - 1 == M[i]) with
        | true =>
          rw [hq, if_pos rfl] at hstep
          simp only [boolK_true, arith_add, optK_mk, vc_leafmeshlaw11_SpreadFair_j2]
          rw [wrap64 (by omega) (by omega), wrap64 (by omega) (by omega)]
          exact ⟨_, by omega, k + 1, by rw [hstep]; rfl, by trivial, by omega, rfl⟩
        | false =>
          rw [hq, if_neg (by simp)] at hstep
          simp only [boolK_false, arith_add, optK_mk, vc_leafmeshlaw11_SpreadFair_j2]
          rw [wrap64 (by omega) (by omega)]
          exact ⟨_, by omega, k + 1, by rw [hstep]; rfl, by trivial, by omega, rfl⟩
      · have hge2 : k = B.length := by have := of_decide_eq_false hge2; omega
        subst hge2
        rw [List.take_length] at hcnt ⊢
        obtain ⟨q, g3, g4⟩ := sli_at slm hlt
        simp only [min64, max64, g3, g4, optK_mk]
        refine Load_in z3.wa hmr ?_
        simp only [eqV_int, negB_mk, beq_self_eq_true, Bool.true_bne, Bool.not_true, boolK_false, arith_add, optK_mk]
        rw [wrap64 (by omega) (by omega)]
        refine ⟨_, by omega, i + 1, _, _, rfl, by trivial, by omega, rfl, .inr ?_⟩
        have hmem := List.getElem_mem hlt
        rcases hlh with ⟨rfl, rfl, rfl⟩ | ⟨a, ha, c, hc, rfl, rfl⟩
        · exact ⟨M[0], hmem, M[0], hmem, by split <;> omega, by split <;> omega⟩
        · by_cases e1 : ((ld B M[i] : Nat) : Int) < (ld B a : Nat) <;> by_cases e2 : ((ld B c : Nat) : Int) < (ld B M[i] : Nat)
          · exact ⟨_, hmem, _, hmem, by rw [if_pos e1], by rw [if_pos e2]⟩
          · exact ⟨_, hmem, _, hc, by rw [if_pos e1], by rw [if_neg e2]⟩
          · exact ⟨_, ha, _, hmem, by rw [if_neg e1], by rw [if_pos e2]⟩
          · exact ⟨_, ha, _, hc, by rw [if_neg e1], by rw [if_neg e2]⟩
    · have hge : i = M.length := by have := of_decide_eq_false hge; omega
      subst hge
      refine ⟨fun ys s5 n => ∃ k : Nat, ys = [.int .i64 k] ∧ s5 = s4 ∧ k ≤ B.length ∧ n = B.length - k, ⟨_, 0, rfl, rfl, by omega, rfl⟩, ?_⟩
      rintro f s5 n ⟨k, hy, rfl, hk, rfl⟩
      simp only [List.cons.injEq, and_true] at hy
      rw [hy]
      simp only [vc_leafmeshlaw11_SpreadFair_l3, lenB, optK_mk, arith_lss]
      refine boolK_mk (fun hlt2 => ?_) (fun hge2 => ?_)
      · have hlt2 : k < B.length := by have := of_decide_eq_true hlt2; omega
        obtain ⟨p, g1, g2⟩ := out_at slb3 hlt2
        simp only [g1, g2, optK_mk]
        refine Has_in slm (by omega) ?_
        rw [decide_eq_true (z.bal.elt hM _ (List.getElem_mem hlt2))]
        simp only [unary_not, Bool.not_true, optK_mk, boolK_false, arith_add]
        rw [wrap64 (by omega) (by omega)]
        exact ⟨_, by omega, k + 1, rfl, by trivial, by omega, rfl⟩
      · obtain ⟨a, ha, c, hc, rfl, rfl⟩ := hlh.resolve_left (by omega)
        have hd := z.bal.bal c hc a ha
        have la : ld B a ≤ B.length := ld_le _ _
        have lc : ld B c ≤ B.length := ld_le _ _
        simp only [boolK_true, arith_sub, optK_mk]
        rw [wrap64 (by omega) (by omega)]
        simp only [arith_leq, optK_mk]
        rw [decide_eq_true (by omega)]
        simp only [vc_leafmeshlaw11_SpreadFair_j4, pickV_true, optK_mk, boolK_true]
        obtain ⟨cb, hcb1, hcb2, _⟩ := hcb
        refine sets_same z3 hM slm slb3 ⟨cb, _, hcb2, ?_⟩ fun _ => ?_
        · rintro (e | e)
          · have := z.wa.wb; rw [← e, hcb1] at this; cases this
          · have := z.wa.bs; rw [← e, hcb1] at this; cases this
        · rfl
  · simp only [unary_not, Bool.not_false, optK_mk, boolK_true]
end Go.AM
namespace Go.AM
open Go Go.Proofs
variable {s : Heap}
theorem arg_li {d : Nat} {v : AVal} (h : Arg Try.prog s (d + 2) 30 v) : ∃ l : List Int, Sli s v l ∧ l.length ≤ maxLen := by
  obtain ⟨l, h1, _, h3⟩ := arg_slice (d := d + 1) Try.underlying30 (by kernel_rfl) (AVal.int .i64) (fun _ => True) (fun xs h => by obtain ⟨n, e, _⟩ := inp_int Try.underlying3 h; exact ⟨n, e, trivial⟩) h
  exact ⟨l, h1, h3⟩
theorem arg_ll {d : Nat} {v : AVal} (h : Arg Try.prog s (d + 3) 35 v) : ∃ l : List (AVal × List Int), Sll s v l ∧ l.length ≤ maxLen := by
  obtain ⟨l, h1, h2, h3⟩ := arg_slice (d := d + 2) Try.underlying35 (by kernel_rfl) (A := AVal × List Int) Prod.fst (fun a => Sli s a.1 a.2) (fun xs h => by
    obtain ⟨v, e, l, hl, _⟩ := inp_slice (d := d + 1) Try.underlying30 (by kernel_rfl) (AVal.int .i64) (fun _ => True) (fun xs h => by obtain ⟨n, e, _⟩ := inp_int Try.underlying3 h; exact ⟨n, e, trivial⟩) h
    exact ⟨(v, l), e, hl⟩) h
  exact ⟨l, ⟨h1, h2⟩, h3⟩
theorem Fair_wp (s : Heap) (xs : List AVal) (h : ArgL Try.prog s 40 [3, 35] xs) : wpCall Try.prog XX 4 xs (fun v _ => v = .bool true) s := by
  obtain ⟨a, b, rfl, h1, h2⟩ := argl2 h
  obtain ⟨m, rfl, _⟩ := arg_int (d := 39) Try.underlying3 h1
  obtain ⟨l, hl, hm⟩ := arg_ll (d := 37) h2
  exact Fair_in hl (by unfold maxLen at hm; omega)
end Go.AM
namespace Go.AM
open Go Go.Proofs
variable {K : AVal → Heap → Prop} {s : Heap} {w bb : Nat} {mv : AVal} {cap : Option Nat} {B M : List Int}
theorem Acc.to {elem : TypeId} {s0 s s' : Heap} {v : AVal} {l : List AVal} (h : Acc elem s0 s v l) (hs : Sub s s') : Acc elem s0 s' v l := by
  rcases h with h | ⟨b, h1, h2, h3⟩
  · exact .inl h
  · exact .inr ⟨b, h1, h2, hs _ _ h3⟩
/-- one number more at the end of a list of one's own -/
theorem push {s0 : Heap} {v : AVal} {L : List Int} {x : Int} (acc : Acc 3 s0 s v (ints L)) (hsub : Sub s0 s) (hl : L.length ≤ 1000000) (hK : ∀ v' s', Sub s0 s' → Acc 3 s0 s' v' (ints (L ++ [x])) → K v' s') :
    optK (fillR (repl 1 [(.int .i64 0)]) [(0, 1, .int .i64 x)]) fun c => allOne c = true ∧ newK 3 c (fun b s => appK 3 1 v (.slc b 0 1 (some 1) 1) K s) s := by
  refine lit1_step (elem := 3) (z := .int .i64 0) (v := .int .i64 x) rfl rfl fun b s3 hb h3 u3 => ?_
  have acc3 := acc.to (u3.sub hb)
  have sub3 : Sub s0 s3 := hsub.trans (u3.sub hb)
  have lit : Sl s3 (.slc b 0 1 (some 1) 1) [AVal.int .i64 x] := Sl.mk h3 rfl (by simp)
  have hl2 : (ints L).length + [AVal.int .i64 x].length ≤ 16777216 := by
    rw [List.length_map, List.length_singleton]; omega
  have e2 : ints L ++ [AVal.int .i64 x] = ints (L ++ [x]) := by rw [ints, ints, List.map_append]; rfl
  refine acc3.app lit (List.cons_ne_nil _ _) hl2 (fun i hi => ?_) fun v' s4 acc4 k4 => ?_
  · cases e : s0 i with
    | none => exact absurd e hi
    | some x => rw [sub3 i x e]; exact Option.some_ne_none _
  · rw [e2] at acc4
    refine hK v' s4 (fun i e hi => k4 i e (sub3 i e hi) fun b hb2 e3 => ?_) acc4
    rcases acc3 with ⟨a, _⟩ | ⟨c, c1, c2, _⟩
    · rw [a] at hb2; cases hb2
    · rw [c2] at hb2
      injection hb2 with b1
      rw [e3, ← b1, c1] at hi; cases hi
theorem Acc.off {s0 s : Heap} {v : AVal} {L : List Int} {w bb : Nat} (h : Acc 3 s0 s v (ints L)) (hw : s0 w ≠ none) (hb : s0 bb ≠ none) : ∀ b o n c, v = .slc b o n c 1 → ints L ≠ [] → ¬ (b = w ∨ b = bb) := by
  intro b o n c e hne h2
  rcases h with ⟨_, e2⟩ | ⟨d, h1, e2, _⟩
  · exact hne e2
  · rw [e2] at e; injection e with e3
    rw [← e3] at h2
    rcases h2 with rfl | rfl
    · exact hw h1
    · exact hb h1
theorem Gone_in {a : Int} {v u : AVal} {l : List (AVal × List Int)} {g : List Int} (h : Sll s v l) (hl : l.length ≤ 9223372036854775807) (hu : Sli s u g) (hg : g.length ≤ 9223372036854775807) : wpCall Try.prog XX 5 [.int .i64 a, v, u] (fun v _ => v = .bool true) s := by
  refine vc_leafmeshlaw11_SpreadGone_in (wp_closed rfl ?_)
  refine short_in h hl (fun hs => ?_) ?_
  · simp only [unary_not, Bool.not_true, optK_mk, boolK_false, hu.len, List.length_map, arith_gtr, vc_leafmeshlaw11_SpreadGone_j0, pickV_false]
    refine boolK_mk (fun _ => trivial) (fun h64 => ?_)
    have h64 := of_decide_eq_false h64
    refine wheel_in h hs fun w bb mv cap B M s1 hw hb sub1 z => ?_
    simp only [eqV_ptr, negB_mk, Bool.false_bne, optK_mk, boolK_false]
    have hp := z.wa.pos
    have hx := z.max
    have hML := z.len
    have hwb : s1 w ≠ none := by rw [z.wa.wb]; exact Option.some_ne_none _
    have hbs : s1 bb ≠ none := by rw [z.wa.bs]; exact Option.some_ne_none _
    refine Buckets_in z.wa (fun b hb => by have := z.rg b hb; omega) fun vb s2 sub2 slb hcb => ?_
    obtain ⟨cb, hcb1, hcb2, _⟩ := hcb
    have z2 := z.sub sub2
    refine Members_in z2.wa (by omega) fun vm s3 sub3 slm _ => ?_
    have z3 := z2.sub sub3
    have slb3 := slb.sub sub3
    have hu3 := hu.sub (sub1.trans (sub2.trans sub3))
    have hwb3 : s3 w ≠ none := by rw [z3.wa.wb]; exact Option.some_ne_none _
    have hbs3 : s3 bb ≠ none := by rw [z3.wa.bs]; exact Option.some_ne_none _
    refine ⟨fun ys s4 n => ∃ (i : Nat) (vl : AVal) (L : List Int), ys = [vl, .int .i64 i] ∧ Sub s3 s4 ∧ i ≤ M.length ∧ n = M.length - i ∧ Acc 3 s3 s4 vl (ints L) ∧ L.Sublist (M.take i), ⟨_, 0, _, [], rfl, .refl _, by omega, rfl, .inl ⟨rfl, rfl⟩, List.nil_sublist _⟩, ?_⟩
    rintro f s4 n ⟨i, vl, L, hy, sub4, hi, rfl, acc, hsl⟩
    simp only [List.cons.injEq, and_true] at hy
    rw [hy.1, hy.2]
    have lenM : lenOfA vm = some M.length := by rw [slm.len, List.length_map]
    have lenG : lenOfA u = some g.length := by rw [hu.len, List.length_map]
    have z4 := z3.sub sub4
    have slm4 := slm.sub sub4
    have hu4 := hu3.sub sub4
    simp only [vc_leafmeshlaw11_SpreadGone_l1, lenM, optK_mk, arith_lss]
    refine boolK_mk (fun hlt => ?_) (fun hge => ?_)
    · have hlt : i < M.length := by have := of_decide_eq_true hlt; omega
      refine ⟨fun ys s5 n => ∃ (k : Nat) (c : Bool), ys = [.bool c, .int .i64 k] ∧ s5 = s4 ∧ k ≤ g.length ∧ n = g.length - k, ⟨_, 0, _, rfl, rfl, by omega, rfl⟩, ?_⟩
      rintro f s5 n ⟨k, c, hy, rfl, hk, rfl⟩
      simp only [List.cons.injEq, and_true] at hy
      rw [hy.1, hy.2]
      simp only [vc_leafmeshlaw11_SpreadGone_l2, lenG, optK_mk, arith_lss]
      refine boolK_mk (fun hlt2 => ?_) (fun hge2 => ?_)
      · have hlt2 : k < g.length := by have := of_decide_eq_true hlt2; omega
        have fin : ∀ t : AVal, (c = false → ∃ b, t = .bool b) → vc_leafmeshlaw11_SpreadGone_j3 XX (.int .i64 (k : Int)) (.bool c) t (fun ys s5_1 n => ∃ (k : Nat) (c : Bool), ys = [.bool c, .int .i64 k] ∧ s5_1 = s5 ∧ k ≤ g.length ∧ n = g.length - k) (g.length - k) (fun ys s4 n => ∃ (i : Nat) (vl : AVal) (L : List Int), ys = [vl, .int .i64 i] ∧ Sub s3 s4 ∧ i ≤ M.length ∧ n = M.length - i ∧ Acc 3 s3 s4 vl (ints L) ∧ L.Sublist (M.take i)) (M.length - i) (fun v _ => v = .bool true) s5 := by
          intro t ht
          simp only [vc_leafmeshlaw11_SpreadGone_j3]
          cases c with
          | true =>
            simp only [pickV_true, optK_mk, arith_add]
            rw [wrap64 (by omega) (by omega)]
            exact ⟨_, by omega, k + 1, true, rfl, by trivial, by omega, rfl⟩
          | false =>
            obtain ⟨b, rfl⟩ := ht rfl
            simp only [pickV_false, optK_mk, arith_add]
            rw [wrap64 (by omega) (by omega)]
            exact ⟨_, by omega, k + 1, b, rfl, by trivial, by omega, rfl⟩
        cases c with
        | true =>
          simp only [boolK_true]
          exact fin _ fun e => by cases e
        | false =>
          obtain ⟨p, g1, g2⟩ := sli_at hu4 hlt2
          simp only [boolK_false, g1, g2, optK_mk, lenM]
          refine Pick_in (n := (M.length : Int)) (by omega) (by omega) ?_
          simp only [eqV_int, negB_mk, Bool.false_bne, optK_mk]
          exact fin _ fun _ => ⟨_, rfl⟩
      · have next : ∀ (s6 : Heap) (v6 : AVal) (L6 : List Int), Sub s3 s6 → Acc 3 s3 s6 v6 (ints L6) → L6.Sublist (M.take (i + 1)) → vc_leafmeshlaw11_SpreadGone_j4 XX v6 (.int .i64 (i : Int)) (fun ys s4 n => ∃ (i : Nat) (vl : AVal) (L : List Int), ys = [vl, .int .i64 i] ∧ Sub s3 s4 ∧ i ≤ M.length ∧ n = M.length - i ∧ Acc 3 s3 s4 vl (ints L) ∧ L.Sublist (M.take i)) (M.length - i) (fun v _ => v = .bool true) s6 := by
          intro s6 v6 L6 a1 a2 a3
          simp only [vc_leafmeshlaw11_SpreadGone_j4, arith_add, optK_mk]
          rw [wrap64 (by omega) (by omega)]
          exact ⟨_, by omega, i + 1, v6, L6, rfl, a1, by omega, rfl, a2, a3⟩
        have et : M.take (i + 1) = M.take i ++ [M[i]] := List.take_succ_eq_append_getElem hlt
        cases c with
        | true =>
          simp only [unary_not, Bool.not_true, optK_mk, boolK_false]
          exact next s5 vl L sub4 acc (by rw [et]; exact hsl.trans (List.sublist_append_left _ _))
        | false =>
          obtain ⟨p, g1, g2⟩ := sli_at slm4 hlt
          simp only [unary_not, Bool.not_false, optK_mk, boolK_true, g1, g2]
          have hLl := hsl.length_le
          rw [List.length_take] at hLl
          refine push acc sub4 (by omega) fun v6 s6 sub6 acc6 => next s6 v6 _ sub6 acc6 ?_
          rw [et]
          exact hsl.append (List.Sublist.refl _)
    · have hge : i = M.length := by have := of_decide_eq_false hge; omega
      subst hge
      rw [List.take_length] at hsl
      have lenL : lenOfA vl = some L.length := by rw [acc.sl.len, List.length_map]
      have ascL : Asc L := ⟨z.asc.1.sublist hsl, fun x hx => z.asc.2 x (hsl.subset hx)⟩
      have hLM := hsl.length_le
      simp only [lenL, optK_mk, eqV_int, negB_mk, Bool.false_bne]
      refine boolK_mk (fun _ => trivial) (fun hz => ?_)
      have hL : L ≠ [] := fun e => by rw [e] at hz; simp at hz
      have hM : M ≠ [] := fun e => hL (by rw [e] at hsl; exact List.sublist_nil.1 hsl)
      refine Set_in z4.wa acc.sl ascL (by omega) z.rg fun s5 mv5 B5 wa5 aft k5 _ => ?_
      have hlB := aft.len
      simp only [eqV_int, negB_mk, beq_self_eq_true, Bool.true_bne, Bool.not_true, optK_mk, boolK_false]
      have slL5 : Sli s5 vl L := acc.sl.keep k5 (acc.off hwb3 hbs3)
      have slb5 : Sli s5 vb (outB B) := (slb3.sub sub4).keep k5 fun b o n c e _ h2 => by
        rw [hcb2] at e; injection e with e3
        rw [← e3] at h2
        rcases h2 with rfl | rfl
        · exact hwb hcb1
        · exact hbs hcb1
      refine Buckets_in wa5 (fun b hb => by have := aft.rg ascL b hb; omega) fun vn s6 sub6 sln _ => ?_
      have lenN : lenOfA vn = some B5.length := by rw [sln.len, List.length_map, List.length_map]
      have lenB : lenOfA vb = some B.length := by rw [slb.len, List.length_map, List.length_map]
      have slb6 := slb5.sub sub6
      have slL6 := slL5.sub sub6
      simp only [lenN, lenB, hlB, optK_mk, eqV_int, negB_mk, beq_self_eq_true, Bool.true_bne, Bool.not_true, boolK_false]
      refine ⟨fun ys s7 n => ∃ k : Nat, ys = [.int .i64 k] ∧ s7 = s6 ∧ k ≤ B.length ∧ n = B.length - k, ⟨_, 0, rfl, rfl, by omega, rfl⟩, ?_⟩
      rintro f s7 n ⟨k, hy, rfl, hk, rfl⟩
      simp only [List.cons.injEq, and_true] at hy
      rw [hy]
      simp only [vc_leafmeshlaw11_SpreadGone_l5, lenN, hlB, optK_mk, arith_lss]
      refine boolK_mk (fun hlt => ?_) (fun _ => trivial)
      have hlt : k < B.length := by have := of_decide_eq_true hlt; omega
      obtain ⟨p, g1, g2⟩ := out_at slb6 hlt
      obtain ⟨q, g3, g4⟩ := out_at sln (k := k) (by omega)
      simp only [g1, g2, optK_mk]
      refine Has_in slL6 (by omega) ?_
      refine boolK_mk (fun hin => ?_) (fun hin => ?_)
      · rw [hin]
        have hin := of_decide_eq_true hin
        have e5 : B5[k] = B[k] := (gone_inv (fun a ha => (ascL.2 a ha).1) (fun a ha c hc => z.bal.bal a (hsl.subset ha) c (hsl.subset hc)) aft.rch).1 k hlt (by omega) hin
        simp only [g1, g2, g3, g4, e5, optK_mk, eqV_int, negB_mk, beq_self_eq_true, Bool.true_bne, Bool.not_true, vc_leafmeshlaw11_SpreadGone_j6, pickV_true, boolK_false, arith_add]
        rw [wrap64 (by omega) (by omega)]
        exact ⟨_, by omega, k + 1, rfl, by trivial, by omega, rfl⟩
      · rw [hin]
        simp only [vc_leafmeshlaw11_SpreadGone_j6, pickV_false, optK_mk, boolK_false, arith_add]
        rw [wrap64 (by omega) (by omega)]
        exact ⟨_, by omega, k + 1, rfl, by trivial, by omega, rfl⟩
  · simp only [unary_not, Bool.not_false, optK_mk, boolK_true, vc_leafmeshlaw11_SpreadGone_j0, pickV_true]
theorem Gone_wp (s : Heap) (xs : List AVal) (h : ArgL Try.prog s 40 [3, 35, 30] xs) : wpCall Try.prog XX 5 xs (fun v _ => v = .bool true) s := by
  obtain ⟨a, b, c, rfl, h1, h2, h3⟩ := argl3 h
  obtain ⟨m, rfl, _⟩ := arg_int (d := 39) Try.underlying3 h1
  obtain ⟨l, hl, hm⟩ := arg_ll (d := 37) h2
  obtain ⟨g, hg, hn⟩ := arg_li (d := 38) h3
  exact Gone_in hl (by unfold maxLen at hm; omega) hg (by unfold maxLen at hn; omega)
end Go.AM
namespace Go.AM
open Go Go.Proofs
variable {K : AVal → Heap → Prop} {s : Heap} {w bb : Nat} {mv : AVal} {cap : Option Nat} {B M : List Int}
theorem app_any {s0 : Heap} {v y : AVal} {l m : List AVal} (h : (l = [] ∧ ∃ b, v = .slc b 0 0 (some 0) 1) ∨ Acc 3 s0 s v l) (hy : Sl s y m) (hl : l.length + m.length ≤ 16777216) (hsub : Sub s0 s) (hK : ∀ v' s', Sub s0 s' → Sl s' v' (l ++ m) → K v' s') : appK 3 1 v y K s := by
  by_cases hm : m = []
  · subst hm
    refine optK_of hy.rd (optK_of hy.len ?_)
    rcases h with ⟨rfl, b, rfl⟩ | ⟨rfl, rfl⟩ | ⟨b, h1, rfl, h3⟩
    · exact ⟨rfl, by simp, hK _ _ hsub (.inr ⟨b, 0, some 0, rfl, by simp, fun h => absurd rfl h⟩)⟩
    · exact hK _ _ hsub (.inl ⟨rfl, rfl⟩)
    · exact ⟨rfl, trivial, hK _ _ hsub (by rw [List.append_nil]; exact Sl.mk h3 rfl (by simp))⟩
  · refine app_own h hy hm hl (fun i hi => ?_) fun v' s' acc k => hK _ _ (fun i e hi => k i e (hsub i e hi) fun b hb e3 => ?_) acc.sl
    · cases e : s0 i with
      | none => exact absurd e hi
      | some x => rw [hsub i x e]; exact Option.some_ne_none _
    · rcases h with ⟨_, c, h2⟩ | ⟨h1, _⟩ | ⟨c, c1, c2, _⟩
      · rw [h2] at hb; injection hb with _ _ _ h4; cases h4
      · rw [h1] at hb; cases hb
      · rw [c2] at hb; injection hb with b1
        rw [e3, ← b1, c1] at hi; cases hi
theorem Comes_in {a : Int} {v u : AVal} {l : List (AVal × List Int)} {g : List Int} (h : Sll s v l) (hl : l.length ≤ 9223372036854775807) (hu : Sli s u g) (hg : g.length ≤ 9223372036854775807) : wpCall Try.prog XX 6 [.int .i64 a, v, u] (fun v _ => v = .bool true) s := by
  refine vc_leafmeshlaw11_SpreadComes_in (wp_closed rfl ?_)
  refine short_in h hl (fun hs => ?_) ?_
  · simp only [unary_not, Bool.not_true, optK_mk, boolK_false, hu.len, List.length_map, arith_gtr, vc_leafmeshlaw11_SpreadComes_j0, pickV_false]
    refine boolK_mk (fun _ => trivial) (fun h64 => ?_)
    have h64 := of_decide_eq_false h64
    refine wheel_in h hs fun w bb mv cap B M s1 hw hb sub1 z => ?_
    simp only [eqV_ptr, negB_mk, Bool.false_bne, optK_mk, boolK_false]
    have hp := z.wa.pos
    have hx := z.max
    have hML := z.len
    have hwb : s1 w ≠ none := by rw [z.wa.wb]; exact Option.some_ne_none _
    have hbs : s1 bb ≠ none := by rw [z.wa.bs]; exact Option.some_ne_none _
    refine Buckets_in z.wa (fun b hb => by have := z.rg b hb; omega) fun vb s2 sub2 slb hcb => ?_
    obtain ⟨cb, hcb1, hcb2, _⟩ := hcb
    have z2 := z.sub sub2
    have hwb2 : s2 w ≠ none := by rw [z2.wa.wb]; exact Option.some_ne_none _
    have hbs2 : s2 bb ≠ none := by rw [z2.wa.bs]; exact Option.some_ne_none _
    refine Members_in z2.wa (by omega) fun vm s3 sub3 slm hcm => ?_
    have z3 := z2.sub sub3
    refine Own_in slm (by omega) fun vo s4 sub4 own => ?_
    have hu4 := hu.sub (sub1.trans (sub2.trans (sub3.trans sub4)))
    refine app_any own hu4 (by rw [List.length_map, List.length_map]; omega) sub4 fun va s5 sub5 sla => ?_
    have sla : Sli s5 va (M ++ g) := by unfold Sli; rw [List.map_append]; exact sla
    refine members_in sla (by rw [List.length_append]; omega) (by omega) fun vl s6 L sub6 sll ascL lenL allL hcl => ?_
    have sub36 := sub5.trans sub6
    have z6 := z3.sub sub36
    have slb6 := (slb.sub sub3).sub sub36
    have slm6 := slm.sub sub36
    have lM : lenOfA vm = some M.length := by rw [slm.len, List.length_map]
    have lL : lenOfA vl = some L.length := by rw [sll.len, List.length_map]
    have lB : lenOfA vb = some B.length := by rw [slb.len, List.length_map, List.length_map]
    have hML2 : ∀ a ∈ M, a ∈ L := fun a ha => by
      have h1 := allL rfl a (List.mem_append_left _ ha)
      have h2 := z.asc.2 a ha
      rwa [Int.emod_eq_of_lt h2.1 h2.2] at h1
    have hwb5 : s5 w ≠ none := by rw [(z3.sub sub5).wa.wb]; exact Option.some_ne_none _
    have hbs5 : s5 bb ≠ none := by rw [(z3.sub sub5).wa.bs]; exact Option.some_ne_none _
    simp only [lM, optK_mk, eqV_int, negB_mk, Bool.false_bne]
    refine boolK_mk (fun hz => ?_) (fun hz => ?_)
    · simp only [vc_leafmeshlaw11_SpreadComes_j1, hz, pickV_true, optK_mk, boolK_true]
    · have hM : M ≠ [] := fun e => by rw [e] at hz; simp at hz
      simp only [lL, lB, optK_mk, arith_gtr, vc_leafmeshlaw11_SpreadComes_j1, hz, pickV_false]
      refine boolK_mk (fun _ => trivial) (fun hle => ?_)
      have hle := of_decide_eq_false hle
      obtain ⟨x0, hx0⟩ : ∃ x, x ∈ M := by
        cases M with
        | nil => exact absurd rfl hM
        | cons a r => exact ⟨a, by simp⟩
      have hL : L ≠ [] := fun e => by have := hML2 _ hx0; rw [e] at this; simp at this
      refine Set_in z6.wa sll ascL (by omega) z.rg fun s7 mv7 B7 wa7 aft k7 _ => ?_
      have hlB := aft.len
      have hp7 := wa7.pos
      have slb7 : Sli s7 vb (outB B) := slb6.keep k7 fun b o n c e _ h2 => by
        rw [hcb2] at e; injection e with e3
        rw [← e3] at h2
        rcases h2 with rfl | rfl
        · exact hwb hcb1
        · exact hbs hcb1
      have slm7 : Sli s7 vm M := slm6.keep k7 fun b o n c e _ h2 => by
        obtain ⟨cm, h1, h3, _⟩ := hcm hM
        rw [h3] at e; injection e with e3
        rw [← e3] at h2
        rcases h2 with rfl | rfl
        · exact hwb2 h1
        · exact hbs2 h1
      have sll7 : Sli s7 vl L := sll.keep k7 fun b o n c e _ h2 => by
        obtain ⟨cl, n', k', h1, h3⟩ := hcl hL
        rw [h3] at e; injection e with e3
        rw [← e3] at h2
        rcases h2 with rfl | rfl
        · exact hwb5 h1
        · exact hbs5 h1
      have rch : Rch L B B7 := by
        have := aft.rch
        rwa [clr_self fun b hb => hML2 _ (z.bal.elt hM b hb)] at this
      obtain ⟨_, c1, _, c3, _⟩ := comes_inv hML2 (fun a ha => (ascL.2 a ha).1) (z.bal.elt hM) z.bal.bal rch
      simp only [eqV_int, negB_mk, beq_self_eq_true, Bool.true_bne, Bool.not_true, optK_mk, boolK_false]
      refine Buckets_in wa7 (fun b hb => by have := aft.rg ascL b hb; omega) fun vn s8 sub8 sln _ => ?_
      have lN : lenOfA vn = some B7.length := by rw [sln.len, List.length_map, List.length_map]
      have slb8 := slb7.sub sub8
      have slm8 := slm7.sub sub8
      have sll8 := sll7.sub sub8
      have wa8 := wa7.sub sub8
      simp only [lN, lB, hlB, optK_mk, eqV_int, negB_mk, beq_self_eq_true, Bool.true_bne, Bool.not_true, boolK_false]
      refine ⟨fun ys s9 n => ∃ k : Nat, ys = [.int .i64 k] ∧ s9 = s8 ∧ k ≤ B.length ∧ n = B.length - k, ⟨_, 0, rfl, rfl, by omega, rfl⟩, ?_⟩
      rintro f s9 n ⟨k, hy, rfl, hk, rfl⟩
      simp only [List.cons.injEq, and_true] at hy
      rw [hy]
      simp only [vc_leafmeshlaw11_SpreadComes_l2, lN, hlB, optK_mk, arith_lss]
      refine boolK_mk (fun hlt => ?_) (fun _ => ?_)
      · have hlt : k < B.length := by have := of_decide_eq_true hlt; omega
        obtain ⟨p, g1, g2⟩ := out_at slb8 hlt
        obtain ⟨q, g3, g4⟩ := out_at sln (k := k) (by omega)
        simp only [g1, g2, g3, g4, optK_mk, eqV_int, negB_mk, Bool.true_bne]
        refine boolK_mk (fun hne => ?_) (fun heq => ?_)
        · have hne2 : B7[k] ≠ B[k] := fun e => by rw [e] at hne; simp at hne
          refine Has_in slm8 (by omega) ?_
          rw [hne, decide_eq_false ((c1 k hlt (by omega)).resolve_left hne2)]
          simp only [vc_leafmeshlaw11_SpreadComes_j3, pickV_true, optK_mk, boolK_false, arith_add]
          rw [wrap64 (by omega) (by omega)]
          exact ⟨_, by omega, k + 1, rfl, by trivial, by omega, rfl⟩
        · rw [heq]
          simp only [vc_leafmeshlaw11_SpreadComes_j3, pickV_false, optK_mk, boolK_false, arith_add]
          rw [wrap64 (by omega) (by omega)]
          exact ⟨_, by omega, k + 1, rfl, by trivial, by omega, rfl⟩
      · refine ⟨fun ys s10 n => ∃ i : Nat, ys = [.int .i64 i] ∧ s10 = s9 ∧ i ≤ L.length ∧ n = L.length - i, ⟨_, 0, rfl, rfl, by omega, rfl⟩, ?_⟩
        rintro f s10 n ⟨i, hy, rfl, hi, rfl⟩
        simp only [List.cons.injEq, and_true] at hy
        rw [hy]
        simp only [vc_leafmeshlaw11_SpreadComes_l4, lL, optK_mk, arith_lss]
        refine boolK_mk (fun hlt => ?_) (fun _ => trivial)
        have hlt : i < L.length := by have := of_decide_eq_true hlt; omega
        refine ⟨fun ys s11 n => ∃ k : Nat, ys = [.int .i64 k] ∧ s11 = s10 ∧ k ≤ M.length ∧ n = M.length - k, ⟨_, 0, rfl, rfl, by omega, rfl⟩, ?_⟩
        rintro f s11 n ⟨k, hy, rfl, hk, rfl⟩
        simp only [List.cons.injEq, and_true] at hy
        rw [hy]
        simp only [vc_leafmeshlaw11_SpreadComes_l5, lM, optK_mk, arith_lss]
        refine boolK_mk (fun hlt2 => ?_) (fun _ => ?_)
        · have hlt2 : k < M.length := by have := of_decide_eq_true hlt2; omega
          obtain ⟨p, g1, g2⟩ := sli_at sll8 hlt
          obtain ⟨q, g3, g4⟩ := sli_at slm8 hlt2
          have hLr := ascL.2 _ (List.getElem_mem hlt)
          have hMr := z.asc.2 _ (List.getElem_mem hlt2)
          simp only [g1, g2, optK_mk]
          refine Has_in slm8 (by omega) ?_
          simp only [unary_not, optK_mk]
          by_cases hin : L[i] ∈ M
          · rw [decide_eq_true hin]
            simp only [Bool.not_true, boolK_false, pickV_false, optK_mk, arith_add]
            rw [wrap64 (by omega) (by omega)]
            exact ⟨_, by omega, k + 1, rfl, by trivial, by omega, rfl⟩
          · rw [decide_eq_false hin]
            simp only [Bool.not_false, boolK_true, g1, g2, optK_mk]
            refine Load_rd (frz_some wa8.wb) (frz_some wa8.bs) wa8.pos hLr fun _ => ?_
            rw [add_frz, cut_refl]
            simp only [g3, g4, optK_mk]
            refine Load_in wa8 hMr ?_
            have := c3 _ (List.getElem_mem hlt) hin _ (List.getElem_mem hlt2)
            simp only [arith_gtr, optK_mk, pickV_true]
            rw [decide_eq_false (by omega)]
            simp only [boolK_false, arith_add, optK_mk]
            rw [wrap64 (by omega) (by omega)]
            exact ⟨_, by omega, k + 1, rfl, by trivial, by omega, rfl⟩
        · simp only [arith_add, optK_mk]
          have hxL : L.length ≤ 128 := by omega
          rw [wrap64 (by omega) (by omega)]
          exact ⟨_, by omega, i + 1, rfl, by trivial, by omega, rfl⟩
  · simp only [unary_not, Bool.not_false, optK_mk, boolK_true, vc_leafmeshlaw11_SpreadComes_j0, pickV_true]
theorem Comes_wp (s : Heap) (xs : List AVal) (h : ArgL Try.prog s 40 [3, 35, 30] xs) : wpCall Try.prog XX 6 xs (fun v _ => v = .bool true) s := by
  obtain ⟨a, b, c, rfl, h1, h2, h3⟩ := argl3 h
  obtain ⟨m, rfl, _⟩ := arg_int (d := 39) Try.underlying3 h1
  obtain ⟨l, hl, hm⟩ := arg_ll (d := 37) h2
  obtain ⟨g, hg, hn⟩ := arg_li (d := 38) h3
  exact Comes_in hl (by unfold maxLen at hm; omega) hg (by unfold maxLen at hn; omega)
end Go.AM
namespace Go.AM
open Go Go.Proofs
variable {K : AVal → Heap → Prop} {s : Heap} {w bb : Nat} {mv : AVal} {cap : Option Nat} {B B' B1 B2 M l : List Int}
/-! ### steps are determined -/
theorem Stp.det (h1 : Stp M B B1) (h2 : Stp M B B2) : B1 = B2 := by
  cases h1 with
  | @fill i t hi h0 ht hmin hf hT =>
    cases h2 with
    | @fill i' t' hi' h0' ht' hmin' hf' hT' =>
      have e1 : i = i' := by
        rcases Nat.lt_trichotomy i i' with h | h | h
        · exact absurd h0 (hf' i hi h)
        · exact h
        · exact absurd h0' (hf i' hi' h)
      have e2 : t = t' := by
        have a1 := hmin t' ht'
        have a2 := hmin' t ht
        have a3 := hT t' ht' (by omega)
        have a4 := hT' t ht (by omega)
        omega
      rw [e1, e2]
    | @move i' f' t' hi' hf1 hfr ht' hmin' hmax hd hnz hlst hT' hF => exact absurd h0 (hnz _ (List.getElem_mem hi))
  | @move i f t hi hf1 hfr ht hmin hmax hd hnz hlst hT hF =>
    cases h2 with
    | @fill i' t' hi' h0' ht' hmin' hf' hT' => exact absurd h0' (hnz _ (List.getElem_mem hi'))
    | @move i' f' t' hi' hf1' hfr' ht' hmin' hmax' hd' hnz' hlst' hT' hF' =>
      have e2 : t = t' := by
        have a1 := hmin t' ht'
        have a2 := hmin' t ht
        have a3 := hT t' ht' (by omega)
        have a4 := hT' t ht (by omega)
        omega
      have e3 : f = f' := by
        have a1 := hmax f' hfr'
        have a2 := hmax' f hfr
        have a3 := hF f' hfr' (by omega)
        have a4 := hF' f hfr (by omega)
        omega
      subst e3
      have e1 : i = i' := by
        rcases Nat.lt_trichotomy i i' with h | h | h
        · exact absurd hf1' (hlst i' hi' h)
        · exact h
        · exact absurd hf1 (hlst' i hi h)
      rw [e1, e2]
theorem Rch.head {C : List Int} (h : Rch M B B1) (h2 : Stp M B C) : B1 = B ∨ Rch M C B1 := by
  induction h with
  | refl => exact .inl rfl
  | @tail A1 A2 h3 h4 ih =>
    right
    rcases ih with e | e
    · subst e
      rw [h4.det h2]; exact .refl
    · exact e.tail h4
theorem Rch.both (h : Rch M B B1) (h2 : Rch M B B2) : Rch M B1 B2 ∨ Rch M B2 B1 := by
  induction h with
  | refl => exact .inl h2
  | @tail A1 A2 h3 h4 ih =>
    rcases ih with e | e
    · rcases e.head h4 with e2 | e2
      · subst e2; exact .inr (Rch.refl.tail h4)
      · exact .inl e2
    · exact .inr (e.tail h4)
theorem Rch.stop (h : Rch M B B1) (hn : ∀ C, ¬ Stp M B C) : B1 = B := by
  induction h with
  | refl => rfl
  | tail _ h2 ih => rw [ih] at h2; exact absurd h2 (hn _)
theorem Aft.uniq (ha : Asc l) (h1 : Aft l B B1) (h2 : Aft l B B2) : B1 = B2 := by
  by_cases e : l = []
  · rw [h1.none e, h2.none e]
  · have stop : ∀ {A}, Aft l B A → ∀ C, ¬ Stp l A C := by
      intro A h C st
      cases st with
      | @fill i t hi h0 ht hmin _ _ =>
        have := ha.2 _ (h.elt e _ (List.getElem_mem hi))
        rw [h0] at this
        omega
      | @move i f t hi hf hfr ht hmin hmax hd _ _ _ _ =>
        have := h.bal f hfr t ht
        omega
    rcases h1.rch.both h2.rch with h | h
    · exact (h.stop (stop h1)).symm
    · exact h.stop (stop h2)
/-! ### which lists are accepted -/
def bad (l : List Int) (k : Nat) : Int := if l.getD k 0 < 0 ∨ 128 ≤ l.getD k 0 then 2 else if 0 < k ∧ l.getD k 0 ≤ l.getD (k - 1) 0 then 10 else 0
def ChkR (l : List Int) (n : Nat) (e : Int) : Prop := (∃ k, k < l.length ∧ bad l k = e ∧ e ≠ 0 ∧ ∀ j, j < k → bad l j = 0) ∨ ((∀ j, j < l.length → bad l j = 0) ∧ e = if n < l.length then 7 else 0)
theorem ChkR.uniq {n : Nat} {e e' : Int} (h : ChkR l n e) (h' : ChkR l n e') : e = e' := by
  rcases h with ⟨k, h1, h2, h3, h4⟩ | ⟨h1, h2⟩ <;> rcases h' with ⟨k', h1', h2', h3', h4'⟩ | ⟨h1', h2'⟩
  · rcases Nat.lt_trichotomy k k' with h | h | h
    · exact absurd (h2.symm.trans (h4' k h)) h3
    · subst h; rw [← h2, ← h2']
    · exact absurd (h2'.symm.trans (h4 k' h)) h3'
  · exact absurd (h2.symm.trans (h1' k h1)) h3
  · exact absurd (h2'.symm.trans (h1 k' h1')) h3'
  · rw [h2, h2']
theorem getD_lt {k : Nat} (h : k < l.length) : l.getD k 0 = l[k] := by simp [List.getD_eq_getElem?_getD, h]
theorem asc_of_bad (h : ∀ j, j < l.length → bad l j = 0) : Asc l := by
  have hr : ∀ j (hj : j < l.length), 0 ≤ l[j] ∧ l[j] < 128 := by
    intro j hj
    have := h j hj
    unfold bad at this
    rw [getD_lt hj] at this
    split at this
    · cases this
    · omega
  have hs : ∀ j (hj : j + 1 < l.length), l[j] < l[j + 1] := by
    intro j hj
    have := h (j + 1) hj
    unfold bad at this
    rw [getD_lt hj, Nat.add_sub_cancel, getD_lt (show j < l.length by omega)] at this
    have r := hr (j + 1) hj
    rw [if_neg (by omega)] at this
    split at this
    · cases this
    · omega
  refine ⟨List.pairwise_iff_getElem.2 fun i j hi hj hij => ?_, fun x hx => ?_⟩
  · obtain ⟨d, rfl⟩ : ∃ d, j = i + 1 + d := ⟨j - i - 1, by omega⟩
    induction d with
    | zero => exact hs i hj
    | succ d ih =>
      have a := ih (by omega) (by omega)
      have b := hs (i + 1 + d) hj
      exact Int.lt_trans a b
  · obtain ⟨j, hj, rfl⟩ := List.getElem_of_mem hx
    exact hr j hj
theorem ChkR.ok {n : Nat} (h : ChkR l n 0) : Asc l ∧ l.length ≤ n := by
  rcases h with ⟨k, _, _, h3, _⟩ | ⟨h1, h2⟩
  · exact absurd rfl h3
  · refine ⟨asc_of_bad h1, ?_⟩
    split at h2
    · cases h2
    · omega
theorem bad_of_asc (ha : Asc l) : ∀ j, j < l.length → bad l j = 0 := by
  intro j hj
  unfold bad
  rw [getD_lt hj]
  have := ha.2 _ (List.getElem_mem hj)
  rw [if_neg (by omega)]
  rw [if_neg]
  rintro ⟨h0, h1⟩
  rw [getD_lt (show j - 1 < l.length by omega)] at h1
  have := List.pairwise_iff_getElem.1 ha.1 (j - 1) j (by omega) hj (by omega)
  omega
theorem chk_of_asc {n : Nat} (ha : Asc l) (hn : l.length ≤ n) : ChkR l n 0 := .inr ⟨bad_of_asc ha, by rw [if_neg (by omega)]⟩
theorem check_full {v : AVal} (h : WAt s w bb mv cap B M) (hl : Sli s v l) (hlen : l.length ≤ 1000000) (hK : ∀ e, ChkR l B.length e → K (.int .i64 e) s) : wpCall Try.prog XX 34 [.ptr w 0, v] K s := by
  refine vc_spread_Wheel_check_in ?_
  have hp := h.pos
  simp only [vc_spread_Wheel_check, hl.len, optK_mk, List.length_map]
  refine ⟨fun ys s1 n => ∃ k : Nat, ys = [.int .i64 k] ∧ s1 = s ∧ k ≤ l.length ∧ n = l.length - k ∧ ∀ j, j < k → bad l j = 0, ⟨_, 0, rfl, rfl, by omega, rfl, fun j h => by omega⟩, ?_⟩
  rintro f s1 n ⟨k, hy, rfl, hk, rfl, hno⟩
  simp only [List.cons.injEq, and_true] at hy
  rw [hy]
  simp only [vc_spread_Wheel_check_l0, optK_mk, arith_lss]
  refine boolK_mk (fun hlt => ?_) (fun hge => ?_)
  · have hlt : k < l.length := by have := of_decide_eq_true hlt; omega
    obtain ⟨p, g1, g2⟩ := sli_at hl hlt
    have hgd := getD_lt hlt
    have out : l[k] < 0 ∨ 128 ≤ l[k] → K (.int .i64 2) s1 := fun hb => hK 2 (.inl ⟨k, hlt, by unfold bad; rw [hgd, if_pos hb], by decide, hno⟩)
    have fin : bad l k = 0 → optK (arithV .add (.int .i64 (k : Int)) (.int .i64 1)) fun v_9 => ∃ m', m' < l.length - k ∧ ∃ k_1 : Nat, [v_9] = [AVal.int .i64 k_1] ∧ True ∧ k_1 ≤ l.length ∧ m' = l.length - k_1 ∧ ∀ j, j < k_1 → bad l j = 0 := by
      intro hb
      simp only [arith_add, optK_mk]
      rw [wrap64 (by omega) (by omega)]
      refine ⟨_, by omega, k + 1, by simp, by trivial, by omega, rfl, fun j hj => ?_⟩
      by_cases e : j = k
      · rw [e]; exact hb
      · exact hno j (by omega)
    simp only [g1, g2, optK_mk, arith_lss, arith_geq, vc_spread_Wheel_check_j1]
    by_cases n0 : l[k] < 0
    · simp only [decide_eq_true n0, boolK_true, pickV_true, optK_mk]
      exact out (.inl n0)
    · by_cases n1 : 128 ≤ l[k]
      · simp only [decide_eq_false n0, decide_eq_true n1, boolK_true, boolK_false, pickV_false, optK_mk]
        exact out (.inr n1)
      · simp only [decide_eq_false n0, decide_eq_false n1, boolK_false, pickV_false, optK_mk, arith_gtr]
        refine boolK_mk (fun hp => ?_) (fun hp => ?_)
        · rw [hp]
          have hp : 0 < k := by have := of_decide_eq_true hp; omega
          obtain ⟨q, g3, g4⟩ := sli_at hl (k := k - 1) (by omega)
          have ew : IntKind.i64.wrap ((k : Int) - 1) = ((k - 1 : Nat) : Int) := by rw [wrap64 (by omega) (by omega)]; omega
          have hgd2 := getD_lt (l := l) (show k - 1 < l.length by omega)
          simp only [arith_sub, ew, g3, g4, optK_mk, arith_leq, vc_spread_Wheel_check_j2, pickV_true]
          refine boolK_mk (fun hle => ?_) (fun hle => ?_)
          · exact hK 10 (.inl ⟨k, hlt, by unfold bad; rw [hgd, hgd2, if_neg (by omega), if_pos ⟨hp, of_decide_eq_true hle⟩], by decide, hno⟩)
          · exact fin (by unfold bad; rw [hgd, hgd2, if_neg (by omega), if_neg (by have := of_decide_eq_false hle; omega)])
        · rw [hp]
          simp only [vc_spread_Wheel_check_j2, pickV_false, optK_mk, boolK_false]
          exact fin (by unfold bad; rw [hgd, if_neg (by omega), if_neg (by have := of_decide_eq_false hp; omega)])
  · have hge : k = l.length := by have := of_decide_eq_false hge; omega
    subst hge
    simp only [hl.len, List.length_map, optK_mk, nilCheck_ptr, addOff_ptr, rd1_mk h.wb, Nat.zero_add, List.getElem?_cons_zero, lenOf_slc, arith_gtr]
    refine boolK_mk (fun hb => ?_) (fun hb => ?_)
    · exact hK 7 (.inr ⟨hno, by rw [if_pos (by have := of_decide_eq_true hb; omega)]⟩)
    · exact hK 0 (.inr ⟨hno, by rw [if_neg (by have := of_decide_eq_false hb; omega)]⟩)
theorem Set_full {v : AVal} (h : WAt s w bb mv cap B M) (hl : Sli s v l) (hlen : l.length ≤ 1000000) (hr : ∀ b ∈ B, 0 ≤ b ∧ b ≤ 128)
    (hE : ∀ e, ChkR l B.length e → e ≠ 0 → K (.int .i64 e) s)
    (hK : ∀ s' mv' B', Asc l → l.length ≤ B.length → WAt s' w bb mv' cap B' l → Aft l B B' → KeepBut (fun b => b = w ∨ b = bb) s s' → (l ≠ [] → ∃ c n k, s c = none ∧ mv' = .slc c 0 n k 1) → K (.int .i64 0) s') : wpCall Try.prog XX 14 [.ptr w 0, v] K s := by
  by_cases hok : Asc l ∧ l.length ≤ B.length
  · exact Set_in h hl hok.1 hok.2 hr fun s' mv' B' a b c d => hK s' mv' B' hok.1 hok.2 a b c d
  · refine vc_spread_Wheel_Set_in (valid_in h ?_)
    simp only [unary_not, Bool.not_true, optK_mk, boolK_false]
    refine check_full h hl hlen fun e he => ?_
    have hne : e ≠ 0 := fun e0 => hok (by rw [e0] at he; exact he.ok)
    simp only [eqV_int, negB_mk, Bool.true_bne, optK_mk, beq_eq_false_iff_ne.2 hne, Bool.not_false, boolK_true]
    exact hE e he hne
end Go.AM
namespace Go.AM
open Go Go.Proofs
variable {K : AVal → Heap → Prop} {s : Heap} {w bb : Nat} {mv : AVal} {cap : Option Nat} {B M l : List Int}
theorem wu64 (n : Int) : wrapK .u64 n = n % 18446744073709551616 := by
  simp only [wrapK]
  rw [wrapM_eq _ _ _ (by omega) (by omega)]
  split
  · have := Int.emod_lt_of_pos n (b := 18446744073709551616) (by omega)
    omega
  · rfl
theorem wi64 {n : Int} (h1 : 0 ≤ n) (h2 : n < 1000000) : wrapK .i64 n = n := by rw [wrapK_eq, wrap64 (by omega) (by omega)]
theorem convI_mk {k k' : IntKind} {n : Int} : convI k (.int k' n) = some (.int k (wrapK k n)) := rfl
theorem s_addr {kd : IntKind} {bb n i : Nat} {cap : Option Nat} (hi : i < n) : iaddrS 1 (.slc bb 0 n cap 1) (.int kd (i : Int)) = some (.ptr bb i) := by
  have : Nat.blt i n = true := by rw [Nat.blt_eq]; exact hi
  simp [iaddrS, this]
theorem New_err {n : Int} (h : n < 1 ∨ 256 < n) (hK : K (.tup [.nilptr, .int .i64 2]) s) : wpCall Try.prog XX 10 [.int .i64 n] K s := by
  refine vc_spread_New_in ?_
  simp only [vc_spread_New, arith_lss, optK_mk, vc_spread_New_j0]
  by_cases e1 : n < 1
  · simp only [decide_eq_true e1, boolK_true, pickV_true, optK_mk]; exact hK
  · have e2 : 256 < n := h.resolve_left e1
    simp only [decide_eq_false e1, boolK_false, arith_gtr, optK_mk, decide_eq_true e2, pickV_false, boolK_true]; exact hK
theorem Load_out {m : Int} (h : WAt s w bb mv cap B M) (hm : m < 0 ∨ 128 ≤ m) (hK : K (.int .i64 0) s) : wpCall Try.prog XX 20 [.ptr w 0, .int .i64 m] K s := by
  refine vc_spread_Wheel_Load_in (valid_in h ?_)
  simp only [unary_not, Bool.not_true, optK_mk, boolK_false, arith_lss, vc_spread_Wheel_Load_j0, vc_spread_Wheel_Load_j1]
  by_cases e1 : m < 0
  · simp only [decide_eq_true e1, boolK_true, boolK_false, pickV_true, pickV_false, optK_mk]; exact hK
  · have e2 : 128 ≤ m := hm.resolve_left e1
    simp only [decide_eq_false e1, boolK_false, arith_geq, optK_mk, decide_eq_true e2, pickV_false, boolK_true]; exact hK
/-- what Pick answers -/
def pickR (B M : List Int) (h : Int) : AVal := if M = [] then .tup [.int .i64 0, .bool false] else .tup [.int .i64 (B.getD (h % B.length).toNat 0 - 1), .bool true]
theorem pick_ix {n : Nat} {h : Int} (hn : 1 ≤ n) (hh : 0 ≤ h) : ∃ i : Nat, i < n ∧ h.tmod (n : Int) = i ∧ (h % (n : Int)).toNat = i := by
  have h1 := Int.emod_nonneg h (b := n) (by omega)
  have h2 := Int.emod_lt_of_pos h (b := n) (by omega)
  refine ⟨(h % (n : Int)).toNat, by omega, ?_, rfl⟩
  rw [Int.tmod_eq_emod_of_nonneg hh]
  omega
theorem Pick_w {h : Int} (z : WAt s w bb mv cap B M) (hM : M.length ≤ 1000) (hr : ∀ b ∈ B, 0 ≤ b ∧ b ≤ 128) (hh : 0 ≤ h) (hK : K (pickR B M h) s) : wpCall Try.prog XX 11 [.ptr w 0, .int .u64 h] K s := by
  refine vc_spread_Wheel_Pick_in (valid_in z ?_)
  have hp := z.pos
  have lM : lenOfA mv = some M.length := by rw [z.ms.len, List.length_map]
  simp only [unary_not, Bool.not_true, optK_mk, boolK_false, nilCheck_ptr, addOff_ptr, rd1_mk z.wb, Nat.zero_add, List.getElem?_cons_zero, List.getElem?_cons_succ, lM, eqV_int, negB_mk, Bool.false_bne, vc_spread_Wheel_Pick_j0, pickV_false]
  by_cases e : M = []
  · subst e
    have hK : K (.tup [.int .i64 0, .bool false]) s := by unfold pickR at hK; rwa [if_pos rfl] at hK
    simp only [List.length_nil, Int.natCast_zero, beq_self_eq_true, boolK_true]; exact hK
  · have hne : (((M.length : Nat) : Int) == 0) = false := beq_eq_false_iff_ne.2 fun h0 => e (List.length_eq_zero_iff.1 (by omega))
    obtain ⟨i, hi, e1, e2⟩ := pick_ix (n := B.length) hp.1 hh
    have hb := hr _ (List.getElem_mem hi)
    have ew : (B.length : Int) % 18446744073709551616 = B.length := Int.emod_eq_of_lt (by omega) (by omega)
    unfold pickR at hK
    rw [if_neg e, e2, getD_lt hi] at hK
    simp only [hne, boolK_false, lenOf_slc, optK_mk, convI_mk, wu64, ew, arith_rem (k := .u64) (x := h) (y := (B.length : Int)) (by omega), e1, s_addr hi, rd1_mk z.bs, ints_at hi, arith_sub]
    rw [wrap64 (by omega) (by omega)]
    exact hK
end Go.AM
namespace Go.AM
open Go Go.Proofs
variable {K : AVal → Heap → Prop} {s : Heap} {w bb o rb : Nat} {mv vM : AVal} {cap : Option Nat} {B M l : List Int}
theorem cut_old {l : List (Heap × Heap)} {t : Heap} {b : Nat} {x : Bool × Blk} (h : t b = some x) (hl : ∀ p ∈ l, p.1 b ≠ none) : cutH l t b = some x := by
  have h1 : cutH l t b ≠ none := cutH_put (by rw [h]; exact Option.some_ne_none _) fun p hp h2 => hl p hp h2.1
  rw [(cutH_get h1).2.2, h]
theorem Sub.frzd {s s7 : Heap} (h : Sub (frz s) s7) {b : Nat} (hb : s b ≠ none) : s7 b ≠ none := by
  cases e : s b with
  | none => exact absurd e hb
  | some x => rw [h b (true, x.2) (by unfold frz; rw [e])]; exact Option.some_ne_none _
theorem sub_add2 {s s7 : Heap} : Sub s (add s s7) := fun i e hi => add_some hi
theorem fill2 {z0 z1 a b : AVal} (ha : a.one = true) (hb : b.one = true) : fillR [z0, z1] [(0, 1, a), (1, 1, b)] = some [a, b] := by
  simp only [fillR, one_cells ha, one_cells hb]
  rfl
theorem Copy_w (z : WAt s w bb mv cap B M) (hM : M.length ≤ 1000)
    (hK : ∀ w' bb' mv' cap' s', s w' = none → s bb' = none → Sub s s' → WAt s' w' bb' mv' cap' B M → (M ≠ [] → ∃ c n k, s c = none ∧ mv' = .slc c 0 n k 1) → K (.ptr w' 0) s') : wpCall Try.prog XX 27 [.ptr w 0] K s := by
  have hp := z.pos
  refine vc_spread_Wheel_Copy_in (valid_in z ?_)
  simp only [unary_not, Bool.not_true, optK_mk, boolK_false, nilCheck_ptr, addOff_ptr, rd1_mk z.wb, Nat.zero_add, List.getElem?_cons_zero]
  have hb : Sli s (.slc bb 0 B.length cap 1) B := Sl.mk z.bs (by simp) (by simpa using z.cp)
  refine Clone_in (s := frz s) hb.frz (by omega) fun v7 s7 sub7 sl7 g7 _ => ?_
  obtain ⟨c, hc0, rfl, hc⟩ := g7 (by intro e; rw [e] at hp; simp at hp)
  have hc0 := frz_none.1 hc0
  have hcA : add s s7 c = some (false, .cells 3 (ints B)) := by rw [add_none hc0]; exact hc
  have hw7 : cutH [(s, add s s7)] (add s s7) w = some (false, .cells 53 [.slc bb 0 B.length cap 1, mv]) := cut_old (add_some z.wb) fun p hp => by
    rw [List.mem_singleton] at hp; subst hp
    simp only [z.wb]; exact Option.some_ne_none _
  simp only [rd1_mk hw7, List.getElem?_cons_zero, List.getElem?_cons_succ, optK_mk]
  refine Clone_in (s := add s s7) (z.ms.sub sub_add2) (by omega) fun v8 s8 sub8 sl8 g8 => ?_
  have o8 := sl8.one
  refine optK_of (a := [.slc c 0 B.length none 1, v8]) (fill2 rfl o8) ⟨by simp [o8], new_step fun w' s9 hw' h9 u9 => ?_⟩
  have hs9 : Sub s s9 := sub_add2.trans (sub8.trans (u9.sub hw'))
  have fr : ∀ {b : Nat} {t : Heap}, Sub s t → t b = none → s b = none := fun {b t} h hb => by
    cases e : s b with
    | none => rfl
    | some x => rw [h b x e] at hb; cases hb
  refine hK w' c v8 none s9 (fr (sub_add2.trans sub8) hw') hc0 hs9 ⟨h9, (u9.sub hw') _ _ (sub8 _ _ hcA), sl8.sub (u9.sub hw'), (fun c e => by cases e), hp⟩ fun hne => ?_
  obtain ⟨d, h1, h2, _⟩ := g8 hne
  exact ⟨d, _, _, fr sub_add2 h1, h2⟩
end Go.AM
namespace Go.AM
open Go Go.Proofs
variable {K : AVal → Heap → Prop} {s : Heap} {o rb : Nat} {vM : AVal} {B M l : List Int}
/-! ### the reference's wheel -/
/-- to be read -/
structure RRd (s : Heap) (o rb : Nat) (vM : AVal) (B M : List Int) : Prop where
  ob : ∃ t, s o = some (t, .cells 75 [vM, .slc rb 0 B.length none 1])
  rs : ∃ t, s rb = some (t, .cells 3 (ints (outB B)))
  ms : Sli s vM M
  pos : 1 ≤ B.length ∧ B.length ≤ 256
  asc : Asc M
  len : M.length ≤ 256
theorem RRd.frz (h : RRd s o rb vM B M) : RRd (frz s) o rb vM B M := by
  obtain ⟨t, h1⟩ := h.ob
  obtain ⟨t', h2⟩ := h.rs
  exact ⟨⟨true, frz_some h1⟩, ⟨true, frz_some h2⟩, Sl.frz h.ms, h.pos, h.asc, h.len⟩
theorem RRd.lenM (h : RRd s o rb vM B M) : lenOfA vM = some M.length := by rw [h.ms.len, List.length_map]
theorem rb_at {k : Nat} {t : Bool} (h : s rb = some (t, .cells 3 (ints (outB B)))) (hk : k < B.length) : rd1 s (.ptr rb k) = some (.int .i64 (B[k] - 1)) := by
  rw [rd1_mk h]
  simp [ints, outB, hk]
theorem rLoad_in {m : Int} (h : RRd s o rb vM B M) (hm : 0 ≤ m ∧ m < 128) (hK : K (.int .i64 (ld B m : Nat)) s) : wpCall Try.prog XX 38 [.ptr o 0, .int .i64 m] K s := by
  refine vc_leafmeshref11_Wheel_Load_in ?_
  obtain ⟨t1, ho⟩ := h.ob
  obtain ⟨t2, hb⟩ := h.rs
  have hp := h.pos
  refine ⟨fun ys s2 n => ∃ i : Nat, ys = [.int .i64 (ld (B.take i) m : Nat), .int .i64 i] ∧ s2 = s ∧ i ≤ B.length ∧ n = B.length - i, ⟨_, 0, rfl, rfl, by omega, rfl⟩, ?_⟩
  rintro f s2 n ⟨i, hy, rfl, hi, rfl⟩
  simp only [List.cons.injEq, and_true] at hy
  rw [hy.1, hy.2]
  simp only [vc_leafmeshref11_Wheel_Load_l0, nilCheck_ptr, addOff_ptr, rd1_mk ho, Nat.zero_add, List.getElem?_cons_zero, List.getElem?_cons_succ, lenOf_slc, optK_mk, arith_lss]
  refine boolK_mk (fun hlt => ?_) (fun hge => ?_)
  · have hlt : i < B.length := by have := of_decide_eq_true hlt; omega
    have e1 : decide ((0 : Int) ≤ m) = true := decide_eq_true hm.1
    have hcnt : ld (B.take i) m ≤ B.length := Nat.le_trans List.count_le_length (by simp; omega)
    have hstep : ld (B.take (i + 1)) m = ld (B.take i) m + if B[i] - 1 == m then 1 else 0 := by
      unfold ld
      rw [List.take_succ_eq_append_getElem hlt, List.count_append, List.count_singleton]
      have : (B[i] == m + 1) = (B[i] - 1 == m) := by
        by_cases e : B[i] = m + 1
        · rw [e, Int.add_sub_cancel]; simp
        · have e2 : B[i] - 1 ≠ m := by omega
          rw [beq_eq_false_iff_ne.2 e, beq_eq_false_iff_ne.2 e2]
      rw [this]
    simp only [arith_geq, e1, boolK_true, b_addr hlt, rb_at hb hlt, optK_mk, eqV_int, negB_mk, Bool.false_bne, vc_leafmeshref11_Wheel_Load_j1, pickV_true]
    cases hq : (B[i] - 1 == m) with
    | true =>
      rw [hq, if_pos rfl] at hstep
      simp only [boolK_true, vc_leafmeshref11_Wheel_Load_j2, optK_mk, arith_add]
      rw [wrap64 (by omega) (by omega), wrap64 (by omega) (by omega)]
      exact ⟨_, by omega, i + 1, by rw [hstep]; rfl, by trivial, by omega, rfl⟩
    | false =>
      rw [hq, if_neg (by simp)] at hstep
      simp only [boolK_false, vc_leafmeshref11_Wheel_Load_j2, optK_mk, arith_add]
      rw [wrap64 (by omega) (by omega)]
      exact ⟨_, by omega, i + 1, by rw [hstep]; rfl, by trivial, by omega, rfl⟩
  · have hge : i = B.length := by have := of_decide_eq_false hge; omega
    subst hge
    rw [List.take_length]
    exact hK
theorem is_in {v : AVal} {x : Int} (h : Sli s v l) (hl : l.length ≤ 1000000) (hK : K (.bool (decide (x ∈ l))) s) : wpCall Try.prog XX 40 [v, .int .i64 x] K s := by
  refine vc_leafmeshref11_is_in ?_
  refine ⟨fun ys s1 n => ∃ k : Nat, ys = [.int .i64 k] ∧ s1 = s ∧ k ≤ l.length ∧ n = l.length - k ∧ (x ∈ l ↔ x ∈ l.drop k), ⟨_, 0, rfl, rfl, by omega, rfl, by simp⟩, ?_⟩
  rintro f s1 n ⟨k, hy, rfl, hk, rfl, he⟩
  simp only [List.cons.injEq, and_true] at hy
  rw [hy]
  simp only [vc_leafmeshref11_is_l0, h.len, List.length_map, optK_mk, arith_lss]
  refine boolK_mk (fun hlt => ?_) (fun hge => ?_)
  · have hlt : k < l.length := by have := of_decide_eq_true hlt; omega
    obtain ⟨p, g1, g2⟩ := sli_at h hlt
    rw [List.drop_eq_getElem_cons hlt, List.mem_cons] at he
    simp only [g1, g2, optK_mk, eqV_int, negB_mk, Bool.false_bne]
    cases hq : (l[k] == x) with
    | true =>
      have : x ∈ l := he.2 (.inl (eq_of_beq hq).symm)
      rw [decide_eq_true this] at hK
      simp only [boolK_true]; exact hK
    | false =>
      have hne : x ≠ l[k] := fun e => by rw [e] at hq; simp at hq
      simp only [boolK_false, arith_add, optK_mk]
      rw [wrap64 (by omega) (by omega)]
      exact ⟨_, by omega, k + 1, by simp, by trivial, by omega, rfl, he.trans ⟨fun h => h.resolve_left hne, .inr⟩⟩
  · have hge : l.length ≤ k := by have := of_decide_eq_false hge; omega
    rw [List.drop_eq_nil_of_le hge] at he
    have : ¬ x ∈ l := fun h => by simpa using he.1 h
    rw [decide_eq_false this] at hK
    exact hK
theorem asc_le (h : Asc M) {i j : Nat} (hi : i < M.length) (hj : j < M.length) (hij : i ≤ j) : M[i] ≤ M[j] := by
  rcases Nat.lt_or_eq_of_le hij with h2 | h2
  · have := List.pairwise_iff_getElem.1 h.1 i j hi hj h2; omega
  · subst h2; exact Int.le_refl _
theorem least_in (h : RRd s o rb vM B M) (hM : M ≠ []) (hK : ∀ t, t ∈ M → (∀ a ∈ M, ld B t ≤ ld B a) → (∀ a ∈ M, ld B a = ld B t → t ≤ a) → K (.int .i64 t) s) : wpCall Try.prog XX 41 [.ptr o 0] K s := by
  refine vc_leafmeshref11_Wheel_least_in ?_
  obtain ⟨t1, ho⟩ := h.ob
  have hM0 : 0 < M.length := List.length_pos_iff.2 hM
  have hlM := h.len
  obtain ⟨p0, g1, g2⟩ := sli_at h.ms hM0
  simp only [vc_leafmeshref11_Wheel_least, nilCheck_ptr, addOff_ptr, rd1_mk ho, Nat.zero_add, List.getElem?_cons_zero, optK_mk, show ((0 : Int) = ((0 : Nat) : Int)) from rfl, g1, g2]
  refine ⟨fun ys s2 n => ∃ i j0 : Nat, ∃ hj0 : j0 < M.length, ys = [.int .i64 M[j0], .int .i64 i] ∧ s2 = s ∧ i ≤ M.length ∧ n = M.length - i ∧ (j0 < i ∨ j0 = 0) ∧ ∀ j (hj : j < M.length), j < i → ld B M[j0] ≤ ld B M[j] ∧ (ld B M[j] = ld B M[j0] → M[j0] ≤ M[j]), ⟨_, 0, 0, hM0, rfl, rfl, by omega, rfl, .inr rfl, fun j hj h => by omega⟩, ?_⟩
  rintro f s2 n ⟨i, j0, hj0, hy, rfl, hi, rfl, hj, hall⟩
  simp only [List.cons.injEq, and_true] at hy
  rw [hy.1, hy.2]
  simp only [vc_leafmeshref11_Wheel_least_l0, nilCheck_ptr, addOff_ptr, rd1_mk ho, Nat.zero_add, List.getElem?_cons_zero, optK_mk, h.lenM, arith_lss]
  refine boolK_mk (fun hlt => ?_) (fun hge => ?_)
  · have hlt : i < M.length := by have := of_decide_eq_true hlt; omega
    obtain ⟨p, g3, g4⟩ := sli_at h.ms hlt
    simp only [g3, g4, optK_mk]
    refine rLoad_in h (h.asc.2 _ (List.getElem_mem hlt)) (rLoad_in h (h.asc.2 _ (List.getElem_mem hj0)) ?_)
    simp only [arith_lss, optK_mk]
    refine boolK_mk (fun hl => ?_) (fun hl => ?_)
    · have hl := of_decide_eq_true hl
      simp only [nilCheck_ptr, addOff_ptr, rd1_mk ho, Nat.zero_add, List.getElem?_cons_zero, g3, g4, optK_mk, vc_leafmeshref11_Wheel_least_j1, arith_add]
      rw [wrap64 (by omega) (by omega)]
      refine ⟨_, by omega, i + 1, i, hlt, rfl, by trivial, by omega, rfl, .inl (by omega), fun j hj2 hji => ?_⟩
      by_cases e : j = i
      · subst e; exact ⟨Nat.le_refl _, fun _ => Int.le_refl _⟩
      · have := hall j hj2 (by omega)
        exact ⟨by omega, fun e => by omega⟩
    · have hl := of_decide_eq_false hl
      simp only [vc_leafmeshref11_Wheel_least_j1, arith_add, optK_mk]
      rw [wrap64 (by omega) (by omega)]
      refine ⟨_, by omega, i + 1, j0, hj0, rfl, by trivial, by omega, rfl, by omega, fun j hj2 hji => ?_⟩
      by_cases e : j = i
      · subst e
        exact ⟨by omega, fun _ => asc_le h.asc hj0 hj2 (by omega)⟩
      · exact hall j hj2 (by omega)
  · have hge : i = M.length := by have := of_decide_eq_false hge; omega
    subst hge
    refine hK _ (List.getElem_mem hj0) (fun a ha => ?_) (fun a ha => ?_)
    · obtain ⟨j, hj2, rfl⟩ := List.getElem_of_mem ha
      exact (hall j hj2 hj2).1
    · obtain ⟨j, hj2, rfl⟩ := List.getElem_of_mem ha
      exact (hall j hj2 hj2).2
theorem rmost_in (h : RRd s o rb vM B M) (hM : M ≠ []) (hK : ∀ t, t ∈ M → (∀ a ∈ M, ld B a ≤ ld B t) → (∀ a ∈ M, ld B a = ld B t → a ≤ t) → K (.int .i64 t) s) : wpCall Try.prog XX 42 [.ptr o 0] K s := by
  refine vc_leafmeshref11_Wheel_most_in ?_
  obtain ⟨t1, ho⟩ := h.ob
  have hM0 : 0 < M.length := List.length_pos_iff.2 hM
  have hlM := h.len
  obtain ⟨p0, g1, g2⟩ := sli_at h.ms hM0
  simp only [vc_leafmeshref11_Wheel_most, nilCheck_ptr, addOff_ptr, rd1_mk ho, Nat.zero_add, List.getElem?_cons_zero, optK_mk, show ((0 : Int) = ((0 : Nat) : Int)) from rfl, g1, g2]
  refine ⟨fun ys s2 n => ∃ i j0 : Nat, ∃ hj0 : j0 < M.length, ys = [.int .i64 M[j0], .int .i64 i] ∧ s2 = s ∧ i ≤ M.length ∧ n = M.length - i ∧ ∀ j (hj : j < M.length), j < i → ld B M[j] ≤ ld B M[j0] ∧ (ld B M[j] = ld B M[j0] → M[j] ≤ M[j0]), ⟨_, 0, 0, hM0, rfl, rfl, by omega, rfl, fun j hj h => by omega⟩, ?_⟩
  rintro f s2 n ⟨i, j0, hj0, hy, rfl, hi, rfl, hall⟩
  simp only [List.cons.injEq, and_true] at hy
  rw [hy.1, hy.2]
  simp only [vc_leafmeshref11_Wheel_most_l0, nilCheck_ptr, addOff_ptr, rd1_mk ho, Nat.zero_add, List.getElem?_cons_zero, optK_mk, h.lenM, arith_lss]
  refine boolK_mk (fun hlt => ?_) (fun hge => ?_)
  · have hlt : i < M.length := by have := of_decide_eq_true hlt; omega
    obtain ⟨p, g3, g4⟩ := sli_at h.ms hlt
    simp only [g3, g4, optK_mk]
    refine rLoad_in h (h.asc.2 _ (List.getElem_mem hlt)) (rLoad_in h (h.asc.2 _ (List.getElem_mem hj0)) ?_)
    simp only [arith_geq, optK_mk]
    refine boolK_mk (fun hl => ?_) (fun hl => ?_)
    · have hl := of_decide_eq_true hl
      simp only [nilCheck_ptr, addOff_ptr, rd1_mk ho, Nat.zero_add, List.getElem?_cons_zero, g3, g4, optK_mk, vc_leafmeshref11_Wheel_most_j1, arith_add]
      rw [wrap64 (by omega) (by omega)]
      refine ⟨_, by omega, i + 1, i, hlt, rfl, by trivial, by omega, rfl, fun j hj2 hji => ?_⟩
      have := hall
      by_cases e : j = i
      · subst e; exact ⟨Nat.le_refl _, fun _ => Int.le_refl _⟩
      · have := hall j hj2 (by omega)
        exact ⟨by omega, fun _ => asc_le h.asc hj2 hlt (by omega)⟩
    · have hl := of_decide_eq_false hl
      simp only [vc_leafmeshref11_Wheel_most_j1, arith_add, optK_mk]
      rw [wrap64 (by omega) (by omega)]
      refine ⟨_, by omega, i + 1, j0, hj0, rfl, by trivial, by omega, rfl, fun j hj2 hji => ?_⟩
      by_cases e : j = i
      · subst e
        exact ⟨by omega, fun _ => by omega⟩
      · exact hall j hj2 (by omega)
  · have hge : i = M.length := by have := of_decide_eq_false hge; omega
    subst hge
    refine hK _ (List.getElem_mem hj0) (fun a ha => ?_) (fun a ha => ?_)
    · obtain ⟨j, hj2, rfl⟩ := List.getElem_of_mem ha
      exact (hall j hj2 hj2).1
    · obtain ⟨j, hj2, rfl⟩ := List.getElem_of_mem ha
      exact (hall j hj2 hj2).2
theorem rPick_in {h : Int} (z : RRd s o rb vM B M) (hh : 0 ≤ h) (hK : K (pickR B M h) s) : wpCall Try.prog XX 39 [.ptr o 0, .int .u64 h] K s := by
  refine vc_leafmeshref11_Wheel_Pick_in ?_
  obtain ⟨t1, ho⟩ := z.ob
  obtain ⟨t2, hb⟩ := z.rs
  have hp := z.pos
  simp only [vc_leafmeshref11_Wheel_Pick, nilCheck_ptr, addOff_ptr, rd1_mk ho, Nat.zero_add, List.getElem?_cons_zero, List.getElem?_cons_succ, z.lenM, optK_mk, eqV_int, negB_mk, Bool.false_bne]
  by_cases e : M = []
  · subst e
    have hK : K (.tup [.int .i64 0, .bool false]) s := by unfold pickR at hK; rwa [if_pos rfl] at hK
    simp only [List.length_nil, Int.natCast_zero, beq_self_eq_true, boolK_true]; exact hK
  · have hne : (((M.length : Nat) : Int) == 0) = false := beq_eq_false_iff_ne.2 fun h0 => e (List.length_eq_zero_iff.1 (by omega))
    obtain ⟨i, hi, e1, e2⟩ := pick_ix (n := B.length) hp.1 hh
    have ew : (B.length : Int) % 18446744073709551616 = B.length := Int.emod_eq_of_lt (by omega) (by omega)
    unfold pickR at hK
    rw [if_neg e, e2, getD_lt hi] at hK
    simp only [hne, boolK_false, lenOf_slc, optK_mk, convI_mk, wu64, ew, arith_rem (k := .u64) (x := h) (y := (B.length : Int)) (by omega), e1, wi64 (n := (i : Int)) (by omega) (by omega), b_addr hi, rb_at hb hi]
    exact hK
end Go.AM
namespace Go.AM
open Go Go.Proofs
variable {K : AVal → Heap → Prop} {s : Heap} {o rb : Nat} {vM : AVal} {B M l : List Int}
structure RAt (s : Heap) (o rb : Nat) (vM : AVal) (B M : List Int) : Prop where
  ob : s o = some (false, .cells 75 [vM, .slc rb 0 B.length none 1])
  rs : s rb = some (false, .cells 3 (ints (outB B)))
  ms : Sli s vM M
  pos : 1 ≤ B.length ∧ B.length ≤ 256
  asc : Asc M
  len : M.length ≤ B.length
theorem RAt.rd (h : RAt s o rb vM B M) : RRd s o rb vM B M := ⟨⟨_, h.ob⟩, ⟨_, h.rs⟩, h.ms, h.pos, h.asc, by have := h.len; have := h.pos; omega⟩
theorem RAt.sub {s' : Heap} (h : RAt s o rb vM B M) (hs : Sub s s') : RAt s' o rb vM B M := ⟨hs _ _ h.ob, hs _ _ h.rs, h.ms.sub hs, h.pos, h.asc, h.len⟩
theorem push2 {s0 : Heap} {v : AVal} {L : List Int} {x : Int} (acc : Acc 3 s0 s v (ints L)) (hdom : ∀ i, s0 i ≠ none → s i ≠ none) (hl : L.length ≤ 1000000) (hK : ∀ v' s', (∀ i e, s i = some e → s0 i ≠ none → s' i = some e) → Acc 3 s0 s' v' (ints (L ++ [x])) → K v' s') :
    optK (fillR (repl 1 [(.int .i64 0)]) [(0, 1, .int .i64 x)]) fun c => allOne c = true ∧ newK 3 c (fun b s => appK 3 1 v (.slc b 0 1 (some 1) 1) K s) s := by
  refine lit1_step (elem := 3) (z := .int .i64 0) (v := .int .i64 x) rfl rfl fun b s3 hb h3 u3 => ?_
  have acc3 := acc.to (u3.sub hb)
  have lit : Sl s3 (.slc b 0 1 (some 1) 1) [AVal.int .i64 x] := Sl.mk h3 rfl (by simp)
  have hl2 : (ints L).length + [AVal.int .i64 x].length ≤ 16777216 := by
    rw [List.length_map, List.length_singleton]; omega
  have e2 : ints L ++ [AVal.int .i64 x] = ints (L ++ [x]) := by rw [ints, ints, List.map_append]; rfl
  refine acc3.app lit (List.cons_ne_nil _ _) hl2 (fun i hi => ?_) fun v' s4 acc4 k4 => ?_
  · have := hdom i hi
    cases e : s i with
    | none => exact absurd e this
    | some x => rw [u3.sub hb i x e]; exact Option.some_ne_none _
  · rw [e2] at acc4
    refine hK v' s4 (fun i e hi hne => k4 i e (u3.sub hb i e hi) fun b hb2 e3 => ?_) acc4
    rcases acc3 with ⟨a, _⟩ | ⟨c, c1, c2, _⟩
    · rw [a] at hb2; cases hb2
    · rw [c2] at hb2
      injection hb2 with b1
      rw [e3, ← b1] at hne
      exact hne c1
theorem rNew_err {n : Int} (h : n < 1 ∨ 256 < n) (hK : K (.tup [.nilptr, .int .i64 2]) s) : wpCall Try.prog XX 25 [.int .i64 n] K s := by
  refine vc_leafmeshref11_New_in ?_
  simp only [vc_leafmeshref11_New, arith_lss, optK_mk, vc_leafmeshref11_New_j0]
  by_cases e1 : n < 1
  · simp only [decide_eq_true e1, boolK_true, pickV_true, optK_mk]; exact hK
  · have e2 : 256 < n := h.resolve_left e1
    simp only [decide_eq_false e1, boolK_false, arith_gtr, optK_mk, decide_eq_true e2, pickV_false, boolK_true]; exact hK
theorem rNew_in {n : Nat} (h1 : 1 ≤ n) (h2 : n ≤ 256) (hK : ∀ o rb s', s o = none → s rb = none → Sub s s' → RAt s' o rb .nilslc (List.replicate n 0) [] → K (.tup [.ptr o 0, .int .i64 0]) s') : wpCall Try.prog XX 25 [.int .i64 (n : Int)] K s := by
  refine vc_leafmeshref11_New_in ?_
  have e1 : decide ((n : Int) < 1) = false := by rw [decide_eq_false_iff_not]; omega
  have e2 : decide ((256 : Int) < (n : Int)) = false := by rw [decide_eq_false_iff_not]; omega
  simp only [vc_leafmeshref11_New, arith_lss, arith_gtr, e1, e2, optK_mk, boolK_false, vc_leafmeshref11_New_j0, pickV_false]
  refine optK_of (a := [.nilslc, .nilslc]) rfl ⟨rfl, new_step fun o s4 ho h4 u4 => ?_⟩
  have sub4 := u4.sub ho
  have h4 : s4 o = some (false, .cells 75 [.nilslc, .nilslc]) := h4
  refine ⟨fun ys s' m => ∃ (i : Nat) (v : AVal), ys = [.int .i64 i] ∧ i ≤ n ∧ m = n - i ∧ s' o = some (false, .cells 75 [.nilslc, v]) ∧ Acc 3 s4 s' v (ints (List.replicate i (-1))) ∧ (∀ i, s4 i ≠ none → s' i ≠ none) ∧ Sub s s', ⟨_, 0, .nilslc, rfl, by omega, rfl, h4, .inl ⟨rfl, rfl⟩, fun _ h => h, sub4⟩, ?_⟩
  rintro f s5 m ⟨i, v, hy, hi, rfl, h5, acc, dom, sub5⟩
  simp only [List.cons.injEq, and_true] at hy
  rw [hy]
  simp only [vc_leafmeshref11_New_l1, arith_lss, optK_mk]
  refine boolK_mk (fun hlt => ?_) (fun hge => ?_)
  · have hlt : i < n := by have := of_decide_eq_true hlt; omega
    simp only [nilCheck_ptr, addOff_ptr, rd1_mk h5, Nat.zero_add, List.getElem?_cons_zero, List.getElem?_cons_succ, optK_mk]
    refine push2 acc dom (by simp; omega) fun v' s6 keep6 acc6 => ?_
    have ho4 : s4 o ≠ none := by rw [h4]; exact Option.some_ne_none _
    have h6 := keep6 _ _ h5 ho4
    refine wr1_step h6 (by simp) acc6.sl.one fun s7 h7 u7 => ?_
    simp only [arith_add, optK_mk]
    rw [wrap64 (by omega) (by omega)]
    refine ⟨_, by omega, i + 1, v', rfl, by omega, rfl, h7, ?_, fun j hj => ?_, fun j e hj => ?_⟩
    · have e3 : List.replicate i (-1 : Int) ++ [-1] = List.replicate (i + 1) (-1) := by rw [List.replicate_succ']
      rw [e3] at acc6
      rcases acc6 with a | ⟨c, c1, c2, c3⟩
      · exact .inl a
      · refine .inr ⟨c, c1, c2, ?_⟩
        rw [u7 c fun e => ho4 (e ▸ c1)]; exact c3
    · by_cases e : j = o
      · rw [e, h7]; exact Option.some_ne_none _
      · rw [u7 j e]
        have := dom j hj
        cases q : s5 j with
        | none => exact absurd q this
        | some x => rw [keep6 j x q hj]; exact Option.some_ne_none _
    · have hj4 : s4 j ≠ none := by rw [sub4 j e hj]; exact Option.some_ne_none _
      rw [u7 j fun e2 => by rw [e2, ho] at hj; cases hj]
      exact keep6 j e (sub5 j e hj) hj4
  · have hge : i = n := by have := of_decide_eq_false hge; omega
    subst hge
    rcases acc with ⟨_, e⟩ | ⟨c, c1, c2, c3⟩
    · have : (ints (List.replicate i (-1))).length = 0 := by rw [e]; rfl
      rw [List.length_map, List.length_replicate] at this
      omega
    · have hcs : s c = none := by
        cases q : s c with
        | none => rfl
        | some x => rw [sub4 c x q] at c1; cases c1
      refine hK o c s5 ho hcs sub5 ⟨?_, ?_, .inl ⟨rfl, rfl⟩, by simp; omega, ⟨List.Pairwise.nil, by simp⟩, by simp⟩
      · rw [List.length_replicate, h5, c2]
        simp
      · rw [c3]
        simp [outB]
theorem rCopy_in (z : RAt s o rb vM B M) (hK : ∀ o' rb' vM' s', s o' = none → s rb' = none → Sub s s' → RAt s' o' rb' vM' B M → (M ≠ [] → ∃ c n k, s c = none ∧ vM' = .slc c 0 n k 1) → K (.ptr o' 0) s') : wpCall Try.prog XX 28 [.ptr o 0] K s := by
  have hp := z.pos
  have hlM := z.len
  have fr : ∀ {b : Nat} {t : Heap}, Sub s t → t b = none → s b = none := fun {b t} h hb => by
    cases e : s b with
    | none => rfl
    | some x => rw [h b x e] at hb; cases hb
  refine vc_leafmeshref11_Wheel_Copy_in ?_
  refine optK_of (a := []) rfl ⟨rfl, new_step fun b1 s2 hb1 h2 u2 _ => ?_⟩
  have T2 : Sub s (add s s2) := sub_add2
  have ho2 : cutH [(s, add s s2)] (add s s2) o = some (false, .cells 75 [vM, .slc rb 0 B.length none 1]) := cut_old (T2 _ _ z.ob) fun p hp => by
    rw [List.mem_singleton] at hp; subst hp
    simp only [z.ob]; exact Option.some_ne_none _
  simp only [nilCheck_ptr, addOff_ptr, rd1_mk ho2, Nat.zero_add, List.getElem?_cons_zero, List.getElem?_cons_succ, optK_mk]
  refine app_copy (s := frz (add s s2)) (Sl.frz (z.ms.sub T2)) (by simp; omega) fun v7 s7 sub7 g1 g2 _ => ?_
  refine optK_of (a := []) rfl ⟨rfl, new_step fun b9 s10 hb9 h10 u10 _ => ?_⟩
  have T3 : Sub s (add (add s s2) s7) := T2.trans sub_add2
  have T4 : Sub s (add (add (add s s2) s7) s10) := T3.trans sub_add2
  have ho4 : cutH [(s, add s s2), (add s s2, add (add s s2) s7), (add (add s s2) s7, add (add (add s s2) s7) s10)] (add (add (add s s2) s7) s10) o = some (false, .cells 75 [vM, .slc rb 0 B.length none 1]) := cut_old (T4 _ _ z.ob) fun p hp => by
    simp only [List.mem_cons, List.not_mem_nil, or_false] at hp
    rcases hp with rfl | rfl | rfl
    · simp only [z.ob]; exact Option.some_ne_none _
    · simp only [T2 _ _ z.ob]; exact Option.some_ne_none _
    · simp only [T3 _ _ z.ob]; exact Option.some_ne_none _
  simp only [nilCheck_ptr, addOff_ptr, rd1_mk ho4, Nat.zero_add, List.getElem?_cons_zero, List.getElem?_cons_succ, optK_mk]
  have slB : Sli s (.slc rb 0 B.length none 1) (outB B) := Sl.mk z.rs (by simp) (by simp)
  refine app_copy (s := add (add (add s s2) s7) s10) (slB.sub T4) (by simp; omega) fun v15 s15 sub15 g3 g4 => ?_
  have hne : (outB B).map (AVal.int .i64) ≠ [] := fun e => by
    have : ((outB B).map (AVal.int .i64)).length = 0 := by rw [e]; rfl
    simp at this
    rw [this] at hp
    simp at hp
  obtain ⟨c, hc0, rfl, hc⟩ := g4 hne
  have sub : Sub s s15 := T4.trans sub15
  have eM : Sli s15 v7 M ∧ (M ≠ [] → ∃ c n k, s c = none ∧ v7 = .slc c 0 n k 1) := by
    by_cases hm : M.map (AVal.int .i64) = []
    · rw [g1 hm]
      refine ⟨?_, fun h => absurd (by simpa using hm) h⟩
      unfold Sli; rw [hm]
      exact .inr ⟨b1, 0, some 0, rfl, by simp, fun h => absurd rfl h⟩
    · obtain ⟨d, hd0, rfl, hd⟩ := g2 hm
      have hd0 := frz_none.1 hd0
      have hd3 : add (add s s2) s7 d = some (false, .cells 3 (M.map (AVal.int .i64))) := by rw [add_none hd0]; exact hd
      refine ⟨Sl.mk (sub15 _ _ (add_some hd3)) rfl (by simp), fun _ => ⟨d, _, _, fr T2 hd0, rfl⟩⟩
  have o7 := eM.1.one
  refine optK_of (fill2 o7 rfl) ⟨by simp [o7], new_step fun o' s18 ho' h18 u18 => ?_⟩
  have hs : Sub s s18 := sub.trans (u18.sub ho')
  refine hK o' c v7 s18 (fr sub ho') (fr T4 hc0) hs ⟨by simpa using h18, u18.at hc ho', eM.1.sub (u18.sub ho'), hp, z.asc, hlM⟩ eM.2
end Go.AM
namespace Go.AM
open Go Go.Proofs
variable {K : AVal → Heap → Prop} {s s' s'' : Heap} {o rb : Nat} {v vM : AVal} {A A' B M l : List Int} {n : Nat}
/-- while the reference's Set works -/
structure Rst (s0 s : Heap) (o rb n : Nat) (vM v : AVal) (l A : List Int) : Prop where
  ob : s o = some (false, .cells 75 [vM, .slc rb 0 n none 1])
  rs : s rb = some (false, .cells 3 (ints (outB A)))
  ln : A.length = n
  ms : Sli s vM l
  vs : Sli s v l
  kp : KeepBut (fun b => b = o ∨ b = rb) s0 s
theorem Rst.rd {s0 : Heap} (h : Rst s0 s o rb n vM v l A) (hp : 1 ≤ n ∧ n ≤ 256) (ha : Asc l) (hl : l.length ≤ n) : RRd s o rb vM A l := ⟨⟨_, by rw [h.ln]; exact h.ob⟩, ⟨_, h.rs⟩, h.ms, by rw [h.ln]; exact hp, ha, by omega⟩
theorem Rst.set {s0 : Heap} {i : Nat} {x : Int} (h : Rst s0 s o rb n vM v l A) (u : Upto rb s s') (hb : s' rb = some (false, .cells 3 ((ints (outB A)).set i (.int .i64 x))))
    (h1 : ∀ b o n c, vM = .slc b o n c 1 → l ≠ [] → b ≠ rb) (h2 : ∀ b o n c, v = .slc b o n c 1 → l ≠ [] → b ≠ rb) : Rst s0 s' o rb n vM v l (A.set i (x + 1)) := by
  have ho : o ≠ rb := by
    rintro rfl
    have := h.ob; rw [h.rs] at this; cases this
  refine ⟨by rw [u o ho]; exact h.ob, ?_, by rw [List.length_set]; exact h.ln, h.ms.keep (fp := fun b => b = rb) (u.keep rfl) fun b o n c e hne => h1 b o n c e (by simpa using hne), h.vs.keep (fp := fun b => b = rb) (u.keep rfl) fun b o n c e hne => h2 b o n c e (by simpa using hne), h.kp.trans (u.keep (.inr rfl))⟩
  rw [hb, ints_set]
  unfold outB
  rw [List.map_set, Int.add_sub_cancel]
theorem rb_addr {cap : Option Nat} {i : Nat} (hi : i < n) : iaddrS 1 (.slc rb 0 n cap 1) (.int .i64 (i : Int)) = some (.ptr rb i) := b_addr hi
theorem rb_at2 {k : Nat} {t : Bool} (h : s rb = some (t, .cells 3 (ints (outB A)))) (hk : k < A.length) : rd1 s (.ptr rb k) = some (.int .i64 (A[k] - 1)) := rb_at h hk
set_option maxRecDepth 4000 in
theorem rSet_in (z : RAt s o rb vM B M) (hl : Sli s v l) (hlen : l.length ≤ 1000000) (hr : ∀ b ∈ B, 0 ≤ b ∧ b ≤ 128) (hv : ∀ b o' n c, v = .slc b o' n c 1 → l ≠ [] → b ≠ o ∧ b ≠ rb)
    (hE : ∀ e, ChkR l B.length e → e ≠ 0 → K (.int .i64 e) s)
    (hK : ∀ s' vM' B', Asc l → l.length ≤ B.length → RAt s' o rb vM' B' l → Aft l B B' → KeepBut (fun b => b = o ∨ b = rb) s s' → (l ≠ [] → ∃ c n k, s c = none ∧ vM' = .slc c 0 n k 1) → K (.int .i64 0) s') : wpCall Try.prog XX 29 [.ptr o 0, v] K s := by
  have hp := z.pos
  refine vc_leafmeshref11_Wheel_Set_in ?_
  refine ⟨fun ys s1 n => ∃ k : Nat, ys = [.int .i64 k] ∧ s1 = s ∧ k ≤ l.length ∧ n = l.length - k ∧ ∀ j, j < k → bad l j = 0, ⟨_, 0, rfl, rfl, by omega, rfl, fun j h => by omega⟩, ?_⟩
  rintro f s1 n ⟨k, hy, rfl, hk, rfl, hno⟩
  simp only [List.cons.injEq, and_true] at hy
  rw [hy]
  have lenV : lenOfA v = some l.length := by rw [hl.len, List.length_map]
  simp only [vc_leafmeshref11_Wheel_Set_l0, lenV, optK_mk, arith_lss]
  refine boolK_mk (fun hlt => ?_) (fun hge => ?_)
  · have hlt : k < l.length := by have := of_decide_eq_true hlt; omega
    obtain ⟨p, g1, g2⟩ := sli_at hl hlt
    have hgd := getD_lt hlt
    have out : l[k] < 0 ∨ 128 ≤ l[k] → K (.int .i64 2) s1 := fun hb => hE 2 (.inl ⟨k, hlt, by unfold bad; rw [hgd, if_pos hb], by decide, hno⟩) (by decide)
    have fin : bad l k = 0 → optK (arithV .add (.int .i64 (k : Int)) (.int .i64 1)) fun v_9 => ∃ m', m' < l.length - k ∧ ∃ k_1 : Nat, [v_9] = [AVal.int .i64 k_1] ∧ True ∧ k_1 ≤ l.length ∧ m' = l.length - k_1 ∧ ∀ j, j < k_1 → bad l j = 0 := by
      intro hb
      simp only [arith_add, optK_mk]
      rw [wrap64 (by omega) (by omega)]
      refine ⟨_, by omega, k + 1, by simp, by trivial, by omega, rfl, fun j hj => ?_⟩
      by_cases e : j = k
      · rw [e]; exact hb
      · exact hno j (by omega)
    simp only [g1, g2, optK_mk, arith_lss, arith_geq, vc_leafmeshref11_Wheel_Set_j1]
    by_cases n0 : l[k] < 0
    · simp only [decide_eq_true n0, boolK_true, pickV_true, optK_mk]
      exact out (.inl n0)
    · by_cases n1 : 128 ≤ l[k]
      · simp only [decide_eq_false n0, decide_eq_true n1, boolK_true, boolK_false, pickV_false, optK_mk]
        exact out (.inr n1)
      · simp only [decide_eq_false n0, decide_eq_false n1, boolK_false, pickV_false, optK_mk, arith_gtr]
        refine boolK_mk (fun hp => ?_) (fun hp => ?_)
        · rw [hp]
          have hp : 0 < k := by have := of_decide_eq_true hp; omega
          obtain ⟨q, g3, g4⟩ := sli_at hl (k := k - 1) (by omega)
          have ew : IntKind.i64.wrap ((k : Int) - 1) = ((k - 1 : Nat) : Int) := by rw [wrap64 (by omega) (by omega)]; omega
          have hgd2 := getD_lt (l := l) (show k - 1 < l.length by omega)
          simp only [arith_sub, ew, g3, g4, optK_mk, arith_leq, vc_leafmeshref11_Wheel_Set_j2, pickV_true]
          refine boolK_mk (fun hle => ?_) (fun hle => ?_)
          · exact hE 10 (.inl ⟨k, hlt, by unfold bad; rw [hgd, hgd2, if_neg (by omega), if_pos ⟨hp, of_decide_eq_true hle⟩], by decide, hno⟩) (by decide)
          · exact fin (by unfold bad; rw [hgd, hgd2, if_neg (by omega), if_neg (by have := of_decide_eq_false hle; omega)])
        · rw [hp]
          simp only [vc_leafmeshref11_Wheel_Set_j2, pickV_false, optK_mk, boolK_false]
          exact fin (by unfold bad; rw [hgd, if_neg (by omega), if_neg (by have := of_decide_eq_false hp; omega)])
  · have hge : k = l.length := by have := of_decide_eq_false hge; omega
    subst hge
    simp only [nilCheck_ptr, addOff_ptr, rd1_mk z.ob, Nat.zero_add, List.getElem?_cons_zero, List.getElem?_cons_succ, lenOf_slc, optK_mk, arith_gtr]
    refine boolK_mk (fun hb => ?_) (fun hb => ?_)
    · exact hE 7 (.inr ⟨hno, by rw [if_pos (by have := of_decide_eq_true hb; omega)]⟩) (by decide)
    have hb := of_decide_eq_false hb
    have ha := asc_of_bad hno
    have hlB : l.length ≤ B.length := by omega
    refine optK_of (a := []) rfl ⟨rfl, new_step fun b1 s2 hb1 h2 u2 => ?_⟩
    have sub2 := u2.sub hb1
    refine app_copy (hl.sub sub2) (by simp; omega) fun vM' s3 sub3 c1 c2 => ?_
    have sub03 := sub2.trans sub3
    have hM : Sli s3 vM' l ∧ (l ≠ [] → ∃ c n k, s1 c = none ∧ vM' = .slc c 0 n k 1) := by
      by_cases hm : l.map (AVal.int .i64) = []
      · rw [c1 hm]
        refine ⟨?_, fun h => absurd (by simpa using hm) h⟩
        unfold Sli; rw [hm]
        exact .inr ⟨b1, 0, some 0, rfl, by simp, fun h => absurd rfl h⟩
      · obtain ⟨d, hd0, rfl, hd⟩ := c2 hm
        refine ⟨Sl.mk hd rfl (by simp), fun _ => ⟨d, _, _, ?_, rfl⟩⟩
        cases e : s1 d with
        | none => rfl
        | some x => rw [sub2 d x e] at hd0; cases hd0
    have z3 := z.sub sub03
    refine wr1_step z3.ob (by simp) hM.1.one fun s4 h4 u4 => ?_
    have h4 : s4 o = some (false, .cells 75 [vM', .slc rb 0 B.length none 1]) := h4
    have hor : rb ≠ o := by
      rintro rfl
      have := z.ob; rw [z.rs] at this; cases this
    have f1 : ∀ b o' n c, vM' = .slc b o' n c 1 → l ≠ [] → b ≠ o ∧ b ≠ rb := by
      intro b o' n c e hne
      obtain ⟨d, n', k', hd, e2⟩ := hM.2 hne
      rw [e2] at e; injection e with e3
      rw [← e3]
      exact ⟨fun e4 => (by rw [e4, z.ob] at hd; cases hd), fun e4 => (by rw [e4, z.rs] at hd; cases hd)⟩
    have r4 : Rst s1 s4 o rb B.length vM' v l (clr l (B.take 0) ++ B.drop 0) := ⟨h4, by rw [u4 rb hor]; exact z3.rs, by simp [clr], hM.1.keep (fp := fun b => b = o) (u4.keep rfl) fun b o' n c e hne => (f1 b o' n c e (by simpa using hne)).1, (hl.sub sub03).keep (fp := fun b => b = o) (u4.keep rfl) fun b o' n c e hne => (hv b o' n c e (by simpa using hne)).1, (sub03.keep).trans (u4.keep (.inl rfl))⟩
    have q1 : ∀ b o n c, vM' = .slc b o n c 1 → l ≠ [] → b ≠ rb := fun b o' n c e hne => (f1 b o' n c e hne).2
    have q2 : ∀ b o n c, v = .slc b o n c 1 → l ≠ [] → b ≠ rb := fun b o' n c e hne => (hv b o' n c e hne).2
    -- clearing
    refine ⟨fun ys s5 n => ∃ i : Nat, ys = [.int .i64 i] ∧ i ≤ B.length ∧ n = B.length - i ∧ Rst s1 s5 o rb B.length vM' v l (clr l (B.take i) ++ B.drop i), ⟨_, 0, rfl, by omega, rfl, r4⟩, ?_⟩
    rintro f s5 n ⟨i, hy, hi, rfl, r5⟩
    simp only [List.cons.injEq, and_true] at hy
    rw [hy]
    simp only [vc_leafmeshref11_Wheel_Set_l3, nilCheck_ptr, addOff_ptr, rd1_mk r5.ob, Nat.zero_add, List.getElem?_cons_zero, List.getElem?_cons_succ, lenOf_slc, optK_mk, arith_lss]
    refine boolK_mk (fun hlt => ?_) (fun hge => ?_)
    · have hlt : i < B.length := by have := of_decide_eq_true hlt; omega
      have ec : (clr l (B.take i)).length = i := by rw [clr_len, List.length_take, Nat.min_eq_left hi]
      have el : B.drop i = B[i] :: B.drop (i + 1) := List.drop_eq_getElem_cons hlt
      have et : B.take (i + 1) = B.take i ++ [B[i]] := List.take_succ_eq_append_getElem hlt
      have hiA : i < (clr l (B.take i) ++ B.drop i).length := by rw [r5.ln]; exact hlt
      have hAi : (clr l (B.take i) ++ B.drop i)[i] = B[i] := by
        rw [List.getElem_append_right (by rw [ec]; omega)]
        simp [ec]
      have hbr := hr _ (List.getElem_mem hlt)
      simp only [rb_addr hlt, rb_at2 r5.rs hiA, hAi, optK_mk]
      refine is_in r5.vs hlen ?_
      simp only [unary_not, optK_mk]
      have fin : ∀ s6, Rst s1 s6 o rb B.length vM' v l (clr l (B.take (i + 1)) ++ B.drop (i + 1)) → vc_leafmeshref11_Wheel_Set_j4 XX (.int .i64 (i : Int)) (fun ys s5 n => ∃ i : Nat, ys = [.int .i64 i] ∧ i ≤ B.length ∧ n = B.length - i ∧ Rst s1 s5 o rb B.length vM' v l (clr l (B.take i) ++ B.drop i)) (B.length - i) K s6 := by
        intro s6 r6
        simp only [vc_leafmeshref11_Wheel_Set_j4, arith_add, optK_mk]
        rw [wrap64 (by omega) (by omega)]
        exact ⟨_, by omega, i + 1, rfl, by omega, rfl, r6⟩
      by_cases hin : B[i] - 1 ∈ l
      · rw [decide_eq_true hin]
        simp only [Bool.not_true, boolK_false]
        refine fin s5 ?_
        have : clr l (B.take (i + 1)) ++ B.drop (i + 1) = clr l (B.take i) ++ B.drop i := by
          rw [et, el]; unfold clr
          rw [List.map_append, List.map_singleton, if_pos hin, List.append_assoc]; rfl
        rw [this]; exact r5
      · rw [decide_eq_false hin]
        simp only [Bool.not_false, boolK_true, nilCheck_ptr, addOff_ptr, rd1_mk r5.ob, Nat.zero_add, List.getElem?_cons_zero, List.getElem?_cons_succ, optK_mk, rb_addr hlt]
        refine wr1_step r5.rs (by rw [List.length_map, List.length_map]; exact hiA) rfl fun s6 h6 u6 => ?_
        refine fin s6 ?_
        have r6 := r5.set (i := i) u6 h6 q1 q2
        have : clr l (B.take (i + 1)) ++ B.drop (i + 1) = (clr l (B.take i) ++ B.drop i).set i (-1 + 1) := by
          rw [List.set_append_right _ _ (by rw [ec]; omega), ec, Nat.sub_self, el, List.set_cons_zero, et]
          unfold clr
          rw [List.map_append, List.map_singleton, if_neg hin, List.append_assoc]; rfl
        rw [this]; exact r6
    · have hge : i = B.length := by have := of_decide_eq_false hge; omega
      subst hge
      rw [List.take_length, List.drop_length, List.append_nil] at r5
      have done : ∀ s9 A, Rst s1 s9 o rb B.length vM' v l A → Aft l B A → K (.int .i64 0) s9 := fun s9 A r9 aft => hK s9 vM' A ha hlB ⟨by rw [r9.ln]; exact r9.ob, r9.rs, r9.ms, by rw [r9.ln]; exact hp, ha, by rw [r9.ln]; exact hlB⟩ aft r9.kp hM.2
      simp only [lenV, optK_mk, eqV_int, negB_mk, Bool.false_bne]
      refine boolK_mk (fun hz => ?_) (fun hz => ?_)
      · have hz := eq_of_beq hz
        have e0 : l = [] := List.length_eq_zero_iff.1 (by omega)
        subst e0
        exact done s5 _ r5 ⟨fun _ => rfl, .refl, fun h => absurd rfl h, fun a ha => by simp at ha⟩
      have hne : l ≠ [] := fun e => by rw [e] at hz; simp at hz
      -- filling
      refine ⟨fun ys s6 n => ∃ (i : Nat) (A : List Int), ys = [.int .i64 i] ∧ i ≤ B.length ∧ n = B.length - i ∧ Rst s1 s6 o rb B.length vM' v l A ∧ Rch l (clr l B) A ∧ (∀ k (hk : k < A.length), k < i → A[k] ≠ 0) ∧ (∀ b ∈ A, 0 ≤ b ∧ b ≤ 128), ⟨_, 0, _, rfl, by omega, rfl, r5, .refl, fun k hk h => by omega, fun b hb => ?_⟩, ?_⟩
      · rcases clr_elt b hb with h | h
        · omega
        · have := ha.2 _ h; omega
      rintro f s6 n ⟨i, A, hy, hi, rfl, r6, rc, nz, rg⟩
      simp only [List.cons.injEq, and_true] at hy
      rw [hy]
      have hAl := r6.ln
      simp only [vc_leafmeshref11_Wheel_Set_l5, nilCheck_ptr, addOff_ptr, rd1_mk r6.ob, Nat.zero_add, List.getElem?_cons_zero, List.getElem?_cons_succ, lenOf_slc, optK_mk, arith_lss]
      refine boolK_mk (fun hlt => ?_) (fun hge => ?_)
      · have hlt : i < B.length := by have := of_decide_eq_true hlt; omega
        have hiA : i < A.length := by omega
        have hbr := rg _ (List.getElem_mem hiA)
        have fin : ∀ s7 A7, Rst s1 s7 o rb B.length vM' v l A7 → Rch l (clr l B) A7 → (∀ k (hk : k < A7.length), k < i + 1 → A7[k] ≠ 0) → (∀ b ∈ A7, 0 ≤ b ∧ b ≤ 128) → vc_leafmeshref11_Wheel_Set_j6 XX (.int .i64 (i : Int)) (fun ys s6 n => ∃ (i : Nat) (A : List Int), ys = [.int .i64 i] ∧ i ≤ B.length ∧ n = B.length - i ∧ Rst s1 s6 o rb B.length vM' v l A ∧ Rch l (clr l B) A ∧ (∀ k (hk : k < A.length), k < i → A[k] ≠ 0) ∧ (∀ b ∈ A, 0 ≤ b ∧ b ≤ 128)) (B.length - i) K s7 := by
          intro s7 A7 a1 a2 a3 a4
          simp only [vc_leafmeshref11_Wheel_Set_j6, arith_add, optK_mk]
          rw [wrap64 (by omega) (by omega)]
          exact ⟨_, by omega, i + 1, A7, rfl, by omega, rfl, a1, a2, a3, a4⟩
        simp only [rb_addr hlt, rb_at2 r6.rs hiA, optK_mk, arith_lss]
        refine boolK_mk (fun hneg => ?_) (fun hneg => ?_)
        · have h0 : A[i] = 0 := by have := of_decide_eq_true hneg; omega
          refine least_in ((r6.rd hp ha hlB).frz) hne fun t ht tmin ttie _ => ?_
          rw [add_frz]
          have htr := ha.2 t ht
          refine wr1_step r6.rs (by rw [List.length_map, List.length_map]; exact hiA) rfl fun s7 h7 u7 => ?_
          refine fin s7 _ (r6.set (i := i) u7 h7 q1 q2) (rc.tail (.fill hiA h0 ht tmin (fun k hk hki => nz k hk hki) ttie)) (fun k hk hki => ?_) (fun b hb => ?_)
          · rw [List.getElem_set]
            split
            · omega
            · exact nz k (by simpa using hk) (by omega)
          · rcases List.mem_or_eq_of_mem_set hb with h | rfl
            · exact rg b h
            · omega
        · have hneg := of_decide_eq_false hneg
          refine fin s6 A r6 rc (fun k hk hki => ?_) rg
          by_cases e : k = i
          · subst e; omega
          · exact nz k hk (by omega)
      · have hge : i = B.length := by have := of_decide_eq_false hge; omega
        subst hge
        have nz0 : ∀ b ∈ A, b ≠ 0 := fun b hb => by
          obtain ⟨k, hk, rfl⟩ := List.getElem_of_mem hb
          exact nz k hk (by omega)
        -- balancing
        refine ⟨fun ys s7 n => ∃ A : List Int, ys = [] ∧ n = pot l A ∧ Rst s1 s7 o rb B.length vM' v l A ∧ Rch l (clr l B) A ∧ (∀ b ∈ A, b ≠ 0), ⟨_, A, rfl, rfl, r6, rc, nz0⟩, ?_⟩
        rintro f s7 n ⟨A, _, rfl, r7, rc, nz⟩
        have hAl := r7.ln
        have rd7 := r7.rd hp ha hlB
        have elt : ∀ b ∈ A, b - 1 ∈ l := fun b hb => by
          rcases rc.elt b hb with h | h
          · rcases clr_elt b h with h | h
            · exact absurd h (nz b hb)
            · exact h
          · exact h
        unfold vc_leafmeshref11_Wheel_Set_l7
        refine rmost_in rd7 hne fun fr hfr fmax ftie => ?_
        have hf := ha.2 fr hfr
        refine rLoad_in rd7 hf (least_in rd7 hne fun t ht tmin ttie => ?_)
        have htr := ha.2 t ht
        refine rLoad_in rd7 htr ?_
        have lf : ld A fr ≤ A.length := ld_le _ _
        have lt : ld A t ≤ A.length := ld_le _ _
        simp only [arith_sub, optK_mk]
        rw [wrap64 (by omega) (by omega)]
        simp only [arith_gtr, optK_mk]
        refine boolK_mk (fun hg => ?_) (fun hg => ?_)
        · have hg := of_decide_eq_true hg
          refine rmost_in rd7 hne fun fr' hfr' fmax' ftie' => least_in rd7 hne fun t' ht' tmin' ttie' => ?_
          have e1 : fr' = fr := by
            have a1 := fmax fr' hfr'; have a2 := fmax' fr hfr
            have a3 := ftie fr' hfr' (by omega); have a4 := ftie' fr hfr (by omega)
            omega
          have e2 : t' = t := by
            have a1 := tmin t' ht'; have a2 := tmin' t ht
            have a3 := ttie t' ht' (by omega); have a4 := ttie' t ht (by omega)
            omega
          subst e1; subst e2
          have hin : fr' + 1 ∈ A := by
            have : 0 < ld A fr' := by omega
            exact List.count_pos_iff.1 this
          refine ⟨fun ys s8 n => ∃ (i p : Nat), ys = [.int .i64 p, .int .i64 i] ∧ s8 = s7 ∧ i ≤ A.length ∧ n = A.length - i ∧ p < A.length ∧ (∀ k (hk : k < A.length), k < i → A[k] = fr' + 1 → k ≤ p) ∧ ((∃ k, ∃ hk : k < A.length, k < i ∧ A[k] = fr' + 1) → ∀ hp : p < A.length, A[p] = fr' + 1), ⟨_, 0, 0, rfl, rfl, by omega, rfl, by omega, fun k hk h => by omega, fun ⟨k, hk, h, _⟩ => by omega⟩, ?_⟩
          rintro f s8 n ⟨i, p, hy, rfl, hi, rfl, hpA, hl1, hl2⟩
          simp only [List.cons.injEq, and_true] at hy
          rw [hy.1, hy.2]
          simp only [vc_leafmeshref11_Wheel_Set_l8, nilCheck_ptr, addOff_ptr, rd1_mk r7.ob, Nat.zero_add, List.getElem?_cons_zero, List.getElem?_cons_succ, lenOf_slc, optK_mk, arith_lss]
          refine boolK_mk (fun hlt => ?_) (fun hge => ?_)
          · have hlt : i < B.length := by have := of_decide_eq_true hlt; omega
            have hiA : i < A.length := by omega
            simp only [rb_addr hlt, rb_at2 r7.rs hiA, optK_mk, eqV_int, negB_mk, Bool.false_bne]
            cases hq : (A[i] - 1 == fr') with
            | true =>
              have hq := eq_of_beq hq
              simp only [boolK_true, vc_leafmeshref11_Wheel_Set_j9, arith_add, optK_mk]
              rw [wrap64 (by omega) (by omega)]
              exact ⟨_, by omega, i + 1, i, rfl, by trivial, by omega, rfl, hiA, fun k hk h _ => by omega, fun _ _ => by omega⟩
            | false =>
              have hq : A[i] - 1 ≠ fr' := fun e => by rw [e] at hq; simp at hq
              simp only [boolK_false, vc_leafmeshref11_Wheel_Set_j9, arith_add, optK_mk]
              rw [wrap64 (by omega) (by omega)]
              refine ⟨_, by omega, i + 1, p, rfl, by trivial, by omega, rfl, hpA, fun k hk h e => ?_, fun ⟨k, hk, h, e⟩ => hl2 ⟨k, hk, ?_, e⟩⟩
              · by_cases e2 : k = i
                · subst e2; omega
                · exact hl1 k hk (by omega) e
              · by_cases e2 : k = i
                · subst e2; omega
                · omega
          · have hge : i = A.length := by have := of_decide_eq_false hge; omega
            subst hge
            obtain ⟨k0, hk0, ek0⟩ := List.getElem_of_mem hin
            have hAp := hl2 ⟨k0, hk0, hk0, ek0⟩ hpA
            simp only [rb_addr (show p < B.length by omega), optK_mk]
            refine wr1_step r7.rs (by rw [List.length_map, List.length_map]; exact hpA) rfl fun s9 h9 u9 => ?_
            have stp : Stp l A (A.set p (t' + 1)) := .move hpA hAp hfr ht tmin fmax (by omega) nz (fun k hk hpk e => by have := hl1 k hk hk e; omega) ttie ftie
            have hft : fr' ≠ t' := by rintro rfl; omega
            have l1 : ∀ a, ld (A.set p (t' + 1)) a + (if fr' = a then 1 else 0) = ld A a + (if t' = a then 1 else 0) := fun a => by
              have := ld_set (B := A) (i := p) (v := t' + 1) (m := a) hpA
              rw [hAp] at this
              have e1 : (if fr' + 1 = a + 1 then 1 else 0) = (if fr' = a then 1 else 0) := by split <;> split <;> omega
              have e2 : (if t' + 1 = a + 1 then 1 else 0) = (if t' = a then 1 else 0) := by split <;> split <;> omega
              rw [e1, e2] at this
              exact this
            refine ⟨pot l (A.set p (t' + 1)), pot_less ha.nodup hfr ht (by omega) ?_ ?_ ?_, _, by trivial, rfl, r7.set (i := p) u9 h9 q1 q2, rc.tail stp, fun b hb => ?_⟩
            · have := l1 fr'; rw [if_pos rfl, if_neg (fun e => hft e.symm)] at this; exact this
            · have := l1 t'; rw [if_neg hft, if_pos rfl] at this; exact this
            · intro m hm h1 h2
              have := l1 m; rw [if_neg (Ne.symm h1), if_neg (Ne.symm h2)] at this; exact this
            · rcases List.mem_or_eq_of_mem_set hb with h | rfl
              · exact nz b h
              · omega
        · have hg := of_decide_eq_false hg
          exact done s7 A r7 ⟨fun e => absurd e hne, rc, fun _ => elt, fun a ha2 c hc => by
            have := fmax a ha2; have := tmin c hc; omega⟩
end Go.AM
namespace Go.AM
open Go Go.Proofs
variable {K : AVal → Heap → Prop} {s s' : Heap} {w bb o rb : Nat} {mv vM : AVal} {cap : Option Nat} {B M l : List Int}
theorem pickR_eq (B M : List Int) (h : Int) : ∃ x b, pickR B M h = .tup [.int .i64 x, .bool b] := by
  unfold pickR
  split
  · exact ⟨_, _, rfl⟩
  · exact ⟨_, _, rfl⟩
theorem WAt.keepB {fp : Nat → Prop} (h : WAt s w bb mv cap B M) (k : KeepBut fp s s') (h1 : ¬ fp w) (h2 : ¬ fp bb) (h3 : ∀ b o n c, mv = .slc b o n c 1 → M ≠ [] → ¬ fp b) : WAt s' w bb mv cap B M :=
  ⟨k _ _ h.wb h1, k _ _ h.bs h2, h.ms.keep k fun b o n c e hne => h3 b o n c e (by simpa using hne), h.cp, h.pos⟩
theorem RAt.keepB {fp : Nat → Prop} (h : RAt s o rb vM B M) (k : KeepBut fp s s') (h1 : ¬ fp o) (h2 : ¬ fp rb) (h3 : ∀ b o n c, vM = .slc b o n c 1 → M ≠ [] → ¬ fp b) : RAt s' o rb vM B M :=
  ⟨k _ _ h.ob h1, k _ _ h.rs h2, h.ms.keep k fun b o n c e hne => h3 b o n c e (by simpa using hne), h.pos, h.asc, h.len⟩
/-- cells of a slice of one's own are overwritten -/
theorem same_in {h : Int} (z : WAt s w bb mv cap B M) (r : RAt s o rb vM B M) (hr : ∀ b ∈ B, 0 ≤ b ∧ b ≤ 128) (hh : 0 ≤ h) (hK : ∀ s', Sub s s' → K (.bool true) s') : wpCall Try.prog XX 26 [.ptr w 0, .ptr o 0, .int .u64 h] K s := by
  have hp := z.pos
  have hlM := r.len
  refine vc_leafmeshlaw11_same_in (Buckets_in z (fun b hb => by have := hr b hb; omega) fun vb s2 sub2 slb hcb => ?_)
  obtain ⟨cb, hcb1, rfl, hcb3⟩ := hcb
  have z2 := z.sub sub2
  have r2 := r.sub sub2
  refine Members_in z2 (by omega) fun vm s3 sub3 slm hcm => ?_
  have z3 := z2.sub sub3
  have r3 := r2.sub sub3
  have slb3 := slb.sub sub3
  have hcb4 := sub3 _ _ hcb3
  have sub03 := sub2.trans sub3
  have slR : Sli s3 (.slc rb 0 B.length none 1) (outB B) := Sl.mk r3.rs (by simp) (by simp)
  simp only [nilCheck_ptr, addOff_ptr, rd1_mk r3.ob, Nat.zero_add, List.getElem?_cons_zero, List.getElem?_cons_succ, optK_mk]
  refine Same_in slb3 slR (by simp; omega) ?_
  simp only [beq_self_eq_true, unary_not, Bool.not_true, optK_mk, boolK_false, rd1_mk r3.ob, List.getElem?_cons_zero]
  refine Same_in slm r3.ms (by omega) ?_
  simp only [beq_self_eq_true, unary_not, Bool.not_true, optK_mk, vc_leafmeshlaw11_same_j0, pickV_false, boolK_false]
  -- the blocks that are overwritten
  have old : ∀ b, s b ≠ none → b ≠ cb ∧ ∀ c, s2 c = none → b ≠ c := fun b hb => ⟨fun e => hb (by rw [e]; exact hcb1), fun c hc e => by
    cases q : s b with
    | none => exact hb q
    | some x => have := sub2 b x q; rw [e, hc] at this; cases this⟩
  refine ⟨fun ys s4 n => ∃ (i : Nat) (L : List Int), ys = [.int .i64 i] ∧ i ≤ B.length ∧ n = B.length - i ∧ s4 cb = some (false, .cells 3 (ints L)) ∧ L.length = B.length ∧ KeepBut (fun b => b = cb) s3 s4, ⟨_, 0, outB B, rfl, by omega, rfl, hcb4, by simp, fun i e hi _ => hi⟩, ?_⟩
  rintro f s4 n ⟨i, L, hy, hi, rfl, h4, hL, k4⟩
  simp only [List.cons.injEq, and_true] at hy
  rw [hy]
  simp only [vc_leafmeshlaw11_same_l1, lenOf_slc, optK_mk, arith_lss]
  refine boolK_mk (fun hlt => ?_) (fun hge => ?_)
  · have hlt : i < B.length := by have := of_decide_eq_true hlt; omega
    simp only [b_addr hlt, optK_mk]
    refine wr1_step h4 (by rw [List.length_map]; omega) rfl fun s5 h5 u5 => ?_
    rw [ints_set] at h5
    simp only [arith_add, optK_mk]
    rw [wrap64 (by omega) (by omega)]
    exact ⟨_, by omega, i + 1, _, rfl, by omega, rfl, h5, by simpa using hL, k4.trans (u5.keep rfl)⟩
  · have subOf : ∀ {t : Heap}, KeepBut (fun b => b = cb ∨ s2 b = none) s3 t → Sub s t := fun {t} k b e hb => k b e (sub03 b e hb) fun h => by
      have := old b (by rw [hb]; exact Option.some_ne_none _)
      rcases h with h | h
      · exact this.1 h
      · exact this.2 b h rfl
    have lenM : lenOfA vm = some M.length := by rw [slm.len, List.length_map]
    refine ⟨fun ys s5 n => ∃ (i : Nat), ys = [.int .i64 i] ∧ i ≤ M.length ∧ n = M.length - i ∧ KeepBut (fun b => b = cb ∨ s2 b = none) s3 s5 ∧ (M ≠ [] → ∃ c L, s2 c = none ∧ vm = .slc c 0 M.length none 1 ∧ s5 c = some (false, .cells 3 (ints L)) ∧ L.length = M.length), ⟨_, 0, rfl, by omega, rfl, k4.mono fun b e => .inl e, fun hne => ?_⟩, ?_⟩
    · obtain ⟨c, c1, c2, c3⟩ := hcm hne
      refine ⟨c, M, c1, c2, k4 _ _ c3 fun e => ?_, rfl⟩
      have := hcb3
      rw [← e, c1] at this; cases this
    rintro f s5 n ⟨i, hy, hi, rfl, k5, hm5⟩
    simp only [List.cons.injEq, and_true] at hy
    rw [hy]
    have sub5 := subOf k5
    have z5 := z.sub sub5
    have r5 := r.sub sub5
    simp only [vc_leafmeshlaw11_same_l2, lenM, optK_mk, arith_lss]
    refine boolK_mk (fun hlt => ?_) (fun hge => ?_)
    · have hlt : i < M.length := by have := of_decide_eq_true hlt; omega
      have hM : M ≠ [] := fun e => by rw [e] at hlt; simp at hlt
      obtain ⟨p, g1, g2⟩ := sli_at r5.ms hlt
      have hmr := r.asc.2 _ (List.getElem_mem hlt)
      simp only [nilCheck_ptr, addOff_ptr, rd1_mk r5.ob, Nat.zero_add, List.getElem?_cons_zero, optK_mk, g1, g2]
      refine Load_rd (frz_some z5.wb) (frz_some z5.bs) z5.pos hmr fun _ => ?_
      rw [add_frz, cut_refl]
      simp only [rd1_mk r5.ob, List.getElem?_cons_zero, optK_mk, g1, g2]
      refine rLoad_in r5.rd hmr ?_
      obtain ⟨c, L, c1, c2, c3, c4⟩ := hm5 hM
      subst c2
      simp only [eqV_int, negB_mk, beq_self_eq_true, Bool.true_bne, Bool.not_true, optK_mk, boolK_false, b_addr hlt]
      refine wr1_step c3 (by rw [List.length_map]; omega) rfl fun s6 h6 u6 => ?_
      rw [ints_set] at h6
      simp only [arith_add, optK_mk]
      rw [wrap64 (by omega) (by omega)]
      exact ⟨_, by omega, i + 1, rfl, by omega, rfl, k5.trans (u6.keep (.inr c1)), fun _ => ⟨c, _, c1, rfl, h6, by simpa using c4⟩⟩
    · obtain ⟨x, b, e⟩ := pickR_eq B M h
      refine Pick_w z5 (by omega) hr hh ?_
      rw [e]
      simp only [extract0, extract1, optK_mk]
      refine rPick_in r5.rd hh ?_
      rw [e]
      simp only [extract0, extract1, optK_mk, eqV_int, eqV_bool, negB_mk, beq_self_eq_true, Bool.false_bne, boolK_true, vc_leafmeshlaw11_same_j3, pickV_true]
      refine Load_out z5 (.inl (by decide)) ?_
      simp only [eqV_int, negB_mk, beq_self_eq_true, Bool.false_bne, optK_mk, boolK_true, vc_leafmeshlaw11_same_j4, pickV_true]
      refine Load_out z5 (.inr (by decide)) ?_
      simp only [eqV_int, negB_mk, beq_self_eq_true, Bool.false_bne, optK_mk, vc_leafmeshlaw11_same_j5, pickV_true]
      exact hK _ sub5
end Go.AM
namespace Go.AM
open Go Go.Proofs
variable {K : AVal → Heap → Prop} {s0 s s' : Heap} {w bb o rb : Nat} {mv vM : AVal} {cap : Option Nat} {B M l row : List Int}
theorem Sl.was {v : AVal} {l : List AVal} (h : Sl s v l) : ∀ b o n c, v = .slc b o n c 1 → l ≠ [] → s b ≠ none := by
  intro b o n c e hne
  rcases h with ⟨h1, _⟩ | ⟨b', o', c', h1, _, h3⟩
  · rw [h1] at e; cases e
  · rw [h1] at e; injection e with e1
    obtain ⟨t, el, cs, h4, _⟩ := h3 hne
    rw [← e1, h4]; exact Option.some_ne_none _
theorem Sli.was {v : AVal} (h : Sli s v l) : ∀ b o n c, v = .slc b o n c 1 → l ≠ [] → s b ≠ none := fun b o n c e hne => Sl.was h b o n c e (by simpa using hne)
/-- a wheel and the reference's, in the same state -/
structure Pair (s0 s : Heap) (w bb : Nat) (mv : AVal) (cap : Option Nat) (o rb : Nat) (vM : AVal) (B M : List Int) : Prop where
  wa : WAt s w bb mv cap B M
  ra : RAt s o rb vM B M
  rg : ∀ b ∈ B, 0 ≤ b ∧ b ≤ 128
  sub : Sub s0 s
  fw : s0 w = none
  fb : s0 bb = none
  fo : s0 o = none
  fr : s0 rb = none
  ne : rb ≠ bb
  mf : ∀ b o' n c, mv = .slc b o' n c 1 → M ≠ [] → b ≠ o ∧ b ≠ rb ∧ s0 b = none
  vf : ∀ b o' n c, vM = .slc b o' n c 1 → M ≠ [] → b ≠ w ∧ b ≠ bb ∧ s0 b = none
theorem Pair.to {s' : Heap} (h : Pair s0 s w bb mv cap o rb vM B M) (hs : Sub s s') : Pair s0 s' w bb mv cap o rb vM B M := ⟨h.wa.sub hs, h.ra.sub hs, h.rg, h.sub.trans hs, h.fw, h.fb, h.fo, h.fr, h.ne, h.mf, h.vf⟩
theorem apart_wo (h1 : WAt s w bb mv cap B M) (h2 : RAt s o rb vM B M) : o ≠ w ∧ o ≠ bb ∧ rb ≠ w := by
  refine ⟨?_, ?_, ?_⟩
  · rintro rfl; have := h1.wb; rw [h2.ob] at this; cases this
  · rintro rfl; have := h1.bs; rw [h2.ob] at this; cases this
  · rintro rfl; have := h1.wb; rw [h2.rs] at this; cases this
theorem u64_nn (n : Int) : 0 ≤ IntKind.u64.wrap n := by
  rw [← wrapK_eq, wu64]
  exact Int.emod_nonneg _ (by omega)
/-- the initial heap's blocks -/
def hideH (s0 s : Heap) : Heap := fun b => match s0 b with
  | some _ => s b
  | none => none
theorem hide_no {b : Nat} (h : s0 b = none) : hideH s0 s b = none := by unfold hideH; rw [h]
theorem hide_yes {b : Nat} (h : s0 b ≠ none) : hideH s0 s b = s b := by
  unfold hideH
  cases e : s0 b with
  | none => exact absurd e h
  | some x => rfl
theorem hid_out {b : Nat} (h : s0 b = none) : minus s (hideH s0 s) b = s b := by unfold minus; rw [if_pos (hide_no h)]
theorem hid_in {b : Nat} (h : s0 b ≠ none) : minus s (hideH s0 s) b = none := by
  unfold minus
  rw [hide_yes h]
  split
  · assumption
  · rfl
theorem hid_keep : KeepBut (fun b => s0 b ≠ none) s (minus s (hideH s0 s)) := fun b e hb hn => by rw [hid_out (by simpa using hn)]; exact hb
theorem hid_sub : Sub (minus s (hideH s0 s)) s := fun b e hb => by
  unfold minus at hb
  split at hb
  · exact hb
  · cases hb
theorem rest_keep {fp : Nat → Prop} {r t : Heap} (hr : Sub r s) (k : KeepBut fp r t) (g : ∀ b, s b ≠ none → r b = none → t b = none) : KeepBut fp s (add t (rest s r)) := fun b e hb hn => by
  cases q : r b with
  | some x =>
    have e1 := hr b x q
    rw [hb] at e1; cases e1
    exact add_some (k b e q hn)
  | none =>
    rw [add_none (g b (by rw [hb]; exact Option.some_ne_none _) q)]
    unfold rest
    rw [if_pos q]; exact hb
/-- what stands behind the two calls -/
theorem turn3 {h : Int} {lv vin : AVal} {ll : List (AVal × List Int)} {i cin : Nat} {e : Int} {I : List AVal → Heap → Nat → Prop} {m : Nat} (hll : Sll s0 lv ll) (hi : i < ll.length) (hi2 : ll.length ≤ 12) (hrow : ll[i].2 = row) (hlen : row.length ≤ 140) (hh : 0 ≤ h)
    (P : Pair s0 s w bb mv cap o rb vM B M) (hin : Sli s vin row) (hc : row ≠ [] → vin = .slc cin 0 row.length none 1 ∧ s cin = some (false, .cells 3 (ints row)) ∧ s0 cin = none ∧ cin ≠ w ∧ cin ≠ bb ∧ cin ≠ o ∧ cin ≠ rb)
    (h1 : ∀ b o' n c, mv = .slc b o' n c 1 → M ≠ [] → row ≠ [] → b ≠ cin) (h2 : ∀ b o' n c, vM = .slc b o' n c 1 → M ≠ [] → row ≠ [] → b ≠ cin)
    (hK : ∀ s', Pair s0 s' w bb mv cap o rb vM B M → ∃ m', m' < m ∧ I [.ptr w 0, .ptr o 0, .int .i64 ((i + 1 : Nat) : Int)] s' m') :
    optK (negB true (eqV 0 false (.int .i64 e) (.int .i64 e))) fun v_44 => boolK v_44 (vc_leafmeshlaw11_SpreadSets_j3 XX (.int .u64 h) (.ptr w 0) (.ptr o 0) (.int .i64 (i : Int)) vin v_44 .undef I m K s)
      (optK (iaddrS 1 lv (.int .i64 (i : Int))) fun v_58 => optK (rd1 s v_58) fun v_59 => wpCall Try.prog XX 12 [vin, v_59] (fun v_60 s_61 => optK (unaryA .not v_60) fun v_62 => vc_leafmeshlaw11_SpreadSets_j3 XX (.int .u64 h) (.ptr w 0) (.ptr o 0) (.int .i64 (i : Int)) vin v_44 v_62 I m K s_61) s) := by
  obtain ⟨p, g1, g2, g3⟩ := (hll.sub P.sub).at hi
  rw [hrow] at g3
  simp only [eqV_int, negB_mk, beq_self_eq_true, Bool.true_bne, Bool.not_true, optK_mk, boolK_false, g1, g2]
  refine Same_in hin g3 (by omega) ?_
  simp only [beq_self_eq_true, unary_not, Bool.not_true, optK_mk, vc_leafmeshlaw11_SpreadSets_j3, pickV_false, boolK_false]
  have lenI : lenOfA vin = some row.length := by rw [hin.len, List.length_map]
  refine ⟨fun ys s4 n => ∃ (k : Nat), ys = [.int .i64 k] ∧ k ≤ row.length ∧ n = row.length - k ∧ KeepBut (fun b => row ≠ [] ∧ b = cin) s s4 ∧ (row ≠ [] → ∃ L, s4 cin = some (false, .cells 3 (ints L)) ∧ L.length = row.length), ⟨_, 0, rfl, by omega, rfl, fun _ _ h _ => h, fun hne => ⟨row, (hc hne).2.1, rfl⟩⟩, ?_⟩
  rintro f s4 n ⟨k, hy, hk, rfl, k4, h4⟩
  simp only [List.cons.injEq, and_true] at hy
  rw [hy]
  simp only [vc_leafmeshlaw11_SpreadSets_l4, lenI, optK_mk, arith_lss]
  refine boolK_mk (fun hlt => ?_) (fun hge => ?_)
  · have hlt : k < row.length := by have := of_decide_eq_true hlt; omega
    have hne : row ≠ [] := fun e => by rw [e] at hlt; simp at hlt
    obtain ⟨L, hL, hL2⟩ := h4 hne
    rw [(hc hne).1]
    simp only [b_addr hlt, optK_mk]
    refine wr1_step hL (by rw [List.length_map]; omega) rfl fun s5 h5 u5 => ?_
    rw [ints_set] at h5
    simp only [arith_add, optK_mk]
    rw [wrap64 (by omega) (by omega)]
    exact ⟨_, by omega, k + 1, rfl, by omega, rfl, k4.trans (u5.keep ⟨hne, rfl⟩), fun _ => ⟨_, h5, by simpa using hL2⟩⟩
  · have sub4 : Sub s0 s4 := fun b x hb => k4 b x (P.sub b x hb) fun ⟨hne, e⟩ => by rw [e, (hc hne).2.2.1] at hb; cases hb
    have P4 : Pair s0 s4 w bb mv cap o rb vM B M := ⟨P.wa.keepB k4 (fun ⟨hne, e⟩ => (hc hne).2.2.2.1 e.symm) (fun ⟨hne, e⟩ => (hc hne).2.2.2.2.1 e.symm) (fun b o' n c e hM ⟨hne, e2⟩ => h1 b o' n c e hM hne e2),
      P.ra.keepB k4 (fun ⟨hne, e⟩ => (hc hne).2.2.2.2.2.1 e.symm) (fun ⟨hne, e⟩ => (hc hne).2.2.2.2.2.2 e.symm) (fun b o' n c e hM ⟨hne, e2⟩ => h2 b o' n c e hM hne e2), P.rg, sub4, P.fw, P.fb, P.fo, P.fr, P.ne, P.mf, P.vf⟩
    simp only [convI_mk, arith_add, optK_mk]
    refine same_in P4.wa P4.ra P4.rg (u64_nn _) fun s5 sub5 => ?_
    simp only [unary_not, Bool.not_true, optK_mk, boolK_false, arith_add]
    rw [wrap64 (by omega) (by omega)]
    exact hK s5 (P4.to sub5)
theorem turn_in {h : Int} {lv : AVal} {ll : List (AVal × List Int)} {i : Nat} {I : List AVal → Heap → Nat → Prop} {m : Nat} (hll : Sll s0 lv ll) (hi : i < ll.length) (hi2 : ll.length ≤ 12) (hlen : ll[i].2.length ≤ 140) (hh : 0 ≤ h) (P : Pair s0 s w bb mv cap o rb vM B M)
    (hK : ∀ s' mv' vM' B' M', Pair s0 s' w bb mv' cap o rb vM' B' M' → ∃ m', m' < m ∧ I [.ptr w 0, .ptr o 0, .int .i64 ((i + 1 : Nat) : Int)] s' m') :
    vc_leafmeshlaw11_SpreadSets_j2 XX lv (.int .u64 h) (.ptr w 0) (.ptr o 0) (.int .i64 (i : Int)) I m K s := by
  obtain ⟨row, hrow⟩ : ∃ row, ll[i].2 = row := ⟨_, rfl⟩
  rw [hrow] at hlen
  obtain ⟨p, g1, g2, g3⟩ := (hll.sub P.sub).at hi
  have g30 := hll.2 _ (List.getElem_mem hi)
  rw [hrow] at g3 g30
  unfold vc_leafmeshlaw11_SpreadSets_j2
  refine optK_of g1 (optK_of g2 ?_)
  refine Own_in g3 (by omega) fun vin s6 sub6 own => ?_
  obtain ⟨cin, hcin⟩ : ∃ cin, row ≠ [] → s cin = none ∧ vin = .slc cin 0 row.length none 1 ∧ s6 cin = some (false, .cells 3 (ints row)) := by
    by_cases e : row = []
    · exact ⟨0, fun h => absurd e h⟩
    · rcases own with ⟨h, _⟩ | ⟨_, h⟩ | ⟨c, c1, c2, c3⟩
      · exact absurd (by simpa using h) e
      · exact absurd (by simpa using h) e
      · exact ⟨c, fun _ => ⟨c1, by simpa using c2, c3⟩⟩
  have slin : ∀ t : Heap, (row ≠ [] → t cin = s6 cin) → Sli t vin row := by
    intro t ht
    by_cases e : row = []
    · subst e
      rcases own with ⟨_, b, h⟩ | ⟨h, _⟩ | ⟨c, c1, c2, c3⟩
      · exact .inr ⟨b, 0, some 0, h, by simp, fun h => absurd rfl h⟩
      · exact .inl ⟨h, rfl⟩
      · exact .inr ⟨c, 0, none, c2, by simp, fun h => absurd rfl h⟩
    · obtain ⟨c1, c2, c3⟩ := hcin e
      rw [c2]
      exact Sl.mk ((ht e).trans c3) (by simp) (by simp)
  have P6 := P.to sub6
  obtain ⟨a1, a2, a3⟩ := apart_wo P6.wa P6.ra
  have cin0 : row ≠ [] → s0 cin = none := fun hne => by
    cases q : s0 cin with
    | none => rfl
    | some x => have := P.sub cin x q; rw [(hcin hne).1] at this; cases this
  have cinF : ∀ b, s b ≠ none → row ≠ [] → cin ≠ b := fun b hb hne e => hb (by rw [← e]; exact (hcin hne).1)
  have nw : s w ≠ none := by rw [P.wa.wb]; exact Option.some_ne_none _
  have nb : s bb ≠ none := by rw [P.wa.bs]; exact Option.some_ne_none _
  have no : s o ≠ none := by rw [P.ra.ob]; exact Option.some_ne_none _
  have nr : s rb ≠ none := by rw [P.ra.rs]; exact Option.some_ne_none _
  refine ⟨hideH s0 s6, fun b hb => ?_, ?_⟩
  · intro e
    refine hb ?_
    unfold hideH
    rw [e]
    cases s0 b <;> rfl
  -- what is left when the first call is done
  have step2 : ∀ (e : Int) (s9 : Heap) (mv' : AVal) (B1 M1 : List Int), ChkR row B.length e → WAt s9 w bb mv' cap B1 M1 → KeepBut (fun b => b = w ∨ b = bb) (minus s6 (hideH s0 s6)) s9 → (e ≠ 0 → B1 = B ∧ M1 = M) → (e = 0 → M1 = row ∧ Asc row ∧ Aft row B B1) →
      (∀ b o' n c, mv' = .slc b o' n c 1 → M1 ≠ [] → b ≠ o ∧ b ≠ rb ∧ (row ≠ [] → b ≠ cin)) → (∀ b, s6 b ≠ none → minus s6 (hideH s0 s6) b = none → s9 b = none) →
      optK (iaddrS 1 lv (.int .i64 (i : Int))) fun v_40 => optK (rd1 (cutH [(hideH s0 s6, fullH)] (add s9 (rest s6 (minus s6 (hideH s0 s6))))) v_40) fun v_41 =>
      wpCall Try.prog XX 29 [.ptr o 0, v_41] (fun v_42 s_43 => optK (negB true (eqV 0 false (.int .i64 e) v_42)) fun v_44 => boolK v_44 (vc_leafmeshlaw11_SpreadSets_j3 XX (.int .u64 h) (.ptr w 0) (.ptr o 0) (.int .i64 (i : Int)) vin v_44 .undef I m K s_43)
        (optK (iaddrS 1 lv (.int .i64 (i : Int))) fun v_58 => optK (rd1 s_43 v_58) fun v_59 => wpCall Try.prog XX 12 [vin, v_59] (fun v_60 s_61 => optK (unaryA .not v_60) fun v_62 => vc_leafmeshlaw11_SpreadSets_j3 XX (.int .u64 h) (.ptr w 0) (.ptr o 0) (.int .i64 (i : Int)) vin v_44 v_62 I m K s_61) s_43)) (add s9 (rest s6 (minus s6 (hideH s0 s6)))) := by
    intro e s9 mv' B1 M1 chk wa9 k9 her hok hmv guard
    have kF := rest_keep hid_sub k9 guard
    generalize hF : add s9 (rest s6 (minus s6 (hideH s0 s6))) = F at *
    have waF : WAt F w bb mv' cap B1 M1 := by rw [← hF]; exact wa9.sub sub_add2
    have raF : RAt F o rb vM B M := P6.ra.keepB kF (by rintro (h | h); exact a1 h; exact a2 h) (by rintro (h | h); exact a3 h; exact P.ne h) (fun b o' n c e hM h => by
      have := P.vf b o' n c e hM
      rcases h with h | h
      · exact this.1 h
      · exact this.2.1 h)
    have subF : Sub s0 F := fun b x hb => kF b x (P6.sub b x hb) fun h => by
      rcases h with rfl | rfl
      · rw [P.fw] at hb; cases hb
      · rw [P.fb] at hb; cases hb
    have subC : Sub s0 (cutH [(hideH s0 s6, fullH)] F) := fun b x hb => cut_old (subF b x hb) fun q hq => by
      rw [List.mem_singleton] at hq; subst hq
      show hideH s0 s6 b ≠ none
      rw [hide_yes (by rw [hb]; exact Option.some_ne_none _), P6.sub b x hb]; exact Option.some_ne_none _
    have hmv0 : ∀ b o' n c, mv' = .slc b o' n c 1 → M1 ≠ [] → s0 b = none := by
      intro b o' n c e1 hM
      cases q : s0 b with
      | none => rfl
      | some x =>
        have h1 := Sli.was wa9.ms b o' n c e1 hM
        exact absurd (guard b (by rw [P6.sub b x q]; exact Option.some_ne_none _) (hid_in (by rw [q]; exact Option.some_ne_none _))) h1
    have cF : row ≠ [] → F cin = s6 cin := fun hne => by
      obtain ⟨c1, c2, c3⟩ := hcin hne
      rw [c3]
      exact kF _ _ c3 fun h => by
        rcases h with h | h
        · exact cinF w nw hne h
        · exact cinF bb nb hne h
    obtain ⟨p2, q1, q2, q3⟩ := (hll.sub subC).at hi
    refine optK_of q1 (optK_of q2 ?_)
    have rowF : Sli F ll[i].1 row := g30.sub subF
    have rowNe : ∀ b o' n c, ll[i].1 = .slc b o' n c 1 → row ≠ [] → s0 b ≠ none := Sli.was g30
    -- what is left when the second call is done
    have step3 : ∀ (s3 : Heap) (vM' : AVal), RAt s3 o rb vM' B1 M1 → KeepBut (fun b => b = o ∨ b = rb) F s3 → (∀ b ∈ B1, 0 ≤ b ∧ b ≤ 128) → (∀ b o' n c, vM' = .slc b o' n c 1 → M1 ≠ [] → b ≠ w ∧ b ≠ bb ∧ s0 b = none ∧ (row ≠ [] → b ≠ cin)) →
        optK (negB true (eqV 0 false (.int .i64 e) (.int .i64 e))) fun v_44 => boolK v_44 (vc_leafmeshlaw11_SpreadSets_j3 XX (.int .u64 h) (.ptr w 0) (.ptr o 0) (.int .i64 (i : Int)) vin v_44 .undef I m K s3)
          (optK (iaddrS 1 lv (.int .i64 (i : Int))) fun v_58 => optK (rd1 s3 v_58) fun v_59 => wpCall Try.prog XX 12 [vin, v_59] (fun v_60 s_61 => optK (unaryA .not v_60) fun v_62 => vc_leafmeshlaw11_SpreadSets_j3 XX (.int .u64 h) (.ptr w 0) (.ptr o 0) (.int .i64 (i : Int)) vin v_44 v_62 I m K s_61) s3) := by
      intro s3 vM' ra3 k3 rg3 hvM
      have wa3 : WAt s3 w bb mv' cap B1 M1 := waF.keepB k3 (by rintro (h | h); exact a1 h.symm; exact a3 h.symm) (by rintro (h | h); exact a2 h.symm; exact P.ne h.symm) (fun b o' n c e1 hM h => by
        have := hmv b o' n c e1 hM
        rcases h with h | h
        · exact this.1 h
        · exact this.2.1 h)
      have sub3 : Sub s0 s3 := fun b x hb => k3 b x (subF b x hb) fun h => by
        rcases h with rfl | rfl
        · rw [P.fo] at hb; cases hb
        · rw [P.fr] at hb; cases hb
      have c3 : row ≠ [] → s3 cin = s6 cin := fun hne => by
        obtain ⟨d1, d2, d3⟩ := hcin hne
        rw [d3]
        refine k3 _ _ ((cF hne).trans d3) fun h => ?_
        rcases h with h | h
        · exact cinF o no hne h
        · exact cinF rb nr hne h
      exact turn3 (cin := cin) hll hi hi2 hrow hlen hh ⟨wa3, ra3, rg3, sub3, P.fw, P.fb, P.fo, P.fr, P.ne, fun b o' n c e1 hM => ⟨(hmv b o' n c e1 hM).1, (hmv b o' n c e1 hM).2.1, hmv0 b o' n c e1 hM⟩, fun b o' n c e1 hM => ⟨(hvM b o' n c e1 hM).1, (hvM b o' n c e1 hM).2.1, (hvM b o' n c e1 hM).2.2.1⟩⟩ (slin s3 c3)
        (fun hne => ⟨(hcin hne).2.1, (c3 hne).trans (hcin hne).2.2, cin0 hne, cinF w nw hne, cinF bb nb hne, cinF o no hne, cinF rb nr hne⟩) (fun b o' n c e1 hM hne => (hmv b o' n c e1 hM).2.2 hne) (fun b o' n c e1 hM hne => (hvM b o' n c e1 hM).2.2.2 hne) fun s' P' => hK s' mv' vM' B1 M1 P'
    refine rSet_in raF rowF (by omega) P.rg (fun b o' n c e1 hne => ⟨fun e2 => rowNe b o' n c e1 hne (e2 ▸ P.fo), fun e2 => rowNe b o' n c e1 hne (e2 ▸ P.fr)⟩) (fun e' chk' hne' => ?_) (fun s3 vM' B' ha' hl' ra3 aft3 k3 hf3 => ?_)
    · have ee := chk.uniq chk'
      subst ee
      obtain ⟨rfl, rfl⟩ := her hne'
      refine step3 F vM raF (fun _ _ h _ => h) P.rg fun b o' n c e1 hM => ?_
      have := P.vf b o' n c e1 hM
      refine ⟨this.1, this.2.1, this.2.2, fun hne e2 => ?_⟩
      exact cinF b (Sli.was P.ra.ms b o' n c e1 hM) hne e2.symm
    · have ee := chk.uniq (chk_of_asc ha' hl')
      subst ee
      obtain ⟨rfl, ha, aft⟩ := hok rfl
      have eB := aft.uniq ha aft3
      subst eB
      refine step3 s3 vM' ra3 k3 (aft.rg ha) fun b o' n c e1 hM => ?_
      obtain ⟨d, n', k', hd, e2⟩ := hf3 hM
      rw [e2] at e1; injection e1 with e3
      subst e3
      refine ⟨fun e4 => ?_, fun e4 => ?_, ?_, fun hne e4 => ?_⟩
      · rw [e4, waF.wb] at hd; cases hd
      · rw [e4, waF.bs] at hd; cases hd
      · cases q : s0 d with
        | none => rfl
        | some x => rw [subF d x q] at hd; cases hd
      · rw [e4, cF hne, (hcin hne).2.2] at hd; cases hd
  -- the first call
  have waR : WAt (minus s6 (hideH s0 s6)) w bb mv cap B M := P6.wa.keepB hid_keep (by simp [P.fw]) (by simp [P.fb]) (fun b o' n c e hM => by simp [(P.mf b o' n c e hM).2.2])
  have cR : row ≠ [] → minus s6 (hideH s0 s6) cin = s6 cin := fun hne => hid_out (cin0 hne)
  refine Set_full waR (slin _ cR) (by omega) P.rg (fun e chk hne guard => ?_) (fun s9 mv' B' ha' hl' wa9 aft9 k9 hf9 guard => ?_)
  · refine step2 e _ mv B M chk waR (fun _ _ h _ => h) (fun _ => ⟨rfl, rfl⟩) (fun e0 => absurd e0 hne) (fun b o' n c e1 hM => ?_) guard
    have := P.mf b o' n c e1 hM
    exact ⟨this.1, this.2.1, fun hne e2 => cinF b (Sli.was P.wa.ms b o' n c e1 hM) hne e2.symm⟩
  · refine step2 0 s9 mv' B' row (chk_of_asc ha' hl') wa9 k9 (fun h => absurd rfl h) (fun _ => ⟨rfl, ha', aft9⟩) (fun b o' n c e1 hM => ?_) guard
    obtain ⟨d, n', k', hd, e2⟩ := hf9 hM
    rw [e2] at e1; injection e1 with e3
    subst e3
    refine ⟨fun e4 => ?_, fun e4 => ?_, fun hne e4 => ?_⟩
    · rw [e4, hid_out P.fo, P6.ra.ob] at hd; cases hd
    · rw [e4, hid_out P.fr, P6.ra.rs] at hd; cases hd
    · rw [e4, cR hne, (hcin hne).2.2] at hd; cases hd
end Go.AM
namespace Go.AM
open Go Go.Proofs
variable {K : AVal → Heap → Prop} {s0 s s' : Heap} {w bb o rb : Nat} {mv vM : AVal} {cap : Option Nat} {B M l row : List Int}
theorem old_none (h : Sub s s') {b : Nat} (hb : s' b = none) : s b = none := by
  cases e : s b with
  | none => rfl
  | some x => rw [h b x e] at hb; cases hb
/-- every third time a copy goes on -/
theorem copies_in (P : Pair s0 s w bb mv cap o rb vM B M) {f : AVal → AVal → AVal → Heap → Prop}
    (hK : ∀ w' bb' mv' cap' o' rb' vM' s' v, Pair s0 s' w' bb' mv' cap' o' rb' vM' B M → f (.ptr w' 0) (.ptr o' 0) v s') :
    wpCall Try.prog XX 27 [.ptr w 0] (fun v_63 s_64 => wpCall Try.prog XX 28 [.ptr o 0] (fun v_65 s_66 => wpCall Try.prog XX 14 [.ptr w 0, .nilslc] (fun v_67 s_68 => f v_63 v_65 v_67 s_68) s_66) s_64) s := by
  have hlM := P.ra.len
  have hp := P.wa.pos
  refine Copy_w P.wa (by omega) fun w' bb' mv' cap' s1 hw' hb' sub1 wa1 mf1 => ?_
  have P1 := P.to sub1
  refine rCopy_in P1.ra fun o' rb' vM' s2 ho' hr' sub2 ra2 vf2 => ?_
  have P2 := P1.to sub2
  have wa2 := wa1.sub sub2
  have nw : s w ≠ none := by rw [P.wa.wb]; exact Option.some_ne_none _
  have nb : s bb ≠ none := by rw [P.wa.bs]; exact Option.some_ne_none _
  have nw1 : s1 w ≠ none := by rw [P1.wa.wb]; exact Option.some_ne_none _
  have nb1 : s1 bb ≠ none := by rw [P1.wa.bs]; exact Option.some_ne_none _
  have off : ∀ b, s b = none → ¬ (b = w ∨ b = bb) := by
    rintro b h (rfl | rfl)
    · exact nw h
    · exact nb h
  have off1 : ∀ b, s1 b = none → ¬ (b = w ∨ b = bb) := by
    rintro b h (rfl | rfl)
    · exact nw1 h
    · exact nb1 h
  refine Set_full (l := []) P2.wa (.inl ⟨rfl, rfl⟩) (by simp) P.rg (fun e chk hne => absurd (chk.uniq (chk_of_asc ⟨List.Pairwise.nil, by simp⟩ (by simp))) hne) (fun s3 mv3 B3 _ _ _ _ k3 _ => ?_)
  have mfree : ∀ b o' n c, mv' = .slc b o' n c 1 → M ≠ [] → s b = none ∧ s1 b ≠ none := by
    intro b o' n c e hM
    obtain ⟨d, n', k', hd, e2⟩ := mf1 hM
    have h1 := Sli.was wa1.ms b o' n c e hM
    rw [e2] at e; injection e with e3
    subst e3
    exact ⟨hd, h1⟩
  have vfree : ∀ b o' n c, vM' = .slc b o' n c 1 → M ≠ [] → s1 b = none := by
    intro b o' n c e hM
    obtain ⟨d, n', k', hd, e2⟩ := vf2 hM
    rw [e2] at e; injection e with e3
    subst e3
    exact hd
  have sub01 := P.sub.trans sub1
  refine hK w' bb' mv' cap' o' rb' vM' s3 _ ⟨wa2.keepB k3 (off _ hw') (off _ hb') fun b o' n c e hM => off _ (mfree b o' n c e hM).1,
    ra2.keepB k3 (off1 _ ho') (off1 _ hr') fun b o' n c e hM => off1 _ (vfree b o' n c e hM), P.rg, (fun b x hb => k3 b x (P2.sub b x hb) fun h => by
      rcases h with rfl | rfl
      · rw [P.fw] at hb; cases hb
      · rw [P.fb] at hb; cases hb), old_none P.sub hw', old_none P.sub hb', old_none sub01 ho', old_none sub01 hr', fun e => ?_, fun b o2 n c e hM => ?_, fun b o2 n c e hM => ?_⟩
  · have := wa1.bs
    rw [← e, hr'] at this; cases this
  · have := mfree b o2 n c e hM
    exact ⟨fun e2 => this.2 (e2 ▸ ho'), fun e2 => this.2 (e2 ▸ hr'), old_none P.sub this.1⟩
  · have := vfree b o2 n c e hM
    exact ⟨fun e2 => (by rw [e2, wa1.wb] at this; cases this), fun e2 => (by rw [e2, wa1.bs] at this; cases this), old_none sub01 this⟩
theorem Sets_in {a h : Int} {v : AVal} {l : List (AVal × List Int)} (hl : Sll s v l) (hlen : l.length ≤ 9223372036854775807) (hh : 0 ≤ h) : wpCall Try.prog XX 7 [.int .i64 a, v, .int .u64 h] (fun v _ => v = .bool true) s := by
  refine vc_leafmeshlaw11_SpreadSets_in ?_
  have lenL : lenOfA v = some l.length := by rw [hl.1.len, List.length_map]
  simp only [vc_leafmeshlaw11_SpreadSets, lenL, optK_mk, arith_gtr]
  refine boolK_mk (fun _ => wp_closed rfl rfl) (fun h12 => ?_)
  have h12 := of_decide_eq_false h12
  by_cases hn : a < 1 ∨ 256 < a
  · refine New_err hn ?_
    simp only [extract0, extract1, optK_mk]
    refine rNew_err hn ?_
    simp only [extract0, extract1, optK_mk, eqV_int, eqV_nilptr, eqV_bool, negB_mk, beq_self_eq_true, Bool.true_bne, Bool.false_bne, Bool.not_true, boolK_false, boolK_true, vc_leafmeshlaw11_SpreadSets_j0, pickV_false]
    exact wp_closed rfl rfl
  obtain ⟨n, rfl⟩ : ∃ n : Nat, a = n := ⟨a.toNat, by omega⟩
  refine New_in (by omega) (by omega) fun w bb s1 hw hb sub1 wa1 => ?_
  simp only [extract0, extract1, optK_mk]
  refine rNew_in (by omega) (by omega) fun o rb s2 ho hr sub2 ra2 => ?_
  simp only [extract0, extract1, optK_mk, eqV_int, eqV_ptr, eqV_bool, negB_mk, beq_self_eq_true, Bool.true_bne, Bool.false_bne, Bool.not_true, boolK_false, vc_leafmeshlaw11_SpreadSets_j0, pickV_false]
  have P2 : Pair s s2 w bb .nilslc (some n) o rb .nilslc (List.replicate n 0) [] := ⟨wa1.sub sub2, ra2, fun b hb => by rw [(List.mem_replicate.1 hb).2]; omega, sub1.trans sub2, hw, hb, old_none sub1 ho, old_none sub1 hr, fun e => (by
    have := wa1.bs
    rw [← e, hr] at this; cases this), fun _ _ _ _ _ h => absurd rfl h, fun _ _ _ _ _ h => absurd rfl h⟩
  refine same_in P2.wa P2.ra P2.rg hh fun s3 sub3 => ?_
  simp only [unary_not, Bool.not_true, optK_mk, boolK_false]
  refine ⟨fun ys s' m => ∃ (i w bb : Nat) (mv : AVal) (cap : Option Nat) (o rb : Nat) (vM : AVal) (B M : List Int), ys = [.ptr w 0, .ptr o 0, .int .i64 (i : Int)] ∧ i ≤ l.length ∧ m = l.length - i ∧ Pair s s' w bb mv cap o rb vM B M, ⟨_, 0, w, bb, _, _, o, rb, _, _, _, rfl, by omega, rfl, P2.to sub3⟩, ?_⟩
  rintro f s4 m ⟨i, w, bb, mv, cap, o, rb, vM, B, M, hy, hi, rfl, P⟩
  simp only [List.cons.injEq, and_true] at hy
  rw [hy.1, hy.2.1, hy.2.2]
  simp only [vc_leafmeshlaw11_SpreadSets_l1, lenL, optK_mk, arith_lss]
  refine boolK_mk (fun hlt => ?_) (fun _ => wp_closed rfl rfl)
  have hlt : i < l.length := by have := of_decide_eq_true hlt; omega
  obtain ⟨p, g1, g2, g3⟩ := (hl.sub P.sub).at hlt
  refine optK_of g1 (optK_of g2 ?_)
  have lenR : lenOfA l[i].1 = some l[i].2.length := by rw [g3.len, List.length_map]
  refine optK_of lenR ?_
  simp only [arith_gtr, optK_mk]
  refine boolK_mk (fun _ => wp_closed rfl rfl) (fun h140 => ?_)
  have h140 := of_decide_eq_false h140
  have go : ∀ (s5 : Heap) (w bb : Nat) (mv : AVal) (cap : Option Nat) (o rb : Nat) (vM : AVal), Pair s s5 w bb mv cap o rb vM B M → vc_leafmeshlaw11_SpreadSets_j2 XX v (.int .u64 h) (.ptr w 0) (.ptr o 0) (.int .i64 (i : Int)) (fun ys s' m => ∃ (i w bb : Nat) (mv : AVal) (cap : Option Nat) (o rb : Nat) (vM : AVal) (B M : List Int), ys = [.ptr w 0, .ptr o 0, .int .i64 (i : Int)] ∧ i ≤ l.length ∧ m = l.length - i ∧ Pair s s' w bb mv cap o rb vM B M) (l.length - i) (fun v _ => v = .bool true) s5 := by
    intro s5 w bb mv cap o rb vM P5
    exact turn_in hl hlt (by omega) (by omega) hh P5 fun s' mv' vM' B' M' P' => ⟨_, by omega, i + 1, w, bb, mv', cap, o, rb, vM', B', M', rfl, by omega, rfl, P'⟩
  rw [arith_rem (k := .i64) (x := (i : Int)) (y := 3) (by omega)]
  simp only [optK_mk, eqV_int, negB_mk, Bool.false_bne]
  refine boolK_mk (fun _ => ?_) (fun _ => go s4 w bb mv cap o rb vM P)
  exact copies_in P (f := fun a b _ t => vc_leafmeshlaw11_SpreadSets_j2 XX v (.int .u64 h) a b (.int .i64 (i : Int)) _ _ _ t) fun w' bb' mv' cap' o' rb' vM' s' _ P' => go s' w' bb' mv' cap' o' rb' vM' P'
theorem Sets_wp (s : Heap) (xs : List AVal) (h : ArgL Try.prog s 40 [3, 35, 28] xs) : wpCall Try.prog XX 7 xs (fun v _ => v = .bool true) s := by
  obtain ⟨a, b, c, rfl, h1, h2, h3⟩ := argl3 h
  obtain ⟨m, rfl, _⟩ := arg_int (d := 39) Try.underlying3 h1
  obtain ⟨l, hl, hm⟩ := arg_ll (d := 37) h2
  obtain ⟨x, rfl, hx⟩ := arg_int (d := 39) Try.underlying28 h3
  refine Sets_in hl (by unfold maxLen at hm; omega) ?_
  simp [Lit.wf] at hx
  exact hx.1
end Go.AM
