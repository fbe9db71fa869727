/- Part E of a calculus over a small memory that is proved to answer as the program does, and of its use for the functions that the law reaches: see the last part. -/
import Derived.Test.YtcbmjpekogancaaD
namespace Go.AM
open Go Go.Proofs
variable {K : AVal → Heap → Prop} {s s' s0 : Heap} {lv uv : AVal}
/-! ### the reference: which inputs are valid -/
theorem rvalid09_in {n : Int} {L : List RLk} (hl : SlR 3 s lv (L.map rwR)) (hlm : L.length ≤ 9223372036854775807)
    (hK : ∀ s' (e : Int), Sub s s' → (e = 0 ↔ 1 ≤ n ∧ n ≤ 32 ∧ L.length ≤ 128 ∧ ∀ x ∈ L, okL n x) → K (.int .i64 e) s') : wpCall Try.prog XX 68 [.int .i64 n, lv] K s := by
  refine vlref09_Valid_in ?_
  have no : ∀ {s'} {e : Int}, e ≠ 0 → Sub s s' → ¬ (1 ≤ n ∧ n ≤ 32 ∧ L.length ≤ 128 ∧ ∀ x ∈ L, okL n x) → K (.int .i64 e) s' := fun {s' e} he h q => hK s' e h ⟨fun h => absurd h he, fun h => absurd h q⟩
  simp only [vlref09_Valid, arith_lss, arith_gtr, optK_mk]
  by_cases c1 : n < 1
  · rw [decide_eq_true c1]
    simp only [boolK_true, vlref09_Valid_j0, pickV_true, optK_mk]
    exact no (by decide) (.refl s) fun h => by omega
  rw [decide_eq_false c1]
  simp only [boolK_false]
  by_cases c2 : (32 : Int) < n
  · rw [decide_eq_true c2]
    simp only [boolK_true, vlref09_Valid_j0, pickV_false, optK_mk]
    exact no (by decide) (.refl s) fun h => by omega
  rw [decide_eq_false c2]
  simp only [boolK_false, vlref09_Valid_j0, pickV_false, optK_mk, hl.len, List.length_map, arith_gtr]
  by_cases c3 : (128 : Int) < L.length
  · rw [decide_eq_true c3]
    simp only [boolK_true]
    exact no (by decide) (.refl s) fun h => by omega
  rw [decide_eq_false c3]
  simp only [boolK_false]
  refine ⟨fun ys t m => ∃ i : Nat, ys = [.int .i64 i] ∧ i ≤ L.length ∧ m = L.length - i ∧ Sub s t ∧ ∀ x ∈ L.take i, okL n x, ⟨_, 0, rfl, by omega, rfl, .refl s, by simp⟩, ?_⟩
  rintro f t m ⟨i, hy, hi, rfl, ht, hq⟩
  simp only [List.cons.injEq, and_true] at hy
  rw [hy]
  simp only [vlref09_Valid_l1, (hl.sub ht).len, List.length_map, arith_lss, optK_mk]
  refine boolK_mk (fun hlt => ?_) (fun hge => ?_)
  · have hlt : i < L.length := by have := of_decide_eq_true hlt; omega
    obtain ⟨x, hx⟩ : ∃ x, L[i]? = some x := ⟨_, List.getElem?_eq_getElem hlt⟩
    obtain ⟨a, p, c⟩ := x
    obtain ⟨pb, po, e1, e2, _⟩ := (hl.sub ht).get (i := i) (r := rwR (a, p, c)) (by rw [List.getElem?_map, hx]; rfl)
    simp only [e1, e2, optK_mk]
    refine new_step fun be t1 hbe h7 u7 => wrAgg_step h7 rfl rfl rfl fun t2 h8 u8 => ?_
    have h8 : t2 be = some (false, .cells 39 [.int .i64 a, .int .i64 p, .int .i64 c]) := h8
    have subt : Sub t t2 := sub_upto (u7.sub hbe) u8 hbe
    have st2 := ht.trans subt
    have y0 : [AVal.int .i64 a, .int .i64 p, .int .i64 c][0]? = some (.int .i64 a) := rfl
    have y1 : [AVal.int .i64 a, .int .i64 p, .int .i64 c][1]? = some (.int .i64 p) := rfl
    have y2 : [AVal.int .i64 a, .int .i64 p, .int .i64 c][2]? = some (.int .i64 c) := rfl
    have bad : ¬ okL n (a, p, c) → ¬ (1 ≤ n ∧ n ≤ 32 ∧ L.length ≤ 128 ∧ ∀ x ∈ L, okL n x) := fun h q => h (q.2.2.2 _ (List.mem_of_getElem? hx))
    have stop : ∀ t59 t62, pickV t59 (.bool true) t62 = some (.bool true) → ¬ okL n (a, p, c) → vlref09_Valid_j6 XX (.int .i64 (i : Int)) (.ptr be 0) t59 t62 (fun ys t m => ∃ i : Nat, ys = [.int .i64 i] ∧ i ≤ L.length ∧ m = L.length - i ∧ Sub s t ∧ ∀ x ∈ L.take i, okL n x) (L.length - i) K t2 := fun t59 t62 h q => by
      simp only [vlref09_Valid_j6, h, optK_mk, boolK_true]
      exact no (by decide) st2 (bad q)
    simp only [addOff_ptr, Nat.zero_add, rd1_mk h8, y0, optK_mk, arith_lss, arith_geq]
    by_cases d1 : a < 0
    · rw [decide_eq_true d1]
      simp only [boolK_true, vlref09_Valid_j2, vlref09_Valid_j3, vlref09_Valid_j4, vlref09_Valid_j5, pickV_true, optK_mk]
      exact stop _ _ rfl fun h => by have := okD h; omega
    rw [decide_eq_false d1]
    simp only [boolK_false, vlref09_Valid_j2, pickV_false, optK_mk]
    by_cases d2 : n ≤ a
    · rw [decide_eq_true d2]
      simp only [boolK_true, vlref09_Valid_j3, vlref09_Valid_j4, vlref09_Valid_j5, pickV_true, optK_mk]
      exact stop _ _ rfl fun h => by have := okD h; omega
    rw [decide_eq_false d2]
    simp only [boolK_false, vlref09_Valid_j3, pickV_false, optK_mk, addOff_ptr, Nat.zero_add, rd1_mk h8, y1, arith_lss]
    by_cases d3 : p < 0
    · rw [decide_eq_true d3]
      simp only [boolK_true, vlref09_Valid_j4, vlref09_Valid_j5, pickV_true, optK_mk]
      exact stop _ _ rfl fun h => by have := okD h; omega
    rw [decide_eq_false d3]
    simp only [boolK_false, vlref09_Valid_j4, pickV_false, optK_mk, addOff_ptr, Nat.zero_add, rd1_mk h8, y1, arith_geq]
    by_cases d4 : n ≤ p
    · rw [decide_eq_true d4]
      simp only [boolK_true, vlref09_Valid_j4, vlref09_Valid_j5, pickV_true, optK_mk]
      exact stop _ _ rfl fun h => by have := okD h; omega
    rw [decide_eq_false d4]
    simp only [boolK_false, vlref09_Valid_j4, vlref09_Valid_j5, pickV_false, optK_mk, addOff_ptr, Nat.zero_add, rd1_mk h8, y2, arith_lss]
    by_cases d5 : c < 1
    · rw [decide_eq_true d5]
      simp only [boolK_true, vlref09_Valid_j5, pickV_true, optK_mk]
      exact stop _ _ rfl fun h => by have := okD h; omega
    rw [decide_eq_false d5]
    simp only [boolK_false, vlref09_Valid_j5, pickV_false, optK_mk, addOff_ptr, Nat.zero_add, rd1_mk h8, y2, arith_gtr]
    by_cases d6 : 1000 < c
    · rw [decide_eq_true d6]
      exact stop _ _ rfl fun h => by have := okD h; omega
    rw [decide_eq_false d6]
    simp only [vlref09_Valid_j6, pickV_false, boolK_false, addOff_ptr, Nat.zero_add, rd1_mk h8, y0, y1, eqV_int, negB_mk, Bool.false_bne, optK_mk]
    cases d7 : (a == p) with
    | true =>
      have d7 : a = p := by simpa using d7
      simp only [boolK_true]
      exact no (by decide) st2 (bad fun h => (okD h).2.2.1 d7)
    | false =>
    have d7 : a ≠ p := by simpa using d7
    simp only [boolK_false, arith_add, optK_mk]
    rw [wrap64 (by omega) (by omega)]
    refine ⟨_, by omega, i + 1, rfl, by omega, rfl, st2, fun y hy => ?_⟩
    rw [List.take_add_one, hx] at hy
    rcases List.mem_append.1 hy with q | q
    · exact hq y q
    · have : y = (a, p, c) := by simpa using q
      rw [this]
      exact okI ⟨by omega, by omega, d7, by omega, by omega⟩
  · have hge : i = L.length := by have := of_decide_eq_false hge; omega
    subst hge
    rw [List.take_length] at hq
    exact hK t 0 ht ⟨fun _ => ⟨by omega, by omega, by omega, hq⟩, fun _ => rfl⟩
theorem rvalid_in {n x : Int} {L : List RLk} {U : List Bool} (hl : SlR 3 s lv (L.map rwR)) (hlm : L.length ≤ 9223372036854775807) (hu : Sl s uv (U.map AVal.bool))
    (hK : ∀ s' (r : Bool), Sub s s' → (r = true ↔ vld n L U ∧ 0 ≤ x ∧ x < n) → K (.bool r) s') : wpCall Try.prog XX 51 [.int .i64 n, lv, uv, .int .i64 x] K s := by
  refine vlref10_Valid_in (rvalid09_in hl hlm fun s1 e sub1 he => ?_)
  simp only [eqV_int, negB_mk, Bool.true_bne, Bool.false_bne, optK_mk]
  have no : ¬ (vld n L U ∧ 0 ≤ x ∧ x < n) → K (.bool false) s1 := fun q => hK s1 false sub1 ⟨(fun h => by cases h), fun h => absurd h q⟩
  cases c0 : (e == 0) with
  | false =>
    have c0 : e ≠ 0 := by simpa using c0
    simp only [Bool.not_true, Bool.not_false, boolK_false, vlref10_Valid_j0, vlref10_Valid_j1, vlref10_Valid_j2, pickV_false, optK_mk]
    exact no fun h => c0 (he.2 ⟨h.1.1, h.1.2.1, h.1.2.2.1, h.1.2.2.2.2⟩)
  | true =>
  have c0 : e = 0 := by simpa using c0
  obtain ⟨k1, k2, k3, k4⟩ := he.1 c0
  simp only [Bool.not_true, Bool.not_false, boolK_true, (hl.sub sub1).len, (hu.sub sub1).len, List.length_map, optK_mk]
  cases c1 : ((U.length : Int) == (L.length : Int)) with
  | false =>
    have c1 : ¬ (U.length : Int) = L.length := by simpa using c1
    simp only [Bool.not_true, Bool.not_false, boolK_false, vlref10_Valid_j0, vlref10_Valid_j1, vlref10_Valid_j2, pickV_true, pickV_false, optK_mk]
    exact no fun h => by have := h.1.2.2.2.1; omega
  | true =>
  have c1 : (U.length : Int) = L.length := by simpa using c1
  have hv : vld n L U := ⟨k1, k2, k3, by omega, k4⟩
  simp only [Bool.not_true, Bool.not_false, boolK_true, vlref10_Valid_j0, pickV_true, arith_geq, optK_mk]
  by_cases c2 : 0 ≤ x
  · rw [decide_eq_true c2]
    simp only [boolK_true, vlref10_Valid_j1, vlref10_Valid_j2, pickV_true, arith_lss, optK_mk]
    refine hK s1 _ sub1 ⟨fun h => ⟨hv, c2, of_decide_eq_true h⟩, fun h => decide_eq_true h.2.2⟩
  · rw [decide_eq_false c2]
    simp only [boolK_false, vlref10_Valid_j1, vlref10_Valid_j2, pickV_true, pickV_false, optK_mk]
    exact no fun h => c2 h.2.1
end Go.AM
namespace Go.AM
open Go Go.Proofs
variable {K : AVal → Heap → Prop} {s s' s0 : Heap} {lv uv : AVal} {N : Nat} {G : List Lnk} {U : List Bool} {f : Nat} {d : Nat → Int} {I1 I2 : List AVal → Heap → Nat → Prop} {m1 m2 : Nat}
/-! ### the reference: distances -/
theorem dl_ad {db n : Nat} (hn : n < N) : iaddrS 1 (.slc db 0 N (some N) 1) (.int .i64 (n : Int)) = some (.ptr db n) := by
  have : Nat.blt n N = true := by rw [Nat.blt_eq]; exact hn
  simp [iaddrS, this]
theorem lk39 {bx : Nat} {a b c : Int} (hx : s bx = some (false, .cells 39 [.int .i64 a, .int .i64 b, .int .i64 c])) : rd1 s (.ptr bx 0) = some (.int .i64 a) ∧ rd1 s (.ptr bx 1) = some (.int .i64 b) ∧ rd1 s (.ptr bx 2) = some (.int .i64 c) := by
  refine ⟨?_, ?_, ?_⟩ <;> (rw [rd1_mk hx]; rfl)
theorem RInv.bd' (h : RInv N G U f d) (hN : N ≤ 32) {n : Nat} (hn : n < N) : -1 ≤ d n ∧ d n ≤ 3000000 := by
  have h1 := h.lo n hn
  have h2 := h.bd n hn
  have h3 := cntD_le (N := N) (d := d)
  omega
/-- the second half of a round: from the second end to the first -/
theorem bf2 {bx db i a b c : Nat} {mo iv : AVal} (z : GOk N G U) (hN : N ≤ 32) (inv : RInv N G U f d) (e : Ed G U i a b c) (hx : s bx = some (false, .cells 39 [.int .i64 (a : Int), .int .i64 (b : Int), .int .i64 (c : Int)])) (hd : s db = some (false, .cells 3 (dl N d)))
    (h0 : (0 ≤ d b → 0 ≤ d a ∧ d a ≤ d b + c) → vlref10_Dist_j3 XX mo iv I2 m2 I1 m1 K s)
    (h1 : ∀ s', 0 ≤ d b → (d a < 0 ∨ d b + c < d a) → s' db = some (false, .cells 3 (dl N (updI d a (d b + c)))) → Upto db s s' → vlref10_Dist_j3 XX (.bool true) iv I2 m2 I1 m1 K s') :
    vlref10_Dist_j5 XX (.slc db 0 N (some N) 1) mo iv (.ptr bx 0) I2 m2 I1 m1 K s := by
  obtain ⟨k1, k2, k3, k4, k5⟩ := z.ed e
  obtain ⟨x0, x1, x2⟩ := lk39 hx
  have da := inv.bd' hN k1
  have db' := inv.bd' hN k2
  have ga : (dl N d)[a]? = some (.int .i64 (d a)) := dl_get k1
  have gb : (dl N d)[b]? = some (.int .i64 (d b)) := dl_get k2
  have w : IntKind.i64.wrap (d b + (c : Int)) = d b + c := wrap64 (by omega) (by omega)
  have act : 0 ≤ d b → (d a < 0 ∨ d b + c < d a) → optK (wr1 s (.ptr db a) (.int .i64 (d b + (c : Int)))) (fun s_59 => vlref10_Dist_j3 XX (.bool true) iv I2 m2 I1 m1 K s_59) := fun q1 q2 =>
    wr1_step hd (by rw [dl_len]; exact k1) rfl fun s' g1 g2 => by
      rw [dl_set k1] at g1
      exact h1 s' q1 q2 g1 g2
  simp only [vlref10_Dist_j5, addOff_ptr, Nat.zero_add, x0, x1, dl_ad k1, dl_ad k2, rd1_mk hd, ga, gb, arith_geq, arith_lss, optK_mk]
  by_cases c1 : 0 ≤ d b
  · rw [decide_eq_true c1]
    simp only [boolK_true]
    by_cases c2 : d a < 0
    · rw [decide_eq_true c2]
      simp only [boolK_true, vlref10_Dist_j6, pickV_true, addOff_ptr, Nat.zero_add, x0, x1, x2, dl_ad k1, dl_ad k2, rd1_mk hd, gb, arith_add, w, optK_mk]
      exact act c1 (.inl c2)
    · rw [decide_eq_false c2]
      simp only [boolK_false, x2, arith_add, w, arith_gtr, optK_mk]
      by_cases c3 : d b + c < d a
      · rw [decide_eq_true c3]
        simp only [boolK_true, vlref10_Dist_j6, pickV_true, pickV_false, addOff_ptr, Nat.zero_add, x0, x1, x2, dl_ad k1, dl_ad k2, rd1_mk hd, gb, arith_add, w, optK_mk]
        exact act c1 (.inr c3)
      · rw [decide_eq_false c3]
        simp only [boolK_false, vlref10_Dist_j6, pickV_true, pickV_false, optK_mk]
        exact h0 fun _ => ⟨by omega, by omega⟩
  · rw [decide_eq_false c1]
    simp only [boolK_false, pickV_false, optK_mk]
    exact h0 fun q => absurd q c1
theorem j7_j5 : @vlref10_Dist_j7 = @vlref10_Dist_j5 := rfl
theorem dl_fill {v : Int} {i : Nat} (h : i < N) : (dl N fun n => if n < i then v else 0).set i (.int .i64 v) = dl N fun n => if n < i + 1 then v else 0 := by
  rw [dl_set h]
  unfold dl
  refine List.map_congr_left fun n hn => ?_
  congr 1
  by_cases e : n = i
  · rw [e, updI_same]; exact (if_pos (by omega)).symm
  · rw [updI_ne e]
    by_cases c : n < i
    · show (if n < i then v else 0) = if n < i + 1 then v else 0
      rw [if_pos c, if_pos (by omega)]
    · show (if n < i then v else 0) = if n < i + 1 then v else 0
      rw [if_neg c, if_neg (by omega)]
theorem zeros_dlf {v : Int} : repl N [AVal.int .i64 0] = dl N fun n => if n < 0 then v else 0 := by
  rw [repl_one]
  unfold dl
  refine List.ext_getElem? fun i => ?_
  by_cases hi : i < N
  · simp [hi]
  · simp [hi]
theorem rDist_in {n x : Int} {L : List RLk} (hl : SlR 3 s lv (L.map rwR)) (hlm : L.length ≤ 9223372036854775807) (hu : Sl s uv (U.map AVal.bool))
    (hK : ∀ v s', Sub s s' → (¬ (vld n L U ∧ 0 ≤ x ∧ x < n) → v = .nilslc) → (∀ (N r : Nat), vld (N : Int) L U → n = N → r < N → x = r → ∃ d b, IsDist N (L.map toL) U r d ∧ (∀ m, m < N → -1 ≤ d m ∧ d m ≤ 3000000) ∧ v = .slc b 0 N (some N) 1 ∧ s b = none ∧ s' b = some (false, .cells 3 (dl N d))) → K v s') : wpCall Try.prog XX 52 [.int .i64 n, lv, uv, .int .i64 x] K s := by
  refine vlref10_Dist_in (rvalid_in hl hlm hu fun s1 r sub1 hr => ?_)
  simp only [unary_not, optK_mk]
  cases r with
  | false =>
    have hr' : ¬ (vld n L U ∧ 0 ≤ x ∧ x < n) := fun h => by have := hr.2 h; cases this
    exact hK _ _ sub1 (fun _ => rfl) fun N r q1 q2 q3 q4 => by
      subst q2 q4
      exact absurd ⟨q1, by omega, by omega⟩ hr'
  | true =>
  obtain ⟨hv, hx0, hxn⟩ := hr.1 rfl
  obtain ⟨N, rfl⟩ : ∃ N : Nat, n = N := ⟨n.toNat, by omega⟩
  obtain ⟨f, rfl⟩ : ∃ f : Nat, x = f := ⟨x.toNat, by omega⟩
  have hf : f < N := by omega
  obtain ⟨z, hG, hN, hC, hrw⟩ := vld.gok hv
  rw [hrw] at hl
  simp only [Bool.not_true, boolK_false, nat?_mk, optK_mk]
  refine ⟨⟨Nat.le_refl _, by omega⟩, new_step fun db s2 hdb h2 u2 => ?_⟩
  have sub2 := sub1.trans (u2.sub hdb)
  have hdb0 : s db = none := by
    cases q : s db with
    | none => rfl
    | some y => rw [sub1 _ _ q] at hdb; cases hdb
  refine ⟨fun ys t m => ∃ i : Nat, ys = [.int .i64 i] ∧ i ≤ N ∧ m = N - i ∧ Sub s t ∧ t db = some (false, .cells 3 (dl N fun n => if n < i then -1 else 0)), ⟨_, 0, rfl, by omega, rfl, sub2, by rw [h2, zeros_dlf]⟩, ?_⟩
  rintro fe t m ⟨i, hy, hi, rfl, st, hd⟩
  simp only [List.cons.injEq, and_true] at hy
  rw [hy]
  simp only [vlref10_Dist_l0, arith_lss, optK_mk]
  refine boolK_mk (fun hlt => ?_) (fun hge => ?_)
  · have hlt : i < N := by have := of_decide_eq_true hlt; omega
    simp only [dl_ad hlt, optK_mk]
    refine wr1_step hd (by rw [dl_len]; exact hlt) rfl fun t3 h3 u3 => ?_
    simp only [arith_add, optK_mk]
    rw [wrap64 (by omega) (by omega)]
    refine ⟨_, by omega, i + 1, rfl, by omega, rfl, sub_upto st u3 hdb0, ?_⟩
    rw [h3, dl_fill hlt]
  have hge : i = N := by have := of_decide_eq_false hge; omega
  subst hge
  simp only [dl_ad hf, optK_mk]
  refine wr1_step hd (by rw [dl_len]; exact hf) rfl fun t1 g1 v1 => ?_
  have st1 := sub_upto st v1 hdb0
  have g1 : t1 db = some (false, .cells 3 (dl i fun n => if n = f then 0 else -1)) := by
    rw [g1, dl_set hf]
    congr 3
    unfold dl
    refine List.map_congr_left fun n hn => ?_
    congr 1
    have hn := List.mem_range.1 hn
    by_cases e : n = f
    · rw [e, updI_same]; exact (if_pos rfl).symm
    · rw [updI_ne e]
      show (if n < i then (-1 : Int) else 0) = if n = f then 0 else -1
      rw [if_pos hn, if_neg e]
  clear hd h2 u2 v1 hdb
  refine ⟨fun ys t m => ∃ (mo : Bool) (d : Nat → Int), ys = [.bool mo] ∧ m = muD i d + (if mo then 1 else 0) ∧ Sub s t ∧ t db = some (false, .cells 3 (dl i d)) ∧ RInv i (L.map toL) U f d ∧ (mo = false → ∀ j a b c, Ed (L.map toL) U j a b c → 0 ≤ d a → 0 ≤ d b ∧ d b ≤ d a + c), ⟨_, true, _, rfl, rfl, st1, g1, RInv.start hf, fun h => by cases h⟩, ?_⟩
  clear st1 g1
  rintro fe t m ⟨mo, d0, hy, rfl, st, hd, inv, clo⟩
  simp only [List.cons.injEq, and_true] at hy
  rw [hy]
  cases mo with
  | false =>
    simp only [vlref10_Dist_l1, boolK_false]
    refine hK _ t st (fun h => absurd ⟨hv, hx0, hxn⟩ h) fun N' r q1 q2 q3 q4 => ?_
    have q2 : i = N' := by omega
    have q4 : f = r := by omega
    subst q2 q4
    exact ⟨d0, db, inv.end_ (clo rfl), fun m hm => inv.bd' hN hm, rfl, hdb0, hd⟩
  | true =>
  clear clo
  simp only [vlref10_Dist_l1, boolK_true]
  refine ⟨fun ys t m => ∃ (mo : Bool) (k : Nat) (d : Nat → Int), ys = [.bool mo, .int .i64 k] ∧ k ≤ (L.map toL).length ∧ m = (L.map toL).length - k ∧ Sub s t ∧ t db = some (false, .cells 3 (dl i d)) ∧ RInv i (L.map toL) U f d ∧ (mo = true → muD i d < muD i d0) ∧ (mo = false → d = d0 ∧ ∀ j a b c, j < k → Ed (L.map toL) U j a b c → 0 ≤ d a → 0 ≤ d b ∧ d b ≤ d a + c), ⟨_, false, 0, d0, rfl, by omega, rfl, st, hd, inv, (fun h => by cases h), fun _ => ⟨rfl, fun j a b c h => by omega⟩⟩, ?_⟩
  clear st hd inv hy
  rintro fe t m ⟨mo, k, d, hy, hk, rfl, st, hd, inv, dec, clo⟩
  simp only [List.cons.injEq, and_true] at hy
  rw [hy.1, hy.2]
  have len := (hl.sub st).len
  rw [List.length_map] at len
  simp only [vlref10_Dist_l2, len, arith_lss, optK_mk]
  refine boolK_mk (fun hlt => ?_) (fun hge => ?_)
  rotate_left
  · have hge : k = (L.map toL).length := by have := of_decide_eq_false hge; omega
    cases mo with
    | true =>
      have := dec rfl
      exact ⟨muD i d + 1, by show muD i d + 1 < muD i d0 + 1; omega, true, d, rfl, rfl, st, hd, inv, fun h => by cases h⟩
    | false =>
      obtain ⟨e0, clo1⟩ := clo rfl
      refine ⟨muD i d, by rw [e0]; show muD i d0 < muD i d0 + 1; omega, false, d, rfl, rfl, st, hd, inv, fun _ j a b c e => clo1 j a b c ?_ e⟩
      rw [hge]
      rcases e.2 with e | e
      · exact (List.getElem?_eq_some_iff.1 e).1
      · exact (List.getElem?_eq_some_iff.1 e).1
  have hlt : k < (L.map toL).length := by have := of_decide_eq_true hlt; omega
  obtain ⟨x, hx⟩ : ∃ x, (L.map toL)[k]? = some x := ⟨_, List.getElem?_eq_getElem hlt⟩
  obtain ⟨a, b, c⟩ := x
  obtain ⟨pb, po, e1, e2, _⟩ := (hl.sub st).get (i := k) (r := lkR (a, b, c)) (by rw [List.getElem?_map, hx]; rfl)
  simp only [e1, e2, optK_mk]
  refine new_step fun be t1 hbe h7 u7 => wrAgg_step h7 rfl rfl rfl fun t2 h8 u8 => ?_
  have h8 : t2 be = some (false, .cells 39 [.int .i64 (a : Int), .int .i64 (b : Int), .int .i64 (c : Int)]) := h8
  have st2 : Sub t t2 := sub_upto (u7.sub hbe) u8 hbe
  have hd2 := st2 _ _ hd
  have stt := st.trans st2
  have hkU : k < U.length := by rw [z.len]; exact hlt
  have bed : be ≠ db := fun q => by rw [q, hd] at hbe; cases hbe
  obtain ⟨pu, a1, a2⟩ := (hu.sub stt).get (i := k) (by rw [List.length_map]; exact hkU)
  have a3 : (U.map AVal.bool)[k]? = some (.bool U[k]) := by simp [hkU]
  rw [a3] at a2
  have st := stt
  clear stt u7 u8 h7 e1 e2
  -- the next round
  have nxt : ∀ (mo' : Bool) (d' : Nat → Int) (t' : Heap), Sub s t' → t' db = some (false, .cells 3 (dl i d')) → RInv i (L.map toL) U f d' → (mo' = true → muD i d' < muD i d0) → (mo' = false → d' = d0 ∧ mo = false ∧ ∀ a b c, Ed (L.map toL) U k a b c → 0 ≤ d' a → 0 ≤ d' b ∧ d' b ≤ d' a + c) →
      vlref10_Dist_j3 XX (.bool mo') (.int .i64 (k : Int)) (fun ys t m => ∃ (mo : Bool) (k : Nat) (d : Nat → Int), ys = [.bool mo, .int .i64 k] ∧ k ≤ (L.map toL).length ∧ m = (L.map toL).length - k ∧ Sub s t ∧ t db = some (false, .cells 3 (dl i d)) ∧ RInv i (L.map toL) U f d ∧ (mo = true → muD i d < muD i d0) ∧ (mo = false → d = d0 ∧ ∀ j a b c, j < k → Ed (L.map toL) U j a b c → 0 ≤ d a → 0 ≤ d b ∧ d b ≤ d a + c)) ((L.map toL).length - k) (fun ys t m => ∃ (mo : Bool) (d : Nat → Int), ys = [.bool mo] ∧ m = muD i d + (if mo then 1 else 0) ∧ Sub s t ∧ t db = some (false, .cells 3 (dl i d)) ∧ RInv i (L.map toL) U f d ∧ (mo = false → ∀ j a b c, Ed (L.map toL) U j a b c → 0 ≤ d a → 0 ≤ d b ∧ d b ≤ d a + c)) (muD i d0 + (if true then 1 else 0)) K t' := by
    intro mo' d' t' w1 w2 w3 w4 w5
    simp only [vlref10_Dist_j3, arith_add, optK_mk]
    rw [wrap64 (by omega) (by omega)]
    refine ⟨_, by omega, mo', k + 1, d', rfl, by omega, rfl, w1, w2, w3, w4, fun h => ?_⟩
    obtain ⟨y1, y2, y3⟩ := w5 h
    refine ⟨y1, fun j a b c hj e => ?_⟩
    by_cases q : j = k
    · rw [q] at e; exact y3 a b c e
    · have := (clo y2).2 j a b c (by omega) e
      rw [y1, ← (clo y2).1]
      exact this
  simp only [a1, a2, unary_not, optK_mk]
  cases hup : U[k] with
  | false =>
    simp only [Bool.not_false, boolK_true]
    refine nxt mo d t2 st hd2 inv dec fun h => ⟨(clo h).1, h, fun a b c e => ?_⟩
    have := e.1
    rw [List.getElem?_eq_getElem hkU, hup] at this
    cases this
  | true =>
  have e : Ed (L.map toL) U k a b c := ⟨by rw [List.getElem?_eq_getElem hkU, hup], .inl hx⟩
  obtain ⟨k1, k2, k3, k4, k5⟩ := z.ed e
  have da := inv.bd' hN k1
  have db' := inv.bd' hN k2
  obtain ⟨x0, x1, x2⟩ := lk39 h8
  have ga : (dl i d)[a]? = some (.int .i64 (d a)) := dl_get k1
  have gb : (dl i d)[b]? = some (.int .i64 (d b)) := dl_get k2
  have w : IntKind.i64.wrap (d a + (c : Int)) = d a + c := wrap64 (by omega) (by omega)
  have hN40 : i ≤ 40 := by omega
  -- every way that the link may be taken
  have both : ∀ {d' : Nat → Int}, (0 ≤ d' a → 0 ≤ d' b ∧ d' b ≤ d' a + c) → (0 ≤ d' b → 0 ≤ d' a ∧ d' a ≤ d' b + c) → ∀ a b c, Ed (L.map toL) U k a b c → 0 ≤ d' a → 0 ≤ d' b ∧ d' b ≤ d' a + c := fun {d'} p1 p2 a' b' c' e' => by
    rcases e'.2 with q | q
    · rw [hx] at q; cases q; exact p1
    · rw [hx] at q; cases q; exact p2
  -- the second half after the first changed nothing
  have stay : (0 ≤ d a → 0 ≤ d b ∧ d b ≤ d a + c) → vlref10_Dist_j5 XX (.slc db 0 i (some i) 1) (.bool mo) (.int .i64 (k : Int)) (.ptr be 0) _ _ _ _ K t2 := fun cl1 => by
    refine bf2 z hN inv e h8 hd2 (fun cl2 => nxt mo d t2 st hd2 inv dec fun h => ⟨(clo h).1, h, both cl1 cl2⟩) fun t3 q1 q2 q3 q4 => ?_
    obtain ⟨r1, r2⟩ := inv.relax z hN40 e.sym q1 q2
    refine nxt true _ t3 (sub_upto st q4 hdb0) q3 r1 (fun _ => ?_) fun h => by cases h
    cases mo with
    | true => have := dec rfl; omega
    | false => have := (clo rfl).1; rw [← this]; omega
  have go : 0 ≤ d a → (d b < 0 ∨ d a + c < d b) → optK (wr1 t2 (.ptr db b) (.int .i64 (d a + (c : Int)))) (fun s_59 => vlref10_Dist_j5 XX (.slc db 0 i (some i) 1) (.bool true) (.int .i64 (k : Int)) (.ptr be 0) _ _ _ _ K s_59) := fun q1 q2 =>
    wr1_step hd2 (by rw [dl_len]; exact k2) rfl fun t3 g1 g2 => by
      rw [dl_set k2] at g1
      obtain ⟨r1, r2⟩ := inv.relax z hN40 e q1 q2
      have lo : muD i (updI d b (d a + c)) < muD i d0 := by
        cases mo with
        | true => have := dec rfl; omega
        | false => have := (clo rfl).1; rw [← this]; omega
      have st3 := sub_upto st g2 hdb0
      refine bf2 z hN r1 e (by rw [g2 be bed]; exact h8) g1 (fun _ => nxt true _ t3 st3 g1 r1 (fun _ => lo) fun h => by cases h) fun t4 p1 p2 p3 p4 => ?_
      obtain ⟨y1, y2⟩ := r1.relax z hN40 e.sym p1 p2
      refine nxt true _ t4 (sub_upto st3 p4 hdb0) p3 y1 (fun _ => by omega) fun h => by cases h
  simp only [Bool.not_true, boolK_false, addOff_ptr, Nat.zero_add, x0, x1, dl_ad k1, dl_ad k2, rd1_mk hd2, ga, gb, arith_geq, arith_lss, optK_mk, j7_j5]
  by_cases c1 : 0 ≤ d a
  · rw [decide_eq_true c1]
    simp only [boolK_true]
    by_cases c2 : d b < 0
    · rw [decide_eq_true c2]
      simp only [boolK_true, vlref10_Dist_j4, pickV_true, addOff_ptr, Nat.zero_add, x0, x1, x2, dl_ad k1, dl_ad k2, rd1_mk hd2, ga, arith_add, w, optK_mk]
      exact go c1 (.inl c2)
    · rw [decide_eq_false c2]
      simp only [boolK_false, x2, arith_add, w, arith_gtr, optK_mk]
      by_cases c3 : d a + c < d b
      · rw [decide_eq_true c3]
        simp only [boolK_true, vlref10_Dist_j4, pickV_true, pickV_false, addOff_ptr, Nat.zero_add, x0, x1, x2, dl_ad k1, dl_ad k2, rd1_mk hd2, ga, arith_add, w, optK_mk]
        exact go c1 (.inr c3)
      · rw [decide_eq_false c3]
        simp only [boolK_false, vlref10_Dist_j4, pickV_true, pickV_false, optK_mk]
        exact stay fun _ => ⟨by omega, by omega⟩
  · rw [decide_eq_false c1]
    simp only [boolK_false, pickV_false, optK_mk]
    exact stay fun q => absurd q c1
end Go.AM
namespace Go.AM
open Go Go.Proofs
variable {K : AVal → Heap → Prop} {s s' s0 : Heap} {lv uv v y : AVal} {N : Nat} {G : List Lnk} {U : List Bool} {d : Nat → Int}
/-! ### the reference: next links, parents, paths -/
def othV : Option Nat → AVal
  | some m => .tup [.int .i64 (m : Int), .bool true]
  | none => .tup [.int .i64 0, .bool false]
theorem rOther_in {a b c n : Nat} (hK : ∀ s', Sub s s' → K (othV (oth (a, b, c) n)) s') : wpCall Try.prog XX 60 [.agg (lkR (a, b, c)), .int .i64 (n : Int)] K s := by
  refine vlref10_Other_in ⟨rfl, new_step fun bx s1 hb h1 u1 => ?_⟩
  obtain ⟨x0, x1, x2⟩ := lk39 h1
  have hK := hK s1 (u1.sub hb)
  simp only [addOff_ptr, Nat.zero_add, x0, x1, eqV_int, negB_mk, Bool.false_bne, optK_mk]
  unfold oth at hK
  cases c1 : ((n : Int) == (a : Int)) with
  | true =>
    have c1 : a = n := by have := eq_of_beq c1; omega
    simp only [boolK_true]
    rw [if_pos c1] at hK
    exact hK
  | false =>
    have c1 : ¬ a = n := by
      have : ¬ (n : Int) = (a : Int) := by simpa using c1
      omega
    simp only [boolK_false]
    rw [if_neg c1] at hK
    cases c2 : ((n : Int) == (b : Int)) with
    | true =>
      have c2 : b = n := by have := eq_of_beq c2; omega
      simp only [boolK_true]
      rw [if_pos c2] at hK
      exact hK
    | false =>
      have c2 : ¬ b = n := by
        have : ¬ (n : Int) = (b : Int) := by simpa using c2
        omega
      simp only [boolK_false]
      rw [if_neg c2] at hK
      exact hK
theorem Acc.weak {elem : TypeId} {s1 : Heap} {l : List AVal} (h : Acc elem s1 s v l) (k : Sub s0 s1) : Acc elem s0 s v l := h.imp id fun ⟨b, h0, h1, h2⟩ => ⟨b, (by
  cases q : s0 b with
  | none => rfl
  | some x => rw [k _ _ q] at h0; cases h0), h1, h2⟩
/-- the links among the first k that begin shortest paths -/
def nrP (G : List Lnk) (U : List Bool) (d : Nat → Int) (n k : Nat) : List Nat := ((edP G U k n).filter fun e => decide (d n = d e.2.1 + e.2.2)).map (·.1)
theorem nrP_succ {n k : Nat} : nrP G U d n (k + 1) = nrP G U d n k ++ (((edF G U n k).toList.filter fun e => decide (d n = d e.2.1 + e.2.2)).map (·.1)) := by
  unfold nrP
  rw [edP_succ, List.filter_append, List.map_append]
theorem nrP_len {n k : Nat} : (nrP G U d n k).length ≤ k := by
  unfold nrP
  rw [List.length_map]
  exact Nat.le_trans (List.length_filter_le _ _) edP_len
def nrL (G : List Lnk) (U : List Bool) (d : Nat → Int) (n : Nat) : List Nat := (nearL G U d n).map (·.1)
theorem nrP_all {n : Nat} : nrP G U d n G.length = nrL G U d n := rfl
theorem rNext_in {L : List RLk} {n t : Nat} (hl : SlR 3 s lv (L.map rwR)) (hu : Sl s uv (U.map AVal.bool)) (hv : vld (N : Int) L U) (hn : n < N) (ht : t < N)
    (hK : ∀ v s' d, IsDist N (L.map toL) U t d → Acc 3 s s' v (iz (nrL (L.map toL) U d n)) → Sub s s' → K v s') : wpCall Try.prog XX 76 [.int .i64 (N : Int), lv, uv, .int .i64 (n : Int), .int .i64 (t : Int)] K s := by
  have hlm : L.length ≤ 9223372036854775807 := by have := hv.2.2.1; omega
  refine vlref10_Next_in (rvalid_in hl hlm hu fun s1 r sub1 hr => ?_)
  simp only [unary_not, optK_mk]
  rw [hr.2 ⟨hv, by omega, by omega⟩]
  simp only [Bool.not_true, boolK_false]
  refine rDist_in (hl.sub sub1) hlm (hu.sub sub1) fun dv s2 sub2 _ hdist => ?_
  obtain ⟨d, db, isd, hbd, rfl, hdb, hd⟩ := hdist N t hv rfl ht rfl
  have s02 := sub1.trans sub2
  obtain ⟨z, hG, hN, hC, hrw⟩ := vld.gok hv
  rw [hrw] at hl
  refine ⟨fun ys x m => ∃ (k : Nat) (lv : AVal), ys = [lv, .int .i64 k] ∧ k ≤ (L.map toL).length ∧ m = (L.map toL).length - k ∧ Sub s2 x ∧ Acc 3 s2 x lv (iz (nrP (L.map toL) U d n k)), ⟨_, 0, .nilslc, rfl, by omega, rfl, .refl s2, .inl ⟨rfl, rfl⟩⟩, ?_⟩
  rintro f x m ⟨k, ov, hy, hk, rfl, st, ac⟩
  simp only [List.cons.injEq, and_true] at hy
  rw [hy.1, hy.2]
  have stt := s02.trans st
  have len := (hl.sub stt).len
  rw [List.length_map] at len
  have len2 : lenOfA (.slc db 0 N (some N) 1) = some N := rfl
  simp only [vlref10_Next_l0, len, len2, arith_lss, arith_gtr, optK_mk]
  refine boolK_mk (fun hlt => ?_) (fun hge => ?_)
  rotate_left
  · have hge' : k = (L.map toL).length := by have := of_decide_eq_false hge; omega
    simp only [vlref10_Next_j1, hge, pickV_false, boolK_false, optK_mk]
    rw [hge', nrP_all] at ac
    exact hK _ x d isd (ac.weak s02) stt
  have hlt' : k < (L.map toL).length := by have := of_decide_eq_true hlt; omega
  obtain ⟨l, hx⟩ : ∃ l, (L.map toL)[k]? = some l := ⟨_, List.getElem?_eq_getElem hlt'⟩
  obtain ⟨a, b, c⟩ := l
  have hkU : k < U.length := by rw [z.len]; exact hlt'
  have row : ∀ {x}, Sub s x → ∃ pb po, iaddrS 3 lv (.int .i64 (k : Int)) = some (.ptr pb po) ∧ rdN x 3 (.ptr pb po) = some (lkR (a, b, c)) ∧ rd1 x (.ptr pb (po + 2)) = some (.int .i64 (c : Int)) := fun {x} hs => by
    obtain ⟨pb, po, e1, e2, e3⟩ := (hl.sub hs).get (i := k) (r := lkR (a, b, c)) (by rw [List.getElem?_map, hx]; rfl)
    exact ⟨pb, po, e1, e2, e3 2 (by omega)⟩
  obtain ⟨pb, po, e1, e2, _⟩ := row stt
  have hpos : decide ((0 : Int) < (N : Int)) = true := decide_eq_true (by omega)
  rw [hpos]
  simp only [vlref10_Next_j1, hlt, pickV_true, boolK_true, e1, e2, optK_mk]
  refine rOther_in fun s5 sub5 => ?_
  have st5 := st.trans sub5
  have st05 := stt.trans sub5
  have ac5 := ac.sub sub5
  clear e1 e2
  obtain ⟨pb, po, e1, _, e3⟩ := row st05
  obtain ⟨pu, a1, a2⟩ := (hu.sub st05).get (i := k) (by rw [List.length_map]; exact hkU)
  have a3 : (U.map AVal.bool)[k]? = some (.bool U[k]) := by simp [hkU]
  rw [a3] at a2
  have hd5 := st5 _ _ hd
  -- the next round
  have nxt : ∀ (ov' : AVal) (s6 : Heap), Sub s2 s6 → Acc 3 s2 s6 ov' (iz (nrP (L.map toL) U d n (k + 1))) → vlref10_Next_j5 XX ov' (.int .i64 (k : Int)) (fun ys x m => ∃ (k : Nat) (lv : AVal), ys = [lv, .int .i64 k] ∧ k ≤ (L.map toL).length ∧ m = (L.map toL).length - k ∧ Sub s2 x ∧ Acc 3 s2 x lv (iz (nrP (L.map toL) U d n k))) ((L.map toL).length - k) K s6 := fun ov' s6 h1 h2 => by
    simp only [vlref10_Next_j5, arith_add, optK_mk]
    rw [wrap64 (by omega) (by omega)]
    exact ⟨_, by omega, k + 1, ov', rfl, by omega, rfl, h1, h2⟩
  have same : (edF (L.map toL) U n k).toList.filter (fun e => decide (d n = d e.2.1 + e.2.2)) = [] → vlref10_Next_j5 XX ov (.int .i64 (k : Int)) _ _ K s5 := fun h => nxt ov s5 st5 (by rw [nrP_succ, h, List.map_nil, List.append_nil]; exact ac5)
  have eF : edF (L.map toL) U n k = if U[k] then (oth (a, b, c) n).map fun m => (k, m, c) else none := by
    unfold edF
    rw [List.getD_eq_getElem?_getD, List.getElem?_eq_getElem hkU, Option.getD_some, hx]
  cases ho : oth (a, b, c) n with
  | none =>
    have x0 : extractA (othV none) 0 = some (.int .i64 0) := rfl
    have x1 : extractA (othV none) 1 = some (.bool false) := rfl
    simp only [x0, x1, optK_mk, boolK_false, vlref10_Next_j2, vlref10_Next_j3, vlref10_Next_j4, pickV_false]
    refine same ?_
    rw [eF, ho]
    cases U[k] <;> rfl
  | some m =>
    have x0 : extractA (othV (some m)) 0 = some (.int .i64 (m : Int)) := rfl
    have x1 : extractA (othV (some m)) 1 = some (.bool true) := rfl
    simp only [x0, x1, optK_mk, boolK_true, a1, a2, vlref10_Next_j2, pickV_true]
    cases hup : U[k] with
    | false =>
      simp only [boolK_false, vlref10_Next_j3, vlref10_Next_j4, pickV_false, optK_mk]
      refine same ?_
      rw [eF, hup]; rfl
    | true =>
    have e : Ed (L.map toL) U k n m c := by
      refine ⟨by rw [List.getElem?_eq_getElem hkU, hup], ?_⟩
      unfold oth at ho
      split at ho
      · rename_i q; cases ho; exact .inl (by rw [hx]; show some (a, b, c) = some (n, b, c); rw [show a = n from q])
      · split at ho
        · rename_i q; cases ho; exact .inr (by rw [hx]; show some (a, b, c) = some (a, n, c); rw [show b = n from q])
        · cases ho
    obtain ⟨k1, k2, k3, k4, k5⟩ := z.ed e
    have eF2 : edF (L.map toL) U n k = some (k, m, c) := by rw [eF, hup, ho]; rfl
    have gn : (dl N d)[n]? = some (.int .i64 (d n)) := dl_get k1
    have gm : (dl N d)[m]? = some (.int .i64 (d m)) := dl_get k2
    have dn := hbd n k1
    have dm := hbd m k2
    have w : IntKind.i64.wrap (d m + (c : Int)) = d m + c := wrap64 (by omega) (by omega)
    simp only [boolK_true, dl_ad k2, rd1_mk hd5, gm, arith_geq, optK_mk, vlref10_Next_j3, pickV_true]
    have hfil : (edF (L.map toL) U n k).toList.filter (fun e => decide (d n = d e.2.1 + e.2.2)) = if d n = d m + c then [(k, m, c)] else [] := by
      rw [eF2]
      by_cases q : d n = d m + c
      · simp [q]
      · simp [q]
    by_cases c1 : 0 ≤ d m
    · rw [decide_eq_true c1]
      simp only [boolK_true, dl_ad k1, dl_ad k2, rd1_mk hd5, gm, gn, e1, addOff_ptr, e3, arith_add, w, eqV_int, negB_mk, Bool.false_bne, optK_mk, vlref10_Next_j4, pickV_true]
      cases c2 : (d m + (c : Int) == d n) with
      | true =>
        have c2 : d n = d m + c := (eq_of_beq c2).symm
        simp only [boolK_true]
        refine lit1_step rfl rfl fun b6 s6 hb6 h6 u6 => ?_
        have sub6 := u6.sub hb6
        refine (ac5.sub sub6).app2 (st5.trans sub6) (Sl.mk h6 rfl (by simp)) (by simp) ?_ fun v' s7 a7 s07 => ?_
        · have := nrP_len (G := L.map toL) (U := U) (d := d) (n := n) (k := k)
          rw [iz_len]; simp only [List.length_singleton]; omega
        · refine nxt v' s7 s07 ?_
          rw [nrP_succ, hfil, if_pos c2, iz_app]
          exact a7
      | false =>
        have c2 : ¬ d n = d m + c := by
          have : ¬ d m + (c : Int) = d n := by simpa using c2
          omega
        simp only [boolK_false]
        exact same (by rw [hfil, if_neg c2])
    · rw [decide_eq_false c1]
      simp only [boolK_false, vlref10_Next_j4, pickV_false, optK_mk]
      refine same ?_
      rw [hfil, if_neg ?_]
      intro q
      have h1 := isd.clo k m n c e.sym
      omega
end Go.AM
namespace Go.AM
open Go Go.Proofs
variable {K : AVal → Heap → Prop} {s s' s0 : Heap} {lv uv v y : AVal} {N : Nat} {G : List Lnk} {U : List Bool} {d : Nat → Int}
theorem dl_succ {k : Nat} : dl (k + 1) d = dl k d ++ [.int .i64 (d k)] := by
  unfold dl
  rw [List.range_succ, List.map_append, List.map_singleton]
theorem rParents_in {L : List RLk} {t : Nat} (hl : SlR 3 s lv (L.map rwR)) (hu : Sl s uv (U.map AVal.bool)) (hv : vld (N : Int) L U) (ht : t < N)
    (hK : ∀ v s' d, IsDist N (L.map toL) U t d → (∀ m, m < N → -1 ≤ d m ∧ d m ≤ 3000000) → Sl s' v (dl N (parL (L.map toL) U d)) → Sub s s' → K v s') : wpCall Try.prog XX 59 [.int .i64 (N : Int), lv, uv, .int .i64 (t : Int)] K s := by
  have hlm : L.length ≤ 9223372036854775807 := by have := hv.2.2.1; omega
  obtain ⟨z, hG, hN, hC, hrw⟩ := vld.gok hv
  refine vlref10_Parents_in (rDist_in hl hlm hu fun dv s2 sub2 _ hdist => ?_)
  obtain ⟨d, db, isd, hbd, rfl, hdb, hd⟩ := hdist N t hv rfl ht rfl
  refine ⟨fun ys x m => ∃ (k : Nat) (lv : AVal), ys = [lv, .int .i64 k] ∧ k ≤ N ∧ m = N - k ∧ Sub s2 x ∧ Acc 3 s2 x lv (dl k (parL (L.map toL) U d)), ⟨_, 0, .nilslc, rfl, by omega, rfl, .refl s2, .inl ⟨rfl, rfl⟩⟩, ?_⟩
  rintro f x m ⟨k, ov, hy, hk, rfl, st, ac⟩
  simp only [List.cons.injEq, and_true] at hy
  rw [hy.1, hy.2]
  have stt := sub2.trans st
  have len2 : lenOfA (.slc db 0 N (some N) 1) = some N := rfl
  simp only [vlref10_Parents_l0, len2, arith_lss, optK_mk]
  refine boolK_mk (fun hlt => ?_) (fun hge => ?_)
  rotate_left
  · have hge : k = N := by have := of_decide_eq_false hge; omega
    rw [hge] at ac
    exact hK _ x d isd hbd ac.sl stt
  have hlt : k < N := by have := of_decide_eq_true hlt; omega
  refine rNext_in (hl.sub stt) (hu.sub stt) hv hlt ht fun nv s6 d' isd' ac' sub6 => ?_
  have hdd : nearL (L.map toL) U d' k = nearL (L.map toL) U d k := nearL_congr z fun n hn => dist_uniq z isd' isd hn
  have hne : nrL (L.map toL) U d' k = (nearL (L.map toL) U d k).map (·.1) := by unfold nrL; rw [hdd]
  have st6 := st.trans sub6
  have stt6 := stt.trans sub6
  have ac6 := ac.sub sub6
  have nxt : ∀ (ov' : AVal) (s7 : Heap), Sub s2 s7 → Acc 3 s2 s7 ov' (dl (k + 1) (parL (L.map toL) U d)) → vlref10_Parents_j1 XX ov' (.int .i64 (k : Int)) (fun ys x m => ∃ (k : Nat) (lv : AVal), ys = [lv, .int .i64 k] ∧ k ≤ N ∧ m = N - k ∧ Sub s2 x ∧ Acc 3 s2 x lv (dl k (parL (L.map toL) U d))) (N - k) K s7 := fun ov' s7 h1 h2 => by
    simp only [vlref10_Parents_j1, arith_add, optK_mk]
    rw [wrap64 (by omega) (by omega)]
    exact ⟨_, by omega, k + 1, ov', rfl, by omega, rfl, h1, h2⟩
  have put : ∀ w : Int, w = parL (L.map toL) U d k → optK (fillR (repl 1 [(.int .i64 0)]) [(0, 1, (.int .i64 w))]) fun c_11 => allOne c_11 = true ∧ newK 3 c_11 (fun b_12 s_13 =>
      appK 3 1 ov (.slc b_12 0 1 (some 1) 1) (fun v_14 s_15 =>
      vlref10_Parents_j1 XX v_14 (.int .i64 (k : Int)) (fun ys x m => ∃ (k : Nat) (lv : AVal), ys = [lv, .int .i64 k] ∧ k ≤ N ∧ m = N - k ∧ Sub s2 x ∧ Acc 3 s2 x lv (dl k (parL (L.map toL) U d))) (N - k) K s_15) s_13) s6 := fun w hw => by
    refine lit1_step rfl rfl fun b7 s7 hb7 h7 u7 => ?_
    have sub7 := u7.sub hb7
    refine (ac6.sub sub7).app2 (st6.trans sub7) (Sl.mk h7 rfl (by simp)) (by simp) ?_ fun v' s8 a8 s08 => ?_
    · rw [dl_len]; simp only [List.length_singleton]; omega
    · refine nxt v' s8 s08 ?_
      rw [dl_succ, ← hw]
      exact a8
  simp only [ac'.sl.len, iz_len, eqV_int, negB_mk, Bool.true_bne, Bool.false_bne, optK_mk]
  cases hcase : nearL (L.map toL) U d k with
  | nil =>
    have e0 : nrL (L.map toL) U d' k = [] := by rw [hne, hcase]; rfl
    rw [e0]
    simp only [List.length_nil]
    refine put (-1) ?_
    unfold parL; rw [hcase]
  | cons e r =>
    have e0 : nrL (L.map toL) U d' k = e.1 :: r.map (·.1) := by rw [hne, hcase]; rfl
    obtain ⟨p, g1, g2⟩ := ac'.sl.get (i := 0) (by rw [iz_len, e0]; simp)
    rw [e0] at g2
    have g1 : iaddrS 1 nv (.int .i64 0) = some p := g1
    have g2 : rd1 s6 p = some (.int .i64 (e.1 : Int)) := g2
    have e5 : (((nrL (L.map toL) U d' k).length : Int) == 0) = false := by
      rw [e0, List.length_cons]
      have : ¬ (((r.map (·.1)).length + 1 : Nat) : Int) = 0 := by omega
      simpa using this
    rw [e5]
    simp only [boolK_false, g1, g2, optK_mk]
    refine put _ ?_
    unfold parL; rw [hcase]
theorem app_pre {b : Nat} {w : AVal} {l : List AVal} (h : s b = some (false, .cells 3 [w])) (hy : Sl s y l) (hl : l.length ≤ 16000000) (hK : ∀ v' s', Sl s' v' (w :: l) → Sub s s' → (∀ b' o n c, v' = .slc b' o n c 1 → b' = b ∨ s b' = none) → K v' s') : appK 3 1 (.slc b 0 1 (some 1) 1) y K s := by
  have h1 : Sl s (.slc b 0 1 (some 1) 1) [w] := Sl.mk h rfl (by simp)
  by_cases q : l = []
  · subst q
    refine optK_of hy.rd (optK_of hy.len ⟨rfl, ?_⟩)
    exact ⟨Nat.le_refl _, hK _ _ h1 (.refl s) fun b' o n c e => by cases e; exact .inl rfl⟩
  · refine app_full (l := [w]) h1 hy q ?_ (by simp only [List.length_singleton]; omega) fun d s' hd h2 u2 => hK _ _ (Sl.mk h2 (by simp [Nat.add_comm]) (by simp)) (u2.sub hd) fun b' o n c e => by cases e; exact .inr hd
    have : 0 < l.length := List.length_pos_iff.2 q
    simp only [List.length_singleton]; omega
theorem rPath_in {L : List RLk} {r n : Nat} (hl : SlR 3 s lv (L.map rwR)) (hu : Sl s uv (U.map AVal.bool)) (hv : vld (N : Int) L U) (hr : r < N) (hn : n < N)
    (hK : ∀ v s' d es, IsDist N (L.map toL) U r d → Sl s' v (iz es) → es.length ≤ 3000000 → (∀ j, j ∈ es ↔ OnP (L.map toL) (parL (L.map toL) U d) n j) → Sub s s' → (∀ b o k c, v = .slc b o k c 1 → s b = none) → K v s') : wpCall Try.prog XX 45 [.int .i64 (N : Int), lv, uv, .int .i64 (r : Int), .int .i64 (n : Int)] K s := by
  have hlm : L.length ≤ 9223372036854775807 := by have := hv.2.2.1; omega
  obtain ⟨z, hG, hN, hC, hrw⟩ := vld.gok hv
  refine vlref10_Path_in (rvalid_in hl hlm hu fun s1 b sub1 hb => ?_)
  simp only [unary_not, optK_mk]
  rw [hb.2 ⟨hv, by omega, by omega⟩]
  simp only [Bool.not_true, boolK_false]
  refine rParents_in (hl.sub sub1) (hu.sub sub1) hv hr fun pv s2 d isd hbd hp sub2 => ?_
  have s02 := sub1.trans sub2
  refine ⟨fun ys x m => ∃ (k : Nat) (ov : AVal) (l : List Nat), ys = [ov, .int .i64 k] ∧ k < N ∧ m = (d k).toNat ∧ Sub s2 x ∧ Sl x ov (iz l) ∧ (∀ j, OnP (L.map toL) (parL (L.map toL) U d) n j ↔ j ∈ l ∨ OnP (L.map toL) (parL (L.map toL) U d) k j) ∧ l.length + (d k).toNat ≤ (d n).toNat ∧ (∀ b o n c, ov = .slc b o n c 1 → s b = none), ⟨_, n, .nilslc, [], rfl, hn, rfl, .refl s2, .inl ⟨rfl, rfl⟩, fun j => by simp, by simp, fun b o n c e => by cases e⟩, ?_⟩
  rintro f x m ⟨k, ov, l, hy, hk, rfl, st, ho, hon, hln, hfr⟩
  simp only [List.cons.injEq, and_true] at hy
  rw [hy.1, hy.2]
  have hpx := hp.sub st
  have stt := s02.trans st
  obtain ⟨p, g1, g2⟩ := hpx.get (i := k) (by rw [dl_len]; exact hk)
  rw [dl_get hk] at g2
  have hpos : decide ((0 : Int) < (N : Int)) = true := decide_eq_true (by omega)
  simp only [vlref10_Path_l0, hpx.len, dl_len, arith_gtr, hpos, boolK_true, g1, g2, arith_geq, optK_mk, vlref10_Path_j1, pickV_true]
  refine boolK_mk (fun h => ?_) (fun h => ?_)
  rotate_left
  · have h := of_decide_eq_false h
    refine hK _ x d l isd ho (by have := hbd n hn; omega) (fun j => ?_) stt hfr
    rw [hon j]
    refine ⟨.inl, fun q => q.elim id fun q => ?_⟩
    obtain ⟨i, hi⟩ := q.no
    rw [hi] at h
    omega
  have h := of_decide_eq_true h
  obtain ⟨i, hi⟩ : ∃ i : Nat, parL (L.map toL) U d k = (i : Int) := ⟨(parL (L.map toL) U d k).toNat, by omega⟩
  rw [hi] at g2 ⊢
  obtain ⟨m, c, e, hfar, _, hm, hdm, hdk, hc⟩ := par_some z isd hi
  refine lit1_step rfl rfl fun b3 s3 hb3 h3 u3 => ?_
  have sub3 := u3.sub hb3
  refine app_pre h3 (ho.sub sub3) ?_ fun ov' s4 ho4 sub4 hb4 => ?_
  · rw [iz_len]
    have := hbd n hn
    omega
  have st4 := st.trans (sub3.trans sub4)
  have stt4 := s02.trans st4
  obtain ⟨p', g1', g2'⟩ := (hp.sub st4).get (i := k) (by rw [dl_len]; exact hk)
  rw [dl_get hk, hi] at g2'
  rw [g1] at g1'
  cases g1'
  have hi2 : i < (L.map toL).length := par_lt z isd hi
  obtain ⟨x, hx⟩ : ∃ x, (L.map toL)[i]? = some x := ⟨_, List.getElem?_eq_getElem hi2⟩
  obtain ⟨a, b, c2⟩ := x
  have hl' := hl
  rw [hrw] at hl'
  obtain ⟨pb, po, e1, e2, _⟩ := (hl'.sub stt4).get (i := i) (r := lkR (a, b, c2)) (by rw [List.getElem?_map, hx]; rfl)
  simp only [g2', e1, e2, optK_mk]
  refine rOther_in fun s5 sub5 => ?_
  have ho2 : oth (a, b, c2) k = some m := by
    have hkm := (z.ed e).2.2.1
    rcases e.2 with q | q
    · rw [hx] at q; cases q; exact if_pos rfl
    · rw [hx] at q; cases q
      show (if m = k then _ else if k = k then some m else none) = _
      rw [if_neg (Ne.symm hkm), if_pos rfl]
  have x0 : extractA (othV (some m)) 0 = some (.int .i64 (m : Int)) := rfl
  have x1 : extractA (othV (some m)) 1 = some (.bool true) := rfl
  rw [ho2]
  simp only [x0, x1, optK_mk]
  refine ⟨_, ?_, m, ov', i :: l, rfl, hm, rfl, st4.trans sub5, ho4.sub sub5, fun j => ?_, ?_, fun b o n c e => ?_⟩
  · omega
  · rw [hon j, OnP.iff hi, hfar, List.mem_cons]
    constructor
    · rintro (q | q | q)
      · exact .inl (.inr q)
      · exact .inl (.inl q)
      · exact .inr q
    · rintro ((q | q) | q)
      · exact .inr (.inl q)
      · exact .inl q
      · exact .inr (.inr q)
  · rw [List.length_cons]
    omega
  · have w : ∀ {b}, x b = none → s b = none := fun {b} h => by
      cases q : s b with
      | none => rfl
      | some y => rw [stt _ _ q] at h; cases h
    rcases hb4 b o n c e with q | q
    · rw [q]; exact w hb3
    · have : x b = none := by
        cases q2 : x b with
        | none => rfl
        | some y => rw [sub3 _ _ q2] at q; cases q
      exact w this
end Go.AM
namespace Go.AM
open Go Go.Proofs
variable {K : AVal → Heap → Prop} {s s' s0 t : Heap} {U : List Bool} {L : List RLk} {lnv upv v dv mv : AVal} {lf sp sf g : Int} {N r : Nat} {d ds : Nat → Int} {es : List Int}
/-! ### the reference for trees: valid networks, distances, roots, members -/
theorem rValid15_in (hn : NetR s L U lnv upv) (hK : ∀ s' (r : Bool), Sub s s' → (r = true ↔ netOk lf sp L U sf) → K (.bool r) s') : wpCall Try.prog XX 39 [.agg (netC lf sp lnv upv), .int .i64 sf] K s := by
  refine vlref15_Valid_in (hn.box fun b s1 hb h1 u1 => ?_)
  have sub1 := u1.sub hb
  have no : ¬ netOk lf sp L U sf → K (.bool false) s1 := fun q => hK s1 false sub1 ⟨(fun h => by cases h), fun h => absurd h q⟩
  simp only [addOff_ptr, Nat.zero_add, net0 h1, arith_geq, optK_mk]
  by_cases c1 : 1 ≤ lf
  rotate_left
  · rw [decide_eq_false c1]
    simp only [boolK_false, vlref15_Valid_j0, vlref15_Valid_j1, vlref15_Valid_j2, vlref15_Valid_j3, pickV_false, optK_mk]
    exact no fun h => c1 h.1
  rw [decide_eq_true c1]
  simp only [boolK_true, addOff_ptr, Nat.zero_add, net1 h1, arith_geq, optK_mk]
  by_cases c2 : 0 ≤ sp
  rotate_left
  · rw [decide_eq_false c2]
    simp only [boolK_false, vlref15_Valid_j0, vlref15_Valid_j1, vlref15_Valid_j2, vlref15_Valid_j3, pickV_true, pickV_false, optK_mk]
    exact no fun h => c2 h.2.1
  rw [decide_eq_true c2]
  simp only [boolK_true, vlref15_Valid_j0, pickV_true, addOff_ptr, Nat.zero_add, net0 h1, arith_leq, optK_mk]
  by_cases c3 : lf ≤ 32
  rotate_left
  · rw [decide_eq_false c3]
    simp only [boolK_false, vlref15_Valid_j1, vlref15_Valid_j2, vlref15_Valid_j3, pickV_true, pickV_false, optK_mk]
    exact no fun h => by have := h.2.2.1.2.1; omega
  rw [decide_eq_true c3]
  simp only [boolK_true, vlref15_Valid_j1, pickV_true, addOff_ptr, Nat.zero_add, net1 h1, arith_lss, optK_mk]
  by_cases c4 : sp < 32
  rotate_left
  · rw [decide_eq_false c4]
    simp only [boolK_false, vlref15_Valid_j2, vlref15_Valid_j3, pickV_true, pickV_false, optK_mk]
    exact no fun h => by have := h.2.2.1.2.1; omega
  rw [decide_eq_true c4]
  simp only [boolK_true, vlref15_Valid_j2, pickV_true, addOff_ptr, Nat.zero_add, net0 h1, net1 h1, net2 h1, net3 h1, arith_add, optK_mk]
  rw [wrap64 (by omega) (by omega)]
  refine rvalid_in (hn.l.sub sub1) (by have := hn.len.1; omega) (hn.u.sub sub1) fun s2 r sub2 hr => ?_
  simp only [vlref15_Valid_j3, pickV_true, optK_mk]
  exact hK s2 r (sub1.trans sub2) (hr.trans ⟨fun h => ⟨c1, c2, h.1, h.2⟩, fun h => h.2.2⟩)
theorem rdist15_in {x : Nat} (hn : NetR s L U lnv upv) (hv : vld (N : Int) L U) (hs : lf + sp = N) (hx : x < N) (hK : ∀ d b s', Sub s s' → IsDist N (L.map toL) U x d → (∀ m, m < N → -1 ≤ d m ∧ d m ≤ 3000000) → s' b = some (false, .cells 3 (dl N d)) → K (.slc b 0 N (some N) 1) s') : wpCall Try.prog XX 40 [.agg (netC lf sp lnv upv), .int .i64 (x : Int)] K s := by
  refine vlref15_dist_in (hn.box fun b s1 hb h1 u1 => ?_)
  have sub1 := u1.sub hb
  have hN := hv.2.1
  simp only [addOff_ptr, Nat.zero_add, net0 h1, net1 h1, net2 h1, net3 h1, arith_add, optK_mk]
  rw [hs, wrap64 (by omega) (by omega)]
  refine rDist_in (hn.l.sub sub1) (by have := hn.len.1; omega) (hn.u.sub sub1) fun v s2 sub2 _ hd => ?_
  obtain ⟨d, b2, g1, g2, rfl, _, g5⟩ := hd N x hv rfl hx rfl
  exact hK d b2 s2 (sub1.trans sub2) g1 g2 g5
/-- the distances from the node itself -/
theorem netOk.nat (q : netOk lf sp L U sf) : ∃ N x : Nat, lf + sp = N ∧ sf = x ∧ x < N ∧ vld (N : Int) L U ∧ N = (lf + sp).toNat ∧ x = sf.toNat := by
  have h1 := q.1
  have h2 := q.2.1
  have h3 := q.2.2.2
  refine ⟨(lf + sp).toNat, sf.toNat, by omega, by omega, by omega, ?_, rfl, rfl⟩
  have : (((lf + sp).toNat : Nat) : Int) = lf + sp := by omega
  rw [this]; exact q.2.2.1
theorem rdistS_in (hn : NetR s L U lnv upv) (q : netOk lf sp L U sf) (hK : ∀ b s' (N : Nat), lf + sp = N → N = (lf + sp).toNat → vld (N : Int) L U → IsDist N (L.map toL) U sf.toNat (dN lf sp L U sf) → Sub s s' → s' b = some (false, .cells 3 (dl N (dN lf sp L U sf))) → K (.slc b 0 N (some N) 1) s') : wpCall Try.prog XX 40 [.agg (netC lf sp lnv upv), .int .i64 sf] K s := by
  obtain ⟨N, x, e1, e2, hx, hv, e3, e4⟩ := q.nat
  have z := hv.gok.1
  rw [e2]
  refine rdist15_in hn hv e1 hx fun d b s' sub isd _ hd => ?_
  have isd2 : IsDist N (L.map toL) U sf.toNat (dN lf sp L U sf) := by
    unfold dN
    rw [← e3, ← e4]
    exact dF_is isd
  refine hK b s' N e1 e3 hv isd2 sub ?_
  rw [hd]
  congr 3
  unfold dl
  refine List.map_congr_left fun n hn => ?_
  rw [dist_uniq z isd (by rw [e4]; exact isd2) (List.mem_range.1 hn)]
theorem rRoot_in (hn : NetR s L U lnv upv) (hg : 0 ≤ g ∧ g < 4294967296) (hK : ∀ s', Sub s s' → K (rootV (rootN lf sp L U sf g)) s') : wpCall Try.prog XX 15 [.agg (netC lf sp lnv upv), .int .i64 sf, .int .u32 g] K s := by
  refine vlref15_Root_in (hn.box fun b s1 hb h1 u1 => ?_)
  have sub1 := u1.sub hb
  simp only [net4 h1, optK_mk]
  refine rValid15_in (hn.sub sub1) fun s2 r sub2 hr => ?_
  have sub02 := sub1.trans sub2
  have h2 := sub2 _ _ h1
  cases r with
  | false =>
    have q : ¬ netOk lf sp L U sf := fun h => by have := hr.2 h; cases this
    simp only [unary_not, Bool.not_false, boolK_true, optK_mk]
    have := hK s2 sub02
    unfold rootN at this
    rw [if_neg q] at this
    exact this
  | true =>
  have q : netOk lf sp L U sf := hr.1 rfl
  simp only [unary_not, Bool.not_true, boolK_false, net4 h2, optK_mk]
  refine rdistS_in (hn.sub sub02) q fun db s3 N e1 e2 hv isd sub3 hd => ?_
  have sub03 := sub02.trans sub3
  have h3 := sub3 _ _ h2
  have hN := hv.2.1
  have q1 := q.1
  have q2 := q.2.1
  simp only [addOff_ptr, Nat.zero_add, net0 h3, optK_mk]
  have lfn : ((lf.toNat : Nat) : Int) = lf := by omega
  refine ⟨fun ys t m => ∃ (i : Nat) (lv : AVal), ys = [lv, .int .i64 i] ∧ lf ≤ i ∧ i ≤ N ∧ m = N - i ∧ Sub s3 t ∧ Acc 3 s3 t lv (iz ((List.range i).filter fun (n : Nat) => decide (lf ≤ (n : Int) ∧ 0 ≤ dN lf sp L U sf n))), ⟨_, lf.toNat, _, by rw [lfn], by omega, by omega, rfl, .refl s3, ?_⟩, ?_⟩
  · have : (List.range lf.toNat).filter (fun (n : Nat) => decide (lf ≤ (n : Int) ∧ 0 ≤ dN lf sp L U sf n)) = [] := by
      refine List.filter_eq_nil_iff.2 fun n hn => ?_
      have := List.mem_range.1 hn
      simp only [decide_eq_true_eq]
      omega
    rw [this]; exact .inl ⟨rfl, rfl⟩
  rintro f t m ⟨i, lv, hy, hli, hi, rfl, st, ac⟩
  simp only [List.cons.injEq, and_true] at hy
  rw [hy.1, hy.2]
  have h4 := st _ _ h3
  have w0 : IntKind.i64.wrap ((N : Nat) : Int) = (N : Int) := wrap64 (by omega) (by omega)
  simp only [vlref15_Root_l0, addOff_ptr, Nat.zero_add, net0 h4, net1 h4, arith_add, e1, w0, arith_lss, optK_mk]
  refine boolK_mk (fun hlt => ?_) (fun hge => ?_)
  · have hlt : i < N := by have := of_decide_eq_true hlt; omega
    have nx : ∀ lv' t', Sub s3 t' → Acc 3 s3 t' lv' (iz ((List.range (i + 1)).filter fun (n : Nat) => decide (lf ≤ (n : Int) ∧ 0 ≤ dN lf sp L U sf n))) → vlref15_Root_j1 XX lv' (.int .i64 (i : Int)) (fun ys t m => ∃ (i : Nat) (lv : AVal), ys = [lv, .int .i64 i] ∧ lf ≤ i ∧ i ≤ N ∧ m = N - i ∧ Sub s3 t ∧ Acc 3 s3 t lv (iz ((List.range i).filter fun (n : Nat) => decide (lf ≤ (n : Int) ∧ 0 ≤ dN lf sp L U sf n)))) (N - i) K t' := fun lv' t' q1 q2 => by
      simp only [vlref15_Root_j1, arith_add, optK_mk]
      rw [wrap64 (by omega) (by omega)]
      exact ⟨_, by omega, i + 1, lv', rfl, by omega, by omega, rfl, q1, q2⟩
    have fl : (List.range (i + 1)).filter (fun (n : Nat) => decide (lf ≤ (n : Int) ∧ 0 ≤ dN lf sp L U sf n)) = (List.range i).filter (fun (n : Nat) => decide (lf ≤ (n : Int) ∧ 0 ≤ dN lf sp L U sf n)) ++ (if 0 ≤ dN lf sp L U sf i then [i] else []) := by
      rw [List.range_succ, List.filter_append]
      congr 1
      by_cases q : 0 ≤ dN lf sp L U sf i
      · simp [q, hli]
      · rw [if_neg q]; simp only [List.filter_cons, decide_eq_false (show ¬ (lf ≤ (i : Int) ∧ 0 ≤ dN lf sp L U sf i) from fun h => q h.2)]; rfl
    simp only [dl_ad hlt, rd1_mk (st _ _ hd), dl_get hlt, arith_geq, optK_mk]
    refine boolK_mk (fun c2 => ?_) (fun c2 => ?_)
    · have c2 := of_decide_eq_true c2
      refine lit1_step rfl rfl fun b5 t5 hb5 h5 u5 => ?_
      have sub5 := u5.sub hb5
      refine (ac.sub sub5).app2 (st.trans sub5) (Sl.mk h5 rfl (by simp)) (by simp) ?_ fun v' t6 a6 s6 => ?_
      · have := List.length_filter_le (fun n : Nat => decide (lf ≤ (n : Int) ∧ 0 ≤ dN lf sp L U sf n)) (List.range i)
        rw [List.length_range] at this
        rw [iz_len]; simp only [List.length_singleton]; omega
      · refine nx v' t6 s6 ?_
        rw [fl, if_pos c2, iz_app]; exact a6
    · have c2 := of_decide_eq_false c2
      refine nx lv t st ?_
      rw [fl, if_neg c2, List.append_nil]; exact ac
  · have hge : i = N := by have := of_decide_eq_false hge; omega
    subst hge
    have ac : Acc 3 s3 t lv (iz (spn lf i (dN lf sp L U sf))) := ac
    have hK := hK t (sub03.trans st)
    have er : rootN lf sp L U sf g = rootP lf i (dN lf sp L U sf) g := by
      unfold rootN
      rw [if_pos q, ← e2]
    rw [er] at hK
    generalize dN lf sp L U sf = d at *
    simp only [ac.sl.len, iz_len, eqV_int, negB_mk, Bool.true_bne, Bool.false_bne, optK_mk]
    have hlen := spn_len (lf := lf) (N := i) (d := d)
    cases c : (((spn lf i d).length : Int) == 0) with
    | true =>
      have c : spn lf i d = [] := List.eq_nil_of_length_eq_zero (by have := eq_of_beq c; omega)
      have e : rootP lf i d g = none := by unfold rootP; rw [c]; rfl
      rw [e] at hK
      exact hK
    | false =>
      have c : 0 < (spn lf i d).length := by
        have : ¬ ((spn lf i d).length : Int) = 0 := by simpa using c
        omega
      have w1 : convI .i64 (.int .u32 g) = some (.int .i64 g) := by
        show some (AVal.int .i64 (wrapK .i64 g)) = _
        rw [show wrapK .i64 g = g by simp only [wrapK]; rw [wrapM_eq _ _ _ (by omega) (by omega)]; split <;> omega]
      have w3 : arithV .rem (.int .i64 g) (.int .i64 ((spn lf i d).length : Int)) = some (.int .i64 ((g.toNat % (spn lf i d).length : Nat) : Int)) := by
        rw [arith_rem (by omega)]
        congr 2
        obtain ⟨k, rfl⟩ : ∃ k : Nat, g = k := ⟨g.toNat, by omega⟩
        rfl
      have hm : g.toNat % (spn lf i d).length < (spn lf i d).length := Nat.mod_lt _ c
      obtain ⟨p, g1, g2⟩ := ac.sl.get (i := g.toNat % (spn lf i d).length) (by rw [iz_len]; exact hm)
      rw [iz_get, List.getElem?_eq_getElem hm] at g2
      have e : rootP lf i d g = some ((spn lf i d)[g.toNat % (spn lf i d).length]) := by unfold rootP; rw [List.getElem?_eq_getElem hm]
      simp only [boolK_false, w1, w3, g1, g2, Option.map_some, optK_mk]
      rw [e] at hK
      exact hK
theorem rmember_in {n : Nat} (hn : NetR s L U lnv upv) (q : netOk lf sp L U sf) (hmv : Sl s mv (izs es)) (hes : es.length ≤ 60) (hnN : (n : Int) < lf + sp) (hK : ∀ s' (r : Bool), Sub s s' → (r = true ↔ Mem es lf (dN lf sp L U sf) n) → K (.bool r) s') : wpCall Try.prog XX 44 [.agg (netC lf sp lnv upv), .int .i64 sf, mv, .int .i64 (n : Int)] K s := by
  refine vlref15_member_in (hn.box fun b s1 hb h1 u1 => ?_)
  have sub1 := u1.sub hb
  have no : ∀ {t}, Sub s t → ¬ Mem es lf (dN lf sp L U sf) n → K (.bool false) t := fun {t} h q => hK t false h ⟨(fun h => by cases h), fun h => absurd h q⟩
  have c0 : decide ((n : Int) < 0) = false := decide_eq_false (by omega)
  simp only [arith_lss, c0, boolK_false, addOff_ptr, Nat.zero_add, net0 h1, arith_geq, optK_mk]
  by_cases c1 : lf ≤ (n : Int)
  · rw [decide_eq_true c1]
    simp only [vlref15_member_j0, vlref15_member_j1, pickV_true, pickV_false, boolK_true, optK_mk]
    exact no sub1 fun h => by have := h.2.1; omega
  rw [decide_eq_false c1]
  simp only [vlref15_member_j0, pickV_false, boolK_false, net4 h1, optK_mk]
  refine rdistS_in (hn.sub sub1) q fun db s3 N e1 e2 hv isd sub3 hd => ?_
  have sub03 := sub1.trans sub3
  have hlt : n < N := by omega
  simp only [dl_ad hlt, rd1_mk hd, dl_get hlt, arith_lss, optK_mk]
  by_cases c2 : dN lf sp L U sf n < 0
  · rw [decide_eq_true c2]
    simp only [vlref15_member_j1, pickV_false, boolK_true, optK_mk]
    exact no sub03 fun h => by have := h.2.2; omega
  rw [decide_eq_false c2]
  simp only [vlref15_member_j1, pickV_false, boolK_false, optK_mk]
  refine ⟨fun ys t m => ∃ i : Nat, ys = [.int .i64 i] ∧ i ≤ es.length ∧ m = es.length - i ∧ Sub s t ∧ ((n : Int) ∈ es ↔ (n : Int) ∈ es.drop i), ⟨_, 0, rfl, by omega, rfl, sub03, by simp⟩, ?_⟩
  rintro f t m ⟨i, hy, hi, rfl, st, hq⟩
  simp only [List.cons.injEq, and_true] at hy
  rw [hy]
  have hmt := hmv.sub st
  have hlen : (izs es).length = es.length := by unfold izs; simp
  simp only [vlref15_member_l2, hmt.len, hlen, arith_lss, optK_mk]
  refine boolK_mk (fun hlt => ?_) (fun hge => ?_)
  · have hlt : i < es.length := by have := of_decide_eq_true hlt; omega
    obtain ⟨p, g1, g2⟩ := hmt.get (i := i) (by rw [hlen]; exact hlt)
    have g3 : (izs es)[i]? = some (.int .i64 es[i]) := by unfold izs; simp [hlt]
    rw [g3] at g2
    simp only [g1, g2, eqV_int, negB_mk, Bool.false_bne, optK_mk]
    cases c : (es[i] == (n : Int)) with
    | true =>
      have c := eq_of_beq c
      simp only [boolK_true]
      refine hK t true st ⟨fun _ => ⟨?_, by omega, by omega⟩, fun _ => rfl⟩
      rw [← c]; exact List.getElem_mem hlt
    | false =>
      have c : ¬ es[i] = (n : Int) := by simpa using c
      simp only [boolK_false, arith_add, optK_mk]
      rw [wrap64 (by omega) (by omega)]
      refine ⟨_, by omega, i + 1, rfl, by omega, rfl, st, ?_⟩
      rw [hq, List.drop_eq_getElem_cons hlt, List.mem_cons]
      exact ⟨fun h => h.elim (fun h => absurd h.symm c) id, .inr⟩
  · have hge : i = es.length := by have := of_decide_eq_false hge; omega
    subst hge
    refine no st fun h => ?_
    have := hq.1 h.1
    rw [List.drop_length] at this
    cases this
end Go.AM
namespace Go.AM
open Go Go.Proofs
variable {K : AVal → Heap → Prop} {s s' s0 t : Heap} {U : List Bool} {L : List RLk} {lnv upv v dv mv : AVal} {lf sp sf g : Int} {N r : Nat} {d ds : Nat → Int} {es : List Int}
/-! ### the reference for trees: links -/
def bl (n : Nat) (f : Nat → Bool) : List AVal := (List.range n).map fun i => .bool (f i)
theorem bl_len {n : Nat} {f : Nat → Bool} : (bl n f).length = n := by unfold bl; simp
theorem bl_get {n i : Nat} {f : Nat → Bool} (h : i < n) : (bl n f)[i]? = some (.bool (f i)) := by unfold bl; simp [h]
theorem bl_set {n i : Nat} {f : Nat → Bool} (h : i < n) : (bl n f).set i (.bool true) = bl n fun k => f k || k == i := by
  refine List.ext_getElem? fun k => ?_
  rw [List.getElem?_set]
  by_cases e : i = k
  · subst e
    rw [if_pos rfl, bl_len, if_pos h, bl_get h]; simp
  · rw [if_neg e]
    by_cases hk : k < n
    · rw [bl_get hk, bl_get hk]
      have : (k == i) = false := by simpa using Ne.symm e
      rw [this, Bool.or_false]
    · rw [List.getElem?_eq_none (by rw [bl_len]; omega), List.getElem?_eq_none (by rw [bl_len]; omega)]
theorem bl_zero {n : Nat} : repl n [AVal.bool false] = bl n fun _ => false := by
  rw [repl_one]
  unfold bl
  refine List.ext_getElem? fun i => ?_
  by_cases hi : i < n
  · simp [hi]
  · simp [hi]
theorem bl_ad {db n m : Nat} (hn : n < m) : iaddrS 1 (.slc db 0 m (some m) 1) (.int .i64 (n : Int)) = some (.ptr db n) := dl_ad hn
open Classical in
theorem treeL_filter {G : List Lnk} {p : Nat → Int} {M : Nat → Prop} {f : Nat → Bool} (h : ∀ j, f j = true ↔ InT G p M j) : (List.range G.length).filter f = treeL G p M := by
  unfold treeL
  exact List.filter_congr fun j _ => Bool.eq_iff_iff.2 ((h j).trans decide_eq_true_iff.symm)
theorem rEdges_in (hn : NetR s L U lnv upv) (hg : 0 ≤ g ∧ g < 4294967296) (hmv : Sl s mv (izs es)) (hes : es.length ≤ 60) (hK : ∀ v s', Sl s' v (iz (edgesN lf sp L U sf g es)) → Sub s s' → K v s') : wpCall Try.prog XX 18 [.agg (netC lf sp lnv upv), .int .i64 sf, .int .u32 g, mv] K s := by
  refine vlref15_Edges_in (hn.box fun b s1 hb h1 u1 => ?_)
  have sub1 := u1.sub hb
  simp only [net4 h1, optK_mk]
  refine rRoot_in (hn.sub sub1) hg fun s2 sub2 => ?_
  have sub02 := sub1.trans sub2
  have h2 := sub2 _ _ h1
  cases hr : rootN lf sp L U sf g with
  | none =>
    show K .nilslc s2
    refine hK _ _ ?_ sub02
    unfold edgesN
    rw [hr]; exact .inl ⟨rfl, rfl⟩
  | some r =>
  obtain ⟨q, hm⟩ := rootN_some hr
  obtain ⟨N, x, e1, e2, hx, hv, e3, e4⟩ := q.nat
  obtain ⟨z, hG, hN, hC, hrw⟩ := vld.gok hv
  rw [← e3] at hm
  obtain ⟨rN, _, _⟩ := mem_spn.1 hm
  have hlen : L.length ≤ 128 := by rw [List.length_map] at hG; exact hG
  have q1 := q.1
  have q2 := q.2.1
  have x0 : extractA (rootV (some r)) 0 = some (.int .i64 (r : Int)) := rfl
  have x1 : extractA (rootV (some r)) 1 = some (.bool true) := rfl
  have ll := (hn.l.sub sub02).len
  rw [List.length_map] at ll
  simp only [x0, x1, unary_not, Bool.not_true, boolK_false, addOff_ptr, Nat.zero_add, net2 h2, ll, nat?_mk, optK_mk]
  refine ⟨⟨Nat.le_refl _, by omega⟩, new_step fun ib s3 hib h3 u3 => ?_⟩
  have sub3 := u3.sub hib
  have sub03 := sub02.trans sub3
  have hib0 : s ib = none := by
    cases q : s ib with
    | none => rfl
    | some y => rw [sub02 _ _ q] at hib; cases hib
  have hibb : ib ≠ b := fun q => by rw [q, h2] at hib; cases hib
  rw [bl_zero] at h3
  -- the links of the paths to members below n
  refine ⟨fun ys t m => ∃ (n : Nat) (f : Nat → Bool), ys = [.int .i64 n] ∧ (n : Int) ≤ lf ∧ m = lf.toNat - n ∧ Sub s t ∧ t b = some (false, .cells 25 (netC lf sp lnv upv)) ∧ t ib = some (false, .cells 4 (bl L.length f)) ∧ (∀ j, f j = true ↔ InT (L.map toL) (pF N (L.map toL) U r) (fun m => m < n ∧ Mem es lf (dN lf sp L U sf) m) j), ⟨_, 0, _, rfl, by omega, rfl, sub03, sub3 _ _ h2, h3, fun j => ⟨(fun h => by cases h), fun ⟨m, h, _⟩ => by have := h.1; omega⟩⟩, ?_⟩
  rintro fe t m ⟨n, f, hy, hnl, rfl, st, hbt, hit, hf⟩
  simp only [List.cons.injEq, and_true] at hy
  rw [hy]
  simp only [vlref15_Edges_l0, addOff_ptr, Nat.zero_add, net0 hbt, arith_lss, optK_mk]
  refine boolK_mk (fun hlt => ?_) (fun hge => ?_)
  · have hlt : (n : Int) < lf := of_decide_eq_true hlt
    have nx : ∀ (f' : Nat → Bool) (t' : Heap), Sub s t' → t' b = some (false, .cells 25 (netC lf sp lnv upv)) → t' ib = some (false, .cells 4 (bl L.length f')) → (∀ j, f' j = true ↔ InT (L.map toL) (pF N (L.map toL) U r) (fun m => m < n + 1 ∧ Mem es lf (dN lf sp L U sf) m) j) →
        vlref15_Edges_j1 XX (.int .i64 (n : Int)) (fun ys t m => ∃ (n : Nat) (f : Nat → Bool), ys = [.int .i64 n] ∧ (n : Int) ≤ lf ∧ m = lf.toNat - n ∧ Sub s t ∧ t b = some (false, .cells 25 (netC lf sp lnv upv)) ∧ t ib = some (false, .cells 4 (bl L.length f)) ∧ (∀ j, f j = true ↔ InT (L.map toL) (pF N (L.map toL) U r) (fun m => m < n ∧ Mem es lf (dN lf sp L U sf) m) j)) (lf.toNat - n) K t' := fun f' t' k1 k2 k3 k4 => by
      simp only [vlref15_Edges_j1, arith_add, optK_mk]
      rw [wrap64 (by omega) (by omega)]
      exact ⟨_, by omega, n + 1, f', rfl, by omega, rfl, k1, k2, k3, k4⟩
    simp only [net4 hbt, optK_mk]
    refine rmember_in (hn.sub st) q (hmv.sub st) hes (by omega) fun s5 r5 sub5 hr5 => ?_
    have st5 := st.trans sub5
    have hb5 := sub5 _ _ hbt
    have hi5 := sub5 _ _ hit
    cases r5 with
    | false =>
      have hno : ¬ Mem es lf (dN lf sp L U sf) n := fun h => by have := hr5.2 h; cases this
      simp only [unary_not, Bool.not_false, boolK_true, optK_mk]
      refine nx f s5 st5 hb5 hi5 fun j => (hf j).trans ⟨fun ⟨m, h, ho⟩ => ⟨m, ⟨by omega, h.2⟩, ho⟩, fun ⟨m, h, ho⟩ => ⟨m, ⟨?_, h.2⟩, ho⟩⟩
      have : m ≠ n := fun e => hno (e ▸ h.2)
      omega
    | true =>
    have hyes := hr5.1 rfl
    have w0 : IntKind.i64.wrap ((N : Nat) : Int) = (N : Int) := wrap64 (by omega) (by omega)
    simp only [unary_not, Bool.not_true, boolK_false, addOff_ptr, Nat.zero_add, net0 hb5, net1 hb5, net2 hb5, net3 hb5, arith_add, e1, w0, optK_mk]
    refine rPath_in ((hn.sub st5).l) ((hn.sub st5).u) hv rN (by omega) fun pv s6 d ps isd hp hpl hon sub6 hpf => ?_
    rw [pF_eq z isd] at hon
    have st6 := st5.trans sub6
    have hit6 := sub6 _ _ hi5
    have hpb : ∀ b o n c, pv = .slc b o n c 1 → iz ps ≠ [] → ¬ (fun b => b = ib) b := fun b o n c e _ q => by
      have := hpf b o n c e
      rw [q, hi5] at this; cases this
    refine ⟨fun ys t m => ∃ (k : Nat) (f2 : Nat → Bool), ys = [.int .i64 k] ∧ k ≤ ps.length ∧ m = ps.length - k ∧ KeepBut (fun b => b = ib) s6 t ∧ t ib = some (false, .cells 4 (bl L.length f2)) ∧ (∀ j, f2 j = true ↔ f j = true ∨ j ∈ ps.take k), ⟨_, 0, f, rfl, by omega, rfl, .refl _ s6, hit6, fun j => by simp⟩, ?_⟩
    clear hb5 hi5
    rintro fe t7 m ⟨k, f2, hy, hk, rfl, kp, hi7, hf2⟩
    simp only [List.cons.injEq, and_true] at hy
    rw [hy]
    have hp7 := hp.keep kp hpb
    have st7 : Sub s t7 := fun i x hi => kp i x (st6 i x hi) fun q => by rw [q, hib0] at hi; cases hi
    simp only [vlref15_Edges_l2, hp7.len, iz_len, arith_lss, optK_mk]
    refine boolK_mk (fun hk2 => ?_) (fun hk2 => ?_)
    · have hk2 : k < ps.length := by have := of_decide_eq_true hk2; omega
      obtain ⟨p, g1, g2⟩ := hp7.get (i := k) (by rw [iz_len]; exact hk2)
      rw [iz_get, List.getElem?_eq_getElem hk2, Option.map_some] at g2
      have hj : ps[k] < L.length := by
        have := (hon ps[k]).1 (List.getElem_mem hk2)
        rw [← pF_eq z isd] at this
        have := this.lt z isd
        rw [List.length_map] at this
        exact this
      simp only [g1, g2, bl_ad hj, optK_mk]
      refine wr1_step hi7 (by rw [bl_len]; exact hj) rfl fun t8 h8 u8 => ?_
      rw [bl_set hj] at h8
      simp only [arith_add, optK_mk]
      rw [wrap64 (by omega) (by omega)]
      refine ⟨_, by omega, k + 1, _, rfl, by omega, rfl, kp.trans (u8.keep rfl), h8, fun j => ?_⟩
      rw [Bool.or_eq_true, hf2 j, List.take_add_one, List.getElem?_eq_getElem hk2, List.mem_append]
      simp only [Option.toList_some, List.mem_singleton, beq_iff_eq]
      constructor
      · rintro ((h | h) | h)
        · exact .inl h
        · exact .inr (.inl h)
        · exact .inr (.inr h)
      · rintro (h | h | h)
        · exact .inl (.inl h)
        · exact .inl (.inr h)
        · exact .inr h
    · have hk2 : k = ps.length := by have := of_decide_eq_false hk2; omega
      subst hk2
      rw [List.take_length] at hf2
      refine nx f2 t7 st7 (kp _ _ (sub6 _ _ (sub5 _ _ hbt)) fun q => hibb q.symm) hi7 fun j => ?_
      rw [hf2 j, hf j, hon j]
      constructor
      · rintro (⟨m, h, ho⟩ | h)
        · exact ⟨m, ⟨by omega, h.2⟩, ho⟩
        · exact ⟨n, ⟨by omega, hyes⟩, h⟩
      · rintro ⟨m, h, ho⟩
        by_cases e : m = n
        · rw [e] at ho; exact .inr ho
        · exact .inl ⟨m, ⟨by omega, h.2⟩, ho⟩
  · have hge : (n : Int) = lf := by have := of_decide_eq_false hge; omega
    refine ⟨fun ys x m => ∃ (k : Nat) (ov : AVal), ys = [ov, .int .i64 k] ∧ k ≤ L.length ∧ m = L.length - k ∧ Sub t x ∧ Acc 3 t x ov (iz ((List.range k).filter f)), ⟨_, 0, .nilslc, rfl, by omega, rfl, .refl t, .inl ⟨rfl, rfl⟩⟩, ?_⟩
    rintro fe x m ⟨k, ov, hy, hk, rfl, sx, ac⟩
    simp only [List.cons.injEq, and_true] at hy
    rw [hy.1, hy.2]
    have hix := sx _ _ hit
    have lx : lenOfA (.slc ib 0 L.length (some L.length) 1) = some L.length := rfl
    simp only [vlref15_Edges_l3, lx, arith_lss, optK_mk]
    refine boolK_mk (fun hlt => ?_) (fun hge2 => ?_)
    · have hlt : k < L.length := by have := of_decide_eq_true hlt; omega
      have nx : ∀ (ov' : AVal) (x' : Heap), Sub t x' → Acc 3 t x' ov' (iz ((List.range (k + 1)).filter f)) → vlref15_Edges_j4 XX ov' (.int .i64 (k : Int)) (fun ys x m => ∃ (k : Nat) (ov : AVal), ys = [ov, .int .i64 k] ∧ k ≤ L.length ∧ m = L.length - k ∧ Sub t x ∧ Acc 3 t x ov (iz ((List.range k).filter f))) (L.length - k) K x' := fun ov' x' k1 k2 => by
        simp only [vlref15_Edges_j4, arith_add, optK_mk]
        rw [wrap64 (by omega) (by omega)]
        exact ⟨_, by omega, k + 1, ov', rfl, by omega, rfl, k1, k2⟩
      simp only [bl_ad hlt, rd1_mk hix, bl_get hlt, optK_mk]
      cases hfk : f k with
      | true =>
        simp only [boolK_true]
        refine lit1_step rfl rfl fun b5 x5 hb5 h5 u5 => ?_
        have sub5 := u5.sub hb5
        refine (ac.sub sub5).app2 (sx.trans sub5) (Sl.mk h5 rfl (by simp)) (by simp) ?_ fun v' x6 a6 s6 => ?_
        · have := List.length_filter_le f (List.range k)
          rw [List.length_range] at this
          rw [iz_len]; simp only [List.length_singleton]; omega
        · refine nx v' x6 s6 ?_
          rw [List.range_succ, List.filter_append, iz_app]
          have : [k].filter f = [k] := by simp [hfk]
          rw [this]; exact a6
      | false =>
        simp only [boolK_false]
        refine nx ov x sx ?_
        rw [List.range_succ, List.filter_append]
        have : [k].filter f = [] := by simp [hfk]
        rw [this, List.append_nil]; exact ac
    · have hge2 : k = L.length := by have := of_decide_eq_false hge2; omega
      subst hge2
      have ee : (List.range L.length).filter f = edgesN lf sp L U sf g es := by
        unfold edgesN
        rw [hr]
        simp only
        rw [← e3, ← treeL_filter (f := f) fun j => (hf j).trans ⟨fun ⟨m, h, ho⟩ => ⟨m, h.2, ho⟩, fun ⟨m, h, ho⟩ => ⟨m, ⟨by have := h.2.1; omega, h⟩, ho⟩⟩, List.length_map]
      rw [ee] at ac
      exact hK _ x ac.sl (st.trans sx)
end Go.AM
namespace Go.AM
open Go Go.Proofs
/-! ### values that are equal to themselves -/
section
variable (P : Program)
def defFs (def_ : TypeId → AVal → Bool) (xs : List AVal) : List Field → Bool
  | [] => true
  | f :: fs => cond (f.name == "_") (defFs def_ xs fs) (match aPart P f.type xs f.offset with
    | some x => def_ f.type x && defFs def_ xs fs
    | none => false)
def aDef : Nat → TypeId → AVal → Bool
  | 0, _, _ => false
  | d + 1, t, x => match P.underlying t, x with
    | some .bool, .bool _ => true
    | some (.int _), .int _ _ => true
    | some (.struct fields), .agg xs => cond (P.stoodInHeld t) false (defFs P (aDef d) xs fields.toList)
    | _, _ => false
theorem defFs_ok {eq : TypeId → AVal → AVal → Option Bool} {df : TypeId → AVal → Bool} (h : ∀ t x, df t x = true → eq t x x = some true) {xs : List AVal} : ∀ {fs : List Field}, defFs P df xs fs = true → eqFields P eq xs xs fs = some true
  | [], _ => rfl
  | f :: fs, q => by
    unfold defFs at q
    unfold eqFields
    cases c : (f.name == "_") with
    | true => rw [c] at q; exact defFs_ok h q
    | false =>
      rw [c] at q
      simp only [cond_false] at q ⊢
      cases e : aPart P f.type xs f.offset with
      | none => rw [e] at q; cases q
      | some x =>
        rw [e] at q
        simp only [Bool.and_eq_true] at q
        simp only [h _ _ q.1]
        exact defFs_ok h q.2
theorem aDef_ok : ∀ (d : Nat) (t : TypeId) (x : AVal), aDef P d t x = true → aEq P d t x x = some true
  | 0, _, _, h => by cases h
  | d + 1, t, x, h => by
    unfold aDef at h
    split at h
    · rename_i b hu
      unfold aEq
      rw [hu]
      simp
    · rename_i k k' n hu
      unfold aEq
      rw [hu]
      have e : intKindEq k' k' = true := by cases k' <;> rfl
      simp only [e, cond_true, eqI_eq]
      simp
    · rename_i fields xs hu
      unfold aEq
      rw [hu]
      simp only
      cases c : P.stoodInHeld t with
      | true => rw [c] at h; cases h
      | false =>
        rw [c] at h
        simp only [cond_false] at h ⊢
        exact defFs_ok P (aDef_ok d) h
    · cases h
end
variable {K : AVal → Heap → Prop} {s s' s0 t : Heap} {U : List Bool} {L : List RLk} {lnv upv v w dv mv : AVal} {lf sp sf g : Int} {N r : Nat} {d ds : Nat → Int} {es : List Int}
theorem lk_self (x : RLk) : eqAgg Try.prog 39 (.agg (rwR x)) (.agg (rwR x)) = some true := by
  obtain ⟨a, b, c⟩ := x
  exact aDef_ok Try.prog 30 39 (.agg [.int .i64 a, .int .i64 b, .int .i64 c]) (by kernel_rfl)
/-! ### lists that are compared with their copies -/
theorem SameL_in {rows : List (List AVal)} (h : SlR 3 s v rows) (h' : SlR 3 s w rows) (hl : rows.length ≤ 1000000) (he : ∀ r ∈ rows, eqAgg Try.prog 39 (.agg r) (.agg r) = some true) (hK : K (.bool true) s) : wpCall Try.prog XX 19 [v, w] K s := by
  refine vlkit_Same_api_Link__in ?_
  simp only [vlkit_Same_api_Link_, h.len, h'.len, eqV_int, negB_mk, Bool.true_bne, beq_self_eq_true, Bool.not_true, boolK_false, optK_mk]
  refine ⟨fun ys t m => ∃ i : Nat, ys = [.int .i64 i] ∧ t = s ∧ i ≤ rows.length ∧ m = rows.length - i, ⟨_, 0, rfl, rfl, by omega, rfl⟩, ?_⟩
  rintro f t m ⟨i, hy, rfl, hi, rfl⟩
  simp only [List.cons.injEq, and_true] at hy
  rw [hy]
  simp only [vlkit_Same_api_Link__l0, h.len, arith_lss, optK_mk]
  refine boolK_mk (fun hlt => ?_) (fun hge => hK)
  have hlt : i < rows.length := by have := of_decide_eq_true hlt; omega
  obtain ⟨b, o, g1, g2, _⟩ := h.get (i := i) (r := rows[i]) (List.getElem?_eq_getElem hlt)
  obtain ⟨b', o', g3, g4, _⟩ := h'.get (i := i) (r := rows[i]) (List.getElem?_eq_getElem hlt)
  simp only [g1, g2, g3, g4, he _ (List.getElem_mem hlt), negB_mk, Bool.true_bne, Bool.not_true, boolK_false, arith_add, optK_mk]
  rw [wrap64 (by omega) (by omega)]
  exact ⟨_, by omega, i + 1, rfl, by trivial, by omega, rfl⟩
theorem SameB_in (h : Sl s v (U.map AVal.bool)) (h' : Sl s w (U.map AVal.bool)) (hl : U.length ≤ 1000000) (hK : K (.bool true) s) : wpCall Try.prog XX 20 [v, w] K s := by
  refine vlkit_Same_bool__in ?_
  simp only [vlkit_Same_bool_, h.len, h'.len, List.length_map, eqV_int, negB_mk, Bool.true_bne, beq_self_eq_true, Bool.not_true, boolK_false, optK_mk]
  refine ⟨fun ys t m => ∃ i : Nat, ys = [.int .i64 i] ∧ t = s ∧ i ≤ U.length ∧ m = U.length - i, ⟨_, 0, rfl, rfl, by omega, rfl⟩, ?_⟩
  rintro f t m ⟨i, hy, rfl, hi, rfl⟩
  simp only [List.cons.injEq, and_true] at hy
  rw [hy]
  simp only [vlkit_Same_bool__l0, h.len, List.length_map, arith_lss, optK_mk]
  refine boolK_mk (fun hlt => ?_) (fun hge => hK)
  have hlt : i < U.length := by have := of_decide_eq_true hlt; omega
  obtain ⟨p, g1, g2⟩ := h.get (i := i) (by rw [List.length_map]; exact hlt)
  obtain ⟨q, g3, g4⟩ := h'.get (i := i) (by rw [List.length_map]; exact hlt)
  have e1 : (U.map AVal.bool)[i]? = some (.bool U[i]) := by simp [hlt]
  rw [e1] at g2 g4
  have e2 : eqV 1 false (.bool U[i]) (.bool U[i]) = some true := by
    show some (U[i] == U[i]) = _
    rw [beq_self_eq_true]
  simp only [g1, g2, g3, g4, e2, negB_mk, Bool.true_bne, Bool.not_true, boolK_false, arith_add, optK_mk]
  rw [wrap64 (by omega) (by omega)]
  exact ⟨_, by omega, i + 1, rfl, by trivial, by omega, rfl⟩
theorem SlR.addf {es : Nat} {s2 : Heap} {rows : List (List AVal)} (h : SlR es s2 v rows) (hs : Sub (AM.frz s) s2) : SlR es (add s s2) v rows := by
  refine ⟨h.1, ?_⟩
  rcases h.2 with h | ⟨b, o, cap, h1, h2, h3⟩
  · exact .inl h
  · refine .inr ⟨b, o, cap, h1, h2, fun hl => ?_⟩
    obtain ⟨t, e, cs, q1, q2⟩ := h3 hl
    cases hb : s b with
    | none => exact ⟨t, e, cs, by rw [add_none hb]; exact q1, q2⟩
    | some x =>
      obtain ⟨t', x⟩ := x
      have := hs b _ (frz_some hb)
      rw [q1] at this
      cases this
      exact ⟨t', e, cs, by rw [add_some hb], q2⟩
theorem fresh_of (k : Sub s s') {b : Nat} (h : s' b = none) : s b = none := by
  cases q : s b with
  | none => rfl
  | some y => rw [k _ _ q] at h; cases h
theorem OwnI_in (h : Sl s mv (izs es)) (hl : es.length ≤ 1000000) (hK : ∀ v s', Sub s s' → Sl s' v (izs es) → K v s') : wpCall Try.prog XX 13 [mv] K s := by
  refine vlkit_Own_int__in ?_
  refine optK_of (a := []) rfl ⟨rfl, new_step fun b s1 hb h1 u1 => ?_⟩
  have sub1 := u1.sub hb
  refine app_copy (h.sub sub1) (by rw [List.length_map]; omega) fun v' s' sub2 h0 h2 => ?_
  refine hK v' s' (sub1.trans sub2) ?_
  by_cases q : izs es = []
  · rw [h0 q, q]; exact .inr ⟨b, 0, some 0, by simp, by simp, fun h => absurd rfl h⟩
  · obtain ⟨c, _, rfl, h4⟩ := h2 q
    exact Sl.mk h4 rfl (by simp)
theorem OwnB_in {s : Heap} (h : Sl s mv (U.map AVal.bool)) (hl : U.length ≤ 1000000) (hK : ∀ v s', Sub s s' → Sl s' v (U.map AVal.bool) → (∀ b o n c, v = .slc b o n c 1 → U.map AVal.bool ≠ [] → s b = none) → K v s') : wpCall Try.prog XX 36 [mv] K s := by
  refine vlkit_Own_bool__in ?_
  refine optK_of (a := []) rfl ⟨rfl, new_step fun b s1 hb h1 u1 => ?_⟩
  have sub1 := u1.sub hb
  refine app_copy (h.sub sub1) (by rw [List.length_map]; omega) fun v' s' sub2 h0 h2 => ?_
  by_cases q : U.map AVal.bool = []
  · refine hK v' s' (sub1.trans sub2) ?_ fun _ _ _ _ _ h => absurd q h
    rw [h0 q, q]; exact .inr ⟨b, 0, some 0, by simp, by simp, fun h => absurd rfl h⟩
  · obtain ⟨c, h5, rfl, h4⟩ := h2 q
    exact hK _ s' (sub1.trans sub2) (Sl.mk h4 rfl (by simp)) fun b o n c' e _ => by cases e; exact fresh_of sub1 h5
theorem OwnL_in {rows : List (List AVal)} (h : SlR 3 s mv rows) (hl : rows.length ≤ 1000000) (hK : ∀ v s', Sub s s' → SlR 3 s' v rows → (∀ b o n c, v = .slc b o n c 3 → rows ≠ [] → s b = none) → K v s') : wpCall Try.prog XX 35 [mv] K s := by
  refine vlkit_Own_api_Link__in ?_
  refine optK_of (a := []) rfl ⟨rfl, new_step fun b s1 hb h1 u1 => ?_⟩
  have sub1 := u1.sub hb
  exact app_copyR (h.sub sub1) (by omega) fun v' s' sub2 h2 h3 => hK v' s' (sub1.trans sub2) h2 fun b o n c e q => fresh_of sub1 (h3 b o n c e q)
theorem copied_in (hn : NetR s L U lnv upv) (hK : ∀ lnv' upv' s', Sub s s' → NetR s' L U lnv' upv' → K (.agg (netC lf sp lnv' upv')) s') : wpCall Try.prog XX 12 [.agg (netC lf sp lnv upv)] K s := by
  refine vllaw15_copied_in (hn.box fun b s1 hb h1 u1 => ?_)
  have sub1 := u1.sub hb
  refine new_step fun b2 s2 hb2 h2 u2 => ?_
  have sub2 := u2.sub hb2
  have h12 := sub2 _ _ h1
  have sub02 := sub1.trans sub2
  simp only [addOff_ptr, Nat.zero_add, net2 h12, optK_mk]
  refine OwnL_in (hn.sub sub02).frz.l (by rw [List.length_map]; have := hn.len.1; omega) fun v6 s7 sub7 h6 f6 _ => ?_
  have h6 := h6.addf sub7
  have f6 : ∀ b o n c, v6 = .slc b o n c 3 → L.map rwR ≠ [] → s2 b = none := fun b o n c e q => frz_none.1 (f6 b o n c e q)
  have sub27 : Sub s2 (add s2 s7) := sub_add
  have h17 := sub27 _ _ h12
  have h27 := sub27 _ _ h2
  have xc : cutH [(s2, add s2 s7)] (add s2 s7) b = some (false, .cells 25 (netC lf sp lnv upv)) := cut_keep h12 h17
  simp only [addOff_ptr, Nat.zero_add, net3 xc, optK_mk]
  have sub07 := sub02.trans sub27
  refine OwnB_in (hn.sub sub07).u (by have := hn.len.2; omega) fun v10 s11 sub11 h10 f10 => ?_
  have h111 := sub11 _ _ h17
  have h211 := sub11 _ _ h27
  have h611 := h6.sub sub11
  have bb : b ≠ b2 := fun q => by rw [← q, h1] at hb2; cases hb2
  refine wr1_step h111 (by show 2 < 4; omega) h6.one fun s13 h13 u13 => wr1_step h13 (by show 3 < 4; omega) h10.one fun s15 h15 u15 => ?_
  have h15 : s15 b = some (false, .cells 25 (netC lf sp v6 v10)) := h15
  simp only [net4 h15, optK_mk]
  have h215 : s15 b2 = _ := (u15 b2 (Ne.symm bb)).trans ((u13 b2 (Ne.symm bb)).trans h211)
  have one : allOne (netC lf sp v6 v10) = true := by
    show ((AVal.int .i64 lf).one && ((AVal.int .i64 sp).one && (v6.one && (v10.one && true)))) = true
    rw [h6.one, h10.one]; rfl
  refine wrAgg_step h215 rfl rfl one fun s17 h217 u17 => ?_
  have h217 : s17 b2 = some (false, .cells 25 (netC lf sp v6 v10)) := h217
  simp only [net4 h217, optK_mk]
  have kp : KeepBut (fun i => i = b ∨ i = b2) s11 s17 := fun i e hi hne => by
    rw [u17 i (fun q => hne (.inr q)), u15 i (fun q => hne (.inl q)), u13 i (fun q => hne (.inl q))]; exact hi
  have hb0 : s b = none := hb
  have hb20 : s b2 = none := fresh_of sub1 hb2
  refine hK v6 v10 s17 (fun i e hi => kp i e (sub11 _ _ (sub07 _ _ hi)) ?_) ⟨h611.keep kp fun c o n k e q => ?_, h10.keep kp fun c o n k e q => ?_, hn.len⟩
  · rintro (q | q)
    · rw [q, hb0] at hi; cases hi
    · rw [q, hb20] at hi; cases hi
  · have := f6 c o n k e q
    rintro (r | r)
    · rw [r, h12] at this; cases this
    · rw [r, h2] at this; cases this
  · have := f10 c o n k e q
    rintro (r | r)
    · rw [r, h17] at this; cases this
    · rw [r, h27] at this; cases this
end Go.AM
namespace Go.AM
open Go Go.Proofs
variable {K : AVal → Heap → Prop} {s s' s0 t : Heap} {U : List Bool} {L : List RLk} {lnv upv v w dv mv : AVal} {lf sp sf g : Int} {N r : Nat} {d ds : Nat → Int} {es : List Int}
/-! ### TreeEdges -/
def rt0 : Option Nat → AVal
  | some r => .int .i64 (r : Int)
  | none => .int .i64 0
def rt1 : Option Nat → Bool
  | some _ => true
  | none => false
theorem rootV_0 {o : Option Nat} : extractA (rootV o) 0 = some (rt0 o) := by cases o <;> rfl
theorem rootV_1 {o : Option Nat} : extractA (rootV o) 1 = some (.bool (rt1 o)) := by cases o <;> rfl
theorem eqB_same {b : Bool} : eqV 1 false (.bool b) (.bool b) = some true := by
  show some (b == b) = _
  rw [beq_self_eq_true]
end Go.AM
namespace Go.AM
open Go Go.Proofs
variable {K : AVal → Heap → Prop} {s s' s0 t : Heap} {U : List Bool} {L : List RLk} {lnv upv v w dv mv : AVal} {lf sp sf g fr ttl : Int} {N r : Nat} {d ds : Nat → Int} {es : List Int} {T : List Nat} {G : List Lnk} {ps : List AVal}
/-! ### the reference for trees: where a node sends -/
def qx (G : List Lnk) (n : Nat) (fr : Int) (k : Nat) : Bool := endAt G n k && !((k : Int) == fr)
def qa (G : List Lnk) (n : Nat) (fr : Int) (k : Nat) : Bool := endAt G n k && ((k : Int) == fr)
theorem next_same {n l : Nat} (hs : T.Pairwise (· < ·)) (hl : ∀ x ∈ T, x < l) : nextL l T G n fr = T.filter (qx G n fr) := by
  refine sorted_same ?_ (hs.filter _) fun x => ?_
  · unfold nextL
    exact List.Pairwise.filter _ List.pairwise_lt_range
  · unfold nextL
    rw [List.mem_filter, List.mem_filter, List.mem_range]
    unfold nxp qx
    rw [Bool.and_eq_true, decide_eq_true_eq]
    exact ⟨fun h => h.2, fun h => ⟨hl x h.1, h⟩⟩
theorem along_same {n l : Nat} (hl : ∀ x ∈ T, x < l) : alongB l T G n fr = T.any (qa G n fr) := by
  unfold alongB
  rw [Bool.eq_iff_iff, List.any_eq_true, List.any_eq_true]
  constructor
  · rintro ⟨x, _, h⟩
    unfold alp at h
    rw [Bool.and_eq_true, decide_eq_true_eq] at h
    exact ⟨x, h.1, h.2⟩
  · rintro ⟨x, h1, h2⟩
    refine ⟨x, List.mem_range.2 (hl x h1), ?_⟩
    unfold alp
    rw [Bool.and_eq_true, decide_eq_true_eq]
    exact ⟨h1, h2⟩
theorem edgesN_sorted : (edgesN lf sp L U sf g es).Pairwise (· < ·) := by
  unfold edgesN
  split
  · exact List.Pairwise.nil
  · exact treeL_sorted
theorem edgesN_ok (h : edgesN lf sp L U sf g es ≠ []) : netOk lf sp L U sf := by
  unfold edgesN at h
  split at h
  · exact absurd rfl h
  · rename_i r hr
    exact (rootN_some hr).1
theorem take_any {α : Type} {p : α → Bool} {l : List α} {k : Nat} {x : α} (h : l[k]? = some x) : (l.take (k + 1)).any p = ((l.take k).any p || p x) := by
  rw [List.take_add_one, h, List.any_append]; simp
theorem take_fil {α : Type} {p : α → Bool} {l : List α} {k : Nat} {x : α} (h : l[k]? = some x) : (l.take (k + 1)).filter p = (l.take k).filter p ++ (if p x then [x] else []) := by
  rw [List.take_add_one, h, List.filter_append]
  congr 1
  by_cases q : p x = true
  · simp [q]
  · simp [q]
theorem rself_in (hn : NetR s L U lnv upv) (q : netOk lf sp L U sf) (hmv : Sl s mv (izs es)) (hes : es.length ≤ 60) (hK : ∀ s' (r : Bool), Sub s s' → (r = true ↔ sf < lf ∧ sf ∈ es) → K (.bool r) s') : wpCall Try.prog XX 44 [.agg (netC lf sp lnv upv), .int .i64 sf, mv, .int .i64 sf] K s := by
  have isd := (dN_is q).2.fr
  obtain ⟨N, x, n1, rfl, hx, hv, n3, n4⟩ := q.nat
  refine rmember_in hn q hmv hes (by omega) fun s' r sub hr => hK s' r sub (hr.trans ⟨fun h => ⟨h.2.1, h.1⟩, fun h => ⟨h.2, h.1, ?_⟩⟩)
  rw [Int.toNat_natCast] at isd
  exact Int.le_of_eq isd.symm
theorem rNext15_in (hn : NetR s L U lnv upv) (hg : 0 ≤ g ∧ g < 4294967296) (hmv : Sl s mv (izs es)) (hes : es.length ≤ 60) (hK : ∀ v s', Sl s' v (iz (nextN lf sp L U sf g es fr).1) → (∀ b o n c, v = .slc b o n c 1 → s b = none) → Sub s s' → K (.tup [v, .bool (nextN lf sp L U sf g es fr).2]) s') : wpCall Try.prog XX 22 [.agg (netC lf sp lnv upv), .int .i64 sf, .int .u32 g, mv, .int .i64 fr] K s := by
  refine vlref15_Next_in (hn.box fun b s1 hb h1 u1 => ?_)
  have sub1 := u1.sub hb
  simp only [net4 h1, optK_mk]
  refine rEdges_in (hn.sub sub1) hg (hmv.sub sub1) hes fun tv s2 htv sub2 => ?_
  have sub02 := sub1.trans sub2
  have h2 := sub2 _ _ h1
  have hlen : (edgesN lf sp L U sf g es).length ≤ 60 := by
    by_cases q : netOk lf sp L U sf
    · have := edgesN_len (g := g) (es := es) q
      have := hn.len.1
      omega
    · have : edgesN lf sp L U sf g es = [] := by
        unfold edgesN rootN
        rw [if_neg q]
      rw [this]; simp
  generalize hT : edgesN lf sp L U sf g es = T at htv hlen
  refine ⟨fun ys t m => ∃ (k : Nat) (ov : AVal), ys = [ov, .bool ((T.take k).any (qa (L.map toL) sf.toNat fr)), .int .i64 k] ∧ k ≤ T.length ∧ m = T.length - k ∧ Sub s2 t ∧ Acc 3 s2 t ov (iz ((T.take k).filter (qx (L.map toL) sf.toNat fr))), ⟨_, 0, .nilslc, rfl, by omega, rfl, .refl s2, .inl ⟨rfl, rfl⟩⟩, ?_⟩
  rintro f t m ⟨k, ov, hy, hk, rfl, st, ac⟩
  simp only [List.cons.injEq, and_true] at hy
  rw [hy.1, hy.2.1, hy.2.2]
  have sub0t := sub02.trans st
  have ht := st _ _ h2
  have htt := htv.sub st
  simp only [vlref15_Next_l0, htt.len, iz_len, arith_lss, optK_mk]
  refine boolK_mk (fun hlt => ?_) (fun hge => ?_)
  · have hlt : k < T.length := by have := of_decide_eq_true hlt; omega
    have q : netOk lf sp L U sf := edgesN_ok (g := g) (es := es) fun e => by rw [hT] at e; rw [e] at hlt; simp at hlt
    have hTk : T[k]? = some T[k] := List.getElem?_eq_getElem hlt
    have hj : T[k] < L.length := edgesN_lt q _ (by rw [hT]; exact List.getElem_mem hlt)
    obtain ⟨p, g1, g2⟩ := htt.get (i := k) (by rw [iz_len]; exact hlt)
    rw [iz_get, hTk, Option.map_some] at g2
    generalize T[k] = e at hTk hj g2
    obtain ⟨x, hx⟩ : ∃ x, L[e]? = some x := ⟨_, List.getElem?_eq_getElem hj⟩
    obtain ⟨a, c, z⟩ := x
    have ok := okD (q.2.2.1.2.2.2.2 _ (List.mem_of_getElem? hx))
    obtain ⟨pb, po, e1, _, e3⟩ := (hn.l.sub sub0t).get (i := e) (r := rwR (a, c, z)) (by rw [List.getElem?_map, hx]; rfl)
    have e4 : rd1 t (.ptr pb po) = some (.int .i64 a) := e3 0 (by omega)
    have e5 : rd1 t (.ptr pb (po + 1)) = some (.int .i64 c) := e3 1 (by omega)
    have s0 := q.2.2.2.1
    have ea : endAt (L.map toL) sf.toNat e = ((a == sf) || (c == sf)) := by
      unfold endAt
      rw [List.getElem?_map, hx]
      show ((a.toNat == sf.toNat) || (c.toNat == sf.toNat)) = _
      have kk : ∀ x : Int, 0 ≤ x → (x.toNat == sf.toNat) = (x == sf) := fun x hx => by
        cases w : (x == sf) with
        | true => have := eq_of_beq w; rw [this]; simp
        | false =>
          have w : ¬ x = sf := by simpa using w
          have : ¬ x.toNat = sf.toNat := by omega
          simpa using this
      rw [kk a (by omega), kk c (by omega)]
    have nx : ∀ (ov' : AVal) (al : Bool) (t' : Heap), Sub s2 t' → al = (T.take (k + 1)).any (qa (L.map toL) sf.toNat fr) → Acc 3 s2 t' ov' (iz ((T.take (k + 1)).filter (qx (L.map toL) sf.toNat fr))) → vlref15_Next_j1 XX ov' (.bool al) (.int .i64 (k : Int)) (fun ys t m => ∃ (k : Nat) (ov : AVal), ys = [ov, .bool ((T.take k).any (qa (L.map toL) sf.toNat fr)), .int .i64 k] ∧ k ≤ T.length ∧ m = T.length - k ∧ Sub s2 t ∧ Acc 3 s2 t ov (iz ((T.take k).filter (qx (L.map toL) sf.toNat fr)))) (T.length - k) K t' := fun ov' al t' k1 k2 k3 => by
      simp only [vlref15_Next_j1, arith_add, optK_mk]
      rw [wrap64 (by omega) (by omega)]
      exact ⟨_, by omega, k + 1, ov', by rw [k2]; rfl, by omega, rfl, k1, k3⟩
    have fin : ∀ t39 t50, pickV t39 t50 (.bool false) = some (.bool (!endAt (L.map toL) sf.toNat e)) → vlref15_Next_j2 XX (.int .i64 fr) tv ov (.bool ((T.take k).any (qa (L.map toL) sf.toNat fr))) (.int .i64 (k : Int)) t39 t50 (fun ys t m => ∃ (k : Nat) (ov : AVal), ys = [ov, .bool ((T.take k).any (qa (L.map toL) sf.toNat fr)), .int .i64 k] ∧ k ≤ T.length ∧ m = T.length - k ∧ Sub s2 t ∧ Acc 3 s2 t ov (iz ((T.take k).filter (qx (L.map toL) sf.toNat fr)))) (T.length - k) K t := fun t39 t50 hpk => by
      simp only [vlref15_Next_j2, hpk, optK_mk]
      cases he : endAt (L.map toL) sf.toNat e with
      | false =>
        simp only [Bool.not_false, boolK_true]
        refine nx ov _ t st ?_ ?_
        · rw [take_any hTk]; unfold qa; rw [he]; simp
        · rw [take_fil hTk]
          have : qx (L.map toL) sf.toNat fr e = false := by unfold qx; rw [he]; rfl
          rw [this]
          simp only [Bool.false_eq_true, if_false, List.append_nil]
          exact ac
      | true =>
        simp only [Bool.not_true, boolK_false, g1, g2, eqV_int, negB_mk, Bool.false_bne, optK_mk]
        cases hf : ((e : Int) == fr) with
        | true =>
          simp only [boolK_true]
          refine nx ov _ t st ?_ ?_
          · rw [take_any hTk]; unfold qa; rw [he, hf]; simp
          · rw [take_fil hTk]
            have : qx (L.map toL) sf.toNat fr e = false := by unfold qx; rw [he, hf]; rfl
            rw [this]
            simp only [Bool.false_eq_true, if_false, List.append_nil]
            exact ac
        | false =>
          simp only [boolK_false]
          refine lit1_step rfl rfl fun b5 t5 hb5 h5 u5 => ?_
          have sub5 := u5.sub hb5
          refine (ac.sub sub5).app2 (st.trans sub5) (Sl.mk h5 rfl (by simp)) (by simp) ?_ fun v' t6 a6 s6 => ?_
          · have h1 := List.length_filter_le (qx (L.map toL) sf.toNat fr) (T.take k)
            have h2 := List.length_take_le k T
            rw [iz_len]; simp only [List.length_singleton]; omega
          · refine nx v' _ t6 s6 ?_ ?_
            · rw [take_any hTk]; unfold qa; rw [hf]; simp
            · rw [take_fil hTk]
              have : qx (L.map toL) sf.toNat fr e = true := by unfold qx; rw [he, hf]; rfl
              rw [this, if_pos rfl, iz_app]
              exact a6
    simp only [addOff_ptr, Nat.zero_add, net2 ht, g1, g2, e1, Nat.add_zero, e4, eqV_int, negB_mk, Bool.true_bne, optK_mk]
    cases ha : (a == sf) with
    | true =>
      simp only [Bool.not_true, boolK_false]
      refine fin _ _ ?_
      rw [ea, ha]; rfl
    | false =>
      simp only [Bool.not_false, boolK_true, e5, eqV_int, negB_mk, Bool.true_bne, optK_mk]
      refine fin _ _ ?_
      rw [ea, ha]; rfl
  · have hge : k = T.length := by have := of_decide_eq_false hge; omega
    subst hge
    rw [List.take_length] at ac ⊢
    simp only [net4 ht, optK_mk]
    refine rValid15_in (hn.sub sub0t) fun s5 r sub5 hr => ?_
    have sub05 := sub0t.trans sub5
    have ac5 := ac.sub sub5
    have h5 := sub5 _ _ ht
    cases r with
    | false =>
      have q : ¬ netOk lf sp L U sf := fun h => by have := hr.2 h; cases this
      simp only [unary_not, Bool.not_false, boolK_true, optK_mk]
      have e : nextN lf sp L U sf g es fr = ([], false) := by unfold nextN rootN; rw [if_neg q]
      have := hK .nilslc s5 (by rw [e]; exact .inl ⟨rfl, rfl⟩) (fun _ _ _ _ h => by cases h) sub05
      rw [e] at this
      exact this
    | true =>
    have q : netOk lf sp L U sf := hr.1 rfl
    obtain ⟨N, x, n1, n2, hx, hv, n3, n4⟩ := q.nat
    simp only [unary_not, Bool.not_true, boolK_false, net4 h5, optK_mk]
    refine rself_in (hn.sub sub05) q (hmv.sub sub05) hes fun s6 r sub6 hr6 => ?_
    have sub06 := sub05.trans sub6
    have ac6 := ac5.sub sub6
    have hlt : ∀ x ∈ T, x < L.length := by rw [← hT]; exact edgesN_lt q
    have hs : T.Pairwise (· < ·) := by rw [← hT]; exact edgesN_sorted
    have nl := next_same (G := L.map toL) (n := sf.toNat) (fr := fr) hs hlt
    have na := along_same (G := L.map toL) (n := sf.toNat) (fr := fr) hlt
    rw [← nl] at ac6
    rw [← na]
    have nofr : fr = -1 → alongB L.length T (L.map toL) sf.toNat fr = false := fun h => by
      rw [na, List.any_eq_false]
      intro k _
      unfold qa
      have : ((k : Int) == fr) = false := by
        have : ¬ (k : Int) = fr := by omega
        simpa using this
      rw [this]; simp
    have eN : nextN lf sp L U sf g es fr = if fr = -1 then (if sf < lf ∧ sf ∈ es then (nextL L.length T (L.map toL) sf.toNat fr, false) else ([], false))
        else if alongB L.length T (L.map toL) sf.toNat fr = true then (nextL L.length T (L.map toL) sf.toNat fr, decide (sf < lf ∧ sf ∈ es)) else ([], false) := by
      unfold nextN
      cases hrt : rootN lf sp L U sf g with
      | some r =>
        simp only [hT]
      | none =>
        have hTe : T = [] := by rw [← hT]; unfold edgesN; rw [hrt]
        rw [hTe]
        have e1 : nextL L.length [] (L.map toL) sf.toNat fr = [] := by
          unfold nextL
          refine List.filter_eq_nil_iff.2 fun x _ => ?_
          unfold nxp; simp
        have e2 : alongB L.length [] (L.map toL) sf.toNat fr = false := by rw [along_same (by simp)]; rfl
        rw [e1, e2]
        simp
    simp only [eqV_int, negB_mk, Bool.false_bne, optK_mk]
    have w1 : Sub s s6 := sub06
    have fo : ∀ b o n c, ov = .slc b o n c 1 → s b = none := fun b o n c e => by
      rcases ac6 with ⟨h, _⟩ | ⟨b', h1, h, _⟩
      · rw [h] at e; cases e
      · rw [h] at e; cases e; exact fresh_of sub02 h1
    have hK := hK
    rw [eN] at hK
    have em : decide (sf < lf ∧ sf ∈ es) = r := by
      cases r with
      | true => exact decide_eq_true (hr6.1 rfl)
      | false => exact decide_eq_false fun h => by have := hr6.2 h; cases this
    rw [em] at hK
    have en : (sf < lf ∧ sf ∈ es) ↔ r = true := hr6.symm
    simp only [en] at hK
    generalize nextL L.length T (L.map toL) sf.toNat fr = nL at hK ac6
    generalize alongB L.length T (L.map toL) sf.toNat fr = aB at hK nofr
    cases hfr : (fr == -1) with
    | true =>
      have hfr : fr = -1 := eq_of_beq hfr
      have aF := nofr hfr
      rw [if_pos hfr] at hK
      simp only [boolK_true, vlref15_Next_j3, pickV_true, optK_mk, aF, boolK_false]
      cases r with
      | true =>
        simp only [boolK_true]
        rw [if_pos rfl] at hK
        exact hK ov s6 ac6.sl fo w1
      | false =>
        simp only [boolK_false]
        rw [if_neg (by simp)] at hK
        exact hK .nilslc s6 (.inl ⟨rfl, rfl⟩) (fun _ _ _ _ h => by cases h) w1
    | false =>
      have hfr : ¬ fr = -1 := by simpa using hfr
      rw [if_neg hfr] at hK
      simp only [boolK_false, vlref15_Next_j3, pickV_false, optK_mk]
      cases aB with
      | true =>
        simp only [boolK_true]
        rw [if_pos rfl] at hK
        exact hK ov s6 ac6.sl fo w1
      | false =>
        simp only [boolK_false]
        rw [if_neg (by simp)] at hK
        exact hK .nilslc s6 (.inl ⟨rfl, rfl⟩) (fun _ _ _ _ h => by cases h) w1
end Go.AM
namespace Go.AM
open Go Go.Proofs
variable {K : AVal → Heap → Prop} {s s' s0 t : Heap} {U : List Bool} {L : List RLk} {lnv upv v w dv mv : AVal} {lf sp sf g fr ttl : Int} {N r : Nat} {d ds : Nat → Int} {es : List Int} {T : List Nat} {G : List Lnk} {ps : List AVal}
/-! ### the reference for trees: which packets a node sends -/
theorem rForward15_in (hn : NetR s L U lnv upv) (hg : 0 ≤ g ∧ g < 4294967296) (ht : -9223372036854775808 ≤ ttl ∧ ttl ≤ 9223372036854775807) (hmv : Sl s mv (izs es)) (hes : es.length ≤ 60) (hp : PkR ps g ttl)
    (hK : ∀ v s', Sub s s' → SlR 22 s' v (sentR (ps.set 2 (.int .i64 (ttl - 1))) (fwdN lf sp L U sf es g ttl fr).1) → K (.tup [v, .bool (fwdN lf sp L U sf es g ttl fr).2.1, .int .i64 (fwdN lf sp L U sf es g ttl fr).2.2]) s') : wpCall Try.prog XX 24 [.agg (netC lf sp lnv upv), .int .i64 sf, mv, .agg ps, .int .i64 fr] K s := by
  refine vlref15_Forward_in (hn.box fun b s1 hb h1 u1 => ⟨hp.one, new_step fun pb s2 hpb h2 u2 => ?_⟩)
  have h2 : s2 pb = some (false, .cells 51 ps) := h2
  have sub1 := u1.sub hb
  have sub2 := u2.sub hpb
  have sub02 := sub1.trans sub2
  have b2 := sub2 _ _ h1
  have rows0 : ∀ (s' : Heap) qs, SlR 22 s' .nilslc (sentR qs []) := fun s' qs => ⟨by simp [sentR], .inl ⟨rfl, rfl⟩⟩
  simp only [net4 b2, optK_mk]
  refine rValid15_in (hn.sub sub02) fun s6 r sub6 hr => ?_
  have sub06 := sub02.trans sub6
  have b6 := sub6 _ _ b2
  have p6 := sub6 _ _ h2
  cases r with
  | false =>
    have q : ¬ netOk lf sp L U sf := fun h => by have := hr.2 h; cases this
    have e : fwdN lf sp L U sf es g ttl fr = ([], false, 3) := by unfold fwdN; rw [if_neg q]
    simp only [unary_not, Bool.not_false, boolK_true, optK_mk]
    have := hK .nilslc s6 sub06 (by rw [e]; exact rows0 _ _)
    rw [e] at this
    exact this
  | true =>
  have q := hr.1 rfl
  simp only [unary_not, Bool.not_true, boolK_false, optK_mk, net4 b6, addOff_ptr, Nat.zero_add, rd1_mk p6, hp.dst]
  refine rRoot_in (hn.sub sub06) hg fun s7 sub7 => ?_
  have sub07 := sub06.trans sub7
  have b7 := sub7 _ _ b6
  have p7 := sub7 _ _ p6
  cases hr : rootN lf sp L U sf g with
  | none =>
    have e : fwdN lf sp L U sf es g ttl fr = ([], false, 13) := by unfold fwdN; rw [if_pos q, hr]
    simp only [rootV_0, rootV_1, rt1, unary_not, Bool.not_false, boolK_true, optK_mk]
    have := hK .nilslc s7 sub07 (by rw [e]; exact rows0 _ _)
    rw [e] at this
    exact this
  | some r =>
  simp only [rootV_0, rootV_1, rt1, unary_not, Bool.not_true, boolK_false, optK_mk, net4 b7, addOff_ptr, Nat.zero_add, rd1_mk p7, hp.dst]
  refine rNext15_in (hn.sub sub07) hg (hmv.sub sub07) hes fun nv s8 hnv hfr sub8 => ?_
  have sub08 := sub07.trans sub8
  have p8 := sub8 _ _ p7
  have e : fwdN lf sp L U sf es g ttl fr = (if ttl < 2 then ([], (nextN lf sp L U sf g es fr).2, 0) else ((nextN lf sp L U sf g es fr).1, (nextN lf sp L U sf g es fr).2, 0)) := by unfold fwdN; rw [if_pos q, hr]
  have nl := nextN_len (lf := lf) (sp := sp) (L := L) (U := U) (sf := sf) (g := g) (es := es) (fr := fr)
  have l60 := hn.len.1
  generalize nextN lf sp L U sf g es fr = R at hnv hfr e nl
  obtain ⟨rl, rb⟩ := R
  have y0 : extractA (.tup [nv, .bool rb]) 0 = some nv := rfl
  have y1 : extractA (.tup [nv, .bool rb]) 1 = some (.bool rb) := rfl
  simp only [y0, y1, optK_mk, addOff_ptr, Nat.zero_add, rd1_mk p8, hp.ttl, arith_lss]
  refine boolK_mk (fun hlt => ?_) (fun hge => ?_)
  · have hlt := of_decide_eq_true hlt
    rw [if_pos hlt] at e
    have := hK .nilslc s8 sub08 (by rw [e]; exact rows0 _ _)
    rw [e] at this
    exact this
  · have hge := of_decide_eq_false hge
    rw [if_neg hge] at e
    simp only [arith_sub, optK_mk]
    rw [wrap64 (by omega) (by omega)]
    have pk := hp.less (x := ttl - 1)
    refine wr1_step p8 (by rw [hp.len]; omega) rfl fun s9 p9 u9 => ?_
    have hpb0 : s pb = none := fresh_of sub1 hpb
    have sub09 : Sub s s9 := sub_upto sub08 u9 hpb0
    generalize ps.set 2 (.int .i64 (ttl - 1)) = qs at pk p9 hK
    have nv9 : Sl s9 nv (iz rl) := by
      refine hnv.keep (fp := fun i => i = pb) (u9.keep rfl) fun b o n c e hne hfp => ?_
      subst hfp
      have := hfr b o n c e
      rw [p7] at this; cases this
    have nl : rl.length ≤ L.length := nl
    refine ⟨fun ys t m => ∃ (i : Nat) (lv : AVal), ys = [lv, .int .i64 i] ∧ i ≤ rl.length ∧ m = rl.length - i ∧ Sub s9 t ∧ AccR 60 22 s9 t lv (sentR qs (rl.take i)), ⟨_, 0, _, rfl, by omega, rfl, .refl s9, by simp [sentR], .inl ⟨rfl, rfl⟩⟩, ?_⟩
    rintro f t m ⟨i, lv, hy, hi, rfl, st, ac⟩
    simp only [List.cons.injEq, and_true] at hy
    rw [hy.1, hy.2]
    simp only [vlref15_Forward_l0, (nv9.sub st).len, iz_len, arith_lss, optK_mk]
    refine boolK_mk (fun hlt => ?_) (fun hge2 => ?_)
    · have hlt : i < rl.length := by have := of_decide_eq_true hlt; omega
      obtain ⟨pp, g1, g2⟩ := (nv9.sub st).get (i := i) (by rw [iz_len]; exact hlt)
      rw [iz_get, List.getElem?_eq_getElem hlt] at g2
      have pt := st _ _ p9
      have r21 : rdN t 21 (.ptr pb 0) = some qs := rdN_all pt pk.len
      simp only [g1, g2, Option.map_some, r21, optK_mk]
      refine optK_of (fill_sent pk.len) (optK_of (fill_one (zs := zSent) (by rw [List.length_cons, pk.len]; rfl)) ⟨by rw [allOne_cons, pk.one]; rfl, new_step fun xb t5 hxb x5 v5 => ?_⟩)
      have sub5 := v5.sub hxb
      have lit : SlR 22 t5 (.slc xb 0 1 (some 1) 22) (sentR qs [rl[i]]) := SlR.mk (by intro r hr; simp only [sentR, List.map_cons, List.map_nil, List.mem_singleton] at hr; subst hr; rw [List.length_cons, pk.len]) (by simpa [sentR] using x5) rfl (by simp [sentR])
      refine (ac.sub sub5).app lit (by simp [sentR]) ?_ (st.trans sub5) fun v' t6 a6 s6 => ?_
      · simp only [sentR, List.length_map, List.length_take, List.length_cons, List.length_nil]; omega
      · simp only [arith_add, optK_mk]
        rw [wrap64 (by omega) (by omega)]
        refine ⟨_, by omega, i + 1, v', rfl, by omega, rfl, s6, ?_⟩
        have : sentR qs (rl.take (i + 1)) = sentR qs (rl.take i) ++ sentR qs [rl[i]] := by
          unfold sentR
          rw [List.take_add_one, List.getElem?_eq_getElem hlt, List.map_append]; rfl
        rw [this]; exact a6
    · have hge2 : i = rl.length := by have := of_decide_eq_false hge2; omega
      subst hge2
      rw [List.take_length] at ac
      have := hK lv t (sub09.trans st) (by rw [e]; exact ac.sl)
      rw [e] at this
      exact this
theorem SameS_in {rows : List (List AVal)} (h : SlR 22 s v rows) (h' : SlR 22 s w rows) (hl : rows.length ≤ 1000000) (he : ∀ r ∈ rows, eqAgg Try.prog 60 (.agg r) (.agg r) = some true) (hK : K (.bool true) s) : wpCall Try.prog XX 25 [v, w] K s := by
  refine vlkit_Same_api_Sent__in ?_
  simp only [vlkit_Same_api_Sent_, h.len, h'.len, eqV_int, negB_mk, Bool.true_bne, beq_self_eq_true, Bool.not_true, boolK_false, optK_mk]
  refine ⟨fun ys t m => ∃ i : Nat, ys = [.int .i64 i] ∧ t = s ∧ i ≤ rows.length ∧ m = rows.length - i, ⟨_, 0, rfl, rfl, by omega, rfl⟩, ?_⟩
  rintro f t m ⟨i, hy, rfl, hi, rfl⟩
  simp only [List.cons.injEq, and_true] at hy
  rw [hy]
  simp only [vlkit_Same_api_Sent__l0, h.len, arith_lss, optK_mk]
  refine boolK_mk (fun hlt => ?_) (fun hge => hK)
  have hlt : i < rows.length := by have := of_decide_eq_true hlt; omega
  obtain ⟨b, o, g1, g2, _⟩ := h.get (i := i) (r := rows[i]) (List.getElem?_eq_getElem hlt)
  obtain ⟨b', o', g3, g4, _⟩ := h'.get (i := i) (r := rows[i]) (List.getElem?_eq_getElem hlt)
  simp only [g1, g2, g3, g4, he _ (List.getElem_mem hlt), negB_mk, Bool.true_bne, Bool.not_true, boolK_false, arith_add, optK_mk]
  rw [wrap64 (by omega) (by omega)]
  exact ⟨_, by omega, i + 1, rfl, by trivial, by omega, rfl⟩
end Go.AM
namespace Go.AM
open Go Go.Proofs
variable {K : AVal → Heap → Prop} {s s' s0 t : Heap} {v : AVal}
/-! ### packets that are given -/
set_option maxRecDepth 100000 in
theorem inp_45 {d : Nat} {xs : List AVal} (h : Inp Try.prog s (d + 2) 45 xs) : ∃ a0 a1 a2 a3 a4 : Int, xs = [.int .i64 a0, .int .u64 a1, .int .u32 a2, .int .u64 a3, .int .u32 a4] := by
  unfold Inp at h
  simp only [Try.underlying45] at h
  obtain ⟨h1, h2⟩ := h
  rw [show Try.prog.cellsOf 45 = 5 by kernel_rfl] at h1
  have k0 := h2 _ List.mem_cons_self
  have k1 := h2 _ (List.mem_cons_of_mem _ List.mem_cons_self)
  have k2 := h2 _ (List.mem_cons_of_mem _ (List.mem_cons_of_mem _ List.mem_cons_self))
  have k3 := h2 _ (List.mem_cons_of_mem _ (List.mem_cons_of_mem _ (List.mem_cons_of_mem _ List.mem_cons_self)))
  have k4 := h2 _ (List.mem_cons_of_mem _ (List.mem_cons_of_mem _ (List.mem_cons_of_mem _ (List.mem_cons_of_mem _ List.mem_cons_self))))
  match xs, h1 with
  | [c0, c1, c2, c3, c4], _ =>
    obtain ⟨n0, e0, _⟩ := inp_int (xs := [c0]) Try.underlying3 k0
    obtain ⟨n1, e1, _⟩ := inp_int (xs := [c1]) Try.underlying43 k1
    obtain ⟨n2, e2, _⟩ := inp_int (xs := [c2]) Try.underlying27 k2
    obtain ⟨n3, e3, _⟩ := inp_int (xs := [c3]) Try.underlying43 k3
    obtain ⟨n4, e4, _⟩ := inp_int (xs := [c4]) Try.underlying27 k4
    cases e0; cases e1; cases e2; cases e3; cases e4
    exact ⟨n0, n1, n2, n3, n4, rfl⟩
set_option maxRecDepth 100000 in
theorem inp_47 {d : Nat} {xs : List AVal} (h : Inp Try.prog s (d + 2) 47 xs) : ∃ a0 a1 a2 a3 a4 a5 : Int, xs = [.int .u32 a0, .int .u32 a1, .int .i64 a2, .int .i64 a3, .int .i64 a4, .int .i64 a5] := by
  unfold Inp at h
  simp only [Try.underlying47] at h
  obtain ⟨h1, h2⟩ := h
  rw [show Try.prog.cellsOf 47 = 6 by kernel_rfl] at h1
  have k0 := h2 _ List.mem_cons_self
  have k1 := h2 _ (List.mem_cons_of_mem _ List.mem_cons_self)
  have k2 := h2 _ (List.mem_cons_of_mem _ (List.mem_cons_of_mem _ List.mem_cons_self))
  have k3 := h2 _ (List.mem_cons_of_mem _ (List.mem_cons_of_mem _ (List.mem_cons_of_mem _ List.mem_cons_self)))
  have k4 := h2 _ (List.mem_cons_of_mem _ (List.mem_cons_of_mem _ (List.mem_cons_of_mem _ (List.mem_cons_of_mem _ List.mem_cons_self))))
  have k5 := h2 _ (List.mem_cons_of_mem _ (List.mem_cons_of_mem _ (List.mem_cons_of_mem _ (List.mem_cons_of_mem _ (List.mem_cons_of_mem _ List.mem_cons_self)))))
  match xs, h1 with
  | [c0, c1, c2, c3, c4, c5], _ =>
    obtain ⟨n0, e0, _⟩ := inp_int (xs := [c0]) Try.underlying27 k0
    obtain ⟨n1, e1, _⟩ := inp_int (xs := [c1]) Try.underlying27 k1
    obtain ⟨n2, e2, _⟩ := inp_int (xs := [c2]) Try.underlying3 k2
    obtain ⟨n3, e3, _⟩ := inp_int (xs := [c3]) Try.underlying3 k3
    obtain ⟨n4, e4, _⟩ := inp_int (xs := [c4]) Try.underlying3 k4
    obtain ⟨n5, e5, _⟩ := inp_int (xs := [c5]) Try.underlying3 k5
    cases e0; cases e1; cases e2; cases e3; cases e4; cases e5
    exact ⟨n0, n1, n2, n3, n4, n5, rfl⟩
set_option maxRecDepth 100000 in
theorem inp_49 {d : Nat} {xs : List AVal} (h : Inp Try.prog s (d + 3) 49 xs) : ∃ a0 a1 a2 a3 a4 a5 a6 a7 a8 a9 a10 a11 a12 a13 a14 : Int, xs = [.int .u64 a0, .int .u64 a1, .int .i64 a2, .int .i64 a3, .int .u64 a4, .int .u32 a5, .int .u64 a6, .int .u32 a7, .int .u32 a8, .int .u32 a9, .int .i64 a10, .int .i64 a11, .int .i64 a12, .int .i64 a13, .int .u64 a14] := by
  unfold Inp at h
  simp only [Try.underlying49] at h
  obtain ⟨h1, h2⟩ := h
  rw [show Try.prog.cellsOf 49 = 15 by kernel_rfl] at h1
  have k0 := h2 _ List.mem_cons_self
  have k1 := h2 _ (List.mem_cons_of_mem _ List.mem_cons_self)
  have k2 := h2 _ (List.mem_cons_of_mem _ (List.mem_cons_of_mem _ List.mem_cons_self))
  have k3 := h2 _ (List.mem_cons_of_mem _ (List.mem_cons_of_mem _ (List.mem_cons_of_mem _ List.mem_cons_self)))
  have k4 := h2 _ (List.mem_cons_of_mem _ (List.mem_cons_of_mem _ (List.mem_cons_of_mem _ (List.mem_cons_of_mem _ List.mem_cons_self))))
  have k5 := h2 _ (List.mem_cons_of_mem _ (List.mem_cons_of_mem _ (List.mem_cons_of_mem _ (List.mem_cons_of_mem _ (List.mem_cons_of_mem _ List.mem_cons_self)))))
  match xs, h1 with
  | [c0, c1, c2, c3, c4, c5, c6, c7, c8, c9, c10, c11, c12, c13, c14], _ =>
    obtain ⟨n0, e0, _⟩ := inp_int (xs := [c0]) Try.underlying43 k0
    obtain ⟨n1, e1, _⟩ := inp_int (xs := [c1]) Try.underlying43 k1
    obtain ⟨n2, e2, _⟩ := inp_int (xs := [c2]) Try.underlying3 k2
    obtain ⟨n3, n4, n5, n6, n7, e3⟩ := inp_45 (d := d) (xs := [c3, c4, c5, c6, c7]) k3
    obtain ⟨n8, n9, n10, n11, n12, n13, e4⟩ := inp_47 (d := d) (xs := [c8, c9, c10, c11, c12, c13]) k4
    obtain ⟨n14, e5, _⟩ := inp_int (xs := [c14]) Try.underlying42 k5
    cases e0; cases e1; cases e2; cases e3; cases e4; cases e5
    exact ⟨n0, n1, n2, n3, n4, n5, n6, n7, n8, n9, n10, n11, n12, n13, n14, rfl⟩
def pkt (a0 a1 a2 a3 a4 a5 a6 a7 a8 a9 a10 a11 a12 a13 a14 a15 a16 a17 a18 a19 a20 : Int) : List AVal := [.int .u32 a0, .int .u32 a1, .int .i64 a2, .int .i64 a3, .int .u32 a4, .int .u32 a5, .int .u64 a6, .int .u64 a7, .int .i64 a8, .int .i64 a9, .int .u64 a10, .int .u32 a11, .int .u64 a12, .int .u32 a13, .int .u32 a14, .int .u32 a15, .int .i64 a16, .int .i64 a17, .int .i64 a18, .int .i64 a19, .int .u64 a20]
set_option maxRecDepth 100000 in
theorem arg_pkt {d : Nat} (h : Arg Try.prog s (d + 4) 51 v) : ∃ a0 a1 a2 a3 a4 a5 a6 a7 a8 a9 a10 a11 a12 a13 a14 a15 a16 a17 a18 a19 a20 : Int, v = .agg (pkt a0 a1 a2 a3 a4 a5 a6 a7 a8 a9 a10 a11 a12 a13 a14 a15 a16 a17 a18 a19 a20) ∧ (Lit.int .u32 a1).wf = true ∧ (Lit.int .i64 a2).wf = true := by
  obtain ⟨h1, h2, _⟩ := h
  have ha : isAggT Try.prog 51 = some true := by kernel_rfl
  obtain ⟨l, rfl, _⟩ := h2 ha
  rw [cells_agg] at h1
  unfold Inp at h1
  simp only [Try.underlying51] at h1
  obtain ⟨g1, g2⟩ := h1
  rw [show Try.prog.cellsOf 51 = 21 by kernel_rfl] at g1
  have k0 := g2 _ List.mem_cons_self
  have k1 := g2 _ (List.mem_cons_of_mem _ List.mem_cons_self)
  have k2 := g2 _ (List.mem_cons_of_mem _ (List.mem_cons_of_mem _ List.mem_cons_self))
  have k3 := g2 _ (List.mem_cons_of_mem _ (List.mem_cons_of_mem _ (List.mem_cons_of_mem _ List.mem_cons_self)))
  have k4 := g2 _ (List.mem_cons_of_mem _ (List.mem_cons_of_mem _ (List.mem_cons_of_mem _ (List.mem_cons_of_mem _ List.mem_cons_self))))
  have k5 := g2 _ (List.mem_cons_of_mem _ (List.mem_cons_of_mem _ (List.mem_cons_of_mem _ (List.mem_cons_of_mem _ (List.mem_cons_of_mem _ List.mem_cons_self)))))
  have k6 := g2 _ (List.mem_cons_of_mem _ (List.mem_cons_of_mem _ (List.mem_cons_of_mem _ (List.mem_cons_of_mem _ (List.mem_cons_of_mem _ (List.mem_cons_of_mem _ List.mem_cons_self))))))
  match l, g1 with
  | [c0, c1, c2, c3, c4, c5, c6, c7, c8, c9, c10, c11, c12, c13, c14, c15, c16, c17, c18, c19, c20], _ =>
    obtain ⟨n0, e0, w0⟩ := inp_int (xs := [c0]) Try.underlying27 k0
    obtain ⟨n1, e1, w1⟩ := inp_int (xs := [c1]) Try.underlying27 k1
    obtain ⟨n2, e2, w2⟩ := inp_int (xs := [c2]) Try.underlying3 k2
    obtain ⟨n3, e3, w3⟩ := inp_int (xs := [c3]) Try.underlying3 k3
    obtain ⟨n4, e4, w4⟩ := inp_int (xs := [c4]) Try.underlying26 k4
    obtain ⟨n5, e5, w5⟩ := inp_int (xs := [c5]) Try.underlying26 k5
    obtain ⟨n6, n7, n8, n9, n10, n11, n12, n13, n14, n15, n16, n17, n18, n19, n20, e6⟩ := inp_49 (d := d) (xs := [c6, c7, c8, c9, c10, c11, c12, c13, c14, c15, c16, c17, c18, c19, c20]) k6
    cases e0; cases e1; cases e2; cases e3; cases e4; cases e5; cases e6
    exact ⟨n0, n1, n2, n3, n4, n5, n6, n7, n8, n9, n10, n11, n12, n13, n14, n15, n16, n17, n18, n19, n20, rfl, w1, w2⟩
theorem pkt_ok {a0 a1 a2 a3 a4 a5 a6 a7 a8 a9 a10 a11 a12 a13 a14 a15 a16 a17 a18 a19 a20 : Int} : PkR (pkt a0 a1 a2 a3 a4 a5 a6 a7 a8 a9 a10 a11 a12 a13 a14 a15 a16 a17 a18 a19 a20) a1 a2 := ⟨rfl, rfl, rfl, rfl⟩
theorem pkt_set {a0 a1 a2 a3 a4 a5 a6 a7 a8 a9 a10 a11 a12 a13 a14 a15 a16 a17 a18 a19 a20 x : Int} : (pkt a0 a1 a2 a3 a4 a5 a6 a7 a8 a9 a10 a11 a12 a13 a14 a15 a16 a17 a18 a19 a20).set 2 (.int .i64 x) = pkt a0 a1 x a3 a4 a5 a6 a7 a8 a9 a10 a11 a12 a13 a14 a15 a16 a17 a18 a19 a20 := rfl
set_option maxRecDepth 100000 in
theorem sent_self {i a0 a1 a2 a3 a4 a5 a6 a7 a8 a9 a10 a11 a12 a13 a14 a15 a16 a17 a18 a19 a20 : Int} : eqAgg Try.prog 60 (.agg (.int .i64 i :: pkt a0 a1 a2 a3 a4 a5 a6 a7 a8 a9 a10 a11 a12 a13 a14 a15 a16 a17 a18 a19 a20)) (.agg (.int .i64 i :: pkt a0 a1 a2 a3 a4 a5 a6 a7 a8 a9 a10 a11 a12 a13 a14 a15 a16 a17 a18 a19 a20)) = some true := aDef_ok Try.prog 30 60 (.agg (.int .i64 i :: pkt a0 a1 a2 a3 a4 a5 a6 a7 a8 a9 a10 a11 a12 a13 a14 a15 a16 a17 a18 a19 a20)) (by kernel_rfl)
end Go.AM
namespace Go.AM
open Go Go.Proofs
variable {K : AVal → Heap → Prop} {s s' s0 t : Heap} {U : List Bool} {L : List RLk} {lnv upv v w dv mv : AVal} {lf sp sf g fr ttl : Int} {N r : Nat} {d ds : Nat → Int} {es : List Int} {ps : List AVal}
/-! ### TreeNext -/
theorem TreeNext_in (hn : NetA s L U lnv upv) (hg : 0 ≤ g ∧ g < 4294967296) (ht : -9223372036854775808 ≤ ttl ∧ ttl ≤ 9223372036854775807) (hm : Sl s mv (izs es)) (hp : PkR ps g ttl)
    (hself : ∀ i : Int, eqAgg Try.prog 60 (.agg (.int .i64 i :: ps.set 2 (.int .i64 (ttl - 1)))) (.agg (.int .i64 i :: ps.set 2 (.int .i64 (ttl - 1)))) = some true) (hK : ∀ s, K (.bool true) s) : wpCall Try.prog XX 4 [.agg (netC lf sp lnv upv), .int .i64 sf, mv, .agg ps, .int .i64 fr] K s := by
  refine vllaw15_TreeNext_in (hn.box fun b s0 hb h0 u0 => ⟨hp.one, new_step fun pb s1 hpb p1 u1 => ?_⟩)
  have p1 : s1 pb = some (false, .cells 51 ps) := p1
  have sub0 := u0.sub hb
  have sub1 := sub0.trans (u1.sub hpb)
  have h1 := u1.sub hpb _ _ h0
  simp only [net4 h1, optK_mk]
  refine large_in (k := es.length) (hn.sub sub1) (by rw [hm.len, List.length_map]) fun s2 sub2 => ?_
  have h2 := sub2 _ _ h1
  have p2 := sub2 _ _ p1
  have sub02 := sub1.trans sub2
  cases hl : larg L U es.length with
  | true =>
    simp only [boolK_true]
    exact known_in (.inr rfl) (hK _)
  | false =>
  obtain ⟨c1, c2, c3⟩ := larg_false hl
  have hr : NetR s2 L U lnv upv := (hn.sub sub02).net ⟨c1, c2⟩
  simp only [boolK_false, net4 h2, optK_mk]
  refine copied_in hr fun ln' up' s3 sub3 hr3 => ?_
  have sub03 := sub02.trans sub3
  refine OwnI_in (hm.sub sub03) (by omega) fun mv' s4 sub4 hm4 => ?_
  have sub04 := sub03.trans sub4
  have hr4 := hr3.sub sub4
  refine new_step fun b2 s5 hb2 h5 u5 => wrAgg_step h5 rfl rfl hr4.one fun s6 h6 u6 => ?_
  have h6 : s6 b2 = some (false, .cells 25 (netC lf sp ln' up')) := h6
  have sub46 : Sub s4 s6 := sub_upto (u5.sub hb2) u6 hb2
  have sub06 := sub04.trans sub46
  have sub26 := (sub3.trans sub4).trans sub46
  have hr6 := hr4.sub sub46
  have hq6 := hr.sub sub26
  have hm6 := hm4.sub sub46
  have hl6 := hm.sub sub06
  have h16 := sub26 _ _ h2
  have p6 := sub26 _ _ p2
  clear h5 u5 u6 hb2 sub46 sub26 hr3 hr4 hm4 sub03 sub04 hr
  simp only [net4 h6, addOff_ptr, Nat.zero_add, rd1_mk p6, hp.dst, optK_mk]
  refine Next15_in hr6 hg hm6 (by omega) fun v7 s7 e7 _ sub7 => ?_
  have x0 : ∀ {a : AVal} {b : Bool}, extractA (.tup [a, .bool b]) 0 = some a := rfl
  have x1 : ∀ {a : AVal} {b : Bool}, extractA (.tup [a, .bool b]) 1 = some (.bool b) := rfl
  have y0 : ∀ {a : AVal} {b : Bool} {c : Int}, extractA (.tup [a, .bool b, .int .i64 c]) 0 = some a := rfl
  have y1 : ∀ {a : AVal} {b : Bool} {c : Int}, extractA (.tup [a, .bool b, .int .i64 c]) 1 = some (.bool b) := rfl
  have y2 : ∀ {a : AVal} {b : Bool} {c : Int}, extractA (.tup [a, .bool b, .int .i64 c]) 2 = some (.int .i64 c) := rfl
  simp only [x0, x1, net4 (sub7 _ _ h16), addOff_ptr, Nat.zero_add, rd1_mk (sub7 _ _ p6), hp.dst, optK_mk]
  refine rNext15_in (hq6.sub sub7) hg (hl6.sub sub7) (by omega) fun v8 s8 e8 _ sub8 => ?_
  have sub68 := sub7.trans sub8
  have r21 : ∀ {t : Heap}, t pb = some (false, .cells 51 ps) → rdN t 21 (.ptr pb 0) = some ps := fun h => rdN_all h hp.len
  simp only [x0, x1, net4 (sub68 _ _ h6), r21 (sub68 _ _ p6), optK_mk]
  refine Forward15_in (hr6.sub sub68) hg ht (hm6.sub sub68) (by omega) hp fun v9 s9 sub9 e9 => ?_
  have sub69 := sub68.trans sub9
  simp only [y0, y1, y2, net4 (sub69 _ _ h16), r21 (sub69 _ _ p6), optK_mk]
  refine rForward15_in (hq6.sub sub69) hg ht (hl6.sub sub69) (by omega) hp fun v10 s10 sub10 e10 => ?_
  have sub610 := sub69.trans sub10
  simp only [y0, y1, y2, optK_mk]
  have ei : ∀ {T : List Nat}, iz T = izs (T.map fun (n : Nat) => (n : Int)) := fun {T} => by
    unfold iz
    exact (List.map_map ..).symm
  have e7 := e7.sub ((sub8.trans sub9).trans sub10)
  have e8 := e8.sub (sub9.trans sub10)
  rw [ei] at e7 e8
  have nl := nextN_len (lf := lf) (sp := sp) (L := L) (U := U) (sf := sf) (g := g) (es := es) (fr := fr)
  refine Same_in e7 e8 (by rw [List.length_map]; omega) fun r hr0 => ?_
  rw [hr0.2 rfl]
  have fl : (fwdN lf sp L U sf es g ttl fr).1.length ≤ 60 := by
    unfold fwdN
    split
    · split
      · exact Nat.zero_le _
      · split
        · exact Nat.zero_le _
        · show (nextN lf sp L U sf g es fr).1.length ≤ 60
          omega
    · exact Nat.zero_le _
  simp only [boolK_true, eqB_same, negB_mk, Bool.false_bne, vllaw15_TreeNext_j0, pickV_true, optK_mk]
  refine SameS_in (e9.sl.sub sub10) e10 (by unfold sentR; rw [List.length_map]; omega) (fun r hr => by
    unfold sentR at hr
    obtain ⟨i, _, rfl⟩ := List.mem_map.1 hr
    exact hself i) ?_
  have a := hr6.sub sub610
  have a' := hq6.sub sub610
  have h110 := sub610 _ _ h16
  have h210 := sub610 _ _ h6
  simp only [vllaw15_TreeNext_j1, vllaw15_TreeNext_j2, vllaw15_TreeNext_j3, pickV_true, boolK_true, eqB_same, eqV_int, beq_self_eq_true, negB_mk, Bool.false_bne, addOff_ptr, Nat.zero_add, net2 h110, net2 h210, optK_mk]
  refine SameL_in a.l a'.l (by rw [List.length_map]; omega) (fun r hr => by obtain ⟨x, _, rfl⟩ := List.mem_map.1 hr; exact lk_self x) ?_
  simp only [vllaw15_TreeNext_j4, pickV_true, boolK_true, addOff_ptr, Nat.zero_add, net3 h110, net3 h210, optK_mk]
  refine SameB_in a.u a'.u (by omega) ?_
  simp only [vllaw15_TreeNext_j5, pickV_true, boolK_true, optK_mk]
  refine Same_in (hm6.sub sub610) (hl6.sub sub610) (by omega) fun r hr0 => ?_
  rw [hr0.2 rfl]
  simp only [vllaw15_TreeNext_j6, pickV_true, boolK_true, optK_mk]
  refine known_in (.inr rfl) ?_
  simp only [vllaw15_TreeNext_j7, pickV_true, optK_mk]
  exact hK _
theorem argl5 {P : Program} {d : Nat} {t u w y z : TypeId} {xs : List AVal} (h : ArgL P s d [t, u, w, y, z] xs) : ∃ a b c e f, xs = [a, b, c, e, f] ∧ Arg P s d t a ∧ Arg P s d u b ∧ Arg P s d w c ∧ Arg P s d y e ∧ Arg P s d z f := by
  match xs, h with
  | [a, b, c, e, f], ⟨h1, h2, h3, h4, h5, _⟩ => exact ⟨a, b, c, e, f, rfl, h1, h2, h3, h4, h5⟩
set_option maxRecDepth 100000 in
theorem Next_wp (s : Heap) (xs : List AVal) (h : ArgL Try.prog s 40 [25, 3, 28, 51, 3] xs) : wpCall Try.prog XX 4 xs (fun v _ => v = .bool true) s := by
  obtain ⟨a, b, c, e, f, rfl, h1, h2, h3, h4, h5⟩ := argl5 h
  obtain ⟨lf, sp, L, U, lnv, upv, rfl, hn, w1, w2⟩ := arg_net (d := 36) h1
  obtain ⟨sf, rfl, _⟩ := arg_int (k := .i64) Try.underlying3 h2
  obtain ⟨es, hm, _⟩ := arg_slice (d := 38) Try.underlying28 (by kernel_rfl) (AVal.int .i64) (fun _ => True) (fun xs h => by obtain ⟨n, e, _⟩ := inp_int Try.underlying3 h; exact ⟨n, e, trivial⟩) h3
  obtain ⟨a0, a1, a2, a3, a4, a5, a6, a7, a8, a9, a10, a11, a12, a13, a14, a15, a16, a17, a18, a19, a20, rfl, w3, w4⟩ := arg_pkt (d := 36) h4
  obtain ⟨fr, rfl, _⟩ := arg_int (k := .i64) Try.underlying3 h5
  exact TreeNext_in hn (bdu32 w3) (bd64 w4) hm pkt_ok (fun i => by rw [pkt_set]; exact sent_self) fun _ => rfl
end Go.AM
