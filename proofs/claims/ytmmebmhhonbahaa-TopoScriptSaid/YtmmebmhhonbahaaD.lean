/- Part D of a calculus over a small memory that is proved to answer as the program does, and of its use for the functions that the law reaches: see the last part. -/
import Derived.Test.YtmmebmhhonbahaaC
import Derived.Test.YtmmebmhhonbahaaV
namespace Go.AM
open Go Go.Proofs
variable {K : AVal → Heap → Prop} {s s' s0 : Heap} {t : Bool} {g : Nat} {lv : AVal} {N : Nat} {lu nu : Nat → Bool} {L : List Lk} {n : Int}
theorem sl_one {v : AVal} {l : List AVal} (h : Sl s v l) : v.one = true := by
  rcases h with ⟨rfl, _⟩ | ⟨b, o, c, rfl, _⟩ <;> rfl
theorem frz_no {b : Nat} (h : frz s b = none) : s b = none := by
  cases q : s b with
  | none => rfl
  | some y => rw [show frz s b = some (true, y.2) from frz_some (t := y.1) q] at h; cases h
theorem add_at {b : Nat} (h : s b = none) : add s s' b = s' b := by unfold add; rw [h]
theorem Gr.old {s1 : Heap} (z : Gr s1 s g lv N L lu nu) (h : Sub s0 s1) : Gr s0 s g lv N L lu nu := by
  have no : ∀ b, s1 b = none → s0 b = none := fun b hb => by
    cases q : s0 b with
    | none => rfl
    | some y => rw [h b y q] at hb; cases hb
  exact ⟨z.rd, no _ z.fg, fun b o n c e hne => no _ (z.fl b o n c e hne), z.ap⟩
theorem Gr.to (z : Gr s0 s g lv N L lu nu) (h : Sub s s') : Gr s0 s' g lv N L lu nu := ⟨z.rd.sub h, z.fg, z.fl, z.ap⟩
theorem Gr.add (z : Gr (frz s) s' g lv N L lu nu) : Gr s (add s s') g lv N L lu nu := by
  obtain ⟨⟨⟨a, b, c, d, h1, h2⟩, h3, h4⟩, hg, hl, ha⟩ := z
  refine ⟨⟨⟨a, b, c, d, by rw [add_at (frz_no hg)]; exact h1, h2⟩, ?_, h4⟩, frz_no hg, fun b o n c e hne => frz_no (hl b o n c e hne), ha⟩
  refine h3.keep (fp := fun b => s b ≠ none) (fun b e he hn => ?_) fun b o n c e hne => ?_
  · have : s b = none := by
      cases q : s b with
      | none => rfl
      | some y => exact absurd (show s b ≠ none by rw [q]; simp) hn
    rw [add_at this]; exact he
  · have := frz_no (hl b o n c e (by simpa using hne))
    simp [this]
/-- the numbers below m that are not in a list -/
def dwn (m : Nat) (D : List Int) : Nat → Bool := fun j => decide (j < m ∧ (j : Int) ∉ D)
theorem dwn_nil {m : Nat} : (fun j => decide (j < m)) = dwn m [] := by funext j; simp [dwn]
theorem dwn_in {m : Nat} {D : List Int} {x : Int} (h : 0 ≤ x ∧ x < m) : upd1 (dwn m D) x.toNat false = dwn m (D ++ [x]) := by
  funext j
  unfold upd1
  by_cases e : j = x.toNat
  · rw [if_pos e]
    have : (j : Int) = x := by omega
    simp [dwn, this]
  · rw [if_neg e]
    have : ¬ (j : Int) = x := by omega
    simp [dwn, this]
theorem dwn_out {m : Nat} {D : List Int} {x : Int} (h : ¬ (0 ≤ x ∧ x < m)) : dwn m (D ++ [x]) = dwn m D := by
  funext j
  by_cases hj : j < m
  · have : ¬ (j : Int) = x := by omega
    simp [dwn, this]
  · simp [dwn, hj]
def mOk (n : Int) (L : List Lk) (DN DL : List Int) : Prop := (L.length ≤ 60 ∧ DN.length ≤ 60 ∧ DL.length ≤ 60) ∧ newE n L = 0
theorem take_succ_at {α : Type} {l : List α} {i : Nat} (h : i < l.length) : l.take (i + 1) = l.take i ++ [l[i]] := by rw [List.take_add_one, List.getElem?_eq_getElem h]; rfl
theorem made_in {dn dl : AVal} {DN DL : List Int} (hs : SlR 3 s lv (L.map lkR)) (hdn : Sl s dn (izs DN)) (hdl : Sl s dl (izs DL))
    (hE : ¬ mOk n L DN DL → ∀ s', Sub s s' → K .nilptr s') (hK : mOk n L DN DL → ∀ N : Nat, n = N → ∀ s' g lv', Sub s s' → Gr s s' g lv' N L (dwn L.length DL) (dwn N DN) → K (.ptr g 0) s') : wpCall Try.prog XX 28 [.agg [.int .i64 n, lv, dn, dl]] K s := by
  have ho : allOne [AVal.int .i64 n, lv, dn, dl] = true := by rw [allOne_cons, allOne_cons, allOne_cons, allOne_cons, hs.one, sl_one hdn, sl_one hdl]; rfl
  refine vc_leafmeshlaw09_made_in ⟨ho, new_step fun b s1 hb h1 u1 => ?_⟩
  have sub1 := u1.sub hb
  have h1 : s1 b = some (false, .cells 52 [.int .i64 n, lv, dn, dl]) := h1
  have k1 := hs.sub sub1
  have k2 := hdn.sub sub1
  have k3 := hdl.sub sub1
  have q0 : [AVal.int .i64 n, lv, dn, dl][0]? = some (.int .i64 n) := rfl
  have q1 : [AVal.int .i64 n, lv, dn, dl][1]? = some lv := rfl
  have q2 : [AVal.int .i64 n, lv, dn, dl][2]? = some dn := rfl
  have q3 : [AVal.int .i64 n, lv, dn, dl][3]? = some dl := rfl
  simp only [addOff_ptr, Nat.zero_add, rd1_mk h1, q1, k1.len, List.length_map, arith_gtr, optK_mk]
  by_cases c1 : 60 < L.length
  · simp only [decide_eq_true (show (60 : Int) < L.length by omega), boolK_true, vc_leafmeshlaw09_made_j0, vc_leafmeshlaw09_made_j1, pickV_true, optK_mk]
    exact hE (fun h => by have := h.1.1; omega) s1 sub1
  simp only [decide_eq_false (show ¬ (60 : Int) < L.length by omega), boolK_false, addOff_ptr, Nat.zero_add, rd1_mk h1, q2, k2.len, List.length_map, arith_gtr, optK_mk]
  by_cases c2 : 60 < DN.length
  · simp only [decide_eq_true (show (60 : Int) < DN.length by omega), boolK_true, vc_leafmeshlaw09_made_j0, vc_leafmeshlaw09_made_j1, pickV_true, pickV_false, optK_mk]
    exact hE (fun h => by have := h.1.2.1; omega) s1 sub1
  simp only [decide_eq_false (show ¬ (60 : Int) < DN.length by omega), vc_leafmeshlaw09_made_j0, pickV_false, boolK_false, addOff_ptr, Nat.zero_add, rd1_mk h1, q3, k3.len, List.length_map, arith_gtr, optK_mk]
  by_cases c3 : 60 < DL.length
  · simp only [decide_eq_true (show (60 : Int) < DL.length by omega), boolK_true, vc_leafmeshlaw09_made_j1, pickV_true, pickV_false, optK_mk]
    exact hE (fun h => by have := h.1.2.2; omega) s1 sub1
  simp only [decide_eq_false (show ¬ (60 : Int) < DL.length by omega), vc_leafmeshlaw09_made_j1, pickV_false, boolK_false, addOff_ptr, Nat.zero_add, rd1_mk h1, q0, q1, optK_mk]
  refine New_in k1 (by omega) (fun he s2 sub2 => ?_) fun he N hN s2 g lv' sub2 z2 => ?_
  · simp only [extract0, extract1, optK_mk, eqV_int, negB_mk, Bool.true_bne]
    have : (!(newE n L == 0)) = true := by simp [he]
    rw [this]
    simp only [boolK_true]
    exact hE (fun h => he h.2) s2 (sub1.trans sub2)
  · subst hN
    simp only [extract0, extract1, optK_mk, eqV_int, negB_mk, Bool.true_bne]
    have : (!((0 : Int) == 0)) = false := rfl
    rw [this]
    simp only [boolK_false]
    rw [dwn_nil, dwn_nil] at z2
    refine ⟨fun ys s2 m => ∃ i : Nat, ys = [.int .i64 i] ∧ i ≤ DN.length ∧ m = DN.length - i ∧ Sub s1 s2 ∧ Gr s1 s2 g lv' N L (dwn L.length []) (dwn N (DN.take i)), ⟨_, 0, rfl, by omega, rfl, sub2, z2⟩, ?_⟩
    rintro f s3 m ⟨i, hy, hi, rfl, sub3, z3⟩
    simp only [List.cons.injEq, and_true] at hy
    rw [hy]
    have k4 := k2.sub sub3
    simp only [vc_leafmeshlaw09_made_l2, addOff_ptr, Nat.zero_add, rd1_mk (sub3 _ _ h1), q2, k4.len, List.length_map, arith_lss, optK_mk]
    refine boolK_mk (fun hlt => ?_) (fun hge => ?_)
    · have hlt : i < DN.length := by have := of_decide_eq_true hlt; omega
      obtain ⟨p, g1, g2⟩ := k4.get (i := i) (by rw [List.length_map]; exact hlt)
      have e1 : (izs DN)[i]? = some (.int .i64 DN[i]) := by simp [hlt]
      rw [e1] at g2
      simp only [addOff_ptr, Nat.zero_add, rd1_mk (sub3 _ _ h1), q2, g1, g2, optK_mk]
      have fin : ∀ s4, Sub s1 s4 → Gr s1 s4 g lv' N L (dwn L.length []) (dwn N (DN.take (i + 1))) → optK (arithV .add (.int .i64 (i : Int)) (.int .i64 1)) fun v_29 => ∃ m', m' < DN.length - i ∧ (fun ys s2 m => ∃ i : Nat, ys = [AVal.int .i64 i] ∧ i ≤ DN.length ∧ m = DN.length - i ∧ Sub s1 s2 ∧ Gr s1 s2 g lv' N L (dwn L.length []) (dwn N (DN.take i))) [v_29] s4 m' := fun s4 a b => by
        simp only [arith_add, optK_mk]
        rw [wrap64 (by omega) (by omega)]
        exact ⟨_, by omega, i + 1, rfl, by omega, rfl, a, b⟩
      refine SetNode_in z3.rd z3.ap (fun hx => ?_) fun s4 hx z4 u4 => ?_
      · refine fin s3 sub3 ?_
        rw [take_succ_at hlt, dwn_out hx]; exact z3
      · refine fin s4 (sub3.upto u4 z3.fg) ?_
        rw [dwn_in hx] at z4
        rw [take_succ_at hlt]
        exact ⟨z4, z3.fg, z3.fl, z3.ap⟩
    · have hge : i = DN.length := by have := of_decide_eq_false hge; omega
      rw [hge, List.take_length] at z3
      refine ⟨fun ys s2 m => ∃ i : Nat, ys = [.int .i64 i] ∧ i ≤ DL.length ∧ m = DL.length - i ∧ Sub s1 s2 ∧ Gr s1 s2 g lv' N L (dwn L.length (DL.take i)) (dwn N DN), ⟨_, 0, rfl, by omega, rfl, sub3, z3⟩, ?_⟩
      rintro f s5 m ⟨i, hy, hi, rfl, sub5, z5⟩
      simp only [List.cons.injEq, and_true] at hy
      rw [hy]
      have k6 := k3.sub sub5
      simp only [vc_leafmeshlaw09_made_l3, addOff_ptr, Nat.zero_add, rd1_mk (sub5 _ _ h1), q3, k6.len, List.length_map, arith_lss, optK_mk]
      refine boolK_mk (fun hlt => ?_) (fun hge => ?_)
      · have hlt : i < DL.length := by have := of_decide_eq_true hlt; omega
        obtain ⟨p, g1, g2⟩ := k6.get (i := i) (by rw [List.length_map]; exact hlt)
        have e1 : (izs DL)[i]? = some (.int .i64 DL[i]) := by simp [hlt]
        rw [e1] at g2
        simp only [addOff_ptr, Nat.zero_add, rd1_mk (sub5 _ _ h1), q3, g1, g2, optK_mk]
        have fin : ∀ s4, Sub s1 s4 → Gr s1 s4 g lv' N L (dwn L.length (DL.take (i + 1))) (dwn N DN) → optK (arithV .add (.int .i64 (i : Int)) (.int .i64 1)) fun v_29 => ∃ m', m' < DL.length - i ∧ (fun ys s2 m => ∃ i : Nat, ys = [AVal.int .i64 i] ∧ i ≤ DL.length ∧ m = DL.length - i ∧ Sub s1 s2 ∧ Gr s1 s2 g lv' N L (dwn L.length (DL.take i)) (dwn N DN)) [v_29] s4 m' := fun s4 a b => by
          simp only [arith_add, optK_mk]
          rw [wrap64 (by omega) (by omega)]
          exact ⟨_, by omega, i + 1, rfl, by omega, rfl, a, b⟩
        refine SetLink_in z5.rd z5.ap (fun hx => ?_) fun s4 hx z4 u4 => ?_
        · refine fin s5 sub5 ?_
          rw [take_succ_at hlt, dwn_out hx]; exact z5
        · refine fin s4 (sub5.upto u4 z5.fg) ?_
          rw [dwn_in hx] at z4
          rw [take_succ_at hlt]
          exact ⟨z4, z5.fg, z5.fl, z5.ap⟩
      · have hge : i = DL.length := by have := of_decide_eq_false hge; omega
        rw [hge, List.take_length] at z5
        exact hK ⟨⟨by omega, by omega, by omega⟩, he⟩ N rfl s5 g lv' (sub1.trans sub5) (z5.old sub1)
end Go.AM
namespace Go.AM
open Go Go.Proofs
variable {K : AVal → Heap → Prop} {s s' s0 : Heap} {t : Bool} {g : Nat} {lv : AVal} {N : Nat} {lu nu lu' nu' : Nat → Bool} {L : List Lk} {n : Int}
/-! ### what a graph answers depends on its state alone -/
theorem upB_congr (lok : LOk N L) (h1 : ∀ j, j < L.length → lu j = lu' j) (h2 : ∀ j, j < N → nu j = nu' j) : upB L lu nu = upB L lu' nu' := by
  funext i
  by_cases hi : i < L.length
  · obtain ⟨a, b, _⟩ := lok.ok _ (List.getElem_mem hi)
    rw [upB_get hi, upB_get hi, h1 i hi, h2 _ (by omega), h2 _ (by omega)]
  · unfold upB; rw [List.getElem?_eq_none (by omega)]
theorem alive_congr (h2 : ∀ j, j < N → nu j = nu' j) : aliveI N nu n = aliveI N nu' n := by
  unfold aliveI
  by_cases h : 0 ≤ n ∧ n < N
  · rw [h2 _ (by omega)]
  · rw [decide_eq_false h]; rfl
theorem nbr_congr (h : upB L lu nu = upB L lu' nu') : nbr L lu nu n = nbr L lu' nu' n := by
  unfold nbr nbrT
  have : edgeAt L lu nu n = edgeAt L lu' nu' n := by funext i; unfold edgeAt; rw [h]
  rw [this]
theorem rc_congr (h : upB L lu nu = upB L lu' nu') {a b : Int} (r : Rc L lu nu a b) : Rc L lu' nu' a b := by
  induction r with
  | refl => exact .refl
  | tail _ h2 ih => exact ih.tail (by unfold nod at h2 ⊢; rwa [nbr_congr h] at h2)
theorem comp_congr (lok : LOk N L) (h1 : ∀ j, j < L.length → lu j = lu' j) (h2 : ∀ j, j < N → nu j = nu' j) : comp N L lu nu n = comp N L lu' nu' n := by
  have h := upB_congr lok h1 h2
  refine asc_ext comp_asc comp_asc fun x => ?_
  rw [mem_comp lok, mem_comp lok, alive_congr h2]
  exact ⟨fun q => ⟨q.1, rc_congr h q.2⟩, fun q => ⟨q.1, rc_congr h.symm q.2⟩⟩
theorem cmps_congr (lok : LOk N L) (h1 : ∀ j, j < L.length → lu j = lu' j) (h2 : ∀ j, j < N → nu j = nu' j) : cmps N L lu nu = cmps N L lu' nu' := by
  unfold cmps reps
  have e : comp N L lu nu = comp N L lu' nu' := by funext n; exact comp_congr lok h1 h2
  have e2 : isRep N L lu nu = isRep N L lu' nu' := by funext n; unfold isRep; rw [e]
  rw [e, e2]
theorem flags_congr (lok : LOk N L) (h1 : ∀ j, j < L.length → lu j = lu' j) (h2 : ∀ j, j < N → nu j = nu' j) : flagsL L lu nu = flagsL L lu' nu' := by
  unfold flagsL; rw [upB_congr lok h1 h2]
theorem flagsL_len : (flagsL L lu nu).length = L.length := by simp [flagsL]
theorem flags_sl {c : Nat} (h : s c = some (false, .cells 4 (bls (flagsL L lu nu)))) : Sl s (.slc c 0 L.length (some L.length) 1) (bls (flagsL L lu nu)) :=
  Sl.mk h (by rw [List.length_map, flagsL_len]) fun c e => by cases e; rw [List.length_map, flagsL_len]; exact Nat.le_refl _
/-! ### TopoLast -/
abbrev Ac := Int × Int × Bool
def acR (a : Ac) : List AVal := [.int .i64 a.1, .int .i64 a.2.1, .bool a.2.2]
theorem ac_at {v : AVal} {M : List Ac} (h : SlR 3 s v (M.map acR)) {i : Nat} (hi : i < M.length) : ∃ b o, iaddrS 3 v (.int .i64 (i : Int)) = some (.ptr b o) ∧ ∀ j, j < 3 → rd1 s (.ptr b (o + j)) = (acR M[i])[j]? := by
  obtain ⟨b, o, h1, _, h2⟩ := h.get (i := i) (r := acR M[i]) (by simp [hi])
  exact ⟨b, o, h1, h2⟩
theorem fill4 {n : Int} {v : AVal} (h : v.one = true) : fillR [(.int .i64 0), .nilslc, .nilslc, .nilslc] [(0, 1, .int .i64 n), (1, 1, v)] = some [.int .i64 n, v, .nilslc, .nilslc] := by
  show fillR _ _ = _
  simp only [fillR, setRange]
  rw [one_cells h]
  rfl
theorem partsI_len : (partsL (cmps N L lu nu)).length ≤ (cmps N L lu nu).length * (N + 1) ∨ True := .inr trivial
theorem cmpsL_len (lok : LOk N L) : (partsL (cmps N L lu nu)).length ≤ 1000000 := by
  have h1 := partsL_len (N := N) (ls := cmps N L lu nu) fun l hl => (rep_ne lok hl).2
  have h2 : (cmps N L lu nu).length ≤ 32 := Nat.le_trans cmps_len lok.nn.2
  have h3 := Nat.mul_le_mul h2 (show N + 1 ≤ 33 by have := lok.nn; omega)
  omega
/-- the state that the last calls set -/
theorem Last_end {h : Nat} {lvg lvh : AVal} {DN DL : List Int} (zg : GRd false s g lvg N L (dwn L.length DL) (dwn N DN)) (zh : GRd false s h lvh N L lu nu) (h1 : ∀ j : Nat, j < L.length → lu j = !decide ((j : Int) ∈ DL)) (h2 : ∀ j : Nat, j < N → nu j = !decide ((j : Int) ∈ DN))
    {v : AVal} {l : List Int} : wpCall Try.prog XX 33 [.ptr g 0] (fun v_68 s_69 =>
    optK (extractA v_68 0) fun v_70 =>
    optK (extractA v_68 1) fun v_71 =>
    wpCall Try.prog XX 33 [.ptr h 0] (fun v_72 s_73 =>
    optK (extractA v_72 0) fun v_74 =>
    optK (extractA v_72 1) fun v_75 =>
    boolK (.bool true)
     (wpCall Try.prog XX 17 [v_71, v_75] (fun v_84 s_85 =>
      vc_leafmeshlaw09_TopoLast_j6 XX (.ptr g 0) (.ptr h 0) (.bool true) v_84 (fun v _ => v = .bool true) s_85) s_73)
     (vc_leafmeshlaw09_TopoLast_j6 XX (.ptr g 0) (.ptr h 0) (.bool true) .undef (fun v _ => v = .bool true) s_73)) s_69) s := by
  have lok := zg.lok
  have e1 : ∀ j, j < L.length → dwn L.length DL j = lu j := fun j hj => by rw [h1 j hj]; simp [dwn, hj]
  have e2 : ∀ j, j < N → dwn N DN j = nu j := fun j hj => by rw [h2 j hj]; simp [dwn, hj]
  refine parts_in zg fun a s1 sub1 acc1 => ?_
  simp only [extract0, extract1, optK_mk]
  refine parts_in (zh.sub sub1) fun b s2 sub2 acc2 => ?_
  simp only [extract0, extract1, optK_mk, boolK_true]
  have acc1' := (acc1.to (s' := s2) fun b _ _ _ _ x hx => sub2 b x hx).sl
  refine SameI_in acc1' acc2.sl (cmpsL_len lok) ?_
  have sub := sub1.trans sub2
  rw [decide_eq_true (by rw [cmps_congr lok e1 e2])]
  simp only [vc_leafmeshlaw09_TopoLast_j6, pickV_true, optK_mk, boolK_true]
  refine Flags_in (zg.sub sub) fun c s3 sub3 hc h3 => ?_
  refine Flags_in (zh.sub (sub.trans sub3)) fun d s4 sub4 hd h4 => ?_
  have hll := lok.ll
  refine SameB_in (flags_sl (sub4 _ _ h3)) (flags_sl h4) (by rw [flagsL_len]; omega) ?_
  rw [decide_eq_true (flags_congr lok e1 e2)]
  simp only [vc_leafmeshlaw09_TopoLast_j7, pickV_true, optK_mk]
theorem upd1_at {f : Nat → Bool} {i j : Nat} {x : Bool} : upd1 f i x j = if j = i then x else f j := rfl
theorem Last_in {dn dl av : AVal} {DN DL : List Int} {M : List Ac} (hs : SlR 3 s lv (L.map lkR)) (hdn : Sl s dn (izs DN)) (hdl : Sl s dl (izs DL)) (ha : SlR 3 s av (M.map acR)) : wpCall Try.prog XX 7 [.agg [.int .i64 n, lv, dn, dl], av] (fun v _ => v = .bool true) s := by
  have ho : allOne [AVal.int .i64 n, lv, dn, dl] = true := by rw [allOne_cons, allOne_cons, allOne_cons, allOne_cons, hs.one, sl_one hdn, sl_one hdl]; rfl
  refine vc_leafmeshlaw09_TopoLast_in ⟨ho, new_step fun b s1 hb h1 u1 => ?_⟩
  have sub1 := u1.sub hb
  have h1 : s1 b = some (false, .cells 52 [.int .i64 n, lv, dn, dl]) := h1
  have k1 := hs.sub sub1
  have k2 := hdn.sub sub1
  have k3 := hdl.sub sub1
  have k4 := ha.sub sub1
  have q0 : [AVal.int .i64 n, lv, dn, dl][0]? = some (.int .i64 n) := rfl
  have q1 : [AVal.int .i64 n, lv, dn, dl][1]? = some lv := rfl
  have q2 : [AVal.int .i64 n, lv, dn, dl][2]? = some dn := rfl
  have q3 : [AVal.int .i64 n, lv, dn, dl][3]? = some dl := rfl
  refine wp_closedS rfl rfl ?_
  simp only [rdN_all (n := 4) h1 rfl, optK_mk]
  have second : ∀ (s6 : Heap) (gv : AVal), (gv = .nilptr ∨ ∃ g lvg N, gv = .ptr g 0 ∧ n = (N : Nat) ∧ (DN.length ≤ 60 ∧ DL.length ≤ 60) ∧ GRd false (add s1 s6) g lvg N L (dwn L.length DL) (dwn N DN)) →
      ((∀ b, s1 b ≠ none → s1 b = none → s6 b = none) →
      optK (addOff 0 (.ptr b 0)) fun v_7 =>
      optK (rd1 (cutH [(s1, (add s1 s6))] (add s1 s6)) v_7) fun v_8 =>
      optK (addOff 1 (.ptr b 0)) fun v_9 =>
      optK (rd1 (cutH [(s1, (add s1 s6))] (add s1 s6)) v_9) fun v_10 =>
      optK (fillR [(.int .i64 0), .nilslc, .nilslc, .nilslc] [(0, 1, v_8), (1, 1, v_10)]) fun c_11 =>
      wpCall Try.prog XX 28 [(.agg c_11)] (fun v_12 s_13 =>
      optK (negB false (eqV 3 true gv .nilptr)) fun v_14 =>
      boolK v_14
       (vc_leafmeshlaw09_TopoLast_j0 XX av (.ptr b 0) (.bool true) gv v_12 v_14 .undef (fun v _ => v = .bool true) s_13)
       (optK (negB false (eqV 3 true v_12 .nilptr)) fun v_89 =>
        vc_leafmeshlaw09_TopoLast_j0 XX av (.ptr b 0) (.bool true) gv v_12 v_14 v_89 (fun v _ => v = .bool true) s_13)) (add s1 s6)) := by
    intro s6 gv hg _
    have suba : Sub s1 (add s1 s6) := sub_add
    have hcut : cutH [(s1, (add s1 s6))] (add s1 s6) b = _ := cut_keep h1 (suba _ _ h1)
    simp only [addOff_ptr, Nat.zero_add, rd1_mk hcut, q0, q1, fill4 k1.one, optK_mk]
    have fail : ∀ s v, vc_leafmeshlaw09_TopoLast_j0 XX av (.ptr b 0) (.bool true) gv v (.bool true) .undef (fun v _ => v = .bool true) s := fun s v => by
      simp only [vc_leafmeshlaw09_TopoLast_j0, vc_leafmeshlaw09_TopoLast_j1, pickV_true, boolK_true, optK_mk]
    refine made_in (k1.sub suba) (.inl ⟨rfl, rfl⟩) (.inl ⟨rfl, rfl⟩) (DN := []) (DL := []) (fun _ s7 sub7 => ?_) fun _ N' hN s7 h lvh sub7 zh => ?_
    · rcases hg with rfl | ⟨g, lvg, N, rfl, hN, _, zg⟩
      · simp only [eqV_nilptr, negB_mk, Bool.false_bne, optK_mk, boolK_true]
        exact fail _ _
      · simp only [eqV_ptr, eqV_nilptr, negB_mk, Bool.false_bne, optK_mk, boolK_false, vc_leafmeshlaw09_TopoLast_j0, vc_leafmeshlaw09_TopoLast_j1, pickV_false, pickV_true, boolK_true]
    · rcases hg with rfl | ⟨g, lvg, N, rfl, hN2, hD, zg⟩
      · simp only [eqV_nilptr, negB_mk, Bool.false_bne, optK_mk, boolK_true]
        exact fail _ _
      · subst hN2
        obtain rfl : N = N' := by omega
        have subA := suba.trans sub7
        simp only [eqV_ptr, eqV_nilptr, negB_mk, Bool.false_bne, optK_mk, boolK_false, vc_leafmeshlaw09_TopoLast_j0, pickV_false, (k4.sub subA).len, List.length_map, arith_gtr]
        by_cases hM : 60 < M.length
        · simp only [decide_eq_true (show (60 : Int) < M.length by omega), vc_leafmeshlaw09_TopoLast_j1, pickV_false, optK_mk, boolK_true]
        simp only [decide_eq_false (show ¬ (60 : Int) < M.length by omega), vc_leafmeshlaw09_TopoLast_j1, pickV_false, optK_mk, boolK_false]
        have lok := zg.lok
        have hnn := lok.nn
        have hll := lok.ll
        refine ⟨fun ys s2 m => ∃ (i : Nat) (lu nu : Nat → Bool), ys = [.int .i64 i] ∧ i ≤ M.length ∧ m = M.length - i ∧ Sub (add s1 s6) s2 ∧ Gr (add s1 s6) s2 h lvh N L lu nu, ⟨_, 0, _, _, rfl, by omega, rfl, sub7, zh⟩, ?_⟩
        rintro f s8 m ⟨i, lu, nu, hy, hi, rfl, sub8, z8⟩
        simp only [List.cons.injEq, and_true] at hy
        rw [hy]
        have k8 := k4.sub (suba.trans sub8)
        simp only [vc_leafmeshlaw09_TopoLast_l2, k8.len, List.length_map, arith_lss, optK_mk]
        refine boolK_mk (fun hlt => ?_) (fun hge => ?_)
        · have hlt : i < M.length := by have := of_decide_eq_true hlt; omega
          obtain ⟨p, o, g1, g2⟩ := ac_at k8 hlt
          have r0 := g2 0 (by omega)
          have r1 := g2 1 (by omega)
          have r2 := g2 2 (by omega)
          have w0 : (acR M[i])[0]? = some (.int .i64 M[i].1) := rfl
          have w1 : (acR M[i])[1]? = some (.int .i64 M[i].2.1) := rfl
          have w2 : (acR M[i])[2]? = some (.bool M[i].2.2) := rfl
          rw [w0] at r0; rw [w1] at r1; rw [w2] at r2
          have fin : ∀ s9 lu nu, Sub (add s1 s6) s9 → Gr (add s1 s6) s9 h lvh N L lu nu → vc_leafmeshlaw09_TopoLast_j3 XX (.int .i64 (i : Int)) (fun ys s2 m => ∃ (i : Nat) (lu nu : Nat → Bool), ys = [AVal.int .i64 i] ∧ i ≤ M.length ∧ m = M.length - i ∧ Sub (add s1 s6) s2 ∧ Gr (add s1 s6) s2 h lvh N L lu nu) (M.length - i) (fun v _ => v = .bool true) s9 := fun s9 lu nu a b => by
            simp only [vc_leafmeshlaw09_TopoLast_j3, arith_add, optK_mk]
            rw [wrap64 (by omega) (by omega)]
            exact ⟨_, by omega, i + 1, lu, nu, rfl, by omega, rfl, a, b⟩
          simp only [g1, addOff_ptr, r0, arith_rem (k := .i64) (x := M[i].1) (y := 2) (by omega), eqV_int, negB_mk, Bool.false_bne, optK_mk]
          refine boolK_mk (fun _ => ?_) (fun _ => ?_)
          · simp only [r1, r2, optK_mk]
            refine SetLink_in z8.rd z8.ap (fun hx => fin s8 lu nu sub8 z8) fun s9 hx z9 u9 => fin s9 _ _ (sub8.upto u9 z8.fg) ⟨z9, z8.fg, z8.fl, z8.ap⟩
          · simp only [r1, r2, optK_mk]
            refine SetNode_in z8.rd z8.ap (fun hx => fin s8 lu nu sub8 z8) fun s9 hx z9 u9 => fin s9 _ _ (sub8.upto u9 z8.fg) ⟨z9, z8.fg, z8.fl, z8.ap⟩
        · have b8 := sub8 _ _ (suba _ _ h1)
          simp only [addOff_ptr, Nat.zero_add, rd1_mk b8, q1, (k1.sub (suba.trans sub8)).len, List.length_map, arith_sub, optK_mk]
          rw [wrap64 (by omega) (by omega)]
          refine ⟨fun ys s2 m => ∃ (lu nu : Nat → Bool), ys = [.int .i64 ((m : Int) - 1)] ∧ m ≤ L.length ∧ Sub (add s1 s6) s2 ∧ Gr (add s1 s6) s2 h lvh N L lu nu ∧ ∀ j, m ≤ j → j < L.length → lu j = !decide ((j : Int) ∈ DL), ⟨L.length, lu, nu, rfl, by omega, sub8, z8, fun j a b => by omega⟩, ?_⟩
          rintro f s10 m ⟨lu, nu, hy, hm, sub10, z10, hlu⟩
          simp only [List.cons.injEq, and_true] at hy
          rw [hy]
          have b10 := sub10 _ _ (suba _ _ h1)
          simp only [vc_leafmeshlaw09_TopoLast_l4, arith_geq, optK_mk]
          refine boolK_mk (fun hge2 => ?_) (fun hlt2 => ?_)
          · have hge2 : 1 ≤ m := by have := of_decide_eq_true hge2; omega
            obtain ⟨i, rfl⟩ : ∃ i, m = i + 1 := ⟨m - 1, by omega⟩
            have ei : (((i + 1 : Nat) : Int) - 1) = (i : Int) := by omega
            rw [ei]
            simp only [addOff_ptr, Nat.zero_add, rd1_mk b10, q3, optK_mk]
            refine lhas_in (k3.sub (suba.trans sub10)) (by omega) ?_
            simp only [unary_not, optK_mk]
            refine SetLink_in z10.rd z10.ap (fun hx => absurd (show 0 ≤ (i : Int) ∧ (i : Int) < L.length by omega) hx) fun s11 hx z11 u11 => ?_
            simp only [arith_sub, optK_mk]
            rw [wrap64 (by omega) (by omega)]
            refine ⟨i, by omega, _, nu, rfl, by omega, sub10.upto u11 z10.fg, ⟨z11, z10.fg, z10.fl, z10.ap⟩, fun j a b => ?_⟩
            rw [upd1_at, Int.toNat_natCast]
            by_cases e : j = i
            · rw [if_pos e, e]
            · rw [if_neg e]; exact hlu j (by omega) b
          · have hm0 : m = 0 := by have := of_decide_eq_false hlt2; omega
            subst hm0
            simp only [addOff_ptr, Nat.zero_add, rd1_mk b10, q0, arith_sub, optK_mk]
            rw [wrap64 (by omega) (by omega)]
            have hluA : ∀ j : Nat, j < L.length → lu j = !decide ((j : Int) ∈ DL) := fun j hj => hlu j (by omega) hj
            refine ⟨fun ys s2 m => ∃ (nu : Nat → Bool), ys = [.int .i64 ((m : Int) - 1)] ∧ m ≤ N ∧ Sub (add s1 s6) s2 ∧ Gr (add s1 s6) s2 h lvh N L lu nu ∧ ∀ j, m ≤ j → j < N → nu j = !decide ((j : Int) ∈ DN), ⟨N, nu, rfl, by omega, sub10, z10, fun j a b => by omega⟩, ?_⟩
            rintro f s12 m ⟨nu, hy, hm, sub12, z12, hnu⟩
            simp only [List.cons.injEq, and_true] at hy
            rw [hy]
            have b12 := sub12 _ _ (suba _ _ h1)
            simp only [vc_leafmeshlaw09_TopoLast_l5, arith_geq, optK_mk]
            refine boolK_mk (fun hge2 => ?_) (fun hlt2 => ?_)
            · have hge2 : 1 ≤ m := by have := of_decide_eq_true hge2; omega
              obtain ⟨i, rfl⟩ : ∃ i, m = i + 1 := ⟨m - 1, by omega⟩
              have ei : (((i + 1 : Nat) : Int) - 1) = (i : Int) := by omega
              rw [ei]
              simp only [addOff_ptr, Nat.zero_add, rd1_mk b12, q2, optK_mk]
              refine lhas_in (k2.sub (suba.trans sub12)) (by omega) ?_
              simp only [unary_not, optK_mk]
              refine SetNode_in z12.rd z12.ap (fun hx => absurd (show 0 ≤ (i : Int) ∧ (i : Int) < N by omega) hx) fun s11 hx z11 u11 => ?_
              simp only [arith_sub, optK_mk]
              rw [wrap64 (by omega) (by omega)]
              refine ⟨i, by omega, _, rfl, by omega, sub12.upto u11 z12.fg, ⟨z11, z12.fg, z12.fl, z12.ap⟩, fun j a b => ?_⟩
              rw [upd1_at, Int.toNat_natCast]
              by_cases e : j = i
              · rw [if_pos e, e]
              · rw [if_neg e]; exact hnu j (by omega) b
            · have hm0 : m = 0 := by have := of_decide_eq_false hlt2; omega
              subst hm0
              exact Last_end (v := .nilslc) (l := []) (zg.sub sub12) z12.rd hluA fun j hj => hnu j (by omega) hj
  refine made_in (s := frz s1) k1.frz k2.frz k3.frz (fun _ s6 sub6 => second s6 _ (.inl rfl)) fun hm N hN s6 g lvg sub6 zg => second s6 _ (.inr ⟨g, lvg, N, rfl, hN, hm.1.2, zg.add.rd⟩)
end Go.AM
namespace Go.AM
open Go Go.Proofs
variable {s : Heap}
/-! ### arguments -/
set_option maxRecDepth 100000 in
theorem inp_lk {d : Nat} {xs : List AVal} (h : Inp Try.prog s (d + 2) 26 xs) : ∃ a : Lk, xs = lkR a ∧ True := by
  unfold Inp at h
  simp only [Try.underlying26] at h
  obtain ⟨h1, h2⟩ := h
  rw [show Try.prog.cellsOf 26 = 3 by kernel_rfl] at h1
  have k0 := h2 _ (List.mem_cons_self)
  have k1 := h2 _ (List.mem_cons_of_mem _ List.mem_cons_self)
  have k2 := h2 _ (List.mem_cons_of_mem _ (List.mem_cons_of_mem _ List.mem_cons_self))
  match xs, h1 with
  | [w0, w1, w2], _ =>
    obtain ⟨a, e1, _⟩ := inp_int (xs := [w0]) Try.underlying3 k0
    obtain ⟨b, e2, _⟩ := inp_int (xs := [w1]) Try.underlying3 k1
    obtain ⟨c, e3, _⟩ := inp_int (xs := [w2]) Try.underlying3 k2
    cases e1; cases e2; cases e3
    exact ⟨(a, b, c), rfl, trivial⟩
set_option maxRecDepth 100000 in
theorem inp_ac {d : Nat} {xs : List AVal} (h : Inp Try.prog s (d + 2) 67 xs) : ∃ a : Ac, xs = acR a ∧ ((Lit.int .i64 a.1).wf = true) := by
  unfold Inp at h
  simp only [Try.underlying67] at h
  obtain ⟨h1, h2⟩ := h
  rw [show Try.prog.cellsOf 67 = 3 by kernel_rfl] at h1
  have k0 := h2 _ (List.mem_cons_self)
  have k1 := h2 _ (List.mem_cons_of_mem _ List.mem_cons_self)
  have k2 := h2 _ (List.mem_cons_of_mem _ (List.mem_cons_of_mem _ List.mem_cons_self))
  match xs, h1 with
  | [w0, w1, w2], _ =>
    obtain ⟨a, e1, ha⟩ := inp_int (xs := [w0]) Try.underlying3 k0
    obtain ⟨b, e2, _⟩ := inp_int (xs := [w1]) Try.underlying3 k1
    obtain ⟨c, e3, _⟩ := inp_bool (xs := [w2]) Try.underlying4 k2
    cases e1; cases e2; cases e3
    exact ⟨(a, b, c), rfl, ha⟩
set_option maxRecDepth 100000 in
theorem inp_is {d : Nat} {xs : List AVal} (h : Inp Try.prog s (d + 2) 40 xs) : ∃ v, xs = [v] ∧ ∃ l : List Int, Sl s v (izs l) ∧ l.length ≤ maxLen := by
  obtain ⟨v, e, l, h1, _, h3⟩ := inp_slice (d := d + 1) Try.underlying40 (by kernel_rfl) (AVal.int .i64) (fun _ => True) (fun xs h => by obtain ⟨n, e, _⟩ := inp_int Try.underlying3 h; exact ⟨n, e, trivial⟩) h
  exact ⟨v, e, l, h1, h3⟩
theorem cells26 : Try.prog.cellsOf 26 = 3 := by kernel_rfl
theorem cells67 : Try.prog.cellsOf 67 = 3 := by kernel_rfl
set_option maxRecDepth 100000 in
theorem inp_ls {d : Nat} {xs : List AVal} (h : Inp Try.prog s (d + 3) 22 xs) : ∃ v, xs = [v] ∧ ∃ L : List Lk, SlR 3 s v (L.map lkR) ∧ L.length ≤ maxLen := by
  obtain ⟨v, e, l, h1, _, h3⟩ := inpR (d := d + 2) Try.underlying22 lkR (fun _ => True) (fun a => by rw [cells26]; rfl) (fun xs h => inp_lk h) h
  rw [cells26] at h1
  exact ⟨v, e, l, h1, h3⟩
set_option maxRecDepth 100000 in
theorem arg_ls {d : Nat} {v : AVal} (h : Arg Try.prog s (d + 3) 22 v) : ∃ L : List Lk, SlR 3 s v (L.map lkR) ∧ L.length ≤ maxLen := by
  obtain ⟨l, h1, _, h3⟩ := argR (d := d + 2) Try.underlying22 lkR (fun _ => True) (fun a => by rw [cells26]; rfl) (fun xs h => inp_lk h) h
  rw [cells26] at h1
  exact ⟨l, h1, h3⟩
set_option maxRecDepth 100000 in
theorem arg_as {d : Nat} {v : AVal} (h : Arg Try.prog s (d + 3) 65 v) : ∃ M : List Ac, SlR 3 s v (M.map acR) ∧ M.length ≤ maxLen ∧ ∀ a ∈ M, (Lit.int .i64 a.1).wf = true := by
  obtain ⟨l, h1, h2, h3⟩ := argR (d := d + 2) Try.underlying65 acR (fun a => (Lit.int .i64 a.1).wf = true) (fun a => by rw [cells67]; rfl) (fun xs h => inp_ac h) h
  rw [cells67] at h1
  exact ⟨l, h1, h3, h2⟩
set_option maxRecDepth 100000 in
theorem arg_st {d : Nat} {p : AVal} (h : Arg Try.prog s (d + 4) 52 p) : ∃ (n : Int) (lv dn dl : AVal) (L : List Lk) (DN DL : List Int), p = .agg [.int .i64 n, lv, dn, dl] ∧ SlR 3 s lv (L.map lkR) ∧ Sl s dn (izs DN) ∧ Sl s dl (izs DL) ∧ (Lit.int .i64 n).wf = true := by
  obtain ⟨h1, h2, _⟩ := h
  obtain ⟨cs, rfl, ho⟩ := h2 (by kernel_rfl)
  unfold Inp at h1
  simp only [Try.underlying52] at h1
  obtain ⟨h1, h2⟩ := h1
  rw [show Try.prog.cellsOf 52 = 4 by kernel_rfl] at h1
  have k0 := h2 _ (List.mem_cons_self)
  have k1 := h2 _ (List.mem_cons_of_mem _ List.mem_cons_self)
  have k2 := h2 _ (List.mem_cons_of_mem _ (List.mem_cons_of_mem _ List.mem_cons_self))
  have k3 := h2 _ (List.mem_cons_of_mem _ (List.mem_cons_of_mem _ (List.mem_cons_of_mem _ List.mem_cons_self)))
  simp only [cells_agg] at h1 k0 k1 k2 k3
  match cs, h1 with
  | [w0, w1, w2, w3], _ =>
    obtain ⟨n, e1, hn⟩ := inp_int (xs := [w0]) Try.underlying3 k0
    obtain ⟨lv, e2, L, hL, _⟩ := inp_ls (d := d) (xs := [w1]) k1
    obtain ⟨dn, e3, DN, hDN, _⟩ := inp_is (d := d + 1) (xs := [w2]) k2
    obtain ⟨dl, e4, DL, hDL, _⟩ := inp_is (d := d + 1) (xs := [w3]) k3
    cases e1; cases e2; cases e3; cases e4
    exact ⟨n, w1, w2, w3, L, DN, DL, rfl, hL, hDN, hDL, hn⟩
set_option maxRecDepth 100000 in
theorem Last_wp (s : Heap) (xs : List AVal) (h : ArgL Try.prog s 40 [52, 65] xs) : wpCall Try.prog XX 7 xs (fun v _ => v = .bool true) s := by
  obtain ⟨p, a, rfl, h1, h2⟩ := argl2 h
  obtain ⟨n, lv, dn, dl, L, DN, DL, rfl, hL, hDN, hDL, _⟩ := arg_st (d := 36) h1
  obtain ⟨M, hM, _⟩ := arg_as (d := 37) h2
  exact Last_in hL hDN hDL hM
end Go.AM
namespace Go.AM
open Go Go.Proofs
variable {N : Nat} {lu nu lu' nu' : Nat → Bool} {L : List Lk} {n : Int}
/-! ### a cut -/
theorem upB_cut {i k : Nat} : upB L (upd1 lu i false) nu k = if k = i then false else upB L lu nu k := by
  unfold upB upd1
  by_cases e : k = i
  · rw [if_pos e, e]
    cases L[i]? <;> simp
  · rw [if_neg e]
    cases L[k]? <;> simp [e]
theorem comp_cong2 (lok : LOk N L) (h : upB L lu nu = upB L lu' nu) : comp N L lu nu = comp N L lu' nu := by
  funext n
  refine asc_ext comp_asc comp_asc fun x => ?_
  rw [mem_comp lok, mem_comp lok]
  exact ⟨fun q => ⟨q.1, rc_congr h q.2⟩, fun q => ⟨q.1, rc_congr h.symm q.2⟩⟩
theorem cmps_cong2 (lok : LOk N L) (h : upB L lu nu = upB L lu' nu) : cmps N L lu nu = cmps N L lu' nu := by
  have e := comp_cong2 lok h
  unfold cmps reps
  have e2 : isRep N L lu nu = isRep N L lu' nu := by funext n; unfold isRep; rw [e]
  rw [e, e2]
theorem len_split {α : Type} (p q : α → Bool) : ∀ l : List α, (l.filter p).length = (l.filter fun x => p x && q x).length + (l.filter fun x => p x && !q x).length := by
  intro l
  induction l with
  | nil => rfl
  | cons x r ih =>
    rw [List.filter_cons, List.filter_cons, List.filter_cons]
    cases p x <;> cases q x <;> simp [ih] <;> omega
theorem rc_cut {i : Nat} {x y : Int} (h : Rc L (upd1 lu i false) nu x y) (lok : LOk N L) : Rc L lu nu x y := by
  induction h with
  | refl => exact .refl
  | tail _ h2 ih =>
    obtain ⟨j, hj, hu, h3⟩ := (mem_nod lok).1 h2
    rw [upB_cut] at hu
    split at hu
    · cases hu
    · exact ih.tail ((mem_nod lok).2 ⟨j, hj, hu, h3⟩)
theorem rc_cut2 {i : Nat} (hi : i < L.length) (lok : LOk N L) {x y : Int} (h : Rc L lu nu x y) :
    Rc L (upd1 lu i false) nu x y ∨ (Rc L (upd1 lu i false) nu L[i].1 x ∨ Rc L (upd1 lu i false) nu L[i].2.1 x) ∧ (Rc L (upd1 lu i false) nu L[i].1 y ∨ Rc L (upd1 lu i false) nu L[i].2.1 y) := by
  induction h with
  | refl => exact .inl .refl
  | @tail b c h1 h2 ih =>
    obtain ⟨j, hj, hu, h3⟩ := (mem_nod lok).1 h2
    by_cases e : j = i
    · subst e
      refine .inr ?_
      rcases h3 with ⟨e1, e2⟩ | ⟨e1, e2⟩
      · refine ⟨?_, .inr (by rw [e2]; exact .refl)⟩
        rcases ih with ih | ih
        · exact .inl (by rw [e1]; exact ih.symm lok)
        · exact ih.1
      · refine ⟨?_, .inl (by rw [e2]; exact .refl)⟩
        rcases ih with ih | ih
        · exact .inr (by rw [e1]; exact ih.symm lok)
        · exact ih.1
    · have hm : c ∈ nod L (upd1 lu i false) nu b := (mem_nod lok).2 ⟨j, hj, by rw [upB_cut, if_neg e]; exact hu, h3⟩
      rcases ih with ih | ⟨a, ih⟩
      · exact .inl (ih.tail hm)
      · exact .inr ⟨a, ih.elim (fun q => .inl (q.tail hm)) fun q => .inr (q.tail hm)⟩
theorem rep_head (lok : LOk N L) (ha : aliveI N nu n = true) : ∃ p, isRep N L lu nu p = true ∧ Rc L lu nu n p ∧ ∀ x, isRep N L lu nu x = true → Rc L lu nu n x → x = p := by
  have hs := comp_self (lu := lu) lok ha
  obtain ⟨p, r, hp⟩ : ∃ p r, comp N L lu nu n = p :: r := by
    cases q : comp N L lu nu n with
    | nil => rw [q] at hs; simp at hs
    | cons x r => exact ⟨x, r, rfl⟩
  have hpc : p ∈ comp N L lu nu n := by rw [hp]; simp
  refine ⟨p, ?_, ((mem_comp lok).1 hpc).2, fun x hx hr => ?_⟩
  · unfold isRep
    rw [comp_eq lok hpc, hp]; simp
  · have hxc : x ∈ comp N L lu nu n := (mem_comp lok).2 ⟨ha, hr⟩
    unfold isRep at hx
    rw [decide_eq_true_eq, comp_eq lok hxc, hp] at hx
    injection hx with hx
    exact hx.symm
theorem rep_iff2 (lok : LOk N L) (ha : aliveI N nu n = true) : isRep N L lu nu n = true ↔ ∀ y, Rc L lu nu n y → n ≤ y := by
  have hs := comp_self (lu := lu) lok ha
  have hasc := comp_asc (N := N) (L := L) (lu := lu) (nu := nu) (n := n)
  obtain ⟨p, r, hp⟩ : ∃ p r, comp N L lu nu n = p :: r := by
    cases q : comp N L lu nu n with
    | nil => rw [q] at hs; simp at hs
    | cons x r => exact ⟨x, r, rfl⟩
  rw [hp] at hasc
  constructor
  · intro h y hy
    unfold isRep at h
    rw [decide_eq_true_eq, hp] at h
    injection h with h
    have hyc : y ∈ comp N L lu nu n := (mem_comp lok).2 ⟨ha, hy⟩
    rw [hp] at hyc
    rcases List.mem_cons.1 hyc with e | e
    · omega
    · have := (List.pairwise_cons.1 hasc).1 y e; omega
  · intro h
    unfold isRep
    rw [decide_eq_true_eq, hp, List.head?_cons]
    have hpc : p ∈ comp N L lu nu n := by rw [hp]; simp
    have h1 := h p ((mem_comp lok).1 hpc).2
    rw [hp] at hs
    rcases List.mem_cons.1 hs with e | e
    · rw [e]
    · have := (List.pairwise_cons.1 hasc).1 n e; omega
theorem cut_count (lok : LOk N L) {i : Nat} (hi : i < L.length) : (cmps N L (upd1 lu i false) nu).length = (cmps N L lu nu).length ∨ (cmps N L (upd1 lu i false) nu).length = (cmps N L lu nu).length + 1 ∧ upB L lu nu i = true := by
  cases hu : upB L lu nu i with
  | false =>
    left
    rw [cmps_cong2 lok (show upB L (upd1 lu i false) nu = upB L lu nu from ?_)]
    funext k
    rw [upB_cut]
    split
    · rename_i e; rw [e, hu]
    · rfl
  | true =>
    obtain ⟨_, hA, hB⟩ := up_ends lok hi hu
    have hab : Rc L lu nu L[i].1 L[i].2.1 := Rc.tail .refl ((mem_nod lok).2 ⟨i, hi, hu, .inl ⟨rfl, rfl⟩⟩)
    let C : Int → Bool := fun x => @decide (Rc L lu nu L[i].1 x) (Classical.propDecidable _)
    have hC : ∀ x, C x = true ↔ Rc L lu nu L[i].1 x := fun x => @decide_eq_true_iff _ (Classical.propDecidable _)
    obtain ⟨p, p1, p2, p3⟩ := rep_head (lu := lu) lok hA
    obtain ⟨q, q1, q2, q3⟩ := rep_head (lu := upd1 lu i false) lok hA
    obtain ⟨r, r1, r2, r3⟩ := rep_head (lu := upd1 lu i false) lok hB
    have l1 : (cmps N L lu nu).length = ((ups N).filter (isRep N L lu nu)).length := by unfold cmps reps; rw [List.length_map]
    have l2 : (cmps N L (upd1 lu i false) nu).length = ((ups N).filter (isRep N L (upd1 lu i false) nu)).length := by unfold cmps reps; rw [List.length_map]
    have mp : ∀ {lu x}, isRep N L lu nu x = true → x ∈ ups N := fun h => mem_ups.2 (alive_rg (rep_alive h)).1
    have f1 : ((ups N).filter fun x => isRep N L lu nu x && C x) = [p] := by
      refine asc_ext (ups_asc.filter _) (by simp) fun x => ?_
      rw [List.mem_filter, Bool.and_eq_true, hC, List.mem_singleton]
      exact ⟨fun h => p3 x h.2.1 h.2.2, fun h => by rw [h]; exact ⟨mp p1, p1, p2⟩⟩
    have f2 : ∀ x, x ∈ ((ups N).filter fun x => isRep N L (upd1 lu i false) nu x && C x) ↔ x = q ∨ x = r := by
      intro x
      rw [List.mem_filter, Bool.and_eq_true, hC]
      constructor
      · rintro ⟨_, h1, h2⟩
        have h4 : Rc L (upd1 lu i false) nu L[i].1 x ∨ Rc L (upd1 lu i false) nu L[i].2.1 x := (rc_cut2 hi lok h2).elim .inl fun h => h.2
        exact h4.imp (q3 x h1) (r3 x h1)
      · rintro (e | e) <;> rw [e]
        · exact ⟨mp q1, q1, rc_cut q2 lok⟩
        · exact ⟨mp r1, r1, hab.trans (rc_cut r2 lok)⟩
    have f3 : ((ups N).filter fun x => isRep N L (upd1 lu i false) nu x && !C x) = ((ups N).filter fun x => isRep N L lu nu x && !C x) := by
      refine List.filter_congr fun x _ => ?_
      cases hc : C x with
      | true => simp
      | false =>
        simp only [Bool.not_false, Bool.and_true]
        have hnc : ¬ Rc L lu nu L[i].1 x := fun h => by rw [(hC x).2 h] at hc; cases hc
        by_cases hx : aliveI N nu x = true
        · have e : ∀ y, Rc L (upd1 lu i false) nu x y ↔ Rc L lu nu x y := fun y => ⟨fun h => rc_cut h lok, fun h => (rc_cut2 hi lok h).elim id fun h2 => absurd (h2.1.elim (fun h => rc_cut h lok) fun h => hab.trans (rc_cut h lok)) hnc⟩
          rw [Bool.eq_iff_iff, rep_iff2 lok hx, rep_iff2 lok hx]
          exact ⟨fun h y hy => h y ((e y).2 hy), fun h y hy => h y ((e y).1 hy)⟩
        · rw [not_rep (by simpa using hx), not_rep (by simpa using hx)]
    have f4 : ((ups N).filter fun x => isRep N L (upd1 lu i false) nu x && C x).length = 1 ∨ ((ups N).filter fun x => isRep N L (upd1 lu i false) nu x && C x).length = 2 := by
      have hasc : ((ups N).filter fun x => isRep N L (upd1 lu i false) nu x && C x).Pairwise (· < ·) := ups_asc.filter _
      rcases Int.lt_trichotomy q r with h | h | h
      · right
        rw [asc_ext (m := [q, r]) hasc (by simp [h]) fun x => by rw [f2]; simp]; rfl
      · left
        rw [asc_ext (m := [q]) hasc (by simp) fun x => by rw [f2, h]; simp]; rfl
      · right
        rw [asc_ext (m := [r, q]) hasc (by simp [h]) fun x => by rw [f2]; simp [or_comm]]; rfl
    rw [l1, l2, len_split (isRep N L lu nu) C, len_split (isRep N L (upd1 lu i false) nu) C, f1, f3, List.length_singleton]
    rcases f4 with h | h <;> rw [h]
    · exact .inl rfl
    · exact .inr ⟨by omega, rfl⟩
end Go.AM
namespace Go.AM
open Go Go.Proofs
variable {K : AVal → Heap → Prop} {s s' s0 : Heap} {t : Bool} {g : Nat} {lv : AVal} {N : Nat} {lu nu lu' nu' : Nat → Bool} {L : List Lk} {n : Int}
/-! ### TopoCuts -/
def Off (g : Nat) (v : AVal) : Prop := ∀ b o n c, v = .slc b o n c 1 → b ≠ g
theorem Sl.off {v : AVal} {l : List AVal} (h : Sl s v l) (ho : Off g v) (u : Upto g s s') : Sl s' v l := h.keep (fp := fun b => b = g) (u.keep rfl) fun b o n c e _ => ho b o n c e
theorem Acc.off {e : TypeId} {v : AVal} {l : List AVal} {x : Bool × Blk} (h : Acc e s0 s v l) (hg : s0 g = some x) : Off g v := fun b o n c ev => by
  have := (h.blk ev).1
  rintro rfl; rw [hg] at this; cases this
theorem GRd.some_at (z : GRd t s g lv N L lu nu) : ∃ x, s g = some x := by
  obtain ⟨a, b, c, d, h, _⟩ := z.cell
  exact ⟨_, h⟩
theorem Pick_in {x : Int} {n : Nat} (hn : 1 ≤ n ∧ n ≤ 1000) (hK : ∀ r : Nat, r < n → K (.int .i64 r) s) : wpCall Try.prog XX 32 [.int .i64 x, .int .i64 n] K s := by
  refine vc_leafmeshkit_Pick_in ?_
  have h1 : x.tmod n < n := Int.tmod_lt_of_pos x (by omega)
  have h2 : -(n : Int) < x.tmod n := Int.lt_tmod_of_pos x (by omega)
  simp only [vc_leafmeshkit_Pick, arith_rem (k := .i64) (x := x) (y := (n : Int)) (by omega), optK_mk]
  generalize x.tmod n = y at h1 h2
  simp only [arith_lss, optK_mk]
  refine boolK_mk (fun h => ?_) (fun h => ?_)
  · have h := of_decide_eq_true h
    simp only [arith_add, optK_mk, vc_leafmeshkit_Pick_j0]
    rw [wrap64 (by omega) (by omega)]
    have e : y + n = ((y + n).toNat : Int) := by omega
    rw [e]
    exact hK _ (by omega)
  · have h := of_decide_eq_false h
    simp only [vc_leafmeshkit_Pick_j0]
    have e : y = (y.toNat : Int) := by omega
    rw [e]
    exact hK _ (by omega)
theorem flags_at {k : Nat} (hk : k < L.length) : (bls (flagsL L lu nu))[k]? = some (.bool (upB L lu nu k)) := by simp [flagsL, hk]
theorem cutl8 : @vc_leafmeshlaw09_TopoCuts_l8 = @vc_leafmeshlaw09_TopoCuts_l3 := rfl
theorem cutl12 : @vc_leafmeshlaw09_TopoCuts_l12 = @vc_leafmeshlaw09_TopoCuts_l3 := rfl
theorem Cuts_tail {i : Nat} {wv fv cv : AVal} (hi : i < L.length) (hlu : lu i = true) (z : GRd false s g lv N L (upd1 lu i false) nu) (ap : Ap g lv L) (w : Sl s wv (izs (partsL (cmps N L lu nu)))) (fl : Sl s fv (bls (flagsL L lu nu))) (cl : Sl s cv (bls (flagsL L (upd1 lu i false) nu))) (ow : Off g wv) (ofl : Off g fv) :
    ∃ I3 : List AVal → Heap → Nat → Prop, (∃ m, I3 [(.int .i64 0)] s m) ∧ ∀ (f : Env) (s : Heap) (m3 : Nat), I3 [f 14] s m3 → vc_leafmeshlaw09_TopoCuts_l3 XX (.bool true) (.ptr g 0) (.int .i64 (i : Int)) wv fv cv (f 14) I3 m3 (fun v _ => v = .bool true) s := by
  have lok := z.lok
  have hll := lok.ll
  refine ⟨fun ys s2 m => s2 = s ∧ ∃ k : Nat, ys = [.int .i64 k] ∧ k ≤ L.length ∧ m = L.length - k, ⟨_, rfl, 0, rfl, by omega, rfl⟩, ?_⟩
  rintro f s2 m ⟨rfl, k, hy, hk, rfl⟩
  simp only [List.cons.injEq, and_true] at hy
  rw [hy]
  simp only [vc_leafmeshlaw09_TopoCuts_l3, cl.len, List.length_map, flagsL_len, arith_lss, optK_mk]
  refine boolK_mk (fun hlt => ?_) (fun hge => ?_)
  · have hlt : k < L.length := by have := of_decide_eq_true hlt; omega
    simp only [eqV_int, negB_mk, Bool.true_bne, optK_mk]
    by_cases e : (k : Int) = (i : Int)
    · have e1 : (!((k : Int) == (i : Int))) = false := by simp [e]
      rw [e1]
      simp only [boolK_false, vc_leafmeshlaw09_TopoCuts_j4, pickV_false, arith_add, optK_mk]
      rw [wrap64 (by omega) (by omega)]
      exact ⟨_, by omega, trivial, k + 1, rfl, by omega, rfl⟩
    · have e1 : (!((k : Int) == (i : Int))) = true := by simp [e]
      rw [e1]
      obtain ⟨p, g1, g2⟩ := cl.get (i := k) (by rw [List.length_map, flagsL_len]; exact hlt)
      obtain ⟨q, g3, g4⟩ := fl.get (i := k) (by rw [List.length_map, flagsL_len]; exact hlt)
      rw [flags_at hlt] at g2 g4
      rw [upB_cut, if_neg (by omega)] at g2
      simp only [boolK_true, g1, g2, g3, g4, eqV_bool, negB_mk, Bool.true_bne, beq_self_eq_true, Bool.not_true, vc_leafmeshlaw09_TopoCuts_j4, pickV_true, boolK_false, arith_add, optK_mk]
      rw [wrap64 (by omega) (by omega)]
      exact ⟨_, by omega, trivial, k + 1, rfl, by omega, rfl⟩
  · refine SetLink_in z ap (fun hx => absurd (show 0 ≤ (i : Int) ∧ (i : Int) < L.length by omega) hx) fun s3 hx z3 u3 => ?_
    rw [Int.toNat_natCast] at z3
    have e1 : ∀ j, j < L.length → lu j = upd1 (upd1 lu i false) i true j := fun j _ => by
      unfold upd1
      by_cases e : j = i
      · rw [if_pos e, e, hlu]
      · rw [if_neg e, if_neg e]
    refine parts_in z3 fun a s4 sub4 acc4 => ?_
    simp only [extract0, extract1, optK_mk, boolK_true]
    refine SameI_in ((w.off ow u3).sub sub4) acc4.sl (cmpsL_len lok) ?_
    rw [decide_eq_true (by rw [cmps_congr lok e1 fun _ _ => rfl])]
    simp only [vc_leafmeshlaw09_TopoCuts_j5, pickV_true, optK_mk, boolK_true]
    refine Flags_in (z3.sub sub4) fun c s5 sub5 hc h5 => ?_
    refine SameB_in (flags_sl h5) (((fl.off ofl u3).sub sub4).sub sub5) (by rw [flagsL_len]; omega) ?_
    rw [decide_eq_true (flags_congr lok (fun j hj => (e1 j hj).symm) fun _ _ => rfl)]
    simp only [vc_leafmeshlaw09_TopoCuts_j6, pickV_true, optK_mk]
theorem Cuts_in {dn dl : AVal} {DN DL : List Int} {link : Int} (hs : SlR 3 s lv (L.map lkR)) (hdn : Sl s dn (izs DN)) (hdl : Sl s dl (izs DL)) : wpCall Try.prog XX 6 [.agg [.int .i64 n, lv, dn, dl], .int .i64 link] (fun v _ => v = .bool true) s := by
  have ho : allOne [AVal.int .i64 n, lv, dn, dl] = true := by rw [allOne_cons, allOne_cons, allOne_cons, allOne_cons, hs.one, sl_one hdn, sl_one hdl]; rfl
  refine vc_leafmeshlaw09_TopoCuts_in ⟨ho, new_step fun b s1 hb h1 u1 => ?_⟩
  have sub1 := u1.sub hb
  have h1 : s1 b = some (false, .cells 52 [.int .i64 n, lv, dn, dl]) := h1
  have k1 := hs.sub sub1
  have k2 := hdn.sub sub1
  have k3 := hdl.sub sub1
  have q1 : [AVal.int .i64 n, lv, dn, dl][1]? = some lv := rfl
  have q3 : [AVal.int .i64 n, lv, dn, dl][3]? = some dl := rfl
  refine wp_closedS rfl rfl ?_
  simp only [rdN_all (n := 4) h1 rfl, optK_mk]
  refine made_in k1 k2 k3 (fun _ s6 sub6 => ?_) fun hm N hN s6 g lvg sub6 zg => ?_
  · simp only [eqV_nilptr, negB_mk, Bool.false_bne, optK_mk, boolK_true, vc_leafmeshlaw09_TopoCuts_j0, pickV_true]
  · have lok := zg.rd.lok
    have hll := lok.ll
    have b6 := sub6 _ _ h1
    simp only [eqV_ptr, eqV_nilptr, negB_mk, Bool.false_bne, optK_mk, boolK_false, addOff_ptr, Nat.zero_add, rd1_mk b6, q1, (k1.sub sub6).len, List.length_map, eqV_int, vc_leafmeshlaw09_TopoCuts_j0, pickV_false]
    refine boolK_mk (fun _ => trivial) (fun hne => ?_)
    have hne : 1 ≤ L.length := by
      have : ¬ (L.length : Int) = 0 := by simpa using hne
      omega
    refine Pick_in ⟨hne, by omega⟩ fun i hi => ?_
    simp only [addOff_ptr, Nat.zero_add, rd1_mk b6, q3, optK_mk]
    refine lhas_in (k3.sub sub6) (by have := hm.1.2.2; omega) ?_
    refine boolK_mk (fun _ => trivial) (fun hni => ?_)
    have hni : (i : Int) ∉ DL := of_decide_eq_false hni
    have hlu : dwn L.length DL i = true := by simp [dwn, hi, hni]
    have zg1 := zg.rd
    generalize dwn L.length DL = lu at zg1 hlu
    generalize dwn N DN = nu at zg1
    obtain ⟨x, hx⟩ := zg1.some_at
    refine parts_in zg1 fun wv s7 sub7 acc7 => ?_
    simp only [extract0, extract1, optK_mk]
    have ow : Off g wv := acc7.off hx
    refine Flags_in (zg1.sub sub7) fun c s8 sub8 hc h8 => ?_
    have sub78 := sub7.trans sub8
    have of8 : Off g (.slc c 0 L.length (some L.length) 1) := fun b o n c' e => by
      injection e with e
      rw [← e]
      rintro rfl
      rw [sub7 _ _ hx] at hc; cases hc
    refine SetLink_in (zg1.sub sub78) zg.ap (fun hx => absurd (show 0 ≤ (i : Int) ∧ (i : Int) < L.length by omega) hx) fun s9 _ z9 u9 => ?_
    rw [Int.toNat_natCast] at z9
    have w9 : Sl s9 wv (izs (partsL (cmps N L lu nu))) := (acc7.sl.sub sub8).off ow u9
    have f9 : Sl s9 (.slc c 0 L.length (some L.length) 1) (bls (flagsL L lu nu)) := (flags_sl h8).off of8 u9
    refine parts_in z9 fun wv2 s10 sub10 acc10 => ?_
    simp only [extract0, extract1, optK_mk]
    refine Flags_in (z9.sub sub10) fun d s11 sub11 hd h11 => ?_
    have sub911 := sub10.trans sub11
    have z11 := z9.sub sub911
    have w11 := w9.sub sub911
    have f11 := f9.sub sub911
    have c11 := flags_sl h11
    have b11 : s11 b = some (false, .cells 52 [.int .i64 n, lv, dn, dl]) := by
      have e1 : b ≠ g := by
        rintro rfl
        have := zg.fg
        rw [h1] at this; cases this
      have := sub78 _ _ b6
      rw [← u9 b e1] at this
      exact sub911 _ _ this
    have q1' : (k1.len : _ = _) = k1.len := rfl
    have llen : lenOfA lv = some L.length := by rw [hs.len, List.length_map]
    have fin := Cuts_tail hi hlu z11 zg.ap w11 f11 c11 ow of8
    obtain ⟨p, g1, g2⟩ := c11.get (i := i) (by rw [List.length_map, flagsL_len]; exact hi)
    rw [flags_at hi, upB_cut, if_pos rfl] at g2
    obtain ⟨p', g3, g4⟩ := f11.get (i := i) (by rw [List.length_map, flagsL_len]; exact hi)
    rw [flags_at hi] at g4
    simp only [lenOf_slc, addOff_ptr, Nat.zero_add, rd1_mk b11, q1, llen, optK_mk, eqV_int, negB_mk, beq_self_eq_true, Bool.true_bne, Bool.not_true, boolK_false, vc_leafmeshlaw09_TopoCuts_j1, pickV_false, g1, g2, vc_leafmeshlaw09_TopoCuts_j2]
    have hnl : (cmps N L lu nu).length ≤ N := cmps_len
    have hnn := lok.nn
    rcases cut_count (lu := lu) (nu := nu) lok hi with e | ⟨e, hu⟩
    · rw [e]
      have e0 : (!(((cmps N L lu nu).length : Int) == ((cmps N L lu nu).length : Int))) = false := by simp
      simp only [e0, boolK_false, pickV_false, optK_mk, cutl12]
      exact fin
    · rw [e]
      have e0 : (!((((cmps N L lu nu).length + 1 : Nat) : Int) == ((cmps N L lu nu).length : Int))) = true := by
        have : ¬ (((cmps N L lu nu).length + 1 : Nat) : Int) = ((cmps N L lu nu).length : Int) := by omega
        rw [beq_eq_false_iff_ne.2 this]; rfl
      have e1 : IntKind.i64.wrap (((cmps N L lu nu).length : Int) + 1) = (((cmps N L lu nu).length + 1 : Nat) : Int) := by rw [wrap64 (by omega) (by omega)]; omega
      rw [hu] at g4
      simp only [e0, boolK_true, arith_add, e1, eqV_int, negB_mk, Bool.true_bne, beq_self_eq_true, Bool.not_true, boolK_false, optK_mk, g3, g4, unary_not, vc_leafmeshlaw09_TopoCuts_j7, pickV_false, pickV_true, cutl8]
      exact fin
theorem Cuts_wp (s : Heap) (xs : List AVal) (h : ArgL Try.prog s 40 [52, 3] xs) : wpCall Try.prog XX 6 xs (fun v _ => v = .bool true) s := by
  obtain ⟨p, a, rfl, h1, h2⟩ := argl2 h
  obtain ⟨n, lv, dn, dl, L, DN, DL, rfl, hL, hDN, hDL, _⟩ := arg_st (d := 36) h1
  obtain ⟨link, rfl, _⟩ := arg_int (d := 39) Try.underlying3 h2
  exact Cuts_in hL hDN hDL
end Go.AM
namespace Go.AM
open Go Go.Proofs
variable {K : AVal → Heap → Prop} {s s' s0 : Heap} {t : Bool} {g : Nat} {lv lvg : AVal} {N : Nat} {lu nu lu' nu' : Nat → Bool} {L : List Lk} {n : Int}
/-! ### TopoParts -/
theorem eqE3 (a b c a' b' c' : Int) : eqAgg Try.prog 59 (.agg [.int .i64 a, .int .i64 b, .int .i64 c]) (.agg [.int .i64 a', .int .i64 b', .int .i64 c']) = (match some (eqI a a') with
      | some true => (match some (eqI b b') with
        | some true => (match some (eqI c c') with
          | some true => some true
          | some false => some false
          | none => none)
        | some false => some false
        | none => none)
      | some false => some false
      | none => none) := by kernel_rfl
theorem eqEd (x y : Lk) : eqAgg Try.prog 59 (.agg (lkR x)) (.agg (lkR y)) = some (decide (x = y)) := by
  obtain ⟨a, b, c⟩ := x
  obtain ⟨a', b', c'⟩ := y
  show eqAgg Try.prog 59 (.agg [.int .i64 a, .int .i64 b, .int .i64 c]) (.agg [.int .i64 a', .int .i64 b', .int .i64 c']) = _
  rw [eqE3, eqI_eq, eqI_eq, eqI_eq]
  by_cases h1 : a = a'
  · by_cases h2 : b = b'
    · by_cases h3 : c = c'
      · simp [h1, h2, h3]
      · rw [beq_eq_false_iff_ne.2 h3]; simp [h1, h2, h3]
    · rw [beq_eq_false_iff_ne.2 h2]; simp [h1, h2]
  · rw [beq_eq_false_iff_ne.2 h1]; simp [h1]
set_option maxRecDepth 10000 in
theorem edge_in {v : AVal} {E : List Lk} {x : Lk} (h : SlR 3 s v (E.map lkR)) (hl : E.length ≤ 1000000) (hK : ∀ s', Sub s s' → K (.bool (decide (x ∈ E))) s') : wpCall Try.prog XX 31 [v, .agg (lkR x)] K s := by
  refine vc_leafmeshlaw09_edge_in ⟨rfl, new_step fun b s1 hb h1 u1 => ?_⟩
  have sub1 := u1.sub hb
  have h1 : s1 b = some (false, .cells 59 (lkR x)) := h1
  have k1 := h.sub sub1
  refine ⟨fun ys s2 n => s2 = s1 ∧ ∃ i : Nat, ys = [.int .i64 i] ∧ i ≤ E.length ∧ n = E.length - i ∧ x ∉ E.take i, ⟨_, rfl, 0, rfl, by omega, rfl, by simp⟩, ?_⟩
  rintro f s2 n ⟨rfl, i, hy, hi, rfl, hq⟩
  simp only [List.cons.injEq, and_true] at hy
  rw [hy]
  simp only [vc_leafmeshlaw09_edge_l0, k1.len, List.length_map, arith_lss, optK_mk]
  refine boolK_mk (fun hlt => ?_) (fun hge => ?_)
  · have hlt : i < E.length := by have := of_decide_eq_true hlt; omega
    obtain ⟨p, o, r1, r2, _⟩ := row_at k1 hlt
    simp only [r1, r2, rdN_all (n := 3) h1 rfl, eqEd, negB_mk, Bool.false_bne, optK_mk]
    refine boolK_mk (fun hyes => ?_) (fun hne => ?_)
    · have hyes := of_decide_eq_true hyes
      have : decide (x ∈ E) = true := decide_eq_true (by rw [← hyes]; exact List.getElem_mem hlt)
      have hK := hK s2 sub1
      rw [this] at hK; exact hK
    · have hne := of_decide_eq_false hne
      simp only [arith_add, optK_mk]
      rw [wrap64 (by omega) (by omega)]
      refine ⟨_, by omega, trivial, i + 1, rfl, by omega, rfl, ?_⟩
      rw [take_succ_at hlt, List.mem_append]
      rintro (h | h)
      · exact hq h
      · have : x = E[i] := by simpa using h
        exact hne this.symm
  · have hge : i = E.length := by have := of_decide_eq_false hge; omega
    rw [hge, List.take_length] at hq
    have hK := hK s2 sub1
    rw [decide_eq_false hq] at hK; exact hK
theorem cut1_sub {t : Heap} (h : Sub s t) : Sub s (cutH [(s, t)] t) := fun i e hi => cut_keep hi (h i e hi)
theorem cut2_sub {t u : Heap} (h : Sub s t) (k : Sub t u) : Sub s (cutH [(s, t), (t, u)] u) := fun i e hi => by
  have h1 := h i e hi
  have h2 := k i e h1
  show (if t i = none ∧ u i ≠ none then none else (if s i = none ∧ t i ≠ none then none else u i)) = _
  rw [if_neg (by rw [h1]; simp), if_neg (by rw [hi]; simp)]; exact h2
theorem Acc.add {e : TypeId} {v : AVal} {l : List AVal} (h : Acc e (frz s) s' v l) : Acc e s (add s s') v l := by
  rcases h with h | ⟨b, h0, a, h2⟩
  · exact .inl h
  · exact .inr ⟨b, frz_no h0, a, by rw [add_at (frz_no h0)]; exact h2⟩
theorem AccR.add {e : TypeId} {k : Nat} {v : AVal} {l : List (List AVal)} (h : AccR e k (frz s) s' v l) : AccR e k s (add s s') v l := by
  obtain ⟨h1, h⟩ := h
  refine ⟨h1, ?_⟩
  rcases h with h | ⟨b, h0, a, h2⟩
  · exact .inl h
  · exact .inr ⟨b, frz_no h0, a, by rw [add_at (frz_no h0)]; exact h2⟩
theorem upI_at {i : Nat} : upI L lu nu (i : Int) = upB L lu nu i := by unfold upI; rw [decide_eq_true (by omega), Int.toNat_natCast]; rfl
theorem up_nbr (lok : LOk N L) {i : Nat} (hi : i < L.length) : decide (((i : Int), L[i].2.1, L[i].2.2) ∈ nbr L lu nu L[i].1) = upB L lu nu i ∧ decide (((i : Int), L[i].1, L[i].2.2) ∈ nbr L lu nu L[i].2.1) = upB L lu nu i := by
  have key : ∀ {m a c}, ((i : Int), a, c) ∈ nbr L lu nu m → upB L lu nu i = true := fun {m a c} h => by
    obtain ⟨j, hj, hu, h⟩ := (mem_nbr lok).1 h
    have e : j = i := by
      rcases h with ⟨_, h⟩ | ⟨_, h⟩ <;> (injection h with h; omega)
    rw [← e]; exact hu
  cases hu : upB L lu nu i with
  | true => exact ⟨decide_eq_true ((mem_nbr lok).2 ⟨i, hi, hu, .inl ⟨rfl, rfl⟩⟩), decide_eq_true ((mem_nbr lok).2 ⟨i, hi, hu, .inr ⟨rfl, rfl⟩⟩)⟩
  | false => exact ⟨decide_eq_false fun h => (by rw [key h] at hu; cases hu), decide_eq_false fun h => (by rw [key h] at hu; cases hu)⟩
theorem up_btw (lok : LOk N L) {i : Nat} (hi : i < L.length) (hu : upB L lu nu i = true) : (i : Int) ∈ btw L lu nu L[i].1 L[i].2.1 ∧ (i : Int) ∈ btw L lu nu L[i].2.1 L[i].1 := by
  refine ⟨List.mem_map.2 ⟨((i : Int), L[i].2.1, L[i].2.2), List.mem_filter.2 ⟨(mem_nbr lok).2 ⟨i, hi, hu, .inl ⟨rfl, rfl⟩⟩, decide_eq_true rfl⟩, rfl⟩, List.mem_map.2 ⟨((i : Int), L[i].1, L[i].2.2), List.mem_filter.2 ⟨(mem_nbr lok).2 ⟨i, hi, hu, .inr ⟨rfl, rfl⟩⟩, decide_eq_true rfl⟩, rfl⟩⟩
theorem up_comp (lok : LOk N L) {i : Nat} (hi : i < L.length) (hu : upB L lu nu i = true) : L[i].2.1 ∈ comp N L lu nu L[i].1 :=
  (mem_comp lok).2 ⟨(up_ends lok hi hu).2.1, .tail .refl ((mem_nod lok).2 ⟨i, hi, hu, .inl ⟨rfl, rfl⟩⟩)⟩
theorem Edge_in {K2 : AVal → AVal → Heap → Prop} {b0 i : Nat} {a c : Int} {cs : List AVal} (z : GRd false s g lvg N L lu nu) (h1 : s b0 = some (false, .cells 52 cs)) (hc : cs[1]? = some lv) (hs : SlR 3 s lv (L.map lkR)) (hi : i < L.length)
    (hK : ∀ s', Sub s s' → K2 (.bool (upB L lu nu i)) (.bool (decide (((i : Int), c, L[i].2.2) ∈ nbr L lu nu a))) s') :
    wpCall Try.prog XX 25 [.ptr g 0, .int .i64 (i : Int)] (fun v_78 s_79 =>
    (∀ b, s b ≠ none → s b = none → s_79 b = none) →
    wpCall Try.prog XX 23 [.ptr g 0, .int .i64 a] (fun v_80 s_81 =>
    (∀ b, (add s s_79) b ≠ none → (add s s_79) b = none → s_81 b = none) →
    optK (addOff 1 (.ptr b0 0)) fun v_82 =>
    optK (rd1 (cutH [(s, (add s s_79)), ((add s s_79), (add (add s s_79) s_81))] (add (add s s_79) s_81)) v_82) fun v_83 =>
    optK (iaddrS 3 v_83 (.int .i64 (i : Int))) fun v_84 =>
    optK (addOff 2 v_84) fun v_85 =>
    optK (rd1 (cutH [(s, (add s s_79)), ((add s s_79), (add (add s s_79) s_81))] (add (add s s_79) s_81)) v_85) fun v_86 =>
    optK (fillR [(.int .i64 0), (.int .i64 0), (.int .i64 0)] [(0, 1, (.int .i64 (i : Int))), (1, 1, .int .i64 c), (2, 1, v_86)]) fun c_87 =>
    wpCall Try.prog XX 31 [v_80, (.agg c_87)] (fun v_88 s_89 => K2 v_78 v_88 s_89) (add (add s s_79) s_81)) (frz (add s s_79))) (frz s) := by
  have hll := z.lok.ll
  refine Up_in z.frz fun s79 sub79 _ => ?_
  rw [upI_at]
  have subt : Sub s (add s s79) := sub_add
  refine Neighbors_in (z.sub subt).frz fun ev s81 sub81 acc _ => ?_
  have acc2 := acc.add
  have subu : Sub (add s s79) (add (add s s79) s81) := sub_add
  have subc := cut2_sub subt subu
  generalize cutH [(s, (add s s79)), ((add s s79), (add (add s s79) s81))] (add (add s s79) s81) = sc at subc
  obtain ⟨p, o, r1, _, r3⟩ := row_at (hs.sub subc) hi
  have r3 := r3 2 (by omega)
  have w2 : (lkR L[i])[2]? = some (.int .i64 L[i].2.2) := rfl
  rw [w2] at r3
  simp only [addOff_ptr, Nat.zero_add, rd1_mk (subc _ _ h1), hc, r1, r3, fill3, optK_mk]
  have hnl : (nbr L lu nu a).length ≤ L.length := nbrT_len
  exact edge_in acc2.sl (by omega) fun s89 sub89 => hK s89 ((subt.trans subu).trans sub89)
/-! the components part the nodes that are up -/
theorem comp_nodup : (comp N L lu nu n).Nodup := comp_asc.imp fun h => by omega
theorem cmps_nodup (lok : LOk N L) : (cmps N L lu nu).flatten.Nodup := by
  unfold List.Nodup
  rw [List.pairwise_flatten]
  refine ⟨fun l hl => ?_, ?_⟩
  · unfold cmps at hl
    obtain ⟨m, _, rfl⟩ := List.mem_map.1 hl
    exact comp_nodup
  · unfold cmps
    rw [List.pairwise_map]
    have hr : ∀ x ∈ reps N L lu nu N, isRep N L lu nu x = true := fun x hx => (List.mem_filter.1 hx).2
    have hasc : (reps N L lu nu N).Pairwise (· < ·) := ups_asc.filter _
    refine (List.pairwise_iff_forall_sublist.2 fun {a b} hsub => ?_)
    have hlt := List.pairwise_iff_forall_sublist.1 hasc hsub
    have ha := hr a (hsub.subset (by simp))
    have hb := hr b (hsub.subset (by simp))
    intro x hx y hy e
    subst e
    have e : comp N L lu nu a = comp N L lu nu b := (comp_eq lok hx).symm.trans (comp_eq lok hy)
    unfold isRep at ha hb
    rw [decide_eq_true_eq] at ha hb
    rw [e, hb] at ha
    injection ha with ha
    omega
theorem cmps_sum (lok : LOk N L) : (cmps N L lu nu).flatten.length = ((ups N).filter (aliveI N nu)).length := by
  have h1 := nodup_le (cmps_nodup (lu := lu) (nu := nu) lok) (m := (ups N).filter (aliveI N nu)) fun x hx => by
    obtain ⟨l, hl, hxl⟩ := List.mem_flatten.1 hx
    unfold cmps at hl
    obtain ⟨m, hm, rfl⟩ := List.mem_map.1 hl
    obtain ⟨ha, hr⟩ := (mem_comp lok).1 hxl
    exact List.mem_filter.2 ⟨mem_ups.2 (hr.rg lok (alive_rg ha).1), hr.alive lok ha⟩
  have h2 := nodup_le (l := (ups N).filter (aliveI N nu)) (m := (cmps N L lu nu).flatten) ((ups_asc.filter _).imp fun h => by omega) fun x hx => by
    have ha := (List.mem_filter.1 hx).2
    obtain ⟨p, p1, p2, _⟩ := rep_head (lu := lu) lok ha
    have hpa := rep_alive p1
    exact List.mem_flatten.2 ⟨comp N L lu nu p, List.mem_map.2 ⟨p, List.mem_filter.2 ⟨mem_ups.2 (alive_rg hpa).1, p1⟩, rfl⟩, (mem_comp lok).2 ⟨hpa, p2.symm lok⟩⟩
  omega
end Go.AM
namespace Go.AM
open Go Go.Proofs
variable {K : AVal → Heap → Prop} {s s' s0 : Heap} {t : Bool} {g b0 : Nat} {lv lvg : AVal} {N : Nat} {lu nu lu' nu' : Nat → Bool} {L : List Lk} {n : Int}
theorem acc_slc {b : Nat} {l : List Int} (h : s b = some (false, .cells 3 (izs l))) : Sl s (.slc b 0 l.length none 1) (izs l) := Sl.mk h (by rw [List.length_map]) (by simp)
theorem cmps_row (lok : LOk N L) {l : List Int} (h : l ∈ cmps N L lu nu) {x : Int} (hx : x ∈ l) : aliveI N nu x = true ∧ comp N L lu nu x = l := by
  unfold cmps at h
  obtain ⟨m, _, rfl⟩ := List.mem_map.1 h
  obtain ⟨ha, hr⟩ := (mem_comp lok).1 hx
  exact ⟨hr.alive lok ha, comp_eq lok hx⟩
theorem Parts1 {all many : AVal} {bs : List Nat} {i m0 : Nat} {I0 : List AVal → Heap → Nat → Prop} (z : GRd false s g lvg N L lu nu) (cs : Cs s0 s all bs (cmps N L lu nu)) (hi : i < (cmps N L lu nu).length)
    (hK : ∀ s2, Sub s s2 → ∃ m', m' < m0 ∧ I0 [many, .int .i64 ((i + 1 : Nat) : Int)] s2 m') :
    ∃ I1 : List AVal → Heap → Nat → Prop, (∃ m, I1 [(.int .i64 0)] s m) ∧ ∀ (f : Env) (s : Heap) (m1 : Nat), I1 [f 8] s m1 →
      vc_leafmeshlaw09_TopoParts_l1 XX (.ptr g 0) all many (.int .i64 (i : Int)) (f 8) I1 m1 I0 m0 K s := by
  have lok := z.lok
  have hnn := lok.nn
  have hcl : (cmps N L lu nu).length ≤ N := cmps_len
  have hmem : (cmps N L lu nu)[i] ∈ cmps N L lu nu := List.getElem_mem hi
  have hr := rep_ne lok hmem
  refine ⟨fun ys s2 m => ∃ k : Nat, ys = [.int .i64 k] ∧ k ≤ ((cmps N L lu nu)[i]).length ∧ m = ((cmps N L lu nu)[i]).length - k ∧ Sub s s2, ⟨_, 0, rfl, by omega, rfl, .refl s⟩, ?_⟩
  rintro f s2 m ⟨k, hy, hk, rfl, sub2⟩
  simp only [List.cons.injEq, and_true] at hy
  rw [hy]
  have cs2 := cs.sub sub2
  have z2 := z.sub sub2
  obtain ⟨p, b, g1, g2, _, _, g3⟩ := cs2.row hi
  simp only [vc_leafmeshlaw09_TopoParts_l1, g1, g2, lenOf_slc, arith_lss, optK_mk]
  refine boolK_mk (fun hlt => ?_) (fun hge => ?_)
  · have hlt : k < ((cmps N L lu nu)[i]).length := by have := of_decide_eq_true hlt; omega
    obtain ⟨q, g4, g5⟩ := (acc_slc g3).get (i := k) (by rw [List.length_map]; exact hlt)
    have e1 : (izs ((cmps N L lu nu)[i]))[k]? = some (.int .i64 ((cmps N L lu nu)[i])[k]) := by simp [hlt]
    rw [e1] at g5
    obtain ⟨ha, hc⟩ := cmps_row (lu := lu) lok hmem (List.getElem_mem hlt)
    simp only [g4, g5, optK_mk]
    refine Alive_in z2 ?_
    rw [ha]
    simp only [unary_not, Bool.not_true, optK_mk, boolK_false, g1, g2, g4, g5]
    refine Component_in z2.frz fun w s3 sub3 acc3 _ => ?_
    rw [hc] at acc3
    have acc4 := acc3.add
    have suba : Sub s2 (add s2 s3) := sub_add
    have subc := cut1_sub suba
    generalize hcc : cutH [(s2, (add s2 s3))] (add s2 s3) = sc at subc
    obtain ⟨p', b', g1', g2', e', _, _⟩ := (cs2.sub subc).row hi
    obtain ⟨p2, b2, g12, g22, e2, _, g32⟩ := (cs2.sub suba).row hi
    rw [e2] at e'
    cases e'
    have : p' = p := by rw [g1] at g1'; injection g1' with h; exact h.symm
    subst this
    simp only [g2', optK_mk]
    refine SameI_in acc4.sl (acc_slc g32) (by omega) ?_
    simp only [decide_true, unary_not, Bool.not_true, pickV_false, boolK_false, arith_add, optK_mk]
    rw [wrap64 (by omega) (by omega)]
    exact ⟨_, by omega, k + 1, rfl, by omega, rfl, sub2.trans suba⟩
  · simp only [arith_add, optK_mk]
    rw [wrap64 (by omega) (by omega)]
    exact hK s2 sub2
theorem j6_in {i m4 : Nat} {cs : List AVal} {I4 : List AVal → Heap → Nat → Prop} (z : GRd false s g lvg N L lu nu) (h1 : s b0 = some (false, .cells 52 cs)) (hc : cs[1]? = some lv) (hs : SlR 3 s lv (L.map lkR)) (hi : i < L.length)
    (hK : ∀ s', Sub s s' → ∃ m', m' < m4 ∧ I4 [.int .i64 ((i + 1 : Nat) : Int)] s' m') :
    vc_leafmeshlaw09_TopoParts_j6 XX (.ptr b0 0) (.ptr g 0) (.int .i64 (i : Int)) (.int .i64 L[i].1) (.int .i64 L[i].2.1) (.bool true) (.bool false) (.bool false) I4 m4 K s := by
  have hll := z.lok.ll
  obtain ⟨e1, e2⟩ := up_nbr (lu := lu) (nu := nu) z.lok hi
  simp only [vc_leafmeshlaw09_TopoParts_j6, pickV_false, pickV_true, boolK_false, optK_mk]
  refine Edge_in z h1 hc hs hi fun s2 sub2 => ?_
  rw [e1]
  simp only [eqV_bool, negB_mk, Bool.true_bne, beq_self_eq_true, Bool.not_true, boolK_false, optK_mk]
  refine Edge_in (z.sub sub2) (sub2 _ _ h1) hc (hs.sub sub2) hi fun s3 sub3 => ?_
  rw [e2]
  simp only [eqV_bool, negB_mk, Bool.true_bne, beq_self_eq_true, Bool.not_true, pickV_false, boolK_false, arith_add, optK_mk]
  rw [wrap64 (by omega) (by omega)]
  exact hK s3 (sub2.trans sub3)
theorem btw_len {a b : Int} : (btw L lu nu a b).length ≤ L.length := by
  unfold btw
  rw [List.length_map]
  exact Nat.le_trans (List.length_filter_le _ _) nbrT_len
theorem comp_len (lok : LOk N L) : (comp N L lu nu n).length ≤ N := by
  by_cases ha : aliveI N nu n = true
  · exact nodup_rg comp_nodup fun x hx => (((mem_comp lok).1 hx).2).rg lok (alive_rg ha).1
  · unfold comp; rw [if_neg ha]; simp
theorem Parts4 {many alive : Nat} {cs : List AVal} (z : GRd false s g lvg N L lu nu) (h1 : s b0 = some (false, .cells 52 cs)) (hc : cs[1]? = some lv) (hs : SlR 3 s lv (L.map lkR)) (hma : many = alive) :
    ∃ I4 : List AVal → Heap → Nat → Prop, (∃ m, I4 [(.int .i64 0)] s m) ∧ ∀ (f : Env) (s : Heap) (m4 : Nat), I4 [f 11] s m4 →
      vc_leafmeshlaw09_TopoParts_l4 XX (.ptr b0 0) (.bool true) (.ptr g 0) (.int .i64 (many : Int)) (.int .i64 (alive : Int)) (f 11) I4 m4 (fun v _ => v = .bool true) s := by
  have lok := z.lok
  have hll := lok.ll
  have hnn := lok.nn
  refine ⟨fun ys s2 m => ∃ k : Nat, ys = [.int .i64 k] ∧ k ≤ L.length ∧ m = L.length - k ∧ Sub s s2, ⟨_, 0, rfl, by omega, rfl, .refl s⟩, ?_⟩
  rintro f s2 m ⟨i, hy, hi, rfl, sub2⟩
  simp only [List.cons.injEq, and_true] at hy
  rw [hy]
  have b2 := sub2 _ _ h1
  have k2 := hs.sub sub2
  have z2 := z.sub sub2
  simp only [vc_leafmeshlaw09_TopoParts_l4, addOff_ptr, Nat.zero_add, rd1_mk b2, hc, k2.len, List.length_map, arith_lss, optK_mk]
  refine boolK_mk (fun hlt => ?_) (fun hge => ?_)
  · have hlt : i < L.length := by have := of_decide_eq_true hlt; omega
    obtain ⟨p, o, r1, _, r3⟩ := row_at k2 hlt
    have w0 : (lkR L[i])[0]? = some (.int .i64 L[i].1) := rfl
    have w1 : (lkR L[i])[1]? = some (.int .i64 L[i].2.1) := rfl
    have r0 := r3 0 (by omega)
    have r1' := r3 1 (by omega)
    rw [w0] at r0; rw [w1] at r1'
    have fin : ∀ s', Sub s s' → ∃ m', m' < L.length - i ∧ (fun ys s2 m => ∃ k : Nat, ys = [AVal.int .i64 k] ∧ k ≤ L.length ∧ m = L.length - k ∧ Sub s s2) [AVal.int .i64 ((i + 1 : Nat) : Int)] s' m' := fun s' hs' => ⟨_, by omega, i + 1, rfl, by omega, rfl, hs'⟩
    simp only [r1, addOff_ptr, r0, r1', optK_mk]
    refine Up_in z2 fun s3 sub3 => ?_
    rw [upI_at]
    have z3 := z2.sub sub3
    have k3 := k2.sub sub3
    have b3 := sub3 _ _ b2
    cases hu : upB L lu nu i with
    | true =>
      obtain ⟨m1, m2⟩ := up_btw lok hlt hu
      have m3 := up_comp lok hlt hu
      simp only [boolK_true]
      refine Component_in z3 fun w s4 sub4 acc4 => ?_
      refine lhas_in acc4.sl (by have := comp_len (lu := lu) (nu := nu) (n := L[i].1) lok; omega) ?_
      rw [decide_eq_true m3]
      simp only [unary_not, Bool.not_true, boolK_false, optK_mk]
      have hbl : ∀ a b, (btw L lu nu a b).length ≤ L.length := fun a b => btw_len
      refine Between_in (z3.sub sub4) fun w5 s5 sub5 acc5 => ?_
      refine lhas_in acc5.sl (by have := hbl L[i].1 L[i].2.1; omega) ?_
      rw [decide_eq_true m1]
      simp only [unary_not, Bool.not_true, boolK_false, optK_mk, vc_leafmeshlaw09_TopoParts_j5, pickV_false]
      have sub35 := sub4.trans sub5
      refine Between_in (z3.sub sub35) fun w6 s6 sub6 acc6 => ?_
      refine lhas_in acc6.sl (by have := hbl L[i].2.1 L[i].1; omega) ?_
      rw [decide_eq_true m2]
      simp only [unary_not, Bool.not_true, optK_mk]
      have sub36 := sub35.trans sub6
      exact j6_in (z3.sub sub36) (sub36 _ _ b3) hc (k3.sub sub36) hlt fun s7 sub7 => fin s7 (((sub2.trans sub3).trans sub36).trans sub7)
    | false =>
      have t := j6_in (K := fun v _ => v = .bool true) (I4 := fun ys s2 m => ∃ k : Nat, ys = [AVal.int .i64 k] ∧ k ≤ L.length ∧ m = L.length - k ∧ Sub s s2) (m4 := L.length - i) z3 b3 hc k3 hlt fun s7 sub7 => fin s7 ((sub2.trans sub3).trans sub7)
      simp only [vc_leafmeshlaw09_TopoParts_j6, pickV_false, pickV_true, boolK_false, optK_mk] at t
      simp only [boolK_false, pickV_false, optK_mk]
      exact t
  · subst hma
    simp only [boolK_true, eqV_int, negB_mk, Bool.false_bne, beq_self_eq_true, vc_leafmeshlaw09_TopoParts_j7, pickV_true, optK_mk]
theorem Parts_in {dn dl : AVal} {DN DL : List Int} (hs : SlR 3 s lv (L.map lkR)) (hdn : Sl s dn (izs DN)) (hdl : Sl s dl (izs DL)) : wpCall Try.prog XX 5 [.agg [.int .i64 n, lv, dn, dl]] (fun v _ => v = .bool true) s := by
  have ho : allOne [AVal.int .i64 n, lv, dn, dl] = true := by rw [allOne_cons, allOne_cons, allOne_cons, allOne_cons, hs.one, sl_one hdn, sl_one hdl]; rfl
  refine vc_leafmeshlaw09_TopoParts_in ⟨ho, new_step fun b s1 hb h1 u1 => ?_⟩
  have sub1 := u1.sub hb
  have h1 : s1 b = some (false, .cells 52 [.int .i64 n, lv, dn, dl]) := h1
  have k1 := hs.sub sub1
  have k2 := hdn.sub sub1
  have k3 := hdl.sub sub1
  have q0 : [AVal.int .i64 n, lv, dn, dl][0]? = some (.int .i64 n) := rfl
  have q1 : [AVal.int .i64 n, lv, dn, dl][1]? = some lv := rfl
  refine wp_closedS rfl rfl ?_
  simp only [rdN_all (n := 4) h1 rfl, optK_mk]
  refine made_in k1 k2 k3 (fun _ s6 sub6 => ?_) fun hm N hN s6 g lvg sub6 zg => ?_
  · simp only [eqV_nilptr, negB_mk, Bool.false_bne, optK_mk, boolK_true]
  · subst hN
    have z6 := zg.rd
    generalize dwn L.length DL = lu at z6
    generalize dwn N DN = nu at z6
    have lok := z6.lok
    have hll := lok.ll
    have hnn := lok.nn
    simp only [eqV_ptr, eqV_nilptr, negB_mk, Bool.false_bne, optK_mk, boolK_false]
    refine Components_in z6 fun all bs s7 sub7 cs7 => ?_
    have sub17 := sub6.trans sub7
    have z7 := z6.sub sub7
    have hcl : (cmps N L lu nu).length ≤ N := cmps_len
    have hsum := cmps_sum (lu := lu) (nu := nu) lok
    have hal : ((ups N).filter (aliveI N nu)).length ≤ N := by
      refine Nat.le_trans (List.length_filter_le _ _) ?_
      simp [ups]
    have hfl : ∀ j, ((cmps N L lu nu).take j).flatten.length ≤ N := fun j => by
      have e : (((cmps N L lu nu).take j).flatten ++ ((cmps N L lu nu).drop j).flatten).length = (cmps N L lu nu).flatten.length := by rw [← List.flatten_append, List.take_append_drop]
      rw [List.length_append] at e
      omega
    refine ⟨fun ys s2 m => ∃ i : Nat, ys = [.int .i64 (((cmps N L lu nu).take i).flatten.length : Nat), .int .i64 i] ∧ i ≤ (cmps N L lu nu).length ∧ m = (cmps N L lu nu).length - i ∧ Sub s7 s2, ⟨_, 0, rfl, by omega, rfl, .refl s7⟩, ?_⟩
    rintro f s8 m ⟨i, hy, hi, rfl, sub8⟩
    simp only [List.cons.injEq, and_true] at hy
    rw [hy.1, hy.2]
    have cs8 := cs7.sub sub8
    have z8 := z7.sub sub8
    simp only [vc_leafmeshlaw09_TopoParts_l0, cs8.lenv, arith_lss, optK_mk]
    refine boolK_mk (fun hlt => ?_) (fun hge => ?_)
    · have hlt : i < (cmps N L lu nu).length := by have := of_decide_eq_true hlt; omega
      obtain ⟨p, b', g1, g2, _, _, g3⟩ := cs8.row hlt
      have e1 : ((cmps N L lu nu).take (i + 1)).flatten.length = ((cmps N L lu nu).take i).flatten.length + ((cmps N L lu nu)[i]).length := by
        rw [take_succ_at hlt, List.flatten_append, List.length_append]; simp
      have h2 := hfl (i + 1)
      simp only [g1, g2, lenOf_slc, arith_add, optK_mk]
      rw [wrap64 (by omega) (by omega)]
      have e2 : (((cmps N L lu nu).take i).flatten.length : Int) + (((cmps N L lu nu)[i]).length : Int) = ((((cmps N L lu nu).take (i + 1)).flatten.length : Nat) : Int) := by omega
      rw [e2]
      exact Parts1 z8 cs8 hlt fun s9 sub9 => ⟨_, by omega, i + 1, rfl, by omega, rfl, sub8.trans sub9⟩
    · have hge : i = (cmps N L lu nu).length := by have := of_decide_eq_false hge; omega
      rw [hge, List.take_length, hsum]
      refine ⟨fun ys s2 m => ∃ k : Nat, ys = [.int .i64 (((ups k).filter (aliveI N nu)).length : Nat), .int .i64 k] ∧ k ≤ N ∧ m = N - k ∧ Sub s7 s2, ⟨_, 0, rfl, by omega, rfl, sub8⟩, ?_⟩
      rintro f s9 m ⟨k, hy, hk, rfl, sub9⟩
      simp only [List.cons.injEq, and_true] at hy
      rw [hy.1, hy.2]
      have z9 := z7.sub sub9
      have b9 := sub9 _ _ (sub17 _ _ h1)
      simp only [vc_leafmeshlaw09_TopoParts_l2, addOff_ptr, Nat.zero_add, rd1_mk b9, q0, arith_lss, optK_mk]
      refine boolK_mk (fun hlt => ?_) (fun hge => ?_)
      · have hlt : k < N := by have := of_decide_eq_true hlt; omega
        have hfk : ((ups k).filter (aliveI N nu)).length ≤ k := by
          refine Nat.le_trans (List.length_filter_le _ _) ?_
          simp [ups]
        refine Alive_in z9 ?_
        have e3 : IntKind.i64.wrap ((k : Int) + 1) = ((k + 1 : Nat) : Int) := by rw [wrap64 (by omega) (by omega)]; omega
        cases ha : aliveI N nu k with
        | true =>
          have e4 : ((ups (k + 1)).filter (aliveI N nu)).length = ((ups k).filter (aliveI N nu)).length + 1 := by
            rw [ups_succ, List.filter_append, List.filter_cons_of_pos ha, List.length_append]; rfl
          simp only [boolK_true, vc_leafmeshlaw09_TopoParts_j3, arith_add, e3, optK_mk]
          rw [wrap64 (by omega) (by omega)]
          exact ⟨_, by omega, k + 1, by rw [e4]; rfl, by omega, rfl, sub9⟩
        | false =>
          have e4 : ((ups (k + 1)).filter (aliveI N nu)).length = ((ups k).filter (aliveI N nu)).length := by
            rw [ups_succ, List.filter_append, List.filter_cons_of_neg (by rw [ha]; simp), List.length_append]; rfl
          simp only [boolK_false, vc_leafmeshlaw09_TopoParts_j3, arith_add, e3, optK_mk]
          exact ⟨_, by omega, k + 1, by rw [e4], by omega, rfl, sub9⟩
      · have hge : k = N := by have := of_decide_eq_false hge; omega
        rw [hge]
        exact Parts4 z9 b9 q1 (k1.sub (sub17.trans sub9)) rfl
theorem Parts_wp (s : Heap) (xs : List AVal) (h : ArgL Try.prog s 40 [52] xs) : wpCall Try.prog XX 5 xs (fun v _ => v = .bool true) s := by
  obtain ⟨p, rfl, h1⟩ := argl1 h
  obtain ⟨n, lv, dn, dl, L, DN, DL, rfl, hL, hDN, hDL, _⟩ := arg_st (d := 36) h1
  exact Parts_in hL hDN hDL
end Go.AM
namespace Go.AM
open Go Go.Proofs
variable {K : AVal → Heap → Prop} {s s' s0 : Heap} {o : Nat} {lv nv kv : AVal} {N : Nat} {lu nu lu' nu' : Nat → Bool} {L : List Lk} {n : Int}
/-! ### the reference is read -/
def upsB (N : Nat) (f : Nat → Bool) : List Bool := (List.range N).map f
theorem upsB_len {f : Nat → Bool} : (upsB N f).length = N := by simp [upsB]
theorem bl_at {v : AVal} {f : Nat → Bool} (h : Sl s v (bls (upsB N f))) {x : Int} (hx : 0 ≤ x ∧ x < N) : ∃ p, iaddrS 1 v (.int .i64 x) = some p ∧ rd1 s p = some (.bool (f x.toNat)) := by
  obtain ⟨i, rfl⟩ : ∃ i : Nat, x = i := ⟨x.toNat, by omega⟩
  obtain ⟨p, g1, g2⟩ := h.get (i := i) (by rw [List.length_map, upsB_len]; omega)
  refine ⟨p, g1, ?_⟩
  rw [g2]
  simp [upsB, show i < N by omega]
structure RRd (s : Heap) (o : Nat) (lv nv kv : AVal) (N : Nat) (L : List Lk) (lu nu : Nat → Bool) : Prop where
  ob : ∃ t, s o = some (t, .cells 87 [.int .i64 N, lv, nv, kv])
  ls : SlR 3 s lv (L.map lkR)
  ns : Sl s nv (bls (upsB N nu))
  ks : Sl s kv (bls (upsB L.length lu))
  lok : LOk N L
theorem RRd.sub (z : RRd s o lv nv kv N L lu nu) (h : Sub s s') : RRd s' o lv nv kv N L lu nu := by
  obtain ⟨⟨t, h1⟩, h2, h3, h4, h5⟩ := z
  exact ⟨⟨t, h _ _ h1⟩, h2.sub h, h3.sub h, h4.sub h, h5⟩
theorem RRd.r0 (z : RRd s o lv nv kv N L lu nu) : rd1 s (.ptr o 0) = some (.int .i64 N) := by obtain ⟨t, h⟩ := z.ob; rw [rd1_mk h]; rfl
theorem RRd.r1 (z : RRd s o lv nv kv N L lu nu) : rd1 s (.ptr o 1) = some lv := by obtain ⟨t, h⟩ := z.ob; rw [rd1_mk h]; rfl
theorem RRd.r2 (z : RRd s o lv nv kv N L lu nu) : rd1 s (.ptr o 2) = some nv := by obtain ⟨t, h⟩ := z.ob; rw [rd1_mk h]; rfl
theorem RRd.r3 (z : RRd s o lv nv kv N L lu nu) : rd1 s (.ptr o 3) = some kv := by obtain ⟨t, h⟩ := z.ob; rw [rd1_mk h]; rfl
theorem RRd.lenL (z : RRd s o lv nv kv N L lu nu) : lenOfA lv = some L.length := by rw [z.ls.len, List.length_map]
theorem rUp_in {i : Int} (z : RRd s o lv nv kv N L lu nu) (hK : K (.bool (upI L lu nu i)) s) : wpCall Try.prog XX 52 [.ptr o 0, .int .i64 i] K s := by
  refine vc_leafmeshref09_Graph_Up_in ?_
  simp only [vc_leafmeshref09_Graph_Up, arith_geq, optK_mk]
  by_cases h0 : 0 ≤ i
  · obtain ⟨k, rfl⟩ : ∃ k : Nat, i = k := ⟨i.toNat, by omega⟩
    rw [upI_at] at hK
    simp only [decide_eq_true h0, boolK_true, nilCheck_ptr, addOff_ptr, Nat.zero_add, z.r1, z.lenL, arith_lss, vc_leafmeshref09_Graph_Up_j0, pickV_true, optK_mk]
    by_cases hk : k < L.length
    · rw [upB_get hk] at hK
      obtain ⟨hA, hB, _⟩ := z.lok.ok _ (List.getElem_mem hk)
      obtain ⟨p1, a1, a2⟩ := bl_at z.ks (x := (k : Int)) (by omega)
      rw [Int.toNat_natCast] at a2
      obtain ⟨b, of, r1, _, r3⟩ := row_at z.ls hk
      have w0 : (lkR L[k])[0]? = some (.int .i64 L[k].1) := rfl
      have w1 : (lkR L[k])[1]? = some (.int .i64 L[k].2.1) := rfl
      have r0 := r3 0 (by omega)
      have r1' := r3 1 (by omega)
      rw [w0] at r0; rw [w1] at r1'
      obtain ⟨p2, b1, b2⟩ := bl_at z.ns hA
      obtain ⟨p3, c1, c2⟩ := bl_at z.ns hB
      simp only [decide_eq_true (show (k : Int) < L.length by omega), boolK_true, nilCheck_ptr, addOff_ptr, Nat.zero_add, z.r3, a1, a2, vc_leafmeshref09_Graph_Up_j1, pickV_true, optK_mk]
      cases hlu : lu k with
      | false =>
        rw [hlu] at hK
        simp only [boolK_false, vc_leafmeshref09_Graph_Up_j2, vc_leafmeshref09_Graph_Up_j3, pickV_false, optK_mk]
        exact hK
      | true =>
        rw [hlu] at hK
        simp only [boolK_true, nilCheck_ptr, addOff_ptr, Nat.zero_add, z.r2, z.r1, r1, r0, b1, b2, vc_leafmeshref09_Graph_Up_j2, pickV_true, optK_mk]
        cases hna : nu L[k].1.toNat with
        | false =>
          rw [hna] at hK
          simp only [boolK_false, vc_leafmeshref09_Graph_Up_j3, pickV_false, optK_mk]
          exact hK
        | true =>
          rw [hna] at hK
          simp only [boolK_true, nilCheck_ptr, addOff_ptr, Nat.zero_add, z.r2, z.r1, r1, r1', c1, c2, vc_leafmeshref09_Graph_Up_j3, pickV_true, optK_mk]
          exact hK
    · have e : upB L lu nu k = false := by unfold upB; rw [List.getElem?_eq_none (by omega)]
      rw [e] at hK
      simp only [decide_eq_false (show ¬ (k : Int) < L.length by omega), boolK_false, vc_leafmeshref09_Graph_Up_j1, vc_leafmeshref09_Graph_Up_j2, vc_leafmeshref09_Graph_Up_j3, pickV_false, optK_mk]
      exact hK
  · have e : upI L lu nu i = false := by unfold upI; rw [decide_eq_false h0]; rfl
    rw [e] at hK
    simp only [decide_eq_false h0, boolK_false, vc_leafmeshref09_Graph_Up_j0, vc_leafmeshref09_Graph_Up_j1, vc_leafmeshref09_Graph_Up_j2, vc_leafmeshref09_Graph_Up_j3, pickV_false, optK_mk]
    exact hK
theorem rAlive_in (z : RRd s o lv nv kv N L lu nu) (hK : K (.bool (aliveI N nu n)) s) : wpCall Try.prog XX 48 [.ptr o 0, .int .i64 n] K s := by
  refine vc_leafmeshref09_Graph_Alive_in ?_
  simp only [vc_leafmeshref09_Graph_Alive, arith_geq, optK_mk]
  by_cases h0 : 0 ≤ n
  · simp only [decide_eq_true h0, boolK_true, nilCheck_ptr, addOff_ptr, Nat.zero_add, z.r0, arith_lss, vc_leafmeshref09_Graph_Alive_j0, pickV_true, optK_mk]
    by_cases h1 : n < (N : Int)
    · have e : aliveI N nu n = nu n.toNat := by unfold aliveI; rw [decide_eq_true ⟨h0, h1⟩]; rfl
      rw [e] at hK
      obtain ⟨p2, b1, b2⟩ := bl_at z.ns ⟨h0, h1⟩
      simp only [decide_eq_true h1, boolK_true, nilCheck_ptr, addOff_ptr, Nat.zero_add, z.r2, b1, b2, vc_leafmeshref09_Graph_Alive_j1, pickV_true, optK_mk]
      exact hK
    · have e : aliveI N nu n = false := by unfold aliveI; rw [decide_eq_false (by omega)]; rfl
      rw [e] at hK
      simp only [decide_eq_false h1, boolK_false, vc_leafmeshref09_Graph_Alive_j1, pickV_false, optK_mk]
      exact hK
  · have e : aliveI N nu n = false := by unfold aliveI; rw [decide_eq_false (by omega)]; rfl
    rw [e] at hK
    simp only [decide_eq_false h0, boolK_false, vc_leafmeshref09_Graph_Alive_j0, vc_leafmeshref09_Graph_Alive_j1, pickV_false, optK_mk]
    exact hK
theorem rFlags_in (z : RRd s o lv nv kv N L lu nu) (hK : ∀ v s', Sub s s' → Acc 4 s s' v (bls (flagsL L lu nu)) → K v s') : wpCall Try.prog XX 46 [.ptr o 0] K s := by
  have hll := z.lok.ll
  refine vc_leafmeshref09_Graph_Flags_in ⟨fun ys s2 m => ∃ (i : Nat) (v : AVal), ys = [v, .int .i64 i] ∧ i ≤ L.length ∧ m = L.length - i ∧ Sub s s2 ∧ Acc 4 s s2 v (bls ((List.range i).map (upB L lu nu))), ⟨_, 0, .nilslc, rfl, by omega, rfl, .refl s, .inl ⟨rfl, rfl⟩⟩, ?_⟩
  rintro f s2 m ⟨i, v, hy, hi, rfl, sub2, acc2⟩
  simp only [List.cons.injEq, and_true] at hy
  rw [hy.1, hy.2]
  have z2 := z.sub sub2
  simp only [vc_leafmeshref09_Graph_Flags_l0, nilCheck_ptr, addOff_ptr, Nat.zero_add, z2.r1, z2.lenL, arith_lss, optK_mk]
  refine boolK_mk (fun hlt => ?_) (fun hge => ?_)
  · have hlt : i < L.length := by have := of_decide_eq_true hlt; omega
    refine rUp_in z2 ?_
    rw [upI_at]
    refine pushV acc2 rfl rfl (by rw [List.length_map, List.length_map, List.length_range]; omega) sub2 fun v' s3 sub3 acc3 => ?_
    simp only [arith_add, optK_mk]
    rw [wrap64 (by omega) (by omega)]
    refine ⟨_, by omega, i + 1, v', rfl, by omega, rfl, sub3, ?_⟩
    rw [List.range_succ, List.map_append, bls, List.map_append]
    exact acc3
  · have hge : i = L.length := by have := of_decide_eq_false hge; omega
    subst hge
    exact hK v s2 sub2 acc2
theorem AccR.old {e : TypeId} {k : Nat} {s1 : Heap} {v : AVal} {m : List (List AVal)} (h : AccR e k s1 s v m) (hs : Sub s0 s1) : AccR e k s0 s v m := by
  obtain ⟨h1, h⟩ := h
  refine ⟨h1, ?_⟩
  rcases h with h | ⟨b, h0, a, h2⟩
  · exact .inl h
  · refine .inr ⟨b, ?_, a, h2⟩
    cases q : s0 b with
    | none => rfl
    | some y => rw [hs b y q] at h0; cases h0
theorem AccR.base {e : TypeId} {k : Nat} {v : AVal} {m : List (List AVal)} (h : AccR e k s0 s v m) (hs : Sub s0 s) : ∃ sb, Sub s0 sb ∧ Sub sb s ∧ AccR e k sb s v m ∧ ∀ b x, s b = some x → (∀ l, x ≠ (false, .cells e l)) → sb b = some x := by
  obtain ⟨h1, h⟩ := h
  rcases h with h | ⟨b, h0, a, h2⟩
  · exact ⟨s, hs, .refl s, ⟨h1, .inl h⟩, fun _ _ h _ => h⟩
  · refine ⟨hdel s b, fun i y hi => ?_, fun i y hi => ?_, ⟨h1, .inr ⟨b, by simp [hdel], a, h2⟩⟩, fun i x hi hx => ?_⟩
    · rw [hdel_ne (ne_of_some h0 hi)]; exact hs i y hi
    · by_cases q : i = b
      · rw [q] at hi; simp [hdel] at hi
      · rwa [hdel_ne q] at hi
    · rw [hdel_ne]; exact hi
      rintro rfl
      rw [h2] at hi
      injection hi with hi
      exact hx _ hi.symm
theorem rNeighbors_in (z : RRd s o lv nv kv N L lu nu) (hK : ∀ v s', Sub s s' → AccR 59 3 s s' v ((nbr L lu nu n).map lkR) → K v s') : wpCall Try.prog XX 49 [.ptr o 0, .int .i64 n] K s := by
  have hll := z.lok.ll
  refine vc_leafmeshref09_Graph_Neighbors_in ⟨fun ys s2 m => ∃ (i : Nat) (v : AVal), ys = [v, .int .i64 i] ∧ i ≤ L.length ∧ m = L.length - i ∧ Sub s s2 ∧ AccR 59 3 s s2 v ((nbrT L lu nu n i).map lkR), ⟨_, 0, .nilslc, rfl, by omega, rfl, .refl s, ⟨by simp [nbrT], .inl ⟨rfl, rfl⟩⟩⟩, ?_⟩
  rintro f s2 m ⟨i, v, hy, hi, rfl, sub2, acc2⟩
  simp only [List.cons.injEq, and_true] at hy
  rw [hy.1, hy.2]
  have z2 := z.sub sub2
  simp only [vc_leafmeshref09_Graph_Neighbors_l0, nilCheck_ptr, addOff_ptr, Nat.zero_add, z2.r1, z2.lenL, arith_lss, optK_mk]
  refine boolK_mk (fun hlt => ?_) (fun hge => ?_)
  · have hlt : i < L.length := by have := of_decide_eq_true hlt; omega
    obtain ⟨b, of, g1, g2, _⟩ := row_at z2.ls hlt
    have hne := (z.lok.ok _ (List.getElem_mem hlt)).2.2.1
    have hnl : (nbrT L lu nu n i).length ≤ i := nbrT_len
    simp only [nilCheck_ptr, addOff_ptr, Nat.zero_add, z2.r1, g1, g2, optK_mk]
    refine new_step fun c s3 hc h3 u3 => wrAgg_step h3 rfl rfl rfl fun s4 h4 u4 => ?_
    have sub24 : Sub s2 s4 := (u3.sub hc).upto u4 hc
    have sub4 := sub2.trans sub24
    have h4 : s4 c = some (false, .cells 26 (lkR L[i])) := h4
    have acc4 := acc2.sub sub24
    have z4 := z.sub sub4
    have e0 : (lkR L[i])[0]? = some (.int .i64 L[i].1) := rfl
    have e1 : (lkR L[i])[1]? = some (.int .i64 L[i].2.1) := rfl
    have e2 : (lkR L[i])[2]? = some (.int .i64 L[i].2.2) := rfl
    have fin : ∀ (s6 : Heap) (v6 : AVal), Sub s s6 → AccR 59 3 s s6 v6 ((nbrT L lu nu n (i + 1)).map lkR) → vc_leafmeshref09_Graph_Neighbors_j4 XX v6 (.int .i64 (i : Int)) (fun ys s2 m => ∃ (i : Nat) (v : AVal), ys = [v, .int .i64 i] ∧ i ≤ L.length ∧ m = L.length - i ∧ Sub s s2 ∧ AccR 59 3 s s2 v ((nbrT L lu nu n i).map lkR)) (L.length - i) K s6 := by
      intro s6 v6 a1 a2
      simp only [vc_leafmeshref09_Graph_Neighbors_j4, arith_add, optK_mk]
      rw [wrap64 (by omega) (by omega)]
      exact ⟨_, by omega, i + 1, v6, rfl, by omega, rfl, a1, a2⟩
    have stay : edgeAt L lu nu n i = none → nbrT L lu nu n (i + 1) = nbrT L lu nu n i := fun e => by rw [nbrT_succ, e]; simp
    have more : ∀ {x y z : Int}, edgeAt L lu nu n i = some (x, y, z) → nbrT L lu nu n (i + 1) = nbrT L lu nu n i ++ [(x, y, z)] := fun e => by rw [nbrT_succ, e]; rfl
    have eA := edgeAt_get (lu := lu) (nu := nu) (n := n) hlt
    refine rUp_in z4 ?_
    rw [upI_at]
    cases hu : upB L lu nu i with
    | false =>
      rw [hu] at eA
      simp only [boolK_false, vc_leafmeshref09_Graph_Neighbors_j1, vc_leafmeshref09_Graph_Neighbors_j2, pickV_false, optK_mk]
      refine rUp_in z4 ?_
      rw [upI_at, hu]
      simp only [boolK_false, vc_leafmeshref09_Graph_Neighbors_j3, pickV_false, optK_mk]
      exact fin s4 v sub4 (by rw [stay (by rw [eA]; rfl)]; exact acc4)
    | true =>
      rw [hu, if_pos rfl] at eA
      simp only [boolK_true, addOff_ptr, Nat.zero_add, rd1_mk h4, e0, e1, e2, optK_mk, eqV_int, negB_mk, Bool.false_bne, vc_leafmeshref09_Graph_Neighbors_j1, pickV_true]
      refine boolK_mk (fun ha => ?_) (fun ha => ?_)
      · have ha := eq_of_beq ha
        rw [if_pos ha] at eA
        obtain ⟨sb, q1, q2, q3, q4⟩ := acc4.base sub4
        refine pushE q3 q2 (by omega) fun v6 s6 sub6 acc6 => ?_
        have h6 := sub6 _ _ (q4 _ _ h4 fun l e => by cases e)
        have z6 := z.sub (q1.trans sub6)
        simp only [vc_leafmeshref09_Graph_Neighbors_j2]
        refine rUp_in z6 ?_
        rw [upI_at, hu]
        have hb : ¬ L[i].2.1 = n := by rw [← ha]; exact hne.symm
        simp only [boolK_true, addOff_ptr, Nat.zero_add, rd1_mk h6, e0, e1, e2, optK_mk, eqV_int, negB_mk, Bool.false_bne, beq_eq_false_iff_ne.2 hb, boolK_false, vc_leafmeshref09_Graph_Neighbors_j3, pickV_true]
        refine fin s6 v6 (q1.trans sub6) ?_
        rw [more eA]
        exact acc6.old q1
      · have ha : ¬ L[i].1 = n := beq_eq_false_iff_ne.1 ha
        rw [if_neg ha] at eA
        simp only [vc_leafmeshref09_Graph_Neighbors_j2]
        refine rUp_in z4 ?_
        rw [upI_at, hu]
        simp only [boolK_true, addOff_ptr, Nat.zero_add, rd1_mk h4, e0, e1, e2, optK_mk, eqV_int, negB_mk, Bool.false_bne, vc_leafmeshref09_Graph_Neighbors_j3, pickV_true]
        refine boolK_mk (fun hb => ?_) (fun hb => ?_)
        · have hb := eq_of_beq hb
          rw [if_pos hb] at eA
          refine pushE acc4 sub4 (by omega) fun v6 s6 sub6 acc6 => fin s6 v6 sub6 ?_
          rw [more eA]; exact acc6
        · have hb : ¬ L[i].2.1 = n := beq_eq_false_iff_ne.1 hb
          rw [if_neg hb] at eA
          exact fin s4 v sub4 (by rw [stay eA]; exact acc4)
  · have hge : i = L.length := by have := of_decide_eq_false hge; omega
    subst hge
    exact hK v s2 sub2 acc2
def bAt (L : List Lk) (lu nu : Nat → Bool) (a b : Int) (i : Nat) : List Int := match L[i]? with
  | some x => if upB L lu nu i = true ∧ (x.1 = a ∧ x.2.1 = b ∨ x.1 = b ∧ x.2.1 = a) then [(i : Int)] else []
  | none => []
def btwT (L : List Lk) (lu nu : Nat → Bool) (a b : Int) (k : Nat) : List Int := ((nbrT L lu nu a k).filter fun e => decide (e.2.1 = b)).map (·.1)
theorem btwT_succ (lok : LOk N L) {a b : Int} {k : Nat} (hk : k < L.length) : btwT L lu nu a b (k + 1) = btwT L lu nu a b k ++ bAt L lu nu a b k := by
  unfold btwT
  rw [nbrT_succ, List.filter_append, List.map_append, edgeAt_get hk]
  congr 1
  have hne := (lok.ok _ (List.getElem_mem hk)).2.2.1
  unfold bAt
  rw [List.getElem?_eq_getElem hk]
  simp only
  by_cases hu : upB L lu nu k = true
  · rw [if_pos hu]
    by_cases hA : L[k].1 = a
    · rw [if_pos hA]
      by_cases hB : L[k].2.1 = b
      · rw [if_pos ⟨hu, .inl ⟨hA, hB⟩⟩]; simp [hB]
      · rw [if_neg]; simp [hB]
        rintro ⟨_, h | h⟩
        · exact hB h.2
        · exact hne (hA.trans h.2.symm)
    · rw [if_neg hA]
      by_cases hB : L[k].2.1 = a
      · rw [if_pos hB]
        by_cases hC : L[k].1 = b
        · rw [if_pos ⟨hu, .inr ⟨hC, hB⟩⟩]; simp [hC]
        · rw [if_neg]; simp [hC]
          rintro ⟨_, h | h⟩
          · exact hA h.1
          · exact hC h.1
      · rw [if_neg hB, if_neg]; rfl
        rintro ⟨_, h | h⟩
        · exact hA h.1
        · exact hB h.2
  · rw [if_neg hu, if_neg fun h => hu h.1]; rfl
theorem btwT_len {a b : Int} {k : Nat} : (btwT L lu nu a b k).length ≤ k := by
  unfold btwT
  rw [List.length_map]
  exact Nat.le_trans (List.length_filter_le _ _) nbrT_len
theorem rBetween_in {a b : Int} (z : RRd s o lv nv kv N L lu nu) (hK : ∀ v s', Sub s s' → Acc 3 s s' v (izs (btw L lu nu a b)) → K v s') : wpCall Try.prog XX 51 [.ptr o 0, .int .i64 a, .int .i64 b] K s := by
  have hll := z.lok.ll
  refine vc_leafmeshref09_Graph_Between_in ⟨fun ys s2 m => ∃ (i : Nat) (v : AVal), ys = [v, .int .i64 i] ∧ i ≤ L.length ∧ m = L.length - i ∧ Sub s s2 ∧ Acc 3 s s2 v (izs (btwT L lu nu a b i)), ⟨_, 0, .nilslc, rfl, by omega, rfl, .refl s, .inl ⟨rfl, rfl⟩⟩, ?_⟩
  rintro f s2 m ⟨i, v, hy, hi, rfl, sub2, acc2⟩
  simp only [List.cons.injEq, and_true] at hy
  rw [hy.1, hy.2]
  have z2 := z.sub sub2
  simp only [vc_leafmeshref09_Graph_Between_l0, nilCheck_ptr, addOff_ptr, Nat.zero_add, z2.r1, z2.lenL, arith_lss, optK_mk]
  refine boolK_mk (fun hlt => ?_) (fun hge => ?_)
  · have hlt : i < L.length := by have := of_decide_eq_true hlt; omega
    obtain ⟨bb, of, g1, g2, _⟩ := row_at z2.ls hlt
    have hbl : (btwT L lu nu a b i).length ≤ i := btwT_len
    simp only [nilCheck_ptr, addOff_ptr, Nat.zero_add, z2.r1, g1, g2, optK_mk]
    refine new_step fun c s3 hc h3 u3 => wrAgg_step h3 rfl rfl rfl fun s4 h4 u4 => ?_
    have sub24 : Sub s2 s4 := (u3.sub hc).upto u4 hc
    have sub4 := sub2.trans sub24
    have h4 : s4 c = some (false, .cells 26 (lkR L[i])) := h4
    have acc4 : Acc 3 s s4 v _ := acc2.to fun b _ _ _ _ x hx => sub24 b x hx
    have z4 := z.sub sub4
    have e0 : (lkR L[i])[0]? = some (.int .i64 L[i].1) := rfl
    have e1 : (lkR L[i])[1]? = some (.int .i64 L[i].2.1) := rfl
    have eS := btwT_succ (lu := lu) (nu := nu) (a := a) (b := b) z.lok hlt
    have eB : bAt L lu nu a b i = if upB L lu nu i = true ∧ (L[i].1 = a ∧ L[i].2.1 = b ∨ L[i].1 = b ∧ L[i].2.1 = a) then [(i : Int)] else [] := by
      unfold bAt; rw [List.getElem?_eq_getElem hlt]
    have fin : ∀ (s6 : Heap) (v6 : AVal), Sub s s6 → Acc 3 s s6 v6 (izs (btwT L lu nu a b (i + 1))) → optK (arithV .add (.int .i64 (i : Int)) (.int .i64 1)) fun v_22 => ∃ m', m' < L.length - i ∧ (fun ys s2 m => ∃ (i : Nat) (v : AVal), ys = [v, .int .i64 i] ∧ i ≤ L.length ∧ m = L.length - i ∧ Sub s s2 ∧ Acc 3 s s2 v (izs (btwT L lu nu a b i))) [v6, v_22] s6 m' := by
      intro s6 v6 a1 a2
      simp only [arith_add, optK_mk]
      rw [wrap64 (by omega) (by omega)]
      exact ⟨_, by omega, i + 1, v6, rfl, by omega, rfl, a1, a2⟩
    have no : ¬ (upB L lu nu i = true ∧ (L[i].1 = a ∧ L[i].2.1 = b ∨ L[i].1 = b ∧ L[i].2.1 = a)) → Acc 3 s s4 v (izs (btwT L lu nu a b (i + 1))) := fun h => by
      rw [eS, eB, if_neg h, List.append_nil]; exact acc4
    have yes : (upB L lu nu i = true ∧ (L[i].1 = a ∧ L[i].2.1 = b ∨ L[i].1 = b ∧ L[i].2.1 = a)) → btwT L lu nu a b (i + 1) = btwT L lu nu a b i ++ [(i : Int)] := fun h => by
      rw [eS, eB, if_pos h]
    refine rUp_in z4 ?_
    rw [upI_at]
    cases hu : upB L lu nu i with
    | false =>
      simp only [boolK_false, pickV_false, vc_leafmeshref09_Graph_Between_j5, optK_mk]
      exact fin s4 v sub4 (no (by rw [hu]; simp))
    | true =>
      simp only [boolK_true, addOff_ptr, Nat.zero_add, rd1_mk h4, e0, e1, optK_mk, eqV_int, negB_mk, Bool.false_bne]
      have tail : ¬ (L[i].1 = a ∧ L[i].2.1 = b) → optK (negB false (eqV 0 false (.int .i64 L[i].1) (.int .i64 b))) fun v_30 =>
          boolK v_30
           (optK (addOff 1 (.ptr c 0)) fun v_40 =>
            optK (rd1 s4 v_40) fun v_41 =>
            optK (negB false (eqV 0 false v_41 (.int .i64 a))) fun v_42 =>
            vc_leafmeshref09_Graph_Between_j3 XX v (.int .i64 (i : Int)) (.bool true) (.bool false) v_30 v_42 (fun ys s2 m => ∃ (i : Nat) (v : AVal), ys = [v, .int .i64 i] ∧ i ≤ L.length ∧ m = L.length - i ∧ Sub s s2 ∧ Acc 3 s s2 v (izs (btwT L lu nu a b i))) (L.length - i) K s4)
           (vc_leafmeshref09_Graph_Between_j3 XX v (.int .i64 (i : Int)) (.bool true) (.bool false) v_30 .undef (fun ys s2 m => ∃ (i : Nat) (v : AVal), ys = [v, .int .i64 i] ∧ i ≤ L.length ∧ m = L.length - i ∧ Sub s s2 ∧ Acc 3 s s2 v (izs (btwT L lu nu a b i))) (L.length - i) K s4) := by
        intro hn
        simp only [eqV_int, negB_mk, Bool.false_bne, optK_mk]
        by_cases h3 : L[i].1 = b
        · have h3' : (L[i].1 == b) = true := beq_iff_eq.2 h3
          simp only [h3', boolK_true, addOff_ptr, Nat.zero_add, rd1_mk h4, e1, optK_mk, eqV_int, negB_mk, Bool.false_bne, vc_leafmeshref09_Graph_Between_j3, pickV_true, pickV_false]
          refine boolK_mk (fun h5 => ?_) (fun h5 => ?_)
          · have h5 := eq_of_beq h5
            refine pushI acc4 (by omega) sub4 fun v6 s6 sub6 acc6 => ?_
            simp only [vc_leafmeshref09_Graph_Between_j4]
            refine fin s6 v6 sub6 ?_
            rw [yes ⟨hu, .inr ⟨h3, h5⟩⟩]; exact acc6
          · have h5 : ¬ L[i].2.1 = a := beq_eq_false_iff_ne.1 h5
            simp only [vc_leafmeshref09_Graph_Between_j4]
            exact fin s4 v sub4 (no fun h => h.2.elim (fun q => hn q) fun q => h5 q.2)
        · have h3' : (L[i].1 == b) = false := beq_eq_false_iff_ne.2 h3
          simp only [h3', boolK_false, vc_leafmeshref09_Graph_Between_j3, pickV_true, pickV_false, optK_mk, vc_leafmeshref09_Graph_Between_j4]
          exact fin s4 v sub4 (no fun h => h.2.elim (fun q => hn q) fun q => h3 q.1)
      by_cases h1 : L[i].1 = a
      · have h1' : (L[i].1 == a) = true := beq_iff_eq.2 h1
        simp only [h1', boolK_true, addOff_ptr, Nat.zero_add, rd1_mk h4, e1, optK_mk, eqV_int, negB_mk, Bool.false_bne, vc_leafmeshref09_Graph_Between_j1, pickV_true]
        by_cases h2 : L[i].2.1 = b
        · have h2' : (L[i].2.1 == b) = true := beq_iff_eq.2 h2
          simp only [h2', boolK_true, pickV_true, optK_mk]
          refine pushI acc4 (by omega) sub4 fun v6 s6 sub6 acc6 => ?_
          simp only [vc_leafmeshref09_Graph_Between_j2]
          refine fin s6 v6 sub6 ?_
          rw [yes ⟨hu, .inl ⟨h1, h2⟩⟩]; exact acc6
        · have h2' : (L[i].2.1 == b) = false := beq_eq_false_iff_ne.2 h2
          simp only [h2', boolK_false, addOff_ptr, Nat.zero_add, rd1_mk h4, e0, optK_mk]
          have t := tail fun h => h2 h.2
          simp only [addOff_ptr, Nat.zero_add, rd1_mk h4, e0, e1, optK_mk, eqV_int, negB_mk, Bool.false_bne] at t ⊢
          exact t
      · have h1' : (L[i].1 == a) = false := beq_eq_false_iff_ne.2 h1
        simp only [h1', boolK_false, addOff_ptr, Nat.zero_add, rd1_mk h4, e0, optK_mk, vc_leafmeshref09_Graph_Between_j1, pickV_false]
        have t := tail fun h => h1 h.1
        simp only [addOff_ptr, Nat.zero_add, rd1_mk h4, e0, e1, optK_mk, eqV_int, negB_mk, Bool.false_bne] at t ⊢
        exact t
  · have hge : i = L.length := by have := of_decide_eq_false hge; omega
    subst hge
    exact hK v s2 sub2 acc2
end Go.AM
namespace Go.AM
open Go Go.Proofs
variable {K : AVal → Heap → Prop} {s s' s0 : Heap} {o : Nat} {lv nv kv : AVal} {N : Nat} {lu nu lu' nu' : Nat → Bool} {L : List Lk} {n : Int}
/-! ### the reference's components -/
def cntB (N : Nat) (f : Nat → Bool) : Nat := ((List.range N).filter f).length
theorem cntB_le {f : Nat → Bool} : cntB N f ≤ N := by
  unfold cntB
  exact Nat.le_trans (List.length_filter_le _ _) (by simp)
theorem cntB_succ {f : Nat → Bool} : cntB (N + 1) f = cntB N f + (if f N = true then 1 else 0) := by
  unfold cntB
  rw [List.range_succ, List.filter_append, List.length_append]
  congr 1
  by_cases h : f N = true
  · rw [if_pos h, List.filter_cons_of_pos h]; rfl
  · rw [if_neg h, List.filter_cons_of_neg h]; rfl
theorem cntB_congr {f f' : Nat → Bool} (h : ∀ j, j < N → f j = f' j) : cntB N f = cntB N f' := by
  unfold cntB
  rw [List.filter_congr fun x hx => h x (List.mem_range.1 hx)]
theorem cntB_upd {f : Nat → Bool} {a : Nat} : ∀ {N : Nat}, a < N → f a = false → cntB N (upd1 f a true) = cntB N f + 1 := by
  intro N
  induction N with
  | zero => intro h _; omega
  | succ N ih =>
    intro h hf
    rw [cntB_succ, cntB_succ]
    by_cases e : a = N
    · subst e
      rw [cntB_congr (f := upd1 f a true) (f' := f) fun j hj => by rw [upd1_at, if_neg (by omega)], hf, upd1_at, if_pos rfl]
      simp
    · rw [ih (by omega) hf, upd1_at, if_neg (Ne.symm e)]
      omega
theorem upd1_same {f : Nat → Bool} {a : Nat} (h : f a = true) : upd1 f a true = f := by
  funext j
  rw [upd1_at]
  by_cases e : j = a
  · rw [if_pos e, e, h]
  · rw [if_neg e]
theorem upsB_set {f : Nat → Bool} {i : Nat} {x : Bool} : (bls (upsB N f)).set i (.bool x) = bls (upsB N (upd1 f i x)) := by
  refine List.ext_getElem? fun j => ?_
  rw [List.getElem?_set]
  by_cases hj : j < N
  · by_cases e : i = j
    · subst e
      rw [if_pos rfl, if_pos (by rw [List.length_map, upsB_len]; exact hj)]
      simp [upsB, hj, upd1]
    · rw [if_neg e]
      simp [upsB, hj, upd1, Ne.symm e]
  · have e1 : (bls (upsB N f))[j]? = none := by rw [List.getElem?_eq_none]; rw [List.length_map, upsB_len]; omega
    have e2 : (bls (upsB N (upd1 f i x)))[j]? = none := by rw [List.getElem?_eq_none]; rw [List.length_map, upsB_len]; omega
    rw [e1, e2]
    split
    · rw [if_neg (by rw [List.length_map, upsB_len]; omega)]
    · rfl
theorem in_addr {c : Nat} {x : Int} (hx : 0 ≤ x ∧ x < N) : iaddrS 1 (.slc c 0 N (some N) 1) (.int .i64 x) = some (.ptr c x.toNat) := by
  obtain ⟨i, rfl⟩ : ∃ i : Nat, x = i := ⟨x.toNat, by omega⟩
  have : Nat.blt i N = true := by rw [Nat.blt_eq]; omega
  simp [iaddrS, this]
theorem in_rd {c i : Nat} {f : Nat → Bool} (h : s c = some (false, .cells 4 (bls (upsB N f)))) (hi : i < N) : rd1 s (.ptr c i) = some (.bool (f i)) := by
  rw [rd1_mk h]; simp [upsB, hi]
/-- the nodes marked so far -/
structure Mkd (N : Nat) (L : List Lk) (lu nu : Nat → Bool) (n : Int) (f : Nat → Bool) : Prop where
  rc : ∀ j, f j = true → Rc L lu nu n (j : Int)
  st : f n.toNat = true
theorem Mkd.upd {f : Nat → Bool} {a : Nat} (h : Mkd N L lu nu n f) (ha : Rc L lu nu n (a : Int)) : Mkd N L lu nu n (upd1 f a true) := by
  refine ⟨fun j hj => ?_, ?_⟩
  · rw [upd1_at] at hj
    by_cases e : j = a
    · rw [e]; exact ha
    · rw [if_neg e] at hj; exact h.rc j hj
  · rw [upd1_at]
    split
    · rfl
    · exact h.st
theorem mk_comp {f : Nat → Bool} (lok : LOk N L) (ha : aliveI N nu n = true) (h : Mkd N L lu nu n f) (hc : ∀ i, ∀ hi : i < L.length, upB L lu nu i = true → f L[i].1.toNat = f L[i].2.1.toNat) : (ups N).filter (fun x => f x.toNat) = comp N L lu nu n := by
  have hall : ∀ x, Rc L lu nu n x → f x.toNat = true := by
    intro x hx
    induction hx with
    | refl => exact h.st
    | tail _ h2 ih =>
      obtain ⟨i, hi, hu, h3⟩ := (mem_nod lok).1 h2
      have e := hc i hi hu
      rcases h3 with ⟨e1, e2⟩ | ⟨e1, e2⟩
      · rw [← e2, ← e, e1]; exact ih
      · rw [← e2, e, e1]; exact ih
  refine asc_ext (ups_asc.filter _) comp_asc fun x => ?_
  rw [List.mem_filter, mem_ups, mem_comp lok]
  constructor
  · rintro ⟨h1, h2⟩
    refine ⟨ha, ?_⟩
    have := h.rc _ h2
    rwa [show ((x.toNat : Nat) : Int) = x by omega] at this
  · rintro ⟨_, h2⟩
    exact ⟨h2.rg lok (alive_rg ha).1, hall x h2⟩
theorem rComponent_in (z : RRd s o lv nv kv N L lu nu) (hK : ∀ v s', Sub s s' → Acc 3 s s' v (izs (comp N L lu nu n)) → K v s') : wpCall Try.prog XX 50 [.ptr o 0, .int .i64 n] K s := by
  have lok := z.lok
  have hnn := lok.nn
  have hll := lok.ll
  refine vc_leafmeshref09_Graph_Component_in (rAlive_in z ?_)
  simp only [unary_not, optK_mk]
  cases ha : aliveI N nu n with
  | false =>
    simp only [Bool.not_false, boolK_true]
    exact hK _ _ (.refl s) (.inl ⟨rfl, by unfold comp; rw [ha]; rfl⟩)
  | true =>
    have hn := (alive_rg ha).1
    simp only [Bool.not_true, boolK_false, nilCheck_ptr, addOff_ptr, Nat.zero_add, z.r0, nat?_mk, optK_mk]
    refine ⟨⟨Nat.le_refl _, by omega⟩, new_step fun c s1 hc h1 u1 => ?_⟩
    have sub1 := u1.sub hc
    have h1 : s1 c = some (false, .cells 4 (bls (upsB N fun _ => false))) := by
      rw [h1, repl_one]
      congr 3
      refine List.ext_getElem? fun j => ?_
      by_cases hj : j < N
      · simp [upsB, hj]
      · simp [upsB, hj]
    simp only [in_addr hn, optK_mk]
    refine wr1_step h1 (by rw [List.length_map, upsB_len]; omega) rfl fun s2 h2 u2 => ?_
    rw [upsB_set] at h2
    have sub2 : Sub s s2 := sub1.upto u2 hc
    have mk0 : Mkd N L lu nu n (upd1 (fun _ => false) n.toNat true) := ⟨fun j hj => by
      rw [upd1_at] at hj
      by_cases e : j = n.toNat
      · rw [show (j : Int) = n by omega]; exact .refl
      · rw [if_neg e] at hj; exact absurd hj (by simp), (by rw [upd1_at, if_pos rfl])⟩
    refine ⟨fun ys s3 m => ∃ (f : Nat → Bool) (more : Bool), ys = [.bool more] ∧ m = (if more = true then N - cntB N f + 1 else 0) ∧ Sub s s3 ∧ s3 c = some (false, .cells 4 (bls (upsB N f))) ∧ Mkd N L lu nu n f ∧ (more = false → ∀ i, ∀ hi : i < L.length, upB L lu nu i = true → f L[i].1.toNat = f L[i].2.1.toNat), ⟨_, _, true, rfl, rfl, sub2, h2, mk0, by simp⟩, ?_⟩
    rintro e3 s3 m ⟨f, more, hy, rfl, sub3, h3, mk3, hcl⟩
    simp only [List.cons.injEq, and_true] at hy
    rw [hy]
    simp only [vc_leafmeshref09_Graph_Component_l0]
    refine boolK_mk (fun hm => ?_) (fun hm => ?_)
    · subst hm
      rw [if_pos rfl]
      refine ⟨fun ys s4 m => ∃ (f' : Nat → Bool) (more : Bool) (i : Nat), ys = [.bool more, .int .i64 i] ∧ i ≤ L.length ∧ m = L.length - i ∧ Sub s s4 ∧ s4 c = some (false, .cells 4 (bls (upsB N f'))) ∧ Mkd N L lu nu n f' ∧ (more = true → cntB N f < cntB N f') ∧ (more = false → f' = f ∧ ∀ j, ∀ hj : j < L.length, j < i → upB L lu nu j = true → f L[j].1.toNat = f L[j].2.1.toNat), ⟨_, f, false, 0, rfl, by omega, rfl, sub3, h3, mk3, by simp, fun _ => ⟨rfl, fun j hj h => by omega⟩⟩, ?_⟩
      rintro e4 s4 m ⟨f', more, i, hy, hi, rfl, sub4, h4, mk4, hc1, hc2⟩
      simp only [List.cons.injEq, and_true] at hy
      rw [hy.1, hy.2]
      have z4 := z.sub sub4
      simp only [vc_leafmeshref09_Graph_Component_l1, nilCheck_ptr, addOff_ptr, Nat.zero_add, z4.r1, z4.lenL, arith_lss, optK_mk]
      refine boolK_mk (fun hlt => ?_) (fun hge => ?_)
      · have hlt : i < L.length := by have := of_decide_eq_true hlt; omega
        obtain ⟨hA, hB, hne, _⟩ := lok.ok _ (List.getElem_mem hlt)
        obtain ⟨b, of, g1, g2, _⟩ := row_at z4.ls hlt
        simp only [nilCheck_ptr, addOff_ptr, Nat.zero_add, z4.r1, g1, g2, optK_mk]
        refine new_step fun eb s5 heb h5 u5 => wrAgg_step h5 rfl rfl rfl fun s6 h6 u6 => ?_
        have sub46 : Sub s4 s6 := (u5.sub heb).upto u6 heb
        have sub6 := sub4.trans sub46
        have h6 : s6 eb = some (false, .cells 26 (lkR L[i])) := h6
        have c6 := sub46 _ _ h4
        have z6 := z.sub sub6
        have hec : c ≠ eb := by rintro rfl; rw [h6] at c6; cases c6
        have w0 : (lkR L[i])[0]? = some (.int .i64 L[i].1) := rfl
        have w1 : (lkR L[i])[1]? = some (.int .i64 L[i].2.1) := rfl
        have e1 : IntKind.i64.wrap ((i : Int) + 1) = ((i + 1 : Nat) : Int) := by rw [wrap64 (by omega) (by omega)]; omega
        have skip : (upB L lu nu i = true → f' L[i].1.toNat = f' L[i].2.1.toNat) → vc_leafmeshref09_Graph_Component_j3 XX (.bool more) (.int .i64 (i : Int)) (fun ys s4 m => ∃ (f' : Nat → Bool) (more : Bool) (i : Nat), ys = [.bool more, .int .i64 i] ∧ i ≤ L.length ∧ m = L.length - i ∧ Sub s s4 ∧ s4 c = some (false, .cells 4 (bls (upsB N f'))) ∧ Mkd N L lu nu n f' ∧ (more = true → cntB N f < cntB N f') ∧ (more = false → f' = f ∧ ∀ j, ∀ hj : j < L.length, j < i → upB L lu nu j = true → f L[j].1.toNat = f L[j].2.1.toNat)) (L.length - i) (fun ys s3 m => ∃ (f : Nat → Bool) (more : Bool), ys = [.bool more] ∧ m = (if more = true then N - cntB N f + 1 else 0) ∧ Sub s s3 ∧ s3 c = some (false, .cells 4 (bls (upsB N f))) ∧ Mkd N L lu nu n f ∧ (more = false → ∀ i, ∀ hi : i < L.length, upB L lu nu i = true → f L[i].1.toNat = f L[i].2.1.toNat)) (N - cntB N f + 1) K s6 := fun hq => by
          simp only [vc_leafmeshref09_Graph_Component_j3, arith_add, e1, optK_mk]
          refine ⟨_, by omega, f', more, i + 1, rfl, by omega, rfl, sub6, c6, mk4, hc1, fun hm => ?_⟩
          obtain ⟨q1, q2⟩ := hc2 hm
          refine ⟨q1, fun j hj hlt' hu => ?_⟩
          by_cases e : j = i
          · subst e; rw [q1] at hq; exact hq hu
          · exact q2 j hj (by omega) hu
        refine rUp_in z6 ?_
        rw [upI_at]
        cases hu : upB L lu nu i with
        | false =>
          simp only [boolK_false, vc_leafmeshref09_Graph_Component_j2, pickV_false, optK_mk]
          exact skip (by rw [hu]; simp)
        | true =>
          simp only [boolK_true, addOff_ptr, Nat.zero_add, rd1_mk h6, w0, w1, in_addr hA, in_addr hB, in_rd c6 (show L[i].1.toNat < N by omega), in_rd c6 (show L[i].2.1.toNat < N by omega), eqV_bool, negB_mk, Bool.true_bne, vc_leafmeshref09_Graph_Component_j2, pickV_true, optK_mk]
          refine boolK_mk (fun hq => ?_) (fun hq => ?_)
          · have hq : f' L[i].1.toNat ≠ f' L[i].2.1.toNat := by
              intro e; rw [e] at hq; simp at hq
            refine ⟨?_, ?_⟩
            · show (if hdel s6 eb c = none ∧ s6 c ≠ none then none else s6 c) ≠ none
              rw [if_neg (by rw [hdel_ne hec, c6]; simp), c6]; simp
            refine wr1_step c6 (by rw [List.length_map, upsB_len]; omega) rfl fun s7 h7 u7 => ?_
            rw [upsB_set] at h7
            refine wr1_step h7 (by rw [List.length_map, upsB_len]; omega) rfl fun s8 h8 u8 => ?_
            rw [upsB_set] at h8
            have rA : Rc L lu nu n L[i].1 ∧ Rc L lu nu n L[i].2.1 := by
              have mA : L[i].1 ∈ nod L lu nu L[i].2.1 := (mem_nod lok).2 ⟨i, hlt, hu, .inr ⟨rfl, rfl⟩⟩
              have mB : L[i].2.1 ∈ nod L lu nu L[i].1 := (mem_nod lok).2 ⟨i, hlt, hu, .inl ⟨rfl, rfl⟩⟩
              cases fa : f' L[i].1.toNat with
              | true =>
                have := mk4.rc _ fa
                rw [show ((L[i].1.toNat : Nat) : Int) = L[i].1 by omega] at this
                exact ⟨this, this.tail mB⟩
              | false =>
                cases fb : f' L[i].2.1.toNat with
                | true =>
                  have := mk4.rc _ fb
                  rw [show ((L[i].2.1.toNat : Nat) : Int) = L[i].2.1 by omega] at this
                  exact ⟨this.tail mA, this⟩
                | false => rw [fa, fb] at hq; exact absurd rfl hq
            have cnt : cntB N f' < cntB N (upd1 (upd1 f' L[i].1.toNat true) L[i].2.1.toNat true) := by
              cases fa : f' L[i].1.toNat with
              | true =>
                rw [upd1_same fa, cntB_upd (by omega) (by rw [fa] at hq; simpa using hq)]; omega
              | false =>
                have fb : f' L[i].2.1.toNat = true := by rw [fa] at hq; simpa using hq
                rw [upd1_same (f := upd1 f' L[i].1.toNat true) (by rw [upd1_at]; split; rfl; exact fb), cntB_upd (by omega) fa]; omega
            have base : cntB N f ≤ cntB N f' := by
              cases hmm : more with
              | true => exact Nat.le_of_lt (hc1 hmm)
              | false => rw [(hc2 hmm).1]; exact Nat.le_refl _
            simp only [vc_leafmeshref09_Graph_Component_j3, arith_add, e1, optK_mk]
            refine ⟨_, by omega, _, true, i + 1, rfl, by omega, rfl, (sub6.upto u7 hc).upto u8 hc, h8, (mk4.upd (a := L[i].1.toNat) ?_).upd (a := L[i].2.1.toNat) ?_, fun _ => by omega, by simp⟩
            · rw [show ((L[i].1.toNat : Nat) : Int) = L[i].1 by omega]; exact rA.1
            · rw [show ((L[i].2.1.toNat : Nat) : Int) = L[i].2.1 by omega]; exact rA.2
          · exact skip fun _ => by simpa using hq
      · have hge : i = L.length := by have := of_decide_eq_false hge; omega
        have hle : cntB N f' ≤ N := cntB_le
        cases hmm : more with
        | true =>
          have := hc1 hmm
          exact ⟨N - cntB N f' + 1, by omega, f', true, rfl, rfl, sub4, h4, mk4, by simp⟩
        | false =>
          obtain ⟨q1, q2⟩ := hc2 hmm
          refine ⟨0, by omega, f', false, rfl, rfl, sub4, h4, mk4, fun _ j hj hu => ?_⟩
          rw [q1]; exact q2 j hj (by omega) hu
    · have hcl := hcl hm
      refine ⟨fun ys s4 m => ∃ (i : Nat) (v : AVal), ys = [v, .int .i64 i] ∧ i ≤ N ∧ m = N - i ∧ Sub s3 s4 ∧ Acc 3 s3 s4 v (izs ((ups i).filter fun x => f x.toNat)), ⟨_, 0, .nilslc, rfl, by omega, rfl, .refl s3, .inl ⟨rfl, rfl⟩⟩, ?_⟩
      rintro e4 s4 m ⟨i, v, hy, hi, rfl, sub4, acc4⟩
      simp only [List.cons.injEq, and_true] at hy
      rw [hy.1, hy.2]
      have z4 := z.sub (sub3.trans sub4)
      simp only [vc_leafmeshref09_Graph_Component_l4, nilCheck_ptr, addOff_ptr, Nat.zero_add, z4.r0, arith_lss, optK_mk]
      refine boolK_mk (fun hlt => ?_) (fun hge => ?_)
      · have hlt : i < N := by have := of_decide_eq_true hlt; omega
        have e1 : IntKind.i64.wrap ((i : Int) + 1) = ((i + 1 : Nat) : Int) := by rw [wrap64 (by omega) (by omega)]; omega
        have hfl : ((ups i).filter fun x => f x.toNat).length ≤ i := Nat.le_trans (List.length_filter_le _ _) (by simp [ups])
        have ia := in_addr (N := N) (c := c) (x := (i : Int)) (by omega)
        rw [Int.toNat_natCast] at ia
        simp only [ia, in_rd (sub4 _ _ h3) hlt, optK_mk]
        refine boolK_mk (fun hf => ?_) (fun hf => ?_)
        · refine pushI acc4 (by omega) sub4 fun v' s5 sub5 acc5 => ?_
          simp only [vc_leafmeshref09_Graph_Component_j5, arith_add, e1, optK_mk]
          refine ⟨_, by omega, i + 1, v', rfl, by omega, rfl, sub5, ?_⟩
          rw [ups_succ, List.filter_append, List.filter_cons_of_pos (by rw [Int.toNat_natCast]; exact hf)]
          exact acc5
        · simp only [vc_leafmeshref09_Graph_Component_j5, arith_add, e1, optK_mk]
          refine ⟨_, by omega, i + 1, v, rfl, by omega, rfl, sub4, ?_⟩
          rw [ups_succ, List.filter_append, List.filter_cons_of_neg (by rw [Int.toNat_natCast, hf]; simp)]
          simpa using acc4
      · have hge : i = N := by have := of_decide_eq_false hge; omega
        rw [hge, mk_comp lok ha mk3 hcl] at acc4
        exact hK v s4 (sub3.trans sub4) (acc4.old sub3)
theorem rComponents_in (z : RRd s o lv nv kv N L lu nu) (hK : ∀ v bs s', Sub s s' → Cs s s' v bs (cmps N L lu nu) → K v s') : wpCall Try.prog XX 47 [.ptr o 0] K s := by
  have lok := z.lok
  have hnn := lok.nn
  refine vc_leafmeshref09_Graph_Components_in ⟨fun ys s2 m => ∃ (k : Nat) (v : AVal) (bs : List Nat), ys = [v, .int .i64 k] ∧ k ≤ N ∧ m = N - k ∧ Sub s s2 ∧ Cs s s2 v bs ((reps N L lu nu k).map (comp N L lu nu)), ⟨_, 0, .nilslc, [], rfl, by omega, rfl, .refl s, ⟨rfl, by simp, .inl ⟨rfl, rfl⟩, fun i b l e => by simp at e⟩⟩, ?_⟩
  rintro f s2 m ⟨k, v, bs, hy, hk, rfl, sub2, cs2⟩
  simp only [List.cons.injEq, and_true] at hy
  rw [hy.1, hy.2]
  have z2 := z.sub sub2
  simp only [vc_leafmeshref09_Graph_Components_l0, nilCheck_ptr, addOff_ptr, Nat.zero_add, z2.r0, arith_lss, optK_mk]
  refine boolK_mk (fun hlt => ?_) (fun hge => ?_)
  · have hlt : k < N := by have := of_decide_eq_true hlt; omega
    have e1 : IntKind.i64.wrap ((k : Int) + 1) = ((k + 1 : Nat) : Int) := by rw [wrap64 (by omega) (by omega)]; omega
    refine rComponent_in z2 fun w s3 sub3 acc3 => ?_
    have cs3 := cs2.sub sub3
    have sub3' := sub2.trans sub3
    have skip : isRep N L lu nu k = false → vc_leafmeshref09_Graph_Components_j2 XX v (.int .i64 (k : Int)) (fun ys s2 m => ∃ (k : Nat) (v : AVal) (bs : List Nat), ys = [v, .int .i64 k] ∧ k ≤ N ∧ m = N - k ∧ Sub s s2 ∧ Cs s s2 v bs ((reps N L lu nu k).map (comp N L lu nu))) (N - k) K s3 := fun hr => by
      have er : reps N L lu nu (k + 1) = reps N L lu nu k := by rw [reps_succ, hr]; simp
      simp only [vc_leafmeshref09_Graph_Components_j2, arith_add, optK_mk, e1]
      exact ⟨_, by omega, k + 1, v, bs, rfl, by omega, rfl, sub3', by rw [er]; exact cs3⟩
    rcases acc3 with ⟨rfl, e⟩ | ⟨c, hc2, rfl, hc3⟩
    · have e : comp N L lu nu k = [] := by simpa using e
      simp only [lenOf_nil, arith_gtr, optK_mk, show decide ((0 : Int) < ((0 : Nat) : Int)) = false from rfl, boolK_false, vc_leafmeshref09_Graph_Components_j1, pickV_false]
      exact skip (by unfold isRep; rw [e]; rfl)
    · rw [List.length_map]
      simp only [lenOf_slc, arith_gtr, optK_mk]
      cases hcomp : comp N L lu nu k with
      | nil =>
        simp only [List.length_nil, show decide ((0 : Int) < ((0 : Nat) : Int)) = false from rfl, boolK_false, vc_leafmeshref09_Graph_Components_j1, pickV_false, optK_mk]
        exact skip (by unfold isRep; rw [hcomp]; rfl)
      | cons x r =>
        rw [hcomp] at hc3
        have hp : decide ((0 : Int) < (((x :: r).length : Nat) : Int)) = true := by rw [decide_eq_true_eq]; simp
        obtain ⟨p, g1, g2⟩ := (acc_slc hc3).get (i := 0) (by simp)
        have g1 : iaddrS 1 (.slc c 0 (x :: r).length none 1) (.int .i64 0) = some p := g1
        have g2 : rd1 s3 p = some (.int .i64 x) := g2
        simp only [hp, boolK_true, g1, g2, eqV_int, negB_mk, Bool.false_bne, vc_leafmeshref09_Graph_Components_j1, pickV_true, optK_mk]
        have hc0 : s c = none := by
          cases q : s c with
          | none => rfl
          | some y => rw [sub2 c y q] at hc2; cases hc2
        have hcb : c ∉ bs := fun hm => by
          obtain ⟨i, hi, e⟩ := List.getElem_of_mem hm
          have hi2 : i < ((reps N L lu nu k).map (comp N L lu nu)).length := by rw [← cs2.len]; exact hi
          have := (cs2.rw i c _ (by rw [List.getElem?_eq_getElem hi, e]) (List.getElem?_eq_getElem hi2)).2
          rw [hc2] at this; cases this
        have hrl : (reps N L lu nu k).length ≤ k := Nat.le_trans (List.length_filter_le _ _) (by simp [ups])
        refine boolK_mk (fun hx => ?_) (fun hx => ?_)
        · have hx := eq_of_beq hx
          have hrep : isRep N L lu nu k = true := by unfold isRep; rw [hcomp, decide_eq_true_eq, hx]; rfl
          have er : reps N L lu nu (k + 1) = reps N L lu nu k ++ [(k : Int)] := by rw [reps_succ, hrep]; rfl
          refine cs3.push rfl hc3 hc0 hcb sub3' (by rw [List.length_map]; omega) fun v' s5 cs5 k5 sub5 => ?_
          simp only [vc_leafmeshref09_Graph_Components_j2, arith_add, optK_mk, e1]
          refine ⟨_, by omega, k + 1, v', bs ++ [c], rfl, by omega, rfl, sub5, ?_⟩
          rw [er, List.map_append, List.map_singleton, hcomp]; exact cs5
        · have hx : ¬ x = (k : Int) := beq_eq_false_iff_ne.1 hx
          refine skip ?_
          unfold isRep
          rw [hcomp, decide_eq_false_iff_not, List.head?_cons]
          intro h; injection h with h; exact hx h
  · have hge : k = N := by have := of_decide_eq_false hge; omega
    subst hge
    exact hK v bs s2 sub2 cs2
end Go.AM
namespace Go.AM
open Go Go.Proofs
variable {K : AVal → Heap → Prop} {s s' s0 : Heap} {t : Bool} {g o : Nat} {lv lvg nv kv : AVal} {N : Nat} {lu nu lu' nu' : Nat → Bool} {L : List Lk} {n : Int}
/-! ### rows of one's own -/
theorem wrAt_step {b o : Nat} {ty : TypeId} {l cs : List AVal} {n : Nat} {K : Heap → Prop} {s : Heap} (h : s b = some (false, .cells ty l)) (hn : cs.length = n) (hl : o + n ≤ l.length) (ho : allOne cs = true) (hk : ∀ s', s' b = some (false, .cells ty (setRange l o cs)) → Upto b s s' → K s') : optK (wrAgg s n (.ptr b o) (.agg cs)) K := by
  have e1 : Nat.beq cs.length n = true := by rw [hn]; exact Nat.beq_refl _
  have e2 : Nat.ble (o + cs.length) l.length = true := by rw [Nat.ble_eq]; omega
  have : wrAgg s n (.ptr b o) (.agg cs) = some (hset s b (false, .cells ty (setRange l o cs))) := by
    simp only [wrAgg, cells_agg, e1, cond_true, wrN, h, e2, ho, Bool.and_self]
  rw [this]
  exact hk _ hset_eq fun _ hi => hset_other hi
def OwnR (s0 s : Heap) (v : AVal) (M : List Lk) : Prop := (M = [] ∧ (v = .nilslc ∨ ∃ b, v = .slc b 0 0 (some 0) 3)) ∨ AccR 26 3 s0 s v (M.map lkR)
theorem OwnR.sl {v : AVal} {M : List Lk} (h : OwnR s0 s v M) : SlR 3 s v (M.map lkR) := by
  rcases h with ⟨rfl, h⟩ | h
  · rcases h with rfl | ⟨b, rfl⟩
    · exact ⟨by simp, .inl ⟨rfl, rfl⟩⟩
    · exact .empty
  · exact h.sl
theorem OwnR.to {v : AVal} {M : List Lk} (h : OwnR s0 s v M) (k : Sub s s') : OwnR s0 s' v M := h.imp id fun h => h.sub k
theorem OwnR.old {s1 : Heap} {v : AVal} {M : List Lk} (h : OwnR s1 s v M) (hs : Sub s0 s1) : OwnR s0 s v M := h.imp id fun h => h.old hs
theorem OwnR.add {v : AVal} {M : List Lk} (h : OwnR (frz s) s' v M) : OwnR s (add s s') v M := h.imp id fun h => h.add
/-- rows that may be overwritten -/
def Jnk (s0 s : Heap) (v : AVal) (m : Nat) : Prop := (m = 0 ∧ lenOfA v = some 0) ∨ ∃ b cs, v = .slc b 0 m none 3 ∧ s0 b = none ∧ s b = some (false, .cells 26 cs) ∧ cs.length = m * 3
theorem OwnR.jnk {v : AVal} {M : List Lk} (h : OwnR s0 s v M) : Jnk s0 s v M.length := by
  rcases h with ⟨rfl, h⟩ | ⟨hr, h⟩
  · rcases h with rfl | ⟨b, rfl⟩ <;> exact .inl ⟨rfl, rfl⟩
  · rcases h with ⟨rfl, e⟩ | ⟨b, h0, rfl, h2⟩
    · have : M = [] := by simpa using e
      subst this; exact .inl ⟨rfl, rfl⟩
    · refine .inr ⟨b, _, by rw [List.length_map], h0, h2, ?_⟩
      rw [flat_len hr, List.length_map]
theorem Jnk.len {v : AVal} {m : Nat} (h : Jnk s0 s v m) : lenOfA v = some m := by
  rcases h with ⟨rfl, h⟩ | ⟨b, cs, rfl, _⟩
  · exact h
  · exact lenOf_slc
theorem Jnk.to {v : AVal} {m : Nat} (h : Jnk s0 s v m) (k : Sub s s') : Jnk s0 s' v m := by
  rcases h with h | ⟨b, cs, e, h0, h1, h2⟩
  · exact .inl h
  · exact .inr ⟨b, cs, e, h0, k _ _ h1, h2⟩
theorem Jnk.to' {s1 : Heap} {v : AVal} {m : Nat} (h : Jnk s1 s v m) (k : Sub s0 s1) : Jnk s0 s v m := by
  rcases h with h | ⟨b, cs, e, h0, h1, h2⟩
  · exact .inl h
  · refine .inr ⟨b, cs, e, ?_, h1, h2⟩
    cases q : s0 b with
    | none => rfl
    | some y => rw [k b y q] at h0; cases h0
theorem Jnk.wr {v : AVal} {m i : Nat} {r : List AVal} {R : Heap → Prop} (h : Jnk s0 s v m) (hi : i < m) (hr : r.length = 3) (ho : allOne r = true) (hsub : Sub s0 s) (hK : ∀ s', Jnk s0 s' v m → Sub s0 s' → R s') : optK (iaddrS 3 v (.int .i64 (i : Int))) fun p => optK (wrAgg s 3 p (.agg r)) R := by
  rcases h with ⟨rfl, _⟩ | ⟨b, cs, rfl, h0, h1, h2⟩
  · omega
  · have hb : Nat.blt i m = true := by rw [Nat.blt_eq]; exact hi
    have ea : iaddrS 3 (.slc b 0 m none 3) (.int .i64 (i : Int)) = some (.ptr b (i * 3)) := by simp [iaddrS, hb]
    rw [ea]
    have hle : i * 3 + 3 ≤ cs.length := by rw [h2]; omega
    refine wrAt_step h1 hr hle ho fun s' h3 u3 => hK s' (.inr ⟨b, _, rfl, h0, h3, ?_⟩) (hsub.upto u3 h0)
    simp only [setRange, List.length_append, List.length_take, List.length_drop, hr]
    omega
theorem CloneL2_in {v : AVal} {M : List Lk} (h : SlR 3 s v (M.map lkR)) (hl : M.length ≤ 100000) (hK : ∀ v' s', Sub s s' → OwnR s s' v' M → K v' s') : wpCall Try.prog XX 43 [v] K s := by
  refine vc_slices_Clone___api_Link_api_Link__in ?_
  have cases0 : (v = .nilslc ∧ M = []) ∨ ∃ b o c, v = .slc b o M.length c 3 := by
    rcases h.2 with ⟨a, b⟩ | ⟨b, o, c, a, _⟩
    · exact .inl ⟨a, by simpa using b⟩
    · exact .inr ⟨b, o, c, by simpa using a⟩
  rcases cases0 with ⟨rfl, rfl⟩ | ⟨b, o, c, rfl⟩
  · simp only [vc_slices_Clone___api_Link_api_Link_, eqV_nilslc, negB_mk, Bool.false_bne, optK_mk, boolK_true]
    exact hK _ _ (.refl s) (.inl ⟨rfl, .inl rfl⟩)
  · simp only [vc_slices_Clone___api_Link_api_Link_, eqV_slc, negB_mk, Bool.false_bne, optK_mk, boolK_false]
    refine optK_of (a := []) rfl ⟨rfl, new_step fun d s1 hd h1 u1 => ?_⟩
    have sub1 := u1.sub hd
    refine app_ownR (s0 := s1) (rows := []) (.inl ⟨rfl, d, rfl⟩) (h.sub sub1) (by rw [List.length_map]; simp; omega) (.refl s1) fun v' s2 hv sub2 => hK _ _ (sub1.trans sub2) ?_
    rcases hv with ⟨e, b', rfl⟩ | hv
    · exact .inl ⟨by simpa using e, .inr ⟨b', rfl⟩⟩
    · exact .inr (hv.old sub1)
theorem Links2_in (h : GRd t s g lv N L lu nu) (hK : ∀ v' s', Sub s s' → OwnR s s' v' L → K v' s') : wpCall Try.prog XX 39 [.ptr g 0] K s := by
  have hll := h.lok.ll
  refine vc_topo_Graph_Links_in (valid_in h ?_)
  simp only [unary_not, Bool.not_true, optK_mk, boolK_false, nilCheck_ptr, addOff_ptr, Nat.zero_add, h.r1]
  exact CloneL2_in h.ls (by omega) hK
theorem OwnL_in {v : AVal} {M : List Lk} (h : SlR 3 s v (M.map lkR)) (hl : M.length ≤ 100000) (hK : ∀ v' s', Sub s s' → OwnR s s' v' M → K v' s') : wpCall Try.prog XX 11 [v] K s := by
  refine vc_leafmeshkit_Own_api_Link__in ?_
  refine optK_of (a := []) rfl ⟨rfl, new_step fun d s1 hd h1 u1 => ?_⟩
  have sub1 := u1.sub hd
  refine app_ownR (s0 := s1) (rows := []) (.inl ⟨rfl, d, rfl⟩) (h.sub sub1) (by rw [List.length_map]; simp; omega) (.refl s1) fun v' s2 hv sub2 => hK _ _ (sub1.trans sub2) ?_
  rcases hv with ⟨e, b', rfl⟩ | hv
  · exact .inl ⟨by simpa using e, .inr ⟨b', rfl⟩⟩
  · exact .inr (hv.old sub1)
/-! ### lists of links and of edges are compared -/
theorem eqL3 (a b c a' b' c' : Int) : eqAgg Try.prog 26 (.agg [.int .i64 a, .int .i64 b, .int .i64 c]) (.agg [.int .i64 a', .int .i64 b', .int .i64 c']) = (match some (eqI a a') with
      | some true => (match some (eqI b b') with
        | some true => (match some (eqI c c') with
          | some true => some true
          | some false => some false
          | none => none)
        | some false => some false
        | none => none)
      | some false => some false
      | none => none) := by kernel_rfl
theorem eqLd (x y : Lk) : eqAgg Try.prog 26 (.agg (lkR x)) (.agg (lkR y)) = some (decide (x = y)) := by
  obtain ⟨a, b, c⟩ := x
  obtain ⟨a', b', c'⟩ := y
  show eqAgg Try.prog 26 (.agg [.int .i64 a, .int .i64 b, .int .i64 c]) (.agg [.int .i64 a', .int .i64 b', .int .i64 c']) = _
  rw [eqL3, eqI_eq, eqI_eq, eqI_eq]
  by_cases h1 : a = a'
  · by_cases h2 : b = b'
    · by_cases h3 : c = c'
      · simp [h1, h2, h3]
      · rw [beq_eq_false_iff_ne.2 h3]; simp [h1, h2, h3]
    · rw [beq_eq_false_iff_ne.2 h2]; simp [h1, h2]
  · rw [beq_eq_false_iff_ne.2 h1]; simp [h1]
theorem SameL_in {a b : AVal} {l : List Lk} (ha : SlR 3 s a (l.map lkR)) (hb : SlR 3 s b (l.map lkR)) (hl : l.length ≤ 1000000) (hK : K (.bool true) s) : wpCall Try.prog XX 14 [a, b] K s := by
  refine vc_leafmeshkit_Same_api_Link__in ?_
  simp only [vc_leafmeshkit_Same_api_Link_, ha.len, hb.len, List.length_map, optK_mk, eqV_int, negB_mk, Bool.true_bne, beq_self_eq_true, Bool.not_true, boolK_false]
  refine ⟨fun ys s2 n => s2 = s ∧ ∃ i : Nat, ys = [.int .i64 i] ∧ i ≤ l.length ∧ n = l.length - i, ⟨_, rfl, 0, rfl, by omega, rfl⟩, ?_⟩
  rintro f s2 n ⟨rfl, i, hy, hi, rfl⟩
  simp only [List.cons.injEq, and_true] at hy
  rw [hy]
  simp only [vc_leafmeshkit_Same_api_Link__l0, ha.len, List.length_map, arith_lss, optK_mk]
  refine boolK_mk (fun hlt => ?_) (fun hge => ?_)
  · have hlt : i < l.length := by have := of_decide_eq_true hlt; omega
    obtain ⟨p, o, g1, g2, _⟩ := row_at ha hlt
    obtain ⟨q, o', g3, g4, _⟩ := row_at hb hlt
    simp only [g1, g2, g3, g4, optK_mk, eqLd, negB_mk, decide_true, Bool.true_bne, Bool.not_true, boolK_false, arith_add]
    rw [wrap64 (by omega) (by omega)]
    exact ⟨_, by omega, trivial, i + 1, rfl, by omega, rfl⟩
  · exact hK
theorem SameE_in {a b : AVal} {l : List Lk} (ha : SlR 3 s a (l.map lkR)) (hb : SlR 3 s b (l.map lkR)) (hl : l.length ≤ 1000000) (hK : K (.bool true) s) : wpCall Try.prog XX 40 [a, b] K s := by
  refine vc_leafmeshkit_Same_api_Edge__in ?_
  simp only [vc_leafmeshkit_Same_api_Edge_, ha.len, hb.len, List.length_map, optK_mk, eqV_int, negB_mk, Bool.true_bne, beq_self_eq_true, Bool.not_true, boolK_false]
  refine ⟨fun ys s2 n => s2 = s ∧ ∃ i : Nat, ys = [.int .i64 i] ∧ i ≤ l.length ∧ n = l.length - i, ⟨_, rfl, 0, rfl, by omega, rfl⟩, ?_⟩
  rintro f s2 n ⟨rfl, i, hy, hi, rfl⟩
  simp only [List.cons.injEq, and_true] at hy
  rw [hy]
  simp only [vc_leafmeshkit_Same_api_Edge__l0, ha.len, List.length_map, arith_lss, optK_mk]
  refine boolK_mk (fun hlt => ?_) (fun hge => ?_)
  · have hlt : i < l.length := by have := of_decide_eq_true hlt; omega
    obtain ⟨p, o, g1, g2, _⟩ := row_at ha hlt
    obtain ⟨q, o', g3, g4, _⟩ := row_at hb hlt
    simp only [g1, g2, g3, g4, optK_mk, eqEd, negB_mk, decide_true, Bool.true_bne, Bool.not_true, boolK_false, arith_add]
    rw [wrap64 (by omega) (by omega)]
    exact ⟨_, by omega, trivial, i + 1, rfl, by omega, rfl⟩
  · exact hK
end Go.AM
namespace Go.AM
open Go Go.Proofs
variable {K : AVal → Heap → Prop} {s s' s0 : Heap} {t : Bool} {g o : Nat} {lv lvg nv kv : AVal} {N : Nat} {lu nu lu' nu' : Nat → Bool} {L : List Lk} {n : Int}
/-! ### both graphs answer alike -/
theorem Cs.upto {s1 : Heap} {v : AVal} {bs : List Nat} {ls : List (List Int)} {c : Nat} (z : Cs s0 s v bs ls) (u : Upto c s s1) (hc : s0 c ≠ none) : Cs s0 s1 v bs ls := by
  obtain ⟨h1, h2, h3, h4⟩ := z
  refine ⟨h1, h2, h3.to fun b o n k e x hx => ?_, fun i b l e1 e2 => ⟨(h4 i b l e1 e2).1, ?_⟩⟩
  · rw [u b]; exact hx
    rintro rfl; exact hc (h3.blk e).1
  · rw [u b]; exact (h4 i b l e1 e2).2
    rintro rfl; exact hc (h4 i b l e1 e2).1
/-- the lists from the i-th one on -/
structure CsF (s0 s : Heap) (v : AVal) (bs : List Nat) (ls : List (List Int)) (i : Nat) : Prop where
  len : bs.length = ls.length
  nd : bs.Nodup
  acc : Acc 40 s0 s v (rws bs ls)
  rw : ∀ (j b : Nat) (l : List Int), i ≤ j → bs[j]? = some b → ls[j]? = some l → s0 b = none ∧ s b = some (false, .cells 3 (izs l))
theorem CsF.row {v : AVal} {bs : List Nat} {ls : List (List Int)} {i k : Nat} (z : CsF s0 s v bs ls k) (hi : i < ls.length) : ∃ p, iaddrS 1 v (.int .i64 (i : Int)) = some p ∧ rd1 s p = some (.slc (bs[i]'(by rw [z.len]; exact hi)) 0 ls[i].length none 1) := by
  have hb : i < bs.length := by rw [z.len]; exact hi
  have hz : (rws bs ls).length = ls.length := by rw [List.length_zipWith, z.len, Nat.min_self]
  obtain ⟨p, g1, g2⟩ := z.acc.sl.get (i := i) (by rw [hz]; exact hi)
  refine ⟨p, g1, ?_⟩
  rw [g2, rws, List.getElem?_zipWith, List.getElem?_eq_getElem hb, List.getElem?_eq_getElem hi]
theorem CsF.lenv {v : AVal} {bs : List Nat} {ls : List (List Int)} {i : Nat} (z : CsF s0 s v bs ls i) : lenOfA v = some ls.length := by
  rw [z.acc.sl.len, List.length_zipWith, z.len, Nat.min_self]
theorem same_l1 {av bv : AVal} {s1 : Heap} {asx bs : List Nat} {ls : List (List Int)} {i m0 : Nat} {I0 : List AVal → Heap → Nat → Prop} (hi : i < ls.length) (hl : ∀ l ∈ ls, l.length ≤ 32) (h01 : Sub s0 s1) (ha : CsF s0 s av asx ls i) (hb : Cs s1 s bv bs ls) (hsub : Sub s0 s) (hex : ∀ b ∈ asx, s1 b ≠ none)
    (hK : ∀ s2, Sub s0 s2 → CsF s0 s2 av asx ls (i + 1) → Cs s1 s2 bv bs ls → optK (arithV .add (.int .i64 (i : Int)) (.int .i64 1)) fun v_333 => ∃ m', m' < m0 ∧ I0 [v_333] s2 m') :
    ∃ I25 : List AVal → Heap → Nat → Prop, (∃ m, I25 [(.int .i64 0)] s m) ∧ ∀ (f : Env) (s : Heap) (m25 : Nat), I25 [f 8] s m25 →
        vc_leafmeshlaw09_same_l25 XX av (.int .i64 (i : Int)) (f 8) I25 m25 I0 m0 K s := by
  have hai : i < asx.length := by rw [ha.len]; exact hi
  have hli := hl _ (List.getElem_mem hi)
  obtain ⟨hr0, hr1⟩ := ha.rw i asx[i] ls[i] (Nat.le_refl _) (List.getElem?_eq_getElem hai) (List.getElem?_eq_getElem hi)
  refine ⟨fun ys s2 m => ∃ (k : Nat) (cs : List AVal), ys = [.int .i64 k] ∧ k ≤ (ls[i]).length ∧ m = (ls[i]).length - k ∧ cs.length = (ls[i]).length ∧ s2 asx[i] = some (false, .cells 3 cs) ∧ Sub s0 s2 ∧ CsF s0 s2 av asx ls (i + 1) ∧ Cs s1 s2 bv bs ls, ⟨_, 0, _, rfl, by omega, rfl, by rw [List.length_map], hr1, hsub, ⟨ha.len, ha.nd, ha.acc, fun j b l h => ha.rw j b l (by omega)⟩, hb⟩, ?_⟩
  rintro f s2 m ⟨k, cs, hy, hk, rfl, hcs, h2, sub2, a2, b2⟩
  simp only [List.cons.injEq, and_true] at hy
  rw [hy]
  obtain ⟨p, g1, g2⟩ := a2.row hi
  simp only [vc_leafmeshlaw09_same_l25, g1, g2, lenOf_slc, arith_lss, optK_mk]
  refine boolK_mk (fun hlt => ?_) (fun hge => ?_)
  · have hlt : k < (ls[i]).length := by have := of_decide_eq_true hlt; omega
    have ea : iaddrS 1 (.slc asx[i] 0 (ls[i]).length none 1) (.int .i64 (k : Int)) = some (.ptr asx[i] k) := by
      have : Nat.blt k (ls[i]).length = true := by rw [Nat.blt_eq]; exact hlt
      simp [iaddrS, this]
    simp only [ea, optK_mk]
    refine wr1_step h2 (by omega) rfl fun s3 h3 u3 => ?_
    simp only [arith_add, optK_mk]
    rw [wrap64 (by omega) (by omega)]
    refine ⟨_, by omega, k + 1, _, rfl, by omega, rfl, by rw [List.length_set]; exact hcs, h3, sub2.upto u3 hr0, ⟨a2.len, a2.nd, a2.acc.to fun b o n c e x hx => ?_, fun j b l hj e1 e2 => ?_⟩, b2.upto u3 (hex _ (List.getElem_mem hai))⟩
    · rw [u3 b]; exact hx
      rintro rfl
      have := (a2.acc.blk e).2.2.2.2
      rw [h2] at this; cases this
    · obtain ⟨q1, q2⟩ := a2.rw j b l hj e1 e2
      refine ⟨q1, ?_⟩
      rw [u3 b]; exact q2
      rintro rfl
      obtain ⟨hj', ej⟩ := List.getElem?_eq_some_iff.1 e1
      have := (List.getElem_inj a2.nd).1 ej
      omega
  · exact hK s2 sub2 a2 b2
theorem same_l0 {av bv : AVal} {s1 : Heap} {asx bs : List Nat} {ls : List (List Int)} (hl : ∀ l ∈ ls, l.length ≤ 32) (hn : ls.length ≤ 32) (h01 : Sub s0 s1) (ha : Cs s0 s av asx ls) (hb : Cs s1 s bv bs ls) (hsub : Sub s0 s) (hex : ∀ b ∈ asx, s1 b ≠ none)
    (hK : ∀ s2, Sub s0 s2 → ∃ I26 : List AVal → Heap → Nat → Prop, (∃ m, I26 [(.int .i64 (-1))] s2 m) ∧ ∀ (f : Env) (s : Heap) (m26 : Nat), I26 [f 9] s m26 → vc_leafmeshlaw09_same_l26 XX (.ptr g 0) (.ptr o 0) (f 9) I26 m26 K s) :
    ∃ I24 : List AVal → Heap → Nat → Prop, (∃ m, I24 [(.int .i64 0)] s m) ∧ ∀ (f : Env) (s : Heap) (m24 : Nat), I24 [f 7] s m24 →
        vc_leafmeshlaw09_same_l24 XX (.ptr g 0) (.ptr o 0) av bv (f 7) I24 m24 K s := by
  refine ⟨fun ys s2 m => ∃ i : Nat, ys = [.int .i64 i] ∧ i ≤ ls.length ∧ m = ls.length - i ∧ Sub s0 s2 ∧ CsF s0 s2 av asx ls i ∧ Cs s1 s2 bv bs ls, ⟨_, 0, rfl, by omega, rfl, hsub, ⟨ha.len, ha.nd, ha.acc, fun j b l _ => ha.rw j b l⟩, hb⟩, ?_⟩
  rintro f s2 m ⟨i, hy, hi, rfl, sub2, a2, b2⟩
  simp only [List.cons.injEq, and_true] at hy
  rw [hy]
  simp only [vc_leafmeshlaw09_same_l24, a2.lenv, arith_lss, optK_mk]
  refine boolK_mk (fun hlt => ?_) (fun hge => ?_)
  · have hlt : i < ls.length := by have := of_decide_eq_true hlt; omega
    have hai : i < asx.length := by rw [a2.len]; exact hlt
    obtain ⟨p, g1, g2⟩ := a2.row hlt
    obtain ⟨q, c, g3, g4, _, _, g5⟩ := b2.row hlt
    obtain ⟨_, r1⟩ := a2.rw i asx[i] ls[i] (Nat.le_refl _) (List.getElem?_eq_getElem hai) (List.getElem?_eq_getElem hlt)
    simp only [g1, g2, g3, g4, optK_mk]
    refine SameI_in (acc_slc r1) (acc_slc g5) (by have := hl _ (List.getElem_mem hlt); omega) ?_
    simp only [decide_true, unary_not, Bool.not_true, optK_mk, boolK_false]
    refine same_l1 hlt hl h01 a2 b2 sub2 hex fun s3 sub3 a3 b3 => ?_
    simp only [arith_add, optK_mk]
    rw [wrap64 (by omega) (by omega)]
    exact ⟨_, by omega, i + 1, rfl, by omega, rfl, sub3, a3, b3⟩
  · exact hK s2 sub2
theorem same_l6 {v : AVal} (z : GRd false s0 g lvg N L lu nu) (w : RRd s0 o lv nv kv N L lu nu) (hj : Jnk s0 s v L.length) (hsub : Sub s0 s) (hK : ∀ s', Sub s0 s' → K (.bool true) s') :
    ∃ I30 : List AVal → Heap → Nat → Prop, (∃ m, I30 [(.int .i64 0)] s m) ∧ ∀ (f : Env) (s : Heap) (m30 : Nat), I30 [f 11] s m30 →
      vc_leafmeshlaw09_same_l30 XX (.ptr g 0) (.ptr o 0) v (f 11) I30 m30 K s := by
  have hll := z.lok.ll
  refine ⟨fun ys s2 m => ∃ i : Nat, ys = [.int .i64 i] ∧ i ≤ L.length ∧ m = L.length - i ∧ Sub s0 s2 ∧ Jnk s0 s2 v L.length, ⟨_, 0, rfl, by omega, rfl, hsub, hj⟩, ?_⟩
  rintro f s2 m ⟨i, hy, hi, rfl, sub2, j2⟩
  simp only [List.cons.injEq, and_true] at hy
  rw [hy]
  have z2 := z.sub sub2
  have w2 := w.sub sub2
  simp only [vc_leafmeshlaw09_same_l30, j2.len, arith_lss, optK_mk]
  refine boolK_mk (fun hlt => ?_) (fun hge => ?_)
  · have hlt : i < L.length := by have := of_decide_eq_true hlt; omega
    refine Up_in z2 fun s3 sub3 => ?_
    refine rUp_in (w2.sub sub3) ?_
    simp only [eqV_bool, negB_mk, Bool.true_bne, beq_self_eq_true, Bool.not_true, boolK_false, optK_mk]
    refine optK_of (a := [.int .i64 0, .int .i64 0, .int .i64 0]) rfl ?_
    refine (j2.to sub3).wr hlt rfl rfl (sub2.trans sub3) fun s4 j4 sub4 => ?_
    simp only [arith_add, optK_mk]
    rw [wrap64 (by omega) (by omega)]
    exact ⟨_, by omega, i + 1, rfl, by omega, rfl, sub4, j4⟩
  · refine Up_in z2 fun s3 sub3 => ?_
    have e1 : upI L lu nu (-1) = false := rfl
    rw [e1]
    have w3 := w2.sub sub3
    simp only [unary_not, Bool.not_false, boolK_true, nilCheck_ptr, addOff_ptr, Nat.zero_add, w3.r1, w3.lenL, optK_mk]
    refine Up_in (z2.sub sub3) fun s4 sub4 => ?_
    have e2 : upI L lu nu (L.length : Int) = false := by rw [upI_at]; unfold upB; rw [List.getElem?_eq_none (Nat.le_refl _)]
    rw [e2]
    simp only [unary_not, Bool.not_false, vc_leafmeshlaw09_same_j31, pickV_true, optK_mk]
    exact hK s4 ((sub2.trans sub3).trans sub4)
theorem same_l2 (z : GRd false s0 g lvg N L lu nu) (w : RRd s0 o lv nv kv N L lu nu) (hsub : Sub s0 s) (hK : ∀ s', Sub s0 s' → K (.bool true) s') :
    ∃ I26 : List AVal → Heap → Nat → Prop, (∃ m, I26 [(.int .i64 (-1))] s m) ∧ ∀ (f : Env) (s : Heap) (m26 : Nat), I26 [f 9] s m26 → vc_leafmeshlaw09_same_l26 XX (.ptr g 0) (.ptr o 0) (f 9) I26 m26 K s := by
  have lok := z.lok
  have hll := lok.ll
  have hnn := lok.nn
  refine ⟨fun ys s2 m => ∃ k : Nat, ys = [.int .i64 ((k : Int) - 1)] ∧ k ≤ N + 2 ∧ m = N + 2 - k ∧ Sub s0 s2, ⟨_, 0, rfl, by omega, rfl, hsub⟩, ?_⟩
  rintro f s2 m ⟨k, hy, hk, rfl, sub2⟩
  simp only [List.cons.injEq, and_true] at hy
  rw [hy]
  have z2 := z.sub sub2
  have w2 := w.sub sub2
  simp only [vc_leafmeshlaw09_same_l26, nilCheck_ptr, addOff_ptr, Nat.zero_add, w2.r0, arith_leq, optK_mk]
  refine boolK_mk (fun hle => ?_) (fun hgt => ?_)
  · have hle : k < N + 2 := by have := of_decide_eq_true hle; omega
    generalize hx : (k : Int) - 1 = x
    have e1 : IntKind.i64.wrap (x + 1) = (((k + 1 : Nat) : Int) - 1) := by rw [wrap64 (by omega) (by omega)]; omega
    refine Alive_in z2 (rAlive_in w2 ?_)
    simp only [eqV_bool, negB_mk, Bool.true_bne, beq_self_eq_true, Bool.not_true, boolK_false, optK_mk]
    have hnl : (nbr L lu nu x).length ≤ L.length := nbrT_len
    refine Neighbors_in z2 fun v3 s3 sub3 acc3 => ?_
    refine rNeighbors_in (w2.sub sub3) fun v4 s4 sub4 acc4 => ?_
    refine SameE_in (acc3.sl.sub sub4) acc4.sl (by omega) ?_
    have sub24 := sub3.trans sub4
    simp only [unary_not, Bool.not_true, optK_mk, vc_leafmeshlaw09_same_j27, pickV_false, boolK_false]
    refine Component_in (z2.sub sub24) fun v5 s5 sub5 acc5 => ?_
    have sub25 := sub24.trans sub5
    refine rComponent_in (w2.sub sub25) fun v6 s6 sub6 acc6 => ?_
    refine SameI_in (acc5.sl.sub sub6) acc6.sl (by have := comp_len (lu := lu) (nu := nu) (n := x) lok; omega) ?_
    have sub26 := sub25.trans sub6
    simp only [decide_true, unary_not, Bool.not_true, optK_mk, vc_leafmeshlaw09_same_j28, pickV_false, boolK_false]
    refine Between_in (z2.sub sub26) fun v7 s7 sub7 acc7 => ?_
    have sub27 := sub26.trans sub7
    refine rBetween_in (w2.sub sub27) fun v8 s8 sub8 acc8 => ?_
    refine SameI_in (acc7.sl.sub sub8) acc8.sl (by have : (btw L lu nu x 0).length ≤ L.length := btw_len; omega) ?_
    simp only [decide_true, unary_not, Bool.not_true, optK_mk, vc_leafmeshlaw09_same_j29, pickV_false, boolK_false, arith_add, e1]
    exact ⟨_, by omega, k + 1, rfl, by omega, rfl, (sub2.trans sub27).trans sub8⟩
  · refine Links2_in z2 fun v3 s3 sub3 o3 => ?_
    exact same_l6 z w (o3.jnk.to' sub2) (sub2.trans sub3) hK
theorem same_in (z : GRd false s g lvg N L lu nu) (w : RRd s o lv nv kv N L lu nu) (hK : ∀ s', Sub s s' → K (.bool true) s') : wpCall Try.prog XX 15 [.ptr g 0, .ptr o 0] K s := by
  have lok := z.lok
  have hll := lok.ll
  have hnn := lok.nn
  refine vc_leafmeshlaw09_same_in (Nodes_in z.frz fun _ => ?_)
  have wr0 : rd1 (cutH [(s, add s (frz s))] (add s (frz s))) (.ptr o 0) = some (.int .i64 N) := by
    rw [add_frz, cut_refl]; exact w.r0
  simp only [nilCheck_ptr, addOff_ptr, Nat.zero_add, wr0, eqV_int, negB_mk, Bool.true_bne, beq_self_eq_true, Bool.not_true, boolK_false, optK_mk]
  simp only [add_frz]
  refine Links2_in z.frz fun v3 s3 sub3 o3 _ => ?_
  have o3' := o3.add
  have suba : Sub s (add s s3) := sub_add
  have subc := cut1_sub suba
  have wr1 : rd1 (cutH [(s, add s s3)] (add s s3)) (.ptr o 1) = some lv := (w.sub subc).r1
  simp only [nilCheck_ptr, addOff_ptr, Nat.zero_add, wr1, optK_mk]
  generalize add s s3 = sA at o3' suba
  refine SameL_in o3'.sl (w.sub suba).ls (by omega) ?_
  simp only [unary_not, Bool.not_true, pickV_false, boolK_false, optK_mk]
  refine Flags_in (z.sub suba) fun c s5 sub5 hc h5 => ?_
  have subA5 := suba.trans sub5
  refine rFlags_in (w.sub subA5) fun v6 s6 sub6 acc6 => ?_
  refine SameB_in (flags_sl (sub6 _ _ h5)) acc6.sl (by rw [flagsL_len]; omega) ?_
  have sub06 := subA5.trans sub6
  simp only [decide_true, unary_not, Bool.not_true, pickV_false, boolK_false, optK_mk]
  refine Components_in (z.sub sub06) fun av asx s7 sub7 cs7 => ?_
  have sub07 := sub06.trans sub7
  refine rComponents_in (w.sub sub07) fun bv bs s8 sub8 cs8 => ?_
  have cs7' := cs7.sub sub8
  simp only [cs7'.lenv, cs8.lenv, eqV_int, negB_mk, Bool.true_bne, beq_self_eq_true, Bool.not_true, boolK_false, optK_mk]
  have hcl : (cmps N L lu nu).length ≤ N := cmps_len
  refine same_l0 (s0 := s6) (fun l hl => by have := (rep_ne (lu := lu) (nu := nu) lok hl).2; omega) (by omega) sub7 cs7' cs8 (sub7.trans sub8) (fun b hb => ?_) fun s9 sub9 => ?_
  · obtain ⟨i, hi, rfl⟩ := List.getElem_of_mem hb
    have hi2 : i < (cmps N L lu nu).length := by rw [← cs7.len]; exact hi
    rw [(cs7.rw i _ _ (List.getElem?_eq_getElem hi) (List.getElem?_eq_getElem hi2)).2]; simp
  · exact same_l2 z w (sub06.trans sub9) hK
end Go.AM
namespace Go.AM
open Go Go.Proofs
variable {K : AVal → Heap → Prop} {s s' s0 : Heap} {t : Bool} {g o : Nat} {lv lvg nv kv : AVal} {N : Nat} {lu nu lu' nu' : Nat → Bool} {L : List Lk} {n : Int}
/-! ### a new graph of the reference -/
theorem Valid_in (hs : SlR 3 s lv (L.map lkR)) (hll : L.length ≤ 1000000) (hK : ∀ s', Sub s s' → K (.int .i64 (newE n L)) s') : wpCall Try.prog XX 45 [.int .i64 n, lv] K s := by
  have c0 : ∀ {b : Bool}, b = decide (n < 1 ∨ 32 < n) → ∀ x y, pickV x (.bool true) y = some (.bool b) → vc_leafmeshref09_Valid_j0 XX (.int .i64 n) lv x y K s := by
    intro b hb x y hp
    simp only [vc_leafmeshref09_Valid_j0, hp, optK_mk]
    refine boolK_mk (fun h => ?_) (fun h => ?_)
    · have h2 : n < 1 ∨ 32 < n := of_decide_eq_true (hb.symm.trans h)
      have := hK s (.refl s)
      rwa [show newE n L = 2 by unfold newE; rw [if_pos h2]] at this
    · have h2 : ¬ (n < 1 ∨ 32 < n) := of_decide_eq_false (hb.symm.trans h)
      simp only [hs.len, List.length_map, arith_gtr, optK_mk]
      refine boolK_mk (fun h3 => ?_) (fun h3 => ?_)
      · have h3 := of_decide_eq_true h3
        have := hK s (.refl s)
        rwa [show newE n L = 5 by unfold newE; rw [if_neg h2, if_pos (by omega)]] at this
      · have h3 := of_decide_eq_false h3
        have e : newE n L = linkE n L := by unfold newE; rw [if_neg h2, if_neg (by omega)]
        rw [e] at hK
        refine ⟨fun ys s2 m => ∃ i : Nat, ys = [.int .i64 i] ∧ i ≤ L.length ∧ m = L.length - i ∧ Sub s s2 ∧ linkE n L = linkE n (L.drop i), ⟨_, 0, rfl, by omega, rfl, .refl s, by rw [List.drop_zero]⟩, ?_⟩
        rintro f s2 m ⟨i, hy, hi, rfl, sub2, he⟩
        simp only [List.cons.injEq, and_true] at hy
        rw [hy]
        simp only [vc_leafmeshref09_Valid_l1, hs.len, List.length_map, arith_lss, optK_mk]
        refine boolK_mk (fun hlt => ?_) (fun hge => ?_)
        · have hlt : i < L.length := by have := of_decide_eq_true hlt; omega
          obtain ⟨p, o, r1, r2, _⟩ := row_at (hs.sub sub2) hlt
          rw [linkE_drop hlt] at he
          simp only [r1, r2, optK_mk]
          refine new_step fun eb s8 heb h8 u8 => wrAgg_step h8 rfl rfl rfl fun s9 h9 u9 => ?_
          have sub9 : Sub s2 s9 := (u8.sub heb).upto u9 heb
          have subs := sub2.trans sub9
          have h9 : s9 eb = some (false, .cells 26 (lkR L[i])) := h9
          have q0 : (lkR L[i])[0]? = some (.int .i64 L[i].1) := rfl
          have q1 : (lkR L[i])[1]? = some (.int .i64 L[i].2.1) := rfl
          have q2 : (lkR L[i])[2]? = some (.int .i64 L[i].2.2) := rfl
          have bad : badL n L[i] → K (.int .i64 2) s9 := fun h => by
            rw [if_pos h] at he
            have := hK s9 subs
            rwa [he] at this
          simp only [addOff_ptr, Nat.zero_add, rd1_mk h9, q0, arith_lss, optK_mk]
          by_cases hA : L[i].1 < 0
          · simp only [decide_eq_true hA, boolK_true, vc_leafmeshref09_Valid_j2, vc_leafmeshref09_Valid_j3, vc_leafmeshref09_Valid_j4, vc_leafmeshref09_Valid_j5, vc_leafmeshref09_Valid_j6, pickV_true, optK_mk]
            exact bad (.inl (.inl hA))
          simp only [decide_eq_false hA, boolK_false, addOff_ptr, Nat.zero_add, rd1_mk h9, q0, arith_geq, vc_leafmeshref09_Valid_j2, pickV_false, optK_mk]
          by_cases hB : n ≤ L[i].1
          · simp only [decide_eq_true hB, boolK_true, vc_leafmeshref09_Valid_j3, vc_leafmeshref09_Valid_j4, vc_leafmeshref09_Valid_j5, vc_leafmeshref09_Valid_j6, pickV_true, optK_mk]
            exact bad (.inl (.inr hB))
          simp only [decide_eq_false hB, boolK_false, addOff_ptr, Nat.zero_add, rd1_mk h9, q1, arith_lss, vc_leafmeshref09_Valid_j3, pickV_false, optK_mk]
          by_cases hC : L[i].2.1 < 0
          · simp only [decide_eq_true hC, boolK_true, vc_leafmeshref09_Valid_j4, vc_leafmeshref09_Valid_j5, vc_leafmeshref09_Valid_j6, pickV_true, optK_mk]
            exact bad (.inr (.inl (.inl hC)))
          simp only [decide_eq_false hC, boolK_false, addOff_ptr, Nat.zero_add, rd1_mk h9, q1, arith_geq, vc_leafmeshref09_Valid_j4, pickV_false, optK_mk]
          by_cases hD : n ≤ L[i].2.1
          · simp only [decide_eq_true hD, boolK_true, vc_leafmeshref09_Valid_j5, vc_leafmeshref09_Valid_j6, pickV_true, optK_mk]
            exact bad (.inr (.inl (.inr hD)))
          simp only [decide_eq_false hD, boolK_false, addOff_ptr, Nat.zero_add, rd1_mk h9, q2, arith_lss, vc_leafmeshref09_Valid_j5, pickV_false, optK_mk]
          by_cases hE : L[i].2.2 < 1
          · simp only [decide_eq_true hE, boolK_true, vc_leafmeshref09_Valid_j6, pickV_true, optK_mk]
            exact bad (.inr (.inr (.inl hE)))
          simp only [decide_eq_false hE, boolK_false, addOff_ptr, Nat.zero_add, rd1_mk h9, q2, arith_gtr, vc_leafmeshref09_Valid_j6, pickV_false, optK_mk]
          by_cases hF : 1000 < L[i].2.2
          · simp only [decide_eq_true hF, boolK_true]
            exact bad (.inr (.inr (.inr hF)))
          simp only [decide_eq_false hF, boolK_false, addOff_ptr, Nat.zero_add, rd1_mk h9, q0, q1, eqV_int, negB_mk, Bool.false_bne, optK_mk]
          rw [if_neg (by unfold badL; omega)] at he
          refine boolK_mk (fun hq => ?_) (fun hq => ?_)
          · rw [if_pos (eq_of_beq hq)] at he
            have := hK s9 subs
            rwa [he] at this
          · rw [if_neg (beq_eq_false_iff_ne.1 hq)] at he
            simp only [arith_add, optK_mk]
            rw [wrap64 (by omega) (by omega)]
            exact ⟨_, by omega, i + 1, rfl, by omega, rfl, subs, he⟩
        · have hge : i = L.length := by have := of_decide_eq_false hge; omega
          rw [hge, List.drop_length] at he
          have := hK s2 sub2
          rwa [he] at this
  refine vc_leafmeshref09_Valid_in ?_
  simp only [vc_leafmeshref09_Valid, arith_lss, optK_mk]
  by_cases h : n < 1
  · simp only [decide_eq_true h, boolK_true]
    exact c0 (b := true) (by rw [decide_eq_true (Or.inl h)]) _ _ (by rw [pickV_true])
  · simp only [decide_eq_false h, boolK_false, arith_gtr, optK_mk]
    exact c0 (b := decide (32 < n)) (by simp [h]) _ _ (by rw [pickV_false])
theorem Acc.base {e : TypeId} {v : AVal} {m : List AVal} (h : Acc e s0 s v m) (hs : Sub s0 s) : ∃ sb, Sub s0 sb ∧ Sub sb s ∧ Acc e sb s v m ∧ ∀ b x, s b = some x → (∀ o n c, v ≠ .slc b o n c 1) → sb b = some x := by
  rcases h with h | ⟨b, h0, a, h2⟩
  · exact ⟨s, hs, .refl s, .inl h, fun _ _ h _ => h⟩
  · refine ⟨hdel s b, fun i y hi => ?_, fun i y hi => ?_, .inr ⟨b, by simp [hdel], a, h2⟩, fun i x hi hx => ?_⟩
    · rw [hdel_ne (ne_of_some h0 hi)]; exact hs i y hi
    · by_cases q : i = b
      · rw [q] at hi; simp [hdel] at hi
      · rwa [hdel_ne q] at hi
    · rw [hdel_ne]; exact hi
      rintro rfl
      exact hx _ _ _ a
/-- the reference, whose lists nobody else has -/
structure RG (s0 s : Heap) (o : Nat) (lv nv kv : AVal) (N : Nat) (L : List Lk) (bn bk : List Bool) : Prop where
  ob : s o = some (false, .cells 87 [.int .i64 N, lv, nv, kv])
  fo : s0 o = none
  ls : OwnR s0 s lv L
  ns : (bn = [] ∧ ∃ b, nv = .slc b 0 0 (some 0) 1) ∨ Acc 4 s0 s nv (bls bn)
  ks : (bk = [] ∧ ∃ b, kv = .slc b 0 0 (some 0) 1) ∨ Acc 4 s0 s kv (bls bk)
  ne : ∀ b o n c b' o' n' c', nv = .slc b o n c 1 → kv = .slc b' o' n' c' 1 → bn ≠ [] → bk ≠ [] → b ≠ b'
theorem ob_sl {v : AVal} {l : List Bool} (h : (l = [] ∧ ∃ b, v = .slc b 0 0 (some 0) 1) ∨ Acc 4 s0 s v (bls l)) : Sl s v (bls l) := by
  rcases h with ⟨rfl, b, rfl⟩ | h
  · exact .inr ⟨b, 0, some 0, rfl, by simp, fun h => absurd rfl h⟩
  · exact h.sl
theorem RG.rd {bn bk : List Bool} (z : RG s0 s o lv nv kv N L bn bk) (lok : LOk N L) (h1 : bn = upsB N nu) (h2 : bk = upsB L.length lu) : RRd s o lv nv kv N L lu nu :=
  ⟨⟨_, z.ob⟩, z.ls.sl, by rw [← h1]; exact ob_sl z.ns, by rw [← h2]; exact ob_sl z.ks, lok⟩
theorem acc4 {v : AVal} {m : List Bool} {b o n : Nat} {k : Option Nat} (h : (m = [] ∧ ∃ b, v = .slc b 0 0 (some 0) 1) ∨ Acc 4 s0 s v (bls m)) (e : v = .slc b o n k 1) : m = [] ∨ s0 b = none ∧ o = 0 ∧ n = m.length ∧ k = none ∧ s b = some (false, .cells 4 (bls m)) := by
  rcases h with ⟨h, _⟩ | h
  · exact .inl h
  · refine .inr ?_
    have := h.blk e
    rw [List.length_map] at this
    exact this
theorem bls_app {l : List Bool} {x : Bool} : bls l ++ [AVal.bool x] = bls (l ++ [x]) := by rw [bls, bls, List.map_append]; rfl
theorem rNew_in (hs : SlR 3 s lv (L.map lkR)) (hll : L.length ≤ 100000)
    (hE : newE n L ≠ 0 → ∀ s', Sub s s' → K (.tup [.nilptr, .int .i64 (newE n L)]) s')
    (hK : newE n L = 0 → ∀ N : Nat, n = N → ∀ s' o lv' nv kv, Sub s s' → RG s s' o lv' nv kv N L (List.replicate N true) (List.replicate L.length true) → K (.tup [.ptr o 0, .int .i64 0]) s') : wpCall Try.prog XX 13 [.int .i64 n, lv] K s := by
  refine vc_leafmeshref09_New_in (Valid_in hs (by omega) fun s1 sub1 => ?_)
  simp only [eqV_int, negB_mk, Bool.true_bne, optK_mk]
  by_cases he : newE n L = 0
  · obtain ⟨N, rfl, lok⟩ := newE_ok he
    rw [he]
    have e0 : (!((0 : Int) == 0)) = false := rfl
    rw [e0]
    simp only [boolK_false]
    have hnn := lok.nn
    have hll := lok.ll
    refine optK_of (a := []) rfl ⟨rfl, new_step fun d s2 hd h2 u2 => ?_⟩
    have sub2 := u2.sub hd
    have subs2 := sub1.trans sub2
    refine app_ownR (s0 := s2) (rows := []) (.inl ⟨rfl, d, rfl⟩) (hs.sub subs2) (by rw [List.length_map]; simp; omega) (.refl s2) fun lv' s3 hv sub3 => ?_
    have own3 : OwnR s s3 lv' L := by
      rcases hv with ⟨e, b', rfl⟩ | hv
      · exact .inl ⟨by simpa using e, .inr ⟨b', rfl⟩⟩
      · exact .inr (hv.old subs2)
    have subs3 := subs2.trans sub3
    have hone := own3.sl.one
    refine optK_of (fill4 hone) ⟨by show allOne [AVal.int .i64 (N : Int), lv', .nilslc, .nilslc] = true; rw [allOne_cons, allOne_cons, hone]; rfl, new_step fun o s4 ho h4 u4 => ?_⟩
    have sub4 := u4.sub ho
    have subs4 := subs3.trans sub4
    have ho0 : s o = none := by
      cases q : s o with
      | none => rfl
      | some y => rw [subs3 o y q] at ho; cases ho
    have z4 : RG s s4 o lv' .nilslc .nilslc N L (List.replicate 0 true) [] := ⟨h4, ho0, own3.to sub4, .inr (.inl ⟨rfl, rfl⟩), .inr (.inl ⟨rfl, rfl⟩), fun _ _ _ _ _ _ _ _ e => by cases e⟩
    refine ⟨fun ys s2 m => ∃ (i : Nat) (nv : AVal), ys = [.int .i64 i] ∧ i ≤ N ∧ m = N - i ∧ Sub s s2 ∧ RG s s2 o lv' nv .nilslc N L (List.replicate i true) [] ∧ Acc 4 s s2 nv (bls (List.replicate i true)), ⟨_, 0, .nilslc, rfl, by omega, rfl, subs4, z4, .inl ⟨rfl, rfl⟩⟩, ?_⟩
    rintro f s5 m ⟨i, nv, hy, hi, rfl, sub5, z5, acc5⟩
    simp only [List.cons.injEq, and_true] at hy
    rw [hy]
    have q2 : [AVal.int .i64 (N : Int), lv', nv, .nilslc][2]? = some nv := rfl
    simp only [vc_leafmeshref09_New_l0, arith_lss, optK_mk]
    refine boolK_mk (fun hlt => ?_) (fun hge => ?_)
    · have hlt : i < N := by have := of_decide_eq_true hlt; omega
      simp only [nilCheck_ptr, addOff_ptr, Nat.zero_add, rd1_mk z5.ob, q2, optK_mk]
      obtain ⟨sb, k1, k2, k3, k4⟩ := acc5.base sub5
      have nb : ∀ b x, s5 b = some x → (∀ m, x ≠ (false, .cells 4 m)) → sb b = some x := fun b x hb hx => k4 b x hb fun o n c e => by
        have := (acc5.blk e).2.2.2.2
        rw [hb] at this; injection this with this
        exact hx _ this
      refine pushV k3 rfl rfl (by rw [List.length_map, List.length_replicate]; omega) k2 fun nv' s6 sub6 acc6 => ?_
      rw [bls_app, ← List.replicate_succ'] at acc6
      have o6 := sub6 _ _ (nb _ _ z5.ob fun m e => by cases e)
      have l6 : OwnR s s6 lv' L := by
        rcases z5.ls with h | ⟨h1, h⟩
        · exact .inl h
        · refine .inr ⟨h1, ?_⟩
          rcases h with h | ⟨b, h0, a, h2⟩
          · exact .inl h
          · exact .inr ⟨b, h0, a, sub6 _ _ (nb _ _ h2 fun m e => by cases e)⟩
      refine wr1_step o6 (by simp) (sl_one acc6.sl) fun s7 h7 u7 => ?_
      have h7 : s7 o = some (false, .cells 87 [.int .i64 N, lv', nv', .nilslc]) := h7
      have acc7 : Acc 4 s s7 nv' (bls (List.replicate (i + 1) true)) := (acc6.old k1).to fun b o' n c e x hx => by
        rw [u7 b]; exact hx
        rintro rfl
        have := (acc6.blk e).2.2.2.2
        rw [o6] at this; cases this
      have l7 : OwnR s s7 lv' L := by
        rcases l6 with h | ⟨h1, h⟩
        · exact .inl h
        · refine .inr ⟨h1, ?_⟩
          rcases h with h | ⟨b, h0, a, h2⟩
          · exact .inl h
          · refine .inr ⟨b, h0, a, ?_⟩
            rw [u7 b]; exact h2
            rintro rfl; rw [o6] at h2; cases h2
      simp only [arith_add, optK_mk]
      rw [wrap64 (by omega) (by omega)]
      exact ⟨_, by omega, i + 1, nv', rfl, by omega, rfl, (k1.trans sub6).upto u7 ho0, ⟨h7, ho0, l7, .inr acc7, .inr (.inl ⟨rfl, rfl⟩), fun _ _ _ _ _ _ _ _ _ e => by cases e⟩, acc7⟩
    · have hge : i = N := by have := of_decide_eq_false hge; omega
      subst hge
      refine ⟨fun ys s2 m => ∃ (k : Nat) (kv : AVal), ys = [.int .i64 k] ∧ k ≤ L.length ∧ m = L.length - k ∧ Sub s s2 ∧ RG s s2 o lv' nv kv i L (List.replicate i true) (List.replicate k true) ∧ Acc 4 s s2 kv (bls (List.replicate k true)) ∧ (∀ b o n c b' o' n' c', nv = .slc b o n c 1 → kv = .slc b' o' n' c' 1 → b ≠ b'), ⟨_, 0, .nilslc, rfl, by omega, rfl, sub5, z5, .inl ⟨rfl, rfl⟩, fun _ _ _ _ _ _ _ _ _ e => by cases e⟩, ?_⟩
      rintro f s6 m ⟨k, kv, hy, hk, rfl, sub6, z6, acc6, ne6⟩
      simp only [List.cons.injEq, and_true] at hy
      rw [hy]
      have q3 : [AVal.int .i64 (i : Int), lv', nv, kv][3]? = some kv := rfl
      simp only [vc_leafmeshref09_New_l1, (hs.sub sub6).len, List.length_map, arith_lss, optK_mk]
      refine boolK_mk (fun hlt => ?_) (fun hge => ?_)
      · have hlt : k < L.length := by have := of_decide_eq_true hlt; omega
        simp only [nilCheck_ptr, addOff_ptr, Nat.zero_add, rd1_mk z6.ob, q3, optK_mk]
        obtain ⟨sb, k1, k2, k3, k4⟩ := acc6.base sub6
        have nb : ∀ b x, s6 b = some x → (∀ m, x ≠ (false, .cells 4 m)) → sb b = some x := fun b x hb hx => k4 b x hb fun o n c e => by
          have := (acc6.blk e).2.2.2.2
          rw [hb] at this; injection this with this
          exact hx _ this
        refine pushV k3 rfl rfl (by rw [List.length_map, List.length_replicate]; omega) k2 fun kv' s7 sub7 acc7 => ?_
        rw [bls_app, ← List.replicate_succ'] at acc7
        have o7 := sub7 _ _ (nb _ _ z6.ob fun m e => by cases e)
        refine wr1_step o7 (by simp) (sl_one acc7.sl) fun s8 h8 u8 => ?_
        have h8 : s8 o = some (false, .cells 87 [.int .i64 i, lv', nv, kv']) := h8
        have keep : ∀ b x, sb b = some x → b ≠ o → s8 b = some x := fun b x hb hne => by rw [u8 b hne]; exact sub7 _ _ hb
        have acc8 : Acc 4 s s8 kv' (bls (List.replicate (k + 1) true)) := (acc7.old k1).to fun b o' n c e x hx => by
          rw [u8 b]; exact hx
          rintro rfl
          have := (acc7.blk e).2.2.2.2
          rw [o7] at this; cases this
        have accn : Acc 4 s s6 nv (bls (List.replicate i true)) := by
          rcases z6.ns with ⟨h, _⟩ | h
          · have : i = 0 := by simpa using h
            omega
          · exact h
        have n8 : Acc 4 s s8 nv (bls (List.replicate i true)) := accn.to fun b o' n c e x hx => keep b x (k4 b x hx fun o2 n2 c2 e2 => ne6 _ _ _ _ _ _ _ _ e e2 rfl) (by
          rintro rfl
          have := (accn.blk e).2.2.2.2
          rw [z6.ob] at this; cases this)
        have l8 : OwnR s s8 lv' L := by
          rcases z6.ls with h | ⟨h1, h⟩
          · exact .inl h
          · refine .inr ⟨h1, ?_⟩
            rcases h with h | ⟨b, h0, a, h2⟩
            · exact .inl h
            · exact .inr ⟨b, h0, a, keep _ _ (nb _ _ h2 fun m e => by cases e) (by rintro rfl; rw [z6.ob] at h2; cases h2)⟩
        have ne8 : ∀ b o n c b' o' n' c', nv = .slc b o n c 1 → kv' = .slc b' o' n' c' 1 → b ≠ b' := fun b o1 n1 c1 b' o' n' c' e e' => by
          have h0 := (acc7.blk e').1
          have h1 := (accn.blk e).2.2.2.2
          have h2 := k4 _ _ h1 fun o2 n2 c2 e2 => ne6 _ _ _ _ _ _ _ _ e e2 rfl
          rintro rfl
          rw [h2] at h0; cases h0
        simp only [arith_add, optK_mk]
        rw [wrap64 (by omega) (by omega)]
        exact ⟨_, by omega, k + 1, kv', rfl, by omega, rfl, (k1.trans sub7).upto u8 ho0, ⟨h8, ho0, l8, .inr n8, .inr acc8, fun b o n c b' o' n' c' e e' _ _ => ne8 b o n c b' o' n' c' e e'⟩, acc8, ne8⟩
      · have hge : k = L.length := by have := of_decide_eq_false hge; omega
        subst hge
        exact hK he i rfl s6 o lv' nv kv sub6 z6
  · have : (!(newE n L == 0)) = true := by simp [he]
    rw [this]
    simp only [boolK_true]
    exact hE he s1 sub1
theorem rep_ups {m : Nat} : List.replicate m true = upsB m (fun j => decide (j < m)) := by
  refine List.ext_getElem? fun j => ?_
  by_cases hj : j < m
  · simp [upsB, hj]
  · simp [upsB, hj]
theorem Jnk.base {v : AVal} {m : Nat} (h : Jnk s0 s v m) : ∃ sb, Sub sb s ∧ Jnk sb s v m ∧ ∀ i e, s i = some e → v ≠ .slc i 0 m none 3 → sb i = some e := by
  rcases h with h | ⟨b, cs, e, h0, h1, h2⟩
  · exact ⟨s, .refl s, .inl h, fun _ _ h _ => h⟩
  · refine ⟨hdel s b, fun i y hi => ?_, .inr ⟨b, cs, e, by simp [hdel], h1, h2⟩, fun i x hi hx => ?_⟩
    · by_cases q : i = b
      · rw [q] at hi; simp [hdel] at hi
      · rwa [hdel_ne q] at hi
    · rw [hdel_ne]; exact hi
      rintro rfl; exact hx e
theorem GRd.kb {fp : Nat → Prop} (z : GRd t s g lv N L lu nu) (k : KeepBut fp s s') (hg : ¬ fp g) (hl : ∀ b o n c, lv = .slc b o n c 3 → L ≠ [] → ¬ fp b) : GRd t s' g lv N L lu nu := by
  obtain ⟨⟨a, b, c, d, h1, h2⟩, h3, h4⟩ := z
  exact ⟨⟨a, b, c, d, k _ _ h1 hg, h2⟩, h3.keep k fun b o n c e hne => hl b o n c e (by simpa using hne), h4⟩
theorem RG.kb {fp : Nat → Prop} {bn bk : List Bool} (z : RG s0 s o lv nv kv N L bn bk) (k : KeepBut fp s s') (hf : ∀ i, fp i → s0 i ≠ none) : RG s0 s' o lv nv kv N L bn bk := by
  have nf : ∀ i, s0 i = none → ¬ fp i := fun i h hi => hf i hi h
  obtain ⟨h1, h2, h3, h4, h5, h6⟩ := z
  have ac : ∀ {v : AVal} {m : List Bool}, ((m = [] ∧ ∃ b, v = .slc b 0 0 (some 0) 1) ∨ Acc 4 s0 s v (bls m)) → ((m = [] ∧ ∃ b, v = .slc b 0 0 (some 0) 1) ∨ Acc 4 s0 s' v (bls m)) := fun h => h.imp id fun h => by
    rcases h with h | ⟨b, h0, a, h2⟩
    · exact .inl h
    · exact .inr ⟨b, h0, a, k _ _ h2 (nf b h0)⟩
  refine ⟨k _ _ h1 (nf _ h2), h2, ?_, ac h4, ac h5, h6⟩
  rcases h3 with h | ⟨hr, h⟩
  · exact .inl h
  · refine .inr ⟨hr, ?_⟩
    rcases h with h | ⟨b, h0, a, h2⟩
    · exact .inl h
    · exact .inr ⟨b, h0, a, k _ _ h2 (nf b h0)⟩
theorem TNew_in (hs : SlR 3 s lv (L.map lkR)) : wpCall Try.prog XX 3 [.int .i64 n, lv] (fun v _ => v = .bool true) s := by
  refine vc_leafmeshlaw09_TopoNew_in ?_
  simp only [vc_leafmeshlaw09_TopoNew, hs.len, List.length_map, arith_gtr, optK_mk]
  by_cases hL : 200 < L.length
  · simp only [decide_eq_true (show (200 : Int) < L.length by omega), boolK_true]
    exact wp_closedS rfl rfl rfl
  simp only [decide_eq_false (show ¬ (200 : Int) < L.length by omega), boolK_false]
  refine OwnL_in hs (by omega) fun iv s1 sub1 own1 => ?_
  refine New_in own1.sl (by omega) (fun he s2 sub2 => ?_) fun he N hN s2 g lvg sub2 zg => ?_
  · refine rNew_in (hs.sub (sub1.trans sub2)) (by omega) (fun _ s3 sub3 => ?_) fun he2 => absurd he2 he
    simp only [extract0, extract1, optK_mk, eqV_int, eqV_nilptr, eqV_bool, negB_mk, beq_self_eq_true, Bool.true_bne, Bool.false_bne, Bool.not_true, boolK_false, vc_leafmeshlaw09_TopoNew_j0, vc_leafmeshlaw09_TopoNew_j1, pickV_false]
    refine SameL_in (own1.to (sub2.trans sub3)).sl ((hs.sub (sub1.trans sub2)).sub sub3) (by omega) ?_
    simp only [unary_not, Bool.not_true, pickV_false, boolK_false, eqV_nilptr, negB_mk, Bool.false_bne, boolK_true, optK_mk]
    exact wp_closedS rfl rfl rfl
  · subst hN
    refine rNew_in (hs.sub (sub1.trans sub2)) (by omega) (fun he2 => absurd he he2) fun _ N' hN' s3 o lv' nv kv sub3 zw => ?_
    obtain rfl : N = N' := by omega
    have z3 := zg.rd.sub sub3
    have lok := z3.lok
    have w3 : RRd s3 o lv' nv kv N L (fun j => decide (j < L.length)) (fun j => decide (j < N)) := zw.rd lok rep_ups rep_ups
    simp only [extract0, extract1, optK_mk, eqV_int, eqV_nilptr, eqV_ptr, eqV_bool, negB_mk, beq_self_eq_true, Bool.true_bne, Bool.false_bne, Bool.not_true, boolK_false, vc_leafmeshlaw09_TopoNew_j0, vc_leafmeshlaw09_TopoNew_j1, pickV_false]
    refine SameL_in (own1.to (sub2.trans sub3)).sl ((hs.sub (sub1.trans sub2)).sub sub3) (by omega) ?_
    simp only [unary_not, Bool.not_true, pickV_false, boolK_false, eqV_nilptr, eqV_ptr, negB_mk, Bool.false_bne, optK_mk]
    have j3 := (own1.to (sub2.trans sub3)).jnk
    obtain ⟨sb, k1, k2, k3⟩ := j3.base
    have kb : KeepBut (fun i => iv = .slc i 0 L.length none 3) s3 sb := fun i e hi hn => k3 i e hi hn
    have fx : ∀ i, iv = .slc i 0 L.length none 3 → s1 i ≠ none := fun i hi => by
      rcases own1 with ⟨_, h | ⟨b, h⟩⟩ | ⟨_, h | ⟨b, _, h, h2⟩⟩
      · rw [h] at hi; cases hi
      · rw [h] at hi; simp at hi
      · rw [h.1] at hi; cases hi
      · rw [h] at hi; injection hi with hi
        rw [← hi, h2]; simp
    have zb := z3.kb kb (fun hg => fx g hg zg.fg) fun b o n c e hne hb => fx b hb (zg.fl b o n c e hne)
    have wb : RRd sb o lv' nv kv N L (fun j => decide (j < L.length)) (fun j => decide (j < N)) := (zw.kb kb fun i hi => by
      have := fx i hi
      cases q : s1 i with
      | none => exact absurd q this
      | some y => rw [sub2 i y q]; simp).rd lok rep_ups rep_ups
    refine ⟨fun ys s2 m => ∃ i : Nat, ys = [.int .i64 i] ∧ i ≤ L.length ∧ m = L.length - i ∧ Sub sb s2 ∧ Jnk sb s2 iv L.length, ⟨_, 0, rfl, by omega, rfl, k1, k2⟩, ?_⟩
    rintro f s4 m ⟨i, hy, hi, rfl, sub4, j4⟩
    simp only [List.cons.injEq, and_true] at hy
    rw [hy]
    simp only [vc_leafmeshlaw09_TopoNew_l2, j4.len, arith_lss, optK_mk]
    refine boolK_mk (fun hlt => ?_) (fun hge => ?_)
    · have hlt : i < L.length := by have := of_decide_eq_true hlt; omega
      refine optK_of (a := [.int .i64 0, .int .i64 0, .int .i64 0]) rfl ?_
      refine j4.wr hlt rfl rfl sub4 fun s5 j5 sub5 => ?_
      simp only [arith_add, optK_mk]
      rw [wrap64 (by omega) (by omega)]
      exact ⟨_, by omega, i + 1, rfl, by omega, rfl, sub5, j5⟩
    · refine same_in (zb.sub sub4) (wb.sub sub4) fun s5 _ => ?_
      simp only [boolK_true]
      refine wp_closedS rfl rfl ?_
      simp only [vc_leafmeshlaw09_TopoNew_j3, pickV_true, optK_mk]
set_option maxRecDepth 100000 in
theorem TNew_wp (s : Heap) (xs : List AVal) (h : ArgL Try.prog s 40 [3, 22] xs) : wpCall Try.prog XX 3 xs (fun v _ => v = .bool true) s := by
  obtain ⟨a, p, rfl, h1, h2⟩ := argl2 h
  obtain ⟨n, rfl, _⟩ := arg_int (d := 39) Try.underlying3 h1
  obtain ⟨L, hL, _⟩ := arg_ls (d := 37) h2
  exact TNew_in hL
end Go.AM
namespace Go.AM
open Go Go.Proofs
variable {K : AVal → Heap → Prop} {s s' s0 : Heap} {t : Bool} {g o : Nat} {lv lvg nv kv : AVal} {N : Nat} {lu nu lu' nu' : Nat → Bool} {L : List Lk} {n : Int}
/-! ### copies -/
theorem Copy_in (z : GRd t s g lvg N L lu nu) (hK : ∀ s' c lv', Sub s s' → Gr s s' c lv' N L lu nu → K (.ptr c 0) s') : wpCall Try.prog XX 36 [.ptr g 0] K s := by
  have hll := z.lok.ll
  refine vc_topo_Graph_Copy_in (valid_in z ?_)
  obtain ⟨a, b, c0, d, h1, h2, h3⟩ := z.cell
  simp only [unary_not, Bool.not_true, optK_mk, boolK_false, nilCheck_ptr, rdN_all (n := 6) h1 rfl]
  refine new_step fun c s1 hc h4 u4 => wrAgg_step h4 rfl rfl (by show allOne [AVal.int .i64 (N : Int), lvg, .int .u64 (a : Int), .int .u64 (b : Int), .int .u64 (c0 : Int), .int .u64 (d : Int)] = true; rw [allOne_cons, allOne_cons, z.ls.one]; rfl) fun s2 h5 u5 => ?_
  have sub2 : Sub s s2 := (u4.sub hc).upto u5 hc
  have h5 : s2 c = some (false, .cells 76 (gc N lvg a b c0 d)) := h5
  have z2 := z.sub sub2
  simp only [nilCheck_ptr, addOff_ptr, Nat.zero_add, z2.r1, optK_mk]
  refine CloneL_in z2.ls (by omega) fun lv' s3 sub3 sl3 fr3 => ?_
  refine wr1_step (sub3 _ _ h5) (by simp) sl3.one fun s4 h6 u6 => ?_
  have fr : ∀ b o n k, lv' = .slc b o n k 3 → L ≠ [] → b ≠ c ∧ s b = none := fun b o n k e hne => by
    have := fr3 b o n k e hne
    refine ⟨(by rintro rfl; rw [h5] at this; cases this), ?_⟩
    cases q : s b with
    | none => rfl
    | some y => rw [sub2 b y q] at this; cases this
  refine hK s4 c lv' ((sub2.trans sub3).upto u6 hc) ⟨⟨⟨a, b, c0, d, h6, h2, h3⟩, sl3.upto u6 fun b o n k e hne => (fr b o n k e (by simpa using hne)).1, z.lok⟩, hc, fun b o n k e hne => (fr b o n k e hne).2, fun b o n k e hne => (fr b o n k e hne).1⟩
theorem cut_olds {l : List (Heap × Heap)} {t : Heap} {b : Nat} {x : Bool × Blk} (h : t b = some x) (hl : ∀ p ∈ l, p.1 b ≠ none) : cutH l t b = some x := by
  have h1 : cutH l t b ≠ none := cutH_put (by rw [h]; exact Option.some_ne_none _) fun p hp h2 => hl p hp h2.1
  rw [(cutH_get h1).2.2, h]
theorem RG.old {s1 : Heap} {bn bk : List Bool} (z : RG s1 s o lv nv kv N L bn bk) (h : Sub s0 s1) : RG s0 s o lv nv kv N L bn bk := by
  obtain ⟨h1, h2, h3, h4, h5, h6⟩ := z
  refine ⟨h1, ?_, h3.old h, h4.imp id fun q => q.old h, h5.imp id fun q => q.old h, h6⟩
  cases q : s0 o with
  | none => rfl
  | some y => rw [h o y q] at h2; cases h2
theorem RG.to {bn bk : List Bool} (z : RG s0 s o lv nv kv N L bn bk) (h : Sub s s') : RG s0 s' o lv nv kv N L bn bk := by
  obtain ⟨h1, h2, h3, h4, h5, h6⟩ := z
  exact ⟨h _ _ h1, h2, h3.to h, h4.imp id fun q => q.to fun b _ _ _ _ x hx => h b x hx, h5.imp id fun q => q.to fun b _ _ _ _ x hx => h b x hx, h6⟩
theorem fill_87 {n : Int} {a b c : AVal} (ha : a.one = true) (hb : b.one = true) (hc : c.one = true) : fillR [(.int .i64 0), .nilslc, .nilslc, .nilslc] [(0, 1, .int .i64 n), (1, 1, a), (2, 1, b), (3, 1, c)] = some [.int .i64 n, a, b, c] := by
  simp only [fillR, one_cells ha, one_cells hb, one_cells hc]
  rfl
/-- a list of truth values that is appended to an empty one -/
theorem appB {b : Nat} {y : AVal} {l : List Bool} (hy : Sl s y (bls l)) (hl : l.length ≤ 1000000) (hK : ∀ v' s', Sub s s' → ((l = [] ∧ ∃ b, v' = .slc b 0 0 (some 0) 1) ∨ Acc 4 s s' v' (bls l)) → K v' s') : appK 4 1 (.slc b 0 0 (some 0) 1) y K s := by
  refine app_copy hy (by rw [List.length_map]; omega) fun v' s' sub h1 h2 => hK v' s' sub ?_
  by_cases e : l = []
  · exact .inl ⟨e, b, h1 (by rw [e]; rfl)⟩
  · obtain ⟨c, q1, q2, q3⟩ := h2 (by simpa using e)
    exact .inr (.inr ⟨c, q1, q2, q3⟩)
theorem ob_add {v : AVal} {l : List Bool} (h : (l = [] ∧ ∃ b, v = .slc b 0 0 (some 0) 1) ∨ Acc 4 (frz s) s' v (bls l)) : (l = [] ∧ ∃ b, v = .slc b 0 0 (some 0) 1) ∨ Acc 4 s (add s s') v (bls l) := h.imp id fun q => q.add
theorem rCopy_in (w : RRd s o lv nv kv N L lu nu) (hK : ∀ s' o' lv' nv' kv', Sub s s' → RG s s' o' lv' nv' kv' N L (upsB N nu) (upsB L.length lu) → K (.ptr o' 0) s') : wpCall Try.prog XX 37 [.ptr o 0] K s := by
  have lok := w.lok
  have hnn := lok.nn
  have hll := lok.ll
  obtain ⟨t0, hob⟩ := w.ob
  have hs0 : s o ≠ none := by rw [hob]; exact Option.some_ne_none _
  refine vc_leafmeshref09_Graph_Copy_in ?_
  simp only [vc_leafmeshref09_Graph_Copy, nilCheck_ptr, addOff_ptr, Nat.zero_add, w.r0, optK_mk]
  refine optK_of (a := []) rfl ⟨rfl, new_step fun b4 s5 hb4 h5 u5 _ => ?_⟩
  have sub1 : Sub s (add s s5) := sub_add
  generalize add s s5 = t1 at sub1
  have rd : ∀ {l : List (Heap × Heap)} {tt : Heap}, Sub s tt → (∀ p ∈ l, Sub s p.1) → ∀ i, rd1 (cutH l tt) (.ptr o i) = rd1 s (.ptr o i) := fun {l tt} h1 h2 i => by
    rw [rd1_mk hob, rd1_mk (cut_olds (h1 _ _ hob) fun p hp => by rw [h2 p hp _ _ hob]; exact Option.some_ne_none _)]
  rw [rd sub1 (by simp [Sub.refl])]
  simp only [w.r1, optK_mk]
  refine app_ownR (s0 := frz t1) (rows := []) (.inl ⟨rfl, b4, rfl⟩) (w.sub sub1).ls.frz (by rw [List.length_map]; simp; omega) (.refl _) fun v9 s10 hv _ _ => ?_
  have own : OwnR t1 (add t1 s10) v9 L := by
    rcases hv with ⟨e, b', rfl⟩ | hv
    · exact .inl ⟨by simpa using e, .inr ⟨b', rfl⟩⟩
    · exact .inr hv.add
  have sub12 : Sub t1 (add t1 s10) := sub_add
  generalize add t1 s10 = t2 at own sub12
  have sub2 := sub1.trans sub12
  refine optK_of (a := []) rfl ⟨rfl, new_step fun b12 s13 hb12 h13 u13 guard => ?_⟩
  have sub23 : Sub t2 (add t2 s13) := sub_add
  generalize add t2 s13 = t3 at sub23
  have sub3 := sub2.trans sub23
  rw [rd sub3 (by intro p hp; simp only [List.mem_cons, List.not_mem_nil, or_false] at hp; rcases hp with rfl | rfl | rfl; exact .refl s; exact sub1; exact sub2)]
  simp only [w.r2, optK_mk]
  refine appB (w.sub sub3).ns.frz (by rw [upsB_len]; omega) fun v17 s18 _ hv17 _ => ?_
  have hv17 := ob_add hv17
  have sub34 : Sub t3 (add t3 s18) := sub_add
  generalize add t3 s18 = t4 at hv17 sub34
  have sub4 := sub3.trans sub34
  refine optK_of (a := []) rfl ⟨rfl, new_step fun b20 s21 hb20 h21 u21 guard2 => ?_⟩
  have sub45 : Sub t4 (add t4 s21) := sub_add
  generalize add t4 s21 = t5 at sub45
  have sub5 := sub4.trans sub45
  rw [rd sub5 (by intro p hp; simp only [List.mem_cons, List.not_mem_nil, or_false] at hp; rcases hp with rfl | rfl | rfl | rfl | rfl; exact .refl s; exact sub1; exact sub2; exact sub3; exact sub4)]
  simp only [w.r3, optK_mk]
  refine appB (w.sub sub5).ks.frz (by rw [upsB_len]; omega) fun v25 s26 _ hv25 _ => ?_
  have hv25 := ob_add hv25
  have sub56 : Sub t5 (add t5 s26) := sub_add
  generalize add t5 s26 = t6 at hv25 sub56
  have sub6 := sub5.trans sub56
  have own6 : OwnR s t6 v9 L := (own.to (((sub23.trans sub34).trans sub45).trans sub56)).old sub1
  have ns6 : (upsB N nu = [] ∧ ∃ b, v17 = .slc b 0 0 (some 0) 1) ∨ Acc 4 s t6 v17 (bls (upsB N nu)) := hv17.imp id fun q => (q.to fun b _ _ _ _ x hx => (sub45.trans sub56) b x hx).old sub3
  have ks6 : (upsB L.length lu = [] ∧ ∃ b, v25 = .slc b 0 0 (some 0) 1) ∨ Acc 4 s t6 v25 (bls (upsB L.length lu)) := hv25.imp id fun q => q.old sub5
  have o1 := own6.sl.one
  have o2 := (ob_sl ns6).one
  have o3 := (ob_sl ks6).one
  refine optK_of (fill_87 o1 o2 o3) ⟨by show allOne [AVal.int .i64 (N : Int), v9, v17, v25] = true; rw [allOne_cons, allOne_cons, allOne_cons, allOne_cons, o1, o2, o3]; rfl, new_step fun o' s7 ho' h7 u7 => ?_⟩
  have sub67 := u7.sub ho'
  have ho0 : s o' = none := by
    cases q : s o' with
    | none => rfl
    | some y => rw [sub6 o' y q] at ho'; cases ho'
  refine hK s7 o' v9 v17 v25 (sub6.trans sub67) ⟨h7, ho0, own6.to sub67, ns6.imp id fun q => q.to fun b _ _ _ _ x hx => sub67 b x hx, ks6.imp id fun q => q.to fun b _ _ _ _ x hx => sub67 b x hx, fun b o1 n1 c1 b' o2 n2 c2 e e' hn hk => ?_⟩
  rcases acc4 hv17 e with q | ⟨_, _, _, _, q⟩
  · exact absurd q hn
  · rcases acc4 hv25 e' with q' | ⟨q', _⟩
    · exact absurd q' hk
    · rintro rfl
      rw [sub45 _ _ q] at q'; cases q'
end Go.AM
namespace Go.AM
open Go Go.Proofs
variable {K : AVal → Heap → Prop} {s s' s0 : Heap} {t : Bool} {g o : Nat} {lv lvg nv kv : AVal} {N : Nat} {lu nu lu' nu' : Nat → Bool} {L : List Lk} {n : Int}
/-! ### TopoScript -/
theorem ob_blk {v : AVal} {m : Nat} {f : Nat → Bool} (h : (upsB m f = [] ∧ ∃ b, v = .slc b 0 0 (some 0) 1) ∨ Acc 4 s0 s v (bls (upsB m f))) (hm : 1 ≤ m) : ∃ b, v = .slc b 0 m none 1 ∧ s0 b = none ∧ s b = some (false, .cells 4 (bls (upsB m f))) := by
  have hl : (upsB m f).length = m := upsB_len
  rcases h with ⟨h, _⟩ | ⟨_, h⟩ | ⟨b, h0, a, h2⟩
  · rw [h] at hl; simp at hl; omega
  · have : (bls (upsB m f)).length = m := by rw [List.length_map, hl]
    rw [h] at this; simp at this; omega
  · refine ⟨b, ?_, h0, h2⟩
    rw [a, List.length_map, hl]
theorem upsB_ne {m : Nat} {f : Nat → Bool} (h : 1 ≤ m) : upsB m f ≠ [] := fun q => by
  have hl : (upsB m f).length = m := upsB_len
  rw [q] at hl
  have hl : 0 = m := hl
  omega
theorem OwnR.kb {fp : Nat → Prop} {v : AVal} {M : List Lk} (h : OwnR s0 s v M) (k : KeepBut fp s s') (hf : ∀ i m, s i = some (false, .cells 26 m) → ¬ fp i) : OwnR s0 s' v M := by
  rcases h with h | ⟨h1, h⟩
  · exact .inl h
  · refine .inr ⟨h1, ?_⟩
    rcases h with h | ⟨b, h0, a, h2⟩
    · exact .inl h
    · exact .inr ⟨b, h0, a, k _ _ h2 (hf _ _ h2)⟩
theorem RG.wN {bk : List Bool} {x : Int} {up : Bool} {R : Heap → Prop} (z : RG s0 s o lv nv kv N L (upsB N nu) bk) (hx : 0 ≤ x ∧ x < N)
    (hK : ∀ s' b n c, nv = .slc b 0 n c 1 → s0 b = none → (∃ m, s b = some (false, .cells 4 m)) → Upto b s s' → RG s0 s' o lv nv kv N L (upsB N (upd1 nu x.toNat up)) bk → R s') : optK (iaddrS 1 nv (.int .i64 x)) fun p => optK (wr1 s p (.bool up)) R := by
  obtain ⟨b, e, h0, hb⟩ := ob_blk z.ns (by omega)
  have hi : x.toNat < N := by omega
  have ea : iaddrS 1 nv (.int .i64 x) = some (.ptr b x.toNat) := by
    rw [e]
    obtain ⟨i, rfl⟩ : ∃ i : Nat, x = i := ⟨x.toNat, by omega⟩
    have : Nat.blt i N = true := by rw [Nat.blt_eq]; omega
    simp [iaddrS, this]
  refine optK_of ea (wr1_step hb (by rw [List.length_map, upsB_len]; exact hi) rfl fun s' h' u => hK s' b N none e h0 ⟨_, hb⟩ u ?_)
  rw [upsB_set] at h'
  refine ⟨by rw [u o (by rintro rfl; have := z.ob; rw [hb] at this; cases this)]; exact z.ob, z.fo, z.ls.kb (u.keep (fp := fun i => i = b) rfl) fun i m hi e2 => (by rw [e2, hb] at hi; cases hi), .inr (.inr ⟨b, h0, by rw [List.length_map, upsB_len]; exact e, h'⟩), z.ks.imp id fun q => q.to fun b' o' n' c' e' y hy => ?_, fun b1 o1 n1 c1 b2 o2 n2 c2 e1 e2 _ hk => z.ne b1 o1 n1 c1 b2 o2 n2 c2 e1 e2 (upsB_ne (by omega)) hk⟩
  rw [u b']; exact hy
  rintro rfl
  have hl : (upsB N nu).length = N := upsB_len
  by_cases hk : bk = []
  · have := (q.blk e').2.2.2.2
    rw [hb, hk] at this
    injection this with this
    injection this with _ this
    injection this with _ this
    have := congrArg List.length this
    rw [List.length_map, hl] at this
    simp at this; omega
  · exact z.ne _ _ _ _ _ _ _ _ e e' (upsB_ne (by omega)) hk rfl
theorem RG.wK {bn : List Bool} {x : Int} {up : Bool} {R : Heap → Prop} (z : RG s0 s o lv nv kv N L bn (upsB L.length lu)) (hx : 0 ≤ x ∧ x < L.length)
    (hK : ∀ s' b n c, kv = .slc b 0 n c 1 → s0 b = none → (∃ m, s b = some (false, .cells 4 m)) → Upto b s s' → RG s0 s' o lv nv kv N L bn (upsB L.length (upd1 lu x.toNat up)) → R s') : optK (iaddrS 1 kv (.int .i64 x)) fun p => optK (wr1 s p (.bool up)) R := by
  obtain ⟨b, e, h0, hb⟩ := ob_blk z.ks (by omega)
  have hi : x.toNat < L.length := by omega
  have ea : iaddrS 1 kv (.int .i64 x) = some (.ptr b x.toNat) := by
    rw [e]
    obtain ⟨i, rfl⟩ : ∃ i : Nat, x = i := ⟨x.toNat, by omega⟩
    have : Nat.blt i L.length = true := by rw [Nat.blt_eq]; omega
    simp [iaddrS, this]
  have hl : (upsB L.length lu).length = L.length := upsB_len
  refine optK_of ea (wr1_step hb (by rw [List.length_map, upsB_len]; exact hi) rfl fun s' h' u => hK s' b _ none e h0 ⟨_, hb⟩ u ?_)
  rw [upsB_set] at h'
  refine ⟨by rw [u o (by rintro rfl; have := z.ob; rw [hb] at this; cases this)]; exact z.ob, z.fo, z.ls.kb (u.keep (fp := fun i => i = b) rfl) fun i m hi e2 => (by rw [e2, hb] at hi; cases hi), z.ns.imp id fun q => q.to fun b' o' n' c' e' y hy => ?_, .inr (.inr ⟨b, h0, by rw [List.length_map, upsB_len]; exact e, h'⟩), fun b1 o1 n1 c1 b2 o2 n2 c2 e1 e2 hn _ => z.ne b1 o1 n1 c1 b2 o2 n2 c2 e1 e2 hn (upsB_ne (by omega))⟩
  rw [u b']; exact hy
  rintro rfl
  by_cases hn : bn = []
  · have := (q.blk e').2.2.2.2
    rw [hb, hn] at this
    injection this with this
    injection this with _ this
    injection this with _ this
    have := congrArg List.length this
    rw [List.length_map, hl] at this
    have this : L.length = 0 := this
    omega
  · exact z.ne _ _ _ _ _ _ _ _ e' e hn (upsB_ne (by omega)) rfl
theorem RG.r {bn bk : List Bool} (z : RG s0 s o lv nv kv N L bn bk) : rd1 s (.ptr o 0) = some (.int .i64 N) ∧ rd1 s (.ptr o 1) = some lv ∧ rd1 s (.ptr o 2) = some nv ∧ rd1 s (.ptr o 3) = some kv := by
  refine ⟨?_, ?_, ?_, ?_⟩ <;> rw [rd1_mk z.ob] <;> rfl
theorem rSetLink_in {bn : List Bool} {x : Int} {up : Bool} (z : RG s0 s o lv nv kv N L bn (upsB L.length lu)) (hE : ¬ (0 ≤ x ∧ x < L.length) → K (.int .i64 2) s)
    (hK : 0 ≤ x ∧ x < L.length → ∀ s' b n c, kv = .slc b 0 n c 1 → s0 b = none → (∃ m, s b = some (false, .cells 4 m)) → Upto b s s' → RG s0 s' o lv nv kv N L bn (upsB L.length (upd1 lu x.toNat up)) → K (.int .i64 0) s') : wpCall Try.prog XX 34 [.ptr o 0, .int .i64 x, .bool up] K s := by
  obtain ⟨r0, r1, r2, r3⟩ := z.r
  refine vc_leafmeshref09_Graph_SetLink_in ?_
  simp only [vc_leafmeshref09_Graph_SetLink, arith_lss, optK_mk]
  by_cases h0 : x < 0
  · simp only [decide_eq_true h0, boolK_true, vc_leafmeshref09_Graph_SetLink_j0, pickV_true, optK_mk]
    exact hE (by omega)
  · simp only [decide_eq_false h0, boolK_false, nilCheck_ptr, addOff_ptr, Nat.zero_add, r1, z.ls.sl.len, List.length_map, arith_geq, vc_leafmeshref09_Graph_SetLink_j0, pickV_false, optK_mk]
    by_cases h1 : (L.length : Int) ≤ x
    · simp only [decide_eq_true h1, boolK_true]
      exact hE (by omega)
    · simp only [decide_eq_false h1, boolK_false, nilCheck_ptr, addOff_ptr, Nat.zero_add, r3, optK_mk]
      exact z.wK (by omega) (hK (by omega))
theorem rSetNode_in {bk : List Bool} {x : Int} {up : Bool} (z : RG s0 s o lv nv kv N L (upsB N nu) bk) (hE : ¬ (0 ≤ x ∧ x < N) → K (.int .i64 2) s)
    (hK : 0 ≤ x ∧ x < N → ∀ s' b n c, nv = .slc b 0 n c 1 → s0 b = none → (∃ m, s b = some (false, .cells 4 m)) → Upto b s s' → RG s0 s' o lv nv kv N L (upsB N (upd1 nu x.toNat up)) bk → K (.int .i64 0) s') : wpCall Try.prog XX 35 [.ptr o 0, .int .i64 x, .bool up] K s := by
  obtain ⟨r0, r1, r2, r3⟩ := z.r
  refine vc_leafmeshref09_Graph_SetNode_in ?_
  simp only [vc_leafmeshref09_Graph_SetNode, arith_lss, optK_mk]
  by_cases h0 : x < 0
  · simp only [decide_eq_true h0, boolK_true, vc_leafmeshref09_Graph_SetNode_j0, pickV_true, optK_mk]
    exact hE (by omega)
  · simp only [decide_eq_false h0, boolK_false, nilCheck_ptr, addOff_ptr, Nat.zero_add, r0, arith_geq, vc_leafmeshref09_Graph_SetNode_j0, pickV_false, optK_mk]
    by_cases h1 : (N : Int) ≤ x
    · simp only [decide_eq_true h1, boolK_true]
      exact hE (by omega)
    · simp only [decide_eq_false h1, boolK_false, nilCheck_ptr, addOff_ptr, Nat.zero_add, r2, optK_mk]
      exact z.wN (by omega) (hK (by omega))
/-- the blocks of the reference are no graph's -/
theorem RG.kg {bn bk : List Bool} {cs : List AVal} (z : RG s0 s o lv nv kv N L bn bk) (k : KeepBut (fun b => b = g) s s') (hg : s g = some (false, .cells 76 cs)) : RG s0 s' o lv nv kv N L bn bk := by
  have ac : ∀ {v : AVal} {m : List Bool}, ((m = [] ∧ ∃ b, v = .slc b 0 0 (some 0) 1) ∨ Acc 4 s0 s v (bls m)) → ((m = [] ∧ ∃ b, v = .slc b 0 0 (some 0) 1) ∨ Acc 4 s0 s' v (bls m)) := fun h => h.imp id fun h => by
    rcases h with h | ⟨b, h0, a, h2⟩
    · exact .inl h
    · exact .inr ⟨b, h0, a, k _ _ h2 (by rintro rfl; rw [hg] at h2; cases h2)⟩
  exact ⟨k _ _ z.ob (by rintro rfl; have := z.ob; rw [hg] at this; cases this), z.fo, z.ls.kb k fun i m hi e => (by rw [e, hg] at hi; cases hi), ac z.ns, ac z.ks, z.ne⟩
/-- both graphs, in the same state -/
structure Pr (s0 s : Heap) (g : Nat) (lvg : AVal) (o : Nat) (lv nv kv : AVal) (N : Nat) (L : List Lk) (lu nu : Nat → Bool) : Prop where
  gr : Gr s0 s g lvg N L lu nu
  rg : RG s0 s o lv nv kv N L (upsB N nu) (upsB L.length lu)
  sub : Sub s0 s
  nx : ∀ b o n c, lvg = .slc b o n c 3 → L ≠ [] → (∀ b2 o2 n2 c2, nv = .slc b2 o2 n2 c2 1 → b2 ≠ b) ∧ (∀ b2 o2 n2 c2, kv = .slc b2 o2 n2 c2 1 → b2 ≠ b)
theorem Pr.to (P : Pr s0 s g lvg o lv nv kv N L lu nu) (h : Sub s s') : Pr s0 s' g lvg o lv nv kv N L lu nu := ⟨P.gr.to h, P.rg.to h, P.sub.trans h, P.nx⟩
theorem Pr.new {s1 s2 s5 : Heap} {fp : Nat → Prop} (h01 : Sub s0 s1) (zg : Gr s0 s1 g lvg N L lu nu) (zw : RG s1 s2 o lv nv kv N L (upsB N nu) (upsB L.length lu)) (h12 : Sub s1 s2) (k : KeepBut fp s2 s5) (hf : ∀ i, fp i → s1 i ≠ none ∧ s0 i = none) (hg : ¬ fp g) (hl : ∀ b o n c, lvg = .slc b o n c 3 → L ≠ [] → ¬ fp b) : Pr s0 s5 g lvg o lv nv kv N L lu nu := by
  refine ⟨⟨(zg.rd.sub h12).kb k hg hl, zg.fg, zg.fl, zg.ap⟩, (zw.kb k fun i hi => (hf i hi).1).old h01, fun b e hb => k b e (h12 _ _ (h01 _ _ hb)) fun h => (by rw [(hf b h).2] at hb; cases hb), fun b o1 n1 c1 e hne => ?_⟩
  have hb := zg.rd.ls.was b o1 n1 c1 e (by simpa using hne)
  have hnn := zg.rd.lok.nn
  have hl1 : 1 ≤ L.length := by cases L with | nil => exact absurd rfl hne | cons x r => simp
  obtain ⟨bn, en, fn, _⟩ := ob_blk zw.ns hnn.1
  obtain ⟨bk, ek, fk, _⟩ := ob_blk zw.ks hl1
  refine ⟨fun b2 o2 n2 c2 e2 => ?_, fun b2 o2 n2 c2 e2 => ?_⟩
  · rw [en] at e2; injection e2 with e2
    rintro rfl; rw [← e2] at hb; exact hb fn
  · rw [ek] at e2; injection e2 with e2
    rintro rfl; rw [← e2] at hb; exact hb fk
theorem j5_in {i m : Nat} {e : Int} {I : List AVal → Heap → Nat → Prop} (P : Pr s0 s g lvg o lv nv kv N L lu nu) (hi : i < 60) (hK : ∀ s', Pr s0 s' g lvg o lv nv kv N L lu nu → ∃ m', m' < m ∧ I [.ptr g 0, .ptr o 0, .int .i64 ((i + 1 : Nat) : Int)] s' m') :
    vc_wld09_TopoScript_j5 XX (.ptr g 0) (.ptr o 0) (.int .i64 (i : Int)) (.int .i64 e) (.int .i64 e) I m K s := by
  simp only [vc_wld09_TopoScript_j5, eqV_int, negB_mk, beq_self_eq_true, Bool.true_bne, Bool.not_true, boolK_false, optK_mk]
  refine same_in P.gr.rd (P.rg.rd P.gr.rd.lok rfl rfl) fun s2 sub2 => ?_
  simp only [unary_not, Bool.not_true, vc_wld09_TopoScript_j6, pickV_false, boolK_false, arith_add, optK_mk]
  rw [wrap64 (by omega) (by omega)]
  exact hK s2 (P.to sub2)
theorem GRd.hd (z : GRd t s g lv N L lu nu) : ∃ cs, s g = some (t, .cells 76 cs) := by
  obtain ⟨a, b, c, d, h, _⟩ := z.cell
  exact ⟨_, h⟩
/-- the initial heap's blocks -/
def hideH (s0 s : Heap) : Heap := fun b => match s0 b with
  | some _ => s b
  | none => none
theorem hide_no {b : Nat} (h : s0 b = none) : hideH s0 s b = none := by unfold hideH; rw [h]
theorem hide_yes {b : Nat} (h : s0 b ≠ none) : hideH s0 s b = s b := by
  unfold hideH
  cases e : s0 b with
  | none => exact absurd e h
  | some x => rfl
theorem hide_some {b : Nat} (h : hideH s0 s b ≠ none) : s b ≠ none := by
  intro e
  refine h ?_
  unfold hideH
  rw [e]
  cases s0 b <;> rfl
theorem hid_out {b : Nat} (h : s0 b = none) : minus s (hideH s0 s) b = s b := by unfold minus; rw [if_pos (hide_no h)]
theorem hid_keep : KeepBut (fun b => s0 b ≠ none) s (minus s (hideH s0 s)) := fun b e hb hn => by rw [hid_out (by simpa using hn)]; exact hb
theorem hid_sub : Sub (minus s (hideH s0 s)) s := fun b e hb => by
  unfold minus at hb
  split at hb
  · exact hb
  · cases hb
theorem rest_keep {fp : Nat → Prop} {r t : Heap} (hr : Sub r s) (k : KeepBut fp r t) (g : ∀ b, s b ≠ none → r b = none → t b = none) : KeepBut fp s (add t (rest s r)) := fun b e hb hn => by
  cases q : r b with
  | some x =>
    have e1 := hr b x q
    rw [hb] at e1; cases e1
    exact add_some (k b e q hn)
  | none =>
    rw [add_none (g b (by rw [hb]; exact Option.some_ne_none _) q)]
    unfold rest
    rw [if_pos q]; exact hb
theorem rest_self {r : Heap} (hr : Sub r s) : add r (rest s r) = s := by
  funext b
  unfold add rest
  cases q : r b with
  | some x => exact (hr b x q).symm
  | none => simp
theorem cut_hid {F : Heap} (hs : Sub s0 s) (hF : Sub s0 F) : Sub s0 (cutH [(hideH s0 s, fullH)] F) := fun b x hb => cut_olds (hF b x hb) fun q hq => by
  rw [List.mem_singleton] at hq; subst hq
  show hideH s0 s b ≠ none
  rw [hide_yes (by rw [hb]; exact Option.some_ne_none _), hs b x hb]; exact Option.some_ne_none _
theorem stepL {M : List Ac} {av : AVal} {i m : Nat} {t61 : AVal} {a12 b13 : AVal} {I : List AVal → Heap → Nat → Prop} (P : Pr s0 s g lvg o lv nv kv N L lu nu) (hM : SlR 3 s0 av (M.map acR)) (hi : i < M.length) (hi2 : i < 60)
    (hK : ∀ s' lu', Pr s0 s' g lvg o lv nv kv N L lu' nu → ∃ m', m' < m ∧ I [.ptr g 0, .ptr o 0, .int .i64 ((i + 1 : Nat) : Int)] s' m') :
    vc_wld09_TopoScript_j4 XX av (.ptr g 0) (.ptr o 0) (.int .i64 (i : Int)) a12 b13 t61 (.bool true) I m K s := by
  obtain ⟨p, of, g1, g2⟩ := ac_at (hM.sub P.sub) hi
  have w1 : (acR M[i])[1]? = some (.int .i64 M[i].2.1) := rfl
  have w2 : (acR M[i])[2]? = some (.bool M[i].2.2) := rfl
  have r1 := g2 1 (by omega)
  have r2 := g2 2 (by omega)
  rw [w1] at r1; rw [w2] at r2
  simp only [vc_wld09_TopoScript_j4, boolK_true, g1, addOff_ptr, r1, r2, optK_mk]
  refine ⟨hideH s0 s, fun b hb => hide_some hb, ?_⟩
  have hgs : s0 g = none := P.gr.fg
  have z' := P.gr.rd.kb (hid_keep (s0 := s0)) (fun h => h hgs) fun b o n c e hne hb => hb (P.gr.fl b o n c e hne)
  have fin : ∀ (F : Heap) (e : Int) (lu1 : Nat → Bool), GRd false F g lvg N L lu1 nu → RG s0 F o lv nv kv N L (upsB N nu) (upsB L.length lu) → Sub s0 F → ((e = 2 ∧ ¬ (0 ≤ M[i].2.1 ∧ M[i].2.1 < L.length) ∧ lu1 = lu) ∨ (e = 0 ∧ (0 ≤ M[i].2.1 ∧ M[i].2.1 < L.length) ∧ lu1 = upd1 lu M[i].2.1.toNat M[i].2.2)) →
      optK (iaddrS 3 av (.int .i64 (i : Int))) fun v_39 =>
      optK (addOff 1 v_39) fun v_40 =>
      optK (rd1 (cutH [(hideH s0 s, fullH)] F) v_40) fun v_41 =>
      optK (iaddrS 3 av (.int .i64 (i : Int))) fun v_42 =>
      optK (addOff 2 v_42) fun v_43 =>
      optK (rd1 (cutH [(hideH s0 s, fullH)] F) v_43) fun v_44 =>
      wpCall Try.prog XX 34 [.ptr o 0, v_41, v_44] (fun v_45 s_46 => vc_wld09_TopoScript_j5 XX (.ptr g 0) (.ptr o 0) (.int .i64 (i : Int)) (.int .i64 e) v_45 I m K s_46) F := by
    intro F e lu1 zg zw subF he
    obtain ⟨p, of, g1, g2⟩ := ac_at (hM.sub (cut_hid P.sub subF)) hi
    have r1 := g2 1 (by omega)
    have r2 := g2 2 (by omega)
    rw [w1] at r1; rw [w2] at r2
    simp only [g1, addOff_ptr, r1, r2, optK_mk]
    refine rSetLink_in zw (fun hx => ?_) fun hx s' b n c ekv hb0 ⟨mm, hbc⟩ u zw' => ?_
    · rcases he with ⟨rfl, _, rfl⟩ | ⟨_, h, _⟩
      · exact j5_in ⟨⟨zg, hgs, P.gr.fl, P.gr.ap⟩, zw, subF, P.nx⟩ hi2 fun s' P' => hK s' _ P'
      · exact absurd h hx
    · rcases he with ⟨_, h, _⟩ | ⟨rfl, _, rfl⟩
      · exact absurd hx h
      · obtain ⟨cs, hgc⟩ := zg.hd
        refine j5_in ⟨⟨zg.kb (u.keep (fp := fun i => i = b) rfl) (by rintro rfl; rw [hgc] at hbc; cases hbc) fun b2 o2 n2 c2 e2 hne h => (P.nx b2 o2 n2 c2 e2 hne).2 _ _ _ _ ekv h.symm, hgs, P.gr.fl, P.gr.ap⟩, zw', subF.upto u hb0, P.nx⟩ hi2 fun s' P' => hK s' _ P'
  refine SetLink_in z' P.gr.ap (fun hx _ => ?_) fun s38 hx z38 u38 guard => ?_
  · rw [rest_self hid_sub]
    have t := fin s 2 lu P.gr.rd P.rg P.sub (.inl ⟨rfl, hx, rfl⟩)
    simp only [g1, addOff_ptr, optK_mk] at t
    exact t
  · have k := rest_keep hid_sub (u38.keep (fp := fun b => b = g) rfl) guard
    have sF : Sub s38 (add s38 (rest s (minus s (hideH s0 s)))) := sub_add
    obtain ⟨cs, hgc⟩ := P.gr.rd.hd
    have t := fin _ 0 _ (z38.sub sF) (P.rg.kg k hgc) (fun b x hb => k b x (P.sub b x hb) (ne_of_some hgs hb)) (.inr ⟨rfl, hx, rfl⟩)
    simp only [g1, addOff_ptr, optK_mk] at t
    exact t
theorem stepN {M : List Ac} {av : AVal} {i m : Nat} {a12 b13 : AVal} {I : List AVal → Heap → Nat → Prop} (P : Pr s0 s g lvg o lv nv kv N L lu nu) (hM : SlR 3 s0 av (M.map acR)) (hi : i < M.length) (hi2 : i < 60)
    (hK : ∀ s' nu', Pr s0 s' g lvg o lv nv kv N L lu nu' → ∃ m', m' < m ∧ I [.ptr g 0, .ptr o 0, .int .i64 ((i + 1 : Nat) : Int)] s' m') :
    vc_wld09_TopoScript_j4 XX av (.ptr g 0) (.ptr o 0) (.int .i64 (i : Int)) a12 b13 (.int .i64 2) (.bool false) I m K s := by
  obtain ⟨p, of, g1, g2⟩ := ac_at (hM.sub P.sub) hi
  have w1 : (acR M[i])[1]? = some (.int .i64 M[i].2.1) := rfl
  have w2 : (acR M[i])[2]? = some (.bool M[i].2.2) := rfl
  have r1 := g2 1 (by omega)
  have r2 := g2 2 (by omega)
  rw [w1] at r1; rw [w2] at r2
  simp only [vc_wld09_TopoScript_j4, boolK_false, eqV_int, negB_mk, beq_self_eq_true, Bool.false_bne, boolK_true, g1, addOff_ptr, r1, r2, optK_mk]
  refine ⟨hideH s0 s, fun b hb => hide_some hb, ?_⟩
  have hgs : s0 g = none := P.gr.fg
  have z' := P.gr.rd.kb (hid_keep (s0 := s0)) (fun h => h hgs) fun b o n c e hne hb => hb (P.gr.fl b o n c e hne)
  have fin : ∀ (F : Heap) (e : Int) (nu1 : Nat → Bool), GRd false F g lvg N L lu nu1 → RG s0 F o lv nv kv N L (upsB N nu) (upsB L.length lu) → Sub s0 F → ((e = 2 ∧ ¬ (0 ≤ M[i].2.1 ∧ M[i].2.1 < N) ∧ nu1 = nu) ∨ (e = 0 ∧ (0 ≤ M[i].2.1 ∧ M[i].2.1 < N) ∧ nu1 = upd1 nu M[i].2.1.toNat M[i].2.2)) →
      optK (iaddrS 3 av (.int .i64 (i : Int))) fun v_39 =>
      optK (addOff 1 v_39) fun v_40 =>
      optK (rd1 (cutH [(hideH s0 s, fullH)] F) v_40) fun v_41 =>
      optK (iaddrS 3 av (.int .i64 (i : Int))) fun v_42 =>
      optK (addOff 2 v_42) fun v_43 =>
      optK (rd1 (cutH [(hideH s0 s, fullH)] F) v_43) fun v_44 =>
      wpCall Try.prog XX 35 [.ptr o 0, v_41, v_44] (fun v_45 s_46 => vc_wld09_TopoScript_j5 XX (.ptr g 0) (.ptr o 0) (.int .i64 (i : Int)) (.int .i64 e) v_45 I m K s_46) F := by
    intro F e nu1 zg zw subF he
    obtain ⟨p, of, g1, g2⟩ := ac_at (hM.sub (cut_hid P.sub subF)) hi
    have r1 := g2 1 (by omega)
    have r2 := g2 2 (by omega)
    rw [w1] at r1; rw [w2] at r2
    simp only [g1, addOff_ptr, r1, r2, optK_mk]
    refine rSetNode_in zw (fun hx => ?_) fun hx s' b n c ekv hb0 ⟨mm, hbc⟩ u zw' => ?_
    · rcases he with ⟨rfl, _, rfl⟩ | ⟨_, h, _⟩
      · exact j5_in ⟨⟨zg, hgs, P.gr.fl, P.gr.ap⟩, zw, subF, P.nx⟩ hi2 fun s' P' => hK s' _ P'
      · exact absurd h hx
    · rcases he with ⟨_, h, _⟩ | ⟨rfl, _, rfl⟩
      · exact absurd hx h
      · obtain ⟨cs, hgc⟩ := zg.hd
        refine j5_in ⟨⟨zg.kb (u.keep (fp := fun i => i = b) rfl) (by rintro rfl; rw [hgc] at hbc; cases hbc) fun b2 o2 n2 c2 e2 hne h => (P.nx b2 o2 n2 c2 e2 hne).1 _ _ _ _ ekv h.symm, hgs, P.gr.fl, P.gr.ap⟩, zw', subF.upto u hb0, P.nx⟩ hi2 fun s' P' => hK s' _ P'
  refine SetNode_in z' P.gr.ap (fun hx _ => ?_) fun s38 hx z38 u38 guard => ?_
  · rw [rest_self hid_sub]
    have t := fin s 2 nu P.gr.rd P.rg P.sub (.inl ⟨rfl, hx, rfl⟩)
    simp only [g1, addOff_ptr, optK_mk] at t
    exact t
  · have k := rest_keep hid_sub (u38.keep (fp := fun b => b = g) rfl) guard
    have sF : Sub s38 (add s38 (rest s (minus s (hideH s0 s)))) := sub_add
    obtain ⟨cs, hgc⟩ := P.gr.rd.hd
    have t := fin _ 0 _ (z38.sub sF) (P.rg.kg k hgc) (fun b x hb => k b x (P.sub b x hb) (ne_of_some hgs hb)) (.inr ⟨rfl, hx, rfl⟩)
    simp only [g1, addOff_ptr, optK_mk] at t
    exact t
theorem stepC {av : AVal} {i m : Nat} {r : Int} {I : List AVal → Heap → Nat → Prop} (P : Pr s0 s g lvg o lv nv kv N L lu nu) (hi2 : i < 60) (hr : r ≠ 2)
    (hK : ∀ s' g' lvg' o' lv' nv' kv', Pr s0 s' g' lvg' o' lv' nv' kv' N L lu nu → ∃ m', m' < m ∧ I [.ptr g' 0, .ptr o' 0, .int .i64 ((i + 1 : Nat) : Int)] s' m') :
    vc_wld09_TopoScript_j4 XX av (.ptr g 0) (.ptr o 0) (.int .i64 (i : Int)) (.int .i64 0) (.int .i64 0) (.int .i64 r) (.bool false) I m K s := by
  simp only [vc_wld09_TopoScript_j4, boolK_false, eqV_int, negB_mk, beq_eq_false_iff_ne.2 hr, Bool.false_bne, optK_mk]
  obtain ⟨cs, hgc⟩ := P.gr.rd.hd
  refine Copy_in P.gr.rd fun s1 c lvc sub1 zc => ?_
  have w1 := (P.rg.to sub1).rd P.gr.rd.lok rfl rfl
  refine rCopy_in w1 fun s2 o' lv' nv' kv' sub2 zw => ?_
  have sub12 := sub1.trans sub2
  have z2 := P.gr.rd.sub sub12
  refine Alive_in z2 ?_
  simp only [unary_not, optK_mk]
  have hgc1 := sub1 _ _ hgc
  have fin : ∀ s5, KeepBut (fun b => b = g) s2 s5 → vc_wld09_TopoScript_j5 XX (.ptr c 0) (.ptr o' 0) (.int .i64 (i : Int)) (.int .i64 0) (.int .i64 0) I m K s5 := fun s5 k => by
    refine j5_in (Pr.new (P.sub.trans sub1) (zc.old P.sub) zw sub2 k (fun i hi => ?_) (fun e => ?_) fun b o1 n1 c1 e hne eb => ?_) hi2 fun s' P' => hK s' _ _ _ _ _ _ P'
    · have hi : i = g := hi
      rw [hi, hgc1]
      exact ⟨Option.some_ne_none _, P.gr.fg⟩
    · have e : c = g := e
      have := zc.fg
      rw [e, hgc] at this; cases this
    · have eb : b = g := eb
      have := zc.fl b o1 n1 c1 e hne
      rw [eb, hgc] at this; cases this
  refine SetNode_in z2 P.gr.ap (fun _ => ?_) fun s3 _ z3 u3 => ?_
  · refine Up_in z2 fun s4 sub4 => ?_
    simp only [unary_not, optK_mk]
    refine SetLink_in (z2.sub sub4) P.gr.ap (fun _ => fin s4 sub4.keep) fun s5 _ _ u5 => fin s5 (sub4.keep.trans (u5.keep (fp := fun b => b = g) rfl))
  · refine Up_in z3 fun s4 sub4 => ?_
    simp only [unary_not, optK_mk]
    refine SetLink_in (z3.sub sub4) P.gr.ap (fun _ => fin s4 ((u3.keep (fp := fun b => b = g) rfl).trans sub4.keep)) fun s5 _ _ u5 => fin s5 (((u3.keep (fp := fun b => b = g) rfl).trans sub4.keep).trans (u5.keep (fp := fun b => b = g) rfl))
theorem Script_in {av : AVal} {M : List Ac} (hs : SlR 3 s lv (L.map lkR)) (hM : SlR 3 s av (M.map acR)) : wpCall Try.prog XX 8 [.int .i64 n, lv, av] (fun v _ => v = .bool true) s := by
  refine vc_wld09_TopoScript_in ?_
  simp only [vc_wld09_TopoScript, hs.len, List.length_map, arith_gtr, optK_mk]
  by_cases hL : 60 < L.length
  · simp only [decide_eq_true (show (60 : Int) < L.length by omega), boolK_true, vc_wld09_TopoScript_j0, pickV_true, optK_mk]
    exact wp_closedS rfl rfl rfl
  simp only [decide_eq_false (show ¬ (60 : Int) < L.length by omega), boolK_false, hM.len, List.length_map, arith_gtr, vc_wld09_TopoScript_j0, pickV_false, optK_mk]
  by_cases hMl : 60 < M.length
  · simp only [decide_eq_true (show (60 : Int) < M.length by omega), boolK_true]
    exact wp_closedS rfl rfl rfl
  simp only [decide_eq_false (show ¬ (60 : Int) < M.length by omega), boolK_false]
  refine New_in hs (by omega) (fun he s1 sub1 => ?_) fun he N hN s1 g lvg sub1 zg => ?_
  · refine rNew_in (hs.sub sub1) (by omega) (fun _ s2 sub2 => ?_) fun he2 => absurd he2 he
    simp only [extract0, extract1, optK_mk, eqV_int, eqV_nilptr, eqV_bool, negB_mk, beq_self_eq_true, Bool.true_bne, Bool.false_bne, Bool.not_true, boolK_false, vc_wld09_TopoScript_j1, pickV_false]
    refine ⟨fun ys s3 m => ys = [.nilptr, .nilptr, .int .i64 0], ⟨0, rfl⟩, ?_⟩
    rintro f s3 m hy
    simp only [List.cons.injEq, and_true] at hy
    rw [hy.1, hy.2.1, hy.2.2]
    simp only [vc_wld09_TopoScript_l2, eqV_nilptr, negB_mk, Bool.true_bne, Bool.not_true, boolK_false, vc_wld09_TopoScript_j3, pickV_false, optK_mk]
    exact wp_closedS rfl rfl rfl
  · subst hN
    refine rNew_in (hs.sub sub1) (by omega) (fun he2 => absurd he he2) fun _ N' hN' s2 o lv' nv kv sub2 zw => ?_
    obtain rfl : N = N' := by omega
    simp only [extract0, extract1, optK_mk, eqV_int, eqV_nilptr, eqV_ptr, eqV_bool, negB_mk, beq_self_eq_true, Bool.true_bne, Bool.false_bne, Bool.not_true, boolK_false, vc_wld09_TopoScript_j1, pickV_false]
    rw [rep_ups, rep_ups] at zw
    have P0 : Pr s s2 g lvg o lv' nv kv N L (fun j => decide (j < L.length)) (fun j => decide (j < N)) := Pr.new (fp := fun _ => False) sub1 zg zw sub2 (fun _ _ h _ => h) (fun _ h => h.elim) (fun h => h) fun _ _ _ _ _ _ h => h
    refine ⟨fun ys s3 m => ∃ (g : Nat) (lvg : AVal) (o : Nat) (lv nv kv : AVal) (lu nu : Nat → Bool) (i : Nat), ys = [.ptr g 0, .ptr o 0, .int .i64 i] ∧ i ≤ M.length ∧ m = M.length - i ∧ Pr s s3 g lvg o lv nv kv N L lu nu, ⟨_, g, lvg, o, lv', nv, kv, _, _, 0, rfl, by omega, rfl, P0⟩, ?_⟩
    rintro f s3 m ⟨g, lvg, o, lv, nv, kv, lu, nu, i, hy, hi, rfl, P⟩
    simp only [List.cons.injEq, and_true] at hy
    rw [hy.1, hy.2.1, hy.2.2]
    have hM3 := hM.sub P.sub
    simp only [vc_wld09_TopoScript_l2, eqV_ptr, negB_mk, Bool.true_bne, Bool.not_false, boolK_true, hM3.len, List.length_map, arith_lss, vc_wld09_TopoScript_j3, pickV_true, optK_mk]
    refine boolK_mk (fun hlt => ?_) (fun _ => wp_closedS rfl rfl rfl)
    have hlt : i < M.length := by have := of_decide_eq_true hlt; omega
    obtain ⟨p, of, g1, g2⟩ := ac_at hM3 hlt
    have w0 : (acR M[i])[0]? = some (.int .i64 M[i].1) := rfl
    have r0 := g2 0 (by omega)
    rw [w0] at r0
    simp only [g1, addOff_ptr, r0, optK_mk]
    refine Pick_in (n := 4) ⟨by omega, by omega⟩ fun r hr => ?_
    rcases (show r = 0 ∨ r = 1 ∨ r = 2 ∨ r = 3 by omega) with rfl | rfl | rfl | rfl
    · simp only [eqV_int, negB_mk, Bool.false_bne, optK_mk, show (((0 : Nat) : Int) == 0) = true from rfl, boolK_true]
      exact stepL (a12 := .int .i64 0) (b13 := .int .i64 0) (t61 := .int .i64 ((0 : Nat) : Int)) P hM hlt (by omega) fun s' lu' P' => ⟨M.length - (i + 1), by omega, g, lvg, o, lv, nv, kv, lu', nu, i + 1, rfl, by omega, rfl, P'⟩
    · simp only [eqV_int, negB_mk, Bool.false_bne, optK_mk, show (((1 : Nat) : Int) == 0) = false from rfl, show (((1 : Nat) : Int) == 1) = true from rfl, boolK_false]
      exact stepL (a12 := .int .i64 0) (b13 := .int .i64 0) (t61 := .int .i64 ((1 : Nat) : Int)) P hM hlt (by omega) fun s' lu' P' => ⟨M.length - (i + 1), by omega, g, lvg, o, lv, nv, kv, lu', nu, i + 1, rfl, by omega, rfl, P'⟩
    · simp only [eqV_int, negB_mk, Bool.false_bne, optK_mk, show (((2 : Nat) : Int) == 0) = false from rfl, show (((2 : Nat) : Int) == 1) = false from rfl, boolK_false]
      exact stepN (a12 := .int .i64 0) (b13 := .int .i64 0) P hM hlt (by omega) fun s' nu' P' => ⟨M.length - (i + 1), by omega, g, lvg, o, lv, nv, kv, lu, nu', i + 1, rfl, by omega, rfl, P'⟩
    · simp only [eqV_int, negB_mk, Bool.false_bne, optK_mk, show (((3 : Nat) : Int) == 0) = false from rfl, show (((3 : Nat) : Int) == 1) = false from rfl, boolK_false]
      exact stepC P (by omega) (by decide) fun s' g' lvg' o' lv' nv' kv' P' => ⟨M.length - (i + 1), by omega, g', lvg', o', lv', nv', kv', lu, nu, i + 1, rfl, by omega, rfl, P'⟩
set_option maxRecDepth 100000 in
theorem Script_wp (s : Heap) (xs : List AVal) (h : ArgL Try.prog s 40 [3, 22, 65] xs) : wpCall Try.prog XX 8 xs (fun v _ => v = .bool true) s := by
  obtain ⟨a, p, q, rfl, h1, h2, h3⟩ := argl3 h
  obtain ⟨n, rfl, _⟩ := arg_int (d := 39) Try.underlying3 h1
  obtain ⟨L, hL, _⟩ := arg_ls (d := 37) h2
  obtain ⟨M, hM, _⟩ := arg_as (d := 37) h3
  exact Script_in hL hM
end Go.AM
