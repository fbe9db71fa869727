/- Part C of a calculus over a small memory that is proved to answer as the program does, and of its use for the functions that the law reaches: see the last part. -/
import Derived.Test.YtboddampdcalfaaV
namespace Go.AM
open Go Go.Proofs
variable {K : AVal → Heap → Prop} {s : Heap}
/-! ### lists of numbers -/
abbrev Sli (s : Heap) (v : AVal) (l : List Int) : Prop := Sl s v (l.map (AVal.int .i64))
theorem sli_at {v : AVal} {l : List Int} (h : Sli s v l) {k : Nat} (hk : k < l.length) : ∃ p, iaddrS 1 v (.int .i64 (k : Int)) = some p ∧ rd1 s p = some (.int .i64 l[k]) := by
  obtain ⟨p, h1, h2⟩ := h.get (i := k) (by simpa using hk)
  exact ⟨p, h1, by rw [h2]; simp [hk]⟩
theorem isNaN_in {x : Int} (hK : K (.bool false) s) : wpCall Try.prog XX 63 [.int .i64 x] K s := by
  refine vc_cmp_isNaN_int__in ?_
  simp only [vc_cmp_isNaN_int_, eqV_int, beq_self_eq_true, negB_mk, optK_mk, bne_self_eq_false]
  exact hK
def cmpI (x y : Int) : Int := if x < y then -1 else if y < x then 1 else 0
theorem cmpI_in {x y : Int} (hK : K (.int .i64 (cmpI x y)) s) : wpCall Try.prog XX 48 [.int .i64 x, .int .i64 y] K s := by
  refine vc_cmp_Compare_int__in (isNaN_in (isNaN_in ?_))
  simp only [boolK_false, arith_lss, arith_gtr, optK_mk]
  unfold cmpI at hK
  refine boolK_mk (fun h => ?_) (fun h => ?_)
  · rw [if_pos (of_decide_eq_true h)] at hK; exact hK
  · rw [if_neg (of_decide_eq_false h)] at hK
    refine boolK_mk (fun h2 => ?_) fun h2 => ?_
    · rw [if_pos (of_decide_eq_true h2)] at hK; exact hK
    · rw [if_neg (of_decide_eq_false h2)] at hK; exact hK
def cmpL : List Int → List Int → Int
  | [], [] => 0
  | [], _ :: _ => -1
  | _ :: _, [] => 1
  | x :: a, y :: b => if x < y then -1 else if y < x then 1 else cmpL a b
theorem cmpL_cons (x y : Int) (a b : List Int) : cmpL (x :: a) (y :: b) = if x < y then -1 else if y < x then 1 else cmpL a b := rfl
theorem cmpL_some (x : Int) (a : List Int) : cmpL (x :: a) [] = 1 := rfl
theorem cmpL_nil (b : List Int) : cmpL [] b = if 0 < b.length then -1 else 0 := by cases b <;> simp [cmpL]
theorem sCompare_in {v v' : AVal} {l m : List Int} (h : Sli s v l) (h' : Sli s v' m) (hl : l.length ≤ 1000000) (hK : K (.int .i64 (cmpL l m)) s) : wpCall Try.prog XX 49 [v, v'] K s := by
  refine vc_slices_Compare___int_int__in ?_
  simp only [vc_slices_Compare___int_int_, h.len, optK_mk, List.length_map]
  refine ⟨fun ys s1 n => ∃ k : Nat, ys = [.int .i64 k] ∧ s1 = s ∧ k ≤ l.length ∧ n = l.length - k ∧ cmpL l m = cmpL (l.drop k) (m.drop k), ⟨_, 0, rfl, rfl, by omega, rfl, by simp⟩, ?_⟩
  rintro f s1 n ⟨k, hy, rfl, hk, rfl, he⟩
  simp only [List.cons.injEq, and_true] at hy
  rw [hy]
  simp only [vc_slices_Compare___int_int__l0, h.len, h'.len, optK_mk, arith_lss, arith_geq, List.length_map]
  refine boolK_mk (fun hlt => ?_) (fun hge => ?_)
  · have hlt : k < l.length := by simpa using hlt
    obtain ⟨p, g1, g2⟩ := sli_at h hlt
    simp only [g1, g2, optK_mk]
    rw [List.drop_eq_getElem_cons hlt] at he
    refine boolK_mk (fun hm => ?_) (fun hm => ?_)
    · have hm : m.length ≤ k := by simpa using hm
      rw [List.drop_eq_nil_of_le hm] at he
      rw [he] at hK; exact hK
    · have hm : k < m.length := by simpa using hm
      obtain ⟨p', g3, g4⟩ := sli_at h' hm
      simp only [g3, g4, optK_mk]
      rw [List.drop_eq_getElem_cons hm] at he
      refine cmpI_in ?_
      simp only [eqV_int, negB_mk, optK_mk, Bool.true_bne]
      rw [cmpL_cons] at he
      unfold cmpI
      by_cases a1 : l[k] < m[k]
      · rw [if_pos a1] at he ⊢; rw [he] at hK
        refine boolK_mk (fun _ => hK) fun h => by simp at h
      · rw [if_neg a1] at he ⊢
        by_cases a2 : m[k] < l[k]
        · rw [if_pos a2] at he ⊢; rw [he] at hK
          refine boolK_mk (fun _ => hK) fun h => by simp at h
        · rw [if_neg a2] at he ⊢
          refine boolK_mk (fun h => by simp at h) fun _ => ?_
          simp only [arith_add, optK_mk]
          rw [wrap64 (by omega) (by omega)]
          exact ⟨_, by omega, k + 1, by simp, by trivial, by omega, rfl, he⟩
  · have hge : l.length ≤ k := by simpa using hge
    have hk' : k = l.length := by omega
    rw [List.drop_eq_nil_of_le hge, cmpL_nil] at he
    have : (m.drop k).length = m.length - k := List.length_drop
    refine boolK_mk (fun hlt => ?_) (fun hlt => ?_)
    · have hlt : l.length < m.length := by simpa using hlt
      rw [if_pos (by omega)] at he; rw [he] at hK; exact hK
    · have hlt : m.length ≤ l.length := by simpa using hlt
      rw [if_neg (by omega)] at he; rw [he] at hK; exact hK
theorem rCompare_in {v v' : AVal} {l m : List Int} (h : Sli s v l) (h' : Sli s v' m) (hl : l.length ≤ 1000000) (hK : K (.int .i64 (cmpL l m)) s) : wpCall Try.prog XX 50 [v, v'] K s := by
  refine vc_leafmeshref13_compare_in ?_
  refine ⟨fun ys s1 n => ∃ k : Nat, ys = [.int .i64 k] ∧ s1 = s ∧ k ≤ l.length ∧ k ≤ m.length ∧ n = l.length - k ∧ cmpL l m = cmpL (l.drop k) (m.drop k), ⟨_, 0, rfl, rfl, by omega, by omega, rfl, by simp⟩, ?_⟩
  rintro f s1 n ⟨k, hy, rfl, hk, hkm, rfl, he⟩
  simp only [List.cons.injEq, and_true] at hy
  rw [hy]
  simp only [vc_leafmeshref13_compare_l0, h.len, h'.len, optK_mk, arith_lss, arith_gtr, List.length_map, vc_leafmeshref13_compare_j1]
  refine boolK_mk (fun hlt => ?_) (fun hge => ?_)
  · rw [hlt]
    have hlt : k < l.length := by simpa using hlt
    rw [List.drop_eq_getElem_cons hlt] at he
    obtain ⟨p, g1, g2⟩ := sli_at h hlt
    simp only [pickV_true, optK_mk]
    refine boolK_mk (fun hm => ?_) (fun hm => ?_)
    · have hm : k < m.length := by simpa using hm
      obtain ⟨p', g3, g4⟩ := sli_at h' hm
      simp only [g1, g2, g3, g4, optK_mk, arith_lss, arith_gtr]
      rw [List.drop_eq_getElem_cons hm] at he
      rw [cmpL_cons] at he
      refine boolK_mk (fun a1 => ?_) (fun a1 => ?_)
      · rw [if_pos (of_decide_eq_true a1)] at he; rw [he] at hK; exact hK
      · rw [if_neg (of_decide_eq_false a1)] at he
        refine boolK_mk (fun a2 => ?_) (fun a2 => ?_)
        · rw [if_pos (of_decide_eq_true a2)] at he; rw [he] at hK; exact hK
        · rw [if_neg (of_decide_eq_false a2)] at he
          simp only [arith_add, optK_mk]
          rw [wrap64 (by omega) (by omega)]
          exact ⟨_, by omega, k + 1, by simp, by trivial, by omega, by omega, rfl, he⟩
    · have hm : m.length ≤ k := by simpa using hm
      rw [List.drop_eq_nil_of_le hm] at he
      rw [cmpL_some] at he
      rw [he] at hK
      have e1 : ¬ l.length < m.length := by omega
      have e2 : m.length < l.length := by omega
      refine boolK_mk (fun a => absurd (by simpa using a) e1) fun _ => boolK_mk (fun _ => hK) fun a => absurd e2 (by simpa using a)
  · rw [hge]
    have hge : l.length ≤ k := by simpa using hge
    have hk' : k = l.length := by omega
    rw [List.drop_eq_nil_of_le hge, cmpL_nil] at he
    have : (m.drop k).length = m.length - k := List.length_drop
    simp only [pickV_false, optK_mk, boolK_false]
    refine boolK_mk (fun hlt => ?_) (fun hlt => ?_)
    · have hlt : l.length < m.length := by simpa using hlt
      rw [if_pos (by omega)] at he; rw [he] at hK; exact hK
    · have hlt : m.length ≤ l.length := by simpa using hlt
      rw [if_neg (by omega)] at he; rw [he] at hK
      refine boolK_mk (fun a => ?_) fun _ => hK
      have : m.length < l.length := by simpa using a
      omega
/-! ### links -/
def chkL : Option Int → List Int → Int
  | _, [] => 0
  | p, x :: r => if x < 0 ∨ 128 ≤ x then 2 else if (p.any fun q => decide (x ≤ q)) = true then 10 else chkL (some x) r
def prevOf (l : List Int) (k : Nat) : Option Int := if k = 0 then none else l[k - 1]?
theorem chk_step {l : List Int} {k : Nat} (hk : k < l.length) : chkL (prevOf l k) (l.drop k) = if l[k] < 0 ∨ 128 ≤ l[k] then 2 else if ((prevOf l k).any fun q => decide (l[k] ≤ q)) = true then 10 else chkL (prevOf l (k + 1)) (l.drop (k + 1)) := by
  rw [List.drop_eq_getElem_cons hk]
  conv => lhs; unfold chkL
  have : prevOf l (k + 1) = some l[k] := by unfold prevOf; rw [if_neg (by omega)]; simp [hk]
  rw [this]
theorem checkLinks_in {v : AVal} {l : List Int} (h : Sli s v l) (hl : l.length ≤ 1000000) (hK : K (.int .i64 (chkL none l)) s) : wpCall Try.prog XX 45 [v] K s := by
  refine vc_lsdb_checkLinks_in ?_
  simp only [vc_lsdb_checkLinks, h.len, optK_mk, List.length_map]
  refine ⟨fun ys s1 n => ∃ k : Nat, ys = [.int .i64 k] ∧ s1 = s ∧ k ≤ l.length ∧ n = l.length - k ∧ chkL none l = chkL (prevOf l k) (l.drop k), ⟨_, 0, rfl, rfl, by omega, rfl, by simp [prevOf]⟩, ?_⟩
  rintro f s1 n ⟨k, hy, rfl, hk, rfl, he⟩
  simp only [List.cons.injEq, and_true] at hy
  rw [hy]
  simp only [vc_lsdb_checkLinks_l0, optK_mk, arith_lss]
  refine boolK_mk (fun hlt => ?_) (fun hge => ?_)
  · have hlt : k < l.length := by simpa using hlt
    obtain ⟨p, g1, g2⟩ := sli_at h hlt
    rw [chk_step hlt] at he
    simp only [g1, g2, optK_mk, arith_lss, arith_geq, vc_lsdb_checkLinks_j1, arith_gtr, arith_sub]
    have key : ¬ (l[k] < 0 ∨ 128 ≤ l[k]) → boolK (.bool (decide ((0:Int) < k)))
         (optK (iaddrS 1 v (.int .i64 (IntKind.i64.wrap ((k:Int) - 1)))) fun v_11 =>
          optK (rd1 s1 v_11) fun v_12 =>
          optK (arithV .leq (.int .i64 l[k]) v_12) fun v_13 =>
          vc_lsdb_checkLinks_j2 XX (.int .i64 k) (.bool (decide ((0:Int) < k))) v_13 (fun ys s1_1 n => ∃ k : Nat, ys = [.int .i64 k] ∧ s1_1 = s1 ∧ k ≤ l.length ∧ n = l.length - k ∧ chkL none l = chkL (prevOf l k) (l.drop k)) (l.length - k) K s1)
         (vc_lsdb_checkLinks_j2 XX (.int .i64 k) (.bool (decide ((0:Int) < k))) .undef (fun ys s1_1 n => ∃ k : Nat, ys = [.int .i64 k] ∧ s1_1 = s1 ∧ k ≤ l.length ∧ n = l.length - k ∧ chkL none l = chkL (prevOf l k) (l.drop k)) (l.length - k) K s1) := by
      intro hn
      rw [if_neg hn] at he
      have fin : chkL none l = chkL (prevOf l (k + 1)) (l.drop (k + 1)) → optK (arithV .add (.int .i64 k) (.int .i64 1)) fun v_9 => ∃ m', m' < l.length - k ∧ (∃ k : Nat, [v_9] = [AVal.int .i64 k] ∧ True ∧ k ≤ l.length ∧ m' = l.length - k ∧ chkL none l = chkL (prevOf l k) (l.drop k)) := by
        intro he
        simp only [arith_add, optK_mk]
        rw [wrap64 (by omega) (by omega)]
        exact ⟨_, by omega, k + 1, by simp, by trivial, by omega, rfl, he⟩
      refine boolK_mk (fun hp => ?_) (fun hp => ?_)
      · rw [hp]
        have hp : 0 < k := by simpa using hp
        obtain ⟨q, g3, g4⟩ := sli_at h (k := k - 1) (by omega)
        have e1 : IntKind.i64.wrap ((k:Int) - 1) = ((k - 1 : Nat) : Int) := by rw [wrap64 (by omega) (by omega)]; omega
        rw [e1]
        have e2 : prevOf l k = some (l[k - 1]'(by omega)) := by unfold prevOf; rw [if_neg (by omega)]; simp [show k - 1 < l.length by omega]
        rw [e2] at he
        simp only [Option.any_some] at he
        simp only [g3, g4, optK_mk, arith_leq, vc_lsdb_checkLinks_j2, pickV_true]
        refine boolK_mk (fun hc => ?_) (fun hc => ?_)
        · rw [if_pos hc] at he; rw [he] at hK; exact hK
        · rw [if_neg (by rw [hc]; simp)] at he
          exact fin he
      · rw [hp]
        have hp : k = 0 := by simpa using hp
        have e2 : prevOf l k = none := by unfold prevOf; rw [if_pos hp]
        rw [e2] at he
        simp only [Option.any_none, Bool.false_eq_true, if_false] at he
        simp only [vc_lsdb_checkLinks_j2, pickV_false, optK_mk, boolK_false]
        exact fin he
    refine boolK_mk (fun hc => ?_) (fun hc => ?_)
    · rw [hc]
      rw [if_pos (.inl (of_decide_eq_true hc))] at he; rw [he] at hK
      simp only [pickV_true, optK_mk, boolK_true]; exact hK
    · rw [hc]
      simp only [pickV_false, optK_mk]
      refine boolK_mk (fun hd => ?_) (fun hd => ?_)
      · rw [if_pos (.inr (of_decide_eq_true hd))] at he; rw [he] at hK; exact hK
      · exact key (by rintro (q | q); exact of_decide_eq_false hc q; exact of_decide_eq_false hd q)
  · have hge : l.length ≤ k := by simpa using hge
    rw [List.drop_eq_nil_of_le hge] at he
    rw [show chkL (prevOf l k) [] = 0 by unfold chkL; rfl] at he
    rw [he] at hK; exact hK
theorem rlinks_in {v : AVal} {l : List Int} (h : Sli s v l) (hl : l.length ≤ 1000000) (hK : K (.int .i64 (chkL none l)) s) : wpCall Try.prog XX 46 [v] K s := by
  refine vc_leafmeshref13_links_in ?_
  refine ⟨fun ys s1 n => ∃ k : Nat, ys = [.int .i64 k] ∧ s1 = s ∧ k ≤ l.length ∧ n = l.length - k ∧ chkL none l = chkL (prevOf l k) (l.drop k), ⟨_, 0, rfl, rfl, by omega, rfl, by simp [prevOf]⟩, ?_⟩
  rintro f s1 n ⟨k, hy, rfl, hk, rfl, he⟩
  simp only [List.cons.injEq, and_true] at hy
  rw [hy]
  simp only [vc_leafmeshref13_links_l0, optK_mk, arith_lss, h.len, List.length_map]
  refine boolK_mk (fun hlt => ?_) (fun hge => ?_)
  · have hlt : k < l.length := by simpa using hlt
    obtain ⟨p, g1, g2⟩ := sli_at h hlt
    rw [chk_step hlt] at he
    simp only [g1, g2, optK_mk, arith_lss, arith_geq, vc_leafmeshref13_links_j1, arith_gtr, arith_sub]
    have key : ¬ (l[k] < 0 ∨ 128 ≤ l[k]) → boolK (.bool (decide ((0:Int) < k)))
         (optK (iaddrS 1 v (.int .i64 (IntKind.i64.wrap ((k:Int) - 1)))) fun v_13 =>
          optK (rd1 s1 v_13) fun v_14 =>
          optK (arithV .leq (.int .i64 l[k]) v_14) fun v_15 =>
          vc_leafmeshref13_links_j2 XX (.int .i64 k) (.bool (decide ((0:Int) < k))) v_15 (fun ys s1_1 n => ∃ k : Nat, ys = [.int .i64 k] ∧ s1_1 = s1 ∧ k ≤ l.length ∧ n = l.length - k ∧ chkL none l = chkL (prevOf l k) (l.drop k)) (l.length - k) K s1)
         (vc_leafmeshref13_links_j2 XX (.int .i64 k) (.bool (decide ((0:Int) < k))) .undef (fun ys s1_1 n => ∃ k : Nat, ys = [.int .i64 k] ∧ s1_1 = s1 ∧ k ≤ l.length ∧ n = l.length - k ∧ chkL none l = chkL (prevOf l k) (l.drop k)) (l.length - k) K s1) := by
      intro hn
      rw [if_neg hn] at he
      have fin : chkL none l = chkL (prevOf l (k + 1)) (l.drop (k + 1)) → optK (arithV .add (.int .i64 k) (.int .i64 1)) fun v_9 => ∃ m', m' < l.length - k ∧ (∃ k : Nat, [v_9] = [AVal.int .i64 k] ∧ True ∧ k ≤ l.length ∧ m' = l.length - k ∧ chkL none l = chkL (prevOf l k) (l.drop k)) := by
        intro he
        simp only [arith_add, optK_mk]
        rw [wrap64 (by omega) (by omega)]
        exact ⟨_, by omega, k + 1, by simp, by trivial, by omega, rfl, he⟩
      refine boolK_mk (fun hp => ?_) (fun hp => ?_)
      · rw [hp]
        have hp : 0 < k := by simpa using hp
        obtain ⟨q, g3, g4⟩ := sli_at h (k := k - 1) (by omega)
        have e1 : IntKind.i64.wrap ((k:Int) - 1) = ((k - 1 : Nat) : Int) := by rw [wrap64 (by omega) (by omega)]; omega
        rw [e1]
        have e2 : prevOf l k = some (l[k - 1]'(by omega)) := by unfold prevOf; rw [if_neg (by omega)]; simp [show k - 1 < l.length by omega]
        rw [e2] at he
        simp only [Option.any_some] at he
        simp only [g3, g4, optK_mk, arith_leq, vc_leafmeshref13_links_j2, pickV_true]
        refine boolK_mk (fun hc => ?_) (fun hc => ?_)
        · rw [if_pos hc] at he; rw [he] at hK; exact hK
        · rw [if_neg (by rw [hc]; simp)] at he
          exact fin he
      · rw [hp]
        have hp : k = 0 := by simpa using hp
        have e2 : prevOf l k = none := by unfold prevOf; rw [if_pos hp]
        rw [e2] at he
        simp only [Option.any_none, Bool.false_eq_true, if_false] at he
        simp only [vc_leafmeshref13_links_j2, pickV_false, optK_mk, boolK_false]
        exact fin he
    refine boolK_mk (fun hc => ?_) (fun hc => ?_)
    · rw [hc]
      rw [if_pos (.inl (of_decide_eq_true hc))] at he; rw [he] at hK
      simp only [pickV_true, optK_mk, boolK_true]; exact hK
    · rw [hc]
      simp only [pickV_false, optK_mk]
      refine boolK_mk (fun hd => ?_) (fun hd => ?_)
      · rw [if_pos (.inr (of_decide_eq_true hd))] at he; rw [he] at hK; exact hK
      · exact key (by rintro (q | q); exact of_decide_eq_false hc q; exact of_decide_eq_false hd q)
  · have hge : l.length ≤ k := by simpa using hge
    rw [List.drop_eq_nil_of_le hge] at he
    rw [show chkL (prevOf l k) [] = 0 by unfold chkL; rfl] at he
    rw [he] at hK; exact hK
end Go.AM
namespace Go.AM
open Go Go.Proofs
variable {K : AVal → Heap → Prop} {s : Heap}
/-! ### records -/
theorem box3 {e : TypeId} {a b v : AVal} {K : AVal → Heap → Prop} (ha : a.one = true) (hb : b.one = true) (hv : v.one = true) (h : ∀ b0 s', s b0 = none → s' b0 = some (false, .cells e [a, b, v]) → Upto b0 s s' → K (.ptr b0 0) s') : boxK e (.agg [a, b, v]) K s :=
  ⟨by simp [ha, hb, hv], new_step h⟩
abbrev recV (n q : Int) (v : AVal) : AVal := .agg [.int .i64 n, .int .i64 q, v]
def chkR (nodes n q : Int) (l : List Int) : Int := if n < 0 ∨ nodes ≤ n ∨ q < 1 ∨ 1073741824 < q then 2 else chkL none l
theorem Check_in {nodes n q : Int} {v : AVal} {l : List Int} (h : Sli s v l) (hl : l.length ≤ 1000000) (hK : ∀ s', Sub s s' → K (.int .i64 (chkR nodes n q l)) s') : wpCall Try.prog XX 12 [.int .i64 nodes, recV n q v] K s := by
  refine vc_lsdb_Check_in (box3 rfl rfl h.one fun b s1 hb h1 u1 => ?_)
  have sub := u1.sub hb
  have fin2 : (n < 0 ∨ nodes ≤ n ∨ q < 1 ∨ 1073741824 < q) → K (.int .i64 2) s1 := fun hc => by
    have := hK s1 sub
    unfold chkR at this
    rwa [if_pos hc] at this
  have finC : ¬ (n < 0 ∨ nodes ≤ n ∨ q < 1 ∨ 1073741824 < q) → wpCall Try.prog XX 45 [v] (fun v s => K v s) s1 := fun hc => by
    refine checkLinks_in (h.sub sub) hl ?_
    have := hK s1 sub
    unfold chkR at this
    rwa [if_neg hc] at this
  simp only [addOff_ptr, optK_mk, rd1_mk h1, Nat.zero_add, List.getElem?_cons_zero, List.getElem?_cons_succ, arith_lss, arith_geq, arith_gtr, vc_lsdb_Check_j0, vc_lsdb_Check_j1, vc_lsdb_Check_j2]
  by_cases n0 : n < 0 <;> by_cases n1 : nodes ≤ n <;> by_cases n2 : q < 1 <;> by_cases n3 : 1073741824 < q <;> simp only [n0, n1, n2, n3, decide_true, decide_false, boolK_true, boolK_false, pickV_true, pickV_false, optK_mk] <;> first | exact fin2 (by omega) | exact finC (by omega)
theorem rCheck_in {nodes n q : Int} {v : AVal} {l : List Int} (h : Sli s v l) (hl : l.length ≤ 1000000) (hK : ∀ s', Sub s s' → K (.int .i64 (chkR nodes n q l)) s') : wpCall Try.prog XX 13 [.int .i64 nodes, recV n q v] K s := by
  refine vc_leafmeshref13_Check_in (box3 rfl rfl h.one fun b s1 hb h1 u1 => ?_)
  have sub := u1.sub hb
  have fin2 : (n < 0 ∨ nodes ≤ n ∨ q < 1 ∨ 1073741824 < q) → K (.int .i64 2) s1 := fun hc => by
    have := hK s1 sub
    unfold chkR at this
    rwa [if_pos hc] at this
  have finC : ¬ (n < 0 ∨ nodes ≤ n ∨ q < 1 ∨ 1073741824 < q) → wpCall Try.prog XX 46 [v] (fun v s => K v s) s1 := fun hc => by
    refine rlinks_in (h.sub sub) hl ?_
    have := hK s1 sub
    unfold chkR at this
    rwa [if_neg hc] at this
  simp only [addOff_ptr, optK_mk, rd1_mk h1, Nat.zero_add, List.getElem?_cons_zero, List.getElem?_cons_succ, arith_lss, arith_geq, arith_gtr, vc_leafmeshref13_Check_j0, vc_leafmeshref13_Check_j1, vc_leafmeshref13_Check_j2]
  by_cases n0 : n < 0 <;> by_cases n1 : nodes ≤ n <;> by_cases n2 : q < 1 <;> by_cases n3 : 1073741824 < q <;> simp only [n0, n1, n2, n3, decide_true, decide_false, boolK_true, boolK_false, pickV_true, pickV_false, optK_mk] <;> first | exact fin2 (by omega) | exact finC (by omega)
/-! ### comparing -/
def orL : List Int → Int
  | [] => 0
  | x :: r => if x ≠ 0 then x else orL r
theorem orL_cons (x : Int) (r : List Int) : orL (x :: r) = if x ≠ 0 then x else orL r := rfl
theorem Or_in {v : AVal} {l : List Int} (h : Sli s v l) (hl : l.length ≤ 1000000) (hK : K (.int .i64 (orL l)) s) : wpCall Try.prog XX 47 [v] K s := by
  refine vc_cmp_Or_int__in ?_
  simp only [vc_cmp_Or_int_, h.len, optK_mk, List.length_map]
  refine ⟨fun ys s1 n => ∃ k : Nat, ys = [.int .i64 k] ∧ s1 = s ∧ k ≤ l.length ∧ n = l.length - k ∧ orL l = orL (l.drop k), ⟨_, 0, rfl, rfl, by omega, rfl, by simp⟩, ?_⟩
  rintro f s1 n ⟨k, hy, rfl, hk, rfl, he⟩
  simp only [List.cons.injEq, and_true] at hy
  rw [hy]
  simp only [vc_cmp_Or_int__l0, optK_mk, arith_lss]
  refine boolK_mk (fun hlt => ?_) (fun hge => ?_)
  · have hlt : k < l.length := by simpa using hlt
    obtain ⟨p, g1, g2⟩ := sli_at h hlt
    rw [List.drop_eq_getElem_cons hlt] at he
    rw [orL_cons] at he
    simp only [g1, g2, optK_mk, eqV_int, negB_mk, Bool.true_bne]
    by_cases hz : l[k] = 0
    · rw [if_neg (by simpa using hz)] at he
      refine boolK_mk (fun h => by simp [hz] at h) fun _ => ?_
      simp only [arith_add, optK_mk]
      rw [wrap64 (by omega) (by omega)]
      exact ⟨_, by omega, k + 1, by simp, by trivial, by omega, rfl, he⟩
    · rw [if_pos hz] at he; rw [he] at hK
      refine boolK_mk (fun _ => hK) fun h => by simp [hz] at h
  · have hge : l.length ≤ k := by simpa using hge
    rw [List.drop_eq_nil_of_le hge] at he
    rw [he] at hK; exact hK
def cmpR (p q : Int) (l m : List Int) : Int := if p < q then -1 else if q < p then 1 else cmpL l m
theorem cmpR_or (p q : Int) (l m : List Int) : orL [cmpI p q, cmpL l m] = cmpR p q l m := by
  unfold cmpR cmpI
  by_cases h1 : p < q
  · simp [h1, orL]
  · by_cases h2 : q < p
    · simp [h1, h2, orL]
    · simp only [h1, h2, if_false, orL]
      by_cases h : cmpL l m = 0
      · simp [h]
      · simp [h]
theorem Compare_in {a b p q : Int} {v w : AVal} {l m : List Int} (h : Sli s v l) (h' : Sli s w m) (hl : l.length ≤ 1000000) (hK : ∀ s', Sub s s' → K (.int .i64 (cmpR p q l m)) s') : wpCall Try.prog XX 14 [recV a p v, recV b q w] K s := by
  refine vc_lsdb_Compare_in (box3 rfl rfl h.one fun b1 s1 hb1 h1 u1 => box3 rfl rfl h'.one fun b2 s2 hb2 h2 u2 => ?_)
  have sub1 := u1.sub hb1
  have sub2 := sub1.trans (u2.sub hb2)
  have h12 := u2.at h1 hb2
  simp only [addOff_ptr, optK_mk, rd1_mk h12, rd1_mk h2, Nat.zero_add, List.getElem?_cons_zero, List.getElem?_cons_succ]
  refine cmpI_in fun _ => ?_
  rw [add_frz, cut_refl]
  simp only [optK_mk, rd1_mk h12, rd1_mk h2, List.getElem?_cons_zero, List.getElem?_cons_succ]
  refine sCompare_in (h.sub sub2) (h'.sub sub2) hl ?_
  refine optK_of (a := [.int .i64 (cmpI p q), .int .i64 (cmpL l m)]) rfl ⟨rfl, new_step fun c s3 hc h3 u3 => ?_⟩
  refine Or_in (l := [cmpI p q, cmpL l m]) (Sl.mk h3 rfl (by simp)) (by simp) ?_
  rw [cmpR_or]
  exact hK _ (sub2.trans (u3.sub hc))
theorem rCompareR_in {a b p q : Int} {v w : AVal} {l m : List Int} (h : Sli s v l) (h' : Sli s w m) (hl : l.length ≤ 1000000) (hK : ∀ s', Sub s s' → K (.int .i64 (cmpR p q l m)) s') : wpCall Try.prog XX 15 [recV a p v, recV b q w] K s := by
  refine vc_leafmeshref13_Compare_in (box3 rfl rfl h.one fun b1 s1 hb1 h1 u1 => box3 rfl rfl h'.one fun b2 s2 hb2 h2 u2 => ?_)
  have sub1 := u1.sub hb1
  have sub2 := sub1.trans (u2.sub hb2)
  have h12 := u2.at h1 hb2
  have hk := hK _ sub2
  unfold cmpR at hk
  simp only [addOff_ptr, optK_mk, rd1_mk h12, rd1_mk h2, Nat.zero_add, List.getElem?_cons_zero, List.getElem?_cons_succ, arith_lss, arith_gtr]
  refine boolK_mk (fun a1 => ?_) (fun a1 => ?_)
  · rw [if_pos (of_decide_eq_true a1)] at hk; exact hk
  · rw [if_neg (of_decide_eq_false a1)] at hk
    refine boolK_mk (fun a2 => ?_) (fun a2 => ?_)
    · rw [if_pos (of_decide_eq_true a2)] at hk; exact hk
    · rw [if_neg (of_decide_eq_false a2)] at hk
      exact rCompare_in (h.sub sub2) (h'.sub sub2) hl hk
/-! ### helpers of the laws -/
theorem Own_in {v : AVal} {l : List Int} (h : Sli s v l) (hl : l.length ≤ 10000000) (hK : ∀ v' s', Sub s s' → Sli s' v' l → K v' s') : wpCall Try.prog XX 11 [v] K s := by
  refine vc_leafmeshkit_Own_int__in ?_
  refine optK_of (a := []) rfl ⟨rfl, new_step fun b s1 hb h1 u1 => ?_⟩
  refine app_copy (h.sub (u1.sub hb)) (by simp; omega) fun v' s2 sub2 g1 g2 => hK _ _ ((u1.sub hb).trans sub2) ?_
  by_cases hm : l.map (AVal.int .i64) = []
  · rw [g1 hm]
    unfold Sli; rw [hm]
    exact .inr ⟨b, 0, some 0, rfl, by simp, fun h => absurd rfl h⟩
  · obtain ⟨c, _, rfl, hc⟩ := g2 hm
    exact Sl.mk hc rfl (by simp)
theorem Same_in {v v' : AVal} {l m : List Int} (h : Sli s v l) (h' : Sli s v' m) (hl : l.length ≤ 10000000) (hK : K (.bool (l == m)) s) : wpCall Try.prog XX 34 [v, v'] K s := by
  refine vc_leafmeshkit_Same_int__in ?_
  simp only [vc_leafmeshkit_Same_int_, h.len, h'.len, optK_mk, eqV_int, negB_mk, List.length_map, Bool.true_bne]
  refine boolK_mk (fun hne => ?_) (fun heq => ?_)
  · have : (l == m) = false := by
      cases q : (l == m) with
      | false => rfl
      | true => rw [eq_of_beq q] at hne; simp at hne
    rw [← this]; exact hK
  · have hlm : l.length = m.length := by
      have : (l.length : Int) = m.length := by simpa using heq
      omega
    refine ⟨fun ys s1 n => ∃ k : Nat, ys = [.int .i64 k] ∧ s1 = s ∧ k ≤ l.length ∧ n = l.length - k ∧ (l == m) = (l.drop k == m.drop k), ⟨_, 0, rfl, rfl, by omega, rfl, by simp⟩, ?_⟩
    rintro f s1 n ⟨k, hy, rfl, hk, rfl, he⟩
    simp only [List.cons.injEq, and_true] at hy
    rw [hy]
    simp only [vc_leafmeshkit_Same_int__l0, h.len, optK_mk, arith_lss, List.length_map]
    refine boolK_mk (fun hlt => ?_) (fun hge => ?_)
    · have hlt : k < l.length := by simpa using hlt
      obtain ⟨p, g1, g2⟩ := sli_at h hlt
      obtain ⟨p', g3, g4⟩ := sli_at h' (k := k) (by omega)
      rw [List.drop_eq_getElem_cons hlt, List.drop_eq_getElem_cons (show k < m.length by omega), List.cons_beq_cons] at he
      simp only [g1, g2, g3, g4, optK_mk, eqV_int, negB_mk, Bool.true_bne]
      cases hq : (l[k] == m[k]) with
      | false =>
        rw [hq, Bool.false_and] at he; rw [he] at hK
        simp only [Bool.not_false, boolK_true]; exact hK
      | true =>
        rw [hq, Bool.true_and] at he
        simp only [Bool.not_true, boolK_false, arith_add, optK_mk]
        rw [wrap64 (by omega) (by omega)]
        exact ⟨_, by omega, k + 1, by simp, by trivial, by omega, rfl, he⟩
    · have hge : l.length ≤ k := by simpa using hge
      rw [List.drop_eq_nil_of_le hge, List.drop_eq_nil_of_le (by omega)] at he
      rw [he] at hK; exact hK
theorem equal_in {a b p q : Int} {v w : AVal} {l m : List Int} (h : Sli s v l) (h' : Sli s w m) (hl : l.length ≤ 1000000) (hK : ∀ s', Sub s s' → K (.bool (a == b && p == q && l == m)) s') : wpCall Try.prog XX 16 [recV a p v, recV b q w] K s := by
  refine vc_leafmeshlaw13_equal_in (box3 rfl rfl h.one fun b1 s1 hb1 h1 u1 => box3 rfl rfl h'.one fun b2 s2 hb2 h2 u2 => ?_)
  have sub1 := u1.sub hb1
  have sub2 := sub1.trans (u2.sub hb2)
  have h12 := u2.at h1 hb2
  have hk := hK _ sub2
  simp only [addOff_ptr, optK_mk, rd1_mk h12, rd1_mk h2, Nat.zero_add, List.getElem?_cons_zero, List.getElem?_cons_succ, eqV_int, negB_mk, Bool.false_bne]
  cases e1 : (a == b) with
  | false =>
    rw [e1] at hk
    simp only [boolK_false, vc_leafmeshlaw13_equal_j0, pickV_false, optK_mk, vc_leafmeshlaw13_equal_j1]
    simpa using hk
  | true =>
    rw [e1] at hk
    simp only [boolK_true, vc_leafmeshlaw13_equal_j0, pickV_true, optK_mk, vc_leafmeshlaw13_equal_j1]
    cases e2 : (p == q) with
    | false =>
      rw [e2] at hk
      simp only [boolK_false, pickV_false, optK_mk]
      simpa using hk
    | true =>
      rw [e2] at hk
      simp only [boolK_true, addOff_ptr, optK_mk, rd1_mk h12, rd1_mk h2, Nat.zero_add, List.getElem?_cons_zero, List.getElem?_cons_succ]
      refine Same_in (h.sub sub2) (h'.sub sub2) (by omega) ?_
      simp only [pickV_true, optK_mk]
      simpa using hk
end Go.AM
namespace Go.AM
open Go Go.Proofs
variable {K : AVal → Heap → Prop} {s s' s0 : Heap}
theorem Sub.upto {s s' s'' : Heap} {b : Nat} (h : Sub s s') (u : Upto b s' s'') (hb : s b = none) : Sub s s'' := fun i e hi => by rw [u i (ne_of_some hb hi)]; exact h i e hi
/-! ### assoc lists that stand for each other -/
inductive Pairs {A B : Type} (R : A → B → Prop) : List (Int × A) → List (Int × B) → Prop
  | nil : Pairs R [] []
  | cons {k : Int} {a : A} {b : B} {l : List (Int × A)} {F : List (Int × B)} (h : R a b) (t : Pairs R l F) : Pairs R ((k, a) :: l) ((k, b) :: F)
section
variable {A B : Type} {R R' : A → B → Prop} {l : List (Int × A)} {F : List (Int × B)}
theorem Pairs.look (h : Pairs R l F) (k : Int) : (AM.look l k = none ∧ AM.look F k = none) ∨ ∃ a b, AM.look l k = some a ∧ AM.look F k = some b ∧ R a b := by
  induction h with
  | nil => exact .inl ⟨rfl, rfl⟩
  | @cons k' a b l F h t ih =>
    rw [look_cons, look_cons]
    by_cases e : k' = k
    · rw [if_pos e, if_pos e]; exact .inr ⟨a, b, rfl, rfl, h⟩
    · rw [if_neg e, if_neg e]; exact ih
theorem Pairs.mono (h : Pairs R l F) (hm : ∀ a b, R a b → R' a b) : Pairs R' l F := by
  induction h with
  | nil => exact .nil
  | cons h t ih => exact .cons (hm _ _ h) ih
theorem Pairs.keys (h : Pairs R l F) : l.map (·.1) = F.map (·.1) := by
  induction h with
  | nil => rfl
  | cons h t ih => rw [List.map_cons, List.map_cons, ih]
theorem Pairs.app {k : Int} {a : A} {b : B} (h : Pairs R l F) (hr : R a b) : Pairs R (l ++ [(k, a)]) (F ++ [(k, b)]) := by
  induction h with
  | nil => exact .cons hr .nil
  | cons h t ih => exact .cons h ih
theorem Pairs.upd {k : Int} {a : A} {b : B} (h : Pairs R l F) (hr : R a b) : Pairs R (l.map fun p => if p.1 = k then (k, a) else p) (F.map fun p => if p.1 = k then (k, b) else p) := by
  induction h with
  | nil => exact .nil
  | @cons k' _ _ _ _ h t ih =>
    rw [List.map_cons, List.map_cons]
    by_cases e : k' = k
    · rw [if_pos e, if_pos e]; exact .cons hr ih
    · rw [if_neg e, if_neg e]; exact .cons h ih
theorem Pairs.stor {k : Int} {a : A} {b : B} (h : Pairs R l F) (hr : R a b) : Pairs R (AM.stor l k a) (AM.stor F k b) := by
  unfold AM.stor
  rcases h.look k with ⟨h1, h2⟩ | ⟨a', b', h1, h2, _⟩
  · rw [h1, h2]; exact h.app hr
  · rw [h1, h2]; exact h.upd hr
end
/-! ### a database in memory -/
abbrev Rec := Int × Int × List Int
def RelV (Fz : Nat → Prop) (s : Heap) (d m : Nat) (v : AVal) (r : Rec) : Prop := ∃ lv, v = recV r.1 r.2.1 lv ∧ Sli s lv r.2.2 ∧ ∀ b o n c, lv = .slc b o n c 1 → r.2.2 ≠ [] → ¬ Fz b ∧ b ≠ d ∧ b ≠ m
structure Db (Fz : Nat → Prop) (s : Heap) (d m : Nat) (nodes node last : Int) (F : List (Int × Rec)) : Prop where
  dc : s d = some (false, .cells 81 [.int .i64 nodes, .int .i64 node, .int .i64 last, .map m])
  mp : ∃ l, MapAt s m l ∧ Pairs (RelV Fz s d m) l F
  fd : ¬ Fz d
  fm : ¬ Fz m
  nn : 1 ≤ nodes ∧ nodes ≤ 32 ∧ 0 ≤ node ∧ node < nodes
  gd : ∀ k r, look F k = some r → r.1 = k ∧ (0 ≤ k ∧ k < nodes) ∧ r.2.2.length ≤ 100000
theorem Db.dm {Fz : Nat → Prop} {d m : Nat} {nodes node last : Int} {F : List (Int × Rec)} (z : Db Fz s d m nodes node last F) : d ≠ m := by
  rintro rfl
  obtain ⟨l, ⟨es, c, h, _⟩, _⟩ := z.mp
  rw [z.dc] at h; cases h
theorem Db.keep {Fz fp : Nat → Prop} {d m : Nat} {nodes node last : Int} {F : List (Int × Rec)} (z : Db Fz s d m nodes node last F) (k : KeepBut fp s s') (hf : ∀ i, fp i → Fz i) : Db Fz s' d m nodes node last F := by
  have nf : ∀ i, ¬ Fz i → ¬ fp i := fun i h q => h (hf i q)
  obtain ⟨l, ⟨es, c, h1, h2⟩, h3⟩ := z.mp
  exact ⟨k _ _ z.dc (nf _ z.fd), ⟨l, ⟨es, c, k _ _ h1 (nf _ z.fm), h2⟩, h3.mono fun a b ⟨lv, e, h4, h5⟩ => ⟨lv, e, h4.keep k fun b' o n c e' hne => nf _ (h5 b' o n c e' (by simpa using hne)).1, h5⟩⟩, z.fd, z.fm, z.nn, z.gd⟩
theorem Db.sub {Fz : Nat → Prop} {d m : Nat} {nodes node last : Int} {F : List (Int × Rec)} (z : Db Fz s d m nodes node last F) (k : Sub s s') : Db Fz s' d m nodes node last F := z.keep (fp := fun _ => False) (fun b e h _ => k b e h) fun _ h => h.elim
/-! ### what a record that is received does -/
structure Got where
  last : Int
  F : List (Int × Rec)
  code : Int
  err : Int
def recvR (nodes node last : Int) (F : List (Int × Rec)) (r : Rec) : Got :=
  if chkR nodes r.1 r.2.1 r.2.2 ≠ 0 then ⟨last, F, 0, chkR nodes r.1 r.2.1 r.2.2⟩ else
  match look F r.1 with
  | none => if r.1 = node then ⟨max last r.2.1, F, 0, 0⟩ else ⟨last, stor F r.1 r, 1, 0⟩
  | some o => if cmpR r.2.1 o.2.1 r.2.2 o.2.2 = -1 then ⟨last, F, 2, 0⟩ else
    if cmpR r.2.1 o.2.1 r.2.2 o.2.2 = 1 then (if r.1 = node then (if 1073741824 ≤ r.2.1 then ⟨last, F, 0, 7⟩ else ⟨r.2.1 + 1, stor F node (node, r.2.1 + 1, o.2.2), 3, 0⟩) else ⟨last, stor F r.1 r, 1, 0⟩)
    else ⟨last, F, 0, 0⟩
theorem cmpL_vals : ∀ {l m : List Int}, cmpL l m = -1 ∨ cmpL l m = 0 ∨ cmpL l m = 1 := by
  intro l
  induction l with
  | nil => intro m; cases m <;> simp [cmpL]
  | cons x l ih =>
    intro m
    cases m with
    | nil => simp [cmpL]
    | cons y m =>
      rw [cmpL_cons]
      split
      · exact .inl rfl
      · split
        · exact .inr (.inr rfl)
        · exact ih
theorem cmpR_vals {p q : Int} {l m : List Int} : cmpR p q l m = -1 ∨ cmpR p q l m = 0 ∨ cmpR p q l m = 1 := by
  unfold cmpR
  split
  · exact .inl rfl
  · split
    · exact .inr (.inr rfl)
    · exact cmpL_vals
theorem valid13_in {d m : Nat} {Fz : Nat → Prop} {nodes node last : Int} {F : List (Int × Rec)} (z : Db Fz s d m nodes node last F) (hK : K (.bool true) s) : wpCall Try.prog XX 51 [.ptr d 0] K s := by
  refine vc_lsdb_DB_valid_in ?_
  have hp : decide ((0 : Int) < nodes) = true := decide_eq_true (by have := z.nn; omega)
  simp only [vc_lsdb_DB_valid, eqV_ptr, negB_mk, Bool.true_bne, Bool.not_false, boolK_true, nilCheck_ptr, addOff_ptr, Nat.zero_add, rd1_mk z.dc, List.getElem?_cons_zero, arith_gtr, hp, vc_lsdb_DB_valid_j0, pickV_true, optK_mk]
  exact hK
theorem CloneI_in {v : AVal} {l : List Int} (h : Sli s v l) (hl : l.length ≤ 10000000) (hK : ∀ v' s', Sub s s' → Sli s' v' l → (∀ b o n c, v' = .slc b o n c 1 → l ≠ [] → s b = none) → K v' s') : wpCall Try.prog XX 67 [v] K s := by
  refine vc_slices_Clone___int_int__in ?_
  have cases0 : (v = .nilslc ∧ l = []) ∨ ∃ b o c, v = .slc b o l.length c 1 := by
    rcases h with ⟨a, b⟩ | ⟨b, o, c, a, _⟩
    · exact .inl ⟨a, by simpa using b⟩
    · exact .inr ⟨b, o, c, by simpa using a⟩
  rcases cases0 with ⟨rfl, rfl⟩ | ⟨b, o, c, rfl⟩
  · simp only [vc_slices_Clone___int_int_, eqV_nilslc, negB_mk, Bool.false_bne, optK_mk, boolK_true]
    exact hK _ _ (.refl s) h fun _ _ _ _ _ h => absurd rfl h
  · simp only [vc_slices_Clone___int_int_, eqV_slc, negB_mk, Bool.false_bne, optK_mk, boolK_false]
    refine optK_of (a := []) rfl ⟨rfl, new_step fun d s1 hd h1 u1 => ?_⟩
    have sub1 := u1.sub hd
    refine app_copy (h.sub sub1) (by rw [List.length_map]; omega) fun v' s2 sub2 q1 q2 => hK v' s2 (sub1.trans sub2) ?_ fun b o n c e hne => ?_
    · by_cases e : l = []
      · subst e
        rw [q1 rfl]
        exact .inr ⟨d, 0, some 0, rfl, by simp, fun h => absurd rfl h⟩
      · obtain ⟨c, e1, e2, e3⟩ := q2 (by simpa using e)
        rw [e2]
        exact Sl.mk e3 rfl (by simp)
    · obtain ⟨c, e1, e2, e3⟩ := q2 (by simpa using hne)
      rw [e2] at e
      injection e with e
      rw [← e]
      cases q : s c with
      | none => rfl
      | some x => rw [sub1 c x q] at e1; cases e1
theorem clone_in {n q : Int} {v : AVal} {l : List Int} (h : Sli s v l) (hl : l.length ≤ 10000000) (hK : ∀ v' s', Sub s s' → Sli s' v' l → (∀ b o n c, v' = .slc b o n c 1 → l ≠ [] → s b = none) → K (recV n q v') s') : wpCall Try.prog XX 54 [recV n q v] K s := by
  refine vc_lsdb_clone_in (box3 rfl rfl h.one fun b0 s1 hb0 h1 u1 => new_step fun b2 s2 hb2 h2 u2 => ?_)
  have sub1 := u1.sub hb0
  have sub2 := sub1.trans (u2.sub hb2)
  have h12 := u2.sub hb2 _ _ h1
  have hne : b0 ≠ b2 := ne_of_some hb2 h1
  have q2 : [AVal.int .i64 n, .int .i64 q, v][2]? = some v := rfl
  simp only [addOff_ptr, Nat.zero_add, rd1_mk h12, q2, optK_mk]
  refine CloneI_in (h.sub sub2) hl fun v' s3 sub3 sl3 fr3 => ?_
  have h13 := sub3 _ _ h12
  refine wr1_step h13 (by simp) sl3.one fun s4 h4 u4 => ?_
  have h4 : s4 b0 = some (false, .cells 24 [.int .i64 n, .int .i64 q, v']) := h4
  have h24 : s4 b2 = _ := (u4 b2 hne.symm).trans (sub3 _ _ h2)
  simp only [rdN_all (n := 3) h4 rfl, optK_mk]
  refine wrAgg_step h24 rfl rfl (by rw [allOne_cons, allOne_cons, allOne_cons, sl3.one]; rfl) fun s5 h5 u5 => ?_
  have h5 : s5 b2 = some (false, .cells 24 [.int .i64 n, .int .i64 q, v']) := h5
  simp only [rdN_all (n := 3) h5 rfl, optK_mk]
  have old : ∀ b, s2 b = none → s b = none := fun b hb => by
    cases q : s b with
    | none => rfl
    | some x => rw [sub2 b x q] at hb; cases hb
  have hb0s : s b0 = none := hb0
  have hb2s : s b2 = none := by
    cases q : s b2 with
    | none => rfl
    | some x => rw [sub1 b2 x q] at hb2; cases hb2
  refine hK v' s5 (((sub2.trans sub3).upto u4 hb0s).upto u5 hb2s) ?_ fun b o n c e hne => old b (fr3 b o n c e hne)
  refine Sl.keep (fp := fun i => i = b0 ∨ i = b2) sl3 ((u4.keep (.inl rfl)).trans (u5.keep (.inr rfl))) fun b o n c e hne => ?_
  have := fr3 b o n c e (by simpa using hne)
  rintro (rfl | rfl)
  · rw [h12] at this; cases this
  · rw [h2] at this; cases this
end Go.AM
namespace Go.AM
open Go Go.Proofs
variable {K : AVal → Heap → Prop} {s s' s0 : Heap} {Fz : Nat → Prop} {d m : Nat} {nodes node last n q : Int} {F : List (Int × Rec)} {v : AVal} {L : List Int}
theorem eqC3 (a b a' b' : Bool) (x x' : Int) : eqAgg Try.prog 93 (.agg [.bool a, .bool b, .int .i64 x]) (.agg [.bool a', .bool b', .int .i64 x']) = (match some (a == a') with
      | some true => (match some (b == b') with
        | some true => (match some (eqI x x') with
          | some true => some true
          | some false => some false
          | none => none)
        | some false => some false
        | none => none)
      | some false => some false
      | none => none) := by kernel_rfl
theorem eqCd (a b a' b' : Bool) (x x' : Int) : eqAgg Try.prog 93 (.agg [.bool a, .bool b, .int .i64 x]) (.agg [.bool a', .bool b', .int .i64 x']) = some (a == a' && (b == b' && x == x')) := by
  rw [eqC3, eqI_eq]
  cases a == a' <;> cases b == b' <;> cases x == x' <;> rfl
theorem max64 {a b : Int} : foldA max2A (.int .i64 a) [.int .i64 b] = some (.int .i64 (max a b)) := by
  have e : ltI a b = decide (a < b) := by rw [ltI_eq]
  by_cases h : a < b
  · have : max a b = b := by omega
    simp only [foldA, max2A, e, decide_eq_true h, this]; rfl
  · have : max a b = a := by omega
    simp only [foldA, max2A, e, decide_eq_false h, this]; rfl
theorem fillRec {a b v : AVal} (ha : a.one = true) (hb : b.one = true) (hv : v.one = true) : fillR [(.int .i64 0), (.int .i64 0), .nilslc] [(0, 1, a), (1, 1, b), (2, 1, v)] = some [a, b, v] := by
  simp only [fillR, one_cells ha, one_cells hb, one_cells hv]
  rfl
theorem mono_rel {s' : Heap} {fp : Nat → Prop} {l : List (Int × AVal)} (h : Pairs (RelV Fz s d m) l F) (k : KeepBut fp s s') (hf : ∀ b, fp b → b = d ∨ b = m ∨ s b = none) : Pairs (RelV Fz s' d m) l F := h.mono fun a r ⟨lv, e, h4, h5⟩ => ⟨lv, e, h4.keep k fun b' o n c e' hne hb => by
  have h6 := h5 b' o n c e' (by simpa using hne)
  rcases hf b' hb with q | q | q
  · exact h6.2.1 q
  · exact h6.2.2 q
  · exact h4.ne q b' o n c e' hne rfl, h5⟩
/-- a record is stored -/
theorem Db.stored {s2 : Heap} {last2 : Int} {r : Rec} {lv : AVal} (z : Db Fz s d m nodes node last F) (hF : ∀ b, Fz b → s b ≠ none) (k : KeepBut (fun i => i = d) s s2) (hd : s2 d = some (false, .cells 81 [.int .i64 nodes, .int .i64 node, .int .i64 last2, .map m]))
    (hlv : Sli s2 lv r.2.2) (hfr : ∀ b o n c, lv = .slc b o n c 1 → r.2.2 ≠ [] → s b = none) (hr : 0 ≤ r.1 ∧ r.1 < nodes) (hl : r.2.2.length ≤ 100000)
    {R : Heap → Prop} (hK : ∀ s3, Db Fz s3 d m nodes node last2 (stor F r.1 r) → Upto m s2 s3 → R s3) : optK (putM s2 (.map m) (.int .i64 r.1) (recV r.1 r.2.1 lv)) R := by
  have hdm := z.dm
  obtain ⟨l, hm, hp⟩ := z.mp
  have hm2 : MapAt s2 m l := by
    obtain ⟨es, c, h1, h2⟩ := hm
    exact ⟨es, c, k _ _ h1 hdm.symm, h2⟩
  have hnn := z.nn
  have hsd : s d ≠ none := by rw [z.dc]; exact Option.some_ne_none _
  have hsm : s m ≠ none := by obtain ⟨es, c, h1, _⟩ := hm; rw [h1]; exact Option.some_ne_none _
  have hp2 := mono_rel hp k fun b hb => .inl hb
  refine hm2.put (by omega) fun s3 h3 u3 => hK s3 ⟨by rw [u3 d hdm]; exact hd, ⟨_, h3, Pairs.stor (mono_rel hp2 (u3.keep (fp := fun i => i = m) rfl) fun b hb => .inr (.inl hb)) ⟨lv, rfl, ?_, fun b o n c e hne => ?_⟩⟩, z.fd, z.fm, z.nn, fun j r' hj => ?_⟩ u3
  · refine hlv.keep (fp := fun i => i = m) (u3.keep rfl) fun b o n c e hne hb => ?_
    have := hfr b o n c e (by simpa using hne)
    rw [hb] at this; exact hsm this
  · have := hfr b o n c e hne
    exact ⟨fun h => hF b h this, fun h => hsd (by rw [← h]; exact this), fun h => hsm (by rw [← h]; exact this)⟩
  · rw [look_stor] at hj
    split at hj
    · rename_i e
      cases hj
      exact ⟨e.symm, by rw [e]; exact hr, hl⟩
    · exact z.gd j r' hj
theorem Db.ext {b0 : Nat} (z : Db Fz s d m nodes node last F) (h : s b0 = none) : Db (fun b => Fz b ∨ b = b0) s d m nodes node last F := by
  obtain ⟨w1, ⟨lw, w2, w3⟩, w4, w5, w6, w7⟩ := z
  refine ⟨w1, ⟨lw, w2, w3.mono fun a r ⟨lv, e, h4, h5⟩ => ⟨lv, e, h4, fun b' o n c e' hne => ?_⟩⟩, ?_, ?_, w6, w7⟩
  · obtain ⟨x1, x2⟩ := h5 b' o n c e' hne
    refine ⟨?_, x2⟩
    rintro (q | q)
    · exact x1 q
    · exact h4.ne h b' o n c e' (by simpa using hne) q
  · rintro (q | rfl)
    · exact w4 q
    · rw [w1] at h; cases h
  · rintro (q | rfl)
    · exact w5 q
    · obtain ⟨es, c, e1, _⟩ := w2
      rw [e1] at h; cases h
theorem Db.weak {Fz' : Nat → Prop} (z : Db Fz' s d m nodes node last F) (h : ∀ b, Fz b → Fz' b) : Db Fz s d m nodes node last F := by
  obtain ⟨w1, ⟨lw, w2, w3⟩, w4, w5, w6, w7⟩ := z
  exact ⟨w1, ⟨lw, w2, w3.mono fun a r ⟨lv, e, h4, h5⟩ => ⟨lv, e, h4, fun b' o n c e' hne => ⟨fun q => (h5 b' o n c e' hne).1 (h _ q), (h5 b' o n c e' hne).2⟩⟩⟩, fun q => w4 (h _ q), fun q => w5 (h _ q), w6, w7⟩
theorem orig_in {seq : Int} (z : Db Fz s d m nodes node last F) (hF : ∀ b, Fz b → s b ≠ none) (h : Sli s v L) (hl : L.length ≤ 100000)
    (hK : ∀ v' s', KeepBut (fun i => i = d ∨ i = m) s s' → Db Fz s' d m nodes node seq (stor F node (node, seq, L)) → Sli s' v' L → K (recV node seq v') s') : wpCall Try.prog XX 58 [.ptr d 0, v, .int .i64 seq] K s := by
  have hdm := z.dm
  refine vc_lsdb_DB_originate_in (new_step fun b0 s1 hb0 h1 u1 => ?_)
  have sub1 := u1.sub hb0
  have z1 := z.sub sub1
  have q1 : ∀ la : Int, [AVal.int .i64 nodes, .int .i64 node, .int .i64 la, .map m][1]? = some (.int .i64 node) := fun _ => rfl
  have q3 : ∀ la : Int, [AVal.int .i64 nodes, .int .i64 node, .int .i64 la, .map m][3]? = some (.map m) := fun _ => rfl
  simp only [nilCheck_ptr, addOff_ptr, Nat.zero_add, rd1_mk z1.dc, q1, optK_mk]
  refine CloneI_in (s := frz s1) (h.sub sub1).frz (by omega) fun v5 s6 sub6 sl6 fr6 _ => ?_
  have sl7 := sl6.addf sub6
  have subt : Sub s1 (add s1 s6) := sub_add
  have fr7 : ∀ b o n c, v5 = .slc b o n c 1 → L ≠ [] → s1 b = none := fun b o n c e hne => frz_none.1 (fr6 b o n c e hne)
  generalize add s1 s6 = t at sl7 subt
  refine optK_of (fillRec rfl rfl sl7.one) (newM (s := t) (l := [(s1, t)]) fun b8 s9 hb8 h8 u8 => ?_)
  generalize add t s9 = t2 at h8 u8
  refine wrAgg_step h8 rfl rfl (by rw [allOne_cons, allOne_cons, allOne_cons, sl7.one]; rfl) fun s10 h10 u10 => ?_
  have h10 : s10 b8 = some (false, .cells 24 [.int .i64 node, .int .i64 seq, v5]) := h10
  have subt10 : Sub t s10 := (u8.sub hb8).upto u10 hb8
  have sub10 := (sub1.trans subt).trans subt10
  have z10 := z.sub sub10
  have sl10 := sl7.sub subt10
  have hbd : b8 ≠ d := by rintro rfl; have := z10.dc; rw [h10] at this; cases this
  refine wr1_step z10.dc (by simp) rfl fun s13 h13 u13 => ?_
  have h13 : s13 d = some (false, .cells 81 [.int .i64 nodes, .int .i64 node, .int .i64 seq, .map m]) := h13
  have h13b : s13 b8 = _ := (u13 b8 hbd).trans h10
  simp only [rd1_mk h13, q1, q3, rdN_all (n := 3) h13b rfl, optK_mk]
  have old : ∀ b, s1 b = none → s b = none := fun b hb => by
    cases q : s b with
    | none => rfl
    | some x => rw [sub1 b x q] at hb; cases hb
  have hsd : s d ≠ none := by rw [z.dc]; exact Option.some_ne_none _
  have hs1d : s1 d ≠ none := by rw [z1.dc]; exact Option.some_ne_none _
  have hs1m : s1 m ≠ none := by
    obtain ⟨l0, ⟨es0, c0, hm0, _⟩, _⟩ := z1.mp
    rw [hm0]; exact Option.some_ne_none _
  have hs1b : s1 b0 ≠ none := by rw [h1]; exact Option.some_ne_none _
  have sl13 : Sli s13 v5 L := sl10.keep (fp := fun i => i = d) (u13.keep rfl) fun b o n c e hne hb => by
    have := fr7 b o n c e (by simpa using hne)
    rw [hb] at this; exact hs1d this
  have ze : Db (fun b => Fz b ∨ b = b0) s1 d m nodes node last F := (z.ext hb0).sub sub1
  refine Db.stored (r := (node, seq, L)) ze (fun b hb => ?_) ((subt.trans subt10).keep.trans (u13.keep rfl)) h13 sl13 fr7 ⟨z.nn.2.2.1, z.nn.2.2.2⟩ hl fun s21 z21 u21 => ?_
  · rcases hb with hb | rfl
    · cases q : s b with
      | none => exact absurd q (hF b hb)
      | some x => rw [sub1 b x q]; exact Option.some_ne_none _
    · exact hs1b
  have hbm : b8 ≠ m := by
    rintro rfl
    obtain ⟨l0, ⟨es0, c0, hm0, _⟩, _⟩ := z10.mp
    rw [h10] at hm0; cases hm0
  have h21b : s21 b8 = _ := (u21 b8 hbm).trans h13b
  have hb0d : b0 ≠ d := fun e => hsd (by rw [← e]; exact hb0)
  have hb0m : b0 ≠ m := by
    rintro rfl
    obtain ⟨l0, ⟨es0, c0, hm0, _⟩, _⟩ := z.mp
    rw [hb0] at hm0; cases hm0
  have h21c : s21 b0 = some (false, .cells 24 [.int .i64 0, .int .i64 0, .nilslc]) := by
    rw [u21 b0 hb0m, u13 b0 hb0d]
    exact subt10 _ _ (subt _ _ h1)
  simp only [rdN_all (n := 3) h21b rfl, optK_mk]
  refine wrAgg_step h21c rfl rfl (by rw [allOne_cons, allOne_cons, allOne_cons, sl7.one]; rfl) fun s23 h23 u23 => ?_
  have h23 : s23 b0 = some (false, .cells 24 [.int .i64 node, .int .i64 seq, v5]) := h23
  simp only [rdN_all (n := 3) h23 rfl, optK_mk]
  have kb : KeepBut (fun i => i = d ∨ i = m) s s23 := fun b e hb hn => by
    have h1 : s13 b = some e := by rw [u13 b fun q => hn (.inl q)]; exact sub10 b e hb
    rw [u23 b (ne_of_some hb0 hb), u21 b fun q => hn (.inr q)]; exact h1
  refine hK v5 s23 kb ((z21.keep (u23.keep (fp := fun i => i = b0) rfl) fun i hi => .inr hi).weak fun b hb => .inl hb) ?_
  refine sl13.keep (fp := fun i => i = m ∨ i = b0) ((u21.keep (.inl rfl)).trans (u23.keep (.inr rfl))) fun b o n c e hne hb => ?_
  have := fr7 b o n c e (by simpa using hne)
  rcases hb with rfl | rfl
  · exact hs1m this
  · exact hs1b this
end Go.AM
namespace Go.AM
open Go Go.Proofs
variable {K : AVal → Heap → Prop} {s s' s0 : Heap} {Fz : Nat → Prop} {d m : Nat} {nodes node last n q : Int} {F : List (Int × Rec)} {v : AVal} {L : List Int}
theorem ext0 {a b : AVal} : extractA (.tup [a, b]) 0 = some a := rfl
theorem ext1 {a b : AVal} : extractA (.tup [a, b]) 1 = some b := rfl
theorem regain_in {a p : Int} (z : Db Fz s d m nodes node last F) (hF : ∀ b, Fz b → s b ≠ none) (h : Sli s v L) (hl : L.length ≤ 100000) (hq : 1 ≤ q)
    (hE : 1073741824 ≤ q → ∀ s', Sub s s' → K (.tup [.int .i64 0, .int .i64 7]) s')
    (hK : ¬ 1073741824 ≤ q → ∀ s', KeepBut (fun i => i = d ∨ i = m) s s' → Db Fz s' d m nodes node (q + 1) (stor F node (node, q + 1, L)) → K (.tup [.int .i64 3, .int .i64 0]) s') : wpCall Try.prog XX 56 [.ptr d 0, recV a p v, .int .i64 q] K s := by
  refine vc_lsdb_DB_regain_in (box3 rfl rfl h.one fun b0 s1 hb0 h1 u1 => ?_)
  have sub1 := u1.sub hb0
  simp only [arith_geq, optK_mk]
  refine boolK_mk (fun hq => hE (of_decide_eq_true hq) s1 sub1) fun hq => ?_
  have hq := of_decide_eq_false hq
  have q2 : [AVal.int .i64 a, .int .i64 p, v][2]? = some v := rfl
  simp only [addOff_ptr, Nat.zero_add, rd1_mk h1, q2, arith_add, optK_mk]
  rw [wrap64 (by omega) (by omega)]
  refine orig_in (z.sub sub1) (fun b hb => ?_) (h.sub sub1) hl fun v' s2 k2 z2 _ => hK hq s2 (sub1.keep.trans k2) z2
  cases e : s b with
  | none => exact absurd e (hF b hb)
  | some x => rw [sub1 b x e]; exact Option.some_ne_none _
theorem rj1_store {b0 : Nat} {old7 t46 : AVal} (z : Db Fz s d m nodes node last F) (hF : ∀ b, Fz b → s b ≠ none) (h0 : s b0 = some (false, .cells 24 [.int .i64 n, .int .i64 q, v])) (h : Sli s v L) (hl : L.length ≤ 100000) (hn : 0 ≤ n ∧ n < nodes)
    (hK : ∀ s', KeepBut (fun i => i = d ∨ i = m) s s' → Db Fz s' d m nodes node last (stor F n (n, q, L)) → K (.tup [.int .i64 1, .int .i64 0]) s') :
    vc_lsdb_DB_Receive_j1 XX (.ptr d 0) (.ptr b0 0) old7 t46 (.bool true) K s := by
  have hdm := z.dm
  have q0 : [AVal.int .i64 n, .int .i64 q, v][0]? = some (.int .i64 n) := rfl
  have q3 : [AVal.int .i64 nodes, .int .i64 node, .int .i64 last, .map m][3]? = some (.map m) := rfl
  simp only [vc_lsdb_DB_Receive_j1, boolK_true, nilCheck_ptr, addOff_ptr, Nat.zero_add, rd1_mk z.dc, q3, rd1_mk h0, q0, rdN_all (n := 3) h0 rfl, optK_mk]
  refine clone_in (s := frz s) h.frz (by omega) fun v' s2 sub2 sl2 fr2 _ => ?_
  have sl3 := sl2.addf sub2
  have subt : Sub s (add s s2) := sub_add
  generalize add s s2 = t at sl3 subt
  have z3 := z.sub subt
  refine Db.stored (r := (n, q, L)) z hF subt.keep z3.dc sl3 (fun b o n c e hne => frz_none.1 (fr2 b o n c e hne)) hn hl fun s3 h3 u3 => hK s3 (subt.keep.trans (u3.keep (.inr rfl))) h3
theorem rj0 {b0 b7 b9 : Nat} {old : List AVal} {stored : Bool} {ord : Int} (z : Db Fz s d m nodes node last F) (hF : ∀ b, Fz b → s b ≠ none) (h0 : s b0 = some (false, .cells 24 [.int .i64 n, .int .i64 q, v])) (h7 : s b7 = some (false, .cells 24 old)) (h9 : s b9 = some (false, .cells 93 [.bool (n == node), .bool stored, .int .i64 ord]))
    (h : Sli s v L) (hl : L.length ≤ 100000) (hn : 0 ≤ n ∧ n < nodes) (hq : 1 ≤ q) (hchk : chkR nodes n q L = 0)
    (hst : (stored = false ∧ look F n = none ∧ ord = 0) ∨ (stored = true ∧ ∃ o lo, look F n = some o ∧ old = [.int .i64 o.1, .int .i64 o.2.1, lo] ∧ Sli s lo o.2.2 ∧ ord = cmpR q o.2.1 L o.2.2))
    (hK : ∀ s', KeepBut (fun i => i = d ∨ i = m) s s' → Db Fz s' d m nodes node (recvR nodes node last F (n, q, L)).last (recvR nodes node last F (n, q, L)).F → K (.tup [.int .i64 (recvR nodes node last F (n, q, L)).code, .int .i64 (recvR nodes node last F (n, q, L)).err]) s') :
    vc_lsdb_DB_Receive_j0 XX (.ptr d 0) (.ptr b0 0) (.ptr b7 0) (.ptr b9 0) K s := by
  have hdm := z.dm
  have q1 : [AVal.int .i64 n, .int .i64 q, v][1]? = some (.int .i64 q) := rfl
  have q2 : [AVal.int .i64 nodes, .int .i64 node, .int .i64 last, .map m][2]? = some (.int .i64 last) := rfl
  have f0 : fillR [(.bool false), (.bool false), (.int .i64 0)] [] = some [.bool false, .bool false, .int .i64 0] := rfl
  have f1 : fillR [(.bool false), (.bool false), (.int .i64 0)] [(1, 1, (.bool true)), (2, 1, (.int .i64 1))] = some [.bool false, .bool true, .int .i64 1] := rfl
  have f2 : fillR [(.bool false), (.bool false), (.int .i64 0)] [(0, 1, (.bool true))] = some [.bool true, .bool false, .int .i64 0] := rfl
  have f3 : fillR [(.bool false), (.bool false), (.int .i64 0)] [(1, 1, (.bool true)), (2, 1, (.int .i64 (-1)))] = some [.bool false, .bool true, .int .i64 (-1)] := rfl
  have f4 : fillR [(.bool false), (.bool false), (.int .i64 0)] [(0, 1, (.bool true)), (1, 1, (.bool true)), (2, 1, (.int .i64 (-1)))] = some [.bool true, .bool true, .int .i64 (-1)] := rfl
  have f5 : fillR [(.bool false), (.bool false), (.int .i64 0)] [(0, 1, (.bool true)), (1, 1, (.bool true)), (2, 1, (.int .i64 1))] = some [.bool true, .bool true, .int .i64 1] := rfl
  have tf : (true == false) = false := rfl
  have ft : (false == true) = false := rfl
  have i01 : ((0 : Int) == 1) = false := rfl
  have i0m : ((0 : Int) == -1) = false := rfl
  have i10 : ((1 : Int) == 0) = false := rfl
  have i1m : ((1 : Int) == -1) = false := rfl
  have im0 : ((-1 : Int) == 0) = false := rfl
  have im1 : ((-1 : Int) == 1) = false := rfl
  have un : recvR nodes node last F (n, q, L) = (match look F n with
    | none => if n = node then ⟨max last q, F, 0, 0⟩ else ⟨last, stor F n (n, q, L), 1, 0⟩
    | some o => if cmpR q o.2.1 L o.2.2 = -1 then ⟨last, F, 2, 0⟩ else
      if cmpR q o.2.1 L o.2.2 = 1 then (if n = node then (if 1073741824 ≤ q then ⟨last, F, 0, 7⟩ else ⟨q + 1, stor F node (node, q + 1, o.2.2), 3, 0⟩) else ⟨last, stor F n (n, q, L), 1, 0⟩)
      else ⟨last, F, 0, 0⟩) := by
    unfold recvR
    rw [if_neg (by simp [hchk])]
    try rfl
  rw [un] at hK
  simp only [vc_lsdb_DB_Receive_j0, rdN_all (n := 3) h9 rfl, f0, eqCd, negB_mk, Bool.false_bne, optK_mk]
  rcases hst with ⟨rfl, hlk, rfl⟩ | ⟨rfl, o, lo, hlk, rfl, hlo, rfl⟩
  · rw [hlk] at hK
    simp only at hK
    by_cases hown : n = node
    · have e1 : (n == node) = true := beq_iff_eq.2 hown
      rw [if_pos hown] at hK
      simp only [e1, tf, Bool.false_and, boolK_false, f1, eqCd, negB_mk, Bool.false_bne, optK_mk, vc_lsdb_DB_Receive_j1, f2, beq_self_eq_true, Bool.and_self, boolK_true, nilCheck_ptr, addOff_ptr, Nat.zero_add, rd1_mk z.dc, q2, rd1_mk h0, q1, max64]
      refine wr1_step z.dc (by simp) rfl fun s2 h2 u2 => hK s2 (u2.keep (.inl rfl)) ?_
      obtain ⟨w1, ⟨lw, w2, w3⟩, w4, w5, w6, w7⟩ := z
      refine ⟨h2, ⟨lw, ?_, mono_rel w3 (u2.keep (fp := fun i => i = d) rfl) fun b hb => .inl hb⟩, w4, w5, w6, w7⟩
      obtain ⟨es, c, e3, e4⟩ := w2
      exact ⟨es, c, by rw [u2 m hdm.symm]; exact e3, e4⟩
    · have e1 : (n == node) = false := beq_eq_false_iff_ne.2 hown
      rw [if_neg hown] at hK
      simp only [e1, beq_self_eq_true, Bool.and_self, boolK_true]
      exact rj1_store z hF h0 h hl hn hK
  · rw [hlk] at hK
    simp only at hK
    have stay : (cmpR q o.2.1 L o.2.2 = 0) → K (.tup [.int .i64 0, .int .i64 0]) s := fun hc => by
      rw [hc, if_neg (by decide), if_neg (by decide)] at hK
      exact hK s (.refl _ s) z
    have stale : (cmpR q o.2.1 L o.2.2 = -1) → K (.tup [.int .i64 2, .int .i64 0]) s := fun hc => by
      rw [hc, if_pos rfl] at hK
      exact hK s (.refl _ s) z
    have hol := (z.gd _ _ hlk).2.2
    by_cases hown : n = node
    · have e1 : (n == node) = true := beq_iff_eq.2 hown
      rcases cmpR_vals (p := q) (q := o.2.1) (l := L) (m := o.2.2) with hc | hc | hc
      · simp only [e1, hc, tf, Bool.false_and, boolK_false, f1, eqCd, negB_mk, Bool.false_bne, optK_mk, vc_lsdb_DB_Receive_j1, f2, beq_self_eq_true, Bool.true_and, Bool.and_self, f3, f4, vc_lsdb_DB_Receive_j2, boolK_true]
        exact stale hc
      · simp only [e1, hc, tf, i01, i0m, Bool.false_and, Bool.and_false, boolK_false, f1, eqCd, negB_mk, Bool.false_bne, optK_mk, vc_lsdb_DB_Receive_j1, f2, beq_self_eq_true, Bool.and_self, f3, f4, vc_lsdb_DB_Receive_j2, f5]
        exact stay hc
      · rw [hc, if_neg (by decide), if_pos rfl, if_pos hown] at hK
        simp only [e1, hc, tf, i10, i1m, Bool.false_and, Bool.and_false, boolK_false, f1, eqCd, negB_mk, Bool.false_bne, optK_mk, vc_lsdb_DB_Receive_j1, f2, beq_self_eq_true, Bool.and_self, f3, f4, vc_lsdb_DB_Receive_j2, boolK_true, f5, rdN_all (n := 3) h7 rfl, addOff_ptr, Nat.zero_add, rd1_mk h0, q1]
        refine regain_in z hF hlo hol hq (fun hq s2 sub2 => ?_) fun hq s2 k2 z2 => ?_
        · rw [if_pos hq] at hK
          simp only [ext0, ext1, optK_mk]
          exact hK s2 sub2.keep (z.sub sub2)
        · rw [if_neg hq] at hK
          simp only [ext0, ext1, optK_mk]
          exact hK s2 k2 z2
    · have e1 : (n == node) = false := beq_eq_false_iff_ne.2 hown
      rcases cmpR_vals (p := q) (q := o.2.1) (l := L) (m := o.2.2) with hc | hc | hc
      · simp only [e1, hc, tf, ft, im0, im1, Bool.false_and, Bool.and_false, boolK_false, f1, eqCd, negB_mk, Bool.false_bne, optK_mk, vc_lsdb_DB_Receive_j1, f2, beq_self_eq_true, Bool.and_self, f3, f4, vc_lsdb_DB_Receive_j2, boolK_true]
        exact stale hc
      · simp only [e1, hc, tf, ft, i01, i0m, Bool.false_and, Bool.and_false, boolK_false, f1, eqCd, negB_mk, Bool.false_bne, optK_mk, vc_lsdb_DB_Receive_j1, f2, beq_self_eq_true, Bool.and_self, f3, f4, vc_lsdb_DB_Receive_j2, f5]
        exact stay hc
      · rw [hc, if_neg (by decide), if_pos rfl, if_neg hown] at hK
        simp only [e1, hc, tf, i10, Bool.and_false, boolK_false, f1, eqCd, negB_mk, Bool.false_bne, optK_mk, beq_self_eq_true, Bool.and_self]
        exact rj1_store z hF h0 h hl hn hK
theorem recvR_err (h : chkR nodes n q L ≠ 0) : recvR nodes node last F (n, q, L) = ⟨last, F, 0, chkR nodes n q L⟩ := by
  unfold recvR
  rw [if_pos h]
theorem chkR_rg (h : chkR nodes n q L = 0) : (0 ≤ n ∧ n < nodes) ∧ 1 ≤ q ∧ q ≤ 1073741824 := by
  unfold chkR at h
  split at h
  · cases h
  · rename_i hc; omega
theorem Receive_in (z : Db Fz s d m nodes node last F) (hF : ∀ b, Fz b → s b ≠ none) (h : Sli s v L) (hl : L.length ≤ 100000)
    (hK : ∀ s', KeepBut (fun i => i = d ∨ i = m) s s' → Db Fz s' d m nodes node (recvR nodes node last F (n, q, L)).last (recvR nodes node last F (n, q, L)).F → K (.tup [.int .i64 (recvR nodes node last F (n, q, L)).code, .int .i64 (recvR nodes node last F (n, q, L)).err]) s') : wpCall Try.prog XX 27 [.ptr d 0, recV n q v] K s := by
  refine vc_lsdb_DB_Receive_in (box3 rfl rfl h.one fun b0 s1 hb0 h1 u1 => ?_)
  have sub1 := u1.sub hb0
  have z1 := z.sub sub1
  refine valid13_in z1 ?_
  have p0 : [AVal.int .i64 nodes, .int .i64 node, .int .i64 last, .map m][0]? = some (.int .i64 nodes) := rfl
  have p1 : [AVal.int .i64 nodes, .int .i64 node, .int .i64 last, .map m][1]? = some (.int .i64 node) := rfl
  have p3 : [AVal.int .i64 nodes, .int .i64 node, .int .i64 last, .map m][3]? = some (.map m) := rfl
  have q0 : [AVal.int .i64 n, .int .i64 q, v][0]? = some (.int .i64 n) := rfl
  simp only [unary_not, Bool.not_true, boolK_false, nilCheck_ptr, addOff_ptr, Nat.zero_add, rd1_mk z1.dc, p0, rdN_all (n := 3) h1 rfl, optK_mk]
  refine Check_in (h.sub sub1) (by omega) fun s2 sub2 => ?_
  have sub02 := sub1.trans sub2
  have z2 := z.sub sub02
  have h2 := sub2 _ _ h1
  simp only [eqV_int, negB_mk, Bool.true_bne, optK_mk]
  by_cases hc : chkR nodes n q L = 0
  · have e0 : (!(chkR nodes n q L == 0)) = false := by rw [hc]; rfl
    rw [e0]
    obtain ⟨hn, hq1, hq2⟩ := chkR_rg hc
    obtain ⟨l, hm, hp⟩ := z2.mp
    have hget := hm.get (k := n)
    simp only [boolK_false, rd1_mk z2.dc, p3, rd1_mk h2, q0, hget, optK_mk]
    -- the old record, or none
    have key : ∀ (old : List AVal) (stored : Bool), old.length = 3 → allOne old = true → ((stored = false ∧ look F n = none) ∨ (stored = true ∧ ∃ o lo, look F n = some o ∧ old = [.int .i64 o.1, .int .i64 o.2.1, lo] ∧ Sli s2 lo o.2.2)) →
        newK 24 [(.int .i64 0), (.int .i64 0), .nilslc] (fun b_20 s_21 =>
        (∀ b, s2 b ≠ none → s2 b = none → s_21 b = none) →
        optK (wrAgg (add s2 s_21) 3 (.ptr b_20 0) (.agg old)) fun s_22 =>
        optK (addOff 0 (.ptr b0 0)) fun v_23 =>
        optK (rd1 s_22 v_23) fun v_24 =>
        optK (nilCheckA (.ptr d 0)) fun v_25 =>
        optK (addOff 1 v_25) fun v_26 =>
        optK (rd1 s_22 v_26) fun v_27 =>
        optK (negB false (eqV 0 false v_24 v_27)) fun v_28 =>
        optK (fillR [(.bool false), (.bool false), (.int .i64 0)] [(0, 1, v_28), (1, 1, (.bool stored))]) fun c_29 =>
        newK 93 [(.bool false), (.bool false), (.int .i64 0)] (fun b_30 s_31 =>
        (∀ b, s_22 b ≠ none → s_22 b = none → s_31 b = none) →
        optK (wrAgg (add s_22 s_31) 3 (.ptr b_30 0) (.agg c_29)) fun s_32 =>
        boolK (.bool stored)
         (optK (rdN s_32 3 (.ptr b0 0)) fun v_73 =>
          optK (rdN s_32 3 (.ptr b_20 0)) fun v_74 =>
          wpCall Try.prog XX 14 [(.agg v_73), (.agg v_74)] (fun v_75 s_76 =>
          optK (addOff 2 (.ptr b_30 0)) fun v_77 =>
          optK (wr1 s_76 v_77 v_75) fun s_78 =>
          vc_lsdb_DB_Receive_j0 XX (.ptr d 0) (.ptr b0 0) (.ptr b_20 0) (.ptr b_30 0) K s_78) s_32)
         (vc_lsdb_DB_Receive_j0 XX (.ptr d 0) (.ptr b0 0) (.ptr b_20 0) (.ptr b_30 0) K s_32)) (frz s_22)) (frz s2) := by
      intro old stored ho3 ho1 hst
      refine newM (s := s2) (l := []) fun b7 s21 hb7 h7 u7 => ?_
      generalize add s2 s21 = t at h7 u7
      refine wrAgg_step h7 (by rw [ho3]; rfl) rfl ho1 fun s4 h4 u4 => ?_
      have sub24 : Sub s2 s4 := (u7.sub hb7).upto u4 hb7
      have h14 := sub24 _ _ h2
      have z4 := z2.sub sub24
      simp only [addOff_ptr, Nat.zero_add, rd1_mk h14, q0, nilCheck_ptr, rd1_mk z4.dc, p1, eqV_int, negB_mk, Bool.false_bne, optK_mk]
      refine optK_of (a := [.bool (n == node), .bool stored, .int .i64 0]) rfl (newM (s := s4) (l := []) fun b9 s5 hb9 h9 u9 => ?_)
      generalize add s4 s5 = t2 at h9 u9
      refine wrAgg_step h9 rfl rfl rfl fun s6 h6 u6 => ?_
      have h6 : s6 b9 = some (false, .cells 93 [.bool (n == node), .bool stored, .int .i64 0]) := h6
      have sub46 : Sub s4 s6 := (u9.sub hb9).upto u6 hb9
      have sub26 := sub24.trans sub46
      have h16 := sub46 _ _ h14
      have h76 := sub46 _ _ h4
      have z6 := z2.sub sub26
      have sub06 := sub02.trans sub26
      have hF6 : ∀ b, Fz b → s6 b ≠ none := fun b hb => by
        cases e : s b with
        | none => exact absurd e (hF b hb)
        | some x => rw [sub06 b x e]; exact Option.some_ne_none _
      rcases hst with ⟨rfl, hlk⟩ | ⟨rfl, o, lo, hlk, rfl, hlo⟩
      · simp only [boolK_false]
        exact rj0 z6 hF6 h16 h76 h6 (h.sub sub06) hl hn hq1 hc (.inl ⟨rfl, hlk, rfl⟩) fun s8 k8 z8 => hK s8 (sub06.keep.trans k8) z8
      · simp only [boolK_true, rdN_all (n := 3) h16 rfl, rdN_all (n := 3) h76 rfl, optK_mk]
        refine Compare_in (h.sub sub06) (hlo.sub sub26) (by omega) fun s7 sub7 => ?_
        refine wr1_step (sub7 _ _ h6) (by simp) rfl fun s8 h8 u8 => ?_
        have h8 : s8 b9 = some (false, .cells 93 [.bool (n == node), .bool true, .int .i64 (cmpR q o.2.1 L o.2.2)]) := h8
        have hb9s : s2 b9 = none := by
          cases e : s2 b9 with
          | none => rfl
          | some x => rw [sub24 b9 x e] at hb9; cases hb9
        have hb9s4 : s4 b9 = none := hb9
        have sub28 : Sub s2 s8 := (sub26.trans sub7).upto u8 hb9s
        have sub48 : Sub s4 s8 := (sub46.trans sub7).upto u8 hb9s4
        have sub08 := sub02.trans sub28
        have hF8 : ∀ b, Fz b → s8 b ≠ none := fun b hb => by
          cases e : s b with
          | none => exact absurd e (hF b hb)
          | some x => rw [sub08 b x e]; exact Option.some_ne_none _
        exact rj0 (z2.sub sub28) hF8 (sub28 _ _ h2) (sub48 _ _ h4) h8 (h.sub sub08) hl hn hq1 hc (.inr ⟨rfl, o, lo, hlk, rfl, hlo.sub sub28, rfl⟩) fun s9 k9 z9 => hK s9 (sub08.keep.trans k9) z9
    rcases hp.look n with ⟨h3, h4⟩ | ⟨a, o, h3, h4, lo, rfl, hlo, _⟩
    · rw [h3]
      simp only [retM, cond_true, ext0, ext1, optK_mk]
      exact key [.int .i64 0, .int .i64 0, .nilslc] false rfl rfl (.inl ⟨rfl, h4⟩)
    · rw [h3]
      simp only [retM, cond_true, ext0, ext1, optK_mk]
      exact key [.int .i64 o.1, .int .i64 o.2.1, lo] true rfl (by rw [allOne_cons, allOne_cons, allOne_cons, hlo.one]; rfl) (.inr ⟨rfl, o, lo, h4, rfl, hlo⟩)
  · have e0 : (!(chkR nodes n q L == 0)) = true := by simp [hc]
    rw [e0]
    simp only [boolK_true]
    rw [recvR_err hc] at hK
    exact hK s2 sub02.keep z2
end Go.AM
namespace Go.AM
open Go Go.Proofs
variable {K : AVal → Heap → Prop} {s s' s0 : Heap} {Fz : Nat → Prop} {d m : Nat} {nodes node last n q : Int} {F : List (Int × Rec)} {v : AVal} {L : List Int}
theorem nodup_le : ∀ {l m : List Int}, l.Nodup → (∀ x ∈ l, x ∈ m) → l.length ≤ m.length := by
  intro l
  induction l with
  | nil => intro m _ _; exact Nat.zero_le _
  | cons a l ih =>
    intro m h1 h2
    obtain ⟨ha, hn⟩ := List.nodup_cons.1 h1
    have hm : a ∈ m := h2 a (by simp)
    have := ih (m := m.erase a) hn fun x hx => (List.mem_erase_of_ne (fun e => ha (by rw [← e]; exact hx))).2 (h2 x (by simp [hx]))
    rw [List.length_erase_of_mem hm] at this
    have : 0 < m.length := List.length_pos_of_mem hm
    simp only [List.length_cons]
    omega
theorem nodup_rg {l : List Int} {N : Nat} (h1 : l.Nodup) (h2 : ∀ x ∈ l, 0 ≤ x ∧ x < N) : l.length ≤ N := by
  have := nodup_le (m := (List.range N).map fun i : Nat => (i : Int)) h1 fun x hx => by
    obtain ⟨a, b⟩ := h2 x hx
    exact List.mem_map.2 ⟨x.toNat, List.mem_range.2 (by omega), by omega⟩
  simpa using this
theorem look_mem {V : Type} {l : List (Int × V)} {k : Int} (h : k ∈ l.map (·.1)) : ∃ r, look l k = some r := by
  cases e : look l k with
  | none => exact absurd h (look_none.1 e)
  | some r => exact ⟨r, rfl⟩
theorem Db.short (z : Db Fz s d m nodes node last F) : (F.map (·.1)).Nodup ∧ F.length ≤ 32 := by
  obtain ⟨l, ⟨es, c, _, ho⟩, hp⟩ := z.mp
  have hk := hp.keys
  have nd : (F.map (·.1)).Nodup := by rw [← hk]; exact ho.nd
  refine ⟨nd, ?_⟩
  have := nodup_rg (N := 32) nd fun x hx => by
    obtain ⟨r, hr⟩ := look_mem hx
    have := z.gd x r hr
    have := z.nn
    omega
  simpa using this
theorem New13_in (hn : 1 ≤ nodes ∧ nodes ≤ 32 ∧ 0 ≤ node ∧ node < nodes) (hK : ∀ s' d m, Sub s s' → s d = none → s m = none → (∀ Fz : Nat → Prop, (∀ b, Fz b → s b ≠ none) → Db Fz s' d m nodes node 0 []) → K (.tup [.ptr d 0, .int .i64 0]) s') : wpCall Try.prog XX 17 [.int .i64 nodes, .int .i64 node] K s := by
  refine vc_lsdb_New_in ?_
  simp only [vc_lsdb_New, arith_lss, arith_gtr, arith_geq, decide_eq_false (show ¬ nodes < 1 by omega), decide_eq_false (show ¬ 32 < nodes by omega), decide_eq_false (show ¬ node < 0 by omega), decide_eq_false (show ¬ nodes ≤ node by omega), boolK_false, vc_lsdb_New_j0, vc_lsdb_New_j1, vc_lsdb_New_j2, pickV_false, optK_mk]
  refine map_new fun m s1 hm h1 u1 => optK_of (a := [.int .i64 nodes, .int .i64 node, .int .i64 0, .map m]) rfl ⟨rfl, new_step fun d s2 hd h2 u2 => ?_⟩
  have sub1 := u1.sub hm
  have hd0 : s d = none := by
    cases q : s d with
    | none => rfl
    | some x => rw [sub1 d x q] at hd; cases hd
  have hmd : m ≠ d := by
    rintro rfl
    obtain ⟨es, c, e, _⟩ := h1
    rw [e] at hd; cases hd
  refine hK s2 d m (sub1.trans (u2.sub hd)) hd0 hm fun Fz hF => ⟨h2, ⟨[], ?_, .nil⟩, fun h => hF d h hd0, fun h => hF m h hm, hn, fun k r h => by cases h⟩
  obtain ⟨es, c, e, ho⟩ := h1
  exact ⟨es, c, by rw [u2 m hmd]; exact e, ho⟩
/-! ### lists of records -/
structure Rcs (s : Heap) (v : AVal) (rs : List Rec) : Prop where
  ex : ∃ rows, SlR 3 s v rows ∧ rows.length = rs.length ∧ ∀ (i : Nat) (r : Rec), rs[i]? = some r → ∃ lv, rows[i]? = some [.int .i64 r.1, .int .i64 r.2.1, lv] ∧ Sli s lv r.2.2
theorem Rcs.sub {rs : List Rec} (h : Rcs s v rs) (k : Sub s s') : Rcs s' v rs := by
  obtain ⟨rows, h1, h2, h3⟩ := h
  exact ⟨rows, h1.sub k, h2, fun i r hi => by obtain ⟨lv, e1, e2⟩ := h3 i r hi; exact ⟨lv, e1, e2.sub k⟩⟩
theorem Rcs.len {rs : List Rec} (h : Rcs s v rs) : lenOfA v = some rs.length := by
  obtain ⟨rows, h1, h2, h3⟩ := h
  rw [h1.len, h2]
theorem Rcs.at {rs : List Rec} (h : Rcs s v rs) {i : Nat} (hi : i < rs.length) : ∃ b o lv, iaddrS 3 v (.int .i64 (i : Int)) = some (.ptr b o) ∧ rdN s 3 (.ptr b o) = some [.int .i64 rs[i].1, .int .i64 rs[i].2.1, lv] ∧ Sli s lv rs[i].2.2 ∧ rd1 s (.ptr b (o + 2)) = some lv := by
  obtain ⟨rows, h1, h2, h3⟩ := h
  obtain ⟨lv, e1, e2⟩ := h3 i rs[i] (List.getElem?_eq_getElem hi)
  obtain ⟨b, o, g1, g2, g3⟩ := h1.get e1
  exact ⟨b, o, lv, g1, g2, e2, g3 2 (by omega)⟩
/-- (its blocks are none of some others) -/
structure RcsF (Fz : Nat → Prop) (s : Heap) (v : AVal) (rs : List Rec) : Prop where
  ex : ∃ rows, SlR 3 s v rows ∧ rows.length = rs.length ∧ (∀ b o n c, v = .slc b o n c 3 → rows ≠ [] → ¬ Fz b) ∧ ∀ (i : Nat) (r : Rec), rs[i]? = some r → ∃ lv, rows[i]? = some [.int .i64 r.1, .int .i64 r.2.1, lv] ∧ Sli s lv r.2.2 ∧ ∀ b o n c, lv = .slc b o n c 1 → r.2.2 ≠ [] → ¬ Fz b
theorem RcsF.rcs {rs : List Rec} (h : RcsF Fz s v rs) : Rcs s v rs := by
  obtain ⟨rows, h1, h2, _, h3⟩ := h
  exact ⟨rows, h1, h2, fun i r hi => by obtain ⟨lv, e1, e2, _⟩ := h3 i r hi; exact ⟨lv, e1, e2⟩⟩
theorem RcsF.keep {fp : Nat → Prop} {rs : List Rec} (h : RcsF Fz s v rs) (k : KeepBut fp s s') (hf : ∀ b, fp b → Fz b) : RcsF Fz s' v rs := by
  obtain ⟨rows, h1, h2, h0, h3⟩ := h
  exact ⟨rows, h1.keep k fun b o n c e hne hb => h0 b o n c e hne (hf b hb), h2, h0, fun i r hi => by
    obtain ⟨lv, e1, e2, e3⟩ := h3 i r hi
    exact ⟨lv, e1, e2.keep k fun b o n c e hne hb => e3 b o n c e (by simpa using hne) (hf b hb), e3⟩⟩
def allR (F : List (Int × Rec)) : List Rec := (sortI (F.map (·.1))).filterMap (look F)
theorem filterMap_all {V : Type} {f : Int → Option V} : ∀ {l : List Int}, (∀ x ∈ l, ∃ r, f x = some r) → (l.filterMap f).length = l.length ∧ ∀ (i : Nat) (x : Int) (r : V), l[i]? = some x → f x = some r → (l.filterMap f)[i]? = some r := by
  intro l
  induction l with
  | nil => intro _; exact ⟨rfl, fun i x r h => by simp at h⟩
  | cons y l ih =>
    intro h
    obtain ⟨r0, h0⟩ := h y (by simp)
    obtain ⟨h1, h2⟩ := ih fun x hx => h x (by simp [hx])
    rw [List.filterMap_cons_some h0]
    refine ⟨by rw [List.length_cons, List.length_cons, h1], fun i x r hi hf => ?_⟩
    cases i with
    | zero =>
      have : y = x := by simpa using hi
      rw [this, hf] at h0
      cases h0; rfl
    | succ i => exact h2 i x r (by simpa using hi) hf
theorem app_cap {elem e : TypeId} {es b i c : Nat} {cs row : List AVal} {y : AVal} (hb : s b = some (false, .cells e cs)) (hy : SlR es s y [row]) (hi : i < c) (hcs : cs.length = c * es) (hr : row.length = es) (ho : allOne row = true)
    (hK : ∀ s', s' b = some (false, .cells e (setRange cs (i * es) row)) → Upto b s s' → K (.slc b 0 (i + 1) (some c) es) s') : appK elem es (.slc b 0 i (some c) es) y K s := by
  refine optK_of hy.rd (optK_of hy.len ⟨rfl, ?_⟩)
  have e1 : Nat.ble (i + [row].length) c = true := by rw [Nat.ble_eq]; exact hi
  have hfl : ([row] : List (List AVal)).flatten = row := by simp
  simp only [List.length_singleton, hfl]
  have hle : i * es + es ≤ c * es := by
    have : (i + 1) * es ≤ c * es := Nat.mul_le_mul_right es hi
    rw [Nat.add_mul, Nat.one_mul] at this
    exact this
  have e2 : Nat.ble (i + 1) c = true := by rw [Nat.ble_eq]; exact hi
  have e3 : Nat.ble (0 + i * es + row.length) cs.length = true := by rw [Nat.ble_eq, hcs, hr]; omega
  have e4 : wrN s (.ptr b (0 + i * es)) row = some (hset s b (false, .cells e (setRange cs (0 + i * es) row))) := by
    simp only [wrN, hb, e3, ho, Bool.and_self, cond_true]
  simp only [e2, cond_true, e4, optK_mk]
  refine hK _ ?_ fun _ h => hset_other h
  rw [hset_eq, Nat.zero_add]
theorem setRange_take {cs row : List AVal} {o : Nat} (h : o ≤ cs.length) : (setRange cs o row).take (o + row.length) = cs.take o ++ row := by
  unfold setRange
  rw [List.take_append_of_le_length (by rw [List.length_append, List.length_take]; omega), List.take_of_length_le (by rw [List.length_append, List.length_take]; omega)]
theorem setRange_len {cs row : List AVal} {o : Nat} (h : o + row.length ≤ cs.length) : (setRange cs o row).length = cs.length := by
  unfold setRange
  rw [List.length_append, List.length_append, List.length_take, List.length_drop]
  omega
theorem fillr3 {r : List AVal} (h : r.length = 3) : fillR (repl 1 [.int .i64 0, .int .i64 0, .nilslc]) [(0, 3, .agg r)] = some r := by
  match r, h with
  | [a, b, c], _ => rfl
theorem repl_len {z : List AVal} {k : Nat} (h : z.length = 3) : (repl k z).length = k * 3 := by
  induction k with
  | zero => rfl
  | succ k ih =>
    show (z ++ repl k z).length = _
    rw [List.length_append, ih, h]; omega
theorem All_in (z : Db Fz s d m nodes node last F) (hK : ∀ v s', Sub s s' → RcsF (fun x => s x ≠ none) s' v (allR F) → K v s') : wpCall Try.prog XX 18 [.ptr d 0] K s := by
  refine vc_lsdb_DB_All_in (valid13_in z ?_)
  have p3 : [AVal.int .i64 nodes, .int .i64 node, .int .i64 last, .map m][3]? = some (.map m) := rfl
  obtain ⟨hnd, hlen⟩ := z.short
  obtain ⟨l, hm, hp⟩ := z.mp
  have hkeys := hp.keys
  have hll : l.length = F.length := by have := congrArg List.length hkeys; simpa using this
  have n0 : nat? (.int .i64 0) = some 0 := rfl
  simp only [unary_not, Bool.not_true, boolK_false, nilCheck_ptr, addOff_ptr, Nat.zero_add, rd1_mk z.dc, p3, hm.len, n0, nat?_mk, optK_mk]
  refine ⟨⟨Nat.zero_le _, by omega⟩, new_step fun b1 s1 hb1 h1 u1 => ?_⟩
  have sub1 := u1.sub hb1
  have z1 := z.sub sub1
  have hm1 : MapAt s1 m l := by obtain ⟨es, c, e, ho⟩ := hm; exact ⟨es, c, sub1 _ _ e, ho⟩
  simp only [rd1_mk z1.dc, p3, optK_mk]
  refine wp_keys (it := 66) rfl fun b2 s2 hb2 h2 u2 => ?_
  have sub2 := u2.sub hb2
  have hm2 : MapAt s2 m l := by obtain ⟨es, c, e, ho⟩ := hm1; exact ⟨es, c, sub2 _ _ e, ho⟩
  refine wp_sorted (its := [66]) (elem := 3) rfl rfl h2 hm2 (by omega) fun v17 s3 acc3 sub3 => ?_
  rw [hkeys] at acc3
  have sub13 := sub2.trans sub3
  have sub03 := sub1.trans sub13
  have ks : (sortI (F.map (·.1))).length = F.length := by rw [(sortI_perm _).length_eq, List.length_map]
  have hin : ∀ x ∈ sortI (F.map (·.1)), ∃ r, look F x = some r := fun x hx => look_mem ((sortI_perm _).mem_iff.1 hx)
  obtain ⟨al, aa⟩ := filterMap_all hin
  simp only [acc3.sl.len, List.length_map, ks, optK_mk]
  have acc3' : Acc 3 s s3 v17 (izs (sortI (F.map (·.1)))) := by
    rcases acc3 with h | ⟨b, h0, a, h2⟩
    · exact .inl h
    · refine .inr ⟨b, ?_, a, h2⟩
      cases q : s b with
      | none => rfl
      | some y => rw [sub2 b y (sub1 b y q)] at h0; cases h0
  rw [hll] at h1 ⊢
  refine ⟨fun ys s4 k => ∃ (i : Nat) (cs : List AVal) (rows : List (List AVal)), ys = [.slc b1 0 i (some F.length) 3, .int .i64 i] ∧ i ≤ F.length ∧ k = F.length - i ∧ Sub s s4 ∧ Acc 3 s s4 v17 (izs (sortI (F.map (·.1)))) ∧
    s4 b1 = some (false, .cells 24 cs) ∧ cs.length = F.length * 3 ∧ rows.length = i ∧ (∀ r ∈ rows, r.length = 3) ∧ cs.take (i * 3) = rows.flatten ∧
    ∀ (j : Nat) (r : Rec), j < i → (allR F)[j]? = some r → ∃ lv, rows[j]? = some [.int .i64 r.1, .int .i64 r.2.1, lv] ∧ Sli s4 lv r.2.2 ∧ ∀ b o n c, lv = .slc b o n c 1 → r.2.2 ≠ [] → b ≠ b1 ∧ s b = none,
    ⟨_, 0, _, [], rfl, by omega, rfl, sub03, acc3', sub13 _ _ h1, repl_len rfl, rfl, by simp, by simp, fun j r h => by omega⟩, ?_⟩
  rintro f s4 k ⟨i, cs, rows, hy, hi, rfl, sub4, acc4, h4, hcs, hrl, hr3, htk, hrows⟩
  simp only [List.cons.injEq, and_true] at hy
  rw [hy.1, hy.2]
  have z4 := z.sub sub4
  simp only [vc_lsdb_DB_All_l0, arith_lss, optK_mk]
  refine boolK_mk (fun hlt => ?_) (fun hge => ?_)
  · have hlt : i < F.length := by have := of_decide_eq_true hlt; omega
    have hik : i < (sortI (F.map (·.1))).length := by rw [ks]; exact hlt
    obtain ⟨p, g1, g2⟩ := acc4.sl.get (i := i) (by rw [List.length_map]; exact hik)
    have e1 : (izs (sortI (F.map (·.1))))[i]? = some (.int .i64 (sortI (F.map (·.1)))[i]) := by simp [hik]
    rw [e1] at g2
    obtain ⟨l4, hm4, hp4⟩ := z4.mp
    obtain ⟨o, ho⟩ := hin _ (List.getElem_mem hik)
    have hall : (allR F)[i]? = some o := aa i _ o (List.getElem?_eq_getElem hik) ho
    rcases hp4.look (sortI (F.map (·.1)))[i] with ⟨_, h6⟩ | ⟨a, o2, h5, h6, lo, rfl, hlo, _⟩
    · rw [h6] at ho; cases ho
    · rw [ho] at h6; cases h6
      have hol := (z.gd _ _ ho).2.2
      simp only [g1, g2, nilCheck_ptr, addOff_ptr, Nat.zero_add, rd1_mk z4.dc, p3, hm4.get, h5, retM, cond_false, optK_mk]
      refine clone_in hlo (by omega) fun lv' s5 sub5 sl5 fr5 => ?_
      have h5b := sub5 _ _ h4
      refine optK_of (fillr3 rfl) ⟨by show allOne [AVal.int .i64 o.1, .int .i64 o.2.1, lv'] = true; rw [allOne_cons, allOne_cons, allOne_cons, sl5.one]; rfl, new_step fun b6 s6 hb6 h6 u6 => ?_⟩
      have sub6 := u6.sub hb6
      have lit : SlR 3 s6 (.slc b6 0 1 (some 1) 3) [[.int .i64 o.1, .int .i64 o.2.1, lv']] := SlR.mk (rows := [[.int .i64 o.1, .int .i64 o.2.1, lv']]) (by intro r hr; rw [List.mem_singleton] at hr; subst hr; rfl) (by simpa using h6) rfl (by simp)
      have hb1s : s b1 = none := hb1
      refine app_cap (sub6 _ _ h5b) lit hlt hcs rfl (by rw [allOne_cons, allOne_cons, allOne_cons, sl5.one]; rfl) fun s7 h7 u7 => ?_
      have sub46 := sub5.trans sub6
      have sub7 : Sub s s7 := (sub4.trans sub46).upto u7 hb1s
      have hle : i * 3 + 3 ≤ cs.length := by rw [hcs]; omega
      simp only [arith_add, optK_mk]
      rw [wrap64 (by omega) (by omega)]
      refine ⟨F.length - (i + 1), by omega, i + 1, _, rows ++ [[.int .i64 o.1, .int .i64 o.2.1, lv']], rfl, by omega, rfl, sub7, ?_, h7, ?_, by rw [List.length_append, hrl]; rfl, fun r hr => ?_, ?_, fun j r hj hr => ?_⟩
      · rcases acc4 with h | ⟨b, h0, a, h2⟩
        · exact .inl h
        · refine .inr ⟨b, h0, a, ?_⟩
          rw [u7 b (by rintro rfl; rw [h4] at h2; cases h2)]
          exact sub46 _ _ h2
      · rw [setRange_len (by show i * 3 + 3 ≤ _; exact hle)]; exact hcs
      · rw [List.mem_append, List.mem_singleton] at hr
        rcases hr with hr | rfl
        · exact hr3 r hr
        · rfl
      · have := setRange_take (cs := cs) (row := [.int .i64 o.1, .int .i64 o.2.1, lv']) (o := i * 3) (by omega)
        rw [show (i + 1) * 3 = i * 3 + [AVal.int .i64 o.1, .int .i64 o.2.1, lv'].length by show (i + 1) * 3 = i * 3 + 3; omega, this, htk, List.flatten_append]
        simp
      · by_cases e : j = i
        · subst e
          rw [hall] at hr; cases hr
          refine ⟨lv', by rw [List.getElem?_append_right (by omega), hrl, Nat.sub_self]; rfl, ?_, fun b o1 n1 c1 e hne => ?_⟩
          · refine (sl5.sub sub6).keep (fp := fun i => i = b1) (u7.keep rfl) fun b o1 n1 c1 e hne hb => ?_
            have := fr5 b o1 n1 c1 e (by simpa using hne)
            rw [hb, h4] at this; cases this
          · have := fr5 b o1 n1 c1 e hne
            refine ⟨(by rintro rfl; rw [h4] at this; cases this), ?_⟩
            cases q : s b with
            | none => rfl
            | some x => rw [sub4 b x q] at this; cases this
        · obtain ⟨lv, x1, x2, x3⟩ := hrows j r (by omega) hr
          exact ⟨lv, by rw [List.getElem?_append_left (by omega)]; exact x1, (x2.sub sub46).keep (fp := fun i => i = b1) (u7.keep rfl) fun b o1 n1 c1 e hne => (x3 b o1 n1 c1 e (by simpa using hne)).1, x3⟩
  · have hge : i = F.length := by have := of_decide_eq_false hge; omega
    subst hge
    rw [List.take_of_length_le (by omega)] at htk
    have al2 : (allR F).length = F.length := al.trans ks
    refine hK _ s4 sub4 ⟨rows, ?_, by rw [hrl, al2], fun b o n c e _ hb => ?_, fun j r hr => ?_⟩
    · refine SlR.mk hr3 (by rw [← htk]; exact h4) hrl.symm fun c e => by cases e; omega
    · injection e with e
      rw [← e] at hb
      exact hb hb1
    · have hj : j < F.length := by
        have := (List.getElem?_eq_some_iff.1 hr).1
        omega
      obtain ⟨lv, x1, x2, x3⟩ := hrows j r hj hr
      exact ⟨lv, x1, x2, fun b o n c e hne h => h (x3 b o n c e hne).2⟩
end Go.AM
namespace Go.AM
open Go Go.Proofs
variable {K : AVal → Heap → Prop} {s s' s0 : Heap} {Fz : Nat → Prop} {d m : Nat} {nodes node last n q : Int} {F G : List (Int × Rec)} {v : AVal} {L : List Int}
/-! ### the order of records -/
theorem cmpL_refl : ∀ l : List Int, cmpL l l = 0 := by
  intro l
  induction l with
  | nil => rfl
  | cons x l ih => rw [cmpL_cons, if_neg (by omega), if_neg (by omega), ih]
theorem cmpL_zero : ∀ {l m : List Int}, cmpL l m = 0 → l = m := by
  intro l
  induction l with
  | nil => intro m h; cases m with | nil => rfl | cons y m => cases h
  | cons x l ih =>
    intro m h
    cases m with
    | nil => cases h
    | cons y m =>
      rw [cmpL_cons] at h
      split at h
      · cases h
      · split at h
        · cases h
        · rw [ih h, show x = y by omega]
theorem cmpL_neg : ∀ {l m : List Int}, cmpL m l = - cmpL l m := by
  intro l
  induction l with
  | nil => intro m; cases m <;> rfl
  | cons x l ih =>
    intro m
    cases m with
    | nil => rfl
    | cons y m =>
      rw [cmpL_cons, cmpL_cons]
      by_cases h1 : x < y
      · rw [if_neg (by omega), if_pos h1, if_pos h1]; rfl
      · by_cases h2 : y < x
        · rw [if_pos h2, if_neg h1, if_pos h2]
        · rw [if_neg h2, if_neg h1, if_neg h1, if_neg h2]; exact ih
theorem cmpL_trans : ∀ {l m k : List Int}, cmpL l m ≠ 1 → cmpL m k ≠ 1 → cmpL l k ≠ 1 := by
  intro l
  induction l with
  | nil => intro m k _ _; cases k <;> simp [cmpL]
  | cons x l ih =>
    intro m k h1 h2
    cases m with
    | nil => exact absurd rfl h1
    | cons y m =>
      cases k with
      | nil => exact absurd rfl h2
      | cons z k =>
        rw [cmpL_cons] at h1 h2 ⊢
        by_cases a1 : x < z
        · rw [if_pos a1]; decide
        · rw [if_neg a1]
          by_cases b1 : y < x
          · rw [if_neg (by omega), if_pos b1] at h1; exact absurd rfl h1
          · by_cases c1 : z < y
            · rw [if_neg (by omega), if_pos c1] at h2; exact absurd rfl h2
            · have e1 : x = y := by omega
              have e2 : y = z := by omega
              rw [if_neg (by omega), if_neg (by omega)] at h1 h2
              rw [if_neg (by omega)]
              exact ih h1 h2
def cmpRR (a b : Rec) : Int := cmpR a.2.1 b.2.1 a.2.2 b.2.2
theorem cmpRR_refl (a : Rec) : cmpRR a a = 0 := by unfold cmpRR cmpR; rw [if_neg (by omega), if_neg (by omega), cmpL_refl]
theorem cmpRR_zero {a b : Rec} (h : cmpRR a b = 0) (hn : a.1 = b.1) : a = b := by
  unfold cmpRR cmpR at h
  split at h
  · cases h
  · split at h
    · cases h
    · have e1 := cmpL_zero h
      have e2 : a.2.1 = b.2.1 := by omega
      obtain ⟨x, y, z⟩ := a
      obtain ⟨x', y', z'⟩ := b
      simp only at e1 e2 hn
      rw [e1, e2, hn]
theorem cmpRR_neg {a b : Rec} : cmpRR b a = - cmpRR a b := by
  unfold cmpRR cmpR
  by_cases h1 : a.2.1 < b.2.1
  · rw [if_neg (by omega), if_pos h1, if_pos h1]; rfl
  · by_cases h2 : b.2.1 < a.2.1
    · rw [if_pos h2, if_neg h1, if_pos h2]
    · rw [if_neg h2, if_neg h1, if_neg h1, if_neg h2]; exact cmpL_neg
theorem cmpRR_trans {a b c : Rec} (h1 : cmpRR a b ≠ 1) (h2 : cmpRR b c ≠ 1) : cmpRR a c ≠ 1 := by
  unfold cmpRR cmpR at h1 h2 ⊢
  by_cases a1 : a.2.1 < c.2.1
  · rw [if_pos a1]; decide
  · rw [if_neg a1]
    by_cases b1 : b.2.1 < a.2.1
    · rw [if_neg (by omega), if_pos b1] at h1; exact absurd rfl h1
    · by_cases c1 : c.2.1 < b.2.1
      · rw [if_neg (by omega), if_pos c1] at h2; exact absurd rfl h2
      · rw [if_neg (by omega), if_neg (by omega)] at h1 h2
        rw [if_neg (by omega)]
        exact cmpL_trans h1 h2
theorem cmpRR_vals (a b : Rec) : cmpRR a b = -1 ∨ cmpRR a b = 0 ∨ cmpRR a b = 1 := cmpR_vals
/-! ### what a database that only receives has -/
def Cnt (nodes node : Int) (r : Rec) (k : Int) : Prop := chkR nodes r.1 r.2.1 r.2.2 = 0 ∧ r.1 = k ∧ k ≠ node
def Best (nodes node : Int) (rs : List Rec) (k : Int) : Option Rec → Prop
  | none => ∀ r ∈ rs, ¬ Cnt nodes node r k
  | some o => o ∈ rs ∧ Cnt nodes node o k ∧ ∀ r ∈ rs, Cnt nodes node r k → cmpRR r o ≠ 1
theorem best_step {rs : List Rec} {r : Rec} (h : ∀ k, Best nodes node rs k (look F k)) (k : Int) : Best nodes node (rs ++ [r]) k (look (recvR nodes node last F r).F k) := by
  have hm : ∀ x, x ∈ rs ++ [r] ↔ x ∈ rs ∨ x = r := fun x => by rw [List.mem_append, List.mem_singleton]
  have hk := h k
  -- nothing changes
  have keep : (Cnt nodes node r k → ∃ o, look F k = some o ∧ cmpRR r o ≠ 1) → Best nodes node (rs ++ [r]) k (look F k) := fun hc => by
    cases e : look F k with
    | none =>
      rw [e] at hk
      intro x hx hcx
      rcases (hm x).1 hx with hx | rfl
      · exact hk x hx hcx
      · obtain ⟨o, ho, _⟩ := hc hcx
        rw [e] at ho; cases ho
    | some o =>
      rw [e] at hk
      refine ⟨(hm o).2 (.inl hk.1), hk.2.1, fun x hx hcx => ?_⟩
      rcases (hm x).1 hx with hx | rfl
      · exact hk.2.2 x hx hcx
      · obtain ⟨o', ho, hh⟩ := hc hcx
        rw [e] at ho; cases ho; exact hh
  -- the new one is stored
  have put : Cnt nodes node r r.1 → (∀ o, look F r.1 = some o → cmpRR r o = 1) → Best nodes node (rs ++ [r]) k (look (stor F r.1 r) k) := fun hc hb => by
    rw [look_stor]
    by_cases e : k = r.1
    · rw [if_pos e]
      refine ⟨(hm r).2 (.inr rfl), by rw [e]; exact hc, fun x hx hcx => ?_⟩
      rcases (hm x).1 hx with hx | rfl
      · rw [e] at hk hcx
        cases e2 : look F r.1 with
        | none => rw [e2] at hk; exact absurd hcx (hk x hx)
        | some o =>
          rw [e2] at hk
          have h1 := hk.2.2 x hx hcx
          have h2 := hb o e2
          have h3 : cmpRR o r ≠ 1 := by rw [cmpRR_neg, h2]; decide
          exact cmpRR_trans h1 h3
      · rw [cmpRR_refl]; decide
    · rw [if_neg e]
      exact keep fun hc => absurd hc.2.1.symm e
  unfold recvR
  by_cases hc : chkR nodes r.1 r.2.1 r.2.2 ≠ 0
  · rw [if_pos hc]; exact keep fun h => absurd h.1 hc
  · rw [if_neg hc]
    have hc0 : chkR nodes r.1 r.2.1 r.2.2 = 0 := by simpa using hc
    by_cases hown : r.1 = node
    · -- its own node: never stored
      have hnone : look F r.1 = none := by
        have := h r.1
        cases e : look F r.1 with
        | none => rfl
        | some o => rw [e] at this; exact absurd hown this.2.1.2.2
      rw [hnone]
      simp only [if_pos hown]
      exact keep fun h => absurd (h.2.1.symm.trans hown) h.2.2
    · cases e : look F r.1 with
      | none =>
        simp only [if_neg hown]
        exact put ⟨hc0, rfl, hown⟩ fun o ho => by rw [e] at ho; cases ho
      | some o =>
        simp only
        rcases cmpRR_vals r o with hv | hv | hv
        · have hv' : cmpR r.2.1 o.2.1 r.2.2 o.2.2 = -1 := hv
          rw [if_pos hv']
          exact keep fun hcn => ⟨o, by rw [← hcn.2.1]; exact e, by rw [hv]; decide⟩
        · have hv' : cmpR r.2.1 o.2.1 r.2.2 o.2.2 = 0 := hv
          rw [if_neg (by rw [hv']; decide), if_neg (by rw [hv']; decide)]
          exact keep fun hcn => ⟨o, by rw [← hcn.2.1]; exact e, by rw [hv]; decide⟩
        · have hv' : cmpR r.2.1 o.2.1 r.2.2 o.2.2 = 1 := hv
          rw [if_neg (by rw [hv']; decide), if_pos hv', if_neg hown]
          exact put ⟨hc0, rfl, hown⟩ fun o' ho => by rw [e] at ho; cases ho; exact hv
theorem best_uniq {rs rs' : List Rec} {k : Int} {o o' : Option Rec} (hm : ∀ r, r ∈ rs ↔ r ∈ rs') (h : Best nodes node rs k o) (h' : Best nodes node rs' k o') : o = o' := by
  cases o with
  | none =>
    cases o' with
    | none => rfl
    | some y => exact absurd h'.2.1 (h y ((hm y).2 h'.1))
  | some x =>
    cases o' with
    | none => exact absurd h.2.1 (h' x ((hm x).1 h.1))
    | some y =>
      have h1 := h.2.2 y ((hm y).2 h'.1) h'.2.1
      have h2 := h'.2.2 x ((hm x).1 h.1) h.2.1
      rw [cmpRR_neg] at h1
      have : cmpRR x y = 0 := by
        rcases cmpRR_vals x y with e | e | e
        · rw [e] at h1; exact absurd rfl h1
        · exact e
        · exact absurd e h2
      rw [cmpRR_zero this (h.2.1.2.1.trans h'.2.1.2.1.symm)]
theorem asc_ext : ∀ {l m : List Int}, l.Pairwise (· < ·) → m.Pairwise (· < ·) → (∀ x, x ∈ l ↔ x ∈ m) → l = m := by
  intro l
  induction l with
  | nil =>
    intro m _ _ h
    cases m with
    | nil => rfl
    | cons b m => exact absurd ((h b).2 (by simp)) (by simp)
  | cons a l ih =>
    intro m h1 h2 h
    cases m with
    | nil => exact absurd ((h a).1 (by simp)) (by simp)
    | cons b m =>
      obtain ⟨h3, h4⟩ := List.pairwise_cons.1 h1
      obtain ⟨h5, h6⟩ := List.pairwise_cons.1 h2
      have e : a = b := by
        rcases List.mem_cons.1 ((h a).1 (by simp)) with e | e
        · exact e
        · rcases List.mem_cons.1 ((h b).2 (by simp)) with q | q
          · exact q.symm
          · have := h3 b q; have := h5 a e; omega
      subst e
      rw [ih h4 h6 fun x => ⟨fun hx => ?_, fun hx => ?_⟩]
      · rcases List.mem_cons.1 ((h x).1 (by simp [hx])) with e | e
        · have := h3 x hx; omega
        · exact e
      · rcases List.mem_cons.1 ((h x).2 (by simp [hx])) with e | e
        · have := h5 x hx; omega
        · exact e
theorem allR_ext (h1 : (F.map (·.1)).Nodup) (h2 : (G.map (·.1)).Nodup) (h : ∀ k, look F k = look G k) : allR F = allR G := by
  have key : sortI (F.map (·.1)) = sortI (G.map (·.1)) := by
    have asc : ∀ {l : List Int}, l.Nodup → (sortI l).Pairwise (· < ·) := fun {l} hl => by
      have nd : (sortI l).Nodup := (sortI_perm l).nodup_iff.2 hl
      exact ((sortI_sorted l).and nd).imp fun ⟨a, b⟩ => by omega
    refine asc_ext (asc h1) (asc h2) fun x => ?_
    rw [(sortI_perm _).mem_iff, (sortI_perm _).mem_iff]
    have i1 : ∀ {H : List (Int × Rec)}, x ∈ H.map (·.1) ↔ look H x ≠ none := fun {H} => by
      rw [Ne, look_none, Classical.not_not]
    rw [i1, i1, h]
  unfold allR
  rw [key, show look F = look G from funext h]
end Go.AM
namespace Go.AM
open Go Go.Proofs
variable {K : AVal → Heap → Prop} {s s' s0 : Heap} {Fz : Nat → Prop} {d m : Nat} {nodes node last n q : Int} {F G : List (Int × Rec)} {v : AVal} {L : List Int}
theorem records_in {a b : AVal} {rs : List Rec} (ha : Rcs s a rs) (hb : Rcs s b rs) (hl : rs.length ≤ 1000) (hr : ∀ r ∈ rs, r.2.2.length ≤ 100000) (hK : ∀ s', Sub s s' → K (.bool true) s') : wpCall Try.prog XX 22 [a, b] K s := by
  refine vc_leafmeshlaw13_records_in ?_
  simp only [vc_leafmeshlaw13_records, ha.len, hb.len, eqV_int, negB_mk, beq_self_eq_true, Bool.true_bne, Bool.not_true, boolK_false, optK_mk]
  refine ⟨fun ys s2 k => ∃ i : Nat, ys = [.int .i64 i] ∧ i ≤ rs.length ∧ k = rs.length - i ∧ Sub s s2, ⟨_, 0, rfl, by omega, rfl, .refl s⟩, ?_⟩
  rintro f s2 k ⟨i, hy, hi, rfl, sub2⟩
  simp only [List.cons.injEq, and_true] at hy
  rw [hy]
  have ha2 := ha.sub sub2
  have hb2 := hb.sub sub2
  simp only [vc_leafmeshlaw13_records_l0, ha2.len, arith_lss, optK_mk]
  refine boolK_mk (fun hlt => ?_) (fun hge => ?_)
  · have hlt : i < rs.length := by have := of_decide_eq_true hlt; omega
    obtain ⟨p, o, lv, g1, g2, g3, _⟩ := ha2.at hlt
    obtain ⟨p', o', lv', g4, g5, g6, _⟩ := hb2.at hlt
    have := hr _ (List.getElem_mem hlt)
    simp only [g1, g2, g4, g5, optK_mk]
    refine equal_in g3 g6 (by omega) fun s3 sub3 => ?_
    simp only [beq_self_eq_true, Bool.and_self, unary_not, Bool.not_true, boolK_false, arith_add, optK_mk]
    rw [wrap64 (by omega) (by omega)]
    exact ⟨_, by omega, i + 1, rfl, by omega, rfl, sub2.trans sub3⟩
  · exact hK s2 sub2
theorem light_in {rs : List Rec} (ha : Rcs s v rs) (hm : rs.length ≤ 9223372036854775807) (hE : K (.bool false) s) (hK : (∀ r ∈ rs, r.2.2.length ≤ 20) → rs.length ≤ 60 → K (.bool true) s) : wpCall Try.prog XX 28 [v] K s := by
  refine vc_leafmeshlaw13_light_in ?_
  refine ⟨fun ys s2 k => s2 = s ∧ ∃ i : Nat, ys = [.int .i64 i] ∧ i ≤ rs.length ∧ k = rs.length - i ∧ ∀ (j : Nat) (r : Rec), j < i → rs[j]? = some r → r.2.2.length ≤ 20, ⟨_, rfl, 0, rfl, by omega, rfl, fun j r h => by omega⟩, ?_⟩
  rintro f s2 k ⟨rfl, i, hy, hi, rfl, hq⟩
  simp only [List.cons.injEq, and_true] at hy
  rw [hy]
  simp only [vc_leafmeshlaw13_light_l0, ha.len, arith_lss, optK_mk]
  refine boolK_mk (fun hlt => ?_) (fun hge => ?_)
  · have hlt : i < rs.length := by have := of_decide_eq_true hlt; omega
    obtain ⟨p, o, lv, g1, g2, g3, g4⟩ := ha.at hlt
    simp only [g1, addOff_ptr, g4, g3.len, List.length_map, arith_gtr, optK_mk]
    refine boolK_mk (fun _ => hE) fun h => ?_
    have h := of_decide_eq_false h
    simp only [arith_add, optK_mk]
    rw [wrap64 (by omega) (by omega)]
    refine ⟨_, by omega, trivial, i + 1, rfl, by omega, rfl, fun j r hj hr => ?_⟩
    by_cases e : j = i
    · subst e
      rw [List.getElem?_eq_getElem hlt] at hr
      cases hr; omega
    · exact hq j r (by omega) hr
  · have hge : i = rs.length := by have := of_decide_eq_false hge; omega
    simp only [arith_leq, optK_mk]
    by_cases h60 : rs.length ≤ 60
    · rw [decide_eq_true (show (rs.length : Int) ≤ 60 by omega)]
      refine hK (fun r hr => ?_) h60
      obtain ⟨j, hj, rfl⟩ := List.getElem_of_mem hr
      exact hq j _ (by omega) (List.getElem?_eq_getElem hj)
    · rw [decide_eq_false (show ¬ (rs.length : Int) ≤ 60 by omega)]
      exact hE
theorem Pick13_in {x : Int} {n : Nat} (hn : 1 ≤ n ∧ n ≤ 1000) (hK : ∀ r : Nat, r < n → K (.int .i64 r) s) : wpCall Try.prog XX 29 [.int .i64 x, .int .i64 n] K s := by
  refine vc_leafmeshkit_Pick_in ?_
  have h1 : x.tmod n < n := Int.tmod_lt_of_pos x (by omega)
  have h2 : -(n : Int) < x.tmod n := Int.lt_tmod_of_pos x (by omega)
  simp only [vc_leafmeshkit_Pick, arith_rem (k := .i64) (x := x) (y := (n : Int)) (by omega), optK_mk]
  generalize x.tmod n = y at h1 h2
  simp only [arith_lss, optK_mk]
  refine boolK_mk (fun h => ?_) (fun h => ?_)
  · have h := of_decide_eq_true h
    simp only [arith_add, optK_mk, vc_leafmeshkit_Pick_j0]
    rw [wrap64 (by omega) (by omega)]
    have e : y + n = ((y + n).toNat : Int) := by omega
    rw [e]
    exact hK _ (by omega)
  · have h := of_decide_eq_false h
    simp only [vc_leafmeshkit_Pick_j0]
    have e : y = (y.toNat : Int) := by omega
    rw [e]
    exact hK _ (by omega)
theorem Db.alive (z : Db Fz s d m nodes node last F) : s d ≠ none ∧ s m ≠ none := by
  obtain ⟨l, ⟨es, c, h, _⟩, _⟩ := z.mp
  exact ⟨by rw [z.dc]; exact Option.some_ne_none _, by rw [h]; exact Option.some_ne_none _⟩
theorem allR_good (z : Db Fz s d m nodes node last F) : (allR F).length ≤ 32 ∧ ∀ r ∈ allR F, r.2.2.length ≤ 100000 := by
  obtain ⟨_, h⟩ := z.short
  refine ⟨?_, fun r hr => ?_⟩
  · refine Nat.le_trans (List.length_filterMap_le _ _) ?_
    rw [(sortI_perm _).length_eq, List.length_map]; exact h
  · unfold allR at hr
    obtain ⟨k, _, hk⟩ := List.mem_filterMap.1 hr
    exact (z.gd k r hk).2.2
theorem liv_keep {s1 t t' : Heap} {x y : Nat} (h : ∀ b, s1 b ≠ none → t b ≠ none) (k : KeepBut (fun i => i = x ∨ i = y) t t') (hx : t' x ≠ none) (hy : t' y ≠ none) : ∀ b, s1 b ≠ none → t' b ≠ none := fun b hb => by
  by_cases e1 : b = x
  · rw [e1]; exact hx
  · by_cases e2 : b = y
    · rw [e2]; exact hy
    · cases e : t b with
      | none => exact absurd e (h b hb)
      | some z => rw [k b z e (by rintro (q | q); exact e1 q; exact e2 q)]; exact Option.some_ne_none _
theorem mem_take_succ {rs : List Rec} {i : Nat} (hi : i < rs.length) : rs.take (i + 1) = rs.take i ++ [rs[i]] := by rw [List.take_add_one, List.getElem?_eq_getElem hi]; rfl
theorem Order_in {ov : AVal} {rs : List Rec} {os : List Int} (ha : Rcs s v rs) (hm : rs.length ≤ 9223372036854775807) (ho : Sli s ov os) : wpCall Try.prog XX 5 [v, ov] (fun v _ => v = .bool true) s := by
  refine vc_leafmeshlaw13_LsdbOrder_in (wp_closedM rfl rfl ?_)
  have give : ∀ t17 t20, pickV t17 (.bool true) t20 = some (.bool true) → vc_leafmeshlaw13_LsdbOrder_j0 XX v ov (.bool true) t17 t20 (fun v _ => v = .bool true) s := fun t17 t20 h => by
    simp only [vc_leafmeshlaw13_LsdbOrder_j0, h, optK_mk, boolK_true]
  refine light_in ha hm ?_ fun hsh h60 => ?_
  · simp only [unary_not, Bool.not_false, boolK_true, optK_mk]
    exact give _ _ (by rw [pickV_true])
  simp only [unary_not, Bool.not_true, boolK_false, ho.len, List.length_map, arith_gtr, optK_mk]
  by_cases hol : 200 < os.length
  · simp only [decide_eq_true (show (200 : Int) < os.length by omega)]
    exact give _ _ (by rw [pickV_false])
  simp only [decide_eq_false (show ¬ (200 : Int) < os.length by omega), vc_leafmeshlaw13_LsdbOrder_j0, pickV_false, boolK_false, optK_mk]
  refine New13_in (by decide) fun s1 da ma sub1 hda hma mkA => ?_
  have zA1 := mkA (fun b => s b ≠ none) fun b h => h
  obtain ⟨aA1, aA2⟩ := zA1.alive
  simp only [ext0, ext1, optK_mk]
  refine New13_in (by decide) fun s2 db mb sub2 hdb hmb mkB => ?_
  have zB2 := mkB (fun b => s1 b ≠ none) fun b h => h
  have zA2 := ((zA1.ext hdb).ext hmb).sub sub2
  simp only [ext0, ext1, optK_mk, eqV_int, negB_mk, beq_self_eq_true, Bool.true_bne, Bool.not_true, boolK_false, vc_leafmeshlaw13_LsdbOrder_j1, pickV_false]
  have sub02 := sub1.trans sub2
  -- what stays: the arguments, and both databases
  have hFA : ∀ {t : Heap} {lB : Int} {G : List (Int × Rec)}, Sub s t → Db (fun b => s1 b ≠ none) t db mb 8 7 lB G → ∀ b, ((s b ≠ none ∨ b = db) ∨ b = mb) → t b ≠ none := fun {t lB G} hs zB b hb => by
    rcases hb with (hb | rfl) | rfl
    · cases e : s b with
      | none => exact absurd e hb
      | some x => rw [hs b x e]; exact Option.some_ne_none _
    · exact zB.alive.1
    · exact zB.alive.2
  have hFB : ∀ {t : Heap}, Sub s1 t → ∀ b, s1 b ≠ none → t b ≠ none := fun {t} hs b hb => by
    cases e : s1 b with
    | none => exact absurd e hb
    | some x => rw [hs b x e]; exact Option.some_ne_none _
  have subA : ∀ {t t' : Heap}, Sub s t → KeepBut (fun i => i = da ∨ i = ma) t t' → Sub s t' := fun {t t'} h k b e hb => k b e (h b e hb) (by rintro (rfl | rfl); rw [hda] at hb; cases hb; rw [hma] at hb; cases hb)
  have hdb0 : s db = none := by
    cases e : s db with
    | none => rfl
    | some x => rw [sub1 db x e] at hdb; cases hdb
  have hmb0 : s mb = none := by
    cases e : s mb with
    | none => rfl
    | some x => rw [sub1 mb x e] at hmb; cases hmb
  have subB : ∀ {t t' : Heap}, Sub s t → KeepBut (fun i => i = db ∨ i = mb) t t' → Sub s t' := fun {t t'} h k b e hb => k b e (h b e hb) (by rintro (rfl | rfl); rw [hdb0] at hb; cases hb; rw [hmb0] at hb; cases hb)
  -- behind both: the answers
  have fin : ∀ {t : Heap} {lA lB : Int} {FA FB : List (Int × Rec)} {qs : List Rec}, Db (fun b => (s b ≠ none ∨ b = db) ∨ b = mb) t da ma 8 7 lA FA → Db (fun b => s1 b ≠ none) t db mb 8 7 lB FB → (∀ k, Best 8 7 rs k (look FA k)) → (∀ k, Best 8 7 qs k (look FB k)) → (∀ r, r ∈ rs ↔ r ∈ qs) →
      wpCall Try.prog XX 18 [.ptr da 0] (fun v_49 s_50 => wpCall Try.prog XX 18 [.ptr db 0] (fun v_51 s_52 => wpCall Try.prog XX 22 [v_49, v_51] (fun v_53 s_54 => vc_leafmeshlaw13_LsdbOrder_j6 XX (.bool true) v_53 (fun v _ => v = .bool true) s_54) s_52) s_50) t := by
    intro t lA lB FA FB qs zA zB hA hB hm
    refine All_in zA fun v1 t1 k1 r1 => ?_
    refine All_in (zB.sub k1) fun v2 t2 k2 r2 => ?_
    have e : allR FA = allR FB := allR_ext zA.short.1 zB.short.1 fun k => best_uniq hm (hA k) (hB k)
    rw [← e] at r2
    obtain ⟨a1, a2⟩ := allR_good zA
    refine records_in (r1.rcs.sub k2) r2.rcs (by omega) a2 fun t3 k3 => ?_
    simp only [vc_leafmeshlaw13_LsdbOrder_j6, pickV_true, optK_mk]
  -- the last round: all records, the last one first
  have tail : ∀ {t : Heap} {lA lB : Int} {FA FB : List (Int × Rec)} {qs : List Rec}, Sub s t → (∀ b, s1 b ≠ none → t b ≠ none) → Db (fun b => (s b ≠ none ∨ b = db) ∨ b = mb) t da ma 8 7 lA FA → Db (fun b => s1 b ≠ none) t db mb 8 7 lB FB → (∀ k, Best 8 7 rs k (look FA k)) → (∀ r ∈ qs, r ∈ rs) → (∀ k, Best 8 7 qs k (look FB k)) →
      ∃ I5 : List AVal → Heap → Nat → Prop, (∃ m, I5 [.int .i64 ((rs.length : Int) - 1)] t m) ∧ ∀ (f : Env) (s : Heap) (m5 : Nat), I5 [f 12] s m5 → vc_leafmeshlaw13_LsdbOrder_l5 XX v (.bool true) (.ptr da 0) (.ptr db 0) (f 12) I5 m5 (fun v _ => v = .bool true) s := by
    intro t lA lB FA FB qs hs lv0 zA zB hA hq hB
    refine ⟨fun ys t k => ∃ (lB : Int) (FB : List (Int × Rec)) (qs : List Rec), ys = [.int .i64 ((k : Int) - 1)] ∧ k ≤ rs.length ∧ Sub s t ∧ (∀ b, s1 b ≠ none → t b ≠ none) ∧ Db (fun b => (s b ≠ none ∨ b = db) ∨ b = mb) t da ma 8 7 lA FA ∧ Db (fun b => s1 b ≠ none) t db mb 8 7 lB FB ∧ (∀ r ∈ qs, r ∈ rs) ∧ (∀ (j : Nat) (r : Rec), k ≤ j → rs[j]? = some r → r ∈ qs) ∧ ∀ k, Best 8 7 qs k (look FB k), ⟨rs.length, lB, FB, qs, rfl, by omega, hs, lv0, zA, zB, hq, fun j r hj hr => (by rw [List.getElem?_eq_none hj] at hr; cases hr), hB⟩, ?_⟩
    rintro f t k ⟨lB, FB, qs, hy, hk, hs, lv0, zA, zB, hq, hall, hB⟩
    simp only [List.cons.injEq, and_true] at hy
    rw [hy]
    have har := ha.sub hs
    simp only [vc_leafmeshlaw13_LsdbOrder_l5, arith_geq, optK_mk]
    refine boolK_mk (fun hge => ?_) (fun hlt => ?_)
    · have hge : 1 ≤ k := by have := of_decide_eq_true hge; omega
      obtain ⟨i, rfl⟩ : ∃ i, k = i + 1 := ⟨k - 1, by omega⟩
      have ei : (((i + 1 : Nat) : Int) - 1) = (i : Int) := by omega
      rw [ei]
      obtain ⟨p, o, lv, g1, g2, g3, _⟩ := har.at (show i < rs.length by omega)
      have hrl := hsh _ (List.getElem_mem (show i < rs.length by omega))
      simp only [g1, g2, optK_mk]
      refine Receive_in zB lv0 g3 (by omega) fun t' kb zB' => ?_
      simp only [arith_sub, optK_mk]
      rw [wrap64 (by omega) (by omega)]
      refine ⟨i, by omega, _, _, qs ++ [rs[i]], rfl, by omega, subB hs kb, fun b hb => ?_, zA.keep kb fun j hj => ?_, zB', fun r hr => ?_, fun j r hj hr => ?_, fun k => best_step hB k⟩
      · cases e : t b with
        | none => exact absurd e (lv0 b hb)
        | some z => rw [kb b z e (by rintro (rfl | rfl); exact hb hdb; exact hb hmb)]; exact Option.some_ne_none _
      · rcases hj with rfl | rfl
        · exact .inl (.inr rfl)
        · exact .inr rfl
      · rw [List.mem_append, List.mem_singleton] at hr
        rcases hr with hr | rfl
        · exact hq r hr
        · exact List.getElem_mem _
      · rw [List.mem_append, List.mem_singleton]
        by_cases e : j = i
        · subst e
          rw [List.getElem?_eq_getElem (by omega)] at hr
          cases hr; exact .inr rfl
        · exact .inl (hall j r (by omega) hr)
    · have hk0 : k = 0 := by have := of_decide_eq_false hlt; omega
      subst hk0
      simp only [boolK_true]
      refine fin zA zB hA hB fun r => ⟨fun hr => ?_, hq r⟩
      obtain ⟨j, hj, rfl⟩ := List.getElem_of_mem hr
      exact hall j _ (by omega) (List.getElem?_eq_getElem hj)
  refine ⟨fun ys t k => ∃ (i : Nat) (lA : Int) (FA : List (Int × Rec)), ys = [.int .i64 i] ∧ i ≤ rs.length ∧ k = rs.length - i ∧ Sub s t ∧ (∀ b, s1 b ≠ none → t b ≠ none) ∧ Db (fun b => (s b ≠ none ∨ b = db) ∨ b = mb) t da ma 8 7 lA FA ∧ (∃ lB, Db (fun b => s1 b ≠ none) t db mb 8 7 lB []) ∧ ∀ k, Best 8 7 (rs.take i) k (look FA k), ⟨_, 0, 0, [], rfl, by omega, rfl, sub02, hFB sub2, zA2, ⟨0, zB2⟩, fun k r hr => by simp at hr⟩, ?_⟩
  rintro f t k ⟨i, lA, FA, hy, hi, rfl, hs, lv0, zA, ⟨lB, zB⟩, hbA⟩
  simp only [List.cons.injEq, and_true] at hy
  rw [hy]
  have har := ha.sub hs
  simp only [vc_leafmeshlaw13_LsdbOrder_l2, har.len, arith_lss, optK_mk]
  refine boolK_mk (fun hlt => ?_) (fun hge => ?_)
  · have hlt : i < rs.length := by have := of_decide_eq_true hlt; omega
    obtain ⟨p, o, lv, g1, g2, g3, _⟩ := har.at hlt
    have hrl := hsh _ (List.getElem_mem hlt)
    simp only [g1, g2, optK_mk]
    refine Receive_in zA (hFA hs zB) g3 (by omega) fun t' kb zA' => ?_
    simp only [arith_add, optK_mk]
    rw [wrap64 (by omega) (by omega)]
    refine ⟨_, by omega, i + 1, _, _, rfl, by omega, rfl, subA hs kb, liv_keep lv0 kb zA'.alive.1 zA'.alive.2, zA', ⟨lB, zB.keep kb fun j hj => ?_⟩, fun k => ?_⟩
    · rcases hj with rfl | rfl
      · exact aA1
      · exact aA2
    · rw [mem_take_succ hlt]
      exact best_step hbA k
  · have hge : i = rs.length := by have := of_decide_eq_false hge; omega
    rw [hge, List.take_length] at hbA
    -- the second database: any of the records
    refine ⟨fun ys t k => ∃ (i : Nat) (lB : Int) (FB : List (Int × Rec)) (qs : List Rec), ys = [.int .i64 i] ∧ i ≤ os.length ∧ k = os.length - i ∧ Sub s t ∧ (∀ b, s1 b ≠ none → t b ≠ none) ∧ Db (fun b => (s b ≠ none ∨ b = db) ∨ b = mb) t da ma 8 7 lA FA ∧ Db (fun b => s1 b ≠ none) t db mb 8 7 lB FB ∧ (∀ r ∈ qs, r ∈ rs) ∧ ∀ k, Best 8 7 qs k (look FB k), ⟨_, 0, lB, [], [], rfl, by omega, rfl, hs, lv0, zA, zB, fun r hr => by simp at hr, fun k r hr => by simp at hr⟩, ?_⟩
    rintro f t k ⟨i, lB, FB, qs, hy, hi, rfl, hs, lv0, zA, zB, hqs, hbB⟩
    simp only [List.cons.injEq, and_true] at hy
    rw [hy]
    have har := ha.sub hs
    have hor := ho.sub hs
    have done : optK (lenOfA v) fun v_39 => optK (arithV .sub (.int .i64 v_39) (.int .i64 1)) fun v_41 =>
        ∃ I5 : List AVal → Heap → Nat → Prop, (∃ m, I5 [v_41] t m) ∧ ∀ (f : Env) (s : Heap) (m5 : Nat), I5 [f 12] s m5 → vc_leafmeshlaw13_LsdbOrder_l5 XX v (.bool true) (.ptr da 0) (.ptr db 0) (f 12) I5 m5 (fun v _ => v = .bool true) s := by
      simp only [har.len, arith_sub, optK_mk]
      rw [wrap64 (by omega) (by omega)]
      exact tail hs lv0 zA zB hbA hqs hbB
    simp only [vc_leafmeshlaw13_LsdbOrder_l3, hor.len, List.length_map, arith_lss, optK_mk]
    refine boolK_mk (fun hlt => ?_) (fun hge => ?_)
    · have hlt : i < os.length := by have := of_decide_eq_true hlt; omega
      rw [decide_eq_true (show (i : Int) < os.length by omega)]
      simp only [har.len, arith_gtr, vc_leafmeshlaw13_LsdbOrder_j4, pickV_true, optK_mk]
      refine boolK_mk (fun hpos => ?_) (fun _ => ?_)
      · have hpos : 0 < rs.length := by have := of_decide_eq_true hpos; omega
        obtain ⟨p, g1, g2⟩ := hor.get (i := i) (by rw [List.length_map]; exact hlt)
        have e1 : (os.map (AVal.int .i64))[i]? = some (.int .i64 os[i]) := by simp [hlt]
        rw [e1] at g2
        simp only [g1, g2, optK_mk]
        refine Pick13_in ⟨hpos, by omega⟩ fun j hj => ?_
        obtain ⟨p', o, lv, g3, g4, g5, _⟩ := har.at hj
        have hrl := hsh _ (List.getElem_mem hj)
        simp only [g3, g4, optK_mk]
        refine Receive_in zB lv0 g5 (by omega) fun t' kb zB' => ?_
        simp only [arith_add, optK_mk]
        rw [wrap64 (by omega) (by omega)]
        refine ⟨_, by omega, i + 1, _, _, qs ++ [rs[j]], rfl, by omega, rfl, subB hs kb, fun b hb => ?_, zA.keep kb fun j hj => ?_, zB', fun r hr => ?_, fun k => best_step hbB k⟩
        · cases e : t b with
          | none => exact absurd e (lv0 b hb)
          | some z => rw [kb b z e (by rintro (rfl | rfl); exact hb hdb; exact hb hmb)]; exact Option.some_ne_none _
        · rcases hj with rfl | rfl
          · exact .inl (.inr rfl)
          · exact .inr rfl
        · rw [List.mem_append, List.mem_singleton] at hr
          rcases hr with hr | rfl
          · exact hqs r hr
          · exact List.getElem_mem _
      · have t := done
        simp only [har.len, optK_mk] at t ⊢
        exact t
    · rw [decide_eq_false (show ¬ (i : Int) < os.length by have := of_decide_eq_false hge; omega)]
      simp only [vc_leafmeshlaw13_LsdbOrder_j4, pickV_false, boolK_false, optK_mk]
      exact done
end Go.AM
namespace Go.AM
open Go Go.Proofs
variable {s : Heap}
/-! ### arguments -/
abbrev RA := Int × Int × AVal × List Int
def raR (a : RA) : List AVal := [.int .i64 a.1, .int .i64 a.2.1, a.2.2.1]
def raRec (a : RA) : Rec := (a.1, a.2.1, a.2.2.2)
set_option maxRecDepth 100000 in
theorem inp_rec {d : Nat} {xs : List AVal} (h : Inp Try.prog s (d + 3) 24 xs) : ∃ a : RA, xs = raR a ∧ Sli s a.2.2.1 a.2.2.2 := by
  unfold Inp at h
  simp only [Try.underlying24] at h
  obtain ⟨h1, h2⟩ := h
  rw [show Try.prog.cellsOf 24 = 3 by kernel_rfl] at h1
  have k0 := h2 _ (List.mem_cons_self)
  have k1 := h2 _ (List.mem_cons_of_mem _ List.mem_cons_self)
  have k2 := h2 _ (List.mem_cons_of_mem _ (List.mem_cons_of_mem _ List.mem_cons_self))
  match xs, h1 with
  | [a, b, c], _ =>
    obtain ⟨n, e1, _⟩ := inp_int (xs := [a]) Try.underlying3 k0
    obtain ⟨q, e2, _⟩ := inp_int (xs := [b]) Try.underlying3 k1
    cases e1; cases e2
    obtain ⟨w, e3, l, hl, _⟩ := inp_slice (d := d + 1) (xs := [c]) Try.underlying22 (by kernel_rfl) (AVal.int .i64) (fun _ => True) (fun xs h => by obtain ⟨n, e, _⟩ := inp_int Try.underlying3 h; exact ⟨n, e, trivial⟩) k2
    cases e3
    exact ⟨(n, q, c, l), rfl, hl⟩
theorem cells24 : Try.prog.cellsOf 24 = 3 := by kernel_rfl
set_option maxRecDepth 100000 in
theorem arg_rs {d : Nat} {v : AVal} (h : Arg Try.prog s (d + 4) 35 v) : ∃ rs : List Rec, Rcs s v rs ∧ rs.length ≤ maxLen := by
  obtain ⟨l, h1, h2, h3⟩ := argR (d := d + 3) Try.underlying35 raR (fun a => Sli s a.2.2.1 a.2.2.2) (fun a => by rw [cells24]; rfl) (fun xs h => inp_rec h) h
  rw [cells24] at h1
  refine ⟨l.map raRec, ⟨l.map raR, h1, by simp, fun i r hi => ?_⟩, by simpa using h3⟩
  rw [List.getElem?_map] at hi
  cases e : l[i]? with
  | none => rw [e] at hi; cases hi
  | some a =>
    rw [e] at hi
    cases hi
    exact ⟨a.2.2.1, by rw [List.getElem?_map, e]; rfl, h2 a (List.mem_of_getElem? e)⟩
set_option maxRecDepth 100000 in
theorem arg_os {d : Nat} {v : AVal} (h : Arg Try.prog s (d + 2) 22 v) : ∃ l : List Int, Sli s v l ∧ l.length ≤ maxLen := by
  obtain ⟨l, h1, _, h3⟩ := arg_slice (d := d + 1) Try.underlying22 (by kernel_rfl) (AVal.int .i64) (fun _ => True) (fun xs h => by obtain ⟨n, e, _⟩ := inp_int Try.underlying3 h; exact ⟨n, e, trivial⟩) h
  exact ⟨l, h1, h3⟩
theorem Order_wp (s : Heap) (xs : List AVal) (h : ArgL Try.prog s 40 [35, 22] xs) : wpCall Try.prog XX 5 xs (fun v _ => v = .bool true) s := by
  obtain ⟨a, b, rfl, h1, h2⟩ := argl2 h
  obtain ⟨rs, hr, hm⟩ := arg_rs (d := 36) h1
  obtain ⟨os, ho, _⟩ := arg_os (d := 38) h2
  exact Order_in hr (by unfold maxLen at hm; omega) ho
end Go.AM
namespace Go.AM
open Go Go.Proofs
variable {nodes node last : Int} {F G : List (Int × Rec)}
/-! ### what receiving does at each key -/
def upV (node : Int) (o : Option Rec) (r : Rec) : Option Rec := match o with
  | none => if r.1 = node then none else some r
  | some o => if cmpRR r o = 1 then (if r.1 = node then (if 1073741824 ≤ r.2.1 then some o else some (node, r.2.1 + 1, o.2.2)) else some r) else some o
theorem recv_look {r : Rec} {k : Int} (hc : chkR nodes r.1 r.2.1 r.2.2 = 0) : look (recvR nodes node last F r).F k = if k = r.1 then upV node (look F k) r else look F k := by
  unfold recvR
  rw [if_neg (by simp [hc])]
  cases e : look F r.1 with
  | none =>
    by_cases hown : r.1 = node
    · simp only [if_pos hown]
      by_cases hk : k = r.1
      · rw [if_pos hk, hk, e]; simp [upV, hown]
      · rw [if_neg hk]
    · simp only [if_neg hown]
      rw [look_stor]
      by_cases hk : k = r.1
      · rw [if_pos hk, if_pos hk, hk, e]; simp [upV, hown]
      · rw [if_neg hk, if_neg hk]
  | some o =>
    simp only
    rcases cmpRR_vals r o with hv | hv | hv
    · have hv' : cmpR r.2.1 o.2.1 r.2.2 o.2.2 = -1 := hv
      rw [if_pos hv']
      by_cases hk : k = r.1
      · rw [if_pos hk, hk, e]; simp [upV, hv]
      · rw [if_neg hk]
    · have hv' : cmpR r.2.1 o.2.1 r.2.2 o.2.2 = 0 := hv
      rw [if_neg (by rw [hv']; decide), if_neg (by rw [hv']; decide)]
      by_cases hk : k = r.1
      · rw [if_pos hk, hk, e]; simp [upV, hv]
      · rw [if_neg hk]
    · have hv' : cmpR r.2.1 o.2.1 r.2.2 o.2.2 = 1 := hv
      rw [if_neg (by rw [hv']; decide), if_pos hv']
      by_cases hown : r.1 = node
      · rw [if_pos hown]
        by_cases hq : 1073741824 ≤ r.2.1
        · rw [if_pos hq]
          by_cases hk : k = r.1
          · rw [if_pos hk, hk, e]; simp [upV, hv, hown, hq]
          · rw [if_neg hk]
        · rw [if_neg hq]
          simp only
          rw [look_stor]
          by_cases hk : k = r.1
          · rw [if_pos (hk.trans hown), if_pos hk, hk, e]; simp [upV, hv, hown, hq]
          · rw [if_neg (by rw [← hown]; exact hk), if_neg hk]
      · rw [if_neg hown]
        simp only
        rw [look_stor]
        by_cases hk : k = r.1
        · rw [if_pos hk, if_pos hk, hk, e]; simp [upV, hv, hown]
        · rw [if_neg hk, if_neg hk]
/-- records that are valid, each at its key -/
def GoodF (nodes : Int) (F : List (Int × Rec)) : Prop := ∀ k r, look F k = some r → r.1 = k ∧ chkR nodes r.1 r.2.1 r.2.2 = 0
def giveV (node : Int) (src dst : Option Rec) : Option Rec := match src with
  | none => dst
  | some r => upV node dst r
structure St13 where
  last : Int
  F : List (Int × Rec)
def stepS (nodes node : Int) (x : St13) (r : Rec) : St13 := ⟨(recvR nodes node x.last x.F r).last, (recvR nodes node x.last x.F r).F⟩
def recvs (nodes node : Int) (x : St13) (rs : List Rec) : St13 := rs.foldl (stepS nodes node) x
theorem recvs_snoc {x : St13} {rs : List Rec} {r : Rec} : recvs nodes node x (rs ++ [r]) = stepS nodes node (recvs nodes node x rs) r := by
  unfold recvs; rw [List.foldl_append]; rfl
theorem recvs_keys (hg : GoodF nodes G) : ∀ {ks : List Int} {x : St13}, ks.Nodup → ∀ k, look (recvs nodes node x (ks.filterMap (look G))).F k = if k ∈ ks then giveV node (look G k) (look x.F k) else look x.F k := by
  intro ks
  induction ks with
  | nil => intro x _ k; rw [if_neg (by simp)]; rfl
  | cons j ks ih =>
    intro x hnd k
    obtain ⟨hj, hnd⟩ := List.nodup_cons.1 hnd
    cases e : look G j with
    | none =>
      rw [List.filterMap_cons_none e, ih hnd k]
      by_cases hk : k = j
      · rw [hk, if_neg hj, if_pos (by simp), e]; rfl
      · by_cases hm : k ∈ ks
        · rw [if_pos hm, if_pos (by simp [hm])]
        · rw [if_neg hm, if_neg (by simp [hk, hm])]
    | some r =>
      rw [List.filterMap_cons_some e]
      show look (recvs nodes node (stepS nodes node x r) (ks.filterMap (look G))).F k = _
      rw [ih hnd k]
      obtain ⟨h1, h2⟩ := hg j r e
      have hs : look (stepS nodes node x r).F k = if k = r.1 then upV node (look x.F k) r else look x.F k := recv_look h2
      rw [hs, h1]
      by_cases hk : k = j
      · rw [hk, if_neg hj, if_pos rfl, if_pos (by simp), e]; rfl
      · rw [if_neg hk]
        by_cases hm : k ∈ ks
        · rw [if_pos hm, if_pos (by simp [hm])]
        · rw [if_neg hm, if_neg (by simp [hk, hm])]
theorem recvs_all {x : St13} (hg : GoodF nodes G) (hnd : (G.map (·.1)).Nodup) (k : Int) : look (recvs nodes node x (allR G)).F k = giveV node (look G k) (look x.F k) := by
  have nd : (sortI (G.map (·.1))).Nodup := (sortI_perm _).nodup_iff.2 hnd
  rw [show allR G = (sortI (G.map (·.1))).filterMap (look G) from rfl, recvs_keys hg nd k]
  split
  · rfl
  · rename_i h
    rw [(sortI_perm _).mem_iff] at h
    rw [look_none.2 h]; rfl
/-! ### an exchange -/
theorem cmpRR_lt {a b : Rec} (h : a.2.1 < b.2.1) : cmpRR b a = 1 := by
  unfold cmpRR cmpR
  rw [if_neg (by omega), if_pos h]
theorem cmpRR_le {a b : Rec} (h : cmpRR b a = 1) : a.2.1 ≤ b.2.1 := by
  unfold cmpRR cmpR at h
  split at h
  · cases h
  · omega
/-- three exchanges make both agree at a key -/
theorem meet_key {na nb : Int} {k : Int} {a b : Option Rec} (hne : na ≠ nb) (ha : ∀ r, a = some r → r.1 = k ∧ r.2.1 < 1073741823) (hb : ∀ r, b = some r → r.1 = k ∧ r.2.1 < 1073741823) (ha2 : k = na → a ≠ none) (hb2 : k = nb → b ≠ none) :
    giveV nb (giveV na (giveV nb a b) a) (giveV nb a b) = giveV na (giveV nb a b) a := by
  cases a with
  | none =>
    have hk : k ≠ na := fun e => ha2 e rfl
    cases b with
    | none => rfl
    | some y =>
      obtain ⟨h1, h2⟩ := hb y rfl
      have e1 : giveV nb none (some y) = some y := rfl
      have e2 : giveV na (some y) none = some y := by show (if y.1 = na then none else some y) = _; rw [if_neg (by rw [h1]; exact hk)]
      rw [e1, e2]
      show upV nb (some y) y = some y
      simp [upV, cmpRR_refl]
  | some x =>
    obtain ⟨h1, h2⟩ := ha x rfl
    cases b with
    | none =>
      have hk : k ≠ nb := fun e => hb2 e rfl
      have e1 : giveV nb (some x) none = some x := by show (if x.1 = nb then none else some x) = _; rw [if_neg (by rw [h1]; exact hk)]
      have e2 : giveV na (some x) (some x) = some x := by show upV na (some x) x = _; simp [upV, cmpRR_refl]
      rw [e1, e2]
      show upV nb (some x) x = some x
      simp [upV, cmpRR_refl]
    | some y =>
      obtain ⟨h3, h4⟩ := hb y rfl
      by_cases hka : k = na
      · -- the first one's own key
        have hkb : k ≠ nb := fun e => hne (hka.symm.trans e)
        have hxb : x.1 ≠ nb := by rw [h1]; exact hkb
        rcases cmpRR_vals x y with hv | hv | hv
        · -- y is newer: the first one originates anew
          have e1 : giveV nb (some x) (some y) = some y := by show upV nb (some y) x = _; simp [upV, hv]
          have hv2 : cmpRR y x = 1 := by rw [cmpRR_neg, hv]; rfl
          have e2 : giveV na (some y) (some x) = some (na, y.2.1 + 1, x.2.2) := by
            show upV na (some x) y = _
            simp only [upV, hv2, if_true]
            rw [if_pos (h3.trans hka), if_neg (by omega)]
          rw [e1, e2]
          show upV nb (some y) (na, y.2.1 + 1, x.2.2) = _
          have hv3 : cmpRR (na, y.2.1 + 1, x.2.2) y = 1 := cmpRR_lt (by show y.2.1 < y.2.1 + 1; omega)
          simp only [upV, hv3, if_true]
          rw [if_neg hne]
        · have exy := cmpRR_zero hv (h1.trans h3.symm)
          subst exy
          have e1 : ∀ n, giveV n (some x) (some x) = some x := fun n => by show upV n (some x) x = _; simp [upV, cmpRR_refl]
          rw [e1, e1, e1]
        · have e1 : giveV nb (some x) (some y) = some x := by
            show upV nb (some y) x = _
            simp only [upV, hv, if_true]
            rw [if_neg hxb]
          have e2 : ∀ n, giveV n (some x) (some x) = some x := fun n => by show upV n (some x) x = _; simp [upV, cmpRR_refl]
          rw [e1, e2, e2]
      · have hya : y.1 ≠ na := by rw [h3]; exact hka
        rcases cmpRR_vals x y with hv | hv | hv
        · have e1 : giveV nb (some x) (some y) = some y := by show upV nb (some y) x = _; simp [upV, hv]
          have hv2 : cmpRR y x = 1 := by rw [cmpRR_neg, hv]; rfl
          have e2 : giveV na (some y) (some x) = some y := by
            show upV na (some x) y = _
            simp only [upV, hv2, if_true]
            rw [if_neg hya]
          rw [e1, e2]
          show upV nb (some y) y = some y
          simp [upV, cmpRR_refl]
        · have exy := cmpRR_zero hv (h1.trans h3.symm)
          subst exy
          have e1 : ∀ n, giveV n (some x) (some x) = some x := fun n => by show upV n (some x) x = _; simp [upV, cmpRR_refl]
          rw [e1, e1, e1]
        · by_cases hkb : k = nb
          · -- the second one's own key
            have e1 : giveV nb (some x) (some y) = some (nb, x.2.1 + 1, y.2.2) := by
              show upV nb (some y) x = _
              simp only [upV, hv, if_true]
              rw [if_pos (h1.trans hkb), if_neg (by omega)]
            have hv3 : cmpRR (nb, x.2.1 + 1, y.2.2) x = 1 := cmpRR_lt (by show x.2.1 < x.2.1 + 1; omega)
            have e2 : giveV na (some (nb, x.2.1 + 1, y.2.2)) (some x) = some (nb, x.2.1 + 1, y.2.2) := by
              show upV na (some x) (nb, x.2.1 + 1, y.2.2) = _
              simp only [upV, hv3, if_true]
              rw [if_neg hne.symm]
            rw [e1, e2]
            show upV nb (some (nb, x.2.1 + 1, y.2.2)) (nb, x.2.1 + 1, y.2.2) = _
            simp [upV, cmpRR_refl]
          · have e1 : giveV nb (some x) (some y) = some x := by
              show upV nb (some y) x = _
              simp only [upV, hv, if_true]
              rw [if_neg (by rw [h1]; exact hkb)]
            have e2 : ∀ n, giveV n (some x) (some x) = some x := fun n => by show upV n (some x) x = _; simp [upV, cmpRR_refl]
            rw [e1, e2, e2]
end Go.AM
namespace Go.AM
open Go Go.Proofs
variable {K : AVal → Heap → Prop} {s s' s0 : Heap} {Fz : Nat → Prop} {d m : Nat} {nodes node last n q : Int} {F G : List (Int × Rec)} {v : AVal} {L : List Int}
/-! ### an own record, the first one -/
theorem Own1_in (z : Db Fz s d m nodes node last F) (hF : ∀ b, Fz b → s b ≠ none) (h : Sli s v L) (hl : L.length ≤ 100000) (hno : look F node = none) (hlast : 0 ≤ last ∧ last < 1073741824) (hchk : chkL none L = 0)
    (hK : ∀ s' v', KeepBut (fun i => i = d ∨ i = m) s s' → Db Fz s' d m nodes node (last + 1) (stor F node (node, last + 1, L)) → Sli s' v' L → K (.tup [recV node (last + 1) v', .bool true, .int .i64 0]) s') : wpCall Try.prog XX 38 [.ptr d 0, v] K s := by
  refine vc_lsdb_DB_Own_in (new_step fun b0 s1 hb0 h1 u1 => ?_)
  have sub1 := u1.sub hb0
  have ze := (z.ext hb0).sub sub1
  have z1 := z.sub sub1
  refine valid13_in z1 ?_
  have p1 : [AVal.int .i64 nodes, .int .i64 node, .int .i64 last, .map m][1]? = some (.int .i64 node) := rfl
  have p2 : [AVal.int .i64 nodes, .int .i64 node, .int .i64 last, .map m][2]? = some (.int .i64 last) := rfl
  have p3 : [AVal.int .i64 nodes, .int .i64 node, .int .i64 last, .map m][3]? = some (.map m) := rfl
  simp only [unary_not, Bool.not_true, boolK_false, optK_mk]
  refine checkLinks_in (h.sub sub1) (by omega) ?_
  rw [hchk]
  obtain ⟨l, hm, hp⟩ := z1.mp
  have hget : getM s1 (.map m) (.int .i64 node) = some none := by
    rw [hm.get]
    rcases hp.look node with ⟨h3, _⟩ | ⟨a, o, h3, h4, _⟩
    · rw [h3]
    · rw [hno] at h4; cases h4
  have e00 : (!((0 : Int) == 0)) = false := rfl
  simp only [eqV_int, negB_mk, Bool.true_bne, e00, boolK_false, nilCheck_ptr, addOff_ptr, Nat.zero_add, rd1_mk z1.dc, p1, p3, hget, retM, cond_true, ext0, ext1, optK_mk]
  refine newM (s := s1) (l := []) fun b2 s2 hb2 h2 u2 => ?_
  generalize add s1 s2 = t at h2 u2
  refine wrAgg_step h2 rfl rfl rfl fun s3 h3 u3 => ?_
  have sub13 : Sub s1 s3 := (u2.sub hb2).upto u3 hb2
  have z3 := z1.sub sub13
  have ze3 := ze.sub sub13
  simp only [boolK_false, vc_lsdb_DB_Own_j0, pickV_false, nilCheck_ptr, addOff_ptr, Nat.zero_add, rd1_mk z3.dc, p2, arith_geq, decide_eq_false (show ¬ (1073741824 : Int) ≤ last by omega), arith_add, optK_mk]
  rw [wrap64 (by omega) (by omega)]
  have h13 := sub13 _ _ h1
  refine orig_in ze3 (fun b hb => ?_) ((h.sub sub1).sub sub13) hl fun v4 s4 k4 z4 sl4 => ?_
  · rcases hb with hb | rfl
    · cases q : s b with
      | none => exact absurd q (hF b hb)
      | some x => rw [sub13 b x (sub1 b x q)]; exact Option.some_ne_none _
    · rw [h13]; exact Option.some_ne_none _
  have hb0d : b0 ≠ d := fun e => z.alive.1 (by rw [← e]; exact hb0)
  have hb0m : b0 ≠ m := fun e => z.alive.2 (by rw [← e]; exact hb0)
  have h14 := k4 _ _ h13 (by rintro (e | e); exact hb0d e; exact hb0m e)
  refine clone_in sl4 (by omega) fun v5 s5 sub5 sl5 fr5 => ?_
  have h15 := sub5 _ _ h14
  refine wrAgg_step h15 rfl rfl (by rw [allOne_cons, allOne_cons, allOne_cons, sl5.one]; rfl) fun s6 h6 u6 => ?_
  have h6 : s6 b0 = some (false, .cells 24 [.int .i64 node, .int .i64 (last + 1), v5]) := h6
  simp only [rdN_all (n := 3) h6 rfl, optK_mk]
  refine hK s6 v5 ?_ (((z4.sub sub5).keep (u6.keep (fp := fun i => i = b0) rfl) fun i hi => .inr hi).weak fun b hb => .inl hb) ?_
  · intro b e hb hn
    rw [u6 b (ne_of_some hb0 hb)]
    exact sub5 _ _ (k4 _ _ (sub13 _ _ (sub1 _ _ hb)) hn)
  · refine sl5.keep (fp := fun i => i = b0) (u6.keep rfl) fun b o n c e hne hb => ?_
    have := fr5 b o n c e (by simpa using hne)
    rw [hb, h14] at this; cases this
/-! ### what stays true of what is received -/
structure Inv13 (node bound : Int) (last : Int) (F : List (Int × Rec)) : Prop where
  gd : GoodF 8 F
  bd : ∀ k r, look F k = some r → r.2.1 < bound
  no : look F node = none
  la : 0 ≤ last ∧ last < bound
theorem inv13_step {bound : Int} {r : Rec} (h : Inv13 node bound last F) (hr : r.2.1 < bound) : Inv13 node bound (recvR 8 node last F r).last (recvR 8 node last F r).F := by
  by_cases hc : chkR 8 r.1 r.2.1 r.2.2 = 0
  · have hq := (chkR_rg hc).2
    have hlook := fun k => recv_look (nodes := 8) (node := node) (last := last) (F := F) (k := k) hc
    have cases1 : ∀ k x, look (recvR 8 node last F r).F k = some x → x = r ∧ k = r.1 ∧ r.1 ≠ node ∨ look F k = some x := by
      intro k x hx
      rw [hlook] at hx
      by_cases e : k = r.1
      · rw [if_pos e] at hx
        unfold upV at hx
        cases e2 : look F k with
        | none =>
          rw [e2] at hx
          simp only at hx
          split at hx
          · cases hx
          · rename_i hn
            cases hx
            exact .inl ⟨rfl, e, hn⟩
        | some o =>
          rw [e2] at hx
          simp only at hx
          split at hx
          · split at hx
            · rename_i hn
              rw [e, hn, h.no] at e2; cases e2
            · rename_i hn
              cases hx
              exact .inl ⟨rfl, e, hn⟩
          · exact .inr hx
      · rw [if_neg e] at hx
        exact .inr hx
    refine ⟨fun k x hx => ?_, fun k x hx => ?_, ?_, ?_⟩
    · rcases cases1 k x hx with ⟨rfl, e, _⟩ | hx
      · exact ⟨e.symm, hc⟩
      · exact h.gd k x hx
    · rcases cases1 k x hx with ⟨rfl, _, _⟩ | hx
      · exact hr
      · exact h.bd k x hx
    · cases e : look (recvR 8 node last F r).F node with
      | none => rfl
      | some x =>
        rcases cases1 node x e with ⟨_, e2, e3⟩ | hx
        · exact absurd e2.symm e3
        · rw [h.no] at hx; cases hx
    · have hla := h.la
      unfold recvR
      rw [if_neg (by simp [hc])]
      cases e : look F r.1 with
      | none =>
        simp only
        split
        · show 0 ≤ max last r.2.1 ∧ max last r.2.1 < bound; omega
        · exact hla
      | some o =>
        simp only
        split
        · exact hla
        · split
          · split
            · rename_i hn
              rw [hn, h.no] at e; cases e
            · exact hla
          · exact hla
  · rw [show r = (r.1, r.2.1, r.2.2) from rfl, recvR_err hc]
    exact h
theorem young_in {rs : List Rec} (ha : Rcs s v rs) (hm : rs.length ≤ 1000) (hE : K (.bool false) s) (hK : (∀ r ∈ rs, r.2.1 < 536870912) → K (.bool true) s) : wpCall Try.prog XX 30 [v] K s := by
  refine vc_leafmeshlaw13_young_in ?_
  refine ⟨fun ys s2 k => s2 = s ∧ ∃ i : Nat, ys = [.int .i64 i] ∧ i ≤ rs.length ∧ k = rs.length - i ∧ ∀ (j : Nat) (r : Rec), j < i → rs[j]? = some r → r.2.1 < 536870912, ⟨_, rfl, 0, rfl, by omega, rfl, fun j r h => by omega⟩, ?_⟩
  rintro f s2 k ⟨rfl, i, hy, hi, rfl, hq⟩
  simp only [List.cons.injEq, and_true] at hy
  rw [hy]
  simp only [vc_leafmeshlaw13_young_l0, ha.len, arith_lss, optK_mk]
  refine boolK_mk (fun hlt => ?_) (fun hge => ?_)
  · have hlt : i < rs.length := by have := of_decide_eq_true hlt; omega
    obtain ⟨rows, h1, h2, h3⟩ := ha
    obtain ⟨lv, e1, e2⟩ := h3 i rs[i] (List.getElem?_eq_getElem hlt)
    obtain ⟨b, o, g1, g2, g3⟩ := h1.get e1
    have g4 := g3 1 (by omega)
    have g4 : rd1 s2 (.ptr b (o + 1)) = some (.int .i64 rs[i].2.1) := g4
    simp only [g1, addOff_ptr, g4, arith_geq, optK_mk]
    refine boolK_mk (fun _ => hE) fun h => ?_
    have h := of_decide_eq_false h
    simp only [arith_add, optK_mk]
    rw [wrap64 (by omega) (by omega)]
    refine ⟨_, by omega, trivial, i + 1, rfl, by omega, rfl, fun j r hj hr => ?_⟩
    by_cases e : j = i
    · subst e
      rw [List.getElem?_eq_getElem hlt] at hr
      cases hr; omega
    · exact hq j r (by omega) hr
  · have hge : i = rs.length := by have := of_decide_eq_false hge; omega
    refine hK fun r hr => ?_
    obtain ⟨j, hj, rfl⟩ := List.getElem_of_mem hr
    exact hq j _ (by omega) (List.getElem?_eq_getElem hj)
/-- what a database has that has received records and has originated its own one -/
structure Beg (node : Int) (L : List Int) (last : Int) (F : List (Int × Rec)) : Prop where
  gd : GoodF 8 F
  bd : ∀ k r, look F k = some r → r.2.1 < 1073741823
  ow : look F node = some (node, last, L)
theorem ext3 {a b c : AVal} : extractA (.tup [a, b, c]) 0 = some a ∧ extractA (.tup [a, b, c]) 1 = some b ∧ extractA (.tup [a, b, c]) 2 = some c := ⟨rfl, rfl, rfl⟩
theorem begun_in {rv lv : AVal} {rs : List Rec} (hn : 0 ≤ node ∧ node < 8) (ha : Rcs s rv rs) (hm : rs.length ≤ 60) (hsh : ∀ r ∈ rs, r.2.2.length ≤ 20) (hy : ∀ r ∈ rs, r.2.1 < 536870912) (hL : Sli s lv L) (hLl : L.length ≤ 100000) (hchk : chkL none L = 0)
    (hK : ∀ s' d m last F, Sub s s' → s d = none → s m = none → Db (fun b => s b ≠ none) s' d m 8 node last F → Beg node L last F → K (.ptr d 0) s') : wpCall Try.prog XX 31 [.int .i64 node, rv, lv] K s := by
  refine vc_leafmeshlaw13_begun_in (New13_in (by omega) fun s1 d m sub1 hd hmm mk => ?_)
  have z1 := mk (fun b => s b ≠ none) fun b h => h
  simp only [ext0, ext1, eqV_int, eqV_ptr, negB_mk, beq_self_eq_true, Bool.true_bne, Bool.false_bne, Bool.not_true, boolK_false, vc_leafmeshlaw13_begun_j0, pickV_false, optK_mk]
  refine ⟨fun ys t k => ∃ (i : Nat) (la : Int) (F : List (Int × Rec)), ys = [.int .i64 i] ∧ i ≤ rs.length ∧ k = rs.length - i ∧ Sub s t ∧ Db (fun b => s b ≠ none) t d m 8 node la F ∧ Inv13 node 536870912 la F, ⟨_, 0, 0, [], rfl, by omega, rfl, sub1, z1, ⟨fun k r h => (by cases h), fun k r h => (by cases h), rfl, by omega⟩⟩, ?_⟩
  rintro f t k ⟨i, la, F, hy1, hi, rfl, hs, z, inv⟩
  simp only [List.cons.injEq, and_true] at hy1
  rw [hy1]
  have har := ha.sub hs
  have hF : ∀ b, s b ≠ none → t b ≠ none := fun b hb => by
    cases e : s b with
    | none => exact absurd e hb
    | some x => rw [hs b x e]; exact Option.some_ne_none _
  have subK : ∀ {t' : Heap}, KeepBut (fun i => i = d ∨ i = m) t t' → Sub s t' := fun {t'} k b e hb => k b e (hs b e hb) (by rintro (rfl | rfl); rw [hd] at hb; cases hb; rw [hmm] at hb; cases hb)
  simp only [vc_leafmeshlaw13_begun_l1, har.len, arith_lss, optK_mk]
  refine boolK_mk (fun hlt => ?_) (fun hge => ?_)
  · have hlt : i < rs.length := by have := of_decide_eq_true hlt; omega
    obtain ⟨p, o, lv', g1, g2, g3, _⟩ := har.at hlt
    have hrl := hsh _ (List.getElem_mem hlt)
    simp only [g1, g2, optK_mk]
    refine Receive_in z hF g3 (by omega) fun t' kb z' => ?_
    simp only [arith_add, optK_mk]
    rw [wrap64 (by omega) (by omega)]
    exact ⟨_, by omega, i + 1, _, _, rfl, by omega, rfl, subK kb, z', inv13_step inv (hy _ (List.getElem_mem hlt))⟩
  · have hla := inv.la
    refine Own1_in z hF (hL.sub hs) hLl inv.no (by omega) hchk fun t' v' kb z' sl' => ?_
    simp only [ext3, optK_mk]
    refine new_step fun b t1 hb h1 u1 => wrAgg_step h1 rfl rfl (by rw [allOne_cons, allOne_cons, allOne_cons, sl'.one]; rfl) fun t2 h2 u2 => ?_
    have subt : Sub t' t2 := (u1.sub hb).upto u2 hb
    simp only [eqV_int, negB_mk, beq_self_eq_true, Bool.true_bne, Bool.not_true, boolK_false, optK_mk]
    refine hK t2 d m _ _ ((subK kb).trans subt) hd hmm (z'.sub subt) ⟨fun k r h => ?_, fun k r h => ?_, ?_⟩
    · rw [look_stor] at h
      split at h
      · rename_i e
        cases h
        refine ⟨e.symm, ?_⟩
        unfold chkR
        rw [if_neg (by show ¬ (node < 0 ∨ 8 ≤ node ∨ la + 1 < 1 ∨ 1073741824 < la + 1); omega)]
        exact hchk
      · exact inv.gd k r h
    · rw [look_stor] at h
      split at h
      · cases h
        show la + 1 < _; omega
      · have := inv.bd k r h; omega
    · rw [look_stor, if_pos rfl]
theorem Get_in (z : Db Fz s d m nodes node last F) {o : Rec} (hlk : look F n = some o) (hK : ∀ s' v', Sub s s' → Sli s' v' o.2.2 → K (.tup [recV o.1 o.2.1 v', .bool true]) s') : wpCall Try.prog XX 33 [.ptr d 0, .int .i64 n] K s := by
  refine vc_lsdb_DB_Get_in (new_step fun b0 s1 hb0 h1 u1 => ?_)
  have sub1 := u1.sub hb0
  have z1 := z.sub sub1
  refine valid13_in z1 ?_
  have p3 : [AVal.int .i64 nodes, .int .i64 node, .int .i64 last, .map m][3]? = some (.map m) := rfl
  obtain ⟨l, hm, hp⟩ := z1.mp
  rcases hp.look n with ⟨_, h4⟩ | ⟨a, o', h3, h4, lo, rfl, hlo, _⟩
  · rw [hlk] at h4; cases h4
  rw [hlk] at h4; cases h4
  have hol := (z.gd _ _ hlk).2.2
  simp only [unary_not, Bool.not_true, boolK_false, nilCheck_ptr, addOff_ptr, Nat.zero_add, rd1_mk z1.dc, p3, hm.get, h3, retM, cond_true, ext0, ext1, optK_mk]
  refine new_step fun b2 s2 hb2 h2 u2 => wrAgg_step h2 rfl rfl (by rw [allOne_cons, allOne_cons, allOne_cons, hlo.one]; rfl) fun s3 h3' u3 => ?_
  have h3' : s3 b2 = some (false, .cells 24 [.int .i64 o.1, .int .i64 o.2.1, lo]) := h3'
  have sub13 : Sub s1 s3 := (u2.sub hb2).upto u3 hb2
  simp only [rdN_all (n := 3) h3' rfl, optK_mk]
  refine clone_in (hlo.sub sub13) (by omega) fun v4 s4 sub4 sl4 fr4 => ?_
  have h14 := sub4 _ _ (sub13 _ _ h1)
  refine wrAgg_step h14 rfl rfl (by rw [allOne_cons, allOne_cons, allOne_cons, sl4.one]; rfl) fun s5 h5 u5 => ?_
  have h5 : s5 b0 = some (false, .cells 24 [.int .i64 o.1, .int .i64 o.2.1, v4]) := h5
  simp only [rdN_all (n := 3) h5 rfl, optK_mk]
  refine hK s5 v4 (((sub1.trans sub13).trans sub4).upto u5 hb0) ?_
  refine sl4.keep (fp := fun i => i = b0) (u5.keep rfl) fun b o n c e hne hb => ?_
  have := fr4 b o n c e (by simpa using hne)
  rw [hb, sub13 _ _ h1] at this; cases this
end Go.AM
namespace Go.AM
open Go Go.Proofs
variable {K : AVal → Heap → Prop} {s s' s0 : Heap} {d m : Nat} {nodes node last n q : Int} {F G : List (Int × Rec)} {v : AVal} {L : List Int}
theorem good_step {r : Rec} (hg : GoodF nodes F) (hc : chkR nodes r.1 r.2.1 r.2.2 = 0) : GoodF nodes (recvR nodes node last F r).F := by
  intro k x hx
  rw [recv_look hc] at hx
  by_cases e : k = r.1
  · rw [if_pos e] at hx
    unfold upV at hx
    cases e2 : look F k with
    | none =>
      rw [e2] at hx
      simp only at hx
      split at hx
      · cases hx
      · cases hx; exact ⟨e.symm, hc⟩
    | some o =>
      rw [e2] at hx
      simp only at hx
      obtain ⟨h1, h2⟩ := hg k o e2
      split at hx
      · split at hx
        · rename_i hn
          split at hx
          · cases hx; exact ⟨h1, h2⟩
          · rename_i hq
            cases hx
            refine ⟨(hn.symm.trans e.symm), ?_⟩
            have hr := chkR_rg hc
            unfold chkR at h2 ⊢
            rw [if_neg (by show ¬ (node < 0 ∨ nodes ≤ node ∨ r.2.1 + 1 < 1 ∨ 1073741824 < r.2.1 + 1); rw [← hn]; omega)]
            split at h2
            · cases h2
            · exact h2
        · cases hx; exact ⟨e.symm, hc⟩
      · cases hx; exact ⟨h1, h2⟩
  · rw [if_neg e] at hx
    exact hg k x hx
theorem good_recvs : ∀ {rs : List Rec} {x : St13}, GoodF nodes x.F → (∀ r ∈ rs, chkR nodes r.1 r.2.1 r.2.2 = 0) → GoodF nodes (recvs nodes node x rs).F := by
  intro rs
  induction rs with
  | nil => intro x h _; exact h
  | cons r rs ih =>
    intro x h hr
    show GoodF nodes (recvs nodes node (stepS nodes node x r) rs).F
    exact ih (good_step h (hr r (by simp))) fun y hy => hr y (by simp [hy])
theorem allR_chk (hg : GoodF nodes F) : ∀ r ∈ allR F, chkR nodes r.1 r.2.1 r.2.2 = 0 := fun r hr => by
  unfold allR at hr
  obtain ⟨k, _, hk⟩ := List.mem_filterMap.1 hr
  exact (hg k r hk).2
theorem liv_keepQ {Q : Nat → Prop} {t t' : Heap} {x y : Nat} (h : ∀ b, Q b → t b ≠ none) (k : KeepBut (fun i => i = x ∨ i = y) t t') (hx : t' x ≠ none) (hy : t' y ≠ none) : ∀ b, Q b → t' b ≠ none := fun b hb => by
  by_cases e1 : b = x
  · rw [e1]; exact hx
  · by_cases e2 : b = y
    · rw [e2]; exact hy
    · cases e : t b with
      | none => exact absurd e (h b hb)
      | some z => rw [k b z e (by rintro (q | q); exact e1 q; exact e2 q)]; exact Option.some_ne_none _
theorem gives_in {FzA FzB : Nat → Prop} {da ma db mb : Nat} {na nb lA lB : Int} {FA FB : List (Int × Rec)} (zA : Db FzA s da ma 8 na lA FA) (zB : Db FzB s db mb 8 nb lB FB) (hA : ∀ b, b = db ∨ b = mb → FzA b) (hB : ∀ b, FzB b → s b ≠ none)
    (hK : ∀ s', KeepBut (fun i => i = db ∨ i = mb) s s' → Db FzB s' db mb 8 nb (recvs 8 nb ⟨lB, FB⟩ (allR FA)).last (recvs 8 nb ⟨lB, FB⟩ (allR FA)).F → Db FzA s' da ma 8 na lA FA → K (.tup []) s') : wpCall Try.prog XX 32 [.ptr da 0, .ptr db 0] K s := by
  obtain ⟨hlen, hshort⟩ := allR_good zA
  refine vc_leafmeshlaw13_gives_in (All_in zA fun v1 s1 sub1 r1 => ?_)
  have hB1 : ∀ b, FzB b → s1 b ≠ none := fun b hb => by
    cases e : s b with
    | none => exact absurd e (hB b hb)
    | some x => rw [sub1 b x e]; exact Option.some_ne_none _
  refine ⟨fun ys t k => ∃ i : Nat, ys = [.int .i64 i] ∧ i ≤ (allR FA).length ∧ k = (allR FA).length - i ∧ KeepBut (fun i => i = db ∨ i = mb) s t ∧ (∀ b, FzB b → t b ≠ none) ∧ RcsF (fun x => s x ≠ none) t v1 (allR FA) ∧ Db FzA t da ma 8 na lA FA ∧ Db FzB t db mb 8 nb (recvs 8 nb ⟨lB, FB⟩ ((allR FA).take i)).last (recvs 8 nb ⟨lB, FB⟩ ((allR FA).take i)).F, ⟨_, 0, rfl, by omega, rfl, sub1.keep, hB1, r1, zA.sub sub1, zB.sub sub1⟩, ?_⟩
  rintro f t k ⟨i, hy, hi, rfl, kt, lv, r2, zA2, zB2⟩
  simp only [List.cons.injEq, and_true] at hy
  rw [hy]
  simp only [vc_leafmeshlaw13_gives_l0, r2.rcs.len, arith_lss, optK_mk]
  refine boolK_mk (fun hlt => ?_) (fun hge => ?_)
  · have hlt : i < (allR FA).length := by have := of_decide_eq_true hlt; omega
    obtain ⟨p, o, lv', g1, g2, g3, _⟩ := r2.rcs.at hlt
    have hrl := hshort _ (List.getElem_mem hlt)
    simp only [g1, g2, optK_mk]
    refine Receive_in zB2 lv g3 hrl fun t' kb z' => ?_
    simp only [arith_add, optK_mk]
    rw [wrap64 (by omega) (by omega)]
    refine ⟨_, by omega, i + 1, rfl, by omega, rfl, kt.trans kb, liv_keepQ lv kb z'.alive.1 z'.alive.2, r2.keep kb fun b hb => ?_, zA2.keep kb hA, ?_⟩
    · rcases hb with rfl | rfl
      · exact zB.alive.1
      · exact zB.alive.2
    · rw [mem_take_succ hlt, recvs_snoc]
      exact z'
  · have hge : i = (allR FA).length := by have := of_decide_eq_false hge; omega
    rw [hge, List.take_length] at zB2
    exact hK t kt zB2 zA2
theorem meet_own1 {na nb : Int} {a : Rec} {b : Option Rec} (hne : na ≠ nb) (ha : a.1 = na) (hb : ∀ r, b = some r → r.1 = na ∧ r.2.1 < 1073741823) : ∃ q, giveV na (giveV nb (some a) b) (some a) = some (na, q, a.2.2) := by
  have self : giveV na (some a) (some a) = some (na, a.2.1, a.2.2) := by
    show upV na (some a) a = _
    simp only [upV, cmpRR_refl]
    rw [if_neg (by decide), ← ha]
  have han : a.1 ≠ nb := by rw [ha]; exact hne
  cases b with
  | none =>
    have e1 : giveV nb (some a) none = some a := by show (if a.1 = nb then none else some a) = _; rw [if_neg han]
    rw [e1]; exact ⟨_, self⟩
  | some y =>
    obtain ⟨h3, h4⟩ := hb y rfl
    rcases cmpRR_vals a y with hv | hv | hv
    · have e1 : giveV nb (some a) (some y) = some y := by show upV nb (some y) a = _; simp [upV, hv]
      have hv2 : cmpRR y a = 1 := by rw [cmpRR_neg, hv]; rfl
      refine ⟨y.2.1 + 1, ?_⟩
      rw [e1]
      show upV na (some a) y = _
      simp only [upV, hv2, if_true]
      rw [if_pos h3, if_neg (by omega)]
    · have e1 : giveV nb (some a) (some y) = some y := by show upV nb (some y) a = _; simp [upV, hv]
      have exy := cmpRR_zero hv (ha.trans h3.symm)
      rw [e1, ← exy]; exact ⟨_, self⟩
    · have e1 : giveV nb (some a) (some y) = some a := by
        show upV nb (some y) a = _
        simp only [upV, hv, if_true]
        rw [if_neg han]
      rw [e1]; exact ⟨_, self⟩
theorem meet_own2 {na nb : Int} {a : Option Rec} {b : Rec} (hne : na ≠ nb) (hb : b.1 = nb) (ha : ∀ r, a = some r → r.1 = nb ∧ r.2.1 < 1073741823) : ∃ q, giveV na (giveV nb a (some b)) a = some (nb, q, b.2.2) := by
  have hbn : b.1 ≠ na := by rw [hb]; exact hne.symm
  have eb : some b = some (nb, b.2.1, b.2.2) := by rw [← hb]
  cases a with
  | none =>
    refine ⟨b.2.1, ?_⟩
    show (if b.1 = na then none else some b) = _
    rw [if_neg hbn]; exact eb
  | some x =>
    obtain ⟨h3, h4⟩ := ha x rfl
    rcases cmpRR_vals x b with hv | hv | hv
    · have e1 : giveV nb (some x) (some b) = some b := by show upV nb (some b) x = _; simp [upV, hv]
      have hv2 : cmpRR b x = 1 := by rw [cmpRR_neg, hv]; rfl
      refine ⟨b.2.1, ?_⟩
      rw [e1]
      show upV na (some x) b = _
      simp only [upV, hv2, if_true]
      rw [if_neg hbn]; exact eb
    · have e1 : giveV nb (some x) (some b) = some b := by show upV nb (some b) x = _; simp [upV, hv]
      have exy := cmpRR_zero hv (h3.trans hb.symm)
      refine ⟨b.2.1, ?_⟩
      rw [e1, exy]
      show upV na (some b) b = _
      simp only [upV, cmpRR_refl]
      rw [if_neg (by decide)]; exact eb
    · have e1 : giveV nb (some x) (some b) = some (nb, x.2.1 + 1, b.2.2) := by
        show upV nb (some b) x = _
        simp only [upV, hv, if_true]
        rw [if_pos h3, if_neg (by omega)]
      have hv3 : cmpRR (nb, x.2.1 + 1, b.2.2) x = 1 := cmpRR_lt (by show x.2.1 < x.2.1 + 1; omega)
      refine ⟨x.2.1 + 1, ?_⟩
      rw [e1]
      show upV na (some x) (nb, x.2.1 + 1, b.2.2) = _
      simp only [upV, hv3, if_true]
      rw [if_neg hne.symm]
theorem lit2 {x y : Int} {K : Nat → Heap → Prop} (hK : ∀ b s', s b = none → s' b = some (false, .cells 3 [.int .i64 x, .int .i64 y]) → Upto b s s' → K b s') :
    optK (fillR (repl 2 [(.int .i64 0)]) [(0, 1, (.int .i64 x)), (1, 1, (.int .i64 y))]) fun c => allOne c = true ∧ newK 3 c K s := optK_of (a := [.int .i64 x, .int .i64 y]) rfl ⟨rfl, new_step hK⟩
theorem Meets_in {lv kv : AVal} {rs qs : List Rec} (ha : Rcs s lv rs) (hm : rs.length ≤ 9223372036854775807) (hb : Rcs s kv qs) (hmb : qs.length ≤ 9223372036854775807) : wpCall Try.prog XX 6 [lv, kv] (fun v _ => v = .bool true) s := by
  have give2 : ∀ t, vc_leafmeshlaw13_LsdbMeets_j2 XX lv kv (.bool true) (.bool true) t (fun v _ => v = .bool true) s := fun t => by
    simp only [vc_leafmeshlaw13_LsdbMeets_j2, pickV_true, optK_mk, boolK_true]
  refine vc_leafmeshlaw13_LsdbMeets_in (wp_closedM rfl rfl ?_)
  refine light_in ha hm ?_ fun hsh h60 => ?_
  · simp only [unary_not, Bool.not_false, boolK_true, optK_mk, vc_leafmeshlaw13_LsdbMeets_j0, vc_leafmeshlaw13_LsdbMeets_j1, pickV_true]
    exact give2 _
  simp only [unary_not, Bool.not_true, boolK_false, optK_mk]
  refine light_in hb hmb ?_ fun hsh2 h602 => ?_
  · simp only [unary_not, Bool.not_false, boolK_true, optK_mk, vc_leafmeshlaw13_LsdbMeets_j0, vc_leafmeshlaw13_LsdbMeets_j1, pickV_true, pickV_false]
    exact give2 _
  simp only [unary_not, Bool.not_true, boolK_false, optK_mk, vc_leafmeshlaw13_LsdbMeets_j0, pickV_false]
  refine young_in ha (by omega) ?_ fun hy => ?_
  · simp only [unary_not, Bool.not_false, boolK_true, optK_mk, vc_leafmeshlaw13_LsdbMeets_j1, pickV_false]
    exact give2 _
  simp only [unary_not, Bool.not_true, boolK_false, optK_mk, vc_leafmeshlaw13_LsdbMeets_j1, pickV_false]
  refine young_in hb (by omega) ?_ fun hy2 => ?_
  · simp only [unary_not, Bool.not_false, optK_mk, vc_leafmeshlaw13_LsdbMeets_j2, pickV_false, boolK_true]
  simp only [unary_not, Bool.not_true, vc_leafmeshlaw13_LsdbMeets_j2, pickV_false, boolK_false, optK_mk]
  refine lit2 fun c1 s1 hc1 h1 u1 => ?_
  have sub1 := u1.sub hc1
  have sl1 : Sli s1 (.slc c1 0 2 (some 2) 1) [1, 4] := Sl.mk h1 rfl (by simp)
  refine begun_in (by omega) (ha.sub sub1) (by omega) hsh hy sl1 (by simp) (by decide) fun s2 da ma lA FA sub2 hda hma zA bA => ?_
  refine lit2 fun c2 s3 hc2 h3 u3 => ?_
  have sub3 := u3.sub hc2
  have sl3 : Sli s3 (.slc c2 0 2 (some 2) 1) [4, 6] := Sl.mk h3 rfl (by simp)
  have sub13 := sub2.trans sub3
  refine begun_in (by omega) (hb.sub (sub1.trans sub13)) (by omega) hsh2 hy2 sl3 (by simp) (by decide) fun s4 db mb lB FB sub4 hdb hmb' zB bB => ?_
  have zA3 := zA.sub sub3
  have zA4 := ((zA3.ext hdb).ext hmb').sub sub4
  have aA := zA3.alive
  simp only [eqV_ptr, negB_mk, Bool.false_bne, optK_mk, boolK_false, vc_leafmeshlaw13_LsdbMeets_j3, pickV_false]
  -- three exchanges
  have liv : ∀ {t : Heap}, (∀ b, s1 b ≠ none → t b ≠ none) → t db ≠ none → t mb ≠ none → ∀ b, ((s1 b ≠ none ∨ b = db) ∨ b = mb) → t b ≠ none := fun {t} h1 h2 h3 b hb => by
    rcases hb with (hb | rfl) | rfl
    · exact h1 b hb
    · exact h2
    · exact h3
  have live : ∀ {x t : Heap}, Sub x t → ∀ b, x b ≠ none → t b ≠ none := fun {x t} h b hb => by
    cases e : x b with
    | none => exact absurd e hb
    | some y => rw [h b y e]; exact Option.some_ne_none _
  refine gives_in zA4 zB (fun b hb => hb.elim (fun e => .inl (.inr e)) fun e => .inr e) (live sub4) fun s5 k5 zB5 zA5 => ?_
  have l5a : ∀ b, s1 b ≠ none → s5 b ≠ none := liv_keep (live (sub13.trans sub4)) k5 zB5.alive.1 zB5.alive.2
  have l5b : ∀ b, s3 b ≠ none → s5 b ≠ none := liv_keep (live sub4) k5 zB5.alive.1 zB5.alive.2
  refine gives_in zB5 zA5 (fun b hb => by rcases hb with rfl | rfl; exact aA.1; exact aA.2) (liv l5a zB5.alive.1 zB5.alive.2) fun s6 k6 zA6 zB6 => ?_
  have l6b : ∀ b, s3 b ≠ none → s6 b ≠ none := liv_keep l5b k6 zA6.alive.1 zA6.alive.2
  refine gives_in zA6 zB6 (fun b hb => hb.elim (fun e => .inl (.inr e)) fun e => .inr e) l6b fun s7 k7 zB7 zA7 => ?_
  -- what they have
  have g1 : GoodF 8 (recvs 8 5 ⟨lB, FB⟩ (allR FA)).F := good_recvs bB.gd (allR_chk bA.gd)
  have g2 : GoodF 8 (recvs 8 2 ⟨lA, FA⟩ (allR (recvs 8 5 ⟨lB, FB⟩ (allR FA)).F)).F := good_recvs bA.gd (allR_chk g1)
  have k1 := recvs_all (node := 5) (x := ⟨lB, FB⟩) bA.gd zA.short.1
  have k2 := recvs_all (node := 2) (x := ⟨lA, FA⟩) g1 zB5.short.1
  have k3 := recvs_all (node := 5) (x := recvs 8 5 ⟨lB, FB⟩ (allR FA)) g2 zA6.short.1
  have hA2 : ∀ k r, look FA k = some r → r.1 = k ∧ r.2.1 < 1073741823 := fun k r h => ⟨(bA.gd k r h).1, bA.bd k r h⟩
  have hB2 : ∀ k r, look FB k = some r → r.1 = k ∧ r.2.1 < 1073741823 := fun k r h => ⟨(bB.gd k r h).1, bB.bd k r h⟩
  have hA1 : ∀ k, look (recvs 8 2 ⟨lA, FA⟩ (allR (recvs 8 5 ⟨lB, FB⟩ (allR FA)).F)).F k = giveV 2 (giveV 5 (look FA k) (look FB k)) (look FA k) := fun k => by rw [k2, k1]
  have heq : ∀ k, look (recvs 8 2 ⟨lA, FA⟩ (allR (recvs 8 5 ⟨lB, FB⟩ (allR FA)).F)).F k = look (recvs 8 5 (recvs 8 5 ⟨lB, FB⟩ (allR FA)) (allR (recvs 8 2 ⟨lA, FA⟩ (allR (recvs 8 5 ⟨lB, FB⟩ (allR FA)).F)).F)).F k := fun k => by
    rw [k3, hA1, k1]
    exact (meet_key (by decide) (hA2 k) (hB2 k) (fun e => by rw [e, bA.ow]; exact Option.some_ne_none _) fun e => by rw [e, bB.ow]; exact Option.some_ne_none _).symm
  have o1 : ∃ q, look (recvs 8 2 ⟨lA, FA⟩ (allR (recvs 8 5 ⟨lB, FB⟩ (allR FA)).F)).F 2 = some (2, q, [1, 4]) := by
    rw [hA1, bA.ow]
    exact meet_own1 (na := 2) (nb := 5) (a := (2, lA, [1, 4])) (by decide) rfl (hB2 2)
  have o2 : ∃ q, look (recvs 8 2 ⟨lA, FA⟩ (allR (recvs 8 5 ⟨lB, FB⟩ (allR FA)).F)).F 5 = some (5, q, [4, 6]) := by
    rw [hA1, bB.ow]
    exact meet_own2 (na := 2) (nb := 5) (b := (5, lB, [4, 6])) (by decide) rfl (hA2 5)
  have hall := allR_ext zA7.short.1 zB7.short.1 heq
  obtain ⟨q1, o1⟩ := o1
  obtain ⟨q2, o2⟩ := o2
  generalize (recvs 8 2 ⟨lA, FA⟩ (allR (recvs 8 5 ⟨lB, FB⟩ (allR FA)).F)).F = GA at *
  refine Get_in zA7 o1 fun s8 w1 sub8 sw1 => ?_
  simp only [ext0, ext1, optK_mk]
  refine new_step fun b1 s9 hb1 h9 u9 => wrAgg_step h9 rfl rfl (by rw [allOne_cons, allOne_cons, allOne_cons, sw1.one]; rfl) fun s10 h10 u10 => ?_
  have h10 : s10 b1 = some (false, .cells 24 [.int .i64 2, .int .i64 q1, w1]) := h10
  have sub810 : Sub s8 s10 := (u9.sub hb1).upto u10 hb1
  have zA10 := zA7.sub (sub8.trans sub810)
  refine Get_in zA10 o2 fun s11 w2 sub11 sw2 => ?_
  simp only [ext0, ext1, optK_mk]
  refine new_step fun b2 s12 hb2 h12 u12 => wrAgg_step h12 rfl rfl (by rw [allOne_cons, allOne_cons, allOne_cons, sw2.one]; rfl) fun s13 h13 u13 => ?_
  have h13 : s13 b2 = some (false, .cells 24 [.int .i64 5, .int .i64 q2, w2]) := h13
  have sub1113 : Sub s11 s13 := (u12.sub hb2).upto u13 hb2
  have sub1013 := sub11.trans sub1113
  have zA13 := zA10.sub sub1013
  have zB13 := zB7.sub ((sub8.trans sub810).trans sub1013)
  simp only [boolK_true]
  refine All_in zA13 fun v1 s14 sub14 r1 => ?_
  refine All_in (zB13.sub sub14) fun v2 s15 sub15 r2 => ?_
  rw [← hall] at r2
  obtain ⟨a1, a2⟩ := allR_good zA13
  refine records_in (r1.rcs.sub sub15) r2.rcs (by omega) a2 fun s16 sub16 => ?_
  have sub1316 := (sub14.trans sub15).trans sub16
  have h16a := sub1316 _ _ (sub1013 _ _ h10)
  have h16b := sub1316 _ _ h13
  have sw1' := ((sw1.sub sub810).sub sub1013).sub sub1316
  have sw2' := (sw2.sub sub1113).sub sub1316
  have x2 : ∀ a b : Int, ∀ w : AVal, [AVal.int .i64 a, .int .i64 b, w][2]? = some w := fun _ _ _ => rfl
  simp only [vc_leafmeshlaw13_LsdbMeets_j4, vc_leafmeshlaw13_LsdbMeets_j5, vc_leafmeshlaw13_LsdbMeets_j6, pickV_true, boolK_true, addOff_ptr, Nat.zero_add, rd1_mk h16a, x2, optK_mk]
  refine lit2 fun c3 s17 hc3 h17 u17 => ?_
  have sub17 := u17.sub hc3
  have sl17 : Sli s17 (.slc c3 0 2 (some 2) 1) [1, 4] := Sl.mk h17 rfl (by simp)
  refine Same_in (sw1'.sub sub17) sl17 (by simp) ?_
  simp only [beq_self_eq_true, vc_leafmeshlaw13_LsdbMeets_j7, pickV_true, boolK_true, addOff_ptr, Nat.zero_add, rd1_mk (sub17 _ _ h16b), x2, optK_mk]
  refine lit2 fun c4 s18 hc4 h18 u18 => ?_
  have sub18 := u18.sub hc4
  have sl18 : Sli s18 (.slc c4 0 2 (some 2) 1) [4, 6] := Sl.mk h18 rfl (by simp)
  refine Same_in ((sw2'.sub sub17).sub sub18) sl18 (by simp) ?_
  simp only [beq_self_eq_true, vc_leafmeshlaw13_LsdbMeets_j8, pickV_true, optK_mk]
theorem Meets_wp (s : Heap) (xs : List AVal) (h : ArgL Try.prog s 40 [35, 35] xs) : wpCall Try.prog XX 6 xs (fun v _ => v = .bool true) s := by
  obtain ⟨a, b, rfl, h1, h2⟩ := argl2 h
  obtain ⟨rs, hr, hm⟩ := arg_rs (d := 36) h1
  obtain ⟨qs, hq, hm2⟩ := arg_rs (d := 36) h2
  exact Meets_in hr (by unfold maxLen at hm; omega) hq (by unfold maxLen at hm2; omega)
end Go.AM
