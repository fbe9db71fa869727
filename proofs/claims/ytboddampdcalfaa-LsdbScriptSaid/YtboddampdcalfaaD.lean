/- Part D of a calculus over a small memory that is proved to answer as the program does, and of its use for the functions that the law reaches: see the last part. -/
import Derived.Test.YtboddampdcalfaaV
namespace Go.AM
open Go Go.Proofs
variable {K : AVal → Heap → Prop} {s : Heap}
/-! ### lists of numbers -/
abbrev Sli (s : Heap) (v : AVal) (l : List Int) : Prop := Sl s v (l.map (AVal.int .i64))
theorem sli_at {v : AVal} {l : List Int} (h : Sli s v l) {k : Nat} (hk : k < l.length) : ∃ p, iaddrS 1 v (.int .i64 (k : Int)) = some p ∧ rd1 s p = some (.int .i64 l[k]) := by
  obtain ⟨p, h1, h2⟩ := h.get (i := k) (by simpa using hk)
  exact ⟨p, h1, by rw [h2]; simp [hk]⟩
theorem isNaN_in {x : Int} (hK : K (.bool false) s) : wpCall Try.prog XX 63 [.int .i64 x] K s := by
  refine vc_cmp_isNaN_int__in ?_
  simp only [vc_cmp_isNaN_int_, eqV_int, beq_self_eq_true, negB_mk, optK_mk, bne_self_eq_false]
  exact hK
def cmpI (x y : Int) : Int := if x < y then -1 else if y < x then 1 else 0
theorem cmpI_in {x y : Int} (hK : K (.int .i64 (cmpI x y)) s) : wpCall Try.prog XX 48 [.int .i64 x, .int .i64 y] K s := by
  refine vc_cmp_Compare_int__in (isNaN_in (isNaN_in ?_))
  simp only [boolK_false, arith_lss, arith_gtr, optK_mk]
  unfold cmpI at hK
  refine boolK_mk (fun h => ?_) (fun h => ?_)
  · rw [if_pos (of_decide_eq_true h)] at hK; exact hK
  · rw [if_neg (of_decide_eq_false h)] at hK
    refine boolK_mk (fun h2 => ?_) fun h2 => ?_
    · rw [if_pos (of_decide_eq_true h2)] at hK; exact hK
    · rw [if_neg (of_decide_eq_false h2)] at hK; exact hK
def cmpL : List Int → List Int → Int
  | [], [] => 0
  | [], _ :: _ => -1
  | _ :: _, [] => 1
  | x :: a, y :: b => if x < y then -1 else if y < x then 1 else cmpL a b
theorem cmpL_cons (x y : Int) (a b : List Int) : cmpL (x :: a) (y :: b) = if x < y then -1 else if y < x then 1 else cmpL a b := rfl
theorem cmpL_some (x : Int) (a : List Int) : cmpL (x :: a) [] = 1 := rfl
theorem cmpL_nil (b : List Int) : cmpL [] b = if 0 < b.length then -1 else 0 := by cases b <;> simp [cmpL]
theorem sCompare_in {v v' : AVal} {l m : List Int} (h : Sli s v l) (h' : Sli s v' m) (hl : l.length ≤ 1000000) (hK : K (.int .i64 (cmpL l m)) s) : wpCall Try.prog XX 49 [v, v'] K s := by
  refine vc_slices_Compare___int_int__in ?_
  simp only [vc_slices_Compare___int_int_, h.len, optK_mk, List.length_map]
  refine ⟨fun ys s1 n => ∃ k : Nat, ys = [.int .i64 k] ∧ s1 = s ∧ k ≤ l.length ∧ n = l.length - k ∧ cmpL l m = cmpL (l.drop k) (m.drop k), ⟨_, 0, rfl, rfl, by omega, rfl, by simp⟩, ?_⟩
  rintro f s1 n ⟨k, hy, rfl, hk, rfl, he⟩
  simp only [List.cons.injEq, and_true] at hy
  rw [hy]
  simp only [vc_slices_Compare___int_int__l0, h.len, h'.len, optK_mk, arith_lss, arith_geq, List.length_map]
  refine boolK_mk (fun hlt => ?_) (fun hge => ?_)
  · have hlt : k < l.length := by simpa using hlt
    obtain ⟨p, g1, g2⟩ := sli_at h hlt
    simp only [g1, g2, optK_mk]
    rw [List.drop_eq_getElem_cons hlt] at he
    refine boolK_mk (fun hm => ?_) (fun hm => ?_)
    · have hm : m.length ≤ k := by simpa using hm
      rw [List.drop_eq_nil_of_le hm] at he
      rw [he] at hK; exact hK
    · have hm : k < m.length := by simpa using hm
      obtain ⟨p', g3, g4⟩ := sli_at h' hm
      simp only [g3, g4, optK_mk]
      rw [List.drop_eq_getElem_cons hm] at he
      refine cmpI_in ?_
      simp only [eqV_int, negB_mk, optK_mk, Bool.true_bne]
      rw [cmpL_cons] at he
      unfold cmpI
      by_cases a1 : l[k] < m[k]
      · rw [if_pos a1] at he ⊢; rw [he] at hK
        refine boolK_mk (fun _ => hK) fun h => by simp at h
      · rw [if_neg a1] at he ⊢
        by_cases a2 : m[k] < l[k]
        · rw [if_pos a2] at he ⊢; rw [he] at hK
          refine boolK_mk (fun _ => hK) fun h => by simp at h
        · rw [if_neg a2] at he ⊢
          refine boolK_mk (fun h => by simp at h) fun _ => ?_
          simp only [arith_add, optK_mk]
          rw [wrap64 (by omega) (by omega)]
          exact ⟨_, by omega, k + 1, by simp, by trivial, by omega, rfl, he⟩
  · have hge : l.length ≤ k := by simpa using hge
    have hk' : k = l.length := by omega
    rw [List.drop_eq_nil_of_le hge, cmpL_nil] at he
    have : (m.drop k).length = m.length - k := List.length_drop
    refine boolK_mk (fun hlt => ?_) (fun hlt => ?_)
    · have hlt : l.length < m.length := by simpa using hlt
      rw [if_pos (by omega)] at he; rw [he] at hK; exact hK
    · have hlt : m.length ≤ l.length := by simpa using hlt
      rw [if_neg (by omega)] at he; rw [he] at hK; exact hK
theorem rCompare_in {v v' : AVal} {l m : List Int} (h : Sli s v l) (h' : Sli s v' m) (hl : l.length ≤ 1000000) (hK : K (.int .i64 (cmpL l m)) s) : wpCall Try.prog XX 50 [v, v'] K s := by
  refine vc_leafmeshref13_compare_in ?_
  refine ⟨fun ys s1 n => ∃ k : Nat, ys = [.int .i64 k] ∧ s1 = s ∧ k ≤ l.length ∧ k ≤ m.length ∧ n = l.length - k ∧ cmpL l m = cmpL (l.drop k) (m.drop k), ⟨_, 0, rfl, rfl, by omega, by omega, rfl, by simp⟩, ?_⟩
  rintro f s1 n ⟨k, hy, rfl, hk, hkm, rfl, he⟩
  simp only [List.cons.injEq, and_true] at hy
  rw [hy]
  simp only [vc_leafmeshref13_compare_l0, h.len, h'.len, optK_mk, arith_lss, arith_gtr, List.length_map, vc_leafmeshref13_compare_j1]
  refine boolK_mk (fun hlt => ?_) (fun hge => ?_)
  · rw [hlt]
    have hlt : k < l.length := by simpa using hlt
    rw [List.drop_eq_getElem_cons hlt] at he
    obtain ⟨p, g1, g2⟩ := sli_at h hlt
    simp only [pickV_true, optK_mk]
    refine boolK_mk (fun hm => ?_) (fun hm => ?_)
    · have hm : k < m.length := by simpa using hm
      obtain ⟨p', g3, g4⟩ := sli_at h' hm
      simp only [g1, g2, g3, g4, optK_mk, arith_lss, arith_gtr]
      rw [List.drop_eq_getElem_cons hm] at he
      rw [cmpL_cons] at he
      refine boolK_mk (fun a1 => ?_) (fun a1 => ?_)
      · rw [if_pos (of_decide_eq_true a1)] at he; rw [he] at hK; exact hK
      · rw [if_neg (of_decide_eq_false a1)] at he
        refine boolK_mk (fun a2 => ?_) (fun a2 => ?_)
        · rw [if_pos (of_decide_eq_true a2)] at he; rw [he] at hK; exact hK
        · rw [if_neg (of_decide_eq_false a2)] at he
          simp only [arith_add, optK_mk]
          rw [wrap64 (by omega) (by omega)]
          exact ⟨_, by omega, k + 1, by simp, by trivial, by omega, by omega, rfl, he⟩
    · have hm : m.length ≤ k := by simpa using hm
      rw [List.drop_eq_nil_of_le hm] at he
      rw [cmpL_some] at he
      rw [he] at hK
      have e1 : ¬ l.length < m.length := by omega
      have e2 : m.length < l.length := by omega
      refine boolK_mk (fun a => absurd (by simpa using a) e1) fun _ => boolK_mk (fun _ => hK) fun a => absurd e2 (by simpa using a)
  · rw [hge]
    have hge : l.length ≤ k := by simpa using hge
    have hk' : k = l.length := by omega
    rw [List.drop_eq_nil_of_le hge, cmpL_nil] at he
    have : (m.drop k).length = m.length - k := List.length_drop
    simp only [pickV_false, optK_mk, boolK_false]
    refine boolK_mk (fun hlt => ?_) (fun hlt => ?_)
    · have hlt : l.length < m.length := by simpa using hlt
      rw [if_pos (by omega)] at he; rw [he] at hK; exact hK
    · have hlt : m.length ≤ l.length := by simpa using hlt
      rw [if_neg (by omega)] at he; rw [he] at hK
      refine boolK_mk (fun a => ?_) fun _ => hK
      have : m.length < l.length := by simpa using a
      omega
/-! ### links -/
def chkL : Option Int → List Int → Int
  | _, [] => 0
  | p, x :: r => if x < 0 ∨ 128 ≤ x then 2 else if (p.any fun q => decide (x ≤ q)) = true then 10 else chkL (some x) r
def prevOf (l : List Int) (k : Nat) : Option Int := if k = 0 then none else l[k - 1]?
theorem chk_step {l : List Int} {k : Nat} (hk : k < l.length) : chkL (prevOf l k) (l.drop k) = if l[k] < 0 ∨ 128 ≤ l[k] then 2 else if ((prevOf l k).any fun q => decide (l[k] ≤ q)) = true then 10 else chkL (prevOf l (k + 1)) (l.drop (k + 1)) := by
  rw [List.drop_eq_getElem_cons hk]
  conv => lhs; unfold chkL
  have : prevOf l (k + 1) = some l[k] := by unfold prevOf; rw [if_neg (by omega)]; simp [hk]
  rw [this]
theorem checkLinks_in {v : AVal} {l : List Int} (h : Sli s v l) (hl : l.length ≤ 1000000) (hK : K (.int .i64 (chkL none l)) s) : wpCall Try.prog XX 45 [v] K s := by
  refine vc_lsdb_checkLinks_in ?_
  simp only [vc_lsdb_checkLinks, h.len, optK_mk, List.length_map]
  refine ⟨fun ys s1 n => ∃ k : Nat, ys = [.int .i64 k] ∧ s1 = s ∧ k ≤ l.length ∧ n = l.length - k ∧ chkL none l = chkL (prevOf l k) (l.drop k), ⟨_, 0, rfl, rfl, by omega, rfl, by simp [prevOf]⟩, ?_⟩
  rintro f s1 n ⟨k, hy, rfl, hk, rfl, he⟩
  simp only [List.cons.injEq, and_true] at hy
  rw [hy]
  simp only [vc_lsdb_checkLinks_l0, optK_mk, arith_lss]
  refine boolK_mk (fun hlt => ?_) (fun hge => ?_)
  · have hlt : k < l.length := by simpa using hlt
    obtain ⟨p, g1, g2⟩ := sli_at h hlt
    rw [chk_step hlt] at he
    simp only [g1, g2, optK_mk, arith_lss, arith_geq, vc_lsdb_checkLinks_j1, arith_gtr, arith_sub]
    have key : ¬ (l[k] < 0 ∨ 128 ≤ l[k]) → boolK (.bool (decide ((0:Int) < k)))
         (optK (iaddrS 1 v (.int .i64 (IntKind.i64.wrap ((k:Int) - 1)))) fun v_11 =>
          optK (rd1 s1 v_11) fun v_12 =>
          optK (arithV .leq (.int .i64 l[k]) v_12) fun v_13 =>
          vc_lsdb_checkLinks_j2 XX (.int .i64 k) (.bool (decide ((0:Int) < k))) v_13 (fun ys s1_1 n => ∃ k : Nat, ys = [.int .i64 k] ∧ s1_1 = s1 ∧ k ≤ l.length ∧ n = l.length - k ∧ chkL none l = chkL (prevOf l k) (l.drop k)) (l.length - k) K s1)
         (vc_lsdb_checkLinks_j2 XX (.int .i64 k) (.bool (decide ((0:Int) < k))) .undef (fun ys s1_1 n => ∃ k : Nat, ys = [.int .i64 k] ∧ s1_1 = s1 ∧ k ≤ l.length ∧ n = l.length - k ∧ chkL none l = chkL (prevOf l k) (l.drop k)) (l.length - k) K s1) := by
      intro hn
      rw [if_neg hn] at he
      have fin : chkL none l = chkL (prevOf l (k + 1)) (l.drop (k + 1)) → optK (arithV .add (.int .i64 k) (.int .i64 1)) fun v_9 => ∃ m', m' < l.length - k ∧ (∃ k : Nat, [v_9] = [AVal.int .i64 k] ∧ True ∧ k ≤ l.length ∧ m' = l.length - k ∧ chkL none l = chkL (prevOf l k) (l.drop k)) := by
        intro he
        simp only [arith_add, optK_mk]
        rw [wrap64 (by omega) (by omega)]
        exact ⟨_, by omega, k + 1, by simp, by trivial, by omega, rfl, he⟩
      refine boolK_mk (fun hp => ?_) (fun hp => ?_)
      · rw [hp]
        have hp : 0 < k := by simpa using hp
        obtain ⟨q, g3, g4⟩ := sli_at h (k := k - 1) (by omega)
        have e1 : IntKind.i64.wrap ((k:Int) - 1) = ((k - 1 : Nat) : Int) := by rw [wrap64 (by omega) (by omega)]; omega
        rw [e1]
        have e2 : prevOf l k = some (l[k - 1]'(by omega)) := by unfold prevOf; rw [if_neg (by omega)]; simp [show k - 1 < l.length by omega]
        rw [e2] at he
        simp only [Option.any_some] at he
        simp only [g3, g4, optK_mk, arith_leq, vc_lsdb_checkLinks_j2, pickV_true]
        refine boolK_mk (fun hc => ?_) (fun hc => ?_)
        · rw [if_pos hc] at he; rw [he] at hK; exact hK
        · rw [if_neg (by rw [hc]; simp)] at he
          exact fin he
      · rw [hp]
        have hp : k = 0 := by simpa using hp
        have e2 : prevOf l k = none := by unfold prevOf; rw [if_pos hp]
        rw [e2] at he
        simp only [Option.any_none, Bool.false_eq_true, if_false] at he
        simp only [vc_lsdb_checkLinks_j2, pickV_false, optK_mk, boolK_false]
        exact fin he
    refine boolK_mk (fun hc => ?_) (fun hc => ?_)
    · rw [hc]
      rw [if_pos (.inl (of_decide_eq_true hc))] at he; rw [he] at hK
      simp only [pickV_true, optK_mk, boolK_true]; exact hK
    · rw [hc]
      simp only [pickV_false, optK_mk]
      refine boolK_mk (fun hd => ?_) (fun hd => ?_)
      · rw [if_pos (.inr (of_decide_eq_true hd))] at he; rw [he] at hK; exact hK
      · exact key (by rintro (q | q); exact of_decide_eq_false hc q; exact of_decide_eq_false hd q)
  · have hge : l.length ≤ k := by simpa using hge
    rw [List.drop_eq_nil_of_le hge] at he
    rw [show chkL (prevOf l k) [] = 0 by unfold chkL; rfl] at he
    rw [he] at hK; exact hK
theorem rlinks_in {v : AVal} {l : List Int} (h : Sli s v l) (hl : l.length ≤ 1000000) (hK : K (.int .i64 (chkL none l)) s) : wpCall Try.prog XX 46 [v] K s := by
  refine vc_leafmeshref13_links_in ?_
  refine ⟨fun ys s1 n => ∃ k : Nat, ys = [.int .i64 k] ∧ s1 = s ∧ k ≤ l.length ∧ n = l.length - k ∧ chkL none l = chkL (prevOf l k) (l.drop k), ⟨_, 0, rfl, rfl, by omega, rfl, by simp [prevOf]⟩, ?_⟩
  rintro f s1 n ⟨k, hy, rfl, hk, rfl, he⟩
  simp only [List.cons.injEq, and_true] at hy
  rw [hy]
  simp only [vc_leafmeshref13_links_l0, optK_mk, arith_lss, h.len, List.length_map]
  refine boolK_mk (fun hlt => ?_) (fun hge => ?_)
  · have hlt : k < l.length := by simpa using hlt
    obtain ⟨p, g1, g2⟩ := sli_at h hlt
    rw [chk_step hlt] at he
    simp only [g1, g2, optK_mk, arith_lss, arith_geq, vc_leafmeshref13_links_j1, arith_gtr, arith_sub]
    have key : ¬ (l[k] < 0 ∨ 128 ≤ l[k]) → boolK (.bool (decide ((0:Int) < k)))
         (optK (iaddrS 1 v (.int .i64 (IntKind.i64.wrap ((k:Int) - 1)))) fun v_13 =>
          optK (rd1 s1 v_13) fun v_14 =>
          optK (arithV .leq (.int .i64 l[k]) v_14) fun v_15 =>
          vc_leafmeshref13_links_j2 XX (.int .i64 k) (.bool (decide ((0:Int) < k))) v_15 (fun ys s1_1 n => ∃ k : Nat, ys = [.int .i64 k] ∧ s1_1 = s1 ∧ k ≤ l.length ∧ n = l.length - k ∧ chkL none l = chkL (prevOf l k) (l.drop k)) (l.length - k) K s1)
         (vc_leafmeshref13_links_j2 XX (.int .i64 k) (.bool (decide ((0:Int) < k))) .undef (fun ys s1_1 n => ∃ k : Nat, ys = [.int .i64 k] ∧ s1_1 = s1 ∧ k ≤ l.length ∧ n = l.length - k ∧ chkL none l = chkL (prevOf l k) (l.drop k)) (l.length - k) K s1) := by
      intro hn
      rw [if_neg hn] at he
      have fin : chkL none l = chkL (prevOf l (k + 1)) (l.drop (k + 1)) → optK (arithV .add (.int .i64 k) (.int .i64 1)) fun v_9 => ∃ m', m' < l.length - k ∧ (∃ k : Nat, [v_9] = [AVal.int .i64 k] ∧ True ∧ k ≤ l.length ∧ m' = l.length - k ∧ chkL none l = chkL (prevOf l k) (l.drop k)) := by
        intro he
        simp only [arith_add, optK_mk]
        rw [wrap64 (by omega) (by omega)]
        exact ⟨_, by omega, k + 1, by simp, by trivial, by omega, rfl, he⟩
      refine boolK_mk (fun hp => ?_) (fun hp => ?_)
      · rw [hp]
        have hp : 0 < k := by simpa using hp
        obtain ⟨q, g3, g4⟩ := sli_at h (k := k - 1) (by omega)
        have e1 : IntKind.i64.wrap ((k:Int) - 1) = ((k - 1 : Nat) : Int) := by rw [wrap64 (by omega) (by omega)]; omega
        rw [e1]
        have e2 : prevOf l k = some (l[k - 1]'(by omega)) := by unfold prevOf; rw [if_neg (by omega)]; simp [show k - 1 < l.length by omega]
        rw [e2] at he
        simp only [Option.any_some] at he
        simp only [g3, g4, optK_mk, arith_leq, vc_leafmeshref13_links_j2, pickV_true]
        refine boolK_mk (fun hc => ?_) (fun hc => ?_)
        · rw [if_pos hc] at he; rw [he] at hK; exact hK
        · rw [if_neg (by rw [hc]; simp)] at he
          exact fin he
      · rw [hp]
        have hp : k = 0 := by simpa using hp
        have e2 : prevOf l k = none := by unfold prevOf; rw [if_pos hp]
        rw [e2] at he
        simp only [Option.any_none, Bool.false_eq_true, if_false] at he
        simp only [vc_leafmeshref13_links_j2, pickV_false, optK_mk, boolK_false]
        exact fin he
    refine boolK_mk (fun hc => ?_) (fun hc => ?_)
    · rw [hc]
      rw [if_pos (.inl (of_decide_eq_true hc))] at he; rw [he] at hK
      simp only [pickV_true, optK_mk, boolK_true]; exact hK
    · rw [hc]
      simp only [pickV_false, optK_mk]
      refine boolK_mk (fun hd => ?_) (fun hd => ?_)
      · rw [if_pos (.inr (of_decide_eq_true hd))] at he; rw [he] at hK; exact hK
      · exact key (by rintro (q | q); exact of_decide_eq_false hc q; exact of_decide_eq_false hd q)
  · have hge : l.length ≤ k := by simpa using hge
    rw [List.drop_eq_nil_of_le hge] at he
    rw [show chkL (prevOf l k) [] = 0 by unfold chkL; rfl] at he
    rw [he] at hK; exact hK
end Go.AM
namespace Go.AM
open Go Go.Proofs
variable {K : AVal → Heap → Prop} {s : Heap}
/-! ### records -/
theorem box3 {e : TypeId} {a b v : AVal} {K : AVal → Heap → Prop} (ha : a.one = true) (hb : b.one = true) (hv : v.one = true) (h : ∀ b0 s', s b0 = none → s' b0 = some (false, .cells e [a, b, v]) → Upto b0 s s' → K (.ptr b0 0) s') : boxK e (.agg [a, b, v]) K s :=
  ⟨by simp [ha, hb, hv], new_step h⟩
abbrev recV (n q : Int) (v : AVal) : AVal := .agg [.int .i64 n, .int .i64 q, v]
def chkR (nodes n q : Int) (l : List Int) : Int := if n < 0 ∨ nodes ≤ n ∨ q < 1 ∨ 1073741824 < q then 2 else chkL none l
theorem Check_in {nodes n q : Int} {v : AVal} {l : List Int} (h : Sli s v l) (hl : l.length ≤ 1000000) (hK : ∀ s', Sub s s' → K (.int .i64 (chkR nodes n q l)) s') : wpCall Try.prog XX 12 [.int .i64 nodes, recV n q v] K s := by
  refine vc_lsdb_Check_in (box3 rfl rfl h.one fun b s1 hb h1 u1 => ?_)
  have sub := u1.sub hb
  have fin2 : (n < 0 ∨ nodes ≤ n ∨ q < 1 ∨ 1073741824 < q) → K (.int .i64 2) s1 := fun hc => by
    have := hK s1 sub
    unfold chkR at this
    rwa [if_pos hc] at this
  have finC : ¬ (n < 0 ∨ nodes ≤ n ∨ q < 1 ∨ 1073741824 < q) → wpCall Try.prog XX 45 [v] (fun v s => K v s) s1 := fun hc => by
    refine checkLinks_in (h.sub sub) hl ?_
    have := hK s1 sub
    unfold chkR at this
    rwa [if_neg hc] at this
  simp only [addOff_ptr, optK_mk, rd1_mk h1, Nat.zero_add, List.getElem?_cons_zero, List.getElem?_cons_succ, arith_lss, arith_geq, arith_gtr, vc_lsdb_Check_j0, vc_lsdb_Check_j1, vc_lsdb_Check_j2]
  by_cases n0 : n < 0 <;> by_cases n1 : nodes ≤ n <;> by_cases n2 : q < 1 <;> by_cases n3 : 1073741824 < q <;> simp only [n0, n1, n2, n3, decide_true, decide_false, boolK_true, boolK_false, pickV_true, pickV_false, optK_mk] <;> first | exact fin2 (by omega) | exact finC (by omega)
theorem rCheck_in {nodes n q : Int} {v : AVal} {l : List Int} (h : Sli s v l) (hl : l.length ≤ 1000000) (hK : ∀ s', Sub s s' → K (.int .i64 (chkR nodes n q l)) s') : wpCall Try.prog XX 13 [.int .i64 nodes, recV n q v] K s := by
  refine vc_leafmeshref13_Check_in (box3 rfl rfl h.one fun b s1 hb h1 u1 => ?_)
  have sub := u1.sub hb
  have fin2 : (n < 0 ∨ nodes ≤ n ∨ q < 1 ∨ 1073741824 < q) → K (.int .i64 2) s1 := fun hc => by
    have := hK s1 sub
    unfold chkR at this
    rwa [if_pos hc] at this
  have finC : ¬ (n < 0 ∨ nodes ≤ n ∨ q < 1 ∨ 1073741824 < q) → wpCall Try.prog XX 46 [v] (fun v s => K v s) s1 := fun hc => by
    refine rlinks_in (h.sub sub) hl ?_
    have := hK s1 sub
    unfold chkR at this
    rwa [if_neg hc] at this
  simp only [addOff_ptr, optK_mk, rd1_mk h1, Nat.zero_add, List.getElem?_cons_zero, List.getElem?_cons_succ, arith_lss, arith_geq, arith_gtr, vc_leafmeshref13_Check_j0, vc_leafmeshref13_Check_j1, vc_leafmeshref13_Check_j2]
  by_cases n0 : n < 0 <;> by_cases n1 : nodes ≤ n <;> by_cases n2 : q < 1 <;> by_cases n3 : 1073741824 < q <;> simp only [n0, n1, n2, n3, decide_true, decide_false, boolK_true, boolK_false, pickV_true, pickV_false, optK_mk] <;> first | exact fin2 (by omega) | exact finC (by omega)
/-! ### comparing -/
def orL : List Int → Int
  | [] => 0
  | x :: r => if x ≠ 0 then x else orL r
theorem orL_cons (x : Int) (r : List Int) : orL (x :: r) = if x ≠ 0 then x else orL r := rfl
theorem Or_in {v : AVal} {l : List Int} (h : Sli s v l) (hl : l.length ≤ 1000000) (hK : K (.int .i64 (orL l)) s) : wpCall Try.prog XX 47 [v] K s := by
  refine vc_cmp_Or_int__in ?_
  simp only [vc_cmp_Or_int_, h.len, optK_mk, List.length_map]
  refine ⟨fun ys s1 n => ∃ k : Nat, ys = [.int .i64 k] ∧ s1 = s ∧ k ≤ l.length ∧ n = l.length - k ∧ orL l = orL (l.drop k), ⟨_, 0, rfl, rfl, by omega, rfl, by simp⟩, ?_⟩
  rintro f s1 n ⟨k, hy, rfl, hk, rfl, he⟩
  simp only [List.cons.injEq, and_true] at hy
  rw [hy]
  simp only [vc_cmp_Or_int__l0, optK_mk, arith_lss]
  refine boolK_mk (fun hlt => ?_) (fun hge => ?_)
  · have hlt : k < l.length := by simpa using hlt
    obtain ⟨p, g1, g2⟩ := sli_at h hlt
    rw [List.drop_eq_getElem_cons hlt] at he
    rw [orL_cons] at he
    simp only [g1, g2, optK_mk, eqV_int, negB_mk, Bool.true_bne]
    by_cases hz : l[k] = 0
    · rw [if_neg (by simpa using hz)] at he
      refine boolK_mk (fun h => by simp [hz] at h) fun _ => ?_
      simp only [arith_add, optK_mk]
      rw [wrap64 (by omega) (by omega)]
      exact ⟨_, by omega, k + 1, by simp, by trivial, by omega, rfl, he⟩
    · rw [if_pos hz] at he; rw [he] at hK
      refine boolK_mk (fun _ => hK) fun h => by simp [hz] at h
  · have hge : l.length ≤ k := by simpa using hge
    rw [List.drop_eq_nil_of_le hge] at he
    rw [he] at hK; exact hK
def cmpR (p q : Int) (l m : List Int) : Int := if p < q then -1 else if q < p then 1 else cmpL l m
theorem cmpR_or (p q : Int) (l m : List Int) : orL [cmpI p q, cmpL l m] = cmpR p q l m := by
  unfold cmpR cmpI
  by_cases h1 : p < q
  · simp [h1, orL]
  · by_cases h2 : q < p
    · simp [h1, h2, orL]
    · simp only [h1, h2, if_false, orL]
      by_cases h : cmpL l m = 0
      · simp [h]
      · simp [h]
theorem Compare_in {a b p q : Int} {v w : AVal} {l m : List Int} (h : Sli s v l) (h' : Sli s w m) (hl : l.length ≤ 1000000) (hK : ∀ s', Sub s s' → K (.int .i64 (cmpR p q l m)) s') : wpCall Try.prog XX 14 [recV a p v, recV b q w] K s := by
  refine vc_lsdb_Compare_in (box3 rfl rfl h.one fun b1 s1 hb1 h1 u1 => box3 rfl rfl h'.one fun b2 s2 hb2 h2 u2 => ?_)
  have sub1 := u1.sub hb1
  have sub2 := sub1.trans (u2.sub hb2)
  have h12 := u2.at h1 hb2
  simp only [addOff_ptr, optK_mk, rd1_mk h12, rd1_mk h2, Nat.zero_add, List.getElem?_cons_zero, List.getElem?_cons_succ]
  refine cmpI_in fun _ => ?_
  rw [add_frz, cut_refl]
  simp only [optK_mk, rd1_mk h12, rd1_mk h2, List.getElem?_cons_zero, List.getElem?_cons_succ]
  refine sCompare_in (h.sub sub2) (h'.sub sub2) hl ?_
  refine optK_of (a := [.int .i64 (cmpI p q), .int .i64 (cmpL l m)]) rfl ⟨rfl, new_step fun c s3 hc h3 u3 => ?_⟩
  refine Or_in (l := [cmpI p q, cmpL l m]) (Sl.mk h3 rfl (by simp)) (by simp) ?_
  rw [cmpR_or]
  exact hK _ (sub2.trans (u3.sub hc))
theorem rCompareR_in {a b p q : Int} {v w : AVal} {l m : List Int} (h : Sli s v l) (h' : Sli s w m) (hl : l.length ≤ 1000000) (hK : ∀ s', Sub s s' → K (.int .i64 (cmpR p q l m)) s') : wpCall Try.prog XX 15 [recV a p v, recV b q w] K s := by
  refine vc_leafmeshref13_Compare_in (box3 rfl rfl h.one fun b1 s1 hb1 h1 u1 => box3 rfl rfl h'.one fun b2 s2 hb2 h2 u2 => ?_)
  have sub1 := u1.sub hb1
  have sub2 := sub1.trans (u2.sub hb2)
  have h12 := u2.at h1 hb2
  have hk := hK _ sub2
  unfold cmpR at hk
  simp only [addOff_ptr, optK_mk, rd1_mk h12, rd1_mk h2, Nat.zero_add, List.getElem?_cons_zero, List.getElem?_cons_succ, arith_lss, arith_gtr]
  refine boolK_mk (fun a1 => ?_) (fun a1 => ?_)
  · rw [if_pos (of_decide_eq_true a1)] at hk; exact hk
  · rw [if_neg (of_decide_eq_false a1)] at hk
    refine boolK_mk (fun a2 => ?_) (fun a2 => ?_)
    · rw [if_pos (of_decide_eq_true a2)] at hk; exact hk
    · rw [if_neg (of_decide_eq_false a2)] at hk
      exact rCompare_in (h.sub sub2) (h'.sub sub2) hl hk
/-! ### helpers of the laws -/
theorem Same_in {v v' : AVal} {l m : List Int} (h : Sli s v l) (h' : Sli s v' m) (hl : l.length ≤ 10000000) (hK : K (.bool (l == m)) s) : wpCall Try.prog XX 34 [v, v'] K s := by
  refine vc_leafmeshkit_Same_int__in ?_
  simp only [vc_leafmeshkit_Same_int_, h.len, h'.len, optK_mk, eqV_int, negB_mk, List.length_map, Bool.true_bne]
  refine boolK_mk (fun hne => ?_) (fun heq => ?_)
  · have : (l == m) = false := by
      cases q : (l == m) with
      | false => rfl
      | true => rw [eq_of_beq q] at hne; simp at hne
    rw [← this]; exact hK
  · have hlm : l.length = m.length := by
      have : (l.length : Int) = m.length := by simpa using heq
      omega
    refine ⟨fun ys s1 n => ∃ k : Nat, ys = [.int .i64 k] ∧ s1 = s ∧ k ≤ l.length ∧ n = l.length - k ∧ (l == m) = (l.drop k == m.drop k), ⟨_, 0, rfl, rfl, by omega, rfl, by simp⟩, ?_⟩
    rintro f s1 n ⟨k, hy, rfl, hk, rfl, he⟩
    simp only [List.cons.injEq, and_true] at hy
    rw [hy]
    simp only [vc_leafmeshkit_Same_int__l0, h.len, optK_mk, arith_lss, List.length_map]
    refine boolK_mk (fun hlt => ?_) (fun hge => ?_)
    · have hlt : k < l.length := by simpa using hlt
      obtain ⟨p, g1, g2⟩ := sli_at h hlt
      obtain ⟨p', g3, g4⟩ := sli_at h' (k := k) (by omega)
      rw [List.drop_eq_getElem_cons hlt, List.drop_eq_getElem_cons (show k < m.length by omega), List.cons_beq_cons] at he
      simp only [g1, g2, g3, g4, optK_mk, eqV_int, negB_mk, Bool.true_bne]
      cases hq : (l[k] == m[k]) with
      | false =>
        rw [hq, Bool.false_and] at he; rw [he] at hK
        simp only [Bool.not_false, boolK_true]; exact hK
      | true =>
        rw [hq, Bool.true_and] at he
        simp only [Bool.not_true, boolK_false, arith_add, optK_mk]
        rw [wrap64 (by omega) (by omega)]
        exact ⟨_, by omega, k + 1, by simp, by trivial, by omega, rfl, he⟩
    · have hge : l.length ≤ k := by simpa using hge
      rw [List.drop_eq_nil_of_le hge, List.drop_eq_nil_of_le (by omega)] at he
      rw [he] at hK; exact hK
theorem equal_in {a b p q : Int} {v w : AVal} {l m : List Int} (h : Sli s v l) (h' : Sli s w m) (hl : l.length ≤ 1000000) (hK : ∀ s', Sub s s' → K (.bool (a == b && p == q && l == m)) s') : wpCall Try.prog XX 16 [recV a p v, recV b q w] K s := by
  refine vc_leafmeshlaw13_equal_in (box3 rfl rfl h.one fun b1 s1 hb1 h1 u1 => box3 rfl rfl h'.one fun b2 s2 hb2 h2 u2 => ?_)
  have sub1 := u1.sub hb1
  have sub2 := sub1.trans (u2.sub hb2)
  have h12 := u2.at h1 hb2
  have hk := hK _ sub2
  simp only [addOff_ptr, optK_mk, rd1_mk h12, rd1_mk h2, Nat.zero_add, List.getElem?_cons_zero, List.getElem?_cons_succ, eqV_int, negB_mk, Bool.false_bne]
  cases e1 : (a == b) with
  | false =>
    rw [e1] at hk
    simp only [boolK_false, vc_leafmeshlaw13_equal_j0, pickV_false, optK_mk, vc_leafmeshlaw13_equal_j1]
    simpa using hk
  | true =>
    rw [e1] at hk
    simp only [boolK_true, vc_leafmeshlaw13_equal_j0, pickV_true, optK_mk, vc_leafmeshlaw13_equal_j1]
    cases e2 : (p == q) with
    | false =>
      rw [e2] at hk
      simp only [boolK_false, pickV_false, optK_mk]
      simpa using hk
    | true =>
      rw [e2] at hk
      simp only [boolK_true, addOff_ptr, optK_mk, rd1_mk h12, rd1_mk h2, Nat.zero_add, List.getElem?_cons_zero, List.getElem?_cons_succ]
      refine Same_in (h.sub sub2) (h'.sub sub2) (by omega) ?_
      simp only [pickV_true, optK_mk]
      simpa using hk
end Go.AM
namespace Go.AM
open Go Go.Proofs
variable {K : AVal → Heap → Prop} {s s' s0 : Heap}
theorem Sub.upto {s s' s'' : Heap} {b : Nat} (h : Sub s s') (u : Upto b s' s'') (hb : s b = none) : Sub s s'' := fun i e hi => by rw [u i (ne_of_some hb hi)]; exact h i e hi
/-! ### assoc lists that stand for each other -/
inductive Pairs {A B : Type} (R : A → B → Prop) : List (Int × A) → List (Int × B) → Prop
  | nil : Pairs R [] []
  | cons {k : Int} {a : A} {b : B} {l : List (Int × A)} {F : List (Int × B)} (h : R a b) (t : Pairs R l F) : Pairs R ((k, a) :: l) ((k, b) :: F)
section
variable {A B : Type} {R R' : A → B → Prop} {l : List (Int × A)} {F : List (Int × B)}
theorem Pairs.look (h : Pairs R l F) (k : Int) : (AM.look l k = none ∧ AM.look F k = none) ∨ ∃ a b, AM.look l k = some a ∧ AM.look F k = some b ∧ R a b := by
  induction h with
  | nil => exact .inl ⟨rfl, rfl⟩
  | @cons k' a b l F h t ih =>
    rw [look_cons, look_cons]
    by_cases e : k' = k
    · rw [if_pos e, if_pos e]; exact .inr ⟨a, b, rfl, rfl, h⟩
    · rw [if_neg e, if_neg e]; exact ih
theorem Pairs.mono (h : Pairs R l F) (hm : ∀ a b, R a b → R' a b) : Pairs R' l F := by
  induction h with
  | nil => exact .nil
  | cons h t ih => exact .cons (hm _ _ h) ih
theorem Pairs.keys (h : Pairs R l F) : l.map (·.1) = F.map (·.1) := by
  induction h with
  | nil => rfl
  | cons h t ih => rw [List.map_cons, List.map_cons, ih]
theorem Pairs.app {k : Int} {a : A} {b : B} (h : Pairs R l F) (hr : R a b) : Pairs R (l ++ [(k, a)]) (F ++ [(k, b)]) := by
  induction h with
  | nil => exact .cons hr .nil
  | cons h t ih => exact .cons h ih
theorem Pairs.upd {k : Int} {a : A} {b : B} (h : Pairs R l F) (hr : R a b) : Pairs R (l.map fun p => if p.1 = k then (k, a) else p) (F.map fun p => if p.1 = k then (k, b) else p) := by
  induction h with
  | nil => exact .nil
  | @cons k' _ _ _ _ h t ih =>
    rw [List.map_cons, List.map_cons]
    by_cases e : k' = k
    · rw [if_pos e, if_pos e]; exact .cons hr ih
    · rw [if_neg e, if_neg e]; exact .cons h ih
theorem Pairs.stor {k : Int} {a : A} {b : B} (h : Pairs R l F) (hr : R a b) : Pairs R (AM.stor l k a) (AM.stor F k b) := by
  unfold AM.stor
  rcases h.look k with ⟨h1, h2⟩ | ⟨a', b', h1, h2, _⟩
  · rw [h1, h2]; exact h.app hr
  · rw [h1, h2]; exact h.upd hr
end
/-! ### a database in memory -/
abbrev Rec := Int × Int × List Int
def RelV (Fz : Nat → Prop) (s : Heap) (d m : Nat) (v : AVal) (r : Rec) : Prop := ∃ lv, v = recV r.1 r.2.1 lv ∧ Sli s lv r.2.2 ∧ ∀ b o n c, lv = .slc b o n c 1 → r.2.2 ≠ [] → ¬ Fz b ∧ b ≠ d ∧ b ≠ m
structure Db (Fz : Nat → Prop) (s : Heap) (d m : Nat) (nodes node last : Int) (F : List (Int × Rec)) : Prop where
  dc : s d = some (false, .cells 81 [.int .i64 nodes, .int .i64 node, .int .i64 last, .map m])
  mp : ∃ l, MapAt s m l ∧ Pairs (RelV Fz s d m) l F
  fd : ¬ Fz d
  fm : ¬ Fz m
  nn : 1 ≤ nodes ∧ nodes ≤ 32 ∧ 0 ≤ node ∧ node < nodes
  gd : ∀ k r, look F k = some r → r.1 = k ∧ (0 ≤ k ∧ k < nodes) ∧ r.2.2.length ≤ 100000
theorem Db.dm {Fz : Nat → Prop} {d m : Nat} {nodes node last : Int} {F : List (Int × Rec)} (z : Db Fz s d m nodes node last F) : d ≠ m := by
  rintro rfl
  obtain ⟨l, ⟨es, c, h, _⟩, _⟩ := z.mp
  rw [z.dc] at h; cases h
theorem Db.keep {Fz fp : Nat → Prop} {d m : Nat} {nodes node last : Int} {F : List (Int × Rec)} (z : Db Fz s d m nodes node last F) (k : KeepBut fp s s') (hf : ∀ i, fp i → Fz i) : Db Fz s' d m nodes node last F := by
  have nf : ∀ i, ¬ Fz i → ¬ fp i := fun i h q => h (hf i q)
  obtain ⟨l, ⟨es, c, h1, h2⟩, h3⟩ := z.mp
  exact ⟨k _ _ z.dc (nf _ z.fd), ⟨l, ⟨es, c, k _ _ h1 (nf _ z.fm), h2⟩, h3.mono fun a b ⟨lv, e, h4, h5⟩ => ⟨lv, e, h4.keep k fun b' o n c e' hne => nf _ (h5 b' o n c e' (by simpa using hne)).1, h5⟩⟩, z.fd, z.fm, z.nn, z.gd⟩
theorem Db.sub {Fz : Nat → Prop} {d m : Nat} {nodes node last : Int} {F : List (Int × Rec)} (z : Db Fz s d m nodes node last F) (k : Sub s s') : Db Fz s' d m nodes node last F := z.keep (fp := fun _ => False) (fun b e h _ => k b e h) fun _ h => h.elim
/-! ### what a record that is received does -/
structure Got where
  last : Int
  F : List (Int × Rec)
  code : Int
  err : Int
def recvR (nodes node last : Int) (F : List (Int × Rec)) (r : Rec) : Got :=
  if chkR nodes r.1 r.2.1 r.2.2 ≠ 0 then ⟨last, F, 0, chkR nodes r.1 r.2.1 r.2.2⟩ else
  match look F r.1 with
  | none => if r.1 = node then ⟨max last r.2.1, F, 0, 0⟩ else ⟨last, stor F r.1 r, 1, 0⟩
  | some o => if cmpR r.2.1 o.2.1 r.2.2 o.2.2 = -1 then ⟨last, F, 2, 0⟩ else
    if cmpR r.2.1 o.2.1 r.2.2 o.2.2 = 1 then (if r.1 = node then (if 1073741824 ≤ r.2.1 then ⟨last, F, 0, 7⟩ else ⟨r.2.1 + 1, stor F node (node, r.2.1 + 1, o.2.2), 3, 0⟩) else ⟨last, stor F r.1 r, 1, 0⟩)
    else ⟨last, F, 0, 0⟩
theorem cmpL_vals : ∀ {l m : List Int}, cmpL l m = -1 ∨ cmpL l m = 0 ∨ cmpL l m = 1 := by
  intro l
  induction l with
  | nil => intro m; cases m <;> simp [cmpL]
  | cons x l ih =>
    intro m
    cases m with
    | nil => simp [cmpL]
    | cons y m =>
      rw [cmpL_cons]
      split
      · exact .inl rfl
      · split
        · exact .inr (.inr rfl)
        · exact ih
theorem cmpR_vals {p q : Int} {l m : List Int} : cmpR p q l m = -1 ∨ cmpR p q l m = 0 ∨ cmpR p q l m = 1 := by
  unfold cmpR
  split
  · exact .inl rfl
  · split
    · exact .inr (.inr rfl)
    · exact cmpL_vals
theorem valid13_in {d m : Nat} {Fz : Nat → Prop} {nodes node last : Int} {F : List (Int × Rec)} (z : Db Fz s d m nodes node last F) (hK : K (.bool true) s) : wpCall Try.prog XX 51 [.ptr d 0] K s := by
  refine vc_lsdb_DB_valid_in ?_
  have hp : decide ((0 : Int) < nodes) = true := decide_eq_true (by have := z.nn; omega)
  simp only [vc_lsdb_DB_valid, eqV_ptr, negB_mk, Bool.true_bne, Bool.not_false, boolK_true, nilCheck_ptr, addOff_ptr, Nat.zero_add, rd1_mk z.dc, List.getElem?_cons_zero, arith_gtr, hp, vc_lsdb_DB_valid_j0, pickV_true, optK_mk]
  exact hK
theorem CloneI_in {v : AVal} {l : List Int} (h : Sli s v l) (hl : l.length ≤ 10000000) (hK : ∀ v' s', Sub s s' → Sli s' v' l → (∀ b o n c, v' = .slc b o n c 1 → l ≠ [] → s b = none) → K v' s') : wpCall Try.prog XX 67 [v] K s := by
  refine vc_slices_Clone___int_int__in ?_
  have cases0 : (v = .nilslc ∧ l = []) ∨ ∃ b o c, v = .slc b o l.length c 1 := by
    rcases h with ⟨a, b⟩ | ⟨b, o, c, a, _⟩
    · exact .inl ⟨a, by simpa using b⟩
    · exact .inr ⟨b, o, c, by simpa using a⟩
  rcases cases0 with ⟨rfl, rfl⟩ | ⟨b, o, c, rfl⟩
  · simp only [vc_slices_Clone___int_int_, eqV_nilslc, negB_mk, Bool.false_bne, optK_mk, boolK_true]
    exact hK _ _ (.refl s) h fun _ _ _ _ _ h => absurd rfl h
  · simp only [vc_slices_Clone___int_int_, eqV_slc, negB_mk, Bool.false_bne, optK_mk, boolK_false]
    refine optK_of (a := []) rfl ⟨rfl, new_step fun d s1 hd h1 u1 => ?_⟩
    have sub1 := u1.sub hd
    refine app_copy (h.sub sub1) (by rw [List.length_map]; omega) fun v' s2 sub2 q1 q2 => hK v' s2 (sub1.trans sub2) ?_ fun b o n c e hne => ?_
    · by_cases e : l = []
      · subst e
        rw [q1 rfl]
        exact .inr ⟨d, 0, some 0, rfl, by simp, fun h => absurd rfl h⟩
      · obtain ⟨c, e1, e2, e3⟩ := q2 (by simpa using e)
        rw [e2]
        exact Sl.mk e3 rfl (by simp)
    · obtain ⟨c, e1, e2, e3⟩ := q2 (by simpa using hne)
      rw [e2] at e
      injection e with e
      rw [← e]
      cases q : s c with
      | none => rfl
      | some x => rw [sub1 c x q] at e1; cases e1
theorem clone_in {n q : Int} {v : AVal} {l : List Int} (h : Sli s v l) (hl : l.length ≤ 10000000) (hK : ∀ v' s', Sub s s' → Sli s' v' l → (∀ b o n c, v' = .slc b o n c 1 → l ≠ [] → s b = none) → K (recV n q v') s') : wpCall Try.prog XX 54 [recV n q v] K s := by
  refine vc_lsdb_clone_in (box3 rfl rfl h.one fun b0 s1 hb0 h1 u1 => new_step fun b2 s2 hb2 h2 u2 => ?_)
  have sub1 := u1.sub hb0
  have sub2 := sub1.trans (u2.sub hb2)
  have h12 := u2.sub hb2 _ _ h1
  have hne : b0 ≠ b2 := ne_of_some hb2 h1
  have q2 : [AVal.int .i64 n, .int .i64 q, v][2]? = some v := rfl
  simp only [addOff_ptr, Nat.zero_add, rd1_mk h12, q2, optK_mk]
  refine CloneI_in (h.sub sub2) hl fun v' s3 sub3 sl3 fr3 => ?_
  have h13 := sub3 _ _ h12
  refine wr1_step h13 (by simp) sl3.one fun s4 h4 u4 => ?_
  have h4 : s4 b0 = some (false, .cells 24 [.int .i64 n, .int .i64 q, v']) := h4
  have h24 : s4 b2 = _ := (u4 b2 hne.symm).trans (sub3 _ _ h2)
  simp only [rdN_all (n := 3) h4 rfl, optK_mk]
  refine wrAgg_step h24 rfl rfl (by rw [allOne_cons, allOne_cons, allOne_cons, sl3.one]; rfl) fun s5 h5 u5 => ?_
  have h5 : s5 b2 = some (false, .cells 24 [.int .i64 n, .int .i64 q, v']) := h5
  simp only [rdN_all (n := 3) h5 rfl, optK_mk]
  have old : ∀ b, s2 b = none → s b = none := fun b hb => by
    cases q : s b with
    | none => rfl
    | some x => rw [sub2 b x q] at hb; cases hb
  have hb0s : s b0 = none := hb0
  have hb2s : s b2 = none := by
    cases q : s b2 with
    | none => rfl
    | some x => rw [sub1 b2 x q] at hb2; cases hb2
  refine hK v' s5 (((sub2.trans sub3).upto u4 hb0s).upto u5 hb2s) ?_ fun b o n c e hne => old b (fr3 b o n c e hne)
  refine Sl.keep (fp := fun i => i = b0 ∨ i = b2) sl3 ((u4.keep (.inl rfl)).trans (u5.keep (.inr rfl))) fun b o n c e hne => ?_
  have := fr3 b o n c e (by simpa using hne)
  rintro (rfl | rfl)
  · rw [h12] at this; cases this
  · rw [h2] at this; cases this
end Go.AM
namespace Go.AM
open Go Go.Proofs
variable {K : AVal → Heap → Prop} {s s' s0 : Heap} {Fz : Nat → Prop} {d m : Nat} {nodes node last n q : Int} {F : List (Int × Rec)} {v : AVal} {L : List Int}
theorem eqC3 (a b a' b' : Bool) (x x' : Int) : eqAgg Try.prog 93 (.agg [.bool a, .bool b, .int .i64 x]) (.agg [.bool a', .bool b', .int .i64 x']) = (match some (a == a') with
      | some true => (match some (b == b') with
        | some true => (match some (eqI x x') with
          | some true => some true
          | some false => some false
          | none => none)
        | some false => some false
        | none => none)
      | some false => some false
      | none => none) := by kernel_rfl
theorem eqCd (a b a' b' : Bool) (x x' : Int) : eqAgg Try.prog 93 (.agg [.bool a, .bool b, .int .i64 x]) (.agg [.bool a', .bool b', .int .i64 x']) = some (a == a' && (b == b' && x == x')) := by
  rw [eqC3, eqI_eq]
  cases a == a' <;> cases b == b' <;> cases x == x' <;> rfl
theorem max64 {a b : Int} : foldA max2A (.int .i64 a) [.int .i64 b] = some (.int .i64 (max a b)) := by
  have e : ltI a b = decide (a < b) := by rw [ltI_eq]
  by_cases h : a < b
  · have : max a b = b := by omega
    simp only [foldA, max2A, e, decide_eq_true h, this]; rfl
  · have : max a b = a := by omega
    simp only [foldA, max2A, e, decide_eq_false h, this]; rfl
theorem fillRec {a b v : AVal} (ha : a.one = true) (hb : b.one = true) (hv : v.one = true) : fillR [(.int .i64 0), (.int .i64 0), .nilslc] [(0, 1, a), (1, 1, b), (2, 1, v)] = some [a, b, v] := by
  simp only [fillR, one_cells ha, one_cells hb, one_cells hv]
  rfl
theorem mono_rel {s' : Heap} {fp : Nat → Prop} {l : List (Int × AVal)} (h : Pairs (RelV Fz s d m) l F) (k : KeepBut fp s s') (hf : ∀ b, fp b → b = d ∨ b = m ∨ s b = none) : Pairs (RelV Fz s' d m) l F := h.mono fun a r ⟨lv, e, h4, h5⟩ => ⟨lv, e, h4.keep k fun b' o n c e' hne hb => by
  have h6 := h5 b' o n c e' (by simpa using hne)
  rcases hf b' hb with q | q | q
  · exact h6.2.1 q
  · exact h6.2.2 q
  · exact h4.ne q b' o n c e' hne rfl, h5⟩
/-- a record is stored -/
theorem Db.stored {s2 : Heap} {last2 : Int} {r : Rec} {lv : AVal} (z : Db Fz s d m nodes node last F) (hF : ∀ b, Fz b → s b ≠ none) (k : KeepBut (fun i => i = d) s s2) (hd : s2 d = some (false, .cells 81 [.int .i64 nodes, .int .i64 node, .int .i64 last2, .map m]))
    (hlv : Sli s2 lv r.2.2) (hfr : ∀ b o n c, lv = .slc b o n c 1 → r.2.2 ≠ [] → s b = none) (hr : 0 ≤ r.1 ∧ r.1 < nodes) (hl : r.2.2.length ≤ 100000)
    {R : Heap → Prop} (hK : ∀ s3, Db Fz s3 d m nodes node last2 (stor F r.1 r) → Upto m s2 s3 → R s3) : optK (putM s2 (.map m) (.int .i64 r.1) (recV r.1 r.2.1 lv)) R := by
  have hdm := z.dm
  obtain ⟨l, hm, hp⟩ := z.mp
  have hm2 : MapAt s2 m l := by
    obtain ⟨es, c, h1, h2⟩ := hm
    exact ⟨es, c, k _ _ h1 hdm.symm, h2⟩
  have hnn := z.nn
  have hsd : s d ≠ none := by rw [z.dc]; exact Option.some_ne_none _
  have hsm : s m ≠ none := by obtain ⟨es, c, h1, _⟩ := hm; rw [h1]; exact Option.some_ne_none _
  have hp2 := mono_rel hp k fun b hb => .inl hb
  refine hm2.put (by omega) fun s3 h3 u3 => hK s3 ⟨by rw [u3 d hdm]; exact hd, ⟨_, h3, Pairs.stor (mono_rel hp2 (u3.keep (fp := fun i => i = m) rfl) fun b hb => .inr (.inl hb)) ⟨lv, rfl, ?_, fun b o n c e hne => ?_⟩⟩, z.fd, z.fm, z.nn, fun j r' hj => ?_⟩ u3
  · refine hlv.keep (fp := fun i => i = m) (u3.keep rfl) fun b o n c e hne hb => ?_
    have := hfr b o n c e (by simpa using hne)
    rw [hb] at this; exact hsm this
  · have := hfr b o n c e hne
    exact ⟨fun h => hF b h this, fun h => hsd (by rw [← h]; exact this), fun h => hsm (by rw [← h]; exact this)⟩
  · rw [look_stor] at hj
    split at hj
    · rename_i e
      cases hj
      exact ⟨e.symm, by rw [e]; exact hr, hl⟩
    · exact z.gd j r' hj
theorem Db.ext {b0 : Nat} (z : Db Fz s d m nodes node last F) (h : s b0 = none) : Db (fun b => Fz b ∨ b = b0) s d m nodes node last F := by
  obtain ⟨w1, ⟨lw, w2, w3⟩, w4, w5, w6, w7⟩ := z
  refine ⟨w1, ⟨lw, w2, w3.mono fun a r ⟨lv, e, h4, h5⟩ => ⟨lv, e, h4, fun b' o n c e' hne => ?_⟩⟩, ?_, ?_, w6, w7⟩
  · obtain ⟨x1, x2⟩ := h5 b' o n c e' hne
    refine ⟨?_, x2⟩
    rintro (q | q)
    · exact x1 q
    · exact h4.ne h b' o n c e' (by simpa using hne) q
  · rintro (q | rfl)
    · exact w4 q
    · rw [w1] at h; cases h
  · rintro (q | rfl)
    · exact w5 q
    · obtain ⟨es, c, e1, _⟩ := w2
      rw [e1] at h; cases h
theorem Db.weak {Fz' : Nat → Prop} (z : Db Fz' s d m nodes node last F) (h : ∀ b, Fz b → Fz' b) : Db Fz s d m nodes node last F := by
  obtain ⟨w1, ⟨lw, w2, w3⟩, w4, w5, w6, w7⟩ := z
  exact ⟨w1, ⟨lw, w2, w3.mono fun a r ⟨lv, e, h4, h5⟩ => ⟨lv, e, h4, fun b' o n c e' hne => ⟨fun q => (h5 b' o n c e' hne).1 (h _ q), (h5 b' o n c e' hne).2⟩⟩⟩, fun q => w4 (h _ q), fun q => w5 (h _ q), w6, w7⟩
theorem orig_in {seq : Int} (z : Db Fz s d m nodes node last F) (hF : ∀ b, Fz b → s b ≠ none) (h : Sli s v L) (hl : L.length ≤ 100000)
    (hK : ∀ v' s', KeepBut (fun i => i = d ∨ i = m) s s' → Db Fz s' d m nodes node seq (stor F node (node, seq, L)) → Sli s' v' L → K (recV node seq v') s') : wpCall Try.prog XX 58 [.ptr d 0, v, .int .i64 seq] K s := by
  have hdm := z.dm
  refine vc_lsdb_DB_originate_in (new_step fun b0 s1 hb0 h1 u1 => ?_)
  have sub1 := u1.sub hb0
  have z1 := z.sub sub1
  have q1 : ∀ la : Int, [AVal.int .i64 nodes, .int .i64 node, .int .i64 la, .map m][1]? = some (.int .i64 node) := fun _ => rfl
  have q3 : ∀ la : Int, [AVal.int .i64 nodes, .int .i64 node, .int .i64 la, .map m][3]? = some (.map m) := fun _ => rfl
  simp only [nilCheck_ptr, addOff_ptr, Nat.zero_add, rd1_mk z1.dc, q1, optK_mk]
  refine CloneI_in (s := frz s1) (h.sub sub1).frz (by omega) fun v5 s6 sub6 sl6 fr6 _ => ?_
  have sl7 := sl6.addf sub6
  have subt : Sub s1 (add s1 s6) := sub_add
  have fr7 : ∀ b o n c, v5 = .slc b o n c 1 → L ≠ [] → s1 b = none := fun b o n c e hne => frz_none.1 (fr6 b o n c e hne)
  generalize add s1 s6 = t at sl7 subt
  refine optK_of (fillRec rfl rfl sl7.one) (newM (s := t) (l := [(s1, t)]) fun b8 s9 hb8 h8 u8 => ?_)
  generalize add t s9 = t2 at h8 u8
  refine wrAgg_step h8 rfl rfl (by rw [allOne_cons, allOne_cons, allOne_cons, sl7.one]; rfl) fun s10 h10 u10 => ?_
  have h10 : s10 b8 = some (false, .cells 24 [.int .i64 node, .int .i64 seq, v5]) := h10
  have subt10 : Sub t s10 := (u8.sub hb8).upto u10 hb8
  have sub10 := (sub1.trans subt).trans subt10
  have z10 := z.sub sub10
  have sl10 := sl7.sub subt10
  have hbd : b8 ≠ d := by rintro rfl; have := z10.dc; rw [h10] at this; cases this
  refine wr1_step z10.dc (by simp) rfl fun s13 h13 u13 => ?_
  have h13 : s13 d = some (false, .cells 81 [.int .i64 nodes, .int .i64 node, .int .i64 seq, .map m]) := h13
  have h13b : s13 b8 = _ := (u13 b8 hbd).trans h10
  simp only [rd1_mk h13, q1, q3, rdN_all (n := 3) h13b rfl, optK_mk]
  have old : ∀ b, s1 b = none → s b = none := fun b hb => by
    cases q : s b with
    | none => rfl
    | some x => rw [sub1 b x q] at hb; cases hb
  have hsd : s d ≠ none := by rw [z.dc]; exact Option.some_ne_none _
  have hs1d : s1 d ≠ none := by rw [z1.dc]; exact Option.some_ne_none _
  have hs1m : s1 m ≠ none := by
    obtain ⟨l0, ⟨es0, c0, hm0, _⟩, _⟩ := z1.mp
    rw [hm0]; exact Option.some_ne_none _
  have hs1b : s1 b0 ≠ none := by rw [h1]; exact Option.some_ne_none _
  have sl13 : Sli s13 v5 L := sl10.keep (fp := fun i => i = d) (u13.keep rfl) fun b o n c e hne hb => by
    have := fr7 b o n c e (by simpa using hne)
    rw [hb] at this; exact hs1d this
  have ze : Db (fun b => Fz b ∨ b = b0) s1 d m nodes node last F := (z.ext hb0).sub sub1
  refine Db.stored (r := (node, seq, L)) ze (fun b hb => ?_) ((subt.trans subt10).keep.trans (u13.keep rfl)) h13 sl13 fr7 ⟨z.nn.2.2.1, z.nn.2.2.2⟩ hl fun s21 z21 u21 => ?_
  · rcases hb with hb | rfl
    · cases q : s b with
      | none => exact absurd q (hF b hb)
      | some x => rw [sub1 b x q]; exact Option.some_ne_none _
    · exact hs1b
  have hbm : b8 ≠ m := by
    rintro rfl
    obtain ⟨l0, ⟨es0, c0, hm0, _⟩, _⟩ := z10.mp
    rw [h10] at hm0; cases hm0
  have h21b : s21 b8 = _ := (u21 b8 hbm).trans h13b
  have hb0d : b0 ≠ d := fun e => hsd (by rw [← e]; exact hb0)
  have hb0m : b0 ≠ m := by
    rintro rfl
    obtain ⟨l0, ⟨es0, c0, hm0, _⟩, _⟩ := z.mp
    rw [hb0] at hm0; cases hm0
  have h21c : s21 b0 = some (false, .cells 24 [.int .i64 0, .int .i64 0, .nilslc]) := by
    rw [u21 b0 hb0m, u13 b0 hb0d]
    exact subt10 _ _ (subt _ _ h1)
  simp only [rdN_all (n := 3) h21b rfl, optK_mk]
  refine wrAgg_step h21c rfl rfl (by rw [allOne_cons, allOne_cons, allOne_cons, sl7.one]; rfl) fun s23 h23 u23 => ?_
  have h23 : s23 b0 = some (false, .cells 24 [.int .i64 node, .int .i64 seq, v5]) := h23
  simp only [rdN_all (n := 3) h23 rfl, optK_mk]
  have kb : KeepBut (fun i => i = d ∨ i = m) s s23 := fun b e hb hn => by
    have h1 : s13 b = some e := by rw [u13 b fun q => hn (.inl q)]; exact sub10 b e hb
    rw [u23 b (ne_of_some hb0 hb), u21 b fun q => hn (.inr q)]; exact h1
  refine hK v5 s23 kb ((z21.keep (u23.keep (fp := fun i => i = b0) rfl) fun i hi => .inr hi).weak fun b hb => .inl hb) ?_
  refine sl13.keep (fp := fun i => i = m ∨ i = b0) ((u21.keep (.inl rfl)).trans (u23.keep (.inr rfl))) fun b o n c e hne hb => ?_
  have := fr7 b o n c e (by simpa using hne)
  rcases hb with rfl | rfl
  · exact hs1m this
  · exact hs1b this
end Go.AM
namespace Go.AM
open Go Go.Proofs
variable {K : AVal → Heap → Prop} {s s' s0 : Heap} {Fz : Nat → Prop} {d m : Nat} {nodes node last n q : Int} {F : List (Int × Rec)} {v : AVal} {L : List Int}
theorem ext0 {a b : AVal} : extractA (.tup [a, b]) 0 = some a := rfl
theorem ext1 {a b : AVal} : extractA (.tup [a, b]) 1 = some b := rfl
theorem regain_in {a p : Int} (z : Db Fz s d m nodes node last F) (hF : ∀ b, Fz b → s b ≠ none) (h : Sli s v L) (hl : L.length ≤ 100000) (hq : 1 ≤ q)
    (hE : 1073741824 ≤ q → ∀ s', Sub s s' → K (.tup [.int .i64 0, .int .i64 7]) s')
    (hK : ¬ 1073741824 ≤ q → ∀ s', KeepBut (fun i => i = d ∨ i = m) s s' → Db Fz s' d m nodes node (q + 1) (stor F node (node, q + 1, L)) → K (.tup [.int .i64 3, .int .i64 0]) s') : wpCall Try.prog XX 56 [.ptr d 0, recV a p v, .int .i64 q] K s := by
  refine vc_lsdb_DB_regain_in (box3 rfl rfl h.one fun b0 s1 hb0 h1 u1 => ?_)
  have sub1 := u1.sub hb0
  simp only [arith_geq, optK_mk]
  refine boolK_mk (fun hq => hE (of_decide_eq_true hq) s1 sub1) fun hq => ?_
  have hq := of_decide_eq_false hq
  have q2 : [AVal.int .i64 a, .int .i64 p, v][2]? = some v := rfl
  simp only [addOff_ptr, Nat.zero_add, rd1_mk h1, q2, arith_add, optK_mk]
  rw [wrap64 (by omega) (by omega)]
  refine orig_in (z.sub sub1) (fun b hb => ?_) (h.sub sub1) hl fun v' s2 k2 z2 _ => hK hq s2 (sub1.keep.trans k2) z2
  cases e : s b with
  | none => exact absurd e (hF b hb)
  | some x => rw [sub1 b x e]; exact Option.some_ne_none _
theorem rj1_store {b0 : Nat} {old7 t46 : AVal} (z : Db Fz s d m nodes node last F) (hF : ∀ b, Fz b → s b ≠ none) (h0 : s b0 = some (false, .cells 24 [.int .i64 n, .int .i64 q, v])) (h : Sli s v L) (hl : L.length ≤ 100000) (hn : 0 ≤ n ∧ n < nodes)
    (hK : ∀ s', KeepBut (fun i => i = d ∨ i = m) s s' → Db Fz s' d m nodes node last (stor F n (n, q, L)) → K (.tup [.int .i64 1, .int .i64 0]) s') :
    vc_lsdb_DB_Receive_j1 XX (.ptr d 0) (.ptr b0 0) old7 t46 (.bool true) K s := by
  have hdm := z.dm
  have q0 : [AVal.int .i64 n, .int .i64 q, v][0]? = some (.int .i64 n) := rfl
  have q3 : [AVal.int .i64 nodes, .int .i64 node, .int .i64 last, .map m][3]? = some (.map m) := rfl
  simp only [vc_lsdb_DB_Receive_j1, boolK_true, nilCheck_ptr, addOff_ptr, Nat.zero_add, rd1_mk z.dc, q3, rd1_mk h0, q0, rdN_all (n := 3) h0 rfl, optK_mk]
  refine clone_in (s := frz s) h.frz (by omega) fun v' s2 sub2 sl2 fr2 _ => ?_
  have sl3 := sl2.addf sub2
  have subt : Sub s (add s s2) := sub_add
  generalize add s s2 = t at sl3 subt
  have z3 := z.sub subt
  refine Db.stored (r := (n, q, L)) z hF subt.keep z3.dc sl3 (fun b o n c e hne => frz_none.1 (fr2 b o n c e hne)) hn hl fun s3 h3 u3 => hK s3 (subt.keep.trans (u3.keep (.inr rfl))) h3
theorem rj0 {b0 b7 b9 : Nat} {old : List AVal} {stored : Bool} {ord : Int} (z : Db Fz s d m nodes node last F) (hF : ∀ b, Fz b → s b ≠ none) (h0 : s b0 = some (false, .cells 24 [.int .i64 n, .int .i64 q, v])) (h7 : s b7 = some (false, .cells 24 old)) (h9 : s b9 = some (false, .cells 93 [.bool (n == node), .bool stored, .int .i64 ord]))
    (h : Sli s v L) (hl : L.length ≤ 100000) (hn : 0 ≤ n ∧ n < nodes) (hq : 1 ≤ q) (hchk : chkR nodes n q L = 0)
    (hst : (stored = false ∧ look F n = none ∧ ord = 0) ∨ (stored = true ∧ ∃ o lo, look F n = some o ∧ old = [.int .i64 o.1, .int .i64 o.2.1, lo] ∧ Sli s lo o.2.2 ∧ ord = cmpR q o.2.1 L o.2.2))
    (hK : ∀ s', KeepBut (fun i => i = d ∨ i = m) s s' → Db Fz s' d m nodes node (recvR nodes node last F (n, q, L)).last (recvR nodes node last F (n, q, L)).F → K (.tup [.int .i64 (recvR nodes node last F (n, q, L)).code, .int .i64 (recvR nodes node last F (n, q, L)).err]) s') :
    vc_lsdb_DB_Receive_j0 XX (.ptr d 0) (.ptr b0 0) (.ptr b7 0) (.ptr b9 0) K s := by
  have hdm := z.dm
  have q1 : [AVal.int .i64 n, .int .i64 q, v][1]? = some (.int .i64 q) := rfl
  have q2 : [AVal.int .i64 nodes, .int .i64 node, .int .i64 last, .map m][2]? = some (.int .i64 last) := rfl
  have f0 : fillR [(.bool false), (.bool false), (.int .i64 0)] [] = some [.bool false, .bool false, .int .i64 0] := rfl
  have f1 : fillR [(.bool false), (.bool false), (.int .i64 0)] [(1, 1, (.bool true)), (2, 1, (.int .i64 1))] = some [.bool false, .bool true, .int .i64 1] := rfl
  have f2 : fillR [(.bool false), (.bool false), (.int .i64 0)] [(0, 1, (.bool true))] = some [.bool true, .bool false, .int .i64 0] := rfl
  have f3 : fillR [(.bool false), (.bool false), (.int .i64 0)] [(1, 1, (.bool true)), (2, 1, (.int .i64 (-1)))] = some [.bool false, .bool true, .int .i64 (-1)] := rfl
  have f4 : fillR [(.bool false), (.bool false), (.int .i64 0)] [(0, 1, (.bool true)), (1, 1, (.bool true)), (2, 1, (.int .i64 (-1)))] = some [.bool true, .bool true, .int .i64 (-1)] := rfl
  have f5 : fillR [(.bool false), (.bool false), (.int .i64 0)] [(0, 1, (.bool true)), (1, 1, (.bool true)), (2, 1, (.int .i64 1))] = some [.bool true, .bool true, .int .i64 1] := rfl
  have tf : (true == false) = false := rfl
  have ft : (false == true) = false := rfl
  have i01 : ((0 : Int) == 1) = false := rfl
  have i0m : ((0 : Int) == -1) = false := rfl
  have i10 : ((1 : Int) == 0) = false := rfl
  have i1m : ((1 : Int) == -1) = false := rfl
  have im0 : ((-1 : Int) == 0) = false := rfl
  have im1 : ((-1 : Int) == 1) = false := rfl
  have un : recvR nodes node last F (n, q, L) = (match look F n with
    | none => if n = node then ⟨max last q, F, 0, 0⟩ else ⟨last, stor F n (n, q, L), 1, 0⟩
    | some o => if cmpR q o.2.1 L o.2.2 = -1 then ⟨last, F, 2, 0⟩ else
      if cmpR q o.2.1 L o.2.2 = 1 then (if n = node then (if 1073741824 ≤ q then ⟨last, F, 0, 7⟩ else ⟨q + 1, stor F node (node, q + 1, o.2.2), 3, 0⟩) else ⟨last, stor F n (n, q, L), 1, 0⟩)
      else ⟨last, F, 0, 0⟩) := by
    unfold recvR
    rw [if_neg (by simp [hchk])]
    try rfl
  rw [un] at hK
  simp only [vc_lsdb_DB_Receive_j0, rdN_all (n := 3) h9 rfl, f0, eqCd, negB_mk, Bool.false_bne, optK_mk]
  rcases hst with ⟨rfl, hlk, rfl⟩ | ⟨rfl, o, lo, hlk, rfl, hlo, rfl⟩
  · rw [hlk] at hK
    simp only at hK
    by_cases hown : n = node
    · have e1 : (n == node) = true := beq_iff_eq.2 hown
      rw [if_pos hown] at hK
      simp only [e1, tf, Bool.false_and, boolK_false, f1, eqCd, negB_mk, Bool.false_bne, optK_mk, vc_lsdb_DB_Receive_j1, f2, beq_self_eq_true, Bool.and_self, boolK_true, nilCheck_ptr, addOff_ptr, Nat.zero_add, rd1_mk z.dc, q2, rd1_mk h0, q1, max64]
      refine wr1_step z.dc (by simp) rfl fun s2 h2 u2 => hK s2 (u2.keep (.inl rfl)) ?_
      obtain ⟨w1, ⟨lw, w2, w3⟩, w4, w5, w6, w7⟩ := z
      refine ⟨h2, ⟨lw, ?_, mono_rel w3 (u2.keep (fp := fun i => i = d) rfl) fun b hb => .inl hb⟩, w4, w5, w6, w7⟩
      obtain ⟨es, c, e3, e4⟩ := w2
      exact ⟨es, c, by rw [u2 m hdm.symm]; exact e3, e4⟩
    · have e1 : (n == node) = false := beq_eq_false_iff_ne.2 hown
      rw [if_neg hown] at hK
      simp only [e1, beq_self_eq_true, Bool.and_self, boolK_true]
      exact rj1_store z hF h0 h hl hn hK
  · rw [hlk] at hK
    simp only at hK
    have stay : (cmpR q o.2.1 L o.2.2 = 0) → K (.tup [.int .i64 0, .int .i64 0]) s := fun hc => by
      rw [hc, if_neg (by decide), if_neg (by decide)] at hK
      exact hK s (.refl _ s) z
    have stale : (cmpR q o.2.1 L o.2.2 = -1) → K (.tup [.int .i64 2, .int .i64 0]) s := fun hc => by
      rw [hc, if_pos rfl] at hK
      exact hK s (.refl _ s) z
    have hol := (z.gd _ _ hlk).2.2
    by_cases hown : n = node
    · have e1 : (n == node) = true := beq_iff_eq.2 hown
      rcases cmpR_vals (p := q) (q := o.2.1) (l := L) (m := o.2.2) with hc | hc | hc
      · simp only [e1, hc, tf, Bool.false_and, boolK_false, f1, eqCd, negB_mk, Bool.false_bne, optK_mk, vc_lsdb_DB_Receive_j1, f2, beq_self_eq_true, Bool.true_and, Bool.and_self, f3, f4, vc_lsdb_DB_Receive_j2, boolK_true]
        exact stale hc
      · simp only [e1, hc, tf, i01, i0m, Bool.false_and, Bool.and_false, boolK_false, f1, eqCd, negB_mk, Bool.false_bne, optK_mk, vc_lsdb_DB_Receive_j1, f2, beq_self_eq_true, Bool.and_self, f3, f4, vc_lsdb_DB_Receive_j2, f5]
        exact stay hc
      · rw [hc, if_neg (by decide), if_pos rfl, if_pos hown] at hK
        simp only [e1, hc, tf, i10, i1m, Bool.false_and, Bool.and_false, boolK_false, f1, eqCd, negB_mk, Bool.false_bne, optK_mk, vc_lsdb_DB_Receive_j1, f2, beq_self_eq_true, Bool.and_self, f3, f4, vc_lsdb_DB_Receive_j2, boolK_true, f5, rdN_all (n := 3) h7 rfl, addOff_ptr, Nat.zero_add, rd1_mk h0, q1]
        refine regain_in z hF hlo hol hq (fun hq s2 sub2 => ?_) fun hq s2 k2 z2 => ?_
        · rw [if_pos hq] at hK
          simp only [ext0, ext1, optK_mk]
          exact hK s2 sub2.keep (z.sub sub2)
        · rw [if_neg hq] at hK
          simp only [ext0, ext1, optK_mk]
          exact hK s2 k2 z2
    · have e1 : (n == node) = false := beq_eq_false_iff_ne.2 hown
      rcases cmpR_vals (p := q) (q := o.2.1) (l := L) (m := o.2.2) with hc | hc | hc
      · simp only [e1, hc, tf, ft, im0, im1, Bool.false_and, Bool.and_false, boolK_false, f1, eqCd, negB_mk, Bool.false_bne, optK_mk, vc_lsdb_DB_Receive_j1, f2, beq_self_eq_true, Bool.and_self, f3, f4, vc_lsdb_DB_Receive_j2, boolK_true]
        exact stale hc
      · simp only [e1, hc, tf, ft, i01, i0m, Bool.false_and, Bool.and_false, boolK_false, f1, eqCd, negB_mk, Bool.false_bne, optK_mk, vc_lsdb_DB_Receive_j1, f2, beq_self_eq_true, Bool.and_self, f3, f4, vc_lsdb_DB_Receive_j2, f5]
        exact stay hc
      · rw [hc, if_neg (by decide), if_pos rfl, if_neg hown] at hK
        simp only [e1, hc, tf, i10, Bool.and_false, boolK_false, f1, eqCd, negB_mk, Bool.false_bne, optK_mk, beq_self_eq_true, Bool.and_self]
        exact rj1_store z hF h0 h hl hn hK
theorem recvR_err (h : chkR nodes n q L ≠ 0) : recvR nodes node last F (n, q, L) = ⟨last, F, 0, chkR nodes n q L⟩ := by
  unfold recvR
  rw [if_pos h]
theorem chkR_rg (h : chkR nodes n q L = 0) : (0 ≤ n ∧ n < nodes) ∧ 1 ≤ q ∧ q ≤ 1073741824 := by
  unfold chkR at h
  split at h
  · cases h
  · rename_i hc; omega
theorem Receive_in (z : Db Fz s d m nodes node last F) (hF : ∀ b, Fz b → s b ≠ none) (h : Sli s v L) (hl : L.length ≤ 100000)
    (hK : ∀ s', KeepBut (fun i => i = d ∨ i = m) s s' → Db Fz s' d m nodes node (recvR nodes node last F (n, q, L)).last (recvR nodes node last F (n, q, L)).F → K (.tup [.int .i64 (recvR nodes node last F (n, q, L)).code, .int .i64 (recvR nodes node last F (n, q, L)).err]) s') : wpCall Try.prog XX 27 [.ptr d 0, recV n q v] K s := by
  refine vc_lsdb_DB_Receive_in (box3 rfl rfl h.one fun b0 s1 hb0 h1 u1 => ?_)
  have sub1 := u1.sub hb0
  have z1 := z.sub sub1
  refine valid13_in z1 ?_
  have p0 : [AVal.int .i64 nodes, .int .i64 node, .int .i64 last, .map m][0]? = some (.int .i64 nodes) := rfl
  have p1 : [AVal.int .i64 nodes, .int .i64 node, .int .i64 last, .map m][1]? = some (.int .i64 node) := rfl
  have p3 : [AVal.int .i64 nodes, .int .i64 node, .int .i64 last, .map m][3]? = some (.map m) := rfl
  have q0 : [AVal.int .i64 n, .int .i64 q, v][0]? = some (.int .i64 n) := rfl
  simp only [unary_not, Bool.not_true, boolK_false, nilCheck_ptr, addOff_ptr, Nat.zero_add, rd1_mk z1.dc, p0, rdN_all (n := 3) h1 rfl, optK_mk]
  refine Check_in (h.sub sub1) (by omega) fun s2 sub2 => ?_
  have sub02 := sub1.trans sub2
  have z2 := z.sub sub02
  have h2 := sub2 _ _ h1
  simp only [eqV_int, negB_mk, Bool.true_bne, optK_mk]
  by_cases hc : chkR nodes n q L = 0
  · have e0 : (!(chkR nodes n q L == 0)) = false := by rw [hc]; rfl
    rw [e0]
    obtain ⟨hn, hq1, hq2⟩ := chkR_rg hc
    obtain ⟨l, hm, hp⟩ := z2.mp
    have hget := hm.get (k := n)
    simp only [boolK_false, rd1_mk z2.dc, p3, rd1_mk h2, q0, hget, optK_mk]
    -- the old record, or none
    have key : ∀ (old : List AVal) (stored : Bool), old.length = 3 → allOne old = true → ((stored = false ∧ look F n = none) ∨ (stored = true ∧ ∃ o lo, look F n = some o ∧ old = [.int .i64 o.1, .int .i64 o.2.1, lo] ∧ Sli s2 lo o.2.2)) →
        newK 24 [(.int .i64 0), (.int .i64 0), .nilslc] (fun b_20 s_21 =>
        (∀ b, s2 b ≠ none → s2 b = none → s_21 b = none) →
        optK (wrAgg (add s2 s_21) 3 (.ptr b_20 0) (.agg old)) fun s_22 =>
        optK (addOff 0 (.ptr b0 0)) fun v_23 =>
        optK (rd1 s_22 v_23) fun v_24 =>
        optK (nilCheckA (.ptr d 0)) fun v_25 =>
        optK (addOff 1 v_25) fun v_26 =>
        optK (rd1 s_22 v_26) fun v_27 =>
        optK (negB false (eqV 0 false v_24 v_27)) fun v_28 =>
        optK (fillR [(.bool false), (.bool false), (.int .i64 0)] [(0, 1, v_28), (1, 1, (.bool stored))]) fun c_29 =>
        newK 93 [(.bool false), (.bool false), (.int .i64 0)] (fun b_30 s_31 =>
        (∀ b, s_22 b ≠ none → s_22 b = none → s_31 b = none) →
        optK (wrAgg (add s_22 s_31) 3 (.ptr b_30 0) (.agg c_29)) fun s_32 =>
        boolK (.bool stored)
         (optK (rdN s_32 3 (.ptr b0 0)) fun v_73 =>
          optK (rdN s_32 3 (.ptr b_20 0)) fun v_74 =>
          wpCall Try.prog XX 14 [(.agg v_73), (.agg v_74)] (fun v_75 s_76 =>
          optK (addOff 2 (.ptr b_30 0)) fun v_77 =>
          optK (wr1 s_76 v_77 v_75) fun s_78 =>
          vc_lsdb_DB_Receive_j0 XX (.ptr d 0) (.ptr b0 0) (.ptr b_20 0) (.ptr b_30 0) K s_78) s_32)
         (vc_lsdb_DB_Receive_j0 XX (.ptr d 0) (.ptr b0 0) (.ptr b_20 0) (.ptr b_30 0) K s_32)) (frz s_22)) (frz s2) := by
      intro old stored ho3 ho1 hst
      refine newM (s := s2) (l := []) fun b7 s21 hb7 h7 u7 => ?_
      generalize add s2 s21 = t at h7 u7
      refine wrAgg_step h7 (by rw [ho3]; rfl) rfl ho1 fun s4 h4 u4 => ?_
      have sub24 : Sub s2 s4 := (u7.sub hb7).upto u4 hb7
      have h14 := sub24 _ _ h2
      have z4 := z2.sub sub24
      simp only [addOff_ptr, Nat.zero_add, rd1_mk h14, q0, nilCheck_ptr, rd1_mk z4.dc, p1, eqV_int, negB_mk, Bool.false_bne, optK_mk]
      refine optK_of (a := [.bool (n == node), .bool stored, .int .i64 0]) rfl (newM (s := s4) (l := []) fun b9 s5 hb9 h9 u9 => ?_)
      generalize add s4 s5 = t2 at h9 u9
      refine wrAgg_step h9 rfl rfl rfl fun s6 h6 u6 => ?_
      have h6 : s6 b9 = some (false, .cells 93 [.bool (n == node), .bool stored, .int .i64 0]) := h6
      have sub46 : Sub s4 s6 := (u9.sub hb9).upto u6 hb9
      have sub26 := sub24.trans sub46
      have h16 := sub46 _ _ h14
      have h76 := sub46 _ _ h4
      have z6 := z2.sub sub26
      have sub06 := sub02.trans sub26
      have hF6 : ∀ b, Fz b → s6 b ≠ none := fun b hb => by
        cases e : s b with
        | none => exact absurd e (hF b hb)
        | some x => rw [sub06 b x e]; exact Option.some_ne_none _
      rcases hst with ⟨rfl, hlk⟩ | ⟨rfl, o, lo, hlk, rfl, hlo⟩
      · simp only [boolK_false]
        exact rj0 z6 hF6 h16 h76 h6 (h.sub sub06) hl hn hq1 hc (.inl ⟨rfl, hlk, rfl⟩) fun s8 k8 z8 => hK s8 (sub06.keep.trans k8) z8
      · simp only [boolK_true, rdN_all (n := 3) h16 rfl, rdN_all (n := 3) h76 rfl, optK_mk]
        refine Compare_in (h.sub sub06) (hlo.sub sub26) (by omega) fun s7 sub7 => ?_
        refine wr1_step (sub7 _ _ h6) (by simp) rfl fun s8 h8 u8 => ?_
        have h8 : s8 b9 = some (false, .cells 93 [.bool (n == node), .bool true, .int .i64 (cmpR q o.2.1 L o.2.2)]) := h8
        have hb9s : s2 b9 = none := by
          cases e : s2 b9 with
          | none => rfl
          | some x => rw [sub24 b9 x e] at hb9; cases hb9
        have hb9s4 : s4 b9 = none := hb9
        have sub28 : Sub s2 s8 := (sub26.trans sub7).upto u8 hb9s
        have sub48 : Sub s4 s8 := (sub46.trans sub7).upto u8 hb9s4
        have sub08 := sub02.trans sub28
        have hF8 : ∀ b, Fz b → s8 b ≠ none := fun b hb => by
          cases e : s b with
          | none => exact absurd e (hF b hb)
          | some x => rw [sub08 b x e]; exact Option.some_ne_none _
        exact rj0 (z2.sub sub28) hF8 (sub28 _ _ h2) (sub48 _ _ h4) h8 (h.sub sub08) hl hn hq1 hc (.inr ⟨rfl, o, lo, hlk, rfl, hlo.sub sub28, rfl⟩) fun s9 k9 z9 => hK s9 (sub08.keep.trans k9) z9
    rcases hp.look n with ⟨h3, h4⟩ | ⟨a, o, h3, h4, lo, rfl, hlo, _⟩
    · rw [h3]
      simp only [retM, cond_true, ext0, ext1, optK_mk]
      exact key [.int .i64 0, .int .i64 0, .nilslc] false rfl rfl (.inl ⟨rfl, h4⟩)
    · rw [h3]
      simp only [retM, cond_true, ext0, ext1, optK_mk]
      exact key [.int .i64 o.1, .int .i64 o.2.1, lo] true rfl (by rw [allOne_cons, allOne_cons, allOne_cons, hlo.one]; rfl) (.inr ⟨rfl, o, lo, h4, rfl, hlo⟩)
  · have e0 : (!(chkR nodes n q L == 0)) = true := by simp [hc]
    rw [e0]
    simp only [boolK_true]
    rw [recvR_err hc] at hK
    exact hK s2 sub02.keep z2
end Go.AM
namespace Go.AM
open Go Go.Proofs
variable {K : AVal → Heap → Prop} {s s' s0 : Heap} {Fz : Nat → Prop} {d m : Nat} {nodes node last n q : Int} {F : List (Int × Rec)} {v : AVal} {L : List Int}
theorem nodup_le : ∀ {l m : List Int}, l.Nodup → (∀ x ∈ l, x ∈ m) → l.length ≤ m.length := by
  intro l
  induction l with
  | nil => intro m _ _; exact Nat.zero_le _
  | cons a l ih =>
    intro m h1 h2
    obtain ⟨ha, hn⟩ := List.nodup_cons.1 h1
    have hm : a ∈ m := h2 a (by simp)
    have := ih (m := m.erase a) hn fun x hx => (List.mem_erase_of_ne (fun e => ha (by rw [← e]; exact hx))).2 (h2 x (by simp [hx]))
    rw [List.length_erase_of_mem hm] at this
    have : 0 < m.length := List.length_pos_of_mem hm
    simp only [List.length_cons]
    omega
theorem nodup_rg {l : List Int} {N : Nat} (h1 : l.Nodup) (h2 : ∀ x ∈ l, 0 ≤ x ∧ x < N) : l.length ≤ N := by
  have := nodup_le (m := (List.range N).map fun i : Nat => (i : Int)) h1 fun x hx => by
    obtain ⟨a, b⟩ := h2 x hx
    exact List.mem_map.2 ⟨x.toNat, List.mem_range.2 (by omega), by omega⟩
  simpa using this
theorem look_mem {V : Type} {l : List (Int × V)} {k : Int} (h : k ∈ l.map (·.1)) : ∃ r, look l k = some r := by
  cases e : look l k with
  | none => exact absurd h (look_none.1 e)
  | some r => exact ⟨r, rfl⟩
theorem Db.short (z : Db Fz s d m nodes node last F) : (F.map (·.1)).Nodup ∧ F.length ≤ 32 := by
  obtain ⟨l, ⟨es, c, _, ho⟩, hp⟩ := z.mp
  have hk := hp.keys
  have nd : (F.map (·.1)).Nodup := by rw [← hk]; exact ho.nd
  refine ⟨nd, ?_⟩
  have := nodup_rg (N := 32) nd fun x hx => by
    obtain ⟨r, hr⟩ := look_mem hx
    have := z.gd x r hr
    have := z.nn
    omega
  simpa using this
theorem New13_in (hn : 1 ≤ nodes ∧ nodes ≤ 32 ∧ 0 ≤ node ∧ node < nodes) (hK : ∀ s' d m, Sub s s' → s d = none → s m = none → (∀ Fz : Nat → Prop, (∀ b, Fz b → s b ≠ none) → Db Fz s' d m nodes node 0 []) → K (.tup [.ptr d 0, .int .i64 0]) s') : wpCall Try.prog XX 17 [.int .i64 nodes, .int .i64 node] K s := by
  refine vc_lsdb_New_in ?_
  simp only [vc_lsdb_New, arith_lss, arith_gtr, arith_geq, decide_eq_false (show ¬ nodes < 1 by omega), decide_eq_false (show ¬ 32 < nodes by omega), decide_eq_false (show ¬ node < 0 by omega), decide_eq_false (show ¬ nodes ≤ node by omega), boolK_false, vc_lsdb_New_j0, vc_lsdb_New_j1, vc_lsdb_New_j2, pickV_false, optK_mk]
  refine map_new fun m s1 hm h1 u1 => optK_of (a := [.int .i64 nodes, .int .i64 node, .int .i64 0, .map m]) rfl ⟨rfl, new_step fun d s2 hd h2 u2 => ?_⟩
  have sub1 := u1.sub hm
  have hd0 : s d = none := by
    cases q : s d with
    | none => rfl
    | some x => rw [sub1 d x q] at hd; cases hd
  have hmd : m ≠ d := by
    rintro rfl
    obtain ⟨es, c, e, _⟩ := h1
    rw [e] at hd; cases hd
  refine hK s2 d m (sub1.trans (u2.sub hd)) hd0 hm fun Fz hF => ⟨h2, ⟨[], ?_, .nil⟩, fun h => hF d h hd0, fun h => hF m h hm, hn, fun k r h => by cases h⟩
  obtain ⟨es, c, e, ho⟩ := h1
  exact ⟨es, c, by rw [u2 m hmd]; exact e, ho⟩
/-! ### lists of records -/
structure Rcs (s : Heap) (v : AVal) (rs : List Rec) : Prop where
  ex : ∃ rows, SlR 3 s v rows ∧ rows.length = rs.length ∧ ∀ (i : Nat) (r : Rec), rs[i]? = some r → ∃ lv, rows[i]? = some [.int .i64 r.1, .int .i64 r.2.1, lv] ∧ Sli s lv r.2.2
theorem Rcs.sub {rs : List Rec} (h : Rcs s v rs) (k : Sub s s') : Rcs s' v rs := by
  obtain ⟨rows, h1, h2, h3⟩ := h
  exact ⟨rows, h1.sub k, h2, fun i r hi => by obtain ⟨lv, e1, e2⟩ := h3 i r hi; exact ⟨lv, e1, e2.sub k⟩⟩
theorem Rcs.len {rs : List Rec} (h : Rcs s v rs) : lenOfA v = some rs.length := by
  obtain ⟨rows, h1, h2, h3⟩ := h
  rw [h1.len, h2]
theorem Rcs.at {rs : List Rec} (h : Rcs s v rs) {i : Nat} (hi : i < rs.length) : ∃ b o lv, iaddrS 3 v (.int .i64 (i : Int)) = some (.ptr b o) ∧ rdN s 3 (.ptr b o) = some [.int .i64 rs[i].1, .int .i64 rs[i].2.1, lv] ∧ Sli s lv rs[i].2.2 ∧ rd1 s (.ptr b (o + 2)) = some lv := by
  obtain ⟨rows, h1, h2, h3⟩ := h
  obtain ⟨lv, e1, e2⟩ := h3 i rs[i] (List.getElem?_eq_getElem hi)
  obtain ⟨b, o, g1, g2, g3⟩ := h1.get e1
  exact ⟨b, o, lv, g1, g2, e2, g3 2 (by omega)⟩
/-- (its blocks are none of some others) -/
structure RcsF (Fz : Nat → Prop) (s : Heap) (v : AVal) (rs : List Rec) : Prop where
  ex : ∃ rows, SlR 3 s v rows ∧ rows.length = rs.length ∧ (∀ b o n c, v = .slc b o n c 3 → rows ≠ [] → ¬ Fz b) ∧ ∀ (i : Nat) (r : Rec), rs[i]? = some r → ∃ lv, rows[i]? = some [.int .i64 r.1, .int .i64 r.2.1, lv] ∧ Sli s lv r.2.2 ∧ ∀ b o n c, lv = .slc b o n c 1 → r.2.2 ≠ [] → ¬ Fz b
theorem RcsF.rcs {rs : List Rec} (h : RcsF Fz s v rs) : Rcs s v rs := by
  obtain ⟨rows, h1, h2, _, h3⟩ := h
  exact ⟨rows, h1, h2, fun i r hi => by obtain ⟨lv, e1, e2, _⟩ := h3 i r hi; exact ⟨lv, e1, e2⟩⟩
theorem RcsF.keep {fp : Nat → Prop} {rs : List Rec} (h : RcsF Fz s v rs) (k : KeepBut fp s s') (hf : ∀ b, fp b → Fz b) : RcsF Fz s' v rs := by
  obtain ⟨rows, h1, h2, h0, h3⟩ := h
  exact ⟨rows, h1.keep k fun b o n c e hne hb => h0 b o n c e hne (hf b hb), h2, h0, fun i r hi => by
    obtain ⟨lv, e1, e2, e3⟩ := h3 i r hi
    exact ⟨lv, e1, e2.keep k fun b o n c e hne hb => e3 b o n c e (by simpa using hne) (hf b hb), e3⟩⟩
def allR (F : List (Int × Rec)) : List Rec := (sortI (F.map (·.1))).filterMap (look F)
theorem filterMap_all {V : Type} {f : Int → Option V} : ∀ {l : List Int}, (∀ x ∈ l, ∃ r, f x = some r) → (l.filterMap f).length = l.length ∧ ∀ (i : Nat) (x : Int) (r : V), l[i]? = some x → f x = some r → (l.filterMap f)[i]? = some r := by
  intro l
  induction l with
  | nil => intro _; exact ⟨rfl, fun i x r h => by simp at h⟩
  | cons y l ih =>
    intro h
    obtain ⟨r0, h0⟩ := h y (by simp)
    obtain ⟨h1, h2⟩ := ih fun x hx => h x (by simp [hx])
    rw [List.filterMap_cons_some h0]
    refine ⟨by rw [List.length_cons, List.length_cons, h1], fun i x r hi hf => ?_⟩
    cases i with
    | zero =>
      have : y = x := by simpa using hi
      rw [this, hf] at h0
      cases h0; rfl
    | succ i => exact h2 i x r (by simpa using hi) hf
theorem app_cap {elem e : TypeId} {es b i c : Nat} {cs row : List AVal} {y : AVal} (hb : s b = some (false, .cells e cs)) (hy : SlR es s y [row]) (hi : i < c) (hcs : cs.length = c * es) (hr : row.length = es) (ho : allOne row = true)
    (hK : ∀ s', s' b = some (false, .cells e (setRange cs (i * es) row)) → Upto b s s' → K (.slc b 0 (i + 1) (some c) es) s') : appK elem es (.slc b 0 i (some c) es) y K s := by
  refine optK_of hy.rd (optK_of hy.len ⟨rfl, ?_⟩)
  have e1 : Nat.ble (i + [row].length) c = true := by rw [Nat.ble_eq]; exact hi
  have hfl : ([row] : List (List AVal)).flatten = row := by simp
  simp only [List.length_singleton, hfl]
  have hle : i * es + es ≤ c * es := by
    have : (i + 1) * es ≤ c * es := Nat.mul_le_mul_right es hi
    rw [Nat.add_mul, Nat.one_mul] at this
    exact this
  have e2 : Nat.ble (i + 1) c = true := by rw [Nat.ble_eq]; exact hi
  have e3 : Nat.ble (0 + i * es + row.length) cs.length = true := by rw [Nat.ble_eq, hcs, hr]; omega
  have e4 : wrN s (.ptr b (0 + i * es)) row = some (hset s b (false, .cells e (setRange cs (0 + i * es) row))) := by
    simp only [wrN, hb, e3, ho, Bool.and_self, cond_true]
  simp only [e2, cond_true, e4, optK_mk]
  refine hK _ ?_ fun _ h => hset_other h
  rw [hset_eq, Nat.zero_add]
theorem setRange_take {cs row : List AVal} {o : Nat} (h : o ≤ cs.length) : (setRange cs o row).take (o + row.length) = cs.take o ++ row := by
  unfold setRange
  rw [List.take_append_of_le_length (by rw [List.length_append, List.length_take]; omega), List.take_of_length_le (by rw [List.length_append, List.length_take]; omega)]
theorem setRange_len {cs row : List AVal} {o : Nat} (h : o + row.length ≤ cs.length) : (setRange cs o row).length = cs.length := by
  unfold setRange
  rw [List.length_append, List.length_append, List.length_take, List.length_drop]
  omega
theorem fillr3 {r : List AVal} (h : r.length = 3) : fillR (repl 1 [.int .i64 0, .int .i64 0, .nilslc]) [(0, 3, .agg r)] = some r := by
  match r, h with
  | [a, b, c], _ => rfl
theorem repl_len {z : List AVal} {k : Nat} (h : z.length = 3) : (repl k z).length = k * 3 := by
  induction k with
  | zero => rfl
  | succ k ih =>
    show (z ++ repl k z).length = _
    rw [List.length_append, ih, h]; omega
end Go.AM
namespace Go.AM
open Go Go.Proofs
variable {K : AVal → Heap → Prop} {s s' s0 : Heap} {Fz : Nat → Prop} {d m : Nat} {nodes node last n q : Int} {F G : List (Int × Rec)} {v : AVal} {L : List Int}
/-! ### the order of records -/
theorem cmpL_refl : ∀ l : List Int, cmpL l l = 0 := by
  intro l
  induction l with
  | nil => rfl
  | cons x l ih => rw [cmpL_cons, if_neg (by omega), if_neg (by omega), ih]
theorem cmpL_zero : ∀ {l m : List Int}, cmpL l m = 0 → l = m := by
  intro l
  induction l with
  | nil => intro m h; cases m with | nil => rfl | cons y m => cases h
  | cons x l ih =>
    intro m h
    cases m with
    | nil => cases h
    | cons y m =>
      rw [cmpL_cons] at h
      split at h
      · cases h
      · split at h
        · cases h
        · rw [ih h, show x = y by omega]
def cmpRR (a b : Rec) : Int := cmpR a.2.1 b.2.1 a.2.2 b.2.2
/-! ### what a database that only receives has -/
end Go.AM
namespace Go.AM
open Go Go.Proofs
variable {K : AVal → Heap → Prop} {s s' s0 : Heap} {Fz : Nat → Prop} {d m : Nat} {nodes node last n q : Int} {F G : List (Int × Rec)} {v : AVal} {L : List Int}
theorem records_in {a b : AVal} {rs : List Rec} (ha : Rcs s a rs) (hb : Rcs s b rs) (hl : rs.length ≤ 1000) (hr : ∀ r ∈ rs, r.2.2.length ≤ 100000) (hK : ∀ s', Sub s s' → K (.bool true) s') : wpCall Try.prog XX 22 [a, b] K s := by
  refine vc_leafmeshlaw13_records_in ?_
  simp only [vc_leafmeshlaw13_records, ha.len, hb.len, eqV_int, negB_mk, beq_self_eq_true, Bool.true_bne, Bool.not_true, boolK_false, optK_mk]
  refine ⟨fun ys s2 k => ∃ i : Nat, ys = [.int .i64 i] ∧ i ≤ rs.length ∧ k = rs.length - i ∧ Sub s s2, ⟨_, 0, rfl, by omega, rfl, .refl s⟩, ?_⟩
  rintro f s2 k ⟨i, hy, hi, rfl, sub2⟩
  simp only [List.cons.injEq, and_true] at hy
  rw [hy]
  have ha2 := ha.sub sub2
  have hb2 := hb.sub sub2
  simp only [vc_leafmeshlaw13_records_l0, ha2.len, arith_lss, optK_mk]
  refine boolK_mk (fun hlt => ?_) (fun hge => ?_)
  · have hlt : i < rs.length := by have := of_decide_eq_true hlt; omega
    obtain ⟨p, o, lv, g1, g2, g3, _⟩ := ha2.at hlt
    obtain ⟨p', o', lv', g4, g5, g6, _⟩ := hb2.at hlt
    have := hr _ (List.getElem_mem hlt)
    simp only [g1, g2, g4, g5, optK_mk]
    refine equal_in g3 g6 (by omega) fun s3 sub3 => ?_
    simp only [beq_self_eq_true, Bool.and_self, unary_not, Bool.not_true, boolK_false, arith_add, optK_mk]
    rw [wrap64 (by omega) (by omega)]
    exact ⟨_, by omega, i + 1, rfl, by omega, rfl, sub2.trans sub3⟩
  · exact hK s2 sub2
theorem Pick13_in {x : Int} {n : Nat} (hn : 1 ≤ n ∧ n ≤ 1000) (hK : ∀ r : Nat, r < n → K (.int .i64 r) s) : wpCall Try.prog XX 29 [.int .i64 x, .int .i64 n] K s := by
  refine vc_leafmeshkit_Pick_in ?_
  have h1 : x.tmod n < n := Int.tmod_lt_of_pos x (by omega)
  have h2 : -(n : Int) < x.tmod n := Int.lt_tmod_of_pos x (by omega)
  simp only [vc_leafmeshkit_Pick, arith_rem (k := .i64) (x := x) (y := (n : Int)) (by omega), optK_mk]
  generalize x.tmod n = y at h1 h2
  simp only [arith_lss, optK_mk]
  refine boolK_mk (fun h => ?_) (fun h => ?_)
  · have h := of_decide_eq_true h
    simp only [arith_add, optK_mk, vc_leafmeshkit_Pick_j0]
    rw [wrap64 (by omega) (by omega)]
    have e : y + n = ((y + n).toNat : Int) := by omega
    rw [e]
    exact hK _ (by omega)
  · have h := of_decide_eq_false h
    simp only [vc_leafmeshkit_Pick_j0]
    have e : y = (y.toNat : Int) := by omega
    rw [e]
    exact hK _ (by omega)
end Go.AM
namespace Go.AM
open Go Go.Proofs
variable {s : Heap}
/-! ### arguments -/
abbrev RA := Int × Int × AVal × List Int
def raR (a : RA) : List AVal := [.int .i64 a.1, .int .i64 a.2.1, a.2.2.1]
set_option maxRecDepth 100000 in
theorem inp_rec {d : Nat} {xs : List AVal} (h : Inp Try.prog s (d + 3) 24 xs) : ∃ a : RA, xs = raR a ∧ Sli s a.2.2.1 a.2.2.2 := by
  unfold Inp at h
  simp only [Try.underlying24] at h
  obtain ⟨h1, h2⟩ := h
  rw [show Try.prog.cellsOf 24 = 3 by kernel_rfl] at h1
  have k0 := h2 _ (List.mem_cons_self)
  have k1 := h2 _ (List.mem_cons_of_mem _ List.mem_cons_self)
  have k2 := h2 _ (List.mem_cons_of_mem _ (List.mem_cons_of_mem _ List.mem_cons_self))
  match xs, h1 with
  | [a, b, c], _ =>
    obtain ⟨n, e1, _⟩ := inp_int (xs := [a]) Try.underlying3 k0
    obtain ⟨q, e2, _⟩ := inp_int (xs := [b]) Try.underlying3 k1
    cases e1; cases e2
    obtain ⟨w, e3, l, hl, _⟩ := inp_slice (d := d + 1) (xs := [c]) Try.underlying22 (by kernel_rfl) (AVal.int .i64) (fun _ => True) (fun xs h => by obtain ⟨n, e, _⟩ := inp_int Try.underlying3 h; exact ⟨n, e, trivial⟩) k2
    cases e3
    exact ⟨(n, q, c, l), rfl, hl⟩
end Go.AM
namespace Go.AM
open Go Go.Proofs
variable {nodes node last : Int} {F G : List (Int × Rec)}
/-! ### what receiving does at each key -/
structure St13 where
  last : Int
  F : List (Int × Rec)
/-! ### an exchange -/
end Go.AM
namespace Go.AM
open Go Go.Proofs
variable {K : AVal → Heap → Prop} {s s' s0 : Heap} {Fz : Nat → Prop} {d m : Nat} {nodes node last n q : Int} {F G : List (Int × Rec)} {v : AVal} {L : List Int}
/-! ### an own record, the first one -/
/-! ### what stays true of what is received -/
theorem ext3 {a b c : AVal} : extractA (.tup [a, b, c]) 0 = some a ∧ extractA (.tup [a, b, c]) 1 = some b ∧ extractA (.tup [a, b, c]) 2 = some c := ⟨rfl, rfl, rfl⟩
end Go.AM
namespace Go.AM
open Go Go.Proofs
variable {K : AVal → Heap → Prop} {s s' s0 : Heap} {d m : Nat} {nodes node last n q : Int} {F G : List (Int × Rec)} {v : AVal} {L : List Int}
end Go.AM
namespace Go.AM
open Go Go.Proofs
/-! ### flooding: the plain law -/
abbrev Msg := Int × Int × Rec
/-- what is stored is as new as a record -/
def Geq (o : Option Rec) (r : Rec) : Prop := ∃ w, o = some w ∧ cmpRR r w ≠ 1
def nwT (x : Rec) : Option Rec → Bool
  | none => true
  | some v => decide (cmpRR x v = 1)
def GeMono (o o' : Option Rec) : Prop := ∀ r, Geq o r → Geq o' r
theorem GeMono.refl (o : Option Rec) : GeMono o o := fun _ h => h
theorem nw_geq {x : Rec} {o : Option Rec} : nwT x o = true ↔ ¬ Geq o x := by
  cases o with
  | none => exact ⟨fun _ h => (by obtain ⟨w, e, _⟩ := h; cases e), fun _ => rfl⟩
  | some v =>
    unfold nwT
    rw [decide_eq_true_iff]
    constructor
    · rintro h ⟨w, e, hw⟩
      cases e; exact hw h
    · intro h
      exact Classical.byContradiction fun q => h ⟨v, rfl, q⟩
theorem GeMono.nw {x : Rec} {o o' : Option Rec} (h : GeMono o o') (hx : nwT x o' = true) : nwT x o = true := nw_geq.2 fun q => nw_geq.1 hx (h x q)
variable {node last : Int} {F : List (Int × Rec)}
/-! ### sums -/
/-! ### what is sent -/
def sprd (jn : Int → Int → Bool) (n e : Int) (rs : List Rec) : List Msg := (List.range 8).flatMap fun k : Nat => if (k : Int) ≠ n ∧ (k : Int) ≠ e ∧ jn n k = true then rs.map fun r => (n, (k : Int), r) else []
end Go.AM
namespace Go.AM
open Go Go.Proofs
variable {jn : Int → Int → Bool} {l A : List Rec} {X : Nat → St13} {ms : List Msg}
end Go.AM
namespace Go.AM
open Go Go.Proofs
variable {jn : Int → Int → Bool} {l A : List Rec} {X : Nat → St13} {ms : List Msg}
/-- what is under way at the start -/
def ms0 (jn : Int → Int → Bool) (X : Nat → St13) (n : Nat) : List Msg := (List.range n).flatMap fun d : Nat => sprd jn d (-1) (allR (X d).F)
end Go.AM
namespace Go.AM
open Go Go.Proofs
/-! ### databases that are read alone -/
def MapR (s : Heap) (b : Nat) (l : List (Int × AVal)) : Prop := ∃ t es c, s b = some (t, .map es c) ∧ EsOK es c l
theorem MapR.get {s : Heap} {b : Nat} {l : List (Int × AVal)} (h : MapR s b l) {k : Int} : getM s (.map b) (.int .i64 k) = some (look l k) := by
  obtain ⟨t, es, c, hb, ho⟩ := h
  obtain ⟨r, g1, g2, _⟩ := findI_kv (k := k) (i := 0) ho.kv
  unfold getM
  simp only [hb, g1]
  rw [← g2]
  cases r <;> rfl
theorem MapR.len {s : Heap} {b : Nat} {l : List (Int × AVal)} (h : MapR s b l) : lenM s (.map b) = some l.length := by
  obtain ⟨t, es, c, hb, ho⟩ := h
  simp [lenM, hb, ho.len]
theorem MapR.sub {s s' : Heap} {b : Nat} {l : List (Int × AVal)} (h : MapR s b l) (k : Sub s s') : MapR s' b l := by
  obtain ⟨t, es, c, hb, ho⟩ := h
  exact ⟨t, es, c, k _ _ hb, ho⟩
theorem MapR.nd {s : Heap} {b : Nat} {l : List (Int × AVal)} (h : MapR s b l) : (l.map (·.1)).Nodup := by
  obtain ⟨t, es, c, hb, ho⟩ := h
  exact ho.nd
section
variable {α β : Type} {K : AVal → Heap → Prop} {s : Heap} {P : Program} {X : Told}
end
variable {K : AVal → Heap → Prop} {s s' s0 : Heap} {Fz : Nat → Prop} {d m : Nat} {nodes node last n q : Int} {F G : List (Int × Rec)} {v : AVal} {L : List Int}
structure DbR (s : Heap) (d m : Nat) (nodes node last : Int) (F : List (Int × Rec)) : Prop where
  dc : ∃ t, s d = some (t, .cells 81 [.int .i64 nodes, .int .i64 node, .int .i64 last, .map m])
  mp : ∃ l, MapR s m l ∧ Pairs (fun v r => ∃ lv, v = recV r.1 r.2.1 lv ∧ Sli s lv r.2.2) l F
  nn : 1 ≤ nodes ∧ nodes ≤ 32 ∧ 0 ≤ node ∧ node < nodes
  gd : ∀ k r, look F k = some r → r.1 = k ∧ (0 ≤ k ∧ k < nodes) ∧ r.2.2.length ≤ 100000
theorem Db.rd (z : Db Fz s d m nodes node last F) : DbR s d m nodes node last F := by
  obtain ⟨l, ⟨es, c, h1, h2⟩, h3⟩ := z.mp
  exact ⟨⟨_, z.dc⟩, ⟨l, ⟨_, es, c, h1, h2⟩, h3.mono fun a b ⟨lv, e, h4, _⟩ => ⟨lv, e, h4⟩⟩, z.nn, z.gd⟩
theorem DbR.sub (z : DbR s d m nodes node last F) (k : Sub s s') : DbR s' d m nodes node last F := by
  obtain ⟨l, h1, h3⟩ := z.mp
  obtain ⟨t, h⟩ := z.dc
  exact ⟨⟨t, k _ _ h⟩, ⟨l, h1.sub k, h3.mono fun a b ⟨lv, e, h4⟩ => ⟨lv, e, h4.sub k⟩⟩, z.nn, z.gd⟩
theorem DbR.frz (z : DbR s d m nodes node last F) : DbR (frz s) d m nodes node last F := by
  obtain ⟨l, ⟨t, es, c, h1, h2⟩, h3⟩ := z.mp
  obtain ⟨t', h⟩ := z.dc
  exact ⟨⟨_, frz_some h⟩, ⟨l, ⟨_, es, c, frz_some h1, h2⟩, h3.mono fun a b ⟨lv, e, h4⟩ => ⟨lv, e, h4.frz⟩⟩, z.nn, z.gd⟩
end Go.AM
