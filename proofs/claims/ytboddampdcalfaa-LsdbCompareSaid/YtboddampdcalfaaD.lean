/- Part D of a calculus over a small memory that is proved to answer as the program does, and of its use for the functions that the law reaches: see the last part. -/
import Derived.Test.YtboddampdcalfaaV
import Derived.Test.YtboddampdcalfaaU2
namespace Go.AM
open Go Go.Proofs
variable {K : AVal → Heap → Prop} {s : Heap}
/-! ### lists of numbers -/
abbrev Sli (s : Heap) (v : AVal) (l : List Int) : Prop := Sl s v (l.map (AVal.int .i64))
theorem sli_at {v : AVal} {l : List Int} (h : Sli s v l) {k : Nat} (hk : k < l.length) : ∃ p, iaddrS 1 v (.int .i64 (k : Int)) = some p ∧ rd1 s p = some (.int .i64 l[k]) := by
  obtain ⟨p, h1, h2⟩ := h.get (i := k) (by simpa using hk)
  exact ⟨p, h1, by rw [h2]; simp [hk]⟩
theorem isNaN_in {x : Int} (hK : K (.bool false) s) : wpCall Try.prog XX 63 [.int .i64 x] K s := by
  refine vc_cmp_isNaN_int__in ?_
  simp only [vc_cmp_isNaN_int_, eqV_int, beq_self_eq_true, negB_mk, optK_mk, bne_self_eq_false]
  exact hK
def cmpI (x y : Int) : Int := if x < y then -1 else if y < x then 1 else 0
theorem cmpI_in {x y : Int} (hK : K (.int .i64 (cmpI x y)) s) : wpCall Try.prog XX 48 [.int .i64 x, .int .i64 y] K s := by
  refine vc_cmp_Compare_int__in (isNaN_in (isNaN_in ?_))
  simp only [boolK_false, arith_lss, arith_gtr, optK_mk]
  unfold cmpI at hK
  refine boolK_mk (fun h => ?_) (fun h => ?_)
  · rw [if_pos (of_decide_eq_true h)] at hK; exact hK
  · rw [if_neg (of_decide_eq_false h)] at hK
    refine boolK_mk (fun h2 => ?_) fun h2 => ?_
    · rw [if_pos (of_decide_eq_true h2)] at hK; exact hK
    · rw [if_neg (of_decide_eq_false h2)] at hK; exact hK
def cmpL : List Int → List Int → Int
  | [], [] => 0
  | [], _ :: _ => -1
  | _ :: _, [] => 1
  | x :: a, y :: b => if x < y then -1 else if y < x then 1 else cmpL a b
theorem cmpL_cons (x y : Int) (a b : List Int) : cmpL (x :: a) (y :: b) = if x < y then -1 else if y < x then 1 else cmpL a b := rfl
theorem cmpL_some (x : Int) (a : List Int) : cmpL (x :: a) [] = 1 := rfl
theorem cmpL_nil (b : List Int) : cmpL [] b = if 0 < b.length then -1 else 0 := by cases b <;> simp [cmpL]
theorem sCompare_in {v v' : AVal} {l m : List Int} (h : Sli s v l) (h' : Sli s v' m) (hl : l.length ≤ 1000000) (hK : K (.int .i64 (cmpL l m)) s) : wpCall Try.prog XX 49 [v, v'] K s := by
  refine vc_slices_Compare___int_int__in ?_
  simp only [vc_slices_Compare___int_int_, h.len, optK_mk, List.length_map]
  refine ⟨fun ys s1 n => ∃ k : Nat, ys = [.int .i64 k] ∧ s1 = s ∧ k ≤ l.length ∧ n = l.length - k ∧ cmpL l m = cmpL (l.drop k) (m.drop k), ⟨_, 0, rfl, rfl, by omega, rfl, by simp⟩, ?_⟩
  rintro f s1 n ⟨k, hy, rfl, hk, rfl, he⟩
  simp only [List.cons.injEq, and_true] at hy
  rw [hy]
  simp only [vc_slices_Compare___int_int__l0, h.len, h'.len, optK_mk, arith_lss, arith_geq, List.length_map]
  refine boolK_mk (fun hlt => ?_) (fun hge => ?_)
  · have hlt : k < l.length := by simpa using hlt
    obtain ⟨p, g1, g2⟩ := sli_at h hlt
    simp only [g1, g2, optK_mk]
    rw [List.drop_eq_getElem_cons hlt] at he
    refine boolK_mk (fun hm => ?_) (fun hm => ?_)
    · have hm : m.length ≤ k := by simpa using hm
      rw [List.drop_eq_nil_of_le hm] at he
      rw [he] at hK; exact hK
    · have hm : k < m.length := by simpa using hm
      obtain ⟨p', g3, g4⟩ := sli_at h' hm
      simp only [g3, g4, optK_mk]
      rw [List.drop_eq_getElem_cons hm] at he
      refine cmpI_in ?_
      simp only [eqV_int, negB_mk, optK_mk, Bool.true_bne]
      rw [cmpL_cons] at he
      unfold cmpI
      by_cases a1 : l[k] < m[k]
      · rw [if_pos a1] at he ⊢; rw [he] at hK
        refine boolK_mk (fun _ => hK) fun h => by simp at h
      · rw [if_neg a1] at he ⊢
        by_cases a2 : m[k] < l[k]
        · rw [if_pos a2] at he ⊢; rw [he] at hK
          refine boolK_mk (fun _ => hK) fun h => by simp at h
        · rw [if_neg a2] at he ⊢
          refine boolK_mk (fun h => by simp at h) fun _ => ?_
          simp only [arith_add, optK_mk]
          rw [wrap64 (by omega) (by omega)]
          exact ⟨_, by omega, k + 1, by simp, by trivial, by omega, rfl, he⟩
  · have hge : l.length ≤ k := by simpa using hge
    have hk' : k = l.length := by omega
    rw [List.drop_eq_nil_of_le hge, cmpL_nil] at he
    have : (m.drop k).length = m.length - k := List.length_drop
    refine boolK_mk (fun hlt => ?_) (fun hlt => ?_)
    · have hlt : l.length < m.length := by simpa using hlt
      rw [if_pos (by omega)] at he; rw [he] at hK; exact hK
    · have hlt : m.length ≤ l.length := by simpa using hlt
      rw [if_neg (by omega)] at he; rw [he] at hK; exact hK
theorem rCompare_in {v v' : AVal} {l m : List Int} (h : Sli s v l) (h' : Sli s v' m) (hl : l.length ≤ 1000000) (hK : K (.int .i64 (cmpL l m)) s) : wpCall Try.prog XX 50 [v, v'] K s := by
  refine vc_leafmeshref13_compare_in ?_
  refine ⟨fun ys s1 n => ∃ k : Nat, ys = [.int .i64 k] ∧ s1 = s ∧ k ≤ l.length ∧ k ≤ m.length ∧ n = l.length - k ∧ cmpL l m = cmpL (l.drop k) (m.drop k), ⟨_, 0, rfl, rfl, by omega, by omega, rfl, by simp⟩, ?_⟩
  rintro f s1 n ⟨k, hy, rfl, hk, hkm, rfl, he⟩
  simp only [List.cons.injEq, and_true] at hy
  rw [hy]
  simp only [vc_leafmeshref13_compare_l0, h.len, h'.len, optK_mk, arith_lss, arith_gtr, List.length_map, vc_leafmeshref13_compare_j1]
  refine boolK_mk (fun hlt => ?_) (fun hge => ?_)
  · rw [hlt]
    have hlt : k < l.length := by simpa using hlt
    rw [List.drop_eq_getElem_cons hlt] at he
    obtain ⟨p, g1, g2⟩ := sli_at h hlt
    simp only [pickV_true, optK_mk]
    refine boolK_mk (fun hm => ?_) (fun hm => ?_)
    · have hm : k < m.length := by simpa using hm
      obtain ⟨p', g3, g4⟩ := sli_at h' hm
      simp only [g1, g2, g3, g4, optK_mk, arith_lss, arith_gtr]
      rw [List.drop_eq_getElem_cons hm] at he
      rw [cmpL_cons] at he
      refine boolK_mk (fun a1 => ?_) (fun a1 => ?_)
      · rw [if_pos (of_decide_eq_true a1)] at he; rw [he] at hK; exact hK
      · rw [if_neg (of_decide_eq_false a1)] at he
        refine boolK_mk (fun a2 => ?_) (fun a2 => ?_)
        · rw [if_pos (of_decide_eq_true a2)] at he; rw [he] at hK; exact hK
        · rw [if_neg (of_decide_eq_false a2)] at he
          simp only [arith_add, optK_mk]
          rw [wrap64 (by omega) (by omega)]
          exact ⟨_, by omega, k + 1, by simp, by trivial, by omega, by omega, rfl, he⟩
    · have hm : m.length ≤ k := by simpa using hm
      rw [List.drop_eq_nil_of_le hm] at he
      rw [cmpL_some] at he
      rw [he] at hK
      have e1 : ¬ l.length < m.length := by omega
      have e2 : m.length < l.length := by omega
      refine boolK_mk (fun a => absurd (by simpa using a) e1) fun _ => boolK_mk (fun _ => hK) fun a => absurd e2 (by simpa using a)
  · rw [hge]
    have hge : l.length ≤ k := by simpa using hge
    have hk' : k = l.length := by omega
    rw [List.drop_eq_nil_of_le hge, cmpL_nil] at he
    have : (m.drop k).length = m.length - k := List.length_drop
    simp only [pickV_false, optK_mk, boolK_false]
    refine boolK_mk (fun hlt => ?_) (fun hlt => ?_)
    · have hlt : l.length < m.length := by simpa using hlt
      rw [if_pos (by omega)] at he; rw [he] at hK; exact hK
    · have hlt : m.length ≤ l.length := by simpa using hlt
      rw [if_neg (by omega)] at he; rw [he] at hK
      refine boolK_mk (fun a => ?_) fun _ => hK
      have : m.length < l.length := by simpa using a
      omega
/-! ### links -/
def chkL : Option Int → List Int → Int
  | _, [] => 0
  | p, x :: r => if x < 0 ∨ 128 ≤ x then 2 else if (p.any fun q => decide (x ≤ q)) = true then 10 else chkL (some x) r
def prevOf (l : List Int) (k : Nat) : Option Int := if k = 0 then none else l[k - 1]?
theorem chk_step {l : List Int} {k : Nat} (hk : k < l.length) : chkL (prevOf l k) (l.drop k) = if l[k] < 0 ∨ 128 ≤ l[k] then 2 else if ((prevOf l k).any fun q => decide (l[k] ≤ q)) = true then 10 else chkL (prevOf l (k + 1)) (l.drop (k + 1)) := by
  rw [List.drop_eq_getElem_cons hk]
  conv => lhs; unfold chkL
  have : prevOf l (k + 1) = some l[k] := by unfold prevOf; rw [if_neg (by omega)]; simp [hk]
  rw [this]
theorem checkLinks_in {v : AVal} {l : List Int} (h : Sli s v l) (hl : l.length ≤ 1000000) (hK : K (.int .i64 (chkL none l)) s) : wpCall Try.prog XX 45 [v] K s := by
  refine vc_lsdb_checkLinks_in ?_
  simp only [vc_lsdb_checkLinks, h.len, optK_mk, List.length_map]
  refine ⟨fun ys s1 n => ∃ k : Nat, ys = [.int .i64 k] ∧ s1 = s ∧ k ≤ l.length ∧ n = l.length - k ∧ chkL none l = chkL (prevOf l k) (l.drop k), ⟨_, 0, rfl, rfl, by omega, rfl, by simp [prevOf]⟩, ?_⟩
  rintro f s1 n ⟨k, hy, rfl, hk, rfl, he⟩
  simp only [List.cons.injEq, and_true] at hy
  rw [hy]
  simp only [vc_lsdb_checkLinks_l0, optK_mk, arith_lss]
  refine boolK_mk (fun hlt => ?_) (fun hge => ?_)
  · have hlt : k < l.length := by simpa using hlt
    obtain ⟨p, g1, g2⟩ := sli_at h hlt
    rw [chk_step hlt] at he
    simp only [g1, g2, optK_mk, arith_lss, arith_geq, vc_lsdb_checkLinks_j1, arith_gtr, arith_sub]
    have key : ¬ (l[k] < 0 ∨ 128 ≤ l[k]) → boolK (.bool (decide ((0:Int) < k)))
         (optK (iaddrS 1 v (.int .i64 (IntKind.i64.wrap ((k:Int) - 1)))) fun v_11 =>
          optK (rd1 s1 v_11) fun v_12 =>
          optK (arithV .leq (.int .i64 l[k]) v_12) fun v_13 =>
          vc_lsdb_checkLinks_j2 XX (.int .i64 k) (.bool (decide ((0:Int) < k))) v_13 (fun ys s1_1 n => ∃ k : Nat, ys = [.int .i64 k] ∧ s1_1 = s1 ∧ k ≤ l.length ∧ n = l.length - k ∧ chkL none l = chkL (prevOf l k) (l.drop k)) (l.length - k) K s1)
         (vc_lsdb_checkLinks_j2 XX (.int .i64 k) (.bool (decide ((0:Int) < k))) .undef (fun ys s1_1 n => ∃ k : Nat, ys = [.int .i64 k] ∧ s1_1 = s1 ∧ k ≤ l.length ∧ n = l.length - k ∧ chkL none l = chkL (prevOf l k) (l.drop k)) (l.length - k) K s1) := by
      intro hn
      rw [if_neg hn] at he
      have fin : chkL none l = chkL (prevOf l (k + 1)) (l.drop (k + 1)) → optK (arithV .add (.int .i64 k) (.int .i64 1)) fun v_9 => ∃ m', m' < l.length - k ∧ (∃ k : Nat, [v_9] = [AVal.int .i64 k] ∧ True ∧ k ≤ l.length ∧ m' = l.length - k ∧ chkL none l = chkL (prevOf l k) (l.drop k)) := by
        intro he
        simp only [arith_add, optK_mk]
        rw [wrap64 (by omega) (by omega)]
        exact ⟨_, by omega, k + 1, by simp, by trivial, by omega, rfl, he⟩
      refine boolK_mk (fun hp => ?_) (fun hp => ?_)
      · rw [hp]
        have hp : 0 < k := by simpa using hp
        obtain ⟨q, g3, g4⟩ := sli_at h (k := k - 1) (by omega)
        have e1 : IntKind.i64.wrap ((k:Int) - 1) = ((k - 1 : Nat) : Int) := by rw [wrap64 (by omega) (by omega)]; omega
        rw [e1]
        have e2 : prevOf l k = some (l[k - 1]'(by omega)) := by unfold prevOf; rw [if_neg (by omega)]; simp [show k - 1 < l.length by omega]
        rw [e2] at he
        simp only [Option.any_some] at he
        simp only [g3, g4, optK_mk, arith_leq, vc_lsdb_checkLinks_j2, pickV_true]
        refine boolK_mk (fun hc => ?_) (fun hc => ?_)
        · rw [if_pos hc] at he; rw [he] at hK; exact hK
        · rw [if_neg (by rw [hc]; simp)] at he
          exact fin he
      · rw [hp]
        have hp : k = 0 := by simpa using hp
        have e2 : prevOf l k = none := by unfold prevOf; rw [if_pos hp]
        rw [e2] at he
        simp only [Option.any_none, Bool.false_eq_true, if_false] at he
        simp only [vc_lsdb_checkLinks_j2, pickV_false, optK_mk, boolK_false]
        exact fin he
    refine boolK_mk (fun hc => ?_) (fun hc => ?_)
    · rw [hc]
      rw [if_pos (.inl (of_decide_eq_true hc))] at he; rw [he] at hK
      simp only [pickV_true, optK_mk, boolK_true]; exact hK
    · rw [hc]
      simp only [pickV_false, optK_mk]
      refine boolK_mk (fun hd => ?_) (fun hd => ?_)
      · rw [if_pos (.inr (of_decide_eq_true hd))] at he; rw [he] at hK; exact hK
      · exact key (by rintro (q | q); exact of_decide_eq_false hc q; exact of_decide_eq_false hd q)
  · have hge : l.length ≤ k := by simpa using hge
    rw [List.drop_eq_nil_of_le hge] at he
    rw [show chkL (prevOf l k) [] = 0 by unfold chkL; rfl] at he
    rw [he] at hK; exact hK
theorem rlinks_in {v : AVal} {l : List Int} (h : Sli s v l) (hl : l.length ≤ 1000000) (hK : K (.int .i64 (chkL none l)) s) : wpCall Try.prog XX 46 [v] K s := by
  refine vc_leafmeshref13_links_in ?_
  refine ⟨fun ys s1 n => ∃ k : Nat, ys = [.int .i64 k] ∧ s1 = s ∧ k ≤ l.length ∧ n = l.length - k ∧ chkL none l = chkL (prevOf l k) (l.drop k), ⟨_, 0, rfl, rfl, by omega, rfl, by simp [prevOf]⟩, ?_⟩
  rintro f s1 n ⟨k, hy, rfl, hk, rfl, he⟩
  simp only [List.cons.injEq, and_true] at hy
  rw [hy]
  simp only [vc_leafmeshref13_links_l0, optK_mk, arith_lss, h.len, List.length_map]
  refine boolK_mk (fun hlt => ?_) (fun hge => ?_)
  · have hlt : k < l.length := by simpa using hlt
    obtain ⟨p, g1, g2⟩ := sli_at h hlt
    rw [chk_step hlt] at he
    simp only [g1, g2, optK_mk, arith_lss, arith_geq, vc_leafmeshref13_links_j1, arith_gtr, arith_sub]
    have key : ¬ (l[k] < 0 ∨ 128 ≤ l[k]) → boolK (.bool (decide ((0:Int) < k)))
         (optK (iaddrS 1 v (.int .i64 (IntKind.i64.wrap ((k:Int) - 1)))) fun v_13 =>
          optK (rd1 s1 v_13) fun v_14 =>
          optK (arithV .leq (.int .i64 l[k]) v_14) fun v_15 =>
          vc_leafmeshref13_links_j2 XX (.int .i64 k) (.bool (decide ((0:Int) < k))) v_15 (fun ys s1_1 n => ∃ k : Nat, ys = [.int .i64 k] ∧ s1_1 = s1 ∧ k ≤ l.length ∧ n = l.length - k ∧ chkL none l = chkL (prevOf l k) (l.drop k)) (l.length - k) K s1)
         (vc_leafmeshref13_links_j2 XX (.int .i64 k) (.bool (decide ((0:Int) < k))) .undef (fun ys s1_1 n => ∃ k : Nat, ys = [.int .i64 k] ∧ s1_1 = s1 ∧ k ≤ l.length ∧ n = l.length - k ∧ chkL none l = chkL (prevOf l k) (l.drop k)) (l.length - k) K s1) := by
      intro hn
      rw [if_neg hn] at he
      have fin : chkL none l = chkL (prevOf l (k + 1)) (l.drop (k + 1)) → optK (arithV .add (.int .i64 k) (.int .i64 1)) fun v_9 => ∃ m', m' < l.length - k ∧ (∃ k : Nat, [v_9] = [AVal.int .i64 k] ∧ True ∧ k ≤ l.length ∧ m' = l.length - k ∧ chkL none l = chkL (prevOf l k) (l.drop k)) := by
        intro he
        simp only [arith_add, optK_mk]
        rw [wrap64 (by omega) (by omega)]
        exact ⟨_, by omega, k + 1, by simp, by trivial, by omega, rfl, he⟩
      refine boolK_mk (fun hp => ?_) (fun hp => ?_)
      · rw [hp]
        have hp : 0 < k := by simpa using hp
        obtain ⟨q, g3, g4⟩ := sli_at h (k := k - 1) (by omega)
        have e1 : IntKind.i64.wrap ((k:Int) - 1) = ((k - 1 : Nat) : Int) := by rw [wrap64 (by omega) (by omega)]; omega
        rw [e1]
        have e2 : prevOf l k = some (l[k - 1]'(by omega)) := by unfold prevOf; rw [if_neg (by omega)]; simp [show k - 1 < l.length by omega]
        rw [e2] at he
        simp only [Option.any_some] at he
        simp only [g3, g4, optK_mk, arith_leq, vc_leafmeshref13_links_j2, pickV_true]
        refine boolK_mk (fun hc => ?_) (fun hc => ?_)
        · rw [if_pos hc] at he; rw [he] at hK; exact hK
        · rw [if_neg (by rw [hc]; simp)] at he
          exact fin he
      · rw [hp]
        have hp : k = 0 := by simpa using hp
        have e2 : prevOf l k = none := by unfold prevOf; rw [if_pos hp]
        rw [e2] at he
        simp only [Option.any_none, Bool.false_eq_true, if_false] at he
        simp only [vc_leafmeshref13_links_j2, pickV_false, optK_mk, boolK_false]
        exact fin he
    refine boolK_mk (fun hc => ?_) (fun hc => ?_)
    · rw [hc]
      rw [if_pos (.inl (of_decide_eq_true hc))] at he; rw [he] at hK
      simp only [pickV_true, optK_mk, boolK_true]; exact hK
    · rw [hc]
      simp only [pickV_false, optK_mk]
      refine boolK_mk (fun hd => ?_) (fun hd => ?_)
      · rw [if_pos (.inr (of_decide_eq_true hd))] at he; rw [he] at hK; exact hK
      · exact key (by rintro (q | q); exact of_decide_eq_false hc q; exact of_decide_eq_false hd q)
  · have hge : l.length ≤ k := by simpa using hge
    rw [List.drop_eq_nil_of_le hge] at he
    rw [show chkL (prevOf l k) [] = 0 by unfold chkL; rfl] at he
    rw [he] at hK; exact hK
end Go.AM
namespace Go.AM
open Go Go.Proofs
variable {K : AVal → Heap → Prop} {s : Heap}
/-! ### records -/
theorem box3 {e : TypeId} {a b v : AVal} {K : AVal → Heap → Prop} (ha : a.one = true) (hb : b.one = true) (hv : v.one = true) (h : ∀ b0 s', s b0 = none → s' b0 = some (false, .cells e [a, b, v]) → Upto b0 s s' → K (.ptr b0 0) s') : boxK e (.agg [a, b, v]) K s :=
  ⟨by simp [ha, hb, hv], new_step h⟩
abbrev recV (n q : Int) (v : AVal) : AVal := .agg [.int .i64 n, .int .i64 q, v]
def chkR (nodes n q : Int) (l : List Int) : Int := if n < 0 ∨ nodes ≤ n ∨ q < 1 ∨ 1073741824 < q then 2 else chkL none l
theorem Check_in {nodes n q : Int} {v : AVal} {l : List Int} (h : Sli s v l) (hl : l.length ≤ 1000000) (hK : ∀ s', Sub s s' → K (.int .i64 (chkR nodes n q l)) s') : wpCall Try.prog XX 12 [.int .i64 nodes, recV n q v] K s := by
  refine vc_lsdb_Check_in (box3 rfl rfl h.one fun b s1 hb h1 u1 => ?_)
  have sub := u1.sub hb
  have fin2 : (n < 0 ∨ nodes ≤ n ∨ q < 1 ∨ 1073741824 < q) → K (.int .i64 2) s1 := fun hc => by
    have := hK s1 sub
    unfold chkR at this
    rwa [if_pos hc] at this
  have finC : ¬ (n < 0 ∨ nodes ≤ n ∨ q < 1 ∨ 1073741824 < q) → wpCall Try.prog XX 45 [v] (fun v s => K v s) s1 := fun hc => by
    refine checkLinks_in (h.sub sub) hl ?_
    have := hK s1 sub
    unfold chkR at this
    rwa [if_neg hc] at this
  simp only [addOff_ptr, optK_mk, rd1_mk h1, Nat.zero_add, List.getElem?_cons_zero, List.getElem?_cons_succ, arith_lss, arith_geq, arith_gtr, vc_lsdb_Check_j0, vc_lsdb_Check_j1, vc_lsdb_Check_j2]
  by_cases n0 : n < 0 <;> by_cases n1 : nodes ≤ n <;> by_cases n2 : q < 1 <;> by_cases n3 : 1073741824 < q <;> simp only [n0, n1, n2, n3, decide_true, decide_false, boolK_true, boolK_false, pickV_true, pickV_false, optK_mk] <;> first | exact fin2 (by omega) | exact finC (by omega)
theorem rCheck_in {nodes n q : Int} {v : AVal} {l : List Int} (h : Sli s v l) (hl : l.length ≤ 1000000) (hK : ∀ s', Sub s s' → K (.int .i64 (chkR nodes n q l)) s') : wpCall Try.prog XX 13 [.int .i64 nodes, recV n q v] K s := by
  refine vc_leafmeshref13_Check_in (box3 rfl rfl h.one fun b s1 hb h1 u1 => ?_)
  have sub := u1.sub hb
  have fin2 : (n < 0 ∨ nodes ≤ n ∨ q < 1 ∨ 1073741824 < q) → K (.int .i64 2) s1 := fun hc => by
    have := hK s1 sub
    unfold chkR at this
    rwa [if_pos hc] at this
  have finC : ¬ (n < 0 ∨ nodes ≤ n ∨ q < 1 ∨ 1073741824 < q) → wpCall Try.prog XX 46 [v] (fun v s => K v s) s1 := fun hc => by
    refine rlinks_in (h.sub sub) hl ?_
    have := hK s1 sub
    unfold chkR at this
    rwa [if_neg hc] at this
  simp only [addOff_ptr, optK_mk, rd1_mk h1, Nat.zero_add, List.getElem?_cons_zero, List.getElem?_cons_succ, arith_lss, arith_geq, arith_gtr, vc_leafmeshref13_Check_j0, vc_leafmeshref13_Check_j1, vc_leafmeshref13_Check_j2]
  by_cases n0 : n < 0 <;> by_cases n1 : nodes ≤ n <;> by_cases n2 : q < 1 <;> by_cases n3 : 1073741824 < q <;> simp only [n0, n1, n2, n3, decide_true, decide_false, boolK_true, boolK_false, pickV_true, pickV_false, optK_mk] <;> first | exact fin2 (by omega) | exact finC (by omega)
/-! ### comparing -/
def orL : List Int → Int
  | [] => 0
  | x :: r => if x ≠ 0 then x else orL r
theorem orL_cons (x : Int) (r : List Int) : orL (x :: r) = if x ≠ 0 then x else orL r := rfl
theorem Or_in {v : AVal} {l : List Int} (h : Sli s v l) (hl : l.length ≤ 1000000) (hK : K (.int .i64 (orL l)) s) : wpCall Try.prog XX 47 [v] K s := by
  refine vc_cmp_Or_int__in ?_
  simp only [vc_cmp_Or_int_, h.len, optK_mk, List.length_map]
  refine ⟨fun ys s1 n => ∃ k : Nat, ys = [.int .i64 k] ∧ s1 = s ∧ k ≤ l.length ∧ n = l.length - k ∧ orL l = orL (l.drop k), ⟨_, 0, rfl, rfl, by omega, rfl, by simp⟩, ?_⟩
  rintro f s1 n ⟨k, hy, rfl, hk, rfl, he⟩
  simp only [List.cons.injEq, and_true] at hy
  rw [hy]
  simp only [vc_cmp_Or_int__l0, optK_mk, arith_lss]
  refine boolK_mk (fun hlt => ?_) (fun hge => ?_)
  · have hlt : k < l.length := by simpa using hlt
    obtain ⟨p, g1, g2⟩ := sli_at h hlt
    rw [List.drop_eq_getElem_cons hlt] at he
    rw [orL_cons] at he
    simp only [g1, g2, optK_mk, eqV_int, negB_mk, Bool.true_bne]
    by_cases hz : l[k] = 0
    · rw [if_neg (by simpa using hz)] at he
      refine boolK_mk (fun h => by simp [hz] at h) fun _ => ?_
      simp only [arith_add, optK_mk]
      rw [wrap64 (by omega) (by omega)]
      exact ⟨_, by omega, k + 1, by simp, by trivial, by omega, rfl, he⟩
    · rw [if_pos hz] at he; rw [he] at hK
      refine boolK_mk (fun _ => hK) fun h => by simp [hz] at h
  · have hge : l.length ≤ k := by simpa using hge
    rw [List.drop_eq_nil_of_le hge] at he
    rw [he] at hK; exact hK
def cmpR (p q : Int) (l m : List Int) : Int := if p < q then -1 else if q < p then 1 else cmpL l m
theorem cmpR_or (p q : Int) (l m : List Int) : orL [cmpI p q, cmpL l m] = cmpR p q l m := by
  unfold cmpR cmpI
  by_cases h1 : p < q
  · simp [h1, orL]
  · by_cases h2 : q < p
    · simp [h1, h2, orL]
    · simp only [h1, h2, if_false, orL]
      by_cases h : cmpL l m = 0
      · simp [h]
      · simp [h]
theorem Compare_in {a b p q : Int} {v w : AVal} {l m : List Int} (h : Sli s v l) (h' : Sli s w m) (hl : l.length ≤ 1000000) (hK : ∀ s', Sub s s' → K (.int .i64 (cmpR p q l m)) s') : wpCall Try.prog XX 14 [recV a p v, recV b q w] K s := by
  refine vc_lsdb_Compare_in (box3 rfl rfl h.one fun b1 s1 hb1 h1 u1 => box3 rfl rfl h'.one fun b2 s2 hb2 h2 u2 => ?_)
  have sub1 := u1.sub hb1
  have sub2 := sub1.trans (u2.sub hb2)
  have h12 := u2.at h1 hb2
  simp only [addOff_ptr, optK_mk, rd1_mk h12, rd1_mk h2, Nat.zero_add, List.getElem?_cons_zero, List.getElem?_cons_succ]
  refine cmpI_in fun _ => ?_
  rw [add_frz, cut_refl]
  simp only [addOff_ptr, optK_mk, rd1_mk h12, rd1_mk h2, Nat.zero_add, List.getElem?_cons_zero, List.getElem?_cons_succ]
  refine sCompare_in (h.sub sub2) (h'.sub sub2) hl ?_
  refine optK_of (a := [.int .i64 (cmpI p q), .int .i64 (cmpL l m)]) rfl ⟨rfl, new_step fun c s3 hc h3 u3 => ?_⟩
  refine Or_in (l := [cmpI p q, cmpL l m]) (Sl.mk h3 rfl (by simp)) (by simp) ?_
  rw [cmpR_or]
  exact hK _ (sub2.trans (u3.sub hc))
theorem rCompareR_in {a b p q : Int} {v w : AVal} {l m : List Int} (h : Sli s v l) (h' : Sli s w m) (hl : l.length ≤ 1000000) (hK : ∀ s', Sub s s' → K (.int .i64 (cmpR p q l m)) s') : wpCall Try.prog XX 15 [recV a p v, recV b q w] K s := by
  refine vc_leafmeshref13_Compare_in (box3 rfl rfl h.one fun b1 s1 hb1 h1 u1 => box3 rfl rfl h'.one fun b2 s2 hb2 h2 u2 => ?_)
  have sub1 := u1.sub hb1
  have sub2 := sub1.trans (u2.sub hb2)
  have h12 := u2.at h1 hb2
  have hk := hK _ sub2
  unfold cmpR at hk
  simp only [addOff_ptr, optK_mk, rd1_mk h12, rd1_mk h2, Nat.zero_add, List.getElem?_cons_zero, List.getElem?_cons_succ, arith_lss, arith_gtr]
  refine boolK_mk (fun a1 => ?_) (fun a1 => ?_)
  · rw [if_pos (of_decide_eq_true a1)] at hk; exact hk
  · rw [if_neg (of_decide_eq_false a1)] at hk
    refine boolK_mk (fun a2 => ?_) (fun a2 => ?_)
    · rw [if_pos (of_decide_eq_true a2)] at hk; exact hk
    · rw [if_neg (of_decide_eq_false a2)] at hk
      exact rCompare_in (h.sub sub2) (h'.sub sub2) hl hk
/-! ### helpers of the laws -/
theorem Own_in {v : AVal} {l : List Int} (h : Sli s v l) (hl : l.length ≤ 10000000) (hK : ∀ v' s', Sub s s' → Sli s' v' l → K v' s') : wpCall Try.prog XX 11 [v] K s := by
  refine vc_leafmeshkit_Own_int__in ?_
  refine optK_of (a := []) rfl ⟨rfl, new_step fun b s1 hb h1 u1 => ?_⟩
  refine app_copy (h.sub (u1.sub hb)) (by simp; omega) fun v' s2 sub2 g1 g2 => hK _ _ ((u1.sub hb).trans sub2) ?_
  by_cases hm : l.map (AVal.int .i64) = []
  · rw [g1 hm]
    unfold Sli; rw [hm]
    exact .inr ⟨b, 0, some 0, rfl, by simp, fun h => absurd rfl h⟩
  · obtain ⟨c, _, rfl, hc⟩ := g2 hm
    exact Sl.mk hc rfl (by simp)
theorem Same_in {v v' : AVal} {l m : List Int} (h : Sli s v l) (h' : Sli s v' m) (hl : l.length ≤ 10000000) (hK : K (.bool (l == m)) s) : wpCall Try.prog XX 34 [v, v'] K s := by
  refine vc_leafmeshkit_Same_int__in ?_
  simp only [vc_leafmeshkit_Same_int_, h.len, h'.len, optK_mk, eqV_int, negB_mk, List.length_map, Bool.true_bne]
  refine boolK_mk (fun hne => ?_) (fun heq => ?_)
  · have : (l == m) = false := by
      cases q : (l == m) with
      | false => rfl
      | true => rw [eq_of_beq q] at hne; simp at hne
    rw [← this]; exact hK
  · have hlm : l.length = m.length := by
      have : (l.length : Int) = m.length := by simpa using heq
      omega
    refine ⟨fun ys s1 n => ∃ k : Nat, ys = [.int .i64 k] ∧ s1 = s ∧ k ≤ l.length ∧ n = l.length - k ∧ (l == m) = (l.drop k == m.drop k), ⟨_, 0, rfl, rfl, by omega, rfl, by simp⟩, ?_⟩
    rintro f s1 n ⟨k, hy, rfl, hk, rfl, he⟩
    simp only [List.cons.injEq, and_true] at hy
    rw [hy]
    simp only [vc_leafmeshkit_Same_int__l0, h.len, optK_mk, arith_lss, List.length_map]
    refine boolK_mk (fun hlt => ?_) (fun hge => ?_)
    · have hlt : k < l.length := by simpa using hlt
      obtain ⟨p, g1, g2⟩ := sli_at h hlt
      obtain ⟨p', g3, g4⟩ := sli_at h' (k := k) (by omega)
      rw [List.drop_eq_getElem_cons hlt, List.drop_eq_getElem_cons (show k < m.length by omega), List.cons_beq_cons] at he
      simp only [g1, g2, g3, g4, optK_mk, eqV_int, negB_mk, Bool.true_bne]
      cases hq : (l[k] == m[k]) with
      | false =>
        rw [hq, Bool.false_and] at he; rw [he] at hK
        simp only [Bool.not_false, boolK_true]; exact hK
      | true =>
        rw [hq, Bool.true_and] at he
        simp only [Bool.not_true, boolK_false, arith_add, optK_mk]
        rw [wrap64 (by omega) (by omega)]
        exact ⟨_, by omega, k + 1, by simp, by trivial, by omega, rfl, he⟩
    · have hge : l.length ≤ k := by simpa using hge
      rw [List.drop_eq_nil_of_le hge, List.drop_eq_nil_of_le (by omega)] at he
      rw [he] at hK; exact hK
theorem equal_in {a b p q : Int} {v w : AVal} {l m : List Int} (h : Sli s v l) (h' : Sli s w m) (hl : l.length ≤ 1000000) (hK : ∀ s', Sub s s' → K (.bool (a == b && p == q && l == m)) s') : wpCall Try.prog XX 16 [recV a p v, recV b q w] K s := by
  refine vc_leafmeshlaw13_equal_in (box3 rfl rfl h.one fun b1 s1 hb1 h1 u1 => box3 rfl rfl h'.one fun b2 s2 hb2 h2 u2 => ?_)
  have sub1 := u1.sub hb1
  have sub2 := sub1.trans (u2.sub hb2)
  have h12 := u2.at h1 hb2
  have hk := hK _ sub2
  simp only [addOff_ptr, optK_mk, rd1_mk h12, rd1_mk h2, Nat.zero_add, List.getElem?_cons_zero, List.getElem?_cons_succ, eqV_int, negB_mk, Bool.false_bne]
  cases e1 : (a == b) with
  | false =>
    rw [e1] at hk
    simp only [boolK_false, vc_leafmeshlaw13_equal_j0, pickV_false, optK_mk, vc_leafmeshlaw13_equal_j1]
    simpa using hk
  | true =>
    rw [e1] at hk
    simp only [boolK_true, vc_leafmeshlaw13_equal_j0, pickV_true, optK_mk, vc_leafmeshlaw13_equal_j1]
    cases e2 : (p == q) with
    | false =>
      rw [e2] at hk
      simp only [boolK_false, pickV_false, optK_mk]
      simpa using hk
    | true =>
      rw [e2] at hk
      simp only [boolK_true, addOff_ptr, optK_mk, rd1_mk h12, rd1_mk h2, Nat.zero_add, List.getElem?_cons_zero, List.getElem?_cons_succ]
      refine Same_in (h.sub sub2) (h'.sub sub2) (by omega) ?_
      simp only [pickV_true, optK_mk]
      simpa using hk
end Go.AM
namespace Go.AM
open Go Go.Proofs
variable {K : AVal → Heap → Prop} {s : Heap}
theorem OwnN_in {v : AVal} {l : List Int} (h : Sli s v l) (hl : l.length ≤ 10000000) (hK : ∀ v' s', Sub s s' → Sli s' v' l → (∀ b o n c, v' = .slc b o n c 1 → l ≠ [] → s b = none) → K v' s') : wpCall Try.prog XX 11 [v] K s := by
  refine vc_leafmeshkit_Own_int__in ?_
  refine optK_of (a := []) rfl ⟨rfl, new_step fun b s1 hb h1 u1 => ?_⟩
  refine app_copy (h.sub (u1.sub hb)) (by simp; omega) fun v' s2 sub2 g1 g2 => hK _ _ ((u1.sub hb).trans sub2) ?_ ?_
  · by_cases hm : l.map (AVal.int .i64) = []
    · rw [g1 hm]
      unfold Sli; rw [hm]
      exact .inr ⟨b, 0, some 0, rfl, by simp, fun h => absurd rfl h⟩
    · obtain ⟨c, _, rfl, hc⟩ := g2 hm
      exact Sl.mk hc rfl (by simp)
  · rintro b' o n c rfl hne
    obtain ⟨d, hd, e, _⟩ := g2 (by simpa using hne)
    cases e
    cases q : s b' with
    | none => rfl
    | some x => rw [u1.sub hb b' x q] at hd; cases hd
structure Both (x y p q : Nat) (na qa nb qb : Int) (va vb vc vd : AVal) (la lb : List Int) (s : Heap) : Prop where
  x : ∃ t, s x = some (t, .cells 24 [.int .i64 na, .int .i64 qa, vc])
  y : ∃ t, s y = some (t, .cells 24 [.int .i64 nb, .int .i64 qb, vd])
  p : ∃ t, s p = some (t, .cells 24 [.int .i64 na, .int .i64 qa, va])
  q : ∃ t, s q = some (t, .cells 24 [.int .i64 nb, .int .i64 qb, vb])
  a : Sli s va la
  b : Sli s vb lb
  c : Sli s vc la
  d : Sli s vd lb
variable {x y p q : Nat} {na qa nb qb : Int} {va vb vc vd : AVal} {la lb : List Int}
theorem Both.sub {s s' : Heap} (h : Both x y p q na qa nb qb va vb vc vd la lb s) (hs : Sub s s') : Both x y p q na qa nb qb va vb vc vd la lb s' := by
  obtain ⟨⟨t1, h1⟩, ⟨t2, h2⟩, ⟨t3, h3⟩, ⟨t4, h4⟩, h5, h6, h7, h8⟩ := h
  exact ⟨⟨t1, hs _ _ h1⟩, ⟨t2, hs _ _ h2⟩, ⟨t3, hs _ _ h3⟩, ⟨t4, hs _ _ h4⟩, h5.sub hs, h6.sub hs, h7.sub hs, h8.sub hs⟩
theorem LC_tail (h : Both x y p q na qa nb qb va vb vc vd la lb s) (hla : la.length ≤ 200) (hlb : lb.length ≤ 200) {nodes : Int} {R : AVal → Heap → Prop} (hR : ∀ s', Both x y p q na qa nb qb va vb vc vd la lb s' → R (.bool true) s') :
    optK (rdN s 3 (.ptr x 0)) fun v_32 =>
    wpCall Try.prog XX 12 [.int .i64 nodes, (.agg v_32)] (fun v_33 s_34 =>
    (∀ b, s b ≠ none → s b = none → s_34 b = none) →
    optK (rdN (cutH [(s, (add s s_34))] (add s s_34)) 3 (.ptr p 0)) fun v_35 =>
    wpCall Try.prog XX 13 [.int .i64 nodes, (.agg v_35)] (fun v_36 s_37 =>
    optK (negB false (eqV 0 false v_33 v_36)) fun v_38 => R v_38 s_37) (add s s_34)) (frz s) := by
  obtain ⟨t1, h1⟩ := h.x
  obtain ⟨t3, h3⟩ := h.p
  refine optK_of (rdN_all h1 rfl) ?_
  refine Check_in h.c.frz (by omega) fun s2 sub2 _ => ?_
  refine optK_of (rdN_all (cut_keep h3 (add_some h3)) rfl) ?_
  have h2 := h.sub (sub_add (t := s2))
  refine rCheck_in h2.a (by omega) fun s3 sub3 => ?_
  simp only [eqV_int, beq_self_eq_true, negB_mk, Bool.false_bne, optK_mk]
  exact hR _ (h2.sub sub3)
theorem LC_cmp (h : Both x y p q na qa nb qb va vb vc vd la lb s) (hla : la.length ≤ 200) (hlb : lb.length ≤ 200) {R : AVal → Heap → Prop} (hR : ∀ s', Both x y p q na qa nb qb va vb vc vd la lb s' → R (.bool true) s') :
    optK (rdN s 3 (.ptr x 0)) fun v_39 =>
    optK (rdN s 3 (.ptr y 0)) fun v_40 =>
    wpCall Try.prog XX 14 [(.agg v_39), (.agg v_40)] (fun v_41 s_42 =>
    (∀ b, s b ≠ none → s b = none → s_42 b = none) →
    optK (rdN (cutH [(s, (add s s_42))] (add s s_42)) 3 (.ptr p 0)) fun v_43 =>
    optK (rdN (cutH [(s, (add s s_42))] (add s s_42)) 3 (.ptr q 0)) fun v_44 =>
    wpCall Try.prog XX 15 [(.agg v_43), (.agg v_44)] (fun v_45 s_46 =>
    optK (negB false (eqV 0 false v_41 v_45)) fun v_47 => R v_47 s_46) (add s s_42)) (frz s) := by
  obtain ⟨t1, h1⟩ := h.x
  obtain ⟨t2, h2⟩ := h.y
  obtain ⟨t3, h3⟩ := h.p
  obtain ⟨t4, h4⟩ := h.q
  refine optK_of (rdN_all h1 rfl) (optK_of (rdN_all h2 rfl) ?_)
  refine Compare_in h.c.frz h.d.frz (by omega) fun s2 sub2 _ => ?_
  refine optK_of (rdN_all (cut_keep h3 (add_some h3)) rfl) (optK_of (rdN_all (cut_keep h4 (add_some h4)) rfl) ?_)
  have h2 := h.sub (sub_add (t := s2))
  refine rCompareR_in h2.a h2.b (by omega) fun s3 sub3 => ?_
  simp only [eqV_int, beq_self_eq_true, negB_mk, Bool.false_bne, optK_mk]
  exact hR _ (h2.sub sub3)
theorem LC_in {nodes : Int} (ha : Sli s va la) (hb : Sli s vb lb) : wpCall Try.prog XX 3 [.int .i64 nodes, recV na qa va, recV nb qb vb] (fun v _ => v = .bool true) s := by
  refine vc_leafmeshlaw13_LsdbCompare_in (box3 rfl rfl ha.one fun p s1 hp hp1 u1 => box3 rfl rfl hb.one fun q s2 hq hq2 u2 => ?_)
  have sub2 := (u1.sub hp).trans (u2.sub hq)
  have hp2 := u2.at hp1 hq
  have ha2 := ha.sub sub2
  have hb2 := hb.sub sub2
  have known : ∀ s', wpCall Try.prog XX 10 [] (fun v _ => v = .bool true) s' := fun s' => wp_closed rfl rfl
  simp only [addOff_ptr, optK_mk, rd1_mk hp2, rd1_mk hq2, Nat.zero_add, List.getElem?_cons_zero, List.getElem?_cons_succ, ha.len, hb.len, arith_gtr, List.length_map]
  refine boolK_mk (fun h => ?_) (fun h => ?_)
  · rw [h]
    simp only [vc_leafmeshlaw13_LsdbCompare_j0, pickV_true, optK_mk, boolK_true]
    exact known _
  · rw [h]
    have hla : la.length ≤ 200 := by have := of_decide_eq_false h; omega
    simp only [vc_leafmeshlaw13_LsdbCompare_j0, pickV_false, optK_mk]
    refine boolK_mk (fun _ => known _) fun h' => ?_
    have hlb : lb.length ≤ 200 := by have := of_decide_eq_false h'; omega
    refine optK_of (rdN_all hp2 rfl) (optK_of (rdN_all hq2 rfl) ?_)
    refine newM (l := []) fun x s3 hx hx3 ux => newM (l := [(s2, add s2 s3)]) fun y s4 hy hy4 uy => ⟨?_, ?_⟩
    · show (if hdel s2 q x = none ∧ s2 x ≠ none then none else (add (add s2 s3) s4) x) ≠ none
      rw [if_neg (by rintro ⟨_, h⟩; exact h hx), sub_add x _ hx3]
      simp
    · have hyx : y ≠ x := by rintro rfl; rw [hx3] at hy; cases hy
      refine wrAgg_step (sub_add x _ hx3) rfl rfl (by simp [ha.one]) fun s5 hx5 u5 => ?_
      refine wrAgg_step ((u5 y hyx).trans hy4) rfl rfl (by simp [hb.one]) fun s6 hy6 u6 => ?_
      have hx6 := (u6 x hyx.symm).trans hx5
      have get : Sub s2 s6 := fun i e hi => by
        have hiA : add s2 s3 i = some e := sub_add i e hi
        rw [u6 i (ne_of_some hy hiA), u5 i (ne_of_some hx hi)]
        exact sub_add i e hiA
      have nx : ∀ i e, s6 i = some e → s6 i ≠ none := fun i e h => by rw [h]; simp
      simp only [addOff_ptr, optK_mk, rd1_mk (get p _ hp2), Nat.zero_add, List.getElem?_cons_zero, List.getElem?_cons_succ]
      refine OwnN_in (ha2.sub get).frz (by omega) fun vc s7 sub7 hc7 fr7 _ => ?_
      have subS : Sub s6 (add s6 s7) := sub_add
      simp only [addOff_ptr, optK_mk, rd1_mk (cut_keep (get q _ hq2) (add_some (get q _ hq2))), Nat.zero_add, List.getElem?_cons_zero, List.getElem?_cons_succ]
      refine OwnN_in ((hb2.sub get).sub subS) (by omega) fun vd s8 sub8 hd8 fr8 => ?_
      refine wr1_step (sub8 _ _ (subS _ _ hx6)) (by simp) hc7.one fun s9 hx9 u9 => ?_
      refine wr1_step ((u9 y hyx).trans (sub8 _ _ (subS _ _ hy6))) (by simp) hd8.one fun s10 hy10 u10 => ?_
      have hx10 := (u10 x hyx.symm).trans hx9
      have keep : KeepBut (fun i => i = x ∨ i = y) s8 s10 := (u9.keep (.inl rfl)).trans (u10.keep (.inr rfl))
      have old : ∀ i e, s2 i = some e → s10 i = some e := fun i e hi => keep i e (sub8 _ _ (subS _ _ (get _ _ hi))) (by
        rintro (rfl | rfl)
        · rw [hx] at hi; cases hi
        · rw [sub_add i e hi] at hy; cases hy)
      have both : Both x y p q na qa nb qb va vb vc vd la lb s10 := by
        refine ⟨⟨_, hx10⟩, ⟨_, hy10⟩, ⟨_, old _ _ hp2⟩, ⟨_, old _ _ hq2⟩, ha2.sub old, hb2.sub old, ((hc7.addf sub7).sub sub8).keep keep ?_, hd8.keep keep ?_⟩
        · rintro b o n c e hl
          have := frz_none.1 (fr7 b o n c e (by simpa using hl))
          rintro (rfl | rfl)
          · rw [hx6] at this; cases this
          · rw [hy6] at this; cases this
        · rintro b o n c e hl
          have := fr8 b o n c e (by simpa using hl)
          rintro (rfl | rfl)
          · rw [subS _ _ hx6] at this; cases this
          · rw [subS _ _ hy6] at this; cases this
      refine LC_tail both hla hlb fun s11 b11 => ?_
      simp only [boolK_true]
      refine LC_cmp b11 hla hlb fun s12 b12 => ?_
      simp only [pickV_true, optK_mk, boolK_true]
      obtain ⟨_, h1⟩ := b12.x
      obtain ⟨_, h2⟩ := b12.p
      refine optK_of (rdN_all h1 rfl) (optK_of (rdN_all h2 rfl) ?_)
      refine equal_in b12.c b12.a (by omega) fun s13 sub13 => ?_
      simp only [beq_self_eq_true, Bool.and_self, pickV_true, optK_mk, boolK_true]
      have b13 := b12.sub sub13
      obtain ⟨_, h3⟩ := b13.y
      obtain ⟨_, h4⟩ := b13.q
      refine optK_of (rdN_all h3 rfl) (optK_of (rdN_all h4 rfl) ?_)
      refine equal_in b13.d b13.b (by omega) fun s14 sub14 => ?_
      simp only [beq_self_eq_true, Bool.and_self, pickV_true, optK_mk, boolK_true]
      exact wp_closed rfl rfl
set_option maxRecDepth 100000 in
theorem rec_arg {d : Nat} {v : AVal} (h : Arg Try.prog s (d + 3) 24 v) : ∃ n q w l, v = recV n q w ∧ Sli s w l := by
  obtain ⟨h1, h2, _⟩ := h
  obtain ⟨cs, rfl⟩ := h2 (by kernel_rfl)
  unfold Inp at h1
  simp only [Try.underlying24] at h1
  obtain ⟨h1, h2⟩ := h1
  rw [show Try.prog.cellsOf 24 = 3 by kernel_rfl] at h1
  have k0 := h2 _ (List.mem_cons_self)
  have k1 := h2 _ (List.mem_cons_of_mem _ List.mem_cons_self)
  have k2 := h2 _ (List.mem_cons_of_mem _ (List.mem_cons_of_mem _ List.mem_cons_self))
  simp only [cells_agg] at h1 k0 k1 k2
  match cs, h1 with
  | [a, b, c], _ =>
    obtain ⟨n, e1, _⟩ := inp_int (xs := [a]) Try.underlying3 k0
    obtain ⟨q, e2, _⟩ := inp_int (xs := [b]) Try.underlying3 k1
    cases e1; cases e2
    obtain ⟨w, e3, l, hl, _⟩ := inp_slice (xs := [c]) Try.underlying22 (by kernel_rfl) (AVal.int .i64) (fun _ => True) (fun xs h => by obtain ⟨n, e, _⟩ := inp_int Try.underlying3 h; exact ⟨n, e, trivial⟩) k2
    cases e3
    exact ⟨n, q, c, l, rfl, hl⟩
theorem LC_wp (s : Heap) (xs : List AVal) (h : ArgL Try.prog s 40 [3, 24, 24] xs) : wpCall Try.prog XX 3 xs (fun v _ => v = .bool true) s := by
  obtain ⟨a, b, c, rfl, h1, h2, h3⟩ := argl3 h
  obtain ⟨m, rfl, _⟩ := arg_int (d := 39) Try.underlying3 h1
  obtain ⟨n, q, w, l, rfl, hl⟩ := rec_arg (d := 37) h2
  obtain ⟨n', q', w', l', rfl, hl'⟩ := rec_arg (d := 37) h3
  exact LC_in hl hl'
end Go.AM
