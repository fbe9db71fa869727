/- Part D of a calculus over a small memory that is proved to answer as the program does, and of its use for the functions that the law reaches: see the last part. -/
import Derived.Test.YtcbmjpekogancaaC
import Derived.Test.YtcbmjpekogancaaV
namespace Go.AM
open Go Go.Proofs
variable {K : AVal → Heap → Prop} {s s' s0 : Heap} {N : Nat} {G : List Lnk} {U : List Bool} {lv uv av dv v : AVal} {d : Nat → Int}
/-! ### nearer, parents -/
theorem Nearer_in {n : Nat} (z : GOk N G U) (hn : n < N) (hG : G.length ≤ 128) (hC : ∀ x ∈ G, x.2.2 ≤ 1000) (hd : ∀ m, m < N → -1 ≤ d m ∧ d m ≤ 32000) (hv : SlR 3 s v ((edL G U n).map edR)) (hdv : Sl s dv (dl N d))
    (hK : ∀ v' s', AccR 111 3 s s' v' ((nearL G U d n).map edR) → Sub s s' → K v' s') : wpCall Try.prog XX 92 [v, dv, .int .i64 (n : Int)] K s := by
  have hcost : ∀ {i n m c : Nat}, Ed G U i n m c → c ≤ 1000 := fun {i n m c} e => by
    rcases e.2 with e | e
    · exact hC _ (List.mem_of_getElem? e)
    · exact hC _ (List.mem_of_getElem? e)
  have hle := edL_len (G := G) (U := U) (n := n)
  refine vc_spf_nearer_in ?_
  simp only [vc_spf_nearer, hv.len, List.length_map, optK_mk]
  refine ⟨fun ys t m => ∃ (i : Nat) (lv : AVal), ys = [lv, .int .i64 i] ∧ i ≤ (edL G U n).length ∧ m = (edL G U n).length - i ∧ Sub s t ∧ AccR 111 3 s t lv ((((edL G U n).take i).filter fun e => decide (d n = d e.2.1 + e.2.2)).map edR), ⟨_, 0, _, rfl, by omega, rfl, .refl s, by simp, .inl ⟨rfl, by simp⟩⟩, ?_⟩
  rintro f t m ⟨i, lv, hy, hi, rfl, st, ac⟩
  simp only [List.cons.injEq, and_true] at hy
  obtain ⟨hy1, hy2⟩ := hy
  rw [hy1, hy2]
  simp only [vc_spf_nearer_l0, arith_lss, optK_mk]
  refine boolK_mk (fun hlt => ?_) (fun hge => ?_)
  · have hlt : i < (edL G U n).length := by have := of_decide_eq_true hlt; omega
    obtain ⟨e, he⟩ : ∃ e, (edL G U n)[i]? = some e := ⟨_, List.getElem?_eq_getElem hlt⟩
    obtain ⟨j, mm, c⟩ := e
    have hed := (mem_edL z).1 (List.mem_of_getElem? he)
    obtain ⟨_, mN, nem, c1, _⟩ := z.ed hed
    have c2 := hcost hed
    obtain ⟨pb, po, e1, e2, _⟩ := (hv.sub st).get (i := i) (r := edR (j, mm, c)) (by rw [List.getElem?_map, he]; rfl)
    simp only [e1, e2, optK_mk]
    refine new_step fun b t1 hb h1 u1 => wrAgg_step h1 rfl rfl rfl fun t2 h2 u2 => ?_
    have h2 : t2 b = some (false, .cells 111 [.int .i64 (j : Int), .int .i64 (mm : Int), .int .i64 (c : Int)]) := h2
    have subt : Sub t t2 := sub_upto (u1.sub hb) u2 hb
    have st2 := st.trans subt
    obtain ⟨p1, g1, g2⟩ := (hdv.sub st2).get (i := n) (by rw [dl_len]; exact hn)
    obtain ⟨p2, g3, g4⟩ := (hdv.sub st2).get (i := mm) (by rw [dl_len]; exact mN)
    rw [dl_get hn] at g2
    rw [dl_get mN] at g4
    have y1 : [AVal.int .i64 (j : Int), .int .i64 (mm : Int), .int .i64 (c : Int)][1]? = some (.int .i64 (mm : Int)) := rfl
    have y2 : [AVal.int .i64 (j : Int), .int .i64 (mm : Int), .int .i64 (c : Int)][2]? = some (.int .i64 (c : Int)) := rfl
    have dm := hd mm mN
    simp only [g1, g2, addOff_ptr, Nat.zero_add, rd1_mk h2, y1, y2, g3, g4, arith_add, optK_mk, eqV_int, negB_mk, Bool.false_bne]
    rw [wrap64 (by omega) (by omega)]
    have tk : ((edL G U n).take (i + 1)).filter (fun e => decide (d n = d e.2.1 + e.2.2)) = ((edL G U n).take i).filter (fun e => decide (d n = d e.2.1 + e.2.2)) ++ (if d n = d mm + c then [(j, mm, c)] else []) := by
      rw [List.take_add_one, he, List.filter_append]
      congr 1
      by_cases q : d n = d mm + c
      · simp [q]
      · simp [q]
    refine boolK_mk (fun heq => ?_) (fun hne => ?_)
    · have heq : d n = d mm + c := by simpa using heq
      have r3 : rdN t2 3 (.ptr b 0) = some (edR (j, mm, c)) := rdN_all h2 rfl
      simp only [r3, optK_mk]
      refine optK_of (a := edR (j, mm, c)) rfl ⟨rfl, new_step fun b3 t3 hb3 h3 u3 => ?_⟩
      have sub3 := subt.trans (u3.sub hb3)
      have lit : SlR 3 t3 (.slc b3 0 1 (some 1) 3) ([(j, mm, c)].map edR) := SlR.mk (by intro r hr; simp only [List.map_cons, List.map_nil, List.mem_singleton] at hr; subst hr; rfl) (by simpa using h3) rfl (by simp)
      refine (ac.sub sub3).app lit (by simp) ?_ (st.trans sub3) fun v' t4 a4 s4 => ?_
      · have := List.length_filter_le (fun e : Nat × Nat × Nat => decide (d n = d e.2.1 + e.2.2)) ((edL G U n).take i)
        have := List.length_take_le i (edL G U n)
        simp only [List.length_map, List.length_cons, List.length_nil]
        omega
      · simp only [vc_spf_nearer_j1, arith_add, optK_mk]
        rw [wrap64 (by omega) (by omega)]
        refine ⟨_, by omega, i + 1, v', rfl, by omega, rfl, s4, ?_⟩
        rw [tk, if_pos heq, List.map_append]
        exact a4
    · have hne : ¬ d n = d mm + c := by simpa using hne
      simp only [vc_spf_nearer_j1, arith_add, optK_mk]
      rw [wrap64 (by omega) (by omega)]
      refine ⟨_, by omega, i + 1, lv, rfl, by omega, rfl, st2, ?_⟩
      rw [tk, if_neg hne, List.append_nil]
      exact ac.sub subt
  · have hge : i = (edL G U n).length := by have := of_decide_eq_false hge; omega
    subst hge
    rw [List.take_length] at ac
    exact hK _ _ ac st
theorem parents_in (z : GOk N G U) (hN : N ≤ 32) (hG : G.length ≤ 128) (hC : ∀ x ∈ G, x.2.2 ≤ 1000) (hd : ∀ m, m < N → -1 ≤ d m ∧ d m ≤ 32000) (ha : AdjR s av N (edL G U)) (hdv : Sl s dv (dl N d))
    (hK : ∀ b s', s b = none → s' b = some (false, .cells 3 (dl N (parL G U d))) → Sub s s' → K (.slc b 0 N (some N) 1) s') : wpCall Try.prog XX 72 [av, dv] K s := by
  refine vc_spf_parents_in ?_
  have n0 : nat? (.int .i64 (N : Int)) = some N := nat?_mk
  simp only [vc_spf_parents, ha.len, n0, optK_mk, lenOf_slc]
  refine ⟨⟨Nat.le_refl _, by omega⟩, new_step fun db s1 hdb h1 u1 => ?_⟩
  have sub1 := u1.sub hdb
  refine ⟨fun ys t m => ∃ i : Nat, ys = [.int .i64 i] ∧ i ≤ N ∧ m = N - i ∧ Sub s t ∧ t db = some (false, .cells 3 (dl N fun n => if n < i then parL G U d n else 0)), ⟨_, 0, rfl, by omega, rfl, sub1, ?_⟩, ?_⟩
  · rw [h1, repl_one]
    congr 3
    unfold dl
    refine List.ext_getElem? fun i => ?_
    by_cases hi : i < N
    · simp [hi]
    · simp [hi]
  rintro f t m ⟨i, hy, hi, rfl, st, h2⟩
  simp only [List.cons.injEq, and_true] at hy
  rw [hy]
  simp only [vc_spf_parents_l0, arith_lss, optK_mk]
  refine boolK_mk (fun hlt => ?_) (fun hge => ?_)
  · have hlt : i < N := by have := of_decide_eq_true hlt; omega
    have ad : iaddrS 1 (.slc db 0 N (some N) 1) (.int .i64 (i : Int)) = some (.ptr db i) := by
      have : Nat.blt i N = true := by rw [Nat.blt_eq]; exact hlt
      simp [iaddrS, this]
    simp only [ad, optK_mk]
    refine wr1_step h2 (by rw [dl_len]; exact hlt) rfl fun t3 h3 u3 => ?_
    rw [dl_set hlt] at h3
    have st3 : Sub s t3 := sub_upto st u3 hdb
    obtain ⟨p, v, a1, a2, a3⟩ := (ha.sub st3).at hlt
    simp only [a1, a2, optK_mk]
    have upd1 : ∀ w : Int, w = parL G U d i → dl N (updI (updI (fun n => if n < i then parL G U d n else 0) i (-1)) i w) = dl N (fun n => if n < i + 1 then parL G U d n else 0) := fun w hw => by
      unfold dl
      refine List.map_congr_left fun n hn => ?_
      congr 1
      by_cases e : n = i
      · rw [e, updI_same, hw]; exact (if_pos (by omega)).symm
      · rw [updI_ne e, updI_ne e]
        by_cases c : n < i
        · show (if n < i then parL G U d n else 0) = if n < i + 1 then parL G U d n else 0
          rw [if_pos c, if_pos (by omega)]
        · show (if n < i then parL G U d n else 0) = if n < i + 1 then parL G U d n else 0
          rw [if_neg c, if_neg (by omega)]
    refine Nearer_in z hlt hG hC hd a3 (hdv.sub st3) fun v' t4 ac s4 => ?_
    have h4 := s4 _ _ h3
    have st4 := st3.trans s4
    simp only [ac.sl.len, List.length_map, arith_gtr, optK_mk]
    refine boolK_mk (fun hg => ?_) (fun hg => ?_)
    · have hg : 0 < (nearL G U d i).length := by have := of_decide_eq_true hg; omega
      obtain ⟨e, he⟩ : ∃ e, (nearL G U d i)[0]? = some e := ⟨_, List.getElem?_eq_getElem hg⟩
      obtain ⟨pb, po, e1, _, e3⟩ := ac.sl.get (i := 0) (r := edR e) (by rw [List.getElem?_map, he]; rfl)
      have e1 : iaddrS 3 v' (.int .i64 0) = some (.ptr pb po) := e1
      have e4 : rd1 t4 (.ptr pb po) = some (.int .i64 (e.1 : Int)) := e3 0 (by omega)
      simp only [e1, addOff_ptr, Nat.add_zero, e4, ad, optK_mk]
      refine wr1_step h4 (by rw [dl_len]; exact hlt) rfl fun t5 h5 u5 => ?_
      rw [dl_set hlt] at h5
      simp only [vc_spf_parents_j1, arith_add, optK_mk]
      rw [wrap64 (by omega) (by omega)]
      refine ⟨_, by omega, i + 1, rfl, by omega, rfl, sub_upto st4 u5 hdb, ?_⟩
      rw [h5]
      have := upd1 (e.1 : Int) (by
        unfold parL
        cases q : nearL G U d i with
        | nil => rw [q] at he; cases he
        | cons x r => rw [q] at he; cases he; rfl)
      rw [this]
    · have hg : nearL G U d i = [] := List.eq_nil_of_length_eq_zero (by have := of_decide_eq_false hg; omega)
      simp only [vc_spf_parents_j1, arith_add, optK_mk]
      rw [wrap64 (by omega) (by omega)]
      refine ⟨_, by omega, i + 1, rfl, by omega, rfl, st4, ?_⟩
      rw [h4]
      have := upd1 (-1) (by unfold parL; rw [hg])
      congr 3
      rw [← this]
      unfold dl
      refine List.map_congr_left fun n hn => ?_
      congr 1
      by_cases e : n = i
      · rw [e, updI_same, updI_same]
      · rw [updI_ne e, updI_ne e, updI_ne e]
  · have hge : i = N := by have := of_decide_eq_false hge; omega
    subst hge
    refine hK db t hdb ?_ st
    rw [h2]
    congr 3
    unfold dl
    refine List.map_congr_left fun n hn => ?_
    congr 1
    exact if_pos (List.mem_range.1 hn)
/-! ### from the lists that are given to those of the plain law -/
def toL (x : RLk) : Lnk := (x.1.toNat, x.2.1.toNat, x.2.2.toNat)
theorem vld.gok {n : Nat} {L : List RLk} (h : vld (n : Int) L U) : GOk n (L.map toL) U ∧ (L.map toL).length ≤ 128 ∧ n ≤ 32 ∧ (∀ x ∈ L.map toL, x.2.2 ≤ 1000) ∧ L.map rwR = (L.map toL).map lkR := by
  obtain ⟨h1, h2, h3, h4, h5⟩ := h
  refine ⟨⟨by rw [List.length_map]; exact h4, fun x hx => ?_⟩, by rw [List.length_map]; exact h3, by omega, fun x hx => ?_, ?_⟩
  · obtain ⟨⟨a, b, c⟩, hy, rfl⟩ := List.mem_map.1 hx
    have := okD (h5 _ hy)
    show a.toNat < n ∧ b.toNat < n ∧ a.toNat ≠ b.toNat ∧ 1 ≤ c.toNat ∧ c.toNat ≤ 65535
    omega
  · obtain ⟨⟨a, b, c⟩, hy, rfl⟩ := List.mem_map.1 hx
    have := okD (h5 _ hy)
    show c.toNat ≤ 1000
    omega
  · rw [List.map_map]
    refine List.map_congr_left fun x hx => ?_
    obtain ⟨a, b, c⟩ := x
    have := okD (h5 _ hx)
    have e1 : ((a.toNat : Nat) : Int) = a := by omega
    have e2 : ((b.toNat : Nat) : Int) = b := by omega
    have e3 : ((c.toNat : Nat) : Int) = c := by omega
    show [AVal.int .i64 a, .int .i64 b, .int .i64 c] = [.int .i64 ((a.toNat : Nat) : Int), .int .i64 ((b.toNat : Nat) : Int), .int .i64 ((c.toNat : Nat) : Int)]
    rw [e1, e2, e3]
theorem Parents_in {n x : Int} {L : List RLk} (hl : SlR 3 s lv (L.map rwR)) (hlm : L.length ≤ 9223372036854775807) (hu : Sl s uv (U.map AVal.bool))
    (hK : ∀ v s', Sub s s' → (¬ (vld n L U ∧ 0 ≤ x ∧ x < n) → v = .nilslc) → (∀ (N r : Nat), vld (N : Int) L U → n = N → r < N → x = r → ∃ d b, IsDist N (L.map toL) U r d ∧ (∀ m, m < N → -1 ≤ d m ∧ d m ≤ 32000) ∧ v = .slc b 0 N (some N) 1 ∧ s b = none ∧ s' b = some (false, .cells 3 (dl N (parL (L.map toL) U d)))) → K v s') : wpCall Try.prog XX 56 [.int .i64 n, lv, uv, .int .i64 x] K s := by
  refine vc_spf_Parents_in ?_
  refine lit1_step rfl rfl fun eb s1 heb h1 u1 => ?_
  have sub1 := u1.sub heb
  refine valid_in (es := [x]) (hl.sub sub1) hlm (hu.sub sub1) (Sl.mk h1 rfl (by simp)) (by simp) fun s2 r sub2 hr => ?_
  simp only [unary_not, optK_mk]
  have s02 := sub1.trans sub2
  cases r with
  | false =>
    have hr : ¬ (vld n L U ∧ ∀ e ∈ [x], 0 ≤ e ∧ e < n) := fun h => by have := hr.2 h; cases this
    have hr' : ¬ (vld n L U ∧ 0 ≤ x ∧ x < n) := fun h => hr ⟨h.1, fun e he => by rw [List.mem_singleton] at he; rw [he]; exact h.2⟩
    exact hK _ _ s02 (fun _ => rfl) fun N r q1 q2 q3 q4 => by
      subst q2 q4
      exact absurd ⟨q1, by omega, by omega⟩ hr'
  | true =>
    obtain ⟨hv, hx⟩ := hr.1 rfl
    have hx := hx x (by simp)
    obtain ⟨N, rfl⟩ : ∃ N : Nat, n = N := ⟨n.toNat, by have := hv.1; omega⟩
    obtain ⟨r, rfl⟩ : ∃ r : Nat, x = r := ⟨x.toNat, by omega⟩
    obtain ⟨z, hG, hN, hC, hm⟩ := hv.gok
    have hrN : r < N := by omega
    show wpCall Try.prog XX 50 _ _ s2
    refine Edges_in z hN hG (by rw [← hm]; exact hl.sub s02) (hu.sub s02) fun av s3 sub3 ha => ?_
    refine Distances_in z hN hG hC ha hrN fun d b s4 hd hdm sub4 hb h4 => ?_
    have hdd : ∀ m, m < N → -1 ≤ d m ∧ d m ≤ 32000 := fun m hm => ⟨hd.lo m hm, hdm m hm⟩
    refine parents_in z hN hG hC hdd (ha.sub sub4) (Sl.mk h4 dl_len.symm (by simp [dl_len])) fun b5 s5 hb5 h5 sub5 => ?_
    have sub := ((s02.trans sub3).trans sub4).trans sub5
    have hbs : s b5 = none := by
      cases q : s b5 with
      | none => rfl
      | some y => rw [sub4 _ _ (sub3 _ _ (s02 _ _ q))] at hb5; cases hb5
    refine hK _ _ sub (fun h => absurd ⟨hv, by omega, by omega⟩ h) fun N' r' _ e1 _ e2 => ?_
    obtain rfl : N = N' := by omega
    obtain rfl : r = r' := by omega
    exact ⟨d, b5, hd, hdd, rfl, hbs, h5⟩
theorem Dist_in {n x : Int} {L : List RLk} (hl : SlR 3 s lv (L.map rwR)) (hlm : L.length ≤ 9223372036854775807) (hu : Sl s uv (U.map AVal.bool))
    (hK : ∀ v s', Sub s s' → (¬ (vld n L U ∧ 0 ≤ x ∧ x < n) → v = .nilslc) → (∀ (N r : Nat), vld (N : Int) L U → n = N → r < N → x = r → ∃ d b, IsDist N (L.map toL) U r d ∧ (∀ m, m < N → -1 ≤ d m ∧ d m ≤ 32000) ∧ v = .slc b 0 N (some N) 1 ∧ s b = none ∧ s' b = some (false, .cells 3 (dl N d))) → K v s') : wpCall Try.prog XX 33 [.int .i64 n, lv, uv, .int .i64 x] K s := by
  refine vc_spf_Dist_in ?_
  refine lit1_step rfl rfl fun eb s1 heb h1 u1 => ?_
  have sub1 := u1.sub heb
  refine valid_in (es := [x]) (hl.sub sub1) hlm (hu.sub sub1) (Sl.mk h1 rfl (by simp)) (by simp) fun s2 r sub2 hr => ?_
  simp only [unary_not, optK_mk]
  have s02 := sub1.trans sub2
  cases r with
  | false =>
    have hr : ¬ (vld n L U ∧ ∀ e ∈ [x], 0 ≤ e ∧ e < n) := fun h => by have := hr.2 h; cases this
    have hr' : ¬ (vld n L U ∧ 0 ≤ x ∧ x < n) := fun h => hr ⟨h.1, fun e he => by rw [List.mem_singleton] at he; rw [he]; exact h.2⟩
    exact hK _ _ s02 (fun _ => rfl) fun N r q1 q2 q3 q4 => by
      subst q2 q4
      exact absurd ⟨q1, by omega, by omega⟩ hr'
  | true =>
    obtain ⟨hv, hx⟩ := hr.1 rfl
    have hx := hx x (by simp)
    obtain ⟨N, rfl⟩ : ∃ N : Nat, n = N := ⟨n.toNat, by have := hv.1; omega⟩
    obtain ⟨r, rfl⟩ : ∃ r : Nat, x = r := ⟨x.toNat, by omega⟩
    obtain ⟨z, hG, hN, hC, hm⟩ := hv.gok
    have hrN : r < N := by omega
    show wpCall Try.prog XX 50 _ _ s2
    refine Edges_in z hN hG (by rw [← hm]; exact hl.sub s02) (hu.sub s02) fun av s3 sub3 ha => ?_
    refine Distances_in z hN hG hC ha hrN fun d b s4 hd hdm sub4 hb h4 => ?_
    have hdd : ∀ m, m < N → -1 ≤ d m ∧ d m ≤ 32000 := fun m hm => ⟨hd.lo m hm, hdm m hm⟩
    have hbs : s b = none := by
      cases q : s b with
      | none => rfl
      | some y => rw [sub3 _ _ (s02 _ _ q)] at hb; cases hb
    refine hK _ _ ((s02.trans sub3).trans sub4) (fun h => absurd ⟨hv, by omega, by omega⟩ h) fun N' r' _ e1 _ e2 => ?_
    obtain rfl : N = N' := by omega
    obtain rfl : r = r' := by omega
    exact ⟨d, b, hd, hdd, rfl, hbs, h4⟩
end Go.AM
namespace Go.AM
open Go Go.Proofs
variable {K : AVal → Heap → Prop} {s s' s0 : Heap} {U : List Bool} {L : List RLk} {lnv upv v y dv : AVal} {lf sp sf : Int} {N : Nat} {d : Nat → Int}
/-! ### networks as values -/
def netC (lf sp : Int) (lnv upv : AVal) : List AVal := [.int .i64 lf, .int .i64 sp, lnv, upv]
structure NetR (s : Heap) (L : List RLk) (U : List Bool) (lnv upv : AVal) : Prop where
  l : SlR 3 s lnv (L.map rwR)
  u : Sl s upv (U.map AVal.bool)
  len : L.length ≤ 60 ∧ U.length ≤ 60
theorem NetR.sub (h : NetR s L U lnv upv) (k : Sub s s') : NetR s' L U lnv upv := ⟨h.l.sub k, h.u.sub k, h.len⟩
theorem NetR.one (h : NetR s L U lnv upv) : allOne (netC lf sp lnv upv) = true := by
  show ((AVal.int .i64 lf).one && ((AVal.int .i64 sp).one && (lnv.one && (upv.one && true)))) = true
  rw [h.l.one, h.u.one]; rfl
theorem NetR.box (h : NetR s L U lnv upv) (hK : ∀ b s', s b = none → s' b = some (false, .cells 25 (netC lf sp lnv upv)) → Upto b s s' → K (.ptr b 0) s') : boxK 25 (.agg (netC lf sp lnv upv)) K s :=
  ⟨h.one, new_step hK⟩
theorem net0 {b : Nat} {t : Bool} (h : s b = some (t, .cells 25 (netC lf sp lnv upv))) : rd1 s (.ptr b 0) = some (.int .i64 lf) := by rw [rd1_mk h]; rfl
theorem net1 {b : Nat} {t : Bool} (h : s b = some (t, .cells 25 (netC lf sp lnv upv))) : rd1 s (.ptr b 1) = some (.int .i64 sp) := by rw [rd1_mk h]; rfl
theorem net2 {b : Nat} {t : Bool} (h : s b = some (t, .cells 25 (netC lf sp lnv upv))) : rd1 s (.ptr b 2) = some lnv := by rw [rd1_mk h]; rfl
theorem net3 {b : Nat} {t : Bool} (h : s b = some (t, .cells 25 (netC lf sp lnv upv))) : rd1 s (.ptr b 3) = some upv := by rw [rd1_mk h]; rfl
theorem net4 {b : Nat} {t : Bool} (h : s b = some (t, .cells 25 (netC lf sp lnv upv))) : rdN s 4 (.ptr b 0) = some (netC lf sp lnv upv) := rdN_all h rfl
def netOk (lf sp : Int) (L : List RLk) (U : List Bool) (sf : Int) : Prop := 1 ≤ lf ∧ 0 ≤ sp ∧ vld (lf + sp) L U ∧ 0 ≤ sf ∧ sf < lf + sp
/-- what a list of distances from a node is: nothing for a network that is not valid -/
structure DistV (s0 s : Heap) (lf sp : Int) (L : List RLk) (U : List Bool) (sf : Int) (v : AVal) (N : Nat) (d : Nat → Int) : Prop where
  no : ¬ netOk lf sp L U sf → v = .nilslc ∧ N = 0
  yes : netOk lf sp L U sf → lf + sp = N ∧ IsDist N (L.map toL) U sf.toNat d ∧ (∀ m, m < N → -1 ≤ d m ∧ d m ≤ 32000) ∧ ∃ b, v = .slc b 0 N (some N) 1 ∧ s0 b = none ∧ s b = some (false, .cells 3 (dl N d))
theorem DistV.sub {v : AVal} (h : DistV s0 s lf sp L U sf v N d) (k : Sub s s') : DistV s0 s' lf sp L U sf v N d := ⟨h.no, fun q => by
  obtain ⟨a, b, c, x, e, f, g⟩ := h.yes q
  exact ⟨a, b, c, x, e, f, k _ _ g⟩⟩
theorem NetR.frz (h : NetR s L U lnv upv) : NetR (frz s) L U lnv upv := ⟨h.l.frz, h.u.frz, h.len⟩
/-- a call in frozen memory -/
theorem DistV.addf {v : AVal} {s2 : Heap} (h : DistV (AM.frz s) s2 lf sp L U sf v N d) : DistV s (add s s2) lf sp L U sf v N d := ⟨h.no, fun q => by
  obtain ⟨a, b, c, x, e, f, g⟩ := h.yes q
  exact ⟨a, b, c, x, e, frz_none.1 f, by rw [add_none (frz_none.1 f)]; exact g⟩⟩
theorem DistV.weak {v : AVal} {s1 : Heap} (h : DistV s1 s lf sp L U sf v N d) (k : Sub s0 s1) : DistV s0 s lf sp L U sf v N d := ⟨h.no, fun q => by
  obtain ⟨a, b, c, x, e, f, g⟩ := h.yes q
  refine ⟨a, b, c, x, e, ?_, g⟩
  cases r : s0 x with
  | none => rfl
  | some y => rw [k _ _ r] at f; cases f⟩
theorem DistV.sl {v : AVal} (h : DistV s0 s lf sp L U sf v N d) : Sl s v (dl N d) := by
  by_cases q : netOk lf sp L U sf
  · obtain ⟨_, _, _, b, rfl, _, g⟩ := h.yes q
    exact Sl.mk g dl_len.symm (by simp [dl_len])
  · obtain ⟨rfl, rfl⟩ := h.no q
    exact .inl ⟨rfl, rfl⟩
theorem tdist_in (hn : NetR s L U lnv upv) (hK : ∀ v s' N d, Sub s s' → DistV s s' lf sp L U sf v N d → K v s') : wpCall Try.prog XX 38 [.agg (netC lf sp lnv upv), .int .i64 sf] K s := by
  refine vc_tree_distances_in (hn.box fun b s1 hb h1 u1 => ?_)
  have sub1 := u1.sub hb
  have no : ∀ {s'}, Sub s s' → ¬ netOk lf sp L U sf → K .nilslc s' := fun {s'} h q => hK _ _ 0 (fun _ => 0) h ⟨fun _ => ⟨rfl, rfl⟩, fun p => absurd p q⟩
  simp only [addOff_ptr, Nat.zero_add, net0 h1, net1 h1, arith_lss, arith_gtr, optK_mk]
  by_cases c1 : lf < 1
  · rw [decide_eq_true c1]
    simp only [boolK_true, vc_tree_distances_j0, vc_tree_distances_j1, vc_tree_distances_j2, pickV_true, optK_mk]
    exact no sub1 fun h => by have := h.1; omega
  rw [decide_eq_false c1]
  simp only [boolK_false]
  by_cases c2 : 32 < lf
  · rw [decide_eq_true c2]
    simp only [boolK_true, vc_tree_distances_j0, vc_tree_distances_j1, vc_tree_distances_j2, pickV_true, pickV_false, optK_mk]
    exact no sub1 fun h => by have := h.2.2.1.2.1; have := h.2.1; omega
  rw [decide_eq_false c2]
  simp only [vc_tree_distances_j0, pickV_false, boolK_false, optK_mk, addOff_ptr, Nat.zero_add, net1 h1, arith_lss]
  by_cases c3 : sp < 0
  · rw [decide_eq_true c3]
    simp only [boolK_true, vc_tree_distances_j1, vc_tree_distances_j2, pickV_true, pickV_false, optK_mk]
    exact no sub1 fun h => by have := h.2.1; omega
  rw [decide_eq_false c3]
  simp only [vc_tree_distances_j1, pickV_false, boolK_false, optK_mk, addOff_ptr, Nat.zero_add, net1 h1, arith_gtr]
  by_cases c4 : 32 < sp
  · rw [decide_eq_true c4]
    simp only [boolK_true, vc_tree_distances_j2, pickV_true, pickV_false, optK_mk]
    exact no sub1 fun h => by have := h.2.2.1.2.1; have := h.1; omega
  rw [decide_eq_false c4]
  simp only [vc_tree_distances_j2, pickV_false, boolK_false, optK_mk, addOff_ptr, Nat.zero_add, net0 h1, net1 h1, net2 h1, net3 h1, arith_add]
  rw [wrap64 (by omega) (by omega)]
  refine Dist_in (hn.l.sub sub1) (by have := hn.len.1; omega) (hn.u.sub sub1) fun v s2 sub2 h0 hv => ?_
  have eq : netOk lf sp L U sf ↔ vld (lf + sp) L U ∧ 0 ≤ sf ∧ sf < lf + sp := ⟨fun h => ⟨h.2.2.1, h.2.2.2⟩, fun h => ⟨by omega, by omega, h.1, h.2⟩⟩
  by_cases q : netOk lf sp L U sf
  · have q' := eq.1 q
    obtain ⟨d, b2, g1, g2, g3, g4, g5⟩ := hv (lf + sp).toNat sf.toNat (by
      have e : (((lf + sp).toNat : Nat) : Int) = lf + sp := by omega
      rw [e]; exact q'.1) (by omega) (by omega) (by omega)
    have hb2 : s b2 = none := by
      cases r : s b2 with
      | none => rfl
      | some x => rw [sub1 _ _ r] at g4; cases g4
    exact hK v s2 _ d (sub1.trans sub2) ⟨fun h => absurd q h, fun _ => ⟨by omega, g1, g2, b2, g3, hb2, g5⟩⟩
  · refine hK v s2 0 (fun _ => 0) (sub1.trans sub2) ⟨fun _ => ⟨h0 fun h => q (eq.2 h), rfl⟩, fun h => absurd h q⟩
/-! ### roots -/
theorem Acc.app2 {elem : TypeId} {l m : List AVal} (h : Acc elem s0 s v l) (hs : Sub s0 s) (hy : Sl s y m) (hm : m ≠ []) (hl : l.length + m.length ≤ 16777216) (hK : ∀ v' s', Acc elem s0 s' v' (l ++ m) → Sub s0 s' → K v' s') : appK elem 1 v y K s :=
  h.app hy hm hl (fun i hi => by
    cases q : s0 i with
    | none => exact absurd q hi
    | some x => rw [hs i x q]; simp) fun v' s' a k => hK v' s' a fun i e hi => k i e (hs i e hi) fun b hb q => by
      rcases h with ⟨h, _⟩ | ⟨b', h0, h, _⟩
      · rw [h] at hb; cases hb
      · rw [h] at hb; cases hb; rw [q, h0] at hi; cases hi
theorem Acc.sub {elem : TypeId} {l : List AVal} (h : Acc elem s0 s v l) (k : Sub s s') : Acc elem s0 s' v l := h.imp id fun ⟨b, h0, h1, h2⟩ => ⟨b, h0, h1, k _ _ h2⟩
def iz (l : List Nat) : List AVal := l.map fun (n : Nat) => .int .i64 (n : Int)
theorem iz_len {l : List Nat} : (iz l).length = l.length := by unfold iz; simp
theorem iz_get {l : List Nat} {i : Nat} : (iz l)[i]? = l[i]?.map fun (n : Nat) => AVal.int .i64 (n : Int) := by unfold iz; simp
theorem iz_app {l m : List Nat} : iz (l ++ m) = iz l ++ iz m := by unfold iz; simp
/-- the spines of a component -/
def spn (lf : Int) (N : Nat) (d : Nat → Int) : List Nat := (List.range N).filter fun (n : Nat) => decide (lf ≤ (n : Int) ∧ 0 ≤ d n)
def rootP (lf : Int) (N : Nat) (d : Nat → Int) (g : Int) : Option Nat := (spn lf N d)[g.toNat % (spn lf N d).length]?
def rootV : Option Nat → AVal
  | some r => .tup [.int .i64 (r : Int), .bool true]
  | none => .tup [.int .i64 0, .bool false]
theorem spn_len : (spn lf N d).length ≤ N := by
  have := List.length_filter_le (fun n : Nat => decide (lf ≤ (n : Int) ∧ 0 ≤ d n)) (List.range N)
  rw [List.length_range] at this
  exact this
theorem mem_spn {n : Nat} : n ∈ spn lf N d ↔ n < N ∧ lf ≤ (n : Int) ∧ 0 ≤ d n := by
  unfold spn
  rw [List.mem_filter, List.mem_range, decide_eq_true_eq]
theorem choose_in {g : Int} (hn : NetR s L U lnv upv) (hN : N ≤ 32) (hd : Sl s dv (dl N d)) (hg : 0 ≤ g ∧ g < 4294967296) (hK : ∀ s', Sub s s' → K (rootV (rootP lf N d g)) s') : wpCall Try.prog XX 37 [.agg (netC lf sp lnv upv), dv, .int .u32 g] K s := by
  refine vc_tree_choose_in (hn.box fun b s1 hb h1 u1 => ?_)
  have sub1 := u1.sub hb
  simp only [hd.len, dl_len, optK_mk]
  refine ⟨fun ys t m => ∃ (i : Nat) (lv : AVal), ys = [lv, .int .i64 i] ∧ i ≤ N ∧ m = N - i ∧ Sub s1 t ∧ Acc 3 s1 t lv (iz ((List.range i).filter fun (n : Nat) => decide (lf ≤ (n : Int) ∧ 0 ≤ d n))), ⟨_, 0, _, rfl, by omega, rfl, .refl s1, .inl ⟨rfl, rfl⟩⟩, ?_⟩
  rintro f t m ⟨i, lv, hy, hi, rfl, st, ac⟩
  simp only [List.cons.injEq, and_true] at hy
  rw [hy.1, hy.2]
  simp only [vc_tree_choose_l0, arith_lss, optK_mk]
  refine boolK_mk (fun hlt => ?_) (fun hge => ?_)
  · have hlt : i < N := by have := of_decide_eq_true hlt; omega
    obtain ⟨p, g1, g2⟩ := (hd.sub (sub1.trans st)).get (i := i) (by rw [dl_len]; exact hlt)
    rw [dl_get hlt] at g2
    have h2 := st _ _ h1
    have nx : ∀ lv' t', Sub s1 t' → Acc 3 s1 t' lv' (iz ((List.range (i + 1)).filter fun (n : Nat) => decide (lf ≤ (n : Int) ∧ 0 ≤ d n))) → vc_tree_choose_j2 XX lv' (.int .i64 (i : Int)) (fun ys t m => ∃ (i : Nat) (lv : AVal), ys = [lv, .int .i64 i] ∧ i ≤ N ∧ m = N - i ∧ Sub s1 t ∧ Acc 3 s1 t lv (iz ((List.range i).filter fun (n : Nat) => decide (lf ≤ (n : Int) ∧ 0 ≤ d n)))) (N - i) K t' := fun lv' t' q1 q2 => by
      simp only [vc_tree_choose_j2, arith_add, optK_mk]
      rw [wrap64 (by omega) (by omega)]
      exact ⟨_, by omega, i + 1, lv', rfl, by omega, rfl, q1, q2⟩
    have fl : (List.range (i + 1)).filter (fun (n : Nat) => decide (lf ≤ (n : Int) ∧ 0 ≤ d n)) = (List.range i).filter (fun (n : Nat) => decide (lf ≤ (n : Int) ∧ 0 ≤ d n)) ++ (if lf ≤ (i : Int) ∧ 0 ≤ d i then [i] else []) := by
      rw [List.range_succ, List.filter_append]
      congr 1
      by_cases q : lf ≤ (i : Int) ∧ 0 ≤ d i
      · simp [q]
      · rw [if_neg q]; simp only [List.filter_cons, decide_eq_false q]; rfl
    simp only [g1, g2, addOff_ptr, Nat.zero_add, net0 h2, arith_geq, optK_mk]
    by_cases c1 : lf ≤ (i : Int)
    · rw [decide_eq_true c1]
      simp only [boolK_true, vc_tree_choose_j1, pickV_true, optK_mk]
      refine boolK_mk (fun c2 => ?_) (fun c2 => ?_)
      · have c2 := of_decide_eq_true c2
        refine lit1_step rfl rfl fun b3 t3 hb3 h3 u3 => ?_
        have sub3 := u3.sub hb3
        refine (ac.sub sub3).app2 (st.trans sub3) (Sl.mk h3 rfl (by simp)) (by simp) ?_ fun v' t4 a4 s4 => ?_
        · have := List.length_filter_le (fun n : Nat => decide (lf ≤ (n : Int) ∧ 0 ≤ d n)) (List.range i)
          rw [List.length_range] at this
          rw [iz_len]; simp only [List.length_singleton]; omega
        · refine nx v' t4 s4 ?_
          rw [fl, if_pos ⟨c1, c2⟩, iz_app]; exact a4
      · have c2 := of_decide_eq_false c2
        refine nx lv t st ?_
        rw [fl, if_neg (fun q => c2 q.2), List.append_nil]; exact ac
    · rw [decide_eq_false c1]
      simp only [boolK_false, vc_tree_choose_j1, pickV_false, optK_mk]
      refine nx lv t st ?_
      rw [fl, if_neg (fun q => c1 q.1), List.append_nil]; exact ac
  · have hge : i = N := by have := of_decide_eq_false hge; omega
    subst hge
    have ac : Acc 3 s1 t lv (iz (spn lf i d)) := ac
    have hlen := spn_len (lf := lf) (N := i) (d := d)
    simp only [ac.sl.len, iz_len, eqV_int, negB_mk, Bool.false_bne, optK_mk]
    cases c : (((spn lf i d).length : Int) == 0) with
    | true =>
      have c : spn lf i d = [] := List.eq_nil_of_length_eq_zero (by have := eq_of_beq c; omega)
      simp only [boolK_true]
      have e : rootP lf i d g = none := by unfold rootP; rw [c]; rfl
      have := hK t (sub1.trans st)
      rw [e] at this
      exact this
    | false =>
      have c : 0 < (spn lf i d).length := by
        have : ¬ ((spn lf i d).length : Int) = 0 := by simpa using c
        omega
      have w1 : convI .u64 (.int .u32 g) = some (.int .u64 g) := by
        show some (AVal.int .u64 (wrapK .u64 g)) = _
        rw [show wrapK .u64 g = g by simp only [wrapK]; rw [wrapM_eq _ _ _ (by omega) (by omega)]; split <;> omega]
      have w2 : convI .u64 (.int .i64 ((spn lf i d).length : Int)) = some (.int .u64 ((spn lf i d).length : Int)) := by
        show some (AVal.int .u64 (wrapK .u64 ((spn lf i d).length : Int))) = _
        rw [show wrapK .u64 ((spn lf i d).length : Int) = ((spn lf i d).length : Int) by simp only [wrapK]; rw [wrapM_eq _ _ _ (by omega) (by omega)]; split <;> omega]
      have w3 : arithV .rem (.int .u64 g) (.int .u64 ((spn lf i d).length : Int)) = some (.int .u64 ((g.toNat % (spn lf i d).length : Nat) : Int)) := by
        rw [arith_rem (by omega)]
        congr 2
        obtain ⟨k, rfl⟩ : ∃ k : Nat, g = k := ⟨g.toNat, by omega⟩
        rfl
      have hm : g.toNat % (spn lf i d).length < (spn lf i d).length := Nat.mod_lt _ c
      obtain ⟨p, g1, g2⟩ := ac.sl.get (i := g.toNat % (spn lf i d).length) (by rw [iz_len]; exact hm)
      have g1' : iaddrS 1 lv (.int .u64 ((g.toNat % (spn lf i d).length : Nat) : Int)) = some p := g1
      rw [iz_get] at g2
      have e : rootP lf i d g = some ((spn lf i d)[g.toNat % (spn lf i d).length]) := by unfold rootP; rw [List.getElem?_eq_getElem hm]
      rw [List.getElem?_eq_getElem hm] at g2
      simp only [boolK_false, w1, w2, w3, g1', g2, Option.map_some, optK_mk]
      have := hK t (sub1.trans st)
      rw [e] at this
      exact this
theorem Root_in {g : Int} (hn : NetR s L U lnv upv) (hg : 0 ≤ g ∧ g < 4294967296) (hK : ∀ v s' s2 N d, Sub s s' → DistV s s2 lf sp L U sf v N d → K (rootV (rootP lf N d g)) s') : wpCall Try.prog XX 14 [.agg (netC lf sp lnv upv), .int .i64 sf, .int .u32 g] K s := by
  refine vc_tree_Root_in (hn.box fun b s1 hb h1 u1 => ?_)
  have sub1 := u1.sub hb
  simp only [net4 h1, optK_mk]
  refine tdist_in (hn.sub sub1).frz fun v s2 N d sub2 dv _ => ?_
  have dv := dv.addf
  have sub12 : Sub s (add s1 s2) := sub1.trans sub_add
  have hN : N ≤ 32 := by
    by_cases q : netOk lf sp L U sf
    · have := (dv.yes q).1; have := q.2.2.1.2.1; omega
    · have := (dv.no q).2; omega
  refine choose_in (hn.sub sub12) hN dv.sl hg fun s3 sub3 => ?_
  have e1 : extractA (rootV (rootP lf N d g)) 0 = some (match rootP lf N d g with | some r => .int .i64 (r : Int) | none => .int .i64 0) := by
    cases rootP lf N d g <;> rfl
  have e2 : extractA (rootV (rootP lf N d g)) 1 = some (match rootP lf N d g with | some _ => .bool true | none => .bool false) := by
    cases rootP lf N d g <;> rfl
  simp only [e1, e2, optK_mk]
  have := hK v s3 _ N d (sub12.trans sub3) (dv.weak sub1)
  cases hr : rootP lf N d g with
  | none => rw [hr] at this; exact this
  | some r => rw [hr] at this; exact this
end Go.AM
namespace Go.AM
open Go Go.Proofs
variable {K : AVal → Heap → Prop} {s s' s0 : Heap} {v mv : AVal} {es : List Int}
/-! ### a copy, sorted, without repetitions -/
def Own3 (s0 s : Heap) (v : AVal) (es : List Int) : Prop := (v = .nilslc ∧ es = []) ∨ ∃ b cap, s0 b = none ∧ v = .slc b 0 es.length cap 1 ∧ s b = some (false, .cells 3 (izs es)) ∧ ∀ c, cap = some c → es = []
theorem Own3.len (h : Own3 s0 s v es) : lenOfA v = some es.length := by
  rcases h with ⟨rfl, rfl⟩ | ⟨b, cap, _, rfl, _⟩ <;> rfl
theorem Own3.sl (h : Own3 s0 s v es) : Sl s v (izs es) := by
  rcases h with ⟨rfl, rfl⟩ | ⟨b, cap, _, rfl, h1, h2⟩
  · exact .inl ⟨rfl, rfl⟩
  · exact Sl.mk h1 (by simp) fun c hc => by rw [h2 c hc]; simp
theorem Clone_in (h : Sl s mv (izs es)) (hl : es.length ≤ 1000) (hK : ∀ v s', Own3 s s' v es → Sub s s' → K v s') : wpCall Try.prog XX 74 [mv] K s := by
  refine vc_slices_Clone___int_int__in ?_
  unfold vc_slices_Clone___int_int_
  have go : (es = [] → mv ≠ .nilslc) → negB false (eqV 5 true mv .nilslc) = some (.bool false) → (optK (negB false (eqV 5 true mv .nilslc)) fun v_0 =>
  boolK v_0
   (K .nilslc s)
   (optK (fillR (repl 0 [(.int .i64 0)]) []) fun c_1 => allOne c_1 = true ∧ newK 3 c_1 (fun b_2 s_3 =>
    appK 3 1 (.slc b_2 0 0 (some 0) 1) mv (fun v_4 s_5 =>
    K v_4 s_5) s_3) s)) := fun _ h2 => by
    simp only [h2, optK_mk, boolK_false]
    refine optK_of (a := []) rfl ⟨rfl, new_step fun b s1 hb h1 u1 => ?_⟩
    have sub1 := u1.sub hb
    refine app_copy (h.sub sub1) (by rw [List.length_map]; omega) fun v' s2 sub2 g1 g2 => hK v' s2 ?_ (sub1.trans sub2)
    cases es with
    | nil => exact .inr ⟨b, some 0, hb, g1 rfl, sub2 _ _ h1, fun _ _ => rfl⟩
    | cons x r =>
      obtain ⟨c, hc, rfl, h4⟩ := g2 (by simp)
      refine .inr ⟨c, none, ?_, by simp, h4, fun c h => by cases h⟩
      cases q : s c with
      | none => rfl
      | some y => rw [sub1 _ _ q] at hc; cases hc
  rcases h with ⟨rfl, he⟩ | ⟨b, o, cap, rfl, _⟩
  · have : es = [] := by simpa using he
    subst this
    simp only [eqV_nilslc, negB_mk, Bool.false_bne, optK_mk, boolK_true]
    exact hK _ _ (.inl ⟨rfl, rfl⟩) (.refl s)
  · exact go (fun _ => by simp) (by simp)
theorem Sort_in (h : Own3 s0 s v es) (hs : Sub s0 s) (hl : es.length ≤ 1000) (hK : ∀ s', Own3 s0 s' v (sortI es) → Sub s0 s' → K (.tup []) s') : wpCall Try.prog XX 54 [v] K s := by
  have hX : XX 54 = some sortG := toldB_sort
  have hp := (sortI_perm es).length_eq
  rcases h with ⟨rfl, rfl⟩ | ⟨b, cap, hb0, rfl, hb, hc⟩
  · exact wp_told hX (wpF.ret (hK s (.inl ⟨rfl, rfl⟩) hs))
  · refine wp_sortX hX hb (by omega) fun s' h' u => hK s' (.inr ⟨b, cap, hb0, by rw [hp], h', fun c q => by rw [hc c q]; rfl⟩) fun i e hi => ?_
    rw [u i (ne_of_some hb0 hi)]; exact hs i e hi
theorem Compact_in (h : Own3 s0 s v es) (hs : Sub s0 s) (hl : es.length ≤ 1000) (hK : ∀ v' s' es', Sl s' v' (izs es') → es'.length ≤ es.length → (∀ x, x ∈ es' ↔ x ∈ es) → Sub s0 s' → (∀ b o n c, v' = .slc b o n c 1 → es' ≠ [] → s0 b = none) → K v' s') : wpCall Try.prog XX 75 [v] K s := by
  refine vc_slices_Compact___int_int__in ?_
  have h0 : ∀ b o n c, v = .slc b o n c 1 → es ≠ [] → s0 b = none := by
    rintro b o n c rfl hne
    rcases h with ⟨h, _⟩ | ⟨b', cap, hb0, h, _⟩
    · cases h
    · cases h; exact hb0
  simp only [vc_slices_Compact___int_int_, h.len, arith_lss, optK_mk]
  refine boolK_mk (fun _ => hK v s es h.sl (Nat.le_refl _) (fun _ => .rfl) hs h0) (fun hn => ?_)
  have hn : 2 ≤ es.length := by have := of_decide_eq_false hn; omega
  obtain ⟨b, hb0, hv, hb⟩ : ∃ b, s0 b = none ∧ v = .slc b 0 es.length none 1 ∧ s b = some (false, .cells 3 (izs es)) := by
    rcases h with ⟨_, rfl⟩ | ⟨b, cap, q1, q2, q3, q4⟩
    · simp at hn
    · cases cap with
      | none => exact ⟨b, q1, q2, q3⟩
      | some c => rw [q4 c rfl] at hn; simp at hn
  subst hv
  have ad : ∀ {i : Nat}, i < es.length → iaddrS 1 (.slc b 0 es.length none 1) (.int .i64 (i : Int)) = some (.ptr b i) := fun {i} hi => by
    have : Nat.blt i es.length = true := by rw [Nat.blt_eq]; exact hi
    simp [iaddrS, this]
  have gt : ∀ {l : List Int} {i : Nat} (hi : i < l.length), (izs l)[i]? = some (.int .i64 l[i]) := fun {l i} hi => by simp [hi]
  refine ⟨fun ys t m => ∃ k : Nat, ys = [.int .i64 k] ∧ 1 ≤ k ∧ k ≤ es.length ∧ m = es.length - k ∧ s = t, ⟨_, 1, rfl, by omega, by omega, rfl, rfl⟩, ?_⟩
  rintro f t m ⟨k0, hy, hk1, hk2, rfl, rfl⟩
  simp only [List.cons.injEq, and_true] at hy
  rw [hy]
  simp only [vc_slices_Compact___int_int__l0, lenOf_slc, arith_lss, optK_mk]
  refine boolK_mk (fun hlt => ?_) (fun _ => hK _ _ es h.sl (Nat.le_refl _) (fun _ => .rfl) hs h0)
  have hlt : k0 < es.length := by have := of_decide_eq_true hlt; omega
  have w1 : IntKind.i64.wrap ((k0 : Int) - 1) = ((k0 - 1 : Nat) : Int) := by rw [wrap64 (by omega) (by omega)]; omega
  simp only [ad hlt, rd1_mk hb, gt hlt, arith_sub, w1, ad (show k0 - 1 < es.length by omega), gt (show k0 - 1 < es.length by omega), eqV_int, negB_mk, Bool.false_bne, optK_mk]
  refine boolK_mk (fun heq => ?_) (fun hne => ?_)
  rotate_left
  · simp only [arith_add, optK_mk]
    rw [wrap64 (by omega) (by omega)]
    exact ⟨_, by omega, k0 + 1, rfl, by omega, by omega, rfl, by trivial⟩
  have heq : es[k0] = es[k0 - 1] := eq_of_beq heq
  have sl : ∀ {k : Nat}, k ≤ es.length → sliceS 1 (.slc b 0 es.length none 1) (some (.int .i64 (k : Int))) none none = some (.slc b k (es.length - k) none 1) := fun {k} hk => by
    simp [sliceS, bound, Nat.ble_eq_true_of_le hk]
  have sh : ∀ {k : Nat}, k ≤ es.length → sliceS 1 (.slc b 0 es.length none 1) none (some (.int .i64 (k : Int))) none = some (.slc b 0 k none 1) := fun {k} hk => by
    simp [sliceS, bound, Nat.ble_eq_true_of_le hk]
  have tk : ∀ {l : List Int} {q : Nat} (hq : q < l.length) (x : Int), x ∈ l.take (q + 1) ↔ x ∈ l.take q ∨ x = l[q] := fun {l q} hq x => by
    rw [List.take_add_one, List.getElem?_eq_getElem hq, List.mem_append]
    simp only [Option.toList, List.mem_singleton]
  simp only [sl hk2, optK_mk]
  refine ⟨fun ys t m => ∃ (k k2 : Nat) (cur : List Int), ys = [.int .i64 k, .int .i64 k2] ∧ t b = some (false, .cells 3 (izs cur)) ∧ Sub s0 t ∧ cur.length = es.length ∧ 1 ≤ k2 ∧ k0 + k2 ≤ es.length ∧ m = es.length - k0 - k2 ∧ k < k0 + k2 ∧ (∀ j, k0 + k2 - 1 ≤ j → cur[j]? = es[j]?) ∧ ∀ x, x ∈ cur.take k ↔ x ∈ es.take (k0 + k2), ⟨_, k0, 1, es, rfl, hb, hs, rfl, by omega, by omega, rfl, by omega, fun _ _ => rfl, fun x => ?_⟩, ?_⟩
  · rw [tk hlt, heq]
    refine ⟨.inl, fun q => q.elim id fun q => ?_⟩
    rw [q]
    have : k0 - 1 < (es.take k0).length := by rw [List.length_take]; omega
    have e : (es.take k0)[k0 - 1] = es[k0 - 1] := List.getElem_take
    rw [← e]; exact List.getElem_mem this
  rintro f t m ⟨k, k2, cur, hy, ht, st, hlen, c1, c2, rfl, c3, c4, c5⟩
  simp only [List.cons.injEq, and_true] at hy
  rw [hy.1, hy.2]
  simp only [vc_slices_Compact___int_int__l1, lenOf_slc, arith_lss, optK_mk]
  refine boolK_mk (fun hlt2 => ?_) (fun hge2 => ?_)
  · have hlt2 : k0 + k2 < es.length := by have := of_decide_eq_true hlt2; omega
    have ad2 : ∀ {i : Nat}, k0 + i < es.length → iaddrS 1 (.slc b k0 (es.length - k0) none 1) (.int .i64 (i : Int)) = some (.ptr b (k0 + i)) := fun {i} hi => by
      have : Nat.blt i (es.length - k0) = true := by rw [Nat.blt_eq]; omega
      simp [iaddrS, this]
    have w2 : IntKind.i64.wrap ((k2 : Int) - 1) = ((k2 - 1 : Nat) : Int) := by rw [wrap64 (by omega) (by omega)]; omega
    have g1 : cur[k0 + k2] = es[k0 + k2] := by
      have := c4 (k0 + k2) (by omega)
      rw [List.getElem?_eq_getElem (by omega), List.getElem?_eq_getElem hlt2] at this
      exact Option.some.inj this
    have g2 : cur[k0 + (k2 - 1)]'(by omega) = es[k0 + (k2 - 1)]'(by omega) := by
      have := c4 (k0 + (k2 - 1)) (by omega)
      rw [List.getElem?_eq_getElem (by omega), List.getElem?_eq_getElem (by omega)] at this
      exact Option.some.inj this
    have nx : ∀ (k' : Nat) (cur' : List Int) t', t' b = some (false, .cells 3 (izs cur')) → Sub s0 t' → cur'.length = es.length → k' < k0 + (k2 + 1) → (∀ j, k0 + (k2 + 1) - 1 ≤ j → cur'[j]? = es[j]?) → (∀ x, x ∈ cur'.take k' ↔ x ∈ es.take (k0 + (k2 + 1))) →
        vc_slices_Compact___int_int__j2 XX (.int .i64 (k' : Int)) (.int .i64 (k2 : Int)) (fun ys t m => ∃ (k k2 : Nat) (cur : List Int), ys = [.int .i64 k, .int .i64 k2] ∧ t b = some (false, .cells 3 (izs cur)) ∧ Sub s0 t ∧ cur.length = es.length ∧ 1 ≤ k2 ∧ k0 + k2 ≤ es.length ∧ m = es.length - k0 - k2 ∧ k < k0 + k2 ∧ (∀ j, k0 + k2 - 1 ≤ j → cur[j]? = es[j]?) ∧ ∀ x, x ∈ cur.take k ↔ x ∈ es.take (k0 + k2)) (es.length - k0 - k2) (fun ys t m => ∃ k : Nat, ys = [.int .i64 k] ∧ 1 ≤ k ∧ k ≤ es.length ∧ m = es.length - k ∧ s = t) (es.length - k0) K t' := fun k' cur' t' q1 q2 q3 q4 q5 q6 => by
      simp only [vc_slices_Compact___int_int__j2, arith_add, optK_mk]
      rw [wrap64 (by omega) (by omega)]
      exact ⟨_, by omega, k', k2 + 1, cur', rfl, q1, q2, q3, by omega, by omega, rfl, q4, q5, q6⟩
    have tk2 := fun x => tk (l := es) (q := k0 + k2) hlt2 x
    simp only [ad2 hlt2, rd1_mk ht, gt (show k0 + k2 < cur.length by omega), arith_sub, w2, ad2 (show k0 + (k2 - 1) < es.length by omega), gt (show k0 + (k2 - 1) < cur.length by omega), eqV_int, negB_mk, Bool.true_bne, optK_mk, g1, g2]
    refine boolK_mk (fun hd => ?_) (fun hd => ?_)
    · have hk : k < es.length := by omega
      simp only [ad hk, optK_mk]
      refine wr1_step ht (by rw [List.length_map]; omega) rfl fun t3 h3 u3 => ?_
      have e3 : (izs cur).set k (.int .i64 es[k0 + k2]) = izs (cur.set k es[k0 + k2]) := (List.map_set ..).symm
      rw [e3] at h3
      simp only [arith_add, optK_mk]
      rw [wrap64 (by omega) (by omega)]
      refine nx (k + 1) _ t3 h3 (fun i e hi => by rw [u3 i (ne_of_some hb0 hi)]; exact st i e hi) (by simpa using hlen) (by omega) (fun j hj => ?_) fun x => ?_
      · rw [List.getElem?_set_ne (by omega)]
        exact c4 j (by omega)
      · have e4 := tk (l := cur.set k es[k0 + k2]) (q := k) (by rw [List.length_set]; omega) x
        rw [e4, show k0 + (k2 + 1) = k0 + k2 + 1 by omega, tk2, List.getElem_set_self, List.take_set_of_le (by omega), c5]
    · have hd : es[k0 + k2] = es[k0 + (k2 - 1)] := by simpa using hd
      refine nx k cur t ht st hlen (by omega) (fun j hj => c4 j (by omega)) fun x => ?_
      rw [c5, show k0 + (k2 + 1) = k0 + k2 + 1 by omega, tk2]
      refine ⟨.inl, fun q => q.elim id fun q => ?_⟩
      rw [q, hd]
      have : k0 + (k2 - 1) < (es.take (k0 + k2)).length := by rw [List.length_take]; omega
      have e : (es.take (k0 + k2))[k0 + (k2 - 1)] = es[k0 + (k2 - 1)] := List.getElem_take
      rw [← e]; exact List.getElem_mem this
  · have hge2 : k0 + k2 = es.length := by have := of_decide_eq_false hge2; omega
    rw [hge2] at c3 c5
    rw [List.take_length] at c5
    simp only [sl (show k ≤ es.length by omega), optK_mk]
    unfold clearK
    refine ⟨rfl, ?_⟩
    obtain ⟨m, hm⟩ : ∃ m, es.length - k = m + 1 := ⟨es.length - k - 1, by omega⟩
    rw [hm]
    simp only
    have e1 : wrN t (.ptr b k) (repl (m + 1) [.int .i64 0]) = some (hset t b (false, .cells 3 (setRange (izs cur) k (repl (m + 1) [.int .i64 0])))) := by
      have e2 : Nat.ble (k + (repl (m + 1) [AVal.int .i64 0]).length) (izs cur).length = true := by
        rw [repl_one, List.length_replicate, List.length_map, Nat.ble_eq]; omega
      have e3 : allOne (repl (m + 1) [AVal.int .i64 0]) = true := by
        rw [repl_one]
        have : ∀ n, allOne (List.replicate n (AVal.int .i64 0)) = true := fun n => by
          induction n with
          | zero => rfl
          | succ n ih => rw [List.replicate_succ, allOne_cons, ih]; rfl
        exact this _
      simp only [wrN, ht, e2, e3, Bool.and_self, cond_true]
    simp only [e1, optK_mk, sh (show k ≤ es.length by omega)]
    refine hK _ _ (cur.take k) (.inr ⟨b, 0, none, by rw [List.length_map, List.length_take, Nat.min_eq_left (by omega)], (fun c h => by cases h), fun _ => ⟨false, 3, _, hset_eq, ?_, fun i hi => ?_⟩⟩) ?_ c5 (fun i e hi => ?_) fun b' o n c q _ => by cases q; exact hb0
    · unfold setRange
      rw [List.length_map, List.length_take, List.length_append, List.length_append, List.length_take, List.length_map]
      omega
    · rw [List.length_map, List.length_take] at hi
      unfold setRange
      rw [Nat.zero_add, List.append_assoc, List.getElem?_append_left (by rw [List.length_take, List.length_map]; omega)]
      exact congrArg (fun l : List AVal => l[i]?) (List.map_take ..).symm
    · rw [List.length_take]; omega
    · rw [hset_other (ne_of_some hb0 hi)]; exact st i e hi
end Go.AM
namespace Go.AM
open Go Go.Proofs
variable {K : AVal → Heap → Prop} {s s' s0 : Heap} {U : List Bool} {L : List RLk} {lnv upv v dv mv : AVal} {lf sp : Int} {N r : Nat} {G : List Lnk} {d : Nat → Int}
/-! ### grow: links are put into the tree -/
def kv (keys : List Nat) : List (Int × AVal) := keys.map fun (k : Nat) => ((k : Int), AVal.agg [])
theorem kv_keys {keys : List Nat} : (kv keys).map (·.1) = keys.map fun (k : Nat) => (k : Int) := by unfold kv; rw [List.map_map]; rfl
theorem kv_len {keys : List Nat} : (kv keys).length = keys.length := by unfold kv; simp
theorem kv_look {keys : List Nat} {i : Nat} : look (kv keys) (i : Int) = if i ∈ keys then some (.agg []) else none := by
  induction keys with
  | nil => rfl
  | cons k l ih =>
    have : kv (k :: l) = ((k : Int), AVal.agg []) :: kv l := rfl
    rw [this, look_cons, ih]
    simp only [List.mem_cons]
    by_cases e : k = i
    · subst e; simp
    · rw [if_neg (show ¬ (k : Int) = (i : Int) by omega)]
      by_cases q : i ∈ l
      · rw [if_pos q, if_pos (.inr q)]
      · rw [if_neg q, if_neg (by rintro (h | h); exact e h.symm; exact q h)]
theorem kv_stor {keys : List Nat} {i : Nat} (h : i ∉ keys) : stor (kv keys) (i : Int) (.agg []) = kv (keys ++ [i]) := by
  unfold stor
  rw [kv_look, if_neg h]
  unfold kv; simp
theorem MapAt.sub {b : Nat} {l : List (Int × AVal)} (h : MapAt s b l) (k : Sub s s') : MapAt s' b l := by
  obtain ⟨es, c, h1, h2⟩ := h
  exact ⟨es, c, k _ _ h1, h2⟩
theorem MapAt.ne {b i : Nat} {l : List (Int × AVal)} (h : MapAt s b l) {t : Bool} {e : TypeId} {cs : List AVal} (hi : s i = some (t, .cells e cs)) : i ≠ b := by
  rintro rfl
  obtain ⟨es, c, h1, _⟩ := h
  rw [h1] at hi; cases hi
/-- the memory of 'grow' but for the map -/
structure GrC (s : Heap) (bp bt ba bx mb : Nat) (N : Nat) (p : Nat → Int) (G : List Lnk) (lf sp : Int) (lnv upv : AVal) : Prop where
  par : ∃ pb, s bp = some (false, .cells 28 [.slc pb 0 N (some N) 1]) ∧ s pb = some (false, .cells 3 (dl N p))
  tr : s bt = some (false, .cells 83 [.map mb])
  ad : s ba = some (false, .cells 96 [.fn (.func 57) [] [.ptr bp 0, .ptr bt 0, .ptr ba 0, .ptr bx 0]])
  nx : s bx = some (false, .cells 25 (netC lf sp lnv upv))
  ln : SlR 3 s lnv (G.map lkR)
theorem GrC.keep {bp bt ba bx mb : Nat} {p : Nat → Int} (h : GrC s bp bt ba bx mb N p G lf sp lnv upv) {fp : Nat → Prop} (k : KeepBut fp s s') (hfp : ∀ i t e cs, s i = some (t, .cells e cs) → ¬ fp i) : GrC s' bp bt ba bx mb N p G lf sp lnv upv := by
  obtain ⟨⟨pb, h1, h2⟩, h3, h4, h5, h6⟩ := h
  refine ⟨⟨pb, k _ _ h1 (hfp _ _ _ _ h1), k _ _ h2 (hfp _ _ _ _ h2)⟩, k _ _ h3 (hfp _ _ _ _ h3), k _ _ h4 (hfp _ _ _ _ h4), k _ _ h5 (hfp _ _ _ _ h5), h6.1, ?_⟩
  rcases h6.2 with q | ⟨b, o, cap, q1, q2, q3⟩
  · exact .inl q
  · refine .inr ⟨b, o, cap, q1, q2, fun hne => ?_⟩
    obtain ⟨t, e, cs, w1, w2⟩ := q3 hne
    exact ⟨t, e, cs, k _ _ w1 (hfp _ _ _ _ w1), w2⟩
theorem add_in {bp bt ba bx mb : Nat} (z : GOk N G U) (hN : N ≤ 32) (hG : G.length ≤ 128) (h : IsDist N G U r d) : ∀ (k n : Nat) (keys : List Nat) (t : Heap) (K : AVal → Heap → Prop), n < N → (d n).toNat = k → GrC t bp bt ba bx mb N (parL G U d) G lf sp lnv upv → MapAt t mb (kv keys) →
    (∀ n' i, d n' ≤ d n → parL G U d n' = ((i : Nat) : Int) → i ∈ keys → ∀ j, OnP G (parL G U d) n' j → j ∈ keys) →
    (∀ t' keys', MapAt t' mb (kv keys') → KeepBut (fun b => b = mb) t t' → (∀ j, j ∈ keys' ↔ j ∈ keys ∨ OnP G (parL G U d) n j) → K (.tup []) t') →
    wpCall Try.prog XX 57 [.int .i64 (n : Int), .ptr bp 0, .ptr bt 0, .ptr ba 0, .ptr bx 0] K t := by
  intro k
  induction k using Nat.strongRecOn with
  | _ k ih =>
  intro n keys t K hn hk g hm hcl hK
  refine vc_tree_grow_1_in ?_
  obtain ⟨⟨pb, h1, h2⟩, h3, h4, h5, h6⟩ := g
  have ad : iaddrS 1 (.slc pb 0 N (some N) 1) (.int .i64 (n : Int)) = some (.ptr pb n) := by
    have : Nat.blt n N = true := by rw [Nat.blt_eq]; exact hn
    simp [iaddrS, this]
  simp only [vc_tree_grow_1, rd1_mk h1, List.getElem?_cons_zero, ad, rd1_mk h2, dl_get hn, arith_lss, optK_mk]
  rcases parL_cases G U d n with ⟨e, _⟩ | ⟨i, _, _, e, _, _⟩
  · rw [e, decide_eq_true (show (-1 : Int) < 0 by omega)]
    simp only [boolK_true]
    refine hK t keys hm (.refl _ t) fun j => ⟨.inl, fun q => q.elim id fun q => ?_⟩
    obtain ⟨i, hi⟩ := q.no
    rw [e] at hi; omega
  rw [e, decide_eq_false (show ¬ (i : Int) < 0 by omega)]
  obtain ⟨m, c, he, hfar, _, mN, m0, hd, c1⟩ := par_some z h e
  simp only [boolK_false, rd1_mk h3, List.getElem?_cons_zero, optK_mk, hm.get, kv_look]
  have r1 : ∀ o : Option AVal, (o = none ∨ o = some (.agg [])) → extractA (retM (.agg []) true o) 0 = some (.agg []) := by rintro o (rfl | rfl) <;> rfl
  by_cases hin : i ∈ keys
  · rw [if_pos hin]
    simp only [r1 _ (.inr rfl), show extractA (retM (.agg []) true (some (.agg []))) 1 = some (.bool true) from rfl, optK_mk]
    refine new_step fun b t1 hb h7 u7 => wrAgg_step h7 rfl rfl rfl fun t2 h8 u8 => ?_
    have sub2 : Sub t t2 := sub_upto (u7.sub hb) u8 hb
    simp only [boolK_true]
    refine hK t2 keys (hm.sub sub2) sub2.keep fun j => ⟨.inl, fun q => q.elim id fun q => hcl n i (Int.le_refl _) e hin j q⟩
  · rw [if_neg hin]
    simp only [r1 _ (.inl rfl), show extractA (retM (.agg []) true none) 1 = some (.bool false) from rfl, optK_mk]
    refine new_step fun b t1 hb h7 u7 => wrAgg_step h7 rfl rfl rfl fun t2 h8 u8 => ?_
    have sub2 : Sub t t2 := sub_upto (u7.sub hb) u8 hb
    have g2 : GrC t2 bp bt ba bx mb N (parL G U d) G lf sp lnv upv := GrC.keep ⟨⟨pb, h1, h2⟩, h3, h4, h5, h6⟩ (fp := fun _ => False) sub2.keep fun _ _ _ _ _ h => h
    have hiG := par_lt z h e
    simp only [boolK_false, rd1_mk g2.tr, List.getElem?_cons_zero, optK_mk]
    refine optK_of (a := []) rfl ((hm.sub sub2).put (by omega) fun t3 hm3 u3 => ?_)
    rw [kv_stor hin] at hm3
    have g3 : GrC t3 bp bt ba bx mb N (parL G U d) G lf sp lnv upv := g2.keep (fp := fun b => b = mb) (u3.keep rfl) fun i t e cs hi => (hm.sub sub2).ne hi
    obtain ⟨x, hx⟩ : ∃ x, G[i]? = some x := ⟨_, List.getElem?_eq_getElem hiG⟩
    obtain ⟨a, p, cc⟩ := x
    obtain ⟨lb, lo, e1, _, e3⟩ := g3.ln.get (i := i) (r := lkR (a, p, cc)) (by rw [List.getElem?_map, hx]; rfl)
    have q0 : rd1 t3 (.ptr lb lo) = some (.int .i64 (a : Int)) := e3 0 (by omega)
    have q1 : rd1 t3 (.ptr lb (lo + 1)) = some (.int .i64 (p : Int)) := e3 1 (by omega)
    have hx2 := z.ok _ (List.mem_of_getElem? hx)
    have hfm : a + p - n = m := by unfold far at hfar; rw [hx] at hfar; exact hfar
    have hap : n = a ∧ m = p ∨ n = p ∧ m = a := by
      rcases he.2 with q | q <;> rw [hx] at q <;> simp only [Option.some.injEq, Prod.mk.injEq] at q
      · exact .inl ⟨q.1.symm, q.2.1.symm⟩
      · exact .inr ⟨q.2.1.symm, q.1.symm⟩
    have b1 : a < N := hx2.1
    have b2 : p < N := hx2.2.1
    have w1 : IntKind.i64.wrap ((a : Int) + (p : Int)) = (a : Int) + p := wrap64 (by omega) (by omega)
    have w2 : IntKind.i64.wrap ((a : Int) + (p : Int) - (n : Int)) = (m : Int) := by rw [wrap64 (by omega) (by omega)]; omega
    simp only [rd1_mk g3.ad, List.getElem?_cons_zero, addOff_ptr, Nat.zero_add, net2 g3.nx, e1, Nat.add_zero, q0, q1, arith_add, w1, arith_sub, w2, optK_mk]
    refine ⟨by kernel_rfl, ?_⟩
    show wpCall Try.prog XX 57 [.int .i64 (m : Int), .ptr bp 0, .ptr bt 0, .ptr ba 0, .ptr bx 0] _ t3
    refine ih (d m).toNat (by omega) m (keys ++ [i]) t3 _ mN (by omega) g3 hm3 (fun n' i' hd' hp' hi' j hj => ?_) fun t' keys' hm' k' hmem => ?_
    · rcases List.mem_append.1 hi' with q | q
      · exact List.mem_append_left _ (hcl n' i' (by omega) hp' q j hj)
      · rw [List.mem_singleton] at q
        subst q
        have := par_inj z h e hp'
        subst this
        omega
    · refine hK t' keys' hm' ((sub2.keep.trans (u3.keep (fp := fun b => b = mb) rfl)).trans k') fun j => ?_
      rw [hmem j, OnP.iff e, hfar, List.mem_append, List.mem_singleton]
      constructor
      · rintro ((q | q) | q)
        · exact .inl q
        · exact .inr (.inl q)
        · exact .inr (.inr q)
      · rintro (q | q | q)
        · exact .inl (.inl q)
        · exact .inl (.inr q)
        · exact .inr q
end Go.AM
namespace Go.AM
open Go Go.Proofs
variable {K : AVal → Heap → Prop} {s s' s0 t : Heap} {U : List Bool} {L : List RLk} {lnv upv v dv mv : AVal} {lf sp sf : Int} {N r : Nat} {G : List Lnk} {d ds : Nat → Int} {es : List Int}
theorem Sl.keepc {l : List AVal} {fp : Nat → Prop} (h : Sl s v l) (k : KeepBut fp s s') (hfp : ∀ i t e cs, s i = some (t, .cells e cs) → ¬ fp i) : Sl s' v l := by
  rcases h with q | ⟨b, o, cap, q1, q2, q3⟩
  · exact .inl q
  · refine .inr ⟨b, o, cap, q1, q2, fun hne => ?_⟩
    obtain ⟨t, e, cs, w1, w2⟩ := q3 hne
    exact ⟨t, e, cs, k _ _ w1 (hfp _ _ _ _ w1), w2⟩
/-! ### members, one after the other -/
noncomputable abbrev rdyG (ba d : Nat) : Blk := .loop .ready none 35 [(11, .ptr ba 0)] [30] (rfAs 0 (bodyOf Try.f43)) (rfBo 0 (bodyOf Try.f43)) d
theorem grow_round {bp bt ba bx mb l e n : Nat} {keys : List Nat} (z : GOk N G U) (hN : N ≤ 32) (hG : G.length ≤ 128) (h : IsDist N G U r d) (hn : n < N) (hl : t l = some (false, rdyG ba e)) (g : GrC t bp bt ba bx mb N (parL G U d) G lf sp lnv upv) (hm : MapAt t mb (kv keys))
    (hcl : ∀ n' i, parL G U d n' = ((i : Nat) : Int) → i ∈ keys → ∀ j, OnP G (parL G U d) n' j → j ∈ keys)
    (hK : ∀ t' keys', t' l = some (false, rdyG ba e) → MapAt t' mb (kv keys') → KeepBut (fun b => b = mb ∨ b = l) t t' → (∀ j, j ∈ keys' ↔ j ∈ keys ∨ OnP G (parL G U d) n j) → K (.bool true) t') : wpRound Try.prog XX l [.int .i64 (n : Int)] K t := by
  refine vc_tree_grow_r0_in hl ⟨rfl, ?_⟩
  unfold beginK
  rw [hl]
  simp only
  have u1 : Upto l t (hset t l (false, .loop .busy none 35 [(11, .ptr ba 0)] [30] (rfAs 0 (bodyOf Try.f43)) (rfBo 0 (bodyOf Try.f43)) e)) := fun _ hi => hset_other hi
  have l1 : hset t l (false, .loop .busy none 35 [(11, .ptr ba 0)] [30] (rfAs 0 (bodyOf Try.f43)) (rfBo 0 (bodyOf Try.f43)) e) l = some (false, .loop .busy none 35 [(11, .ptr ba 0)] [30] (rfAs 0 (bodyOf Try.f43)) (rfBo 0 (bodyOf Try.f43)) e) := hset_eq
  generalize hset t l (false, .loop .busy none 35 [(11, .ptr ba 0)] [30] (rfAs 0 (bodyOf Try.f43)) (rfBo 0 (bodyOf Try.f43)) e) = t1 at u1 l1
  have nc : ∀ i t' e' cs, t i = some (t', .cells e' cs) → ¬ (i = l) := fun i t' e' cs hi q => by rw [q, hl] at hi; cases hi
  have g1 := g.keep (fp := fun b => b = l) (u1.keep rfl) nc
  have hml : mb ≠ l := by
    rintro rfl
    obtain ⟨_, _, q, _⟩ := hm
    rw [hl] at q; cases q
  have hm1 : MapAt t1 mb (kv keys) := by
    obtain ⟨es, c, q1, q2⟩ := hm
    exact ⟨es, c, by rw [u1 mb hml]; exact q1, q2⟩
  simp only [rd1_mk g1.ad, List.getElem?_cons_zero, optK_mk]
  refine ⟨by kernel_rfl, ?_⟩
  show wpCall Try.prog XX 57 [.int .i64 (n : Int), .ptr bp 0, .ptr bt 0, .ptr ba 0, .ptr bx 0] _ t1
  refine add_in z hN hG h _ n keys t1 _ hn rfl g1 hm1 (fun n' i _ => hcl n' i) fun t2 keys' hm2 k2 hmem => ?_
  have l2 : t2 l = _ := k2 _ _ l1 (Ne.symm hml)
  unfold endK
  rw [l2]
  simp only
  have u3 : Upto l t2 (hset t2 l (false, rdyG ba e)) := fun _ hi => hset_other hi
  refine hK _ keys' hset_eq ?_ (fun i x hi hne => ?_) hmem
  · obtain ⟨es, c, q1, q2⟩ := hm2
    exact ⟨es, c, by rw [u3 mb hml]; exact q1, q2⟩
  · rw [u3 i fun q => hne (.inr q)]
    refine k2 i x ?_ fun q => hne (.inl q)
    rw [u1 i fun q => hne (.inr q)]; exact hi
def Mem (es : List Int) (lf : Int) (ds : Nat → Int) (m : Nat) : Prop := (m : Int) ∈ es ∧ (m : Int) < lf ∧ 0 ≤ ds m
theorem closedT (z : GOk N G U) (h : IsDist N G U r d) {M : Nat → Prop} {keys : List Nat} (hk : ∀ j, j ∈ keys ↔ InT G (parL G U d) M j) : ∀ n' i, parL G U d n' = ((i : Nat) : Int) → i ∈ keys → ∀ j, OnP G (parL G U d) n' j → j ∈ keys := fun n' i hp hi j hj => (hk j).2 (((hk i).1 hi).closed z h hp hj)
theorem inside1_in {bp bt ba bx mb l e c0 c1 c2 : Nat} (z : GOk N G U) (hN : N ≤ 32) (hG : G.length ≤ 128) (h : IsDist N G U r d) (hlf : lf ≤ N) (hl : t l = some (false, rdyG ba e)) (g : GrC t bp bt ba bx mb N (parL G U d) G lf sp lnv upv) (hm : MapAt t mb (kv []))
    (q0 : t c0 = some (false, .cells 28 [mv])) (q1 : t c1 = some (false, .cells 25 (netC lf sp lnv upv))) (q2 : t c2 = some (false, .cells 28 [dv])) (hmv : Sl t mv (izs es)) (hes : es.length ≤ 60) (hdv : Sl t dv (dl N ds))
    (hK : ∀ v t' keys, t' l = some (false, rdyG ba e) → MapAt t' mb (kv keys) → KeepBut (fun b => b = mb ∨ b = l) t t' → (∀ j, j ∈ keys ↔ InT G (parL G U d) (Mem es lf ds) j) → K v t') : wpCall Try.prog XX 73 [.yield l, .ptr c0 0, .ptr c1 0, .ptr c2 0] K t := by
  refine vc_tree_inside_1_in ?_
  simp only [vc_tree_inside_1, rd1_mk q0, List.getElem?_cons_zero, optK_mk]
  refine Clone_in hmv (by omega) fun v s2 o2 sub2 => Sort_in o2 sub2 (by omega) fun s4 o4 sub4 => ?_
  have hsl := (sortI_perm es).length_eq
  refine Compact_in o4 sub4 (by omega) fun v5 s6 es' sl5 hle hmem sub6 _ => ?_
  have hmem : ∀ x, x ∈ es' ↔ x ∈ es := fun x => (hmem x).trans (sortI_perm es).mem_iff
  simp only [sl5.len, List.length_map, optK_mk]
  have l6 := sub6 _ _ hl
  have m6 := hm.sub sub6
  have g6 := g.keep (fp := fun _ => False) sub6.keep fun _ _ _ _ _ h => h
  have d6 := hdv.sub sub6
  have c16 := sub6 _ _ q1
  have c26 := sub6 _ _ q2
  have nc : ∀ i t' e' cs, s6 i = some (t', .cells e' cs) → ¬ (i = mb ∨ i = l) := fun i t' e' cs hi q => by
    rcases q with q | q
    · exact m6.ne hi q
    · rw [q, l6] at hi; cases hi
  refine ⟨fun ys t m => ∃ (i : Nat) (keys : List Nat), ys = [.int .i64 i] ∧ i ≤ es'.length ∧ m = es'.length - i ∧ t l = some (false, rdyG ba e) ∧ MapAt t mb (kv keys) ∧ KeepBut (fun b => b = mb ∨ b = l) s6 t ∧ ∀ j, j ∈ keys ↔ InT G (parL G U d) (Mem (es'.take i) lf ds) j, ⟨_, 0, [], rfl, by omega, rfl, l6, m6, .refl _ s6, fun j => ⟨(fun h => by cases h), fun ⟨m, ⟨h, _⟩, _⟩ => by simp at h⟩⟩, ?_⟩
  rintro f t1 m ⟨i, keys, hy, hi, rfl, hl1, hm1, k1, hkeys⟩
  simp only [List.cons.injEq, and_true] at hy
  rw [hy]
  simp only [vc_tree_inside_1_l0, arith_lss, optK_mk]
  refine boolK_mk (fun hlt => ?_) (fun hge => ?_)
  · have hlt : i < es'.length := by have := of_decide_eq_true hlt; omega
    obtain ⟨p, a1, a2⟩ := (sl5.keepc k1 nc).get (i := i) (by rw [List.length_map]; exact hlt)
    have a3 : (izs es')[i]? = some (.int .i64 es'[i]) := by simp [hlt]
    rw [a3] at a2
    have c11 := k1 _ _ c16 (nc _ _ _ _ c16)
    have c21 := k1 _ _ c26 (nc _ _ _ _ c26)
    have d1 := d6.keepc k1 nc
    have g1 := g6.keep k1 nc
    have tk : ∀ x, x ∈ es'.take (i + 1) ↔ x ∈ es'.take i ∨ x = es'[i] := fun x => by
      rw [List.take_add_one, List.getElem?_eq_getElem hlt, List.mem_append]
      simp only [Option.toList, List.mem_singleton]
    have stay : ¬ (0 ≤ es'[i] ∧ es'[i] < lf ∧ 0 ≤ ds es'[i].toNat) → ∀ j, j ∈ keys ↔ InT G (parL G U d) (Mem (es'.take (i + 1)) lf ds) j := fun hno j => by
      rw [hkeys j]
      refine ⟨fun ⟨m, ⟨h1, h2⟩, h3⟩ => ⟨m, ⟨(tk _).2 (.inl h1), h2⟩, h3⟩, fun ⟨m, ⟨h1, h2⟩, h3⟩ => ⟨m, ⟨?_, h2⟩, h3⟩⟩
      rcases (tk _).1 h1 with q | q
      · exact q
      · refine absurd ⟨by omega, by omega, ?_⟩ hno
        rw [← q]
        exact h2.2
    have nx : ∀ t' keys', t' l = some (false, rdyG ba e) → MapAt t' mb (kv keys') → KeepBut (fun b => b = mb ∨ b = l) s6 t' → (∀ j, j ∈ keys' ↔ InT G (parL G U d) (Mem (es'.take (i + 1)) lf ds) j) → ∃ m', m' < es'.length - i ∧ ∃ (q : Nat) (keys : List Nat), [AVal.int .i64 ((i : Int) + 1)] = [.int .i64 q] ∧ q ≤ es'.length ∧ m' = es'.length - q ∧ t' l = some (false, rdyG ba e) ∧ MapAt t' mb (kv keys) ∧ KeepBut (fun b => b = mb ∨ b = l) s6 t' ∧ ∀ j, j ∈ keys ↔ InT G (parL G U d) (Mem (es'.take q) lf ds) j := fun t' keys' w1 w2 w3 w4 => ⟨_, by omega, i + 1, keys', rfl, by omega, rfl, w1, w2, w3, w4⟩
    simp only [a1, a2, arith_geq, optK_mk]
    by_cases b1 : 0 ≤ es'[i]
    · rw [decide_eq_true b1]
      simp only [boolK_true, addOff_ptr, Nat.zero_add, net0 c11, arith_lss, optK_mk]
      by_cases b2 : es'[i] < lf
      · rw [decide_eq_true b2]
        obtain ⟨n, hn⟩ : ∃ n : Nat, es'[i] = n := ⟨es'[i].toNat, by omega⟩
        have hnN : n < N := by omega
        obtain ⟨p2, a4, a5⟩ := d1.get (i := n) (by rw [dl_len]; exact hnN)
        rw [dl_get hnN] at a5
        simp only [vc_tree_inside_1_j1, pickV_true, optK_mk, boolK_true, rd1_mk c21, List.getElem?_cons_zero, hn, a4, a5, arith_geq]
        by_cases b3 : 0 ≤ ds n
        · rw [decide_eq_true b3]
          simp only [vc_tree_inside_1_j2, pickV_true, optK_mk, boolK_true]
          refine ⟨by unfold loopLen; rw [hl1]; rfl, grow_round z hN hG h hnN hl1 g1 hm1 (closedT z h hkeys) fun t2 keys2 hl2 hm2 k2 hk2 => ?_⟩
          simp only [unary_not, Bool.not_true, vc_tree_inside_1_j3, pickV_true, optK_mk, boolK_false, arith_add]
          rw [wrap64 (by omega) (by omega)]
          refine nx t2 keys2 hl2 hm2 (k1.trans k2) fun j => ?_
          rw [hk2 j, hkeys j]
          constructor
          · rintro (⟨m, ⟨h1, h2⟩, h3⟩ | h3)
            · exact ⟨m, ⟨(tk _).2 (.inl h1), h2⟩, h3⟩
            · exact ⟨n, ⟨(tk _).2 (.inr hn.symm), by omega, b3⟩, h3⟩
          · rintro ⟨m, ⟨h1, h2⟩, h3⟩
            rcases (tk _).1 h1 with q | q
            · exact .inl ⟨m, ⟨q, h2⟩, h3⟩
            · have : m = n := by omega
              subst this
              exact .inr h3
        · rw [decide_eq_false b3]
          simp only [vc_tree_inside_1_j2, vc_tree_inside_1_j3, pickV_true, pickV_false, optK_mk, boolK_false, arith_add]
          rw [wrap64 (by omega) (by omega)]
          refine nx t1 keys hl1 hm1 k1 (stay fun q => b3 ?_)
          have := q.2.2
          rw [hn] at this
          exact this
      · rw [decide_eq_false b2]
        simp only [vc_tree_inside_1_j1, vc_tree_inside_1_j2, vc_tree_inside_1_j3, pickV_true, pickV_false, optK_mk, boolK_false, arith_add]
        rw [wrap64 (by omega) (by omega)]
        exact nx t1 keys hl1 hm1 k1 (stay fun q => b2 q.2.1)
    · rw [decide_eq_false b1]
      simp only [boolK_false, vc_tree_inside_1_j1, vc_tree_inside_1_j2, vc_tree_inside_1_j3, pickV_false, optK_mk, arith_add]
      rw [wrap64 (by omega) (by omega)]
      exact nx t1 keys hl1 hm1 k1 (stay fun q => b1 q.1)
  · have hge : i = es'.length := by have := of_decide_eq_false hge; omega
    subst hge
    rw [List.take_length] at hkeys
    refine hK _ t1 keys hl1 hm1 (sub6.keep.trans k1) fun j => ?_
    rw [hkeys j]
    exact ⟨fun ⟨m, ⟨h1, h2⟩, h3⟩ => ⟨m, ⟨(hmem _).1 h1, h2⟩, h3⟩, fun ⟨m, ⟨h1, h2⟩, h3⟩ => ⟨m, ⟨(hmem _).2 h1, h2⟩, h3⟩⟩
end Go.AM
namespace Go.AM
open Go Go.Proofs
variable {K : AVal → Heap → Prop} {s s' s0 t : Heap} {U : List Bool} {L : List RLk} {lnv upv v dv mv : AVal} {lf sp sf : Int} {N r : Nat} {ds : Nat → Int} {es : List Int}
theorem grow_in (hn : NetR s L U lnv upv) (hok : vld (N : Int) L U) (hsum : lf + sp = N) (h1 : 1 ≤ lf) (h2 : 0 ≤ sp) (hr : r < N) (hdv : Sl s dv (dl N ds)) (hmv : Sl s mv (izs es)) (hes : es.length ≤ 60)
    (hK : ∀ mb s' keys d, IsDist N (L.map toL) U r d → MapAt s' mb (kv keys) → Sub s s' → (∀ j, j ∈ keys ↔ InT (L.map toL) (parL (L.map toL) U d) (Mem es lf ds) j) → K (.map mb) s') : wpCall Try.prog XX 43 [.agg (netC lf sp lnv upv), dv, .int .i64 (r : Int), mv] K s := by
  obtain ⟨z, hG, hN, hC, hmp⟩ := hok.gok
  refine vc_tree_grow_in (hn.box fun bx s1 hbx x1 u1 => map_new fun mb s2 hmb m2 u2 => new_step fun bt s3 hbt t3 u3 => wr1_step t3 (by simp) rfl fun s4 t4 u4 => ?_)
  have t4 : s4 bt = some (false, .cells 83 [.map mb]) := t4
  have sub1 := u1.sub hbx
  have sub2 := u2.sub hmb
  have sub24 : Sub s2 s4 := sub_upto (u3.sub hbt) u4 hbt
  have x4 := sub24 _ _ (sub2 _ _ x1)
  have m4 : MapAt s4 mb (kv []) := m2.sub sub24
  have sub04 : Sub s s4 := (sub1.trans sub2).trans sub24
  simp only [addOff_ptr, Nat.zero_add, net0 x4, net1 x4, net2 x4, net3 x4, arith_add, optK_mk]
  rw [wrap64 (by omega) (by omega), hsum]
  refine Parents_in (hn.l.sub sub04) (by have := hn.len.1; omega) (hn.u.sub sub04) fun pv s5 sub5 _ hpv => ?_
  obtain ⟨d, pb, hd, _, rfl, _, p5⟩ := hpv N r hok rfl hr rfl
  have sub05 := sub04.trans sub5
  refine new_step fun bp s6 hbp p6 u6 => wr1_step p6 (by simp) rfl fun s7 p7 u7 => ?_
  have p7 : s7 bp = some (false, .cells 28 [.slc pb 0 N (some N) 1]) := p7
  have sub57 : Sub s5 s7 := sub_upto (u6.sub hbp) u7 hbp
  refine new_step fun ba s8 hba a8 u8 => wr1_step a8 (by simp) rfl fun s9 a9 u9 => ?_
  have a9 : s9 ba = some (false, .cells 96 [.fn (.func 57) [] [.ptr bp 0, .ptr bt 0, .ptr ba 0, .ptr bx 0]]) := a9
  have sub79 : Sub s7 s9 := sub_upto (u8.sub hba) u9 hba
  have sub59 := sub57.trans sub79
  have sub49 := sub5.trans sub59
  have x9 := sub49 _ _ x4
  have sub09 : Sub s s9 := sub04.trans sub49
  have g9 : GrC s9 bp bt ba bx mb N (parL (L.map toL) U d) (L.map toL) lf sp lnv upv := ⟨⟨pb, sub79 _ _ p7, sub59 _ _ p5⟩, sub49 _ _ t4, a9, x9, by rw [← hmp]; exact hn.l.sub sub09⟩
  have m9 := m4.sub sub49
  simp only [net4 x9, optK_mk]
  refine vc_tree_inside_in ((hn.sub sub09).box fun c1 sa hc1 y1 v1 => box_step hdv.one fun c2 sb hc2 y2 v2 => box_step hmv.one fun c0 sc hc0 y0 v0 => ?_)
  have suba := v1.sub hc1
  have subb := v2.sub hc2
  have subc := v0.sub hc0
  have sub9c := (suba.trans subb).trans subc
  have gc := g9.keep (fp := fun _ => False) sub9c.keep fun _ _ _ _ _ h => h
  have mc := m9.sub sub9c
  have sub0c := sub09.trans sub9c
  refine ⟨by kernel_rfl, trivial, fun l e hl => ?_⟩
  have u : Upto l sc (hset sc l (false, rdyG ba e)) := fun _ hi => hset_other hi
  have hl1 : hset sc l (false, rdyG ba e) l = some (false, rdyG ba e) := hset_eq
  have sub : Sub sc (hset sc l (false, rdyG ba e)) := u.sub hl
  have hls : s l = none := by
    cases q : s l with
    | none => rfl
    | some y => rw [sub0c _ _ q] at hl; cases hl
  have hmbs : s mb = none := by
    cases q : s mb with
    | none => rfl
    | some y => rw [sub1 _ _ q] at hmb; cases hmb
  show wpCall Try.prog XX 73 [.yield l, .ptr c0 0, .ptr c1 0, .ptr c2 0] _ (hset sc l (false, rdyG ba e))
  generalize hset sc l (false, rdyG ba e) = sd at u hl1 sub
  refine inside1_in (es := es) (ds := ds) (lf := lf) (sp := sp) z hN hG hd (by omega) hl1 (gc.keep (fp := fun _ => False) sub.keep fun _ _ _ _ _ h => h) (mc.sub sub) (sub _ _ y0) (sub _ _ (subc _ _ (subb _ _ y1))) (sub _ _ (subc _ _ y2)) (hmv.sub (sub0c.trans sub)) hes (hdv.sub (sub0c.trans sub)) fun _ t keys hlt hmt kt hk => ?_
  unfold doneK3
  rw [hlt]
  refine ⟨(fun h => by cases h), ?_⟩
  have ml : mb ≠ l := by
    rintro rfl
    obtain ⟨_, _, q, _⟩ := hmt
    rw [hlt] at q; cases q
  have hmt2 : MapAt (hdel t l) mb (kv keys) := by
    obtain ⟨es, c, q1, q2⟩ := hmt
    exact ⟨es, c, by rw [hdel_ne ml]; exact q1, q2⟩
  have td := sub _ _ gc.tr
  have hbt2 : bt ≠ mb := (mc.sub sub).ne td
  have hbt3 : bt ≠ l := fun q => by rw [q, hl1] at td; cases td
  have tt := kt _ _ td (by rintro (q | q); exact hbt2 q; exact hbt3 q)
  have tt2 : hdel t l bt = some (false, .cells 83 [.map mb]) := by rw [hdel_ne hbt3]; exact tt
  simp only [rd1_mk tt2, List.getElem?_cons_zero, optK_mk]
  refine hK mb _ keys d hd hmt2 (fun i x hi => ?_) hk
  rw [hdel_ne (ne_of_some hls hi)]
  exact kt i x (sub i x (sub0c i x hi)) (by rintro (q | q); exact ne_of_some hmbs hi q; exact ne_of_some hls hi q)
end Go.AM
namespace Go.AM
open Go Go.Proofs
variable {K : AVal → Heap → Prop} {s s' s0 t : Heap} {U : List Bool} {L : List RLk} {lnv upv v dv mv : AVal} {lf sp sf g : Int} {N r : Nat} {d ds : Nat → Int} {es : List Int}
/-! ### roots and links of trees as functions of the network -/
theorem spn_congr {d d' : Nat → Int} (h : ∀ n, n < N → d n = d' n) : spn lf N d = spn lf N d' := by
  unfold spn
  exact List.filter_congr fun n hn => by rw [h n (List.mem_range.1 hn)]
theorem rootP_congr {d d' : Nat → Int} (h : ∀ n, n < N → d n = d' n) : rootP lf N d g = rootP lf N d' g := by
  unfold rootP
  rw [spn_congr h]
theorem Mem_congr {d d' : Nat → Int} (hlf : lf ≤ N) (h : ∀ n, n < N → d n = d' n) : Mem es lf d = Mem es lf d' := by
  funext m
  apply propext
  unfold Mem
  constructor
  · rintro ⟨h1, h2, h3⟩; exact ⟨h1, h2, by rw [← h m (by omega)]; exact h3⟩
  · rintro ⟨h1, h2, h3⟩; exact ⟨h1, h2, by rw [h m (by omega)]; exact h3⟩
noncomputable def dN (lf sp : Int) (L : List RLk) (U : List Bool) (sf : Int) : Nat → Int := dF (lf + sp).toNat (L.map toL) U sf.toNat
open Classical in
noncomputable def rootN (lf sp : Int) (L : List RLk) (U : List Bool) (sf g : Int) : Option Nat := if netOk lf sp L U sf then rootP lf (lf + sp).toNat (dN lf sp L U sf) g else none
noncomputable def edgesN (lf sp : Int) (L : List RLk) (U : List Bool) (sf g : Int) (es : List Int) : List Nat := match rootN lf sp L U sf g with
  | none => []
  | some r => treeL (L.map toL) (pF (lf + sp).toNat (L.map toL) U r) (Mem es lf (dN lf sp L U sf))
/-- what a list of distances is, once more -/
theorem DistV.is (h : DistV s0 s lf sp L U sf v N d) (q : netOk lf sp L U sf) : N = (lf + sp).toNat ∧ GOk N (L.map toL) U ∧ IsDist N (L.map toL) U sf.toNat (dN lf sp L U sf) ∧ (∀ n, n < N → d n = dN lf sp L U sf n) ∧ lf + sp = N := by
  obtain ⟨h1, h2, _⟩ := h.yes q
  have hN : N = (lf + sp).toNat := by omega
  have hv := q.2.2.1
  rw [h1] at hv
  obtain ⟨z, _⟩ := hv.gok
  unfold dN
  rw [← hN]
  exact ⟨rfl, z, dF_is h2, fun n hn => dF_eq z h2 hn, h1⟩
theorem DistV.root (h : DistV s0 s lf sp L U sf v N d) : rootP lf N d g = rootN lf sp L U sf g := by
  unfold rootN
  by_cases q : netOk lf sp L U sf
  · obtain ⟨h1, _, _, h2, _⟩ := h.is q
    rw [if_pos q, ← h1]
    exact rootP_congr h2
  · rw [if_neg q, (h.no q).2]; rfl
theorem RootN_in (hn : NetR s L U lnv upv) (hg : 0 ≤ g ∧ g < 4294967296) (hK : ∀ s', Sub s s' → K (rootV (rootN lf sp L U sf g)) s') : wpCall Try.prog XX 14 [.agg (netC lf sp lnv upv), .int .i64 sf, .int .u32 g] K s := by
  refine Root_in hn hg fun v s' s2 N d sub dv => ?_
  rw [dv.root]
  exact hK s' sub
theorem rootN_some (h : rootN lf sp L U sf g = some r) : netOk lf sp L U sf ∧ r ∈ spn lf (lf + sp).toNat (dN lf sp L U sf) := by
  unfold rootN at h
  split at h
  · rename_i q
    exact ⟨q, List.mem_of_getElem? h⟩
  · cases h
theorem sortI_eq {l m : List Nat} (hp : l.Perm m) (hm : m.Pairwise (· < ·)) : sortI (l.map fun (n : Nat) => (n : Int)) = m.map fun (n : Nat) => (n : Int) := by
  refine List.Perm.eq_of_pairwise (le := fun a b : Int => a ≤ b) (fun a b _ _ h1 h2 => by omega) (sortI_sorted _) ?_ ((sortI_perm _).trans (hp.map _))
  exact List.pairwise_map.2 (hm.imp fun h => by omega)
theorem Edges15_in (hn : NetR s L U lnv upv) (hg : 0 ≤ g ∧ g < 4294967296) (hmv : Sl s mv (izs es)) (hes : es.length ≤ 60) (hK : ∀ v s', Sl s' v (iz (edgesN lf sp L U sf g es)) → (∀ b o n c, v = .slc b o n c 1 → edgesN lf sp L U sf g es ≠ [] → s b = none) → Sub s s' → K v s') : wpCall Try.prog XX 17 [.agg (netC lf sp lnv upv), .int .i64 sf, .int .u32 g, mv] K s := by
  refine vc_tree_Edges_in (hn.box fun b s1 hb h1 u1 => ?_)
  have sub1 := u1.sub hb
  simp only [net4 h1, optK_mk]
  refine tdist_in (hn.sub sub1) fun v s2 N d sub2 dv => ?_
  have sub02 := sub1.trans sub2
  have h2 := sub2 _ _ h1
  have hN : N ≤ 32 := by
    by_cases q : netOk lf sp L U sf
    · have := (dv.yes q).1; have := q.2.2.1.2.1; omega
    · have := (dv.no q).2; omega
  simp only [net4 h2, optK_mk]
  refine choose_in (hn.sub sub02) hN dv.sl hg fun s3 sub3 => ?_
  have sub03 := sub02.trans sub3
  have h3 := sub3 _ _ h2
  rw [dv.root]
  cases hr : rootN lf sp L U sf g with
  | none =>
    show K .nilslc s3
    refine hK _ _ ?_ (fun b o n c q => by cases q) sub03
    unfold edgesN
    rw [hr]; exact .inl ⟨rfl, rfl⟩
  | some r =>
    obtain ⟨q, hm⟩ := rootN_some hr
    obtain ⟨e1, z, hd, hdd, hsum⟩ := dv.is q
    rw [← e1] at hm
    obtain ⟨rN, _, _⟩ := mem_spn.1 hm
    have hv := q.2.2.1
    rw [hsum] at hv
    show optK (rdN s3 4 (.ptr b 0)) _
    simp only [net4 h3, optK_mk]
    refine grow_in (r := r) (hn.sub sub03) hv hsum q.1 q.2.1 rN (dv.sl.sub sub3) (hmv.sub sub03) hes fun mb s4 keys dr hdr hmap sub4 hk => ?_
    have hk2 : ∀ j, j ∈ keys ↔ j ∈ edgesN lf sp L U sf g es := fun j => by
      unfold edgesN
      rw [hr]
      simp only
      rw [hk j, ← e1, pF_eq z hdr, Mem_congr (es := es) (lf := lf) (by have := q.2.1; omega) hdd]
      exact (mem_treeL z (dF_is hdr)).symm
    have srt : (edgesN lf sp L U sf g es).Pairwise (· < ·) := by
      unfold edgesN
      rw [hr]; exact treeL_sorted
    have nd : keys.Nodup := by
      obtain ⟨es', c, _, ho⟩ := hmap
      have := ho.nd
      rw [kv_keys] at this
      exact (List.pairwise_map.1 this).imp fun h e => h (by rw [e])
    have pm : keys.Perm (edgesN lf sp L U sf g es) := (List.perm_ext_iff_of_nodup nd (srt.imp fun h => by omega)).2 hk2
    have hlen : keys.length ≤ 128 := by
      rw [pm.length_eq]
      unfold edgesN
      rw [hr]
      simp only
      unfold treeL
      refine Nat.le_trans (List.length_filter_le _ _) ?_
      rw [List.length_range]
      exact hv.gok.2.1
    have X42 : XX 42 = some (keysG 55) := rfl
    have X41 : XX 41 = some (sortedG [55] 3) := rfl
    refine wp_keys X42 fun kb s5 hkb k5 u5 => ?_
    have sub5 := u5.sub hkb
    refine wp_sorted (l := kv keys) X41 rfl k5 (hmap.sub sub5) (by rw [kv_len]; omega) fun v s6 ac sub6 => ?_
    rw [kv_keys, sortI_eq pm srt] at ac
    have sub05 := (sub03.trans sub4).trans sub5
    have ee : izs ((edgesN lf sp L U sf g es).map fun (n : Nat) => (n : Int)) = iz (edgesN lf sp L U sf g es) := by
      unfold iz
      exact List.map_map ..
    rw [ee] at ac
    refine hK v s6 ac.sl (fun b o n c q1 q2 => ?_) (sub05.trans sub6)
    rcases ac with ⟨w, _⟩ | ⟨b', w1, w, _⟩
    · rw [w] at q1; cases q1
    · rw [w] at q1; cases q1
      cases r : s b with
      | none => rfl
      | some y => rw [sub05 _ _ r] at w1; cases w1
end Go.AM
namespace Go.AM
open Go Go.Proofs
variable {K : AVal → Heap → Prop} {s s' s0 t : Heap} {U : List Bool} {L : List RLk} {lnv upv v dv mv : AVal} {lf sp sf g : Int} {N r : Nat} {d ds : Nat → Int} {es : List Int}
/-! ### words of the statements -/
structure NetA (s : Heap) (L : List RLk) (U : List Bool) (lnv upv : AVal) : Prop where
  l : SlR 3 s lnv (L.map rwR)
  u : Sl s upv (U.map AVal.bool)
  len : L.length ≤ 9223372036854775807 ∧ U.length ≤ 9223372036854775807
theorem NetA.sub (h : NetA s L U lnv upv) (k : Sub s s') : NetA s' L U lnv upv := ⟨h.l.sub k, h.u.sub k, h.len⟩
theorem NetA.box (h : NetA s L U lnv upv) (hK : ∀ b s', s b = none → s' b = some (false, .cells 25 (netC lf sp lnv upv)) → Upto b s s' → K (.ptr b 0) s') : boxK 25 (.agg (netC lf sp lnv upv)) K s :=
  ⟨by
    show ((AVal.int .i64 lf).one && ((AVal.int .i64 sp).one && (lnv.one && (upv.one && true)))) = true
    rw [h.l.one, h.u.one]; rfl, new_step hK⟩
theorem NetA.net (h : NetA s L U lnv upv) (hl : L.length ≤ 60 ∧ U.length ≤ 60) : NetR s L U lnv upv := ⟨h.l, h.u, hl⟩
def larg (L : List RLk) (U : List Bool) (k : Nat) : Bool := decide (60 < L.length) || (decide (60 < U.length) || decide (60 < k))
theorem large_in {k : Nat} (hn : NetA s L U lnv upv) (hm : lenOfA mv = some k) (hK : ∀ s', Sub s s' → K (.bool (larg L U k)) s') : wpCall Try.prog XX 10 [.agg (netC lf sp lnv upv), mv] K s := by
  refine vc_leafmeshlaw15_large_in (hn.box fun b s1 hb h1 u1 => ?_)
  have sub1 := u1.sub hb
  have e1 : decide ((60 : Int) < (L.length : Int)) = decide (60 < L.length) := decide_eq_decide.2 (by omega)
  have e2 : decide ((60 : Int) < (U.length : Int)) = decide (60 < U.length) := decide_eq_decide.2 (by omega)
  have e3 : decide ((60 : Int) < (k : Int)) = decide (60 < k) := decide_eq_decide.2 (by omega)
  simp only [addOff_ptr, Nat.zero_add, net2 h1, net3 h1, (hn.l.sub sub1).len, (hn.u.sub sub1).len, List.length_map, arith_gtr, e1, optK_mk]
  have fin := hK s1 sub1
  unfold larg at fin
  cases c1 : decide (60 < L.length) with
  | true =>
    rw [c1] at fin
    simp only [boolK_true, vc_leafmeshlaw15_large_j0, vc_leafmeshlaw15_large_j1, pickV_true, optK_mk]
    exact fin
  | false =>
    rw [c1] at fin
    simp only [boolK_false, addOff_ptr, Nat.zero_add, net3 h1, (hn.u.sub sub1).len, List.length_map, arith_gtr, e2, optK_mk, vc_leafmeshlaw15_large_j0, pickV_false]
    cases c2 : decide (60 < U.length) with
    | true =>
      rw [c2] at fin
      simp only [boolK_true, vc_leafmeshlaw15_large_j1, pickV_true, optK_mk]
      exact fin
    | false =>
      rw [c2] at fin
      simp only [boolK_false, hm, arith_gtr, e3, optK_mk, vc_leafmeshlaw15_large_j1, pickV_false]
      exact fin
theorem larg_false {k : Nat} (h : larg L U k = false) : L.length ≤ 60 ∧ U.length ≤ 60 ∧ k ≤ 60 := by
  unfold larg at h
  simp only [Bool.or_eq_false_iff, decide_eq_false_iff_not] at h
  omega
/-- which networks the statements speak of -/
def lawOk (lf sp : Int) (L : List RLk) (U : List Bool) (k : Nat) : Prop := larg L U k = false ∧ 1 ≤ lf ∧ 0 ≤ sp ∧ vld (lf + sp) L U
end Go.AM
namespace Go.AM
open Go Go.Proofs
variable {K : AVal → Heap → Prop} {s s' s0 t : Heap} {U : List Bool} {L : List RLk} {lnv upv v dv mv : AVal} {lf sp sf g : Int} {N r : Nat} {d ds : Nat → Int} {es : List Int}
/-! ### TreeSpreads -/
theorem known_in {f : FuncId} (h : f = 5 ∨ f = 11) (hK : K (.bool true) s) : wpCall Try.prog XX f [] K s := by
  rcases h with rfl | rfl
  · exact wp_closedB rfl rfl rfl hK
  · exact wp_closedB rfl rfl rfl hK
theorem lawOk.net {k : Nat} (h : lawOk lf sp L U k) {p : Int} (hp : 0 ≤ p ∧ p < lf + sp) : netOk lf sp L U p := ⟨h.2.1, h.2.2.1, h.2.2.2, hp.1, hp.2⟩
end Go.AM
namespace Go.AM
open Go Go.Proofs
variable {s : Heap} {v : AVal}
/-! ### arguments -/
theorem bdu32 {n : Int} (h : (Lit.int .u32 n).wf = true) : 0 ≤ n ∧ n < 4294967296 := by
  unfold Lit.wf at h
  simp [IntKind.min, IntKind.max, IntKind.bits, IntKind.signed] at h
  omega
theorem cells39 : Try.prog.cellsOf 39 = 3 := by kernel_rfl
set_option maxRecDepth 100000 in
theorem inp_lk {d : Nat} {xs : List AVal} (h : Inp Try.prog s (d + 2) 39 xs) : ∃ a : RLk, xs = rwR a ∧ True := by
  unfold Inp at h
  simp only [Try.underlying39] at h
  obtain ⟨h1, h2⟩ := h
  rw [cells39] at h1
  have k0 := h2 _ (List.mem_cons_self)
  have k1 := h2 _ (List.mem_cons_of_mem _ List.mem_cons_self)
  have k2 := h2 _ (List.mem_cons_of_mem _ (List.mem_cons_of_mem _ List.mem_cons_self))
  match xs, h1 with
  | [a, b, c], _ =>
    obtain ⟨n, e1, _⟩ := inp_int (xs := [a]) Try.underlying3 k0
    obtain ⟨q, e2, _⟩ := inp_int (xs := [b]) Try.underlying3 k1
    obtain ⟨w, e3, _⟩ := inp_int (xs := [c]) Try.underlying3 k2
    cases e1; cases e2; cases e3
    exact ⟨(n, q, w), rfl, trivial⟩
set_option maxRecDepth 100000 in
theorem arg_net {d : Nat} (h : Arg Try.prog s (d + 4) 25 v) : ∃ lf sp L U lnv upv, v = .agg (netC lf sp lnv upv) ∧ NetA s L U lnv upv ∧ (-9223372036854775808 ≤ lf ∧ lf ≤ 9223372036854775807) ∧ (-9223372036854775808 ≤ sp ∧ sp ≤ 9223372036854775807) := by
  obtain ⟨h1, h2, _⟩ := h
  have ha : isAggT Try.prog 25 = some true := by kernel_rfl
  obtain ⟨l, rfl, _⟩ := h2 ha
  rw [cells_agg] at h1
  unfold Inp at h1
  simp only [Try.underlying25] at h1
  obtain ⟨g1, g2⟩ := h1
  rw [show Try.prog.cellsOf 25 = 4 by kernel_rfl] at g1
  have k0 := g2 _ (List.mem_cons_self)
  have k1 := g2 _ (List.mem_cons_of_mem _ List.mem_cons_self)
  have k2 := g2 _ (List.mem_cons_of_mem _ (List.mem_cons_of_mem _ List.mem_cons_self))
  have k3 := g2 _ (List.mem_cons_of_mem _ (List.mem_cons_of_mem _ (List.mem_cons_of_mem _ List.mem_cons_self)))
  match l, g1 with
  | [a, b, c, e], _ =>
    obtain ⟨n, e1, w1⟩ := inp_int (xs := [a]) Try.underlying3 k0
    obtain ⟨q, e2, w2⟩ := inp_int (xs := [b]) Try.underlying3 k1
    obtain ⟨lnv, e3, L, hL, _, hl1⟩ := inpR (d := d + 2) (xs := [c]) Try.underlying22 rwR (fun _ => True) (fun a => by rw [cells39]; rfl) (fun xs h => inp_lk h) k2
    obtain ⟨upv, e4, U, hU, _, hl2⟩ := inp_slice (d := d + 2) (xs := [e]) Try.underlying23 (by kernel_rfl) AVal.bool (fun _ => True) (fun xs h => inp_bool Try.underlying4 h) k3
    rw [cells39] at hL
    cases e1; cases e2; cases e3; cases e4
    exact ⟨n, q, L, U, c, e, rfl, ⟨hL, hU, by unfold maxLen at hl1 hl2; omega⟩, bd64 w1, bd64 w2⟩
end Go.AM
namespace Go.AM
open Go Go.Proofs
variable {K : AVal → Heap → Prop} {s s' s0 t : Heap} {U : List Bool} {L : List RLk} {lnv upv v w dv mv : AVal} {lf sp sf g : Int} {N r : Nat} {d ds : Nat → Int} {es es' : List Int}
/-! ### TreeAgrees -/
theorem Same_in (h : Sl s v (izs es)) (h' : Sl s w (izs es')) (hl : es.length ≤ 1000000) (hK : ∀ b : Bool, (b = true ↔ es = es') → K (.bool b) s) : wpCall Try.prog XX 16 [v, w] K s := by
  refine vc_leafmeshkit_Same_int__in ?_
  simp only [vc_leafmeshkit_Same_int_, h.len, h'.len, List.length_map, eqV_int, negB_mk, Bool.true_bne, optK_mk]
  refine boolK_mk (fun c => ?_) (fun c => ?_)
  · have c : ¬ (es.length : Int) = es'.length := by simpa using c
    exact hK false ⟨(fun h => by cases h), fun h => by rw [h] at c; exact absurd rfl c⟩
  have c : es.length = es'.length := by
    have c : (es.length : Int) = es'.length := by simpa using c
    omega
  refine ⟨fun ys t m => ∃ i : Nat, ys = [.int .i64 i] ∧ t = s ∧ i ≤ es.length ∧ m = es.length - i ∧ es.take i = es'.take i, ⟨_, 0, rfl, rfl, by omega, rfl, by simp⟩, ?_⟩
  rintro f t m ⟨i, hy, rfl, hi, rfl, hq⟩
  simp only [List.cons.injEq, and_true] at hy
  rw [hy]
  simp only [vc_leafmeshkit_Same_int__l0, h.len, List.length_map, arith_lss, optK_mk]
  refine boolK_mk (fun hlt => ?_) (fun hge => ?_)
  · have hlt : i < es.length := by have := of_decide_eq_true hlt; omega
    have hlt' : i < es'.length := by omega
    obtain ⟨p, g1, g2⟩ := h.get (i := i) (by rw [List.length_map]; exact hlt)
    obtain ⟨q, g3, g4⟩ := h'.get (i := i) (by rw [List.length_map]; exact hlt')
    have e1 : (izs es)[i]? = some (.int .i64 es[i]) := by simp [hlt]
    have e2 : (izs es')[i]? = some (.int .i64 es'[i]) := by simp [hlt']
    rw [e1] at g2
    rw [e2] at g4
    simp only [g1, g2, g3, g4, eqV_int, negB_mk, Bool.true_bne, optK_mk]
    refine boolK_mk (fun c => ?_) (fun c => ?_)
    · have c : ¬ es[i] = es'[i] := by simpa using c
      exact hK false ⟨(fun h => by cases h), fun h => by subst h; exact absurd rfl c⟩
    · have c : es[i] = es'[i] := by simpa using c
      simp only [arith_add, optK_mk]
      rw [wrap64 (by omega) (by omega)]
      refine ⟨_, by omega, i + 1, rfl, by trivial, by omega, rfl, ?_⟩
      rw [List.take_add_one, List.take_add_one, hq, List.getElem?_eq_getElem hlt, List.getElem?_eq_getElem hlt', c]
  · have hge : i = es.length := by have := of_decide_eq_false hge; omega
    subst hge
    rw [List.take_length, c, List.take_length] at hq
    exact hK true ⟨fun _ => hq, fun _ => rfl⟩
theorem edgesN_len (h : netOk lf sp L U sf) : (edgesN lf sp L U sf g es).length ≤ L.length := by
  unfold edgesN
  cases hr : rootN lf sp L U sf g with
  | none => exact Nat.zero_le _
  | some r =>
    simp only
    unfold treeL
    refine Nat.le_trans (List.length_filter_le _ _) ?_
    rw [List.length_range, List.length_map]
    exact Nat.le_refl _
end Go.AM
namespace Go.AM
open Go Go.Proofs
variable {K : AVal → Heap → Prop} {s s' s0 : Heap} {lv uv : AVal}
/-! ### the reference: which inputs are valid -/
theorem rvalid09_in {n : Int} {L : List RLk} (hl : SlR 3 s lv (L.map rwR)) (hlm : L.length ≤ 9223372036854775807)
    (hK : ∀ s' (e : Int), Sub s s' → (e = 0 ↔ 1 ≤ n ∧ n ≤ 32 ∧ L.length ≤ 128 ∧ ∀ x ∈ L, okL n x) → K (.int .i64 e) s') : wpCall Try.prog XX 68 [.int .i64 n, lv] K s := by
  refine vc_leafmeshref09_Valid_in ?_
  have no : ∀ {s'} {e : Int}, e ≠ 0 → Sub s s' → ¬ (1 ≤ n ∧ n ≤ 32 ∧ L.length ≤ 128 ∧ ∀ x ∈ L, okL n x) → K (.int .i64 e) s' := fun {s' e} he h q => hK s' e h ⟨fun h => absurd h he, fun h => absurd h q⟩
  simp only [vc_leafmeshref09_Valid, arith_lss, arith_gtr, optK_mk]
  by_cases c1 : n < 1
  · rw [decide_eq_true c1]
    simp only [boolK_true, vc_leafmeshref09_Valid_j0, pickV_true, optK_mk]
    exact no (by decide) (.refl s) fun h => by omega
  rw [decide_eq_false c1]
  simp only [boolK_false]
  by_cases c2 : (32 : Int) < n
  · rw [decide_eq_true c2]
    simp only [boolK_true, vc_leafmeshref09_Valid_j0, pickV_false, optK_mk]
    exact no (by decide) (.refl s) fun h => by omega
  rw [decide_eq_false c2]
  simp only [boolK_false, vc_leafmeshref09_Valid_j0, pickV_false, optK_mk, hl.len, List.length_map, arith_gtr]
  by_cases c3 : (128 : Int) < L.length
  · rw [decide_eq_true c3]
    simp only [boolK_true]
    exact no (by decide) (.refl s) fun h => by omega
  rw [decide_eq_false c3]
  simp only [boolK_false]
  refine ⟨fun ys t m => ∃ i : Nat, ys = [.int .i64 i] ∧ i ≤ L.length ∧ m = L.length - i ∧ Sub s t ∧ ∀ x ∈ L.take i, okL n x, ⟨_, 0, rfl, by omega, rfl, .refl s, by simp⟩, ?_⟩
  rintro f t m ⟨i, hy, hi, rfl, ht, hq⟩
  simp only [List.cons.injEq, and_true] at hy
  rw [hy]
  simp only [vc_leafmeshref09_Valid_l1, (hl.sub ht).len, List.length_map, arith_lss, optK_mk]
  refine boolK_mk (fun hlt => ?_) (fun hge => ?_)
  · have hlt : i < L.length := by have := of_decide_eq_true hlt; omega
    obtain ⟨x, hx⟩ : ∃ x, L[i]? = some x := ⟨_, List.getElem?_eq_getElem hlt⟩
    obtain ⟨a, p, c⟩ := x
    obtain ⟨pb, po, e1, e2, _⟩ := (hl.sub ht).get (i := i) (r := rwR (a, p, c)) (by rw [List.getElem?_map, hx]; rfl)
    simp only [e1, e2, optK_mk]
    refine new_step fun be t1 hbe h7 u7 => wrAgg_step h7 rfl rfl rfl fun t2 h8 u8 => ?_
    have h8 : t2 be = some (false, .cells 39 [.int .i64 a, .int .i64 p, .int .i64 c]) := h8
    have subt : Sub t t2 := sub_upto (u7.sub hbe) u8 hbe
    have st2 := ht.trans subt
    have y0 : [AVal.int .i64 a, .int .i64 p, .int .i64 c][0]? = some (.int .i64 a) := rfl
    have y1 : [AVal.int .i64 a, .int .i64 p, .int .i64 c][1]? = some (.int .i64 p) := rfl
    have y2 : [AVal.int .i64 a, .int .i64 p, .int .i64 c][2]? = some (.int .i64 c) := rfl
    have bad : ¬ okL n (a, p, c) → ¬ (1 ≤ n ∧ n ≤ 32 ∧ L.length ≤ 128 ∧ ∀ x ∈ L, okL n x) := fun h q => h (q.2.2.2 _ (List.mem_of_getElem? hx))
    have stop : ∀ t59 t62, pickV t59 (.bool true) t62 = some (.bool true) → ¬ okL n (a, p, c) → vc_leafmeshref09_Valid_j6 XX (.int .i64 (i : Int)) (.ptr be 0) t59 t62 (fun ys t m => ∃ i : Nat, ys = [.int .i64 i] ∧ i ≤ L.length ∧ m = L.length - i ∧ Sub s t ∧ ∀ x ∈ L.take i, okL n x) (L.length - i) K t2 := fun t59 t62 h q => by
      simp only [vc_leafmeshref09_Valid_j6, h, optK_mk, boolK_true]
      exact no (by decide) st2 (bad q)
    simp only [addOff_ptr, Nat.zero_add, rd1_mk h8, y0, optK_mk, arith_lss, arith_geq]
    by_cases d1 : a < 0
    · rw [decide_eq_true d1]
      simp only [boolK_true, vc_leafmeshref09_Valid_j2, vc_leafmeshref09_Valid_j3, vc_leafmeshref09_Valid_j4, vc_leafmeshref09_Valid_j5, pickV_true, optK_mk]
      exact stop _ _ rfl fun h => by have := okD h; omega
    rw [decide_eq_false d1]
    simp only [boolK_false, vc_leafmeshref09_Valid_j2, pickV_false, optK_mk]
    by_cases d2 : n ≤ a
    · rw [decide_eq_true d2]
      simp only [boolK_true, vc_leafmeshref09_Valid_j3, vc_leafmeshref09_Valid_j4, vc_leafmeshref09_Valid_j5, pickV_true, optK_mk]
      exact stop _ _ rfl fun h => by have := okD h; omega
    rw [decide_eq_false d2]
    simp only [boolK_false, vc_leafmeshref09_Valid_j3, pickV_false, optK_mk, addOff_ptr, Nat.zero_add, rd1_mk h8, y1, arith_lss]
    by_cases d3 : p < 0
    · rw [decide_eq_true d3]
      simp only [boolK_true, vc_leafmeshref09_Valid_j4, vc_leafmeshref09_Valid_j5, pickV_true, optK_mk]
      exact stop _ _ rfl fun h => by have := okD h; omega
    rw [decide_eq_false d3]
    simp only [boolK_false, vc_leafmeshref09_Valid_j4, pickV_false, optK_mk, addOff_ptr, Nat.zero_add, rd1_mk h8, y1, arith_geq]
    by_cases d4 : n ≤ p
    · rw [decide_eq_true d4]
      simp only [boolK_true, vc_leafmeshref09_Valid_j4, vc_leafmeshref09_Valid_j5, pickV_true, optK_mk]
      exact stop _ _ rfl fun h => by have := okD h; omega
    rw [decide_eq_false d4]
    simp only [boolK_false, vc_leafmeshref09_Valid_j4, vc_leafmeshref09_Valid_j5, pickV_false, optK_mk, addOff_ptr, Nat.zero_add, rd1_mk h8, y2, arith_lss]
    by_cases d5 : c < 1
    · rw [decide_eq_true d5]
      simp only [boolK_true, vc_leafmeshref09_Valid_j5, pickV_true, optK_mk]
      exact stop _ _ rfl fun h => by have := okD h; omega
    rw [decide_eq_false d5]
    simp only [boolK_false, vc_leafmeshref09_Valid_j5, pickV_false, optK_mk, addOff_ptr, Nat.zero_add, rd1_mk h8, y2, arith_gtr]
    by_cases d6 : 1000 < c
    · rw [decide_eq_true d6]
      exact stop _ _ rfl fun h => by have := okD h; omega
    rw [decide_eq_false d6]
    simp only [vc_leafmeshref09_Valid_j6, pickV_false, boolK_false, addOff_ptr, Nat.zero_add, rd1_mk h8, y0, y1, eqV_int, negB_mk, Bool.false_bne, optK_mk]
    cases d7 : (a == p) with
    | true =>
      have d7 : a = p := by simpa using d7
      simp only [boolK_true]
      exact no (by decide) st2 (bad fun h => (okD h).2.2.1 d7)
    | false =>
    have d7 : a ≠ p := by simpa using d7
    simp only [boolK_false, arith_add, optK_mk]
    rw [wrap64 (by omega) (by omega)]
    refine ⟨_, by omega, i + 1, rfl, by omega, rfl, st2, fun y hy => ?_⟩
    rw [List.take_add_one, hx] at hy
    rcases List.mem_append.1 hy with q | q
    · exact hq y q
    · have : y = (a, p, c) := by simpa using q
      rw [this]
      exact okI ⟨by omega, by omega, d7, by omega, by omega⟩
  · have hge : i = L.length := by have := of_decide_eq_false hge; omega
    subst hge
    rw [List.take_length] at hq
    exact hK t 0 ht ⟨fun _ => ⟨by omega, by omega, by omega, hq⟩, fun _ => rfl⟩
theorem rvalid_in {n x : Int} {L : List RLk} {U : List Bool} (hl : SlR 3 s lv (L.map rwR)) (hlm : L.length ≤ 9223372036854775807) (hu : Sl s uv (U.map AVal.bool))
    (hK : ∀ s' (r : Bool), Sub s s' → (r = true ↔ vld n L U ∧ 0 ≤ x ∧ x < n) → K (.bool r) s') : wpCall Try.prog XX 51 [.int .i64 n, lv, uv, .int .i64 x] K s := by
  refine vc_leafmeshref10_Valid_in (rvalid09_in hl hlm fun s1 e sub1 he => ?_)
  simp only [eqV_int, negB_mk, Bool.true_bne, Bool.false_bne, optK_mk]
  have no : ¬ (vld n L U ∧ 0 ≤ x ∧ x < n) → K (.bool false) s1 := fun q => hK s1 false sub1 ⟨(fun h => by cases h), fun h => absurd h q⟩
  cases c0 : (e == 0) with
  | false =>
    have c0 : e ≠ 0 := by simpa using c0
    simp only [Bool.not_true, Bool.not_false, boolK_false, vc_leafmeshref10_Valid_j0, vc_leafmeshref10_Valid_j1, vc_leafmeshref10_Valid_j2, pickV_false, optK_mk]
    exact no fun h => c0 (he.2 ⟨h.1.1, h.1.2.1, h.1.2.2.1, h.1.2.2.2.2⟩)
  | true =>
  have c0 : e = 0 := by simpa using c0
  obtain ⟨k1, k2, k3, k4⟩ := he.1 c0
  simp only [Bool.not_true, Bool.not_false, boolK_true, (hl.sub sub1).len, (hu.sub sub1).len, List.length_map, optK_mk]
  cases c1 : ((U.length : Int) == (L.length : Int)) with
  | false =>
    have c1 : ¬ (U.length : Int) = L.length := by simpa using c1
    simp only [Bool.not_true, Bool.not_false, boolK_false, vc_leafmeshref10_Valid_j0, vc_leafmeshref10_Valid_j1, vc_leafmeshref10_Valid_j2, pickV_true, pickV_false, optK_mk]
    exact no fun h => by have := h.1.2.2.2.1; omega
  | true =>
  have c1 : (U.length : Int) = L.length := by simpa using c1
  have hv : vld n L U := ⟨k1, k2, k3, by omega, k4⟩
  simp only [Bool.not_true, Bool.not_false, boolK_true, vc_leafmeshref10_Valid_j0, pickV_true, arith_geq, optK_mk]
  by_cases c2 : 0 ≤ x
  · rw [decide_eq_true c2]
    simp only [boolK_true, vc_leafmeshref10_Valid_j1, vc_leafmeshref10_Valid_j2, pickV_true, arith_lss, optK_mk]
    refine hK s1 _ sub1 ⟨fun h => ⟨hv, c2, of_decide_eq_true h⟩, fun h => decide_eq_true h.2.2⟩
  · rw [decide_eq_false c2]
    simp only [boolK_false, vc_leafmeshref10_Valid_j1, vc_leafmeshref10_Valid_j2, pickV_true, pickV_false, optK_mk]
    exact no fun h => c2 h.2.1
end Go.AM
namespace Go.AM
open Go Go.Proofs
variable {K : AVal → Heap → Prop} {s s' s0 : Heap} {lv uv : AVal} {N : Nat} {G : List Lnk} {U : List Bool} {f : Nat} {d : Nat → Int} {I1 I2 : List AVal → Heap → Nat → Prop} {m1 m2 : Nat}
/-! ### the reference: distances -/
theorem dl_ad {db n : Nat} (hn : n < N) : iaddrS 1 (.slc db 0 N (some N) 1) (.int .i64 (n : Int)) = some (.ptr db n) := by
  have : Nat.blt n N = true := by rw [Nat.blt_eq]; exact hn
  simp [iaddrS, this]
theorem lk39 {bx : Nat} {a b c : Int} (hx : s bx = some (false, .cells 39 [.int .i64 a, .int .i64 b, .int .i64 c])) : rd1 s (.ptr bx 0) = some (.int .i64 a) ∧ rd1 s (.ptr bx 1) = some (.int .i64 b) ∧ rd1 s (.ptr bx 2) = some (.int .i64 c) := by
  refine ⟨?_, ?_, ?_⟩ <;> (rw [rd1_mk hx]; rfl)
theorem RInv.bd' (h : RInv N G U f d) (hN : N ≤ 32) {n : Nat} (hn : n < N) : -1 ≤ d n ∧ d n ≤ 3000000 := by
  have h1 := h.lo n hn
  have h2 := h.bd n hn
  have h3 := cntD_le (N := N) (d := d)
  omega
/-- the second half of a round: from the second end to the first -/
theorem bf2 {bx db i a b c : Nat} {mo iv : AVal} (z : GOk N G U) (hN : N ≤ 32) (inv : RInv N G U f d) (e : Ed G U i a b c) (hx : s bx = some (false, .cells 39 [.int .i64 (a : Int), .int .i64 (b : Int), .int .i64 (c : Int)])) (hd : s db = some (false, .cells 3 (dl N d)))
    (h0 : (0 ≤ d b → 0 ≤ d a ∧ d a ≤ d b + c) → vc_leafmeshref10_Dist_j3 XX mo iv I2 m2 I1 m1 K s)
    (h1 : ∀ s', 0 ≤ d b → (d a < 0 ∨ d b + c < d a) → s' db = some (false, .cells 3 (dl N (updI d a (d b + c)))) → Upto db s s' → vc_leafmeshref10_Dist_j3 XX (.bool true) iv I2 m2 I1 m1 K s') :
    vc_leafmeshref10_Dist_j5 XX (.slc db 0 N (some N) 1) mo iv (.ptr bx 0) I2 m2 I1 m1 K s := by
  obtain ⟨k1, k2, k3, k4, k5⟩ := z.ed e
  obtain ⟨x0, x1, x2⟩ := lk39 hx
  have da := inv.bd' hN k1
  have db' := inv.bd' hN k2
  have ga : (dl N d)[a]? = some (.int .i64 (d a)) := dl_get k1
  have gb : (dl N d)[b]? = some (.int .i64 (d b)) := dl_get k2
  have w : IntKind.i64.wrap (d b + (c : Int)) = d b + c := wrap64 (by omega) (by omega)
  have act : 0 ≤ d b → (d a < 0 ∨ d b + c < d a) → optK (wr1 s (.ptr db a) (.int .i64 (d b + (c : Int)))) (fun s_59 => vc_leafmeshref10_Dist_j3 XX (.bool true) iv I2 m2 I1 m1 K s_59) := fun q1 q2 =>
    wr1_step hd (by rw [dl_len]; exact k1) rfl fun s' g1 g2 => by
      rw [dl_set k1] at g1
      exact h1 s' q1 q2 g1 g2
  simp only [vc_leafmeshref10_Dist_j5, addOff_ptr, Nat.zero_add, x0, x1, dl_ad k1, dl_ad k2, rd1_mk hd, ga, gb, arith_geq, arith_lss, optK_mk]
  by_cases c1 : 0 ≤ d b
  · rw [decide_eq_true c1]
    simp only [boolK_true]
    by_cases c2 : d a < 0
    · rw [decide_eq_true c2]
      simp only [boolK_true, vc_leafmeshref10_Dist_j6, pickV_true, addOff_ptr, Nat.zero_add, x0, x1, x2, dl_ad k1, dl_ad k2, rd1_mk hd, gb, arith_add, w, optK_mk]
      exact act c1 (.inl c2)
    · rw [decide_eq_false c2]
      simp only [boolK_false, x2, arith_add, w, arith_gtr, optK_mk]
      by_cases c3 : d b + c < d a
      · rw [decide_eq_true c3]
        simp only [boolK_true, vc_leafmeshref10_Dist_j6, pickV_true, pickV_false, addOff_ptr, Nat.zero_add, x0, x1, x2, dl_ad k1, dl_ad k2, rd1_mk hd, gb, arith_add, w, optK_mk]
        exact act c1 (.inr c3)
      · rw [decide_eq_false c3]
        simp only [boolK_false, vc_leafmeshref10_Dist_j6, pickV_true, pickV_false, optK_mk]
        exact h0 fun _ => ⟨by omega, by omega⟩
  · rw [decide_eq_false c1]
    simp only [boolK_false, pickV_false, optK_mk]
    exact h0 fun q => absurd q c1
theorem j7_j5 : @vc_leafmeshref10_Dist_j7 = @vc_leafmeshref10_Dist_j5 := rfl
theorem dl_fill {v : Int} {i : Nat} (h : i < N) : (dl N fun n => if n < i then v else 0).set i (.int .i64 v) = dl N fun n => if n < i + 1 then v else 0 := by
  rw [dl_set h]
  unfold dl
  refine List.map_congr_left fun n hn => ?_
  congr 1
  by_cases e : n = i
  · rw [e, updI_same]; exact (if_pos (by omega)).symm
  · rw [updI_ne e]
    by_cases c : n < i
    · show (if n < i then v else 0) = if n < i + 1 then v else 0
      rw [if_pos c, if_pos (by omega)]
    · show (if n < i then v else 0) = if n < i + 1 then v else 0
      rw [if_neg c, if_neg (by omega)]
theorem zeros_dlf {v : Int} : repl N [AVal.int .i64 0] = dl N fun n => if n < 0 then v else 0 := by
  rw [repl_one]
  unfold dl
  refine List.ext_getElem? fun i => ?_
  by_cases hi : i < N
  · simp [hi]
  · simp [hi]
theorem rDist_in {n x : Int} {L : List RLk} (hl : SlR 3 s lv (L.map rwR)) (hlm : L.length ≤ 9223372036854775807) (hu : Sl s uv (U.map AVal.bool))
    (hK : ∀ v s', Sub s s' → (¬ (vld n L U ∧ 0 ≤ x ∧ x < n) → v = .nilslc) → (∀ (N r : Nat), vld (N : Int) L U → n = N → r < N → x = r → ∃ d b, IsDist N (L.map toL) U r d ∧ (∀ m, m < N → -1 ≤ d m ∧ d m ≤ 3000000) ∧ v = .slc b 0 N (some N) 1 ∧ s b = none ∧ s' b = some (false, .cells 3 (dl N d))) → K v s') : wpCall Try.prog XX 52 [.int .i64 n, lv, uv, .int .i64 x] K s := by
  refine vc_leafmeshref10_Dist_in (rvalid_in hl hlm hu fun s1 r sub1 hr => ?_)
  simp only [unary_not, optK_mk]
  cases r with
  | false =>
    have hr' : ¬ (vld n L U ∧ 0 ≤ x ∧ x < n) := fun h => by have := hr.2 h; cases this
    exact hK _ _ sub1 (fun _ => rfl) fun N r q1 q2 q3 q4 => by
      subst q2 q4
      exact absurd ⟨q1, by omega, by omega⟩ hr'
  | true =>
  obtain ⟨hv, hx0, hxn⟩ := hr.1 rfl
  obtain ⟨N, rfl⟩ : ∃ N : Nat, n = N := ⟨n.toNat, by omega⟩
  obtain ⟨f, rfl⟩ : ∃ f : Nat, x = f := ⟨x.toNat, by omega⟩
  have hf : f < N := by omega
  obtain ⟨z, hG, hN, hC, hrw⟩ := vld.gok hv
  rw [hrw] at hl
  simp only [Bool.not_true, boolK_false, nat?_mk, optK_mk]
  refine ⟨⟨Nat.le_refl _, by omega⟩, new_step fun db s2 hdb h2 u2 => ?_⟩
  have sub2 := sub1.trans (u2.sub hdb)
  have hdb0 : s db = none := by
    cases q : s db with
    | none => rfl
    | some y => rw [sub1 _ _ q] at hdb; cases hdb
  refine ⟨fun ys t m => ∃ i : Nat, ys = [.int .i64 i] ∧ i ≤ N ∧ m = N - i ∧ Sub s t ∧ t db = some (false, .cells 3 (dl N fun n => if n < i then -1 else 0)), ⟨_, 0, rfl, by omega, rfl, sub2, by rw [h2, zeros_dlf]⟩, ?_⟩
  rintro fe t m ⟨i, hy, hi, rfl, st, hd⟩
  simp only [List.cons.injEq, and_true] at hy
  rw [hy]
  simp only [vc_leafmeshref10_Dist_l0, arith_lss, optK_mk]
  refine boolK_mk (fun hlt => ?_) (fun hge => ?_)
  · have hlt : i < N := by have := of_decide_eq_true hlt; omega
    simp only [dl_ad hlt, optK_mk]
    refine wr1_step hd (by rw [dl_len]; exact hlt) rfl fun t3 h3 u3 => ?_
    simp only [arith_add, optK_mk]
    rw [wrap64 (by omega) (by omega)]
    refine ⟨_, by omega, i + 1, rfl, by omega, rfl, sub_upto st u3 hdb0, ?_⟩
    rw [h3, dl_fill hlt]
  have hge : i = N := by have := of_decide_eq_false hge; omega
  subst hge
  simp only [dl_ad hf, optK_mk]
  refine wr1_step hd (by rw [dl_len]; exact hf) rfl fun t1 g1 v1 => ?_
  have st1 := sub_upto st v1 hdb0
  have g1 : t1 db = some (false, .cells 3 (dl i fun n => if n = f then 0 else -1)) := by
    rw [g1, dl_set hf]
    congr 3
    unfold dl
    refine List.map_congr_left fun n hn => ?_
    congr 1
    have hn := List.mem_range.1 hn
    by_cases e : n = f
    · rw [e, updI_same]; exact (if_pos rfl).symm
    · rw [updI_ne e]
      show (if n < i then (-1 : Int) else 0) = if n = f then 0 else -1
      rw [if_pos hn, if_neg e]
  clear hd h2 u2 v1 hdb
  refine ⟨fun ys t m => ∃ (mo : Bool) (d : Nat → Int), ys = [.bool mo] ∧ m = muD i d + (if mo then 1 else 0) ∧ Sub s t ∧ t db = some (false, .cells 3 (dl i d)) ∧ RInv i (L.map toL) U f d ∧ (mo = false → ∀ j a b c, Ed (L.map toL) U j a b c → 0 ≤ d a → 0 ≤ d b ∧ d b ≤ d a + c), ⟨_, true, _, rfl, rfl, st1, g1, RInv.start hf, fun h => by cases h⟩, ?_⟩
  clear st1 g1
  rintro fe t m ⟨mo, d0, hy, rfl, st, hd, inv, clo⟩
  simp only [List.cons.injEq, and_true] at hy
  rw [hy]
  cases mo with
  | false =>
    simp only [vc_leafmeshref10_Dist_l1, boolK_false]
    refine hK _ t st (fun h => absurd ⟨hv, hx0, hxn⟩ h) fun N' r q1 q2 q3 q4 => ?_
    have q2 : i = N' := by omega
    have q4 : f = r := by omega
    subst q2 q4
    exact ⟨d0, db, inv.end_ (clo rfl), fun m hm => inv.bd' hN hm, rfl, hdb0, hd⟩
  | true =>
  clear clo
  simp only [vc_leafmeshref10_Dist_l1, boolK_true]
  refine ⟨fun ys t m => ∃ (mo : Bool) (k : Nat) (d : Nat → Int), ys = [.bool mo, .int .i64 k] ∧ k ≤ (L.map toL).length ∧ m = (L.map toL).length - k ∧ Sub s t ∧ t db = some (false, .cells 3 (dl i d)) ∧ RInv i (L.map toL) U f d ∧ (mo = true → muD i d < muD i d0) ∧ (mo = false → d = d0 ∧ ∀ j a b c, j < k → Ed (L.map toL) U j a b c → 0 ≤ d a → 0 ≤ d b ∧ d b ≤ d a + c), ⟨_, false, 0, d0, rfl, by omega, rfl, st, hd, inv, (fun h => by cases h), fun _ => ⟨rfl, fun j a b c h => by omega⟩⟩, ?_⟩
  clear st hd inv hy
  rintro fe t m ⟨mo, k, d, hy, hk, rfl, st, hd, inv, dec, clo⟩
  simp only [List.cons.injEq, and_true] at hy
  rw [hy.1, hy.2]
  have len := (hl.sub st).len
  rw [List.length_map] at len
  simp only [vc_leafmeshref10_Dist_l2, len, arith_lss, optK_mk]
  refine boolK_mk (fun hlt => ?_) (fun hge => ?_)
  rotate_left
  · have hge : k = (L.map toL).length := by have := of_decide_eq_false hge; omega
    cases mo with
    | true =>
      have := dec rfl
      exact ⟨muD i d + 1, by show muD i d + 1 < muD i d0 + 1; omega, true, d, rfl, rfl, st, hd, inv, fun h => by cases h⟩
    | false =>
      obtain ⟨e0, clo1⟩ := clo rfl
      refine ⟨muD i d, by rw [e0]; show muD i d0 < muD i d0 + 1; omega, false, d, rfl, rfl, st, hd, inv, fun _ j a b c e => clo1 j a b c ?_ e⟩
      rw [hge]
      rcases e.2 with e | e
      · exact (List.getElem?_eq_some_iff.1 e).1
      · exact (List.getElem?_eq_some_iff.1 e).1
  have hlt : k < (L.map toL).length := by have := of_decide_eq_true hlt; omega
  obtain ⟨x, hx⟩ : ∃ x, (L.map toL)[k]? = some x := ⟨_, List.getElem?_eq_getElem hlt⟩
  obtain ⟨a, b, c⟩ := x
  obtain ⟨pb, po, e1, e2, _⟩ := (hl.sub st).get (i := k) (r := lkR (a, b, c)) (by rw [List.getElem?_map, hx]; rfl)
  simp only [e1, e2, optK_mk]
  refine new_step fun be t1 hbe h7 u7 => wrAgg_step h7 rfl rfl rfl fun t2 h8 u8 => ?_
  have h8 : t2 be = some (false, .cells 39 [.int .i64 (a : Int), .int .i64 (b : Int), .int .i64 (c : Int)]) := h8
  have st2 : Sub t t2 := sub_upto (u7.sub hbe) u8 hbe
  have hd2 := st2 _ _ hd
  have stt := st.trans st2
  have hkU : k < U.length := by rw [z.len]; exact hlt
  have bed : be ≠ db := fun q => by rw [q, hd] at hbe; cases hbe
  obtain ⟨pu, a1, a2⟩ := (hu.sub stt).get (i := k) (by rw [List.length_map]; exact hkU)
  have a3 : (U.map AVal.bool)[k]? = some (.bool U[k]) := by simp [hkU]
  rw [a3] at a2
  have st := stt
  clear stt u7 u8 h7 e1 e2
  -- the next round
  have nxt : ∀ (mo' : Bool) (d' : Nat → Int) (t' : Heap), Sub s t' → t' db = some (false, .cells 3 (dl i d')) → RInv i (L.map toL) U f d' → (mo' = true → muD i d' < muD i d0) → (mo' = false → d' = d0 ∧ mo = false ∧ ∀ a b c, Ed (L.map toL) U k a b c → 0 ≤ d' a → 0 ≤ d' b ∧ d' b ≤ d' a + c) →
      vc_leafmeshref10_Dist_j3 XX (.bool mo') (.int .i64 (k : Int)) (fun ys t m => ∃ (mo : Bool) (k : Nat) (d : Nat → Int), ys = [.bool mo, .int .i64 k] ∧ k ≤ (L.map toL).length ∧ m = (L.map toL).length - k ∧ Sub s t ∧ t db = some (false, .cells 3 (dl i d)) ∧ RInv i (L.map toL) U f d ∧ (mo = true → muD i d < muD i d0) ∧ (mo = false → d = d0 ∧ ∀ j a b c, j < k → Ed (L.map toL) U j a b c → 0 ≤ d a → 0 ≤ d b ∧ d b ≤ d a + c)) ((L.map toL).length - k) (fun ys t m => ∃ (mo : Bool) (d : Nat → Int), ys = [.bool mo] ∧ m = muD i d + (if mo then 1 else 0) ∧ Sub s t ∧ t db = some (false, .cells 3 (dl i d)) ∧ RInv i (L.map toL) U f d ∧ (mo = false → ∀ j a b c, Ed (L.map toL) U j a b c → 0 ≤ d a → 0 ≤ d b ∧ d b ≤ d a + c)) (muD i d0 + (if true then 1 else 0)) K t' := by
    intro mo' d' t' w1 w2 w3 w4 w5
    simp only [vc_leafmeshref10_Dist_j3, arith_add, optK_mk]
    rw [wrap64 (by omega) (by omega)]
    refine ⟨_, by omega, mo', k + 1, d', rfl, by omega, rfl, w1, w2, w3, w4, fun h => ?_⟩
    obtain ⟨y1, y2, y3⟩ := w5 h
    refine ⟨y1, fun j a b c hj e => ?_⟩
    by_cases q : j = k
    · rw [q] at e; exact y3 a b c e
    · have := (clo y2).2 j a b c (by omega) e
      rw [y1, ← (clo y2).1]
      exact this
  simp only [a1, a2, unary_not, optK_mk]
  cases hup : U[k] with
  | false =>
    simp only [Bool.not_false, boolK_true]
    refine nxt mo d t2 st hd2 inv dec fun h => ⟨(clo h).1, h, fun a b c e => ?_⟩
    have := e.1
    rw [List.getElem?_eq_getElem hkU, hup] at this
    cases this
  | true =>
  have e : Ed (L.map toL) U k a b c := ⟨by rw [List.getElem?_eq_getElem hkU, hup], .inl hx⟩
  obtain ⟨k1, k2, k3, k4, k5⟩ := z.ed e
  have da := inv.bd' hN k1
  have db' := inv.bd' hN k2
  obtain ⟨x0, x1, x2⟩ := lk39 h8
  have ga : (dl i d)[a]? = some (.int .i64 (d a)) := dl_get k1
  have gb : (dl i d)[b]? = some (.int .i64 (d b)) := dl_get k2
  have w : IntKind.i64.wrap (d a + (c : Int)) = d a + c := wrap64 (by omega) (by omega)
  have hN40 : i ≤ 40 := by omega
  -- every way that the link may be taken
  have both : ∀ {d' : Nat → Int}, (0 ≤ d' a → 0 ≤ d' b ∧ d' b ≤ d' a + c) → (0 ≤ d' b → 0 ≤ d' a ∧ d' a ≤ d' b + c) → ∀ a b c, Ed (L.map toL) U k a b c → 0 ≤ d' a → 0 ≤ d' b ∧ d' b ≤ d' a + c := fun {d'} p1 p2 a' b' c' e' => by
    rcases e'.2 with q | q
    · rw [hx] at q; cases q; exact p1
    · rw [hx] at q; cases q; exact p2
  -- the second half after the first changed nothing
  have stay : (0 ≤ d a → 0 ≤ d b ∧ d b ≤ d a + c) → vc_leafmeshref10_Dist_j5 XX (.slc db 0 i (some i) 1) (.bool mo) (.int .i64 (k : Int)) (.ptr be 0) _ _ _ _ K t2 := fun cl1 => by
    refine bf2 z hN inv e h8 hd2 (fun cl2 => nxt mo d t2 st hd2 inv dec fun h => ⟨(clo h).1, h, both cl1 cl2⟩) fun t3 q1 q2 q3 q4 => ?_
    obtain ⟨r1, r2⟩ := inv.relax z hN40 e.sym q1 q2
    refine nxt true _ t3 (sub_upto st q4 hdb0) q3 r1 (fun _ => ?_) fun h => by cases h
    cases mo with
    | true => have := dec rfl; omega
    | false => have := (clo rfl).1; rw [← this]; omega
  have go : 0 ≤ d a → (d b < 0 ∨ d a + c < d b) → optK (wr1 t2 (.ptr db b) (.int .i64 (d a + (c : Int)))) (fun s_59 => vc_leafmeshref10_Dist_j5 XX (.slc db 0 i (some i) 1) (.bool true) (.int .i64 (k : Int)) (.ptr be 0) _ _ _ _ K s_59) := fun q1 q2 =>
    wr1_step hd2 (by rw [dl_len]; exact k2) rfl fun t3 g1 g2 => by
      rw [dl_set k2] at g1
      obtain ⟨r1, r2⟩ := inv.relax z hN40 e q1 q2
      have lo : muD i (updI d b (d a + c)) < muD i d0 := by
        cases mo with
        | true => have := dec rfl; omega
        | false => have := (clo rfl).1; rw [← this]; omega
      have st3 := sub_upto st g2 hdb0
      refine bf2 z hN r1 e (by rw [g2 be bed]; exact h8) g1 (fun _ => nxt true _ t3 st3 g1 r1 (fun _ => lo) fun h => by cases h) fun t4 p1 p2 p3 p4 => ?_
      obtain ⟨y1, y2⟩ := r1.relax z hN40 e.sym p1 p2
      refine nxt true _ t4 (sub_upto st3 p4 hdb0) p3 y1 (fun _ => by omega) fun h => by cases h
  simp only [Bool.not_true, boolK_false, addOff_ptr, Nat.zero_add, x0, x1, dl_ad k1, dl_ad k2, rd1_mk hd2, ga, gb, arith_geq, arith_lss, optK_mk, j7_j5]
  by_cases c1 : 0 ≤ d a
  · rw [decide_eq_true c1]
    simp only [boolK_true]
    by_cases c2 : d b < 0
    · rw [decide_eq_true c2]
      simp only [boolK_true, vc_leafmeshref10_Dist_j4, pickV_true, addOff_ptr, Nat.zero_add, x0, x1, x2, dl_ad k1, dl_ad k2, rd1_mk hd2, ga, arith_add, w, optK_mk]
      exact go c1 (.inl c2)
    · rw [decide_eq_false c2]
      simp only [boolK_false, x2, arith_add, w, arith_gtr, optK_mk]
      by_cases c3 : d a + c < d b
      · rw [decide_eq_true c3]
        simp only [boolK_true, vc_leafmeshref10_Dist_j4, pickV_true, pickV_false, addOff_ptr, Nat.zero_add, x0, x1, x2, dl_ad k1, dl_ad k2, rd1_mk hd2, ga, arith_add, w, optK_mk]
        exact go c1 (.inr c3)
      · rw [decide_eq_false c3]
        simp only [boolK_false, vc_leafmeshref10_Dist_j4, pickV_true, pickV_false, optK_mk]
        exact stay fun _ => ⟨by omega, by omega⟩
  · rw [decide_eq_false c1]
    simp only [boolK_false, pickV_false, optK_mk]
    exact stay fun q => absurd q c1
end Go.AM
namespace Go.AM
open Go Go.Proofs
variable {K : AVal → Heap → Prop} {s s' s0 : Heap} {lv uv v y : AVal} {N : Nat} {G : List Lnk} {U : List Bool} {d : Nat → Int}
/-! ### the reference: next links, parents, paths -/
def othV : Option Nat → AVal
  | some m => .tup [.int .i64 (m : Int), .bool true]
  | none => .tup [.int .i64 0, .bool false]
theorem rOther_in {a b c n : Nat} (hK : ∀ s', Sub s s' → K (othV (oth (a, b, c) n)) s') : wpCall Try.prog XX 60 [.agg (lkR (a, b, c)), .int .i64 (n : Int)] K s := by
  refine vc_leafmeshref10_Other_in ⟨rfl, new_step fun bx s1 hb h1 u1 => ?_⟩
  obtain ⟨x0, x1, x2⟩ := lk39 h1
  have hK := hK s1 (u1.sub hb)
  simp only [addOff_ptr, Nat.zero_add, x0, x1, eqV_int, negB_mk, Bool.false_bne, optK_mk]
  unfold oth at hK
  cases c1 : ((n : Int) == (a : Int)) with
  | true =>
    have c1 : a = n := by have := eq_of_beq c1; omega
    simp only [boolK_true]
    rw [if_pos c1] at hK
    exact hK
  | false =>
    have c1 : ¬ a = n := by
      have : ¬ (n : Int) = (a : Int) := by simpa using c1
      omega
    simp only [boolK_false]
    rw [if_neg c1] at hK
    cases c2 : ((n : Int) == (b : Int)) with
    | true =>
      have c2 : b = n := by have := eq_of_beq c2; omega
      simp only [boolK_true]
      rw [if_pos c2] at hK
      exact hK
    | false =>
      have c2 : ¬ b = n := by
        have : ¬ (n : Int) = (b : Int) := by simpa using c2
        omega
      simp only [boolK_false]
      rw [if_neg c2] at hK
      exact hK
theorem Acc.weak {elem : TypeId} {s1 : Heap} {l : List AVal} (h : Acc elem s1 s v l) (k : Sub s0 s1) : Acc elem s0 s v l := h.imp id fun ⟨b, h0, h1, h2⟩ => ⟨b, (by
  cases q : s0 b with
  | none => rfl
  | some x => rw [k _ _ q] at h0; cases h0), h1, h2⟩
/-- the links among the first k that begin shortest paths -/
def nrP (G : List Lnk) (U : List Bool) (d : Nat → Int) (n k : Nat) : List Nat := ((edP G U k n).filter fun e => decide (d n = d e.2.1 + e.2.2)).map (·.1)
theorem nrP_succ {n k : Nat} : nrP G U d n (k + 1) = nrP G U d n k ++ (((edF G U n k).toList.filter fun e => decide (d n = d e.2.1 + e.2.2)).map (·.1)) := by
  unfold nrP
  rw [edP_succ, List.filter_append, List.map_append]
theorem nrP_len {n k : Nat} : (nrP G U d n k).length ≤ k := by
  unfold nrP
  rw [List.length_map]
  exact Nat.le_trans (List.length_filter_le _ _) edP_len
def nrL (G : List Lnk) (U : List Bool) (d : Nat → Int) (n : Nat) : List Nat := (nearL G U d n).map (·.1)
theorem nrP_all {n : Nat} : nrP G U d n G.length = nrL G U d n := rfl
theorem rNext_in {L : List RLk} {n t : Nat} (hl : SlR 3 s lv (L.map rwR)) (hu : Sl s uv (U.map AVal.bool)) (hv : vld (N : Int) L U) (hn : n < N) (ht : t < N)
    (hK : ∀ v s' d, IsDist N (L.map toL) U t d → Acc 3 s s' v (iz (nrL (L.map toL) U d n)) → Sub s s' → K v s') : wpCall Try.prog XX 76 [.int .i64 (N : Int), lv, uv, .int .i64 (n : Int), .int .i64 (t : Int)] K s := by
  have hlm : L.length ≤ 9223372036854775807 := by have := hv.2.2.1; omega
  refine vc_leafmeshref10_Next_in (rvalid_in hl hlm hu fun s1 r sub1 hr => ?_)
  simp only [unary_not, optK_mk]
  rw [hr.2 ⟨hv, by omega, by omega⟩]
  simp only [Bool.not_true, boolK_false]
  refine rDist_in (hl.sub sub1) hlm (hu.sub sub1) fun dv s2 sub2 _ hdist => ?_
  obtain ⟨d, db, isd, hbd, rfl, hdb, hd⟩ := hdist N t hv rfl ht rfl
  have s02 := sub1.trans sub2
  obtain ⟨z, hG, hN, hC, hrw⟩ := vld.gok hv
  rw [hrw] at hl
  refine ⟨fun ys x m => ∃ (k : Nat) (lv : AVal), ys = [lv, .int .i64 k] ∧ k ≤ (L.map toL).length ∧ m = (L.map toL).length - k ∧ Sub s2 x ∧ Acc 3 s2 x lv (iz (nrP (L.map toL) U d n k)), ⟨_, 0, .nilslc, rfl, by omega, rfl, .refl s2, .inl ⟨rfl, rfl⟩⟩, ?_⟩
  rintro f x m ⟨k, ov, hy, hk, rfl, st, ac⟩
  simp only [List.cons.injEq, and_true] at hy
  rw [hy.1, hy.2]
  have stt := s02.trans st
  have len := (hl.sub stt).len
  rw [List.length_map] at len
  have len2 : lenOfA (.slc db 0 N (some N) 1) = some N := rfl
  simp only [vc_leafmeshref10_Next_l0, len, len2, arith_lss, arith_gtr, optK_mk]
  refine boolK_mk (fun hlt => ?_) (fun hge => ?_)
  rotate_left
  · have hge' : k = (L.map toL).length := by have := of_decide_eq_false hge; omega
    simp only [vc_leafmeshref10_Next_j1, hge, pickV_false, boolK_false, optK_mk]
    rw [hge', nrP_all] at ac
    exact hK _ x d isd (ac.weak s02) stt
  have hlt' : k < (L.map toL).length := by have := of_decide_eq_true hlt; omega
  obtain ⟨l, hx⟩ : ∃ l, (L.map toL)[k]? = some l := ⟨_, List.getElem?_eq_getElem hlt'⟩
  obtain ⟨a, b, c⟩ := l
  have hkU : k < U.length := by rw [z.len]; exact hlt'
  have row : ∀ {x}, Sub s x → ∃ pb po, iaddrS 3 lv (.int .i64 (k : Int)) = some (.ptr pb po) ∧ rdN x 3 (.ptr pb po) = some (lkR (a, b, c)) ∧ rd1 x (.ptr pb (po + 2)) = some (.int .i64 (c : Int)) := fun {x} hs => by
    obtain ⟨pb, po, e1, e2, e3⟩ := (hl.sub hs).get (i := k) (r := lkR (a, b, c)) (by rw [List.getElem?_map, hx]; rfl)
    exact ⟨pb, po, e1, e2, e3 2 (by omega)⟩
  obtain ⟨pb, po, e1, e2, _⟩ := row stt
  have hpos : decide ((0 : Int) < (N : Int)) = true := decide_eq_true (by omega)
  rw [hpos]
  simp only [vc_leafmeshref10_Next_j1, hlt, pickV_true, boolK_true, e1, e2, optK_mk]
  refine rOther_in fun s5 sub5 => ?_
  have st5 := st.trans sub5
  have st05 := stt.trans sub5
  have ac5 := ac.sub sub5
  clear e1 e2
  obtain ⟨pb, po, e1, _, e3⟩ := row st05
  obtain ⟨pu, a1, a2⟩ := (hu.sub st05).get (i := k) (by rw [List.length_map]; exact hkU)
  have a3 : (U.map AVal.bool)[k]? = some (.bool U[k]) := by simp [hkU]
  rw [a3] at a2
  have hd5 := st5 _ _ hd
  -- the next round
  have nxt : ∀ (ov' : AVal) (s6 : Heap), Sub s2 s6 → Acc 3 s2 s6 ov' (iz (nrP (L.map toL) U d n (k + 1))) → vc_leafmeshref10_Next_j5 XX ov' (.int .i64 (k : Int)) (fun ys x m => ∃ (k : Nat) (lv : AVal), ys = [lv, .int .i64 k] ∧ k ≤ (L.map toL).length ∧ m = (L.map toL).length - k ∧ Sub s2 x ∧ Acc 3 s2 x lv (iz (nrP (L.map toL) U d n k))) ((L.map toL).length - k) K s6 := fun ov' s6 h1 h2 => by
    simp only [vc_leafmeshref10_Next_j5, arith_add, optK_mk]
    rw [wrap64 (by omega) (by omega)]
    exact ⟨_, by omega, k + 1, ov', rfl, by omega, rfl, h1, h2⟩
  have same : (edF (L.map toL) U n k).toList.filter (fun e => decide (d n = d e.2.1 + e.2.2)) = [] → vc_leafmeshref10_Next_j5 XX ov (.int .i64 (k : Int)) _ _ K s5 := fun h => nxt ov s5 st5 (by rw [nrP_succ, h, List.map_nil, List.append_nil]; exact ac5)
  have eF : edF (L.map toL) U n k = if U[k] then (oth (a, b, c) n).map fun m => (k, m, c) else none := by
    unfold edF
    rw [List.getD_eq_getElem?_getD, List.getElem?_eq_getElem hkU, Option.getD_some, hx]
  cases ho : oth (a, b, c) n with
  | none =>
    have x0 : extractA (othV none) 0 = some (.int .i64 0) := rfl
    have x1 : extractA (othV none) 1 = some (.bool false) := rfl
    simp only [x0, x1, optK_mk, boolK_false, vc_leafmeshref10_Next_j2, vc_leafmeshref10_Next_j3, vc_leafmeshref10_Next_j4, pickV_false]
    refine same ?_
    rw [eF, ho]
    cases U[k] <;> rfl
  | some m =>
    have x0 : extractA (othV (some m)) 0 = some (.int .i64 (m : Int)) := rfl
    have x1 : extractA (othV (some m)) 1 = some (.bool true) := rfl
    simp only [x0, x1, optK_mk, boolK_true, a1, a2, vc_leafmeshref10_Next_j2, pickV_true]
    cases hup : U[k] with
    | false =>
      simp only [boolK_false, vc_leafmeshref10_Next_j3, vc_leafmeshref10_Next_j4, pickV_false, optK_mk]
      refine same ?_
      rw [eF, hup]; rfl
    | true =>
    have e : Ed (L.map toL) U k n m c := by
      refine ⟨by rw [List.getElem?_eq_getElem hkU, hup], ?_⟩
      unfold oth at ho
      split at ho
      · rename_i q; cases ho; exact .inl (by rw [hx]; show some (a, b, c) = some (n, b, c); rw [show a = n from q])
      · split at ho
        · rename_i q; cases ho; exact .inr (by rw [hx]; show some (a, b, c) = some (a, n, c); rw [show b = n from q])
        · cases ho
    obtain ⟨k1, k2, k3, k4, k5⟩ := z.ed e
    have eF2 : edF (L.map toL) U n k = some (k, m, c) := by rw [eF, hup, ho]; rfl
    have gn : (dl N d)[n]? = some (.int .i64 (d n)) := dl_get k1
    have gm : (dl N d)[m]? = some (.int .i64 (d m)) := dl_get k2
    have dn := hbd n k1
    have dm := hbd m k2
    have w : IntKind.i64.wrap (d m + (c : Int)) = d m + c := wrap64 (by omega) (by omega)
    simp only [boolK_true, dl_ad k2, rd1_mk hd5, gm, arith_geq, optK_mk, vc_leafmeshref10_Next_j3, pickV_true]
    have hfil : (edF (L.map toL) U n k).toList.filter (fun e => decide (d n = d e.2.1 + e.2.2)) = if d n = d m + c then [(k, m, c)] else [] := by
      rw [eF2]
      by_cases q : d n = d m + c
      · simp [q]
      · simp [q]
    by_cases c1 : 0 ≤ d m
    · rw [decide_eq_true c1]
      simp only [boolK_true, dl_ad k1, dl_ad k2, rd1_mk hd5, gm, gn, e1, addOff_ptr, e3, arith_add, w, eqV_int, negB_mk, Bool.false_bne, optK_mk, vc_leafmeshref10_Next_j4, pickV_true]
      cases c2 : (d m + (c : Int) == d n) with
      | true =>
        have c2 : d n = d m + c := (eq_of_beq c2).symm
        simp only [boolK_true]
        refine lit1_step rfl rfl fun b6 s6 hb6 h6 u6 => ?_
        have sub6 := u6.sub hb6
        refine (ac5.sub sub6).app2 (st5.trans sub6) (Sl.mk h6 rfl (by simp)) (by simp) ?_ fun v' s7 a7 s07 => ?_
        · have := nrP_len (G := L.map toL) (U := U) (d := d) (n := n) (k := k)
          rw [iz_len]; simp only [List.length_singleton]; omega
        · refine nxt v' s7 s07 ?_
          rw [nrP_succ, hfil, if_pos c2, iz_app]
          exact a7
      | false =>
        have c2 : ¬ d n = d m + c := by
          have : ¬ d m + (c : Int) = d n := by simpa using c2
          omega
        simp only [boolK_false]
        exact same (by rw [hfil, if_neg c2])
    · rw [decide_eq_false c1]
      simp only [boolK_false, vc_leafmeshref10_Next_j4, pickV_false, optK_mk]
      refine same ?_
      rw [hfil, if_neg ?_]
      intro q
      have h1 := isd.clo k m n c e.sym
      omega
end Go.AM
namespace Go.AM
open Go Go.Proofs
variable {K : AVal → Heap → Prop} {s s' s0 : Heap} {lv uv v y : AVal} {N : Nat} {G : List Lnk} {U : List Bool} {d : Nat → Int}
theorem dl_succ {k : Nat} : dl (k + 1) d = dl k d ++ [.int .i64 (d k)] := by
  unfold dl
  rw [List.range_succ, List.map_append, List.map_singleton]
theorem rParents_in {L : List RLk} {t : Nat} (hl : SlR 3 s lv (L.map rwR)) (hu : Sl s uv (U.map AVal.bool)) (hv : vld (N : Int) L U) (ht : t < N)
    (hK : ∀ v s' d, IsDist N (L.map toL) U t d → (∀ m, m < N → -1 ≤ d m ∧ d m ≤ 3000000) → Sl s' v (dl N (parL (L.map toL) U d)) → Sub s s' → K v s') : wpCall Try.prog XX 59 [.int .i64 (N : Int), lv, uv, .int .i64 (t : Int)] K s := by
  have hlm : L.length ≤ 9223372036854775807 := by have := hv.2.2.1; omega
  obtain ⟨z, hG, hN, hC, hrw⟩ := vld.gok hv
  refine vc_leafmeshref10_Parents_in (rDist_in hl hlm hu fun dv s2 sub2 _ hdist => ?_)
  obtain ⟨d, db, isd, hbd, rfl, hdb, hd⟩ := hdist N t hv rfl ht rfl
  refine ⟨fun ys x m => ∃ (k : Nat) (lv : AVal), ys = [lv, .int .i64 k] ∧ k ≤ N ∧ m = N - k ∧ Sub s2 x ∧ Acc 3 s2 x lv (dl k (parL (L.map toL) U d)), ⟨_, 0, .nilslc, rfl, by omega, rfl, .refl s2, .inl ⟨rfl, rfl⟩⟩, ?_⟩
  rintro f x m ⟨k, ov, hy, hk, rfl, st, ac⟩
  simp only [List.cons.injEq, and_true] at hy
  rw [hy.1, hy.2]
  have stt := sub2.trans st
  have len2 : lenOfA (.slc db 0 N (some N) 1) = some N := rfl
  simp only [vc_leafmeshref10_Parents_l0, len2, arith_lss, optK_mk]
  refine boolK_mk (fun hlt => ?_) (fun hge => ?_)
  rotate_left
  · have hge : k = N := by have := of_decide_eq_false hge; omega
    rw [hge] at ac
    exact hK _ x d isd hbd ac.sl stt
  have hlt : k < N := by have := of_decide_eq_true hlt; omega
  refine rNext_in (hl.sub stt) (hu.sub stt) hv hlt ht fun nv s6 d' isd' ac' sub6 => ?_
  have hdd : nearL (L.map toL) U d' k = nearL (L.map toL) U d k := nearL_congr z fun n hn => dist_uniq z isd' isd hn
  have hne : nrL (L.map toL) U d' k = (nearL (L.map toL) U d k).map (·.1) := by unfold nrL; rw [hdd]
  have st6 := st.trans sub6
  have stt6 := stt.trans sub6
  have ac6 := ac.sub sub6
  have nxt : ∀ (ov' : AVal) (s7 : Heap), Sub s2 s7 → Acc 3 s2 s7 ov' (dl (k + 1) (parL (L.map toL) U d)) → vc_leafmeshref10_Parents_j1 XX ov' (.int .i64 (k : Int)) (fun ys x m => ∃ (k : Nat) (lv : AVal), ys = [lv, .int .i64 k] ∧ k ≤ N ∧ m = N - k ∧ Sub s2 x ∧ Acc 3 s2 x lv (dl k (parL (L.map toL) U d))) (N - k) K s7 := fun ov' s7 h1 h2 => by
    simp only [vc_leafmeshref10_Parents_j1, arith_add, optK_mk]
    rw [wrap64 (by omega) (by omega)]
    exact ⟨_, by omega, k + 1, ov', rfl, by omega, rfl, h1, h2⟩
  have put : ∀ w : Int, w = parL (L.map toL) U d k → optK (fillR (repl 1 [(.int .i64 0)]) [(0, 1, (.int .i64 w))]) fun c_11 => allOne c_11 = true ∧ newK 3 c_11 (fun b_12 s_13 =>
      appK 3 1 ov (.slc b_12 0 1 (some 1) 1) (fun v_14 s_15 =>
      vc_leafmeshref10_Parents_j1 XX v_14 (.int .i64 (k : Int)) (fun ys x m => ∃ (k : Nat) (lv : AVal), ys = [lv, .int .i64 k] ∧ k ≤ N ∧ m = N - k ∧ Sub s2 x ∧ Acc 3 s2 x lv (dl k (parL (L.map toL) U d))) (N - k) K s_15) s_13) s6 := fun w hw => by
    refine lit1_step rfl rfl fun b7 s7 hb7 h7 u7 => ?_
    have sub7 := u7.sub hb7
    refine (ac6.sub sub7).app2 (st6.trans sub7) (Sl.mk h7 rfl (by simp)) (by simp) ?_ fun v' s8 a8 s08 => ?_
    · rw [dl_len]; simp only [List.length_singleton]; omega
    · refine nxt v' s8 s08 ?_
      rw [dl_succ, ← hw]
      exact a8
  simp only [ac'.sl.len, iz_len, eqV_int, negB_mk, Bool.true_bne, Bool.false_bne, optK_mk]
  cases hcase : nearL (L.map toL) U d k with
  | nil =>
    have e0 : nrL (L.map toL) U d' k = [] := by rw [hne, hcase]; rfl
    rw [e0]
    simp only [List.length_nil]
    refine put (-1) ?_
    unfold parL; rw [hcase]
  | cons e r =>
    have e0 : nrL (L.map toL) U d' k = e.1 :: r.map (·.1) := by rw [hne, hcase]; rfl
    obtain ⟨p, g1, g2⟩ := ac'.sl.get (i := 0) (by rw [iz_len, e0]; simp)
    rw [e0] at g2
    have g1 : iaddrS 1 nv (.int .i64 0) = some p := g1
    have g2 : rd1 s6 p = some (.int .i64 (e.1 : Int)) := g2
    have e5 : (((nrL (L.map toL) U d' k).length : Int) == 0) = false := by
      rw [e0, List.length_cons]
      have : ¬ (((r.map (·.1)).length + 1 : Nat) : Int) = 0 := by omega
      simpa using this
    rw [e5]
    simp only [boolK_false, g1, g2, optK_mk]
    refine put _ ?_
    unfold parL; rw [hcase]
theorem app_pre {b : Nat} {w : AVal} {l : List AVal} (h : s b = some (false, .cells 3 [w])) (hy : Sl s y l) (hl : l.length ≤ 16000000) (hK : ∀ v' s', Sl s' v' (w :: l) → Sub s s' → (∀ b' o n c, v' = .slc b' o n c 1 → b' = b ∨ s b' = none) → K v' s') : appK 3 1 (.slc b 0 1 (some 1) 1) y K s := by
  have h1 : Sl s (.slc b 0 1 (some 1) 1) [w] := Sl.mk h rfl (by simp)
  by_cases q : l = []
  · subst q
    refine optK_of hy.rd (optK_of hy.len ⟨rfl, ?_⟩)
    exact ⟨Nat.le_refl _, hK _ _ h1 (.refl s) fun b' o n c e => by cases e; exact .inl rfl⟩
  · refine app_full (l := [w]) h1 hy q ?_ (by simp only [List.length_singleton]; omega) fun d s' hd h2 u2 => hK _ _ (Sl.mk h2 (by simp [Nat.add_comm]) (by simp)) (u2.sub hd) fun b' o n c e => by cases e; exact .inr hd
    have : 0 < l.length := List.length_pos_iff.2 q
    simp only [List.length_singleton]; omega
theorem rPath_in {L : List RLk} {r n : Nat} (hl : SlR 3 s lv (L.map rwR)) (hu : Sl s uv (U.map AVal.bool)) (hv : vld (N : Int) L U) (hr : r < N) (hn : n < N)
    (hK : ∀ v s' d es, IsDist N (L.map toL) U r d → Sl s' v (iz es) → es.length ≤ 3000000 → (∀ j, j ∈ es ↔ OnP (L.map toL) (parL (L.map toL) U d) n j) → Sub s s' → (∀ b o k c, v = .slc b o k c 1 → s b = none) → K v s') : wpCall Try.prog XX 45 [.int .i64 (N : Int), lv, uv, .int .i64 (r : Int), .int .i64 (n : Int)] K s := by
  have hlm : L.length ≤ 9223372036854775807 := by have := hv.2.2.1; omega
  obtain ⟨z, hG, hN, hC, hrw⟩ := vld.gok hv
  refine vc_leafmeshref10_Path_in (rvalid_in hl hlm hu fun s1 b sub1 hb => ?_)
  simp only [unary_not, optK_mk]
  rw [hb.2 ⟨hv, by omega, by omega⟩]
  simp only [Bool.not_true, boolK_false]
  refine rParents_in (hl.sub sub1) (hu.sub sub1) hv hr fun pv s2 d isd hbd hp sub2 => ?_
  have s02 := sub1.trans sub2
  refine ⟨fun ys x m => ∃ (k : Nat) (ov : AVal) (l : List Nat), ys = [ov, .int .i64 k] ∧ k < N ∧ m = (d k).toNat ∧ Sub s2 x ∧ Sl x ov (iz l) ∧ (∀ j, OnP (L.map toL) (parL (L.map toL) U d) n j ↔ j ∈ l ∨ OnP (L.map toL) (parL (L.map toL) U d) k j) ∧ l.length + (d k).toNat ≤ (d n).toNat ∧ (∀ b o n c, ov = .slc b o n c 1 → s b = none), ⟨_, n, .nilslc, [], rfl, hn, rfl, .refl s2, .inl ⟨rfl, rfl⟩, fun j => by simp, by simp, fun b o n c e => by cases e⟩, ?_⟩
  rintro f x m ⟨k, ov, l, hy, hk, rfl, st, ho, hon, hln, hfr⟩
  simp only [List.cons.injEq, and_true] at hy
  rw [hy.1, hy.2]
  have hpx := hp.sub st
  have stt := s02.trans st
  obtain ⟨p, g1, g2⟩ := hpx.get (i := k) (by rw [dl_len]; exact hk)
  rw [dl_get hk] at g2
  have hpos : decide ((0 : Int) < (N : Int)) = true := decide_eq_true (by omega)
  simp only [vc_leafmeshref10_Path_l0, hpx.len, dl_len, arith_gtr, hpos, boolK_true, g1, g2, arith_geq, optK_mk, vc_leafmeshref10_Path_j1, pickV_true]
  refine boolK_mk (fun h => ?_) (fun h => ?_)
  rotate_left
  · have h := of_decide_eq_false h
    refine hK _ x d l isd ho (by have := hbd n hn; omega) (fun j => ?_) stt hfr
    rw [hon j]
    refine ⟨.inl, fun q => q.elim id fun q => ?_⟩
    obtain ⟨i, hi⟩ := q.no
    rw [hi] at h
    omega
  have h := of_decide_eq_true h
  obtain ⟨i, hi⟩ : ∃ i : Nat, parL (L.map toL) U d k = (i : Int) := ⟨(parL (L.map toL) U d k).toNat, by omega⟩
  rw [hi] at g2 ⊢
  obtain ⟨m, c, e, hfar, _, hm, hdm, hdk, hc⟩ := par_some z isd hi
  refine lit1_step rfl rfl fun b3 s3 hb3 h3 u3 => ?_
  have sub3 := u3.sub hb3
  refine app_pre h3 (ho.sub sub3) ?_ fun ov' s4 ho4 sub4 hb4 => ?_
  · rw [iz_len]
    have := hbd n hn
    omega
  have st4 := st.trans (sub3.trans sub4)
  have stt4 := s02.trans st4
  obtain ⟨p', g1', g2'⟩ := (hp.sub st4).get (i := k) (by rw [dl_len]; exact hk)
  rw [dl_get hk, hi] at g2'
  rw [g1] at g1'
  cases g1'
  have hi2 : i < (L.map toL).length := par_lt z isd hi
  obtain ⟨x, hx⟩ : ∃ x, (L.map toL)[i]? = some x := ⟨_, List.getElem?_eq_getElem hi2⟩
  obtain ⟨a, b, c2⟩ := x
  have hl' := hl
  rw [hrw] at hl'
  obtain ⟨pb, po, e1, e2, _⟩ := (hl'.sub stt4).get (i := i) (r := lkR (a, b, c2)) (by rw [List.getElem?_map, hx]; rfl)
  simp only [g2', e1, e2, optK_mk]
  refine rOther_in fun s5 sub5 => ?_
  have ho2 : oth (a, b, c2) k = some m := by
    have hkm := (z.ed e).2.2.1
    rcases e.2 with q | q
    · rw [hx] at q; cases q; exact if_pos rfl
    · rw [hx] at q; cases q
      show (if m = k then _ else if k = k then some m else none) = _
      rw [if_neg (Ne.symm hkm), if_pos rfl]
  have x0 : extractA (othV (some m)) 0 = some (.int .i64 (m : Int)) := rfl
  have x1 : extractA (othV (some m)) 1 = some (.bool true) := rfl
  rw [ho2]
  simp only [x0, x1, optK_mk]
  refine ⟨_, ?_, m, ov', i :: l, rfl, hm, rfl, st4.trans sub5, ho4.sub sub5, fun j => ?_, ?_, fun b o n c e => ?_⟩
  · omega
  · rw [hon j, OnP.iff hi, hfar, List.mem_cons]
    constructor
    · rintro (q | q | q)
      · exact .inl (.inr q)
      · exact .inl (.inl q)
      · exact .inr q
    · rintro ((q | q) | q)
      · exact .inr (.inl q)
      · exact .inl q
      · exact .inr (.inr q)
  · rw [List.length_cons]
    omega
  · have w : ∀ {b}, x b = none → s b = none := fun {b} h => by
      cases q : s b with
      | none => rfl
      | some y => rw [stt _ _ q] at h; cases h
    rcases hb4 b o n c e with q | q
    · rw [q]; exact w hb3
    · have : x b = none := by
        cases q2 : x b with
        | none => rfl
        | some y => rw [sub3 _ _ q2] at q; cases q
      exact w this
end Go.AM
namespace Go.AM
open Go Go.Proofs
variable {K : AVal → Heap → Prop} {s s' s0 t : Heap} {U : List Bool} {L : List RLk} {lnv upv v dv mv : AVal} {lf sp sf g : Int} {N r : Nat} {d ds : Nat → Int} {es : List Int}
/-! ### the reference for trees: valid networks, distances, roots, members -/
theorem rValid15_in (hn : NetR s L U lnv upv) (hK : ∀ s' (r : Bool), Sub s s' → (r = true ↔ netOk lf sp L U sf) → K (.bool r) s') : wpCall Try.prog XX 39 [.agg (netC lf sp lnv upv), .int .i64 sf] K s := by
  refine vc_leafmeshref15_Valid_in (hn.box fun b s1 hb h1 u1 => ?_)
  have sub1 := u1.sub hb
  have no : ¬ netOk lf sp L U sf → K (.bool false) s1 := fun q => hK s1 false sub1 ⟨(fun h => by cases h), fun h => absurd h q⟩
  simp only [addOff_ptr, Nat.zero_add, net0 h1, arith_geq, optK_mk]
  by_cases c1 : 1 ≤ lf
  rotate_left
  · rw [decide_eq_false c1]
    simp only [boolK_false, vc_leafmeshref15_Valid_j0, vc_leafmeshref15_Valid_j1, vc_leafmeshref15_Valid_j2, vc_leafmeshref15_Valid_j3, pickV_false, optK_mk]
    exact no fun h => c1 h.1
  rw [decide_eq_true c1]
  simp only [boolK_true, addOff_ptr, Nat.zero_add, net1 h1, arith_geq, optK_mk]
  by_cases c2 : 0 ≤ sp
  rotate_left
  · rw [decide_eq_false c2]
    simp only [boolK_false, vc_leafmeshref15_Valid_j0, vc_leafmeshref15_Valid_j1, vc_leafmeshref15_Valid_j2, vc_leafmeshref15_Valid_j3, pickV_true, pickV_false, optK_mk]
    exact no fun h => c2 h.2.1
  rw [decide_eq_true c2]
  simp only [boolK_true, vc_leafmeshref15_Valid_j0, pickV_true, addOff_ptr, Nat.zero_add, net0 h1, arith_leq, optK_mk]
  by_cases c3 : lf ≤ 32
  rotate_left
  · rw [decide_eq_false c3]
    simp only [boolK_false, vc_leafmeshref15_Valid_j1, vc_leafmeshref15_Valid_j2, vc_leafmeshref15_Valid_j3, pickV_true, pickV_false, optK_mk]
    exact no fun h => by have := h.2.2.1.2.1; omega
  rw [decide_eq_true c3]
  simp only [boolK_true, vc_leafmeshref15_Valid_j1, pickV_true, addOff_ptr, Nat.zero_add, net1 h1, arith_lss, optK_mk]
  by_cases c4 : sp < 32
  rotate_left
  · rw [decide_eq_false c4]
    simp only [boolK_false, vc_leafmeshref15_Valid_j2, vc_leafmeshref15_Valid_j3, pickV_true, pickV_false, optK_mk]
    exact no fun h => by have := h.2.2.1.2.1; omega
  rw [decide_eq_true c4]
  simp only [boolK_true, vc_leafmeshref15_Valid_j2, pickV_true, addOff_ptr, Nat.zero_add, net0 h1, net1 h1, net2 h1, net3 h1, arith_add, optK_mk]
  rw [wrap64 (by omega) (by omega)]
  refine rvalid_in (hn.l.sub sub1) (by have := hn.len.1; omega) (hn.u.sub sub1) fun s2 r sub2 hr => ?_
  simp only [vc_leafmeshref15_Valid_j3, pickV_true, optK_mk]
  exact hK s2 r (sub1.trans sub2) (hr.trans ⟨fun h => ⟨c1, c2, h.1, h.2⟩, fun h => h.2.2⟩)
theorem rdist15_in {x : Nat} (hn : NetR s L U lnv upv) (hv : vld (N : Int) L U) (hs : lf + sp = N) (hx : x < N) (hK : ∀ d b s', Sub s s' → IsDist N (L.map toL) U x d → (∀ m, m < N → -1 ≤ d m ∧ d m ≤ 3000000) → s' b = some (false, .cells 3 (dl N d)) → K (.slc b 0 N (some N) 1) s') : wpCall Try.prog XX 40 [.agg (netC lf sp lnv upv), .int .i64 (x : Int)] K s := by
  refine vc_leafmeshref15_dist_in (hn.box fun b s1 hb h1 u1 => ?_)
  have sub1 := u1.sub hb
  have hN := hv.2.1
  simp only [addOff_ptr, Nat.zero_add, net0 h1, net1 h1, net2 h1, net3 h1, arith_add, optK_mk]
  rw [hs, wrap64 (by omega) (by omega)]
  refine rDist_in (hn.l.sub sub1) (by have := hn.len.1; omega) (hn.u.sub sub1) fun v s2 sub2 _ hd => ?_
  obtain ⟨d, b2, g1, g2, rfl, _, g5⟩ := hd N x hv rfl hx rfl
  exact hK d b2 s2 (sub1.trans sub2) g1 g2 g5
/-- the distances from the node itself -/
theorem netOk.nat (q : netOk lf sp L U sf) : ∃ N x : Nat, lf + sp = N ∧ sf = x ∧ x < N ∧ vld (N : Int) L U ∧ N = (lf + sp).toNat ∧ x = sf.toNat := by
  have h1 := q.1
  have h2 := q.2.1
  have h3 := q.2.2.2
  refine ⟨(lf + sp).toNat, sf.toNat, by omega, by omega, by omega, ?_, rfl, rfl⟩
  have : (((lf + sp).toNat : Nat) : Int) = lf + sp := by omega
  rw [this]; exact q.2.2.1
theorem rdistS_in (hn : NetR s L U lnv upv) (q : netOk lf sp L U sf) (hK : ∀ b s' (N : Nat), lf + sp = N → N = (lf + sp).toNat → vld (N : Int) L U → IsDist N (L.map toL) U sf.toNat (dN lf sp L U sf) → Sub s s' → s' b = some (false, .cells 3 (dl N (dN lf sp L U sf))) → K (.slc b 0 N (some N) 1) s') : wpCall Try.prog XX 40 [.agg (netC lf sp lnv upv), .int .i64 sf] K s := by
  obtain ⟨N, x, e1, e2, hx, hv, e3, e4⟩ := q.nat
  have z := hv.gok.1
  rw [e2]
  refine rdist15_in hn hv e1 hx fun d b s' sub isd _ hd => ?_
  have isd2 : IsDist N (L.map toL) U sf.toNat (dN lf sp L U sf) := by
    unfold dN
    rw [← e3, ← e4]
    exact dF_is isd
  refine hK b s' N e1 e3 hv isd2 sub ?_
  rw [hd]
  congr 3
  unfold dl
  refine List.map_congr_left fun n hn => ?_
  rw [dist_uniq z isd (by rw [e4]; exact isd2) (List.mem_range.1 hn)]
theorem rRoot_in (hn : NetR s L U lnv upv) (hg : 0 ≤ g ∧ g < 4294967296) (hK : ∀ s', Sub s s' → K (rootV (rootN lf sp L U sf g)) s') : wpCall Try.prog XX 15 [.agg (netC lf sp lnv upv), .int .i64 sf, .int .u32 g] K s := by
  refine vc_leafmeshref15_Root_in (hn.box fun b s1 hb h1 u1 => ?_)
  have sub1 := u1.sub hb
  simp only [net4 h1, optK_mk]
  refine rValid15_in (hn.sub sub1) fun s2 r sub2 hr => ?_
  have sub02 := sub1.trans sub2
  have h2 := sub2 _ _ h1
  cases r with
  | false =>
    have q : ¬ netOk lf sp L U sf := fun h => by have := hr.2 h; cases this
    simp only [unary_not, Bool.not_false, boolK_true, optK_mk]
    have := hK s2 sub02
    unfold rootN at this
    rw [if_neg q] at this
    exact this
  | true =>
  have q : netOk lf sp L U sf := hr.1 rfl
  simp only [unary_not, Bool.not_true, boolK_false, net4 h2, optK_mk]
  refine rdistS_in (hn.sub sub02) q fun db s3 N e1 e2 hv isd sub3 hd => ?_
  have sub03 := sub02.trans sub3
  have h3 := sub3 _ _ h2
  have hN := hv.2.1
  have q1 := q.1
  have q2 := q.2.1
  simp only [addOff_ptr, Nat.zero_add, net0 h3, optK_mk]
  have lfn : ((lf.toNat : Nat) : Int) = lf := by omega
  refine ⟨fun ys t m => ∃ (i : Nat) (lv : AVal), ys = [lv, .int .i64 i] ∧ lf ≤ i ∧ i ≤ N ∧ m = N - i ∧ Sub s3 t ∧ Acc 3 s3 t lv (iz ((List.range i).filter fun (n : Nat) => decide (lf ≤ (n : Int) ∧ 0 ≤ dN lf sp L U sf n))), ⟨_, lf.toNat, _, by rw [lfn], by omega, by omega, rfl, .refl s3, ?_⟩, ?_⟩
  · have : (List.range lf.toNat).filter (fun (n : Nat) => decide (lf ≤ (n : Int) ∧ 0 ≤ dN lf sp L U sf n)) = [] := by
      refine List.filter_eq_nil_iff.2 fun n hn => ?_
      have := List.mem_range.1 hn
      simp only [decide_eq_true_eq]
      omega
    rw [this]; exact .inl ⟨rfl, rfl⟩
  rintro f t m ⟨i, lv, hy, hli, hi, rfl, st, ac⟩
  simp only [List.cons.injEq, and_true] at hy
  rw [hy.1, hy.2]
  have h4 := st _ _ h3
  have w0 : IntKind.i64.wrap ((N : Nat) : Int) = (N : Int) := wrap64 (by omega) (by omega)
  simp only [vc_leafmeshref15_Root_l0, addOff_ptr, Nat.zero_add, net0 h4, net1 h4, arith_add, e1, w0, arith_lss, optK_mk]
  refine boolK_mk (fun hlt => ?_) (fun hge => ?_)
  · have hlt : i < N := by have := of_decide_eq_true hlt; omega
    have nx : ∀ lv' t', Sub s3 t' → Acc 3 s3 t' lv' (iz ((List.range (i + 1)).filter fun (n : Nat) => decide (lf ≤ (n : Int) ∧ 0 ≤ dN lf sp L U sf n))) → vc_leafmeshref15_Root_j1 XX lv' (.int .i64 (i : Int)) (fun ys t m => ∃ (i : Nat) (lv : AVal), ys = [lv, .int .i64 i] ∧ lf ≤ i ∧ i ≤ N ∧ m = N - i ∧ Sub s3 t ∧ Acc 3 s3 t lv (iz ((List.range i).filter fun (n : Nat) => decide (lf ≤ (n : Int) ∧ 0 ≤ dN lf sp L U sf n)))) (N - i) K t' := fun lv' t' q1 q2 => by
      simp only [vc_leafmeshref15_Root_j1, arith_add, optK_mk]
      rw [wrap64 (by omega) (by omega)]
      exact ⟨_, by omega, i + 1, lv', rfl, by omega, by omega, rfl, q1, q2⟩
    have fl : (List.range (i + 1)).filter (fun (n : Nat) => decide (lf ≤ (n : Int) ∧ 0 ≤ dN lf sp L U sf n)) = (List.range i).filter (fun (n : Nat) => decide (lf ≤ (n : Int) ∧ 0 ≤ dN lf sp L U sf n)) ++ (if 0 ≤ dN lf sp L U sf i then [i] else []) := by
      rw [List.range_succ, List.filter_append]
      congr 1
      by_cases q : 0 ≤ dN lf sp L U sf i
      · simp [q, hli]
      · rw [if_neg q]; simp only [List.filter_cons, decide_eq_false (show ¬ (lf ≤ (i : Int) ∧ 0 ≤ dN lf sp L U sf i) from fun h => q h.2)]; rfl
    simp only [dl_ad hlt, rd1_mk (st _ _ hd), dl_get hlt, arith_geq, optK_mk]
    refine boolK_mk (fun c2 => ?_) (fun c2 => ?_)
    · have c2 := of_decide_eq_true c2
      refine lit1_step rfl rfl fun b5 t5 hb5 h5 u5 => ?_
      have sub5 := u5.sub hb5
      refine (ac.sub sub5).app2 (st.trans sub5) (Sl.mk h5 rfl (by simp)) (by simp) ?_ fun v' t6 a6 s6 => ?_
      · have := List.length_filter_le (fun n : Nat => decide (lf ≤ (n : Int) ∧ 0 ≤ dN lf sp L U sf n)) (List.range i)
        rw [List.length_range] at this
        rw [iz_len]; simp only [List.length_singleton]; omega
      · refine nx v' t6 s6 ?_
        rw [fl, if_pos c2, iz_app]; exact a6
    · have c2 := of_decide_eq_false c2
      refine nx lv t st ?_
      rw [fl, if_neg c2, List.append_nil]; exact ac
  · have hge : i = N := by have := of_decide_eq_false hge; omega
    subst hge
    have ac : Acc 3 s3 t lv (iz (spn lf i (dN lf sp L U sf))) := ac
    have hK := hK t (sub03.trans st)
    have er : rootN lf sp L U sf g = rootP lf i (dN lf sp L U sf) g := by
      unfold rootN
      rw [if_pos q, ← e2]
    rw [er] at hK
    generalize dN lf sp L U sf = d at *
    simp only [ac.sl.len, iz_len, eqV_int, negB_mk, Bool.true_bne, Bool.false_bne, optK_mk]
    have hlen := spn_len (lf := lf) (N := i) (d := d)
    cases c : (((spn lf i d).length : Int) == 0) with
    | true =>
      have c : spn lf i d = [] := List.eq_nil_of_length_eq_zero (by have := eq_of_beq c; omega)
      have e : rootP lf i d g = none := by unfold rootP; rw [c]; rfl
      rw [e] at hK
      exact hK
    | false =>
      have c : 0 < (spn lf i d).length := by
        have : ¬ ((spn lf i d).length : Int) = 0 := by simpa using c
        omega
      have w1 : convI .i64 (.int .u32 g) = some (.int .i64 g) := by
        show some (AVal.int .i64 (wrapK .i64 g)) = _
        rw [show wrapK .i64 g = g by simp only [wrapK]; rw [wrapM_eq _ _ _ (by omega) (by omega)]; split <;> omega]
      have w3 : arithV .rem (.int .i64 g) (.int .i64 ((spn lf i d).length : Int)) = some (.int .i64 ((g.toNat % (spn lf i d).length : Nat) : Int)) := by
        rw [arith_rem (by omega)]
        congr 2
        obtain ⟨k, rfl⟩ : ∃ k : Nat, g = k := ⟨g.toNat, by omega⟩
        rfl
      have hm : g.toNat % (spn lf i d).length < (spn lf i d).length := Nat.mod_lt _ c
      obtain ⟨p, g1, g2⟩ := ac.sl.get (i := g.toNat % (spn lf i d).length) (by rw [iz_len]; exact hm)
      rw [iz_get, List.getElem?_eq_getElem hm] at g2
      have e : rootP lf i d g = some ((spn lf i d)[g.toNat % (spn lf i d).length]) := by unfold rootP; rw [List.getElem?_eq_getElem hm]
      simp only [boolK_false, w1, w3, g1, g2, Option.map_some, optK_mk]
      rw [e] at hK
      exact hK
theorem rmember_in {n : Nat} (hn : NetR s L U lnv upv) (q : netOk lf sp L U sf) (hmv : Sl s mv (izs es)) (hes : es.length ≤ 60) (hnN : (n : Int) < lf + sp) (hK : ∀ s' (r : Bool), Sub s s' → (r = true ↔ Mem es lf (dN lf sp L U sf) n) → K (.bool r) s') : wpCall Try.prog XX 44 [.agg (netC lf sp lnv upv), .int .i64 sf, mv, .int .i64 (n : Int)] K s := by
  refine vc_leafmeshref15_member_in (hn.box fun b s1 hb h1 u1 => ?_)
  have sub1 := u1.sub hb
  have no : ∀ {t}, Sub s t → ¬ Mem es lf (dN lf sp L U sf) n → K (.bool false) t := fun {t} h q => hK t false h ⟨(fun h => by cases h), fun h => absurd h q⟩
  have c0 : decide ((n : Int) < 0) = false := decide_eq_false (by omega)
  simp only [arith_lss, c0, boolK_false, addOff_ptr, Nat.zero_add, net0 h1, arith_geq, optK_mk]
  by_cases c1 : lf ≤ (n : Int)
  · rw [decide_eq_true c1]
    simp only [vc_leafmeshref15_member_j0, vc_leafmeshref15_member_j1, pickV_true, pickV_false, boolK_true, optK_mk]
    exact no sub1 fun h => by have := h.2.1; omega
  rw [decide_eq_false c1]
  simp only [vc_leafmeshref15_member_j0, pickV_false, boolK_false, net4 h1, optK_mk]
  refine rdistS_in (hn.sub sub1) q fun db s3 N e1 e2 hv isd sub3 hd => ?_
  have sub03 := sub1.trans sub3
  have hlt : n < N := by omega
  simp only [dl_ad hlt, rd1_mk hd, dl_get hlt, arith_lss, optK_mk]
  by_cases c2 : dN lf sp L U sf n < 0
  · rw [decide_eq_true c2]
    simp only [vc_leafmeshref15_member_j1, pickV_false, boolK_true, optK_mk]
    exact no sub03 fun h => by have := h.2.2; omega
  rw [decide_eq_false c2]
  simp only [vc_leafmeshref15_member_j1, pickV_false, boolK_false, optK_mk]
  refine ⟨fun ys t m => ∃ i : Nat, ys = [.int .i64 i] ∧ i ≤ es.length ∧ m = es.length - i ∧ Sub s t ∧ ((n : Int) ∈ es ↔ (n : Int) ∈ es.drop i), ⟨_, 0, rfl, by omega, rfl, sub03, by simp⟩, ?_⟩
  rintro f t m ⟨i, hy, hi, rfl, st, hq⟩
  simp only [List.cons.injEq, and_true] at hy
  rw [hy]
  have hmt := hmv.sub st
  have hlen : (izs es).length = es.length := by unfold izs; simp
  simp only [vc_leafmeshref15_member_l2, hmt.len, hlen, arith_lss, optK_mk]
  refine boolK_mk (fun hlt => ?_) (fun hge => ?_)
  · have hlt : i < es.length := by have := of_decide_eq_true hlt; omega
    obtain ⟨p, g1, g2⟩ := hmt.get (i := i) (by rw [hlen]; exact hlt)
    have g3 : (izs es)[i]? = some (.int .i64 es[i]) := by unfold izs; simp [hlt]
    rw [g3] at g2
    simp only [g1, g2, eqV_int, negB_mk, Bool.false_bne, optK_mk]
    cases c : (es[i] == (n : Int)) with
    | true =>
      have c := eq_of_beq c
      simp only [boolK_true]
      refine hK t true st ⟨fun _ => ⟨?_, by omega, by omega⟩, fun _ => rfl⟩
      rw [← c]; exact List.getElem_mem hlt
    | false =>
      have c : ¬ es[i] = (n : Int) := by simpa using c
      simp only [boolK_false, arith_add, optK_mk]
      rw [wrap64 (by omega) (by omega)]
      refine ⟨_, by omega, i + 1, rfl, by omega, rfl, st, ?_⟩
      rw [hq, List.drop_eq_getElem_cons hlt, List.mem_cons]
      exact ⟨fun h => h.elim (fun h => absurd h.symm c) id, .inr⟩
  · have hge : i = es.length := by have := of_decide_eq_false hge; omega
    subst hge
    refine no st fun h => ?_
    have := hq.1 h.1
    rw [List.drop_length] at this
    cases this
end Go.AM
namespace Go.AM
open Go Go.Proofs
variable {K : AVal → Heap → Prop} {s s' s0 t : Heap} {U : List Bool} {L : List RLk} {lnv upv v dv mv : AVal} {lf sp sf g : Int} {N r : Nat} {d ds : Nat → Int} {es : List Int}
/-! ### the reference for trees: links -/
def bl (n : Nat) (f : Nat → Bool) : List AVal := (List.range n).map fun i => .bool (f i)
theorem bl_len {n : Nat} {f : Nat → Bool} : (bl n f).length = n := by unfold bl; simp
theorem bl_get {n i : Nat} {f : Nat → Bool} (h : i < n) : (bl n f)[i]? = some (.bool (f i)) := by unfold bl; simp [h]
theorem bl_set {n i : Nat} {f : Nat → Bool} (h : i < n) : (bl n f).set i (.bool true) = bl n fun k => f k || k == i := by
  refine List.ext_getElem? fun k => ?_
  rw [List.getElem?_set]
  by_cases e : i = k
  · subst e
    rw [if_pos rfl, bl_len, if_pos h, bl_get h]; simp
  · rw [if_neg e]
    by_cases hk : k < n
    · rw [bl_get hk, bl_get hk]
      have : (k == i) = false := by simpa using Ne.symm e
      rw [this, Bool.or_false]
    · rw [List.getElem?_eq_none (by rw [bl_len]; omega), List.getElem?_eq_none (by rw [bl_len]; omega)]
theorem bl_zero {n : Nat} : repl n [AVal.bool false] = bl n fun _ => false := by
  rw [repl_one]
  unfold bl
  refine List.ext_getElem? fun i => ?_
  by_cases hi : i < n
  · simp [hi]
  · simp [hi]
theorem bl_ad {db n m : Nat} (hn : n < m) : iaddrS 1 (.slc db 0 m (some m) 1) (.int .i64 (n : Int)) = some (.ptr db n) := dl_ad hn
open Classical in
theorem treeL_filter {G : List Lnk} {p : Nat → Int} {M : Nat → Prop} {f : Nat → Bool} (h : ∀ j, f j = true ↔ InT G p M j) : (List.range G.length).filter f = treeL G p M := by
  unfold treeL
  exact List.filter_congr fun j _ => Bool.eq_iff_iff.2 ((h j).trans decide_eq_true_iff.symm)
theorem rEdges_in (hn : NetR s L U lnv upv) (hg : 0 ≤ g ∧ g < 4294967296) (hmv : Sl s mv (izs es)) (hes : es.length ≤ 60) (hK : ∀ v s', Sl s' v (iz (edgesN lf sp L U sf g es)) → Sub s s' → K v s') : wpCall Try.prog XX 18 [.agg (netC lf sp lnv upv), .int .i64 sf, .int .u32 g, mv] K s := by
  refine vc_leafmeshref15_Edges_in (hn.box fun b s1 hb h1 u1 => ?_)
  have sub1 := u1.sub hb
  simp only [net4 h1, optK_mk]
  refine rRoot_in (hn.sub sub1) hg fun s2 sub2 => ?_
  have sub02 := sub1.trans sub2
  have h2 := sub2 _ _ h1
  cases hr : rootN lf sp L U sf g with
  | none =>
    show K .nilslc s2
    refine hK _ _ ?_ sub02
    unfold edgesN
    rw [hr]; exact .inl ⟨rfl, rfl⟩
  | some r =>
  obtain ⟨q, hm⟩ := rootN_some hr
  obtain ⟨N, x, e1, e2, hx, hv, e3, e4⟩ := q.nat
  obtain ⟨z, hG, hN, hC, hrw⟩ := vld.gok hv
  rw [← e3] at hm
  obtain ⟨rN, _, _⟩ := mem_spn.1 hm
  have hlen : L.length ≤ 128 := by rw [List.length_map] at hG; exact hG
  have q1 := q.1
  have q2 := q.2.1
  have x0 : extractA (rootV (some r)) 0 = some (.int .i64 (r : Int)) := rfl
  have x1 : extractA (rootV (some r)) 1 = some (.bool true) := rfl
  have ll := (hn.l.sub sub02).len
  rw [List.length_map] at ll
  simp only [x0, x1, unary_not, Bool.not_true, boolK_false, addOff_ptr, Nat.zero_add, net2 h2, ll, nat?_mk, optK_mk]
  refine ⟨⟨Nat.le_refl _, by omega⟩, new_step fun ib s3 hib h3 u3 => ?_⟩
  have sub3 := u3.sub hib
  have sub03 := sub02.trans sub3
  have hib0 : s ib = none := by
    cases q : s ib with
    | none => rfl
    | some y => rw [sub02 _ _ q] at hib; cases hib
  have hibb : ib ≠ b := fun q => by rw [q, h2] at hib; cases hib
  rw [bl_zero] at h3
  -- the links of the paths to members below n
  refine ⟨fun ys t m => ∃ (n : Nat) (f : Nat → Bool), ys = [.int .i64 n] ∧ (n : Int) ≤ lf ∧ m = lf.toNat - n ∧ Sub s t ∧ t b = some (false, .cells 25 (netC lf sp lnv upv)) ∧ t ib = some (false, .cells 4 (bl L.length f)) ∧ (∀ j, f j = true ↔ InT (L.map toL) (pF N (L.map toL) U r) (fun m => m < n ∧ Mem es lf (dN lf sp L U sf) m) j), ⟨_, 0, _, rfl, by omega, rfl, sub03, sub3 _ _ h2, h3, fun j => ⟨(fun h => by cases h), fun ⟨m, h, _⟩ => by have := h.1; omega⟩⟩, ?_⟩
  rintro fe t m ⟨n, f, hy, hnl, rfl, st, hbt, hit, hf⟩
  simp only [List.cons.injEq, and_true] at hy
  rw [hy]
  simp only [vc_leafmeshref15_Edges_l0, addOff_ptr, Nat.zero_add, net0 hbt, arith_lss, optK_mk]
  refine boolK_mk (fun hlt => ?_) (fun hge => ?_)
  · have hlt : (n : Int) < lf := of_decide_eq_true hlt
    have nx : ∀ (f' : Nat → Bool) (t' : Heap), Sub s t' → t' b = some (false, .cells 25 (netC lf sp lnv upv)) → t' ib = some (false, .cells 4 (bl L.length f')) → (∀ j, f' j = true ↔ InT (L.map toL) (pF N (L.map toL) U r) (fun m => m < n + 1 ∧ Mem es lf (dN lf sp L U sf) m) j) →
        vc_leafmeshref15_Edges_j1 XX (.int .i64 (n : Int)) (fun ys t m => ∃ (n : Nat) (f : Nat → Bool), ys = [.int .i64 n] ∧ (n : Int) ≤ lf ∧ m = lf.toNat - n ∧ Sub s t ∧ t b = some (false, .cells 25 (netC lf sp lnv upv)) ∧ t ib = some (false, .cells 4 (bl L.length f)) ∧ (∀ j, f j = true ↔ InT (L.map toL) (pF N (L.map toL) U r) (fun m => m < n ∧ Mem es lf (dN lf sp L U sf) m) j)) (lf.toNat - n) K t' := fun f' t' k1 k2 k3 k4 => by
      simp only [vc_leafmeshref15_Edges_j1, arith_add, optK_mk]
      rw [wrap64 (by omega) (by omega)]
      exact ⟨_, by omega, n + 1, f', rfl, by omega, rfl, k1, k2, k3, k4⟩
    simp only [net4 hbt, optK_mk]
    refine rmember_in (hn.sub st) q (hmv.sub st) hes (by omega) fun s5 r5 sub5 hr5 => ?_
    have st5 := st.trans sub5
    have hb5 := sub5 _ _ hbt
    have hi5 := sub5 _ _ hit
    cases r5 with
    | false =>
      have hno : ¬ Mem es lf (dN lf sp L U sf) n := fun h => by have := hr5.2 h; cases this
      simp only [unary_not, Bool.not_false, boolK_true, optK_mk]
      refine nx f s5 st5 hb5 hi5 fun j => (hf j).trans ⟨fun ⟨m, h, ho⟩ => ⟨m, ⟨by omega, h.2⟩, ho⟩, fun ⟨m, h, ho⟩ => ⟨m, ⟨?_, h.2⟩, ho⟩⟩
      have : m ≠ n := fun e => hno (e ▸ h.2)
      omega
    | true =>
    have hyes := hr5.1 rfl
    have w0 : IntKind.i64.wrap ((N : Nat) : Int) = (N : Int) := wrap64 (by omega) (by omega)
    simp only [unary_not, Bool.not_true, boolK_false, addOff_ptr, Nat.zero_add, net0 hb5, net1 hb5, net2 hb5, net3 hb5, arith_add, e1, w0, optK_mk]
    refine rPath_in ((hn.sub st5).l) ((hn.sub st5).u) hv rN (by omega) fun pv s6 d ps isd hp hpl hon sub6 hpf => ?_
    rw [pF_eq z isd] at hon
    have st6 := st5.trans sub6
    have hit6 := sub6 _ _ hi5
    have hpb : ∀ b o n c, pv = .slc b o n c 1 → iz ps ≠ [] → ¬ (fun b => b = ib) b := fun b o n c e _ q => by
      have := hpf b o n c e
      rw [q, hi5] at this; cases this
    refine ⟨fun ys t m => ∃ (k : Nat) (f2 : Nat → Bool), ys = [.int .i64 k] ∧ k ≤ ps.length ∧ m = ps.length - k ∧ KeepBut (fun b => b = ib) s6 t ∧ t ib = some (false, .cells 4 (bl L.length f2)) ∧ (∀ j, f2 j = true ↔ f j = true ∨ j ∈ ps.take k), ⟨_, 0, f, rfl, by omega, rfl, .refl _ s6, hit6, fun j => by simp⟩, ?_⟩
    clear hb5 hi5
    rintro fe t7 m ⟨k, f2, hy, hk, rfl, kp, hi7, hf2⟩
    simp only [List.cons.injEq, and_true] at hy
    rw [hy]
    have hp7 := hp.keep kp hpb
    have st7 : Sub s t7 := fun i x hi => kp i x (st6 i x hi) fun q => by rw [q, hib0] at hi; cases hi
    simp only [vc_leafmeshref15_Edges_l2, hp7.len, iz_len, arith_lss, optK_mk]
    refine boolK_mk (fun hk2 => ?_) (fun hk2 => ?_)
    · have hk2 : k < ps.length := by have := of_decide_eq_true hk2; omega
      obtain ⟨p, g1, g2⟩ := hp7.get (i := k) (by rw [iz_len]; exact hk2)
      rw [iz_get, List.getElem?_eq_getElem hk2, Option.map_some] at g2
      have hj : ps[k] < L.length := by
        have := (hon ps[k]).1 (List.getElem_mem hk2)
        rw [← pF_eq z isd] at this
        have := this.lt z isd
        rw [List.length_map] at this
        exact this
      simp only [g1, g2, bl_ad hj, optK_mk]
      refine wr1_step hi7 (by rw [bl_len]; exact hj) rfl fun t8 h8 u8 => ?_
      rw [bl_set hj] at h8
      simp only [arith_add, optK_mk]
      rw [wrap64 (by omega) (by omega)]
      refine ⟨_, by omega, k + 1, _, rfl, by omega, rfl, kp.trans (u8.keep rfl), h8, fun j => ?_⟩
      rw [Bool.or_eq_true, hf2 j, List.take_add_one, List.getElem?_eq_getElem hk2, List.mem_append]
      simp only [Option.toList_some, List.mem_singleton, beq_iff_eq]
      constructor
      · rintro ((h | h) | h)
        · exact .inl h
        · exact .inr (.inl h)
        · exact .inr (.inr h)
      · rintro (h | h | h)
        · exact .inl (.inl h)
        · exact .inl (.inr h)
        · exact .inr h
    · have hk2 : k = ps.length := by have := of_decide_eq_false hk2; omega
      subst hk2
      rw [List.take_length] at hf2
      refine nx f2 t7 st7 (kp _ _ (sub6 _ _ (sub5 _ _ hbt)) fun q => hibb q.symm) hi7 fun j => ?_
      rw [hf2 j, hf j, hon j]
      constructor
      · rintro (⟨m, h, ho⟩ | h)
        · exact ⟨m, ⟨by omega, h.2⟩, ho⟩
        · exact ⟨n, ⟨by omega, hyes⟩, h⟩
      · rintro ⟨m, h, ho⟩
        by_cases e : m = n
        · rw [e] at ho; exact .inr ho
        · exact .inl ⟨m, ⟨by omega, h.2⟩, ho⟩
  · have hge : (n : Int) = lf := by have := of_decide_eq_false hge; omega
    refine ⟨fun ys x m => ∃ (k : Nat) (ov : AVal), ys = [ov, .int .i64 k] ∧ k ≤ L.length ∧ m = L.length - k ∧ Sub t x ∧ Acc 3 t x ov (iz ((List.range k).filter f)), ⟨_, 0, .nilslc, rfl, by omega, rfl, .refl t, .inl ⟨rfl, rfl⟩⟩, ?_⟩
    rintro fe x m ⟨k, ov, hy, hk, rfl, sx, ac⟩
    simp only [List.cons.injEq, and_true] at hy
    rw [hy.1, hy.2]
    have hix := sx _ _ hit
    have lx : lenOfA (.slc ib 0 L.length (some L.length) 1) = some L.length := rfl
    simp only [vc_leafmeshref15_Edges_l3, lx, arith_lss, optK_mk]
    refine boolK_mk (fun hlt => ?_) (fun hge2 => ?_)
    · have hlt : k < L.length := by have := of_decide_eq_true hlt; omega
      have nx : ∀ (ov' : AVal) (x' : Heap), Sub t x' → Acc 3 t x' ov' (iz ((List.range (k + 1)).filter f)) → vc_leafmeshref15_Edges_j4 XX ov' (.int .i64 (k : Int)) (fun ys x m => ∃ (k : Nat) (ov : AVal), ys = [ov, .int .i64 k] ∧ k ≤ L.length ∧ m = L.length - k ∧ Sub t x ∧ Acc 3 t x ov (iz ((List.range k).filter f))) (L.length - k) K x' := fun ov' x' k1 k2 => by
        simp only [vc_leafmeshref15_Edges_j4, arith_add, optK_mk]
        rw [wrap64 (by omega) (by omega)]
        exact ⟨_, by omega, k + 1, ov', rfl, by omega, rfl, k1, k2⟩
      simp only [bl_ad hlt, rd1_mk hix, bl_get hlt, optK_mk]
      cases hfk : f k with
      | true =>
        simp only [boolK_true]
        refine lit1_step rfl rfl fun b5 x5 hb5 h5 u5 => ?_
        have sub5 := u5.sub hb5
        refine (ac.sub sub5).app2 (sx.trans sub5) (Sl.mk h5 rfl (by simp)) (by simp) ?_ fun v' x6 a6 s6 => ?_
        · have := List.length_filter_le f (List.range k)
          rw [List.length_range] at this
          rw [iz_len]; simp only [List.length_singleton]; omega
        · refine nx v' x6 s6 ?_
          rw [List.range_succ, List.filter_append, iz_app]
          have : [k].filter f = [k] := by simp [hfk]
          rw [this]; exact a6
      | false =>
        simp only [boolK_false]
        refine nx ov x sx ?_
        rw [List.range_succ, List.filter_append]
        have : [k].filter f = [] := by simp [hfk]
        rw [this, List.append_nil]; exact ac
    · have hge2 : k = L.length := by have := of_decide_eq_false hge2; omega
      subst hge2
      have ee : (List.range L.length).filter f = edgesN lf sp L U sf g es := by
        unfold edgesN
        rw [hr]
        simp only
        rw [← e3, ← treeL_filter (f := f) fun j => (hf j).trans ⟨fun ⟨m, h, ho⟩ => ⟨m, h.2, ho⟩, fun ⟨m, h, ho⟩ => ⟨m, ⟨by have := h.2.1; omega, h⟩, ho⟩⟩, List.length_map]
      rw [ee] at ac
      exact hK _ x ac.sl (st.trans sx)
end Go.AM
namespace Go.AM
open Go Go.Proofs
/-! ### values that are equal to themselves -/
section
variable (P : Program)
def defFs (def_ : TypeId → AVal → Bool) (xs : List AVal) : List Field → Bool
  | [] => true
  | f :: fs => cond (f.name == "_") (defFs def_ xs fs) (match aPart P f.type xs f.offset with
    | some x => def_ f.type x && defFs def_ xs fs
    | none => false)
def aDef : Nat → TypeId → AVal → Bool
  | 0, _, _ => false
  | d + 1, t, x => match P.underlying t, x with
    | some .bool, .bool _ => true
    | some (.int _), .int _ _ => true
    | some (.struct fields), .agg xs => cond (P.stoodInHeld t) false (defFs P (aDef d) xs fields.toList)
    | _, _ => false
theorem defFs_ok {eq : TypeId → AVal → AVal → Option Bool} {df : TypeId → AVal → Bool} (h : ∀ t x, df t x = true → eq t x x = some true) {xs : List AVal} : ∀ {fs : List Field}, defFs P df xs fs = true → eqFields P eq xs xs fs = some true
  | [], _ => rfl
  | f :: fs, q => by
    unfold defFs at q
    unfold eqFields
    cases c : (f.name == "_") with
    | true => rw [c] at q; exact defFs_ok h q
    | false =>
      rw [c] at q
      simp only [cond_false] at q ⊢
      cases e : aPart P f.type xs f.offset with
      | none => rw [e] at q; cases q
      | some x =>
        rw [e] at q
        simp only [Bool.and_eq_true] at q
        simp only [h _ _ q.1]
        exact defFs_ok h q.2
theorem aDef_ok : ∀ (d : Nat) (t : TypeId) (x : AVal), aDef P d t x = true → aEq P d t x x = some true
  | 0, _, _, h => by cases h
  | d + 1, t, x, h => by
    unfold aDef at h
    split at h
    · rename_i b hu
      unfold aEq
      rw [hu]
      simp
    · rename_i k k' n hu
      unfold aEq
      rw [hu]
      have e : intKindEq k' k' = true := by cases k' <;> rfl
      simp only [e, cond_true, eqI_eq]
      simp
    · rename_i fields xs hu
      unfold aEq
      rw [hu]
      simp only
      cases c : P.stoodInHeld t with
      | true => rw [c] at h; cases h
      | false =>
        rw [c] at h
        simp only [cond_false] at h ⊢
        exact defFs_ok P (aDef_ok d) h
    · cases h
end
variable {K : AVal → Heap → Prop} {s s' s0 t : Heap} {U : List Bool} {L : List RLk} {lnv upv v w dv mv : AVal} {lf sp sf g : Int} {N r : Nat} {d ds : Nat → Int} {es : List Int}
theorem lk_self (x : RLk) : eqAgg Try.prog 39 (.agg (rwR x)) (.agg (rwR x)) = some true := by
  obtain ⟨a, b, c⟩ := x
  exact aDef_ok Try.prog 30 39 (.agg [.int .i64 a, .int .i64 b, .int .i64 c]) (by kernel_rfl)
/-! ### lists that are compared with their copies -/
theorem SameL_in {rows : List (List AVal)} (h : SlR 3 s v rows) (h' : SlR 3 s w rows) (hl : rows.length ≤ 1000000) (he : ∀ r ∈ rows, eqAgg Try.prog 39 (.agg r) (.agg r) = some true) (hK : K (.bool true) s) : wpCall Try.prog XX 19 [v, w] K s := by
  refine vc_leafmeshkit_Same_api_Link__in ?_
  simp only [vc_leafmeshkit_Same_api_Link_, h.len, h'.len, eqV_int, negB_mk, Bool.true_bne, beq_self_eq_true, Bool.not_true, boolK_false, optK_mk]
  refine ⟨fun ys t m => ∃ i : Nat, ys = [.int .i64 i] ∧ t = s ∧ i ≤ rows.length ∧ m = rows.length - i, ⟨_, 0, rfl, rfl, by omega, rfl⟩, ?_⟩
  rintro f t m ⟨i, hy, rfl, hi, rfl⟩
  simp only [List.cons.injEq, and_true] at hy
  rw [hy]
  simp only [vc_leafmeshkit_Same_api_Link__l0, h.len, arith_lss, optK_mk]
  refine boolK_mk (fun hlt => ?_) (fun hge => hK)
  have hlt : i < rows.length := by have := of_decide_eq_true hlt; omega
  obtain ⟨b, o, g1, g2, _⟩ := h.get (i := i) (r := rows[i]) (List.getElem?_eq_getElem hlt)
  obtain ⟨b', o', g3, g4, _⟩ := h'.get (i := i) (r := rows[i]) (List.getElem?_eq_getElem hlt)
  simp only [g1, g2, g3, g4, he _ (List.getElem_mem hlt), negB_mk, Bool.true_bne, Bool.not_true, boolK_false, arith_add, optK_mk]
  rw [wrap64 (by omega) (by omega)]
  exact ⟨_, by omega, i + 1, rfl, by trivial, by omega, rfl⟩
theorem SameB_in (h : Sl s v (U.map AVal.bool)) (h' : Sl s w (U.map AVal.bool)) (hl : U.length ≤ 1000000) (hK : K (.bool true) s) : wpCall Try.prog XX 20 [v, w] K s := by
  refine vc_leafmeshkit_Same_bool__in ?_
  simp only [vc_leafmeshkit_Same_bool_, h.len, h'.len, List.length_map, eqV_int, negB_mk, Bool.true_bne, beq_self_eq_true, Bool.not_true, boolK_false, optK_mk]
  refine ⟨fun ys t m => ∃ i : Nat, ys = [.int .i64 i] ∧ t = s ∧ i ≤ U.length ∧ m = U.length - i, ⟨_, 0, rfl, rfl, by omega, rfl⟩, ?_⟩
  rintro f t m ⟨i, hy, rfl, hi, rfl⟩
  simp only [List.cons.injEq, and_true] at hy
  rw [hy]
  simp only [vc_leafmeshkit_Same_bool__l0, h.len, List.length_map, arith_lss, optK_mk]
  refine boolK_mk (fun hlt => ?_) (fun hge => hK)
  have hlt : i < U.length := by have := of_decide_eq_true hlt; omega
  obtain ⟨p, g1, g2⟩ := h.get (i := i) (by rw [List.length_map]; exact hlt)
  obtain ⟨q, g3, g4⟩ := h'.get (i := i) (by rw [List.length_map]; exact hlt)
  have e1 : (U.map AVal.bool)[i]? = some (.bool U[i]) := by simp [hlt]
  rw [e1] at g2 g4
  have e2 : eqV 1 false (.bool U[i]) (.bool U[i]) = some true := by
    show some (U[i] == U[i]) = _
    rw [beq_self_eq_true]
  simp only [g1, g2, g3, g4, e2, negB_mk, Bool.true_bne, Bool.not_true, boolK_false, arith_add, optK_mk]
  rw [wrap64 (by omega) (by omega)]
  exact ⟨_, by omega, i + 1, rfl, by trivial, by omega, rfl⟩
theorem SlR.addf {es : Nat} {s2 : Heap} {rows : List (List AVal)} (h : SlR es s2 v rows) (hs : Sub (AM.frz s) s2) : SlR es (add s s2) v rows := by
  refine ⟨h.1, ?_⟩
  rcases h.2 with h | ⟨b, o, cap, h1, h2, h3⟩
  · exact .inl h
  · refine .inr ⟨b, o, cap, h1, h2, fun hl => ?_⟩
    obtain ⟨t, e, cs, q1, q2⟩ := h3 hl
    cases hb : s b with
    | none => exact ⟨t, e, cs, by rw [add_none hb]; exact q1, q2⟩
    | some x =>
      obtain ⟨t', x⟩ := x
      have := hs b _ (frz_some hb)
      rw [q1] at this
      cases this
      exact ⟨t', e, cs, by rw [add_some hb], q2⟩
theorem fresh_of (k : Sub s s') {b : Nat} (h : s' b = none) : s b = none := by
  cases q : s b with
  | none => rfl
  | some y => rw [k _ _ q] at h; cases h
theorem OwnI_in (h : Sl s mv (izs es)) (hl : es.length ≤ 1000000) (hK : ∀ v s', Sub s s' → Sl s' v (izs es) → K v s') : wpCall Try.prog XX 13 [mv] K s := by
  refine vc_leafmeshkit_Own_int__in ?_
  refine optK_of (a := []) rfl ⟨rfl, new_step fun b s1 hb h1 u1 => ?_⟩
  have sub1 := u1.sub hb
  refine app_copy (h.sub sub1) (by rw [List.length_map]; omega) fun v' s' sub2 h0 h2 => ?_
  refine hK v' s' (sub1.trans sub2) ?_
  by_cases q : izs es = []
  · rw [h0 q, q]; exact .inr ⟨b, 0, some 0, by simp, by simp, fun h => absurd rfl h⟩
  · obtain ⟨c, _, rfl, h4⟩ := h2 q
    exact Sl.mk h4 rfl (by simp)
theorem OwnB_in {s : Heap} (h : Sl s mv (U.map AVal.bool)) (hl : U.length ≤ 1000000) (hK : ∀ v s', Sub s s' → Sl s' v (U.map AVal.bool) → (∀ b o n c, v = .slc b o n c 1 → U.map AVal.bool ≠ [] → s b = none) → K v s') : wpCall Try.prog XX 36 [mv] K s := by
  refine vc_leafmeshkit_Own_bool__in ?_
  refine optK_of (a := []) rfl ⟨rfl, new_step fun b s1 hb h1 u1 => ?_⟩
  have sub1 := u1.sub hb
  refine app_copy (h.sub sub1) (by rw [List.length_map]; omega) fun v' s' sub2 h0 h2 => ?_
  by_cases q : U.map AVal.bool = []
  · refine hK v' s' (sub1.trans sub2) ?_ fun _ _ _ _ _ h => absurd q h
    rw [h0 q, q]; exact .inr ⟨b, 0, some 0, by simp, by simp, fun h => absurd rfl h⟩
  · obtain ⟨c, h5, rfl, h4⟩ := h2 q
    exact hK _ s' (sub1.trans sub2) (Sl.mk h4 rfl (by simp)) fun b o n c' e _ => by cases e; exact fresh_of sub1 h5
theorem OwnL_in {rows : List (List AVal)} (h : SlR 3 s mv rows) (hl : rows.length ≤ 1000000) (hK : ∀ v s', Sub s s' → SlR 3 s' v rows → (∀ b o n c, v = .slc b o n c 3 → rows ≠ [] → s b = none) → K v s') : wpCall Try.prog XX 35 [mv] K s := by
  refine vc_leafmeshkit_Own_api_Link__in ?_
  refine optK_of (a := []) rfl ⟨rfl, new_step fun b s1 hb h1 u1 => ?_⟩
  have sub1 := u1.sub hb
  exact app_copyR (h.sub sub1) (by omega) fun v' s' sub2 h2 h3 => hK v' s' (sub1.trans sub2) h2 fun b o n c e q => fresh_of sub1 (h3 b o n c e q)
theorem copied_in (hn : NetR s L U lnv upv) (hK : ∀ lnv' upv' s', Sub s s' → NetR s' L U lnv' upv' → K (.agg (netC lf sp lnv' upv')) s') : wpCall Try.prog XX 12 [.agg (netC lf sp lnv upv)] K s := by
  refine vc_leafmeshlaw15_copied_in (hn.box fun b s1 hb h1 u1 => ?_)
  have sub1 := u1.sub hb
  refine new_step fun b2 s2 hb2 h2 u2 => ?_
  have sub2 := u2.sub hb2
  have h12 := sub2 _ _ h1
  have sub02 := sub1.trans sub2
  simp only [addOff_ptr, Nat.zero_add, net2 h12, optK_mk]
  refine OwnL_in (hn.sub sub02).frz.l (by rw [List.length_map]; have := hn.len.1; omega) fun v6 s7 sub7 h6 f6 _ => ?_
  have h6 := h6.addf sub7
  have f6 : ∀ b o n c, v6 = .slc b o n c 3 → L.map rwR ≠ [] → s2 b = none := fun b o n c e q => frz_none.1 (f6 b o n c e q)
  have sub27 : Sub s2 (add s2 s7) := sub_add
  have h17 := sub27 _ _ h12
  have h27 := sub27 _ _ h2
  have xc : cutH [(s2, add s2 s7)] (add s2 s7) b = some (false, .cells 25 (netC lf sp lnv upv)) := cut_keep h12 h17
  simp only [addOff_ptr, Nat.zero_add, net3 xc, optK_mk]
  have sub07 := sub02.trans sub27
  refine OwnB_in (hn.sub sub07).u (by have := hn.len.2; omega) fun v10 s11 sub11 h10 f10 => ?_
  have h111 := sub11 _ _ h17
  have h211 := sub11 _ _ h27
  have h611 := h6.sub sub11
  have bb : b ≠ b2 := fun q => by rw [← q, h1] at hb2; cases hb2
  refine wr1_step h111 (by show 2 < 4; omega) h6.one fun s13 h13 u13 => wr1_step h13 (by show 3 < 4; omega) h10.one fun s15 h15 u15 => ?_
  have h15 : s15 b = some (false, .cells 25 (netC lf sp v6 v10)) := h15
  simp only [net4 h15, optK_mk]
  have h215 : s15 b2 = _ := (u15 b2 (Ne.symm bb)).trans ((u13 b2 (Ne.symm bb)).trans h211)
  have one : allOne (netC lf sp v6 v10) = true := by
    show ((AVal.int .i64 lf).one && ((AVal.int .i64 sp).one && (v6.one && (v10.one && true)))) = true
    rw [h6.one, h10.one]; rfl
  refine wrAgg_step h215 rfl rfl one fun s17 h217 u17 => ?_
  have h217 : s17 b2 = some (false, .cells 25 (netC lf sp v6 v10)) := h217
  simp only [net4 h217, optK_mk]
  have kp : KeepBut (fun i => i = b ∨ i = b2) s11 s17 := fun i e hi hne => by
    rw [u17 i (fun q => hne (.inr q)), u15 i (fun q => hne (.inl q)), u13 i (fun q => hne (.inl q))]; exact hi
  have hb0 : s b = none := hb
  have hb20 : s b2 = none := fresh_of sub1 hb2
  refine hK v6 v10 s17 (fun i e hi => kp i e (sub11 _ _ (sub07 _ _ hi)) ?_) ⟨h611.keep kp fun c o n k e q => ?_, h10.keep kp fun c o n k e q => ?_, hn.len⟩
  · rintro (q | q)
    · rw [q, hb0] at hi; cases hi
    · rw [q, hb20] at hi; cases hi
  · have := f6 c o n k e q
    rintro (r | r)
    · rw [r, h12] at this; cases this
    · rw [r, h2] at this; cases this
  · have := f10 c o n k e q
    rintro (r | r)
    · rw [r, h17] at this; cases this
    · rw [r, h27] at this; cases this
end Go.AM
namespace Go.AM
open Go Go.Proofs
variable {K : AVal → Heap → Prop} {s s' s0 t : Heap} {U : List Bool} {L : List RLk} {lnv upv v w dv mv : AVal} {lf sp sf g : Int} {N r : Nat} {d ds : Nat → Int} {es : List Int}
/-! ### TreeEdges -/
def rt0 : Option Nat → AVal
  | some r => .int .i64 (r : Int)
  | none => .int .i64 0
def rt1 : Option Nat → Bool
  | some _ => true
  | none => false
theorem rootV_0 {o : Option Nat} : extractA (rootV o) 0 = some (rt0 o) := by cases o <;> rfl
theorem rootV_1 {o : Option Nat} : extractA (rootV o) 1 = some (.bool (rt1 o)) := by cases o <;> rfl
theorem rt0_same {o : Option Nat} : eqV 0 false (rt0 o) (rt0 o) = some true := by cases o <;> simp only [rt0, eqV_int, beq_self_eq_true]
theorem eqB_same {b : Bool} : eqV 1 false (.bool b) (.bool b) = some true := by
  show some (b == b) = _
  rw [beq_self_eq_true]
theorem TreeEdges_in (hn : NetA s L U lnv upv) (hg : 0 ≤ g ∧ g < 4294967296) (hm : Sl s mv (izs es)) (hK : ∀ s, K (.bool true) s) : wpCall Try.prog XX 3 [.agg (netC lf sp lnv upv), .int .i64 sf, .int .u32 g, mv] K s := by
  refine vc_leafmeshlaw15_TreeEdges_in (hn.box fun b s1 hb h1 u1 => ?_)
  have sub1 := u1.sub hb
  simp only [net4 h1, optK_mk]
  refine large_in (k := es.length) (hn.sub sub1) (by rw [hm.len, List.length_map]) fun s2 sub2 => ?_
  have h2 := sub2 _ _ h1
  have sub02 := sub1.trans sub2
  cases hl : larg L U es.length with
  | true =>
    simp only [boolK_true]
    exact known_in (.inr rfl) (hK _)
  | false =>
  obtain ⟨c1, c2, c3⟩ := larg_false hl
  have hr : NetR s2 L U lnv upv := (hn.sub sub02).net ⟨c1, c2⟩
  simp only [boolK_false, net4 h2, optK_mk]
  refine copied_in hr fun ln' up' s3 sub3 hr3 => ?_
  have sub03 := sub02.trans sub3
  refine OwnI_in (hm.sub sub03) (by omega) fun mv' s4 sub4 hm4 => ?_
  have sub04 := sub03.trans sub4
  have hr4 := hr3.sub sub4
  refine new_step fun b2 s5 hb2 h5 u5 => wrAgg_step h5 rfl rfl hr4.one fun s6 h6 u6 => ?_
  have h6 : s6 b2 = some (false, .cells 25 (netC lf sp ln' up')) := h6
  have sub46 : Sub s4 s6 := sub_upto (u5.sub hb2) u6 hb2
  have sub06 := sub04.trans sub46
  have hr6 := hr4.sub sub46
  have hm6 := hm4.sub sub46
  simp only [net4 h6, optK_mk]
  refine RootN_in hr6 hg fun s7 sub7 => ?_
  have h17 := sub7 _ _ (sub46 _ _ (sub4 _ _ (sub3 _ _ h2)))
  have h27 := sub7 _ _ h6
  have sub07 := sub06.trans sub7
  simp only [rootV_0, rootV_1, net4 h17, optK_mk]
  refine rRoot_in ((hr.sub ((sub3.trans sub4).trans (sub46.trans sub7)))) hg fun s8 sub8 => ?_
  have h18 := sub8 _ _ h17
  have h28 := sub8 _ _ h27
  have sub08 := sub07.trans sub8
  have sub68 := sub7.trans sub8
  have sub28 : Sub s2 s8 := ((sub3.trans sub4).trans (sub46.trans sub7)).trans sub8
  simp only [rootV_0, rootV_1, rt0_same, eqB_same, negB_mk, Bool.false_bne, boolK_true, vc_leafmeshlaw15_TreeEdges_j0, pickV_true, net4 h28, optK_mk]
  refine Edges15_in (hr6.sub sub68).frz hg (hm6.sub sub68).frz (by omega) fun v9 s9 e9 _ sub9 _ => ?_
  have e9 := e9.addf sub9
  have sub89 : Sub s8 (add s8 s9) := sub_add
  have h19 := sub89 _ _ h18
  have h29 := sub89 _ _ h28
  have xc : cutH [(s8, add s8 s9)] (add s8 s9) b = some (false, .cells 25 (netC lf sp lnv upv)) := cut_keep h18 h19
  generalize add s8 s9 = s10 at *
  simp only [net4 xc, optK_mk]
  have sub010 := sub08.trans sub89
  refine rEdges_in (hr.sub (sub28.trans sub89)) hg (hm.sub sub010) (by omega) fun v11 s11 e11 sub11 => ?_
  have e9 := e9.sub sub11
  have ei : ∀ {T : List Nat}, iz T = izs (T.map fun (n : Nat) => (n : Int)) := fun {T} => by
    unfold iz
    exact (List.map_map ..).symm
  rw [ei] at e9 e11
  have hlen : (edgesN lf sp L U sf g es).length ≤ 60 := by
    by_cases q : netOk lf sp L U sf
    · have := edgesN_len (g := g) (es := es) q
      omega
    · have : edgesN lf sp L U sf g es = [] := by
        unfold edgesN rootN
        rw [if_neg q]
      rw [this]; simp
  refine Same_in e9 e11 (by rw [List.length_map]; omega) fun r hr0 => ?_
  rw [hr0.2 rfl]
  have sub611 := (sub68.trans sub89).trans sub11
  have sub211 := (sub28.trans sub89).trans sub11
  have h111 := sub11 _ _ h19
  have h211 := sub11 _ _ h29
  have a := hr6.sub sub611
  have a' := hr.sub sub211
  simp only [pickV_true, boolK_true, addOff_ptr, Nat.zero_add, net2 h111, net2 h211, optK_mk]
  refine SameL_in a.l a'.l (by rw [List.length_map]; omega) (fun r hr => by obtain ⟨x, _, rfl⟩ := List.mem_map.1 hr; exact lk_self x) ?_
  simp only [vc_leafmeshlaw15_TreeEdges_j1, pickV_true, boolK_true, addOff_ptr, Nat.zero_add, net3 h111, net3 h211, optK_mk]
  refine SameB_in a.u a'.u (by omega) ?_
  simp only [vc_leafmeshlaw15_TreeEdges_j2, pickV_true, boolK_true, optK_mk]
  refine Same_in (hm6.sub sub611) (hm.sub (sub010.trans sub11)) (by omega) fun r hr0 => ?_
  rw [hr0.2 rfl]
  simp only [vc_leafmeshlaw15_TreeEdges_j3, pickV_true, boolK_true, optK_mk]
  refine known_in (.inr rfl) ?_
  simp only [vc_leafmeshlaw15_TreeEdges_j4, pickV_true, optK_mk]
  exact hK _
set_option maxRecDepth 100000 in
theorem Edges_wp (s : Heap) (xs : List AVal) (h : ArgL Try.prog s 40 [25, 3, 27, 28] xs) : wpCall Try.prog XX 3 xs (fun v _ => v = .bool true) s := by
  obtain ⟨a, b, c, e, rfl, h1, h2, h3, h4⟩ := argl4 h
  obtain ⟨lf, sp, L, U, lnv, upv, rfl, hn, w1, w2⟩ := arg_net (d := 36) h1
  obtain ⟨sf, rfl, _⟩ := arg_int (k := .i64) Try.underlying3 h2
  obtain ⟨g, rfl, w3⟩ := arg_int (k := .u32) Try.underlying27 h3
  obtain ⟨es, hm, _⟩ := arg_slice (d := 38) Try.underlying28 (by kernel_rfl) (AVal.int .i64) (fun _ => True) (fun xs h => by obtain ⟨n, e, _⟩ := inp_int Try.underlying3 h; exact ⟨n, e, trivial⟩) h4
  exact TreeEdges_in hn (bdu32 w3) hm fun _ => rfl
end Go.AM
