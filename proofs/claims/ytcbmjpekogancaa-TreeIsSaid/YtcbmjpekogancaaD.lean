/- Part D of a calculus over a small memory that is proved to answer as the program does, and of its use for the functions that the law reaches: see the last part. -/
import Derived.Test.YtcbmjpekogancaaC
import Derived.Test.YtcbmjpekogancaaV
namespace Go.AM
open Go Go.Proofs
variable {K : AVal → Heap → Prop} {s s' s0 : Heap} {N : Nat} {G : List Lnk} {U : List Bool} {lv uv av dv v : AVal} {d : Nat → Int}
/-! ### nearer, parents -/
theorem Nearer_in {n : Nat} (z : GOk N G U) (hn : n < N) (hG : G.length ≤ 128) (hC : ∀ x ∈ G, x.2.2 ≤ 1000) (hd : ∀ m, m < N → -1 ≤ d m ∧ d m ≤ 32000) (hv : SlR 3 s v ((edL G U n).map edR)) (hdv : Sl s dv (dl N d))
    (hK : ∀ v' s', AccR 111 3 s s' v' ((nearL G U d n).map edR) → Sub s s' → K v' s') : wpCall Try.prog XX 92 [v, dv, .int .i64 (n : Int)] K s := by
  have hcost : ∀ {i n m c : Nat}, Ed G U i n m c → c ≤ 1000 := fun {i n m c} e => by
    rcases e.2 with e | e
    · exact hC _ (List.mem_of_getElem? e)
    · exact hC _ (List.mem_of_getElem? e)
  have hle := edL_len (G := G) (U := U) (n := n)
  refine vc_spf_nearer_in ?_
  simp only [vc_spf_nearer, hv.len, List.length_map, optK_mk]
  refine ⟨fun ys t m => ∃ (i : Nat) (lv : AVal), ys = [lv, .int .i64 i] ∧ i ≤ (edL G U n).length ∧ m = (edL G U n).length - i ∧ Sub s t ∧ AccR 111 3 s t lv ((((edL G U n).take i).filter fun e => decide (d n = d e.2.1 + e.2.2)).map edR), ⟨_, 0, _, rfl, by omega, rfl, .refl s, by simp, .inl ⟨rfl, by simp⟩⟩, ?_⟩
  rintro f t m ⟨i, lv, hy, hi, rfl, st, ac⟩
  simp only [List.cons.injEq, and_true] at hy
  obtain ⟨hy1, hy2⟩ := hy
  rw [hy1, hy2]
  simp only [vc_spf_nearer_l0, arith_lss, optK_mk]
  refine boolK_mk (fun hlt => ?_) (fun hge => ?_)
  · have hlt : i < (edL G U n).length := by have := of_decide_eq_true hlt; omega
    obtain ⟨e, he⟩ : ∃ e, (edL G U n)[i]? = some e := ⟨_, List.getElem?_eq_getElem hlt⟩
    obtain ⟨j, mm, c⟩ := e
    have hed := (mem_edL z).1 (List.mem_of_getElem? he)
    obtain ⟨_, mN, nem, c1, _⟩ := z.ed hed
    have c2 := hcost hed
    obtain ⟨pb, po, e1, e2, _⟩ := (hv.sub st).get (i := i) (r := edR (j, mm, c)) (by rw [List.getElem?_map, he]; rfl)
    simp only [e1, e2, optK_mk]
    refine new_step fun b t1 hb h1 u1 => wrAgg_step h1 rfl rfl rfl fun t2 h2 u2 => ?_
    have h2 : t2 b = some (false, .cells 111 [.int .i64 (j : Int), .int .i64 (mm : Int), .int .i64 (c : Int)]) := h2
    have subt : Sub t t2 := sub_upto (u1.sub hb) u2 hb
    have st2 := st.trans subt
    obtain ⟨p1, g1, g2⟩ := (hdv.sub st2).get (i := n) (by rw [dl_len]; exact hn)
    obtain ⟨p2, g3, g4⟩ := (hdv.sub st2).get (i := mm) (by rw [dl_len]; exact mN)
    rw [dl_get hn] at g2
    rw [dl_get mN] at g4
    have y1 : [AVal.int .i64 (j : Int), .int .i64 (mm : Int), .int .i64 (c : Int)][1]? = some (.int .i64 (mm : Int)) := rfl
    have y2 : [AVal.int .i64 (j : Int), .int .i64 (mm : Int), .int .i64 (c : Int)][2]? = some (.int .i64 (c : Int)) := rfl
    have dm := hd mm mN
    simp only [g1, g2, addOff_ptr, Nat.zero_add, rd1_mk h2, y1, y2, g3, g4, arith_add, optK_mk, eqV_int, negB_mk, Bool.false_bne]
    rw [wrap64 (by omega) (by omega)]
    have tk : ((edL G U n).take (i + 1)).filter (fun e => decide (d n = d e.2.1 + e.2.2)) = ((edL G U n).take i).filter (fun e => decide (d n = d e.2.1 + e.2.2)) ++ (if d n = d mm + c then [(j, mm, c)] else []) := by
      rw [List.take_add_one, he, List.filter_append]
      congr 1
      by_cases q : d n = d mm + c
      · simp [q]
      · simp [q]
    refine boolK_mk (fun heq => ?_) (fun hne => ?_)
    · have heq : d n = d mm + c := by simpa using heq
      have r3 : rdN t2 3 (.ptr b 0) = some (edR (j, mm, c)) := rdN_all h2 rfl
      simp only [r3, optK_mk]
      refine optK_of (a := edR (j, mm, c)) rfl ⟨rfl, new_step fun b3 t3 hb3 h3 u3 => ?_⟩
      have sub3 := subt.trans (u3.sub hb3)
      have lit : SlR 3 t3 (.slc b3 0 1 (some 1) 3) ([(j, mm, c)].map edR) := SlR.mk (by intro r hr; simp only [List.map_cons, List.map_nil, List.mem_singleton] at hr; subst hr; rfl) (by simpa using h3) rfl (by simp)
      refine (ac.sub sub3).app lit (by simp) ?_ (st.trans sub3) fun v' t4 a4 s4 => ?_
      · have := List.length_filter_le (fun e : Nat × Nat × Nat => decide (d n = d e.2.1 + e.2.2)) ((edL G U n).take i)
        have := List.length_take_le i (edL G U n)
        simp only [List.length_map, List.length_cons, List.length_nil]
        omega
      · simp only [vc_spf_nearer_j1, arith_add, optK_mk]
        rw [wrap64 (by omega) (by omega)]
        refine ⟨_, by omega, i + 1, v', rfl, by omega, rfl, s4, ?_⟩
        rw [tk, if_pos heq, List.map_append]
        exact a4
    · have hne : ¬ d n = d mm + c := by simpa using hne
      simp only [vc_spf_nearer_j1, arith_add, optK_mk]
      rw [wrap64 (by omega) (by omega)]
      refine ⟨_, by omega, i + 1, lv, rfl, by omega, rfl, st2, ?_⟩
      rw [tk, if_neg hne, List.append_nil]
      exact ac.sub subt
  · have hge : i = (edL G U n).length := by have := of_decide_eq_false hge; omega
    subst hge
    rw [List.take_length] at ac
    exact hK _ _ ac st
theorem parents_in (z : GOk N G U) (hN : N ≤ 32) (hG : G.length ≤ 128) (hC : ∀ x ∈ G, x.2.2 ≤ 1000) (hd : ∀ m, m < N → -1 ≤ d m ∧ d m ≤ 32000) (ha : AdjR s av N (edL G U)) (hdv : Sl s dv (dl N d))
    (hK : ∀ b s', s b = none → s' b = some (false, .cells 3 (dl N (parL G U d))) → Sub s s' → K (.slc b 0 N (some N) 1) s') : wpCall Try.prog XX 72 [av, dv] K s := by
  refine vc_spf_parents_in ?_
  have n0 : nat? (.int .i64 (N : Int)) = some N := nat?_mk
  simp only [vc_spf_parents, ha.len, n0, optK_mk, lenOf_slc]
  refine ⟨⟨Nat.le_refl _, by omega⟩, new_step fun db s1 hdb h1 u1 => ?_⟩
  have sub1 := u1.sub hdb
  refine ⟨fun ys t m => ∃ i : Nat, ys = [.int .i64 i] ∧ i ≤ N ∧ m = N - i ∧ Sub s t ∧ t db = some (false, .cells 3 (dl N fun n => if n < i then parL G U d n else 0)), ⟨_, 0, rfl, by omega, rfl, sub1, ?_⟩, ?_⟩
  · rw [h1, repl_one]
    congr 3
    unfold dl
    refine List.ext_getElem? fun i => ?_
    by_cases hi : i < N
    · simp [hi]
    · simp [hi]
  rintro f t m ⟨i, hy, hi, rfl, st, h2⟩
  simp only [List.cons.injEq, and_true] at hy
  rw [hy]
  simp only [vc_spf_parents_l0, arith_lss, optK_mk]
  refine boolK_mk (fun hlt => ?_) (fun hge => ?_)
  · have hlt : i < N := by have := of_decide_eq_true hlt; omega
    have ad : iaddrS 1 (.slc db 0 N (some N) 1) (.int .i64 (i : Int)) = some (.ptr db i) := by
      have : Nat.blt i N = true := by rw [Nat.blt_eq]; exact hlt
      simp [iaddrS, this]
    simp only [ad, optK_mk]
    refine wr1_step h2 (by rw [dl_len]; exact hlt) rfl fun t3 h3 u3 => ?_
    rw [dl_set hlt] at h3
    have st3 : Sub s t3 := sub_upto st u3 hdb
    obtain ⟨p, v, a1, a2, a3⟩ := (ha.sub st3).at hlt
    simp only [a1, a2, optK_mk]
    have upd1 : ∀ w : Int, w = parL G U d i → dl N (updI (updI (fun n => if n < i then parL G U d n else 0) i (-1)) i w) = dl N (fun n => if n < i + 1 then parL G U d n else 0) := fun w hw => by
      unfold dl
      refine List.map_congr_left fun n hn => ?_
      congr 1
      by_cases e : n = i
      · rw [e, updI_same, hw]; exact (if_pos (by omega)).symm
      · rw [updI_ne e, updI_ne e]
        by_cases c : n < i
        · show (if n < i then parL G U d n else 0) = if n < i + 1 then parL G U d n else 0
          rw [if_pos c, if_pos (by omega)]
        · show (if n < i then parL G U d n else 0) = if n < i + 1 then parL G U d n else 0
          rw [if_neg c, if_neg (by omega)]
    refine Nearer_in z hlt hG hC hd a3 (hdv.sub st3) fun v' t4 ac s4 => ?_
    have h4 := s4 _ _ h3
    have st4 := st3.trans s4
    simp only [ac.sl.len, List.length_map, arith_gtr, optK_mk]
    refine boolK_mk (fun hg => ?_) (fun hg => ?_)
    · have hg : 0 < (nearL G U d i).length := by have := of_decide_eq_true hg; omega
      obtain ⟨e, he⟩ : ∃ e, (nearL G U d i)[0]? = some e := ⟨_, List.getElem?_eq_getElem hg⟩
      obtain ⟨pb, po, e1, _, e3⟩ := ac.sl.get (i := 0) (r := edR e) (by rw [List.getElem?_map, he]; rfl)
      have e1 : iaddrS 3 v' (.int .i64 0) = some (.ptr pb po) := e1
      have e4 : rd1 t4 (.ptr pb po) = some (.int .i64 (e.1 : Int)) := e3 0 (by omega)
      simp only [e1, addOff_ptr, Nat.add_zero, e4, ad, optK_mk]
      refine wr1_step h4 (by rw [dl_len]; exact hlt) rfl fun t5 h5 u5 => ?_
      rw [dl_set hlt] at h5
      simp only [vc_spf_parents_j1, arith_add, optK_mk]
      rw [wrap64 (by omega) (by omega)]
      refine ⟨_, by omega, i + 1, rfl, by omega, rfl, sub_upto st4 u5 hdb, ?_⟩
      rw [h5]
      have := upd1 (e.1 : Int) (by
        unfold parL
        cases q : nearL G U d i with
        | nil => rw [q] at he; cases he
        | cons x r => rw [q] at he; cases he; rfl)
      rw [this]
    · have hg : nearL G U d i = [] := List.eq_nil_of_length_eq_zero (by have := of_decide_eq_false hg; omega)
      simp only [vc_spf_parents_j1, arith_add, optK_mk]
      rw [wrap64 (by omega) (by omega)]
      refine ⟨_, by omega, i + 1, rfl, by omega, rfl, st4, ?_⟩
      rw [h4]
      have := upd1 (-1) (by unfold parL; rw [hg])
      congr 3
      rw [← this]
      unfold dl
      refine List.map_congr_left fun n hn => ?_
      congr 1
      by_cases e : n = i
      · rw [e, updI_same, updI_same]
      · rw [updI_ne e, updI_ne e, updI_ne e]
  · have hge : i = N := by have := of_decide_eq_false hge; omega
    subst hge
    refine hK db t hdb ?_ st
    rw [h2]
    congr 3
    unfold dl
    refine List.map_congr_left fun n hn => ?_
    congr 1
    exact if_pos (List.mem_range.1 hn)
/-! ### from the lists that are given to those of the plain law -/
def toL (x : RLk) : Lnk := (x.1.toNat, x.2.1.toNat, x.2.2.toNat)
theorem vld.gok {n : Nat} {L : List RLk} (h : vld (n : Int) L U) : GOk n (L.map toL) U ∧ (L.map toL).length ≤ 128 ∧ n ≤ 32 ∧ (∀ x ∈ L.map toL, x.2.2 ≤ 1000) ∧ L.map rwR = (L.map toL).map lkR := by
  obtain ⟨h1, h2, h3, h4, h5⟩ := h
  refine ⟨⟨by rw [List.length_map]; exact h4, fun x hx => ?_⟩, by rw [List.length_map]; exact h3, by omega, fun x hx => ?_, ?_⟩
  · obtain ⟨⟨a, b, c⟩, hy, rfl⟩ := List.mem_map.1 hx
    have := okD (h5 _ hy)
    show a.toNat < n ∧ b.toNat < n ∧ a.toNat ≠ b.toNat ∧ 1 ≤ c.toNat ∧ c.toNat ≤ 65535
    omega
  · obtain ⟨⟨a, b, c⟩, hy, rfl⟩ := List.mem_map.1 hx
    have := okD (h5 _ hy)
    show c.toNat ≤ 1000
    omega
  · rw [List.map_map]
    refine List.map_congr_left fun x hx => ?_
    obtain ⟨a, b, c⟩ := x
    have := okD (h5 _ hx)
    have e1 : ((a.toNat : Nat) : Int) = a := by omega
    have e2 : ((b.toNat : Nat) : Int) = b := by omega
    have e3 : ((c.toNat : Nat) : Int) = c := by omega
    show [AVal.int .i64 a, .int .i64 b, .int .i64 c] = [.int .i64 ((a.toNat : Nat) : Int), .int .i64 ((b.toNat : Nat) : Int), .int .i64 ((c.toNat : Nat) : Int)]
    rw [e1, e2, e3]
theorem Parents_in {n x : Int} {L : List RLk} (hl : SlR 3 s lv (L.map rwR)) (hlm : L.length ≤ 9223372036854775807) (hu : Sl s uv (U.map AVal.bool))
    (hK : ∀ v s', Sub s s' → (¬ (vld n L U ∧ 0 ≤ x ∧ x < n) → v = .nilslc) → (∀ (N r : Nat), vld (N : Int) L U → n = N → r < N → x = r → ∃ d b, IsDist N (L.map toL) U r d ∧ (∀ m, m < N → -1 ≤ d m ∧ d m ≤ 32000) ∧ v = .slc b 0 N (some N) 1 ∧ s b = none ∧ s' b = some (false, .cells 3 (dl N (parL (L.map toL) U d)))) → K v s') : wpCall Try.prog XX 56 [.int .i64 n, lv, uv, .int .i64 x] K s := by
  refine vc_spf_Parents_in ?_
  refine lit1_step rfl rfl fun eb s1 heb h1 u1 => ?_
  have sub1 := u1.sub heb
  refine valid_in (es := [x]) (hl.sub sub1) hlm (hu.sub sub1) (Sl.mk h1 rfl (by simp)) (by simp) fun s2 r sub2 hr => ?_
  simp only [unary_not, optK_mk]
  have s02 := sub1.trans sub2
  cases r with
  | false =>
    have hr : ¬ (vld n L U ∧ ∀ e ∈ [x], 0 ≤ e ∧ e < n) := fun h => by have := hr.2 h; cases this
    have hr' : ¬ (vld n L U ∧ 0 ≤ x ∧ x < n) := fun h => hr ⟨h.1, fun e he => by rw [List.mem_singleton] at he; rw [he]; exact h.2⟩
    exact hK _ _ s02 (fun _ => rfl) fun N r q1 q2 q3 q4 => by
      subst q2 q4
      exact absurd ⟨q1, by omega, by omega⟩ hr'
  | true =>
    obtain ⟨hv, hx⟩ := hr.1 rfl
    have hx := hx x (by simp)
    obtain ⟨N, rfl⟩ : ∃ N : Nat, n = N := ⟨n.toNat, by have := hv.1; omega⟩
    obtain ⟨r, rfl⟩ : ∃ r : Nat, x = r := ⟨x.toNat, by omega⟩
    obtain ⟨z, hG, hN, hC, hm⟩ := hv.gok
    have hrN : r < N := by omega
    show wpCall Try.prog XX 50 _ _ s2
    refine Edges_in z hN hG (by rw [← hm]; exact hl.sub s02) (hu.sub s02) fun av s3 sub3 ha => ?_
    refine Distances_in z hN hG hC ha hrN fun d b s4 hd hdm sub4 hb h4 => ?_
    have hdd : ∀ m, m < N → -1 ≤ d m ∧ d m ≤ 32000 := fun m hm => ⟨hd.lo m hm, hdm m hm⟩
    refine parents_in z hN hG hC hdd (ha.sub sub4) (Sl.mk h4 dl_len.symm (by simp [dl_len])) fun b5 s5 hb5 h5 sub5 => ?_
    have sub := ((s02.trans sub3).trans sub4).trans sub5
    have hbs : s b5 = none := by
      cases q : s b5 with
      | none => rfl
      | some y => rw [sub4 _ _ (sub3 _ _ (s02 _ _ q))] at hb5; cases hb5
    refine hK _ _ sub (fun h => absurd ⟨hv, by omega, by omega⟩ h) fun N' r' _ e1 _ e2 => ?_
    obtain rfl : N = N' := by omega
    obtain rfl : r = r' := by omega
    exact ⟨d, b5, hd, hdd, rfl, hbs, h5⟩
theorem Dist_in {n x : Int} {L : List RLk} (hl : SlR 3 s lv (L.map rwR)) (hlm : L.length ≤ 9223372036854775807) (hu : Sl s uv (U.map AVal.bool))
    (hK : ∀ v s', Sub s s' → (¬ (vld n L U ∧ 0 ≤ x ∧ x < n) → v = .nilslc) → (∀ (N r : Nat), vld (N : Int) L U → n = N → r < N → x = r → ∃ d b, IsDist N (L.map toL) U r d ∧ (∀ m, m < N → -1 ≤ d m ∧ d m ≤ 32000) ∧ v = .slc b 0 N (some N) 1 ∧ s b = none ∧ s' b = some (false, .cells 3 (dl N d))) → K v s') : wpCall Try.prog XX 33 [.int .i64 n, lv, uv, .int .i64 x] K s := by
  refine vc_spf_Dist_in ?_
  refine lit1_step rfl rfl fun eb s1 heb h1 u1 => ?_
  have sub1 := u1.sub heb
  refine valid_in (es := [x]) (hl.sub sub1) hlm (hu.sub sub1) (Sl.mk h1 rfl (by simp)) (by simp) fun s2 r sub2 hr => ?_
  simp only [unary_not, optK_mk]
  have s02 := sub1.trans sub2
  cases r with
  | false =>
    have hr : ¬ (vld n L U ∧ ∀ e ∈ [x], 0 ≤ e ∧ e < n) := fun h => by have := hr.2 h; cases this
    have hr' : ¬ (vld n L U ∧ 0 ≤ x ∧ x < n) := fun h => hr ⟨h.1, fun e he => by rw [List.mem_singleton] at he; rw [he]; exact h.2⟩
    exact hK _ _ s02 (fun _ => rfl) fun N r q1 q2 q3 q4 => by
      subst q2 q4
      exact absurd ⟨q1, by omega, by omega⟩ hr'
  | true =>
    obtain ⟨hv, hx⟩ := hr.1 rfl
    have hx := hx x (by simp)
    obtain ⟨N, rfl⟩ : ∃ N : Nat, n = N := ⟨n.toNat, by have := hv.1; omega⟩
    obtain ⟨r, rfl⟩ : ∃ r : Nat, x = r := ⟨x.toNat, by omega⟩
    obtain ⟨z, hG, hN, hC, hm⟩ := hv.gok
    have hrN : r < N := by omega
    show wpCall Try.prog XX 50 _ _ s2
    refine Edges_in z hN hG (by rw [← hm]; exact hl.sub s02) (hu.sub s02) fun av s3 sub3 ha => ?_
    refine Distances_in z hN hG hC ha hrN fun d b s4 hd hdm sub4 hb h4 => ?_
    have hdd : ∀ m, m < N → -1 ≤ d m ∧ d m ≤ 32000 := fun m hm => ⟨hd.lo m hm, hdm m hm⟩
    have hbs : s b = none := by
      cases q : s b with
      | none => rfl
      | some y => rw [sub3 _ _ (s02 _ _ q)] at hb; cases hb
    refine hK _ _ ((s02.trans sub3).trans sub4) (fun h => absurd ⟨hv, by omega, by omega⟩ h) fun N' r' _ e1 _ e2 => ?_
    obtain rfl : N = N' := by omega
    obtain rfl : r = r' := by omega
    exact ⟨d, b, hd, hdd, rfl, hbs, h4⟩
end Go.AM
namespace Go.AM
open Go Go.Proofs
variable {K : AVal → Heap → Prop} {s s' s0 : Heap} {U : List Bool} {L : List RLk} {lnv upv v y dv : AVal} {lf sp sf : Int} {N : Nat} {d : Nat → Int}
/-! ### networks as values -/
def netC (lf sp : Int) (lnv upv : AVal) : List AVal := [.int .i64 lf, .int .i64 sp, lnv, upv]
structure NetR (s : Heap) (L : List RLk) (U : List Bool) (lnv upv : AVal) : Prop where
  l : SlR 3 s lnv (L.map rwR)
  u : Sl s upv (U.map AVal.bool)
  len : L.length ≤ 60 ∧ U.length ≤ 60
theorem NetR.sub (h : NetR s L U lnv upv) (k : Sub s s') : NetR s' L U lnv upv := ⟨h.l.sub k, h.u.sub k, h.len⟩
theorem NetR.one (h : NetR s L U lnv upv) : allOne (netC lf sp lnv upv) = true := by
  show ((AVal.int .i64 lf).one && ((AVal.int .i64 sp).one && (lnv.one && (upv.one && true)))) = true
  rw [h.l.one, h.u.one]; rfl
theorem NetR.box (h : NetR s L U lnv upv) (hK : ∀ b s', s b = none → s' b = some (false, .cells 25 (netC lf sp lnv upv)) → Upto b s s' → K (.ptr b 0) s') : boxK 25 (.agg (netC lf sp lnv upv)) K s :=
  ⟨h.one, new_step hK⟩
theorem net0 {b : Nat} {t : Bool} (h : s b = some (t, .cells 25 (netC lf sp lnv upv))) : rd1 s (.ptr b 0) = some (.int .i64 lf) := by rw [rd1_mk h]; rfl
theorem net1 {b : Nat} {t : Bool} (h : s b = some (t, .cells 25 (netC lf sp lnv upv))) : rd1 s (.ptr b 1) = some (.int .i64 sp) := by rw [rd1_mk h]; rfl
theorem net2 {b : Nat} {t : Bool} (h : s b = some (t, .cells 25 (netC lf sp lnv upv))) : rd1 s (.ptr b 2) = some lnv := by rw [rd1_mk h]; rfl
theorem net3 {b : Nat} {t : Bool} (h : s b = some (t, .cells 25 (netC lf sp lnv upv))) : rd1 s (.ptr b 3) = some upv := by rw [rd1_mk h]; rfl
theorem net4 {b : Nat} {t : Bool} (h : s b = some (t, .cells 25 (netC lf sp lnv upv))) : rdN s 4 (.ptr b 0) = some (netC lf sp lnv upv) := rdN_all h rfl
def netOk (lf sp : Int) (L : List RLk) (U : List Bool) (sf : Int) : Prop := 1 ≤ lf ∧ 0 ≤ sp ∧ vld (lf + sp) L U ∧ 0 ≤ sf ∧ sf < lf + sp
/-- what a list of distances from a node is: nothing for a network that is not valid -/
structure DistV (s0 s : Heap) (lf sp : Int) (L : List RLk) (U : List Bool) (sf : Int) (v : AVal) (N : Nat) (d : Nat → Int) : Prop where
  no : ¬ netOk lf sp L U sf → v = .nilslc ∧ N = 0
  yes : netOk lf sp L U sf → lf + sp = N ∧ IsDist N (L.map toL) U sf.toNat d ∧ (∀ m, m < N → -1 ≤ d m ∧ d m ≤ 32000) ∧ ∃ b, v = .slc b 0 N (some N) 1 ∧ s0 b = none ∧ s b = some (false, .cells 3 (dl N d))
theorem DistV.sub {v : AVal} (h : DistV s0 s lf sp L U sf v N d) (k : Sub s s') : DistV s0 s' lf sp L U sf v N d := ⟨h.no, fun q => by
  obtain ⟨a, b, c, x, e, f, g⟩ := h.yes q
  exact ⟨a, b, c, x, e, f, k _ _ g⟩⟩
theorem NetR.frz (h : NetR s L U lnv upv) : NetR (frz s) L U lnv upv := ⟨h.l.frz, h.u.frz, h.len⟩
/-- a call in frozen memory -/
theorem DistV.addf {v : AVal} {s2 : Heap} (h : DistV (AM.frz s) s2 lf sp L U sf v N d) : DistV s (add s s2) lf sp L U sf v N d := ⟨h.no, fun q => by
  obtain ⟨a, b, c, x, e, f, g⟩ := h.yes q
  exact ⟨a, b, c, x, e, frz_none.1 f, by rw [add_none (frz_none.1 f)]; exact g⟩⟩
theorem DistV.weak {v : AVal} {s1 : Heap} (h : DistV s1 s lf sp L U sf v N d) (k : Sub s0 s1) : DistV s0 s lf sp L U sf v N d := ⟨h.no, fun q => by
  obtain ⟨a, b, c, x, e, f, g⟩ := h.yes q
  refine ⟨a, b, c, x, e, ?_, g⟩
  cases r : s0 x with
  | none => rfl
  | some y => rw [k _ _ r] at f; cases f⟩
theorem DistV.sl {v : AVal} (h : DistV s0 s lf sp L U sf v N d) : Sl s v (dl N d) := by
  by_cases q : netOk lf sp L U sf
  · obtain ⟨_, _, _, b, rfl, _, g⟩ := h.yes q
    exact Sl.mk g dl_len.symm (by simp [dl_len])
  · obtain ⟨rfl, rfl⟩ := h.no q
    exact .inl ⟨rfl, rfl⟩
theorem tdist_in (hn : NetR s L U lnv upv) (hK : ∀ v s' N d, Sub s s' → DistV s s' lf sp L U sf v N d → K v s') : wpCall Try.prog XX 38 [.agg (netC lf sp lnv upv), .int .i64 sf] K s := by
  refine vc_tree_distances_in (hn.box fun b s1 hb h1 u1 => ?_)
  have sub1 := u1.sub hb
  have no : ∀ {s'}, Sub s s' → ¬ netOk lf sp L U sf → K .nilslc s' := fun {s'} h q => hK _ _ 0 (fun _ => 0) h ⟨fun _ => ⟨rfl, rfl⟩, fun p => absurd p q⟩
  simp only [addOff_ptr, Nat.zero_add, net0 h1, net1 h1, arith_lss, arith_gtr, optK_mk]
  by_cases c1 : lf < 1
  · rw [decide_eq_true c1]
    simp only [boolK_true, vc_tree_distances_j0, vc_tree_distances_j1, vc_tree_distances_j2, pickV_true, optK_mk]
    exact no sub1 fun h => by have := h.1; omega
  rw [decide_eq_false c1]
  simp only [boolK_false]
  by_cases c2 : 32 < lf
  · rw [decide_eq_true c2]
    simp only [boolK_true, vc_tree_distances_j0, vc_tree_distances_j1, vc_tree_distances_j2, pickV_true, pickV_false, optK_mk]
    exact no sub1 fun h => by have := h.2.2.1.2.1; have := h.2.1; omega
  rw [decide_eq_false c2]
  simp only [vc_tree_distances_j0, pickV_false, boolK_false, optK_mk, addOff_ptr, Nat.zero_add, net1 h1, arith_lss]
  by_cases c3 : sp < 0
  · rw [decide_eq_true c3]
    simp only [boolK_true, vc_tree_distances_j1, vc_tree_distances_j2, pickV_true, pickV_false, optK_mk]
    exact no sub1 fun h => by have := h.2.1; omega
  rw [decide_eq_false c3]
  simp only [vc_tree_distances_j1, pickV_false, boolK_false, optK_mk, addOff_ptr, Nat.zero_add, net1 h1, arith_gtr]
  by_cases c4 : 32 < sp
  · rw [decide_eq_true c4]
    simp only [boolK_true, vc_tree_distances_j2, pickV_true, pickV_false, optK_mk]
    exact no sub1 fun h => by have := h.2.2.1.2.1; have := h.1; omega
  rw [decide_eq_false c4]
  simp only [vc_tree_distances_j2, pickV_false, boolK_false, optK_mk, addOff_ptr, Nat.zero_add, net0 h1, net1 h1, net2 h1, net3 h1, arith_add]
  rw [wrap64 (by omega) (by omega)]
  refine Dist_in (hn.l.sub sub1) (by have := hn.len.1; omega) (hn.u.sub sub1) fun v s2 sub2 h0 hv => ?_
  have eq : netOk lf sp L U sf ↔ vld (lf + sp) L U ∧ 0 ≤ sf ∧ sf < lf + sp := ⟨fun h => ⟨h.2.2.1, h.2.2.2⟩, fun h => ⟨by omega, by omega, h.1, h.2⟩⟩
  by_cases q : netOk lf sp L U sf
  · have q' := eq.1 q
    obtain ⟨d, b2, g1, g2, g3, g4, g5⟩ := hv (lf + sp).toNat sf.toNat (by
      have e : (((lf + sp).toNat : Nat) : Int) = lf + sp := by omega
      rw [e]; exact q'.1) (by omega) (by omega) (by omega)
    have hb2 : s b2 = none := by
      cases r : s b2 with
      | none => rfl
      | some x => rw [sub1 _ _ r] at g4; cases g4
    exact hK v s2 _ d (sub1.trans sub2) ⟨fun h => absurd q h, fun _ => ⟨by omega, g1, g2, b2, g3, hb2, g5⟩⟩
  · refine hK v s2 0 (fun _ => 0) (sub1.trans sub2) ⟨fun _ => ⟨h0 fun h => q (eq.2 h), rfl⟩, fun h => absurd h q⟩
/-! ### roots -/
theorem Acc.app2 {elem : TypeId} {l m : List AVal} (h : Acc elem s0 s v l) (hs : Sub s0 s) (hy : Sl s y m) (hm : m ≠ []) (hl : l.length + m.length ≤ 16777216) (hK : ∀ v' s', Acc elem s0 s' v' (l ++ m) → Sub s0 s' → K v' s') : appK elem 1 v y K s :=
  h.app hy hm hl (fun i hi => by
    cases q : s0 i with
    | none => exact absurd q hi
    | some x => rw [hs i x q]; simp) fun v' s' a k => hK v' s' a fun i e hi => k i e (hs i e hi) fun b hb q => by
      rcases h with ⟨h, _⟩ | ⟨b', h0, h, _⟩
      · rw [h] at hb; cases hb
      · rw [h] at hb; cases hb; rw [q, h0] at hi; cases hi
theorem Acc.sub {elem : TypeId} {l : List AVal} (h : Acc elem s0 s v l) (k : Sub s s') : Acc elem s0 s' v l := h.imp id fun ⟨b, h0, h1, h2⟩ => ⟨b, h0, h1, k _ _ h2⟩
def iz (l : List Nat) : List AVal := l.map fun (n : Nat) => .int .i64 (n : Int)
theorem iz_len {l : List Nat} : (iz l).length = l.length := by unfold iz; simp
theorem iz_get {l : List Nat} {i : Nat} : (iz l)[i]? = l[i]?.map fun (n : Nat) => AVal.int .i64 (n : Int) := by unfold iz; simp
theorem iz_app {l m : List Nat} : iz (l ++ m) = iz l ++ iz m := by unfold iz; simp
/-- the spines of a component -/
def spn (lf : Int) (N : Nat) (d : Nat → Int) : List Nat := (List.range N).filter fun (n : Nat) => decide (lf ≤ (n : Int) ∧ 0 ≤ d n)
def rootP (lf : Int) (N : Nat) (d : Nat → Int) (g : Int) : Option Nat := (spn lf N d)[g.toNat % (spn lf N d).length]?
def rootV : Option Nat → AVal
  | some r => .tup [.int .i64 (r : Int), .bool true]
  | none => .tup [.int .i64 0, .bool false]
theorem spn_len : (spn lf N d).length ≤ N := by
  have := List.length_filter_le (fun n : Nat => decide (lf ≤ (n : Int) ∧ 0 ≤ d n)) (List.range N)
  rw [List.length_range] at this
  exact this
theorem mem_spn {n : Nat} : n ∈ spn lf N d ↔ n < N ∧ lf ≤ (n : Int) ∧ 0 ≤ d n := by
  unfold spn
  rw [List.mem_filter, List.mem_range, decide_eq_true_eq]
theorem choose_in {g : Int} (hn : NetR s L U lnv upv) (hN : N ≤ 32) (hd : Sl s dv (dl N d)) (hg : 0 ≤ g ∧ g < 4294967296) (hK : ∀ s', Sub s s' → K (rootV (rootP lf N d g)) s') : wpCall Try.prog XX 37 [.agg (netC lf sp lnv upv), dv, .int .u32 g] K s := by
  refine vc_tree_choose_in (hn.box fun b s1 hb h1 u1 => ?_)
  have sub1 := u1.sub hb
  simp only [hd.len, dl_len, optK_mk]
  refine ⟨fun ys t m => ∃ (i : Nat) (lv : AVal), ys = [lv, .int .i64 i] ∧ i ≤ N ∧ m = N - i ∧ Sub s1 t ∧ Acc 3 s1 t lv (iz ((List.range i).filter fun (n : Nat) => decide (lf ≤ (n : Int) ∧ 0 ≤ d n))), ⟨_, 0, _, rfl, by omega, rfl, .refl s1, .inl ⟨rfl, rfl⟩⟩, ?_⟩
  rintro f t m ⟨i, lv, hy, hi, rfl, st, ac⟩
  simp only [List.cons.injEq, and_true] at hy
  rw [hy.1, hy.2]
  simp only [vc_tree_choose_l0, arith_lss, optK_mk]
  refine boolK_mk (fun hlt => ?_) (fun hge => ?_)
  · have hlt : i < N := by have := of_decide_eq_true hlt; omega
    obtain ⟨p, g1, g2⟩ := (hd.sub (sub1.trans st)).get (i := i) (by rw [dl_len]; exact hlt)
    rw [dl_get hlt] at g2
    have h2 := st _ _ h1
    have nx : ∀ lv' t', Sub s1 t' → Acc 3 s1 t' lv' (iz ((List.range (i + 1)).filter fun (n : Nat) => decide (lf ≤ (n : Int) ∧ 0 ≤ d n))) → vc_tree_choose_j2 XX lv' (.int .i64 (i : Int)) (fun ys t m => ∃ (i : Nat) (lv : AVal), ys = [lv, .int .i64 i] ∧ i ≤ N ∧ m = N - i ∧ Sub s1 t ∧ Acc 3 s1 t lv (iz ((List.range i).filter fun (n : Nat) => decide (lf ≤ (n : Int) ∧ 0 ≤ d n)))) (N - i) K t' := fun lv' t' q1 q2 => by
      simp only [vc_tree_choose_j2, arith_add, optK_mk]
      rw [wrap64 (by omega) (by omega)]
      exact ⟨_, by omega, i + 1, lv', rfl, by omega, rfl, q1, q2⟩
    have fl : (List.range (i + 1)).filter (fun (n : Nat) => decide (lf ≤ (n : Int) ∧ 0 ≤ d n)) = (List.range i).filter (fun (n : Nat) => decide (lf ≤ (n : Int) ∧ 0 ≤ d n)) ++ (if lf ≤ (i : Int) ∧ 0 ≤ d i then [i] else []) := by
      rw [List.range_succ, List.filter_append]
      congr 1
      by_cases q : lf ≤ (i : Int) ∧ 0 ≤ d i
      · simp [q]
      · rw [if_neg q]; simp only [List.filter_cons, decide_eq_false q]; rfl
    simp only [g1, g2, addOff_ptr, Nat.zero_add, net0 h2, arith_geq, optK_mk]
    by_cases c1 : lf ≤ (i : Int)
    · rw [decide_eq_true c1]
      simp only [boolK_true, vc_tree_choose_j1, pickV_true, optK_mk]
      refine boolK_mk (fun c2 => ?_) (fun c2 => ?_)
      · have c2 := of_decide_eq_true c2
        refine lit1_step rfl rfl fun b3 t3 hb3 h3 u3 => ?_
        have sub3 := u3.sub hb3
        refine (ac.sub sub3).app2 (st.trans sub3) (Sl.mk h3 rfl (by simp)) (by simp) ?_ fun v' t4 a4 s4 => ?_
        · have := List.length_filter_le (fun n : Nat => decide (lf ≤ (n : Int) ∧ 0 ≤ d n)) (List.range i)
          rw [List.length_range] at this
          rw [iz_len]; simp only [List.length_singleton]; omega
        · refine nx v' t4 s4 ?_
          rw [fl, if_pos ⟨c1, c2⟩, iz_app]; exact a4
      · have c2 := of_decide_eq_false c2
        refine nx lv t st ?_
        rw [fl, if_neg (fun q => c2 q.2), List.append_nil]; exact ac
    · rw [decide_eq_false c1]
      simp only [boolK_false, vc_tree_choose_j1, pickV_false, optK_mk]
      refine nx lv t st ?_
      rw [fl, if_neg (fun q => c1 q.1), List.append_nil]; exact ac
  · have hge : i = N := by have := of_decide_eq_false hge; omega
    subst hge
    have ac : Acc 3 s1 t lv (iz (spn lf i d)) := ac
    have hlen := spn_len (lf := lf) (N := i) (d := d)
    simp only [ac.sl.len, iz_len, eqV_int, negB_mk, Bool.false_bne, optK_mk]
    cases c : (((spn lf i d).length : Int) == 0) with
    | true =>
      have c : spn lf i d = [] := List.eq_nil_of_length_eq_zero (by have := eq_of_beq c; omega)
      simp only [boolK_true]
      have e : rootP lf i d g = none := by unfold rootP; rw [c]; rfl
      have := hK t (sub1.trans st)
      rw [e] at this
      exact this
    | false =>
      have c : 0 < (spn lf i d).length := by
        have : ¬ ((spn lf i d).length : Int) = 0 := by simpa using c
        omega
      have w1 : convI .u64 (.int .u32 g) = some (.int .u64 g) := by
        show some (AVal.int .u64 (wrapK .u64 g)) = _
        rw [show wrapK .u64 g = g by simp only [wrapK]; rw [wrapM_eq _ _ _ (by omega) (by omega)]; split <;> omega]
      have w2 : convI .u64 (.int .i64 ((spn lf i d).length : Int)) = some (.int .u64 ((spn lf i d).length : Int)) := by
        show some (AVal.int .u64 (wrapK .u64 ((spn lf i d).length : Int))) = _
        rw [show wrapK .u64 ((spn lf i d).length : Int) = ((spn lf i d).length : Int) by simp only [wrapK]; rw [wrapM_eq _ _ _ (by omega) (by omega)]; split <;> omega]
      have w3 : arithV .rem (.int .u64 g) (.int .u64 ((spn lf i d).length : Int)) = some (.int .u64 ((g.toNat % (spn lf i d).length : Nat) : Int)) := by
        rw [arith_rem (by omega)]
        congr 2
        obtain ⟨k, rfl⟩ : ∃ k : Nat, g = k := ⟨g.toNat, by omega⟩
        rfl
      have hm : g.toNat % (spn lf i d).length < (spn lf i d).length := Nat.mod_lt _ c
      obtain ⟨p, g1, g2⟩ := ac.sl.get (i := g.toNat % (spn lf i d).length) (by rw [iz_len]; exact hm)
      have g1' : iaddrS 1 lv (.int .u64 ((g.toNat % (spn lf i d).length : Nat) : Int)) = some p := g1
      rw [iz_get] at g2
      have e : rootP lf i d g = some ((spn lf i d)[g.toNat % (spn lf i d).length]) := by unfold rootP; rw [List.getElem?_eq_getElem hm]
      rw [List.getElem?_eq_getElem hm] at g2
      simp only [boolK_false, w1, w2, w3, g1', g2, Option.map_some, optK_mk]
      have := hK t (sub1.trans st)
      rw [e] at this
      exact this
theorem Root_in {g : Int} (hn : NetR s L U lnv upv) (hg : 0 ≤ g ∧ g < 4294967296) (hK : ∀ v s' s2 N d, Sub s s' → DistV s s2 lf sp L U sf v N d → K (rootV (rootP lf N d g)) s') : wpCall Try.prog XX 14 [.agg (netC lf sp lnv upv), .int .i64 sf, .int .u32 g] K s := by
  refine vc_tree_Root_in (hn.box fun b s1 hb h1 u1 => ?_)
  have sub1 := u1.sub hb
  simp only [net4 h1, optK_mk]
  refine tdist_in (hn.sub sub1).frz fun v s2 N d sub2 dv _ => ?_
  have dv := dv.addf
  have sub12 : Sub s (add s1 s2) := sub1.trans sub_add
  have hN : N ≤ 32 := by
    by_cases q : netOk lf sp L U sf
    · have := (dv.yes q).1; have := q.2.2.1.2.1; omega
    · have := (dv.no q).2; omega
  refine choose_in (hn.sub sub12) hN dv.sl hg fun s3 sub3 => ?_
  have e1 : extractA (rootV (rootP lf N d g)) 0 = some (match rootP lf N d g with | some r => .int .i64 (r : Int) | none => .int .i64 0) := by
    cases rootP lf N d g <;> rfl
  have e2 : extractA (rootV (rootP lf N d g)) 1 = some (match rootP lf N d g with | some _ => .bool true | none => .bool false) := by
    cases rootP lf N d g <;> rfl
  simp only [e1, e2, optK_mk]
  have := hK v s3 _ N d (sub12.trans sub3) (dv.weak sub1)
  cases hr : rootP lf N d g with
  | none => rw [hr] at this; exact this
  | some r => rw [hr] at this; exact this
end Go.AM
namespace Go.AM
open Go Go.Proofs
variable {K : AVal → Heap → Prop} {s s' s0 : Heap} {v mv : AVal} {es : List Int}
/-! ### a copy, sorted, without repetitions -/
def Own3 (s0 s : Heap) (v : AVal) (es : List Int) : Prop := (v = .nilslc ∧ es = []) ∨ ∃ b cap, s0 b = none ∧ v = .slc b 0 es.length cap 1 ∧ s b = some (false, .cells 3 (izs es)) ∧ ∀ c, cap = some c → es = []
theorem Own3.len (h : Own3 s0 s v es) : lenOfA v = some es.length := by
  rcases h with ⟨rfl, rfl⟩ | ⟨b, cap, _, rfl, _⟩ <;> rfl
theorem Own3.sl (h : Own3 s0 s v es) : Sl s v (izs es) := by
  rcases h with ⟨rfl, rfl⟩ | ⟨b, cap, _, rfl, h1, h2⟩
  · exact .inl ⟨rfl, rfl⟩
  · exact Sl.mk h1 (by simp) fun c hc => by rw [h2 c hc]; simp
theorem Clone_in (h : Sl s mv (izs es)) (hl : es.length ≤ 1000) (hK : ∀ v s', Own3 s s' v es → Sub s s' → K v s') : wpCall Try.prog XX 74 [mv] K s := by
  refine vc_slices_Clone___int_int__in ?_
  unfold vc_slices_Clone___int_int_
  have go : (es = [] → mv ≠ .nilslc) → negB false (eqV 5 true mv .nilslc) = some (.bool false) → (optK (negB false (eqV 5 true mv .nilslc)) fun v_0 =>
  boolK v_0
   (K .nilslc s)
   (optK (fillR (repl 0 [(.int .i64 0)]) []) fun c_1 => allOne c_1 = true ∧ newK 3 c_1 (fun b_2 s_3 =>
    appK 3 1 (.slc b_2 0 0 (some 0) 1) mv (fun v_4 s_5 =>
    K v_4 s_5) s_3) s)) := fun _ h2 => by
    simp only [h2, optK_mk, boolK_false]
    refine optK_of (a := []) rfl ⟨rfl, new_step fun b s1 hb h1 u1 => ?_⟩
    have sub1 := u1.sub hb
    refine app_copy (h.sub sub1) (by rw [List.length_map]; omega) fun v' s2 sub2 g1 g2 => hK v' s2 ?_ (sub1.trans sub2)
    cases es with
    | nil => exact .inr ⟨b, some 0, hb, g1 rfl, sub2 _ _ h1, fun _ _ => rfl⟩
    | cons x r =>
      obtain ⟨c, hc, rfl, h4⟩ := g2 (by simp)
      refine .inr ⟨c, none, ?_, by simp, h4, fun c h => by cases h⟩
      cases q : s c with
      | none => rfl
      | some y => rw [sub1 _ _ q] at hc; cases hc
  rcases h with ⟨rfl, he⟩ | ⟨b, o, cap, rfl, _⟩
  · have : es = [] := by simpa using he
    subst this
    simp only [eqV_nilslc, negB_mk, Bool.false_bne, optK_mk, boolK_true]
    exact hK _ _ (.inl ⟨rfl, rfl⟩) (.refl s)
  · exact go (fun _ => by simp) (by simp)
theorem Sort_in (h : Own3 s0 s v es) (hs : Sub s0 s) (hl : es.length ≤ 1000) (hK : ∀ s', Own3 s0 s' v (sortI es) → Sub s0 s' → K (.tup []) s') : wpCall Try.prog XX 54 [v] K s := by
  have hX : XX 54 = some sortG := toldB_sort
  have hp := (sortI_perm es).length_eq
  rcases h with ⟨rfl, rfl⟩ | ⟨b, cap, hb0, rfl, hb, hc⟩
  · exact wp_told hX (wpF.ret (hK s (.inl ⟨rfl, rfl⟩) hs))
  · refine wp_sortX hX hb (by omega) fun s' h' u => hK s' (.inr ⟨b, cap, hb0, by rw [hp], h', fun c q => by rw [hc c q]; rfl⟩) fun i e hi => ?_
    rw [u i (ne_of_some hb0 hi)]; exact hs i e hi
theorem Compact_in (h : Own3 s0 s v es) (hs : Sub s0 s) (hl : es.length ≤ 1000) (hK : ∀ v' s' es', Sl s' v' (izs es') → es'.length ≤ es.length → (∀ x, x ∈ es' ↔ x ∈ es) → Sub s0 s' → (∀ b o n c, v' = .slc b o n c 1 → es' ≠ [] → s0 b = none) → K v' s') : wpCall Try.prog XX 75 [v] K s := by
  refine vc_slices_Compact___int_int__in ?_
  have h0 : ∀ b o n c, v = .slc b o n c 1 → es ≠ [] → s0 b = none := by
    rintro b o n c rfl hne
    rcases h with ⟨h, _⟩ | ⟨b', cap, hb0, h, _⟩
    · cases h
    · cases h; exact hb0
  simp only [vc_slices_Compact___int_int_, h.len, arith_lss, optK_mk]
  refine boolK_mk (fun _ => hK v s es h.sl (Nat.le_refl _) (fun _ => .rfl) hs h0) (fun hn => ?_)
  have hn : 2 ≤ es.length := by have := of_decide_eq_false hn; omega
  obtain ⟨b, hb0, hv, hb⟩ : ∃ b, s0 b = none ∧ v = .slc b 0 es.length none 1 ∧ s b = some (false, .cells 3 (izs es)) := by
    rcases h with ⟨_, rfl⟩ | ⟨b, cap, q1, q2, q3, q4⟩
    · simp at hn
    · cases cap with
      | none => exact ⟨b, q1, q2, q3⟩
      | some c => rw [q4 c rfl] at hn; simp at hn
  subst hv
  have ad : ∀ {i : Nat}, i < es.length → iaddrS 1 (.slc b 0 es.length none 1) (.int .i64 (i : Int)) = some (.ptr b i) := fun {i} hi => by
    have : Nat.blt i es.length = true := by rw [Nat.blt_eq]; exact hi
    simp [iaddrS, this]
  have gt : ∀ {l : List Int} {i : Nat} (hi : i < l.length), (izs l)[i]? = some (.int .i64 l[i]) := fun {l i} hi => by simp [hi]
  refine ⟨fun ys t m => ∃ k : Nat, ys = [.int .i64 k] ∧ 1 ≤ k ∧ k ≤ es.length ∧ m = es.length - k ∧ s = t, ⟨_, 1, rfl, by omega, by omega, rfl, rfl⟩, ?_⟩
  rintro f t m ⟨k0, hy, hk1, hk2, rfl, rfl⟩
  simp only [List.cons.injEq, and_true] at hy
  rw [hy]
  simp only [vc_slices_Compact___int_int__l0, lenOf_slc, arith_lss, optK_mk]
  refine boolK_mk (fun hlt => ?_) (fun _ => hK _ _ es h.sl (Nat.le_refl _) (fun _ => .rfl) hs h0)
  have hlt : k0 < es.length := by have := of_decide_eq_true hlt; omega
  have w1 : IntKind.i64.wrap ((k0 : Int) - 1) = ((k0 - 1 : Nat) : Int) := by rw [wrap64 (by omega) (by omega)]; omega
  simp only [ad hlt, rd1_mk hb, gt hlt, arith_sub, w1, ad (show k0 - 1 < es.length by omega), gt (show k0 - 1 < es.length by omega), eqV_int, negB_mk, Bool.false_bne, optK_mk]
  refine boolK_mk (fun heq => ?_) (fun hne => ?_)
  rotate_left
  · simp only [arith_add, optK_mk]
    rw [wrap64 (by omega) (by omega)]
    exact ⟨_, by omega, k0 + 1, rfl, by omega, by omega, rfl, by trivial⟩
  have heq : es[k0] = es[k0 - 1] := eq_of_beq heq
  have sl : ∀ {k : Nat}, k ≤ es.length → sliceS 1 (.slc b 0 es.length none 1) (some (.int .i64 (k : Int))) none none = some (.slc b k (es.length - k) none 1) := fun {k} hk => by
    simp [sliceS, bound, Nat.ble_eq_true_of_le hk]
  have sh : ∀ {k : Nat}, k ≤ es.length → sliceS 1 (.slc b 0 es.length none 1) none (some (.int .i64 (k : Int))) none = some (.slc b 0 k none 1) := fun {k} hk => by
    simp [sliceS, bound, Nat.ble_eq_true_of_le hk]
  have tk : ∀ {l : List Int} {q : Nat} (hq : q < l.length) (x : Int), x ∈ l.take (q + 1) ↔ x ∈ l.take q ∨ x = l[q] := fun {l q} hq x => by
    rw [List.take_add_one, List.getElem?_eq_getElem hq, List.mem_append]
    simp only [Option.toList, List.mem_singleton]
  simp only [sl hk2, optK_mk]
  refine ⟨fun ys t m => ∃ (k k2 : Nat) (cur : List Int), ys = [.int .i64 k, .int .i64 k2] ∧ t b = some (false, .cells 3 (izs cur)) ∧ Sub s0 t ∧ cur.length = es.length ∧ 1 ≤ k2 ∧ k0 + k2 ≤ es.length ∧ m = es.length - k0 - k2 ∧ k < k0 + k2 ∧ (∀ j, k0 + k2 - 1 ≤ j → cur[j]? = es[j]?) ∧ ∀ x, x ∈ cur.take k ↔ x ∈ es.take (k0 + k2), ⟨_, k0, 1, es, rfl, hb, hs, rfl, by omega, by omega, rfl, by omega, fun _ _ => rfl, fun x => ?_⟩, ?_⟩
  · rw [tk hlt, heq]
    refine ⟨.inl, fun q => q.elim id fun q => ?_⟩
    rw [q]
    have : k0 - 1 < (es.take k0).length := by rw [List.length_take]; omega
    have e : (es.take k0)[k0 - 1] = es[k0 - 1] := List.getElem_take
    rw [← e]; exact List.getElem_mem this
  rintro f t m ⟨k, k2, cur, hy, ht, st, hlen, c1, c2, rfl, c3, c4, c5⟩
  simp only [List.cons.injEq, and_true] at hy
  rw [hy.1, hy.2]
  simp only [vc_slices_Compact___int_int__l1, lenOf_slc, arith_lss, optK_mk]
  refine boolK_mk (fun hlt2 => ?_) (fun hge2 => ?_)
  · have hlt2 : k0 + k2 < es.length := by have := of_decide_eq_true hlt2; omega
    have ad2 : ∀ {i : Nat}, k0 + i < es.length → iaddrS 1 (.slc b k0 (es.length - k0) none 1) (.int .i64 (i : Int)) = some (.ptr b (k0 + i)) := fun {i} hi => by
      have : Nat.blt i (es.length - k0) = true := by rw [Nat.blt_eq]; omega
      simp [iaddrS, this]
    have w2 : IntKind.i64.wrap ((k2 : Int) - 1) = ((k2 - 1 : Nat) : Int) := by rw [wrap64 (by omega) (by omega)]; omega
    have g1 : cur[k0 + k2] = es[k0 + k2] := by
      have := c4 (k0 + k2) (by omega)
      rw [List.getElem?_eq_getElem (by omega), List.getElem?_eq_getElem hlt2] at this
      exact Option.some.inj this
    have g2 : cur[k0 + (k2 - 1)]'(by omega) = es[k0 + (k2 - 1)]'(by omega) := by
      have := c4 (k0 + (k2 - 1)) (by omega)
      rw [List.getElem?_eq_getElem (by omega), List.getElem?_eq_getElem (by omega)] at this
      exact Option.some.inj this
    have nx : ∀ (k' : Nat) (cur' : List Int) t', t' b = some (false, .cells 3 (izs cur')) → Sub s0 t' → cur'.length = es.length → k' < k0 + (k2 + 1) → (∀ j, k0 + (k2 + 1) - 1 ≤ j → cur'[j]? = es[j]?) → (∀ x, x ∈ cur'.take k' ↔ x ∈ es.take (k0 + (k2 + 1))) →
        vc_slices_Compact___int_int__j2 XX (.int .i64 (k' : Int)) (.int .i64 (k2 : Int)) (fun ys t m => ∃ (k k2 : Nat) (cur : List Int), ys = [.int .i64 k, .int .i64 k2] ∧ t b = some (false, .cells 3 (izs cur)) ∧ Sub s0 t ∧ cur.length = es.length ∧ 1 ≤ k2 ∧ k0 + k2 ≤ es.length ∧ m = es.length - k0 - k2 ∧ k < k0 + k2 ∧ (∀ j, k0 + k2 - 1 ≤ j → cur[j]? = es[j]?) ∧ ∀ x, x ∈ cur.take k ↔ x ∈ es.take (k0 + k2)) (es.length - k0 - k2) (fun ys t m => ∃ k : Nat, ys = [.int .i64 k] ∧ 1 ≤ k ∧ k ≤ es.length ∧ m = es.length - k ∧ s = t) (es.length - k0) K t' := fun k' cur' t' q1 q2 q3 q4 q5 q6 => by
      simp only [vc_slices_Compact___int_int__j2, arith_add, optK_mk]
      rw [wrap64 (by omega) (by omega)]
      exact ⟨_, by omega, k', k2 + 1, cur', rfl, q1, q2, q3, by omega, by omega, rfl, q4, q5, q6⟩
    have tk2 := fun x => tk (l := es) (q := k0 + k2) hlt2 x
    simp only [ad2 hlt2, rd1_mk ht, gt (show k0 + k2 < cur.length by omega), arith_sub, w2, ad2 (show k0 + (k2 - 1) < es.length by omega), gt (show k0 + (k2 - 1) < cur.length by omega), eqV_int, negB_mk, Bool.true_bne, optK_mk, g1, g2]
    refine boolK_mk (fun hd => ?_) (fun hd => ?_)
    · have hk : k < es.length := by omega
      simp only [ad hk, optK_mk]
      refine wr1_step ht (by rw [List.length_map]; omega) rfl fun t3 h3 u3 => ?_
      have e3 : (izs cur).set k (.int .i64 es[k0 + k2]) = izs (cur.set k es[k0 + k2]) := (List.map_set ..).symm
      rw [e3] at h3
      simp only [arith_add, optK_mk]
      rw [wrap64 (by omega) (by omega)]
      refine nx (k + 1) _ t3 h3 (fun i e hi => by rw [u3 i (ne_of_some hb0 hi)]; exact st i e hi) (by simpa using hlen) (by omega) (fun j hj => ?_) fun x => ?_
      · rw [List.getElem?_set_ne (by omega)]
        exact c4 j (by omega)
      · have e4 := tk (l := cur.set k es[k0 + k2]) (q := k) (by rw [List.length_set]; omega) x
        rw [e4, show k0 + (k2 + 1) = k0 + k2 + 1 by omega, tk2, List.getElem_set_self, List.take_set_of_le (by omega), c5]
    · have hd : es[k0 + k2] = es[k0 + (k2 - 1)] := by simpa using hd
      refine nx k cur t ht st hlen (by omega) (fun j hj => c4 j (by omega)) fun x => ?_
      rw [c5, show k0 + (k2 + 1) = k0 + k2 + 1 by omega, tk2]
      refine ⟨.inl, fun q => q.elim id fun q => ?_⟩
      rw [q, hd]
      have : k0 + (k2 - 1) < (es.take (k0 + k2)).length := by rw [List.length_take]; omega
      have e : (es.take (k0 + k2))[k0 + (k2 - 1)] = es[k0 + (k2 - 1)] := List.getElem_take
      rw [← e]; exact List.getElem_mem this
  · have hge2 : k0 + k2 = es.length := by have := of_decide_eq_false hge2; omega
    rw [hge2] at c3 c5
    rw [List.take_length] at c5
    simp only [sl (show k ≤ es.length by omega), optK_mk]
    unfold clearK
    refine ⟨rfl, ?_⟩
    obtain ⟨m, hm⟩ : ∃ m, es.length - k = m + 1 := ⟨es.length - k - 1, by omega⟩
    rw [hm]
    simp only
    have e1 : wrN t (.ptr b k) (repl (m + 1) [.int .i64 0]) = some (hset t b (false, .cells 3 (setRange (izs cur) k (repl (m + 1) [.int .i64 0])))) := by
      have e2 : Nat.ble (k + (repl (m + 1) [AVal.int .i64 0]).length) (izs cur).length = true := by
        rw [repl_one, List.length_replicate, List.length_map, Nat.ble_eq]; omega
      have e3 : allOne (repl (m + 1) [AVal.int .i64 0]) = true := by
        rw [repl_one]
        have : ∀ n, allOne (List.replicate n (AVal.int .i64 0)) = true := fun n => by
          induction n with
          | zero => rfl
          | succ n ih => rw [List.replicate_succ, allOne_cons, ih]; rfl
        exact this _
      simp only [wrN, ht, e2, e3, Bool.and_self, cond_true]
    simp only [e1, optK_mk, sh (show k ≤ es.length by omega)]
    refine hK _ _ (cur.take k) (.inr ⟨b, 0, none, by rw [List.length_map, List.length_take, Nat.min_eq_left (by omega)], (fun c h => by cases h), fun _ => ⟨false, 3, _, hset_eq, ?_, fun i hi => ?_⟩⟩) ?_ c5 (fun i e hi => ?_) fun b' o n c q _ => by cases q; exact hb0
    · unfold setRange
      rw [List.length_map, List.length_take, List.length_append, List.length_append, List.length_take, List.length_map]
      omega
    · rw [List.length_map, List.length_take] at hi
      unfold setRange
      rw [Nat.zero_add, List.append_assoc, List.getElem?_append_left (by rw [List.length_take, List.length_map]; omega)]
      exact congrArg (fun l : List AVal => l[i]?) (List.map_take ..).symm
    · rw [List.length_take]; omega
    · rw [hset_other (ne_of_some hb0 hi)]; exact st i e hi
end Go.AM
namespace Go.AM
open Go Go.Proofs
variable {K : AVal → Heap → Prop} {s s' s0 : Heap} {U : List Bool} {L : List RLk} {lnv upv v dv mv : AVal} {lf sp : Int} {N r : Nat} {G : List Lnk} {d : Nat → Int}
/-! ### grow: links are put into the tree -/
def kv (keys : List Nat) : List (Int × AVal) := keys.map fun (k : Nat) => ((k : Int), AVal.agg [])
theorem kv_keys {keys : List Nat} : (kv keys).map (·.1) = keys.map fun (k : Nat) => (k : Int) := by unfold kv; rw [List.map_map]; rfl
theorem kv_len {keys : List Nat} : (kv keys).length = keys.length := by unfold kv; simp
theorem kv_look {keys : List Nat} {i : Nat} : look (kv keys) (i : Int) = if i ∈ keys then some (.agg []) else none := by
  induction keys with
  | nil => rfl
  | cons k l ih =>
    have : kv (k :: l) = ((k : Int), AVal.agg []) :: kv l := rfl
    rw [this, look_cons, ih]
    simp only [List.mem_cons]
    by_cases e : k = i
    · subst e; simp
    · rw [if_neg (show ¬ (k : Int) = (i : Int) by omega)]
      by_cases q : i ∈ l
      · rw [if_pos q, if_pos (.inr q)]
      · rw [if_neg q, if_neg (by rintro (h | h); exact e h.symm; exact q h)]
theorem kv_stor {keys : List Nat} {i : Nat} (h : i ∉ keys) : stor (kv keys) (i : Int) (.agg []) = kv (keys ++ [i]) := by
  unfold stor
  rw [kv_look, if_neg h]
  unfold kv; simp
theorem MapAt.sub {b : Nat} {l : List (Int × AVal)} (h : MapAt s b l) (k : Sub s s') : MapAt s' b l := by
  obtain ⟨es, c, h1, h2⟩ := h
  exact ⟨es, c, k _ _ h1, h2⟩
theorem MapAt.ne {b i : Nat} {l : List (Int × AVal)} (h : MapAt s b l) {t : Bool} {e : TypeId} {cs : List AVal} (hi : s i = some (t, .cells e cs)) : i ≠ b := by
  rintro rfl
  obtain ⟨es, c, h1, _⟩ := h
  rw [h1] at hi; cases hi
theorem MapAt.nel {b i : Nat} {l : List (Int × AVal)} (h : MapAt s b l) {t : Bool} {st : LoopState} {pd : Option Code} {nt : Nat} {kp : List (Nat × AVal)} {ps : List Tmp} {ac bo : Code} {n : Nat} (hi : s i = some (t, .loop st pd nt kp ps ac bo n)) : i ≠ b := by
  rintro rfl
  obtain ⟨es, c, h1, _⟩ := h
  rw [h1] at hi; cases hi
/-- the memory of 'grow' but for the map -/
structure GrC (s : Heap) (bp bt ba bx mb : Nat) (N : Nat) (p : Nat → Int) (G : List Lnk) (lf sp : Int) (lnv upv : AVal) : Prop where
  par : ∃ pb, s bp = some (false, .cells 28 [.slc pb 0 N (some N) 1]) ∧ s pb = some (false, .cells 3 (dl N p))
  tr : s bt = some (false, .cells 83 [.map mb])
  ad : s ba = some (false, .cells 96 [.fn (.func 57) [] [.ptr bp 0, .ptr bt 0, .ptr ba 0, .ptr bx 0]])
  nx : s bx = some (false, .cells 25 (netC lf sp lnv upv))
  ln : SlR 3 s lnv (G.map lkR)
theorem GrC.keep {bp bt ba bx mb : Nat} {p : Nat → Int} (h : GrC s bp bt ba bx mb N p G lf sp lnv upv) {fp : Nat → Prop} (k : KeepBut fp s s') (hfp : ∀ i t e cs, s i = some (t, .cells e cs) → ¬ fp i) : GrC s' bp bt ba bx mb N p G lf sp lnv upv := by
  obtain ⟨⟨pb, h1, h2⟩, h3, h4, h5, h6⟩ := h
  refine ⟨⟨pb, k _ _ h1 (hfp _ _ _ _ h1), k _ _ h2 (hfp _ _ _ _ h2)⟩, k _ _ h3 (hfp _ _ _ _ h3), k _ _ h4 (hfp _ _ _ _ h4), k _ _ h5 (hfp _ _ _ _ h5), h6.1, ?_⟩
  rcases h6.2 with q | ⟨b, o, cap, q1, q2, q3⟩
  · exact .inl q
  · refine .inr ⟨b, o, cap, q1, q2, fun hne => ?_⟩
    obtain ⟨t, e, cs, w1, w2⟩ := q3 hne
    exact ⟨t, e, cs, k _ _ w1 (hfp _ _ _ _ w1), w2⟩
theorem add_in {bp bt ba bx mb : Nat} (z : GOk N G U) (hN : N ≤ 32) (hG : G.length ≤ 128) (h : IsDist N G U r d) : ∀ (k n : Nat) (keys : List Nat) (t : Heap) (K : AVal → Heap → Prop), n < N → (d n).toNat = k → GrC t bp bt ba bx mb N (parL G U d) G lf sp lnv upv → MapAt t mb (kv keys) →
    (∀ n' i, d n' ≤ d n → parL G U d n' = ((i : Nat) : Int) → i ∈ keys → ∀ j, OnP G (parL G U d) n' j → j ∈ keys) →
    (∀ t' keys', MapAt t' mb (kv keys') → KeepBut (fun b => b = mb) t t' → (∀ j, j ∈ keys' ↔ j ∈ keys ∨ OnP G (parL G U d) n j) → K (.tup []) t') →
    wpCall Try.prog XX 57 [.int .i64 (n : Int), .ptr bp 0, .ptr bt 0, .ptr ba 0, .ptr bx 0] K t := by
  intro k
  induction k using Nat.strongRecOn with
  | _ k ih =>
  intro n keys t K hn hk g hm hcl hK
  refine vc_tree_grow_1_in ?_
  obtain ⟨⟨pb, h1, h2⟩, h3, h4, h5, h6⟩ := g
  have ad : iaddrS 1 (.slc pb 0 N (some N) 1) (.int .i64 (n : Int)) = some (.ptr pb n) := by
    have : Nat.blt n N = true := by rw [Nat.blt_eq]; exact hn
    simp [iaddrS, this]
  simp only [vc_tree_grow_1, rd1_mk h1, List.getElem?_cons_zero, ad, rd1_mk h2, dl_get hn, arith_lss, optK_mk]
  rcases parL_cases G U d n with ⟨e, _⟩ | ⟨i, _, _, e, _, _⟩
  · rw [e, decide_eq_true (show (-1 : Int) < 0 by omega)]
    simp only [boolK_true]
    refine hK t keys hm (.refl _ t) fun j => ⟨.inl, fun q => q.elim id fun q => ?_⟩
    obtain ⟨i, hi⟩ := q.no
    rw [e] at hi; omega
  rw [e, decide_eq_false (show ¬ (i : Int) < 0 by omega)]
  obtain ⟨m, c, he, hfar, _, mN, m0, hd, c1⟩ := par_some z h e
  simp only [boolK_false, rd1_mk h3, List.getElem?_cons_zero, optK_mk, hm.get, kv_look]
  have r1 : ∀ o : Option AVal, (o = none ∨ o = some (.agg [])) → extractA (retM (.agg []) true o) 0 = some (.agg []) := by rintro o (rfl | rfl) <;> rfl
  by_cases hin : i ∈ keys
  · rw [if_pos hin]
    simp only [r1 _ (.inr rfl), show extractA (retM (.agg []) true (some (.agg []))) 1 = some (.bool true) from rfl, optK_mk]
    refine new_step fun b t1 hb h7 u7 => wrAgg_step h7 rfl rfl rfl fun t2 h8 u8 => ?_
    have sub2 : Sub t t2 := sub_upto (u7.sub hb) u8 hb
    simp only [boolK_true]
    refine hK t2 keys (hm.sub sub2) sub2.keep fun j => ⟨.inl, fun q => q.elim id fun q => hcl n i (Int.le_refl _) e hin j q⟩
  · rw [if_neg hin]
    simp only [r1 _ (.inl rfl), show extractA (retM (.agg []) true none) 1 = some (.bool false) from rfl, optK_mk]
    refine new_step fun b t1 hb h7 u7 => wrAgg_step h7 rfl rfl rfl fun t2 h8 u8 => ?_
    have sub2 : Sub t t2 := sub_upto (u7.sub hb) u8 hb
    have g2 : GrC t2 bp bt ba bx mb N (parL G U d) G lf sp lnv upv := GrC.keep ⟨⟨pb, h1, h2⟩, h3, h4, h5, h6⟩ (fp := fun _ => False) sub2.keep fun _ _ _ _ _ h => h
    have hiG := par_lt z h e
    simp only [boolK_false, rd1_mk g2.tr, List.getElem?_cons_zero, optK_mk]
    refine optK_of (a := []) rfl ((hm.sub sub2).put (by omega) fun t3 hm3 u3 => ?_)
    rw [kv_stor hin] at hm3
    have g3 : GrC t3 bp bt ba bx mb N (parL G U d) G lf sp lnv upv := g2.keep (fp := fun b => b = mb) (u3.keep rfl) fun i t e cs hi => (hm.sub sub2).ne hi
    obtain ⟨x, hx⟩ : ∃ x, G[i]? = some x := ⟨_, List.getElem?_eq_getElem hiG⟩
    obtain ⟨a, p, cc⟩ := x
    obtain ⟨lb, lo, e1, _, e3⟩ := g3.ln.get (i := i) (r := lkR (a, p, cc)) (by rw [List.getElem?_map, hx]; rfl)
    have q0 : rd1 t3 (.ptr lb lo) = some (.int .i64 (a : Int)) := e3 0 (by omega)
    have q1 : rd1 t3 (.ptr lb (lo + 1)) = some (.int .i64 (p : Int)) := e3 1 (by omega)
    have hx2 := z.ok _ (List.mem_of_getElem? hx)
    have hfm : a + p - n = m := by unfold far at hfar; rw [hx] at hfar; exact hfar
    have hap : n = a ∧ m = p ∨ n = p ∧ m = a := by
      rcases he.2 with q | q <;> rw [hx] at q <;> simp only [Option.some.injEq, Prod.mk.injEq] at q
      · exact .inl ⟨q.1.symm, q.2.1.symm⟩
      · exact .inr ⟨q.2.1.symm, q.1.symm⟩
    have b1 : a < N := hx2.1
    have b2 : p < N := hx2.2.1
    have w1 : IntKind.i64.wrap ((a : Int) + (p : Int)) = (a : Int) + p := wrap64 (by omega) (by omega)
    have w2 : IntKind.i64.wrap ((a : Int) + (p : Int) - (n : Int)) = (m : Int) := by rw [wrap64 (by omega) (by omega)]; omega
    simp only [rd1_mk g3.ad, List.getElem?_cons_zero, addOff_ptr, Nat.zero_add, net2 g3.nx, e1, Nat.add_zero, q0, q1, arith_add, w1, arith_sub, w2, optK_mk]
    refine ⟨by kernel_rfl, ?_⟩
    show wpCall Try.prog XX 57 [.int .i64 (m : Int), .ptr bp 0, .ptr bt 0, .ptr ba 0, .ptr bx 0] _ t3
    refine ih (d m).toNat (by omega) m (keys ++ [i]) t3 _ mN (by omega) g3 hm3 (fun n' i' hd' hp' hi' j hj => ?_) fun t' keys' hm' k' hmem => ?_
    · rcases List.mem_append.1 hi' with q | q
      · exact List.mem_append_left _ (hcl n' i' (by omega) hp' q j hj)
      · rw [List.mem_singleton] at q
        subst q
        have := par_inj z h e hp'
        subst this
        omega
    · refine hK t' keys' hm' ((sub2.keep.trans (u3.keep (fp := fun b => b = mb) rfl)).trans k') fun j => ?_
      rw [hmem j, OnP.iff e, hfar, List.mem_append, List.mem_singleton]
      constructor
      · rintro ((q | q) | q)
        · exact .inl q
        · exact .inr (.inl q)
        · exact .inr (.inr q)
      · rintro (q | q | q)
        · exact .inl (.inl q)
        · exact .inl (.inr q)
        · exact .inr q
end Go.AM
namespace Go.AM
open Go Go.Proofs
variable {K : AVal → Heap → Prop} {s s' s0 t : Heap} {U : List Bool} {L : List RLk} {lnv upv v dv mv : AVal} {lf sp sf : Int} {N r : Nat} {G : List Lnk} {d ds : Nat → Int} {es : List Int}
theorem Sl.keepc {l : List AVal} {fp : Nat → Prop} (h : Sl s v l) (k : KeepBut fp s s') (hfp : ∀ i t e cs, s i = some (t, .cells e cs) → ¬ fp i) : Sl s' v l := by
  rcases h with q | ⟨b, o, cap, q1, q2, q3⟩
  · exact .inl q
  · refine .inr ⟨b, o, cap, q1, q2, fun hne => ?_⟩
    obtain ⟨t, e, cs, w1, w2⟩ := q3 hne
    exact ⟨t, e, cs, k _ _ w1 (hfp _ _ _ _ w1), w2⟩
/-! ### members, one after the other -/
noncomputable abbrev rdyG (ba d : Nat) : Blk := .loop .ready none 35 [(11, .ptr ba 0)] [30] (rfAs 0 (bodyOf Try.f43)) (rfBo 0 (bodyOf Try.f43)) d
theorem grow_round {bp bt ba bx mb l e n : Nat} {keys : List Nat} (z : GOk N G U) (hN : N ≤ 32) (hG : G.length ≤ 128) (h : IsDist N G U r d) (hn : n < N) (hl : t l = some (false, rdyG ba e)) (g : GrC t bp bt ba bx mb N (parL G U d) G lf sp lnv upv) (hm : MapAt t mb (kv keys))
    (hcl : ∀ n' i, parL G U d n' = ((i : Nat) : Int) → i ∈ keys → ∀ j, OnP G (parL G U d) n' j → j ∈ keys)
    (hK : ∀ t' keys', t' l = some (false, rdyG ba e) → MapAt t' mb (kv keys') → KeepBut (fun b => b = mb ∨ b = l) t t' → (∀ j, j ∈ keys' ↔ j ∈ keys ∨ OnP G (parL G U d) n j) → K (.bool true) t') : wpRound Try.prog XX l [.int .i64 (n : Int)] K t := by
  refine vc_tree_grow_r0_in hl ⟨rfl, ?_⟩
  unfold beginK
  rw [hl]
  simp only
  have u1 : Upto l t (hset t l (false, .loop .busy none 35 [(11, .ptr ba 0)] [30] (rfAs 0 (bodyOf Try.f43)) (rfBo 0 (bodyOf Try.f43)) e)) := fun _ hi => hset_other hi
  have l1 : hset t l (false, .loop .busy none 35 [(11, .ptr ba 0)] [30] (rfAs 0 (bodyOf Try.f43)) (rfBo 0 (bodyOf Try.f43)) e) l = some (false, .loop .busy none 35 [(11, .ptr ba 0)] [30] (rfAs 0 (bodyOf Try.f43)) (rfBo 0 (bodyOf Try.f43)) e) := hset_eq
  generalize hset t l (false, .loop .busy none 35 [(11, .ptr ba 0)] [30] (rfAs 0 (bodyOf Try.f43)) (rfBo 0 (bodyOf Try.f43)) e) = t1 at u1 l1
  have nc : ∀ i t' e' cs, t i = some (t', .cells e' cs) → ¬ (i = l) := fun i t' e' cs hi q => by rw [q, hl] at hi; cases hi
  have g1 := g.keep (fp := fun b => b = l) (u1.keep rfl) nc
  have hml : mb ≠ l := by
    rintro rfl
    obtain ⟨_, _, q, _⟩ := hm
    rw [hl] at q; cases q
  have hm1 : MapAt t1 mb (kv keys) := by
    obtain ⟨es, c, q1, q2⟩ := hm
    exact ⟨es, c, by rw [u1 mb hml]; exact q1, q2⟩
  simp only [rd1_mk g1.ad, List.getElem?_cons_zero, optK_mk]
  refine ⟨by kernel_rfl, ?_⟩
  show wpCall Try.prog XX 57 [.int .i64 (n : Int), .ptr bp 0, .ptr bt 0, .ptr ba 0, .ptr bx 0] _ t1
  refine add_in z hN hG h _ n keys t1 _ hn rfl g1 hm1 (fun n' i _ => hcl n' i) fun t2 keys' hm2 k2 hmem => ?_
  have l2 : t2 l = _ := k2 _ _ l1 (Ne.symm hml)
  unfold endK
  rw [l2]
  simp only
  have u3 : Upto l t2 (hset t2 l (false, rdyG ba e)) := fun _ hi => hset_other hi
  refine hK _ keys' hset_eq ?_ (fun i x hi hne => ?_) hmem
  · obtain ⟨es, c, q1, q2⟩ := hm2
    exact ⟨es, c, by rw [u3 mb hml]; exact q1, q2⟩
  · rw [u3 i fun q => hne (.inr q)]
    refine k2 i x ?_ fun q => hne (.inl q)
    rw [u1 i fun q => hne (.inr q)]; exact hi
def Mem (es : List Int) (lf : Int) (ds : Nat → Int) (m : Nat) : Prop := (m : Int) ∈ es ∧ (m : Int) < lf ∧ 0 ≤ ds m
theorem closedT (z : GOk N G U) (h : IsDist N G U r d) {M : Nat → Prop} {keys : List Nat} (hk : ∀ j, j ∈ keys ↔ InT G (parL G U d) M j) : ∀ n' i, parL G U d n' = ((i : Nat) : Int) → i ∈ keys → ∀ j, OnP G (parL G U d) n' j → j ∈ keys := fun n' i hp hi j hj => (hk j).2 (((hk i).1 hi).closed z h hp hj)
theorem inside1_in {bp bt ba bx mb l e c0 c1 c2 : Nat} (z : GOk N G U) (hN : N ≤ 32) (hG : G.length ≤ 128) (h : IsDist N G U r d) (hlf : lf ≤ N) (hl : t l = some (false, rdyG ba e)) (g : GrC t bp bt ba bx mb N (parL G U d) G lf sp lnv upv) (hm : MapAt t mb (kv []))
    (q0 : t c0 = some (false, .cells 28 [mv])) (q1 : t c1 = some (false, .cells 25 (netC lf sp lnv upv))) (q2 : t c2 = some (false, .cells 28 [dv])) (hmv : Sl t mv (izs es)) (hes : es.length ≤ 60) (hdv : Sl t dv (dl N ds))
    (hK : ∀ v t' keys, t' l = some (false, rdyG ba e) → MapAt t' mb (kv keys) → KeepBut (fun b => b = mb ∨ b = l) t t' → (∀ j, j ∈ keys ↔ InT G (parL G U d) (Mem es lf ds) j) → K v t') : wpCall Try.prog XX 73 [.yield l, .ptr c0 0, .ptr c1 0, .ptr c2 0] K t := by
  refine vc_tree_inside_1_in ?_
  simp only [vc_tree_inside_1, rd1_mk q0, List.getElem?_cons_zero, optK_mk]
  refine Clone_in hmv (by omega) fun v s2 o2 sub2 => Sort_in o2 sub2 (by omega) fun s4 o4 sub4 => ?_
  have hsl := (sortI_perm es).length_eq
  refine Compact_in o4 sub4 (by omega) fun v5 s6 es' sl5 hle hmem sub6 _ => ?_
  have hmem : ∀ x, x ∈ es' ↔ x ∈ es := fun x => (hmem x).trans (sortI_perm es).mem_iff
  simp only [sl5.len, List.length_map, optK_mk]
  have l6 := sub6 _ _ hl
  have m6 := hm.sub sub6
  have g6 := g.keep (fp := fun _ => False) sub6.keep fun _ _ _ _ _ h => h
  have d6 := hdv.sub sub6
  have c16 := sub6 _ _ q1
  have c26 := sub6 _ _ q2
  have nc : ∀ i t' e' cs, s6 i = some (t', .cells e' cs) → ¬ (i = mb ∨ i = l) := fun i t' e' cs hi q => by
    rcases q with q | q
    · exact m6.ne hi q
    · rw [q, l6] at hi; cases hi
  refine ⟨fun ys t m => ∃ (i : Nat) (keys : List Nat), ys = [.int .i64 i] ∧ i ≤ es'.length ∧ m = es'.length - i ∧ t l = some (false, rdyG ba e) ∧ MapAt t mb (kv keys) ∧ KeepBut (fun b => b = mb ∨ b = l) s6 t ∧ ∀ j, j ∈ keys ↔ InT G (parL G U d) (Mem (es'.take i) lf ds) j, ⟨_, 0, [], rfl, by omega, rfl, l6, m6, .refl _ s6, fun j => ⟨(fun h => by cases h), fun ⟨m, ⟨h, _⟩, _⟩ => by simp at h⟩⟩, ?_⟩
  rintro f t1 m ⟨i, keys, hy, hi, rfl, hl1, hm1, k1, hkeys⟩
  simp only [List.cons.injEq, and_true] at hy
  rw [hy]
  simp only [vc_tree_inside_1_l0, arith_lss, optK_mk]
  refine boolK_mk (fun hlt => ?_) (fun hge => ?_)
  · have hlt : i < es'.length := by have := of_decide_eq_true hlt; omega
    obtain ⟨p, a1, a2⟩ := (sl5.keepc k1 nc).get (i := i) (by rw [List.length_map]; exact hlt)
    have a3 : (izs es')[i]? = some (.int .i64 es'[i]) := by simp [hlt]
    rw [a3] at a2
    have c11 := k1 _ _ c16 (nc _ _ _ _ c16)
    have c21 := k1 _ _ c26 (nc _ _ _ _ c26)
    have d1 := d6.keepc k1 nc
    have g1 := g6.keep k1 nc
    have tk : ∀ x, x ∈ es'.take (i + 1) ↔ x ∈ es'.take i ∨ x = es'[i] := fun x => by
      rw [List.take_add_one, List.getElem?_eq_getElem hlt, List.mem_append]
      simp only [Option.toList, List.mem_singleton]
    have stay : ¬ (0 ≤ es'[i] ∧ es'[i] < lf ∧ 0 ≤ ds es'[i].toNat) → ∀ j, j ∈ keys ↔ InT G (parL G U d) (Mem (es'.take (i + 1)) lf ds) j := fun hno j => by
      rw [hkeys j]
      refine ⟨fun ⟨m, ⟨h1, h2⟩, h3⟩ => ⟨m, ⟨(tk _).2 (.inl h1), h2⟩, h3⟩, fun ⟨m, ⟨h1, h2⟩, h3⟩ => ⟨m, ⟨?_, h2⟩, h3⟩⟩
      rcases (tk _).1 h1 with q | q
      · exact q
      · refine absurd ⟨by omega, by omega, ?_⟩ hno
        rw [← q]
        exact h2.2
    have nx : ∀ t' keys', t' l = some (false, rdyG ba e) → MapAt t' mb (kv keys') → KeepBut (fun b => b = mb ∨ b = l) s6 t' → (∀ j, j ∈ keys' ↔ InT G (parL G U d) (Mem (es'.take (i + 1)) lf ds) j) → ∃ m', m' < es'.length - i ∧ ∃ (q : Nat) (keys : List Nat), [AVal.int .i64 ((i : Int) + 1)] = [.int .i64 q] ∧ q ≤ es'.length ∧ m' = es'.length - q ∧ t' l = some (false, rdyG ba e) ∧ MapAt t' mb (kv keys) ∧ KeepBut (fun b => b = mb ∨ b = l) s6 t' ∧ ∀ j, j ∈ keys ↔ InT G (parL G U d) (Mem (es'.take q) lf ds) j := fun t' keys' w1 w2 w3 w4 => ⟨_, by omega, i + 1, keys', rfl, by omega, rfl, w1, w2, w3, w4⟩
    simp only [a1, a2, arith_geq, optK_mk]
    by_cases b1 : 0 ≤ es'[i]
    · rw [decide_eq_true b1]
      simp only [boolK_true, addOff_ptr, Nat.zero_add, net0 c11, arith_lss, optK_mk]
      by_cases b2 : es'[i] < lf
      · rw [decide_eq_true b2]
        obtain ⟨n, hn⟩ : ∃ n : Nat, es'[i] = n := ⟨es'[i].toNat, by omega⟩
        have hnN : n < N := by omega
        obtain ⟨p2, a4, a5⟩ := d1.get (i := n) (by rw [dl_len]; exact hnN)
        rw [dl_get hnN] at a5
        simp only [vc_tree_inside_1_j1, pickV_true, optK_mk, boolK_true, rd1_mk c21, List.getElem?_cons_zero, hn, a4, a5, arith_geq]
        by_cases b3 : 0 ≤ ds n
        · rw [decide_eq_true b3]
          simp only [vc_tree_inside_1_j2, pickV_true, optK_mk, boolK_true]
          refine ⟨by unfold loopLen; rw [hl1]; rfl, grow_round z hN hG h hnN hl1 g1 hm1 (closedT z h hkeys) fun t2 keys2 hl2 hm2 k2 hk2 => ?_⟩
          simp only [unary_not, Bool.not_true, vc_tree_inside_1_j3, pickV_true, optK_mk, boolK_false, arith_add]
          rw [wrap64 (by omega) (by omega)]
          refine nx t2 keys2 hl2 hm2 (k1.trans k2) fun j => ?_
          rw [hk2 j, hkeys j]
          constructor
          · rintro (⟨m, ⟨h1, h2⟩, h3⟩ | h3)
            · exact ⟨m, ⟨(tk _).2 (.inl h1), h2⟩, h3⟩
            · exact ⟨n, ⟨(tk _).2 (.inr hn.symm), by omega, b3⟩, h3⟩
          · rintro ⟨m, ⟨h1, h2⟩, h3⟩
            rcases (tk _).1 h1 with q | q
            · exact .inl ⟨m, ⟨q, h2⟩, h3⟩
            · have : m = n := by omega
              subst this
              exact .inr h3
        · rw [decide_eq_false b3]
          simp only [vc_tree_inside_1_j2, vc_tree_inside_1_j3, pickV_true, pickV_false, optK_mk, boolK_false, arith_add]
          rw [wrap64 (by omega) (by omega)]
          refine nx t1 keys hl1 hm1 k1 (stay fun q => b3 ?_)
          have := q.2.2
          rw [hn] at this
          exact this
      · rw [decide_eq_false b2]
        simp only [vc_tree_inside_1_j1, vc_tree_inside_1_j2, vc_tree_inside_1_j3, pickV_true, pickV_false, optK_mk, boolK_false, arith_add]
        rw [wrap64 (by omega) (by omega)]
        exact nx t1 keys hl1 hm1 k1 (stay fun q => b2 q.2.1)
    · rw [decide_eq_false b1]
      simp only [boolK_false, vc_tree_inside_1_j1, vc_tree_inside_1_j2, vc_tree_inside_1_j3, pickV_false, optK_mk, arith_add]
      rw [wrap64 (by omega) (by omega)]
      exact nx t1 keys hl1 hm1 k1 (stay fun q => b1 q.1)
  · have hge : i = es'.length := by have := of_decide_eq_false hge; omega
    subst hge
    rw [List.take_length] at hkeys
    refine hK _ t1 keys hl1 hm1 (sub6.keep.trans k1) fun j => ?_
    rw [hkeys j]
    exact ⟨fun ⟨m, ⟨h1, h2⟩, h3⟩ => ⟨m, ⟨(hmem _).1 h1, h2⟩, h3⟩, fun ⟨m, ⟨h1, h2⟩, h3⟩ => ⟨m, ⟨(hmem _).2 h1, h2⟩, h3⟩⟩
end Go.AM
namespace Go.AM
open Go Go.Proofs
variable {K : AVal → Heap → Prop} {s s' s0 t : Heap} {U : List Bool} {L : List RLk} {lnv upv v dv mv : AVal} {lf sp sf : Int} {N r : Nat} {ds : Nat → Int} {es : List Int}
theorem grow_in (hn : NetR s L U lnv upv) (hok : vld (N : Int) L U) (hsum : lf + sp = N) (h1 : 1 ≤ lf) (h2 : 0 ≤ sp) (hr : r < N) (hdv : Sl s dv (dl N ds)) (hmv : Sl s mv (izs es)) (hes : es.length ≤ 60)
    (hK : ∀ mb s' keys d, IsDist N (L.map toL) U r d → MapAt s' mb (kv keys) → Sub s s' → (∀ j, j ∈ keys ↔ InT (L.map toL) (parL (L.map toL) U d) (Mem es lf ds) j) → K (.map mb) s') : wpCall Try.prog XX 43 [.agg (netC lf sp lnv upv), dv, .int .i64 (r : Int), mv] K s := by
  obtain ⟨z, hG, hN, hC, hmp⟩ := hok.gok
  refine vc_tree_grow_in (hn.box fun bx s1 hbx x1 u1 => map_new fun mb s2 hmb m2 u2 => new_step fun bt s3 hbt t3 u3 => wr1_step t3 (by simp) rfl fun s4 t4 u4 => ?_)
  have t4 : s4 bt = some (false, .cells 83 [.map mb]) := t4
  have sub1 := u1.sub hbx
  have sub2 := u2.sub hmb
  have sub24 : Sub s2 s4 := sub_upto (u3.sub hbt) u4 hbt
  have x4 := sub24 _ _ (sub2 _ _ x1)
  have m4 : MapAt s4 mb (kv []) := m2.sub sub24
  have sub04 : Sub s s4 := (sub1.trans sub2).trans sub24
  simp only [addOff_ptr, Nat.zero_add, net0 x4, net1 x4, net2 x4, net3 x4, arith_add, optK_mk]
  rw [wrap64 (by omega) (by omega), hsum]
  refine Parents_in (hn.l.sub sub04) (by have := hn.len.1; omega) (hn.u.sub sub04) fun pv s5 sub5 _ hpv => ?_
  obtain ⟨d, pb, hd, _, rfl, _, p5⟩ := hpv N r hok rfl hr rfl
  have sub05 := sub04.trans sub5
  refine new_step fun bp s6 hbp p6 u6 => wr1_step p6 (by simp) rfl fun s7 p7 u7 => ?_
  have p7 : s7 bp = some (false, .cells 28 [.slc pb 0 N (some N) 1]) := p7
  have sub57 : Sub s5 s7 := sub_upto (u6.sub hbp) u7 hbp
  refine new_step fun ba s8 hba a8 u8 => wr1_step a8 (by simp) rfl fun s9 a9 u9 => ?_
  have a9 : s9 ba = some (false, .cells 96 [.fn (.func 57) [] [.ptr bp 0, .ptr bt 0, .ptr ba 0, .ptr bx 0]]) := a9
  have sub79 : Sub s7 s9 := sub_upto (u8.sub hba) u9 hba
  have sub59 := sub57.trans sub79
  have sub49 := sub5.trans sub59
  have x9 := sub49 _ _ x4
  have sub09 : Sub s s9 := sub04.trans sub49
  have g9 : GrC s9 bp bt ba bx mb N (parL (L.map toL) U d) (L.map toL) lf sp lnv upv := ⟨⟨pb, sub79 _ _ p7, sub59 _ _ p5⟩, sub49 _ _ t4, a9, x9, by rw [← hmp]; exact hn.l.sub sub09⟩
  have m9 := m4.sub sub49
  simp only [net4 x9, optK_mk]
  refine vc_tree_inside_in ((hn.sub sub09).box fun c1 sa hc1 y1 v1 => box_step hdv.one fun c2 sb hc2 y2 v2 => box_step hmv.one fun c0 sc hc0 y0 v0 => ?_)
  have suba := v1.sub hc1
  have subb := v2.sub hc2
  have subc := v0.sub hc0
  have sub9c := (suba.trans subb).trans subc
  have gc := g9.keep (fp := fun _ => False) sub9c.keep fun _ _ _ _ _ h => h
  have mc := m9.sub sub9c
  have sub0c := sub09.trans sub9c
  refine ⟨by kernel_rfl, trivial, fun l e hl => ?_⟩
  have u : Upto l sc (hset sc l (false, rdyG ba e)) := fun _ hi => hset_other hi
  have hl1 : hset sc l (false, rdyG ba e) l = some (false, rdyG ba e) := hset_eq
  have sub : Sub sc (hset sc l (false, rdyG ba e)) := u.sub hl
  have hls : s l = none := by
    cases q : s l with
    | none => rfl
    | some y => rw [sub0c _ _ q] at hl; cases hl
  have hmbs : s mb = none := by
    cases q : s mb with
    | none => rfl
    | some y => rw [sub1 _ _ q] at hmb; cases hmb
  show wpCall Try.prog XX 73 [.yield l, .ptr c0 0, .ptr c1 0, .ptr c2 0] _ (hset sc l (false, rdyG ba e))
  generalize hset sc l (false, rdyG ba e) = sd at u hl1 sub
  refine inside1_in (es := es) (ds := ds) (lf := lf) (sp := sp) z hN hG hd (by omega) hl1 (gc.keep (fp := fun _ => False) sub.keep fun _ _ _ _ _ h => h) (mc.sub sub) (sub _ _ y0) (sub _ _ (subc _ _ (subb _ _ y1))) (sub _ _ (subc _ _ y2)) (hmv.sub (sub0c.trans sub)) hes (hdv.sub (sub0c.trans sub)) fun _ t keys hlt hmt kt hk => ?_
  unfold doneK3
  rw [hlt]
  refine ⟨(fun h => by cases h), ?_⟩
  have ml : mb ≠ l := by
    rintro rfl
    obtain ⟨_, _, q, _⟩ := hmt
    rw [hlt] at q; cases q
  have hmt2 : MapAt (hdel t l) mb (kv keys) := by
    obtain ⟨es, c, q1, q2⟩ := hmt
    exact ⟨es, c, by rw [hdel_ne ml]; exact q1, q2⟩
  have td := sub _ _ gc.tr
  have hbt2 : bt ≠ mb := (mc.sub sub).ne td
  have hbt3 : bt ≠ l := fun q => by rw [q, hl1] at td; cases td
  have tt := kt _ _ td (by rintro (q | q); exact hbt2 q; exact hbt3 q)
  have tt2 : hdel t l bt = some (false, .cells 83 [.map mb]) := by rw [hdel_ne hbt3]; exact tt
  simp only [rd1_mk tt2, List.getElem?_cons_zero, optK_mk]
  refine hK mb _ keys d hd hmt2 (fun i x hi => ?_) hk
  rw [hdel_ne (ne_of_some hls hi)]
  exact kt i x (sub i x (sub0c i x hi)) (by rintro (q | q); exact ne_of_some hmbs hi q; exact ne_of_some hls hi q)
end Go.AM
namespace Go.AM
open Go Go.Proofs
variable {K : AVal → Heap → Prop} {s s' s0 t : Heap} {U : List Bool} {L : List RLk} {lnv upv v dv mv : AVal} {lf sp sf g : Int} {N r : Nat} {d ds : Nat → Int} {es : List Int}
/-! ### roots and links of trees as functions of the network -/
theorem spn_congr {d d' : Nat → Int} (h : ∀ n, n < N → d n = d' n) : spn lf N d = spn lf N d' := by
  unfold spn
  exact List.filter_congr fun n hn => by rw [h n (List.mem_range.1 hn)]
theorem rootP_congr {d d' : Nat → Int} (h : ∀ n, n < N → d n = d' n) : rootP lf N d g = rootP lf N d' g := by
  unfold rootP
  rw [spn_congr h]
theorem Mem_congr {d d' : Nat → Int} (hlf : lf ≤ N) (h : ∀ n, n < N → d n = d' n) : Mem es lf d = Mem es lf d' := by
  funext m
  apply propext
  unfold Mem
  constructor
  · rintro ⟨h1, h2, h3⟩; exact ⟨h1, h2, by rw [← h m (by omega)]; exact h3⟩
  · rintro ⟨h1, h2, h3⟩; exact ⟨h1, h2, by rw [h m (by omega)]; exact h3⟩
noncomputable def dN (lf sp : Int) (L : List RLk) (U : List Bool) (sf : Int) : Nat → Int := dF (lf + sp).toNat (L.map toL) U sf.toNat
open Classical in
noncomputable def rootN (lf sp : Int) (L : List RLk) (U : List Bool) (sf g : Int) : Option Nat := if netOk lf sp L U sf then rootP lf (lf + sp).toNat (dN lf sp L U sf) g else none
noncomputable def edgesN (lf sp : Int) (L : List RLk) (U : List Bool) (sf g : Int) (es : List Int) : List Nat := match rootN lf sp L U sf g with
  | none => []
  | some r => treeL (L.map toL) (pF (lf + sp).toNat (L.map toL) U r) (Mem es lf (dN lf sp L U sf))
/-- what a list of distances is, once more -/
theorem DistV.is (h : DistV s0 s lf sp L U sf v N d) (q : netOk lf sp L U sf) : N = (lf + sp).toNat ∧ GOk N (L.map toL) U ∧ IsDist N (L.map toL) U sf.toNat (dN lf sp L U sf) ∧ (∀ n, n < N → d n = dN lf sp L U sf n) ∧ lf + sp = N := by
  obtain ⟨h1, h2, _⟩ := h.yes q
  have hN : N = (lf + sp).toNat := by omega
  have hv := q.2.2.1
  rw [h1] at hv
  obtain ⟨z, _⟩ := hv.gok
  unfold dN
  rw [← hN]
  exact ⟨rfl, z, dF_is h2, fun n hn => dF_eq z h2 hn, h1⟩
theorem DistV.root (h : DistV s0 s lf sp L U sf v N d) : rootP lf N d g = rootN lf sp L U sf g := by
  unfold rootN
  by_cases q : netOk lf sp L U sf
  · obtain ⟨h1, _, _, h2, _⟩ := h.is q
    rw [if_pos q, ← h1]
    exact rootP_congr h2
  · rw [if_neg q, (h.no q).2]; rfl
theorem RootN_in (hn : NetR s L U lnv upv) (hg : 0 ≤ g ∧ g < 4294967296) (hK : ∀ s', Sub s s' → K (rootV (rootN lf sp L U sf g)) s') : wpCall Try.prog XX 14 [.agg (netC lf sp lnv upv), .int .i64 sf, .int .u32 g] K s := by
  refine Root_in hn hg fun v s' s2 N d sub dv => ?_
  rw [dv.root]
  exact hK s' sub
theorem rootN_some (h : rootN lf sp L U sf g = some r) : netOk lf sp L U sf ∧ r ∈ spn lf (lf + sp).toNat (dN lf sp L U sf) := by
  unfold rootN at h
  split at h
  · rename_i q
    exact ⟨q, List.mem_of_getElem? h⟩
  · cases h
theorem sortI_eq {l m : List Nat} (hp : l.Perm m) (hm : m.Pairwise (· < ·)) : sortI (l.map fun (n : Nat) => (n : Int)) = m.map fun (n : Nat) => (n : Int) := by
  refine List.Perm.eq_of_pairwise (le := fun a b : Int => a ≤ b) (fun a b _ _ h1 h2 => by omega) (sortI_sorted _) ?_ ((sortI_perm _).trans (hp.map _))
  exact List.pairwise_map.2 (hm.imp fun h => by omega)
theorem Edges15_in (hn : NetR s L U lnv upv) (hg : 0 ≤ g ∧ g < 4294967296) (hmv : Sl s mv (izs es)) (hes : es.length ≤ 60) (hK : ∀ v s', Sl s' v (iz (edgesN lf sp L U sf g es)) → (∀ b o n c, v = .slc b o n c 1 → edgesN lf sp L U sf g es ≠ [] → s b = none) → Sub s s' → K v s') : wpCall Try.prog XX 17 [.agg (netC lf sp lnv upv), .int .i64 sf, .int .u32 g, mv] K s := by
  refine vc_tree_Edges_in (hn.box fun b s1 hb h1 u1 => ?_)
  have sub1 := u1.sub hb
  simp only [net4 h1, optK_mk]
  refine tdist_in (hn.sub sub1) fun v s2 N d sub2 dv => ?_
  have sub02 := sub1.trans sub2
  have h2 := sub2 _ _ h1
  have hN : N ≤ 32 := by
    by_cases q : netOk lf sp L U sf
    · have := (dv.yes q).1; have := q.2.2.1.2.1; omega
    · have := (dv.no q).2; omega
  simp only [net4 h2, optK_mk]
  refine choose_in (hn.sub sub02) hN dv.sl hg fun s3 sub3 => ?_
  have sub03 := sub02.trans sub3
  have h3 := sub3 _ _ h2
  rw [dv.root]
  cases hr : rootN lf sp L U sf g with
  | none =>
    show K .nilslc s3
    refine hK _ _ ?_ (fun b o n c q => by cases q) sub03
    unfold edgesN
    rw [hr]; exact .inl ⟨rfl, rfl⟩
  | some r =>
    obtain ⟨q, hm⟩ := rootN_some hr
    obtain ⟨e1, z, hd, hdd, hsum⟩ := dv.is q
    rw [← e1] at hm
    obtain ⟨rN, _, _⟩ := mem_spn.1 hm
    have hv := q.2.2.1
    rw [hsum] at hv
    show optK (rdN s3 4 (.ptr b 0)) _
    simp only [net4 h3, optK_mk]
    refine grow_in (r := r) (hn.sub sub03) hv hsum q.1 q.2.1 rN (dv.sl.sub sub3) (hmv.sub sub03) hes fun mb s4 keys dr hdr hmap sub4 hk => ?_
    have hk2 : ∀ j, j ∈ keys ↔ j ∈ edgesN lf sp L U sf g es := fun j => by
      unfold edgesN
      rw [hr]
      simp only
      rw [hk j, ← e1, pF_eq z hdr, Mem_congr (es := es) (lf := lf) (by have := q.2.1; omega) hdd]
      exact (mem_treeL z (dF_is hdr)).symm
    have srt : (edgesN lf sp L U sf g es).Pairwise (· < ·) := by
      unfold edgesN
      rw [hr]; exact treeL_sorted
    have nd : keys.Nodup := by
      obtain ⟨es', c, _, ho⟩ := hmap
      have := ho.nd
      rw [kv_keys] at this
      exact (List.pairwise_map.1 this).imp fun h e => h (by rw [e])
    have pm : keys.Perm (edgesN lf sp L U sf g es) := (List.perm_ext_iff_of_nodup nd (srt.imp fun h => by omega)).2 hk2
    have hlen : keys.length ≤ 128 := by
      rw [pm.length_eq]
      unfold edgesN
      rw [hr]
      simp only
      unfold treeL
      refine Nat.le_trans (List.length_filter_le _ _) ?_
      rw [List.length_range]
      exact hv.gok.2.1
    have X42 : XX 42 = some (keysG 55) := rfl
    have X41 : XX 41 = some (sortedG [55] 3) := rfl
    refine wp_keys X42 fun kb s5 hkb k5 u5 => ?_
    have sub5 := u5.sub hkb
    refine wp_sorted (l := kv keys) X41 rfl k5 (hmap.sub sub5) (by rw [kv_len]; omega) fun v s6 ac sub6 => ?_
    rw [kv_keys, sortI_eq pm srt] at ac
    have sub05 := (sub03.trans sub4).trans sub5
    have ee : izs ((edgesN lf sp L U sf g es).map fun (n : Nat) => (n : Int)) = iz (edgesN lf sp L U sf g es) := by
      unfold iz
      exact List.map_map ..
    rw [ee] at ac
    refine hK v s6 ac.sl (fun b o n c q1 q2 => ?_) (sub05.trans sub6)
    rcases ac with ⟨w, _⟩ | ⟨b', w1, w, _⟩
    · rw [w] at q1; cases q1
    · rw [w] at q1; cases q1
      cases r : s b with
      | none => rfl
      | some y => rw [sub05 _ _ r] at w1; cases w1
end Go.AM
namespace Go.AM
open Go Go.Proofs
variable {K : AVal → Heap → Prop} {s s' s0 t : Heap} {U : List Bool} {L : List RLk} {lnv upv v dv mv : AVal} {lf sp sf g : Int} {N r : Nat} {d ds : Nat → Int} {es : List Int}
/-! ### words of the statements -/
structure NetA (s : Heap) (L : List RLk) (U : List Bool) (lnv upv : AVal) : Prop where
  l : SlR 3 s lnv (L.map rwR)
  u : Sl s upv (U.map AVal.bool)
  len : L.length ≤ 9223372036854775807 ∧ U.length ≤ 9223372036854775807
theorem NetA.sub (h : NetA s L U lnv upv) (k : Sub s s') : NetA s' L U lnv upv := ⟨h.l.sub k, h.u.sub k, h.len⟩
theorem NetA.box (h : NetA s L U lnv upv) (hK : ∀ b s', s b = none → s' b = some (false, .cells 25 (netC lf sp lnv upv)) → Upto b s s' → K (.ptr b 0) s') : boxK 25 (.agg (netC lf sp lnv upv)) K s :=
  ⟨by
    show ((AVal.int .i64 lf).one && ((AVal.int .i64 sp).one && (lnv.one && (upv.one && true)))) = true
    rw [h.l.one, h.u.one]; rfl, new_step hK⟩
theorem NetA.net (h : NetA s L U lnv upv) (hl : L.length ≤ 60 ∧ U.length ≤ 60) : NetR s L U lnv upv := ⟨h.l, h.u, hl⟩
def larg (L : List RLk) (U : List Bool) (k : Nat) : Bool := decide (60 < L.length) || (decide (60 < U.length) || decide (60 < k))
theorem large_in {k : Nat} (hn : NetA s L U lnv upv) (hm : lenOfA mv = some k) (hK : ∀ s', Sub s s' → K (.bool (larg L U k)) s') : wpCall Try.prog XX 10 [.agg (netC lf sp lnv upv), mv] K s := by
  refine vc_leafmeshlaw15_large_in (hn.box fun b s1 hb h1 u1 => ?_)
  have sub1 := u1.sub hb
  have e1 : decide ((60 : Int) < (L.length : Int)) = decide (60 < L.length) := decide_eq_decide.2 (by omega)
  have e2 : decide ((60 : Int) < (U.length : Int)) = decide (60 < U.length) := decide_eq_decide.2 (by omega)
  have e3 : decide ((60 : Int) < (k : Int)) = decide (60 < k) := decide_eq_decide.2 (by omega)
  simp only [addOff_ptr, Nat.zero_add, net2 h1, net3 h1, (hn.l.sub sub1).len, (hn.u.sub sub1).len, List.length_map, arith_gtr, e1, optK_mk]
  have fin := hK s1 sub1
  unfold larg at fin
  cases c1 : decide (60 < L.length) with
  | true =>
    rw [c1] at fin
    simp only [boolK_true, vc_leafmeshlaw15_large_j0, vc_leafmeshlaw15_large_j1, pickV_true, optK_mk]
    exact fin
  | false =>
    rw [c1] at fin
    simp only [boolK_false, addOff_ptr, Nat.zero_add, net3 h1, (hn.u.sub sub1).len, List.length_map, arith_gtr, e2, optK_mk, vc_leafmeshlaw15_large_j0, pickV_false]
    cases c2 : decide (60 < U.length) with
    | true =>
      rw [c2] at fin
      simp only [boolK_true, vc_leafmeshlaw15_large_j1, pickV_true, optK_mk]
      exact fin
    | false =>
      rw [c2] at fin
      simp only [boolK_false, hm, arith_gtr, e3, optK_mk, vc_leafmeshlaw15_large_j1, pickV_false]
      exact fin
theorem larg_false {k : Nat} (h : larg L U k = false) : L.length ≤ 60 ∧ U.length ≤ 60 ∧ k ≤ 60 := by
  unfold larg at h
  simp only [Bool.or_eq_false_iff, decide_eq_false_iff_not] at h
  omega
/-- which networks the statements speak of -/
def lawOk (lf sp : Int) (L : List RLk) (U : List Bool) (k : Nat) : Prop := larg L U k = false ∧ 1 ≤ lf ∧ 0 ≤ sp ∧ vld (lf + sp) L U
theorem lawvalid_in {k : Nat} (hlf : -9223372036854775808 ≤ lf ∧ lf ≤ 9223372036854775807) (hsp : -9223372036854775808 ≤ sp ∧ sp ≤ 9223372036854775807) (hn : NetA s L U lnv upv) (hm : lenOfA mv = some k) (hK : ∀ s' (r : Bool), Sub s s' → (r = true ↔ lawOk lf sp L U k) → K (.bool r) s') : wpCall Try.prog XX 30 [.agg (netC lf sp lnv upv), mv] K s := by
  refine vc_leafmeshlaw15_valid_in (hn.box fun b s1 hb h1 u1 => ?_)
  have sub1 := u1.sub hb
  simp only [net4 h1, optK_mk]
  refine large_in (hn.sub sub1) hm fun s2 sub2 => ?_
  have sub02 := sub1.trans sub2
  have h2 := sub2 _ _ h1
  have no : ∀ {s'}, Sub s s' → ¬ lawOk lf sp L U k → K (.bool false) s' := fun {s'} h q => hK s' false h ⟨(fun h => by cases h), fun h => absurd h q⟩
  cases c0 : larg L U k with
  | true =>
    simp only [boolK_true, vc_leafmeshlaw15_valid_j0, vc_leafmeshlaw15_valid_j1, vc_leafmeshlaw15_valid_j2, vc_leafmeshlaw15_valid_j3, vc_leafmeshlaw15_valid_j4, vc_leafmeshlaw15_valid_j5, pickV_true, optK_mk]
    exact no sub02 fun h => by have := h.1; rw [c0] at this; cases this
  | false =>
  obtain ⟨hL, hU, hk⟩ := larg_false c0
  simp only [boolK_false, addOff_ptr, Nat.zero_add, net0 h2, arith_lss, optK_mk]
  by_cases c1 : lf < 1
  · rw [decide_eq_true c1]
    simp only [boolK_true, vc_leafmeshlaw15_valid_j0, vc_leafmeshlaw15_valid_j1, vc_leafmeshlaw15_valid_j2, vc_leafmeshlaw15_valid_j3, vc_leafmeshlaw15_valid_j4, vc_leafmeshlaw15_valid_j5, pickV_true, pickV_false, optK_mk]
    exact no sub02 fun h => by have := h.2.1; omega
  rw [decide_eq_false c1]
  simp only [vc_leafmeshlaw15_valid_j0, pickV_false, boolK_false, addOff_ptr, Nat.zero_add, net1 h2, arith_lss, optK_mk]
  by_cases c2 : sp < 0
  · rw [decide_eq_true c2]
    simp only [boolK_true, vc_leafmeshlaw15_valid_j1, vc_leafmeshlaw15_valid_j2, vc_leafmeshlaw15_valid_j3, vc_leafmeshlaw15_valid_j4, vc_leafmeshlaw15_valid_j5, pickV_true, pickV_false, optK_mk]
    exact no sub02 fun h => by have := h.2.2.1; omega
  rw [decide_eq_false c2]
  simp only [vc_leafmeshlaw15_valid_j1, pickV_false, boolK_false, addOff_ptr, Nat.zero_add, net0 h2, arith_gtr, optK_mk]
  by_cases c3 : 32 < lf
  · rw [decide_eq_true c3]
    simp only [boolK_true, vc_leafmeshlaw15_valid_j2, vc_leafmeshlaw15_valid_j3, vc_leafmeshlaw15_valid_j4, vc_leafmeshlaw15_valid_j5, pickV_true, pickV_false, optK_mk]
    exact no sub02 fun h => by have := h.2.2.2.2.1; have := h.2.2.1; omega
  rw [decide_eq_false c3]
  simp only [vc_leafmeshlaw15_valid_j2, pickV_false, boolK_false, addOff_ptr, Nat.zero_add, net1 h2, arith_gtr, optK_mk]
  by_cases c4 : 31 < sp
  · rw [decide_eq_true c4]
    simp only [boolK_true, vc_leafmeshlaw15_valid_j3, vc_leafmeshlaw15_valid_j4, vc_leafmeshlaw15_valid_j5, pickV_true, pickV_false, optK_mk]
    exact no sub02 fun h => by have := h.2.2.2.2.1; have := h.2.1; omega
  rw [decide_eq_false c4]
  simp only [vc_leafmeshlaw15_valid_j3, pickV_false, boolK_false, addOff_ptr, Nat.zero_add, net0 h2, net1 h2, arith_add, arith_gtr, optK_mk]
  rw [wrap64 (by omega) (by omega)]
  by_cases c5 : 32 < lf + sp
  · rw [decide_eq_true c5]
    simp only [boolK_true, vc_leafmeshlaw15_valid_j4, vc_leafmeshlaw15_valid_j5, pickV_true, pickV_false, optK_mk]
    exact no sub02 fun h => by have := h.2.2.2.2.1; omega
  rw [decide_eq_false c5]
  have hn2 := hn.sub sub02
  simp only [vc_leafmeshlaw15_valid_j4, pickV_false, boolK_false, addOff_ptr, Nat.zero_add, net2 h2, net3 h2, hn2.l.len, hn2.u.len, List.length_map, eqV_int, negB_mk, Bool.true_bne, optK_mk]
  cases c6 : ((U.length : Int) == (L.length : Int)) with
  | false =>
    have c6 : ¬ (U.length : Int) = L.length := by simpa using c6
    simp only [Bool.not_false, boolK_true, vc_leafmeshlaw15_valid_j5, pickV_false, optK_mk]
    exact no sub02 fun h => by have := h.2.2.2.2.2.2.1; omega
  | true =>
  have c6 : (U.length : Int) = L.length := by simpa using c6
  simp only [Bool.not_true, boolK_false, vc_leafmeshlaw15_valid_j5, pickV_false, optK_mk]
  refine ⟨fun ys t m => ∃ i : Nat, ys = [.int .i64 i] ∧ i ≤ L.length ∧ m = L.length - i ∧ Sub s2 t ∧ ∀ x ∈ L.take i, okL (lf + sp) x, ⟨_, 0, rfl, by omega, rfl, .refl s2, by simp⟩, ?_⟩
  rintro f t m ⟨i, hy, hi, rfl, ht, hq⟩
  simp only [List.cons.injEq, and_true] at hy
  rw [hy]
  have h3 := ht _ _ h2
  have hn3 := hn2.sub ht
  simp only [vc_leafmeshlaw15_valid_l6, addOff_ptr, Nat.zero_add, net2 h3, hn3.l.len, List.length_map, arith_lss, optK_mk]
  refine boolK_mk (fun hlt => ?_) (fun hge => ?_)
  · have hlt : i < L.length := by have := of_decide_eq_true hlt; omega
    obtain ⟨x, hx⟩ : ∃ x, L[i]? = some x := ⟨_, List.getElem?_eq_getElem hlt⟩
    obtain ⟨a, p, c⟩ := x
    obtain ⟨pb, po, e1, e2, _⟩ := hn3.l.get (i := i) (r := rwR (a, p, c)) (by rw [List.getElem?_map, hx]; rfl)
    simp only [e1, e2, optK_mk]
    refine new_step fun be t1 hbe h7 u7 => wrAgg_step h7 rfl rfl rfl fun t2 h8 u8 => ?_
    have h8 : t2 be = some (false, .cells 39 [.int .i64 a, .int .i64 p, .int .i64 c]) := h8
    have subt : Sub t t2 := sub_upto (u7.sub hbe) u8 hbe
    have h4 := subt _ _ h3
    have st2 := (sub02.trans ht).trans subt
    have y0 : [AVal.int .i64 a, .int .i64 p, .int .i64 c][0]? = some (.int .i64 a) := rfl
    have y1 : [AVal.int .i64 a, .int .i64 p, .int .i64 c][1]? = some (.int .i64 p) := rfl
    have y2 : [AVal.int .i64 a, .int .i64 p, .int .i64 c][2]? = some (.int .i64 c) := rfl
    have bad : ¬ okL (lf + sp) (a, p, c) → K (.bool false) t2 := fun h => no st2 fun q => h (q.2.2.2.2.2.2.2 _ (List.mem_of_getElem? hx))
    have w : IntKind.i64.wrap (lf + sp) = lf + sp := wrap64 (by omega) (by omega)
    simp only [addOff_ptr, Nat.zero_add, rd1_mk h8, y0, arith_lss, optK_mk]
    by_cases d1 : a < 0
    · rw [decide_eq_true d1]
      simp only [boolK_true, vc_leafmeshlaw15_valid_j7, vc_leafmeshlaw15_valid_j8, vc_leafmeshlaw15_valid_j9, vc_leafmeshlaw15_valid_j10, vc_leafmeshlaw15_valid_j11, vc_leafmeshlaw15_valid_j12, pickV_true, optK_mk]
      exact bad fun h => by have := okD h; omega
    rw [decide_eq_false d1]
    simp only [boolK_false, addOff_ptr, Nat.zero_add, rd1_mk h8, y0, net0 h4, net1 h4, arith_add, w, arith_geq, optK_mk]
    by_cases d2 : lf + sp ≤ a
    · rw [decide_eq_true d2]
      simp only [boolK_true, vc_leafmeshlaw15_valid_j7, vc_leafmeshlaw15_valid_j8, vc_leafmeshlaw15_valid_j9, vc_leafmeshlaw15_valid_j10, vc_leafmeshlaw15_valid_j11, vc_leafmeshlaw15_valid_j12, pickV_true, pickV_false, optK_mk]
      exact bad fun h => by have := okD h; omega
    rw [decide_eq_false d2]
    simp only [vc_leafmeshlaw15_valid_j7, pickV_false, boolK_false, addOff_ptr, Nat.zero_add, rd1_mk h8, y1, arith_lss, optK_mk]
    by_cases d3 : p < 0
    · rw [decide_eq_true d3]
      simp only [boolK_true, vc_leafmeshlaw15_valid_j8, vc_leafmeshlaw15_valid_j9, vc_leafmeshlaw15_valid_j10, vc_leafmeshlaw15_valid_j11, vc_leafmeshlaw15_valid_j12, pickV_true, pickV_false, optK_mk]
      exact bad fun h => by have := okD h; omega
    rw [decide_eq_false d3]
    simp only [vc_leafmeshlaw15_valid_j8, pickV_false, boolK_false, addOff_ptr, Nat.zero_add, rd1_mk h8, y1, net0 h4, net1 h4, arith_add, w, arith_geq, optK_mk]
    by_cases d4 : lf + sp ≤ p
    · rw [decide_eq_true d4]
      simp only [boolK_true, vc_leafmeshlaw15_valid_j9, vc_leafmeshlaw15_valid_j10, vc_leafmeshlaw15_valid_j11, vc_leafmeshlaw15_valid_j12, pickV_true, pickV_false, optK_mk]
      exact bad fun h => by have := okD h; omega
    rw [decide_eq_false d4]
    simp only [vc_leafmeshlaw15_valid_j9, pickV_false, boolK_false, addOff_ptr, Nat.zero_add, rd1_mk h8, y0, y1, eqV_int, negB_mk, Bool.false_bne, optK_mk]
    cases d5 : (a == p) with
    | true =>
      have d5 : a = p := by simpa using d5
      simp only [boolK_true, vc_leafmeshlaw15_valid_j10, vc_leafmeshlaw15_valid_j11, vc_leafmeshlaw15_valid_j12, pickV_true, pickV_false, optK_mk]
      exact bad fun h => (okD h).2.2.1 d5
    | false =>
    have d5 : a ≠ p := by simpa using d5
    simp only [vc_leafmeshlaw15_valid_j10, pickV_false, boolK_false, addOff_ptr, Nat.zero_add, rd1_mk h8, y2, arith_lss, optK_mk]
    by_cases d6 : c < 1
    · rw [decide_eq_true d6]
      simp only [boolK_true, vc_leafmeshlaw15_valid_j11, vc_leafmeshlaw15_valid_j12, pickV_true, pickV_false, optK_mk]
      exact bad fun h => by have := okD h; omega
    rw [decide_eq_false d6]
    simp only [vc_leafmeshlaw15_valid_j11, pickV_false, boolK_false, addOff_ptr, Nat.zero_add, rd1_mk h8, y2, arith_gtr, optK_mk]
    by_cases d7 : 1000 < c
    · rw [decide_eq_true d7]
      simp only [boolK_true, vc_leafmeshlaw15_valid_j12, pickV_false, optK_mk]
      exact bad fun h => by have := okD h; omega
    rw [decide_eq_false d7]
    simp only [vc_leafmeshlaw15_valid_j12, pickV_false, boolK_false, arith_add, optK_mk]
    rw [wrap64 (by omega) (by omega)]
    refine ⟨_, by omega, i + 1, rfl, by omega, rfl, ht.trans subt, fun y hy => ?_⟩
    rw [List.take_add_one, hx] at hy
    rcases List.mem_append.1 hy with q | q
    · exact hq y q
    · have : y = (a, p, c) := by simpa using q
      rw [this]
      exact okI ⟨by omega, by omega, d5, by omega, by omega⟩
  · have hge : i = L.length := by have := of_decide_eq_false hge; omega
    subst hge
    rw [List.take_length] at hq
    exact hK t true (sub02.trans ht) ⟨fun _ => ⟨c0, by omega, by omega, by omega, by omega, by omega, by omega, hq⟩, fun _ => rfl⟩
theorem Pick_in {x n : Int} (hn : 1 ≤ n ∧ n ≤ 1000000) (hK : ∀ p : Int, 0 ≤ p → p < n → K (.int .i64 p) s) : wpCall Try.prog XX 31 [.int .i64 x, .int .i64 n] K s := by
  refine vc_leafmeshkit_Pick_in ?_
  have h1 := Int.tmod_lt_of_pos x (show 0 < n by omega)
  have h2 := Int.lt_tmod_of_pos x (show 0 < n by omega)
  simp only [vc_leafmeshkit_Pick, arith_rem (show n ≠ 0 by omega), arith_lss, optK_mk]
  refine boolK_mk (fun c => ?_) (fun c => ?_)
  · have c := of_decide_eq_true c
    simp only [arith_add, optK_mk, vc_leafmeshkit_Pick_j0]
    rw [wrap64 (by omega) (by omega)]
    exact hK _ (by omega) (by omega)
  · have c := of_decide_eq_false c
    simp only [vc_leafmeshkit_Pick_j0]
    exact hK _ (by omega) (by omega)
theorem Has_in {x : Int} (h : Sl s v (izs es)) (hl : es.length ≤ 1000000) (hK : ∀ b : Bool, (b = true ↔ x ∈ es) → K (.bool b) s) : wpCall Try.prog XX 34 [v, .int .i64 x] K s := by
  refine vc_leafmeshkit_Has_int__in ?_
  refine ⟨fun ys t m => ∃ i : Nat, ys = [.int .i64 i] ∧ t = s ∧ i ≤ es.length ∧ m = es.length - i ∧ x ∉ es.take i, ⟨_, 0, rfl, rfl, by omega, rfl, by simp⟩, ?_⟩
  rintro f t m ⟨i, hy, rfl, hi, rfl, hq⟩
  simp only [List.cons.injEq, and_true] at hy
  rw [hy]
  simp only [vc_leafmeshkit_Has_int__l0, h.len, List.length_map, arith_lss, optK_mk]
  refine boolK_mk (fun hlt => ?_) (fun hge => ?_)
  · have hlt : i < es.length := by have := of_decide_eq_true hlt; omega
    obtain ⟨p, g1, g2⟩ := h.get (i := i) (by rw [List.length_map]; exact hlt)
    have g3 : (izs es)[i]? = some (.int .i64 es[i]) := by simp [hlt]
    rw [g3] at g2
    simp only [g1, g2, eqV_int, negB_mk, Bool.false_bne, optK_mk]
    refine boolK_mk (fun c => ?_) (fun c => ?_)
    · have c := eq_of_beq c
      exact hK true ⟨fun _ => by rw [← c]; exact List.getElem_mem hlt, fun _ => rfl⟩
    · have c : es[i] ≠ x := by simpa using c
      simp only [arith_add, optK_mk]
      rw [wrap64 (by omega) (by omega)]
      refine ⟨_, by omega, i + 1, rfl, by trivial, by omega, rfl, fun hx => ?_⟩
      rw [List.take_add_one, List.getElem?_eq_getElem hlt] at hx
      rcases List.mem_append.1 hx with q | q
      · exact hq q
      · have : x = es[i] := by simpa using q
        exact c this.symm
  · have hge : i = es.length := by have := of_decide_eq_false hge; omega
    subst hge
    rw [List.take_length] at hq
    exact hK false ⟨(fun h => by cases h), fun h => absurd h hq⟩
end Go.AM
namespace Go.AM
open Go Go.Proofs
variable {K : AVal → Heap → Prop} {s s' s0 t : Heap} {U : List Bool} {L : List RLk} {lnv upv v dv mv : AVal} {lf sp sf g : Int} {N r : Nat} {d ds : Nat → Int} {es : List Int}
/-! ### TreeSpreads -/
theorem known_in {f : FuncId} (h : f = 5 ∨ f = 11) (hK : K (.bool true) s) : wpCall Try.prog XX f [] K s := by
  rcases h with rfl | rfl
  · exact wp_closedB rfl rfl rfl hK
  · exact wp_closedB rfl rfl rfl hK
theorem lawOk.net {k : Nat} (h : lawOk lf sp L U k) {p : Int} (hp : 0 ≤ p ∧ p < lf + sp) : netOk lf sp L U p := ⟨h.2.1, h.2.2.1, h.2.2.2, hp.1, hp.2⟩
theorem iz_izs {l : List Nat} : iz l = izs (l.map fun (n : Nat) => (n : Int)) := by
  unfold iz
  exact (List.map_map ..).symm
theorem mod_ne {g i j k : Nat} (hi : i < k) (hj : j < k) (h : (g + i) % k = (g + j) % k) : i = j := by
  have h1 := Nat.div_add_mod (g + i) k
  have h2 := Nat.div_add_mod (g + j) k
  rw [h] at h1
  by_cases e : (g + i) / k = (g + j) / k
  · rw [e] at h1; omega
  · rcases Nat.lt_or_gt_of_ne e with q | q
    · have := Nat.mul_le_mul_left k (show (g + i) / k + 1 ≤ (g + j) / k by omega)
      rw [Nat.mul_add, Nat.mul_one] at this
      omega
    · have := Nat.mul_le_mul_left k (show (g + j) / k + 1 ≤ (g + i) / k by omega)
      rw [Nat.mul_add, Nat.mul_one] at this
      omega
theorem spn_nodup : (spn lf N d).Nodup := by
  unfold spn
  exact List.Pairwise.filter _ List.nodup_range
theorem u32_add {i : Nat} (hg : 0 ≤ g ∧ g ≤ 4294967263) (hi : i < 33) : convI .u32 (.int .i64 (i : Int)) = some (.int .u32 (i : Int)) ∧ arithV .add (.int .u32 g) (.int .u32 (i : Int)) = some (.int .u32 (g + i)) := by
  constructor
  · show some (AVal.int .u32 (wrapK .u32 (i : Int))) = _
    rw [show wrapK .u32 (i : Int) = (i : Int) by simp only [wrapK]; rw [wrapM_eq _ _ _ (by omega) (by omega)]; split <;> omega]
  · rw [arith_add, ← wrapK_eq]
    rw [show wrapK .u32 (g + i) = g + i by simp only [wrapK]; rw [wrapM_eq _ _ _ (by omega) (by omega)]; split <;> omega]
theorem Spreads_in (hlf : -9223372036854775808 ≤ lf ∧ lf ≤ 9223372036854775807) (hsp : -9223372036854775808 ≤ sp ∧ sp ≤ 9223372036854775807) (hn : NetA s L U lnv upv) (hg : 0 ≤ g ∧ g < 4294967296) (hK : ∀ s, K (.bool true) s) : wpCall Try.prog XX 9 [.agg (netC lf sp lnv upv), .int .i64 sf, .int .u32 g] K s := by
  refine vc_leafmeshlaw15_TreeSpreads_in (hn.box fun b s1 hb h1 u1 => known_in (.inl rfl) ?_)
  have sub1 := u1.sub hb
  simp only [net4 h1, optK_mk]
  refine lawvalid_in hlf hsp (hn.sub sub1) lenOf_nil fun s2 ok sub2 hok => ?_
  have h2 := sub2 _ _ h1
  have sub02 := sub1.trans sub2
  simp only [unary_not, optK_mk]
  cases ok with
  | false =>
    simp only [Bool.not_false, boolK_true, vc_leafmeshlaw15_TreeSpreads_j0, pickV_true, optK_mk]
    exact hK _
  | true =>
  have hok := hok.1 rfl
  simp only [Bool.not_true, boolK_false, arith_gtr, optK_mk, vc_leafmeshlaw15_TreeSpreads_j0, pickV_false]
  refine boolK_mk (fun _ => hK _) (fun hg2 => ?_)
  have hg2 : g ≤ 4294967263 := by have := of_decide_eq_false hg2; omega
  have hv := hok.2.2.2
  have b1 := hok.2.1
  have b2 := hok.2.2.1
  have b3 := hv.2.1
  obtain ⟨c1, c2, _⟩ := larg_false hok.1
  have hr : NetR s2 L U lnv upv := (hn.sub sub02).net ⟨c1, c2⟩
  simp only [addOff_ptr, Nat.zero_add, net0 h2, net1 h2, arith_add, optK_mk]
  rw [wrap64 (by omega) (by omega)]
  refine Pick_in (by omega) fun p p0 pn => ?_
  have nok := hok.net ⟨p0, pn⟩
  simp only [addOff_ptr, Nat.zero_add, net2 h2, net3 h2, optK_mk]
  refine Dist_in hr.l (by omega) hr.u fun v s3 sub3 _ hvv => ?_
  obtain ⟨N, hN⟩ : ∃ N : Nat, lf + sp = N := ⟨(lf + sp).toNat, by omega⟩
  obtain ⟨d, db, hd, _, rfl, _, h3d⟩ := hvv N p.toNat (by rw [← hN]; exact hv) hN (by omega) (by omega)
  rw [hN]
  have h3 := sub3 _ _ h2
  have hr3 := hr.sub sub3
  have hdv : Sl s3 (.slc db 0 N (some N) 1) (dl N d) := Sl.mk h3d dl_len.symm (by simp [dl_len])
  have eN : N = (lf + sp).toNat := by omega
  have hv' : vld (N : Int) L U := by rw [← hN]; exact hv
  have z := hv'.gok.1
  have hdd : ∀ n, n < N → d n = dN lf sp L U p n := fun n hn => by
    unfold dN
    rw [← eN]
    exact dF_eq z hd hn
  simp only [lenOf_slc, eqV_int, negB_mk, beq_self_eq_true, bne_self_eq_false, boolK_false, addOff_ptr, Nat.zero_add, net0 h3, optK_mk]
  obtain ⟨l0, hl0⟩ : ∃ l0 : Nat, lf = l0 := ⟨lf.toNat, by omega⟩
  refine ⟨fun ys t m => ∃ (i : Nat) (lv : AVal), ys = [lv, .int .i64 i] ∧ l0 ≤ i ∧ i ≤ N ∧ m = N - i ∧ Sub s3 t ∧ Acc 3 s3 t lv (iz ((List.range i).filter fun (n : Nat) => decide (lf ≤ (n : Int) ∧ 0 ≤ d n))), ⟨_, l0, _, by rw [hl0], Nat.le_refl _, by omega, rfl, .refl s3, .inl ⟨rfl, ?_⟩⟩, ?_⟩
  · rw [List.filter_eq_nil_iff.2 fun n hn => ?_]
    · rfl
    · have := List.mem_range.1 hn
      rw [decide_eq_true_eq]; omega
  rintro f t m ⟨i, lv, hy, hi0, hi, rfl, st, ac⟩
  simp only [List.cons.injEq, and_true] at hy
  rw [hy.1, hy.2]
  simp only [vc_leafmeshlaw15_TreeSpreads_l1, arith_lss, optK_mk]
  refine boolK_mk (fun hlt => ?_) (fun hge => ?_)
  · have hlt : i < N := by have := of_decide_eq_true hlt; omega
    obtain ⟨pp, g1, g2⟩ := (hdv.sub st).get (i := i) (by rw [dl_len]; exact hlt)
    rw [dl_get hlt] at g2
    have fl : (List.range (i + 1)).filter (fun (n : Nat) => decide (lf ≤ (n : Int) ∧ 0 ≤ d n)) = (List.range i).filter (fun (n : Nat) => decide (lf ≤ (n : Int) ∧ 0 ≤ d n)) ++ (if 0 ≤ d i then [i] else []) := by
      rw [List.range_succ, List.filter_append]
      congr 1
      by_cases q : 0 ≤ d i
      · have : lf ≤ (i : Int) ∧ 0 ≤ d i := ⟨by omega, q⟩
        simp [this]
      · rw [if_neg q]
        have : decide (lf ≤ (i : Int) ∧ 0 ≤ d i) = false := decide_eq_false fun h => q h.2
        simp only [List.filter_cons, this]; rfl
    simp only [g1, g2, arith_geq, optK_mk]
    refine boolK_mk (fun c2 => ?_) (fun c2 => ?_)
    · have c2 := of_decide_eq_true c2
      refine lit1_step rfl rfl fun b3 t3 hb3 h3 u3 => ?_
      have sub3 := u3.sub hb3
      refine (ac.sub sub3).app2 (st.trans sub3) (Sl.mk h3 rfl (by simp)) (by simp) ?_ fun v' t4 a4 s4 => ?_
      · have := List.length_filter_le (fun (n : Nat) => decide (lf ≤ (n : Int) ∧ 0 ≤ d n)) (List.range i)
        rw [List.length_range] at this
        rw [iz_len]; simp only [List.length_singleton]; omega
      · simp only [vc_leafmeshlaw15_TreeSpreads_j2, arith_add, optK_mk]
        rw [wrap64 (by omega) (by omega)]
        refine ⟨_, by omega, i + 1, v', rfl, by omega, by omega, rfl, s4, ?_⟩
        rw [fl, if_pos c2, iz_app]; exact a4
    · have c2 := of_decide_eq_false c2
      simp only [vc_leafmeshlaw15_TreeSpreads_j2, arith_add, optK_mk]
      rw [wrap64 (by omega) (by omega)]
      refine ⟨_, by omega, i + 1, lv, rfl, by omega, by omega, rfl, st, ?_⟩
      rw [fl, if_neg c2, List.append_nil]; exact ac
  have hge : i = N := by have := of_decide_eq_false hge; omega
  subst hge
  have ac : Acc 3 s3 t lv (iz (spn lf i d)) := ac
  rw [spn_congr hdd] at ac
  generalize hsd : spn lf i (dN lf sp L U p) = S at ac
  have hSl : S.length ≤ 32 := by
    rw [← hsd]
    exact Nat.le_trans spn_len (by omega)
  have hSn : S.Nodup := by rw [← hsd]; exact spn_nodup
  -- the root of a group
  have hroot : ∀ q : Int, rootN lf sp L U p q = S[q.toNat % S.length]? := fun q => by
    unfold rootN
    rw [if_pos nok, ← eN]
    unfold rootP
    rw [hsd]
  have hrt := hr3.sub st
  refine ⟨fun ys t2 m => ∃ (j : Nat) (sv : AVal), ys = [sv, .int .i64 j] ∧ j ≤ S.length ∧ m = S.length - j ∧ Sub t t2 ∧ Acc 3 t t2 sv (iz ((List.range j).map fun k => S.getD ((g.toNat + k) % S.length) 0)), ⟨_, 0, _, rfl, by omega, rfl, .refl t, .inl ⟨rfl, rfl⟩⟩, ?_⟩
  rintro f2 t2 m2 ⟨j, sv, hy2, hj, rfl, st2, ac2⟩
  simp only [List.cons.injEq, and_true] at hy2
  rw [hy2.1, hy2.2]
  have x2 := st2 _ _ (st _ _ h3)
  have sS := ac.sl.sub st2
  simp only [vc_leafmeshlaw15_TreeSpreads_l3, ac.sl.len, iz_len, arith_lss, optK_mk]
  refine boolK_mk (fun hlt => ?_) (fun hge => ?_)
  · have hlt : j < S.length := by have := of_decide_eq_true hlt; omega
    obtain ⟨w1, w2⟩ := u32_add (g := g) ⟨hg.1, hg2⟩ (show j < 33 by omega)
    simp only [net4 x2, w1, w2, optK_mk]
    refine RootN_in (hrt.sub st2) (by omega) fun t3 sub3 => ?_
    have hm : (g + j).toNat % S.length < S.length := Nat.mod_lt _ (by omega)
    have e0 : (g + j).toNat = g.toNat + j := by omega
    rw [hroot, List.getElem?_eq_getElem hm]
    generalize hx : S[(g + j).toNat % S.length] = x
    have hxS : x ∈ S := by rw [← hx]; exact List.getElem_mem hm
    have x1 : extractA (rootV (some x)) 0 = some (.int .i64 (x : Int)) := rfl
    have x3 : extractA (rootV (some x)) 1 = some (.bool true) := rfl
    simp only [x1, x3, unary_not, Bool.not_true, boolK_false, optK_mk]
    have sS3 := sS.sub sub3
    have aS3 := ac2.sub sub3
    rw [iz_izs] at sS3
    refine Has_in sS3 (by rw [List.length_map]; omega) fun b1 hb1 => ?_
    have hb1 : b1 = true := hb1.2 (List.mem_map.2 ⟨x, hxS, rfl⟩)
    subst hb1
    simp only [unary_not, Bool.not_true, optK_mk, vc_leafmeshlaw15_TreeSpreads_j4, pickV_false, boolK_false]
    have aS4 := aS3.sl
    rw [iz_izs] at aS4
    refine Has_in aS4 (by rw [List.length_map, List.length_map, List.length_range]; omega) fun b2 hb2 => ?_
    have hb2 : b2 = false := by
      cases b2 with
      | false => rfl
      | true =>
        obtain ⟨q, hq, e1⟩ := List.mem_map.1 (hb2.1 rfl)
        obtain ⟨k, hk, e2⟩ := List.mem_map.1 hq
        have hk := List.mem_range.1 hk
        have hkm : (g.toNat + k) % S.length < S.length := Nat.mod_lt _ (by omega)
        have e3 : q = x := by omega
        rw [e3, ← hx, List.getD_eq_getElem?_getD, List.getElem?_eq_getElem hkm, Option.getD_some] at e2
        have e4 := (List.getElem_inj hSn).1 e2
        rw [e0] at e4
        have := mod_ne (by omega) hlt e4
        omega
    subst hb2
    simp only [vc_leafmeshlaw15_TreeSpreads_j5, pickV_false, optK_mk, boolK_false]
    refine lit1_step rfl rfl fun b3 t5 hb3 h5 u5 => ?_
    have sub5 := u5.sub hb3
    refine (aS3.sub sub5).app2 ((st2.trans sub3).trans sub5) (Sl.mk h5 rfl (by simp)) (by simp) ?_ fun v' t6 a6 s6 => ?_
    · rw [iz_len, List.length_map, List.length_range]; simp only [List.length_singleton]; omega
    · simp only [arith_add, optK_mk]
      rw [wrap64 (by omega) (by omega)]
      refine ⟨_, by omega, j + 1, v', rfl, by omega, rfl, s6, ?_⟩
      rw [List.range_succ, List.map_append, iz_app]
      have : S.getD ((g.toNat + j) % S.length) 0 = x := by
        have hm' : (g.toNat + j) % S.length < S.length := by rw [← e0]; exact hm
        rw [List.getD_eq_getElem?_getD, List.getElem?_eq_getElem hm', Option.getD_some, ← hx]
        simp only [e0]
      rw [List.map_singleton, this]
      exact a6
  · simp only [net4 x2, optK_mk]
    refine RootN_in (hrt.sub st2) hg fun t3 sub3 => ?_
    rw [hroot]
    by_cases h0 : S.length = 0
    · have hS : S = [] := List.eq_nil_of_length_eq_zero h0
      subst hS
      have x1 : extractA (rootV (([] : List Nat)[g.toNat % ([] : List Nat).length]?)) 0 = some (.int .i64 0) := rfl
      have x3 : extractA (rootV (([] : List Nat)[g.toNat % ([] : List Nat).length]?)) 1 = some (.bool false) := rfl
      simp only [x1, x3, optK_mk, boolK_true, List.length_nil, arith_gtr, eqV_bool, negB_mk, vc_leafmeshlaw15_TreeSpreads_j6, pickV_true]
      exact hK _
    · have hm : g.toNat % S.length < S.length := Nat.mod_lt _ (by omega)
      rw [List.getElem?_eq_getElem hm]
      generalize S[g.toNat % S.length] = x
      have x1 : extractA (rootV (some x)) 0 = some (.int .i64 (x : Int)) := rfl
      have x3 : extractA (rootV (some x)) 1 = some (.bool true) := rfl
      have e : decide ((0 : Int) < (S.length : Int)) = true := decide_eq_true (by omega)
      simp only [x1, x3, optK_mk, boolK_true, arith_gtr, e, eqV_bool, negB_mk, vc_leafmeshlaw15_TreeSpreads_j6, pickV_true]
      exact hK _
end Go.AM
namespace Go.AM
open Go Go.Proofs
variable {s : Heap} {v : AVal}
/-! ### arguments -/
theorem bdu32 {n : Int} (h : (Lit.int .u32 n).wf = true) : 0 ≤ n ∧ n < 4294967296 := by
  unfold Lit.wf at h
  simp [IntKind.min, IntKind.max, IntKind.bits, IntKind.signed] at h
  omega
theorem cells39 : Try.prog.cellsOf 39 = 3 := by kernel_rfl
set_option maxRecDepth 100000 in
theorem inp_lk {d : Nat} {xs : List AVal} (h : Inp Try.prog s (d + 2) 39 xs) : ∃ a : RLk, xs = rwR a ∧ True := by
  unfold Inp at h
  simp only [Try.underlying39] at h
  obtain ⟨h1, h2⟩ := h
  rw [cells39] at h1
  have k0 := h2 _ (List.mem_cons_self)
  have k1 := h2 _ (List.mem_cons_of_mem _ List.mem_cons_self)
  have k2 := h2 _ (List.mem_cons_of_mem _ (List.mem_cons_of_mem _ List.mem_cons_self))
  match xs, h1 with
  | [a, b, c], _ =>
    obtain ⟨n, e1, _⟩ := inp_int (xs := [a]) Try.underlying3 k0
    obtain ⟨q, e2, _⟩ := inp_int (xs := [b]) Try.underlying3 k1
    obtain ⟨w, e3, _⟩ := inp_int (xs := [c]) Try.underlying3 k2
    cases e1; cases e2; cases e3
    exact ⟨(n, q, w), rfl, trivial⟩
set_option maxRecDepth 100000 in
theorem arg_net {d : Nat} (h : Arg Try.prog s (d + 4) 25 v) : ∃ lf sp L U lnv upv, v = .agg (netC lf sp lnv upv) ∧ NetA s L U lnv upv ∧ (-9223372036854775808 ≤ lf ∧ lf ≤ 9223372036854775807) ∧ (-9223372036854775808 ≤ sp ∧ sp ≤ 9223372036854775807) := by
  obtain ⟨h1, h2, _⟩ := h
  have ha : isAggT Try.prog 25 = some true := by kernel_rfl
  obtain ⟨l, rfl, _⟩ := h2 ha
  rw [cells_agg] at h1
  unfold Inp at h1
  simp only [Try.underlying25] at h1
  obtain ⟨g1, g2⟩ := h1
  rw [show Try.prog.cellsOf 25 = 4 by kernel_rfl] at g1
  have k0 := g2 _ (List.mem_cons_self)
  have k1 := g2 _ (List.mem_cons_of_mem _ List.mem_cons_self)
  have k2 := g2 _ (List.mem_cons_of_mem _ (List.mem_cons_of_mem _ List.mem_cons_self))
  have k3 := g2 _ (List.mem_cons_of_mem _ (List.mem_cons_of_mem _ (List.mem_cons_of_mem _ List.mem_cons_self)))
  match l, g1 with
  | [a, b, c, e], _ =>
    obtain ⟨n, e1, w1⟩ := inp_int (xs := [a]) Try.underlying3 k0
    obtain ⟨q, e2, w2⟩ := inp_int (xs := [b]) Try.underlying3 k1
    obtain ⟨lnv, e3, L, hL, _, hl1⟩ := inpR (d := d + 2) (xs := [c]) Try.underlying22 rwR (fun _ => True) (fun a => by rw [cells39]; rfl) (fun xs h => inp_lk h) k2
    obtain ⟨upv, e4, U, hU, _, hl2⟩ := inp_slice (d := d + 2) (xs := [e]) Try.underlying23 (by kernel_rfl) AVal.bool (fun _ => True) (fun xs h => inp_bool Try.underlying4 h) k3
    rw [cells39] at hL
    cases e1; cases e2; cases e3; cases e4
    exact ⟨n, q, L, U, c, e, rfl, ⟨hL, hU, by unfold maxLen at hl1 hl2; omega⟩, bd64 w1, bd64 w2⟩
theorem Spreads_wp (s : Heap) (xs : List AVal) (h : ArgL Try.prog s 40 [25, 3, 27] xs) : wpCall Try.prog XX 9 xs (fun v _ => v = .bool true) s := by
  obtain ⟨a, b, c, rfl, h1, h2, h3⟩ := argl3 h
  obtain ⟨lf, sp, L, U, lnv, upv, rfl, hn, w1, w2⟩ := arg_net (d := 36) h1
  obtain ⟨sf, rfl, _⟩ := arg_int (k := .i64) Try.underlying3 h2
  obtain ⟨g, rfl, w3⟩ := arg_int (k := .u32) Try.underlying27 h3
  exact Spreads_in w1 w2 hn (bdu32 w3) fun _ => rfl
end Go.AM
namespace Go.AM
open Go Go.Proofs
variable {K : AVal → Heap → Prop} {s s' s0 t : Heap} {U : List Bool} {L : List RLk} {lnv upv v w dv mv : AVal} {lf sp sf g : Int} {N r : Nat} {d ds : Nat → Int} {es es' : List Int}
/-! ### TreeAgrees -/
theorem Same_in (h : Sl s v (izs es)) (h' : Sl s w (izs es')) (hl : es.length ≤ 1000000) (hK : ∀ b : Bool, (b = true ↔ es = es') → K (.bool b) s) : wpCall Try.prog XX 16 [v, w] K s := by
  refine vc_leafmeshkit_Same_int__in ?_
  simp only [vc_leafmeshkit_Same_int_, h.len, h'.len, List.length_map, eqV_int, negB_mk, Bool.true_bne, optK_mk]
  refine boolK_mk (fun c => ?_) (fun c => ?_)
  · have c : ¬ (es.length : Int) = es'.length := by simpa using c
    exact hK false ⟨(fun h => by cases h), fun h => by rw [h] at c; exact absurd rfl c⟩
  have c : es.length = es'.length := by
    have c : (es.length : Int) = es'.length := by simpa using c
    omega
  refine ⟨fun ys t m => ∃ i : Nat, ys = [.int .i64 i] ∧ t = s ∧ i ≤ es.length ∧ m = es.length - i ∧ es.take i = es'.take i, ⟨_, 0, rfl, rfl, by omega, rfl, by simp⟩, ?_⟩
  rintro f t m ⟨i, hy, rfl, hi, rfl, hq⟩
  simp only [List.cons.injEq, and_true] at hy
  rw [hy]
  simp only [vc_leafmeshkit_Same_int__l0, h.len, List.length_map, arith_lss, optK_mk]
  refine boolK_mk (fun hlt => ?_) (fun hge => ?_)
  · have hlt : i < es.length := by have := of_decide_eq_true hlt; omega
    have hlt' : i < es'.length := by omega
    obtain ⟨p, g1, g2⟩ := h.get (i := i) (by rw [List.length_map]; exact hlt)
    obtain ⟨q, g3, g4⟩ := h'.get (i := i) (by rw [List.length_map]; exact hlt')
    have e1 : (izs es)[i]? = some (.int .i64 es[i]) := by simp [hlt]
    have e2 : (izs es')[i]? = some (.int .i64 es'[i]) := by simp [hlt']
    rw [e1] at g2
    rw [e2] at g4
    simp only [g1, g2, g3, g4, eqV_int, negB_mk, Bool.true_bne, optK_mk]
    refine boolK_mk (fun c => ?_) (fun c => ?_)
    · have c : ¬ es[i] = es'[i] := by simpa using c
      exact hK false ⟨(fun h => by cases h), fun h => by subst h; exact absurd rfl c⟩
    · have c : es[i] = es'[i] := by simpa using c
      simp only [arith_add, optK_mk]
      rw [wrap64 (by omega) (by omega)]
      refine ⟨_, by omega, i + 1, rfl, by trivial, by omega, rfl, ?_⟩
      rw [List.take_add_one, List.take_add_one, hq, List.getElem?_eq_getElem hlt, List.getElem?_eq_getElem hlt', c]
  · have hge : i = es.length := by have := of_decide_eq_false hge; omega
    subst hge
    rw [List.take_length, c, List.take_length] at hq
    exact hK true ⟨fun _ => hq, fun _ => rfl⟩
theorem edgesN_lt (h : netOk lf sp L U sf) : ∀ x ∈ edgesN lf sp L U sf g es, x < L.length := fun x hx => by
  unfold edgesN at hx
  cases hr : rootN lf sp L U sf g with
  | none => rw [hr] at hx; cases hx
  | some r =>
    rw [hr] at hx
    simp only at hx
    unfold treeL at hx
    have := List.mem_range.1 (List.mem_filter.1 hx).1
    rwa [List.length_map] at this
theorem edgesN_len (h : netOk lf sp L U sf) : (edgesN lf sp L U sf g es).length ≤ L.length := by
  unfold edgesN
  cases hr : rootN lf sp L U sf g with
  | none => exact Nat.zero_le _
  | some r =>
    simp only
    unfold treeL
    refine Nat.le_trans (List.length_filter_le _ _) ?_
    rw [List.length_range, List.length_map]
    exact Nat.le_refl _
theorem inj_izs {l m : List Nat} : l.map (fun (n : Nat) => (n : Int)) = m.map (fun (n : Nat) => (n : Int)) ↔ l = m := by
  constructor
  · intro h
    have := congrArg (List.map Int.toNat) h
    rw [List.map_map, List.map_map] at this
    have e : (Int.toNat ∘ fun (n : Nat) => (n : Int)) = id := by funext n; rfl
    rwa [e, List.map_id, List.map_id] at this
  · rintro rfl; rfl
theorem dN_is (h : netOk lf sp L U sf) : GOk (lf + sp).toNat (L.map toL) U ∧ IsDist (lf + sp).toNat (L.map toL) U sf.toNat (dN lf sp L U sf) := by
  have hv := h.2.2.1
  have e : lf + sp = (((lf + sp).toNat : Nat) : Int) := by have := hv.1; omega
  rw [e] at hv
  obtain ⟨z, _, hN, _⟩ := hv.gok
  exact ⟨z, dF_all z (by omega) (by have := h.2.2.2; omega)⟩
/-- all nodes of a component see the same -/
theorem rootN_same {p q : Int} (hp : netOk lf sp L U p) (hq : netOk lf sp L U q) (hc : 0 ≤ dN lf sp L U p q.toNat) :
    rootN lf sp L U q g = rootN lf sp L U p g ∧ edgesN lf sp L U q g es = edgesN lf sp L U p g es := by
  obtain ⟨z, hd⟩ := dN_is hp
  obtain ⟨_, hd'⟩ := dN_is hq
  have hqN : q.toNat < (lf + sp).toNat := by have := hq.2.2.2; omega
  have same : ∀ n, n < (lf + sp).toNat → (0 ≤ dN lf sp L U p n ↔ 0 ≤ dN lf sp L U q n) := fun n hn => dist_same z hd hd' hqN hc hn
  have e1 : spn lf (lf + sp).toNat (dN lf sp L U q) = spn lf (lf + sp).toNat (dN lf sp L U p) := by
    unfold spn
    refine List.filter_congr fun n hn => ?_
    have := same n (List.mem_range.1 hn)
    exact decide_eq_decide.2 ⟨fun h => ⟨h.1, this.2 h.2⟩, fun h => ⟨h.1, this.1 h.2⟩⟩
  have e2 : rootN lf sp L U q g = rootN lf sp L U p g := by
    unfold rootN rootP
    rw [if_pos hp, if_pos hq, e1]
  refine ⟨e2, ?_⟩
  unfold edgesN
  rw [e2]
  have e3 : Mem es lf (dN lf sp L U q) = Mem es lf (dN lf sp L U p) := by
    funext m
    apply propext
    unfold Mem
    have l1 := hp.2.1
    constructor
    · rintro ⟨h1, h2, h3⟩; exact ⟨h1, h2, (same m (by have := hp.2.1; omega)).2 h3⟩
    · rintro ⟨h1, h2, h3⟩; exact ⟨h1, h2, (same m (by have := hp.2.1; omega)).1 h3⟩
  rw [e3]
/-- flags for a list of numbers -/
def flg (n : Nat) (l : List Nat) : List Bool := (List.range n).map fun k => decide (k ∈ l)
theorem flg_len {n : Nat} {l : List Nat} : (flg n l).length = n := by unfold flg; simp
theorem flg_get {n k : Nat} {l : List Nat} : (flg n l)[k]? = some true ↔ k < n ∧ k ∈ l := by
  unfold flg
  rw [List.getElem?_map]
  by_cases h : k < n
  · rw [List.getElem?_range h]
    simp [h]
  · rw [List.getElem?_eq_none (by simp; omega)]
    simp [h]
theorem flg_set {n k : Nat} {l : List Nat} : ((flg n l).map AVal.bool).set k (.bool true) = (flg n (l ++ [k])).map AVal.bool := by
  refine List.ext_getElem? fun i => ?_
  rw [List.getElem?_set]
  unfold flg
  by_cases e : k = i
  · subst e
    by_cases h : k < n
    · simp [h]
    · simp [h]
  · rw [if_neg e]
    by_cases h : i < n
    · simp [h, Ne.symm e]
    · simp [h]
end Go.AM
namespace Go.AM
open Go Go.Proofs
variable {K : AVal → Heap → Prop} {s s' s0 t : Heap} {U : List Bool} {L : List RLk} {lnv upv v w dv mv : AVal} {lf sp sf g : Int} {N r : Nat} {d ds : Nat → Int} {es es' : List Int}
theorem Agrees_in (hlf : -9223372036854775808 ≤ lf ∧ lf ≤ 9223372036854775807) (hsp : -9223372036854775808 ≤ sp ∧ sp ≤ 9223372036854775807) (hn : NetA s L U lnv upv) (hg : 0 ≤ g ∧ g < 4294967296) (hm : Sl s mv (izs es)) (hK : ∀ s, K (.bool true) s) : wpCall Try.prog XX 8 [.agg (netC lf sp lnv upv), .int .i64 sf, .int .u32 g, mv] K s := by
  refine vc_leafmeshlaw15_TreeAgrees_in (hn.box fun b s1 hb h1 u1 => known_in (.inl rfl) ?_)
  have sub1 := u1.sub hb
  simp only [net4 h1, optK_mk]
  refine lawvalid_in hlf hsp (hn.sub sub1) (k := es.length) (by rw [hm.len, List.length_map]) fun s2 ok sub2 hok => ?_
  have h2 := sub2 _ _ h1
  have sub02 := sub1.trans sub2
  simp only [unary_not, optK_mk]
  cases ok with
  | false => exact hK _
  | true =>
  have hok := hok.1 rfl
  have hv := hok.2.2.2
  have b1 := hok.2.1
  have b2 := hok.2.2.1
  have b3 := hv.2.1
  obtain ⟨c1, c2, c3⟩ := larg_false hok.1
  have hr : NetR s2 L U lnv upv := (hn.sub sub02).net ⟨c1, c2⟩
  simp only [Bool.not_true, boolK_false, addOff_ptr, Nat.zero_add, net0 h2, net1 h2, arith_add, optK_mk]
  rw [wrap64 (by omega) (by omega)]
  refine Pick_in (by omega) fun p p0 pn => ?_
  have nok := hok.net ⟨p0, pn⟩
  simp only [addOff_ptr, Nat.zero_add, net2 h2, net3 h2, optK_mk]
  refine Dist_in hr.l (by omega) hr.u fun v s3 sub3 _ hvv => ?_
  obtain ⟨N, hN⟩ : ∃ N : Nat, lf + sp = N := ⟨(lf + sp).toNat, by omega⟩
  obtain ⟨d, db, hd, _, rfl, _, h3d⟩ := hvv N p.toNat (by rw [← hN]; exact hv) hN (by omega) (by omega)
  rw [hN]
  have h3 := sub3 _ _ h2
  have hr3 := hr.sub sub3
  have sub03 := sub02.trans sub3
  have hdv : Sl s3 (.slc db 0 N (some N) 1) (dl N d) := Sl.mk h3d dl_len.symm (by simp [dl_len])
  have eN : N = (lf + sp).toNat := by omega
  have hv' : vld (N : Int) L U := by rw [← hN]; exact hv
  have z := hv'.gok.1
  have hdp : IsDist (lf + sp).toNat (L.map toL) U p.toNat (dN lf sp L U p) := by
    unfold dN
    rw [← eN]
    exact dF_is hd
  have hdd : ∀ n, n < N → d n = dN lf sp L U p n := fun n hn => by
    unfold dN
    rw [← eN]
    exact dF_eq z hd hn
  simp only [net4 h3, optK_mk]
  refine RootN_in hr3 hg fun s4 sub4 => ?_
  have h4 := sub4 _ _ h3
  have hr4 := hr3.sub sub4
  obtain ⟨ro, hro⟩ : ∃ ro, rootN lf sp L U p g = ro := ⟨_, rfl⟩
  rw [hro]
  obtain ⟨rv, rb, x0, x1, hrv⟩ : ∃ rv rb, extractA (rootV ro) 0 = some (.int .i64 rv) ∧ extractA (rootV ro) 1 = some (.bool rb) ∧ ((ro = none ∧ rv = 0 ∧ rb = false) ∨ ∃ r : Nat, ro = some r ∧ rv = r ∧ rb = true) := by
    cases ro with
    | none => exact ⟨0, false, rfl, rfl, .inl ⟨rfl, rfl, rfl⟩⟩
    | some r => exact ⟨r, true, rfl, rfl, .inr ⟨r, rfl, rfl, rfl⟩⟩
  simp only [x0, x1, net4 h4, optK_mk]
  have sub04 := sub03.trans sub4
  refine Edges15_in hr4 hg (hm.sub sub04) c3 fun tv s5 htv _ sub5 => ?_
  have h5 := sub5 _ _ h4
  have hr5 := hr4.sub sub5
  have sub05 := sub04.trans sub5
  have hd5 := (hdv.sub sub4).sub sub5
  have hlen := edgesN_len (g := g) (es := es) nok
  have hlt := edgesN_lt (g := g) (es := es) nok
  generalize hT : edgesN lf sp L U p g es = T at htv hlen hlt
  simp only [lenOf_slc, eqV_int, negB_mk, beq_self_eq_true, bne_self_eq_false, boolK_false, optK_mk]
  refine ⟨fun ys t m => ∃ i : Nat, ys = [.int .i64 i] ∧ i ≤ N ∧ m = N - i ∧ Sub s5 t, ⟨_, 0, rfl, by omega, rfl, .refl s5⟩, ?_⟩
  rintro f t m ⟨i, hy, hi, rfl, st⟩
  simp only [List.cons.injEq, and_true] at hy
  rw [hy]
  have ht := st _ _ h5
  have hrt := hr5.sub st
  have sub0t := sub05.trans st
  have htt := htv.sub st
  have next : ∀ t', Sub s5 t' → vc_leafmeshlaw15_TreeAgrees_j1 XX (.int .i64 (i : Int)) (fun ys t m => ∃ i : Nat, ys = [.int .i64 i] ∧ i ≤ N ∧ m = N - i ∧ Sub s5 t) (N - i) K t' ∨ N ≤ i := fun t' q => by
    by_cases hi2 : i < N
    · left
      simp only [vc_leafmeshlaw15_TreeAgrees_j1, arith_add, optK_mk]
      rw [wrap64 (by omega) (by omega)]
      exact ⟨_, by omega, i + 1, rfl, by omega, rfl, q⟩
    · exact .inr (by omega)
  simp only [vc_leafmeshlaw15_TreeAgrees_l0, arith_lss, optK_mk]
  refine boolK_mk (fun hlt2 => ?_) (fun hge => ?_)
  · have hlt2 : i < N := by have := of_decide_eq_true hlt2; omega
    have next : ∀ t', Sub s5 t' → vc_leafmeshlaw15_TreeAgrees_j1 XX (.int .i64 (i : Int)) (fun ys t m => ∃ i : Nat, ys = [.int .i64 i] ∧ i ≤ N ∧ m = N - i ∧ Sub s5 t) (N - i) K t' := fun t' q => (next t' q).resolve_right (by omega)
    obtain ⟨pp, g1, g2⟩ := (hd5.sub st).get (i := i) (by rw [dl_len]; exact hlt2)
    rw [dl_get hlt2] at g2
    simp only [g1, g2, arith_lss, optK_mk]
    refine boolK_mk (fun _ => next t st) (fun c0 => ?_)
    have c0 : 0 ≤ d i := by have := of_decide_eq_false c0; omega
    rw [hdd i hlt2] at c0
    have nok2 : netOk lf sp L U (i : Int) := hok.net ⟨by omega, by omega⟩
    simp only [net4 ht, optK_mk]
    refine RootN_in hrt hg fun t2 st2 => ?_
    obtain ⟨k1, k2⟩ := rootN_same (g := g) (es := es) nok nok2 c0
    rw [hT] at k2
    rw [k1, hro, x0, x1]
    simp only [optK_mk, eqV_int, eqV_bool, negB_mk, beq_self_eq_true, bne_self_eq_false, boolK_false, vc_leafmeshlaw15_TreeAgrees_j2, pickV_false]
    have ht2 := st2 _ _ ht
    simp only [net4 ht2, optK_mk]
    refine Edges15_in (hrt.sub st2) hg (hm.sub (sub0t.trans st2)) c3 fun tv2 s6 htv2 _ sub6 => ?_
    rw [k2] at htv2
    have htv6 := (htt.sub st2).sub sub6
    rw [iz_izs] at htv2 htv6
    refine Same_in htv2 htv6 (by rw [List.length_map]; omega) fun b hb => ?_
    have hb : b = true := hb.2 rfl
    subst hb
    simp only [unary_not, Bool.not_true, optK_mk, vc_leafmeshlaw15_TreeAgrees_j3, pickV_false, boolK_false]
    exact next s6 ((st.trans st2).trans sub6)
  · simp only [unary_not, optK_mk]
    rcases hrv with ⟨_, _, hrb⟩ | ⟨r, hr', hrv', hrb⟩
    · rw [hrb]
      exact hK _
    rw [hrb, hrv']
    rw [hr'] at hro
    obtain ⟨_, hspn⟩ := rootN_some hro
    rw [← eN] at hspn
    obtain ⟨rN, rlf, r0⟩ := mem_spn.1 hspn
    have n0 : nat? (.int .i64 (L.length : Int)) = some L.length := nat?_mk
    simp only [Bool.not_true, boolK_false, addOff_ptr, Nat.zero_add, net2 ht, hrt.l.len, List.length_map, n0, optK_mk]
    refine ⟨⟨Nat.le_refl _, by omega⟩, new_step fun ub t1 hub hu1 uu1 => ?_⟩
    have subu := uu1.sub hub
    refine ⟨fun ys t2 m => ∃ i : Nat, ys = [.int .i64 i] ∧ i ≤ T.length ∧ m = T.length - i ∧ t2 ub = some (false, .cells 4 ((flg L.length (T.take i)).map AVal.bool)) ∧ Sub t t2, ⟨_, 0, rfl, by omega, rfl, ?_, subu⟩, ?_⟩
    · rw [hu1, repl_one]
      congr 3
      unfold flg
      refine List.ext_getElem? fun i => ?_
      by_cases hi : i < L.length
      · simp [hi]
      · simp [hi]
    rintro f2 t2 m2 ⟨j, hy2, hj, rfl, hu2, st2⟩
    simp only [List.cons.injEq, and_true] at hy2
    rw [hy2]
    have x2 := st2 _ _ ht
    have hr2 := hrt.sub st2
    have sT := htt.sub st2
    simp only [vc_leafmeshlaw15_TreeAgrees_l4, sT.len, iz_len, arith_lss, optK_mk]
    refine boolK_mk (fun hlt3 => ?_) (fun hge3 => ?_)
    · have hlt3 : j < T.length := by have := of_decide_eq_true hlt3; omega
      obtain ⟨pp, g1, g2⟩ := sT.get (i := j) (by rw [iz_len]; exact hlt3)
      rw [iz_get, List.getElem?_eq_getElem hlt3] at g2
      have hx := hlt _ (List.getElem_mem hlt3)
      have ad : iaddrS 1 (.slc ub 0 L.length (some L.length) 1) (.int .i64 (T[j] : Int)) = some (.ptr ub T[j]) := by
        have : Nat.blt T[j] L.length = true := by rw [Nat.blt_eq]; exact hx
        simp [iaddrS, this]
      simp only [g1, g2, Option.map_some, optK_mk, lenOf_slc, arith_lss, arith_geq]
      rw [decide_eq_false (show ¬ (T[j] : Int) < 0 by omega), decide_eq_false (show ¬ (L.length : Int) ≤ (T[j] : Int) by omega)]
      simp only [boolK_false, vc_leafmeshlaw15_TreeAgrees_j5, pickV_false, optK_mk, g1, g2, Option.map_some, ad]
      refine wr1_step hu2 (by rw [List.length_map, flg_len]; exact hx) rfl fun t3 hu3 uu3 => ?_
      have hub0 : t ub = none := hub
      simp only [arith_add, optK_mk]
      rw [wrap64 (by omega) (by omega)]
      refine ⟨_, by omega, j + 1, rfl, by omega, rfl, ?_, sub_upto st2 uu3 hub0⟩
      rw [hu3, flg_set, List.take_add_one, List.getElem?_eq_getElem hlt3]
      rfl
    · have hge3 : j = T.length := by have := of_decide_eq_false hge3; omega
      subst hge3
      rw [List.take_length] at hu2
      simp only [addOff_ptr, Nat.zero_add, net2 x2, net3 x2, optK_mk]
      refine Dist_in hr2.frz.l (by omega) hr2.frz.u fun fv s8 sub8 _ hfv hno => ?_
      obtain ⟨df, fb, hdf, _, rfl, hfb, h8⟩ := hfv N r hv' rfl rN rfl
      have fb2 : t2 fb = none := frz_none.1 hfb
      have h9 : add t2 s8 fb = some (false, .cells 3 (dl N df)) := by rw [add_none fb2]; exact h8
      have sub9 : Sub t2 (add t2 s8) := sub_add
      have x9 := sub9 _ _ x2
      have hr9 := hr2.sub sub9
      have u9 := sub9 _ _ hu2
      have xc : cutH [(t2, add t2 s8)] (add t2 s8) b = some (false, .cells 25 (netC lf sp lnv upv)) := cut_keep x2 x9
      simp only [net2 xc, optK_mk]
      have hU' : Sl (add t2 s8) (.slc ub 0 L.length (some L.length) 1) ((flg L.length T).map AVal.bool) := Sl.mk u9 (by simp [flg_len]) (by simp [flg_len])
      have hvU : vld (N : Int) L (flg L.length T) := ⟨hv'.1, hv'.2.1, hv'.2.2.1, by rw [flg_len], hv'.2.2.2.2⟩
      have z' := hvU.gok.1
      refine Dist_in hr9.l (by omega) hU' fun cv s10 sub10 _ hcv => ?_
      obtain ⟨dc, cb, hdc, _, rfl, _, h10⟩ := hcv N r hvU rfl rN rfl
      have hf10 := sub10 _ _ h9
      have x10 := sub10 _ _ x9
      have sub0z := (((sub0t.trans st2).trans sub9).trans sub10)
      have hm10 := hm.sub sub0z
      have hF : Sl s10 (.slc fb 0 N (some N) 1) (dl N df) := Sl.mk hf10 dl_len.symm (by simp [dl_len])
      have hC : Sl s10 (.slc cb 0 N (some N) 1) (dl N dc) := Sl.mk h10 dl_len.symm (by simp [dl_len])
      -- the law: distances over the tree's links are the same at members
      have law : ∀ k : Nat, (k : Int) ∈ es → (k : Int) < lf → df k = dc k := fun k hk hkl => by
        have kN : k < N := by omega
        have memT : ∀ j, j ∈ T ↔ InT (L.map toL) (pF N (L.map toL) U r) (Mem es lf (dN lf sp L U p)) j := fun j => by
          rw [← hT]
          unfold edgesN
          rw [hro]
          simp only
          rw [← eN]
          exact mem_treeL z (dF_is hdf)
        have hup : ∀ i, (flg L.length T)[i]? = some true → U[i]? = some true := fun i hi => by
          obtain ⟨_, h2⟩ := flg_get.1 hi
          have h3 := (memT i).1 h2
          rw [← pF_eq z hdf] at h3
          obtain ⟨_, _, _, _, he, _⟩ := Tr0.ends z hdf h3
          exact he.1
        refine dist_cut z z' hup hdf hdc kN fun j hj => flg_get.2 ⟨?_, ?_⟩
        · have := hj.lt z hdf
          rwa [List.length_map] at this
        · rw [memT, ← pF_eq z hdf]
          refine ⟨k, ⟨hk, hkl, ?_⟩, hj⟩
          obtain ⟨i, hi⟩ := hj.no
          obtain ⟨_, _, _, _, _, _, q1, q2, _⟩ := par_some z hdf hi
          have rN' : r < (lf + sp).toNat := by omega
          have hdp2 : IsDist N (L.map toL) U p.toNat (dN lf sp L U p) := by rw [eN]; exact (dN_is nok).2
          exact (dist_same z hdp2 hdf rN r0 kN).2 (by omega)
      refine ⟨fun ys t m => ∃ i : Nat, ys = [.int .i64 i] ∧ i ≤ es.length ∧ m = es.length - i ∧ t = s10, ⟨_, 0, rfl, by omega, rfl, rfl⟩, ?_⟩
      rintro f3 t9 m3 ⟨i3, hy3, hi3, rfl, rfl⟩
      simp only [List.cons.injEq, and_true] at hy3
      rw [hy3]
      simp only [vc_leafmeshlaw15_TreeAgrees_l6, hm10.len, List.length_map, arith_lss, optK_mk]
      refine boolK_mk (fun hlt4 => ?_) (fun _ => hK _)
      have hlt4 : i3 < es.length := by have := of_decide_eq_true hlt4; omega
      obtain ⟨p3, g1, g2⟩ := hm10.get (i := i3) (by rw [List.length_map]; exact hlt4)
      have g3 : (izs es)[i3]? = some (.int .i64 es[i3]) := by simp [hlt4]
      rw [g3] at g2
      have nx : vc_leafmeshlaw15_TreeAgrees_j10 XX (.int .i64 (i3 : Int)) (.bool true) (.bool false) (fun ys t m => ∃ i : Nat, ys = [.int .i64 i] ∧ i ≤ es.length ∧ m = es.length - i ∧ t = t9) (es.length - i3) K t9 ∧ vc_leafmeshlaw15_TreeAgrees_j10 XX (.int .i64 (i3 : Int)) (.bool false) .undef (fun ys t m => ∃ i : Nat, ys = [.int .i64 i] ∧ i ≤ es.length ∧ m = es.length - i ∧ t = t9) (es.length - i3) K t9 := by
        simp only [vc_leafmeshlaw15_TreeAgrees_j10, pickV_true, pickV_false, optK_mk, boolK_false, arith_add]
        rw [wrap64 (by omega) (by omega)]
        exact ⟨⟨_, by omega, i3 + 1, rfl, by omega, rfl, by trivial⟩, ⟨_, by omega, i3 + 1, rfl, by omega, rfl, by trivial⟩⟩
      simp only [g1, g2, arith_geq, optK_mk]
      by_cases d1 : 0 ≤ es[i3]
      · rw [decide_eq_true d1]
        simp only [boolK_true, addOff_ptr, Nat.zero_add, net0 x10, arith_lss, optK_mk]
        by_cases d2 : es[i3] < lf
        · rw [decide_eq_true d2]
          obtain ⟨k, hk⟩ : ∃ k : Nat, es[i3] = k := ⟨es[i3].toNat, by omega⟩
          have kN : k < N := by omega
          obtain ⟨p4, a1, a2⟩ := hF.get (i := k) (by rw [dl_len]; exact kN)
          obtain ⟨p5, a3, a4⟩ := hC.get (i := k) (by rw [dl_len]; exact kN)
          rw [dl_get kN] at a2 a4
          have le := law k (by rw [← hk]; exact List.getElem_mem hlt4) (by omega)
          simp only [vc_leafmeshlaw15_TreeAgrees_j7, vc_leafmeshlaw15_TreeAgrees_j8, vc_leafmeshlaw15_TreeAgrees_j9, pickV_true, optK_mk, boolK_true, lenOf_slc, eqV_int, negB_mk, beq_self_eq_true, Bool.false_bne, hk, a1, a2, a3, a4, le, bne_self_eq_false]
          exact nx.1
        · rw [decide_eq_false d2]
          simp only [vc_leafmeshlaw15_TreeAgrees_j7, vc_leafmeshlaw15_TreeAgrees_j8, vc_leafmeshlaw15_TreeAgrees_j9, pickV_true, pickV_false, optK_mk, boolK_false]
          exact nx.2
      · rw [decide_eq_false d1]
        simp only [boolK_false, vc_leafmeshlaw15_TreeAgrees_j7, vc_leafmeshlaw15_TreeAgrees_j8, vc_leafmeshlaw15_TreeAgrees_j9, pickV_false, optK_mk]
        exact nx.2
set_option maxRecDepth 100000 in
theorem Agrees_wp (s : Heap) (xs : List AVal) (h : ArgL Try.prog s 40 [25, 3, 27, 28] xs) : wpCall Try.prog XX 8 xs (fun v _ => v = .bool true) s := by
  obtain ⟨a, b, c, e, rfl, h1, h2, h3, h4⟩ := argl4 h
  obtain ⟨lf, sp, L, U, lnv, upv, rfl, hn, w1, w2⟩ := arg_net (d := 36) h1
  obtain ⟨sf, rfl, _⟩ := arg_int (k := .i64) Try.underlying3 h2
  obtain ⟨g, rfl, w3⟩ := arg_int (k := .u32) Try.underlying27 h3
  obtain ⟨es, hm, _⟩ := arg_slice (d := 38) Try.underlying28 (by kernel_rfl) (AVal.int .i64) (fun _ => True) (fun xs h => by obtain ⟨n, e, _⟩ := inp_int Try.underlying3 h; exact ⟨n, e, trivial⟩) h4
  exact Agrees_in w1 w2 hn (bdu32 w3) hm fun _ => rfl
end Go.AM
namespace Go.AM
open Go Go.Proofs
variable {K : AVal → Heap → Prop} {s s' s0 t : Heap} {U : List Bool} {L : List RLk} {lnv upv v w dv mv tv : AVal} {lf sp sf g : Int} {N r : Nat} {d ds : Nat → Int} {es es' : List Int} {T : List Nat}
/-! ### reached -/
theorem flg_at {n k : Nat} {l : List Nat} (h : k < n) : ((flg n l).map AVal.bool)[k]? = some (.bool (decide (k ∈ l))) := by
  unfold flg
  simp [h]
def cntU (N : Nat) (l : List Nat) : Nat := (List.range N).countP fun n => decide (n ∉ l)
theorem cntU_lt {l : List Nat} {k : Nat} (hk : k < N) (h : k ∉ l) {m : List Nat} (hm : ∀ x ∈ l, x ∈ m) (hkm : k ∈ m) : cntU N m + 1 ≤ cntU N l := by
  unfold cntU
  refine cntF_lt (y := k) (fun x _ hx => ?_) (List.mem_range.2 hk) (decide_eq_false (fun q => q hkm)) (decide_eq_true h)
  have hx := of_decide_eq_true hx
  exact decide_eq_true fun q => hx (hm x q)
theorem cut1_at {x i : Nat} (h : i ≠ x) : cutH [(hdel s x, s)] s i = s i := by
  show (if hdel s x i = none ∧ s i ≠ none then none else s i) = s i
  rw [hdel_ne h]
  rw [if_neg]
  rintro ⟨h1, h2⟩; exact h2 h1
/-- both ends of a link are marked, or none is -/
def Bal (G : List Lnk) (P : Nat → Prop) (i : Nat) : Prop := ∀ a p c, G[i]? = some (a, p, c) → (P a ↔ P p)
theorem reached_in (hn : NetR s L U lnv upv) (hv : vld (N : Int) L U) (hsum : lf + sp = N) (hr : r < N) (ht : Sl s tv (iz T)) (hT : ∀ x ∈ T, x < L.length) (hTl : T.length ≤ 1000) (h1 : 1 ≤ lf) (h2 : 0 ≤ sp)
    (hK : ∀ b s' l, Sub s s' → s' b = some (false, .cells 4 ((flg N l).map AVal.bool)) → r ∈ l → (∀ i ∈ T, Bal (L.map toL) (· ∈ l) i) → (∀ P : Nat → Prop, P r → (∀ i ∈ T, Bal (L.map toL) P i) → ∀ n ∈ l, P n) → K (.slc b 0 N (some N) 1) s') : wpCall Try.prog XX 32 [.agg (netC lf sp lnv upv), tv, .int .i64 (r : Int)] K s := by
  obtain ⟨z, _, hN, _, hmp⟩ := hv.gok
  refine vc_leafmeshlaw15_reached_in (hn.box fun b s1 hb x1 u1 => ?_)
  have sub1 := u1.sub hb
  have n0 : nat? (.int .i64 (N : Int)) = some N := nat?_mk
  simp only [addOff_ptr, Nat.zero_add, net0 x1, net1 x1, arith_add, optK_mk]
  rw [wrap64 (by omega) (by omega), hsum]
  simp only [n0, optK_mk]
  refine ⟨⟨Nat.le_refl _, by omega⟩, new_step fun tb s2 htb y2 u2 => ?_⟩
  have sub2 := u2.sub htb
  have ad : ∀ {i : Nat}, i < N → iaddrS 1 (.slc tb 0 N (some N) 1) (.int .i64 (i : Int)) = some (.ptr tb i) := fun {i} hi => by
    have : Nat.blt i N = true := by rw [Nat.blt_eq]; exact hi
    simp [iaddrS, this]
  have y2 : s2 tb = some (false, .cells 4 ((flg N []).map AVal.bool)) := by
    rw [y2, repl_one]
    congr 3
    unfold flg
    refine List.ext_getElem? fun i => ?_
    by_cases hi : i < N
    · simp [hi]
    · simp [hi]
  simp only [ad hr, optK_mk]
  refine wr1_step y2 (by rw [List.length_map, flg_len]; exact hr) rfl fun s3 y3 u3 => ?_
  rw [flg_set] at y3
  have sub3 : Sub s1 s3 := sub_upto sub2 u3 htb
  refine ⟨fun ys t m => ∃ (more : Bool) (l : List Nat), ys = [.bool more] ∧ m = 2 * cntU N l + (if more then 1 else 0) ∧ Sub s1 t ∧ t tb = some (false, .cells 4 ((flg N l).map AVal.bool)) ∧ r ∈ l ∧ (more = false → ∀ i ∈ T, Bal (L.map toL) (· ∈ l) i) ∧ (∀ P : Nat → Prop, P r → (∀ i ∈ T, Bal (L.map toL) P i) → ∀ n ∈ l, P n), ⟨_, true, _, rfl, rfl, sub3, y3, by simp, (fun h => by cases h), fun P hP _ n hn => ?_⟩, ?_⟩
  · have : n = r := by simpa using hn
    rw [this]; exact hP
  rintro f t m ⟨more, l, hy, rfl, st, yt, hrl, hbal, hmin⟩
  simp only [List.cons.injEq, and_true] at hy
  rw [hy]
  simp only [vc_leafmeshlaw15_reached_l0]
  cases more with
  | false =>
    simp only [boolK_false]
    exact hK tb t l (sub1.trans st) yt hrl (hbal rfl) hmin
  | true =>
  simp only [boolK_true]
  refine ⟨fun ys t2 m => ∃ (more : Bool) (i : Nat) (l2 : List Nat), ys = [.bool more, .int .i64 i] ∧ i ≤ T.length ∧ m = T.length - i ∧ Sub s1 t2 ∧ t2 tb = some (false, .cells 4 ((flg N l2).map AVal.bool)) ∧ r ∈ l2 ∧ (more = false → l2 = l ∧ ∀ j ∈ T.take i, Bal (L.map toL) (· ∈ l) j) ∧ (more = true → cntU N l2 + 1 ≤ cntU N l) ∧ (∀ P : Nat → Prop, P r → (∀ i ∈ T, Bal (L.map toL) P i) → ∀ n ∈ l2, P n), ⟨_, false, 0, l, rfl, by omega, rfl, st, yt, hrl, fun _ => ⟨rfl, by simp⟩, (fun h => by cases h), hmin⟩, ?_⟩
  clear hmin yt hbal hrl
  rintro f2 t2 m2 ⟨more, i, l2, hy2, hi, rfl, st2, yt, hrl, hno, hyes, hmin⟩
  simp only [List.cons.injEq, and_true] at hy2
  rw [hy2.1, hy2.2]
  have sT := (ht.sub sub1).sub st2
  simp only [vc_leafmeshlaw15_reached_l1, sT.len, iz_len, arith_lss, optK_mk]
  refine boolK_mk (fun hlt => ?_) (fun hge => ?_)
  · have hlt : i < T.length := by have := of_decide_eq_true hlt; omega
    obtain ⟨p, g1, g2⟩ := sT.get (i := i) (by rw [iz_len]; exact hlt)
    rw [iz_get, List.getElem?_eq_getElem hlt] at g2
    have hmem : T[i] ∈ T := List.getElem_mem hlt
    have hx := hT _ hmem
    have b2 := st2 _ _ x1
    have hn2 := (hn.sub sub1).sub st2
    have hx2 : T[i] < (L.map toL).length := by rw [List.length_map]; exact hx
    obtain ⟨⟨A, P, C⟩, hL⟩ : ∃ x : Lnk, (L.map toL)[T[i]]? = some x := ⟨_, List.getElem?_eq_getElem hx2⟩
    have hok := z.ok _ (List.mem_of_getElem? hL)
    obtain ⟨pb, po, e1, e2, _⟩ := hn2.l.get (i := T[i]) (r := lkR (A, P, C)) (by rw [hmp, List.getElem?_map, hL]; rfl)
    have aN : A < N := hok.1
    have pN : P < N := hok.2.1
    have len60 := hn.len.1
    simp only [g1, g2, Option.map_some, optK_mk, arith_lss, addOff_ptr, Nat.zero_add, net2 b2, hn2.l.len, List.length_map, arith_geq]
    rw [decide_eq_false (show ¬ (T[i] : Int) < 0 by omega), decide_eq_false (show ¬ (L.length : Int) ≤ (T[i] : Int) by omega)]
    simp only [boolK_false, vc_leafmeshlaw15_reached_j2, pickV_false, optK_mk, addOff_ptr, Nat.zero_add, net2 b2, g1, g2, Option.map_some, e1, e2]
    refine newM (l := []) fun lb s27 hlb h27 u27 => ?_
    have sub27 := u27.sub hlb
    generalize add t2 s27 = t3 at h27 u27 sub27
    refine wrAgg_step h27 rfl rfl rfl fun t4 h4 u4 => ?_
    have h4 : t4 lb = some (false, .cells 39 [.int .i64 (A : Int), .int .i64 (P : Int), .int .i64 (C : Int)]) := h4
    have sub4 : Sub t2 t4 := sub_upto sub27 u4 hlb
    have yt4 := sub4 _ _ yt
    have st4 := st2.trans sub4
    have q0 : [AVal.int .i64 (A : Int), .int .i64 (P : Int), .int .i64 (C : Int)][0]? = some (.int .i64 (A : Int)) := rfl
    have q1 : [AVal.int .i64 (A : Int), .int .i64 (P : Int), .int .i64 (C : Int)][1]? = some (.int .i64 (P : Int)) := rfl
    have tne : tb ≠ lb := fun q => by rw [q, h4] at yt4; cases yt4
    have ltb : lb ≠ tb := Ne.symm tne
    simp only [addOff_ptr, Nat.zero_add, rd1_mk h4, q0, q1, ad aN, ad pN, rd1_mk yt4, flg_at aN, flg_at pN, eqV_bool, negB_mk, Bool.true_bne, optK_mk]
    have tk : ∀ x, x ∈ T.take (i + 1) ↔ x ∈ T.take i ∨ x = T[i] := fun x => by
      rw [List.take_add_one, List.getElem?_eq_getElem hlt, List.mem_append]
      simp only [Option.toList, List.mem_singleton]
    refine boolK_mk (fun hd => ?_) (fun hd => ?_)
    · have hd : ¬ (A ∈ l2 ↔ P ∈ l2) := by
        intro q
        have : (decide (A ∈ l2) == decide (P ∈ l2)) = true := beq_iff_eq.2 (decide_eq_decide.2 q)
        rw [this] at hd; cases hd
      refine ⟨?_, ?_⟩
      · show cutH [(hdel t4 lb, t4)] t4 tb ≠ none
        rw [cut1_at tne, yt4]; simp
      refine wr1_step yt4 (by rw [List.length_map, flg_len]; exact aN) rfl fun t5 y5 u5 => ?_
      rw [flg_set] at y5
      refine wr1_step y5 (by rw [List.length_map, flg_len]; exact pN) rfl fun t6 y6 u6 => ?_
      rw [flg_set] at y6
      have htb1 : s1 tb = none := htb
      have st6 : Sub s1 t6 := sub_upto (sub_upto st4 u5 htb1) u6 htb1
      simp only [vc_leafmeshlaw15_reached_j3, arith_add, optK_mk]
      rw [wrap64 (by omega) (by omega)]
      have less : cntU N (l2 ++ [A] ++ [P]) + 1 ≤ cntU N l2 := by
        by_cases ha : A ∈ l2
        · have hp : P ∉ l2 := fun hp => hd ⟨fun _ => hp, fun _ => ha⟩
          exact cntU_lt pN hp (fun x hx => by simp [hx]) (by simp)
        · exact cntU_lt aN ha (fun x hx => by simp [hx]) (by simp)
      refine ⟨_, by omega, true, i + 1, _, rfl, by omega, rfl, st6, y6, by simp [hrl], (fun h => by cases h), fun _ => ?_, fun Q hQ hB n hn => ?_⟩
      · cases more with
        | true => have := hyes rfl; omega
        | false => have := (hno rfl).1; rw [this] at less ⊢; omega
      · have hb := hB _ hmem A P C hL
        have m0 := hmin Q hQ hB
        simp only [List.mem_append, List.mem_singleton] at hn
        have hAP : Q A ∧ Q P := by
          by_cases ha : A ∈ l2
          · exact ⟨m0 A ha, hb.1 (m0 A ha)⟩
          · have hp : P ∈ l2 := by
              apply Classical.byContradiction
              intro hp
              exact hd ⟨fun h => absurd h ha, fun h => absurd h hp⟩
            exact ⟨hb.2 (m0 P hp), m0 P hp⟩
        rcases hn with (hn | rfl) | rfl
        · exact m0 n hn
        · exact hAP.1
        · exact hAP.2
    · have hd : A ∈ l2 ↔ P ∈ l2 := by
        have : (decide (A ∈ l2) == decide (P ∈ l2)) = true := by
          cases q : (decide (A ∈ l2) == decide (P ∈ l2)) with
          | true => rfl
          | false => rw [q] at hd; cases hd
        exact decide_eq_decide.1 (beq_iff_eq.1 this)
      simp only [vc_leafmeshlaw15_reached_j3, arith_add, optK_mk]
      rw [wrap64 (by omega) (by omega)]
      refine ⟨_, by omega, more, i + 1, l2, rfl, by omega, rfl, st4, yt4, hrl, fun hm => ?_, hyes, hmin⟩
      obtain ⟨e, hb⟩ := hno hm
      refine ⟨e, fun j hj => ?_⟩
      rcases (tk j).1 hj with q | q
      · exact hb j q
      · rw [q]
        intro a p c hg
        rw [hL] at hg
        cases hg
        rw [← e]
        exact hd
  · have hge : i = T.length := by have := of_decide_eq_false hge; omega
    subst hge
    rw [List.take_length] at hno
    cases more with
    | true => exact ⟨_, by have := hyes rfl; simp only [if_true]; omega, true, l2, rfl, rfl, st2, yt, hrl, (fun h => by cases h), hmin⟩
    | false =>
      obtain ⟨e, hb⟩ := hno rfl
      subst e
      exact ⟨_, by simp, false, l2, rfl, rfl, st2, yt, hrl, fun _ => hb, hmin⟩
end Go.AM
namespace Go.AM
open Go Go.Proofs
variable {K : AVal → Heap → Prop} {s s' s0 t : Heap} {U : List Bool} {L : List RLk} {lnv upv v w dv mv tv : AVal} {lf sp sf g : Int} {N r : Nat} {d ds : Nat → Int} {es es' : List Int} {T : List Nat} {G : List Lnk}
/-! ### TreeIs: the law -/
def endAt (G : List Lnk) (n i : Nat) : Bool := match G[i]? with
  | some (a, b, _) => (a == n) || (b == n)
  | none => false
theorem endAt_ed {i n m c : Nat} (h : Ed G U i n m c) : endAt G n i = true := by
  unfold endAt
  rcases h.2 with e | e <;> rw [e] <;> simp
theorem two_le {f : Nat → Bool} {l : List Nat} {i j : Nat} (hi : i ∈ l) (hj : j ∈ l) (hij : i ≠ j) (fi : f i = true) (fj : f j = true) : 2 ≤ l.countP f := by
  rw [List.countP_eq_length_filter]
  have mi : i ∈ l.filter f := List.mem_filter.2 ⟨hi, fi⟩
  have mj : j ∈ l.filter f := List.mem_filter.2 ⟨hj, fj⟩
  match h : l.filter f with
  | [] => rw [h] at mi; cases mi
  | [x] =>
    rw [h, List.mem_singleton] at mi mj
    exact absurd (mi.trans mj.symm) hij
  | x :: y :: r => simp
structure IsLaw (N : Nat) (G : List Lnk) (U : List Bool) (r : Nat) (d : Nat → Int) (M : Nat → Prop) (T lb : List Nat) : Prop where
  iff : ∀ n, n ∈ lb ↔ InV G U r d M n
  f1 : ∀ n, n ∈ lb ↔ n = r ∨ 0 < T.countP (endAt G n)
  f2 : ∀ n, n < N → 0 ≤ d n → M n → n ∈ lb
  f3 : ∀ n, n ≠ r → T.countP (endAt G n) = 1 → M n
  cnt : ((List.range N).filter fun n => decide (n ∈ lb)).length = T.length + 1
theorem isLaw {lb : List Nat} {M : Nat → Prop} (z : GOk N G U) (hr : r < N) (h : IsDist N G U r d) (hT : ∀ i, i ∈ T ↔ InT G (parL G U d) M i) (nT : T.Nodup) (hl0 : r ∈ lb) (hb : ∀ i ∈ T, Bal G (· ∈ lb) i) (hmin : ∀ P : Nat → Prop, P r → (∀ i ∈ T, Bal G P i) → ∀ n ∈ lb, P n) : IsLaw N G U r d M T lb := by
  have iff : ∀ n, n ∈ lb ↔ InV G U r d M n := fun n => by
    constructor
    · intro hn
      refine hmin (InV G U r d M) (.inl rfl) (fun i hi a p c hg => ?_) n hn
      obtain ⟨h1, h2⟩ := InV.at z h ((hT i).1 hi) hg
      exact ⟨fun _ => h2, fun _ => h1⟩
    · intro hn
      refine InV.all z hr h (P := (· ∈ lb)) hl0 (fun i n m c hi he hm => ?_) _ n rfl hn
      have hb := hb i ((hT i).2 hi)
      rcases he.2 with e | e
      · exact (hb n m c e).2 hm
      · exact (hb m n c e).1 hm
  have up : ∀ n, n ≠ r → InV G U r d M n → ∃ i : Nat, parL G U d n = (i : Int) ∧ i ∈ T ∧ endAt G n i = true := fun n hne hv => by
    rcases hv with e | ⟨i, hi, ht⟩
    · exact absurd e hne
    · obtain ⟨m, c, he, _⟩ := par_some z h hi
      exact ⟨i, hi, (hT i).2 ht, endAt_ed he⟩
  have f1 : ∀ n, n ∈ lb ↔ n = r ∨ 0 < T.countP (endAt G n) := fun n => by
    rw [iff]
    constructor
    · intro hv
      by_cases e : n = r
      · exact .inl e
      · obtain ⟨i, _, h2, h3⟩ := up n e hv
        exact .inr (List.countP_pos_iff.2 ⟨i, h2, h3⟩)
    · rintro (rfl | hc)
      · exact .inl rfl
      · obtain ⟨i, hi, hf⟩ := List.countP_pos_iff.1 hc
        unfold endAt at hf
        split at hf
        · rename_i a b c hg
          obtain ⟨h1, h2⟩ := InV.at z h ((hT i).1 hi) hg
          simp only [Bool.or_eq_true, beq_iff_eq] at hf
          rcases hf with rfl | rfl
          · exact h1
          · exact h2
        · cases hf
  refine ⟨iff, f1, fun n hn h0 hm => (iff n).2 (InV.mem z h hn h0 hm), fun n hne hc => ?_, ?_⟩
  · apply Classical.byContradiction
    intro hm
    have hv := (iff n).1 ((f1 n).2 (.inr (by omega)))
    obtain ⟨i, h1, h2, h3⟩ := up n hne hv
    obtain ⟨j, m, c, h4, h5, h6⟩ := InV.two z h h1 ((hT i).1 h2) hm
    have := two_le ((hT j).2 h4) h2 h6 (endAt_ed h5) h3
    omega
  · refine InV.count z hr h (List.Pairwise.filter _ List.nodup_range) nT (fun n => ?_) hT
    rw [List.mem_filter, List.mem_range, decide_eq_true_eq, iff]
    exact ⟨fun q => q.2, fun q => ⟨(q.lt z hr h).1, q⟩⟩
/-! ### TreeIs: the conditions of one node -/
theorem is_j8 {root t13 n t141 t146 : AVal} {many k : Nat} {ends : Nat} {inN isR bel : Bool} {p : AVal} {I2 : List AVal → Heap → Nat → Prop} {m2 : Nat}
    (hm : many ≤ 100) (hk : k ≤ 100) (hn : n = .int .i64 (k : Int)) (h1 : pickV t141 t146 (.bool false) = some (.bool bel)) (h2 : iaddrS 1 t13 n = some p) (h3 : rd1 s p = some (.bool inN)) (h4 : negB false (eqV 0 false n root) = some (.bool isR))
    (f1 : inN = (isR || decide (0 < ends))) (f2 : bel = true → inN = true) (f3 : isR = false → ends = 1 → bel = true)
    (hnx : ∃ m', m' < m2 ∧ I2 [.int .i64 ((many + (if inN then 1 else 0) : Nat) : Int), .int .i64 ((k + 1 : Nat) : Int)] s m') : vc_leafmeshlaw15_TreeIs_j8 XX root t13 (.int .i64 (many : Int)) n (.int .i64 (ends : Int)) t141 t146 I2 m2 K s := by
  subst hn
  have e0 : decide ((0 : Int) < (ends : Int)) = decide (0 < ends) := decide_eq_decide.2 (by omega)
  have e1 : ((ends : Int) == 1) = (ends == 1) := by
    cases q : (ends == 1) with
    | true => have := eq_of_beq q; subst this; rfl
    | false =>
      have : ¬ ends = 1 := by simpa using q
      cases q2 : ((ends : Int) == 1) with
      | false => rfl
      | true => have := eq_of_beq q2; omega
  have a1 : IntKind.i64.wrap ((k : Int) + 1) = ((k + 1 : Nat) : Int) := by rw [wrap64 (by omega) (by omega)]; omega
  have a2 : IntKind.i64.wrap ((many : Int) + 1) = ((many + 1 : Nat) : Int) := by rw [wrap64 (by omega) (by omega)]; omega
  have h4' : negB true (eqV 0 false (.int .i64 (k : Int)) root) = some (.bool (!isR)) := by
    cases q : eqV 0 false (.int .i64 (k : Int)) root with
    | none => rw [q] at h4; cases h4
    | some x => rw [q] at h4; simp only [negB_mk, Bool.false_bne, Option.some.injEq, AVal.bool.injEq] at h4; rw [h4, negB_mk]; cases isR <;> rfl
  have f3' : isR = false → (ends == 1) = true → bel = true := fun q w => f3 q (eq_of_beq w)
  have g1 : (ends == 1) = true → decide (0 < ends) = true := fun w => by have := eq_of_beq w; subst this; rfl
  unfold vc_leafmeshlaw15_TreeIs_j8
  simp only [h1, h2, h3, h4, optK_mk, arith_gtr, e0]
  clear h1
  generalize decide (0 < ends) = x0 at *
  generalize hx1 : (ends == 1) = x1 at *
  cases inN <;> cases isR <;> cases bel <;> cases x0 <;> cases x1 <;> first
    | exact absurd f1 (by decide)
    | exact absurd (f2 rfl) (by decide)
    | exact absurd (f3' rfl rfl) (by decide)
    | exact absurd (g1 rfl) (by decide)
    | (simp only [vc_leafmeshlaw15_TreeIs_j9, vc_leafmeshlaw15_TreeIs_j10, vc_leafmeshlaw15_TreeIs_j11, vc_leafmeshlaw15_TreeIs_j12, vc_leafmeshlaw15_TreeIs_j13, vc_leafmeshlaw15_TreeIs_j14, vc_leafmeshlaw15_TreeIs_j15, vc_leafmeshlaw15_TreeIs_j16, vc_leafmeshlaw15_TreeIs_j17, vc_leafmeshlaw15_TreeIs_j18, optK_mk, pickV_true, pickV_false, boolK_true, boolK_false, eqV_bool, eqV_int, negB_mk, e1, unary_not, Bool.true_beq, Bool.false_beq, Bool.true_bne, Bool.false_bne, Bool.not_true, Bool.not_false, h2, h3, h4', arith_add, a1, a2]; exact hnx)
end Go.AM
namespace Go.AM
open Go Go.Proofs
variable {K : AVal → Heap → Prop} {s s' s0 t : Heap} {U : List Bool} {L : List RLk} {lnv upv v w dv mv tv : AVal} {lf sp sf g : Int} {N r : Nat} {d ds : Nat → Int} {es es' : List Int} {T : List Nat} {G : List Lnk}
theorem cnt_take {f : Nat → Bool} {l : List Nat} {i : Nat} (h : i < l.length) : (l.take (i + 1)).countP f = (l.take i).countP f + (if f l[i] then 1 else 0) := by
  rw [List.take_add_one, List.getElem?_eq_getElem h, List.countP_append]
  simp only [Option.toList, List.countP_cons, List.countP_nil, Nat.zero_add]
theorem Is_in (hlf : -9223372036854775808 ≤ lf ∧ lf ≤ 9223372036854775807) (hsp : -9223372036854775808 ≤ sp ∧ sp ≤ 9223372036854775807) (hn : NetA s L U lnv upv) (hg : 0 ≤ g ∧ g < 4294967296) (hm : Sl s mv (izs es)) (hK : ∀ s, K (.bool true) s) : wpCall Try.prog XX 6 [.agg (netC lf sp lnv upv), .int .i64 sf, .int .u32 g, mv] K s := by
  refine vc_leafmeshlaw15_TreeIs_in (hn.box fun b s1 hb h1 u1 => known_in (.inl rfl) ?_)
  have sub1 := u1.sub hb
  simp only [net4 h1, optK_mk]
  refine lawvalid_in hlf hsp (hn.sub sub1) (k := es.length) (by rw [hm.len, List.length_map]) fun s2 ok sub2 hok => ?_
  have h2 := sub2 _ _ h1
  have sub02 := sub1.trans sub2
  simp only [unary_not, optK_mk]
  cases ok with
  | false => exact hK _
  | true =>
  have hok := hok.1 rfl
  have hv := hok.2.2.2
  have b1 := hok.2.1
  have b2 := hok.2.2.1
  have b3 := hv.2.1
  obtain ⟨c1, c2, c3⟩ := larg_false hok.1
  have hr : NetR s2 L U lnv upv := (hn.sub sub02).net ⟨c1, c2⟩
  simp only [Bool.not_true, boolK_false, addOff_ptr, Nat.zero_add, net0 h2, net1 h2, arith_add, optK_mk]
  rw [wrap64 (by omega) (by omega)]
  refine Pick_in (by omega) fun p p0 pn => ?_
  have nok := hok.net ⟨p0, pn⟩
  obtain ⟨N, hN⟩ : ∃ N : Nat, lf + sp = N := ⟨(lf + sp).toNat, by omega⟩
  have eN : N = (lf + sp).toNat := by omega
  have hv' : vld (N : Int) L U := by rw [← hN]; exact hv
  have z := hv'.gok.1
  have hdp : IsDist N (L.map toL) U p.toNat (dN lf sp L U p) := by rw [eN]; exact (dN_is nok).2
  simp only [net4 h2, optK_mk]
  refine RootN_in hr hg fun s4 sub4 => ?_
  have h4 := sub4 _ _ h2
  have hr4 := hr.sub sub4
  have sub04 := sub02.trans sub4
  cases hro : rootN lf sp L U p g with
  | none =>
    have x0 : extractA (rootV none) 0 = some (.int .i64 0) := rfl
    have x1 : extractA (rootV none) 1 = some (.bool false) := rfl
    simp only [x0, x1, net4 h4, optK_mk]
    refine Edges15_in hr4 hg (hm.sub sub04) c3 fun tv s5 htv _ sub5 => ?_
    have e : edgesN lf sp L U p g es = [] := by unfold edgesN; rw [hro]
    rw [e] at htv
    simp only [unary_not, Bool.not_false, optK_mk, boolK_true, htv.len, iz_len, List.length_nil, eqV_int, negB_mk, beq_self_eq_true, Bool.false_bne, vc_leafmeshlaw15_TreeIs_j0, pickV_true]
    exact hK _
  | some r =>
  obtain ⟨_, hspn⟩ := rootN_some hro
  rw [← eN] at hspn
  obtain ⟨rN, rlf, r0⟩ := mem_spn.1 hspn
  have hdr : IsDist N (L.map toL) U r (dF N (L.map toL) U r) := dF_all z (by omega) rN
  have x0 : extractA (rootV (some r)) 0 = some (.int .i64 (r : Int)) := rfl
  have x1 : extractA (rootV (some r)) 1 = some (.bool true) := rfl
  simp only [x0, x1, net4 h4, optK_mk]
  refine Edges15_in hr4 hg (hm.sub sub04) c3 fun tv s5 htv _ sub5 => ?_
  have h5 := sub5 _ _ h4
  have hr5 := hr4.sub sub5
  have sub05 := sub04.trans sub5
  have hlen := edgesN_len (g := g) (es := es) nok
  have hlt := edgesN_lt (g := g) (es := es) nok
  have hT : ∀ j, j ∈ edgesN lf sp L U p g es ↔ InT (L.map toL) (pF N (L.map toL) U r) (Mem es lf (dN lf sp L U p)) j := fun j => by
    unfold edgesN
    rw [hro]
    simp only
    rw [← eN]
    exact mem_treeL z hdr
  have hsort : (edgesN lf sp L U p g es).Pairwise (· < ·) := by
    unfold edgesN
    rw [hro]
    exact treeL_sorted
  generalize edgesN lf sp L U p g es = T at htv hlen hlt hT hsort
  have w : IntKind.i64.wrap (lf + sp) = (N : Int) := by rw [wrap64 (by omega) (by omega), hN]
  simp only [unary_not, Bool.not_true, optK_mk, boolK_false, addOff_ptr, Nat.zero_add, net0 h5, net1 h5, arith_lss, arith_add, w, arith_geq]
  rw [decide_eq_false (show ¬ (r : Int) < lf by omega), decide_eq_false (show ¬ (N : Int) ≤ (r : Int) by omega)]
  simp only [boolK_false, vc_leafmeshlaw15_TreeIs_j1, pickV_false, optK_mk, net4 h5]
  refine reached_in hr5 hv' hN rN htv hlt (by omega) b1 b2 fun rb s6 lb sub6 h6r hrl hbal hmin => ?_
  have law := isLaw z rN hdr hT (hsort.imp fun h => by omega) hrl hbal hmin
  have h6 := sub6 _ _ h5
  have hr6 := hr5.sub sub6
  have sub06 := sub05.trans sub6
  have hNe : ((N : Int) == 0) = false := by
    cases q : ((N : Int) == 0) with
    | false => rfl
    | true => have := eq_of_beq q; omega
  simp only [lenOf_slc, eqV_int, negB_mk, Bool.false_bne, hNe, optK_mk, boolK_false, addOff_ptr, Nat.zero_add, net0 h6, net1 h6, net2 h6, net3 h6, arith_add, w]
  refine Dist_in hr6.l (by omega) hr6.u fun v s7 sub7 _ hvv => ?_
  obtain ⟨d, db, hd, _, rfl, _, h7d⟩ := hvv N p.toNat hv' rfl (by omega) (by omega)
  have hdd : ∀ n, n < N → d n = dN lf sp L U p n := fun n hn => dist_uniq z hd hdp hn
  have h7 := sub7 _ _ h6
  have h7r := sub7 _ _ h6r
  have hr7 := hr6.sub sub7
  have sub07 := sub06.trans sub7
  have hT7 := (htv.sub sub6).sub sub7
  have hm7 := hm.sub sub07
  have hdv : Sl s7 (.slc db 0 N (some N) 1) (dl N d) := Sl.mk h7d dl_len.symm (by simp [dl_len])
  have adr : ∀ {i : Nat}, i < N → iaddrS 1 (.slc rb 0 N (some N) 1) (.int .i64 (i : Int)) = some (.ptr rb i) := fun {i} hi => by
    have : Nat.blt i N = true := by rw [Nat.blt_eq]; exact hi
    simp [iaddrS, this]
  obtain ⟨_, _, _, _, hmp⟩ := hv'.gok
  -- all nodes
  refine ⟨fun ys t m => ∃ (n many : Nat), ys = [.int .i64 (many : Int), .int .i64 (n : Int)] ∧ n ≤ N ∧ m = N - n ∧ t = s7 ∧ many = ((List.range n).filter fun n => decide (n ∈ lb)).length, ⟨_, 0, 0, rfl, by omega, rfl, rfl, rfl⟩, ?_⟩
  rintro f t m ⟨n, many, hy, hnN, rfl, rfl, hmany⟩
  simp only [List.cons.injEq, and_true] at hy
  rw [hy.1, hy.2]
  simp only [vc_leafmeshlaw15_TreeIs_l2, addOff_ptr, Nat.zero_add, net0 h7, net1 h7, arith_add, w, arith_lss, optK_mk]
  refine boolK_mk (fun hl2 => ?_) (fun hge => ?_)
  · have hnlt : n < N := by have := of_decide_eq_true hl2; omega
    have hmn : many ≤ n := by
      rw [hmany]
      have := List.length_filter_le (fun n => decide (n ∈ lb)) (List.range n)
      rwa [List.length_range] at this
    -- its ends
    refine ⟨fun ys t2 m => ∃ (i : Nat), ys = [.int .i64 (((T.take i).countP (endAt (L.map toL) n) : Nat) : Int), .int .i64 (i : Int)] ∧ i ≤ T.length ∧ m = T.length - i ∧ t2 = t, ⟨_, 0, rfl, by omega, rfl, rfl⟩, ?_⟩
    rintro f2 t2 m2 ⟨i, hy2, hi, rfl, rfl⟩
    simp only [List.cons.injEq, and_true] at hy2
    rw [hy2.1, hy2.2]
    simp only [vc_leafmeshlaw15_TreeIs_l3, hT7.len, iz_len, arith_lss, optK_mk]
    refine boolK_mk (fun hlt3 => ?_) (fun hge3 => ?_)
    · have hlt3 : i < T.length := by have := of_decide_eq_true hlt3; omega
      obtain ⟨pp, g1, g2⟩ := hT7.get (i := i) (by rw [iz_len]; exact hlt3)
      rw [iz_get, List.getElem?_eq_getElem hlt3] at g2
      have hx := hlt _ (List.getElem_mem hlt3)
      have hx2 : T[i] < (L.map toL).length := by rw [List.length_map]; exact hx
      obtain ⟨⟨A, P, C⟩, hL⟩ : ∃ x : Lnk, (L.map toL)[T[i]]? = some x := ⟨_, List.getElem?_eq_getElem hx2⟩
      obtain ⟨pb, po, e1, _, e3⟩ := hr7.l.get (i := T[i]) (r := lkR (A, P, C)) (by rw [hmp, List.getElem?_map, hL]; rfl)
      have q0 : rd1 t2 (.ptr pb po) = some (.int .i64 (A : Int)) := e3 0 (by omega)
      have q1 : rd1 t2 (.ptr pb (po + 1)) = some (.int .i64 (P : Int)) := e3 1 (by omega)
      have ct := cnt_take (f := endAt (L.map toL) n) hlt3
      have hcl := List.countP_le_length (p := endAt (L.map toL) n) (l := T.take i)
      rw [List.length_take] at hcl
      have ea : endAt (L.map toL) n T[i] = ((A == n) || (P == n)) := by unfold endAt; rw [hL]
      have eA : ((A : Int) == (n : Int)) = (A == n) := by
        cases q : (A == n) with
        | true => have := eq_of_beq q; subst this; simp
        | false =>
          have : ¬ A = n := by simpa using q
          cases q2 : ((A : Int) == (n : Int)) with
          | false => rfl
          | true => have := eq_of_beq q2; omega
      have eP : ((P : Int) == (n : Int)) = (P == n) := by
        cases q : (P == n) with
        | true => have := eq_of_beq q; subst this; simp
        | false =>
          have : ¬ P = n := by simpa using q
          cases q2 : ((P : Int) == (n : Int)) with
          | false => rfl
          | true => have := eq_of_beq q2; omega
      rw [ea] at ct
      have nx : ∀ k : Nat, k = (T.take (i + 1)).countP (endAt (L.map toL) n) → ∃ m', m' < T.length - i ∧ ∃ (q : Nat), [AVal.int .i64 (k : Int), .int .i64 ((i : Int) + 1)] = [.int .i64 (((T.take q).countP (endAt (L.map toL) n) : Nat) : Int), .int .i64 (q : Int)] ∧ q ≤ T.length ∧ m' = T.length - q ∧ True := fun k hk => ⟨_, by omega, i + 1, by rw [hk]; rfl, by omega, rfl, trivial⟩
      have wi : IntKind.i64.wrap ((i : Int) + 1) = (i : Int) + 1 := wrap64 (by omega) (by omega)
      have wc : IntKind.i64.wrap ((((T.take i).countP (endAt (L.map toL) n) : Nat) : Int) + 1) = (((T.take i).countP (endAt (L.map toL) n) + 1 : Nat) : Int) := by rw [wrap64 (by omega) (by omega)]; omega
      simp only [addOff_ptr, Nat.zero_add, Nat.add_zero, net2 h7, g1, g2, Option.map_some, e1, q0, q1, eqV_int, negB_mk, Bool.false_bne, eA, eP, optK_mk]
      cases qa : (A == n) with
      | true =>
        rw [qa] at ct
        simp only [boolK_true, vc_leafmeshlaw15_TreeIs_j4, vc_leafmeshlaw15_TreeIs_j5, pickV_true, optK_mk, arith_add, wi, wc]
        refine nx _ ?_
        exact ct.symm
      | false =>
        rw [qa] at ct
        cases qp : (P == n) with
        | true =>
          rw [qp] at ct
          simp only [boolK_true, boolK_false, vc_leafmeshlaw15_TreeIs_j4, vc_leafmeshlaw15_TreeIs_j5, pickV_false, optK_mk, arith_add, wi, wc]
          refine nx _ ?_
          exact ct.symm
        | false =>
          rw [qp] at ct
          simp only [boolK_false, vc_leafmeshlaw15_TreeIs_j4, vc_leafmeshlaw15_TreeIs_j5, pickV_false, optK_mk, arith_add, wi]
          refine nx _ ?_
          exact ct.symm
    · have hge3 : i = T.length := by have := of_decide_eq_false hge3; omega
      subst hge3
      rw [List.take_length]
      have hin : rd1 t2 (.ptr rb n) = some (.bool (decide (n ∈ lb))) := by rw [rd1_mk h7r, flg_at hnlt]
      have hroot : negB false (eqV 0 false (.int .i64 (n : Int)) (.int .i64 (r : Int))) = some (.bool (decide (n = r))) := by
        simp only [eqV_int, negB_mk, Bool.false_bne]
        congr 2
        by_cases q : n = r
        · subst q; simp
        · rw [decide_eq_false q]
          cases q2 : ((n : Int) == (r : Int)) with
          | false => rfl
          | true => have := eq_of_beq q2; omega
      have fin : ∀ bel : Bool, (bel = true ↔ Mem es lf (dN lf sp L U p) n) → ∀ t141 t146, pickV t141 t146 (.bool false) = some (.bool bel) → vc_leafmeshlaw15_TreeIs_j8 XX (.int .i64 (r : Int)) (.slc rb 0 N (some N) 1) (.int .i64 (many : Int)) (.int .i64 (n : Int)) (.int .i64 ((T.countP (endAt (L.map toL) n) : Nat) : Int)) t141 t146 (fun ys t m => ∃ (n many : Nat), ys = [.int .i64 (many : Int), .int .i64 (n : Int)] ∧ n ≤ N ∧ m = N - n ∧ t = t2 ∧ many = ((List.range n).filter fun n => decide (n ∈ lb)).length) (N - n) K t2 := fun bel hbel t141 t146 hpk => by
        refine is_j8 (inN := decide (n ∈ lb)) (isR := decide (n = r)) (bel := bel) (by omega) (by omega) rfl hpk (adr hnlt) hin hroot ?_ (fun hb => ?_) (fun hr hc => ?_) ?_
        · have := law.f1 n
          by_cases q : n ∈ lb
          · rw [decide_eq_true q]
            rcases this.1 q with e | e
            · rw [decide_eq_true e]; rfl
            · rw [decide_eq_true e, Bool.or_true]
          · rw [decide_eq_false q, decide_eq_false (fun e => q (this.2 (.inl e))), decide_eq_false (fun e => q (this.2 (.inr e)))]; rfl
        · have hM := hbel.1 hb
          refine decide_eq_true (law.f2 n hnlt ?_ hM)
          exact (dist_same z hdp hdr rN r0 hnlt).1 hM.2.2
        · have hr := of_decide_eq_false hr
          exact hbel.2 (law.f3 n hr hc)
        · refine ⟨_, by omega, n + 1, _, rfl, by omega, rfl, rfl, ?_⟩
          rw [List.range_succ, List.filter_append, List.length_append, ← hmany]
          congr 1
          by_cases q : n ∈ lb
          · simp [q]
          · simp [q]
      simp only [addOff_ptr, Nat.zero_add, net0 h7, arith_lss, optK_mk]
      by_cases e1 : (n : Int) < lf
      · rw [decide_eq_true e1]
        simp only [boolK_true]
        refine Has_in hm7 (by omega) fun b2 hb2 => ?_
        simp only [vc_leafmeshlaw15_TreeIs_j6, pickV_true, optK_mk]
        cases b2 with
        | false =>
          simp only [boolK_false, vc_leafmeshlaw15_TreeIs_j7, pickV_false, optK_mk]
          exact fin false ⟨(fun h => by cases h), fun h => by have := hb2.2 h.1; cases this⟩ _ _ rfl
        | true =>
          have hmem := hb2.1 rfl
          obtain ⟨p4, a1, a2⟩ := hdv.get (i := n) (by rw [dl_len]; exact hnlt)
          rw [dl_get hnlt, hdd n hnlt] at a2
          simp only [boolK_true, lenOf_slc, arith_gtr, optK_mk]
          rw [decide_eq_true (show (n : Int) < (N : Int) by omega)]
          simp only [vc_leafmeshlaw15_TreeIs_j7, pickV_true, optK_mk, boolK_true, a1, a2, arith_geq]
          refine fin (decide (0 ≤ dN lf sp L U p n)) ⟨fun h => ⟨hmem, e1, of_decide_eq_true h⟩, fun h => decide_eq_true h.2.2⟩ _ _ rfl
      · rw [decide_eq_false e1]
        simp only [boolK_false, vc_leafmeshlaw15_TreeIs_j6, vc_leafmeshlaw15_TreeIs_j7, pickV_false, optK_mk]
        exact fin false ⟨(fun h => by cases h), fun h => absurd h.2.1 e1⟩ _ _ rfl
  · have hge : n = N := by have := of_decide_eq_false hge; omega
    subst hge
    rw [law.cnt] at hmany
    refine ⟨fun ys t2 m => ∃ (i : Nat), ys = [.int .i64 (i : Int)] ∧ i ≤ T.length ∧ m = T.length - i ∧ t2 = t, ⟨_, 0, rfl, by omega, rfl, rfl⟩, ?_⟩
    rintro f2 t2 m2 ⟨i, hy2, hi, rfl, rfl⟩
    simp only [List.cons.injEq, and_true] at hy2
    rw [hy2]
    simp only [vc_leafmeshlaw15_TreeIs_l19, hT7.len, iz_len, arith_lss, optK_mk]
    refine boolK_mk (fun hlt3 => ?_) (fun hge3 => ?_)
    · have hlt3 : i < T.length := by have := of_decide_eq_true hlt3; omega
      obtain ⟨pp, g1, g2⟩ := hT7.get (i := i) (by rw [iz_len]; exact hlt3)
      rw [iz_get, List.getElem?_eq_getElem hlt3] at g2
      have hx := hlt _ (List.getElem_mem hlt3)
      have hup : U[T[i]]? = some true := by
        have := (hT T[i]).1 (List.getElem_mem hlt3)
        obtain ⟨_, _, _, _, he, _⟩ := Tr0.ends z hdr this
        exact he.1
      obtain ⟨pu, g3, g4⟩ := hr7.u.get (i := T[i]) (by rw [List.length_map, z.len, List.length_map]; exact hx)
      rw [List.getElem?_map, hup] at g4
      have wi : IntKind.i64.wrap ((i : Int) + 1) = (i : Int) + 1 := wrap64 (by omega) (by omega)
      have nx : ∃ m', m' < T.length - i ∧ ∃ (q : Nat), [AVal.int .i64 ((i : Int) + 1)] = [.int .i64 (q : Int)] ∧ q ≤ T.length ∧ m' = T.length - q ∧ True := ⟨_, by omega, i + 1, rfl, by omega, rfl, trivial⟩
      simp only [addOff_ptr, Nat.zero_add, net3 h7, g1, g2, Option.map_some, g3, g4, unary_not, Bool.not_true, boolK_false, arith_gtr, optK_mk]
      refine boolK_mk (fun hpos => ?_) (fun hpos => ?_)
      · rw [hpos]
        have hpos : 0 < i := by have := of_decide_eq_true hpos; omega
        have w1 : IntKind.i64.wrap ((i : Int) - 1) = ((i - 1 : Nat) : Int) := by rw [wrap64 (by omega) (by omega)]; omega
        obtain ⟨p5, g5, g6⟩ := hT7.get (i := i - 1) (by rw [iz_len]; omega)
        rw [iz_get, List.getElem?_eq_getElem (by omega)] at g6
        have hss := List.pairwise_iff_getElem.1 hsort (i - 1) i (by omega) hlt3 (by omega)
        simp only [arith_sub, w1, g5, g6, Option.map_some, arith_leq, optK_mk]
        rw [decide_eq_false (show ¬ (T[i] : Int) ≤ ((T[i - 1] : Nat) : Int) by omega)]
        simp only [vc_leafmeshlaw15_TreeIs_j20, pickV_true, pickV_false, optK_mk, boolK_false, arith_add, wi]
        exact nx
      · rw [hpos]
        simp only [vc_leafmeshlaw15_TreeIs_j20, pickV_false, optK_mk, boolK_false, arith_add, wi]
        exact nx
    · simp only [boolK_true, arith_add, optK_mk]
      rw [wrap64 (by omega) (by omega)]
      have : ((many : Int) == (T.length : Int) + 1) = true := by rw [hmany]; simp
      simp only [eqV_int, negB_mk, Bool.false_bne, this, optK_mk, vc_leafmeshlaw15_TreeIs_j21, pickV_true]
      exact hK _
set_option maxRecDepth 100000 in
theorem Is_wp (s : Heap) (xs : List AVal) (h : ArgL Try.prog s 40 [25, 3, 27, 28] xs) : wpCall Try.prog XX 6 xs (fun v _ => v = .bool true) s := by
  obtain ⟨a, b, c, e, rfl, h1, h2, h3, h4⟩ := argl4 h
  obtain ⟨lf, sp, L, U, lnv, upv, rfl, hn, w1, w2⟩ := arg_net (d := 36) h1
  obtain ⟨sf, rfl, _⟩ := arg_int (k := .i64) Try.underlying3 h2
  obtain ⟨g, rfl, w3⟩ := arg_int (k := .u32) Try.underlying27 h3
  obtain ⟨es, hm, _⟩ := arg_slice (d := 38) Try.underlying28 (by kernel_rfl) (AVal.int .i64) (fun _ => True) (fun xs h => by obtain ⟨n, e, _⟩ := inp_int Try.underlying3 h; exact ⟨n, e, trivial⟩) h4
  exact Is_in w1 w2 hn (bdu32 w3) hm fun _ => rfl
end Go.AM
