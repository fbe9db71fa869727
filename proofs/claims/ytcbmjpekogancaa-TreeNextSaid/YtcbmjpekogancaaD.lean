/- Part D of a calculus over a small memory that is proved to answer as the program does, and of its use for the functions that the law reaches: see the last part. -/
import Derived.Test.YtcbmjpekogancaaC
import Derived.Test.YtcbmjpekogancaaV
namespace Go.AM
open Go Go.Proofs
variable {K : AVal → Heap → Prop} {s s' s0 : Heap} {N : Nat} {G : List Lnk} {U : List Bool} {lv uv av dv v : AVal} {d : Nat → Int}
/-! ### nearer, parents -/
theorem Nearer_in {n : Nat} (z : GOk N G U) (hn : n < N) (hG : G.length ≤ 128) (hC : ∀ x ∈ G, x.2.2 ≤ 1000) (hd : ∀ m, m < N → -1 ≤ d m ∧ d m ≤ 32000) (hv : SlR 3 s v ((edL G U n).map edR)) (hdv : Sl s dv (dl N d))
    (hK : ∀ v' s', AccR 111 3 s s' v' ((nearL G U d n).map edR) → Sub s s' → K v' s') : wpCall Try.prog XX 92 [v, dv, .int .i64 (n : Int)] K s := by
  have hcost : ∀ {i n m c : Nat}, Ed G U i n m c → c ≤ 1000 := fun {i n m c} e => by
    rcases e.2 with e | e
    · exact hC _ (List.mem_of_getElem? e)
    · exact hC _ (List.mem_of_getElem? e)
  have hle := edL_len (G := G) (U := U) (n := n)
  refine vc_spf_nearer_in ?_
  simp only [vc_spf_nearer, hv.len, List.length_map, optK_mk]
  refine ⟨fun ys t m => ∃ (i : Nat) (lv : AVal), ys = [lv, .int .i64 i] ∧ i ≤ (edL G U n).length ∧ m = (edL G U n).length - i ∧ Sub s t ∧ AccR 111 3 s t lv ((((edL G U n).take i).filter fun e => decide (d n = d e.2.1 + e.2.2)).map edR), ⟨_, 0, _, rfl, by omega, rfl, .refl s, by simp, .inl ⟨rfl, by simp⟩⟩, ?_⟩
  rintro f t m ⟨i, lv, hy, hi, rfl, st, ac⟩
  simp only [List.cons.injEq, and_true] at hy
  obtain ⟨hy1, hy2⟩ := hy
  rw [hy1, hy2]
  simp only [vc_spf_nearer_l0, arith_lss, optK_mk]
  refine boolK_mk (fun hlt => ?_) (fun hge => ?_)
  · have hlt : i < (edL G U n).length := by have := of_decide_eq_true hlt; omega
    obtain ⟨e, he⟩ : ∃ e, (edL G U n)[i]? = some e := ⟨_, List.getElem?_eq_getElem hlt⟩
    obtain ⟨j, mm, c⟩ := e
    have hed := (mem_edL z).1 (List.mem_of_getElem? he)
    obtain ⟨_, mN, nem, c1, _⟩ := z.ed hed
    have c2 := hcost hed
    obtain ⟨pb, po, e1, e2, _⟩ := (hv.sub st).get (i := i) (r := edR (j, mm, c)) (by rw [List.getElem?_map, he]; rfl)
    simp only [e1, e2, optK_mk]
    refine new_step fun b t1 hb h1 u1 => wrAgg_step h1 rfl rfl rfl fun t2 h2 u2 => ?_
    have h2 : t2 b = some (false, .cells 111 [.int .i64 (j : Int), .int .i64 (mm : Int), .int .i64 (c : Int)]) := h2
    have subt : Sub t t2 := sub_upto (u1.sub hb) u2 hb
    have st2 := st.trans subt
    obtain ⟨p1, g1, g2⟩ := (hdv.sub st2).get (i := n) (by rw [dl_len]; exact hn)
    obtain ⟨p2, g3, g4⟩ := (hdv.sub st2).get (i := mm) (by rw [dl_len]; exact mN)
    rw [dl_get hn] at g2
    rw [dl_get mN] at g4
    have y1 : [AVal.int .i64 (j : Int), .int .i64 (mm : Int), .int .i64 (c : Int)][1]? = some (.int .i64 (mm : Int)) := rfl
    have y2 : [AVal.int .i64 (j : Int), .int .i64 (mm : Int), .int .i64 (c : Int)][2]? = some (.int .i64 (c : Int)) := rfl
    have dm := hd mm mN
    simp only [g1, g2, addOff_ptr, Nat.zero_add, rd1_mk h2, y1, y2, g3, g4, arith_add, optK_mk, eqV_int, negB_mk, Bool.false_bne]
    rw [wrap64 (by omega) (by omega)]
    have tk : ((edL G U n).take (i + 1)).filter (fun e => decide (d n = d e.2.1 + e.2.2)) = ((edL G U n).take i).filter (fun e => decide (d n = d e.2.1 + e.2.2)) ++ (if d n = d mm + c then [(j, mm, c)] else []) := by
      rw [List.take_add_one, he, List.filter_append]
      congr 1
      by_cases q : d n = d mm + c
      · simp [q]
      · simp [q]
    refine boolK_mk (fun heq => ?_) (fun hne => ?_)
    · have heq : d n = d mm + c := by simpa using heq
      have r3 : rdN t2 3 (.ptr b 0) = some (edR (j, mm, c)) := rdN_all h2 rfl
      simp only [r3, optK_mk]
      refine optK_of (a := edR (j, mm, c)) rfl ⟨rfl, new_step fun b3 t3 hb3 h3 u3 => ?_⟩
      have sub3 := subt.trans (u3.sub hb3)
      have lit : SlR 3 t3 (.slc b3 0 1 (some 1) 3) ([(j, mm, c)].map edR) := SlR.mk (by intro r hr; simp only [List.map_cons, List.map_nil, List.mem_singleton] at hr; subst hr; rfl) (by simpa using h3) rfl (by simp)
      refine (ac.sub sub3).app lit (by simp) ?_ (st.trans sub3) fun v' t4 a4 s4 => ?_
      · have := List.length_filter_le (fun e : Nat × Nat × Nat => decide (d n = d e.2.1 + e.2.2)) ((edL G U n).take i)
        have := List.length_take_le i (edL G U n)
        simp only [List.length_map, List.length_cons, List.length_nil]
        omega
      · simp only [vc_spf_nearer_j1, arith_add, optK_mk]
        rw [wrap64 (by omega) (by omega)]
        refine ⟨_, by omega, i + 1, v', rfl, by omega, rfl, s4, ?_⟩
        rw [tk, if_pos heq, List.map_append]
        exact a4
    · have hne : ¬ d n = d mm + c := by simpa using hne
      simp only [vc_spf_nearer_j1, arith_add, optK_mk]
      rw [wrap64 (by omega) (by omega)]
      refine ⟨_, by omega, i + 1, lv, rfl, by omega, rfl, st2, ?_⟩
      rw [tk, if_neg hne, List.append_nil]
      exact ac.sub subt
  · have hge : i = (edL G U n).length := by have := of_decide_eq_false hge; omega
    subst hge
    rw [List.take_length] at ac
    exact hK _ _ ac st
theorem parents_in (z : GOk N G U) (hN : N ≤ 32) (hG : G.length ≤ 128) (hC : ∀ x ∈ G, x.2.2 ≤ 1000) (hd : ∀ m, m < N → -1 ≤ d m ∧ d m ≤ 32000) (ha : AdjR s av N (edL G U)) (hdv : Sl s dv (dl N d))
    (hK : ∀ b s', s b = none → s' b = some (false, .cells 3 (dl N (parL G U d))) → Sub s s' → K (.slc b 0 N (some N) 1) s') : wpCall Try.prog XX 72 [av, dv] K s := by
  refine vc_spf_parents_in ?_
  have n0 : nat? (.int .i64 (N : Int)) = some N := nat?_mk
  simp only [vc_spf_parents, ha.len, n0, optK_mk, lenOf_slc]
  refine ⟨⟨Nat.le_refl _, by omega⟩, new_step fun db s1 hdb h1 u1 => ?_⟩
  have sub1 := u1.sub hdb
  refine ⟨fun ys t m => ∃ i : Nat, ys = [.int .i64 i] ∧ i ≤ N ∧ m = N - i ∧ Sub s t ∧ t db = some (false, .cells 3 (dl N fun n => if n < i then parL G U d n else 0)), ⟨_, 0, rfl, by omega, rfl, sub1, ?_⟩, ?_⟩
  · rw [h1, repl_one]
    congr 3
    unfold dl
    refine List.ext_getElem? fun i => ?_
    by_cases hi : i < N
    · simp [hi]
    · simp [hi]
  rintro f t m ⟨i, hy, hi, rfl, st, h2⟩
  simp only [List.cons.injEq, and_true] at hy
  rw [hy]
  simp only [vc_spf_parents_l0, arith_lss, optK_mk]
  refine boolK_mk (fun hlt => ?_) (fun hge => ?_)
  · have hlt : i < N := by have := of_decide_eq_true hlt; omega
    have ad : iaddrS 1 (.slc db 0 N (some N) 1) (.int .i64 (i : Int)) = some (.ptr db i) := by
      have : Nat.blt i N = true := by rw [Nat.blt_eq]; exact hlt
      simp [iaddrS, this]
    simp only [ad, optK_mk]
    refine wr1_step h2 (by rw [dl_len]; exact hlt) rfl fun t3 h3 u3 => ?_
    rw [dl_set hlt] at h3
    have st3 : Sub s t3 := sub_upto st u3 hdb
    obtain ⟨p, v, a1, a2, a3⟩ := (ha.sub st3).at hlt
    simp only [a1, a2, optK_mk]
    have upd1 : ∀ w : Int, w = parL G U d i → dl N (updI (updI (fun n => if n < i then parL G U d n else 0) i (-1)) i w) = dl N (fun n => if n < i + 1 then parL G U d n else 0) := fun w hw => by
      unfold dl
      refine List.map_congr_left fun n hn => ?_
      congr 1
      by_cases e : n = i
      · rw [e, updI_same, hw]; exact (if_pos (by omega)).symm
      · rw [updI_ne e, updI_ne e]
        by_cases c : n < i
        · show (if n < i then parL G U d n else 0) = if n < i + 1 then parL G U d n else 0
          rw [if_pos c, if_pos (by omega)]
        · show (if n < i then parL G U d n else 0) = if n < i + 1 then parL G U d n else 0
          rw [if_neg c, if_neg (by omega)]
    refine Nearer_in z hlt hG hC hd a3 (hdv.sub st3) fun v' t4 ac s4 => ?_
    have h4 := s4 _ _ h3
    have st4 := st3.trans s4
    simp only [ac.sl.len, List.length_map, arith_gtr, optK_mk]
    refine boolK_mk (fun hg => ?_) (fun hg => ?_)
    · have hg : 0 < (nearL G U d i).length := by have := of_decide_eq_true hg; omega
      obtain ⟨e, he⟩ : ∃ e, (nearL G U d i)[0]? = some e := ⟨_, List.getElem?_eq_getElem hg⟩
      obtain ⟨pb, po, e1, _, e3⟩ := ac.sl.get (i := 0) (r := edR e) (by rw [List.getElem?_map, he]; rfl)
      have e1 : iaddrS 3 v' (.int .i64 0) = some (.ptr pb po) := e1
      have e4 : rd1 t4 (.ptr pb po) = some (.int .i64 (e.1 : Int)) := e3 0 (by omega)
      simp only [e1, addOff_ptr, Nat.add_zero, e4, ad, optK_mk]
      refine wr1_step h4 (by rw [dl_len]; exact hlt) rfl fun t5 h5 u5 => ?_
      rw [dl_set hlt] at h5
      simp only [vc_spf_parents_j1, arith_add, optK_mk]
      rw [wrap64 (by omega) (by omega)]
      refine ⟨_, by omega, i + 1, rfl, by omega, rfl, sub_upto st4 u5 hdb, ?_⟩
      rw [h5]
      have := upd1 (e.1 : Int) (by
        unfold parL
        cases q : nearL G U d i with
        | nil => rw [q] at he; cases he
        | cons x r => rw [q] at he; cases he; rfl)
      rw [this]
    · have hg : nearL G U d i = [] := List.eq_nil_of_length_eq_zero (by have := of_decide_eq_false hg; omega)
      simp only [vc_spf_parents_j1, arith_add, optK_mk]
      rw [wrap64 (by omega) (by omega)]
      refine ⟨_, by omega, i + 1, rfl, by omega, rfl, st4, ?_⟩
      rw [h4]
      have := upd1 (-1) (by unfold parL; rw [hg])
      congr 3
      rw [← this]
      unfold dl
      refine List.map_congr_left fun n hn => ?_
      congr 1
      by_cases e : n = i
      · rw [e, updI_same, updI_same]
      · rw [updI_ne e, updI_ne e, updI_ne e]
  · have hge : i = N := by have := of_decide_eq_false hge; omega
    subst hge
    refine hK db t hdb ?_ st
    rw [h2]
    congr 3
    unfold dl
    refine List.map_congr_left fun n hn => ?_
    congr 1
    exact if_pos (List.mem_range.1 hn)
/-! ### from the lists that are given to those of the plain law -/
def toL (x : RLk) : Lnk := (x.1.toNat, x.2.1.toNat, x.2.2.toNat)
theorem vld.gok {n : Nat} {L : List RLk} (h : vld (n : Int) L U) : GOk n (L.map toL) U ∧ (L.map toL).length ≤ 128 ∧ n ≤ 32 ∧ (∀ x ∈ L.map toL, x.2.2 ≤ 1000) ∧ L.map rwR = (L.map toL).map lkR := by
  obtain ⟨h1, h2, h3, h4, h5⟩ := h
  refine ⟨⟨by rw [List.length_map]; exact h4, fun x hx => ?_⟩, by rw [List.length_map]; exact h3, by omega, fun x hx => ?_, ?_⟩
  · obtain ⟨⟨a, b, c⟩, hy, rfl⟩ := List.mem_map.1 hx
    have := okD (h5 _ hy)
    show a.toNat < n ∧ b.toNat < n ∧ a.toNat ≠ b.toNat ∧ 1 ≤ c.toNat ∧ c.toNat ≤ 65535
    omega
  · obtain ⟨⟨a, b, c⟩, hy, rfl⟩ := List.mem_map.1 hx
    have := okD (h5 _ hy)
    show c.toNat ≤ 1000
    omega
  · rw [List.map_map]
    refine List.map_congr_left fun x hx => ?_
    obtain ⟨a, b, c⟩ := x
    have := okD (h5 _ hx)
    have e1 : ((a.toNat : Nat) : Int) = a := by omega
    have e2 : ((b.toNat : Nat) : Int) = b := by omega
    have e3 : ((c.toNat : Nat) : Int) = c := by omega
    show [AVal.int .i64 a, .int .i64 b, .int .i64 c] = [.int .i64 ((a.toNat : Nat) : Int), .int .i64 ((b.toNat : Nat) : Int), .int .i64 ((c.toNat : Nat) : Int)]
    rw [e1, e2, e3]
theorem Parents_in {n x : Int} {L : List RLk} (hl : SlR 3 s lv (L.map rwR)) (hlm : L.length ≤ 9223372036854775807) (hu : Sl s uv (U.map AVal.bool))
    (hK : ∀ v s', Sub s s' → (¬ (vld n L U ∧ 0 ≤ x ∧ x < n) → v = .nilslc) → (∀ (N r : Nat), vld (N : Int) L U → n = N → r < N → x = r → ∃ d b, IsDist N (L.map toL) U r d ∧ (∀ m, m < N → -1 ≤ d m ∧ d m ≤ 32000) ∧ v = .slc b 0 N (some N) 1 ∧ s b = none ∧ s' b = some (false, .cells 3 (dl N (parL (L.map toL) U d)))) → K v s') : wpCall Try.prog XX 56 [.int .i64 n, lv, uv, .int .i64 x] K s := by
  refine vc_spf_Parents_in ?_
  refine lit1_step rfl rfl fun eb s1 heb h1 u1 => ?_
  have sub1 := u1.sub heb
  refine valid_in (es := [x]) (hl.sub sub1) hlm (hu.sub sub1) (Sl.mk h1 rfl (by simp)) (by simp) fun s2 r sub2 hr => ?_
  simp only [unary_not, optK_mk]
  have s02 := sub1.trans sub2
  cases r with
  | false =>
    have hr : ¬ (vld n L U ∧ ∀ e ∈ [x], 0 ≤ e ∧ e < n) := fun h => by have := hr.2 h; cases this
    have hr' : ¬ (vld n L U ∧ 0 ≤ x ∧ x < n) := fun h => hr ⟨h.1, fun e he => by rw [List.mem_singleton] at he; rw [he]; exact h.2⟩
    exact hK _ _ s02 (fun _ => rfl) fun N r q1 q2 q3 q4 => by
      subst q2 q4
      exact absurd ⟨q1, by omega, by omega⟩ hr'
  | true =>
    obtain ⟨hv, hx⟩ := hr.1 rfl
    have hx := hx x (by simp)
    obtain ⟨N, rfl⟩ : ∃ N : Nat, n = N := ⟨n.toNat, by have := hv.1; omega⟩
    obtain ⟨r, rfl⟩ : ∃ r : Nat, x = r := ⟨x.toNat, by omega⟩
    obtain ⟨z, hG, hN, hC, hm⟩ := hv.gok
    have hrN : r < N := by omega
    show wpCall Try.prog XX 50 _ _ s2
    refine Edges_in z hN hG (by rw [← hm]; exact hl.sub s02) (hu.sub s02) fun av s3 sub3 ha => ?_
    refine Distances_in z hN hG hC ha hrN fun d b s4 hd hdm sub4 hb h4 => ?_
    have hdd : ∀ m, m < N → -1 ≤ d m ∧ d m ≤ 32000 := fun m hm => ⟨hd.lo m hm, hdm m hm⟩
    refine parents_in z hN hG hC hdd (ha.sub sub4) (Sl.mk h4 dl_len.symm (by simp [dl_len])) fun b5 s5 hb5 h5 sub5 => ?_
    have sub := ((s02.trans sub3).trans sub4).trans sub5
    have hbs : s b5 = none := by
      cases q : s b5 with
      | none => rfl
      | some y => rw [sub4 _ _ (sub3 _ _ (s02 _ _ q))] at hb5; cases hb5
    refine hK _ _ sub (fun h => absurd ⟨hv, by omega, by omega⟩ h) fun N' r' _ e1 _ e2 => ?_
    obtain rfl : N = N' := by omega
    obtain rfl : r = r' := by omega
    exact ⟨d, b5, hd, hdd, rfl, hbs, h5⟩
theorem Dist_in {n x : Int} {L : List RLk} (hl : SlR 3 s lv (L.map rwR)) (hlm : L.length ≤ 9223372036854775807) (hu : Sl s uv (U.map AVal.bool))
    (hK : ∀ v s', Sub s s' → (¬ (vld n L U ∧ 0 ≤ x ∧ x < n) → v = .nilslc) → (∀ (N r : Nat), vld (N : Int) L U → n = N → r < N → x = r → ∃ d b, IsDist N (L.map toL) U r d ∧ (∀ m, m < N → -1 ≤ d m ∧ d m ≤ 32000) ∧ v = .slc b 0 N (some N) 1 ∧ s b = none ∧ s' b = some (false, .cells 3 (dl N d))) → K v s') : wpCall Try.prog XX 33 [.int .i64 n, lv, uv, .int .i64 x] K s := by
  refine vc_spf_Dist_in ?_
  refine lit1_step rfl rfl fun eb s1 heb h1 u1 => ?_
  have sub1 := u1.sub heb
  refine valid_in (es := [x]) (hl.sub sub1) hlm (hu.sub sub1) (Sl.mk h1 rfl (by simp)) (by simp) fun s2 r sub2 hr => ?_
  simp only [unary_not, optK_mk]
  have s02 := sub1.trans sub2
  cases r with
  | false =>
    have hr : ¬ (vld n L U ∧ ∀ e ∈ [x], 0 ≤ e ∧ e < n) := fun h => by have := hr.2 h; cases this
    have hr' : ¬ (vld n L U ∧ 0 ≤ x ∧ x < n) := fun h => hr ⟨h.1, fun e he => by rw [List.mem_singleton] at he; rw [he]; exact h.2⟩
    exact hK _ _ s02 (fun _ => rfl) fun N r q1 q2 q3 q4 => by
      subst q2 q4
      exact absurd ⟨q1, by omega, by omega⟩ hr'
  | true =>
    obtain ⟨hv, hx⟩ := hr.1 rfl
    have hx := hx x (by simp)
    obtain ⟨N, rfl⟩ : ∃ N : Nat, n = N := ⟨n.toNat, by have := hv.1; omega⟩
    obtain ⟨r, rfl⟩ : ∃ r : Nat, x = r := ⟨x.toNat, by omega⟩
    obtain ⟨z, hG, hN, hC, hm⟩ := hv.gok
    have hrN : r < N := by omega
    show wpCall Try.prog XX 50 _ _ s2
    refine Edges_in z hN hG (by rw [← hm]; exact hl.sub s02) (hu.sub s02) fun av s3 sub3 ha => ?_
    refine Distances_in z hN hG hC ha hrN fun d b s4 hd hdm sub4 hb h4 => ?_
    have hdd : ∀ m, m < N → -1 ≤ d m ∧ d m ≤ 32000 := fun m hm => ⟨hd.lo m hm, hdm m hm⟩
    have hbs : s b = none := by
      cases q : s b with
      | none => rfl
      | some y => rw [sub3 _ _ (s02 _ _ q)] at hb; cases hb
    refine hK _ _ ((s02.trans sub3).trans sub4) (fun h => absurd ⟨hv, by omega, by omega⟩ h) fun N' r' _ e1 _ e2 => ?_
    obtain rfl : N = N' := by omega
    obtain rfl : r = r' := by omega
    exact ⟨d, b, hd, hdd, rfl, hbs, h4⟩
end Go.AM
namespace Go.AM
open Go Go.Proofs
variable {K : AVal → Heap → Prop} {s s' s0 : Heap} {U : List Bool} {L : List RLk} {lnv upv v y dv : AVal} {lf sp sf : Int} {N : Nat} {d : Nat → Int}
/-! ### networks as values -/
def netC (lf sp : Int) (lnv upv : AVal) : List AVal := [.int .i64 lf, .int .i64 sp, lnv, upv]
structure NetR (s : Heap) (L : List RLk) (U : List Bool) (lnv upv : AVal) : Prop where
  l : SlR 3 s lnv (L.map rwR)
  u : Sl s upv (U.map AVal.bool)
  len : L.length ≤ 60 ∧ U.length ≤ 60
theorem NetR.sub (h : NetR s L U lnv upv) (k : Sub s s') : NetR s' L U lnv upv := ⟨h.l.sub k, h.u.sub k, h.len⟩
theorem NetR.one (h : NetR s L U lnv upv) : allOne (netC lf sp lnv upv) = true := by
  show ((AVal.int .i64 lf).one && ((AVal.int .i64 sp).one && (lnv.one && (upv.one && true)))) = true
  rw [h.l.one, h.u.one]; rfl
theorem NetR.box (h : NetR s L U lnv upv) (hK : ∀ b s', s b = none → s' b = some (false, .cells 25 (netC lf sp lnv upv)) → Upto b s s' → K (.ptr b 0) s') : boxK 25 (.agg (netC lf sp lnv upv)) K s :=
  ⟨h.one, new_step hK⟩
theorem net0 {b : Nat} {t : Bool} (h : s b = some (t, .cells 25 (netC lf sp lnv upv))) : rd1 s (.ptr b 0) = some (.int .i64 lf) := by rw [rd1_mk h]; rfl
theorem net1 {b : Nat} {t : Bool} (h : s b = some (t, .cells 25 (netC lf sp lnv upv))) : rd1 s (.ptr b 1) = some (.int .i64 sp) := by rw [rd1_mk h]; rfl
theorem net2 {b : Nat} {t : Bool} (h : s b = some (t, .cells 25 (netC lf sp lnv upv))) : rd1 s (.ptr b 2) = some lnv := by rw [rd1_mk h]; rfl
theorem net3 {b : Nat} {t : Bool} (h : s b = some (t, .cells 25 (netC lf sp lnv upv))) : rd1 s (.ptr b 3) = some upv := by rw [rd1_mk h]; rfl
theorem net4 {b : Nat} {t : Bool} (h : s b = some (t, .cells 25 (netC lf sp lnv upv))) : rdN s 4 (.ptr b 0) = some (netC lf sp lnv upv) := rdN_all h rfl
def netOk (lf sp : Int) (L : List RLk) (U : List Bool) (sf : Int) : Prop := 1 ≤ lf ∧ 0 ≤ sp ∧ vld (lf + sp) L U ∧ 0 ≤ sf ∧ sf < lf + sp
/-- what a list of distances from a node is: nothing for a network that is not valid -/
structure DistV (s0 s : Heap) (lf sp : Int) (L : List RLk) (U : List Bool) (sf : Int) (v : AVal) (N : Nat) (d : Nat → Int) : Prop where
  no : ¬ netOk lf sp L U sf → v = .nilslc ∧ N = 0
  yes : netOk lf sp L U sf → lf + sp = N ∧ IsDist N (L.map toL) U sf.toNat d ∧ (∀ m, m < N → -1 ≤ d m ∧ d m ≤ 32000) ∧ ∃ b, v = .slc b 0 N (some N) 1 ∧ s0 b = none ∧ s b = some (false, .cells 3 (dl N d))
theorem DistV.sub {v : AVal} (h : DistV s0 s lf sp L U sf v N d) (k : Sub s s') : DistV s0 s' lf sp L U sf v N d := ⟨h.no, fun q => by
  obtain ⟨a, b, c, x, e, f, g⟩ := h.yes q
  exact ⟨a, b, c, x, e, f, k _ _ g⟩⟩
theorem NetR.frz (h : NetR s L U lnv upv) : NetR (frz s) L U lnv upv := ⟨h.l.frz, h.u.frz, h.len⟩
/-- a call in frozen memory -/
theorem DistV.addf {v : AVal} {s2 : Heap} (h : DistV (AM.frz s) s2 lf sp L U sf v N d) : DistV s (add s s2) lf sp L U sf v N d := ⟨h.no, fun q => by
  obtain ⟨a, b, c, x, e, f, g⟩ := h.yes q
  exact ⟨a, b, c, x, e, frz_none.1 f, by rw [add_none (frz_none.1 f)]; exact g⟩⟩
theorem DistV.weak {v : AVal} {s1 : Heap} (h : DistV s1 s lf sp L U sf v N d) (k : Sub s0 s1) : DistV s0 s lf sp L U sf v N d := ⟨h.no, fun q => by
  obtain ⟨a, b, c, x, e, f, g⟩ := h.yes q
  refine ⟨a, b, c, x, e, ?_, g⟩
  cases r : s0 x with
  | none => rfl
  | some y => rw [k _ _ r] at f; cases f⟩
theorem DistV.sl {v : AVal} (h : DistV s0 s lf sp L U sf v N d) : Sl s v (dl N d) := by
  by_cases q : netOk lf sp L U sf
  · obtain ⟨_, _, _, b, rfl, _, g⟩ := h.yes q
    exact Sl.mk g dl_len.symm (by simp [dl_len])
  · obtain ⟨rfl, rfl⟩ := h.no q
    exact .inl ⟨rfl, rfl⟩
theorem tdist_in (hn : NetR s L U lnv upv) (hK : ∀ v s' N d, Sub s s' → DistV s s' lf sp L U sf v N d → K v s') : wpCall Try.prog XX 38 [.agg (netC lf sp lnv upv), .int .i64 sf] K s := by
  refine vc_tree_distances_in (hn.box fun b s1 hb h1 u1 => ?_)
  have sub1 := u1.sub hb
  have no : ∀ {s'}, Sub s s' → ¬ netOk lf sp L U sf → K .nilslc s' := fun {s'} h q => hK _ _ 0 (fun _ => 0) h ⟨fun _ => ⟨rfl, rfl⟩, fun p => absurd p q⟩
  simp only [addOff_ptr, Nat.zero_add, net0 h1, net1 h1, arith_lss, arith_gtr, optK_mk]
  by_cases c1 : lf < 1
  · rw [decide_eq_true c1]
    simp only [boolK_true, vc_tree_distances_j0, vc_tree_distances_j1, vc_tree_distances_j2, pickV_true, optK_mk]
    exact no sub1 fun h => by have := h.1; omega
  rw [decide_eq_false c1]
  simp only [boolK_false]
  by_cases c2 : 32 < lf
  · rw [decide_eq_true c2]
    simp only [boolK_true, vc_tree_distances_j0, vc_tree_distances_j1, vc_tree_distances_j2, pickV_true, pickV_false, optK_mk]
    exact no sub1 fun h => by have := h.2.2.1.2.1; have := h.2.1; omega
  rw [decide_eq_false c2]
  simp only [vc_tree_distances_j0, pickV_false, boolK_false, optK_mk, addOff_ptr, Nat.zero_add, net1 h1, arith_lss]
  by_cases c3 : sp < 0
  · rw [decide_eq_true c3]
    simp only [boolK_true, vc_tree_distances_j1, vc_tree_distances_j2, pickV_true, pickV_false, optK_mk]
    exact no sub1 fun h => by have := h.2.1; omega
  rw [decide_eq_false c3]
  simp only [vc_tree_distances_j1, pickV_false, boolK_false, optK_mk, addOff_ptr, Nat.zero_add, net1 h1, arith_gtr]
  by_cases c4 : 32 < sp
  · rw [decide_eq_true c4]
    simp only [boolK_true, vc_tree_distances_j2, pickV_true, pickV_false, optK_mk]
    exact no sub1 fun h => by have := h.2.2.1.2.1; have := h.1; omega
  rw [decide_eq_false c4]
  simp only [vc_tree_distances_j2, pickV_false, boolK_false, optK_mk, addOff_ptr, Nat.zero_add, net0 h1, net1 h1, net2 h1, net3 h1, arith_add]
  rw [wrap64 (by omega) (by omega)]
  refine Dist_in (hn.l.sub sub1) (by have := hn.len.1; omega) (hn.u.sub sub1) fun v s2 sub2 h0 hv => ?_
  have eq : netOk lf sp L U sf ↔ vld (lf + sp) L U ∧ 0 ≤ sf ∧ sf < lf + sp := ⟨fun h => ⟨h.2.2.1, h.2.2.2⟩, fun h => ⟨by omega, by omega, h.1, h.2⟩⟩
  by_cases q : netOk lf sp L U sf
  · have q' := eq.1 q
    obtain ⟨d, b2, g1, g2, g3, g4, g5⟩ := hv (lf + sp).toNat sf.toNat (by
      have e : (((lf + sp).toNat : Nat) : Int) = lf + sp := by omega
      rw [e]; exact q'.1) (by omega) (by omega) (by omega)
    have hb2 : s b2 = none := by
      cases r : s b2 with
      | none => rfl
      | some x => rw [sub1 _ _ r] at g4; cases g4
    exact hK v s2 _ d (sub1.trans sub2) ⟨fun h => absurd q h, fun _ => ⟨by omega, g1, g2, b2, g3, hb2, g5⟩⟩
  · refine hK v s2 0 (fun _ => 0) (sub1.trans sub2) ⟨fun _ => ⟨h0 fun h => q (eq.2 h), rfl⟩, fun h => absurd h q⟩
/-! ### roots -/
theorem Acc.app2 {elem : TypeId} {l m : List AVal} (h : Acc elem s0 s v l) (hs : Sub s0 s) (hy : Sl s y m) (hm : m ≠ []) (hl : l.length + m.length ≤ 16777216) (hK : ∀ v' s', Acc elem s0 s' v' (l ++ m) → Sub s0 s' → K v' s') : appK elem 1 v y K s :=
  h.app hy hm hl (fun i hi => by
    cases q : s0 i with
    | none => exact absurd q hi
    | some x => rw [hs i x q]; simp) fun v' s' a k => hK v' s' a fun i e hi => k i e (hs i e hi) fun b hb q => by
      rcases h with ⟨h, _⟩ | ⟨b', h0, h, _⟩
      · rw [h] at hb; cases hb
      · rw [h] at hb; cases hb; rw [q, h0] at hi; cases hi
theorem Acc.sub {elem : TypeId} {l : List AVal} (h : Acc elem s0 s v l) (k : Sub s s') : Acc elem s0 s' v l := h.imp id fun ⟨b, h0, h1, h2⟩ => ⟨b, h0, h1, k _ _ h2⟩
def iz (l : List Nat) : List AVal := l.map fun (n : Nat) => .int .i64 (n : Int)
theorem iz_len {l : List Nat} : (iz l).length = l.length := by unfold iz; simp
theorem iz_get {l : List Nat} {i : Nat} : (iz l)[i]? = l[i]?.map fun (n : Nat) => AVal.int .i64 (n : Int) := by unfold iz; simp
theorem iz_app {l m : List Nat} : iz (l ++ m) = iz l ++ iz m := by unfold iz; simp
/-- the spines of a component -/
def spn (lf : Int) (N : Nat) (d : Nat → Int) : List Nat := (List.range N).filter fun (n : Nat) => decide (lf ≤ (n : Int) ∧ 0 ≤ d n)
def rootP (lf : Int) (N : Nat) (d : Nat → Int) (g : Int) : Option Nat := (spn lf N d)[g.toNat % (spn lf N d).length]?
def rootV : Option Nat → AVal
  | some r => .tup [.int .i64 (r : Int), .bool true]
  | none => .tup [.int .i64 0, .bool false]
theorem spn_len : (spn lf N d).length ≤ N := by
  have := List.length_filter_le (fun n : Nat => decide (lf ≤ (n : Int) ∧ 0 ≤ d n)) (List.range N)
  rw [List.length_range] at this
  exact this
theorem mem_spn {n : Nat} : n ∈ spn lf N d ↔ n < N ∧ lf ≤ (n : Int) ∧ 0 ≤ d n := by
  unfold spn
  rw [List.mem_filter, List.mem_range, decide_eq_true_eq]
theorem choose_in {g : Int} (hn : NetR s L U lnv upv) (hN : N ≤ 32) (hd : Sl s dv (dl N d)) (hg : 0 ≤ g ∧ g < 4294967296) (hK : ∀ s', Sub s s' → K (rootV (rootP lf N d g)) s') : wpCall Try.prog XX 37 [.agg (netC lf sp lnv upv), dv, .int .u32 g] K s := by
  refine vc_tree_choose_in (hn.box fun b s1 hb h1 u1 => ?_)
  have sub1 := u1.sub hb
  simp only [hd.len, dl_len, optK_mk]
  refine ⟨fun ys t m => ∃ (i : Nat) (lv : AVal), ys = [lv, .int .i64 i] ∧ i ≤ N ∧ m = N - i ∧ Sub s1 t ∧ Acc 3 s1 t lv (iz ((List.range i).filter fun (n : Nat) => decide (lf ≤ (n : Int) ∧ 0 ≤ d n))), ⟨_, 0, _, rfl, by omega, rfl, .refl s1, .inl ⟨rfl, rfl⟩⟩, ?_⟩
  rintro f t m ⟨i, lv, hy, hi, rfl, st, ac⟩
  simp only [List.cons.injEq, and_true] at hy
  rw [hy.1, hy.2]
  simp only [vc_tree_choose_l0, arith_lss, optK_mk]
  refine boolK_mk (fun hlt => ?_) (fun hge => ?_)
  · have hlt : i < N := by have := of_decide_eq_true hlt; omega
    obtain ⟨p, g1, g2⟩ := (hd.sub (sub1.trans st)).get (i := i) (by rw [dl_len]; exact hlt)
    rw [dl_get hlt] at g2
    have h2 := st _ _ h1
    have nx : ∀ lv' t', Sub s1 t' → Acc 3 s1 t' lv' (iz ((List.range (i + 1)).filter fun (n : Nat) => decide (lf ≤ (n : Int) ∧ 0 ≤ d n))) → vc_tree_choose_j2 XX lv' (.int .i64 (i : Int)) (fun ys t m => ∃ (i : Nat) (lv : AVal), ys = [lv, .int .i64 i] ∧ i ≤ N ∧ m = N - i ∧ Sub s1 t ∧ Acc 3 s1 t lv (iz ((List.range i).filter fun (n : Nat) => decide (lf ≤ (n : Int) ∧ 0 ≤ d n)))) (N - i) K t' := fun lv' t' q1 q2 => by
      simp only [vc_tree_choose_j2, arith_add, optK_mk]
      rw [wrap64 (by omega) (by omega)]
      exact ⟨_, by omega, i + 1, lv', rfl, by omega, rfl, q1, q2⟩
    have fl : (List.range (i + 1)).filter (fun (n : Nat) => decide (lf ≤ (n : Int) ∧ 0 ≤ d n)) = (List.range i).filter (fun (n : Nat) => decide (lf ≤ (n : Int) ∧ 0 ≤ d n)) ++ (if lf ≤ (i : Int) ∧ 0 ≤ d i then [i] else []) := by
      rw [List.range_succ, List.filter_append]
      congr 1
      by_cases q : lf ≤ (i : Int) ∧ 0 ≤ d i
      · simp [q]
      · rw [if_neg q]; simp only [List.filter_cons, decide_eq_false q]; rfl
    simp only [g1, g2, addOff_ptr, Nat.zero_add, net0 h2, arith_geq, optK_mk]
    by_cases c1 : lf ≤ (i : Int)
    · rw [decide_eq_true c1]
      simp only [boolK_true, vc_tree_choose_j1, pickV_true, optK_mk]
      refine boolK_mk (fun c2 => ?_) (fun c2 => ?_)
      · have c2 := of_decide_eq_true c2
        refine lit1_step rfl rfl fun b3 t3 hb3 h3 u3 => ?_
        have sub3 := u3.sub hb3
        refine (ac.sub sub3).app2 (st.trans sub3) (Sl.mk h3 rfl (by simp)) (by simp) ?_ fun v' t4 a4 s4 => ?_
        · have := List.length_filter_le (fun n : Nat => decide (lf ≤ (n : Int) ∧ 0 ≤ d n)) (List.range i)
          rw [List.length_range] at this
          rw [iz_len]; simp only [List.length_singleton]; omega
        · refine nx v' t4 s4 ?_
          rw [fl, if_pos ⟨c1, c2⟩, iz_app]; exact a4
      · have c2 := of_decide_eq_false c2
        refine nx lv t st ?_
        rw [fl, if_neg (fun q => c2 q.2), List.append_nil]; exact ac
    · rw [decide_eq_false c1]
      simp only [boolK_false, vc_tree_choose_j1, pickV_false, optK_mk]
      refine nx lv t st ?_
      rw [fl, if_neg (fun q => c1 q.1), List.append_nil]; exact ac
  · have hge : i = N := by have := of_decide_eq_false hge; omega
    subst hge
    have ac : Acc 3 s1 t lv (iz (spn lf i d)) := ac
    have hlen := spn_len (lf := lf) (N := i) (d := d)
    simp only [ac.sl.len, iz_len, eqV_int, negB_mk, Bool.false_bne, optK_mk]
    cases c : (((spn lf i d).length : Int) == 0) with
    | true =>
      have c : spn lf i d = [] := List.eq_nil_of_length_eq_zero (by have := eq_of_beq c; omega)
      simp only [boolK_true]
      have e : rootP lf i d g = none := by unfold rootP; rw [c]; rfl
      have := hK t (sub1.trans st)
      rw [e] at this
      exact this
    | false =>
      have c : 0 < (spn lf i d).length := by
        have : ¬ ((spn lf i d).length : Int) = 0 := by simpa using c
        omega
      have w1 : convI .u64 (.int .u32 g) = some (.int .u64 g) := by
        show some (AVal.int .u64 (wrapK .u64 g)) = _
        rw [show wrapK .u64 g = g by simp only [wrapK]; rw [wrapM_eq _ _ _ (by omega) (by omega)]; split <;> omega]
      have w2 : convI .u64 (.int .i64 ((spn lf i d).length : Int)) = some (.int .u64 ((spn lf i d).length : Int)) := by
        show some (AVal.int .u64 (wrapK .u64 ((spn lf i d).length : Int))) = _
        rw [show wrapK .u64 ((spn lf i d).length : Int) = ((spn lf i d).length : Int) by simp only [wrapK]; rw [wrapM_eq _ _ _ (by omega) (by omega)]; split <;> omega]
      have w3 : arithV .rem (.int .u64 g) (.int .u64 ((spn lf i d).length : Int)) = some (.int .u64 ((g.toNat % (spn lf i d).length : Nat) : Int)) := by
        rw [arith_rem (by omega)]
        congr 2
        obtain ⟨k, rfl⟩ : ∃ k : Nat, g = k := ⟨g.toNat, by omega⟩
        rfl
      have hm : g.toNat % (spn lf i d).length < (spn lf i d).length := Nat.mod_lt _ c
      obtain ⟨p, g1, g2⟩ := ac.sl.get (i := g.toNat % (spn lf i d).length) (by rw [iz_len]; exact hm)
      have g1' : iaddrS 1 lv (.int .u64 ((g.toNat % (spn lf i d).length : Nat) : Int)) = some p := g1
      rw [iz_get] at g2
      have e : rootP lf i d g = some ((spn lf i d)[g.toNat % (spn lf i d).length]) := by unfold rootP; rw [List.getElem?_eq_getElem hm]
      rw [List.getElem?_eq_getElem hm] at g2
      simp only [boolK_false, w1, w2, w3, g1', g2, Option.map_some, optK_mk]
      have := hK t (sub1.trans st)
      rw [e] at this
      exact this
end Go.AM
namespace Go.AM
open Go Go.Proofs
variable {K : AVal → Heap → Prop} {s s' s0 : Heap} {v mv : AVal} {es : List Int}
/-! ### a copy, sorted, without repetitions -/
def Own3 (s0 s : Heap) (v : AVal) (es : List Int) : Prop := (v = .nilslc ∧ es = []) ∨ ∃ b cap, s0 b = none ∧ v = .slc b 0 es.length cap 1 ∧ s b = some (false, .cells 3 (izs es)) ∧ ∀ c, cap = some c → es = []
theorem Own3.len (h : Own3 s0 s v es) : lenOfA v = some es.length := by
  rcases h with ⟨rfl, rfl⟩ | ⟨b, cap, _, rfl, _⟩ <;> rfl
theorem Own3.sl (h : Own3 s0 s v es) : Sl s v (izs es) := by
  rcases h with ⟨rfl, rfl⟩ | ⟨b, cap, _, rfl, h1, h2⟩
  · exact .inl ⟨rfl, rfl⟩
  · exact Sl.mk h1 (by simp) fun c hc => by rw [h2 c hc]; simp
theorem Clone_in (h : Sl s mv (izs es)) (hl : es.length ≤ 1000) (hK : ∀ v s', Own3 s s' v es → Sub s s' → K v s') : wpCall Try.prog XX 74 [mv] K s := by
  refine vs_Clone___int_int__in ?_
  unfold vs_Clone___int_int_
  have go : (es = [] → mv ≠ .nilslc) → negB false (eqV 5 true mv .nilslc) = some (.bool false) → (optK (negB false (eqV 5 true mv .nilslc)) fun v_0 =>
  boolK v_0
   (K .nilslc s)
   (optK (fillR (repl 0 [(.int .i64 0)]) []) fun c_1 => allOne c_1 = true ∧ newK 3 c_1 (fun b_2 s_3 =>
    appK 3 1 (.slc b_2 0 0 (some 0) 1) mv (fun v_4 s_5 =>
    K v_4 s_5) s_3) s)) := fun _ h2 => by
    simp only [h2, optK_mk, boolK_false]
    refine optK_of (a := []) rfl ⟨rfl, new_step fun b s1 hb h1 u1 => ?_⟩
    have sub1 := u1.sub hb
    refine app_copy (h.sub sub1) (by rw [List.length_map]; omega) fun v' s2 sub2 g1 g2 => hK v' s2 ?_ (sub1.trans sub2)
    cases es with
    | nil => exact .inr ⟨b, some 0, hb, g1 rfl, sub2 _ _ h1, fun _ _ => rfl⟩
    | cons x r =>
      obtain ⟨c, hc, rfl, h4⟩ := g2 (by simp)
      refine .inr ⟨c, none, ?_, by simp, h4, fun c h => by cases h⟩
      cases q : s c with
      | none => rfl
      | some y => rw [sub1 _ _ q] at hc; cases hc
  rcases h with ⟨rfl, he⟩ | ⟨b, o, cap, rfl, _⟩
  · have : es = [] := by simpa using he
    subst this
    simp only [eqV_nilslc, negB_mk, Bool.false_bne, optK_mk, boolK_true]
    exact hK _ _ (.inl ⟨rfl, rfl⟩) (.refl s)
  · exact go (fun _ => by simp) (by simp)
theorem Sort_in (h : Own3 s0 s v es) (hs : Sub s0 s) (hl : es.length ≤ 1000) (hK : ∀ s', Own3 s0 s' v (sortI es) → Sub s0 s' → K (.tup []) s') : wpCall Try.prog XX 54 [v] K s := by
  have hX : XX 54 = some sortG := toldB_sort
  have hp := (sortI_perm es).length_eq
  rcases h with ⟨rfl, rfl⟩ | ⟨b, cap, hb0, rfl, hb, hc⟩
  · exact wp_told hX (wpF.ret (hK s (.inl ⟨rfl, rfl⟩) hs))
  · refine wp_sortX hX hb (by omega) fun s' h' u => hK s' (.inr ⟨b, cap, hb0, by rw [hp], h', fun c q => by rw [hc c q]; rfl⟩) fun i e hi => ?_
    rw [u i (ne_of_some hb0 hi)]; exact hs i e hi
theorem Compact_in (h : Own3 s0 s v es) (hs : Sub s0 s) (hl : es.length ≤ 1000) (hK : ∀ v' s' es', Sl s' v' (izs es') → es'.length ≤ es.length → (∀ x, x ∈ es' ↔ x ∈ es) → Sub s0 s' → (∀ b o n c, v' = .slc b o n c 1 → es' ≠ [] → s0 b = none) → K v' s') : wpCall Try.prog XX 75 [v] K s := by
  refine vs_Compact___int_int__in ?_
  have h0 : ∀ b o n c, v = .slc b o n c 1 → es ≠ [] → s0 b = none := by
    rintro b o n c rfl hne
    rcases h with ⟨h, _⟩ | ⟨b', cap, hb0, h, _⟩
    · cases h
    · cases h; exact hb0
  simp only [vs_Compact___int_int_, h.len, arith_lss, optK_mk]
  refine boolK_mk (fun _ => hK v s es h.sl (Nat.le_refl _) (fun _ => .rfl) hs h0) (fun hn => ?_)
  have hn : 2 ≤ es.length := by have := of_decide_eq_false hn; omega
  obtain ⟨b, hb0, hv, hb⟩ : ∃ b, s0 b = none ∧ v = .slc b 0 es.length none 1 ∧ s b = some (false, .cells 3 (izs es)) := by
    rcases h with ⟨_, rfl⟩ | ⟨b, cap, q1, q2, q3, q4⟩
    · simp at hn
    · cases cap with
      | none => exact ⟨b, q1, q2, q3⟩
      | some c => rw [q4 c rfl] at hn; simp at hn
  subst hv
  have ad : ∀ {i : Nat}, i < es.length → iaddrS 1 (.slc b 0 es.length none 1) (.int .i64 (i : Int)) = some (.ptr b i) := fun {i} hi => by
    have : Nat.blt i es.length = true := by rw [Nat.blt_eq]; exact hi
    simp [iaddrS, this]
  have gt : ∀ {l : List Int} {i : Nat} (hi : i < l.length), (izs l)[i]? = some (.int .i64 l[i]) := fun {l i} hi => by simp [hi]
  refine ⟨fun ys t m => ∃ k : Nat, ys = [.int .i64 k] ∧ 1 ≤ k ∧ k ≤ es.length ∧ m = es.length - k ∧ s = t, ⟨_, 1, rfl, by omega, by omega, rfl, rfl⟩, ?_⟩
  rintro f t m ⟨k0, hy, hk1, hk2, rfl, rfl⟩
  simp only [List.cons.injEq, and_true] at hy
  rw [hy]
  simp only [vs_Compact___int_int__l0, lenOf_slc, arith_lss, optK_mk]
  refine boolK_mk (fun hlt => ?_) (fun _ => hK _ _ es h.sl (Nat.le_refl _) (fun _ => .rfl) hs h0)
  have hlt : k0 < es.length := by have := of_decide_eq_true hlt; omega
  have w1 : IntKind.i64.wrap ((k0 : Int) - 1) = ((k0 - 1 : Nat) : Int) := by rw [wrap64 (by omega) (by omega)]; omega
  simp only [ad hlt, rd1_mk hb, gt hlt, arith_sub, w1, ad (show k0 - 1 < es.length by omega), gt (show k0 - 1 < es.length by omega), eqV_int, negB_mk, Bool.false_bne, optK_mk]
  refine boolK_mk (fun heq => ?_) (fun hne => ?_)
  rotate_left
  · simp only [arith_add, optK_mk]
    rw [wrap64 (by omega) (by omega)]
    exact ⟨_, by omega, k0 + 1, rfl, by omega, by omega, rfl, by trivial⟩
  have heq : es[k0] = es[k0 - 1] := eq_of_beq heq
  have sl : ∀ {k : Nat}, k ≤ es.length → sliceS 1 (.slc b 0 es.length none 1) (some (.int .i64 (k : Int))) none none = some (.slc b k (es.length - k) none 1) := fun {k} hk => by
    simp [sliceS, bound, Nat.ble_eq_true_of_le hk]
  have sh : ∀ {k : Nat}, k ≤ es.length → sliceS 1 (.slc b 0 es.length none 1) none (some (.int .i64 (k : Int))) none = some (.slc b 0 k none 1) := fun {k} hk => by
    simp [sliceS, bound, Nat.ble_eq_true_of_le hk]
  have tk : ∀ {l : List Int} {q : Nat} (hq : q < l.length) (x : Int), x ∈ l.take (q + 1) ↔ x ∈ l.take q ∨ x = l[q] := fun {l q} hq x => by
    rw [List.take_add_one, List.getElem?_eq_getElem hq, List.mem_append]
    simp only [Option.toList, List.mem_singleton]
  simp only [sl hk2, optK_mk]
  refine ⟨fun ys t m => ∃ (k k2 : Nat) (cur : List Int), ys = [.int .i64 k, .int .i64 k2] ∧ t b = some (false, .cells 3 (izs cur)) ∧ Sub s0 t ∧ cur.length = es.length ∧ 1 ≤ k2 ∧ k0 + k2 ≤ es.length ∧ m = es.length - k0 - k2 ∧ k < k0 + k2 ∧ (∀ j, k0 + k2 - 1 ≤ j → cur[j]? = es[j]?) ∧ ∀ x, x ∈ cur.take k ↔ x ∈ es.take (k0 + k2), ⟨_, k0, 1, es, rfl, hb, hs, rfl, by omega, by omega, rfl, by omega, fun _ _ => rfl, fun x => ?_⟩, ?_⟩
  · rw [tk hlt, heq]
    refine ⟨.inl, fun q => q.elim id fun q => ?_⟩
    rw [q]
    have : k0 - 1 < (es.take k0).length := by rw [List.length_take]; omega
    have e : (es.take k0)[k0 - 1] = es[k0 - 1] := List.getElem_take
    rw [← e]; exact List.getElem_mem this
  rintro f t m ⟨k, k2, cur, hy, ht, st, hlen, c1, c2, rfl, c3, c4, c5⟩
  simp only [List.cons.injEq, and_true] at hy
  rw [hy.1, hy.2]
  simp only [vs_Compact___int_int__l1, lenOf_slc, arith_lss, optK_mk]
  refine boolK_mk (fun hlt2 => ?_) (fun hge2 => ?_)
  · have hlt2 : k0 + k2 < es.length := by have := of_decide_eq_true hlt2; omega
    have ad2 : ∀ {i : Nat}, k0 + i < es.length → iaddrS 1 (.slc b k0 (es.length - k0) none 1) (.int .i64 (i : Int)) = some (.ptr b (k0 + i)) := fun {i} hi => by
      have : Nat.blt i (es.length - k0) = true := by rw [Nat.blt_eq]; omega
      simp [iaddrS, this]
    have w2 : IntKind.i64.wrap ((k2 : Int) - 1) = ((k2 - 1 : Nat) : Int) := by rw [wrap64 (by omega) (by omega)]; omega
    have g1 : cur[k0 + k2] = es[k0 + k2] := by
      have := c4 (k0 + k2) (by omega)
      rw [List.getElem?_eq_getElem (by omega), List.getElem?_eq_getElem hlt2] at this
      exact Option.some.inj this
    have g2 : cur[k0 + (k2 - 1)]'(by omega) = es[k0 + (k2 - 1)]'(by omega) := by
      have := c4 (k0 + (k2 - 1)) (by omega)
      rw [List.getElem?_eq_getElem (by omega), List.getElem?_eq_getElem (by omega)] at this
      exact Option.some.inj this
    have nx : ∀ (k' : Nat) (cur' : List Int) t', t' b = some (false, .cells 3 (izs cur')) → Sub s0 t' → cur'.length = es.length → k' < k0 + (k2 + 1) → (∀ j, k0 + (k2 + 1) - 1 ≤ j → cur'[j]? = es[j]?) → (∀ x, x ∈ cur'.take k' ↔ x ∈ es.take (k0 + (k2 + 1))) →
        vs_Compact___int_int__j2 XX (.int .i64 (k' : Int)) (.int .i64 (k2 : Int)) (fun ys t m => ∃ (k k2 : Nat) (cur : List Int), ys = [.int .i64 k, .int .i64 k2] ∧ t b = some (false, .cells 3 (izs cur)) ∧ Sub s0 t ∧ cur.length = es.length ∧ 1 ≤ k2 ∧ k0 + k2 ≤ es.length ∧ m = es.length - k0 - k2 ∧ k < k0 + k2 ∧ (∀ j, k0 + k2 - 1 ≤ j → cur[j]? = es[j]?) ∧ ∀ x, x ∈ cur.take k ↔ x ∈ es.take (k0 + k2)) (es.length - k0 - k2) (fun ys t m => ∃ k : Nat, ys = [.int .i64 k] ∧ 1 ≤ k ∧ k ≤ es.length ∧ m = es.length - k ∧ s = t) (es.length - k0) K t' := fun k' cur' t' q1 q2 q3 q4 q5 q6 => by
      simp only [vs_Compact___int_int__j2, arith_add, optK_mk]
      rw [wrap64 (by omega) (by omega)]
      exact ⟨_, by omega, k', k2 + 1, cur', rfl, q1, q2, q3, by omega, by omega, rfl, q4, q5, q6⟩
    have tk2 := fun x => tk (l := es) (q := k0 + k2) hlt2 x
    simp only [ad2 hlt2, rd1_mk ht, gt (show k0 + k2 < cur.length by omega), arith_sub, w2, ad2 (show k0 + (k2 - 1) < es.length by omega), gt (show k0 + (k2 - 1) < cur.length by omega), eqV_int, negB_mk, Bool.true_bne, optK_mk, g1, g2]
    refine boolK_mk (fun hd => ?_) (fun hd => ?_)
    · have hk : k < es.length := by omega
      simp only [ad hk, optK_mk]
      refine wr1_step ht (by rw [List.length_map]; omega) rfl fun t3 h3 u3 => ?_
      have e3 : (izs cur).set k (.int .i64 es[k0 + k2]) = izs (cur.set k es[k0 + k2]) := (List.map_set ..).symm
      rw [e3] at h3
      simp only [arith_add, optK_mk]
      rw [wrap64 (by omega) (by omega)]
      refine nx (k + 1) _ t3 h3 (fun i e hi => by rw [u3 i (ne_of_some hb0 hi)]; exact st i e hi) (by simpa using hlen) (by omega) (fun j hj => ?_) fun x => ?_
      · rw [List.getElem?_set_ne (by omega)]
        exact c4 j (by omega)
      · have e4 := tk (l := cur.set k es[k0 + k2]) (q := k) (by rw [List.length_set]; omega) x
        rw [e4, show k0 + (k2 + 1) = k0 + k2 + 1 by omega, tk2, List.getElem_set_self, List.take_set_of_le (by omega), c5]
    · have hd : es[k0 + k2] = es[k0 + (k2 - 1)] := by simpa using hd
      refine nx k cur t ht st hlen (by omega) (fun j hj => c4 j (by omega)) fun x => ?_
      rw [c5, show k0 + (k2 + 1) = k0 + k2 + 1 by omega, tk2]
      refine ⟨.inl, fun q => q.elim id fun q => ?_⟩
      rw [q, hd]
      have : k0 + (k2 - 1) < (es.take (k0 + k2)).length := by rw [List.length_take]; omega
      have e : (es.take (k0 + k2))[k0 + (k2 - 1)] = es[k0 + (k2 - 1)] := List.getElem_take
      rw [← e]; exact List.getElem_mem this
  · have hge2 : k0 + k2 = es.length := by have := of_decide_eq_false hge2; omega
    rw [hge2] at c3 c5
    rw [List.take_length] at c5
    simp only [sl (show k ≤ es.length by omega), optK_mk]
    unfold clearK
    refine ⟨rfl, ?_⟩
    obtain ⟨m, hm⟩ : ∃ m, es.length - k = m + 1 := ⟨es.length - k - 1, by omega⟩
    rw [hm]
    simp only
    have e1 : wrN t (.ptr b k) (repl (m + 1) [.int .i64 0]) = some (hset t b (false, .cells 3 (setRange (izs cur) k (repl (m + 1) [.int .i64 0])))) := by
      have e2 : Nat.ble (k + (repl (m + 1) [AVal.int .i64 0]).length) (izs cur).length = true := by
        rw [repl_one, List.length_replicate, List.length_map, Nat.ble_eq]; omega
      have e3 : allOne (repl (m + 1) [AVal.int .i64 0]) = true := by
        rw [repl_one]
        have : ∀ n, allOne (List.replicate n (AVal.int .i64 0)) = true := fun n => by
          induction n with
          | zero => rfl
          | succ n ih => rw [List.replicate_succ, allOne_cons, ih]; rfl
        exact this _
      simp only [wrN, ht, e2, e3, Bool.and_self, cond_true]
    simp only [e1, optK_mk, sh (show k ≤ es.length by omega)]
    refine hK _ _ (cur.take k) (.inr ⟨b, 0, none, by rw [List.length_map, List.length_take, Nat.min_eq_left (by omega)], (fun c h => by cases h), fun _ => ⟨false, 3, _, hset_eq, ?_, fun i hi => ?_⟩⟩) ?_ c5 (fun i e hi => ?_) fun b' o n c q _ => by cases q; exact hb0
    · unfold setRange
      rw [List.length_map, List.length_take, List.length_append, List.length_append, List.length_take, List.length_map]
      omega
    · rw [List.length_map, List.length_take] at hi
      unfold setRange
      rw [Nat.zero_add, List.append_assoc, List.getElem?_append_left (by rw [List.length_take, List.length_map]; omega)]
      exact congrArg (fun l : List AVal => l[i]?) (List.map_take ..).symm
    · rw [List.length_take]; omega
    · rw [hset_other (ne_of_some hb0 hi)]; exact st i e hi
end Go.AM
namespace Go.AM
open Go Go.Proofs
variable {K : AVal → Heap → Prop} {s s' s0 : Heap} {U : List Bool} {L : List RLk} {lnv upv v dv mv : AVal} {lf sp : Int} {N r : Nat} {G : List Lnk} {d : Nat → Int}
/-! ### grow: links are put into the tree -/
def kv (keys : List Nat) : List (Int × AVal) := keys.map fun (k : Nat) => ((k : Int), AVal.agg [])
theorem kv_look {keys : List Nat} {i : Nat} : look (kv keys) (i : Int) = if i ∈ keys then some (.agg []) else none := by
  induction keys with
  | nil => rfl
  | cons k l ih =>
    have : kv (k :: l) = ((k : Int), AVal.agg []) :: kv l := rfl
    rw [this, look_cons, ih]
    simp only [List.mem_cons]
    by_cases e : k = i
    · subst e; simp
    · rw [if_neg (show ¬ (k : Int) = (i : Int) by omega)]
      by_cases q : i ∈ l
      · rw [if_pos q, if_pos (.inr q)]
      · rw [if_neg q, if_neg (by rintro (h | h); exact e h.symm; exact q h)]
theorem kv_stor {keys : List Nat} {i : Nat} (h : i ∉ keys) : stor (kv keys) (i : Int) (.agg []) = kv (keys ++ [i]) := by
  unfold stor
  rw [kv_look, if_neg h]
  unfold kv; simp
theorem MapAt.sub {b : Nat} {l : List (Int × AVal)} (h : MapAt s b l) (k : Sub s s') : MapAt s' b l := by
  obtain ⟨es, c, h1, h2⟩ := h
  exact ⟨es, c, k _ _ h1, h2⟩
theorem MapAt.ne {b i : Nat} {l : List (Int × AVal)} (h : MapAt s b l) {t : Bool} {e : TypeId} {cs : List AVal} (hi : s i = some (t, .cells e cs)) : i ≠ b := by
  rintro rfl
  obtain ⟨es, c, h1, _⟩ := h
  rw [h1] at hi; cases hi
/-- the memory of 'grow' but for the map -/
structure GrC (s : Heap) (bp bt ba bx mb : Nat) (N : Nat) (p : Nat → Int) (G : List Lnk) (lf sp : Int) (lnv upv : AVal) : Prop where
  par : ∃ pb, s bp = some (false, .cells 28 [.slc pb 0 N (some N) 1]) ∧ s pb = some (false, .cells 3 (dl N p))
  tr : s bt = some (false, .cells 83 [.map mb])
  ad : s ba = some (false, .cells 96 [.fn (.func 57) [] [.ptr bp 0, .ptr bt 0, .ptr ba 0, .ptr bx 0]])
  nx : s bx = some (false, .cells 25 (netC lf sp lnv upv))
  ln : SlR 3 s lnv (G.map lkR)
theorem GrC.keep {bp bt ba bx mb : Nat} {p : Nat → Int} (h : GrC s bp bt ba bx mb N p G lf sp lnv upv) {fp : Nat → Prop} (k : KeepBut fp s s') (hfp : ∀ i t e cs, s i = some (t, .cells e cs) → ¬ fp i) : GrC s' bp bt ba bx mb N p G lf sp lnv upv := by
  obtain ⟨⟨pb, h1, h2⟩, h3, h4, h5, h6⟩ := h
  refine ⟨⟨pb, k _ _ h1 (hfp _ _ _ _ h1), k _ _ h2 (hfp _ _ _ _ h2)⟩, k _ _ h3 (hfp _ _ _ _ h3), k _ _ h4 (hfp _ _ _ _ h4), k _ _ h5 (hfp _ _ _ _ h5), h6.1, ?_⟩
  rcases h6.2 with q | ⟨b, o, cap, q1, q2, q3⟩
  · exact .inl q
  · refine .inr ⟨b, o, cap, q1, q2, fun hne => ?_⟩
    obtain ⟨t, e, cs, w1, w2⟩ := q3 hne
    exact ⟨t, e, cs, k _ _ w1 (hfp _ _ _ _ w1), w2⟩
theorem add_in {bp bt ba bx mb : Nat} (z : GOk N G U) (hN : N ≤ 32) (hG : G.length ≤ 128) (h : IsDist N G U r d) : ∀ (k n : Nat) (keys : List Nat) (t : Heap) (K : AVal → Heap → Prop), n < N → (d n).toNat = k → GrC t bp bt ba bx mb N (parL G U d) G lf sp lnv upv → MapAt t mb (kv keys) →
    (∀ n' i, d n' ≤ d n → parL G U d n' = ((i : Nat) : Int) → i ∈ keys → ∀ j, OnP G (parL G U d) n' j → j ∈ keys) →
    (∀ t' keys', MapAt t' mb (kv keys') → KeepBut (fun b => b = mb) t t' → (∀ j, j ∈ keys' ↔ j ∈ keys ∨ OnP G (parL G U d) n j) → K (.tup []) t') →
    wpCall Try.prog XX 57 [.int .i64 (n : Int), .ptr bp 0, .ptr bt 0, .ptr ba 0, .ptr bx 0] K t := by
  intro k
  induction k using Nat.strongRecOn with
  | _ k ih =>
  intro n keys t K hn hk g hm hcl hK
  refine vc_tree_grow_1_in ?_
  obtain ⟨⟨pb, h1, h2⟩, h3, h4, h5, h6⟩ := g
  have ad : iaddrS 1 (.slc pb 0 N (some N) 1) (.int .i64 (n : Int)) = some (.ptr pb n) := by
    have : Nat.blt n N = true := by rw [Nat.blt_eq]; exact hn
    simp [iaddrS, this]
  simp only [vc_tree_grow_1, rd1_mk h1, List.getElem?_cons_zero, ad, rd1_mk h2, dl_get hn, arith_lss, optK_mk]
  rcases parL_cases G U d n with ⟨e, _⟩ | ⟨i, _, _, e, _, _⟩
  · rw [e, decide_eq_true (show (-1 : Int) < 0 by omega)]
    simp only [boolK_true]
    refine hK t keys hm (.refl _ t) fun j => ⟨.inl, fun q => q.elim id fun q => ?_⟩
    obtain ⟨i, hi⟩ := q.no
    rw [e] at hi; omega
  rw [e, decide_eq_false (show ¬ (i : Int) < 0 by omega)]
  obtain ⟨m, c, he, hfar, _, mN, m0, hd, c1⟩ := par_some z h e
  simp only [boolK_false, rd1_mk h3, List.getElem?_cons_zero, optK_mk, hm.get, kv_look]
  have r1 : ∀ o : Option AVal, (o = none ∨ o = some (.agg [])) → extractA (retM (.agg []) true o) 0 = some (.agg []) := by rintro o (rfl | rfl) <;> rfl
  by_cases hin : i ∈ keys
  · rw [if_pos hin]
    simp only [r1 _ (.inr rfl), show extractA (retM (.agg []) true (some (.agg []))) 1 = some (.bool true) from rfl, optK_mk]
    refine new_step fun b t1 hb h7 u7 => wrAgg_step h7 rfl rfl rfl fun t2 h8 u8 => ?_
    have sub2 : Sub t t2 := sub_upto (u7.sub hb) u8 hb
    simp only [boolK_true]
    refine hK t2 keys (hm.sub sub2) sub2.keep fun j => ⟨.inl, fun q => q.elim id fun q => hcl n i (Int.le_refl _) e hin j q⟩
  · rw [if_neg hin]
    simp only [r1 _ (.inl rfl), show extractA (retM (.agg []) true none) 1 = some (.bool false) from rfl, optK_mk]
    refine new_step fun b t1 hb h7 u7 => wrAgg_step h7 rfl rfl rfl fun t2 h8 u8 => ?_
    have sub2 : Sub t t2 := sub_upto (u7.sub hb) u8 hb
    have g2 : GrC t2 bp bt ba bx mb N (parL G U d) G lf sp lnv upv := GrC.keep ⟨⟨pb, h1, h2⟩, h3, h4, h5, h6⟩ (fp := fun _ => False) sub2.keep fun _ _ _ _ _ h => h
    have hiG := par_lt z h e
    simp only [boolK_false, rd1_mk g2.tr, List.getElem?_cons_zero, optK_mk]
    refine optK_of (a := []) rfl ((hm.sub sub2).put (by omega) fun t3 hm3 u3 => ?_)
    rw [kv_stor hin] at hm3
    have g3 : GrC t3 bp bt ba bx mb N (parL G U d) G lf sp lnv upv := g2.keep (fp := fun b => b = mb) (u3.keep rfl) fun i t e cs hi => (hm.sub sub2).ne hi
    obtain ⟨x, hx⟩ : ∃ x, G[i]? = some x := ⟨_, List.getElem?_eq_getElem hiG⟩
    obtain ⟨a, p, cc⟩ := x
    obtain ⟨lb, lo, e1, _, e3⟩ := g3.ln.get (i := i) (r := lkR (a, p, cc)) (by rw [List.getElem?_map, hx]; rfl)
    have q0 : rd1 t3 (.ptr lb lo) = some (.int .i64 (a : Int)) := e3 0 (by omega)
    have q1 : rd1 t3 (.ptr lb (lo + 1)) = some (.int .i64 (p : Int)) := e3 1 (by omega)
    have hx2 := z.ok _ (List.mem_of_getElem? hx)
    have hfm : a + p - n = m := by unfold far at hfar; rw [hx] at hfar; exact hfar
    have hap : n = a ∧ m = p ∨ n = p ∧ m = a := by
      rcases he.2 with q | q <;> rw [hx] at q <;> simp only [Option.some.injEq, Prod.mk.injEq] at q
      · exact .inl ⟨q.1.symm, q.2.1.symm⟩
      · exact .inr ⟨q.2.1.symm, q.1.symm⟩
    have b1 : a < N := hx2.1
    have b2 : p < N := hx2.2.1
    have w1 : IntKind.i64.wrap ((a : Int) + (p : Int)) = (a : Int) + p := wrap64 (by omega) (by omega)
    have w2 : IntKind.i64.wrap ((a : Int) + (p : Int) - (n : Int)) = (m : Int) := by rw [wrap64 (by omega) (by omega)]; omega
    simp only [rd1_mk g3.ad, List.getElem?_cons_zero, addOff_ptr, Nat.zero_add, net2 g3.nx, e1, Nat.add_zero, q0, q1, arith_add, w1, arith_sub, w2, optK_mk]
    refine ⟨by kernel_rfl, ?_⟩
    show wpCall Try.prog XX 57 [.int .i64 (m : Int), .ptr bp 0, .ptr bt 0, .ptr ba 0, .ptr bx 0] _ t3
    refine ih (d m).toNat (by omega) m (keys ++ [i]) t3 _ mN (by omega) g3 hm3 (fun n' i' hd' hp' hi' j hj => ?_) fun t' keys' hm' k' hmem => ?_
    · rcases List.mem_append.1 hi' with q | q
      · exact List.mem_append_left _ (hcl n' i' (by omega) hp' q j hj)
      · rw [List.mem_singleton] at q
        subst q
        have := par_inj z h e hp'
        subst this
        omega
    · refine hK t' keys' hm' ((sub2.keep.trans (u3.keep (fp := fun b => b = mb) rfl)).trans k') fun j => ?_
      rw [hmem j, OnP.iff e, hfar, List.mem_append, List.mem_singleton]
      constructor
      · rintro ((q | q) | q)
        · exact .inl q
        · exact .inr (.inl q)
        · exact .inr (.inr q)
      · rintro (q | q | q)
        · exact .inl (.inl q)
        · exact .inl (.inr q)
        · exact .inr q
end Go.AM
namespace Go.AM
open Go Go.Proofs
variable {K : AVal → Heap → Prop} {s s' s0 t : Heap} {U : List Bool} {L : List RLk} {lnv upv v dv mv : AVal} {lf sp sf : Int} {N r : Nat} {G : List Lnk} {d ds : Nat → Int} {es : List Int}
theorem Sl.keepc {l : List AVal} {fp : Nat → Prop} (h : Sl s v l) (k : KeepBut fp s s') (hfp : ∀ i t e cs, s i = some (t, .cells e cs) → ¬ fp i) : Sl s' v l := by
  rcases h with q | ⟨b, o, cap, q1, q2, q3⟩
  · exact .inl q
  · refine .inr ⟨b, o, cap, q1, q2, fun hne => ?_⟩
    obtain ⟨t, e, cs, w1, w2⟩ := q3 hne
    exact ⟨t, e, cs, k _ _ w1 (hfp _ _ _ _ w1), w2⟩
/-! ### members, one after the other -/
noncomputable abbrev rdyG (ba d : Nat) : Blk := .loop .ready none 35 [(11, .ptr ba 0)] [30] (rfAs 0 (bodyOf Try.f43)) (rfBo 0 (bodyOf Try.f43)) d
theorem grow_round {bp bt ba bx mb l e n : Nat} {keys : List Nat} (z : GOk N G U) (hN : N ≤ 32) (hG : G.length ≤ 128) (h : IsDist N G U r d) (hn : n < N) (hl : t l = some (false, rdyG ba e)) (g : GrC t bp bt ba bx mb N (parL G U d) G lf sp lnv upv) (hm : MapAt t mb (kv keys))
    (hcl : ∀ n' i, parL G U d n' = ((i : Nat) : Int) → i ∈ keys → ∀ j, OnP G (parL G U d) n' j → j ∈ keys)
    (hK : ∀ t' keys', t' l = some (false, rdyG ba e) → MapAt t' mb (kv keys') → KeepBut (fun b => b = mb ∨ b = l) t t' → (∀ j, j ∈ keys' ↔ j ∈ keys ∨ OnP G (parL G U d) n j) → K (.bool true) t') : wpRound Try.prog XX l [.int .i64 (n : Int)] K t := by
  refine vc_tree_grow_r0_in hl ⟨rfl, ?_⟩
  unfold beginK
  rw [hl]
  simp only
  have u1 : Upto l t (hset t l (false, .loop .busy none 35 [(11, .ptr ba 0)] [30] (rfAs 0 (bodyOf Try.f43)) (rfBo 0 (bodyOf Try.f43)) e)) := fun _ hi => hset_other hi
  have l1 : hset t l (false, .loop .busy none 35 [(11, .ptr ba 0)] [30] (rfAs 0 (bodyOf Try.f43)) (rfBo 0 (bodyOf Try.f43)) e) l = some (false, .loop .busy none 35 [(11, .ptr ba 0)] [30] (rfAs 0 (bodyOf Try.f43)) (rfBo 0 (bodyOf Try.f43)) e) := hset_eq
  generalize hset t l (false, .loop .busy none 35 [(11, .ptr ba 0)] [30] (rfAs 0 (bodyOf Try.f43)) (rfBo 0 (bodyOf Try.f43)) e) = t1 at u1 l1
  have nc : ∀ i t' e' cs, t i = some (t', .cells e' cs) → ¬ (i = l) := fun i t' e' cs hi q => by rw [q, hl] at hi; cases hi
  have g1 := g.keep (fp := fun b => b = l) (u1.keep rfl) nc
  have hml : mb ≠ l := by
    rintro rfl
    obtain ⟨_, _, q, _⟩ := hm
    rw [hl] at q; cases q
  have hm1 : MapAt t1 mb (kv keys) := by
    obtain ⟨es, c, q1, q2⟩ := hm
    exact ⟨es, c, by rw [u1 mb hml]; exact q1, q2⟩
  simp only [rd1_mk g1.ad, List.getElem?_cons_zero, optK_mk]
  refine ⟨by kernel_rfl, ?_⟩
  show wpCall Try.prog XX 57 [.int .i64 (n : Int), .ptr bp 0, .ptr bt 0, .ptr ba 0, .ptr bx 0] _ t1
  refine add_in z hN hG h _ n keys t1 _ hn rfl g1 hm1 (fun n' i _ => hcl n' i) fun t2 keys' hm2 k2 hmem => ?_
  have l2 : t2 l = _ := k2 _ _ l1 (Ne.symm hml)
  unfold endK
  rw [l2]
  simp only
  have u3 : Upto l t2 (hset t2 l (false, rdyG ba e)) := fun _ hi => hset_other hi
  refine hK _ keys' hset_eq ?_ (fun i x hi hne => ?_) hmem
  · obtain ⟨es, c, q1, q2⟩ := hm2
    exact ⟨es, c, by rw [u3 mb hml]; exact q1, q2⟩
  · rw [u3 i fun q => hne (.inr q)]
    refine k2 i x ?_ fun q => hne (.inl q)
    rw [u1 i fun q => hne (.inr q)]; exact hi
def Mem (es : List Int) (lf : Int) (ds : Nat → Int) (m : Nat) : Prop := (m : Int) ∈ es ∧ (m : Int) < lf ∧ 0 ≤ ds m
theorem closedT (z : GOk N G U) (h : IsDist N G U r d) {M : Nat → Prop} {keys : List Nat} (hk : ∀ j, j ∈ keys ↔ InT G (parL G U d) M j) : ∀ n' i, parL G U d n' = ((i : Nat) : Int) → i ∈ keys → ∀ j, OnP G (parL G U d) n' j → j ∈ keys := fun n' i hp hi j hj => (hk j).2 (((hk i).1 hi).closed z h hp hj)
theorem inside1_in {bp bt ba bx mb l e c0 c1 c2 : Nat} (z : GOk N G U) (hN : N ≤ 32) (hG : G.length ≤ 128) (h : IsDist N G U r d) (hlf : lf ≤ N) (hl : t l = some (false, rdyG ba e)) (g : GrC t bp bt ba bx mb N (parL G U d) G lf sp lnv upv) (hm : MapAt t mb (kv []))
    (q0 : t c0 = some (false, .cells 28 [mv])) (q1 : t c1 = some (false, .cells 25 (netC lf sp lnv upv))) (q2 : t c2 = some (false, .cells 28 [dv])) (hmv : Sl t mv (izs es)) (hes : es.length ≤ 60) (hdv : Sl t dv (dl N ds))
    (hK : ∀ v t' keys, t' l = some (false, rdyG ba e) → MapAt t' mb (kv keys) → KeepBut (fun b => b = mb ∨ b = l) t t' → (∀ j, j ∈ keys ↔ InT G (parL G U d) (Mem es lf ds) j) → K v t') : wpCall Try.prog XX 73 [.yield l, .ptr c0 0, .ptr c1 0, .ptr c2 0] K t := by
  refine vc_tree_inside_1_in ?_
  simp only [vc_tree_inside_1, rd1_mk q0, List.getElem?_cons_zero, optK_mk]
  refine Clone_in hmv (by omega) fun v s2 o2 sub2 => Sort_in o2 sub2 (by omega) fun s4 o4 sub4 => ?_
  have hsl := (sortI_perm es).length_eq
  refine Compact_in o4 sub4 (by omega) fun v5 s6 es' sl5 hle hmem sub6 _ => ?_
  have hmem : ∀ x, x ∈ es' ↔ x ∈ es := fun x => (hmem x).trans (sortI_perm es).mem_iff
  simp only [sl5.len, List.length_map, optK_mk]
  have l6 := sub6 _ _ hl
  have m6 := hm.sub sub6
  have g6 := g.keep (fp := fun _ => False) sub6.keep fun _ _ _ _ _ h => h
  have d6 := hdv.sub sub6
  have c16 := sub6 _ _ q1
  have c26 := sub6 _ _ q2
  have nc : ∀ i t' e' cs, s6 i = some (t', .cells e' cs) → ¬ (i = mb ∨ i = l) := fun i t' e' cs hi q => by
    rcases q with q | q
    · exact m6.ne hi q
    · rw [q, l6] at hi; cases hi
  refine ⟨fun ys t m => ∃ (i : Nat) (keys : List Nat), ys = [.int .i64 i] ∧ i ≤ es'.length ∧ m = es'.length - i ∧ t l = some (false, rdyG ba e) ∧ MapAt t mb (kv keys) ∧ KeepBut (fun b => b = mb ∨ b = l) s6 t ∧ ∀ j, j ∈ keys ↔ InT G (parL G U d) (Mem (es'.take i) lf ds) j, ⟨_, 0, [], rfl, by omega, rfl, l6, m6, .refl _ s6, fun j => ⟨(fun h => by cases h), fun ⟨m, ⟨h, _⟩, _⟩ => by simp at h⟩⟩, ?_⟩
  rintro f t1 m ⟨i, keys, hy, hi, rfl, hl1, hm1, k1, hkeys⟩
  simp only [List.cons.injEq, and_true] at hy
  rw [hy]
  simp only [vc_tree_inside_1_l0, arith_lss, optK_mk]
  refine boolK_mk (fun hlt => ?_) (fun hge => ?_)
  · have hlt : i < es'.length := by have := of_decide_eq_true hlt; omega
    obtain ⟨p, a1, a2⟩ := (sl5.keepc k1 nc).get (i := i) (by rw [List.length_map]; exact hlt)
    have a3 : (izs es')[i]? = some (.int .i64 es'[i]) := by simp [hlt]
    rw [a3] at a2
    have c11 := k1 _ _ c16 (nc _ _ _ _ c16)
    have c21 := k1 _ _ c26 (nc _ _ _ _ c26)
    have d1 := d6.keepc k1 nc
    have g1 := g6.keep k1 nc
    have tk : ∀ x, x ∈ es'.take (i + 1) ↔ x ∈ es'.take i ∨ x = es'[i] := fun x => by
      rw [List.take_add_one, List.getElem?_eq_getElem hlt, List.mem_append]
      simp only [Option.toList, List.mem_singleton]
    have stay : ¬ (0 ≤ es'[i] ∧ es'[i] < lf ∧ 0 ≤ ds es'[i].toNat) → ∀ j, j ∈ keys ↔ InT G (parL G U d) (Mem (es'.take (i + 1)) lf ds) j := fun hno j => by
      rw [hkeys j]
      refine ⟨fun ⟨m, ⟨h1, h2⟩, h3⟩ => ⟨m, ⟨(tk _).2 (.inl h1), h2⟩, h3⟩, fun ⟨m, ⟨h1, h2⟩, h3⟩ => ⟨m, ⟨?_, h2⟩, h3⟩⟩
      rcases (tk _).1 h1 with q | q
      · exact q
      · refine absurd ⟨by omega, by omega, ?_⟩ hno
        rw [← q]
        exact h2.2
    have nx : ∀ t' keys', t' l = some (false, rdyG ba e) → MapAt t' mb (kv keys') → KeepBut (fun b => b = mb ∨ b = l) s6 t' → (∀ j, j ∈ keys' ↔ InT G (parL G U d) (Mem (es'.take (i + 1)) lf ds) j) → ∃ m', m' < es'.length - i ∧ ∃ (q : Nat) (keys : List Nat), [AVal.int .i64 ((i : Int) + 1)] = [.int .i64 q] ∧ q ≤ es'.length ∧ m' = es'.length - q ∧ t' l = some (false, rdyG ba e) ∧ MapAt t' mb (kv keys) ∧ KeepBut (fun b => b = mb ∨ b = l) s6 t' ∧ ∀ j, j ∈ keys ↔ InT G (parL G U d) (Mem (es'.take q) lf ds) j := fun t' keys' w1 w2 w3 w4 => ⟨_, by omega, i + 1, keys', rfl, by omega, rfl, w1, w2, w3, w4⟩
    simp only [a1, a2, arith_geq, optK_mk]
    by_cases b1 : 0 ≤ es'[i]
    · rw [decide_eq_true b1]
      simp only [boolK_true, addOff_ptr, Nat.zero_add, net0 c11, arith_lss, optK_mk]
      by_cases b2 : es'[i] < lf
      · rw [decide_eq_true b2]
        obtain ⟨n, hn⟩ : ∃ n : Nat, es'[i] = n := ⟨es'[i].toNat, by omega⟩
        have hnN : n < N := by omega
        obtain ⟨p2, a4, a5⟩ := d1.get (i := n) (by rw [dl_len]; exact hnN)
        rw [dl_get hnN] at a5
        simp only [vc_tree_inside_1_j1, pickV_true, optK_mk, boolK_true, rd1_mk c21, List.getElem?_cons_zero, hn, a4, a5, arith_geq]
        by_cases b3 : 0 ≤ ds n
        · rw [decide_eq_true b3]
          simp only [vc_tree_inside_1_j2, pickV_true, optK_mk, boolK_true]
          refine ⟨by unfold loopLen; rw [hl1]; rfl, grow_round z hN hG h hnN hl1 g1 hm1 (closedT z h hkeys) fun t2 keys2 hl2 hm2 k2 hk2 => ?_⟩
          simp only [unary_not, Bool.not_true, vc_tree_inside_1_j3, pickV_true, optK_mk, boolK_false, arith_add]
          rw [wrap64 (by omega) (by omega)]
          refine nx t2 keys2 hl2 hm2 (k1.trans k2) fun j => ?_
          rw [hk2 j, hkeys j]
          constructor
          · rintro (⟨m, ⟨h1, h2⟩, h3⟩ | h3)
            · exact ⟨m, ⟨(tk _).2 (.inl h1), h2⟩, h3⟩
            · exact ⟨n, ⟨(tk _).2 (.inr hn.symm), by omega, b3⟩, h3⟩
          · rintro ⟨m, ⟨h1, h2⟩, h3⟩
            rcases (tk _).1 h1 with q | q
            · exact .inl ⟨m, ⟨q, h2⟩, h3⟩
            · have : m = n := by omega
              subst this
              exact .inr h3
        · rw [decide_eq_false b3]
          simp only [vc_tree_inside_1_j2, vc_tree_inside_1_j3, pickV_true, pickV_false, optK_mk, boolK_false, arith_add]
          rw [wrap64 (by omega) (by omega)]
          refine nx t1 keys hl1 hm1 k1 (stay fun q => b3 ?_)
          have := q.2.2
          rw [hn] at this
          exact this
      · rw [decide_eq_false b2]
        simp only [vc_tree_inside_1_j1, vc_tree_inside_1_j2, vc_tree_inside_1_j3, pickV_true, pickV_false, optK_mk, boolK_false, arith_add]
        rw [wrap64 (by omega) (by omega)]
        exact nx t1 keys hl1 hm1 k1 (stay fun q => b2 q.2.1)
    · rw [decide_eq_false b1]
      simp only [boolK_false, vc_tree_inside_1_j1, vc_tree_inside_1_j2, vc_tree_inside_1_j3, pickV_false, optK_mk, arith_add]
      rw [wrap64 (by omega) (by omega)]
      exact nx t1 keys hl1 hm1 k1 (stay fun q => b1 q.1)
  · have hge : i = es'.length := by have := of_decide_eq_false hge; omega
    subst hge
    rw [List.take_length] at hkeys
    refine hK _ t1 keys hl1 hm1 (sub6.keep.trans k1) fun j => ?_
    rw [hkeys j]
    exact ⟨fun ⟨m, ⟨h1, h2⟩, h3⟩ => ⟨m, ⟨(hmem _).1 h1, h2⟩, h3⟩, fun ⟨m, ⟨h1, h2⟩, h3⟩ => ⟨m, ⟨(hmem _).2 h1, h2⟩, h3⟩⟩
end Go.AM
namespace Go.AM
open Go Go.Proofs
variable {K : AVal → Heap → Prop} {s s' s0 t : Heap} {U : List Bool} {L : List RLk} {lnv upv v dv mv : AVal} {lf sp sf : Int} {N r : Nat} {ds : Nat → Int} {es : List Int}
theorem grow_in (hn : NetR s L U lnv upv) (hok : vld (N : Int) L U) (hsum : lf + sp = N) (h1 : 1 ≤ lf) (h2 : 0 ≤ sp) (hr : r < N) (hdv : Sl s dv (dl N ds)) (hmv : Sl s mv (izs es)) (hes : es.length ≤ 60)
    (hK : ∀ mb s' keys d, IsDist N (L.map toL) U r d → MapAt s' mb (kv keys) → Sub s s' → (∀ j, j ∈ keys ↔ InT (L.map toL) (parL (L.map toL) U d) (Mem es lf ds) j) → K (.map mb) s') : wpCall Try.prog XX 43 [.agg (netC lf sp lnv upv), dv, .int .i64 (r : Int), mv] K s := by
  obtain ⟨z, hG, hN, hC, hmp⟩ := hok.gok
  refine vc_tree_grow_in (hn.box fun bx s1 hbx x1 u1 => map_new fun mb s2 hmb m2 u2 => new_step fun bt s3 hbt t3 u3 => wr1_step t3 (by simp) rfl fun s4 t4 u4 => ?_)
  have t4 : s4 bt = some (false, .cells 83 [.map mb]) := t4
  have sub1 := u1.sub hbx
  have sub2 := u2.sub hmb
  have sub24 : Sub s2 s4 := sub_upto (u3.sub hbt) u4 hbt
  have x4 := sub24 _ _ (sub2 _ _ x1)
  have m4 : MapAt s4 mb (kv []) := m2.sub sub24
  have sub04 : Sub s s4 := (sub1.trans sub2).trans sub24
  simp only [addOff_ptr, Nat.zero_add, net0 x4, net1 x4, net2 x4, net3 x4, arith_add, optK_mk]
  rw [wrap64 (by omega) (by omega), hsum]
  refine Parents_in (hn.l.sub sub04) (by have := hn.len.1; omega) (hn.u.sub sub04) fun pv s5 sub5 _ hpv => ?_
  obtain ⟨d, pb, hd, _, rfl, _, p5⟩ := hpv N r hok rfl hr rfl
  have sub05 := sub04.trans sub5
  refine new_step fun bp s6 hbp p6 u6 => wr1_step p6 (by simp) rfl fun s7 p7 u7 => ?_
  have p7 : s7 bp = some (false, .cells 28 [.slc pb 0 N (some N) 1]) := p7
  have sub57 : Sub s5 s7 := sub_upto (u6.sub hbp) u7 hbp
  refine new_step fun ba s8 hba a8 u8 => wr1_step a8 (by simp) rfl fun s9 a9 u9 => ?_
  have a9 : s9 ba = some (false, .cells 96 [.fn (.func 57) [] [.ptr bp 0, .ptr bt 0, .ptr ba 0, .ptr bx 0]]) := a9
  have sub79 : Sub s7 s9 := sub_upto (u8.sub hba) u9 hba
  have sub59 := sub57.trans sub79
  have sub49 := sub5.trans sub59
  have x9 := sub49 _ _ x4
  have sub09 : Sub s s9 := sub04.trans sub49
  have g9 : GrC s9 bp bt ba bx mb N (parL (L.map toL) U d) (L.map toL) lf sp lnv upv := ⟨⟨pb, sub79 _ _ p7, sub59 _ _ p5⟩, sub49 _ _ t4, a9, x9, by rw [← hmp]; exact hn.l.sub sub09⟩
  have m9 := m4.sub sub49
  simp only [net4 x9, optK_mk]
  refine vc_tree_inside_in ((hn.sub sub09).box fun c1 sa hc1 y1 v1 => box_step hdv.one fun c2 sb hc2 y2 v2 => box_step hmv.one fun c0 sc hc0 y0 v0 => ?_)
  have suba := v1.sub hc1
  have subb := v2.sub hc2
  have subc := v0.sub hc0
  have sub9c := (suba.trans subb).trans subc
  have gc := g9.keep (fp := fun _ => False) sub9c.keep fun _ _ _ _ _ h => h
  have mc := m9.sub sub9c
  have sub0c := sub09.trans sub9c
  refine ⟨by kernel_rfl, trivial, fun l e hl => ?_⟩
  have u : Upto l sc (hset sc l (false, rdyG ba e)) := fun _ hi => hset_other hi
  have hl1 : hset sc l (false, rdyG ba e) l = some (false, rdyG ba e) := hset_eq
  have sub : Sub sc (hset sc l (false, rdyG ba e)) := u.sub hl
  have hls : s l = none := by
    cases q : s l with
    | none => rfl
    | some y => rw [sub0c _ _ q] at hl; cases hl
  have hmbs : s mb = none := by
    cases q : s mb with
    | none => rfl
    | some y => rw [sub1 _ _ q] at hmb; cases hmb
  show wpCall Try.prog XX 73 [.yield l, .ptr c0 0, .ptr c1 0, .ptr c2 0] _ (hset sc l (false, rdyG ba e))
  generalize hset sc l (false, rdyG ba e) = sd at u hl1 sub
  refine inside1_in (es := es) (ds := ds) (lf := lf) (sp := sp) z hN hG hd (by omega) hl1 (gc.keep (fp := fun _ => False) sub.keep fun _ _ _ _ _ h => h) (mc.sub sub) (sub _ _ y0) (sub _ _ (subc _ _ (subb _ _ y1))) (sub _ _ (subc _ _ y2)) (hmv.sub (sub0c.trans sub)) hes (hdv.sub (sub0c.trans sub)) fun _ t keys hlt hmt kt hk => ?_
  unfold doneK3
  rw [hlt]
  refine ⟨(fun h => by cases h), ?_⟩
  have ml : mb ≠ l := by
    rintro rfl
    obtain ⟨_, _, q, _⟩ := hmt
    rw [hlt] at q; cases q
  have hmt2 : MapAt (hdel t l) mb (kv keys) := by
    obtain ⟨es, c, q1, q2⟩ := hmt
    exact ⟨es, c, by rw [hdel_ne ml]; exact q1, q2⟩
  have td := sub _ _ gc.tr
  have hbt2 : bt ≠ mb := (mc.sub sub).ne td
  have hbt3 : bt ≠ l := fun q => by rw [q, hl1] at td; cases td
  have tt := kt _ _ td (by rintro (q | q); exact hbt2 q; exact hbt3 q)
  have tt2 : hdel t l bt = some (false, .cells 83 [.map mb]) := by rw [hdel_ne hbt3]; exact tt
  simp only [rd1_mk tt2, List.getElem?_cons_zero, optK_mk]
  refine hK mb _ keys d hd hmt2 (fun i x hi => ?_) hk
  rw [hdel_ne (ne_of_some hls hi)]
  exact kt i x (sub i x (sub0c i x hi)) (by rintro (q | q); exact ne_of_some hmbs hi q; exact ne_of_some hls hi q)
end Go.AM
namespace Go.AM
open Go Go.Proofs
variable {K : AVal → Heap → Prop} {s s' s0 t : Heap} {U : List Bool} {L : List RLk} {lnv upv v dv mv : AVal} {lf sp sf g : Int} {N r : Nat} {d ds : Nat → Int} {es : List Int}
/-! ### roots and links of trees as functions of the network -/
theorem spn_congr {d d' : Nat → Int} (h : ∀ n, n < N → d n = d' n) : spn lf N d = spn lf N d' := by
  unfold spn
  exact List.filter_congr fun n hn => by rw [h n (List.mem_range.1 hn)]
theorem rootP_congr {d d' : Nat → Int} (h : ∀ n, n < N → d n = d' n) : rootP lf N d g = rootP lf N d' g := by
  unfold rootP
  rw [spn_congr h]
theorem Mem_congr {d d' : Nat → Int} (hlf : lf ≤ N) (h : ∀ n, n < N → d n = d' n) : Mem es lf d = Mem es lf d' := by
  funext m
  apply propext
  unfold Mem
  constructor
  · rintro ⟨h1, h2, h3⟩; exact ⟨h1, h2, by rw [← h m (by omega)]; exact h3⟩
  · rintro ⟨h1, h2, h3⟩; exact ⟨h1, h2, by rw [h m (by omega)]; exact h3⟩
noncomputable def dN (lf sp : Int) (L : List RLk) (U : List Bool) (sf : Int) : Nat → Int := dF (lf + sp).toNat (L.map toL) U sf.toNat
open Classical in
noncomputable def rootN (lf sp : Int) (L : List RLk) (U : List Bool) (sf g : Int) : Option Nat := if netOk lf sp L U sf then rootP lf (lf + sp).toNat (dN lf sp L U sf) g else none
noncomputable def edgesN (lf sp : Int) (L : List RLk) (U : List Bool) (sf g : Int) (es : List Int) : List Nat := match rootN lf sp L U sf g with
  | none => []
  | some r => treeL (L.map toL) (pF (lf + sp).toNat (L.map toL) U r) (Mem es lf (dN lf sp L U sf))
/-- what a list of distances is, once more -/
theorem DistV.is (h : DistV s0 s lf sp L U sf v N d) (q : netOk lf sp L U sf) : N = (lf + sp).toNat ∧ GOk N (L.map toL) U ∧ IsDist N (L.map toL) U sf.toNat (dN lf sp L U sf) ∧ (∀ n, n < N → d n = dN lf sp L U sf n) ∧ lf + sp = N := by
  obtain ⟨h1, h2, _⟩ := h.yes q
  have hN : N = (lf + sp).toNat := by omega
  have hv := q.2.2.1
  rw [h1] at hv
  obtain ⟨z, _⟩ := hv.gok
  unfold dN
  rw [← hN]
  exact ⟨rfl, z, dF_is h2, fun n hn => dF_eq z h2 hn, h1⟩
theorem DistV.root (h : DistV s0 s lf sp L U sf v N d) : rootP lf N d g = rootN lf sp L U sf g := by
  unfold rootN
  by_cases q : netOk lf sp L U sf
  · obtain ⟨h1, _, _, h2, _⟩ := h.is q
    rw [if_pos q, ← h1]
    exact rootP_congr h2
  · rw [if_neg q, (h.no q).2]; rfl
theorem rootN_some (h : rootN lf sp L U sf g = some r) : netOk lf sp L U sf ∧ r ∈ spn lf (lf + sp).toNat (dN lf sp L U sf) := by
  unfold rootN at h
  split at h
  · rename_i q
    exact ⟨q, List.mem_of_getElem? h⟩
  · cases h
end Go.AM
namespace Go.AM
open Go Go.Proofs
variable {K : AVal → Heap → Prop} {s s' s0 t : Heap} {U : List Bool} {L : List RLk} {lnv upv v dv mv : AVal} {lf sp sf g : Int} {N r : Nat} {d ds : Nat → Int} {es : List Int}
/-! ### words of the statements -/
structure NetA (s : Heap) (L : List RLk) (U : List Bool) (lnv upv : AVal) : Prop where
  l : SlR 3 s lnv (L.map rwR)
  u : Sl s upv (U.map AVal.bool)
  len : L.length ≤ 9223372036854775807 ∧ U.length ≤ 9223372036854775807
theorem NetA.sub (h : NetA s L U lnv upv) (k : Sub s s') : NetA s' L U lnv upv := ⟨h.l.sub k, h.u.sub k, h.len⟩
theorem NetA.box (h : NetA s L U lnv upv) (hK : ∀ b s', s b = none → s' b = some (false, .cells 25 (netC lf sp lnv upv)) → Upto b s s' → K (.ptr b 0) s') : boxK 25 (.agg (netC lf sp lnv upv)) K s :=
  ⟨by
    show ((AVal.int .i64 lf).one && ((AVal.int .i64 sp).one && (lnv.one && (upv.one && true)))) = true
    rw [h.l.one, h.u.one]; rfl, new_step hK⟩
theorem NetA.net (h : NetA s L U lnv upv) (hl : L.length ≤ 60 ∧ U.length ≤ 60) : NetR s L U lnv upv := ⟨h.l, h.u, hl⟩
def larg (L : List RLk) (U : List Bool) (k : Nat) : Bool := decide (60 < L.length) || (decide (60 < U.length) || decide (60 < k))
theorem large_in {k : Nat} (hn : NetA s L U lnv upv) (hm : lenOfA mv = some k) (hK : ∀ s', Sub s s' → K (.bool (larg L U k)) s') : wpCall Try.prog XX 10 [.agg (netC lf sp lnv upv), mv] K s := by
  refine vllaw15_large_in (hn.box fun b s1 hb h1 u1 => ?_)
  have sub1 := u1.sub hb
  have e1 : decide ((60 : Int) < (L.length : Int)) = decide (60 < L.length) := decide_eq_decide.2 (by omega)
  have e2 : decide ((60 : Int) < (U.length : Int)) = decide (60 < U.length) := decide_eq_decide.2 (by omega)
  have e3 : decide ((60 : Int) < (k : Int)) = decide (60 < k) := decide_eq_decide.2 (by omega)
  simp only [addOff_ptr, Nat.zero_add, net2 h1, net3 h1, (hn.l.sub sub1).len, (hn.u.sub sub1).len, List.length_map, arith_gtr, e1, optK_mk]
  have fin := hK s1 sub1
  unfold larg at fin
  cases c1 : decide (60 < L.length) with
  | true =>
    rw [c1] at fin
    simp only [boolK_true, vllaw15_large_j0, vllaw15_large_j1, pickV_true, optK_mk]
    exact fin
  | false =>
    rw [c1] at fin
    simp only [boolK_false, addOff_ptr, Nat.zero_add, net3 h1, (hn.u.sub sub1).len, List.length_map, arith_gtr, e2, optK_mk, vllaw15_large_j0, pickV_false]
    cases c2 : decide (60 < U.length) with
    | true =>
      rw [c2] at fin
      simp only [boolK_true, vllaw15_large_j1, pickV_true, optK_mk]
      exact fin
    | false =>
      rw [c2] at fin
      simp only [boolK_false, hm, arith_gtr, e3, optK_mk, vllaw15_large_j1, pickV_false]
      exact fin
theorem larg_false {k : Nat} (h : larg L U k = false) : L.length ≤ 60 ∧ U.length ≤ 60 ∧ k ≤ 60 := by
  unfold larg at h
  simp only [Bool.or_eq_false_iff, decide_eq_false_iff_not] at h
  omega
/-- which networks the statements speak of -/
def lawOk (lf sp : Int) (L : List RLk) (U : List Bool) (k : Nat) : Prop := larg L U k = false ∧ 1 ≤ lf ∧ 0 ≤ sp ∧ vld (lf + sp) L U
end Go.AM
namespace Go.AM
open Go Go.Proofs
variable {K : AVal → Heap → Prop} {s s' s0 t : Heap} {U : List Bool} {L : List RLk} {lnv upv v dv mv : AVal} {lf sp sf g : Int} {N r : Nat} {d ds : Nat → Int} {es : List Int}
/-! ### TreeSpreads -/
theorem known_in {f : FuncId} (h : f = 5 ∨ f = 11) (hK : K (.bool true) s) : wpCall Try.prog XX f [] K s := by
  rcases h with rfl | rfl
  · exact wp_closedB rfl rfl rfl hK
  · exact wp_closedB rfl rfl rfl hK
theorem lawOk.net {k : Nat} (h : lawOk lf sp L U k) {p : Int} (hp : 0 ≤ p ∧ p < lf + sp) : netOk lf sp L U p := ⟨h.2.1, h.2.2.1, h.2.2.2, hp.1, hp.2⟩
end Go.AM
namespace Go.AM
open Go Go.Proofs
variable {s : Heap} {v : AVal}
/-! ### arguments -/
theorem bdu32 {n : Int} (h : (Lit.int .u32 n).wf = true) : 0 ≤ n ∧ n < 4294967296 := by
  unfold Lit.wf at h
  simp [IntKind.min, IntKind.max, IntKind.bits, IntKind.signed] at h
  omega
theorem cells39 : Try.prog.cellsOf 39 = 3 := by kernel_rfl
set_option maxRecDepth 100000 in
theorem inp_lk {d : Nat} {xs : List AVal} (h : Inp Try.prog s (d + 2) 39 xs) : ∃ a : RLk, xs = rwR a ∧ True := by
  unfold Inp at h
  simp only [Try.underlying39] at h
  obtain ⟨h1, h2⟩ := h
  rw [cells39] at h1
  have k0 := h2 _ (List.mem_cons_self)
  have k1 := h2 _ (List.mem_cons_of_mem _ List.mem_cons_self)
  have k2 := h2 _ (List.mem_cons_of_mem _ (List.mem_cons_of_mem _ List.mem_cons_self))
  match xs, h1 with
  | [a, b, c], _ =>
    obtain ⟨n, e1, _⟩ := inp_int (xs := [a]) Try.underlying3 k0
    obtain ⟨q, e2, _⟩ := inp_int (xs := [b]) Try.underlying3 k1
    obtain ⟨w, e3, _⟩ := inp_int (xs := [c]) Try.underlying3 k2
    cases e1; cases e2; cases e3
    exact ⟨(n, q, w), rfl, trivial⟩
set_option maxRecDepth 100000 in
theorem arg_net {d : Nat} (h : Arg Try.prog s (d + 4) 25 v) : ∃ lf sp L U lnv upv, v = .agg (netC lf sp lnv upv) ∧ NetA s L U lnv upv ∧ (-9223372036854775808 ≤ lf ∧ lf ≤ 9223372036854775807) ∧ (-9223372036854775808 ≤ sp ∧ sp ≤ 9223372036854775807) := by
  obtain ⟨h1, h2, _⟩ := h
  have ha : isAggT Try.prog 25 = some true := by kernel_rfl
  obtain ⟨l, rfl, _⟩ := h2 ha
  rw [cells_agg] at h1
  unfold Inp at h1
  simp only [Try.underlying25] at h1
  obtain ⟨g1, g2⟩ := h1
  rw [show Try.prog.cellsOf 25 = 4 by kernel_rfl] at g1
  have k0 := g2 _ (List.mem_cons_self)
  have k1 := g2 _ (List.mem_cons_of_mem _ List.mem_cons_self)
  have k2 := g2 _ (List.mem_cons_of_mem _ (List.mem_cons_of_mem _ List.mem_cons_self))
  have k3 := g2 _ (List.mem_cons_of_mem _ (List.mem_cons_of_mem _ (List.mem_cons_of_mem _ List.mem_cons_self)))
  match l, g1 with
  | [a, b, c, e], _ =>
    obtain ⟨n, e1, w1⟩ := inp_int (xs := [a]) Try.underlying3 k0
    obtain ⟨q, e2, w2⟩ := inp_int (xs := [b]) Try.underlying3 k1
    obtain ⟨lnv, e3, L, hL, _, hl1⟩ := inpR (d := d + 2) (xs := [c]) Try.underlying22 rwR (fun _ => True) (fun a => by rw [cells39]; rfl) (fun xs h => inp_lk h) k2
    obtain ⟨upv, e4, U, hU, _, hl2⟩ := inp_slice (d := d + 2) (xs := [e]) Try.underlying23 (by kernel_rfl) AVal.bool (fun _ => True) (fun xs h => inp_bool Try.underlying4 h) k3
    rw [cells39] at hL
    cases e1; cases e2; cases e3; cases e4
    exact ⟨n, q, L, U, c, e, rfl, ⟨hL, hU, by unfold maxLen at hl1 hl2; omega⟩, bd64 w1, bd64 w2⟩
end Go.AM
namespace Go.AM
open Go Go.Proofs
variable {K : AVal → Heap → Prop} {s s' s0 t : Heap} {U : List Bool} {L : List RLk} {lnv upv v w dv mv : AVal} {lf sp sf g : Int} {N r : Nat} {d ds : Nat → Int} {es es' : List Int}
/-! ### TreeAgrees -/
theorem Same_in (h : Sl s v (izs es)) (h' : Sl s w (izs es')) (hl : es.length ≤ 1000000) (hK : ∀ b : Bool, (b = true ↔ es = es') → K (.bool b) s) : wpCall Try.prog XX 16 [v, w] K s := by
  refine vlkit_Same_int__in ?_
  simp only [vlkit_Same_int_, h.len, h'.len, List.length_map, eqV_int, negB_mk, Bool.true_bne, optK_mk]
  refine boolK_mk (fun c => ?_) (fun c => ?_)
  · have c : ¬ (es.length : Int) = es'.length := by simpa using c
    exact hK false ⟨(fun h => by cases h), fun h => by rw [h] at c; exact absurd rfl c⟩
  have c : es.length = es'.length := by
    have c : (es.length : Int) = es'.length := by simpa using c
    omega
  refine ⟨fun ys t m => ∃ i : Nat, ys = [.int .i64 i] ∧ t = s ∧ i ≤ es.length ∧ m = es.length - i ∧ es.take i = es'.take i, ⟨_, 0, rfl, rfl, by omega, rfl, by simp⟩, ?_⟩
  rintro f t m ⟨i, hy, rfl, hi, rfl, hq⟩
  simp only [List.cons.injEq, and_true] at hy
  rw [hy]
  simp only [vlkit_Same_int__l0, h.len, List.length_map, arith_lss, optK_mk]
  refine boolK_mk (fun hlt => ?_) (fun hge => ?_)
  · have hlt : i < es.length := by have := of_decide_eq_true hlt; omega
    have hlt' : i < es'.length := by omega
    obtain ⟨p, g1, g2⟩ := h.get (i := i) (by rw [List.length_map]; exact hlt)
    obtain ⟨q, g3, g4⟩ := h'.get (i := i) (by rw [List.length_map]; exact hlt')
    have e1 : (izs es)[i]? = some (.int .i64 es[i]) := by simp [hlt]
    have e2 : (izs es')[i]? = some (.int .i64 es'[i]) := by simp [hlt']
    rw [e1] at g2
    rw [e2] at g4
    simp only [g1, g2, g3, g4, eqV_int, negB_mk, Bool.true_bne, optK_mk]
    refine boolK_mk (fun c => ?_) (fun c => ?_)
    · have c : ¬ es[i] = es'[i] := by simpa using c
      exact hK false ⟨(fun h => by cases h), fun h => by subst h; exact absurd rfl c⟩
    · have c : es[i] = es'[i] := by simpa using c
      simp only [arith_add, optK_mk]
      rw [wrap64 (by omega) (by omega)]
      refine ⟨_, by omega, i + 1, rfl, by trivial, by omega, rfl, ?_⟩
      rw [List.take_add_one, List.take_add_one, hq, List.getElem?_eq_getElem hlt, List.getElem?_eq_getElem hlt', c]
  · have hge : i = es.length := by have := of_decide_eq_false hge; omega
    subst hge
    rw [List.take_length, c, List.take_length] at hq
    exact hK true ⟨fun _ => hq, fun _ => rfl⟩
theorem edgesN_lt (h : netOk lf sp L U sf) : ∀ x ∈ edgesN lf sp L U sf g es, x < L.length := fun x hx => by
  unfold edgesN at hx
  cases hr : rootN lf sp L U sf g with
  | none => rw [hr] at hx; cases hx
  | some r =>
    rw [hr] at hx
    simp only at hx
    unfold treeL at hx
    have := List.mem_range.1 (List.mem_filter.1 hx).1
    rwa [List.length_map] at this
theorem edgesN_len (h : netOk lf sp L U sf) : (edgesN lf sp L U sf g es).length ≤ L.length := by
  unfold edgesN
  cases hr : rootN lf sp L U sf g with
  | none => exact Nat.zero_le _
  | some r =>
    simp only
    unfold treeL
    refine Nat.le_trans (List.length_filter_le _ _) ?_
    rw [List.length_range, List.length_map]
    exact Nat.le_refl _
theorem dN_is (h : netOk lf sp L U sf) : GOk (lf + sp).toNat (L.map toL) U ∧ IsDist (lf + sp).toNat (L.map toL) U sf.toNat (dN lf sp L U sf) := by
  have hv := h.2.2.1
  have e : lf + sp = (((lf + sp).toNat : Nat) : Int) := by have := hv.1; omega
  rw [e] at hv
  obtain ⟨z, _, hN, _⟩ := hv.gok
  exact ⟨z, dF_all z (by omega) (by have := h.2.2.2; omega)⟩
end Go.AM
namespace Go.AM
open Go Go.Proofs
variable {K : AVal → Heap → Prop} {s s' s0 t : Heap} {U : List Bool} {L : List RLk} {lnv upv v w dv mv : AVal} {lf sp sf g : Int} {N r : Nat} {d ds : Nat → Int} {es es' : List Int}
end Go.AM
namespace Go.AM
open Go Go.Proofs
variable {K : AVal → Heap → Prop} {s s' s0 t : Heap} {U : List Bool} {L : List RLk} {lnv upv v w dv mv tv : AVal} {lf sp sf g : Int} {N r : Nat} {d ds : Nat → Int} {es es' : List Int} {T : List Nat}
/-! ### reached -/
end Go.AM
namespace Go.AM
open Go Go.Proofs
variable {K : AVal → Heap → Prop} {s s' s0 t : Heap} {U : List Bool} {L : List RLk} {lnv upv v w dv mv tv : AVal} {lf sp sf g : Int} {N r : Nat} {d ds : Nat → Int} {es es' : List Int} {T : List Nat} {G : List Lnk}
/-! ### TreeIs: the law -/
def endAt (G : List Lnk) (n i : Nat) : Bool := match G[i]? with
  | some (a, b, _) => (a == n) || (b == n)
  | none => false
/-! ### TreeIs: the conditions of one node -/
end Go.AM
namespace Go.AM
open Go Go.Proofs
variable {K : AVal → Heap → Prop} {s s' s0 t : Heap} {U : List Bool} {L : List RLk} {lnv upv v w dv mv tv : AVal} {lf sp sf g fr : Int} {N r : Nat} {d ds : Nat → Int} {es es' : List Int} {T : List Nat} {G : List Lnk}
/-! ### where a node sends -/
def nxp (T : List Nat) (G : List Lnk) (n : Nat) (fr : Int) (k : Nat) : Bool := decide (k ∈ T) && (endAt G n k && !((k : Int) == fr))
def alp (T : List Nat) (G : List Lnk) (n : Nat) (fr : Int) (k : Nat) : Bool := decide (k ∈ T) && (endAt G n k && ((k : Int) == fr))
def nextL (i : Nat) (T : List Nat) (G : List Lnk) (n : Nat) (fr : Int) : List Nat := (List.range i).filter (nxp T G n fr)
def alongB (i : Nat) (T : List Nat) (G : List Lnk) (n : Nat) (fr : Int) : Bool := (List.range i).any (alp T G n fr)
noncomputable def nextN (lf sp : Int) (L : List RLk) (U : List Bool) (sf g : Int) (es : List Int) (fr : Int) : List Nat × Bool := match rootN lf sp L U sf g with
  | none => ([], false)
  | some _ => if fr = -1 then (if sf < lf ∧ sf ∈ es then (nextL L.length (edgesN lf sp L U sf g es) (L.map toL) sf.toNat fr, false) else ([], false))
    else if alongB L.length (edgesN lf sp L U sf g es) (L.map toL) sf.toNat fr = true then (nextL L.length (edgesN lf sp L U sf g es) (L.map toL) sf.toNat fr, decide (sf < lf ∧ sf ∈ es)) else ([], false)
theorem nextL_succ {i n : Nat} : nextL (i + 1) T G n fr = nextL i T G n fr ++ (if nxp T G n fr i then [i] else []) := by
  unfold nextL
  rw [List.range_succ, List.filter_append]
  congr 1
  by_cases q : nxp T G n fr i
  · simp [q]
  · rw [if_neg q]; simp [q]
theorem nextL_len {i n : Nat} : (nextL i T G n fr).length ≤ i := by
  have := List.length_filter_le (nxp T G n fr) (List.range i)
  rw [List.length_range] at this
  exact this
theorem alongB_succ {i n : Nat} : alongB (i + 1) T G n fr = (alongB i T G n fr || alp T G n fr i) := by
  unfold alongB
  rw [List.range_succ, List.any_append]
  simp
theorem Contains_in {x : Int} (h : Sl s v (izs es)) (hl : es.length ≤ 1000000) (hK : ∀ b : Bool, (b = true ↔ x ∈ es) → K (.bool b) s) : wpCall Try.prog XX 47 [v, .int .i64 x] K s := by
  refine vs_Contains___int_int__in ?_
  refine vs_Index___int_int__in ?_
  simp only [vs_Index___int_int_, h.len, List.length_map, optK_mk]
  refine ⟨fun ys t m => ∃ i : Nat, ys = [.int .i64 i] ∧ t = s ∧ i ≤ es.length ∧ m = es.length - i ∧ x ∉ es.take i, ⟨_, 0, rfl, rfl, by omega, rfl, by simp⟩, ?_⟩
  rintro f t m ⟨i, hy, rfl, hi, rfl, hq⟩
  simp only [List.cons.injEq, and_true] at hy
  rw [hy]
  simp only [vs_Index___int_int__l0, arith_lss, optK_mk]
  refine boolK_mk (fun hlt => ?_) (fun hge => ?_)
  · have hlt : i < es.length := by have := of_decide_eq_true hlt; omega
    obtain ⟨p, g1, g2⟩ := h.get (i := i) (by rw [List.length_map]; exact hlt)
    have g3 : (izs es)[i]? = some (.int .i64 es[i]) := by simp [hlt]
    rw [g3] at g2
    simp only [g1, g2, eqV_int, negB_mk, Bool.false_bne, optK_mk]
    refine boolK_mk (fun c => ?_) (fun c => ?_)
    · have c := eq_of_beq c
      simp only [arith_geq, optK_mk]
      rw [decide_eq_true (show (0 : Int) ≤ i by omega)]
      exact hK true ⟨fun _ => by rw [c]; exact List.getElem_mem hlt, fun _ => rfl⟩
    · have c : x ≠ es[i] := by simpa using c
      simp only [arith_add, optK_mk]
      rw [wrap64 (by omega) (by omega)]
      refine ⟨_, by omega, i + 1, rfl, by trivial, by omega, rfl, fun hx => ?_⟩
      rw [List.take_add_one, List.getElem?_eq_getElem hlt] at hx
      rcases List.mem_append.1 hx with q | q
      · exact hq q
      · have : x = es[i] := by simpa using q
        exact c this
  · have hge : i = es.length := by have := of_decide_eq_false hge; omega
    subst hge
    rw [List.take_length] at hq
    simp only [arith_geq, optK_mk]
    exact hK false ⟨(fun h => by cases h), fun h => absurd h hq⟩
/-- the deferred function -/
theorem next1_in {ba bl bc : Nat} {a c : Bool} {lv : AVal} (h1 : s ba = some (false, .cells 4 [.bool a])) (h2 : s bl = some (false, .cells 28 [lv])) (h3 : s bc = some (false, .cells 4 [.bool c])) (hlc : bl ≠ bc)
    (hK : ∀ s' x y, (a = true → x = lv ∧ y = c ∧ s' = s) → (a = false → x = .nilslc ∧ y = false) → (∀ i, i ≠ bl → i ≠ bc → s' i = s i) → s' bl = some (false, .cells 28 [x]) → s' bc = some (false, .cells 4 [.bool y]) → optK (rd1 s' (.ptr bl 0)) (fun p => optK (rd1 s' (.ptr bc 0)) fun q => K (.tup [p, q]) s')) :
    funK Try.prog XX (.fn (.func 46) [] [.ptr ba 0, .ptr bl 0, .ptr bc 0]) [] (fun _ s => optK (rd1 s (.ptr bl 0)) fun p => optK (rd1 s (.ptr bc 0)) fun q => K (.tup [p, q]) s) s := by
  refine ⟨by kernel_rfl, ?_⟩
  show wpCall Try.prog XX 46 [.ptr ba 0, .ptr bl 0, .ptr bc 0] _ s
  refine vc_tree_Next_1_in ?_
  simp only [vc_tree_Next_1, rd1_mk h1, List.getElem?_cons_zero, unary_not, optK_mk]
  cases a with
  | true =>
    simp only [Bool.not_true, boolK_false]
    exact hK s lv c (fun _ => ⟨rfl, rfl, rfl⟩) (fun h => by cases h) (fun _ _ _ => rfl) h2 h3
  | false =>
    simp only [Bool.not_false, boolK_true]
    refine wr1_step h2 (by simp) rfl fun s1 h4 u4 => wr1_step (by rw [u4 bc (Ne.symm hlc)]; exact h3) (by simp) rfl fun s2 h5 u5 => ?_
    exact hK s2 .nilslc false (fun h => by cases h) (fun _ => ⟨rfl, rfl⟩) (fun i h1 h2 => by rw [u5 i h2, u4 i h1]) (by rw [u5 bl hlc]; exact h4) h5
theorem Next15_in (hn : NetR s L U lnv upv) (hg : 0 ≤ g ∧ g < 4294967296) (hmv : Sl s mv (izs es)) (hes : es.length ≤ 60) (hK : ∀ v s', Sl s' v (iz (nextN lf sp L U sf g es fr).1) → (∀ b o n c, v = .slc b o n c 1 → (nextN lf sp L U sf g es fr).1 ≠ [] → s b = none) → Sub s s' → K (.tup [v, .bool (nextN lf sp L U sf g es fr).2]) s') : wpCall Try.prog XX 21 [.agg (netC lf sp lnv upv), .int .i64 sf, .int .u32 g, mv, .int .i64 fr] K s := by
  refine vd_tree_Next_in (hn.box fun b s1 hb h1 u1 => new_step fun bl s2 hbl h2 u2 => new_step fun bc s3 hbc h3 u3 => new_step fun ba s4 hba h4 u4 => wr1_step h4 (by simp) rfl fun s5 h5 u5 => ⟨⟨rfl, by kernel_rfl, by kernel_rfl⟩, ?_⟩)
  have sub1 := u1.sub hb
  have sub2 := u2.sub hbl
  have sub3 := u3.sub hbc
  have sub35 : Sub s3 s5 := sub_upto (u4.sub hba) u5 hba
  have hlc : bl ≠ bc := fun q => by rw [q, hbc] at h2; cases h2
  have hla : bl ≠ ba := fun q => by have := sub3 _ _ h2; rw [q, hba] at this; cases this
  have hca : bc ≠ ba := fun q => by rw [q, hba] at h3; cases h3
  have h5 : s5 ba = some (false, .cells 4 [.bool false]) := h5
  have l5 := sub35 _ _ (sub3 _ _ h2)
  have c5 := sub35 _ _ h3
  have b5 := sub35 _ _ (sub3 _ _ (sub2 _ _ h1))
  have sub05 : Sub s s5 := ((sub1.trans sub2).trans sub3).trans sub35
  have hls : s bl = none := by
    cases q : s bl with
    | none => rfl
    | some x => rw [sub1 _ _ q] at hbl; cases hbl
  have hcs : s bc = none := by
    cases q : s bc with
    | none => rfl
    | some x => rw [sub2 _ _ (sub1 _ _ q)] at hbc; cases hbc
  have has_ : s ba = none := by
    cases q : s ba with
    | none => rfl
    | some x => rw [sub3 _ _ (sub2 _ _ (sub1 _ _ q))] at hba; cases hba
  simp only [net4 b5, optK_mk]
  refine tdist_in (hn.sub sub05) fun v s6 N d sub6 dv => ?_
  have sub06 := sub05.trans sub6
  have b6 := sub6 _ _ b5
  have hN : N ≤ 32 := by
    by_cases q : netOk lf sp L U sf
    · have := (dv.yes q).1; have := q.2.2.1.2.1; omega
    · have := (dv.no q).2; omega
  simp only [net4 b6, optK_mk]
  refine choose_in (hn.sub sub06) hN dv.sl hg fun s7 sub7 => ?_
  have sub07 := sub06.trans sub7
  have b7 := sub7 _ _ b6
  have l7 := sub7 _ _ (sub6 _ _ l5)
  have c7 := sub7 _ _ (sub6 _ _ c5)
  have a7 := sub7 _ _ (sub6 _ _ h5)
  rw [dv.root]
  cases hr : rootN lf sp L U sf g with
  | none =>
    have x0 : extractA (rootV none) 0 = some (.int .i64 0) := rfl
    have x1 : extractA (rootV none) 1 = some (.bool false) := rfl
    simp only [x0, x1, unary_not, Bool.not_false, boolK_true, optK_mk]
    refine next1_in a7 l7 c7 hlc fun s8 x y _ hx hu q1 q2 => ?_
    obtain ⟨rfl, rfl⟩ := hx rfl
    simp only [rd1_mk q1, rd1_mk q2, List.getElem?_cons_zero, optK_mk]
    have e : nextN lf sp L U sf g es fr = ([], false) := by unfold nextN; rw [hr]
    have := hK .nilslc s8 (by rw [e]; exact .inl ⟨rfl, rfl⟩) (fun b o n c w => by cases w) fun i e hi => by rw [hu i (ne_of_some hls hi) (ne_of_some hcs hi)]; exact sub07 i e hi
    rw [e] at this
    exact this
  | some r =>
  obtain ⟨q, hm⟩ := rootN_some hr
  obtain ⟨e1, z, hd, hdd, hsum⟩ := dv.is q
  rw [← e1] at hm
  obtain ⟨rN, _, _⟩ := mem_spn.1 hm
  have hv := q.2.2.1
  rw [hsum] at hv
  have x0 : extractA (rootV (some r)) 0 = some (.int .i64 (r : Int)) := rfl
  have x1 : extractA (rootV (some r)) 1 = some (.bool true) := rfl
  simp only [x0, x1, unary_not, Bool.not_true, boolK_false, optK_mk, net4 b7]
  refine grow_in (r := r) (hn.sub sub07) hv hsum q.1 q.2.1 rN (dv.sl.sub sub7) (hmv.sub sub07) hes fun mb s8 keys dr hdr hmap sub8 hk => ?_
  have hk2 : ∀ j, j ∈ keys ↔ j ∈ edgesN lf sp L U sf g es := fun j => by
    unfold edgesN
    rw [hr]
    simp only
    rw [hk j, ← e1, pF_eq z hdr, Mem_congr (es := es) (lf := lf) (by have := q.2.1; omega) hdd]
    exact (mem_treeL z (dF_is hdr)).symm
  have eR : nextN lf sp L U sf g es fr = (if fr = -1 then (if sf < lf ∧ sf ∈ es then (nextL L.length (edgesN lf sp L U sf g es) (L.map toL) sf.toNat fr, false) else ([], false))
    else if alongB L.length (edgesN lf sp L U sf g es) (L.map toL) sf.toNat fr = true then (nextL L.length (edgesN lf sp L U sf g es) (L.map toL) sf.toNat fr, decide (sf < lf ∧ sf ∈ es)) else ([], false)) := by unfold nextN; rw [hr]
  rw [eR] at hK
  clear eR
  generalize edgesN lf sp L U sf g es = T at hk2 hK
  have b8 := sub8 _ _ b7
  have l8 := sub8 _ _ l7
  have c8 := sub8 _ _ c7
  have a8 := sub8 _ _ a7
  have sub08 := sub07.trans sub8
  have hn8 := hn.sub sub08
  obtain ⟨_, _, _, _, hmp⟩ := hv.gok
  have ssf : ((sf.toNat : Nat) : Int) = sf := by have := q.2.2.2.1; omega
  have len60 := hn.len.1
  simp only [addOff_ptr, Nat.zero_add, net2 b8, hn8.l.len, List.length_map, optK_mk]
  refine ⟨fun ys t m => ∃ (i : Nat) (lv : AVal), ys = [.int .i64 i] ∧ i ≤ L.length ∧ m = L.length - i ∧ KeepBut (fun j => j = bl ∨ j = ba) s8 t ∧ t bl = some (false, .cells 28 [lv]) ∧ t ba = some (false, .cells 4 [.bool (alongB i T (L.map toL) sf.toNat fr)]) ∧ Acc 3 s8 t lv (iz (nextL i T (L.map toL) sf.toNat fr)), ⟨_, 0, _, rfl, by omega, rfl, .refl _ s8, l8, a8, .inl ⟨rfl, rfl⟩⟩, ?_⟩
  rintro f t m ⟨i, lv, hy, hi, rfl, kt, lt, at_, ac⟩
  simp only [List.cons.injEq, and_true] at hy
  rw [hy]
  have nf : ∀ {j : Nat} {x : Bool × Blk}, s8 j = some x → j ≠ bl → j ≠ ba → t j = some x := fun {j x} h1 h2 h3 => kt j x h1 (by rintro (q | q); exact h2 q; exact h3 q)
  have bl1 : b ≠ bl := fun q => by rw [q, hbl] at h1; cases h1
  have bl2 : b ≠ ba := fun q => by have := (sub3 _ _ (sub2 _ _ h1)); rw [q, hba] at this; cases this
  have bt := nf b8 bl1 bl2
  have hlnt : SlR 3 t lnv (L.map rwR) := by
    refine hn8.l.keep kt fun b' o n c e hne hfp => ?_
    have := hn.l.was b' o n c e hne
    rcases hfp with rfl | rfl
    · exact this hls
    · exact this has_
  have mbl : mb ≠ bl := by
    rintro rfl
    obtain ⟨_, _, q, _⟩ := hmap
    rw [l8] at q; cases q
  have mba : mb ≠ ba := by
    rintro rfl
    obtain ⟨_, _, q, _⟩ := hmap
    rw [a8] at q; cases q
  have mt : MapAt t mb (kv keys) := by
    obtain ⟨es, c, q1, q2⟩ := hmap
    exact ⟨es, c, nf q1 mbl mba, q2⟩
  have nx : ∀ t' lv', KeepBut (fun j => j = bl ∨ j = ba) s8 t' → t' bl = some (false, .cells 28 [lv']) → t' ba = some (false, .cells 4 [.bool (alongB (i + 1) T (L.map toL) sf.toNat fr)]) → Acc 3 s8 t' lv' (iz (nextL (i + 1) T (L.map toL) sf.toNat fr)) → i < L.length →
      vd_tree_Next_j1 XX (.int .i64 (i : Int)) (fun ys t m => ∃ (i : Nat) (lv : AVal), ys = [.int .i64 i] ∧ i ≤ L.length ∧ m = L.length - i ∧ KeepBut (fun j => j = bl ∨ j = ba) s8 t ∧ t bl = some (false, .cells 28 [lv]) ∧ t ba = some (false, .cells 4 [.bool (alongB i T (L.map toL) sf.toNat fr)]) ∧ Acc 3 s8 t lv (iz (nextL i T (L.map toL) sf.toNat fr))) (L.length - i) K t' := fun t' lv' q1 q2 q3 q4 hlt => by
    simp only [vd_tree_Next_j1, arith_add, optK_mk]
    rw [wrap64 (by omega) (by omega)]
    exact ⟨_, by omega, i + 1, lv', rfl, by omega, rfl, q1, q2, q3, q4⟩
  simp only [vd_tree_Next_l0, arith_lss, optK_mk]
  refine boolK_mk (fun hlt => ?_) (fun hge => ?_)
  · have hlt : i < L.length := by have := of_decide_eq_true hlt; omega
    have hlt2 : i < (L.map toL).length := by rw [List.length_map]; exact hlt
    obtain ⟨⟨A, P, C⟩, hL⟩ : ∃ x : Lnk, (L.map toL)[i]? = some x := ⟨_, List.getElem?_eq_getElem hlt2⟩
    obtain ⟨pb, po, e1, e2, _⟩ := hlnt.get (i := i) (r := lkR (A, P, C)) (by rw [hmp, List.getElem?_map, hL]; rfl)
    simp only [e1, e2, optK_mk]
    refine new_step fun kb t1 hkb k1 v1 => wrAgg_step k1 rfl rfl rfl fun t2 k2 v2 => ?_
    have k2 : t2 kb = some (false, .cells 39 [.int .i64 (A : Int), .int .i64 (P : Int), .int .i64 (C : Int)]) := k2
    have subt : Sub t t2 := sub_upto (v1.sub hkb) v2 hkb
    simp only [(mt.sub subt).get, kv_look, optK_mk]
    have r1 : ∀ o : Option AVal, (o = none ∨ o = some (.agg [])) → extractA (retM (.agg []) true o) 0 = some (.agg []) := by rintro o (rfl | rfl) <;> rfl
    have r2 : extractA (retM (.agg []) true (if i ∈ keys then some (.agg []) else none)) 1 = some (.bool (decide (i ∈ T))) := by
      by_cases hk : i ∈ keys
      · rw [if_pos hk, decide_eq_true ((hk2 i).1 hk)]; rfl
      · rw [if_neg hk, decide_eq_false fun h => hk ((hk2 i).2 h)]; rfl
    simp only [r1 _ (show (if i ∈ keys then some (AVal.agg []) else none) = none ∨ (if i ∈ keys then some (AVal.agg []) else none) = some (.agg []) by split <;> simp), r2, optK_mk]
    refine new_step fun wb t3 hwb w3 v3 => wrAgg_step w3 rfl rfl rfl fun t4 w4 v4 => ?_
    have sub4 : Sub t t4 := subt.trans (sub_upto (v3.sub hwb) v4 hwb)
    have k4 := (sub_upto (v3.sub hwb) v4 hwb : Sub t2 t4) _ _ k2
    have l4 := sub4 _ _ lt
    have a4 := sub4 _ _ at_
    have ac4 := ac.sub sub4
    have kt4 : KeepBut (fun j => j = bl ∨ j = ba) s8 t4 := kt.trans sub4.keep
    have q0 : [AVal.int .i64 (A : Int), .int .i64 (P : Int), .int .i64 (C : Int)][0]? = some (.int .i64 (A : Int)) := rfl
    have q1 : [AVal.int .i64 (A : Int), .int .i64 (P : Int), .int .i64 (C : Int)][1]? = some (.int .i64 (P : Int)) := rfl
    have ea : endAt (L.map toL) sf.toNat i = (((A : Int) == sf) || ((P : Int) == sf)) := by
      unfold endAt
      rw [hL]
      simp only
      have k : ∀ x : Nat, (x == sf.toNat) = ((x : Int) == sf) := fun x => by
        cases q : (x == sf.toNat) with
        | true => have := eq_of_beq q; rw [this, ssf]; simp
        | false =>
          have : ¬ x = sf.toNat := by simpa using q
          cases q2 : ((x : Int) == sf) with
          | false => rfl
          | true => have := eq_of_beq q2; omega
      rw [k, k]
    have skip : nxp T (L.map toL) sf.toNat fr i = false → alp T (L.map toL) sf.toNat fr i = false → vd_tree_Next_j1 XX (.int .i64 (i : Int)) (fun ys t m => ∃ (i : Nat) (lv : AVal), ys = [.int .i64 i] ∧ i ≤ L.length ∧ m = L.length - i ∧ KeepBut (fun j => j = bl ∨ j = ba) s8 t ∧ t bl = some (false, .cells 28 [lv]) ∧ t ba = some (false, .cells 4 [.bool (alongB i T (L.map toL) sf.toNat fr)]) ∧ Acc 3 s8 t lv (iz (nextL i T (L.map toL) sf.toNat fr))) (L.length - i) K t4 := fun q1 q2 => by
      refine nx t4 lv kt4 l4 ?_ ?_ hlt
      · rw [alongB_succ, q2, Bool.or_false]; exact a4
      · rw [nextL_succ, if_neg (by rw [q1]; simp), List.append_nil]; exact ac4
    simp only [unary_not, optK_mk]
    by_cases hT : i ∈ T
    · rw [decide_eq_true hT]
      simp only [Bool.not_true, boolK_false, addOff_ptr, Nat.zero_add, rd1_mk k4, q0, q1, eqV_int, negB_mk, Bool.true_bne, optK_mk]
      have go : ∀ t61 t65, pickV t61 t65 (.bool false) = some (.bool (!endAt (L.map toL) sf.toNat i)) → vd_tree_Next_j2 XX (.int .i64 fr) (.ptr bl 0) (.ptr ba 0) (.int .i64 (i : Int)) (.int .i64 (i : Int)) (.bool false) t61 t65 (fun ys t m => ∃ (i : Nat) (lv : AVal), ys = [.int .i64 i] ∧ i ≤ L.length ∧ m = L.length - i ∧ KeepBut (fun j => j = bl ∨ j = ba) s8 t ∧ t bl = some (false, .cells 28 [lv]) ∧ t ba = some (false, .cells 4 [.bool (alongB i T (L.map toL) sf.toNat fr)]) ∧ Acc 3 s8 t lv (iz (nextL i T (L.map toL) sf.toNat fr))) (L.length - i) K t4 := fun t61 t65 hpk => by
        simp only [vd_tree_Next_j2, hpk, optK_mk, pickV_false]
        cases he : endAt (L.map toL) sf.toNat i with
        | false =>
          simp only [Bool.not_false, boolK_true]
          exact skip (by unfold nxp; rw [he]; simp) (by unfold alp; rw [he]; simp)
        | true =>
          simp only [Bool.not_true, boolK_false, eqV_int, negB_mk, Bool.false_bne, optK_mk]
          cases hf : ((i : Int) == fr) with
          | true =>
            simp only [boolK_true]
            refine wr1_step a4 (by simp) rfl fun t5 w5 v5 => nx t5 lv (kt4.trans (v5.keep (.inr rfl))) (by rw [v5 bl hla]; exact l4) ?_ ?_ hlt
            · have : alp T (L.map toL) sf.toNat fr i = true := by unfold alp; rw [he, hf, decide_eq_true hT]; rfl
              rw [alongB_succ, this, Bool.or_true]; exact w5
            · have : nxp T (L.map toL) sf.toNat fr i = false := by unfold nxp; rw [hf]; simp
              rw [nextL_succ, if_neg (by rw [this]; simp), List.append_nil]
              rcases ac4 with ac4 | ⟨q, y1, y2, y3⟩
              · exact .inl ac4
              · refine .inr ⟨q, y1, y2, ?_⟩
                rw [v5 q fun h => by rw [h, a8] at y1; cases y1]; exact y3
          | false =>
            simp only [boolK_false, rd1_mk l4, List.getElem?_cons_zero, optK_mk]
            refine lit1_step rfl rfl fun xb t5 hxb x5 v5 => ?_
            have sub5 := v5.sub hxb
            have hdom : ∀ i, s8 i ≠ none → t5 i ≠ none := fun i h => by
              by_cases e1 : i = bl
              · rw [e1, sub5 _ _ l4]; simp
              · by_cases e2 : i = ba
                · rw [e2, sub5 _ _ a4]; simp
                · cases hq : s8 i with
                  | none => exact absurd hq h
                  | some x => rw [sub5 _ _ (kt4 i x hq (by rintro (w | w); exact e1 w; exact e2 w))]; simp
            refine (ac4.sub sub5).app (Sl.mk x5 rfl (by simp)) (by simp) ?_ hdom fun v' t6 a6 k6 => ?_
            · have := nextL_len (i := i) (T := T) (G := L.map toL) (n := sf.toNat) (fr := fr)
              rw [iz_len]; simp only [List.length_singleton]; omega
            have own : ∀ j x, t5 j = some x → s8 j ≠ none → t6 j = some x := fun j x h1 h2 => k6 j x h1 fun b hb e => by
              rcases ac4 with ⟨y, _⟩ | ⟨q, y1, y2, _⟩
              · rw [y] at hb; cases hb
              · rw [y2] at hb; cases hb; rw [e] at h2; exact h2 y1
            have l6 := own bl _ (sub5 _ _ l4) (by rw [l8]; simp)
            have a6' := own ba _ (sub5 _ _ a4) (by rw [a8]; simp)
            refine wr1_step l6 (by simp) a6.sl.one fun t7 w7 v7 => nx t7 v' (fun j x h1 h2 => ?_) w7 ?_ ?_ hlt
            · rw [v7 j fun w => h2 (.inl w)]
              exact own j x (sub5 _ _ (kt4 j x h1 h2)) (by rw [h1]; simp)
            · have : alp T (L.map toL) sf.toNat fr i = false := by unfold alp; rw [hf]; simp
              rw [alongB_succ, this, Bool.or_false, v7 ba (Ne.symm hla)]; exact a6'
            · have : nxp T (L.map toL) sf.toNat fr i = true := by unfold nxp; rw [he, hf, decide_eq_true hT]; rfl
              rw [nextL_succ, if_pos this, iz_app]
              rcases a6 with a6 | ⟨q, y1, y2, y3⟩
              · exact .inl a6
              · refine .inr ⟨q, y1, y2, ?_⟩
                rw [v7 q fun h => by rw [h, l8] at y1; cases y1]; exact y3
      cases hA : ((A : Int) == sf) with
      | true =>
        simp only [Bool.not_true, boolK_false]
        exact go _ _ (by rw [ea, hA]; rfl)
      | false =>
        simp only [Bool.not_false, boolK_true, addOff_ptr, Nat.zero_add, rd1_mk k4, q1, eqV_int, negB_mk, Bool.true_bne, optK_mk]
        exact go _ _ (by rw [ea, hA, Bool.false_or]; rfl)
    · rw [decide_eq_false hT]
      simp only [Bool.not_false, boolK_true, pickV_true, optK_mk]
      exact skip (by unfold nxp; rw [decide_eq_false hT]; rfl) (by unfold alp; rw [decide_eq_false hT]; rfl)
  · have hge : i = L.length := by have := of_decide_eq_false hge; omega
    subst hge
    simp only [addOff_ptr, Nat.zero_add, net0 bt, arith_lss, optK_mk]
    have cne1 : bc ≠ bl := Ne.symm hlc
    have ct := nf c8 cne1 hca
    have hmt : Sl t mv (izs es) := by
      refine (hmv.sub sub08).keep kt fun b' o n c e hne hfp => ?_
      rcases hfp with rfl | rfl
      · exact hmv.ne hls b' o n c e hne rfl
      · exact hmv.ne has_ b' o n c e hne rfl
    -- what comes once it is known whether the node is a member
    have fin : ∀ mem : Bool, (mem = true ↔ sf < lf ∧ sf ∈ es) → ∀ t80 t83, pickV t80 t83 (.bool false) = some (.bool mem) → vd_tree_Next_j3 XX (.int .i64 fr) (.ptr bl 0) (.ptr bc 0) (.ptr ba 0) (.fn (.func 46) [] [(.ptr ba 0), (.ptr bl 0), (.ptr bc 0)]) t80 t83 K t := fun mem hmem t80 t83 hpk => by
      simp only [vd_tree_Next_j3, hpk, optK_mk, eqV_int, negB_mk, Bool.false_bne]
      have subK : ∀ {s' : Heap}, (∀ i, i ≠ bl → i ≠ bc → i ≠ ba → s' i = t i) → Sub s s' := fun {s'} h i e hi => by
        have n1 := ne_of_some hls hi
        have n2 := ne_of_some has_ hi
        rw [h i n1 (ne_of_some hcs hi) n2]
        exact nf (sub08 i e hi) n1 n2
      have accOut : ∀ {s' : Heap} (_ : ∀ i, i ≠ bl → i ≠ bc → i ≠ ba → s' i = t i), Sl s' lv (iz (nextL L.length T (L.map toL) sf.toNat fr)) := fun {s'} h => by
        rcases ac with ⟨y, y2⟩ | ⟨q, y1, y2, y3⟩
        · exact .inl ⟨y, y2⟩
        · rw [y2]
          refine Sl.mk (t := false) (e := 3) ?_ rfl (by simp)
          rw [h q (fun e => by rw [e, l8] at y1; cases y1) (fun e => by rw [e, c8] at y1; cases y1) (fun e => by rw [e, a8] at y1; cases y1)]
          exact y3
      have frs : ∀ b o n c, lv = .slc b o n c 1 → nextL L.length T (L.map toL) sf.toNat fr ≠ [] → s b = none := fun b o n c w _ => by
        rcases ac with ⟨y, _⟩ | ⟨q, y1, y2, _⟩
        · rw [y] at w; cases w
        · rw [y2] at w
          cases w
          cases r : s b with
          | none => rfl
          | some x => rw [sub08 _ _ r] at y1; cases y1
      cases hfr : (fr == -1) with
      | true =>
        have hfr := eq_of_beq hfr
        simp only [boolK_true]
        refine wr1_step at_ (by simp) rfl fun t5 w5 v5 => ?_
        refine next1_in w5 (by rw [v5 bl hla]; exact lt) (by rw [v5 bc hca]; exact ct) hlc fun s9 x y h1 h0 hu q1 q2 => ?_
        have hu' : ∀ i, i ≠ bl → i ≠ bc → i ≠ ba → s9 i = t i := fun i a1 a2 a3 => by rw [hu i a1 a2, v5 i a3]
        simp only [rd1_mk q1, rd1_mk q2, List.getElem?_cons_zero, optK_mk]
        rw [if_pos hfr] at hK
        cases mem with
        | true =>
          rw [if_pos (hmem.1 rfl)] at hK
          obtain ⟨rfl, rfl, _⟩ := h1 rfl
          exact hK x s9 (accOut hu') frs (subK hu')
        | false =>
          rw [if_neg (fun h => by have := hmem.2 h; cases this)] at hK
          obtain ⟨rfl, rfl⟩ := h0 rfl
          exact hK _ s9 (.inl ⟨rfl, rfl⟩) (fun b o n c w => by cases w) (subK hu')
      | false =>
        have hfr : ¬ fr = -1 := by simpa using hfr
        rw [if_neg hfr] at hK
        simp only [boolK_false, rd1_mk lt, List.getElem?_cons_zero, optK_mk]
        have lv1 : lv.one = true := ac.sl.one
        refine wr1_step lt (by simp) lv1 fun t5 w5 v5 => wr1_step (by rw [v5 bc cne1]; exact ct) (by simp) rfl fun t6 w6 v6 => ?_
        refine next1_in (a := alongB L.length T (L.map toL) sf.toNat fr) (by rw [v6 ba (Ne.symm hca), v5 ba (Ne.symm hla)]; exact at_) (by rw [v6 bl hlc]; exact w5) w6 hlc fun s9 x y h1 h0 hu q1 q2 => ?_
        have hu' : ∀ i, i ≠ bl → i ≠ bc → i ≠ ba → s9 i = t i := fun i a1 a2 a3 => by rw [hu i a1 a2, v6 i a2, v5 i a1]
        simp only [rd1_mk q1, rd1_mk q2, List.getElem?_cons_zero, optK_mk]
        cases ha : alongB L.length T (L.map toL) sf.toNat fr with
        | true =>
          rw [ha, if_pos rfl] at hK
          obtain ⟨rfl, rfl, _⟩ := h1 ha
          have e : y = decide (sf < lf ∧ sf ∈ es) := by
            by_cases h : sf < lf ∧ sf ∈ es
            · rw [decide_eq_true h]; exact hmem.2 h
            · rw [decide_eq_false h]
              cases y with
              | false => rfl
              | true => exact absurd (hmem.1 rfl) h
          rw [e]
          exact hK x s9 (accOut hu') frs (subK hu')
        | false =>
          rw [ha, if_neg (by simp)] at hK
          obtain ⟨rfl, rfl⟩ := h0 ha
          exact hK _ s9 (.inl ⟨rfl, rfl⟩) (fun b o n c w => by cases w) (subK hu')
    by_cases e1 : sf < lf
    · rw [decide_eq_true e1]
      simp only [boolK_true]
      refine Contains_in hmt (by omega) fun b2 hb2 => ?_
      exact fin b2 ⟨fun h => ⟨e1, hb2.1 h⟩, fun h => hb2.2 h.2⟩ _ _ rfl
    · rw [decide_eq_false e1]
      simp only [boolK_false]
      exact fin false ⟨(fun h => by cases h), fun h => absurd h.1 e1⟩ _ _ rfl
end Go.AM
namespace Go.AM
open Go Go.Proofs
variable {K : AVal → Heap → Prop} {s s' s0 t : Heap} {U : List Bool} {L : List RLk} {lnv upv v w dv mv tv : AVal} {lf sp sf g fr ttl : Int} {N r : Nat} {d ds : Nat → Int} {es es' : List Int} {T : List Nat} {G : List Lnk} {ps : List AVal}
/-! ### packets -/
structure PkR (ps : List AVal) (g ttl : Int) : Prop where
  len : ps.length = 21
  one : allOne ps = true
  dst : ps[1]? = some (.int .u32 g)
  ttl : ps[2]? = some (.int .i64 ttl)
theorem allOne_set {x : AVal} (hx : x.one = true) : ∀ {l : List AVal} {i : Nat}, allOne l = true → allOne (l.set i x) = true
  | [], _, _ => rfl
  | y :: l, 0, h => by
    simp only [allOne_cons, Bool.and_eq_true] at h
    simp only [List.set_cons_zero, allOne_cons, hx, h.2, Bool.and_self]
  | y :: l, i + 1, h => by
    simp only [allOne_cons, Bool.and_eq_true] at h
    rw [List.set_cons_succ, allOne_cons, h.1, allOne_set hx h.2]; rfl
theorem PkR.less (h : PkR ps g ttl) {x : Int} : PkR (ps.set 2 (.int .i64 x)) g x := by
  refine ⟨by rw [List.length_set]; exact h.len, allOne_set rfl h.one, ?_, ?_⟩
  · rw [List.getElem?_set_ne (by omega)]; exact h.dst
  · rw [List.getElem?_set_self (by rw [h.len]; omega)]
abbrev zSent : List AVal := [(.int .i64 0), (.int .u32 0), (.int .u32 0), (.int .i64 0), (.int .i64 0), (.int .u32 0), (.int .u32 0), (.int .u64 0), (.int .u64 0), (.int .i64 0), (.int .i64 0), (.int .u64 0), (.int .u32 0), (.int .u64 0), (.int .u32 0), (.int .u32 0), (.int .u32 0), (.int .i64 0), (.int .i64 0), (.int .i64 0), (.int .i64 0), (.int .u64 0)]
theorem fill_sent (h : ps.length = 21) {x : Int} : fillR zSent [(0, 1, .int .i64 x), (1, 21, .agg ps)] = some (.int .i64 x :: ps) := by
  have e1 : fillR zSent [(0, 1, .int .i64 x), (1, 21, .agg ps)] = fillR (.int .i64 x :: zSent.drop 1) [(1, 21, .agg ps)] := rfl
  rw [e1]
  have e2 : Nat.beq ps.length 21 = true := by rw [h]; rfl
  have e3 : Nat.ble (1 + ps.length) (AVal.int .i64 x :: zSent.drop 1).length = true := by rw [h]; rfl
  simp only [fillR, cells_agg, e2, e3, Bool.and_self, cond_true]
  unfold setRange
  rw [h]
  show some ([AVal.int .i64 x] ++ ps ++ []) = _
  rw [List.append_nil]; rfl
theorem fill_one {zs c : List AVal} (h : c.length = zs.length) : fillR (repl 1 zs) [(0, zs.length, .agg c)] = some c := by
  have e0 : repl 1 zs = zs := by simp [repl]
  rw [e0]
  have e2 : Nat.beq c.length zs.length = true := by rw [h]; exact Nat.beq_refl _
  have e3 : Nat.ble (0 + c.length) zs.length = true := Nat.ble_eq_true_of_le (by omega)
  simp only [fillR, cells_agg, e2, e3, Bool.and_self, cond_true]
  unfold setRange
  rw [List.take_zero, List.nil_append, List.drop_eq_nil_of_le (by omega), List.append_nil]
def sentR (ps : List AVal) (l : List Nat) : List (List AVal) := l.map fun (i : Nat) => .int .i64 (i : Int) :: ps
open Classical in
noncomputable def fwdN (lf sp : Int) (L : List RLk) (U : List Bool) (sf : Int) (es : List Int) (g ttl fr : Int) : List Nat × Bool × Int :=
  if netOk lf sp L U sf then (match rootN lf sp L U sf g with
    | none => ([], false, 13)
    | some _ => if ttl < 2 then ([], (nextN lf sp L U sf g es fr).2, 0) else ((nextN lf sp L U sf g es fr).1, (nextN lf sp L U sf g es fr).2, 0)) else ([], false, 3)
theorem nextN_len : (nextN lf sp L U sf g es fr).1.length ≤ L.length := by
  unfold nextN
  split
  · exact Nat.zero_le _
  · split
    · split
      · exact nextL_len
      · exact Nat.zero_le _
    · split
      · exact nextL_len
      · exact Nat.zero_le _
theorem Forward15_in (hn : NetR s L U lnv upv) (hg : 0 ≤ g ∧ g < 4294967296) (ht : -9223372036854775808 ≤ ttl ∧ ttl ≤ 9223372036854775807) (hmv : Sl s mv (izs es)) (hes : es.length ≤ 60) (hp : PkR ps g ttl)
    (hK : ∀ v s', Sub s s' → AccR 60 22 s s' v (sentR (ps.set 2 (.int .i64 (ttl - 1))) (fwdN lf sp L U sf es g ttl fr).1) → K (.tup [v, .bool (fwdN lf sp L U sf es g ttl fr).2.1, .int .i64 (fwdN lf sp L U sf es g ttl fr).2.2]) s') : wpCall Try.prog XX 23 [.agg (netC lf sp lnv upv), .int .i64 sf, mv, .agg ps, .int .i64 fr] K s := by
  refine vc_tree_Forward_in (hn.box fun b s1 hb h1 u1 => ⟨hp.one, new_step fun pb s2 hpb h2 u2 => ?_⟩)
  have h2 : s2 pb = some (false, .cells 51 ps) := h2
  have sub1 := u1.sub hb
  have sub2 := u2.sub hpb
  have sub02 := sub1.trans sub2
  have b2 := sub2 _ _ h1
  have rows0 : ∀ (s' : Heap) qs, AccR 60 22 s s' .nilslc (sentR qs []) := fun s' qs => ⟨by simp [sentR], .inl ⟨rfl, rfl⟩⟩
  simp only [net4 b2, optK_mk]
  refine tdist_in (hn.sub sub02) fun v s6 N d sub6 dv => ?_
  have sub06 := sub02.trans sub6
  have b6 := sub6 _ _ b2
  have p6 := sub6 _ _ h2
  by_cases q : netOk lf sp L U sf
  rotate_left
  · obtain ⟨rfl, _⟩ := dv.no q
    have e : fwdN lf sp L U sf es g ttl fr = ([], false, 3) := by unfold fwdN; rw [if_neg q]
    simp only [eqV_nilslc, negB_mk, Bool.false_bne, boolK_true, optK_mk]
    have := hK .nilslc s6 sub06 (by rw [e]; exact rows0 _ _)
    rw [e] at this
    exact this
  have hN : N ≤ 32 := by have := (dv.yes q).1; have := q.2.2.1.2.1; omega
  have dsl := dv.sl
  have e5 : negB false (eqV 5 true v .nilslc) = some (.bool false) := by
    obtain ⟨_, _, _, b, rfl, _⟩ := dv.yes q
    rfl
  simp only [e5, boolK_false, optK_mk, net4 b6, addOff_ptr, Nat.zero_add, rd1_mk p6, hp.dst]
  refine choose_in (hn.sub sub06) hN dsl hg fun s7 sub7 => ?_
  have sub07 := sub06.trans sub7
  have b7 := sub7 _ _ b6
  have p7 := sub7 _ _ p6
  rw [dv.root]
  cases hr : rootN lf sp L U sf g with
  | none =>
    have x0 : extractA (rootV none) 0 = some (.int .i64 0) := rfl
    have x1 : extractA (rootV none) 1 = some (.bool false) := rfl
    have e : fwdN lf sp L U sf es g ttl fr = ([], false, 13) := by unfold fwdN; rw [if_pos q, hr]
    simp only [x0, x1, unary_not, Bool.not_false, boolK_true, optK_mk]
    have := hK .nilslc s7 sub07 (by rw [e]; exact rows0 _ _)
    rw [e] at this
    exact this
  | some r =>
  have x0 : extractA (rootV (some r)) 0 = some (.int .i64 (r : Int)) := rfl
  have x1 : extractA (rootV (some r)) 1 = some (.bool true) := rfl
  simp only [x0, x1, unary_not, Bool.not_true, boolK_false, optK_mk, net4 b7, addOff_ptr, Nat.zero_add, rd1_mk p7, hp.dst]
  refine Next15_in (hn.sub sub07) hg (hmv.sub sub07) hes fun nv s8 hnv hfr sub8 => ?_
  have sub08 := sub07.trans sub8
  have p8 := sub8 _ _ p7
  have e : fwdN lf sp L U sf es g ttl fr = (if ttl < 2 then ([], (nextN lf sp L U sf g es fr).2, 0) else ((nextN lf sp L U sf g es fr).1, (nextN lf sp L U sf g es fr).2, 0)) := by unfold fwdN; rw [if_pos q, hr]
  have nl := nextN_len (lf := lf) (sp := sp) (L := L) (U := U) (sf := sf) (g := g) (es := es) (fr := fr)
  have l60 := hn.len.1
  generalize nextN lf sp L U sf g es fr = R at hnv hfr e nl
  obtain ⟨rl, rb⟩ := R
  have y0 : extractA (.tup [nv, .bool rb]) 0 = some nv := rfl
  have y1 : extractA (.tup [nv, .bool rb]) 1 = some (.bool rb) := rfl
  simp only [y0, y1, optK_mk, addOff_ptr, Nat.zero_add, rd1_mk p8, hp.ttl, arith_lss]
  refine boolK_mk (fun hlt => ?_) (fun hge => ?_)
  · have hlt := of_decide_eq_true hlt
    rw [if_pos hlt] at e
    have := hK .nilslc s8 sub08 (by rw [e]; exact rows0 _ _)
    rw [e] at this
    exact this
  · have hge := of_decide_eq_false hge
    rw [if_neg hge] at e
    simp only [arith_sub, optK_mk]
    rw [wrap64 (by omega) (by omega)]
    have pk := hp.less (x := ttl - 1)
    refine wr1_step p8 (by rw [hp.len]; omega) rfl fun s9 p9 u9 => ?_
    have hpb0 : s pb = none := by
      cases r : s pb with
      | none => rfl
      | some x => rw [sub1 _ _ r] at hpb; cases hpb
    have sub09 : Sub s s9 := sub_upto sub08 u9 hpb0
    generalize ps.set 2 (.int .i64 (ttl - 1)) = qs at pk p9 hK
    have nv9 : Sl s9 nv (iz rl) := by
      refine hnv.keep (fp := fun i => i = pb) (u9.keep rfl) fun b o n c e hne hfp => ?_
      subst hfp
      have := hfr b o n c e (fun w => hne (by rw [show rl = [] from w]; rfl))
      rw [p7] at this; cases this
    have nl : rl.length ≤ L.length := nl
    simp only [nv9.len, iz_len, optK_mk]
    refine ⟨fun ys t m => ∃ (i : Nat) (lv : AVal), ys = [lv, .int .i64 i] ∧ i ≤ rl.length ∧ m = rl.length - i ∧ Sub s9 t ∧ AccR 60 22 s9 t lv (sentR qs (rl.take i)), ⟨_, 0, _, rfl, by omega, rfl, .refl s9, by simp [sentR], .inl ⟨rfl, rfl⟩⟩, ?_⟩
    rintro f t m ⟨i, lv, hy, hi, rfl, st, ac⟩
    simp only [List.cons.injEq, and_true] at hy
    rw [hy.1, hy.2]
    simp only [vc_tree_Forward_l0, arith_lss, optK_mk]
    refine boolK_mk (fun hlt => ?_) (fun hge2 => ?_)
    · have hlt : i < rl.length := by have := of_decide_eq_true hlt; omega
      obtain ⟨pp, g1, g2⟩ := (nv9.sub st).get (i := i) (by rw [iz_len]; exact hlt)
      rw [iz_get, List.getElem?_eq_getElem hlt] at g2
      have pt := st _ _ p9
      have r21 : rdN t 21 (.ptr pb 0) = some qs := rdN_all pt pk.len
      simp only [g1, g2, Option.map_some, r21, optK_mk]
      refine optK_of (fill_sent pk.len) (optK_of (fill_one (zs := zSent) (by rw [List.length_cons, pk.len]; rfl)) ⟨by rw [allOne_cons, pk.one]; rfl, new_step fun xb t5 hxb x5 v5 => ?_⟩)
      have sub5 := v5.sub hxb
      have lit : SlR 22 t5 (.slc xb 0 1 (some 1) 22) (sentR qs [rl[i]]) := SlR.mk (by intro r hr; simp only [sentR, List.map_cons, List.map_nil, List.mem_singleton] at hr; subst hr; rw [List.length_cons, pk.len]) (by simpa [sentR] using x5) rfl (by simp [sentR])
      refine (ac.sub sub5).app lit (by simp [sentR]) ?_ (st.trans sub5) fun v' t6 a6 s6 => ?_
      · simp only [sentR, List.length_map, List.length_take, List.length_cons, List.length_nil]; omega
      · simp only [arith_add, optK_mk]
        rw [wrap64 (by omega) (by omega)]
        refine ⟨_, by omega, i + 1, v', rfl, by omega, rfl, s6, ?_⟩
        have : sentR qs (rl.take (i + 1)) = sentR qs (rl.take i) ++ sentR qs [rl[i]] := by
          unfold sentR
          rw [List.take_add_one, List.getElem?_eq_getElem hlt, List.map_append]; rfl
        rw [this]; exact a6
    · have hge2 : i = rl.length := by have := of_decide_eq_false hge2; omega
      subst hge2
      rw [List.take_length] at ac
      have ac0 : AccR 60 22 s t lv (sentR qs rl) := ⟨ac.1, ac.2.imp id fun ⟨b, a1, a2, a3⟩ => ⟨b, (by
        cases r : s b with
        | none => rfl
        | some x => rw [sub09 _ _ r] at a1; cases a1), a2, a3⟩⟩
      have := hK lv t (sub09.trans st) (by rw [e]; exact ac0)
      rw [e] at this
      exact this
end Go.AM
