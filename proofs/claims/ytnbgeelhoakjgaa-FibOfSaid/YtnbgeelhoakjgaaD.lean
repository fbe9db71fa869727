/- Part D of a calculus over a small memory that is proved to answer as the program does, and of its use for the functions that the law reaches: see the last part. -/
import Derived.Test.YtnbgeelhoakjgaaC
namespace Go.AM
open Go Go.Proofs
variable {K : AVal → Heap → Prop} {s s' s0 : Heap} {N : Nat} {G : List Lnk} {U : List Bool} {lv uv av dv v : AVal} {d : Nat → Int}
/-! ### nearer, parents -/
theorem Nearer_in {n : Nat} (z : GOk N G U) (hn : n < N) (hG : G.length ≤ 128) (hC : ∀ x ∈ G, x.2.2 ≤ 1000) (hd : ∀ m, m < N → -1 ≤ d m ∧ d m ≤ 32000) (hv : SlR 3 s v ((edL G U n).map edR)) (hdv : Sl s dv (dl N d))
    (hK : ∀ v' s', AccR 106 3 s s' v' ((nearL G U d n).map edR) → Sub s s' → K v' s') : wpCall Try.prog XX 50 [v, dv, .int .i64 (n : Int)] K s := by
  have hcost : ∀ {i n m c : Nat}, Ed G U i n m c → c ≤ 1000 := fun {i n m c} e => by
    rcases e.2 with e | e
    · exact hC _ (List.mem_of_getElem? e)
    · exact hC _ (List.mem_of_getElem? e)
  have hle := edL_len (G := G) (U := U) (n := n)
  refine vc_spf_nearer_in ?_
  simp only [vc_spf_nearer, hv.len, List.length_map, optK_mk]
  refine ⟨fun ys t m => ∃ (i : Nat) (lv : AVal), ys = [lv, .int .i64 i] ∧ i ≤ (edL G U n).length ∧ m = (edL G U n).length - i ∧ Sub s t ∧ AccR 106 3 s t lv ((((edL G U n).take i).filter fun e => decide (d n = d e.2.1 + e.2.2)).map edR), ⟨_, 0, _, rfl, by omega, rfl, .refl s, by simp, .inl ⟨rfl, by simp⟩⟩, ?_⟩
  rintro f t m ⟨i, lv, hy, hi, rfl, st, ac⟩
  simp only [List.cons.injEq, and_true] at hy
  obtain ⟨hy1, hy2⟩ := hy
  rw [hy1, hy2]
  simp only [vc_spf_nearer_l0, arith_lss, optK_mk]
  refine boolK_mk (fun hlt => ?_) (fun hge => ?_)
  · have hlt : i < (edL G U n).length := by have := of_decide_eq_true hlt; omega
    obtain ⟨e, he⟩ : ∃ e, (edL G U n)[i]? = some e := ⟨_, List.getElem?_eq_getElem hlt⟩
    obtain ⟨j, mm, c⟩ := e
    have hed := (mem_edL z).1 (List.mem_of_getElem? he)
    obtain ⟨_, mN, nem, c1, _⟩ := z.ed hed
    have c2 := hcost hed
    obtain ⟨pb, po, e1, e2, _⟩ := (hv.sub st).get (i := i) (r := edR (j, mm, c)) (by rw [List.getElem?_map, he]; rfl)
    simp only [e1, e2, optK_mk]
    refine new_step fun b t1 hb h1 u1 => wrAgg_step h1 rfl rfl rfl fun t2 h2 u2 => ?_
    have h2 : t2 b = some (false, .cells 106 [.int .i64 (j : Int), .int .i64 (mm : Int), .int .i64 (c : Int)]) := h2
    have subt : Sub t t2 := sub_upto (u1.sub hb) u2 hb
    have st2 := st.trans subt
    obtain ⟨p1, g1, g2⟩ := (hdv.sub st2).get (i := n) (by rw [dl_len]; exact hn)
    obtain ⟨p2, g3, g4⟩ := (hdv.sub st2).get (i := mm) (by rw [dl_len]; exact mN)
    rw [dl_get hn] at g2
    rw [dl_get mN] at g4
    have y1 : [AVal.int .i64 (j : Int), .int .i64 (mm : Int), .int .i64 (c : Int)][1]? = some (.int .i64 (mm : Int)) := rfl
    have y2 : [AVal.int .i64 (j : Int), .int .i64 (mm : Int), .int .i64 (c : Int)][2]? = some (.int .i64 (c : Int)) := rfl
    have dm := hd mm mN
    simp only [g1, g2, addOff_ptr, Nat.zero_add, rd1_mk h2, y1, y2, g3, g4, arith_add, optK_mk, eqV_int, negB_mk, Bool.false_bne]
    rw [wrap64 (by omega) (by omega)]
    have tk : ((edL G U n).take (i + 1)).filter (fun e => decide (d n = d e.2.1 + e.2.2)) = ((edL G U n).take i).filter (fun e => decide (d n = d e.2.1 + e.2.2)) ++ (if d n = d mm + c then [(j, mm, c)] else []) := by
      rw [List.take_add_one, he, List.filter_append]
      congr 1
      by_cases q : d n = d mm + c
      · simp [q]
      · simp [q]
    refine boolK_mk (fun heq => ?_) (fun hne => ?_)
    · have heq : d n = d mm + c := by simpa using heq
      have r3 : rdN t2 3 (.ptr b 0) = some (edR (j, mm, c)) := rdN_all h2 rfl
      simp only [r3, optK_mk]
      refine optK_of (a := edR (j, mm, c)) rfl ⟨rfl, new_step fun b3 t3 hb3 h3 u3 => ?_⟩
      have sub3 := subt.trans (u3.sub hb3)
      have lit : SlR 3 t3 (.slc b3 0 1 (some 1) 3) ([(j, mm, c)].map edR) := SlR.mk (by intro r hr; simp only [List.map_cons, List.map_nil, List.mem_singleton] at hr; subst hr; rfl) (by simpa using h3) rfl (by simp)
      refine (ac.sub sub3).app lit (by simp) ?_ (st.trans sub3) fun v' t4 a4 s4 => ?_
      · have := List.length_filter_le (fun e : Nat × Nat × Nat => decide (d n = d e.2.1 + e.2.2)) ((edL G U n).take i)
        have := List.length_take_le i (edL G U n)
        simp only [List.length_map, List.length_cons, List.length_nil]
        omega
      · simp only [vc_spf_nearer_j1, arith_add, optK_mk]
        rw [wrap64 (by omega) (by omega)]
        refine ⟨_, by omega, i + 1, v', rfl, by omega, rfl, s4, ?_⟩
        rw [tk, if_pos heq, List.map_append]
        exact a4
    · have hne : ¬ d n = d mm + c := by simpa using hne
      simp only [vc_spf_nearer_j1, arith_add, optK_mk]
      rw [wrap64 (by omega) (by omega)]
      refine ⟨_, by omega, i + 1, lv, rfl, by omega, rfl, st2, ?_⟩
      rw [tk, if_neg hne, List.append_nil]
      exact ac.sub subt
  · have hge : i = (edL G U n).length := by have := of_decide_eq_false hge; omega
    subst hge
    rw [List.take_length] at ac
    exact hK _ _ ac st
/-! ### from the lists that are given to those of the plain law -/
def toL (x : RLk) : Lnk := (x.1.toNat, x.2.1.toNat, x.2.2.toNat)
theorem vld.gok {n : Nat} {L : List RLk} (h : vld (n : Int) L U) : GOk n (L.map toL) U ∧ (L.map toL).length ≤ 128 ∧ n ≤ 32 ∧ (∀ x ∈ L.map toL, x.2.2 ≤ 1000) ∧ L.map rwR = (L.map toL).map lkR := by
  obtain ⟨h1, h2, h3, h4, h5⟩ := h
  refine ⟨⟨by rw [List.length_map]; exact h4, fun x hx => ?_⟩, by rw [List.length_map]; exact h3, by omega, fun x hx => ?_, ?_⟩
  · obtain ⟨⟨a, b, c⟩, hy, rfl⟩ := List.mem_map.1 hx
    have := okD (h5 _ hy)
    show a.toNat < n ∧ b.toNat < n ∧ a.toNat ≠ b.toNat ∧ 1 ≤ c.toNat ∧ c.toNat ≤ 65535
    omega
  · obtain ⟨⟨a, b, c⟩, hy, rfl⟩ := List.mem_map.1 hx
    have := okD (h5 _ hy)
    show c.toNat ≤ 1000
    omega
  · rw [List.map_map]
    refine List.map_congr_left fun x hx => ?_
    obtain ⟨a, b, c⟩ := x
    have := okD (h5 _ hx)
    have e1 : ((a.toNat : Nat) : Int) = a := by omega
    have e2 : ((b.toNat : Nat) : Int) = b := by omega
    have e3 : ((c.toNat : Nat) : Int) = c := by omega
    show [AVal.int .i64 a, .int .i64 b, .int .i64 c] = [.int .i64 ((a.toNat : Nat) : Int), .int .i64 ((b.toNat : Nat) : Int), .int .i64 ((c.toNat : Nat) : Int)]
    rw [e1, e2, e3]
theorem Dist_in {n x : Int} {L : List RLk} (hl : SlR 3 s lv (L.map rwR)) (hlm : L.length ≤ 9223372036854775807) (hu : Sl s uv (U.map AVal.bool))
    (hK : ∀ v s', Sub s s' → (¬ (vld n L U ∧ 0 ≤ x ∧ x < n) → v = .nilslc) → (∀ (N r : Nat), vld (N : Int) L U → n = N → r < N → x = r → ∃ d b, IsDist N (L.map toL) U r d ∧ (∀ m, m < N → -1 ≤ d m ∧ d m ≤ 32000) ∧ v = .slc b 0 N (some N) 1 ∧ s b = none ∧ s' b = some (false, .cells 3 (dl N d))) → K v s') : wpCall Try.prog XX 28 [.int .i64 n, lv, uv, .int .i64 x] K s := by
  refine vc_spf_Dist_in ?_
  refine lit1_step rfl rfl fun eb s1 heb h1 u1 => ?_
  have sub1 := u1.sub heb
  refine valid_in (es := [x]) (hl.sub sub1) hlm (hu.sub sub1) (Sl.mk h1 rfl (by simp)) (by simp) fun s2 r sub2 hr => ?_
  simp only [unary_not, optK_mk]
  have s02 := sub1.trans sub2
  cases r with
  | false =>
    have hr : ¬ (vld n L U ∧ ∀ e ∈ [x], 0 ≤ e ∧ e < n) := fun h => by have := hr.2 h; cases this
    have hr' : ¬ (vld n L U ∧ 0 ≤ x ∧ x < n) := fun h => hr ⟨h.1, fun e he => by rw [List.mem_singleton] at he; rw [he]; exact h.2⟩
    exact hK _ _ s02 (fun _ => rfl) fun N r q1 q2 q3 q4 => by
      subst q2 q4
      exact absurd ⟨q1, by omega, by omega⟩ hr'
  | true =>
    obtain ⟨hv, hx⟩ := hr.1 rfl
    have hx := hx x (by simp)
    obtain ⟨N, rfl⟩ : ∃ N : Nat, n = N := ⟨n.toNat, by have := hv.1; omega⟩
    obtain ⟨r, rfl⟩ : ∃ r : Nat, x = r := ⟨x.toNat, by omega⟩
    obtain ⟨z, hG, hN, hC, hm⟩ := hv.gok
    have hrN : r < N := by omega
    show wpCall Try.prog XX 49 _ _ s2
    refine Edges_in z hN hG (by rw [← hm]; exact hl.sub s02) (hu.sub s02) fun av s3 sub3 ha => ?_
    refine Distances_in z hN hG hC ha hrN fun d b s4 hd hdm sub4 hb h4 => ?_
    have hdd : ∀ m, m < N → -1 ≤ d m ∧ d m ≤ 32000 := fun m hm => ⟨hd.lo m hm, hdm m hm⟩
    have hbs : s b = none := by
      cases q : s b with
      | none => rfl
      | some y => rw [sub3 _ _ (s02 _ _ q)] at hb; cases hb
    refine hK _ _ ((s02.trans sub3).trans sub4) (fun h => absurd ⟨hv, by omega, by omega⟩ h) fun N' r' _ e1 _ e2 => ?_
    obtain rfl : N = N' := by omega
    obtain rfl : r = r' := by omega
    exact ⟨d, b, hd, hdd, rfl, hbs, h4⟩
end Go.AM
namespace Go.AM
open Go Go.Proofs
variable {K : AVal → Heap → Prop} {s s' s0 : Heap} {U : List Bool} {L : List RLk} {lnv upv v y dv : AVal} {lf sp sf : Int} {N : Nat} {d : Nat → Int}
theorem Acc.app2 {elem : TypeId} {l m : List AVal} (h : Acc elem s0 s v l) (hs : Sub s0 s) (hy : Sl s y m) (hm : m ≠ []) (hl : l.length + m.length ≤ 16777216) (hK : ∀ v' s', Acc elem s0 s' v' (l ++ m) → Sub s0 s' → K v' s') : appK elem 1 v y K s :=
  h.app hy hm hl (fun i hi => by
    cases q : s0 i with
    | none => exact absurd q hi
    | some x => rw [hs i x q]; simp) fun v' s' a k => hK v' s' a fun i e hi => k i e (hs i e hi) fun b hb q => by
      rcases h with ⟨h, _⟩ | ⟨b', h0, h, _⟩
      · rw [h] at hb; cases hb
      · rw [h] at hb; cases hb; rw [q, h0] at hi; cases hi
theorem Acc.sub {elem : TypeId} {l : List AVal} (h : Acc elem s0 s v l) (k : Sub s s') : Acc elem s0 s' v l := h.imp id fun ⟨b, h0, h1, h2⟩ => ⟨b, h0, h1, k _ _ h2⟩
def iz (l : List Nat) : List AVal := l.map fun (n : Nat) => .int .i64 (n : Int)
theorem iz_len {l : List Nat} : (iz l).length = l.length := by unfold iz; simp
theorem iz_app {l m : List Nat} : iz (l ++ m) = iz l ++ iz m := by unfold iz; simp
end Go.AM
namespace Go.AM
open Go Go.Proofs
variable {K : AVal → Heap → Prop} {s s' s0 : Heap} {lv uv : AVal}
/-! ### the reference: which inputs are valid -/
theorem rvalid09_in {n : Int} {L : List RLk} (hl : SlR 3 s lv (L.map rwR)) (hlm : L.length ≤ 9223372036854775807)
    (hK : ∀ s' (e : Int), Sub s s' → (e = 0 ↔ 1 ≤ n ∧ n ≤ 32 ∧ L.length ≤ 128 ∧ ∀ x ∈ L, okL n x) → K (.int .i64 e) s') : wpCall Try.prog XX 58 [.int .i64 n, lv] K s := by
  refine vc_leafmeshref09_Valid_in ?_
  have no : ∀ {s'} {e : Int}, e ≠ 0 → Sub s s' → ¬ (1 ≤ n ∧ n ≤ 32 ∧ L.length ≤ 128 ∧ ∀ x ∈ L, okL n x) → K (.int .i64 e) s' := fun {s' e} he h q => hK s' e h ⟨fun h => absurd h he, fun h => absurd h q⟩
  simp only [vc_leafmeshref09_Valid, arith_lss, arith_gtr, optK_mk]
  by_cases c1 : n < 1
  · rw [decide_eq_true c1]
    simp only [boolK_true, vc_leafmeshref09_Valid_j0, pickV_true, optK_mk]
    exact no (by decide) (.refl s) fun h => by omega
  rw [decide_eq_false c1]
  simp only [boolK_false]
  by_cases c2 : (32 : Int) < n
  · rw [decide_eq_true c2]
    simp only [boolK_true, vc_leafmeshref09_Valid_j0, pickV_false, optK_mk]
    exact no (by decide) (.refl s) fun h => by omega
  rw [decide_eq_false c2]
  simp only [boolK_false, vc_leafmeshref09_Valid_j0, pickV_false, optK_mk, hl.len, List.length_map, arith_gtr]
  by_cases c3 : (128 : Int) < L.length
  · rw [decide_eq_true c3]
    simp only [boolK_true]
    exact no (by decide) (.refl s) fun h => by omega
  rw [decide_eq_false c3]
  simp only [boolK_false]
  refine ⟨fun ys t m => ∃ i : Nat, ys = [.int .i64 i] ∧ i ≤ L.length ∧ m = L.length - i ∧ Sub s t ∧ ∀ x ∈ L.take i, okL n x, ⟨_, 0, rfl, by omega, rfl, .refl s, by simp⟩, ?_⟩
  rintro f t m ⟨i, hy, hi, rfl, ht, hq⟩
  simp only [List.cons.injEq, and_true] at hy
  rw [hy]
  simp only [vc_leafmeshref09_Valid_l1, (hl.sub ht).len, List.length_map, arith_lss, optK_mk]
  refine boolK_mk (fun hlt => ?_) (fun hge => ?_)
  · have hlt : i < L.length := by have := of_decide_eq_true hlt; omega
    obtain ⟨x, hx⟩ : ∃ x, L[i]? = some x := ⟨_, List.getElem?_eq_getElem hlt⟩
    obtain ⟨a, p, c⟩ := x
    obtain ⟨pb, po, e1, e2, _⟩ := (hl.sub ht).get (i := i) (r := rwR (a, p, c)) (by rw [List.getElem?_map, hx]; rfl)
    simp only [e1, e2, optK_mk]
    refine new_step fun be t1 hbe h7 u7 => wrAgg_step h7 rfl rfl rfl fun t2 h8 u8 => ?_
    have h8 : t2 be = some (false, .cells 27 [.int .i64 a, .int .i64 p, .int .i64 c]) := h8
    have subt : Sub t t2 := sub_upto (u7.sub hbe) u8 hbe
    have st2 := ht.trans subt
    have y0 : [AVal.int .i64 a, .int .i64 p, .int .i64 c][0]? = some (.int .i64 a) := rfl
    have y1 : [AVal.int .i64 a, .int .i64 p, .int .i64 c][1]? = some (.int .i64 p) := rfl
    have y2 : [AVal.int .i64 a, .int .i64 p, .int .i64 c][2]? = some (.int .i64 c) := rfl
    have bad : ¬ okL n (a, p, c) → ¬ (1 ≤ n ∧ n ≤ 32 ∧ L.length ≤ 128 ∧ ∀ x ∈ L, okL n x) := fun h q => h (q.2.2.2 _ (List.mem_of_getElem? hx))
    have stop : ∀ t59 t62, pickV t59 (.bool true) t62 = some (.bool true) → ¬ okL n (a, p, c) → vc_leafmeshref09_Valid_j6 XX (.int .i64 (i : Int)) (.ptr be 0) t59 t62 (fun ys t m => ∃ i : Nat, ys = [.int .i64 i] ∧ i ≤ L.length ∧ m = L.length - i ∧ Sub s t ∧ ∀ x ∈ L.take i, okL n x) (L.length - i) K t2 := fun t59 t62 h q => by
      simp only [vc_leafmeshref09_Valid_j6, h, optK_mk, boolK_true]
      exact no (by decide) st2 (bad q)
    simp only [addOff_ptr, Nat.zero_add, rd1_mk h8, y0, optK_mk, arith_lss, arith_geq]
    by_cases d1 : a < 0
    · rw [decide_eq_true d1]
      simp only [boolK_true, vc_leafmeshref09_Valid_j2, vc_leafmeshref09_Valid_j3, vc_leafmeshref09_Valid_j4, vc_leafmeshref09_Valid_j5, pickV_true, optK_mk]
      exact stop _ _ rfl fun h => by have := okD h; omega
    rw [decide_eq_false d1]
    simp only [boolK_false, vc_leafmeshref09_Valid_j2, pickV_false, optK_mk]
    by_cases d2 : n ≤ a
    · rw [decide_eq_true d2]
      simp only [boolK_true, vc_leafmeshref09_Valid_j3, vc_leafmeshref09_Valid_j4, vc_leafmeshref09_Valid_j5, pickV_true, optK_mk]
      exact stop _ _ rfl fun h => by have := okD h; omega
    rw [decide_eq_false d2]
    simp only [boolK_false, vc_leafmeshref09_Valid_j3, pickV_false, optK_mk, addOff_ptr, Nat.zero_add, rd1_mk h8, y1, arith_lss]
    by_cases d3 : p < 0
    · rw [decide_eq_true d3]
      simp only [boolK_true, vc_leafmeshref09_Valid_j4, vc_leafmeshref09_Valid_j5, pickV_true, optK_mk]
      exact stop _ _ rfl fun h => by have := okD h; omega
    rw [decide_eq_false d3]
    simp only [boolK_false, vc_leafmeshref09_Valid_j4, pickV_false, optK_mk, addOff_ptr, Nat.zero_add, rd1_mk h8, y1, arith_geq]
    by_cases d4 : n ≤ p
    · rw [decide_eq_true d4]
      simp only [boolK_true, vc_leafmeshref09_Valid_j4, vc_leafmeshref09_Valid_j5, pickV_true, optK_mk]
      exact stop _ _ rfl fun h => by have := okD h; omega
    rw [decide_eq_false d4]
    simp only [boolK_false, vc_leafmeshref09_Valid_j4, vc_leafmeshref09_Valid_j5, pickV_false, optK_mk, addOff_ptr, Nat.zero_add, rd1_mk h8, y2, arith_lss]
    by_cases d5 : c < 1
    · rw [decide_eq_true d5]
      simp only [boolK_true, vc_leafmeshref09_Valid_j5, pickV_true, optK_mk]
      exact stop _ _ rfl fun h => by have := okD h; omega
    rw [decide_eq_false d5]
    simp only [boolK_false, vc_leafmeshref09_Valid_j5, pickV_false, optK_mk, addOff_ptr, Nat.zero_add, rd1_mk h8, y2, arith_gtr]
    by_cases d6 : 1000 < c
    · rw [decide_eq_true d6]
      exact stop _ _ rfl fun h => by have := okD h; omega
    rw [decide_eq_false d6]
    simp only [vc_leafmeshref09_Valid_j6, pickV_false, boolK_false, addOff_ptr, Nat.zero_add, rd1_mk h8, y0, y1, eqV_int, negB_mk, Bool.false_bne, optK_mk]
    cases d7 : (a == p) with
    | true =>
      have d7 : a = p := by simpa using d7
      simp only [boolK_true]
      exact no (by decide) st2 (bad fun h => (okD h).2.2.1 d7)
    | false =>
    have d7 : a ≠ p := by simpa using d7
    simp only [boolK_false, arith_add, optK_mk]
    rw [wrap64 (by omega) (by omega)]
    refine ⟨_, by omega, i + 1, rfl, by omega, rfl, st2, fun y hy => ?_⟩
    rw [List.take_add_one, hx] at hy
    rcases List.mem_append.1 hy with q | q
    · exact hq y q
    · have : y = (a, p, c) := by simpa using q
      rw [this]
      exact okI ⟨by omega, by omega, d7, by omega, by omega⟩
  · have hge : i = L.length := by have := of_decide_eq_false hge; omega
    subst hge
    rw [List.take_length] at hq
    exact hK t 0 ht ⟨fun _ => ⟨by omega, by omega, by omega, hq⟩, fun _ => rfl⟩
theorem rvalid_in {n x : Int} {L : List RLk} {U : List Bool} (hl : SlR 3 s lv (L.map rwR)) (hlm : L.length ≤ 9223372036854775807) (hu : Sl s uv (U.map AVal.bool))
    (hK : ∀ s' (r : Bool), Sub s s' → (r = true ↔ vld n L U ∧ 0 ≤ x ∧ x < n) → K (.bool r) s') : wpCall Try.prog XX 37 [.int .i64 n, lv, uv, .int .i64 x] K s := by
  refine vc_leafmeshref10_Valid_in (rvalid09_in hl hlm fun s1 e sub1 he => ?_)
  simp only [eqV_int, negB_mk, Bool.true_bne, Bool.false_bne, optK_mk]
  have no : ¬ (vld n L U ∧ 0 ≤ x ∧ x < n) → K (.bool false) s1 := fun q => hK s1 false sub1 ⟨(fun h => by cases h), fun h => absurd h q⟩
  cases c0 : (e == 0) with
  | false =>
    have c0 : e ≠ 0 := by simpa using c0
    simp only [Bool.not_true, Bool.not_false, boolK_false, vc_leafmeshref10_Valid_j0, vc_leafmeshref10_Valid_j1, vc_leafmeshref10_Valid_j2, pickV_false, optK_mk]
    exact no fun h => c0 (he.2 ⟨h.1.1, h.1.2.1, h.1.2.2.1, h.1.2.2.2.2⟩)
  | true =>
  have c0 : e = 0 := by simpa using c0
  obtain ⟨k1, k2, k3, k4⟩ := he.1 c0
  simp only [Bool.not_true, Bool.not_false, boolK_true, (hl.sub sub1).len, (hu.sub sub1).len, List.length_map, optK_mk]
  cases c1 : ((U.length : Int) == (L.length : Int)) with
  | false =>
    have c1 : ¬ (U.length : Int) = L.length := by simpa using c1
    simp only [Bool.not_true, Bool.not_false, boolK_false, vc_leafmeshref10_Valid_j0, vc_leafmeshref10_Valid_j1, vc_leafmeshref10_Valid_j2, pickV_true, pickV_false, optK_mk]
    exact no fun h => by have := h.1.2.2.2.1; omega
  | true =>
  have c1 : (U.length : Int) = L.length := by simpa using c1
  have hv : vld n L U := ⟨k1, k2, k3, by omega, k4⟩
  simp only [Bool.not_true, Bool.not_false, boolK_true, vc_leafmeshref10_Valid_j0, pickV_true, arith_geq, optK_mk]
  by_cases c2 : 0 ≤ x
  · rw [decide_eq_true c2]
    simp only [boolK_true, vc_leafmeshref10_Valid_j1, vc_leafmeshref10_Valid_j2, pickV_true, arith_lss, optK_mk]
    refine hK s1 _ sub1 ⟨fun h => ⟨hv, c2, of_decide_eq_true h⟩, fun h => decide_eq_true h.2.2⟩
  · rw [decide_eq_false c2]
    simp only [boolK_false, vc_leafmeshref10_Valid_j1, vc_leafmeshref10_Valid_j2, pickV_true, pickV_false, optK_mk]
    exact no fun h => c2 h.2.1
end Go.AM
namespace Go.AM
open Go Go.Proofs
variable {K : AVal → Heap → Prop} {s s' s0 : Heap} {lv uv : AVal} {N : Nat} {G : List Lnk} {U : List Bool} {f : Nat} {d : Nat → Int} {I1 I2 : List AVal → Heap → Nat → Prop} {m1 m2 : Nat}
/-! ### the reference: distances -/
theorem dl_ad {db n : Nat} (hn : n < N) : iaddrS 1 (.slc db 0 N (some N) 1) (.int .i64 (n : Int)) = some (.ptr db n) := by
  have : Nat.blt n N = true := by rw [Nat.blt_eq]; exact hn
  simp [iaddrS, this]
theorem lk39 {bx : Nat} {a b c : Int} (hx : s bx = some (false, .cells 27 [.int .i64 a, .int .i64 b, .int .i64 c])) : rd1 s (.ptr bx 0) = some (.int .i64 a) ∧ rd1 s (.ptr bx 1) = some (.int .i64 b) ∧ rd1 s (.ptr bx 2) = some (.int .i64 c) := by
  refine ⟨?_, ?_, ?_⟩ <;> (rw [rd1_mk hx]; rfl)
theorem RInv.bd' (h : RInv N G U f d) (hN : N ≤ 32) {n : Nat} (hn : n < N) : -1 ≤ d n ∧ d n ≤ 3000000 := by
  have h1 := h.lo n hn
  have h2 := h.bd n hn
  have h3 := cntD_le (N := N) (d := d)
  omega
/-- the second half of a round: from the second end to the first -/
theorem bf2 {bx db i a b c : Nat} {mo iv : AVal} (z : GOk N G U) (hN : N ≤ 32) (inv : RInv N G U f d) (e : Ed G U i a b c) (hx : s bx = some (false, .cells 27 [.int .i64 (a : Int), .int .i64 (b : Int), .int .i64 (c : Int)])) (hd : s db = some (false, .cells 3 (dl N d)))
    (h0 : (0 ≤ d b → 0 ≤ d a ∧ d a ≤ d b + c) → vc_leafmeshref10_Dist_j3 XX mo iv I2 m2 I1 m1 K s)
    (h1 : ∀ s', 0 ≤ d b → (d a < 0 ∨ d b + c < d a) → s' db = some (false, .cells 3 (dl N (updI d a (d b + c)))) → Upto db s s' → vc_leafmeshref10_Dist_j3 XX (.bool true) iv I2 m2 I1 m1 K s') :
    vc_leafmeshref10_Dist_j5 XX (.slc db 0 N (some N) 1) mo iv (.ptr bx 0) I2 m2 I1 m1 K s := by
  obtain ⟨k1, k2, k3, k4, k5⟩ := z.ed e
  obtain ⟨x0, x1, x2⟩ := lk39 hx
  have da := inv.bd' hN k1
  have db' := inv.bd' hN k2
  have ga : (dl N d)[a]? = some (.int .i64 (d a)) := dl_get k1
  have gb : (dl N d)[b]? = some (.int .i64 (d b)) := dl_get k2
  have w : IntKind.i64.wrap (d b + (c : Int)) = d b + c := wrap64 (by omega) (by omega)
  have act : 0 ≤ d b → (d a < 0 ∨ d b + c < d a) → optK (wr1 s (.ptr db a) (.int .i64 (d b + (c : Int)))) (fun s_59 => vc_leafmeshref10_Dist_j3 XX (.bool true) iv I2 m2 I1 m1 K s_59) := fun q1 q2 =>
    wr1_step hd (by rw [dl_len]; exact k1) rfl fun s' g1 g2 => by
      rw [dl_set k1] at g1
      exact h1 s' q1 q2 g1 g2
  simp only [vc_leafmeshref10_Dist_j5, addOff_ptr, Nat.zero_add, x0, x1, dl_ad k1, dl_ad k2, rd1_mk hd, ga, gb, arith_geq, arith_lss, optK_mk]
  by_cases c1 : 0 ≤ d b
  · rw [decide_eq_true c1]
    simp only [boolK_true]
    by_cases c2 : d a < 0
    · rw [decide_eq_true c2]
      simp only [boolK_true, vc_leafmeshref10_Dist_j6, pickV_true, addOff_ptr, Nat.zero_add, x0, x1, x2, dl_ad k1, dl_ad k2, rd1_mk hd, gb, arith_add, w, optK_mk]
      exact act c1 (.inl c2)
    · rw [decide_eq_false c2]
      simp only [boolK_false, x2, arith_add, w, arith_gtr, optK_mk]
      by_cases c3 : d b + c < d a
      · rw [decide_eq_true c3]
        simp only [boolK_true, vc_leafmeshref10_Dist_j6, pickV_true, pickV_false, addOff_ptr, Nat.zero_add, x0, x1, x2, dl_ad k1, dl_ad k2, rd1_mk hd, gb, arith_add, w, optK_mk]
        exact act c1 (.inr c3)
      · rw [decide_eq_false c3]
        simp only [boolK_false, vc_leafmeshref10_Dist_j6, pickV_true, pickV_false, optK_mk]
        exact h0 fun _ => ⟨by omega, by omega⟩
  · rw [decide_eq_false c1]
    simp only [boolK_false, pickV_false, optK_mk]
    exact h0 fun q => absurd q c1
theorem j7_j5 : vc_leafmeshref10_Dist_j7 = vc_leafmeshref10_Dist_j5 := rfl
theorem dl_fill {v : Int} {i : Nat} (h : i < N) : (dl N fun n => if n < i then v else 0).set i (.int .i64 v) = dl N fun n => if n < i + 1 then v else 0 := by
  rw [dl_set h]
  unfold dl
  refine List.map_congr_left fun n hn => ?_
  congr 1
  by_cases e : n = i
  · rw [e, updI_same]; exact (if_pos (by omega)).symm
  · rw [updI_ne e]
    by_cases c : n < i
    · show (if n < i then v else 0) = if n < i + 1 then v else 0
      rw [if_pos c, if_pos (by omega)]
    · show (if n < i then v else 0) = if n < i + 1 then v else 0
      rw [if_neg c, if_neg (by omega)]
theorem zeros_dlf {v : Int} : repl N [AVal.int .i64 0] = dl N fun n => if n < 0 then v else 0 := by
  rw [repl_one]
  unfold dl
  refine List.ext_getElem? fun i => ?_
  by_cases hi : i < N
  · simp [hi]
  · simp [hi]
theorem rDist_in {n x : Int} {L : List RLk} (hl : SlR 3 s lv (L.map rwR)) (hlm : L.length ≤ 9223372036854775807) (hu : Sl s uv (U.map AVal.bool))
    (hK : ∀ v s', Sub s s' → (¬ (vld n L U ∧ 0 ≤ x ∧ x < n) → v = .nilslc) → (∀ (N r : Nat), vld (N : Int) L U → n = N → r < N → x = r → ∃ d b, IsDist N (L.map toL) U r d ∧ (∀ m, m < N → -1 ≤ d m ∧ d m ≤ 3000000) ∧ v = .slc b 0 N (some N) 1 ∧ s b = none ∧ s' b = some (false, .cells 3 (dl N d))) → K v s') : wpCall Try.prog XX 59 [.int .i64 n, lv, uv, .int .i64 x] K s := by
  refine vc_leafmeshref10_Dist_in (rvalid_in hl hlm hu fun s1 r sub1 hr => ?_)
  simp only [unary_not, optK_mk]
  cases r with
  | false =>
    have hr' : ¬ (vld n L U ∧ 0 ≤ x ∧ x < n) := fun h => by have := hr.2 h; cases this
    exact hK _ _ sub1 (fun _ => rfl) fun N r q1 q2 q3 q4 => by
      subst q2 q4
      exact absurd ⟨q1, by omega, by omega⟩ hr'
  | true =>
  obtain ⟨hv, hx0, hxn⟩ := hr.1 rfl
  obtain ⟨N, rfl⟩ : ∃ N : Nat, n = N := ⟨n.toNat, by omega⟩
  obtain ⟨f, rfl⟩ : ∃ f : Nat, x = f := ⟨x.toNat, by omega⟩
  have hf : f < N := by omega
  obtain ⟨z, hG, hN, hC, hrw⟩ := vld.gok hv
  rw [hrw] at hl
  simp only [Bool.not_true, boolK_false, nat?_mk, optK_mk]
  refine ⟨⟨Nat.le_refl _, by omega⟩, new_step fun db s2 hdb h2 u2 => ?_⟩
  have sub2 := sub1.trans (u2.sub hdb)
  have hdb0 : s db = none := by
    cases q : s db with
    | none => rfl
    | some y => rw [sub1 _ _ q] at hdb; cases hdb
  refine ⟨fun ys t m => ∃ i : Nat, ys = [.int .i64 i] ∧ i ≤ N ∧ m = N - i ∧ Sub s t ∧ t db = some (false, .cells 3 (dl N fun n => if n < i then -1 else 0)), ⟨_, 0, rfl, by omega, rfl, sub2, by rw [h2, zeros_dlf]⟩, ?_⟩
  rintro fe t m ⟨i, hy, hi, rfl, st, hd⟩
  simp only [List.cons.injEq, and_true] at hy
  rw [hy]
  simp only [vc_leafmeshref10_Dist_l0, arith_lss, optK_mk]
  refine boolK_mk (fun hlt => ?_) (fun hge => ?_)
  · have hlt : i < N := by have := of_decide_eq_true hlt; omega
    simp only [dl_ad hlt, optK_mk]
    refine wr1_step hd (by rw [dl_len]; exact hlt) rfl fun t3 h3 u3 => ?_
    simp only [arith_add, optK_mk]
    rw [wrap64 (by omega) (by omega)]
    refine ⟨_, by omega, i + 1, rfl, by omega, rfl, sub_upto st u3 hdb0, ?_⟩
    rw [h3, dl_fill hlt]
  have hge : i = N := by have := of_decide_eq_false hge; omega
  subst hge
  simp only [dl_ad hf, optK_mk]
  refine wr1_step hd (by rw [dl_len]; exact hf) rfl fun t1 g1 v1 => ?_
  have st1 := sub_upto st v1 hdb0
  have g1 : t1 db = some (false, .cells 3 (dl i fun n => if n = f then 0 else -1)) := by
    rw [g1, dl_set hf]
    congr 3
    unfold dl
    refine List.map_congr_left fun n hn => ?_
    congr 1
    have hn := List.mem_range.1 hn
    by_cases e : n = f
    · rw [e, updI_same]; exact (if_pos rfl).symm
    · rw [updI_ne e]
      show (if n < i then (-1 : Int) else 0) = if n = f then 0 else -1
      rw [if_pos hn, if_neg e]
  clear hd h2 u2 v1 hdb
  refine ⟨fun ys t m => ∃ (mo : Bool) (d : Nat → Int), ys = [.bool mo] ∧ m = muD i d + (if mo then 1 else 0) ∧ Sub s t ∧ t db = some (false, .cells 3 (dl i d)) ∧ RInv i (L.map toL) U f d ∧ (mo = false → ∀ j a b c, Ed (L.map toL) U j a b c → 0 ≤ d a → 0 ≤ d b ∧ d b ≤ d a + c), ⟨_, true, _, rfl, rfl, st1, g1, RInv.start hf, fun h => by cases h⟩, ?_⟩
  clear st1 g1
  rintro fe t m ⟨mo, d0, hy, rfl, st, hd, inv, clo⟩
  simp only [List.cons.injEq, and_true] at hy
  rw [hy]
  cases mo with
  | false =>
    simp only [vc_leafmeshref10_Dist_l1, boolK_false]
    refine hK _ t st (fun h => absurd ⟨hv, hx0, hxn⟩ h) fun N' r q1 q2 q3 q4 => ?_
    have q2 : i = N' := by omega
    have q4 : f = r := by omega
    subst q2 q4
    exact ⟨d0, db, inv.end_ (clo rfl), fun m hm => inv.bd' hN hm, rfl, hdb0, hd⟩
  | true =>
  clear clo
  simp only [vc_leafmeshref10_Dist_l1, boolK_true]
  refine ⟨fun ys t m => ∃ (mo : Bool) (k : Nat) (d : Nat → Int), ys = [.bool mo, .int .i64 k] ∧ k ≤ (L.map toL).length ∧ m = (L.map toL).length - k ∧ Sub s t ∧ t db = some (false, .cells 3 (dl i d)) ∧ RInv i (L.map toL) U f d ∧ (mo = true → muD i d < muD i d0) ∧ (mo = false → d = d0 ∧ ∀ j a b c, j < k → Ed (L.map toL) U j a b c → 0 ≤ d a → 0 ≤ d b ∧ d b ≤ d a + c), ⟨_, false, 0, d0, rfl, by omega, rfl, st, hd, inv, (fun h => by cases h), fun _ => ⟨rfl, fun j a b c h => by omega⟩⟩, ?_⟩
  clear st hd inv hy
  rintro fe t m ⟨mo, k, d, hy, hk, rfl, st, hd, inv, dec, clo⟩
  simp only [List.cons.injEq, and_true] at hy
  rw [hy.1, hy.2]
  have len := (hl.sub st).len
  rw [List.length_map] at len
  simp only [vc_leafmeshref10_Dist_l2, len, arith_lss, optK_mk]
  refine boolK_mk (fun hlt => ?_) (fun hge => ?_)
  rotate_left
  · have hge : k = (L.map toL).length := by have := of_decide_eq_false hge; omega
    cases mo with
    | true =>
      have := dec rfl
      exact ⟨muD i d + 1, by show muD i d + 1 < muD i d0 + 1; omega, true, d, rfl, rfl, st, hd, inv, fun h => by cases h⟩
    | false =>
      obtain ⟨e0, clo1⟩ := clo rfl
      refine ⟨muD i d, by rw [e0]; show muD i d0 < muD i d0 + 1; omega, false, d, rfl, rfl, st, hd, inv, fun _ j a b c e => clo1 j a b c ?_ e⟩
      rw [hge]
      rcases e.2 with e | e
      · exact (List.getElem?_eq_some_iff.1 e).1
      · exact (List.getElem?_eq_some_iff.1 e).1
  have hlt : k < (L.map toL).length := by have := of_decide_eq_true hlt; omega
  obtain ⟨x, hx⟩ : ∃ x, (L.map toL)[k]? = some x := ⟨_, List.getElem?_eq_getElem hlt⟩
  obtain ⟨a, b, c⟩ := x
  obtain ⟨pb, po, e1, e2, _⟩ := (hl.sub st).get (i := k) (r := lkR (a, b, c)) (by rw [List.getElem?_map, hx]; rfl)
  simp only [e1, e2, optK_mk]
  refine new_step fun be t1 hbe h7 u7 => wrAgg_step h7 rfl rfl rfl fun t2 h8 u8 => ?_
  have h8 : t2 be = some (false, .cells 27 [.int .i64 (a : Int), .int .i64 (b : Int), .int .i64 (c : Int)]) := h8
  have st2 : Sub t t2 := sub_upto (u7.sub hbe) u8 hbe
  have hd2 := st2 _ _ hd
  have stt := st.trans st2
  have hkU : k < U.length := by rw [z.len]; exact hlt
  have bed : be ≠ db := fun q => by rw [q, hd] at hbe; cases hbe
  obtain ⟨pu, a1, a2⟩ := (hu.sub stt).get (i := k) (by rw [List.length_map]; exact hkU)
  have a3 : (U.map AVal.bool)[k]? = some (.bool U[k]) := by simp [hkU]
  rw [a3] at a2
  have st := stt
  clear stt u7 u8 h7 e1 e2
  -- the next round
  have nxt : ∀ (mo' : Bool) (d' : Nat → Int) (t' : Heap), Sub s t' → t' db = some (false, .cells 3 (dl i d')) → RInv i (L.map toL) U f d' → (mo' = true → muD i d' < muD i d0) → (mo' = false → d' = d0 ∧ mo = false ∧ ∀ a b c, Ed (L.map toL) U k a b c → 0 ≤ d' a → 0 ≤ d' b ∧ d' b ≤ d' a + c) →
      vc_leafmeshref10_Dist_j3 XX (.bool mo') (.int .i64 (k : Int)) (fun ys t m => ∃ (mo : Bool) (k : Nat) (d : Nat → Int), ys = [.bool mo, .int .i64 k] ∧ k ≤ (L.map toL).length ∧ m = (L.map toL).length - k ∧ Sub s t ∧ t db = some (false, .cells 3 (dl i d)) ∧ RInv i (L.map toL) U f d ∧ (mo = true → muD i d < muD i d0) ∧ (mo = false → d = d0 ∧ ∀ j a b c, j < k → Ed (L.map toL) U j a b c → 0 ≤ d a → 0 ≤ d b ∧ d b ≤ d a + c)) ((L.map toL).length - k) (fun ys t m => ∃ (mo : Bool) (d : Nat → Int), ys = [.bool mo] ∧ m = muD i d + (if mo then 1 else 0) ∧ Sub s t ∧ t db = some (false, .cells 3 (dl i d)) ∧ RInv i (L.map toL) U f d ∧ (mo = false → ∀ j a b c, Ed (L.map toL) U j a b c → 0 ≤ d a → 0 ≤ d b ∧ d b ≤ d a + c)) (muD i d0 + (if true then 1 else 0)) K t' := by
    intro mo' d' t' w1 w2 w3 w4 w5
    simp only [vc_leafmeshref10_Dist_j3, arith_add, optK_mk]
    rw [wrap64 (by omega) (by omega)]
    refine ⟨_, by omega, mo', k + 1, d', rfl, by omega, rfl, w1, w2, w3, w4, fun h => ?_⟩
    obtain ⟨y1, y2, y3⟩ := w5 h
    refine ⟨y1, fun j a b c hj e => ?_⟩
    by_cases q : j = k
    · rw [q] at e; exact y3 a b c e
    · have := (clo y2).2 j a b c (by omega) e
      rw [y1, ← (clo y2).1]
      exact this
  simp only [a1, a2, unary_not, optK_mk]
  cases hup : U[k] with
  | false =>
    simp only [Bool.not_false, boolK_true]
    refine nxt mo d t2 st hd2 inv dec fun h => ⟨(clo h).1, h, fun a b c e => ?_⟩
    have := e.1
    rw [List.getElem?_eq_getElem hkU, hup] at this
    cases this
  | true =>
  have e : Ed (L.map toL) U k a b c := ⟨by rw [List.getElem?_eq_getElem hkU, hup], .inl hx⟩
  obtain ⟨k1, k2, k3, k4, k5⟩ := z.ed e
  have da := inv.bd' hN k1
  have db' := inv.bd' hN k2
  obtain ⟨x0, x1, x2⟩ := lk39 h8
  have ga : (dl i d)[a]? = some (.int .i64 (d a)) := dl_get k1
  have gb : (dl i d)[b]? = some (.int .i64 (d b)) := dl_get k2
  have w : IntKind.i64.wrap (d a + (c : Int)) = d a + c := wrap64 (by omega) (by omega)
  have hN40 : i ≤ 40 := by omega
  -- every way that the link may be taken
  have both : ∀ {d' : Nat → Int}, (0 ≤ d' a → 0 ≤ d' b ∧ d' b ≤ d' a + c) → (0 ≤ d' b → 0 ≤ d' a ∧ d' a ≤ d' b + c) → ∀ a b c, Ed (L.map toL) U k a b c → 0 ≤ d' a → 0 ≤ d' b ∧ d' b ≤ d' a + c := fun {d'} p1 p2 a' b' c' e' => by
    rcases e'.2 with q | q
    · rw [hx] at q; cases q; exact p1
    · rw [hx] at q; cases q; exact p2
  -- the second half after the first changed nothing
  have stay : (0 ≤ d a → 0 ≤ d b ∧ d b ≤ d a + c) → vc_leafmeshref10_Dist_j5 XX (.slc db 0 i (some i) 1) (.bool mo) (.int .i64 (k : Int)) (.ptr be 0) _ _ _ _ K t2 := fun cl1 => by
    refine bf2 z hN inv e h8 hd2 (fun cl2 => nxt mo d t2 st hd2 inv dec fun h => ⟨(clo h).1, h, both cl1 cl2⟩) fun t3 q1 q2 q3 q4 => ?_
    obtain ⟨r1, r2⟩ := inv.relax z hN40 e.sym q1 q2
    refine nxt true _ t3 (sub_upto st q4 hdb0) q3 r1 (fun _ => ?_) fun h => by cases h
    cases mo with
    | true => have := dec rfl; omega
    | false => have := (clo rfl).1; rw [← this]; omega
  have go : 0 ≤ d a → (d b < 0 ∨ d a + c < d b) → optK (wr1 t2 (.ptr db b) (.int .i64 (d a + (c : Int)))) (fun s_59 => vc_leafmeshref10_Dist_j5 XX (.slc db 0 i (some i) 1) (.bool true) (.int .i64 (k : Int)) (.ptr be 0) _ _ _ _ K s_59) := fun q1 q2 =>
    wr1_step hd2 (by rw [dl_len]; exact k2) rfl fun t3 g1 g2 => by
      rw [dl_set k2] at g1
      obtain ⟨r1, r2⟩ := inv.relax z hN40 e q1 q2
      have lo : muD i (updI d b (d a + c)) < muD i d0 := by
        cases mo with
        | true => have := dec rfl; omega
        | false => have := (clo rfl).1; rw [← this]; omega
      have st3 := sub_upto st g2 hdb0
      refine bf2 z hN r1 e (by rw [g2 be bed]; exact h8) g1 (fun _ => nxt true _ t3 st3 g1 r1 (fun _ => lo) fun h => by cases h) fun t4 p1 p2 p3 p4 => ?_
      obtain ⟨y1, y2⟩ := r1.relax z hN40 e.sym p1 p2
      refine nxt true _ t4 (sub_upto st3 p4 hdb0) p3 y1 (fun _ => by omega) fun h => by cases h
  simp only [Bool.not_true, boolK_false, addOff_ptr, Nat.zero_add, x0, x1, dl_ad k1, dl_ad k2, rd1_mk hd2, ga, gb, arith_geq, arith_lss, optK_mk, j7_j5]
  by_cases c1 : 0 ≤ d a
  · rw [decide_eq_true c1]
    simp only [boolK_true]
    by_cases c2 : d b < 0
    · rw [decide_eq_true c2]
      simp only [boolK_true, vc_leafmeshref10_Dist_j4, pickV_true, addOff_ptr, Nat.zero_add, x0, x1, x2, dl_ad k1, dl_ad k2, rd1_mk hd2, ga, arith_add, w, optK_mk]
      exact go c1 (.inl c2)
    · rw [decide_eq_false c2]
      simp only [boolK_false, x2, arith_add, w, arith_gtr, optK_mk]
      by_cases c3 : d a + c < d b
      · rw [decide_eq_true c3]
        simp only [boolK_true, vc_leafmeshref10_Dist_j4, pickV_true, pickV_false, addOff_ptr, Nat.zero_add, x0, x1, x2, dl_ad k1, dl_ad k2, rd1_mk hd2, ga, arith_add, w, optK_mk]
        exact go c1 (.inr c3)
      · rw [decide_eq_false c3]
        simp only [boolK_false, vc_leafmeshref10_Dist_j4, pickV_true, pickV_false, optK_mk]
        exact stay fun _ => ⟨by omega, by omega⟩
  · rw [decide_eq_false c1]
    simp only [boolK_false, pickV_false, optK_mk]
    exact stay fun q => absurd q c1
end Go.AM
namespace Go.AM
open Go Go.Proofs
variable {K : AVal → Heap → Prop} {s s' s0 : Heap} {lv uv v y : AVal} {N : Nat} {G : List Lnk} {U : List Bool} {d : Nat → Int}
/-! ### the reference: next links, parents, paths -/
def othV : Option Nat → AVal
  | some m => .tup [.int .i64 (m : Int), .bool true]
  | none => .tup [.int .i64 0, .bool false]
theorem rOther_in {a b c n : Nat} (hK : ∀ s', Sub s s' → K (othV (oth (a, b, c) n)) s') : wpCall Try.prog XX 60 [.agg (lkR (a, b, c)), .int .i64 (n : Int)] K s := by
  refine vc_leafmeshref10_Other_in ⟨rfl, new_step fun bx s1 hb h1 u1 => ?_⟩
  obtain ⟨x0, x1, x2⟩ := lk39 h1
  have hK := hK s1 (u1.sub hb)
  simp only [addOff_ptr, Nat.zero_add, x0, x1, eqV_int, negB_mk, Bool.false_bne, optK_mk]
  unfold oth at hK
  cases c1 : ((n : Int) == (a : Int)) with
  | true =>
    have c1 : a = n := by have := eq_of_beq c1; omega
    simp only [boolK_true]
    rw [if_pos c1] at hK
    exact hK
  | false =>
    have c1 : ¬ a = n := by
      have : ¬ (n : Int) = (a : Int) := by simpa using c1
      omega
    simp only [boolK_false]
    rw [if_neg c1] at hK
    cases c2 : ((n : Int) == (b : Int)) with
    | true =>
      have c2 : b = n := by have := eq_of_beq c2; omega
      simp only [boolK_true]
      rw [if_pos c2] at hK
      exact hK
    | false =>
      have c2 : ¬ b = n := by
        have : ¬ (n : Int) = (b : Int) := by simpa using c2
        omega
      simp only [boolK_false]
      rw [if_neg c2] at hK
      exact hK
theorem Acc.weak {elem : TypeId} {s1 : Heap} {l : List AVal} (h : Acc elem s1 s v l) (k : Sub s0 s1) : Acc elem s0 s v l := h.imp id fun ⟨b, h0, h1, h2⟩ => ⟨b, (by
  cases q : s0 b with
  | none => rfl
  | some x => rw [k _ _ q] at h0; cases h0), h1, h2⟩
/-- the links among the first k that begin shortest paths -/
def nrP (G : List Lnk) (U : List Bool) (d : Nat → Int) (n k : Nat) : List Nat := ((edP G U k n).filter fun e => decide (d n = d e.2.1 + e.2.2)).map (·.1)
theorem nrP_succ {n k : Nat} : nrP G U d n (k + 1) = nrP G U d n k ++ (((edF G U n k).toList.filter fun e => decide (d n = d e.2.1 + e.2.2)).map (·.1)) := by
  unfold nrP
  rw [edP_succ, List.filter_append, List.map_append]
theorem nrP_len {n k : Nat} : (nrP G U d n k).length ≤ k := by
  unfold nrP
  rw [List.length_map]
  exact Nat.le_trans (List.length_filter_le _ _) edP_len
def nrL (G : List Lnk) (U : List Bool) (d : Nat → Int) (n : Nat) : List Nat := (nearL G U d n).map (·.1)
theorem nrP_all {n : Nat} : nrP G U d n G.length = nrL G U d n := rfl
theorem rNext_in {L : List RLk} {n t : Nat} (hl : SlR 3 s lv (L.map rwR)) (hu : Sl s uv (U.map AVal.bool)) (hv : vld (N : Int) L U) (hn : n < N) (ht : t < N)
    (hK : ∀ v s' d, IsDist N (L.map toL) U t d → Acc 3 s s' v (iz (nrL (L.map toL) U d n)) → Sub s s' → K v s') : wpCall Try.prog XX 38 [.int .i64 (N : Int), lv, uv, .int .i64 (n : Int), .int .i64 (t : Int)] K s := by
  have hlm : L.length ≤ 9223372036854775807 := by have := hv.2.2.1; omega
  refine vc_leafmeshref10_Next_in (rvalid_in hl hlm hu fun s1 r sub1 hr => ?_)
  simp only [unary_not, optK_mk]
  rw [hr.2 ⟨hv, by omega, by omega⟩]
  simp only [Bool.not_true, boolK_false]
  refine rDist_in (hl.sub sub1) hlm (hu.sub sub1) fun dv s2 sub2 _ hdist => ?_
  obtain ⟨d, db, isd, hbd, rfl, hdb, hd⟩ := hdist N t hv rfl ht rfl
  have s02 := sub1.trans sub2
  obtain ⟨z, hG, hN, hC, hrw⟩ := vld.gok hv
  rw [hrw] at hl
  refine ⟨fun ys x m => ∃ (k : Nat) (lv : AVal), ys = [lv, .int .i64 k] ∧ k ≤ (L.map toL).length ∧ m = (L.map toL).length - k ∧ Sub s2 x ∧ Acc 3 s2 x lv (iz (nrP (L.map toL) U d n k)), ⟨_, 0, .nilslc, rfl, by omega, rfl, .refl s2, .inl ⟨rfl, rfl⟩⟩, ?_⟩
  rintro f x m ⟨k, ov, hy, hk, rfl, st, ac⟩
  simp only [List.cons.injEq, and_true] at hy
  rw [hy.1, hy.2]
  have stt := s02.trans st
  have len := (hl.sub stt).len
  rw [List.length_map] at len
  have len2 : lenOfA (.slc db 0 N (some N) 1) = some N := rfl
  simp only [vc_leafmeshref10_Next_l0, len, len2, arith_lss, arith_gtr, optK_mk]
  refine boolK_mk (fun hlt => ?_) (fun hge => ?_)
  rotate_left
  · have hge' : k = (L.map toL).length := by have := of_decide_eq_false hge; omega
    simp only [vc_leafmeshref10_Next_j1, hge, pickV_false, boolK_false, optK_mk]
    rw [hge', nrP_all] at ac
    exact hK _ x d isd (ac.weak s02) stt
  have hlt' : k < (L.map toL).length := by have := of_decide_eq_true hlt; omega
  obtain ⟨l, hx⟩ : ∃ l, (L.map toL)[k]? = some l := ⟨_, List.getElem?_eq_getElem hlt'⟩
  obtain ⟨a, b, c⟩ := l
  have hkU : k < U.length := by rw [z.len]; exact hlt'
  have row : ∀ {x}, Sub s x → ∃ pb po, iaddrS 3 lv (.int .i64 (k : Int)) = some (.ptr pb po) ∧ rdN x 3 (.ptr pb po) = some (lkR (a, b, c)) ∧ rd1 x (.ptr pb (po + 2)) = some (.int .i64 (c : Int)) := fun {x} hs => by
    obtain ⟨pb, po, e1, e2, e3⟩ := (hl.sub hs).get (i := k) (r := lkR (a, b, c)) (by rw [List.getElem?_map, hx]; rfl)
    exact ⟨pb, po, e1, e2, e3 2 (by omega)⟩
  obtain ⟨pb, po, e1, e2, _⟩ := row stt
  have hpos : decide ((0 : Int) < (N : Int)) = true := decide_eq_true (by omega)
  rw [hpos]
  simp only [vc_leafmeshref10_Next_j1, hlt, pickV_true, boolK_true, e1, e2, optK_mk]
  refine rOther_in fun s5 sub5 => ?_
  have st5 := st.trans sub5
  have st05 := stt.trans sub5
  have ac5 := ac.sub sub5
  clear e1 e2
  obtain ⟨pb, po, e1, _, e3⟩ := row st05
  obtain ⟨pu, a1, a2⟩ := (hu.sub st05).get (i := k) (by rw [List.length_map]; exact hkU)
  have a3 : (U.map AVal.bool)[k]? = some (.bool U[k]) := by simp [hkU]
  rw [a3] at a2
  have hd5 := st5 _ _ hd
  -- the next round
  have nxt : ∀ (ov' : AVal) (s6 : Heap), Sub s2 s6 → Acc 3 s2 s6 ov' (iz (nrP (L.map toL) U d n (k + 1))) → vc_leafmeshref10_Next_j5 XX ov' (.int .i64 (k : Int)) (fun ys x m => ∃ (k : Nat) (lv : AVal), ys = [lv, .int .i64 k] ∧ k ≤ (L.map toL).length ∧ m = (L.map toL).length - k ∧ Sub s2 x ∧ Acc 3 s2 x lv (iz (nrP (L.map toL) U d n k))) ((L.map toL).length - k) K s6 := fun ov' s6 h1 h2 => by
    simp only [vc_leafmeshref10_Next_j5, arith_add, optK_mk]
    rw [wrap64 (by omega) (by omega)]
    exact ⟨_, by omega, k + 1, ov', rfl, by omega, rfl, h1, h2⟩
  have same : (edF (L.map toL) U n k).toList.filter (fun e => decide (d n = d e.2.1 + e.2.2)) = [] → vc_leafmeshref10_Next_j5 XX ov (.int .i64 (k : Int)) _ _ K s5 := fun h => nxt ov s5 st5 (by rw [nrP_succ, h, List.map_nil, List.append_nil]; exact ac5)
  have eF : edF (L.map toL) U n k = if U[k] then (oth (a, b, c) n).map fun m => (k, m, c) else none := by
    unfold edF
    rw [List.getD_eq_getElem?_getD, List.getElem?_eq_getElem hkU, Option.getD_some, hx]
  cases ho : oth (a, b, c) n with
  | none =>
    have x0 : extractA (othV none) 0 = some (.int .i64 0) := rfl
    have x1 : extractA (othV none) 1 = some (.bool false) := rfl
    simp only [x0, x1, optK_mk, boolK_false, vc_leafmeshref10_Next_j2, vc_leafmeshref10_Next_j3, vc_leafmeshref10_Next_j4, pickV_false]
    refine same ?_
    rw [eF, ho]
    cases U[k] <;> rfl
  | some m =>
    have x0 : extractA (othV (some m)) 0 = some (.int .i64 (m : Int)) := rfl
    have x1 : extractA (othV (some m)) 1 = some (.bool true) := rfl
    simp only [x0, x1, optK_mk, boolK_true, a1, a2, vc_leafmeshref10_Next_j2, pickV_true]
    cases hup : U[k] with
    | false =>
      simp only [boolK_false, vc_leafmeshref10_Next_j3, vc_leafmeshref10_Next_j4, pickV_false, optK_mk]
      refine same ?_
      rw [eF, hup]; rfl
    | true =>
    have e : Ed (L.map toL) U k n m c := by
      refine ⟨by rw [List.getElem?_eq_getElem hkU, hup], ?_⟩
      unfold oth at ho
      split at ho
      · rename_i q; cases ho; exact .inl (by rw [hx]; show some (a, b, c) = some (n, b, c); rw [show a = n from q])
      · split at ho
        · rename_i q; cases ho; exact .inr (by rw [hx]; show some (a, b, c) = some (a, n, c); rw [show b = n from q])
        · cases ho
    obtain ⟨k1, k2, k3, k4, k5⟩ := z.ed e
    have eF2 : edF (L.map toL) U n k = some (k, m, c) := by rw [eF, hup, ho]; rfl
    have gn : (dl N d)[n]? = some (.int .i64 (d n)) := dl_get k1
    have gm : (dl N d)[m]? = some (.int .i64 (d m)) := dl_get k2
    have dn := hbd n k1
    have dm := hbd m k2
    have w : IntKind.i64.wrap (d m + (c : Int)) = d m + c := wrap64 (by omega) (by omega)
    simp only [boolK_true, dl_ad k2, rd1_mk hd5, gm, arith_geq, optK_mk, vc_leafmeshref10_Next_j3, pickV_true]
    have hfil : (edF (L.map toL) U n k).toList.filter (fun e => decide (d n = d e.2.1 + e.2.2)) = if d n = d m + c then [(k, m, c)] else [] := by
      rw [eF2]
      by_cases q : d n = d m + c
      · simp [q]
      · simp [q]
    by_cases c1 : 0 ≤ d m
    · rw [decide_eq_true c1]
      simp only [boolK_true, dl_ad k1, dl_ad k2, rd1_mk hd5, gm, gn, e1, addOff_ptr, e3, arith_add, w, eqV_int, negB_mk, Bool.false_bne, optK_mk, vc_leafmeshref10_Next_j4, pickV_true]
      cases c2 : (d m + (c : Int) == d n) with
      | true =>
        have c2 : d n = d m + c := (eq_of_beq c2).symm
        simp only [boolK_true]
        refine lit1_step rfl rfl fun b6 s6 hb6 h6 u6 => ?_
        have sub6 := u6.sub hb6
        refine (ac5.sub sub6).app2 (st5.trans sub6) (Sl.mk h6 rfl (by simp)) (by simp) ?_ fun v' s7 a7 s07 => ?_
        · have := nrP_len (G := L.map toL) (U := U) (d := d) (n := n) (k := k)
          rw [iz_len]; simp only [List.length_singleton]; omega
        · refine nxt v' s7 s07 ?_
          rw [nrP_succ, hfil, if_pos c2, iz_app]
          exact a7
      | false =>
        have c2 : ¬ d n = d m + c := by
          have : ¬ d m + (c : Int) = d n := by simpa using c2
          omega
        simp only [boolK_false]
        exact same (by rw [hfil, if_neg c2])
    · rw [decide_eq_false c1]
      simp only [boolK_false, vc_leafmeshref10_Next_j4, pickV_false, optK_mk]
      refine same ?_
      rw [hfil, if_neg ?_]
      intro q
      have h1 := isd.clo k m n c e.sym
      omega
end Go.AM
namespace Go.AM
open Go Go.Proofs
abbrev izs (l : List Int) : List AVal := l.map (AVal.int .i64)
/-! ### values that are equal to themselves -/
section
variable (P : Program)
def defFs (def_ : TypeId → AVal → Bool) (xs : List AVal) : List Field → Bool
  | [] => true
  | f :: fs => cond (f.name == "_") (defFs def_ xs fs) (match aPart P f.type xs f.offset with
    | some x => def_ f.type x && defFs def_ xs fs
    | none => false)
def aDef : Nat → TypeId → AVal → Bool
  | 0, _, _ => false
  | d + 1, t, x => match P.underlying t, x with
    | some .bool, .bool _ => true
    | some (.int _), .int _ _ => true
    | some (.struct fields), .agg xs => cond (P.stoodInHeld t) false (defFs P (aDef d) xs fields.toList)
    | _, _ => false
theorem defFs_ok {eq : TypeId → AVal → AVal → Option Bool} {df : TypeId → AVal → Bool} (h : ∀ t x, df t x = true → eq t x x = some true) {xs : List AVal} : ∀ {fs : List Field}, defFs P df xs fs = true → eqFields P eq xs xs fs = some true
  | [], _ => rfl
  | f :: fs, q => by
    unfold defFs at q
    unfold eqFields
    cases c : (f.name == "_") with
    | true => rw [c] at q; exact defFs_ok h q
    | false =>
      rw [c] at q
      simp only [cond_false] at q ⊢
      cases e : aPart P f.type xs f.offset with
      | none => rw [e] at q; cases q
      | some x =>
        rw [e] at q
        simp only [Bool.and_eq_true] at q
        simp only [h _ _ q.1]
        exact defFs_ok h q.2
theorem aDef_ok : ∀ (d : Nat) (t : TypeId) (x : AVal), aDef P d t x = true → aEq P d t x x = some true
  | 0, _, _, h => by cases h
  | d + 1, t, x, h => by
    unfold aDef at h
    split at h
    · rename_i b hu
      unfold aEq
      rw [hu]
      simp
    · rename_i k k' n hu
      unfold aEq
      rw [hu]
      have e : intKindEq k' k' = true := by cases k' <;> rfl
      simp only [e, cond_true, eqI_eq]
      simp
    · rename_i fields xs hu
      unfold aEq
      rw [hu]
      simp only
      cases c : P.stoodInHeld t with
      | true => rw [c] at h; cases h
      | false =>
        rw [c] at h
        simp only [cond_false] at h ⊢
        exact defFs_ok P (aDef_ok d) h
    · cases h
end
variable {K : AVal → Heap → Prop} {s s' s0 t : Heap} {U : List Bool} {L : List RLk} {lnv upv v w dv mv : AVal} {lf sp sf g : Int} {N r : Nat} {d ds : Nat → Int} {es : List Int}
theorem lk_self (x : RLk) : eqAgg Try.prog 27 (.agg (rwR x)) (.agg (rwR x)) = some true := by
  obtain ⟨a, b, c⟩ := x
  exact aDef_ok Try.prog 30 27 (.agg [.int .i64 a, .int .i64 b, .int .i64 c]) (by kernel_rfl)
/-! ### lists that are compared with their copies -/
theorem SameL_in {rows : List (List AVal)} (h : SlR 3 s v rows) (h' : SlR 3 s w rows) (hl : rows.length ≤ 1000000) (he : ∀ r ∈ rows, eqAgg Try.prog 27 (.agg r) (.agg r) = some true) (hK : K (.bool true) s) : wpCall Try.prog XX 15 [v, w] K s := by
  refine vc_leafmeshkit_Same_api_Link__in ?_
  simp only [vc_leafmeshkit_Same_api_Link_, h.len, h'.len, eqV_int, negB_mk, Bool.true_bne, beq_self_eq_true, Bool.not_true, boolK_false, optK_mk]
  refine ⟨fun ys t m => ∃ i : Nat, ys = [.int .i64 i] ∧ t = s ∧ i ≤ rows.length ∧ m = rows.length - i, ⟨_, 0, rfl, rfl, by omega, rfl⟩, ?_⟩
  rintro f t m ⟨i, hy, rfl, hi, rfl⟩
  simp only [List.cons.injEq, and_true] at hy
  rw [hy]
  simp only [vc_leafmeshkit_Same_api_Link__l0, h.len, arith_lss, optK_mk]
  refine boolK_mk (fun hlt => ?_) (fun hge => hK)
  have hlt : i < rows.length := by have := of_decide_eq_true hlt; omega
  obtain ⟨b, o, g1, g2, _⟩ := h.get (i := i) (r := rows[i]) (List.getElem?_eq_getElem hlt)
  obtain ⟨b', o', g3, g4, _⟩ := h'.get (i := i) (r := rows[i]) (List.getElem?_eq_getElem hlt)
  simp only [g1, g2, g3, g4, he _ (List.getElem_mem hlt), negB_mk, Bool.true_bne, Bool.not_true, boolK_false, arith_add, optK_mk]
  rw [wrap64 (by omega) (by omega)]
  exact ⟨_, by omega, i + 1, rfl, by trivial, by omega, rfl⟩
theorem SameB_in (h : Sl s v (U.map AVal.bool)) (h' : Sl s w (U.map AVal.bool)) (hl : U.length ≤ 1000000) (hK : K (.bool true) s) : wpCall Try.prog XX 16 [v, w] K s := by
  refine vc_leafmeshkit_Same_bool__in ?_
  simp only [vc_leafmeshkit_Same_bool_, h.len, h'.len, List.length_map, eqV_int, negB_mk, Bool.true_bne, beq_self_eq_true, Bool.not_true, boolK_false, optK_mk]
  refine ⟨fun ys t m => ∃ i : Nat, ys = [.int .i64 i] ∧ t = s ∧ i ≤ U.length ∧ m = U.length - i, ⟨_, 0, rfl, rfl, by omega, rfl⟩, ?_⟩
  rintro f t m ⟨i, hy, rfl, hi, rfl⟩
  simp only [List.cons.injEq, and_true] at hy
  rw [hy]
  simp only [vc_leafmeshkit_Same_bool__l0, h.len, List.length_map, arith_lss, optK_mk]
  refine boolK_mk (fun hlt => ?_) (fun hge => hK)
  have hlt : i < U.length := by have := of_decide_eq_true hlt; omega
  obtain ⟨p, g1, g2⟩ := h.get (i := i) (by rw [List.length_map]; exact hlt)
  obtain ⟨q, g3, g4⟩ := h'.get (i := i) (by rw [List.length_map]; exact hlt)
  have e1 : (U.map AVal.bool)[i]? = some (.bool U[i]) := by simp [hlt]
  rw [e1] at g2 g4
  have e2 : eqV 1 false (.bool U[i]) (.bool U[i]) = some true := by
    show some (U[i] == U[i]) = _
    rw [beq_self_eq_true]
  simp only [g1, g2, g3, g4, e2, negB_mk, Bool.true_bne, Bool.not_true, boolK_false, arith_add, optK_mk]
  rw [wrap64 (by omega) (by omega)]
  exact ⟨_, by omega, i + 1, rfl, by trivial, by omega, rfl⟩
theorem fresh_of (k : Sub s s') {b : Nat} (h : s' b = none) : s b = none := by
  cases q : s b with
  | none => rfl
  | some y => rw [k _ _ q] at h; cases h
theorem OwnB_in {s : Heap} (h : Sl s mv (U.map AVal.bool)) (hl : U.length ≤ 1000000) (hK : ∀ v s', Sub s s' → Sl s' v (U.map AVal.bool) → (∀ b o n c, v = .slc b o n c 1 → U.map AVal.bool ≠ [] → s b = none) → K v s') : wpCall Try.prog XX 11 [mv] K s := by
  refine vc_leafmeshkit_Own_bool__in ?_
  refine optK_of (a := []) rfl ⟨rfl, new_step fun b s1 hb h1 u1 => ?_⟩
  have sub1 := u1.sub hb
  refine app_copy (h.sub sub1) (by rw [List.length_map]; omega) fun v' s' sub2 h0 h2 => ?_
  by_cases q : U.map AVal.bool = []
  · refine hK v' s' (sub1.trans sub2) ?_ fun _ _ _ _ _ h => absurd q h
    rw [h0 q, q]; exact .inr ⟨b, 0, some 0, by simp, by simp, fun h => absurd rfl h⟩
  · obtain ⟨c, h5, rfl, h4⟩ := h2 q
    exact hK _ s' (sub1.trans sub2) (Sl.mk h4 rfl (by simp)) fun b o n c' e _ => by cases e; exact fresh_of sub1 h5
theorem OwnL_in {rows : List (List AVal)} (h : SlR 3 s mv rows) (hl : rows.length ≤ 1000000) (hK : ∀ v s', Sub s s' → SlR 3 s' v rows → (∀ b o n c, v = .slc b o n c 3 → rows ≠ [] → s b = none) → K v s') : wpCall Try.prog XX 10 [mv] K s := by
  refine vc_leafmeshkit_Own_api_Link__in ?_
  refine optK_of (a := []) rfl ⟨rfl, new_step fun b s1 hb h1 u1 => ?_⟩
  have sub1 := u1.sub hb
  exact app_copyR (h.sub sub1) (by omega) fun v' s' sub2 h2 h3 => hK v' s' (sub1.trans sub2) h2 fun b o n c e q => fresh_of sub1 (h3 b o n c e q)
variable {K : AVal → Heap → Prop} {s s' s0 t : Heap} {U : List Bool} {L : List RLk} {lnv upv v w dv mv : AVal} {lf sp sf g : Int} {N r : Nat} {d ds : Nat → Int} {es es' : List Int}
theorem Same_in (h : Sl s v (izs es)) (h' : Sl s w (izs es')) (hl : es.length ≤ 1000000) (hK : ∀ b : Bool, (b = true ↔ es = es') → K (.bool b) s) : wpCall Try.prog XX 24 [v, w] K s := by
  refine vc_leafmeshkit_Same_int__in ?_
  simp only [vc_leafmeshkit_Same_int_, h.len, h'.len, List.length_map, eqV_int, negB_mk, Bool.true_bne, optK_mk]
  refine boolK_mk (fun c => ?_) (fun c => ?_)
  · have c : ¬ (es.length : Int) = es'.length := by simpa using c
    exact hK false ⟨(fun h => by cases h), fun h => by rw [h] at c; exact absurd rfl c⟩
  have c : es.length = es'.length := by
    have c : (es.length : Int) = es'.length := by simpa using c
    omega
  refine ⟨fun ys t m => ∃ i : Nat, ys = [.int .i64 i] ∧ t = s ∧ i ≤ es.length ∧ m = es.length - i ∧ es.take i = es'.take i, ⟨_, 0, rfl, rfl, by omega, rfl, by simp⟩, ?_⟩
  rintro f t m ⟨i, hy, rfl, hi, rfl, hq⟩
  simp only [List.cons.injEq, and_true] at hy
  rw [hy]
  simp only [vc_leafmeshkit_Same_int__l0, h.len, List.length_map, arith_lss, optK_mk]
  refine boolK_mk (fun hlt => ?_) (fun hge => ?_)
  · have hlt : i < es.length := by have := of_decide_eq_true hlt; omega
    have hlt' : i < es'.length := by omega
    obtain ⟨p, g1, g2⟩ := h.get (i := i) (by rw [List.length_map]; exact hlt)
    obtain ⟨q, g3, g4⟩ := h'.get (i := i) (by rw [List.length_map]; exact hlt')
    have e1 : (izs es)[i]? = some (.int .i64 es[i]) := by simp [hlt]
    have e2 : (izs es')[i]? = some (.int .i64 es'[i]) := by simp [hlt']
    rw [e1] at g2
    rw [e2] at g4
    simp only [g1, g2, g3, g4, eqV_int, negB_mk, Bool.true_bne, optK_mk]
    refine boolK_mk (fun c => ?_) (fun c => ?_)
    · have c : ¬ es[i] = es'[i] := by simpa using c
      exact hK false ⟨(fun h => by cases h), fun h => by subst h; exact absurd rfl c⟩
    · have c : es[i] = es'[i] := by simpa using c
      simp only [arith_add, optK_mk]
      rw [wrap64 (by omega) (by omega)]
      refine ⟨_, by omega, i + 1, rfl, by trivial, by omega, rfl, ?_⟩
      rw [List.take_add_one, List.take_add_one, hq, List.getElem?_eq_getElem hlt, List.getElem?_eq_getElem hlt', c]
  · have hge : i = es.length := by have := of_decide_eq_false hge; omega
    subst hge
    rw [List.take_length, c, List.take_length] at hq
    exact hK true ⟨fun _ => hq, fun _ => rfl⟩
end Go.AM
namespace Go.AM
open Go Go.Proofs
variable {K : AVal → Heap → Prop} {s s' s0 : Heap} {lv uv v y : AVal} {N : Nat} {G : List Lnk} {U : List Bool} {d : Nat → Int}
/-! ### spf.Next -/
theorem AccR.weak {elem : TypeId} {es : Nat} {s1 : Heap} {rows : List (List AVal)} (h : AccR elem es s1 s v rows) (k : Sub s0 s1) : AccR elem es s0 s v rows := ⟨h.1, h.2.imp id fun ⟨b, h0, h1, h2⟩ => ⟨b, fresh_of k h0, h1, h2⟩⟩
theorem sNext_in {L : List RLk} {n t : Nat} (hl : SlR 3 s lv (L.map rwR)) (hu : Sl s uv (U.map AVal.bool)) (hv : vld (N : Int) L U) (hn : n < N) (ht : t < N)
    (hK : ∀ v s' d, IsDist N (L.map toL) U t d → Acc 3 s s' v (iz (nrL (L.map toL) U d n)) → Sub s s' → K v s') : wpCall Try.prog XX 30 [.int .i64 (N : Int), lv, uv, .int .i64 (n : Int), .int .i64 (t : Int)] K s := by
  have hlm : L.length ≤ 9223372036854775807 := by have := hv.2.2.1; omega
  obtain ⟨z, hG, hN, hC, hrw⟩ := vld.gok hv
  refine vc_spf_Next_in ?_
  refine optK_of (a := [.int .i64 (n : Int), .int .i64 (t : Int)]) rfl ⟨rfl, new_step fun eb s1 heb h1 u1 => ?_⟩
  have sub1 := u1.sub heb
  refine valid_in (es := [(n : Int), (t : Int)]) (hl.sub sub1) hlm (hu.sub sub1) (Sl.mk h1 rfl (by simp)) (by simp) fun s2 r sub2 hr => ?_
  have hr1 : r = true := hr.2 ⟨hv, fun e he => by
    simp only [List.mem_cons, List.not_mem_nil, or_false] at he
    rcases he with rfl | rfl <;> omega⟩
  rw [hr1]
  have s02 := sub1.trans sub2
  rw [hrw] at hl
  simp only [unary_not, Bool.not_true, boolK_false, optK_mk]
  refine Edges_in z hN hG (hl.sub s02) (hu.sub s02) fun ev s3 sub3 he => ?_
  have s03 := s02.trans sub3
  obtain ⟨p, w, g1, g2, g3⟩ := he.at hn
  simp only [g1, g2, optK_mk]
  have hef : AdjR (frz s3) ev N (edL (L.map toL) U) := by
    obtain ⟨vs, h1, h2⟩ := he
    exact ⟨vs, h1.frz, fun n hn => (h2 n hn).frz⟩
  refine Distances_in z hN hG hC hef ht fun d b s4 isd hbd sub4 hb0 hb4 _ => ?_
  have hb0 := frz_none.1 hb0
  have hb5 : add s3 s4 b = some (false, .cells 3 (dl N d)) := by rw [add_none hb0]; exact hb4
  have sub5 : Sub s3 (add s3 s4) := sub_add
  generalize add s3 s4 = s5 at hb5 sub5
  have s05 := s03.trans sub5
  refine Nearer_in z hn hG hC (fun m hm => ⟨isd.lo m hm, hbd m hm⟩) (g3.sub sub5) (Sl.mk hb5 dl_len.symm (by simp [dl_len])) fun nv s6 ac6 sub6 => ?_
  have s06 := s05.trans sub6
  have hnl : (nearL (L.map toL) U d n).length ≤ 128 := by
    refine Nat.le_trans (List.length_filter_le _ _) (Nat.le_trans ?_ hG)
    exact edL_len
  simp only [ac6.sl.len, List.length_map, optK_mk]
  refine ⟨fun ys x m => ∃ (k : Nat) (ov : AVal), ys = [ov, .int .i64 k] ∧ k ≤ (nearL (L.map toL) U d n).length ∧ m = (nearL (L.map toL) U d n).length - k ∧ Sub s6 x ∧ Acc 3 s6 x ov (iz ((nrL (L.map toL) U d n).take k)), ⟨_, 0, .nilslc, rfl, by omega, rfl, .refl s6, .inl ⟨rfl, rfl⟩⟩, ?_⟩
  rintro f x m ⟨k, ov, hy, hk, rfl, st, ac⟩
  simp only [List.cons.injEq, and_true] at hy
  rw [hy.1, hy.2]
  simp only [vc_spf_Next_l0, arith_lss, optK_mk]
  refine boolK_mk (fun hlt => ?_) (fun hge => ?_)
  rotate_left
  · have hge : k = (nearL (L.map toL) U d n).length := by have := of_decide_eq_false hge; omega
    have e : (nrL (L.map toL) U d n).take k = nrL (L.map toL) U d n := by
      rw [hge]
      exact List.take_of_length_le (by unfold nrL; rw [List.length_map]; exact Nat.le_refl _)
    rw [e] at ac
    exact hK _ x d isd (ac.weak s06) (s06.trans st)
  have hlt : k < (nearL (L.map toL) U d n).length := by have := of_decide_eq_true hlt; omega
  obtain ⟨e, he⟩ : ∃ e, (nearL (L.map toL) U d n)[k]? = some e := ⟨_, List.getElem?_eq_getElem hlt⟩
  obtain ⟨pb, po, e1, e2, _⟩ := (ac6.sl.sub st).get (i := k) (r := edR e) (by rw [List.getElem?_map, he]; rfl)
  simp only [e1, e2, optK_mk]
  refine new_step fun be x1 hbe h7 u7 => wrAgg_step h7 rfl rfl rfl fun x2 h8 u8 => ?_
  have h8 : x2 be = some (false, .cells 106 (edR e)) := h8
  have st2 : Sub x x2 := sub_upto (u7.sub hbe) u8 hbe
  have r0 : rd1 x2 (.ptr be 0) = some (.int .i64 (e.1 : Int)) := by rw [rd1_mk h8]; rfl
  simp only [addOff_ptr, Nat.zero_add, r0, optK_mk]
  refine lit1_step rfl rfl fun b6 x3 hb6 h6 u6 => ?_
  have st3 := st2.trans (u6.sub hb6)
  refine (ac.sub st3).app2 (st.trans st3) (Sl.mk h6 rfl (by simp)) (by simp) ?_ fun v' x4 a4 s04 => ?_
  · rw [iz_len, List.length_take]; simp only [List.length_singleton]; omega
  · simp only [arith_add, optK_mk]
    rw [wrap64 (by omega) (by omega)]
    refine ⟨_, by omega, k + 1, v', rfl, by omega, rfl, s04, ?_⟩
    have : (nrL (L.map toL) U d n)[k]? = some e.1 := by unfold nrL; rw [List.getElem?_map, he]; rfl
    rw [List.take_add_one, this, iz_app]
    exact a4
end Go.AM
namespace Go.AM
open Go Go.Proofs
variable {K : AVal → Heap → Prop} {s s' s0 t : Heap} {lv uv v y w : AVal} {N : Nat} {G : List Lnk} {U : List Bool} {d : Nat → Int}
/-! ### forwarding entries -/
def lbk (n : Nat) : Int := 184483841 + n
theorem lbk_add {n : Nat} (hn : n < 32) : convI .u32 (.int .i64 (n : Int)) = some (.int .u32 (n : Int)) ∧ arithV .add (.int .u32 184483840) (.int .u32 (n : Int)) = some (.int .u32 (184483840 + n)) ∧ arithV .add (.int .u32 (184483840 + n)) (.int .u32 1) = some (.int .u32 (lbk n)) := by
  have w : ∀ x : Int, 0 ≤ x → x < 4294967296 → IntKind.u32.wrap x = x := fun x h1 h2 => by
    unfold IntKind.wrap
    simp [IntKind.bits, IntKind.signed]
    omega
  refine ⟨?_, ?_, ?_⟩
  · show some (AVal.int .u32 (wrapK .u32 (n : Int))) = _
    rw [show wrapK .u32 (n : Int) = n by simp only [wrapK]; rw [wrapM_eq _ _ _ (by omega) (by omega)]; split <;> omega]
  · rw [arith_add, w _ (by omega) (by omega)]
  · rw [arith_add, w _ (by omega) (by omega)]
    unfold lbk
    congr 2
    omega
theorem aLoop_in {n : Nat} (hn : n < 32) (hK : K (.tup [.int .u32 (lbk n), .int .i64 0]) s) : wpCall Try.prog XX 36 [.int .i64 (n : Int)] K s := by
  obtain ⟨a1, a2, a3⟩ := lbk_add hn
  have c1 : decide ((n : Int) < 0) = false := decide_eq_false (by omega)
  have c2 : decide ((32 : Int) ≤ (n : Int)) = false := decide_eq_false (by omega)
  refine vc_addr_Loopback_in ?_
  simp only [vc_addr_Loopback, arith_lss, arith_geq, c1, c2, boolK_false, optK_mk, vc_addr_Loopback_j0, pickV_false, a1, a2, a3]
  exact hK
theorem rLoop_in {n : Nat} (hn : n < 32) (hK : K (.int .u32 (lbk n)) s) : wpCall Try.prog XX 39 [.int .i64 (n : Int)] K s := by
  obtain ⟨a1, a2, a3⟩ := lbk_add hn
  have c1 : decide ((n : Int) < 0) = false := decide_eq_false (by omega)
  have c2 : decide ((32 : Int) ≤ (n : Int)) = false := decide_eq_false (by omega)
  refine vc_leafmeshref14_loopback_in (vc_leafmeshref01_Loopback_in ?_)
  have x0 : extractA (.tup [.int .u32 (lbk n), .int .i64 0]) 0 = some (.int .u32 (lbk n)) := rfl
  have x1 : extractA (.tup [.int .u32 (lbk n), .int .i64 0]) 1 = some (.int .i64 0) := rfl
  simp only [vc_leafmeshref01_Loopback, arith_lss, arith_geq, c1, c2, boolK_false, optK_mk, vc_leafmeshref01_Loopback_j0, pickV_false, a1, a2, a3, x0, x1]
  exact hK
/-- entries: destination, list of links in memory, what it has -/
abbrev EnV := Int × AVal × List Nat
def enR (x : EnV) : List AVal := [.int .u32 x.1, x.2.1]
structure Ens (s0 s : Heap) (v : AVal) (R : List EnV) : Prop where
  sub : Sub s0 s
  ex : ∃ sb, Sub s0 sb ∧ Sub sb s ∧ AccR 86 2 sb s v (R.map enR) ∧ ∀ x ∈ R, Sl sb x.2.1 (iz x.2.2)
theorem Ens.more {R : List EnV} (h : Ens s0 s v R) (k : Sub s s') : Ens s0 s' v R := by
  obtain ⟨a, sb, b, c, e, f⟩ := h
  exact ⟨a.trans k, sb, b, c.trans k, e.sub k, f⟩
theorem Ens.nil : Ens s s .nilslc [] := ⟨.refl s, s, .refl s, .refl s, ⟨(fun r h => by cases h), .inl ⟨rfl, rfl⟩⟩, fun x h => by cases h⟩
/-- all but the block of the list itself -/
def offV (v : AVal) (t : Heap) : Heap := match v with
  | .slc b _ _ _ _ => hdel t b
  | _ => t
theorem offV_sub {v : AVal} : Sub (offV v t) t := fun i x hi => by
  unfold offV at hi
  split at hi
  · rename_i b _ _ _ _
    have hi : (if i = b then none else t i) = some x := hi
    split at hi
    · cases hi
    · exact hi
  · exact hi
theorem offV_at {v : AVal} {i : Nat} (h : ∀ b o n c e, v = .slc b o n c e → i ≠ b) : offV v t i = t i := by
  unfold offV
  split
  · exact if_neg (h _ _ _ _ _ rfl)
  · rfl
theorem Ens.put {R : List EnV} {n : Int} {w y : AVal} {l : List Nat} {t : Heap} (h : Ens s0 s v R) (k : Sub s t) (hw : Acc 3 s t w (iz l)) (hy : SlR 2 t y [enR (n, w, l)]) (hl : R.length ≤ 1000) (hK : ∀ v' s', Ens s0 s' v' (R ++ [(n, w, l)]) → K v' s') : appK 86 2 v y K t := by
  obtain ⟨h0, sb, b, c, ac, hR⟩ := h
  have own : ∀ i b o n c e, v = .slc b o n c e → sb i ≠ none → i ≠ b := fun i b o n c e q q2 q3 => by
    rcases ac.2 with ⟨r, _⟩ | ⟨j, r1, r2, r3⟩
    · rw [r] at q; cases q
    · rw [r2] at q; cases q; rw [q3] at q2; exact q2 r1
  have k1 : Sub sb (offV v t) := fun i x hi => by
    rw [offV_at fun b o n c e q => own i b o n c e q (by rw [hi]; simp)]
    exact k _ _ (c _ _ hi)
  have ac2 : AccR 86 2 (offV v t) t v (R.map enR) := by
    refine ⟨ac.1, ac.2.imp id fun ⟨i, q1, q2, q3⟩ => ⟨i, ?_, q2, k _ _ q3⟩⟩
    rw [q2]
    exact if_pos rfl
  have hwc : Sl (offV v t) w (iz l) := by
    rcases hw with ⟨q1, q2⟩ | ⟨i, q1, q2, q3⟩
    · exact .inl ⟨q1, q2⟩
    · have : offV v t i = some (false, .cells 3 (iz l)) := by
        rw [offV_at fun b o n c e q q4 => ?_]
        · exact q3
        · rcases ac.2 with ⟨r, _⟩ | ⟨j, r1, r2, r3⟩
          · rw [r] at q; cases q
          · rw [r2] at q; cases q; rw [q4, r3] at q1; cases q1
      rw [q2]
      exact Sl.mk this rfl (by simp)
  refine ac2.app hy (by simp) (by rw [List.length_map]; simp only [List.length_singleton]; omega) offV_sub fun v' s' a' k' => ?_
  refine hK v' s' ⟨b.trans (k1.trans k'), offV v t, b.trans k1, k', ?_, fun x hx => ?_⟩
  · rw [List.map_append]; exact a'
  · rcases List.mem_append.1 hx with q | q
    · exact (hR x q).sub k1
    · rw [List.mem_singleton] at q; rw [q]; exact hwc
theorem fill_en {n : Int} {w : AVal} {l : List Nat} (hw : w.one = true) {R : List AVal → Prop} (h : R (enR (n, w, l))) : optK (fillR [(.int .u32 0), .nilslc] [(0, 1, .int .u32 n), (1, 1, w)]) R := by
  refine optK_of (a := enR (n, w, l)) ?_ h
  show cond (Nat.beq w.cells.length 1 && Nat.ble (1 + w.cells.length) 2) (fillR (setRange [.int .u32 n, .nilslc] 1 w.cells) []) none = _
  rw [one_cells hw]
  rfl
theorem fill_one {zs c : List AVal} (h : c.length = zs.length) : fillR (repl 1 zs) [(0, zs.length, .agg c)] = some c := by
  have e0 : repl 1 zs = zs := by simp [repl]
  rw [e0]
  have e2 : Nat.beq c.length zs.length = true := by rw [h]; exact Nat.beq_refl _
  have e3 : Nat.ble (0 + c.length) zs.length = true := Nat.ble_eq_true_of_le (by omega)
  simp only [fillR, cells_agg, e2, e3, Bool.and_self, cond_true]
  unfold setRange
  rw [List.take_zero, List.nil_append, List.drop_eq_nil_of_le (by omega), List.append_nil]
/-- one entry is laid and appended -/
theorem put_in {R : List EnV} {n : Int} {w : AVal} {l : List Nat} {t : Heap} (h : Ens s0 s v R) (k : Sub s t) (hw : Acc 3 s t w (iz l)) (hl : R.length ≤ 1000) (hK : ∀ v' s', Ens s0 s' v' (R ++ [(n, w, l)]) → K v' s') :
    optK (fillR [(.int .u32 0), .nilslc] [(0, 1, .int .u32 n), (1, 1, w)]) fun c_17 =>
      optK (fillR (repl 1 [(.int .u32 0), .nilslc]) [(0, 2, (.agg c_17))]) fun c_18 => allOne c_18 = true ∧ newK 86 c_18 (fun b_19 s_20 =>
      appK 86 2 v (.slc b_19 0 1 (some 1) 2) (fun v_21 s_22 => K v_21 s_22) s_20) t := by
  refine fill_en (l := l) hw.sl.one (optK_of (fill_one (zs := [(.int .u32 0), .nilslc]) (c := enR (n, w, l)) rfl) ⟨?_, new_step fun b s1 hb h1 u1 => ?_⟩)
  · show ((AVal.int .u32 n).one && (w.one && true)) = true
    rw [hw.sl.one]; rfl
  · refine h.put (k.trans (u1.sub hb)) (hw.sub (u1.sub hb)) (SlR.mk (rows := [enR (n, w, l)]) (by intro r hr; rw [List.mem_singleton] at hr; subst hr; rfl) (by simpa using h1) rfl (by simp)) hl hK
end Go.AM
namespace Go.AM
open Go Go.Proofs
variable {K : AVal → Heap → Prop} {s s' s0 t : Heap} {lv uv v y w : AVal} {N : Nat} {G : List Lnk} {U : List Bool} {d : Nat → Int} {L : List RLk}
/-! ### which entries a node has: plain law -/
noncomputable def ofE (N : Nat) (G : List Lnk) (U : List Bool) (x n : Nat) : Option (Int × List Nat) := if nrL G U (dF N G U n) x = [] then none else some (lbk n, nrL G U (dF N G U n) x)
noncomputable def ofP (N : Nat) (G : List Lnk) (U : List Bool) (x k : Nat) : List (Int × List Nat) := (List.range k).filterMap (ofE N G U x)
theorem ofP_succ {x k : Nat} : ofP N G U x (k + 1) = ofP N G U x k ++ (ofE N G U x k).toList := by
  unfold ofP
  rw [List.range_succ, List.filterMap_append]
  congr 1
theorem ofP_len {x k : Nat} : (ofP N G U x k).length ≤ k := by
  have := List.length_filterMap_le (ofE N G U x) (List.range k)
  rw [List.length_range] at this
  exact this
theorem nrL_dF (z : GOk N G U) {n x : Nat} (h : IsDist N G U n d) : nrL G U d x = nrL G U (dF N G U n) x := by
  unfold nrL
  rw [nearL_congr z fun m hm => dF_eq z h hm]
theorem nrL_nil {x : Nat} : nrL G U d x = [] ↔ parL G U d x = -1 := by
  unfold nrL
  rw [List.map_eq_nil_iff]
  rcases parL_cases G U d x with ⟨h1, h2⟩ | ⟨i, m, c, h1, _, l, h2⟩
  · exact ⟨fun _ => h1, fun _ => h2⟩
  · constructor
    · intro h
      rw [h2] at h
      cases h
    · intro h
      rw [h1] at h
      omega
/-- the program leaves out the node itself and those that it doesn't reach; the reference those with no next link: the same -/
theorem of_same (z : GOk N G U) (hN : N ≤ 40) {x n : Nat} (hx : x < N) (hn : n < N) (h : IsDist N G U x d) : nrL G U (dF N G U n) x = [] ↔ n = x ∨ d n < 0 := by
  have isn := dF_all z hN hn
  have sym : 0 ≤ dF N G U n x ↔ 0 ≤ d n := by
    rw [dist_con z isn hx, dist_con z h hn]
    exact ⟨Con.symm, Con.symm⟩
  rw [nrL_nil]
  constructor
  · intro hp
    by_cases e : n = x
    · exact .inl e
    · refine .inr ?_
      by_cases q : 0 ≤ d n
      · obtain ⟨i, hi⟩ := par_none z isn hx (sym.2 q) (Ne.symm e)
        rw [hp] at hi
        omega
      · omega
  · rintro (e | e)
    · rw [e]
      rw [e] at isn
      exact par_root z isn
    · exact par_neg z isn (by
        by_cases q : 0 ≤ dF N G U n x
        · have := sym.1 q; omega
        · omega)
open Classical in
noncomputable def ofEn (n : Int) (L : List RLk) (U : List Bool) (x : Int) : List (Int × List Nat) := if vld n L U ∧ 0 ≤ x ∧ x < n then ofP n.toNat (L.map toL) U x.toNat n.toNat else []
def kyE (x : EnV) : Int × List Nat := (x.1, x.2.2)
theorem sOf_in {n x : Int} (hl : SlR 3 s lv (L.map rwR)) (hlm : L.length ≤ 9223372036854775807) (hu : Sl s uv (U.map AVal.bool)) (hK : ∀ v s' R, Ens s s' v R → R.map kyE = ofEn n L U x → K v s') : wpCall Try.prog XX 13 [.int .i64 n, lv, uv, .int .i64 x] K s := by
  refine vc_fib_Of_in (Dist_in hl hlm hu fun dv s1 sub1 hno hyes => ?_)
  by_cases q : vld n L U ∧ 0 ≤ x ∧ x < n
  rotate_left
  · rw [hno q]
    have e : lenOfA .nilslc = some 0 := rfl
    simp only [e, optK_mk]
    refine ⟨fun ys t m => ys = [.nilslc, .int .i64 0] ∧ Sub s t, ⟨0, rfl, sub1⟩, ?_⟩
    rintro f t m ⟨hy, st⟩
    simp only [List.cons.injEq, and_true] at hy
    rw [hy.1, hy.2]
    simp only [vc_fib_Of_l0, arith_lss, optK_mk]
    have c : decide ((0 : Int) < ((0 : Nat) : Int)) = false := by decide
    rw [c]
    simp only [boolK_false]
    refine hK .nilslc t [] (Ens.nil.more st) ?_
    unfold ofEn
    rw [if_neg q]; rfl
  obtain ⟨hv, hx0, hxn⟩ := q
  obtain ⟨N, rfl⟩ : ∃ N : Nat, n = N := ⟨n.toNat, by omega⟩
  obtain ⟨x, rfl⟩ : ∃ y : Nat, x = y := ⟨x.toNat, by omega⟩
  have hx : x < N := by omega
  obtain ⟨d, db, isd, hbd, rfl, hdb, hd⟩ := hyes N x hv rfl hx rfl
  obtain ⟨z, hG, hN, hC, hrw⟩ := vld.gok hv
  have e : lenOfA (.slc db 0 N (some N) 1) = some N := rfl
  simp only [e, optK_mk]
  have eV : ofEn (N : Int) L U (x : Int) = ofP N (L.map toL) U x N := by
    unfold ofEn
    rw [if_pos ⟨hv, by omega, by omega⟩, Int.toNat_natCast, Int.toNat_natCast]
  refine ⟨fun ys t m => ∃ (k : Nat) (ov : AVal) (R : List EnV), ys = [ov, .int .i64 k] ∧ k ≤ N ∧ m = N - k ∧ Ens s1 t ov R ∧ R.map kyE = ofP N (L.map toL) U x k, ⟨_, 0, .nilslc, [], rfl, by omega, rfl, Ens.nil, rfl⟩, ?_⟩
  rintro f t m ⟨k, ov, R, hy, hk, rfl, en, hR⟩
  simp only [List.cons.injEq, and_true] at hy
  rw [hy.1, hy.2]
  have st := sub1.trans en.sub
  simp only [vc_fib_Of_l0, arith_lss, optK_mk]
  refine boolK_mk (fun hlt => ?_) (fun hge => ?_)
  rotate_left
  · have hge : k = N := by have := of_decide_eq_false hge; omega
    subst hge
    refine hK ov t R ⟨st, ?_⟩ (hR.trans eV.symm)
    obtain ⟨sb, b, c, e, f⟩ := en.ex
    exact ⟨sb, sub1.trans b, c, e, f⟩
  have hlt : k < N := by have := of_decide_eq_true hlt; omega
  have hdt := en.sub _ _ hd
  have hRl : R.length ≤ 1000 := by
    have h1 := ofP_len (N := N) (G := L.map toL) (U := U) (x := x) (k := k)
    rw [← hR, List.length_map] at h1
    omega
  have ad : iaddrS 1 (.slc db 0 N (some N) 1) (.int .i64 (k : Int)) = some (.ptr db k) := dl_ad hlt
  have nx : ∀ (ov' : AVal) (R' : List EnV) (t' : Heap), Ens s1 t' ov' R' → R'.map kyE = ofP N (L.map toL) U x (k + 1) → vc_fib_Of_j1 XX ov' (.int .i64 (k : Int)) (fun ys t m => ∃ (k : Nat) (ov : AVal) (R : List EnV), ys = [ov, .int .i64 k] ∧ k ≤ N ∧ m = N - k ∧ Ens s1 t ov R ∧ R.map kyE = ofP N (L.map toL) U x k) (N - k) K t' := fun ov' R' t' h1 h2 => by
    simp only [vc_fib_Of_j1, arith_add, optK_mk]
    rw [wrap64 (by omega) (by omega)]
    exact ⟨_, by omega, k + 1, ov', R', rfl, by omega, rfl, h1, h2⟩
  have os := of_same z (by omega) hx hlt isd
  have skip : nrL (L.map toL) U (dF N (L.map toL) U k) x = [] → ofP N (L.map toL) U x (k + 1) = ofP N (L.map toL) U x k := fun h => by
    rw [ofP_succ]
    unfold ofE
    rw [if_pos h]
    simp
  simp only [ad, rd1_mk hdt, dl_get hlt, eqV_int, negB_mk, Bool.false_bne, optK_mk]
  cases c1 : ((k : Int) == (x : Int)) with
  | true =>
    have c1 : k = x := by have := eq_of_beq c1; omega
    simp only [boolK_true, vc_fib_Of_j2, pickV_true, optK_mk]
    exact nx ov R t en (hR.trans (skip (os.2 (.inl c1))).symm)
  | false =>
  have c1 : ¬ k = x := by
    have : ¬ (k : Int) = (x : Int) := by simpa using c1
    omega
  simp only [boolK_false, arith_lss, optK_mk]
  by_cases c2 : d k < 0
  · rw [decide_eq_true c2]
    simp only [vc_fib_Of_j2, pickV_false, boolK_true, optK_mk]
    exact nx ov R t en (hR.trans (skip (os.2 (.inr c2))).symm)
  rw [decide_eq_false c2]
  simp only [vc_fib_Of_j2, pickV_false, boolK_false, optK_mk]
  refine aLoop_in (by omega) ?_
  have x0 : extractA (.tup [.int .u32 (lbk k), .int .i64 0]) 0 = some (.int .u32 (lbk k)) := rfl
  have x1 : extractA (.tup [.int .u32 (lbk k), .int .i64 0]) 1 = some (.int .i64 0) := rfl
  have x2 : negB false (eqV 0 true (.int .i64 0) (.int .i64 0)) = some (.bool true) := rfl
  simp only [x0, x1, x2, boolK_true, optK_mk]
  refine sNext_in (hl.sub st) (hu.sub st) hv hx hlt fun w t2 d2 isd2 ac sub2 => ?_
  have hne : ¬ nrL (L.map toL) U (dF N (L.map toL) U k) x = [] := fun h => by
    rcases os.1 h with q | q
    · exact c1 q
    · exact c2 q
  refine put_in en sub2 ac hRl fun v' t3 en' => nx v' _ t3 en' ?_
  rw [List.map_append, hR, ofP_succ]
  congr 1
  unfold ofE
  rw [if_neg hne, ← nrL_dF z isd2]
  rfl
end Go.AM
namespace Go.AM
open Go Go.Proofs
variable {K : AVal → Heap → Prop} {s s' s0 t : Heap} {lv uv v y w : AVal} {N : Nat} {G : List Lnk} {U : List Bool} {d : Nat → Int} {L : List RLk}
theorem rOf_in {n x : Int} (hl : SlR 3 s lv (L.map rwR)) (hlm : L.length ≤ 9223372036854775807) (hu : Sl s uv (U.map AVal.bool)) (hK : ∀ v s' R, Ens s s' v R → R.map kyE = ofEn n L U x → K v s') : wpCall Try.prog XX 14 [.int .i64 n, lv, uv, .int .i64 x] K s := by
  refine vc_leafmeshref14_Of_in (rvalid_in hl hlm hu fun s1 r sub1 hr => ?_)
  cases r with
  | false =>
    have q : ¬ (vld n L U ∧ 0 ≤ x ∧ x < n) := fun h => by have := hr.2 h; cases this
    simp only [unary_not, Bool.not_false, boolK_true, optK_mk]
    refine hK .nilslc s1 [] (Ens.nil.more sub1) ?_
    unfold ofEn
    rw [if_neg q]; rfl
  | true =>
  obtain ⟨hv, hx0, hxn⟩ := hr.1 rfl
  obtain ⟨N, rfl⟩ : ∃ N : Nat, n = N := ⟨n.toNat, by omega⟩
  obtain ⟨x, rfl⟩ : ∃ y : Nat, x = y := ⟨x.toNat, by omega⟩
  have hx : x < N := by omega
  obtain ⟨z, hG, hN, hC, hrw⟩ := vld.gok hv
  simp only [unary_not, Bool.not_true, boolK_false, optK_mk]
  have eV : ofEn (N : Int) L U (x : Int) = ofP N (L.map toL) U x N := by
    unfold ofEn
    rw [if_pos ⟨hv, by omega, by omega⟩, Int.toNat_natCast, Int.toNat_natCast]
  refine ⟨fun ys t m => ∃ (k : Nat) (ov : AVal) (R : List EnV), ys = [ov, .int .i64 k] ∧ k ≤ N ∧ m = N - k ∧ Ens s1 t ov R ∧ R.map kyE = ofP N (L.map toL) U x k, ⟨_, 0, .nilslc, [], rfl, by omega, rfl, Ens.nil, rfl⟩, ?_⟩
  rintro f t m ⟨k, ov, R, hy, hk, rfl, en, hR⟩
  simp only [List.cons.injEq, and_true] at hy
  rw [hy.1, hy.2]
  have st := sub1.trans en.sub
  simp only [vc_leafmeshref14_Of_l0, arith_lss, optK_mk]
  refine boolK_mk (fun hlt => ?_) (fun hge => ?_)
  rotate_left
  · have hge : k = N := by have := of_decide_eq_false hge; omega
    subst hge
    refine hK ov t R ⟨st, ?_⟩ (hR.trans eV.symm)
    obtain ⟨sb, b, c, e, f⟩ := en.ex
    exact ⟨sb, sub1.trans b, c, e, f⟩
  have hlt : k < N := by have := of_decide_eq_true hlt; omega
  have hRl : R.length ≤ 1000 := by
    have h1 := ofP_len (N := N) (G := L.map toL) (U := U) (x := x) (k := k)
    rw [← hR, List.length_map] at h1
    omega
  have nx : ∀ (ov' : AVal) (R' : List EnV) (t' : Heap), Ens s1 t' ov' R' → R'.map kyE = ofP N (L.map toL) U x (k + 1) → vc_leafmeshref14_Of_j1 XX ov' (.int .i64 (k : Int)) (fun ys t m => ∃ (k : Nat) (ov : AVal) (R : List EnV), ys = [ov, .int .i64 k] ∧ k ≤ N ∧ m = N - k ∧ Ens s1 t ov R ∧ R.map kyE = ofP N (L.map toL) U x k) (N - k) K t' := fun ov' R' t' h1 h2 => by
    simp only [vc_leafmeshref14_Of_j1, arith_add, optK_mk]
    rw [wrap64 (by omega) (by omega)]
    exact ⟨_, by omega, k + 1, ov', R', rfl, by omega, rfl, h1, h2⟩
  refine rNext_in (hl.sub st) (hu.sub st) hv hx hlt fun w t2 d2 isd2 ac sub2 => ?_
  have en2 := en.more sub2
  have eN := nrL_dF (x := x) z isd2
  simp only [ac.sl.len, iz_len, arith_gtr, optK_mk]
  refine boolK_mk (fun hp => ?_) (fun hp => ?_)
  · have hp : 0 < (nrL (L.map toL) U d2 x).length := by have := of_decide_eq_true hp; omega
    have hne : ¬ nrL (L.map toL) U (dF N (L.map toL) U k) x = [] := fun h => by rw [eN, h] at hp; simp at hp
    refine rLoop_in (by omega) ?_
    refine put_in en sub2 ac hRl fun v' t3 en' => nx v' _ t3 en' ?_
    rw [List.map_append, hR, ofP_succ]
    congr 1
    unfold ofE
    rw [if_neg hne, ← eN]
    rfl
  · have hp : nrL (L.map toL) U d2 x = [] := List.eq_nil_of_length_eq_zero (by have := of_decide_eq_false hp; omega)
    refine nx ov R t2 en2 (hR.trans ?_)
    rw [ofP_succ]
    unfold ofE
    rw [if_pos (by rw [← eN]; exact hp)]
    simp
/-- two lists of entries that have the same -/
theorem entries_in {R R' : List EnV} (h : Ens s0 s v R) (h' : Ens s' s w R') (he : R.map kyE = R'.map kyE) (hlen : R.length ≤ 1000) (hlk : ∀ x ∈ R, x.2.2.length ≤ 1000) (hK : K (.bool true) s) : wpCall Try.prog XX 12 [v, w] K s := by
  obtain ⟨_, sb, _, c, ac, hR⟩ := h
  obtain ⟨_, sb', _, c', ac', hR'⟩ := h'
  have e1 := ac.sl
  have e2 := ac'.sl
  have ll : R.length = R'.length := by have := congrArg List.length he; simpa using this
  refine vc_leafmeshlaw14_entries_in ?_
  simp only [vc_leafmeshlaw14_entries, e1.len, e2.len, List.length_map, ll, eqV_int, negB_mk, Bool.true_bne, beq_self_eq_true, Bool.not_true, boolK_false, optK_mk]
  refine ⟨fun ys t m => ∃ i : Nat, ys = [.int .i64 i] ∧ t = s ∧ i ≤ R.length ∧ m = R.length - i, ⟨_, 0, rfl, rfl, by omega, rfl⟩, ?_⟩
  rintro f t m ⟨i, hy, rfl, hi, rfl⟩
  simp only [List.cons.injEq, and_true] at hy
  rw [hy]
  simp only [vc_leafmeshlaw14_entries_l0, e1.len, List.length_map, arith_lss, optK_mk]
  refine boolK_mk (fun hlt => ?_) (fun hge => hK)
  have hlt : i < R.length := by have := of_decide_eq_true hlt; omega
  have hlt' : i < R'.length := by omega
  have hx : R[i]? = some R[i] := List.getElem?_eq_getElem hlt
  have hx' : R'[i]? = some R'[i] := List.getElem?_eq_getElem hlt'
  have ek : kyE R[i] = kyE R'[i] := by
    have := congrArg (fun l => l[i]?) he
    simp only [List.getElem?_map, hx, hx', Option.map_some] at this
    exact Option.some.inj this
  have m1 := List.getElem_mem hlt
  have m2 := List.getElem_mem hlt'
  generalize R[i] = a at hx ek m1
  generalize R'[i] = b at hx' ek m2
  obtain ⟨n, wv, l⟩ := a
  obtain ⟨n', wv', l'⟩ := b
  have ek : (n, l) = (n', l') := ek
  cases ek
  obtain ⟨p1, o1, g1, _, g3⟩ := e1.get (i := i) (r := enR (n, wv, l)) (by rw [List.getElem?_map, hx]; rfl)
  obtain ⟨p2, o2, g4, _, g6⟩ := e2.get (i := i) (r := enR (n, wv', l)) (by rw [List.getElem?_map, hx']; rfl)
  have r0 : rd1 t (.ptr p1 o1) = some (.int .u32 n) := g3 0 (by omega)
  have r1 : rd1 t (.ptr p1 (o1 + 1)) = some wv := g3 1 (by omega)
  have q0 : rd1 t (.ptr p2 o2) = some (.int .u32 n) := g6 0 (by omega)
  have q1 : rd1 t (.ptr p2 (o2 + 1)) = some wv' := g6 1 (by omega)
  simp only [g1, g4, addOff_ptr, Nat.add_zero, r0, r1, q0, q1, eqV_int, negB_mk, Bool.true_bne, beq_self_eq_true, Bool.not_true, boolK_false, optK_mk]
  have ei : ∀ {T : List Nat}, iz T = izs (T.map fun (n : Nat) => (n : Int)) := fun {T} => by
    unfold iz
    exact (List.map_map ..).symm
  have s1 := (hR _ m1).sub c
  have s2 := (hR' _ m2).sub c'
  have s1 : Sl t wv (iz l) := s1
  have s2 : Sl t wv' (iz l) := s2
  rw [ei] at s1 s2
  have hlk := hlk _ m1
  have hlk : l.length ≤ 1000 := hlk
  refine Same_in s1 s2 (by rw [List.length_map]; omega) fun b hb => ?_
  rw [hb.2 rfl]
  simp only [unary_not, Bool.not_true, optK_mk, vc_leafmeshlaw14_entries_j1, pickV_false, boolK_false, arith_add]
  rw [wrap64 (by omega) (by omega)]
  exact ⟨_, by omega, i + 1, rfl, by trivial, by omega, rfl⟩
theorem ofEn_len {n x : Int} : (ofEn n L U x).length ≤ 32 := by
  unfold ofEn
  split
  · rename_i q
    have := ofP_len (N := n.toNat) (G := L.map toL) (U := U) (x := x.toNat) (k := n.toNat)
    have := q.1.2.1
    omega
  · exact Nat.zero_le _
theorem ofEn_links {n x : Int} : ∀ e ∈ ofEn n L U x, e.2.length ≤ L.length := fun e he => by
  unfold ofEn at he
  split at he
  · unfold ofP at he
    obtain ⟨k, _, hk⟩ := List.mem_filterMap.1 he
    unfold ofE at hk
    split at hk
    · cases hk
    · cases hk
      show (nrL _ _ _ _).length ≤ _
      unfold nrL
      rw [List.length_map]
      refine Nat.le_trans (List.length_filter_le _ _) (Nat.le_trans edL_len ?_)
      rw [List.length_map]; exact Nat.le_refl _
  · cases he
theorem awake_in (hK : K (.bool true) s) : wpCall Try.prog XX 9 [] K s := wp_closed rfl hK
theorem FibOf_in {n x : Int} (hl : SlR 3 s lv (L.map rwR)) (hlm : L.length ≤ 9223372036854775807) (hu : Sl s uv (U.map AVal.bool)) (hum : U.length ≤ 9223372036854775807) (hK : ∀ s, K (.bool true) s) : wpCall Try.prog XX 3 [.int .i64 n, lv, uv, .int .i64 x] K s := by
  refine vc_leafmeshlaw14_FibOf_in ?_
  simp only [vc_leafmeshlaw14_FibOf, hl.len, hu.len, List.length_map, arith_gtr, optK_mk]
  by_cases c1 : (60 : Int) < L.length
  · rw [decide_eq_true c1]
    simp only [boolK_true, vc_leafmeshlaw14_FibOf_j0, pickV_true, optK_mk]
    exact awake_in (hK _)
  rw [decide_eq_false c1]
  simp only [boolK_false]
  by_cases c2 : (60 : Int) < U.length
  · rw [decide_eq_true c2]
    simp only [boolK_true, vc_leafmeshlaw14_FibOf_j0, pickV_false, optK_mk]
    exact awake_in (hK _)
  rw [decide_eq_false c2]
  simp only [boolK_false, vc_leafmeshlaw14_FibOf_j0, pickV_false, optK_mk]
  refine OwnL_in hl (by rw [List.length_map]; omega) fun v1 s1 sub1 h1 _ => ?_
  refine OwnB_in (hu.sub sub1) (by omega) fun v2 s2 sub2 h2 _ => ?_
  have s02 := sub1.trans sub2
  refine sOf_in (h1.sub sub2) (by omega) h2 fun v3 s3 R3 en3 k3 => ?_
  have s03 := s02.trans en3.sub
  refine rOf_in (hl.sub s03) (by omega) (hu.sub s03) fun v4 s4 R4 en4 k4 => ?_
  have en3' := en3.more en4.sub
  have b1 := ofEn_len (n := n) (L := L) (U := U) (x := x)
  have b2 : R3.length ≤ 32 := by rw [← k3, List.length_map] at b1; exact b1
  refine entries_in en3' en4 (k3.trans k4.symm) (by omega) (fun y hy => ?_) ?_
  · have := ofEn_links (n := n) (L := L) (U := U) (x := x) (kyE y) (by rw [← k3]; exact List.mem_map.2 ⟨y, hy, rfl⟩)
    have : y.2.2.length ≤ L.length := this
    omega
  simp only [boolK_true]
  have s24 := en3.sub.trans en4.sub
  refine SameL_in ((h1.sub sub2).sub s24) (hl.sub (s02.trans s24)) (by rw [List.length_map]; omega) (fun r hr => by obtain ⟨x, _, rfl⟩ := List.mem_map.1 hr; exact lk_self x) ?_
  simp only [vc_leafmeshlaw14_FibOf_j1, pickV_true, boolK_true, optK_mk]
  refine SameB_in (h2.sub s24) (hu.sub (s02.trans s24)) (by omega) ?_
  simp only [vc_leafmeshlaw14_FibOf_j2, pickV_true, boolK_true, optK_mk]
  refine awake_in ?_
  simp only [vc_leafmeshlaw14_FibOf_j3, pickV_true, optK_mk]
  exact hK _
theorem cells27 : Try.prog.cellsOf 27 = 3 := by kernel_rfl
set_option maxRecDepth 100000 in
theorem inp_lk {d : Nat} {xs : List AVal} (h : Inp Try.prog s (d + 2) 27 xs) : ∃ a : RLk, xs = rwR a ∧ True := by
  unfold Inp at h
  simp only [Try.underlying27] at h
  obtain ⟨h1, h2⟩ := h
  rw [cells27] at h1
  have k0 := h2 _ (List.mem_cons_self)
  have k1 := h2 _ (List.mem_cons_of_mem _ List.mem_cons_self)
  have k2 := h2 _ (List.mem_cons_of_mem _ (List.mem_cons_of_mem _ List.mem_cons_self))
  match xs, h1 with
  | [a, b, c], _ =>
    obtain ⟨n, e1, _⟩ := inp_int (xs := [a]) Try.underlying3 k0
    obtain ⟨q, e2, _⟩ := inp_int (xs := [b]) Try.underlying3 k1
    obtain ⟨w, e3, _⟩ := inp_int (xs := [c]) Try.underlying3 k2
    cases e1; cases e2; cases e3
    exact ⟨(n, q, w), rfl, trivial⟩
set_option maxRecDepth 100000 in
theorem FibOf_wp (s : Heap) (xs : List AVal) (h : ArgL Try.prog s 40 [3, 22, 23, 3] xs) : wpCall Try.prog XX 3 xs (fun v _ => v = .bool true) s := by
  obtain ⟨a, b, c, e, rfl, h1, h2, h3, h4⟩ := argl4 h
  obtain ⟨n, rfl, _⟩ := arg_int (k := .i64) Try.underlying3 h1
  obtain ⟨L, hL, _, hl1⟩ := argR (d := 39) Try.underlying22 rwR (fun _ => True) (fun a => by rw [cells27]; rfl) (fun xs h => inp_lk h) h2
  obtain ⟨U, hU, _, hl2⟩ := arg_slice (d := 38) Try.underlying23 (by kernel_rfl) AVal.bool (fun _ => True) (fun xs h => inp_bool Try.underlying4 h) h3
  obtain ⟨x, rfl, _⟩ := arg_int (k := .i64) Try.underlying3 h4
  rw [cells27] at hL
  unfold maxLen at hl1 hl2
  exact FibOf_in hL (by omega) hU (by omega) fun _ => rfl
end Go.AM
