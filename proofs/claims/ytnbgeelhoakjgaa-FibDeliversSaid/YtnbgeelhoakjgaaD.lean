/- Part D of a calculus over a small memory that is proved to answer as the program does, and of its use for the functions that the law reaches: see the last part. -/
import Derived.Test.YtnbgeelhoakjgaaC
namespace Go.AM
open Go Go.Proofs
variable {K : AVal → Heap → Prop} {s s' s0 : Heap} {N : Nat} {G : List Lnk} {U : List Bool} {lv uv av dv v : AVal} {d : Nat → Int}
/-! ### nearer, parents -/
theorem Nearer_in {n : Nat} (z : GOk N G U) (hn : n < N) (hG : G.length ≤ 128) (hC : ∀ x ∈ G, x.2.2 ≤ 1000) (hd : ∀ m, m < N → -1 ≤ d m ∧ d m ≤ 32000) (hv : SlR 3 s v ((edL G U n).map edR)) (hdv : Sl s dv (dl N d))
    (hK : ∀ v' s', AccR 106 3 s s' v' ((nearL G U d n).map edR) → Sub s s' → K v' s') : wpCall Try.prog XX 50 [v, dv, .int .i64 (n : Int)] K s := by
  have hcost : ∀ {i n m c : Nat}, Ed G U i n m c → c ≤ 1000 := fun {i n m c} e => by
    rcases e.2 with e | e
    · exact hC _ (List.mem_of_getElem? e)
    · exact hC _ (List.mem_of_getElem? e)
  have hle := edL_len (G := G) (U := U) (n := n)
  refine vc_spf_nearer_in ?_
  simp only [vc_spf_nearer, hv.len, List.length_map, optK_mk]
  refine ⟨fun ys t m => ∃ (i : Nat) (lv : AVal), ys = [lv, .int .i64 i] ∧ i ≤ (edL G U n).length ∧ m = (edL G U n).length - i ∧ Sub s t ∧ AccR 106 3 s t lv ((((edL G U n).take i).filter fun e => decide (d n = d e.2.1 + e.2.2)).map edR), ⟨_, 0, _, rfl, by omega, rfl, .refl s, by simp, .inl ⟨rfl, by simp⟩⟩, ?_⟩
  rintro f t m ⟨i, lv, hy, hi, rfl, st, ac⟩
  simp only [List.cons.injEq, and_true] at hy
  obtain ⟨hy1, hy2⟩ := hy
  rw [hy1, hy2]
  simp only [vc_spf_nearer_l0, arith_lss, optK_mk]
  refine boolK_mk (fun hlt => ?_) (fun hge => ?_)
  · have hlt : i < (edL G U n).length := by have := of_decide_eq_true hlt; omega
    obtain ⟨e, he⟩ : ∃ e, (edL G U n)[i]? = some e := ⟨_, List.getElem?_eq_getElem hlt⟩
    obtain ⟨j, mm, c⟩ := e
    have hed := (mem_edL z).1 (List.mem_of_getElem? he)
    obtain ⟨_, mN, nem, c1, _⟩ := z.ed hed
    have c2 := hcost hed
    obtain ⟨pb, po, e1, e2, _⟩ := (hv.sub st).get (i := i) (r := edR (j, mm, c)) (by rw [List.getElem?_map, he]; rfl)
    simp only [e1, e2, optK_mk]
    refine new_step fun b t1 hb h1 u1 => wrAgg_step h1 rfl rfl rfl fun t2 h2 u2 => ?_
    have h2 : t2 b = some (false, .cells 106 [.int .i64 (j : Int), .int .i64 (mm : Int), .int .i64 (c : Int)]) := h2
    have subt : Sub t t2 := sub_upto (u1.sub hb) u2 hb
    have st2 := st.trans subt
    obtain ⟨p1, g1, g2⟩ := (hdv.sub st2).get (i := n) (by rw [dl_len]; exact hn)
    obtain ⟨p2, g3, g4⟩ := (hdv.sub st2).get (i := mm) (by rw [dl_len]; exact mN)
    rw [dl_get hn] at g2
    rw [dl_get mN] at g4
    have y1 : [AVal.int .i64 (j : Int), .int .i64 (mm : Int), .int .i64 (c : Int)][1]? = some (.int .i64 (mm : Int)) := rfl
    have y2 : [AVal.int .i64 (j : Int), .int .i64 (mm : Int), .int .i64 (c : Int)][2]? = some (.int .i64 (c : Int)) := rfl
    have dm := hd mm mN
    simp only [g1, g2, addOff_ptr, Nat.zero_add, rd1_mk h2, y1, y2, g3, g4, arith_add, optK_mk, eqV_int, negB_mk, Bool.false_bne]
    rw [wrap64 (by omega) (by omega)]
    have tk : ((edL G U n).take (i + 1)).filter (fun e => decide (d n = d e.2.1 + e.2.2)) = ((edL G U n).take i).filter (fun e => decide (d n = d e.2.1 + e.2.2)) ++ (if d n = d mm + c then [(j, mm, c)] else []) := by
      rw [List.take_add_one, he, List.filter_append]
      congr 1
      by_cases q : d n = d mm + c
      · simp [q]
      · simp [q]
    refine boolK_mk (fun heq => ?_) (fun hne => ?_)
    · have heq : d n = d mm + c := by simpa using heq
      have r3 : rdN t2 3 (.ptr b 0) = some (edR (j, mm, c)) := rdN_all h2 rfl
      simp only [r3, optK_mk]
      refine optK_of (a := edR (j, mm, c)) rfl ⟨rfl, new_step fun b3 t3 hb3 h3 u3 => ?_⟩
      have sub3 := subt.trans (u3.sub hb3)
      have lit : SlR 3 t3 (.slc b3 0 1 (some 1) 3) ([(j, mm, c)].map edR) := SlR.mk (by intro r hr; simp only [List.map_cons, List.map_nil, List.mem_singleton] at hr; subst hr; rfl) (by simpa using h3) rfl (by simp)
      refine (ac.sub sub3).app lit (by simp) ?_ (st.trans sub3) fun v' t4 a4 s4 => ?_
      · have := List.length_filter_le (fun e : Nat × Nat × Nat => decide (d n = d e.2.1 + e.2.2)) ((edL G U n).take i)
        have := List.length_take_le i (edL G U n)
        simp only [List.length_map, List.length_cons, List.length_nil]
        omega
      · simp only [vc_spf_nearer_j1, arith_add, optK_mk]
        rw [wrap64 (by omega) (by omega)]
        refine ⟨_, by omega, i + 1, v', rfl, by omega, rfl, s4, ?_⟩
        rw [tk, if_pos heq, List.map_append]
        exact a4
    · have hne : ¬ d n = d mm + c := by simpa using hne
      simp only [vc_spf_nearer_j1, arith_add, optK_mk]
      rw [wrap64 (by omega) (by omega)]
      refine ⟨_, by omega, i + 1, lv, rfl, by omega, rfl, st2, ?_⟩
      rw [tk, if_neg hne, List.append_nil]
      exact ac.sub subt
  · have hge : i = (edL G U n).length := by have := of_decide_eq_false hge; omega
    subst hge
    rw [List.take_length] at ac
    exact hK _ _ ac st
/-! ### from the lists that are given to those of the plain law -/
def toL (x : RLk) : Lnk := (x.1.toNat, x.2.1.toNat, x.2.2.toNat)
theorem vld.gok {n : Nat} {L : List RLk} (h : vld (n : Int) L U) : GOk n (L.map toL) U ∧ (L.map toL).length ≤ 128 ∧ n ≤ 32 ∧ (∀ x ∈ L.map toL, x.2.2 ≤ 1000) ∧ L.map rwR = (L.map toL).map lkR := by
  obtain ⟨h1, h2, h3, h4, h5⟩ := h
  refine ⟨⟨by rw [List.length_map]; exact h4, fun x hx => ?_⟩, by rw [List.length_map]; exact h3, by omega, fun x hx => ?_, ?_⟩
  · obtain ⟨⟨a, b, c⟩, hy, rfl⟩ := List.mem_map.1 hx
    have := okD (h5 _ hy)
    show a.toNat < n ∧ b.toNat < n ∧ a.toNat ≠ b.toNat ∧ 1 ≤ c.toNat ∧ c.toNat ≤ 65535
    omega
  · obtain ⟨⟨a, b, c⟩, hy, rfl⟩ := List.mem_map.1 hx
    have := okD (h5 _ hy)
    show c.toNat ≤ 1000
    omega
  · rw [List.map_map]
    refine List.map_congr_left fun x hx => ?_
    obtain ⟨a, b, c⟩ := x
    have := okD (h5 _ hx)
    have e1 : ((a.toNat : Nat) : Int) = a := by omega
    have e2 : ((b.toNat : Nat) : Int) = b := by omega
    have e3 : ((c.toNat : Nat) : Int) = c := by omega
    show [AVal.int .i64 a, .int .i64 b, .int .i64 c] = [.int .i64 ((a.toNat : Nat) : Int), .int .i64 ((b.toNat : Nat) : Int), .int .i64 ((c.toNat : Nat) : Int)]
    rw [e1, e2, e3]
theorem Dist_in {n x : Int} {L : List RLk} (hl : SlR 3 s lv (L.map rwR)) (hlm : L.length ≤ 9223372036854775807) (hu : Sl s uv (U.map AVal.bool))
    (hK : ∀ v s', Sub s s' → (¬ (vld n L U ∧ 0 ≤ x ∧ x < n) → v = .nilslc) → (∀ (N r : Nat), vld (N : Int) L U → n = N → r < N → x = r → ∃ d b, IsDist N (L.map toL) U r d ∧ (∀ m, m < N → -1 ≤ d m ∧ d m ≤ 32000) ∧ v = .slc b 0 N (some N) 1 ∧ s b = none ∧ s' b = some (false, .cells 3 (dl N d))) → K v s') : wpCall Try.prog XX 28 [.int .i64 n, lv, uv, .int .i64 x] K s := by
  refine vc_spf_Dist_in ?_
  refine lit1_step rfl rfl fun eb s1 heb h1 u1 => ?_
  have sub1 := u1.sub heb
  refine valid_in (es := [x]) (hl.sub sub1) hlm (hu.sub sub1) (Sl.mk h1 rfl (by simp)) (by simp) fun s2 r sub2 hr => ?_
  simp only [unary_not, optK_mk]
  have s02 := sub1.trans sub2
  cases r with
  | false =>
    have hr : ¬ (vld n L U ∧ ∀ e ∈ [x], 0 ≤ e ∧ e < n) := fun h => by have := hr.2 h; cases this
    have hr' : ¬ (vld n L U ∧ 0 ≤ x ∧ x < n) := fun h => hr ⟨h.1, fun e he => by rw [List.mem_singleton] at he; rw [he]; exact h.2⟩
    exact hK _ _ s02 (fun _ => rfl) fun N r q1 q2 q3 q4 => by
      subst q2 q4
      exact absurd ⟨q1, by omega, by omega⟩ hr'
  | true =>
    obtain ⟨hv, hx⟩ := hr.1 rfl
    have hx := hx x (by simp)
    obtain ⟨N, rfl⟩ : ∃ N : Nat, n = N := ⟨n.toNat, by have := hv.1; omega⟩
    obtain ⟨r, rfl⟩ : ∃ r : Nat, x = r := ⟨x.toNat, by omega⟩
    obtain ⟨z, hG, hN, hC, hm⟩ := hv.gok
    have hrN : r < N := by omega
    show wpCall Try.prog XX 49 _ _ s2
    refine Edges_in z hN hG (by rw [← hm]; exact hl.sub s02) (hu.sub s02) fun av s3 sub3 ha => ?_
    refine Distances_in z hN hG hC ha hrN fun d b s4 hd hdm sub4 hb h4 => ?_
    have hdd : ∀ m, m < N → -1 ≤ d m ∧ d m ≤ 32000 := fun m hm => ⟨hd.lo m hm, hdm m hm⟩
    have hbs : s b = none := by
      cases q : s b with
      | none => rfl
      | some y => rw [sub3 _ _ (s02 _ _ q)] at hb; cases hb
    refine hK _ _ ((s02.trans sub3).trans sub4) (fun h => absurd ⟨hv, by omega, by omega⟩ h) fun N' r' _ e1 _ e2 => ?_
    obtain rfl : N = N' := by omega
    obtain rfl : r = r' := by omega
    exact ⟨d, b, hd, hdd, rfl, hbs, h4⟩
end Go.AM
namespace Go.AM
open Go Go.Proofs
variable {K : AVal → Heap → Prop} {s s' s0 : Heap} {U : List Bool} {L : List RLk} {lnv upv v y dv : AVal} {lf sp sf : Int} {N : Nat} {d : Nat → Int}
theorem Acc.app2 {elem : TypeId} {l m : List AVal} (h : Acc elem s0 s v l) (hs : Sub s0 s) (hy : Sl s y m) (hm : m ≠ []) (hl : l.length + m.length ≤ 16777216) (hK : ∀ v' s', Acc elem s0 s' v' (l ++ m) → Sub s0 s' → K v' s') : appK elem 1 v y K s :=
  h.app hy hm hl (fun i hi => by
    cases q : s0 i with
    | none => exact absurd q hi
    | some x => rw [hs i x q]; simp) fun v' s' a k => hK v' s' a fun i e hi => k i e (hs i e hi) fun b hb q => by
      rcases h with ⟨h, _⟩ | ⟨b', h0, h, _⟩
      · rw [h] at hb; cases hb
      · rw [h] at hb; cases hb; rw [q, h0] at hi; cases hi
theorem Acc.sub {elem : TypeId} {l : List AVal} (h : Acc elem s0 s v l) (k : Sub s s') : Acc elem s0 s' v l := h.imp id fun ⟨b, h0, h1, h2⟩ => ⟨b, h0, h1, k _ _ h2⟩
def iz (l : List Nat) : List AVal := l.map fun (n : Nat) => .int .i64 (n : Int)
theorem iz_len {l : List Nat} : (iz l).length = l.length := by unfold iz; simp
theorem iz_get {l : List Nat} {i : Nat} : (iz l)[i]? = l[i]?.map fun (n : Nat) => AVal.int .i64 (n : Int) := by unfold iz; simp
theorem iz_app {l m : List Nat} : iz (l ++ m) = iz l ++ iz m := by unfold iz; simp
end Go.AM
namespace Go.AM
open Go Go.Proofs
variable {K : AVal → Heap → Prop} {s s' s0 : Heap} {lv uv : AVal}
/-! ### the reference: which inputs are valid -/
end Go.AM
namespace Go.AM
open Go Go.Proofs
variable {K : AVal → Heap → Prop} {s s' s0 : Heap} {lv uv : AVal} {N : Nat} {G : List Lnk} {U : List Bool} {f : Nat} {d : Nat → Int} {I1 I2 : List AVal → Heap → Nat → Prop} {m1 m2 : Nat}
/-! ### the reference: distances -/
theorem dl_ad {db n : Nat} (hn : n < N) : iaddrS 1 (.slc db 0 N (some N) 1) (.int .i64 (n : Int)) = some (.ptr db n) := by
  have : Nat.blt n N = true := by rw [Nat.blt_eq]; exact hn
  simp [iaddrS, this]
end Go.AM
namespace Go.AM
open Go Go.Proofs
variable {K : AVal → Heap → Prop} {s s' s0 : Heap} {lv uv v y : AVal} {N : Nat} {G : List Lnk} {U : List Bool} {d : Nat → Int}
/-! ### the reference: next links, parents, paths -/
theorem Acc.weak {elem : TypeId} {s1 : Heap} {l : List AVal} (h : Acc elem s1 s v l) (k : Sub s0 s1) : Acc elem s0 s v l := h.imp id fun ⟨b, h0, h1, h2⟩ => ⟨b, (by
  cases q : s0 b with
  | none => rfl
  | some x => rw [k _ _ q] at h0; cases h0), h1, h2⟩
def nrL (G : List Lnk) (U : List Bool) (d : Nat → Int) (n : Nat) : List Nat := (nearL G U d n).map (·.1)
end Go.AM
namespace Go.AM
open Go Go.Proofs
abbrev izs (l : List Int) : List AVal := l.map (AVal.int .i64)
/-! ### values that are equal to themselves -/
section
variable (P : Program)
end
variable {K : AVal → Heap → Prop} {s s' s0 t : Heap} {U : List Bool} {L : List RLk} {lnv upv v w dv mv : AVal} {lf sp sf g : Int} {N r : Nat} {d ds : Nat → Int} {es : List Int}
/-! ### lists that are compared with their copies -/
theorem fresh_of (k : Sub s s') {b : Nat} (h : s' b = none) : s b = none := by
  cases q : s b with
  | none => rfl
  | some y => rw [k _ _ q] at h; cases h
variable {K : AVal → Heap → Prop} {s s' s0 t : Heap} {U : List Bool} {L : List RLk} {lnv upv v w dv mv : AVal} {lf sp sf g : Int} {N r : Nat} {d ds : Nat → Int} {es es' : List Int}
theorem Same_in (h : Sl s v (izs es)) (h' : Sl s w (izs es')) (hl : es.length ≤ 1000000) (hK : ∀ b : Bool, (b = true ↔ es = es') → K (.bool b) s) : wpCall Try.prog XX 24 [v, w] K s := by
  refine vlkit_Same_int__in ?_
  simp only [vlkit_Same_int_, h.len, h'.len, List.length_map, eqV_int, negB_mk, Bool.true_bne, optK_mk]
  refine boolK_mk (fun c => ?_) (fun c => ?_)
  · have c : ¬ (es.length : Int) = es'.length := by simpa using c
    exact hK false ⟨(fun h => by cases h), fun h => by rw [h] at c; exact absurd rfl c⟩
  have c : es.length = es'.length := by
    have c : (es.length : Int) = es'.length := by simpa using c
    omega
  refine ⟨fun ys t m => ∃ i : Nat, ys = [.int .i64 i] ∧ t = s ∧ i ≤ es.length ∧ m = es.length - i ∧ es.take i = es'.take i, ⟨_, 0, rfl, rfl, by omega, rfl, by simp⟩, ?_⟩
  rintro f t m ⟨i, hy, rfl, hi, rfl, hq⟩
  simp only [List.cons.injEq, and_true] at hy
  rw [hy]
  simp only [vlkit_Same_int__l0, h.len, List.length_map, arith_lss, optK_mk]
  refine boolK_mk (fun hlt => ?_) (fun hge => ?_)
  · have hlt : i < es.length := by have := of_decide_eq_true hlt; omega
    have hlt' : i < es'.length := by omega
    obtain ⟨p, g1, g2⟩ := h.get (i := i) (by rw [List.length_map]; exact hlt)
    obtain ⟨q, g3, g4⟩ := h'.get (i := i) (by rw [List.length_map]; exact hlt')
    have e1 : (izs es)[i]? = some (.int .i64 es[i]) := by simp [hlt]
    have e2 : (izs es')[i]? = some (.int .i64 es'[i]) := by simp [hlt']
    rw [e1] at g2
    rw [e2] at g4
    simp only [g1, g2, g3, g4, eqV_int, negB_mk, Bool.true_bne, optK_mk]
    refine boolK_mk (fun c => ?_) (fun c => ?_)
    · have c : ¬ es[i] = es'[i] := by simpa using c
      exact hK false ⟨(fun h => by cases h), fun h => by subst h; exact absurd rfl c⟩
    · have c : es[i] = es'[i] := by simpa using c
      simp only [arith_add, optK_mk]
      rw [wrap64 (by omega) (by omega)]
      refine ⟨_, by omega, i + 1, rfl, by trivial, by omega, rfl, ?_⟩
      rw [List.take_add_one, List.take_add_one, hq, List.getElem?_eq_getElem hlt, List.getElem?_eq_getElem hlt', c]
  · have hge : i = es.length := by have := of_decide_eq_false hge; omega
    subst hge
    rw [List.take_length, c, List.take_length] at hq
    exact hK true ⟨fun _ => hq, fun _ => rfl⟩
end Go.AM
namespace Go.AM
open Go Go.Proofs
variable {K : AVal → Heap → Prop} {s s' s0 : Heap} {lv uv v y : AVal} {N : Nat} {G : List Lnk} {U : List Bool} {d : Nat → Int}
/-! ### spf.Next -/
theorem AccR.weak {elem : TypeId} {es : Nat} {s1 : Heap} {rows : List (List AVal)} (h : AccR elem es s1 s v rows) (k : Sub s0 s1) : AccR elem es s0 s v rows := ⟨h.1, h.2.imp id fun ⟨b, h0, h1, h2⟩ => ⟨b, fresh_of k h0, h1, h2⟩⟩
theorem sNext_in {L : List RLk} {n t : Nat} (hl : SlR 3 s lv (L.map rwR)) (hu : Sl s uv (U.map AVal.bool)) (hv : vld (N : Int) L U) (hn : n < N) (ht : t < N)
    (hK : ∀ v s' d, IsDist N (L.map toL) U t d → Acc 3 s s' v (iz (nrL (L.map toL) U d n)) → Sub s s' → K v s') : wpCall Try.prog XX 30 [.int .i64 (N : Int), lv, uv, .int .i64 (n : Int), .int .i64 (t : Int)] K s := by
  have hlm : L.length ≤ 9223372036854775807 := by have := hv.2.2.1; omega
  obtain ⟨z, hG, hN, hC, hrw⟩ := vld.gok hv
  refine vc_spf_Next_in ?_
  refine optK_of (a := [.int .i64 (n : Int), .int .i64 (t : Int)]) rfl ⟨rfl, new_step fun eb s1 heb h1 u1 => ?_⟩
  have sub1 := u1.sub heb
  refine valid_in (es := [(n : Int), (t : Int)]) (hl.sub sub1) hlm (hu.sub sub1) (Sl.mk h1 rfl (by simp)) (by simp) fun s2 r sub2 hr => ?_
  have hr1 : r = true := hr.2 ⟨hv, fun e he => by
    simp only [List.mem_cons, List.not_mem_nil, or_false] at he
    rcases he with rfl | rfl <;> omega⟩
  rw [hr1]
  have s02 := sub1.trans sub2
  rw [hrw] at hl
  simp only [unary_not, Bool.not_true, boolK_false, optK_mk]
  refine Edges_in z hN hG (hl.sub s02) (hu.sub s02) fun ev s3 sub3 he => ?_
  have s03 := s02.trans sub3
  obtain ⟨p, w, g1, g2, g3⟩ := he.at hn
  simp only [g1, g2, optK_mk]
  have hef : AdjR (frz s3) ev N (edL (L.map toL) U) := by
    obtain ⟨vs, h1, h2⟩ := he
    exact ⟨vs, h1.frz, fun n hn => (h2 n hn).frz⟩
  refine Distances_in z hN hG hC hef ht fun d b s4 isd hbd sub4 hb0 hb4 _ => ?_
  have hb0 := frz_none.1 hb0
  have hb5 : add s3 s4 b = some (false, .cells 3 (dl N d)) := by rw [add_none hb0]; exact hb4
  have sub5 : Sub s3 (add s3 s4) := sub_add
  generalize add s3 s4 = s5 at hb5 sub5
  have s05 := s03.trans sub5
  refine Nearer_in z hn hG hC (fun m hm => ⟨isd.lo m hm, hbd m hm⟩) (g3.sub sub5) (Sl.mk hb5 dl_len.symm (by simp [dl_len])) fun nv s6 ac6 sub6 => ?_
  have s06 := s05.trans sub6
  have hnl : (nearL (L.map toL) U d n).length ≤ 128 := by
    refine Nat.le_trans (List.length_filter_le _ _) (Nat.le_trans ?_ hG)
    exact edL_len
  simp only [ac6.sl.len, List.length_map, optK_mk]
  refine ⟨fun ys x m => ∃ (k : Nat) (ov : AVal), ys = [ov, .int .i64 k] ∧ k ≤ (nearL (L.map toL) U d n).length ∧ m = (nearL (L.map toL) U d n).length - k ∧ Sub s6 x ∧ Acc 3 s6 x ov (iz ((nrL (L.map toL) U d n).take k)), ⟨_, 0, .nilslc, rfl, by omega, rfl, .refl s6, .inl ⟨rfl, rfl⟩⟩, ?_⟩
  rintro f x m ⟨k, ov, hy, hk, rfl, st, ac⟩
  simp only [List.cons.injEq, and_true] at hy
  rw [hy.1, hy.2]
  simp only [vc_spf_Next_l0, arith_lss, optK_mk]
  refine boolK_mk (fun hlt => ?_) (fun hge => ?_)
  rotate_left
  · have hge : k = (nearL (L.map toL) U d n).length := by have := of_decide_eq_false hge; omega
    have e : (nrL (L.map toL) U d n).take k = nrL (L.map toL) U d n := by
      rw [hge]
      exact List.take_of_length_le (by unfold nrL; rw [List.length_map]; exact Nat.le_refl _)
    rw [e] at ac
    exact hK _ x d isd (ac.weak s06) (s06.trans st)
  have hlt : k < (nearL (L.map toL) U d n).length := by have := of_decide_eq_true hlt; omega
  obtain ⟨e, he⟩ : ∃ e, (nearL (L.map toL) U d n)[k]? = some e := ⟨_, List.getElem?_eq_getElem hlt⟩
  obtain ⟨pb, po, e1, e2, _⟩ := (ac6.sl.sub st).get (i := k) (r := edR e) (by rw [List.getElem?_map, he]; rfl)
  simp only [e1, e2, optK_mk]
  refine new_step fun be x1 hbe h7 u7 => wrAgg_step h7 rfl rfl rfl fun x2 h8 u8 => ?_
  have h8 : x2 be = some (false, .cells 106 (edR e)) := h8
  have st2 : Sub x x2 := sub_upto (u7.sub hbe) u8 hbe
  have r0 : rd1 x2 (.ptr be 0) = some (.int .i64 (e.1 : Int)) := by rw [rd1_mk h8]; rfl
  simp only [addOff_ptr, Nat.zero_add, r0, optK_mk]
  refine lit1_step rfl rfl fun b6 x3 hb6 h6 u6 => ?_
  have st3 := st2.trans (u6.sub hb6)
  refine (ac.sub st3).app2 (st.trans st3) (Sl.mk h6 rfl (by simp)) (by simp) ?_ fun v' x4 a4 s04 => ?_
  · rw [iz_len, List.length_take]; simp only [List.length_singleton]; omega
  · simp only [arith_add, optK_mk]
    rw [wrap64 (by omega) (by omega)]
    refine ⟨_, by omega, k + 1, v', rfl, by omega, rfl, s04, ?_⟩
    have : (nrL (L.map toL) U d n)[k]? = some e.1 := by unfold nrL; rw [List.getElem?_map, he]; rfl
    rw [List.take_add_one, this, iz_app]
    exact a4
end Go.AM
namespace Go.AM
open Go Go.Proofs
variable {K : AVal → Heap → Prop} {s s' s0 t : Heap} {lv uv v y w : AVal} {N : Nat} {G : List Lnk} {U : List Bool} {d : Nat → Int}
/-! ### forwarding entries -/
def lbk (n : Nat) : Int := 184483841 + n
theorem lbk_add {n : Nat} (hn : n < 32) : convI .u32 (.int .i64 (n : Int)) = some (.int .u32 (n : Int)) ∧ arithV .add (.int .u32 184483840) (.int .u32 (n : Int)) = some (.int .u32 (184483840 + n)) ∧ arithV .add (.int .u32 (184483840 + n)) (.int .u32 1) = some (.int .u32 (lbk n)) := by
  have w : ∀ x : Int, 0 ≤ x → x < 4294967296 → IntKind.u32.wrap x = x := fun x h1 h2 => by
    unfold IntKind.wrap
    simp [IntKind.bits, IntKind.signed]
    omega
  refine ⟨?_, ?_, ?_⟩
  · show some (AVal.int .u32 (wrapK .u32 (n : Int))) = _
    rw [show wrapK .u32 (n : Int) = n by simp only [wrapK]; rw [wrapM_eq _ _ _ (by omega) (by omega)]; split <;> omega]
  · rw [arith_add, w _ (by omega) (by omega)]
  · rw [arith_add, w _ (by omega) (by omega)]
    unfold lbk
    congr 2
    omega
theorem aLoop_in {n : Nat} (hn : n < 32) (hK : K (.tup [.int .u32 (lbk n), .int .i64 0]) s) : wpCall Try.prog XX 36 [.int .i64 (n : Int)] K s := by
  obtain ⟨a1, a2, a3⟩ := lbk_add hn
  have c1 : decide ((n : Int) < 0) = false := decide_eq_false (by omega)
  have c2 : decide ((32 : Int) ≤ (n : Int)) = false := decide_eq_false (by omega)
  refine vc_addr_Loopback_in ?_
  simp only [vc_addr_Loopback, arith_lss, arith_geq, c1, c2, boolK_false, optK_mk, vc_addr_Loopback_j0, pickV_false, a1, a2, a3]
  exact hK
/-- entries: destination, list of links in memory, what it has -/
abbrev EnV := Int × AVal × List Nat
def enR (x : EnV) : List AVal := [.int .u32 x.1, x.2.1]
structure Ens (s0 s : Heap) (v : AVal) (R : List EnV) : Prop where
  sub : Sub s0 s
  ex : ∃ sb, Sub s0 sb ∧ Sub sb s ∧ AccR 86 2 sb s v (R.map enR) ∧ ∀ x ∈ R, Acc 3 s0 sb x.2.1 (iz x.2.2)
theorem Ens.more {R : List EnV} (h : Ens s0 s v R) (k : Sub s s') : Ens s0 s' v R := by
  obtain ⟨a, sb, b, c, e, f⟩ := h
  exact ⟨a.trans k, sb, b, c.trans k, e.sub k, f⟩
theorem Ens.nil : Ens s s .nilslc [] := ⟨.refl s, s, .refl s, .refl s, ⟨(fun r h => by cases h), .inl ⟨rfl, rfl⟩⟩, fun x h => by cases h⟩
/-- all but the block of the list itself -/
def offV (v : AVal) (t : Heap) : Heap := match v with
  | .slc b _ _ _ _ => hdel t b
  | _ => t
theorem offV_sub {v : AVal} : Sub (offV v t) t := fun i x hi => by
  unfold offV at hi
  split at hi
  · rename_i b _ _ _ _
    have hi : (if i = b then none else t i) = some x := hi
    split at hi
    · cases hi
    · exact hi
  · exact hi
theorem offV_at {v : AVal} {i : Nat} (h : ∀ b o n c e, v = .slc b o n c e → i ≠ b) : offV v t i = t i := by
  unfold offV
  split
  · exact if_neg (h _ _ _ _ _ rfl)
  · rfl
theorem Ens.put {R : List EnV} {n : Int} {w y : AVal} {l : List Nat} {t : Heap} (h : Ens s0 s v R) (k : Sub s t) (hw : Acc 3 s t w (iz l)) (hy : SlR 2 t y [enR (n, w, l)]) (hl : R.length ≤ 1000) (hK : ∀ v' s', Ens s0 s' v' (R ++ [(n, w, l)]) → K v' s') : appK 86 2 v y K t := by
  obtain ⟨h0, sb, b, c, ac, hR⟩ := h
  have own : ∀ i b o n c e, v = .slc b o n c e → sb i ≠ none → i ≠ b := fun i b o n c e q q2 q3 => by
    rcases ac.2 with ⟨r, _⟩ | ⟨j, r1, r2, r3⟩
    · rw [r] at q; cases q
    · rw [r2] at q; cases q; rw [q3] at q2; exact q2 r1
  have k1 : Sub sb (offV v t) := fun i x hi => by
    rw [offV_at fun b o n c e q => own i b o n c e q (by rw [hi]; simp)]
    exact k _ _ (c _ _ hi)
  have ac2 : AccR 86 2 (offV v t) t v (R.map enR) := by
    refine ⟨ac.1, ac.2.imp id fun ⟨i, q1, q2, q3⟩ => ⟨i, ?_, q2, k _ _ q3⟩⟩
    rw [q2]
    exact if_pos rfl
  have hwc : Acc 3 s0 (offV v t) w (iz l) := by
    rcases hw with ⟨q1, q2⟩ | ⟨i, q1, q2, q3⟩
    · exact .inl ⟨q1, q2⟩
    · have : offV v t i = some (false, .cells 3 (iz l)) := by
        rw [offV_at fun b o n c e q q4 => ?_]
        · exact q3
        · rcases ac.2 with ⟨r, _⟩ | ⟨j, r1, r2, r3⟩
          · rw [r] at q; cases q
          · rw [r2] at q; cases q; rw [q4, r3] at q1; cases q1
      exact .inr ⟨i, fresh_of h0 q1, q2, this⟩
  refine ac2.app hy (by simp) (by rw [List.length_map]; simp only [List.length_singleton]; omega) offV_sub fun v' s' a' k' => ?_
  refine hK v' s' ⟨b.trans (k1.trans k'), offV v t, b.trans k1, k', ?_, fun x hx => ?_⟩
  · rw [List.map_append]; exact a'
  · rcases List.mem_append.1 hx with q | q
    · exact (hR x q).sub k1
    · rw [List.mem_singleton] at q; rw [q]; exact hwc
theorem fill_en {n : Int} {w : AVal} {l : List Nat} (hw : w.one = true) {R : List AVal → Prop} (h : R (enR (n, w, l))) : optK (fillR [(.int .u32 0), .nilslc] [(0, 1, .int .u32 n), (1, 1, w)]) R := by
  refine optK_of (a := enR (n, w, l)) ?_ h
  show cond (Nat.beq w.cells.length 1 && Nat.ble (1 + w.cells.length) 2) (fillR (setRange [.int .u32 n, .nilslc] 1 w.cells) []) none = _
  rw [one_cells hw]
  rfl
theorem fill_one {zs c : List AVal} (h : c.length = zs.length) : fillR (repl 1 zs) [(0, zs.length, .agg c)] = some c := by
  have e0 : repl 1 zs = zs := by simp [repl]
  rw [e0]
  have e2 : Nat.beq c.length zs.length = true := by rw [h]; exact Nat.beq_refl _
  have e3 : Nat.ble (0 + c.length) zs.length = true := Nat.ble_eq_true_of_le (by omega)
  simp only [fillR, cells_agg, e2, e3, Bool.and_self, cond_true]
  unfold setRange
  rw [List.take_zero, List.nil_append, List.drop_eq_nil_of_le (by omega), List.append_nil]
/-- one entry is laid and appended -/
theorem put_in {R : List EnV} {n : Int} {w : AVal} {l : List Nat} {t : Heap} (h : Ens s0 s v R) (k : Sub s t) (hw : Acc 3 s t w (iz l)) (hl : R.length ≤ 1000) (hK : ∀ v' s', Ens s0 s' v' (R ++ [(n, w, l)]) → K v' s') :
    optK (fillR [(.int .u32 0), .nilslc] [(0, 1, .int .u32 n), (1, 1, w)]) fun c_17 =>
      optK (fillR (repl 1 [(.int .u32 0), .nilslc]) [(0, 2, (.agg c_17))]) fun c_18 => allOne c_18 = true ∧ newK 86 c_18 (fun b_19 s_20 =>
      appK 86 2 v (.slc b_19 0 1 (some 1) 2) (fun v_21 s_22 => K v_21 s_22) s_20) t := by
  refine fill_en (l := l) hw.sl.one (optK_of (fill_one (zs := [(.int .u32 0), .nilslc]) (c := enR (n, w, l)) rfl) ⟨?_, new_step fun b s1 hb h1 u1 => ?_⟩)
  · show ((AVal.int .u32 n).one && (w.one && true)) = true
    rw [hw.sl.one]; rfl
  · refine h.put (k.trans (u1.sub hb)) (hw.sub (u1.sub hb)) (SlR.mk (rows := [enR (n, w, l)]) (by intro r hr; rw [List.mem_singleton] at hr; subst hr; rfl) (by simpa using h1) rfl (by simp)) hl hK
end Go.AM
namespace Go.AM
open Go Go.Proofs
variable {K : AVal → Heap → Prop} {s s' s0 t : Heap} {lv uv v y w : AVal} {N : Nat} {G : List Lnk} {U : List Bool} {d : Nat → Int} {L : List RLk}
/-! ### which entries a node has: plain law -/
noncomputable def ofE (N : Nat) (G : List Lnk) (U : List Bool) (x n : Nat) : Option (Int × List Nat) := if nrL G U (dF N G U n) x = [] then none else some (lbk n, nrL G U (dF N G U n) x)
noncomputable def ofP (N : Nat) (G : List Lnk) (U : List Bool) (x k : Nat) : List (Int × List Nat) := (List.range k).filterMap (ofE N G U x)
theorem ofP_succ {x k : Nat} : ofP N G U x (k + 1) = ofP N G U x k ++ (ofE N G U x k).toList := by
  unfold ofP
  rw [List.range_succ, List.filterMap_append]
  congr 1
theorem ofP_len {x k : Nat} : (ofP N G U x k).length ≤ k := by
  have := List.length_filterMap_le (ofE N G U x) (List.range k)
  rw [List.length_range] at this
  exact this
theorem nrL_dF (z : GOk N G U) {n x : Nat} (h : IsDist N G U n d) : nrL G U d x = nrL G U (dF N G U n) x := by
  unfold nrL
  rw [nearL_congr z fun m hm => dF_eq z h hm]
theorem nrL_nil {x : Nat} : nrL G U d x = [] ↔ parL G U d x = -1 := by
  unfold nrL
  rw [List.map_eq_nil_iff]
  rcases parL_cases G U d x with ⟨h1, h2⟩ | ⟨i, m, c, h1, _, l, h2⟩
  · exact ⟨fun _ => h1, fun _ => h2⟩
  · constructor
    · intro h
      rw [h2] at h
      cases h
    · intro h
      rw [h1] at h
      omega
/-- the program leaves out the node itself and those that it doesn't reach; the reference those with no next link: the same -/
theorem of_same (z : GOk N G U) (hN : N ≤ 40) {x n : Nat} (hx : x < N) (hn : n < N) (h : IsDist N G U x d) : nrL G U (dF N G U n) x = [] ↔ n = x ∨ d n < 0 := by
  have isn := dF_all z hN hn
  have sym : 0 ≤ dF N G U n x ↔ 0 ≤ d n := by
    rw [dist_con z isn hx, dist_con z h hn]
    exact ⟨Con.symm, Con.symm⟩
  rw [nrL_nil]
  constructor
  · intro hp
    by_cases e : n = x
    · exact .inl e
    · refine .inr ?_
      by_cases q : 0 ≤ d n
      · obtain ⟨i, hi⟩ := par_none z isn hx (sym.2 q) (Ne.symm e)
        rw [hp] at hi
        omega
      · omega
  · rintro (e | e)
    · rw [e]
      rw [e] at isn
      exact par_root z isn
    · exact par_neg z isn (by
        by_cases q : 0 ≤ dF N G U n x
        · have := sym.1 q; omega
        · omega)
open Classical in
noncomputable def ofEn (n : Int) (L : List RLk) (U : List Bool) (x : Int) : List (Int × List Nat) := if vld n L U ∧ 0 ≤ x ∧ x < n then ofP n.toNat (L.map toL) U x.toNat n.toNat else []
def kyE (x : EnV) : Int × List Nat := (x.1, x.2.2)
theorem sOf_in {n x : Int} (hl : SlR 3 s lv (L.map rwR)) (hlm : L.length ≤ 9223372036854775807) (hu : Sl s uv (U.map AVal.bool)) (hK : ∀ v s' R, Ens s s' v R → R.map kyE = ofEn n L U x → K v s') : wpCall Try.prog XX 13 [.int .i64 n, lv, uv, .int .i64 x] K s := by
  refine vc_fib_Of_in (Dist_in hl hlm hu fun dv s1 sub1 hno hyes => ?_)
  by_cases q : vld n L U ∧ 0 ≤ x ∧ x < n
  rotate_left
  · rw [hno q]
    have e : lenOfA .nilslc = some 0 := rfl
    simp only [e, optK_mk]
    refine ⟨fun ys t m => ys = [.nilslc, .int .i64 0] ∧ Sub s t, ⟨0, rfl, sub1⟩, ?_⟩
    rintro f t m ⟨hy, st⟩
    simp only [List.cons.injEq, and_true] at hy
    rw [hy.1, hy.2]
    simp only [vc_fib_Of_l0, arith_lss, optK_mk]
    have c : decide ((0 : Int) < ((0 : Nat) : Int)) = false := by decide
    rw [c]
    simp only [boolK_false]
    refine hK .nilslc t [] (Ens.nil.more st) ?_
    unfold ofEn
    rw [if_neg q]; rfl
  obtain ⟨hv, hx0, hxn⟩ := q
  obtain ⟨N, rfl⟩ : ∃ N : Nat, n = N := ⟨n.toNat, by omega⟩
  obtain ⟨x, rfl⟩ : ∃ y : Nat, x = y := ⟨x.toNat, by omega⟩
  have hx : x < N := by omega
  obtain ⟨d, db, isd, hbd, rfl, hdb, hd⟩ := hyes N x hv rfl hx rfl
  obtain ⟨z, hG, hN, hC, hrw⟩ := vld.gok hv
  have e : lenOfA (.slc db 0 N (some N) 1) = some N := rfl
  simp only [e, optK_mk]
  have eV : ofEn (N : Int) L U (x : Int) = ofP N (L.map toL) U x N := by
    unfold ofEn
    rw [if_pos ⟨hv, by omega, by omega⟩, Int.toNat_natCast, Int.toNat_natCast]
  refine ⟨fun ys t m => ∃ (k : Nat) (ov : AVal) (R : List EnV), ys = [ov, .int .i64 k] ∧ k ≤ N ∧ m = N - k ∧ Ens s1 t ov R ∧ R.map kyE = ofP N (L.map toL) U x k, ⟨_, 0, .nilslc, [], rfl, by omega, rfl, Ens.nil, rfl⟩, ?_⟩
  rintro f t m ⟨k, ov, R, hy, hk, rfl, en, hR⟩
  simp only [List.cons.injEq, and_true] at hy
  rw [hy.1, hy.2]
  have st := sub1.trans en.sub
  simp only [vc_fib_Of_l0, arith_lss, optK_mk]
  refine boolK_mk (fun hlt => ?_) (fun hge => ?_)
  rotate_left
  · have hge : k = N := by have := of_decide_eq_false hge; omega
    subst hge
    refine hK ov t R ⟨st, ?_⟩ (hR.trans eV.symm)
    obtain ⟨sb, b, c, e, f⟩ := en.ex
    exact ⟨sb, sub1.trans b, c, e, fun x hx => (f x hx).weak sub1⟩
  have hlt : k < N := by have := of_decide_eq_true hlt; omega
  have hdt := en.sub _ _ hd
  have hRl : R.length ≤ 1000 := by
    have h1 := ofP_len (N := N) (G := L.map toL) (U := U) (x := x) (k := k)
    rw [← hR, List.length_map] at h1
    omega
  have ad : iaddrS 1 (.slc db 0 N (some N) 1) (.int .i64 (k : Int)) = some (.ptr db k) := dl_ad hlt
  have nx : ∀ (ov' : AVal) (R' : List EnV) (t' : Heap), Ens s1 t' ov' R' → R'.map kyE = ofP N (L.map toL) U x (k + 1) → vc_fib_Of_j1 XX ov' (.int .i64 (k : Int)) (fun ys t m => ∃ (k : Nat) (ov : AVal) (R : List EnV), ys = [ov, .int .i64 k] ∧ k ≤ N ∧ m = N - k ∧ Ens s1 t ov R ∧ R.map kyE = ofP N (L.map toL) U x k) (N - k) K t' := fun ov' R' t' h1 h2 => by
    simp only [vc_fib_Of_j1, arith_add, optK_mk]
    rw [wrap64 (by omega) (by omega)]
    exact ⟨_, by omega, k + 1, ov', R', rfl, by omega, rfl, h1, h2⟩
  have os := of_same z (by omega) hx hlt isd
  have skip : nrL (L.map toL) U (dF N (L.map toL) U k) x = [] → ofP N (L.map toL) U x (k + 1) = ofP N (L.map toL) U x k := fun h => by
    rw [ofP_succ]
    unfold ofE
    rw [if_pos h]
    simp
  simp only [ad, rd1_mk hdt, dl_get hlt, eqV_int, negB_mk, Bool.false_bne, optK_mk]
  cases c1 : ((k : Int) == (x : Int)) with
  | true =>
    have c1 : k = x := by have := eq_of_beq c1; omega
    simp only [boolK_true, vc_fib_Of_j2, pickV_true, optK_mk]
    exact nx ov R t en (hR.trans (skip (os.2 (.inl c1))).symm)
  | false =>
  have c1 : ¬ k = x := by
    have : ¬ (k : Int) = (x : Int) := by simpa using c1
    omega
  simp only [boolK_false, arith_lss, optK_mk]
  by_cases c2 : d k < 0
  · rw [decide_eq_true c2]
    simp only [vc_fib_Of_j2, pickV_false, boolK_true, optK_mk]
    exact nx ov R t en (hR.trans (skip (os.2 (.inr c2))).symm)
  rw [decide_eq_false c2]
  simp only [vc_fib_Of_j2, pickV_false, boolK_false, optK_mk]
  refine aLoop_in (by omega) ?_
  have x0 : extractA (.tup [.int .u32 (lbk k), .int .i64 0]) 0 = some (.int .u32 (lbk k)) := rfl
  have x1 : extractA (.tup [.int .u32 (lbk k), .int .i64 0]) 1 = some (.int .i64 0) := rfl
  have x2 : negB false (eqV 0 true (.int .i64 0) (.int .i64 0)) = some (.bool true) := rfl
  simp only [x0, x1, x2, boolK_true, optK_mk]
  refine sNext_in (hl.sub st) (hu.sub st) hv hx hlt fun w t2 d2 isd2 ac sub2 => ?_
  have hne : ¬ nrL (L.map toL) U (dF N (L.map toL) U k) x = [] := fun h => by
    rcases os.1 h with q | q
    · exact c1 q
    · exact c2 q
  refine put_in en sub2 ac hRl fun v' t3 en' => nx v' _ t3 en' ?_
  rw [List.map_append, hR, ofP_succ]
  congr 1
  unfold ofE
  rw [if_neg hne, ← nrL_dF z isd2]
  rfl
end Go.AM
namespace Go.AM
open Go Go.Proofs
variable {K : AVal → Heap → Prop} {s s' s0 t : Heap} {lv uv v y w : AVal} {N : Nat} {G : List Lnk} {U : List Bool} {d : Nat → Int} {L : List RLk}
theorem cells27 : Try.prog.cellsOf 27 = 3 := by kernel_rfl
set_option maxRecDepth 100000 in
theorem inp_lk {d : Nat} {xs : List AVal} (h : Inp Try.prog s (d + 2) 27 xs) : ∃ a : RLk, xs = rwR a ∧ True := by
  unfold Inp at h
  simp only [Try.underlying27] at h
  obtain ⟨h1, h2⟩ := h
  rw [cells27] at h1
  have k0 := h2 _ (List.mem_cons_self)
  have k1 := h2 _ (List.mem_cons_of_mem _ List.mem_cons_self)
  have k2 := h2 _ (List.mem_cons_of_mem _ (List.mem_cons_of_mem _ List.mem_cons_self))
  match xs, h1 with
  | [a, b, c], _ =>
    obtain ⟨n, e1, _⟩ := inp_int (xs := [a]) Try.underlying3 k0
    obtain ⟨q, e2, _⟩ := inp_int (xs := [b]) Try.underlying3 k1
    obtain ⟨w, e3, _⟩ := inp_int (xs := [c]) Try.underlying3 k2
    cases e1; cases e2; cases e3
    exact ⟨(n, q, w), rfl, trivial⟩
end Go.AM
