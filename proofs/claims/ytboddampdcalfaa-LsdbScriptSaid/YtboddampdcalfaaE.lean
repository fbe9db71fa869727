/- Part E of a calculus over a small memory that is proved to answer as the program does, and of its use for the functions that the law reaches: see the last part. -/
import Derived.Test.YtboddampdcalfaaD
import Derived.Test.YtboddampdcalfaaV
set_option maxRecDepth 100000
namespace Go.AM
open Go Go.Proofs
variable {K : AVal → Heap → Prop} {s s' s0 : Heap} {Fz : Nat → Prop} {d m : Nat} {nodes node last n q : Int} {F G : List (Int × Rec)} {v : AVal} {L : List Int}
/-! ### results that may be overwritten -/
/-- a list of one's own, in a new block -/
def Fre (s s' : Heap) (v : AVal) (l : List Int) : Prop := ∀ b o n c, v = .slc b o n c 1 → l ≠ [] → s b = none ∧ ∃ e cs, s' b = some (false, .cells e cs)
theorem CloneW_in {v : AVal} {l : List Int} (h : Sli s v l) (hl : l.length ≤ 10000000) (hK : ∀ v' s', Sub s s' → Sli s' v' l → Fre s s' v' l → K v' s') : wpCall Try.prog XX 67 [v] K s := by
  refine vc_slices_Clone___int_int__in ?_
  have cases0 : (v = .nilslc ∧ l = []) ∨ ∃ b o c, v = .slc b o l.length c 1 := by
    rcases h with ⟨a, b⟩ | ⟨b, o, c, a, _⟩
    · exact .inl ⟨a, by simpa using b⟩
    · exact .inr ⟨b, o, c, by simpa using a⟩
  rcases cases0 with ⟨rfl, rfl⟩ | ⟨b, o, c, rfl⟩
  · simp only [vc_slices_Clone___int_int_, eqV_nilslc, negB_mk, Bool.false_bne, optK_mk, boolK_true]
    exact hK _ _ (.refl s) h fun _ _ _ _ _ h => absurd rfl h
  · simp only [vc_slices_Clone___int_int_, eqV_slc, negB_mk, Bool.false_bne, optK_mk, boolK_false]
    refine optK_of (a := []) rfl ⟨rfl, new_step fun d s1 hd h1 u1 => ?_⟩
    have sub1 := u1.sub hd
    refine app_copy (h.sub sub1) (by rw [List.length_map]; omega) fun v' s2 sub2 q1 q2 => hK v' s2 (sub1.trans sub2) ?_ fun b o n c e hne => ?_
    · by_cases e : l = []
      · subst e
        rw [q1 rfl]
        exact .inr ⟨d, 0, some 0, rfl, by simp, fun h => absurd rfl h⟩
      · obtain ⟨c, e1, e2, e3⟩ := q2 (by simpa using e)
        rw [e2]
        exact Sl.mk e3 rfl (by simp)
    · obtain ⟨c, e1, e2, e3⟩ := q2 (by simpa using hne)
      rw [e2] at e
      injection e with e
      rw [← e]
      refine ⟨?_, _, _, e3⟩
      cases q : s c with
      | none => rfl
      | some x => rw [sub1 c x q] at e1; cases e1
theorem cloneW_in {n q : Int} {v : AVal} {l : List Int} (h : Sli s v l) (hl : l.length ≤ 10000000) (hK : ∀ v' s', Sub s s' → Sli s' v' l → Fre s s' v' l → K (recV n q v') s') : wpCall Try.prog XX 54 [recV n q v] K s := by
  refine vc_lsdb_clone_in (box3 rfl rfl h.one fun b0 s1 hb0 h1 u1 => new_step fun b2 s2 hb2 h2 u2 => ?_)
  have sub1 := u1.sub hb0
  have sub2 := sub1.trans (u2.sub hb2)
  have h12 := u2.sub hb2 _ _ h1
  have hne : b0 ≠ b2 := ne_of_some hb2 h1
  have q2 : [AVal.int .i64 n, .int .i64 q, v][2]? = some v := rfl
  simp only [addOff_ptr, Nat.zero_add, rd1_mk h12, q2, optK_mk]
  refine CloneW_in (h.sub sub2) hl fun v' s3 sub3 sl3 fr3 => ?_
  have h13 := sub3 _ _ h12
  refine wr1_step h13 (by simp) sl3.one fun s4 h4 u4 => ?_
  have h4 : s4 b0 = some (false, .cells 24 [.int .i64 n, .int .i64 q, v']) := h4
  have h24 : s4 b2 = _ := (u4 b2 hne.symm).trans (sub3 _ _ h2)
  simp only [rdN_all (n := 3) h4 rfl, optK_mk]
  refine wrAgg_step h24 rfl rfl (by rw [allOne_cons, allOne_cons, allOne_cons, sl3.one]; rfl) fun s5 h5 u5 => ?_
  have h5 : s5 b2 = some (false, .cells 24 [.int .i64 n, .int .i64 q, v']) := h5
  simp only [rdN_all (n := 3) h5 rfl, optK_mk]
  have old : ∀ b, s2 b = none → s b = none := fun b hb => by
    cases q : s b with
    | none => rfl
    | some x => rw [sub2 b x q] at hb; cases hb
  have hb0s : s b0 = none := hb0
  have hb2s : s b2 = none := by
    cases q : s b2 with
    | none => rfl
    | some x => rw [sub1 b2 x q] at hb2; cases hb2
  have far : ∀ b o n c, v' = .slc b o n c 1 → l ≠ [] → b ≠ b0 ∧ b ≠ b2 := fun b o n c e hne => by
    have := (fr3 b o n c e hne).1
    exact ⟨(by rintro rfl; rw [h12] at this; cases this), (by rintro rfl; rw [h2] at this; cases this)⟩
  refine hK v' s5 (((sub2.trans sub3).upto u4 hb0s).upto u5 hb2s) ?_ fun b o n c e hne => ?_
  · refine Sl.keep (fp := fun i => i = b0 ∨ i = b2) sl3 ((u4.keep (.inl rfl)).trans (u5.keep (.inr rfl))) fun b o n c e hne => ?_
    have := far b o n c e (by simpa using hne)
    rintro (h | h)
    · exact this.1 h
    · exact this.2 h
  · obtain ⟨h0, e0, cs0, h9⟩ := fr3 b o n c e hne
    obtain ⟨n1, n2⟩ := far b o n c e hne
    exact ⟨old b h0, e0, cs0, by rw [u5 b n2, u4 b n1]; exact h9⟩
/-- records whose lists are one's own -/
def RcW (s0 s : Heap) (v : AVal) (rs : List Rec) : Prop := ∃ rows, SlR 3 s v rows ∧ rows.length = rs.length ∧ (∀ b o n c, v = .slc b o n c 3 → rows ≠ [] → s0 b = none) ∧ ∀ (i : Nat) (r : Rec), rs[i]? = some r → ∃ lv, rows[i]? = some [.int .i64 r.1, .int .i64 r.2.1, lv] ∧ Sli s lv r.2.2 ∧ ∀ b o n c, lv = .slc b o n c 1 → r.2.2 ≠ [] → s0 b = none ∧ (∃ e cs, s b = some (false, .cells e cs)) ∧ ∀ b' o' n' c', v = .slc b' o' n' c' 3 → b ≠ b'
theorem RcW.rcs {rs : List Rec} (h : RcW s0 s v rs) : Rcs s v rs := by
  obtain ⟨rows, h1, h2, _, h3⟩ := h
  exact ⟨rows, h1, h2, fun i r hi => by obtain ⟨lv, e1, e2, _⟩ := h3 i r hi; exact ⟨lv, e1, e2⟩⟩
theorem RcW.sub {rs : List Rec} (h : RcW s0 s v rs) (k : Sub s s') : RcW s0 s' v rs := by
  obtain ⟨rows, h1, h2, h0, h3⟩ := h
  refine ⟨rows, h1.sub k, h2, h0, fun i r hi => ?_⟩
  obtain ⟨lv, e1, e2, e3⟩ := h3 i r hi
  exact ⟨lv, e1, e2.sub k, fun b o n c e hne => by
    obtain ⟨a, ⟨e', cs, b'⟩, c'⟩ := e3 b o n c e hne
    exact ⟨a, ⟨e', cs, k _ _ b'⟩, c'⟩⟩
theorem RcW.base {rs : List Rec} {s1 : Heap} (h : RcW s1 s v rs) (k : Sub s0 s1) : RcW s0 s v rs := by
  have old : ∀ b, s1 b = none → s0 b = none := fun b hb => by
    cases q : s0 b with
    | none => rfl
    | some x => rw [k b x q] at hb; cases hb
  obtain ⟨rows, h1, h2, h0, h3⟩ := h
  exact ⟨rows, h1, h2, fun b o n c e hne => old b (h0 b o n c e hne), fun i r hi => by
    obtain ⟨lv, e1, e2, e3⟩ := h3 i r hi
    exact ⟨lv, e1, e2, fun b o n c e hne => by
      obtain ⟨a, b', c'⟩ := e3 b o n c e hne
      exact ⟨old b a, b', c'⟩⟩⟩
theorem AllW_in (z : Db Fz s d m nodes node last F) (hK : ∀ v s', Sub s s' → RcW s s' v (allR F) → K v s') : wpCall Try.prog XX 18 [.ptr d 0] K s := by
  refine vc_lsdb_DB_All_in (valid13_in z ?_)
  have p3 : [AVal.int .i64 nodes, .int .i64 node, .int .i64 last, .map m][3]? = some (.map m) := rfl
  obtain ⟨hnd, hlen⟩ := z.short
  obtain ⟨l, hm, hp⟩ := z.mp
  have hkeys := hp.keys
  have hll : l.length = F.length := by have := congrArg List.length hkeys; simpa using this
  have n0 : nat? (.int .i64 0) = some 0 := rfl
  simp only [unary_not, Bool.not_true, boolK_false, nilCheck_ptr, addOff_ptr, Nat.zero_add, rd1_mk z.dc, p3, hm.len, n0, nat?_mk, optK_mk]
  refine ⟨⟨Nat.zero_le _, by omega⟩, new_step fun b1 s1 hb1 h1 u1 => ?_⟩
  have sub1 := u1.sub hb1
  have z1 := z.sub sub1
  have hm1 : MapAt s1 m l := by obtain ⟨es, c, e, ho⟩ := hm; exact ⟨es, c, sub1 _ _ e, ho⟩
  simp only [rd1_mk z1.dc, p3, optK_mk]
  refine wp_keys (it := 66) rfl fun b2 s2 hb2 h2 u2 => ?_
  have sub2 := u2.sub hb2
  have hm2 : MapAt s2 m l := by obtain ⟨es, c, e, ho⟩ := hm1; exact ⟨es, c, sub2 _ _ e, ho⟩
  refine wp_sorted (its := [66]) (elem := 3) rfl rfl h2 hm2 (by omega) fun v17 s3 acc3 sub3 => ?_
  rw [hkeys] at acc3
  have sub13 := sub2.trans sub3
  have sub03 := sub1.trans sub13
  have ks : (sortI (F.map (·.1))).length = F.length := by rw [(sortI_perm _).length_eq, List.length_map]
  have hin : ∀ x ∈ sortI (F.map (·.1)), ∃ r, look F x = some r := fun x hx => look_mem ((sortI_perm _).mem_iff.1 hx)
  obtain ⟨al, aa⟩ := filterMap_all hin
  simp only [acc3.sl.len, List.length_map, ks, optK_mk]
  have acc3' : Acc 3 s s3 v17 (izs (sortI (F.map (·.1)))) := by
    rcases acc3 with h | ⟨b, h0, a, h2⟩
    · exact .inl h
    · refine .inr ⟨b, ?_, a, h2⟩
      cases q : s b with
      | none => rfl
      | some y => rw [sub2 b y (sub1 b y q)] at h0; cases h0
  rw [hll] at h1 ⊢
  refine ⟨fun ys s4 k => ∃ (i : Nat) (cs : List AVal) (rows : List (List AVal)), ys = [.slc b1 0 i (some F.length) 3, .int .i64 i] ∧ i ≤ F.length ∧ k = F.length - i ∧ Sub s s4 ∧ Acc 3 s s4 v17 (izs (sortI (F.map (·.1)))) ∧
    s4 b1 = some (false, .cells 24 cs) ∧ cs.length = F.length * 3 ∧ rows.length = i ∧ (∀ r ∈ rows, r.length = 3) ∧ cs.take (i * 3) = rows.flatten ∧
    ∀ (j : Nat) (r : Rec), j < i → (allR F)[j]? = some r → ∃ lv, rows[j]? = some [.int .i64 r.1, .int .i64 r.2.1, lv] ∧ Sli s4 lv r.2.2 ∧ ∀ b o n c, lv = .slc b o n c 1 → r.2.2 ≠ [] → b ≠ b1 ∧ s b = none ∧ ∃ e cs, s4 b = some (false, .cells e cs),
    ⟨_, 0, _, [], rfl, by omega, rfl, sub03, acc3', sub13 _ _ h1, repl_len rfl, rfl, by simp, by simp, fun j r h => by omega⟩, ?_⟩
  rintro f s4 k ⟨i, cs, rows, hy, hi, rfl, sub4, acc4, h4, hcs, hrl, hr3, htk, hrows⟩
  simp only [List.cons.injEq, and_true] at hy
  rw [hy.1, hy.2]
  have z4 := z.sub sub4
  simp only [vc_lsdb_DB_All_l0, arith_lss, optK_mk]
  refine boolK_mk (fun hlt => ?_) (fun hge => ?_)
  · have hlt : i < F.length := by have := of_decide_eq_true hlt; omega
    have hik : i < (sortI (F.map (·.1))).length := by rw [ks]; exact hlt
    obtain ⟨p, g1, g2⟩ := acc4.sl.get (i := i) (by rw [List.length_map]; exact hik)
    have e1 : (izs (sortI (F.map (·.1))))[i]? = some (.int .i64 (sortI (F.map (·.1)))[i]) := by simp [hik]
    rw [e1] at g2
    obtain ⟨l4, hm4, hp4⟩ := z4.mp
    obtain ⟨o, ho⟩ := hin _ (List.getElem_mem hik)
    have hall : (allR F)[i]? = some o := aa i _ o (List.getElem?_eq_getElem hik) ho
    rcases hp4.look (sortI (F.map (·.1)))[i] with ⟨_, h6⟩ | ⟨a, o2, h5, h6, lo, rfl, hlo, _⟩
    · rw [h6] at ho; cases ho
    · rw [ho] at h6; cases h6
      have hol := (z.gd _ _ ho).2.2
      simp only [g1, g2, nilCheck_ptr, addOff_ptr, Nat.zero_add, rd1_mk z4.dc, p3, hm4.get, h5, retM, cond_false, optK_mk]
      refine cloneW_in hlo (by omega) fun lv' s5 sub5 sl5 fr5 => ?_
      have h5b := sub5 _ _ h4
      refine optK_of (fillr3 rfl) ⟨by show allOne [AVal.int .i64 o.1, .int .i64 o.2.1, lv'] = true; rw [allOne_cons, allOne_cons, allOne_cons, sl5.one]; rfl, new_step fun b6 s6 hb6 h6 u6 => ?_⟩
      have sub6 := u6.sub hb6
      have lit : SlR 3 s6 (.slc b6 0 1 (some 1) 3) [[.int .i64 o.1, .int .i64 o.2.1, lv']] := SlR.mk (rows := [[.int .i64 o.1, .int .i64 o.2.1, lv']]) (by intro r hr; rw [List.mem_singleton] at hr; subst hr; rfl) (by simpa using h6) rfl (by simp)
      have hb1s : s b1 = none := hb1
      refine app_cap (sub6 _ _ h5b) lit hlt hcs rfl (by rw [allOne_cons, allOne_cons, allOne_cons, sl5.one]; rfl) fun s7 h7 u7 => ?_
      have sub46 := sub5.trans sub6
      have sub7 : Sub s s7 := (sub4.trans sub46).upto u7 hb1s
      have hle : i * 3 + 3 ≤ cs.length := by rw [hcs]; omega
      simp only [arith_add, optK_mk]
      rw [wrap64 (by omega) (by omega)]
      refine ⟨F.length - (i + 1), by omega, i + 1, _, rows ++ [[.int .i64 o.1, .int .i64 o.2.1, lv']], rfl, by omega, rfl, sub7, ?_, h7, ?_, by rw [List.length_append, hrl]; rfl, fun r hr => ?_, ?_, fun j r hj hr => ?_⟩
      · rcases acc4 with h | ⟨b, h0, a, h2⟩
        · exact .inl h
        · refine .inr ⟨b, h0, a, ?_⟩
          rw [u7 b (by rintro rfl; rw [h4] at h2; cases h2)]
          exact sub46 _ _ h2
      · rw [setRange_len (by show i * 3 + 3 ≤ _; exact hle)]; exact hcs
      · rw [List.mem_append, List.mem_singleton] at hr
        rcases hr with hr | rfl
        · exact hr3 r hr
        · rfl
      · have := setRange_take (cs := cs) (row := [.int .i64 o.1, .int .i64 o.2.1, lv']) (o := i * 3) (by omega)
        rw [show (i + 1) * 3 = i * 3 + [AVal.int .i64 o.1, .int .i64 o.2.1, lv'].length by show (i + 1) * 3 = i * 3 + 3; omega, this, htk, List.flatten_append]
        simp
      · by_cases e : j = i
        · subst e
          rw [hall] at hr; cases hr
          refine ⟨lv', by rw [List.getElem?_append_right (by omega), hrl, Nat.sub_self]; rfl, ?_, fun b o1 n1 c1 e hne => ?_⟩
          · refine (sl5.sub sub6).keep (fp := fun i => i = b1) (u7.keep rfl) fun b o1 n1 c1 e hne hb => ?_
            have := (fr5 b o1 n1 c1 e (by simpa using hne)).1
            rw [hb, h4] at this; cases this
          · obtain ⟨this, e0, cs0, h0⟩ := fr5 b o1 n1 c1 e hne
            have hb1b : b ≠ b1 := by rintro rfl; rw [h4] at this; cases this
            refine ⟨hb1b, ?_, e0, cs0, by rw [u7 b hb1b]; exact sub6 _ _ h0⟩
            cases q : s b with
            | none => rfl
            | some x => rw [sub4 b x q] at this; cases this
        · obtain ⟨lv, x1, x2, x3⟩ := hrows j r (by omega) hr
          exact ⟨lv, by rw [List.getElem?_append_left (by omega)]; exact x1, (x2.sub sub46).keep (fp := fun i => i = b1) (u7.keep rfl) fun b o1 n1 c1 e hne => (x3 b o1 n1 c1 e (by simpa using hne)).1, fun b o1 n1 c1 e hne => by
            obtain ⟨y1, y2, e0, cs0, h0⟩ := x3 b o1 n1 c1 e hne
            exact ⟨y1, y2, e0, cs0, by rw [u7 b y1]; exact sub46 _ _ h0⟩⟩
  · have hge : i = F.length := by have := of_decide_eq_false hge; omega
    subst hge
    rw [List.take_of_length_le (by omega)] at htk
    have al2 : (allR F).length = F.length := al.trans ks
    refine hK _ s4 sub4 ⟨rows, ?_, by rw [hrl, al2], fun b o n c e _ => ?_, fun j r hr => ?_⟩
    · refine SlR.mk hr3 (by rw [← htk]; exact h4) hrl.symm fun c e => by cases e; omega
    · injection e with e
      rw [← e]
      exact hb1
    · have hj : j < F.length := by
        have := (List.getElem?_eq_some_iff.1 hr).1
        omega
      obtain ⟨lv, x1, x2, x3⟩ := hrows j r hj hr
      exact ⟨lv, x1, x2, fun b o n c e hne => ⟨(x3 b o n c e hne).2.1, (x3 b o n c e hne).2.2, fun b' o' n' c' e' => by injection e' with e'; rw [← e']; exact (x3 b o n c e hne).1⟩⟩
/-! ### overwriting -/
theorem over_gen {fp : Nat → Prop} {rs : List Rec} {rows : List (List AVal)} (h1 : SlR 3 s v rows) (h2 : rows.length = rs.length) (h3 : ∀ (i : Nat) (r : Rec), rs[i]? = some r → ∃ lv, rows[i]? = some [.int .i64 r.1, .int .i64 r.2.1, lv] ∧ Sli s lv r.2.2 ∧ ∀ b o n c, lv = .slc b o n c 1 → r.2.2 ≠ [] → fp b ∧ (∃ e cs, s b = some (false, .cells e cs)) ∧ ∀ b' o' n' c', v = .slc b' o' n' c' 3 → b ≠ b') (hl : rs.length ≤ 100000) (hr : ∀ r ∈ rs, r.2.2.length ≤ 1000000) (hK : ∀ s', KeepBut fp s s' → K (.tup []) s') : wpCall Try.prog XX 40 [v] K s := by
  refine vc_leafmeshlaw13_over_in ?_
  unfold vc_leafmeshlaw13_over
  -- what stays
  let Inv : Heap → Prop := fun t => KeepBut fp s t ∧ SlR 3 t v rows ∧ ∀ (i : Nat) (r : Rec), rs[i]? = some r → ∃ lv, rows[i]? = some [.int .i64 r.1, .int .i64 r.2.1, lv] ∧ lenOfA lv = some r.2.2.length ∧ (r.2.2 ≠ [] → ∃ b o c, lv = .slc b o r.2.2.length c 1 ∧ fp b ∧ (∀ b' o' n' c', v = .slc b' o' n' c' 3 → b ≠ b') ∧ ∃ e cs, t b = some (false, .cells e cs) ∧ o + r.2.2.length ≤ cs.length)
  have i0 : Inv s := by
    refine ⟨fun b e hb _ => hb, h1, fun i r hi => ?_⟩
    obtain ⟨lv, e1, e2, e3⟩ := h3 i r hi
    refine ⟨lv, e1, by rw [e2.len, List.length_map], fun hne => ?_⟩
    rcases e2 with ⟨_, hn⟩ | ⟨b, o, c, a1, a2, a3⟩
    · exact absurd (List.map_eq_nil_iff.1 hn) hne
    · rw [List.length_map] at a1
      obtain ⟨f1, ⟨e, cs, f2⟩, f3⟩ := e3 b o _ c a1 hne
      obtain ⟨t, e', cs', g1, g2⟩ := a3 (by simpa using hne)
      rw [f2] at g1
      cases g1
      refine ⟨b, o, c, a1, f1, f3, e, cs, f2, ?_⟩
      have := g2.1
      rw [List.length_map] at this
      exact this
  refine ⟨fun ys t m => ∃ i : Nat, ys = [.int .i64 (i : Int)] ∧ Inv t ∧ i ≤ rs.length ∧ m = rs.length - i, ⟨_, 0, rfl, i0, by omega, rfl⟩, ?_⟩
  rintro en t m ⟨i, hy, it, hi, rfl⟩
  simp only [List.cons.injEq, and_true] at hy
  rw [hy]
  simp only [vc_leafmeshlaw13_over_l0, it.2.1.len, h2, arith_lss, optK_mk]
  refine boolK_mk (fun hlt => ?_) (fun _ => hK t it.1)
  have hlt : i < rs.length := by have := of_decide_eq_true hlt; omega
  have hri : rs[i]? = some rs[i] := List.getElem?_eq_getElem hlt
  have hrl := hr rs[i] (List.getElem_mem hlt)
  generalize rs[i] = r at hri hrl
  refine ⟨fun ys t m => ∃ k : Nat, ys = [.int .i64 (k : Int)] ∧ Inv t ∧ k ≤ r.2.2.length ∧ m = r.2.2.length - k, ⟨_, 0, rfl, it, by omega, rfl⟩, ?_⟩
  rintro en2 t2 m2 ⟨k, hy, it2, hk, rfl⟩
  simp only [List.cons.injEq, and_true] at hy
  rw [hy]
  obtain ⟨kt, slr, hrow⟩ := it2
  obtain ⟨lv, r1, r2, r3⟩ := hrow i r hri
  obtain ⟨rb, ro, a1, a2, a3⟩ := slr.get r1
  have a4 : rd1 t2 (.ptr rb (ro + 2)) = some lv := a3 2 (by omega)
  simp only [vc_leafmeshlaw13_over_l1, a1, addOff_ptr, a4, r2, arith_lss, optK_mk]
  refine boolK_mk (fun hlt2 => ?_) (fun hge2 => ?_)
  · have hlt2 : k < r.2.2.length := by have := of_decide_eq_true hlt2; omega
    obtain ⟨b, o, c, rfl, f1, f2, e, cs, f3, f4⟩ := r3 (by intro h; rw [h] at hlt2; simp at hlt2)
    have ia : iaddrS 1 (.slc b o r.2.2.length c 1) (.int .i64 (k : Int)) = some (.ptr b (o + k)) := by
      have : Nat.blt k r.2.2.length = true := by rw [Nat.blt_eq]; exact hlt2
      simp [iaddrS, this]
    simp only [ia, optK_mk]
    refine wr1_step f3 (by omega) rfl fun s13 h13 u13 => ?_
    simp only [arith_add, optK_mk]
    rw [wrap64 (by omega) (by omega)]
    refine ⟨_, by omega, k + 1, rfl, ⟨kt.trans (u13.keep f1), slr.keep (fp := fun i => i = b) (u13.keep rfl) fun b' o' n' c' e' _ hb => f2 b' o' n' c' e' hb.symm, fun j r' hj => ?_⟩, by omega, rfl⟩
    obtain ⟨lv', q1, q2, q3⟩ := hrow j r' hj
    refine ⟨lv', q1, q2, fun hne => ?_⟩
    obtain ⟨b', o', c', y1, y2, y3, e', cs', y4, y5⟩ := q3 hne
    by_cases hb : b' = b
    · subst hb
      rw [f3] at y4
      cases y4
      exact ⟨b', o', c', y1, y2, y3, _, _, h13, by rw [List.length_set]; exact y5⟩
    · exact ⟨b', o', c', y1, y2, y3, e', cs', by rw [u13 b' hb]; exact y4, y5⟩
  · simp only [arith_add, optK_mk]
    rw [wrap64 (by omega) (by omega)]
    exact ⟨_, by omega, i + 1, rfl, ⟨kt, slr, hrow⟩, by omega, rfl⟩
theorem over_in {rs : List Rec} (h : RcW s0 s v rs) (hl : rs.length ≤ 100000) (hr : ∀ r ∈ rs, r.2.2.length ≤ 1000000) (hK : ∀ s', KeepBut (fun b => s0 b = none) s s' → K (.tup []) s') : wpCall Try.prog XX 40 [v] K s := by
  obtain ⟨rows, h1, h2, _, h3⟩ := h
  exact over_gen h1 h2 h3 hl hr hK
/-- one record, in a list that is laid for the call -/
theorem over1_in {fp : Nat → Prop} {r : Rec} {lv : AVal} {c : Nat} (hc : s c = some (false, .cells 24 [.int .i64 r.1, .int .i64 r.2.1, lv])) (h : Sli s lv r.2.2) (hf : ∀ b o n k, lv = .slc b o n k 1 → r.2.2 ≠ [] → fp b ∧ b ≠ c ∧ ∃ e cs, s b = some (false, .cells e cs)) (hl : r.2.2.length ≤ 1000000) (hK : ∀ s', KeepBut fp s s' → K (.tup []) s') : wpCall Try.prog XX 40 [.slc c 0 1 (some 1) 3] K s := by
  refine over_gen (rs := [r]) (rows := [[.int .i64 r.1, .int .i64 r.2.1, lv]]) (SlR.mk (by intro x hx; rw [List.mem_singleton] at hx; subst hx; rfl) (by simpa using hc) rfl (by intro k e; cases e; simp)) rfl (fun i x hi => ?_) (by simp) (by intro x hx; rw [List.mem_singleton] at hx; subst hx; exact hl) hK
  match i, hi with
  | 0, hi =>
    cases hi
    refine ⟨lv, rfl, h, fun b o n k e hne => ?_⟩
    obtain ⟨a1, a2, a3⟩ := hf b o n k e hne
    exact ⟨a1, a3, fun b' o' n' c' e' => by injection e' with e'; rw [← e']; exact a2⟩
/-- what is overwritten was not there before: the rest stays -/
theorem keep_new_sub {s1 : Heap} (k : Sub s0 s1) (h : KeepBut (fun b => s0 b = none) s1 s') : Sub s0 s' := fun i e hi => h i e (k i e hi) (by show ¬ s0 i = none; rw [hi]; simp)
end Go.AM
set_option maxRecDepth 100000
namespace Go.AM
open Go Go.Proofs
variable {K : AVal → Heap → Prop} {s s' s0 : Heap} {Fz : Nat → Prop} {d m : Nat} {nodes node last n q : Int} {F G : List (Int × Rec)} {v w : AVal} {L : List Int}
/-! ### which lists are strictly ascending -/
theorem chk_asc : ∀ {l : List Int} {p : Option Int}, chkL p l = 0 → l.Pairwise (· < ·) ∧ ∀ q, p = some q → ∀ x ∈ l, q < x
  | [], _, _ => ⟨List.Pairwise.nil, fun _ _ _ h => by cases h⟩
  | x :: l, p, h => by
    unfold chkL at h
    split at h
    · cases h
    · split at h
      · cases h
      · rename_i h1 h2
        obtain ⟨a, b⟩ := chk_asc h
        have b := b x rfl
        refine ⟨List.pairwise_cons.2 ⟨b, a⟩, fun q hq y hy => ?_⟩
        subst hq
        have hqx : q < x := by simpa using h2
        rcases List.mem_cons.1 hy with rfl | hy
        · exact hqx
        · have := b y hy; omega
/-! ### more blocks that are none of its own -/
theorem Sl.was {l : List AVal} (h : Sl s v l) : ∀ b o n c, v = .slc b o n c 1 → l ≠ [] → s b ≠ none := fun b o n c e hne => by
  rcases h with ⟨_, hn⟩ | ⟨b', o', c', a1, _, a3⟩
  · exact absurd hn hne
  · rw [a1] at e
    injection e with e
    subst e
    obtain ⟨t, e, cs, g1, _⟩ := a3 hne
    rw [g1]; simp
theorem Db.more (z : Db Fz s d m nodes node last F) : Db (fun b => Fz b ∨ s b = none) s d m nodes node last F := by
  obtain ⟨l, ⟨es, c, h1, h2⟩, h3⟩ := z.mp
  refine ⟨z.dc, ⟨l, ⟨es, c, h1, h2⟩, h3.mono fun a b ⟨lv, e, h4, h5⟩ => ⟨lv, e, h4, fun b' o n c e' hne => ⟨?_, (h5 b' o n c e' hne).2⟩⟩⟩, ?_, ?_, z.nn, z.gd⟩
  · rintro (h | h)
    · exact (h5 b' o n c e' hne).1 h
    · exact h4.was b' o n c e' (by simpa using hne) h
  · rintro (h | h)
    · exact z.fd h
    · rw [z.dc] at h; cases h
  · rintro (h | h)
    · exact z.fm h
    · rw [h1] at h; cases h
/-! ### Get -/
def gotR (F : List (Int × Rec)) (n : Int) : Rec := (look F n).getD (0, 0, [])
theorem GetW_in (z : Db Fz s d m nodes node last F) (hK : ∀ s' v', Sub s s' → Sli s' v' (gotR F n).2.2 → Fre s s' v' (gotR F n).2.2 → K (.tup [recV (gotR F n).1 (gotR F n).2.1 v', .bool (look F n).isSome]) s') : wpCall Try.prog XX 33 [.ptr d 0, .int .i64 n] K s := by
  refine vc_lsdb_DB_Get_in (new_step fun b0 s1 hb0 h1 u1 => ?_)
  have sub1 := u1.sub hb0
  have z1 := z.sub sub1
  refine valid13_in z1 ?_
  have p3 : [AVal.int .i64 nodes, .int .i64 node, .int .i64 last, .map m][3]? = some (.map m) := rfl
  obtain ⟨l, hm, hp⟩ := z1.mp
  have go : ∀ (o : Rec) (lo : AVal) (is : Bool), Sli s1 lo o.2.2 → o.2.2.length ≤ 100000 → gotR F n = o → (look F n).isSome = is → newK 24 [(.int .i64 0), (.int .i64 0), .nilslc] (fun b_14 s_15 =>
      optK (wrAgg s_15 3 (.ptr b_14 0) (recV o.1 o.2.1 lo)) fun s_16 =>
      optK (rdN s_16 3 (.ptr b_14 0)) fun v_17 =>
      wpCall Try.prog XX 54 [(.agg v_17)] (fun v_18 s_19 =>
      optK (wrAgg s_19 3 (.ptr b0 0) v_18) fun s_20 =>
      optK (rdN s_20 3 (.ptr b0 0)) fun t4_21 =>
      K (.tup [(.agg t4_21), .bool is]) s_20) s_16) s1 := fun o lo is hlo hol hg his => by
    rw [hg, his] at hK
    refine new_step fun b2 s2 hb2 h2 u2 => wrAgg_step h2 rfl rfl (by rw [allOne_cons, allOne_cons, allOne_cons, hlo.one]; rfl) fun s3 h3' u3 => ?_
    have h3' : s3 b2 = some (false, .cells 24 [.int .i64 o.1, .int .i64 o.2.1, lo]) := h3'
    have sub13 : Sub s1 s3 := (u2.sub hb2).upto u3 hb2
    simp only [rdN_all (n := 3) h3' rfl, optK_mk]
    refine cloneW_in (hlo.sub sub13) (by omega) fun v4 s4 sub4 sl4 fr4 => ?_
    have h14 := sub4 _ _ (sub13 _ _ h1)
    refine wrAgg_step h14 rfl rfl (by rw [allOne_cons, allOne_cons, allOne_cons, sl4.one]; rfl) fun s5 h5 u5 => ?_
    have h5 : s5 b0 = some (false, .cells 24 [.int .i64 o.1, .int .i64 o.2.1, v4]) := h5
    simp only [rdN_all (n := 3) h5 rfl, optK_mk]
    have old : ∀ b, s3 b = none → s b = none := fun b hb => by
      cases q : s b with
      | none => rfl
      | some x => rw [sub13 _ _ (sub1 b x q)] at hb; cases hb
    have far : ∀ b o1 n c, v4 = .slc b o1 n c 1 → o.2.2 ≠ [] → b ≠ b0 := fun b o1 n c e hne => by
      have := (fr4 b o1 n c e hne).1
      rintro rfl
      rw [sub13 _ _ h1] at this; cases this
    refine hK s5 v4 (((sub1.trans sub13).trans sub4).upto u5 hb0) ?_ fun b o1 n c e hne => ?_
    · exact sl4.keep (fp := fun i => i = b0) (u5.keep rfl) fun b o n c e hne hb => far b o n c e (by simpa using hne) hb
    · obtain ⟨g1, e0, cs0, g2⟩ := fr4 b o1 n c e hne
      exact ⟨old b g1, e0, cs0, by rw [u5 b (far b o1 n c e hne)]; exact g2⟩
  rcases hp.look n with ⟨h3, h4⟩ | ⟨a, o, h3, h4, lo, rfl, hlo, _⟩
  · simp only [unary_not, Bool.not_true, boolK_false, nilCheck_ptr, addOff_ptr, Nat.zero_add, rd1_mk z1.dc, p3, hm.get, h3, retM, cond_true, ext0, ext1, optK_mk]
    exact go (0, 0, []) .nilslc false (.inl ⟨rfl, rfl⟩) (by simp) (by unfold gotR; rw [h4]; rfl) (by rw [h4]; rfl)
  · simp only [unary_not, Bool.not_true, boolK_false, nilCheck_ptr, addOff_ptr, Nat.zero_add, rd1_mk z1.dc, p3, hm.get, h3, retM, cond_true, ext0, ext1, optK_mk]
    exact go o lo true hlo (z.gd _ _ h4).2.2 (by unfold gotR; rw [h4]; rfl) (by rw [h4]; rfl)
/-! ### slices.BinarySearch, slices.Equal -/
theorem Less_in {x y : Int} (hK : K (.bool (decide (x < y))) s) : wpCall Try.prog XX 73 [.int .i64 x, .int .i64 y] K s := by
  refine vc_cmp_Less_int__in (isNaN_in ?_)
  simp only [boolK_false, vc_cmp_Less_int__j0, pickV_false, optK_mk, arith_lss, vc_cmp_Less_int__j1]
  exact hK
theorem sNaN_in {x : Int} (hK : K (.bool false) s) : wpCall Try.prog XX 74 [.int .i64 x] K s := by
  refine vc_slices_isNaN_int__in ?_
  simp only [vc_slices_isNaN_int_, eqV_int, beq_self_eq_true, negB_mk, Bool.true_bne, Bool.not_true, optK_mk]
  exact hK
theorem cv_u {x : Nat} (h : x < 1000000000) : convI .u64 (.int .i64 (x : Int)) = some (.int .u64 (x : Int)) := by
  show some (AVal.int .u64 (wrapK .u64 (x : Int))) = _
  rw [wrapK_eq]
  congr 2
  simp only [IntKind.wrap, IntKind.signed, IntKind.bits]
  simp
  omega
theorem cv_i {x : Nat} (h : x < 1000000000) : convI .i64 (.int .u64 (x : Int)) = some (.int .i64 (x : Int)) := by
  show some (AVal.int .i64 (wrapK .i64 (x : Int))) = _
  rw [wrapK_eq, wrap64 (by omega) (by omega)]
theorem shr1 {x : Nat} : shiftV .shr (.int .u64 (x : Int)) (.int .u64 1) = some (.int .u64 ((x / 2 : Nat) : Int)) := by
  show frc ((x : Int).fdiv ((2 ^ (min 1 (IntKind.bits .u64)) : Nat) : Int)) (fun n => some (AVal.int .u64 n)) = _
  rw [frc_eq]
  congr 2
  show (x : Int).fdiv ((2 : Nat) : Int) = _
  rw [Int.fdiv_eq_ediv_of_nonneg _ (by omega)]
  omega
theorem BSearch_in {l : List Int} {x : Int} (h : Sli s v l) (hl : l.length ≤ 1000000) (ha : l.Pairwise (· < ·)) (hK : ∀ r, K (.tup [r, .bool (decide (x ∈ l))]) s) : wpCall Try.prog XX 68 [v, .int .i64 x] K s := by
  refine vc_slices_BinarySearch___int_int__in ?_
  have lt : ∀ {i j : Nat} (hi : i < l.length) (hj : j < l.length), i < j → l[i] < l[j] := fun hi hj hij => List.pairwise_iff_getElem.1 ha _ _ hi hj hij
  simp only [vc_slices_BinarySearch___int_int_, h.len, List.length_map, optK_mk]
  refine ⟨fun ys t k => ∃ i j : Nat, ys = [.int .i64 (i : Int), .int .i64 (j : Int)] ∧ t = s ∧ i ≤ j ∧ j ≤ l.length ∧ k = j - i ∧ (∀ a (ha : a < l.length), a < i → l[a] < x) ∧ ∀ a (ha : a < l.length), j ≤ a → x ≤ l[a], ⟨_, 0, l.length, rfl, rfl, by omega, by omega, rfl, fun a _ h => by omega, fun a h1 h2 => by omega⟩, ?_⟩
  rintro en t k ⟨i, j, hy, rfl, hij, hj, rfl, lo, hi⟩
  simp only [List.cons.injEq, and_true] at hy
  rw [hy.1, hy.2]
  simp only [vc_slices_BinarySearch___int_int__l0, arith_lss, optK_mk]
  refine boolK_mk (fun hlt => ?_) (fun hge => ?_)
  · have hlt : i < j := by have := of_decide_eq_true hlt; omega
    simp only [arith_add, optK_mk]
    rw [wrap64 (by omega) (by omega), show (i : Int) + (j : Int) = ((i + j : Nat) : Int) from by omega, cv_u (by omega)]
    simp only [optK_mk, shr1]
    rw [cv_i (by omega)]
    have hm : (i + j) / 2 < l.length := by omega
    obtain ⟨p, e1, e2⟩ := sli_at h hm
    simp only [optK_mk, e1, e2]
    refine Less_in ?_
    refine boolK_mk (fun q => ?_) (fun q => ?_)
    · have q := of_decide_eq_true q
      simp only [arith_add, optK_mk]
      rw [wrap64 (by omega) (by omega)]
      refine ⟨_, by omega, (i + j) / 2 + 1, j, rfl, (by trivial), by omega, hj, rfl, fun a ha h => ?_, hi⟩
      by_cases e : a = (i + j) / 2
      · subst e; exact q
      · have := lt ha hm (by omega); omega
    · have q := of_decide_eq_false q
      refine ⟨_, by omega, i, (i + j) / 2, rfl, (by trivial), by omega, by omega, rfl, lo, fun a ha h => ?_⟩
      by_cases e : a = (i + j) / 2
      · subst e; omega
      · have := lt hm ha (by omega); omega
  · have hge : i = j := by have := of_decide_eq_false hge; omega
    subst hge
    refine boolK_mk (fun hlt => ?_) (fun hge => ?_)
    · have hlt2 : i < l.length := by have := of_decide_eq_true hlt; omega
      obtain ⟨p, e1, e2⟩ := sli_at h hlt2
      simp only [e1, e2, optK_mk, eqV_int, negB_mk, Bool.false_bne]
      refine boolK_mk (fun q => ?_) (fun q => ?_)
      · have q' : l[i] = x := eq_of_beq q
        rw [hlt, q]
        simp only [pickV_true, optK_mk]
        have := hK (.int .i64 (i : Int))
        rwa [decide_eq_true (q' ▸ List.getElem_mem hlt2)] at this
      · have q' : l[i] ≠ x := by simpa using q
        refine sNaN_in ?_
        rw [hlt, q]
        simp only [boolK_false, vc_slices_BinarySearch___int_int__j1, pickV_true, pickV_false, optK_mk]
        have hn : x ∉ l := fun hx => by
          obtain ⟨a, ha, rfl⟩ := List.mem_iff_getElem.1 hx
          rcases Nat.lt_trichotomy a i with h | h | h
          · have := lo a ha h; omega
          · subst h; exact q' rfl
          · have h1 := hi i hlt2 (by omega)
            have h2 := lt hlt2 ha h
            omega
        have := hK (.int .i64 (i : Int))
        rwa [decide_eq_false hn] at this
    · rw [hge]
      have hge2 : l.length ≤ i := by have := of_decide_eq_false hge; omega
      simp only [pickV_false, optK_mk]
      have hn : x ∉ l := fun hx => by
        obtain ⟨a, ha, rfl⟩ := List.mem_iff_getElem.1 hx
        have := lo a ha (by omega)
        omega
      have := hK (.int .i64 (i : Int))
      rwa [decide_eq_false hn] at this
theorem Equal_in {l k : List Int} (h : Sli s v l) (h' : Sli s w k) (hl : l.length ≤ 10000000) (hK : K (.bool (l == k)) s) : wpCall Try.prog XX 57 [v, w] K s := by
  refine vc_slices_Equal___int_int__in ?_
  simp only [vc_slices_Equal___int_int_, h.len, h'.len, optK_mk, eqV_int, negB_mk, List.length_map, Bool.true_bne]
  refine boolK_mk (fun hne => ?_) (fun heq => ?_)
  · have : (l == k) = false := by
      cases q : (l == k) with
      | false => rfl
      | true => rw [eq_of_beq q] at hne; simp at hne
    rw [← this]; exact hK
  · have hlm : l.length = k.length := by
      have : (l.length : Int) = k.length := by simpa using heq
      omega
    refine ⟨fun ys s1 n => ∃ i : Nat, ys = [.int .i64 i] ∧ s1 = s ∧ i ≤ l.length ∧ n = l.length - i ∧ (l == k) = (l.drop i == k.drop i), ⟨_, 0, rfl, rfl, by omega, rfl, by simp⟩, ?_⟩
    rintro f s1 n ⟨i, hy, rfl, hi, rfl, he⟩
    simp only [List.cons.injEq, and_true] at hy
    rw [hy]
    simp only [vc_slices_Equal___int_int__l0, optK_mk, arith_lss]
    refine boolK_mk (fun hlt => ?_) (fun hge => ?_)
    · have hlt : i < l.length := by simpa using hlt
      obtain ⟨p, g1, g2⟩ := sli_at h hlt
      obtain ⟨p', g3, g4⟩ := sli_at h' (k := i) (by omega)
      rw [List.drop_eq_getElem_cons hlt, List.drop_eq_getElem_cons (show i < k.length by omega), List.cons_beq_cons] at he
      simp only [g1, g2, g3, g4, optK_mk, eqV_int, negB_mk, Bool.true_bne]
      cases hq : (l[i] == k[i]) with
      | false =>
        rw [hq, Bool.false_and] at he; rw [he] at hK
        simp only [Bool.not_false, boolK_true]; exact hK
      | true =>
        rw [hq, Bool.true_and] at he
        simp only [Bool.not_true, boolK_false, arith_add, optK_mk]
        rw [wrap64 (by omega) (by omega)]
        exact ⟨_, by omega, i + 1, by simp, by trivial, by omega, rfl, he⟩
    · have hge : l.length ≤ i := by simpa using hge
      rw [List.drop_eq_nil_of_le hge, List.drop_eq_nil_of_le (by omega)] at he
      rw [he] at hK; exact hK
/-! ### View -/
/-- is a link listed? -/
def lsB (F : List (Int × Rec)) (n k : Int) : Bool := decide (k ∈ (gotR F n).2.2)
def AscF (F : List (Int × Rec)) : Prop := ∀ k r, look F k = some r → r.2.2.Pairwise (· < ·)
theorem lists_in {k : Int} (z : Db Fz s d m nodes node last F) (ha : AscF F) (hK : K (.bool (lsB F n k)) s) : wpCall Try.prog XX 55 [.ptr d 0, .int .i64 n, .int .i64 k] K s := by
  refine vc_lsdb_DB_lists_in ?_
  unfold vc_lsdb_DB_lists
  have p3 : [AVal.int .i64 nodes, .int .i64 node, .int .i64 last, .map m][3]? = some (.map m) := rfl
  obtain ⟨l, hm, hp⟩ := z.mp
  unfold lsB gotR at hK
  rcases hp.look n with ⟨h3, h4⟩ | ⟨a, o, h3, h4, lo, rfl, hlo, _⟩
  · simp only [nilCheck_ptr, addOff_ptr, Nat.zero_add, rd1_mk z.dc, p3, hm.get, h3, retM, cond_false, optK_mk]
    rw [h4] at hK
    refine optK_of (a := .nilslc) rfl (BSearch_in (l := []) (.inl ⟨rfl, rfl⟩) (by simp) List.Pairwise.nil fun r => ?_)
    exact optK_of (a := r) rfl (optK_of (a := .bool _) rfl hK)
  · simp only [nilCheck_ptr, addOff_ptr, Nat.zero_add, rd1_mk z.dc, p3, hm.get, h3, retM, cond_false, optK_mk]
    rw [h4] at hK
    have hol := (z.gd _ _ h4).2.2
    refine optK_of (a := lo) rfl (BSearch_in hlo (by omega) (ha _ _ h4) fun r => ?_)
    exact optK_of (a := r) rfl (optK_of (a := .bool _) rfl hK)
abbrev Lnk := Int × Int × Int
def lnR (x : Lnk) : List AVal := [.int .i64 x.1, .int .i64 x.2.1, .int .i64 x.2.2]
/-- what View answers -/
def viewL (f : Int → Int → Bool) (links : List Lnk) : List Bool := if 128 < links.length then [] else (List.range links.length).map fun (i : Nat) => f ((links[i]?.getD (0, 0, 0)).1) (i : Int) && f ((links[i]?.getD (0, 0, 0)).2.1) (i : Int)
theorem View_in {links : List Lnk} (z : Db Fz s d m nodes node last F) (ha : AscF F) (hv : SlR 3 s v (links.map lnR)) (hlen : links.length ≤ 1000000) (hK : ∀ v' s', Sub s s' → Sl s' v' ((viewL (lsB F) links).map AVal.bool) → K v' s') : wpCall Try.prog XX 25 [.ptr d 0, v] K s := by
  refine vc_lsdb_DB_View_in (valid13_in z ?_)
  have lenv : lenOfA v = some links.length := by rw [hv.len, List.length_map]
  simp only [unary_not, Bool.not_true, boolK_false, lenv, arith_gtr, optK_mk, vc_lsdb_DB_View_j0, pickV_false]
  refine boolK_mk (fun q => ?_) (fun q => ?_)
  · have q := of_decide_eq_true q
    refine hK _ s (.refl _) ?_
    unfold viewL
    rw [if_pos (by omega)]
    exact .inl ⟨rfl, rfl⟩
  · have q := of_decide_eq_false q
    have hn : links.length ≤ 128 := by omega
    have n1 : nat? (.int .i64 (links.length : Int)) = some links.length := nat?_mk
    simp only [n1, optK_mk]
    refine ⟨⟨Nat.le_refl _, by omega⟩, new_step fun b8 s9 hb8 h9 u9 => ?_⟩
    have k9 := u9.sub hb8
    let g : Nat → Bool := fun i => lsB F ((links[i]?.getD (0, 0, 0)).1) (i : Int) && lsB F ((links[i]?.getD (0, 0, 0)).2.1) (i : Int)
    have rl : ∀ k : Nat, (repl k [AVal.bool false]).length = k := fun k => by
      induction k with
      | zero => rfl
      | succ k ih => show ([AVal.bool false] ++ repl k [AVal.bool false]).length = _; rw [List.length_append, ih]; simp; omega
    refine ⟨fun ys t k => ∃ (i : Nat) (cs : List AVal), ys = [.int .i64 (i : Int)] ∧ i ≤ links.length ∧ k = links.length - i ∧ Sub s t ∧ t b8 = some (false, .cells 4 cs) ∧ cs.length = links.length ∧ ∀ j, j < i → cs[j]? = some (.bool (g j)), ⟨_, 0, _, rfl, by omega, rfl, k9, h9, rl _, fun j h => by omega⟩, ?_⟩
    rintro en t k ⟨i, cs, hy, hi, rfl, kt, hb, hcs, hdone⟩
    simp only [List.cons.injEq, and_true] at hy
    rw [hy]
    simp only [vc_lsdb_DB_View_l1, arith_lss, optK_mk]
    refine boolK_mk (fun hlt => ?_) (fun hge => ?_)
    · have hlt : i < links.length := by have := of_decide_eq_true hlt; omega
      have hx : links[i]? = some links[i] := List.getElem?_eq_getElem hlt
      obtain ⟨pb, po, e1, e2, _⟩ := (hv.sub kt).get (i := i) (r := lnR links[i]) (by rw [List.getElem?_map, hx]; rfl)
      simp only [e1, e2, optK_mk]
      refine new_step fun b15 s16 hb15 h16 u16 => wrAgg_step h16 rfl rfl rfl fun s17 h17 u17 => ?_
      have k17 : Sub t s17 := (u16.sub hb15).upto u17 hb15
      have z17 := z.sub (kt.trans k17)
      have y0 : (lnR links[i])[0]? = some (.int .i64 links[i].1) := rfl
      have y1 : (lnR links[i])[1]? = some (.int .i64 links[i].2.1) := rfl
      have ia : iaddrS 1 (.slc b8 0 links.length (some links.length) 1) (.int .i64 (i : Int)) = some (.ptr b8 i) := by
        have : Nat.blt i links.length = true := by rw [Nat.blt_eq]; exact hlt
        simp [iaddrS, this]
      have gi : g i = (lsB F links[i].1 (i : Int) && lsB F links[i].2.1 (i : Int)) := by
        show (lsB F ((links[i]?.getD (0, 0, 0)).1) (i : Int) && lsB F ((links[i]?.getD (0, 0, 0)).2.1) (i : Int)) = _
        rw [hx]; rfl
      have fin : ∀ b, g i = b → optK (wr1 s17 (.ptr b8 i) (.bool b)) fun s_24 => optK (arithV .add (.int .i64 (i : Int)) (.int .i64 1)) fun v_25 => ∃ m', m' < links.length - i ∧ ∃ (i : Nat) (cs : List AVal), [v_25] = [AVal.int .i64 (i : Int)] ∧ i ≤ links.length ∧ m' = links.length - i ∧ Sub s s_24 ∧ s_24 b8 = some (false, .cells 4 cs) ∧ cs.length = links.length ∧ ∀ j, j < i → cs[j]? = some (.bool (g j)) := fun b hg => by
        refine wr1_step (k17 _ _ hb) (by omega) rfl fun s24 h24 u24 => ?_
        simp only [arith_add, optK_mk]
        rw [wrap64 (by omega) (by omega)]
        refine ⟨_, by omega, i + 1, _, rfl, by omega, rfl, (kt.trans k17).upto u24 hb8, h24, by rw [List.length_set]; exact hcs, fun j hj => ?_⟩
        by_cases e : j = i
        · subst e
          rw [List.getElem?_set_self (by omega), hg]
        · rw [List.getElem?_set_ne (Ne.symm e)]
          exact hdone j (by omega)
      simp only [addOff_ptr, Nat.zero_add, optK_mk, rd1_mk h17, y0]
      refine lists_in z17 ha ?_
      cases q1 : lsB F links[i].1 (i : Int) with
      | false =>
        simp only [boolK_false, vc_lsdb_DB_View_j2, pickV_false, optK_mk, ia]
        exact fin false (by rw [gi, q1]; rfl)
      | true =>
        simp only [boolK_true, addOff_ptr, Nat.zero_add, optK_mk, rd1_mk h17, y1]
        refine lists_in z17 ha ?_
        simp only [vc_lsdb_DB_View_j2, pickV_true, optK_mk, ia]
        exact fin _ (by rw [gi, q1, Bool.true_and])
    · have hge : i = links.length := by have := of_decide_eq_false hge; omega
      subst hge
      have hv : (viewL (lsB F) links) = (List.range links.length).map g := by
        unfold viewL
        rw [if_neg (by omega)]
      refine hK _ t kt ?_
      rw [hv]
      have hc : cs = ((List.range links.length).map g).map AVal.bool := by
        apply List.ext_getElem?
        intro j
        by_cases hj : j < links.length
        · rw [hdone j hj]
          simp [hj]
        · rw [List.getElem?_eq_none (by omega), List.getElem?_eq_none (by simp; omega)]
      rw [← hc]
      exact Sl.mk hb hcs.symm (by intro c e; cases e; omega)
end Go.AM
set_option maxRecDepth 100000
namespace Go.AM
open Go Go.Proofs
variable {K : AVal → Heap → Prop} {s s' s0 : Heap} {Fz : Nat → Prop} {d m : Nat} {nodes node last n q : Int} {F : List (Int × Rec)} {v w : AVal} {L : List Int}
/-! ### Own -/
structure OwnG where
  r : Rec
  nw : Bool
  err : Int
  last : Int
  F : List (Int × Rec)
def ownN (node last : Int) (F : List (Int × Rec)) (L : List Int) : OwnG := if 1073741824 ≤ last then ⟨(0, 0, []), false, 7, last, F⟩ else ⟨(node, last + 1, L), true, 0, last + 1, stor F node (node, last + 1, L)⟩
def ownR (node last : Int) (F : List (Int × Rec)) (L : List Int) : OwnG :=
  if chkL none L ≠ 0 then ⟨(0, 0, []), false, chkL none L, last, F⟩ else
  match look F node with
  | some o => if o.2.2 = L then ⟨o, false, 0, last, F⟩ else ownN node last F L
  | none => ownN node last F L
/-- the blocks of a list -/
def inL (v : AVal) (l : List Int) (b : Nat) : Prop := l ≠ [] ∧ ∃ o n c, v = .slc b o n c 1
/-- after a result is laid into the block that waits for it -/
theorem own_end {Fy : Nat → Prop} {b0 : Nat} {r : Rec} {lv w4 : AVal} {s4 : Heap} {old : List AVal} (z : Db Fy s d m nodes node last F) (hb0 : Fy b0) (h0 : s b0 = some (false, .cells 24 old)) (ho : old.length = 3) (hw : w4 = recV r.1 r.2.1 lv) (k4 : Sub s s4) (sl : Sli s4 lv r.2.2) (fr : Fre s s4 lv r.2.2) {R : AVal → Heap → Prop}
    (hK : ∀ s5, KeepBut (fun i => i = b0) s s5 → Db (fun b => Fy b ∨ inL lv r.2.2 b) s5 d m nodes node last F → Sli s5 lv r.2.2 → Fre s s5 lv r.2.2 → R (.agg [.int .i64 r.1, .int .i64 r.2.1, lv]) s5) : optK (wrAgg s4 3 (.ptr b0 0) w4) fun s_30 => optK (rdN s_30 3 (.ptr b0 0)) fun t4 => R (.agg t4) s_30 := by
  subst hw
  have h4 := k4 _ _ h0
  have far : ∀ b o n c, lv = .slc b o n c 1 → r.2.2 ≠ [] → b ≠ b0 := fun b o n c e hne => by
    have := (fr b o n c e hne).1
    rintro rfl
    rw [h0] at this; cases this
  refine wrAgg_step h4 (by rw [ho]; rfl) ho (by rw [allOne_cons, allOne_cons, allOne_cons, sl.one]; rfl) fun s5 h5 u5 => ?_
  have h5 : s5 b0 = some (false, .cells 24 [.int .i64 r.1, .int .i64 r.2.1, lv]) := h5
  refine optK_of (rdN_all (n := 3) h5 rfl) (hK s5 ?_ ?_ ?_ ?_)
  · exact fun i e hi hn => by rw [u5 i hn]; exact k4 i e hi
  · have z4 := (z.more.sub k4).keep (u5.keep (fp := fun i => i = b0) rfl) (fun i hi => .inl (by rw [show i = b0 from hi]; exact hb0))
    exact z4.weak fun b hb => by
      rcases hb with hb | ⟨hne, o, n, c, e⟩
      · exact .inl hb
      · exact .inr (fr b o n c e hne).1
  · exact sl.keep (fp := fun i => i = b0) (u5.keep rfl) fun b o n c e hne hb => far b o n c e (by simpa using hne) hb
  · exact fun b o n c e hne => by
      obtain ⟨g1, e0, cs0, g2⟩ := fr b o n c e hne
      exact ⟨g1, e0, cs0, by rw [u5 b (far b o n c e hne)]; exact g2⟩
theorem fre_nil {s1 : Heap} : Fre s s1 v [] := fun _ _ _ _ _ h => absurd rfl h
theorem fre_old {s1 : Heap} (h : Fre s1 s' v L) (k : ∀ b, s1 b = none → s b = none) : Fre s s' v L := fun b o n c e hne => ⟨k b (h b o n c e hne).1, (h b o n c e hne).2⟩
theorem OwnW_in (z : Db Fz s d m nodes node last F) (hF : ∀ b, Fz b → s b ≠ none) (h : Sli s v L) (hl : L.length ≤ 100000) (h0 : 0 ≤ last)
    (hK : ∀ s' lv, KeepBut (fun i => i = d ∨ i = m) s s' → Db (fun b => Fz b ∨ inL lv (ownR node last F L).r.2.2 b) s' d m nodes node (ownR node last F L).last (ownR node last F L).F → Sli s' lv (ownR node last F L).r.2.2 → Fre s s' lv (ownR node last F L).r.2.2 → K (.tup [recV (ownR node last F L).r.1 (ownR node last F L).r.2.1 lv, .bool (ownR node last F L).nw, .int .i64 (ownR node last F L).err]) s') : wpCall Try.prog XX 38 [.ptr d 0, v] K s := by
  have hdm := z.dm
  refine vc_lsdb_DB_Own_in (new_step fun b0 s1 hb0 h1 u1 => ?_)
  have sub1 := u1.sub hb0
  have nd : s d ≠ none := by rw [z.dc]; simp
  have nm : s m ≠ none := by
    obtain ⟨l, ⟨es, c, e, _⟩, _⟩ := z.mp
    rw [e]; simp
  have d0 : b0 ≠ d := by rintro rfl; exact nd hb0
  have m0 : b0 ≠ m := by rintro rfl; exact nm hb0
  -- the block of the result is none of the database's own
  have z1 : Db (fun b => Fz b ∨ b = b0) s1 d m nodes node last F := (z.more.sub sub1).weak fun b hb => by
    rcases hb with hb | rfl
    · exact .inl hb
    · exact .inr hb0
  have hF1 : ∀ {t : Heap}, Sub s1 t → ∀ b, (Fz b ∨ b = b0) → t b ≠ none := fun {t} k b hb => by
    rcases hb with hb | rfl
    · cases e : s b with
      | none => exact absurd e (hF b hb)
      | some x => rw [k _ _ (sub1 b x e)]; simp
    · rw [k _ _ h1]; simp
  have back : ∀ {t : Heap}, KeepBut (fun i => i = d ∨ i = m) s1 t → t d ≠ none → t m ≠ none → ∀ b, t b = none → s b = none := fun {t} k hd hm b hb => by
    cases q : s b with
    | none => rfl
    | some x =>
      by_cases hf : b = d ∨ b = m
      · rcases hf with rfl | rfl
        · exact absurd hb hd
        · exact absurd hb hm
      · rw [k b x (sub1 b x q) hf] at hb; cases hb
  refine valid13_in z1 ?_
  simp only [unary_not, Bool.not_true, boolK_false, optK_mk]
  refine checkLinks_in (h.sub sub1) (by omega) ?_
  simp only [eqV_int, negB_mk, Bool.true_bne, optK_mk]
  -- how every way ends
  have fin : ∀ {g : OwnG} {t t5 : Heap} {lv : AVal}, ownR node last F L = g → KeepBut (fun i => i = d ∨ i = m) s1 t → t d ≠ none → t m ≠ none → KeepBut (fun i => i = b0) t t5 → Db (fun b => (Fz b ∨ b = b0) ∨ inL lv g.r.2.2 b) t5 d m nodes node g.last g.F → Sli t5 lv g.r.2.2 → Fre t t5 lv g.r.2.2 → K (.tup [.agg [.int .i64 g.r.1, .int .i64 g.r.2.1, lv], .bool g.nw, .int .i64 g.err]) t5 := fun {g t t5 lv} hg k hd hm k5 z5 sl fr => by
    rw [hg] at hK
    refine hK t5 lv ?_ (z5.weak fun b hb => ?_) sl (fre_old fr (back k hd hm))
    · intro i e hi hn
      have hib : i ≠ b0 := by rintro rfl; rw [hb0] at hi; cases hi
      exact k5 i e (k i e (sub1 i e hi) hn) hib
    · rcases hb with hb | hb
      · exact .inl (.inl hb)
      · exact .inr hb
  have d1 : s1 d ≠ none := by rw [z1.dc]; simp
  have m1 : s1 m ≠ none := by
    obtain ⟨l, ⟨es, c, e, _⟩, _⟩ := z1.mp
    rw [e]; simp
  cases a0 : (chkL none L == 0) with
  | false =>
    have a0 : chkL none L ≠ 0 := by simpa using a0
    simp only [Bool.not_false, boolK_true]
    refine optK_of (a := [.int .i64 0, .int .i64 0, .nilslc]) rfl ?_
    refine own_end (r := (0, 0, [])) (lv := .nilslc) (R := fun x t => K (.tup [x, .bool false, .int .i64 (chkL none L)]) t) z1 (.inr rfl) h1 rfl rfl (.refl _) (.inl ⟨rfl, rfl⟩) fre_nil fun s5 k5 z5 sl5 fr5 => ?_
    have hg : ownR node last F L = ⟨(0, 0, []), false, chkL none L, last, F⟩ := by unfold ownR; rw [if_pos a0]
    exact fin hg (fun i e hi _ => hi) d1 m1 k5 z5 sl5 fr5
  | true =>
  have a0 : chkL none L = 0 := eq_of_beq a0
  have hown : ownR node last F L = match look F node with
      | some o => if o.2.2 = L then ⟨o, false, 0, last, F⟩ else ownN node last F L
      | none => ownN node last F L := by unfold ownR; rw [if_neg (by simpa using a0)]
  have p1 : [AVal.int .i64 nodes, .int .i64 node, .int .i64 last, .map m][1]? = some (.int .i64 node) := rfl
  have p2 : [AVal.int .i64 nodes, .int .i64 node, .int .i64 last, .map m][2]? = some (.int .i64 last) := rfl
  have p3 : [AVal.int .i64 nodes, .int .i64 node, .int .i64 last, .map m][3]? = some (.map m) := rfl
  obtain ⟨l, hm, hp⟩ := z1.mp
  simp only [Bool.not_true, boolK_false, nilCheck_ptr, addOff_ptr, Nat.zero_add, rd1_mk z1.dc, p1, p3, hm.get, optK_mk]
  -- a record of its own is made
  have mk : ∀ {t : Heap} {b23 : Nat}, Sub s1 t → ownR node last F L = ownN node last F L → optK (nilCheckA (.ptr d 0)) fun v_32 =>
    optK (addOff 2 v_32) fun v_33 =>
    optK (rd1 t v_33) fun v_34 =>
    optK (arithV .geq v_34 (.int .i64 1073741824)) fun v_35 =>
    boolK v_35
     (optK (fillR [(.int .i64 0), (.int .i64 0), .nilslc] []) fun c_36 =>
      optK (wrAgg t 3 (.ptr b0 0) (.agg c_36)) fun s_37 =>
      optK (rdN s_37 3 (.ptr b0 0)) fun t4_38 =>
      K (.tup [(.agg t4_38), (.bool false), (.int .i64 7)]) s_37)
     (optK (nilCheckA (.ptr d 0)) fun v_39 =>
      optK (addOff 2 v_39) fun v_40 =>
      optK (rd1 t v_40) fun v_41 =>
      optK (arithV .add v_41 (.int .i64 1)) fun v_42 =>
      wpCall Try.prog XX 58 [.ptr d 0, v, v_42] (fun v_43 s_44 =>
      wpCall Try.prog XX 54 [v_43] (fun v_45 s_46 =>
      optK (wrAgg s_46 3 (.ptr b0 0) v_45) fun s_47 =>
      optK (rdN s_47 3 (.ptr b0 0)) fun t4_48 =>
      K (.tup [(.agg t4_48), (.bool true), (.int .i64 0)]) s_47) s_44) t) := fun {t b23} k he => by
    have zt := z1.sub k
    have ht0 := k _ _ h1
    simp only [nilCheck_ptr, addOff_ptr, Nat.zero_add, rd1_mk zt.dc, p2, optK_mk, arith_geq]
    refine boolK_mk (fun q => ?_) (fun q => ?_)
    · have q := of_decide_eq_true q
      refine optK_of (a := [.int .i64 0, .int .i64 0, .nilslc]) rfl ?_
      refine own_end (r := (0, 0, [])) (lv := .nilslc) (R := fun x t => K (.tup [x, .bool false, .int .i64 7]) t) zt (.inr rfl) ht0 rfl rfl (.refl _) (.inl ⟨rfl, rfl⟩) fre_nil fun s5 k5 z5 sl5 fr5 => ?_
      have hg : ownR node last F L = ⟨(0, 0, []), false, 7, last, F⟩ := by rw [he]; unfold ownN; rw [if_pos q]
      refine fin hg (fun i e hi _ => k i e hi) ?_ ?_ k5 z5 sl5 fr5
      · rw [zt.dc]; simp
      · obtain ⟨l, ⟨es, c, e, _⟩, _⟩ := zt.mp; rw [e]; simp
    · have q := of_decide_eq_false q
      simp only [arith_add, optK_mk]
      rw [wrap64 (by omega) (by omega)]
      have hg : ownR node last F L = ⟨(node, last + 1, L), true, 0, last + 1, stor F node (node, last + 1, L)⟩ := by rw [he]; unfold ownN; rw [if_neg q]
      refine orig_in zt (hF1 k) ((h.sub sub1).sub k) hl fun v43 s44 k44 z44 sl44 => ?_
      have hb44 : s44 b0 = some (false, .cells 24 [.int .i64 0, .int .i64 0, .nilslc]) := k44 _ _ ht0 (by rintro (e | e); exact d0 e; exact m0 e)
      refine cloneW_in sl44 (by omega) fun lv s46 k46 sl46 fr46 => ?_
      refine own_end (r := (node, last + 1, L)) (R := fun x t => K (.tup [x, .bool true, .int .i64 0]) t) z44 (.inr rfl) hb44 rfl rfl k46 sl46 fr46 fun s5 k5 z5 sl5 fr5 => ?_
      refine fin hg (fun i e hi hn => k44 i e (k i e hi) hn) ?_ ?_ k5 z5 sl5 fr5
      · rw [z44.dc]; simp
      · obtain ⟨l, ⟨es, c, e, _⟩, _⟩ := z44.mp; rw [e]; simp
  rcases hp.look node with ⟨h3, h4⟩ | ⟨a, o, h3, h4, lo, rfl, hlo, _⟩
  · simp only [h3, retM, cond_true, ext0, ext1, optK_mk]
    refine newM (s := s1) (l := []) fun b23 s24 hb23 h24 u24 => ?_
    generalize add s1 s24 = t at h24 u24
    refine wrAgg_step h24 rfl rfl rfl fun s25 h25 u25 => ?_
    have k25 : Sub s1 s25 := (u24.sub hb23).upto u25 hb23
    simp only [boolK_false, vc_lsdb_DB_Own_j0, pickV_false, optK_mk]
    exact mk (b23 := b23) k25 (by rw [hown, h4])
  · simp only [h3, retM, cond_true, ext0, ext1, optK_mk]
    refine newM (s := s1) (l := []) fun b23 s24 hb23 h24 u24 => ?_
    generalize add s1 s24 = t at h24 u24
    refine wrAgg_step h24 rfl rfl (by rw [allOne_cons, allOne_cons, allOne_cons, hlo.one]; rfl) fun s25 h25 u25 => ?_
    have h25 : s25 b23 = some (false, .cells 24 [.int .i64 o.1, .int .i64 o.2.1, lo]) := h25
    have k25 : Sub s1 s25 := (u24.sub hb23).upto u25 hb23
    have q2 : [AVal.int .i64 o.1, .int .i64 o.2.1, lo][2]? = some lo := rfl
    have hol := (z1.gd _ _ h4).2.2
    simp only [boolK_true, addOff_ptr, Nat.zero_add, rd1_mk h25, q2, optK_mk]
    refine Equal_in (hlo.sub k25) ((h.sub sub1).sub k25) (by omega) ?_
    simp only [vc_lsdb_DB_Own_j0, pickV_true, optK_mk]
    cases e : (o.2.2 == L) with
    | true =>
      have e : o.2.2 = L := eq_of_beq e
      simp only [boolK_true, rdN_all (n := 3) h25 rfl, optK_mk]
      refine cloneW_in (hlo.sub k25) (by omega) fun lv s29 k29 sl29 fr29 => ?_
      have hg : ownR node last F L = ⟨o, false, 0, last, F⟩ := by rw [hown, h4]; simp only [if_pos e]
      have z25 := z1.sub k25
      refine own_end (r := o) (R := fun x t => K (.tup [x, .bool false, .int .i64 0]) t) z25 (.inr rfl) (k25 _ _ h1) rfl rfl k29 sl29 fr29 fun s5 k5 z5 sl5 fr5 => ?_
      refine fin hg (fun i e hi _ => k25 i e hi) ?_ ?_ k5 z5 sl5 fr5
      · rw [z25.dc]; simp
      · obtain ⟨l, ⟨es, c, e, _⟩, _⟩ := z25.mp; rw [e]; simp
    | false =>
      have e : o.2.2 ≠ L := by simpa using e
      simp only [boolK_false]
      exact mk (b23 := b23) k25 (by rw [hown, h4]; simp only [if_neg e])
end Go.AM
set_option maxRecDepth 100000
namespace Go.AM
open Go Go.Proofs
variable {K : AVal → Heap → Prop} {s s' s0 : Heap} {Fz : Nat → Prop} {o rb : Nat} {nodes node last n q : Int} {G : List Rec} {v w : AVal} {L : List Int}
/-! ### the reference's database in memory -/
theorem setRow13 {es : Nat} {r : List AVal} (hr : r.length = es) : ∀ {rows : List (List AVal)} {i : Nat}, (∀ x ∈ rows, x.length = es) → i < rows.length → setRange rows.flatten (i * es) r = (rows.set i r).flatten
  | x :: rows, 0, hl, _ => by
    have hx : x.length = es := hl x (by simp)
    unfold setRange
    simp only [Nat.zero_mul, List.take_zero, List.nil_append, Nat.zero_add, List.flatten_cons, List.set_cons_zero]
    rw [hr, ← hx, List.drop_left]
  | x :: rows, i + 1, hl, hi => by
    have hx : x.length = es := hl x (by simp)
    have ih := setRow13 hr (rows := rows) (i := i) (fun y hy => hl y (by simp [hy])) (by simpa using hi)
    simp only [List.set_cons_succ, List.flatten_cons]
    rw [← ih]
    have e : (i + 1) * es = x.length + i * es := by rw [Nat.add_mul, hx]; omega
    unfold setRange
    rw [e, List.take_length_add_append, Nat.add_assoc, List.drop_length_add_append]
    simp only [List.append_assoc]
theorem flat3 {rows : List (List AVal)} (h : ∀ r ∈ rows, r.length = 3) : rows.flatten.length = rows.length * 3 := by
  induction rows with
  | nil => rfl
  | cons x r ih =>
    rw [List.flatten_cons, List.length_append, h x (by simp), ih fun y hy => h y (by simp [hy]), List.length_cons]
    omega
/-- its rows -/
structure RW (Fz : Nat → Prop) (s : Heap) (o rb : Nat) (rows : List (List AVal)) (G : List Rec) : Prop where
  n : rows.length = G.length
  l3 : ∀ r ∈ rows, r.length = 3
  gt : ∀ (i : Nat) (r : Rec), G[i]? = some r → ∃ lv, rows[i]? = some [.int .i64 r.1, .int .i64 r.2.1, lv] ∧ Sli s lv r.2.2 ∧ ∀ b o' k c, lv = .slc b o' k c 1 → r.2.2 ≠ [] → ¬ Fz b ∧ b ≠ o ∧ b ≠ rb
structure RD (Fz : Nat → Prop) (s : Heap) (o rb : Nat) (nodes node last : Int) (G : List Rec) : Prop where
  dc : ∃ cap, (∀ c, cap = some c → G.length ≤ c) ∧ s o = some (false, .cells 96 [.int .i64 nodes, .int .i64 node, .slc rb 0 G.length cap 3, .int .i64 last])
  rw : ∃ rows, s rb = some (false, .cells 24 rows.flatten) ∧ RW Fz s o rb rows G
  fo : ¬ Fz o
  fb : ¬ Fz rb
  ne : o ≠ rb
  nn : nodes = (G.length : Int) ∧ G.length ≤ 32 ∧ 0 ≤ node ∧ node < (G.length : Int)
  ln : ∀ r ∈ G, r.2.2.length ≤ 100000
theorem RW.keep {fp : Nat → Prop} {rows : List (List AVal)} (z : RW Fz s o rb rows G) (k : KeepBut fp s s') (hf : ∀ i, fp i → Fz i ∨ i = o ∨ i = rb) : RW Fz s' o rb rows G :=
  ⟨z.n, z.l3, fun i r hi => by
    obtain ⟨lv, e1, e2, e3⟩ := z.gt i r hi
    refine ⟨lv, e1, e2.keep k fun b o' n c e hne hb => ?_, e3⟩
    obtain ⟨a1, a2, a3⟩ := e3 b o' n c e (by simpa using hne)
    rcases hf b hb with h | h | h
    · exact a1 h
    · exact a2 h
    · exact a3 h⟩
theorem RD.keep {fp : Nat → Prop} (z : RD Fz s o rb nodes node last G) (k : KeepBut fp s s') (hf : ∀ i, fp i → Fz i) : RD Fz s' o rb nodes node last G := by
  obtain ⟨cap, c1, c2⟩ := z.dc
  obtain ⟨rows, r1, r2⟩ := z.rw
  exact ⟨⟨cap, c1, k _ _ c2 fun h => z.fo (hf _ h)⟩, ⟨rows, k _ _ r1 fun h => z.fb (hf _ h), r2.keep k fun i hi => .inl (hf i hi)⟩, z.fo, z.fb, z.ne, z.nn, z.ln⟩
theorem RD.sub (z : RD Fz s o rb nodes node last G) (k : Sub s s') : RD Fz s' o rb nodes node last G := z.keep (fp := fun _ => False) (fun b e h _ => k b e h) fun _ h => h.elim
theorem RD.weak {Fz' : Nat → Prop} (z : RD Fz s o rb nodes node last G) (h : ∀ b, Fz' b → Fz b) : RD Fz' s o rb nodes node last G := by
  obtain ⟨rows, r1, r2⟩ := z.rw
  exact ⟨z.dc, ⟨rows, r1, r2.n, r2.l3, fun i r hi => by
    obtain ⟨lv, e1, e2, e3⟩ := r2.gt i r hi
    exact ⟨lv, e1, e2, fun b o' k c e hne => ⟨fun q => (e3 b o' k c e hne).1 (h _ q), (e3 b o' k c e hne).2⟩⟩⟩, fun q => z.fo (h _ q), fun q => z.fb (h _ q), z.ne, z.nn, z.ln⟩
theorem RD.more (z : RD Fz s o rb nodes node last G) : RD (fun b => Fz b ∨ s b = none) s o rb nodes node last G := by
  obtain ⟨cap, c1, c2⟩ := z.dc
  obtain ⟨rows, r1, r2⟩ := z.rw
  refine ⟨z.dc, ⟨rows, r1, r2.n, r2.l3, fun i r hi => ?_⟩, ?_, ?_, z.ne, z.nn, z.ln⟩
  · obtain ⟨lv, e1, e2, e3⟩ := r2.gt i r hi
    refine ⟨lv, e1, e2, fun b o' k c e hne => ⟨?_, (e3 b o' k c e hne).2⟩⟩
    rintro (h | h)
    · exact (e3 b o' k c e hne).1 h
    · exact e2.was b o' k c e (by simpa using hne) h
  · rintro (h | h)
    · exact z.fo h
    · rw [c2] at h; cases h
  · rintro (h | h)
    · exact z.fb h
    · rw [r1] at h; cases h
/-- the address of a row -/
theorem RD.addr {i : Nat} {cap : Option Nat} (hi : i < G.length) : iaddrS 3 (.slc rb 0 G.length cap 3) (.int .i64 (i : Int)) = some (.ptr rb (i * 3)) := by
  have : Nat.blt i G.length = true := by rw [Nat.blt_eq]; exact hi
  simp [iaddrS, this]
theorem RW.row {rows : List (List AVal)} (z : RW Fz s o rb rows G) (hb : s rb = some (false, .cells 24 rows.flatten)) {i : Nat} {r : Rec} (hi : G[i]? = some r) : ∃ lv, rdN s 3 (.ptr rb (i * 3)) = some [.int .i64 r.1, .int .i64 r.2.1, lv] ∧ rd1 s (.ptr rb (i * 3 + 1)) = some (.int .i64 r.2.1) ∧ Sli s lv r.2.2 ∧ ∀ b o' k c, lv = .slc b o' k c 1 → r.2.2 ≠ [] → ¬ Fz b ∧ b ≠ o ∧ b ≠ rb := by
  obtain ⟨lv, e1, e2, e3⟩ := z.gt i r hi
  have hs : SlR 3 s (.slc rb 0 rows.length none 3) rows := SlR.mk z.l3 hb rfl (by intro c h; cases h)
  obtain ⟨b, p, a1, a2, a3⟩ := hs.get e1
  have hil : i < rows.length := (List.getElem?_eq_some_iff.1 e1).1
  have : iaddrS 3 (.slc rb 0 rows.length none 3) (.int .i64 (i : Int)) = some (.ptr rb (i * 3)) := by
    have : Nat.blt i rows.length = true := by rw [Nat.blt_eq]; exact hil
    simp [iaddrS, this]
  rw [this] at a1
  cases a1
  exact ⟨lv, a2, a3 1 (by omega), e2, e3⟩
/-- a row is put -/
theorem RD.put {T : Heap} {i : Nat} {r : Rec} {lv : AVal} {last2 : Int} {cap : Option Nat} (z : RD Fz s o rb nodes node last G) (k : KeepBut (fun i => i = o) s T) (hd : T o = some (false, .cells 96 [.int .i64 nodes, .int .i64 node, .slc rb 0 G.length cap 3, .int .i64 last2])) (hcap : ∀ c, cap = some c → G.length ≤ c) (hi : i < G.length) (hlv : Sli T lv r.2.2) (hfr : ∀ b o' k c, lv = .slc b o' k c 1 → r.2.2 ≠ [] → ¬ Fz b ∧ b ≠ o ∧ b ≠ rb) (hl : r.2.2.length ≤ 100000) {R : Heap → Prop}
    (hR : ∀ s3, RD Fz s3 o rb nodes node last2 (G.set i r) → Upto rb T s3 → R s3) : optK (wrAgg T 3 (.ptr rb (i * 3)) (recV r.1 r.2.1 lv)) R := by
  obtain ⟨rows, r1, r2⟩ := z.rw
  have hT : T rb = some (false, .cells 24 rows.flatten) := k _ _ r1 fun h => z.ne h.symm
  have hlr : rows.flatten.length = rows.length * 3 := flat3 r2.l3
  have hle : i * 3 + 3 ≤ rows.flatten.length := by rw [hlr, r2.n]; omega
  have ho : allOne [AVal.int .i64 r.1, .int .i64 r.2.1, lv] = true := by rw [allOne_cons, allOne_cons, allOne_cons, hlv.one]; rfl
  have e2 : wrAgg T 3 (.ptr rb (i * 3)) (recV r.1 r.2.1 lv) = some (hset T rb (false, .cells 24 (setRange rows.flatten (i * 3) [.int .i64 r.1, .int .i64 r.2.1, lv]))) := by
    unfold wrAgg wrN
    simp only [cells_agg, List.length_cons, List.length_nil, hT]
    rw [Nat.ble_eq_true_of_le (show i * 3 + (0 + 1 + 1 + 1) ≤ rows.flatten.length by omega), ho]
    rfl
  refine optK_of e2 (hR _ ?_ fun i hi => hset_other hi)
  have up : Upto rb T (hset T rb (false, .cells 24 (setRange rows.flatten (i * 3) [.int .i64 r.1, .int .i64 r.2.1, lv]))) := fun i hi => hset_other hi
  have kT : RW Fz T o rb rows G := r2.keep k fun i hi => .inr (.inl hi)
  refine ⟨⟨cap, by rw [List.length_set]; exact hcap, by rw [List.length_set, up o z.ne]; exact hd⟩, ⟨rows.set i [.int .i64 r.1, .int .i64 r.2.1, lv], ?_, by rw [List.length_set, List.length_set, r2.n], fun x hx => ?_, fun j r' hj => ?_⟩, z.fo, z.fb, z.ne, by rw [List.length_set]; exact z.nn, fun x hx => ?_⟩
  · rw [hset_eq, setRow13 (es := 3) rfl r2.l3 (by rw [r2.n]; exact hi)]
  · rcases List.mem_or_eq_of_mem_set hx with hx | rfl
    · exact r2.l3 x hx
    · rfl
  · by_cases e : i = j
    · subst e
      rw [List.getElem?_set_self hi] at hj
      cases hj
      exact ⟨lv, by rw [List.getElem?_set_self (by rw [r2.n]; exact hi)], hlv.keep (fp := fun i => i = rb) (up.keep rfl) fun b o' n c e hne hb => (hfr b o' n c e (by simpa using hne)).2.2 hb, hfr⟩
    · rw [List.getElem?_set_ne e] at hj
      obtain ⟨lv', x1, x2, x3⟩ := kT.gt j r' hj
      exact ⟨lv', by rw [List.getElem?_set_ne e]; exact x1, x2.keep (fp := fun i => i = rb) (up.keep rfl) fun b o' n c e hne hb => (x3 b o' n c e (by simpa using hne)).2.2 hb, x3⟩
  · rcases List.mem_or_eq_of_mem_set hx with hx | rfl
    · exact z.ln x hx
    · exact hl
/-! ### own, Get -/
theorem rown_in {n q : Int} {l : List Int} (h : Sli s v l) (hl : l.length ≤ 10000000) (hK : ∀ v' s', Sub s s' → Sli s' v' l → (∀ b o n c, v' = .slc b o n c 1 → l ≠ [] → s b = none) → K (recV n q v') s') : wpCall Try.prog XX 59 [recV n q v] K s := by
  refine vc_leafmeshref13_own_in (box3 rfl rfl h.one fun b0 s1 hb0 h1 u1 => new_step fun b2 s2 hb2 h2 u2 => ?_)
  have sub1 := u1.sub hb0
  have sub2 := sub1.trans (u2.sub hb2)
  have h12 := u2.sub hb2 _ _ h1
  have hne : b0 ≠ b2 := ne_of_some hb2 h1
  have q2 : [AVal.int .i64 n, .int .i64 q, v][2]? = some v := rfl
  refine optK_of (a := []) rfl ⟨rfl, new_step fun b5 s6 hb5 h5 u5 => ?_⟩
  have sub6 := u5.sub hb5
  have h16 := sub6 _ _ h12
  simp only [addOff_ptr, Nat.zero_add, rd1_mk h16, q2, optK_mk]
  refine app_copy ((h.sub sub2).sub sub6) (by rw [List.length_map]; omega) fun v9 s10 sub10 g1 g2 => ?_
  have sl10 : Sli s10 v9 l := by
    by_cases e : l = []
    · subst e
      rw [g1 rfl]
      exact .inr ⟨b5, 0, some 0, rfl, by simp, fun h => absurd rfl h⟩
    · obtain ⟨c, _, e2, e3⟩ := g2 (by simpa using e)
      rw [e2]
      exact Sl.mk e3 rfl (by simp)
  have fr10 : ∀ b o n c, v9 = .slc b o n c 1 → l ≠ [] → (s b = none ∧ b ≠ b0 ∧ b ≠ b2) := fun b o n c e hne' => by
    obtain ⟨c', e1, e2, e3⟩ := g2 (by simpa using hne')
    rw [e2] at e
    injection e with e
    subst e
    refine ⟨?_, (by rintro rfl; rw [h16] at e1; cases e1), (by rintro rfl; rw [sub6 _ _ h2] at e1; cases e1)⟩
    cases z : s c' with
    | none => rfl
    | some x => rw [sub6 _ _ (sub2 c' x z)] at e1; cases e1
  have h13 := sub10 _ _ h16
  refine wr1_step h13 (by simp) sl10.one fun s12 h12' u12 => ?_
  have h12' : s12 b0 = some (false, .cells 24 [.int .i64 n, .int .i64 q, v9]) := h12'
  have h24 : s12 b2 = _ := (u12 b2 hne.symm).trans (sub10 _ _ (sub6 _ _ h2))
  simp only [rdN_all (n := 3) h12' rfl, optK_mk]
  refine wrAgg_step h24 rfl rfl (by rw [allOne_cons, allOne_cons, allOne_cons, sl10.one]; rfl) fun s14 h14 u14 => ?_
  have h14 : s14 b2 = some (false, .cells 24 [.int .i64 n, .int .i64 q, v9]) := h14
  simp only [rdN_all (n := 3) h14 rfl, optK_mk]
  have hb2s : s b2 = none := by
    cases q : s b2 with
    | none => rfl
    | some x => rw [sub1 b2 x q] at hb2; cases hb2
  refine hK v9 s14 ((((sub2.trans sub6).trans sub10).upto u12 hb0).upto u14 hb2s) ?_ fun b o n c e hne => (fr10 b o n c e hne).1
  refine Sl.keep (fp := fun i => i = b0 ∨ i = b2) sl10 ((u12.keep (.inl rfl)).trans (u14.keep (.inr rfl))) fun b o n c e hne => ?_
  have := fr10 b o n c e (by simpa using hne)
  rintro (h | h)
  · exact this.2.1 h
  · exact this.2.2 h
/-- the record of a node -/
def ggR (G : List Rec) (n : Int) : Option Rec := if 0 ≤ n then match G[n.toNat]? with
  | some r => if r.2.1 = 0 then none else some r
  | none => none
  else none
def gotG (G : List Rec) (n : Int) : Rec := (ggR G n).getD (0, 0, [])
theorem rGet_in (z : RD Fz s o rb nodes node last G) (hK : ∀ s' v', Sub s s' → Sli s' v' (gotG G n).2.2 → K (.tup [recV (gotG G n).1 (gotG G n).2.1 v', .bool (ggR G n).isSome]) s') : wpCall Try.prog XX 62 [.ptr o 0, .int .i64 n] K s := by
  refine vc_leafmeshref13_DB_Get_in (new_step fun b0 s1 hb0 h1 u1 => ?_)
  have sub1 := u1.sub hb0
  have z1 := z.sub sub1
  obtain ⟨cap, c1, c2⟩ := z1.dc
  have p0 : [AVal.int .i64 nodes, .int .i64 node, .slc rb 0 G.length cap 3, .int .i64 last][0]? = some (.int .i64 nodes) := rfl
  have p2 : [AVal.int .i64 nodes, .int .i64 node, .slc rb 0 G.length cap 3, .int .i64 last][2]? = some (.slc rb 0 G.length cap 3) := rfl
  have no : ggR G n = none → optK (fillR [(.int .i64 0), (.int .i64 0), .nilslc] []) fun c_5 => optK (wrAgg s1 3 (.ptr b0 0) (.agg c_5)) fun s_6 => optK (rdN s_6 3 (.ptr b0 0)) fun t4_7 => K (.tup [(.agg t4_7), (.bool false)]) s_6 := fun hg => by
    unfold gotG at hK
    rw [hg] at hK
    refine optK_of (a := [.int .i64 0, .int .i64 0, .nilslc]) rfl (wrAgg_step h1 rfl rfl rfl fun s6 h6 u6 => optK_of (rdN_all (n := 3) h6 rfl) ?_)
    exact hK s6 .nilslc (sub1.upto u6 hb0) (.inl ⟨rfl, rfl⟩)
  simp only [arith_lss, optK_mk]
  cases a0 : decide (n < 0) with
  | true =>
    have a0 := of_decide_eq_true a0
    simp only [boolK_true, vc_leafmeshref13_DB_Get_j0, vc_leafmeshref13_DB_Get_j1, pickV_true, optK_mk]
    exact no (by unfold ggR; rw [if_neg (by omega)])
  | false =>
  have a0 := of_decide_eq_false a0
  simp only [boolK_false, nilCheck_ptr, addOff_ptr, Nat.zero_add, rd1_mk c2, p0, optK_mk, arith_geq]
  have hnn := z.nn.1
  cases a1 : decide (nodes ≤ n) with
  | true =>
    have a1 := of_decide_eq_true a1
    simp only [vc_leafmeshref13_DB_Get_j0, vc_leafmeshref13_DB_Get_j1, pickV_true, pickV_false, boolK_true, optK_mk]
    exact no (by unfold ggR; rw [if_pos (by omega), List.getElem?_eq_none (by omega)])
  | false =>
  have a1 := of_decide_eq_false a1
  have hi : n.toNat < G.length := by omega
  have hr : G[n.toNat]? = some G[n.toNat] := List.getElem?_eq_getElem hi
  have hrm : G[n.toNat] ∈ G := List.getElem_mem hi
  generalize G[n.toNat] = r at hr hrm
  have ia := RD.addr (rb := rb) (cap := cap) hi
  rw [Int.toNat_of_nonneg (by omega)] at ia
  obtain ⟨rows, r1, r2⟩ := z1.rw
  obtain ⟨lv, e1, e2, e3, e4⟩ := r2.row r1 hr
  simp only [vc_leafmeshref13_DB_Get_j0, pickV_false, boolK_false, nilCheck_ptr, addOff_ptr, Nat.zero_add, rd1_mk c2, p2, ia, e2, eqV_int, negB_mk, Bool.false_bne, optK_mk, vc_leafmeshref13_DB_Get_j1]
  cases a2 : (r.2.1 == 0) with
  | true =>
    have a2 : r.2.1 = 0 := eq_of_beq a2
    simp only [boolK_true]
    exact no (by unfold ggR; rw [if_pos (by omega), hr]; simp only [if_pos a2])
  | false =>
    have a2 : r.2.1 ≠ 0 := by simpa using a2
    have hg : ggR G n = some r := by unfold ggR; rw [if_pos (by omega), hr]; simp only [if_neg a2]
    unfold gotG at hK
    rw [hg] at hK
    simp only [boolK_false, nilCheck_ptr, addOff_ptr, Nat.zero_add, rd1_mk c2, p2, ia, e1, optK_mk]
    refine rown_in e3 (by have := z.ln r hrm; omega) fun v' s14 k14 sl14 fr14 => ?_
    have h14 := k14 _ _ h1
    refine wrAgg_step h14 rfl rfl (by rw [allOne_cons, allOne_cons, allOne_cons, sl14.one]; rfl) fun s15 h15 u15 => ?_
    have h15 : s15 b0 = some (false, .cells 24 [.int .i64 r.1, .int .i64 r.2.1, v']) := h15
    simp only [rdN_all (n := 3) h15 rfl, optK_mk]
    refine hK s15 v' ((sub1.trans k14).upto u15 hb0) (sl14.keep (fp := fun i => i = b0) (u15.keep rfl) fun b o n c e hne hb => ?_)
    have := fr14 b o n c e (by simpa using hne)
    rw [hb, h1] at this; cases this
/-! ### a list that grows, and what lies beside it -/
def offW (v : AVal) (t : Heap) : Heap := match v with
  | .slc b _ _ _ _ => fun i => if i = b then none else t i
  | _ => t
theorem offW_sub {t : Heap} : Sub (offW v t) t := fun i x hi => by
  unfold offW at hi
  split at hi
  · split at hi
    · cases hi
    · exact hi
  · exact hi
theorem AccR.offB {e : TypeId} {es : Nat} {rows : List (List AVal)} {t : Heap} (h : AccR e es s0 t v rows) : AccR e es (offW v t) t v rows := by
  refine ⟨h.1, ?_⟩
  rcases h.2 with h2 | ⟨b, _, a2, a3⟩
  · exact .inl h2
  · subst a2
    exact .inr ⟨b, by unfold offW; simp, rfl, a3⟩
theorem AccR.offK {e : TypeId} {es : Nat} {rows : List (List AVal)} {t : Heap} (h : AccR e es s0 s v rows) (k : Sub s0 t) : Sub s0 (offW v t) := fun i x hi => by
  rcases h.2 with ⟨rfl, _⟩ | ⟨b, a1, rfl, _⟩
  · exact k _ _ hi
  · unfold offW
    simp only
    rw [if_neg (ne_of_some a1 hi)]
    exact k _ _ hi
theorem AccR.baseW {e : TypeId} {es : Nat} {rows : List (List AVal)} {t : Heap} (h : AccR e es s0 s v rows) (k : Sub t s0) : AccR e es t s v rows := by
  refine ⟨h.1, ?_⟩
  rcases h.2 with h2 | ⟨b, a1, a2, a3⟩
  · exact .inl h2
  · refine .inr ⟨b, ?_, a2, a3⟩
    cases q : t b with
    | none => rfl
    | some x => rw [k _ _ q] at a1; cases a1
theorem sli_off {t : Heap} {lv : AVal} {L : List Int} (h : Sli t lv L) (hne : ∀ b o n c b' o' n' c' e, lv = .slc b o n c 1 → L ≠ [] → v = .slc b' o' n' c' e → b ≠ b') : Sli (offW v t) lv L := by
  cases v with
  | slc b' o' n' c' e' => exact h.keep (fp := fun i => i = b') (fun i e hi hn => by show (if i = b' then none else t i) = _; rw [if_neg hn]; exact hi) fun b o n c e hl hb => hne b o n c b' o' n' c' e' e (by simpa using hl) rfl hb
  | _ => exact h
/-! ### All, lists, View -/
def allG (G : List Rec) : List Rec := G.filter fun r => decide (0 < r.2.1)
theorem rAll_in (z : RD Fz s o rb nodes node last G) (hK : ∀ v s', Sub s s' → Rcs s' v (allG G) → K v s') : wpCall Try.prog XX 60 [.ptr o 0] K s := by
  refine vc_leafmeshref13_DB_All_in ?_
  unfold vc_leafmeshref13_DB_All
  have hnn := z.nn
  refine ⟨fun ys t m => ∃ (i : Nat) (w : AVal) (rws : List (List AVal)), ys = [w, .int .i64 (i : Int)] ∧ i ≤ G.length ∧ m = G.length - i ∧ Sub s t ∧ AccR 24 3 s t w rws ∧ rws.length = (allG (G.take i)).length ∧ ∀ (j : Nat) (r : Rec), (allG (G.take i))[j]? = some r → ∃ lv, rws[j]? = some [.int .i64 r.1, .int .i64 r.2.1, lv] ∧ Sli t lv r.2.2 ∧ ∀ b o n c b' o' n' c' e, lv = .slc b o n c 1 → r.2.2 ≠ [] → w = .slc b' o' n' c' e → b ≠ b', ⟨_, 0, _, [], rfl, by omega, rfl, .refl _, ⟨by simp, .inl ⟨rfl, rfl⟩⟩, rfl, fun j r h => by simp [allG] at h⟩, ?_⟩
  rintro en t m ⟨i, w, rws, hy, hi, rfl, kt, acc, hrl, hrows⟩
  simp only [List.cons.injEq, and_true] at hy
  rw [hy.1, hy.2]
  have zt := z.sub kt
  obtain ⟨cap, c1, c2⟩ := zt.dc
  have p0 : [AVal.int .i64 nodes, .int .i64 node, .slc rb 0 G.length cap 3, .int .i64 last][0]? = some (.int .i64 nodes) := rfl
  have p2 : [AVal.int .i64 nodes, .int .i64 node, .slc rb 0 G.length cap 3, .int .i64 last][2]? = some (.slc rb 0 G.length cap 3) := rfl
  simp only [vc_leafmeshref13_DB_All_l0, nilCheck_ptr, addOff_ptr, Nat.zero_add, rd1_mk c2, p0, optK_mk, arith_lss]
  refine boolK_mk (fun hlt => ?_) (fun hge => ?_)
  · have hlt : i < G.length := by have := of_decide_eq_true hlt; omega
    have hr : G[i]? = some G[i] := List.getElem?_eq_getElem hlt
    have hrm : G[i] ∈ G := List.getElem_mem hlt
    generalize G[i] = r at hr hrm
    have ia := RD.addr (rb := rb) (cap := cap) hlt
    obtain ⟨rows, r1, r2⟩ := zt.rw
    obtain ⟨lv, e1, e2, e3, e4⟩ := r2.row r1 hr
    have step : allG (G.take (i + 1)) = allG (G.take i) ++ (if 0 < r.2.1 then [r] else []) := by
      unfold allG
      rw [List.take_add_one, hr, List.filter_append]
      congr 1
      simp only [Option.toList_some, List.filter_cons, List.filter_nil, decide_eq_true_eq]
    simp only [nilCheck_ptr, addOff_ptr, Nat.zero_add, rd1_mk c2, p2, ia, e2, optK_mk, arith_gtr]
    refine boolK_mk (fun q => ?_) (fun q => ?_)
    · have q := of_decide_eq_true q
      simp only [nilCheck_ptr, addOff_ptr, Nat.zero_add, rd1_mk c2, p2, ia, e1, optK_mk]
      refine rown_in e3 (by have := z.ln r hrm; omega) fun v' s18 k18 sl18 fr18 => ?_
      refine optK_of (fillr3 rfl) ⟨by rw [allOne_cons, allOne_cons, allOne_cons, sl18.one]; rfl, new_step fun b20 s21 hb20 h21 u21 => ?_⟩
      have k21 := u21.sub hb20
      have lit : SlR 3 s21 (.slc b20 0 1 (some 1) 3) [[.int .i64 r.1, .int .i64 r.2.1, v']] := SlR.mk (rows := [[.int .i64 r.1, .int .i64 r.2.1, v']]) (by intro r hr; rw [List.mem_singleton] at hr; subst hr; rfl) (by simpa using h21) rfl (by simp)
      have hlen : rws.length ≤ 32 := by
        rw [hrl]
        unfold allG
        have := List.length_filter_le (fun r : Rec => decide (0 < r.2.1)) (G.take i)
        rw [List.length_take] at this
        omega
      have kk := k18.trans k21
      -- lists that were there are none of the block that grows
      have accK := acc.sub kk
      have k0 : Sub s (offW w s21) := acc.offK (kt.trans kk)
      have wt : ∀ b' o' n' c' e', w = .slc b' o' n' c' e' → t b' ≠ none := fun b' o' n' c' e' e => by
        rcases acc.2 with ⟨rfl, _⟩ | ⟨b1, _, rfl, h1⟩
        · cases e
        · injection e with e
          rw [← e, h1]; simp
      refine accK.offB.app (m := [[.int .i64 r.1, .int .i64 r.2.1, v']]) lit (by simp) (by simp; omega) offW_sub fun v22 s23 a23 k23 => ?_
      have far : ∀ {lv : AVal} {L : List Int}, Sli (offW w s21) lv L → ∀ b o n c b' o' n' c' e, lv = .slc b o n c 1 → L ≠ [] → v22 = .slc b' o' n' c' e → b ≠ b' := fun {lv L} h b o n c b' o' n' c' e e1 hne e2 hb => by
        have h1 := h.was b o n c e1 (by simpa using hne)
        rcases a23.2 with ⟨e3, _⟩ | ⟨b1, h2, e3, _⟩
        · rw [e2] at e3; cases e3
        · rw [e2] at e3
          injection e3 with e3
          rw [hb, e3] at h1
          exact h1 h2
      simp only [vc_leafmeshref13_DB_All_j1, arith_add, optK_mk]
      rw [wrap64 (by omega) (by omega)]
      refine ⟨_, by omega, i + 1, v22, _, rfl, by omega, rfl, k0.trans k23, a23.baseW k0, ?_, fun j r' hj => ?_⟩
      · rw [step, if_pos q, List.length_append, List.length_append, hrl]; rfl
      · rw [step, if_pos q] at hj
        by_cases hjl : j < rws.length
        · rw [List.getElem?_append_left (by rw [← hrl]; exact hjl)] at hj
          obtain ⟨lv', x1, x2, x3⟩ := hrows j r' hj
          have x4 : Sli (offW w s21) lv' r'.2.2 := sli_off (x2.sub kk) x3
          exact ⟨lv', by rw [List.getElem?_append_left hjl]; exact x1, x4.sub k23, far x4⟩
        · rw [List.getElem?_append_right (by omega)] at hj
          have : j = rws.length := by
            have := (List.getElem?_eq_some_iff.1 hj).1
            simp only [List.length_singleton] at this
            omega
          subst this
          rw [hrl, Nat.sub_self] at hj
          simp only [List.getElem?_cons_zero, Option.some.injEq] at hj
          subst hj
          have x4 : Sli (offW w s21) v' r.2.2 := sli_off (sl18.sub k21) fun b o n c b' o' n' c' e e1 hne e2 hb => by
            have := fr18 b o n c e1 hne
            exact wt b' o' n' c' e e2 (by rw [← hb]; exact this)
          exact ⟨v', by rw [List.getElem?_append_right (by omega), Nat.sub_self]; rfl, x4.sub k23, far x4⟩
    · simp only [vc_leafmeshref13_DB_All_j1, arith_add, optK_mk]
      rw [wrap64 (by omega) (by omega)]
      refine ⟨_, by omega, i + 1, w, rws, rfl, by omega, rfl, kt, acc, ?_, ?_⟩
      · rw [step, if_neg (of_decide_eq_false q), List.append_nil]; exact hrl
      · rw [step, if_neg (of_decide_eq_false q), List.append_nil]; exact hrows
  · have hge : i = G.length := by have := of_decide_eq_false hge; omega
    subst hge
    rw [List.take_length] at hrl hrows
    exact hK w t kt ⟨rws, acc.sl, hrl, fun j r hj => by
      obtain ⟨lv, e1, e2, _⟩ := hrows j r hj
      exact ⟨lv, e1, e2⟩⟩
end Go.AM
set_option maxRecDepth 100000
namespace Go.AM
open Go Go.Proofs
variable {K : AVal → Heap → Prop} {s s' s0 : Heap} {Fz : Nat → Prop} {o rb : Nat} {nodes node last n q : Int} {G : List Rec} {v w : AVal} {L : List Int}
/-! ### the reference's View -/
def lsG (G : List Rec) (n k : Int) : Bool := decide (k ∈ (gotG G n).2.2)
theorem gotG_len (z : RD Fz s o rb nodes node last G) : (gotG G n).2.2.length ≤ 100000 := by
  unfold gotG ggR
  split
  · cases e : G[n.toNat]? with
    | none => simp
    | some r =>
      simp only
      split
      · simp
      · exact z.ln r (List.mem_of_getElem? e)
  · simp
theorem rlists_in {k : Int} (z : RD Fz s o rb nodes node last G) (hK : ∀ s', Sub s s' → K (.bool (lsG G n k)) s') : wpCall Try.prog XX 69 [.ptr o 0, .int .i64 n, .int .i64 k] K s := by
  refine vc_leafmeshref13_DB_lists_in (rGet_in z fun s1 lv k1 sl1 => ?_)
  have hlen := gotG_len (n := n) z
  have hk0 := hK
  unfold lsG at hK
  generalize hr : gotG G n = r at sl1 hlen hK
  refine optK_of (a := recV r.1 r.2.1 lv) rfl (optK_of (a := .bool _) rfl (new_step fun b4 s5 hb4 h5 u5 => wrAgg_step h5 rfl rfl (by rw [allOne_cons, allOne_cons, allOne_cons, sl1.one]; rfl) fun s6 h6 u6 => ?_))
  have h6 : s6 b4 = some (false, .cells 24 [.int .i64 r.1, .int .i64 r.2.1, lv]) := h6
  have k6 : Sub s1 s6 := (u5.sub hb4).upto u6 hb4
  have kk := k1.trans k6
  have sl6 := sl1.sub k6
  have p2 : [AVal.int .i64 r.1, .int .i64 r.2.1, lv][2]? = some lv := rfl
  refine ⟨fun ys t m => ∃ i : Nat, ys = [.int .i64 (i : Int)] ∧ t = s6 ∧ i ≤ r.2.2.length ∧ m = r.2.2.length - i ∧ k ∉ r.2.2.take i, ⟨_, 0, rfl, rfl, by omega, rfl, by simp⟩, ?_⟩
  rintro en t m ⟨i, hy, rfl, hi, rfl, hno⟩
  simp only [List.cons.injEq, and_true] at hy
  rw [hy]
  unfold vc_leafmeshref13_DB_lists_l0
  cases e : (ggR G n).isSome with
  | false =>
    simp only [boolK_false, vc_leafmeshref13_DB_lists_j1, pickV_false, optK_mk]
    have : r = (0, 0, []) := by
      rw [← hr]
      unfold gotG
      cases e' : ggR G n with
      | none => rfl
      | some x => rw [e'] at e; cases e
    have := hK t kk
    rw [‹r = _›] at this
    exact this
  | true =>
    simp only [boolK_true, addOff_ptr, Nat.zero_add, rd1_mk h6, p2, sl6.len, List.length_map, optK_mk, arith_lss, vc_leafmeshref13_DB_lists_j1, pickV_true]
    refine boolK_mk (fun hlt => ?_) (fun hge => ?_)
    · have hlt : i < r.2.2.length := by have := of_decide_eq_true hlt; omega
      obtain ⟨p, e1, e2⟩ := sli_at sl6 hlt
      simp only [e1, e2, optK_mk, eqV_int, negB_mk, Bool.false_bne]
      refine boolK_mk (fun q => ?_) (fun q => ?_)
      · have q : r.2.2[i] = k := eq_of_beq q
        have := hK t kk
        rwa [decide_eq_true (q ▸ List.getElem_mem hlt)] at this
      · have q : r.2.2[i] ≠ k := by simpa using q
        simp only [arith_add, optK_mk]
        rw [wrap64 (by omega) (by omega)]
        refine ⟨_, by omega, i + 1, rfl, (by trivial), by omega, rfl, fun hm => ?_⟩
        rw [List.take_succ_eq_append_getElem hlt, List.mem_append, List.mem_singleton] at hm
        rcases hm with hm | hm
        · exact hno hm
        · exact q hm.symm
    · have hge : i = r.2.2.length := by have := of_decide_eq_false hge; omega
      subst hge
      rw [List.take_length] at hno
      have := hK t kk
      rwa [decide_eq_false hno] at this
theorem rView_in {links : List Lnk} (z : RD Fz s o rb nodes node last G) (hv : SlR 3 s v (links.map lnR)) (hlen : links.length ≤ 1000000) (hK : ∀ v' s', Sub s s' → Sl s' v' ((viewL (lsG G) links).map AVal.bool) → K v' s') : wpCall Try.prog XX 61 [.ptr o 0, v] K s := by
  refine vc_leafmeshref13_DB_View_in ?_
  unfold vc_leafmeshref13_DB_View
  have lenv : lenOfA v = some links.length := by rw [hv.len, List.length_map]
  simp only [lenv, arith_gtr, optK_mk]
  refine boolK_mk (fun q => ?_) (fun q => ?_)
  · have q := of_decide_eq_true q
    refine hK _ s (.refl _) ?_
    unfold viewL
    rw [if_pos (by omega)]
    exact .inl ⟨rfl, rfl⟩
  · have q := of_decide_eq_false q
    have hn : links.length ≤ 128 := by omega
    let g : Nat → Bool := fun i => lsG G ((links[i]?.getD (0, 0, 0)).1) (i : Int) && lsG G ((links[i]?.getD (0, 0, 0)).2.1) (i : Int)
    refine ⟨fun ys t k => ∃ (i : Nat) (w : AVal), ys = [w, .int .i64 (i : Int)] ∧ i ≤ links.length ∧ k = links.length - i ∧ Sub s t ∧ Acc 4 s t w (((List.range i).map g).map AVal.bool), ⟨_, 0, _, rfl, by omega, rfl, .refl _, .inl ⟨rfl, rfl⟩⟩, ?_⟩
    rintro en t k ⟨i, w, hy, hi, rfl, kt, acc⟩
    simp only [List.cons.injEq, and_true] at hy
    rw [hy.1, hy.2]
    simp only [vc_leafmeshref13_DB_View_l0, lenv, arith_lss, optK_mk]
    refine boolK_mk (fun hlt => ?_) (fun hge => ?_)
    · have hlt : i < links.length := by have := of_decide_eq_true hlt; omega
      have hx : links[i]? = some links[i] := List.getElem?_eq_getElem hlt
      have gi : g i = (lsG G links[i].1 (i : Int) && lsG G links[i].2.1 (i : Int)) := by
        show (lsG G ((links[i]?.getD (0, 0, 0)).1) (i : Int) && lsG G ((links[i]?.getD (0, 0, 0)).2.1) (i : Int)) = _
        rw [hx]; rfl
      have cell : ∀ {t : Heap}, Sub s t → ∃ pb po, iaddrS 3 v (.int .i64 (i : Int)) = some (.ptr pb po) ∧ rd1 t (.ptr pb po) = some (.int .i64 links[i].1) ∧ rd1 t (.ptr pb (po + 1)) = some (.int .i64 links[i].2.1) := fun {t} k => by
        obtain ⟨pb, po, e1, _, e3⟩ := (hv.sub k).get (i := i) (r := lnR links[i]) (by rw [List.getElem?_map, hx]; rfl)
        exact ⟨pb, po, e1, e3 0 (by omega), e3 1 (by omega)⟩
      obtain ⟨pb, po, e1, e2, _⟩ := cell kt
      have fin : ∀ {t2 : Heap} (p r : AVal) (b : Bool), Sub t t2 → pickV p r (.bool false) = some (.bool b) → g i = b → vc_leafmeshref13_DB_View_j1 XX (.int .i64 (i : Int)) w p r (fun ys t k => ∃ (i : Nat) (w : AVal), ys = [w, .int .i64 (i : Int)] ∧ i ≤ links.length ∧ k = links.length - i ∧ Sub s t ∧ Acc 4 s t w (((List.range i).map g).map AVal.bool)) (links.length - i) K t2 := fun {t2} p r b k2 hp hg => by
        have acc2 : Acc 4 s t2 w (((List.range i).map g).map AVal.bool) := acc.imp id fun ⟨b, z1, z2, z3⟩ => ⟨b, z1, z2, k2 _ _ z3⟩
        simp only [vc_leafmeshref13_DB_View_j1, hp, optK_mk]
        refine optK_of (a := [.bool b]) rfl ⟨rfl, new_step fun b13 s14 hb13 h14 u14 => ?_⟩
        have k14 := u14.sub hb13
        have st := (kt.trans k2).trans k14
        have acc3 : Acc 4 s s14 w (((List.range i).map g).map AVal.bool) := acc2.imp id fun ⟨b, z1, z2, z3⟩ => ⟨b, z1, z2, k14 _ _ z3⟩
        refine acc3.app (m := [.bool b]) (Sl.mk h14 rfl (by intro c h; cases h; exact Nat.le_refl _)) (by simp) (by simp; omega) (fun j hj => ?_) fun v6 s6 a6 k6 => ?_
        · cases q : s j with
          | none => exact absurd q hj
          | some y => rw [st j y q]; simp
        · simp only [arith_add, optK_mk]
          rw [wrap64 (by omega) (by omega)]
          refine ⟨_, by omega, i + 1, v6, rfl, by omega, rfl, fun j e hj => k6 j e (st j e hj) fun b z zb => ?_, ?_⟩
          · rcases acc3 with ⟨y, _⟩ | ⟨b', y1, y2, _⟩
            · rw [y] at z; cases z
            · rw [y2] at z
              injection z with z
              rw [zb, ← z, y1] at hj; cases hj
          · rw [List.range_succ, List.map_append, List.map_append, List.map_singleton, List.map_singleton, hg]
            exact a6
      simp only [e1, addOff_ptr, Nat.add_zero, e2, optK_mk]
      refine rlists_in (z.sub kt) fun s10 k10 => ?_
      cases q1 : lsG G links[i].1 (i : Int) with
      | false =>
        simp only [boolK_false]
        exact fin _ _ false k10 rfl (by rw [gi, q1]; rfl)
      | true =>
        obtain ⟨pb', po', e1', _, e3⟩ := cell (kt.trans k10)
        rw [e1] at e1'
        cases e1'
        simp only [boolK_true, e1, addOff_ptr, e3, optK_mk]
        refine rlists_in (z.sub (kt.trans k10)) fun s22 k22 => ?_
        exact fin _ _ _ (k10.trans k22) rfl (by rw [gi, q1, Bool.true_and])
    · have hge : i = links.length := by have := of_decide_eq_false hge; omega
      subst hge
      have hv : (viewL (lsG G) links) = (List.range links.length).map g := by
        unfold viewL
        rw [if_neg (by omega)]
      exact hK w t kt (by rw [hv]; exact acc.sl)
/-! ### New -/
def zeroG (k : Nat) : List Rec := List.replicate k (0, 0, [])
theorem rNew_in {k : Nat} (hk : 1 ≤ k ∧ k ≤ 32) (hn : 0 ≤ node ∧ node < (k : Int)) (hK : ∀ s' o rb, Sub s s' → s o = none → s rb = none → (∀ Fz : Nat → Prop, (∀ b, Fz b → s b ≠ none) → RD Fz s' o rb (k : Int) node 0 (zeroG k)) → K (.tup [.ptr o 0, .int .i64 0]) s') : wpCall Try.prog XX 37 [.int .i64 (k : Int), .int .i64 node] K s := by
  refine vc_leafmeshref13_New_in ?_
  have n1 : nat? (.int .i64 (k : Int)) = some k := nat?_mk
  simp only [vc_leafmeshref13_New, arith_lss, arith_gtr, arith_geq, decide_eq_false (show ¬ (k : Int) < 1 by omega), decide_eq_false (show ¬ 32 < (k : Int) by omega), decide_eq_false (show ¬ node < 0 by omega), decide_eq_false (show ¬ (k : Int) ≤ node by omega), boolK_false, vc_leafmeshref13_New_j0, vc_leafmeshref13_New_j1, vc_leafmeshref13_New_j2, pickV_false, optK_mk, n1]
  refine ⟨⟨Nat.le_refl _, by omega⟩, new_step fun rb s7 hrb h7 u7 => ?_⟩
  refine optK_of (a := [.int .i64 (k : Int), .int .i64 node, .slc rb 0 k (some k) 3, .int .i64 0]) rfl ⟨rfl, new_step fun o s10 ho h10 u10 => ?_⟩
  have k7 := u7.sub hrb
  have ho0 : s o = none := by
    cases q : s o with
    | none => rfl
    | some x => rw [k7 o x q] at ho; cases ho
  have hne : o ≠ rb := by rintro rfl; rw [h7] at ho; cases ho
  have rep : repl k [AVal.int .i64 0, .int .i64 0, .nilslc] = (List.replicate k [AVal.int .i64 0, .int .i64 0, .nilslc]).flatten := by
    clear h7
    induction k with
    | zero => rfl
    | succ k ih =>
      show [AVal.int .i64 0, .int .i64 0, .nilslc] ++ repl k _ = _
      rw [List.replicate_succ, List.flatten_cons]
      congr 1
      have : ∀ k : Nat, repl k [AVal.int .i64 0, .int .i64 0, .nilslc] = (List.replicate k [AVal.int .i64 0, .int .i64 0, .nilslc]).flatten := fun k => by
        induction k with
        | zero => rfl
        | succ k ih =>
          show [AVal.int .i64 0, .int .i64 0, .nilslc] ++ repl k _ = _
          rw [List.replicate_succ, List.flatten_cons, ih]
      exact this k
  refine hK s10 o rb (k7.trans (u10.sub ho)) ho0 hrb fun Fz hF => ?_
  have zl : (zeroG k).length = k := by unfold zeroG; simp
  refine ⟨⟨some k, by rw [zl]; intro c h; cases h; exact Nat.le_refl _, by rw [zl]; exact h10⟩, ⟨List.replicate k [.int .i64 0, .int .i64 0, .nilslc], ?_, by rw [zl, List.length_replicate], fun r hr => by rw [List.eq_of_mem_replicate hr]; rfl, fun i r hi => ?_⟩, fun h => hF o h ho0, fun h => hF rb h hrb, hne, by rw [zl]; exact ⟨rfl, hk.2, hn⟩, fun r hr => by rw [List.eq_of_mem_replicate hr]; simp⟩
  · rw [u10 rb (Ne.symm hne), h7, rep]
  · have hr := List.mem_of_getElem? hi
    have hil : i < k := by rw [← zl]; exact (List.getElem?_eq_some_iff.1 hi).1
    rw [List.eq_of_mem_replicate hr]
    exact ⟨.nilslc, by rw [List.getElem?_replicate, if_pos hil], .inl ⟨rfl, rfl⟩, fun b o' n c h => by cases h⟩
end Go.AM
set_option maxRecDepth 100000
namespace Go.AM
open Go Go.Proofs
variable {K : AVal → Heap → Prop} {s s' s0 : Heap} {Fz : Nat → Prop} {o rb : Nat} {nodes node last n q : Int} {G : List Rec} {v w : AVal} {L : List Int}
/-! ### the reference's Own -/
structure OwnH where
  r : Rec
  nw : Bool
  err : Int
  last : Int
  G : List Rec
def ownHN (node last : Int) (G : List Rec) (L : List Int) : OwnH := if 1073741824 ≤ last then ⟨(0, 0, []), false, 7, last, G⟩ else ⟨(node, last + 1, L), true, 0, last + 1, G.set node.toNat (node, last + 1, L)⟩
def ownH (node last : Int) (G : List Rec) (L : List Int) : OwnH :=
  if chkL none L ≠ 0 then ⟨(0, 0, []), false, chkL none L, last, G⟩ else
  match G[node.toNat]? with
  | some r => if 0 < r.2.1 ∧ r.2.2 = L then ⟨r, false, 0, last, G⟩ else ownHN node last G L
  | none => ownHN node last G L
theorem RD.own (z : RD Fz s o rb nodes node last G) : s o ≠ none ∧ s rb ≠ none := by
  obtain ⟨cap, _, c2⟩ := z.dc
  obtain ⟨rows, r1, _⟩ := z.rw
  exact ⟨by rw [c2]; simp, by rw [r1]; simp⟩
/-- after a result is laid into the block that waits for it -/
theorem rown_end {b0 : Nat} {r : Rec} {lv w4 : AVal} {s4 : Heap} {old : List AVal} (z : RD Fz s o rb nodes node last G) (hb0 : Fz b0) (h0 : s b0 = some (false, .cells 24 old)) (ho : old.length = 3) (hw : w4 = recV r.1 r.2.1 lv) (k4 : Sub s s4) (sl : Sli s4 lv r.2.2) (fr : ∀ b o n c, lv = .slc b o n c 1 → r.2.2 ≠ [] → s b = none) {R : AVal → Heap → Prop}
    (hK : ∀ s5, KeepBut (fun i => i = b0) s s5 → RD Fz s5 o rb nodes node last G → Sli s5 lv r.2.2 → R (.agg [.int .i64 r.1, .int .i64 r.2.1, lv]) s5) : optK (wrAgg s4 3 (.ptr b0 0) w4) fun s_30 => optK (rdN s_30 3 (.ptr b0 0)) fun t4 => R (.agg t4) s_30 := by
  subst hw
  have h4 := k4 _ _ h0
  refine wrAgg_step h4 (by rw [ho]; rfl) ho (by rw [allOne_cons, allOne_cons, allOne_cons, sl.one]; rfl) fun s5 h5 u5 => ?_
  have h5 : s5 b0 = some (false, .cells 24 [.int .i64 r.1, .int .i64 r.2.1, lv]) := h5
  refine optK_of (rdN_all (n := 3) h5 rfl) (hK s5 (fun i e hi hn => by rw [u5 i hn]; exact k4 i e hi) ((z.sub k4).keep (u5.keep (fp := fun i => i = b0) rfl) (fun i hi => by rw [show i = b0 from hi]; exact hb0)) ?_)
  refine sl.keep (fp := fun i => i = b0) (u5.keep rfl) fun b o n c e hne hb => ?_
  have := fr b o n c e (by simpa using hne)
  rw [hb, h0] at this; cases this
theorem rOwn_in (z : RD Fz s o rb nodes node last G) (hF : ∀ b, Fz b → s b ≠ none) (h : Sli s v L) (hv : ∀ b o' n c, v = .slc b o' n c 1 → L ≠ [] → b ≠ o ∧ b ≠ rb) (hl : L.length ≤ 100000) (h0 : 0 ≤ last)
    (hK : ∀ s' lv, KeepBut (fun i => i = o ∨ i = rb) s s' → RD Fz s' o rb nodes node (ownH node last G L).last (ownH node last G L).G → Sli s' lv (ownH node last G L).r.2.2 → K (.tup [recV (ownH node last G L).r.1 (ownH node last G L).r.2.1 lv, .bool (ownH node last G L).nw, .int .i64 (ownH node last G L).err]) s') : wpCall Try.prog XX 39 [.ptr o 0, v] K s := by
  refine vc_leafmeshref13_DB_Own_in (new_step fun b0 s1 hb0 h1 u1 => ?_)
  have sub1 := u1.sub hb0
  obtain ⟨no, nr⟩ := z.own
  have o0 : b0 ≠ o := by rintro rfl; exact no hb0
  have r0 : b0 ≠ rb := by rintro rfl; exact nr hb0
  have z1 : RD (fun b => Fz b ∨ b = b0) s1 o rb nodes node last G := (z.more.sub sub1).weak fun b hb => by
    rcases hb with hb | rfl
    · exact .inl hb
    · exact .inr hb0
  have hF1 : ∀ {t : Heap}, Sub s1 t → ∀ b, (Fz b ∨ b = b0) → t b ≠ none := fun {t} k b hb => by
    rcases hb with hb | rfl
    · cases e : s b with
      | none => exact absurd e (hF b hb)
      | some x => rw [k _ _ (sub1 b x e)]; simp
    · rw [k _ _ h1]; simp
  refine rlinks_in (h.sub sub1) (by omega) ?_
  have fin : ∀ {g : OwnH} {t t5 : Heap} {lv : AVal}, ownH node last G L = g → KeepBut (fun i => i = o ∨ i = rb) s1 t → KeepBut (fun i => i = b0) t t5 → RD (fun b => Fz b ∨ b = b0) t5 o rb nodes node g.last g.G → Sli t5 lv g.r.2.2 → K (.tup [.agg [.int .i64 g.r.1, .int .i64 g.r.2.1, lv], .bool g.nw, .int .i64 g.err]) t5 := fun {g t t5 lv} hg k k5 z5 sl => by
    rw [hg] at hK
    refine hK t5 lv (fun i e hi hn => ?_) (z5.weak fun b hb => .inl hb) sl
    have hib : i ≠ b0 := by rintro rfl; rw [hb0] at hi; cases hi
    exact k5 i e (k i e (sub1 i e hi) hn) hib
  obtain ⟨cap, c1, c2⟩ := z1.dc
  have nn := z.nn
  have hi : node.toNat < G.length := by omega
  have hr : G[node.toNat]? = some G[node.toNat] := List.getElem?_eq_getElem hi
  have hrm : G[node.toNat] ∈ G := List.getElem_mem hi
  generalize G[node.toNat] = r at hr hrm
  have hrl := z.ln r hrm
  have ia := RD.addr (rb := rb) (cap := cap) hi
  rw [Int.toNat_of_nonneg (by omega)] at ia
  obtain ⟨rows, r1, r2⟩ := z1.rw
  obtain ⟨lr, e1, e2, e3, e4⟩ := r2.row r1 hr
  have p1 : ∀ la : Int, [AVal.int .i64 nodes, .int .i64 node, .slc rb 0 G.length cap 3, .int .i64 la][1]? = some (.int .i64 node) := fun _ => rfl
  have p2 : ∀ la : Int, [AVal.int .i64 nodes, .int .i64 node, .slc rb 0 G.length cap 3, .int .i64 la][2]? = some (.slc rb 0 G.length cap 3) := fun _ => rfl
  have p3 : ∀ la : Int, [AVal.int .i64 nodes, .int .i64 node, .slc rb 0 G.length cap 3, .int .i64 la][3]? = some (.int .i64 la) := fun _ => rfl
  simp only [nilCheck_ptr, addOff_ptr, Nat.zero_add, rd1_mk c2, p1, p2, ia, e1, optK_mk]
  refine newM (s := s1) (l := []) fun b12 s13 hb12 h12 u12 => ?_
  generalize add s1 s13 = T at h12 u12
  refine wrAgg_step h12 rfl rfl (by rw [allOne_cons, allOne_cons, allOne_cons, e3.one]; rfl) fun s14 h14 u14 => ?_
  have h14 : s14 b12 = some (false, .cells 24 [.int .i64 r.1, .int .i64 r.2.1, lr]) := h14
  have k14 : Sub s1 s14 := (u12.sub hb12).upto u14 hb12
  have z14 := z1.sub k14
  have h114 := k14 _ _ h1
  simp only [eqV_int, negB_mk, Bool.true_bne, optK_mk]
  cases a0 : (chkL none L == 0) with
  | false =>
    have a0 : chkL none L ≠ 0 := by simpa using a0
    simp only [Bool.not_false, boolK_true]
    refine optK_of (a := [.int .i64 0, .int .i64 0, .nilslc]) rfl ?_
    refine rown_end (r := (0, 0, [])) (lv := .nilslc) (R := fun x t => K (.tup [x, .bool false, .int .i64 (chkL none L)]) t) z14 (.inr rfl) h114 rfl rfl (.refl _) (.inl ⟨rfl, rfl⟩) (fun _ _ _ _ h => by cases h) fun s5 k5 z5 sl5 => ?_
    have hg : ownH node last G L = ⟨(0, 0, []), false, chkL none L, last, G⟩ := by unfold ownH; rw [if_pos a0]
    exact fin hg (fun i e hi _ => k14 i e hi) k5 z5 sl5
  | true =>
  have a0 : chkL none L = 0 := eq_of_beq a0
  have hown : ownH node last G L = if 0 < r.2.1 ∧ r.2.2 = L then ⟨r, false, 0, last, G⟩ else ownHN node last G L := by unfold ownH; rw [if_neg (by simpa using a0), hr]
  have q1 : [AVal.int .i64 r.1, .int .i64 r.2.1, lr][1]? = some (.int .i64 r.2.1) := rfl
  have q2 : [AVal.int .i64 r.1, .int .i64 r.2.1, lr][2]? = some lr := rfl
  simp only [Bool.not_true, boolK_false, addOff_ptr, Nat.zero_add, rd1_mk h14, q1, optK_mk, arith_gtr]
  -- a new record
  have mk : ¬ (0 < r.2.1 ∧ r.2.2 = L) → ∀ {t30 t35 : AVal}, pickV t30 t35 (.bool false) = some (.bool false) → vc_leafmeshref13_DB_Own_j0 XX (.ptr o 0) v (.ptr b0 0) (.ptr b12 0) t30 t35 K s14 := fun hne {t30 t35} hp => by
    rw [if_neg hne] at hown
    have d14 := k14 _ _ c2
    simp only [vc_leafmeshref13_DB_Own_j0, hp, optK_mk, boolK_false, nilCheck_ptr, addOff_ptr, Nat.zero_add, rd1_mk d14, p3, arith_geq]
    refine boolK_mk (fun q => ?_) (fun q => ?_)
    · have q := of_decide_eq_true q
      refine optK_of (a := [.int .i64 0, .int .i64 0, .nilslc]) rfl ?_
      refine rown_end (r := (0, 0, [])) (lv := .nilslc) (R := fun x t => K (.tup [x, .bool false, .int .i64 7]) t) z14 (.inr rfl) h114 rfl rfl (.refl _) (.inl ⟨rfl, rfl⟩) (fun _ _ _ _ h => by cases h) fun s5 k5 z5 sl5 => ?_
      have hg : ownH node last G L = ⟨(0, 0, []), false, 7, last, G⟩ := by rw [hown]; unfold ownHN; rw [if_pos q]
      exact fin hg (fun i e hi _ => k14 i e hi) k5 z5 sl5
    · have q := of_decide_eq_false q
      have hg : ownH node last G L = ⟨(node, last + 1, L), true, 0, last + 1, G.set node.toNat (node, last + 1, L)⟩ := by rw [hown]; unfold ownHN; rw [if_neg q]
      simp only [arith_add, optK_mk]
      rw [wrap64 (by omega) (by omega)]
      refine wr1_step d14 (by simp) rfl fun s41 h41 u41 => ?_
      have h41 : s41 o = some (false, .cells 96 [.int .i64 nodes, .int .i64 node, .slc rb 0 G.length cap 3, .int .i64 (last + 1)]) := h41
      simp only [rd1_mk h41, p1, p2, p3, optK_mk]
      have sl41 : Sli s41 v L := ((h.sub sub1).sub k14).keep (fp := fun i => i = o) (u41.keep rfl) fun b o' n c e hne hb => (hv b o' n c e (by simpa using hne)).1 hb
      have ex : ∀ b, (Fz b ∨ b = b0) ∨ b = o ∨ b = rb → s41 b ≠ none := fun b hb hn => by
        by_cases e : b = o
        · rw [e, h41] at hn; cases hn
        · rw [u41 b e] at hn
          rcases hb with hb | hb | hb
          · exact hF1 k14 b hb hn
          · exact e hb
          · exact z14.own.2 (hb ▸ hn)
      refine optK_of (fillRec rfl rfl sl41.one) (rown_in (s := frz s41) sl41.frz (by omega) fun lv s56 k56 sl56 fr56 => ?_)
      intro _
      have sl57 := sl56.addf k56
      have kT : Sub s41 (add s41 s56) := sub_add
      generalize add s41 s56 = T2 at sl57 kT
      rw [ia]
      have kT2 : KeepBut (fun i => i = o) s14 T2 := KeepBut.trans (fp := fun i => i = o) (u41.keep rfl) kT.keep
      simp only [optK_mk]
      refine RD.put (r := (node, last + 1, L)) z14 kT2 (kT _ _ h41) c1 hi sl57 (fun b o' n c e hne => ?_) hl fun s58 z58 u58 => ?_
      · have hn : s41 b = none := frz_none.1 (fr56 b o' n c e hne)
        exact ⟨fun hb => ex b (.inl hb) hn, fun hb => ex b (.inr (.inl hb)) hn, fun hb => ex b (.inr (.inr hb)) hn⟩
      obtain ⟨cap2, _, d58⟩ := z58.dc
      obtain ⟨rows2, w1, w2⟩ := z58.rw
      have hi2 : node.toNat < (G.set node.toNat (node, last + 1, L)).length := by rw [List.length_set]; exact hi
      obtain ⟨lr2, f1, _, f3, _⟩ := w2.row w1 (List.getElem?_set_self hi)
      have ia2 := RD.addr (rb := rb) (cap := cap2) hi2
      rw [Int.toNat_of_nonneg (by omega)] at ia2
      have x1 : [AVal.int .i64 nodes, .int .i64 node, .slc rb 0 (G.set node.toNat (node, last + 1, L)).length cap2 3, .int .i64 (last + 1)][1]? = some (.int .i64 node) := rfl
      have x2 : [AVal.int .i64 nodes, .int .i64 node, .slc rb 0 (G.set node.toNat (node, last + 1, L)).length cap2 3, .int .i64 (last + 1)][2]? = some (.slc rb 0 (G.set node.toNat (node, last + 1, L)).length cap2 3) := rfl
      simp only [nilCheck_ptr, addOff_ptr, Nat.zero_add, rd1_mk d58, x1, x2, ia2, f1, optK_mk]
      refine rown_in f3 (by show L.length ≤ _; omega) fun lv3 s68 k68 sl68 fr68 => ?_
      have h158 : s58 b0 = some (false, .cells 24 [.int .i64 0, .int .i64 0, .nilslc]) := by
        rw [u58 b0 r0]
        exact kT2 _ _ h114 o0
      refine rown_end (r := (node, last + 1, L)) (R := fun x t => K (.tup [x, .bool true, .int .i64 0]) t) z58 (.inr rfl) h158 rfl rfl k68 sl68 fr68 fun s5 k5 z5 sl5 => ?_
      refine fin hg (fun i e hi hn => ?_) k5 z5 sl5
      rw [u58 i fun e => hn (.inr e)]
      exact kT2 i e (k14 i e hi) fun e => hn (.inl e)
  refine boolK_mk (fun q => ?_) (fun q => ?_)
  · have q0 := of_decide_eq_true q
    simp only [addOff_ptr, Nat.zero_add, rd1_mk h14, q2, optK_mk]
    refine rCompare_in (e3.sub k14) ((h.sub sub1).sub k14) (by omega) ?_
    simp only [eqV_int, negB_mk, Bool.false_bne, optK_mk]
    cases e : (cmpL r.2.2 L == 0) with
    | true =>
      have e : r.2.2 = L := cmpL_zero (eq_of_beq e)
      rw [q]
      simp only [vc_leafmeshref13_DB_Own_j0, pickV_true, optK_mk, boolK_true, rdN_all (n := 3) h14 rfl]
      refine rown_in (e3.sub k14) (by omega) fun lv s25 k25 sl25 fr25 => ?_
      have hg : ownH node last G L = ⟨r, false, 0, last, G⟩ := by rw [hown, if_pos ⟨q0, e⟩]
      refine rown_end (r := r) (R := fun x t => K (.tup [x, .bool false, .int .i64 0]) t) z14 (.inr rfl) h114 rfl rfl k25 sl25 fr25 fun s5 k5 z5 sl5 => ?_
      exact fin hg (fun i e hi _ => k14 i e hi) k5 z5 sl5
    | false =>
      have e : r.2.2 ≠ L := fun h => by rw [h, cmpL_refl] at e; cases e
      rw [q]
      exact mk (fun h => e h.2) (by simp only [pickV_true])
  · have q0 := of_decide_eq_false q
    rw [q]
    exact mk (fun h => q0 h.1) (by simp only [pickV_false])
end Go.AM
set_option maxRecDepth 100000
namespace Go.AM
open Go Go.Proofs
variable {K : AVal → Heap → Prop} {s s' s0 : Heap} {Fz : Nat → Prop} {o rb : Nat} {nodes node last n q : Int} {G : List Rec} {v w : AVal} {L : List Int}
/-! ### the reference's Receive -/
theorem set_flat {es : Nat} {y : AVal} : ∀ {rows : List (List AVal)} {i j : Nat} {r : List AVal}, (∀ x ∈ rows, x.length = es) → rows[i]? = some r → j < es → rows.flatten.set (i * es + j) y = (rows.set i (r.set j y)).flatten
  | x :: rows, 0, j, r, hl, hr, hj => by
    cases hr
    have hx : x.length = es := hl x (by simp)
    simp only [Nat.zero_mul, Nat.zero_add, List.flatten_cons, List.set_cons_zero]
    rw [List.set_append_left _ _ (by omega)]
  | x :: rows, i + 1, j, r, hl, hr, hj => by
    have hx : x.length = es := hl x (by simp)
    have ih := set_flat (rows := rows) (i := i) (j := j) (r := r) (y := y) (fun z hz => hl z (by simp [hz])) (by simpa using hr) hj
    simp only [List.set_cons_succ, List.flatten_cons]
    rw [← ih, List.set_append_right _ _ (by rw [Nat.add_mul]; omega)]
    congr 2
    rw [Nat.add_mul]
    omega
theorem RD.seq {T : Heap} {i : Nat} {r : Rec} {last2 x : Int} {cap : Option Nat} (z : RD Fz s o rb nodes node last G) (k : KeepBut (fun i => i = o) s T) (hd : T o = some (false, .cells 96 [.int .i64 nodes, .int .i64 node, .slc rb 0 G.length cap 3, .int .i64 last2])) (hcap : ∀ c, cap = some c → G.length ≤ c) (hi : G[i]? = some r) {R : Heap → Prop}
    (hR : ∀ s3, RD Fz s3 o rb nodes node last2 (G.set i (r.1, x, r.2.2)) → Upto rb T s3 → R s3) : optK (wr1 T (.ptr rb (i * 3 + 1)) (.int .i64 x)) R := by
  obtain ⟨rows, r1, r2⟩ := z.rw
  have hT : T rb = some (false, .cells 24 rows.flatten) := k _ _ r1 fun h => z.ne h.symm
  have hlr : rows.flatten.length = rows.length * 3 := flat3 r2.l3
  have hil := (List.getElem?_eq_some_iff.1 hi).1
  have kT : RW Fz T o rb rows G := r2.keep k fun i hi => .inr (.inl hi)
  obtain ⟨lv, e1, e2, e3⟩ := kT.gt i r hi
  refine wr1_step hT (by rw [hlr, r2.n]; omega) rfl fun s3 h3 u3 => hR s3 ?_ u3
  rw [set_flat (es := 3) r2.l3 e1 (by omega)] at h3
  refine ⟨⟨cap, by rw [List.length_set]; exact hcap, by rw [List.length_set, u3 o z.ne]; exact hd⟩, ⟨_, h3, by rw [List.length_set, List.length_set, r2.n], fun y hy => ?_, fun j r' hj => ?_⟩, z.fo, z.fb, z.ne, by rw [List.length_set]; exact z.nn, fun y hy => ?_⟩
  · rcases List.mem_or_eq_of_mem_set hy with hy | rfl
    · exact r2.l3 y hy
    · rfl
  · by_cases e : i = j
    · subst e
      rw [List.getElem?_set_self hil] at hj
      cases hj
      exact ⟨lv, by rw [List.getElem?_set_self (by rw [r2.n]; exact hil)]; rfl, e2.keep (fp := fun i => i = rb) (u3.keep rfl) fun b o' n c e hne hb => (e3 b o' n c e (by simpa using hne)).2.2 hb, e3⟩
    · rw [List.getElem?_set_ne e] at hj
      obtain ⟨lv', x1, x2, x3⟩ := kT.gt j r' hj
      exact ⟨lv', by rw [List.getElem?_set_ne e]; exact x1, x2.keep (fp := fun i => i = rb) (u3.keep rfl) fun b o' n c e hne hb => (x3 b o' n c e (by simpa using hne)).2.2 hb, x3⟩
  · rcases List.mem_or_eq_of_mem_set hy with hy | rfl
    · exact z.ln y hy
    · exact z.ln r (List.mem_of_getElem? hi)
structure GotH where
  last : Int
  G : List Rec
  code : Int
  err : Int
def recvH (nodes node last : Int) (G : List Rec) (r : Rec) : GotH :=
  if chkR nodes r.1 r.2.1 r.2.2 ≠ 0 then ⟨last, G, 0, chkR nodes r.1 r.2.1 r.2.2⟩ else
  match G[r.1.toNat]? with
  | none => ⟨last, G, 0, 0⟩
  | some x =>
    if r.1 = node ∧ x.2.1 = 0 then ⟨max last r.2.1, G, 0, 0⟩ else
    if 0 < x.2.1 ∧ cmpR r.2.1 x.2.1 r.2.2 x.2.2 = 0 then ⟨last, G, 0, 0⟩ else
    if 0 < x.2.1 ∧ cmpR r.2.1 x.2.1 r.2.2 x.2.2 < 0 then ⟨last, G, 2, 0⟩ else
    if r.1 ≠ node then ⟨last, G.set r.1.toNat r, 1, 0⟩ else
    if 1073741824 ≤ r.2.1 then ⟨last, G, 0, 7⟩ else ⟨r.2.1 + 1, G.set node.toNat (x.1, r.2.1 + 1, x.2.2), 3, 0⟩
theorem rReceive_in (z : RD Fz s o rb nodes node last G) (hF : ∀ b, Fz b → s b ≠ none) (h : Sli s v L) (hl : L.length ≤ 100000)
    (hK : ∀ s', KeepBut (fun i => i = o ∨ i = rb) s s' → RD Fz s' o rb nodes node (recvH nodes node last G (n, q, L)).last (recvH nodes node last G (n, q, L)).G → K (.tup [.int .i64 (recvH nodes node last G (n, q, L)).code, .int .i64 (recvH nodes node last G (n, q, L)).err]) s') : wpCall Try.prog XX 43 [.ptr o 0, recV n q v] K s := by
  refine vc_leafmeshref13_DB_Receive_in (box3 rfl rfl h.one fun b0 s1 hb0 h1 u1 => ?_)
  have sub1 := u1.sub hb0
  have z1 := z.sub sub1
  obtain ⟨cap, c1, c2⟩ := z1.dc
  have p0 : ∀ la : Int, [AVal.int .i64 nodes, .int .i64 node, .slc rb 0 G.length cap 3, .int .i64 la][0]? = some (.int .i64 nodes) := fun _ => rfl
  have p1 : ∀ la : Int, [AVal.int .i64 nodes, .int .i64 node, .slc rb 0 G.length cap 3, .int .i64 la][1]? = some (.int .i64 node) := fun _ => rfl
  have p2 : ∀ la : Int, [AVal.int .i64 nodes, .int .i64 node, .slc rb 0 G.length cap 3, .int .i64 la][2]? = some (.slc rb 0 G.length cap 3) := fun _ => rfl
  have p3 : ∀ la : Int, [AVal.int .i64 nodes, .int .i64 node, .slc rb 0 G.length cap 3, .int .i64 la][3]? = some (.int .i64 la) := fun _ => rfl
  have q0 : [AVal.int .i64 n, .int .i64 q, v][0]? = some (.int .i64 n) := rfl
  have q1 : [AVal.int .i64 n, .int .i64 q, v][1]? = some (.int .i64 q) := rfl
  simp only [nilCheck_ptr, addOff_ptr, Nat.zero_add, rd1_mk c2, p0, rdN_all (n := 3) h1 rfl, optK_mk]
  refine rCheck_in (h.sub sub1) (by omega) fun s7 k7 => ?_
  have sub7 := sub1.trans k7
  have z7 := z.sub sub7
  have d7 := k7 _ _ c2
  have h17 := k7 _ _ h1
  simp only [eqV_int, negB_mk, Bool.true_bne, optK_mk]
  unfold recvH at hK
  cases a0 : (chkR nodes n q L == 0) with
  | false =>
    have a0 : chkR nodes n q L ≠ 0 := by simpa using a0
    simp only [Bool.not_false, boolK_true]
    rw [if_pos a0] at hK
    exact hK s7 sub7.keep z7
  | true =>
  have a0 : chkR nodes n q L = 0 := eq_of_beq a0
  rw [if_neg (by simpa using a0)] at hK
  obtain ⟨hn, hq1, hq2⟩ := chkR_rg a0
  have nn := z.nn
  have hi : n.toNat < G.length := by omega
  have hr : G[n.toNat]? = some G[n.toNat] := List.getElem?_eq_getElem hi
  have hrm : G[n.toNat] ∈ G := List.getElem_mem hi
  generalize G[n.toNat] = x at hr hrm
  rw [show (n, q, L).1.toNat = n.toNat from rfl, hr] at hK
  simp only at hK
  have ia := RD.addr (rb := rb) (cap := cap) hi
  rw [Int.toNat_of_nonneg hn.1] at ia
  obtain ⟨rows, r1, r2⟩ := z7.rw
  obtain ⟨lr, e1, e2, e3, e4⟩ := r2.row r1 hr
  simp only [Bool.not_true, boolK_false, nilCheck_ptr, addOff_ptr, Nat.zero_add, rd1_mk d7, p2, rd1_mk h17, q0, ia, e1, optK_mk]
  refine newM (s := s7) (l := []) fun b16 s17 hb16 h16 u16 => ?_
  generalize add s7 s17 = T at h16 u16
  refine wrAgg_step h16 rfl rfl (by rw [allOne_cons, allOne_cons, allOne_cons, e3.one]; rfl) fun s18 h18 u18 => ?_
  have h18 : s18 b16 = some (false, .cells 24 [.int .i64 x.1, .int .i64 x.2.1, lr]) := h18
  have k18 : Sub s7 s18 := (u16.sub hb16).upto u18 hb16
  have h118 := k18 _ _ h17
  simp only [rd1_mk h118, q0, rd1_mk (k18 _ _ d7), p1, eqV_int, negB_mk, Bool.false_bne, rdN_all (n := 3) h118 rfl, rdN_all (n := 3) h18 rfl, optK_mk]
  refine rCompareR_in ((h.sub sub7).sub k18) (e3.sub k18) (by omega) fun s28 k28 => ?_
  have k728 := k18.trans k28
  have sub28 := sub7.trans k728
  have z28 := z.sub sub28
  have d28 := k728 _ _ d7
  have h128 := k728 _ _ h17
  have h1628 := k28 _ _ h18
  have x1 : [AVal.int .i64 x.1, .int .i64 x.2.1, lr][1]? = some (.int .i64 x.2.1) := rfl
  have ex : ∀ b, Fz b ∨ b = o ∨ b = rb → s28 b ≠ none := fun b hb => by
    rcases hb with hb | hb | hb
    · cases e : s b with
      | none => exact absurd e (hF b hb)
      | some y => rw [sub28 b y e]; simp
    · rw [hb]; exact z28.own.1
    · rw [hb]; exact z28.own.2
  -- the last part
  have j2 : ∀ {t66 t68 : AVal} {b : Bool}, pickV t66 t68 (.bool false) = some (.bool b) → (b = true ↔ 0 < x.2.1 ∧ cmpR q x.2.1 L x.2.2 < 0) → ¬ (n = node ∧ x.2.1 = 0) → ¬ (0 < x.2.1 ∧ cmpR q x.2.1 L x.2.2 = 0) → vc_leafmeshref13_DB_Receive_j2 XX (.ptr o 0) (.ptr b0 0) (.bool (n == node)) t66 t68 K s28 := fun {t66 t68 b} hp hb n1 n2 => by
    rw [if_neg n1, if_neg n2] at hK
    unfold vc_leafmeshref13_DB_Receive_j2
    rw [hp]
    simp only [optK_mk]
    cases b with
    | true =>
      rw [if_pos (hb.1 rfl)] at hK
      simp only [boolK_true]
      exact hK s28 sub28.keep z28
    | false =>
      rw [if_neg (fun h => by have := hb.2 h; cases this)] at hK
      simp only [boolK_false, unary_not, optK_mk]
      cases hm : (n == node) with
      | false =>
        have hm : n ≠ node := by simpa using hm
        rw [if_pos hm] at hK
        simp only [Bool.not_false, boolK_true, nilCheck_ptr, addOff_ptr, Nat.zero_add, rd1_mk d28, p2, rd1_mk h128, q0, rdN_all (n := 3) h128 rfl, optK_mk]
        refine rown_in (s := frz s28) (h.sub sub28).frz (by omega) fun lv s57 k57 sl57 fr57 => ?_
        intro _
        have sl58 := sl57.addf k57
        have kT : Sub s28 (add s28 s57) := sub_add
        generalize add s28 s57 = T2 at sl58 kT
        rw [ia]
        simp only [optK_mk]
        refine RD.put (r := (n, q, L)) z28 kT.keep (kT _ _ d28) c1 hi sl58 (fun b o' n c e hne => ?_) hl fun s59 z59 u59 => ?_
        · have hn : s28 b = none := frz_none.1 (fr57 b o' n c e hne)
          exact ⟨fun hb => ex b (.inl hb) hn, fun hb => ex b (.inr (.inl hb)) hn, fun hb => ex b (.inr (.inr hb)) hn⟩
        · refine hK s59 (fun i e hi hn => ?_) z59
          rw [u59 i fun e => hn (.inr e)]
          exact kT i e (sub28 i e hi)
      | true =>
        have hm : n = node := eq_of_beq hm
        subst hm
        rw [if_neg (by simp)] at hK
        simp only [Bool.not_true, boolK_false, addOff_ptr, Nat.zero_add, rd1_mk h128, q1, optK_mk, arith_geq]
        refine boolK_mk (fun qq => ?_) (fun qq => ?_)
        · rw [if_pos (of_decide_eq_true qq)] at hK
          exact hK s28 sub28.keep z28
        · have qq := of_decide_eq_false qq
          rw [if_neg qq] at hK
          simp only [arith_add, optK_mk, nilCheck_ptr, addOff_ptr, Nat.zero_add]
          rw [wrap64 (by omega) (by omega)]
          refine wr1_step d28 (by simp) rfl fun s68 h68 u68 => ?_
          have h68 : s68 o = some (false, .cells 96 [.int .i64 nodes, .int .i64 n, .slc rb 0 G.length cap 3, .int .i64 (q + 1)]) := h68
          simp only [rd1_mk h68, p1, p2, p3, ia, addOff_ptr, optK_mk]
          refine RD.seq z28 (u68.keep rfl) h68 c1 hr fun s80 z80 u80 => ?_
          refine hK s80 (fun i e hi hn => ?_) z80
          rw [u80 i fun e => hn (.inr e), u68 i fun e => hn (.inl e)]
          exact sub28 i e hi
  have j0 : ∀ {t39 t42 : AVal} {b : Bool}, pickV t39 t42 (.bool false) = some (.bool b) → (b = true ↔ n = node ∧ x.2.1 = 0) → vc_leafmeshref13_DB_Receive_j0 XX (.ptr o 0) (.ptr b0 0) (.ptr b16 0) (.bool (n == node)) (.int .i64 (cmpR q x.2.1 L x.2.2)) t39 t42 K s28 := fun {t39 t42 b} hp hb => by
    unfold vc_leafmeshref13_DB_Receive_j0
    rw [hp]
    simp only [optK_mk]
    cases b with
    | true =>
      rw [if_pos (hb.1 rfl)] at hK
      simp only [boolK_true, nilCheck_ptr, addOff_ptr, Nat.zero_add, rd1_mk d28, p3, rd1_mk h128, q1, optK_mk, max64]
      refine wr1_step d28 (by simp) rfl fun s40 h40 u40 => ?_
      refine hK s40 (fun i e hi hn => ?_) ?_
      · rw [u40 i fun e => hn (.inl e)]
        exact sub28 i e hi
      · obtain ⟨rows2, w1, w2⟩ := z28.rw
        exact ⟨⟨cap, c1, h40⟩, ⟨rows2, by rw [u40 rb (Ne.symm z.ne)]; exact w1, w2.keep (fp := fun i => i = o) (u40.keep rfl) fun i hi => .inr (.inl hi)⟩, z.fo, z.fb, z.ne, z.nn, z.ln⟩
    | false =>
      have n1 : ¬ (n = node ∧ x.2.1 = 0) := fun h => by have := hb.2 h; cases this
      simp only [boolK_false, addOff_ptr, Nat.zero_add, rd1_mk h1628, x1, optK_mk, arith_gtr]
      cases a1 : decide (0 < x.2.1) with
      | true =>
        have a1 := of_decide_eq_true a1
        simp only [boolK_true, eqV_int, negB_mk, Bool.false_bne, optK_mk, vc_leafmeshref13_DB_Receive_j1, pickV_true]
        refine boolK_mk (fun a2 => ?_) (fun a2 => ?_)
        · rw [if_neg n1, if_pos ⟨a1, eq_of_beq a2⟩] at hK
          exact hK s28 sub28.keep z28
        · have a2 : cmpR q x.2.1 L x.2.2 ≠ 0 := by simpa using a2
          simp only [addOff_ptr, Nat.zero_add, rd1_mk h1628, x1, optK_mk, arith_gtr, decide_eq_true a1, boolK_true, arith_lss]
          exact j2 rfl (by rw [decide_eq_true_eq]; exact ⟨fun h => ⟨a1, h⟩, fun h => h.2⟩) n1 fun h => a2 h.2
      | false =>
        have a1' := of_decide_eq_false a1
        simp only [boolK_false, vc_leafmeshref13_DB_Receive_j1, pickV_false, optK_mk, addOff_ptr, Nat.zero_add, rd1_mk h1628, x1, arith_gtr, a1]
        exact j2 rfl ⟨fun h => (by cases h), fun h => absurd h.1 a1'⟩ n1 fun h => a1' h.1
  cases hm : (n == node) with
  | false =>
    have hm' : n ≠ node := by simpa using hm
    simp only [boolK_false]
    rw [hm] at j0
    exact j0 rfl ⟨fun h => (by cases h), fun h => absurd h.1 hm'⟩
  | true =>
    have hm' : n = node := eq_of_beq hm
    simp only [boolK_true, addOff_ptr, Nat.zero_add, rd1_mk h1628, x1, eqV_int, negB_mk, Bool.false_bne, optK_mk]
    rw [hm] at j0
    exact j0 rfl (by rw [beq_iff_eq]; exact ⟨fun h => ⟨hm', h⟩, fun h => h.2⟩)
end Go.AM
set_option maxRecDepth 100000
namespace Go.AM
open Go Go.Proofs
variable {K : AVal → Heap → Prop} {s s' s0 : Heap} {Fz : Nat → Prop} {o rb d m : Nat} {nodes node last n q : Int} {G : List Rec} {F : List (Int × Rec)} {v w : AVal} {L : List Int}
/-! ### copies -/
theorem rCopy_in (z : RD Fz s o rb nodes node last G) (hK : ∀ s' o' rb', Sub s s' → s o' = none → s rb' = none → (∀ Fz' : Nat → Prop, (∀ b, Fz' b → s b ≠ none) → RD Fz' s' o' rb' nodes node last G) → K (.ptr o' 0) s') : wpCall Try.prog XX 42 [.ptr o 0] K s := by
  refine vc_leafmeshref13_DB_Copy_in ?_
  unfold vc_leafmeshref13_DB_Copy
  obtain ⟨cap, c1, c2⟩ := z.dc
  have p0 : ∀ w : AVal, [AVal.int .i64 nodes, .int .i64 node, w, .int .i64 last][0]? = some (.int .i64 nodes) := fun _ => rfl
  have p1 : ∀ w : AVal, [AVal.int .i64 nodes, .int .i64 node, w, .int .i64 last][1]? = some (.int .i64 node) := fun _ => rfl
  have p2 : ∀ w : AVal, [AVal.int .i64 nodes, .int .i64 node, w, .int .i64 last][2]? = some w := fun _ => rfl
  have p3 : ∀ w : AVal, [AVal.int .i64 nodes, .int .i64 node, w, .int .i64 last][3]? = some (.int .i64 last) := fun _ => rfl
  have nn := z.nn
  simp only [nilCheck_ptr, addOff_ptr, Nat.zero_add, rd1_mk c2, p0, p1, p3, optK_mk]
  refine optK_of (a := [.int .i64 nodes, .int .i64 node, .nilslc, .int .i64 last]) rfl ⟨rfl, new_step fun o' s11 ho' h11 u11 => ?_⟩
  have h11 : s11 o' = some (false, .cells 96 [.int .i64 nodes, .int .i64 node, .nilslc, .int .i64 last]) := h11
  have k11 := u11.sub ho'
  refine ⟨fun ys t k => ∃ (i : Nat) (w : AVal) (rws : List (List AVal)), ys = [.int .i64 (i : Int)] ∧ i ≤ G.length ∧ k = G.length - i ∧ Sub s t ∧ t o' = some (false, .cells 96 [.int .i64 nodes, .int .i64 node, w, .int .i64 last]) ∧ AccR 24 3 s t w rws ∧ (∀ b a c e f, w = .slc b a c e f → b ≠ o') ∧ rws.length = i ∧ ∀ (j : Nat) (r : Rec), j < i → G[j]? = some r → ∃ lv, rws[j]? = some [.int .i64 r.1, .int .i64 r.2.1, lv] ∧ Sli t lv r.2.2 ∧ (∀ b a c e, lv = .slc b a c e 1 → r.2.2 ≠ [] → s b = none ∧ b ≠ o') ∧ ∀ b a c e b' a' c' e' f', lv = .slc b a c e 1 → r.2.2 ≠ [] → w = .slc b' a' c' e' f' → b ≠ b', ⟨_, 0, _, [], rfl, by omega, rfl, k11, h11, ⟨by simp, .inl ⟨rfl, rfl⟩⟩, fun b a c e f h => (by cases h), rfl, fun j r h => by omega⟩, ?_⟩
  rintro en t k ⟨i, w, rws, hy, hi, rfl, kt, ht, acc, hwo, hrl, hrows⟩
  simp only [List.cons.injEq, and_true] at hy
  rw [hy]
  have zt := z.sub kt
  obtain ⟨cap2, d1, d2⟩ := zt.dc
  simp only [vc_leafmeshref13_DB_Copy_l0, nilCheck_ptr, addOff_ptr, Nat.zero_add, rd1_mk d2, p0, optK_mk, arith_lss]
  refine boolK_mk (fun hlt => ?_) (fun hge => ?_)
  · have hlt : i < G.length := by have := of_decide_eq_true hlt; omega
    have hr : G[i]? = some G[i] := List.getElem?_eq_getElem hlt
    have hrm : G[i] ∈ G := List.getElem_mem hlt
    generalize G[i] = r at hr hrm
    have ia := RD.addr (rb := rb) (cap := cap2) hlt
    obtain ⟨rows, r1, r2⟩ := zt.rw
    obtain ⟨lv, e1, e2, e3, e4⟩ := r2.row r1 hr
    simp only [nilCheck_ptr, addOff_ptr, Nat.zero_add, rd1_mk ht, rd1_mk d2, p2, ia, e1, optK_mk]
    refine rown_in (s := frz t) e3.frz (by have := z.ln r hrm; omega) fun v' s25 k25 sl25 fr25 => ?_
    intro _
    have sl26 := sl25.addf k25
    have kT : Sub t (add t s25) := sub_add
    have fr26 : ∀ b a c e, v' = .slc b a c e 1 → r.2.2 ≠ [] → t b = none := fun b a c e h1 h2 => frz_none.1 (fr25 b a c e h1 h2)
    generalize add t s25 = T at sl26 kT
    refine optK_of (fillr3 rfl) ⟨by rw [allOne_cons, allOne_cons, allOne_cons, sl26.one]; rfl, newM (s := T) (l := []) fun b27 s28 hb27 h27 u27 => ?_⟩
    generalize add T s28 = T2 at h27 u27
    have k27 : Sub T T2 := u27.sub hb27
    have kk := kT.trans k27
    have lit : SlR 3 T2 (.slc b27 0 1 (some 1) 3) [[.int .i64 r.1, .int .i64 r.2.1, v']] := SlR.mk (rows := [[.int .i64 r.1, .int .i64 r.2.1, v']]) (by intro r hr; rw [List.mem_singleton] at hr; subst hr; rfl) (by simpa using h27) rfl (by simp)
    have accK := acc.sub kk
    have k0 : Sub s (offW w T2) := acc.offK (kt.trans kk)
    have wt : ∀ b' a' c' e' f', w = .slc b' a' c' e' f' → t b' ≠ none := fun b' a' c' e' f' e => by
      rcases acc.2 with ⟨rfl, _⟩ | ⟨b1, _, rfl, h1⟩
      · cases e
      · injection e with e
        rw [← e, h1]; simp
    have oo : offW w T2 o' = some (false, .cells 96 [.int .i64 nodes, .int .i64 node, w, .int .i64 last]) := by
      have := kk _ _ ht
      unfold offW
      split
      · rw [if_neg (Ne.symm (hwo _ _ _ _ _ rfl))]
        exact this
      · exact this
    refine accK.offB.app (m := [[.int .i64 r.1, .int .i64 r.2.1, v']]) lit (by simp) (by simp; omega) offW_sub fun v29 s30 a30 k30 => ?_
    have far : ∀ {lv : AVal} {L : List Int}, Sli (offW w T2) lv L → ∀ b a c e b' a' c' e' f', lv = .slc b a c e 1 → L ≠ [] → v29 = .slc b' a' c' e' f' → b ≠ b' := fun {lv L} h b a c e b' a' c' e' f' e1 hne e2 hb => by
      have h1 := h.was b a c e e1 (by simpa using hne)
      rcases a30.2 with ⟨e3, _⟩ | ⟨b1, h2, e3, _⟩
      · rw [e2] at e3; cases e3
      · rw [e2] at e3
        injection e3 with e3
        rw [hb, e3] at h1
        exact h1 h2
    have h30 := k30 _ _ oo
    have v29o : ∀ b a c e f, v29 = .slc b a c e f → b ≠ o' := fun b a c e f e2 hb => by
      rcases a30.2 with ⟨e3, _⟩ | ⟨b1, h2, e3, _⟩
      · rw [e2] at e3; cases e3
      · rw [e2] at e3
        injection e3 with e3
        rw [← e3, hb, oo] at h2; cases h2
    refine wr1_step h30 (by simp) a30.sl.one fun s33 h33 u33 => ?_
    have h33 : s33 o' = some (false, .cells 96 [.int .i64 nodes, .int .i64 node, v29, .int .i64 last]) := h33
    simp only [arith_add, optK_mk]
    rw [wrap64 (by omega) (by omega)]
    have kend : Sub s s33 := (k0.trans k30).upto u33 ho'
    have a33 : AccR 24 3 s s33 v29 (rws ++ [[.int .i64 r.1, .int .i64 r.2.1, v']]) := by
      have a := a30.baseW k0
      refine ⟨a.1, ?_⟩
      rcases a.2 with h | ⟨b, g1, g2, g3⟩
      · exact .inl h
      · exact .inr ⟨b, g1, g2, by rw [u33 b (v29o _ _ _ _ _ g2)]; exact g3⟩
    have slk : ∀ {lv : AVal} {L : List Int}, Sli (offW w T2) lv L → (∀ b a c e, lv = .slc b a c e 1 → L ≠ [] → b ≠ o') → Sli s33 lv L := fun h1 h2 => (h1.sub k30).keep (fp := fun i => i = o') (u33.keep rfl) fun b a c e e1 hne hb => h2 b a c e e1 (by simpa using hne) hb
    refine ⟨_, by omega, i + 1, v29, _, rfl, by omega, rfl, kend, h33, a33, v29o, by rw [List.length_append, hrl]; rfl, fun j r' hj hr' => ?_⟩
    by_cases hjl : j < i
    · obtain ⟨lv', x1, x2, x3, x4⟩ := hrows j r' hjl hr'
      have x5 : Sli (offW w T2) lv' r'.2.2 := sli_off (x2.sub kk) x4
      exact ⟨lv', by rw [List.getElem?_append_left (by omega)]; exact x1, slk x5 fun b a c e h1 h2 => (x3 b a c e h1 h2).2, x3, far x5⟩
    · have hji : j = i := by omega
      subst hji
      rw [hr] at hr'
      cases hr'
      have x5 : Sli (offW w T2) v' r.2.2 := sli_off (sl26.sub k27) fun b a c e b' a' c' e' f' e1 hne e2 hb => by
        have := fr26 b a c e e1 hne
        exact wt b' a' c' e' f' e2 (by rw [← hb]; exact this)
      have x3 : ∀ b a c e, v' = .slc b a c e 1 → r.2.2 ≠ [] → s b = none ∧ b ≠ o' := fun b a c e e1 hne => by
        have := fr26 b a c e e1 hne
        refine ⟨?_, (by rintro rfl; rw [ht] at this; cases this)⟩
        cases y : s b with
        | none => rfl
        | some x => rw [kt b x y] at this; cases this
      exact ⟨v', by rw [List.getElem?_append_right (by omega), hrl, Nat.sub_self]; rfl, slk x5 fun b a c e h1 h2 => (x3 b a c e h1 h2).2, x3, far x5⟩
  · have hge : i = G.length := by have := of_decide_eq_false hge; omega
    subst hge
    rcases acc.2 with ⟨_, hnil⟩ | ⟨rb', g1, rfl, g3⟩
    · rw [hnil] at hrl
      simp only [List.length_nil] at hrl
      omega
    · rw [hrl] at ht
      refine hK t o' rb' kt ho' g1 fun Fz' hF' => ⟨⟨none, fun c h => (by cases h), ht⟩, ⟨rws, g3, hrl, acc.1, fun j r hj => ?_⟩, fun h => hF' _ h ho', fun h => hF' _ h g1, Ne.symm (hwo _ _ _ _ _ rfl), nn, z.ln⟩
      have hjl := (List.getElem?_eq_some_iff.1 hj).1
      obtain ⟨lv, x1, x2, x3, x4⟩ := hrows j r hjl hj
      exact ⟨lv, x1, x2, fun b a c e h1 h2 => ⟨fun h => hF' b h (x3 b a c e h1 h2).1, (x3 b a c e h1 h2).2, x4 b a c e _ _ _ _ _ h1 h2 rfl⟩⟩
/-! ### the program's Copy: the entries in any order -/
theorem born_find {n : Nat} {e : AEnt} : ∀ {es : List AEnt}, (es.map (·.born)).Nodup → e ∈ es → e.born = n → findBorn n es = some e
  | [], _, h, _ => by cases h
  | x :: es, hn, h, hb => by
    rw [List.map_cons, List.nodup_cons] at hn
    unfold findBorn
    rcases List.mem_cons.1 h with rfl | h
    · rw [hb, Nat.beq_refl, cond_true]
    · have : Nat.beq x.born n = false := by
        cases q : Nat.beq x.born n with
        | false => rfl
        | true =>
          have := Nat.eq_of_beq_eq_true q
          exact absurd (List.mem_map.2 ⟨e, h, by rw [hb, this]⟩) hn.1
      first
        | (rw [this, cond_false]; exact born_find hn.2 h hb)
        | (have this2 : Nat.beq n x.born = false := by
             cases q : Nat.beq n x.born with
             | false => rfl
             | true => rw [← Nat.eq_of_beq_eq_true q, Nat.beq_refl] at this; cases this
           rw [this2, cond_false]; exact born_find hn.2 h hb)
theorem old_all {c : Nat} : ∀ {es : List AEnt}, (∀ e ∈ es, e.born < c) → allOld c es = true
  | [], _ => rfl
  | e :: es, h => by
    show (Nat.blt e.born c && allOld c es) = true
    rw [old_all fun x hx => h x (by simp [hx]), Bool.and_true, Nat.blt_eq]
    exact h e (by simp)
theorem hdel_hset {t : Heap} {r : Nat} {x : Bool × Blk} (h : t r = none) : hdel (hset t r x) r = t := by
  funext i
  unfold hdel hset
  by_cases q : i = r
  · rw [if_pos q, q, h]
  · rw [if_neg q, if_neg q]
theorem ent_key {es : List AEnt} {c : Nat} {l : List (Int × AVal)} (h : EsOK es c l) {e : AEnt} (he : e ∈ es) : ∃ p ∈ l, e.key = .int .i64 p.1 ∧ e.val = p.2 := by
  obtain ⟨i, hi, rfl⟩ := List.mem_iff_getElem.1 he
  have hl := h.len
  have := congrArg (fun x => x[i]?) h.kv
  simp only [List.getElem?_map, List.getElem?_eq_getElem hi, List.getElem?_eq_getElem (show i < l.length by omega), Option.map_some, Option.some.injEq, Prod.mk.injEq] at this
  exact ⟨l[i], List.getElem_mem _, this⟩
theorem key_ent {es : List AEnt} {c : Nat} {l : List (Int × AVal)} (h : EsOK es c l) {p : Int × AVal} (hp : p ∈ l) : ∃ e ∈ es, e.key = .int .i64 p.1 := by
  obtain ⟨i, hi, rfl⟩ := List.mem_iff_getElem.1 hp
  have hl := h.len
  have := congrArg (fun x => x[i]?) h.kv
  simp only [List.getElem?_map, List.getElem?_eq_getElem hi, List.getElem?_eq_getElem (show i < es.length by omega), Option.map_some, Option.some.injEq, Prod.mk.injEq] at this
  exact ⟨es[i], List.getElem_mem _, this.1⟩
theorem look_of_mem {V : Type} : ∀ {l : List (Int × V)} {p : Int × V}, (l.map (·.1)).Nodup → p ∈ l → look l p.1 = some p.2
  | x :: l, p, hn, h => by
    rw [List.map_cons, List.nodup_cons] at hn
    rw [look_cons]
    rcases List.mem_cons.1 h with rfl | h
    · rw [if_pos rfl]
    · rw [if_neg (fun e => hn.1 (List.mem_map.2 ⟨p, h, e.symm⟩))]
      exact look_of_mem hn.2 h
theorem mem_of_look {V : Type} {l : List (Int × V)} {k : Int} {a : V} (h : look l k = some a) : (k, a) ∈ l := by
  unfold look at h
  cases e : l.find? (fun p => p.1 == k) with
  | none => rw [e] at h; cases h
  | some p =>
    rw [e] at h
    cases h
    have h1 := List.find?_some e
    have h2 := List.mem_of_find?_eq_some e
    have : p.1 = k := by simpa using h1
    rw [← this]
    exact h2
theorem key_one {es : List AEnt} {c : Nat} {l : List (Int × AVal)} (h : EsOK es c l) : ∀ {e e' : AEnt}, e ∈ es → e' ∈ es → e.key = e'.key → e.born = e'.born := by
  intro e e' he he' hk
  obtain ⟨i, hi, rfl⟩ := List.mem_iff_getElem.1 he
  obtain ⟨j, hj, rfl⟩ := List.mem_iff_getElem.1 he'
  have hl := h.len
  have g : ∀ (i : Nat) (hi : i < es.length), es[i].key = .int .i64 (l[i]'(by omega)).1 := fun i hi => by
    have := congrArg (fun x => x[i]?) h.kv
    simp only [List.getElem?_map, List.getElem?_eq_getElem hi, List.getElem?_eq_getElem (show i < l.length by omega), Option.map_some, Option.some.injEq, Prod.mk.injEq] at this
    exact this.1
  rw [g i hi, g j hj] at hk
  injection hk with _ hk
  have hn := List.pairwise_iff_getElem.1 h.nd
  have : i = j := by
    rcases Nat.lt_trichotomy i j with e | e | e
    · exact absurd (by rw [List.getElem_map, List.getElem_map]; exact hk) (hn i j (by rw [List.length_map]; omega) (by rw [List.length_map]; omega) e)
    · exact e
    · exact absurd (by rw [List.getElem_map, List.getElem_map]; exact hk.symm) (hn j i (by rw [List.length_map]; omega) (by rw [List.length_map]; omega) e)
  subst this
  rfl
theorem Copy_in (z : Db Fz s d m nodes node last F) (hK : ∀ s' d' m' F', Sub s s' → s d' = none → s m' = none → (∀ k, look F' k = look F k) → (∀ Fz' : Nat → Prop, (∀ b, Fz' b → s b ≠ none) → Db Fz' s' d' m' nodes node last F') → K (.ptr d' 0) s') : wpW Try.prog XX 41 [.ptr d 0] K s := by
  refine vw_lsdb_DB_Copy_in (valid13_in z ?_)
  have p0 : ∀ m : Nat, [AVal.int .i64 nodes, .int .i64 node, .int .i64 last, .map m][0]? = some (.int .i64 nodes) := fun _ => rfl
  have p1 : ∀ m : Nat, [AVal.int .i64 nodes, .int .i64 node, .int .i64 last, .map m][1]? = some (.int .i64 node) := fun _ => rfl
  have p2 : ∀ m : Nat, [AVal.int .i64 nodes, .int .i64 node, .int .i64 last, .map m][2]? = some (.int .i64 last) := fun _ => rfl
  have p3 : ∀ m : Nat, [AVal.int .i64 nodes, .int .i64 node, .int .i64 last, .map m][3]? = some (.map m) := fun _ => rfl
  obtain ⟨l, ⟨es, c, hmb, hes⟩, hp⟩ := z.mp
  have hm : MapAt s m l := ⟨es, c, hmb, hes⟩
  obtain ⟨hnd, h32⟩ := z.short
  have hkeys := hp.keys
  have hll : l.length = F.length := by have := congrArg List.length hkeys; simpa using this
  simp only [unary_not, Bool.not_true, boolK_false, nilCheck_ptr, addOff_ptr, Nat.zero_add, rd1_mk z.dc, p0, p1, p2, p3, hm.len, optK_mk]
  unfold intK mapK
  intro m' hm' _
  have hm0 : s m' = none := frz_none.1 hm'
  have hT : add s (hset (frz s) m' (false, .map [] 0)) = hset s m' (false, .map [] 0) := by
    funext i
    unfold hset
    by_cases e : i = m'
    · rw [if_pos e, e, add_none hm0, if_pos rfl]
    · rw [if_neg e]
      cases y : s i with
      | some x => rw [add_some y]
      | none => rw [add_none y, if_neg e, frz_none.2 y]
  rw [hT]
  have kT : Sub s (hset s m' (false, .map [] 0)) := sub_new hm0
  have hTm : hset s m' (false, .map [] 0) m' = some (false, .map [] 0) := hset_eq
  generalize hset s m' (false, .map [] 0) = T at kT hTm
  refine optK_of (a := [.int .i64 nodes, .int .i64 node, .int .i64 last, .map m']) rfl ⟨rfl, new_step fun d' s21 hd' h21 u21 => ?_⟩
  have h21 : s21 d' = some (false, .cells 81 [.int .i64 nodes, .int .i64 node, .int .i64 last, .map m']) := h21
  have k21 := kT.trans (u21.sub hd')
  have hd0 : s d' = none := by
    cases y : s d' with
    | none => rfl
    | some x => rw [kT d' x y] at hd'; cases hd'
  have hdm' : d' ≠ m' := by rintro rfl; rw [hTm] at hd'; cases hd'
  have hm21 : s21 m' = some (false, .map [] 0) := by rw [u21 m' (Ne.symm hdm')]; exact hTm
  have z21 := z.sub k21
  have hmm : m ≠ m' := by rintro rfl; rw [hmb] at hm0; cases hm0
  simp only [nilCheck_ptr, addOff_ptr, Nat.zero_add, rd1_mk z21.dc, p3, optK_mk]
  unfold iterK
  simp only [k21 _ _ hmb]
  intro r hr
  have hrm : r ≠ m := by rintro rfl; rw [k21 _ _ hmb] at hr; cases hr
  have sr : hset s21 r (false, .iter (some m) c [] c) r = some (false, .iter (some m) c [] c) := hset_eq
  have sm : hset s21 r (false, .iter (some m) c [] c) m = some (false, .map es c) := by rw [hset_other (Ne.symm hrm)]; exact k21 _ _ hmb
  refine optK_of (a := (r, some m, c, c, es)) ?_ ?_
  · unfold iterOf
    simp only [sr, sm]
    have a1 : Nat.ble c c = true := Nat.ble_eq_true_of_le (Nat.le_refl _)
    have a2 : allOld c es = true := old_all hes.lt
    have a3 : Nat.blt es.length 900 = true := by rw [Nat.blt_eq, hes.len]; omega
    simp only [a1, a2, a3, Bool.and_self, cond_true]
  -- what holds between rounds
  refine ⟨fun sn _ h => ∃ F' : List (Int × Rec), Db (fun b => s b ≠ none) h d' m' nodes node last F' ∧ KeepBut (fun i => i = m') s21 h ∧ (∀ k x, look F' k = some x → look F k = some x) ∧ ∀ e ∈ es, ∀ k, e.key = .int .i64 k → (hasN e.born sn = true ↔ (look F' k).isSome = true), ?_, ?_⟩
  · rw [hdel_hset hr]
    refine ⟨[], ⟨h21, ⟨[], ⟨[], 0, hm21, .nil⟩, .nil⟩, fun h => h hd0, fun h => h hm0, z.nn, fun k x h => by cases h⟩, fun _ _ h _ => h, fun k x h => (by cases h), fun e _ k _ => (by simp [hasN, look])⟩
  rintro sn f s31 ⟨F', z31, k31, hsub, hseen⟩ hr31
  simp only at hr31
  have hm31 : s31 m = some (false, .map es c) := k31 _ _ (k21 _ _ hmb) hmm
  refine ⟨⟨false, hm31⟩, fun e he hns => ?_, fun hall => ?_⟩
  · rw [boolK_true]
    obtain ⟨p, hpl, hek, hev⟩ := ent_key hes he
    have hlk : look l p.1 = some p.2 := look_of_mem hes.nd hpl
    obtain ⟨x, hx, lo, hv, hlo, hlof⟩ : ∃ x, look F p.1 = some x ∧ RelV Fz s d m p.2 x := by
      rcases hp.look p.1 with ⟨h3, _⟩ | ⟨a, x, h3, h4, h5⟩
      · rw [hlk] at h3; cases h3
      · rw [hlk] at h3
        cases h3
        exact ⟨x, h4, h5⟩
    obtain ⟨g1, g2, g3⟩ := z.gd _ _ hx
    let h1 := hset s31 r (true, .iter (some m) c (sn ++ [e.born]) c)
    have kh : Sub s31 h1 := sub_new hr31
    have hr1 : h1 r = some (true, .iter (some m) c (sn ++ [e.born]) c) := hset_eq
    have hm1 : h1 m = some (false, .map es c) := kh _ _ hm31
    have hent : entD h1 (.ptr r 0) = some (.tup [e.key, e.val]) := by
      unfold entD
      simp only [hr1, lastN_app, hm1, Nat.beq_refl, cond_true, born_find hes.bs he rfl]
    show optK (entD h1 (.ptr r 0)) _
    rw [hent, hek, hev, hv]
    simp only [optK_mk, ext0, ext1]
    have z1 : Db (fun b => s b ≠ none ∨ b = r) h1 d' m' nodes node last F' := (z31.more.sub kh).weak fun b hb => by
      rcases hb with hb | rfl
      · exact .inl hb
      · exact .inr hr31
    have ks31 : Sub s s31 := fun i y hi => k31 i y (k21 i y hi) (by rintro rfl; rw [hm0] at hi; cases hi)
    have ks1 := ks31.trans kh
    refine new_step fun b35 s36 hb35 h35 u35 => wrAgg_step h35 rfl rfl (by rw [allOne_cons, allOne_cons, allOne_cons, hlo.one]; rfl) fun s37 h37 u37 => ?_
    have h37 : s37 b35 = some (false, .cells 24 [.int .i64 x.1, .int .i64 x.2.1, lo]) := h37
    have k37 : Sub h1 s37 := (u35.sub hb35).upto u37 hb35
    have z37 := z1.sub k37
    simp only [nilCheck_ptr, addOff_ptr, Nat.zero_add, rd1_mk z37.dc, p3, rdN_all (n := 3) h37 rfl, optK_mk]
    refine clone_in (s := frz s37) ((hlo.sub ks1).sub k37).frz (by omega) fun v42 s43 k43 sl43 fr43 => ?_
    intro _
    have sl44 := sl43.addf k43
    have kT2 : Sub s37 (add s37 s43) := sub_add
    generalize add s37 s43 = T2 at sl44 kT2
    have hF37 : ∀ b, (s b ≠ none ∨ b = r) → s37 b ≠ none := fun b hb => by
      rcases hb with hb | rfl
      · cases y : s b with
        | none => exact absurd y hb
        | some w => rw [k37 _ _ (ks1 _ _ y)]; simp
      · rw [k37 _ _ hr1]; simp
    rw [← g1]
    refine Db.stored (r := x) z37 hF37 kT2.keep (kT2 _ _ z37.dc) sl44 (fun b a n' c' e1 hne => frz_none.1 (fr43 b a n' c' e1 hne)) (by rw [g1]; exact g2) g3 fun s44 z44 u44 => ?_
    have hrm' : r ≠ m' := by
      rintro rfl
      obtain ⟨l', ⟨es', c', h, _⟩, _⟩ := z31.mp
      rw [h] at hr31; cases hr31
    have kd : KeepBut (fun i => i = r) s44 (hdel s44 r) := fun i y hi hn => by
      unfold hdel
      rw [if_neg hn]; exact hi
    refine ⟨stor F' x.1 x, (z44.keep kd fun i hi => .inr hi).weak fun b hb => .inl hb, fun i y hi hn => ?_, fun k y hk => ?_, fun e' he' k hk => ?_⟩
    · have hir : i ≠ r := by rintro rfl; rw [hr] at hi; cases hi
      refine kd i y ?_ hir
      rw [u44 i hn]
      exact kT2 _ _ (k37 _ _ (kh _ _ (k31 i y hi hn)))
    · rw [look_stor] at hk
      by_cases ek : k = x.1
      · rw [if_pos ek] at hk
        cases hk
        rw [ek, g1]; exact hx
      · rw [if_neg ek] at hk
        exact hsub k y hk
    · rw [look_stor, hasN_app, Bool.or_eq_true, hseen e' he' k hk]
      by_cases ek : k = x.1
      · rw [if_pos ek]
        have hb : e'.born = e.born := key_one hes he' he (by rw [hk, hek, ek, g1])
        simp [hb]
      · rw [if_neg ek]
        have hb : Nat.beq e'.born e.born = false := by
          cases q : Nat.beq e'.born e.born with
          | false => rfl
          | true =>
            have hbb := Nat.eq_of_beq_eq_true q
            have h1 := born_find hes.bs he' rfl
            have h2 := born_find hes.bs he hbb.symm
            rw [h1] at h2
            cases h2
            rw [hk] at hek
            injection hek with _ h3
            exact absurd (h3.trans g1.symm) ek
        rw [hb]
        simp
  · have ks31 : Sub s s31 := fun i y hi => k31 i y (k21 i y hi) (by rintro rfl; rw [hm0] at hi; cases hi)
    refine hK s31 d' m' F' ks31 hd0 hm0 (fun k => ?_) fun Fz' hF' => z31.weak hF'
    cases e1 : look F k with
    | none =>
      cases e2 : look F' k with
      | none => rfl
      | some y => rw [hsub k y e2] at e1; cases e1
    | some y =>
      have hml : ∃ a, look l k = some a := by
        rcases hp.look k with ⟨_, h4⟩ | ⟨a, _, h3, _, _⟩
        · rw [e1] at h4; cases h4
        · exact ⟨a, h3⟩
      obtain ⟨a, ha⟩ := hml
      obtain ⟨e, he, hek⟩ := key_ent hes (mem_of_look ha)
      have := (hseen e he k hek).1 (hall e he)
      cases e2 : look F' k with
      | none => rw [e2] at this; cases this
      | some y' => rw [← e1, hsub k y' e2]
end Go.AM
set_option maxRecDepth 100000
namespace Go.AM
open Go Go.Proofs
variable {nodes node lst n q : Int} {F : List (Int × Rec)} {G : List Rec} {L : List Int}
/-! ### plain law: both databases say the same -/
structure Rl (nodes node last : Int) (F : List (Int × Rec)) (G : List Rec) : Prop where
  len : nodes = (G.length : Int)
  lk : ∀ k, look F k = ggR G k
  sq : ∀ r ∈ G, 0 ≤ r.2.1
  id : ∀ k r, look F k = some r → r.1 = k
  asc : AscF F
  la : 0 ≤ last
  nd : 0 ≤ node ∧ node < nodes
theorem Rl.got (z : Rl nodes node lst F G) (n : Int) : gotR F n = gotG G n := by unfold gotR gotG; rw [z.lk]
theorem Rl.view (z : Rl nodes node lst F G) : lsB F = lsG G := by
  funext a b
  unfold lsB lsG
  rw [z.got]
theorem gg_in {k : Int} (h0 : 0 ≤ k) {x : Rec} (h : G[k.toNat]? = some x) : ggR G k = if x.2.1 = 0 then none else some x := by unfold ggR; rw [if_pos h0, h]
theorem gg_set {i : Nat} {r : Rec} (hi : i < G.length) (k : Int) : ggR (G.set i r) k = if k = (i : Int) then (if r.2.1 = 0 then none else some r) else ggR G k := by
  unfold ggR
  by_cases h0 : 0 ≤ k
  · rw [if_pos h0, if_pos h0]
    by_cases e : k = (i : Int)
    · rw [if_pos e, e, Int.toNat_natCast, List.getElem?_set_self hi]
    · rw [if_neg e, List.getElem?_set_ne (by omega)]
  · rw [if_neg h0, if_neg h0, if_neg (by omega)]
theorem Rl.put (z : Rl nodes node lst F G) {r : Rec} {l2 : Int} (hr : 0 ≤ r.1 ∧ r.1 < nodes) (hq : 1 ≤ r.2.1) (ha : r.2.2.Pairwise (· < ·)) (hl : 0 ≤ l2) : Rl nodes node l2 (stor F r.1 r) (G.set r.1.toNat r) := by
  have hn := z.len
  refine ⟨by rw [List.length_set]; exact hn, fun k => ?_, fun x hx => ?_, fun k x h => ?_, fun k x h => ?_, hl, z.nd⟩
  · rw [look_stor, gg_set (by omega), z.lk k, if_neg (show ¬ r.2.1 = 0 by omega), Int.toNat_of_nonneg hr.1]
  · rcases List.mem_or_eq_of_mem_set hx with hx | rfl
    · exact z.sq x hx
    · omega
  · rw [look_stor] at h
    by_cases e : k = r.1
    · rw [if_pos e] at h; cases h; exact e.symm
    · rw [if_neg e] at h; exact z.id k x h
  · rw [look_stor] at h
    by_cases e : k = r.1
    · rw [if_pos e] at h; cases h; exact ha
    · rw [if_neg e] at h; exact z.asc k x h
theorem Rl.lastTo (z : Rl nodes node lst F G) {l2 : Int} (hl : 0 ≤ l2) : Rl nodes node l2 F G := ⟨z.len, z.lk, z.sq, z.id, z.asc, hl, z.nd⟩
theorem Rl.recv (z : Rl nodes node lst F G) (r : Rec) : (recvR nodes node lst F r).last = (recvH nodes node lst G r).last ∧ (recvR nodes node lst F r).code = (recvH nodes node lst G r).code ∧ (recvR nodes node lst F r).err = (recvH nodes node lst G r).err ∧ Rl nodes node (recvR nodes node lst F r).last (recvR nodes node lst F r).F (recvH nodes node lst G r).G := by
  unfold recvR recvH
  by_cases hc : chkR nodes r.1 r.2.1 r.2.2 = 0
  · rw [if_neg (show ¬ (chkR nodes r.1 r.2.1 r.2.2 ≠ 0) from fun h => h hc), if_neg (show ¬ (chkR nodes r.1 r.2.1 r.2.2 ≠ 0) from fun h => h hc)]
    obtain ⟨hn, hq1, hq2⟩ := chkR_rg hc
    have hL : chkL none r.2.2 = 0 := by
      unfold chkR at hc
      rw [if_neg (by omega)] at hc
      exact hc
    have ha := (chk_asc hL).1
    have hlen := z.len
    have hx : G[r.1.toNat]? = some G[r.1.toNat] := List.getElem?_eq_getElem (by omega)
    have hxm : G[r.1.toNat] ∈ G := List.getElem_mem _
    generalize G[r.1.toNat] = x at hx hxm
    have hsq := z.sq x hxm
    rw [z.lk r.1, gg_in hn.1 hx, hx]
    simp only
    by_cases h0 : x.2.1 = 0
    · rw [if_pos h0]
      simp only
      by_cases hm : r.1 = node
      · rw [if_pos hm, if_pos ⟨hm, h0⟩]
        exact ⟨rfl, rfl, rfl, z.lastTo (show 0 ≤ max lst r.2.1 by have := z.la; omega)⟩
      · rw [if_neg hm, if_neg (show ¬ (r.1 = node ∧ x.2.1 = 0) from fun h => hm h.1), if_neg (show ¬ (0 < x.2.1 ∧ cmpR r.2.1 x.2.1 r.2.2 x.2.2 = 0) from fun h => by omega), if_neg (show ¬ (0 < x.2.1 ∧ cmpR r.2.1 x.2.1 r.2.2 x.2.2 < 0) from fun h => by omega), if_pos (show r.1 ≠ node from hm)]
        exact ⟨rfl, rfl, rfl, z.put hn hq1 ha z.la⟩
    · rw [if_neg h0]
      simp only
      rw [if_neg (show ¬ (r.1 = node ∧ x.2.1 = 0) from fun h => h0 h.2)]
      have hid : x.1 = r.1 := z.id r.1 x (by rw [z.lk, gg_in hn.1 hx, if_neg h0])
      have hpos : 0 < x.2.1 := by omega
      rcases cmpR_vals (p := r.2.1) (q := x.2.1) (l := r.2.2) (m := x.2.2) with e | e | e
      · rw [e, if_pos (rfl : (-1 : Int) = -1), if_neg (show ¬ (0 < x.2.1 ∧ (-1 : Int) = 0) from fun h => by omega), if_pos (show 0 < x.2.1 ∧ (-1 : Int) < 0 from ⟨hpos, by omega⟩)]
        exact ⟨rfl, rfl, rfl, z⟩
      · rw [e, if_neg (show ¬ (0 : Int) = -1 by omega), if_neg (show ¬ (0 : Int) = 1 by omega), if_pos (show 0 < x.2.1 ∧ (0 : Int) = 0 from ⟨hpos, rfl⟩)]
        exact ⟨rfl, rfl, rfl, z⟩
      · rw [e, if_neg (show ¬ (1 : Int) = -1 by omega), if_pos (rfl : (1 : Int) = 1), if_neg (show ¬ (0 < x.2.1 ∧ (1 : Int) = 0) from fun h => by omega), if_neg (show ¬ (0 < x.2.1 ∧ (1 : Int) < 0) from fun h => by omega)]
        by_cases hm : r.1 = node
        · rw [if_pos hm, if_neg (show ¬ (r.1 ≠ node) from fun h => h hm)]
          by_cases hb : 1073741824 ≤ r.2.1
          · rw [if_pos hb, if_pos hb]
            exact ⟨rfl, rfl, rfl, z⟩
          · rw [if_neg hb, if_neg hb]
            have h1 : x.1 = node := hid.trans hm
            have := z.put (r := (node, r.2.1 + 1, x.2.2)) (l2 := r.2.1 + 1) (by rw [← hm]; exact hn) (by show 1 ≤ r.2.1 + 1; omega) (z.asc r.1 x (by rw [z.lk, gg_in hn.1 hx, if_neg h0])) (by omega)
            rw [h1]
            exact ⟨rfl, rfl, rfl, this⟩
        · rw [if_neg hm, if_pos (show r.1 ≠ node from hm)]
          exact ⟨rfl, rfl, rfl, z.put hn hq1 ha z.la⟩
  · rw [if_pos (show chkR nodes r.1 r.2.1 r.2.2 ≠ 0 from hc), if_pos (show chkR nodes r.1 r.2.1 r.2.2 ≠ 0 from hc)]
    exact ⟨rfl, rfl, rfl, z⟩
theorem Rl.own (z : Rl nodes node lst F G) (L : List Int) : (ownR node lst F L).r = (ownH node lst G L).r ∧ (ownR node lst F L).nw = (ownH node lst G L).nw ∧ (ownR node lst F L).err = (ownH node lst G L).err ∧ (ownR node lst F L).last = (ownH node lst G L).last ∧ Rl nodes node (ownR node lst F L).last (ownR node lst F L).F (ownH node lst G L).G := by
  unfold ownR ownH
  by_cases hc : chkL none L = 0
  · rw [if_neg (show ¬ (chkL none L ≠ 0) from fun h => h hc), if_neg (show ¬ (chkL none L ≠ 0) from fun h => h hc)]
    have ha := (chk_asc hc).1
    have hlen := z.len
    have hnd := z.nd
    have hx : G[node.toNat]? = some G[node.toNat] := List.getElem?_eq_getElem (by omega)
    have hxm : G[node.toNat] ∈ G := List.getElem_mem _
    generalize G[node.toNat] = x at hx hxm
    have hsq := z.sq x hxm
    have new : (ownN node lst F L).r = (ownHN node lst G L).r ∧ (ownN node lst F L).nw = (ownHN node lst G L).nw ∧ (ownN node lst F L).err = (ownHN node lst G L).err ∧ (ownN node lst F L).last = (ownHN node lst G L).last ∧ Rl nodes node (ownN node lst F L).last (ownN node lst F L).F (ownHN node lst G L).G := by
      unfold ownN ownHN
      by_cases hb : 1073741824 ≤ lst
      · rw [if_pos hb, if_pos hb]
        exact ⟨rfl, rfl, rfl, rfl, z⟩
      · rw [if_neg hb, if_neg hb]
        have hla := z.la
        exact ⟨rfl, rfl, rfl, rfl, z.put (r := (node, lst + 1, L)) hnd (by show 1 ≤ lst + 1; omega) ha (show 0 ≤ lst + 1 by omega)⟩
    rw [z.lk node, gg_in hnd.1 hx, hx]
    simp only
    by_cases h0 : x.2.1 = 0
    · rw [if_pos h0, if_neg (show ¬ (0 < x.2.1 ∧ x.2.2 = L) from fun h => by omega)]
      exact new
    · rw [if_neg h0]
      simp only
      by_cases e : x.2.2 = L
      · rw [if_pos e, if_pos (show 0 < x.2.1 ∧ x.2.2 = L from ⟨by omega, e⟩)]
        exact ⟨rfl, rfl, rfl, rfl, z⟩
      · rw [if_neg e, if_neg (show ¬ (0 < x.2.1 ∧ x.2.2 = L) from fun h => e h.2)]
        exact new
  · rw [if_pos (show chkL none L ≠ 0 from hc), if_pos (show chkL none L ≠ 0 from hc)]
    exact ⟨rfl, rfl, rfl, rfl, z⟩
/-- two ascending lists of the same numbers -/
theorem asc_eq : ∀ {l m : List Int}, l.Pairwise (· < ·) → m.Pairwise (· < ·) → (∀ x, x ∈ l ↔ x ∈ m) → l = m
  | [], [], _, _, _ => rfl
  | [], y :: m, _, _, h => by have := (h y).2 (by simp); cases this
  | x :: l, [], _, _, h => by have := (h x).1 (by simp); cases this
  | x :: l, y :: m, h1, h2, h => by
    obtain ⟨a1, a2⟩ := List.pairwise_cons.1 h1
    obtain ⟨b1, b2⟩ := List.pairwise_cons.1 h2
    have hxy : x = y := by
      have g1 := (h x).1 (by simp)
      have g2 := (h y).2 (by simp)
      rcases List.mem_cons.1 g1 with g1 | g1
      · exact g1
      · rcases List.mem_cons.1 g2 with g2 | g2
        · exact g2.symm
        · have := b1 x g1; have := a1 y g2; omega
    subst hxy
    congr 1
    refine asc_eq a2 b2 fun z => ?_
    constructor
    · intro hz
      rcases List.mem_cons.1 ((h z).1 (by simp [hz])) with e | e
      · have := a1 z hz; omega
      · exact e
    · intro hz
      rcases List.mem_cons.1 ((h z).2 (by simp [hz])) with e | e
      · have := b1 z hz; omega
      · exact e
theorem Rl.all (z : Rl nodes node lst F G) (hn : (F.map (·.1)).Nodup) : allR F = allG G := by
  have key : ∀ k : Nat, k ≤ G.length → ((List.range k).map (fun i : Nat => (i : Int))).filterMap (ggR G) = allG (G.take k) := by
    intro k
    induction k with
    | zero => intro _; rfl
    | succ k ih =>
      intro hk
      have hx : G[k]? = some G[k] := List.getElem?_eq_getElem (by omega)
      have hsq := z.sq G[k] (List.getElem_mem _)
      rw [List.range_succ, List.map_append, List.filterMap_append, ih (by omega), List.take_add_one, hx]
      unfold allG
      rw [List.filter_append]
      congr 1
      simp only [List.map_cons, List.map_nil, Option.toList_some, List.filterMap_cons, List.filterMap_nil, List.filter_cons, List.filter_nil]
      rw [gg_in (k := (k : Int)) (by omega) (by rw [Int.toNat_natCast]; exact hx)]
      by_cases h0 : G[k].2.1 = 0
      · rw [if_pos h0, if_neg (by simp; omega)]
      · rw [if_neg h0, if_pos (by simp; omega)]
  have kk := key G.length (by omega)
  rw [List.take_length] at kk
  rw [← kk]
  unfold allR
  have hfn : look F = ggR G := funext z.lk
  rw [hfn]
  -- only keys that are there count
  have flt : ∀ l : List Int, l.filterMap (ggR G) = (l.filter fun k => (ggR G k).isSome).filterMap (ggR G) := fun l => by
    induction l with
    | nil => rfl
    | cons x l ih =>
      cases e : ggR G x with
      | none => rw [List.filterMap_cons_none e, List.filter_cons_of_neg (by rw [e]; simp), ih]
      | some y => rw [List.filterMap_cons_some e, List.filter_cons_of_pos (by rw [e]; rfl), List.filterMap_cons_some e, ih]
  rw [flt ((List.range G.length).map fun i : Nat => (i : Int))]
  congr 1
  have s1 : (sortI (F.map (·.1))).Pairwise (· < ·) := by
    have h1 := sortI_sorted (F.map (·.1))
    have h2 : (sortI (F.map (·.1))).Nodup := (sortI_perm _).nodup_iff.2 hn
    exact (h1.and h2).imp fun {a b} h => by have := h.1; have := h.2; omega
  have s2 : (((List.range G.length).map fun i : Nat => (i : Int)).filter fun k => (ggR G k).isSome).Pairwise (· < ·) := by
    refine List.Pairwise.filter _ ?_
    rw [List.pairwise_map]
    exact List.pairwise_lt_range.imp fun {a b} h => by omega
  refine asc_eq s1 s2 fun x => ?_
  rw [(sortI_perm _).mem_iff, List.mem_filter]
  constructor
  · intro h
    obtain ⟨r, hr⟩ := look_mem h
    rw [z.lk] at hr
    refine ⟨?_, by rw [hr]; rfl⟩
    unfold ggR at hr
    by_cases h0 : 0 ≤ x
    · rw [if_pos h0] at hr
      have hl : x.toNat < G.length := by
        cases e : G[x.toNat]? with
        | none => rw [e] at hr; cases hr
        | some y => exact (List.getElem?_eq_some_iff.1 e).1
      exact List.mem_map.2 ⟨x.toNat, List.mem_range.2 hl, Int.toNat_of_nonneg h0⟩
    · rw [if_neg h0] at hr; cases hr
  · rintro ⟨_, h⟩
    rw [← z.lk] at h
    cases e : look F x with
    | none => rw [e] at h; cases h
    | some y => exact List.mem_map.2 ⟨(x, y), mem_of_look e, rfl⟩
theorem Rl.start {k : Nat} (hk : 1 ≤ k) (hn : 0 ≤ node ∧ node < (k : Int)) : Rl (k : Int) node 0 [] (zeroG k) := by
  have zl : (zeroG k).length = k := by unfold zeroG; simp
  have zg : ∀ i : Nat, ∀ r, (zeroG k)[i]? = some r → r = (0, 0, []) := fun i r h => List.eq_of_mem_replicate (List.mem_of_getElem? h)
  refine ⟨by rw [zl], fun j => ?_, fun r hr => (by rw [List.eq_of_mem_replicate hr]; simp), fun _ _ h => (by cases h), fun _ _ h => (by cases h), by omega, hn⟩
  show none = _
  unfold ggR
  split
  · cases e : (zeroG k)[j.toNat]? with
    | none => rfl
    | some r => rw [zg _ _ e]; rfl
  · rfl
theorem Rl.cong {F' : List (Int × Rec)} (z : Rl nodes node lst F G) (h : ∀ k, look F' k = look F k) : Rl nodes node lst F' G := ⟨z.len, fun k => by rw [h]; exact z.lk k, z.sq, fun k r e => z.id k r (by rw [← h]; exact e), fun k r e => z.asc k r (by rw [← h]; exact e), z.la, z.nd⟩
end Go.AM
set_option maxRecDepth 100000
namespace Go.AM
open Go Go.Proofs
variable {K : AVal → Heap → Prop} {s s' s0 t : Heap} {Fz Fr : Nat → Prop} {o rb d m : Nat} {nodes node last n q : Int} {G : List Rec} {F : List (Int × Rec)} {v w : AVal} {L : List Int}
theorem gotR_len (z : Db Fz s d m nodes node last F) : (gotR F n).2.2.length ≤ 100000 := by
  unfold gotR
  cases e : look F n with
  | none => simp
  | some r => exact (z.gd _ _ e).2.2
theorem allR_len (z : Db Fz s d m nodes node last F) : (allR F).length ≤ 32 ∧ ∀ r ∈ allR F, r.2.2.length ≤ 100000 := by
  refine ⟨?_, fun r hr => ?_⟩
  · have := List.length_filterMap_le (look F) (sortI (F.map (·.1)))
    have h2 := (sortI_perm (F.map (·.1))).length_eq
    rw [List.length_map] at h2
    have := z.short.2
    unfold allR
    omega
  · unfold allR at hr
    obtain ⟨k, _, hk⟩ := List.mem_filterMap.1 hr
    exact (z.gd _ _ hk).2.2
theorem SameB_in {l : List Bool} (h : Sl s v (l.map AVal.bool)) (h' : Sl s w (l.map AVal.bool)) (hl : l.length ≤ 10000000) (hK : K (.bool true) s) : wpCall Try.prog XX 26 [v, w] K s := by
  refine vc_leafmeshkit_Same_bool__in ?_
  simp only [vc_leafmeshkit_Same_bool_, h.len, h'.len, List.length_map, eqV_int, beq_self_eq_true, negB_mk, Bool.true_bne, Bool.not_true, boolK_false, optK_mk]
  refine ⟨fun ys t m => ∃ i : Nat, ys = [.int .i64 (i : Int)] ∧ t = s ∧ i ≤ l.length ∧ m = l.length - i, ⟨_, 0, rfl, rfl, by omega, rfl⟩, ?_⟩
  rintro e t m ⟨i, hy, rfl, hi, rfl⟩
  simp only [List.cons.injEq, and_true] at hy
  rw [hy]
  simp only [vc_leafmeshkit_Same_bool__l0, h.len, List.length_map, arith_lss, optK_mk]
  refine boolK_mk (fun hlt => ?_) (fun _ => hK)
  have hlt : i < l.length := by have := of_decide_eq_true hlt; omega
  obtain ⟨a, e1, e2⟩ := h.get (i := i) (by simpa using hlt)
  obtain ⟨b, e3, e4⟩ := h'.get (i := i) (by simpa using hlt)
  rw [List.getElem?_map, List.getElem?_eq_getElem hlt] at e2 e4
  simp only [e1, e2, e3, e4, Option.map_some, eqV_bool, beq_self_eq_true, negB_mk, Bool.true_bne, Bool.not_true, boolK_false, arith_add, optK_mk]
  rw [wrap64 (by omega) (by omega)]
  exact ⟨_, by omega, i + 1, rfl, (by trivial), by omega, rfl⟩
theorem OwnK_in (h : Sli s v L) (hl : L.length ≤ 10000000) (hK : ∀ v' s', Sub s s' → Sli s' v' L → Fre s s' v' L → K v' s') : wpCall Try.prog XX 11 [v] K s := by
  refine vc_leafmeshkit_Own_int__in ?_
  refine optK_of (a := []) rfl ⟨rfl, new_step fun b s1 hb h1 u1 => ?_⟩
  have sub1 := u1.sub hb
  refine app_copy (h.sub sub1) (by simp; omega) fun v' s2 sub2 g1 g2 => hK _ _ (sub1.trans sub2) ?_ fun b' o n c e hne => ?_
  · by_cases hm : L.map (AVal.int .i64) = []
    · rw [g1 hm]
      unfold Sli; rw [hm]
      exact .inr ⟨b, 0, some 0, rfl, by simp, fun h => absurd rfl h⟩
    · obtain ⟨c, _, rfl, hc⟩ := g2 hm
      exact Sl.mk hc rfl (by simp)
  · obtain ⟨c', e1, e2, e3⟩ := g2 (by simpa using hne)
    rw [e2] at e
    injection e with e
    rw [← e]
    refine ⟨?_, _, _, e3⟩
    cases y : s c' with
    | none => rfl
    | some x => rw [sub1 c' x y] at e1; cases e1
/-! ### the states are the same -/
theorem same_in {links : List Lnk} (z : Db Fz t d m nodes node last F) (zr : RD Fr t o rb nodes node last G) (rl : Rl nodes node last F G) (hv : SlR 3 t v (links.map lnR)) (hlen : links.length ≤ 1000000) (hK : ∀ s', Sub t s' → K (.bool true) s') : wpCall Try.prog XX 44 [.ptr d 0, .ptr o 0, v] K t := by
  obtain ⟨al, ar⟩ := allR_len z
  refine vc_leafmeshlaw13_same_in (AllW_in z fun v0 s1 k1 h0 => ?_)
  have hall := rl.all z.short.1
  refine rAll_in (zr.sub k1) fun v2 s3 k3 h2 => ?_
  rw [← hall] at h2
  refine records_in (h0.sub k3).rcs h2 (by omega) ar fun s5 k5 => ?_
  have k05 := k1.trans (k3.trans k5)
  simp only [unary_not, Bool.not_true, optK_mk, boolK_false]
  refine View_in (z.sub k05) rl.asc (hv.sub k05) hlen fun v42 s43 k43 h42 => ?_
  refine rView_in (zr.sub (k05.trans k43)) (hv.sub (k05.trans k43)) hlen fun v44 s45 k45 h44 => ?_
  rw [rl.view] at h42
  have vl : (viewL (lsG G) links).length ≤ 128 := by
    unfold viewL
    split
    · simp
    · rw [List.length_map, List.length_range]; omega
  refine SameB_in (h42.sub k45) h44 (by omega) ?_
  have k045 := k05.trans (k43.trans k45)
  simp only [unary_not, Bool.not_true, optK_mk, vc_leafmeshlaw13_same_j0, pickV_false, boolK_false]
  refine over_in (h0.sub (k3.trans (k5.trans (k43.trans k45)))) (by omega) (fun r hr => by have := ar r hr; omega) fun s9 k9 => ?_
  have kt9 : Sub t s9 := keep_new_sub k045 k9
  have nn := z.nn
  refine ⟨fun ys h k => ∃ i : Nat, ys = [.int .i64 ((i : Int) - 1)] ∧ (i : Int) ≤ nodes + 2 ∧ (k : Int) = nodes + 2 - i ∧ Sub t h, ⟨(nodes + 2).toNat, 0, rfl, by omega, by omega, kt9⟩, ?_⟩
  rintro en h k ⟨i, hy, hi, hk, kt⟩
  simp only [List.cons.injEq, and_true] at hy
  rw [hy]
  have zh := z.sub kt
  have zrh := zr.sub kt
  obtain ⟨cap, c1, c2⟩ := zrh.dc
  have p0 : [AVal.int .i64 nodes, .int .i64 node, .slc rb 0 G.length cap 3, .int .i64 last][0]? = some (.int .i64 nodes) := rfl
  simp only [vc_leafmeshlaw13_same_l1, nilCheck_ptr, addOff_ptr, Nat.zero_add, rd1_mk c2, p0, arith_leq, optK_mk]
  refine boolK_mk (fun hle => ?_) (fun _ => hK h kt)
  have hle := of_decide_eq_true hle
  refine GetW_in zh fun s15 lv k15 sl15 fr15 => ?_
  have gl := gotR_len (n := (i : Int) - 1) z
  have hgot := rl.got ((i : Int) - 1)
  generalize hr : gotR F ((i : Int) - 1) = r at sl15 fr15 gl hgot
  refine optK_of (a := recV r.1 r.2.1 lv) rfl (optK_of (a := .bool _) rfl (new_step fun b18 s19 hb18 h19 u19 => wrAgg_step h19 rfl rfl (by rw [allOne_cons, allOne_cons, allOne_cons, sl15.one]; rfl) fun s20 h20 u20 => ?_))
  have h20 : s20 b18 = some (false, .cells 24 [.int .i64 r.1, .int .i64 r.2.1, lv]) := h20
  have k20 : Sub s15 s20 := (u19.sub hb18).upto u20 hb18
  have kt20 := kt.trans (k15.trans k20)
  refine rGet_in (zr.sub kt20) fun s22 lv2 k22 sl22 => ?_
  rw [← hgot] at sl22 ⊢
  refine optK_of (a := recV r.1 r.2.1 lv2) rfl (optK_of (a := .bool _) rfl (new_step fun b25 s26 hb25 h26 u26 => wrAgg_step h26 rfl rfl (by rw [allOne_cons, allOne_cons, allOne_cons, sl22.one]; rfl) fun s27 h27 u27 => ?_))
  have h27 : s27 b25 = some (false, .cells 24 [.int .i64 r.1, .int .i64 r.2.1, lv2]) := h27
  have k27 : Sub s22 s27 := (u26.sub hb25).upto u27 hb25
  have k2027 := k22.trans k27
  refine optK_of (rdN_all (n := 3) (k2027 _ _ h20) rfl) (optK_of (rdN_all (n := 3) h27 rfl) ?_)
  refine equal_in ((sl15.sub k20).sub k2027) (sl22.sub k27) (by omega) fun s31 k31 => ?_
  have k2031 := k2027.trans k31
  simp only [beq_self_eq_true, Bool.and_self, unary_not, Bool.not_true, optK_mk, boolK_false]
  rw [rl.lk]
  simp only [eqV_bool, beq_self_eq_true, negB_mk, Bool.true_bne, Bool.not_true, optK_mk, vc_leafmeshlaw13_same_j2, pickV_false, boolK_false]
  refine optK_of (rdN_all (n := 3) (k2031 _ _ h20) rfl) (optK_of (fillr3 rfl) ⟨by rw [allOne_cons, allOne_cons, allOne_cons, sl15.one]; rfl, new_step fun b36 s37 hb36 h37 u37 => ?_⟩)
  have k37 := u37.sub hb36
  have kl := k20.trans (k2031.trans k37)
  refine over1_in (fp := fun b => t b = none) (r := r) h37 (sl15.sub kl) (fun b a n' c e hne => ?_) (by omega) fun s39 k39 => ?_
  · obtain ⟨f1, e0, cs0, f2⟩ := fr15 b a n' c e hne
    have f3 := kl _ _ f2
    refine ⟨?_, ?_, e0, cs0, f3⟩
    · cases y : t b with
      | none => rfl
      | some x => rw [kt b x y] at f1; cases f1
    · rintro rfl
      rw [(k20.trans k2031) _ _ f2] at hb36; cases hb36
  · simp only [arith_add, optK_mk]
    rw [wrap64 (by omega) (by omega)]
    exact ⟨k - 1, by omega, i + 1, by simp only [List.cons.injEq, AVal.int.injEq, true_and, and_true]; omega, by omega, by omega, keep_new_sub (kt20.trans (k2031.trans k37)) k39⟩
/-! ### databases that are not made -/
theorem NewBad_in (hn : ¬ (1 ≤ nodes ∧ nodes ≤ 32 ∧ 0 ≤ node ∧ node < nodes)) (hK : K (.tup [.nilptr, .int .i64 2]) s) : wpCall Try.prog XX 17 [.int .i64 nodes, .int .i64 node] K s := by
  refine vc_lsdb_New_in ?_
  simp only [vc_lsdb_New, vc_lsdb_New_j0, vc_lsdb_New_j1, vc_lsdb_New_j2, arith_lss, arith_gtr, arith_geq, optK_mk]
  by_cases h1 : nodes < 1
  · simp only [decide_eq_true h1, boolK_true, pickV_true, optK_mk]; exact hK
  by_cases h2 : 32 < nodes
  · simp only [decide_eq_false h1, decide_eq_true h2, boolK_true, boolK_false, pickV_true, pickV_false, optK_mk]; exact hK
  by_cases h3 : node < 0
  · simp only [decide_eq_false h1, decide_eq_false h2, decide_eq_true h3, boolK_true, boolK_false, pickV_true, pickV_false, optK_mk]; exact hK
  have h4 : nodes ≤ node := by omega
  simp only [decide_eq_false h1, decide_eq_false h2, decide_eq_false h3, decide_eq_true h4, boolK_true, boolK_false, pickV_false, optK_mk]; exact hK
theorem rNewBad_in (hn : ¬ (1 ≤ nodes ∧ nodes ≤ 32 ∧ 0 ≤ node ∧ node < nodes)) (hK : K (.tup [.nilptr, .int .i64 2]) s) : wpCall Try.prog XX 37 [.int .i64 nodes, .int .i64 node] K s := by
  refine vc_leafmeshref13_New_in ?_
  simp only [vc_leafmeshref13_New, vc_leafmeshref13_New_j0, vc_leafmeshref13_New_j1, vc_leafmeshref13_New_j2, arith_lss, arith_gtr, arith_geq, optK_mk]
  by_cases h1 : nodes < 1
  · simp only [decide_eq_true h1, boolK_true, pickV_true, optK_mk]; exact hK
  by_cases h2 : 32 < nodes
  · simp only [decide_eq_false h1, decide_eq_true h2, boolK_true, boolK_false, pickV_true, pickV_false, optK_mk]; exact hK
  by_cases h3 : node < 0
  · simp only [decide_eq_false h1, decide_eq_false h2, decide_eq_true h3, boolK_true, boolK_false, pickV_true, pickV_false, optK_mk]; exact hK
  have h4 : nodes ≤ node := by omega
  simp only [decide_eq_false h1, decide_eq_false h2, decide_eq_false h3, decide_eq_true h4, boolK_true, boolK_false, pickV_false, optK_mk]; exact hK
end Go.AM
set_option maxRecDepth 100000
namespace Go.AM
open Go Go.Proofs
variable {K : AVal → Heap → Prop} {s s' s0 t : Heap} {Fz Fr : Nat → Prop} {o rb d m b : Nat} {nodes node last n q : Int} {G : List Rec} {F : List (Int × Rec)} {v w : AVal} {L : List Int}
/-! ### one round of LsdbScript -/
/-- calls as they come: kind, node, number, links -/
abbrev ActR := Int × Int × Int × AVal × List Int
def actRow (a : ActR) : List AVal := [.int .i64 a.1, .int .i64 a.2.1, .int .i64 a.2.2.1, a.2.2.2.1]
/-- the copy of a record that a round works with -/
structure Wk (s0 s : Heap) (b : Nat) (n q : Int) (w : AVal) (L : List Int) : Prop where
  row : s b = some (false, .cells 24 [.int .i64 n, .int .i64 q, w])
  sl : Sli s w L
  fr : ∀ c o k e, w = .slc c o k e 1 → L ≠ [] → s0 c = none ∧ c ≠ b ∧ ∃ e cs, s c = some (false, .cells e cs)
theorem Wk.keep {fp : Nat → Prop} (z : Wk s0 s b n q w L) (k : KeepBut fp s s') (h1 : ¬ fp b) (h2 : ∀ c, inL w L c → ¬ fp c) : Wk s0 s' b n q w L := by
  refine ⟨k _ _ z.row h1, z.sl.keep k fun c o n e h hne => h2 c ⟨by simpa using hne, o, n, e, h⟩, fun c o k' e h hne => ?_⟩
  obtain ⟨f1, f2, e', cs, f3⟩ := z.fr c o k' e h hne
  exact ⟨f1, f2, e', cs, k _ _ f3 (h2 c ⟨hne, o, k', e, h⟩)⟩
theorem Wk.sub (z : Wk s0 s b n q w L) (k : Sub s s') : Wk s0 s' b n q w L := z.keep (fp := fun _ => False) k.keep (fun h => h) fun _ _ h => h
def fzk (s0 : Heap) (x y b : Nat) (w : AVal) (L : List Int) (c : Nat) : Prop := c = x ∨ c = y ∨ s0 c ≠ none ∨ c = b ∨ inL w L c
structure Cx (s0 s : Heap) (d m o rb b : Nat) (nodes node last : Int) (F : List (Int × Rec)) (G : List Rec) (n q : Int) (w : AVal) (L : List Int) : Prop where
  ks : Sub s0 s
  db : Db (fzk s0 o rb b w L) s d m nodes node last F
  rd : RD (fzk s0 d m b w L) s o rb nodes node last G
  rl : Rl nodes node last F G
  wk : Wk s0 s b n q w L
theorem Db.own' (z : Db Fz s d m nodes node last F) : s d ≠ none ∧ s m ≠ none := by
  obtain ⟨l, ⟨es, c, e, _⟩, _⟩ := z.mp
  exact ⟨by rw [z.dc]; simp, by rw [e]; simp⟩
theorem Cx.liveD (z : Cx s0 s d m o rb b nodes node last F G n q w L) : ∀ c, fzk s0 o rb b w L c → s c ≠ none := fun c h => by
  rcases h with rfl | rfl | h | rfl | ⟨hne, o', k, e, h⟩
  · exact z.rd.own.1
  · exact z.rd.own.2
  · cases y : s0 c with
    | none => exact absurd y h
    | some x => rw [z.ks c x y]; simp
  · rw [z.wk.row]; simp
  · obtain ⟨_, _, e1, cs, h1⟩ := z.wk.fr c o' k e h hne
    rw [h1]; simp
theorem Cx.liveR (z : Cx s0 s d m o rb b nodes node last F G n q w L) : ∀ c, fzk s0 d m b w L c → s c ≠ none := fun c h => by
  rcases h with rfl | rfl | h
  · exact z.db.own'.1
  · exact z.db.own'.2
  · exact z.liveD c (.inr (.inr h))
theorem Cx.sub (z : Cx s0 s d m o rb b nodes node last F G n q w L) (k : Sub s s') : Cx s0 s' d m o rb b nodes node last F G n q w L := ⟨z.ks.trans k, z.db.sub k, z.rd.sub k, z.rl, z.wk.sub k⟩
theorem keep_base {fp : Nat → Prop} (h : Sub s0 s) (k : KeepBut fp s s') (hf : ∀ c, fp c → s0 c = none) : Sub s0 s' := fun i e hi => k i e (h i e hi) fun q => by rw [hf i q] at hi; cases hi
theorem keep_live {fp : Nat → Prop} {c : Nat} (k : KeepBut fp s s') (h : s c ≠ none) (hf : ¬ fp c) : s' c ≠ none := by
  cases y : s c with
  | none => exact absurd y h
  | some x => rw [k c x y hf]; simp
/-- both databases are there, and say the same -/
structure Two (s0 s : Heap) (d m o rb : Nat) (nodes node last : Int) (F : List (Int × Rec)) (G : List Rec) : Prop where
  ks : Sub s0 s
  db : Db (fun c => c = o ∨ c = rb ∨ s0 c ≠ none) s d m nodes node last F
  rd : RD (fun c => c = d ∨ c = m ∨ s0 c ≠ none) s o rb nodes node last G
  rl : Rl nodes node last F G
theorem Cx.two (z : Cx s0 s d m o rb b nodes node last F G n q w L) : Two s0 s d m o rb nodes node last F G := by
  refine ⟨z.ks, z.db.weak fun c h => ?_, z.rd.weak fun c h => ?_, z.rl⟩
  · rcases h with h | h | h
    · exact .inl h
    · exact .inr (.inl h)
    · exact .inr (.inr (.inl h))
  · rcases h with h | h | h
    · exact .inl h
    · exact .inr (.inl h)
    · exact .inr (.inr (.inl h))
/-- writes into the round's own copy -/
theorem Cx.over (z : Cx s0 s d m o rb b nodes node last F G n q w L) (k : KeepBut (inL w L) s s') : Two s0 s' d m o rb nodes node last F G := by
  have db := z.db.keep k fun c h => .inr (.inr (.inr (.inr h)))
  have rd := z.rd.keep k fun c h => .inr (.inr (.inr (.inr h)))
  have ks := keep_base z.ks k fun c ⟨hne, o', k', e, h⟩ => (z.wk.fr c o' k' e h hne).1
  refine ⟨ks, db.weak fun c h => ?_, rd.weak fun c h => ?_, z.rl⟩
  · rcases h with h | h | h
    · exact .inl h
    · exact .inr (.inl h)
    · exact .inr (.inr (.inl h))
  · rcases h with h | h | h
    · exact .inl h
    · exact .inr (.inl h)
    · exact .inr (.inr (.inl h))
section
variable {lv2 lv3 : AVal} {links : List Lnk} {acts : List ActR} {i : Nat} {a : ActR} {I2 : List AVal → Heap → Nat → Prop} {m2 : Nat}
theorem SlR.tail4 {rows : List (List AVal)} {r : List AVal} {i : Nat} (h : SlR 4 s v rows) (hi : rows[i]? = some r) : ∃ b o, iaddrS 4 v (.int .i64 (i : Int)) = some (.ptr b o) ∧ rdN s 3 (.ptr b (o + 1)) = some (r.drop 1) ∧ ∀ j, j < 4 → rd1 s (.ptr b (o + j)) = r[j]? := by
  have hlt := (List.getElem?_eq_some_iff.1 hi).1
  obtain ⟨b, o, h1, h2, h3⟩ := h.get hi
  refine ⟨b, o, h1, ?_, h3⟩
  unfold rdN at h2 ⊢
  simp only at h2 ⊢
  split at h2
  · rename_i tg el l hb
    unfold takeAt at h2 ⊢
    cases hle : Nat.ble (o + 4) l.length with
    | false => rw [hle] at h2; cases h2
    | true =>
      rw [hle] at h2
      simp only [cond_true, Option.some.injEq] at h2
      have e1 : Nat.ble (o + 1 + 3) l.length = true := by rw [show o + 1 + 3 = o + 4 by omega]; exact hle
      simp only [e1, cond_true, ← h2]
      rw [List.drop_take, List.drop_drop]
  · cases h2
theorem j4_in (z : Cx s0 s d m o rb b nodes node last F G n q w L) (hv : SlR 3 s0 lv2 (links.map lnR)) (hlen : links.length ≤ 1000000) (hA : SlR 4 s0 lv3 (acts.map actRow)) (hS : ∀ a ∈ acts, Sli s0 a.2.2.2.1 a.2.2.2.2) (hi : acts[i]? = some a) (hL : L = a.2.2.2.2) (hl : L.length ≤ 200) (hi6 : i ≤ 60)
    (hI : ∀ s', Two s0 s' d m o rb nodes node last F G → ∃ m', m' < m2 ∧ I2 [.ptr d 0, .ptr o 0, .int .i64 ((i + 1 : Nat) : Int)] s' m') : vw_leafmeshlaw13_LsdbScript_j4 XX lv2 lv3 (.ptr d 0) (.ptr o 0) (.int .i64 (i : Int)) (.ptr b 0) I2 m2 K s := by
  obtain ⟨pb, po, e1, e2, e3⟩ := (hA.sub z.ks).tail4 (i := i) (r := actRow a) (by rw [List.getElem?_map, hi]; rfl)
  have r3 := e3 3 (by omega)
  have y3 : (actRow a)[3]? = some a.2.2.2.1 := rfl
  have y2 : [AVal.int .i64 n, .int .i64 q, w][2]? = some w := rfl
  simp only [vw_leafmeshlaw13_LsdbScript_j4, addOff_ptr, Nat.zero_add, rd1_mk z.wk.row, y2, e1, Nat.add_assoc, r3, y3, optK_mk]
  refine Same_in z.wk.sl ((hS a (List.mem_of_getElem? hi)).sub z.ks) (by omega) ?_
  rw [← hL]
  simp only [beq_self_eq_true, unary_not, Bool.not_true, optK_mk, boolK_false]
  refine optK_of (rdN_all (n := 3) z.wk.row rfl) (optK_of (fillr3 rfl) ⟨by rw [allOne_cons, allOne_cons, allOne_cons, z.wk.sl.one]; rfl, new_step fun b56 s57 hb56 h57 u57 => ?_⟩)
  have k57 := u57.sub hb56
  have z57 := z.sub k57
  refine over1_in (fp := inL w L) (r := (n, q, L)) h57 z57.wk.sl (fun c o' k e h hne => ?_) (by show L.length ≤ _; omega) fun s59 k59 => ?_
  · obtain ⟨_, _, e', cs, f3⟩ := z.wk.fr c o' k e h hne
    refine ⟨⟨hne, o', k, e, h⟩, ?_, e', cs, k57 _ _ f3⟩
    rintro rfl
    rw [f3] at hb56; cases hb56
  · have w59 := z57.over k59
    refine same_in w59.db w59.rd w59.rl (hv.sub w59.ks) hlen fun s61 k61 => ?_
    simp only [unary_not, Bool.not_true, optK_mk, boolK_false, arith_add]
    rw [wrap64 (by omega) (by omega), show ((i : Int) + 1) = ((i + 1 : Nat) : Int) by omega]
    exact hI _ ⟨w59.ks.trans k61, w59.db.sub k61, w59.rd.sub k61, w59.rl⟩
end
end Go.AM
set_option maxRecDepth 100000
namespace Go.AM
open Go Go.Proofs
variable {K : AVal → Heap → Prop} {s s' s0 t : Heap} {Fz Fr : Nat → Prop} {o rb d m b : Nat} {nodes node last n q : Int} {G : List Rec} {F : List (Int × Rec)} {v w : AVal} {L : List Int}
variable {lv2 lv3 : AVal} {links : List Lnk} {acts : List ActR} {i : Nat} {a : ActR} {I2 : List AVal → Heap → Nat → Prop} {m2 : Nat}
/-! ### the three kinds of calls -/
theorem Cx.notD (z : Cx s0 s d m o rb b nodes node last F G n q w L) {fp : Nat → Prop} (hf : ∀ c, fp c → c = d ∨ c = m) : (∀ c, fp c → s0 c = none) ∧ ¬ fp b ∧ ∀ c, inL w L c → ¬ fp c := by
  have nd : ∀ c, fp c → ¬ fzk s0 o rb b w L c := fun c h => by
    rcases hf c h with rfl | rfl
    · exact z.db.fd
    · exact z.db.fm
  refine ⟨fun c h => ?_, fun h => nd b h (.inr (.inr (.inr (.inl rfl)))), fun c hc h => nd c h (.inr (.inr (.inr (.inr hc))))⟩
  cases y : s0 c with
  | none => rfl
  | some x => exact absurd (.inr (.inr (.inl (by rw [y]; simp)))) (nd c h)
theorem Cx.notR (z : Cx s0 s d m o rb b nodes node last F G n q w L) {fp : Nat → Prop} (hf : ∀ c, fp c → c = o ∨ c = rb) : (∀ c, fp c → s0 c = none) ∧ ¬ fp b ∧ ∀ c, inL w L c → ¬ fp c := by
  have nd : ∀ c, fp c → ¬ fzk s0 d m b w L c := fun c h => by
    rcases hf c h with rfl | rfl
    · exact z.rd.fo
    · exact z.rd.fb
  refine ⟨fun c h => ?_, fun h => nd b h (.inr (.inr (.inr (.inl rfl)))), fun c hc h => nd c h (.inr (.inr (.inr (.inr hc))))⟩
  cases y : s0 c with
  | none => rfl
  | some x => exact absurd (.inr (.inr (.inl (by rw [y]; simp)))) (nd c h)
/-- Receive, at both -/
theorem recvK_in {R : AVal → Heap → Prop} (z : Cx s0 s d m o rb b nodes node last F G n q w L) (hA : SlR 4 s0 lv3 (acts.map actRow)) (hS : ∀ a ∈ acts, Sli s0 a.2.2.2.1 a.2.2.2.2) (hi : acts[i]? = some a) (hn : n = a.2.1) (hq : q = a.2.2.1) (hL : L = a.2.2.2.2) (hl : L.length ≤ 200)
    (hJ : ∀ s' F' G' last', Cx s0 s' d m o rb b nodes node last' F' G' n q w L → vw_leafmeshlaw13_LsdbScript_j4 XX lv2 lv3 (.ptr d 0) (.ptr o 0) (.int .i64 (i : Int)) (.ptr b 0) I2 m2 K s') :
    optK (rdN s 3 (.ptr b 0)) fun v_114 =>
          wpCall Try.prog XX 27 [.ptr d 0, (.agg v_114)] (fun v_115 s_116 =>
          optK (extractA v_115 0) fun v_117 =>
          optK (extractA v_115 1) fun v_118 =>
          optK (iaddrS 4 lv3 (.int .i64 (i : Int))) fun v_119 =>
          optK (addOff 1 v_119) fun v_120 =>
          optK (rdN s_116 3 v_120) fun v_121 =>
          wpCall Try.prog XX 43 [.ptr o 0, (.agg v_121)] (fun v_122 s_123 =>
          optK (extractA v_122 0) fun v_124 =>
          optK (extractA v_122 1) fun v_125 =>
          optK (negB true (eqV 0 false v_117 v_124)) fun v_126 =>
          boolK v_126
           (vw_leafmeshlaw13_LsdbScript_j7 XX lv2 lv3 (.ptr d 0) (.ptr o 0) (.int .i64 (i : Int)) (.ptr b 0) v_126 .undef I2 m2 K s_123)
           (optK (negB true (eqV 0 false v_118 v_125)) fun v_128 =>
            vw_leafmeshlaw13_LsdbScript_j7 XX lv2 lv3 (.ptr d 0) (.ptr o 0) (.int .i64 (i : Int)) (.ptr b 0) v_126 v_128 I2 m2 K s_123)) s_116) s := by
  refine optK_of (rdN_all (n := 3) z.wk.row rfl) ?_
  obtain ⟨e1, e2, e3, rl'⟩ := z.rl.recv (n, q, L)
  refine Receive_in (n := n) (q := q) z.db z.liveD z.wk.sl (by omega) fun s1 k1 z1 => ?_
  obtain ⟨f1, f2, f3⟩ := z.notD (fp := fun c => c = d ∨ c = m) fun c h => h
  have ks1 := keep_base z.ks k1 f1
  have wk1 := z.wk.keep k1 f2 f3
  have rd1 := z.rd.keep k1 fun c h => by
    rcases h with h | h
    · exact .inl h
    · exact .inr (.inl h)
  have lR1 : ∀ c, fzk s0 d m b w L c → s1 c ≠ none := fun c h => by
    by_cases hc : c = d ∨ c = m
    · rcases hc with rfl | rfl
      · exact z1.own'.1
      · exact z1.own'.2
    · exact keep_live k1 (z.liveR c h) hc
  obtain ⟨pb, po, p1, p2, p3⟩ := (hA.sub ks1).tail4 (i := i) (r := actRow a) (by rw [List.getElem?_map, hi]; rfl)
  simp only [ext0, ext1, p1, addOff_ptr, p2, optK_mk]
  have hrow : (actRow a).drop 1 = [.int .i64 n, .int .i64 q, a.2.2.2.1] := by rw [hn, hq]; rfl
  rw [hrow]
  have sa := (hS a (List.mem_of_getElem? hi)).sub ks1
  rw [← hL] at sa
  refine rReceive_in (n := n) (q := q) rd1 lR1 sa (by omega) fun s2 k2 z2 => ?_
  have f4 : (∀ c, (c = o ∨ c = rb) → s0 c = none) ∧ ¬ (b = o ∨ b = rb) ∧ ∀ c, inL w L c → ¬ (c = o ∨ c = rb) := z.notR (fp := fun c => c = o ∨ c = rb) fun c h => h
  rw [← e1] at z2
  have cx : Cx s0 s2 d m o rb b nodes node _ _ _ n q w L := ⟨keep_base ks1 k2 f4.1, z1.keep k2 fun c h => by
    rcases h with h | h
    · exact .inl h
    · exact .inr (.inl h), z2, rl', wk1.keep k2 f4.2.1 f4.2.2⟩
  simp only [ext0, ext1, e2, e3, eqV_int, beq_self_eq_true, negB_mk, Bool.true_bne, Bool.not_true, optK_mk, boolK_false, vw_leafmeshlaw13_LsdbScript_j7, pickV_false]
  exact hJ _ _ _ _ cx
theorem ownR_len (hl : L.length ≤ 100000) : (ownR node last F L).r.2.2.length ≤ 100000 := by
  have h : (ownN node last F L).r.2.2.length ≤ 100000 := by
    unfold ownN
    split
    · simp
    · exact hl
  unfold ownR
  split
  · simp
  · split
    · split
      · rename_i e; rw [e]; exact hl
      · exact h
    · exact h
/-- Own, at both -/
theorem ownK_in {R : AVal → Heap → Prop} (z : Cx s0 s d m o rb b nodes node last F G n q w L) (hA : SlR 4 s0 lv3 (acts.map actRow)) (hS : ∀ a ∈ acts, Sli s0 a.2.2.2.1 a.2.2.2.2) (hi : acts[i]? = some a) (hL : L = a.2.2.2.2) (hl : L.length ≤ 200)
    (hJ : ∀ s' F' G' last', Cx s0 s' d m o rb b nodes node last' F' G' n q w L → vw_leafmeshlaw13_LsdbScript_j4 XX lv2 lv3 (.ptr d 0) (.ptr o 0) (.int .i64 (i : Int)) (.ptr b 0) I2 m2 K s') :
    optK (addOff 2 (.ptr b 0)) fun v_64 =>
        optK (rd1 s v_64) fun v_65 =>
        wpCall Try.prog XX 38 [.ptr d 0, v_65] (fun v_66 s_67 =>
        optK (extractA v_66 0) fun v_68 =>
        optK (extractA v_66 1) fun v_69 =>
        optK (extractA v_66 2) fun v_70 =>
        newK 24 [(.int .i64 0), (.int .i64 0), .nilslc] (fun b_71 s_72 =>
        optK (wrAgg s_72 3 (.ptr b_71 0) v_68) fun s_73 =>
        optK (iaddrS 4 lv3 (.int .i64 (i : Int))) fun v_74 =>
        optK (addOff 1 v_74) fun v_75 =>
        optK (addOff 2 v_75) fun v_76 =>
        optK (rd1 s_73 v_76) fun v_77 =>
        wpCall Try.prog XX 39 [.ptr o 0, v_77] (fun v_78 s_79 =>
        optK (extractA v_78 0) fun v_80 =>
        optK (extractA v_78 1) fun v_81 =>
        optK (extractA v_78 2) fun v_82 =>
        newK 24 [(.int .i64 0), (.int .i64 0), .nilslc] (fun b_83 s_84 =>
        optK (wrAgg s_84 3 (.ptr b_83 0) v_80) fun s_85 =>
        optK (rdN s_85 3 (.ptr b_71 0)) fun v_86 =>
        optK (rdN s_85 3 (.ptr b_83 0)) fun v_87 =>
        wpCall Try.prog XX 16 [(.agg v_86), (.agg v_87)] (fun v_88 s_89 =>
        optK (unaryA .not v_88) fun v_90 =>
        boolK v_90
         (vw_leafmeshlaw13_LsdbScript_j5 XX lv2 lv3 (.ptr d 0) (.ptr o 0) (.int .i64 (i : Int)) (.ptr b 0) (.ptr b_71 0) v_70 v_82 v_90 .undef I2 m2 K s_89)
         (optK (negB true (eqV 1 false v_69 v_81)) fun v_100 =>
          vw_leafmeshlaw13_LsdbScript_j5 XX lv2 lv3 (.ptr d 0) (.ptr o 0) (.int .i64 (i : Int)) (.ptr b 0) (.ptr b_71 0) v_70 v_82 v_90 v_100 I2 m2 K s_89)) s_85) s_79) s_73) s_67) s := by
  have y2 : [AVal.int .i64 n, .int .i64 q, w][2]? = some w := rfl
  simp only [addOff_ptr, Nat.zero_add, rd1_mk z.wk.row, y2, optK_mk]
  obtain ⟨e1, e2, e3, e4, rl'⟩ := z.rl.own L
  refine OwnW_in z.db z.liveD z.wk.sl (by omega) z.rl.la fun s1 lv k1 z1 sl1 fr1 => ?_
  have gl : (ownR node last F L).r.2.2.length ≤ 100000 := ownR_len (by omega)
  generalize ownR node last F L = R1 at *
  obtain ⟨f1, f2, f3⟩ := z.notD (fp := fun c => c = d ∨ c = m) fun c h => h
  have ks1 := keep_base z.ks k1 f1
  have wk1 := z.wk.keep k1 f2 f3
  have frs : ∀ c, inL lv R1.r.2.2 c → s c = none ∧ ∃ e cs, s1 c = some (false, .cells e cs) := fun c ⟨hne, o', k', e, h⟩ => fr1 c o' k' e h hne
  have rd1 : RD (fun c => fzk s0 d m b w L c ∨ inL lv R1.r.2.2 c) s1 o rb nodes node last G := (z.rd.more.keep k1 fun c h => by
    rcases h with h | h
    · exact .inl (.inl h)
    · exact .inl (.inr (.inl h))).weak fun c h => by
    rcases h with h | h
    · exact .inl h
    · exact .inr (frs c h).1
  have lR1 : ∀ c, (fzk s0 d m b w L c ∨ inL lv R1.r.2.2 c) → s1 c ≠ none := fun c h => by
    rcases h with h | h
    · by_cases hc : c = d ∨ c = m
      · rcases hc with rfl | rfl
        · exact z1.own'.1
        · exact z1.own'.2
      · exact keep_live k1 (z.liveR c h) hc
    · obtain ⟨_, e, cs, h1⟩ := frs c h
      rw [h1]; simp
  simp only [ext3.1, ext3.2.1, ext3.2.2, optK_mk]
  refine new_step fun b71 s72 hb71 h72 u72 => wrAgg_step h72 rfl rfl (by rw [allOne_cons, allOne_cons, allOne_cons, sl1.one]; rfl) fun s73 h73 u73 => ?_
  have h73 : s73 b71 = some (false, .cells 24 [.int .i64 R1.r.1, .int .i64 R1.r.2.1, lv]) := h73
  have k73 : Sub s1 s73 := (u72.sub hb71).upto u73 hb71
  have ks73 := ks1.trans k73
  obtain ⟨pb, po, p1, p2, p3⟩ := (hA.sub ks73).tail4 (i := i) (r := actRow a) (by rw [List.getElem?_map, hi]; rfl)
  have r3 := p3 3 (by omega)
  have y3 : (actRow a)[3]? = some a.2.2.2.1 := rfl
  simp only [p1, addOff_ptr, Nat.add_assoc, r3, y3, optK_mk]
  have sa0 := hS a (List.mem_of_getElem? hi)
  rw [← hL] at sa0
  obtain ⟨g1, g2, g3⟩ : (∀ c, (c = o ∨ c = rb) → s0 c = none) ∧ ¬ (b = o ∨ b = rb) ∧ ∀ c, inL w L c → ¬ (c = o ∨ c = rb) := z.notR (fp := fun c => c = o ∨ c = rb) fun c h => h
  obtain ⟨no, nr⟩ := z.rd.own
  refine rOwn_in (rd1.sub k73) (fun c h => keep_live (fp := fun _ => False) k73.keep (lR1 c h) id) (sa0.sub ks73) (fun c o' k' e h hne => ?_) (by omega) z.rl.la fun s79 lv9 k2 z2 sl2 => ?_
  · have := sa0.was c o' k' e h (by simpa using hne)
    exact ⟨fun e => this (g1 c (.inl e)), fun e => this (g1 c (.inr e))⟩
  rw [← e1] at sl2 ⊢
  rw [← e2, ← e3]
  rw [← e4] at z2
  simp only [ext3.1, ext3.2.1, ext3.2.2, optK_mk]
  have n71 : ¬ (b71 = o ∨ b71 = rb) := by
    have n1 := rd1.own
    rintro (rfl | rfl)
    · exact n1.1 hb71
    · exact n1.2 hb71
  have nlv : ∀ c, inL lv R1.r.2.2 c → ¬ (c = o ∨ c = rb) := fun c h e => by
    have := (frs c h).1
    rcases e with rfl | rfl
    · exact no this
    · exact nr this
  have z1' := ((z1.sub k73).keep k2 fun c h => by
    rcases h with h | h
    · exact .inl (.inl h)
    · exact .inl (.inr (.inl h)))
  have sl1' := (sl1.sub k73).keep k2 fun c o' k' e h hne => nlv c ⟨by simpa using hne, o', k', e, h⟩
  have wk2 := (wk1.sub k73).keep k2 g2 g3
  have ks2 := keep_base ks73 k2 g1
  have h79 : s79 b71 = _ := k2 _ _ h73 n71
  have lv79 : ∀ c, inL lv R1.r.2.2 c → ∃ e cs, s79 c = some (false, .cells e cs) := fun c h => by
    obtain ⟨_, e, cs, h1⟩ := frs c h
    exact ⟨e, cs, k2 _ _ (k73 _ _ h1) (nlv c h)⟩
  refine new_step fun b83 s84 hb83 h84 u84 => wrAgg_step h84 rfl rfl (by rw [allOne_cons, allOne_cons, allOne_cons, sl2.one]; rfl) fun s85 h85 u85 => ?_
  have h85 : s85 b83 = some (false, .cells 24 [.int .i64 R1.r.1, .int .i64 R1.r.2.1, lv9]) := h85
  have k85 : Sub s79 s85 := (u84.sub hb83).upto u85 hb83
  refine optK_of (rdN_all (n := 3) (k85 _ _ h79) rfl) (optK_of (rdN_all (n := 3) h85 rfl) ?_)
  refine equal_in (sl1'.sub k85) (sl2.sub k85) (by omega) fun s89 k89 => ?_
  have k8 := k85.trans k89
  simp only [beq_self_eq_true, Bool.and_self, unary_not, Bool.not_true, optK_mk, boolK_false, eqV_bool, negB_mk, Bool.true_bne, vw_leafmeshlaw13_LsdbScript_j5, pickV_false, eqV_int, vw_leafmeshlaw13_LsdbScript_j6]
  refine optK_of (rdN_all (n := 3) (k8 _ _ h79) rfl) (optK_of (fillr3 rfl) ⟨by rw [allOne_cons, allOne_cons, allOne_cons, sl1.one]; rfl, new_step fun b95 s96 hb95 h96 u96 => ?_⟩)
  have k96 := k8.trans (u96.sub hb95)
  refine over1_in (fp := inL lv R1.r.2.2) (r := R1.r) h96 (sl1'.sub k96) (fun c o' k' e h hne => ?_) (by omega) fun s98 k98 => ?_
  · have hc : inL lv R1.r.2.2 c := ⟨hne, o', k', e, h⟩
    obtain ⟨e', cs, f3⟩ := lv79 c hc
    refine ⟨hc, ?_, e', cs, k96 _ _ f3⟩
    rintro rfl
    rw [k8 _ _ f3] at hb95; cases hb95
  · refine hJ _ _ _ _ ⟨keep_base (ks2.trans k96) k98 fun c h => ?_, ((z1'.sub k96).keep k98 fun c h => .inr h).weak fun c h => .inl h, ((z2.sub k96).keep k98 fun c h => .inr h).weak fun c h => .inl h, rl', (wk2.sub k96).keep k98 (fun h => ?_) fun c h1 h2 => ?_⟩
    · cases y : s0 c with
      | none => rfl
      | some x => have := (frs c h).1; rw [z.ks c x y] at this; cases this
    · have := (frs b h).1
      rw [z.wk.row] at this; cases this
    · have := (frs c h2).1
      exact z.liveD c (.inr (.inr (.inr (.inr h1)))) this
end Go.AM
set_option maxRecDepth 100000
namespace Go.AM
open Go Go.Proofs
variable {K : AVal → Heap → Prop} {s s' s0 t : Heap} {Fz Fr : Nat → Prop} {o rb d m b : Nat} {nodes node last n q : Int} {G : List Rec} {F : List (Int × Rec)} {v w : AVal} {L : List Int}
variable {lv2 lv3 : AVal} {links : List Lnk} {acts : List ActR} {i : Nat} {a : ActR} {I2 : List AVal → Heap → Nat → Prop} {m2 : Nat}
/-- both are copied, and the program's old one goes on for itself -/
theorem copyK_in (z : Cx s0 s d m o rb b nodes node last F G n q w L)
    (hJ : ∀ s' d' m' o' rb' F', Cx s0 s' d' m' o' rb' b nodes node last F' G n q w L → vw_leafmeshlaw13_LsdbScript_j4 XX lv2 lv3 (.ptr d' 0) (.ptr o' 0) (.int .i64 (i : Int)) (.ptr b 0) I2 m2 K s') :
    wpW Try.prog XX 41 [.ptr d 0] (fun v_102 s_103 =>
          wpCall Try.prog XX 42 [.ptr o 0] (fun v_104 s_105 =>
          optK (fillR (repl 1 [(.int .i64 0)]) [(0, 1, (.int .i64 77))]) fun c_106 => allOne c_106 = true ∧ newK 3 c_106 (fun b_107 s_108 =>
          wpCall Try.prog XX 38 [.ptr d 0, (.slc b_107 0 1 (some 1) 1)] (fun v_109 s_110 =>
          optK (fillR [(.int .i64 0), (.int .i64 0), .nilslc] [(0, 1, (.int .i64 0)), (1, 1, (.int .i64 536870912))]) fun c_111 =>
          wpCall Try.prog XX 27 [.ptr d 0, (.agg c_111)] (fun v_112 s_113 =>
          vw_leafmeshlaw13_LsdbScript_j4 XX lv2 lv3 v_102 v_104 (.int .i64 (i : Int)) (.ptr b 0) I2 m2 K s_113) s_110) s_108) s_105) s_103) s := by
  refine Copy_in z.db fun s1 d' m' F' k1 hd hm hF' mk => ?_
  have zn := (mk (fun c => s c ≠ none) fun c h => h).more
  have znow := zn.own'
  refine rCopy_in (z.rd.sub k1) fun s2 o' rb' k2 ho hr mkr => ?_
  have zr := mkr (fun c => s1 c ≠ none) fun c h => h
  refine optK_of (a := [.int .i64 77]) rfl ⟨rfl, new_step fun b107 s108 hb107 h107 u107 => ?_⟩
  have k3 := u107.sub hb107
  have kk : Sub s s108 := k1.trans (k2.trans k3)
  have z8 := z.sub kk
  refine OwnW_in z8.db z8.liveD (L := [77]) (Sl.mk h107 rfl (by simp)) (by simp) z8.rl.la fun s110 lv k4 z4 sl4 fr4 => ?_
  refine optK_of (a := [.int .i64 0, .int .i64 536870912, .nilslc]) rfl ?_
  have hF4 : ∀ c, (fzk s0 o rb b w L c ∨ inL lv (ownR node last F [77]).r.2.2 c) → s110 c ≠ none := fun c h => by
    rcases h with h | ⟨hne, o', k', e, h⟩
    · by_cases hc : c = d ∨ c = m
      · rcases hc with rfl | rfl
        · exact z4.own'.1
        · exact z4.own'.2
      · exact keep_live k4 (z8.liveD c h) hc
    · obtain ⟨_, e', cs, h1⟩ := fr4 c o' k' e h hne
      rw [h1]; simp
  refine Receive_in z4 hF4 (L := []) (.inl ⟨rfl, rfl⟩) (by simp) fun s113 k5 _ => ?_
  have k6 : KeepBut (fun c => c = d ∨ c = m) s108 s113 := k4.trans k5
  obtain ⟨f1, f2, f3⟩ := z.notD (fp := fun c => c = d ∨ c = m) fun c h => h
  obtain ⟨od, om⟩ := z.db.own'
  have live1 : ∀ c, s c ≠ none → s1 c ≠ none := fun c h => keep_live (fp := fun _ => False) k1.keep h id
  refine hJ _ _ _ _ _ F' ⟨keep_base z8.ks k6 f1, ((zn.sub (k2.trans k3)).keep k6 fun c h => ?_).weak fun c h => ?_, ((zr.sub k3).keep k6 fun c h => ?_).weak fun c h => ?_, z.rl.cong hF', z8.wk.keep k6 f2 f3⟩
  · rcases h with rfl | rfl
    · exact .inl od
    · exact .inl om
  · rcases h with rfl | rfl | h
    · exact .inr ho
    · exact .inr hr
    · exact .inl (z.liveD c (.inr (.inr h)))
  · rcases h with rfl | rfl
    · exact live1 _ od
    · exact live1 _ om
  · rcases h with rfl | rfl | h
    · exact znow.1
    · exact znow.2
    · exact live1 _ (z.liveD c (.inr (.inr h)))
/-- one round -/
theorem round_in (z : Two s0 s d m o rb nodes node last F G) (hv : SlR 3 s0 lv2 (links.map lnR)) (hlen : links.length ≤ 1000000) (hA : SlR 4 s0 lv3 (acts.map actRow)) (hS : ∀ a ∈ acts, Sli s0 a.2.2.2.1 a.2.2.2.2) (h60 : acts.length ≤ 60) (hi : acts[i]? = some a)
    (hT : ∀ s', K (.bool true) s')
    (hI : ∀ s' d m o rb last F G, Two s0 s' d m o rb nodes node last F G → ∃ m', m' < m2 ∧ I2 [.ptr d 0, .ptr o 0, .int .i64 ((i + 1 : Nat) : Int)] s' m') :
    vw_leafmeshlaw13_LsdbScript_j3 XX lv2 lv3 (.ptr d 0) (.ptr o 0) (.int .i64 (i : Int)) (.bool true) (.bool true) I2 m2 K s := by
  have hi6 : i ≤ 60 := by have := (List.getElem?_eq_some_iff.1 hi).1; omega
  obtain ⟨pb, po, p1, p2, p3⟩ := (hA.sub z.ks).tail4 (i := i) (r := actRow a) (by rw [List.getElem?_map, hi]; rfl)
  have r3 := p3 3 (by omega)
  have y3 : (actRow a)[3]? = some a.2.2.2.1 := rfl
  have sa := hS a (List.mem_of_getElem? hi)
  have sl := (sa.sub z.ks).len
  rw [List.length_map] at sl
  unfold vw_leafmeshlaw13_LsdbScript_j3
  refine optK_of (a := .bool true) rfl ?_
  rw [boolK_true]
  refine optK_of p1 (optK_of (a := .ptr pb (po + 1)) rfl (optK_of (a := .ptr pb (po + 1 + 2)) rfl (optK_of (a := a.2.2.2.1) (r3.trans y3) (optK_of sl (optK_of (a := .bool (decide ((200 : Int) < (a.2.2.2.2.length : Nat)))) (by rw [arith_gtr]) ?_)))))
  refine boolK_mk (fun _ => wp_closedM rfl rfl (hT s)) fun hle => ?_
  have hle : a.2.2.2.2.length ≤ 200 := by have := of_decide_eq_false hle; omega
  have hrow : (actRow a).drop 1 = [.int .i64 a.2.1, .int .i64 a.2.2.1, a.2.2.2.1] := rfl
  rw [hrow] at p2
  refine optK_of p1 (optK_of (a := .ptr pb (po + 1)) rfl (optK_of p2 ?_))
  refine new_step fun b s31 hb h31 u31 => wrAgg_step h31 rfl rfl (by rw [allOne_cons, allOne_cons, allOne_cons, sa.one]; rfl) fun s32 h32 u32 => ?_
  have h32 : s32 b = some (false, .cells 24 [.int .i64 a.2.1, .int .i64 a.2.2.1, a.2.2.2.1]) := h32
  have k32 : Sub s s32 := (u31.sub hb).upto u32 hb
  have y2 : [AVal.int .i64 a.2.1, .int .i64 a.2.2.1, a.2.2.2.1][2]? = some a.2.2.2.1 := rfl
  refine optK_of (a := .ptr b 2) rfl (optK_of ((rd1_mk h32).trans y2) ?_)
  refine OwnK_in (sa.sub (z.ks.trans k32)) (by omega) fun w s36 k36 sl36 fr36 => ?_
  refine optK_of (a := .ptr b 2) rfl ?_
  refine wr1_step (k36 _ _ h32) (by simp) sl36.one fun s38 h38 u38 => ?_
  have h38 : s38 b = some (false, .cells 24 [.int .i64 a.2.1, .int .i64 a.2.2.1, w]) := h38
  have k38 : Sub s s38 := (k32.trans k36).upto u38 hb
  have wnb : ∀ c o k e, w = .slc c o k e 1 → a.2.2.2.2 ≠ [] → s32 c = none ∧ c ≠ b ∧ ∃ e cs, s38 c = some (false, .cells e cs) := fun c o k e h hne => by
    obtain ⟨f1, e', cs, f2⟩ := fr36 c o k e h hne
    have hc : c ≠ b := by rintro rfl; rw [h32] at f1; cases f1
    exact ⟨f1, hc, e', cs, by rw [u38 c hc]; exact f2⟩
  have snone : ∀ c, s32 c = none → s c = none := fun c h => by
    cases y : s c with
    | none => rfl
    | some x => rw [k32 c x y] at h; cases h
  have s0none : ∀ c, s c = none → s0 c = none := fun c h => by
    cases y : s0 c with
    | none => rfl
    | some x => rw [z.ks c x y] at h; cases h
  have wk : Wk s0 s38 b a.2.1 a.2.2.1 w a.2.2.2.2 := ⟨h38, sl36.keep (fp := fun i => i = b) (u38.keep rfl) fun c o n e h hne => (wnb c o n e h (by simpa using hne)).2.1, fun c o k e h hne => by
    obtain ⟨f1, f2, f3⟩ := wnb c o k e h hne
    exact ⟨s0none c (snone c f1), f2, f3⟩⟩
  have cx : Cx s0 s38 d m o rb b nodes node last F G a.2.1 a.2.2.1 w a.2.2.2.2 := by
    refine ⟨z.ks.trans k38, (z.db.more.sub k38).weak fun c h => ?_, (z.rd.more.sub k38).weak fun c h => ?_, z.rl, wk⟩
    · rcases h with h | h | h | rfl | ⟨hne, o', k, e, h⟩
      · exact .inl (.inl h)
      · exact .inl (.inr (.inl h))
      · exact .inl (.inr (.inr h))
      · exact .inr hb
      · exact .inr (snone c (wnb c o' k e h hne).1)
    · rcases h with h | h | h | rfl | ⟨hne, o', k, e, h⟩
      · exact .inl (.inl h)
      · exact .inl (.inr (.inl h))
      · exact .inl (.inr (.inr h))
      · exact .inr hb
      · exact .inr (snone c (wnb c o' k e h hne).1)
  obtain ⟨pb', po', q1, q2, q3⟩ := (hA.sub cx.ks).tail4 (i := i) (r := actRow a) (by rw [List.getElem?_map, hi]; rfl)
  rw [p1] at q1
  cases q1
  have q0 := q3 0 (by omega)
  rw [Nat.add_zero] at q0
  have y0 : (actRow a)[0]? = some (.int .i64 a.1) := rfl
  refine optK_of p1 (optK_of (a := .ptr pb po) rfl (optK_of (q0.trans y0) ?_))
  refine Pick13_in (n := 4) (by omega) fun r hr => ?_
  refine optK_of (a := .bool ((r : Int) == 0)) (by rw [eqV_int, negB_mk, Bool.false_bne]) ?_
  have hJ : ∀ s' d m o rb last F G, Cx s0 s' d m o rb b nodes node last F G a.2.1 a.2.2.1 w a.2.2.2.2 → vw_leafmeshlaw13_LsdbScript_j4 XX lv2 lv3 (.ptr d 0) (.ptr o 0) (.int .i64 (i : Int)) (.ptr b 0) I2 m2 K s' := fun s' d m o rb last F G c => j4_in c hv hlen hA hS hi rfl hle hi6 fun s'' h => hI _ _ _ _ _ _ _ _ h
  refine boolK_mk (fun _ => ?_) (fun _ => ?_)
  · exact ownK_in (R := K) cx hA hS hi rfl hle fun s' F' G' last' c => hJ _ _ _ _ _ _ _ _ c
  refine optK_of (a := .bool ((r : Int) == 3)) (by rw [eqV_int, negB_mk, Bool.false_bne]) ?_
  refine boolK_mk (fun _ => ?_) (fun _ => ?_)
  · exact copyK_in cx fun s' d' m' o' rb' F' c => hJ _ _ _ _ _ _ _ _ c
  · exact recvK_in (R := K) cx hA hS hi rfl rfl rfl hle fun s' F' G' last' c => hJ _ _ _ _ _ _ _ _ c
/-- LsdbScript -/
theorem Script_in (hv : SlR 3 s lv2 (links.map lnR)) (hA : SlR 4 s lv3 (acts.map actRow)) (hS : ∀ a ∈ acts, Sli s a.2.2.2.1 a.2.2.2.2) : wpW Try.prog XX 8 [.int .i64 nodes, .int .i64 node, lv2, lv3] (fun v _ => v = .bool true) s := by
  refine vw_leafmeshlaw13_LsdbScript_in ?_
  have l2 : lenOfA lv2 = some links.length := by rw [hv.len, List.length_map]
  have l3 : lenOfA lv3 = some acts.length := by rw [hA.len, List.length_map]
  simp only [vw_leafmeshlaw13_LsdbScript, l2, l3, arith_gtr, optK_mk]
  have fin : ∀ s' : Heap, wpCall Try.prog XX 10 [] (fun v _ => v = .bool true) s' := fun s' => wp_closedM rfl rfl rfl
  refine boolK_mk (fun h1 => ?_) (fun h1 => ?_)
  · simp only [decide_eq_true (of_decide_eq_true h1), vw_leafmeshlaw13_LsdbScript_j0, pickV_true, boolK_true, optK_mk]
    exact fin s
  have hlen := of_decide_eq_false h1
  simp only [h1, vw_leafmeshlaw13_LsdbScript_j0, pickV_false, optK_mk]
  refine boolK_mk (fun _ => fin s) (fun h2 => ?_)
  have h60 := of_decide_eq_false h2
  by_cases hn : 1 ≤ nodes ∧ nodes ≤ 32 ∧ 0 ≤ node ∧ node < nodes
  · obtain ⟨k, rfl⟩ : ∃ k : Nat, nodes = (k : Int) := ⟨nodes.toNat, by omega⟩
    refine New13_in hn fun s1 d m k1 hd hm mk => ?_
    have z1 := (mk (fun c => s c ≠ none) fun c h => h).more
    refine rNew_in ⟨by omega, by omega⟩ ⟨by omega, by omega⟩ fun s2 o rb k2 ho hr mkr => ?_
    have zr := mkr (fun c => s1 c ≠ none) fun c h => h
    simp only [ext0, ext1, eqV_int, beq_self_eq_true, negB_mk, Bool.true_bne, Bool.not_true, optK_mk, boolK_false, eqV_ptr, eqV_bool, Bool.false_bne, vw_leafmeshlaw13_LsdbScript_j1, pickV_false]
    have w0 : Two s s2 d m o rb (k : Int) node 0 [] (zeroG k) := by
      refine ⟨k1.trans k2, (z1.sub k2).weak fun c h => ?_, zr.weak fun c h => ?_, Rl.start (by omega) ⟨by omega, by omega⟩⟩
      · rcases h with rfl | rfl | h
        · exact .inr ho
        · exact .inr hr
        · exact .inl h
      · rcases h with rfl | rfl | h
        · exact z1.own'.1
        · exact z1.own'.2
        · exact keep_live (fp := fun _ => False) k1.keep h id
    refine ⟨fun ys t j => ∃ (d m o rb : Nat) (last : Int) (F : List (Int × Rec)) (G : List Rec) (i : Nat), ys = [.ptr d 0, .ptr o 0, .int .i64 (i : Int)] ∧ i ≤ acts.length ∧ j = acts.length - i ∧ Two s t d m o rb (k : Int) node last F G, ⟨_, d, m, o, rb, _, _, _, 0, rfl, by omega, rfl, w0⟩, ?_⟩
    rintro e t j ⟨d, m, o, rb, last, F, G, i, hy, hi, rfl, z⟩
    simp only [List.cons.injEq, and_true] at hy
    obtain ⟨y1, y2, y3⟩ := hy
    rw [y1, y2, y3]
    simp only [vw_leafmeshlaw13_LsdbScript_l2, eqV_ptr, negB_mk, Bool.true_bne, Bool.not_false, boolK_true, l3, arith_lss, optK_mk]
    by_cases hlt : i < acts.length
    · rw [decide_eq_true (show (i : Int) < acts.length by omega)]
      refine round_in z hv (by omega) hA hS (by omega) (List.getElem?_eq_getElem hlt) (fun _ => rfl) fun s' d m o rb last F G h => ?_
      exact ⟨_, by omega, d, m, o, rb, last, F, G, i + 1, rfl, by omega, rfl, h⟩
    · rw [decide_eq_false (show ¬ (i : Int) < acts.length by omega)]
      simp only [vw_leafmeshlaw13_LsdbScript_j3, pickV_true, boolK_false, optK_mk]
      exact fin t
  · refine NewBad_in hn (rNewBad_in hn ?_)
    simp only [ext0, ext1, eqV_int, beq_self_eq_true, negB_mk, Bool.true_bne, Bool.not_true, optK_mk, boolK_false, eqV_nilptr, eqV_bool, Bool.false_bne, vw_leafmeshlaw13_LsdbScript_j1, pickV_false]
    refine ⟨fun ys t j => ys = [.nilptr, .nilptr, .int .i64 0], ⟨0, rfl⟩, ?_⟩
    rintro e t j hy
    simp only [List.cons.injEq, and_true] at hy
    obtain ⟨y1, y2, y3⟩ := hy
    rw [y1, y2, y3]
    simp only [vw_leafmeshlaw13_LsdbScript_l2, eqV_nilptr, negB_mk, Bool.true_bne, Bool.not_true, boolK_false, vw_leafmeshlaw13_LsdbScript_j3, pickV_false, optK_mk]
    exact fin t
end Go.AM
namespace Go.AM
open Go Go.Proofs
variable {s : Heap}
/-! ### LsdbScript's arguments -/
set_option maxRecDepth 100000 in
theorem inp_lnk {d : Nat} {xs : List AVal} (h : Inp Try.prog s (d + 2) 44 xs) : ∃ a : Lnk, xs = lnR a := by
  unfold Inp at h
  simp only [Try.underlying44] at h
  obtain ⟨h1, h2⟩ := h
  rw [show Try.prog.cellsOf 44 = 3 by kernel_rfl] at h1
  have k0 := h2 _ (List.mem_cons_self)
  have k1 := h2 _ (List.mem_cons_of_mem _ List.mem_cons_self)
  have k2 := h2 _ (List.mem_cons_of_mem _ (List.mem_cons_of_mem _ List.mem_cons_self))
  match xs, h1 with
  | [a, b, c], _ =>
    obtain ⟨n, e1, _⟩ := inp_int (xs := [a]) Try.underlying3 k0
    obtain ⟨q, e2, _⟩ := inp_int (xs := [b]) Try.underlying3 k1
    obtain ⟨r, e3, _⟩ := inp_int (xs := [c]) Try.underlying3 k2
    cases e1; cases e2; cases e3
    exact ⟨(n, q, r), rfl⟩
set_option maxRecDepth 100000 in
theorem inp_act {d : Nat} {xs : List AVal} (h : Inp Try.prog s (d + 4) 71 xs) : ∃ a : ActR, xs = actRow a ∧ Sli s a.2.2.2.1 a.2.2.2.2 := by
  unfold Inp at h
  simp only [Try.underlying71] at h
  obtain ⟨h1, h2⟩ := h
  rw [show Try.prog.cellsOf 71 = 4 by kernel_rfl] at h1
  have k0 := h2 _ (List.mem_cons_self)
  have k1 := h2 _ (List.mem_cons_of_mem _ List.mem_cons_self)
  match xs, h1 with
  | [a, b, c, e], _ =>
    obtain ⟨n, e1, _⟩ := inp_int (xs := [a]) Try.underlying3 k0
    obtain ⟨r, e2, hr⟩ := inp_rec (d := d) (xs := [b, c, e]) k1
    cases e1
    refine ⟨(n, r.1, r.2.1, r.2.2.1, r.2.2.2), ?_, hr⟩
    show _ :: _ = _
    rw [e2]; rfl
theorem cells44 : Try.prog.cellsOf 44 = 3 := by kernel_rfl
theorem cells71 : Try.prog.cellsOf 71 = 4 := by kernel_rfl
set_option maxRecDepth 100000 in
theorem Script_wp (s : Heap) (xs : List AVal) (h : ArgL Try.prog s 40 [3, 3, 42, 66] xs) : wpW Try.prog XX 8 xs (fun v _ => v = .bool true) s := by
  obtain ⟨a, b, c, e, rfl, h1, h2, h3, h4⟩ := argl4 h
  obtain ⟨n, rfl, _⟩ := arg_int (d := 39) Try.underlying3 h1
  obtain ⟨q, rfl, _⟩ := arg_int (d := 39) Try.underlying3 h2
  obtain ⟨l, l1, _, _⟩ := argR (d := 39) Try.underlying42 lnR (fun _ => True) (fun a => by rw [cells44]; rfl) (fun xs h => by obtain ⟨a, e⟩ := inp_lnk (d := 37) h; exact ⟨a, e, trivial⟩) h3
  obtain ⟨m, m1, m2, _⟩ := argR (d := 39) Try.underlying66 actRow (fun a => Sli s a.2.2.2.1 a.2.2.2.2) (fun a => by rw [cells71]; rfl) (fun xs h => inp_act (d := 35) h) h4
  rw [cells44] at l1
  rw [cells71] at m1
  exact Script_in l1 m1 m2
end Go.AM
