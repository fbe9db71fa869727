/- Part D of a calculus over a small memory that is proved to answer as the program does, and of its use for the functions that the law reaches: see the last part. -/
import Derived.Test.YtfnapbeeaghgdaaV
import Derived.Test.YtfnapbeeaghgdaaU2
namespace Go.AM
open Go Go.Proofs
/-! ### the watch -/
structure Wt where
  m : Int
  up : Bool
  last : Option Int
  heard : Option Int
  since : Int
  changes : Int
def opI (s : Heap) (v : AVal) : Option Int → Prop
  | none => v = .nilptr
  | some n => ∃ b t e, v = .ptr b 0 ∧ s b = some (t, .cells e [.int .i64 n])
def bi (b : Bool) : Int := cond b 1 0
def WtAt (s : Heap) (w : Nat) (t : Bool) (x : Wt) : Prop := ∃ e L D, s w = some (t, .cells e [.int .i64 x.m, .int .i64 (bi x.up), L, D, .int .i64 x.since, .int .i64 x.changes]) ∧ opI s L x.last ∧ opI s D x.heard
theorem opI.keep {fp : Nat → Prop} {s s' : Heap} {v : AVal} {o : Option Int} (h : opI s v o) (hk : KeepBut fp s s') (hn : ∀ b t e n, s b = some (t, .cells e [.int .i64 n]) → ¬ fp b) : opI s' v o := by
  cases o with
  | none => exact h
  | some n => obtain ⟨b, t, e, rfl, hb⟩ := h; exact ⟨b, t, e, rfl, hk b _ hb (hn b t e n hb)⟩
theorem opI.sub {s s' : Heap} {v : AVal} {o : Option Int} (h : opI s v o) (hk : Sub s s') : opI s' v o := by
  cases o with
  | none => exact h
  | some n => obtain ⟨b, t, e, rfl, hb⟩ := h; exact ⟨b, t, e, rfl, hk b _ hb⟩
theorem opI.one {s : Heap} {v : AVal} {o : Option Int} (h : opI s v o) : v.one = true := by
  cases o with
  | none => rw [h]; rfl
  | some n => obtain ⟨b, t, e, rfl, hb⟩ := h; rfl
theorem opI.upto {s s' : Heap} {v : AVal} {o : Option Int} {c : Nat} {t : Bool} {e : TypeId} {l : List AVal} (h : opI s v o) (hc : s c = some (t, .cells e l)) (hl : l.length ≠ 1) (hu : Upto c s s') : opI s' v o := by
  cases o with
  | none => exact h
  | some n =>
    obtain ⟨b, tb, eb, rfl, hb⟩ := h
    refine ⟨b, tb, eb, rfl, ?_⟩
    rw [hu b fun q => by rw [q, hc] at hb; cases hb; exact hl rfl]; exact hb
theorem WtAt.sub {s s' : Heap} {w : Nat} {t : Bool} {x : Wt} (h : WtAt s w t x) (hs : Sub s s') : WtAt s' w t x := by
  obtain ⟨e, L, D, h1, h2, h3⟩ := h
  exact ⟨e, L, D, hs _ _ h1, h2.sub hs, h3.sub hs⟩
theorem WtAt.keep {s s' : Heap} {w w' : Nat} {t t' : Bool} {x y : Wt} (h : WtAt s w t x) (h' : WtAt s w' t' y) (hk : KeepBut (· = w') s s') (hn : w ≠ w') : WtAt s' w t x := by
  obtain ⟨e, L, D, h1, h2, h3⟩ := h
  obtain ⟨e', L', D', h1', _, _⟩ := h'
  have key : ∀ b t e n, s b = some (t, .cells e [.int .i64 n]) → ¬ b = w' := by
    rintro b t e n hb rfl
    rw [h1'] at hb; cases hb
  exact ⟨e, L, D, hk _ _ h1 hn, h2.keep hk key, h3.keep hk key⟩
variable {K : AVal → Heap → Prop} {s : Heap} {w : Nat} {t : Bool} {x : Wt}
theorem valid_in (h : WtAt s w t x) (hm : 0 < x.m) (hK : K (.bool true) s) : wpCall Try.prog XX 29 [.ptr w 0] K s := by
  obtain ⟨e, L, D, h, _, _⟩ := h
  refine vc_detect_Watch_valid_in ?_
  simp [vc_detect_Watch_valid, vc_detect_Watch_valid_j0, rd1_mk h, hm, hK]
theorem after_in {a b : Int} (h1 : 0 ≤ a) (h2 : a ≤ 1099511627776) (h3 : 0 ≤ b) (h4 : b ≤ 1099511627776) (hK : K (.int .i64 (b + a)) s) : wpCall Try.prog XX 32 [.int .i64 a, .int .i64 b] K s := by
  refine vc_detect_span_after_in ?_
  simp only [vc_detect_span_after, arith_add, optK_mk]
  rw [wrap64 (by omega) (by omega)]
  exact hK
theorem other_in {b : Bool} (hK : K (.int .i64 (bi !b)) s) : wpCall Try.prog XX 31 [.int .i64 (bi b)] K s := by
  refine vc_detect_phase_other_in ?_
  simp [vc_detect_phase_other]
  cases b <;> exact hK
theorem again_in {v : AVal} {o : Option Int} (h : opI s v o) (hK : ∀ v s', Sub s s' → opI s' v o → K v s') : wpCall Try.prog XX 33 [v] K s := by
  refine vc_detect_again_in ?_
  cases o with
  | none =>
    obtain rfl : v = .nilptr := h
    simp [vc_detect_again]
    exact hK _ _ (.refl _) rfl
  | some n =>
    obtain ⟨b, t, e, rfl, hb⟩ := h
    simp only [vc_detect_again, eqV_ptr, negB_mk, optK_mk, boolK_false, bne_self_eq_false, nilCheck_ptr, rd1_mk hb, List.getElem?_cons_zero]
    intro c hc
    rw [wr1_mk hset_eq (by simp) rfl]
    have hcb := ne_of_some hc hb
    refine hK _ _ (fun i x hi => ?_) ⟨c, false, 3, rfl, by simp⟩
    have := ne_of_some hc hi
    rw [hset_other this, hset_other this]; exact hi
theorem New_in {m : Int} (hK : ∀ w s', Sub s s' → s w = none → WtAt s' w false ⟨m, false, none, none, 0, 0⟩ → 1 ≤ m → m ≤ 1000 → K (.tup [.ptr w 0, .int .i64 0]) s') (hE : ¬ (1 ≤ m ∧ m ≤ 1000) → K (.tup [.nilptr, .int .i64 2]) s) : wpCall Try.prog XX 9 [.int .i64 m] K s := by
  refine vc_detect_New_in ?_
  simp only [vc_detect_New, arith_lss, optK_mk, arith_gtr]
  refine boolK_mk (fun h => ?_) (fun h => ?_)
  · simp only [decide_eq_true_eq] at h
    simp [vc_detect_New_j0, h]
    exact hE (by omega)
  · simp only [decide_eq_false_iff_not] at h
    simp only [vc_detect_New_j0, h, decide_false, pickV_false, optK_mk]
    refine boolK_mk (fun h2 => hE ?_) (fun h2 => ?_)
    · simp only [decide_eq_true_eq] at h2; omega
    · simp only [decide_eq_false_iff_not] at h2
      refine optK_of (a := [.int .i64 m, .int .i64 0, .nilptr, .nilptr, .int .i64 0, .int .i64 0]) rfl ⟨rfl, fun b hb => ?_⟩
      exact hK b _ (sub_new hb) hb ⟨58, .nilptr, .nilptr, hset_eq, rfl, rfl⟩ (by omega) (by omega)
theorem Up_in (h : WtAt s w t x) (hm : 0 < x.m) (hK : K (.bool x.up) s) : wpCall Try.prog XX 19 [.ptr w 0] K s := by
  refine vc_detect_Watch_Up_in ?_
  refine valid_in h hm ?_
  obtain ⟨e, L, D, h, _, _⟩ := h
  simp [vc_detect_Watch_Up_j0, rd1_mk h]
  have : (bi x.up == 1) = x.up := by cases x.up <;> rfl
  rw [this]; exact hK
theorem Since_in (h : WtAt s w t x) (hm : 0 < x.m) (hK : K (.int .i64 x.since) s) : wpCall Try.prog XX 21 [.ptr w 0] K s := by
  refine vc_detect_Watch_Since_in ?_
  refine valid_in h hm ?_
  obtain ⟨e, L, D, h, _, _⟩ := h
  simp [rd1_mk h, hK]
theorem Changes_in (h : WtAt s w t x) (hm : 0 < x.m) (hK : K (.int .i64 x.changes) s) : wpCall Try.prog XX 14 [.ptr w 0] K s := by
  refine vc_detect_Watch_Changes_in ?_
  refine valid_in h hm ?_
  obtain ⟨e, L, D, h, _, _⟩ := h
  simp [rd1_mk h, hK]
def Wt.ok (x : Wt) : Prop := 1 ≤ x.m ∧ x.m ≤ 1000 ∧ (∀ n, x.heard = some n → 0 ≤ n ∧ n ≤ 1099511627776)
def Wt.due (x : Wt) : Option Int := if x.up then x.heard.map (· + x.m) else none
def dueV : Option Int → AVal
  | some n => .tup [.int .i64 n, .bool true]
  | none => .tup [.int .i64 0, .bool false]
theorem Due_in (h : WtAt s w t x) (hm : x.ok) (hK : K (dueV x.due) s) : wpCall Try.prog XX 12 [.ptr w 0] K s := by
  refine vc_detect_Watch_Due_in ?_
  refine Up_in h (by have := hm.1; omega) ?_
  obtain ⟨e, L, D, h, hL, hD⟩ := h
  cases hu : x.up with
  | false =>
    simp [vc_detect_Watch_Due_j0]
    simpa [Wt.due, hu, dueV] using hK
  | true =>
    cases hh : x.heard with
    | none =>
      rw [hh] at hD
      obtain rfl : D = .nilptr := hD
      simp [rd1_mk h, vc_detect_Watch_Due_j0]
      simpa [Wt.due, hu, hh, dueV] using hK
    | some n =>
      rw [hh] at hD
      obtain ⟨b, tb, eb, rfl, hb⟩ := hD
      have := hm.2.2 n hh
      simp [rd1_mk h, rd1_mk hb, vc_detect_Watch_Due_j0]
      refine after_in (by have := hm.1; omega) (by have := hm.2.1; omega) this.1 this.2 ?_
      simpa [Wt.due, hu, hh, dueV] using hK
theorem Reset_in (h : WtAt s w false x) (hm : 0 < x.m) (hK : ∀ s', WtAt s' w false ⟨x.m, false, none, none, 0, 0⟩ → KeepBut (· = w) s s' → K (.int .i64 0) s') : wpCall Try.prog XX 13 [.ptr w 0] K s := by
  refine vc_detect_Watch_Reset_in ?_
  refine valid_in h hm ?_
  obtain ⟨e, L, D, h, _, _⟩ := h
  simp [rd1_mk h]
  refine optK_of (a := [.int .i64 x.m, .int .i64 0, .nilptr, .nilptr, .int .i64 0, .int .i64 0]) rfl ?_
  refine optK_of (wrAgg_all h rfl rfl rfl) ?_
  exact hK _ ⟨e, .nilptr, .nilptr, hset_eq, rfl, rfl⟩ (keep_set rfl)
theorem Copy_in (h : WtAt s w t x) (hm : 0 < x.m) (hK : ∀ w' s', Sub s s' → s w' = none → WtAt s' w' false x → K (.ptr w' 0) s') : wpCall Try.prog XX 25 [.ptr w 0] K s := by
  refine vc_detect_Watch_Copy_in ?_
  refine valid_in h hm ?_
  obtain ⟨e, L, D, h, hL, hD⟩ := h
  simp only [unary_not, optK_mk, Bool.not_true, boolK_false, nilCheck_ptr, addOff_ptr, Nat.zero_add]
  refine optK_of (rdN_all h rfl) (new_step fun c s1 hc h1 u1 => wrAgg_step h1 rfl rfl (by simp [hL.one, hD.one]) fun s2 h2 u2 => ?_)
  have sub2 : Sub s s2 := fun i q hi => by have := ne_of_some hc hi; rw [u2 i this, u1 i this]; exact hi
  rw [rd1_mk (sub2 _ _ h)]
  simp only [List.getElem?_cons_succ, List.getElem?_cons_zero, optK_mk]
  refine again_in (hL.sub sub2) fun v3 s3 sub3 hv3 => ?_
  refine wr1_step (sub3 _ _ h2) (by simp) hv3.one fun s4 h4 u4 => ?_
  have sub4 : Sub s s4 := fun i q hi => by have := ne_of_some hc hi; rw [u4 i this]; exact sub3 _ _ (sub2 _ _ hi)
  rw [rd1_mk (sub4 _ _ h)]
  simp only [List.getElem?_cons_succ, List.getElem?_cons_zero, optK_mk, List.set_cons_succ, List.set_cons_zero] at h4 ⊢
  refine again_in (hD.sub sub4) fun v5 s5 sub5 hv5 => ?_
  refine wr1_step (sub5 _ _ h4) (by simp) hv5.one fun s6 h6 u6 => ?_
  have sub6 : Sub s s6 := fun i q hi => by have := ne_of_some hc hi; rw [u6 i this]; exact sub5 _ _ (sub4 _ _ hi)
  simp only [List.set_cons_succ, List.set_cons_zero] at h6
  refine hK c s6 sub6 hc ⟨_, v3, v5, h6, ?_, ?_⟩
  · exact ((hv3.upto (sub3 _ _ h2) (by simp) u4).sub sub5).upto (sub5 _ _ h4) (by simp) u6
  · exact hv5.upto (sub5 _ _ h4) (by simp) u6
/-! ### a tick -/
def tickCh (x : Wt) (now : Int) (heard : Bool) : Bool := match x.up with
  | true => !heard && (match x.heard with | some n => decide (n + x.m ≤ now) | none => false)
  | false => heard && (match x.heard with | some n => n == now - 1 | none => false)
def tickTo (x : Wt) (now : Int) (heard : Bool) : Wt :=
  { m := x.m, up := x.up != tickCh x now heard, last := some now, heard := if heard then some now else x.heard, since := if tickCh x now heard then now else x.since, changes := if tickCh x now heard then x.changes + 1 else x.changes }
def tickErr (x : Wt) (now : Int) : Option Int := if now < 0 ∨ 1099511627776 < now then some 2 else match x.last with
  | some n => if now ≤ n then some 20 else none
  | none => none
theorem rule1_in {now : Int} {heard : Bool} (h : WtAt s w t x) (h0 : 0 ≤ now) (h1 : now ≤ 1099511627776) (hu : x.up = false) (hK : K (.bool (tickCh x now heard)) s) : wpCall Try.prog XX 35 [.ptr w 0, .int .i64 now, .bool heard] K s := by
  refine vc_detect_rules_1_in ?_
  obtain ⟨e, L, D, h, hL, hD⟩ := h
  cases heard with
  | false => simpa [vc_detect_rules_1, vc_detect_rules_1_j0, vc_detect_rules_1_j1, tickCh, hu] using hK
  | true =>
    cases hh : x.heard with
    | none =>
      rw [hh] at hD
      obtain rfl : D = .nilptr := hD
      simpa [vc_detect_rules_1, vc_detect_rules_1_j0, vc_detect_rules_1_j1, tickCh, hu, hh, rd1_mk h] using hK
    | some n =>
      rw [hh] at hD
      obtain ⟨b, tb, eb, rfl, hb⟩ := hD
      have : IntKind.i64.wrap (now - 1) = now - 1 := wrap64 (by omega) (by omega)
      simpa [vc_detect_rules_1, vc_detect_rules_1_j0, vc_detect_rules_1_j1, tickCh, hu, hh, rd1_mk h, rd1_mk hb, this] using hK
theorem rule2_in {now : Int} {heard : Bool} (h : WtAt s w t x) (hx : x.ok) (hu : x.up = true) (hK : K (.bool (tickCh x now heard)) s) : wpCall Try.prog XX 36 [.ptr w 0, .int .i64 now, .bool heard] K s := by
  refine vc_detect_rules_2_in ?_
  obtain ⟨e, L, D, h, hL, hD⟩ := h
  cases heard with
  | true => simpa [vc_detect_rules_2, vc_detect_rules_2_j0, vc_detect_rules_2_j1, tickCh, hu] using hK
  | false =>
    cases hh : x.heard with
    | none =>
      rw [hh] at hD
      obtain rfl : D = .nilptr := hD
      simpa [vc_detect_rules_2, vc_detect_rules_2_j0, vc_detect_rules_2_j1, tickCh, hu, hh, rd1_mk h] using hK
    | some n =>
      rw [hh] at hD
      obtain ⟨b, tb, eb, rfl, hb⟩ := hD
      have := hx.2.2 n hh
      simp [vc_detect_rules_2, vc_detect_rules_2_j0, vc_detect_rules_2_j1, rd1_mk h, rd1_mk hb]
      refine after_in (by have := hx.1; omega) (by have := hx.2.1; omega) this.1 this.2 ?_
      simpa [tickCh, hu, hh] using hK
theorem rules_in (hK : ∀ s', Sub s s' → K (.agg [.fn (.func 35) [] [], .fn (.func 36) [] []]) s') : wpCall Try.prog XX 30 [] K s := by
  refine vc_detect_rules_in ?_
  refine new_step fun c s1 hc h1 u1 => optK_of (a := [.fn (.func 35) [] [], .fn (.func 36) [] []]) rfl ?_
  refine wrAgg_step h1 rfl rfl rfl fun s2 h2 u2 => optK_of (rdN_all h2 rfl) ?_
  exact hK _ fun i q hi => by have := ne_of_some hc hi; rw [u2 i this, u1 i this]; exact hi
end Go.AM
namespace Go.AM
open Go Go.Proofs
variable {K : AVal → Heap → Prop} {s : Heap} {w : Nat} {t : Bool} {x : Wt}
theorem tick_j2 {e c e' : Nat} {t' up ch : Bool} {m since changes now : Int} {L D : AVal} (h : s w = some (false, .cells e [.int .i64 m, .int .i64 (bi up), L, D, .int .i64 since, .int .i64 changes])) (hc : s c = some (t', .cells e' [.int .i64 now]))
    (hb : 0 ≤ changes ∧ changes ≤ 1000000000000) (hK : ∀ s', s' w = some (false, .cells e [.int .i64 m, .int .i64 (bi (up != ch)), L, D, .int .i64 (if ch then now else since), .int .i64 (if ch then changes + 1 else changes)]) → Upto w s s' → K (.tup [.bool ch, .int .i64 0]) s') :
    vc_detect_Watch_Tick_j2 XX (.ptr w 0) (.ptr c 0) (.bool ch) K s := by
  have hcw : c ≠ w := fun q => by rw [q, h] at hc; cases hc
  unfold vc_detect_Watch_Tick_j2
  refine boolK_mk (fun hch => ?_) (fun hch => ?_)
  · subst hch
    simp only [nilCheck_ptr, optK_mk, addOff_ptr, Nat.zero_add, rd1_mk h, List.getElem?_cons_succ, List.getElem?_cons_zero]
    refine other_in (wr1_step h (by simp) rfl fun s1 h1 u1 => ?_)
    have hc1 : s1 c = some (t', .cells e' [.int .i64 now]) := by rw [u1 c hcw]; exact hc
    simp only [rd1_mk hc1, optK_mk, List.getElem?_cons_zero]
    refine wr1_step h1 (by simp) rfl fun s2 h2 u2 => ?_
    simp only [rd1_mk h2, List.set_cons_succ, List.set_cons_zero, List.getElem?_cons_succ, List.getElem?_cons_zero, optK_mk, arith_add] at h2 ⊢
    rw [wrap64 (by omega) (by omega)]
    refine wr1_step h2 (by simp) rfl fun s3 h3 u3 => hK s3 ?_ fun i hi => by rw [u3 i hi, u2 i hi, u1 i hi]
    simpa using h3
  · subst hch
    exact hK s (by simpa using h) fun _ _ => rfl
theorem isFn35 : isFn Try.prog 35 = true := by kernel_rfl
theorem isFn36 : isFn Try.prog 36 = true := by kernel_rfl
theorem tick_j1 {c e' : Nat} {t' : Bool} {now : Int} {heard : Bool} {a b : AVal} (h : WtAt s w false x) (hx : x.ok) (hc : s c = some (t', .cells e' [.int .i64 now])) (hn : 0 ≤ now ∧ now ≤ 1099511627776) (hb : 0 ≤ x.changes ∧ x.changes ≤ 1000000000000)
    (hp : pickV a b (.bool false) = some (.bool false)) (hK : ∀ s', WtAt s' w false (tickTo x now heard) → KeepBut (· = w) s s' → K (.tup [.bool (tickCh x now heard), .int .i64 0]) s') :
    vc_detect_Watch_Tick_j1 XX (.ptr w 0) (.bool heard) (.ptr c 0) a b K s := by
  unfold vc_detect_Watch_Tick_j1
  rw [hp]
  simp only [optK_mk, boolK_false]
  refine rules_in fun s1 sub1 _ => ?_
  obtain ⟨e, L, D, hw, hL, hD⟩ := id h
  have sub2 : Sub s (add s s1) := sub_add
  have hcw : c ≠ w := fun q => by rw [q, hw] at hc; cases hc
  simp only [nilCheck_ptr, optK_mk, addOff_ptr, Nat.zero_add, rd1_mk (cut_keep hw (sub2 _ _ hw)), rd1_mk (cut_keep hc (sub2 _ _ hc)), List.getElem?_cons_succ, List.getElem?_cons_zero]
  have main : ∀ k, (k = 35 ∨ k = 36) → (∀ K' : AVal → Heap → Prop, K' (.bool (tickCh x now heard)) (add s s1) → wpCall Try.prog XX k [.ptr w 0, .int .i64 now, .bool heard] K' (add s s1)) →
      funK Try.prog XX (.fn (.func k) [] []) [.ptr w 0, .int .i64 now, .bool heard] (fun v_20 s_21 => optK (wr1 s_21 (.ptr w 2) (.ptr c 0)) fun s_24 => boolK (.bool heard) (optK (wr1 s_24 (.ptr w 3) (.ptr c 0)) fun s_46 => vc_detect_Watch_Tick_j2 XX (.ptr w 0) (.ptr c 0) v_20 K s_46) (vc_detect_Watch_Tick_j2 XX (.ptr w 0) (.ptr c 0) v_20 K s_24)) (add s s1) := by
    intro k hk hr
    refine fn_in (by rcases hk with rfl | rfl; exact isFn35; exact isFn36) (hr _ ?_)
    have hw2 := sub2 _ _ hw
    refine wr1_step hw2 (by simp) rfl fun s3 h3 u3 => ?_
    simp only [List.set_cons_succ, List.set_cons_zero] at h3
    have hc3 : s3 c = some (t', .cells e' [.int .i64 now]) := by rw [u3 c hcw]; exact sub2 _ _ hc
    have fin : ∀ s4 D', s4 w = some (false, .cells e [.int .i64 x.m, .int .i64 (bi x.up), .ptr c 0, D', .int .i64 x.since, .int .i64 x.changes]) → Upto w (add s s1) s4 → opI s4 D' (if heard then some now else x.heard) → vc_detect_Watch_Tick_j2 XX (.ptr w 0) (.ptr c 0) (.bool (tickCh x now heard)) K s4 := by
      intro s4 D' h4 u4 hD'
      have hc4 : s4 c = some (t', .cells e' [.int .i64 now]) := by rw [u4 c hcw]; exact sub2 _ _ hc
      refine tick_j2 h4 hc4 hb fun s5 h5 u5 => hK s5 ⟨e, .ptr c 0, D', h5, ⟨c, t', e', rfl, by rw [u5 c hcw]; exact hc4⟩, hD'.upto h4 (by simp) u5⟩ fun i q hi hne => ?_
      rw [u5 i hne, u4 i hne]; exact sub2 _ _ hi
    refine boolK_mk (fun hh => ?_) (fun hh => ?_)
    · subst hh
      refine wr1_step h3 (by simp) rfl fun s4 h4 u4 => fin s4 (.ptr c 0) h4 (fun i hi => by rw [u4 i hi, u3 i hi]) ⟨c, t', e', rfl, by rw [u4 c hcw]; exact hc3⟩
    · subst hh
      exact fin s3 D h3 u3 ((hD.sub sub2).upto hw2 (by simp) u3)
  cases hu : x.up with
  | false =>
    refine optK_of (a := .fn (.func 35) [] []) (by rfl) ?_
    exact main 35 (.inl rfl) fun K' hK' => rule1_in (h.sub sub2) hn.1 hn.2 hu hK'
  | true =>
    refine optK_of (a := .fn (.func 36) [] []) (by rfl) ?_
    exact main 36 (.inr rfl) fun K' hK' => rule2_in (h.sub sub2) hx hu hK'
theorem Tick_in {now : Int} {heard : Bool} (h : WtAt s w false x) (hx : x.ok) (hb : 0 ≤ x.changes ∧ x.changes ≤ 1000000000000)
    (hE : ∀ e s', tickErr x now = some e → WtAt s' w false x → KeepBut (· = w) s s' → K (.tup [.bool false, .int .i64 e]) s')
    (hK : ∀ s', tickErr x now = none → WtAt s' w false (tickTo x now heard) → KeepBut (· = w) s s' → K (.tup [.bool (tickCh x now heard), .int .i64 0]) s') :
    wpCall Try.prog XX 11 [.ptr w 0, .int .i64 now, .bool heard] K s := by
  refine vc_detect_Watch_Tick_in ?_
  refine box_step rfl fun c s1 hc h1 u1 => ?_
  have sub1 := u1.sub hc
  have hw1 := h.sub sub1
  have keep1 : KeepBut (· = w) s s1 := sub1.keep
  refine valid_in hw1 (by have := hx.1; omega) ?_
  simp only [unary_not, optK_mk, Bool.not_true, boolK_false, rd1_mk h1, List.getElem?_cons_zero, arith_lss, arith_gtr]
  have j0 : ∀ a b : AVal, pickV a (.bool true) b = some (.bool (decide (now < 0 ∨ 1099511627776 < now))) → vc_detect_Watch_Tick_j0 XX (.ptr w 0) (.bool heard) (.ptr c 0) a b K s1 := by
    intro a b hab
    unfold vc_detect_Watch_Tick_j0
    rw [hab, optK_mk]
    refine boolK_mk (fun hr => ?_) (fun hr => ?_)
    · refine hE 2 s1 ?_ hw1 keep1
      simp only [decide_eq_true_eq] at hr
      simp [tickErr, hr]
    · simp only [decide_eq_false_iff_not] at hr
      obtain ⟨e, L, D, h2, hL, hD⟩ := id hw1
      simp only [nilCheck_ptr, optK_mk, addOff_ptr, Nat.zero_add, rd1_mk h2, List.getElem?_cons_succ, List.getElem?_cons_zero]
      cases hl : x.last with
      | none =>
        rw [hl] at hL
        obtain rfl : L = .nilptr := hL
        simp only [eqV_nilptr, negB_mk, optK_mk, bne_self_eq_false, boolK_false]
        exact tick_j1 hw1 hx h1 (by omega) hb rfl fun s' g1 g2 => hK s' (by simp [tickErr, hr, hl]) g1 (keep1.trans g2)
      | some n =>
        rw [hl] at hL
        obtain ⟨b, tb, eb, rfl, hb'⟩ := hL
        simp only [eqV_ptr, negB_mk, optK_mk, Bool.bne_false, boolK_true, rd1_mk h1, rd1_mk hb', nilCheck_ptr, List.getElem?_cons_zero, arith_leq]
        by_cases hle : now ≤ n
        · simp only [hle, decide_true, vc_detect_Watch_Tick_j1, pickV_true, optK_mk, boolK_true]
          exact hE 20 s1 (by simp [tickErr, hr, hl, hle]) hw1 keep1
        · simp only [hle, decide_false]
          exact tick_j1 hw1 hx h1 (by omega) hb rfl fun s' g1 g2 => hK s' (by simp [tickErr, hr, hl, hle]) g1 (keep1.trans g2)
  refine boolK_mk (fun hr => j0 _ _ ?_) (fun hr => j0 _ _ ?_)
  · simp only [decide_eq_true_eq] at hr; simp [hr]
  · simp only [decide_eq_false_iff_not] at hr; simp [hr]
end Go.AM
namespace Go.AM
open Go Go.Proofs
variable {K : AVal → Heap → Prop} {s : Heap} {w : Nat} {t : Bool} {x : Wt}
/-! ### helpers -/
theorem Pick_in {a n : Int} (hn : 0 < n) (hn2 : n ≤ 1000000) (hK : K (.int .i64 (a % n)) s) : wpCall Try.prog XX 16 [.int .i64 a, .int .i64 n] K s := by
  refine vc_leafmeshkit_Pick_in ?_
  have hne : n ≠ 0 := by omega
  have h1 := Int.emod_nonneg a hne
  have h2 := Int.emod_lt_of_pos a hn
  simp only [vc_leafmeshkit_Pick, arith_rem hne, optK_mk, arith_lss, vc_leafmeshkit_Pick_j0]
  have key : a.tmod n = a % n ∨ (a.tmod n = a % n - n ∧ a % n ≠ 0 ∧ a.tmod n < 0) := by
    rw [Int.tmod_eq_emod]
    split
    · left; omega
    · right
      rename_i h
      have : ¬ n ∣ a := fun hd => h (.inr hd)
      have hz : a % n ≠ 0 := fun e => this (Int.dvd_of_emod_eq_zero e)
      have : (n.natAbs : Int) = n := by omega
      omega
  rcases key with e | ⟨e, hz, hlt⟩
  · have : decide (a.tmod n < 0) = false := by simp; omega
    rw [this]
    simp only [boolK_false]
    rw [e]; exact hK
  · have : decide (a.tmod n < 0) = true := by simpa using hlt
    rw [this]
    simp only [boolK_true, arith_add, optK_mk]
    rw [e, wrap64 (by omega) (by omega)]
    rw [show a % n - n + n = a % n by omega]; exact hK
theorem Own_in {v : AVal} {l : List Bool} (h : Sl s v (l.map .bool)) (hl : l.length ≤ 10000000) (hK : ∀ v' s', Sub s s' → Sl s' v' (l.map .bool) → K v' s') : wpCall Try.prog XX 18 [v] K s := by
  refine vc_leafmeshkit_Own_bool__in ?_
  refine optK_of (a := []) rfl ⟨rfl, new_step fun b s1 hb h1 u1 => ?_⟩
  refine app_copy (h.sub (u1.sub hb)) (by simp; omega) fun v' s2 sub2 g1 g2 => hK _ _ ((u1.sub hb).trans sub2) ?_
  by_cases hm : l.map AVal.bool = []
  · rw [g1 hm, hm]
    exact .inr ⟨b, 0, some 0, rfl, by simp, fun h => absurd rfl h⟩
  · obtain ⟨c, _, rfl, hc⟩ := g2 hm
    exact Sl.mk hc rfl (by simp)
theorem Own_acc {v : AVal} {l : List Bool} (h : Sl s v (l.map .bool)) (hl : l.length ≤ 10000000) (hK : ∀ v' s', Sub s s' → ((l.map AVal.bool = [] ∧ ∃ b, v' = .slc b 0 0 (some 0) 1) ∨ Acc 4 s s' v' (l.map .bool)) → K v' s') : wpCall Try.prog XX 18 [v] K s := by
  refine vc_leafmeshkit_Own_bool__in ?_
  refine optK_of (a := []) rfl ⟨rfl, new_step fun b s1 hb h1 u1 => ?_⟩
  refine app_copy (h.sub (u1.sub hb)) (by simp; omega) fun v' s2 sub2 g1 g2 => hK _ _ ((u1.sub hb).trans sub2) ?_
  by_cases hm : l.map AVal.bool = []
  · exact .inl ⟨hm, b, g1 hm⟩
  · obtain ⟨c, hc0, rfl, hc⟩ := g2 hm
    refine .inr (.inr ⟨c, ?_, rfl, hc⟩)
    cases q : s c with
    | none => rfl
    | some x => rw [u1.sub hb c x q] at hc0; cases hc0
theorem Same_in {v v' : AVal} {l m : List Bool} (h : Sl s v (l.map .bool)) (h' : Sl s v' (m.map .bool)) (hl : l.length ≤ 10000000) (hm : m.length ≤ 10000000) (hK : K (.bool (l == m)) s) : wpCall Try.prog XX 20 [v, v'] K s := by
  refine vc_leafmeshkit_Same_bool__in ?_
  simp only [vc_leafmeshkit_Same_bool_, h.len, h'.len, optK_mk, eqV_int, negB_mk, List.length_map, Bool.true_bne]
  refine boolK_mk (fun hne => ?_) (fun heq => ?_)
  · have : (l == m) = false := by
      cases q : (l == m) with
      | false => rfl
      | true => rw [eq_of_beq q] at hne; simp at hne
    rw [← this]; exact hK
  · have hlm : l.length = m.length := by
      have : (l.length : Int) = m.length := by simpa using heq
      omega
    refine ⟨fun ys s1 n => ∃ k : Nat, ys = [.int .i64 k] ∧ s1 = s ∧ k ≤ l.length ∧ n = l.length - k ∧ l.take k = m.take k, ⟨_, 0, rfl, rfl, by omega, rfl, by simp⟩, ?_⟩
    rintro f s1 n ⟨k, hy, rfl, hk, rfl, he⟩
    simp only [List.cons.injEq, and_true] at hy
    rw [hy]
    simp only [vc_leafmeshkit_Same_bool__l0, h.len, optK_mk, arith_lss, List.length_map]
    refine boolK_mk (fun hlt => ?_) (fun hge => ?_)
    · have hlt : k < l.length := by simpa using hlt
      obtain ⟨p, g1, g2⟩ := h.get (i := k) (by simpa using hlt)
      obtain ⟨p', g3, g4⟩ := h'.get (i := k) (by simpa using hlm ▸ hlt)
      have e1 : (l.map AVal.bool)[k]? = some (.bool l[k]) := by simp [hlt]
      have e2 : (m.map AVal.bool)[k]? = some (.bool (m[k]'(by omega))) := by simp [show k < m.length by omega]
      simp only [g1, g2, g3, g4, e1, e2, optK_mk, eqV_bool, negB_mk]
      refine boolK_mk (fun hne => ?_) (fun hq => ?_)
      · have : (l == m) = false := by
          cases q : (l == m) with
          | false => rfl
          | true => have := eq_of_beq q; subst this; simp at hne
        rw [← this]; exact hK
      · simp only [arith_add, optK_mk]
        rw [wrap64 (by omega) (by omega)]
        refine ⟨l.length - (k + 1), by omega, k + 1, by simp, trivial, by omega, rfl, ?_⟩
        have : l[k] = m[k]'(by omega) := by simpa using hq
        rw [List.take_succ_eq_append_getElem hlt, List.take_succ_eq_append_getElem (by omega), he, this]
    · have : (l == m) = true := by
        have hk' : k = l.length := by have := of_decide_eq_false hge; omega
        subst hk'
        rw [List.take_length, hlm, List.take_length] at he
        rw [he]; simp
      rw [← this]; exact hK
theorem Has_in {v : AVal} {l : List Bool} {b : Bool} (h : Sl s v (l.map .bool)) (hl : l.length ≤ 10000000) (hK : K (.bool (l.contains b)) s) : wpCall Try.prog XX 22 [v, .bool b] K s := by
  refine vc_leafmeshkit_Has_bool__in ?_
  refine ⟨fun ys s1 n => ∃ k : Nat, ys = [.int .i64 k] ∧ s1 = s ∧ k ≤ l.length ∧ n = l.length - k ∧ (l.take k).contains b = false, ⟨_, 0, rfl, rfl, by omega, rfl, by simp⟩, ?_⟩
  rintro f s1 n ⟨k, hy, rfl, hk, rfl, he⟩
  simp only [List.cons.injEq, and_true] at hy
  rw [hy]
  simp only [vc_leafmeshkit_Has_bool__l0, h.len, optK_mk, arith_lss, List.length_map]
  refine boolK_mk (fun hlt => ?_) (fun hge => ?_)
  · have hlt : k < l.length := by simpa using hlt
    obtain ⟨p, g1, g2⟩ := h.get (i := k) (by simpa using hlt)
    have e1 : (l.map AVal.bool)[k]? = some (.bool l[k]) := by simp [hlt]
    simp only [g1, g2, e1, optK_mk, eqV_bool, negB_mk]
    refine boolK_mk (fun hne => ?_) (fun hq => ?_)
    · have : l.contains b = true := by
        have : l[k] = b := by simpa using hne
        rw [List.contains_iff_mem, ← this]; exact List.getElem_mem hlt
      rw [← this]; exact hK
    · simp only [arith_add, optK_mk]
      rw [wrap64 (by omega) (by omega)]
      refine ⟨l.length - (k + 1), by omega, k + 1, by simp, trivial, by omega, rfl, ?_⟩
      have hq : ¬ l[k] = b := by simpa using hq
      rw [List.take_succ_eq_append_getElem hlt]
      simp only [List.contains_eq_mem, List.mem_append, List.mem_singleton, decide_eq_false_iff_not] at he ⊢
      rintro (h | h)
      · exact he h
      · exact hq h.symm
  · have : l.contains b = false := by
      have hk' : k = l.length := by have := of_decide_eq_false hge; omega
      subst hk'
      rwa [List.take_length] at he
    rw [← this]; exact hK
end Go.AM
namespace Go.AM
open Go Go.Proofs
variable {K : AVal → Heap → Prop} {s : Heap} {w : Nat} {t : Bool} {x : Wt}
def runT (x : Wt) (f : Int) : List Bool → Wt
  | [] => x
  | h :: l => runT (tickTo x f h) (f + 1) l
def upsT (x : Wt) (f : Int) : List Bool → List Bool
  | [] => []
  | h :: l => (tickTo x f h).up :: upsT (tickTo x f h) (f + 1) l
theorem runT_snoc : ∀ (l : List Bool) (x : Wt) (f : Int) (h : Bool), runT x f (l ++ [h]) = tickTo (runT x f l) (f + l.length) h
  | [], x, f, h => by simp [runT]
  | a :: l, x, f, h => by
    simp only [List.cons_append, runT, runT_snoc l]
    rw [show f + 1 + (l.length : Int) = f + ((a :: l).length : Int) by simp; omega]
theorem upsT_snoc : ∀ (l : List Bool) (x : Wt) (f : Int) (h : Bool), upsT x f (l ++ [h]) = upsT x f l ++ [(tickTo (runT x f l) (f + l.length) h).up]
  | [], x, f, h => by simp [runT, upsT]
  | a :: l, x, f, h => by
    simp only [List.cons_append, runT, upsT, upsT_snoc l]
    rw [show f + 1 + (l.length : Int) = f + ((a :: l).length : Int) by simp; omega]
theorem upsT_length : ∀ (l : List Bool) (x : Wt) (f : Int), (upsT x f l).length = l.length
  | [], _, _ => rfl
  | _ :: l, _, _ => by simp [upsT, upsT_length l]
/-- a watch that may be ticked at a time -/
structure Fit (x : Wt) (f : Int) : Prop where
  ok : x.ok
  last : ∀ n, x.last = some n → n < f
  changes : 0 ≤ x.changes
theorem Fit.err {f : Int} (h : Fit x f) (h0 : 0 ≤ f) (h1 : f ≤ 1099511627776) : tickErr x f = none := by
  unfold tickErr
  rw [if_neg (by omega)]
  cases hl : x.last with
  | none => rfl
  | some n => have := h.last n hl; simp only; rw [if_neg (by omega)]
theorem Fit.step {f : Int} (h : Fit x f) (h0 : 0 ≤ f) (h1 : f ≤ 1099511627776) (b : Bool) : Fit (tickTo x f b) (f + 1) := by
  refine ⟨⟨h.ok.1, h.ok.2.1, fun n hn => ?_⟩, fun n hn => ?_, ?_⟩
  · simp only [tickTo] at hn
    split at hn
    · cases hn; omega
    · exact h.ok.2.2 n hn
  · simp only [tickTo] at hn; cases hn; omega
  · simp only [tickTo]
    have := h.changes
    split <;> omega
theorem tick_changes (x : Wt) (f : Int) (b : Bool) : x.changes ≤ (tickTo x f b).changes ∧ (tickTo x f b).changes ≤ x.changes + 1 := by
  simp only [tickTo]; split <;> omega
theorem Fit.run : ∀ (l : List Bool) {x : Wt} {f : Int}, Fit x f → 0 ≤ f → f + l.length ≤ 1099511627776 → Fit (runT x f l) (f + l.length) ∧ (runT x f l).changes ≤ x.changes + l.length
  | [], x, f, h, h0, h1 => by simpa [runT] using h
  | b :: l, x, f, h, h0, h1 => by
    simp only [List.length_cons, Int.natCast_add, Int.cast_ofNat_Int] at h1
    obtain ⟨q1, q2⟩ := Fit.run l (h.step h0 (by omega) b) (by omega) (by omega)
    have := tick_changes x f b
    simp only [runT, List.length_cons, Int.natCast_add, Int.cast_ofNat_Int]
    rw [show f + ((l.length : Int) + 1) = f + 1 + l.length by omega]
    exact ⟨q1, by omega⟩
theorem WtAt.app {s0 s2 s' : Heap} {v : AVal} {l : List Bool} (h : WtAt s2 w t x) (ha : Acc 4 s0 s2 v (l.map .bool)) (hw : s0 w ≠ none) (hk : ∀ i e, s2 i = some e → (∀ b, v = .slc b 0 (l.map AVal.bool).length none 1 → i ≠ b) → s' i = some e) : WtAt s' w t x := by
  have key : ∀ b tb e n, s2 b = some (tb, .cells e [.int .i64 n]) → s' b = some (tb, .cells e [.int .i64 n]) := by
    intro b tb e n hb
    refine hk b _ hb fun c hc q => ?_
    subst q
    rcases ha with ⟨rfl, _⟩ | ⟨d, _, rfl, hd⟩
    · cases hc
    · cases hc
      rw [hb] at hd
      cases l with
      | nil => cases hd
      | cons a r => cases hd
  obtain ⟨e, L, D, h1, h2, h3⟩ := h
  refine ⟨e, L, D, hk w _ h1 fun c hc q => ?_, ?_, ?_⟩
  · subst q
    rcases ha with ⟨rfl, _⟩ | ⟨d, hd0, rfl, hd⟩
    · cases hc
    · cases hc; exact hw hd0
  · cases hl : x.last with
    | none => rw [hl] at h2; exact h2
    | some n => rw [hl] at h2; obtain ⟨b, tb, eb, rfl, hb⟩ := h2; exact ⟨b, tb, eb, rfl, key b tb eb n hb⟩
  · cases hl : x.heard with
    | none => rw [hl] at h3; exact h3
    | some n => rw [hl] at h3; obtain ⟨b, tb, eb, rfl, hb⟩ := h3; exact ⟨b, tb, eb, rfl, key b tb eb n hb⟩
theorem ticks_in {hv : AVal} {hs : List Bool} {f : Int} (h : WtAt s w false x) (hf : Fit x f) (h0 : 0 ≤ f) (hl : hs.length ≤ 100000) (hc : x.changes ≤ 100000000) (h1 : f ≤ 1000000000) (hh : Sl s hv (hs.map .bool)) (hhw : hs ≠ [] → ∀ b o n c, hv = .slc b o n c 1 → b ≠ w)
    (hK : ∀ s' out, WtAt s' w false (runT x f hs) → KeepBut (· = w) s s' → Acc 4 s s' out ((upsT x f hs).map .bool) → K (.tup [out, .bool true]) s') : wpCall Try.prog XX 17 [.ptr w 0, .int .i64 f, hv] K s := by
  refine vc_leafmeshlaw12_ticks_in ?_
  have hw0 : s w ≠ none := by obtain ⟨e, L, D, q, _⟩ := h; rw [q]; simp
  refine ⟨fun ys s1 n => ∃ (k : Nat) (out : AVal), ys = [out, .int .i64 k] ∧ k ≤ hs.length ∧ n = hs.length - k ∧ WtAt s1 w false (runT x f (hs.take k)) ∧ KeepBut (· = w) s s1 ∧ Acc 4 s s1 out ((upsT x f (hs.take k)).map .bool), ⟨_, 0, .nilslc, rfl, by omega, rfl, h, .refl _ _, .inl ⟨rfl, rfl⟩⟩, ?_⟩
  rintro fe s1 n ⟨k, out, hy, hk, rfl, hw1, keep1, acc1⟩
  simp only [List.cons.injEq, and_true] at hy
  rw [hy.1, hy.2]
  have hsl1 := hh.keep keep1 fun b o n c e hne q => hhw (by simpa using hne) b o n c e q
  simp only [vc_leafmeshlaw12_ticks_l0, hh.len, optK_mk, arith_lss, List.length_map]
  refine boolK_mk (fun hlt => ?_) (fun hge => ?_)
  · have hlt : k < hs.length := by simpa using hlt
    have htk : (hs.take k).length = k := by simp; omega
    obtain ⟨fk, ck⟩ := hf.run (hs.take k) h0 (by rw [htk]; omega)
    rw [htk] at fk ck
    have hm1 : 0 < (runT x f (hs.take k)).m := by have := fk.ok.1; omega
    refine Up_in hw1 hm1 ?_
    simp only [arith_add, optK_mk]
    rw [wrap64 (by omega) (by omega)]
    obtain ⟨p, g1, g2⟩ := hsl1.get (i := k) (by simpa using hlt)
    have e1 : (hs.map AVal.bool)[k]? = some (.bool hs[k]) := by simp [hlt]
    simp only [g1, g2, e1, optK_mk]
    refine Tick_in hw1 fk.ok ⟨fk.changes, by omega⟩ (fun e s2 he _ _ => ?_) fun s2 _ hw2 keep2 => ?_
    · rw [fk.err (by omega) (by omega)] at he; cases he
    · have fk2 := fk.step (by omega) (by omega) hs[k]
      have hm2 : 0 < (tickTo (runT x f (hs.take k)) (f + k) hs[k]).m := by have := fk2.ok.1; omega
      have hup : (tickTo (runT x f (hs.take k)) (f + ↑k) hs[k]).up = ((runT x f (hs.take k)).up != tickCh (runT x f (hs.take k)) (f + ↑k) hs[k]) := rfl
      simp only [extract_mk, List.getElem?_cons_zero, List.getElem?_cons_succ, optK_mk, eqV_int, negB_mk, beq_self_eq_true, Bool.bne_true, Bool.not_true, boolK_false]
      refine Up_in hw2 hm2 ?_
      simp only [eqV_bool, negB_mk, optK_mk]
      have z : (true != (tickCh (runT x f (List.take k hs)) (f + ↑k) hs[k] == (true != ((tickTo (runT x f (List.take k hs)) (f + ↑k) hs[k]).up == (runT x f (List.take k hs)).up)))) = false := by
        rw [hup]
        cases (runT x f (hs.take k)).up <;> cases tickCh (runT x f (hs.take k)) (f + ↑k) hs[k] <;> rfl
      rw [z]
      simp only [vc_leafmeshlaw12_ticks_j1, pickV_false, optK_mk, boolK_false]
      refine Up_in hw2 hm2 ?_
      have acc2 : Acc 4 s s2 out ((upsT x f (hs.take k)).map .bool) := by
        rcases acc1 with a | ⟨b, hb0, rfl, hb⟩
        · exact .inl a
        · exact .inr ⟨b, hb0, rfl, keep2 b _ hb fun q => hw0 (q ▸ hb0)⟩
      have keep12 := keep1.trans keep2
      refine lit1_step rfl rfl fun b s3 hb h3 u3 => ?_
      have sub3 := u3.sub hb
      have acc3 : Acc 4 s s3 out ((upsT x f (hs.take k)).map .bool) := by
        rcases acc2 with a | ⟨b, hb0, rfl, hb⟩
        · exact .inl a
        · exact .inr ⟨b, hb0, rfl, sub3 _ _ hb⟩
      refine acc3.app (Sl.mk h3 rfl (by simp)) (by simp) (by simp [upsT_length]; omega) (fun i hi => ?_) fun out' s4 acc4 keep4 => ?_
      · by_cases e : i = w
        · subst e
          obtain ⟨e, L, D, q, _⟩ := hw2
          rw [sub3 _ _ q]; simp
        · cases q : s i with
          | none => exact absurd q hi
          | some v => rw [sub3 _ _ (keep12 i v q e)]; simp
      · simp only [arith_add, optK_mk]
        rw [wrap64 (by omega) (by omega)]
        have htake : hs.take (k + 1) = hs.take k ++ [hs[k]] := by rw [List.take_succ_eq_append_getElem hlt]
        refine ⟨hs.length - (k + 1), by omega, k + 1, out', by simp, by omega, rfl, ?_, fun i e hi hne => keep4 i e (sub3 _ _ (keep12 i e hi hne)) fun b hb q => ?_, ?_⟩
        · rw [htake, runT_snoc, htk]
          exact (hw2.sub sub3).app acc3 hw0 keep4
        · subst q
          rcases acc3 with ⟨rfl, _⟩ | ⟨d, hd0, rfl, _⟩
          · cases hb
          · cases hb; rw [hd0] at hi; cases hi
        · rw [htake, upsT_snoc, htk, List.map_append]
          exact acc4
  · have hk' : k = hs.length := by have := of_decide_eq_false hge; omega
    subst hk'
    rw [List.take_length] at hw1 acc1
    exact hK s1 out hw1 keep1 acc1
end Go.AM
namespace Go.AM
open Go Go.Proofs
variable {K : AVal → Heap → Prop} {s : Heap} {w : Nat} {t : Bool} {x : Wt}
theorem known3 (hK : K (.bool true) s) : wpCall Try.prog XX 3 [] K s := wp_closed rfl hK
theorem known15 (hK : K (.bool true) s) : wpCall Try.prog XX 15 [] K s := wp_closed rfl hK
def start (m : Int) : Wt := ⟨m, false, none, none, 0, 0⟩
theorem fit_start {m : Int} (h1 : 1 ≤ m) (h2 : m ≤ 1000) (f : Int) : Fit (start m) f := ⟨⟨h1, h2, by simp [start]⟩, by simp [start], by simp [start]⟩
theorem silent_run : ∀ (k : Nat) {x : Wt} {f h : Int}, x.up = true → x.heard = some h → f + k ≤ h + x.m → (runT x f (List.replicate k false)).up = true ∧ (runT x f (List.replicate k false)).heard = some h ∧ (runT x f (List.replicate k false)).changes = x.changes ∧ (runT x f (List.replicate k false)).since = x.since ∧ (runT x f (List.replicate k false)).m = x.m ∧ upsT x f (List.replicate k false) = List.replicate k true
  | 0, x, f, h, h1, h2, _ => ⟨h1, h2, rfl, rfl, rfl, rfl⟩
  | k + 1, x, f, h, h1, h2, h3 => by
    have hch : tickCh x f false = false := by simp [tickCh, h1, h2]; omega
    have h4 : (tickTo x f false).up = true := by simp [tickTo, hch, h1]
    have h5 : (tickTo x f false).heard = some h := by simp [tickTo, h2]
    obtain ⟨q1, q2, q3, q4, q5, q6⟩ := silent_run k (x := tickTo x f false) (f := f + 1) h4 h5 (by simp only [tickTo]; omega)
    simp only [List.replicate_succ, runT, upsT]
    refine ⟨q1, q2, ?_, ?_, ?_, by rw [h4, q6]⟩
    · rw [q3]; simp [tickTo, hch]
    · rw [q4]; simp [tickTo, hch]
    · rw [q5]; rfl
theorem runT_append : ∀ (a b : List Bool) (x : Wt) (f : Int), runT x f (a ++ b) = runT (runT x f a) (f + a.length) b
  | [], b, x, f => by simp [runT]
  | h :: a, b, x, f => by
    simp only [List.cons_append, runT, runT_append a b]
    rw [show f + 1 + (a.length : Int) = f + ((h :: a).length : Int) by simp; omega]
theorem upsT_append : ∀ (a b : List Bool) (x : Wt) (f : Int), upsT x f (a ++ b) = upsT x f a ++ upsT (runT x f a) (f + a.length) b
  | [], b, x, f => by simp [runT, upsT]
  | h :: a, b, x, f => by
    simp only [List.cons_append, runT, upsT, upsT_append a b]
    rw [show f + 1 + (a.length : Int) = f + ((h :: a).length : Int) by simp; omega]
theorem gap_run {x : Wt} {f : Int} (k : Nat) (h1 : x.up = true) (h2 : x.heard = some (f - 1)) (hk : k < x.m) :
    (runT x f (List.replicate k false ++ [true])).up = true ∧ (runT x f (List.replicate k false ++ [true])).heard = some (f + k) ∧ (runT x f (List.replicate k false ++ [true])).changes = x.changes ∧ (runT x f (List.replicate k false ++ [true])).since = x.since ∧ (runT x f (List.replicate k false ++ [true])).m = x.m ∧
      (upsT x f (List.replicate k false ++ [true])).contains false = false := by
  obtain ⟨q1, q2, q3, q4, q5, q6⟩ := silent_run k (x := x) (f := f) h1 h2 (by omega)
  rw [runT_snoc, upsT_snoc, q6]
  simp only [List.length_replicate]
  have hch : tickCh (runT x f (List.replicate k false)) (f + k) true = false := by simp [tickCh, q1]
  refine ⟨by simp [tickTo, hch, q1], by simp [tickTo], by simp [tickTo, hch, q3], by simp [tickTo, hch, q4], by simp [tickTo, q5], ?_⟩
  have : (tickTo (runT x f (List.replicate k false)) (f + k) true).up = true := by simp [tickTo, hch, q1]
  rw [this]
  simp
theorem bool2 {b c : Bool} {P Q : Prop} (h : b = c) (hp : c = true → P) (hq : c = false → Q) : boolK (.bool b) P Q := by subst h; exact boolK_mk hp hq
theorem Stays_in {m : Int} {gv : AVal} {gs : List Int} (hg : Sl s gv (gs.map (.int .i64))) : wpCall Try.prog XX 6 [.int .i64 m, gv] (fun v _ => v = .bool true) s := by
  refine vc_leafmeshlaw12_DetectStays_in ?_
  refine known3 ?_
  simp only [hg.len, optK_mk, arith_gtr, List.length_map]
  refine boolK_mk (fun _ => trivial) (fun hlen => ?_)
  have hlen : gs.length ≤ 60 := by have := of_decide_eq_false hlen; omega
  refine Pick_in (by omega) (by omega) ?_
  have p1 := Int.emod_nonneg m (show (20 : Int) ≠ 0 by omega)
  have p2 := Int.emod_lt_of_pos m (show (0 : Int) < 20 by omega)
  simp only [arith_add, optK_mk]
  rw [wrap64 (by omega) (by omega)]
  generalize hM : 1 + m % 20 = M at *
  refine New_in (fun w s1 sub1 hw0 hw1 _ _ => ?_) (fun h => absurd ⟨by omega, by omega⟩ h)
  simp only [extract_mk, List.getElem?_cons_zero, List.getElem?_cons_succ, optK_mk, eqV_int, negB_mk, beq_self_eq_true, Bool.bne_true, Bool.not_true, boolK_false, eqV_ptr, Bool.bne_false]
  simp only [vc_leafmeshlaw12_DetectStays_j0, pickV_false, optK_mk, boolK_false]
  refine optK_of (a := [.bool true, .bool true]) rfl ⟨rfl, new_step fun b s2 hb h2 u2 => ?_⟩
  have hbw : b ≠ w := fun q => by subst q; obtain ⟨e, L, D, q, _⟩ := hw1; rw [hb] at q; cases q
  refine ticks_in (hs := [true, true]) (hw1.sub (u2.sub hb)) (fit_start (by omega) (by omega) 0) (by omega) (by simp) (by simp) (by omega) (Sl.mk h2 rfl (by simp)) (fun _ b' o n c e => by cases e; exact hbw) fun s3 out hw3 keep3 acc3 => ?_
  simp only [extract_mk, List.getElem?_cons_zero, List.getElem?_cons_succ, optK_mk]
  have hsub : ∀ i e, s i = some e → s3 i = some e := fun i e hi => keep3 i e ((u2.sub hb) i e (sub1 i e hi)) (ne_of_some hw0 hi)
  refine ⟨fun ys s4 n => ∃ (k : Nat) (now : Int) (y : Wt), ys = [.bool true, .int .i64 now, .int .i64 k] ∧ k ≤ gs.length ∧ n = gs.length - k ∧ WtAt s4 w false y ∧ Sub s s4 ∧ Fit y now ∧ 2 ≤ now ∧ now ≤ 2 + 20 * k ∧ y.up = true ∧ y.heard = some (now - 1) ∧ y.changes = 1 ∧ y.since = 1 ∧ y.m = M,
    ⟨_, 0, 2, _, rfl, by omega, rfl, hw3, hsub, ((fit_start (by omega) (by omega) 0).run [true, true] (by omega) (by simp)).1, by omega, by omega, rfl, rfl, rfl, rfl, rfl⟩, ?_⟩
  rintro fe s4 n ⟨k, now, y, hy, hk, rfl, hw4, sub4, fit4, n1, n2, u4, d4, c4, e4, m4⟩
  simp only [List.cons.injEq, and_true] at hy
  rw [hy.1, hy.2.1, hy.2.2]
  have hg4 := hg.sub sub4
  simp only [vc_leafmeshlaw12_DetectStays_l1, hg.len, optK_mk, arith_lss, List.length_map]
  refine boolK_mk (fun hlt => ?_) (fun hge => ?_)
  · have hlt' : k < gs.length := by simpa using hlt
    simp only [vc_leafmeshlaw12_DetectStays_j2, hlt, pickV_true, optK_mk, boolK_true]
    obtain ⟨p, g1, g2⟩ := hg4.get (i := k) (by simpa using hlt')
    have e1 : (gs.map (AVal.int .i64))[k]? = some (.int .i64 gs[k]) := by simp [hlt']
    simp only [g1, g2, e1, optK_mk]
    refine Pick_in (by omega) (by omega) ?_
    have q1 := Int.emod_nonneg gs[k] (show M ≠ 0 by omega)
    have q2 := Int.emod_lt_of_pos gs[k] (show 0 < M by omega)
    obtain ⟨j, hj⟩ : ∃ j : Nat, gs[k] % M = j := ⟨(gs[k] % M).toNat, by omega⟩
    rw [hj] at q1 q2 ⊢
    simp only [nat?_mk, optK_mk]
    refine ⟨⟨Nat.le_refl _, by omega⟩, new_step fun b1 s5 hb1 h5 u5 => ?_⟩
    rw [repl_one] at h5
    refine lit1_step rfl rfl fun b2 s6 hb2 h6 u6 => ?_
    have sub5 := u5.sub hb1
    have sub6 := sub5.trans (u6.sub hb2)
    have hx : Sl s6 (.slc b1 0 (List.replicate j (AVal.bool false)).length (some j) 1) (List.replicate j (.bool false)) := Sl.mk (u6.sub hb2 _ _ h5) rfl (by simp)
    rw [List.length_replicate] at hx
    have happ : appK 4 1 (.slc b1 0 (List.replicate j (AVal.bool false)).length (some j) 1) (.slc b2 0 1 (some 1) 1) (fun v_36 s_37 =>
        wpCall Try.prog XX 17 [.ptr w 0, .int .i64 now, v_36] (fun v_38 s_39 =>
        optK (extractA v_38 0) fun v_40 =>
        optK (extractA v_38 1) fun v_41 =>
        boolK v_41
         (wpCall Try.prog XX 22 [v_40, (.bool false)] (fun v_46 s_47 =>
          optK (unaryA .not v_46) fun v_48 =>
          vc_leafmeshlaw12_DetectStays_j3 XX (.int .i64 now) (.int .i64 k) (.int .i64 j) v_41 v_48 (fun ys s4 n => ∃ (k : Nat) (now : Int) (y : Wt), ys = [.bool true, .int .i64 now, .int .i64 k] ∧ k ≤ gs.length ∧ n = gs.length - k ∧ WtAt s4 w false y ∧ Sub s s4 ∧ Fit y now ∧ 2 ≤ now ∧ now ≤ 2 + 20 * k ∧ y.up = true ∧ y.heard = some (now - 1) ∧ y.changes = 1 ∧ y.since = 1 ∧ y.m = M) (gs.length - k) (fun v _ => v = .bool true) s_47) s_39)
         (vc_leafmeshlaw12_DetectStays_j3 XX (.int .i64 now) (.int .i64 k) (.int .i64 j) v_41 .undef (fun ys s4 n => ∃ (k : Nat) (now : Int) (y : Wt), ys = [.bool true, .int .i64 now, .int .i64 k] ∧ k ≤ gs.length ∧ n = gs.length - k ∧ WtAt s4 w false y ∧ Sub s s4 ∧ Fit y now ∧ 2 ≤ now ∧ now ≤ 2 + 20 * k ∧ y.up = true ∧ y.heard = some (now - 1) ∧ y.changes = 1 ∧ y.since = 1 ∧ y.m = M) (gs.length - k) (fun v _ => v = .bool true) s_39)) s_37) s6 := by
      refine app_full (m := [.bool true]) (by rw [List.length_replicate]; exact hx) (Sl.mk h6 rfl (by simp)) (by simp) (by simp) (by simp; omega) fun d s7 hd h7 u7 => ?_
      have sub7 := sub6.trans (u7.sub hd)
      have hdw : d ≠ w := fun q => by
        subst q
        obtain ⟨e, L, D, q, _⟩ := hw4
        rw [sub6 _ _ q] at hd; cases hd
      have hl7 : Sl s7 (.slc d 0 ((List.replicate j (AVal.bool false)).length + [AVal.bool true].length) none 1) ((List.replicate j false ++ [true]).map .bool) := by
        refine Sl.mk (by simpa using h7) (by simp) (by simp)
      refine ticks_in (hw4.sub sub7) fit4 (by omega) (by simp; omega) (by omega) (by omega) hl7 (fun _ b o n c e => by cases e; exact hdw) fun s8 out hw8 keep8 acc8 => ?_
      simp only [extract_mk, List.getElem?_cons_zero, List.getElem?_cons_succ, optK_mk, boolK_true]
      obtain ⟨r1, r2, r3, r4, r5, r6⟩ := gap_run (x := y) (f := now) j u4 d4 (by omega)
      refine Has_in acc8.sl (by rw [upsT_length]; simp; omega) ?_
      rw [r6]
      simp only [unary_not, optK_mk, Bool.not_false, vc_leafmeshlaw12_DetectStays_j3, pickV_true, arith_add]
      rw [wrap64 (n := now + j) (by omega) (by omega), wrap64 (n := now + j + 1) (by omega) (by omega), wrap64 (n := (k : Int) + 1) (by omega) (by omega)]
      refine ⟨gs.length - (k + 1), by omega, k + 1, now + j + 1, _, by simp, by omega, rfl, hw8, fun i e hi => keep8 i e (sub7 i e (sub4 i e hi)) (ne_of_some hw0 hi), ?_, by omega, by omega, r1, ?_, by rw [r3, c4], by rw [r4, e4], by rw [r5, m4]⟩
      · have := (fit4.run (List.replicate j false ++ [true]) (by omega) (by simp; omega)).1
        simp at this
        rwa [show now + (j : Int) + 1 = now + ((j : Int) + 1) by omega]
      · rw [r2]; congr 1; omega
    rw [List.length_replicate] at happ
    exact happ
  · simp only [vc_leafmeshlaw12_DetectStays_j2, hge, pickV_false, optK_mk, boolK_false, boolK_true, vc_leafmeshlaw12_DetectStays_j4, pickV_true]
    have hm4 : 0 < y.m := by omega
    refine Up_in hw4 hm4 ?_
    rw [u4]
    simp only [vc_leafmeshlaw12_DetectStays_j5, pickV_true, optK_mk, boolK_true]
    refine Changes_in hw4 hm4 ?_
    rw [c4]
    simp only [eqV_int, negB_mk, beq_self_eq_true, Bool.bne_true, Bool.not_false, optK_mk, vc_leafmeshlaw12_DetectStays_j6, pickV_true, boolK_true]
    refine Since_in hw4 hm4 ?_
    rw [e4]
    simp [vc_leafmeshlaw12_DetectStays_j7]
theorem Stays_wp (s : Heap) (xs : List AVal) (h : ArgL Try.prog s 40 [3, 41] xs) : wpCall Try.prog XX 6 xs (fun v _ => v = .bool true) s := by
  obtain ⟨a, b, rfl, h1, h2⟩ := argl2 h
  obtain ⟨m, rfl, _⟩ := arg_int (d := 39) Try.underlying3 h1
  obtain ⟨gs, hg, _, _⟩ := arg_slice (d := 39) Try.underlying41 (by kernel_rfl) (AVal.int .i64) (fun _ => True) (fun xs h => by obtain ⟨n, e, _⟩ := inp_int (d := 38) Try.underlying3 h; exact ⟨n, e, trivial⟩) h2
  exact Stays_in hg
end Go.AM
namespace Go.AM
open Go Go.Proofs
variable {K : AVal → Heap → Prop} {s : Heap} {w : Nat} {t : Bool} {x : Wt}
theorem upsT_get : ∀ (l : List Bool) (x : Wt) (f : Int) (i : Nat), i < l.length → (upsT x f l)[i]? = some (runT x f (l.take (i + 1))).up
  | [], _, _, _, h => by simp at h
  | a :: l, x, f, 0, _ => by simp [upsT, runT]
  | a :: l, x, f, i + 1, h => by
    simp only [upsT, List.getElem?_cons_succ, List.take_succ_cons, runT]
    exact upsT_get l _ _ i (by simpa using h)
/-- want, silent, was something heard last -/
structure Ws where
  want : Bool
  silent : Int
  prev : Bool
def wStep (m : Int) (a : Ws) (h : Bool) : Ws :=
  ⟨if a.prev && h then true else if m ≤ (if h then 0 else a.silent + 1) then false else a.want, if h then 0 else a.silent + 1, h⟩
def wRun (m : Int) (l : List Bool) : Ws := l.foldl (wStep m) ⟨false, 0, false⟩
theorem wRun_snoc (m : Int) (l : List Bool) (h : Bool) : wRun m (l ++ [h]) = wStep m (wRun m l) h := by simp [wRun]
theorem wRun_prev (m : Int) (hs : List Bool) (k : Nat) (hk : k < hs.length) : (wRun m (hs.take (k + 1))).prev = hs[k] := by
  rw [List.take_succ_eq_append_getElem hk, wRun_snoc]; rfl
structure Agree (m f : Int) (n : Nat) (x : Wt) (a : Ws) : Prop where
  up : x.up = a.want
  m : x.m = m
  silent : 0 ≤ a.silent ∧ a.silent ≤ n
  heard : (x.heard = none ∧ a.prev = false ∧ a.want = false) ∨ (x.heard = some (f + n - 1 - a.silent) ∧ a.prev = (a.silent == 0))
theorem agree_run {m f : Int} (h1 : 1 ≤ m) : ∀ (k : Nat) (hs : List Bool), k ≤ hs.length → Agree m f k (runT (start m) f (hs.take k)) (wRun m (hs.take k))
  | 0, hs, _ => ⟨rfl, rfl, by simp [wRun], .inl ⟨rfl, rfl, rfl⟩⟩
  | k + 1, hs, hk => by
    obtain ⟨a1, a2, a3, a4⟩ := agree_run h1 k hs (by omega)
    have htk : (hs.take k).length = k := by simp; omega
    rw [List.take_succ_eq_append_getElem (by omega), runT_snoc, wRun_snoc, htk]
    generalize runT (start m) f (hs.take k) = y at *
    generalize wRun m (hs.take k) = a at *
    generalize hs[k] = h
    obtain ⟨want, silent, prev⟩ := a
    obtain ⟨ym, yup, ylast, yheard, ysince, ych⟩ := y
    simp only at a1 a2 a3 a4
    subst a1; subst a2
    rcases a4 with ⟨rfl, rfl, rfl⟩ | ⟨rfl, hp⟩
    · cases h with
      | false => exact ⟨by simp [tickTo, tickCh, wStep], rfl, by simp [wStep]; omega, .inl ⟨rfl, rfl, by simp [wStep]⟩⟩
      | true => exact ⟨by simp [tickTo, tickCh, wStep], rfl, by simp [wStep]; omega, .inr ⟨by simp [tickTo, wStep]; omega, by simp [wStep]⟩⟩
    · subst hp
      cases h with
      | false =>
        refine ⟨?_, rfl, by simp [wStep]; omega, .inr ⟨by simp [tickTo, wStep]; omega, by simp [wStep]; omega⟩⟩
        cases yup with
        | false => simp [tickTo, tickCh, wStep]
        | true =>
          by_cases hq : ym ≤ silent + 1
          · have : f + (k : Int) - 1 - silent + ym ≤ f + k := by omega
            simp [tickTo, tickCh, wStep, hq, this]
          · have : ¬ f + (k : Int) - 1 - silent + ym ≤ f + k := by omega
            simp [tickTo, tickCh, wStep, hq, this]
      | true =>
        refine ⟨?_, rfl, by simp [wStep]; omega, .inr ⟨by simp [tickTo, wStep]; omega, by simp [wStep]⟩⟩
        have hm : ¬ ym ≤ 0 := by omega
        cases yup with
        | true => simp [tickTo, tickCh, wStep, hm]
        | false =>
          by_cases hq : silent = 0
          · subst hq; simp [tickTo, tickCh, wStep]
          · have : ¬ f + (k : Int) - 1 - silent = f + k - 1 := by omega
            simp [tickTo, tickCh, wStep, hm, hq, this]
theorem Runs_in {m f : Int} {hv : AVal} {hs : List Bool} (hh : Sl s hv (hs.map .bool)) : wpCall Try.prog XX 4 [.int .i64 m, hv, .int .i64 f] (fun v _ => v = .bool true) s := by
  refine vc_leafmeshlaw12_DetectRuns_in ?_
  refine known3 ?_
  simp only [hh.len, optK_mk, arith_gtr, List.length_map]
  refine boolK_mk (fun _ => trivial) (fun hlen => ?_)
  have hlen : hs.length ≤ 200 := by have := of_decide_eq_false hlen; omega
  refine Pick_in (by omega) (by omega) ?_
  have p1 := Int.emod_nonneg m (show (8 : Int) ≠ 0 by omega)
  have p2 := Int.emod_lt_of_pos m (show (0 : Int) < 8 by omega)
  simp only [arith_add, optK_mk]
  rw [wrap64 (by omega) (by omega)]
  generalize hM : 1 + m % 8 = M at *
  refine Pick_in (by omega) (by omega) ?_
  have p3 := Int.emod_nonneg f (show (1000 : Int) ≠ 0 by omega)
  have p4 := Int.emod_lt_of_pos f (show (0 : Int) < 1000 by omega)
  generalize hF : f % 1000 = F at *
  refine New_in (fun w s1 sub1 hw0 hw1 _ _ => ?_) (fun h => absurd ⟨by omega, by omega⟩ h)
  simp only [extract_mk, List.getElem?_cons_zero, List.getElem?_cons_succ, optK_mk, eqV_int, negB_mk, beq_self_eq_true, Bool.bne_true, Bool.not_true, boolK_false, eqV_ptr, Bool.bne_false]
  simp only [vc_leafmeshlaw12_DetectRuns_j0, pickV_false, optK_mk, boolK_false]
  refine ticks_in (hs := hs) hw1 (fit_start (by omega) (by omega) F) (by omega) (by omega) (by simp) (by omega) (hh.sub sub1) (fun hne b o n c e => ?_) fun s3 out hw3 keep3 acc3 => ?_
  · rintro rfl
    rcases hh with ⟨rfl, _⟩ | ⟨b', o', c', rfl, _, hb⟩
    · cases e
    · cases e
      obtain ⟨_, _, _, q, _⟩ := hb (by simpa using hne)
      rw [hw0] at q; cases q
  have hh3 : Sl s3 hv (hs.map .bool) := hh.sub fun i e hi => keep3 i e (sub1 i e hi) (ne_of_some hw0 hi)
  simp only [extract_mk, List.getElem?_cons_zero, List.getElem?_cons_succ, optK_mk, unary_not, Bool.not_true, boolK_false]
  have hout := acc3.sl
  refine ⟨fun ys s4 n => ∃ k : Nat, ys = [.int .i64 k] ∧ s3 = s4 ∧ k ≤ hs.length ∧ n = hs.length - k, ⟨_, 0, rfl, rfl, by omega, rfl⟩, ?_⟩
  rintro fe s4 n ⟨i, hy, rfl, hi, rfl⟩
  simp only [List.cons.injEq, and_true] at hy
  rw [hy]
  simp only [vc_leafmeshlaw12_DetectRuns_l1, hh.len, optK_mk, arith_lss, List.length_map]
  refine boolK_mk (fun hlt => ?_) (fun hge => trivial)
  have hlt : i < hs.length := by simpa using hlt
  refine ⟨fun ys s5 n => ∃ k : Nat, ys = [.bool (wRun M (hs.take k)).want, .int .i64 (wRun M (hs.take k)).silent, .int .i64 k] ∧ s3 = s5 ∧ k ≤ i + 1 ∧ n = i + 1 - k, ⟨_, 0, rfl, rfl, by omega, rfl⟩, ?_⟩
  rintro fe2 s5 n ⟨k, hy2, rfl, hk, rfl⟩
  simp only [List.cons.injEq, and_true] at hy2
  rw [hy2.1, hy2.2.1, hy2.2.2]
  simp only [vc_leafmeshlaw12_DetectRuns_l2, arith_leq, optK_mk]
  obtain ⟨g1, g2, g3, g4⟩ := agree_run (f := F) (by omega : 1 ≤ M) k hs (by omega)
  refine boolK_mk (fun hki => ?_) (fun hki => ?_)
  · have hki : k ≤ i := by simpa using hki
    have hkl : k < hs.length := by omega
    obtain ⟨p, q1, q2⟩ := hh3.get (i := k) (by simpa using hkl)
    have e1 : (hs.map AVal.bool)[k]? = some (.bool hs[k]) := by simp [hkl]
    have hsn : wRun M (hs.take (k + 1)) = wStep M (wRun M (hs.take k)) hs[k] := by rw [List.take_succ_eq_append_getElem hkl, wRun_snoc]
    have hfin : ∀ (want' : Bool) (silent' : Int), want' = (wStep M (wRun M (hs.take k)) hs[k]).want → silent' = (wStep M (wRun M (hs.take k)) hs[k]).silent →
        vc_leafmeshlaw12_DetectRuns_j7 XX (.bool want') (.int .i64 silent') (.int .i64 k) (fun ys s5 n => ∃ k : Nat, ys = [.bool (wRun M (hs.take k)).want, .int .i64 (wRun M (hs.take k)).silent, .int .i64 k] ∧ s3 = s5 ∧ k ≤ i + 1 ∧ n = i + 1 - k) (i + 1 - k) (fun ys s4 n => ∃ k : Nat, ys = [.int .i64 k] ∧ s3 = s4 ∧ k ≤ hs.length ∧ n = hs.length - k) (hs.length - i) (fun v _ => v = .bool true) s3 := by
      intro want' silent' e1 e2
      simp only [vc_leafmeshlaw12_DetectRuns_j7, arith_add, optK_mk]
      rw [wrap64 (by omega) (by omega)]
      exact ⟨i + 1 - (k + 1), by omega, k + 1, by rw [hsn, e1, e2]; simp, trivial, by omega, rfl⟩
    simp only [q1, q2, e1, optK_mk]
    have j4 : ∀ (want1 : Bool) (silent' : Int), want1 = (if M ≤ silent' then false else (wRun M (hs.take k)).want) → silent' = (if hs[k] = true then 0 else (wRun M (hs.take k)).silent + 1) →
        vc_leafmeshlaw12_DetectRuns_j4 XX hv (.bool want1) (.int .i64 silent') (.int .i64 k) (fun ys s5 n => ∃ k : Nat, ys = [.bool (wRun M (hs.take k)).want, .int .i64 (wRun M (hs.take k)).silent, .int .i64 k] ∧ s3 = s5 ∧ k ≤ i + 1 ∧ n = i + 1 - k) (i + 1 - k) (fun ys s4 n => ∃ k : Nat, ys = [.int .i64 k] ∧ s3 = s4 ∧ k ≤ hs.length ∧ n = hs.length - k) (hs.length - i) (fun v _ => v = .bool true) s3 := by
      intro want1 silent' e2 e3
      simp only [vc_leafmeshlaw12_DetectRuns_j4, arith_gtr, optK_mk]
      have fin2 : ∀ b : Bool, b = ((wRun M (hs.take k)).prev && hs[k]) → vc_leafmeshlaw12_DetectRuns_j7 XX (.bool (if b then true else want1)) (.int .i64 silent') (.int .i64 k) (fun ys s5 n => ∃ k : Nat, ys = [.bool (wRun M (hs.take k)).want, .int .i64 (wRun M (hs.take k)).silent, .int .i64 k] ∧ s3 = s5 ∧ k ≤ i + 1 ∧ n = i + 1 - k) (i + 1 - k) (fun ys s4 n => ∃ k : Nat, ys = [.int .i64 k] ∧ s3 = s4 ∧ k ≤ hs.length ∧ n = hs.length - k) (hs.length - i) (fun v _ => v = .bool true) s3 := by
        intro b hb
        refine hfin _ _ ?_ ?_
        · simp only [wStep]
          rw [← hb, e2, e3]
        · simp only [wStep]; exact e3
      refine boolK_mk (fun hk0 => ?_) (fun hk0 => ?_)
      · have hk0' : 0 < k := by have := of_decide_eq_true hk0; omega
        rw [hk0]
        simp only [q1, q2, e1, optK_mk, vc_leafmeshlaw12_DetectRuns_j5, pickV_true]
        obtain ⟨k', rfl⟩ : ∃ k', k = k' + 1 := ⟨k - 1, by omega⟩
        have hpv := wRun_prev M hs k' (by omega)
        refine boolK_mk (fun hh1 => ?_) (fun hh1 => ?_)
        · obtain ⟨p', q1', q2'⟩ := hh3.get (i := k') (by simp; omega)
          have e1' : (hs.map AVal.bool)[k']? = some (.bool (hs[k']'(by omega))) := by simp [show k' < hs.length by omega]
          simp only [arith_sub, optK_mk]
          rw [wrap64 (by omega) (by omega), show ((k' + 1 : Nat) : Int) - 1 = (k' : Int) by omega]
          have q3' := q2'.trans e1'
          simp only [q1', q3', optK_mk, vc_leafmeshlaw12_DetectRuns_j6, hh1, pickV_true]
          have := fin2 (hs[k']'(by omega)) (by rw [hpv, hh1, Bool.and_true])
          refine boolK_mk (fun hb => ?_) (fun hb => ?_)
          · rw [hb] at this; exact this
          · rw [hb] at this; exact this
        · simp only [vc_leafmeshlaw12_DetectRuns_j6, hh1, pickV_false, optK_mk, boolK_false]
          exact fin2 false (by rw [hh1, Bool.and_false])
      · have hk0' : k = 0 := by have := of_decide_eq_false hk0; omega
        subst hk0'
        simp only [vc_leafmeshlaw12_DetectRuns_j5, hk0, pickV_false, optK_mk, boolK_false, vc_leafmeshlaw12_DetectRuns_j6]
        exact fin2 false (by simp [wRun])
    have j3 : ∀ silent' : Int, silent' = (if hs[k] = true then 0 else (wRun M (hs.take k)).silent + 1) →
        vc_leafmeshlaw12_DetectRuns_j3 XX (.int .i64 M) hv (.bool (wRun M (hs.take k)).want) (.int .i64 silent') (.int .i64 k) (fun ys s5 n => ∃ k : Nat, ys = [.bool (wRun M (hs.take k)).want, .int .i64 (wRun M (hs.take k)).silent, .int .i64 k] ∧ s3 = s5 ∧ k ≤ i + 1 ∧ n = i + 1 - k) (i + 1 - k) (fun ys s4 n => ∃ k : Nat, ys = [.int .i64 k] ∧ s3 = s4 ∧ k ≤ hs.length ∧ n = hs.length - k) (hs.length - i) (fun v _ => v = .bool true) s3 := by
      intro silent' e3
      simp only [vc_leafmeshlaw12_DetectRuns_j3, arith_geq, optK_mk]
      refine boolK_mk (fun hm => j4 _ _ ?_ e3) (fun hm => j4 _ _ ?_ e3)
      · rw [if_pos (of_decide_eq_true hm)]
      · rw [if_neg (of_decide_eq_false hm)]
    refine boolK_mk (fun hh1 => j3 0 (by rw [if_pos hh1])) (fun hh1 => ?_)
    simp only [arith_add, optK_mk]
    rw [wrap64 (by omega) (by omega)]
    exact j3 _ (by rw [if_neg (by rw [hh1]; simp)])
  · have hk' : k = i + 1 := by have := of_decide_eq_false hki; omega
    subst hk'
    obtain ⟨p, q1, q2⟩ := hout.get (i := i) (by simp [upsT_length]; exact hlt)
    have e1 : ((upsT (start M) F hs).map AVal.bool)[i]? = some (.bool (runT (start M) F (hs.take (i + 1))).up) := by
      rw [List.getElem?_map, upsT_get _ _ _ _ hlt]; rfl
    have q2' : rd1 s3 p = some (.bool (runT (start M) F (hs.take (i + 1))).up) := q2.trans e1
    simp only [q1, q2', optK_mk, eqV_bool, negB_mk, g1, beq_self_eq_true, Bool.bne_true, Bool.not_true, boolK_false, arith_add]
    rw [wrap64 (by omega) (by omega)]
    exact ⟨hs.length - (i + 1), by omega, i + 1, by simp, trivial, by omega, rfl⟩
end Go.AM
namespace Go.AM
open Go Go.Proofs
variable {K : AVal → Heap → Prop} {s : Heap} {w : Nat} {t : Bool} {x : Wt}
theorem two_up (y : Wt) (f : Int) : (runT y f [true, true]).up = true ∧ (runT y f [true, true]).heard = some (f + 1) ∧ (runT y f [true, true]).m = y.m := by
  obtain ⟨m, up, last, heard, since, ch⟩ := y
  refine ⟨?_, by simp [runT, tickTo], rfl⟩
  cases up with
  | true => simp [runT, tickTo, tickCh]
  | false =>
    cases heard with
    | none => simp [runT, tickTo, tickCh]
    | some n => cases hq : (n == f - 1) <;> simp [runT, tickTo, tickCh, hq]
theorem rise {M since c f h0 : Int} {last : Option Int} (h : h0 ≠ f - 1) : runT ⟨M, false, last, some h0, since, c⟩ f [true, true] = ⟨M, true, some (f + 1), some (f + 1), f + 1, c + 1⟩ ∧ upsT ⟨M, false, last, some h0, since, c⟩ f [true, true] = [false, true] := by
  have hq : (h0 == f - 1) = false := by simpa using h
  have hr : (f == f + 1 - 1) = true := by simp
  constructor
  · simp [runT, tickTo, tickCh, hq]
  · simp [upsT, tickTo, tickCh, hq]
theorem runT_m : ∀ (l : List Bool) (x : Wt) (f : Int), (runT x f l).m = x.m
  | [], _, _ => rfl
  | _ :: l, _, _ => by rw [runT, runT_m l]; rfl
theorem fails_end {M c now h0 since : Int} {last : Option Int} (hw : WtAt s w false ⟨M, false, last, some h0, since, c + 1⟩) (fit : Fit ⟨M, false, last, some h0, since, c + 1⟩ now) (hh : h0 ≠ now - 1) (hn : 0 ≤ now ∧ now ≤ 1000000) (hc : 0 ≤ c ∧ c ≤ 1000) (hM : 1 ≤ M) :
    optK (fillR (repl 2 [(.bool false)]) [(0, 1, (.bool true)), (1, 1, (.bool true))]) fun c_50 => allOne c_50 = true ∧ newK 4 c_50 (fun b_51 s_52 =>
    wpCall Try.prog XX 17 [.ptr w 0, .int .i64 now, (.slc b_51 0 2 (some 2) 1)] (fun v_53 s_54 =>
    optK (extractA v_53 0) fun v_55 =>
    optK (extractA v_53 1) fun v_56 =>
    boolK (.bool true)
     (vc_leafmeshlaw12_DetectFails_j5 XX (.ptr w 0) (.int .i64 now) (.int .i64 c) v_55 (.bool true) v_56 (fun v _ => v = .bool true) s_54)
     (vc_leafmeshlaw12_DetectFails_j5 XX (.ptr w 0) (.int .i64 now) (.int .i64 c) v_55 (.bool true) .undef (fun v _ => v = .bool true) s_54)) s_52) s := by
  refine optK_of (a := [.bool true, .bool true]) rfl ⟨rfl, new_step fun b2 s7 hb2 h7 u7 => ?_⟩
  have hbw : b2 ≠ w := fun q => by subst q; obtain ⟨e, L, D, q, _⟩ := hw; rw [hb2] at q; cases q
  refine ticks_in (hs := [true, true]) (hw.sub (u7.sub hb2)) fit hn.1 (by simp) (by simp only; omega) (by omega) (Sl.mk h7 rfl (by simp)) (fun _ b' o n c e => by cases e; exact hbw) fun s8 out8 hw8 keep8 acc8 => ?_
  obtain ⟨run8, ups8⟩ := rise (M := M) (since := since) (c := c + 1) (f := now) (h0 := h0) (last := last) hh
  rw [run8] at hw8
  rw [ups8] at acc8
  simp only [extract_mk, List.getElem?_cons_zero, List.getElem?_cons_succ, optK_mk, boolK_true, vc_leafmeshlaw12_DetectFails_j5, pickV_true]
  refine optK_of (a := [.bool false, .bool true]) rfl ⟨rfl, new_step fun b3 s9 hb3 h9 u9 => ?_⟩
  have sub9 := u9.sub hb3
  refine Same_in (l := [false, true]) (m := [false, true]) (acc8.sl.sub sub9) (Sl.mk h9 rfl (by simp)) (by simp) (by simp) ?_
  simp only [beq_self_eq_true, vc_leafmeshlaw12_DetectFails_j6, pickV_true, optK_mk, boolK_true]
  have hw9 := hw8.sub sub9
  refine Changes_in hw9 (show (0 : Int) < M by omega) ?_
  simp only [arith_add, optK_mk]
  rw [wrap64 (by omega) (by omega), show c + 1 + 1 = c + 2 by omega]
  simp only [eqV_int, beq_self_eq_true, negB_mk, Bool.bne_true, Bool.not_false, optK_mk, vc_leafmeshlaw12_DetectFails_j7, pickV_true, boolK_true]
  refine Since_in hw9 (show (0 : Int) < M by omega) ?_
  simp only [arith_add, optK_mk]
  rw [wrap64 (by omega) (by omega)]
  simp [vc_leafmeshlaw12_DetectFails_j8]
theorem fails_round {M now i : Int} {z : Wt} {I : List AVal → Heap → Nat → Prop} {m2 : Nat} (hw : WtAt s w false z) (fit : Fit z now) (hup : z.up = true) (hch : tickCh z now false = (i == M)) (hn : 0 ≤ now ∧ now ≤ 1000000) (hi : 0 ≤ i ∧ i ≤ 1000) (hc : z.changes ≤ 100000)
    (hI : ∀ s', WtAt s' w false (tickTo z now false) → ∃ m', m' < m2 ∧ I [.int .i64 (now + 1), .int .i64 (i + 1)] s' m') :
    wpCall Try.prog XX 11 [.ptr w 0, .int .i64 now, (.bool false)] (fun v_36 s_37 =>
    optK (extractA v_36 0) fun v_38 =>
    optK (extractA v_36 1) fun v_39 =>
    optK (negB true (eqV 0 true v_39 (.int .i64 0))) fun v_40 =>
    boolK v_40
     (vc_leafmeshlaw12_DetectFails_j3 XX (.ptr w 0) (.int .i64 now) (.int .i64 i) v_38 v_40 .undef I m2 K s_37)
     (optK (negB false (eqV 0 false (.int .i64 i) (.int .i64 M))) fun v_48 =>
      optK (negB true (eqV 1 false v_38 v_48)) fun v_49 =>
      vc_leafmeshlaw12_DetectFails_j3 XX (.ptr w 0) (.int .i64 now) (.int .i64 i) v_38 v_40 v_49 I m2 K s_37)) s := by
  refine Tick_in hw fit.ok ⟨fit.changes, by omega⟩ (fun e s2 he _ _ => ?_) fun s7 _ hw7 keep7 => ?_
  · rw [fit.err hn.1 (by omega)] at he; cases he
  have fit7 := fit.step hn.1 (by omega) false
  simp only [extract_mk, List.getElem?_cons_zero, List.getElem?_cons_succ, optK_mk, eqV_int, negB_mk, beq_self_eq_true, Bool.bne_true, Bool.not_true, boolK_false, eqV_bool, Bool.false_bne]
  have e1 : (true != (tickCh z now false == (i == M))) = false := by rw [hch]; cases (i == M) <;> rfl
  rw [e1]
  simp only [vc_leafmeshlaw12_DetectFails_j3, pickV_false, optK_mk, boolK_false]
  refine Up_in hw7 (by have := fit7.ok.1; omega) ?_
  have hup7 : (tickTo z now false).up = !tickCh z now false := by simp [tickTo, hup]
  simp only [eqV_bool, negB_mk, optK_mk, hup7, Bool.false_bne]
  have e2 : ((!tickCh z now false) == tickCh z now false) = false := by cases tickCh z now false <;> rfl
  rw [e2]
  simp only [vc_leafmeshlaw12_DetectFails_j4, pickV_false, optK_mk, boolK_false, arith_add]
  rw [wrap64 (n := now + 1) (by omega) (by omega), wrap64 (by omega) (by omega)]
  exact hI s7 hw7
theorem fails_loop {M T c : Int} {y : Wt} (hw : WtAt s w false y) (fit : Fit y T) (hM : 1 ≤ M ∧ M ≤ 100) (hT : 1 ≤ T ∧ T ≤ 100000) (hm : y.m = M) (hup : y.up = true) (hh : y.heard = some (T - 1)) (hc : y.changes = c) (hc2 : 0 ≤ c ∧ c ≤ 1000) :
    ∃ I2 : List AVal → Heap → Nat → Prop, (∃ m, I2 [.int .i64 T, (.int .i64 1)] s m) ∧ ∀ (f : Env) (s : Heap) (m2 : Nat), I2 [f 12, f 14] s m2 →
      vc_leafmeshlaw12_DetectFails_l2 XX (.int .i64 M) (.bool true) (.ptr w 0) (f 12) (.int .i64 c) (f 14) I2 m2 (fun v _ => v = .bool true) s := by
  refine ⟨fun ys s6 n => ∃ (j : Nat) (z : Wt), ys = [.int .i64 (T + j), .int .i64 (j + 1)] ∧ (j : Int) ≤ M ∧ n = (M - j).toNat ∧ WtAt s6 w false z ∧ Fit z (T + j) ∧ z.m = M ∧ z.heard = some (T - 1) ∧ z.up = decide ((j : Int) < M) ∧ z.changes = (if (j : Int) < M then c else c + 1),
    ⟨_, 0, y, by simp, by omega, rfl, hw, by simpa using fit, hm, hh, by rw [hup]; simp; omega, by rw [if_pos (by simp; omega)]; exact hc⟩, ?_⟩
  rintro fe s6 n ⟨j, z, hy, hj, rfl, hw6, fit6, z1, z2, z3, z4⟩
  simp only [List.cons.injEq, and_true] at hy
  rw [hy.1, hy.2]
  clear hy hw fit hm hup hh hc
  simp only [vc_leafmeshlaw12_DetectFails_l2, arith_leq, optK_mk]
  refine boolK_mk (fun hle => ?_) (fun hle => ?_)
  · have hle : (j : Int) + 1 ≤ M := by simpa using hle
    have hup6 : z.up = true := by rw [z3]; simp; omega
    rw [if_pos (by omega)] at z4
    have hch : tickCh z (T + j) false = ((j : Int) + 1 == M) := by
      simp only [tickCh, hup6, z2, z1, Bool.not_false, Bool.true_and]
      rw [Bool.eq_iff_iff]
      simp
      omega
    refine fails_round hw6 fit6 hup6 hch ⟨by omega, by omega⟩ ⟨by omega, by omega⟩ (by omega) fun s7 hw7 => ?_
    refine ⟨(M - (j + 1 : Nat)).toNat, by omega, j + 1, tickTo z (T + j) false, by simp; omega, by omega, rfl, hw7, ?_, z1, by simp [tickTo, z2], ?_, ?_⟩
    · have := fit6.step (by omega) (by omega) false
      rwa [show T + ((j + 1 : Nat) : Int) = T + j + 1 by omega]
    · have hup7 : (tickTo z (T + j) false).up = !tickCh z (T + j) false := by simp [tickTo, hup6]
      rw [hup7, hch, Bool.eq_iff_iff]
      simp
      omega
    · have : (tickTo z (T + j) false).changes = if ((j : Int) + 1 == M) then z.changes + 1 else z.changes := by simp only [tickTo, hch]
      rw [this, z4]
      by_cases e : (j : Int) + 1 = M
      · rw [if_pos (by simpa using e), if_neg (by omega)]
      · rw [if_neg (by simpa using e), if_pos (by omega)]
  · have hjm : (j : Int) = M := by have := of_decide_eq_false hle; omega
    have hup6 : z.up = false := by rw [z3]; simp; omega
    rw [if_neg (by omega)] at z4
    obtain ⟨a, b, l, d, e, g⟩ := z
    simp only at z1 z2 hup6 z4
    subst z1; subst z2; subst hup6; subst z4
    exact fails_end hw6 fit6 (by omega) ⟨by omega, by omega⟩ hc2 hM.1
theorem Fails_in {m f : Int} {hv : AVal} {hs : List Bool} (hh : Sl s hv (hs.map .bool)) : wpCall Try.prog XX 5 [.int .i64 m, hv, .int .i64 f] (fun v _ => v = .bool true) s := by
  refine vc_leafmeshlaw12_DetectFails_in ?_
  refine known3 ?_
  simp only [hh.len, optK_mk, arith_gtr, List.length_map]
  refine boolK_mk (fun _ => trivial) (fun hlen => ?_)
  have hlen : hs.length ≤ 60 := by have := of_decide_eq_false hlen; omega
  refine Pick_in (by omega) (by omega) ?_
  have p1 := Int.emod_nonneg m (show (60 : Int) ≠ 0 by omega)
  have p2 := Int.emod_lt_of_pos m (show (0 : Int) < 60 by omega)
  simp only [arith_add, optK_mk]
  rw [wrap64 (by omega) (by omega)]
  generalize hM : 1 + m % 60 = M at *
  refine Pick_in (by omega) (by omega) ?_
  have p3 := Int.emod_nonneg f (show (1000 : Int) ≠ 0 by omega)
  have p4 := Int.emod_lt_of_pos f (show (0 : Int) < 1000 by omega)
  generalize hF : f % 1000 = F at *
  refine New_in (fun w s1 sub1 hw0 hw1 _ _ => ?_) (fun h => absurd ⟨by omega, by omega⟩ h)
  simp only [extract_mk, List.getElem?_cons_zero, List.getElem?_cons_succ, optK_mk, eqV_int, negB_mk, beq_self_eq_true, Bool.bne_true, Bool.not_true, boolK_false, eqV_ptr, Bool.bne_false]
  simp only [vc_leafmeshlaw12_DetectFails_j0, pickV_false, optK_mk, boolK_false]
  have hs1w : s1 w ≠ none := by obtain ⟨e, L, D, q, _⟩ := hw1; rw [q]; simp
  refine Own_acc (hh.sub sub1) (by omega) fun v2 s2 sub2 own2 => ?_
  refine optK_of (a := [.bool true, .bool true]) rfl ⟨rfl, new_step fun b s3 hb h3 u3 => ?_⟩
  have sub3 := u3.sub hb
  have own3 : (hs.map AVal.bool = [] ∧ ∃ b, v2 = .slc b 0 0 (some 0) 1) ∨ Acc 4 s1 s3 v2 (hs.map .bool) := by
    rcases own2 with h | h | ⟨c, c0, rfl, hc⟩
    · exact .inl h
    · exact .inr (.inl h)
    · exact .inr (.inr ⟨c, c0, rfl, sub3 _ _ hc⟩)
  refine app_own own3 (m := [.bool true, .bool true]) (Sl.mk h3 rfl (by simp)) (by simp) (by simp; omega) (fun i hi => ?_) fun v4 s4 acc4 keep4 => ?_
  · cases q : s1 i with
    | none => exact absurd q hi
    | some e => rw [sub3 _ _ (sub2 _ _ q)]; simp
  have old : ∀ i e, s1 i = some e → s4 i = some e := fun i e hi => keep4 i e (sub3 _ _ (sub2 _ _ hi)) fun c hc q => by
    subst q
    rcases own2 with ⟨_, c', rfl⟩ | ⟨rfl, _⟩ | ⟨c', c0, rfl, _⟩
    · simp at hc
    · cases hc
    · simp only [AVal.slc.injEq, and_true] at hc
      rw [hc, hi] at c0; cases c0
  have hw4 : WtAt s4 w false (start M) := hw1.sub old
  have hl4 : Sl s4 v4 ((hs ++ [true, true]).map .bool) := by rw [List.map_append]; exact acc4.sl
  refine ticks_in (hs := hs ++ [true, true]) hw4 (fit_start (by omega) (by omega) F) (by omega) (by simp; omega) (by simp [start]) (by omega) hl4 (fun _ b o n c e => ?_) fun s5 out hw5 keep5 acc5 => ?_
  · rintro rfl
    rcases acc4 with ⟨rfl, q⟩ | ⟨d, d0, rfl, _⟩
    · cases e
    · cases e; exact hs1w d0
  simp only [extract_mk, List.getElem?_cons_zero, List.getElem?_cons_succ, optK_mk, hh.len, List.length_map, arith_add]
  rw [wrap64 (n := F + hs.length) (by omega) (by omega), wrap64 (by omega) (by omega)]
  simp only [unary_not, optK_mk, Bool.not_true, boolK_false]
  have fit5 := ((fit_start (m := M) (by omega) (by omega) F).run (hs ++ [true, true]) (by omega) (by simp; omega))
  rw [runT_append] at hw5 fit5
  obtain ⟨r1, r2, r3⟩ := two_up (runT (start M) F hs) (F + hs.length)
  have r3 : (runT (runT (start M) F hs) (F + hs.length) [true, true]).m = M := by rw [r3, runT_m]; rfl
  generalize runT (runT (start M) F hs) (F + hs.length) [true, true] = y at *
  obtain ⟨fit5, ch5⟩ := fit5
  simp only [List.length_append, List.length_cons, List.length_nil, start] at fit5 ch5
  have hT : F + ((hs.length + (0 + 1 + 1) : Nat) : Int) = F + hs.length + 2 := by omega
  rw [hT] at fit5
  generalize hTT : F + (hs.length : Int) + 2 = T at *
  refine Up_in hw5 (by omega) ?_
  rw [r1]
  simp only [unary_not, optK_mk, Bool.not_true, vc_leafmeshlaw12_DetectFails_j1, pickV_false, boolK_false]
  refine Changes_in hw5 (by omega) ?_
  have hc0 := fit5.changes
  exact fails_loop hw5 fit5 ⟨by omega, by omega⟩ ⟨by omega, by omega⟩ r3 r1 (by rw [r2]; congr 1; omega) rfl ⟨hc0, by omega⟩
theorem bools3 {s : Heap} {v : AVal} (h : Arg Try.prog s 40 27 v) : ∃ l : List Bool, Sl s v (l.map .bool) := by
  obtain ⟨l, hl, _, _⟩ := arg_slice (d := 39) Try.underlying27 (by kernel_rfl) AVal.bool (fun _ => True) (fun xs h => inp_bool (d := 38) Try.underlying4 h) h
  exact ⟨l, hl⟩
theorem Runs_wp (s : Heap) (xs : List AVal) (h : ArgL Try.prog s 40 [3, 27, 3] xs) : wpCall Try.prog XX 4 xs (fun v _ => v = .bool true) s := by
  obtain ⟨a, b, c, rfl, h1, h2, h3⟩ := argl3 h
  obtain ⟨m, rfl, _⟩ := arg_int (d := 39) Try.underlying3 h1
  obtain ⟨f, rfl, _⟩ := arg_int (d := 39) Try.underlying3 h3
  obtain ⟨l, hl⟩ := bools3 h2
  exact Runs_in hl
theorem Fails_wp (s : Heap) (xs : List AVal) (h : ArgL Try.prog s 40 [3, 27, 3] xs) : wpCall Try.prog XX 5 xs (fun v _ => v = .bool true) s := by
  obtain ⟨a, b, c, rfl, h1, h2, h3⟩ := argl3 h
  obtain ⟨m, rfl, _⟩ := arg_int (d := 39) Try.underlying3 h1
  obtain ⟨f, rfl, _⟩ := arg_int (d := 39) Try.underlying3 h3
  obtain ⟨l, hl⟩ := bools3 h2
  exact Fails_in hl
end Go.AM
namespace Go.AM
open Go Go.Proofs
variable {K : AVal → Heap → Prop} {s : Heap} {w : Nat} {t : Bool} {x : Wt}
/-! ### the reference's watch -/
structure Rt where
  m : Int
  up : Bool
  last : Int
  heard : Int
  was : Bool
  since : Int
  many : Int
def RtAt (s : Heap) (o : Nat) (t : Bool) (y : Rt) : Prop := ∃ e, s o = some (t, .cells e [.int .i64 y.m, .bool y.up, .int .i64 y.last, .int .i64 y.heard, .bool y.was, .int .i64 y.since, .int .i64 y.many])
theorem RtAt.sub {s s' : Heap} {o : Nat} {y : Rt} (h : RtAt s o t y) (hs : Sub s s') : RtAt s' o t y := by
  obtain ⟨e, h⟩ := h
  exact ⟨e, hs _ _ h⟩
theorem WtAt.frz (h : WtAt s w t x) : WtAt (frz s) w true x := by
  obtain ⟨e, L, D, h1, h2, h3⟩ := h
  refine ⟨e, L, D, frz_some h1, ?_, ?_⟩
  · cases hl : x.last with
    | none => rw [hl] at h2; exact h2
    | some n => rw [hl] at h2; obtain ⟨b, tb, eb, rfl, hb⟩ := h2; exact ⟨b, true, eb, rfl, frz_some hb⟩
  · cases hl : x.heard with
    | none => rw [hl] at h3; exact h3
    | some n => rw [hl] at h3; obtain ⟨b, tb, eb, rfl, hb⟩ := h3; exact ⟨b, true, eb, rfl, frz_some hb⟩
/-- both watches are in the same state -/
structure Rr (x : Wt) (y : Rt) : Prop where
  m : y.m = x.m
  up : y.up = x.up
  last : y.last = x.last.getD (-1)
  last0 : ∀ n, x.last = some n → 0 ≤ n ∧ n ≤ 1099511627776
  heard : ∀ n, x.heard = some n → y.heard = n ∧ ∃ l, x.last = some l ∧ 0 ≤ n ∧ n ≤ l
  was : y.was = (match x.heard with | some n => x.last == some n | none => false)
  upH : x.up = true → ∃ n, x.heard = some n
  since : y.since = x.since
  many : y.many = x.changes
theorem Rr.ok {y : Rt} (h : Rr x y) (h1 : 1 ≤ x.m) (h2 : x.m ≤ 1000) : x.ok := ⟨h1, h2, fun n hn => by
  obtain ⟨_, l, hl, a, b⟩ := h.heard n hn
  have := h.last0 l hl
  omega⟩
def rTo (y : Rt) (c : Bool) (now : Int) (heard : Bool) : Rt :=
  { m := y.m, up := y.up != c, last := now, heard := if heard then now else y.heard, was := heard, since := if c then now else y.since, many := if c then y.many + 1 else y.many }
theorem Rr.tick {y : Rt} {now : Int} {heard : Bool} (h : Rr x y) (he : tickErr x now = none) : Rr (tickTo x now heard) (rTo y (tickCh x now heard) now heard) := by
  have h0 : 0 ≤ now ∧ now ≤ 1099511627776 := by
    unfold tickErr at he
    split at he
    · cases he
    · omega
  have hl : ∀ n, x.last = some n → n < now := by
    intro n hn
    unfold tickErr at he
    rw [if_neg (by omega), hn] at he
    simp only at he
    split at he
    · cases he
    · omega
  refine ⟨h.m, by simp [rTo, tickTo, h.up], rfl, fun n hn => ?_, fun n hn => ?_, ?_, fun hu => ?_, ?_, ?_⟩
  · simp only [tickTo] at hn; cases hn; exact h0
  · simp only [tickTo] at hn
    cases heard with
    | true => simp at hn; subst hn; exact ⟨rfl, now, rfl, h0.1, Int.le_refl _⟩
    | false =>
      simp at hn
      obtain ⟨a, l, b, c, d⟩ := h.heard n hn
      have := hl l b
      exact ⟨by simpa [rTo] using a, now, rfl, c, by omega⟩
  · cases heard with
    | true => simp [rTo, tickTo]
    | false =>
      simp only [rTo, tickTo]
      cases hh : x.heard with
      | none => simp [hh]
      | some n =>
        obtain ⟨a, l, b, c, d⟩ := h.heard n hh
        have := hl l b
        have : ¬ now = n := by omega
        simp [hh, this]
  · cases heard with
    | true => exact ⟨now, by simp [tickTo]⟩
    | false =>
      have : x.up = true := by
        cases hu2 : x.up with
        | true => rfl
        | false => simp [tickTo, tickCh, hu2] at hu
      obtain ⟨n, hn⟩ := h.upH this
      exact ⟨n, by simp [tickTo, hn]⟩
  · simp only [rTo, tickTo, h.since]
  · simp only [rTo, tickTo, h.many]
def rErr (y : Rt) (now : Int) : Option Int := if now < 0 ∨ 1099511627776 < now then some 2 else if 0 ≤ y.last ∧ now ≤ y.last then some 20 else none
def rCh (y : Rt) (now : Int) (heard : Bool) : Bool := match y.up with
  | true => !heard && decide (y.heard + y.m ≤ now)
  | false => heard && (y.was && (y.last == now - 1))
theorem Rr.err {y : Rt} {now : Int} (h : Rr x y) : rErr y now = tickErr x now := by
  unfold rErr tickErr
  split
  · rfl
  · rw [h.last]
    cases hl : x.last with
    | none => simp
    | some n => have := h.last0 n hl; by_cases q : now ≤ n <;> simp [q] <;> omega
theorem Rr.ch {y : Rt} {now : Int} {heard : Bool} (h : Rr x y) (he : tickErr x now = none) : rCh y now heard = tickCh x now heard := by
  have hl : ∀ n, x.last = some n → n < now := by
    intro n hn
    unfold tickErr at he
    split at he
    · cases he
    · rw [hn] at he
      simp only at he
      split at he
      · cases he
      · omega
  unfold rCh tickCh
  rw [h.up]
  cases hu : x.up with
  | true =>
    obtain ⟨n, hn⟩ := h.upH hu
    simp only [hn, (h.heard n hn).1, h.m]
  | false =>
    simp only
    rw [h.was]
    cases hh : x.heard with
    | none => simp
    | some n =>
      obtain ⟨_, l, b, c, d⟩ := h.heard n hh
      have := hl l b
      simp only [h.last, b, Option.getD_some]
      congr 1
      rw [Bool.eq_iff_iff]
      simp
      omega
variable {y : Rt} {o : Nat}
theorem rNew_in {m : Int} (hK : ∀ o s', Sub s s' → s o = none → RtAt s' o false ⟨m, false, -1, 0, false, 0, 0⟩ → 1 ≤ m → m ≤ 1000 → K (.tup [.ptr o 0, .int .i64 0]) s') (hE : ¬ (1 ≤ m ∧ m ≤ 1000) → K (.tup [.nilptr, .int .i64 2]) s) : wpCall Try.prog XX 23 [.int .i64 m] K s := by
  refine vc_leafmeshref12_New_in ?_
  simp only [vc_leafmeshref12_New, arith_lss, optK_mk, arith_gtr]
  refine boolK_mk (fun h => ?_) (fun h => ?_)
  · simp only [vc_leafmeshref12_New_j0, h, pickV_true, optK_mk, boolK_true]
    exact hE (by have := of_decide_eq_true h; omega)
  · simp only [vc_leafmeshref12_New_j0, h, pickV_false, optK_mk]
    refine boolK_mk (fun h2 => hE (by have := of_decide_eq_true h2; omega)) (fun h2 => ?_)
    refine optK_of (a := [.int .i64 m, .bool false, .int .i64 (-1), .int .i64 0, .bool false, .int .i64 0, .int .i64 0]) rfl ⟨rfl, fun b hb => ?_⟩
    exact hK b _ (sub_new hb) hb ⟨67, hset_eq⟩ (by have := of_decide_eq_false h; omega) (by have := of_decide_eq_false h2; omega)
theorem rReset_in (h : RtAt s o false y) (h1 : 1 ≤ y.m) (h2 : y.m ≤ 1000) (hK : ∀ s', RtAt s' o false ⟨y.m, false, -1, 0, false, 0, 0⟩ → KeepBut (· = o) s s' → K (.tup []) s') : wpCall Try.prog XX 24 [.ptr o 0] K s := by
  refine vc_leafmeshref12_Watch_Reset_in ?_
  obtain ⟨e, h⟩ := h
  simp only [vc_leafmeshref12_Watch_Reset, nilCheck_ptr, optK_mk, addOff_ptr, Nat.zero_add, rd1_mk h, List.getElem?_cons_zero]
  refine rNew_in (fun b s1 sub1 hb h3 _ _ => ?_) (fun hn => absurd ⟨h1, h2⟩ hn)
  obtain ⟨e3, h3⟩ := h3
  simp only [extract_mk, List.getElem?_cons_zero, List.getElem?_cons_succ, optK_mk, nilCheck_ptr]
  refine optK_of (rdN_all h3 rfl) (wrAgg_step (sub1 _ _ h) rfl rfl rfl fun s4 h4 u4 => hK s4 ⟨e, h4⟩ fun i q hi hne => ?_)
  rw [u4 i hne]; exact sub1 _ _ hi
theorem rCopy_in (h : RtAt s o t y) (hK : ∀ o' s', Sub s s' → s o' = none → RtAt s' o' false y → K (.ptr o' 0) s') : wpCall Try.prog XX 26 [.ptr o 0] K s := by
  refine vc_leafmeshref12_Watch_Copy_in ?_
  obtain ⟨e, h⟩ := h
  simp only [vc_leafmeshref12_Watch_Copy, nilCheck_ptr, optK_mk]
  refine optK_of (rdN_all h rfl) (new_step fun b s1 hb h1 u1 => wrAgg_step h1 rfl rfl rfl fun s2 h2 u2 => hK b s2 (fun i q hi => ?_) hb ⟨67, h2⟩)
  have := ne_of_some hb hi
  rw [u2 i this, u1 i this]; exact hi
theorem rDue_in (h : RtAt s o t y) (hb : 0 ≤ y.heard ∧ y.heard ≤ 1099511627776) (hm : 1 ≤ y.m ∧ y.m ≤ 1000) (hK : K (dueV (if y.up then some (y.heard + y.m) else none)) s) : wpCall Try.prog XX 34 [.ptr o 0] K s := by
  refine vc_leafmeshref12_Watch_Due_in ?_
  obtain ⟨e, h⟩ := h
  cases hu : y.up with
  | false => rw [hu] at hK; simpa [vc_leafmeshref12_Watch_Due, rd1_mk h, hu, dueV] using hK
  | true =>
    rw [hu] at hK
    have : IntKind.i64.wrap (y.heard + y.m) = y.heard + y.m := wrap64 (by omega) (by omega)
    simpa [vc_leafmeshref12_Watch_Due, rd1_mk h, hu, dueV, this] using hK
theorem rTick_j3 {now : Int} {heard c : Bool} {e : Nat} {m last hd since many : Int} {up was : Bool} (h : s o = some (false, .cells e [.int .i64 m, .bool up, .int .i64 last, .int .i64 hd, .bool was, .int .i64 since, .int .i64 many])) (hm : 0 ≤ many ∧ many ≤ 1000000000)
    (hK : ∀ s', s' o = some (false, .cells e [.int .i64 m, .bool (up != c), .int .i64 now, .int .i64 hd, .bool heard, .int .i64 (if c then now else since), .int .i64 (if c then many + 1 else many)]) → Upto o s s' → K (.tup [.bool c, .int .i64 0]) s') :
    vc_leafmeshref12_Watch_Tick_j3 XX (.ptr o 0) (.int .i64 now) (.bool heard) (.bool c) K s := by
  simp only [vc_leafmeshref12_Watch_Tick_j3, nilCheck_ptr, optK_mk, addOff_ptr, Nat.zero_add]
  refine wr1_step h (by simp) rfl fun s1 h1 u1 => ?_
  refine wr1_step h1 (by simp) rfl fun s2 h2 u2 => ?_
  simp only [List.set_cons_succ, List.set_cons_zero] at h2
  cases c with
  | false =>
    simp only [boolK_false]
    exact hK s2 (by simpa using h2) fun i hi => by rw [u2 i hi, u1 i hi]
  | true =>
    simp only [boolK_true, rd1_mk h2, List.getElem?_cons_succ, List.getElem?_cons_zero, optK_mk, unary_not]
    refine wr1_step h2 (by simp) rfl fun s3 h3 u3 => ?_
    refine wr1_step h3 (by simp) rfl fun s4 h4 u4 => ?_
    simp only [List.set_cons_succ, List.set_cons_zero] at h4
    simp only [rd1_mk h4, List.getElem?_cons_succ, List.getElem?_cons_zero, optK_mk, arith_add]
    rw [wrap64 (by omega) (by omega)]
    refine wr1_step h4 (by simp) rfl fun s5 h5 u5 => hK s5 (by simpa using h5) fun i hi => by rw [u5 i hi, u4 i hi, u3 i hi, u2 i hi, u1 i hi]
theorem rTick_j2 {now : Int} {heard c : Bool} (h : RtAt s o false y) (hm : 0 ≤ y.many ∧ y.many ≤ 1000000000)
    (hK : ∀ s', RtAt s' o false (rTo y c now heard) → KeepBut (· = o) s s' → K (.tup [.bool c, .int .i64 0]) s') : vc_leafmeshref12_Watch_Tick_j2 XX (.ptr o 0) (.int .i64 now) (.bool heard) (.bool c) K s := by
  obtain ⟨e, h⟩ := h
  simp only [vc_leafmeshref12_Watch_Tick_j2]
  cases heard with
  | true =>
    simp only [boolK_true, nilCheck_ptr, optK_mk, addOff_ptr, Nat.zero_add]
    refine wr1_step h (by simp) rfl fun s1 h1 u1 => ?_
    refine rTick_j3 h1 hm fun s2 h2 u2 => hK s2 ⟨e, by simpa [rTo] using h2⟩ fun i q hi hne => ?_
    rw [u2 i hne, u1 i hne]; exact hi
  | false =>
    simp only [boolK_false]
    exact rTick_j3 h hm fun s2 h2 u2 => hK s2 ⟨e, by simpa [rTo] using h2⟩ (u2.keep rfl)
theorem rTick_in {now : Int} {heard : Bool} (h : RtAt s o false y) (hb : 0 ≤ y.heard ∧ y.heard ≤ 1099511627776) (hm : 1 ≤ y.m ∧ y.m ≤ 1000) (hmany : 0 ≤ y.many ∧ y.many ≤ 1000000000)
    (hE : ∀ e, rErr y now = some e → K (.tup [.bool false, .int .i64 e]) s) (hK : ∀ s', rErr y now = none → RtAt s' o false (rTo y (rCh y now heard) now heard) → KeepBut (· = o) s s' → K (.tup [.bool (rCh y now heard), .int .i64 0]) s') :
    wpCall Try.prog XX 27 [.ptr o 0, .int .i64 now, .bool heard] K s := by
  refine vc_leafmeshref12_Watch_Tick_in ?_
  have j0 : ∀ a b : AVal, pickV a (.bool true) b = some (.bool (decide (now < 0 ∨ 1099511627776 < now))) → vc_leafmeshref12_Watch_Tick_j0 XX (.ptr o 0) (.int .i64 now) (.bool heard) a b K s := by
    intro a b hab
    unfold vc_leafmeshref12_Watch_Tick_j0
    rw [hab, optK_mk]
    refine boolK_mk (fun hr => ?_) (fun hr => ?_)
    · refine hE 2 ?_
      simp only [decide_eq_true_eq] at hr
      simp [rErr, hr]
    · simp only [decide_eq_false_iff_not] at hr
      obtain ⟨e, h2⟩ := id h
      simp only [nilCheck_ptr, optK_mk, addOff_ptr, Nat.zero_add, rd1_mk h2, List.getElem?_cons_succ, List.getElem?_cons_zero, arith_geq, arith_leq]
      have j1 : ∀ a b : AVal, pickV a b (.bool false) = some (.bool (decide (0 ≤ y.last ∧ now ≤ y.last))) → vc_leafmeshref12_Watch_Tick_j1 XX (.ptr o 0) (.int .i64 now) (.bool heard) a b K s := by
        intro a b hab
        unfold vc_leafmeshref12_Watch_Tick_j1
        rw [hab, optK_mk]
        refine boolK_mk (fun hr2 => ?_) (fun hr2 => ?_)
        · refine hE 20 ?_
          simp only [decide_eq_true_eq] at hr2
          simp only [rErr]
          rw [if_neg hr, if_pos hr2]
        · simp only [decide_eq_false_iff_not] at hr2
          have he : rErr y now = none := by simp only [rErr]; rw [if_neg hr, if_neg hr2]
          simp only [nilCheck_ptr, optK_mk, addOff_ptr, Nat.zero_add, rd1_mk h2, List.getElem?_cons_succ, List.getElem?_cons_zero]
          have fin : ∀ c : Bool, c = rCh y now heard → vc_leafmeshref12_Watch_Tick_j2 XX (.ptr o 0) (.int .i64 now) (.bool heard) (.bool c) K s := by
            rintro c rfl
            exact rTick_j2 h hmany fun s' g1 g2 => hK s' he g1 g2
          cases hu : y.up with
          | true =>
            simp only [boolK_true, unary_not, optK_mk]
            cases heard with
            | true =>
              simp only [Bool.not_true, boolK_false, vc_leafmeshref12_Watch_Tick_j5, pickV_false, optK_mk]
              exact fin false (by simp [rCh, hu])
            | false =>
              simp only [Bool.not_false, boolK_true, vc_leafmeshref12_Watch_Tick_j5, arith_add, arith_geq, optK_mk]
              rw [wrap64 (by omega) (by omega), pickV_true, optK_mk]
              exact fin _ (by simp [rCh, hu])
          | false =>
            simp only [boolK_false]
            cases heard with
            | false =>
              simp only [boolK_false, vc_leafmeshref12_Watch_Tick_j6, vc_leafmeshref12_Watch_Tick_j7, pickV_false, optK_mk]
              exact fin false (by simp [rCh, hu])
            | true =>
              simp only [boolK_true, vc_leafmeshref12_Watch_Tick_j6, pickV_true, optK_mk]
              refine boolK_mk (fun hw => ?_) (fun hw => ?_)
              · simp only [arith_sub, optK_mk]
                rw [wrap64 (by omega) (by omega)]
                simp only [nilCheck_ptr, optK_mk, addOff_ptr, Nat.zero_add, rd1_mk h2, List.getElem?_cons_succ, List.getElem?_cons_zero, eqV_int, negB_mk, Bool.false_bne, vc_leafmeshref12_Watch_Tick_j7, hw, pickV_true]
                exact fin (y.last == now - 1) (by simp [rCh, hu, hw])
              · simp only [vc_leafmeshref12_Watch_Tick_j7, hw, pickV_false, optK_mk]
                exact fin false (by simp [rCh, hu, hw])
      refine boolK_mk (fun hq => j1 _ _ ?_) (fun hq => j1 _ _ ?_)
      · have := of_decide_eq_true hq; simp [this]
      · have := of_decide_eq_false hq; simp [this]
  simp only [vc_leafmeshref12_Watch_Tick, arith_lss, arith_gtr, optK_mk]
  refine boolK_mk (fun hr => j0 _ _ ?_) (fun hr => j0 _ _ ?_)
  · have := of_decide_eq_true hr; simp [this]
  · have := of_decide_eq_false hr; simp [this]
end Go.AM
namespace Go.AM
open Go Go.Proofs
variable {K : AVal → Heap → Prop} {s : Heap} {w o : Nat} {t : Bool} {x : Wt} {y : Rt}
theorem dueV_mk (d : Option Int) : dueV d = .tup [.int .i64 (d.getD 0), .bool d.isSome] := by cases d <;> rfl
theorem Rr.due (r : Rr x y) : x.due = if y.up then some (y.heard + y.m) else none := by
  unfold Wt.due
  rw [r.up]
  cases hu : x.up with
  | false => rfl
  | true =>
    obtain ⟨n, hn⟩ := r.upH hu
    simp [hn, (r.heard n hn).1, r.m]
theorem same_in (h : WtAt s w false x) (g : RtAt s o false y) (r : Rr x y) (hm : 1 ≤ x.m ∧ x.m ≤ 1000) (hb : 0 ≤ y.heard ∧ y.heard ≤ 1099511627776) (hK : K (.bool true) s) : wpCall Try.prog XX 28 [.ptr w 0, .ptr o 0] K s := by
  refine vc_leafmeshlaw12_same_in ?_
  have hp : 0 < x.m := by omega
  refine Due_in h (r.ok hm.1 hm.2) ?_
  simp only [dueV_mk, extract_mk, List.getElem?_cons_zero, List.getElem?_cons_succ, optK_mk]
  refine rDue_in g hb (by rw [r.m]; exact hm) ?_
  rw [← r.due]
  simp only [dueV_mk, extract_mk, List.getElem?_cons_zero, List.getElem?_cons_succ, optK_mk]
  obtain ⟨e, g⟩ := g
  refine Up_in h.frz hp ?_
  intro _
  simp only [add_frz, cut_refl, nilCheck_ptr, addOff_ptr, Nat.zero_add, rd1_mk g, List.getElem?_cons_zero, List.getElem?_cons_succ, optK_mk, eqV_bool, r.up, beq_self_eq_true, negB_mk, Bool.false_bne, boolK_true]
  refine Since_in h.frz hp ?_
  intro _
  simp only [add_frz, cut_refl, nilCheck_ptr, addOff_ptr, Nat.zero_add, rd1_mk g, List.getElem?_cons_zero, List.getElem?_cons_succ, optK_mk, eqV_int, r.since, beq_self_eq_true, negB_mk, Bool.false_bne, boolK_true, pickV_true]
  refine Changes_in h.frz hp ?_
  intro _
  simp only [add_frz, cut_refl, nilCheck_ptr, addOff_ptr, Nat.zero_add, rd1_mk g, List.getElem?_cons_zero, List.getElem?_cons_succ, optK_mk, eqV_int, eqV_bool, r.many, beq_self_eq_true, negB_mk, Bool.false_bne, boolK_true, pickV_true]
  exact hK
/-- both watches stand, alike, with at most `n` changes -/
structure Two (s : Heap) (w o : Nat) (m : Int) (n : Nat) (x : Wt) (y : Rt) : Prop where
  h : WtAt s w false x
  g : RtAt s o false y
  ne : w ≠ o
  r : Rr x y
  xm : x.m = m
  ch : 0 ≤ x.changes ∧ x.changes ≤ n
  hd : 0 ≤ y.heard ∧ y.heard ≤ 1099511627776
theorem WtAt.keepR {s s' : Heap} (h : WtAt s w t x) (g : RtAt s o false y) (hk : KeepBut (· = o) s s') (hn : w ≠ o) : WtAt s' w t x := by
  obtain ⟨e, L, D, h1, h2, h3⟩ := h
  obtain ⟨e', h1'⟩ := g
  have key : ∀ b t e n, s b = some (t, .cells e [.int .i64 n]) → ¬ b = o := by
    rintro b t e n hb rfl
    rw [h1'] at hb; cases hb
  exact ⟨e, L, D, hk _ _ h1 hn, h2.keep hk key, h3.keep hk key⟩
theorem RtAt.keepW {s s' : Heap} (g : RtAt s o t y) (hk : KeepBut (· = w) s s') (hn : w ≠ o) : RtAt s' o t y := by
  obtain ⟨e, g⟩ := g
  exact ⟨e, hk _ _ g fun q => hn q.symm⟩
/-- a tick of the program's watch, whatever comes of it -/
theorem tick_any {now : Int} {heard : Bool} {n : Nat} (h : WtAt s w false x) (r : Rr x y) (hm : 1 ≤ x.m ∧ x.m ≤ 1000) (hc : 0 ≤ x.changes ∧ x.changes ≤ n) (hn : n ≤ 100000)
    (hK : ∀ v s' x' y', WtAt s' w false x' → x'.m = x.m → Rr x' y' → 0 ≤ x'.changes ∧ x'.changes ≤ (n + 1 : Nat) → KeepBut (· = w) s s' → K v s') : wpCall Try.prog XX 11 [.ptr w 0, .int .i64 now, .bool heard] K s := by
  refine Tick_in h (r.ok hm.1 hm.2) ⟨hc.1, by omega⟩ (fun e s' _ h' k' => hK _ s' x y h' rfl r ⟨hc.1, by omega⟩ k') fun s' he h' k' => hK _ s' _ _ h' rfl (r.tick he) ?_ k'
  simp only [tickTo]
  split <;> omega
/-- the tail of a round -/
theorem script_j3 {m now j : Int} {n : Nat} {I : List AVal → Heap → Nat → Prop} {m1 : Nat} (z : Two s w o m n x y) (hm : 1 ≤ m ∧ m ≤ 1000) (hj : 0 ≤ j ∧ j ≤ 1000)
    (hI : ∃ m', m' < m1 ∧ I [.ptr w 0, .ptr o 0, .int .i64 now, .int .i64 (j + 1)] s m') : vc_leafmeshlaw12_DetectScript_j3 XX (.ptr w 0) (.ptr o 0) (.int .i64 now) (.int .i64 j) I m1 K s := by
  unfold vc_leafmeshlaw12_DetectScript_j3
  refine same_in z.h z.g z.r (by rw [z.xm]; exact hm) z.hd ?_
  simp only [unary_not, Bool.not_true, optK_mk, boolK_false, arith_add]
  rw [wrap64 (by omega) (by omega)]
  exact hI
/-- a round that ticks both -/
theorem script_j4 {m now k st : Int} {hd : Bool} {n : Nat} {I : List AVal → Heap → Nat → Prop} {m1 : Nat} {hv : AVal} {s0 : Heap} {i : Nat} {rows : List (List AVal)} (z : Two s w o m n x y) (hm : 1 ≤ m ∧ m ≤ 1000) (hj : 0 ≤ (i : Int) ∧ (i : Int) ≤ 1000) (hn : n ≤ 100000)
    (hs : SlN 3 s0 hv rows) (hi : rows[i]? = some [.int .i64 k, .int .i64 st, .bool hd]) (hsub : Sub s0 s) (hw0 : s0 w = none) (ho0 : s0 o = none)
    (hI : ∀ s' x' y', Two s' w o m (n + 1) x' y' → Sub s0 s' → ∃ m', m' < m1 ∧ I [.ptr w 0, .ptr o 0, .int .i64 now, .int .i64 ((i : Int) + 1)] s' m') : vc_leafmeshlaw12_DetectScript_j4 XX hv (.ptr w 0) (.ptr o 0) (.int .i64 now) (.int .i64 (i : Int)) I m1 K s := by
  unfold vc_leafmeshlaw12_DetectScript_j4
  have rd : ∀ s', Sub s0 s' → ∃ b q, iaddrS 3 hv (.int .i64 (i : Int)) = some (.ptr b q) ∧ rd1 s' (.ptr b (q + 2)) = some (.bool hd) := by
    intro s' hs'
    obtain ⟨b, q, h1, h2⟩ := (hs.sub hs').get hi
    exact ⟨b, q, h1, by rw [h2 2 (by omega)]; rfl⟩
  obtain ⟨b, q, a1, a2⟩ := rd s hsub
  rw [a1]
  simp only [optK_mk, addOff_ptr, Nat.add_comm 2 q, a2]
  have hx := z.r.ok (by rw [z.xm]; exact hm.1) (by rw [z.xm]; exact hm.2)
  have go : ∀ (ch : Bool) (e : Int) s1, Sub s0 s1 → RtAt s1 o false y →
      (∀ er, rErr y now = some er → ch = false ∧ e = er) → (rErr y now = none → ch = rCh y now hd ∧ e = 0) →
      (∀ s2 y', RtAt s2 o false y' → KeepBut (· = o) s1 s2 → (rErr y now ≠ none → y' = y) → (rErr y now = none → y' = rTo y (rCh y now hd) now hd) → vc_leafmeshlaw12_DetectScript_j3 XX (.ptr w 0) (.ptr o 0) (.int .i64 now) (.int .i64 (i : Int)) I m1 K s2) →
      optK (rd1 s1 (.ptr b (q + 2))) fun v_55 =>
        wpCall Try.prog XX 27 [.ptr o 0, .int .i64 now, v_55] (fun v_56 s_57 =>
        optK (extractA v_56 0) fun v_58 =>
        optK (extractA v_56 1) fun v_59 =>
        optK (negB true (eqV 1 false (.bool ch) v_58)) fun v_60 =>
        boolK v_60
         (vc_leafmeshlaw12_DetectScript_j5 XX (.ptr w 0) (.ptr o 0) (.int .i64 now) (.int .i64 (i : Int)) v_60 .undef I m1 K s_57)
         (optK (negB true (eqV 0 false (.int .i64 e) v_59)) fun v_62 =>
          vc_leafmeshlaw12_DetectScript_j5 XX (.ptr w 0) (.ptr o 0) (.int .i64 now) (.int .i64 (i : Int)) v_60 v_62 I m1 K s_57)) s1 := by
    intro ch e s1 sub1 g1 c1 c2 c3
    obtain ⟨b', q', a1', a2'⟩ := rd s1 sub1
    rw [a1] at a1'
    cases a1'
    rw [a2']
    simp only [optK_mk]
    have hmany : 0 ≤ y.many ∧ y.many ≤ 1000000000 := by rw [z.r.many]; have := z.ch; omega
    refine rTick_in g1 z.hd (by rw [z.r.m, z.xm]; exact hm) hmany (fun er her => ?_) fun s2 her g2 k2 => ?_
    · obtain ⟨rfl, rfl⟩ := c1 er her
      simp only [extract_mk, List.getElem?_cons_zero, List.getElem?_cons_succ, optK_mk, eqV_bool, eqV_int, beq_self_eq_true, negB_mk, Bool.bne_true, Bool.not_true, boolK_false, vc_leafmeshlaw12_DetectScript_j5, pickV_false]
      exact c3 s1 y g1 (fun _ _ h _ => h) (fun _ => rfl) (fun hq => by rw [her] at hq; cases hq)
    · obtain ⟨rfl, rfl⟩ := c2 her
      simp only [extract_mk, List.getElem?_cons_zero, List.getElem?_cons_succ, optK_mk, eqV_bool, eqV_int, beq_self_eq_true, negB_mk, Bool.bne_true, Bool.not_true, boolK_false, vc_leafmeshlaw12_DetectScript_j5, pickV_false]
      exact c3 s2 _ g2 k2 (fun hq => absurd her hq) fun _ => rfl
  refine Tick_in z.h hx ⟨z.ch.1, by have := z.ch.2; omega⟩ (fun e s1 he h1 k1 => ?_) fun s1 he h1 k1 => ?_
  · simp only [extract_mk, List.getElem?_cons_zero, List.getElem?_cons_succ, optK_mk, a1, addOff_ptr, Nat.add_comm 2 q]
    have sub1 : Sub s0 s1 := fun p c hp => k1 p c (hsub p c hp) fun hq => by subst hq; rw [hw0] at hp; cases hp
    have g1 := z.g.keepW k1 z.ne
    refine go false e s1 sub1 g1 (fun er her => ⟨rfl, by rw [z.r.err, he] at her; cases her; rfl⟩) (fun her => by rw [z.r.err, he] at her; cases her) fun s2 y' g2 k2 y1 _ => ?_
    obtain rfl := y1 (by rw [z.r.err, he]; simp)
    have two : Two s2 w o m (n + 1) x y' := ⟨h1.keepR g1 k2 z.ne, g2, z.ne, z.r, z.xm, ⟨z.ch.1, by have := z.ch.2; omega⟩, z.hd⟩
    exact script_j3 two hm hj (hI s2 x y' two fun p c hp => k2 p c (sub1 p c hp) fun hq => by subst hq; rw [ho0] at hp; cases hp)
  · simp only [extract_mk, List.getElem?_cons_zero, List.getElem?_cons_succ, optK_mk, a1, addOff_ptr, Nat.add_comm 2 q]
    have sub1 : Sub s0 s1 := fun p c hp => k1 p c (hsub p c hp) fun hq => by subst hq; rw [hw0] at hp; cases hp
    have g1 := z.g.keepW k1 z.ne
    refine go _ 0 s1 sub1 g1 (fun er her => by rw [z.r.err, he] at her; cases her) (fun her => ⟨(z.r.ch he).symm, rfl⟩) fun s2 y' g2 k2 _ y2 => ?_
    obtain rfl := y2 (by rw [z.r.err, he])
    have hnow : 0 ≤ now ∧ now ≤ 1099511627776 := by
      unfold tickErr at he
      split at he
      · cases he
      · omega
    have two : Two s2 w o m (n + 1) (tickTo x now hd) (rTo y (rCh y now hd) now hd) := by
      refine ⟨h1.keepR g1 k2 z.ne, g2, z.ne, ?_, z.xm, ?_, ?_⟩
      · rw [z.r.ch he]; exact z.r.tick he
      · have := z.ch
        simp only [tickTo]
        split <;> omega
      · have := z.hd
        simp only [rTo]
        split <;> omega
    exact script_j3 two hm hj (hI s2 _ _ two fun p c hp => k2 p c (sub1 p c hp) fun hq => by subst hq; rw [ho0] at hp; cases hp)
end Go.AM
namespace Go.AM
open Go Go.Proofs
variable {K : AVal → Heap → Prop} {s : Heap} {w o : Nat} {t : Bool} {x : Wt} {y : Rt}
abbrev Act := Int × Int × Bool
def actR (a : Act) : List AVal := [.int .i64 a.1, .int .i64 a.2.1, .bool a.2.2]
def freshW (m : Int) : Wt := ⟨m, false, none, none, 0, 0⟩
def freshR (m : Int) : Rt := ⟨m, false, -1, 0, false, 0, 0⟩
theorem rr_fresh (m : Int) : Rr (freshW m) (freshR m) := ⟨rfl, rfl, rfl, fun n h => (by cases h), fun n h => (by cases h), rfl, fun h => (by simp [freshW] at h), rfl, rfl⟩
/-- a round that sets both back -/
theorem script_k5 {m now : Int} {n : Nat} {I : List AVal → Heap → Nat → Prop} {m1 : Nat} {i : Nat} {s0 : Heap} (z : Two s w o m n x y) (hm : 1 ≤ m ∧ m ≤ 1000) (hj : 0 ≤ (i : Int) ∧ (i : Int) ≤ 1000) (hsub : Sub s0 s) (hw0 : s0 w = none) (ho0 : s0 o = none)
    (hI : ∀ s', Two s' w o m n (freshW m) (freshR m) → Sub s0 s' → ∃ m', m' < m1 ∧ I [.ptr w 0, .ptr o 0, .int .i64 now, .int .i64 ((i : Int) + 1)] s' m') :
    wpCall Try.prog XX 13 [.ptr w 0] (fun v_27 s_28 =>
      optK (negB true (eqV 0 true v_27 (.int .i64 0))) fun v_29 =>
      boolK v_29
       (K (.bool false) s_28)
       (wpCall Try.prog XX 24 [.ptr o 0] (fun v_30 s_31 =>
        vc_leafmeshlaw12_DetectScript_j3 XX (.ptr w 0) (.ptr o 0) (.int .i64 now) (.int .i64 (i : Int)) I m1 K s_31) s_28)) s := by
  refine Reset_in z.h (by rw [z.xm]; omega) fun s1 h1 k1 => ?_
  simp only [eqV_int, beq_self_eq_true, negB_mk, Bool.bne_true, Bool.not_true, optK_mk, boolK_false]
  have sub1 : Sub s0 s1 := fun p c hp => k1 p c (hsub p c hp) fun hq => by subst hq; rw [hw0] at hp; cases hp
  have g1 := z.g.keepW k1 z.ne
  have ym : y.m = m := by rw [z.r.m, z.xm]
  refine rReset_in g1 (by omega) (by omega) fun s2 g2 k2 => ?_
  have two : Two s2 w o m n (freshW m) (freshR m) := ⟨by have := h1.keepR g1 k2 z.ne; rwa [z.xm] at this, by rwa [ym] at g2, z.ne, rr_fresh m, rfl, ⟨Int.le_refl _, by simp [freshW]⟩, by simp [freshR]⟩
  exact script_j3 two hm hj (hI s2 two fun p c hp => k2 p c (sub1 p c hp) fun hq => by subst hq; rw [ho0] at hp; cases hp)
/-- a round that goes on with copies -/
theorem script_k6 {m now : Int} {n : Nat} {I : List AVal → Heap → Nat → Prop} {m1 : Nat} {i : Nat} {s0 : Heap} (z : Two s w o m n x y) (hm : 1 ≤ m ∧ m ≤ 1000) (hj : 0 ≤ (i : Int) ∧ (i : Int) ≤ 1000) (hn : n ≤ 10000) (hsub : Sub s0 s) (hw0 : s0 w = none) (ho0 : s0 o = none)
    (hI : ∀ s' w' o', Two s' w' o' m n x y → Sub s0 s' → s0 w' = none → s0 o' = none → ∃ m', m' < m1 ∧ I [.ptr w' 0, .ptr o' 0, .int .i64 now, .int .i64 ((i : Int) + 1)] s' m') :
    wpCall Try.prog XX 25 [.ptr w 0] (fun v_33 s_34 =>
        wpCall Try.prog XX 26 [.ptr o 0] (fun v_35 s_36 =>
        optK (arithV .add (.int .i64 now) (.int .i64 1)) fun v_37 =>
        wpCall Try.prog XX 11 [.ptr w 0, v_37, (.bool true)] (fun v_38 s_39 =>
        optK (arithV .add (.int .i64 now) (.int .i64 2)) fun v_40 =>
        wpCall Try.prog XX 11 [.ptr w 0, v_40, (.bool true)] (fun v_41 s_42 =>
        wpCall Try.prog XX 13 [.ptr w 0] (fun v_43 s_44 =>
        vc_leafmeshlaw12_DetectScript_j3 XX v_33 v_35 (.int .i64 now) (.int .i64 (i : Int)) I m1 K s_44) s_42) s_39) s_36) s_34) s := by
  have hxm : 1 ≤ x.m ∧ x.m ≤ 1000 := by rw [z.xm]; exact hm
  refine Copy_in z.h (by omega) fun w' s1 sub1 hw' h1 => ?_
  have hold1 := z.h.sub sub1
  refine rCopy_in (z.g.sub sub1) fun o' s2 sub2 ho' g2 => ?_
  have hne : w' ≠ o' := by
    rintro rfl
    obtain ⟨e, L, D, q, _⟩ := h1
    rw [ho'] at q; cases q
  have hww : w' ≠ w := by
    rintro rfl
    obtain ⟨e, L, D, q, _⟩ := z.h
    rw [hw'] at q; cases q
  have how : w ≠ o' := by
    rintro rfl
    obtain ⟨e, L, D, q, _⟩ := hold1
    rw [ho'] at q; cases q
  have hw2 := h1.sub sub2
  have hold2 := hold1.sub sub2
  have hs2 : Sub s0 s2 := fun p c hp => sub2 _ _ (sub1 _ _ (hsub p c hp))
  have hw0' : s0 w' = none := by
    cases q : s0 w' with
    | none => rfl
    | some c => have := hsub _ _ q; rw [hw'] at this; cases this
  have ho0' : s0 o' = none := by
    cases q : s0 o' with
    | none => rfl
    | some c => have := sub1 _ _ (hsub _ _ q); rw [ho'] at this; cases this
  simp only [arith_add, optK_mk]
  refine tick_any hold2 z.r hxm z.ch (by omega) fun _ s3 x3 y3 h3 m3 r3 c3 k3 => ?_
  refine tick_any h3 r3 (by rw [m3]; exact hxm) c3 (by omega) fun _ s4 x4 y4 h4 m4 r4 c4 k4 => ?_
  refine Reset_in h4 (by rw [m4, m3]; omega) fun s5 h5 k5 => ?_
  have keep : KeepBut (· = w) s2 s5 := fun p c hp hq => k5 p c (k4 p c (k3 p c hp hq) hq) hq
  have two : Two s5 w' o' m n x y := ⟨(((hw2.keep hold2 k3 hww).keep h3 k4 hww).keep h4 k5 hww), g2.keepW keep how, hne, z.r, z.xm, z.ch, z.hd⟩
  exact script_j3 two hm hj (hI s5 w' o' two (fun p c hp => keep p c (hs2 p c hp) fun hq => by subst hq; rw [hw0] at hp; cases hp) hw0' ho0')
theorem script_loop {m : Int} {hv : AVal} {l : List Act} {s0 : Heap} (z : Two s w o m 0 (freshW m) (freshR m)) (hm : 1 ≤ m ∧ m ≤ 1000) (hl : l.length ≤ 200) (hs : SlN 3 s0 hv (l.map actR)) (hsub : Sub s0 s) (hw0 : s0 w = none) (ho0 : s0 o = none) :
    ∃ I1 : List AVal → Heap → Nat → Prop, (∃ m, I1 [.ptr w 0, .ptr o 0, (.int .i64 0), (.int .i64 0)] s m) ∧ ∀ (f : Env) (s : Heap) (m1 : Nat), I1 [f 5, f 7, f 9, f 10] s m1 →
      vc_leafmeshlaw12_DetectScript_l1 XX hv (f 5) (f 7) (f 9) (f 10) I1 m1 (fun v _ => v = .bool true) s := by
  refine ⟨fun ys s6 n => ∃ (w o : Nat) (x : Wt) (y : Rt) (now : Int) (j : Nat), ys = [.ptr w 0, .ptr o 0, .int .i64 now, .int .i64 (j : Int)] ∧ j ≤ l.length ∧ n = l.length - j ∧ Two s6 w o m j x y ∧ Sub s0 s6 ∧ s0 w = none ∧ s0 o = none,
    ⟨_, w, o, _, _, 0, 0, by simp, by omega, rfl, z, hsub, hw0, ho0⟩, ?_⟩
  clear z hsub hw0 ho0
  rintro fe s6 n ⟨w, o, x, y, now, j, hy, hj, rfl, z, hsub, hw0, ho0⟩
  simp only [List.cons.injEq, and_true] at hy
  rw [hy.1, hy.2.1, hy.2.2.1, hy.2.2.2]
  clear hy
  simp only [vc_leafmeshlaw12_DetectScript_l1, eqV_ptr, negB_mk, Bool.bne_false, optK_mk, boolK_true, hs.len, arith_lss, List.length_map, vc_leafmeshlaw12_DetectScript_j2, pickV_true]
  refine boolK_mk (fun hlt => ?_) (fun _ => known15 rfl)
  have hlt : j < l.length := by simpa using hlt
  obtain ⟨⟨k, st, hd⟩, hget⟩ : ∃ a, l[j]? = some a := ⟨_, List.getElem?_eq_getElem hlt⟩
  have hi : (l.map actR)[j]? = some [.int .i64 k, .int .i64 st, .bool hd] := by rw [List.getElem?_map, hget]; rfl
  have rd : ∀ s', Sub s0 s' → ∃ b q, iaddrS 3 hv (.int .i64 (j : Int)) = some (.ptr b q) ∧ rd1 s' (.ptr b q) = some (.int .i64 k) ∧ rd1 s' (.ptr b (q + 1)) = some (.int .i64 st) := by
    intro s' hs'
    obtain ⟨b, q, h1, h2⟩ := (hs.sub hs').get hi
    exact ⟨b, q, h1, by have := h2 0 (by omega); simpa using this, by rw [h2 1 (by omega)]; rfl⟩
  obtain ⟨b, q, a1, a2, a3⟩ := rd s6 hsub
  rw [a1]
  simp only [optK_mk, addOff_ptr, Nat.add_zero, a2, a3]
  refine Pick_in (by omega) (by omega) ?_
  simp only [eqV_int, negB_mk, Bool.false_bne, optK_mk]
  refine boolK_mk (fun _ => ?_) (fun _ => ?_)
  · refine script_k5 (K := fun v _ => v = .bool true) (i := j) z hm ⟨by omega, by omega⟩ hsub hw0 ho0 fun s' two sub' => ?_
    exact ⟨l.length - (j + 1), by omega, w, o, _, _, now, j + 1, by simp, by omega, rfl, ⟨two.h, two.g, two.ne, two.r, two.xm, ⟨two.ch.1, by have := two.ch.2; omega⟩, two.hd⟩, sub', hw0, ho0⟩
  · refine boolK_mk (fun _ => ?_) (fun _ => ?_)
    · refine script_k6 (K := fun v _ => v = .bool true) (i := j) z hm ⟨by omega, by omega⟩ (by omega) hsub hw0 ho0 fun s' w' o' two sub' hw' ho' => ?_
      exact ⟨l.length - (j + 1), by omega, w', o', _, _, now, j + 1, by simp, by omega, rfl, ⟨two.h, two.g, two.ne, two.r, two.xm, ⟨two.ch.1, by have := two.ch.2; omega⟩, two.hd⟩, sub', hw', ho'⟩
    · refine boolK_mk (fun _ => ?_) (fun _ => ?_)
      · rw [a3]
        simp only [optK_mk]
        refine script_j4 z hm ⟨by omega, by omega⟩ (by omega) hs hi hsub hw0 ho0 fun s' x' y' two sub' => ?_
        exact ⟨l.length - (j + 1), by omega, w, o, _, _, st, j + 1, by simp, by omega, rfl, two, sub', hw0, ho0⟩
      · rw [a3]
        simp only [arith_add, optK_mk]
        refine script_j4 z hm ⟨by omega, by omega⟩ (by omega) hs hi hsub hw0 ho0 fun s' x' y' two sub' => ?_
        exact ⟨l.length - (j + 1), by omega, w, o, _, _, IntKind.i64.wrap (now + st), j + 1, by simp, by omega, rfl, two, sub', hw0, ho0⟩
theorem Script_in {m : Int} {hv : AVal} {l : List Act} (hs : SlN 3 s hv (l.map actR)) : wpCall Try.prog XX 7 [.int .i64 m, hv] (fun v _ => v = .bool true) s := by
  refine vc_leafmeshlaw12_DetectScript_in ?_
  simp only [vc_leafmeshlaw12_DetectScript, hs.len, optK_mk, arith_gtr, List.length_map]
  refine boolK_mk (fun _ => known15 rfl) (fun hlen => ?_)
  have hlen : l.length ≤ 200 := by have := of_decide_eq_false hlen; omega
  refine New_in (fun w s1 sub1 hw0 hw1 h1 h2 => ?_) (fun hn => ?_)
  · simp only [extract_mk, List.getElem?_cons_zero, List.getElem?_cons_succ, optK_mk]
    refine rNew_in (fun o s2 sub2 ho0 g2 _ _ => ?_) fun hn => absurd ⟨h1, h2⟩ hn
    simp only [extract_mk, List.getElem?_cons_zero, List.getElem?_cons_succ, optK_mk, eqV_int, beq_self_eq_true, negB_mk, Bool.bne_true, Bool.not_true, boolK_false, eqV_ptr, Bool.bne_false, eqV_bool, vc_leafmeshlaw12_DetectScript_j0, pickV_false]
    have hwo : w ≠ o := by
      rintro rfl
      obtain ⟨e, L, D, q, _⟩ := hw1
      rw [ho0] at q; cases q
    have hos : s o = none := by
      cases q : s o with
      | none => rfl
      | some c => have := sub1 _ _ q; rw [ho0] at this; cases this
    refine script_loop (s0 := s) ⟨hw1.sub sub2, g2, hwo, rr_fresh m, rfl, ⟨Int.le_refl _, by simp [freshW]⟩, by simp [freshR]⟩ ⟨h1, h2⟩ hlen hs (fun p c hp => sub2 _ _ (sub1 _ _ hp)) hw0 hos
  · simp only [extract_mk, List.getElem?_cons_zero, List.getElem?_cons_succ, optK_mk]
    refine rNew_in (fun o s2 sub2 ho0 g2 h1 h2 => absurd ⟨h1, h2⟩ hn) fun _ => ?_
    · simp only [extract_mk, List.getElem?_cons_zero, List.getElem?_cons_succ, optK_mk, eqV_int, beq_self_eq_true, negB_mk, Bool.bne_true, Bool.not_true, boolK_false, eqV_nilptr, eqV_bool, vc_leafmeshlaw12_DetectScript_j0, pickV_false]
      refine ⟨fun ys s6 n => ys = [.nilptr, .nilptr, .int .i64 0, .int .i64 0], ⟨0, rfl⟩, ?_⟩
      rintro fe s6 n hy
      simp only [List.cons.injEq, and_true] at hy
      rw [hy.1, hy.2.1, hy.2.2.1, hy.2.2.2]
      simp only [vc_leafmeshlaw12_DetectScript_l1, eqV_nilptr, negB_mk, Bool.bne_true, Bool.not_true, optK_mk, boolK_false, vc_leafmeshlaw12_DetectScript_j2, pickV_false]
      exact known15 rfl
theorem arg_rows {P : Program} {d : Nat} {t e : TypeId} {v : AVal} (hu : P.underlying t = some (.slice e)) {A : Type} (f : A → List AVal) (Q : A → Prop) (hf : ∀ a, (f a).length = P.cellsOf e) (he : ∀ xs, Inp P s d e xs → ∃ a, xs = f a ∧ Q a) (h : Arg P s (d + 1) t v) : ∃ l : List A, SlN (P.cellsOf e) s v (l.map f) ∧ (∀ a ∈ l, Q a) ∧ l.length ≤ maxLen := by
  obtain ⟨h1, _, h3⟩ := h
  have : isAggT P t ≠ some true := by unfold isAggT; rw [hu]; simp
  rw [h3 this] at h1
  obtain ⟨v', e1, h4⟩ := inp_rows hu f Q hf he h1
  cases e1
  exact h4
theorem inp_cell {P : Program} {d : Nat} {u : TypeId} {xs : List AVal} {k : Nat} (hc : P.cellsOf u = 1) (hk : k < xs.length) (h : Inp P s d u ((xs.drop k).take (P.cellsOf u))) : ∃ a, xs[k]? = some a ∧ Inp P s d u [a] := by
  rw [hc, List.drop_eq_getElem_cons hk] at h
  exact ⟨_, List.getElem?_eq_getElem hk, h⟩
theorem act_inp {d : Nat} {xs : List AVal} (h : Inp Try.prog s (d + 2) 49 xs) : ∃ a : Act, xs = actR a ∧ True := by
  unfold Inp at h
  simp only [Try.underlying49] at h
  obtain ⟨h1, h2⟩ := h
  rw [show Try.prog.cellsOf 49 = 3 by kernel_rfl] at h1
  have k0 := h2 _ (List.mem_cons_self)
  have k1 := h2 _ (List.mem_cons_of_mem _ List.mem_cons_self)
  have k2 := h2 _ (List.mem_cons_of_mem _ (List.mem_cons_of_mem _ List.mem_cons_self))
  obtain ⟨a, a1, a2⟩ := inp_cell (by kernel_rfl) (by rw [h1]; decide) k0
  obtain ⟨b, b1, b2⟩ := inp_cell (by kernel_rfl) (by rw [h1]; decide) k1
  obtain ⟨c, c1, c2⟩ := inp_cell (by kernel_rfl) (by rw [h1]; decide) k2
  obtain ⟨n, e1, _⟩ := inp_int Try.underlying3 a2
  obtain ⟨m, e2, _⟩ := inp_int Try.underlying3 b2
  obtain ⟨q, e3, _⟩ := inp_bool Try.underlying4 c2
  cases e1; cases e2; cases e3
  refine ⟨(n, m, q), ?_, trivial⟩
  match xs, h1 with
  | [u, v, w], _ =>
    simp only [List.getElem?_cons_zero, List.getElem?_cons_succ, Option.some.injEq] at a1 b1 c1
    rw [a1, b1, c1]; rfl
theorem Script_wp (s : Heap) (xs : List AVal) (h : ArgL Try.prog s 40 [3, 44] xs) : wpCall Try.prog XX 7 xs (fun v _ => v = .bool true) s := by
  obtain ⟨a, b, rfl, h1, h2⟩ := argl2 h
  obtain ⟨m, rfl, _⟩ := arg_int (d := 39) Try.underlying3 h1
  obtain ⟨l, hl, _, _⟩ := arg_rows (d := 39) Try.underlying44 actR (fun _ => True) (fun a => by rw [show Try.prog.cellsOf 49 = 3 by kernel_rfl]; rfl) (fun xs h => act_inp (d := 37) h) h2
  rw [show Try.prog.cellsOf 49 = 3 by kernel_rfl] at hl
  exact Script_in hl
end Go.AM
