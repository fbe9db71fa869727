/- Part 20 of a calculation in a small memory that is proved to answer as the program does: see the last part. -/
import Derived.Test.YtnbgeelhoakjgaaAm19
namespace Go.AM
open Go Go.RowKit
section
variable {P : Program} {σ : Nat → Value} {base nt : Nat} {ih : Task → M Out}
theorem WR.same {ρ : Ren} {H K : AHeap} {w : World} (h : WR σ ρ base H w) (hb : ∀ id, K.blks.get id = H.blks.get id) (hl : K.lo = H.lo) : WR σ ρ base K w := by
  obtain ⟨a, b, c, d⟩ := h
  refine ⟨fun id x hx => ?_, fun id x L hx hL hlo => ?_, fun i j bi bj Li Lj hi hj hLi hLj hlo hne => ?_, d⟩
  · rw [hl]; exact a id x ((hb id).symm.trans hx)
  · rw [hl] at hlo; exact b id x L ((hb id).symm.trans hx) hL hlo
  · rw [hl] at hlo; exact c i j bi bj Li Lj ((hb i).symm.trans hi) ((hb j).symm.trans hj) hLi hLj hlo hne
theorem TRel.same {ρ : Ren} {T T' : Tmps} {tm : Array Value} (h : TRel σ ρ nt T tm) (ht : ∀ t, tget T' t = tget T t) : TRel σ ρ nt T' tm :=
  ⟨h.size, fun i => by rw [ht]; exact h.at_ i⟩
def cntF : List Bool → Nat
  | [] => 0
  | b :: l => (if b then 0 else 1) + cntF l
theorem cntF_set : ∀ (l : List Bool) (i : Nat), l[i]? = some false → cntF (l.set i true) + 1 = cntF l
  | [], i, h => by simp at h
  | b :: l, 0, h => by simp at h; subst h; simp [cntF]; omega
  | b :: l, i + 1, h => by simp at h; have := cntF_set l i h; simp only [List.set_cons_succ, cntF]; omega
theorem cntF_zero : ∀ (l : List Bool), cntF l = 0 → ∀ i : Nat, l[i]? ≠ some false
  | [], _, i => by simp
  | b :: l, h, i => by
    simp only [cntF] at h
    cases b with
    | false => simp at h
    | true =>
      cases i with
      | zero => simp
      | succ i => simpa using cntF_zero l (by simpa using h) i
theorem cntF_replicate (n : Nat) : cntF (List.replicate n false) = n := by
  induction n with
  | zero => rfl
  | succ n ih => simp [List.replicate_succ, cntF, ih]; omega
def Done (listed : Array Bool) : Nat → Prop := fun i => listed.getD i true = true
theorem done_set {listed : Array Bool} {j : Nat} (h : listed.getD j true = false) : Done (listed.setIfInBounds j true) = fun i => i = j ∨ Done listed i := by
  funext i
  apply propext
  unfold Done
  by_cases e : j = i
  · subst e
    have hlt : j < listed.size := by
      rcases Nat.lt_or_ge j listed.size with h' | h'
      · exact h'
      · simp [Array.getElem?_eq_none h'] at h
    simp [hlt]
  · rw [getD_set_ne true e]
    exact ⟨.inr, fun h => h.resolve_left (fun k => e k.symm)⟩
theorem undone {listed : Array Bool} {j : Nat} (h : listed.getD j true = false) : listed.toList[j]? = some false := by
  rcases Nat.lt_or_ge j listed.size with h' | h'
  · simp [Array.getElem?_eq_getElem h'] at h
    simp [h', h]
  · simp [Array.getElem?_eq_none h'] at h
theorem done_of_false {listed : Array Bool} {j : Nat} (h : listed.getD j false = true) : Done listed j := by
  unfold Done
  rcases Nat.lt_or_ge j listed.size with h' | h'
  · simp [Array.getElem?_eq_getElem h'] at h ⊢; exact h
  · simp [Array.getElem?_eq_none h'] at h
variable {ops : Array Oper} {Ts : Nat → Tmps} {Hs : Nat → AHeap} {vs : Nat → AVal} {es : Nat → List (Nat × Bool)}
structure Inv (σ : Nat → Value) (base nt : Nat) (ops : Array Oper) (Ts : Nat → Tmps) (Hs : Nat → AHeap) (vs : Nat → AVal) (es : Nat → List (Nat × Bool)) (ρ0 : Ren) (w0 : World) (d0 : Act) (X : Nat → Prop) (T : Tmps) (H : AHeap) (ρ : Ren) (w : World) (a : Act) : Prop where
  closed : Closed ops X
  blks : ∀ id, H.blks.get id = cut Hs es X ops.size id
  tmps : ∀ t, tget T t = cutT ops Ts vs X ops.size t
  lo : H.lo = (Hs 0).lo
  free : ∀ j, j < ops.size → ¬ X j → Free ρ (Hs j).next (Hs (j + 1)).next
  ext : Ext ρ0 ρ (Hs 0).next (Hs ops.size).next
  wr : WR σ ρ base H w
  below : Below base w0 w
  rel : TRel σ ρ nt T a.tmps
  defers : a.defers = d0.defers
theorem inv_step (hc : CallOK P ih) (hr : RoundOK P ih) (hname : NoNum P) (hfr : ∀ t, Fr (ih t)) (hσ : One σ) (tr : Trace P ih nt ops Ts Hs vs es) {r : Option Nat} {Q : Exit → Act → World → Prop} {K : Act → World → Prop}
    {ρ0 ρ : Ren} {w0 w : World} {d0 a : Act} {X : Nat → Prop} {T : Tmps} {H : AHeap} (hi : Inv σ base nt ops Ts Hs vs es ρ0 w0 d0 X T H ρ w a) {j : Nat} {o : Oper} (ho : ops[j]? = some o) (hj : ¬ X j) (hready : ∀ e ∈ o.after, Region.binds .any e = true → X e.on)
    (hK : ∀ a' w' T' H' ρ', Inv σ base nt ops Ts Hs vs es ρ0 w0 d0 (fun i => i = j ∨ X i) T' H' ρ' w' a' → K a' w') : wpOpIn (FR r) 0 P ops Q j K a w := by
  have hjlt := (Array.getElem?_eq_some_iff.1 ho).1
  have hdid := tr.did j o ho
  obtain ⟨H2', e2, d2, n2, g2⟩ := hdid.fr { H with next := (Hs j).next } rfl (by show H.lo = _; rw [hi.lo, tr.lo_eq j (by omega)])
    (fun id b hb => by show H.blks.get id = _; rw [hi.blks, tr.blk_ready hi.closed ho hj hready hb])
  rw [← valOp_congr (P := P) (ih := ih) (T := T) (fun t ht => by rw [hi.tmps, tr.tmp_ready hi.closed ho hj hready ht])] at e2
  have hT' : ∃ T', setT nt T o.dst (vs j) = some T' := by
    have := hdid.set
    cases hd : o.dst with
    | none => exact ⟨T, rfl⟩
    | some d =>
      rw [hd] at this
      simp only [setT] at this ⊢
      obtain ⟨h1, _⟩ := condO_some this
      rw [h1]; exact ⟨_, rfl⟩
  obtain ⟨T', hT'⟩ := hT'
  unfold wpOpIn
  simp only [ho]
  refine valOp_ok hc hr hname e2 hfr hi.rel hσ (hi.wr.log rfl rfl) (by rw [n2]; exact hi.free j hjlt hj) ?_
  intro v' w' ρ' hp hv
  have hle : ∀ i k, i ≤ k → k ≤ ops.size → (Hs i).next ≤ (Hs k).next := fun i k h1 h2 => by
    have := tr.next_le (k - i) i (by omega)
    rwa [show i + (k - i) = k from by omega] at this
  refine hK _ w' T' H2' ρ' ⟨?_, ?_, ?_, ?_, ?_, ?_, hp.wr, hi.below.trans hp.below, ?_, ?_⟩
  · intro k p hp' hk e he hb
    rcases hk with rfl | hk
    · rw [ho] at hp'; cases hp'; exact .inr (hready e he hb)
    · exact .inr (hi.closed k p hp' hk e he hb)
  · exact tr.blk_step hi.closed ho hj (H := H) (fun id => hi.blks id) d2.same g2
  · exact tr.tmp_step hi.closed ho hj hi.tmps hT'
  · rw [d2.lo]; exact hi.lo
  · intro k hk hx
    have hkj : k ≠ j := fun e => hx (.inl e)
    have hxk : ¬ X k := fun h => hx (.inr h)
    intro id h1 h2
    rw [hp.ext.out id ?_]
    · exact hi.free k hk hxk id h1 h2
    · show id < (Hs j).next ∨ H2'.next ≤ id
      rw [n2]
      rcases Nat.lt_or_ge k j with h | h
      · have := hle (k + 1) j (by omega) (by omega); omega
      · have := hle (j + 1) k (by omega) (by omega); omega
  · refine ⟨hi.ext.le.trans hp.ext.le, fun id hid => ?_⟩
    rw [hp.ext.out id ?_, hi.ext.out id hid]
    show id < (Hs j).next ∨ H2'.next ≤ id
    rw [n2]
    have := hle 0 j (by omega) (by omega)
    have := hle (j + 1) ops.size (by omega) (by omega)
    omega
  · exact put_rel hT' (hi.rel.mono hp.ext.le) hv
  · rw [put_defers]; exact hi.defers
theorem any_ok (hc : CallOK P ih) (hr : RoundOK P ih) (hname : NoNum P) (hfr : ∀ t, Fr (ih t)) (hσ : One σ) (tr : Trace P ih nt ops Ts Hs vs es) {r : Option Nat} {Q : Exit → Act → World → Prop}
    {ρ0 : Ren} {w0 : World} {d0 : Act} (hQ : ∀ a' w' ρ', Ext ρ0 ρ' (Hs 0).next (Hs ops.size).next → WR σ ρ' base (Hs ops.size) w' → Below base w0 w' → TRel σ ρ' nt (Ts ops.size) a'.tmps → a'.defers = d0.defers → Q .normal a' w') :
    ∀ (fuel : Nat) (listed : Array Bool) (T : Tmps) (H : AHeap) (ρ : Ren) (w : World) (a : Act), listed.size = ops.size → cntF listed.toList ≤ fuel → Inv σ base nt ops Ts Hs vs es ρ0 w0 d0 (Done listed) T H ρ w a → wpAnyIn (FR r) 0 P .any ops Q fuel listed a w := by
  have fin : ∀ (listed : Array Bool) (T : Tmps) (H : AHeap) (ρ : Ren) (w : World) (a : Act), (∀ i, i < ops.size → Done listed i) → Inv σ base nt ops Ts Hs vs es ρ0 w0 d0 (Done listed) T H ρ w a → Q .normal a w := by
    intro listed T H ρ w a hall hi
    refine hQ a w ρ hi.ext (hi.wr.same (fun id => ?_) ?_) hi.below (hi.rel.same fun t => ?_) hi.defers
    · rw [hi.blks, tr.blk_all hall id ops.size (Nat.le_refl _)]
    · rw [hi.lo, tr.lo_eq _ (Nat.le_refl _)]
    · rw [hi.tmps, tr.tmp_all hall t ops.size (Nat.le_refl _)]
  have ready : ∀ (listed : Array Bool), listed.size = ops.size → Region.ready .any ops listed = [] → ∀ i, i < ops.size → Done listed i := by
    intro listed hs hnil i
    induction i using Nat.strongRecOn with
    | _ i ih2 =>
      intro hi
      unfold Done
      cases hg : listed.getD i true with
      | true => rfl
      | false =>
        exfalso
        have ho : ops[i]? = some ops[i] := Array.getElem?_eq_getElem hi
        have : i ∈ Region.ready .any ops listed := mem_ready.2 ⟨hg, _, ho, fun e he hb => by
          have hlt := tr.back i _ ho e he hb
          have := ih2 e.on hlt (by omega)
          unfold Done at this
          simp [Array.getElem?_eq_getElem (by omega : e.on < listed.size)] at this ⊢
          exact this⟩
        rw [hnil] at this; cases this
  intro fuel
  induction fuel with
  | zero =>
    intro listed T H ρ w a hs hcnt hi
    have hall : ∀ i, i < ops.size → Done listed i := by
      intro i _
      unfold Done
      cases hg : listed.getD i true with
      | true => rfl
      | false => exact absurd (undone hg) (cntF_zero _ (by omega) i)
    refine ⟨?_, fin _ _ _ _ _ _ hall hi⟩
    cases hrd : Region.ready .any ops listed with
    | nil => rfl
    | cons x xs =>
      exfalso
      have hx : x ∈ Region.ready .any ops listed := by rw [hrd]; simp
      obtain ⟨h1, o, ho, _⟩ := mem_ready.1 hx
      have := hall x (Array.getElem?_eq_some_iff.1 ho).1
      unfold Done at this
      rw [h1] at this; cases this
  | succ fuel ih2 =>
    intro listed T H ρ w a hs hcnt hi
    refine ⟨fun hnil => fin _ _ _ _ _ _ (ready listed hs hnil) hi, fun j hj => ?_⟩
    obtain ⟨hjun, o, ho, hall⟩ := mem_ready.1 hj
    have hjx : ¬ Done listed j := by unfold Done; rw [hjun]; simp
    refine inv_step hc hr hname hfr hσ tr hi ho hjx (fun e he hb => done_of_false (hall e he hb)) ?_
    intro a' w' T' H' ρ' hi'
    refine ih2 _ T' H' ρ' w' a' (by simp [hs]) ?_ (by rw [done_set hjun]; exact hi')
    have := cntF_set _ _ (undone hjun)
    rw [Array.toList_setIfInBounds]
    omega
theorem regionOk_spec {l : List Oper} (h : regionOk l = true) : backEdges l 0 = true ∧ ∀ o ∈ l, ∀ c, o.op ≠ .defer c := by
  simp only [regionOk, Bool.and_eq_true] at h
  refine ⟨h.1, fun o ho c e => ?_⟩
  have := List.all_eq_true.1 h.2 o ho
  rw [e] at this; cases this
theorem opsD_ok (hm : P.follows .mixedOrders = true) (hc : CallOK P ih) (hr : RoundOK P ih) (hname : NoNum P) (hfr : ∀ t, Fr (ih t)) (hσ : One σ) {id : Nat} {r : Option Nat} {Q : Exit → Act → World → Prop} {T T' : Tmps} {H H' : AHeap} {ρ : Ren} {w : World} {a : Act}
    (hok : regionOk ops.toList = true) (h : opsD P ih nt ops ops.toList (masks ops.toList []) [] T H = some (T', H')) (hT : TRel σ ρ nt T a.tmps) (hwr : WR σ ρ base H w) (hf : Free ρ H.next H'.next)
    (hQ : ∀ a' w' ρ', Post σ ρ ρ' base H H' w w' → TRel σ ρ' nt T' a'.tmps → a'.defers = a.defers → Q .normal a' w') : (Code.region id ops true).wpIn (FR r) 0 P Q a w := by
  have hback := (regionOk_spec hok).1
  obtain ⟨Ts, Hs, vs, es, a1, a2, a3, a4, a5⟩ := trace hfr ops.toList _ [] 0 T H T' H' rfl h
  simp only [Nat.zero_add, Array.length_toList] at a3 a4 a5
  have a5' : ∀ j o, ops[j]? = some o → _ := fun j o ho => a5 j o (by rw [Array.getElem?_toList]; exact ho)
  have tr : Trace P ih nt ops Ts Hs vs es := by
    refine ⟨fun j o ho => (a5' j o ho).1, fun j o ho e he hb => ?_, fun i j p o hij hp ho => ?_⟩
    · have := backEdges_spec ops.toList 0 hback j o (by rw [Array.getElem?_toList]; exact ho) e he hb
      omega
    · obtain ⟨_, mk, h1, _, h3⟩ := a5' j o ho
      exact ⟨mk, h1, h3 i p hij (by rw [Array.getElem?_toList]; exact hp)⟩
  subst a1 a2 a3 a4
  refine wpIn_region_any hm (any_ok (base := base) hc hr hname hfr hσ tr (ρ0 := ρ) (w0 := w) (d0 := a) ?_ ops.size _ (Ts 0) (Hs 0) ρ _ a (by simp) (by simp [cntF_replicate]) ?_)
  · intro a' w' ρ' h1 h2 h3 h4 h5
    exact hQ a' w' ρ' ⟨h1, h2, h3⟩ h4 h5
  · have hno : ∀ i, i < ops.size → ¬ Done (Array.replicate ops.size false) i := by
      intro i hi
      unfold Done
      simp [hi]
    have hle : ∀ i k, i ≤ k → k ≤ ops.size → (Hs i).next ≤ (Hs k).next := fun i k h1 h2 => by
      have := tr.next_le (k - i) i (by omega)
      rwa [show i + (k - i) = k from by omega] at this
    refine ⟨?_, ?_, ?_, rfl, ?_, .refl _ _ _, ?_, ?_, hT, rfl⟩
    · intro j o ho hj
      exact absurd hj (hno j (Array.getElem?_eq_some_iff.1 ho).1)
    · intro i
      have : ∀ n, n ≤ ops.size → cut Hs es (Done (Array.replicate ops.size false)) n i = (Hs 0).blks.get i := by
        intro n
        induction n with
        | zero => intro _; rfl
        | succ n ih2 => intro hn; rw [cut_no (fun k => absurd k (hno n (by omega))), ih2 (by omega)]
      rw [this _ (Nat.le_refl _)]
    · intro t
      have : ∀ n, n ≤ ops.size → cutT ops Ts vs (Done (Array.replicate ops.size false)) n t = tget (Ts 0) t := by
        intro n
        induction n with
        | zero => intro _; rfl
        | succ n ih2 => intro hn; rw [cutT_no (fun k => absurd k (hno n (by omega))), ih2 (by omega)]
      rw [this _ (Nat.le_refl _)]
    · intro j hj _ i h1 h2
      exact hf i (Nat.le_trans (hle 0 j (by omega) (by omega)) h1) (Nat.lt_of_lt_of_le h2 (hle (j + 1) ops.size (by omega) (by omega)))
    · obtain ⟨x1, x2, x3, x4⟩ := hwr
      exact ⟨x1, x2, x3, x4⟩
    · exact ⟨rfl, rfl, rfl, Nat.le_refl _, fun _ _ => rfl⟩
end
end Go.AM
