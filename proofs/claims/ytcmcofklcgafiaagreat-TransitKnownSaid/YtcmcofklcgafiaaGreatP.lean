/- Part P of the proof: see the last part. -/
import Derived.Test.YtcmcofklcgafiaaGreatA3
import Derived.Test.YtcmcofklcgafiaaGreatU1
import Derived.Test.YtcmcofklcgafiaaGreatU3
namespace Go.AM
open Go Go.RowKit
/-! ### a statement whose order is open, but for a last operation -/
section
variable {P : Program} {σ : Nat → Value} {base nt : Nat} {ih : Task → M Out}
/-- guards name earlier operations -/
def guardsIn (pre : List Oper) : Bool := pre.all fun o => match o.guard with
  | none => true
  | some (j, _) => Nat.blt j pre.length
/-- the last one waits for all others -/
def coverL (full : List Oper) (m : Nat) : Bool := (List.range m).all fun i => Nat.testBit ((masks full []).getD m 0) i
theorem get_push {pre : Array Oper} {oL : Oper} {j : Nat} (h : j < pre.size) : (pre.push oL)[j]? = pre[j]? := by
  rw [Array.getElem?_push]
  rw [if_neg (by omega)]
theorem yielded_push {pre : Array Oper} {oL : Oper} {tm : Array Value} {j : Nat} (h : j < pre.size) : yielded (pre.push oL) tm j = yielded pre tm j := by
  unfold yielded
  rw [get_push h]
theorem wanted_push {pre : Array Oper} {oL o : Oper} {tm : Array Value} (hg : guardsIn pre.toList = true) (ho : o ∈ pre.toList) : Region.wanted o (yielded (pre.push oL) tm) = Region.wanted o (yielded pre tm) := by
  have := List.all_eq_true.1 hg o ho
  unfold Region.wanted
  cases e : o.guard with
  | none => rfl
  | some p =>
    obtain ⟨j, w⟩ := p
    rw [e] at this
    simp only at this ⊢
    rw [yielded_push (by simpa [Nat.blt_eq] using this)]
theorem wpOpIn_push {F : Fence} {n : Nat} {pre : Array Oper} {oL : Oper} {Q : Exit → Act → World → Prop} {j : Nat} {K : Act → World → Prop} {a : Act} {w : World} (hg : guardsIn pre.toList = true) (hj : j < pre.size) (h : wpOpIn F n P pre Q j K a w) : wpOpIn F n P (pre.push oL) Q j K a w := by
  unfold wpOpIn at h ⊢
  rw [get_push hj]
  have ho : pre[j]? = some pre[j] := Array.getElem?_eq_getElem hj
  rw [ho] at h ⊢
  simp only at h ⊢
  rw [wanted_push hg (by simp)]
  exact h
theorem wpAny_done {F : Fence} {n : Nat} {ops : Array Oper} {Q : Exit → Act → World → Prop} {listed : Array Bool} {a : Act} {w : World} (hr : Region.ready .any ops listed = []) (h : Q .normal a w) : ∀ fuel, wpAnyIn F n P .any ops Q fuel listed a w
  | 0 => ⟨hr, h⟩
  | fuel + 1 => ⟨fun _ => h, fun i hi => by rw [hr] at hi; cases hi⟩
variable {pre : Array Oper} {oL : Oper} {Ts : Nat → Tmps} {Hs : Nat → AHeap} {vs : Nat → AVal} {es : Nat → List (Nat × Bool)}
theorem any_last (hc : CallOK P ih) (hr : RoundOK P ih) (hname : NoNum P) (hfr : ∀ t, Fr (ih t)) (hσ : One σ) (tr : Trace P ih nt pre Ts Hs vs es) (hg : guardsIn pre.toList = true) (hback : ∀ (j : Nat) (o : Oper), (pre.push oL)[j]? = some o → ∀ e ∈ o.after, Region.binds .any e = true → e.on < j)
    {mk : Nat} (hmk : (masks (pre.push oL).toList [])[pre.size]? = some mk) (hcov : ∀ i, i < pre.size → Nat.testBit mk i = true) {r : Option Nat} {Q : Exit → Act → World → Prop}
    {ρ0 : Ren} {w0 : World} {d0 : Act} (hQ : ∀ a' w' ρ', Ext ρ0 ρ' (Hs 0).next (Hs pre.size).next → WR σ ρ' base (Hs pre.size) w' → Below base w0 w' → TRel σ ρ' nt (Ts pre.size) a'.tmps → a'.defers = d0.defers → wpOpIn (FR r) 0 P (pre.push oL) Q pre.size (Q .normal) a' w') :
    ∀ (fuel : Nat) (listed : Array Bool) (T : Tmps) (H : AHeap) (ρ : Ren) (w : World) (a : Act), listed.size = (pre.push oL).size → listed.getD pre.size true = false → cntF listed.toList ≤ fuel → Inv σ base nt pre Ts Hs vs es ρ0 w0 d0 (fun i => i < pre.size ∧ Done listed i) T H ρ w a → wpAnyIn (FR r) 0 P .any (pre.push oL) Q fuel listed a w := by
  have hsz : (pre.push oL).size = pre.size + 1 := Array.size_push _
  have lastO : (pre.push oL)[pre.size]? = some oL := by simp
  have fin : ∀ (listed : Array Bool) (T : Tmps) (H : AHeap) (ρ : Ren) (w : World) (a : Act), (∀ i, i < pre.size → Done listed i) → Inv σ base nt pre Ts Hs vs es ρ0 w0 d0 (fun i => i < pre.size ∧ Done listed i) T H ρ w a → wpOpIn (FR r) 0 P (pre.push oL) Q pre.size (Q .normal) a w := by
    intro listed T H ρ w a hall hi
    have hall' : ∀ i, i < pre.size → i < pre.size ∧ Done listed i := fun i h => ⟨h, hall i h⟩
    refine hQ a w ρ hi.ext (hi.wr.same (fun id => ?_) ?_) hi.below (hi.rel.same fun t => ?_) hi.defers
    · rw [hi.blks, tr.blk_all hall' id pre.size (Nat.le_refl _)]
    · rw [hi.lo, tr.lo_eq _ (Nat.le_refl _)]
    · rw [hi.tmps, tr.tmp_all hall' t pre.size (Nat.le_refl _)]
  have ready : ∀ (listed : Array Bool), listed.size = (pre.push oL).size → Region.ready .any (pre.push oL) listed = [] → ∀ i, i < (pre.push oL).size → Done listed i := by
    intro listed hs hnil i
    induction i using Nat.strongRecOn with
    | _ i ih2 =>
      intro hi
      unfold Done
      cases hg : listed.getD i true with
      | true => rfl
      | false =>
        exfalso
        have ho : (pre.push oL)[i]? = some (pre.push oL)[i] := Array.getElem?_eq_getElem hi
        have : i ∈ Region.ready .any (pre.push oL) listed := mem_ready.2 ⟨hg, _, ho, fun e he hb => by
          have hlt := hback i _ ho e he hb
          have := ih2 e.on hlt (by omega)
          unfold Done at this
          simp [Array.getElem?_eq_getElem (by omega : e.on < listed.size)] at this ⊢
          exact this⟩
        rw [hnil] at this; cases this
  intro fuel
  induction fuel with
  | zero =>
    intro listed T H ρ w a hs hm hcnt hi
    exact absurd (undone hm) (cntF_zero _ (by omega) pre.size)
  | succ fuel ih2 =>
    intro listed T H ρ w a hs hm hcnt hi
    refine ⟨fun hnil => ?_, fun j hj => ?_⟩
    · have := ready listed hs hnil pre.size (by omega)
      unfold Done at this
      rw [hm] at this; cases this
    · obtain ⟨hjun, o, ho, hall⟩ := mem_ready.1 hj
      have hjlt := (Array.getElem?_eq_some_iff.1 ho).1
      by_cases hjm : j = pre.size
      · subst hjm
        rw [lastO] at ho
        cases ho
        -- all others have been done
        have hcl : ∀ (j : Nat) (o : Oper), (pre.push oL)[j]? = some o → (j < pre.size ∧ Done listed j) → ∀ e ∈ o.after, Region.binds .any e = true → (e.on < pre.size ∧ Done listed e.on) := fun j o ho hd e he hb => hi.closed j o (by rw [get_push hd.1] at ho; exact ho) hd e he hb
        have hdone : ∀ i, i < pre.size → Done listed i := fun i hi' =>
          (mask_closed hback (fun i => i < pre.size ∧ Done listed i) hcl pre.size oL mk i lastO hmk (hcov i hi') fun e he hb => ⟨hback pre.size oL lastO e he hb, done_of_false (hall e he hb)⟩).2
        refine wpOpIn_mono (fun a' w' hq => ?_) (fin listed T H ρ w a hdone hi)
        refine wpAny_done ?_ hq fuel
        cases hrd : Region.ready .any (pre.push oL) (listed.setIfInBounds pre.size true) with
        | nil => rfl
        | cons x xs =>
          exfalso
          have hx : x ∈ Region.ready .any (pre.push oL) (listed.setIfInBounds pre.size true) := by rw [hrd]; simp
          obtain ⟨h1, o, ho, _⟩ := mem_ready.1 hx
          have hxlt := (Array.getElem?_eq_some_iff.1 ho).1
          have : Done (listed.setIfInBounds pre.size true) x := by
            rw [done_set hm]
            by_cases e : x = pre.size
            · exact .inl e
            · exact .inr (hdone x (by omega))
          unfold Done at this
          rw [h1] at this; cases this
      · have hj' : j < pre.size := by omega
        rw [get_push hj'] at ho
        have hjx : ¬ (j < pre.size ∧ Done listed j) := by unfold Done; rw [hjun]; simp
        refine wpOpIn_push hg hj' ?_
        refine inv_step hc hr hname hfr hσ tr hi ho hjx (fun e he hb => ⟨by have := hback j o (by rw [get_push hj']; exact ho) e he hb; omega, done_of_false (hall e he hb)⟩) ?_
        intro a' w' T' H' ρ' hi'
        refine ih2 _ T' H' ρ' w' a' (by simp [hs]) ?_ ?_ ?_
        · have : Done (listed.setIfInBounds j true) pre.size ↔ (pre.size = j ∨ Done listed pre.size) := by rw [done_set hjun]
          cases e : (listed.setIfInBounds j true).getD pre.size true with
          | false => rfl
          | true =>
            exfalso
            rcases this.1 e with q | q
            · exact hjm q.symm
            · unfold Done at q; rw [hm] at q; cases q
        · have := cntF_set _ _ (undone hjun)
          rw [Array.toList_setIfInBounds]
          omega
        · have e : (fun i => i < pre.size ∧ Done (listed.setIfInBounds j true) i) = fun i => i = j ∨ (i < pre.size ∧ Done listed i) := by
            rw [done_set hjun]
            funext i
            apply propext
            constructor
            · rintro ⟨h1, h2⟩
              rcases h2 with h2 | h2
              · exact .inl h2
              · exact .inr ⟨h1, h2⟩
            · rintro (h1 | h1)
              · exact ⟨by omega, .inl h1⟩
              · exact ⟨h1.1, .inr h1.2⟩
          rw [e]
          exact hi'
theorem drawn_last (hm : P.follows .mixedOrders = true) (hc : CallOK P ih) (hr : RoundOK P ih) (hname : NoNum P) (hfr : ∀ t, Fr (ih t)) (hσ : One σ) {id : Nat} {r : Option Nat} {Q : Exit → Act → World → Prop} {T T1 : Tmps} {H K1 : AHeap} {ρ : Ren} {w : World} {a : Act}
    (hok : regionOk (pre.push oL).toList = true) (hokp : regionOk pre.toList = true) (hg : guardsIn pre.toList = true) (hcov : coverL (pre.push oL).toList pre.size = true) (h : opsD P ih nt pre pre.toList (masks pre.toList []) [] T H = some (T1, K1)) (hT : TRel σ ρ nt T a.tmps) (hwr : WR σ ρ base H w) (hf : Free ρ H.next K1.next)
    (hQ : ∀ a' w' ρ', Post σ ρ ρ' base H K1 w w' → TRel σ ρ' nt T1 a'.tmps → a'.defers = a.defers → wpOpIn (FR r) 0 P (pre.push oL) Q pre.size (Q .normal) a' w') : (Code.region id (pre.push oL) true).wpIn (FR r) 0 P Q a w := by
  have hsz : (pre.push oL).size = pre.size + 1 := Array.size_push _
  have hback := (regionOk_spec hok).1
  have hbackp := (regionOk_spec hokp).1
  obtain ⟨Ts, Hs, vs, es, a1, a2, a3, a4, a5⟩ := trace hfr pre.toList _ [] 0 T H T1 K1 rfl h
  simp only [Nat.zero_add, Array.length_toList] at a3 a4 a5
  have a5' : ∀ j o, pre[j]? = some o → _ := fun j o ho => a5 j o (by rw [Array.getElem?_toList]; exact ho)
  have tr : Trace P ih nt pre Ts Hs vs es := by
    refine ⟨fun j o ho => (a5' j o ho).1, fun j o ho e he hb => ?_, fun i j p o hij hp ho => ?_⟩
    · have := backEdges_spec pre.toList 0 hbackp j o (by rw [Array.getElem?_toList]; exact ho) e he hb
      omega
    · obtain ⟨_, mk, h1, _, h3⟩ := a5' j o ho
      exact ⟨mk, h1, h3 i p hij (by rw [Array.getElem?_toList]; exact hp)⟩
  subst a1 a2 a3 a4
  have hb : ∀ (j : Nat) (o : Oper), (pre.push oL)[j]? = some o → ∀ e ∈ o.after, Region.binds .any e = true → e.on < j := fun j o ho e he hb => by
    have := backEdges_spec (pre.push oL).toList 0 hback j o (by rw [Array.getElem?_toList]; exact ho) e he hb
    omega
  obtain ⟨mk, hmk⟩ : ∃ mk, (masks (pre.push oL).toList [])[pre.size]? = some mk := by
    have hl : (masks (pre.push oL).toList []).length = pre.size + 1 := by
      obtain ⟨L, h1, h2, _⟩ := masks_spec (pre.push oL).toList []
      rw [h1, List.length_append, h2]
      simp
    exact ⟨_, List.getElem?_eq_getElem (by omega)⟩
  have hcov' : ∀ i, i < pre.size → Nat.testBit mk i = true := fun i hi => by
    have := List.all_eq_true.1 hcov i (by simpa using hi)
    rw [List.getD_eq_getElem?_getD, hmk] at this
    exact this
  refine wpIn_region_any hm (any_last (base := base) hc hr hname hfr hσ tr hg hb hmk hcov' (ρ0 := ρ) (w0 := w) (d0 := a) ?_ (pre.push oL).size _ (Ts 0) (Hs 0) ρ _ a (by simp) (by simp) (by simp [cntF_replicate]) ?_)
  · intro a' w' ρ' h1 h2 h3 h4 h5
    exact hQ a' w' ρ' ⟨h1, h2, h3⟩ h4 h5
  · have hno : ∀ i, i < pre.size → ¬ (i < pre.size ∧ Done (Array.replicate (pre.push oL).size false) i) := by
      intro i hi hd
      have := hd.2
      unfold Done at this
      simp [show i < pre.size + 1 by omega] at this
    have hle : ∀ i k, i ≤ k → k ≤ pre.size → (Hs i).next ≤ (Hs k).next := fun i k h1 h2 => by
      have := tr.next_le (k - i) i (by omega)
      rwa [show i + (k - i) = k from by omega] at this
    refine ⟨?_, ?_, ?_, rfl, ?_, .refl _ _ _, ?_, ?_, hT, rfl⟩
    · intro j o ho hj
      exact absurd hj (hno j (Array.getElem?_eq_some_iff.1 ho).1)
    · intro i
      have : ∀ n, n ≤ pre.size → cut Hs es (fun i => i < pre.size ∧ Done (Array.replicate (pre.push oL).size false) i) n i = (Hs 0).blks.get i := by
        intro n
        induction n with
        | zero => intro _; rfl
        | succ n ih2 => intro hn; rw [cut_no (fun k => absurd k (hno n (by omega))), ih2 (by omega)]
      rw [this _ (Nat.le_refl _)]
    · intro t
      have : ∀ n, n ≤ pre.size → cutT pre Ts vs (fun i => i < pre.size ∧ Done (Array.replicate (pre.push oL).size false) i) n t = tget (Ts 0) t := by
        intro n
        induction n with
        | zero => intro _; rfl
        | succ n ih2 => intro hn; rw [cutT_no (fun k => absurd k (hno n (by omega))), ih2 (by omega)]
      rw [this _ (Nat.le_refl _)]
    · intro j hj _ i h1 h2
      exact hf i (Nat.le_trans (hle 0 j (by omega) (by omega)) h1) (Nat.lt_of_lt_of_le h2 (hle (j + 1) pre.size (by omega) (by omega)))
    · obtain ⟨x1, x2, x3, x4⟩ := hwr
      exact ⟨x1, x2, x3, x4⟩
    · exact ⟨rfl, rfl, rfl, Nat.le_refl _, fun _ _ => rfl⟩
end
end Go.AM
namespace Go.AM
open Go Go.RowKit
/-! ### a machine for functions that may panic -/
inductive PO where
  | done (o : Out)
  | pan (v : AVal) (T : Tmps) (ms : List Mk)
inductive PTask where
  | code (nt : Nat) (c : Code) (T : Tmps) (ms : List Mk)
  | call (f : FuncId) (args : List AVal)
section
variable (P : Program) (X : Told) (S : FuncId → Bool)
def setP (nt : Nat) (T : Tmps) (ms : List Mk) (dst : Option Tmp) (v : AVal) : M PO := bd (lift (setT nt T dst v)) fun T => ret (.done (.exit .nrm T ms))
def backP (nt : Nat) (T : Tmps) (ms : List Mk) (dst : Option Tmp) : PO → M PO
  | .done (.val v) => setP nt T ms dst v
  | .pan v _ _ => ret (.pan v T ms)
  | _ => fail
/-- a call of one of these functions -/
def isS (T : Tmps) (c : Call) : Bool := match c.callee with
  | .value f => match ev T f with
    | some (.fn (.func k) _ _) => S k
    | _ => false
  | _ => false
def nextP (ih : PTask → M PO) (nt : Nat) (T : Tmps) (ms : List Mk) (dst : Option Tmp) (nx : ANext) : M PO := match nx with
  | .enter f args => bd (ih (.call f args)) (backP nt T ms dst)
  | _ => fail
def plainP (old : Task → M Out) (nt : Nat) (all : List Oper) (o : Oper) (T : Tmps) (ms : List Mk) : M PO := bd (oneOp P old nt all o T) fun T => ret (.done (.exit .nrm T ms))
def opP (old : Task → M Out) (ih : PTask → M PO) (nt : Nat) (all : List Oper) (o : Oper) (T : Tmps) (ms : List Mk) : M PO := match wantedA all T o.guard with
  | some true => match o.op with
    | .panic x => match ev T x with
      | some (.ifc t v) => ret (.pan (.ifc t v) T ms)
      | _ => fail
    | .call c => cond (isS S T c) (bd (opA P T (.call c)) (nextP ih nt T ms o.dst)) (plainP P old nt all o T ms)
    | _ => plainP P old nt all o T ms
  | _ => plainP P old nt all o T ms
def opsP (old : Task → M Out) (ih : PTask → M PO) (nt : Nat) (all : List Oper) (ms : List Mk) : List Oper → Tmps → M PO
  | [], T => ret (.done (.exit .nrm T ms))
  | o :: os, T => bd (opP P S old ih nt all o T ms) fun r => match r with
    | .done (.exit .nrm T _) => opsP old ih nt all ms os T
    | r => ret r
/-- the last operation is a call of one of these functions, whatever the others do -/
def lastS (ops : List Oper) : Bool := match ops.getLast? with
  | some o => match o.guard, o.op with
    | none, .call c => (match c.callee with
      | .value (.func k) => S k
      | _ => false)
    | _, _ => false
  | none => false
def okLast (ops : Array Oper) : Bool := regionOk ops.toList && (regionOk ops.pop.toList && (guardsIn ops.pop.toList && coverL ops.toList ops.pop.size))
def oldP (old : Task → M Out) (nt : Nat) (c : Code) (T : Tmps) (ms : List Mk) : M PO := bd (old (.code nt none c T ms)) fun o => ret (.done o)
def codeP (old : Task → M Out) (ih : PTask → M PO) (nt : Nat) (c : Code) (T : Tmps) (ms : List Mk) : M PO := match c with
  | .region id ops draw => cond (draw && lastS S ops.toList)
      (cond (okLast ops) (bd (opsD P old nt ops.pop ops.pop.toList (masks ops.pop.toList []) [] T) fun T => opsP P S old ih nt ops.toList ms (ops.toList.drop ops.pop.size) T) fail)
      (cond (draw || (deferOf ops.toList).isSome) (oldP old nt (.region id ops draw) T ms) (opsP P S old ih nt ops.toList ms ops.toList T))
  | .seq a b => bd (ih (.code nt a T ms)) fun r => match r with
    | .done (.exit .nrm T ms) => ih (.code nt b T ms)
    | r => ret r
  | .cond x a b => match ev T x with
    | some (.bool t) => ih (.code nt (cond t a b) T ms)
    | _ => fail
  | .block id b => bd (ih (.code nt b T ms)) fun r => match r with
    | .done (.exit (.exit id') T ms) => cond (Nat.beq id' id) (ret (.done (.exit .nrm T ms))) (ret (.done (.exit (.exit id') T ms)))
    | r => ret r
  | .loop b => match mapStep b with
    | some _ => oldP old nt (.loop b) T ms
    | none => bd (ih (.code nt b T ms)) fun r => match r with
      | .done (.exit .nrm T ms) => ih (.code nt (.loop b) T ms)
      | r => ret r
  | c => oldP old nt c T ms
def recCode (fn : Func) (T : Tmps) (v : AVal) (c : Code) : Option (Code × Tmps) := match recTop c with
  | some (t, rest) => cond (Nat.blt t fn.ntmps) (some (rest, T.put t (some v))) none
  | none => none
/-- a deferred call that recovers -/
def runRec (old : Task → M Out) (k : FuncId) (args : List AVal) (v : AVal) : M Unit := match P.funcs[k]? with
  | some fn => match fn.body, fn.results.toList with
    | some c, [] => cond (Nat.ble args.length fn.ntmps) (match recCode fn (Tr.ofListAt .nil 0 args) v c with
      | some p => bd (old (.code fn.ntmps none p.1 p.2 [])) quietEnd
      | none => fail) fail
    | _, _ => fail
  | none => fail
def endP (old : Task → M Out) (rs : List ResultVar) : PO → M PO
  | .done (.exit e T ms) => match e with
    | .exit _ => fail
    | _ => bd (takeMarks P old ms) fun _ => bd (resultsA P T rs) fun vs => ret (.done (.val (oneV vs)))
  | .pan v T ms => match ms with
    | [] => ret (.pan v .nil [])
    | [.call k as] => bd (runRec P old k as v) fun _ => bd (resultsA P T rs) fun vs => ret (.done (.val (oneV vs)))
    | _ => fail
  | _ => fail
def fnP (old : Task → M Out) (ih : PTask → M PO) (f : FuncId) (args : List AVal) : M PO := match P.funcs[f]? with
  | some fn => match fn.body with
    | some c => cond (Nat.ble args.length fn.ntmps) (bd (ih (.code fn.ntmps c (Tr.ofListAt .nil 0 args) [])) (endP P old fn.results.toList)) fail
    | none => fail
  | none => fail
def runP : Nat → PTask → M PO
  | 0, _ => fail
  | n + 1, .code nt c T ms => codeP P S (run P X n) (runP n) nt c T ms
  | n + 1, .call f args => fnP P (run P X n) (runP n) f args
end

/-! ### the frame, and more fuel -/
section
variable {P : Program} {X : Told} {S : FuncId → Bool} {old old' : Task → M Out} {ih ih' : PTask → M PO}
theorem fr_setP (nt : Nat) (T : Tmps) (ms : List Mk) (dst : Option Tmp) (v : AVal) : Fr (setP nt T ms dst v) := fr_bd (fr_lift _) fun _ => fr_ret _
theorem fr_backP (nt : Nat) (T : Tmps) (ms : List Mk) (dst : Option Tmp) (r : PO) : Fr (backP nt T ms dst r) := by
  unfold backP; split
  · exact fr_setP _ _ _ _ _
  · exact fr_ret _
  · exact fr_fail
theorem fr_nextP (hi : ∀ t, Fr (ih t)) (nt : Nat) (T : Tmps) (ms : List Mk) (dst : Option Tmp) (nx : ANext) : Fr (nextP ih nt T ms dst nx) := by
  unfold nextP; split
  · exact fr_bd (hi _) fun _ => fr_backP _ _ _ _ _
  · exact fr_fail
theorem fr_plainP (ho : ∀ t, Fr (old t)) (nt : Nat) (all : List Oper) (o : Oper) (T : Tmps) (ms : List Mk) : Fr (plainP P old nt all o T ms) := fr_bd (fr_oneOp P ho _ _ _ _) fun _ => fr_ret _
theorem fr_opP (ho : ∀ t, Fr (old t)) (hi : ∀ t, Fr (ih t)) (nt : Nat) (all : List Oper) (o : Oper) (T : Tmps) (ms : List Mk) : Fr (opP P S old ih nt all o T ms) := by
  unfold opP; split
  · split
    · split
      · exact fr_ret _
      · exact fr_fail
    · exact fr_cond _ (fr_bd (fr_opA P _ _) fun _ => fr_nextP hi _ _ _ _ _) (fr_plainP ho _ _ _ _ _)
    · exact fr_plainP ho _ _ _ _ _
  · exact fr_plainP ho _ _ _ _ _
theorem fr_opsP (ho : ∀ t, Fr (old t)) (hi : ∀ t, Fr (ih t)) (nt : Nat) (all : List Oper) (ms : List Mk) : ∀ (os : List Oper) (T : Tmps), Fr (opsP P S old ih nt all ms os T)
  | [], _ => fr_ret _
  | o :: os, T => fr_bd (fr_opP ho hi _ _ _ _ _) fun r => by
    split
    · exact fr_opsP ho hi nt all ms os _
    · exact fr_ret _
theorem fr_oldP (ho : ∀ t, Fr (old t)) (nt : Nat) (c : Code) (T : Tmps) (ms : List Mk) : Fr (oldP old nt c T ms) := fr_bd (ho _) fun _ => fr_ret _
theorem fr_codeP (ho : ∀ t, Fr (old t)) (hi : ∀ t, Fr (ih t)) (nt : Nat) (c : Code) (T : Tmps) (ms : List Mk) : Fr (codeP P S old ih nt c T ms) := by
  unfold codeP
  split
  · exact fr_cond _ (fr_cond _ (fr_bd (fr_opsD P ho _ _ _ _ _ _) fun _ => fr_opsP ho hi _ _ _ _ _) fr_fail) (fr_cond _ (fr_oldP ho _ _ _ _) (fr_opsP ho hi _ _ _ _ _))
  · exact fr_bd (hi _) fun r => by split; exact hi _; exact fr_ret _
  · split; exact hi _; exact fr_fail
  · exact fr_bd (hi _) fun r => by split; exact fr_cond _ (fr_ret _) (fr_ret _); exact fr_ret _
  · split
    · exact fr_oldP ho _ _ _ _
    · exact fr_bd (hi _) fun r => by split; exact hi _; exact fr_ret _
  · exact fr_oldP ho _ _ _ _
theorem fr_runRec (ho : ∀ t, Fr (old t)) (k : FuncId) (args : List AVal) (v : AVal) : Fr (runRec P old k args v) := by
  unfold runRec
  repeat' first | exact fr_fail | (refine fr_cond _ ?_ ?_) | (refine fr_bd (ho _) fun _ => ?_) | split
  unfold quietEnd
  repeat' first | exact fr_fail | exact fr_ret _ | split
theorem fr_endP (ho : ∀ t, Fr (old t)) (rs : List ResultVar) (r : PO) : Fr (endP P old rs r) := by
  unfold endP
  split
  · split
    · exact fr_fail
    · exact fr_bd (fr_takeMarks P ho _) fun _ => fr_bd (fr_resultsA P _ _) fun _ => fr_ret _
  · split
    · exact fr_ret _
    · exact fr_bd (fr_runRec ho _ _ _) fun _ => fr_bd (fr_resultsA P _ _) fun _ => fr_ret _
    · exact fr_fail
  · exact fr_fail
theorem fr_fnP (ho : ∀ t, Fr (old t)) (hi : ∀ t, Fr (ih t)) (f : FuncId) (args : List AVal) : Fr (fnP P old ih f args) := by
  unfold fnP
  split
  · split
    · exact fr_cond _ (fr_bd (hi _) fun _ => fr_endP ho _ _) fr_fail
    · exact fr_fail
  · exact fr_fail
theorem fr_runP (hX : FrX X) : ∀ (n : Nat) (t : PTask), Fr (runP P X S n t)
  | 0, _ => fr_fail
  | n + 1, .code nt c T ms => fr_codeP (fr_run P hX n) (fr_runP hX n) nt c T ms
  | n + 1, .call f args => fr_fnP (fr_run P hX n) (fr_runP hX n) f args
theorem le_nextP (hi : ∀ t, LeM (ih t) (ih' t)) (nt : Nat) (T : Tmps) (ms : List Mk) (dst : Option Tmp) (nx : ANext) : LeM (nextP ih nt T ms dst nx) (nextP ih' nt T ms dst nx) := by
  unfold nextP; split
  · exact LeM.bd (hi _) fun _ => LeM.refl _
  · exact LeM.refl _
theorem le_plainP (ho : ∀ t, LeM (old t) (old' t)) (nt : Nat) (all : List Oper) (o : Oper) (T : Tmps) (ms : List Mk) : LeM (plainP P old nt all o T ms) (plainP P old' nt all o T ms) := LeM.bd (le_oneOp ho _ _ _ _) fun _ => LeM.refl _
theorem le_opP (ho : ∀ t, LeM (old t) (old' t)) (hi : ∀ t, LeM (ih t) (ih' t)) (nt : Nat) (all : List Oper) (o : Oper) (T : Tmps) (ms : List Mk) : LeM (opP P S old ih nt all o T ms) (opP P S old' ih' nt all o T ms) := by
  unfold opP; split
  · split
    · exact LeM.refl _
    · exact LeM.cond (LeM.bd (LeM.refl _) fun _ => le_nextP hi _ _ _ _ _) (le_plainP ho _ _ _ _ _)
    · exact le_plainP ho _ _ _ _ _
  · exact le_plainP ho _ _ _ _ _
theorem le_opsP (ho : ∀ t, LeM (old t) (old' t)) (hi : ∀ t, LeM (ih t) (ih' t)) (nt : Nat) (all : List Oper) (ms : List Mk) : ∀ (os : List Oper) (T : Tmps), LeM (opsP P S old ih nt all ms os T) (opsP P S old' ih' nt all ms os T)
  | [], _ => LeM.refl _
  | o :: os, T => LeM.bd (le_opP ho hi _ _ _ _ _) fun r => by
    split
    · exact le_opsP ho hi nt all ms os _
    · exact LeM.refl _
theorem le_oldP (ho : ∀ t, LeM (old t) (old' t)) (nt : Nat) (c : Code) (T : Tmps) (ms : List Mk) : LeM (oldP old nt c T ms) (oldP old' nt c T ms) := LeM.bd (ho _) fun _ => LeM.refl _
theorem le_codeP (ho : ∀ t, LeM (old t) (old' t)) (hi : ∀ t, LeM (ih t) (ih' t)) (nt : Nat) (c : Code) (T : Tmps) (ms : List Mk) : LeM (codeP P S old ih nt c T ms) (codeP P S old' ih' nt c T ms) := by
  unfold codeP
  split
  · exact LeM.cond (LeM.cond (LeM.bd (le_opsD ho _ _ _ _ _ _) fun _ => le_opsP ho hi _ _ _ _ _) (LeM.refl _)) (LeM.cond (le_oldP ho _ _ _ _) (le_opsP ho hi _ _ _ _ _))
  · exact LeM.bd (hi _) fun r => by split; exact hi _; exact LeM.refl _
  · split; exact hi _; exact LeM.refl _
  · exact LeM.bd (hi _) fun r => LeM.refl _
  · split
    · exact le_oldP ho _ _ _ _
    · exact LeM.bd (hi _) fun r => by split; exact hi _; exact LeM.refl _
  · exact le_oldP ho _ _ _ _
theorem le_runRec (ho : ∀ t, LeM (old t) (old' t)) (k : FuncId) (args : List AVal) (v : AVal) : LeM (runRec P old k args v) (runRec P old' k args v) := by
  unfold runRec
  repeat' first | exact LeM.refl _ | (refine LeM.cond ?_ ?_) | (refine LeM.bd (ho _) fun _ => ?_) | split
theorem le_endP (ho : ∀ t, LeM (old t) (old' t)) (rs : List ResultVar) (r : PO) : LeM (endP P old rs r) (endP P old' rs r) := by
  unfold endP
  split
  · split
    · exact LeM.refl _
    · exact LeM.bd (le_takeMarks ho _) fun _ => LeM.refl _
  · split
    · exact LeM.refl _
    · exact LeM.bd (le_runRec ho _ _ _) fun _ => LeM.refl _
    · exact LeM.refl _
  · exact LeM.refl _
theorem le_fnP (ho : ∀ t, LeM (old t) (old' t)) (hi : ∀ t, LeM (ih t) (ih' t)) (f : FuncId) (args : List AVal) : LeM (fnP P old ih f args) (fnP P old' ih' f args) := by
  unfold fnP
  split
  · split
    · exact LeM.cond (LeM.bd (hi _) fun _ => le_endP ho _ _) (LeM.refl _)
    · exact LeM.refl _
  · exact LeM.refl _
theorem le_runP : ∀ (n : Nat) (t : PTask), LeM (runP P X S n t) (runP P X S (n + 1) t)
  | 0, _ => fun _ _ h => by cases h
  | n + 1, .code nt c T ms => le_codeP (le_run n) (le_runP n) nt c T ms
  | n + 1, .call f args => le_fnP (le_run n) (le_runP n) f args
theorem mono_runP (t : PTask) : Mono fun n => runP P X S n t := mono_of fun n => le_runP n t
end
end Go.AM
namespace Go.AM
open Go Go.RowKit
/-! ### what the machine calculates is what the program does -/
section
variable {P : Program} {σ : Nat → Value} {ρ : Ren} {base nt : Nat} {H H' : AHeap} {w : World} {T : Tmps} {a : Act} {old : Task → M Out} {ih : PTask → M PO} {S : FuncId → Bool}
/-- a panic that nobody has recovered from -/
def chainOf (v : Value) : List PanicEntry := [{ v, recovered := false }]
/-- what code leaves: an exit, or a panic -/
def GoalP (P : Program) (n nt : Nat) (c : Code) (T : Tmps) (ms : List Mk) (H : AHeap) (r : PO) (H' : AHeap) : Prop :=
  (∃ e T' ms', r = .done (.exit e T' ms') ∧ ∀ (σ : Nat → Value) (ρ : Ren) (base : Nat) (w : World) (a : Act) (Q : Exit → Act → World → Prop), One σ → WR σ ρ base H w → Free ρ H.next H'.next → TRel σ ρ nt T a.tmps → DRel σ ρ ms a.defers →
    (∀ a' w' ρ', CodePost σ ρ base nt H H' w T' ms' ρ' a' w' → Q (exitE e) a' w') → ACode none n P c Q a w) ∨
  ∃ v T' ms', r = .pan v T' ms' ∧ ∀ (σ : Nat → Value) (ρ : Ren) (base : Nat) (w : World) (a : Act) (Q : Exit → Act → World → Prop), One σ → WR σ ρ base H w → Free ρ H.next H'.next → TRel σ ρ nt T a.tmps → DRel σ ρ ms a.defers →
    (∀ a' w' ρ' v', CodePost σ ρ base nt H H' w T' ms' ρ' a' w' → Rel σ ρ' v v' → Q (.panic (chainOf v')) a' w') → ACode none n P c Q a w
def PanPost (σ : Nat → Value) (ρ : Ren) (base : Nat) (H H' : AHeap) (w : World) (v : AVal) : Ending → World → Prop :=
  fun e w' => ∃ v' ρ', e = .panicked (chainOf v') ∧ Post σ ρ ρ' base H H' w w' ∧ Rel σ ρ' v v'
def FnP (P : Program) (f : FuncId) (args : List AVal) (H : AHeap) (r : PO) (H' : AHeap) : Prop :=
  (∃ v, r = .done (.val v) ∧ ∀ (σ : Nat → Value) (ρ : Ren) (base : Nat) (w : World) (args' : Array Value), One σ → WR σ ρ base H w → Free ρ H.next H'.next → RelL σ ρ args args'.toList → CallsIn Fence.wide 0 P f args' w (ValPost σ ρ base H H' w v)) ∨
  ∃ v, r = .pan v .nil [] ∧ ∀ (σ : Nat → Value) (ρ : Ren) (base : Nat) (w : World) (args' : Array Value), One σ → WR σ ρ base H w → Free ρ H.next H'.next → RelL σ ρ args args'.toList → CallsIn Fence.wide 0 P f args' w (PanPost σ ρ base H H' w v)
def OKP (P : Program) (n : Nat) (ih : PTask → M PO) : Prop := (∀ (nt : Nat) (c : Code) (T : Tmps) (ms : List Mk) (H : AHeap) (r : PO) (H' : AHeap), ih (.code nt c T ms) H = some (r, H') → GoalP P n nt c T ms H r H') ∧
  ∀ (f : FuncId) (args : List AVal) (H : AHeap) (r : PO) (H' : AHeap), ih (.call f args) H = some (r, H') → FnP P f args H r H'
theorem nextP_of (hfr : ∀ t, Fr (ih t)) {t : PTask} {r : PO} (h : ih t H = some (r, H')) : H.next ≤ H'.next := by obtain ⟨es, d, _⟩ := hfr t H r H' h; exact d.next
/-- the operations of a statement from one on, whatever follows -/
def OpsP (P : Program) (nt : Nat) (ops : Array Oper) (l : List Nat) (T : Tmps) (ms : List Mk) (H : AHeap) (r : PO) (H' : AHeap) : Prop :=
  (∃ T', r = .done (.exit .nrm T' ms) ∧ ∀ (σ : Nat → Value) (ρ : Ren) (base : Nat) (w : World) (a : Act) (Q : Exit → Act → World → Prop) (rest : List Nat), One σ → WR σ ρ base H w → Free ρ H.next H'.next → TRel σ ρ nt T a.tmps →
    (∀ a' w' ρ', Post σ ρ ρ' base H H' w w' → TRel σ ρ' nt T' a'.tmps → a'.defers = a.defers → wpOpsIn (FR none) 0 P ops Q rest a' w') → wpOpsIn (FR none) 0 P ops Q (l ++ rest) a w) ∨
  ∃ v T', r = .pan v T' ms ∧ ∀ (σ : Nat → Value) (ρ : Ren) (base : Nat) (w : World) (a : Act) (Q : Exit → Act → World → Prop) (rest : List Nat), One σ → WR σ ρ base H w → Free ρ H.next H'.next → TRel σ ρ nt T a.tmps →
    (∀ a' w' ρ' v', Post σ ρ ρ' base H H' w w' → TRel σ ρ' nt T' a'.tmps → a'.defers = a.defers → Rel σ ρ' v v' → Q (.panic (chainOf v')) a' w') → wpOpsIn (FR none) 0 P ops Q (l ++ rest) a w
theorem plain_ok (hc : CallOK P old) (hr : RoundOK P old) (hname : NoNum P) (hfr : ∀ t, Fr (old t)) {ops : Array Oper} {k : Nat} {o : Oper} {ms : List Mk} {r : PO} (ho : ops[k]? = some o) (h : plainP P old nt ops.toList o T ms H = some (r, H')) : OpsP P nt ops [k] T ms H r H' := by
  obtain ⟨T1, K, h1, h2⟩ := bd_some h
  cases ret_some h2
  obtain ⟨v, h3, h4⟩ := oneOp_some h1
  refine .inl ⟨T1, rfl, fun σ ρ base w a Q rest hσ hwr hf hT hQ => ?_⟩
  simp only [List.cons_append, List.nil_append, wpOpsIn, ho]
  refine valOp_ok hc hr hname h3 hfr hT hσ hwr hf fun v' w1 ρ1 hp hv => ?_
  exact hQ _ w1 ρ1 hp (put_rel h4 (hT.mono hp.ext.le) hv) (put_defers _ _ _)
theorem op_okP (hc : CallOK P old) (hr : RoundOK P old) (hname : NoNum P) (hfr : ∀ t, Fr (old t)) {n : Nat} (hi : OKP P n ih) (hfi : ∀ t, Fr (ih t)) {ops : Array Oper} {k : Nat} {o : Oper} {ms : List Mk} {r : PO} (ho : ops[k]? = some o) (h : opP P S old ih nt ops.toList o T ms H = some (r, H')) : OpsP P nt ops [k] T ms H r H' := by
  unfold opP at h
  cases hw : wantedA ops.toList T o.guard with
  | none => simp only [hw] at h; exact plain_ok hc hr hname hfr ho h
  | some wb =>
  cases wb with
  | false => simp only [hw] at h; exact plain_ok hc hr hname hfr ho h
  | true =>
  simp only [hw] at h
  cases hop : o.op with
  | panic x =>
    simp only [hop] at h
    generalize hx : ev T x = y at h
    have bad : (fail : M PO) H = some (r, H') → False := fun h => fail_some h
    cases y with
    | none => exact (bad h).elim
    | some y =>
    cases y <;> try exact (bad h).elim
    case ifc t v =>
    cases ret_some h
    refine .inr ⟨_, T, rfl, fun σ ρ base w a Q rest hσ hwr hf hT hQ => ?_⟩
    simp only [List.cons_append, List.nil_append, wpOpsIn, ho]
    rw [if_pos (wanted_rel hw hT)]
    refine ⟨wide_about, ?_⟩
    have hv := ev_rel (a := a) hx hT
    have hv' := hv
    unfold Rel at hv'
    obtain ⟨y, hy, _⟩ := hv'
    have e1 : ((o.semAt (FR none).round a.eval).run P w) = .halt (.panic (a.eval x)) w := by
      show ((o.semAt none a.eval).run P w) = _
      rw [Oper.semAt_none]
      simp only [execOp, hop]
      rw [hy]
      rfl
    rw [e1, Oper.uponIn_panic]
    exact hQ a w ρ _ ⟨.refl _ _ _, hwr, .refl _ _⟩ hT rfl hv
  | call c =>
    simp only [hop] at h
    cases hS : isS S T c with
    | false => rw [hS, cond_false] at h; exact plain_ok hc hr hname hfr ho h
    | true =>
    rw [hS, cond_true] at h
    obtain ⟨nx, K, h1, h2⟩ := bd_some h
    have m1 : H.next ≤ K.next := by obtain ⟨es, d, _⟩ := fr_opA P T (.call c) H nx K h1; exact d.next
    have m2 : K.next ≤ H'.next := by obtain ⟨es, d, _⟩ := fr_nextP hfi nt T ms o.dst nx K r H' h2; exact d.next
    unfold nextP at h2
    cases nx with
    | val u => exact (fail_some h2).elim
    | round l args => exact (fail_some h2).elim
    | enter f args =>
    simp only at h2
    obtain ⟨q, K2, h3, h4⟩ := bd_some h2
    have m3 : K.next ≤ K2.next := nextP_of hfi h3
    have step : ∀ (σ : Nat → Value) (ρ : Ren) (base : Nat) (w : World) (a : Act), One σ → WR σ ρ base H w → Free ρ H.next K2.next → TRel σ ρ nt T a.tmps →
        ∃ w1 ρ1 args', Post σ ρ ρ1 base H K w w1 ∧ RelL σ ρ1 args args'.toList ∧ ((o.semAt (FR none).round a.eval).run P w) = .ok (.enter f args') w1 := by
      intro σ ρ base w a hσ hwr hf hT
      obtain ⟨nx', w1, ρ1, e1, x1, x2, x3, x4⟩ := op_ok (P := P) (a := a) (o := o) hname (by rw [hop]; exact h1) hT hσ hwr (hf.left m3)
      obtain ⟨args', rfl, hargs⟩ := x4
      refine ⟨w1, ρ1, args', ⟨x1, x2, x3⟩, hargs, ?_⟩
      show ((o.semAt none a.eval).run P w) = _
      rw [Oper.semAt_none]
      exact e1
    rcases hi.2 f args K q K2 h3 with ⟨v, rfl, hv⟩ | ⟨v, rfl, hv⟩
    · obtain ⟨T1, K3, h5, h6⟩ := bd_some h4
      obtain ⟨T2, h7, e⟩ := lift_some h5
      cases e
      cases ret_some h6
      refine .inl ⟨T1, rfl, fun σ ρ base w a Q rest hσ hwr hf hT hQ => ?_⟩
      simp only [List.cons_append, List.nil_append, wpOpsIn, ho]
      rw [if_pos (wanted_rel hw hT)]
      obtain ⟨w1, ρ1, args', p1, hargs, e1⟩ := step σ ρ base w a hσ hwr hf hT
      refine ⟨wide_about, ?_⟩
      rw [e1, Oper.uponIn_enter]
      refine ⟨fun h => by simp [FR, Fence.wide] at h, ?_⟩
      have h8 : CallsIn (FR none) 0 P f args' w1 (ValPost σ ρ1 base K H' w1 v) := hv σ ρ1 base w1 args' hσ p1.wr (p1.ext.free hf m1) hargs
      refine h8.mono ?_
      rintro e w2 ⟨v', ρ', rfl, hp, hv'⟩
      have pall := p1.trans hp m1 m3
      exact hQ _ w2 ρ' pall (put_rel h7 (hT.mono pall.ext.le) hv') (put_defers _ _ _)
    · cases ret_some h4
      refine .inr ⟨v, T, rfl, fun σ ρ base w a Q rest hσ hwr hf hT hQ => ?_⟩
      simp only [List.cons_append, List.nil_append, wpOpsIn, ho]
      rw [if_pos (wanted_rel hw hT)]
      obtain ⟨w1, ρ1, args', p1, hargs, e1⟩ := step σ ρ base w a hσ hwr hf hT
      refine ⟨wide_about, ?_⟩
      rw [e1, Oper.uponIn_enter]
      refine ⟨fun h => by simp [FR, Fence.wide] at h, ?_⟩
      have h8 : CallsIn (FR none) 0 P f args' w1 (PanPost σ ρ1 base K H' w1 v) := hv σ ρ1 base w1 args' hσ p1.wr (p1.ext.free hf m1) hargs
      refine h8.mono ?_
      rintro e w2 ⟨v', ρ', rfl, hp, hv'⟩
      have pall := p1.trans hp m1 m3
      exact hQ a w2 ρ' v' pall (hT.mono pall.ext.le) rfl hv'
  | _ =>
    simp only [hop] at h
    exact plain_ok hc hr hname hfr ho h
theorem ops_okP (hc : CallOK P old) (hr : RoundOK P old) (hname : NoNum P) (hfr : ∀ t, Fr (old t)) {n : Nat} (hi : OKP P n ih) (hfi : ∀ t, Fr (ih t)) {ops : Array Oper} {ms : List Mk} : ∀ (os : List Oper) (k : Nat) (T : Tmps) (H : AHeap) (r : PO) (H' : AHeap), (∀ j, j < os.length → os[j]? = ops[k + j]?) → opsP P S old ih nt ops.toList ms os T H = some (r, H') → OpsP P nt ops (List.range' k os.length) T ms H r H'
  | [], k, T, H, r, H', _, h => by
    cases ret_some h
    exact .inl ⟨T, rfl, fun σ ρ base w a Q rest hσ hwr hf hT hQ => hQ a w ρ ⟨.refl _ _ _, hwr, .refl _ _⟩ hT rfl⟩
  | o :: os, k, T, H, r, H', hk, h => by
    obtain ⟨q, K, h1, h2⟩ := bd_some h
    have h0 : ops[k]? = some o := by have := hk 0 (by simp); simpa using this.symm
    have m1 : H.next ≤ K.next := by obtain ⟨es, d, _⟩ := fr_opP (P := P) (S := S) hfr hfi nt ops.toList o T ms H q K h1; exact d.next
    have er : List.range' k (o :: os).length = k :: List.range' (k + 1) os.length := by rw [List.length_cons, List.range'_succ]
    rw [er]
    rcases op_okP hc hr hname hfr hi hfi h0 h1 with ⟨T1, rfl, k1⟩ | ⟨v, T1, rfl, k1⟩
    · have m2 : K.next ≤ H'.next := by obtain ⟨es, d, _⟩ := fr_opsP (P := P) (S := S) hfr hfi nt ops.toList ms os T1 K r H' h2; exact d.next
      rcases ops_okP hc hr hname hfr hi hfi os (k + 1) T1 K r H' (fun j hj => by have := hk (j + 1) (by simpa using hj); rw [show k + 1 + j = k + (j + 1) from by omega]; simpa using this) h2 with ⟨T2, rfl, k2⟩ | ⟨v, T2, rfl, k2⟩
      · refine .inl ⟨T2, rfl, fun σ ρ base w a Q rest hσ hwr hf hT hQ => ?_⟩
        refine k1 σ ρ base w a Q (List.range' (k + 1) os.length ++ rest) hσ hwr (hf.left m2) hT fun a1 w1 ρ1 p1 t1 d1 => ?_
        refine k2 σ ρ1 base w1 a1 Q rest hσ p1.wr (p1.ext.free hf m1) t1 fun a2 w2 ρ2 p2 t2 d2 => ?_
        exact hQ a2 w2 ρ2 (p1.trans p2 m1 m2) t2 (d2.trans d1)
      · refine .inr ⟨v, T2, rfl, fun σ ρ base w a Q rest hσ hwr hf hT hQ => ?_⟩
        refine k1 σ ρ base w a Q (List.range' (k + 1) os.length ++ rest) hσ hwr (hf.left m2) hT fun a1 w1 ρ1 p1 t1 d1 => ?_
        refine k2 σ ρ1 base w1 a1 Q rest hσ p1.wr (p1.ext.free hf m1) t1 fun a2 w2 ρ2 v' p2 t2 d2 hv => ?_
        exact hQ a2 w2 ρ2 v' (p1.trans p2 m1 m2) t2 (d2.trans d1) hv
    · cases ret_some h2
      refine .inr ⟨v, T1, rfl, fun σ ρ base w a Q rest hσ hwr hf hT hQ => ?_⟩
      exact k1 σ ρ base w a Q (List.range' (k + 1) os.length ++ rest) hσ hwr hf hT hQ
end
end Go.AM
namespace Go.AM
open Go Go.RowKit
section
variable {P : Program} {σ : Nat → Value} {ρ : Ren} {base nt : Nat} {H H' : AHeap} {w : World} {T : Tmps} {a : Act} {old : Task → M Out} {ih : PTask → M PO} {S : FuncId → Bool} {n : Nat}
theorem ACode_up {r : Option Nat} {c : Code} {Q : Exit → Act → World → Prop} (h : ACode r n P c Q a w) (hm : ∀ b, c = .loop b → (mapStep b).isSome = true) : ACode r (n + 1) P c Q a w := by
  cases c <;> try exact h
  case loop b =>
  have := hm b rfl
  unfold ACode at h ⊢
  simp only at h ⊢
  cases e : mapStep b with
  | none => rw [e] at this; cases this
  | some s => rw [e] at h; exact h
theorem old_okP (hco : CodeOK P n old) {c : Code} (hm : ∀ b, c = .loop b → (mapStep b).isSome = true) {ms : List Mk} {r : PO} (h : oldP old nt c T ms H = some (r, H')) : GoalP P (n + 1) nt c T ms H r H' := by
  obtain ⟨o, K, h1, h2⟩ := bd_some h
  cases ret_some h2
  obtain ⟨e, T', ms', rfl, k⟩ := hco _ _ _ _ _ _ _ _ h1
  exact .inl ⟨e, T', ms', rfl, fun σ ρ base w a Q hσ hwr hf hT hd hQ => ACode_up (k σ ρ base w a none Q hσ hwr hf hT rfl hd hQ) hm⟩
theorem last_push {ops : Array Oper} (h : lastS S ops.toList = true) : ∃ oL, ops = ops.pop.push oL ∧ ops.toList.drop ops.pop.size = [oL] := by
  unfold lastS at h
  cases e : ops.toList.getLast? with
  | none => rw [e] at h; cases h
  | some oL =>
    have h1 : ops.toList = ops.toList.dropLast ++ [oL] := by
      have hne : ops.toList ≠ [] := fun q => by rw [q] at e; cases e
      rw [List.getLast?_eq_some_getLast hne] at e
      have := (List.dropLast_concat_getLast hne).symm
      rw [Option.some.inj e] at this
      exact this
    refine ⟨oL, ?_, ?_⟩
    · apply Array.toList_inj.1
      rw [Array.toList_push, Array.toList_pop]
      exact h1
    · have h2 : ops.pop.size = ops.toList.dropLast.length := by simp
      rw [h2]
      conv => lhs; rw [h1]
      simp
theorem code_okP (hmo : P.follows .mixedOrders = true) (hco : CodeOK P n old) (hc : CallOK P old) (hr : RoundOK P old) (hname : NoNum P) (hfr : ∀ t, Fr (old t)) (hi : OKP P n ih) (hfi : ∀ t, Fr (ih t)) {c : Code} {ms : List Mk} {r : PO} (h : codeP P S old ih nt c T ms H = some (r, H')) : GoalP P (n + 1) nt c T ms H r H' := by
  cases c with
  | region id ops draw =>
    have e0 : codeP P S old ih nt (.region id ops draw) T ms = cond (draw && lastS S ops.toList)
      (cond (okLast ops) (bd (opsD P old nt ops.pop ops.pop.toList (masks ops.pop.toList []) [] T) fun T => opsP P S old ih nt ops.toList ms (ops.toList.drop ops.pop.size) T) fail)
      (cond (draw || (deferOf ops.toList).isSome) (oldP old nt (.region id ops draw) T ms) (opsP P S old ih nt ops.toList ms ops.toList T)) := rfl
    rw [e0] at h
    cases hdl : (draw && lastS S ops.toList) with
    | true =>
      rw [hdl, cond_true] at h
      obtain ⟨hd1, hl⟩ := Bool.and_eq_true_iff.1 hdl
      subst hd1
      obtain ⟨hok, h⟩ := cond_some h
      obtain ⟨T1, K, h1, h2⟩ := bd_some h
      obtain ⟨oL, hpush, hdrop⟩ := last_push hl
      unfold okLast at hok
      simp only [Bool.and_eq_true] at hok
      obtain ⟨k1, k2, k3, k4⟩ := hok
      rw [hdrop] at h2
      have m1 : H.next ≤ K.next := by obtain ⟨es, d, _⟩ := fr_opsD P hfr nt ops.pop ops.pop.toList (masks ops.pop.toList []) [] T H T1 K h1; exact d.next
      have m2 : K.next ≤ H'.next := by obtain ⟨es, d, _⟩ := fr_opsP (P := P) (S := S) hfr hfi nt ops.toList ms [oL] T1 K r H' h2; exact d.next
      have hget : ops[ops.pop.size]? = some oL := by
        have q : (ops.pop.push oL)[ops.pop.size]? = some oL := by rw [Array.getElem?_push, if_pos rfl]
        rwa [← hpush] at q
      have hk : ∀ j, j < [oL].length → [oL][j]? = ops[ops.pop.size + j]? := fun j hj => by
        have : j = 0 := by simpa using hj
        subst this
        simpa using hget.symm
      have er : List.range' ops.pop.size [oL].length ++ [] = [ops.pop.size] := rfl
      have hop : ∀ {Q : Exit → Act → World → Prop} {a : Act} {w : World}, wpOpsIn (FR none) 0 P ops Q (List.range' ops.pop.size [oL].length ++ []) a w → wpOpIn (FR none) 0 P (ops.pop.push oL) Q ops.pop.size (Q .normal) a w := fun {Q a w} hq => by
        rw [er, wpOpsIn_cons] at hq
        rw [← hpush]
        exact hq
      rcases ops_okP hc hr hname hfr hi hfi [oL] ops.pop.size T1 K r H' hk h2 with ⟨T2, rfl, q⟩ | ⟨v, T2, rfl, q⟩
      · refine .inl ⟨.nrm, T2, ms, rfl, fun σ ρ base w a Q hσ hwr hf hT hd hQ => ?_⟩
        show (Code.region id ops true).wpIn (FR none) 0 P Q a w
        rw [hpush]
        refine drawn_last (base := base) hmo hc hr hname hfr hσ (by rw [← hpush]; exact k1) k2 k3 (by rw [← hpush]; exact k4) h1 hT hwr (hf.left m2) fun a1 w1 ρ1 p1 t1 d1 => hop ?_
        refine q σ ρ1 base w1 a1 Q [] hσ p1.wr (p1.ext.free hf m1) t1 fun a2 w2 ρ2 p2 t2 d2 => ?_
        have pall := p1.trans p2 m1 m2
        exact hQ a2 w2 ρ2 ⟨pall, t2, by rw [d2, d1]; exact hd.mono pall.ext.le⟩
      · refine .inr ⟨v, T2, ms, rfl, fun σ ρ base w a Q hσ hwr hf hT hd hQ => ?_⟩
        show (Code.region id ops true).wpIn (FR none) 0 P Q a w
        rw [hpush]
        refine drawn_last (base := base) hmo hc hr hname hfr hσ (by rw [← hpush]; exact k1) k2 k3 (by rw [← hpush]; exact k4) h1 hT hwr (hf.left m2) fun a1 w1 ρ1 p1 t1 d1 => hop ?_
        refine q σ ρ1 base w1 a1 Q [] hσ p1.wr (p1.ext.free hf m1) t1 fun a2 w2 ρ2 v' p2 t2 d2 hv => ?_
        have pall := p1.trans p2 m1 m2
        exact hQ a2 w2 ρ2 v' ⟨pall, t2, by rw [d2, d1]; exact hd.mono pall.ext.le⟩ hv
    | false =>
    rw [hdl, cond_false] at h
    cases hd : (draw || (deferOf ops.toList).isSome) with
    | true => rw [hd, cond_true] at h; exact old_okP hco (fun _ e => by cases e) h
    | false =>
      rw [hd, cond_false] at h
      obtain ⟨hd1, _⟩ := Bool.or_eq_false_iff.1 hd
      subst hd1
      have hk : ∀ j, j < ops.toList.length → ops.toList[j]? = ops[0 + j]? := fun j _ => by simp
      have er : List.range ops.size = List.range' 0 ops.toList.length ++ [] := by rw [List.range_eq_range', List.append_nil, Array.length_toList]
      rcases ops_okP hc hr hname hfr hi hfi ops.toList 0 T H r H' hk h with ⟨T1, rfl, k1⟩ | ⟨v, T1, rfl, k1⟩
      · refine .inl ⟨.nrm, T1, ms, rfl, fun σ ρ base w a Q hσ hwr hf hT hd hQ => wpIn_region ?_⟩
        rw [er]
        refine k1 σ ρ base w a Q [] hσ hwr hf hT fun a1 w1 ρ1 p1 t1 d1 => ?_
        exact hQ a1 w1 ρ1 ⟨p1, t1, by rw [d1]; exact hd.mono p1.ext.le⟩
      · refine .inr ⟨v, T1, ms, rfl, fun σ ρ base w a Q hσ hwr hf hT hd hQ => wpIn_region ?_⟩
        rw [er]
        refine k1 σ ρ base w a Q [] hσ hwr hf hT fun a1 w1 ρ1 v' p1 t1 d1 hv => ?_
        exact hQ a1 w1 ρ1 v' ⟨p1, t1, by rw [d1]; exact hd.mono p1.ext.le⟩ hv
  | seq x y =>
    obtain ⟨q, K, h1, h2⟩ := bd_some h
    have m1 := nextP_of hfi h1
    rcases hi.1 _ _ _ _ _ _ _ h1 with ⟨e, T1, ms1, rfl, k1⟩ | ⟨v, T1, ms1, rfl, k1⟩
    · cases e with
      | nrm =>
        have m2 := nextP_of hfi h2
        rcases hi.1 _ _ _ _ _ _ _ h2 with ⟨e, T2, ms2, rfl, k2⟩ | ⟨v, T2, ms2, rfl, k2⟩
        · refine .inl ⟨e, T2, ms2, rfl, fun σ ρ base w a Q hσ hwr hf hT hd hQ => wpIn_seq (ACode.wp (n := n) ?_)⟩
          refine k1 σ ρ base w a _ hσ hwr (hf.left m2) hT hd fun a1 w1 ρ1 p1 => ?_
          exact ACode.wp (n := n) (k2 σ ρ1 base w1 a1 Q hσ p1.post.wr (p1.post.ext.free hf m1) p1.tmps p1.defers fun a2 w2 ρ2 p2 => hQ a2 w2 ρ2 (p1.trans p2 m1 m2))
        · refine .inr ⟨v, T2, ms2, rfl, fun σ ρ base w a Q hσ hwr hf hT hd hQ => wpIn_seq (ACode.wp (n := n) ?_)⟩
          refine k1 σ ρ base w a _ hσ hwr (hf.left m2) hT hd fun a1 w1 ρ1 p1 => ?_
          exact ACode.wp (n := n) (k2 σ ρ1 base w1 a1 Q hσ p1.post.wr (p1.post.ext.free hf m1) p1.tmps p1.defers fun a2 w2 ρ2 v' p2 hv => hQ a2 w2 ρ2 v' (p1.trans p2 m1 m2) hv)
      | exit id =>
        cases ret_some h2
        exact .inl ⟨.exit id, T1, ms1, rfl, fun σ ρ base w a Q hσ hwr hf hT hd hQ => wpIn_seq (ACode.wp (n := n) (k1 σ ρ base w a _ hσ hwr hf hT hd fun a1 w1 ρ1 p1 => hQ a1 w1 ρ1 p1))⟩
      | ret =>
        cases ret_some h2
        exact .inl ⟨.ret, T1, ms1, rfl, fun σ ρ base w a Q hσ hwr hf hT hd hQ => wpIn_seq (ACode.wp (n := n) (k1 σ ρ base w a _ hσ hwr hf hT hd fun a1 w1 ρ1 p1 => hQ a1 w1 ρ1 p1))⟩
    · cases ret_some h2
      exact .inr ⟨v, T1, ms1, rfl, fun σ ρ base w a Q hσ hwr hf hT hd hQ => wpIn_seq (ACode.wp (n := n) (k1 σ ρ base w a _ hσ hwr hf hT hd fun a1 w1 ρ1 v' p1 hv => hQ a1 w1 ρ1 v' p1 hv))⟩
  | cond x y z =>
    unfold codeP at h
    simp only at h
    generalize hx : ev T x = v at h
    have bad : (fail : M PO) H = some (r, H') → False := fun h => fail_some h
    cases v with
    | none => exact (bad h).elim
    | some v =>
    cases v <;> try exact (bad h).elim
    case bool t =>
    rcases hi.1 _ _ _ _ _ _ _ h with ⟨e, T1, ms1, rfl, k1⟩ | ⟨v, T1, ms1, rfl, k1⟩
    · refine .inl ⟨e, T1, ms1, rfl, fun σ ρ base w a Q hσ hwr hf hT hd hQ => ?_⟩
      have hv := ev_rel (a := a) hx hT
      unfold Rel at hv
      refine wpIn_cond hv ?_
      have := ACode.wp (n := n) (k1 σ ρ base w a Q hσ hwr hf hT hd hQ)
      cases t <;> exact this
    · refine .inr ⟨v, T1, ms1, rfl, fun σ ρ base w a Q hσ hwr hf hT hd hQ => ?_⟩
      have hv := ev_rel (a := a) hx hT
      unfold Rel at hv
      refine wpIn_cond hv ?_
      have := ACode.wp (n := n) (k1 σ ρ base w a Q hσ hwr hf hT hd hQ)
      cases t <;> exact this
  | block id c =>
    obtain ⟨q, K, h1, h2⟩ := bd_some h
    rcases hi.1 _ _ _ _ _ _ _ h1 with ⟨e, T1, ms1, rfl, k1⟩ | ⟨v, T1, ms1, rfl, k1⟩
    · cases e with
      | nrm =>
        cases ret_some h2
        exact .inl ⟨.nrm, T1, ms1, rfl, fun σ ρ base w a Q hσ hwr hf hT hd hQ => wpIn_block (ACode.wp (n := n) (k1 σ ρ base w a _ hσ hwr hf hT hd fun a1 w1 ρ1 p1 => hQ a1 w1 ρ1 p1))⟩
      | ret =>
        cases ret_some h2
        exact .inl ⟨.ret, T1, ms1, rfl, fun σ ρ base w a Q hσ hwr hf hT hd hQ => wpIn_block (ACode.wp (n := n) (k1 σ ρ base w a _ hσ hwr hf hT hd fun a1 w1 ρ1 p1 => hQ a1 w1 ρ1 p1))⟩
      | exit id' =>
        cases hb : Nat.beq id' id with
        | true =>
          simp only [hb, cond_true] at h2
          cases ret_some h2
          have e := Nat.eq_of_beq_eq_true hb
          exact .inl ⟨.nrm, T1, ms1, rfl, fun σ ρ base w a Q hσ hwr hf hT hd hQ => wpIn_block (ACode.wp (n := n) (k1 σ ρ base w a _ hσ hwr hf hT hd fun a1 w1 ρ1 p1 => by
            show (if id' = id then _ else _)
            rw [if_pos e]; exact hQ a1 w1 ρ1 p1))⟩
        | false =>
          simp only [hb, cond_false] at h2
          cases ret_some h2
          have e : id' ≠ id := fun e => by subst e; simp at hb
          exact .inl ⟨.exit id', T1, ms1, rfl, fun σ ρ base w a Q hσ hwr hf hT hd hQ => wpIn_block (ACode.wp (n := n) (k1 σ ρ base w a _ hσ hwr hf hT hd fun a1 w1 ρ1 p1 => by
            show (if id' = id then _ else _)
            rw [if_neg e]; exact hQ a1 w1 ρ1 p1))⟩
    · cases ret_some h2
      exact .inr ⟨v, T1, ms1, rfl, fun σ ρ base w a Q hσ hwr hf hT hd hQ => wpIn_block (ACode.wp (n := n) (k1 σ ρ base w a _ hσ hwr hf hT hd fun a1 w1 ρ1 v' p1 hv => hQ a1 w1 ρ1 v' p1 hv))⟩
  | loop c =>
    have e0 : codeP P S old ih nt (.loop c) T ms = (match mapStep c with
      | some _ => oldP old nt (.loop c) T ms
      | none => bd (ih (.code nt c T ms)) fun r => match r with
        | .done (.exit .nrm T ms) => ih (.code nt (.loop c) T ms)
        | r => ret r) := rfl
    rw [e0] at h
    cases hs : mapStep c with
    | some s => rw [hs] at h; exact old_okP hco (fun b e => by cases e; rw [hs]; rfl) h
    | none =>
    rw [hs] at h
    obtain ⟨q, K, h1, h2⟩ := bd_some h
    have m1 := nextP_of hfi h1
    have hA : ∀ (Q : Exit → Act → World → Prop) (a : Act) (w : World) (k : Nat), ACode none k P (.loop c) Q a w = Code.roundsIn (FR none) 0 P c Q k a w := fun Q a w k => by unfold ACode; simp only [hs]
    rcases hi.1 _ _ _ _ _ _ _ h1 with ⟨e, T1, ms1, rfl, k1⟩ | ⟨v, T1, ms1, rfl, k1⟩
    · cases e with
      | nrm =>
        have m2 := nextP_of hfi h2
        rcases hi.1 _ _ _ _ _ _ _ h2 with ⟨e, T2, ms2, rfl, k2⟩ | ⟨v, T2, ms2, rfl, k2⟩
        · refine .inl ⟨e, T2, ms2, rfl, fun σ ρ base w a Q hσ hwr hf hT hd hQ => (hA Q a w (n + 1)).mpr (ACode.wp (n := n) (c := c) ?_)⟩
          refine k1 σ ρ base w a _ hσ hwr (hf.left m2) hT hd fun a1 w1 ρ1 p1 => ?_
          exact (hA Q a1 w1 n).mp (k2 σ ρ1 base w1 a1 Q hσ p1.post.wr (p1.post.ext.free hf m1) p1.tmps p1.defers fun a2 w2 ρ2 p2 => hQ a2 w2 ρ2 (p1.trans p2 m1 m2))
        · refine .inr ⟨v, T2, ms2, rfl, fun σ ρ base w a Q hσ hwr hf hT hd hQ => (hA Q a w (n + 1)).mpr (ACode.wp (n := n) (c := c) ?_)⟩
          refine k1 σ ρ base w a _ hσ hwr (hf.left m2) hT hd fun a1 w1 ρ1 p1 => ?_
          exact (hA Q a1 w1 n).mp (k2 σ ρ1 base w1 a1 Q hσ p1.post.wr (p1.post.ext.free hf m1) p1.tmps p1.defers fun a2 w2 ρ2 v' p2 hv => hQ a2 w2 ρ2 v' (p1.trans p2 m1 m2) hv)
      | exit id =>
        cases ret_some h2
        exact .inl ⟨.exit id, T1, ms1, rfl, fun σ ρ base w a Q hσ hwr hf hT hd hQ => (hA Q a w (n + 1)).mpr (ACode.wp (n := n) (c := c) (k1 σ ρ base w a _ hσ hwr hf hT hd fun a1 w1 ρ1 p1 => hQ a1 w1 ρ1 p1))⟩
      | ret =>
        cases ret_some h2
        exact .inl ⟨.ret, T1, ms1, rfl, fun σ ρ base w a Q hσ hwr hf hT hd hQ => (hA Q a w (n + 1)).mpr (ACode.wp (n := n) (c := c) (k1 σ ρ base w a _ hσ hwr hf hT hd fun a1 w1 ρ1 p1 => hQ a1 w1 ρ1 p1))⟩
    · cases ret_some h2
      exact .inr ⟨v, T1, ms1, rfl, fun σ ρ base w a Q hσ hwr hf hT hd hQ => (hA Q a w (n + 1)).mpr (ACode.wp (n := n) (c := c) (k1 σ ρ base w a _ hσ hwr hf hT hd fun a1 w1 ρ1 v' p1 hv => hQ a1 w1 ρ1 v' p1 hv))⟩
  | _ => exact old_okP hco (fun _ e => by cases e) h
end
end Go.AM
namespace Go.AM
open Go Go.RowKit
section
variable {P : Program} {σ : Nat → Value} {ρ : Ren} {base nt : Nat} {H H' : AHeap} {w : World} {T : Tmps} {a : Act} {old : Task → M Out} {ih : PTask → M PO} {S : FuncId → Bool} {n : Nat}
/-- a deferred call that recovers -/
theorem runRec_ok (hco : CodeOK P n old) (hfr : ∀ t, Fr (old t)) (hname : NoNum P) {k : FuncId} {args : List AVal} {v : AVal} {v' : Value} {u : Unit} (h : runRec P old k args v H = some (u, H')) {args' : Array Value} (hσ : One σ) (hwr : WR σ ρ base H w) (hf : Free ρ H.next H'.next) (hr : RelL σ ρ args args'.toList) (hv : Rel σ ρ v v')
    {R : Ending → FrameMode → World → Prop} (hR : ∀ z ρ' w', Post σ ρ ρ' base H H' w w' → R (.returned z) (.panicking [{ v := v', recovered := true }]) w') : isFn P k = true ∧ CallsDIn Fence.wide 0 P k args' (.panicking (chainOf v')) w R := by
  unfold runRec at h
  cases hfn : P.funcs[k]? with
  | none => simp only [hfn] at h; exact (fail_some h).elim
  | some fn =>
    simp only [hfn] at h
    cases hb : fn.body with
    | none => simp only [hb] at h; exact (fail_some h).elim
    | some c =>
      simp only [hb] at h
      generalize hrs : fn.results.toList = rs at h
      cases rs with
      | cons _ _ => exact (fail_some h).elim
      | nil =>
        obtain ⟨hle, h⟩ := cond_some h
        have hle : args.length ≤ fn.ntmps := by simpa [Nat.ble_eq] using hle
        refine ⟨by unfold isFn; rw [hfn]; simp [hb], ?_⟩
        generalize hdc : recCode fn (Tr.ofListAt .nil 0 args) v c = dc at h
        cases dc with
        | none => exact (fail_some h).elim
        | some p =>
          obtain ⟨c', T'⟩ := p
          obtain ⟨o, K, h1, h2⟩ := bd_some h
          obtain ⟨e, T1, ms1, rfl, k1⟩ := hco _ _ _ _ _ _ _ _ h1
          have hK : K = H' ∧ ms1 = [] ∧ (∀ i, e ≠ .exit i) := by
            cases e with
            | nrm => cases ms1 with
              | nil => cases ret_some h2; exact ⟨rfl, rfl, by simp⟩
              | cons _ _ => exact (fail_some (H := K) h2).elim
            | ret => cases ms1 with
              | nil => cases ret_some h2; exact ⟨rfl, rfl, by simp⟩
              | cons _ _ => exact (fail_some (H := K) h2).elim
            | exit i => exact (fail_some (H := K) h2).elim
          obtain ⟨rfl, rfl, hne⟩ := hK
          have hstart := params_start (nt := fn.ntmps) hr hle
          have hres : fn.results = #[] := by apply Array.toList_inj.1; rw [hrs]
          refine callsDIn_of_wpSIn hfn hb trivial fun c₀ cs hu => ?_
          have fin : ∀ (a0 : Act), a0.defers = [] → TRel σ ρ fn.ntmps T' a0.tmps → c'.wpSIn Fence.wide 0 P (bodyPostS P fn c₀ cs R) a0 ({ c₀ with mode := .panicking [{ v := v', recovered := true }] } :: cs) w := by
            intro a0 hd0 hT0
            refine wpSIn_of_wpIn rfl (ACode.wp (n := n) (k1 σ ρ base w a0 none _ hσ hwr hf hT0 rfl (by rw [hd0]; rfl) fun a1 w1 ρ1 p1 => ?_))
            have hd1 : a1.defers = [] := p1.defers
            have main : a1.defers = [] ∧ ∃ u', ({ c₀ with mode := .panicking [{ v := v', recovered := true }] } :: cs) = { c₀ with mode := u' } :: cs ∧ ∃ z, (results fn a1.tmps).run P w1 = .ok z w1 ∧ R (.returned z) u' w1 :=
              ⟨hd1, .panicking [{ v := v', recovered := true }], rfl, .tuple #[], by simp [results, hres], hR _ ρ1 w1 p1.post⟩
            cases e with
            | nrm => exact main
            | ret => exact main
            | exit i => exact absurd rfl (hne i)
          unfold recCode at hdc
          cases hrt : recTop c with
          | none => rw [hrt] at hdc; cases hdc
          | some q =>
            obtain ⟨t, rest⟩ := q
            rw [hrt] at hdc
            obtain ⟨hlt, hdc⟩ := condO_some hdc
            cases hdc
            unfold recTop at hrt
            split at hrt
            · rename_i id ops rest'
              split at hrt
              · rename_i t' ts ty pos af hops
                cases hrt
                have e0 : ops = #[⟨some t, .call ⟨.builtin .recover, #[], ts⟩, ty, pos, af, none⟩] := by apply Array.toList_inj.1; rw [hops]
                subst e0
                refine wpSIn_seq (wpSIn_region ?_)
                simp only [List.size_toArray, List.length_cons, List.length_nil, Nat.zero_add, show List.range 1 = [0] from rfl, wpOpsSIn, List.getElem?_toArray, List.getElem?_cons_zero]
                refine ⟨wide_about, ?_⟩
                rw [if_pos (by unfold Region.wanted; rfl), rec_exec]
                have hrec : recoverD (c₀ :: cs) = some (v', { c₀ with mode := .panicking [{ v := v', recovered := true }] } :: cs) := by
                  simp [recoverD, hu, chainOf]
                simp only [hrec]
                refine fin _ (put_defers _ _ _) ?_
                exact put_rel (v := v) (v' := v') (dst := some t) (by simp only [setT]; rw [hlt]; rfl) hstart hv
              · cases hrt
            · cases hrt
theorem fn_okP (hco : CodeOK P n old) (hfr : ∀ t, Fr (old t)) (hname : NoNum P) (hi : OKP P n ih) (hfi : ∀ t, Fr (ih t)) {f : FuncId} {args : List AVal} {r : PO} (h : fnP P old ih f args H = some (r, H')) : FnP P f args H r H' := by
  unfold fnP at h
  cases hfn : P.funcs[f]? with
  | none => simp only [hfn] at h; exact (fail_some h).elim
  | some fn =>
    simp only [hfn] at h
    cases hb : fn.body with
    | none => simp only [hb] at h; exact (fail_some h).elim
    | some c =>
      simp only [hb] at h
      obtain ⟨hle, h⟩ := cond_some h
      have hle : args.length ≤ fn.ntmps := by simpa [Nat.ble_eq] using hle
      obtain ⟨q, K, h1, h2⟩ := bd_some h
      have m1 := nextP_of hfi h1
      rcases hi.1 _ _ _ _ _ _ _ h1 with ⟨e, T1, ms1, rfl, k1⟩ | ⟨v, T1, ms1, rfl, k1⟩
      · have main : (∀ i, e ≠ .exit i) → bd (takeMarks P old ms1) (fun _ => bd (resultsA P T1 fn.results.toList) fun vs => ret (PO.done (.val (oneV vs)))) K = some (r, H') → FnP P f args H r H' := by
          intro hne h3
          obtain ⟨u, K2, h4, h5⟩ := bd_some h3
          obtain ⟨vs, K3, h6, h7⟩ := bd_some h5
          cases ret_some h7
          have m2 : K.next ≤ K2.next := by obtain ⟨es, d, _⟩ := fr_takeMarks P hfr ms1 K () K2 h4; exact d.next
          have m3 : K2.next ≤ H'.next := by obtain ⟨es, d, _⟩ := fr_resultsA P T1 fn.results.toList K2 vs H' h6; exact d.next
          refine .inl ⟨oneV vs, rfl, fun σ ρ base w args' hσ hwr hf hr => ?_⟩
          refine callsIn_of_wp_marks hfn hb trivial ?_ rfl
          have hstart := params_start (nt := fn.ntmps) hr hle
          refine ACode.wp (n := n) (k1 σ ρ base w { tmps := args' ++ Array.replicate (fn.ntmps - args'.size) undef, defers := [] } _ hσ hwr (hf.left (by omega)) hstart rfl fun a1 w1 ρ1 p1 => ?_)
          have key : LeavesInM Fence.wide 0 P fn a1.tmps (ValPost σ ρ base H H' w (oneV vs)) a1.defers .returning w1 := by
            refine marks_ok (fn := fn) (tmps := a1.tmps) (R := ValPost σ ρ base H H' w (oneV vs)) hco hfr hname hσ h4 p1.post.wr ((p1.post.ext.free hf m1).left m3) p1.defers fun ρ2 w2 p2 => ?_
            obtain ⟨b1, b2, b3, vs', b4, b5⟩ := results_ok (P := P) (p1.tmps.mono p2.ext.le) p2.wr _ K2 _ vs rfl rfl h6
            refine ⟨_, results_run b4, _, ρ2, rfl, ⟨?_, p2.wr.log b1 b2, p1.post.below.trans p2.below⟩, oneV_rel b5⟩
            rw [b3]
            exact p1.post.ext.trans p2.ext m1 m2
          cases e with
          | exit id => exact absurd rfl (hne id)
          | nrm => exact key
          | ret => exact key
        cases e with
        | exit id => exact (fail_some (H := K) h2).elim
        | nrm => exact main (by simp) h2
        | ret => exact main (by simp) h2
      · cases ms1 with
        | nil =>
          cases ret_some h2
          refine .inr ⟨v, rfl, fun σ ρ base w args' hσ hwr hf hr => ?_⟩
          refine callsIn_of_wp_marks hfn hb trivial ?_ rfl
          have hstart := params_start (nt := fn.ntmps) hr hle
          refine ACode.wp (n := n) (k1 σ ρ base w { tmps := args' ++ Array.replicate (fn.ntmps - args'.size) undef, defers := [] } _ hσ hwr hf hstart rfl fun a1 w1 ρ1 v' p1 hv => ?_)
          have hd : a1.defers = [] := p1.defers
          show LeavesInM Fence.wide 0 P fn a1.tmps (PanPost σ ρ base H H' w v) a1.defers (.panicking (chainOf v')) w1
          rw [hd]
          exact ⟨v', ρ1, rfl, p1.post, hv⟩
        | cons m ms =>
        cases m with
        | mark i => exact (fail_some (H := K) h2).elim
        | call k as =>
        cases ms with
        | cons _ _ => exact (fail_some (H := K) h2).elim
        | nil =>
          obtain ⟨u, K2, h4, h5⟩ := bd_some h2
          obtain ⟨vs, K3, h6, h7⟩ := bd_some h5
          cases ret_some h7
          have m2 : K.next ≤ K2.next := by obtain ⟨es, d, _⟩ := fr_runRec (P := P) hfr k as v K () K2 h4; exact d.next
          have m3 : K2.next ≤ H'.next := by obtain ⟨es, d, _⟩ := fr_resultsA P T1 fn.results.toList K2 vs H' h6; exact d.next
          refine .inl ⟨oneV vs, rfl, fun σ ρ base w args' hσ hwr hf hr => ?_⟩
          refine callsIn_of_wp_marks hfn hb trivial ?_ rfl
          have hstart := params_start (nt := fn.ntmps) hr hle
          refine ACode.wp (n := n) (k1 σ ρ base w { tmps := args' ++ Array.replicate (fn.ntmps - args'.size) undef, defers := [] } _ hσ hwr (hf.left (by omega)) hstart rfl fun a1 w1 ρ1 v' p1 hv => ?_)
          have hd := p1.defers
          unfold DRel at hd
          obtain ⟨cs, fs, ds', hd, hrel, hd'⟩ := hd
          unfold DRel at hd'
          subst hd'
          show LeavesInM Fence.wide 0 P fn a1.tmps (ValPost σ ρ base H H' w (oneV vs)) a1.defers (.panicking (chainOf v')) w1
          rw [hd]
          obtain ⟨q1, q2⟩ := runRec_ok (R := fun
            | .returned _, u', w' => LeavesInM Fence.wide 0 P fn a1.tmps (ValPost σ ρ base H H' w (oneV vs)) [] (settle u') w'
            | .panicked chain, u', w' => LeavesInM Fence.wide 0 P fn a1.tmps (ValPost σ ρ base H H' w (oneV vs)) [] (raised u' chain) w'
            | .outgrown, _, w' => ValPost σ ρ base H H' w (oneV vs) .outgrown w') hco hfr hname h4 hσ p1.post.wr ((p1.post.ext.free hf m1).left m3) hrel hv fun z ρ2 w2 p2 => by
              show LeavesInM Fence.wide 0 P fn a1.tmps (ValPost σ ρ base H H' w (oneV vs)) [] .returning w2
              obtain ⟨b1, b2, b3, vs', b4, b5⟩ := results_ok (P := P) (p1.tmps.mono p2.ext.le) p2.wr _ K2 _ vs rfl rfl h6
              refine ⟨_, results_run b4, _, ρ2, rfl, ⟨?_, p2.wr.log b1 b2, p1.post.below.trans p2.below⟩, oneV_rel b5⟩
              rw [b3]
              exact p1.post.ext.trans p2.ext m1 m2
          unfold LeavesInM
          refine ⟨by simp, .inr ⟨fun h => by simp [Fence.wide] at h, .func k, cs, k, fs ++ cs, rfl, ?_, fun _ _ => trivial, q2⟩⟩
          simp only [invoke]
          exact isFn_run hname q1 _ w1
theorem runP_ok (hm : P.follows .mixedOrders = true) (hname : NoNum P) {X : Told} (hX : ExtOK P X) (S : FuncId → Bool) : ∀ n, OKP P n (runP P X S n)
  | 0 => ⟨fun _ _ _ _ H _ _ h => (fail_some (H := H) h).elim, fun _ _ H _ _ h => (fail_some (H := H) h).elim⟩
  | n + 1 => by
    obtain ⟨h1, h2, h3⟩ := run_ok hm hname hX n
    have ih := runP_ok hm hname hX S n
    have fo := fr_run P hX.1 n
    have fi := fr_runP (P := P) (S := S) hX.1 n
    exact ⟨fun nt c T ms H r H' h => code_okP hm h1 h2 h3 hname fo ih fi h, fun f args H r H' h => fn_okP h1 fo hname ih fi h⟩
end
end Go.AM
namespace Go.AM
open Go
/-! ### the calculus for functions that may panic -/
section
variable (P : Program) (X : Told) (S : FuncId → Bool)
/-- a call ends with K, or panics with R -/
def wpCallP (f : FuncId) (args : List AVal) (K R : AVal → Heap → Prop) (s : Heap) : Prop :=
  wpF (fun n => runP P X S n (.call f args)) (fun r s' => (∃ v, r = .done (.val v) ∧ K v s') ∨ ∃ v, r = .pan v .nil [] ∧ R v s') s
def funKP (v : AVal) (args : List AVal) (K R : AVal → Heap → Prop) (s : Heap) : Prop := match v with
  | .fn (.func k) first cap => cond (S k) (isFn P k = true ∧ wpCallP P X S k (first ++ args ++ cap) K R s) (funK P X (.fn (.func k) first cap) args K s)
  | v => funK P X v args K s
def panK (v : AVal) (R : AVal → Heap → Prop) (s : Heap) : Prop := match v with
  | .ifc t u => R (.ifc t u) s
  | _ => False
def wpOpP (env : Env) (K R : AVal → Heap → Prop) (s : Heap) : Op → Prop
  | .panic x => panK (evD env x) R s
  | .call c => match c.callee with
    | .value f => match f with
      | .func k => cond (S k) (cond (isFn P k) (wpCallP P X S k (c.args.toList.map (evD env)) K R s) False) (cond (isFn P k) (wpCall P X k (c.args.toList.map (evD env)) K s) False)
      | f => funKP P X S (evD env f) (c.args.toList.map (evD env)) K R s
    | _ => wpOp P X env K s (.call c)
  | o => wpOp P X env K s o
def opsEP (nt : Nat) (all : List Oper) : List Oper → Kn → Env → (Env → Heap → Prop) → (AVal → Env → Heap → Prop) → Heap → Prop
  | [], _, env, K, _, s => K env s
  | o :: os, kn, env, K, R, s => guardE all o.guard kn env
      (fun kn => wpOpP P X S env (fun v s => setK nt o.dst env v fun env => opsEP nt all os (forget kn o.dst) env K R s) (fun v s => R v env s) s o.op)
      (fun kn => setK nt o.dst env .undef fun env => opsEP nt all os (mark kn o.dst) env K R s)
def wpCP (A : Nat → List Nat) (nt : Nat) : Code → Env → (AExit → Env → Heap → Prop) → (AVal → Env → Heap → Prop) → Heap → Prop
  | .region id ops draw, env, K, R, s => cond (draw && lastS S ops.toList)
      (cond (okLast ops && (ops.toList.drop ops.pop.size).all fun o => okOp o.op) (wpC P X A nt none (.region id ops.pop true) env (fun e env s => match e with
        | .nrm => opsEP P X S nt ops.toList (ops.toList.drop ops.pop.size) [] env (fun env s => K .nrm env s) R s
        | _ => False) s) False)
      (cond (draw || (deferOf ops.toList).isSome) (wpC P X A nt none (.region id ops draw) env K s)
      (cond (ops.toList.all fun o => okOp o.op) (opsEP P X S nt ops.toList ops.toList [] env (fun env s => K .nrm env s) R s) False))
  | .seq a b, env, K, R, s => wpCP A nt a env (fun e env s => match e with
      | .nrm => wpCP A nt b env K R s
      | e => K e env s) R s
  | .cond c a b, env, K, R, s => cond (okX c) (boolK (evD env c) (wpCP A nt a env K R s) (wpCP A nt b env K R s)) False
  | .block id b, env, K, R, s => wpCP A nt b env (fun e env s => match e with
      | .exit id' => cond (Nat.beq id' id) (K .nrm env s) (K (.exit id') env s)
      | e => K e env s) R s
  | .loop b, env, K, R, s => match mapStep b with
    | some _ => False
    | none => loopK (A (2 * firstR b)) (assigned b) (fun env K s => wpCP A nt b env K R s) env K s
  | c, env, K, _, s => wpC P X A nt none c env K s
end
variable {P : Program} {X : Told} {S : FuncId → Bool} {nt : Nat} {A : Nat → List Nat} {env : Env} {T : Tmps} {s : Heap}
theorem isS_of {c : Call} {f : Operand} (hT : TR T env) (hc : c.callee = .value f) (hf : okX f = true) : isS S T c = match evD env f with
    | .fn (.func k) _ _ => S k
    | _ => false := by
  unfold isS
  rw [hc]
  simp only [ev_of hT hf]
  cases evD env f <;> try rfl
  case fn g a b => cases g <;> rfl
/-- one operation that is wanted -/
theorem wp_opP {all : List Oper} {o : Oper} {ms : List Mk} {K R : AVal → Heap → Prop} {Q : Tmps → Heap → Prop} (hT : TR T env) (ho : okOp o.op = true) (hw : wantedA all T o.guard = some true) (h : wpOpP P X S env K R s o.op) (hQ : ∀ v s', K v s' → ∃ T', setT nt T o.dst v = some T' ∧ Q T' s') :
    wpF (fun n => opP P S (run P X n) (runP P X S n) nt all o T ms) (fun r s' => (∃ T', r = .done (.exit .nrm T' ms) ∧ Q T' s') ∨ ∃ v, r = .pan v T ms ∧ R v s') s := by
  have plain : wpOp P X env K s o.op → wpF (fun n => plainP P (run P X n) nt all o T ms) (fun r s' => (∃ T', r = .done (.exit .nrm T' ms) ∧ Q T' s') ∨ ∃ v, r = .pan v T ms ∧ R v s') s := by
    intro h
    have mono1 : Mono fun n => oneOp P (run P X n) nt all o T := mono_of fun n => le_oneOp (le_run n) _ _ _ _
    refine wpF.bd (f := fun _ T => ret (PO.done (.exit .nrm T ms))) mono1 (fun _ => .const _) ((wp_oneOp (wp_val_go hw hT ho h) hQ).mono fun T' s' hq => ?_)
    exact wpF.ret (.inl ⟨T', rfl, hq⟩)
  cases hop : o.op with
  | panic x =>
    rw [hop] at h ho
    have hx : okX x = true := all_of ho (by simp [Op.operands])
    have h : panK (evD env x) R s := h
    generalize hv : evD env x = y at h
    cases y <;> try exact h.elim
    case ifc t v =>
    refine wpF.congr (m := fun _ => ret (PO.pan (.ifc t v) T ms)) (wpF.ret (.inr ⟨_, rfl, h⟩)) fun n => ?_
    unfold opP
    simp only [hw, hop, ev_of hT hx, hv]
  | call c =>
    rw [hop] at h ho plain
    have e0 : ∀ n, opP P S (run P X n) (runP P X S n) nt all o T ms = cond (isS S T c) (bd (opA P T (.call c)) (nextP (runP P X S n) nt T ms o.dst)) (plainP P (run P X n) nt all o T ms) := fun n => by unfold opP; simp only [hw, hop]
    refine wpF.congr (m := fun n => cond (isS S T c) (bd (opA P T (.call c)) (nextP (runP P X S n) nt T ms o.dst)) (plainP P (run P X n) nt all o T ms)) ?_ (fun n => (e0 n).symm)
    have ho' : c.operands.toList.all okX = true := by
      have := okOp_all ho fun t g e => by cases e
      simpa [Op.operands] using this
    have hargs : c.args.toList.all okX = true :=
      List.all_eq_true.2 fun x hx => List.all_eq_true.1 ho' x (by unfold Call.operands; simp only [Array.toList_append, List.mem_append]; exact .inr hx)
    cases hc : c.callee with
    | builtin b =>
      have hS : isS S T c = false := by unfold isS; rw [hc]
      simp only [wpOpP, hc] at h
      rw [hS]
      exact plain h
    | invoke r name =>
      have hS : isS S T c = false := by unfold isS; rw [hc]
      simp only [wpOpP, hc] at h
      rw [hS]
      exact plain h
    | value f =>
      have hf : okX f = true := List.all_eq_true.1 ho' f (by simp [Call.operands, hc])
      simp only [wpOpP, hc] at h
      -- the call of one of these functions
      have main : ∀ (k : FuncId) (first cap : List AVal), evD env f = .fn (.func k) first cap → S k = true → isFn P k = true → wpCallP P X S k (first ++ c.args.toList.map (evD env) ++ cap) K R s →
          wpF (fun n => cond (isS S T c) (bd (opA P T (.call c)) (nextP (runP P X S n) nt T ms o.dst)) (plainP P (run P X n) nt all o T ms)) (fun r s' => (∃ T', r = .done (.exit .nrm T' ms) ∧ Q T' s') ∨ ∃ v, r = .pan v T ms ∧ R v s') s := by
        intro k first cap he hS hk hcall
        have hS' : isS S T c = true := by rw [isS_of hT hc hf, he]; exact hS
        rw [hS']
        have ec : opA P T (.call c) = ret (.enter k (first ++ c.args.toList.map (evD env) ++ cap)) := by
          show callA P T c = _
          unfold callA
          simp only [evs_of hT hargs, hc, ev_of hT hf, he]
          unfold goA
          rw [hk]; rfl
        simp only [cond_true]
        rw [ec]
        refine wpF.bd (m := fun _ => ret (ANext.enter k (first ++ c.args.toList.map (evD env) ++ cap))) (f := fun n nx => nextP (runP P X S n) nt T ms o.dst nx) (.const _) (fun nx => mono_of fun n => le_nextP (le_runP n) _ _ _ _ _) (wpF.ret ?_)
        refine wpF.bd (m := fun n => runP P X S n (.call k (first ++ c.args.toList.map (evD env) ++ cap))) (f := fun _ r => backP nt T ms o.dst r) (mono_runP _) (fun _ => .const _) (hcall.mono ?_)
        rintro r s' (⟨v, rfl, hK⟩ | ⟨v, rfl, hR⟩)
        · obtain ⟨T', h1, h2⟩ := hQ v s' hK
          refine wpF.bd (m := fun _ => lift (setT nt T o.dst v)) (f := fun _ T => ret (PO.done (.exit .nrm T ms))) (.const _) (fun _ => .const _) (wpF.lift h1 (wpF.ret (.inl ⟨T', rfl, h2⟩)))
        · exact wpF.ret (.inr ⟨v, rfl, hR⟩)
      have mainF : funKP P X S (evD env f) (c.args.toList.map (evD env)) K R s → (wpOp P X env K s (.call c) = funK P X (evD env f) (c.args.toList.map (evD env)) K s) → wpF (fun n => cond (isS S T c) (bd (opA P T (.call c)) (nextP (runP P X S n) nt T ms o.dst)) (plainP P (run P X n) nt all o T ms)) (fun r s' => (∃ T', r = .done (.exit .nrm T' ms) ∧ Q T' s') ∨ ∃ v, r = .pan v T ms ∧ R v s') s := by
        intro h hop'
        unfold funKP at h
        split at h
        · rename_i k first cap he
          cases hS : S k with
          | true =>
            rw [hS, cond_true] at h
            exact main k first cap he hS h.1 h.2
          | false =>
            rw [hS, cond_false, ← he] at h
            have hS' : isS S T c = false := by rw [isS_of hT hc hf, he]; exact hS
            rw [hS']
            exact plain (by rw [hop']; exact h)
        · rename_i hne
          have hS' : isS S T c = false := by
            rw [isS_of hT hc hf]
            split
            · rename_i k' a b he
              exact absurd he (hne _ _ _)
            · rfl
          rw [hS']
          exact plain (by rw [hop']; exact h)
      cases f with
      | func k =>
        simp only at h
        have he : evD env (.func k) = .fn (.func k) [] [] := rfl
        cases hS : S k with
        | true =>
          rw [hS, cond_true] at h
          cases hk : isFn P k with
          | false => rw [hk] at h; exact h.elim
          | true =>
            rw [hk, cond_true] at h
            exact main k [] [] he hS hk (by rw [List.nil_append, List.append_nil]; exact h)
        | false =>
          rw [hS, cond_false] at h
          have hS' : isS S T c = false := by rw [isS_of hT hc hf, he]; exact hS
          rw [hS']
          refine plain ?_
          unfold wpOp
          simp only [hc]
          exact h
      | tmp t => exact mainF h (by unfold wpOp; simp only [hc])
      | const l => exact mainF h (by unfold wpOp; simp only [hc])
      | _ => exact mainF h (by unfold wpOp; simp only [hc])
  | _ =>
    rw [hop] at h plain
    refine wpF.congr (m := fun n => plainP P (run P X n) nt all o T ms) (plain h) (fun n => by unfold opP; simp only [hw, hop])
end Go.AM
namespace Go.AM
open Go
variable {P : Program} {X : Told} {S : FuncId → Bool} {nt : Nat} {A : Nat → List Nat}
theorem mono_opsP (all : List Oper) (ms : List Mk) (l : List Oper) (T : Tmps) : Mono fun n => opsP P S (run P X n) (runP P X S n) nt all ms l T := mono_of fun n => le_opsP (le_run n) (le_runP n) nt all ms l T
theorem opsEP_ok {all : List Oper} {ms : List Mk} {K : Env → Heap → Prop} {R : AVal → Env → Heap → Prop} : ∀ (os : List Oper) (kn : Kn) (env : Env) (s : Heap) (T : Tmps), (os.all fun o => okOp o.op) = true → TR T env → KnOk kn env → opsEP P X S nt all os kn env K R s →
    wpF (fun n => opsP P S (run P X n) (runP P X S n) nt all ms os T) (fun r s' => (∃ T' env', r = .done (.exit .nrm T' ms) ∧ TR T' env' ∧ K env' s' ∧ ∀ j, (∀ o ∈ os, o.dst ≠ some j) → env' j = env j) ∨ ∃ v T' env', r = .pan v T' ms ∧ TR T' env' ∧ R v env' s' ∧ ∀ j, (∀ o ∈ os, o.dst ≠ some j) → env' j = env j) s
  | [], _, env, s, T, _, hT, _, h => wpF.ret (.inl ⟨T, env, rfl, hT, h, fun _ _ => rfl⟩)
  | o :: os, kn, env, s, T, ha, hT, hk, h => by
    simp only [List.all_cons, Bool.and_eq_true] at ha
    obtain ⟨kn', hk', hcase⟩ := guardE_ok hT hk h
    have next : ∀ (v : AVal) (kn2 : Kn), (∀ env', (∀ d, o.dst ≠ some d → env' d = env d) → (∀ d, o.dst = some d → env' d = v) → KnOk kn2 env') → ∀ (s' : Heap), (setK nt o.dst env v fun env => opsEP P X S nt all os kn2 env K R s') → ∃ T', setT nt T o.dst v = some T' ∧ wpF (fun n => opsP P S (run P X n) (runP P X S n) nt all ms os T') (fun r s' => (∃ T' env', r = .done (.exit .nrm T' ms) ∧ TR T' env' ∧ K env' s' ∧ ∀ j, (∀ o_1 ∈ o :: os, o_1.dst ≠ some j) → env' j = env j) ∨ ∃ v T' env', r = .pan v T' ms ∧ TR T' env' ∧ R v env' s' ∧ ∀ j, (∀ o_1 ∈ o :: os, o_1.dst ≠ some j) → env' j = env j) s' := by
      intro v kn2 hk2 s' hv
      obtain ⟨T', env', e1, e2, e3, e4, e5⟩ := tr_upd2 hT hv
      refine ⟨T', e1, (opsEP_ok os _ env' s' T' ha.2 e2 (hk2 env' e4 e5) e3).mono ?_⟩
      rintro r s2 (⟨T2, env2, rfl, q1, q2, q3⟩ | ⟨v, T2, env2, rfl, q1, q2, q3⟩)
      · exact .inl ⟨T2, env2, rfl, q1, q2, fun j hj => (q3 j fun p hp => hj p (by simp [hp])).trans (e4 j (hj o (by simp)))⟩
      · exact .inr ⟨v, T2, env2, rfl, q1, q2, fun j hj => (q3 j fun p hp => hj p (by simp [hp])).trans (e4 j (hj o (by simp)))⟩
    have mono1 : Mono fun n => opP P S (run P X n) (runP P X S n) nt all o T ms := mono_of fun n => le_opP (le_run n) (le_runP n) _ _ _ _ _
    refine wpF.bd (f := fun n r => match r with
      | .done (.exit .nrm T _) => opsP P S (run P X n) (runP P X S n) nt all ms os T
      | r => ret r) mono1 (fun r => mono_of fun n => by
        split
        · exact le_opsP (le_run n) (le_runP n) nt all ms os _
        · exact LeM.refl _) ?_
    rcases hcase with ⟨hw, h⟩ | ⟨hw, h⟩
    · refine (wp_opP (Q := fun T' s' => wpF (fun n => opsP P S (run P X n) (runP P X S n) nt all ms os T') _ s') hT ha.1 hw h fun v s' hv => next v _ (fun env' e4 _ => hk'.forget e4) s' hv).mono ?_
      rintro r s' (⟨T', rfl, hq⟩ | ⟨v, rfl, hR⟩)
      · exact hq
      · exact wpF.ret (.inr ⟨v, T, env, rfl, hT, hR, fun _ _ => rfl⟩)
    · obtain ⟨T', h1, h2⟩ := next .undef _ (fun env' e4 e5 => hk'.mark e4 fun d hd => by rw [e5 d hd]) s h
      have e0 : ∀ n, opP P S (run P X n) (runP P X S n) nt all o T ms = ret (.done (.exit .nrm T' ms)) := fun n => by
        unfold opP plainP oneOp valOp
        simp only [hw]
        funext H
        simp only [bd, ret, lift, h1]
      exact (wpF.ret (s := s) (Q := fun r s' => wpF (fun n => match r with
      | .done (.exit .nrm T _) => opsP P S (run P X n) (runP P X S n) nt all ms os T
      | r => ret r) _ s') h2).congr fun n => (e0 n).symm
/-- what code leaves: an exit or a panic; the marks stay as they are -/
def PostP (c : Code) (env : Env) (K : AExit → Env → Heap → Prop) (R : AVal → Env → Heap → Prop) (ms : List Mk) (r : PO) (s' : Heap) : Prop :=
  (∃ e T' env', r = .done (.exit e T' ms) ∧ TR T' env' ∧ (∀ j, j ∉ assigned c → env' j = env j) ∧ K e env' s') ∨
  ∃ v T' env', r = .pan v T' ms ∧ TR T' env' ∧ (∀ j, j ∉ assigned c → env' j = env j) ∧ R v env' s'
def CodeKP (P : Program) (X : Told) (S : FuncId → Bool) (A : Nat → List Nat) (nt : Nat) (c : Code) : Prop := ∀ (env : Env) (K : AExit → Env → Heap → Prop) (R : AVal → Env → Heap → Prop) (s : Heap), noRF c = true → wpCP P X S A nt c env K R s → ∀ (T : Tmps) (ms : List Mk), TR T env →
  wpF (fun n => runP P X S n (.code nt c T ms)) (PostP c env K R ms) s
theorem codeP_succ {c : Code} {T : Tmps} {ms : List Mk} {Q : PO → Heap → Prop} {s : Heap} (h : wpF (fun n => codeP P S (run P X n) (runP P X S n) nt c T ms) Q s) : wpF (fun n => runP P X S n (.code nt c T ms)) Q s := h.succ fun _ => rfl
theorem old_KP (hX : FrX X) {c : Code} {env : Env} {K : AExit → Env → Heap → Prop} {R : AVal → Env → Heap → Prop} {s : Heap} {T : Tmps} {ms : List Mk} (hn : noRF c = true) (h : wpC P X A nt none c env K s) (hT : TR T env) :
    wpF (fun n => oldP (run P X n) nt c T ms) (PostP c env K R ms) s := by
  have h1 := code_K (P := P) (X := X) (A := A) (nt := nt) (rnd := none) hX c env K s h T [] hT (by simp) List.nodup_nil
  rw [add_mk0] at h1
  refine wpF.bd (m := fun n => run P X n (.code nt none c T ms)) (f := fun _ o => ret (PO.done o)) (mono_run _) (fun _ => .const _) ((wp_noRF hn ms h1).mono ?_)
  rintro o S' ⟨o', rfl, hno, e, T2, env2, ms', s2, rfl, q1, rfl, _, _, q4, _, q6⟩
  simp only [reMs, Out.exit.injEq, true_and, List.append_nil] at hno
  have hms : ms' = [] := by
    cases ms' with
    | nil => rfl
    | cons _ _ => cases hno
  subst hms
  rw [List.append_nil, add_mk0]
  exact wpF.ret (.inl ⟨e, T2, env2, rfl, q1, q4, q6⟩)
theorem code_KP (hX : FrX X) : ∀ c : Code, CodeKP P X S A nt c
  | .region id ops draw => fun env K R s hn h T ms hT => by
    refine codeP_succ ?_
    unfold wpCP at h
    refine wpF.congr (m := fun n => cond (draw && lastS S ops.toList)
      (cond (okLast ops) (bd (opsD P (run P X n) nt ops.pop ops.pop.toList (masks ops.pop.toList []) [] T) fun T => opsP P S (run P X n) (runP P X S n) nt ops.toList ms (ops.toList.drop ops.pop.size) T) fail)
      (cond (draw || (deferOf ops.toList).isSome) (oldP (run P X n) nt (.region id ops draw) T ms) (opsP P S (run P X n) (runP P X S n) nt ops.toList ms ops.toList T))) ?_ (fun n => rfl)
    have out : ∀ j, j ∉ assigned (.region id ops draw) → ∀ o ∈ ops.toList, o.dst ≠ some j := fun j hj o ho hd => hj (dstsOf_mem ho hd)
    cases hdl : (draw && lastS S ops.toList) with
    | true =>
      rw [hdl, cond_true] at h
      simp only [cond_true]
      cases hok : (okLast ops && (ops.toList.drop ops.pop.size).all fun o => okOp o.op) with
      | false => rw [hok] at h; exact h.elim
      | true =>
      rw [hok, cond_true] at h
      obtain ⟨k1, k2⟩ := Bool.and_eq_true_iff.1 hok
      simp only [k1, cond_true]
      unfold wpC at h
      cases hokd : ((ops.pop.toList.all fun o => okOp o.op) && (true || (deferOf ops.pop.toList).isNone)) with
      | false => rw [hokd] at h; exact h.elim
      | true =>
      rw [hokd, cond_true, cond_true] at h
      obtain ⟨hok1, _⟩ := Bool.and_eq_true_iff.1 hokd
      cases hr : (regionOk ops.pop.toList && drawOk (wildOf A ops.pop.toList) ops.pop (clsL P ops.pop.toList) (masks ops.pop.toList [])) with
      | false => rw [hr] at h; exact h.elim
      | true =>
      rw [hr, cond_true] at h
      obtain ⟨h1, h2⟩ := Bool.and_eq_true_iff.1 hr
      have hlen : (masks ops.pop.toList []).length = ops.pop.size := by rw [masks_length]; simp
      have hpre : wpF (fun n => opsD P (run P X n) nt ops.pop ops.pop.toList (masks ops.pop.toList []) [] T) (fun T' s' => ∃ env', TR T' env' ∧ opsEP P X S nt ops.toList (ops.toList.drop ops.pop.size) [] env' (fun env s => K .nrm env s) R s' ∧ ∀ j, (∀ o ∈ ops.pop.toList, o.dst ≠ some j) → env' j = env j) s := fun H hH => by
        obtain ⟨n, T', H', q1, s', env', q2, q3, q4, q5, q6⟩ := opsQ_ok hX hlen h2 ops.pop.toList 0 [] [] [] env s T [] rfl hok1 hT .nil h H hH ⟨rfl, by simp, by simp, by simp, by simp, by simp⟩
        exact ⟨n, T', H', q1, s', q2, q3, env', q4, q5, q6⟩
      refine wpF.bd (f := fun n T => opsP P S (run P X n) (runP P X S n) nt ops.toList ms (ops.toList.drop ops.pop.size) T) (mono_opsD _ _ _ _ _) (fun T => mono_opsP _ _ _ _) (hpre.mono ?_)
      rintro T1 s1 ⟨env1, t1, e1, f1⟩
      have sub1 : ∀ o, o ∈ ops.pop.toList → o ∈ ops.toList := fun o ho => by
        rw [Array.toList_pop] at ho
        exact (List.dropLast_sublist _).subset ho
      refine (opsEP_ok _ [] env1 s1 T1 k2 t1 .nil e1).mono ?_
      rintro r s' (⟨T', env', rfl, q1, q2, q3⟩ | ⟨v, T', env', rfl, q1, q2, q3⟩)
      · exact .inl ⟨.nrm, T', env', rfl, q1, fun j hj => (q3 j fun o ho => out j hj o (List.mem_of_mem_drop ho)).trans (f1 j fun o ho => out j hj o (sub1 o ho)), q2⟩
      · exact .inr ⟨v, T', env', rfl, q1, fun j hj => (q3 j fun o ho => out j hj o (List.mem_of_mem_drop ho)).trans (f1 j fun o ho => out j hj o (sub1 o ho)), q2⟩
    | false =>
    rw [hdl, cond_false] at h
    simp only [cond_false]
    cases hd : (draw || (deferOf ops.toList).isSome) with
    | true =>
      rw [hd, cond_true] at h
      simp only [cond_true]
      exact old_KP hX hn h hT
    | false =>
      rw [hd, cond_false] at h
      simp only [cond_false]
      cases hok : (ops.toList.all fun o => okOp o.op) with
      | false => rw [hok] at h; exact h.elim
      | true =>
      rw [hok, cond_true] at h
      refine (opsEP_ok ops.toList [] env s T hok hT .nil h).mono ?_
      rintro r s' (⟨T', env', rfl, q1, q2, q3⟩ | ⟨v, T', env', rfl, q1, q2, q3⟩)
      · exact .inl ⟨.nrm, T', env', rfl, q1, fun j hj => q3 j (out j hj), q2⟩
      · exact .inr ⟨v, T', env', rfl, q1, fun j hj => q3 j (out j hj), q2⟩
  | .seq a b => fun env K R s hn h T ms hT => by
    unfold noRF at hn
    obtain ⟨hn1, hn2⟩ := Bool.and_eq_true_iff.1 hn
    refine codeP_succ ?_
    unfold wpCP at h
    unfold codeP
    refine wpF.bd (m := fun n => runP P X S n (.code nt a T ms)) (f := fun n r => match r with
      | .done (.exit .nrm T ms) => runP P X S n (.code nt b T ms)
      | r => ret r) (mono_runP _) (fun r => mono_of fun n => by
        split
        · exact le_runP n _
        · exact LeM.refl _) ((code_KP hX a env _ R s hn1 h T ms hT).mono ?_)
    rintro r s1 (⟨e, T1, env1, rfl, q1, q2, q3⟩ | ⟨v, T1, env1, rfl, q1, q2, q3⟩)
    · cases e with
      | nrm =>
        refine (code_KP hX b env1 K R s1 hn2 q3 T1 ms q1).mono ?_
        rintro r s2 (⟨e, T2, env2, rfl, r1, r2, r3⟩ | ⟨v, T2, env2, rfl, r1, r2, r3⟩)
        · exact .inl ⟨e, T2, env2, rfl, r1, fun j hj => by
            simp only [assigned, List.mem_append, not_or] at hj
            rw [r2 j hj.2, q2 j hj.1], r3⟩
        · exact .inr ⟨v, T2, env2, rfl, r1, fun j hj => by
            simp only [assigned, List.mem_append, not_or] at hj
            rw [r2 j hj.2, q2 j hj.1], r3⟩
      | exit id => exact wpF.ret (.inl ⟨_, T1, env1, rfl, q1, fun j hj => q2 j (by simp only [assigned, List.mem_append, not_or] at hj; exact hj.1), q3⟩)
      | ret => exact wpF.ret (.inl ⟨_, T1, env1, rfl, q1, fun j hj => q2 j (by simp only [assigned, List.mem_append, not_or] at hj; exact hj.1), q3⟩)
    · exact wpF.ret (.inr ⟨v, T1, env1, rfl, q1, fun j hj => q2 j (by simp only [assigned, List.mem_append, not_or] at hj; exact hj.1), q3⟩)
  | .cond c a b => fun env K R s hn h T ms hT => by
    unfold noRF at hn
    obtain ⟨hn1, hn2⟩ := Bool.and_eq_true_iff.1 hn
    refine codeP_succ ?_
    unfold wpCP at h
    cases hok : okX c with
    | false => rw [hok] at h; exact h.elim
    | true =>
    rw [hok, cond_true] at h
    unfold codeP
    simp only [ev_of hT hok]
    unfold boolK at h
    split at h
    · rename_i e
      simp only [e, cond_true]
      refine (code_KP hX a env K R s hn1 h T ms hT).mono ?_
      rintro r s' (⟨e, T2, env2, rfl, r1, r2, r3⟩ | ⟨v, T2, env2, rfl, r1, r2, r3⟩)
      · exact .inl ⟨e, T2, env2, rfl, r1, fun j hj => r2 j (by simp only [assigned, List.mem_append, not_or] at hj; exact hj.1), r3⟩
      · exact .inr ⟨v, T2, env2, rfl, r1, fun j hj => r2 j (by simp only [assigned, List.mem_append, not_or] at hj; exact hj.1), r3⟩
    · rename_i e
      simp only [e, cond_false]
      refine (code_KP hX b env K R s hn2 h T ms hT).mono ?_
      rintro r s' (⟨e, T2, env2, rfl, r1, r2, r3⟩ | ⟨v, T2, env2, rfl, r1, r2, r3⟩)
      · exact .inl ⟨e, T2, env2, rfl, r1, fun j hj => r2 j (by simp only [assigned, List.mem_append, not_or] at hj; exact hj.2), r3⟩
      · exact .inr ⟨v, T2, env2, rfl, r1, fun j hj => r2 j (by simp only [assigned, List.mem_append, not_or] at hj; exact hj.2), r3⟩
    · exact h.elim
  | .block id b => fun env K R s hn h T ms hT => by
    unfold noRF at hn
    refine codeP_succ ?_
    unfold wpCP at h
    unfold codeP
    refine wpF.bd (m := fun n => runP P X S n (.code nt b T ms)) (f := fun _ r => match r with
      | .done (.exit (.exit id') T ms) => cond (Nat.beq id' id) (ret (.done (.exit .nrm T ms))) (ret (.done (.exit (.exit id') T ms)))
      | r => ret r) (mono_runP _) (fun _ => .const _) ((code_KP hX b env _ R s hn h T ms hT).mono ?_)
    rintro r s1 (⟨e, T1, env1, rfl, q1, q2, q3⟩ | ⟨v, T1, env1, rfl, q1, q2, q3⟩)
    · cases e with
      | exit id' =>
        simp only at q3 ⊢
        cases hb : Nat.beq id' id with
        | true => rw [hb] at q3; exact wpF.ret (.inl ⟨_, T1, env1, rfl, q1, q2, q3⟩)
        | false => rw [hb] at q3; exact wpF.ret (.inl ⟨_, T1, env1, rfl, q1, q2, q3⟩)
      | nrm => exact wpF.ret (.inl ⟨_, T1, env1, rfl, q1, q2, q3⟩)
      | ret => exact wpF.ret (.inl ⟨_, T1, env1, rfl, q1, q2, q3⟩)
    · exact wpF.ret (.inr ⟨v, T1, env1, rfl, q1, q2, q3⟩)
  | .loop b => fun env K R s hn h T ms hT => by
    unfold noRF at hn
    obtain ⟨hn1, hn2⟩ := Bool.and_eq_true_iff.1 hn
    have hms : mapStep b = none := by simpa using hn1
    unfold wpCP at h
    rw [hms] at h
    simp only at h
    unfold loopK at h
    obtain ⟨I, ⟨m, h0⟩, hstep⟩ := h
    have key : ∀ (m : Nat) (env1 : Env) (s1 : Heap) (T1 : Tmps), I ((A (2 * firstR b)).map env1) s1 m → (∀ j, j ∉ assigned b → env1 j = env j) → TR T1 env1 → wpF (fun n => runP P X S n (.code nt (.loop b) T1 ms)) (PostP (.loop b) env K R ms) s1 := by
      intro m
      induction m using Nat.strongRecOn with
      | _ m ih =>
        intro env1 s1 T1 hI hag hT1
        refine codeP_succ ?_
        have hmix : mixE (assigned b) env1 env = env1 := by
          funext j
          unfold mixE
          cases hj : memN j (assigned b) with
          | true => rfl
          | false => exact (hag j fun q => by rw [memN_iff.2 q] at hj; cases hj).symm
        have hbody := hstep env1 s1 m hI
        rw [hmix] at hbody
        unfold codeP
        simp only [hms]
        refine wpF.bd (m := fun n => runP P X S n (.code nt b T1 ms)) (f := fun n r => match r with
          | .done (.exit .nrm T ms) => runP P X S n (.code nt (.loop b) T ms)
          | r => ret r) (mono_runP _) (fun r => mono_of fun n => by
            split
            · exact le_runP n _
            · exact LeM.refl _) ((code_KP hX b env1 _ R s1 hn2 hbody T1 ms hT1).mono ?_)
        rintro r s2 (⟨e, T2, env2, rfl, q1, q2, q3⟩ | ⟨v, T2, env2, rfl, q1, q2, q3⟩)
        · have hag2 : ∀ j, j ∉ assigned b → env2 j = env j := fun j hj => (q2 j hj).trans (hag j hj)
          cases e with
          | nrm =>
            obtain ⟨m', hlt, hI'⟩ := q3
            exact ih m' hlt env2 s2 T2 hI' hag2 q1
          | exit id => exact wpF.ret (.inl ⟨_, T2, env2, rfl, q1, hag2, q3⟩)
          | ret => exact wpF.ret (.inl ⟨_, T2, env2, rfl, q1, hag2, q3⟩)
        · exact wpF.ret (.inr ⟨v, T2, env2, rfl, q1, fun j hj => (q2 j hj).trans (hag j hj), q3⟩)
    exact key m env s T h0 (fun _ _ => rfl) hT
  | .skip => fun env K R s hn h T ms hT => codeP_succ (old_KP hX hn h hT)
  | .exit _ => fun env K R s hn h T ms hT => codeP_succ (old_KP hX hn h hT)
  | .ret => fun env K R s hn h T ms hT => codeP_succ (old_KP hX hn h hT)
  | .rangeFunc _ _ _ _ => fun env K R s hn h T ms hT => by cases hn
  | .scope _ => fun env K R s hn h T ms hT => by cases hn
  | .label _ => fun env K R s hn h T ms hT => by cases hn
  | .goto _ => fun env K R s hn h T ms hT => by cases hn
  | .refuse _ => fun env K R s hn h T ms hT => by cases hn
/-- a function that may panic -/
theorem wpCallP_code (hX : FrX X) (A : Nat → List Nat) {f : FuncId} {fn : Func} {c : Code} (hf : P.funcs[f]? = some fn) (hb : fn.body = some c) (hn : noRF c = true) {args : List AVal} (hl : Nat.ble args.length fn.ntmps = true) {K R : AVal → Heap → Prop} {s : Heap}
    (h : wpCP P X S A fn.ntmps c (envOf args) (fun e env s => retK e (resK P fn.results.toList env (fun vs => K (oneV vs) s) s)) (fun v _ s => R v s) s) : wpCallP P X S f args K R s := by
  unfold wpCallP
  refine wpF.succ (m := fun n => fnP P (run P X n) (runP P X S n) f args) ?_ (fun _ => rfl)
  unfold fnP
  simp only [hf, hb]
  refine wpF.cond hl ?_
  refine wpF.bd (m := fun n => runP P X S n (.code fn.ntmps c (Tr.ofListAt .nil 0 args) [])) (f := fun n r => endP P (run P X n) fn.results.toList r) (mono_runP _) (fun r => mono_of fun n => le_endP (le_run n) _ _) ((code_KP hX c _ _ _ s hn h (Tr.ofListAt .nil 0 args) [] (tr_args args)).mono ?_)
  rintro r s' (⟨e, T', env', rfl, q1, _, q3⟩ | ⟨v, T', env', rfl, q1, _, q3⟩)
  · have body : resK P fn.results.toList env' (fun vs => K (oneV vs) s') s' → wpF (fun n => bd (takeMarks P (run P X n) []) fun _ => bd (resultsA P T' fn.results.toList) fun vs => ret (PO.done (.val (oneV vs)))) (fun r s' => (∃ v, r = .done (.val v) ∧ K v s') ∨ ∃ v, r = .pan v .nil [] ∧ R v s') s' := by
      intro hr
      unfold takeMarks
      refine wpF.bd (m := fun _ => ret ()) (f := fun _ _ => bd (resultsA P T' fn.results.toList) fun vs => ret (PO.done (.val (oneV vs)))) (.const _) (fun _ => .const _) (wpF.ret ?_)
      refine wpF.bd (m := fun _ => resultsA P T' fn.results.toList) (f := fun _ vs => ret (PO.done (.val (oneV vs)))) (.const _) (fun _ => .const _) ((wp_results q1 _ _ _ hr).mono ?_)
      rintro vs s'' ⟨rfl, hk⟩
      exact wpF.ret (.inl ⟨_, rfl, hk⟩)
    cases e with
    | exit id => exact q3.elim
    | nrm => exact body q3
    | ret => exact body q3
  · exact wpF.ret (.inr ⟨v, rfl, q3⟩)
end Go.AM
namespace Go.AM
open Go
variable {P : Program} {X : Told} {S : FuncId → Bool} {nt : Nat} {A : Nat → List Nat}
/-! ### deferred functions that recover -/
def wpRec (P : Program) (X : Told) (k : FuncId) (args : List AVal) (v : AVal) (Q : Heap → Prop) (s : Heap) : Prop := wpF (fun n => runRec P (run P X n) k args v) (fun _ s => Q s) s
def recK (P : Program) (X : Told) (fv : AVal) (v : AVal) (Q : Heap → Prop) (s : Heap) : Prop := match fv with
  | .fn (.func k) first cap => wpRec P X k (first ++ cap) v Q s
  | _ => False
def recEnvV (c : Code) (env : Env) (v : AVal) : Env := match recTop c with
  | some (t, _) => upd env t v
  | none => env
theorem wpRec_code (hX : FrX X) (A : Nat → List Nat) {k : FuncId} {fn : Func} {c : Code} (hf : P.funcs[k]? = some fn) (hb : fn.body = some c) (hr : fn.results.toList = []) (hc : recOk c fn.ntmps = true) {args : List AVal} {v : AVal} (hl : Nat.ble args.length fn.ntmps = true) {K : AVal → Heap → Prop} {s : Heap}
    (h : wpC P X A fn.ntmps none (restOf c) (recEnvV c (envOf args) v) (fun e env s => retK e (resK P fn.results.toList env (fun vs => K (oneV vs) s) s)) s) : wpRec P X k args v (fun s => K (.tup []) s) s := by
  unfold recOk at hc
  unfold restOf recEnvV at h
  cases hq : recTop c with
  | none => rw [hq] at hc; cases hc
  | some p =>
  obtain ⟨t, r⟩ := p
  rw [hq] at hc h
  simp only at hc h
  obtain ⟨hno, hlt⟩ := Bool.and_eq_true_iff.1 hc
  rw [hr] at h
  unfold wpRec runRec
  simp only [hf, hb, hr]
  refine wpF.cond hl ?_
  have hd : recCode fn (Tr.ofListAt .nil 0 args) v c = some (r, (Tr.ofListAt .nil 0 args).put t (some v)) := by
    unfold recCode
    rw [hq]
    simp only [hlt, cond_true]
  rw [hd]
  simp only
  have hT := tr_put (tr_args args) t v
  have hcode := code_K (P := P) (X := X) (A := A) (nt := fn.ntmps) (rnd := none) hX r _ _ s h _ [] hT (by simp) List.nodup_nil
  rw [add_mk0] at hcode
  refine wpF.bd (mono_run _) (fun o => .const _) ((wp_noRF hno [] hcode).mono ?_)
  rintro o S ⟨o', rfl, hno', e, T2, env2, ms', s2, rfl, q1, rfl, _, _, _, _, q6⟩
  simp only [reMs, Out.exit.injEq, true_and, List.append_nil] at hno'
  have hms : ms' = [] := by
    cases ms' with
    | nil => rfl
    | cons _ _ => cases hno'
  subst hms
  rw [List.append_nil, add_mk0]
  cases e with
  | nrm => exact wpF.ret q6
  | ret => exact wpF.ret q6
  | exit id => exact q6.elim
/-- code that begins with a 'defer' -/
def wpDP (P : Program) (X : Told) (S : FuncId → Bool) (A : Nat → List Nat) (nt : Nat) : Code → Env → (AVal → AExit → Env → Heap → Prop) → (AVal → AVal → Env → Heap → Prop) → Heap → Prop
  | .seq a b, env, K, R, s => match defTop a with
    | some (all, l, c) => match defFun c with
      | some f => cond ((l.all fun o => okOp o.op) && noRF b) (opsE P X nt all l [] env (fun env s => isRunK P (evD env f) ∧ wpCP P X S A nt b env (K (evD env f)) (R (evD env f)) s) s) False
      | none => False
    | none => cond (noRF a) (wpCP P X S A nt a env (fun e env s => match e with
      | .nrm => wpDP P X S A nt b env K R s
      | _ => False) (fun _ _ _ => False) s) False
  | _, _, _, _, _ => False
def PostDP (P : Program) (K : AVal → AExit → Env → Heap → Prop) (R : AVal → AVal → Env → Heap → Prop) (r : PO) (s : Heap) : Prop := ∃ T env k first cap, TR T env ∧ isFn P k = true ∧
  ((∃ e, r = .done (.exit e T [.call k (first ++ cap)]) ∧ K (.fn (.func k) first cap) e env s) ∨ ∃ v, r = .pan v T [.call k (first ++ cap)] ∧ R (.fn (.func k) first cap) v env s)
theorem wpDP_ok (hX : FrX X) : ∀ (c : Code) (env : Env) (K : AVal → AExit → Env → Heap → Prop) (R : AVal → AVal → Env → Heap → Prop) (s : Heap) (T : Tmps), TR T env → wpDP P X S A nt c env K R s → wpF (fun n => runP P X S n (.code nt c T [])) (PostDP P K R) s
  | .seq a b, env, K, R, s, T, hT, h => by
    refine codeP_succ ?_
    unfold wpDP at h
    unfold codeP
    have monoB : ∀ r : PO, Mono fun n => (match r with
      | .done (.exit .nrm T ms) => runP P X S n (.code nt b T ms)
      | r => ret r : M PO) := fun r => mono_of fun n => by
        split
        · exact le_runP n _
        · exact LeM.refl _
    cases hd : defTop a with
    | some p =>
      obtain ⟨all, l, c⟩ := p
      rw [hd] at h
      simp only at h
      cases hf : defFun c with
      | none => rw [hf] at h; exact h.elim
      | some f =>
      rw [hf] at h
      simp only at h
      cases hok : ((l.all fun o => okOp o.op) && noRF b) with
      | false => rw [hok] at h; exact h.elim
      | true =>
      rw [hok, cond_true] at h
      obtain ⟨hok1, hok2⟩ := Bool.and_eq_true_iff.1 hok
      refine wpF.bd (m := fun n => runP P X S n (.code nt a T [])) (mono_runP _) monoB ?_
      cases a with
      | region id ops draw =>
        cases draw with
        | true => cases hd
        | false =>
        simp only [defTop] at hd
        cases hq : deferOf ops.toList with
        | none => rw [hq] at hd; cases hd
        | some q =>
        rw [hq] at hd
        simp only [Option.some.injEq, Prod.mk.injEq] at hd
        obtain ⟨rfl, rfl, rfl⟩ := hd
        refine codeP_succ ?_
        refine wpF.congr (m := fun n => oldP (run P X n) nt (.region id ops false) T []) ?_ (fun n => by
          show _ = cond (false || (deferOf ops.toList).isSome) _ _
          rw [hq]; rfl)
        refine wpF.bd (m := fun n => run P X n (.code nt none (.region id ops false) T [])) (f := fun _ o => ret (PO.done o)) (mono_run _) (fun _ => .const _) (code_succ ?_)
        unfold runCode
        simp only [cond_false, hq]
        refine wpF.bd (mono_opsA _ _ _ _) (fun T => .const _) ((opsE_ok _ _ _ _ _ hok1 hT .nil h).mono ?_)
        rintro T1 s1 ⟨env1, hT1, ⟨h1, h2⟩, _⟩
        unfold isRunK at h1
        split at h1
        · rename_i k first cap hv
          have x2 := h1
          unfold defFun at hf
          split at hf
          · rename_i f' hcal
            cases hz : (q.2.args.toList.isEmpty && okX f') with
            | false => rw [hz] at hf; cases hf
            | true =>
            rw [hz] at hf
            cases hf
            obtain ⟨z1, z2⟩ := Bool.and_eq_true_iff.1 hz
            have z1 : q.2.args.toList = [] := by simpa using z1
            have hda : deferA P T1 q.2 = some (.call k (first ++ cap)) := by
              unfold deferA
              rw [hcal, z1]
              simp only [evs, ev_of hT1 z2, hv, x2, cond_true, List.append_nil]
            rw [hda]
            refine wpF.ret (wpF.ret ?_)
            simp only
            rw [hv] at h2
            refine (code_KP hX b env1 _ _ s1 hok2 h2 T1 [.call k (first ++ cap)] hT1).mono ?_
            rintro r s2 (⟨e, T2, env2, rfl, q1, _, q3⟩ | ⟨v, T2, env2, rfl, q1, _, q3⟩)
            · exact ⟨T2, env2, k, first, cap, q1, x2, .inl ⟨e, rfl, q3⟩⟩
            · exact ⟨T2, env2, k, first, cap, q1, x2, .inr ⟨v, rfl, q3⟩⟩
          · cases hf
        · exact h1.elim
      | _ => cases hd
    | none =>
      rw [hd] at h
      simp only at h
      cases hn : noRF a with
      | false => rw [hn] at h; exact h.elim
      | true =>
      rw [hn, cond_true] at h
      have ha := code_KP (P := P) (X := X) (S := S) (A := A) (nt := nt) hX a env _ _ s hn h T [] hT
      refine wpF.bd (m := fun n => runP P X S n (.code nt a T [])) (mono_runP _) monoB (ha.mono ?_)
      rintro r s1 (⟨e, T1, env1, rfl, q1, _, q3⟩ | ⟨v, T1, env1, rfl, q1, _, q3⟩)
      · cases e with
        | nrm => exact wpDP_ok hX b env1 K R s1 T1 q1 q3
        | ret => exact q3.elim
        | exit id => exact q3.elim
      · exact q3.elim
  | .skip, _, _, _, _, _, _, h => h.elim
  | .region _ _ _, _, _, _, _, _, _, h => h.elim
  | .cond _ _ _, _, _, _, _, _, _, h => h.elim
  | .block _ _, _, _, _, _, _, _, h => h.elim
  | .loop _, _, _, _, _, _, _, h => h.elim
  | .exit _, _, _, _, _, _, _, h => h.elim
  | .ret, _, _, _, _, _, _, h => h.elim
  | .rangeFunc _ _ _ _, _, _, _, _, _, _, h => h.elim
  | .scope _, _, _, _, _, _, _, h => h.elim
  | .label _, _, _, _, _, _, _, h => h.elim
  | .goto _, _, _, _, _, _, _, h => h.elim
  | .refuse _, _, _, _, _, _, _, h => h.elim
theorem wpCallP_codeD (hX : FrX X) (A : Nat → List Nat) {f : FuncId} {fn : Func} {c : Code} (hf : P.funcs[f]? = some fn) (hb : fn.body = some c) {args : List AVal} (hl : Nat.ble args.length fn.ntmps = true) {K R : AVal → Heap → Prop} {s : Heap}
    (h : wpDP P X S A fn.ntmps c (envOf args) (fun dv e env s => retK e (runK P X dv (fun s => resK P fn.results.toList env (fun vs => K (oneV vs) s) s) s)) (fun dv v env s => recK P X dv v (fun s => resK P fn.results.toList env (fun vs => K (oneV vs) s) s) s) s) : wpCallP P X S f args K R s := by
  unfold wpCallP
  refine wpF.succ (m := fun n => fnP P (run P X n) (runP P X S n) f args) ?_ (fun _ => rfl)
  unfold fnP
  simp only [hf, hb]
  refine wpF.cond hl ?_
  refine wpF.bd (m := fun n => runP P X S n (.code fn.ntmps c (Tr.ofListAt .nil 0 args) [])) (f := fun n r => endP P (run P X n) fn.results.toList r) (mono_runP _) (fun r => mono_of fun n => le_endP (le_run n) _ _) ((wpDP_ok hX c _ _ _ s _ (tr_args args) h).mono ?_)
  rintro r s' ⟨T', env', k, first, cap, q1, x2, (⟨e, rfl, q3⟩ | ⟨v, rfl, q3⟩)⟩
  · have body : runK P X (.fn (.func k) first cap) (fun s => resK P fn.results.toList env' (fun vs => K (oneV vs) s) s) s' → wpF (fun n => bd (takeMarks P (run P X n) [.call k (first ++ cap)]) fun _ => bd (resultsA P T' fn.results.toList) fun vs => ret (PO.done (.val (oneV vs)))) (fun r s' => (∃ v, r = .done (.val v) ∧ K v s') ∨ ∃ v, r = .pan v .nil [] ∧ R v s') s' := by
      intro hcall
      refine wpF.bd (mono_takeMarks _) (fun _ => .const _) ?_
      unfold takeMarks
      refine wpF.bd (f := fun n _ => takeMarks P (run P X n) []) (mono_of fun n => le_runDef (le_run n) _ _) (fun _ => mono_takeMarks _) (wpF.mono hcall ?_)
      rintro _ s1 hr
      refine wpF.ret ?_
      refine wpF.bd (.const _) (fun _ => .const _) ((wp_results q1 _ _ _ hr).mono ?_)
      rintro vs s'' ⟨rfl, hk⟩
      exact wpF.ret (.inl ⟨_, rfl, hk⟩)
    cases e with
    | exit id => exact q3.elim
    | nrm => exact body q3
    | ret => exact body q3
  · have hcall : wpRec P X k (first ++ cap) v (fun s => resK P fn.results.toList env' (fun vs => K (oneV vs) s) s) s' := q3
    refine wpF.bd (m := fun n => runRec P (run P X n) k (first ++ cap) v) (f := fun _ _ => bd (resultsA P T' fn.results.toList) fun vs => ret (PO.done (.val (oneV vs)))) (mono_of fun n => le_runRec (le_run n) _ _ _) (fun _ => .const _) (wpF.mono hcall ?_)
    rintro _ s1 hr
    refine wpF.bd (.const _) (fun _ => .const _) ((wp_results q1 _ _ _ hr).mono ?_)
    rintro vs s'' ⟨rfl, hk⟩
    exact wpF.ret (.inl ⟨_, rfl, hk⟩)
end Go.AM
namespace Go.AM
open Go Go.RowKit
/-! ### a function that may panic within, taken as told -/
section
variable (P : Program) (X : Told) (S : FuncId → Bool)
open Classical in
/-- what the machine for panics calculates, with whatever fuel -/
noncomputable def limP (f : FuncId) (args : List AVal) : M AVal := fun H =>
  if h : ∃ r : AVal × AHeap, ∃ n, runP P X S n (.call f args) H = some (.done (.val r.1), r.2) then some (Classical.choose h) else none
noncomputable def limX (l : List FuncId) : Told := fun f => cond (memN f l) (some (limP P X S f)) none
end
variable {P : Program} {X Y : Told} {S : FuncId → Bool}
theorem limP_some {f : FuncId} {args : List AVal} {H H' : AHeap} {v : AVal} (h : limP P X S f args H = some (v, H')) : ∃ n, runP P X S n (.call f args) H = some (.done (.val v), H') := by
  unfold limP at h
  split at h
  · rename_i hex
    obtain ⟨n, hn⟩ := Classical.choose_spec hex
    have e : Classical.choose hex = (v, H') := Option.some.inj h
    rw [e] at hn
    exact ⟨n, hn⟩
  · cases h
theorem limP_of {f : FuncId} {args : List AVal} {H H' : AHeap} {v : AVal} {n : Nat} (h : runP P X S n (.call f args) H = some (.done (.val v), H')) : limP P X S f args H = some (v, H') := by
  have hex : ∃ r : AVal × AHeap, ∃ n, runP P X S n (.call f args) H = some (.done (.val r.1), r.2) := ⟨(v, H'), n, h⟩
  unfold limP
  rw [dif_pos hex]
  obtain ⟨m, hm⟩ := Classical.choose_spec hex
  have h1 := mono_runP (P := P) (X := X) (S := S) (.call f args) n (max n m) H _ (Nat.le_max_left _ _) h
  have h2 := mono_runP (P := P) (X := X) (S := S) (.call f args) m (max n m) H _ (Nat.le_max_right _ _) hm
  rw [h1] at h2
  simp only [Option.some.injEq, Prod.mk.injEq, PO.done.injEq, Out.val.injEq] at h2
  rw [h2.1, h2.2]
theorem limP_fr (hX : FrX X) (f : FuncId) (args : List AVal) : Fr (limP P X S f args) := by
  intro H1 a H1' h
  obtain ⟨n, hn⟩ := limP_some h
  obtain ⟨es, d, k⟩ := fr_runP (P := P) (S := S) hX n (.call f args) H1 _ H1' hn
  refine ⟨es, d, fun H2 h1 h2 h3 => ?_⟩
  obtain ⟨H2', q1, q2, q3, q4⟩ := k H2 h1 h2 h3
  exact ⟨H2', limP_of q1, q2, q3, q4⟩
theorem limX_fr (hX : FrX X) (l : List FuncId) : FrX (limX P X S l) := fun f g args h => by
  unfold limX at h
  cases hm : memN f l with
  | false => rw [hm] at h; cases h
  | true => rw [hm] at h; cases h; exact limP_fr hX f args
theorem limX_ok (hm : P.follows .mixedOrders = true) (hname : noNumB P = true) (hX : ExtOK P X) (l : List FuncId) : ExtOK P (limX P X S l) := by
  refine ⟨limX_fr hX.1 l, fun f g hg args H v H' hr σ ρ base w args' hσ hwr hf hra => ?_⟩
  unfold limX at hg
  cases hmem : memN f l with
  | false => rw [hmem] at hg; cases hg
  | true =>
    rw [hmem] at hg
    cases hg
    obtain ⟨n, hn⟩ := limP_some hr
    rcases (runP_ok hm (noNum_of hname) hX S n).2 f args H _ H' hn with ⟨v1, e, k⟩ | ⟨v1, e, _⟩
    · cases e
      exact k σ ρ base w args' hσ hwr hf hra
    · cases e
theorem orX_fr (hX : FrX X) (hY : FrX Y) : FrX (orX X Y) := fun f g args h => by
  unfold orX at h
  cases hx : X f with
  | some g' => rw [hx] at h; cases h; exact hX f _ args hx
  | none => rw [hx] at h; exact hY f g args h
/-- the call of such a function -/
theorem wp_lim {l : List FuncId} {f : FuncId} {args : List AVal} {K : AVal → Heap → Prop} {s : Heap} (hf : memN f l = true) (h : wpCallP P X S f args K (fun _ _ => False) s) : wpCall P (orX (limX P X S l) Y) f args K s := by
  intro H hH
  obtain ⟨n, r, H', h1, s', h2, h3, h4⟩ := h H hH
  rcases h4 with ⟨v, rfl, hK⟩ | ⟨v, _, h5⟩
  · refine ⟨1, .val v, H', ?_, s', h2, h3, v, rfl, hK⟩
    show (match orX (limX P X S l) Y f with
      | some g => bd (g args) fun v => ret (Out.val v)
      | none => runCall P (run P (orX (limX P X S l) Y) 0) f args) H = _
    have : orX (limX P X S l) Y f = some (limP P X S f) := by
      unfold orX limX
      rw [hf]; rfl
    rw [this]
    simp only [bd, limP_of h1, ret]
  · exact h5.elim
theorem wp_closedG' {g : Nat} {l0 : List AVal} {l : List FuncId} {f : FuncId} (hn : Y f = none) (hf : memN f l = true) (hp : plainC l0 = true) {K : AVal → Heap → Prop} {s : Heap} {t : Bool} (hg : s g = some (t, .glob g (.agg l0))) (h : K (.bool true) s) : wpCall P (orX Y (closedG g l0 l)) f [] K s := by
  intro H hH
  obtain ⟨_, ab, h1, h2⟩ := hH.at_ g t _ hg
  cases ab with
  | glob g' v' =>
    obtain ⟨rfl, rfl⟩ := h2
    refine ⟨1, .val (.bool true), { H with log := (g, false) :: H.log }, ?_, s, hH.eqv rfl rfl fun _ => rfl, .refl _, _, rfl, h⟩
    show (match orX Y (closedG g l0 l) f with
      | some gg => bd (gg []) fun v => ret (Out.val v)
      | none => runCall P (run P (orX Y (closedG g l0 l)) 0) f []) H = _
    have : orX Y (closedG g l0 l) f = some fun args => match args with
      | [] => bd (rd g) fun blk => match blk with
        | .glob g' v => cond (Nat.beq g g' && isV l0 v) (ret (.bool true)) fail
        | _ => fail
      | _ => fail := by unfold orX; rw [hn]; unfold closedG; rw [hf]; rfl
    rw [this]
    have e1 : Nat.beq g g = true := Nat.beq_refl g
    have e2 : isV l0 (.agg l0) = true := plainEq_self hp
    simp only [bd, rd, h1, e1, e2, Bool.and_self, cond_true, ret]
  | _ => exact h2.elim
end Go.AM
namespace Go.AM
open Go Go.RowKit
/-! ### a function that may panic within, taken as told: with a fuel that is given, for calculations -/
section
variable (P : Program) (X : Told) (S : FuncId → Bool)
def fixP (n : Nat) (f : FuncId) (args : List AVal) : M AVal := fun H => match runP P X S n (.call f args) H with
  | some (.done (.val v), H') => some (v, H')
  | _ => none
def fixX (n : Nat) (l : List FuncId) : Told := fun f => cond (memN f l) (some (fixP P X S n f)) none
end
variable {P : Program} {X Y : Told} {S : FuncId → Bool}
theorem fixP_some {n : Nat} {f : FuncId} {args : List AVal} {H H' : AHeap} {v : AVal} (h : fixP P X S n f args H = some (v, H')) : runP P X S n (.call f args) H = some (.done (.val v), H') := by
  unfold fixP at h
  split at h
  · rename_i e
    cases h
    exact e
  · cases h
theorem fixP_of {n : Nat} {f : FuncId} {args : List AVal} {H H' : AHeap} {v : AVal} (h : runP P X S n (.call f args) H = some (.done (.val v), H')) : fixP P X S n f args H = some (v, H') := by
  unfold fixP
  rw [h]
theorem fixP_fr (hX : FrX X) (n : Nat) (f : FuncId) (args : List AVal) : Fr (fixP P X S n f args) := by
  intro H1 a H1' h
  have hn := fixP_some h
  obtain ⟨es, d, k⟩ := fr_runP (P := P) (S := S) hX n (.call f args) H1 _ H1' hn
  refine ⟨es, d, fun H2 h1 h2 h3 => ?_⟩
  obtain ⟨H2', q1, q2, q3, q4⟩ := k H2 h1 h2 h3
  exact ⟨H2', fixP_of q1, q2, q3, q4⟩
theorem fixX_fr (hX : FrX X) (n : Nat) (l : List FuncId) : FrX (fixX P X S n l) := fun f g args h => by
  unfold fixX at h
  cases hm : memN f l with
  | false => rw [hm] at h; cases h
  | true => rw [hm] at h; cases h; exact fixP_fr hX n f args
theorem fixX_ok (hm : P.follows .mixedOrders = true) (hname : noNumB P = true) (hX : ExtOK P X) (n : Nat) (l : List FuncId) : ExtOK P (fixX P X S n l) := by
  refine ⟨fixX_fr hX.1 n l, fun f g hg args H v H' hr σ ρ base w args' hσ hwr hf hra => ?_⟩
  unfold fixX at hg
  cases hmem : memN f l with
  | false => rw [hmem] at hg; cases hg
  | true =>
    rw [hmem] at hg
    cases hg
    have hn := fixP_some hr
    rcases (runP_ok hm (noNum_of hname) hX S n).2 f args H _ H' hn with ⟨v1, e, k⟩ | ⟨v1, e, _⟩
    · cases e
      exact k σ ρ base w args' hσ hwr hf hra
    · cases e
end Go.AM
