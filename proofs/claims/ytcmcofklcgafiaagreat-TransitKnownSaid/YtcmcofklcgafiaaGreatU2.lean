/- Part U2 of the proof: see the last part. -/
import Derived.Test.YtcmcofklcgafiaaGreatU1
import Derived.Test.YtcmcofklcgafiaaGreatA3
import Derived.DataReads
import Derived.ChangeArms
import Derived.OpenShut
namespace Go.AM
open Go
/-! ### code -/
def mixE (slots : List Nat) (f env : Env) : Env := fun j => cond (memN j slots) (f j) (env j)
def dstsOf : List Oper → List Nat
  | [] => []
  | o :: os => match o.dst with
    | some d => d :: dstsOf os
    | none => dstsOf os
def assigned : Code → List Nat
  | .region _ ops _ => dstsOf ops.toList
  | .seq a b => assigned a ++ assigned b
  | .cond _ a b => assigned a ++ assigned b
  | .block _ b => assigned b
  | .loop b => assigned b
  | _ => []
def firstR : Code → Nat
  | .region id _ _ => id
  | .seq a _ => firstR a
  | .block _ b => firstR b
  | .loop b => firstR b
  | .cond _ a _ => firstR a
  | _ => 0
/-- a loop: what holds of the slots 'ls' at the head of each round, with a number that goes down -/
def loopK (ls slots : List Nat) (body : Env → (AExit → Env → Heap → Prop) → Heap → Prop) (env : Env) (K : AExit → Env → Heap → Prop) (s : Heap) : Prop :=
  ∃ I : List AVal → Heap → Nat → Prop, (∃ m, I (ls.map env) s m) ∧ ∀ (f : Env) (s : Heap) (m : Nat), I (ls.map f) s m →
    body (mixE slots f env) (fun e env' s' => match e with
      | .nrm => ∃ m', m' < m ∧ I (ls.map env') s' m'
      | e => K e env' s') s
def isLoop (l : Nat) (s : Heap) : Prop := match s l with
  | some (_, .loop _ _ _ _ _ _ _ _) => True
  | _ => False
def doneK (l : Nat) (K : AExit → Heap → Prop) (s : Heap) : Prop := match s l with
  | some (false, .loop st pd _ _ _ _ _ _) => st ≠ .busy ∧ (match pd with
    | none => K .nrm (hdel s l)
    | some .ret => K .ret (hdel s l)
    | some (.exit id) => K (.exit id) (hdel s l)
    | some _ => False)
  | _ => False
def rndK (rnd : Option Nat) (s : Heap) : Prop := match rnd with
  | none => True
  | some l => isLoop l s
/-- where a range over a map begins: the iterator, the map, its clocks, the entries -/
def iterOf (s : Heap) (x : AVal) : Option (Nat × Option Nat × Nat × Nat × List AEnt) := match x with
  | .ptr r 0 => match s r with
    | some (false, .iter none since [] stepped) => cond (Nat.ble since stepped) (some (r, none, since, since, [])) none
    | some (false, .iter (some m) since [] stepped) => match s m with
      | some (_, .map es c) => cond (Nat.ble since stepped && (Nat.ble since c && (allOld since es && Nat.blt es.length 900))) (some (r, some m, since, c, es)) none
      | _ => none
    | _ => none
  | _ => none
/-- where code goes that ends a range -/
def exitOf : Code → Option Nat
  | .seq (.cond _ _ (.exit id)) _ => some id
  | .cond _ _ (.exit id) => some id
  | _ => none
/-- a range over a map whose rounds leave memory as it was -/
def mapLoopK (st : MapStep) (slots : List Nat) (id : Nat) (body : Env → (AExit → Env → Heap → Prop) → Heap → Prop) (env : Env) (K : AExit → Env → Heap → Prop) (s : Heap) : Prop :=
  optK (iterOf s (env st.it)) fun p => ∃ S S2 : List AVal,
    (∀ e ∈ p.2.2.2.2, ∀ sn : List Nat, lastN sn = some e.born → ∀ f : Env, (slots.map f = slots.map env ∨ shEs (slots.map f) S = true) → body (turnE st (mixE slots f env) e) (fun ex env' _ => ex = .nrm ∧ shEs (slots.map env') S = true) (frz (hset (hdel s p.1) p.1 (true, .iter p.2.1 p.2.2.1 sn p.2.2.2.1)))) ∧
    (∀ f : Env, ((p.2.2.2.2 = [] ∧ slots.map f = slots.map env) ∨ (p.2.2.2.2 ≠ [] ∧ shEs (slots.map f) S = true)) → body (doneE st (mixE slots f env)) (fun ex env' _ => ex = .exit id ∧ (p.2.2.2.2 ≠ [] → shEs (slots.map env') S2 = true)) (frz (hdel s p.1))) ∧
    ∀ f : Env, K (.exit id) (mixE slots f env) (hdel s p.1)
def mapOk (nt : Nat) (st : MapStep) (slots : List Nat) : Bool := noRF st.rest && ((!memN st.it slots) && ((memN st.nx slots && memN st.more slots) && (Nat.blt st.nx nt && Nat.blt st.more nt)))
section
variable (P : Program) (X : Told)
def rangeK (A : Nat → List Nat) (nt : Nat) (rnd : Option Nat) (f : AVal) (ps : Array Tmp) (as bo : Code) (env : Env) (K : AExit → Heap → Prop) (s : Heap) : Prop := match f with
  | .fn (.func k) first cap => isFn P k = true ∧ rndK rnd s ∧ ∀ l d, s l = none → wpCall P X k (first ++ [.yield l] ++ cap) (fun _ s => doneK l K s) (hset s l (false, .loop .ready none nt ((A (2 * firstR bo + 1)).map fun i => (i, env i)) ps.toList as bo d))
  | _ => False
/-- the calls of a statement whose order is open that may write (their places) -/
def wildOf (A : Nat → List Nat) (ops : List Oper) : List Nat := A (1000000 + (match dstsOf ops with | d :: _ => d | [] => 0))
def wpC (A : Nat → List Nat) (nt : Nat) (rnd : Option Nat) : Code → Env → (AExit → Env → Heap → Prop) → Heap → Prop
  | .skip, env, K, s => K .nrm env s
  | .region _ ops draw, env, K, s => cond ((ops.toList.all fun o => okOp o.op) && (draw || (deferOf ops.toList).isNone))
      (cond draw (cond (regionOk ops.toList && drawOk (wildOf A ops.toList) ops (clsL P ops.toList) (masks ops.toList [])) (opsQ P X (wildOf A ops.toList) nt ops.toList (clsL P ops.toList) (masks ops.toList []) ops.toList 0 [] [] [] env (fun env s => K .nrm env s) s) False)
        (opsE P X nt ops.toList ops.toList [] env (fun env s => K .nrm env s) s)) False
  | .seq a b, env, K, s => wpC A nt rnd a env (fun e env s => match e with
      | .nrm => wpC A nt rnd b env K s
      | e => K e env s) s
  | .cond c a b, env, K, s => cond (okX c) (boolK (evD env c) (wpC A nt rnd a env K s) (wpC A nt rnd b env K s)) False
  | .block id b, env, K, s => wpC A nt rnd b env (fun e env s => match e with
      | .exit id' => cond (Nat.beq id' id) (K .nrm env s) (K (.exit id') env s)
      | e => K e env s) s
  | .loop b, env, K, s => match mapStep b with
    | some st => cond (mapOk nt st (assigned b)) (optK (exitOf st.rest) fun id => mapLoopK st (assigned b) id (match b with
      | .seq _ r => fun env K s => wpC A nt rnd r env K s
      | _ => fun _ _ _ => False) env K s) False
    | none => loopK (A (2 * firstR b)) (assigned b) (fun env K s => wpC A nt rnd b env K s) env K s
  | .exit id, env, K, s => K (.exit id) env s
  | .ret, env, K, s => K .ret env s
  | .rangeFunc f ps as bo, env, K, s => cond (okX f) (rangeK P X A nt rnd (evD env f) ps as bo env (fun e s => K e env s) s) False
  | _, _, _, _ => False
def resK : List ResultVar → Env → (List AVal → Prop) → Heap → Prop
  | [], _, k, _ => k []
  | .tmp t :: rs, env, k, s => resK rs env (fun vs => k (env t :: vs)) s
  | .cell a t :: rs, env, k, s => loadK P t (env a) (fun v => resK rs env (fun vs => k (v :: vs)) s) s
def retK (e : AExit) (p : Prop) : Prop := match e with
  | .exit _ => False
  | _ => p
end

variable {α β : Type} {P : Program} {X : Told} {A : Nat → List Nat} {nt : Nat} {rnd : Option Nat}
def mkH (ms : List Nat) : Heap := fun i => if i ∈ ms then some (false, .deferred true) else none
theorem mkH_none {ms : List Nat} {i : Nat} : mkH ms i ≠ none ↔ i ∈ ms := by unfold mkH; by_cases h : i ∈ ms <;> simp [h]
theorem memN_iff {i : Nat} : ∀ {l : List Nat}, memN i l = true ↔ i ∈ l
  | [] => by simp [memN]
  | j :: l => by
    unfold memN
    cases h : Nat.beq i j with
    | true => simp [Nat.eq_of_beq_eq_true h]
    | false =>
      have : i ≠ j := fun e => by rw [e, Nat.beq_refl] at h; cases h
      simp [memN_iff (l := l), this]
theorem dstsOf_mem : ∀ {l : List Oper} {o : Oper} {d : Nat}, o ∈ l → o.dst = some d → d ∈ dstsOf l
  | [], _, _, h, _ => by cases h
  | p :: l, o, d, h, hd => by
    unfold dstsOf
    rcases List.mem_cons.1 h with rfl | h
    · rw [hd]; exact List.mem_cons_self ..
    · cases p.dst with
      | none => exact dstsOf_mem h hd
      | some _ => exact List.mem_cons_of_mem _ (dstsOf_mem h hd)
theorem masks_length : ∀ (os : List Oper) (acc : List Nat), (masks os acc).length = acc.length + os.length
  | [], acc => by simp [masks]
  | o :: os, acc => by rw [masks, masks_length]; simp; omega
/-- marks alone -/
def mkm (ms : List Nat) : List Mk := ms.map Mk.mark
/-- what code leaves -/
def PostK (c : Code) (env : Env) (K : AExit → Env → Heap → Prop) (ms : List Nat) (rnd : Option Nat) (o : Out) (S : Heap) : Prop :=
  ∃ e T' env' ms' s', o = .exit e T' (mkm (ms' ++ ms)) ∧ TR T' env' ∧ S = add s' (mkH (ms' ++ ms)) ∧ (∀ i ∈ ms' ++ ms, s' i = none) ∧ (ms' ++ ms).Nodup ∧ (∀ j, j ∉ assigned c → env' j = env j) ∧ (rnd ≠ none → ms' = []) ∧ K e env' s'
def CodeK (P : Program) (X : Told) (A : Nat → List Nat) (nt : Nat) (rnd : Option Nat) (c : Code) : Prop := ∀ (env : Env) (K : AExit → Env → Heap → Prop) (s : Heap), wpC P X A nt rnd c env K s → ∀ (T : Tmps) (ms : List Nat), TR T env → (∀ i ∈ ms, s i = none) → ms.Nodup →
  wpF (fun n => run P X n (.code nt rnd c T (mkm ms))) (PostK c env K ms rnd) (add s (mkH ms))
theorem wpF.succ {m : Nat → M α} {m' : Nat → M α} {Q : α → Heap → Prop} {s : Heap} (h : wpF m Q s) (e : ∀ n, m' (n + 1) = m n) : wpF m' Q s := fun H hH => by
  obtain ⟨n, a, H', h1, h2⟩ := h H hH
  exact ⟨n + 1, a, H', by rw [e]; exact h1, h2⟩
theorem code_succ {c : Code} {T : Tmps} {ms : List Mk} {Q : Out → Heap → Prop} {s : Heap} (h : wpF (fun n => runCode P (run P X n) nt rnd c T ms) Q s) : wpF (fun n => run P X n (.code nt rnd c T ms)) Q s := h.succ fun _ => rfl
theorem PostK.stay {c : Code} {env : Env} {K : AExit → Env → Heap → Prop} {ms : List Nat} {e : AExit} {T : Tmps} {s : Heap} (hT : TR T env) (hm : ∀ i ∈ ms, s i = none) (hnd : ms.Nodup) (h : K e env s) : PostK c env K ms rnd (.exit e T (mkm ms)) (add s (mkH ms)) :=
  ⟨e, T, env, [], s, rfl, hT, rfl, hm, hnd, fun _ _ => rfl, fun _ => rfl, h⟩
theorem skip_K : CodeK P X A nt rnd .skip := fun env K s h T ms hT hm hnd => code_succ (wpF.ret (.stay hT hm hnd h))
theorem exit_K {id : Nat} : CodeK P X A nt rnd (.exit id) := fun env K s h T ms hT hm hnd => code_succ (wpF.ret (.stay hT hm hnd h))
theorem ret_K : CodeK P X A nt rnd .ret := fun env K s h T ms hT hm hnd => code_succ (wpF.ret (.stay hT hm hnd h))
theorem region_K (hX : FrX X) {id : Nat} {ops : Array Oper} {draw : Bool} : CodeK P X A nt rnd (.region id ops draw) := by
  intro env K s h T ms hT hm hnd
  refine code_succ ?_
  unfold wpC at h
  cases hokd : ((ops.toList.all fun o => okOp o.op) && (draw || (deferOf ops.toList).isNone)) with
  | false => rw [hokd] at h; exact h.elim
  | true =>
    rw [hokd, cond_true] at h
    obtain ⟨hok, hdn⟩ := Bool.and_eq_true_iff.1 hokd
    have fin : ∀ m : Nat → M Tmps, (∀ n, Fr (m n)) → Mono m → wpF m (fun T' s' => ∃ env', TR T' env' ∧ K .nrm env' s' ∧ ∀ j, (∀ o ∈ ops.toList, o.dst ≠ some j) → env' j = env j) s →
        wpF (fun n => bd (m n) fun T => ret (Out.exit .nrm T (mkm ms))) (PostK (.region id ops draw) env K ms rnd) (add s (mkH ms)) := by
      intro m hfr hmo hw
      refine wpF.bd (f := fun _ T => ret (Out.exit .nrm T (mkm ms))) hmo (fun _ => .const _) ((wpF.frame hfr hw fun i hi => hm i (mkH_none.1 hi)).mono ?_)
      rintro T' S ⟨s', rfl, hs', env', q1, q2, q3⟩
      refine wpF.ret ⟨.nrm, T', env', [], s', rfl, q1, rfl, fun i hi => hs' i (mkH_none.2 hi), hnd, fun j hj => q3 j fun o ho hd => hj ?_, fun _ => rfl, q2⟩
      exact dstsOf_mem ho hd
    unfold runCode
    cases draw with
    | false =>
      simp only [cond_false] at h ⊢
      have hdn : deferOf ops.toList = none := by simpa using hdn
      rw [hdn]
      exact fin _ (fun n => fr_opsA P (fr_run P hX n) _ _ _ _) (mono_opsA _ _ _ _) (opsE_ok _ _ _ _ _ hok hT .nil h)
    | true =>
      simp only [cond_true] at h ⊢
      cases hr : (regionOk ops.toList && drawOk (wildOf A ops.toList) ops (clsL P ops.toList) (masks ops.toList [])) with
      | false => rw [hr] at h; exact h.elim
      | true =>
        rw [hr, cond_true] at h
        obtain ⟨h1, h2⟩ := Bool.and_eq_true_iff.1 hr
        simp only [h1, cond_true]
        have hlen : (masks ops.toList []).length = ops.size := by rw [masks_length]; simp
        refine fin _ (fun n => fr_opsD P (fr_run P hX n) _ _ _ _ _ _) (mono_opsD _ _ _ _ _) fun H hH => ?_
        obtain ⟨n, T', H', q1, s', env', q2, q3, q4, q5, q6⟩ := opsQ_ok hX hlen h2 ops.toList 0 [] [] [] env s T [] rfl hok hT .nil h H hH ⟨rfl, by simp, by simp, by simp, by simp, by simp⟩
        exact ⟨n, T', H', q1, s', q2, q3, env', q4, q5, q6⟩
theorem seq_K {a b : Code} (ha : CodeK P X A nt rnd a) (hb : CodeK P X A nt rnd b) : CodeK P X A nt rnd (.seq a b) := by
  intro env K s h T ms hT hm hnd
  refine code_succ ?_
  unfold wpC at h
  unfold runCode
  refine wpF.bd (m := fun n => run P X n (.code nt rnd a T (mkm ms))) (f := fun n o => match o with
    | .exit .nrm T ms => run P X n (.code nt rnd b T ms)
    | o => ret o) (mono_run _) (fun o => ?_) ((ha env _ s h T ms hT hm hnd).mono ?_)
  · cases o with
    | exit e T ms => cases e with
      | nrm => exact mono_run _
      | _ => exact .const _
    | val v => exact .const _
  · rintro o S ⟨e, T1, env1, ms1, s1, rfl, q1, rfl, q2, q3, q4, q5, q6⟩
    cases e with
    | nrm =>
      refine (hb env1 K s1 q6 T1 (ms1 ++ ms) q1 q2 q3).mono ?_
      rintro o S ⟨e, T2, env2, ms2, s2, rfl, r1, rfl, r2, r3, r4, r5, r6⟩
      refine ⟨e, T2, env2, ms2 ++ ms1, s2, by rw [List.append_assoc], r1, by rw [List.append_assoc], by rw [List.append_assoc]; exact r2, by rw [List.append_assoc]; exact r3, fun j hj => ?_, fun hr => by rw [r5 hr, q5 hr]; rfl, r6⟩
      simp only [assigned, List.mem_append, not_or] at hj
      rw [r4 j hj.2, q4 j hj.1]
    | exit id => exact wpF.ret ⟨_, T1, env1, ms1, s1, rfl, q1, rfl, q2, q3, fun j hj => q4 j (by simp only [assigned, List.mem_append, not_or] at hj; exact hj.1), q5, q6⟩
    | ret => exact wpF.ret ⟨_, T1, env1, ms1, s1, rfl, q1, rfl, q2, q3, fun j hj => q4 j (by simp only [assigned, List.mem_append, not_or] at hj; exact hj.1), q5, q6⟩
theorem cond_K {c : Operand} {a b : Code} (ha : CodeK P X A nt rnd a) (hb : CodeK P X A nt rnd b) : CodeK P X A nt rnd (.cond c a b) := by
  intro env K s h T ms hT hm hnd
  refine code_succ ?_
  unfold wpC at h
  cases hok : okX c with
  | false => rw [hok] at h; exact h.elim
  | true =>
    rw [hok, cond_true] at h
    unfold runCode
    simp only [ev_of hT hok]
    unfold boolK at h
    split at h
    · rename_i e
      simp only [e, cond_true]
      refine (ha env K s h T ms hT hm hnd).mono ?_
      rintro o S ⟨e, T2, env2, ms2, s2, rfl, r1, rfl, r2, r3, r4, r5, r6⟩
      exact ⟨e, T2, env2, ms2, s2, rfl, r1, rfl, r2, r3, fun j hj => r4 j (by simp only [assigned, List.mem_append, not_or] at hj; exact hj.1), r5, r6⟩
    · rename_i e
      simp only [e, cond_false]
      refine (hb env K s h T ms hT hm hnd).mono ?_
      rintro o S ⟨e, T2, env2, ms2, s2, rfl, r1, rfl, r2, r3, r4, r5, r6⟩
      exact ⟨e, T2, env2, ms2, s2, rfl, r1, rfl, r2, r3, fun j hj => r4 j (by simp only [assigned, List.mem_append, not_or] at hj; exact hj.2), r5, r6⟩
    · exact h.elim
theorem block_K {id : Nat} {b : Code} (hb : CodeK P X A nt rnd b) : CodeK P X A nt rnd (.block id b) := by
  intro env K s h T ms hT hm hnd
  refine code_succ ?_
  unfold wpC at h
  unfold runCode
  refine wpF.bd (m := fun n => run P X n (.code nt rnd b T (mkm ms))) (f := fun _ o => match o with
    | .exit (.exit id') T ms => cond (Nat.beq id' id) (ret (.exit .nrm T ms)) (ret (.exit (.exit id') T ms))
    | o => ret o) (mono_run _) (fun _ => .const _) ((hb env _ s h T ms hT hm hnd).mono ?_)
  rintro o S ⟨e, T1, env1, ms1, s1, rfl, q1, rfl, q2, q3, q4, q5, q6⟩
  cases e with
  | exit id' =>
    simp only at q6 ⊢
    cases hb : Nat.beq id' id with
    | true => rw [hb] at q6; exact wpF.ret ⟨_, T1, env1, ms1, s1, rfl, q1, rfl, q2, q3, q4, q5, q6⟩
    | false => rw [hb] at q6; exact wpF.ret ⟨_, T1, env1, ms1, s1, rfl, q1, rfl, q2, q3, q4, q5, q6⟩
  | nrm => exact wpF.ret ⟨_, T1, env1, ms1, s1, rfl, q1, rfl, q2, q3, q4, q5, q6⟩
  | ret => exact wpF.ret ⟨_, T1, env1, ms1, s1, rfl, q1, rfl, q2, q3, q4, q5, q6⟩
theorem iterOf_some {s : Heap} {x : AVal} {r since c : Nat} {mo : Option Nat} {es : List AEnt} (h : iterOf s x = some (r, mo, since, c, es)) : x = .ptr r 0 ∧ ∃ stepped, s r = some (false, .iter mo since [] stepped) ∧ since ≤ stepped ∧ since ≤ c ∧ allOld since es = true ∧ es.length < 900 ∧ MapIt (hdel s r) mo c es := by
  unfold iterOf at h
  split at h
  · rename_i r'
    split at h
    · rename_i since stepped hr
      cases e : Nat.ble since stepped with
      | false => rw [e] at h; cases h
      | true =>
        rw [e] at h
        cases h
        exact ⟨rfl, stepped, hr, Nat.le_of_ble_eq_true e, Nat.le_refl _, rfl, by simp, rfl⟩
    · rename_i m since stepped hr
      split at h
      · rename_i t es' c hm
        cases e : (Nat.ble since stepped && (Nat.ble since c && (allOld since es' && Nat.blt es'.length 900))) with
        | false => rw [e] at h; cases h
        | true =>
          rw [e] at h
          cases h
          simp only [Bool.and_eq_true, Nat.blt_eq] at e
          refine ⟨rfl, stepped, hr, Nat.le_of_ble_eq_true e.1, Nat.le_of_ble_eq_true e.2.1, e.2.2.1, e.2.2.2, t, ?_⟩
          show (if m = r then none else s m) = _
          rw [if_neg fun q => by rw [q, hr] at hm; cases hm]
          exact hm
      · cases h
    · cases h
  · cases h
theorem mapStep_seq {b : Code} {st : MapStep} (h : mapStep b = some st) : ∃ a, b = .seq a st.rest := by
  unfold mapStep at h
  split at h
  · rename_i id ops rest
    split at h
    · rename_i nx it ty1 pos1 af1 more nx' ty2 pos2 af2 hops
      cases e : Nat.beq nx nx' with
      | false => rw [e] at h; cases h
      | true => rw [e] at h; cases h; exact ⟨_, rfl⟩
    · cases h
  · cases h
theorem add_mk0 (s : Heap) : add s (mkH []) = s := by funext i; unfold add mkH; cases s i <;> simp
theorem mapLoop_K (hX : FrX X) {b : Code} {st : MapStep} (hms : mapStep b = some st) (hb : CodeK P X A nt rnd st.rest) {env : Env} {K : AExit → Env → Heap → Prop} {s : Heap} {T : Tmps} {ms : List Nat} (hok : mapOk nt st (assigned b) = true)
    {id : Nat} (h : mapLoopK st (assigned b) id (fun env K s => wpC P X A nt rnd st.rest env K s) env K s) (hT : TR T env) (hm : ∀ i ∈ ms, s i = none) (hnd : ms.Nodup) :
    wpF (fun n => run P X n (.code nt rnd (.loop b) T (mkm ms))) (PostK (.loop b) env K ms rnd) (add s (mkH ms)) := by
  refine code_succ ?_
  unfold mapOk at hok
  simp only [Bool.and_eq_true, Bool.not_eq_true'] at hok
  obtain ⟨k1, k2, ⟨k3, k4⟩, k5, k6⟩ := hok
  obtain ⟨p, hp, S, S2, h1, h2, h3⟩ := optK_some h
  obtain ⟨r, mo, since, c, es⟩ := p
  simp only at h1 h2 h3
  have he0 : AExit.exit id ≠ .nrm := by simp
  generalize AExit.exit id = e0 at h2 h3 he0
  obtain ⟨hit, stepped, q1, q2, q3, q4, q5, q6⟩ := iterOf_some hp
  obtain ⟨a, hseq⟩ := mapStep_seq hms
  have hsub : ∀ j, memN j (assigned b) = false → j ∉ assigned st.rest ∧ Nat.beq j st.nx = false ∧ Nat.beq j st.more = false := fun j hj => by
    refine ⟨fun hm => ?_, ?_, ?_⟩
    · rw [hseq] at hj
      have : memN j (assigned a ++ assigned st.rest) = true := memN_iff.2 (List.mem_append_right _ hm)
      rw [show assigned (.seq a st.rest) = assigned a ++ assigned st.rest from rfl] at hj
      rw [hj] at this; cases this
    · cases e : Nat.beq j st.nx with
      | false => rfl
      | true => rw [Nat.eq_of_beq_eq_true e, k3] at hj; cases hj
    · cases e : Nat.beq j st.more with
      | false => rfl
      | true => rw [Nat.eq_of_beq_eq_true e, k4] at hj; cases hj
  have hmix : ∀ env1, Off (assigned b) env env1 → mixE (assigned b) env1 env = env1 := fun env1 ho => by
    funext j
    unfold mixE
    cases hj : memN j (assigned b) with
    | true => rfl
    | false => exact (ho j hj).symm
  have marks : ∀ {env1 : Env} {T1 : Tmps} {K1 : AExit → Env → Heap → Prop} {s1 : Heap}, TR T1 env1 → wpC P X A nt rnd st.rest env1 K1 s1 → wpF (fun n => run P X n (.code nt rnd st.rest T1 [])) (fun o _ => ∃ e T' env' s', o = .exit e T' [] ∧ TR T' env' ∧ (∀ j, j ∉ assigned st.rest → env' j = env1 j) ∧ K1 e env' s') s1 := fun {env1 T1 K1 s1} ht hw => by
    have := hb env1 K1 s1 hw T1 [] ht (by simp) List.nodup_nil
    rw [add_mk0] at this
    refine (wpF.both (R := fun o => o = reMs [] o) this fun n H a H' hrun => ?_).mono ?_
    · have e0 := run_noRF (P := P) (X := X) (nt := nt) (rnd := rnd) n st.rest k1 T1 [] H
      have hrun : run P X n (.code nt rnd st.rest T1 []) H = some (a, H') := hrun
      rw [hrun] at e0
      simp only [reO, Option.some.injEq, Prod.mk.injEq, and_true] at e0
      exact e0
    · rintro o S' ⟨⟨e, T', env', ms', s', rfl, j1, _, _, _, j2, _, j3⟩, hR⟩
      exact ⟨e, T', env', s', hR, j1, j2, j3⟩
  have offs : ∀ {env1 env' : Env} {v w : AVal}, Off (assigned b) env env1 → (∀ j, j ∉ assigned st.rest → env' j = upd (upd env1 st.nx v) st.more w j) → Off (assigned b) env env' := fun {env1 env' v w} ho hj j hm => by
    obtain ⟨z1, z2, z3⟩ := hsub j hm
    rw [hj j z1]
    unfold upd
    rw [z3, z2]
    exact ho j hm
  intro H hH
  have hs : HRel s { H with log := [] } := (HRel.sub ⟨hH.lo, hH.wf, hH.at_⟩ fun i e hi => by unfold add; rw [hi])
  obtain ⟨lo1, ab, g1, g2⟩ := hs.at_ r false _ q1
  cases ab <;> first | exact g2.elim | skip
  obtain ⟨rfl, rfl, rfl, rfl⟩ := g2
  have hs0 : HRel (hdel s r) { H with log := [] } := hs.sub fun i e hi => by
    unfold hdel at hi
    split at hi
    · cases hi
    · exact hi
  have cl : Cl (hdel s r) { H with log := [] } r mo since [] { H with log := [] } := ⟨⟨hs0, Nat.le_refl _, rfl, by simp, fun _ _ _ => rfl⟩, ⟨stepped, g1, q2⟩, lo1 rfl⟩
  obtain ⟨n0, L, i1, i2, i3, i4⟩ := rounds_ok (rnd := rnd) (nt := nt) hX k1 (if_pos rfl) hit k2 q6 q4 q3 he0 (S := S) (S2 := S2)
    (fun e he sn hsn env1 T1 t1 o1 sh1 => (marks (K1 := fun ex env' _ => ex = .nrm ∧ shEs ((assigned b).map env') S = true) t1 (by have := h1 e he sn hsn env1 sh1; rw [hmix env1 o1] at this; exact this)).mono fun o _ ⟨e', T', env', s', j1, j2, j3, j4, j5⟩ => ⟨T', env', by rw [j1, j4], j2, offs o1 j3, j5⟩)
    (fun env1 T1 t1 o1 sh1 => (marks (K1 := fun ex env' _ => ex = e0 ∧ (es ≠ [] → shEs ((assigned b).map env') S2 = true)) t1 (by have := h2 env1 sh1; rw [hmix env1 o1] at this; exact this)).mono fun o _ ⟨e', T', env', s', j1, j2, j3, j4, j5⟩ => ⟨T', env', by rw [j1, j4], j2, offs o1 j3, j5⟩) (mkm ms)
    1000 [] { H with log := [] } env T cl hT (fun _ _ => rfl) (.inl ⟨rfl, rfl⟩) (by rw [leftE_nil]; omega)
  have hrm : r ∉ ms := fun hr => by rw [hm r hr] at q1; cases q1
  have ht : HRel (hdel (add s (mkH ms)) r) H := hH.sub fun i e hi => by
    unfold hdel at hi
    split at hi
    · cases hi
    · exact hi
  have hway : (∃ p, L = [p] ∧ ∃ T' env', p.1 = .exit e0 T' (mkm ms) ∧ TR T' env' ∧ Off (assigned b) env env') ∨ ∀ p ∈ L, Way (assigned b) S2 env e0 (mkm ms) p.1 := by
    by_cases hes : es = []
    · obtain ⟨p, hpL⟩ := i3 hes
      obtain ⟨⟨T', env', j1, j2, j3, _⟩, _⟩ := i4 p (by rw [hpL]; exact List.mem_cons_self)
      exact .inl ⟨p, hpL, T', env', j1, j2, j3⟩
    · exact .inr fun p hp => by
        obtain ⟨⟨T', env', j1, j2, j3, j4⟩, _⟩ := i4 p hp
        exact ⟨T', env', j1, j2, j3, j4 hes⟩
  obtain ⟨U, g, H', u1, u2, u3, u4⟩ := joinAll_ok (s0 := hdel s r) (t := hdel (add s (mkH ms)) r) (H0 := H) (if_pos rfl) ht i2 hway fun p hp => by
    have := (i4 p hp).2
    exact ⟨this.rel, this.next, this.lo, this.log, this.kept⟩
  refine ⟨n0, .exit e0 U (mkm ms), H', ?_, hdel (add s (mkH ms)) r, u4, ?_, e0, U, g, [], hdel s r, rfl, u2, ?_, ?_, hnd, fun j hj => ?_, fun _ => rfl, ?_⟩
  · unfold runCode
    simp only [hms]
    unfold mapLoop
    rw [k5, k6]
    simp only [Bool.and_self, cond_true]
    rw [i1 n0 (Nat.le_refl _)]
    exact u1
  · intro i x hi
    show (if i = r then none else add s (mkH ms) i) = _
    rw [if_neg fun q => ?_]
    · exact hi
    · subst q
      unfold add at hi
      rw [q1] at hi
      cases hi
  · funext i
    show (if i = r then none else add s (mkH ms) i) = add (hdel s r) (mkH ms) i
    unfold add hdel
    by_cases q : i = r
    · subst q
      rw [if_pos rfl, if_pos rfl]
      show none = mkH ms i
      unfold mkH
      rw [if_neg hrm]
    · rw [if_neg q, if_neg q]
  · intro i hi
    show (if i = r then none else s i) = none
    split
    · rfl
    · exact hm i hi
  · refine u3 j ?_
    cases e : memN j (assigned b) with
    | false => rfl
    | true => exact absurd (memN_iff.1 e) hj
  · have := h3 g
    rw [hmix g u3] at this
    exact this
theorem loop_K (hX : FrX X) {b : Code} (hb : CodeK P X A nt rnd b) (hr : ∀ st, mapStep b = some st → CodeK P X A nt rnd st.rest) : CodeK P X A nt rnd (.loop b) := by
  intro env K s h T ms hT hm hnd
  unfold wpC at h
  cases hms : mapStep b with
  | some st =>
    rw [hms] at h
    simp only at h
    cases hok : mapOk nt st (assigned b) with
    | false => rw [hok] at h; exact h.elim
    | true =>
      rw [hok, cond_true] at h
      obtain ⟨a, hseq⟩ := mapStep_seq hms
      subst hseq
      obtain ⟨id, _, h⟩ := optK_some h
      exact mapLoop_K hX hms (hr st hms) hok h hT hm hnd
  | none =>
  rw [hms] at h
  simp only at h
  unfold loopK at h
  obtain ⟨I, ⟨m, h0⟩, hstep⟩ := h
  have key : ∀ (m : Nat) (env1 : Env) (s1 : Heap) (T1 : Tmps) (ms1 : List Nat), I ((A (2 * firstR b)).map env1) s1 m → (∀ j, j ∉ assigned b → env1 j = env j) → TR T1 env1 → (∀ i ∈ ms1, s1 i = none) → ms1.Nodup →
      wpF (fun n => run P X n (.code nt rnd (.loop b) T1 (mkm ms1))) (fun o S => ∃ e T' env' ms' s', o = .exit e T' (mkm (ms' ++ ms1)) ∧ TR T' env' ∧ S = add s' (mkH (ms' ++ ms1)) ∧ (∀ i ∈ ms' ++ ms1, s' i = none) ∧ (ms' ++ ms1).Nodup ∧ (∀ j, j ∉ assigned b → env' j = env j) ∧ (rnd ≠ none → ms' = []) ∧ K e env' s') (add s1 (mkH ms1)) := by
    intro m
    induction m using Nat.strongRecOn with
    | _ m ih =>
      intro env1 s1 T1 ms1 hI hag hT1 hm1 hnd1
      refine code_succ ?_
      have hmix : mixE (assigned b) env1 env = env1 := by
        funext j
        unfold mixE
        cases hj : memN j (assigned b) with
        | true => rfl
        | false => exact (hag j fun q => by rw [memN_iff.2 q] at hj; cases hj).symm
      have hbody := hstep env1 s1 m hI
      rw [hmix] at hbody
      unfold runCode
      simp only [hms]
      refine wpF.bd (m := fun n => run P X n (.code nt rnd b T1 (mkm ms1))) (f := fun n o => match o with
        | .exit .nrm T ms => run P X n (.code nt rnd (.loop b) T ms)
        | o => ret o) (mono_run _) (fun o => ?_) ((hb env1 _ s1 hbody T1 ms1 hT1 hm1 hnd1).mono ?_)
      · cases o with
        | exit e T ms => cases e with
          | nrm => exact mono_run _
          | _ => exact .const _
        | val v => exact .const _
      · rintro o S ⟨e, T2, env2, ms2, s2, rfl, q1, rfl, q2, q3, q4, q5, q6⟩
        have hag2 : ∀ j, j ∉ assigned b → env2 j = env j := fun j hj => (q4 j hj).trans (hag j hj)
        cases e with
        | nrm =>
          obtain ⟨m', hlt, hI'⟩ := q6
          refine (ih m' hlt env2 s2 T2 (ms2 ++ ms1) hI' hag2 q1 q2 q3).mono ?_
          rintro o S ⟨e, T3, env3, ms3, s3, rfl, r1, rfl, r2, r3, r4, r5, r6⟩
          exact ⟨e, T3, env3, ms3 ++ ms2, s3, by rw [List.append_assoc], r1, by rw [List.append_assoc], by rw [List.append_assoc]; exact r2, by rw [List.append_assoc]; exact r3, r4, fun hr => by rw [r5 hr, q5 hr]; rfl, r6⟩
        | exit id => exact wpF.ret ⟨_, T2, env2, ms2, s2, rfl, q1, rfl, q2, q3, hag2, q5, q6⟩
        | ret => exact wpF.ret ⟨_, T2, env2, ms2, s2, rfl, q1, rfl, q2, q3, hag2, q5, q6⟩
  exact key m env s T ms h0 (fun _ _ => rfl) hT hm hnd
end Go.AM
namespace Go.AM
open Go
variable {α β : Type} {P : Program} {X : Told} {A : Nat → List Nat} {nt : Nat} {rnd : Option Nat}
theorem wpF.drop {m : Nat → M α} {Q : α → Heap → Prop} {s t : Heap} (h : wpF m Q t) (hs : Sub t s) (hp : Pers s t) : wpF m Q s := fun H hH => by
  obtain ⟨n, a, H', h1, s', h2, h3, h4⟩ := h H (hH.sub hs)
  exact ⟨n, a, H', h1, s', h2, hp.trans h3, h4⟩
theorem hset_same {s : Heap} {b : Nat} {e : Bool × Blk} : hset s b e b = some e := if_pos rfl
theorem hset_ne {s : Heap} {b i : Nat} {e : Bool × Blk} (h : i ≠ b) : hset s b e i = s i := if_neg h
theorem hdel_ne {s : Heap} {b i : Nat} (h : i ≠ b) : hdel s b i = s i := if_neg h
theorem hdel_same {s : Heap} {b : Nat} : hdel s b b = none := if_pos rfl
theorem add_hset {s : Heap} {ms : List Nat} {b : Nat} {e : Bool × Blk} : hset (add s (mkH ms)) b e = add (hset s b e) (mkH ms) := by
  funext i
  by_cases h : i = b
  · subst h; rw [hset_same]; exact (add_some hset_same).symm
  · rw [hset_ne h]; unfold add; rw [hset_ne h]
theorem add_mark {s : Heap} {ms : List Nat} {r : Nat} (h : s r = none) : hset (add s (mkH ms)) r (false, .deferred true) = add s (mkH (r :: ms)) := by
  funext i
  unfold hset add mkH
  by_cases e : i = r
  · rw [if_pos e, e, h]; simp
  · rw [if_neg e]; simp [e]
theorem mono_outVal (t : Task) : Mono fun n => outVal (run P X n t) := mono_of fun n => LeM.outVal (le_run n t)
theorem doneK_some {l : Nat} {K : AExit → Heap → Prop} {s : Heap} (h : doneK l K s) : ∃ st pd nt env ps as bo d, s l = some (false, .loop st pd nt env ps as bo d) ∧ st ≠ .busy ∧
    (match pd with | none => K .nrm (hdel s l) | some .ret => K .ret (hdel s l) | some (.exit id) => K (.exit id) (hdel s l) | some _ => False) := by
  unfold doneK at h
  split at h
  · rename_i st pd nt env ps as bo d e
    exact ⟨st, pd, nt, env, ps, as, bo, d, e, h.1, h.2⟩
  · exact h.elim
theorem rangeFunc_K (hX : FrX X) {f : Operand} {ps : Array Tmp} {as bo : Code} : CodeK P X A nt rnd (.rangeFunc f ps as bo) := by
  intro env K s h T ms hT hm hnd
  refine code_succ ?_
  unfold wpC at h
  cases hok : okX f with
  | false => rw [hok] at h; exact h.elim
  | true =>
    rw [hok, cond_true] at h
    unfold rangeK at h
    split at h
    · rename_i k first cap hf
      obtain ⟨hk, hrnd, h⟩ := h
      unfold runCode
      simp only [ev_of hT hok, hf]
      refine wpF.cond hk ?_
      -- what comes behind the entry
      have rest : ∀ (d : Nat) (ms0 : List Nat), (∀ i ∈ ms0 ++ ms, s i = none) → (ms0 ++ ms).Nodup → (rnd ≠ none → ms0 = []) →
          wpF (fun n => bd (nw (.loop .ready none nt T ps.toList as bo d)) fun l => bd (outVal (run P X n (.call k (first ++ [.yield l] ++ cap)))) fun _ => bd (rd l) fun blk => match blk with
            | .loop st pend nt' T' ps' as' bo' d' => match st with
              | .busy => fail
              | _ => bd (wr l (.loop .exhausted pend nt' T' ps' as' bo' d')) fun _ => match pend with
                | none => ret (.exit .nrm T (mkm (ms0 ++ ms)))
                | some c => run P X n (.code nt rnd c T (mkm (ms0 ++ ms)))
            | _ => fail) (PostK (.rangeFunc f ps as bo) env K ms rnd) (add s (mkH (ms0 ++ ms))) := by
        intro d ms0 hm0 hnd0 hr0
        have mono3 : ∀ (l : Nat) (blk : ABlk), Mono fun n => (match blk with
            | .loop st pend nt' T' ps' as' bo' d' => match st with
              | .busy => fail
              | _ => bd (wr l (.loop .exhausted pend nt' T' ps' as' bo' d')) fun _ => match pend with
                | none => ret (.exit .nrm T (mkm (ms0 ++ ms)))
                | some c => run P X n (.code nt rnd c T (mkm (ms0 ++ ms)))
            | _ => fail : M Out) := by
          intro l blk
          refine mono_of fun n => ?_
          split
          · split
            · exact LeM.refl _
            · refine LeM.bd (LeM.refl _) fun _ => ?_
              split
              · exact LeM.refl _
              · exact le_run n _
          · exact LeM.refl _
        refine wpF.bd (.const _) (fun l => mono_bd (mono_outVal _) fun _ => mono_bd (.const _) fun blk => mono3 l blk) (wpF.nw (x := .loop .ready none nt ((A (2 * firstR bo + 1)).map fun i => (i, env i)) ps.toList as bo d) ⟨rfl, rfl, rfl, fun p hp => by obtain ⟨i, _, rfl⟩ := List.mem_map.1 hp; exact hT i, rfl, rfl, rfl, rfl⟩ fun l hl => ?_)
        rw [add_hset]
        have hls : s l = none := by
          cases e : s l with
          | none => rfl
          | some x => rw [add_some e] at hl; cases hl
        have hlm : l ∉ ms0 ++ ms := fun e => by
          rw [add_none hls] at hl
          exact mkH_none.2 e hl
        have hdis : ∀ i, mkH (ms0 ++ ms) i ≠ none → hset s l (false, .loop .ready none nt ((A (2 * firstR bo + 1)).map fun i => (i, env i)) ps.toList as bo d) i = none := fun i hi => by
          have hi' := mkH_none.1 hi
          rw [hset_ne (show i ≠ l from fun e => hlm (e ▸ hi'))]; exact hm0 i hi'
        refine wpF.bd (f := fun n _ => bd (rd l) fun blk => match blk with
            | .loop st pend nt' T' ps' as' bo' d' => match st with
              | .busy => fail
              | _ => bd (wr l (.loop .exhausted pend nt' T' ps' as' bo' d')) fun _ => match pend with
                | none => ret (.exit .nrm T (mkm (ms0 ++ ms)))
                | some c => run P X n (.code nt rnd c T (mkm (ms0 ++ ms)))
            | _ => fail) (mono_outVal _) (fun _ => mono_bd (.const _) fun blk => mono3 l blk) ((wpF.frame (fun n => fr_outVal (fr_run P hX n _)) (wp_out (h l d hls)) hdis).mono ?_)
        rintro u S ⟨s', rfl, hs', hdone⟩
        obtain ⟨st, pd, nt', env', ps', as', bo', d', hl', hst, hK⟩ := doneK_some hdone
        have hl2 : add s' (mkH (ms0 ++ ms)) l = some (false, .loop st pd nt' env' ps' as' bo' d') := add_some hl'
        refine wpF.bd (.const _) (fun blk => mono3 l blk) (wpF.rd hl2 fun ab hab => ?_)
        cases ab with
        | loop st2 pd2 nt2 T2 ps2 as2 bo2 d2 =>
          obtain ⟨rfl, rfl, rfl, hT2, rfl, rfl, rfl, rfl⟩ := hab
          have fin : wpF (fun n => (match (generalizing := false) pd with
              | none => ret (.exit .nrm T (mkm (ms0 ++ ms)))
              | some c => run P X n (.code nt rnd c T (mkm (ms0 ++ ms))) : M Out)) (PostK (.rangeFunc f ps as bo) env K ms rnd) (add (hdel s' l) (mkH (ms0 ++ ms))) := by
            have hm2 : ∀ i ∈ ms0 ++ ms, hdel s' l i = none := fun i hi => by
              rw [hdel_ne (show i ≠ l from fun e => hlm (e ▸ hi))]; exact hs' i (mkH_none.2 hi)
            cases pd with
            | none => exact wpF.ret ⟨.nrm, T, env, ms0, _, rfl, hT, rfl, hm2, hnd0, fun _ _ => rfl, hr0, hK⟩
            | some c =>
              cases c with
              | ret => exact code_succ (wpF.ret ⟨.ret, T, env, ms0, _, rfl, hT, rfl, hm2, hnd0, fun _ _ => rfl, hr0, hK⟩)
              | exit id => exact code_succ (wpF.ret ⟨.exit id, T, env, ms0, _, rfl, hT, rfl, hm2, hnd0, fun _ _ => rfl, hr0, hK⟩)
              | _ => exact hK.elim
          have fin2 : wpF (fun n => bd (wr l (.loop .exhausted pd nt' T2 ps' as' bo' d')) fun _ => (match (generalizing := false) pd with
              | none => ret (.exit .nrm T (mkm (ms0 ++ ms)))
              | some c => run P X n (.code nt rnd c T (mkm (ms0 ++ ms))) : M Out)) (PostK (.rangeFunc f ps as bo) env K ms rnd) (add s' (mkH (ms0 ++ ms))) := by
            refine wpF.bd (.const _) (fun _ => mono_of fun n => ?_) (wpF.wr hl2 (x := .loop .exhausted pd nt' env' ps' as' bo' d') ⟨rfl, rfl, rfl, hT2, rfl, rfl, rfl, rfl⟩ (wpF.drop fin ?_ ?_))
            · split
              · exact LeM.refl _
              · exact le_run n _
            · intro i e hi
              by_cases hil : i = l
              · subst hil
                rw [add_none hdel_same] at hi
                exact absurd (mkH_none.1 (by rw [hi]; simp)) hlm
              · rw [hset_ne hil]
                cases q : s' i with
                | none => rw [add_none (by rw [hdel_ne hil]; exact q)] at hi; rw [add_none q]; exact hi
                | some x => rw [add_some (by rw [hdel_ne hil]; exact q)] at hi; rw [add_some q]; exact hi
            · intro i b hi
              by_cases hil : i = l
              · subst hil; rw [hset_same] at hi; cases hi
              · rw [hset_ne hil] at hi
                cases q : s' i with
                | none => rw [add_none q] at hi; rw [add_none (by rw [hdel_ne hil]; exact q)]; exact hi
                | some x => rw [add_some q] at hi; rw [add_some (by rw [hdel_ne hil]; exact q)]; exact hi
          cases st <;> first | exact absurd rfl hst | exact fin2
        | _ => exact hab.elim
      have mono1 : ∀ dm : Nat × List Nat, Mono fun n => bd (nw (.loop .ready none nt T ps.toList as bo dm.1)) fun l => bd (outVal (run P X n (.call k (first ++ [.yield l] ++ cap)))) fun _ => bd (rd l) fun blk => match blk with
            | .loop st pend nt' T' ps' as' bo' d' => match st with
              | .busy => fail
              | _ => bd (wr l (.loop .exhausted pend nt' T' ps' as' bo' d')) fun _ => match pend with
                | none => ret (.exit .nrm T (dm.2.map Mk.mark ++ mkm ms))
                | some c => run P X n (.code nt rnd c T (dm.2.map Mk.mark ++ mkm ms))
            | _ => (fail : M Out) := by
        intro dm
        refine mono_of fun n => LeM.bd (LeM.refl _) fun l => LeM.bd (LeM.outVal (le_run n _)) fun _ => LeM.bd (LeM.refl _) fun blk => ?_
        split
        · split
          · exact LeM.refl _
          · refine LeM.bd (LeM.refl _) fun _ => ?_
            split
            · exact LeM.refl _
            · exact le_run n _
        · exact LeM.refl _
      refine wpF.bd (m := fun _ => enterA rnd) (.const _) mono1 ?_
      cases rnd with
      | none =>
        unfold enterA
        simp only
        refine wpF.bd (.const _) (fun _ => .const _) (wpF.nw (x := .deferred true) rfl fun r hr => wpF.ret ?_)
        have hrs : s r = none := by
          cases e : s r with
          | none => rfl
          | some x => rw [add_some e] at hr; cases hr
        have hrm : r ∉ ms := fun e => by
          rw [add_none hrs] at hr
          exact mkH_none.2 e hr
        rw [add_mark hrs]
        refine rest r [r] (fun i hi => ?_) (by simpa using ⟨hrm, hnd⟩) (fun e => absurd rfl e)
        rcases List.mem_cons.1 hi with rfl | hi
        · exact hrs
        · exact hm i hi
      | some l0 =>
        unfold enterA
        simp only
        have : ∃ tg st pd nt2 en2 ps2 as2 bo2 d2, s l0 = some (tg, .loop st pd nt2 en2 ps2 as2 bo2 d2) := by
          simp only [rndK, isLoop] at hrnd
          split at hrnd
          · rename_i tg st pd nt2 en2 ps2 as2 bo2 d2 e; exact ⟨tg, st, pd, nt2, en2, ps2, as2, bo2, d2, e⟩
          · exact hrnd.elim
        obtain ⟨tg, st, pd, nt2, en2, ps2, as2, bo2, d2, hl0⟩ := this
        refine wpF.bd (.const _) (fun _ => .const _) (wpF.rd (add_some hl0) fun ab hab => ?_)
        cases ab with
        | loop st3 pd3 nt3 T3 ps3 as3 bo3 d3 => exact wpF.ret (rest d3 [] hm hnd fun _ => rfl)
        | _ => exact hab.elim
    · exact h.elim
theorem code_K (hX : FrX X) : ∀ c : Code, CodeK P X A nt rnd c
  | .skip => skip_K
  | .region _ _ _ => region_K hX
  | .seq a b => seq_K (code_K hX a) (code_K hX b)
  | .cond _ a b => cond_K (code_K hX a) (code_K hX b)
  | .block _ b => block_K (code_K hX b)
  | .loop b => loop_K hX (code_K hX b) (match b with
    | .seq _ r =>
      have hr := code_K hX r
      fun st h => by
        obtain ⟨a', e⟩ := mapStep_seq h
        injection e with _ e2
        rw [← e2]; exact hr
    | .skip | .region _ _ _ | .cond _ _ _ | .block _ _ | .loop _ | .exit _ | .ret | .rangeFunc _ _ _ _ | .scope _ | .label _ | .goto _ | .refuse _ => fun st h => by obtain ⟨a', e⟩ := mapStep_seq h; cases e)
  | .exit _ => exit_K
  | .ret => ret_K
  | .rangeFunc _ _ _ _ => rangeFunc_K hX
  | .scope _ => fun _ _ _ h => h.elim
  | .label _ => fun _ _ _ h => h.elim
  | .goto _ => fun _ _ _ h => h.elim
  | .refuse _ => fun _ _ _ h => h.elim

/-! ### calls -/
theorem mono_takeMarks (l : List Mk) : Mono fun n => takeMarks P (run P X n) l := mono_of fun n => le_takeMarks (le_run n) l
theorem wp_takeMarks {s : Heap} {Q : Heap → Prop} : ∀ (ms : List Nat) (S : Heap), ms.Nodup → (∀ i ∈ ms, S i = some (false, .deferred true)) → Sub s S → Pers S s → (∀ i ∈ ms, s i = none) → Q s → wpF (fun n => takeMarks P (run P X n) (mkm ms)) (fun _ s' => Q s') S
  | [], S, _, _, hs, hp, _, h => wpF.drop (wpF.ret h) hs hp
  | r :: ms, S, hnd, hS, hs, hp, hm, h => by
    have hr := hS r (by simp)
    show wpF (fun n => takeMarks P (run P X n) (Mk.mark r :: mkm ms)) _ S
    unfold takeMarks
    refine wpF.bd (f := fun n blk => match blk with
      | .deferred true => bd (wr r (.deferred false)) fun _ => takeMarks P (run P X n) (mkm ms)
      | _ => fail) (.const _) (fun blk => mono_of fun n => ?_) (wpF.rd hr fun ab hab => ?_)
    · split
      · exact LeM.bd (LeM.refl _) fun _ => le_takeMarks (le_run n) _
      · exact LeM.refl _
    cases ab with
    | deferred b =>
      cases hab
      refine wpF.bd (.const _) (fun _ => mono_takeMarks _) (wpF.wr hr (x := .deferred false) rfl (wp_takeMarks ms _ (List.nodup_cons.1 hnd).2 (fun i hi => ?_) (fun i e hi => ?_) (fun i b hi => ?_) (fun i hi => hm i (by simp [hi])) h))
      · rw [hset_ne (show i ≠ r from fun e => (List.nodup_cons.1 hnd).1 (e ▸ hi))]; exact hS i (by simp [hi])
      · rw [hset_ne (show i ≠ r from fun q => by rw [q, hm r (by simp)] at hi; cases hi)]; exact hs i e hi
      · by_cases q : i = r
        · subst q; rw [hset_same] at hi; cases hi
        · rw [hset_ne q] at hi; exact hp i b hi
    | _ => exact hab.elim
theorem tr_args (args : List AVal) : TR (Tr.ofListAt .nil 0 args) (envOf args) := by
  intro i
  unfold tget envOf
  rw [Tr.get_ofListAt]
  split
  · rw [List.getD_eq_getElem?_getD]; rfl
  · rename_i h
    rw [Tr.get_nil, List.getD_eq_getElem?_getD, List.getElem?_eq_none (by omega)]
theorem optK_mono {o : Option α} {K K' : α → Prop} (hk : ∀ a, K a → K' a) (h : optK o K) : optK o K' := by
  cases o with
  | none => exact h
  | some a => exact hk a h
theorem loadK_mono {t : TypeId} {p : AVal} {K K' : AVal → Prop} {s : Heap} (hk : ∀ v, K v → K' v) (h : loadK P t p K s) : loadK P t p K' s := by
  unfold loadK at h ⊢
  split at h
  · exact optK_mono (fun l hl => hk _ hl) h
  · exact optK_mono hk h
  · exact h
theorem wp_results {T : Tmps} {env : Env} (hT : TR T env) : ∀ (rs : List ResultVar) (k : List AVal → Prop) (s : Heap), resK P rs env k s → wpF (fun _ => resultsA P T rs) (fun vs s' => s' = s ∧ k vs) s
  | [], k, s, h => wpF.ret ⟨rfl, h⟩
  | .tmp t :: rs, k, s, h => by
    unfold resultsA
    refine wpF.bd (.const _) (fun _ => .const _) ((wp_results hT rs _ s h).mono ?_)
    rintro vs s' ⟨rfl, hk⟩
    refine wpF.ret ⟨rfl, ?_⟩
    have := hT t
    unfold tget at this
    cases hg : T.get t with
    | none => rw [hg] at this; simp only [Option.getD_none] at this; simp only [this]; exact hk
    | some v => rw [hg] at this; simp only [Option.getD_some] at this; simp only [this]; exact hk
  | .cell a t :: rs, k, s, h => by
    unfold resK at h
    unfold resultsA
    have hg : ∀ b o, env a = .ptr b o → T.get a = some (.ptr b o) := by
      intro b o e
      have := hT a
      unfold tget at this
      cases hg : T.get a with
      | none => rw [hg, e] at this; cases this
      | some v => rw [hg, e] at this; simp only [Option.getD_some] at this; rw [this]
    have hp : ∃ b o, env a = .ptr b o := by
      unfold loadK at h
      split at h
      · obtain ⟨l, e, _⟩ := optK_some h
        unfold rdN at e
        split at e
        · rename_i b o q; exact ⟨b, o, q⟩
        · cases e
      · obtain ⟨l, e, _⟩ := optK_some h
        unfold rd1 at e
        split at e
        · rename_i b o q; exact ⟨b, o, q⟩
        · cases e
      · exact h.elim
    obtain ⟨b, o, e⟩ := hp
    simp only [hg b o e]
    rw [e] at h
    have hld : wpF (fun _ => loadA P t b o) (fun v s' => s' = s ∧ resK P rs env (fun vs => k (v :: vs)) s) s := wp_load (p := .ptr b o) (Q := fun v s' => s' = s ∧ resK P rs env (fun vs => k (v :: vs)) s) (loadK_mono (fun v hv => ⟨rfl, hv⟩) h)
    refine wpF.bd (.const _) (fun _ => .const _) (hld.mono ?_)
    rintro v s' ⟨rfl, hv⟩
    refine wpF.bd (.const _) (fun _ => .const _) ((wp_results hT rs _ _ hv).mono ?_)
    rintro vs s' ⟨rfl, hk⟩
    exact wpF.ret ⟨rfl, hk⟩
theorem wpCall_code (hX : FrX X) (A : Nat → List Nat) {f : FuncId} (hXf : X f = none) {fn : Func} {c : Code} (hf : P.funcs[f]? = some fn) (hb : fn.body = some c) {args : List AVal} (hl : Nat.ble args.length fn.ntmps = true) {K : AVal → Heap → Prop} {s : Heap}
    (h : wpC P X A fn.ntmps none c (envOf args) (fun e env s => retK e (resK P fn.results.toList env (fun vs => K (oneV vs) s) s)) s) : wpCall P X f args K s := by
  unfold wpCall wpT
  refine wpF.succ (m := fun n => runCall P (run P X n) f args) ?_ (fun n => by
    show (match X f with
      | some g => bd (g args) fun v => ret (Out.val v)
      | none => runCall P (run P X n) f args) = _
    rw [hXf])
  unfold runCall
  simp only [hf, hb]
  refine wpF.cond hl ?_
  have hc := code_K (P := P) (A := A) (nt := fn.ntmps) (rnd := none) hX c (envOf args) _ s h (Tr.ofListAt .nil 0 args) [] (tr_args args) (by simp) List.nodup_nil
  have e0 : add s (mkH []) = s := by funext i; unfold add mkH; cases s i <;> simp
  rw [e0] at hc
  refine wpF.bd (m := fun n => run P X n (.code fn.ntmps none c (Tr.ofListAt .nil 0 args) [])) (mono_run _) (fun o => mono_of fun n => ?_) (hc.mono ?_)
  · split
    · split
      · exact LeM.refl _
      · exact LeM.bd (le_takeMarks (le_run n) _) fun _ => LeM.refl _
    · exact LeM.refl _
  rintro o S ⟨e, T', env', ms', s', rfl, q1, rfl, q2, q3, _, _, q6⟩
  simp only [List.append_nil] at q2 q3 ⊢
  have body : resK P fn.results.toList env' (fun vs => K (oneV vs) s') s' → wpF (fun n => bd (takeMarks P (run P X n) (mkm ms')) fun _ => bd (resultsA P T' fn.results.toList) fun vs => ret (Out.val (oneV vs))) (fun o s' => ∃ v, o = .val v ∧ K v s') (add s' (mkH ms')) := by
    intro hr
    refine wpF.bd (mono_takeMarks _) (fun _ => .const _) ((wp_takeMarks (Q := fun t => t = s') ms' _ q3 (fun i hi => ?_) (fun i e hi => add_some hi) (fun i b hi => ?_) q2 rfl).mono ?_)
    · rw [add_none (q2 i hi)]; unfold mkH; rw [if_pos hi]
    · cases q : s' i with
      | some x => rw [add_some q] at hi; exact hi
      | none =>
        rw [add_none q] at hi
        unfold mkH at hi
        split at hi <;> cases hi
    · rintro _ t rfl
      refine wpF.bd (.const _) (fun _ => .const _) ((wp_results q1 _ _ _ hr).mono ?_)
      rintro vs s'' ⟨rfl, hk⟩
      exact wpF.ret ⟨_, rfl, hk⟩
  cases e with
  | exit id => exact q6.elim
  | nrm => exact body q6
  | ret => exact body q6
end Go.AM
namespace Go.AM
open Go Go.RowKit Go.ChangeShapes Go.WideShapes Go.ChangeAt
/-! ### what comes in -/
/-- the fields lie one behind the other -/
def tiles (P : Program) (total : Nat) : Nat → List Field → Bool
  | off, [] => Nat.beq off total
  | off, f :: fs => Nat.beq f.offset off && tiles P total (off + P.cellsOf f.type) fs
/-- types that are read: Booleans, integers, texts, slices, structs and arrays of such -/
def plainT (P : Program) : Nat → TypeId → Bool
  | 0, _ => false
  | d + 1, t => match P.underlying t with
    | some .bool | some (.int _) | some .string => true
    | some (.slice e) => Nat.blt 0 (P.cellsOf e) && plainT P d e
    | some (.struct fs) => tiles P (P.cellsOf t) 0 fs.toList && fs.toList.all fun f => plainT P d f.type
    | some (.array n e) => Nat.beq (P.cellsOf t) (n * P.cellsOf e) && (Nat.blt 0 (P.cellsOf e) && plainT P d e)
    | _ => false
def Inp (P : Program) (s : Heap) : Nat → TypeId → List AVal → Prop
  | 0, _, _ => False
  | d + 1, t, xs => match P.underlying t with
    | some .bool => ∃ b, xs = [.bool b]
    | some (.int k) => ∃ n, xs = [.int k n] ∧ (Lit.int k n).wf = true
    | some .string => ∃ v, xs = [.str v] ∧ v.size ≤ maxLen
    | some (.slice e) => xs = [.nilslc] ∨ ∃ b len cap, xs = [.slc b 0 len (some cap) (P.cellsOf e)] ∧ len ≤ cap ∧ cap ≤ maxLen ∧
        (0 < cap → ∃ el l, s b = some (true, .cells el l) ∧ l.length = cap * P.cellsOf e ∧ ∀ i, i < cap → Inp P s d e ((l.drop (i * P.cellsOf e)).take (P.cellsOf e)))
    | some (.struct fs) => xs.length = P.cellsOf t ∧ ∀ f ∈ fs.toList, Inp P s d f.type ((xs.drop f.offset).take (P.cellsOf f.type))
    | some (.array n e) => xs.length = P.cellsOf t ∧ ∀ i, i < n → Inp P s d e ((xs.drop (i * P.cellsOf e)).take (P.cellsOf e))
    | _ => False
abbrev IB := List (Loc × TypeId × List AVal)
def rhoB (B : IB) : Ren := fun id => match id with
  | 0 => some ⟨0, 0, 0⟩
  | i + 1 => match B[i]? with
    | some x => some x.1
    | none => none
def heapB (B : IB) : Heap := fun id => match id with
  | 0 => none
  | i + 1 => match B[i]? with
    | some x => some (true, .cells x.2.1 x.2.2)
    | none => none
theorem rhoB_le (B C : IB) : Le (rhoB B) (rhoB (B ++ C)) := by
  intro id L h
  cases id with
  | zero => exact h
  | succ i =>
    unfold rhoB at h ⊢
    simp only at h ⊢
    cases e : B[i]? with
    | none => rw [e] at h; cases h
    | some x => rw [e] at h; rw [List.getElem?_append_left (List.getElem?_eq_some_iff.1 e).1, e]; exact h
theorem heapB_sub (B C : IB) : Sub (heapB B) (heapB (B ++ C)) := by
  intro id L h
  cases id with
  | zero => exact h
  | succ i =>
    unfold heapB at h ⊢
    simp only at h ⊢
    cases e : B[i]? with
    | none => rw [e] at h; cases h
    | some x => rw [e] at h; rw [List.getElem?_append_left (List.getElem?_eq_some_iff.1 e).1, e]; exact h
theorem Inp.sub {P : Program} {s s' : Heap} (hs : Sub s s') : ∀ (d : Nat) (t : TypeId) (xs : List AVal), Inp P s d t xs → Inp P s' d t xs
  | 0, _, _, h => h
  | d + 1, t, xs, h => by
    unfold Inp at h ⊢
    split at h
    · exact h
    · exact h
    · exact h
    · rcases h with h | ⟨b, len, cap, h1, h2, h3, h4⟩
      · exact .inl h
      · refine .inr ⟨b, len, cap, h1, h2, h3, fun hc => ?_⟩
        obtain ⟨el, l, q1, q2, q3⟩ := h4 hc
        exact ⟨el, l, hs _ _ q1, q2, fun i hi => Inp.sub hs d _ _ (q3 i hi)⟩
    · exact ⟨h.1, fun f hf => Inp.sub hs d _ _ (h.2 f hf)⟩
    · exact ⟨h.1, fun i hi => Inp.sub hs d _ _ (h.2 i hi)⟩
    · exact h
def VB (σ : Nat → Value) (B : IB) (W : World) : Prop := ∀ (i : Nat) (x : Loc × TypeId × List AVal), B[i]? = some x → ∃ (cc : Array Value) (fr : Nat × Nat), W.heap[x.1.blk]? = some (.cells cc x.2.1 fr) ∧ cc.size = x.1.sz ∧ x.1.sh + x.2.2.length ≤ cc.size ∧ allOne x.2.2 = true ∧
  ∀ (j : Nat) (v : AVal), x.2.2[j]? = some v → ∃ v', cc[x.1.sh + j]? = some v' ∧ Rel σ (rhoB B) v v' ∧ v'.oneCell' = true
theorem VB.snoc {σ : Nat → Value} {B : IB} {W : World} (h : VB σ B W) (x : Loc × TypeId × List AVal)
    (hx : ∃ (cc : Array Value) (fr : Nat × Nat), W.heap[x.1.blk]? = some (.cells cc x.2.1 fr) ∧ cc.size = x.1.sz ∧ x.1.sh + x.2.2.length ≤ cc.size ∧ allOne x.2.2 = true ∧ ∀ (j : Nat) (v : AVal), x.2.2[j]? = some v → ∃ v', cc[x.1.sh + j]? = some v' ∧ Rel σ (rhoB B) v v' ∧ v'.oneCell' = true) : VB σ (B ++ [x]) W := by
  intro i y hy
  rw [List.getElem?_append] at hy
  split at hy
  · obtain ⟨cc, fr, h1, h2, h3, h4, h5⟩ := h i y hy
    exact ⟨cc, fr, h1, h2, h3, h4, fun j v hv => let ⟨v', q1, q2, q3⟩ := h5 j v hv; ⟨v', q1, Rel.mono (rhoB_le B [x]) _ _ q2, q3⟩⟩
  · have : y = x := by
      cases e : i - B.length with
      | zero => rw [e] at hy; exact (Option.some.inj hy).symm
      | succ k => rw [e] at hy; cases hy
    subst this
    obtain ⟨cc, fr, h1, h2, h3, h4, h5⟩ := hx
    exact ⟨cc, fr, h1, h2, h3, h4, fun j v hv => let ⟨v', q1, q2, q3⟩ := h5 j v hv; ⟨v', q1, Rel.mono (rhoB_le B [y]) _ _ q2, q3⟩⟩
section
variable {H : Type} {enc : TypeId × Value → H} {P : Program} {W : World} {σ : Nat → Value}
/-- reading one after the other -/
theorem open_many (hσ : One σ) (Q : Nat → List AVal → Heap → Prop) (hQ : ∀ i xs s s', Sub s s' → Q i xs s → Q i xs s') (css : Nat → List Value) : ∀ (n : Nat) (B : IB), VB σ B W →
    (∀ i, i < n → ∀ B, VB σ B W → ∃ xs C, VB σ (B ++ C) W ∧ RelL σ (rhoB (B ++ C)) xs (css i) ∧ allOne xs = true ∧ Q i xs (heapB (B ++ C))) →
    ∃ (xss : Nat → List AVal) (C : IB), VB σ (B ++ C) W ∧ ∀ i, i < n → RelL σ (rhoB (B ++ C)) (xss i) (css i) ∧ allOne (xss i) = true ∧ Q i (xss i) (heapB (B ++ C))
  | 0, B, hB, _ => ⟨fun _ => [], [], by simpa using hB, fun i hi => by omega⟩
  | n + 1, B, hB, h => by
    obtain ⟨xss, C, h1, h2⟩ := open_many hσ Q hQ css n B hB fun i hi => h i (by omega)
    obtain ⟨xs, D, g1, g2, g3, g4⟩ := h n (by omega) (B ++ C) h1
    refine ⟨fun i => if i = n then xs else xss i, C ++ D, by rw [← List.append_assoc]; exact g1, fun i hi => ?_⟩
    rw [← List.append_assoc]
    by_cases e : i = n
    · subst e
      simp only [if_true]
      exact ⟨g2, g3, g4⟩
    · simp only [if_neg e]
      obtain ⟨q1, q2, q3⟩ := h2 i (by omega)
      exact ⟨RelL.mono (rhoB_le (B ++ C) D) _ _ q1, q2, hQ _ _ _ _ (heapB_sub (B ++ C) D) q3⟩
/-- pieces of the same length, one behind the other -/
def pieces (xss : Nat → List AVal) (es n : Nat) : List AVal := (List.range (n * es)).map fun j => (xss (j / es)).getD (j % es) .undef
theorem pieces_length (xss : Nat → List AVal) (es n : Nat) : (pieces xss es n).length = n * es := by simp [pieces]
theorem pieces_get (xss : Nat → List AVal) (es n j : Nat) (h : j < n * es) : (pieces xss es n)[j]? = some ((xss (j / es)).getD (j % es) .undef) := by simp [pieces, h]
theorem pieces_part (xss : Nat → List AVal) (es n i : Nat) (h0 : 0 < es) (hi : i < n) (hl : (xss i).length = es) : ((pieces xss es n).drop (i * es)).take es = xss i := by
  have hm : (i + 1) * es ≤ n * es := Nat.mul_le_mul_right _ hi
  rw [Nat.add_mul, Nat.one_mul] at hm
  apply List.ext_getElem?
  intro j
  rw [List.getElem?_take]
  split
  · rename_i hj
    rw [List.getElem?_drop, pieces_get _ _ _ _ (by omega)]
    have e1 : (i * es + j) / es = i := by rw [Nat.mul_comm, Nat.mul_add_div h0, Nat.div_eq_of_lt hj]; omega
    have e2 : (i * es + j) % es = j := by rw [Nat.mul_comm, Nat.mul_add_mod, Nat.mod_eq_of_lt hj]
    rw [e1, e2, List.getD_eq_getElem?_getD, List.getElem?_eq_getElem (by omega)]; rfl
  · rw [List.getElem?_eq_none (by omega)]
theorem allOne_at {l : List AVal} (h : ∀ (j : Nat) (v : AVal), l[j]? = some v → v.one = true) : allOne l = true := allOne_of fun x hx => by
  obtain ⟨i, hi⟩ := List.getElem?_of_mem hx
  exact h i x hi
theorem tiles_le {P : Program} {total : Nat} : ∀ {fs : List Field} {off : Nat}, tiles P total off fs = true → off ≤ total
  | [], off, h => by have := Nat.eq_of_beq_eq_true h; omega
  | f :: fs, off, h => by
    unfold tiles at h
    have := tiles_le (Bool.and_eq_true_iff.1 h).2
    omega
theorem open_fields (hσ : One σ) (d : Nat) (cs : List Value) (total : Nat) (hl : cs.length = total) : ∀ (fs : List Field) (off : Nat) (B : IB), VB σ B W → tiles P total off fs = true →
    (∀ f ∈ fs, ∀ B, VB σ B W → ∃ xs C, VB σ (B ++ C) W ∧ RelL σ (rhoB (B ++ C)) xs ((cs.drop f.offset).take (P.cellsOf f.type)) ∧ allOne xs = true ∧ Inp P (heapB (B ++ C)) d f.type xs) →
    ∃ xs C, VB σ (B ++ C) W ∧ RelL σ (rhoB (B ++ C)) xs (cs.drop off) ∧ allOne xs = true ∧ ∀ f ∈ fs, off ≤ f.offset ∧ Inp P (heapB (B ++ C)) d f.type ((xs.drop (f.offset - off)).take (P.cellsOf f.type))
  | [], off, B, hB, ht, _ => by
    refine ⟨[], [], by simpa using hB, ?_, rfl, by simp⟩
    have := Nat.eq_of_beq_eq_true ht
    rw [List.drop_eq_nil_of_le (by omega)]
    exact .nil
  | f :: fs, off, B, hB, ht, h => by
    unfold tiles at ht
    obtain ⟨h1, h2⟩ := Bool.and_eq_true_iff.1 ht
    have ho := Nat.eq_of_beq_eq_true h1
    have hle := tiles_le h2
    obtain ⟨xs, C, g1, g2, g3, g4⟩ := h f (by simp) B hB
    obtain ⟨ys, D, k1, k2, k3, k4⟩ := open_fields hσ d cs total hl fs (off + P.cellsOf f.type) (B ++ C) g1 h2 fun f' hf' => h f' (by simp [hf'])
    have hx : xs.length = P.cellsOf f.type := by
      have := g2.length
      rw [← this, List.length_take, List.length_drop, ho]; omega
    refine ⟨xs ++ ys, C ++ D, by rw [← List.append_assoc]; exact k1, ?_, allOne_append g3 k3, fun f' hf' => ?_⟩
    · rw [← List.append_assoc]
      have e : cs.drop off = (cs.drop f.offset).take (P.cellsOf f.type) ++ cs.drop (off + P.cellsOf f.type) := by
        rw [ho, ← List.drop_drop, List.take_append_drop]
      rw [e]
      exact RelL.append (RelL.mono (rhoB_le (B ++ C) D) _ _ g2) k2
    · rw [← List.append_assoc]
      rcases List.mem_cons.1 hf' with rfl | hf'
      · refine ⟨by omega, ?_⟩
        rw [ho, Nat.sub_self, List.drop_zero, ← hx, List.take_left]
        exact Inp.sub (heapB_sub (B ++ C) D) _ _ _ g4
      · obtain ⟨q1, q2⟩ := k4 f' hf'
        refine ⟨by omega, ?_⟩
        have e : (xs ++ ys).drop (f'.offset - off) = ys.drop (f'.offset - (off + P.cellsOf f.type)) := by
          rw [List.drop_append, List.drop_eq_nil_of_le (by omega), List.nil_append, hx]
          congr 1; omega
        rw [e]
        exact q2
theorem open_ok (hσ : One σ) : ∀ (d : Nat) (t : TypeId) (cs : List Value) (fuel : Nat) (x : DataW H × List MemPlace), plainT P d t = true → DataW.trod enc P W 0 (fun _ => true) true fuel t cs = some x →
    ∀ B, VB σ B W → ∃ xs C, VB σ (B ++ C) W ∧ RelL σ (rhoB (B ++ C)) xs cs ∧ allOne xs = true ∧ Inp P (heapB (B ++ C)) d t xs
  | 0, _, _, _, _, hp, _, _, _ => by cases hp
  | d + 1, t, cs, fuel, x, hp, h, B, hB => by
    unfold plainT at hp
    unfold Inp
    split at hp
    · rename_i hu
      obtain ⟨b, rfl, _⟩ := DataW.trod_bool hu h
      refine ⟨[.bool b], [], by simpa using hB, .cons (by unfold Rel; rfl) .nil, rfl, ?_⟩
      exact ⟨b, rfl⟩
    · rename_i k hu
      obtain ⟨n, rfl, _, hw⟩ := DataW.trod_int hu h
      refine ⟨[.int k n], [], by simpa using hB, .cons (by unfold Rel; rfl) .nil, rfl, ?_⟩
      exact ⟨n, rfl, hw⟩
    · rename_i hu
      obtain ⟨v, rfl, _, hv⟩ := DataW.trod_string hu h
      refine ⟨[.str v], [], by simpa using hB, .cons (by unfold Rel; rfl) .nil, rfl, ?_⟩
      exact ⟨v, rfl, hv⟩
    · rename_i e hu
      obtain ⟨hp1, hp2⟩ := Bool.and_eq_true_iff.1 hp
      have hes : 0 < P.cellsOf e := by rwa [Nat.blt_eq] at hp1
      rcases DataW.trod_slice hu h with ⟨rfl, _⟩ | ⟨a, len, cap, elems, rest, n, _, rfl, _, _, hlc, hcm, hel, hrd, hsp, _⟩
      · exact ⟨[.nilslc], [], by simpa using hB, .cons (by unfold Rel; rfl) .nil, rfl, .inl rfl⟩
      · obtain ⟨hrl, hrd2⟩ := hsp rfl
        have each : ∀ i, i < cap → ∃ y, (W.cells? 0 (a.add (i * P.cellsOf e)) (P.cellsOf e)).bind (DataW.trod enc P W 0 (fun _ => true) true n e) = some y := by
          intro i hi
          by_cases hil : i < len
          · rw [hrd i hil]; exact ⟨_, List.getElem?_eq_getElem (by omega)⟩
          · have := hrd2 (i - len) (by omega)
            rw [show len + (i - len) = i by omega] at this
            rw [this]; exact ⟨_, List.getElem?_eq_getElem (by omega)⟩
        by_cases hc : cap = 0
        · subst hc
          have hl0 : len = 0 := by omega
          subst hl0
          refine ⟨[.slc 0 0 0 (some 0) (P.cellsOf e)], [], by simpa using hB, .cons ?_ .nil, rfl, .inr ⟨0, 0, 0, rfl, Nat.le_refl _, hcm, fun h => by omega⟩⟩
          unfold Rel
          exact ⟨⟨0, 0, 0⟩, a, 0, rfl, rfl, .inr ⟨rfl, rfl⟩, Nat.le_refl _, fun k hk => by cases hk; rfl⟩
        · have css : ∀ i, i < cap → ∃ c, W.cells? 0 (a.add (i * P.cellsOf e)) (P.cellsOf e) = some c ∧ ∃ y, DataW.trod enc P W 0 (fun _ => true) true n e c = some y := by
            intro i hi
            obtain ⟨y, hy⟩ := each i hi
            rw [Option.bind_eq_some_iff] at hy
            obtain ⟨c, h1, h2⟩ := hy
            exact ⟨c, h1, y, h2⟩
          obtain ⟨xss, C, h1, h2⟩ := open_many (W := W) hσ (fun _ xs s => Inp P s d e xs) (fun i xs s s' hs h => Inp.sub hs d e xs h) (fun i => (W.cells? 0 (a.add (i * P.cellsOf e)) (P.cellsOf e)).getD []) cap B hB fun i hi B hB => by
            obtain ⟨c, g1, y, g2⟩ := css i hi
            rw [g1]
            exact open_ok hσ d e c n y hp2 g2 B hB
          -- the block
          have cell : ∀ i j, i < cap → j < P.cellsOf e → ∃ v, W.cell? (a.add (i * P.cellsOf e + j)) = some v ∧ ((W.cells? 0 (a.add (i * P.cellsOf e)) (P.cellsOf e)).getD [])[j]? = some v := by
            intro i j hi hj
            obtain ⟨c, g1, _⟩ := css i hi
            obtain ⟨_, g2, g3⟩ := World.cells?_some g1
            have g4 := g3 j hj
            rw [List.getElem?_eq_getElem (by omega)] at g4
            refine ⟨c[j]'(by omega), ?_, by rw [g1]; simp⟩
            rw [← g4]
            congr 1
            unfold Addr.add
            by_cases z1 : i * P.cellsOf e = 0
            · by_cases z2 : j = 0
              · simp [z1, z2]
              · simp [z1, z2]
            · by_cases z2 : j = 0
              · simp [z1, z2]
              · simp [z1, z2, Nat.add_assoc]
          obtain ⟨v0, hv0, _⟩ := cell 0 0 (by omega) hes
          rw [Nat.zero_mul, Nat.zero_add] at hv0
          have hblk : ∃ cc el fr, W.heap[a.block]? = some (.cells cc el fr) ∧ a.spot = none := by
            have e0 : a.add 0 = a := by simp [Addr.add]
            rw [e0] at hv0
            unfold World.cell? at hv0
            split at hv0
            · rename_i cc el fr hb
              cases hs : a.spot with
              | none => exact ⟨cc, el, fr, hb, rfl⟩
              | some k => rw [hs] at hv0; simp at hv0
            · cases hv0
          obtain ⟨cc, el, fr, hb, hspot⟩ := hblk
          have ha : a = ⟨a.block, a.off, none⟩ := by cases a; simp only at hspot; rw [hspot]
          have at_ : ∀ k, k < cap * P.cellsOf e → ∃ v, cc[a.off + k]? = some v ∧ ((W.cells? 0 (a.add ((k / P.cellsOf e) * P.cellsOf e)) (P.cellsOf e)).getD [])[k % P.cellsOf e]? = some v := by
            intro k hk
            have hq : k / P.cellsOf e < cap := by rw [Nat.div_lt_iff_lt_mul hes]; exact hk
            obtain ⟨v, g1, g2⟩ := cell (k / P.cellsOf e) (k % P.cellsOf e) hq (Nat.mod_lt _ hes)
            refine ⟨v, ?_, g2⟩
            rw [Nat.mul_comm, Nat.div_add_mod, ha, addr_add, cell_of hb] at g1
            exact g1
          have hlen : ∀ i, i < cap → (xss i).length = P.cellsOf e := by
            intro i hi
            have := (h2 i hi).1.length
            obtain ⟨c, g1, _⟩ := css i hi
            rw [g1] at this
            rw [← this]
            exact (World.cells?_some g1).2.1
          have hsz : a.off + cap * P.cellsOf e ≤ cc.size := by
            have hpos : 0 < cap * P.cellsOf e := Nat.mul_pos (by omega) hes
            obtain ⟨v, g1, _⟩ := at_ (cap * P.cellsOf e - 1) (by omega)
            have := (Array.getElem?_eq_some_iff.1 g1).1
            omega
          have hvb : VB σ ((B ++ C) ++ [(⟨a.block, a.off, cc.size⟩, el, pieces xss (P.cellsOf e) cap)]) W := by
            refine h1.snoc _ ⟨cc, fr, hb, rfl, by rw [pieces_length]; exact hsz, ?_, fun j v hv => ?_⟩
            · refine allOne_at fun j v hv => ?_
              have hj : j < cap * P.cellsOf e := by have := (List.getElem?_eq_some_iff.1 hv).1; rwa [pieces_length] at this
              rw [pieces_get _ _ _ _ hj] at hv
              have hq : j / P.cellsOf e < cap := by rw [Nat.div_lt_iff_lt_mul hes]; exact hj
              have hm : j % P.cellsOf e < (xss (j / P.cellsOf e)).length := by rw [hlen _ hq]; exact Nat.mod_lt _ hes
              rw [List.getD_eq_getElem?_getD, List.getElem?_eq_getElem hm] at hv
              cases hv
              exact allOne_get (h2 _ hq).2.1 _ (List.getElem_mem hm)
            · have hj : j < cap * P.cellsOf e := by have := (List.getElem?_eq_some_iff.1 hv).1; rwa [pieces_length] at this
              rw [pieces_get _ _ _ _ hj] at hv
              have hq : j / P.cellsOf e < cap := by rw [Nat.div_lt_iff_lt_mul hes]; exact hj
              have hm : j % P.cellsOf e < (xss (j / P.cellsOf e)).length := by rw [hlen _ hq]; exact Nat.mod_lt _ hes
              rw [List.getD_eq_getElem?_getD, List.getElem?_eq_getElem hm] at hv
              cases hv
              obtain ⟨r1, r2, _⟩ := h2 _ hq
              obtain ⟨y, g1, g2⟩ := r1.get (j % P.cellsOf e) _ (List.getElem?_eq_getElem hm)
              obtain ⟨v', k1, k2⟩ := at_ j hj
              rw [g1] at k2
              cases k2
              exact ⟨y, k1, g2, one_cell hσ g2 (allOne_get r2 _ (List.getElem_mem hm))⟩
          refine ⟨[.slc ((B ++ C).length + 1) 0 len (some cap) (P.cellsOf e)], C ++ [(⟨a.block, a.off, cc.size⟩, el, pieces xss (P.cellsOf e) cap)], by rw [← List.append_assoc]; exact hvb, ?_, rfl, .inr ⟨_, len, cap, rfl, hlc, hcm, fun _ => ⟨el, pieces xss (P.cellsOf e) cap, ?_, pieces_length _ _ _, fun i hi => ?_⟩⟩⟩
          · rw [← List.append_assoc]
            refine .cons ?_ .nil
            unfold Rel
            refine ⟨⟨a.block, a.off, cc.size⟩, a, cap, ?_, rfl, .inl ⟨ha, by simpa using hsz⟩, hlc, fun k hk => by cases hk; rfl⟩
            unfold rhoB
            simp
          · rw [← List.append_assoc]
            unfold heapB
            simp
          · rw [pieces_part _ _ _ _ hes hi (hlen i hi), ← List.append_assoc]
            exact Inp.sub (heapB_sub (B ++ C) _) _ _ _ (h2 i hi).2.2
    · rename_i fs hu
      obtain ⟨hp1, hp2⟩ := Bool.and_eq_true_iff.1 hp
      obtain ⟨xs, n, _, _, hl, hxl, hx⟩ := DataW.trod_struct hu h
      obtain ⟨ys, C, g1, g2, g3, g4⟩ := open_fields (W := W) (P := P) hσ d cs (P.cellsOf t) hl fs.toList 0 B hB hp1 fun f hf B hB => by
        obtain ⟨i, hi⟩ := List.getElem?_of_mem hf
        have hi' : fs[i]? = some f := by simpa using hi
        have := hx i f hi'
        rw [List.getElem?_eq_getElem (by rw [hxl]; exact (Array.getElem?_eq_some_iff.1 hi').1)] at this
        exact open_ok hσ d f.type _ n _ (List.all_eq_true.1 hp2 f hf) this B hB
      rw [List.drop_zero] at g2
      exact ⟨ys, C, g1, g2, g3, by rw [← g2.length]; exact hl, fun f hf => by simpa using (g4 f hf).2⟩
    · rename_i n e hu
      obtain ⟨hp1, hp2⟩ := Bool.and_eq_true_iff.1 hp
      obtain ⟨hp2, hp3⟩ := Bool.and_eq_true_iff.1 hp2
      have hes : 0 < P.cellsOf e := by rwa [Nat.blt_eq] at hp2
      have htot := Nat.eq_of_beq_eq_true hp1
      obtain ⟨ys, m, _, _, hl, hyl, hy⟩ := DataW.trod_array hu h
      obtain ⟨xss, C, h1, h2⟩ := open_many (W := W) hσ (fun _ xs s => Inp P s d e xs) (fun i xs s s' hs h => Inp.sub hs d e xs h) (fun i => (cs.drop (i * P.cellsOf e)).take (P.cellsOf e)) n B hB fun i hi B hB => by
        have := hy i hi
        rw [List.getElem?_eq_getElem (by omega)] at this
        exact open_ok hσ d e _ m _ hp3 this B hB
      have hlen : ∀ i, i < n → (xss i).length = P.cellsOf e := by
        intro i hi
        have := (h2 i hi).1.length
        rw [← this, List.length_take, List.length_drop, hl, htot]
        have : (i + 1) * P.cellsOf e ≤ n * P.cellsOf e := Nat.mul_le_mul_right _ hi
        rw [Nat.add_mul, Nat.one_mul] at this
        omega
      refine ⟨pieces xss (P.cellsOf e) n, C, h1, ?_, ?_, by rw [pieces_length, htot], fun i hi => ?_⟩
      · refine RelL.of_get (by rw [pieces_length, hl, htot]) fun j x y hx hy' => ?_
        have hj : j < n * P.cellsOf e := by have := (List.getElem?_eq_some_iff.1 hx).1; rwa [pieces_length] at this
        rw [pieces_get _ _ _ _ hj] at hx
        have hq : j / P.cellsOf e < n := by rw [Nat.div_lt_iff_lt_mul hes]; exact hj
        have hm : j % P.cellsOf e < (xss (j / P.cellsOf e)).length := by rw [hlen _ hq]; exact Nat.mod_lt _ hes
        rw [List.getD_eq_getElem?_getD, List.getElem?_eq_getElem hm] at hx
        cases hx
        obtain ⟨y', g1, g2⟩ := (h2 _ hq).1.get (j % P.cellsOf e) _ (List.getElem?_eq_getElem hm)
        rw [List.getElem?_take, if_pos (Nat.mod_lt _ hes), List.getElem?_drop, Nat.mul_comm, Nat.div_add_mod, hy'] at g1
        cases g1
        exact g2
      · refine allOne_at fun j v hv => ?_
        have hj : j < n * P.cellsOf e := by have := (List.getElem?_eq_some_iff.1 hv).1; rwa [pieces_length] at this
        rw [pieces_get _ _ _ _ hj] at hv
        have hq : j / P.cellsOf e < n := by rw [Nat.div_lt_iff_lt_mul hes]; exact hj
        have hm : j % P.cellsOf e < (xss (j / P.cellsOf e)).length := by rw [hlen _ hq]; exact Nat.mod_lt _ hes
        rw [List.getD_eq_getElem?_getD, List.getElem?_eq_getElem hm] at hv
        cases hv
        exact allOne_get (h2 _ hq).2.1 _ (List.getElem_mem hm)
      · rw [pieces_part _ _ _ _ hes hi (hlen i hi)]
        exact (h2 i hi).2.2
    · cases hp
end
end Go.AM
namespace Go.AM
open Go Go.RowKit Go.ChangeShapes Go.WideShapes Go.ChangeAt
section
variable {H : Type} {enc : TypeId × Value → H} {P : Program} {W W' : World} {σ : Nat → Value}
theorem mapM_keep {α β : Type} {f g : α → Option β} : ∀ {l : List α} {ys : List β}, l.mapM f = some ys → (∀ x ∈ l, ∀ y ∈ ys, f x = some y → g x = some y) → l.mapM g = some ys
  | [], ys, h, _ => by simpa using h
  | a :: l, ys, h, hg => by
    rw [List.mapM_cons] at h ⊢
    cases ha : f a with
    | none => rw [ha] at h; cases h
    | some b =>
      rw [ha] at h
      cases hl : l.mapM f with
      | none => rw [hl] at h; cases h
      | some bs =>
        rw [hl] at h
        cases h
        rw [hg a (by simp) b (by simp) ha, mapM_keep hl fun x hx y hy => hg x (by simp [hx]) y (by simp [hy])]
        rfl
theorem cells_keep (hb : Below W.heap.size W W') {a : Addr} {n : Nat} {cs : List Value} (h : W.cells? 0 a n = some cs) : W'.cells? 0 a n = some cs := by
  unfold World.cells? at h ⊢
  rw [if_pos (Nat.zero_le _)] at h ⊢
  refine mapM_keep h fun i _ v _ hv => ?_
  have hlt : (a.add i).block < W.heap.size := by
    unfold World.cell? at hv
    cases hq : W.heap[(a.add i).block]? with
    | none => rw [hq] at hv; cases hv
    | some o => exact (Array.getElem?_eq_some_iff.1 hq).1
  rw [← hv]
  exact hb.cell hlt
theorem trod_keep (hb : Below W.heap.size W W') (sp : Nat → Bool) : ∀ (d : Nat) (t : TypeId) (cs : List Value) (fuel : Nat) (x : DataW H × List MemPlace), plainT P d t = true → DataW.trod enc P W 0 (fun _ => true) true fuel t cs = some x →
    (∀ p ∈ x.2, sp p.block = true) → DataW.trod enc P W' 0 sp true fuel t cs = some x
  | 0, _, _, _, _, hp, _, _ => by cases hp
  | d + 1, t, cs, fuel, x, hp, h, hsp => by
    unfold plainT at hp
    cases fuel with
    | zero => cases h
    | succ fuel =>
    split at hp
    · rename_i hu
      obtain ⟨b, rfl, rfl⟩ := DataW.trod_bool hu h
      simp only [DataW.trod, hu]
    · rename_i k hu
      obtain ⟨n, rfl, rfl, hw⟩ := DataW.trod_int hu h
      simp [DataW.trod, hu, hw]
    · rename_i hu
      obtain ⟨v, rfl, rfl, hv⟩ := DataW.trod_string hu h
      simp [DataW.trod, hu, hv]
    · rename_i e hu
      obtain ⟨hp1, hp2⟩ := Bool.and_eq_true_iff.1 hp
      have hes : 0 < P.cellsOf e := by rwa [Nat.blt_eq] at hp1
      rcases DataW.trod_slice hu h with ⟨rfl, rfl⟩ | ⟨a, len, cap, elems, rest, n, hn, rfl, rfl, _, hlc, hcm, hel, _, hspare, _⟩
      · simp only [DataW.trod, hu]
      · obtain ⟨hrl, _⟩ := hspare rfl
        have h0 := h
        simp only [DataW.trod, hu, if_true, Nat.zero_le, true_and] at h ⊢
        rw [if_pos ⟨hlc, hcm⟩] at h ⊢
        rw [Option.bind_eq_some_iff] at h
        obtain ⟨el2, g1, g2⟩ := h
        rw [Option.map_eq_some_iff] at g2
        obtain ⟨re2, g2, g3⟩ := g2
        have hlen1 : el2.length = len := by rw [mapM_some_length g1]; simp
        have hlen2 : re2.length = cap - len := by rw [mapM_some_length g2]; simp
        simp only [Prod.mk.injEq, DataW.slice.injEq] at g3
        obtain ⟨⟨g31, g32⟩, g4⟩ := g3
        have keepE : ∀ y, (y ∈ el2 ∨ y ∈ re2) → ∀ c, DataW.trod enc P W 0 (fun _ => true) true fuel e c = some y → DataW.trod enc P W' 0 sp true fuel e c = some y := by
          intro y hy c hc
          refine trod_keep hb sp d e c fuel y hp2 hc fun p hpm => hsp p ?_
          simp only
          rw [← g4]
          refine List.mem_append_right _ (List.mem_flatMap.2 ⟨y, ?_, hpm⟩)
          rcases hy with hy | hy
          · exact List.mem_append_left _ hy
          · exact List.mem_append_right _ hy
        have keepB : ∀ i y, (y ∈ el2 ∨ y ∈ re2) → (W.cells? 0 (a.add (i * P.cellsOf e)) (P.cellsOf e)).bind (DataW.trod enc P W 0 (fun _ => true) true fuel e) = some y →
            (W'.cells? 0 (a.add (i * P.cellsOf e)) (P.cellsOf e)).bind (DataW.trod enc P W' 0 sp true fuel e) = some y := by
          intro i y hy hi
          rw [Option.bind_eq_some_iff] at hi ⊢
          obtain ⟨c, c1, c2⟩ := hi
          exact ⟨c, cells_keep hb c1, keepE y hy c c2⟩
        rw [mapM_keep g1 fun i _ y hy hi => keepB i y (.inl hy) hi]
        simp only [Option.bind_some]
        by_cases hz : cap - len = 0
        · have : re2 = [] := List.eq_nil_of_length_eq_zero (by omega)
          subst this
          simp only [hz, List.range_zero, List.mapM_nil]
          simp only [← g31, ← g32, ← g4, List.map_nil]
          split <;> simp
        · have hblk : sp a.block = true := by
            refine hsp (.cell a.block (a.off + 0)) ?_
            simp only
            refine List.mem_append_left _ ?_
            unfold MemPlace.row
            refine List.mem_map.2 ⟨0, ?_, rfl⟩
            rw [List.mem_range, hel, hrl]
            exact Nat.mul_pos (by omega) hes
          rw [if_pos hblk, mapM_keep g2 fun i _ y hy hi => keepB (len + i) y (.inr hy) hi]
          simp only [Option.map_some, ← g31, ← g32, ← g4]
    · rename_i fs hu
      obtain ⟨_, hp2⟩ := Bool.and_eq_true_iff.1 hp
      obtain ⟨xs, n, _, rfl, hl, hxl, hx⟩ := DataW.trod_struct hu h
      simp only [DataW.trod, hu] at h ⊢
      rw [if_pos hl] at h ⊢
      rw [Option.map_eq_some_iff] at h ⊢
      obtain ⟨ys, h1, h2⟩ := h
      refine ⟨ys, mapM_keep h1 fun f hf y hy hfy => ?_, h2⟩
      refine trod_keep hb sp d f.type _ fuel y (List.all_eq_true.1 hp2 f hf) hfy fun p hpm => hsp p ?_
      simp only [Prod.mk.injEq] at h2 ⊢
      rw [← h2.2]
      exact List.mem_flatMap.2 ⟨y, hy, hpm⟩
    · rename_i n e hu
      obtain ⟨_, hp2⟩ := Bool.and_eq_true_iff.1 hp
      obtain ⟨_, hp3⟩ := Bool.and_eq_true_iff.1 hp2
      obtain ⟨xs, m, _, rfl, hl, hxl, hx⟩ := DataW.trod_array hu h
      simp only [DataW.trod, hu] at h ⊢
      rw [if_pos hl] at h ⊢
      rw [Option.map_eq_some_iff] at h ⊢
      obtain ⟨ys, h1, h2⟩ := h
      refine ⟨ys, mapM_keep h1 fun i _ y hy hfy => ?_, h2⟩
      refine trod_keep hb sp d e _ fuel y hp3 hfy fun p hpm => hsp p ?_
      simp only [Prod.mk.injEq] at h2 ⊢
      rw [← h2.2]
      exact List.mem_flatMap.2 ⟨y, hy, hpm⟩
    · cases hp
theorem trodAll_keep (hb : Below W.heap.size W W') (sp : Nat → Bool) (d : Nat) : ∀ (ts : List TypeId) (vs : List Value) (ds : List (DataW H)) (ps : List MemPlace), (ts.all fun t => plainT P d t) = true → DataW.TrodAll enc P W 0 (fun _ => true) true ts vs ds ps →
    (∀ p ∈ ps, sp p.block = true) → DataW.TrodAll enc P W' 0 sp true ts vs ds ps
  | [], vs, ds, ps, _, h, _ => by
    cases vs <;> cases ds <;> first | exact h | exact h.elim
  | t :: ts, [], ds, ps, _, h, _ => by cases ds <;> exact h.elim
  | t :: ts, v :: vs, [], ps, _, h, _ => h.elim
  | t :: ts, v :: vs, x :: ds, ps, hp, h, hsp => by
    simp only [List.all_cons, Bool.and_eq_true] at hp
    obtain ⟨p, q, ⟨fuel, h1⟩, h2, rfl⟩ := h
    exact ⟨p, q, ⟨fuel, trod_keep hb sp d t _ fuel _ hp.1 h1 fun p hpm => hsp p (by simp [hpm])⟩, trodAll_keep hb sp d ts vs ds q hp.2 h2 fun p hpm => hsp p (by simp [hpm]), rfl⟩

/-! ### the arguments -/
/-- what an argument of type t is -/
def Arg (P : Program) (s : Heap) (d : Nat) (t : TypeId) (v : AVal) : Prop := Inp P s d t v.cells ∧ (isAggT P t = some true → ∃ l, v = .agg l ∧ allOne l = true) ∧ (isAggT P t ≠ some true → v.cells = [v])
def ArgL (P : Program) (s : Heap) (d : Nat) : List TypeId → List AVal → Prop
  | [], [] => True
  | t :: ts, v :: vs => Arg P s d t v ∧ ArgL P s d ts vs
  | _, _ => False
theorem Arg.sub {s s' : Heap} (hs : Sub s s') {d : Nat} {t : TypeId} {v : AVal} (h : Arg P s d t v) : Arg P s' d t v := ⟨Inp.sub hs _ _ _ h.1, h.2⟩
theorem okWide_cells {base : Nat} {t : TypeId} {v : Value} {d : Nat} (hp : plainT P d t = true) (h : Value.okWide P W .any base t v) : (isAggT P t = some true ∧ ∃ cs, v = .agg cs) ∨ (isAggT P t ≠ some true ∧ v.cells = #[v]) := by
  cases d with
  | zero => cases hp
  | succ d =>
    unfold plainT at hp
    unfold Value.okWide at h
    unfold isAggT
    split at hp <;> rename_i hu
    all_goals (try rw [hu] at h)
    all_goals (try simp only at h)
    · right
      refine ⟨by rw [hu]; simp, ?_⟩
      unfold Cell.okWide Cell.ok at h
      simp only [hu] at h
      cases v <;> simp_all <;> rfl
    · right
      refine ⟨by rw [hu]; simp, ?_⟩
      unfold Cell.okWide Cell.ok at h
      simp only [hu] at h
      cases v <;> simp_all <;> rfl
    · right
      refine ⟨by rw [hu]; simp, ?_⟩
      unfold Cell.okWide Cell.ok at h
      simp only [hu] at h
      cases v <;> simp_all <;> rfl
    · right
      refine ⟨by rw [hu]; simp, ?_⟩
      unfold Cell.okWide Cell.ok at h
      simp only [hu] at h
      cases v <;> simp_all <;> rfl
    · left
      obtain ⟨cs, e, _⟩ := h
      exact ⟨by rw [hu], cs, e⟩
    · left
      obtain ⟨cs, e, _⟩ := h
      exact ⟨by rw [hu], cs, e⟩
    · cases hp
theorem open_args (hσ : One σ) (d : Nat) (base : Nat) : ∀ (ts : List TypeId) (vs : List Value) (ds : List (DataW H)) (ps : List MemPlace) (B : IB), VB σ B W → (ts.all fun t => plainT P d t) = true → DataW.TrodAll enc P W 0 (fun _ => true) true ts vs ds ps →
    (∀ (j : Nat) t v, ts[j]? = some t → vs[j]? = some v → Value.okWide P W .any base t v) → ∃ xs C, VB σ (B ++ C) W ∧ RelL σ (rhoB (B ++ C)) xs vs ∧ ArgL P (heapB (B ++ C)) d ts xs
  | [], vs, ds, ps, B, hB, _, h, _ => by
    cases vs with
    | nil => exact ⟨[], [], by simpa using hB, .nil, trivial⟩
    | cons v vs => cases ds <;> exact h.elim
  | t :: ts, [], ds, ps, B, hB, _, h, _ => by cases ds <;> exact h.elim
  | t :: ts, v :: vs, [], ps, B, hB, _, h, _ => h.elim
  | t :: ts, v :: vs, x :: ds, ps, B, hB, hp, h, hv => by
    simp only [List.all_cons, Bool.and_eq_true] at hp
    obtain ⟨p, q, ⟨fuel, h1⟩, h2, rfl⟩ := h
    obtain ⟨xs, C, g1, g2, g3, g4⟩ := open_ok hσ d t _ fuel _ hp.1 h1 B hB
    obtain ⟨ys, D, k1, k2, k3⟩ := open_args hσ d base ts vs ds q (B ++ C) g1 hp.2 h2 fun j t v hj hv' => hv (j + 1) t v (by simpa using hj) (by simpa using hv')
    have hsub := heapB_sub (B ++ C) D
    have hle := rhoB_le (B ++ C) D
    rcases okWide_cells hp.1 (hv 0 t v rfl rfl) with ⟨ha, cs, rfl⟩ | ⟨ha, hc⟩
    · refine ⟨.agg xs :: ys, C ++ D, by rw [← List.append_assoc]; exact k1, ?_, ?_⟩
      · rw [← List.append_assoc]
        exact .cons (by unfold Rel; exact ⟨cs, rfl, RelL.mono hle _ _ g2⟩) k2
      · rw [← List.append_assoc]
        exact ⟨⟨Inp.sub hsub _ _ _ g4, fun _ => ⟨xs, rfl, g3⟩, fun h => absurd ha h⟩, k3⟩
    · rw [hc] at g2
      obtain ⟨y, rfl⟩ : ∃ y, xs = [y] := by
        have := g2.length
        cases xs with
        | nil => simp at this
        | cons y r => cases r with
          | nil => exact ⟨y, rfl⟩
          | cons _ _ => simp at this
      have hr : Rel σ (rhoB (B ++ C)) y v := by
        unfold RelL at g2
        obtain ⟨_, _, e, r, _⟩ := g2
        cases e; exact r
      have hy : y.one = true := by simpa [allOne] using g3
      refine ⟨y :: ys, C ++ D, by rw [← List.append_assoc]; exact k1, ?_, ?_⟩
      · rw [← List.append_assoc]
        exact .cons (Rel.mono hle _ _ hr) k2
      · rw [← List.append_assoc]
        refine ⟨⟨?_, fun h => absurd h ha, fun _ => one_cells hy⟩, k3⟩
        rw [one_cells hy]
        exact Inp.sub hsub _ _ _ g4
end
/-- abstract memory for what comes in -/
def memB (B : IB) : AHeap := { blks := Tr.ofListAt .nil 1 (B.map fun x => .cells x.2.1 (Tr.ofListAt .nil 0 x.2.2) x.2.2.length), next := B.length + 1, lo := B.length + 1, log := [] }
theorem memB_get (B : IB) (id : Nat) : (memB B).blks.get id = match id with
    | 0 => none
    | i + 1 => match B[i]? with
      | some x => some (.cells x.2.1 (Tr.ofListAt .nil 0 x.2.2) x.2.2.length)
      | none => none := by
  unfold memB
  simp only
  rw [Tr.get_ofListAt]
  cases id with
  | zero => rw [if_neg (by omega), Tr.get_nil]
  | succ i =>
    by_cases h : i < B.length
    · rw [if_pos (by simp; omega)]
      simp [List.getElem?_eq_getElem h]
    · rw [if_neg (by simp; omega), Tr.get_nil]
      have : B[i]? = none := List.getElem?_eq_none (by omega)
      simp only [this]
theorem memB_h (B : IB) {σ : Nat → Value} {W : World} (h : VB σ B W) : HRel (heapB B) (memB B) := by
  refine ⟨Nat.le_refl _, fun i hi => ?_, fun i t b hi => ?_⟩
  · rw [memB_get] at hi
    cases i with
    | zero => exact absurd rfl hi
    | succ i =>
      simp only at hi
      cases e : B[i]? with
      | none => rw [e] at hi; exact absurd rfl hi
      | some x => have := (List.getElem?_eq_some_iff.1 e).1; show i + 1 < B.length + 1; omega
  · cases i with
    | zero => cases hi
    | succ i =>
      unfold heapB at hi
      simp only at hi
      cases e : B[i]? with
      | none => rw [e] at hi; cases hi
      | some x =>
        rw [e] at hi
        cases hi
        obtain ⟨_, _, _, _, _, h4, _⟩ := h i x e
        have e2 : (memB B).blks.get (i + 1) = some (.cells x.2.1 (Tr.ofListAt .nil 0 x.2.2) x.2.2.length) := by rw [memB_get]; simp only [e]
        exact ⟨by simp, _, e2, rfl, rfl, h4, fun j hj => ofListAt_get _ _ hj⟩
theorem memB_wr (B : IB) {σ : Nat → Value} {W : World} (h : VB σ B W) : WR σ (rhoB B) W.heap.size (memB B) W := by
  have key : ∀ id b, (memB B).blks.get id = some b → ∃ i x, id = i + 1 ∧ B[i]? = some x ∧ b = .cells x.2.1 (Tr.ofListAt .nil 0 x.2.2) x.2.2.length := by
    intro id b hb
    rw [memB_get] at hb
    cases id with
    | zero => cases hb
    | succ i =>
      simp only at hb
      cases e : B[i]? with
      | none => rw [e] at hb; cases hb
      | some x => rw [e] at hb; cases hb; exact ⟨i, x, rfl, e, rfl⟩
  have lo : ∀ id b, (memB B).blks.get id = some b → ¬ (memB B).lo ≤ id := by
    intro id b hb
    obtain ⟨i, x, rfl, e, _⟩ := key id b hb
    have := (List.getElem?_eq_some_iff.1 e).1
    show ¬ B.length + 1 ≤ i + 1
    omega
  refine ⟨fun id b hb => ?_, fun id b L hb _ hl => absurd hl (lo id b hb), fun i j bi bj Li Lj hi _ _ _ hl _ => absurd hl (lo i bi hi), Nat.le_refl _⟩
  obtain ⟨i, x, rfl, e, rfl⟩ := key id b hb
  refine ⟨x.1, by unfold rhoB; simp [e], ?_⟩
  obtain ⟨cc, fr, h1, h2, h3, _, h5⟩ := h i x e
  refine ⟨cc, fr, h1, fun hl => absurd hl (lo _ _ hb), h2, h3, fun j v hj => ?_⟩
  have hlt : j < x.2.2.length := by
    rcases Nat.lt_or_ge j x.2.2.length with h | h
    · exact h
    · rw [Tr.get_ofListAt, if_neg (by omega), Tr.get_nil] at hj; cases hj
  rw [ofListAt_get _ _ hlt] at hj
  exact h5 j v hj
/-- A LAW THAT THE CALCULUS SHOWS IS A LAW OF THE PROGRAM -/
theorem law_of_wp {H : Type} {enc : TypeId × Value → H} {P : Program} {X : Told} (hm : P.follows .mixedOrders = true) (hname : noNumB P = true) (hX : ExtOK P X) {f : FuncId} {ts : List TypeId} (d : Nat) (hp : (ts.all fun t => plainT P d t) = true)
    (h : ∀ (s : Heap) (xs : List AVal), ArgL P s d ts xs → wpCall P X f xs (fun v _ => v = .bool true) s) {W : World} {base : Nat} {args : Array Value} {ds : List (DataW H)} {ps : List MemPlace}
    (hA : DataW.TrodAll enc P W 0 (fun _ => true) true ts args.toList ds ps) (hv : ∀ (j : Nat) t v, ts[j]? = some t → args[j]? = some v → Value.okWide P W .any base t v) :
    Calls P f args W fun e W' => e = .returned (.bool true) ∧ Below W.heap.size W W' := by
  have hσ : One (fun _ => Value.bool true) := fun _ => rfl
  obtain ⟨xs, C, h1, h2, h3⟩ := open_args (W := W) hσ d base ts args.toList ds ps [] (fun i x hx => by simp at hx) hp hA fun j t v hj hj' => hv j t v hj (by simpa using hj')
  rw [List.nil_append] at h1 h2 h3
  obtain ⟨n, o, H', hrun, s', _, _, v, rfl, rfl⟩ := h (heapB C) xs h3 (memB C) (memB_h C h1)
  refine (calls_of_run hm (noNum_of hname) hX hrun _ hσ (rhoB C) W (memB_wr C h1) (fun id hlo _ => ?_) args h2).mono ?_
  · cases id with
    | zero => exact absurd hlo (by show ¬ C.length + 1 ≤ 0; omega)
    | succ i =>
      have : C.length + 1 ≤ i + 1 := hlo
      unfold rhoB
      simp only
      rw [List.getElem?_eq_none (by omega)]
  · rintro e W' ⟨v', ρ', rfl, hr, _, hb⟩
    unfold Rel at hr
    subst hr
    exact ⟨rfl, hb⟩
end Go.AM
namespace Go.AM
open Go Go.RowKit Go.ChangeShapes Go.WideShapes Go.ChangeAt
/-- functions without arguments of which it is known that they return true -/
def closedX (l : List FuncId) : Told := fun f => cond (memN f l) (some fun args => match args with
  | [] => ret (.bool true)
  | _ => fail) none
theorem closedX_fr (l : List FuncId) : FrX (closedX l) := by
  intro f g args h
  unfold closedX at h
  cases hm : memN f l with
  | false => rw [hm] at h; cases h
  | true =>
    rw [hm] at h
    cases h
    cases args with
    | nil => exact fr_ret _
    | cons _ _ => exact fr_fail
theorem wr_below {σ : Nat → Value} {ρ : Ren} {base : Nat} {H : AHeap} {w w' : World} (h : WR σ ρ base H w) (hb : Below w.heap.size w w') : WR σ ρ base H w' := by
  refine ⟨fun id b hid => ?_, h.own, h.inj, Nat.le_trans h.base hb.size⟩
  obtain ⟨L, h1, h2⟩ := h.blk id b hid
  refine ⟨L, h1, ?_⟩
  have hlt := live_lt h hid h1
  rw [hb.block L.blk hlt]; exact h2
theorem closedX_ok {P : Program} (hm : P.follows .mixedOrders = true) (hname : noNumB P = true) (l : List FuncId) (h : ∀ f ∈ l, ∃ n, isTrue (run P noExt n (.call f []) empty) = true) : ExtOK P (closedX l) := by
  refine ⟨closedX_fr l, fun f g hg args H v H' hr σ ρ base w args' hσ hwr hf hra => ?_⟩
  unfold closedX at hg
  cases hmem : memN f l with
  | false => rw [hmem] at hg; cases hg
  | true =>
    rw [hmem] at hg
    cases hg
    cases args with
    | cons _ _ => exact (fail_some (H := H) hr).elim
    | nil =>
      cases ret_some (H := H) hr
      obtain ⟨n, hn⟩ := h f (memN_iff.1 hmem)
      have ha : args' = #[] := by
        unfold RelL at hra
        cases args'; simp_all
      subst ha
      refine callsIn_wide.2 ((calls_true hm hname n [] hn (fun _ => .bool true) (fun _ => rfl) #[] .nil w).mono ?_)
      rintro e w' ⟨rfl, hb⟩
      exact ⟨_, ρ, rfl, ⟨.refl _ _ _, wr_below hwr hb, hb.mono hwr.base⟩, by unfold Rel; rfl⟩
theorem wp_closed {P : Program} {l : List FuncId} {f : FuncId} (hf : memN f l = true) {K : AVal → Heap → Prop} {s : Heap} (h : K (.bool true) s) : wpCall P (closedX l) f [] K s := by
  intro H hH
  refine ⟨1, .val (.bool true), H, ?_, s, hH, .refl _, _, rfl, h⟩
  show (match closedX l f with
    | some g => bd (g []) fun v => ret (Out.val v)
    | none => runCall P (run P (closedX l) 0) f []) H = _
  have : closedX l f = some fun args => match args with
    | [] => ret (.bool true)
    | _ => fail := by unfold closedX; rw [hf]; rfl
  rw [this]; rfl
theorem wpCall.mono {P : Program} {X : Told} {f : FuncId} {args : List AVal} {K K' : AVal → Heap → Prop} {s : Heap} (h : wpCall P X f args K s) (hk : ∀ v s', K v s' → K' v s') : wpCall P X f args K' s :=
  wpF.mono h fun _ s' ⟨v, e, hv⟩ => ⟨v, e, hk v s' hv⟩
end Go.AM
namespace Go.AM
open Go
/-! ### words for the proofs of single functions -/
def bodyOf (fn : Func) : Code := match fn.body with
  | some c => c
  | none => .refuse ""
variable {α : Type} {K : α → Prop} {s s' : Heap}
@[simp] theorem optK_mk {a : α} : optK (some a) K = K a := id rfl
@[simp] theorem optK_no : optK (none : Option α) K = False := id rfl
theorem optK_of {o : Option α} {a : α} (h : o = some a) (hk : K a) : optK o K := by rw [h]; exact hk
@[simp] theorem boolK_true {p q : Prop} : boolK (.bool true) p q = p := id rfl
@[simp] theorem boolK_false {p q : Prop} : boolK (.bool false) p q = q := id rfl
theorem boolK_mk {b : Bool} {p q : Prop} (h1 : b = true → p) (h2 : b = false → q) : boolK (.bool b) p q := by cases b; exact h2 rfl; exact h1 rfl
theorem boolK_if {b : Bool} {p q : Prop} : boolK (.bool b) p q = if b = true then p else q := by cases b <;> simp
@[simp] theorem pickV_true {a b : AVal} : pickV (.bool true) a b = some a := id rfl
@[simp] theorem pickV_false {a b : AVal} : pickV (.bool false) a b = some b := id rfl
theorem pickV_mk {c : Bool} {a b : AVal} : pickV (.bool c) a b = some (cond c a b) := by cases c <;> rfl
@[simp] theorem pickV_and {c d : Bool} : pickV (.bool c) (.bool d) (.bool false) = some (.bool (c && d)) := by cases c <;> rfl
@[simp] theorem pickV_or {c d : Bool} : pickV (.bool c) (.bool true) (.bool d) = some (.bool (c || d)) := by cases c <;> rfl
@[simp] theorem nilCheck_ptr {b o : Nat} : nilCheckA (.ptr b o) = some (.ptr b o) := id rfl
@[simp] theorem nilCheck_fn {k : FuncId} {a c : List AVal} : nilCheckA (.fn (.func k) a c) = some (.fn (.func k) a c) := id rfl
@[simp] theorem addOff_ptr {b o k : Nat} : addOff k (.ptr b o) = some (.ptr b (o + k)) := id rfl
@[simp] theorem extract_mk {l : List AVal} {i : Nat} : extractA (.tup l) i = l[i]? := id rfl
@[simp] theorem nat?_mk {k : IntKind} {n : Nat} : nat? (.int k (n : Int)) = some n := id rfl
@[simp] theorem nat?_lit {k : IntKind} {n : Nat} : nat? (.int k (OfNat.ofNat n)) = some n := id rfl
@[simp] theorem intKindEq_self {k : IntKind} : intKindEq k k = true := by cases k <;> rfl
@[simp] theorem arith_add {k : IntKind} {x y : Int} : arithV .add (.int k x) (.int k y) = some (.int k (k.wrap (x + y))) := by simp [arithV, arith, frc_eq, wrapK_eq]
@[simp] theorem arith_sub {k : IntKind} {x y : Int} : arithV .sub (.int k x) (.int k y) = some (.int k (k.wrap (x - y))) := by simp [arithV, arith, frc_eq, wrapK_eq]
@[simp] theorem arith_mul {k : IntKind} {x y : Int} : arithV .mul (.int k x) (.int k y) = some (.int k (k.wrap (x * y))) := by simp [arithV, arith, frc_eq, wrapK_eq]
theorem arith_quo {k : IntKind} {x y : Int} (h : y ≠ 0) : arithV .quo (.int k x) (.int k y) = some (.int k (k.wrap (x.tdiv y))) := by
  have : (y == 0) = false := by simpa using h
  simp [arithV, arith, frc_eq, wrapK_eq, eqI_eq, this]
theorem arith_rem {k : IntKind} {x y : Int} (h : y ≠ 0) : arithV .rem (.int k x) (.int k y) = some (.int k (x.tmod y)) := by
  have : (y == 0) = false := by simpa using h
  simp [arithV, arith, frc_eq, eqI_eq, this]
@[simp] theorem arith_lss {k : IntKind} {x y : Int} : arithV .lss (.int k x) (.int k y) = some (.bool (decide (x < y))) := by simp [arithV, arith, ltI_eq]
@[simp] theorem arith_gtr {k : IntKind} {x y : Int} : arithV .gtr (.int k x) (.int k y) = some (.bool (decide (y < x))) := by simp [arithV, arith, ltI_eq]
@[simp] theorem arith_leq {k : IntKind} {x y : Int} : arithV .leq (.int k x) (.int k y) = some (.bool (decide (x ≤ y))) := by
  simp only [arithV, arith, ltI_eq, intKindEq_self, cond_true]
  by_cases h : x ≤ y
  · simp [h, Int.not_lt.2 h]
  · simp [h, Int.not_le.1 h]
@[simp] theorem arith_geq {k : IntKind} {x y : Int} : arithV .geq (.int k x) (.int k y) = some (.bool (decide (y ≤ x))) := by
  simp only [arithV, arith, ltI_eq, intKindEq_self, cond_true]
  by_cases h : y ≤ x
  · simp [h, Int.not_lt.2 h]
  · simp [h, Int.not_le.1 h]
@[simp] theorem eqV_int {c : Bool} {k : IntKind} {x y : Int} : eqV 0 c (.int k x) (.int k y) = some (x == y) := by simp [eqV, eqI_eq]
@[simp] theorem eqV_bool {c : Bool} {x y : Bool} : eqV 1 c (.bool x) (.bool y) = some (x == y) := id rfl
@[simp] theorem eqV_str {c : Bool} {x y : ByteArray} : eqV 2 c (.str x) (.str y) = some (x == y) := id rfl
@[simp] theorem eqV_ptr {c : Bool} {b o : Nat} : eqV 3 c (.ptr b o) .nilptr = some false := id rfl
@[simp] theorem eqV_nilptr {c : Bool} : eqV 3 c .nilptr .nilptr = some true := id rfl
@[simp] theorem eqV_ptr' {c : Bool} {b o : Nat} : eqV 3 c .nilptr (.ptr b o) = some false := id rfl
@[simp] theorem eqV_slc {c : Bool} {b o l es : Nat} {cp : Option Nat} : eqV 5 c (.slc b o l cp es) .nilslc = some false := id rfl
@[simp] theorem eqV_nilslc {c : Bool} : eqV 5 c .nilslc .nilslc = some true := id rfl
@[simp] theorem negB_mk {n b : Bool} : negB n (some b) = some (.bool (n != b)) := by cases n <;> cases b <;> rfl
@[simp] theorem unary_not {b : Bool} : unaryA .not (.bool b) = some (.bool !b) := id rfl
@[simp] theorem lenOf_slc {b o l es : Nat} {cp : Option Nat} : lenOfA (.slc b o l cp es) = some l := id rfl
@[simp] theorem lenOf_nil : lenOfA .nilslc = some 0 := id rfl
theorem rd1_mk {b o : Nat} {t : Bool} {e : TypeId} {l : List AVal} (h : s b = some (t, .cells e l)) : rd1 s (.ptr b o) = l[o]? := by simp [rd1, h]
theorem wr1_mk {b o : Nat} {e : TypeId} {l : List AVal} {v : AVal} (h : s b = some (false, .cells e l)) (hl : o < l.length) (hv : v.one = true) : wr1 s (.ptr b o) v = some (hset s b (false, .cells e (l.set o v))) := by
  have : Nat.blt o l.length = true := by rw [Nat.blt_eq]; exact hl
  simp [wr1, h, hv, this]
@[simp] theorem one_int {k : IntKind} {n : Int} : (AVal.int k n).one = true := id rfl
@[simp] theorem one_bool {b : Bool} : (AVal.bool b).one = true := id rfl
@[simp] theorem one_ptr {b o : Nat} : (AVal.ptr b o).one = true := id rfl
@[simp] theorem one_nilptr : AVal.nilptr.one = true := id rfl
@[simp] theorem one_slc {b o l es : Nat} {cp : Option Nat} : (AVal.slc b o l cp es).one = true := id rfl
@[simp] theorem one_nilslc : AVal.nilslc.one = true := id rfl
@[simp] theorem cells_int {k : IntKind} {n : Int} : (AVal.int k n).cells = [.int k n] := id rfl
@[simp] theorem cells_bool {b : Bool} : (AVal.bool b).cells = [.bool b] := id rfl
@[simp] theorem cells_ptr {b o : Nat} : (AVal.ptr b o).cells = [.ptr b o] := id rfl
@[simp] theorem cells_slc {b o l es : Nat} {cp : Option Nat} : (AVal.slc b o l cp es).cells = [.slc b o l cp es] := id rfl
@[simp] theorem cells_nilslc : AVal.nilslc.cells = [.nilslc] := id rfl
@[simp] theorem cells_nilptr : AVal.nilptr.cells = [.nilptr] := id rfl
@[simp] theorem cells_agg {l : List AVal} : (AVal.agg l).cells = l := id rfl
@[simp] theorem allOne_nil : allOne [] = true := id rfl
@[simp] theorem allOne_cons {v : AVal} {l : List AVal} : allOne (v :: l) = (v.one && allOne l) := id rfl
theorem wrap64 {n : Int} (h1 : -9223372036854775808 ≤ n) (h2 : n ≤ 9223372036854775807) : IntKind.i64.wrap n = n := by
  rw [← wrapK_eq]
  simp only [wrapK]
  rw [wrapM_eq _ _ _ (by omega) (by omega)]
  split <;> omega
/-- what one heap still holds of another one, but for some blocks -/
def KeepBut (fp : Nat → Prop) (s s' : Heap) : Prop := ∀ b e, s b = some e → ¬ fp b → s' b = some e
theorem KeepBut.refl (fp : Nat → Prop) (s : Heap) : KeepBut fp s s := fun _ _ h _ => h
theorem KeepBut.trans {fp : Nat → Prop} {a b c : Heap} (h : KeepBut fp a b) (k : KeepBut fp b c) : KeepBut fp a c := fun i e hi hf => k i e (h i e hi hf) hf
theorem KeepBut.mono {fp fp' : Nat → Prop} {a b : Heap} (h : KeepBut fp a b) (hf : ∀ i, fp i → fp' i) : KeepBut fp' a b := fun i e hi hn => h i e hi fun k => hn (hf i k)
theorem Sub.keep {fp : Nat → Prop} {a b : Heap} (h : Sub a b) : KeepBut fp a b := fun i e hi _ => h i e hi
theorem Sub.refl (s : Heap) : Sub s s := fun _ _ h => h
theorem Sub.trans {a b c : Heap} (h : Sub a b) (k : Sub b c) : Sub a c := fun i e hi => k i e (h i e hi)
theorem sub_new {b : Nat} {e : Bool × Blk} (h : s b = none) : Sub s (hset s b e) := fun i x hi => by
  unfold hset
  have : i ≠ b := fun q => by rw [q, h] at hi; cases hi
  rw [if_neg this]; exact hi
theorem keep_set {fp : Nat → Prop} {b : Nat} {e : Bool × Blk} (h : fp b) : KeepBut fp s (hset s b e) := fun i x hi hn => by
  unfold hset
  have : i ≠ b := fun q => hn (q ▸ h)
  rw [if_neg this]; exact hi
@[simp] theorem hset_eq {b : Nat} {e : Bool × Blk} : hset s b e b = some e := if_pos rfl
theorem hset_other {b i : Nat} {e : Bool × Blk} (h : i ≠ b) : hset s b e i = s i := if_neg h
theorem ne_of_some {b i : Nat} {e : Bool × Blk} (hb : s b = none) (hi : s i = some e) : i ≠ b := fun q => by rw [q, hb] at hi; cases hi
theorem cut_keep {s t : Heap} {b : Nat} {e : Bool × Blk} (h : s b = some e) (ht : t b = some e) : cutH [(s, t)] t b = some e := by
  show (if s b = none ∧ t b ≠ none then none else t b) = _
  rw [if_neg (by rw [h]; simp)]; exact ht
theorem cut_refl {s : Heap} : cutH [(s, s)] s = s := by
  funext b
  show (if s b = none ∧ s b ≠ none then none else s b) = _
  rw [if_neg]; rintro ⟨h1, h2⟩; exact h2 h1
theorem add_frz {s : Heap} : add s (frz s) = s := by
  funext b
  unfold add frz
  cases s b <;> rfl
theorem sub_add {s t : Heap} : Sub s (add s t) := fun i e hi => add_some hi
theorem fn_in {P : Program} {X : Told} {k : FuncId} {first cap args : List AVal} {K : AVal → Heap → Prop} {s : Heap} (hk : isFn P k = true) (h : wpCall P X k (first ++ args ++ cap) K s) : funK P X (.fn (.func k) first cap) args K s := ⟨hk, h⟩
theorem wrAgg_all {b : Nat} {e : TypeId} {l cs : List AVal} {n : Nat} {s : Heap} (h : s b = some (false, .cells e l)) (hl : cs.length = l.length) (hn : l.length = n) (ho : allOne cs = true) : wrAgg s n (.ptr b 0) (.agg cs) = some (hset s b (false, .cells e cs)) := by
  have e1 : Nat.beq cs.length n = true := by rw [hl, hn]; exact Nat.beq_refl _
  have e2 : Nat.ble (0 + cs.length) l.length = true := Nat.ble_eq_true_of_le (by omega)
  have e3 : setRange l 0 cs = cs := by unfold setRange; rw [List.drop_eq_nil_of_le (by omega)]; simp
  simp only [wrAgg, cells_agg, e1, cond_true, wrN, h, e2, ho, Bool.and_self, e3]
theorem rdN_all {b : Nat} {t : Bool} {e : TypeId} {l : List AVal} {n : Nat} {s : Heap} (h : s b = some (t, .cells e l)) (hn : l.length = n) : rdN s n (.ptr b 0) = some l := by
  have e1 : Nat.ble (0 + n) l.length = true := Nat.ble_eq_true_of_le (by omega)
  simp only [rdN, h, takeAt, e1, cond_true, List.drop_zero]
  rw [List.take_of_length_le (by omega)]
theorem boxK_one {elem : TypeId} {v : AVal} {K : AVal → Heap → Prop} {s : Heap} (hv : v.one = true) (h : ∀ b, s b = none → K (.ptr b 0) (hset s b (false, .cells elem [v]))) : boxK elem v K s := by
  unfold boxK
  rw [one_cells hv]
  exact ⟨by simp [hv], h⟩
theorem keep_new {fp : Nat → Prop} {s : Heap} {b : Nat} {e : Bool × Blk} (h : s b = none) : KeepBut fp s (hset s b e) := (sub_new h).keep
/-- the same but for one block -/
def Upto (b : Nat) (s s' : Heap) : Prop := ∀ i, i ≠ b → s' i = s i
theorem Upto.keep {fp : Nat → Prop} {b : Nat} {s s' : Heap} (h : Upto b s s') (hb : fp b) : KeepBut fp s s' := fun i e hi hn => by
  rw [h i fun q => hn (q ▸ hb)]; exact hi
theorem Upto.sub {b : Nat} {s s' : Heap} (h : Upto b s s') (hb : s b = none) : Sub s s' := fun i e hi => by
  rw [h i (ne_of_some hb hi)]; exact hi
theorem Upto.at {b i : Nat} {s s' : Heap} {e : Bool × Blk} (h : Upto b s s') (hi : s i = some e) (hb : s b = none) : s' i = some e := h.sub hb i e hi
theorem new_step {elem : TypeId} {cs : List AVal} {K : Nat → Heap → Prop} {s : Heap} (h : ∀ b s', s b = none → s' b = some (false, .cells elem cs) → Upto b s s' → K b s') : newK elem cs K s :=
  fun b hb => h b _ hb hset_eq fun _ hi => hset_other hi
theorem wr1_step {b o : Nat} {e : TypeId} {l : List AVal} {v : AVal} {K : Heap → Prop} {s : Heap} (h : s b = some (false, .cells e l)) (ho : o < l.length) (hv : v.one = true) (hk : ∀ s', s' b = some (false, .cells e (l.set o v)) → Upto b s s' → K s') : optK (wr1 s (.ptr b o) v) K :=
  optK_of (wr1_mk h ho hv) (hk _ hset_eq fun _ hi => hset_other hi)
theorem wrAgg_step {b : Nat} {e : TypeId} {l cs : List AVal} {n : Nat} {K : Heap → Prop} {s : Heap} (h : s b = some (false, .cells e l)) (hl : cs.length = l.length) (hn : l.length = n) (ho : allOne cs = true) (hk : ∀ s', s' b = some (false, .cells e cs) → Upto b s s' → K s') : optK (wrAgg s n (.ptr b 0) (.agg cs)) K :=
  optK_of (wrAgg_all h hl hn ho) (hk _ hset_eq fun _ hi => hset_other hi)
theorem box_step {elem : TypeId} {v : AVal} {K : AVal → Heap → Prop} {s : Heap} (hv : v.one = true) (h : ∀ b s', s b = none → s' b = some (false, .cells elem [v]) → Upto b s s' → K (.ptr b 0) s') : boxK elem v K s :=
  boxK_one hv fun b hb => h b _ hb hset_eq fun _ hi => hset_other hi
end Go.AM
namespace Go.AM
open Go
/-! ### slices of one-cell elements -/
def Sl (s : Heap) (v : AVal) (l : List AVal) : Prop := (v = .nilslc ∧ l = []) ∨ ∃ b o cap, v = .slc b o l.length cap 1 ∧ (∀ c, cap = some c → l.length ≤ c) ∧
  (l ≠ [] → ∃ t e cs, s b = some (t, .cells e cs) ∧ o + l.length ≤ cs.length ∧ ∀ i, i < l.length → cs[o + i]? = l[i]?)
variable {s s' : Heap} {v : AVal} {l : List AVal}
theorem Sl.len (h : Sl s v l) : lenOfA v = some l.length := by
  rcases h with ⟨rfl, rfl⟩ | ⟨b, o, cap, rfl, _⟩
  · rfl
  · rfl
theorem Sl.get (h : Sl s v l) {i : Nat} (hi : i < l.length) : ∃ p, iaddrS 1 v (.int .i64 (i : Int)) = some p ∧ rd1 s p = l[i]? := by
  rcases h with ⟨rfl, rfl⟩ | ⟨b, o, cap, rfl, _, h⟩
  · simp at hi
  · obtain ⟨t, e, cs, h1, h2, h3⟩ := h (by rintro rfl; simp at hi)
    refine ⟨.ptr b (o + i), ?_, by rw [rd1_mk h1, h3 i hi]⟩
    have : Nat.blt i l.length = true := by rw [Nat.blt_eq]; exact hi
    simp [iaddrS, this]
theorem Sl.rd (h : Sl s v l) : rdSl s 1 v = some l := by
  rcases h with ⟨rfl, rfl⟩ | ⟨b, o, cap, rfl, _, h⟩
  · rfl
  · cases l with
    | nil => rfl
    | cons x r =>
      obtain ⟨t, e, cs, h1, h2, h3⟩ := h (by simp)
      have e1 : Nat.beq ((x :: r).length * 1) 0 = false := rfl
      have e2 : Nat.ble (o + (x :: r).length * 1) cs.length = true := Nat.ble_eq_true_of_le (by omega)
      simp only [rdSl, Nat.beq_refl, cond_true, e1, cond_false, h1, takeAt, e2]
      congr 1
      apply List.ext_getElem?
      intro i
      rw [List.getElem?_take]
      split
      · rename_i hi
        rw [List.getElem?_drop, h3 i (by omega)]
      · rw [List.getElem?_eq_none (by omega)]
theorem Sl.sub (h : Sl s v l) (hs : Sub s s') : Sl s' v l := by
  rcases h with h | ⟨b, o, cap, h1, h2, h3⟩
  · exact .inl h
  · refine .inr ⟨b, o, cap, h1, h2, fun hl => ?_⟩
    obtain ⟨t, e, cs, q1, q2⟩ := h3 hl
    exact ⟨t, e, cs, hs _ _ q1, q2⟩
theorem Sl.keep {fp : Nat → Prop} (h : Sl s v l) (hs : KeepBut fp s s') (hn : ∀ b o n c, v = .slc b o n c 1 → l ≠ [] → ¬ fp b) : Sl s' v l := by
  rcases h with h | ⟨b, o, cap, h1, h2, h3⟩
  · exact .inl h
  · refine .inr ⟨b, o, cap, h1, h2, fun hl => ?_⟩
    obtain ⟨t, e, cs, q1, q2⟩ := h3 hl
    exact ⟨t, e, cs, hs _ _ q1 (hn b o _ cap h1 hl), q2⟩
theorem Sl.mk {b : Nat} {t : Bool} {e : TypeId} {n : Nat} {cap : Option Nat} (h : s b = some (t, .cells e l)) (hn : n = l.length) (hc : ∀ c, cap = some c → l.length ≤ c) : Sl s (.slc b 0 n cap 1) l := by
  subst hn
  exact .inr ⟨b, 0, cap, rfl, hc, fun _ => ⟨t, e, l, h, by omega, fun i _ => by rw [Nat.zero_add]⟩⟩
/-- a list that grows by append; 's0': the memory that was there before it -/
def Acc (elem : TypeId) (s0 s : Heap) (v : AVal) (l : List AVal) : Prop := (v = .nilslc ∧ l = []) ∨ ∃ b, s0 b = none ∧ v = .slc b 0 l.length none 1 ∧ s b = some (false, .cells elem l)
theorem Acc.sl {elem : TypeId} {s0 : Heap} (h : Acc elem s0 s v l) : Sl s v l := by
  rcases h with h | ⟨b, _, rfl, h⟩
  · exact .inl h
  · exact Sl.mk h rfl (by simp)
theorem Acc.app {elem : TypeId} {s0 : Heap} {y : AVal} {m : List AVal} {K : AVal → Heap → Prop} (h : Acc elem s0 s v l) (hy : Sl s y m) (hm : m ≠ []) (hl : l.length + m.length ≤ 16777216) (hdom : ∀ i, s0 i ≠ none → s i ≠ none)
    (hK : ∀ v' s', Acc elem s0 s' v' (l ++ m) → (∀ i e, s i = some e → (∀ b, v = .slc b 0 l.length none 1 → i ≠ b) → s' i = some e) → K v' s') : appK elem 1 v y K s := by
  obtain ⟨k, hk⟩ : ∃ k, m.length = k + 1 := by cases m with | nil => exact absurd rfl hm | cons a r => exact ⟨r.length, rfl⟩
  refine optK_of hy.rd (optK_of hy.len ?_)
  rcases h with ⟨rfl, rfl⟩ | ⟨b, hb0, rfl, hb⟩
  · simp only
    rw [hk]
    refine ⟨by simp at hl; omega, new_step fun c s1 hc h1 u1 => hK _ _ (.inr ⟨c, ?_, ?_, by simpa using h1⟩) fun i e hi _ => u1.at hi hc⟩
    · cases q : s0 c with
      | none => rfl
      | some x => exact absurd hc (hdom c (by rw [q]; simp))
    · simp [hk]
  · refine ⟨rfl, ?_⟩
    simp only
    rw [hk]
    simp only
    refine optK_of (Sl.rd (Sl.mk (l := l) hb rfl (by simp))) ?_
    unfold dropK
    rw [hb]
    refine ⟨rfl, by omega, new_step fun c s1 hc h1 u1 => hK _ _ (.inr ⟨c, ?_, by simp [hk], h1⟩) fun i e hi hib => ?_⟩
    · by_cases e : c = b
      · rw [e]; exact hb0
      · have hc' : s c = none := by rw [← hc]; exact (if_neg e).symm
        cases q : s0 c with
        | none => rfl
        | some x => exact absurd hc' (hdom c (by rw [q]; simp))
    · have hne := hib b rfl
      have : hdel s b i = some e := by rw [← hi]; exact if_neg hne
      exact u1.at this hc
/-- a copy made by append to an empty list -/
theorem app_copy {elem : TypeId} {b : Nat} {y : AVal} {m : List AVal} {K : AVal → Heap → Prop} (hy : Sl s y m) (hl : m.length ≤ 16777216)
    (hK : ∀ v' s', Sub s s' → (m = [] → v' = .slc b 0 0 (some 0) 1) → (m ≠ [] → ∃ c, s c = none ∧ v' = .slc c 0 m.length none 1 ∧ s' c = some (false, .cells elem m)) → K v' s') : appK elem 1 (.slc b 0 0 (some 0) 1) y K s := by
  refine optK_of hy.rd (optK_of hy.len ⟨rfl, ?_⟩)
  cases m with
  | nil => exact ⟨Nat.le_refl _, hK _ _ (.refl _) (fun _ => rfl) (fun h => absurd rfl h)⟩
  | cons x r =>
    have e0 : Nat.ble (0 + (r.length + 1)) 0 = false := by rw [Nat.zero_add]; rfl
    simp only [List.length_cons, e0, cond_false]
    refine optK_of (a := []) rfl ⟨by simp at hl; omega, new_step fun c s1 hc h1 u1 => hK _ _ (u1.sub hc) (by simp) fun _ => ⟨c, hc, by simp, by simpa using h1⟩⟩
/-- one element that is appended lies in a list of its own -/
theorem lit1_step {elem : TypeId} {z v : AVal} {K : Nat → Heap → Prop} (hz : z.one = true) (hv : v.one = true) (hK : ∀ b s', s b = none → s' b = some (false, .cells elem [v]) → Upto b s s' → K b s') :
    optK (fillR (repl 1 [z]) [(0, 1, v)]) fun c => allOne c = true ∧ newK elem c K s := by
  refine optK_of (a := [v]) ?_ ⟨by simp [hv], new_step hK⟩
  show cond (Nat.beq v.cells.length 1 && Nat.ble (0 + v.cells.length) 1) (fillR (setRange [z] 0 v.cells) []) none = _
  rw [one_cells hv]
  rfl
theorem repl_one (z : AVal) : ∀ n, repl n [z] = List.replicate n z
  | 0 => rfl
  | n + 1 => by rw [repl, repl_one z n]; rfl
/-- append to a list without room -/
theorem app_full {elem : TypeId} {b o c : Nat} {y : AVal} {m : List AVal} {K : AVal → Heap → Prop} (hx : Sl s (.slc b o l.length (some c) 1) l) (hy : Sl s y m) (hm : m ≠ []) (hc : c < l.length + m.length) (hl : l.length + m.length ≤ 16777216)
    (hK : ∀ d s', s d = none → s' d = some (false, .cells elem (l ++ m)) → Upto d s s' → K (.slc d 0 (l.length + m.length) none 1) s') : appK elem 1 (.slc b o l.length (some c) 1) y K s := by
  obtain ⟨k, hk⟩ : ∃ k, m.length = k + 1 := by cases m with | nil => exact absurd rfl hm | cons a r => exact ⟨r.length, rfl⟩
  refine optK_of hy.rd (optK_of hy.len ⟨rfl, ?_⟩)
  rw [hk] at hc hl hK ⊢
  have e0 : Nat.ble (l.length + (k + 1)) c = false := by
    cases q : Nat.ble (l.length + (k + 1)) c with
    | false => rfl
    | true => have := Nat.le_of_ble_eq_true q; omega
  simp only [e0, cond_false]
  exact optK_of hx.rd ⟨by omega, new_step fun d s1 hd h1 u1 => hK d s1 hd h1 u1⟩
/-- append to a list of one's own, or to an empty one -/
theorem app_own {elem : TypeId} {s0 : Heap} {y : AVal} {m : List AVal} {K : AVal → Heap → Prop} (h : (l = [] ∧ ∃ b, v = .slc b 0 0 (some 0) 1) ∨ Acc elem s0 s v l) (hy : Sl s y m) (hm : m ≠ []) (hl : l.length + m.length ≤ 16777216) (hdom : ∀ i, s0 i ≠ none → s i ≠ none)
    (hK : ∀ v' s', Acc elem s0 s' v' (l ++ m) → (∀ i e, s i = some e → (∀ b, v = .slc b 0 l.length none 1 → i ≠ b) → s' i = some e) → K v' s') : appK elem 1 v y K s := by
  rcases h with ⟨rfl, b, rfl⟩ | h
  · refine app_full (l := []) (.inr ⟨b, 0, some 0, rfl, by simp, fun h => absurd rfl h⟩) hy hm ?_ hl fun d s' hd h1 u1 => hK _ _ (.inr ⟨d, ?_, by simp, by simpa using h1⟩) fun i e hi _ => u1.at hi hd
    · cases m with
      | nil => exact absurd rfl hm
      | cons a r => simp
    · cases q : s0 d with
      | none => rfl
      | some x => exact absurd hd (hdom d (by rw [q]; simp))
  · exact h.app hy hm hl hdom hK
end Go.AM
namespace Go.AM
open Go
/-! ### arguments by their types -/
section
variable {P : Program} {s : Heap} {d : Nat} {t e : TypeId} {v : AVal}
theorem arg_int {k : IntKind} (hu : P.underlying t = some (.int k)) (h : Arg P s (d + 1) t v) : ∃ n, v = .int k n ∧ (Lit.int k n).wf = true := by
  obtain ⟨h1, _, h3⟩ := h
  have : isAggT P t ≠ some true := by unfold isAggT; rw [hu]; simp
  rw [h3 this] at h1
  unfold Inp at h1
  simp only [hu] at h1
  obtain ⟨n, e, hn⟩ := h1
  exact ⟨n, by simpa using e, hn⟩
theorem arg_bool (hu : P.underlying t = some .bool) (h : Arg P s (d + 1) t v) : ∃ b, v = .bool b := by
  obtain ⟨h1, _, h3⟩ := h
  have : isAggT P t ≠ some true := by unfold isAggT; rw [hu]; simp
  rw [h3 this] at h1
  unfold Inp at h1
  simp only [hu] at h1
  obtain ⟨b, e⟩ := h1
  exact ⟨b, by simpa using e⟩
theorem inp_slice (hu : P.underlying t = some (.slice e)) (hc : P.cellsOf e = 1) {A : Type} (f : A → AVal) (Q : A → Prop) (he : ∀ xs, Inp P s d e xs → ∃ a, xs = [f a] ∧ Q a) {xs : List AVal} (h : Inp P s (d + 1) t xs) : ∃ v, xs = [v] ∧ ∃ l : List A, Sl s v (l.map f) ∧ (∀ a ∈ l, Q a) ∧ l.length ≤ maxLen := by
  unfold Inp at h
  simp only [hu] at h
  rcases h with rfl | ⟨b, len, cap, rfl, h1, h2, h3⟩
  · exact ⟨_, rfl, [], .inl ⟨rfl, rfl⟩, by simp, by simp⟩
  · refine ⟨_, rfl, ?_⟩
    rw [hc] at h3 ⊢
    by_cases hz : cap = 0
    · subst hz
      have : len = 0 := by omega
      subst this
      exact ⟨[], .inr ⟨b, 0, some 0, rfl, by simp, by simp⟩, by simp, by simp⟩
    · obtain ⟨el, l, g1, g2, g3⟩ := h3 (by omega)
      simp only [Nat.mul_one] at g2 g3
      have each : ∀ i, i < cap → ∃ a, l[i]? = some (f a) ∧ Q a := by
        intro i hi
        obtain ⟨a, q1, q2⟩ := he _ (g3 i hi)
        refine ⟨a, ?_, q2⟩
        have := congrArg (fun r : List AVal => r[0]?) q1
        simpa [List.getElem?_take, List.getElem?_drop] using this
      have mk : ∀ n, n ≤ cap → ∃ r : List A, r.length = n ∧ (∀ i, i < n → l[i]? = (r.map f)[i]?) ∧ ∀ a ∈ r, Q a := by
        intro n
        induction n with
        | zero => exact fun _ => ⟨[], rfl, by simp, by simp⟩
        | succ n ih =>
          intro hn
          obtain ⟨r, r1, r2, r3⟩ := ih (by omega)
          obtain ⟨a, a1, a2⟩ := each n (by omega)
          refine ⟨r ++ [a], by simp [r1], fun i hi => ?_, fun b hb => ?_⟩
          · by_cases e : i = n
            · subst e; rw [a1]; simp [← r1]
            · rw [r2 i (by omega)]; simp [List.getElem?_append, r1, show i < n by omega]
          · rcases List.mem_append.1 hb with hb | hb
            · exact r3 b hb
            · rw [List.mem_singleton.1 hb]; exact a2
      obtain ⟨r, r1, r2, r3⟩ := mk len h1
      refine ⟨r, .inr ⟨b, 0, some cap, by simp [r1], by simp [r1]; exact h1, fun _ => ⟨true, el, l, g1, by simp [r1]; omega, fun i hi => ?_⟩⟩, r3, by omega⟩
      rw [Nat.zero_add]
      exact r2 i (by simpa [r1] using hi)
theorem arg_slice (hu : P.underlying t = some (.slice e)) (hc : P.cellsOf e = 1) {A : Type} (f : A → AVal) (Q : A → Prop) (he : ∀ xs, Inp P s d e xs → ∃ a, xs = [f a] ∧ Q a) (h : Arg P s (d + 1) t v) : ∃ l : List A, Sl s v (l.map f) ∧ (∀ a ∈ l, Q a) ∧ l.length ≤ maxLen := by
  obtain ⟨h1, _, h3⟩ := h
  have : isAggT P t ≠ some true := by unfold isAggT; rw [hu]; simp
  rw [h3 this] at h1
  obtain ⟨v', e1, h4⟩ := inp_slice hu hc f Q he h1
  cases e1
  exact h4
theorem inp_int {k : IntKind} (hu : P.underlying t = some (.int k)) {xs : List AVal} (h : Inp P s (d + 1) t xs) : ∃ n, xs = [.int k n] ∧ (Lit.int k n).wf = true := by
  unfold Inp at h
  simp only [hu] at h
  exact h
theorem inp_bool (hu : P.underlying t = some .bool) {xs : List AVal} (h : Inp P s (d + 1) t xs) : ∃ b, xs = [.bool b] ∧ True := by
  unfold Inp at h
  simp only [hu] at h
  obtain ⟨b, h⟩ := h
  exact ⟨b, h, trivial⟩
end
theorem argl2 {P : Program} {s : Heap} {d : Nat} {t u : TypeId} {xs : List AVal} (h : ArgL P s d [t, u] xs) : ∃ a b, xs = [a, b] ∧ Arg P s d t a ∧ Arg P s d u b := by
  match xs, h with
  | [a, b], ⟨h1, h2, _⟩ => exact ⟨a, b, rfl, h1, h2⟩
theorem argl3 {P : Program} {s : Heap} {d : Nat} {t u w : TypeId} {xs : List AVal} (h : ArgL P s d [t, u, w] xs) : ∃ a b c, xs = [a, b, c] ∧ Arg P s d t a ∧ Arg P s d u b ∧ Arg P s d w c := by
  match xs, h with
  | [a, b, c], ⟨h1, h2, h3, _⟩ => exact ⟨a, b, c, rfl, h1, h2, h3⟩
theorem argl1 {P : Program} {s : Heap} {d : Nat} {t : TypeId} {xs : List AVal} (h : ArgL P s d [t] xs) : ∃ a, xs = [a] ∧ Arg P s d t a := by
  match xs, h with
  | [a], ⟨h1, _⟩ => exact ⟨a, rfl, h1⟩
theorem bd64 {n : Int} (h : (Lit.int .i64 n).wf = true) : -9223372036854775808 ≤ n ∧ n ≤ 9223372036854775807 := by
  have : IntKind.i64.wrap n = n ∨ True := .inr trivial
  unfold Lit.wf at h
  simpa [IntKind.min, IntKind.max, IntKind.bits, IntKind.signed] using h
end Go.AM
namespace Go.AM
open Go Go.RowKit Go.ChangeShapes Go.WideShapes Go.ChangeAt
/-! ### laws whose arguments are never looked into -/
def opqs (P : Program) : List TypeId → Nat → List AVal
  | [], _ => []
  | t :: ts, i => match isAggT P t with
    | some true => .agg ((List.range (P.cellsOf t)).map fun j => .opq (i + j)) :: opqs P ts (i + P.cellsOf t)
    | _ => .opq i :: opqs P ts (i + 1)
section
variable {H : Type} {enc : TypeId × Value → H} {P : Program} {W : World}
theorem inp_len {s : Heap} {d : Nat} {t : TypeId} {xs : List AVal} (ha : isAggT P t = some true) (h : Inp P s d t xs) : xs.length = P.cellsOf t := by
  cases d with
  | zero => exact h.elim
  | succ d =>
    unfold Inp at h
    unfold isAggT at ha
    split at h <;> first | exact h.elim | exact h.1 | (rename_i hu; rw [hu] at ha; cases ha)
theorem opqR_pos {σ : Nat → Value} {v : Value} {i : Nat} (hi : 1 ≤ i) (h : v = σ i) : opqR σ v i := by
  cases i with
  | zero => omega
  | succ i => exact h
theorem any_rel (d : Nat) (base : Nat) : ∀ (ts : List TypeId) (vs : List Value) (ds : List (DataW H)) (ps : List MemPlace), (ts.all fun t => plainT P d t) = true → DataW.TrodAll enc P W 0 (fun _ => true) true ts vs ds ps →
    (∀ (j : Nat) t v, ts[j]? = some t → vs[j]? = some v → Value.okWide P W .any base t v) → (∀ c ∈ vs.flatMap (fun v => v.cells.toList), c.oneCell' = true) ∧
      ∀ (i : Nat) (L : List Value), 1 ≤ i → (∀ j c, (vs.flatMap (fun v => v.cells.toList))[j]? = some c → L[i + j]? = some c) → RelL (fun k => L.getD k (.bool true)) (fun _ => none) (opqs P ts i) vs
  | [], vs, ds, ps, _, h, _ => by
    cases vs with
    | nil => exact ⟨by simp, fun _ _ _ _ => .nil⟩
    | cons v vs => cases ds <;> exact h.elim
  | t :: ts, [], ds, ps, _, h, _ => by cases ds <;> exact h.elim
  | t :: ts, v :: vs, [], ps, _, h, _ => h.elim
  | t :: ts, v :: vs, x :: ds, ps, hp, h, hv => by
    simp only [List.all_cons, Bool.and_eq_true] at hp
    obtain ⟨p, q, ⟨fuel, h1⟩, h2, rfl⟩ := h
    have hσ : One (fun _ => Value.bool true) := fun _ => rfl
    obtain ⟨xs, C, g1, g2, g3, g4⟩ := open_ok hσ d t _ fuel _ hp.1 h1 [] (fun i x hx => by simp at hx)
    obtain ⟨k1, k2⟩ := any_rel d base ts vs ds q hp.2 h2 fun j t v hj hv' => hv (j + 1) t v (by simpa using hj) (by simpa using hv')
    have one := rel_one hσ g3 g2
    refine ⟨fun c hc => ?_, fun i L hi1 hL => ?_⟩
    · rw [List.flatMap_cons, List.mem_append] at hc
      rcases hc with hc | hc
      · exact one c hc
      · exact k1 c hc
    · have head : ∀ j c, v.cells.toList[j]? = some c → L[i + j]? = some c := fun j c hc => hL j c (by
        rw [List.flatMap_cons, List.getElem?_append_left (List.getElem?_eq_some_iff.1 hc).1]; exact hc)
      have tail : ∀ n, v.cells.toList.length = n → ∀ j c, (vs.flatMap (fun v => v.cells.toList))[j]? = some c → L[i + n + j]? = some c := fun n hn j c hc => by
        rw [Nat.add_assoc]
        exact hL (n + j) c (by rw [List.flatMap_cons, List.getElem?_append_right (by omega)]; simpa [hn] using hc)
      have hlen := g2.length
      rcases okWide_cells hp.1 (hv 0 t v rfl rfl) with ⟨ha, cs, rfl⟩ | ⟨ha, hc⟩
      · have hn : (Value.agg cs).cells.toList.length = P.cellsOf t := by rw [hlen]; exact inp_len ha g4
        unfold opqs
        simp only [ha]
        refine .cons ?_ (k2 _ L (by omega) (tail _ hn))
        unfold Rel
        refine ⟨cs, rfl, RelL.of_get (by simp; exact hn) fun j x y hx hy => ?_⟩
        simp only [List.getElem?_map, Option.map_eq_some_iff] at hx
        obtain ⟨j', hj, rfl⟩ := hx
        have : j' = j := by
          rw [List.getElem?_eq_some_iff] at hj
          obtain ⟨_, hj⟩ := hj
          simpa using hj.symm
        subst this
        unfold Rel
        refine opqR_pos (by omega) ?_
        rw [List.getD_eq_getElem?_getD, head j' y hy]; rfl
      · have hn : v.cells.toList.length = 1 := by rw [hc]; rfl
        have e : opqs P (t :: ts) i = .opq i :: opqs P ts (i + 1) := by
          conv => lhs; unfold opqs
          split
          · rename_i h; exact absurd h ha
          · rfl
        rw [e]
        refine .cons ?_ (k2 _ L (by omega) (tail _ hn))
        unfold Rel
        refine opqR_pos hi1 ?_
        rw [List.getD_eq_getElem?_getD, show L[i]? = some v from head 0 v (by rw [hc]; rfl)]; rfl
/-- A LAW THAT ANSWERS WITHOUT A LOOK AT ITS ARGUMENTS -/
theorem law_of_any (hm : P.follows .mixedOrders = true) (hname : noNumB P = true) (n : Nat) {f : FuncId} {ts : List TypeId} (d : Nat) (hp : (ts.all fun t => plainT P d t) = true)
    (h : isTrue (run P noExt n (.call f (opqs P ts 1)) empty) = true) {base : Nat} {args : Array Value} {ds : List (DataW H)} {ps : List MemPlace}
    (hA : DataW.TrodAll enc P W 0 (fun _ => true) true ts args.toList ds ps) (hv : ∀ (j : Nat) t v, ts[j]? = some t → args[j]? = some v → Value.okWide P W .any base t v) :
    Calls P f args W fun e W' => e = .returned (.bool true) ∧ Below W.heap.size W W' := by
  obtain ⟨h1, h2⟩ := any_rel (W := W) d base ts args.toList ds ps hp hA fun j t v hj hj' => hv j t v hj (by simpa using hj')
  refine calls_true hm hname n _ h (fun k => (Value.bool true :: args.toList.flatMap (fun v : Value => v.cells.toList)).getD k (Value.bool true)) (fun i => ?_) args (h2 1 _ (Nat.le_refl _) fun j c hc => by rw [Nat.add_comm, List.getElem?_cons_succ]; exact hc) W
  show ((Value.bool true :: args.toList.flatMap (fun v : Value => v.cells.toList)).getD i (Value.bool true)).oneCell' = true
  rw [List.getD_eq_getElem?_getD]
  cases i with
  | zero => rfl
  | succ i =>
    rw [List.getElem?_cons_succ]
    cases hi : (args.toList.flatMap (fun v => v.cells.toList))[i]? with
    | none => rfl
    | some x => exact h1 x (List.mem_of_getElem? hi)
end
end Go.AM
namespace Go.AM
open Go Go.RowKit Go.ChangeShapes Go.WideShapes Go.ChangeAt
/-! ### laws that are calculated, with functions taken as told -/
theorem calls_trueX {P : Program} (hm : P.follows .mixedOrders = true) (hname : noNumB P = true) {X : Told} (hX : ExtOK P X) (n : Nat) {f : FuncId} (args : List AVal) (h : isTrue (runR P X n (.call f args) empty) = true) (σ : Nat → Value) (hσ : One σ) (args' : Array Value) (hr : RelL σ (fun _ => none) args args'.toList) (w : World) :
    Calls P f args' w fun e w' => e = .returned (.bool true) ∧ Below w.heap.size w w' := by
  rw [runR_eq] at h
  obtain ⟨H', h⟩ := isTrue_spec h
  refine (calls_of_run hm (noNum_of hname) hX h σ hσ (fun _ => none) w wr_empty (fun _ _ _ => rfl) args' hr).mono ?_
  rintro e w' ⟨v', ρ', rfl, hv, _, hb⟩
  unfold Rel at hv
  rw [hv]
  exact ⟨rfl, hb⟩
theorem closedX_okX {P : Program} (hm : P.follows .mixedOrders = true) (hname : noNumB P = true) {X : Told} (hX : ExtOK P X) (l : List FuncId) (h : ∀ f ∈ l, ∃ n, isTrue (runR P X n (.call f []) empty) = true) : ExtOK P (closedX l) := by
  refine ⟨closedX_fr l, fun f g hg args H v H' hr σ ρ base w args' hσ hwr hf hra => ?_⟩
  unfold closedX at hg
  cases hmem : memN f l with
  | false => rw [hmem] at hg; cases hg
  | true =>
    rw [hmem] at hg
    cases hg
    cases args with
    | cons _ _ => exact (fail_some (H := H) hr).elim
    | nil =>
      cases ret_some (H := H) hr
      obtain ⟨n, hn⟩ := h f (memN_iff.1 hmem)
      have ha : args' = #[] := by
        unfold RelL at hra
        cases args'; simp_all
      subst ha
      refine callsIn_wide.2 ((calls_trueX hm hname hX n [] hn (fun _ => .bool true) (fun _ => rfl) #[] .nil w).mono ?_)
      rintro e w' ⟨rfl, hb⟩
      exact ⟨_, ρ, rfl, ⟨.refl _ _ _, wr_below hwr hb, hb.mono hwr.base⟩, by unfold Rel; rfl⟩
def orX (X Y : Told) : Told := fun f => match X f with
  | some g => some g
  | none => Y f
theorem orX_ok {P : Program} {X Y : Told} (hX : ExtOK P X) (hY : ExtOK P Y) : ExtOK P (orX X Y) := by
  refine ⟨fun f g args h => ?_, fun f g h => ?_⟩
  · unfold orX at h
    cases hx : X f with
    | some g' => rw [hx] at h; cases h; exact hX.1 f _ args hx
    | none => rw [hx] at h; exact hY.1 f g args h
  · unfold orX at h
    cases hx : X f with
    | some g' => rw [hx] at h; cases h; exact hX.2 f _ hx
    | none => rw [hx] at h; exact hY.2 f g h
/-- A LAW THAT ANSWERS WITHOUT A LOOK AT ITS ARGUMENTS -/
theorem law_of_anyX {P : Program} {W : World} {H : Type} {enc : TypeId × Value → H} (hm : P.follows .mixedOrders = true) (hname : noNumB P = true) {X : Told} (hX : ExtOK P X) (n : Nat) {f : FuncId} {ts : List TypeId} (d : Nat) (hp : (ts.all fun t => plainT P d t) = true)
    (h : isTrue (runR P X n (.call f (opqs P ts 1)) empty) = true) {base : Nat} {args : Array Value} {ds : List (DataW H)} {ps : List MemPlace}
    (hA : DataW.TrodAll enc P W 0 (fun _ => true) true ts args.toList ds ps) (hv : ∀ (j : Nat) t v, ts[j]? = some t → args[j]? = some v → Value.okWide P W .any base t v) :
    Calls P f args W fun e W' => e = .returned (.bool true) ∧ Below W.heap.size W W' := by
  obtain ⟨h1, h2⟩ := any_rel (W := W) d base ts args.toList ds ps hp hA fun j t v hj hj' => hv j t v hj (by simpa using hj')
  refine calls_trueX hm hname hX n _ h (fun k => (Value.bool true :: args.toList.flatMap (fun v : Value => v.cells.toList)).getD k (Value.bool true)) (fun i => ?_) args (h2 1 _ (Nat.le_refl _) fun j c hc => by rw [Nat.add_comm, List.getElem?_cons_succ]; exact hc) W
  show ((Value.bool true :: args.toList.flatMap (fun v : Value => v.cells.toList)).getD i (Value.bool true)).oneCell' = true
  rw [List.getD_eq_getElem?_getD]
  cases i with
  | zero => rfl
  | succ i =>
    rw [List.getElem?_cons_succ]
    cases hi : (args.toList.flatMap (fun v => v.cells.toList))[i]? with
    | none => rfl
    | some x => exact h1 x (List.mem_of_getElem? hi)
end Go.AM
namespace Go.AM
open Go
/-! ### a long calculation in several theorems: between two of them stands a printed part of the memory -/
variable {P : Program} {X : Told}
structure Cov (K H : AHeap) : Prop where
  next : H.next = K.next
  lo : H.lo ≤ K.lo
  sub : ∀ i b, K.blks.get i = some b → H.blks.get i = some b
  top : ∀ i, H.next ≤ i → H.blks.get i = none
theorem Fr.cov {α : Type} {m : M α} (hf : Fr m) {K K1 H : AHeap} {a : α} (h : m K = some (a, K1)) (c : Cov K H) : ∃ H1, m H = some (a, H1) ∧ Cov K1 H1 := by
  obtain ⟨es, d, q⟩ := hf K a K1 h
  obtain ⟨H1, e, d2, n, ag⟩ := q H c.next c.lo (fun id b hm => by
    cases hk : K.blks.get id with
    | some x => exact c.sub id x hk
    | none =>
      rcases d.touch id b hm with h1 | ⟨h1, _⟩
      · exact absurd hk h1
      · exact c.top id (by rw [c.next]; exact h1))
  refine ⟨H1, e, n, by rw [d2.lo, d.lo]; exact c.lo, fun i b hi => ?_, fun i hi => ?_⟩
  · by_cases hm : (i, true) ∈ es
    · rw [ag i true hm]; exact hi
    · rw [d2.same i hm]
      rw [d.same i hm] at hi
      exact c.sub i b hi
  · cases hk : H1.blks.get i with
    | none => rfl
    | some x =>
      have n1 := d2.next
      rcases d2.gone i (by rw [hk]; simp) with h1 | ⟨_, h2⟩
      · exact absurd (c.top i (by omega)) h1
      · omega
def eqT : Tmps → Tmps → Bool
  | .nil, .nil => true
  | .node v l r, .node v' l' r' => (match v, v' with | none, none => true | some a, some b => eqA a b | _, _ => false) && (eqT l l' && eqT r r')
  | _, _ => false
theorem eqT_eq : ∀ {a b : Tmps}, eqT a b = true → a = b
  | .nil, .nil, _ => rfl
  | .nil, .node _ _ _, h => by cases h
  | .node _ _ _, .nil, h => by cases h
  | .node v l r, .node v' l' r', h => by
    unfold eqT at h
    obtain ⟨h1, h2⟩ := Bool.and_eq_true_iff.1 h
    obtain ⟨h2, h3⟩ := Bool.and_eq_true_iff.1 h2
    rw [eqT_eq h2, eqT_eq h3]
    cases v <;> cases v' <;> first | rfl | (cases h1; done) | (simp only at h1; rw [eqA_eq h1])
def eqB : ABlk → ABlk → Bool
  | .cells e c n, .cells e' c' n' => Nat.beq e e' && (eqT c c' && Nat.beq n n')
  | .map es k, .map es' k' => eqEs es es' && Nat.beq k k'
  | .one v, .one v' => eqA v v'
  | .deferred a, .deferred b => a == b
  | _, _ => false
theorem eqB_eq {a b : ABlk} (h : eqB a b = true) : a = b := by
  unfold eqB at h
  split at h
  · simp only [Bool.and_eq_true] at h
    rw [Nat.eq_of_beq_eq_true h.1, eqT_eq h.2.1, Nat.eq_of_beq_eq_true h.2.2]
  · simp only [Bool.and_eq_true] at h
    rw [eqEs_eq h.1, Nat.eq_of_beq_eq_true h.2]
  · rw [eqA_eq h]
  · rw [eq_of_beq h]
  · cases h
noncomputable def mkB (l : List (Nat × ABlk)) : Tr ABlk := List.rec (motive := fun _ => Tr ABlk) .nil (fun p _ ih => ih.putR p.1 (some p.2)) l
noncomputable def mkK (l : List (Nat × ABlk)) (n : Nat) : AHeap := { blks := mkB l, next := n, lo := 0, log := [] }
theorem mkB_get : ∀ {l : List (Nat × ABlk)} {i : Nat} {b : ABlk}, (mkB l).get i = some b → (i, b) ∈ l
  | [], i, b, h => by
    have : (Tr.nil : Tr ABlk).get i = some b := h
    rw [Tr.get_nil] at this; cases this
  | (j, c) :: l, i, b, h => by
    have : ((mkB l).putR j (some c)).get i = some b := h
    rw [Tr.putR_eq, Tr.get_put] at this
    split at this
    · rename_i e; cases this; subst e; exact List.mem_cons_self ..
    · exact List.mem_cons_of_mem _ (mkB_get this)
noncomputable def subB (l : List (Nat × ABlk)) (t : Tr ABlk) : Bool := List.rec (motive := fun _ => Bool) true (fun p _ ih => match t.getR p.1 with
  | some b => eqB b p.2 && ih
  | none => false) l
theorem subB_mem {t : Tr ABlk} : ∀ {l : List (Nat × ABlk)}, subB l t = true → ∀ p ∈ l, t.get p.1 = some p.2
  | [], _, _, h => by cases h
  | q :: l, h, p, hp => by
    have h : (match t.getR q.1 with | some b => eqB b q.2 && subB l t | none => false) = true := h
    rw [Tr.getR_eq] at h
    cases e : t.get q.1 with
    | none => simp only [e] at h; cases h
    | some b =>
      simp only [e] at h
      obtain ⟨h1, h2⟩ := Bool.and_eq_true_iff.1 h
      rcases List.mem_cons.1 hp with rfl | hp
      · rw [e, eqB_eq h1]
      · exact subB_mem h2 p hp
/-- the first statements of a list of statements, and the rest -/
def splitS : Nat → Code → List Code × Code
  | k + 1, .seq a b => (a :: (splitS k b).1, (splitS k b).2)
  | _, c => ([], c)
noncomputable def runL (P : Program) (X : Told) (n nt : Nat) : List Code → Tmps → M Tmps
  | [], T => ret T
  | c :: cs, T => bd (runR P X n (.code nt none c T [])) fun o => match o with
    | .exit .nrm T [] => runL P X n nt cs T
    | _ => fail
def epi (P : Program) (X : Told) (n : Nat) (fn : Func) (o : Out) : M Out := match o with
  | .exit e T ms => match e with
    | .exit _ => fail
    | _ => bd (takeMarks P (run P X n) ms) fun _ => bd (resultsA P T fn.results.toList) fun vs => ret (.val (oneV vs))
  | _ => fail
def endF (P : Program) (X : Told) (fn : Func) (n : Nat) (c : Code) (T : Tmps) : M Out := bd (run P X n (.code fn.ntmps none c T [])) (epi P X n fn)
theorem fr_runL (hX : FrX X) (n nt : Nat) : ∀ (cs : List Code) (T : Tmps), Fr (runL P X n nt cs T)
  | [], _ => fr_ret _
  | c :: cs, T => fr_bd (by rw [runR_eq]; exact fr_run P hX n _) fun o => by
    split
    · exact fr_runL hX n nt cs _
    · exact fr_fail
theorem fr_epi (hX : FrX X) (n : Nat) (fn : Func) (o : Out) : Fr (epi P X n fn o) := by
  unfold epi
  split
  · split
    · exact fr_fail
    · exact fr_bd (fr_takeMarks P (fr_run P hX n) _) fun _ => fr_bd (fr_resultsA P _ _) fun _ => fr_ret _
  · exact fr_fail
theorem fr_endF (hX : FrX X) (fn : Func) (n : Nat) (c : Code) (T : Tmps) : Fr (endF P X fn n c T) := fr_bd (fr_run P hX n _) fun _ => fr_epi hX n fn _
theorem mono_endF (fn : Func) (c : Code) (T : Tmps) : Mono fun n => endF P X fn n c T := mono_of fun n => LeM.bd (le_run n _) fun o => by
  unfold epi
  split
  · split
    · exact LeM.refl _
    · exact LeM.bd (le_takeMarks (le_run n) _) fun _ => LeM.refl _
  · exact LeM.refl _
def Good (P : Program) (X : Told) (fn : Func) (c : Code) (T : Tmps) (K : AHeap) : Prop := ∀ H, Cov K H → ∃ n H1, endF P X fn n c T H = some (.val (.bool true), H1)
theorem runL_seq {fn : Func} {n : Nat} {r : Out × AHeap} {T1 : Tmps} {H1 : AHeap} : ∀ (k : Nat) (c : Code) (T : Tmps) (H : AHeap), runL P X n fn.ntmps (splitS k c).1 T H = some (T1, H1) → (∃ n2, endF P X fn n2 (splitS k c).2 T1 H1 = some r) → ∃ n3, endF P X fn n3 c T H = some r := by
  intro k
  induction k with
  | zero =>
    intro c T H h he
    have e : splitS 0 c = ([], c) := by unfold splitS; rfl
    rw [e] at h he
    cases h
    exact he
  | succ k ih =>
    intro c T H h he
    by_cases hs : ∃ a b, c = .seq a b
    · obtain ⟨a, b, rfl⟩ := hs
      have e : splitS (k + 1) (.seq a b) = (a :: (splitS k b).1, (splitS k b).2) := by rw [splitS]
      rw [e] at h he
      obtain ⟨o, Ha, h1, h2⟩ := bd_some (H := H) h
      rw [runR_eq] at h1
      split at h2
      · rename_i Ta
        obtain ⟨n3, h3⟩ := ih b Ta Ha h2 he
        have m1 := mono_run (P := P) (X := X) (.code fn.ntmps none a T []) n (max n n3) H _ (Nat.le_max_left _ _) h1
        have m2 := mono_endF (P := P) (X := X) fn b Ta n3 (max n n3) Ha _ (Nat.le_max_right _ _) h3
        have m3 := mono_endF (P := P) (X := X) fn b Ta n3 (max n n3 + 1) Ha _ (by omega) h3
        refine ⟨max n n3 + 1, ?_⟩
        obtain ⟨o2, Hb, m4, m5⟩ := bd_some (H := Ha) m2
        have m6 : run P X (max n n3 + 1) (.code fn.ntmps none (.seq a b) T []) H = some (o2, Hb) := by
          show bd (run P X (max n n3) (.code fn.ntmps none a T [])) (fun o => match o with
            | .exit .nrm T ms => run P X (max n n3) (.code fn.ntmps none b T ms)
            | o => ret o) H = _
          unfold bd
          simp only at m1
          rw [m1]
          exact m4
        have m7 : epi P X (max n n3 + 1) fn o2 Hb = some r := by
          obtain ⟨o3, Hc, m8, m9⟩ := bd_some (H := Ha) m3
          have := mono_run (P := P) (X := X) (.code fn.ntmps none b Ta []) (max n n3) (max n n3 + 1) Ha _ (by omega) m4
          simp only at this
          rw [m8] at this
          cases this
          exact m9
        show bd (run P X (max n n3 + 1) (.code fn.ntmps none (.seq a b) T [])) (epi P X (max n n3 + 1) fn) H = some r
        unfold bd
        rw [m6]
        exact m7
      · exact (fail_some h2).elim
    · have e : splitS (k + 1) c = ([], c) := by
        cases c <;> first | (exact absurd ⟨_, _, rfl⟩ hs) | rfl
      rw [e] at h he
      cases h
      exact he
noncomputable def chk (P : Program) (X : Told) (n nt : Nat) (cs : List Code) (T : Tmps) (K : AHeap) (T2 : Tmps) (l : List (Nat × ABlk)) (nx : Nat) : Bool := match runL P X n nt cs T K with
  | some (T1, K1) => eqT T1 T2 && (Nat.beq K1.next nx && (Nat.beq K1.lo 0 && subB l K1.blks))
  | none => false
theorem Good.cut (hX : FrX X) {fn : Func} {c : Code} {T T2 : Tmps} {K : AHeap} {l : List (Nat × ABlk)} {nx n k : Nat} (h : chk P X n fn.ntmps (splitS k c).1 T K T2 l nx = true) (g : Good P X fn (splitS k c).2 T2 (mkK l nx)) : Good P X fn c T K := by
  intro H hc
  unfold chk at h
  split at h
  · rename_i T1 K1 e
    simp only [Bool.and_eq_true] at h
    obtain ⟨h1, h2, h3, h4⟩ := h
    have h1 := eqT_eq h1
    subst h1
    obtain ⟨H1, e1, c1⟩ := (fr_runL hX n fn.ntmps _ T).cov e hc
    have c2 : Cov (mkK l nx) H1 := ⟨by rw [c1.next]; exact Nat.eq_of_beq_eq_true h2, by
      have := c1.lo; rw [Nat.eq_of_beq_eq_true h3] at this; exact this, fun i b hi => c1.sub i b (subB_mem h4 (i, b) (mkB_get hi)), c1.top⟩
    obtain ⟨n2, H2, e2⟩ := g H1 c2
    obtain ⟨n3, e3⟩ := runL_seq k c T H e1 ⟨n2, e2⟩
    exact ⟨n3, H2, e3⟩
  · cases h
noncomputable def endR (P : Program) (X : Told) (fn : Func) (n : Nat) (c : Code) (T : Tmps) (K : AHeap) : Bool := match runR P X n (.code fn.ntmps none c T []) K with
  | some (.exit e T ms, K1) => (match e with
    | .exit _ => false
    | _ => match ms with
      | [] => isTrue (bd (resultsA P T fn.results.toList) (fun vs => ret (.val (oneV vs))) K1)
      | _ => false)
  | _ => false
theorem Good.last (hX : FrX X) {fn : Func} {c : Code} {T : Tmps} {K : AHeap} {n : Nat} (h : endR P X fn n c T K = true) : Good P X fn c T K := by
  intro H hc
  have : ∃ K1, endF P X fn n c T K = some (.val (.bool true), K1) := by
    unfold endR at h
    rw [runR_eq] at h
    split at h
    · rename_i e T ms K1 q
      unfold endF bd
      rw [q]
      cases e with
      | exit _ => cases h
      | nrm =>
        cases ms with
        | cons _ _ => cases h
        | nil => exact isTrue_spec h
      | ret =>
        cases ms with
        | cons _ _ => cases h
        | nil => exact isTrue_spec h
    · cases h
  obtain ⟨K1, e⟩ := this
  obtain ⟨H1, e1, _⟩ := (fr_endF hX fn n c T).cov e hc
  exact ⟨n, H1, e1⟩
theorem good_call {f : FuncId} {fn : Func} {c : Code} (hX : X f = none) (hf : P.funcs[f]? = some fn) (hb : fn.body = some c) {args : List AVal} (hl : Nat.ble args.length fn.ntmps = true) (g : Good P X fn c (Tr.ofListAt .nil 0 args) empty) : ∃ n, isTrue (runR P X n (.call f args) empty) = true := by
  obtain ⟨n, H1, e⟩ := g empty ⟨rfl, Nat.le_refl _, fun _ _ h => h, fun i _ => Tr.get_nil i⟩
  refine ⟨n + 1, ?_⟩
  rw [runR_eq]
  have : run P X (n + 1) (.call f args) = runCall P (run P X n) f args := by
    show (match X f with
      | some g => bd (g args) fun v => ret (Out.val v)
      | none => runCall P (run P X n) f args) = _
    rw [hX]
  rw [this]
  unfold runCall
  simp only [hf, hb, hl, cond_true]
  obtain ⟨o, H2, q1, q2⟩ := bd_some (H := empty) e
  unfold bd
  rw [q1]
  cases o with
  | exit e T ms =>
    cases e with
    | exit _ => cases q2
    | nrm => exact congrArg isTrue q2
    | ret => exact congrArg isTrue q2
  | val _ => cases q2
end Go.AM
