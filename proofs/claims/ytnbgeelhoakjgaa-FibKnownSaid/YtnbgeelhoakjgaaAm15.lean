/- Part 15 of a calculation in a small memory that is proved to answer as the program does: see the last part. -/
import Derived.Test.YtnbgeelhoakjgaaAm14
namespace Go.AM
open Go Go.RowKit

section
variable {P : Program} {σ : Nat → Value} {ρ : Ren} {base : Nat} {H H' : AHeap} {w : World} {nt : Nat} {T : Tmps} {a : Act}
def okNil : Value → Bool
  | .pointer none | .nilIface | .nilFunc => false
  | .func (.method _) _ _ => false
  | _ => true
theorem nilCheck_okNil {x v : AVal} {x' : Value} (h : nilCheckA x = some v) (hx : Rel σ ρ x x') : v = x ∧ okNil x' = true := by
  have hv : v = x := by
    unfold nilCheckA at h
    split at h <;> first | (cases h; done) | (cases h; rfl)
  subst hv
  refine ⟨rfl, ?_⟩
  cases v
  case fn f as bs =>
    unfold Rel at hx
    obtain ⟨as', bs', rfl, _⟩ := hx
    cases f <;> first | rfl | (simp [nilCheckA] at h; done)
  all_goals (unfold Rel at hx; first
    | (simp [nilCheckA] at h; done)
    | (subst hx; rfl)
    | (obtain ⟨_, _, rfl⟩ := hx; rfl)
    | (obtain ⟨_, _, _, _, rfl, _⟩ := hx; rfl)
    | (obtain ⟨_, rfl, _⟩ := hx; rfl))
theorem nil_exec {y : Operand} {dst : Option Tmp} {type : TypeId} {pos : String} {after : Array Edge} {guard : Option (Nat × Bool)} (h : okNil (a.eval y) = true) (w : World) :
    (execOp a.eval { dst, op := .nilCheck y, type, pos, after, guard }).run P w = .ok (.value (a.eval y)) w := by
  simp only [execOp]
  generalize a.eval y = x' at *
  cases x' with
  | pointer q => cases q <;> first | rfl | (simp [okNil] at h; done)
  | func f as bs => cases f <;> first | rfl | (simp [okNil] at h; done)
  | _ => first | rfl | (simp [okNil] at h; done)
/-- a pure operation -/
theorem pure_ok {o : Option AVal} {x : ANext} {s : Sem Value} (h : bd (lift o) (fun x => ret (ANext.val x)) H = some (x, H')) (hwr : WR σ ρ base H w)
    (hs : ∀ v, o = some v → ∃ v', s.run P w = .ok v' w ∧ Rel σ ρ v v') : OkayN P σ ρ base H H' w x ((do pure (.value (← s)) : Sem Next).run P w) := by
  obtain ⟨v, K, h1, h2⟩ := bd_some h
  obtain ⟨v', hv, e⟩ := lift_some h1
  cases e
  cases ret_some h2
  obtain ⟨u, e, r⟩ := hs v hv
  exact .pure e r hwr
theorem val_ok {m : M AVal} {x : ANext} {s : Sem Value} (h : bd m (fun x => ret (ANext.val x)) H = some (x, H'))
    (hs : ∀ v, m H = some (v, H') → Okay σ ρ base H H' w (fun ρ' v' => Rel σ ρ' v v') (s.run P w)) : OkayN P σ ρ base H H' w x ((do pure (.value (← s)) : Sem Next).run P w) := by
  obtain ⟨v, K, h1, h2⟩ := bd_some h
  cases ret_some h2
  exact .of_val (hs v h1)
theorem op_ok {o : Oper} {x : ANext} (hname : NoNum P) (h : opA P T o.op H = some (x, H')) (hT : TRel σ ρ nt T a.tmps) (hσ : One σ) (hwr : WR σ ρ base H w) (hf : Free ρ H.next H'.next) :
    OkayN P σ ρ base H H' w x ((execOp a.eval o).run P w) := by
  obtain ⟨dst, op, type, pos, after, guard⟩ := o
  simp only at h
  unfold opA at h
  cases op <;> simp only [execOp] at h ⊢ <;> try (exact (fail_some h).elim)
  case move y =>
    generalize hy : ev T y = v at h
    cases v with
    | none => exact (fail_some h).elim
    | some v =>
      obtain ⟨_, K, h1, h2⟩ := bd_some h
      cases ret_some h1; cases ret_some h2
      exact ⟨_, w, ρ, rfl, .refl _ _ _, hwr, .refl _ _, .inl ⟨_, rfl, ev_rel hy hT⟩⟩
  case assign y =>
    generalize hy : ev T y = v at h
    cases v with
    | none => exact (fail_some h).elim
    | some v =>
      obtain ⟨_, K, h1, h2⟩ := bd_some h
      cases ret_some h1; cases ret_some h2
      exact ⟨_, w, ρ, rfl, .refl _ _ _, hwr, .refl _ _, .inl ⟨_, rfl, ev_rel hy hT⟩⟩
  case pick c y z =>
    generalize hc : ev T c = v at h
    split at h
    · rename_i t
      have hcr := ev_rel (a := a) hc hT
      unfold Rel at hcr
      cases t with
      | true =>
        simp only [cond_true] at h
        generalize hy : ev T y = v at h
        cases v with
        | none => exact (fail_some h).elim
        | some v =>
          obtain ⟨_, K, h1, h2⟩ := bd_some h
          cases ret_some h1; cases ret_some h2
          exact ⟨_, w, ρ, by simp [hcr, asBool], .refl _ _ _, hwr, .refl _ _, .inl ⟨_, rfl, ev_rel hy hT⟩⟩
      | false =>
        simp only [cond_false] at h
        generalize hy : ev T z = v at h
        cases v with
        | none => exact (fail_some h).elim
        | some v =>
          obtain ⟨_, K, h1, h2⟩ := bd_some h
          cases ret_some h1; cases ret_some h2
          exact ⟨_, w, ρ, by simp [hcr, asBool], .refl _ _ _, hwr, .refl _ _, .inl ⟨_, rfl, ev_rel hy hT⟩⟩
    · exact (fail_some h).elim
  case alloc t => exact val_ok h fun v hv => alloc_ok hv hσ hwr hf
  case box t y =>
    generalize hy : ev T y = v at h
    cases v with
    | none => exact (fail_some h).elim
    | some v => exact val_ok h fun u hu => box_ok hu (ev_rel hy hT) hσ hwr hf
  case build t ps =>
    generalize hy : evParts T ps.toList = v at h
    cases v with
    | none => exact (fail_some h).elim
    | some l => exact pure_ok h hwr fun v hv => build_run hv (by simpa using evParts_rel (a := a) hy hT) hσ w
  case buildSlice t n ps =>
    generalize hy : evParts T ps.toList = v at h
    cases v with
    | none => exact (fail_some h).elim
    | some l => exact val_ok h fun v hv => buildSlice_ok hv (by simpa using evParts_rel (a := a) hy hT) hσ hwr hf
  case load t y =>
    generalize hy : ev T y = v at h
    cases v with
    | none => exact (fail_some h).elim
    | some v =>
      refine val_ok h fun u hu => ?_
      have hr := ev_rel (a := a) hy hT
      split at hu
      · rename_i b o
        unfold Rel at hr
        obtain ⟨L, hL, he⟩ := hr
        obtain ⟨e1, e2, e3, v', e, r⟩ := loadA_ok (P := P) hu hwr hL
        exact .same (by simp [Instr.loadAt, he, Instr.sureAddr, e]) hwr e1 e2 r
      · exact (fail_some hu).elim
  case store t y z =>
    generalize hy : ev T y = v at h
    generalize hz : ev T z = u at h
    cases v with
    | none => exact (fail_some h).elim
    | some v =>
      cases u with
      | none => exact (fail_some h).elim
      | some u =>
        obtain ⟨_, K, h1, h2⟩ := bd_some h
        cases ret_some h2
        have hr := ev_rel (a := a) hy hT
        have hq := ev_rel (a := a) hz hT
        unfold storeA at h1
        split at h1
        · rename_i b o
          generalize hs : sz P t = n at h1
          cases n with
          | none => exact (fail_some h1).elim
          | some n =>
            obtain ⟨hl, h3⟩ := cond_some h1
            have hl := Nat.eq_of_beq_eq_true hl
            unfold Rel at hr
            obtain ⟨L, hL, he⟩ := hr
            have hcs := rel_cells hσ hq
            obtain ⟨n1, l1, w', s1, s2, s3⟩ := storeCellsA_ok (P := P) h3 hσ hwr hL hcs
            have hsize : (a.eval z).cells.size = n := by have := hcs.length; simp at this; omega
            exact ⟨.skip, w', ρ, by simp [Instr.storeAt, he, Instr.sureAddr, storeVar, sz_run hs, hsize, s1], .refl _ _ _, s2, s3, .inr ⟨rfl, rfl⟩⟩
        · exact (fail_some h1).elim
  case nilCheck y =>
    generalize hy : ev T y = v at h
    cases v with
    | none => exact (fail_some h).elim
    | some v =>
      obtain ⟨u, K, h1, h2⟩ := bd_some h
      obtain ⟨u', hu, e⟩ := lift_some h1
      cases e
      cases ret_some h2
      obtain ⟨rfl, r⟩ := nilCheck_okNil hu (ev_rel (a := a) hy hT)
      exact ⟨_, w, ρ, nil_exec (dst := dst) (type := type) (pos := pos) (after := after) (guard := guard) r w, .refl _ _ _, hwr, .refl _ _, .inl ⟨_, rfl, ev_rel hy hT⟩⟩
  case binOp op t y z t2 =>
    generalize hy : ev T y = v at h
    generalize hz : ev T z = u at h
    cases v with
    | none => exact (fail_some h).elim
    | some v =>
      cases u with
      | none => exact (fail_some h).elim
      | some u => exact pure_ok h hwr fun r hr => binA_run hr (ev_rel hy hT) (ev_rel hz hT) w
  case unOp op t y =>
    generalize hy : ev T y = v at h
    cases v with
    | none => exact (fail_some h).elim
    | some v => exact pure_ok h hwr fun r hr => unary_run hr (ev_rel hy hT) w
  case convert s d y =>
    generalize hy : ev T y = v at h
    cases v with
    | none => exact (fail_some h).elim
    | some v => exact pure_ok h hwr fun r hr => convert_run hr (ev_rel hy hT) w
  case makeInterface t y =>
    generalize hy : ev T y = v at h
    cases v with
    | none => exact (fail_some h).elim
    | some v => exact pure_ok h hwr fun r hr => makeIface_run hr (ev_rel hy hT) w
  case makeFunc f fs cs =>
    have key : ∀ g : Fn, (match evs T fs.toList, evs T cs.toList with
        | some a, some b => ret (ANext.val (.fn g a b))
        | _, _ => fail) H = some (x, H') → OkayN P σ ρ base H H' w x ((do pure (.value (← Instr.makeFunc g (fs.map a.eval) (cs.map a.eval))) : Sem Next).run P w) := by
      intro g h
      generalize h1 : evs T fs.toList = l1 at h
      generalize h2 : evs T cs.toList = l2 at h
      cases l1 with
      | none => exact (fail_some h).elim
      | some l1 =>
        cases l2 with
        | none => exact (fail_some h).elim
        | some l2 =>
          cases ret_some h
          have r1 := evs_rel (a := a) h1 hT
          have r2 := evs_rel (a := a) h2 hT
          exact .pure (v' := .func g (fs.map a.eval) (cs.map a.eval)) rfl (by unfold Rel; exact ⟨_, _, rfl, by simpa using r1, by simpa using r2⟩) hwr
    cases f with
    | func k => exact key _ h
    | method n => exact key _ h
    | _ => exact (fail_some h).elim
  case makeSlice t y z =>
    generalize hy : ev T y = v at h
    generalize hz : ev T z = u at h
    cases v with
    | none => exact (fail_some h).elim
    | some v =>
      cases u with
      | none => exact (fail_some h).elim
      | some u => exact val_ok h fun r hr => makeSlice_ok hr (ev_rel hy hT) (ev_rel hz hT) hσ hwr hf
  case slice t y lo hi mx =>
    generalize hy : ev T y = v at h
    generalize hlo : opt T lo = o1 at h
    generalize hhi : opt T hi = o2 at h
    generalize hmx : opt T mx = o3 at h
    cases v with
    | none => exact (fail_some h).elim
    | some v =>
      cases o1 with
      | none => exact (fail_some h).elim
      | some o1 =>
        cases o2 with
        | none => exact (fail_some h).elim
        | some o2 =>
          cases o3 with
          | none => exact (fail_some h).elim
          | some o3 => exact val_ok h fun r hr => sliceM_ok hr (ev_rel hy hT) (opt_rel hlo hT) (opt_rel hhi hT) (opt_rel hmx hT) hwr
  case fieldAddr s y f =>
    generalize hy : ev T y = v at h
    cases v with
    | none => exact (fail_some h).elim
    | some v => exact pure_ok h hwr fun r hr => fieldAddr_run hr (ev_rel hy hT) w
  case field s y f =>
    generalize hy : ev T y = v at h
    cases v with
    | none => exact (fail_some h).elim
    | some v => exact pure_ok h hwr fun r hr => field_run hr (ev_rel hy hT) w
  case indexAddr t y z =>
    generalize hy : ev T y = v at h
    generalize hz : ev T z = u at h
    cases v with
    | none => exact (fail_some h).elim
    | some v =>
      cases u with
      | none => exact (fail_some h).elim
      | some u => exact pure_ok h hwr fun r hr => indexAddr_run hr (ev_rel hy hT) (ev_rel hz hT) w
  case index t y z =>
    generalize hy : ev T y = v at h
    generalize hz : ev T z = u at h
    cases v with
    | none => exact (fail_some h).elim
    | some v =>
      cases u with
      | none => exact (fail_some h).elim
      | some u => exact pure_ok h hwr fun r hr => index_run hr (ev_rel hy hT) (ev_rel hz hT) w
  case typeAssert y t as_ ok =>
    generalize hy : ev T y = v at h
    cases v with
    | none => exact (fail_some h).elim
    | some v => exact pure_ok h hwr fun r hr => typeAssert_run hr (ev_rel hy hT) w
  case extract y i =>
    generalize hy : ev T y = v at h
    cases v with
    | none => exact (fail_some h).elim
    | some v => exact pure_ok h hwr fun r hr => extract_run hr (ev_rel hy hT) w
  case makeMap t r =>
    generalize hu : P.underlying t = d at h
    generalize ho : opt T r = o at h
    have hr := fun o1 (e : o = some o1) => opt_rel (a := a) (ho.trans e) hT
    split at h
    · have := hr _ rfl
      cases r with
      | none => exact val_ok h fun v hv => makeMap_ok hv hwr hf t none (fun x hx => by cases hx)
      | some y => cases this
    · have := hr _ rfl
      cases r with
      | none => cases this
      | some y =>
        cases this
        rename_i q
        unfold Rel at q
        exact val_ok h fun v hv => makeMap_ok hv hwr hf t _ (fun x hx => by cases hx; exact ⟨_, _, _, _, q, hu⟩)
    · exact (fail_some h).elim
  case lookup t y z ok =>
    generalize hy : ev T y = v at h
    generalize hz : ev T z = u at h
    cases v with
    | none => exact (fail_some h).elim
    | some v =>
      cases u with
      | none => exact (fail_some h).elim
      | some u => exact val_ok h fun r hr => lookup_ok hr (ev_rel hy hT) (ev_rel hz hT) hwr
  case mapUpdate t m k y =>
    generalize hm : ev T m = v1 at h
    generalize hk : ev T k = v2 at h
    generalize hy : ev T y = v3 at h
    cases v1 with
    | none => exact (fail_some h).elim
    | some v1 =>
      cases v2 with
      | none => exact (fail_some h).elim
      | some v2 =>
        cases v3 with
        | none => exact (fail_some h).elim
        | some v3 =>
          obtain ⟨_, K, h1, h2⟩ := bd_some h
          cases ret_some h2
          obtain ⟨n1, l1, w', s1, s2, s3⟩ := mapUpdate_ok h1 (ev_rel hm hT) (ev_rel hk hT) (ev_rel hy hT) hwr
          exact ⟨.skip, w', ρ, by simp [s1], .refl _ _ _, s2, s3, .inr ⟨rfl, rfl⟩⟩
  case range t y =>
    generalize hy : ev T y = v at h
    cases v with
    | none => exact (fail_some h).elim
    | some v => exact val_ok h fun u hu => range_ok hu (ev_rel hy hT) hwr hf
  case entry y =>
    generalize hy : ev T y = v at h
    cases v with
    | none => exact (fail_some h).elim
    | some v => exact val_ok h fun u hu => entry_ok hu (ev_rel hy hT) hwr
  case call c => exact call_ok hname h hT hσ hwr hf
end
end Go.AM
