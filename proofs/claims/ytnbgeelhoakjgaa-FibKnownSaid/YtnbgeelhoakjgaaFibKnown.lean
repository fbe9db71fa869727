/- The law FibKnown returns true for every input, and each argument reads afterwards as it read before. No condition. The calculation never looks into an argument. -/
import Derived.Test.YtnbgeelhoakjgaaRows
import Derived.Test.YtnbgeelhoakjgaaU2
namespace Go.Proofs.Ytnbgeelhoakjgaa
open Go.ChangeShapes Go.WideShapes Go.ChangeAt Go.RowKit
set_option linter.unusedVariables false
set_option maxRecDepth 100000 in
theorem fibKnown_mixed : Try.prog.follows .mixedOrders = true := by kernel_rfl
set_option maxRecDepth 100000 in
theorem fibKnown_plain : AM.noNumB Try.prog = true := by kernel_rfl
theorem fibKnown_ext0 : AM.ExtOK Try.prog (AM.noExt) := AM.extOK_none
set_option maxRecDepth 100000 in
theorem fibKnown_told9 : AM.isTrue (AM.runR Try.prog (AM.noExt) 100000 (.call 9 []) AM.empty) = true := by kernel_rfl
theorem fibKnown_ext : AM.ExtOK Try.prog (AM.orX (AM.closedX [9]) (AM.noExt)) := AM.orX_ok (AM.closedX_okX fibKnown_mixed fibKnown_plain fibKnown_ext0 _ (fun f hf => by simp only [List.mem_singleton] at hf; subst hf; exact ⟨100000, fibKnown_told9⟩)) fibKnown_ext0
set_option maxRecDepth 100000 in
theorem fibKnown_run : AM.isTrue (AM.runR Try.prog (AM.orX (AM.closedX [9]) (AM.noExt)) 100000 (.call 4 (AM.opqs Try.prog [] 1)) AM.empty) = true := by kernel_rfl
theorem fibKnown_types : ([].all fun t => AM.plainT Try.prog 40 t) = true := by kernel_rfl
theorem fibKnown_own : ownKnob Try.prog.godebug = none := by kernel_rfl
set_option maxRecDepth 100000 in
theorem fibKnown_lifted (os : Os) (started : os.Started) (H : Type) (enc : TypeId × Value → H) :
    ReturnsInHanded {} Try.checked os 4 .any (Rows.fibKnownSpec.pre6 enc Try.prog Try.f4 Rows.fibKnownRow.domain false) (Rows.fibKnownSpec.post enc Try.prog Try.f4 false true false false) := by
  refine returnsInHanded_of_change (C := Try.checked) fibKnown_own started (by kernel_rfl) Try.func4
    (ChangeSpec.witness6 (enc := enc) (C := Try.checked) false ⟨#[], #[], []⟩ 8 (by kernel_rfl) (by kernel_rfl) (by kernel_rfl) (by kernel_rfl)) ?_
  intro W base args ds gs before hval0 hW hcnd _
  have hval : ∀ (j : Nat) t v, Try.f4.params[j]? = some t → args[j]? = some v → Value.okWide Try.prog W .any base t v := hval0
  have hW' := hW
  obtain ⟨p, q, hA0, hV, rfl, hfz, hnd⟩ := hW
  have hA : DataW.TrodAll enc Try.prog W 0 (fun _ => true) true Try.f4.params.toList args.toList ds p := hA0
  rw [Try.params4] at hA hval
  have hA : DataW.TrodAll enc Try.prog W 0 (fun _ => true) true [] args.toList ds p := hA
  obtain ⟨rfl, rfl⟩ := trodVars_none hV
  clear hA0 hval0 hV
  have hA2 := hA
  obtain ⟨_, rfl, rfl⟩ := trodAll_nil hA2
  refine (AM.law_of_anyX (ts := []) fibKnown_mixed fibKnown_plain fibKnown_ext 100000 40 fibKnown_types fibKnown_run hA fun j t v h1 h2 => hval j t v (by simp at h1) h2).mono fun e W' ⟨he, hg⟩ => ?_
  subst he
  exact ⟨_, rfl, AM.post_of_below (pv := []) hW' hg (fun _ _ _ => (trodAll_cons_mk (shut_bool Try.underlying4 _) trodAll_mk0)) (fun sp hsp => AM.trodAll_keep hg sp 40 [] _ _ _ fibKnown_types hA fun x hx => hsp x (by simp at hx)) (fun _ _ => rfl) rfl
    (ok_one (by kernel_rfl) rfl (okWide_bool_mk Try.underlying4 _))⟩
theorem fibKnown_proved : Rows.FibKnownSaid :=
  OpenClaim.holds_of_wide 4 Try.f4 rfl rfl rfl rfl rfl rfl rfl ⟨rfl, rfl, rfl, rfl, rfl⟩ rfl rfl rfl rfl rfl (by kernel_rfl) Try.func4 (by kernel_rfl)
    (of_decide_eq_true (by kernel_rfl)) (by unfold Func.isWrapper; first | (rw [if_pos (by decide +kernel)]; kernel_rfl) | (rw [if_neg (by decide +kernel)]; exact ⟨rfl, rfl⟩))
    (fun os started H enc _ => fibKnown_lifted os started H enc)
#print axioms fibKnown_proved
end Go.Proofs.Ytnbgeelhoakjgaa
