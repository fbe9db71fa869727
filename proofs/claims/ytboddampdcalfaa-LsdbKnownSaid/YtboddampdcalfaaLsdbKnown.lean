/- The law LsdbKnown returns true for every input, and each argument reads afterwards as it read before. No condition. The calculation never looks into an argument. -/
import Derived.Test.YtboddampdcalfaaRows
import Derived.Test.YtboddampdcalfaaS
namespace Go.Proofs.Ytboddampdcalfaa
open Go.ChangeShapes Go.WideShapes Go.ChangeAt Go.RowKit
set_option linter.unusedVariables false
set_option maxRecDepth 100000 in
theorem lsdbKnown_mixed : Try.prog.follows .mixedOrders = true := by kernel_rfl
set_option maxRecDepth 100000 in
theorem lsdbKnown_plain : AM.noNumB Try.prog = true := by kernel_rfl
theorem lsdbKnown_ext0 : AM.ExtOK Try.prog (AM.sortedX 3 52 [(53, 66, 79)]) := AM.sortedX_ok sortedOK
theorem lsdbKnown_ext : AM.ExtOK Try.prog (AM.sortedX 3 52 [(53, 66, 79)]) := lsdbKnown_ext0
set_option maxRecDepth 100000 in
theorem lsdbKnown_run : AM.isTrue (AM.runR Try.prog (AM.sortedX 3 52 [(53, 66, 79)]) 100000 (.call 4 (AM.opqs Try.prog [] 1)) AM.empty) = true := by kernel_rfl
theorem lsdbKnown_types : ([].all fun t => AM.plainT Try.prog 40 t) = true := by kernel_rfl
theorem lsdbKnown_own : ownKnob Try.prog.godebug = none := by kernel_rfl
set_option maxRecDepth 100000 in
theorem lsdbKnown_lifted (os : Os) (started : os.Started) (H : Type) (enc : TypeId × Value → H) :
    ReturnsInHanded {} Try.checked os 4 .any (Rows.lsdbKnownSpec.pre6 enc Try.prog Try.f4 Rows.lsdbKnownRow.domain false) (Rows.lsdbKnownSpec.post enc Try.prog Try.f4 false true false false) := by
  refine returnsInHanded_of_change (C := Try.checked) lsdbKnown_own started (by kernel_rfl) Try.func4
    (ChangeSpec.witness6 (enc := enc) (C := Try.checked) false ⟨#[], #[], []⟩ 8 (by kernel_rfl) (by kernel_rfl) (by kernel_rfl) (by kernel_rfl)) ?_
  intro W base args ds gs before hval0 hW hcnd _
  have hval : ∀ (j : Nat) t v, Try.f4.params[j]? = some t → args[j]? = some v → Value.okWide Try.prog W .any base t v := hval0
  have hW' := hW
  obtain ⟨p, q, hA0, hV, rfl, hfz, hnd⟩ := hW
  have hA : DataW.TrodAll enc Try.prog W 0 (fun _ => true) true Try.f4.params.toList args.toList ds p := hA0
  rw [Try.params4] at hA hval
  have hA : DataW.TrodAll enc Try.prog W 0 (fun _ => true) true [] args.toList ds p := hA
  obtain ⟨rfl, rfl⟩ := trodVars_none hV
  clear hA0 hval0 hV
  have hA2 := hA
  obtain ⟨_, rfl, rfl⟩ := trodAll_nil hA2
  refine (AM.law_of_anyX (ts := []) lsdbKnown_mixed lsdbKnown_plain lsdbKnown_ext 100000 40 lsdbKnown_types lsdbKnown_run hA fun j t v h1 h2 => hval j t v (by simp at h1) h2).mono fun e W' ⟨he, hg⟩ => ?_
  subst he
  exact ⟨_, rfl, AM.post_of_below (pv := []) hW' hg (fun _ _ _ => (trodAll_cons_mk (shut_bool Try.underlying4 _) trodAll_mk0)) (fun sp hsp => AM.trodAll_keep hg sp 40 [] _ _ _ lsdbKnown_types hA fun x hx => hsp x (by simp at hx)) (fun _ _ => rfl) rfl
    (ok_one (by kernel_rfl) rfl (okWide_bool_mk Try.underlying4 _))⟩
theorem lsdbKnown_proved : Rows.LsdbKnownSaid :=
  OpenClaim.holds_of_wide 4 Try.f4 rfl rfl rfl rfl rfl rfl rfl ⟨rfl, rfl, rfl, rfl, rfl⟩ rfl rfl rfl rfl rfl (by kernel_rfl) Try.func4 (by kernel_rfl)
    (of_decide_eq_true (by kernel_rfl)) (by unfold Func.isWrapper; first | (rw [if_pos (by decide +kernel)]; kernel_rfl) | (rw [if_neg (by decide +kernel)]; exact ⟨rfl, rfl⟩))
    (fun os started H enc _ => lsdbKnown_lifted os started H enc)
#print axioms lsdbKnown_proved
end Go.Proofs.Ytboddampdcalfaa
