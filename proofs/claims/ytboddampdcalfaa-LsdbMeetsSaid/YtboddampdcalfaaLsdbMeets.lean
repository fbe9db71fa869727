/- The law LsdbMeets returns true for every input, and each argument reads afterwards as it read before. No condition. -/
import Derived.Test.YtboddampdcalfaaRows
import Derived.Test.YtboddampdcalfaaD
namespace Go.Proofs.Ytboddampdcalfaa
open Go.ChangeShapes Go.WideShapes Go.ChangeAt Go.RowKit
set_option linter.unusedVariables false
set_option maxRecDepth 100000 in
theorem lsdbMeets_mixed : Try.prog.follows .mixedOrders = true := by kernel_rfl
set_option maxRecDepth 100000 in
theorem lsdbMeets_plain : AM.noNumB Try.prog = true := by kernel_rfl
set_option maxRecDepth 100000 in
theorem lsdbMeets_told10 : AM.isTrue (AM.runR Try.prog (AM.sortedX 3 52 [(53, 66, 79)]) 100000 (.call 10 []) AM.empty) = true := by kernel_rfl
set_option maxRecDepth 100000 in
theorem lsdbMeets_told4 : AM.isTrue (AM.runR Try.prog (AM.sortedX 3 52 [(53, 66, 79)]) 100000 (.call 4 []) AM.empty) = true := by kernel_rfl
theorem lsdbMeets_ext : AM.ExtOK Try.prog AM.XX := AM.orX_ok (AM.sortedX_ok sortedOK) <| AM.closedX_okX lsdbMeets_mixed lsdbMeets_plain (AM.sortedX_ok sortedOK) _ (fun f hf => by simp only [List.mem_cons, List.not_mem_nil, or_false] at hf; rcases hf with rfl | rfl; exact ⟨100000, lsdbMeets_told10⟩; exact ⟨100000, lsdbMeets_told4⟩)
theorem lsdbMeets_types : ([35,  35].all fun t => AM.plainT Try.prog 40 t) = true := by kernel_rfl
theorem lsdbMeets_wp : ∀ (s : AM.Heap) (xs : List AM.AVal), AM.ArgL Try.prog s 40 [35,  35] xs → AM.wpCall Try.prog AM.XX 6 xs (fun v _ => v = .bool true) s := AM.Meets_wp
theorem lsdbMeets_own : ownKnob Try.prog.godebug = none := by kernel_rfl
set_option maxRecDepth 100000 in
theorem lsdbMeets_lifted (os : Os) (started : os.Started) (H : Type) (enc : TypeId × Value → H) :
    ReturnsInHanded {} Try.checked os 6 .any (Rows.lsdbMeetsSpec.pre6 enc Try.prog Try.f6 Rows.lsdbMeetsRow.domain false) (Rows.lsdbMeetsSpec.post enc Try.prog Try.f6 false true false false) := by
  refine returnsInHanded_of_change (C := Try.checked) lsdbMeets_own started (by kernel_rfl) Try.func6
    (ChangeSpec.witness6 (enc := enc) (C := Try.checked) false ⟨#[], #[.slice none 0 0, .slice none 0 0], []⟩ 8 (by kernel_rfl) (by kernel_rfl) (by kernel_rfl) (by kernel_rfl)) ?_
  intro W base args ds gs before hval0 hW hcnd _
  have hval : ∀ (j : Nat) t v, Try.f6.params[j]? = some t → args[j]? = some v → Value.okWide Try.prog W .any base t v := hval0
  have hW' := hW
  obtain ⟨p, q, hA0, hV, rfl, hfz, hnd⟩ := hW
  have hA : DataW.TrodAll enc Try.prog W 0 (fun _ => true) true Try.f6.params.toList args.toList ds p := hA0
  rw [Try.params6] at hA hval
  have hA : DataW.TrodAll enc Try.prog W 0 (fun _ => true) true [35,  35] args.toList ds p := hA
  obtain ⟨rfl, rfl⟩ := trodVars_none hV
  clear hA0 hval0 hV
  have hA2 := hA
  obtain ⟨v0, vs0, d0, ds0, p0, q0, hargs0, rfl, rfl, h0, r0⟩ := trodAll_cons hA2
  obtain ⟨v1, vs1, d1, ds1, p1, q1, hargs1, rfl, rfl, h1, r1⟩ := trodAll_cons r0
  obtain ⟨_, rfl, rfl⟩ := trodAll_nil r1
  refine (AM.law_of_wp (ts := [35,  35]) lsdbMeets_mixed lsdbMeets_plain lsdbMeets_ext 40 lsdbMeets_types lsdbMeets_wp hA fun j t v h1 h2 => hval j t v (by simpa using h1) h2).mono fun e W' ⟨he, hg⟩ => ?_
  subst he
  exact ⟨_, rfl, AM.post_of_below (pv := []) hW' hg (fun _ _ _ => (trodAll_cons_mk (shut_bool Try.underlying4 _) trodAll_mk0)) (fun sp hsp => AM.trodAll_keep hg sp 40 [35,  35] _ _ _ lsdbMeets_types hA fun x hx => hsp x (by simpa using hx)) (fun _ _ => rfl) rfl
    (ok_one (by kernel_rfl) rfl (okWide_bool_mk Try.underlying4 _))⟩
theorem lsdbMeets_proved : Rows.LsdbMeetsSaid :=
  OpenClaim.holds_of_wide 6 Try.f6 rfl rfl rfl rfl rfl rfl rfl ⟨rfl, rfl, rfl, rfl, rfl⟩ rfl rfl rfl rfl rfl (by kernel_rfl) Try.func6 (by kernel_rfl)
    (of_decide_eq_true (by kernel_rfl)) (by unfold Func.isWrapper; first | (rw [if_pos (by decide +kernel)]; kernel_rfl) | (rw [if_neg (by decide +kernel)]; exact ⟨rfl, rfl⟩))
    (fun os started H enc _ => lsdbMeets_lifted os started H enc)
#print axioms lsdbMeets_proved
end Go.Proofs.Ytboddampdcalfaa
