/- The law TransitNone returns true for every input, and each argument reads afterwards as it read before. No condition. The calculation never looks into an argument. -/
import Derived.Test.YtcmcofklcgafiaaGreatRows
import Derived.Test.YtcmcofklcgafiaaGreatS
namespace Go.Proofs.YtcmcofklcgafiaaGreat
open Go.ChangeShapes Go.WideShapes Go.ChangeAt Go.RowKit
set_option linter.unusedVariables false
set_option maxRecDepth 100000 in
theorem transitNone_mixed : Tryz.prog.follows .mixedOrders = true := by kernel_rfl
set_option maxRecDepth 100000 in
theorem transitNone_plain : AM.noNumB Tryz.prog = true := by kernel_rfl
theorem transitNone_ext0 : AM.ExtOK Tryz.prog (AM.sortedX 3 42 [(43, 95, 70), (114, 144, 215)]) := AM.sortedX_ok sortedOK
set_option maxRecDepth 100000 in
theorem transitNone_told22 : AM.isTrue (AM.runR Tryz.prog (AM.sortedX 3 42 [(43, 95, 70), (114, 144, 215)]) 100000 (.call 22 []) AM.empty) = true := by kernel_rfl
theorem transitNone_ext : AM.ExtOK Tryz.prog (AM.orX (AM.closedX [22]) (AM.sortedX 3 42 [(43, 95, 70), (114, 144, 215)])) := AM.orX_ok (AM.closedX_okX transitNone_mixed transitNone_plain transitNone_ext0 _ (fun f hf => by simp only [List.mem_singleton] at hf; subst hf; exact ⟨100000, transitNone_told22⟩)) transitNone_ext0
set_option maxRecDepth 100000 in
theorem transitNone_run : AM.isTrue (AM.runR Tryz.prog (AM.orX (AM.closedX [22]) (AM.sortedX 3 42 [(43, 95, 70), (114, 144, 215)])) 100000 (.call 4 (AM.opqs Tryz.prog [66] 1)) AM.empty) = true := by kernel_rfl
theorem transitNone_types : ([66].all fun t => AM.plainT Tryz.prog 40 t) = true := by kernel_rfl
theorem transitNone_own : ownKnob Tryz.prog.godebug = none := by kernel_rfl
set_option maxRecDepth 100000 in
theorem transitNone_lifted (os : Os) (started : os.Started) (H : Type) (enc : TypeId × Value → H) :
    ReturnsInHanded {} Tryz.checked os 4 .any (Rows.transitNoneSpec.pre6 enc Tryz.prog Tryz.f4 Rows.transitNoneRow.domain false) (Rows.transitNoneSpec.post enc Tryz.prog Tryz.f4 false true false false) := by
  refine returnsInHanded_of_change (C := Tryz.checked) transitNone_own started (by kernel_rfl) Tryz.func4
    (ChangeSpec.witness6 (enc := enc) (C := Tryz.checked) false ⟨#[], #[.agg #[.int .i64 0, .int .i64 0, .int .i64 0, .slice none 0 0, .int .i64 0, .int .i64 0, .slice none 0 0, .int .u32 0, .int .u32 0, .int .i64 0, .int .i64 0, .int .u32 0, .int .u32 0, .int .u64 0, .int .u64 0, .int .i64 0, .int .i64 0, .int .u64 0, .int .u32 0, .int .u64 0, .int .u32 0, .int .u32 0, .int .u32 0, .int .i64 0, .int .i64 0, .int .i64 0, .int .i64 0, .int .u64 0]], []⟩ 8 (by kernel_rfl) (by kernel_rfl) (by kernel_rfl) (by kernel_rfl)) ?_
  intro W base args ds gs before hval0 hW hcnd _
  have hval : ∀ (j : Nat) t v, Tryz.f4.params[j]? = some t → args[j]? = some v → Value.okWide Tryz.prog W .any base t v := hval0
  have hW' := hW
  obtain ⟨p, q, hA0, hV, rfl, hfz, hnd⟩ := hW
  have hA : DataW.TrodAll enc Tryz.prog W 0 (fun _ => true) true Tryz.f4.params.toList args.toList ds p := hA0
  rw [Tryz.params4] at hA hval
  have hA : DataW.TrodAll enc Tryz.prog W 0 (fun _ => true) true [66] args.toList ds p := hA
  obtain ⟨rfl, rfl⟩ := trodVars_none hV
  clear hA0 hval0 hV
  have hA2 := hA
  obtain ⟨v0, vs0, d0, ds0, p0, q0, hargs0, rfl, rfl, h0, r0⟩ := trodAll_cons hA2
  obtain ⟨_, rfl, rfl⟩ := trodAll_nil r0
  refine (AM.law_of_anyX (ts := [66]) transitNone_mixed transitNone_plain transitNone_ext 100000 40 transitNone_types transitNone_run hA fun j t v h1 h2 => hval j t v (by simpa using h1) h2).mono fun e W' ⟨he, hg⟩ => ?_
  subst he
  exact ⟨_, rfl, AM.post_of_below (pv := []) hW' hg (fun _ _ _ => (trodAll_cons_mk (shut_bool Tryz.underlying4 _) trodAll_mk0)) (fun sp hsp => AM.trodAll_keep hg sp 40 [66] _ _ _ transitNone_types hA fun x hx => hsp x (by simpa using hx)) (fun _ _ => rfl) rfl
    (ok_one (by kernel_rfl) rfl (okWide_bool_mk Tryz.underlying4 _))⟩
theorem transitNone_proved : Rows.TransitNoneSaid :=
  OpenClaim.holds_of_wide 4 Tryz.f4 rfl rfl rfl rfl rfl rfl rfl ⟨rfl, rfl, rfl, rfl, rfl⟩ rfl rfl rfl rfl rfl (by kernel_rfl) Tryz.func4 (by kernel_rfl)
    (of_decide_eq_true (by kernel_rfl)) (by unfold Func.isWrapper; first | (rw [if_pos (by decide +kernel)]; kernel_rfl) | (rw [if_neg (by decide +kernel)]; exact ⟨rfl, rfl⟩))
    (fun os started H enc _ => transitNone_lifted os started H enc)
#print axioms transitNone_proved
end Go.Proofs.YtcmcofklcgafiaaGreat
