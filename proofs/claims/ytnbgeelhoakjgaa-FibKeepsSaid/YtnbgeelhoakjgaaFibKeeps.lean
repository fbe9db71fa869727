/- The law FibKeeps returns true for every input, and each argument reads afterwards as it read before. No condition. -/
import Derived.Test.YtnbgeelhoakjgaaRows
import Derived.Test.YtnbgeelhoakjgaaE
namespace Go.Proofs.Ytnbgeelhoakjgaa
open Go.ChangeShapes Go.WideShapes Go.ChangeAt Go.RowKit
set_option linter.unusedVariables false
set_option maxRecDepth 100000 in
theorem fibKeeps_mixed : Try.prog.follows .mixedOrders = true := by kernel_rfl
set_option maxRecDepth 100000 in
theorem fibKeeps_plain : AM.noNumB Try.prog = true := by kernel_rfl
set_option maxRecDepth 100000 in
theorem fibKeeps_pre9 : AM.isTrue (AM.runR Try.prog AM.noExt 100000 (.call 9 []) AM.empty) = true := by kernel_rfl
theorem fibKeeps_pre : AM.ExtOK Try.prog (AM.closedX [9]) := AM.closedX_okX fibKeeps_mixed fibKeeps_plain AM.extOK_none _ (fun f hf => by simp only [List.mem_singleton] at hf; subst hf; exact ⟨100000, fibKeeps_pre9⟩)
set_option maxRecDepth 100000 in
theorem fibKeeps_told9 : AM.isTrue (AM.runR Try.prog (AM.closedX [9]) 100000 (.call 9 []) AM.empty) = true := by kernel_rfl
set_option maxRecDepth 100000 in
theorem fibKeeps_told4 : AM.isTrue (AM.runR Try.prog (AM.closedX [9]) 100000 (.call 4 []) AM.empty) = true := by kernel_rfl
theorem fibKeeps_ext : AM.ExtOK Try.prog AM.XX := AM.closedX_okX fibKeeps_mixed fibKeeps_plain fibKeeps_pre _ (fun f hf => by simp only [List.mem_cons, List.not_mem_nil, or_false] at hf; rcases hf with rfl | rfl; exact ⟨100000, fibKeeps_told9⟩; exact ⟨100000, fibKeeps_told4⟩)
theorem fibKeeps_types : ([63,  3,  3,  3,  56].all fun t => AM.plainT Try.prog 40 t) = true := by kernel_rfl
theorem fibKeeps_wp : ∀ (s : AM.Hq) (xs : List AM.AV), AM.ArgL Try.prog s 40 [63,  3,  3,  3,  56] xs → AM.wpW Try.prog AM.XX 7 xs (fun v _ => v = .bool true) s := AM.FB.Keeps_wp
theorem fibKeeps_own : ownKnob Try.prog.godebug = none := by kernel_rfl
set_option maxRecDepth 100000 in
theorem fibKeeps_lifted (os : Os) (started : os.Started) (H : Type) (enc : TypeId × Value → H) :
    ReturnsInHanded {} Try.checked os 7 .any (Rows.fibKeepsSpec.pre6 enc Try.prog Try.f7 Rows.fibKeepsRow.domain false) (Rows.fibKeepsSpec.post enc Try.prog Try.f7 false true false false) := by
  refine returnsInHanded_of_change (C := Try.checked) fibKeeps_own started (by kernel_rfl) Try.func7
    (ChangeSpec.witness6 (enc := enc) (C := Try.checked) false ⟨#[], #[.agg #[.int .i64 0, .slice none 0 0, .slice none 0 0], .int .i64 0, .int .i64 0, .int .i64 0, .agg #[.int .u32 0, .int .u32 0, .int .i64 0, .int .i64 0, .int .u32 0, .int .u32 0, .int .u64 0, .int .u64 0, .int .i64 0, .int .i64 0, .int .u64 0, .int .u32 0, .int .u64 0, .int .u32 0, .int .u32 0, .int .u32 0, .int .i64 0, .int .i64 0, .int .i64 0, .int .i64 0, .int .u64 0]], []⟩ 8 (by kernel_rfl) (by kernel_rfl) (by kernel_rfl) (by kernel_rfl)) ?_
  intro W base args ds gs before hval0 hW hcnd _
  have hval : ∀ (j : Nat) t v, Try.f7.params[j]? = some t → args[j]? = some v → Value.okWide Try.prog W .any base t v := hval0
  have hW' := hW
  obtain ⟨p, q, hA0, hV, rfl, hfz, hnd⟩ := hW
  have hA : DataW.TrodAll enc Try.prog W 0 (fun _ => true) true Try.f7.params.toList args.toList ds p := hA0
  rw [Try.params7] at hA hval
  have hA : DataW.TrodAll enc Try.prog W 0 (fun _ => true) true [63,  3,  3,  3,  56] args.toList ds p := hA
  obtain ⟨rfl, rfl⟩ := trodVars_none hV
  clear hA0 hval0 hV
  have hA2 := hA
  obtain ⟨v0, vs0, d0, ds0, p0, q0, hargs0, rfl, rfl, h0, r0⟩ := trodAll_cons hA2
  obtain ⟨v1, vs1, d1, ds1, p1, q1, hargs1, rfl, rfl, h1, r1⟩ := trodAll_cons r0
  obtain ⟨v2, vs2, d2, ds2, p2, q2, hargs2, rfl, rfl, h2, r2⟩ := trodAll_cons r1
  obtain ⟨v3, vs3, d3, ds3, p3, q3, hargs3, rfl, rfl, h3, r3⟩ := trodAll_cons r2
  obtain ⟨v4, vs4, d4, ds4, p4, q4, hargs4, rfl, rfl, h4, r4⟩ := trodAll_cons r3
  obtain ⟨_, rfl, rfl⟩ := trodAll_nil r4
  refine (AM.law_of_wpW (ts := [63,  3,  3,  3,  56]) fibKeeps_mixed fibKeeps_plain fibKeeps_ext 40 fibKeeps_types fibKeeps_wp hA fun j t v h1 h2 => hval j t v (by simpa using h1) h2).mono fun e W' ⟨he, hg⟩ => ?_
  subst he
  exact ⟨_, rfl, AM.post_of_below (pv := []) hW' hg (fun _ _ _ => (trodAll_cons_mk (shut_bool Try.underlying4 _) trodAll_mk0)) (fun sp hsp => AM.trodAll_keep hg sp 40 [63,  3,  3,  3,  56] _ _ _ fibKeeps_types hA fun x hx => hsp x (by simpa using hx)) (fun _ _ => rfl) rfl
    (ok_one (by kernel_rfl) rfl (okWide_bool_mk Try.underlying4 _))⟩
theorem fibKeeps_proved : Rows.FibKeepsSaid :=
  OpenClaim.holds_of_wide 7 Try.f7 rfl rfl rfl rfl rfl rfl rfl ⟨rfl, rfl, rfl, rfl, rfl⟩ rfl rfl rfl rfl rfl (by kernel_rfl) Try.func7 (by kernel_rfl)
    (of_decide_eq_true (by kernel_rfl)) (by unfold Func.isWrapper; first | (rw [if_pos (by decide +kernel)]; kernel_rfl) | (rw [if_neg (by decide +kernel)]; exact ⟨rfl, rfl⟩))
    (fun os started H enc _ => fibKeeps_lifted os started H enc)
#print axioms fibKeeps_proved
end Go.Proofs.Ytnbgeelhoakjgaa
