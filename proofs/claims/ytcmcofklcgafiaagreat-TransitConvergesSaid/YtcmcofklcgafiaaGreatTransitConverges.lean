/- The law TransitConverges returns true for every input, and each argument reads afterwards as it read before. No condition. -/
import Derived.Test.YtcmcofklcgafiaaGreatRows
import Derived.Test.YtcmcofklcgafiaaGreatL
namespace Go.Proofs.YtcmcofklcgafiaaGreat
open Go.ChangeShapes Go.WideShapes Go.ChangeAt Go.RowKit
set_option linter.unusedVariables false
set_option maxRecDepth 100000 in
theorem transitConverges_mixed : Tryz.prog.follows .mixedOrders = true := by kernel_rfl
set_option maxRecDepth 100000 in
theorem transitConverges_plain : AM.noNumB Tryz.prog = true := by kernel_rfl
theorem transitConverges_types : ([25, 86].all fun t => AM.plainT Tryz.prog 40 t) = true := by kernel_rfl
theorem transitConverges_wp : ∀ (s : AM.Hq) (xs : List AM.AV), AM.ArgL Tryz.prog s 40 [25, 86] xs → AM.wC Tryz.prog 6 xs (fun v _ => v = .bool true) s := AM.RT.Converges_wp AM.RT.known_ok
theorem transitConverges_own : ownKnob Tryz.prog.godebug = none := by kernel_rfl
set_option maxRecDepth 100000 in
theorem transitConverges_lifted (os : Os) (started : os.Started) (H : Type) (enc : TypeId × Value → H) :
    ReturnsInHanded {} Tryz.checked os 6 .any (Rows.transitConvergesSpec.pre6 enc Tryz.prog Tryz.f6 Rows.transitConvergesRow.domain false) (Rows.transitConvergesSpec.post enc Tryz.prog Tryz.f6 false true false false) := by
  refine returnsInHanded_of_change (C := Tryz.checked) transitConverges_own started (by kernel_rfl) Tryz.func6
    (ChangeSpec.witness6 (enc := enc) (C := Tryz.checked) false ⟨#[], #[.slice none 0 0, .slice none 0 0], []⟩ 8 (by kernel_rfl) (by kernel_rfl) (by kernel_rfl) (by kernel_rfl)) ?_
  intro W base args ds gs before hval0 hW hcnd _
  have hval : ∀ (j : Nat) t v, Tryz.f6.params[j]? = some t → args[j]? = some v → Value.okWide Tryz.prog W .any base t v := hval0
  have hW' := hW
  obtain ⟨p, q, hA0, hV, rfl, hfz, hnd⟩ := hW
  have hA : DataW.TrodAll enc Tryz.prog W 0 (fun _ => true) true Tryz.f6.params.toList args.toList ds p := hA0
  rw [Tryz.params6] at hA hval
  have hA : DataW.TrodAll enc Tryz.prog W 0 (fun _ => true) true [25, 86] args.toList ds p := hA
  obtain ⟨rfl, rfl⟩ := trodVars_none hV
  clear hA0 hval0 hV
  have hA2 := hA
  obtain ⟨v0, vs0, d0, ds0, p0, q0, hargs0, rfl, rfl, h0, r0⟩ := trodAll_cons hA2
  obtain ⟨v1, vs1, d1, ds1, p1, q1, hargs1, rfl, rfl, h1, r1⟩ := trodAll_cons r0
  obtain ⟨_, rfl, rfl⟩ := trodAll_nil r1
  refine (AM.law_of_wp (ts := [25, 86]) (AM.grd_of transitConverges_mixed transitConverges_plain) 40 transitConverges_types transitConverges_wp hA fun j t v h1 h2 => hval j t v (by simpa using h1) h2).mono fun e W' ⟨he, hg⟩ => ?_
  subst he
  exact ⟨_, rfl, AM.post_of_below (pv := []) hW' hg (fun _ _ _ => (trodAll_cons_mk (shut_bool Tryz.underlying4 _) trodAll_mk0)) (fun sp hsp => AM.trodAll_keep hg sp 40 [25, 86] _ _ _ transitConverges_types hA fun x hx => hsp x (by simpa using hx)) (fun _ _ => rfl) rfl
    (ok_one (by kernel_rfl) rfl (okWide_bool_mk Tryz.underlying4 _))⟩
theorem transitConverges_proved : Rows.TransitConvergesSaid :=
  OpenClaim.holds_of_wide 6 Tryz.f6 rfl rfl rfl rfl rfl rfl rfl ⟨rfl, rfl, rfl, rfl, rfl⟩ rfl rfl rfl rfl rfl (by kernel_rfl) Tryz.func6 (by kernel_rfl)
    (of_decide_eq_true (by kernel_rfl)) (by unfold Func.isWrapper; first | (rw [if_pos (by decide +kernel)]; kernel_rfl) | (rw [if_neg (by decide +kernel)]; exact ⟨rfl, rfl⟩))
    (fun os started H enc _ => transitConverges_lifted os started H enc)
#print axioms transitConverges_proved
end Go.Proofs.YtcmcofklcgafiaaGreat
