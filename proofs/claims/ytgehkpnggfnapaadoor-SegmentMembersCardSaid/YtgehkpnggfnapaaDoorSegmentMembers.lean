/- The law SegmentMembers returns true for every input; its row lists one package variable, a table of numbers, which is tied to the program's text. No other condition. -/
import Derived.Test.YtgehkpnggfnapaaDoorRows
import Derived.Test.YtgehkpnggfnapaaDoorCards
import Derived.Test.YtgehkpnggfnapaaDoorTie
import Derived.Test.YtgehkpnggfnapaaDoorF
import Derived.LaidMore
import Derived.LaidOnce
import Derived.LaidLaws
import Derived.SevenTiedAt
import Derived.Stop.Joined
namespace Go.Proofs.YtgehkpnggfnapaaDoor
open Go Go.ChangeShapes Go.WideShapes Go.ChangeAt Go.RowKit
set_option linter.unusedVariables false
set_option maxRecDepth 100000 in
theorem segmentMembers_mixed : Tryd.prog.follows .mixedOrders = true := by kernel_rfl
set_option maxRecDepth 100000 in
theorem segmentMembers_plain : AM.noNumB Tryd.prog = true := by kernel_rfl
def segmentMembers_v : AM.AVal := .agg AM.kindsL
set_option maxRecDepth 100000 in
theorem segmentMembers_told6 : AM.isTrue (AM.runR Tryd.prog AM.noExt 100000 (.call 6 []) (AM.gHeap 0 segmentMembers_v)) = true := by kernel_rfl
theorem segmentMembers_types : ([22, 24].all fun t => AM.plainT Tryd.prog 40 t) = true := by kernel_rfl
theorem segmentMembers_cells : AM.plainC AM.kindsL = true := by kernel_rfl
theorem segmentMembers_flat : AM.flatD Tryd.prog 5 134 (Rows.laid_leafmesh_comm_kinds (H := Unit)) = some segmentMembers_v.cells := by kernel_rfl
theorem segmentMembers_glob : Tryd.prog.globalNamed "leafmesh/comm.kinds" = some 0 := by kernel_rfl
theorem segmentMembers_gtype : (Tryd.prog.globals[0]?).map (·.type) = some 134 := by kernel_rfl
theorem segmentMembers_own : ownKnob Tryd.prog.godebug = none := by kernel_rfl
theorem segmentMembers_ext : AM.ExtOK Tryd.prog AM.XX := AM.closedG_ok segmentMembers_mixed segmentMembers_plain AM.extOK_none segmentMembers_cells _ (fun g hg => by simp only [List.mem_singleton] at hg; subst hg; exact ⟨100000, segmentMembers_told6⟩)
theorem segmentMembers_wp : ∀ (s : AM.Heap) (xs : List AM.AVal), s 0 = some (true, .glob 0 segmentMembers_v) → AM.ArgL Tryd.prog s 40 [22, 24] xs → AM.wpCall Tryd.prog AM.XX 3 xs (fun v _ => v = .bool true) s := AM.Segment_wp
theorem segmentMembers_door (os : Os) (args : Array Value) : laidMetH Tryd.prog [("leafmesh/comm.kinds", Rows.laid_leafmesh_comm_kinds)] ((World.doorLaid Tryd.prog 28 os).forCall (fun _ _ => 0) ⟨#[], args, []⟩).memory :=
  show laidMet Tryd.prog [("leafmesh/comm.kinds", Rows.laid_leafmesh_comm_kinds)] _ from laidMet_of_run' 8 (by kernel_rfl) (by kernel_rfl)
set_option maxRecDepth 100000 in
theorem segmentMembers_lifted (os : Os) (started : os.Started) (H : Type) (enc : TypeId × Value → H) :
    ReturnsInHanded {} Tryd.checked os 3 .any (fun w args => (Rows.segmentMembersSpec.pre enc Tryd.prog Tryd.f3 [] false w args ∧ laidMetH Tryd.prog [("leafmesh/comm.kinds", Rows.laid_leafmesh_comm_kinds)] w) ∧ sizedMet enc Tryd.prog Tryd.f3 (OpenSpec.ofChange Rows.segmentMembersSpec) false w args)
      (Rows.segmentMembersSpec.post enc Tryd.prog Tryd.f3 false true false false) := by
  refine returnsInHanded_of_change_and (C := Tryd.checked) (X := fun w _ => laidMetH Tryd.prog [("leafmesh/comm.kinds", Rows.laid_leafmesh_comm_kinds)] w) (fun _ _ _ hh h => h.of_heap hh) segmentMembers_own started (by kernel_rfl) Tryd.func3
    (ChangeSpec.witness_shaped (enc := enc) (C := Tryd.checked) (os := os) (X := fun w _ => laidMetH Tryd.prog [("leafmesh/comm.kinds", Rows.laid_leafmesh_comm_kinds)] w) false (World.doorLaid Tryd.prog 28 os) #[.slice none 0 0, .agg #[.int .u8 0, .int .u8 0, .int .u8 0, .int .u8 0, .int .u8 0, .int .u8 0, .int .u8 0, .int .u8 0, .int .u8 0, .int .u8 0]] 8 rfl (World.shaped_of_RefB (by kernel_rfl) (by kernel_rfl)) (by kernel_rfl) (by kernel_rfl) (by kernel_rfl) (segmentMembers_door os _)) ?_
  intro W base args ds gs before hval0 hW _ _ hL _
  have hval : ∀ (j : Nat) t v, Tryd.f3.params[j]? = some t → args[j]? = some v → Value.okWide Tryd.prog W .any base t v := hval0
  have hW' := hW
  obtain ⟨p, q, hA0, hV, rfl, hfz, hnd⟩ := hW
  have hA : DataW.TrodAll enc Tryd.prog W 0 (fun _ => true) true Tryd.f3.params.toList args.toList ds p := hA0
  rw [Tryd.params3] at hA hval
  have hA : DataW.TrodAll enc Tryd.prog W 0 (fun _ => true) true [22, 24] args.toList ds p := hA
  obtain ⟨rfl, rfl⟩ := trodVars_none hV
  clear hA0 hval0 hV
  have hA2 := hA
  obtain ⟨v0, vs0, d0, ds0, p0, q0, hargs0, rfl, rfl, h0, r0⟩ := trodAll_cons hA2
  obtain ⟨v1, vs1, d1, ds1, p1, q1, hargs1, rfl, rfl, h1, r1⟩ := trodAll_cons r0
  obtain ⟨_, rfl, rfl⟩ := trodAll_nil r1
  obtain ⟨elem, fr, hblk⟩ := AM.laid_block (show laidMet Tryd.prog [("leafmesh/comm.kinds", Rows.laid_leafmesh_comm_kinds)] W from hL) segmentMembers_glob segmentMembers_gtype segmentMembers_flat
  refine (AM.law_of_wpG (g := segmentMembers_v) (ts := [22, 24]) segmentMembers_mixed segmentMembers_plain segmentMembers_ext 40 segmentMembers_types segmentMembers_cells segmentMembers_wp hblk hA fun j t v h1 h2 => hval j t v (by simpa using h1) h2).mono fun e W' ⟨he, hg⟩ => ?_
  subst he
  exact ⟨_, rfl, AM.post_of_below (pv := []) hW' hg (fun _ _ _ => (trodAll_cons_mk (shut_bool Tryd.underlying4 _) trodAll_mk0)) (fun sp hsp => AM.trodAll_keep hg sp 40 [22, 24] _ _ _ segmentMembers_types hA fun x hx => hsp x (by simpa using hx)) (fun _ _ => rfl) rfl
    (ok_one (by kernel_rfl) rfl (okWide_bool_mk Tryd.underlying4 _))⟩
theorem segmentMembers_row : Rows.SegmentMembersSaid :=
  OpenClaim.holds_of_wide 3 Tryd.f3 rfl rfl rfl rfl rfl rfl rfl ⟨rfl, rfl, rfl, rfl, rfl⟩ rfl rfl rfl rfl rfl (by kernel_rfl) Tryd.func3 (by kernel_rfl)
    (of_decide_eq_true (by kernel_rfl)) (by unfold Func.isWrapper; first | (rw [if_pos (by decide +kernel)]; kernel_rfl) | (rw [if_neg (by decide +kernel)]; exact ⟨rfl, rfl⟩))
    (fun os started H enc _ => segmentMembers_lifted os started H enc)
theorem segmentMembers_proved : Rows.SegmentMembersCardSaid :=
  Claim7.holds_tied_plain_at .later [] [.data] true Rows.segmentMembersCard.stood.harness Rows.segmentMembersCard.stood.looks
    segmentMembers_row (fun _ h => by cases h) (by kernel_rfl) (fun _ h => by cases h) segmentMembers_row_tie rfl ⟨rfl, rfl⟩ (by kernel_rfl) rfl
    (fun f fn hf hfn => by
      obtain rfl : f = 3 := Option.some.inj ((show Tryd.prog.funcNamed "leafmesh/leafmeshlaw25.SegmentMembers" = some 3 by kernel_rfl).symm.trans hf) |>.symm
      obtain rfl : fn = Tryd.f3 := (Option.some.inj (Tryd.func3.symm.trans hfn)).symm
      exact ⟨by kernel_rfl, fun j t ht => by
        rw [Tryd.params3] at ht
        have hm : t ∈ [22, 24] := by simpa using Array.mem_of_getElem? ht
        have hall : ([22, 24].all fun u => !Tryd.prog.wantsStandIn u) = true := by kernel_rfl
        exact (show Tryd.prog.wantsStandIn t = false by simpa using List.all_eq_true.1 hall t hm)⟩)
    (by kernel_rfl)
#print axioms segmentMembers_proved
end Go.Proofs.YtgehkpnggfnapaaDoor
