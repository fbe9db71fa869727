/- The law SegmentKnown returns true; its row lists one package variable, a table of numbers, which is tied to the program's text. -/
import Derived.Test.YtgehkpnggfnapaaGreatDoorRows
import Derived.Test.YtgehkpnggfnapaaGreatDoorCards
import Derived.Test.YtgehkpnggfnapaaGreatDoorTie
import Derived.Test.YtgehkpnggfnapaaGreatDoorU2
import Derived.LaidMore
import Derived.LaidOnce
import Derived.LaidLaws
import Derived.SevenTiedAt
import Derived.Stop.Joined
namespace Go.Proofs.YtgehkpnggfnapaaGreatDoor
open Go Go.ChangeShapes Go.WideShapes Go.ChangeAt Go.RowKit
set_option linter.unusedVariables false
set_option maxRecDepth 100000 in
theorem segmentKnown_mixed : Tryz.prog.follows .mixedOrders = true := by kernel_rfl
set_option maxRecDepth 100000 in
theorem segmentKnown_plain : AM.noNumB Tryz.prog = true := by kernel_rfl
def segmentKnown_v : AM.AVal := .agg [.int .i64 1, .int .u8 0, .int .u8 2, .int .i64 2, .int .u8 3, .int .u8 12, .int .i64 3, .int .u8 6, .int .u8 0, .int .i64 4, .int .u8 6, .int .u8 1, .int .i64 5, .int .u8 6, .int .u8 2, .int .i64 6, .int .u8 6, .int .u8 3, .int .i64 7, .int .u8 6, .int .u8 6]
set_option maxRecDepth 100000 in
theorem segmentKnown_run : AM.isTrue (AM.runR Tryz.prog AM.noExt 100000 (.call 3 (AM.opqs Tryz.prog [] 1)) (AM.gHeap 0 segmentKnown_v)) = true := by kernel_rfl
theorem segmentKnown_types : (([] : List TypeId).all fun t => AM.plainT Tryz.prog 40 t) = true := by kernel_rfl
theorem segmentKnown_cells : AM.plainC segmentKnown_v.cells = true := by kernel_rfl
theorem segmentKnown_flat : AM.flatD Tryz.prog 5 189 (Rows.laid_leafmesh_comm_kinds (H := Unit)) = some segmentKnown_v.cells := by kernel_rfl
theorem segmentKnown_glob : Tryz.prog.globalNamed "leafmesh/comm.kinds" = some 0 := by kernel_rfl
theorem segmentKnown_gtype : (Tryz.prog.globals[0]?).map (·.type) = some 189 := by kernel_rfl
theorem segmentKnown_own : ownKnob Tryz.prog.godebug = none := by kernel_rfl
theorem segmentKnown_door (os : Os) (args : Array Value) : laidMetH Tryz.prog [("leafmesh/comm.kinds", Rows.laid_leafmesh_comm_kinds)] ((World.doorLaid Tryz.prog 28 os).forCall (fun _ _ => 0) ⟨#[], args, []⟩).memory :=
  show laidMet Tryz.prog [("leafmesh/comm.kinds", Rows.laid_leafmesh_comm_kinds)] _ from laidMet_of_run' 8 (by kernel_rfl) (by kernel_rfl)
set_option maxRecDepth 100000 in
theorem segmentKnown_lifted (os : Os) (started : os.Started) (H : Type) (enc : TypeId × Value → H) :
    ReturnsInHanded {} Tryz.checked os 3 .any (fun w args => (Rows.segmentKnownSpec.pre enc Tryz.prog Tryz.f3 [] false w args ∧ laidMetH Tryz.prog [("leafmesh/comm.kinds", Rows.laid_leafmesh_comm_kinds)] w) ∧ sizedMet enc Tryz.prog Tryz.f3 (OpenSpec.ofChange Rows.segmentKnownSpec) false w args)
      (Rows.segmentKnownSpec.post enc Tryz.prog Tryz.f3 false true false false) := by
  refine returnsInHanded_of_change_and (C := Tryz.checked) (X := fun w _ => laidMetH Tryz.prog [("leafmesh/comm.kinds", Rows.laid_leafmesh_comm_kinds)] w) (fun _ _ _ hh h => h.of_heap hh) segmentKnown_own started (by kernel_rfl) Tryz.func3
    (ChangeSpec.witness_shaped (enc := enc) (C := Tryz.checked) (os := os) (X := fun w _ => laidMetH Tryz.prog [("leafmesh/comm.kinds", Rows.laid_leafmesh_comm_kinds)] w) false (World.doorLaid Tryz.prog 28 os) #[] 8 rfl (World.shaped_of_RefB (by kernel_rfl) (by kernel_rfl)) (by kernel_rfl) (by kernel_rfl) (by kernel_rfl) (segmentKnown_door os _)) ?_
  intro W base args ds gs before hval0 hW _ _ hL _
  have hval : ∀ (j : Nat) t v, Tryz.f3.params[j]? = some t → args[j]? = some v → Value.okWide Tryz.prog W .any base t v := hval0
  have hW' := hW
  obtain ⟨p, q, hA0, hV, rfl, hfz, hnd⟩ := hW
  have hA : DataW.TrodAll enc Tryz.prog W 0 (fun _ => true) true Tryz.f3.params.toList args.toList ds p := hA0
  rw [Tryz.params3] at hA hval
  have hA : DataW.TrodAll enc Tryz.prog W 0 (fun _ => true) true [] args.toList ds p := hA
  obtain ⟨rfl, rfl⟩ := trodVars_none hV
  clear hA0 hval0 hV
  have hA2 := hA
  obtain ⟨_, rfl, rfl⟩ := trodAll_nil hA2
  obtain ⟨elem, fr, hblk⟩ := AM.laid_block (show laidMet Tryz.prog [("leafmesh/comm.kinds", Rows.laid_leafmesh_comm_kinds)] W from hL) segmentKnown_glob segmentKnown_gtype segmentKnown_flat
  refine (AM.law_of_anyG (ts := []) segmentKnown_mixed segmentKnown_plain AM.extOK_none 100000 40 segmentKnown_types segmentKnown_run segmentKnown_cells hblk hA fun j t v h1 h2 => hval j t v (by simp at h1) h2).mono fun e W' ⟨he, hg⟩ => ?_
  subst he
  exact ⟨_, rfl, AM.post_of_below (pv := []) hW' hg (fun _ _ _ => (trodAll_cons_mk (shut_bool Tryz.underlying4 _) trodAll_mk0)) (fun sp hsp => AM.trodAll_keep hg sp 40 [] _ _ _ segmentKnown_types hA fun x hx => hsp x (by simp at hx)) (fun _ _ => rfl) rfl
    (ok_one (by kernel_rfl) rfl (okWide_bool_mk Tryz.underlying4 _))⟩
theorem segmentKnown_row : Rows.SegmentKnownSaid :=
  OpenClaim.holds_of_wide 3 Tryz.f3 rfl rfl rfl rfl rfl rfl rfl ⟨rfl, rfl, rfl, rfl, rfl⟩ rfl rfl rfl rfl rfl (by kernel_rfl) Tryz.func3 (by kernel_rfl)
    (of_decide_eq_true (by kernel_rfl)) (by unfold Func.isWrapper; first | (rw [if_pos (by decide +kernel)]; kernel_rfl) | (rw [if_neg (by decide +kernel)]; exact ⟨rfl, rfl⟩))
    (fun os started H enc _ => segmentKnown_lifted os started H enc)
theorem segmentKnown_proved : Rows.SegmentKnownCardSaid :=
  Claim7.holds_tied_plain_at .later [] [.data] true Rows.segmentKnownCard.stood.harness true
    segmentKnown_row (fun _ h => by cases h) (by kernel_rfl) (fun _ h => by cases h) segmentKnown_row_tie rfl ⟨rfl, rfl⟩ (by kernel_rfl) rfl
    (fun f fn hf hfn => by
      obtain rfl : f = 3 := Option.some.inj ((show Tryz.prog.funcNamed "leafmesh/leafmeshlaw25.SegmentKnown" = some 3 by kernel_rfl).symm.trans hf) |>.symm
      obtain rfl : fn = Tryz.f3 := (Option.some.inj (Tryz.func3.symm.trans hfn)).symm
      exact ⟨by kernel_rfl, fun j t ht => by
        rw [Tryz.params3] at ht
        simp at ht⟩)
    (by kernel_rfl)
#print axioms segmentKnown_proved
end Go.Proofs.YtgehkpnggfnapaaGreatDoor
