/- The law SegmentOne returns true for every input; its row lists one package variable, a table of numbers, which is tied to the program's text. No other condition. -/
import Derived.Test.YtgehkpnggfnapaaGreatDoorRows
import Derived.Test.YtgehkpnggfnapaaGreatDoorCards
import Derived.Test.YtgehkpnggfnapaaGreatDoorTie
import Derived.Test.YtgehkpnggfnapaaGreatDoorE
import Derived.LaidMore
import Derived.LaidOnce
import Derived.LaidLaws
import Derived.SevenTiedAt
import Derived.Stop.Joined
namespace Go.Proofs.YtgehkpnggfnapaaGreatDoor
open Go Go.ChangeShapes Go.WideShapes Go.ChangeAt Go.RowKit
set_option linter.unusedVariables false
set_option maxRecDepth 100000 in
theorem segmentOne_mixed : Tryz.prog.follows .mixedOrders = true := by kernel_rfl
set_option maxRecDepth 100000 in
theorem segmentOne_plain : AM.noNumB Tryz.prog = true := by kernel_rfl
def segmentOne_v : AM.AV := .agg AM.kindsL
set_option maxRecDepth 100000 in
theorem segmentOne_told17 : AM.isTrue (AM.runR Tryz.prog AM.noExt 100000 (.call 17 []) (AM.gHeap 0 segmentOne_v)) = true := by kernel_rfl
set_option maxRecDepth 100000 in
theorem segmentOne_told3 : AM.isTrue (AM.runR Tryz.prog AM.noExt 100000 (.call 3 []) (AM.gHeap 0 segmentOne_v)) = true := by kernel_rfl
theorem segmentOne_types : ([70, 71, 3].all fun t => AM.plainT Tryz.prog 40 t) = true := by kernel_rfl
theorem segmentOne_cells : AM.plainC AM.kindsL = true := by kernel_rfl
theorem segmentOne_flat : AM.flatD Tryz.prog 5 189 (Rows.laid_leafmesh_comm_kinds (H := Unit)) = some segmentOne_v.cells := by kernel_rfl
theorem segmentOne_glob : Tryz.prog.globalNamed "leafmesh/comm.kinds" = some 0 := by kernel_rfl
theorem segmentOne_gtype : (Tryz.prog.globals[0]?).map (·.type) = some 189 := by kernel_rfl
theorem segmentOne_own : ownKnob Tryz.prog.godebug = none := by kernel_rfl
theorem segmentOne_ext : AM.ExtOK Tryz.prog AM.XX := AM.closedG_ok segmentOne_mixed segmentOne_plain AM.extOK_none segmentOne_cells _ (fun g hg => by simp only [List.mem_cons, List.not_mem_nil, or_false] at hg; rcases hg with rfl | rfl; exact ⟨100000, segmentOne_told17⟩; exact ⟨100000, segmentOne_told3⟩)
theorem segmentOne_wp : ∀ (s : AM.Hq) (xs : List AM.AV), s 0 = some (true, .glob 0 segmentOne_v) → AM.ArgL Tryz.prog s 40 [70, 71, 3] xs → AM.wC Tryz.prog AM.XX 8 xs (fun v _ => v = .bool true) s := AM.One_wp
theorem segmentOne_door (os : Os) (args : Array Value) : laidMetH Tryz.prog [("leafmesh/comm.kinds", Rows.laid_leafmesh_comm_kinds)] ((World.doorLaid Tryz.prog 28 os).forCall (fun _ _ => 0) ⟨#[], args, []⟩).memory :=
  show laidMet Tryz.prog [("leafmesh/comm.kinds", Rows.laid_leafmesh_comm_kinds)] _ from laidMet_of_run' 8 (by kernel_rfl) (by kernel_rfl)
set_option maxRecDepth 100000 in
theorem segmentOne_lifted (os : Os) (started : os.Started) (H : Type) (enc : TypeId × Value → H) :
    ReturnsInHanded {} Tryz.checked os 8 .any (fun w args => (Rows.segmentOneSpec.pre enc Tryz.prog Tryz.f8 [] false w args ∧ laidMetH Tryz.prog [("leafmesh/comm.kinds", Rows.laid_leafmesh_comm_kinds)] w) ∧ sizedMet enc Tryz.prog Tryz.f8 (OpenSpec.ofChange Rows.segmentOneSpec) false w args)
      (Rows.segmentOneSpec.post enc Tryz.prog Tryz.f8 false true false false) := by
  refine returnsInHanded_of_change_and (C := Tryz.checked) (X := fun w _ => laidMetH Tryz.prog [("leafmesh/comm.kinds", Rows.laid_leafmesh_comm_kinds)] w) (fun _ _ _ hh h => h.of_heap hh) segmentOne_own started (by kernel_rfl) Tryz.func8
    (ChangeSpec.witness_shaped (enc := enc) (C := Tryz.checked) (os := os) (X := fun w _ => laidMetH Tryz.prog [("leafmesh/comm.kinds", Rows.laid_leafmesh_comm_kinds)] w) false (World.doorLaid Tryz.prog 28 os) #[.slice none 0 0, .slice none 0 0, .int .i64 0] 8 rfl (World.shaped_of_RefB (by kernel_rfl) (by kernel_rfl)) (by kernel_rfl) (by kernel_rfl) (by kernel_rfl) (segmentOne_door os _)) ?_
  intro W base args ds gs before hval0 hW _ _ hL _
  have hval : ∀ (j : Nat) t v, Tryz.f8.params[j]? = some t → args[j]? = some v → Value.okWide Tryz.prog W .any base t v := hval0
  have hW' := hW
  obtain ⟨p, q, hA0, hV, rfl, hfz, hnd⟩ := hW
  have hA : DataW.TrodAll enc Tryz.prog W 0 (fun _ => true) true Tryz.f8.params.toList args.toList ds p := hA0
  rw [Tryz.params8] at hA hval
  have hA : DataW.TrodAll enc Tryz.prog W 0 (fun _ => true) true [70, 71, 3] args.toList ds p := hA
  obtain ⟨rfl, rfl⟩ := trodVars_none hV
  clear hA0 hval0 hV
  have hA2 := hA
  obtain ⟨v0, vs0, d0, ds0, p0, q0, hargs0, rfl, rfl, h0, r0⟩ := trodAll_cons hA2
  obtain ⟨v1, vs1, d1, ds1, p1, q1, hargs1, rfl, rfl, h1, r1⟩ := trodAll_cons r0
  obtain ⟨v2, vs2, d2, ds2, p2, q2, hargs2, rfl, rfl, h2, r2⟩ := trodAll_cons r1
  obtain ⟨_, rfl, rfl⟩ := trodAll_nil r2
  obtain ⟨elem, fr, hblk⟩ := AM.laid_block (show laidMet Tryz.prog [("leafmesh/comm.kinds", Rows.laid_leafmesh_comm_kinds)] W from hL) segmentOne_glob segmentOne_gtype segmentOne_flat
  refine (AM.law_of_wpG (g := segmentOne_v) (ts := [70, 71, 3]) segmentOne_mixed segmentOne_plain segmentOne_ext 40 segmentOne_types segmentOne_cells segmentOne_wp hblk hA fun j t v h1 h2 => hval j t v (by simpa using h1) h2).mono fun e W' ⟨he, hg⟩ => ?_
  subst he
  exact ⟨_, rfl, AM.post_of_below (pv := []) hW' hg (fun _ _ _ => (trodAll_cons_mk (shut_bool Tryz.underlying4 _) trodAll_mk0)) (fun sp hsp => AM.trodAll_keep hg sp 40 [70, 71, 3] _ _ _ segmentOne_types hA fun x hx => hsp x (by simpa using hx)) (fun _ _ => rfl) rfl
    (ok_one (by kernel_rfl) rfl (okWide_bool_mk Tryz.underlying4 _))⟩
theorem segmentOne_row : Rows.SegmentOneSaid :=
  OpenClaim.holds_of_wide 8 Tryz.f8 rfl rfl rfl rfl rfl rfl rfl ⟨rfl, rfl, rfl, rfl, rfl⟩ rfl rfl rfl rfl rfl (by kernel_rfl) Tryz.func8 (by kernel_rfl)
    (of_decide_eq_true (by kernel_rfl)) (by unfold Func.isWrapper; first | (rw [if_pos (by decide +kernel)]; kernel_rfl) | (rw [if_neg (by decide +kernel)]; exact ⟨rfl, rfl⟩))
    (fun os started H enc _ => segmentOne_lifted os started H enc)
theorem segmentOne_proved : Rows.SegmentOneCardSaid :=
  Claim7.holds_tied_plain_at .later [] [.data] true Rows.segmentOneCard.stood.harness Rows.segmentOneCard.stood.looks
    segmentOne_row (fun _ h => by cases h) (by kernel_rfl) (fun _ h => by cases h) segmentOne_row_tie rfl ⟨rfl, rfl⟩ (by kernel_rfl) rfl
    (fun f fn hf hfn => by
      obtain rfl : f = 8 := Option.some.inj ((show Tryz.prog.funcNamed "leafmesh/leafmeshlaw25.SegmentOne" = some 8 by kernel_rfl).symm.trans hf) |>.symm
      obtain rfl : fn = Tryz.f8 := (Option.some.inj (Tryz.func8.symm.trans hfn)).symm
      exact ⟨by kernel_rfl, fun j t ht => by
        rw [Tryz.params8] at ht
        have hm : t ∈ [70, 71, 3] := by simpa using Array.mem_of_getElem? ht
        have hall : ([70, 71, 3].all fun u => !Tryz.prog.wantsStandIn u) = true := by kernel_rfl
        exact (show Tryz.prog.wantsStandIn t = false by simpa using List.all_eq_true.1 hall t hm)⟩)
    (by kernel_rfl)
#print axioms segmentOne_proved
end Go.Proofs.YtgehkpnggfnapaaGreatDoor
