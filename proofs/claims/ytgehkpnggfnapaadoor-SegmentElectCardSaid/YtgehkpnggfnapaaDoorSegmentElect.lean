/- The law SegmentElect returns true for every input; its row lists one package variable, a table of numbers, which is tied to the program's text. No other condition. -/
import Derived.Test.YtgehkpnggfnapaaDoorRows
import Derived.Test.YtgehkpnggfnapaaDoorCards
import Derived.Test.YtgehkpnggfnapaaDoorTie
import Derived.Test.YtgehkpnggfnapaaDoorD
import Derived.LaidMore
import Derived.LaidOnce
import Derived.LaidLaws
import Derived.SevenTiedAt
import Derived.Stop.Joined
namespace Go.Proofs.YtgehkpnggfnapaaDoor
open Go Go.ChangeShapes Go.WideShapes Go.ChangeAt Go.RowKit
set_option linter.unusedVariables false
set_option maxRecDepth 100000 in
theorem segmentElect_mixed : Tryd.prog.follows .mixedOrders = true := by kernel_rfl
set_option maxRecDepth 100000 in
theorem segmentElect_plain : AM.noNumB Tryd.prog = true := by kernel_rfl
def segmentElect_v : AM.AVal := .agg AM.kindsL
set_option maxRecDepth 100000 in
theorem segmentElect_told6 : AM.isTrue (AM.runR Tryd.prog AM.noExt 100000 (.call 6 []) (AM.gHeap 0 segmentElect_v)) = true := by kernel_rfl
theorem segmentElect_types : ([3, 28, 3, 33].all fun t => AM.plainT Tryd.prog 40 t) = true := by kernel_rfl
theorem segmentElect_cells : AM.plainC AM.kindsL = true := by kernel_rfl
theorem segmentElect_flat : AM.flatD Tryd.prog 5 134 (Rows.laid_leafmesh_comm_kinds (H := Unit)) = some segmentElect_v.cells := by kernel_rfl
theorem segmentElect_glob : Tryd.prog.globalNamed "leafmesh/comm.kinds" = some 0 := by kernel_rfl
theorem segmentElect_gtype : (Tryd.prog.globals[0]?).map (·.type) = some 134 := by kernel_rfl
theorem segmentElect_own : ownKnob Tryd.prog.godebug = none := by kernel_rfl
theorem segmentElect_ext : AM.ExtOK Tryd.prog AM.XX := AM.closedG_ok segmentElect_mixed segmentElect_plain AM.extOK_none segmentElect_cells _ (fun g hg => by simp only [List.mem_singleton] at hg; subst hg; exact ⟨100000, segmentElect_told6⟩)
theorem segmentElect_wp : ∀ (s : AM.Heap) (xs : List AM.AVal), s 0 = some (true, .glob 0 segmentElect_v) → AM.ArgL Tryd.prog s 40 [3, 28, 3, 33] xs → AM.wpCall Tryd.prog AM.XX 4 xs (fun v _ => v = .bool true) s := AM.SE_wp
theorem segmentElect_door (os : Os) (args : Array Value) : laidMetH Tryd.prog [("leafmesh/comm.kinds", Rows.laid_leafmesh_comm_kinds)] ((World.doorLaid Tryd.prog 28 os).forCall (fun _ _ => 0) ⟨#[], args, []⟩).memory :=
  show laidMet Tryd.prog [("leafmesh/comm.kinds", Rows.laid_leafmesh_comm_kinds)] _ from laidMet_of_run' 8 (by kernel_rfl) (by kernel_rfl)
set_option maxRecDepth 100000 in
theorem segmentElect_lifted (os : Os) (started : os.Started) (H : Type) (enc : TypeId × Value → H) :
    ReturnsInHanded {} Tryd.checked os 4 .any (fun w args => (Rows.segmentElectSpec.pre enc Tryd.prog Tryd.f4 [] false w args ∧ laidMetH Tryd.prog [("leafmesh/comm.kinds", Rows.laid_leafmesh_comm_kinds)] w) ∧ sizedMet enc Tryd.prog Tryd.f4 (OpenSpec.ofChange Rows.segmentElectSpec) false w args)
      (Rows.segmentElectSpec.post enc Tryd.prog Tryd.f4 false true false false) := by
  refine returnsInHanded_of_change_and (C := Tryd.checked) (X := fun w _ => laidMetH Tryd.prog [("leafmesh/comm.kinds", Rows.laid_leafmesh_comm_kinds)] w) (fun _ _ _ hh h => h.of_heap hh) segmentElect_own started (by kernel_rfl) Tryd.func4
    (ChangeSpec.witness_shaped (enc := enc) (C := Tryd.checked) (os := os) (X := fun w _ => laidMetH Tryd.prog [("leafmesh/comm.kinds", Rows.laid_leafmesh_comm_kinds)] w) false (World.doorLaid Tryd.prog 28 os) #[.int .i64 0, .slice none 0 0, .int .i64 0, .int .u32 0] 8 rfl (World.shaped_of_RefB (by kernel_rfl) (by kernel_rfl)) (by kernel_rfl) (by kernel_rfl) (by kernel_rfl) (segmentElect_door os _)) ?_
  intro W base args ds gs before hval0 hW _ _ hL _
  have hval : ∀ (j : Nat) t v, Tryd.f4.params[j]? = some t → args[j]? = some v → Value.okWide Tryd.prog W .any base t v := hval0
  have hW' := hW
  obtain ⟨p, q, hA0, hV, rfl, hfz, hnd⟩ := hW
  have hA : DataW.TrodAll enc Tryd.prog W 0 (fun _ => true) true Tryd.f4.params.toList args.toList ds p := hA0
  rw [Tryd.params4] at hA hval
  have hA : DataW.TrodAll enc Tryd.prog W 0 (fun _ => true) true [3, 28, 3, 33] args.toList ds p := hA
  obtain ⟨rfl, rfl⟩ := trodVars_none hV
  clear hA0 hval0 hV
  have hA2 := hA
  obtain ⟨v0, vs0, d0, ds0, p0, q0, hargs0, rfl, rfl, h0, r0⟩ := trodAll_cons hA2
  obtain ⟨v1, vs1, d1, ds1, p1, q1, hargs1, rfl, rfl, h1, r1⟩ := trodAll_cons r0
  obtain ⟨v2, vs2, d2, ds2, p2, q2, hargs2, rfl, rfl, h2, r2⟩ := trodAll_cons r1
  obtain ⟨v3, vs3, d3, ds3, p3, q3, hargs3, rfl, rfl, h3, r3⟩ := trodAll_cons r2
  obtain ⟨_, rfl, rfl⟩ := trodAll_nil r3
  obtain ⟨elem, fr, hblk⟩ := AM.laid_block (show laidMet Tryd.prog [("leafmesh/comm.kinds", Rows.laid_leafmesh_comm_kinds)] W from hL) segmentElect_glob segmentElect_gtype segmentElect_flat
  refine (AM.law_of_wpG (g := segmentElect_v) (ts := [3, 28, 3, 33]) segmentElect_mixed segmentElect_plain segmentElect_ext 40 segmentElect_types segmentElect_cells segmentElect_wp hblk hA fun j t v h1 h2 => hval j t v (by simpa using h1) h2).mono fun e W' ⟨he, hg⟩ => ?_
  subst he
  exact ⟨_, rfl, AM.post_of_below (pv := []) hW' hg (fun _ _ _ => (trodAll_cons_mk (shut_bool Tryd.underlying4 _) trodAll_mk0)) (fun sp hsp => AM.trodAll_keep hg sp 40 [3, 28, 3, 33] _ _ _ segmentElect_types hA fun x hx => hsp x (by simpa using hx)) (fun _ _ => rfl) rfl
    (ok_one (by kernel_rfl) rfl (okWide_bool_mk Tryd.underlying4 _))⟩
theorem segmentElect_row : Rows.SegmentElectSaid :=
  OpenClaim.holds_of_wide 4 Tryd.f4 rfl rfl rfl rfl rfl rfl rfl ⟨rfl, rfl, rfl, rfl, rfl⟩ rfl rfl rfl rfl rfl (by kernel_rfl) Tryd.func4 (by kernel_rfl)
    (of_decide_eq_true (by kernel_rfl)) (by unfold Func.isWrapper; first | (rw [if_pos (by decide +kernel)]; kernel_rfl) | (rw [if_neg (by decide +kernel)]; exact ⟨rfl, rfl⟩))
    (fun os started H enc _ => segmentElect_lifted os started H enc)
theorem segmentElect_proved : Rows.SegmentElectCardSaid :=
  Claim7.holds_tied_plain_at .later [] [.data] true Rows.segmentElectCard.stood.harness Rows.segmentElectCard.stood.looks
    segmentElect_row (fun _ h => by cases h) (by kernel_rfl) (fun _ h => by cases h) segmentElect_row_tie rfl ⟨rfl, rfl⟩ (by kernel_rfl) rfl
    (fun f fn hf hfn => by
      obtain rfl : f = 4 := Option.some.inj ((show Tryd.prog.funcNamed "leafmesh/leafmeshlaw25.SegmentElect" = some 4 by kernel_rfl).symm.trans hf) |>.symm
      obtain rfl : fn = Tryd.f4 := (Option.some.inj (Tryd.func4.symm.trans hfn)).symm
      exact ⟨by kernel_rfl, fun j t ht => by
        rw [Tryd.params4] at ht
        have hm : t ∈ [3, 28, 3, 33] := by simpa using Array.mem_of_getElem? ht
        have hall : ([3, 28, 3, 33].all fun u => !Tryd.prog.wantsStandIn u) = true := by kernel_rfl
        exact (show Tryd.prog.wantsStandIn t = false by simpa using List.all_eq_true.1 hall t hm)⟩)
    (by kernel_rfl)
#print axioms segmentElect_proved
end Go.Proofs.YtgehkpnggfnapaaDoor
