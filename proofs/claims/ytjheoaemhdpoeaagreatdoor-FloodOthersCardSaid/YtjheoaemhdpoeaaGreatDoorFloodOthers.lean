/- The law FloodOthers returns true for every input; its row lists one package variable, a table of numbers, which is tied to the program's text. No other condition. -/
import Derived.Test.YtjheoaemhdpoeaaGreatDoorRows
import Derived.Test.YtjheoaemhdpoeaaGreatDoorCards
import Derived.Test.YtjheoaemhdpoeaaGreatDoorTie
import Derived.Test.YtjheoaemhdpoeaaGreatDoorE
import Derived.Test.YtjheoaemhdpoeaaGreatDoorS
import Derived.LaidMore
import Derived.LaidOnce
import Derived.LaidLaws
import Derived.SevenTiedAt
import Derived.Stop.Joined
namespace Go.Proofs.YtjheoaemhdpoeaaGreatDoor
open Go Go.ChangeShapes Go.WideShapes Go.ChangeAt Go.RowKit
set_option linter.unusedVariables false
set_option maxRecDepth 100000 in
theorem floodOthers_mixed : Tryz.prog.follows .mixedOrders = true := by kernel_rfl
set_option maxRecDepth 100000 in
theorem floodOthers_plain : AM.noNumB Tryz.prog = true := by kernel_rfl
def floodOthers_v : AM.AV := .agg AM.kindsL
set_option maxRecDepth 100000 in
theorem floodOthers_told10 : AM.isTrue (AM.runR Tryz.prog (AM.orX (AM.sortedX 3 48 [(49, 85, 118)]) (AM.sortedUX 35 70 101 42)) 100000 (.call 10 []) (AM.gHeap 0 floodOthers_v)) = true := by kernel_rfl
set_option maxRecDepth 100000 in
theorem floodOthers_told5 : AM.isTrue (AM.runR Tryz.prog (AM.orX (AM.sortedX 3 48 [(49, 85, 118)]) (AM.sortedUX 35 70 101 42)) 100000 (.call 5 []) (AM.gHeap 0 floodOthers_v)) = true := by kernel_rfl
theorem floodOthers_types : ([63, 3, 3].all fun t => AM.plainT Tryz.prog 40 t) = true := by kernel_rfl
theorem floodOthers_cells : AM.plainC AM.kindsL = true := by kernel_rfl
theorem floodOthers_flat : AM.flatD Tryz.prog 5 171 (Rows.laid_leafmesh_comm_kinds (H := Unit)) = some floodOthers_v.cells := by kernel_rfl
theorem floodOthers_glob : Tryz.prog.globalNamed "leafmesh/comm.kinds" = some 0 := by kernel_rfl
theorem floodOthers_gtype : (Tryz.prog.globals[0]?).map (·.type) = some 171 := by kernel_rfl
theorem floodOthers_own : ownKnob Tryz.prog.godebug = none := by kernel_rfl
theorem floodOthers_ext0 : AM.ExtOK Tryz.prog AM.X0 := AM.closedG_ok floodOthers_mixed floodOthers_plain (AM.orX_ok (AM.sortedX_ok sortedOK) (AM.sortedUX_ok ⟨floodOthers_mixed, AM.noNum_of floodOthers_plain, AM.extOK_none⟩ AM.SK.kSorted)) floodOthers_cells _ (fun g hg => by simp only [List.mem_cons, List.not_mem_nil, or_false] at hg; rcases hg with rfl | rfl; exact ⟨100000, floodOthers_told10⟩; exact ⟨100000, floodOthers_told5⟩)
theorem floodOthers_ext : AM.ExtOK Tryz.prog AM.XX := AM.orX_ok (AM.limX_ok floodOthers_mixed floodOthers_plain floodOthers_ext0 _) (AM.orX_ok (AM.sortedUX_ok ⟨floodOthers_mixed, AM.noNum_of floodOthers_plain, AM.extOK_none⟩ AM.SK.kSorted) floodOthers_ext0)
theorem floodOthers_wp : ∀ (s : AM.Hq) (xs : List AM.AV), s 0 = some (true, .glob 0 floodOthers_v) → AM.ArgL Tryz.prog s 40 [63, 3, 3] xs → AM.wC Tryz.prog AM.XX 6 xs (fun v _ => v = .bool true) s := AM.FOt_wp
theorem floodOthers_door (os : Os) (args : Array Value) : laidMetH Tryz.prog [("leafmesh/comm.kinds", Rows.laid_leafmesh_comm_kinds)] ((World.doorLaid Tryz.prog 28 os).forCall (fun _ _ => 0) ⟨#[], args, []⟩).memory :=
  show laidMet Tryz.prog [("leafmesh/comm.kinds", Rows.laid_leafmesh_comm_kinds)] _ from laidMet_of_run' 8 (by kernel_rfl) (by kernel_rfl)
set_option maxRecDepth 100000 in
theorem floodOthers_lifted (os : Os) (started : os.Started) (H : Type) (enc : TypeId × Value → H) :
    ReturnsInHanded {} Tryz.checked os 6 .any (fun w args => (Rows.floodOthersSpec.pre enc Tryz.prog Tryz.f6 [] false w args ∧ laidMetH Tryz.prog [("leafmesh/comm.kinds", Rows.laid_leafmesh_comm_kinds)] w) ∧ sizedMet enc Tryz.prog Tryz.f6 (OpenSpec.ofChange Rows.floodOthersSpec) false w args)
      (Rows.floodOthersSpec.post enc Tryz.prog Tryz.f6 false true false false) := by
  refine returnsInHanded_of_change_and (C := Tryz.checked) (X := fun w _ => laidMetH Tryz.prog [("leafmesh/comm.kinds", Rows.laid_leafmesh_comm_kinds)] w) (fun _ _ _ hh h => h.of_heap hh) floodOthers_own started (by kernel_rfl) Tryz.func6
    (ChangeSpec.witness_shaped (enc := enc) (C := Tryz.checked) (os := os) (X := fun w _ => laidMetH Tryz.prog [("leafmesh/comm.kinds", Rows.laid_leafmesh_comm_kinds)] w) false (World.doorLaid Tryz.prog 28 os) #[.slice none 0 0, .int .i64 0, .int .i64 0] 8 rfl (World.shaped_of_RefB (by kernel_rfl) (by kernel_rfl)) (by kernel_rfl) (by kernel_rfl) (by kernel_rfl) (floodOthers_door os _)) ?_
  intro W base args ds gs before hval0 hW _ _ hL _
  have hval : ∀ (j : Nat) t v, Tryz.f6.params[j]? = some t → args[j]? = some v → Value.okWide Tryz.prog W .any base t v := hval0
  have hW' := hW
  obtain ⟨p, q, hA0, hV, rfl, hfz, hnd⟩ := hW
  have hA : DataW.TrodAll enc Tryz.prog W 0 (fun _ => true) true Tryz.f6.params.toList args.toList ds p := hA0
  rw [Tryz.params6] at hA hval
  have hA : DataW.TrodAll enc Tryz.prog W 0 (fun _ => true) true [63, 3, 3] args.toList ds p := hA
  obtain ⟨rfl, rfl⟩ := trodVars_none hV
  clear hA0 hval0 hV
  have hA2 := hA
  obtain ⟨v0, vs0, d0, ds0, p0, q0, hargs0, rfl, rfl, h0, r0⟩ := trodAll_cons hA2
  obtain ⟨v1, vs1, d1, ds1, p1, q1, hargs1, rfl, rfl, h1, r1⟩ := trodAll_cons r0
  obtain ⟨v2, vs2, d2, ds2, p2, q2, hargs2, rfl, rfl, h2, r2⟩ := trodAll_cons r1
  obtain ⟨_, rfl, rfl⟩ := trodAll_nil r2
  obtain ⟨elem, fr, hblk⟩ := AM.laid_block (show laidMet Tryz.prog [("leafmesh/comm.kinds", Rows.laid_leafmesh_comm_kinds)] W from hL) floodOthers_glob floodOthers_gtype floodOthers_flat
  refine (AM.law_of_wpG (g := floodOthers_v) (ts := [63, 3, 3]) floodOthers_mixed floodOthers_plain floodOthers_ext 40 floodOthers_types floodOthers_cells floodOthers_wp hblk hA fun j t v h1 h2 => hval j t v (by simpa using h1) h2).mono fun e W' ⟨he, hg⟩ => ?_
  subst he
  exact ⟨_, rfl, AM.post_of_below (pv := []) hW' hg (fun _ _ _ => (trodAll_cons_mk (shut_bool Tryz.underlying4 _) trodAll_mk0)) (fun sp hsp => AM.trodAll_keep hg sp 40 [63, 3, 3] _ _ _ floodOthers_types hA fun x hx => hsp x (by simpa using hx)) (fun _ _ => rfl) rfl
    (ok_one (by kernel_rfl) rfl (okWide_bool_mk Tryz.underlying4 _))⟩
theorem floodOthers_row : Rows.FloodOthersSaid :=
  OpenClaim.holds_of_wide 6 Tryz.f6 rfl rfl rfl rfl rfl rfl rfl ⟨rfl, rfl, rfl, rfl, rfl⟩ rfl rfl rfl rfl rfl (by kernel_rfl) Tryz.func6 (by kernel_rfl)
    (of_decide_eq_true (by kernel_rfl)) (by unfold Func.isWrapper; first | (rw [if_pos (by decide +kernel)]; kernel_rfl) | (rw [if_neg (by decide +kernel)]; exact ⟨rfl, rfl⟩))
    (fun os started H enc _ => floodOthers_lifted os started H enc)
theorem floodOthers_proved : Rows.FloodOthersCardSaid :=
  Claim7.holds_tied_plain_at .later [] [.data] true Rows.floodOthersCard.stood.harness Rows.floodOthersCard.stood.looks
    floodOthers_row (fun _ h => by cases h) (by kernel_rfl) (fun _ h => by cases h) floodOthers_row_tie rfl ⟨rfl, rfl⟩ (by kernel_rfl) rfl
    (fun f fn hf hfn => by
      obtain rfl : f = 6 := Option.some.inj ((show Tryz.prog.funcNamed "leafmesh/leafmeshlaw28.FloodOthers" = some 6 by kernel_rfl).symm.trans hf) |>.symm
      obtain rfl : fn = Tryz.f6 := (Option.some.inj (Tryz.func6.symm.trans hfn)).symm
      exact ⟨by kernel_rfl, fun j t ht => by
        rw [Tryz.params6] at ht
        have hm : t ∈ [63, 3, 3] := by simpa using Array.mem_of_getElem? ht
        have hall : ([63, 3, 3].all fun u => !Tryz.prog.wantsStandIn u) = true := by kernel_rfl
        exact (show Tryz.prog.wantsStandIn t = false by simpa using List.all_eq_true.1 hall t hm)⟩)
    (by kernel_rfl)
#print axioms floodOthers_proved
end Go.Proofs.YtjheoaemhdpoeaaGreatDoor
