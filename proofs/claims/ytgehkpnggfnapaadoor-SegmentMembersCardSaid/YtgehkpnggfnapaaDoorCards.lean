/-
  DERIVED. GIVEN WITH THE SEED: THE CARDS: each row of YtgehkpnggfnapaaDoorRows.lean that lists a variable, with what it lists TIED to the program's text (the seventh form; the later family's looks); each row that meets fmt, with fmt's text TOLD by the authors' own Lean function (tested against real Go, not proved from fmt's source: count such statements apart). THE CARD IS WHAT COUNTS. Prove the row's statement (the work); the ties are given (YtgehkpnggfnapaaDoorTie.lean); close each card by the builder's one call (the guide's Derived/Test/ToyasCard.lean, 'card_holds'). Laid BY PROGRAM, IN A SANDBOX (cutbox-door.mjs). By AI agents, Wed Nov 11 2026. No macro, syntax, notation, axiom, sorry.
-/
import Derived.Test.YtgehkpnggfnapaaDoorRows
import GoSem.ClaimSeven
namespace Go.Proofs.YtgehkpnggfnapaaDoor
namespace Rows

/-- THE TIED CARD OF 'leafmeshlaw25.SegmentMembers'. -/
def segmentMembersCard : Claim7 := { stood := { row := segmentMembersRow, standIns := [], harness := (true, "0077eb54d57a5f928a1aa8acf7f99cf445a4176a9b8ca877ef82dd11a908c3d4"), looks := false }, kinds := [], alts := [], laidByText := true, laidKinds := [.data], laidTests := true, laidLooks := .later }
def SegmentMembersCardSaid : Prop := Claim7.holds Tryd.pinned (.plain (OpenSpec.ofChange segmentMembersSpec)) segmentMembersCard

/-- THE TIED CARD OF 'leafmeshlaw25.SegmentElect'. -/
def segmentElectCard : Claim7 := { stood := { row := segmentElectRow, standIns := [], harness := (true, "0077eb54d57a5f928a1aa8acf7f99cf445a4176a9b8ca877ef82dd11a908c3d4"), looks := false }, kinds := [], alts := [], laidByText := true, laidKinds := [.data], laidTests := true, laidLooks := .later }
def SegmentElectCardSaid : Prop := Claim7.holds Tryd.pinned (.plain (OpenSpec.ofChange segmentElectSpec)) segmentElectCard

/-- THE SECOND FORM's CARD OF 'leafmeshlaw25.SegmentMembers'. -/
def segmentMembersUptoCard : Claim7 := { stood := { row := segmentMembersUptoRow, standIns := [], harness := (true, "0077eb54d57a5f928a1aa8acf7f99cf445a4176a9b8ca877ef82dd11a908c3d4"), looks := false }, kinds := [], alts := [], laidByText := true, laidKinds := [.data], laidTests := true, laidLooks := .later }
def SegmentMembersUptoCardSaid : Prop := Claim7.holds Tryd.pinned (.plain (OpenSpec.upto segmentMembersSpec)) segmentMembersUptoCard

/-- THE SECOND FORM's CARD OF 'leafmeshlaw25.SegmentElect'. -/
def segmentElectUptoCard : Claim7 := { stood := { row := segmentElectUptoRow, standIns := [], harness := (true, "0077eb54d57a5f928a1aa8acf7f99cf445a4176a9b8ca877ef82dd11a908c3d4"), looks := false }, kinds := [], alts := [], laidByText := true, laidKinds := [.data], laidTests := true, laidLooks := .later }
def SegmentElectUptoCardSaid : Prop := Claim7.holds Tryd.pinned (.plain (OpenSpec.upto segmentElectSpec)) segmentElectUptoCard
end Rows
end Go.Proofs.YtgehkpnggfnapaaDoor
