/-
  DERIVED. GIVEN WITH THE SEED: THE CARDS: each row of YtgehkpnggfnapaaGreatDoorRows.lean that lists a variable, with what it lists TIED to the program's text (the seventh form; the later family's looks); each row that meets fmt, with fmt's text TOLD by the authors' own Lean function (tested against real Go, not proved from fmt's source: count such statements apart). THE CARD IS WHAT COUNTS. Prove the row's statement (the work); the ties are given (YtgehkpnggfnapaaGreatDoorTie.lean); close each card by the builder's one call (the guide's Derived/Test/ToyasCard.lean, 'card_holds'). Laid BY PROGRAM, IN A SANDBOX (cutbox-door.mjs). By AI agents, Wed Nov 11 2026. No macro, syntax, notation, axiom, sorry.
-/
import Derived.Test.YtgehkpnggfnapaaGreatDoorRows
import GoSem.ClaimSeven
namespace Go.Proofs.YtgehkpnggfnapaaGreatDoor
namespace Rows

/-- THE TIED CARD OF 'leafmeshlaw25.SegmentKnown'. -/
def segmentKnownCard : Claim7 := { stood := { row := segmentKnownRow, standIns := [], harness := (true, "9f053b43726969d4581ee52cfe6a5f83a14fabbf98fc8095a8a19f620bc890cd"), looks := true }, kinds := [], alts := [], laidByText := true, laidKinds := [.data], laidTests := true, laidLooks := .later }
def SegmentKnownCardSaid : Prop := Claim7.holds Tryz.pinned (.plain (OpenSpec.ofChange segmentKnownSpec)) segmentKnownCard

/-- THE TIED CARD OF 'leafmeshlaw25.SegmentOrder'. -/
def segmentOrderCard : Claim7 := { stood := { row := segmentOrderRow, standIns := [], harness := (true, "9f053b43726969d4581ee52cfe6a5f83a14fabbf98fc8095a8a19f620bc890cd"), looks := true }, kinds := [], alts := [], laidByText := true, laidKinds := [.data], laidTests := true, laidLooks := .later }
def SegmentOrderCardSaid : Prop := Claim7.holds Tryz.pinned (.plain (OpenSpec.ofChange segmentOrderSpec)) segmentOrderCard

/-- THE TIED CARD OF 'leafmeshlaw25.SegmentTurns'. -/
def segmentTurnsCard : Claim7 := { stood := { row := segmentTurnsRow, standIns := [], harness := (true, "9f053b43726969d4581ee52cfe6a5f83a14fabbf98fc8095a8a19f620bc890cd"), looks := true }, kinds := [], alts := [], laidByText := true, laidKinds := [.data], laidTests := true, laidLooks := .later }
def SegmentTurnsCardSaid : Prop := Claim7.holds Tryz.pinned (.plain (OpenSpec.ofChange segmentTurnsSpec)) segmentTurnsCard

/-- THE TIED CARD OF 'leafmeshlaw25.SegmentSteady'. -/
def segmentSteadyCard : Claim7 := { stood := { row := segmentSteadyRow, standIns := [], harness := (true, "9f053b43726969d4581ee52cfe6a5f83a14fabbf98fc8095a8a19f620bc890cd"), looks := true }, kinds := [], alts := [], laidByText := true, laidKinds := [.data], laidTests := true, laidLooks := .later }
def SegmentSteadyCardSaid : Prop := Claim7.holds Tryz.pinned (.plain (OpenSpec.ofChange segmentSteadySpec)) segmentSteadyCard

/-- THE TIED CARD OF 'leafmeshlaw25.SegmentForwarders'. -/
def segmentForwardersCard : Claim7 := { stood := { row := segmentForwardersRow, standIns := [], harness := (true, "9f053b43726969d4581ee52cfe6a5f83a14fabbf98fc8095a8a19f620bc890cd"), looks := true }, kinds := [], alts := [], laidByText := true, laidKinds := [.data], laidTests := true, laidLooks := .later }
def SegmentForwardersCardSaid : Prop := Claim7.holds Tryz.pinned (.plain (OpenSpec.ofChange segmentForwardersSpec)) segmentForwardersCard

/-- THE TIED CARD OF 'leafmeshlaw25.SegmentOne'. -/
def segmentOneCard : Claim7 := { stood := { row := segmentOneRow, standIns := [], harness := (true, "9f053b43726969d4581ee52cfe6a5f83a14fabbf98fc8095a8a19f620bc890cd"), looks := true }, kinds := [], alts := [], laidByText := true, laidKinds := [.data], laidTests := true, laidLooks := .later }
def SegmentOneCardSaid : Prop := Claim7.holds Tryz.pinned (.plain (OpenSpec.ofChange segmentOneSpec)) segmentOneCard

/-- THE SECOND FORM's CARD OF 'leafmeshlaw25.SegmentKnown'. -/
def segmentKnownUptoCard : Claim7 := { stood := { row := segmentKnownUptoRow, standIns := [], harness := (true, "9f053b43726969d4581ee52cfe6a5f83a14fabbf98fc8095a8a19f620bc890cd"), looks := true }, kinds := [], alts := [], laidByText := true, laidKinds := [.data], laidTests := true, laidLooks := .later }
def SegmentKnownUptoCardSaid : Prop := Claim7.holds Tryz.pinned (.plain (OpenSpec.upto segmentKnownSpec)) segmentKnownUptoCard

/-- THE SECOND FORM's CARD OF 'leafmeshlaw25.SegmentOrder'. -/
def segmentOrderUptoCard : Claim7 := { stood := { row := segmentOrderUptoRow, standIns := [], harness := (true, "9f053b43726969d4581ee52cfe6a5f83a14fabbf98fc8095a8a19f620bc890cd"), looks := true }, kinds := [], alts := [], laidByText := true, laidKinds := [.data], laidTests := true, laidLooks := .later }
def SegmentOrderUptoCardSaid : Prop := Claim7.holds Tryz.pinned (.plain (OpenSpec.upto segmentOrderSpec)) segmentOrderUptoCard

/-- THE SECOND FORM's CARD OF 'leafmeshlaw25.SegmentTurns'. -/
def segmentTurnsUptoCard : Claim7 := { stood := { row := segmentTurnsUptoRow, standIns := [], harness := (true, "9f053b43726969d4581ee52cfe6a5f83a14fabbf98fc8095a8a19f620bc890cd"), looks := true }, kinds := [], alts := [], laidByText := true, laidKinds := [.data], laidTests := true, laidLooks := .later }
def SegmentTurnsUptoCardSaid : Prop := Claim7.holds Tryz.pinned (.plain (OpenSpec.upto segmentTurnsSpec)) segmentTurnsUptoCard

/-- THE SECOND FORM's CARD OF 'leafmeshlaw25.SegmentSteady'. -/
def segmentSteadyUptoCard : Claim7 := { stood := { row := segmentSteadyUptoRow, standIns := [], harness := (true, "9f053b43726969d4581ee52cfe6a5f83a14fabbf98fc8095a8a19f620bc890cd"), looks := true }, kinds := [], alts := [], laidByText := true, laidKinds := [.data], laidTests := true, laidLooks := .later }
def SegmentSteadyUptoCardSaid : Prop := Claim7.holds Tryz.pinned (.plain (OpenSpec.upto segmentSteadySpec)) segmentSteadyUptoCard

/-- THE SECOND FORM's CARD OF 'leafmeshlaw25.SegmentForwarders'. -/
def segmentForwardersUptoCard : Claim7 := { stood := { row := segmentForwardersUptoRow, standIns := [], harness := (true, "9f053b43726969d4581ee52cfe6a5f83a14fabbf98fc8095a8a19f620bc890cd"), looks := true }, kinds := [], alts := [], laidByText := true, laidKinds := [.data], laidTests := true, laidLooks := .later }
def SegmentForwardersUptoCardSaid : Prop := Claim7.holds Tryz.pinned (.plain (OpenSpec.upto segmentForwardersSpec)) segmentForwardersUptoCard

/-- THE SECOND FORM's CARD OF 'leafmeshlaw25.SegmentOne'. -/
def segmentOneUptoCard : Claim7 := { stood := { row := segmentOneUptoRow, standIns := [], harness := (true, "9f053b43726969d4581ee52cfe6a5f83a14fabbf98fc8095a8a19f620bc890cd"), looks := true }, kinds := [], alts := [], laidByText := true, laidKinds := [.data], laidTests := true, laidLooks := .later }
def SegmentOneUptoCardSaid : Prop := Claim7.holds Tryz.pinned (.plain (OpenSpec.upto segmentOneSpec)) segmentOneUptoCard
end Rows
end Go.Proofs.YtgehkpnggfnapaaGreatDoor
