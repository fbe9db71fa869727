/-
  DERIVED. GIVEN WITH THE SEED: THE CARDS: each row of YtjheoaemhdpoeaaGreatDoorRows.lean that lists a variable, with what it lists TIED to the program's text (the seventh form; the later family's looks); each row that meets fmt, with fmt's text TOLD by the authors' own Lean function (tested against real Go, not proved from fmt's source: count such statements apart). THE CARD IS WHAT COUNTS. Prove the row's statement (the work); the ties are given (YtjheoaemhdpoeaaGreatDoorTie.lean); close each card by the builder's one call (the guide's Derived/Test/ToyasCard.lean, 'card_holds'). Laid BY PROGRAM, IN A SANDBOX (cutbox-door.mjs). By AI agents, Wed Nov 11 2026. No macro, syntax, notation, axiom, sorry.
-/
import Derived.Test.YtjheoaemhdpoeaaGreatDoorRows
import GoSem.ClaimSeven
namespace Go.Proofs.YtjheoaemhdpoeaaGreatDoor
namespace Rows

/-- THE TIED CARD OF 'leafmeshlaw28.FloodLists'. -/
def floodListsCard : Claim7 := { stood := { row := floodListsRow, standIns := [], harness := (true, "c361f5953a3974785454436e0eb744dcfc6f35c07b93c6895982404ce922c99e"), looks := true }, kinds := [], alts := [], laidByText := true, laidKinds := [.data], laidTests := true, laidLooks := .later }
def FloodListsCardSaid : Prop := Claim7.holds Tryz.pinned (.plain (OpenSpec.ofChange floodListsSpec)) floodListsCard

/-- THE TIED CARD OF 'leafmeshlaw28.FloodCopies'. -/
def floodCopiesCard : Claim7 := { stood := { row := floodCopiesRow, standIns := [], harness := (true, "c361f5953a3974785454436e0eb744dcfc6f35c07b93c6895982404ce922c99e"), looks := true }, kinds := [], alts := [], laidByText := true, laidKinds := [.data], laidTests := true, laidLooks := .later }
def FloodCopiesCardSaid : Prop := Claim7.holds Tryz.pinned (.plain (OpenSpec.ofChange floodCopiesSpec)) floodCopiesCard

/-- THE TIED CARD OF 'leafmeshlaw28.FloodKnown'. -/
def floodKnownCard : Claim7 := { stood := { row := floodKnownRow, standIns := [], harness := (true, "c361f5953a3974785454436e0eb744dcfc6f35c07b93c6895982404ce922c99e"), looks := true }, kinds := [], alts := [], laidByText := true, laidKinds := [.data], laidTests := true, laidLooks := .later }
def FloodKnownCardSaid : Prop := Claim7.holds Tryz.pinned (.plain (OpenSpec.ofChange floodKnownSpec)) floodKnownCard

/-- THE TIED CARD OF 'leafmeshlaw28.FloodOthers'. -/
def floodOthersCard : Claim7 := { stood := { row := floodOthersRow, standIns := [], harness := (true, "c361f5953a3974785454436e0eb744dcfc6f35c07b93c6895982404ce922c99e"), looks := true }, kinds := [], alts := [], laidByText := true, laidKinds := [.data], laidTests := true, laidLooks := .later }
def FloodOthersCardSaid : Prop := Claim7.holds Tryz.pinned (.plain (OpenSpec.ofChange floodOthersSpec)) floodOthersCard

/-- THE TIED CARD OF 'leafmeshlaw28.FloodIgnores'. -/
def floodIgnoresCard : Claim7 := { stood := { row := floodIgnoresRow, standIns := [], harness := (true, "c361f5953a3974785454436e0eb744dcfc6f35c07b93c6895982404ce922c99e"), looks := true }, kinds := [], alts := [], laidByText := true, laidKinds := [.data], laidTests := true, laidLooks := .later }
def FloodIgnoresCardSaid : Prop := Claim7.holds Tryz.pinned (.plain (OpenSpec.ofChange floodIgnoresSpec)) floodIgnoresCard

/-- THE SECOND FORM's CARD OF 'leafmeshlaw28.FloodLists'. -/
def floodListsUptoCard : Claim7 := { stood := { row := floodListsUptoRow, standIns := [], harness := (true, "c361f5953a3974785454436e0eb744dcfc6f35c07b93c6895982404ce922c99e"), looks := true }, kinds := [], alts := [], laidByText := true, laidKinds := [.data], laidTests := true, laidLooks := .later }
def FloodListsUptoCardSaid : Prop := Claim7.holds Tryz.pinned (.plain (OpenSpec.upto floodListsSpec)) floodListsUptoCard

/-- THE SECOND FORM's CARD OF 'leafmeshlaw28.FloodCopies'. -/
def floodCopiesUptoCard : Claim7 := { stood := { row := floodCopiesUptoRow, standIns := [], harness := (true, "c361f5953a3974785454436e0eb744dcfc6f35c07b93c6895982404ce922c99e"), looks := true }, kinds := [], alts := [], laidByText := true, laidKinds := [.data], laidTests := true, laidLooks := .later }
def FloodCopiesUptoCardSaid : Prop := Claim7.holds Tryz.pinned (.plain (OpenSpec.upto floodCopiesSpec)) floodCopiesUptoCard

/-- THE SECOND FORM's CARD OF 'leafmeshlaw28.FloodKnown'. -/
def floodKnownUptoCard : Claim7 := { stood := { row := floodKnownUptoRow, standIns := [], harness := (true, "c361f5953a3974785454436e0eb744dcfc6f35c07b93c6895982404ce922c99e"), looks := true }, kinds := [], alts := [], laidByText := true, laidKinds := [.data], laidTests := true, laidLooks := .later }
def FloodKnownUptoCardSaid : Prop := Claim7.holds Tryz.pinned (.plain (OpenSpec.upto floodKnownSpec)) floodKnownUptoCard

/-- THE SECOND FORM's CARD OF 'leafmeshlaw28.FloodOthers'. -/
def floodOthersUptoCard : Claim7 := { stood := { row := floodOthersUptoRow, standIns := [], harness := (true, "c361f5953a3974785454436e0eb744dcfc6f35c07b93c6895982404ce922c99e"), looks := true }, kinds := [], alts := [], laidByText := true, laidKinds := [.data], laidTests := true, laidLooks := .later }
def FloodOthersUptoCardSaid : Prop := Claim7.holds Tryz.pinned (.plain (OpenSpec.upto floodOthersSpec)) floodOthersUptoCard

/-- THE SECOND FORM's CARD OF 'leafmeshlaw28.FloodIgnores'. -/
def floodIgnoresUptoCard : Claim7 := { stood := { row := floodIgnoresUptoRow, standIns := [], harness := (true, "c361f5953a3974785454436e0eb744dcfc6f35c07b93c6895982404ce922c99e"), looks := true }, kinds := [], alts := [], laidByText := true, laidKinds := [.data], laidTests := true, laidLooks := .later }
def FloodIgnoresUptoCardSaid : Prop := Claim7.holds Tryz.pinned (.plain (OpenSpec.upto floodIgnoresSpec)) floodIgnoresUptoCard
end Rows
end Go.Proofs.YtjheoaemhdpoeaaGreatDoor
