/-
  No cell of these rows narrows 'for every input' (looked for: loops, veiled, ifaces, maps, wideKeys, modest, calm, conditions, laid).
  DERIVED. THE GIVEN ROWS OF THIS SEAT. 7 by the template 'for every input the law returns true; each argument reads behind the call as it read before'; 0 by the template 'total and deterministic' (their statements: YtcbmjpekogancaaTotals.lean).
  GIVEN WITH THE SEED: the statements are not yours to turn. If you find one false, say at which input.
  Laid BY PROGRAM, IN A SANDBOX (cutbox-rows.mjs): the forced cells as the released guide's own fill.sh prints them over the translation 921ebf39a65dd3de… (all of the seat's roots in one cut). By AI agents, Wed Nov 11 2026. No macro, syntax, notation, axiom, sorry.
-/
import Derived.Test.YtcbmjpekogancaaChecked
import GoSem.Claim
import GoSem.ClaimJoined
import GoSem.ClaimMapViews
import Derived.JoinedTies
import Derived.KernelRfl
namespace Go.Proofs.Ytcbmjpekogancaa
/- THE CELL 'sum', in the pinned program and in every row, IS THE sha256 OF THE DUMP (.gsa) THAT YtcbmjpekogancaaProg.lean LOADS. Nothing in Lean hashes anything: it is a label: what it is worth is what the hold of that sum in a sandbox is worth. -/
noncomputable def Try.pinned : Pinned := { name := "ytcbmjpekogancaa", sum := "921ebf39a65dd3debc563d545704d05592a6b0cc1e23b577e023a34278c789c4", checked := Try.checked }
namespace Rows
def none {H : Type} : Left H := { results := [], args := [] }

/-- 'leafmeshlaw15.TreeEdges': WHATEVER THE INPUT: true; the input reads as it did. -/
def treeEdgesSpec : ChangeSpec := { name := "treeEdges", fn := fun _ => fun
  | [d1, d2, d3, d4] => { results := [.lit (.bool true)], args := [d1, d2, d3, d4] }
  | _ => none }
def treeEdgesRow : OpenClaim := { program := "ytcbmjpekogancaa", sum := "921ebf39a65dd3debc563d545704d05592a6b0cc1e23b577e023a34278c789c4", func := "leafmesh/leafmeshlaw15.TreeEdges", spec := "treeEdges", unfollowed := true, recurses := true, apart := false }
def TreeEdgesSaid : Prop := treeEdgesRow.holds Try.pinned (OpenSpec.ofChange treeEdgesSpec)

/-- ITS FALSE NEIGHBOUR: 'it returns false'. Refute it at one input. -/
def treeEdgesWrong : ChangeSpec := { name := "treeEdges", fn := fun _ => fun
  | [d1, d2, d3, d4] => { results := [.lit (.bool false)], args := [d1, d2, d3, d4] }
  | _ => none }
def TreeEdgesWrongFalsely : Prop := treeEdgesRow.holds Try.pinned (OpenSpec.ofChange treeEdgesWrong)

/-- 'leafmeshlaw15.TreeNext': WHATEVER THE INPUT: true; the input reads as it did. -/
def treeNextSpec : ChangeSpec := { name := "treeNext", fn := fun _ => fun
  | [d1, d2, d3, d4, d5] => { results := [.lit (.bool true)], args := [d1, d2, d3, d4, d5] }
  | _ => none }
def treeNextRow : OpenClaim := { program := "ytcbmjpekogancaa", sum := "921ebf39a65dd3debc563d545704d05592a6b0cc1e23b577e023a34278c789c4", func := "leafmesh/leafmeshlaw15.TreeNext", spec := "treeNext", unfollowed := true, recurses := true, apart := false }
def TreeNextSaid : Prop := treeNextRow.holds Try.pinned (OpenSpec.ofChange treeNextSpec)

/-- ITS FALSE NEIGHBOUR: 'it returns false'. Refute it at one input. -/
def treeNextWrong : ChangeSpec := { name := "treeNext", fn := fun _ => fun
  | [d1, d2, d3, d4, d5] => { results := [.lit (.bool false)], args := [d1, d2, d3, d4, d5] }
  | _ => none }
def TreeNextWrongFalsely : Prop := treeNextRow.holds Try.pinned (OpenSpec.ofChange treeNextWrong)

/-- 'leafmeshlaw15.TreeKnown': WHATEVER THE INPUT: true; the input reads as it did. -/
def treeKnownSpec : ChangeSpec := { name := "treeKnown", fn := fun _ => fun
  | [] => { results := [.lit (.bool true)], args := [] }
  | _ => none }
def treeKnownRow : OpenClaim := { program := "ytcbmjpekogancaa", sum := "921ebf39a65dd3debc563d545704d05592a6b0cc1e23b577e023a34278c789c4", func := "leafmesh/leafmeshlaw15.TreeKnown", spec := "treeKnown", unfollowed := true, recurses := true, apart := false }
def TreeKnownSaid : Prop := treeKnownRow.holds Try.pinned (OpenSpec.ofChange treeKnownSpec)

/-- ITS FALSE NEIGHBOUR: 'it returns false'. Refute it at one input. -/
def treeKnownWrong : ChangeSpec := { name := "treeKnown", fn := fun _ => fun
  | [] => { results := [.lit (.bool false)], args := [] }
  | _ => none }
def TreeKnownWrongFalsely : Prop := treeKnownRow.holds Try.pinned (OpenSpec.ofChange treeKnownWrong)

/-- 'leafmeshlaw15.TreeIs': WHATEVER THE INPUT: true; the input reads as it did. -/
def treeIsSpec : ChangeSpec := { name := "treeIs", fn := fun _ => fun
  | [d1, d2, d3, d4] => { results := [.lit (.bool true)], args := [d1, d2, d3, d4] }
  | _ => none }
def treeIsRow : OpenClaim := { program := "ytcbmjpekogancaa", sum := "921ebf39a65dd3debc563d545704d05592a6b0cc1e23b577e023a34278c789c4", func := "leafmesh/leafmeshlaw15.TreeIs", spec := "treeIs", unfollowed := true, recurses := true, apart := false }
def TreeIsSaid : Prop := treeIsRow.holds Try.pinned (OpenSpec.ofChange treeIsSpec)

/-- ITS FALSE NEIGHBOUR: 'it returns false'. Refute it at one input. -/
def treeIsWrong : ChangeSpec := { name := "treeIs", fn := fun _ => fun
  | [d1, d2, d3, d4] => { results := [.lit (.bool false)], args := [d1, d2, d3, d4] }
  | _ => none }
def TreeIsWrongFalsely : Prop := treeIsRow.holds Try.pinned (OpenSpec.ofChange treeIsWrong)

/-- 'leafmeshlaw15.TreeFloods': WHATEVER THE INPUT: true; the input reads as it did. -/
def treeFloodsSpec : ChangeSpec := { name := "treeFloods", fn := fun _ => fun
  | [d1, d2, d3, d4] => { results := [.lit (.bool true)], args := [d1, d2, d3, d4] }
  | _ => none }
def treeFloodsRow : OpenClaim := { program := "ytcbmjpekogancaa", sum := "921ebf39a65dd3debc563d545704d05592a6b0cc1e23b577e023a34278c789c4", func := "leafmesh/leafmeshlaw15.TreeFloods", spec := "treeFloods", unfollowed := true, recurses := true, apart := false }
def TreeFloodsSaid : Prop := treeFloodsRow.holds Try.pinned (OpenSpec.ofChange treeFloodsSpec)

/-- ITS FALSE NEIGHBOUR: 'it returns false'. Refute it at one input. -/
def treeFloodsWrong : ChangeSpec := { name := "treeFloods", fn := fun _ => fun
  | [d1, d2, d3, d4] => { results := [.lit (.bool false)], args := [d1, d2, d3, d4] }
  | _ => none }
def TreeFloodsWrongFalsely : Prop := treeFloodsRow.holds Try.pinned (OpenSpec.ofChange treeFloodsWrong)

/-- 'leafmeshlaw15.TreeAgrees': WHATEVER THE INPUT: true; the input reads as it did. -/
def treeAgreesSpec : ChangeSpec := { name := "treeAgrees", fn := fun _ => fun
  | [d1, d2, d3, d4] => { results := [.lit (.bool true)], args := [d1, d2, d3, d4] }
  | _ => none }
def treeAgreesRow : OpenClaim := { program := "ytcbmjpekogancaa", sum := "921ebf39a65dd3debc563d545704d05592a6b0cc1e23b577e023a34278c789c4", func := "leafmesh/leafmeshlaw15.TreeAgrees", spec := "treeAgrees", unfollowed := true, recurses := true, apart := false }
def TreeAgreesSaid : Prop := treeAgreesRow.holds Try.pinned (OpenSpec.ofChange treeAgreesSpec)

/-- ITS FALSE NEIGHBOUR: 'it returns false'. Refute it at one input. -/
def treeAgreesWrong : ChangeSpec := { name := "treeAgrees", fn := fun _ => fun
  | [d1, d2, d3, d4] => { results := [.lit (.bool false)], args := [d1, d2, d3, d4] }
  | _ => none }
def TreeAgreesWrongFalsely : Prop := treeAgreesRow.holds Try.pinned (OpenSpec.ofChange treeAgreesWrong)

/-- 'leafmeshlaw15.TreeSpreads': WHATEVER THE INPUT: true; the input reads as it did. -/
def treeSpreadsSpec : ChangeSpec := { name := "treeSpreads", fn := fun _ => fun
  | [d1, d2, d3] => { results := [.lit (.bool true)], args := [d1, d2, d3] }
  | _ => none }
def treeSpreadsRow : OpenClaim := { program := "ytcbmjpekogancaa", sum := "921ebf39a65dd3debc563d545704d05592a6b0cc1e23b577e023a34278c789c4", func := "leafmesh/leafmeshlaw15.TreeSpreads", spec := "treeSpreads", unfollowed := true, recurses := true, apart := false }
def TreeSpreadsSaid : Prop := treeSpreadsRow.holds Try.pinned (OpenSpec.ofChange treeSpreadsSpec)

/-- ITS FALSE NEIGHBOUR: 'it returns false'. Refute it at one input. -/
def treeSpreadsWrong : ChangeSpec := { name := "treeSpreads", fn := fun _ => fun
  | [d1, d2, d3] => { results := [.lit (.bool false)], args := [d1, d2, d3] }
  | _ => none }
def TreeSpreadsWrongFalsely : Prop := treeSpreadsRow.holds Try.pinned (OpenSpec.ofChange treeSpreadsWrong)

/- THE SECOND FORM. 'bulk': how many values and letters a reading holds, each counted each time it is reached (what is shared counts as often as it is met; a slice's spare places count too). A statement '..UptoSaid' is the law's where the arguments, and the package variables that the reading takes, are together of bulk at most 1048576: NARROWER than '..Said'. Prove '..Said' where nothing that the law and all that it calls make is longer than what came in: it says more and counts as full. Else prove '..UptoSaid'. A law counts once. -/
mutual
def uptoBulk {H : Type} : DataW H → Nat
  | .lit (.string bytes) => bytes.length + 1
  | .lit _ => 1
  | .nil => 1
  | .ptr d => uptoBulk d + 1
  | .slice elems spare => uptoBulkAll elems + uptoBulkAll spare + 1
  | .agg parts => uptoBulkAll parts + 1
  | .iface _ d => uptoBulk d + 1
  | .map entries => uptoBulkEntries entries + 1
  | .held _ => 1
def uptoBulkAll {H : Type} : List (DataW H) → Nat
  | [] => 0
  | d :: r => uptoBulk d + uptoBulkAll r
def uptoBulkEntries {H : Type} : List (Lit × DataW H) → Nat
  | [] => 0
  | x :: r => uptoBulkEntry x + uptoBulkEntries r
def uptoBulkEntry {H : Type} : Lit × DataW H → Nat
  | (.string bytes, d) => bytes.length + uptoBulk d + 1
  | (_, d) => uptoBulk d + 1
 end
def uptoSmall : (H : Type) → List (DataW H) → Bool := fun _ ds => decide (uptoBulkAll ds ≤ 1048576)
def OpenSpec.upto (s : _root_.Go.ChangeSpec) : _root_.Go.OpenSpec := { _root_.Go.OpenSpec.ofChange s with cond := some uptoSmall }

/-- 'leafmeshlaw15.TreeEdges', WHERE WHAT IT READS IS OF BULK AT MOST 1048576: true; the input reads as it did. -/
def treeEdgesUptoRow : OpenClaim := { program := "ytcbmjpekogancaa", sum := "921ebf39a65dd3debc563d545704d05592a6b0cc1e23b577e023a34278c789c4", func := "leafmesh/leafmeshlaw15.TreeEdges", spec := "treeEdges", unfollowed := true, recurses := true, apart := false, narrowed := true }
def TreeEdgesUptoSaid : Prop := treeEdgesUptoRow.holds Try.pinned (OpenSpec.upto treeEdgesSpec)

/-- 'leafmeshlaw15.TreeNext', WHERE WHAT IT READS IS OF BULK AT MOST 1048576: true; the input reads as it did. -/
def treeNextUptoRow : OpenClaim := { program := "ytcbmjpekogancaa", sum := "921ebf39a65dd3debc563d545704d05592a6b0cc1e23b577e023a34278c789c4", func := "leafmesh/leafmeshlaw15.TreeNext", spec := "treeNext", unfollowed := true, recurses := true, apart := false, narrowed := true }
def TreeNextUptoSaid : Prop := treeNextUptoRow.holds Try.pinned (OpenSpec.upto treeNextSpec)

/-- 'leafmeshlaw15.TreeKnown', WHERE WHAT IT READS IS OF BULK AT MOST 1048576: true; the input reads as it did. -/
def treeKnownUptoRow : OpenClaim := { program := "ytcbmjpekogancaa", sum := "921ebf39a65dd3debc563d545704d05592a6b0cc1e23b577e023a34278c789c4", func := "leafmesh/leafmeshlaw15.TreeKnown", spec := "treeKnown", unfollowed := true, recurses := true, apart := false, narrowed := true }
def TreeKnownUptoSaid : Prop := treeKnownUptoRow.holds Try.pinned (OpenSpec.upto treeKnownSpec)

/-- 'leafmeshlaw15.TreeIs', WHERE WHAT IT READS IS OF BULK AT MOST 1048576: true; the input reads as it did. -/
def treeIsUptoRow : OpenClaim := { program := "ytcbmjpekogancaa", sum := "921ebf39a65dd3debc563d545704d05592a6b0cc1e23b577e023a34278c789c4", func := "leafmesh/leafmeshlaw15.TreeIs", spec := "treeIs", unfollowed := true, recurses := true, apart := false, narrowed := true }
def TreeIsUptoSaid : Prop := treeIsUptoRow.holds Try.pinned (OpenSpec.upto treeIsSpec)

/-- 'leafmeshlaw15.TreeFloods', WHERE WHAT IT READS IS OF BULK AT MOST 1048576: true; the input reads as it did. -/
def treeFloodsUptoRow : OpenClaim := { program := "ytcbmjpekogancaa", sum := "921ebf39a65dd3debc563d545704d05592a6b0cc1e23b577e023a34278c789c4", func := "leafmesh/leafmeshlaw15.TreeFloods", spec := "treeFloods", unfollowed := true, recurses := true, apart := false, narrowed := true }
def TreeFloodsUptoSaid : Prop := treeFloodsUptoRow.holds Try.pinned (OpenSpec.upto treeFloodsSpec)

/-- 'leafmeshlaw15.TreeAgrees', WHERE WHAT IT READS IS OF BULK AT MOST 1048576: true; the input reads as it did. -/
def treeAgreesUptoRow : OpenClaim := { program := "ytcbmjpekogancaa", sum := "921ebf39a65dd3debc563d545704d05592a6b0cc1e23b577e023a34278c789c4", func := "leafmesh/leafmeshlaw15.TreeAgrees", spec := "treeAgrees", unfollowed := true, recurses := true, apart := false, narrowed := true }
def TreeAgreesUptoSaid : Prop := treeAgreesUptoRow.holds Try.pinned (OpenSpec.upto treeAgreesSpec)

/-- 'leafmeshlaw15.TreeSpreads', WHERE WHAT IT READS IS OF BULK AT MOST 1048576: true; the input reads as it did. -/
def treeSpreadsUptoRow : OpenClaim := { program := "ytcbmjpekogancaa", sum := "921ebf39a65dd3debc563d545704d05592a6b0cc1e23b577e023a34278c789c4", func := "leafmesh/leafmeshlaw15.TreeSpreads", spec := "treeSpreads", unfollowed := true, recurses := true, apart := false, narrowed := true }
def TreeSpreadsUptoSaid : Prop := treeSpreadsUptoRow.holds Try.pinned (OpenSpec.upto treeSpreadsSpec)

end Rows
end Go.Proofs.Ytcbmjpekogancaa
