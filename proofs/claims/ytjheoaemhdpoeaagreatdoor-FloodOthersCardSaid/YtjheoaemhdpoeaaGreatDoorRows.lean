/-
  NARROWER THAN 'FOR EVERY INPUT', by the rows' own cells (each row's printed sentence says how): FloodLists: laid · FloodCopies: laid · FloodKnown: laid · FloodOthers: laid · FloodIgnores: laid.
  DERIVED. THE GIVEN ROWS OF THIS SEAT. 5 by the template 'for every input the law returns true; each argument reads behind the call as it read before'; 0 by the template 'total and deterministic' (their statements: YtjheoaemhdpoeaaGreatDoorTotals.lean).
  GIVEN WITH THE SEED: the statements are not yours to turn. If you find one false, say at which input.
  Laid BY PROGRAM, IN A SANDBOX (cutbox-rows.mjs): the forced cells as the released guide's own fill.sh prints them over the translation bbfe6b3532700113… (all of the seat's roots in one cut). By AI agents, Wed Nov 11 2026. No macro, syntax, notation, axiom, sorry.
-/
import Derived.Test.YtjheoaemhdpoeaaGreatDoorChecked
import GoSem.Claim
import GoSem.ClaimJoined
import GoSem.ClaimMapViews
import Derived.JoinedTies
import Derived.KernelRfl
namespace Go.Proofs.YtjheoaemhdpoeaaGreatDoor
/- THE CELL 'sum', in the pinned program and in every row, IS THE sha256 OF THE DUMP (.gsa) THAT YtjheoaemhdpoeaaGreatDoorProg.lean LOADS. Nothing in Lean hashes anything: it is a label: what it is worth is what the hold of that sum in a sandbox is worth. -/
noncomputable def Tryz.pinned : Pinned := { name := "ytjheoaemhdpoeaagreatdoor", sum := "bbfe6b35327001135b76ae6ffdb0e58b9f956822322d0dda2ec49af6e897b79b", checked := Tryz.checked }
namespace Rows
def none {H : Type} : Left H := { results := [], args := [] }

/- WHAT THE LISTED PACKAGE-LEVEL VARIABLES READ AS WHEN THE CALL BEGINS. Each datum BY PROGRAM (the guide's laid-datum.mjs) off the statement by which the dump's own 'gosem.cut.vars' lays the variable. In a bare row this is a premise. The card (YtjheoaemhdpoeaaGreatDoorCards.lean) ties it to the program's text. -/
def laid_leafmesh_comm_kinds {H : Type} : DataW H := .agg [.agg [.lit (.int .i64 1), .agg [.lit (.int .u8 0), .lit (.int .u8 2)]], .agg [.lit (.int .i64 2), .agg [.lit (.int .u8 3), .lit (.int .u8 12)]], .agg [.lit (.int .i64 3), .agg [.lit (.int .u8 6), .lit (.int .u8 0)]], .agg [.lit (.int .i64 4), .agg [.lit (.int .u8 6), .lit (.int .u8 1)]], .agg [.lit (.int .i64 5), .agg [.lit (.int .u8 6), .lit (.int .u8 2)]], .agg [.lit (.int .i64 6), .agg [.lit (.int .u8 6), .lit (.int .u8 3)]], .agg [.lit (.int .i64 7), .agg [.lit (.int .u8 6), .lit (.int .u8 6)]]]

/-- 'leafmeshlaw28.FloodLists': WHATEVER THE INPUT: true; the input reads as it did. -/
def floodListsSpec : ChangeSpec := { name := "floodLists", fn := fun _ => fun
  | [d1, d2, d3] => { results := [.lit (.bool true)], args := [d1, d2, d3] }
  | _ => none }
def floodListsRow : OpenClaim := { program := "ytjheoaemhdpoeaagreatdoor", sum := "bbfe6b35327001135b76ae6ffdb0e58b9f956822322d0dda2ec49af6e897b79b", func := "leafmesh/leafmeshlaw28.FloodLists", spec := "floodLists", unfollowed := true, recurses := true, named := ["leafmesh/comm.kinds"], plainKeys := false, apart := false, laid := [("leafmesh/comm.kinds", laid_leafmesh_comm_kinds)] }
def FloodListsSaid : Prop := floodListsRow.holds Tryz.pinned (OpenSpec.ofChange floodListsSpec)

/-- ITS FALSE NEIGHBOUR: 'it returns false'. Refute it at one input. -/
def floodListsWrong : ChangeSpec := { name := "floodLists", fn := fun _ => fun
  | [d1, d2, d3] => { results := [.lit (.bool false)], args := [d1, d2, d3] }
  | _ => none }
def FloodListsWrongFalsely : Prop := floodListsRow.holds Tryz.pinned (OpenSpec.ofChange floodListsWrong)

/-- 'leafmeshlaw28.FloodCopies': WHATEVER THE INPUT: true; the input reads as it did. -/
def floodCopiesSpec : ChangeSpec := { name := "floodCopies", fn := fun _ => fun
  | [d1, d2, d3, d4, d5] => { results := [.lit (.bool true)], args := [d1, d2, d3, d4, d5] }
  | _ => none }
def floodCopiesRow : OpenClaim := { program := "ytjheoaemhdpoeaagreatdoor", sum := "bbfe6b35327001135b76ae6ffdb0e58b9f956822322d0dda2ec49af6e897b79b", func := "leafmesh/leafmeshlaw28.FloodCopies", spec := "floodCopies", unfollowed := true, recurses := true, named := ["leafmesh/comm.kinds"], plainKeys := false, apart := false, laid := [("leafmesh/comm.kinds", laid_leafmesh_comm_kinds)] }
def FloodCopiesSaid : Prop := floodCopiesRow.holds Tryz.pinned (OpenSpec.ofChange floodCopiesSpec)

/-- ITS FALSE NEIGHBOUR: 'it returns false'. Refute it at one input. -/
def floodCopiesWrong : ChangeSpec := { name := "floodCopies", fn := fun _ => fun
  | [d1, d2, d3, d4, d5] => { results := [.lit (.bool false)], args := [d1, d2, d3, d4, d5] }
  | _ => none }
def FloodCopiesWrongFalsely : Prop := floodCopiesRow.holds Tryz.pinned (OpenSpec.ofChange floodCopiesWrong)

/-- 'leafmeshlaw28.FloodKnown': WHATEVER THE INPUT: true; the input reads as it did. -/
def floodKnownSpec : ChangeSpec := { name := "floodKnown", fn := fun _ => fun
  | [] => { results := [.lit (.bool true)], args := [] }
  | _ => none }
def floodKnownRow : OpenClaim := { program := "ytjheoaemhdpoeaagreatdoor", sum := "bbfe6b35327001135b76ae6ffdb0e58b9f956822322d0dda2ec49af6e897b79b", func := "leafmesh/leafmeshlaw28.FloodKnown", spec := "floodKnown", unfollowed := true, recurses := true, named := ["leafmesh/comm.kinds"], plainKeys := false, apart := false, laid := [("leafmesh/comm.kinds", laid_leafmesh_comm_kinds)] }
def FloodKnownSaid : Prop := floodKnownRow.holds Tryz.pinned (OpenSpec.ofChange floodKnownSpec)

/-- ITS FALSE NEIGHBOUR: 'it returns false'. Refute it at one input. -/
def floodKnownWrong : ChangeSpec := { name := "floodKnown", fn := fun _ => fun
  | [] => { results := [.lit (.bool false)], args := [] }
  | _ => none }
def FloodKnownWrongFalsely : Prop := floodKnownRow.holds Tryz.pinned (OpenSpec.ofChange floodKnownWrong)

/-- 'leafmeshlaw28.FloodOthers': WHATEVER THE INPUT: true; the input reads as it did. -/
def floodOthersSpec : ChangeSpec := { name := "floodOthers", fn := fun _ => fun
  | [d1, d2, d3] => { results := [.lit (.bool true)], args := [d1, d2, d3] }
  | _ => none }
def floodOthersRow : OpenClaim := { program := "ytjheoaemhdpoeaagreatdoor", sum := "bbfe6b35327001135b76ae6ffdb0e58b9f956822322d0dda2ec49af6e897b79b", func := "leafmesh/leafmeshlaw28.FloodOthers", spec := "floodOthers", unfollowed := true, recurses := true, named := ["leafmesh/comm.kinds"], plainKeys := false, apart := false, laid := [("leafmesh/comm.kinds", laid_leafmesh_comm_kinds)] }
def FloodOthersSaid : Prop := floodOthersRow.holds Tryz.pinned (OpenSpec.ofChange floodOthersSpec)

/-- ITS FALSE NEIGHBOUR: 'it returns false'. Refute it at one input. -/
def floodOthersWrong : ChangeSpec := { name := "floodOthers", fn := fun _ => fun
  | [d1, d2, d3] => { results := [.lit (.bool false)], args := [d1, d2, d3] }
  | _ => none }
def FloodOthersWrongFalsely : Prop := floodOthersRow.holds Tryz.pinned (OpenSpec.ofChange floodOthersWrong)

/-- 'leafmeshlaw28.FloodIgnores': WHATEVER THE INPUT: true; the input reads as it did. -/
def floodIgnoresSpec : ChangeSpec := { name := "floodIgnores", fn := fun _ => fun
  | [d1, d2, d3, d4] => { results := [.lit (.bool true)], args := [d1, d2, d3, d4] }
  | _ => none }
def floodIgnoresRow : OpenClaim := { program := "ytjheoaemhdpoeaagreatdoor", sum := "bbfe6b35327001135b76ae6ffdb0e58b9f956822322d0dda2ec49af6e897b79b", func := "leafmesh/leafmeshlaw28.FloodIgnores", spec := "floodIgnores", unfollowed := true, recurses := true, named := ["leafmesh/comm.kinds"], plainKeys := false, apart := false, laid := [("leafmesh/comm.kinds", laid_leafmesh_comm_kinds)] }
def FloodIgnoresSaid : Prop := floodIgnoresRow.holds Tryz.pinned (OpenSpec.ofChange floodIgnoresSpec)

/-- ITS FALSE NEIGHBOUR: 'it returns false'. Refute it at one input. -/
def floodIgnoresWrong : ChangeSpec := { name := "floodIgnores", fn := fun _ => fun
  | [d1, d2, d3, d4] => { results := [.lit (.bool false)], args := [d1, d2, d3, d4] }
  | _ => none }
def FloodIgnoresWrongFalsely : Prop := floodIgnoresRow.holds Tryz.pinned (OpenSpec.ofChange floodIgnoresWrong)

/- THE SECOND FORM. 'bulk': how many values and letters a reading holds, each counted each time it is reached (what is shared counts as often as it is met; a slice's spare places count too). A statement '..UptoSaid' is the law's where the arguments, and the package variables that the reading takes, are together of bulk at most 1048576: NARROWER than '..Said'. Prove '..Said' where nothing that the law and all that it calls make is longer than what came in: it says more and counts as full. Else prove '..UptoSaid'. A law counts once. -/
mutual
def uptoBulk {H : Type} : DataW H → Nat
  | .lit (.string bytes) => bytes.length + 1
  | .lit _ => 1
  | .nil => 1
  | .ptr d => uptoBulk d + 1
  | .slice elems spare => uptoBulkAll elems + uptoBulkAll spare + 1
  | .agg parts => uptoBulkAll parts + 1
  | .iface _ d => uptoBulk d + 1
  | .map entries => uptoBulkEntries entries + 1
  | .held _ => 1
def uptoBulkAll {H : Type} : List (DataW H) → Nat
  | [] => 0
  | d :: r => uptoBulk d + uptoBulkAll r
def uptoBulkEntries {H : Type} : List (Lit × DataW H) → Nat
  | [] => 0
  | x :: r => uptoBulkEntry x + uptoBulkEntries r
def uptoBulkEntry {H : Type} : Lit × DataW H → Nat
  | (.string bytes, d) => bytes.length + uptoBulk d + 1
  | (_, d) => uptoBulk d + 1
 end
def uptoSmall : (H : Type) → List (DataW H) → Bool := fun _ ds => decide (uptoBulkAll ds ≤ 1048576)
def OpenSpec.upto (s : _root_.Go.ChangeSpec) : _root_.Go.OpenSpec := { _root_.Go.OpenSpec.ofChange s with cond := some uptoSmall }

/-- 'leafmeshlaw28.FloodLists', WHERE WHAT IT READS IS OF BULK AT MOST 1048576: true; the input reads as it did. -/
def floodListsUptoRow : OpenClaim := { program := "ytjheoaemhdpoeaagreatdoor", sum := "bbfe6b35327001135b76ae6ffdb0e58b9f956822322d0dda2ec49af6e897b79b", func := "leafmesh/leafmeshlaw28.FloodLists", spec := "floodLists", unfollowed := true, recurses := true, named := ["leafmesh/comm.kinds"], plainKeys := false, apart := false, laid := [("leafmesh/comm.kinds", laid_leafmesh_comm_kinds)], narrowed := true }
def FloodListsUptoSaid : Prop := floodListsUptoRow.holds Tryz.pinned (OpenSpec.upto floodListsSpec)

/-- 'leafmeshlaw28.FloodCopies', WHERE WHAT IT READS IS OF BULK AT MOST 1048576: true; the input reads as it did. -/
def floodCopiesUptoRow : OpenClaim := { program := "ytjheoaemhdpoeaagreatdoor", sum := "bbfe6b35327001135b76ae6ffdb0e58b9f956822322d0dda2ec49af6e897b79b", func := "leafmesh/leafmeshlaw28.FloodCopies", spec := "floodCopies", unfollowed := true, recurses := true, named := ["leafmesh/comm.kinds"], plainKeys := false, apart := false, laid := [("leafmesh/comm.kinds", laid_leafmesh_comm_kinds)], narrowed := true }
def FloodCopiesUptoSaid : Prop := floodCopiesUptoRow.holds Tryz.pinned (OpenSpec.upto floodCopiesSpec)

/-- 'leafmeshlaw28.FloodKnown', WHERE WHAT IT READS IS OF BULK AT MOST 1048576: true; the input reads as it did. -/
def floodKnownUptoRow : OpenClaim := { program := "ytjheoaemhdpoeaagreatdoor", sum := "bbfe6b35327001135b76ae6ffdb0e58b9f956822322d0dda2ec49af6e897b79b", func := "leafmesh/leafmeshlaw28.FloodKnown", spec := "floodKnown", unfollowed := true, recurses := true, named := ["leafmesh/comm.kinds"], plainKeys := false, apart := false, laid := [("leafmesh/comm.kinds", laid_leafmesh_comm_kinds)], narrowed := true }
def FloodKnownUptoSaid : Prop := floodKnownUptoRow.holds Tryz.pinned (OpenSpec.upto floodKnownSpec)

/-- 'leafmeshlaw28.FloodOthers', WHERE WHAT IT READS IS OF BULK AT MOST 1048576: true; the input reads as it did. -/
def floodOthersUptoRow : OpenClaim := { program := "ytjheoaemhdpoeaagreatdoor", sum := "bbfe6b35327001135b76ae6ffdb0e58b9f956822322d0dda2ec49af6e897b79b", func := "leafmesh/leafmeshlaw28.FloodOthers", spec := "floodOthers", unfollowed := true, recurses := true, named := ["leafmesh/comm.kinds"], plainKeys := false, apart := false, laid := [("leafmesh/comm.kinds", laid_leafmesh_comm_kinds)], narrowed := true }
def FloodOthersUptoSaid : Prop := floodOthersUptoRow.holds Tryz.pinned (OpenSpec.upto floodOthersSpec)

/-- 'leafmeshlaw28.FloodIgnores', WHERE WHAT IT READS IS OF BULK AT MOST 1048576: true; the input reads as it did. -/
def floodIgnoresUptoRow : OpenClaim := { program := "ytjheoaemhdpoeaagreatdoor", sum := "bbfe6b35327001135b76ae6ffdb0e58b9f956822322d0dda2ec49af6e897b79b", func := "leafmesh/leafmeshlaw28.FloodIgnores", spec := "floodIgnores", unfollowed := true, recurses := true, named := ["leafmesh/comm.kinds"], plainKeys := false, apart := false, laid := [("leafmesh/comm.kinds", laid_leafmesh_comm_kinds)], narrowed := true }
def FloodIgnoresUptoSaid : Prop := floodIgnoresUptoRow.holds Tryz.pinned (OpenSpec.upto floodIgnoresSpec)

end Rows
end Go.Proofs.YtjheoaemhdpoeaaGreatDoor
