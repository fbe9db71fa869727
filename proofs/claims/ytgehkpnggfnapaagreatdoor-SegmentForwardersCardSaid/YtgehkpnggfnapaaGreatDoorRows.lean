/-
  NARROWER THAN 'FOR EVERY INPUT', by the rows' own cells (each row's printed sentence says how): SegmentKnown: laid · SegmentOrder: laid · SegmentTurns: laid · SegmentSteady: laid · SegmentForwarders: laid · SegmentOne: laid.
  DERIVED. THE GIVEN ROWS OF THIS SEAT. 6 by the template 'for every input the law returns true; each argument reads behind the call as it read before'; 0 by the template 'total and deterministic' (their statements: YtgehkpnggfnapaaGreatDoorTotals.lean).
  GIVEN WITH THE SEED: the statements are not yours to turn. If you find one false, say at which input.
  Laid BY PROGRAM, IN A SANDBOX (cutbox-rows.mjs): the forced cells as the released guide's own fill.sh prints them over the translation 491bf245aa662ace… (all of the seat's roots in one cut). By AI agents, Wed Nov 11 2026. No macro, syntax, notation, axiom, sorry.
-/
import Derived.Test.YtgehkpnggfnapaaGreatDoorChecked
import GoSem.Claim
import GoSem.ClaimJoined
import GoSem.ClaimMapViews
import Derived.JoinedTies
import Derived.KernelRfl
namespace Go.Proofs.YtgehkpnggfnapaaGreatDoor
/- THE CELL 'sum', in the pinned program and in every row, IS THE sha256 OF THE DUMP (.gsa) THAT YtgehkpnggfnapaaGreatDoorProg.lean LOADS. Nothing in Lean hashes anything: it is a label: what it is worth is what the hold of that sum in a sandbox is worth. -/
noncomputable def Tryz.pinned : Pinned := { name := "ytgehkpnggfnapaagreatdoor", sum := "491bf245aa662acef46836814db6d81fca2930d57052d580873f15ed1f8fe17f", checked := Tryz.checked }
namespace Rows
def none {H : Type} : Left H := { results := [], args := [] }

/- WHAT THE LISTED PACKAGE-LEVEL VARIABLES READ AS WHEN THE CALL BEGINS. Each datum BY PROGRAM (the guide's laid-datum.mjs) off the statement by which the dump's own 'gosem.cut.vars' lays the variable. In a bare row this is a premise. The card (YtgehkpnggfnapaaGreatDoorCards.lean) ties it to the program's text. -/
def laid_leafmesh_comm_kinds {H : Type} : DataW H := .agg [.agg [.lit (.int .i64 1), .agg [.lit (.int .u8 0), .lit (.int .u8 2)]], .agg [.lit (.int .i64 2), .agg [.lit (.int .u8 3), .lit (.int .u8 12)]], .agg [.lit (.int .i64 3), .agg [.lit (.int .u8 6), .lit (.int .u8 0)]], .agg [.lit (.int .i64 4), .agg [.lit (.int .u8 6), .lit (.int .u8 1)]], .agg [.lit (.int .i64 5), .agg [.lit (.int .u8 6), .lit (.int .u8 2)]], .agg [.lit (.int .i64 6), .agg [.lit (.int .u8 6), .lit (.int .u8 3)]], .agg [.lit (.int .i64 7), .agg [.lit (.int .u8 6), .lit (.int .u8 6)]]]

/-- 'leafmeshlaw25.SegmentKnown': WHATEVER THE INPUT: true; the input reads as it did. -/
def segmentKnownSpec : ChangeSpec := { name := "segmentKnown", fn := fun _ => fun
  | [] => { results := [.lit (.bool true)], args := [] }
  | _ => none }
def segmentKnownRow : OpenClaim := { program := "ytgehkpnggfnapaagreatdoor", sum := "491bf245aa662acef46836814db6d81fca2930d57052d580873f15ed1f8fe17f", func := "leafmesh/leafmeshlaw25.SegmentKnown", spec := "segmentKnown", unfollowed := true, recurses := true, named := ["leafmesh/comm.kinds"], plainKeys := false, apart := false, laid := [("leafmesh/comm.kinds", laid_leafmesh_comm_kinds)] }
def SegmentKnownSaid : Prop := segmentKnownRow.holds Tryz.pinned (OpenSpec.ofChange segmentKnownSpec)

/-- ITS FALSE NEIGHBOUR: 'it returns false'. Refute it at one input. -/
def segmentKnownWrong : ChangeSpec := { name := "segmentKnown", fn := fun _ => fun
  | [] => { results := [.lit (.bool false)], args := [] }
  | _ => none }
def SegmentKnownWrongFalsely : Prop := segmentKnownRow.holds Tryz.pinned (OpenSpec.ofChange segmentKnownWrong)

/-- 'leafmeshlaw25.SegmentOrder': WHATEVER THE INPUT: true; the input reads as it did. -/
def segmentOrderSpec : ChangeSpec := { name := "segmentOrder", fn := fun _ => fun
  | [d1, d2, d3, d4] => { results := [.lit (.bool true)], args := [d1, d2, d3, d4] }
  | _ => none }
def segmentOrderRow : OpenClaim := { program := "ytgehkpnggfnapaagreatdoor", sum := "491bf245aa662acef46836814db6d81fca2930d57052d580873f15ed1f8fe17f", func := "leafmesh/leafmeshlaw25.SegmentOrder", spec := "segmentOrder", unfollowed := true, recurses := true, named := ["leafmesh/comm.kinds"], plainKeys := false, apart := false, laid := [("leafmesh/comm.kinds", laid_leafmesh_comm_kinds)] }
def SegmentOrderSaid : Prop := segmentOrderRow.holds Tryz.pinned (OpenSpec.ofChange segmentOrderSpec)

/-- ITS FALSE NEIGHBOUR: 'it returns false'. Refute it at one input. -/
def segmentOrderWrong : ChangeSpec := { name := "segmentOrder", fn := fun _ => fun
  | [d1, d2, d3, d4] => { results := [.lit (.bool false)], args := [d1, d2, d3, d4] }
  | _ => none }
def SegmentOrderWrongFalsely : Prop := segmentOrderRow.holds Tryz.pinned (OpenSpec.ofChange segmentOrderWrong)

/-- 'leafmeshlaw25.SegmentTurns': WHATEVER THE INPUT: true; the input reads as it did. -/
def segmentTurnsSpec : ChangeSpec := { name := "segmentTurns", fn := fun _ => fun
  | [d1, d2] => { results := [.lit (.bool true)], args := [d1, d2] }
  | _ => none }
def segmentTurnsRow : OpenClaim := { program := "ytgehkpnggfnapaagreatdoor", sum := "491bf245aa662acef46836814db6d81fca2930d57052d580873f15ed1f8fe17f", func := "leafmesh/leafmeshlaw25.SegmentTurns", spec := "segmentTurns", unfollowed := true, recurses := true, named := ["leafmesh/comm.kinds"], plainKeys := false, apart := false, laid := [("leafmesh/comm.kinds", laid_leafmesh_comm_kinds)] }
def SegmentTurnsSaid : Prop := segmentTurnsRow.holds Tryz.pinned (OpenSpec.ofChange segmentTurnsSpec)

/-- ITS FALSE NEIGHBOUR: 'it returns false'. Refute it at one input. -/
def segmentTurnsWrong : ChangeSpec := { name := "segmentTurns", fn := fun _ => fun
  | [d1, d2] => { results := [.lit (.bool false)], args := [d1, d2] }
  | _ => none }
def SegmentTurnsWrongFalsely : Prop := segmentTurnsRow.holds Tryz.pinned (OpenSpec.ofChange segmentTurnsWrong)

/-- 'leafmeshlaw25.SegmentSteady': WHATEVER THE INPUT: true; the input reads as it did. -/
def segmentSteadySpec : ChangeSpec := { name := "segmentSteady", fn := fun _ => fun
  | [d1, d2, d3] => { results := [.lit (.bool true)], args := [d1, d2, d3] }
  | _ => none }
def segmentSteadyRow : OpenClaim := { program := "ytgehkpnggfnapaagreatdoor", sum := "491bf245aa662acef46836814db6d81fca2930d57052d580873f15ed1f8fe17f", func := "leafmesh/leafmeshlaw25.SegmentSteady", spec := "segmentSteady", unfollowed := true, recurses := true, named := ["leafmesh/comm.kinds"], plainKeys := false, apart := false, laid := [("leafmesh/comm.kinds", laid_leafmesh_comm_kinds)] }
def SegmentSteadySaid : Prop := segmentSteadyRow.holds Tryz.pinned (OpenSpec.ofChange segmentSteadySpec)

/-- ITS FALSE NEIGHBOUR: 'it returns false'. Refute it at one input. -/
def segmentSteadyWrong : ChangeSpec := { name := "segmentSteady", fn := fun _ => fun
  | [d1, d2, d3] => { results := [.lit (.bool false)], args := [d1, d2, d3] }
  | _ => none }
def SegmentSteadyWrongFalsely : Prop := segmentSteadyRow.holds Tryz.pinned (OpenSpec.ofChange segmentSteadyWrong)

/-- 'leafmeshlaw25.SegmentForwarders': WHATEVER THE INPUT: true; the input reads as it did. -/
def segmentForwardersSpec : ChangeSpec := { name := "segmentForwarders", fn := fun _ => fun
  | [d1, d2, d3] => { results := [.lit (.bool true)], args := [d1, d2, d3] }
  | _ => none }
def segmentForwardersRow : OpenClaim := { program := "ytgehkpnggfnapaagreatdoor", sum := "491bf245aa662acef46836814db6d81fca2930d57052d580873f15ed1f8fe17f", func := "leafmesh/leafmeshlaw25.SegmentForwarders", spec := "segmentForwarders", unfollowed := true, recurses := true, named := ["leafmesh/comm.kinds"], plainKeys := false, apart := false, laid := [("leafmesh/comm.kinds", laid_leafmesh_comm_kinds)] }
def SegmentForwardersSaid : Prop := segmentForwardersRow.holds Tryz.pinned (OpenSpec.ofChange segmentForwardersSpec)

/-- ITS FALSE NEIGHBOUR: 'it returns false'. Refute it at one input. -/
def segmentForwardersWrong : ChangeSpec := { name := "segmentForwarders", fn := fun _ => fun
  | [d1, d2, d3] => { results := [.lit (.bool false)], args := [d1, d2, d3] }
  | _ => none }
def SegmentForwardersWrongFalsely : Prop := segmentForwardersRow.holds Tryz.pinned (OpenSpec.ofChange segmentForwardersWrong)

/-- 'leafmeshlaw25.SegmentOne': WHATEVER THE INPUT: true; the input reads as it did. -/
def segmentOneSpec : ChangeSpec := { name := "segmentOne", fn := fun _ => fun
  | [d1, d2, d3] => { results := [.lit (.bool true)], args := [d1, d2, d3] }
  | _ => none }
def segmentOneRow : OpenClaim := { program := "ytgehkpnggfnapaagreatdoor", sum := "491bf245aa662acef46836814db6d81fca2930d57052d580873f15ed1f8fe17f", func := "leafmesh/leafmeshlaw25.SegmentOne", spec := "segmentOne", unfollowed := true, recurses := true, named := ["leafmesh/comm.kinds"], plainKeys := false, apart := false, laid := [("leafmesh/comm.kinds", laid_leafmesh_comm_kinds)] }
def SegmentOneSaid : Prop := segmentOneRow.holds Tryz.pinned (OpenSpec.ofChange segmentOneSpec)

/-- ITS FALSE NEIGHBOUR: 'it returns false'. Refute it at one input. -/
def segmentOneWrong : ChangeSpec := { name := "segmentOne", fn := fun _ => fun
  | [d1, d2, d3] => { results := [.lit (.bool false)], args := [d1, d2, d3] }
  | _ => none }
def SegmentOneWrongFalsely : Prop := segmentOneRow.holds Tryz.pinned (OpenSpec.ofChange segmentOneWrong)

/- THE SECOND FORM. 'bulk': how many values and letters a reading holds, each counted each time it is reached (what is shared counts as often as it is met; a slice's spare places count too). A statement '..UptoSaid' is the law's where the arguments, and the package variables that the reading takes, are together of bulk at most 1048576: NARROWER than '..Said'. Prove '..Said' where nothing that the law and all that it calls make is longer than what came in: it says more and counts as full. Else prove '..UptoSaid'. A law counts once. -/
mutual
def uptoBulk {H : Type} : DataW H → Nat
  | .lit (.string bytes) => bytes.length + 1
  | .lit _ => 1
  | .nil => 1
  | .ptr d => uptoBulk d + 1
  | .slice elems spare => uptoBulkAll elems + uptoBulkAll spare + 1
  | .agg parts => uptoBulkAll parts + 1
  | .iface _ d => uptoBulk d + 1
  | .map entries => uptoBulkEntries entries + 1
  | .held _ => 1
def uptoBulkAll {H : Type} : List (DataW H) → Nat
  | [] => 0
  | d :: r => uptoBulk d + uptoBulkAll r
def uptoBulkEntries {H : Type} : List (Lit × DataW H) → Nat
  | [] => 0
  | x :: r => uptoBulkEntry x + uptoBulkEntries r
def uptoBulkEntry {H : Type} : Lit × DataW H → Nat
  | (.string bytes, d) => bytes.length + uptoBulk d + 1
  | (_, d) => uptoBulk d + 1
 end
def uptoSmall : (H : Type) → List (DataW H) → Bool := fun _ ds => decide (uptoBulkAll ds ≤ 1048576)
def OpenSpec.upto (s : _root_.Go.ChangeSpec) : _root_.Go.OpenSpec := { _root_.Go.OpenSpec.ofChange s with cond := some uptoSmall }

/-- 'leafmeshlaw25.SegmentKnown', WHERE WHAT IT READS IS OF BULK AT MOST 1048576: true; the input reads as it did. -/
def segmentKnownUptoRow : OpenClaim := { program := "ytgehkpnggfnapaagreatdoor", sum := "491bf245aa662acef46836814db6d81fca2930d57052d580873f15ed1f8fe17f", func := "leafmesh/leafmeshlaw25.SegmentKnown", spec := "segmentKnown", unfollowed := true, recurses := true, named := ["leafmesh/comm.kinds"], plainKeys := false, apart := false, laid := [("leafmesh/comm.kinds", laid_leafmesh_comm_kinds)], narrowed := true }
def SegmentKnownUptoSaid : Prop := segmentKnownUptoRow.holds Tryz.pinned (OpenSpec.upto segmentKnownSpec)

/-- 'leafmeshlaw25.SegmentOrder', WHERE WHAT IT READS IS OF BULK AT MOST 1048576: true; the input reads as it did. -/
def segmentOrderUptoRow : OpenClaim := { program := "ytgehkpnggfnapaagreatdoor", sum := "491bf245aa662acef46836814db6d81fca2930d57052d580873f15ed1f8fe17f", func := "leafmesh/leafmeshlaw25.SegmentOrder", spec := "segmentOrder", unfollowed := true, recurses := true, named := ["leafmesh/comm.kinds"], plainKeys := false, apart := false, laid := [("leafmesh/comm.kinds", laid_leafmesh_comm_kinds)], narrowed := true }
def SegmentOrderUptoSaid : Prop := segmentOrderUptoRow.holds Tryz.pinned (OpenSpec.upto segmentOrderSpec)

/-- 'leafmeshlaw25.SegmentTurns', WHERE WHAT IT READS IS OF BULK AT MOST 1048576: true; the input reads as it did. -/
def segmentTurnsUptoRow : OpenClaim := { program := "ytgehkpnggfnapaagreatdoor", sum := "491bf245aa662acef46836814db6d81fca2930d57052d580873f15ed1f8fe17f", func := "leafmesh/leafmeshlaw25.SegmentTurns", spec := "segmentTurns", unfollowed := true, recurses := true, named := ["leafmesh/comm.kinds"], plainKeys := false, apart := false, laid := [("leafmesh/comm.kinds", laid_leafmesh_comm_kinds)], narrowed := true }
def SegmentTurnsUptoSaid : Prop := segmentTurnsUptoRow.holds Tryz.pinned (OpenSpec.upto segmentTurnsSpec)

/-- 'leafmeshlaw25.SegmentSteady', WHERE WHAT IT READS IS OF BULK AT MOST 1048576: true; the input reads as it did. -/
def segmentSteadyUptoRow : OpenClaim := { program := "ytgehkpnggfnapaagreatdoor", sum := "491bf245aa662acef46836814db6d81fca2930d57052d580873f15ed1f8fe17f", func := "leafmesh/leafmeshlaw25.SegmentSteady", spec := "segmentSteady", unfollowed := true, recurses := true, named := ["leafmesh/comm.kinds"], plainKeys := false, apart := false, laid := [("leafmesh/comm.kinds", laid_leafmesh_comm_kinds)], narrowed := true }
def SegmentSteadyUptoSaid : Prop := segmentSteadyUptoRow.holds Tryz.pinned (OpenSpec.upto segmentSteadySpec)

/-- 'leafmeshlaw25.SegmentForwarders', WHERE WHAT IT READS IS OF BULK AT MOST 1048576: true; the input reads as it did. -/
def segmentForwardersUptoRow : OpenClaim := { program := "ytgehkpnggfnapaagreatdoor", sum := "491bf245aa662acef46836814db6d81fca2930d57052d580873f15ed1f8fe17f", func := "leafmesh/leafmeshlaw25.SegmentForwarders", spec := "segmentForwarders", unfollowed := true, recurses := true, named := ["leafmesh/comm.kinds"], plainKeys := false, apart := false, laid := [("leafmesh/comm.kinds", laid_leafmesh_comm_kinds)], narrowed := true }
def SegmentForwardersUptoSaid : Prop := segmentForwardersUptoRow.holds Tryz.pinned (OpenSpec.upto segmentForwardersSpec)

/-- 'leafmeshlaw25.SegmentOne', WHERE WHAT IT READS IS OF BULK AT MOST 1048576: true; the input reads as it did. -/
def segmentOneUptoRow : OpenClaim := { program := "ytgehkpnggfnapaagreatdoor", sum := "491bf245aa662acef46836814db6d81fca2930d57052d580873f15ed1f8fe17f", func := "leafmesh/leafmeshlaw25.SegmentOne", spec := "segmentOne", unfollowed := true, recurses := true, named := ["leafmesh/comm.kinds"], plainKeys := false, apart := false, laid := [("leafmesh/comm.kinds", laid_leafmesh_comm_kinds)], narrowed := true }
def SegmentOneUptoSaid : Prop := segmentOneUptoRow.holds Tryz.pinned (OpenSpec.upto segmentOneSpec)

end Rows
end Go.Proofs.YtgehkpnggfnapaaGreatDoor
