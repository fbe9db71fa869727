/-
  No cell of these rows narrows 'for every input' (looked for: loops, veiled, ifaces, maps, wideKeys, modest, calm, conditions, laid).
  DERIVED. THE GIVEN ROWS OF THIS SEAT. 5 by the template 'for every input the law returns true; each argument reads behind the call as it read before'; 0 by the template 'total and deterministic' (their statements: YtfjeillpldnajaaGreatTotals.lean).
  GIVEN WITH THE SEED: the statements are not yours to turn. If you find one false, say at which input.
  Laid BY PROGRAM, IN A SANDBOX (cutbox-rows.mjs): the forced cells as the released guide's own fill.sh prints them over the translation 502d2a4bf4a2a2cd… (all of the seat's roots in one cut). By AI agents, Wed Nov 11 2026. No macro, syntax, notation, axiom, sorry.
-/
import Derived.Test.YtfjeillpldnajaaGreatChecked
import GoSem.Claim
import GoSem.ClaimJoined
import GoSem.ClaimMapViews
import Derived.JoinedTies
import Derived.KernelRfl
namespace Go.Proofs.YtfjeillpldnajaaGreat
/- THE CELL 'sum', in the pinned program and in every row, IS THE sha256 OF THE DUMP (.gsa) THAT YtfjeillpldnajaaGreatProg.lean LOADS. Nothing in Lean hashes anything: it is a label: what it is worth is what the hold of that sum in a sandbox is worth. -/
noncomputable def Tryz.pinned : Pinned := { name := "ytfjeillpldnajaagreat", sum := "502d2a4bf4a2a2cd50f2e7f9d032b5b0a83eb022572cb8cf6aaffbb02bf3ade6", checked := Tryz.checked }
namespace Rows
def none {H : Type} : Left H := { results := [], args := [] }

/-- 'leafmeshlaw36.OracleKnown': WHATEVER THE INPUT: true; the input reads as it did. -/
def oracleKnownSpec : ChangeSpec := { name := "oracleKnown", fn := fun _ => fun
  | [] => { results := [.lit (.bool true)], args := [] }
  | _ => none }
def oracleKnownRow : OpenClaim := { program := "ytfjeillpldnajaagreat", sum := "502d2a4bf4a2a2cd50f2e7f9d032b5b0a83eb022572cb8cf6aaffbb02bf3ade6", func := "leafmesh/leafmeshlaw36.OracleKnown", spec := "oracleKnown", unfollowed := true, recurses := true, plainKeys := false, apart := false }
def OracleKnownSaid : Prop := oracleKnownRow.holds Tryz.pinned (OpenSpec.ofChange oracleKnownSpec)

/-- ITS FALSE NEIGHBOUR: 'it returns false'. Refute it at one input. -/
def oracleKnownWrong : ChangeSpec := { name := "oracleKnown", fn := fun _ => fun
  | [] => { results := [.lit (.bool false)], args := [] }
  | _ => none }
def OracleKnownWrongFalsely : Prop := oracleKnownRow.holds Tryz.pinned (OpenSpec.ofChange oracleKnownWrong)

/-- 'leafmeshlaw36.OracleApart': WHATEVER THE INPUT: true; the input reads as it did. -/
def oracleApartSpec : ChangeSpec := { name := "oracleApart", fn := fun _ => fun
  | [d1, d2, d3, d4, d5] => { results := [.lit (.bool true)], args := [d1, d2, d3, d4, d5] }
  | _ => none }
def oracleApartRow : OpenClaim := { program := "ytfjeillpldnajaagreat", sum := "502d2a4bf4a2a2cd50f2e7f9d032b5b0a83eb022572cb8cf6aaffbb02bf3ade6", func := "leafmesh/leafmeshlaw36.OracleApart", spec := "oracleApart", unfollowed := true, recurses := true, plainKeys := false, apart := false }
def OracleApartSaid : Prop := oracleApartRow.holds Tryz.pinned (OpenSpec.ofChange oracleApartSpec)

/-- ITS FALSE NEIGHBOUR: 'it returns false'. Refute it at one input. -/
def oracleApartWrong : ChangeSpec := { name := "oracleApart", fn := fun _ => fun
  | [d1, d2, d3, d4, d5] => { results := [.lit (.bool false)], args := [d1, d2, d3, d4, d5] }
  | _ => none }
def OracleApartWrongFalsely : Prop := oracleApartRow.holds Tryz.pinned (OpenSpec.ofChange oracleApartWrong)

/-- 'leafmeshlaw36.OracleLearns': WHATEVER THE INPUT: true; the input reads as it did. -/
def oracleLearnsSpec : ChangeSpec := { name := "oracleLearns", fn := fun _ => fun
  | [d1, d2, d3, d4] => { results := [.lit (.bool true)], args := [d1, d2, d3, d4] }
  | _ => none }
def oracleLearnsRow : OpenClaim := { program := "ytfjeillpldnajaagreat", sum := "502d2a4bf4a2a2cd50f2e7f9d032b5b0a83eb022572cb8cf6aaffbb02bf3ade6", func := "leafmesh/leafmeshlaw36.OracleLearns", spec := "oracleLearns", unfollowed := true, recurses := true, plainKeys := false, apart := false }
def OracleLearnsSaid : Prop := oracleLearnsRow.holds Tryz.pinned (OpenSpec.ofChange oracleLearnsSpec)

/-- ITS FALSE NEIGHBOUR: 'it returns false'. Refute it at one input. -/
def oracleLearnsWrong : ChangeSpec := { name := "oracleLearns", fn := fun _ => fun
  | [d1, d2, d3, d4] => { results := [.lit (.bool false)], args := [d1, d2, d3, d4] }
  | _ => none }
def OracleLearnsWrongFalsely : Prop := oracleLearnsRow.holds Tryz.pinned (OpenSpec.ofChange oracleLearnsWrong)

/-- 'leafmeshlaw36.OracleAreas': WHATEVER THE INPUT: true; the input reads as it did. -/
def oracleAreasSpec : ChangeSpec := { name := "oracleAreas", fn := fun _ => fun
  | [d1, d2, d3, d4] => { results := [.lit (.bool true)], args := [d1, d2, d3, d4] }
  | _ => none }
def oracleAreasRow : OpenClaim := { program := "ytfjeillpldnajaagreat", sum := "502d2a4bf4a2a2cd50f2e7f9d032b5b0a83eb022572cb8cf6aaffbb02bf3ade6", func := "leafmesh/leafmeshlaw36.OracleAreas", spec := "oracleAreas", unfollowed := true, recurses := true, plainKeys := false, apart := false }
def OracleAreasSaid : Prop := oracleAreasRow.holds Tryz.pinned (OpenSpec.ofChange oracleAreasSpec)

/-- ITS FALSE NEIGHBOUR: 'it returns false'. Refute it at one input. -/
def oracleAreasWrong : ChangeSpec := { name := "oracleAreas", fn := fun _ => fun
  | [d1, d2, d3, d4] => { results := [.lit (.bool false)], args := [d1, d2, d3, d4] }
  | _ => none }
def OracleAreasWrongFalsely : Prop := oracleAreasRow.holds Tryz.pinned (OpenSpec.ofChange oracleAreasWrong)

/-- 'leafmeshlaw36.OracleParts': WHATEVER THE INPUT: true; the input reads as it did. -/
def oraclePartsSpec : ChangeSpec := { name := "oracleParts", fn := fun _ => fun
  | [d1, d2, d3, d4, d5, d6] => { results := [.lit (.bool true)], args := [d1, d2, d3, d4, d5, d6] }
  | _ => none }
def oraclePartsRow : OpenClaim := { program := "ytfjeillpldnajaagreat", sum := "502d2a4bf4a2a2cd50f2e7f9d032b5b0a83eb022572cb8cf6aaffbb02bf3ade6", func := "leafmesh/leafmeshlaw36.OracleParts", spec := "oracleParts", unfollowed := true, recurses := true, plainKeys := false, apart := false }
def OraclePartsSaid : Prop := oraclePartsRow.holds Tryz.pinned (OpenSpec.ofChange oraclePartsSpec)

/-- ITS FALSE NEIGHBOUR: 'it returns false'. Refute it at one input. -/
def oraclePartsWrong : ChangeSpec := { name := "oracleParts", fn := fun _ => fun
  | [d1, d2, d3, d4, d5, d6] => { results := [.lit (.bool false)], args := [d1, d2, d3, d4, d5, d6] }
  | _ => none }
def OraclePartsWrongFalsely : Prop := oraclePartsRow.holds Tryz.pinned (OpenSpec.ofChange oraclePartsWrong)

/- THE SECOND FORM. 'bulk': how many values and letters a reading holds, each counted each time it is reached (what is shared counts as often as it is met; a slice's spare places count too). A statement '..UptoSaid' is the law's where the arguments, and the package variables that the reading takes, are together of bulk at most 1048576: NARROWER than '..Said'. Prove '..Said' where nothing that the law and all that it calls make is longer than what came in: it says more and counts as full. Else prove '..UptoSaid'. A law counts once. -/
mutual
def uptoBulk {H : Type} : DataW H → Nat
  | .lit (.string bytes) => bytes.length + 1
  | .lit _ => 1
  | .nil => 1
  | .ptr d => uptoBulk d + 1
  | .slice elems spare => uptoBulkAll elems + uptoBulkAll spare + 1
  | .agg parts => uptoBulkAll parts + 1
  | .iface _ d => uptoBulk d + 1
  | .map entries => uptoBulkEntries entries + 1
  | .held _ => 1
def uptoBulkAll {H : Type} : List (DataW H) → Nat
  | [] => 0
  | d :: r => uptoBulk d + uptoBulkAll r
def uptoBulkEntries {H : Type} : List (Lit × DataW H) → Nat
  | [] => 0
  | x :: r => uptoBulkEntry x + uptoBulkEntries r
def uptoBulkEntry {H : Type} : Lit × DataW H → Nat
  | (.string bytes, d) => bytes.length + uptoBulk d + 1
  | (_, d) => uptoBulk d + 1
 end
def uptoSmall : (H : Type) → List (DataW H) → Bool := fun _ ds => decide (uptoBulkAll ds ≤ 1048576)
def OpenSpec.upto (s : _root_.Go.ChangeSpec) : _root_.Go.OpenSpec := { _root_.Go.OpenSpec.ofChange s with cond := some uptoSmall }

/-- 'leafmeshlaw36.OracleKnown', WHERE WHAT IT READS IS OF BULK AT MOST 1048576: true; the input reads as it did. -/
def oracleKnownUptoRow : OpenClaim := { program := "ytfjeillpldnajaagreat", sum := "502d2a4bf4a2a2cd50f2e7f9d032b5b0a83eb022572cb8cf6aaffbb02bf3ade6", func := "leafmesh/leafmeshlaw36.OracleKnown", spec := "oracleKnown", unfollowed := true, recurses := true, plainKeys := false, apart := false, narrowed := true }
def OracleKnownUptoSaid : Prop := oracleKnownUptoRow.holds Tryz.pinned (OpenSpec.upto oracleKnownSpec)

/-- 'leafmeshlaw36.OracleApart', WHERE WHAT IT READS IS OF BULK AT MOST 1048576: true; the input reads as it did. -/
def oracleApartUptoRow : OpenClaim := { program := "ytfjeillpldnajaagreat", sum := "502d2a4bf4a2a2cd50f2e7f9d032b5b0a83eb022572cb8cf6aaffbb02bf3ade6", func := "leafmesh/leafmeshlaw36.OracleApart", spec := "oracleApart", unfollowed := true, recurses := true, plainKeys := false, apart := false, narrowed := true }
def OracleApartUptoSaid : Prop := oracleApartUptoRow.holds Tryz.pinned (OpenSpec.upto oracleApartSpec)

/-- 'leafmeshlaw36.OracleLearns', WHERE WHAT IT READS IS OF BULK AT MOST 1048576: true; the input reads as it did. -/
def oracleLearnsUptoRow : OpenClaim := { program := "ytfjeillpldnajaagreat", sum := "502d2a4bf4a2a2cd50f2e7f9d032b5b0a83eb022572cb8cf6aaffbb02bf3ade6", func := "leafmesh/leafmeshlaw36.OracleLearns", spec := "oracleLearns", unfollowed := true, recurses := true, plainKeys := false, apart := false, narrowed := true }
def OracleLearnsUptoSaid : Prop := oracleLearnsUptoRow.holds Tryz.pinned (OpenSpec.upto oracleLearnsSpec)

/-- 'leafmeshlaw36.OracleAreas', WHERE WHAT IT READS IS OF BULK AT MOST 1048576: true; the input reads as it did. -/
def oracleAreasUptoRow : OpenClaim := { program := "ytfjeillpldnajaagreat", sum := "502d2a4bf4a2a2cd50f2e7f9d032b5b0a83eb022572cb8cf6aaffbb02bf3ade6", func := "leafmesh/leafmeshlaw36.OracleAreas", spec := "oracleAreas", unfollowed := true, recurses := true, plainKeys := false, apart := false, narrowed := true }
def OracleAreasUptoSaid : Prop := oracleAreasUptoRow.holds Tryz.pinned (OpenSpec.upto oracleAreasSpec)

/-- 'leafmeshlaw36.OracleParts', WHERE WHAT IT READS IS OF BULK AT MOST 1048576: true; the input reads as it did. -/
def oraclePartsUptoRow : OpenClaim := { program := "ytfjeillpldnajaagreat", sum := "502d2a4bf4a2a2cd50f2e7f9d032b5b0a83eb022572cb8cf6aaffbb02bf3ade6", func := "leafmesh/leafmeshlaw36.OracleParts", spec := "oracleParts", unfollowed := true, recurses := true, plainKeys := false, apart := false, narrowed := true }
def OraclePartsUptoSaid : Prop := oraclePartsUptoRow.holds Tryz.pinned (OpenSpec.upto oraclePartsSpec)

end Rows
end Go.Proofs.YtfjeillpldnajaaGreat
