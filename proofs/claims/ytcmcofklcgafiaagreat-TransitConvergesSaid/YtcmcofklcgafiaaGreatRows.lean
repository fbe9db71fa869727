/-
  No cell of these rows narrows 'for every input' (looked for: loops, veiled, ifaces, maps, wideKeys, modest, calm, conditions, laid).
  DERIVED. THE GIVEN ROWS OF THIS SEAT. 5 by the template 'for every input the law returns true; each argument reads behind the call as it read before'; 0 by the template 'total and deterministic' (their statements: YtcmcofklcgafiaaGreatTotals.lean).
  GIVEN WITH THE SEED: the statements are not yours to turn. If you find one false, say at which input.
  Laid BY PROGRAM, IN A SANDBOX (cutbox-rows.mjs): the forced cells as the released guide's own fill.sh prints them over the translation 9336c6f192254b98… (all of the seat's roots in one cut). By AI agents, Wed Nov 11 2026. No macro, syntax, notation, axiom, sorry.
-/
import Derived.Test.YtcmcofklcgafiaaGreatChecked
import GoSem.Claim
import GoSem.ClaimJoined
import GoSem.ClaimMapViews
import Derived.JoinedTies
import Derived.KernelRfl
namespace Go.Proofs.YtcmcofklcgafiaaGreat
/- THE CELL 'sum', in the pinned program and in every row, IS THE sha256 OF THE DUMP (.gsa) THAT YtcmcofklcgafiaaGreatProg.lean LOADS. Nothing in Lean hashes anything: it is a label: what it is worth is what the hold of that sum in a sandbox is worth. -/
noncomputable def Tryz.pinned : Pinned := { name := "ytcmcofklcgafiaagreat", sum := "9336c6f192254b98b3ba0accd2ade70f1a76616267542d7305f3d38721e57d63", checked := Tryz.checked }
namespace Rows
def none {H : Type} : Left H := { results := [], args := [] }

/-- 'leafmeshlaw35.TransitKnown': WHATEVER THE INPUT: true; the input reads as it did. -/
def transitKnownSpec : ChangeSpec := { name := "transitKnown", fn := fun _ => fun
  | [] => { results := [.lit (.bool true)], args := [] }
  | _ => none }
def transitKnownRow : OpenClaim := { program := "ytcmcofklcgafiaagreat", sum := "9336c6f192254b98b3ba0accd2ade70f1a76616267542d7305f3d38721e57d63", func := "leafmesh/leafmeshlaw35.TransitKnown", spec := "transitKnown", unfollowed := true, recurses := true, plainKeys := false, apart := false }
def TransitKnownSaid : Prop := transitKnownRow.holds Tryz.pinned (OpenSpec.ofChange transitKnownSpec)

/-- ITS FALSE NEIGHBOUR: 'it returns false'. Refute it at one input. -/
def transitKnownWrong : ChangeSpec := { name := "transitKnown", fn := fun _ => fun
  | [] => { results := [.lit (.bool false)], args := [] }
  | _ => none }
def TransitKnownWrongFalsely : Prop := transitKnownRow.holds Tryz.pinned (OpenSpec.ofChange transitKnownWrong)

/-- 'leafmeshlaw35.TransitNone': WHATEVER THE INPUT: true; the input reads as it did. -/
def transitNoneSpec : ChangeSpec := { name := "transitNone", fn := fun _ => fun
  | [d] => { results := [.lit (.bool true)], args := [d] }
  | _ => none }
def transitNoneRow : OpenClaim := { program := "ytcmcofklcgafiaagreat", sum := "9336c6f192254b98b3ba0accd2ade70f1a76616267542d7305f3d38721e57d63", func := "leafmesh/leafmeshlaw35.TransitNone", spec := "transitNone", unfollowed := true, recurses := true, plainKeys := false, apart := false }
def TransitNoneSaid : Prop := transitNoneRow.holds Tryz.pinned (OpenSpec.ofChange transitNoneSpec)

/-- ITS FALSE NEIGHBOUR: 'it returns false'. Refute it at one input. -/
def transitNoneWrong : ChangeSpec := { name := "transitNone", fn := fun _ => fun
  | [d] => { results := [.lit (.bool false)], args := [d] }
  | _ => none }
def TransitNoneWrongFalsely : Prop := transitNoneRow.holds Tryz.pinned (OpenSpec.ofChange transitNoneWrong)

/-- 'leafmeshlaw35.TransitLives': WHATEVER THE INPUT: true; the input reads as it did. -/
def transitLivesSpec : ChangeSpec := { name := "transitLives", fn := fun _ => fun
  | [d1, d2, d3, d4] => { results := [.lit (.bool true)], args := [d1, d2, d3, d4] }
  | _ => none }
def transitLivesRow : OpenClaim := { program := "ytcmcofklcgafiaagreat", sum := "9336c6f192254b98b3ba0accd2ade70f1a76616267542d7305f3d38721e57d63", func := "leafmesh/leafmeshlaw35.TransitLives", spec := "transitLives", unfollowed := true, recurses := true, plainKeys := false, apart := false }
def TransitLivesSaid : Prop := transitLivesRow.holds Tryz.pinned (OpenSpec.ofChange transitLivesSpec)

/-- ITS FALSE NEIGHBOUR: 'it returns false'. Refute it at one input. -/
def transitLivesWrong : ChangeSpec := { name := "transitLives", fn := fun _ => fun
  | [d1, d2, d3, d4] => { results := [.lit (.bool false)], args := [d1, d2, d3, d4] }
  | _ => none }
def TransitLivesWrongFalsely : Prop := transitLivesRow.holds Tryz.pinned (OpenSpec.ofChange transitLivesWrong)

/-- 'leafmeshlaw35.TransitConverges': WHATEVER THE INPUT: true; the input reads as it did. -/
def transitConvergesSpec : ChangeSpec := { name := "transitConverges", fn := fun _ => fun
  | [d1, d2] => { results := [.lit (.bool true)], args := [d1, d2] }
  | _ => none }
def transitConvergesRow : OpenClaim := { program := "ytcmcofklcgafiaagreat", sum := "9336c6f192254b98b3ba0accd2ade70f1a76616267542d7305f3d38721e57d63", func := "leafmesh/leafmeshlaw35.TransitConverges", spec := "transitConverges", unfollowed := true, recurses := true, plainKeys := false, apart := false }
def TransitConvergesSaid : Prop := transitConvergesRow.holds Tryz.pinned (OpenSpec.ofChange transitConvergesSpec)

/-- ITS FALSE NEIGHBOUR: 'it returns false'. Refute it at one input. -/
def transitConvergesWrong : ChangeSpec := { name := "transitConverges", fn := fun _ => fun
  | [d1, d2] => { results := [.lit (.bool false)], args := [d1, d2] }
  | _ => none }
def TransitConvergesWrongFalsely : Prop := transitConvergesRow.holds Tryz.pinned (OpenSpec.ofChange transitConvergesWrong)

/-- 'leafmeshlaw35.TransitDelivers': WHATEVER THE INPUT: true; the input reads as it did. -/
def transitDeliversSpec : ChangeSpec := { name := "transitDelivers", fn := fun _ => fun
  | [d1, d2, d3, d4, d5] => { results := [.lit (.bool true)], args := [d1, d2, d3, d4, d5] }
  | _ => none }
def transitDeliversRow : OpenClaim := { program := "ytcmcofklcgafiaagreat", sum := "9336c6f192254b98b3ba0accd2ade70f1a76616267542d7305f3d38721e57d63", func := "leafmesh/leafmeshlaw35.TransitDelivers", spec := "transitDelivers", unfollowed := true, recurses := true, plainKeys := false, apart := false }
def TransitDeliversSaid : Prop := transitDeliversRow.holds Tryz.pinned (OpenSpec.ofChange transitDeliversSpec)

/-- ITS FALSE NEIGHBOUR: 'it returns false'. Refute it at one input. -/
def transitDeliversWrong : ChangeSpec := { name := "transitDelivers", fn := fun _ => fun
  | [d1, d2, d3, d4, d5] => { results := [.lit (.bool false)], args := [d1, d2, d3, d4, d5] }
  | _ => none }
def TransitDeliversWrongFalsely : Prop := transitDeliversRow.holds Tryz.pinned (OpenSpec.ofChange transitDeliversWrong)

/- THE SECOND FORM. 'bulk': how many values and letters a reading holds, each counted each time it is reached (what is shared counts as often as it is met; a slice's spare places count too). A statement '..UptoSaid' is the law's where the arguments, and the package variables that the reading takes, are together of bulk at most 1048576: NARROWER than '..Said'. Prove '..Said' where nothing that the law and all that it calls make is longer than what came in: it says more and counts as full. Else prove '..UptoSaid'. A law counts once. -/
mutual
def uptoBulk {H : Type} : DataW H → Nat
  | .lit (.string bytes) => bytes.length + 1
  | .lit _ => 1
  | .nil => 1
  | .ptr d => uptoBulk d + 1
  | .slice elems spare => uptoBulkAll elems + uptoBulkAll spare + 1
  | .agg parts => uptoBulkAll parts + 1
  | .iface _ d => uptoBulk d + 1
  | .map entries => uptoBulkEntries entries + 1
  | .held _ => 1
def uptoBulkAll {H : Type} : List (DataW H) → Nat
  | [] => 0
  | d :: r => uptoBulk d + uptoBulkAll r
def uptoBulkEntries {H : Type} : List (Lit × DataW H) → Nat
  | [] => 0
  | x :: r => uptoBulkEntry x + uptoBulkEntries r
def uptoBulkEntry {H : Type} : Lit × DataW H → Nat
  | (.string bytes, d) => bytes.length + uptoBulk d + 1
  | (_, d) => uptoBulk d + 1
 end
def uptoSmall : (H : Type) → List (DataW H) → Bool := fun _ ds => decide (uptoBulkAll ds ≤ 1048576)
def OpenSpec.upto (s : _root_.Go.ChangeSpec) : _root_.Go.OpenSpec := { _root_.Go.OpenSpec.ofChange s with cond := some uptoSmall }

/-- 'leafmeshlaw35.TransitKnown', WHERE WHAT IT READS IS OF BULK AT MOST 1048576: true; the input reads as it did. -/
def transitKnownUptoRow : OpenClaim := { program := "ytcmcofklcgafiaagreat", sum := "9336c6f192254b98b3ba0accd2ade70f1a76616267542d7305f3d38721e57d63", func := "leafmesh/leafmeshlaw35.TransitKnown", spec := "transitKnown", unfollowed := true, recurses := true, plainKeys := false, apart := false, narrowed := true }
def TransitKnownUptoSaid : Prop := transitKnownUptoRow.holds Tryz.pinned (OpenSpec.upto transitKnownSpec)

/-- 'leafmeshlaw35.TransitNone', WHERE WHAT IT READS IS OF BULK AT MOST 1048576: true; the input reads as it did. -/
def transitNoneUptoRow : OpenClaim := { program := "ytcmcofklcgafiaagreat", sum := "9336c6f192254b98b3ba0accd2ade70f1a76616267542d7305f3d38721e57d63", func := "leafmesh/leafmeshlaw35.TransitNone", spec := "transitNone", unfollowed := true, recurses := true, plainKeys := false, apart := false, narrowed := true }
def TransitNoneUptoSaid : Prop := transitNoneUptoRow.holds Tryz.pinned (OpenSpec.upto transitNoneSpec)

/-- 'leafmeshlaw35.TransitLives', WHERE WHAT IT READS IS OF BULK AT MOST 1048576: true; the input reads as it did. -/
def transitLivesUptoRow : OpenClaim := { program := "ytcmcofklcgafiaagreat", sum := "9336c6f192254b98b3ba0accd2ade70f1a76616267542d7305f3d38721e57d63", func := "leafmesh/leafmeshlaw35.TransitLives", spec := "transitLives", unfollowed := true, recurses := true, plainKeys := false, apart := false, narrowed := true }
def TransitLivesUptoSaid : Prop := transitLivesUptoRow.holds Tryz.pinned (OpenSpec.upto transitLivesSpec)

/-- 'leafmeshlaw35.TransitConverges', WHERE WHAT IT READS IS OF BULK AT MOST 1048576: true; the input reads as it did. -/
def transitConvergesUptoRow : OpenClaim := { program := "ytcmcofklcgafiaagreat", sum := "9336c6f192254b98b3ba0accd2ade70f1a76616267542d7305f3d38721e57d63", func := "leafmesh/leafmeshlaw35.TransitConverges", spec := "transitConverges", unfollowed := true, recurses := true, plainKeys := false, apart := false, narrowed := true }
def TransitConvergesUptoSaid : Prop := transitConvergesUptoRow.holds Tryz.pinned (OpenSpec.upto transitConvergesSpec)

/-- 'leafmeshlaw35.TransitDelivers', WHERE WHAT IT READS IS OF BULK AT MOST 1048576: true; the input reads as it did. -/
def transitDeliversUptoRow : OpenClaim := { program := "ytcmcofklcgafiaagreat", sum := "9336c6f192254b98b3ba0accd2ade70f1a76616267542d7305f3d38721e57d63", func := "leafmesh/leafmeshlaw35.TransitDelivers", spec := "transitDelivers", unfollowed := true, recurses := true, plainKeys := false, apart := false, narrowed := true }
def TransitDeliversUptoSaid : Prop := transitDeliversUptoRow.holds Tryz.pinned (OpenSpec.upto transitDeliversSpec)

end Rows
end Go.Proofs.YtcmcofklcgafiaaGreat
