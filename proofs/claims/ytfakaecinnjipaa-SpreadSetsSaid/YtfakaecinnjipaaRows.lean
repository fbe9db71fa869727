/-
  No cell of these rows narrows 'for every input' (looked for: loops, veiled, ifaces, maps, wideKeys, modest, calm, conditions, laid).
  DERIVED. THE GIVEN ROWS OF THIS SEAT. 7 by the template 'for every input the law returns true; each argument reads behind the call as it read before'; 0 by the template 'total and deterministic' (their statements: YtfakaecinnjipaaTotals.lean).
  GIVEN WITH THE SEED: the statements are not yours to turn. If you find one false, say at which input.
  Laid BY PROGRAM, IN A SANDBOX (cutbox-rows.mjs): the forced cells as the released guide's own fill.sh prints them over the translation e385c8a30803e500… (all of the seat's roots in one cut). By AI agents, Wed Nov 11 2026. No macro, syntax, notation, axiom, sorry.
-/
import Derived.Test.YtfakaecinnjipaaChecked
import GoSem.Claim
import GoSem.ClaimJoined
import GoSem.ClaimMapViews
import Derived.JoinedTies
import Derived.KernelRfl
namespace Go.Proofs.Ytfakaecinnjipaa
/- THE CELL 'sum', in the pinned program and in every row, IS THE sha256 OF THE DUMP (.gsa) THAT YtfakaecinnjipaaProg.lean LOADS. Nothing in Lean hashes anything: it is a label: what it is worth is what the hold of that sum in a sandbox is worth. -/
noncomputable def Try.pinned : Pinned := { name := "ytfakaecinnjipaa", sum := "e385c8a30803e500740fa8fd7d929dceaf99ca312d418fd46ca748a6290b609a", checked := Try.checked }
namespace Rows
def none {H : Type} : Left H := { results := [], args := [] }

/-- 'leafmeshlaw11.SpreadKnown': WHATEVER THE INPUT: true; the input reads as it did. -/
def spreadKnownSpec : ChangeSpec := { name := "spreadKnown", fn := fun _ => fun
  | [] => { results := [.lit (.bool true)], args := [] }
  | _ => none }
def spreadKnownRow : OpenClaim := { program := "ytfakaecinnjipaa", sum := "e385c8a30803e500740fa8fd7d929dceaf99ca312d418fd46ca748a6290b609a", func := "leafmesh/leafmeshlaw11.SpreadKnown", spec := "spreadKnown", unfollowed := true, recurses := true, apart := false }
def SpreadKnownSaid : Prop := spreadKnownRow.holds Try.pinned (OpenSpec.ofChange spreadKnownSpec)

/-- ITS FALSE NEIGHBOUR: 'it returns false'. Refute it at one input. -/
def spreadKnownWrong : ChangeSpec := { name := "spreadKnown", fn := fun _ => fun
  | [] => { results := [.lit (.bool false)], args := [] }
  | _ => none }
def SpreadKnownWrongFalsely : Prop := spreadKnownRow.holds Try.pinned (OpenSpec.ofChange spreadKnownWrong)

/-- 'leafmeshlaw11.SpreadFair': WHATEVER THE INPUT: true; the input reads as it did. -/
def spreadFairSpec : ChangeSpec := { name := "spreadFair", fn := fun _ => fun
  | [d1, d2] => { results := [.lit (.bool true)], args := [d1, d2] }
  | _ => none }
def spreadFairRow : OpenClaim := { program := "ytfakaecinnjipaa", sum := "e385c8a30803e500740fa8fd7d929dceaf99ca312d418fd46ca748a6290b609a", func := "leafmesh/leafmeshlaw11.SpreadFair", spec := "spreadFair", unfollowed := true, recurses := true, apart := false }
def SpreadFairSaid : Prop := spreadFairRow.holds Try.pinned (OpenSpec.ofChange spreadFairSpec)

/-- ITS FALSE NEIGHBOUR: 'it returns false'. Refute it at one input. -/
def spreadFairWrong : ChangeSpec := { name := "spreadFair", fn := fun _ => fun
  | [d1, d2] => { results := [.lit (.bool false)], args := [d1, d2] }
  | _ => none }
def SpreadFairWrongFalsely : Prop := spreadFairRow.holds Try.pinned (OpenSpec.ofChange spreadFairWrong)

/-- 'leafmeshlaw11.SpreadGone': WHATEVER THE INPUT: true; the input reads as it did. -/
def spreadGoneSpec : ChangeSpec := { name := "spreadGone", fn := fun _ => fun
  | [d1, d2, d3] => { results := [.lit (.bool true)], args := [d1, d2, d3] }
  | _ => none }
def spreadGoneRow : OpenClaim := { program := "ytfakaecinnjipaa", sum := "e385c8a30803e500740fa8fd7d929dceaf99ca312d418fd46ca748a6290b609a", func := "leafmesh/leafmeshlaw11.SpreadGone", spec := "spreadGone", unfollowed := true, recurses := true, apart := false }
def SpreadGoneSaid : Prop := spreadGoneRow.holds Try.pinned (OpenSpec.ofChange spreadGoneSpec)

/-- ITS FALSE NEIGHBOUR: 'it returns false'. Refute it at one input. -/
def spreadGoneWrong : ChangeSpec := { name := "spreadGone", fn := fun _ => fun
  | [d1, d2, d3] => { results := [.lit (.bool false)], args := [d1, d2, d3] }
  | _ => none }
def SpreadGoneWrongFalsely : Prop := spreadGoneRow.holds Try.pinned (OpenSpec.ofChange spreadGoneWrong)

/-- 'leafmeshlaw11.SpreadComes': WHATEVER THE INPUT: true; the input reads as it did. -/
def spreadComesSpec : ChangeSpec := { name := "spreadComes", fn := fun _ => fun
  | [d1, d2, d3] => { results := [.lit (.bool true)], args := [d1, d2, d3] }
  | _ => none }
def spreadComesRow : OpenClaim := { program := "ytfakaecinnjipaa", sum := "e385c8a30803e500740fa8fd7d929dceaf99ca312d418fd46ca748a6290b609a", func := "leafmesh/leafmeshlaw11.SpreadComes", spec := "spreadComes", unfollowed := true, recurses := true, apart := false }
def SpreadComesSaid : Prop := spreadComesRow.holds Try.pinned (OpenSpec.ofChange spreadComesSpec)

/-- ITS FALSE NEIGHBOUR: 'it returns false'. Refute it at one input. -/
def spreadComesWrong : ChangeSpec := { name := "spreadComes", fn := fun _ => fun
  | [d1, d2, d3] => { results := [.lit (.bool false)], args := [d1, d2, d3] }
  | _ => none }
def SpreadComesWrongFalsely : Prop := spreadComesRow.holds Try.pinned (OpenSpec.ofChange spreadComesWrong)

/-- 'leafmeshlaw11.SpreadSets': WHATEVER THE INPUT: true; the input reads as it did. -/
def spreadSetsSpec : ChangeSpec := { name := "spreadSets", fn := fun _ => fun
  | [d1, d2, d3] => { results := [.lit (.bool true)], args := [d1, d2, d3] }
  | _ => none }
def spreadSetsRow : OpenClaim := { program := "ytfakaecinnjipaa", sum := "e385c8a30803e500740fa8fd7d929dceaf99ca312d418fd46ca748a6290b609a", func := "leafmesh/leafmeshlaw11.SpreadSets", spec := "spreadSets", unfollowed := true, recurses := true, apart := false }
def SpreadSetsSaid : Prop := spreadSetsRow.holds Try.pinned (OpenSpec.ofChange spreadSetsSpec)

/-- ITS FALSE NEIGHBOUR: 'it returns false'. Refute it at one input. -/
def spreadSetsWrong : ChangeSpec := { name := "spreadSets", fn := fun _ => fun
  | [d1, d2, d3] => { results := [.lit (.bool false)], args := [d1, d2, d3] }
  | _ => none }
def SpreadSetsWrongFalsely : Prop := spreadSetsRow.holds Try.pinned (OpenSpec.ofChange spreadSetsWrong)

/-- 'leafmeshlaw11.SpreadNone': WHATEVER THE INPUT: true; the input reads as it did. -/
def spreadNoneSpec : ChangeSpec := { name := "spreadNone", fn := fun _ => fun
  | [d1, d2] => { results := [.lit (.bool true)], args := [d1, d2] }
  | _ => none }
def spreadNoneRow : OpenClaim := { program := "ytfakaecinnjipaa", sum := "e385c8a30803e500740fa8fd7d929dceaf99ca312d418fd46ca748a6290b609a", func := "leafmesh/leafmeshlaw11.SpreadNone", spec := "spreadNone", unfollowed := true, recurses := true, apart := false }
def SpreadNoneSaid : Prop := spreadNoneRow.holds Try.pinned (OpenSpec.ofChange spreadNoneSpec)

/-- ITS FALSE NEIGHBOUR: 'it returns false'. Refute it at one input. -/
def spreadNoneWrong : ChangeSpec := { name := "spreadNone", fn := fun _ => fun
  | [d1, d2] => { results := [.lit (.bool false)], args := [d1, d2] }
  | _ => none }
def SpreadNoneWrongFalsely : Prop := spreadNoneRow.holds Try.pinned (OpenSpec.ofChange spreadNoneWrong)

/-- 'leafmeshlaw11.SpreadHash': WHATEVER THE INPUT: true; the input reads as it did. -/
def spreadHashSpec : ChangeSpec := { name := "spreadHash", fn := fun _ => fun
  | [d1, d2, d3, d4, d5] => { results := [.lit (.bool true)], args := [d1, d2, d3, d4, d5] }
  | _ => none }
def spreadHashRow : OpenClaim := { program := "ytfakaecinnjipaa", sum := "e385c8a30803e500740fa8fd7d929dceaf99ca312d418fd46ca748a6290b609a", func := "leafmesh/leafmeshlaw11.SpreadHash", spec := "spreadHash", unfollowed := true, recurses := true, apart := false }
def SpreadHashSaid : Prop := spreadHashRow.holds Try.pinned (OpenSpec.ofChange spreadHashSpec)

/-- ITS FALSE NEIGHBOUR: 'it returns false'. Refute it at one input. -/
def spreadHashWrong : ChangeSpec := { name := "spreadHash", fn := fun _ => fun
  | [d1, d2, d3, d4, d5] => { results := [.lit (.bool false)], args := [d1, d2, d3, d4, d5] }
  | _ => none }
def SpreadHashWrongFalsely : Prop := spreadHashRow.holds Try.pinned (OpenSpec.ofChange spreadHashWrong)

/- THE SECOND FORM. 'bulk': how many values and letters a reading holds, each counted each time it is reached (what is shared counts as often as it is met; a slice's spare places count too). A statement '..UptoSaid' is the law's where the arguments, and the package variables that the reading takes, are together of bulk at most 1048576: NARROWER than '..Said'. Prove '..Said' where nothing that the law and all that it calls make is longer than what came in: it says more and counts as full. Else prove '..UptoSaid'. A law counts once. -/
mutual
def uptoBulk {H : Type} : DataW H → Nat
  | .lit (.string bytes) => bytes.length + 1
  | .lit _ => 1
  | .nil => 1
  | .ptr d => uptoBulk d + 1
  | .slice elems spare => uptoBulkAll elems + uptoBulkAll spare + 1
  | .agg parts => uptoBulkAll parts + 1
  | .iface _ d => uptoBulk d + 1
  | .map entries => uptoBulkEntries entries + 1
  | .held _ => 1
def uptoBulkAll {H : Type} : List (DataW H) → Nat
  | [] => 0
  | d :: r => uptoBulk d + uptoBulkAll r
def uptoBulkEntries {H : Type} : List (Lit × DataW H) → Nat
  | [] => 0
  | x :: r => uptoBulkEntry x + uptoBulkEntries r
def uptoBulkEntry {H : Type} : Lit × DataW H → Nat
  | (.string bytes, d) => bytes.length + uptoBulk d + 1
  | (_, d) => uptoBulk d + 1
 end
def uptoSmall : (H : Type) → List (DataW H) → Bool := fun _ ds => decide (uptoBulkAll ds ≤ 1048576)
def OpenSpec.upto (s : _root_.Go.ChangeSpec) : _root_.Go.OpenSpec := { _root_.Go.OpenSpec.ofChange s with cond := some uptoSmall }

/-- 'leafmeshlaw11.SpreadKnown', WHERE WHAT IT READS IS OF BULK AT MOST 1048576: true; the input reads as it did. -/
def spreadKnownUptoRow : OpenClaim := { program := "ytfakaecinnjipaa", sum := "e385c8a30803e500740fa8fd7d929dceaf99ca312d418fd46ca748a6290b609a", func := "leafmesh/leafmeshlaw11.SpreadKnown", spec := "spreadKnown", unfollowed := true, recurses := true, apart := false, narrowed := true }
def SpreadKnownUptoSaid : Prop := spreadKnownUptoRow.holds Try.pinned (OpenSpec.upto spreadKnownSpec)

/-- 'leafmeshlaw11.SpreadFair', WHERE WHAT IT READS IS OF BULK AT MOST 1048576: true; the input reads as it did. -/
def spreadFairUptoRow : OpenClaim := { program := "ytfakaecinnjipaa", sum := "e385c8a30803e500740fa8fd7d929dceaf99ca312d418fd46ca748a6290b609a", func := "leafmesh/leafmeshlaw11.SpreadFair", spec := "spreadFair", unfollowed := true, recurses := true, apart := false, narrowed := true }
def SpreadFairUptoSaid : Prop := spreadFairUptoRow.holds Try.pinned (OpenSpec.upto spreadFairSpec)

/-- 'leafmeshlaw11.SpreadGone', WHERE WHAT IT READS IS OF BULK AT MOST 1048576: true; the input reads as it did. -/
def spreadGoneUptoRow : OpenClaim := { program := "ytfakaecinnjipaa", sum := "e385c8a30803e500740fa8fd7d929dceaf99ca312d418fd46ca748a6290b609a", func := "leafmesh/leafmeshlaw11.SpreadGone", spec := "spreadGone", unfollowed := true, recurses := true, apart := false, narrowed := true }
def SpreadGoneUptoSaid : Prop := spreadGoneUptoRow.holds Try.pinned (OpenSpec.upto spreadGoneSpec)

/-- 'leafmeshlaw11.SpreadComes', WHERE WHAT IT READS IS OF BULK AT MOST 1048576: true; the input reads as it did. -/
def spreadComesUptoRow : OpenClaim := { program := "ytfakaecinnjipaa", sum := "e385c8a30803e500740fa8fd7d929dceaf99ca312d418fd46ca748a6290b609a", func := "leafmesh/leafmeshlaw11.SpreadComes", spec := "spreadComes", unfollowed := true, recurses := true, apart := false, narrowed := true }
def SpreadComesUptoSaid : Prop := spreadComesUptoRow.holds Try.pinned (OpenSpec.upto spreadComesSpec)

/-- 'leafmeshlaw11.SpreadSets', WHERE WHAT IT READS IS OF BULK AT MOST 1048576: true; the input reads as it did. -/
def spreadSetsUptoRow : OpenClaim := { program := "ytfakaecinnjipaa", sum := "e385c8a30803e500740fa8fd7d929dceaf99ca312d418fd46ca748a6290b609a", func := "leafmesh/leafmeshlaw11.SpreadSets", spec := "spreadSets", unfollowed := true, recurses := true, apart := false, narrowed := true }
def SpreadSetsUptoSaid : Prop := spreadSetsUptoRow.holds Try.pinned (OpenSpec.upto spreadSetsSpec)

/-- 'leafmeshlaw11.SpreadNone', WHERE WHAT IT READS IS OF BULK AT MOST 1048576: true; the input reads as it did. -/
def spreadNoneUptoRow : OpenClaim := { program := "ytfakaecinnjipaa", sum := "e385c8a30803e500740fa8fd7d929dceaf99ca312d418fd46ca748a6290b609a", func := "leafmesh/leafmeshlaw11.SpreadNone", spec := "spreadNone", unfollowed := true, recurses := true, apart := false, narrowed := true }
def SpreadNoneUptoSaid : Prop := spreadNoneUptoRow.holds Try.pinned (OpenSpec.upto spreadNoneSpec)

/-- 'leafmeshlaw11.SpreadHash', WHERE WHAT IT READS IS OF BULK AT MOST 1048576: true; the input reads as it did. -/
def spreadHashUptoRow : OpenClaim := { program := "ytfakaecinnjipaa", sum := "e385c8a30803e500740fa8fd7d929dceaf99ca312d418fd46ca748a6290b609a", func := "leafmesh/leafmeshlaw11.SpreadHash", spec := "spreadHash", unfollowed := true, recurses := true, apart := false, narrowed := true }
def SpreadHashUptoSaid : Prop := spreadHashUptoRow.holds Try.pinned (OpenSpec.upto spreadHashSpec)

end Rows
end Go.Proofs.Ytfakaecinnjipaa
