/-
  No cell of these rows narrows 'for every input' (looked for: loops, veiled, ifaces, maps, wideKeys, modest, calm, conditions, laid).
  DERIVED. THE GIVEN ROWS OF THIS SEAT. 7 by the template 'for every input the law returns true; each argument reads behind the call as it read before'; 0 by the template 'total and deterministic' (their statements: YtboddampdcalfaaTotals.lean).
  GIVEN WITH THE SEED: the statements are not yours to turn. If you find one false, say at which input.
  Laid BY PROGRAM, IN A SANDBOX (cutbox-rows.mjs): the forced cells as the released guide's own fill.sh prints them over the translation 67b57776fc4b37cc… (all of the seat's roots in one cut). By AI agents, Wed Nov 11 2026. No macro, syntax, notation, axiom, sorry.
-/
import Derived.Test.YtboddampdcalfaaChecked
import GoSem.Claim
import GoSem.ClaimJoined
import GoSem.ClaimMapViews
import Derived.JoinedTies
import Derived.KernelRfl
namespace Go.Proofs.Ytboddampdcalfaa
/- THE CELL 'sum', in the pinned program and in every row, IS THE sha256 OF THE DUMP (.gsa) THAT YtboddampdcalfaaProg.lean LOADS. Nothing in Lean hashes anything: it is a label: what it is worth is what the hold of that sum in a sandbox is worth. -/
noncomputable def Try.pinned : Pinned := { name := "ytboddampdcalfaa", sum := "67b57776fc4b37ccc4010b027a99dfea527ffdaed912c0d9733bf5bc8377517a", checked := Try.checked }
namespace Rows
def none {H : Type} : Left H := { results := [], args := [] }

/-- 'leafmeshlaw13.LsdbCompare': WHATEVER THE INPUT: true; the input reads as it did. -/
def lsdbCompareSpec : ChangeSpec := { name := "lsdbCompare", fn := fun _ => fun
  | [d1, d2, d3] => { results := [.lit (.bool true)], args := [d1, d2, d3] }
  | _ => none }
def lsdbCompareRow : OpenClaim := { program := "ytboddampdcalfaa", sum := "67b57776fc4b37ccc4010b027a99dfea527ffdaed912c0d9733bf5bc8377517a", func := "leafmesh/leafmeshlaw13.LsdbCompare", spec := "lsdbCompare", apart := false }
def LsdbCompareSaid : Prop := lsdbCompareRow.holds Try.pinned (OpenSpec.ofChange lsdbCompareSpec)

/-- ITS FALSE NEIGHBOUR: 'it returns false'. Refute it at one input. -/
def lsdbCompareWrong : ChangeSpec := { name := "lsdbCompare", fn := fun _ => fun
  | [d1, d2, d3] => { results := [.lit (.bool false)], args := [d1, d2, d3] }
  | _ => none }
def LsdbCompareWrongFalsely : Prop := lsdbCompareRow.holds Try.pinned (OpenSpec.ofChange lsdbCompareWrong)

/-- 'leafmeshlaw13.LsdbKnown': WHATEVER THE INPUT: true; the input reads as it did. -/
def lsdbKnownSpec : ChangeSpec := { name := "lsdbKnown", fn := fun _ => fun
  | [] => { results := [.lit (.bool true)], args := [] }
  | _ => none }
def lsdbKnownRow : OpenClaim := { program := "ytboddampdcalfaa", sum := "67b57776fc4b37ccc4010b027a99dfea527ffdaed912c0d9733bf5bc8377517a", func := "leafmesh/leafmeshlaw13.LsdbKnown", spec := "lsdbKnown", unfollowed := true, recurses := true, apart := false }
def LsdbKnownSaid : Prop := lsdbKnownRow.holds Try.pinned (OpenSpec.ofChange lsdbKnownSpec)

/-- ITS FALSE NEIGHBOUR: 'it returns false'. Refute it at one input. -/
def lsdbKnownWrong : ChangeSpec := { name := "lsdbKnown", fn := fun _ => fun
  | [] => { results := [.lit (.bool false)], args := [] }
  | _ => none }
def LsdbKnownWrongFalsely : Prop := lsdbKnownRow.holds Try.pinned (OpenSpec.ofChange lsdbKnownWrong)

/-- 'leafmeshlaw13.LsdbOrder': WHATEVER THE INPUT: true; the input reads as it did. -/
def lsdbOrderSpec : ChangeSpec := { name := "lsdbOrder", fn := fun _ => fun
  | [d1, d2] => { results := [.lit (.bool true)], args := [d1, d2] }
  | _ => none }
def lsdbOrderRow : OpenClaim := { program := "ytboddampdcalfaa", sum := "67b57776fc4b37ccc4010b027a99dfea527ffdaed912c0d9733bf5bc8377517a", func := "leafmesh/leafmeshlaw13.LsdbOrder", spec := "lsdbOrder", unfollowed := true, recurses := true, apart := false }
def LsdbOrderSaid : Prop := lsdbOrderRow.holds Try.pinned (OpenSpec.ofChange lsdbOrderSpec)

/-- ITS FALSE NEIGHBOUR: 'it returns false'. Refute it at one input. -/
def lsdbOrderWrong : ChangeSpec := { name := "lsdbOrder", fn := fun _ => fun
  | [d1, d2] => { results := [.lit (.bool false)], args := [d1, d2] }
  | _ => none }
def LsdbOrderWrongFalsely : Prop := lsdbOrderRow.holds Try.pinned (OpenSpec.ofChange lsdbOrderWrong)

/-- 'leafmeshlaw13.LsdbMeets': WHATEVER THE INPUT: true; the input reads as it did. -/
def lsdbMeetsSpec : ChangeSpec := { name := "lsdbMeets", fn := fun _ => fun
  | [d1, d2] => { results := [.lit (.bool true)], args := [d1, d2] }
  | _ => none }
def lsdbMeetsRow : OpenClaim := { program := "ytboddampdcalfaa", sum := "67b57776fc4b37ccc4010b027a99dfea527ffdaed912c0d9733bf5bc8377517a", func := "leafmesh/leafmeshlaw13.LsdbMeets", spec := "lsdbMeets", unfollowed := true, recurses := true, apart := false }
def LsdbMeetsSaid : Prop := lsdbMeetsRow.holds Try.pinned (OpenSpec.ofChange lsdbMeetsSpec)

/-- ITS FALSE NEIGHBOUR: 'it returns false'. Refute it at one input. -/
def lsdbMeetsWrong : ChangeSpec := { name := "lsdbMeets", fn := fun _ => fun
  | [d1, d2] => { results := [.lit (.bool false)], args := [d1, d2] }
  | _ => none }
def LsdbMeetsWrongFalsely : Prop := lsdbMeetsRow.holds Try.pinned (OpenSpec.ofChange lsdbMeetsWrong)

/-- 'leafmeshlaw13.LsdbFloods': WHATEVER THE INPUT: true; the input reads as it did. -/
def lsdbFloodsSpec : ChangeSpec := { name := "lsdbFloods", fn := fun _ => fun
  | [d1, d2, d3, d4] => { results := [.lit (.bool true)], args := [d1, d2, d3, d4] }
  | _ => none }
def lsdbFloodsRow : OpenClaim := { program := "ytboddampdcalfaa", sum := "67b57776fc4b37ccc4010b027a99dfea527ffdaed912c0d9733bf5bc8377517a", func := "leafmesh/leafmeshlaw13.LsdbFloods", spec := "lsdbFloods", unfollowed := true, recurses := true, apart := false }
def LsdbFloodsSaid : Prop := lsdbFloodsRow.holds Try.pinned (OpenSpec.ofChange lsdbFloodsSpec)

/-- ITS FALSE NEIGHBOUR: 'it returns false'. Refute it at one input. -/
def lsdbFloodsWrong : ChangeSpec := { name := "lsdbFloods", fn := fun _ => fun
  | [d1, d2, d3, d4] => { results := [.lit (.bool false)], args := [d1, d2, d3, d4] }
  | _ => none }
def LsdbFloodsWrongFalsely : Prop := lsdbFloodsRow.holds Try.pinned (OpenSpec.ofChange lsdbFloodsWrong)

/-- 'leafmeshlaw13.LsdbScript': WHATEVER THE INPUT: true; the input reads as it did. -/
def lsdbScriptSpec : ChangeSpec := { name := "lsdbScript", fn := fun _ => fun
  | [d1, d2, d3, d4] => { results := [.lit (.bool true)], args := [d1, d2, d3, d4] }
  | _ => none }
def lsdbScriptRow : OpenClaim := { program := "ytboddampdcalfaa", sum := "67b57776fc4b37ccc4010b027a99dfea527ffdaed912c0d9733bf5bc8377517a", func := "leafmesh/leafmeshlaw13.LsdbScript", spec := "lsdbScript", unfollowed := true, recurses := true, apart := false }
def LsdbScriptSaid : Prop := lsdbScriptRow.holds Try.pinned (OpenSpec.ofChange lsdbScriptSpec)

/-- ITS FALSE NEIGHBOUR: 'it returns false'. Refute it at one input. -/
def lsdbScriptWrong : ChangeSpec := { name := "lsdbScript", fn := fun _ => fun
  | [d1, d2, d3, d4] => { results := [.lit (.bool false)], args := [d1, d2, d3, d4] }
  | _ => none }
def LsdbScriptWrongFalsely : Prop := lsdbScriptRow.holds Try.pinned (OpenSpec.ofChange lsdbScriptWrong)

/-- 'leafmeshlaw13.LsdbNone': WHATEVER THE INPUT: true; the input reads as it did. -/
def lsdbNoneSpec : ChangeSpec := { name := "lsdbNone", fn := fun _ => fun
  | [d] => { results := [.lit (.bool true)], args := [d] }
  | _ => none }
def lsdbNoneRow : OpenClaim := { program := "ytboddampdcalfaa", sum := "67b57776fc4b37ccc4010b027a99dfea527ffdaed912c0d9733bf5bc8377517a", func := "leafmesh/leafmeshlaw13.LsdbNone", spec := "lsdbNone", unfollowed := true, recurses := true, apart := false }
def LsdbNoneSaid : Prop := lsdbNoneRow.holds Try.pinned (OpenSpec.ofChange lsdbNoneSpec)

/-- ITS FALSE NEIGHBOUR: 'it returns false'. Refute it at one input. -/
def lsdbNoneWrong : ChangeSpec := { name := "lsdbNone", fn := fun _ => fun
  | [d] => { results := [.lit (.bool false)], args := [d] }
  | _ => none }
def LsdbNoneWrongFalsely : Prop := lsdbNoneRow.holds Try.pinned (OpenSpec.ofChange lsdbNoneWrong)

/- THE SECOND FORM. 'bulk': how many values and letters a reading holds, each counted each time it is reached (what is shared counts as often as it is met; a slice's spare places count too). A statement '..UptoSaid' is the law's where the arguments, and the package variables that the reading takes, are together of bulk at most 1048576: NARROWER than '..Said'. Prove '..Said' where nothing that the law and all that it calls make is longer than what came in: it says more and counts as full. Else prove '..UptoSaid'. A law counts once. -/
mutual
def uptoBulk {H : Type} : DataW H → Nat
  | .lit (.string bytes) => bytes.length + 1
  | .lit _ => 1
  | .nil => 1
  | .ptr d => uptoBulk d + 1
  | .slice elems spare => uptoBulkAll elems + uptoBulkAll spare + 1
  | .agg parts => uptoBulkAll parts + 1
  | .iface _ d => uptoBulk d + 1
  | .map entries => uptoBulkEntries entries + 1
  | .held _ => 1
def uptoBulkAll {H : Type} : List (DataW H) → Nat
  | [] => 0
  | d :: r => uptoBulk d + uptoBulkAll r
def uptoBulkEntries {H : Type} : List (Lit × DataW H) → Nat
  | [] => 0
  | x :: r => uptoBulkEntry x + uptoBulkEntries r
def uptoBulkEntry {H : Type} : Lit × DataW H → Nat
  | (.string bytes, d) => bytes.length + uptoBulk d + 1
  | (_, d) => uptoBulk d + 1
 end
def uptoSmall : (H : Type) → List (DataW H) → Bool := fun _ ds => decide (uptoBulkAll ds ≤ 1048576)
def OpenSpec.upto (s : _root_.Go.ChangeSpec) : _root_.Go.OpenSpec := { _root_.Go.OpenSpec.ofChange s with cond := some uptoSmall }

/-- 'leafmeshlaw13.LsdbCompare', WHERE WHAT IT READS IS OF BULK AT MOST 1048576: true; the input reads as it did. -/
def lsdbCompareUptoRow : OpenClaim := { program := "ytboddampdcalfaa", sum := "67b57776fc4b37ccc4010b027a99dfea527ffdaed912c0d9733bf5bc8377517a", func := "leafmesh/leafmeshlaw13.LsdbCompare", spec := "lsdbCompare", apart := false, narrowed := true }
def LsdbCompareUptoSaid : Prop := lsdbCompareUptoRow.holds Try.pinned (OpenSpec.upto lsdbCompareSpec)

/-- 'leafmeshlaw13.LsdbKnown', WHERE WHAT IT READS IS OF BULK AT MOST 1048576: true; the input reads as it did. -/
def lsdbKnownUptoRow : OpenClaim := { program := "ytboddampdcalfaa", sum := "67b57776fc4b37ccc4010b027a99dfea527ffdaed912c0d9733bf5bc8377517a", func := "leafmesh/leafmeshlaw13.LsdbKnown", spec := "lsdbKnown", unfollowed := true, recurses := true, apart := false, narrowed := true }
def LsdbKnownUptoSaid : Prop := lsdbKnownUptoRow.holds Try.pinned (OpenSpec.upto lsdbKnownSpec)

/-- 'leafmeshlaw13.LsdbOrder', WHERE WHAT IT READS IS OF BULK AT MOST 1048576: true; the input reads as it did. -/
def lsdbOrderUptoRow : OpenClaim := { program := "ytboddampdcalfaa", sum := "67b57776fc4b37ccc4010b027a99dfea527ffdaed912c0d9733bf5bc8377517a", func := "leafmesh/leafmeshlaw13.LsdbOrder", spec := "lsdbOrder", unfollowed := true, recurses := true, apart := false, narrowed := true }
def LsdbOrderUptoSaid : Prop := lsdbOrderUptoRow.holds Try.pinned (OpenSpec.upto lsdbOrderSpec)

/-- 'leafmeshlaw13.LsdbMeets', WHERE WHAT IT READS IS OF BULK AT MOST 1048576: true; the input reads as it did. -/
def lsdbMeetsUptoRow : OpenClaim := { program := "ytboddampdcalfaa", sum := "67b57776fc4b37ccc4010b027a99dfea527ffdaed912c0d9733bf5bc8377517a", func := "leafmesh/leafmeshlaw13.LsdbMeets", spec := "lsdbMeets", unfollowed := true, recurses := true, apart := false, narrowed := true }
def LsdbMeetsUptoSaid : Prop := lsdbMeetsUptoRow.holds Try.pinned (OpenSpec.upto lsdbMeetsSpec)

/-- 'leafmeshlaw13.LsdbFloods', WHERE WHAT IT READS IS OF BULK AT MOST 1048576: true; the input reads as it did. -/
def lsdbFloodsUptoRow : OpenClaim := { program := "ytboddampdcalfaa", sum := "67b57776fc4b37ccc4010b027a99dfea527ffdaed912c0d9733bf5bc8377517a", func := "leafmesh/leafmeshlaw13.LsdbFloods", spec := "lsdbFloods", unfollowed := true, recurses := true, apart := false, narrowed := true }
def LsdbFloodsUptoSaid : Prop := lsdbFloodsUptoRow.holds Try.pinned (OpenSpec.upto lsdbFloodsSpec)

/-- 'leafmeshlaw13.LsdbScript', WHERE WHAT IT READS IS OF BULK AT MOST 1048576: true; the input reads as it did. -/
def lsdbScriptUptoRow : OpenClaim := { program := "ytboddampdcalfaa", sum := "67b57776fc4b37ccc4010b027a99dfea527ffdaed912c0d9733bf5bc8377517a", func := "leafmesh/leafmeshlaw13.LsdbScript", spec := "lsdbScript", unfollowed := true, recurses := true, apart := false, narrowed := true }
def LsdbScriptUptoSaid : Prop := lsdbScriptUptoRow.holds Try.pinned (OpenSpec.upto lsdbScriptSpec)

/-- 'leafmeshlaw13.LsdbNone', WHERE WHAT IT READS IS OF BULK AT MOST 1048576: true; the input reads as it did. -/
def lsdbNoneUptoRow : OpenClaim := { program := "ytboddampdcalfaa", sum := "67b57776fc4b37ccc4010b027a99dfea527ffdaed912c0d9733bf5bc8377517a", func := "leafmesh/leafmeshlaw13.LsdbNone", spec := "lsdbNone", unfollowed := true, recurses := true, apart := false, narrowed := true }
def LsdbNoneUptoSaid : Prop := lsdbNoneUptoRow.holds Try.pinned (OpenSpec.upto lsdbNoneSpec)

end Rows
end Go.Proofs.Ytboddampdcalfaa
