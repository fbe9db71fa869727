/-
  No cell of these rows narrows 'for every input' (looked for: loops, veiled, ifaces, maps, wideKeys, modest, calm, conditions, laid).
  DERIVED. THE GIVEN ROWS OF THIS SEAT. 6 by the template 'for every input the law returns true; each argument reads behind the call as it read before'; 0 by the template 'total and deterministic' (their statements: YtnbgeelhoakjgaaTotals.lean).
  GIVEN WITH THE SEED: the statements are not yours to turn. If you find one false, say at which input.
  Laid BY PROGRAM, IN A SANDBOX (cutbox-rows.mjs): the forced cells as the released guide's own fill.sh prints them over the translation 418d11adfa383cd4… (all of the seat's roots in one cut). By AI agents, Wed Nov 11 2026. No macro, syntax, notation, axiom, sorry.
-/
import Derived.Test.YtnbgeelhoakjgaaChecked
import GoSem.Claim
import GoSem.ClaimJoined
import GoSem.ClaimMapViews
import Derived.JoinedTies
import Derived.KernelRfl
namespace Go.Proofs.Ytnbgeelhoakjgaa
/- THE CELL 'sum', in the pinned program and in every row, IS THE sha256 OF THE DUMP (.gsa) THAT YtnbgeelhoakjgaaProg.lean LOADS. Nothing in Lean hashes anything: it is a label: what it is worth is what the hold of that sum in a sandbox is worth. -/
noncomputable def Try.pinned : Pinned := { name := "ytnbgeelhoakjgaa", sum := "418d11adfa383cd444646f45186a2a5dff72babf6d47438debf3d5a06e7572c1", checked := Try.checked }
namespace Rows
def none {H : Type} : Left H := { results := [], args := [] }

/-- 'leafmeshlaw14.FibOf': WHATEVER THE INPUT: true; the input reads as it did. -/
def fibOfSpec : ChangeSpec := { name := "fibOf", fn := fun _ => fun
  | [d1, d2, d3, d4] => { results := [.lit (.bool true)], args := [d1, d2, d3, d4] }
  | _ => none }
def fibOfRow : OpenClaim := { program := "ytnbgeelhoakjgaa", sum := "418d11adfa383cd444646f45186a2a5dff72babf6d47438debf3d5a06e7572c1", func := "leafmesh/leafmeshlaw14.FibOf", spec := "fibOf", unfollowed := true, recurses := true, apart := false }
def FibOfSaid : Prop := fibOfRow.holds Try.pinned (OpenSpec.ofChange fibOfSpec)

/-- ITS FALSE NEIGHBOUR: 'it returns false'. Refute it at one input. -/
def fibOfWrong : ChangeSpec := { name := "fibOf", fn := fun _ => fun
  | [d1, d2, d3, d4] => { results := [.lit (.bool false)], args := [d1, d2, d3, d4] }
  | _ => none }
def FibOfWrongFalsely : Prop := fibOfRow.holds Try.pinned (OpenSpec.ofChange fibOfWrong)

/-- 'leafmeshlaw14.FibKnown': WHATEVER THE INPUT: true; the input reads as it did. -/
def fibKnownSpec : ChangeSpec := { name := "fibKnown", fn := fun _ => fun
  | [] => { results := [.lit (.bool true)], args := [] }
  | _ => none }
def fibKnownRow : OpenClaim := { program := "ytnbgeelhoakjgaa", sum := "418d11adfa383cd444646f45186a2a5dff72babf6d47438debf3d5a06e7572c1", func := "leafmesh/leafmeshlaw14.FibKnown", spec := "fibKnown", unfollowed := true, recurses := true, apart := false }
def FibKnownSaid : Prop := fibKnownRow.holds Try.pinned (OpenSpec.ofChange fibKnownSpec)

/-- ITS FALSE NEIGHBOUR: 'it returns false'. Refute it at one input. -/
def fibKnownWrong : ChangeSpec := { name := "fibKnown", fn := fun _ => fun
  | [] => { results := [.lit (.bool false)], args := [] }
  | _ => none }
def FibKnownWrongFalsely : Prop := fibKnownRow.holds Try.pinned (OpenSpec.ofChange fibKnownWrong)

/-- 'leafmeshlaw14.FibDelivers': WHATEVER THE INPUT: true; the input reads as it did. -/
def fibDeliversSpec : ChangeSpec := { name := "fibDelivers", fn := fun _ => fun
  | [d1, d2, d3, d4] => { results := [.lit (.bool true)], args := [d1, d2, d3, d4] }
  | _ => none }
def fibDeliversRow : OpenClaim := { program := "ytnbgeelhoakjgaa", sum := "418d11adfa383cd444646f45186a2a5dff72babf6d47438debf3d5a06e7572c1", func := "leafmesh/leafmeshlaw14.FibDelivers", spec := "fibDelivers", unfollowed := true, recurses := true, apart := false }
def FibDeliversSaid : Prop := fibDeliversRow.holds Try.pinned (OpenSpec.ofChange fibDeliversSpec)

/-- ITS FALSE NEIGHBOUR: 'it returns false'. Refute it at one input. -/
def fibDeliversWrong : ChangeSpec := { name := "fibDelivers", fn := fun _ => fun
  | [d1, d2, d3, d4] => { results := [.lit (.bool false)], args := [d1, d2, d3, d4] }
  | _ => none }
def FibDeliversWrongFalsely : Prop := fibDeliversRow.holds Try.pinned (OpenSpec.ofChange fibDeliversWrong)

/-- 'leafmeshlaw14.FibReach': WHATEVER THE INPUT: true; the input reads as it did. -/
def fibReachSpec : ChangeSpec := { name := "fibReach", fn := fun _ => fun
  | [d1, d2, d3] => { results := [.lit (.bool true)], args := [d1, d2, d3] }
  | _ => none }
def fibReachRow : OpenClaim := { program := "ytnbgeelhoakjgaa", sum := "418d11adfa383cd444646f45186a2a5dff72babf6d47438debf3d5a06e7572c1", func := "leafmesh/leafmeshlaw14.FibReach", spec := "fibReach", unfollowed := true, recurses := true, apart := false }
def FibReachSaid : Prop := fibReachRow.holds Try.pinned (OpenSpec.ofChange fibReachSpec)

/-- ITS FALSE NEIGHBOUR: 'it returns false'. Refute it at one input. -/
def fibReachWrong : ChangeSpec := { name := "fibReach", fn := fun _ => fun
  | [d1, d2, d3] => { results := [.lit (.bool false)], args := [d1, d2, d3] }
  | _ => none }
def FibReachWrongFalsely : Prop := fibReachRow.holds Try.pinned (OpenSpec.ofChange fibReachWrong)

/-- 'leafmeshlaw14.FibKeeps': WHATEVER THE INPUT: true; the input reads as it did. -/
def fibKeepsSpec : ChangeSpec := { name := "fibKeeps", fn := fun _ => fun
  | [d1, d2, d3, d4, d5] => { results := [.lit (.bool true)], args := [d1, d2, d3, d4, d5] }
  | _ => none }
def fibKeepsRow : OpenClaim := { program := "ytnbgeelhoakjgaa", sum := "418d11adfa383cd444646f45186a2a5dff72babf6d47438debf3d5a06e7572c1", func := "leafmesh/leafmeshlaw14.FibKeeps", spec := "fibKeeps", unfollowed := true, recurses := true, apart := false }
def FibKeepsSaid : Prop := fibKeepsRow.holds Try.pinned (OpenSpec.ofChange fibKeepsSpec)

/-- ITS FALSE NEIGHBOUR: 'it returns false'. Refute it at one input. -/
def fibKeepsWrong : ChangeSpec := { name := "fibKeeps", fn := fun _ => fun
  | [d1, d2, d3, d4, d5] => { results := [.lit (.bool false)], args := [d1, d2, d3, d4, d5] }
  | _ => none }
def FibKeepsWrongFalsely : Prop := fibKeepsRow.holds Try.pinned (OpenSpec.ofChange fibKeepsWrong)

/-- 'leafmeshlaw14.FibNone': WHATEVER THE INPUT: true; the input reads as it did. -/
def fibNoneSpec : ChangeSpec := { name := "fibNone", fn := fun _ => fun
  | [d] => { results := [.lit (.bool true)], args := [d] }
  | _ => none }
def fibNoneRow : OpenClaim := { program := "ytnbgeelhoakjgaa", sum := "418d11adfa383cd444646f45186a2a5dff72babf6d47438debf3d5a06e7572c1", func := "leafmesh/leafmeshlaw14.FibNone", spec := "fibNone", unfollowed := true, recurses := true, apart := false }
def FibNoneSaid : Prop := fibNoneRow.holds Try.pinned (OpenSpec.ofChange fibNoneSpec)

/-- ITS FALSE NEIGHBOUR: 'it returns false'. Refute it at one input. -/
def fibNoneWrong : ChangeSpec := { name := "fibNone", fn := fun _ => fun
  | [d] => { results := [.lit (.bool false)], args := [d] }
  | _ => none }
def FibNoneWrongFalsely : Prop := fibNoneRow.holds Try.pinned (OpenSpec.ofChange fibNoneWrong)

/- THE SECOND FORM. 'bulk': how many values and letters a reading holds, each counted each time it is reached (what is shared counts as often as it is met; a slice's spare places count too). A statement '..UptoSaid' is the law's where the arguments, and the package variables that the reading takes, are together of bulk at most 1048576: NARROWER than '..Said'. Prove '..Said' where nothing that the law and all that it calls make is longer than what came in: it says more and counts as full. Else prove '..UptoSaid'. A law counts once. -/
mutual
def uptoBulk {H : Type} : DataW H → Nat
  | .lit (.string bytes) => bytes.length + 1
  | .lit _ => 1
  | .nil => 1
  | .ptr d => uptoBulk d + 1
  | .slice elems spare => uptoBulkAll elems + uptoBulkAll spare + 1
  | .agg parts => uptoBulkAll parts + 1
  | .iface _ d => uptoBulk d + 1
  | .map entries => uptoBulkEntries entries + 1
  | .held _ => 1
def uptoBulkAll {H : Type} : List (DataW H) → Nat
  | [] => 0
  | d :: r => uptoBulk d + uptoBulkAll r
def uptoBulkEntries {H : Type} : List (Lit × DataW H) → Nat
  | [] => 0
  | x :: r => uptoBulkEntry x + uptoBulkEntries r
def uptoBulkEntry {H : Type} : Lit × DataW H → Nat
  | (.string bytes, d) => bytes.length + uptoBulk d + 1
  | (_, d) => uptoBulk d + 1
 end
def uptoSmall : (H : Type) → List (DataW H) → Bool := fun _ ds => decide (uptoBulkAll ds ≤ 1048576)
def OpenSpec.upto (s : _root_.Go.ChangeSpec) : _root_.Go.OpenSpec := { _root_.Go.OpenSpec.ofChange s with cond := some uptoSmall }

/-- 'leafmeshlaw14.FibOf', WHERE WHAT IT READS IS OF BULK AT MOST 1048576: true; the input reads as it did. -/
def fibOfUptoRow : OpenClaim := { program := "ytnbgeelhoakjgaa", sum := "418d11adfa383cd444646f45186a2a5dff72babf6d47438debf3d5a06e7572c1", func := "leafmesh/leafmeshlaw14.FibOf", spec := "fibOf", unfollowed := true, recurses := true, apart := false, narrowed := true }
def FibOfUptoSaid : Prop := fibOfUptoRow.holds Try.pinned (OpenSpec.upto fibOfSpec)

/-- 'leafmeshlaw14.FibKnown', WHERE WHAT IT READS IS OF BULK AT MOST 1048576: true; the input reads as it did. -/
def fibKnownUptoRow : OpenClaim := { program := "ytnbgeelhoakjgaa", sum := "418d11adfa383cd444646f45186a2a5dff72babf6d47438debf3d5a06e7572c1", func := "leafmesh/leafmeshlaw14.FibKnown", spec := "fibKnown", unfollowed := true, recurses := true, apart := false, narrowed := true }
def FibKnownUptoSaid : Prop := fibKnownUptoRow.holds Try.pinned (OpenSpec.upto fibKnownSpec)

/-- 'leafmeshlaw14.FibDelivers', WHERE WHAT IT READS IS OF BULK AT MOST 1048576: true; the input reads as it did. -/
def fibDeliversUptoRow : OpenClaim := { program := "ytnbgeelhoakjgaa", sum := "418d11adfa383cd444646f45186a2a5dff72babf6d47438debf3d5a06e7572c1", func := "leafmesh/leafmeshlaw14.FibDelivers", spec := "fibDelivers", unfollowed := true, recurses := true, apart := false, narrowed := true }
def FibDeliversUptoSaid : Prop := fibDeliversUptoRow.holds Try.pinned (OpenSpec.upto fibDeliversSpec)

/-- 'leafmeshlaw14.FibReach', WHERE WHAT IT READS IS OF BULK AT MOST 1048576: true; the input reads as it did. -/
def fibReachUptoRow : OpenClaim := { program := "ytnbgeelhoakjgaa", sum := "418d11adfa383cd444646f45186a2a5dff72babf6d47438debf3d5a06e7572c1", func := "leafmesh/leafmeshlaw14.FibReach", spec := "fibReach", unfollowed := true, recurses := true, apart := false, narrowed := true }
def FibReachUptoSaid : Prop := fibReachUptoRow.holds Try.pinned (OpenSpec.upto fibReachSpec)

/-- 'leafmeshlaw14.FibKeeps', WHERE WHAT IT READS IS OF BULK AT MOST 1048576: true; the input reads as it did. -/
def fibKeepsUptoRow : OpenClaim := { program := "ytnbgeelhoakjgaa", sum := "418d11adfa383cd444646f45186a2a5dff72babf6d47438debf3d5a06e7572c1", func := "leafmesh/leafmeshlaw14.FibKeeps", spec := "fibKeeps", unfollowed := true, recurses := true, apart := false, narrowed := true }
def FibKeepsUptoSaid : Prop := fibKeepsUptoRow.holds Try.pinned (OpenSpec.upto fibKeepsSpec)

/-- 'leafmeshlaw14.FibNone', WHERE WHAT IT READS IS OF BULK AT MOST 1048576: true; the input reads as it did. -/
def fibNoneUptoRow : OpenClaim := { program := "ytnbgeelhoakjgaa", sum := "418d11adfa383cd444646f45186a2a5dff72babf6d47438debf3d5a06e7572c1", func := "leafmesh/leafmeshlaw14.FibNone", spec := "fibNone", unfollowed := true, recurses := true, apart := false, narrowed := true }
def FibNoneUptoSaid : Prop := fibNoneUptoRow.holds Try.pinned (OpenSpec.upto fibNoneSpec)

end Rows
end Go.Proofs.Ytnbgeelhoakjgaa
