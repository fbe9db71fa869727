/- Part 27 of a calculation in a small memory that is proved to answer as the program does: see the last part. -/
import Derived.Test.YtnbgeelhoakjgaaAm26
namespace Go.AM
open Go Go.RowKit
/-- arguments that are never looked into -/
def anyArgs (k : Nat) : List AVal := (List.range k).map fun i => AVal.opq (i + 1)
theorem calls_true_any {P : Program} (hm : P.follows .mixedOrders = true) (hname : noNumB P = true) (n : Nat) {f : FuncId} (l : List Value) (hl : l.all Value.oneCell' = true) (h : isTrue (run P noExt n (.call f (anyArgs l.length)) empty) = true) (w : World) :
    Calls P f l.toArray w fun e w' => e = .returned (.bool true) ∧ Below w.heap.size w w' := by
  refine calls_true hm hname n _ h (fun i => l.getD (i - 1) (.bool true)) ?_ l.toArray ?_ w
  · intro i
    show (l.getD (i - 1) (.bool true)).oneCell' = true
    rw [List.getD_eq_getElem?_getD]
    cases hi : l[i - 1]? with
    | none => rfl
    | some x => exact List.all_eq_true.1 hl x (List.mem_of_getElem? hi)
  · refine RelL.of_get (by simp [anyArgs]) fun i x y hx hy => ?_
    have : x = .opq (i + 1) := by
      simp only [anyArgs, List.getElem?_map, Option.map_eq_some_iff] at hx
      obtain ⟨j, hj, rfl⟩ := hx
      rw [List.getElem?_eq_some_iff] at hj
      obtain ⟨_, hj⟩ := hj
      simp at hj
      rw [hj]
    subst this
    unfold Rel
    have hy : l[i]? = some y := by simpa using hy
    show y = l.getD (i + 1 - 1) (.bool true)
    rw [Nat.add_sub_cancel]
    rw [List.getD_eq_getElem?_getD, hy]; rfl
end Go.AM
