/- Part 26 of a calculation in a small memory that is proved to answer as the program does: see the last part. -/
import Derived.Test.YtnbgeelhoakjgaaAm25
import Derived.ProofKit
import Derived.OpenShut
namespace Go.AM
open Go Go.RowKit Go.ChangeShapes Go.WideShapes Go.ChangeAt
/-- a calculation that ends in 'true' -/
def isTrue : Option (Out × AHeap) → Bool
  | some (.val (.bool true), _) => true
  | _ => false
theorem isTrue_spec {r : Option (Out × AHeap)} (h : isTrue r = true) : ∃ H', r = some (.val (.bool true), H') := by
  unfold isTrue at h
  split at h
  · exact ⟨_, rfl⟩
  · cases h
def noNumB (P : Program) : Bool := P.funcs.toList.all fun fn => !(fn.name == "runtime.NumGoroutine")
theorem noNum_of {P : Program} (h : noNumB P = true) : NoNum P := by
  intro k fn hk e
  have hm : fn ∈ P.funcs.toList := Array.mem_def.1 (Array.mem_of_getElem? hk)
  have := List.all_eq_true.1 h fn hm
  simp [e] at this
theorem calls_true {P : Program} (hm : P.follows .mixedOrders = true) (hname : noNumB P = true) (n : Nat) {f : FuncId} (args : List AVal) (h : isTrue (run P noExt n (.call f args) empty) = true) (σ : Nat → Value) (hσ : One σ) (args' : Array Value) (hr : RelL σ (fun _ => none) args args'.toList) (w : World) :
    Calls P f args' w fun e w' => e = .returned (.bool true) ∧ Below w.heap.size w w' := by
  obtain ⟨H', h⟩ := isTrue_spec h
  refine (calls_of_run hm (noNum_of hname) extOK_none h σ hσ (fun _ => none) w wr_empty (fun _ _ _ => rfl) args' hr).mono ?_
  rintro e w' ⟨v', ρ', rfl, hv, _, hb⟩
  unfold Rel at hv
  rw [hv]
  exact ⟨rfl, hb⟩
theorem post_of_below {H : Type} {enc : TypeId × Value → H} {P : Program} {f : Func} {s : ChangeSpec} {apart fresh handsOn again : Bool} {W W' : World} {args : Array Value} {v : Value} {ds gs : List (DataW H)} {before pa pv : List MemPlace}
    (hW : DataW.Whole enc P f.params.toList s.vars apart W args.toList ds gs before) (hb : Below W.heap.size W W')
    (hres : ∀ (b : Nat) (sp : Nat → Bool) (hd : Bool), DataW.TrodAll enc P W' b sp hd f.resultTypes.toList (v.resultList f.resultTypes.size) (s.fn H (ds ++ gs)).results [])
    (hargs : ∀ sp : Nat → Bool, (∀ p ∈ before, sp p.block = true) → DataW.TrodAll enc P W' 0 sp true f.params.toList args.toList (s.fn H (ds ++ gs)).args pa)
    (hvars : ∀ sp : Nat → Bool, (∀ p ∈ before, sp p.block = true) → DataW.TrodVars enc P W' sp s.vars (s.fn H (ds ++ gs)).vars pv)
    (hps : before = pa ++ pv)
    (hok : ∀ (j : Nat) (t : TypeId) (r : Value), f.resultTypes[j]? = some t → (v.resultList f.resultTypes.size)[j]? = some r → Value.okWide P W' .any 0 t r) :
    s.post enc P f apart fresh handsOn again W args v W' := by
  have hold : ∀ p ∈ before, (fun b => decide (b < W.heap.size)) p.block = true := fun p hp => by simpa using hW.lt p hp
  have hlt := hW.lt
  refine ⟨ds, gs, before, [], pa, pv, hW, hres _ _ _, hargs _ hold, hvars _ hold, World.keptBut_mono (fun p hp => ⟨hp, ?_⟩) (hb.frame (· ∈ before)), fun _ => ?_⟩
  · rw [hps, List.mem_append] at hp
    exact Or.inr hp
  · obtain ⟨_, _, _, _, _, hz, hn⟩ := hW
    refine ⟨hok, _, _, ([] ++ pa) ++ pv, ⟨[] ++ pa, pv, trodAll_append (hargs _ (fun _ _ => rfl)) (hres _ _ _), hvars _ (fun _ _ => rfl), rfl, ?_, ?_⟩, ?_⟩
    · intro b off hp
      have hm : MemPlace.cell b off ∈ before := by rw [hps]; simpa using hp
      rw [hb.frozen (p := ⟨b, off, none⟩) (hlt _ hm)]
      exact hz b off hm
    · intro ha
      have := hn ha
      rw [hps] at this
      simpa using this
    · intro p hp _
      rw [hps]
      simpa using hp
end Go.AM
