/- Part U3 of the proof: see the last part. -/
import Derived.Test.YtcmcofklcgafiaaGreatU2
import Derived.OpenShut
namespace Go.AM
open Go Go.RowKit Go.ChangeShapes Go.WideShapes Go.ChangeAt
/-! ### a law that reads a variable of a package, which holds numbers and Booleans -/
def valOf : AVal → Value
  | .bool b => .bool b
  | .int k n => .int k n
  | _ => .bool false
def plainC : List AVal → Bool
  | [] => true
  | .bool _ :: l => plainC l
  | .int _ _ :: l => plainC l
  | _ => false
theorem plainC_rel {σ : Nat → Value} {ρ : Ren} : ∀ {l : List AVal}, plainC l = true → RelL σ ρ l (l.map valOf) ∧ ∀ x ∈ l.map valOf, x.oneCell' = true
  | [], _ => ⟨.nil, by simp⟩
  | x :: l, h => by
    cases x <;> first | (cases h; done) | skip
    all_goals
      obtain ⟨h1, h2⟩ := plainC_rel (σ := σ) (ρ := ρ) (l := l) h
      refine ⟨.cons (by unfold Rel; rfl) h1, fun y hy => ?_⟩
      rw [List.map_cons] at hy
      rcases List.mem_cons.1 hy with rfl | hy
      · rfl
      · exact h2 y hy
def gHeap (g : Nat) (v : AVal) : AHeap := { blks := Tr.put .nil g (some (.glob g v)), next := g + 1, lo := g + 1, log := [] }
def gRen (g : Nat) : Ren := fun i => if i = g then some ⟨g, 0, 0⟩ else none
theorem gHeap_get {g : Nat} {v : AVal} {i : Nat} {b : ABlk} (h : (gHeap g v).blks.get i = some b) : i = g ∧ b = .glob g v := by
  have : (Tr.put .nil g (some (.glob g v)) : Tr ABlk).get i = some b := h
  rw [Tr.get_put] at this
  split at this
  · rename_i e; cases this; exact ⟨e.symm, rfl⟩
  · rw [Tr.get_nil] at this; cases this
theorem wr_glob {σ : Nat → Value} {w : World} {g : Nat} {v : AVal} {elem : TypeId} {fr : Nat × Nat} (hp : plainC v.cells = true) (hw : w.heap[g]? = some (.cells (v.cells.map valOf).toArray elem fr)) : WR σ (gRen g) w.heap.size (gHeap g v) w := by
  obtain ⟨h1, h2⟩ := plainC_rel (σ := σ) (ρ := gRen g) hp
  refine ⟨fun i b h => ?_, fun i b L h _ hl => ?_, fun i j bi bj Li Lj h _ _ _ hl => ?_, Nat.le_refl _⟩
  · obtain ⟨rfl, rfl⟩ := gHeap_get h
    exact ⟨⟨i, 0, 0⟩, if_pos rfl, rfl, _, elem, fr, hw, h1, h2⟩
  · obtain ⟨rfl, rfl⟩ := gHeap_get h
    exact absurd hl (by show ¬ i + 1 ≤ i; omega)
  · obtain ⟨rfl, rfl⟩ := gHeap_get h
    exact absurd hl (by show ¬ i + 1 ≤ i; omega)
theorem calls_trueG {P : Program} (hm : P.follows .mixedOrders = true) (hname : noNumB P = true) {X : Told} (hX : ExtOK P X) (n : Nat) {f : FuncId} (args : List AVal) {g : Nat} {v : AVal} (h : isTrue (runR P X n (.call f args) (gHeap g v)) = true) (hp : plainC v.cells = true) (σ : Nat → Value) (hσ : One σ) (args' : Array Value) (hr : RelL σ (fun _ => none) args args'.toList) (w : World)
    {elem : TypeId} {fr : Nat × Nat} (hw : w.heap[g]? = some (.cells (v.cells.map valOf).toArray elem fr)) :
    Calls P f args' w fun e w' => e = .returned (.bool true) ∧ Below w.heap.size w w' := by
  rw [runR_eq] at h
  obtain ⟨H', h⟩ := isTrue_spec h
  refine (calls_of_run hm (noNum_of hname) hX h σ hσ (gRen g) w (wr_glob hp hw) (fun i h1 _ => if_neg (by have h1 : g + 1 ≤ i := h1; omega)) args' (RelL.mono (fun _ _ h => by cases h) _ _ hr)).mono ?_
  rintro e w' ⟨v', ρ', rfl, hv, _, hb⟩
  unfold Rel at hv
  rw [hv]
  exact ⟨rfl, hb⟩
/-- A LAW THAT ANSWERS WITHOUT A LOOK AT ITS ARGUMENTS, and reads one variable of a package -/
theorem law_of_anyG {P : Program} {W : World} {H : Type} {enc : TypeId × Value → H} (hm : P.follows .mixedOrders = true) (hname : noNumB P = true) {X : Told} (hX : ExtOK P X) (n : Nat) {f : FuncId} {ts : List TypeId} (d : Nat) (hp : (ts.all fun t => plainT P d t) = true) {g : Nat} {v : AVal}
    (h : isTrue (runR P X n (.call f (opqs P ts 1)) (gHeap g v)) = true) (hpl : plainC v.cells = true) {elem : TypeId} {fr : Nat × Nat} (hw : W.heap[g]? = some (.cells (v.cells.map valOf).toArray elem fr)) {base : Nat} {args : Array Value} {ds : List (DataW H)} {ps : List MemPlace}
    (hA : DataW.TrodAll enc P W 0 (fun _ => true) true ts args.toList ds ps) (hv : ∀ (j : Nat) t v, ts[j]? = some t → args[j]? = some v → Value.okWide P W .any base t v) :
    Calls P f args W fun e W' => e = .returned (.bool true) ∧ Below W.heap.size W W' := by
  obtain ⟨h1, h2⟩ := any_rel (W := W) d base ts args.toList ds ps hp hA fun j t v hj hj' => hv j t v hj (by simpa using hj')
  refine calls_trueG hm hname hX n _ h hpl (fun k => (Value.bool true :: args.toList.flatMap (fun v : Value => v.cells.toList)).getD k (Value.bool true)) (fun i => ?_) args (h2 1 _ (Nat.le_refl _) fun j c hc => by rw [Nat.add_comm, List.getElem?_cons_succ]; exact hc) W hw
  show ((Value.bool true :: args.toList.flatMap (fun v : Value => v.cells.toList)).getD i (Value.bool true)).oneCell' = true
  rw [List.getD_eq_getElem?_getD]
  cases i with
  | zero => rfl
  | succ i =>
    rw [List.getElem?_cons_succ]
    cases hi : (args.toList.flatMap (fun v => v.cells.toList))[i]? with
    | none => rfl
    | some x => exact h1 x (List.mem_of_getElem? hi)
end Go.AM
namespace Go.AM
open Go Go.RowKit Go.ChangeShapes Go.WideShapes
/-! ### what a laid variable of numbers holds, cell by cell -/
def flats (f : DataW Unit → Option (List AVal)) (c : Nat) : List (DataW Unit) → Option (List AVal)
  | [] => some []
  | d :: ds => match f d, flats f c ds with
    | some l, some r => cond (Nat.beq l.length c) (some (l ++ r)) none
    | _, _ => none
def flatFs (P : Program) (f : TypeId → DataW Unit → Option (List AVal)) : Nat → List Field → List (DataW Unit) → Option (List AVal)
  | _, [], [] => some []
  | off, fd :: fs, d :: ds => match f fd.type d, flatFs P f (off + P.cellsOf fd.type) fs ds with
    | some l, some r => cond (Nat.beq fd.offset off && Nat.beq l.length (P.cellsOf fd.type)) (some (l ++ r)) none
    | _, _ => none
  | _, _, _ => none
def flatD (P : Program) : Nat → TypeId → DataW Unit → Option (List AVal)
  | 0, _, _ => none
  | n + 1, t, d => match P.underlying t, d with
    | some (.int k), .lit (.int k' x) => cond (intKindEq k k') (some [.int k x]) none
    | some (.array len e), .agg ds => match flats (flatD P n e) (P.cellsOf e) ds with
      | some l => cond (Nat.beq ds.length len && Nat.beq l.length (P.cellsOf t)) (some l) none
      | none => none
    | some (.struct fs), .agg ds => match flatFs P (flatD P n) 0 fs.toList ds with
      | some l => cond (Nat.beq l.length (P.cellsOf t)) (some l) none
      | none => none
    | _, _ => none
theorem flats_length {f : DataW Unit → Option (List AVal)} {c : Nat} : ∀ {ds : List (DataW Unit)} {l : List AVal}, flats f c ds = some l → l.length = ds.length * c
  | [], l, h => by cases h; simp
  | d :: ds, l, h => by
    unfold flats at h
    split at h
    · rename_i l1 r h1 h2
      obtain ⟨hc, h⟩ := condO_some h
      cases h
      have := flats_length h2
      rw [List.length_append, this, Nat.eq_of_beq_eq_true hc, List.length_cons, Nat.succ_mul]; omega
    · cases h
theorem flats_cells {f : DataW Unit → Option (List AVal)} {c : Nat} : ∀ {ds : List (DataW Unit)} {l : List AVal} {cs : List Value}, flats f c ds = some l → cs.length = ds.length * c →
    (∀ (i : Nat) (d : DataW Unit) (l0 : List AVal), ds[i]? = some d → f d = some l0 → (cs.drop (i * c)).take c = l0.map valOf) → cs = l.map valOf
  | [], l, cs, h, hl, _ => by
    cases h
    have : cs = [] := List.eq_nil_of_length_eq_zero (by simpa using hl)
    rw [this]; rfl
  | d :: ds, l, cs, h, hl, hi => by
    unfold flats at h
    split at h
    · rename_i l1 r h1 h2
      obtain ⟨hc, h⟩ := condO_some h
      cases h
      have e1 : cs.take c = l1.map valOf := by have := hi 0 d l1 rfl h1; simpa using this
      have e2 : cs.drop c = r.map valOf := flats_cells h2 (by rw [List.length_drop, hl, List.length_cons, Nat.succ_mul]; omega) fun i d' l0 hd hf => by
        have := hi (i + 1) d' l0 (by simpa using hd) hf
        rw [List.drop_drop]
        rw [Nat.succ_mul] at this
        rw [Nat.add_comm c]
        exact this
      rw [List.map_append, ← e1, ← e2, List.take_append_drop]
    · cases h
theorem flatFs_cells {P : Program} {f : TypeId → DataW Unit → Option (List AVal)} : ∀ {fs : List Field} {ds : List (DataW Unit)} {off : Nat} {l : List AVal} {cs : List Value}, flatFs P f off fs ds = some l → cs.length = off + l.length →
    (∀ (i : Nat) (fd : Field) (d : DataW Unit) (l0 : List AVal), fs[i]? = some fd → ds[i]? = some d → f fd.type d = some l0 → (cs.drop fd.offset).take (P.cellsOf fd.type) = l0.map valOf) → cs.drop off = l.map valOf
  | [], [], off, l, cs, h, hl, _ => by
    cases h
    have : cs.length ≤ off := by simpa using Nat.le_of_eq hl
    rw [List.drop_eq_nil_of_le this]; rfl
  | [], _ :: _, _, _, _, h, _, _ => by cases h
  | _ :: _, [], _, _, _, h, _, _ => by cases h
  | fd :: fs, d :: ds, off, l, cs, h, hl, hi => by
    unfold flatFs at h
    split at h
    · rename_i l1 r h1 h2
      obtain ⟨hc, h⟩ := condO_some h
      cases h
      obtain ⟨c1, c2⟩ := Bool.and_eq_true_iff.1 hc
      have c1 := Nat.eq_of_beq_eq_true c1
      have c2 := Nat.eq_of_beq_eq_true c2
      have e1 := hi 0 fd d l1 rfl rfl h1
      rw [c1] at e1
      have e2 := flatFs_cells (cs := cs) h2 (by rw [hl, List.length_append, c2]; omega) fun i fd' d' l0 a b c => hi (i + 1) fd' d' l0 (by simpa using a) (by simpa using b) c
      rw [List.map_append, ← e1, ← e2, ← List.drop_drop, List.take_append_drop]
    · cases h
theorem trod_flat {P : Program} {enc : TypeId × Value → Unit} {w : World} {base : Nat} {sp : Nat → Bool} {hd : Bool} : ∀ (n : Nat) {t : TypeId} {d : DataW Unit} {l : List AVal} {cs : List Value} {fuel : Nat} {p : List MemPlace},
    flatD P n t d = some l → DataW.trod enc P w base sp hd fuel t cs = some (d, p) → cs = l.map valOf
  | 0, _, _, _, _, _, _, h, _ => by cases h
  | n + 1, t, d, l, cs, fuel, p, h, ht => by
    unfold flatD at h
    generalize hu : P.underlying t = u at h
    split at h
    · obtain ⟨hk, h'⟩ := condO_some h
      clear h
      have := kind_eq hk; subst this
      cases h'
      obtain ⟨x, e1, e2, _⟩ := DataW.trod_int hu ht
      cases e2
      rw [e1]; rfl
    · rename_i len e ds
      split at h
      · rename_i l' h1
        obtain ⟨hc, h⟩ := condO_some h
        cases h
        obtain ⟨c1, c2⟩ := Bool.and_eq_true_iff.1 hc
        have c1 := Nat.eq_of_beq_eq_true c1
        have c2 := Nat.eq_of_beq_eq_true c2
        obtain ⟨xs, m, _, e2, e3, e4, e5⟩ := DataW.trod_array hu ht
        have hds : ds = xs.map (·.1) := by have := congrArg Prod.fst e2; injection this
        refine flats_cells h1 (by rw [e3, ← c2, flats_length h1]) fun i d' l0 hd hf => ?_
        rw [hds, List.getElem?_map] at hd
        cases hx : xs[i]? with
        | none => rw [hx] at hd; cases hd
        | some x =>
          rw [hx] at hd
          cases hd
          have hin : i < len := by rw [← e4]; exact (List.getElem?_eq_some_iff.1 hx).1
          have := e5 i hin
          rw [hx] at this
          exact trod_flat n hf this
      · cases h
    · rename_i fs ds
      split at h
      · rename_i l' h1
        obtain ⟨hc, h⟩ := condO_some h
        cases h
        have c2 := Nat.eq_of_beq_eq_true hc
        obtain ⟨xs, m, _, e2, e3, e4, e5⟩ := DataW.trod_struct hu ht
        have hds : ds = xs.map (·.1) := by have := congrArg Prod.fst e2; injection this
        have := flatFs_cells (cs := cs) h1 (by rw [e3, c2]; omega) fun i fd d' l0 hfd hd hf => by
          rw [hds, List.getElem?_map] at hd
          cases hx : xs[i]? with
          | none => rw [hx] at hd; cases hd
          | some x =>
            rw [hx] at hd
            cases hd
            have := e5 i fd (by simpa using hfd)
            rw [hx] at this
            exact trod_flat n hf this
        simpa using this
      · cases h
    · cases h
/-- a laid variable that holds numbers: its block -/
theorem laid_block {P : Program} {W : World} {name : String} {d : DataW Unit} {g : Nat} {t : TypeId} {n : Nat} {l : List AVal} (h : laidMet P [(name, d)] W) (hg : P.globalNamed name = some g) (ht : (P.globals[g]?).map (·.type) = some t) (hf : flatD P n t d = some l) :
    ∃ elem fr, W.heap[g]? = some (.cells (l.map valOf).toArray elem fr) := by
  obtain ⟨ps, ⟨g1, t1, cs, fuel, p, q, hg1, ht1, hv, hd, _⟩, _⟩ := h
  rw [hg] at hg1; cases hg1
  rw [ht] at ht1; cases ht1
  have hcs := trod_flat n hf hd
  simp only [World.var?, hg, Option.bind_some] at hv
  split at hv
  · rename_i cs' elem fr hb
    cases hv
    exact ⟨elem, fr, by rw [hb, ← hcs]⟩
  · cases hv
end Go.AM
namespace Go.AM
open Go Go.RowKit Go.ChangeShapes Go.WideShapes Go.ChangeAt
/-! ### steps in regions whose order is open -/
section
variable {s s2 : Heap} {v : AVal} {l : List AVal}
theorem newM {l : List (Heap × Heap)} {elem : TypeId} {cs : List AVal} {R : Nat → Heap → Prop} (h : ∀ b s2, s b = none → add s s2 b = some (false, .cells elem cs) → Upto b s (add s s2) → R b s2) :
    newK elem cs (fun b s2 => (∀ i, s i ≠ none → cutH l s i = none → s2 i = none) → R b s2) (frz (cutH l s)) := by
  refine new_step fun b s2 hb h2 u2 hq => ?_
  have hsb : s b = none := by
    cases e : s b with
    | none => rfl
    | some x =>
      have := hq b (by rw [e]; simp) (frz_none.1 hb)
      rw [this] at h2; cases h2
  refine h b s2 hsb (by rw [add_none hsb]; exact h2) fun i hi => ?_
  cases e : s i with
  | some x => rw [add_some e]
  | none => rw [add_none e, u2 i hi, frz_none.2 (cutH_none e)]
theorem Sl.addf (h : Sl s2 v l) (hs : Sub (frz s) s2) : Sl (add s s2) v l := by
  rcases h with h | ⟨b, o, cap, h1, h2, h3⟩
  · exact .inl h
  · refine .inr ⟨b, o, cap, h1, h2, fun hl => ?_⟩
    obtain ⟨t, e, cs, q1, q2⟩ := h3 hl
    cases hb : s b with
    | none => exact ⟨t, e, cs, by rw [add_none hb]; exact q1, q2⟩
    | some x =>
      obtain ⟨t', x⟩ := x
      have := hs b _ (frz_some hb)
      rw [q1] at this
      cases this
      exact ⟨t', e, cs, by rw [add_some hb], q2⟩
theorem Sl.frz (h : Sl s v l) : Sl (frz s) v l := by
  rcases h with h | ⟨b, o, cap, h1, h2, h3⟩
  · exact .inl h
  · refine .inr ⟨b, o, cap, h1, h2, fun hl => ?_⟩
    obtain ⟨t, e, cs, q1, q2⟩ := h3 hl
    exact ⟨true, e, cs, frz_some q1, q2⟩
theorem Sl.ne (h : Sl s v l) {b : Nat} (hb : s b = none) : ∀ b' o n c, v = .slc b' o n c 1 → l ≠ [] → ¬ b' = b := by
  rintro b' o n c rfl hl rfl
  rcases h with ⟨h, _⟩ | ⟨b, o, cap, h1, h2, h3⟩
  · cases h
  · cases h1
    obtain ⟨t, e, cs, q1, q2⟩ := h3 hl
    rw [hb] at q1; cases q1
theorem frz_rd {b : Nat} {t : Bool} {e : TypeId} {l : List AVal} (h : s b = some (t, .cells e l)) : AM.frz s b = some (true, .cells e l) := frz_some h
theorem Sl.one {v : AVal} {l : List AVal} (h : Sl s v l) : v.one = true := by
  rcases h with ⟨rfl, _⟩ | ⟨b, o, cap, rfl, _⟩ <;> rfl
theorem Upto.slk {b : Nat} {s s' : Heap} (h : Upto b s s') {s0 : Heap} (hs : Sl s v l) (h0 : Sl s0 v l) (hb : s0 b = none) : Sl s' v l :=
  hs.keep (fp := fun i => i = b) (h.keep rfl) fun b' o n c e hl => h0.ne hb b' o n c e hl
end
end Go.AM
namespace Go.AM
open Go Go.RowKit Go.ChangeShapes Go.WideShapes Go.ChangeAt
/-! ### laws that look at their arguments, and read a variable of a package in functions that are taken as told -/
def plainEq : List AVal → List AVal → Bool
  | [], [] => true
  | .bool a :: l, .bool b :: m => (a == b) && plainEq l m
  | .int k a :: l, .int k' b :: m => intKindEq k k' && (a == b) && plainEq l m
  | _, _ => false
theorem plainEq_eq : ∀ {l m : List AVal}, plainEq l m = true → l = m
  | [], [], _ => rfl
  | [], _ :: _, h => by simp [plainEq] at h
  | x :: l, [], h => by cases x <;> simp [plainEq] at h
  | x :: l, y :: m, h => by
    cases x with
    | bool a => cases y with
      | bool b =>
        simp only [plainEq, Bool.and_eq_true] at h
        rw [eq_of_beq h.1, plainEq_eq h.2]
      | _ => simp [plainEq] at h
    | int k a => cases y with
      | int k' b =>
        simp only [plainEq, Bool.and_eq_true] at h
        rw [kind_eq h.1.1, eq_of_beq h.1.2, plainEq_eq h.2]
      | _ => simp [plainEq] at h
    | _ => cases y <;> simp [plainEq] at h
theorem plainEq_self : ∀ {l : List AVal}, plainC l = true → plainEq l l = true
  | [], _ => rfl
  | x :: l, h => by
    cases x <;> first | (cases h; done) | skip
    all_goals
      have := plainEq_self (l := l) h
      simp [plainEq, this]
def isV (l0 : List AVal) : AVal → Bool
  | .agg l => plainEq l l0
  | _ => false
/-- functions without arguments of which it is known that they return true if the variable g holds these numbers -/
def closedG (g : Nat) (l0 : List AVal) (l : List FuncId) : Told := fun f => cond (memN f l) (some fun args => match args with
  | [] => bd (rd g) fun blk => match blk with
    | .glob g' v => cond (Nat.beq g g' && isV l0 v) (ret (.bool true)) fail
    | _ => fail
  | _ => fail) none
theorem closedG_fr (g : Nat) (l0 : List AVal) (l : List FuncId) : FrX (closedG g l0 l) := by
  intro f h args hh
  unfold closedG at hh
  cases hm : memN f l with
  | false => rw [hm] at hh; cases hh
  | true =>
    rw [hm] at hh
    cases hh
    cases args with
    | nil =>
      refine fr_bd (fr_rd _) fun blk => ?_
      cases blk <;> first | exact fr_fail | skip
      simp only
      exact fr_cond _ (fr_ret _) fr_fail
    | cons _ _ => exact fr_fail
theorem rel_plainC {σ : Nat → Value} {ρ : Ren} : ∀ {l : List AVal} {vs : List Value}, plainC l = true → RelL σ ρ l vs → vs = l.map valOf
  | [], vs, _, h => by unfold RelL at h; rw [h]; rfl
  | x :: l, vs, hp, h => by
    unfold RelL at h
    obtain ⟨y, ys, rfl, h1, h2⟩ := h
    cases x <;> first | (cases hp; done) | skip
    all_goals
      unfold Rel at h1
      rw [h1, rel_plainC (l := l) hp h2]; rfl
theorem closedG_ok {P : Program} (hm : P.follows .mixedOrders = true) (hname : noNumB P = true) {X : Told} (hX : ExtOK P X) {g : Nat} {l0 : List AVal} (hp : plainC l0 = true) (l : List FuncId) (h : ∀ f ∈ l, ∃ n, isTrue (runR P X n (.call f []) (gHeap g (.agg l0))) = true) : ExtOK P (closedG g l0 l) := by
  refine ⟨closedG_fr g l0 l, fun f gg hg args H v H' hr σ ρ base w args' hσ hwr hf hra => ?_⟩
  unfold closedG at hg
  cases hmem : memN f l with
  | false => rw [hmem] at hg; cases hg
  | true =>
    rw [hmem] at hg
    cases hg
    cases args with
    | cons _ _ => exact (fail_some (H := H) hr).elim
    | nil =>
      obtain ⟨blk, H1, h1, h2⟩ := bd_some hr
      cases hb : H.blks.get g with
      | none => unfold rd at h1; rw [hb] at h1; cases h1
      | some x =>
        unfold rd at h1
        rw [hb] at h1
        simp only [Option.some.injEq, Prod.mk.injEq] at h1
        obtain ⟨rfl, rfl⟩ := h1
        cases x with
        | glob g' vv =>
          simp only at h2
          cases hc : (Nat.beq g g' && isV l0 vv) with
          | false => rw [hc] at h2; exact (fail_some (H := { H with log := (g, false) :: H.log }) h2).elim
          | true =>
            rw [hc, cond_true] at h2
            cases ret_some h2
            obtain ⟨e1, e2⟩ := Bool.and_eq_true_iff.1 hc
            obtain rfl := Nat.eq_of_beq_eq_true e1
            cases vv with
            | agg l1 =>
              obtain rfl : l1 = l0 := plainEq_eq e2
              obtain ⟨L, hL, hLg, vs, elem, fr, hw, hrel, _⟩ := hwr.blk g _ hb
              obtain rfl : vs = l1.map valOf := rel_plainC hp hrel
              rw [hLg] at hw
              obtain ⟨n, hn⟩ := h f (memN_iff.1 hmem)
              have ha : args' = #[] := by
                unfold RelL at hra
                cases args'; simp_all
              subst ha
              refine callsIn_wide.2 ((calls_trueG (v := .agg l1) hm hname hX n [] hn hp (fun _ => .bool true) (fun _ => rfl) #[] .nil w hw).mono ?_)
              rintro e w' ⟨rfl, hbw⟩
              have hwr' := wr_below hwr hbw
              exact ⟨_, ρ, rfl, ⟨.refl _ _ _, ⟨hwr'.blk, hwr'.own, hwr'.inj, hwr'.base⟩, hbw.mono hwr.base⟩, by unfold Rel; rfl⟩
            | _ => cases e2
        | _ => exact (fail_some (H := { H with log := (g, false) :: H.log }) h2).elim
theorem wp_closedG {P : Program} {g : Nat} {l0 : List AVal} {l : List FuncId} {f : FuncId} (hf : memN f l = true) (hp : plainC l0 = true) {K : AVal → Heap → Prop} {s : Heap} {t : Bool} (hg : s g = some (t, .glob g (.agg l0))) (h : K (.bool true) s) : wpCall P (closedG g l0 l) f [] K s := by
  intro H hH
  obtain ⟨_, ab, h1, h2⟩ := hH.at_ g t _ hg
  cases ab with
  | glob g' v' =>
    obtain ⟨rfl, rfl⟩ := h2
    refine ⟨1, .val (.bool true), { H with log := (g, false) :: H.log }, ?_, s, hH.eqv rfl rfl fun _ => rfl, .refl _, _, rfl, h⟩
    show (match closedG g l0 l f with
      | some gg => bd (gg []) fun v => ret (Out.val v)
      | none => runCall P (run P (closedG g l0 l) 0) f []) H = _
    have : closedG g l0 l f = some fun args => match args with
      | [] => bd (rd g) fun blk => match blk with
        | .glob g' v => cond (Nat.beq g g' && isV l0 v) (ret (.bool true)) fail
        | _ => fail
      | _ => fail := by unfold closedG; rw [hf]; rfl
    rw [this]
    have e1 : Nat.beq g g = true := Nat.beq_refl g
    have e2 : isV l0 (.agg l0) = true := plainEq_self hp
    simp only [bd, rd, h1, e1, e2, Bool.and_self, cond_true, ret]
  | _ => exact h2.elim
/-! ### memory at the start -/
def memG (v : AVal) (B : IB) : AHeap := { memB B with blks := (memB B).blks.put 0 (some (.glob 0 v)) }
def heapG (v : AVal) (B : IB) : Heap := fun i => match i with
  | 0 => some (true, .glob 0 v)
  | i + 1 => heapB B (i + 1)
theorem memG_get (v : AVal) (B : IB) (i : Nat) : (memG v B).blks.get i = if 0 = i then some (.glob 0 v) else (memB B).blks.get i := by
  show ((memB B).blks.put 0 (some (.glob 0 v))).get i = _
  rw [Tr.get_put]
theorem heapG_sub (v : AVal) (B : IB) : Sub (heapB B) (heapG v B) := fun i e h => by
  cases i with
  | zero => cases h
  | succ i => exact h
theorem memG_h (v : AVal) (B : IB) {σ : Nat → Value} {W : World} (h : VB σ B W) : HRel (heapG v B) (memG v B) := by
  have hb := memB_h B h
  refine ⟨hb.lo, fun i hi => ?_, fun i t b hi => ?_⟩
  · rw [memG_get] at hi
    split at hi
    · rename_i e; subst e; show 0 < B.length + 1; omega
    · exact hb.wf i hi
  · cases i with
    | zero =>
      cases hi
      exact ⟨fun e => (by cases e), .glob 0 v, by rw [memG_get, if_pos rfl], rfl, rfl⟩
    | succ i =>
      obtain ⟨h1, ab, h2, h3⟩ := hb.at_ (i + 1) t b hi
      exact ⟨h1, ab, by rw [memG_get, if_neg (by omega)]; exact h2, h3⟩
theorem memG_wr (v : AVal) (B : IB) {σ : Nat → Value} {W : World} (h : VB σ B W) (hp : plainC v.cells = true) {elem : TypeId} {fr : Nat × Nat} (hw : W.heap[0]? = some (.cells (v.cells.map valOf).toArray elem fr)) : WR σ (rhoB B) W.heap.size (memG v B) W := by
  have hb := memB_wr B h
  obtain ⟨r1, r2⟩ := plainC_rel (σ := σ) (ρ := rhoB B) hp
  have get : ∀ i b, (memG v B).blks.get i = some b → (i = 0 ∧ b = .glob 0 v) ∨ (memB B).blks.get i = some b := by
    intro i b hi
    rw [memG_get] at hi
    split at hi
    · rename_i e; cases hi; exact .inl ⟨e.symm, rfl⟩
    · exact .inr hi
  have lo0 : ¬ (memG v B).lo ≤ 0 := by show ¬ B.length + 1 ≤ 0; omega
  refine ⟨fun i b hi => ?_, fun i b L hi hL hl => ?_, fun i j bi bj Li Lj hi hj hLi hLj hl hij => ?_, hb.base⟩
  · rcases get i b hi with ⟨rfl, rfl⟩ | hi
    · exact ⟨⟨0, 0, 0⟩, rfl, rfl, _, elem, fr, hw, r1, r2⟩
    · exact hb.blk i b hi
  · rcases get i b hi with ⟨rfl, rfl⟩ | hi
    · exact absurd hl lo0
    · exact hb.own i b L hi hL hl
  · rcases get i bi hi with ⟨rfl, rfl⟩ | hi
    · exact absurd hl lo0
    · exfalso
      obtain ⟨L, _, hbr⟩ := hb.blk i bi hi
      have : i < B.length + 1 := (memB_h B h).wf i (by rw [hi]; simp)
      have hl' : B.length + 1 ≤ i := hl
      omega
theorem ArgL.sub {P : Program} {s s' : Heap} (hs : Sub s s') {d : Nat} : ∀ {ts : List TypeId} {xs : List AVal}, ArgL P s d ts xs → ArgL P s' d ts xs
  | [], [], _ => trivial
  | [], _ :: _, h => h.elim
  | _ :: _, [], h => h.elim
  | _ :: _, _ :: _, ⟨h1, h2⟩ => ⟨Arg.sub hs h1, ArgL.sub hs h2⟩
/-- A LAW THAT THE CALCULUS SHOWS IS A LAW OF THE PROGRAM, beside a variable of a package -/
theorem law_of_wpG {H : Type} {enc : TypeId × Value → H} {P : Program} {X : Told} (hm : P.follows .mixedOrders = true) (hname : noNumB P = true) (hX : ExtOK P X) {f : FuncId} {ts : List TypeId} (d : Nat) (hp : (ts.all fun t => plainT P d t) = true) {g : AVal} (hgp : plainC g.cells = true)
    (h : ∀ (s : Heap) (xs : List AVal), s 0 = some (true, .glob 0 g) → ArgL P s d ts xs → wpCall P X f xs (fun v _ => v = .bool true) s) {W : World} {elem : TypeId} {fr : Nat × Nat} (hw : W.heap[0]? = some (.cells (g.cells.map valOf).toArray elem fr)) {base : Nat} {args : Array Value} {ds : List (DataW H)} {ps : List MemPlace}
    (hA : DataW.TrodAll enc P W 0 (fun _ => true) true ts args.toList ds ps) (hv : ∀ (j : Nat) t v, ts[j]? = some t → args[j]? = some v → Value.okWide P W .any base t v) :
    Calls P f args W fun e W' => e = .returned (.bool true) ∧ Below W.heap.size W W' := by
  have hσ : One (fun _ => Value.bool true) := fun _ => rfl
  obtain ⟨xs, C, h1, h2, h3⟩ := open_args (W := W) hσ d base ts args.toList ds ps [] (fun i x hx => by simp at hx) hp hA fun j t v hj hj' => hv j t v hj (by simpa using hj')
  rw [List.nil_append] at h1 h2 h3
  obtain ⟨n, o, H', hrun, s', _, _, v, rfl, rfl⟩ := h (heapG g C) xs rfl (h3.sub (heapG_sub g C)) (memG g C) (memG_h g C h1)
  refine (calls_of_run hm (noNum_of hname) hX hrun _ hσ (rhoB C) W (memG_wr g C h1 hgp hw) (fun id hlo _ => ?_) args h2).mono ?_
  · cases id with
    | zero => exact absurd hlo (by show ¬ C.length + 1 ≤ 0; omega)
    | succ i =>
      have : C.length + 1 ≤ i + 1 := hlo
      unfold rhoB
      simp only
      rw [List.getElem?_eq_none (by omega)]
  · rintro e W' ⟨v', ρ', rfl, hr, _, hb⟩
    unfold Rel at hr
    subst hr
    exact ⟨rfl, hb⟩
end Go.AM
namespace Go.AM
open Go
/-! ### rounds of a loop over an iterator -/
variable {P : Program} {X : Told} {A : Nat → List Nat}
def setE : Env → List Tmp → List AVal → Env
  | e, p :: ps, v :: vs => setE (upd e p v) ps vs
  | e, _, _ => e
def beginK (l : Nat) (K : Heap → Prop) (s : Heap) : Prop := match s l with
  | some (false, .loop .ready pd nt keep ps as bo d) => K (hset s l (false, .loop .busy pd nt keep ps as bo d))
  | _ => False
def endK (l : Nat) (e : AExit) (K : AVal → Heap → Prop) (s : Heap) : Prop := match s l with
  | some (false, .loop _ _ nt keep ps as bo d) => (match e with
    | .nrm => K (.bool true) (hset s l (false, .loop .ready none nt keep ps as bo d))
    | .ret => K (.bool false) (hset s l (false, .loop .done (some .ret) nt keep ps as bo d))
    | .exit id => K (.bool false) (hset s l (false, .loop .done (some (.exit id)) nt keep ps as bo d)))
  | _ => False
theorem setParams_ok {nt : Nat} : ∀ (ps : List Tmp) (vs : List AVal) (T : Tmps) (env : Env), TR T env → ps.length = vs.length → (ps.all fun p => Nat.blt p nt) = true → ∃ T', setParams nt T ps vs = some T' ∧ TR T' (setE env ps vs)
  | [], [], T, env, hT, _, _ => ⟨T, rfl, hT⟩
  | [], _ :: _, _, _, _, h, _ => by cases h
  | _ :: _, [], _, _, _, h, _ => by cases h
  | p :: ps, v :: vs, T, env, hT, hl, hp => by
    simp only [List.all_cons, Bool.and_eq_true] at hp
    have hT' : TR (T.put p (some v)) (upd env p v) := fun i => by
      unfold tget upd
      rw [Tr.get_put]
      by_cases e : p = i
      · subst e; simp
      · have : Nat.beq i p = false := by
          cases hq : Nat.beq i p with
          | false => rfl
          | true => exact absurd (Nat.eq_of_beq_eq_true hq).symm e
        rw [if_neg e, this]; exact hT i
    obtain ⟨T', h1, h2⟩ := setParams_ok ps vs _ _ hT' (by simpa using hl) hp.2
    exact ⟨T', by simp only [setParams, hp.1, cond_true]; exact h1, h2⟩
theorem wp_endRound {l : Nat} {e : AExit} {K : AVal → Heap → Prop} {s : Heap} (h : endK l e K s) : wpF (fun _ => endRoundA l e) (fun o s' => ∃ v, o = .val v ∧ K v s') s := by
  unfold endK at h
  split at h
  · rename_i st pd nt keep ps as bo d hs
    unfold endRoundA
    refine wpF.bd (.const _) (fun _ => .const _) (wpF.rd hs fun ab hab => ?_)
    cases ab with
    | loop st' pd' nt' T' ps' as' bo' d' =>
      obtain ⟨_, _, rfl, hk, rfl, rfl, rfl, rfl⟩ := hab
      cases e with
      | nrm => exact wpF.bd (.const _) (fun _ => .const _) (wpF.wr hs (x := .loop .ready none nt keep ps as bo d) ⟨rfl, rfl, rfl, hk, rfl, rfl, rfl, rfl⟩ (wpF.ret ⟨_, rfl, h⟩))
      | ret => exact wpF.bd (.const _) (fun _ => .const _) (wpF.wr hs (x := .loop .done (some .ret) nt keep ps as bo d) ⟨rfl, rfl, rfl, hk, rfl, rfl, rfl, rfl⟩ (wpF.ret ⟨_, rfl, h⟩))
      | exit id => exact wpF.bd (.const _) (fun _ => .const _) (wpF.wr hs (x := .loop .done (some (.exit id)) nt keep ps as bo d) ⟨rfl, rfl, rfl, hk, rfl, rfl, rfl, rfl⟩ (wpF.ret ⟨_, rfl, h⟩))
    | _ => exact hab.elim
  · exact h.elim
theorem wp_begin {l : Nat} {K : Heap → Prop} {s : Heap} (h : beginK l K s) : wpF (fun _ => beginA l) (fun _ s' => K s') s := by
  unfold beginK at h
  split at h
  · rename_i pd nt keep ps as bo d hs
    unfold beginA
    refine wpF.bd (.const _) (fun _ => .const _) (wpF.rd hs fun ab hab => ?_)
    cases ab with
    | loop st' pd' nt' T' ps' as' bo' d' =>
      obtain ⟨rfl, rfl, rfl, hk, rfl, rfl, rfl, rfl⟩ := hab
      exact wpF.wr hs (x := .loop .busy pd nt keep ps as bo d) ⟨rfl, rfl, rfl, hk, rfl, rfl, rfl, rfl⟩ h
    | _ => exact hab.elim
  · exact h.elim
theorem wpRound_ok (hX : FrX X) (A : Nat → List Nat) {l : Nat} {args : List AVal} {K : AVal → Heap → Prop} {s : Heap} {t : Bool} {st : LoopState} {pd : Option Code} {nt : Nat} {keep : List (Nat × AVal)} {ps : List Tmp} {as bo : Code} {d : Nat}
    (hs : s l = some (t, .loop st pd nt keep ps as bo d)) (hl : ps.length = args.length) (hnt : (ps.all fun p => Nat.blt p nt) = true)
    (h : ∀ f : Env, (∀ p ∈ keep, f p.1 = p.2) → wpC P X A nt (some l) as (setE f ps args) (fun e env s => e = .nrm ∧ beginK l (fun s => wpC P X A nt (some l) bo env (fun e _ s => endK l e K s) s) s) s) : wpRound P X l args K s := by
  unfold wpRound wpT
  refine wpF.succ (m := fun n => runRound (run P X n) l args) ?_ (fun _ => rfl)
  unfold runRound
  have monoE : ∀ (o : Out), Mono fun n => (match o with
          | .exit e _ _ => endRoundA l e
          | _ => fail : M Out) := fun o => .const _
  have mono2 : ∀ (o : Out), Mono fun n => (match o with
      | .exit .nrm T [] => bd (beginA l) fun _ => bd (run P X n (.code nt (some l) bo T [])) fun o => match o with
          | .exit e _ _ => endRoundA l e
          | _ => fail
      | _ => fail : M Out) := fun o => mono_of fun n => by
    split
    · exact LeM.bd (LeM.refl _) fun _ => LeM.bd (le_run n _) fun _ => LeM.refl _
    · exact LeM.refl _
  refine wpF.bd (m := fun _ => rd l) (.const _) (fun blk => mono_of fun n => ?_) (wpF.rd hs fun ab hab => ?_)
  · split
    · split
      · exact LeM.bd (le_run n _) fun o => by
          split
          · exact LeM.bd (LeM.refl _) fun _ => LeM.bd (le_run n _) fun _ => LeM.refl _
          · exact LeM.refl _
      · exact LeM.refl _
    · exact LeM.refl _
  cases ab with
  | loop st' pd' nt' T' ps' as' bo' d' =>
    obtain ⟨rfl, rfl, rfl, hk, rfl, rfl, rfl, rfl⟩ := hab
    obtain ⟨T1, h1, h2⟩ := setParams_ok (nt := nt) ps args T' (tget T') (fun _ => rfl) hl hnt
    simp only [h1]
    have e0 : ∀ s : Heap, add s (mkH []) = s := fun s => by funext i; unfold add mkH; cases s i <;> simp
    have hc := code_K (P := P) (A := A) (nt := nt) (rnd := some l) hX as _ _ s (h (tget T') hk) T1 [] h2 (by simp) List.nodup_nil
    rw [e0] at hc
    refine wpF.bd (m := fun n => run P X n (.code nt (some l) as T1 [])) (mono_run _) mono2 (hc.mono ?_)
    rintro o S ⟨e, T2, env2, ms2, s2, rfl, q1, rfl, q2, q3, _, q5, rfl, q6⟩
    obtain rfl := q5 (by simp)
    simp only [List.append_nil, mkm, List.map_nil]
    rw [e0]
    refine wpF.bd (m := fun _ => beginA l) (.const _) (fun _ => mono_bd (mono_run _) fun o => monoE o) ((wp_begin q6).mono fun _ s3 h3 => ?_)
    have hc2 := code_K (P := P) (A := A) (nt := nt) (rnd := some l) hX bo _ _ s3 h3 T2 [] q1 (by simp) List.nodup_nil
    rw [e0] at hc2
    refine wpF.bd (m := fun n => run P X n (.code nt (some l) bo T2 [])) (mono_run _) monoE (hc2.mono ?_)
    rintro o S ⟨e, T4, env4, ms4, s4, rfl, p1, rfl, p2, p3, _, p5, p6⟩
    obtain rfl := p5 (by simp)
    simp only [List.append_nil]
    rw [e0]
    exact wp_endRound p6
  | _ => exact hab.elim
/-! ### the loops of a function over iterators, in their order -/
def rfAll : Code → List (Array Tmp × Code × Code)
  | .seq a b => rfAll a ++ rfAll b
  | .cond _ a b => rfAll a ++ rfAll b
  | .block _ b => rfAll b
  | .loop b => rfAll b
  | .rangeFunc _ ps as bo => (ps, as, bo) :: (rfAll as ++ rfAll bo)
  | _ => []
def rfAs (j : Nat) (c : Code) : Code := match (rfAll c)[j]? with
  | some (_, as, _) => as
  | none => .skip
def rfBo (j : Nat) (c : Code) : Code := match (rfAll c)[j]? with
  | some (_, _, bo) => bo
  | none => .skip
def doneK3 (l : Nat) (Kn Kr : Heap → Prop) (Ke : Nat → Heap → Prop) (s : Heap) : Prop := match s l with
  | some (false, .loop st pd _ _ _ _ _ _) => st ≠ .busy ∧ (match pd with
    | none => Kn (hdel s l)
    | some .ret => Kr (hdel s l)
    | some (.exit id) => Ke id (hdel s l)
    | some _ => False)
  | _ => False
def rngK (P : Program) (X : Told) (nt : Nat) (rnd : Option Nat) (f : AVal) (keep : List (Nat × AVal)) (ps : List Tmp) (as bo : Code) (Kn Kr : Heap → Prop) (Ke : Nat → Heap → Prop) (s : Heap) : Prop := match f with
  | .fn (.func k) first cap => isFn P k = true ∧ rndK rnd s ∧ ∀ l d, s l = none → wpCall P X k (first ++ [.yield l] ++ cap) (fun _ s => doneK3 l Kn Kr Ke s) (hset s l (false, .loop .ready none nt keep ps as bo d))
  | _ => False
end Go.AM
namespace Go.AM
open Go
/-! ### slices whose elements are rows of cells -/
def SlR (es : Nat) (s : Heap) (v : AVal) (rows : List (List AVal)) : Prop := (∀ r ∈ rows, r.length = es) ∧ ((v = .nilslc ∧ rows = []) ∨ ∃ b o cap, v = .slc b o rows.length cap es ∧ (∀ c, cap = some c → rows.length ≤ c) ∧
  (rows ≠ [] → ∃ t e cs, s b = some (t, .cells e cs) ∧ o + rows.length * es ≤ cs.length ∧ (cs.drop o).take (rows.length * es) = rows.flatten))
theorem flat_len {es : Nat} : ∀ {rows : List (List AVal)}, (∀ r ∈ rows, r.length = es) → rows.flatten.length = rows.length * es
  | [], _ => by simp
  | r :: rows, h => by
    rw [List.flatten_cons, List.length_append, flat_len fun q hq => h q (by simp [hq]), h r (by simp), List.length_cons, Nat.succ_mul, Nat.add_comm]
theorem flat_row {es : Nat} : ∀ {rows : List (List AVal)} {i : Nat} {r : List AVal}, (∀ r ∈ rows, r.length = es) → rows[i]? = some r → (rows.flatten.drop (i * es)).take es = r
  | [], _, _, _, h => by simp at h
  | q :: rows, 0, r, hl, h => by
    simp only [List.getElem?_cons_zero, Option.some.injEq] at h
    subst h
    have := hl q (by simp)
    rw [Nat.zero_mul, List.drop_zero, List.flatten_cons, List.take_append_of_le_length (by omega), List.take_of_length_le (by omega)]
  | q :: rows, i + 1, r, hl, h => by
    have hq := hl q (by simp)
    have e1 : (i + 1) * es = i * es + es := Nat.succ_mul _ _
    rw [List.flatten_cons, List.drop_append, List.drop_eq_nil_of_le (by omega), List.nil_append, hq, e1, Nat.add_sub_cancel]
    exact flat_row (fun r hr => hl r (by simp [hr])) (by simpa using h)
variable {s s2 s' : Heap} {v : AVal} {rows : List (List AVal)} {es : Nat}
theorem SlR.len (h : SlR es s v rows) : lenOfA v = some rows.length := by
  rcases h.2 with ⟨rfl, rfl⟩ | ⟨b, o, cap, rfl, _⟩
  · rfl
  · rfl
theorem SlR.one (h : SlR es s v rows) : v.one = true := by
  rcases h.2 with ⟨rfl, _⟩ | ⟨b, o, cap, rfl, _⟩ <;> rfl
theorem SlR.get (h : SlR es s v rows) {i : Nat} {r : List AVal} (hi : rows[i]? = some r) : ∃ b o, iaddrS es v (.int .i64 (i : Int)) = some (.ptr b o) ∧ rdN s es (.ptr b o) = some r ∧ ∀ j, j < es → rd1 s (.ptr b (o + j)) = r[j]? := by
  have hlt := (List.getElem?_eq_some_iff.1 hi).1
  obtain ⟨hl, h⟩ := h
  rcases h with ⟨rfl, rfl⟩ | ⟨b, o, cap, rfl, _, h⟩
  · simp at hlt
  · obtain ⟨t, e, cs, h1, h2, h3⟩ := h (by rintro rfl; simp at hlt)
    have e1 : Nat.blt i rows.length = true := by rw [Nat.blt_eq]; exact hlt
    have e2 : (i + 1) * es ≤ rows.length * es := Nat.mul_le_mul_right _ hlt
    rw [Nat.succ_mul] at e2
    have row : (cs.drop (o + i * es)).take es = r := by
      rw [← flat_row hl hi, ← h3, List.drop_take, List.take_take, List.drop_drop, Nat.min_eq_left (by omega)]
    refine ⟨b, o + i * es, by simp [iaddrS, e1], ?_, fun j hj => ?_⟩
    · have e3 : Nat.ble (o + i * es + es) cs.length = true := Nat.ble_eq_true_of_le (by omega)
      simp only [rdN, h1, takeAt, e3, cond_true, row]
    · rw [rd1_mk h1, ← row, List.getElem?_take, if_pos hj, List.getElem?_drop]
theorem SlR.rd (h : SlR es s v rows) : rdSl s es v = some rows.flatten := by
  obtain ⟨hl, h⟩ := h
  rcases h with ⟨rfl, rfl⟩ | ⟨b, o, cap, rfl, _, h⟩
  · rfl
  · simp only [rdSl, Nat.beq_refl, cond_true]
    cases hz : Nat.beq (rows.length * es) 0 with
    | true =>
      rw [cond_true]
      have := flat_len hl
      rw [Nat.eq_of_beq_eq_true hz] at this
      rw [List.eq_nil_of_length_eq_zero this]
    | false =>
      rw [cond_false]
      obtain ⟨t, e, cs, h1, h2, h3⟩ := h (by rintro rfl; simp at hz)
      have e2 : Nat.ble (o + rows.length * es) cs.length = true := Nat.ble_eq_true_of_le h2
      simp only [h1, takeAt, e2, cond_true, h3]
theorem SlR.sub (h : SlR es s v rows) (hs : Sub s s') : SlR es s' v rows := by
  refine ⟨h.1, ?_⟩
  rcases h.2 with h | ⟨b, o, cap, h1, h2, h3⟩
  · exact .inl h
  · refine .inr ⟨b, o, cap, h1, h2, fun hl => ?_⟩
    obtain ⟨t, e, cs, q1, q2⟩ := h3 hl
    exact ⟨t, e, cs, hs _ _ q1, q2⟩
theorem SlR.frz (h : SlR es s v rows) : SlR es (frz s) v rows := by
  refine ⟨h.1, ?_⟩
  rcases h.2 with h | ⟨b, o, cap, h1, h2, h3⟩
  · exact .inl h
  · refine .inr ⟨b, o, cap, h1, h2, fun hl => ?_⟩
    obtain ⟨t, e, cs, q1, q2⟩ := h3 hl
    exact ⟨true, e, cs, frz_some q1, q2⟩
theorem SlR.keep {fp : Nat → Prop} (h : SlR es s v rows) (hs : KeepBut fp s s') (hn : ∀ b o n c, v = .slc b o n c es → rows ≠ [] → ¬ fp b) : SlR es s' v rows := by
  refine ⟨h.1, ?_⟩
  rcases h.2 with h | ⟨b, o, cap, h1, h2, h3⟩
  · exact .inl h
  · refine .inr ⟨b, o, cap, h1, h2, fun hl => ?_⟩
    obtain ⟨t, e, cs, q1, q2⟩ := h3 hl
    exact ⟨t, e, cs, hs _ _ q1 (hn b o _ cap h1 hl), q2⟩
/-- its block was there already in another memory -/
theorem SlR.was (h : SlR es s v rows) : ∀ b o n c, v = .slc b o n c es → rows ≠ [] → s b ≠ none := by
  rintro b o n c rfl hl
  rcases h.2 with ⟨h, _⟩ | ⟨b', o', cap, h1, h2, h3⟩
  · cases h
  · cases h1
    obtain ⟨t, e, cs, q1, q2⟩ := h3 hl
    rw [q1]; simp
theorem SlR.mk {b : Nat} {t : Bool} {e : TypeId} {n : Nat} {cap : Option Nat} (hl : ∀ r ∈ rows, r.length = es) (h : s b = some (t, .cells e rows.flatten)) (hn : n = rows.length) (hc : ∀ c, cap = some c → rows.length ≤ c) : SlR es s (.slc b 0 n cap es) rows := by
  subst hn
  refine ⟨hl, .inr ⟨b, 0, cap, rfl, hc, fun _ => ⟨t, e, _, h, by rw [flat_len hl]; omega, ?_⟩⟩⟩
  rw [List.drop_zero, ← flat_len hl, List.take_of_length_le (Nat.le_refl _)]
theorem SlR.empty {b o : Nat} {c : Nat} : SlR es s (.slc b o 0 (some c) es) [] := ⟨by simp, .inr ⟨b, o, some c, rfl, by simp, fun h => absurd rfl h⟩⟩
/-- without the first elements -/
theorem SlR.drop (h : SlR es s v rows) {k : Nat} (hk : k ≤ rows.length) (hne : rows ≠ []) : ∃ v', sliceS es v (some (.int .i64 (k : Int))) none none = some v' ∧ SlR es s v' (rows.drop k) ∧ ∀ b o n c, v' = .slc b o n c es → ∃ o n c, v = .slc b o n c es := by
  obtain ⟨hl, h⟩ := h
  rcases h with ⟨rfl, rfl⟩ | ⟨b, o, cap, rfl, hc, h⟩
  · exact absurd rfl hne
  · obtain ⟨t, e, cs, h1, h2, h3⟩ := h hne
    have hrow : ∀ r ∈ rows.drop k, r.length = es := fun r hr => hl r (List.mem_of_mem_drop hr)
    have hlen : (rows.drop k).length = rows.length - k := List.length_drop
    have data : rows.drop k ≠ [] → ∃ t e cs, s b = some (t, .cells e cs) ∧ o + k * es + (rows.drop k).length * es ≤ cs.length ∧ (cs.drop (o + k * es)).take ((rows.drop k).length * es) = (rows.drop k).flatten := fun _ => by
      have e2 : k * es + (rows.length - k) * es = rows.length * es := by rw [← Nat.add_mul]; congr 1; omega
      refine ⟨t, e, cs, h1, by rw [hlen]; omega, ?_⟩
      have e3 : rows.flatten.drop (k * es) = (rows.drop k).flatten := by
        have : rows.flatten = (rows.take k).flatten ++ (rows.drop k).flatten := by rw [← List.flatten_append, List.take_append_drop]
        have hk2 : (rows.take k).flatten.length = k * es := by rw [flat_len fun r hr => hl r (List.mem_of_mem_take hr), List.length_take, Nat.min_eq_left hk]
        rw [this, ← hk2, List.drop_left]
      rw [← e3, ← h3, List.drop_take, List.drop_drop, hlen]
      congr 1
      omega
    have b1 : bound (some (.int .i64 (k : Int))) 0 rows.length = some k := by
      simp [bound, Nat.ble_eq_true_of_le hk]
    cases cap with
    | none =>
      refine ⟨.slc b (o + k * es) (rows.length - k) none es, ?_, ⟨hrow, .inr ⟨b, o + k * es, none, by rw [hlen], by simp, data⟩⟩, fun b' o' n' c' e => by cases e; exact ⟨_, _, _, rfl⟩⟩
      simp [sliceS, bound, Nat.ble_eq_true_of_le hk]
    | some c =>
      have hc' := hc c rfl
      refine ⟨.slc b (o + k * es) (rows.length - k) (some (c - k)) es, ?_, ⟨hrow, .inr ⟨b, o + k * es, some (c - k), by rw [hlen], fun d hd => by cases hd; rw [hlen]; omega, data⟩⟩, fun b' o' n' c' e => by cases e; exact ⟨_, _, _, rfl⟩⟩
      simp [sliceS, bound, Nat.ble_eq_true_of_le hk, Nat.ble_eq_true_of_le hc']
/-- a copy made by append to an empty list -/
theorem app_copyR {elem : TypeId} {b : Nat} {y : AVal} {K : AVal → Heap → Prop} (hy : SlR es s y rows) (hl : rows.length ≤ 16777216)
    (hK : ∀ v' s', Sub s s' → SlR es s' v' rows → (∀ b o n c, v' = .slc b o n c es → rows ≠ [] → s b = none) → K v' s') : appK elem es (.slc b 0 0 (some 0) es) y K s := by
  refine optK_of hy.rd (optK_of hy.len ⟨rfl, ?_⟩)
  cases rows with
  | nil => exact ⟨Nat.le_refl _, hK _ _ (.refl _) .empty fun _ _ _ _ _ h => absurd rfl h⟩
  | cons x r =>
    have e0 : Nat.ble (0 + (r.length + 1)) 0 = false := by rw [Nat.zero_add]; rfl
    simp only [List.length_cons, e0, cond_false]
    have hx : rdSl s es (.slc b 0 0 (some 0) es) = some [] := by simp [rdSl]
    refine optK_of hx ⟨by simp at hl; omega, new_step fun c s1 hc h1 u1 => hK _ _ (u1.sub hc) (SlR.mk hy.1 (by simpa using h1) (by simp) (by simp)) fun b' o n c' e _ => by cases e; exact hc⟩
theorem inpR {P : Program} {d : Nat} {t e : TypeId} (hu : P.underlying t = some (.slice e)) {A : Type} (f : A → List AVal) (Q : A → Prop) (hf : ∀ a, (f a).length = P.cellsOf e) (he : ∀ xs, Inp P s d e xs → ∃ a, xs = f a ∧ Q a) {xs : List AVal} (h : Inp P s (d + 1) t xs) : ∃ v, xs = [v] ∧ ∃ l : List A, SlR (P.cellsOf e) s v (l.map f) ∧ (∀ a ∈ l, Q a) ∧ l.length ≤ maxLen := by
  unfold Inp at h
  simp only [hu] at h
  have hrow : ∀ (l : List A), ∀ r ∈ l.map f, r.length = P.cellsOf e := fun l r hr => by obtain ⟨a, _, rfl⟩ := List.mem_map.1 hr; exact hf a
  rcases h with rfl | ⟨b, len, cap, rfl, h1, h2, h3⟩
  · exact ⟨_, rfl, [], ⟨hrow [], .inl ⟨rfl, rfl⟩⟩, by simp, by simp⟩
  · refine ⟨_, rfl, ?_⟩
    by_cases hz : cap = 0
    · subst hz
      have : len = 0 := by omega
      subst this
      exact ⟨[], .empty, by simp, by simp⟩
    · obtain ⟨el, l, g1, g2, g3⟩ := h3 (by omega)
      have mk : ∀ n, n ≤ cap → ∃ r : List A, r.length = n ∧ (r.map f).flatten = l.take (n * P.cellsOf e) ∧ ∀ a ∈ r, Q a := by
        intro n
        induction n with
        | zero => exact fun _ => ⟨[], rfl, by simp, by simp⟩
        | succ n ih =>
          intro hn
          obtain ⟨r, r1, r2, r3⟩ := ih (by omega)
          obtain ⟨a, a1, a2⟩ := he _ (g3 n (by omega))
          refine ⟨r ++ [a], by simp [r1], ?_, fun b hb => ?_⟩
          · rw [List.map_append, List.flatten_append, r2, List.map_singleton, List.flatten_singleton, ← a1, Nat.succ_mul, List.take_add]
          · rcases List.mem_append.1 hb with hb | hb
            · exact r3 b hb
            · rw [List.mem_singleton.1 hb]; exact a2
      obtain ⟨r, r1, r2, r3⟩ := mk len h1
      refine ⟨r, ⟨hrow r, .inr ⟨b, 0, some cap, by simp [r1], by simp [r1]; exact h1, fun _ => ⟨true, el, l, g1, ?_, ?_⟩⟩⟩, r3, by omega⟩
      · rw [List.length_map, r1, g2, Nat.zero_add]; exact Nat.mul_le_mul_right _ h1
      · rw [List.length_map, r1, List.drop_zero, r2]
theorem argR {P : Program} {d : Nat} {t e : TypeId} {v : AVal} (hu : P.underlying t = some (.slice e)) {A : Type} (f : A → List AVal) (Q : A → Prop) (hf : ∀ a, (f a).length = P.cellsOf e) (he : ∀ xs, Inp P s d e xs → ∃ a, xs = f a ∧ Q a) (h : Arg P s (d + 1) t v) : ∃ l : List A, SlR (P.cellsOf e) s v (l.map f) ∧ (∀ a ∈ l, Q a) ∧ l.length ≤ maxLen := by
  obtain ⟨h1, _, h3⟩ := h
  have : isAggT P t ≠ some true := by unfold isAggT; rw [hu]; simp
  rw [h3 this] at h1
  obtain ⟨v', e1, h4⟩ := inpR hu f Q hf he h1
  cases e1
  exact h4
theorem argl4 {P : Program} {d : Nat} {t u w y : TypeId} {xs : List AVal} (h : ArgL P s d [t, u, w, y] xs) : ∃ a b c e, xs = [a, b, c, e] ∧ Arg P s d t a ∧ Arg P s d u b ∧ Arg P s d w c ∧ Arg P s d y e := by
  match xs, h with
  | [a, b, c, e], ⟨h1, h2, h3, h4, _⟩ => exact ⟨a, b, c, e, rfl, h1, h2, h3, h4⟩
end Go.AM
namespace Go.AM
open Go
variable {s s2 s' : Heap} {v : AVal} {rows : List (List AVal)} {es : Nat}
/-- the first elements alone -/
theorem SlR.take (h : SlR es s v rows) {k : Nat} (hk : k ≤ rows.length) (hne : rows ≠ []) : ∃ v', sliceS es v none (some (.int .i64 (k : Int))) none = some v' ∧ SlR es s v' (rows.take k) ∧ ∀ b o n c, v' = .slc b o n c es → ∃ o n c, v = .slc b o n c es := by
  obtain ⟨hl, h⟩ := h
  rcases h with ⟨rfl, rfl⟩ | ⟨b, o, cap, rfl, hc, h⟩
  · exact absurd rfl hne
  · obtain ⟨t, e, cs, h1, h2, h3⟩ := h hne
    have hrow : ∀ r ∈ rows.take k, r.length = es := fun r hr => hl r (List.mem_of_mem_take hr)
    have hlen : (rows.take k).length = k := by rw [List.length_take, Nat.min_eq_left hk]
    have e2 : k * es ≤ rows.length * es := Nat.mul_le_mul_right _ hk
    have data : rows.take k ≠ [] → ∃ t e cs, s b = some (t, .cells e cs) ∧ o + (rows.take k).length * es ≤ cs.length ∧ (cs.drop o).take ((rows.take k).length * es) = (rows.take k).flatten := fun _ => by
      refine ⟨t, e, cs, h1, by rw [hlen]; omega, ?_⟩
      have e3 : rows.flatten.take (k * es) = (rows.take k).flatten := by
        have : rows.flatten = (rows.take k).flatten ++ (rows.drop k).flatten := by rw [← List.flatten_append, List.take_append_drop]
        have hk2 : (rows.take k).flatten.length = k * es := by rw [flat_len hrow, hlen]
        rw [this, ← hk2, List.take_left]
      rw [← e3, ← h3, List.take_take, hlen, Nat.min_eq_left e2]
    cases cap with
    | none =>
      refine ⟨.slc b o k none es, ?_, ⟨hrow, .inr ⟨b, o, none, by rw [hlen], by simp, data⟩⟩, fun b' o' n' c' e => by cases e; exact ⟨_, _, _, rfl⟩⟩
      simp [sliceS, bound, Nat.ble_eq_true_of_le hk]
    | some c =>
      have hc' := hc c rfl
      refine ⟨.slc b o k (some c) es, ?_, ⟨hrow, .inr ⟨b, o, some c, by rw [hlen], fun d hd => by cases hd; rw [hlen]; omega, data⟩⟩, fun b' o' n' c' e => by cases e; exact ⟨_, _, _, rfl⟩⟩
      simp [sliceS, bound, Nat.ble_eq_true_of_le (Nat.le_trans hk hc')]
/-- a list of rows that grows by append; 's0': the memory that was there before it -/
def AccR (elem : TypeId) (es : Nat) (s0 s : Heap) (v : AVal) (rows : List (List AVal)) : Prop := (∀ r ∈ rows, r.length = es) ∧ ((v = .nilslc ∧ rows = []) ∨ ∃ b, s0 b = none ∧ v = .slc b 0 rows.length none es ∧ s b = some (false, .cells elem rows.flatten))
theorem AccR.sl {elem : TypeId} {s0 : Heap} (h : AccR elem es s0 s v rows) : SlR es s v rows := by
  obtain ⟨hl, h⟩ := h
  rcases h with h | ⟨b, _, rfl, h⟩
  · exact ⟨hl, .inl h⟩
  · exact SlR.mk hl h rfl (by simp)
theorem AccR.sub {elem : TypeId} {s0 s s' : Heap} (h : AccR elem es s0 s v rows) (hs : Sub s s') : AccR elem es s0 s' v rows := by
  obtain ⟨hl, h⟩ := h
  rcases h with h | ⟨b, h0, rfl, h⟩
  · exact ⟨hl, .inl h⟩
  · exact ⟨hl, .inr ⟨b, h0, rfl, hs _ _ h⟩⟩
theorem AccR.app {elem : TypeId} {s0 : Heap} {y : AVal} {m : List (List AVal)} {K : AVal → Heap → Prop} (h : AccR elem es s0 s v rows) (hy : SlR es s y m) (hm : m ≠ []) (hl : rows.length + m.length ≤ 16777216) (hdom : Sub s0 s)
    (hK : ∀ v' s', AccR elem es s0 s' v' (rows ++ m) → Sub s0 s' → K v' s') : appK elem es v y K s := by
  obtain ⟨k, hk⟩ : ∃ k, m.length = k + 1 := by cases m with | nil => exact absurd rfl hm | cons a r => exact ⟨r.length, rfl⟩
  refine optK_of hy.rd (optK_of hy.len ?_)
  obtain ⟨hrow, h⟩ := h
  have hrow2 : ∀ r ∈ rows ++ m, r.length = es := fun r hr => by rcases List.mem_append.1 hr with hr | hr; exact hrow r hr; exact hy.1 r hr
  rcases h with ⟨rfl, rfl⟩ | ⟨b, hb0, rfl, hb⟩
  · simp only
    rw [hk]
    refine ⟨by simp at hl; omega, new_step fun c s1 hc h1 u1 => hK _ _ ⟨hrow2, .inr ⟨c, ?_, by simp [hk], by simpa using h1⟩⟩ (hdom.trans (u1.sub hc))⟩
    cases q : s0 c with
    | none => rfl
    | some x => rw [hdom c x q] at hc; cases hc
  · refine ⟨rfl, ?_⟩
    simp only
    rw [hk]
    simp only
    refine optK_of (SlR.rd (SlR.mk hrow hb rfl (by simp))) ?_
    unfold dropK
    rw [hb]
    have hdel0 : Sub s0 (hdel s b) := fun i e hi => by
      have hib : i ≠ b := ne_of_some hb0 hi
      rw [← hdom i e hi]; exact if_neg hib
    refine ⟨rfl, by omega, new_step fun c s1 hc h1 u1 => hK _ _ ⟨hrow2, .inr ⟨c, ?_, by simp [hk], by simpa using h1⟩⟩ (hdel0.trans (u1.sub hc))⟩
    cases q : s0 c with
    | none => rfl
    | some x => rw [hdel0 c x q] at hc; cases hc
/-- append to a list of one's own, or to an empty one -/
theorem app_ownR {elem : TypeId} {s0 : Heap} {y : AVal} {m : List (List AVal)} {K : AVal → Heap → Prop} (h : (rows = [] ∧ ∃ b, v = .slc b 0 0 (some 0) es) ∨ AccR elem es s0 s v rows) (hy : SlR es s y m) (hl : rows.length + m.length ≤ 16777216) (hdom : Sub s0 s)
    (hK : ∀ v' s', ((rows ++ m = [] ∧ ∃ b, v' = .slc b 0 0 (some 0) es) ∨ AccR elem es s0 s' v' (rows ++ m)) → Sub s0 s' → K v' s') : appK elem es v y K s := by
  cases m with
  | nil =>
    refine optK_of hy.rd (optK_of hy.len ?_)
    rw [List.append_nil] at hK
    rcases h with ⟨rfl, b, rfl⟩ | h
    · exact ⟨rfl, Nat.le_refl _, hK _ _ (.inl ⟨rfl, b, rfl⟩) hdom⟩
    · have hk := hK v s (.inr h) hdom
      obtain ⟨_, h⟩ := h
      rcases h with ⟨rfl, rfl⟩ | ⟨b, _, rfl, _⟩
      · exact hk
      · exact ⟨rfl, trivial, hk⟩
  | cons x r =>
    rcases h with ⟨rfl, b, rfl⟩ | h
    · refine optK_of hy.rd (optK_of hy.len ⟨rfl, ?_⟩)
      have e0 : Nat.ble (0 + (r.length + 1)) 0 = false := by rw [Nat.zero_add]; rfl
      simp only [List.length_cons, e0, cond_false]
      have hx : rdSl s es (.slc b 0 0 (some 0) es) = some [] := by simp [rdSl]
      refine optK_of hx ⟨by simp at hl; omega, new_step fun c s1 hc h1 u1 => hK _ _ (.inr ⟨by simpa using hy.1, .inr ⟨c, ?_, by simp, by simpa using h1⟩⟩) (hdom.trans (u1.sub hc))⟩
      cases q : s0 c with
      | none => rfl
      | some x => rw [hdom c x q] at hc; cases hc
    · exact h.app hy (by simp) hl hdom fun v' s' a b => hK v' s' (.inr a) b
end Go.AM
namespace Go.AM
open Go
variable {α β : Type} {P : Program} {X : Told} {A : Nat → List Nat} {nt : Nat} {rnd : Option Nat}
/-! ### functions with one statement 'defer' in their first statements -/
/-- a function that may be deferred -/
def defFn (P : Program) (k : FuncId) : Bool := match P.funcs[k]? with
  | some fn => match fn.body, fn.results.toList with
    | some c, [] => noRF c && (recTop c).isNone
    | _, _ => false
  | none => false
theorem wp_runDef {k : FuncId} {args : List AVal} {Q : Heap → Prop} {s : Heap} (hX : X k = none) (hd : defFn P k = true) (h : wpCall P X k args (fun _ s => Q s) s) : wpF (fun n => runDef P (run P X n) k args) (fun _ s => Q s) s := fun H hH => by
  obtain ⟨n, o, H', h1, s', h2, h3, v, rfl, h4⟩ := h H hH
  cases n with
  | zero => cases h1
  | succ n =>
    have h1 : (match X k with
      | some g => bd (g args) fun v => ret (Out.val v)
      | none => runCall P (run P X n) k args) H = some (.val v, H') := h1
    rw [hX] at h1
    refine ⟨n, (), H', ?_, s', h2, h3, h4⟩
    show runDef P (run P X n) k args H = some ((), H')
    simp only at h1
    unfold defFn at hd
    unfold runCall at h1
    unfold runDef
    cases hf : P.funcs[k]? with
    | none => rw [hf] at hd; cases hd
    | some fn =>
      rw [hf] at hd h1
      simp only at hd h1 ⊢
      cases hb : fn.body with
      | none => rw [hb] at hd; cases hd
      | some c =>
        rw [hb] at hd h1
        cases hr : fn.results.toList with
        | cons x l => rw [hr] at hd; cases hd
        | nil =>
          rw [hr] at hd h1
          simp only [Bool.and_eq_true] at hd h1 ⊢
          have hrec : recTop c = none := by simpa using hd.2
          cases hl : Nat.ble args.length fn.ntmps with
          | false => rw [hl] at h1; cases h1
          | true =>
            rw [hl] at h1
            simp only [cond_true] at h1 ⊢
            have hdc : defCode fn (Tr.ofListAt .nil 0 args) c = some (c, Tr.ofListAt .nil 0 args) := by unfold defCode; rw [hrec]
            rw [hdc]
            simp only
            unfold bd at h1 ⊢
            have e0 := run_noRF (P := P) (X := X) (nt := fn.ntmps) (rnd := none) n c hd.1 (Tr.ofListAt .nil 0 args) [] H
            cases hq : run P X n (.code fn.ntmps none c (Tr.ofListAt .nil 0 args) []) H with
            | none => rw [hq] at h1; cases h1
            | some p =>
              obtain ⟨o, H1⟩ := p
              rw [hq] at h1 e0
              simp only [reO, Option.some.injEq, Prod.mk.injEq, and_true] at e0
              simp only at h1 ⊢
              cases o with
              | val w => cases h1
              | exit e T1 ms1 =>
                simp only [reMs, Out.exit.injEq, true_and] at e0
                subst e0
                cases e with
                | exit id => cases h1
                | nrm =>
                  simp only [takeMarks, resultsA, bd, ret, Option.some.injEq, Prod.mk.injEq] at h1
                  simp only [quietEnd, ret, h1.2]
                | ret =>
                  simp only [takeMarks, resultsA, bd, ret, Option.some.injEq, Prod.mk.injEq] at h1
                  simp only [quietEnd, ret, h1.2]
/-- the operations ahead of a 'defer', and the call -/
def defTop : Code → Option (List Oper × List Oper × Call)
  | .region _ ops false => match deferOf ops.toList with
    | some p => some (ops.toList, p.1, p.2)
    | none => none
  | _ => none
def defFun (c : Call) : Option Operand := match c.callee with
  | .value f => cond (c.args.toList.isEmpty && okX f) (some f) none
  | _ => none
def isDefK (P : Program) (X : Told) (v : AVal) : Prop := match v with
  | .fn (.func k) _ _ => X k = none ∧ isFn P k = true ∧ defFn P k = true
  | _ => False
def wpD (P : Program) (X : Told) (A : Nat → List Nat) (nt : Nat) : Code → Env → (AVal → AExit → Env → Heap → Prop) → Heap → Prop
  | .seq a b, env, K, s => match defTop a with
    | some (all, l, c) => match defFun c with
      | some f => cond ((l.all fun o => okOp o.op) && noRF b) (opsE P X nt all l [] env (fun env s => isDefK P X (evD env f) ∧ wpC P X A nt none b env (K (evD env f)) s) s) False
      | none => False
    | none => cond (noRF a) (wpC P X A nt none a env (fun e env s => match e with
      | .nrm => wpD P X A nt b env K s
      | _ => False) s) False
  | _, _, _, _ => False
/-- what code with a 'defer' leaves -/
def PostD (K : AVal → AExit → Env → Heap → Prop) (o : Out) (s : Heap) : Prop := ∃ e T env k first cap, o = .exit e T [.call k (first ++ cap)] ∧ TR T env ∧ X k = none ∧ isFn P k = true ∧ defFn P k = true ∧ K (.fn (.func k) first cap) e env s
theorem wpD_ok (hX : FrX X) : ∀ (c : Code) (env : Env) (K : AVal → AExit → Env → Heap → Prop) (s : Heap) (T : Tmps), TR T env → wpD P X A nt c env K s → wpF (fun n => run P X n (.code nt none c T [])) (PostD (P := P) (X := X) K) s
  | .seq a b, env, K, s, T, hT, h => by
    refine code_succ ?_
    unfold wpD at h
    unfold runCode
    have monoB : ∀ o : Out, Mono fun n => (match o with
      | .exit .nrm T ms => run P X n (.code nt none b T ms)
      | o => ret o : M Out) := fun o => by
      cases o with
      | exit e T ms => cases e with
        | nrm => exact mono_run _
        | _ => exact .const _
      | val v => exact .const _
    have e0 : ∀ s : Heap, add s (mkH []) = s := fun s => by funext i; unfold add mkH; cases s i <;> simp
    cases hd : defTop a with
    | some p =>
      obtain ⟨all, l, c⟩ := p
      rw [hd] at h
      simp only at h
      cases hf : defFun c with
      | none => rw [hf] at h; exact h.elim
      | some f =>
      rw [hf] at h
      simp only at h
      cases hok : ((l.all fun o => okOp o.op) && noRF b) with
      | false => rw [hok] at h; exact h.elim
      | true =>
      rw [hok, cond_true] at h
      obtain ⟨hok1, hok2⟩ := Bool.and_eq_true_iff.1 hok
      refine wpF.bd (mono_run _) monoB ?_
      cases a with
      | region id ops draw =>
        cases draw with
        | true => cases hd
        | false =>
        simp only [defTop] at hd
        cases hq : deferOf ops.toList with
        | none => rw [hq] at hd; cases hd
        | some q =>
        rw [hq] at hd
        simp only [Option.some.injEq, Prod.mk.injEq] at hd
        obtain ⟨rfl, rfl, rfl⟩ := hd
        refine code_succ ?_
        unfold runCode
        simp only [cond_false, hq]
        refine wpF.bd (mono_opsA _ _ _ _) (fun T => .const _) ((opsE_ok _ _ _ _ _ hok1 hT .nil h).mono ?_)
        rintro T1 s1 ⟨env1, hT1, ⟨h1, h2⟩, _⟩
        unfold isDefK at h1
        split at h1
        · rename_i k first cap hv
          obtain ⟨x1, x2, x3⟩ := h1
          unfold defFun at hf
          split at hf
          · rename_i f' hcal
            cases hz : (q.2.args.toList.isEmpty && okX f') with
            | false => rw [hz] at hf; cases hf
            | true =>
            rw [hz] at hf
            cases hf
            obtain ⟨z1, z2⟩ := Bool.and_eq_true_iff.1 hz
            have z1 : q.2.args.toList = [] := by simpa using z1
            have hda : deferA P T1 q.2 = some (.call k (first ++ cap)) := by
              unfold deferA
              rw [hcal, z1]
              simp only [evs, ev_of hT1 z2, hv, x2, cond_true, List.append_nil]
            rw [hda]
            refine wpF.ret ?_
            simp only
            have hb := code_K (P := P) (X := X) (A := A) (nt := nt) (rnd := none) hX b env1 (K (evD env1 f)) s1 h2 T1 [] hT1 (by simp) List.nodup_nil
            rw [e0] at hb
            refine (wp_noRF hok2 [.call k (first ++ cap)] hb).mono ?_
            rintro o S ⟨o', rfl, hno, e, T2, env2, ms', s2, rfl, q1, rfl, _, _, _, _, q6⟩
            simp only [reMs, Out.exit.injEq, true_and, List.append_nil] at hno
            have hms : ms' = [] := by
              cases ms' with
              | nil => rfl
              | cons _ _ => cases hno
            subst hms
            refine ⟨e, T2, env2, k, first, cap, rfl, q1, x1, x2, x3, ?_⟩
            rw [List.append_nil, e0]
            rw [hv] at q6
            exact q6
          · cases hf
        · exact h1.elim
      | _ => cases hd
    | none =>
      rw [hd] at h
      simp only at h
      cases hn : noRF a with
      | false => rw [hn] at h; exact h.elim
      | true =>
      rw [hn, cond_true] at h
      have ha := code_K (P := P) (X := X) (A := A) (nt := nt) (rnd := none) hX a env _ s h T [] hT (by simp) List.nodup_nil
      rw [e0] at ha
      refine wpF.bd (mono_run _) monoB ((wp_noRF hn [] ha).mono ?_)
      rintro o S ⟨o', rfl, hno, e, T2, env2, ms', s2, rfl, q1, rfl, _, _, _, _, q6⟩
      simp only [reMs, Out.exit.injEq, true_and, List.append_nil] at hno
      have hms : ms' = [] := by
        cases ms' with
        | nil => rfl
        | cons _ _ => cases hno
      subst hms
      cases e with
      | nrm =>
        rw [List.append_nil, e0]
        exact wpD_ok hX b env2 K s2 T2 q1 q6
      | ret => exact q6.elim
      | exit id => exact q6.elim
  | .skip, _, _, _, _, _, h => h.elim
  | .region _ _ _, _, _, _, _, _, h => h.elim
  | .cond _ _ _, _, _, _, _, _, h => h.elim
  | .block _ _, _, _, _, _, _, h => h.elim
  | .loop _, _, _, _, _, _, h => h.elim
  | .exit _, _, _, _, _, _, h => h.elim
  | .ret, _, _, _, _, _, h => h.elim
  | .rangeFunc _ _ _ _, _, _, _, _, _, h => h.elim
  | .scope _, _, _, _, _, _, h => h.elim
  | .label _, _, _, _, _, _, h => h.elim
  | .goto _, _, _, _, _, _, h => h.elim
  | .refuse _, _, _, _, _, _, h => h.elim
theorem wpCall_codeD (hX : FrX X) (A : Nat → List Nat) {f : FuncId} (hXf : X f = none) {fn : Func} {c : Code} (hf : P.funcs[f]? = some fn) (hb : fn.body = some c) {args : List AVal} (hl : Nat.ble args.length fn.ntmps = true) {K : AVal → Heap → Prop} {s : Heap}
    (h : wpD P X A fn.ntmps c (envOf args) (fun v e env s => retK e (funK P X v [] (fun _ s => resK P fn.results.toList env (fun vs => K (oneV vs) s) s) s)) s) : wpCall P X f args K s := by
  unfold wpCall wpT
  refine wpF.succ (m := fun n => runCall P (run P X n) f args) ?_ (fun n => by
    show (match X f with
      | some g => bd (g args) fun v => ret (Out.val v)
      | none => runCall P (run P X n) f args) = _
    rw [hXf])
  unfold runCall
  simp only [hf, hb]
  refine wpF.cond hl ?_
  have hc := wpD_ok (P := P) (A := A) (nt := fn.ntmps) hX c (envOf args) _ s (Tr.ofListAt .nil 0 args) (tr_args args) h
  refine wpF.bd (m := fun n => run P X n (.code fn.ntmps none c (Tr.ofListAt .nil 0 args) [])) (mono_run _) (fun o => mono_of fun n => ?_) (hc.mono ?_)
  · split
    · split
      · exact LeM.refl _
      · exact LeM.bd (le_takeMarks (le_run n) _) fun _ => LeM.refl _
    · exact LeM.refl _
  rintro o S ⟨e, T', env', k, first, cap, rfl, q1, x1, x2, x3, q6⟩
  have body : funK P X (.fn (.func k) first cap) [] (fun _ s => resK P fn.results.toList env' (fun vs => K (oneV vs) s) s) S → wpF (fun n => bd (takeMarks P (run P X n) [.call k (first ++ cap)]) fun _ => bd (resultsA P T' fn.results.toList) fun vs => ret (Out.val (oneV vs))) (fun o s' => ∃ v, o = .val v ∧ K v s') S := by
    rintro ⟨_, hcall⟩
    rw [List.append_nil] at hcall
    refine wpF.bd (mono_takeMarks _) (fun _ => .const _) ?_
    unfold takeMarks
    refine wpF.bd (f := fun n _ => takeMarks P (run P X n) []) (mono_of fun n => le_runDef (le_run n) _ _) (fun _ => mono_takeMarks _) ((wp_runDef x1 x3 hcall).mono ?_)
    rintro _ s1 hr
    refine wpF.ret ?_
    refine wpF.bd (.const _) (fun _ => .const _) ((wp_results q1 _ _ _ hr).mono ?_)
    rintro vs s'' ⟨rfl, hk⟩
    exact wpF.ret ⟨_, rfl, hk⟩
  cases e with
  | exit id => exact q6.elim
  | nrm => exact body q6
  | ret => exact body q6
end Go.AM
namespace Go.AM
open Go
variable {P : Program} {X : Told}
/-- what a call does not know, it leaves as it is -/
theorem wpCall.frame (hX : FrX X) {f : FuncId} {args : List AVal} {K : AVal → Heap → Prop} {r s : Heap} (hsub : Sub r s)
    (h : wpCall P X f args (fun v s1 => (∀ i, s i ≠ none → r i = none → s1 i = none) → K v (add s1 (rest s r))) r) : wpCall P X f args K s := by
  intro H hH
  obtain ⟨n, o, H1, s1, es, h1, h2, h3, h4, d, kno, out⟩ := wpF.framed (fun n => fr_run P hX n (.call f args)) h (hH.sub hsub)
  obtain ⟨v, rfl, hK⟩ := h4
  have hout : ∀ i, s i ≠ none → r i = none → s1 i = none := fun i hi hr => (out i hr (hH.lt hi)).1
  refine ⟨n, .val v, H1, h1, add s1 (rest s r), ?_, ?_, v, rfl, hK hout⟩
  · refine ⟨h2.lo, h2.wf, fun id t b hid => ?_⟩
    cases q : s1 id with
    | some x =>
      rw [add_some q] at hid
      exact h2.at_ id t b (by rw [q]; exact hid)
    | none =>
      rw [add_none q] at hid
      unfold rest at hid
      split at hid
      · rename_i e
        obtain ⟨k1, k2⟩ := hH.at_ id t b hid
        have hlt := hH.lt (i := id) (by rw [hid]; exact Option.some_ne_none _)
        rw [d.lo, (out id e hlt).2]
        exact ⟨k1, k2⟩
      · cases hid
  · intro id b hid
    cases q : r id with
    | some x =>
      have e1 := hsub id x q
      rw [hid] at e1
      cases e1
      exact add_some (h3 id b q)
    | none =>
      have hlt := hH.lt (i := id) (by rw [hid]; exact Option.some_ne_none _)
      rw [add_none (out id q hlt).1]
      unfold rest
      rw [if_pos q]; exact hid
/-- a call on a part of memory: the other part stays, the new blocks are none of its -/
theorem wpCall.part (hX : FrX X) {f : FuncId} {args : List AVal} {K : AVal → Heap → Prop} {r s : Heap} (hsub : Sub r s)
    (h : wpCall P X f args (fun v s1 => ∀ s', Sub s1 s' → (∀ i, r i = none → s i ≠ none → s' i = s i ∧ s1 i = none) → K v s') r) : wpCall P X f args K s := by
  refine wpCall.frame hX hsub (wpF.mono h fun o s1 ⟨v, e, hv⟩ => ⟨v, e, fun hout => hv _ sub_add fun i hr hi => ?_⟩)
  have := hout i hi hr
  refine ⟨?_, this⟩
  rw [add_none this]
  unfold rest
  rw [if_pos hr]
end Go.AM
namespace Go.AM
open Go
variable {α β : Type} {P : Program} {X : Told} {A : Nat → List Nat} {nt : Nat} {rnd : Option Nat}
/-! ### deferred functions that begin with 'recover', while the function returns -/
/-- a call that is run as a deferred one -/
def wpRun (P : Program) (X : Told) (k : FuncId) (args : List AVal) (Q : Heap → Prop) (s : Heap) : Prop := wpF (fun n => runDef P (run P X n) k args) (fun _ s => Q s) s
def runK (P : Program) (X : Told) (v : AVal) (Q : Heap → Prop) (s : Heap) : Prop := match v with
  | .fn (.func k) first cap => wpRun P X k (first ++ cap) Q s
  | _ => False
def isRunK (P : Program) (v : AVal) : Prop := match v with
  | .fn (.func k) _ _ => isFn P k = true
  | _ => False
def restOf (c : Code) : Code := match recTop c with
  | some (_, r) => r
  | none => .skip
def recEnv (c : Code) (env : Env) : Env := match recTop c with
  | some (t, _) => upd env t .nilIface
  | none => env
def recOk (c : Code) (nt : Nat) : Bool := match recTop c with
  | some (t, r) => noRF r && Nat.blt t nt
  | none => false
theorem wpRun_code (hX : FrX X) (A : Nat → List Nat) {k : FuncId} {fn : Func} {c : Code} (hf : P.funcs[k]? = some fn) (hb : fn.body = some c) (hr : fn.results.toList = []) (hc : recOk c fn.ntmps = true) {args : List AVal} (hl : Nat.ble args.length fn.ntmps = true) {K : AVal → Heap → Prop} {s : Heap}
    (h : wpC P X A fn.ntmps none (restOf c) (recEnv c (envOf args)) (fun e env s => retK e (resK P fn.results.toList env (fun vs => K (oneV vs) s) s)) s) : wpRun P X k args (fun s => K (.tup []) s) s := by
  unfold recOk at hc
  unfold restOf recEnv at h
  cases hq : recTop c with
  | none => rw [hq] at hc; cases hc
  | some p =>
  obtain ⟨t, r⟩ := p
  rw [hq] at hc h
  simp only at hc h
  obtain ⟨hno, hlt⟩ := Bool.and_eq_true_iff.1 hc
  rw [hr] at h
  unfold wpRun runDef
  simp only [hf, hb, hr]
  refine wpF.cond hl ?_
  have hd : defCode fn (Tr.ofListAt .nil 0 args) c = some (r, (Tr.ofListAt .nil 0 args).put t (some .nilIface)) := by
    unfold defCode
    rw [hq]
    simp only [hlt, cond_true]
  rw [hd]
  simp only
  have hT := tr_put (tr_args args) t .nilIface
  have e0 : ∀ s : Heap, add s (mkH []) = s := fun s => by funext i; unfold add mkH; cases s i <;> simp
  have hcode := code_K (P := P) (X := X) (A := A) (nt := fn.ntmps) (rnd := none) hX r _ _ s h _ [] hT (by simp) List.nodup_nil
  rw [e0] at hcode
  refine wpF.bd (mono_run _) (fun o => .const _) ((wp_noRF hno [] hcode).mono ?_)
  rintro o S ⟨o', rfl, hno', e, T2, env2, ms', s2, rfl, q1, rfl, _, _, _, _, q6⟩
  simp only [reMs, Out.exit.injEq, true_and, List.append_nil] at hno'
  have hms : ms' = [] := by
    cases ms' with
    | nil => rfl
    | cons _ _ => cases hno'
  subst hms
  rw [List.append_nil, e0]
  cases e with
  | nrm => exact wpF.ret q6
  | ret => exact wpF.ret q6
  | exit id => exact q6.elim
def wpDR (P : Program) (X : Told) (A : Nat → List Nat) (nt : Nat) : Code → Env → (AVal → AExit → Env → Heap → Prop) → Heap → Prop
  | .seq a b, env, K, s => match defTop a with
    | some (all, l, c) => match defFun c with
      | some f => cond ((l.all fun o => okOp o.op) && noRF b) (opsE P X nt all l [] env (fun env s => isRunK P (evD env f) ∧ wpC P X A nt none b env (K (evD env f)) s) s) False
      | none => False
    | none => cond (noRF a) (wpC P X A nt none a env (fun e env s => match e with
      | .nrm => wpDR P X A nt b env K s
      | _ => False) s) False
  | _, _, _, _ => False
/-- what code with a 'defer' leaves -/
def PostR (K : AVal → AExit → Env → Heap → Prop) (o : Out) (s : Heap) : Prop := ∃ e T env k first cap, o = .exit e T [.call k (first ++ cap)] ∧ TR T env ∧ isFn P k = true ∧ K (.fn (.func k) first cap) e env s
theorem wpDR_ok (hX : FrX X) : ∀ (c : Code) (env : Env) (K : AVal → AExit → Env → Heap → Prop) (s : Heap) (T : Tmps), TR T env → wpDR P X A nt c env K s → wpF (fun n => run P X n (.code nt none c T [])) (PostR (P := P) K) s
  | .seq a b, env, K, s, T, hT, h => by
    refine code_succ ?_
    unfold wpDR at h
    unfold runCode
    have monoB : ∀ o : Out, Mono fun n => (match o with
      | .exit .nrm T ms => run P X n (.code nt none b T ms)
      | o => ret o : M Out) := fun o => by
      cases o with
      | exit e T ms => cases e with
        | nrm => exact mono_run _
        | _ => exact .const _
      | val v => exact .const _
    have e0 : ∀ s : Heap, add s (mkH []) = s := fun s => by funext i; unfold add mkH; cases s i <;> simp
    cases hd : defTop a with
    | some p =>
      obtain ⟨all, l, c⟩ := p
      rw [hd] at h
      simp only at h
      cases hf : defFun c with
      | none => rw [hf] at h; exact h.elim
      | some f =>
      rw [hf] at h
      simp only at h
      cases hok : ((l.all fun o => okOp o.op) && noRF b) with
      | false => rw [hok] at h; exact h.elim
      | true =>
      rw [hok, cond_true] at h
      obtain ⟨hok1, hok2⟩ := Bool.and_eq_true_iff.1 hok
      refine wpF.bd (mono_run _) monoB ?_
      cases a with
      | region id ops draw =>
        cases draw with
        | true => cases hd
        | false =>
        simp only [defTop] at hd
        cases hq : deferOf ops.toList with
        | none => rw [hq] at hd; cases hd
        | some q =>
        rw [hq] at hd
        simp only [Option.some.injEq, Prod.mk.injEq] at hd
        obtain ⟨rfl, rfl, rfl⟩ := hd
        refine code_succ ?_
        unfold runCode
        simp only [cond_false, hq]
        refine wpF.bd (mono_opsA _ _ _ _) (fun T => .const _) ((opsE_ok _ _ _ _ _ hok1 hT .nil h).mono ?_)
        rintro T1 s1 ⟨env1, hT1, ⟨h1, h2⟩, _⟩
        unfold isRunK at h1
        split at h1
        · rename_i k first cap hv
          have x2 := h1
          unfold defFun at hf
          split at hf
          · rename_i f' hcal
            cases hz : (q.2.args.toList.isEmpty && okX f') with
            | false => rw [hz] at hf; cases hf
            | true =>
            rw [hz] at hf
            cases hf
            obtain ⟨z1, z2⟩ := Bool.and_eq_true_iff.1 hz
            have z1 : q.2.args.toList = [] := by simpa using z1
            have hda : deferA P T1 q.2 = some (.call k (first ++ cap)) := by
              unfold deferA
              rw [hcal, z1]
              simp only [evs, ev_of hT1 z2, hv, x2, cond_true, List.append_nil]
            rw [hda]
            refine wpF.ret ?_
            simp only
            have hb := code_K (P := P) (X := X) (A := A) (nt := nt) (rnd := none) hX b env1 (K (evD env1 f)) s1 h2 T1 [] hT1 (by simp) List.nodup_nil
            rw [e0] at hb
            refine (wp_noRF hok2 [.call k (first ++ cap)] hb).mono ?_
            rintro o S ⟨o', rfl, hno, e, T2, env2, ms', s2, rfl, q1, rfl, _, _, _, _, q6⟩
            simp only [reMs, Out.exit.injEq, true_and, List.append_nil] at hno
            have hms : ms' = [] := by
              cases ms' with
              | nil => rfl
              | cons _ _ => cases hno
            subst hms
            refine ⟨e, T2, env2, k, first, cap, rfl, q1, x2, ?_⟩
            rw [List.append_nil, e0]
            rw [hv] at q6
            exact q6
          · cases hf
        · exact h1.elim
      | _ => cases hd
    | none =>
      rw [hd] at h
      simp only at h
      cases hn : noRF a with
      | false => rw [hn] at h; exact h.elim
      | true =>
      rw [hn, cond_true] at h
      have ha := code_K (P := P) (X := X) (A := A) (nt := nt) (rnd := none) hX a env _ s h T [] hT (by simp) List.nodup_nil
      rw [e0] at ha
      refine wpF.bd (mono_run _) monoB ((wp_noRF hn [] ha).mono ?_)
      rintro o S ⟨o', rfl, hno, e, T2, env2, ms', s2, rfl, q1, rfl, _, _, _, _, q6⟩
      simp only [reMs, Out.exit.injEq, true_and, List.append_nil] at hno
      have hms : ms' = [] := by
        cases ms' with
        | nil => rfl
        | cons _ _ => cases hno
      subst hms
      cases e with
      | nrm =>
        rw [List.append_nil, e0]
        exact wpDR_ok hX b env2 K s2 T2 q1 q6
      | ret => exact q6.elim
      | exit id => exact q6.elim
  | .skip, _, _, _, _, _, h => h.elim
  | .region _ _ _, _, _, _, _, _, h => h.elim
  | .cond _ _ _, _, _, _, _, _, h => h.elim
  | .block _ _, _, _, _, _, _, h => h.elim
  | .loop _, _, _, _, _, _, h => h.elim
  | .exit _, _, _, _, _, _, h => h.elim
  | .ret, _, _, _, _, _, h => h.elim
  | .rangeFunc _ _ _ _, _, _, _, _, _, h => h.elim
  | .scope _, _, _, _, _, _, h => h.elim
  | .label _, _, _, _, _, _, h => h.elim
  | .goto _, _, _, _, _, _, h => h.elim
  | .refuse _, _, _, _, _, _, h => h.elim
theorem wpCall_codeR (hX : FrX X) (A : Nat → List Nat) {f : FuncId} (hXf : X f = none) {fn : Func} {c : Code} (hf : P.funcs[f]? = some fn) (hb : fn.body = some c) {args : List AVal} (hl : Nat.ble args.length fn.ntmps = true) {K : AVal → Heap → Prop} {s : Heap}
    (h : wpDR P X A fn.ntmps c (envOf args) (fun v e env s => retK e (runK P X v (fun s => resK P fn.results.toList env (fun vs => K (oneV vs) s) s) s)) s) : wpCall P X f args K s := by
  unfold wpCall wpT
  refine wpF.succ (m := fun n => runCall P (run P X n) f args) ?_ (fun n => by
    show (match X f with
      | some g => bd (g args) fun v => ret (Out.val v)
      | none => runCall P (run P X n) f args) = _
    rw [hXf])
  unfold runCall
  simp only [hf, hb]
  refine wpF.cond hl ?_
  have hc := wpDR_ok (P := P) (A := A) (nt := fn.ntmps) hX c (envOf args) _ s (Tr.ofListAt .nil 0 args) (tr_args args) h
  refine wpF.bd (m := fun n => run P X n (.code fn.ntmps none c (Tr.ofListAt .nil 0 args) [])) (mono_run _) (fun o => mono_of fun n => ?_) (hc.mono ?_)
  · split
    · split
      · exact LeM.refl _
      · exact LeM.bd (le_takeMarks (le_run n) _) fun _ => LeM.refl _
    · exact LeM.refl _
  rintro o S ⟨e, T', env', k, first, cap, rfl, q1, x2, q6⟩
  have body : runK P X (.fn (.func k) first cap) (fun s => resK P fn.results.toList env' (fun vs => K (oneV vs) s) s) S → wpF (fun n => bd (takeMarks P (run P X n) [.call k (first ++ cap)]) fun _ => bd (resultsA P T' fn.results.toList) fun vs => ret (Out.val (oneV vs))) (fun o s' => ∃ v, o = .val v ∧ K v s') S := by
    intro hcall
    refine wpF.bd (mono_takeMarks _) (fun _ => .const _) ?_
    unfold takeMarks
    refine wpF.bd (f := fun n _ => takeMarks P (run P X n) []) (mono_of fun n => le_runDef (le_run n) _ _) (fun _ => mono_takeMarks _) (wpF.mono hcall ?_)
    rintro _ s1 hr
    refine wpF.ret ?_
    refine wpF.bd (.const _) (fun _ => .const _) ((wp_results q1 _ _ _ hr).mono ?_)
    rintro vs s'' ⟨rfl, hk⟩
    exact wpF.ret ⟨_, rfl, hk⟩
  cases e with
  | exit id => exact q6.elim
  | nrm => exact body q6
  | ret => exact body q6
end Go.AM
