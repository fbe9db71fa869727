/- Part 5 of a calculation in a small memory that is proved to answer as the program does: see the last part. -/
import Derived.Test.YtnbgeelhoakjgaaAm4
import Derived.WalkKit
namespace Go.AM
open Go Go.RowKit

/-! ### taking work apart -/
section
variable {α β : Type}
theorem bd_some {m : M α} {f : α → M β} {H : AHeap} {r : β × AHeap} (h : bd m f H = some r) : ∃ a H', m H = some (a, H') ∧ f a H' = some r := by
  unfold bd at h
  cases h1 : m H with
  | none => simp [h1] at h
  | some p => obtain ⟨a, H'⟩ := p; simp only [h1] at h; exact ⟨a, H', rfl, h⟩
theorem ret_some {a : α} {H : AHeap} {r : α × AHeap} (h : ret a H = some r) : r = (a, H) := by simp [ret] at h; exact h.symm
theorem lift_some {o : Option α} {H : AHeap} {r : α × AHeap} (h : lift o H = some r) : ∃ a, o = some a ∧ r = (a, H) := by
  cases o with
  | none => simp [lift] at h
  | some a => exact ⟨a, rfl, by simp [lift] at h; exact h.symm⟩
theorem fail_some {H : AHeap} {r : α × AHeap} (h : (fail : M α) H = some r) : False := by simp [fail] at h
theorem cond_some {b : Bool} {x : M α} {H : AHeap} {r : α × AHeap} (h : cond b x fail H = some r) : b = true ∧ x H = some r := by
  cases b with
  | true => exact ⟨rfl, h⟩
  | false => exact (fail_some (H := H) h).elim
theorem condO_some {b : Bool} {x : Option α} {r : α} (h : cond b x none = some r) : b = true ∧ x = some r := by
  cases b with
  | true => exact ⟨rfl, h⟩
  | false => cases h
end

/-! ### the relation -/
structure Loc where
  blk : Nat
  sh : Nat
  sz : Nat
abbrev Ren := Nat → Option Loc

/-- '.opq 0': some value of one cell; the others: the value that stands for the number -/
def opqR (σ : Nat → Value) (v : Value) : Nat → Prop
  | 0 => v.oneCell' = true
  | i + 1 => v = σ (i + 1)
mutual
def Rel (σ : Nat → Value) (ρ : Ren) : AVal → Value → Prop
  | .bool b, v => v = .bool b
  | .int k n, v => v = .int k n
  | .str s, v => v = .string s
  | .ptr b o, v => ∃ L, ρ b = some L ∧ v = .pointer (some ⟨L.blk, L.sh + o, none⟩)
  | .nilptr, v => v = .pointer none
  | .slc b o len cap es, v => ∃ L a c, ρ b = some L ∧ v = .slice (some a) len c ∧ ((a = ⟨L.blk, L.sh + o, none⟩ ∧ L.sh + o + c * es ≤ L.sz) ∨ (len = 0 ∧ c = 0)) ∧ len ≤ c ∧ ∀ k, cap = some k → c = k
  | .nilslc, v => v = .slice none 0 0
  | .map b, v => ∃ L, ρ b = some L ∧ v = .map (some L.blk)
  | .nilmap, v => v = .map none
  | .fn f as bs, v => ∃ as' bs' : Array Value, v = .func f as' bs' ∧ RelL σ ρ as as'.toList ∧ RelL σ ρ bs bs'.toList
  | .yield l, v => ∃ L, ρ l = some L ∧ v = .func (.yield L.blk) #[] #[]
  | .nilFunc, v => v = .nilFunc
  | .ifc t x, v => ∃ x', v = .iface t x' ∧ Rel σ ρ x x'
  | .nilIface, v => v = .nilIface
  | .agg cs, v => ∃ cs' : Array Value, v = .agg cs' ∧ RelL σ ρ cs cs'.toList
  | .tup cs, v => ∃ cs' : Array Value, v = .tuple cs' ∧ RelL σ ρ cs cs'.toList
  | .opq i, v => opqR σ v i
def RelL (σ : Nat → Value) (ρ : Ren) : List AVal → List Value → Prop
  | [], l => l = []
  | x :: xs, l => ∃ y ys, l = y :: ys ∧ Rel σ ρ x y ∧ RelL σ ρ xs ys
end

def Le (ρ ρ' : Ren) : Prop := ∀ id L, ρ id = some L → ρ' id = some L
theorem Le.refl (ρ : Ren) : Le ρ ρ := fun _ _ h => h
theorem Le.trans {a b c : Ren} (h : Le a b) (k : Le b c) : Le a c := fun i L x => k i L (h i L x)

mutual
theorem Rel.mono {σ : Nat → Value} {ρ ρ' : Ren} (h : Le ρ ρ') : ∀ (x : AVal) (v : Value), Rel σ ρ x v → Rel σ ρ' x v
  | .bool _, _, r => r
  | .int _ _, _, r => r
  | .str _, _, r => r
  | .ptr _ _, _, r => by unfold Rel at r ⊢; obtain ⟨L, h1, h2⟩ := r; exact ⟨L, h _ _ h1, h2⟩
  | .nilptr, _, r => r
  | .slc _ _ _ _ _, _, r => by unfold Rel at r ⊢; obtain ⟨L, o, c, h1, h2⟩ := r; exact ⟨L, o, c, h _ _ h1, h2⟩
  | .nilslc, _, r => r
  | .map _, _, r => by unfold Rel at r ⊢; obtain ⟨L, h1, h2⟩ := r; exact ⟨L, h _ _ h1, h2⟩
  | .nilmap, _, r => r
  | .fn _ as bs, _, r => by unfold Rel at r ⊢; obtain ⟨a, b, h1, h2, h3⟩ := r; exact ⟨a, b, h1, RelL.mono h as _ h2, RelL.mono h bs _ h3⟩
  | .yield _, _, r => by unfold Rel at r ⊢; obtain ⟨L, h1, h2⟩ := r; exact ⟨L, h _ _ h1, h2⟩
  | .nilFunc, _, r => r
  | .ifc _ x, _, r => by unfold Rel at r ⊢; obtain ⟨y, h1, h2⟩ := r; exact ⟨y, h1, Rel.mono h x _ h2⟩
  | .nilIface, _, r => r
  | .agg cs, _, r => by unfold Rel at r ⊢; obtain ⟨y, h1, h2⟩ := r; exact ⟨y, h1, RelL.mono h cs _ h2⟩
  | .tup cs, _, r => by unfold Rel at r ⊢; obtain ⟨y, h1, h2⟩ := r; exact ⟨y, h1, RelL.mono h cs _ h2⟩
  | .opq _, _, r => r
theorem RelL.mono {σ : Nat → Value} {ρ ρ' : Ren} (h : Le ρ ρ') : ∀ (x : List AVal) (v : List Value), RelL σ ρ x v → RelL σ ρ' x v
  | [], _, r => r
  | x :: xs, _, r => by unfold RelL at r ⊢; obtain ⟨y, ys, h1, h2, h3⟩ := r; exact ⟨y, ys, h1, Rel.mono h x _ h2, RelL.mono h xs _ h3⟩
end

section lists
variable {σ : Nat → Value} {ρ : Ren}
theorem RelL.length : ∀ {xs : List AVal} {ys : List Value}, RelL σ ρ xs ys → ys.length = xs.length
  | [], _, r => by unfold RelL at r; subst r; rfl
  | _ :: xs, _, r => by unfold RelL at r; obtain ⟨y, ys, rfl, _, h⟩ := r; simp [RelL.length h]
theorem RelL.get : ∀ {xs : List AVal} {ys : List Value}, RelL σ ρ xs ys → ∀ (i : Nat) (x : AVal), xs[i]? = some x → ∃ y, ys[i]? = some y ∧ Rel σ ρ x y
  | [], _, _, i, x, h => by simp at h
  | x :: xs, _, r, i, z, h => by
    unfold RelL at r; obtain ⟨y, ys, rfl, h1, h2⟩ := r
    cases i with
    | zero => simp at h; subst h; exact ⟨y, rfl, h1⟩
    | succ i => simp at h ⊢; exact RelL.get h2 i z h
theorem RelL.of_get : ∀ {xs : List AVal} {ys : List Value}, ys.length = xs.length → (∀ (i : Nat) (x : AVal) (y : Value), xs[i]? = some x → ys[i]? = some y → Rel σ ρ x y) → RelL σ ρ xs ys
  | [], ys, hl, _ => by unfold RelL; cases ys <;> simp_all
  | x :: xs, ys, hl, h => by
    cases ys with
    | nil => simp at hl
    | cons y ys => unfold RelL; exact ⟨y, ys, rfl, h 0 x y rfl rfl, RelL.of_get (by simpa using hl) fun i a b ha hb => h (i + 1) a b (by simpa using ha) (by simpa using hb)⟩
theorem RelL.append {a c : List AVal} {b d : List Value} (h : RelL σ ρ a b) (k : RelL σ ρ c d) : RelL σ ρ (a ++ c) (b ++ d) := by
  induction a generalizing b with
  | nil => unfold RelL at h; subst h; exact k
  | cons x xs ih => unfold RelL at h; obtain ⟨y, ys, rfl, h1, h2⟩ := h; show RelL σ ρ (x :: (xs ++ c)) _; unfold RelL; exact ⟨y, ys ++ d, rfl, h1, ih h2⟩
theorem RelL.take {a : List AVal} {b : List Value} (h : RelL σ ρ a b) (n : Nat) : RelL σ ρ (a.take n) (b.take n) := by
  refine RelL.of_get (by simp [h.length]) fun i x y hx hy => ?_
  rw [List.getElem?_take] at hx hy
  split at hx
  · rename_i hn
    rw [if_pos hn] at hy
    obtain ⟨z, hz, hr⟩ := h.get i x hx
    rw [hz] at hy; cases hy; exact hr
  · cases hx
theorem RelL.drop {a : List AVal} {b : List Value} (h : RelL σ ρ a b) (n : Nat) : RelL σ ρ (a.drop n) (b.drop n) := by
  refine RelL.of_get (by simp [h.length]) fun i x y hx hy => ?_
  rw [List.getElem?_drop] at hx hy
  obtain ⟨z, hz, hr⟩ := h.get _ x hx
  rw [hz] at hy; cases hy; exact hr
theorem rel_undef : Rel σ ρ .undef undef := by
  show Rel σ ρ (.tup []) _
  unfold Rel
  exact ⟨#[], rfl, by unfold RelL; rfl⟩
theorem RelL.nil : RelL σ ρ [] [] := by unfold RelL; rfl
theorem RelL.cons {x : AVal} {xs : List AVal} {y : Value} {ys : List Value} (h : Rel σ ρ x y) (k : RelL σ ρ xs ys) : RelL σ ρ (x :: xs) (y :: ys) := by
  unfold RelL; exact ⟨y, ys, rfl, h, k⟩
end lists

/-- what stands for the values that are never looked into: each fills one cell -/
def One (σ : Nat → Value) : Prop := ∀ i, (σ i).oneCell' = true
theorem opqR_one {σ : Nat → Value} {v : Value} (hσ : One σ) : ∀ {i : Nat}, opqR σ v i → v.oneCell' = true
  | 0, h => h
  | i + 1, h => by have h : v = σ (i + 1) := h; rw [h]; exact hσ _
theorem one_cell {σ : Nat → Value} {ρ : Ren} (hσ : One σ) {x : AVal} {v : Value} (h : Rel σ ρ x v) (hx : x.one = true) : v.oneCell' = true := by
  cases x <;> simp [AVal.one] at hx <;> unfold Rel at h
  all_goals first
    | (subst h; rfl)
    | (obtain ⟨_, _, rfl⟩ := h; rfl)
    | (obtain ⟨_, _, _, _, rfl, _⟩ := h; rfl)
    | (obtain ⟨_, _, rfl, _⟩ := h; rfl)
    | (obtain ⟨_, rfl, _⟩ := h; rfl)
    | exact opqR_one hσ h
theorem rel_cells {σ : Nat → Value} {ρ : Ren} (hσ : One σ) {x : AVal} {v : Value} (h : Rel σ ρ x v) : RelL σ ρ x.cells v.cells.toList := by
  cases x
  case agg cs => unfold Rel at h; obtain ⟨cs', rfl, h⟩ := h; exact h
  case opq i =>
    have h' := h
    unfold Rel at h'
    have := opqR_one hσ h'
    have e : v.cells = #[v] := by cases v <;> simp [Value.oneCell'] at this <;> rfl
    rw [e]; exact .cons h .nil
  all_goals (
    have h' := h
    unfold Rel at h'
    have e : v.cells = #[v] := by
      first
      | (subst h'; rfl)
      | (obtain ⟨_, _, rfl⟩ := h'; rfl)
      | (obtain ⟨_, _, _, _, rfl, _⟩ := h'; rfl)
      | (obtain ⟨_, _, rfl, _⟩ := h'; rfl)
      | (obtain ⟨_, rfl, _⟩ := h'; rfl)
    rw [e]; exact .cons h .nil)

def tget (T : Tmps) (i : Nat) : AVal := (T.get i).getD .undef
structure TRel (σ : Nat → Value) (ρ : Ren) (nt : Nat) (T : Tmps) (tm : Array Value) : Prop where
  size : tm.size = nt
  at_ : ∀ i, Rel σ ρ (tget T i) (tm.getD i undef)
theorem TRel.mono {σ : Nat → Value} {ρ ρ' : Ren} {nt : Nat} {T : Tmps} {tm : Array Value} (h : TRel σ ρ nt T tm) (hl : Le ρ ρ') : TRel σ ρ' nt T tm :=
  ⟨h.size, fun i => Rel.mono hl _ _ (h.at_ i)⟩

structure ERel (σ : Nat → Value) (ρ : Ren) (e : AEnt) (e' : MapEntry) : Prop where
  key : Rel σ ρ e.key e'.key
  val : Rel σ ρ e.val e'.val
  born : e'.born = e.born
structure EsRel (σ : Nat → Value) (ρ : Ren) (es : List AEnt) (es' : List MapEntry) : Prop where
  len : es'.length = es.length
  at_ : ∀ (i : Nat) (e : AEnt) (e' : MapEntry), es[i]? = some e → es'[i]? = some e' → ERel σ ρ e e'
theorem EsRel.mono {σ : Nat → Value} {ρ ρ' : Ren} {a : List AEnt} {b : List MapEntry} (h : EsRel σ ρ a b) (hl : Le ρ ρ') : EsRel σ ρ' a b :=
  ⟨h.len, fun i e e' x y => let k := h.at_ i e e' x y; ⟨Rel.mono hl _ _ k.key, Rel.mono hl _ _ k.val, k.born⟩⟩

/-- what a block of concrete memory holds for an abstract one -/
def BR (σ : Nat → Value) (ρ : Ren) (own : Prop) (L : Loc) : ABlk → Option Obj → Prop
  | .cells elem c n, o => ∃ (cc : Array Value) (fr : Nat × Nat), o = some (.cells cc elem fr) ∧ (own → fr = (0, 0)) ∧ cc.size = L.sz ∧ L.sh + n ≤ cc.size ∧
      ∀ i v, c.get i = some v → ∃ v', cc[L.sh + i]? = some v' ∧ Rel σ ρ v v' ∧ v'.oneCell' = true
  | .map es clock, o => ∃ es' : Array MapEntry, o = some (.map es' clock) ∧ EsRel σ ρ es es'.toList
  | .loop st pd nt T ps as bo d, o => ∃ (fn : FuncId) (tm : Array Value) (D : Loc), ρ d = some D ∧
      o = some (.loop { state := st, pending := pd, fn := fn, tmps := tm, params := ps.toArray, assign := as, body := bo, defers := D.blk }) ∧ TRel σ ρ nt T tm
  | .deferred b, o => o = some (.deferred (if b then some [] else none))
  | .iter m since seen st, o => L.sh = 0 ∧ ∃ M, (match m with | none => M = none | some i => ∃ D : Loc, ρ i = some D ∧ M = some D.blk) ∧ o = some (.mapIter M since seen.toArray st)
theorem BR.mono {σ : Nat → Value} {ρ ρ' : Ren} {own : Prop} {L : Loc} {b : ABlk} {o : Option Obj} (h : BR σ ρ own L b o) (hl : Le ρ ρ') : BR σ ρ' own L b o := by
  cases b with
  | cells elem c n => obtain ⟨cc, fr, h1, h2, h3, h4, h5⟩ := h; exact ⟨cc, fr, h1, h2, h3, h4, fun i v hv => let ⟨v', a, b, c⟩ := h5 i v hv; ⟨v', a, Rel.mono hl _ _ b, c⟩⟩
  | map es clock => obtain ⟨es', h1, h2⟩ := h; exact ⟨es', h1, h2.mono hl⟩
  | loop st pd nt T ps as bo d => obtain ⟨fn, tm, D, h1, h2, h3⟩ := h; exact ⟨fn, tm, D, hl _ _ h1, h2, h3.mono hl⟩
  | deferred b => exact h
  | iter m since seen st =>
    obtain ⟨h0, M, h1, h2⟩ := h
    refine ⟨h0, M, ?_, h2⟩
    cases m with
    | none => exact h1
    | some i => obtain ⟨D, h3, h4⟩ := h1; exact ⟨D, hl _ _ h3, h4⟩

structure WR (σ : Nat → Value) (ρ : Ren) (base : Nat) (H : AHeap) (w : World) : Prop where
  blk : ∀ id b, H.blks.get id = some b → ∃ L, ρ id = some L ∧ BR σ ρ (H.lo ≤ id) L b w.heap[L.blk]?
  own : ∀ id b L, H.blks.get id = some b → ρ id = some L → H.lo ≤ id → base ≤ L.blk
  inj : ∀ i j bi bj Li Lj, H.blks.get i = some bi → H.blks.get j = some bj → ρ i = some Li → ρ j = some Lj → H.lo ≤ i → i ≠ j → Li.blk ≠ Lj.blk
  base : base ≤ w.heap.size

def Free (ρ : Ren) (a b : Nat) : Prop := ∀ id, a ≤ id → id < b → ρ id = none
structure Ext (ρ ρ' : Ren) (a b : Nat) : Prop where
  le : Le ρ ρ'
  out : ∀ id, id < a ∨ b ≤ id → ρ' id = ρ id
theorem Ext.refl (ρ : Ren) (a b : Nat) : Ext ρ ρ a b := ⟨.refl _, fun _ _ => rfl⟩
theorem Ext.trans {r s t : Ren} {a b c : Nat} (h : Ext r s a b) (k : Ext s t b c) (hab : a ≤ b) (hbc : b ≤ c) : Ext r t a c :=
  ⟨h.le.trans k.le, fun id hid => (k.out id (by omega)).trans (h.out id (by omega))⟩
theorem Ext.free {r s : Ren} {a b c : Nat} (h : Ext r s a b) (hf : Free r a c) (hab : a ≤ b) : Free s b c :=
  fun id h1 h2 => (h.out id (by omega)).trans (hf id (by omega) h2)
theorem Free.left {r : Ren} {a b c : Nat} (hf : Free r a c) (h : b ≤ c) : Free r a b := fun id h1 h2 => hf id h1 (by omega)

/-- one block of the world is as said, all others are as they were -/
structure Upd (w : World) (B : Nat) (o : Obj) (w' : World) : Prop where
  os : w'.os = w.os
  tape : w'.tape = w.tape
  output : w'.output = w.output
  size : w.heap.size ≤ w'.heap.size
  at_ : w'.heap[B]? = some o
  other : ∀ k, k ≠ B → w'.heap[k]? = w.heap[k]?
theorem Upd.below {w w' : World} {B base : Nat} {o : Obj} (h : Upd w B o w') (hb : base ≤ B) : Below base w w' :=
  ⟨h.os, h.tape, h.output, h.size, fun k hk => h.other k (by omega)⟩
theorem lt_of_get {w : World} {k : Nat} {o : Obj} (h : w.heap[k]? = some o) : k < w.heap.size := (Array.getElem?_eq_some_iff.1 h).1
theorem BR.some {σ : Nat → Value} {ρ : Ren} {own : Prop} {L : Loc} {b : ABlk} {o : Option Obj} (h : BR σ ρ own L b o) : ∃ x, o = some x := by
  cases b with
  | cells elem c n => obtain ⟨cc, fr, h1, _⟩ := h; exact ⟨_, h1⟩
  | map es clock => obtain ⟨es', h1, _⟩ := h; exact ⟨_, h1⟩
  | loop st pd nt T ps as bo d => obtain ⟨fn, tm, D, _, h2, _⟩ := h; exact ⟨_, h2⟩
  | deferred b => exact ⟨_, h⟩
  | iter m since seen st => obtain ⟨_, M, _, h2⟩ := h; exact ⟨_, h2⟩

theorem WR.log {σ : Nat → Value} {ρ : Ren} {base : Nat} {H K : AHeap} {w : World} (h : WR σ ρ base H w) (hb : K.blks = H.blks) (hl : K.lo = H.lo) : WR σ ρ base K w := by
  obtain ⟨a, b, c, d⟩ := h
  refine ⟨?_, ?_, ?_, d⟩
  · rw [hb, hl]; exact a
  · rw [hb, hl]; exact b
  · rw [hb, hl]; exact c
/-- a block is written -/
theorem WR.put {σ : Nat → Value} {ρ : Ren} {base : Nat} {H K : AHeap} {w w' : World} {id : Nat} {b0 b : ABlk} {L : Loc} {o : Obj} (h : WR σ ρ base H w)
    (h0 : H.blks.get id = some b0) (hL : ρ id = some L) (hlo : H.lo ≤ id) (hu : Upd w L.blk o w') (hb : BR σ ρ (H.lo ≤ id) L b (some o))
    (hk : ∀ j, K.blks.get j = if id = j then some b else H.blks.get j) (hkl : K.lo = H.lo) : WR σ ρ base K w' ∧ Below base w w' := by
  refine ⟨⟨?_, ?_, ?_, Nat.le_trans h.base hu.size⟩, hu.below (h.own _ _ _ h0 hL hlo)⟩
  · intro j bj hj
    rw [hk] at hj
    rw [hkl]
    by_cases hij : id = j
    · subst hij; rw [if_pos rfl] at hj; cases hj
      exact ⟨L, hL, by rw [hu.at_]; exact hb⟩
    · rw [if_neg hij] at hj
      obtain ⟨Lj, h1, h2⟩ := h.blk j bj hj
      refine ⟨Lj, h1, ?_⟩
      rw [hu.other _ (h.inj id j _ _ _ _ h0 hj hL h1 hlo hij).symm]; exact h2
  · intro j bj Lj hj hLj hl
    rw [hk] at hj
    rw [hkl] at hl
    by_cases hij : id = j
    · subst hij; exact h.own _ _ _ h0 hLj hl
    · rw [if_neg hij] at hj; exact h.own _ _ _ hj hLj hl
  · intro i j bi bj Li Lj hi hj hLi hLj hl hne
    rw [hk] at hi hj
    rw [hkl] at hl
    have hi' : ∃ b, H.blks.get i = Option.some b := by by_cases e : id = i; exact ⟨_, e ▸ h0⟩; exact ⟨_, by rw [if_neg e] at hi; exact hi⟩
    have hj' : ∃ b, H.blks.get j = Option.some b := by by_cases e : id = j; exact ⟨_, e ▸ h0⟩; exact ⟨_, by rw [if_neg e] at hj; exact hj⟩
    obtain ⟨b1, e1⟩ := hi'
    obtain ⟨b2, e2⟩ := hj'
    exact h.inj i j _ _ _ _ e1 e2 hLi hLj hl hne
/-- a block is given up -/
theorem WR.kill {σ : Nat → Value} {ρ : Ren} {base : Nat} {H K : AHeap} {w : World} {id : Nat} (h : WR σ ρ base H w)
    (hk : ∀ j, K.blks.get j = if id = j then none else H.blks.get j) (hkl : K.lo = H.lo) : WR σ ρ base K w := by
  have key : ∀ j b, K.blks.get j = some b → H.blks.get j = some b ∧ id ≠ j := by
    intro j b hj
    rw [hk] at hj
    by_cases e : id = j
    · rw [if_pos e] at hj; cases hj
    · rw [if_neg e] at hj; exact ⟨hj, e⟩
  refine ⟨fun j b hj => ?_, fun j b L hj hL hl => ?_, fun i j bi bj Li Lj hi hj hLi hLj hl hne => ?_, h.base⟩
  · rw [hkl]; exact h.blk j b (key j b hj).1
  · rw [hkl] at hl; exact h.own j b L (key j b hj).1 hL hl
  · rw [hkl] at hl; exact h.inj i j _ _ _ _ (key i bi hi).1 (key j bj hj).1 hLi hLj hl hne
/-- a new number for a block of concrete memory that no number stands for -/
theorem WR.new {σ : Nat → Value} {ρ : Ren} {base : Nat} {H K : AHeap} {w w' : World} {b : ABlk} {L : Loc} {o : Obj} (h : WR σ ρ base H w)
    (hf : ρ H.next = none) (hdead : ∀ j bj Lj, H.blks.get j = some bj → ρ j = some Lj → Lj.blk ≠ L.blk) (hbase : base ≤ L.blk) (hu : Upd w L.blk o w')
    (hb : ∀ ρ', Le ρ ρ' → ρ' H.next = some L → BR σ ρ' True L b (some o))
    (hk : ∀ j, K.blks.get j = if H.next = j then some b else H.blks.get j) (hkl : K.lo = H.lo) (hkn : K.next = H.next + 1) :
    ∃ ρ', Ext ρ ρ' H.next K.next ∧ ρ' H.next = some L ∧ WR σ ρ' base K w' ∧ Below base w w' := by
  let ρ' : Ren := fun i => if i = H.next then some L else ρ i
  have hle : Le ρ ρ' := by
    intro i Li hi
    show (if i = H.next then _ else _) = _
    by_cases e : i = H.next
    · subst e; rw [hf] at hi; cases hi
    · rw [if_neg e]; exact hi
  have hnew : ρ' H.next = some L := by show (if _ then _ else _) = _; rw [if_pos rfl]
  have hold : ∀ i, i ≠ H.next → ρ' i = ρ i := fun i hi => by show (if _ then _ else _) = _; rw [if_neg hi]
  have hlive : ∀ j bj, H.blks.get j = some bj → j ≠ H.next := by
    intro j bj hj e
    obtain ⟨L', h1, _⟩ := h.blk j bj hj
    rw [e, hf] at h1; cases h1
  refine ⟨ρ', ⟨hle, fun id hid => hold id (by omega)⟩, hnew, ⟨?_, ?_, ?_, Nat.le_trans h.base hu.size⟩, hu.below hbase⟩
  · intro j bj hj
    rw [hk] at hj
    rw [hkl]
    by_cases e : H.next = j
    · subst e; rw [if_pos rfl] at hj; cases hj
      refine ⟨L, hnew, ?_⟩
      rw [hu.at_]
      have := hb ρ' hle hnew
      revert this
      cases b with
      | cells elem c n => rintro ⟨cc, fr, h1, h2, h3⟩; exact ⟨cc, fr, h1, fun _ => h2 trivial, h3⟩
      | map es clock => exact id
      | loop st pd nt T ps as bo d => exact id
      | deferred b => exact id
      | iter m since seen st => exact id
    · rw [if_neg e] at hj
      obtain ⟨Lj, h1, h2⟩ := h.blk j bj hj
      refine ⟨Lj, hle _ _ h1, ?_⟩
      rw [hu.other _ (hdead j bj Lj hj h1)]
      exact h2.mono hle
  · intro j bj Lj hj hLj hl
    rw [hk] at hj
    rw [hkl] at hl
    by_cases e : H.next = j
    · subst e; rw [hnew] at hLj; cases hLj; exact hbase
    · rw [if_neg e] at hj; rw [hold j (Ne.symm e)] at hLj; exact h.own j bj Lj hj hLj hl
  · intro i j bi bj Li Lj hi hj hLi hLj hl hne
    rw [hk] at hi hj
    rw [hkl] at hl
    by_cases ei : H.next = i
    · subst ei
      rw [hnew] at hLi; cases hLi
      rw [if_neg hne] at hj
      rw [hold j (Ne.symm hne)] at hLj
      exact (hdead j bj Lj hj hLj).symm
    · rw [if_neg ei] at hi
      rw [hold i (Ne.symm ei)] at hLi
      by_cases ej : H.next = j
      · subst ej
        rw [hnew] at hLj; cases hLj
        exact hdead i bi Li hi hLi
      · rw [if_neg ej] at hj
        rw [hold j (Ne.symm ej)] at hLj
        exact h.inj i j _ _ _ _ hi hj hLi hLj hl hne
end Go.AM
