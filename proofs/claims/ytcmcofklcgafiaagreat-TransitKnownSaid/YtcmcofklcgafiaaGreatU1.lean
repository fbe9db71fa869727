/- Part U1 of the proof: see the last part. -/
import Derived.Test.YtcmcofklcgafiaaGreatA1
namespace Go.AM
open Go

/-! ### heaps as functions; a block that is shared (true) is never written again -/
inductive Blk where
  | cells (elem : TypeId) (l : List AVal)
  | map (es : List AEnt) (clock : Nat)
  | loop (st : LoopState) (pending : Option Code) (nt : Nat) (keep : List (Nat × AVal)) (params : List Tmp) (assign body : Code) (d : Nat)
  | deferred (b : Bool)
  | glob (g : Nat) (v : AVal)
  | one (v : AVal)
  | iter (m : Option Nat) (since : Nat) (seen : List Nat) (stepped : Nat)
abbrev Heap := Nat → Option (Bool × Blk)
def hset (s : Heap) (b : Nat) (e : Bool × Blk) : Heap := fun i => if i = b then some e else s i
def hdel (s : Heap) (b : Nat) : Heap := fun i => if i = b then none else s i
def add (s t : Heap) : Heap := fun i => match s i with | some e => some e | none => t i
def TR (T : Tmps) (env : Nat → AVal) : Prop := ∀ i, tget T i = env i
def BRl : Blk → ABlk → Prop
  | .cells e l, .cells e' c n => e = e' ∧ n = l.length ∧ allOne l = true ∧ ∀ i, i < l.length → c.get i = l[i]?
  | .map es k, .map es' k' => es = es' ∧ k = k'
  | .loop st pd nt env ps as bo d, .loop st' pd' nt' T ps' as' bo' d' => st = st' ∧ pd = pd' ∧ nt = nt' ∧ (∀ p ∈ env, tget T p.1 = p.2) ∧ ps = ps' ∧ as = as' ∧ bo = bo' ∧ d = d'
  | .deferred b, .deferred b' => b = b'
  | .glob g v, .glob g' v' => g = g' ∧ v = v'
  | .one v, .one v' => v = v'
  | .iter m a b c, .iter m' a' b' c' => m = m' ∧ a = a' ∧ b = b' ∧ c = c'
  | _, _ => False
structure HRel (s : Heap) (H : AHeap) : Prop where
  lo : H.lo ≤ H.next
  wf : ∀ i, H.blks.get i ≠ none → i < H.next
  at_ : ∀ i t b, s i = some (t, b) → (t = false → H.lo ≤ i) ∧ ∃ ab, H.blks.get i = some ab ∧ BRl b ab
theorem HRel.lt {s : Heap} {H : AHeap} (h : HRel s H) {i : Nat} (hi : s i ≠ none) : i < H.next := by
  cases e : s i with
  | none => exact absurd e hi
  | some x => obtain ⟨t, b⟩ := x; obtain ⟨_, ab, h1, _⟩ := h.at_ i t b e; exact h.wf i (by rw [h1]; simp)
theorem HRel.fresh {s : Heap} {H : AHeap} (h : HRel s H) : s H.next = none := by
  cases e : s H.next with
  | none => rfl
  | some x => exact absurd (h.lt (i := H.next) (by rw [e]; simp)) (Nat.lt_irrefl _)
def Sub (s t : Heap) : Prop := ∀ i e, s i = some e → t i = some e
theorem HRel.sub {s t : Heap} {H : AHeap} (h : HRel t H) (hs : Sub s t) : HRel s H := ⟨h.lo, h.wf, fun i t' b hi => h.at_ i t' b (hs i _ hi)⟩
def Pers (s s' : Heap) : Prop := ∀ i b, s i = some (true, b) → s' i = some (true, b)
theorem Pers.refl (s : Heap) : Pers s s := fun _ _ h => h
theorem Pers.trans {a b c : Heap} (h : Pers a b) (k : Pers b c) : Pers a c := fun i x hx => k i x (h i x hx)

variable {α β : Type}
/-- whatever memory fits, with enough fuel the work ends, and what it leaves is as said -/
def wpF (m : Nat → M α) (Q : α → Heap → Prop) (s : Heap) : Prop :=
  ∀ H, HRel s H → ∃ n a H', m n H = some (a, H') ∧ ∃ s', HRel s' H' ∧ Pers s s' ∧ Q a s'
def Mono (m : Nat → M α) : Prop := ∀ n n' H r, n ≤ n' → m n H = some r → m n' H = some r
theorem Mono.const (m : M α) : Mono fun _ => m := fun _ _ _ _ _ h => h
theorem wpF.mono {m : Nat → M α} {Q Q' : α → Heap → Prop} {s : Heap} (h : wpF m Q s) (hQ : ∀ a s', Q a s' → Q' a s') : wpF m Q' s := fun H hH =>
  let ⟨n, a, H', h1, s', h2, h3, h4⟩ := h H hH
  ⟨n, a, H', h1, s', h2, h3, hQ a s' h4⟩
theorem wpF.bd {m : Nat → M α} {f : Nat → α → M β} {Q : β → Heap → Prop} {s : Heap} (hm : Mono m) (hf : ∀ a, Mono fun n => f n a)
    (h : wpF m (fun a s' => wpF (fun n => f n a) Q s') s) : wpF (fun n => bd (m n) (f n)) Q s := by
  intro H hH
  obtain ⟨n1, a, H1, h1, s1, h2, h3, h4⟩ := h H hH
  obtain ⟨n2, b, H2, h5, s2, h6, h7, h8⟩ := h4 H1 h2
  refine ⟨max n1 n2, b, H2, ?_, s2, h6, h3.trans h7, h8⟩
  show AM.bd _ _ _ = _
  unfold AM.bd
  rw [hm n1 (max n1 n2) H _ (Nat.le_max_left _ _) h1]
  exact hf a n2 (max n1 n2) H1 _ (Nat.le_max_right _ _) h5
theorem wpF.ret {a : α} {Q : α → Heap → Prop} {s : Heap} (h : Q a s) : wpF (fun _ => ret a) Q s := fun H hH => ⟨0, a, H, rfl, s, hH, .refl _, h⟩
theorem wpF.lift {o : Option α} {a : α} {Q : α → Heap → Prop} {s : Heap} (ho : o = some a) (h : Q a s) : wpF (fun _ => lift o) Q s := fun H hH => ⟨0, a, H, by rw [ho]; rfl, s, hH, .refl _, h⟩
theorem wpF.cond {b : Bool} {m m' : Nat → M α} {Q : α → Heap → Prop} {s : Heap} (hb : b = true) (h : wpF m Q s) : wpF (fun n => _root_.cond b (m n) (m' n)) Q s := by rw [hb]; exact h
theorem wpF.congr {m m' : Nat → M α} {Q : α → Heap → Prop} {s : Heap} (h : wpF m Q s) (e : ∀ n, m n = m' n) : wpF m' Q s := by
  rw [show m' = m from funext fun n => (e n).symm]; exact h
theorem add_none {s r : Heap} {i : Nat} (h : s i = none) : add s r i = r i := by unfold add; rw [h]
theorem add_some {s r : Heap} {i : Nat} {e : Bool × Blk} (h : s i = some e) : add s r i = some e := by unfold add; rw [h]

/-! ### primitive steps -/
theorem wpF.rd {b : Nat} {t : Bool} {x : Blk} {Q : ABlk → Heap → Prop} {s : Heap} (hb : s b = some (t, x)) (h : ∀ ab, BRl x ab → Q ab s) : wpF (fun _ => rd b) Q s := by
  intro H hH
  obtain ⟨_, ab, h1, h2⟩ := hH.at_ b t x hb
  refine ⟨0, ab, { H with log := (b, false) :: H.log }, by simp [AM.rd, h1], s, ⟨hH.lo, hH.wf, hH.at_⟩, .refl _, h ab h2⟩
theorem wpF.nw {ab : ABlk} {x : Blk} {Q : Nat → Heap → Prop} {s : Heap} (hx : BRl x ab) (h : ∀ b, s b = none → Q b (hset s b (false, x))) : wpF (fun _ => nw ab) Q s := by
  intro H hH
  have hlo : Nat.ble H.lo H.next = true := Nat.ble_eq_true_of_le hH.lo
  refine ⟨0, H.next, { H with blks := H.blks.put H.next (some ab), next := H.next + 1, log := (H.next, true) :: H.log }, by simp [AM.nw, frcN_eq, hlo], _, ?_, ?_, h _ hH.fresh⟩
  · refine ⟨Nat.le_succ_of_le hH.lo, fun i hi => ?_, fun i t b hi => ?_⟩
    · simp only [Tr.get_put] at hi
      by_cases e : H.next = i
      · subst e; exact Nat.lt_succ_self _
      · rw [if_neg e] at hi; exact Nat.lt_succ_of_lt (hH.wf i hi)
    · unfold hset at hi
      by_cases e : i = H.next
      · subst e
        rw [if_pos rfl] at hi
        cases hi
        exact ⟨fun _ => hH.lo, ab, by simp [Tr.get_put], hx⟩
      · rw [if_neg e] at hi
        obtain ⟨k1, ab', k2, k3⟩ := hH.at_ i t b hi
        exact ⟨k1, ab', by simp only [Tr.get_put]; rw [if_neg (Ne.symm e)]; exact k2, k3⟩
  · intro i b hi
    unfold hset
    have : i ≠ H.next := fun e => by rw [e, hH.fresh] at hi; cases hi
    rw [if_neg this]; exact hi
theorem wpF.wr {b : Nat} {x0 x : Blk} {ab : ABlk} {Q : Unit → Heap → Prop} {s : Heap} (hb : s b = some (false, x0)) (hx : BRl x ab) (h : Q () (hset s b (false, x))) : wpF (fun _ => wr b ab) Q s := by
  intro H hH
  obtain ⟨h0, ab0, h1, h2⟩ := hH.at_ b false x0 hb
  have hlo : Nat.ble H.lo b = true := Nat.ble_eq_true_of_le (h0 rfl)
  refine ⟨0, (), { H with blks := H.blks.put b (some ab), log := (b, true) :: H.log }, by simp [AM.wr, hlo, h1], _, ?_, ?_, h⟩
  · refine ⟨hH.lo, fun i hi => ?_, fun i t y hi => ?_⟩
    · simp only [Tr.get_put] at hi
      by_cases e : b = i
      · subst e; exact hH.wf b (by rw [h1]; simp)
      · rw [if_neg e] at hi; exact hH.wf i hi
    · unfold hset at hi
      by_cases e : i = b
      · subst e
        rw [if_pos rfl] at hi
        cases hi
        exact ⟨h0, ab, by simp [Tr.get_put], hx⟩
      · rw [if_neg e] at hi
        obtain ⟨k1, ab', k2, k3⟩ := hH.at_ i t y hi
        exact ⟨k1, ab', by simp only [Tr.get_put]; rw [if_neg (Ne.symm e)]; exact k2, k3⟩
  · intro i y hi
    unfold hset
    have : i ≠ b := fun e => by rw [e, hb] at hi; cases hi
    rw [if_neg this]; exact hi
theorem wpF.kill {b : Nat} {x0 : Blk} {Q : Unit → Heap → Prop} {s : Heap} (hb : s b = some (false, x0)) (h : Q () (hdel s b)) : wpF (fun _ => kill b) Q s := by
  intro H hH
  obtain ⟨h0, ab0, h1, h2⟩ := hH.at_ b false x0 hb
  have hlo : Nat.ble H.lo b = true := Nat.ble_eq_true_of_le (h0 rfl)
  refine ⟨0, (), { H with blks := H.blks.put b none, log := (b, true) :: H.log }, by simp [AM.kill, hlo, h1], _, ?_, ?_, h⟩
  · refine ⟨hH.lo, fun i hi => ?_, fun i t y hi => ?_⟩
    · simp only [Tr.get_put] at hi
      by_cases e : b = i
      · subst e; exact hH.wf b (by rw [h1]; simp)
      · rw [if_neg e] at hi; exact hH.wf i hi
    · unfold hdel at hi
      by_cases e : i = b
      · rw [if_pos e] at hi; cases hi
      · rw [if_neg e] at hi
        obtain ⟨k1, ab', k2, k3⟩ := hH.at_ i t y hi
        exact ⟨k1, ab', by simp only [Tr.get_put]; rw [if_neg (Ne.symm e)]; exact k2, k3⟩
  · intro i y hi
    unfold hdel
    have : i ≠ b := fun e => by rw [e, hb] at hi; cases hi
    rw [if_neg this]; exact hi

/-! ### the frame -/
theorem Tr.keep {α : Type} (p : Nat → Prop) (t : Tr α) : ∀ a m : Nat, ∃ t' : Tr α, ∀ i, (p (a + m * i) → t'.get i = t.get i) ∧ (¬ p (a + m * i) → t'.get i = none) := by
  induction t with
  | nil => intro a m; exact ⟨.nil, fun i => ⟨fun _ => rfl, fun _ => Tr.get_nil i⟩⟩
  | node v l r ihl ihr =>
    intro a m
    obtain ⟨l', hl⟩ := ihl (a + m) (2 * m)
    obtain ⟨r', hr⟩ := ihr (a + 2 * m) (2 * m)
    have hv : ∃ v' : Option α, (p a → v' = v) ∧ (¬ p a → v' = none) := by
      by_cases h : p a
      · exact ⟨v, fun _ => rfl, fun k => absurd h k⟩
      · exact ⟨none, fun k => absurd k h, fun _ => rfl⟩
    obtain ⟨v', hv1, hv2⟩ := hv
    refine ⟨.node v' l' r', fun i => ?_⟩
    cases i with
    | zero => simp only [Nat.mul_zero, Nat.add_zero]; exact ⟨hv1, hv2⟩
    | succ j =>
      cases hb : Nat.beq (j % 2) 0 with
      | true =>
        have e : j % 2 = 0 := Nat.eq_of_beq_eq_true hb
        have e2 : a + m * (j + 1) = a + m + 2 * m * (j / 2) := by
          have : j = 2 * (j / 2) := by omega
          generalize j / 2 = q at *
          subst this
          rw [Nat.mul_add, Nat.mul_one, Nat.mul_comm 2 m, Nat.mul_assoc]; omega
        have := hl (j / 2)
        rw [← e2] at this
        simpa [Tr.get, hb] using this
      | false =>
        have e : j % 2 = 1 := by
          have : ¬ j % 2 = 0 := fun h => by rw [h] at hb; cases hb
          omega
        have e2 : a + m * (j + 1) = a + 2 * m + 2 * m * (j / 2) := by
          have : j = 2 * (j / 2) + 1 := by omega
          generalize j / 2 = q at *
          subst this
          rw [show 2 * q + 1 + 1 = 2 * (q + 1) by omega, ← Nat.mul_assoc, Nat.mul_comm m 2, Nat.mul_add, Nat.mul_one]; omega
        have := hr (j / 2)
        rw [← e2] at this
        simpa [Tr.get, hb] using this
theorem keep_blks (p : Nat → Prop) (H : AHeap) : ∃ H0 : AHeap, H0.next = H.next ∧ H0.lo = H.lo ∧ ∀ i, (p i → H0.blks.get i = H.blks.get i) ∧ (¬ p i → H0.blks.get i = none) := by
  obtain ⟨t', h⟩ := Tr.keep p H.blks 0 1
  refine ⟨{ H with blks := t' }, rfl, rfl, fun i => ?_⟩
  have := h i
  simpa using this
theorem wpF.framed {m : Nat → M α} {Q : α → Heap → Prop} {s : Heap} (hfr : ∀ n, Fr (m n)) (h : wpF m Q s) {H : AHeap} (hH : HRel s H) :
    ∃ n a H' s' es, m n H = some (a, H') ∧ HRel s' H' ∧ Pers s s' ∧ Q a s' ∧ Does es H H' ∧ (∀ i b, (i, b) ∈ es → s i ≠ none ∨ H.next ≤ i) ∧ ∀ i, s i = none → i < H.next → s' i = none ∧ H'.blks.get i = H.blks.get i := by
  obtain ⟨H0, hn, hl, hk⟩ := keep_blks (fun i => s i ≠ none) H
  have hH0 : HRel s H0 := by
    refine ⟨by rw [hn, hl]; exact hH.lo, fun i hi => ?_, fun i t b hi => ?_⟩
    · rw [hn]
      by_cases e : s i = none
      · exact absurd ((hk i).2 (fun k => k e)) hi
      · exact hH.lt e
    · rw [hl, (hk i).1 (by rw [hi]; simp)]; exact hH.at_ i t b hi
  obtain ⟨n, a, H0', h1, s', h2, h3, h4⟩ := h H0 hH0
  obtain ⟨es, d, k⟩ := hfr n H0 a H0' h1
  have known : ∀ i b, (i, b) ∈ es → s i ≠ none ∨ H.next ≤ i := by
    intro i b hi
    rcases d.touch i b hi with e | e
    · left; intro e2; exact e ((hk i).2 (fun q => q e2))
    · right; rw [← hn]; exact e.1
  have agree : ∀ i b, (i, b) ∈ es → H.blks.get i = H0.blks.get i := by
    intro i b hi
    rcases known i b hi with e | e
    · rw [(hk i).1 e]
    · have e1 : H.blks.get i = none := by
        cases q : H.blks.get i with
        | none => rfl
        | some x => exact absurd (hH.wf i (by rw [q]; simp)) (by omega)
      have e2 : s i = none := by
        cases q : s i with
        | none => rfl
        | some x => exact absurd (hH.lt (i := i) (by rw [q]; simp)) (by omega)
      rw [e1, (hk i).2 (fun q => q e2)]
  obtain ⟨H', h5, d', n', g'⟩ := k H hn.symm (Nat.le_of_eq hl.symm) agree
  have out : ∀ i, s i = none → i < H.next → s' i = none ∧ H'.blks.get i = H.blks.get i := by
    intro i hi hlt
    refine ⟨?_, d'.same i fun hm => ?_⟩
    · cases q : s' i with
      | none => rfl
      | some x =>
        obtain ⟨t, b⟩ := x
        obtain ⟨_, ab, q1, _⟩ := h2.at_ i t b q
        rcases d.gone i (by rw [q1]; simp) with e | e
        · exact absurd ((hk i).2 (fun q => q hi)) e
        · omega
    · rcases known i _ hm with e | e
      · exact e hi
      · omega
  refine ⟨n, a, H', s', es, h5, ⟨?_, fun i hi => ?_, fun i t b hi => ?_⟩, h3, h4, d', known, out⟩
  · rw [d'.lo]; exact Nat.le_trans hH.lo d'.next
  · rcases d'.gone i hi with e | e
    · exact Nat.lt_of_lt_of_le (hH.wf i e) d'.next
    · exact e.2
  · obtain ⟨q1, ab, q2, q3⟩ := h2.at_ i t b hi
    refine ⟨fun ht => ?_, ab, ?_, q3⟩
    · rw [d'.lo, ← hl, ← d.lo]; exact q1 ht
    · by_cases hm : ∃ c, (i, c) ∈ es
      · obtain ⟨c, hc⟩ := hm
        rw [g' i c hc]; exact q2
      · have e1 : H0'.blks.get i = H0.blks.get i := d.same i fun hc => hm ⟨_, hc⟩
        have e2 : s i ≠ none := by
          intro e
          rw [e1, (hk i).2 (fun q => q e)] at q2; cases q2
        rw [d'.same i fun hc => hm ⟨_, hc⟩, ← (hk i).1 e2, ← e1]; exact q2
theorem wpF.frame {m : Nat → M α} {Q : α → Heap → Prop} {s r : Heap} (hfr : ∀ n, Fr (m n)) (h : wpF m Q s) (hd : ∀ i, r i ≠ none → s i = none) :
    wpF m (fun a S => ∃ s', S = add s' r ∧ (∀ i, r i ≠ none → s' i = none) ∧ Q a s') (add s r) := by
  intro H hH
  have hs : Sub s (add s r) := fun i e hi => by unfold add; rw [hi]
  have hrr : ∀ i t b, r i = some (t, b) → add s r i = some (t, b) := fun i t b hi => by unfold add; rw [hd i (by rw [hi]; simp)]; exact hi
  obtain ⟨n, a, H', s', es, h1, h2, h3, h4, d, _, h6⟩ := wpF.framed hfr h (hH.sub hs)
  have off : ∀ i, r i ≠ none → s' i = none ∧ H'.blks.get i = H.blks.get i := by
    intro i hi
    refine h6 i (hd i hi) ?_
    cases e : r i with
    | none => exact absurd e hi
    | some x => obtain ⟨t, b⟩ := x; exact hH.lt (by rw [hrr i t b e]; simp)
  refine ⟨n, a, H', h1, add s' r, ⟨h2.lo, h2.wf, fun i t b hi => ?_⟩, fun i b hi => ?_, s', rfl, fun i hi => (off i hi).1, h4⟩
  · cases e : s' i with
    | some x => rw [add_some e] at hi; cases hi; exact h2.at_ i t b e
    | none =>
      rw [add_none e] at hi
      have hne : r i ≠ none := by rw [hi]; simp
      rw [(off i hne).2, d.lo]
      exact hH.at_ i t b (hrr i t b hi)
  · cases e : s i with
    | some x => rw [add_some e] at hi; cases hi; rw [add_some (h3 i b e)]
    | none =>
      rw [add_none e] at hi
      have hne : r i ≠ none := by rw [hi]; simp
      rw [add_none (off i hne).1]; exact hi
end Go.AM
namespace Go.AM
open Go

/-! ### small words of a calculus: what they ask, with the types looked up already -/
abbrev Env := Nat → AVal
def upd (e : Env) (i : Nat) (v : AVal) : Env := fun j => cond (Nat.beq j i) v (e j)
def envOf (l : List AVal) : Env := fun i => l.getD i .undef
def optK {α : Type} (o : Option α) (K : α → Prop) : Prop := match o with | some a => K a | none => False
def boolK (v : AVal) (p q : Prop) : Prop := match v with | .bool true => p | .bool false => q | _ => False
def pickV (c a b : AVal) : Option AVal := match c with | .bool true => some a | .bool false => some b | _ => none
def okX : Operand → Bool
  | .tmp _ => true
  | .const v => (ofV 2 v).isSome
  | .func _ => true
  | .global _ => false
def evD (env : Env) : Operand → AVal
  | .tmp t => env t
  | .const v => match ofV 2 v with | some a => a | none => .undef
  | .func f => .fn (.func f) [] []
  | .global _ => .undef
def oev (env : Env) : Option Operand → Option AVal
  | none => none
  | some x => some (evD env x)
def rd1 (s : Heap) : AVal → Option AVal
  | .ptr b o => match s b with
    | some (_, .cells _ l) => l[o]?
    | _ => none
  | _ => none
def takeAt (l : List AVal) (o n : Nat) : Option (List AVal) := cond (Nat.ble (o + n) l.length) (some ((l.drop o).take n)) none
def rdN (s : Heap) (n : Nat) : AVal → Option (List AVal)
  | .ptr b o => match s b with
    | some (_, .cells _ l) => takeAt l o n
    | _ => none
  | _ => none
def wr1 (s : Heap) (p v : AVal) : Option Heap := match p with
  | .ptr b o => match s b with
    | some (false, .cells e l) => cond (Nat.blt o l.length && v.one) (some (hset s b (false, .cells e (l.set o v)))) none
    | _ => none
  | _ => none
def wrN (s : Heap) (p : AVal) (vs : List AVal) : Option Heap := match p with
  | .ptr b o => match s b with
    | some (false, .cells e l) => cond (Nat.ble (o + vs.length) l.length && allOne vs) (some (hset s b (false, .cells e (setRange l o vs)))) none
    | _ => none
  | _ => none
def wrAgg (s : Heap) (n : Nat) (p v : AVal) : Option Heap := cond (Nat.beq v.cells.length n) (wrN s p v.cells) none
def newK (elem : TypeId) (cs : List AVal) (K : Nat → Heap → Prop) (s : Heap) : Prop := ∀ b, s b = none → K b (hset s b (false, .cells elem cs))
def boxK (elem : TypeId) (v : AVal) (K : AVal → Heap → Prop) (s : Heap) : Prop := allOne v.cells = true ∧ newK elem v.cells (fun b => K (.ptr b 0)) s
/-- parts laid over cells: where, how many, what -/
def fillR (cells : List AVal) : List (Nat × Nat × AVal) → Option (List AVal)
  | [] => some cells
  | (off, size, v) :: rest => cond (Nat.beq v.cells.length size && Nat.ble (off + v.cells.length) cells.length) (fillR (setRange cells off v.cells) rest) none
def places (place : Nat → Option (Nat × Nat)) : List (Nat × Operand) → Option (List (Nat × Nat × Operand))
  | [] => some []
  | (i, x) :: r => match place i, places place r with
    | some (off, size), some l => some ((off, size, x) :: l)
    | _, _ => none
def evPl (env : Env) : List (Nat × Nat × Operand) → List (Nat × Nat × AVal)
  | [] => []
  | (o, n, x) :: r => (o, n, evD env x) :: evPl env r
def addOff (k : Nat) : AVal → Option AVal
  | .ptr b o => some (.ptr b (o + k))
  | _ => none
def partD (agg : Option Nat) (off : Nat) (cs : List AVal) : Option AVal := match agg with
  | some n => (takeAt cs off n).map .agg
  | none => cs[off]?
def fieldD (agg : Option Nat) (off : Nat) : AVal → Option AVal
  | .agg cs => partD agg off cs
  | _ => none
def iaddrA (len n : Nat) (x i : AVal) : Option AVal := match x, nat? i with
  | .ptr b o, some i => cond (Nat.blt i len) (some (.ptr b (o + i * n))) none
  | _, _ => none
def iaddrS (n : Nat) (x i : AVal) : Option AVal := match x, nat? i with
  | .slc b o len _ es, some i => cond (Nat.blt i len && Nat.beq n es) (some (.ptr b (o + i * n))) none
  | _, _ => none
def indexD (len n : Nat) (agg : Option Nat) (x i : AVal) : Option AVal := match x, nat? i with
  | .agg cs, some i => cond (Nat.blt i len) (partD agg (i * n) cs) none
  | _, _ => none
def indexStr (x i : AVal) : Option AVal := match x, nat? i with
  | .str s, some i => match s[i]? with
    | some b => some (.int .u8 b.toNat)
    | none => none
  | _, _ => none
def sliceS (es : Nat) (x : AVal) (lo hi mx : Option AVal) : Option AVal := match x with
  | .slc b o len cap es' => match bound mx (cap.getD len) (cap.getD len) with
    | some m => match bound hi len m with
      | some h => match bound lo 0 h with
        | some l => cond ((mx.isNone || hi.isSome) && Nat.beq es' es)
            (match cap, mx with
            | none, none => some (.slc b (o + l * es') (h - l) none es')
            | _, _ => some (.slc b (o + l * es') (h - l) (some (m - l)) es')) none
        | none => none
      | none => none
    | none => none
  | .nilslc => match bound lo 0 0, bound hi 0 0, bound mx 0 0 with
    | some _, some _, some _ => cond (mx.isNone || hi.isSome) (some .nilslc) none
    | _, _, _ => none
  | _ => none
def sliceP (s : Heap) (n es : Nat) (x : AVal) (lo hi mx : Option AVal) : Option AVal := match x with
  | .ptr b o => match s b with
    | some (_, .cells _ l) => cond (Nat.ble (o + n * es) l.length) (match bound mx n n with
      | some m => match bound hi n m with
        | some h => match bound lo 0 h with
          | some l => cond (mx.isNone || hi.isSome) (some (.slc b (o + l * es) (h - l) (some (m - l)) es)) none
          | none => none
        | none => none
      | none => none) none
    | _ => none
  | _ => none
def arithV (op : BinOp) (a b : AVal) : Option AVal := match a, b with
  | .int k m, .int k' n => cond (intKindEq k k') (arith op k m n) none
  | _, _ => none
def shiftV (op : BinOp) (a b : AVal) : Option AVal := match a, b with
  | .int k m, .int _ n => shiftA op k m n
  | _, _ => none
def eqV (kd : Nat) (cst : Bool) (a b : AVal) : Option Bool := match kd, a, b with
  | 0, .int k m, .int k' n => cond (intKindEq k k') (some (eqI m n)) none
  | 1, .bool a, .bool b => some (a == b)
  | 2, .str a, .str b => some (a == b)
  | 3, .nilptr, .nilptr => some true
  | 3, .nilptr, .ptr _ _ => some false
  | 3, .ptr _ _, .nilptr => some false
  | 4, .nilIface, .nilIface => cond cst (some true) none
  | 4, .nilIface, .ifc _ _ => some false
  | 4, .ifc _ _, .nilIface => some false
  | 5, .nilslc, .nilslc => some true
  | 5, .nilslc, .slc _ _ _ _ _ => some false
  | 5, .slc _ _ _ _ _, .nilslc => some false
  | 6, .nilmap, .nilmap => some true
  | 6, .nilmap, .map _ => some false
  | 6, .map _, .nilmap => some false
  | 7, .nilFunc, .nilFunc => some true
  | 7, .nilFunc, .fn _ _ _ => some false
  | 7, .fn _ _ _, .nilFunc => some false
  | _, _, _ => none
def negB (neg : Bool) (r : Option Bool) : Option AVal := match r with
  | some b => some (.bool (cond neg (!b) b))
  | none => none
def kindOf : TypeDesc → Option Nat
  | .int _ => some 0
  | .bool => some 1
  | .string => some 2
  | .pointer _ => some 3
  | .interface _ => some 4
  | .slice _ => some 5
  | .map _ _ => some 6
  | .func _ _ _ => some 7
  | _ => none
def isC : Operand → Bool
  | .const _ => true
  | _ => false
def convI (k : IntKind) : AVal → Option AVal
  | .int _ n => some (.int k (wrapK k n))
  | _ => none
def convS : AVal → Option AVal
  | .str s => some (.str s)
  | _ => none
def tassV (t : TypeId) (z : Option AVal) (ok : Bool) : AVal → Option AVal
  | .ifc t' v => cond (Nat.beq t' t) (some (cond ok (.tup [v, .bool true]) v)) (cond ok (match z with | some z => some (.tup [z, .bool false]) | none => none) none)
  | .nilIface => cond ok (match z with | some z => some (.tup [z, .bool false]) | none => none) none
  | _ => none
def rdSl (s : Heap) (es : Nat) : AVal → Option (List AVal)
  | .slc b o len _ es' => cond (Nat.beq es es') (cond (Nat.beq (len * es) 0) (some []) (match s b with
    | some (_, .cells _ l) => takeAt l o (len * es)
    | _ => none)) none
  | .nilslc => some []
  | _ => none
/-- a new array of n elements -/
def growK (elem : TypeId) (es n : Nat) (cs : List AVal) (K : AVal → Heap → Prop) (s : Heap) : Prop :=
  n ≤ 16777216 ∧ newK elem cs (fun b => K (.slc b 0 n none es)) s
/-- the block of a slice whose capacity isn't known is given up -/
def dropK (elem : TypeId) (b : Nat) (K : Heap → Prop) (s : Heap) : Prop := match s b with
  | some (false, .cells e _) => e = elem ∧ K (hdel s b)
  | _ => False
def appK (elem : TypeId) (es : Nat) (x y : AVal) (K : AVal → Heap → Prop) (s : Heap) : Prop :=
  optK (rdSl s es y) fun new => optK (lenOfA y) fun n => match x with
    | .nilslc => match n with
      | 0 => K .nilslc s
      | _ + 1 => growK elem es n new K s
    | .slc b o len cap es' => es = es' ∧ (match n with
      | 0 => (match cap with | some c => len ≤ c | none => True) ∧ K x s
      | _ + 1 => match cap with
        | some c => cond (Nat.ble (len + n) c) (optK (wrN s (.ptr b (o + len * es)) new) fun s => K (.slc b o (len + n) cap es) s)
            (optK (rdSl s es x) fun old => growK elem es (len + n) (old ++ new) K s)
        | none => optK (rdSl s es x) fun old => dropK elem b (fun s => growK elem es (len + n) (old ++ new) K s) s)
    | _ => False
def clearK (z : List AVal) (es : Nat) (x : AVal) (K : AVal → Heap → Prop) (s : Heap) : Prop := match x with
  | .nilslc => K .undef s
  | .slc b o n _ es' => es' = es ∧ (match n with
    | 0 => K .undef s
    | _ + 1 => optK (wrN s (.ptr b o) (repl n z)) fun s => K .undef s)
  | _ => False
/-- copy, of a slice that fits -/
def copyK (es : Nat) (d x : AVal) (K : AVal → Heap → Prop) (s : Heap) : Prop := optK (lenOfA x) fun m => match d with
  | .slc b o k _ es' => es' = es ∧ m ≤ k ∧ (match m with
    | 0 => False
    | _ + 1 => optK (rdSl s es x) fun cs => optK (wrN s (.ptr b o) cs) fun s => K (.int .i64 m) s)
  | _ => False
def lenD (d : TypeDesc) (x : AVal) : Option Nat := match d with
  | .string => match x with | .str s => some s.size | _ => none
  | .array n _ => some n
  | .slice _ => lenOfA x
  | _ => none
/-! ### maps whose keys are numbers -/
def findI (k : AVal) : List AEnt → Nat → Option (Option (Nat × AVal))
  | [], _ => some none
  | e :: es, i => match keyEq (.int .i64) k e.key with
    | some true => some (some (i, e.val))
    | some false => findI k es (i + 1)
    | none => none
def intK (v : AVal) (p : Prop) : Prop := match v with
  | .int _ _ => p
  | _ => False
/-- what a map has at a key -/
def getM (s : Heap) (m k : AVal) : Option (Option AVal) := match k with
  | .int _ _ => match m with
    | .nilmap => some none
    | .map b => match s b with
      | some (_, .map es _) => match findI k es 0 with
        | some (some p) => some (some p.2)
        | some none => some none
        | none => none
      | _ => none
    | _ => none
  | _ => none
def retM (z : AVal) (ok : Bool) : Option AVal → AVal
  | some v => cond ok (.tup [v, .bool true]) v
  | none => cond ok (.tup [z, .bool false]) z
def putE (es : List AEnt) (c : Nat) (k v : AVal) : Option (List AEnt × Nat) := match findI k es 0 with
  | some (some p) => some (modE es p.1 fun e => { e with key := k, val := v }, c)
  | some none => some (es ++ [{ key := k, val := v, born := c }], c + 1)
  | none => none
def putM (s : Heap) (m k v : AVal) : Option Heap := match k with
  | .int _ _ => match m with
    | .map b => match s b with
      | some (false, .map es c) => match putE es c k v with
        | some p => some (hset s b (false, .map p.1 p.2))
        | none => none
      | _ => none
    | _ => none
  | _ => none
/-- maps whose keys are arrays or structs -/
def getG (P : Program) (kt : TypeId) (s : Heap) (m k : AVal) : Option (Option AVal) := match P.underlying kt with
  | some d => cond (aggD d && keyOkT P 10 kt k) (match m with
    | .nilmap => some none
    | .map b => match s b with
      | some (_, .map es _) => match findE P kt d k es 0 with
        | some (some p) => some (some p.2)
        | some none => some none
        | none => none
      | _ => none
    | _ => none) none
  | none => none
def putG (P : Program) (kt : TypeId) (s : Heap) (m k v : AVal) : Option Heap := match P.underlying kt with
  | some d => cond (aggD d && keyOkT P 10 kt k) (match m with
    | .map b => match s b with
      | some (false, .map es c) => match findE P kt d k es 0 with
        | some (some p) => some (hset s b (false, .map (modE es p.1 fun e => { e with key := k, val := v }) c))
        | some none => some (hset s b (false, .map (es ++ [{ key := k, val := v, born := c }]) (c + 1)))
        | none => none
      | _ => none
    | _ => none) none
  | none => none
def mapK (K : AVal → Heap → Prop) (s : Heap) : Prop := ∀ b, s b = none → K (.map b) (hset s b (false, .map [] 0))
/-- a range over a map begins -/
def iterK (x : AVal) (K : AVal → Heap → Prop) (s : Heap) : Prop := match x with
  | .nilmap => ∀ b, s b = none → K (.ptr b 0) (hset s b (false, .iter none 0 [] 0))
  | .map m => match s m with
    | some (_, .map _ c) => ∀ b, s b = none → K (.ptr b 0) (hset s b (false, .iter (some m) c [] c))
    | _ => False
  | _ => False
/-- the entry at which a range stands -/
def entD (s : Heap) (x : AVal) : Option AVal := match x with
  | .ptr r 0 => match s r with
    | some (_, .iter (some m) _ seen stepped) => match lastN seen with
      | some stamp => match s m with
        | some (_, .map es c) => cond (Nat.beq c stepped) (match findBorn stamp es with
          | some e => some (.tup [e.key, e.val])
          | none => none) none
        | _ => none
      | none => none
    | _ => none
  | _ => none
def lenM (s : Heap) : AVal → Option Nat
  | .nilmap => some 0
  | .map b => match s b with
    | some (_, .map es _) => some es.length
    | _ => none
  | _ => none

section
variable (P : Program) (X : Told)
/-! ### calls -/
def wpT (t : Task) (Q : Out → Heap → Prop) (s : Heap) : Prop := wpF (fun n => run P X n t) Q s
def wpCall (f : FuncId) (args : List AVal) (K : AVal → Heap → Prop) (s : Heap) : Prop := wpT P X (.call f args) (fun o s' => ∃ v, o = .val v ∧ K v s') s
def wpRound (l : Nat) (args : List AVal) (K : AVal → Heap → Prop) (s : Heap) : Prop := wpT P X (.round l args) (fun o s' => ∃ v, o = .val v ∧ K v s') s
def goK (k : FuncId) (args : List AVal) (K : AVal → Heap → Prop) (s : Heap) : Prop := isFn P k = true ∧ wpCall P X k args K s
def methK (x : AVal) (name : String) (args : List AVal) (K : AVal → Heap → Prop) (s : Heap) : Prop := match x with
  | .ifc t v => wpF (fun _ => methodA P t v name) (fun p s' => goK P X p.1 (p.2 :: args) K s') s
  | _ => False
def loopLen (l : Nat) (n : Nat) (s : Heap) : Prop := match s l with
  | some (_, .loop _ _ _ _ ps _ _ _) => ps.length = n
  | _ => False
def funK (f : AVal) (args : List AVal) (K : AVal → Heap → Prop) (s : Heap) : Prop := match f with
  | .fn (.func k) first cap => goK P X k (first ++ args ++ cap) K s
  | .fn (.method name) [x] _ => methK P X x name args K s
  | .yield l => loopLen l args.length s ∧ wpRound P X l args K s
  | _ => False

/-! ### operations -/
def offOf (t : TypeId) (f : Nat) : Option Nat := match P.underlying t with
  | some (.struct fields) => match fields[f]? with
    | some fd => match sz P fd.type with
      | some (_ + 1) => some fd.offset
      | _ => none
    | none => none
  | _ => none
def aggOf (t : TypeId) : Option (Option Nat) := match isAggT P t with
  | some true => match sz P t with
    | some n => some (some n)
    | none => none
  | some false => some none
  | none => none
def loadK (t : TypeId) (p : AVal) (K : AVal → Prop) (s : Heap) : Prop := match aggOf P t with
  | some (some n) => optK (rdN s n p) fun l => K (.agg l)
  | some none => optK (rd1 s p) K
  | none => False
def gldN (s : Heap) (n g : Nat) : Option (List AVal) := match s g with
  | some (_, .glob g' (.agg l)) => cond (Nat.beq g g' && Nat.beq n l.length) (some l) none
  | _ => none
/-- a slice taken as a pointer to an array -/
def s2apN (n : Nat) (x : AVal) : Option AVal := match x with
  | .slc b o len _ _ => cond (Nat.ble n len && Nat.blt 0 len) (some (.ptr b o)) none
  | _ => none
def s2apD (t : TypeId) (x : AVal) : Option AVal := match P.underlying t with
  | some (.array n _) => s2apN n x
  | _ => none
/-- a package variable that is read: an aggregate -/
def gldK (t : TypeId) (g : Nat) (K : AVal → Prop) (s : Heap) : Prop := match aggOf P t with
  | some (some n) => optK (gldN s n g) fun l => K (.agg l)
  | _ => False
def storeK (t : TypeId) (p v : AVal) (K : AVal → Heap → Prop) (s : Heap) : Prop := match aggOf P t, sz P t with
  | some (some n), _ => optK (wrAgg s n p v) (K .undef)
  | some none, some 1 => optK (wr1 s p v) (K .undef)
  | _, _ => False
def zcells (t : TypeId) : Option (List AVal) := match zeroA P t with
  | some z => cond (allOne z.cells) (some z.cells) none
  | none => none
def zelem (t : TypeId) : Option (List AVal × Nat) := match zeroA P t, sz P t with
  | some z, some es => cond (Nat.beq z.cells.length es && allOne z.cells) (some (z.cells, es)) none
  | _, _ => none
def eqAgg (t : TypeId) (a b : AVal) : Option Bool := match a, b with
  | .agg _, .agg _ => aEq P 30 t a b
  | _, _ => none
def eqK (neg : Bool) (t : TypeId) (cst : Bool) (a b : AVal) (K : AVal → Heap → Prop) (s : Heap) : Prop := match P.underlying t with
  | some d => match kindOf d with
    | some kd => optK (negB neg (eqV kd cst a b)) (K · s)
    | none => cond (P.eqGuardType P.depth t) False (optK (negB neg (eqAgg P t a b)) (K · s))
  | none => False
def builtK (b : Builtin) (ts : List TypeId) (args : List AVal) (K : AVal → Heap → Prop) (s : Heap) : Prop := match b, ts, args with
  | .append, [st, xt], [x, y] => match P.underlying st, P.underlying xt with
    | some (.slice elem), some (.slice _) => match zelem P elem, bytesOf P elem with
      | some (_, es), some by_ => cond (Nat.ble by_ 65536) (appK elem es x y K s) False
      | _, _ => False
    | _, _ => False
  | .len, t :: _, [x] => match P.underlying t with
    | some (.map _ _) => optK (lenM s x) fun n => K (.int .i64 n) s
    | some d => optK (lenD d x) fun n => K (.int .i64 n) s
    | none => False
  | .clear, t :: _, [x] => match P.underlying t with
    | some (.slice elem) => match zelem P elem with
      | some (z, es) => clearK z es x K s
      | none => False
    | _ => False
  | .copy, t :: _, [d, x] => match P.underlying t with
    | some (.slice elem) => match sz P elem with
      | some es => copyK es d x K s
      | none => False
    | _ => False
  | .min, _, x :: xs => optK (foldA min2A x xs) (K · s)
  | .max, _, x :: xs => optK (foldA max2A x xs) (K · s)
  | _, _, _ => False
def wpOp (env : Env) (K : AVal → Heap → Prop) (s : Heap) : Op → Prop
  | .move x | .assign x => K (evD env x) s
  | .pick c a b => optK (pickV (evD env c) (evD env a) (evD env b)) (K · s)
  | .alloc t => match zcells P t with
    | some z => newK t z (fun b => K (.ptr b 0)) s
    | none => False
  | .box t x => boxK t (evD env x) K s
  | .build t ps => match zeroA P t, P.underlying t with
    | some z, some (.struct fields) => cond (fields.toList.all fun f => (sz P f.type).isSome) (match places (placeOf P fields.toList) ps.toList with
      | some l => optK (fillR z.cells (evPl env l)) fun cs => K (.agg cs) s
      | none => False) False
    | some z, some (.array _ elem) => match sz P elem with
      | some n => match places (fun i => some (i * n, n)) ps.toList with
        | some l => optK (fillR z.cells (evPl env l)) fun cs => K (.agg cs) s
        | none => False
      | none => False
    | _, _ => False
  | .buildSlice t len ps => match P.underlying t with
    | some (.slice elem) => match zelem P elem with
      | some (z, es) => cond (Nat.ble (len * es) 16777216) (match places (fun i => some (i * es, es)) ps.toList with
        | some l => optK (fillR (repl len z) (evPl env l)) fun cs => allOne cs = true ∧ newK elem cs (fun b => K (.slc b 0 len (some len) es)) s
        | none => False) False
      | none => False
    | _ => False
  | .load t a => match a with
    | .global g => gldK P t g (K · s) s
    | a => loadK P t (evD env a) (K · s) s
  | .sliceToArrayPointer t x => optK (s2apD P t (evD env x)) (K · s)
  | .store t a x => storeK P t (evD env a) (evD env x) K s
  | .nilCheck x => optK (nilCheckA (evD env x)) (K · s)
  | .binOp op t x y _ => match op with
    | .eql => eqK P false t (isC x || isC y) (evD env x) (evD env y) K s
    | .neq => eqK P true t (isC x || isC y) (evD env x) (evD env y) K s
    | .shl | .shr => optK (shiftV op (evD env x) (evD env y)) (K · s)
    | _ => optK (arithV op (evD env x) (evD env y)) (K · s)
  | .unOp op _ x => optK (unaryA op (evD env x)) (K · s)
  | .convert a d x => match P.underlying a, P.underlying d with
    | some (.int _), some (.int k) => optK (convI k (evD env x)) (K · s)
    | some .string, some .string => optK (convS (evD env x)) (K · s)
    | _, _ => False
  | .makeInterface t x => match P.underlying t with
    | some (.interface _) => False
    | some _ => K (.ifc t (evD env x)) s
    | none => False
  | .makeFunc f first cap => match f with
    | .func k => K (.fn (.func k) (first.toList.map (evD env)) (cap.toList.map (evD env))) s
    | .method n => K (.fn (.method n) (first.toList.map (evD env)) (cap.toList.map (evD env))) s
    | _ => False
  | .makeSlice t l c => match P.underlying t with
    | some (.slice elem) => match zelem P elem, bytesOf P elem with
      | some (z, es), some by_ => cond (Nat.ble by_ 32768) (optK (nat? (evD env l)) fun l => optK (nat? (evD env c)) fun c => (l ≤ c ∧ c ≤ 4294967296) ∧ newK elem (repl c z) (fun b => K (.slc b 0 l (some c) es)) s) False
      | _, _ => False
    | _ => False
  | .slice t x lo hi mx => match P.underlying t with
    | some (.slice elem) => match sz P elem with
      | some es => optK (sliceS es (evD env x) (oev env lo) (oev env hi) (oev env mx)) (K · s)
      | none => False
    | some (.array n elem) => match sz P elem with
      | some es => optK (sliceP s n es (evD env x) (oev env lo) (oev env hi) (oev env mx)) (K · s)
      | none => False
    | _ => False
  | .fieldAddr t x f => match offOf P t f with
    | some k => optK (addOff k (evD env x)) (K · s)
    | none => False
  | .field t x f => match P.underlying t with
    | some (.struct fields) => match fields[f]? with
      | some fd => match aggOf P fd.type with
        | some g => optK (fieldD g fd.offset (evD env x)) (K · s)
        | none => False
      | none => False
    | _ => False
  | .indexAddr t x i => match P.underlying t with
    | some (.array len elem) => match sz P elem with
      | some n => optK (iaddrA len n (evD env x) (evD env i)) (K · s)
      | none => False
    | some (.slice elem) => match sz P elem with
      | some n => optK (iaddrS n (evD env x) (evD env i)) (K · s)
      | none => False
    | _ => False
  | .index t x i => match P.underlying t with
    | some (.array len elem) => match sz P elem, aggOf P elem with
      | some n, some g => optK (indexD len n g (evD env x) (evD env i)) (K · s)
      | _, _ => False
    | some .string => optK (indexStr (evD env x) (evD env i)) (K · s)
    | _ => False
  | .typeAssert x _ t ok => match P.underlying t with
    | some (.interface _) => False
    | some _ => optK (tassV t (zeroA P t) ok (evD env x)) (K · s)
    | none => False
  | .extract x i => optK (extractA (evD env x) i) (K · s)
  | .makeMap t r => match P.underlying t with
    | some (.map _ _) => match r with
      | none => mapK K s
      | some x => intK (evD env x) (mapK K s)
    | _ => False
  | .entry x => optK (entD s (evD env x)) (K · s)
  | .range t x => match P.underlying t with
    | some (.map _ _) => iterK (evD env x) K s
    | _ => False
  | .lookup t x k ok => match P.underlying t with
    | some (.map kt et) => match P.underlying kt, zeroA P et with
      | some (.int _), some z => optK (getM s (evD env x) (evD env k)) fun r => K (retM z ok r) s
      | some _, some z => optK (getG P kt s (evD env x) (evD env k)) fun r => K (retM z ok r) s
      | _, _ => False
    | _ => False
  | .mapUpdate t m k x => match P.underlying t with
    | some (.map kt _) => match P.underlying kt with
      | some (.int _) => optK (putM s (evD env m) (evD env k) (evD env x)) (K .undef)
      | some _ => optK (putG P kt s (evD env m) (evD env k) (evD env x)) (K .undef)
      | none => False
    | _ => False
  | .insert t m k x => match P.underlying t with
    | some (.map kt _) => match P.underlying kt with
      | some (.int _) => optK (putM s (evD env m) (evD env k) (evD env x)) (K .undef)
      | some _ => optK (putG P kt s (evD env m) (evD env k) (evD env x)) (K .undef)
      | none => False
    | _ => False
  | .call c => match c.callee with
    | .builtin b => builtK P b c.argTypes.toList (c.args.toList.map (evD env)) K s
    | .invoke r name => methK P X (evD env r) name (c.args.toList.map (evD env)) K s
    | .value f => match f with
      | .func k => cond (isFn P k) (wpCall P X k (c.args.toList.map (evD env)) K s) False
      | f => funK P X (evD env f) (c.args.toList.map (evD env)) K s
  | _ => False
def okOp (o : Op) : Bool := match o with
  | .load _ (.global _) => true
  | o => o.operands.toList.all okX

/-! ### regions -/
def setK (nt : Nat) (dst : Option Tmp) (env : Env) (v : AVal) (K : Env → Prop) : Prop := match dst with
  | none => K env
  | some d => cond (Nat.blt d nt) (K (upd env d v)) False
/-- what is known of slots: a Boolean, or (none) that nothing was put there -/
abbrev Kn := List (Nat × Option Bool)
def forget (kn : Kn) : Option Tmp → Kn
  | none => kn
  | some d => kn.filter fun p => !Nat.beq p.1 d
def mark (kn : Kn) : Option Tmp → Kn
  | none => kn
  | some d => (d, none) :: forget kn (some d)
def known : Kn → Nat → Option (Option Bool)
  | [], _ => none
  | p :: ps, d => cond (Nat.beq p.1 d) (some p.2) (known ps d)
def dstOf (all : List Oper) (j : Nat) : Option Nat := match all[j]? with
  | some o => o.dst
  | none => none
/-- the guard of an operation decides: it goes, or it is passed over -/
def guardE (all : List Oper) (g : Option (Nat × Bool)) (kn : Kn) (env : Env) (go skip : Kn → Prop) : Prop := match g with
  | none => go kn
  | some (j, w) => match dstOf all j with
    | none => skip kn
    | some d => match known kn d with
      | some (some b) => cond (b == w) (go kn) (skip kn)
      | some none => skip kn
      | none => boolK (env d) (cond w (go ((d, some true) :: kn)) (skip ((d, some true) :: kn))) (cond w (skip ((d, some false) :: kn)) (go ((d, some false) :: kn)))
def opsE (nt : Nat) (all : List Oper) : List Oper → Kn → Env → (Env → Heap → Prop) → Heap → Prop
  | [], _, env, K, s => K env s
  | o :: os, kn, env, K, s => guardE all o.guard kn env
      (fun kn => wpOp P X env (fun v s => setK nt o.dst env v fun env => opsE nt all os (forget kn o.dst) env K s) s o.op)
      (fun kn => setK nt o.dst env .undef fun env => opsE nt all os (mark kn o.dst) env K s)
/-! ### statements whose order is open -/
/-- 0: touches no memory; 1: reads; 2: reads, and makes memory of its own, or a call; 3: others -/
def cls : Op → Nat
  | .slice t _ _ _ _ => match P.underlying t with
    | some (.slice _) => 0
    | _ => 1
  | .move _ | .assign _ | .pick _ _ _ | .nilCheck _ | .binOp _ _ _ _ _ | .unOp _ _ _ | .convert _ _ _ | .makeInterface _ _ | .makeFunc _ _ _ | .fieldAddr _ _ _ | .field _ _ _ | .indexAddr _ _ _ | .index _ _ _
  | .typeAssert _ _ _ _ | .extract _ _ | .build _ _ | .sliceToArrayPointer _ _ => 0
  | .load _ _ => 1
  | .lookup _ _ _ _ => 1
  | .alloc _ | .box _ _ | .buildSlice _ _ _ | .makeSlice _ _ _ | .makeMap _ _ => 2
  | .call c => match c.callee with
    | .builtin .min | .builtin .max => 0
    | .builtin .len => match c.argTypes.toList with
      | t :: _ => (match P.underlying t with
        | some (.slice _) => 0
        | _ => 1)
      | [] => 1
    | .builtin .append => 2
    | .builtin _ => 3
    | _ => 2
  | _ => 3
def clsL (l : List Oper) : List Nat := l.map fun o => cls P o.op
/-- is operation i in no order with another one that touches memory? -/
def loose (cs mks : List Nat) (i : Nat) : Bool := (List.range cs.length).any fun j => !Nat.beq i j && (!Nat.beq (cs.getD j 0) 0 && !Nat.testBit (mks.getD (max i j) 0) (min i j))
def memN (i : Nat) : List Nat → Bool
  | [] => false
  | j :: l => cond (Nat.beq i j) true (memN i l)
/-- (wl: calls that may write, though loads stand in no order with them) -/
def mild (wl cs mks : List Nat) (i : Nat) : Bool := Nat.blt (cs.getD i 0) 2 || (Nat.beq (cs.getD i 0) 2 && loose cs mks i && !memN i wl)
def isSt : Op → Bool
  | .store _ _ _ => true
  | _ => false
def isLd : Op → Bool
  | .load _ _ => true
  | _ => false
/-- makes memory of its own, and touches no other -/
def isNw : Op → Bool
  | .alloc _ | .box _ _ => true
  | _ => false
/-- a call that stands loose and may write -/
def wld (wl cs : List Nat) (i : Nat) : Bool := memN i wl && Nat.beq (cs.getD i 0) 2
/-- a store that stands loose, or such a call -/
def sft (wl : List Nat) (all : List Oper) (cs mks : List Nat) (i : Nat) : Bool := match all[i]? with
  | some o => (isSt o.op && loose cs mks i) || wld wl cs i
  | none => false
def soft (wl : List Nat) (all : List Oper) (cs mks : List Nat) (i : Nat) : Bool := mild wl cs mks i || sft wl all cs mks i
/-- a load to which a later store stands loose -/
def watched (wl : List Nat) (all : List Oper) (cs mks : List Nat) (i : Nat) : Bool := match all[i]? with
  | some o => isLd o.op && (List.range cs.length).any fun j => Nat.blt i j && sft wl all cs mks j && !Nat.testBit (mks.getD j 0) i
  | none => false
/-- what it touches is written down -/
def tch (wl : List Nat) (all : List Oper) (cs mks : List Nat) (i : Nat) : Bool := watched wl all cs mks i || sft wl all cs mks i || (mild wl cs mks i && match all[i]? with
  | some o => isNw o.op
  | none => false)
def drawOk (wl : List Nat) (ops : Array Oper) (cs mks : List Nat) : Bool := (List.range cs.length).all fun j => (List.range j).all fun i => Nat.testBit (mks.getD j 0) i ||
  (match ops[i]?, ops[j]? with
    | some p, some o => Oper.apart ops p o && (Nat.beq (cs.getD i 0) 0 || (Nat.beq (cs.getD j 0) 0 || ((soft wl ops.toList cs mks i && mild wl cs mks j) || (tch wl ops.toList cs mks i && sft wl ops.toList cs mks j))))
    | _, _ => false)
/-- a heap without another one's blocks -/
def minus (s h : Heap) : Heap := fun b => if h b = none then s b else none
/-- what a part of a heap leaves out -/
def rest (s r : Heap) : Heap := fun b => if r b = none then s b else none
def fullH : Heap := fun _ => some (false, .deferred true)
def blkOf : AVal → Nat
  | .ptr b _ => b
  | _ => 0
/-- the block at which an operation loads or stores -/
def memOp (env : Env) : Op → Nat
  | .load _ a => match a with
    | .global g => g
    | a => blkOf (evD env a)
  | .store _ a _ => blkOf (evD env a)
  | _ => 0
def frz (s : Heap) : Heap := fun b => match s b with
  | some (_, x) => some (true, x)
  | none => none
/-- without what is new in one of the pairs -/
def cutH : List (Heap × Heap) → Heap → Heap
  | [], s => s
  | p :: l, s => cutH l fun b => if p.1 b = none ∧ p.2 b ≠ none then none else s b
/-- those of the pairs that come before in no order -/
def freeOf (mk : Nat) : List (Nat × Heap × Heap) → List (Heap × Heap)
  | [] => []
  | p :: l => cond (Nat.testBit mk p.1) (freeOf mk l) (p.2 :: freeOf mk l)
def opsQ (wl : List Nat) (nt : Nat) (all : List Oper) (cs mks : List Nat) : List Oper → Nat → List (Nat × Heap × Heap) → List (Nat × Heap × Heap) → Kn → Env → (Env → Heap → Prop) → Heap → Prop
  | [], _, _, _, _, env, K, s => K env s
  | o :: os, i, done, rds, kn, env, K, s => guardE all o.guard kn env
      (fun kn => match cls P o.op with
        | 0 => wpOp P X env (fun v _ => setK nt o.dst env v fun env => opsQ wl nt all cs mks os (i + 1) done rds (forget kn o.dst) env K s) s o.op
        | 1 => wpOp P X env (fun v _ => setK nt o.dst env v fun env' => opsQ wl nt all cs mks os (i + 1) done (cond (watched wl all cs mks i) (rds ++ [(i, hdel s (memOp env o.op), s)]) rds) (forget kn o.dst) env' K s) (cutH (freeOf (mks.getD i 0) done) s) o.op
        | _ => cond (mild wl cs mks i)
          (wpOp P X env (fun v s2 => (∀ b, s b ≠ none → cutH (freeOf (mks.getD i 0) done) s b = none → s2 b = none) → setK nt o.dst env v fun env => opsQ wl nt all cs mks os (i + 1) (done ++ [(i, s, add s s2)]) rds (forget kn o.dst) env K (add s s2)) (frz (cutH (freeOf (mks.getD i 0) done) s)) o.op)
          (cond (wld wl cs i)
            (∃ h : Heap, (∀ b, h b ≠ none → s b ≠ none) ∧ wpOp P X env (fun v s2 => (∀ b, s b ≠ none → cutH (freeOf (mks.getD i 0) (done ++ rds)) (minus s h) b = none → s2 b = none) → setK nt o.dst env v fun env => opsQ wl nt all cs mks os (i + 1) (done ++ [(i, h, fullH)]) rds (forget kn o.dst) env K (add s2 (rest s (cutH (freeOf (mks.getD i 0) (done ++ rds)) (minus s h))))) (cutH (freeOf (mks.getD i 0) (done ++ rds)) (minus s h)) o.op)
          (cond (sft wl all cs mks i)
            (cutH (freeOf (mks.getD i 0) (done ++ rds)) s (memOp env o.op) ≠ none ∧ wpOp P X env (fun v s2 => setK nt o.dst env v fun env' => opsQ wl nt all cs mks os (i + 1) (done ++ [(i, hdel s (memOp env o.op), s)]) rds (forget kn o.dst) env' K s2) s o.op)
            (wpOp P X env (fun v s => setK nt o.dst env v fun env => opsQ wl nt all cs mks os (i + 1) done rds (forget kn o.dst) env K s) s o.op))))
      (fun kn => setK nt o.dst env .undef fun env => opsQ wl nt all cs mks os (i + 1) done rds (mark kn o.dst) env K s)
end
end Go.AM
namespace Go.AM
open Go
variable {α β : Type}
/-! ### more fuel, no other answer -/
def LeM (m m' : M α) : Prop := ∀ H r, m H = some r → m' H = some r
theorem LeM.refl (m : M α) : LeM m m := fun _ _ h => h
theorem LeM.bd {m m' : M α} {f f' : α → M β} (hm : LeM m m') (hf : ∀ a, LeM (f a) (f' a)) : LeM (bd m f) (bd m' f') := by
  intro H r h
  obtain ⟨a, H1, h1, h2⟩ := bd_some h
  show AM.bd _ _ _ = _
  unfold AM.bd
  rw [hm H _ h1]
  exact hf a H1 r h2
theorem LeM.cond {b : Bool} {x x' y y' : M α} (hx : LeM x x') (hy : LeM y y') : LeM (_root_.cond b x y) (_root_.cond b x' y') := by cases b <;> assumption
theorem LeM.capture {m m' : M α} (hm : LeM m m') : LeM (capture m) (capture m') := by
  intro H r h
  unfold AM.capture at h ⊢
  split at h
  · cases h
  · rename_i a H' e
    rw [hm _ _ e]
    exact h
theorem LeM.outVal {m m' : M Out} (h : LeM m m') : LeM (outVal m) (outVal m') := LeM.bd h fun _ => LeM.refl _
section
variable {P : Program} {ih ih' : Task → M Out} (hih : ∀ t, LeM (ih t) (ih' t))
include hih
theorem le_nextA (x : ANext) : LeM (nextA ih x) (nextA ih' x) := by
  unfold nextA
  split <;> first | exact LeM.refl _ | exact LeM.outVal (hih _)
theorem le_oneOp (nt : Nat) (all : List Oper) (o : Oper) (T : Tmps) : LeM (oneOp P ih nt all o T) (oneOp P ih' nt all o T) := by
  refine LeM.bd ?_ fun _ => LeM.refl _
  unfold valOp
  split
  · exact LeM.bd (LeM.refl _) fun _ => le_nextA hih _
  · exact LeM.refl _
  · exact LeM.refl _
theorem le_opsA (nt : Nat) (all : List Oper) : ∀ (l : List Oper) (T : Tmps), LeM (opsA P ih nt all l T) (opsA P ih' nt all l T)
  | [], _ => LeM.refl _
  | _ :: l, _ => LeM.bd (le_oneOp hih _ _ _ _) fun _ => le_opsA nt all l _
theorem le_opsD (nt : Nat) (all : Array Oper) : ∀ (l : List Oper) (mks : List Nat) (done : List (Oper × List (Nat × Bool))) (T : Tmps), LeM (opsD P ih nt all l mks done T) (opsD P ih' nt all l mks done T)
  | [], _, _, _ => LeM.refl _
  | _ :: _, [], _, _ => LeM.refl _
  | _ :: l, _ :: mks, _, _ => LeM.bd (LeM.capture (le_oneOp hih _ _ _ _)) fun _ => LeM.cond (le_opsD nt all l mks _ _) (LeM.refl _)
omit hih in
theorem le_one {m m' : M α} (h : LeM m m') : ∀ H L, oneN m H = some L → oneN m' H = some L := by
  intro H L h1
  unfold oneN at h1 ⊢
  cases h2 : m H with
  | none => simp [h2] at h1
  | some r => rw [h _ _ h2]; rw [h2] at h1; exact h1
omit hih in
theorem le_bdN {m m' : N α} {f f' : α → N β} (hm : ∀ H L, m H = some L → m' H = some L) (hf : ∀ a H L, f a H = some L → f' a H = some L) : ∀ H L, bdN m f H = some L → bdN m' f' H = some L := by
  intro H L h
  unfold bdN at h ⊢
  cases h1 : m H with
  | none => simp [h1] at h
  | some l =>
    simp only [h1] at h
    rw [hm _ _ h1]
    have : ∀ (l : List (α × AHeap)) L, allN f l = some L → allN f' l = some L := by
      intro l
      induction l with
      | nil => intro L h; exact h
      | cons p l ih =>
        obtain ⟨a, K⟩ := p
        intro L h
        unfold allN at h ⊢
        cases h2 : f a K with
        | none => simp [h2] at h
        | some lq =>
          cases h3 : allN f l with
          | none => simp [h2, h3] at h
          | some Lr =>
            simp only [h2, h3] at h
            rw [hf _ _ _ h2, ih _ h3]
            exact h
    exact this l L h
theorem le_mapRounds (nt : Nat) (r : Option Nat) (s : MapStep) : ∀ (k : Nat) (T : Tmps) (ms : List Mk) H L, mapRounds ih nt r s k T ms H = some L → mapRounds ih' nt r s k T ms H = some L
  | 0, _, _, _, _, h => by cases h
  | k + 1, T, ms, H, L, h => by
    unfold mapRounds at h ⊢
    revert H L
    refine le_bdN (fun _ _ h => h) fun h => ?_
    obtain ⟨d, left⟩ := h
    cases left with
    | nil => exact le_one (LeM.bd (hih _) fun _ => LeM.refl _)
    | cons e0 es0 =>
      refine le_bdN (fun _ _ h => h) fun e => le_bdN (le_one (LeM.bd (LeM.refl _) fun _ => hih _)) fun o => ?_
      cases o with
      | val v => exact fun _ _ h => h
      | exit e T ms =>
        cases e with
        | nrm => exact le_mapRounds nt r s k _ _
        | exit id => exact fun _ _ h => h
        | ret => exact fun _ _ h => h
theorem le_mapLoop (nt : Nat) (r : Option Nat) (s : MapStep) (T : Tmps) (ms : List Mk) : LeM (mapLoop ih nt r s T ms) (mapLoop ih' nt r s T ms) := by
  refine LeM.cond ?_ (LeM.refl _)
  intro H x h
  cases h1 : mapRounds ih nt r s 1000 T ms { H with log := [] } with
  | none => simp only [h1] at h; cases h
  | some L => simp only [h1] at h; simp only [le_mapRounds hih nt r s 1000 T ms _ L h1]; exact h
theorem le_runCode (nt : Nat) (r : Option Nat) (c : Code) (T : Tmps) (ms : List Mk) : LeM (runCode P ih nt r c T ms) (runCode P ih' nt r c T ms) := by
  unfold runCode
  repeat' first | exact LeM.refl _ | exact hih _ | exact le_mapLoop hih _ _ _ _ _ | exact LeM.outVal (hih _) | exact le_opsD hih _ _ _ _ _ _ | exact le_opsA hih _ _ _ _ | (refine LeM.cond ?_ ?_) | (refine LeM.bd ?_ fun _ => ?_) | split
theorem le_runDef (k : FuncId) (args : List AVal) : LeM (runDef P ih k args) (runDef P ih' k args) := by
  unfold runDef
  repeat' first | exact LeM.refl _ | exact hih _ | (refine LeM.cond ?_ ?_) | (refine LeM.bd ?_ fun _ => ?_) | split
theorem le_takeMarks : ∀ l : List Mk, LeM (takeMarks P ih l) (takeMarks P ih' l)
  | [] => LeM.refl _
  | .mark _ :: l => LeM.bd (LeM.refl _) fun _ => by
    split
    · exact LeM.bd (LeM.refl _) fun _ => le_takeMarks l
    · exact LeM.refl _
  | .call _ _ :: l => LeM.bd (le_runDef hih _ _) fun _ => le_takeMarks l
theorem le_runCall (f : FuncId) (args : List AVal) : LeM (runCall P ih f args) (runCall P ih' f args) := by
  unfold runCall
  repeat' first | exact LeM.refl _ | exact hih _ | exact le_takeMarks hih _ | (refine LeM.cond ?_ ?_) | (refine LeM.bd ?_ fun _ => ?_) | split
theorem le_runRound (l : Nat) (args : List AVal) : LeM (runRound ih l args) (runRound ih' l args) := by
  unfold runRound
  repeat' first | exact LeM.refl _ | exact hih _ | (refine LeM.bd ?_ fun _ => ?_) | split
theorem le_runStep {X : Told} (t : Task) : LeM (runStep P X ih t) (runStep P X ih' t) := by
  cases t with
  | code => exact le_runCode hih _ _ _ _ _
  | call f args =>
    show LeM (match X f with
      | some g => bd (g args) fun v => ret (.val v)
      | none => runCall P ih f args) (match X f with
      | some g => bd (g args) fun v => ret (.val v)
      | none => runCall P ih' f args)
    split
    · exact LeM.refl _
    · exact le_runCall hih _ _
  | round => exact le_runRound hih _ _
end
theorem le_run {P : Program} {X : Told} : ∀ (n : Nat) (t : Task), LeM (run P X n t) (run P X (n + 1) t)
  | 0, _ => fun H _ h => (fail_some (H := H) h).elim
  | n + 1, t => le_runStep (le_run n) t
theorem mono_of {m : Nat → M α} (h : ∀ n, LeM (m n) (m (n + 1))) : Mono m := by
  intro n n' H r hle hr
  induction hle with
  | refl => exact hr
  | step _ ih => exact h _ H r ih
theorem mono_run {P : Program} {X : Told} (t : Task) : Mono fun n => run P X n t := mono_of fun n => le_run n t
theorem mono_next {P : Program} {X : Told} (x : ANext) : Mono fun n => nextA (run P X n) x := mono_of fun n => le_nextA (le_run n) x
theorem mono_opsA {P : Program} {X : Told} (nt : Nat) (all l : List Oper) (T : Tmps) : Mono fun n => opsA P (run P X n) nt all l T := mono_of fun n => le_opsA (le_run n) nt all l T
theorem mono_runCode {P : Program} {X : Told} (nt : Nat) (r : Option Nat) (c : Code) (T : Tmps) (ms : List Mk) : Mono fun n => runCode P (run P X n) nt r c T ms := mono_of fun n => le_runCode (le_run n) nt r c T ms
theorem mono_runCall {P : Program} {X : Told} (f : FuncId) (args : List AVal) : Mono fun n => runCall P (run P X n) f args := mono_of fun n => le_runCall (le_run n) f args
theorem mono_runRound {P : Program} {X : Told} (l : Nat) (args : List AVal) : Mono fun n => runRound (run P X n) l args := mono_of fun n => le_runRound (le_run n) l args

/-! ### the memory's own steps -/
theorem allOne_append : ∀ {a b : List AVal}, allOne a = true → allOne b = true → allOne (a ++ b) = true
  | [], _, _, h => h
  | x :: a, b, h1, h2 => by
    simp only [allOne, Bool.and_eq_true] at h1
    simp only [List.cons_append, allOne, Bool.and_eq_true]
    exact ⟨h1.1, allOne_append h1.2 h2⟩
theorem allOne_repl {z : List AVal} (h : allOne z = true) : ∀ n, allOne (repl n z) = true
  | 0 => rfl
  | n + 1 => allOne_append h (allOne_repl h n)
theorem allOne_get : ∀ {l : List AVal}, allOne l = true → ∀ x ∈ l, x.one = true
  | [], _, _, h => by cases h
  | y :: l, h, x, hx => by
    simp only [allOne, Bool.and_eq_true] at h
    rcases List.mem_cons.1 hx with e | e
    · rw [e]; exact h.1
    · exact allOne_get h.2 x e
theorem allOne_of : ∀ {l : List AVal}, (∀ x ∈ l, x.one = true) → allOne l = true
  | [], _ => rfl
  | y :: l, h => by
    simp only [allOne, Bool.and_eq_true]
    exact ⟨h y (by simp), allOne_of fun x hx => h x (by simp [hx])⟩
variable {P : Program} {X : Told} {s : Heap}
theorem optK_some {o : Option α} {K : α → Prop} (h : optK o K) : ∃ a, o = some a ∧ K a := by
  cases o with
  | none => exact h.elim
  | some a => exact ⟨a, rfl, h⟩
theorem takeAt_some {l r : List AVal} {o n : Nat} (h : takeAt l o n = some r) : o + n ≤ l.length ∧ r = (l.drop o).take n := by
  unfold takeAt at h
  obtain ⟨h1, h2⟩ := condO_some h
  exact ⟨Nat.le_of_ble_eq_true h1, (Option.some.inj h2).symm⟩
theorem cellsAt_of {c : Tr AVal} {l : List AVal} (hc : ∀ i, i < l.length → c.get i = l[i]?) : ∀ (n o : Nat), o + n ≤ l.length → cellsAt c o n = some ((l.drop o).take n)
  | 0, o, _ => by simp [cellsAt]
  | n + 1, o, h => by
    have h1 := hc o (by omega)
    rw [List.getElem?_eq_getElem (by omega)] at h1
    rw [cellsAt, h1]
    simp only [cellsAt_of hc n (o + 1) (by omega)]
    rw [List.drop_eq_getElem_cons (by omega : o < l.length), List.take_succ_cons]
theorem wp_loadCells {b o n : Nat} {l : List AVal} {Q : List AVal → Heap → Prop} (h : rdN s n (.ptr b o) = some l) (hQ : allOne l = true → Q l s) : wpF (fun _ => loadCellsA b o n) Q s := by
  unfold rdN at h
  simp only at h
  split at h
  · rename_i t e c hb
    obtain ⟨h1, rfl⟩ := takeAt_some h
    unfold loadCellsA
    refine wpF.bd (.const _) (fun _ => .const _) (wpF.rd hb fun ab hab => ?_)
    cases ab with
    | cells e' c' n' =>
      obtain ⟨_, _, h2, h3⟩ := hab
      exact wpF.lift (cellsAt_of h3 n o h1) (hQ (allOne_of fun x hx => allOne_get h2 x (List.mem_of_mem_drop (List.mem_of_mem_take hx))))
    | _ => exact hab.elim
  · cases h
theorem rd1_get {b o : Nat} {v : AVal} (h : rd1 s (.ptr b o) = some v) : ∃ t e l, s b = some (t, .cells e l) ∧ l[o]? = some v := by
  unfold rd1 at h
  simp only at h
  split at h
  · rename_i t e l hb; exact ⟨t, e, l, hb, h⟩
  · cases h
theorem wp_load {t : TypeId} {p : AVal} {Q : AVal → Heap → Prop} (h : loadK P t p (Q · s) s) : wpF (fun _ => (match p with | .ptr b o => loadA P t b o | _ => fail)) Q s := by
  unfold loadK aggOf at h
  cases ha : isAggT P t with
  | none => simp only [ha] at h
  | some ag =>
    cases ag with
    | true =>
      simp only [ha] at h
      cases hz : sz P t with
      | none => simp only [hz] at h
      | some n =>
        simp only [hz] at h
        obtain ⟨l, h1, h2⟩ := optK_some h
        cases p with
        | ptr b o =>
          simp only [loadA, ha, hz]
          exact wpF.bd (.const _) (fun _ => .const _) (wp_loadCells h1 fun _ => wpF.ret h2)
        | _ => simp [rdN] at h1
    | false =>
      simp only [ha] at h
      obtain ⟨v, h1, h2⟩ := optK_some h
      cases p with
      | ptr b o =>
        simp only [loadA, ha]
        obtain ⟨t', e, l, hb, hl⟩ := rd1_get h1
        refine wpF.bd (.const _) (fun _ => .const _) (wpF.rd hb fun ab hab => ?_)
        cases ab with
        | cells e' c' n' =>
          obtain ⟨_, _, _, h3⟩ := hab
          have hlt : o < l.length := (List.getElem?_eq_some_iff.1 hl).1
          exact wpF.lift (by rw [h3 o hlt, hl]) h2
        | _ => exact hab.elim
      | _ => simp [rd1] at h1
theorem setRange_length (l : List AVal) (o : Nat) (vs : List AVal) (h : o + vs.length ≤ l.length) : (setRange l o vs).length = l.length := by
  unfold setRange; simp; omega
theorem setRange_get (l : List AVal) (o : Nat) (vs : List AVal) (h : o + vs.length ≤ l.length) (i : Nat) : (setRange l o vs)[i]? = if o ≤ i ∧ i < o + vs.length then vs[i - o]? else l[i]? := by
  unfold setRange
  have h1 : (l.take o).length = o := by simp; omega
  by_cases hi : i < o
  · rw [List.append_assoc, List.getElem?_append_left (by omega), if_neg (by omega), List.getElem?_take, if_pos hi]
  · by_cases hj : i < o + vs.length
    · rw [if_pos ⟨by omega, hj⟩, List.append_assoc, List.getElem?_append_right (by omega), h1, List.getElem?_append_left (by omega)]
    · rw [if_neg (by omega), List.getElem?_append_right (by simp; omega), List.getElem?_drop]
      congr 1
      simp; omega
theorem setRange_one (l : List AVal) (o : Nat) (v : AVal) (h : o < l.length) : setRange l o [v] = l.set o v := by
  apply List.ext_getElem?
  intro i
  rw [setRange_get _ _ _ (by simp; omega), List.getElem?_set]
  by_cases e : o = i
  · subst e; simp [h]
  · rw [if_neg (by simp; omega), if_neg e]
theorem wp_storeCells {b o : Nat} {vs : List AVal} {s' : Heap} {Q : Unit → Heap → Prop} (h : wrN s (.ptr b o) vs = some s') (hQ : Q () s') : wpF (fun _ => storeCellsA b o vs) Q s := by
  unfold wrN at h
  simp only at h
  split at h
  · rename_i e l hb
    obtain ⟨h1, h2⟩ := condO_some h
    cases h2
    obtain ⟨h3, h4⟩ := Bool.and_eq_true_iff.1 h1
    have h3' := Nat.le_of_ble_eq_true h3
    unfold storeCellsA
    refine wpF.bd (.const _) (fun _ => .const _) (wpF.rd hb fun ab hab => ?_)
    cases ab with
    | cells e' c' n' =>
      obtain ⟨rfl, rfl, h6, h5⟩ := hab
      refine wpF.cond (by rw [h3, h4]; rfl) (wpF.wr (x := .cells e (setRange l o vs)) hb ⟨rfl, (setRange_length _ _ _ h3').symm, ?_, fun i hi => ?_⟩ hQ)
      · unfold setRange
        exact allOne_append (allOne_append (allOne_of fun x hx => allOne_get h6 x (List.mem_of_mem_take hx)) h4) (allOne_of fun x hx => allOne_get h6 x (List.mem_of_mem_drop hx))
      rw [Tr.get_ofListAt, setRange_get _ _ _ h3']
      rw [setRange_length _ _ _ h3'] at hi
      split
      · rfl
      · exact h5 i hi
    | _ => exact hab.elim
  · cases h
theorem one_cells {v : AVal} (h : v.one = true) : v.cells = [v] := by cases v <;> simp [AVal.one] at h <;> rfl
theorem wp_store {t : TypeId} {p v : AVal} {K : AVal → Heap → Prop} (h : storeK P t p v K s) : wpF (fun _ => storeA P t p v) (fun _ s' => K .undef s') s := by
  unfold storeK at h
  cases ha : aggOf P t with
  | none => simp only [ha] at h
  | some g =>
    cases g with
    | some n =>
      simp only [ha] at h
      obtain ⟨s', h1, h2⟩ := optK_some h
      have hsz : sz P t = some n := by
        unfold aggOf at ha
        split at ha
        · cases hq : sz P t with
          | none => simp [hq] at ha
          | some m => simp [hq] at ha; rw [ha]
        · cases ha
        · cases ha
      unfold wrAgg at h1
      obtain ⟨h3, h4⟩ := condO_some h1
      cases p with
      | ptr b o =>
        unfold storeA
        simp only [hsz]
        exact wpF.cond h3 (wp_storeCells (Q := fun _ s' => K .undef s') h4 h2)
      | _ => simp [wrN] at h4
    | none =>
      cases hn : sz P t with
      | none => simp only [ha, hn] at h
      | some m =>
        simp only [ha, hn] at h
        split at h
        · rename_i e2; cases e2
        · rename_i e1 e2
          cases e2
          obtain ⟨s', h1, h2⟩ := optK_some h
          cases p with
          | ptr b o =>
            unfold wr1 at h1
            simp only at h1
            split at h1
            · rename_i e l hb
              obtain ⟨h3, h4⟩ := condO_some h1
              obtain ⟨h5, h6⟩ := Bool.and_eq_true_iff.1 h3
              have h5' : o < l.length := by rwa [Nat.blt_eq] at h5
              unfold storeA
              simp only [hn, one_cells h6]
              refine wpF.cond rfl (wp_storeCells (Q := fun _ s' => K .undef s') (s' := s') ?_ h2)
              unfold wrN
              simp only [hb]
              have e1 : Nat.ble (o + [v].length) l.length = true := Nat.ble_eq_true_of_le (by simp; omega)
              have e2 : allOne [v] = true := by simp [allOne, h6]
              rw [e1, e2, setRange_one _ _ _ h5']
              exact h4
            · cases h1
          | _ => simp [wr1] at h1
        · exact h.elim
theorem ofListAt_get (cs : List AVal) (i : Nat) (h : i < cs.length) : (Tr.ofListAt .nil 0 cs).get i = cs[i]? := by
  rw [Tr.get_ofListAt, if_pos ⟨Nat.zero_le _, by omega⟩]; rfl
theorem wp_newCells {elem : TypeId} {cs : List AVal} {Q : Nat → Heap → Prop} (h1 : allOne cs = true) (h : newK elem cs Q s) : wpF (fun _ => newCells elem cs) Q s := by
  unfold newCells
  exact wpF.cond h1 (wpF.nw (x := .cells elem cs) ⟨rfl, rfl, h1, fun i hi => ofListAt_get cs i hi⟩ h)
end Go.AM
namespace Go.AM
open Go
variable {α β : Type} {P : Program} {X : Told} {s : Heap} {T : Tmps} {env : Env} {K : AVal → Heap → Prop}
/-! ### operands -/
theorem ev_of {x : Operand} (hT : TR T env) (h : okX x = true) : ev T x = some (evD env x) := by
  cases x with
  | tmp t =>
    have := hT t
    simp only [ev, evD, ← this, tget]
    cases T.get t <;> rfl
  | const v =>
    simp only [okX] at h
    simp only [ev, evD]
    cases hv : ofV 2 v with
    | none => rw [hv] at h; cases h
    | some a => rfl
  | func f => rfl
  | global g => cases h
theorem evs_of (hT : TR T env) : ∀ {l : List Operand}, l.all okX = true → evs T l = some (l.map (evD env))
  | [], _ => rfl
  | x :: l, h => by
    simp only [List.all_cons, Bool.and_eq_true] at h
    simp only [evs, ev_of hT h.1, evs_of hT h.2, List.map_cons]
theorem opt_of (hT : TR T env) {x : Option Operand} (h : ∀ y, x = some y → okX y = true) : opt T x = some (oev env x) := by
  cases x with
  | none => rfl
  | some y => simp only [opt, ev_of hT (h y rfl), oev]
theorem evParts_of (hT : TR T env) : ∀ {l : List (Nat × Operand)}, (l.map (·.2)).all okX = true → evParts T l = some (l.map fun p => (p.1, evD env p.2))
  | [], _ => rfl
  | p :: l, h => by
    obtain ⟨i, x⟩ := p
    simp only [List.map_cons, List.all_cons, Bool.and_eq_true] at h
    simp only [evParts, ev_of hT h.1, evParts_of hT h.2, List.map_cons]
theorem fill_of {place : Nat → Option (Nat × Nat)} : ∀ {l : List (Nat × Operand)} {r : List (Nat × Nat × Operand)} {cs : List AVal}, places place l = some r → fillA place cs (l.map fun p => (p.1, evD env p.2)) = fillR cs (evPl env r)
  | [], r, cs, h => by cases h; rfl
  | (i, x) :: l, r, cs, h => by
    simp only [places] at h
    cases h1 : place i with
    | none => simp only [h1] at h; cases h
    | some p =>
      obtain ⟨off, size⟩ := p
      cases h2 : places place l with
      | none => simp only [h1, h2] at h; cases h
      | some r' =>
        simp only [h1, h2] at h
        cases h
        simp only [List.map_cons, fillA, h1, evPl, fillR]
        rw [fill_of h2]

/-! ### pure answers -/
theorem okv {o o' : Option AVal} {n : Nat → ANext → M AVal} {Q : AVal → Heap → Prop} (hn : ∀ k v, n k (.val v) = ret v) (h : optK o (Q · s)) (e : ∀ v, o = some v → o' = some v) :
    wpF (fun k => bd (bd (lift o') fun x => ret (ANext.val x)) (n k)) Q s := by
  obtain ⟨v, h1, h2⟩ := optK_some h
  intro H hH
  refine ⟨0, v, H, ?_, s, hH, .refl _, h2⟩
  rw [e v h1]
  show n 0 (.val v) H = _
  rw [hn]; rfl
theorem kval {m : M AVal} {n : Nat → ANext → M AVal} {Q : AVal → Heap → Prop} (hn : ∀ k v, n k (.val v) = ret v) (h : wpF (fun _ => m) Q s) :
    wpF (fun k => bd (bd m fun x => ret (ANext.val x)) (n k)) Q s := by
  refine h.congr fun k => ?_
  funext H
  simp only [bd]
  cases m H with
  | none => rfl
  | some r => simp only [ret, hn]
theorem kunit {m : M Unit} {n : Nat → ANext → M AVal} {Q : AVal → Heap → Prop} (hn : ∀ k v, n k (.val v) = ret v) (h : wpF (fun _ => m) (fun _ s' => Q .undef s') s) :
    wpF (fun k => bd (bd m fun _ => ret (ANext.val .undef)) (n k)) Q s := by
  intro H hH
  obtain ⟨n1, a, H', h1, h2⟩ := h H hH
  exact ⟨0, .undef, H', by simp only [bd, h1, ret, hn], h2⟩
theorem aggPart {t : TypeId} {g : Option Nat} (hg : aggOf P t = some g) {cs : List AVal} {off : Nat} {v : AVal} (h : partD g off cs = some v) : aPart P t cs off = some v := by
  unfold aggOf at hg
  unfold aPart
  cases ha : isAggT P t with
  | none => simp only [ha] at hg; cases hg
  | some b =>
    cases b with
    | true =>
      simp only [ha] at hg ⊢
      cases hz : sz P t with
      | none => simp only [hz] at hg; cases hg
      | some n =>
        simp only [hz] at hg ⊢
        cases hg
        simp only [partD, takeAt] at h
        cases hb : Nat.ble (off + n) cs.length with
        | true => simp only [hb, cond_true, Option.map_some, Option.some.injEq] at h ⊢; exact h
        | false => simp only [hb, cond_false, Option.map_none] at h; cases h
    | false =>
      simp only [ha] at hg ⊢
      cases hg
      exact h
theorem nat?_eq {x : AVal} {n : Nat} (h : nat? x = some n) : ∃ k, x = .int k (.ofNat n) := by
  unfold nat? at h
  split at h
  · cases h; exact ⟨_, rfl⟩
  · cases h
theorem fieldAddr_of {t : TypeId} {f k : Nat} (hk : offOf P t f = some k) (x v : AVal) (h : addOff k x = some v) : fieldAddrA P t x f = some v := by
  unfold addOff at h
  split at h
  · rename_i b o
    unfold offOf at hk
    unfold fieldAddrA
    cases hu : P.underlying t with
    | none => simp only [hu] at hk; cases hk
    | some d =>
      cases d with
      | struct fields =>
        simp only [hu] at hk ⊢
        cases hf : fields[f]? with
        | none => simp only [hf] at hk; cases hk
        | some fd =>
          simp only [hf] at hk ⊢
          cases hz : sz P fd.type with
          | none => simp only [hz] at hk; cases hk
          | some m =>
            cases m with
            | zero => simp only [hz] at hk; cases hk
            | succ m => simp only [hz] at hk ⊢; cases hk; rw [frcN_eq]; exact h
      | _ => simp only [hu] at hk; cases hk
  · cases h
theorem iaddrA_of {t : TypeId} {len n : Nat} {elem : TypeId} (hu : P.underlying t = some (.array len elem)) (hz : sz P elem = some n) (x i v : AVal) (h : iaddrA len n x i = some v) : indexAddrA P t x i = some v := by
  unfold iaddrA at h
  split at h
  · rename_i b o j hj
    simp only [indexAddrA, hu, hj, hz, frcN_eq]; exact h
  · cases h
theorem iaddrS_of {t : TypeId} {n : Nat} {elem : TypeId} (hu : P.underlying t = some (.slice elem)) (hz : sz P elem = some n) (x i v : AVal) (h : iaddrS n x i = some v) : indexAddrA P t x i = some v := by
  unfold iaddrS at h
  split at h
  · rename_i b o len c es j hj
    simp only [indexAddrA, hu, hj, hz, frcN_eq]; exact h
  · cases h
theorem indexD_of {t : TypeId} {len n : Nat} {elem : TypeId} {g : Option Nat} (hu : P.underlying t = some (.array len elem)) (hz : sz P elem = some n) (hg : aggOf P elem = some g) (x i v : AVal) (h : indexD len n g x i = some v) : indexA P t x i = some v := by
  unfold indexD at h
  split at h
  · rename_i cs j hj
    simp only [indexA, hu, hj, hz]
    obtain ⟨h1, h2⟩ := condO_some h
    rw [h1]; exact aggPart hg h2
  · cases h
theorem indexStr_of {t : TypeId} (hu : P.underlying t = some .string) (x i v : AVal) (h : indexStr x i = some v) : indexA P t x i = some v := by
  unfold indexStr at h
  split at h
  · rename_i cs j hj
    simp only [indexA, hu, hj]
    cases hb : cs[j]? with
    | none => simp only [hb] at h; cases h
    | some b => simp only [hb, frcN_eq] at h ⊢; exact h
  · cases h
theorem sliceS_of {t : TypeId} {es : Nat} {elem : TypeId} (hu : P.underlying t = some (.slice elem)) (hz : sz P elem = some es) (x v : AVal) (lo hi mx : Option AVal) (h : sliceS es x lo hi mx = some v) : sliceM P t x lo hi mx = lift (some v) := by
  have e : sliceM P t x lo hi mx = lift (sliceA P t x lo hi mx) := by
    unfold sliceM
    cases x <;> simp only [hu]
  rw [e]
  congr 1
  unfold sliceS at h
  unfold sliceA
  split at h
  · rename_i b o len cap es'
    simp only [hu, hz]
    cases h1 : bound mx (cap.getD len) (cap.getD len) with
    | none => simp only [h1] at h; cases h
    | some m =>
      simp only [h1] at h ⊢
      cases h2 : bound hi len m with
      | none => simp only [h2] at h; cases h
      | some hh =>
        simp only [h2] at h ⊢
        cases h3 : bound lo 0 hh with
        | none => simp only [h3] at h; cases h
        | some l =>
          simp only [h3, frcN_eq] at h ⊢
          obtain ⟨h4, h5⟩ := condO_some h
          rw [h4]
          exact h5
  · simp only [hu]
    cases h1 : bound lo 0 0 with
    | none => simp only [h1] at h; cases h
    | some a1 =>
      cases h2 : bound hi 0 0 with
      | none => simp only [h1, h2] at h; cases h
      | some a2 =>
        cases h3 : bound mx 0 0 with
        | none => simp only [h1, h2, h3] at h; cases h
        | some a3 =>
          simp only [h1, h2, h3] at h ⊢
          obtain ⟨h4, h5⟩ := condO_some h
          have hi : (P.info? elem).isSome = true := by
            unfold sz at hz
            cases hq : P.info? elem with
            | none => simp [hq] at hz
            | some _ => rfl
          rw [h4, hi]; exact h5
  · cases h
theorem wp_sliceP {t : TypeId} {es n : Nat} {elem : TypeId} {x : AVal} {lo hi mx : Option AVal} {Q : AVal → Heap → Prop} (hu : P.underlying t = some (.array n elem)) (hz : sz P elem = some es) (h : optK (sliceP s n es x lo hi mx) (Q · s)) : wpF (fun _ => sliceM P t x lo hi mx) Q s := by
  obtain ⟨v, h, hQ⟩ := optK_some h
  unfold sliceP at h
  split at h
  · rename_i b o
    split at h
    · rename_i tg e l hb
      obtain ⟨h0, h⟩ := condO_some h
      simp only [sliceM, hu, hz]
      refine wpF.bd (.const _) (fun _ => .const _) (wpF.rd hb fun ab hab => ?_)
      cases ab with
      | cells e' c' N =>
        obtain ⟨_, rfl, _⟩ := hab
        refine wpF.cond h0 (wpF.lift (a := v) ?_ hQ)
        simp only [sliceA, hu, hz]
        cases h1 : bound mx n n with
        | none => simp only [h1] at h; cases h
        | some m =>
          simp only [h1] at h ⊢
          cases h2 : bound hi n m with
          | none => simp only [h2] at h; cases h
          | some hh =>
            simp only [h2] at h ⊢
            cases h3 : bound lo 0 hh with
            | none => simp only [h3] at h; cases h
            | some l =>
              simp only [h3, frcN_eq] at h ⊢
              exact h
      | _ => exact hab.elim
    · cases h
  · cases h
theorem arithV_of {op : BinOp} {t : TypeId} {x y : Operand} (h1 : op ≠ .shl) (h2 : op ≠ .shr) (a b v : AVal) (h : arithV op a b = some v) : binA P op t x y a b = some v := by
  unfold arithV at h
  split at h
  · rename_i k m k' n
    unfold binA
    cases op <;> first | exact absurd rfl h1 | exact absurd rfl h2 | exact h
  · cases h
theorem shiftV_of {op : BinOp} {t : TypeId} {x y : Operand} (h1 : op = .shl ∨ op = .shr) (a b v : AVal) (h : shiftV op a b = some v) : binA P op t x y a b = some v := by
  unfold shiftV at h
  split at h
  · rename_i k m k' n
    unfold binA
    rcases h1 with rfl | rfl <;> exact h
  · cases h
theorem negB_some {neg : Bool} {r : Option Bool} {v : AVal} (h : negB neg r = some v) : ∃ b, r = some b ∧ v = .bool (cond neg (!b) b) := by
  cases r with
  | none => cases h
  | some b => exact ⟨b, rfl, (Option.some.inj h).symm⟩
theorem eqV_of {neg : Bool} {d : TypeDesc} {kd : Nat} {t : TypeId} {x y : Operand} (hu : P.underlying t = some d) (hk : kindOf d = some kd) (a b v : AVal) (h : negB neg (eqV kd (isC x || isC y) a b) = some v) :
    binA P (cond neg .neq .eql) t x y a b = some v := by
  obtain ⟨r, hr, rfl⟩ := negB_some h
  have key : ∀ (hint : ¬ ∃ k m k' n, a = .int k m ∧ b = .int k' n), guardPair P t x y a b = true → aEq P 30 t a b = some r → binA P (cond neg .neq .eql) t x y a b = some (.bool (cond neg (!r) r)) := by
    intro hint hg he
    have : ∀ op, binA P op t x y a b = (match op with
      | .eql => cond (guardPair P t x y a b) ((aEq P 30 t a b).map .bool) none
      | .neq => cond (guardPair P t x y a b) ((aEq P 30 t a b).map fun r => .bool !r) none
      | _ => none) := by
      intro op
      unfold binA
      split
      · rename_i k m k' n; exact absurd ⟨k, m, k', n, rfl, rfl⟩ hint
      · rfl
    rw [this]
    cases neg <;> simp [hg, he]
  unfold eqV at hr
  split at hr
  · rename_i k m k' n
    obtain ⟨h1, h2⟩ := condO_some hr
    cases h2
    unfold binA
    cases neg <;> simp only [cond_true, cond_false, h1, arith]
  all_goals first
    | (cases hr; done)
    | (obtain ⟨hcst, hr⟩ := condO_some hr
       cases hr
       refine key (by simp) ?_ ?_
       · simp only [guardPair]
         rw [← hcst]
         cases x <;> cases y <;> rfl
       · cases d <;> simp [kindOf] at hk <;> simp [aEq, hu])
    | (cases hr
       refine key (by simp) ?_ ?_
       · simp [guardPair, plainV]
       · cases d <;> simp [kindOf] at hk <;> simp [aEq, hu])
theorem conv_of {src dst : TypeId} {k k' : IntKind} (h1 : P.underlying src = some (.int k')) (h2 : P.underlying dst = some (.int k)) (x v : AVal) (h : convI k x = some v) : convertA P src dst x = some v := by
  unfold convI at h
  split at h
  · simp only [convertA, h1, h2, frc_eq]; exact h
  · cases h
theorem convS_of {src dst : TypeId} (h1 : P.underlying src = some .string) (h2 : P.underlying dst = some .string) (x v : AVal) (h : convS x = some v) : convertA P src dst x = some v := by
  unfold convS at h
  split at h
  · simp only [convertA, h1, h2]; exact h
  · cases h
theorem tass_of {t : TypeId} {d : TypeDesc} {ok : Bool} (hu : P.underlying t = some d) (hd : ∀ a, d ≠ .interface a) (x v : AVal) (h : tassV t (zeroA P t) ok x = some v) : typeAssertA P x t ok = some v := by
  unfold typeAssertA
  unfold tassV at h
  split at h
  · rename_i t' v'
    rw [hu]
    cases d <;> first | exact absurd rfl (hd _) | exact h
  · rw [hu]
    cases d <;> first | exact absurd rfl (hd _) | exact h
  · cases h
end Go.AM
namespace Go.AM
open Go
variable {α β : Type} {P : Program} {X : Told} {s : Heap} {T : Tmps} {env : Env} {K : AVal → Heap → Prop}
theorem wp_new {elem : TypeId} {cs : List AVal} {f : Nat → AVal} (h1 : allOne cs = true) (h : newK elem cs (fun b => K (f b)) s) : wpF (fun _ => bd (newCells elem cs) fun id => ret (f id)) K s :=
  wpF.bd (.const _) (fun _ => .const _) (wp_newCells h1 fun b hb => wpF.ret (h b hb))
theorem zcells_some {t : TypeId} {z : List AVal} (h : zcells P t = some z) : ∃ v, zeroA P t = some v ∧ z = v.cells ∧ allOne z = true := by
  unfold zcells at h
  cases hz : zeroA P t with
  | none => simp only [hz] at h; cases h
  | some v =>
    simp only [hz] at h
    obtain ⟨h1, h2⟩ := condO_some h
    cases h2
    exact ⟨v, rfl, rfl, h1⟩
theorem zelem_some {t : TypeId} {z : List AVal} {es : Nat} (h : zelem P t = some (z, es)) : ∃ v, zeroA P t = some v ∧ sz P t = some es ∧ z = v.cells ∧ z.length = es ∧ allOne z = true := by
  unfold zelem at h
  cases hz : zeroA P t with
  | none => simp only [hz] at h; cases h
  | some v =>
    cases hs : sz P t with
    | none => simp only [hz, hs] at h; cases h
    | some n =>
      simp only [hz, hs] at h
      obtain ⟨h1, h2⟩ := condO_some h
      cases h2
      obtain ⟨h3, h4⟩ := Bool.and_eq_true_iff.1 h1
      exact ⟨v, rfl, rfl, rfl, Nat.eq_of_beq_eq_true h3, h4⟩
theorem zeros_of {t : TypeId} {z : List AVal} {es : Nat} (h : zelem P t = some (z, es)) (n : Nat) : zeros P t n = some (repl n z, es) := by
  obtain ⟨v, h1, h2, h3, h4, _⟩ := zelem_some h
  have : Nat.beq v.cells.length es = true := by rw [← h3, h4]; exact Nat.beq_refl _
  simp only [zeros, h1, h2, this, cond_true, h3]

/-! ### append -/
theorem wp_first {es n : Nat} {x : AVal} {new : List AVal} {Q : List AVal → Heap → Prop} (h : rdSl s es x = some new) (hn : lenOfA x = some n) (hQ : allOne new = true → Q new s) : wpF (fun _ => firstA es n x) Q s := by
  unfold firstA
  cases x with
  | slc b o len cap es' =>
    cases hn
    unfold rdSl at h
    simp only at h
    obtain ⟨h1, h⟩ := condO_some h
    refine wpF.cond h1 ?_
    cases hz : Nat.beq (n * es) 0 with
    | true => rw [hz] at h; cases h; exact wpF.ret (hQ rfl)
    | false =>
      rw [hz, cond_false] at h
      split at h
      · rename_i t e l hb
        refine wp_loadCells (l := new) ?_ hQ
        simp only [rdN, hb]; exact h
      · cases h
  | nilslc => cases h; exact wpF.ret (hQ rfl)
  | _ => cases hn
theorem wp_drop {b : Nat} {elem : TypeId} {Q : Heap → Prop} (h : dropK elem b Q s) : wpF (fun _ => killC b elem) (fun _ s' => Q s') s := by
  unfold dropK at h
  split at h
  · rename_i e l hb
    obtain ⟨rfl, h2⟩ := h
    unfold killC
    refine wpF.bd (.const _) (fun _ => .const _) (wpF.rd hb fun ab hab => ?_)
    cases ab with
    | cells e' c' n' =>
      obtain ⟨rfl, _⟩ := hab
      exact wpF.cond (Nat.beq_refl _) (wpF.kill hb h2)
    | _ => exact hab.elim
  · exact h.elim
/-- what is read off a slice is one cell each, as all cells of memory are -/
theorem wp_allOne {l : List AVal} {elem : TypeId} {n es : Nat} {Q : AVal → Heap → Prop} (hl : allOne l = true) (h : growK elem es n l Q s) : Nat.ble n 16777216 = true ∧ wpF (fun _ => bd (newCells elem l) fun id => ret (.slc id 0 n none es)) Q s :=
  ⟨Nat.ble_eq_true_of_le h.1, wp_new hl h.2⟩
theorem wp_append {st xt elem : TypeId} {xe : TypeId} {x y : AVal} {z : List AVal} {es by_ : Nat} (hs : P.underlying st = some (.slice elem)) (hx : P.underlying xt = some (.slice xe)) (hz : zelem P elem = some (z, es)) (hb : bytesOf P elem = some by_)
    (hby : Nat.ble by_ 65536 = true) (h : appK elem es x y K s) : wpF (fun _ => appendA P st xt x y) K s := by
  obtain ⟨new, h1, h⟩ := optK_some h
  obtain ⟨n, h2, h⟩ := optK_some h
  unfold appendA
  simp only [hs, hx, zeros_of hz, hb, lenX, h2]
  cases x with
  | nilslc =>
    simp only
    cases n with
    | zero => exact wpF.ret h
    | succ n =>
      simp only at h ⊢
      have g1 := Nat.ble_eq_true_of_le h.1
      refine wpF.cond (by rw [g1, hby]; rfl) ?_
      refine wpF.bd (.const _) (fun _ => .const _) (wp_first h1 h2 fun hnew => (wp_allOne hnew h).2)
  | slc b o len cap es' =>
    simp only at h ⊢
    obtain ⟨rfl, h⟩ := h
    refine wpF.cond (Nat.beq_refl _) ?_
    cases n with
    | zero =>
      simp only at h
      cases cap with
      | some c =>
        have hc : Nat.ble (len + 0) c = true := Nat.ble_eq_true_of_le h.1
        simp only [wayA, hc]; exact wpF.ret h.2
      | none =>
        have : Nat.beq 0 0 = true := rfl
        simp only [wayA, this]; exact wpF.ret h.2
    | succ n =>
      simp only at h
      cases cap with
      | some c =>
        simp only [wayA] at h ⊢
        cases hc : Nat.ble (len + (n + 1)) c with
        | true =>
          simp only [hc, cond_true] at h ⊢
          obtain ⟨s', h3, h4⟩ := optK_some h
          simp only [frcN_eq]
          refine wpF.bd (.const _) (fun _ => .const _) (wp_first h1 h2 fun _ => ?_)
          exact wpF.bd (.const _) (fun _ => .const _) (wp_storeCells h3 (wpF.ret h4))
        | false =>
          simp only [hc, cond_false] at h ⊢
          obtain ⟨old, h3, h4⟩ := optK_some h
          have g1 := Nat.ble_eq_true_of_le h4.1
          refine wpF.cond (by rw [g1, hby]; rfl) ?_
          refine wpF.bd (.const _) (fun _ => .const _) (wp_first h3 rfl fun hold => ?_)
          refine wpF.bd (.const _) (fun _ => .const _) (wp_first h1 h2 fun hnew => ?_)
          refine wpF.bd (.const _) (fun _ => .const _) (wpF.ret ?_)
          simp only [frcN_eq]
          exact (wp_allOne (allOne_append hold hnew) h4).2
      | none =>
        have e0 : Nat.beq (n + 1) 0 = false := rfl
        simp only [wayA, e0] at h ⊢
        obtain ⟨old, h3, h4⟩ := optK_some h
        have g1 : Nat.ble (len + (n + 1)) 16777216 = true := by
          unfold dropK at h4
          split at h4
          · exact Nat.ble_eq_true_of_le h4.2.1
          · exact h4.elim
        refine wpF.cond (by rw [g1, hby]; rfl) ?_
        refine wpF.bd (.const _) (fun _ => .const _) (wp_first h3 rfl fun hold => ?_)
        refine wpF.bd (.const _) (fun _ => .const _) (wp_first h1 h2 fun hnew => ?_)
        refine wpF.bd (.const _) (fun _ => .const _) ?_
        simp only [cond_true, frcN_eq]
        exact (wp_drop h4).mono fun _ s' h5 => (wp_allOne (allOne_append hold hnew) h5).2
  | _ => exact h.elim

/-! ### other built-ins -/
theorem wp_clear {t elem : TypeId} {x : AVal} {z : List AVal} {es : Nat} (ht : P.underlying t = some (.slice elem)) (hz : zelem P elem = some (z, es)) (h : clearK z es x K s) : wpF (fun _ => clearA P t x) K s := by
  unfold clearA
  cases x with
  | nilslc => simp only [ht]; exact wpF.ret h
  | slc b o n cap es' =>
    obtain ⟨rfl, h⟩ := h
    simp only [ht, zeros_of hz]
    refine wpF.cond (Nat.beq_refl _) ?_
    cases n with
    | zero => exact wpF.ret h
    | succ n =>
      simp only at h ⊢
      obtain ⟨s', h3, h4⟩ := optK_some h
      exact wpF.bd (.const _) (fun _ => .const _) (wp_storeCells h3 (wpF.ret h4))
  | _ => exact h.elim
theorem wp_copy {t elem : TypeId} {d x : AVal} {es : Nat} (ht : P.underlying t = some (.slice elem)) (hz : sz P elem = some es) (h : copyK es d x K s) : wpF (fun _ => copyA P t d x) K s := by
  obtain ⟨m, h1, h2⟩ := optK_some h
  unfold copyA
  cases d with
  | slc b o k cap es' =>
    obtain ⟨rfl, h3, h4⟩ := h2
    have hk : lenOfA (.slc b o k cap es') = some k := rfl
    simp only [ht, h1, hk, hz, frcN_eq, Nat.min_eq_left h3]
    cases m with
    | zero => exact h4.elim
    | succ m =>
      simp only at h4
      obtain ⟨cs, h5, h6⟩ := optK_some h4
      obtain ⟨s', h7, h8⟩ := optK_some h6
      refine wpF.bd (.const _) (fun _ => .const _) (wp_first h5 h1 fun _ => ?_)
      refine wpF.cond (Nat.beq_refl _) ?_
      exact wpF.bd (.const _) (fun _ => .const _) (wp_storeCells h7 (wpF.ret h8))
  | _ => exact h2.elim
theorem wp_len {t : TypeId} {d : TypeDesc} {x : AVal} {n : Nat} (ht : P.underlying t = some d) (h : lenD d x = some n) (hK : K (.int .i64 n) s) : wpF (fun _ => lenA P t x) K s := by
  unfold lenA
  cases d with
  | string =>
    simp only [lenD] at h
    split at h
    · cases h; simp only [ht]; exact wpF.ret hK
    · cases h
  | array m e => cases h; simp only [ht]; exact wpF.ret hK
  | slice e =>
    simp only [lenD] at h
    cases x with
    | slc b o m cap es => cases h; simp only [ht]; exact wpF.ret hK
    | nilslc => cases h; simp only [ht]; exact wpF.ret hK
    | _ => cases h
  | _ => cases h
theorem wp_lenM {t : TypeId} {kt et : TypeId} {x : AVal} {n : Nat} (ht : P.underlying t = some (.map kt et)) (h : lenM s x = some n) (hK : K (.int .i64 n) s) : wpF (fun _ => lenA P t x) K s := by
  unfold lenA
  cases x with
  | nilmap => cases h; simp only [ht]; exact wpF.ret hK
  | map b =>
    simp only [lenM] at h
    simp only [ht]
    split at h
    · rename_i es c hb
      cases h
      refine wpF.bd (.const _) (fun _ => .const _) (wpF.rd hb fun ab hab => ?_)
      cases ab <;> first | exact hab.elim | skip
      obtain ⟨rfl, rfl⟩ := hab
      simp only [frcN_eq]
      exact wpF.ret hK
    · cases h
  | _ => cases h
theorem wp_builtin {b : Builtin} {ts : List TypeId} {args : List AVal} (h : builtK P b ts args K s) : wpF (fun _ => builtinA P b ts args) K s := by
  unfold builtK at h
  split at h
  · rename_i st xt x y
    show wpF (fun _ => appendA P st xt x y) K s
    cases h1 : P.underlying st with
    | none => simp only [h1] at h
    | some d1 =>
      cases h2 : P.underlying xt with
      | none => cases d1 <;> simp only [h1, h2] at h
      | some d2 =>
        cases d1 with
        | slice elem =>
          cases d2 with
          | slice e2 =>
            simp only [h1, h2] at h
            cases h3 : zelem P elem with
            | none => simp only [h3] at h
            | some p =>
              obtain ⟨z, es⟩ := p
              cases h4 : bytesOf P elem with
              | none => simp only [h3, h4] at h
              | some by_ =>
                simp only [h3, h4] at h
                cases h5 : Nat.ble by_ 65536 with
                | true => rw [h5] at h; exact wp_append h1 h2 h3 h4 h5 h
                | false => rw [h5] at h; exact h.elim
          | _ => simp only [h1, h2] at h
        | _ => simp only [h1, h2] at h
  · rename_i t ts x
    show wpF (fun _ => lenA P t x) K s
    cases h1 : P.underlying t with
    | none => simp only [h1] at h
    | some d =>
      cases d with
      | map kt et =>
        simp only [h1] at h
        obtain ⟨n, h2, h3⟩ := optK_some h
        exact wp_lenM h1 h2 h3
      | _ =>
        simp only [h1] at h
        obtain ⟨n, h2, h3⟩ := optK_some h
        exact wp_len h1 h2 h3
  · rename_i t ts x
    show wpF (fun _ => clearA P t x) K s
    cases h1 : P.underlying t with
    | none => simp only [h1] at h
    | some d =>
      cases d with
      | slice elem =>
        simp only [h1] at h
        cases h3 : zelem P elem with
        | none => simp only [h3] at h
        | some p =>
          obtain ⟨z, es⟩ := p
          simp only [h3] at h
          exact wp_clear h1 h3 h
      | _ => simp only [h1] at h
  · rename_i t ts d x
    show wpF (fun _ => copyA P t d x) K s
    cases h1 : P.underlying t with
    | none => simp only [h1] at h
    | some dd =>
      cases dd with
      | slice elem =>
        simp only [h1] at h
        cases h3 : sz P elem with
        | none => simp only [h3] at h
        | some es =>
          simp only [h3] at h
          exact wp_copy h1 h3 h
      | _ => simp only [h1] at h
  · rename_i x xs
    obtain ⟨v, h1, h2⟩ := optK_some h
    exact wpF.lift h1 h2
  · rename_i x xs
    obtain ⟨v, h1, h2⟩ := optK_some h
    exact wpF.lift h1 h2
  · exact h.elim
end Go.AM
namespace Go.AM
open Go
variable {α β : Type} {P : Program} {X : Told} {s : Heap} {T : Tmps} {env : Env} {K : AVal → Heap → Prop}
theorem mono_bd {m : Nat → M α} {f : Nat → α → M β} (hm : Mono m) (hf : ∀ a, Mono fun n => f n a) : Mono fun n => bd (m n) (f n) := by
  intro n n' H r hle h
  obtain ⟨a, H1, h1, h2⟩ := bd_some h
  show AM.bd _ _ _ = _
  unfold AM.bd
  rw [hm n n' H _ hle h1]
  exact hf a n n' H1 r hle h2
theorem bd_assoc {γ : Type} (m : M α) (f : α → M β) (g : β → M γ) : bd (bd m f) g = bd m fun a => bd (f a) g := by
  funext H
  simp only [bd]
  cases m H with
  | none => rfl
  | some r => rfl
theorem bd_ret (a : α) (f : α → M β) : bd (ret a) f = f a := rfl
theorem wp_out {t : Task} (h : wpT P X t (fun o s' => ∃ v, o = .val v ∧ K v s') s) : wpF (fun n => outVal (run P X n t)) K s := by
  refine wpF.bd (mono_run t) (fun _ => .const _) (wpF.mono h ?_)
  rintro o s' ⟨v, rfl, hv⟩
  exact wpF.ret hv
theorem wp_go {k : FuncId} {args : List AVal} (h : goK P X k args K s) : wpF (fun n => bd (goA P k args) (nextA (run P X n))) K s := by
  obtain ⟨h1, h2⟩ := h
  refine (wp_out h2).congr fun n => ?_
  unfold goA
  rw [h1]; rfl
theorem wp_meth {x : AVal} {name : String} {args : List AVal} (h : methK P X x name args K s) : ∃ t v, x = .ifc t v ∧ wpF (fun n => bd (bd (methodA P t v name) fun p => goA P p.1 (p.2 :: args)) (nextA (run P X n))) K s := by
  unfold methK at h
  split at h
  · rename_i t v
    refine ⟨t, v, rfl, ?_⟩
    refine (wpF.bd (f := fun n p => bd (goA P p.1 (p.2 :: args)) (nextA (run P X n))) (.const _) (fun p => mono_bd (.const _) fun _ => mono_next _) (wpF.mono h fun p s' hp => wp_go hp)).congr fun n => ?_
    rw [bd_assoc]
  · exact h.elim
theorem wp_call {c : Call} (hT : TR T env) (ho : c.operands.toList.all okX = true) (h : wpOp P X env K s (.call c)) : wpF (fun n => bd (callA P T c) (nextA (run P X n))) K s := by
  have hargs : c.args.toList.all okX = true := by
    have : ∀ x ∈ c.args.toList, okX x = true := fun x hx => List.all_eq_true.1 ho x (by unfold Call.operands; simp only [Array.toList_append, List.mem_append]; exact .inr hx)
    exact List.all_eq_true.2 this
  have hev := evs_of hT hargs
  unfold callA
  rw [hev]
  simp only [wpOp] at h
  cases hc : c.callee with
  | builtin b =>
    simp only [hc] at h ⊢
    exact kval (n := fun k => nextA (run P X k)) (fun _ _ => rfl) (wp_builtin h)
  | invoke r name =>
    have hr : okX r = true := List.all_eq_true.1 ho r (by simp [Call.operands, hc])
    simp only [hc, ev_of hT hr] at h ⊢
    obtain ⟨t, v, e, h⟩ := wp_meth h
    rw [e]
    exact h
  | value f =>
    have hf : okX f = true := List.all_eq_true.1 ho f (by simp [Call.operands, hc])
    simp only [hc, ev_of hT hf] at h ⊢
    have main : funK P X (evD env f) (c.args.toList.map (evD env)) K s → wpF (fun n => bd (match (some (evD env f) : Option AVal) with
      | some (.fn (.func k) first cap) => goA P k (first ++ c.args.toList.map (evD env) ++ cap)
      | some (.fn (.method name) [.ifc t v] _) => bd (methodA P t v name) fun p => goA P p.1 (p.2 :: c.args.toList.map (evD env))
      | some (.yield l) => bd (rd l) fun blk => match blk with
        | .loop _ _ _ _ ps _ _ _ => cond (Nat.beq ps.length (c.args.toList.map (evD env)).length) (ret (.round l (c.args.toList.map (evD env)))) fail
        | _ => fail
      | _ => fail) (nextA (run P X n))) K s := by
      intro h
      unfold funK at h
      split at h
      · rename_i k first cap he
        simp only [he]; exact wp_go h
      · rename_i name x w he
        obtain ⟨t, v, e, h2⟩ := wp_meth h
        subst e
        simp only [he]
        exact h2
      · rename_i l he
        simp only [he]
        obtain ⟨h1, h2⟩ := h
        unfold loopLen at h1
        split at h1
        · rename_i tg st pd nt en ps as bo d hb
          refine (wpF.bd (f := fun n blk => bd (match blk with
            | .loop _ _ _ _ ps _ _ _ => cond (Nat.beq ps.length (c.args.toList.map (evD env)).length) (ret (.round l (c.args.toList.map (evD env)))) fail
            | _ => fail) (nextA (run P X n))) (.const _) (fun _ => mono_bd (.const _) fun _ => mono_next _) (wpF.rd hb fun ab hab => ?_)).congr fun n => (bd_assoc _ _ _).symm
          cases ab with
          | loop st' pd' nt' T' ps' as' bo' d' =>
            obtain ⟨_, _, _, _, rfl, _⟩ := hab
            refine (wp_out h2).congr fun n => ?_
            have : Nat.beq ps.length (c.args.toList.map (evD env)).length = true := by rw [h1]; exact Nat.beq_refl _
            simp only [this]
            rfl
          | _ => exact hab.elim
        · exact h1.elim
      · exact h.elim
    cases f with
    | func k =>
      simp only at h
      cases hk : isFn P k with
      | true =>
        rw [hk] at h
        have := wp_go (P := P) (X := X) (k := k) (args := c.args.toList.map (evD env)) ⟨hk, h⟩
        simpa [evD] using this
      | false => rw [hk] at h; exact h.elim
    | tmp t => exact main h
    | const v => exact main h
    | global g => cases hf
theorem all_of {l : List Operand} (h : l.all okX = true) {x : Operand} (hx : x ∈ l) : okX x = true := List.all_eq_true.1 h x hx
theorem findE_I {kt : TypeId} {ik : IntKind} {k : AVal} : ∀ (es : List AEnt) (i : Nat), findE P kt (.int ik) k es i = findI k es i := by
  intro es
  induction es with
  | nil => intro i; rfl
  | cons e es ih =>
    intro i
    have : keyEqT P kt (.int ik) k e.key = keyEq (.int .i64) k e.key := by
      show keyEq (.int ik) k e.key = _
      cases k <;> cases e.key <;> rfl
    unfold findE findI
    rw [this]
    cases keyEq (.int .i64) k e.key with
    | none => rfl
    | some b => cases b <;> simp [ih]
theorem key_ok {kt : TypeId} {ik jk : IntKind} {n : Int} (h : P.underlying kt = some (.int ik)) : keyOkT P 10 kt (.int jk n) = true := by
  unfold keyOkT
  rw [h]
theorem wp_lookup {t kt et : TypeId} {ik : IntKind} {z x k : AVal} {ok : Bool} (h1 : P.underlying t = some (.map kt et)) (h2 : P.underlying kt = some (.int ik)) (h3 : zeroA P et = some z)
    (h : optK (getM s x k) fun r => K (retM z ok r) s) : wpF (fun _ => lookupA P t x k ok) K s := by
  obtain ⟨r, h4, h5⟩ := optK_some h
  unfold getM at h4
  cases k with
  | int jk n =>
    simp only at h4
    unfold lookupA
    simp only [h1, h2, h3]
    refine wpF.cond (key_ok h2) ?_
    cases x with
    | nilmap =>
      cases h4
      refine wpF.bd (.const _) (fun _ => .const _) (wpF.ret ?_)
      exact wpF.ret h5
    | map b =>
      simp only at h4
      split at h4
      · rename_i es c hb
        have key : ∀ q, findI (.int jk n) es 0 = some q → K (retM z ok (q.map Prod.snd)) s → wpF (fun _ => bd (bd (rd b) fun blk => match blk with
            | .map es _ => lift (findE P kt (.int ik) (.int jk n) es 0)
            | _ => fail) fun r => match r with
              | some (_, v) => ret (cond ok (.tup [v, .bool true]) v)
              | none => ret (cond ok (.tup [z, .bool false]) z)) K s := by
          intro q hq hk
          refine wpF.bd (.const _) (fun _ => .const _) (wpF.bd (.const _) (fun _ => .const _) (wpF.rd hb fun ab hab => ?_))
          cases ab <;> first | exact hab.elim | skip
          obtain ⟨rfl, rfl⟩ := hab
          refine wpF.lift (a := q) (by rw [findE_I]; exact hq) ?_
          cases q with
          | none => exact wpF.ret hk
          | some p => exact wpF.ret hk
        split at h4
        · rename_i p hp; cases h4; exact key _ hp h5
        · rename_i hp; cases h4; exact key _ hp h5
        · cases h4
      · cases h4
    | _ => cases h4
  | _ => cases h4
theorem wp_mapUpdate {t kt et : TypeId} {ik : IntKind} {m k v : AVal} (h1 : P.underlying t = some (.map kt et)) (h2 : P.underlying kt = some (.int ik))
    (h : optK (putM s m k v) (K .undef)) : wpF (fun _ => mapUpdateA P t m k v) (fun _ s' => K .undef s') s := by
  obtain ⟨s2, h4, h5⟩ := optK_some h
  unfold putM at h4
  cases k with
  | int jk n =>
    simp only at h4
    cases m with
    | map b =>
      simp only at h4
      split at h4
      · rename_i es c hb
        unfold mapUpdateA
        simp only [h1, h2]
        refine wpF.cond (key_ok h2) (wpF.bd (.const _) (fun _ => .const _) (wpF.rd hb fun ab hab => ?_))
        cases ab <;> first | exact hab.elim | skip
        obtain ⟨rfl, rfl⟩ := hab
        unfold putE at h4
        cases hq : findI (.int jk n) es 0 with
        | none => rw [hq] at h4; cases h4
        | some q =>
          rw [hq] at h4
          refine wpF.bd (.const _) (fun _ => .const _) (wpF.lift (a := q) (by rw [findE_I]; exact hq) ?_)
          cases q with
          | none =>
            simp only [Option.some.injEq] at h4
            simp only [frcN_eq]
            exact wpF.wr hb (x := .map (es ++ [{ key := .int jk n, val := v, born := c }]) (c + 1)) ⟨rfl, rfl⟩ (by rw [h4]; exact h5)
          | some p =>
            simp only [Option.some.injEq] at h4
            exact wpF.wr hb (x := .map (modE es p.1 fun e => { e with key := .int jk n, val := v }) c) ⟨rfl, rfl⟩ (by rw [h4]; exact h5)
      · cases h4
    | _ => cases h4
  | _ => cases h4
theorem wp_lookupG {t kt et : TypeId} {d : TypeDesc} {z x k : AVal} {ok : Bool} (h1 : P.underlying t = some (.map kt et)) (h2 : P.underlying kt = some d) (h3 : zeroA P et = some z)
    (h : optK (getG P kt s x k) fun r => K (retM z ok r) s) : wpF (fun _ => lookupA P t x k ok) K s := by
  obtain ⟨r, h4, h5⟩ := optK_some h
  unfold getG at h4
  rw [h2] at h4
  simp only at h4
  cases hc : (aggD d && keyOkT P 10 kt k) with
  | false => rw [hc] at h4; cases h4
  | true =>
  rw [hc, cond_true] at h4
  unfold lookupA
  simp only [h1, h2, h3]
  refine wpF.cond (Bool.and_eq_true_iff.1 hc).2 ?_
  cases x with
  | nilmap =>
    cases h4
    refine wpF.bd (.const _) (fun _ => .const _) (wpF.ret ?_)
    exact wpF.ret h5
  | map b =>
    simp only at h4
    split at h4
    · rename_i es c hb
      have key : ∀ q, findE P kt d k es 0 = some q → K (retM z ok (q.map Prod.snd)) s → wpF (fun _ => bd (bd (rd b) fun blk => match blk with
          | .map es _ => lift (findE P kt d k es 0)
          | _ => fail) fun r => match r with
            | some (_, v) => ret (cond ok (.tup [v, .bool true]) v)
            | none => ret (cond ok (.tup [z, .bool false]) z)) K s := by
        intro q hq hk
        refine wpF.bd (.const _) (fun _ => .const _) (wpF.bd (.const _) (fun _ => .const _) (wpF.rd hb fun ab hab => ?_))
        cases ab <;> first | exact hab.elim | skip
        obtain ⟨rfl, rfl⟩ := hab
        refine wpF.lift (a := q) hq ?_
        cases q with
        | none => exact wpF.ret hk
        | some p => exact wpF.ret hk
      split at h4
      · rename_i p hp; cases h4; exact key _ hp h5
      · rename_i hp; cases h4; exact key _ hp h5
      · cases h4
    · cases h4
  | _ => cases h4
theorem wp_mapUpdateG {t kt et : TypeId} {d : TypeDesc} {m k v : AVal} (h1 : P.underlying t = some (.map kt et)) (h2 : P.underlying kt = some d)
    (h : optK (putG P kt s m k v) (K .undef)) : wpF (fun _ => mapUpdateA P t m k v) (fun _ s' => K .undef s') s := by
  obtain ⟨s2, h4, h5⟩ := optK_some h
  unfold putG at h4
  rw [h2] at h4
  simp only at h4
  cases hc : (aggD d && keyOkT P 10 kt k) with
  | false => rw [hc] at h4; cases h4
  | true =>
  rw [hc, cond_true] at h4
  cases m with
  | map b =>
    simp only at h4
    split at h4
    · rename_i es c hb
      unfold mapUpdateA
      simp only [h1, h2]
      refine wpF.cond (Bool.and_eq_true_iff.1 hc).2 (wpF.bd (.const _) (fun _ => .const _) (wpF.rd hb fun ab hab => ?_))
      cases ab <;> first | exact hab.elim | skip
      obtain ⟨rfl, rfl⟩ := hab
      cases hq : findE P kt d k es 0 with
      | none => rw [hq] at h4; cases h4
      | some q =>
        rw [hq] at h4
        refine wpF.bd (.const _) (fun _ => .const _) (wpF.lift (a := q) hq ?_)
        cases q with
        | none =>
          simp only [Option.some.injEq] at h4
          simp only [frcN_eq]
          exact wpF.wr hb (x := .map (es ++ [{ key := k, val := v, born := c }]) (c + 1)) ⟨rfl, rfl⟩ (by rw [h4]; exact h5)
        | some p =>
          simp only [Option.some.injEq] at h4
          exact wpF.wr hb (x := .map (modE es p.1 fun e => { e with key := k, val := v }) c) ⟨rfl, rfl⟩ (by rw [h4]; exact h5)
    · cases h4
  | _ => cases h4
theorem wp_makeMap (h : mapK K s) : wpF (fun _ => makeMapA) K s := wpF.bd (.const _) (fun _ => .const _) (wpF.nw (x := .map [] 0) ⟨rfl, rfl⟩ fun b hb => wpF.ret (h b hb))
theorem wp_range {t kt et : TypeId} {x : AVal} (hu : P.underlying t = some (.map kt et)) (h : iterK x K s) : wpF (fun _ => rangeA P t x) K s := by
  unfold iterK at h
  unfold rangeA
  split at h
  · simp only [hu]
    exact wpF.bd (.const _) (fun _ => .const _) (wpF.nw (x := .iter none 0 [] 0) ⟨rfl, rfl, rfl, rfl⟩ fun b hb => wpF.ret (h b hb))
  · rename_i m
    split at h
    · rename_i t' es c hb
      simp only [hu]
      refine wpF.bd (.const _) (fun _ => .const _) (wpF.rd hb fun ab hab => ?_)
      cases ab <;> first | exact hab.elim | skip
      obtain ⟨rfl, rfl⟩ := hab
      exact wpF.bd (.const _) (fun _ => .const _) (wpF.nw (x := .iter (some m) c [] c) ⟨rfl, rfl, rfl, rfl⟩ fun b hb => wpF.ret (h b hb))
    · exact h.elim
  · exact h.elim
theorem wp_entry {x v : AVal} (h : entD s x = some v) (hK : K v s) : wpF (fun _ => entryA x) K s := by
  unfold entD at h
  unfold entryA
  split at h
  · rename_i r
    split at h
    · rename_i t m si seen stepped hr
      split at h
      · rename_i stamp hl
        split at h
        · rename_i t2 es c hm
          cases hc : Nat.beq c stepped with
          | false => rw [hc] at h; cases h
          | true =>
            rw [hc, cond_true] at h
            split at h
            · rename_i e he
              cases h
              refine wpF.bd (.const _) (fun _ => .const _) (wpF.rd hr fun ab hab => ?_)
              cases ab <;> first | exact hab.elim | skip
              obtain ⟨rfl, rfl, rfl, rfl⟩ := hab
              simp only [hl]
              refine wpF.bd (.const _) (fun _ => .const _) (wpF.rd hm fun ab hab => ?_)
              cases ab <;> first | exact hab.elim | skip
              obtain ⟨rfl, rfl⟩ := hab
              simp only [hc, cond_true, he]
              exact wpF.ret hK
            · cases h
        · cases h
      · cases h
    · cases h
  · cases h
theorem okOp_all {o : Op} (h : okOp o = true) (hn : ∀ t g, o ≠ .load t (.global g)) : o.operands.toList.all okX = true := by
  unfold okOp at h
  split at h
  · rename_i t g; exact absurd rfl (hn t g)
  · exact h
theorem wp_gload {t : TypeId} {g : Nat} {Q : AVal → Heap → Prop} (h : gldK P t g (Q · s) s) : wpF (fun _ => gloadA P t g) Q s := by
  unfold gldK aggOf at h
  cases ha : isAggT P t with
  | none => simp only [ha] at h
  | some ag =>
    cases ag with
    | false => simp only [ha] at h
    | true =>
      simp only [ha] at h
      cases hz : sz P t with
      | none => simp only [hz] at h
      | some n =>
        simp only [hz] at h
        obtain ⟨l, h1, h2⟩ := optK_some h
        unfold gldN at h1
        split at h1
        · rename_i w g' l' hb
          cases hc : (Nat.beq g g' && Nat.beq n l'.length) with
          | false => rw [hc] at h1; cases h1
          | true =>
            rw [hc, cond_true] at h1
            cases h1
            simp only [Bool.and_eq_true] at hc
            unfold gloadA
            refine wpF.bd (.const _) (fun _ => .const _) (wpF.rd hb fun ab hab => ?_)
            cases ab <;> first | exact hab.elim | skip
            obtain ⟨rfl, rfl⟩ := hab
            simp only [hc.1, cond_true, ha, hz, hc.2]
            exact wpF.ret h2
        · cases h1
theorem wpOp_ok {o : Op} (hT : TR T env) (ho : okOp o = true) (h : wpOp P X env K s o) : wpF (fun n => bd (opA P T o) (nextA (run P X n))) K s := by
  by_cases hgl : ∃ t g, o = .load t (.global g)
  · obtain ⟨t, g, rfl⟩ := hgl
    simp only [opA]
    exact kval (n := fun k => nextA (run P X k)) (fun _ _ => rfl) (wp_gload h)
  replace ho := okOp_all ho fun t g e => hgl ⟨t, g, e⟩
  have hn : ∀ (k : Nat) (v : AVal), nextA (run P X k) (.val v) = ret v := fun _ _ => rfl
  have hx : ∀ x ∈ o.operands.toList, ev T x = some (evD env x) := fun x hm => ev_of hT (all_of ho hm)
  have hmv : ∀ {v : AVal}, K v s → wpF (fun n => bd (bd (ret v) fun x => ret (ANext.val x)) (nextA (run P X n))) K s := fun hv => kval hn (wpF.ret hv)
  cases o with
  | move x =>
    simp only [opA, hx x (by simp [Op.operands])]
    exact hmv h
  | assign x =>
    simp only [opA, hx x (by simp [Op.operands])]
    exact hmv h
  | pick c a b =>
    simp only [opA, hx c (by simp [Op.operands]), hx a (by simp [Op.operands]), hx b (by simp [Op.operands])]
    obtain ⟨v, h1, h2⟩ := optK_some h
    unfold pickV at h1
    split at h1
    · rename_i e; cases h1; simp only [e]; exact hmv h2
    · rename_i e; cases h1; simp only [e]; exact hmv h2
    · cases h1
  | alloc t =>
    simp only [wpOp] at h
    cases hz : zcells P t with
    | none => simp only [hz] at h
    | some z =>
      simp only [hz] at h
      obtain ⟨v, h1, rfl, h2⟩ := zcells_some hz
      simp only [opA, allocA, h1]
      exact kval hn (wp_new h2 h)
  | box t x =>
    simp only [opA, hx x (by simp [Op.operands])]
    exact kval hn (wp_new h.1 h.2)
  | build t ps =>
    have hp : (ps.toList.map (·.2)).all okX = true := by simpa [Op.operands] using ho
    simp only [opA, evParts_of hT hp]
    simp only [wpOp] at h
    cases hz : zeroA P t with
    | none => simp only [hz] at h
    | some z =>
      cases hu : P.underlying t with
      | none => simp only [hz, hu] at h
      | some d =>
        cases d with
        | struct fields =>
          simp only [hz, hu] at h
          cases hf : (fields.toList.all fun f => (sz P f.type).isSome) with
          | false => rw [hf] at h; exact h.elim
          | true =>
            rw [hf] at h
            cases hl : places (placeOf P fields.toList) ps.toList with
            | none => simp only [hl] at h; exact h.elim
            | some l =>
              simp only [hl] at h
              obtain ⟨cs, h1, h2⟩ := optK_some (α := List AVal) h
              refine kval hn (wpF.lift (a := .agg cs) ?_ h2)
              simp only [buildA, hz, hu, hf, cond_true, fill_of hl, h1, Option.map_some]
        | array len elem =>
          simp only [hz, hu] at h
          cases hs : sz P elem with
          | none => simp only [hs] at h
          | some n =>
            simp only [hs] at h
            cases hl : places (fun i => some (i * n, n)) ps.toList with
            | none => simp only [hl] at h
            | some l =>
              simp only [hl] at h
              obtain ⟨cs, h1, h2⟩ := optK_some h
              refine kval hn (wpF.lift (a := .agg cs) ?_ h2)
              simp only [buildA, hz, hu, hs, fill_of hl, h1, Option.map_some]
        | _ => simp only [hz, hu] at h
  | buildSlice t len ps =>
    have hp : (ps.toList.map (·.2)).all okX = true := by simpa [Op.operands] using ho
    simp only [opA, evParts_of hT hp]
    simp only [wpOp] at h
    cases hu : P.underlying t with
    | none => simp only [hu] at h
    | some d =>
      cases d with
      | slice elem =>
        simp only [hu] at h
        cases hz : zelem P elem with
        | none => simp only [hz] at h
        | some p =>
          obtain ⟨z, es⟩ := p
          simp only [hz] at h
          cases hb : Nat.ble (len * es) 16777216 with
          | false => rw [hb] at h; exact h.elim
          | true =>
            rw [hb] at h
            cases hl : places (fun i => some (i * es, es)) ps.toList with
            | none => simp only [hl] at h; exact h.elim
            | some l =>
              simp only [hl] at h
              obtain ⟨cs, h1, h2, h3⟩ := optK_some (α := List AVal) h
              refine kval hn ?_
              simp only [buildSliceA, hu, zeros_of hz, hb, cond_true, fill_of hl, h1]
              exact wp_new h2 h3
      | _ => simp only [hu] at h
  | load t a =>
    have e1 := hx a (by simp [Op.operands])
    have hA : opA P T (.load t a) = (match ev T a with
      | some p => bd (match p with | .ptr b o => loadA P t b o | _ => fail) fun x => ret (.val x)
      | none => fail) := by cases a <;> first | rfl | (cases e1; done)
    have h' : loadK P t (evD env a) (K · s) s := by cases a <;> first | exact h | exact absurd rfl (fun e => hgl ⟨_, _, e⟩)
    simp only [hA, e1]
    exact kval hn (wp_load h')
  | store t a x =>
    simp only [opA, hx a (by simp [Op.operands]), hx x (by simp [Op.operands])]
    exact kunit hn (wp_store h)
  | nilCheck x =>
    simp only [opA, hx x (by simp [Op.operands])]
    exact okv hn h fun _ e => e
  | binOp op t x y yt =>
    simp only [opA, hx x (by simp [Op.operands]), hx y (by simp [Op.operands])]
    simp only [wpOp] at h
    have heq : ∀ neg, eqK P neg t (isC x || isC y) (evD env x) (evD env y) K s → wpF (fun n => bd (bd (lift (binA P (cond neg .neq .eql) t x y (evD env x) (evD env y))) fun x => ret (ANext.val x)) (nextA (run P X n))) K s := by
      intro neg h
      unfold eqK at h
      cases hu : P.underlying t with
      | none => simp only [hu] at h
      | some d =>
        simp only [hu] at h
        cases hk : kindOf d with
        | some kd =>
          simp only [hk] at h
          exact okv hn h fun v e => eqV_of hu hk _ _ v e
        | none =>
          simp only [hk] at h
          cases hg : P.eqGuardType P.depth t with
          | true => rw [hg] at h; exact h.elim
          | false =>
            rw [hg] at h
            simp only [cond_false] at h
            refine okv hn h fun v e => ?_
            obtain ⟨r, hr, rfl⟩ := negB_some e
            unfold eqAgg at hr
            split at hr
            · rename_i xs ys e1 e2
              rw [e1, e2] at hr ⊢
              unfold binA
              cases neg <;> simp [guardPair, hg, hr]
            · cases hr
    cases op with
    | eql => exact heq false h
    | neq => exact heq true h
    | shl => exact okv hn h fun v e => shiftV_of (.inl rfl) _ _ v e
    | shr => exact okv hn h fun v e => shiftV_of (.inr rfl) _ _ v e
    | _ => exact okv hn h fun v e => arithV_of (by simp) (by simp) _ _ v e
  | unOp op t x =>
    simp only [opA, hx x (by simp [Op.operands])]
    exact okv hn h fun _ e => e
  | convert a d x =>
    simp only [opA, hx x (by simp [Op.operands])]
    simp only [wpOp] at h
    cases h1 : P.underlying a with
    | none => simp only [h1] at h
    | some da =>
      cases h2 : P.underlying d with
      | none => cases da <;> simp only [h1, h2] at h
      | some dd =>
        cases da with
        | int k =>
          cases dd with
          | int k' =>
            simp only [h1, h2] at h
            exact okv hn h fun v e => conv_of h1 h2 _ v e
          | _ => simp only [h1, h2] at h
        | string =>
          cases dd with
          | string =>
            simp only [h1, h2] at h
            exact okv hn h fun v e => convS_of h1 h2 _ v e
          | _ => simp only [h1, h2] at h
        | _ => cases dd <;> simp only [h1, h2] at h
  | makeInterface t x =>
    simp only [opA, hx x (by simp [Op.operands])]
    simp only [wpOp] at h
    cases h1 : P.underlying t with
    | none => simp only [h1] at h
    | some d =>
      refine kval hn (wpF.lift (a := .ifc t (evD env x)) ?_ ?_)
      · unfold makeIfaceA; rw [h1]
        cases d <;> first | rfl | (simp only [h1] at h)
      · cases d <;> first | (simp only [h1] at h; done) | (simp only [h1] at h; exact h)
  | makeFunc f first cap =>
    have hp : first.toList.all okX = true ∧ cap.toList.all okX = true := by simpa [Op.operands] using ho
    simp only [opA, evs_of hT hp.1, evs_of hT hp.2]
    cases f with
    | func k => exact wpF.ret (s := s) h
    | method n => exact wpF.ret (s := s) h
    | _ => exact (show False from h).elim
  | makeSlice t l c =>
    simp only [opA, hx l (by simp [Op.operands]), hx c (by simp [Op.operands])]
    simp only [wpOp] at h
    cases hu : P.underlying t with
    | none => simp only [hu] at h
    | some d =>
      cases d with
      | slice elem =>
        simp only [hu] at h
        cases hz : zelem P elem with
        | none => simp only [hz] at h
        | some p =>
          obtain ⟨z, es⟩ := p
          cases hb : bytesOf P elem with
          | none => simp only [hz, hb] at h
          | some by_ =>
            simp only [hz, hb] at h
            cases hy : Nat.ble by_ 32768 with
            | false => rw [hy] at h; exact h.elim
            | true =>
              rw [hy] at h
              obtain ⟨l', e1, h⟩ := optK_some (α := Nat) h
              obtain ⟨c', e2, h⟩ := optK_some h
              refine kval hn ?_
              simp only [makeSliceA, hu, e1, e2, zeros_of hz, hb, hy, frcN_eq]
              obtain ⟨_, _, _, _, _, h1⟩ := zelem_some hz
              refine wpF.cond ?_ (wp_new (allOne_repl h1 _) h.2)
              rw [Nat.ble_eq_true_of_le h.1.1, Nat.ble_eq_true_of_le h.1.2]; rfl
      | _ => simp only [hu] at h
  | slice t x lo hi mx =>
    have hlo := opt_of hT (x := lo) fun y hy => all_of ho (by simp [Op.operands, hy])
    have hhi := opt_of hT (x := hi) fun y hy => all_of ho (by simp [Op.operands, hy])
    have hmx := opt_of hT (x := mx) fun y hy => all_of ho (by simp [Op.operands, hy])
    simp only [opA, hx x (by simp [Op.operands]), hlo, hhi, hmx]
    simp only [wpOp] at h
    cases hu : P.underlying t with
    | none => simp only [hu] at h
    | some d =>
      cases d with
      | slice elem =>
        simp only [hu] at h
        cases hz : sz P elem with
        | none => simp only [hz] at h
        | some es =>
          simp only [hz] at h
          obtain ⟨v, h1, h2⟩ := optK_some h
          refine kval hn ?_
          rw [sliceS_of hu hz _ v _ _ _ h1]
          exact wpF.lift rfl h2
      | array n elem =>
        simp only [hu] at h
        cases hz : sz P elem with
        | none => simp only [hz] at h
        | some es =>
          simp only [hz] at h
          exact kval hn (wp_sliceP hu hz h)
      | _ => simp only [hu] at h
  | fieldAddr t x f =>
    simp only [opA, hx x (by simp [Op.operands])]
    simp only [wpOp] at h
    cases hk : offOf P t f with
    | none => simp only [hk] at h
    | some k =>
      simp only [hk] at h
      exact okv hn h fun v e => fieldAddr_of hk _ v e
  | field t x f =>
    simp only [opA, hx x (by simp [Op.operands])]
    simp only [wpOp] at h
    cases hu : P.underlying t with
    | none => simp only [hu] at h
    | some d =>
      cases d with
      | struct fields =>
        simp only [hu] at h
        cases hf : fields[f]? with
        | none => simp only [hf] at h
        | some fd =>
          simp only [hf] at h
          cases hg : aggOf P fd.type with
          | none => simp only [hg] at h
          | some g =>
            simp only [hg] at h
            refine okv hn h fun v e => ?_
            unfold fieldD at e
            split at e
            · rename_i cs e0
              rw [e0]
              simp only [fieldA, hu, hf]
              exact aggPart hg e
            · cases e
      | _ => simp only [hu] at h
  | indexAddr t x i =>
    simp only [opA, hx x (by simp [Op.operands]), hx i (by simp [Op.operands])]
    simp only [wpOp] at h
    cases hu : P.underlying t with
    | none => simp only [hu] at h
    | some d =>
      cases d with
      | array len elem =>
        simp only [hu] at h
        cases hz : sz P elem with
        | none => simp only [hz] at h
        | some n =>
          simp only [hz] at h
          exact okv hn h fun v e => iaddrA_of hu hz _ _ v e
      | slice elem =>
        simp only [hu] at h
        cases hz : sz P elem with
        | none => simp only [hz] at h
        | some n =>
          simp only [hz] at h
          exact okv hn h fun v e => iaddrS_of hu hz _ _ v e
      | _ => simp only [hu] at h
  | index t x i =>
    simp only [opA, hx x (by simp [Op.operands]), hx i (by simp [Op.operands])]
    simp only [wpOp] at h
    cases hu : P.underlying t with
    | none => simp only [hu] at h
    | some d =>
      cases d with
      | array len elem =>
        simp only [hu] at h
        cases hz : sz P elem with
        | none => simp only [hz] at h
        | some n =>
          cases hg : aggOf P elem with
          | none => simp only [hz, hg] at h
          | some g =>
            simp only [hz, hg] at h
            exact okv hn h fun v e => indexD_of hu hz hg _ _ v e
      | string =>
        simp only [hu] at h
        exact okv hn h fun v e => indexStr_of hu _ _ v e
      | _ => simp only [hu] at h
  | typeAssert x xt t ok =>
    simp only [opA, hx x (by simp [Op.operands])]
    simp only [wpOp] at h
    cases hu : P.underlying t with
    | none => simp only [hu] at h
    | some d =>
      cases d with
      | interface _ => simp only [hu] at h
      | _ => (simp only [hu] at h; exact okv hn h fun v e => tass_of hu (by simp) _ v e)
  | extract x i =>
    simp only [opA, hx x (by simp [Op.operands])]
    exact okv hn h fun _ e => e
  | makeMap t r =>
    have e1 : opt T r = some (oev env r) := opt_of hT fun y hy => all_of (l := (Op.makeMap t r).operands.toList) ho (by subst hy; simp [Op.operands])
    simp only [opA, e1]
    simp only [wpOp] at h
    cases hu : P.underlying t with
    | none => simp only [hu] at h
    | some d =>
      cases d with
      | map kt et =>
        simp only [hu] at h
        cases r with
        | none => exact kval hn (wp_makeMap h)
        | some x =>
          simp only [oev]
          simp only at h
          unfold intK at h
          split at h
          · rename_i q n hq
            rw [hq]
            exact kval hn (wp_makeMap h)
          · exact h.elim
      | _ => simp only [hu] at h
  | lookup t x k ok =>
    simp only [opA, hx x (by simp [Op.operands]), hx k (by simp [Op.operands])]
    simp only [wpOp] at h
    cases hu : P.underlying t with
    | none => simp only [hu] at h
    | some d =>
      cases d with
      | map kt et =>
        simp only [hu] at h
        cases hk : P.underlying kt with
        | none => simp only [hk] at h
        | some kd =>
          cases hz : zeroA P et with
          | none => cases kd <;> simp only [hk, hz] at h
          | some z =>
            cases kd with
            | int ik =>
              simp only [hk, hz] at h
              exact kval hn (wp_lookup hu hk hz h)
            | _ =>
              simp only [hk, hz] at h
              exact kval hn (wp_lookupG hu hk hz h)
      | _ => simp only [hu] at h
  | mapUpdate t m k x =>
    simp only [opA, hx m (by simp [Op.operands]), hx k (by simp [Op.operands]), hx x (by simp [Op.operands])]
    simp only [wpOp] at h
    cases hu : P.underlying t with
    | none => simp only [hu] at h
    | some d =>
      cases d with
      | map kt et =>
        simp only [hu] at h
        cases hk : P.underlying kt with
        | none => simp only [hk] at h
        | some kd =>
          cases kd with
          | int ik =>
            simp only [hk] at h
            exact kunit hn (wp_mapUpdate hu hk h)
          | _ =>
            simp only [hk] at h
            exact kunit hn (wp_mapUpdateG hu hk h)
      | _ => simp only [hu] at h
  | insert t m k x =>
    simp only [opA, hx m (by simp [Op.operands]), hx k (by simp [Op.operands]), hx x (by simp [Op.operands])]
    simp only [wpOp] at h
    cases hu : P.underlying t with
    | none => simp only [hu] at h
    | some d =>
      cases d with
      | map kt et =>
        simp only [hu] at h
        cases hk : P.underlying kt with
        | none => simp only [hk] at h
        | some kd =>
          cases kd with
          | int ik =>
            simp only [hk] at h
            exact kunit hn (wp_mapUpdate hu hk h)
          | _ =>
            simp only [hk] at h
            exact kunit hn (wp_mapUpdateG hu hk h)
      | _ => simp only [hu] at h
  | entry x =>
    simp only [opA, hx x (by simp [Op.operands])]
    obtain ⟨v, h1, h2⟩ := optK_some h
    exact kval hn (wp_entry h1 h2)
  | range t x =>
    simp only [opA, hx x (by simp [Op.operands])]
    simp only [wpOp] at h
    cases hu : P.underlying t with
    | none => simp only [hu] at h
    | some d =>
      cases d with
      | map kt et =>
        simp only [hu] at h
        exact kval hn (wp_range hu h)
      | _ => simp only [hu] at h
  | sliceToArrayPointer t x =>
    simp only [opA, hx x (by simp [Op.operands])]
    refine okv hn h fun v e => ?_
    unfold s2apD at e
    split at e
    · rename_i m q hu
      unfold s2apN at e
      unfold s2apA
      split at e
      · rename_i b o len cap es he
        simp only [hu, he]
        exact e
      · cases e
    · cases e
  | call c => exact wp_call hT ho h
  | _ => exact (show False from h).elim
end Go.AM
namespace Go.AM
open Go
variable {α β : Type} {P : Program} {X : Told} {s : Heap} {T : Tmps} {env : Env} {nt : Nat}
theorem tr_upd2 {v : AVal} {dst : Option Tmp} {K : Env → Prop} (hT : TR T env) (h : setK nt dst env v K) : ∃ T' env', setT nt T dst v = some T' ∧ TR T' env' ∧ K env' ∧ (∀ d, dst ≠ some d → env' d = env d) ∧ ∀ d, dst = some d → env' d = v := by
  cases dst with
  | none => exact ⟨T, env, rfl, hT, h, fun _ _ => rfl, fun _ e => by cases e⟩
  | some d =>
    unfold setK at h
    cases hd : Nat.blt d nt with
    | false => simp only [hd] at h; exact h.elim
    | true =>
      simp only [hd] at h
      refine ⟨T.put d (some v), upd env d v, by simp [setT, hd], fun i => ?_, h, fun i hi => ?_, fun i hi => ?_⟩
      · unfold tget upd
        rw [Tr.get_put]
        by_cases e : d = i
        · subst e; simp
        · have : Nat.beq i d = false := by
            cases hq : Nat.beq i d with
            | false => rfl
            | true => exact absurd (Nat.eq_of_beq_eq_true hq).symm e
          rw [if_neg e, this]; exact hT i
      · unfold upd
        have : Nat.beq i d = false := by
          cases hq : Nat.beq i d with
          | false => rfl
          | true => exact absurd (by rw [Nat.eq_of_beq_eq_true hq]) hi
        rw [this]; rfl
      · cases hi
        unfold upd
        rw [Nat.beq_refl]; rfl
theorem tr_upd {v : AVal} {dst : Option Tmp} {K : Env → Prop} (hT : TR T env) (h : setK nt dst env v K) : ∃ T' env', setT nt T dst v = some T' ∧ TR T' env' ∧ K env' ∧ ∀ d, dst ≠ some d → env' d = env d :=
  let ⟨T', env', h1, h2, h3, h4, _⟩ := tr_upd2 hT h
  ⟨T', env', h1, h2, h3, h4⟩
def knV : Option Bool → AVal
  | some b => .bool b
  | none => .undef
def KnOk (kn : Kn) (env : Env) : Prop := ∀ d b, known kn d = some b → env d = knV b
theorem known_filter : ∀ {kn : Kn} {d d' : Nat} {b : Option Bool}, known (kn.filter fun p => !Nat.beq p.1 d) d' = some b → d' ≠ d ∧ known kn d' = some b
  | [], _, _, _, h => by cases h
  | p :: ps, d, d', b, h => by
    rw [List.filter_cons] at h
    by_cases hp : Nat.beq p.1 d = true
    · rw [if_neg (by simp [hp])] at h
      obtain ⟨h1, h2⟩ := known_filter h
      refine ⟨h1, ?_⟩
      unfold known
      have : Nat.beq p.1 d' = false := by
        cases hq : Nat.beq p.1 d' with
        | false => rfl
        | true => exact absurd ((Nat.eq_of_beq_eq_true hq).symm.trans (Nat.eq_of_beq_eq_true hp)) h1
      rw [this]; exact h2
    · rw [if_pos (by simp [hp])] at h
      unfold known at h ⊢
      cases hq : Nat.beq p.1 d' with
      | true =>
        rw [hq] at h
        refine ⟨fun e => hp ?_, h⟩
        rw [← e]; exact hq
      | false => rw [hq] at h; exact known_filter h
theorem KnOk.forget {kn : Kn} {env' : Env} {dst : Option Tmp} (h : KnOk kn env) (he : ∀ d, dst ≠ some d → env' d = env d) : KnOk (forget kn dst) env' := by
  intro d b hd
  cases dst with
  | none => rw [he d (by simp)]; exact h d b hd
  | some d0 =>
    obtain ⟨h1, h2⟩ := known_filter hd
    rw [he d (fun e => h1 (Option.some.inj e).symm)]; exact h d b h2
theorem KnOk.cons {kn : Kn} {d : Nat} {b : Option Bool} (h : KnOk kn env) (he : env d = knV b) : KnOk ((d, b) :: kn) env := by
  intro d' b' h'
  unfold known at h'
  cases hq : Nat.beq d d' with
  | true => rw [hq] at h'; cases h'; rw [← Nat.eq_of_beq_eq_true hq]; exact he
  | false => rw [hq] at h'; exact h d' b' h'
theorem KnOk.mark {kn : Kn} {env' : Env} {dst : Option Tmp} (h : KnOk kn env) (he : ∀ d, dst ≠ some d → env' d = env d) (hv : ∀ d, dst = some d → env' d = .undef) : KnOk (mark kn dst) env' := by
  cases dst with
  | none => exact h.forget (dst := none) he
  | some d => exact (h.forget he).cons (hv d rfl)
theorem KnOk.nil : KnOk [] env := fun _ _ h => by cases h
theorem wanted_of {all : List Oper} {j d : Nat} {w b : Bool} (hT : TR T env) (hd : dstOf all j = some d) (he : env d = .bool b) : wantedA all T (some (j, w)) = some (b == w) := by
  unfold dstOf at hd
  simp only [wantedA]
  cases hj : all[j]? with
  | none => rw [hj] at hd; cases hd
  | some o =>
    rw [hj] at hd
    simp only at hd ⊢
    rw [hd]
    have := hT d
    rw [he] at this
    unfold tget at this
    cases hg : T.get d with
    | none => rw [hg] at this; cases this
    | some v => rw [hg] at this; simp only [Option.getD_some] at this; subst this; simp only [hg]
theorem wanted_none {all : List Oper} {j : Nat} {w : Bool} (hd : dstOf all j = none) : wantedA all T (some (j, w)) = some false := by
  unfold dstOf at hd
  simp only [wantedA]
  cases hj : all[j]? with
  | none => rfl
  | some o => rw [hj] at hd; simp only at hd ⊢; rw [hd]
theorem wanted_undef {all : List Oper} {j d : Nat} {w : Bool} (hT : TR T env) (hd : dstOf all j = some d) (he : env d = .undef) : wantedA all T (some (j, w)) = some false := by
  unfold dstOf at hd
  simp only [wantedA]
  cases hj : all[j]? with
  | none => simp [hj] at hd
  | some o =>
    rw [hj] at hd
    simp only at hd ⊢
    rw [hd]
    have := hT d
    rw [he] at this
    unfold tget at this
    cases hg : T.get d with
    | none => simp only [hg]
    | some v => rw [hg] at this; simp only [Option.getD_some] at this; subst this; simp only [hg]; rfl
theorem guardE_ok {all : List Oper} {g : Option (Nat × Bool)} {kn : Kn} {go skip : Kn → Prop} (hT : TR T env) (hk : KnOk kn env) (h : guardE all g kn env go skip) :
    ∃ kn', KnOk kn' env ∧ ((wantedA all T g = some true ∧ go kn') ∨ (wantedA all T g = some false ∧ skip kn')) := by
  unfold guardE at h
  split at h
  · exact ⟨kn, hk, .inl ⟨rfl, h⟩⟩
  · rename_i j w
    split at h
    · rename_i hd; exact ⟨kn, hk, .inr ⟨wanted_none hd, h⟩⟩
    · rename_i d hd
      split at h
      · rename_i b hb
        have := wanted_of (w := w) hT hd (hk d (some b) hb)
        refine ⟨kn, hk, ?_⟩
        cases hbw : (b == w) with
        | true => rw [hbw] at h this; exact .inl ⟨this, h⟩
        | false => rw [hbw] at h this; exact .inr ⟨this, h⟩
      · rename_i hb
        exact ⟨kn, hk, .inr ⟨wanted_undef hT hd (hk d none hb), h⟩⟩
      · unfold boolK at h
        split at h
        · rename_i he
          have := wanted_of (w := w) hT hd he
          refine ⟨_, hk.cons (b := some true) he, ?_⟩
          cases w with
          | true => exact .inl ⟨this, h⟩
          | false => exact .inr ⟨this, h⟩
        · rename_i he
          have := wanted_of (w := w) hT hd he
          refine ⟨_, hk.cons (b := some false) he, ?_⟩
          cases w with
          | true => exact .inr ⟨this, h⟩
          | false => exact .inl ⟨this, h⟩
        · exact h.elim
theorem mono_valOp {all : List Oper} {o : Oper} : Mono fun n => valOp P (run P X n) all o T := mono_of fun n => by
  unfold valOp
  split
  · exact LeM.bd (LeM.refl _) fun _ => le_nextA (le_run n) _
  · exact LeM.refl _
  · exact LeM.refl _
theorem wp_oneOp {all : List Oper} {o : Oper} {Q : AVal → Heap → Prop} {R : Tmps → Heap → Prop} (h : wpF (fun n => valOp P (run P X n) all o T) Q s) (hQ : ∀ v s', Q v s' → ∃ T', setT nt T o.dst v = some T' ∧ R T' s') :
    wpF (fun n => oneOp P (run P X n) nt all o T) R s := by
  refine wpF.bd (f := fun _ v => lift (setT nt T o.dst v)) mono_valOp (fun _ => .const _) (h.mono fun v s' hv => ?_)
  obtain ⟨T', h1, h2⟩ := hQ v s' hv
  exact wpF.lift h1 h2
theorem wp_val_go {all : List Oper} {o : Oper} {Q : AVal → Heap → Prop} (hw : wantedA all T o.guard = some true) (hT : TR T env) (ho : okOp o.op = true) (h : wpOp P X env Q s o.op) : wpF (fun n => valOp P (run P X n) all o T) Q s := by
  refine (wpOp_ok hT ho h).congr fun n => ?_
  unfold valOp; rw [hw]
theorem wp_val_skip {all : List Oper} {o : Oper} {Q : AVal → Heap → Prop} (hw : wantedA all T o.guard = some false) (h : Q .undef s) : wpF (fun n => valOp P (run P X n) all o T) Q s := by
  refine (wpF.ret h).congr fun n => ?_
  unfold valOp; rw [hw]
theorem opsE_ok {all : List Oper} {K : Env → Heap → Prop} : ∀ (os : List Oper) (kn : Kn) (env : Env) (s : Heap) (T : Tmps), (os.all fun o => okOp o.op) = true → TR T env → KnOk kn env → opsE P X nt all os kn env K s →
    wpF (fun n => opsA P (run P X n) nt all os T) (fun T' s' => ∃ env', TR T' env' ∧ K env' s' ∧ ∀ j, (∀ o ∈ os, o.dst ≠ some j) → env' j = env j) s
  | [], _, env, s, T, _, hT, _, h => wpF.ret ⟨env, hT, h, fun _ _ => rfl⟩
  | o :: os, kn, env, s, T, ha, hT, hk, h => by
    simp only [List.all_cons, Bool.and_eq_true] at ha
    obtain ⟨kn', hk', hcase⟩ := guardE_ok hT hk h
    have next : ∀ (v : AVal) (kn2 : Kn), (∀ env', (∀ d, o.dst ≠ some d → env' d = env d) → (∀ d, o.dst = some d → env' d = v) → KnOk kn2 env') → ∀ (s' : Heap), (setK nt o.dst env v fun env => opsE P X nt all os kn2 env K s') → ∃ T', setT nt T o.dst v = some T' ∧ wpF (fun n => opsA P (run P X n) nt all os T') (fun T' s' => ∃ env', TR T' env' ∧ K env' s' ∧ ∀ j, (∀ o_1 ∈ o :: os, o_1.dst ≠ some j) → env' j = env j) s' := by
      intro v kn2 hk2 s' hv
      obtain ⟨T', env', e1, e2, e3, e4, e5⟩ := tr_upd2 hT hv
      refine ⟨T', e1, (opsE_ok os _ env' s' T' ha.2 e2 (hk2 env' e4 e5) e3).mono ?_⟩
      rintro T2 s2 ⟨env2, q1, q2, q3⟩
      exact ⟨env2, q1, q2, fun j hj => (q3 j fun p hp => hj p (by simp [hp])).trans (e4 j (hj o (by simp)))⟩
    have mono1 : Mono fun n => oneOp P (run P X n) nt all o T := mono_of fun n => le_oneOp (le_run n) _ _ _ _
    refine wpF.bd (f := fun n T => opsA P (run P X n) nt all os T) mono1 (fun T => mono_opsA _ _ _ _) ?_
    rcases hcase with ⟨hw, h⟩ | ⟨hw, h⟩
    · exact wp_oneOp (wp_val_go hw hT ha.1 h) fun v s' hv => next v _ (fun env' e4 _ => hk'.forget e4) s' hv
    · exact wp_oneOp (wp_val_skip (s := s) (Q := fun v s' => v = .undef ∧ setK nt o.dst env v fun env => opsE P X nt all os (mark kn' o.dst) env K s') hw ⟨rfl, h⟩) fun v s' hv => next v _ (fun env' e4 e5 => hk'.mark e4 fun d hd => by rw [e5 d hd, hv.1]) s' hv.2
end Go.AM
namespace Go.AM
open Go
variable {α β : Type} {P : Program} {X : Told} {s : Heap} {T : Tmps} {env : Env} {nt : Nat} {ih : Task → M Out}
/-! ### which operations touch what -/
def RO (m : M α) : Prop := ∀ H a H', m H = some (a, H') → ∃ es : List (Nat × Bool), (∀ e ∈ es, e.2 = false) ∧ H' = { H with log := es ++ H.log }
def NE (m : M α) : Prop := ∀ H a H', m H = some (a, H') → H' = H
theorem ne_ret (a : α) : NE (ret a) := fun H b H' h => by cases ret_some h; rfl
theorem ne_fail : NE (fail : M α) := fun H _ _ h => (fail_some (H := H) h).elim
theorem ne_lift (o : Option α) : NE (lift o) := fun H b H' h => by obtain ⟨a, _, h2⟩ := lift_some h; cases h2; rfl
theorem ne_bd {m : M α} {f : α → M β} (hm : NE m) (hf : ∀ a, NE (f a)) : NE (bd m f) := fun H b H' h => by
  obtain ⟨a, H1, h1, h2⟩ := bd_some h
  rw [hf a H1 b H' h2, hm H a H1 h1]
theorem ne_cond {b : Bool} {x y : M α} (hx : NE x) (hy : NE y) : NE (cond b x y) := by cases b <;> assumption
theorem NE.ro {m : M α} (h : NE m) : RO m := fun H a H' e => ⟨[], by simp, by rw [h H a H' e]; rfl⟩
theorem ro_bd {m : M α} {f : α → M β} (hm : RO m) (hf : ∀ a, RO (f a)) : RO (bd m f) := fun H b H' h => by
  obtain ⟨a, H1, h1, h2⟩ := bd_some h
  obtain ⟨e1, k1, rfl⟩ := hm H a H1 h1
  obtain ⟨e2, k2, rfl⟩ := hf a _ b H' h2
  exact ⟨e2 ++ e1, fun e he => by rcases List.mem_append.1 he with he | he; exact k2 e he; exact k1 e he, by simp⟩
theorem ro_cond {b : Bool} {x y : M α} (hx : RO x) (hy : RO y) : RO (cond b x y) := by cases b <;> assumption
theorem ro_rd (id : Nat) : RO (rd id) := fun H b H' h => by
  unfold rd at h
  cases hb : H.blks.get id with
  | none => simp [hb] at h
  | some x => simp only [hb, Option.some.injEq, Prod.mk.injEq] at h; exact ⟨[(id, false)], by simp, h.2.symm⟩
theorem ro_ret (a : α) : RO (ret a) := (ne_ret a).ro
theorem ro_fail : RO (fail : M α) := ne_fail.ro
theorem ro_lift (o : Option α) : RO (lift o) := (ne_lift o).ro
theorem ro_loadA (t : TypeId) (b o : Nat) : RO (loadA P t b o) := by
  unfold loadA loadCellsA
  repeat' first | exact ro_fail | exact ro_lift _ | exact ro_ret _ | exact ro_rd _ | (refine ro_bd ?_ fun _ => ?_) | split
theorem ro_sliceM (t : TypeId) (x : AVal) (lo hi mx : Option AVal) : RO (sliceM P t x lo hi mx) := by
  unfold sliceM
  repeat' first | exact ro_fail | exact ro_lift _ | exact ro_ret _ | exact ro_rd _ | (refine ro_cond ?_ ?_) | (refine ro_bd ?_ fun _ => ?_) | split
theorem ro_lenA (t : TypeId) (x : AVal) : RO (lenA P t x) := by
  unfold lenA
  simp only [frcN_eq]
  repeat' first | exact ro_fail | exact ro_ret _ | exact ro_rd _ | (refine ro_bd ?_ fun _ => ?_) | split
/-- the operation answers at once -/
def AtOnce (m : M ANext) : Prop := ∀ H x H', m H = some (x, H') → ∃ v, x = .val v
theorem ao_ret (v : AVal) : AtOnce (ret (.val v)) := fun _ x _ h => by cases ret_some h; exact ⟨v, rfl⟩
theorem ao_fail : AtOnce fail := fun H _ _ h => (fail_some (H := H) h).elim
theorem ao_bd {m : M α} {f : α → M ANext} (hf : ∀ a, AtOnce (f a)) : AtOnce (bd m f) := fun H x H' h => by
  obtain ⟨a, H1, _, h2⟩ := bd_some h
  exact hf a H1 x H' h2
theorem ao_cond {b : Bool} {x y : M ANext} (hx : AtOnce x) (hy : AtOnce y) : AtOnce (cond b x y) := by cases b <;> assumption
theorem ne_sliceM {t e : TypeId} (h : P.underlying t = some (.slice e)) (x : AVal) (lo hi mx : Option AVal) : NE (sliceM P t x lo hi mx) := by
  unfold sliceM
  rw [h]
  exact ne_lift _
theorem cls_slice {t : TypeId} {x : Operand} {lo hi mx : Option Operand} (h : cls P (.slice t x lo hi mx) = 0) : ∃ e, P.underlying t = some (.slice e) := by
  simp only [cls] at h
  split at h
  · exact ⟨_, by assumption⟩
  · cases h
theorem ne_lenA {t e : TypeId} (h : P.underlying t = some (.slice e)) (x : AVal) : NE (lenA P t x) := by
  unfold lenA
  rw [h]
  cases x <;> first | exact ne_ret _ | exact ne_fail
theorem cls0_op {o : Op} (h : cls P o = 0) (T : Tmps) : NE (opA P T o) ∧ AtOnce (opA P T o) := by
  cases o
  case call c =>
    simp only [cls] at h
    simp only [opA, callA]
    split
    · exact ⟨ne_fail, ao_fail⟩
    · rename_i args hargs
      cases hc : c.callee with
      | builtin b =>
        simp only [hc] at h ⊢
        refine ⟨ne_bd ?_ fun _ => ne_ret _, ao_bd fun _ => ao_ret _⟩
        cases b <;> first | (simp only at h; cases h; done) | skip
        case len =>
          simp only at h
          split at h
          · rename_i t ts hts
            split at h
            · rename_i e he
              rw [hts]
              show NE (builtinA P .len (t :: ts) args)
              rcases args with _ | ⟨x, _ | ⟨y, r⟩⟩
              · exact ne_fail
              · exact ne_lenA he x
              · exact ne_fail
            · cases h
          · cases h
        all_goals
          unfold builtinA
          split <;> first | exact ne_fail | exact ne_lift _ | contradiction | (rename_i e _ _; cases e)
      | _ => simp only [hc] at h; cases h
  all_goals first
    | (simp only [cls] at h; cases h; done)
    | (simp only [opA]
       refine ⟨?_, ?_⟩
       · repeat' first | exact ne_fail | exact ne_sliceM (cls_slice h).choose_spec _ _ _ _ | exact ne_ret _ | exact ne_lift _ | (refine ne_cond ?_ ?_) | (refine ne_bd ?_ fun _ => ?_) | split
       · repeat' first | exact ao_fail | exact ao_ret _ | (refine ao_cond ?_ ?_) | (refine ao_bd fun _ => ?_) | split)
theorem ro_gloadA (t : TypeId) (g : Nat) : RO (gloadA P t g) := by
  unfold gloadA
  repeat' first | exact ro_fail | exact ro_ret _ | exact ro_rd _ | (refine ro_cond ?_ ?_) | (refine ro_bd ?_ fun _ => ?_) | split
theorem ro_lookupA (t : TypeId) (x k : AVal) (ok : Bool) : RO (lookupA P t x k ok) := by
  unfold lookupA
  repeat' first | exact ro_fail | exact ro_lift _ | exact ro_ret _ | exact ro_rd _ | (refine ro_cond ?_ ?_) | (refine ro_bd ?_ fun _ => ?_) | split
theorem cls1_op {o : Op} (h : cls P o = 1) (T : Tmps) : RO (opA P T o) ∧ AtOnce (opA P T o) := by
  cases o
  case call c =>
    simp only [cls] at h
    have hc : c.callee = .builtin .len := by
      cases hq : c.callee with
      | builtin b => rw [hq] at h; cases b <;> first | rfl | (simp only at h; cases h)
      | _ => rw [hq] at h; simp only at h; cases h
    simp only [opA, callA, hc]
    split
    · exact ⟨ro_fail, ao_fail⟩
    · refine ⟨ro_bd ?_ fun _ => ro_ret _, ao_bd fun _ => ao_ret _⟩
      unfold builtinA
      split <;> first | exact ro_fail | exact ro_lenA _ _ | exact ro_lift _ | contradiction
  all_goals first
    | (simp only [cls] at h; cases h; done)
    | (simp only [opA]
       refine ⟨?_, ?_⟩
       · repeat' first | exact ro_fail | exact ro_ret _ | exact ro_lift _ | exact ro_gloadA _ _ | exact ro_loadA _ _ _ | exact ro_lookupA _ _ _ _ | exact ro_sliceM _ _ _ _ _ | (refine ro_cond ?_ ?_) | (refine ro_bd ?_ fun _ => ?_) | split
       · repeat' first | exact ao_fail | exact ao_ret _ | (refine ao_cond ?_ ?_) | (refine ao_bd fun _ => ?_) | split)
theorem once_next {m : M ANext} (hm : AtOnce m) (hr : RO m) : RO (bd m (nextA ih)) := by
  intro H a H' h
  obtain ⟨x, H1, h1, h2⟩ := bd_some h
  obtain ⟨v, rfl⟩ := hm H x H1 h1
  cases ret_some h2
  exact hr H _ _ h1
theorem once_next0 {m : M ANext} (hm : AtOnce m) (hr : NE m) : NE (bd m (nextA ih)) := by
  intro H a H' h
  obtain ⟨x, H1, h1, h2⟩ := bd_some h
  obtain ⟨v, rfl⟩ := hm H x H1 h1
  cases ret_some h2
  exact hr H _ _ h1
theorem cls0_val {all : List Oper} {o : Oper} (h : cls P o.op = 0) : NE (valOp P ih all o T) := by
  unfold valOp
  split
  · exact once_next0 (cls0_op h T).2 (cls0_op h T).1
  · exact ne_ret _
  · exact ne_fail
theorem cls1_val {all : List Oper} {o : Oper} (h : cls P o.op = 1) : RO (valOp P ih all o T) := by
  unfold valOp
  split
  · exact once_next (cls1_op h T).2 (cls1_op h T).1
  · exact ro_ret _
  · exact ro_fail

/-! ### work that writes nothing that was there -/
theorem frz_none {b : Nat} : frz s b = none ↔ s b = none := by
  unfold frz
  cases s b with
  | none => simp
  | some e => simp
theorem frz_some {b : Nat} {t : Bool} {x : Blk} (h : s b = some (t, x)) : frz s b = some (true, x) := by unfold frz; rw [h]
theorem quietRun {m : Nat → M α} {Q : α → Heap → Prop} (hfr : ∀ n, Fr (m n)) (h : wpF m Q (frz s)) {H : AHeap} (hH : HRel s H) :
    ∃ n a H' s2 es, m n H = some (a, H') ∧ Does es H H' ∧ (∀ i b, (i, b) ∈ es → s i ≠ none ∨ H.next ≤ i) ∧ (∀ i, (i, true) ∈ es → H.next ≤ i) ∧ (∀ i, s i = none → i < H.next → s2 i = none) ∧ Q a s2 ∧
      (∀ i t b, s i = none → s2 i = some (t, b) → H.next ≤ i ∧ ∃ ab, H'.blks.get i = some ab ∧ BRl b ab) := by
  have hH1 : HRel (frz s) { H with lo := H.next } := by
    refine ⟨Nat.le_refl _, hH.wf, fun i t b hi => ?_⟩
    cases e : s i with
    | none => rw [(frz_none (s := s)).2 e] at hi; cases hi
    | some x =>
      obtain ⟨t', b'⟩ := x
      rw [frz_some e] at hi
      cases hi
      obtain ⟨_, k⟩ := hH.at_ i t' b e
      exact ⟨by simp, k⟩
  obtain ⟨n, a, H1, s2, es, h1, h2, _, h4, d, kn, out⟩ := wpF.framed hfr h hH1
  obtain ⟨es', d', k⟩ := hfr n { H with lo := H.next } a H1 h1
  have he : es' = es := List.append_cancel_right (d'.log.symm.trans d.log)
  subst he
  obtain ⟨H', h5, d5, n5, g5⟩ := k H rfl hH.lo (fun _ _ _ => rfl)
  refine ⟨n, a, H', s2, es', h5, d5, fun i b hb => ?_, fun i hi => d.wlo i hi, fun i hi hlt => (out i ((frz_none (s := s)).2 hi) hlt).1, h4, fun i t b hi hs => ?_⟩
  · rcases kn i b hb with e | e
    · exact .inl fun q => e ((frz_none (s := s)).2 q)
    · exact .inr e
  · obtain ⟨_, ab, q1, q2⟩ := h2.at_ i t b hs
    have hge : H.next ≤ i := by
      rcases Nat.lt_or_ge i H.next with hlt | hge
      · rw [(out i ((frz_none (s := s)).2 hi) hlt).1] at hs; cases hs
      · exact hge
    refine ⟨hge, ab, ?_, q2⟩
    by_cases hm : ∃ c, (i, c) ∈ es'
    · obtain ⟨c, hc⟩ := hm; rw [g5 i c hc]; exact q1
    · rw [d5.same i fun hc => hm ⟨_, hc⟩]
      have := d.same i fun hc => hm ⟨_, hc⟩
      rw [this] at q1
      exact q1
theorem add_new {prev sj s2 : Heap} {H H' : AHeap} (hH : HRel prev H) (hsub : ∀ i, prev i = none → sj i = none) {es : List (Nat × Bool)} (d : Does es H H') (hw : ∀ i, (i, true) ∈ es → H.next ≤ i)
    (hn : ∀ i t b, sj i = none → s2 i = some (t, b) → H.next ≤ i ∧ ∃ ab, H'.blks.get i = some ab ∧ BRl b ab) : HRel (add prev s2) H' ∧ Pers prev (add prev s2) := by
  refine ⟨⟨by rw [d.lo]; exact Nat.le_trans hH.lo d.next, fun i hi => ?_, fun i t b hi => ?_⟩, fun i b hi => add_some hi⟩
  · rcases d.gone i hi with e | e
    · exact Nat.lt_of_lt_of_le (hH.wf i e) d.next
    · exact e.2
  · cases e : prev i with
    | some x =>
      rw [add_some e] at hi
      cases hi
      obtain ⟨q1, q2⟩ := hH.at_ i t b e
      have hlt := hH.lt (i := i) (by rw [e]; simp)
      rw [d.lo, d.same i fun hc => by have := hw i hc; omega]
      exact ⟨q1, q2⟩
    | none =>
      rw [add_none e] at hi
      obtain ⟨q1, q2⟩ := hn i t b (hsub i e) hi
      exact ⟨fun _ => by rw [d.lo]; exact Nat.le_trans hH.lo q1, q2⟩
theorem capture_of {m : M α} (hfr : Fr m) {H H' : AHeap} {a : α} {es : List (Nat × Bool)} (h : m H = some (a, H')) (hl : H'.log = es ++ H.log) :
    ∃ H'', capture m H = some ((a, es), H'') ∧ H''.next = H'.next ∧ H''.lo = H'.lo ∧ ∀ i, H''.blks.get i = H'.blks.get i := by
  obtain ⟨es', d, k⟩ := hfr H a H' h
  have he : es' = es := List.append_cancel_right (d.log.symm.trans hl)
  subst he
  obtain ⟨K, e2, d2, n2, g2⟩ := k { H with log := [] } rfl (Nat.le_refl _) (fun _ _ _ => rfl)
  have hlog : K.log = es' := by simpa using d2.log
  refine ⟨{ K with log := es' ++ H.log }, by simp [capture, e2, hlog], n2, by show K.lo = _; rw [d2.lo, d.lo], fun i => ?_⟩
  show K.blks.get i = _
  by_cases hm : ∃ c, (i, c) ∈ es'
  · obtain ⟨c, hc⟩ := hm; exact g2 i c hc
  · rw [d2.same i fun hc => hm ⟨_, hc⟩, d.same i fun hc => hm ⟨_, hc⟩]
theorem HRel.eqv {H H' : AHeap} (h : HRel s H) (hn : H'.next = H.next) (hl : H'.lo = H.lo) (hb : ∀ i, H'.blks.get i = H.blks.get i) : HRel s H' :=
  ⟨by rw [hn, hl]; exact h.lo, fun i hi => by rw [hn]; rw [hb] at hi; exact h.wf i hi, fun i t b hi => by rw [hl, hb]; exact h.at_ i t b hi⟩
/-! ### which blocks are touched -/
def RB (b : Nat) (m : M α) : Prop := ∀ H a H', m H = some (a, H') → ∃ es : List (Nat × Bool), (∀ e ∈ es, e.1 = b) ∧ H'.log = es ++ H.log
theorem rb_ne {m : M α} {b : Nat} (h : NE m) : RB b m := fun H a H' e => ⟨[], by simp, by rw [h H a H' e]; rfl⟩
theorem rb_bd {m : M α} {f : α → M β} {b : Nat} (hm : RB b m) (hf : ∀ a, RB b (f a)) : RB b (bd m f) := fun H c H' h => by
  obtain ⟨a, H1, h1, h2⟩ := bd_some h
  obtain ⟨e1, k1, l1⟩ := hm H a H1 h1
  obtain ⟨e2, k2, l2⟩ := hf a _ c H' h2
  exact ⟨e2 ++ e1, fun e he => by rcases List.mem_append.1 he with he | he; exact k2 e he; exact k1 e he, by rw [l2, l1]; simp⟩
theorem rb_cond {c : Bool} {x y : M α} {b : Nat} (hx : RB b x) (hy : RB b y) : RB b (cond c x y) := by cases c <;> assumption
theorem rb_rd (b : Nat) : RB b (rd b) := fun H a H' h => by
  unfold rd at h
  cases hb : H.blks.get b with
  | none => simp [hb] at h
  | some x => simp only [hb, Option.some.injEq, Prod.mk.injEq] at h; exact ⟨[(b, false)], by simp, by rw [← h.2]; rfl⟩
theorem rb_wr (b : Nat) (x : ABlk) : RB b (wr b x) := fun H a H' h => by
  unfold wr at h
  cases hl : Nat.ble H.lo b with
  | false => rw [hl] at h; cases h
  | true =>
    rw [hl, cond_true] at h
    cases hb : H.blks.get b with
    | none => rw [hb] at h; cases h
    | some y => rw [hb] at h; cases h; exact ⟨[(b, true)], by simp, rfl⟩
theorem rb_loadA (t : TypeId) (b o : Nat) : RB b (loadA P t b o) := by
  unfold loadA loadCellsA
  repeat' first | exact rb_ne ne_fail | exact rb_ne (ne_lift _) | exact rb_ne (ne_ret _) | exact rb_rd _ | (refine rb_bd ?_ fun _ => ?_) | split
theorem rb_storeA (t : TypeId) (b o : Nat) (v : AVal) : RB b (storeA P t (.ptr b o) v) := by
  unfold storeA storeCellsA
  simp only
  repeat' first | exact rb_ne ne_fail | exact rb_ne (ne_lift _) | exact rb_ne (ne_ret _) | exact rb_rd _ | exact rb_wr _ _ | (refine rb_cond ?_ ?_) | (refine rb_bd ?_ fun _ => ?_) | split
theorem rb_next {ih : Task → M Out} {m : M AVal} {b : Nat} (h : RB b m) : RB b (bd (bd m fun x => ret (.val x)) (nextA ih)) := by
  intro H a H' e
  obtain ⟨x, H1, h1, h2⟩ := bd_some e
  obtain ⟨v, H2, h3, h4⟩ := bd_some h1
  cases ret_some h4
  cases ret_some h2
  exact h H _ _ h3
theorem rb_nextU {ih : Task → M Out} {m : M Unit} {b : Nat} (h : RB b m) : RB b (bd (bd m fun _ => ret (.val .undef)) (nextA ih)) := by
  intro H a H' e
  obtain ⟨x, H1, h1, h2⟩ := bd_some e
  obtain ⟨v, H2, h3, h4⟩ := bd_some h1
  cases ret_some h4
  cases ret_some h2
  exact h H _ _ h3
theorem okOp_mem {o : Op} (h : okOp o = true) (hn : ∀ t g, o ≠ .load t (.global g)) {x : Operand} (hx : x ∈ o.operands.toList) : okX x = true := List.all_eq_true.1 (okOp_all h hn) x hx
theorem rb_gloadA (t : TypeId) (g : Nat) : RB g (gloadA P t g) := by
  unfold gloadA
  repeat' first | exact rb_ne ne_fail | exact rb_ne (ne_ret _) | exact rb_rd _ | (refine rb_cond ?_ ?_) | (refine rb_bd ?_ fun _ => ?_) | split
theorem rb_val {all : List Oper} {o : Oper} (hT : TR T env) (ho : okOp o.op = true) (h : isLd o.op = true ∨ isSt o.op = true) : RB (memOp env o.op) (valOp P ih all o T) := by
  unfold valOp
  split
  · cases hop : o.op with
    | load t a =>
      simp only [opA]
      cases a with
      | global g =>
        simp only [memOp]
        exact rb_next (rb_gloadA _ _)
      | _ =>
        have hx := okOp_mem ho (by rw [hop]; intro t g e; cases e) (by rw [hop]; simp [Op.operands]; rfl)
        simp only [ev_of hT hx, memOp]
        refine rb_next ?_
        split
        · rename_i e; rw [e]; exact rb_loadA _ _ _
        · exact rb_ne ne_fail
    | store t a x =>
      have hx : okX a = true := okOp_mem ho (by rw [hop]; intro t g e; cases e) (by rw [hop]; simp [Op.operands])
      have hy : okX x = true := okOp_mem ho (by rw [hop]; intro t g e; cases e) (by rw [hop]; simp [Op.operands])
      simp only [opA, ev_of hT hx, ev_of hT hy, memOp]
      refine rb_nextU ?_
      cases he : evD env a with
      | ptr b o => exact rb_storeA _ _ _ _
      | _ => exact rb_ne ne_fail
    | _ => rw [hop] at h; rcases h with h | h <;> cases h
  · exact rb_ne (ne_ret _)
  · exact rb_ne ne_fail
/-- only new blocks are touched -/
def NWm (m : M α) : Prop := ∀ H a H', m H = some (a, H') → ∃ es : List (Nat × Bool), (∀ e ∈ es, H.next ≤ e.1) ∧ H'.log = es ++ H.log
theorem nw_newCells (elem : TypeId) (cs : List AVal) : NWm (newCells elem cs) := by
  intro H a H' h
  unfold newCells at h
  cases hc : allOne cs with
  | false => rw [hc] at h; cases h
  | true =>
    rw [hc, cond_true] at h
    unfold nw at h
    rw [frcN_eq] at h
    cases hb : Nat.ble H.lo H.next with
    | false => rw [hb] at h; cases h
    | true => rw [hb, cond_true] at h; cases h; exact ⟨[(H.next, true)], by simp, rfl⟩
theorem nw_bd {m : M α} {f : α → M β} (hm : NWm m) (hf : ∀ a, NE (f a)) : NWm (bd m f) := fun H c H' h => by
  obtain ⟨a, H1, h1, h2⟩ := bd_some h
  obtain ⟨e1, k1, l1⟩ := hm H a H1 h1
  rw [hf a H1 c H' h2]
  exact ⟨e1, k1, l1⟩
theorem nw_ne {m : M α} (h : NE m) : NWm m := fun H a H' e => ⟨[], by simp, by rw [h H a H' e]; rfl⟩
theorem nw_next {m : M AVal} (h : NWm m) : NWm (bd (bd m fun x => ret (.val x)) (nextA ih)) := by
  intro H a H' e
  obtain ⟨x, H1, h1, h2⟩ := bd_some e
  obtain ⟨v, H2, h3, h4⟩ := bd_some h1
  cases ret_some h4
  cases ret_some h2
  exact h H _ _ h3
theorem nw_val {all : List Oper} {o : Oper} (h : isNw o.op = true) : NWm (valOp P ih all o T) := by
  unfold valOp
  split
  · cases hop : o.op with
    | alloc t =>
      simp only [opA]
      refine nw_next ?_
      unfold allocA
      split
      · exact nw_bd (nw_newCells _ _) fun _ => ne_ret _
      · exact nw_ne ne_fail
    | box t x =>
      simp only [opA]
      split
      · refine nw_next ?_
        unfold boxA
        exact nw_bd (nw_newCells _ _) fun _ => ne_ret _
      · intro H a H' e
        obtain ⟨x, H1, h1, h2⟩ := bd_some e
        exact (fail_some h1).elim
    | _ => rw [hop] at h; cases h
  · exact nw_ne (ne_ret _)
  · exact nw_ne ne_fail
end Go.AM
namespace Go.AM
open Go
variable {α β : Type} {P : Program} {X : Told} {nt : Nat} {wl : List Nat}
theorem cutH_get : ∀ {l : List (Heap × Heap)} {s : Heap} {b : Nat}, cutH l s b ≠ none → s b ≠ none ∧ (∀ p ∈ l, ¬ (p.1 b = none ∧ p.2 b ≠ none)) ∧ cutH l s b = s b
  | [], s, b, h => ⟨h, by simp, rfl⟩
  | p :: l, s, b, h => by
    obtain ⟨h1, h2, h3⟩ := cutH_get (l := l) h
    by_cases e : p.1 b = none ∧ p.2 b ≠ none
    · exact absurd (if_pos e) h1
    · rw [if_neg e] at h1 h3
      exact ⟨h1, fun q hq => by rcases List.mem_cons.1 hq with rfl | hq; exact e; exact h2 q hq, h3⟩
theorem cutH_sub (l : List (Heap × Heap)) (s : Heap) : Sub (cutH l s) s := fun i e hi => by
  obtain ⟨_, _, h⟩ := cutH_get (l := l) (s := s) (b := i) (by rw [hi]; simp)
  rw [← h]; exact hi
theorem cutH_none {l : List (Heap × Heap)} {s : Heap} {b : Nat} (h : s b = none) : cutH l s b = none := by
  cases e : cutH l s b with
  | none => rfl
  | some x => exact absurd h (cutH_get (l := l) (s := s) (b := b) (by rw [e]; simp)).1
theorem cutH_put : ∀ {l : List (Heap × Heap)} {s : Heap} {b : Nat}, s b ≠ none → (∀ p ∈ l, ¬ (p.1 b = none ∧ p.2 b ≠ none)) → cutH l s b ≠ none
  | [], _, _, h, _ => h
  | p :: l, s, b, h, hl => by
    unfold cutH
    refine cutH_put (l := l) ?_ fun q hq => hl q (by simp [hq])
    rw [if_neg (hl p (by simp))]
    exact h
theorem freeOf_mem {mk k : Nat} {b a : Heap} : ∀ {l : List (Nat × Heap × Heap)}, (k, b, a) ∈ l → Nat.testBit mk k = false → (b, a) ∈ freeOf mk l
  | [], h, _ => by cases h
  | p :: l, h, hk => by
    unfold freeOf
    rcases List.mem_cons.1 h with rfl | h
    · simp only [hk]; exact List.mem_cons_self ..
    · cases Nat.testBit mk p.1 with
      | true => exact freeOf_mem h hk
      | false => exact List.mem_cons_of_mem _ (freeOf_mem h hk)
theorem clash_false : ∀ {a b : List (Nat × Bool)}, (∀ id x y, (id, x) ∈ a → (id, y) ∈ b → x = false ∧ y = false) → clash a b = false
  | [], _, _ => rfl
  | e :: es, b, h => by
    have h1 : clash1 e b = false := by
      have : ∀ l : List (Nat × Bool), (∀ f ∈ l, f ∈ b) → clash1 e l = false := by
        intro l
        induction l with
        | nil => intro _; rfl
        | cons f fs ih =>
          intro hl
          unfold clash1
          rw [ih fun g hg => hl g (by simp [hg]), Bool.or_false]
          cases hq : Nat.beq e.1 f.1 with
          | false => rfl
          | true =>
            have e1 := Nat.eq_of_beq_eq_true hq
            obtain ⟨k1, k2⟩ := h e.1 e.2 f.2 (by simp) (by rw [e1]; exact hl f (by simp))
            rw [k1, k2]; rfl
      exact this b fun _ h => h
    unfold clash
    rw [h1, clash_false fun id x y hx hy => h id x y (by simp [hx]) hy]; rfl
theorem against_of {all : Array Oper} {o : Oper} {mk : Nat} {es : List (Nat × Bool)} : ∀ (l : List (Oper × List (Nat × Bool))) (i : Nat),
    (∀ k p, l[k]? = some p → Nat.testBit mk (i + k) = true ∨ (Oper.apart all p.1 o = true ∧ clash p.2 es = false)) → against all o mk es l i = true
  | [], _, _ => rfl
  | p :: l, i, h => by
    unfold against
    rw [against_of l (i + 1) fun k q hq => by
      have := h (k + 1) q (by simpa using hq)
      rwa [show i + (k + 1) = i + 1 + k by omega] at this]
    rcases h 0 p rfl with h1 | ⟨h1, h2⟩
    · simp only [Nat.add_zero] at h1; simp [h1]
    · simp [h1, h2]
theorem watched_of {all : List Oper} {cs mks : List Nat} {i j : Nat} {p : Oper} (hp : all[i]? = some p) (hl : isLd p.op = true) (hj : j < cs.length) (hij : i < j) (hs : sft wl all cs mks j = true) (hb : Nat.testBit (mks.getD j 0) i = false) : watched wl all cs mks i = true := by
  unfold watched
  rw [hp]
  simp only [hl, Bool.true_and]
  refine List.any_eq_true.2 ⟨j, by simpa using hj, ?_⟩
  rw [hs, hb]
  have : Nat.blt i j = true := Nat.ble_eq_true_of_le hij
  rw [this]; rfl
theorem drawOk_get {ops : Array Oper} {cs mks : List Nat} (h : drawOk wl ops cs mks = true) {i j : Nat} (hj : j < cs.length) (hij : i < j) : Nat.testBit (mks.getD j 0) i = true ∨
    ∃ p o, ops[i]? = some p ∧ ops[j]? = some o ∧ Oper.apart ops p o = true ∧ (cs.getD i 0 = 0 ∨ cs.getD j 0 = 0 ∨ (soft wl ops.toList cs mks i = true ∧ mild wl cs mks j = true) ∨ (tch wl ops.toList cs mks i = true ∧ sft wl ops.toList cs mks j = true)) := by
  unfold drawOk at h
  have h1 := List.all_eq_true.1 h j (by simpa using hj)
  have h2 := List.all_eq_true.1 h1 i (by simpa using hij)
  rcases Bool.or_eq_true_iff.1 h2 with h3 | h3
  · exact .inl h3
  · right
    split at h3
    · rename_i p o hp ho
      simp only [Bool.and_eq_true, Bool.or_eq_true] at h3
      refine ⟨p, o, hp, ho, h3.1, ?_⟩
      rcases h3.2 with e | e | e | e
      · exact .inl (Nat.eq_of_beq_eq_true e)
      · exact .inr (.inl (Nat.eq_of_beq_eq_true e))
      · exact .inr (.inr (.inl e))
      · exact .inr (.inr (.inr e))
    · cases h3
structure QInv (wl : List Nat) (all : Array Oper) (cs mks : List Nat) (i : Nat) (D : List (Oper × List (Nat × Bool))) (done rds : List (Nat × Heap × Heap)) (s : Heap) (next : Nat) : Prop where
  len : D.length = i
  op : ∀ (k : Nat) p, D[k]? = some p → all[k]? = some p.1
  lt : ∀ (k : Nat) p, D[k]? = some p → ∀ id b, (id, b) ∈ p.2 → id < next
  zero : ∀ (k : Nat) p, D[k]? = some p → cs.getD k 0 = 0 → p.2 = []
  wrote : ∀ (k : Nat) p, D[k]? = some p → soft wl all.toList cs mks k = true → ∀ id, (id, true) ∈ p.2 → ∃ b a, (k, b, a) ∈ done ∧ (s id ≠ none → b id = none ∧ a id ≠ none)
  touched : ∀ (k : Nat) p, D[k]? = some p → tch wl all.toList cs mks k = true → ∀ id x, (id, x) ∈ p.2 → ∃ b a, (k, b, a) ∈ done ++ rds ∧ (s id ≠ none → b id = none ∧ a id ≠ none)
theorem QInv.step {all : Array Oper} {cs mks : List Nat} {i : Nat} {D : List (Oper × List (Nat × Bool))} {done done' rds rds' : List (Nat × Heap × Heap)} {s s' : Heap} {next next' : Nat} (h : QInv wl all cs mks i D done rds s next)
    {o : Oper} {es : List (Nat × Bool)} (ho : all[i]? = some o) (hn : next ≤ next') (hlt : ∀ id b, (id, b) ∈ es → id < next') (h0 : cs.getD i 0 = 0 → es = []) (hd : ∀ p ∈ done, p ∈ done') (hr : ∀ p ∈ rds, p ∈ rds') (hs : ∀ id, id < next → s' id ≠ none → s id ≠ none)
    (hw : soft wl all.toList cs mks i = true → ∀ id, (id, true) ∈ es → ∃ b a, (i, b, a) ∈ done' ∧ (s' id ≠ none → b id = none ∧ a id ≠ none))
    (ht : tch wl all.toList cs mks i = true → ∀ id x, (id, x) ∈ es → ∃ b a, (i, b, a) ∈ done' ++ rds' ∧ (s' id ≠ none → b id = none ∧ a id ≠ none)) : QInv wl all cs mks (i + 1) (D ++ [(o, es)]) done' rds' s' next' := by
  have key : ∀ (k : Nat) p, (D ++ [(o, es)])[k]? = some p → D[k]? = some p ∨ (k = i ∧ p = (o, es)) := by
    intro k p hk
    rw [List.getElem?_append] at hk
    split at hk
    · exact .inl hk
    · rename_i hge
      rw [h.len] at hk hge
      have : k - i = 0 := by
        rcases Nat.eq_zero_or_pos (k - i) with e | e
        · exact e
        · rw [List.getElem?_eq_none (by simp; omega)] at hk; cases hk
      rw [this] at hk
      cases hk
      exact .inr ⟨by omega, rfl⟩
  refine ⟨by simp [h.len], fun k p hk => ?_, fun k p hk id b hb => ?_, fun k p hk h3 => ?_, fun k p hk h3 id hid => ?_, fun k p hk h3 id x hid => ?_⟩
  · rcases key k p hk with e | ⟨rfl, rfl⟩
    · exact h.op k p e
    · exact ho
  · rcases key k p hk with e | ⟨rfl, rfl⟩
    · exact Nat.lt_of_lt_of_le (h.lt k p e id b hb) hn
    · exact hlt id b hb
  · rcases key k p hk with e | ⟨rfl, rfl⟩
    · exact h.zero k p e h3
    · exact h0 h3
  · rcases key k p hk with e | ⟨rfl, rfl⟩
    · obtain ⟨b, a, h1, h2⟩ := h.wrote k p e h3 id hid
      exact ⟨b, a, hd _ h1, fun hne => h2 (hs id (h.lt k p e id true hid) hne)⟩
    · exact hw h3 id hid
  · rcases key k p hk with e | ⟨rfl, rfl⟩
    · obtain ⟨b, a, h1, h2⟩ := h.touched k p e h3 id x hid
      refine ⟨b, a, ?_, fun hne => h2 (hs id (h.lt k p e id x hid) hne)⟩
      rcases List.mem_append.1 h1 with h1 | h1
      · exact List.mem_append_left _ (hd _ h1)
      · exact List.mem_append_right _ (hr _ h1)
    · exact ht h3 id x hid
theorem QInv.against {all : Array Oper} {cs mks : List Nat} {i : Nat} {D : List (Oper × List (Nat × Bool))} {done rds : List (Nat × Heap × Heap)} {s : Heap} {next : Nat} (h : QInv wl all cs mks i D done rds s next) (hd : drawOk wl all cs mks = true) (hi : i < cs.length)
    {o : Oper} {es : List (Nat × Bool)} (ho : all[i]? = some o) (h0 : cs.getD i 0 = 0 → es = [])
    (hm : mild wl cs mks i = true → (∀ id b, (id, b) ∈ es → cutH (freeOf (mks.getD i 0) done) s id ≠ none ∨ next ≤ id) ∧ (∀ id, (id, true) ∈ es → next ≤ id))
    (hst : sft wl all.toList cs mks i = true → ∀ id b, (id, b) ∈ es → cutH (freeOf (mks.getD i 0) (done ++ rds)) s id ≠ none ∨ next ≤ id) : AM.against all o (mks.getD i 0) es D 0 = true := by
  refine against_of D 0 fun k p hk => ?_
  rw [Nat.zero_add]
  have hki : k < i := by rw [← h.len]; exact (List.getElem?_eq_some_iff.1 hk).1
  rcases drawOk_get hd hi hki with e | ⟨p', o', hp', ho', hap, hc⟩
  · exact .inl e
  · by_cases hb : Nat.testBit (mks.getD i 0) k = true
    · exact .inl hb
    · right
      rw [h.op k p hk] at hp'
      rw [ho] at ho'
      cases hp'; cases ho'
      refine ⟨hap, clash_false fun id x y hx hy => ?_⟩
      rcases hc with hc | hc | ⟨hc1, hc2⟩ | ⟨hc1, hc2⟩
      · rw [h.zero k p hk hc] at hx; cases hx
      · rw [h0 hc] at hy; cases hy
      · obtain ⟨m1, m2⟩ := hm hc2
        have hlt := h.lt k p hk id x hx
        have hyf : y = false := by
          cases y with
          | false => rfl
          | true => have := m2 id hy; omega
        refine ⟨?_, hyf⟩
        cases x with
        | false => rfl
        | true =>
          obtain ⟨b, a, q1, q2⟩ := h.wrote k p hk hc1 id hx
          rcases m1 id y hy with e | e
          · obtain ⟨r1, r2, _⟩ := cutH_get e
            exact absurd (q2 r1) (r2 _ (freeOf_mem q1 (by simpa using hb)))
          · omega
      · obtain ⟨b, a, q1, q2⟩ := h.touched k p hk hc1 id x hx
        rcases hst hc2 id y hy with e | e
        · obtain ⟨r1, r2, _⟩ := cutH_get e
          exact absurd (q2 r1) (r2 _ (freeOf_mem q1 (by simpa using hb)))
        · have := h.lt k p hk id x hx
          omega
theorem mono_opsD (all : Array Oper) (l : List Oper) (mks : List Nat) (D : List (Oper × List (Nat × Bool))) (T : Tmps) : Mono fun n => opsD P (run P X n) nt all l mks D T := mono_of fun n => le_opsD (le_run n) nt all l mks D T
theorem stepD {all : Array Oper} {o : Oper} {os : List Oper} {mk : Nat} {mks : List Nat} {D : List (Oper × List (Nat × Bool))} {T T1 : Tmps} {H H1 : AHeap} {v : AVal} {n1 : Nat} {es : List (Nat × Bool)} {R : Tmps → AHeap → Prop} (hX : FrX X)
    (h1 : valOp P (run P X n1) all.toList o T H = some (v, H1)) (hset : setT nt T o.dst v = some T1) (hd : Does es H H1) (hag : against all o mk es D 0 = true)
    (hih : ∀ H2 : AHeap, H2.next = H1.next → H2.lo = H1.lo → (∀ i, H2.blks.get i = H1.blks.get i) → ∃ n2 T' H', opsD P (run P X n2) nt all os mks (D ++ [(o, es)]) T1 H2 = some (T', H') ∧ R T' H') :
    ∃ n T' H', opsD P (run P X n) nt all (o :: os) (mk :: mks) D T H = some (T', H') ∧ R T' H' := by
  have h2 : oneOp P (run P X n1) nt all.toList o T H = some (T1, H1) := by
    simp only [oneOp, bd, h1, lift, hset]
  obtain ⟨H2, h3, e1, e2, e3⟩ := capture_of (fr_oneOp P (fr_run P hX n1) nt all.toList o T) h2 hd.log
  obtain ⟨n2, T', H', h4, h5⟩ := hih H2 e1 e2 e3
  refine ⟨max n1 n2, T', H', ?_, h5⟩
  have m1 : Mono fun n => capture (oneOp P (run P X n) nt all.toList o T) := mono_of fun n => LeM.capture (le_oneOp (le_run n) _ _ _ _)
  unfold opsD
  show AM.bd _ _ _ = _
  unfold AM.bd
  have h3' : capture (oneOp P (run P X (max n1 n2)) nt all.toList o T) H = some ((T1, es), H2) := m1 n1 (max n1 n2) H _ (Nat.le_max_left _ _) h3
  rw [h3']
  simp only [hag, cond_true]
  exact mono_opsD all os mks _ T1 n2 (max n1 n2) H2 _ (Nat.le_max_right _ _) h4
theorem cls_get {all : Array Oper} {i : Nat} {o : Oper} (ho : all[i]? = some o) : (clsL P all.toList).getD i 0 = cls P o.op ∧ i < (clsL P all.toList).length := by
  have h1 : all.toList[i]? = some o := by simpa using ho
  refine ⟨?_, ?_⟩
  · simp [clsL, List.getD_eq_getElem?_getD, h1]
  · simpa [clsL] using (List.getElem?_eq_some_iff.1 h1).1
theorem soft_mild {all : List Oper} {cs mks : List Nat} {i : Nat} (h : sft wl all cs mks i = false) (hs : soft wl all cs mks i = true) : mild wl cs mks i = true := by
  unfold soft at hs
  rw [h, Bool.or_false] at hs
  exact hs
theorem sft_get {all : List Oper} {cs mks : List Nat} {i : Nat} {o : Oper} (ho : all[i]? = some o) (h : sft wl all cs mks i = true) (hw : wld wl cs i = false) : isSt o.op = true := by
  unfold sft at h
  rw [ho] at h
  simp only [hw, Bool.or_false] at h
  exact (Bool.and_eq_true_iff.1 h).1
theorem sft_wld {all : List Oper} {cs mks : List Nat} {i : Nat} {o : Oper} (ho : all[i]? = some o) (hw : wld wl cs i = true) : sft wl all cs mks i = true := by
  unfold sft
  rw [ho]
  simp only [hw, Bool.or_true]
theorem wld_cls {cs : List Nat} {i : Nat} (h : cs.getD i 0 ≠ 2) : wld wl cs i = false := by
  cases e : wld wl cs i with
  | false => rfl
  | true =>
    unfold wld at e
    exact absurd (Nat.eq_of_beq_eq_true (Bool.and_eq_true_iff.1 e).2) h
theorem wld_mild {cs mks : List Nat} {i : Nat} (h : mild wl cs mks i = true) : wld wl cs i = false := by
  cases e : wld wl cs i with
  | false => rfl
  | true =>
    unfold wld at e
    obtain ⟨e1, e2⟩ := Bool.and_eq_true_iff.1 e
    have e3 := Nat.eq_of_beq_eq_true e2
    unfold mild at h
    rw [e3, e1] at h
    simp at h
theorem watched_get {all : List Oper} {cs mks : List Nat} {i : Nat} {o : Oper} (ho : all[i]? = some o) (h : watched wl all cs mks i = true) : isLd o.op = true := by
  unfold watched at h
  rw [ho] at h
  exact (Bool.and_eq_true_iff.1 h).1
theorem st_cls {o : Op} (h : isSt o = true) : cls P o = 3 := by cases o <;> first | rfl | cases h
theorem ld_cls {o : Op} (h : isLd o = true) : cls P o = 1 := by cases o <;> first | rfl | cases h
theorem nw_cls {o : Op} (h : isNw o = true) : cls P o = 2 := by cases o <;> first | rfl | cases h
theorem sft_no {all : List Oper} {cs mks : List Nat} {i : Nat} {o : Oper} (ho : all[i]? = some o) (h : cls P o.op ≠ 3) (hw : wld wl cs i = false) : sft wl all cs mks i = false := by
  cases e : sft wl all cs mks i with
  | false => rfl
  | true => exact absurd (st_cls (sft_get ho e hw)) h
theorem watched_no {all : List Oper} {cs mks : List Nat} {i : Nat} {o : Oper} (ho : all[i]? = some o) (h : cls P o.op ≠ 1) : watched wl all cs mks i = false := by
  cases e : watched wl all cs mks i with
  | false => rfl
  | true => exact absurd (ld_cls (watched_get ho e)) h
theorem tch_cases {all : List Oper} {cs mks : List Nat} {i : Nat} {o : Oper} (ho : all[i]? = some o) (h : tch wl all cs mks i = true) : watched wl all cs mks i = true ∨ sft wl all cs mks i = true ∨ (mild wl cs mks i = true ∧ isNw o.op = true) := by
  unfold tch at h
  rw [ho] at h
  simp only [Bool.or_eq_true, Bool.and_eq_true] at h
  rcases h with (h | h) | h
  · exact .inl h
  · exact .inr (.inl h)
  · exact .inr (.inr h)
theorem opsQ_ok {all : Array Oper} {mks : List Nat} (hX : FrX X) (hlen : mks.length = all.size) (hd : drawOk wl all (clsL P all.toList) mks = true) {K : Env → Heap → Prop} :
    ∀ (os : List Oper) (i : Nat) (done rds : List (Nat × Heap × Heap)) (kn : Kn) (env : Env) (s : Heap) (T : Tmps) (D : List (Oper × List (Nat × Bool))), os = all.toList.drop i → (os.all fun o => okOp o.op) = true → TR T env → KnOk kn env →
      opsQ P X wl nt all.toList (clsL P all.toList) mks os i done rds kn env K s → ∀ H, HRel s H → QInv wl all (clsL P all.toList) mks i D done rds s H.next →
      ∃ n T' H', opsD P (run P X n) nt all os (mks.drop i) D T H = some (T', H') ∧ ∃ s' env', HRel s' H' ∧ Pers s s' ∧ TR T' env' ∧ K env' s' ∧ ∀ j, (∀ o ∈ os, o.dst ≠ some j) → env' j = env j
  | [], i, done, rds, kn, env, s, T, D, hos, _, hT, _, h, H, hH, _ => ⟨0, T, H, by simp [opsD, ret], s, env, hH, .refl _, hT, h, fun _ _ => rfl⟩
  | o :: os, i, done, rds, kn, env, s, T, D, hos, ha, hT, hk, h, H, hH, hq => by
    simp only [List.all_cons, Bool.and_eq_true] at ha
    have hi : i < all.size := by
      rcases Nat.lt_or_ge i all.size with e | e
      · exact e
      · rw [List.drop_eq_nil_of_le (by simpa using e)] at hos; cases hos
    have hcons := List.drop_eq_getElem_cons (l := all.toList) (i := i) (by simpa using hi)
    rw [hcons] at hos
    have ho : all[i]? = some o := by
      have : o = all.toList[i]'(by simpa using hi) := (List.cons.inj hos).1
      rw [this]; simp
    have hol : all.toList[i]? = some o := by simpa using ho
    have hos' : os = all.toList.drop (i + 1) := (List.cons.inj hos).2
    have hmk : mks.drop i = mks.getD i 0 :: mks.drop (i + 1) := by
      rw [List.drop_eq_getElem_cons (by omega), List.getD_eq_getElem?_getD, List.getElem?_eq_getElem (by omega)]; rfl
    obtain ⟨hcls, hcl⟩ := cls_get ho
    rw [hmk]
    obtain ⟨kn', hk', hcase⟩ := guardE_ok hT hk h
    have go : ∀ (done' rds' : List (Nat × Heap × Heap)) (v : AVal) (s1 : Heap) (n1 : Nat) (H1 : AHeap) (es : List (Nat × Bool)) (kn2 : Kn), (∀ env', (∀ d, o.dst ≠ some d → env' d = env d) → (∀ d, o.dst = some d → env' d = v) → KnOk kn2 env') → valOp P (run P X n1) all.toList o T H = some (v, H1) → Does es H H1 → HRel s1 H1 → Pers s s1 →
        (setK nt o.dst env v fun env => opsQ P X wl nt all.toList (clsL P all.toList) mks os (i + 1) done' rds' kn2 env K s1) → (cls P o.op = 0 → es = []) → (∀ p ∈ done, p ∈ done') → (∀ p ∈ rds, p ∈ rds') → (∀ id, id < H.next → s1 id ≠ none → s id ≠ none) →
        (mild wl (clsL P all.toList) mks i = true → (∀ id b, (id, b) ∈ es → cutH (freeOf (mks.getD i 0) done) s id ≠ none ∨ H.next ≤ id) ∧ (∀ id, (id, true) ∈ es → H.next ≤ id)) →
        (sft wl all.toList (clsL P all.toList) mks i = true → ∀ id b, (id, b) ∈ es → cutH (freeOf (mks.getD i 0) (done ++ rds)) s id ≠ none ∨ H.next ≤ id) →
        (soft wl all.toList (clsL P all.toList) mks i = true → ∀ id, (id, true) ∈ es → ∃ b a, (i, b, a) ∈ done' ∧ (s1 id ≠ none → b id = none ∧ a id ≠ none)) →
        (tch wl all.toList (clsL P all.toList) mks i = true → ∀ id x, (id, x) ∈ es → ∃ b a, (i, b, a) ∈ done' ++ rds' ∧ (s1 id ≠ none → b id = none ∧ a id ≠ none)) →
        ∃ n T' H', opsD P (run P X n) nt all (o :: os) (mks.getD i 0 :: mks.drop (i + 1)) D T H = some (T', H') ∧ ∃ s' env', HRel s' H' ∧ Pers s s' ∧ TR T' env' ∧ K env' s' ∧ ∀ j, (∀ o_1 ∈ o :: os, o_1.dst ≠ some j) → env' j = env j := by
      intro done' rds' v s1 n1 H1 es kn2 hk2 h1 d hH1 hp hset h0 hdone hrds hs hm hst hw ht
      obtain ⟨T1, env1, g1, g2, g3, g4, g5⟩ := tr_upd2 hT hset
      refine stepD hX h1 g1 d (hq.against hd hcl ho (fun e => h0 (hcls ▸ e)) hm hst) fun H2 e1 e2 e3 => ?_
      have hH2 : HRel s1 H2 := hH1.eqv e1 e2 e3
      have hq2 : QInv wl all (clsL P all.toList) mks (i + 1) (D ++ [(o, es)]) done' rds' s1 H2.next := by
        rw [e1]
        refine hq.step ho d.next (fun id b hb => ?_) (fun e => h0 (hcls ▸ e)) hdone hrds hs hw ht
        rcases d.touch id b hb with e | e
        · exact Nat.lt_of_lt_of_le (hH.wf id e) d.next
        · exact e.2
      obtain ⟨n2, T', H', q1, s', env', q2, q3, q4, q5, q6⟩ := opsQ_ok hX hlen hd os (i + 1) done' rds' _ env1 s1 T1 (D ++ [(o, es)]) hos' ha.2 g2 (hk2 env1 g4 g5) g3 H2 hH2 hq2
      exact ⟨n2, T', H', q1, s', env', q2, hp.trans q3, q4, q5, fun j hj => (q6 j fun p hp => hj p (by simp [hp])).trans (g4 j (hj o (by simp)))⟩
    have hfr : ∀ n, Fr (valOp P (run P X n) all.toList o T) := fun n => fr_valOp P (fr_run P hX n) _ _ _
    have nil0 : ∀ (done' rds' : List (Nat × Heap × Heap)) (s1 : Heap), (tch wl all.toList (clsL P all.toList) mks i = true → ∀ id x, (id, x) ∈ ([] : List (Nat × Bool)) → ∃ b a, (i, b, a) ∈ done' ++ rds' ∧ (s1 id ≠ none → b id = none ∧ a id ≠ none)) := fun _ _ _ _ _ _ h => by cases h
    rcases hcase with ⟨hw, h⟩ | ⟨hw, h⟩
    · try simp only at h
      by_cases c0 : cls P o.op = 0
      · simp only [c0] at h
        obtain ⟨n1, v, H1, h1, _, _, _, h4⟩ := wp_val_go hw hT ha.1 h H hH
        have e := cls0_val c0 H v H1 h1
        subst e
        exact go done rds v s n1 _ [] _ (fun _ e _ => hk'.forget e) h1 (.refl _) hH (.refl _) h4 (fun _ => rfl) (fun _ h => h) (fun _ h => h) (fun _ _ h => h) (fun _ => ⟨by simp, by simp⟩) (fun _ => by simp) (fun _ => by simp) (nil0 _ _ _)
      · by_cases c1 : cls P o.op = 1
        · simp only [c1] at h
          have hsub := cutH_sub (freeOf (mks.getD i 0) done) s
          obtain ⟨n1, v, H1, _, es, h1, _, _, h4, d, kno, _⟩ := wpF.framed hfr (wp_val_go hw hT ha.1 h) (hH.sub hsub)
          obtain ⟨es', r1, r2⟩ := cls1_val c1 H v H1 h1
          have he : es = es' := by
            have := d.log
            rw [r2] at this
            exact (List.append_cancel_right this).symm
          subst he
          have nowr : ∀ id, (id, true) ∈ es → False := fun id hid => by have := r1 _ hid; cases this
          have hsf : sft wl all.toList (clsL P all.toList) mks i = false := sft_no hol (by rw [c1]; decide) (wld_cls (by rw [hcls, c1]; decide))
          refine go done _ v s n1 H1 es _ (fun _ e _ => hk'.forget e) h1 d (hH.eqv (by rw [r2]) (by rw [r2]) (by rw [r2]; exact fun _ => rfl)) (.refl _) h4 (fun e => absurd e c0) (fun _ h => h) (fun p hp => ?_) (fun _ _ h => h) (fun _ => ⟨kno, fun id hid => (nowr id hid).elim⟩) (fun e => by rw [hsf] at e; cases e) (fun _ id hid => (nowr id hid).elim) (fun htc id x hid => ?_)
          · cases watched wl all.toList (clsL P all.toList) mks i with
            | false => exact hp
            | true => exact List.mem_append_left _ hp
          · rcases tch_cases hol htc with hwt | hwt | ⟨_, hwt⟩
            · rw [hwt, cond_true]
              refine ⟨hdel s (memOp env o.op), s, List.mem_append_right _ (by simp), fun hne => ⟨?_, hne⟩⟩
              obtain ⟨es2, r3, r4⟩ := rb_val (ih := run P X n1) (all := all.toList) hT ha.1 (.inl (watched_get hol hwt)) H v H1 h1
              have he : es = es2 := List.append_cancel_right (d.log.symm.trans r4)
              subst he
              have := r3 _ hid
              unfold hdel
              exact if_pos this
            · rw [hsf] at hwt; cases hwt
            · have := nw_cls (P := P) hwt; omega
        · have h : cond (mild wl (clsL P all.toList) mks i)
              (wpOp P X env (fun v s2 => (∀ b, s b ≠ none → cutH (freeOf (mks.getD i 0) done) s b = none → s2 b = none) → setK nt o.dst env v fun env => opsQ P X wl nt all.toList (clsL P all.toList) mks os (i + 1) (done ++ [(i, s, add s s2)]) rds (forget kn' o.dst) env K (add s s2)) (frz (cutH (freeOf (mks.getD i 0) done) s)) o.op)
              (cond (wld wl (clsL P all.toList) i)
                (∃ h : Heap, (∀ b, h b ≠ none → s b ≠ none) ∧ wpOp P X env (fun v s2 => (∀ b, s b ≠ none → cutH (freeOf (mks.getD i 0) (done ++ rds)) (minus s h) b = none → s2 b = none) → setK nt o.dst env v fun env => opsQ P X wl nt all.toList (clsL P all.toList) mks os (i + 1) (done ++ [(i, h, fullH)]) rds (forget kn' o.dst) env K (add s2 (rest s (cutH (freeOf (mks.getD i 0) (done ++ rds)) (minus s h))))) (cutH (freeOf (mks.getD i 0) (done ++ rds)) (minus s h)) o.op)
              (cond (sft wl all.toList (clsL P all.toList) mks i)
                (cutH (freeOf (mks.getD i 0) (done ++ rds)) s (memOp env o.op) ≠ none ∧ wpOp P X env (fun v s2 => setK nt o.dst env v fun env' => opsQ P X wl nt all.toList (clsL P all.toList) mks os (i + 1) (done ++ [(i, hdel s (memOp env o.op), s)]) rds (forget kn' o.dst) env' K s2) s o.op)
                (wpOp P X env (fun v s => setK nt o.dst env v fun env => opsQ P X wl nt all.toList (clsL P all.toList) mks os (i + 1) done rds (forget kn' o.dst) env K s) s o.op))) := by
            revert h
            generalize cls P o.op = c at *
            match c with
            | 0 => exact absurd rfl c0
            | 1 => exact absurd rfl c1
            | c + 2 => exact id
          have hwn : watched wl all.toList (clsL P all.toList) mks i = false := watched_no hol c1
          cases hmi : mild wl (clsL P all.toList) mks i with
          | true =>
            rw [hmi, cond_true] at h
            have hsf : sft wl all.toList (clsL P all.toList) mks i = false := by
              cases e : sft wl all.toList (clsL P all.toList) mks i with
              | false => rfl
              | true =>
                have c3 := st_cls (P := P) (sft_get hol e (wld_mild hmi))
                unfold mild at hmi
                rw [hcls, c3] at hmi
                cases hmi
            have hsub := cutH_sub (freeOf (mks.getD i 0) done) s
            obtain ⟨n1, v, H1, s2, es, h1, d, kno, wrn, out, h4, nw⟩ := quietRun hfr (wp_val_go hw hT ha.1 h) (hH.sub hsub)
            obtain ⟨a1, a2⟩ := add_new hH (fun i hi => cutH_none hi) d wrn nw
            have hout : ∀ id, id < H.next → add s s2 id ≠ none → s id ≠ none := by
              intro id hid hne e
              rw [add_none e] at hne
              exact hne (out id (cutH_none e) hid)
            have fresh : ∀ id, H.next ≤ id → s id = none := by
              intro id hid
              cases e : s id with
              | none => rfl
              | some x => have := hH.lt (i := id) (by rw [e]; simp); omega
            refine go (done ++ [(i, s, add s s2)]) rds v (add s s2) n1 H1 es _ (fun _ e _ => hk'.forget e) h1 d a1 a2 (h4 fun b hb hc => out b hc (hH.lt hb)) (fun e => absurd e c0) (fun p hp => by simp [hp]) (fun _ h => h) hout (fun _ => ⟨kno, wrn⟩) (fun e => by rw [hsf] at e; cases e) (fun _ id hid => ⟨s, add s s2, by simp, fun hne => ⟨fresh id (wrn id hid), hne⟩⟩) (fun htc id x hid => ?_)
            rcases tch_cases hol htc with hwt | hwt | ⟨_, hwt⟩
            · rw [hwn] at hwt; cases hwt
            · rw [hsf] at hwt; cases hwt
            · obtain ⟨es2, r3, r4⟩ := nw_val (P := P) (ih := run P X n1) (all := all.toList) (T := T) hwt H v H1 h1
              have he : es = es2 := List.append_cancel_right (d.log.symm.trans r4)
              subst he
              exact ⟨s, add s s2, by simp, fun hne => ⟨fresh id (r3 _ hid), hne⟩⟩
          | false =>
            rw [hmi, cond_false] at h
            cases hwd : wld wl (clsL P all.toList) i with
            | true =>
              rw [hwd, cond_true] at h
              obtain ⟨hd, hds, h⟩ := h
              have hsf : sft wl all.toList (clsL P all.toList) mks i = true := sft_wld hol hwd
              have hsub0 : Sub (minus s hd) s := fun b e hb => by
                unfold minus at hb
                split at hb
                · exact hb
                · cases hb
              have hsub := (fun b e hb => hsub0 b e (cutH_sub (freeOf (mks.getD i 0) (done ++ rds)) (minus s hd) b e hb) : Sub _ s)
              obtain ⟨n1, v, H1, s1, es, h1, h2, h3, h4, d, kno, out⟩ := wpF.framed hfr (wp_val_go hw hT ha.1 h) (hH.sub hsub)
              revert h1 h2 h3 h4 d kno out hsub
              generalize hr : cutH (freeOf (mks.getD i 0) (done ++ rds)) (minus s hd) = r at *
              intro hsub h1 h2 h3 h4 d kno out
              have inr : ∀ id, r id ≠ none → s id ≠ none ∧ hd id = none ∧ cutH (freeOf (mks.getD i 0) (done ++ rds)) s id ≠ none := by
                intro id hne
                rw [← hr] at hne
                obtain ⟨g1, g2, _⟩ := cutH_get hne
                unfold minus at g1
                split at g1
                · rename_i e; exact ⟨g1, e, cutH_put g1 g2⟩
                · exact absurd rfl g1
              have alone : ∀ id x, (id, x) ∈ es → hd id = none := by
                intro id x hid
                rcases kno id x hid with e | e
                · exact (inr id e).2.1
                · cases q : hd id with
                  | none => rfl
                  | some y =>
                    have := hH.lt (hds id (by rw [q]; exact Option.some_ne_none _))
                    omega
              have hHS : HRel (add s1 (rest s r)) H1 := by
                refine ⟨h2.lo, h2.wf, fun id t b hid => ?_⟩
                cases q : s1 id with
                | some x =>
                  rw [add_some q] at hid
                  exact h2.at_ id t b (by rw [q]; exact hid)
                | none =>
                  rw [add_none q] at hid
                  unfold rest at hid
                  split at hid
                  · rename_i e
                    obtain ⟨k1, k2⟩ := hH.at_ id t b hid
                    have hlt := hH.lt (i := id) (by rw [hid]; exact Option.some_ne_none _)
                    rw [d.lo, (out id e hlt).2]
                    exact ⟨k1, k2⟩
                  · cases hid
              have hPS : Pers s (add s1 (rest s r)) := by
                intro id b hid
                cases q : r id with
                | some x =>
                  have e1 := hsub id x q
                  rw [hid] at e1
                  cases e1
                  exact add_some (h3 id b q)
                | none =>
                  have hlt := hH.lt (i := id) (by rw [hid]; exact Option.some_ne_none _)
                  rw [add_none (out id q hlt).1]
                  unfold rest
                  rw [if_pos q]; exact hid
              refine go (done ++ [(i, hd, fullH)]) rds v _ n1 H1 es _ (fun _ e _ => hk'.forget e) h1 d hHS hPS (h4 fun b hb hc => (out b hc (hH.lt hb)).1) (fun e => absurd e c0) (fun p hp => by simp [hp]) (fun _ h => h) (fun id hid hne e => ?_) (fun e => by rw [hmi] at e; cases e) (fun _ id b hid => ?_) (fun _ id hid => ⟨hd, fullH, by simp, fun _ => ⟨alone id _ hid, by simp [fullH]⟩⟩) (fun _ id x hid => ⟨hd, fullH, by simp, fun _ => ⟨alone id _ hid, by simp [fullH]⟩⟩)
              · have q1 : r id = none := by
                  cases q : r id with
                  | none => rfl
                  | some y => have := hsub id y q; rw [e] at this; cases this
                rw [add_none (out id q1 hid).1] at hne
                unfold rest at hne
                rw [if_pos q1] at hne
                exact hne e
              · rcases kno id b hid with e | e
                · exact .inl (inr id e).2.2
                · exact .inr e
            | false =>
            rw [hwd, cond_false] at h
            cases hsf : sft wl all.toList (clsL P all.toList) mks i with
            | true =>
              rw [hsf, cond_true] at h
              obtain ⟨hcut, h⟩ := h
              obtain ⟨n1, v, H1, s1, es, h1, h2, h3, h4, d, kno, out⟩ := wpF.framed hfr (wp_val_go hw hT ha.1 h) hH
              obtain ⟨es2, r3, r4⟩ := rb_val (ih := run P X n1) (all := all.toList) hT ha.1 (.inr (sft_get hol hsf hwd)) H v H1 h1
              have he : es = es2 := List.append_cancel_right (d.log.symm.trans r4)
              subst he
              have hb0 := (cutH_get hcut).1
              refine go (done ++ [(i, hdel s (memOp env o.op), s)]) rds v s1 n1 H1 es _ (fun _ e _ => hk'.forget e) h1 d h2 h3 h4 (fun e => absurd e c0) (fun p hp => by simp [hp]) (fun _ h => h) (fun id hid hne e => hne (out id e hid).1) (fun e => by rw [hmi] at e; cases e) (fun _ id b hid => by have hh := r3 _ hid; simp only at hh; rw [hh]; exact .inl hcut) (fun _ id hid => ⟨hdel s (memOp env o.op), s, by simp, fun _ => ?_⟩) (fun _ id x hid => ⟨hdel s (memOp env o.op), s, by simp, fun _ => ?_⟩)
              · have := r3 _ hid
                simp only at this
                subst this
                exact ⟨if_pos rfl, hb0⟩
              · have := r3 _ hid
                simp only at this
                subst this
                exact ⟨if_pos rfl, hb0⟩
            | false =>
              rw [hsf, cond_false] at h
              obtain ⟨n1, v, H1, s1, es, h1, h2, h3, h4, d, kno, out⟩ := wpF.framed hfr (wp_val_go hw hT ha.1 h) hH
              refine go done rds v s1 n1 H1 es _ (fun _ e _ => hk'.forget e) h1 d h2 h3 h4 (fun e => absurd e c0) (fun _ h => h) (fun _ h => h) (fun id hid hne e => hne (out id e hid).1) (fun e => by rw [hmi] at e; cases e) (fun e => by rw [hsf] at e; cases e) (fun e => by rw [soft_mild hsf e] at hmi; cases hmi) (fun htc => ?_)
              rcases tch_cases hol htc with hwt | hwt | ⟨hwt, _⟩
              · rw [hwn] at hwt; cases hwt
              · rw [hsf] at hwt; cases hwt
              · rw [hmi] at hwt; cases hwt
    · obtain ⟨n1, v, H1, h1, s1, h2, h3, h4⟩ := wp_val_skip (P := P) (X := X) (s := s) (Q := fun v s' => v = .undef ∧ s' = s) hw ⟨rfl, rfl⟩ H hH
      obtain ⟨rfl, rfl⟩ := h4
      have e : H1 = H := by
        unfold valOp at h1
        rw [hw] at h1
        cases ret_some h1; rfl
      subst e
      exact go done rds .undef _ n1 _ [] _ (fun _ e e5 => hk'.mark e e5) h1 (.refl _) hH (.refl _) h (fun _ => rfl) (fun _ h => h) (fun _ h => h) (fun _ _ h => h) (fun _ => ⟨by simp, by simp⟩) (fun _ => by simp) (fun _ => by simp) (nil0 _ _ _)
end Go.AM
namespace Go.AM
open Go
/-! ### ranges over maps whose rounds leave memory as it was -/
mutual
/-- two values are laid out alike -/
def shE : AVal → AVal → Bool
  | .agg l, .agg l' => shEs l l'
  | .tup l, .tup l' => shEs l l'
  | a, b => a.one && b.one
def shEs : List AVal → List AVal → Bool
  | [], [] => true
  | x :: xs, y :: ys => shE x y && shEs xs ys
  | _, _ => false
end
theorem eqFn_refl (f : Fn) : eqFn f f = true := by
  unfold eqFn
  split
  · exact Nat.beq_refl _
  · simp
mutual
theorem eqA_refl : ∀ a : AVal, eqA a a = true
  | .bool b => by unfold eqA; simp
  | .int k n => by unfold eqA; have : intKindEq k k = true := by cases k <;> rfl
                   rw [this, eqI_eq]; simp
  | .str s => by unfold eqA; simp
  | .ptr b o => by unfold eqA; simp [Nat.beq_refl]
  | .nilptr => by unfold eqA; rfl
  | .slc b o l c e => by unfold eqA; cases c <;> simp [Nat.beq_refl]
  | .nilslc => by unfold eqA; rfl
  | .map b => by unfold eqA; simp [Nat.beq_refl]
  | .nilmap => by unfold eqA; rfl
  | .fn f a c => by unfold eqA; rw [eqFn_refl, eqAs_refl a, eqAs_refl c]; rfl
  | .yield l => by unfold eqA; simp [Nat.beq_refl]
  | .nilFunc => by unfold eqA; rfl
  | .ifc t v => by unfold eqA; rw [eqA_refl v, Nat.beq_refl]; rfl
  | .nilIface => by unfold eqA; rfl
  | .agg l => by unfold eqA; exact eqAs_refl l
  | .tup l => by unfold eqA; exact eqAs_refl l
  | .opq i => by unfold eqA; simp [Nat.beq_refl]
theorem eqAs_refl : ∀ l : List AVal, eqAs l l = true
  | [] => by unfold eqAs; rfl
  | x :: xs => by unfold eqAs; rw [eqA_refl x, eqAs_refl xs]; rfl
end
theorem join_leaf2 {a b c : AVal} (ha : a.one = true) (hb : b.one = true) : ∃ d, cond (eqA a b) (some a) (cond (a.one && b.one) (some (.opq 0)) none) = some d ∧ d.one = true ∧ (a = b → d = a) := by
  cases e : eqA a b with
  | true => exact ⟨a, rfl, ha, fun _ => rfl⟩
  | false =>
    rw [ha, hb]
    exact ⟨_, rfl, rfl, fun q => by subst q; rw [eqA_refl] at e; cases e⟩
theorem shE_atom {a c : AVal} (h1 : ∀ l, a ≠ .agg l) (h2 : ∀ l, a ≠ .tup l) (h : shE a c = true) : a.one = true ∧ c.one = true := by
  unfold shE at h
  split at h
  · exact absurd rfl (h1 _)
  · exact absurd rfl (h2 _)
  · exact Bool.and_eq_true_iff.1 h
theorem shE_agg {l : List AVal} {c : AVal} (h : shE (.agg l) c = true) : ∃ l', c = .agg l' ∧ shEs l l' = true := by
  cases c <;> unfold shE at h <;> first | exact ⟨_, rfl, h⟩ | (simp [AVal.one] at h; done)
theorem shE_tup {l : List AVal} {c : AVal} (h : shE (.tup l) c = true) : ∃ l', c = .tup l' ∧ shEs l l' = true := by
  cases c <;> unfold shE at h <;> first | exact ⟨_, rfl, h⟩ | (simp [AVal.one] at h; done)
theorem shE_agg' {l : List AVal} {c : AVal} (h : shE c (.agg l) = true) : ∃ l', c = .agg l' ∧ shEs l' l = true := by
  cases c <;> unfold shE at h <;> first | exact ⟨_, rfl, h⟩ | (simp [AVal.one] at h; done)
theorem shE_tup' {l : List AVal} {c : AVal} (h : shE c (.tup l) = true) : ∃ l', c = .tup l' ∧ shEs l' l = true := by
  cases c <;> unfold shE at h <;> first | exact ⟨_, rfl, h⟩ | (simp [AVal.one] at h; done)
theorem shE_one {a c : AVal} (ha : a.one = true) (hc : c.one = true) : shE a c = true := by
  cases a <;> first | (cases ha; done) | (cases c <;> first | (cases hc; done) | rfl)
theorem joinV_atom {a b : AVal} (h1 : ∀ l, a ≠ .agg l) (h2 : ∀ l, a ≠ .tup l) : joinV a b = cond (eqA a b) (some a) (cond (a.one && b.one) (some (.opq 0)) none) := by
  cases a <;> first | exact absurd rfl (h1 _) | exact absurd rfl (h2 _) | (unfold joinV; rfl)
theorem sh_leaf {a b c : AVal} (h1 : ∀ l, a ≠ .agg l) (h2 : ∀ l, a ≠ .tup l) (k1 : shE a c = true) (k2 : shE b c = true) : ∃ d, joinV a b = some d ∧ shE d c = true ∧ (a = b → d = a) := by
  obtain ⟨o1, o2⟩ := shE_atom h1 h2 k1
  have o3 : b.one = true := by
    cases b with
    | agg l => obtain ⟨l', rfl, _⟩ := shE_agg k2; cases o2
    | tup l => obtain ⟨l', rfl, _⟩ := shE_tup k2; cases o2
    | _ => rfl
  obtain ⟨d, e1, e2, e3⟩ := join_leaf2 (c := c) o1 o3
  exact ⟨d, by rw [joinV_atom h1 h2]; exact e1, shE_one e2 o2, e3⟩
mutual
theorem joinV_sh : ∀ (a b c : AVal), shE a c = true → shE b c = true → ∃ d, joinV a b = some d ∧ shE d c = true ∧ (a = b → d = a)
  | .agg l, b, c, h1, h2 => by
    obtain ⟨l2, rfl, h1⟩ := shE_agg h1
    obtain ⟨l1, rfl, h2⟩ := shE_agg' h2
    obtain ⟨d, k1, k2, k3⟩ := joinVs_sh l l1 l2 h1 h2
    exact ⟨.agg d, by unfold joinV; rw [k1]; rfl, by unfold shE; exact k2, fun e => by cases e; rw [k3 rfl]⟩
  | .tup l, b, c, h1, h2 => by
    obtain ⟨l2, rfl, h1⟩ := shE_tup h1
    obtain ⟨l1, rfl, h2⟩ := shE_tup' h2
    obtain ⟨d, k1, k2, k3⟩ := joinVs_sh l l1 l2 h1 h2
    exact ⟨.tup d, by unfold joinV; rw [k1]; rfl, by unfold shE; exact k2, fun e => by cases e; rw [k3 rfl]⟩
  | .bool x, b, c, h1, h2 => sh_leaf (by simp) (by simp) h1 h2
  | .int x y, b, c, h1, h2 => sh_leaf (by simp) (by simp) h1 h2
  | .str x, b, c, h1, h2 => sh_leaf (by simp) (by simp) h1 h2
  | .ptr x y, b, c, h1, h2 => sh_leaf (by simp) (by simp) h1 h2
  | .nilptr, b, c, h1, h2 => sh_leaf (by simp) (by simp) h1 h2
  | .slc x y z u w, b, c, h1, h2 => sh_leaf (by simp) (by simp) h1 h2
  | .nilslc, b, c, h1, h2 => sh_leaf (by simp) (by simp) h1 h2
  | .map x, b, c, h1, h2 => sh_leaf (by simp) (by simp) h1 h2
  | .nilmap, b, c, h1, h2 => sh_leaf (by simp) (by simp) h1 h2
  | .fn x y z, b, c, h1, h2 => sh_leaf (by simp) (by simp) h1 h2
  | .yield x, b, c, h1, h2 => sh_leaf (by simp) (by simp) h1 h2
  | .nilFunc, b, c, h1, h2 => sh_leaf (by simp) (by simp) h1 h2
  | .ifc x y, b, c, h1, h2 => sh_leaf (by simp) (by simp) h1 h2
  | .nilIface, b, c, h1, h2 => sh_leaf (by simp) (by simp) h1 h2
  | .opq x, b, c, h1, h2 => sh_leaf (by simp) (by simp) h1 h2
theorem joinVs_sh : ∀ (a b c : List AVal), shEs a c = true → shEs b c = true → ∃ d, joinVs a b = some d ∧ shEs d c = true ∧ (a = b → d = a)
  | [], b, c, h1, h2 => by
    cases c with
    | cons _ _ => unfold shEs at h1; cases h1
    | nil =>
      cases b with
      | cons _ _ => unfold shEs at h2; cases h2
      | nil => exact ⟨[], by unfold joinVs; rfl, by unfold shEs; rfl, fun _ => rfl⟩
  | x :: xs, b, c, h1, h2 => by
    cases c with
    | nil => unfold shEs at h1; cases h1
    | cons z zs =>
      cases b with
      | nil => unfold shEs at h2; cases h2
      | cons y ys =>
        unfold shEs at h1 h2
        rw [Bool.and_eq_true] at h1 h2
        obtain ⟨d, k1, k2, k3⟩ := joinV_sh x y z h1.1 h2.1
        obtain ⟨e, j1, j2, j3⟩ := joinVs_sh xs ys zs h1.2 h2.2
        exact ⟨d :: e, by unfold joinVs; rw [k1, j1], by unfold shEs; rw [k2, j2]; rfl, fun q => by cases q; rw [k3 rfl, j3 rfl]⟩
end
end Go.AM
namespace Go.AM
open Go
variable {α β : Type} {P : Program} {X : Told} {nt : Nat} {rnd : Option Nat}
mutual
theorem shE_refl : ∀ a : AVal, shE a a = true
  | .agg l => by unfold shE; exact shEs_refl l
  | .tup l => by unfold shE; exact shEs_refl l
  | .bool _ => rfl
  | .int _ _ => rfl
  | .str _ => rfl
  | .ptr _ _ => rfl
  | .nilptr => rfl
  | .slc _ _ _ _ _ => rfl
  | .nilslc => rfl
  | .map _ => rfl
  | .nilmap => rfl
  | .fn _ _ _ => rfl
  | .yield _ => rfl
  | .nilFunc => rfl
  | .ifc _ _ => rfl
  | .nilIface => rfl
  | .opq _ => rfl
theorem shEs_refl : ∀ l : List AVal, shEs l l = true
  | [] => by unfold shEs; rfl
  | x :: xs => by unfold shEs; rw [shE_refl x, shEs_refl xs]; rfl
end
theorem joinO_some {a b : Option AVal} {d : AVal} (h : joinV (a.getD .undef) (b.getD .undef) = some d) : ∃ c, joinO a b = some c ∧ c.getD .undef = d := by
  cases a with
  | none =>
    cases b with
    | none =>
      refine ⟨none, rfl, ?_⟩
      have : joinV AVal.undef AVal.undef = some AVal.undef := by unfold AVal.undef joinV joinVs; rfl
      have h : joinV AVal.undef AVal.undef = some d := h
      rw [this] at h
      exact Option.some.inj h
    | some b => exact ⟨some d, by unfold joinO; simp only; rw [h]; rfl, rfl⟩
  | some a => exact ⟨some d, by unfold joinO; simp only; rw [h]; rfl, rfl⟩
theorem tget_0 (v : Option AVal) (l r : Tmps) : tget (.node v l r) 0 = v.getD .undef := rfl
theorem tget_l (v : Option AVal) (l r : Tmps) (q : Nat) : tget (.node v l r) (2 * q + 1) = tget l q := by
  have e : Nat.beq (2 * q % 2) 0 = true := by rw [Nat.mul_mod_right]; rfl
  show ((cond (Nat.beq (2 * q % 2) 0) (l.get (2 * q / 2)) (r.get (2 * q / 2))).getD .undef) = _
  rw [e, Nat.mul_div_cancel_left q (by omega)]; rfl
theorem tget_r (v : Option AVal) (l r : Tmps) (q : Nat) : tget (.node v l r) (2 * q + 2) = tget r q := by
  have e : Nat.beq ((2 * q + 1) % 2) 0 = false := by rw [show (2 * q + 1) % 2 = 1 by omega]; rfl
  show ((cond (Nat.beq ((2 * q + 1) % 2) 0) (l.get ((2 * q + 1) / 2)) (r.get ((2 * q + 1) / 2))).getD .undef) = _
  rw [e, show (2 * q + 1) / 2 = q by omega]; rfl
theorem node_all {U : Tmps} {v : Option AVal} {l r : Tmps} {g : Nat → AVal} (hU : U = .node v l r) (h0 : v.getD .undef = g 0) (hl : ∀ q, tget l q = g (2 * q + 1)) (hr : ∀ q, tget r q = g (2 * q + 2)) : ∀ i, tget U i = g i := by
  intro i
  subst hU
  rcases Nat.eq_zero_or_pos i with rfl | hi
  · exact h0
  · rcases Nat.mod_two_eq_zero_or_one i with e | e
    · have : i = 2 * (i / 2 - 1) + 2 := by omega
      rw [this, tget_r]; exact hr _
    · have : i = 2 * (i / 2) + 1 := by omega
      rw [this, tget_l]; exact hl _
theorem joinL_some : ∀ (T : Tmps) (g : Nat → AVal), (∀ i, joinV .undef (tget T i) = some (g i)) → ∃ U, joinL T = some U ∧ ∀ i, tget U i = g i
  | .nil, g, h => ⟨.nil, rfl, fun i => by
    have := h i
    have e : tget (.nil : Tmps) i = .undef := by unfold tget; rw [Tr.get_nil]; rfl
    rw [e] at this ⊢
    have e2 : joinV AVal.undef AVal.undef = some AVal.undef := by unfold AVal.undef joinV joinVs; rfl
    rw [e2] at this
    exact Option.some.inj this⟩
  | .node v l r, g, h => by
    obtain ⟨c, h1, h2⟩ := joinO_some (a := none) (b := v) (d := g 0) (h 0)
    obtain ⟨L, h3, h4⟩ := joinL_some l (fun q => g (2 * q + 1)) fun q => by have := h (2 * q + 1); rw [tget_l] at this; exact this
    obtain ⟨R, h5, h6⟩ := joinL_some r (fun q => g (2 * q + 2)) fun q => by have := h (2 * q + 2); rw [tget_r] at this; exact this
    exact ⟨.node c L R, by unfold joinL; rw [h1, h3, h5], node_all rfl h2 h4 h6⟩
theorem joinR_some : ∀ (T : Tmps) (g : Nat → AVal), (∀ i, joinV (tget T i) .undef = some (g i)) → ∃ U, joinR T = some U ∧ ∀ i, tget U i = g i
  | .nil, g, h => ⟨.nil, rfl, fun i => by
    have := h i
    have e : tget (.nil : Tmps) i = .undef := by unfold tget; rw [Tr.get_nil]; rfl
    rw [e] at this ⊢
    have e2 : joinV AVal.undef AVal.undef = some AVal.undef := by unfold AVal.undef joinV joinVs; rfl
    rw [e2] at this
    exact Option.some.inj this⟩
  | .node v l r, g, h => by
    obtain ⟨c, h1, h2⟩ := joinO_some (a := v) (b := none) (d := g 0) (h 0)
    obtain ⟨L, h3, h4⟩ := joinR_some l (fun q => g (2 * q + 1)) fun q => by have := h (2 * q + 1); rw [tget_l] at this; exact this
    obtain ⟨R, h5, h6⟩ := joinR_some r (fun q => g (2 * q + 2)) fun q => by have := h (2 * q + 2); rw [tget_r] at this; exact this
    exact ⟨.node c L R, by unfold joinR; rw [h1, h3, h5], node_all rfl h2 h4 h6⟩
theorem tget_nil (i : Nat) : tget (.nil : Tmps) i = .undef := by unfold tget; rw [Tr.get_nil]; rfl
theorem joinT_some : ∀ (T T' : Tmps) (g : Nat → AVal), (∀ i, joinV (tget T i) (tget T' i) = some (g i)) → ∃ U, joinT T T' = some U ∧ ∀ i, tget U i = g i
  | .nil, T', g, h => by
    obtain ⟨U, h1, h2⟩ := joinL_some T' g fun i => by have := h i; rw [tget_nil] at this; exact this
    exact ⟨U, by cases T' <;> exact h1, h2⟩
  | .node v l r, .nil, g, h => by
    obtain ⟨U, h1, h2⟩ := joinR_some (.node v l r) g fun i => by have := h i; rw [tget_nil] at this; exact this
    exact ⟨U, h1, h2⟩
  | .node v l r, .node v' l' r', g, h => by
    obtain ⟨c, h1, h2⟩ := joinO_some (a := v) (b := v') (d := g 0) (h 0)
    obtain ⟨L, h3, h4⟩ := joinT_some l l' (fun q => g (2 * q + 1)) fun q => by have := h (2 * q + 1); rw [tget_l, tget_l] at this; exact this
    obtain ⟨R, h5, h6⟩ := joinT_some r r' (fun q => g (2 * q + 2)) fun q => by have := h (2 * q + 2); rw [tget_r, tget_r] at this; exact this
    exact ⟨.node c L R, by unfold joinT; rw [h1, h3, h5], node_all rfl h2 h4 h6⟩
/-! ### the ways of a range -/
def Off (slots : List Nat) (env env' : Env) : Prop := ∀ j, memN j slots = false → env' j = env j
theorem shEs_join {slots : List Nat} {e1 e2 g : Env} : ∀ {l : List Nat} {S : List AVal}, (∀ i c, i ∈ l → shE (e1 i) c = true → shE (e2 i) c = true → shE (g i) c = true) → shEs (l.map e1) S = true → shEs (l.map e2) S = true → shEs (l.map g) S = true
  | [], S, _, h, _ => h
  | i :: l, [], _, h, _ => by simp only [List.map_cons] at h; unfold shEs at h; cases h
  | i :: l, c :: S, hg, h1, h2 => by
    simp only [List.map_cons] at h1 h2 ⊢
    unfold shEs at h1 h2 ⊢
    rw [Bool.and_eq_true] at h1 h2 ⊢
    exact ⟨hg i c List.mem_cons_self h1.1 h2.1, shEs_join (slots := slots) (fun j c hj => hg j c (List.mem_cons_of_mem _ hj)) h1.2 h2.2⟩
theorem shEs_at {e1 e2 : Env} : ∀ {l : List Nat} {S : List AVal} {i : Nat}, i ∈ l → shEs (l.map e1) S = true → shEs (l.map e2) S = true → ∃ c, shE (e1 i) c = true ∧ shE (e2 i) c = true
  | j :: l, [], i, hi, h, _ => by simp only [List.map_cons] at h; unfold shEs at h; cases h
  | j :: l, c :: S, i, hi, h1, h2 => by
    simp only [List.map_cons] at h1 h2
    unfold shEs at h1 h2
    rw [Bool.and_eq_true] at h1 h2
    rcases List.mem_cons.1 hi with rfl | hi
    · exact ⟨c, h1.1, h2.1⟩
    · exact shEs_at hi h1.2 h2.2
theorem memN_mem {i : Nat} : ∀ {l : List Nat}, memN i l = true → i ∈ l
  | j :: l, h => by
    unfold memN at h
    cases e : Nat.beq i j with
    | true => rw [Nat.eq_of_beq_eq_true e]; exact List.mem_cons_self
    | false => rw [e] at h; exact List.mem_cons_of_mem _ (memN_mem h)
theorem join_env {slots : List Nat} {S : List AVal} {env e1 e2 : Env} {T1 T2 : Tmps} (t1 : TR T1 e1) (t2 : TR T2 e2) (o1 : Off slots env e1) (o2 : Off slots env e2) (s1 : shEs (slots.map e1) S = true) (s2 : shEs (slots.map e2) S = true) :
    ∃ U g, joinT T1 T2 = some U ∧ TR U g ∧ Off slots env g ∧ shEs (slots.map g) S = true := by
  have key : ∀ i, ∃ c, shE (e1 i) c = true ∧ shE (e2 i) c = true := fun i => by
    cases hm : memN i slots with
    | true => exact shEs_at (memN_mem hm) s1 s2
    | false => exact ⟨env i, by rw [o1 i hm]; exact shE_refl _, by rw [o2 i hm]; exact shE_refl _⟩
  have hj : ∀ i, joinV (e1 i) (e2 i) = some ((joinV (e1 i) (e2 i)).getD .undef) := fun i => by
    obtain ⟨c, h1, h2⟩ := key i
    obtain ⟨d, k1, _⟩ := joinV_sh _ _ _ h1 h2
    rw [k1]; rfl
  obtain ⟨U, u1, u2⟩ := joinT_some T1 T2 (fun i => (joinV (e1 i) (e2 i)).getD .undef) fun i => by rw [t1 i, t2 i]; exact hj i
  refine ⟨U, _, u1, u2, fun j hj' => ?_, shEs_join (slots := slots) (fun i c _ h1 h2 => ?_) s1 s2⟩
  · have e : e1 j = e2 j := by rw [o1 j hj', o2 j hj']
    obtain ⟨d, k1, _, k3⟩ := joinV_sh _ _ _ (shE_refl (e1 j)) (show shE (e2 j) (e1 j) = true by rw [← e]; exact shE_refl _)
    show (joinV (e1 j) (e2 j)).getD .undef = _
    rw [k1]
    show d = _
    rw [k3 e, o1 j hj']
  · obtain ⟨d, k1, k2, _⟩ := joinV_sh _ _ _ h1 h2
    show shE ((joinV (e1 i) (e2 i)).getD .undef) c = true
    rw [k1]; exact k2
def Way (slots : List Nat) (S : List AVal) (env : Env) (e0 : AExit) (ms : List Mk) (o : Out) : Prop := ∃ T' env', o = .exit e0 T' ms ∧ TR T' env' ∧ Off slots env env' ∧ shEs (slots.map env') S = true
theorem eqE_refl (e : AExit) : eqE e e = true := by cases e <;> first | rfl | exact Nat.beq_refl _
theorem eqMs_refl : ∀ l : List Mk, eqMs l l = true
  | [] => rfl
  | .mark x :: l => by unfold eqMs; rw [Nat.beq_refl, eqMs_refl l]; rfl
  | .call k a :: l => by unfold eqMs; rw [Nat.beq_refl, eqAs_refl a, eqMs_refl l]; rfl
theorem joinOuts_some {slots : List Nat} {S : List AVal} {env : Env} {e0 : AExit} {ms : List Mk} : ∀ (L : List (Out × AHeap)) (T1 : Tmps) (e1 : Env), TR T1 e1 → Off slots env e1 → shEs (slots.map e1) S = true → (∀ p ∈ L, Way slots S env e0 ms p.1) →
    ∃ U g, joinOuts e0 ms T1 L = some U ∧ TR U g ∧ Off slots env g ∧ shEs (slots.map g) S = true
  | [], T1, e1, t, o, sh, _ => ⟨T1, e1, rfl, t, o, sh⟩
  | (o', K) :: L, T1, e1, t, o, sh, h => by
    obtain ⟨T2, e2, k0, t2, o2, s2⟩ := h _ List.mem_cons_self
    have k0 : o' = .exit e0 T2 ms := k0
    subst k0
    obtain ⟨U, g, u1, u2, u3, u4⟩ := join_env t t2 o o2 sh s2
    obtain ⟨U', g', v1, v2, v3, v4⟩ := joinOuts_some L U g u2 u3 u4 fun p hp => h p (List.mem_cons_of_mem _ hp)
    exact ⟨U', g', by unfold joinOuts; rw [eqE_refl, eqMs_refl, u1]; exact v1, v2, v3, v4⟩
/-- what a range leaves of memory: all but the iterator -/
structure ClE (s0 : Heap) (H0 : AHeap) (r : Nat) (K : AHeap) : Prop where
  rel : HRel s0 K
  next : H0.next ≤ K.next
  lo : K.lo = H0.lo
  log : ∀ i, (i, true) ∈ K.log → i = r ∨ H0.next ≤ i
  kept : ∀ i, i < H0.next → i ≠ r → K.blks.get i = H0.blks.get i
theorem ClE.any {s0 t : Heap} {H0 K : AHeap} {r : Nat} (h : ClE s0 H0 r K) (ht : HRel t H0) (hr : t r = none) : HRel t K :=
  ⟨h.rel.lo, h.rel.wf, fun i x b hi => by
    obtain ⟨k1, ab, k2, k3⟩ := ht.at_ i x b hi
    refine ⟨fun q => by rw [h.lo]; exact k1 q, ab, ?_, k3⟩
    rw [h.kept i (ht.lt (by rw [hi]; simp)) fun q => by rw [q, hr] at hi; cases hi]
    exact k2⟩
theorem maxN_ge : ∀ (Ks : List AHeap) (n : Nat), n ≤ maxNext n Ks ∧ ∀ K ∈ Ks, K.next ≤ maxNext n Ks
  | [], n => ⟨Nat.le_refl _, by simp⟩
  | K :: Ks, n => by
    unfold maxNext
    cases e : Nat.ble n K.next with
    | true =>
      have := Nat.le_of_ble_eq_true e
      obtain ⟨h1, h2⟩ := maxN_ge Ks K.next
      exact ⟨Nat.le_trans this h1, fun J hJ => by rcases List.mem_cons.1 hJ with rfl | hJ; exact h1; exact h2 J hJ⟩
    | false =>
      have : ¬ n ≤ K.next := fun q => by rw [Nat.ble_eq_true_of_le q] at e; cases e
      obtain ⟨h1, h2⟩ := maxN_ge Ks n
      exact ⟨h1, fun J hJ => by rcases List.mem_cons.1 hJ with rfl | hJ; exact Nat.le_trans (by omega) h1; exact h2 J hJ⟩
theorem logs_mem : ∀ {Ks : List AHeap} {e : Nat × Bool}, e ∈ logs Ks → ∃ K ∈ Ks, e ∈ K.log
  | K :: Ks, e, h => by
    unfold logs at h
    rcases List.mem_append.1 h with h | h
    · exact ⟨K, List.mem_cons_self, h⟩
    · obtain ⟨J, h1, h2⟩ := logs_mem h
      exact ⟨J, List.mem_cons_of_mem _ h1, h2⟩
theorem joinId_wf {K : AHeap} {Ks : List AHeap} {i : Nat} (h : joinId K Ks i ≠ none) : K.blks.get i ≠ none := by
  intro e
  unfold joinId at h
  rw [e] at h
  exact h rfl
/-- all ways together -/
theorem joinAll_ok {slots : List Nat} {S : List AVal} {env : Env} {e0 : AExit} {ms : List Mk} {s0 t : Heap} {H0 : AHeap} {r : Nat} (hr : t r = none) (h0 : HRel t H0) {L : List (Out × AHeap)} (hne : L ≠ [])
    (hw : (∃ p, L = [p] ∧ ∃ T' env', p.1 = .exit e0 T' ms ∧ TR T' env' ∧ Off slots env env') ∨ ∀ p ∈ L, Way slots S env e0 ms p.1) (hc : ∀ p ∈ L, ClE s0 H0 r p.2) :
    ∃ U g H', joinAll H0 L = some (.exit e0 U ms, H') ∧ TR U g ∧ Off slots env g ∧ HRel t H' := by
  match L, hne with
  | [(o, K)], _ =>
    obtain ⟨T', env', k0, k1, k2⟩ : ∃ T' env', o = .exit e0 T' ms ∧ TR T' env' ∧ Off slots env env' := by
      rcases hw with ⟨p, hp, h⟩ | h
      · cases hp; exact h
      · obtain ⟨T', env', a, b, c, _⟩ := h _ List.mem_cons_self
        exact ⟨T', env', a, b, c⟩
    subst k0
    have := (hc _ List.mem_cons_self).any h0 hr
    exact ⟨T', env', _, rfl, k1, k2, ⟨this.lo, this.wf, this.at_⟩⟩
  | (o, K) :: q :: L, _ =>
    have hw : ∀ p ∈ (o, K) :: q :: L, Way slots S env e0 ms p.1 := by
      rcases hw with ⟨p, hp, _⟩ | h
      · cases hp
      · exact h
    obtain ⟨T1, e1, k0, t1, o1, s1⟩ := hw _ List.mem_cons_self
    have k0 : o = .exit e0 T1 ms := k0
    subst k0
    obtain ⟨U, g, u1, u2, u3, u4⟩ := joinOuts_some (q :: L) T1 e1 t1 o1 s1 fun p hp => hw p (List.mem_cons_of_mem _ hp)
    refine ⟨U, g, _, by unfold joinAll; simp only; rw [u1], u2, u3, ?_⟩
    have ck := hc _ List.mem_cons_self
    have hlog : ∀ i, (i, true) ∈ logs (K :: (q :: L).map (·.2)) → i = r ∨ H0.next ≤ i := fun i hi => by
      obtain ⟨J, hJ, hi2⟩ := logs_mem hi
      rcases List.mem_cons.1 hJ with rfl | hJ
      · exact ck.log i hi2
      · obtain ⟨p, hp, rfl⟩ := List.mem_map.1 hJ
        exact (hc p (List.mem_cons_of_mem _ hp)).log i hi2
    obtain ⟨g1, g2⟩ := maxN_ge ((q :: L).map (·.2)) K.next
    refine ⟨Nat.le_trans h0.lo (Nat.le_trans ck.next g1), fun i hi => ?_, fun i t b hi => ?_⟩
    · by_cases hm : (i, true) ∈ logs (K :: (q :: L).map (·.2))
      · have e := (joinBlks_get K ((q :: L).map (·.2)) (logs (K :: (q :: L).map (·.2))) H0.blks i).1 hm
        have hi : (joinBlks K ((q :: L).map (·.2)) (logs (K :: (q :: L).map (·.2))) H0.blks).get i ≠ none := hi
        rw [e] at hi
        exact Nat.lt_of_lt_of_le (ck.rel.wf i (joinId_wf hi)) g1
      · have e := (joinBlks_get K ((q :: L).map (·.2)) (logs (K :: (q :: L).map (·.2))) H0.blks i).2 hm
        have hi : (joinBlks K ((q :: L).map (·.2)) (logs (K :: (q :: L).map (·.2))) H0.blks).get i ≠ none := hi
        rw [e] at hi
        exact Nat.lt_of_lt_of_le (h0.wf i hi) (Nat.le_trans ck.next g1)
    · obtain ⟨k1, ab, k2, k3⟩ := h0.at_ i t b hi
      have hlt := h0.lt (i := i) (by rw [hi]; simp)
      have hm : (i, true) ∉ logs (K :: (q :: L).map (·.2)) := fun hm => by
        rcases hlog i hm with rfl | h
        · rw [hr] at hi; cases hi
        · omega
      have e := (joinBlks_get K ((q :: L).map (·.2)) (logs (K :: (q :: L).map (·.2))) H0.blks i).2 hm
      exact ⟨k1, ab, by show (joinBlks K ((q :: L).map (·.2)) (logs (K :: (q :: L).map (·.2))) H0.blks).get i = _; rw [e]; exact k2, k3⟩
end Go.AM
namespace Go.AM
open Go
variable {α β : Type} {P : Program} {X : Told} {nt : Nat} {rnd : Option Nat}
/-! ### code that adds nothing to what is still to be done -/
/-- code that adds nothing to what is still to be done -/
def noRF : Code → Bool
  | .skip => true
  | .region _ ops draw => draw || (deferOf ops.toList).isNone
  | .seq a b => noRF a && noRF b
  | .cond _ a b => noRF a && noRF b
  | .block _ b => noRF b
  | .loop b => (mapStep b).isNone && noRF b
  | .exit _ => true
  | .ret => true
  | _ => false
def reMs (ms : List Mk) : Out → Out
  | .exit e T _ => .exit e T ms
  | .val v => .val v
def reO (ms : List Mk) : Option (Out × AHeap) → Option (Out × AHeap)
  | some (o, H) => some (reMs ms o, H)
  | none => none
theorem reMs_re (ms ms' : List Mk) (o : Out) : reMs ms (reMs ms' o) = reMs ms o := by cases o <;> rfl
theorem reO_re (ms ms' : List Mk) (o : Option (Out × AHeap)) : reO ms (reO ms' o) = reO ms o := by
  cases o with
  | none => rfl
  | some p => simp [reO, reMs_re]
theorem run_noRF : ∀ (n : Nat) (c : Code), noRF c = true → ∀ (T : Tmps) (ms : List Mk) (H : AHeap), run P X n (.code nt rnd c T ms) H = reO ms (run P X n (.code nt rnd c T []) H)
  | 0, _, _, _, _, _ => rfl
  | n + 1, c, hc, T, ms, H => by
    show runCode P (run P X n) nt rnd c T ms H = reO ms (runCode P (run P X n) nt rnd c T [] H)
    have ih := fun c hc T ms H => run_noRF n c hc T ms H
    cases c with
    | skip => rfl
    | exit id => rfl
    | ret => rfl
    | region id ops draw =>
      simp only [noRF, Bool.or_eq_true] at hc
      simp only [runCode]
      cases draw with
      | false =>
        have hd : deferOf ops.toList = none := by
          rcases hc with h | h
          · cases h
          · simpa using h
        simp only [cond_false, hd]
        unfold bd
        cases opsA P (run P X n) nt ops.toList ops.toList T H with
        | none => rfl
        | some p => rfl
      | true =>
        simp only [cond_true]
        unfold bd
        cases (cond (regionOk ops.toList) (opsD P (run P X n) nt ops ops.toList (masks ops.toList []) [] T) fail : M Tmps) H with
        | none => rfl
        | some p => rfl
    | seq a b =>
      simp only [noRF, Bool.and_eq_true] at hc
      simp only [runCode, bd]
      rw [ih a hc.1 T ms H]
      have e0 := ih a hc.1 T [] H
      cases hq : run P X n (.code nt rnd a T []) H with
      | none => rfl
      | some p =>
        obtain ⟨o, H1⟩ := p
        rw [hq] at e0
        simp only [reO, Option.some.injEq, Prod.mk.injEq, and_true] at e0
        simp only [reO]
        cases o with
        | val v => rfl
        | exit e T1 ms1 =>
          simp only [reMs, Out.exit.injEq, true_and] at e0
          subst e0
          cases e with
          | nrm => exact ih b hc.2 T1 ms H1
          | ret => rfl
          | exit id => rfl
    | cond x a b =>
      simp only [noRF, Bool.and_eq_true] at hc
      simp only [runCode]
      cases ev T x with
      | none => rfl
      | some v =>
        cases v with
        | bool t => cases t with
          | true => exact ih a hc.1 T ms H
          | false => exact ih b hc.2 T ms H
        | _ => rfl
    | block id b =>
      simp only [noRF] at hc
      simp only [runCode, bd]
      rw [ih b hc T ms H]
      cases hq : run P X n (.code nt rnd b T []) H with
      | none => rfl
      | some p =>
        obtain ⟨o, H1⟩ := p
        cases o with
        | val v => rfl
        | exit e T1 ms1 =>
          cases e with
          | nrm => rfl
          | ret => rfl
          | exit id' =>
            simp only [reO, reMs]
            cases Nat.beq id' id <;> rfl
    | loop b =>
      simp only [noRF, Bool.and_eq_true] at hc
      have hm : mapStep b = none := by simpa using hc.1
      simp only [runCode, hm, bd]
      rw [ih b hc.2 T ms H]
      have e0 := ih b hc.2 T [] H
      cases hq : run P X n (.code nt rnd b T []) H with
      | none => rfl
      | some p =>
        obtain ⟨o, H1⟩ := p
        rw [hq] at e0
        simp only [reO, Option.some.injEq, Prod.mk.injEq, and_true] at e0
        simp only [reO]
        cases o with
        | val v => rfl
        | exit e T1 ms1 =>
          simp only [reMs, Out.exit.injEq, true_and] at e0
          subst e0
          cases e with
          | nrm => exact ih (.loop b) (by simp [noRF, hm, hc.2]) T1 ms H1
          | ret => rfl
          | exit id => rfl
    | scope _ => cases hc
    | label _ => cases hc
    | goto _ => cases hc
    | refuse _ => cases hc
    | rangeFunc _ _ _ _ => cases hc
theorem wpF.both {m : Nat → M α} {Q : α → Heap → Prop} {R : α → Prop} {s : Heap} (h : wpF m Q s) (hR : ∀ n H a H', m n H = some (a, H') → R a) : wpF m (fun a s => Q a s ∧ R a) s := fun H hH => by
  obtain ⟨n, a, H', h1, s', h2, h3, h4⟩ := h H hH
  exact ⟨n, a, H', h1, s', h2, h3, h4, hR n H a H' h1⟩
/-- code without new marks, run with some that are there already -/
theorem wp_noRF {c : Code} (hc : noRF c = true) {T : Tmps} {Q : Out → Heap → Prop} {s : Heap} (ms : List Mk) (h : wpF (fun n => run P X n (.code nt rnd c T [])) Q s) :
    wpF (fun n => run P X n (.code nt rnd c T ms)) (fun o s => ∃ o', o = reMs ms o' ∧ o' = reMs [] o' ∧ Q o' s) s := fun H hH => by
  obtain ⟨n, a, H', h1, s', h2, h3, h4⟩ := h H hH
  have e0 := run_noRF (P := P) (X := X) (nt := nt) (rnd := rnd) n c hc T [] H
  have h1 : run P X n (.code nt rnd c T []) H = some (a, H') := h1
  rw [h1] at e0
  simp only [reO, Option.some.injEq, Prod.mk.injEq, and_true] at e0
  refine ⟨n, reMs ms a, H', ?_, s', h2, h3, a, rfl, e0, h4⟩
  show run P X n (.code nt rnd c T ms) H = _
  rw [run_noRF n c hc T ms H, h1]; rfl
/-! ### the rounds -/
theorem allN_all {γ δ : Type} {f : Nat → γ → N δ} {G : δ × AHeap → Prop} : ∀ (l : List (γ × AHeap)), l ≠ [] → (∀ p ∈ l, ∃ n0 L, (∀ n, n0 ≤ n → f n p.1 p.2 = some L) ∧ L ≠ [] ∧ ∀ q ∈ L, G q) →
    ∃ n0 L, (∀ n, n0 ≤ n → allN (f n) l = some L) ∧ L ≠ [] ∧ ∀ q ∈ L, G q
  | [], h, _ => absurd rfl h
  | [(a, K)], _, h => by
    obtain ⟨n0, L, h1, h2, h3⟩ := h (a, K) List.mem_cons_self
    exact ⟨n0, L, fun n hn => by simp only [allN]; rw [h1 n hn]; simp, h2, h3⟩
  | (a, K) :: p :: l, _, h => by
    obtain ⟨n0, L, h1, h2, h3⟩ := h (a, K) List.mem_cons_self
    obtain ⟨n1, L1, k1, k2, k3⟩ := allN_all (p :: l) (by simp) fun q hq => h q (List.mem_cons_of_mem _ hq)
    refine ⟨max n0 n1, L ++ L1, fun n hn => ?_, by simp [h2], fun q hq => ?_⟩
    · unfold allN
      rw [h1 n (by omega), k1 n (by omega)]
    · rcases List.mem_append.1 hq with hq | hq
      · exact h3 q hq
      · exact k3 q hq
theorem mem_pairH2 {γ : Type} {H : AHeap} : ∀ {l : List γ} {p : γ × AHeap}, p ∈ pairH H l → p.1 ∈ l ∧ p.2 = H
  | a :: l, p, h => by
    unfold pairH at h
    rcases List.mem_cons.1 h with rfl | h
    · exact ⟨List.mem_cons_self, rfl⟩
    · obtain ⟨h1, h2⟩ := mem_pairH2 h
      exact ⟨List.mem_cons_of_mem _ h1, h2⟩
theorem hasN_app {n b : Nat} : ∀ {l : List Nat}, hasN n (l ++ [b]) = (hasN n l || Nat.beq n b)
  | [] => by unfold hasN; simp [hasN]
  | m :: l => by
    show (Nat.beq n m || hasN n (l ++ [b])) = ((Nat.beq n m || hasN n l) || Nat.beq n b)
    rw [hasN_app, Bool.or_assoc]
theorem leftE_mem {seen : List Nat} : ∀ {es : List AEnt} {e : AEnt}, e ∈ leftE seen es → e ∈ es ∧ hasN e.born seen = false
  | x :: es, e, h => by
    unfold leftE at h
    cases c : hasN x.born seen with
    | true =>
      rw [c] at h
      obtain ⟨h1, h2⟩ := leftE_mem h
      exact ⟨List.mem_cons_of_mem _ h1, h2⟩
    | false =>
      rw [c] at h
      rcases List.mem_cons.1 h with rfl | h
      · exact ⟨List.mem_cons_self, c⟩
      · obtain ⟨h1, h2⟩ := leftE_mem h
        exact ⟨List.mem_cons_of_mem _ h1, h2⟩
theorem leftE_le {seen : List Nat} {b : Nat} : ∀ {es : List AEnt}, (leftE (seen ++ [b]) es).length ≤ (leftE seen es).length
  | [] => Nat.le_refl _
  | x :: es => by
    unfold leftE
    rw [hasN_app]
    have := leftE_le (seen := seen) (b := b) (es := es)
    cases c : hasN x.born seen with
    | true => exact this
    | false =>
      cases d : Nat.beq x.born b with
      | true => simp only [Bool.or_true, cond_true, cond_false, List.length_cons]; omega
      | false => simp only [Bool.or_false, cond_false, List.length_cons]; omega
theorem leftE_lt {seen : List Nat} : ∀ {es : List AEnt} {e : AEnt}, e ∈ leftE seen es → (leftE (seen ++ [e.born]) es).length < (leftE seen es).length
  | x :: es, e, h => by
    have hle := leftE_le (seen := seen) (b := e.born) (es := es)
    unfold leftE at h ⊢
    rw [hasN_app]
    cases c : hasN x.born seen with
    | true =>
      rw [c] at h
      exact leftE_lt h
    | false =>
      rw [c] at h
      rcases List.mem_cons.1 h with rfl | h
      · simp only [Nat.beq_refl, Bool.or_true, cond_true, cond_false, List.length_cons]; omega
      · have := leftE_lt h
        cases d : Nat.beq x.born e.born with
        | true => simp only [Bool.or_true, cond_true, cond_false, List.length_cons]; omega
        | false => simp only [Bool.or_false, cond_false, List.length_cons]; omega
theorem leftE_nil : ∀ es : List AEnt, leftE [] es = es
  | [] => rfl
  | x :: es => by
    show cond (hasN x.born []) (leftE [] es) (x :: leftE [] es) = _
    rw [leftE_nil es]; rfl
end Go.AM
namespace Go.AM
open Go
variable {α β : Type} {P : Program} {X : Told} {nt : Nat} {rnd : Option Nat}
theorem ClE.keep {s0 : Heap} {H0 H H' : AHeap} {r : Nat} {es : List (Nat × Bool)} (h : ClE s0 H0 r H) (d : Does es H H') (hw : ∀ i, (i, true) ∈ es → H.next ≤ i) : ClE s0 H0 r H' ∧ ∀ i, i < H.next → H'.blks.get i = H.blks.get i := by
  have same : ∀ i, i < H.next → H'.blks.get i = H.blks.get i := fun i hi => d.same i fun hm => by have := hw i hm; omega
  refine ⟨⟨⟨by rw [d.lo]; exact Nat.le_trans h.rel.lo d.next, fun i hi => ?_, fun i t b hi => ?_⟩, Nat.le_trans h.next d.next, d.lo.trans h.lo, fun i hi => ?_, fun i hi hr => (same i (Nat.lt_of_lt_of_le hi h.next)).trans (h.kept i hi hr)⟩, same⟩
  · rcases d.gone i hi with e | e
    · exact Nat.lt_of_lt_of_le (h.rel.wf i e) d.next
    · exact e.2
  · obtain ⟨k1, ab, k2, k3⟩ := h.rel.at_ i t b hi
    exact ⟨fun q => by rw [d.lo]; exact k1 q, ab, by rw [same i (h.rel.wf i (by rw [k2]; simp))]; exact k2, k3⟩
  · rw [d.log] at hi
    rcases List.mem_append.1 hi with hi | hi
    · exact .inr (Nat.le_trans h.next (hw i hi))
    · exact h.log i hi
theorem lastN_app {b : Nat} : ∀ {l : List Nat}, lastN (l ++ [b]) = some b
  | [] => rfl
  | [x] => rfl
  | x :: y :: l => by
    show lastN (y :: l ++ [b]) = some b
    exact lastN_app
structure Cl (s0 : Heap) (H0 : AHeap) (r : Nat) (mo : Option Nat) (since : Nat) (seen : List Nat) (H : AHeap) : Prop where
  e : ClE s0 H0 r H
  it : ∃ stepped, H.blks.get r = some (.iter mo since seen stepped) ∧ since ≤ stepped
  lr : H.lo ≤ r
theorem ClE.read {s0 : Heap} {H0 H : AHeap} {r : Nat} {l : List (Nat × Bool)} (h : ClE s0 H0 r H) (hl : ∀ i, (i, true) ∉ l) : ClE s0 H0 r { H with log := l ++ H.log } :=
  ⟨⟨h.rel.lo, h.rel.wf, h.rel.at_⟩, h.next, h.lo, fun i hi => by
    rcases List.mem_append.1 hi with q | q
    · exact absurd q (hl i)
    · exact h.log i q, h.kept⟩
/-- the map of a range -/
def MapIt (s0 : Heap) (mo : Option Nat) (c : Nat) (es : List AEnt) : Prop := match mo with
  | none => es = []
  | some m => ∃ t, s0 m = some (t, .map es c)
theorem head_eval {s0 : Heap} {H0 H : AHeap} {r : Nat} {mo : Option Nat} {since c : Nat} {seen : List Nat} {es : List AEnt} (h : Cl s0 H0 r mo since seen H)
    (hmap : MapIt s0 mo c es) (hold : allOld since es = true) :
    ∃ d H1, headA (.ptr r 0) H = some ((d, leftE seen es), H1) ∧ Cl s0 H0 r mo since seen H1 ∧ d.b = r ∧ ∀ m, mo = some m → d.m = m ∧ d.since = since ∧ d.seen = seen ∧ d.clock = c := by
  obtain ⟨st, hit, hst⟩ := h.it
  cases mo with
  | none =>
    have hmap : es = [] := hmap
    subst hmap
    refine ⟨⟨r, 0, 0, [], 0⟩, { H with log := [(r, false)] ++ H.log }, ?_, ⟨h.e.read (by simp), ⟨st, hit, hst⟩, h.lr⟩, rfl, fun m e => by cases e⟩
    show bd (rd r) _ H = _
    unfold bd rd
    rw [hit]
    rfl
  | some m =>
    obtain ⟨t, hm⟩ := hmap
    obtain ⟨_, ab, g1, g2⟩ := h.e.rel.at_ m t _ hm
    cases ab <;> first | exact g2.elim | skip
    obtain ⟨rfl, rfl⟩ := g2
    refine ⟨⟨r, m, since, seen, c⟩, { H with log := [(m, false), (r, false)] ++ H.log }, ?_, ⟨h.e.read (by simp), ⟨st, hit, hst⟩, h.lr⟩, rfl, fun m' e => by cases e; exact ⟨rfl, rfl, rfl, rfl⟩⟩
    show bd (rd r) _ H = _
    unfold bd rd
    rw [hit]
    simp only
    rw [g1]
    simp only [Nat.ble_eq_true_of_le hst, hold, Bool.and_self, cond_true]
    rfl
theorem tr_put {T : Tmps} {env : Env} (h : TR T env) (i : Nat) (v : AVal) : TR (T.put i (some v)) (upd env i v) := fun j => by
  unfold tget upd
  rw [Tr.get_put]
  cases e : Nat.beq j i with
  | true =>
    have := Nat.eq_of_beq_eq_true e
    subst this
    rw [if_pos rfl]; rfl
  | false =>
    have hne : ¬ i = j := fun q => by subst q; rw [Nat.beq_refl] at e; cases e
    rw [if_neg hne]
    exact h j
def roundN (ih : Task → M Out) (nt : Nat) (rnd : Option Nat) (st : MapStep) (k : Nat) (T : Tmps) (ms : List Mk) (d : IterD) (e : AEnt) : N Out :=
  bdN (oneN (bd (turnA d e) fun _ => ih (.code nt rnd st.rest ((T.put st.nx (some (.tup [.bool true, e.key, e.val]))).put st.more (some (.bool true))) ms))) fun o => match o with
    | .exit .nrm T ms => mapRounds ih nt rnd st k T ms
    | o => oneN (ret o)
abbrev turnE (st : MapStep) (env : Env) (e : AEnt) : Env := upd (upd env st.nx (.tup [.bool true, e.key, e.val])) st.more (.bool true)
abbrev doneE (st : MapStep) (env : Env) : Env := upd (upd env st.nx (.tup [.bool false])) st.more (.bool false)
theorem rounds_ok (hX : FrX X) {st : MapStep} (hno : noRF st.rest = true) {env : Env} {s0 : Heap} {H0 : AHeap} {r : Nat} (hr : s0 r = none) (hit : env st.it = .ptr r 0) {slots : List Nat} (hits : memN st.it slots = false) {mo : Option Nat} {since c : Nat} {es : List AEnt}
    (hmap : MapIt s0 mo c es) (hold : allOld since es = true) (hsc : since ≤ c) {S S2 : List AVal} {e0 : AExit} (he0 : e0 ≠ .nrm)
    (hbody : ∀ e ∈ es, ∀ sn : List Nat, lastN sn = some e.born → ∀ (env1 : Env) (T1 : Tmps), TR T1 (turnE st env1 e) → Off slots env env1 → (slots.map env1 = slots.map env ∨ shEs (slots.map env1) S = true) →
      wpF (fun n => run P X n (.code nt rnd st.rest T1 [])) (fun o _ => ∃ T' env', o = .exit .nrm T' [] ∧ TR T' env' ∧ Off slots env env' ∧ shEs (slots.map env') S = true) (frz (hset s0 r (true, .iter mo since sn c))))
    (hfin : ∀ (env1 : Env) (T1 : Tmps), TR T1 (doneE st env1) → Off slots env env1 → ((es = [] ∧ slots.map env1 = slots.map env) ∨ (es ≠ [] ∧ shEs (slots.map env1) S = true)) →
      wpF (fun n => run P X n (.code nt rnd st.rest T1 [])) (fun o _ => ∃ T' env', o = .exit e0 T' [] ∧ TR T' env' ∧ Off slots env env' ∧ (es ≠ [] → shEs (slots.map env') S2 = true)) (frz s0)) (ms : List Mk) :
    ∀ (k : Nat) (seen : List Nat) (H : AHeap) (env1 : Env) (T1 : Tmps), Cl s0 H0 r mo since seen H → TR T1 env1 → Off slots env env1 → ((seen = [] ∧ slots.map env1 = slots.map env) ∨ (es ≠ [] ∧ shEs (slots.map env1) S = true)) → (leftE seen es).length < k →
      ∃ n0 L, (∀ n, n0 ≤ n → mapRounds (run P X n) nt rnd st k T1 ms H = some L) ∧ L ≠ [] ∧ (es = [] → ∃ p, L = [p]) ∧ ∀ p ∈ L, (∃ T' env', p.1 = .exit e0 T' ms ∧ TR T' env' ∧ Off slots env env' ∧ (es ≠ [] → shEs (slots.map env') S2 = true)) ∧ ClE s0 H0 r p.2 := by
  intro k
  induction k with
  | zero => intro seen H env1 T1 _ _ _ _ hk; omega
  | succ k ih =>
  intro seen H env1 T1 hc hT hoff hsh hk
  obtain ⟨d, H1, g1, g2, g3, g4⟩ := head_eval hc hmap hold
  have htg : tget' T1 st.it = .ptr r 0 := by
    have := hT st.it
    unfold tget at this
    unfold tget'
    rw [hoff st.it hits, hit] at this
    cases q : T1.get st.it with
    | none => rw [q] at this; cases this
    | some v => rw [q] at this; exact this
  have run_ms : ∀ (n : Nat) (T : Tmps) (H H' : AHeap) (e : AExit) (T' : Tmps), run P X n (.code nt rnd st.rest T []) H = some (.exit e T' [], H') → run P X n (.code nt rnd st.rest T ms) H = some (.exit e T' ms, H') := fun n T H H' e T' h => by
    rw [run_noRF n st.rest hno T ms H, h]; rfl
  have up : ∀ {n n' : Nat} {T : Tmps} {H : AHeap} {x : Out × AHeap}, n ≤ n' → run P X n (.code nt rnd st.rest T ms) H = some x → run P X n' (.code nt rnd st.rest T ms) H = some x := fun {n n' T H x} hn h => mono_run (P := P) (X := X) (.code nt rnd st.rest T ms) n n' H x hn h
  cases hleft : leftE seen es with
  | nil =>
    have hT2 := tr_put (tr_put hT st.nx (.tup [.bool false])) st.more (.bool false)
    have hcase : (es = [] ∧ slots.map env1 = slots.map env) ∨ (es ≠ [] ∧ shEs (slots.map env1) S = true) := by
      rcases hsh with ⟨q1, q2⟩ | q
      · subst q1
        rw [leftE_nil] at hleft
        exact .inl ⟨hleft, q2⟩
      · exact .inr q
    obtain ⟨n, o, H2, s2, es', j1, j2, _, j4, _, ⟨T', env', j5, j6, j7, j8⟩, _⟩ := quietRun (fun n => fr_run P hX n _) (hfin env1 _ hT2 hoff hcase) g2.e.rel
    subst j5
    have r1 := run_ms n _ _ _ _ _ j1
    obtain ⟨k1, _⟩ := g2.e.keep j2 j4
    refine ⟨n, [(.exit e0 T' ms, H2)], fun n' hn => ?_, by simp, fun _ => ⟨_, rfl⟩, fun p hp => ?_⟩
    · unfold mapRounds
      unfold bdN oneN
      rw [htg, g1]
      simp only [allN, hleft]
      unfold bd
      rw [up hn r1]
      cases e0 with
      | nrm => exact absurd rfl he0
      | exit _ => rfl
      | ret => rfl
    · rw [List.mem_singleton] at hp
      subst hp
      exact ⟨⟨T', env', rfl, j6, j7, j8⟩, k1⟩
  | cons e es1 =>
    have hes : es ≠ [] := fun q => by rw [q] at hleft; cases hleft
    obtain ⟨m, rfl⟩ : ∃ m, mo = some m := by
      cases mo with
      | none => exact absurd hmap hes
      | some m => exact ⟨m, rfl⟩
    obtain ⟨dm, dsi, dse, dcl⟩ := g4 m rfl
    obtain ⟨stp, hit1, hst1⟩ := g2.it
    have each : ∀ p ∈ pairH H1 (e :: es1), ∃ n0 L, (∀ n, n0 ≤ n → roundN (run P X n) nt rnd st k T1 ms d p.1 p.2 = some L) ∧ L ≠ [] ∧ ∀ q ∈ L, (∃ T' env', q.1 = .exit e0 T' ms ∧ TR T' env' ∧ Off slots env env' ∧ (es ≠ [] → shEs (slots.map env') S2 = true)) ∧ ClE s0 H0 r q.2 := by
      intro p hp
      obtain ⟨p1, p2⟩ := mem_pairH2 hp
      obtain ⟨e', K⟩ := p
      simp only at p1 p2 ⊢
      subst p2
      rw [← hleft] at p1
      obtain ⟨m1, m2⟩ := leftE_mem p1
      have ht : turnA d e' K = some ((), { K with blks := K.blks.put r (some (.iter (some m) since (seen ++ [e'.born]) c)), log := (r, true) :: K.log }) := by
        unfold turnA wr
        rw [g3, Nat.ble_eq_true_of_le g2.lr, cond_true, hit1, dm, dsi, dse, dcl]
      have hc2 : Cl s0 H0 r (some m) since (seen ++ [e'.born]) { K with blks := K.blks.put r (some (.iter (some m) since (seen ++ [e'.born]) c)), log := (r, true) :: K.log } := by
        refine ⟨⟨⟨g2.e.rel.lo, fun i hi => ?_, fun i t b hi => ?_⟩, g2.e.next, g2.e.lo, fun i hi => ?_, fun i hi hne => ?_⟩, ⟨c, by show (K.blks.put r _).get r = _; rw [Tr.get_put, if_pos rfl], hsc⟩, g2.lr⟩
        · have hi : (K.blks.put r (some (.iter (some m) since (seen ++ [e'.born]) c))).get i ≠ none := hi
          rw [Tr.get_put] at hi
          split at hi
          · rename_i q
            subst q
            exact g2.e.rel.wf r (by rw [hit1]; simp)
          · exact g2.e.rel.wf i hi
        · obtain ⟨k1, ab, k2, k3⟩ := g2.e.rel.at_ i t b hi
          refine ⟨k1, ab, ?_, k3⟩
          show (K.blks.put r _).get i = _
          rw [Tr.get_put, if_neg fun q => by rw [← q, hr] at hi; cases hi]
          exact k2
        · rcases List.mem_cons.1 hi with q | q
          · cases q; exact .inl rfl
          · exact g2.e.log i q
        · show (K.blks.put r _).get i = _
          rw [Tr.get_put, if_neg fun q => hne q.symm]
          exact g2.e.kept i hi hne
      have hT2 := tr_put (tr_put hT st.nx (.tup [.bool true, e'.key, e'.val])) st.more (.bool true)
      have hrel2 : HRel (hset s0 r (true, .iter (some m) since (seen ++ [e'.born]) c)) { K with blks := K.blks.put r (some (.iter (some m) since (seen ++ [e'.born]) c)), log := (r, true) :: K.log } := by
        refine ⟨hc2.e.rel.lo, hc2.e.rel.wf, fun i t b hi => ?_⟩
        unfold hset at hi
        split at hi
        · rename_i q
          subst q
          cases hi
          exact ⟨(fun q => by cases q), .iter (some m) since (seen ++ [e'.born]) c, (by show (K.blks.put i _).get i = _; rw [Tr.get_put, if_pos rfl]), rfl, rfl, rfl, rfl⟩
        · exact hc2.e.rel.at_ i t b hi
      obtain ⟨n, o, H3, s3, es', j1, j2, _, j4, _, ⟨T', env', j5, j6, j7, j8⟩, _⟩ := quietRun (fun n => fr_run P hX n _) (hbody e' m1 (seen ++ [e'.born]) lastN_app env1 _ hT2 hoff (hsh.imp (fun q => q.2) (fun q => q.2))) hrel2
      subst j5
      have r1 := run_ms n _ _ _ _ _ j1
      obtain ⟨k1, k2⟩ := hc2.e.keep j2 j4
      obtain ⟨stp2, hit2, hst2⟩ := hc2.it
      have hc3 : Cl s0 H0 r (some m) since (seen ++ [e'.born]) H3 := ⟨k1, ⟨stp2, by rw [k2 r (hc2.e.rel.wf r (by rw [hit2]; simp))]; exact hit2, hst2⟩, by rw [j2.lo]; exact hc2.lr⟩
      have hlt := leftE_lt p1
      obtain ⟨n1, L, i1, i2, _, i4⟩ := ih (seen ++ [e'.born]) H3 env' T' hc3 j6 j7 (.inr ⟨hes, j8⟩) (by omega)
      refine ⟨max n n1, L, fun n' hn => ?_, i2, i4⟩
      unfold roundN bdN oneN bd
      rw [ht]
      simp only
      rw [up (by omega) r1]
      simp only [allN]
      rw [i1 n' (by omega)]
      simp
    obtain ⟨n0, L, i1, i2, i3⟩ := allN_all (f := fun n => roundN (run P X n) nt rnd st k T1 ms d) (G := fun q => (∃ T' env', q.1 = .exit e0 T' ms ∧ TR T' env' ∧ Off slots env env' ∧ (es ≠ [] → shEs (slots.map env') S2 = true)) ∧ ClE s0 H0 r q.2) (pairH H1 (e :: es1)) (by simp [pairH]) each
    refine ⟨n0, L, fun n hn => ?_, i2, fun q => absurd q hes, i3⟩
    have i1 : allN (roundN (run P X n) nt rnd st k T1 ms d) (pairH H1 (e :: es1)) = some L := i1 n hn
    show bdN (oneN (headA (tget' T1 st.it))) (fun h => match h.2 with
      | [] => _
      | e :: es => bdN (eachN (e :: es)) (roundN (run P X n) nt rnd st k T1 ms h.1)) H = _
    unfold bdN oneN
    rw [htg, g1]
    simp only [allN, hleft]
    unfold eachN
    simp only
    rw [i1]
    simp
end Go.AM
