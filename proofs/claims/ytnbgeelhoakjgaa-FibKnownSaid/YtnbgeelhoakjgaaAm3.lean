/- Part 3 of a calculation in a small memory that is proved to answer as the program does: see the last part. -/
import Derived.Test.YtnbgeelhoakjgaaAm2
namespace Go.AM
open Go

/-! ### tries -/
theorem Tr.get_nil {α : Type} (i : Nat) : (Tr.nil : Tr α).get i = none := by cases i <;> rfl
theorem ite_same {α : Type} {p q : Prop} [Decidable p] [Decidable q] {a b : α} (h : p ↔ q) : (if p then a else b) = if q then a else b := by
  by_cases hp : p <;> simp [hp, h.symm] <;> simp_all
theorem Tr.get_setF {α : Type} : ∀ (f : Nat) (t : Tr α) (i : Nat) (x : Option α) (j : Nat), i < f → (Tr.setF f t i x).get j = if i = j then x else t.get j := by
  intro f
  induction f with
  | zero => intro t i x j h; omega
  | succ f ih =>
    intro t i x j h
    have key : ∀ a b : Nat, a + 1 = b + 1 ↔ (Nat.beq (a % 2) 0 = Nat.beq (b % 2) 0 ∧ a / 2 = b / 2) := by
      intro a b
      constructor
      · intro h; have : a = b := by omega
        subst this; exact ⟨rfl, rfl⟩
      · rintro ⟨h1, h2⟩
        have : (a % 2 = 0) ↔ (b % 2 = 0) := by
          constructor
          · intro h; rw [h] at h1; exact Nat.eq_of_beq_eq_true (h1.symm.trans rfl)
          · intro h; rw [h] at h1; exact Nat.eq_of_beq_eq_true (h1.trans rfl)
        omega
    cases t with
    | nil =>
      cases i with
      | zero => cases j <;> simp [Tr.setF, Tr.get]
      | succ i =>
        have hi : i / 2 < f := by omega
        cases j with
        | zero => cases hb : Nat.beq (i % 2) 0 <;> simp [Tr.setF, Tr.get, hb]
        | succ j =>
          have k := key i j
          rw [ite_same k, Tr.get_nil]
          cases hb : Nat.beq (i % 2) 0 <;> cases hc : Nat.beq (j % 2) 0 <;> simp [Tr.setF, Tr.get, hb, hc, ih _ _ _ _ hi]
    | node v l r =>
      cases i with
      | zero => cases j <;> simp [Tr.setF, Tr.get]
      | succ i =>
        have hi : i / 2 < f := by omega
        cases j with
        | zero => cases hb : Nat.beq (i % 2) 0 <;> simp [Tr.setF, Tr.get, hb]
        | succ j =>
          have k := key i j
          rw [ite_same k]
          cases hb : Nat.beq (i % 2) 0 <;> cases hc : Nat.beq (j % 2) 0 <;> simp [Tr.setF, Tr.get, hb, hc, ih _ _ _ _ hi]
theorem Tr.get_put {α : Type} (t : Tr α) (i : Nat) (x : Option α) (j : Nat) : (t.put i x).get j = if i = j then x else t.get j :=
  Tr.get_setF (i + 1) t i x j (by omega)
theorem Tr.get_ofListAt {α : Type} : ∀ (l : List α) (t : Tr α) (o i : Nat), (Tr.ofListAt t o l).get i = if o ≤ i ∧ i < o + l.length then l[i - o]? else t.get i := by
  intro l
  induction l with
  | nil => intro t o i; simp [Tr.ofListAt]; intro h1 h2; omega
  | cons x xs ih =>
    intro t o i
    simp only [Tr.ofListAt, ih, Tr.set, Tr.get_put, List.length_cons]
    by_cases h : o = i
    · subst h; rw [if_neg (by omega), if_pos rfl, if_pos (by omega)]; simp
    · by_cases h1 : o + 1 ≤ i ∧ i < o + 1 + xs.length
      · rw [if_pos h1, if_pos (by omega)]
        have : i - o = (i - (o + 1)) + 1 := by omega
        rw [this, List.getElem?_cons_succ]
      · rw [if_neg h1, if_neg h, if_neg (by omega)]

/-! ### numbers -/
theorem frcN_eq {β : Type} (n : Nat) (k : Nat → β) : frcN n k = k n := by cases n <;> rfl
theorem frc_eq {β : Type} (n : Int) (k : Int → β) : frc n k = k n := by cases n <;> simp [frc, frcN_eq]
theorem ltI_eq (x y : Int) : ltI x y = decide (x < y) := by
  rw [Bool.eq_iff_iff]
  cases x <;> cases y <;> simp [ltI, Nat.blt_eq] <;> omega
theorem eqI_eq (x y : Int) : eqI x y = (x == y) := by
  rw [Bool.eq_iff_iff]
  cases x <;> cases y <;> simp [eqI] <;> omega
theorem wrapM_eq (m h : Nat) (n : Int) (hh : h ≤ m) (h0 : 0 < h) : wrapM m h n = (if (n % (m : Int)) ≥ (h : Int) then n % (m : Int) - m else n % (m : Int)) := by
  have hm : 0 < m := by omega
  cases n with
  | ofNat a =>
    simp only [wrapM]
    have e : (Int.ofNat a) % (m : Int) = ((a % m : Nat) : Int) := by simp
    rw [e]
    have hr := Nat.mod_lt a hm
    cases h1 : Nat.blt a h with
    | true =>
      have : a < h := by simpa [Nat.blt_eq] using h1
      have : a % m = a := Nat.mod_eq_of_lt (by omega)
      rw [this, if_neg (by omega)]; rfl
    | false =>
      simp only [cond_false]
      cases h2 : Nat.blt (a % m) h with
      | true =>
        have : a % m < h := by simpa [Nat.blt_eq] using h2
        rw [if_neg (by omega)]; rfl
      | false =>
        have : ¬ (a % m < h) := by rw [← Nat.blt_eq, h2]; simp
        rw [if_pos (by omega)]
        simp only [cond_false, Int.negSucc_eq]; omega
  | negSucc a =>
    simp only [wrapM]
    have hr := Nat.mod_lt a hm
    have e : (Int.negSucc a) % (m : Int) = ((m - 1 - a % m : Nat) : Int) := by
      rw [Int.negSucc_emod a (by omega)]
      have : (a : Int) % (m : Int) = ((a % m : Nat) : Int) := by simp
      omega
    rw [e]
    have hr2 : m - 1 - a % m < m := by omega
    generalize m - 1 - a % m = r at *
    cases h2 : Nat.blt r h with
    | true =>
      have : r < h := by simpa [Nat.blt_eq] using h2
      rw [if_neg (by omega)]; rfl
    | false =>
      have : ¬ (r < h) := by rw [← Nat.blt_eq, h2]; simp
      rw [if_pos (by omega)]
      simp only [cond_false, Int.negSucc_eq]; omega
theorem wrapK_eq (k : IntKind) (n : Int) : wrapK k n = k.wrap n := by
  cases k <;> simp only [wrapK] <;> rw [wrapM_eq _ _ _ (by omega) (by omega)] <;> simp [IntKind.wrap, IntKind.bits, IntKind.signed] <;> omega
end Go.AM
