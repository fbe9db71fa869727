/- Part E of a calculus over a small memory that is proved to answer as the program does, and of its use for the functions that the law reaches: see the last part. -/
import Derived.Test.YtgehkpnggfnapaaDoorU2
import Derived.Test.YtgehkpnggfnapaaDoorV
import Derived.Test.YtgehkpnggfnapaaDoorD
namespace Go.AM.SG
open Go Go.AM
/-! ### lists of numbers, parts of which are put in order (no program in sight) -/
abbrev nAt (l : List Int) (i : Nat) : Int := l.getD i 0
theorem nAt_get {l : List Int} {i : Nat} (h : i < l.length) : nAt l i = l[i] := by simp [nAt, h]
theorem nAt_get? {l : List Int} {i : Nat} (h : i < l.length) : l[i]? = some (nAt l i) := by simp [nAt, h]
theorem nAt_set {l : List Int} {i j : Nat} {x : Int} (h : i < l.length) : nAt (l.set i x) j = if j = i then x else nAt l j := by
  unfold nAt
  rw [List.getD_eq_getElem?_getD, List.getD_eq_getElem?_getD, List.getElem?_set]
  by_cases e : j = i
  · subst e; simp [h]
  · rw [if_neg (fun q => e q.symm), if_neg e]
def swN (l : List Int) (i j : Nat) : List Int := (l.set i (nAt l j)).set j (nAt l i)
theorem swN_len {l : List Int} {i j : Nat} : (swN l i j).length = l.length := by simp [swN]
theorem swN_at {l : List Int} {i j k : Nat} (hi : i < l.length) (hj : j < l.length) : nAt (swN l i j) k = if k = j then nAt l i else if k = i then nAt l j else nAt l k := by
  unfold swN
  rw [nAt_set (by simpa using hj), nAt_set hi]
theorem swN_perm {l : List Int} {i j : Nat} (hi : i < l.length) (hj : j < l.length) : (swN l i j).Perm l := by
  unfold swN
  rw [nAt_get hi, nAt_get hj]
  exact List.set_set_perm hi hj
/-- only what lies from a to b was moved -/
structure PI (a b : Nat) (l l' : List Int) : Prop where
  perm : l'.Perm l
  out : ∀ i, ¬(a ≤ i ∧ i < b) → nAt l' i = nAt l i
  inn : ∀ i, a ≤ i → i < b → ∃ k, a ≤ k ∧ k < b ∧ nAt l' i = nAt l k
variable {a b c d a0 b0 m p : Nat} {l l' l'' : List Int}
theorem PI.refl (a b : Nat) (l : List Int) : PI a b l l := ⟨.refl _, fun _ _ => rfl, fun i h1 h2 => ⟨i, h1, h2, rfl⟩⟩
theorem PI.len (h : PI a b l l') : l'.length = l.length := h.perm.length_eq
theorem PI.trans (h : PI a b l l') (k : PI a b l' l'') : PI a b l l'' := by
  refine ⟨k.perm.trans h.perm, fun i hi => (k.out i hi).trans (h.out i hi), fun i h1 h2 => ?_⟩
  obtain ⟨j, q1, q2, q3⟩ := k.inn i h1 h2
  obtain ⟨j', r1, r2, r3⟩ := h.inn j q1 q2
  exact ⟨j', r1, r2, q3.trans r3⟩
theorem PI.wide (h : PI a b l l') (h1 : c ≤ a) (h2 : b ≤ d) : PI c d l l' := by
  refine ⟨h.perm, fun i hi => h.out i (by omega), fun i q1 q2 => ?_⟩
  by_cases q : a ≤ i ∧ i < b
  · obtain ⟨k, r1, r2, r3⟩ := h.inn i q.1 q.2
    exact ⟨k, by omega, by omega, r3⟩
  · exact ⟨i, q1, q2, h.out i q⟩
theorem PI.sw {i j : Nat} (hi : a ≤ i) (hi2 : i < b) (hj : a ≤ j) (hj2 : j < b) (hb : b ≤ l.length) : PI a b l (swN l i j) := by
  refine ⟨swN_perm (by omega) (by omega), fun k hk => ?_, fun k h1 h2 => ?_⟩
  · rw [swN_at (by omega) (by omega), if_neg (by omega), if_neg (by omega)]
  · rw [swN_at (by omega) (by omega)]
    by_cases e1 : k = j
    · exact ⟨i, hi, hi2, by rw [if_pos e1]⟩
    · by_cases e2 : k = i
      · exact ⟨j, hj, hj2, by rw [if_neg e1, if_pos e2]⟩
      · exact ⟨k, h1, h2, by rw [if_neg e1, if_neg e2]⟩
theorem PI.ge {x : Int} (h : PI a b l l') (k : ∀ i, a ≤ i → i < b → x ≤ nAt l i) : ∀ i, a ≤ i → i < b → x ≤ nAt l' i := fun i h1 h2 => by
  obtain ⟨j, q1, q2, q3⟩ := h.inn i h1 h2
  rw [q3]; exact k j q1 q2
theorem PI.le {x : Int} (h : PI a b l l') (k : ∀ i, a ≤ i → i < b → nAt l i ≤ x) : ∀ i, a ≤ i → i < b → nAt l' i ≤ x := fun i h1 h2 => by
  obtain ⟨j, q1, q2, q3⟩ := h.inn i h1 h2
  rw [q3]; exact k j q1 q2
/-- in order from a to b -/
def Asc (a b : Nat) (l : List Int) : Prop := ∀ i j, a ≤ i → i < j → j < b → nAt l i ≤ nAt l j
/-- nothing that is put in order lies below what stands ahead of it -/
def Low (a b : Nat) (l : List Int) : Prop := 0 < a → ∀ i, a ≤ i → i < b → nAt l (a - 1) ≤ nAt l i
theorem PI.low (h : PI a b l l') (k : Low a b l) : Low a b l' := fun h0 => by
  rw [h.out (a - 1) (by omega)]
  exact h.ge (k h0)
/-- all is in order but what lies from a to b -/
def But (a0 b0 a b : Nat) (l : List Int) : Prop := ∀ i j, a0 ≤ i → i < j → j < b0 → ¬(a ≤ i ∧ j < b) → nAt l i ≤ nAt l j
theorem But.start : But a0 b0 a0 b0 l := fun i j h1 _ h3 h4 => absurd ⟨h1, h3⟩ h4
theorem But.asc (h : But a0 b0 a b l) (k : Asc a b l) : Asc a0 b0 l := fun i j h1 h2 h3 => by
  by_cases q : a ≤ i ∧ j < b
  · exact k i j q.1 h2 q.2
  · exact h i j h1 h2 h3 q
theorem But.pi (h : But a0 b0 a b l) (ha : a0 ≤ a) (hb : b ≤ b0) (k : PI a b l l') : But a0 b0 a b l' := fun i j h1 h2 h3 h4 => by
  by_cases q1 : a ≤ i ∧ i < b
  · obtain ⟨r, r1, r2, r3⟩ := k.inn i q1.1 q1.2
    rw [r3, k.out j (by omega)]
    exact h r j (by omega) (by omega) h3 (by omega)
  · rw [k.out i q1]
    by_cases q2 : a ≤ j ∧ j < b
    · obtain ⟨r, r1, r2, r3⟩ := k.inn j q2.1 q2.2
      rw [r3]
      exact h i r h1 (by omega) (by omega) (by omega)
    · rw [k.out j q2]; exact h i j h1 h2 h3 h4
theorem But.low (h : But a0 b0 a b l) (h0 : Low a0 b0 l) (ha : a0 ≤ a) (hb : b ≤ b0) : Low a b l := fun hp i h1 h2 => by
  by_cases q : a = a0
  · subst q; exact h0 hp i h1 (by omega)
  · exact h (a - 1) i (by omega) (by omega) (by omega) (by omega)
/-- parted at m -/
def Parted (a b m : Nat) (l : List Int) : Prop := (∀ i, a ≤ i → i < m → nAt l i ≤ nAt l m) ∧ ∀ i, m < i → i < b → nAt l m ≤ nAt l i
theorem But.left (h : But a0 b0 a b l) (ha : a0 ≤ a) (hb : b ≤ b0) (hm : a ≤ m) (hm2 : m < b) (hp : Parted a b m l) (k : PI a m l l') (ks : Asc a m l') : But a0 b0 (m + 1) b l' := by
  have hw := h.pi ha hb (k.wide (Nat.le_refl a) (by omega : m ≤ b))
  have e : ∀ i, m ≤ i → nAt l' i = nAt l i := fun i hi => k.out i (by omega)
  have low := k.le hp.1
  intro i j h1 h2 h3 h4
  by_cases q : a ≤ i ∧ j < b
  · by_cases q1 : i < m
    · by_cases q2 : j < m
      · exact ks i j q.1 h2 q2
      · have := low i q.1 q1
        rw [e j (by omega)]
        by_cases q3 : j = m
        · rw [q3]; exact this
        · exact Int.le_trans this (hp.2 j (by omega) q.2)
    · have : i = m := by omega
      rw [this, e m (Nat.le_refl m), e j (by omega)]
      exact hp.2 j (by omega) q.2
  · exact hw i j h1 h2 h3 q
theorem But.right (h : But a0 b0 a b l) (ha : a0 ≤ a) (hb : b ≤ b0) (hm : a ≤ m) (hm2 : m < b) (hp : Parted a b m l) (k : PI (m + 1) b l l') (ks : Asc (m + 1) b l') : But a0 b0 a m l' := by
  have hw := h.pi ha hb (k.wide (by omega : a ≤ m + 1) (Nat.le_refl b))
  have e : ∀ i, i ≤ m → nAt l' i = nAt l i := fun i hi => k.out i (by omega)
  have up := k.ge (fun i h1 h2 => hp.2 i (by omega) h2)
  intro i j h1 h2 h3 h4
  by_cases q : a ≤ i ∧ j < b
  · by_cases q1 : m < j
    · by_cases q2 : m < i
      · exact ks i j (by omega) h2 q.2
      · have := up j (by omega) q.2
        rw [e i (by omega)]
        by_cases q3 : i = m
        · rw [q3]; exact this
        · exact Int.le_trans (hp.1 i q.1 (by omega)) this
    · have : j = m := by omega
      rw [this, e m (Nat.le_refl m), e i (by omega)]
      exact hp.1 i q.1 (by omega)
  · exact hw i j h1 h2 h3 q
/-- all from a to m are alike, and none of the rest is below them -/
theorem But.equal {x : Int} (h : But a0 b0 a b l) (hm : a ≤ m) (hm2 : m ≤ b) (h1 : ∀ i, a ≤ i → i < m → nAt l i = x) (h2 : ∀ i, m ≤ i → i < b → x ≤ nAt l i) : But a0 b0 m b l := by
  intro i j k1 k2 k3 k4
  by_cases q : a ≤ i ∧ j < b
  · have := h1 i q.1 (by omega)
    rw [this]
    by_cases q1 : j < m
    · rw [h1 j (by omega) q1]; omega
    · exact h2 j (by omega) q.2
  · exact h i j k1 k2 k3 q
end Go.AM.SG
namespace Go.AM.SG
open Go Go.AM
variable {f lo hi r ch i n : Nat} {l l' : List Int}
/-! ### a heap in a part of a list -/
def Chd (k c : Nat) : Prop := c = 2 * k + 1 ∨ c = 2 * k + 2
/-- nobody from lo on is below its children -/
def Hp (f lo hi : Nat) (l : List Int) : Prop := ∀ k c, lo ≤ k → Chd k c → c < hi → nAt l (f + c) ≤ nAt l (f + k)
/-- the same, but for r -/
structure HpX (f lo hi r : Nat) (l : List Int) : Prop where
  oth : ∀ k c, lo ≤ k → k ≠ r → Chd k c → c < hi → nAt l (f + c) ≤ nAt l (f + k)
  gra : ∀ p c, lo ≤ p → Chd p r → Chd r c → c < hi → nAt l (f + c) ≤ nAt l (f + p)
theorem HpX.start (h : Hp f (lo + 1) hi l) : HpX f lo hi lo l :=
  ⟨fun k c h1 h2 h3 h4 => h k c (by omega) h3 h4, fun p c h1 h2 _ _ => by unfold Chd at h2; omega⟩
theorem HpX.leaf (h : HpX f lo hi r l) (hr : hi ≤ 2 * r + 1) : Hp f lo hi l := fun k c h1 h2 h3 => by
  by_cases e : k = r
  · subst e; unfold Chd at h2; omega
  · exact h.oth k c h1 e h2 h3
theorem HpX.done (h : HpX f lo hi r l) (hb : ∀ c, Chd r c → c < hi → nAt l (f + c) ≤ nAt l (f + ch)) (hc : nAt l (f + ch) ≤ nAt l (f + r)) : Hp f lo hi l := fun k c h1 h2 h3 => by
  by_cases e : k = r
  · subst e; exact Int.le_trans (hb c h2 h3) hc
  · exact h.oth k c h1 e h2 h3
theorem HpX.down (h : HpX f lo hi r l) (hl : f + hi ≤ l.length) (hr : lo ≤ r) (hch : Chd r ch) (hlt : ch < hi) (hb : ∀ c, Chd r c → c < hi → nAt l (f + c) ≤ nAt l (f + ch)) (hc : nAt l (f + r) ≤ nAt l (f + ch)) : HpX f lo hi ch (swN l (f + r) (f + ch)) := by
  have hne : r < ch := by unfold Chd at hch; omega
  have at_ : ∀ k, nAt (swN l (f + r) (f + ch)) (f + k) = if k = ch then nAt l (f + r) else if k = r then nAt l (f + ch) else nAt l (f + k) := fun k => by
    rw [swN_at (by omega) (by omega)]
    by_cases e1 : k = ch
    · rw [if_pos e1, if_pos (by omega)]
    · rw [if_neg e1, if_neg (by omega)]
      by_cases e2 : k = r
      · rw [if_pos e2, if_pos (by omega)]
      · rw [if_neg e2, if_neg (by omega)]
  refine ⟨fun k c h1 h2 h3 h4 => ?_, fun p c h1 h2 h3 h4 => ?_⟩
  · rw [at_ c, at_ k, if_neg h2]
    by_cases e1 : k = r
    · subst e1
      rw [if_pos rfl]
      by_cases e2 : c = ch
      · rw [if_pos e2]; exact hc
      · rw [if_neg e2, if_neg (by unfold Chd at h3; omega)]
        exact hb c h3 h4
    · rw [if_neg e1]
      by_cases e2 : c = ch
      · exfalso; unfold Chd at h3 hch; omega
      · rw [if_neg e2]
        by_cases e3 : c = r
        · rw [if_pos e3]
          subst e3
          exact h.gra k ch h1 h3 hch hlt
        · rw [if_neg e3]
          exact h.oth k c h1 e1 h3 h4
  · have e : p = r := by unfold Chd at h2 hch; omega
    subst e
    rw [at_ c, at_ p, if_neg (by unfold Chd at h3; omega), if_neg (by unfold Chd at h3; omega), if_neg (by omega), if_pos rfl]
    exact h.oth ch c (by omega) (by omega) h3 h4
theorem Hp.top (h : Hp f 0 n l) : ∀ k, k < n → nAt l (f + k) ≤ nAt l f := by
  intro k
  induction k using Nat.strongRecOn with
  | _ k ih =>
    intro hk
    by_cases e : k = 0
    · subst e; exact Int.le_refl _
    · have := h ((k - 1) / 2) k (Nat.zero_le _) (by unfold Chd; omega) hk
      exact Int.le_trans this (ih _ (by omega) (by omega))
theorem Hp.vac : Hp f ((hi - 1) / 2 + 1) hi l := fun k c h1 h2 h3 => by unfold Chd at h2; omega
/-- the greatest goes behind the rest -/
theorem But.pop {a b : Nat} (h : But a b a (a + n + 1) l) (hh : Hp a 0 (n + 1) l) (hb : a + n + 1 ≤ b) (hl : b ≤ l.length) : But a b a (a + n) (swN l a (a + n)) := by
  have hw := h.pi (Nat.le_refl a) hb (PI.sw (i := a) (j := a + n) (Nat.le_refl a) (by omega) (by omega) (by omega) (by omega))
  intro i j h1 h2 h3 h4
  by_cases q : j < a + n + 1
  · have e : j = a + n := by omega
    subst e
    rw [swN_at (by omega) (by omega), swN_at (by omega) (by omega), if_pos rfl, if_neg (by omega)]
    have top := hh.top
    by_cases e2 : i = a
    · rw [if_pos e2]; exact top n (by omega)
    · rw [if_neg e2]
      have := top (i - a) (by omega)
      rw [show a + (i - a) = i by omega] at this
      exact this
  · exact hw i j h1 h2 h3 (by omega)
theorem Hp.swap {a : Nat} (h : Hp a 0 (n + 1) l) (hb : a + n + 1 ≤ l.length) : Hp a 1 n (swN l a (a + n)) := fun k c h1 h2 h3 => by
  rw [swN_at (by omega) (by omega), swN_at (by omega) (by omega), if_neg (by omega), if_neg (by unfold Chd at h2; omega), if_neg (by unfold Chd at h2; omega), if_neg (by omega)]
  exact h k c (by omega) h2 (by omega)
end Go.AM.SG
namespace Go.AM.SG
open Go Go.AM
/-! ### words of bits -/
theorem wu64_ (n : Int) : wrapK .u64 n = n % 18446744073709551616 := by
  simp only [wrapK]; rw [wrapM_eq _ _ _ (by omega) (by omega)]; split <;> omega
theorem wu64n_ {n : Nat} (h : n < 18446744073709551616) : wrapK .u64 (n : Int) = n := by rw [wu64_, Int.emod_eq_of_lt (by omega) (by omega)]
theorem wu8_ (n : Int) : wrapK .u8 n = n % 256 := by
  simp only [wrapK]; rw [wrapM_eq _ _ _ (by omega) (by omega)]; split <;> omega
theorem ws64n_ {n : Nat} (h : n < 9223372036854775808) : wrapK .i64 (n : Int) = n := by
  simp only [wrapK]; rw [wrapM_eq _ _ _ (by omega) (by omega)]; split <;> omega
theorem and_u64 {k w m : Nat} (hw : w < 18446744073709551616) (hm : m = 2 ^ k - 1) (h2 : m < 18446744073709551616) : arithV .and (.int .u64 (w : Int)) (.int .u64 (m : Int)) = some (.int .u64 ((w % 2 ^ k : Nat) : Int)) := by
  have e : (BitVec.ofInt (IntKind.bits .u64) (w : Int) &&& BitVec.ofInt (IntKind.bits .u64) (m : Int)).toNat = w % 2 ^ k := by
    show (BitVec.ofInt 64 (w : Int) &&& BitVec.ofInt 64 (m : Int)).toNat = w % 2 ^ k
    rw [BitVec.ofInt_natCast, BitVec.ofInt_natCast, BitVec.toNat_and, BitVec.toNat_ofNat, BitVec.toNat_ofNat, Nat.mod_eq_of_lt hw, Nat.mod_eq_of_lt h2, hm, Nat.and_two_pow_sub_one_eq_mod]
  have : w % 2 ^ k ≤ w := Nat.mod_le _ _
  simp only [arithV, arith, frc_eq, e, wu64n_ (show w % 2 ^ k < 18446744073709551616 by omega)]
  rfl
theorem and_u8 {k w m : Nat} (hw : w < 256) (hm : m = 2 ^ k - 1) (h2 : m < 256) : arithV .and (.int .u8 (w : Int)) (.int .u8 (m : Int)) = some (.int .u8 ((w % 2 ^ k : Nat) : Int)) := by
  have e : (BitVec.ofInt (IntKind.bits .u8) (w : Int) &&& BitVec.ofInt (IntKind.bits .u8) (m : Int)).toNat = w % 2 ^ k := by
    show (BitVec.ofInt 8 (w : Int) &&& BitVec.ofInt 8 (m : Int)).toNat = w % 2 ^ k
    rw [BitVec.ofInt_natCast, BitVec.ofInt_natCast, BitVec.toNat_and, BitVec.toNat_ofNat, BitVec.toNat_ofNat, Nat.mod_eq_of_lt hw, Nat.mod_eq_of_lt h2, hm, Nat.and_two_pow_sub_one_eq_mod]
  have h3 : w % 2 ^ k ≤ w := Nat.mod_le _ _
  have e2 : wrapK .u8 ((w % 2 ^ k : Nat) : Int) = ((w % 2 ^ k : Nat) : Int) := by rw [wu8_, Int.emod_eq_of_lt (by omega) (by omega)]
  simp only [arithV, arith, frc_eq, e, e2]
  rfl
theorem shl_u64 {w : Nat} (hw : w * 256 < 18446744073709551616) : shiftV .shl (.int .u64 (w : Int)) (.int .u64 8) = some (.int .u64 ((w * 256 : Nat) : Int)) := by
  show frc (wrapK .u64 ((w : Int) * ((2 ^ (min 8 (IntKind.bits .u64)) : Nat) : Int))) (fun n => some (AVal.int .u64 n)) = _
  rw [frc_eq, show min 8 (IntKind.bits .u64) = 8 from rfl, show (2 ^ 8 : Nat) = 256 from rfl, ← Int.natCast_mul, wu64n_ hw]
theorem shr_u64 {w : Nat} : shiftV .shr (.int .u64 (w : Int)) (.int .u64 40) = some (.int .u64 ((w / 1099511627776 : Nat) : Int)) := by
  show frc ((w : Int).fdiv ((2 ^ (min 40 (IntKind.bits .u64)) : Nat) : Int)) (fun n => some (AVal.int .u64 n)) = _
  rw [frc_eq, show min 40 (IntKind.bits .u64) = 40 from rfl, show (2 ^ 40 : Nat) = 1099511627776 from rfl, Int.fdiv_eq_ediv_of_nonneg _ (Int.natCast_nonneg _), ← Int.natCast_ediv]
theorem or_nat {a b : Nat} (hb : b < 256) : a * 256 ||| b = a * 256 + b := by
  have := Nat.shiftLeft_add_eq_or_of_lt (a := a) (b := b) (i := 8) hb
  rw [Nat.shiftLeft_eq] at this
  exact this.symm
theorem or_u64 {a b : Nat} (hb : b < 256) (ha : a * 256 + b < 18446744073709551616) : arithV .or (.int .u64 ((a * 256 : Nat) : Int)) (.int .u64 (b : Int)) = some (.int .u64 ((a * 256 + b : Nat) : Int)) := by
  have ha' : a * 256 < 18446744073709551616 := Nat.lt_of_le_of_lt (Nat.le_add_right _ _) ha
  have hb' : b < 18446744073709551616 := Nat.lt_of_le_of_lt (Nat.le_add_left _ _) ha
  generalize hc : a * 256 = c at *
  have e : (BitVec.ofInt (IntKind.bits .u64) (c : Int) ||| BitVec.ofInt (IntKind.bits .u64) (b : Int)).toNat = c + b := by
    show (BitVec.ofInt 64 (c : Int) ||| BitVec.ofInt 64 (b : Int)).toNat = c + b
    rw [BitVec.ofInt_natCast, BitVec.ofInt_natCast, BitVec.toNat_or, BitVec.toNat_ofNat, BitVec.toNat_ofNat, Nat.mod_eq_of_lt ha', Nat.mod_eq_of_lt hb', ← hc]
    exact or_nat hb
  simp only [arithV, arith, frc_eq, e, wu64n_ ha]
  rfl
theorem add_u64 {a b : Nat} (h : a + b < 18446744073709551616) : arithV .add (.int .u64 (a : Int)) (.int .u64 (b : Int)) = some (.int .u64 ((a + b : Nat) : Int)) := by
  simp only [arithV, arith, frc_eq, ← Int.natCast_add, wu64n_ h]
  rfl
theorem cv_u64 {a : Nat} (h : a < 256) : convI .u64 (.int .u8 (a : Int)) = some (.int .u64 (a : Int)) := by
  show some (AVal.int .u64 (wrapK .u64 (a : Int))) = _
  rw [wu64n_ (by omega)]
theorem cv_i64 {k : IntKind} {a : Nat} (h : a < 9223372036854775808) : convI .i64 (.int k (a : Int)) = some (.int .i64 (a : Int)) := by
  show some (AVal.int .i64 (wrapK .i64 (a : Int))) = _
  rw [ws64n_ h]
/-- whatever is cut by m is at most m -/
theorem and_le {x : Int} {m : Nat} (h2 : m < 18446744073709551616) : ∃ v : Nat, v ≤ m ∧ arithV .and (.int .u64 x) (.int .u64 (m : Int)) = some (.int .u64 (v : Int)) := by
  refine ⟨(BitVec.ofInt 64 x &&& BitVec.ofInt 64 (m : Int)).toNat, ?_, ?_⟩
  · rw [BitVec.ofInt_natCast, BitVec.toNat_and, BitVec.toNat_ofNat]
    exact Nat.le_trans Nat.and_le_right (Nat.mod_le _ _)
  · have := (BitVec.ofInt 64 x &&& BitVec.ofInt 64 (m : Int)).isLt
    have e := wu64n_ this
    simp only [arithV, arith, frc_eq]
    rw [show IntKind.bits .u64 = 64 from rfl, e]
    rfl
theorem xor_any {x y : Int} : ∃ z : Int, arithV .xor (.int .u64 x) (.int .u64 y) = some (.int .u64 z) := ⟨_, by simp only [arithV, arith, frc_eq]; rfl⟩
theorem shl_any {x : Int} {m : Nat} {k : IntKind} : ∃ z : Int, shiftV .shl (.int .u64 x) (.int k (m : Int)) = some (.int .u64 z) := ⟨_, by
  show frc (wrapK .u64 (x * ((2 ^ (min m (IntKind.bits .u64)) : Nat) : Int))) (fun n => some (AVal.int .u64 n)) = _
  rw [frc_eq]⟩
theorem shr_any {x : Int} {m : Nat} {k : IntKind} : ∃ z : Int, shiftV .shr (.int .u64 x) (.int k (m : Int)) = some (.int .u64 z) := ⟨_, by
  show frc (x.fdiv ((2 ^ (min m (IntKind.bits .u64)) : Nat) : Int)) (fun n => some (AVal.int .u64 n)) = _
  rw [frc_eq]⟩
end Go.AM.SG
namespace Go.AM.SG
open Go Go.AM Go.Proofs
variable {K : AVal → Heap → Prop} {s s' s0 : Heap} {db : Nat} {l l' l1 l2 : List Int} {a b i j k : Nat}
/-! ### addresses in memory -/
abbrev us (l : List Int) : List AVal := l.map (AVal.int .u32)
def UAt (s : Heap) (db : Nat) (l : List Int) : Prop := s db = some (false, .cells 33 (us l))
abbrev uV (db n : Nat) : AVal := .slc db 0 n none 1
theorem u_ad (hi : i < k) : iaddrS 1 (uV db k) (.int .i64 (i : Int)) = some (.ptr db i) := by
  have : Nat.blt i k = true := by rw [Nat.blt_eq]; exact hi
  simp [iaddrS, this]
theorem UAt.rd (h : UAt s db l) (hi : i < l.length) : rd1 s (.ptr db i) = some (.int .u32 (nAt l i)) := by
  rw [rd1_mk h, List.getElem?_map, nAt_get? hi]; rfl
theorem UAt.put (h : UAt s db l) {x : Int} {R : Heap → Prop} (hi : i < l.length) (hR : ∀ s', UAt s' db (l.set i x) → Upto db s s' → R s') : optK (wr1 s (.ptr db i) (.int .u32 x)) R := by
  have h : s db = some (false, .cells 33 (us l)) := h
  have e1 : Nat.blt i (us l).length = true := by rw [Nat.blt_eq, List.length_map]; exact hi
  have e2 : wr1 s (.ptr db i) (.int .u32 x) = some (hset s db (false, .cells 33 (us (l.set i x)))) := by
    simp only [wr1, h, e1, us, List.map_set]; rfl
  exact optK_of e2 (hR _ hset_eq fun _ hi => hset_other hi)
theorem UAt.swap (h : UAt s db l) {R : Heap → Prop} (hi : i < l.length) (hj : j < l.length) (hR : ∀ s', UAt s' db (swN l i j) → Upto db s s' → R s') :
    optK (wr1 s (.ptr db i) (.int .u32 (nAt l j))) fun s1 => optK (wr1 s1 (.ptr db j) (.int .u32 (nAt l i))) R :=
  h.put hi fun s1 h1 u1 => h1.put (by simpa using hj) fun s2 h2 u2 => hR s2 h2 fun k hk => by rw [u2 k hk, u1 k hk]
theorem UAt.sub (h : UAt s db l) (k : Sub s s') : UAt s' db l := k _ _ h
theorem add1 (h : a ≤ 1000000) : arithV .add (.int .i64 (a : Int)) (.int .i64 1) = some (.int .i64 ((a + 1 : Nat) : Int)) := by
  rw [arith_add, wrap64 (by omega) (by omega)]; rfl
theorem sub1 (h : 1 ≤ a) (h2 : a ≤ 1000000) : arithV .sub (.int .i64 (a : Int)) (.int .i64 1) = some (.int .i64 ((a - 1 : Nat) : Int)) := by
  rw [arith_sub, wrap64 (by omega) (by omega), show (a : Int) - 1 = ((a - 1 : Nat) : Int) by omega]
theorem addN (h : a + b ≤ 1000000) : arithV .add (.int .i64 (a : Int)) (.int .i64 (b : Int)) = some (.int .i64 ((a + b : Nat) : Int)) := by
  rw [arith_add, wrap64 (by omega) (by omega)]; rfl
theorem subN (h : b ≤ a) (h2 : a ≤ 1000000) : arithV .sub (.int .i64 (a : Int)) (.int .i64 (b : Int)) = some (.int .i64 ((a - b : Nat) : Int)) := by
  rw [arith_sub, wrap64 (by omega) (by omega), show (a : Int) - b = ((a - b : Nat) : Int) by omega]
theorem less_in {x y : Int} (hK : K (.bool (decide (x < y))) s) : wpCall Tryd.prog XX 76 [.int .u32 x, .int .u32 y] K s := by
  refine vc_cmp_Less_api_IP__in (vc_cmp_isNaN_api_IP__in ?_)
  simp only [vc_cmp_isNaN_api_IP_, eqV_int, negB_mk, beq_self_eq_true, Bool.true_bne, Bool.not_true, optK_mk, boolK_false, vc_cmp_Less_api_IP__j0, pickV_false, arith_lss, vc_cmp_Less_api_IP__j1]
  exact hK
/-! ### insertion -/
structure Ins (a i j : Nat) (l : List Int) : Prop where
  oth : ∀ p q, a ≤ p → p < q → q ≤ i → p ≠ j → q ≠ j → nAt l p ≤ nAt l q
  up : ∀ q, j < q → q ≤ i → nAt l j ≤ nAt l q
theorem Ins.start (h : Asc a i l) : Ins a i i l := ⟨fun p q h1 h2 h3 _ h5 => h p q h1 h2 (by omega), fun q h1 h2 => by omega⟩
theorem Ins.step (h : Ins a i j l) (h1 : a < j) (h2 : j ≤ i) (h3 : i < l.length) (c : nAt l j < nAt l (j - 1)) : Ins a i (j - 1) (swN l j (j - 1)) := by
  have at_ : ∀ k, nAt (swN l j (j - 1)) k = if k = j - 1 then nAt l j else if k = j then nAt l (j - 1) else nAt l k := fun k => swN_at (by omega) (by omega)
  refine ⟨fun p q k1 k2 k3 k4 k5 => ?_, fun q k1 k2 => ?_⟩
  · rw [at_ p, at_ q, if_neg k4, if_neg k5]
    by_cases e1 : q = j
    · rw [if_pos e1, if_neg (by omega)]
      exact h.oth p (j - 1) k1 (by omega) (by omega) (by omega) (by omega)
    · rw [if_neg e1]
      by_cases e2 : p = j
      · rw [if_pos e2]
        exact h.oth (j - 1) q (by omega) (by omega) k3 (by omega) e1
      · rw [if_neg e2]
        exact h.oth p q k1 k2 k3 e2 e1
  · rw [at_ (j - 1), at_ q, if_pos rfl, if_neg (by omega)]
    by_cases e1 : q = j
    · rw [if_pos e1]; omega
    · rw [if_neg e1]; exact h.up q (by omega) k2
theorem Ins.done (h : Ins a i j l) (h1 : a ≤ j) (c : j = a ∨ nAt l (j - 1) ≤ nAt l j) : Asc a (i + 1) l := by
  intro p q k1 k2 k3
  by_cases e1 : p = j
  · subst e1; exact h.up q k2 (by omega)
  · by_cases e2 : q = j
    · subst e2
      rcases c with c | c
      · omega
      · by_cases e3 : p = q - 1
        · rw [e3]; exact c
        · exact Int.le_trans (h.oth p (q - 1) k1 (by omega) (by omega) e1 (by omega)) c
    · exact h.oth p q k1 k2 (by omega) e1 e2
theorem inso_in (h : UAt s db l) (hk : k = l.length) (hl : k ≤ 100000) (hab : a ≤ b) (hb : b ≤ l.length) (hK : ∀ s' l', UAt s' db l' → PI a b l l' → Asc a b l' → KB db s s' → K (.tup []) s') :
    wpCall Tryd.prog XX 70 [uV db k, .int .i64 (a : Int), .int .i64 (b : Int)] K s := by
  refine vc_slices_insertionSortOrdered_api_IP__in ?_
  simp only [vc_slices_insertionSortOrdered_api_IP_, add1 (show a ≤ 1000000 by omega), optK_mk]
  refine ⟨fun ys t m => ∃ (i : Nat) (l1 : List Int), ys = [.int .i64 (i : Int)] ∧ UAt t db l1 ∧ PI a b l l1 ∧ Asc a i l1 ∧ KB db s t ∧ a < i ∧ (i ≤ b ∨ i = a + 1) ∧ m = b + 1 - i, ⟨_, a + 1, l, rfl, h, .refl _ _ _, fun p q _ _ _ => by omega, .refl _ _, by omega, .inr rfl, rfl⟩, ?_⟩
  rintro f t m ⟨i, l1, hy, h1, pi, asc, kp, c1, c2, rfl⟩
  simp only [List.cons.injEq, and_true] at hy
  rw [hy]
  simp only [vc_slices_insertionSortOrdered_api_IP__l0, arith_lss, optK_mk]
  refine boolK_mk (fun hlt => ?_) (fun hge => ?_)
  rotate_left
  · have hge : b ≤ i := by have := of_decide_eq_false hge; omega
    exact hK t l1 h1 pi (fun p q q1 q2 q3 => asc p q q1 q2 (by omega)) kp
  have hlt : i < b := by have := of_decide_eq_true hlt; omega
  have hn := pi.len
  refine ⟨fun ys t m => ∃ (j : Nat) (l2 : List Int), ys = [.int .i64 (j : Int)] ∧ UAt t db l2 ∧ PI a b l l2 ∧ Ins a i j l2 ∧ KB db s t ∧ a ≤ j ∧ j ≤ i ∧ m = j, ⟨_, i, l1, rfl, h1, pi, .start asc, kp, by omega, by omega, rfl⟩, ?_⟩
  rintro f t2 c ⟨j, l2, hy2, h2, pi2, ins, kp2, d1, d2, hcm⟩
  simp only [List.cons.injEq, and_true] at hy2
  rw [hy2]
  have hn2 := pi2.len
  have next : (j = a ∨ nAt l2 (j - 1) ≤ nAt l2 j) → optK (arithV .add (.int .i64 (i : Int)) (.int .i64 1)) fun v_15 => ∃ m', m' < b + 1 - i ∧ ∃ (i : Nat) (l1 : List Int), [v_15] = [.int .i64 (i : Int)] ∧ UAt t2 db l1 ∧ PI a b l l1 ∧ Asc a i l1 ∧ KB db s t2 ∧ a < i ∧ (i ≤ b ∨ i = a + 1) ∧ m' = b + 1 - i := fun hc => by
    simp only [add1 (show i ≤ 1000000 by omega), optK_mk]
    exact ⟨_, by omega, i + 1, l2, rfl, h2, pi2, ins.done d1 hc, kp2, by omega, .inl (by omega), rfl⟩
  simp only [vc_slices_insertionSortOrdered_api_IP__l1, arith_gtr, optK_mk]
  refine boolK_mk (fun hp => ?_) (fun hp => ?_)
  rotate_left
  · simp only [vc_slices_insertionSortOrdered_api_IP__j2, hp, pickV_false, boolK_false, optK_mk]
    exact next (.inl (by have := of_decide_eq_false hp; omega))
  have hp' : a < j := by have := of_decide_eq_true hp; omega
  simp only [sub1 (show 1 ≤ j by omega) (show j ≤ 1000000 by omega), u_ad (show j < k by omega), u_ad (show j - 1 < k by omega), h2.rd (show j < l2.length by omega), h2.rd (show j - 1 < l2.length by omega), optK_mk]
  refine less_in ?_
  simp only [vc_slices_insertionSortOrdered_api_IP__j2, hp, pickV_true, optK_mk]
  refine boolK_mk (fun hc => ?_) (fun hc => ?_)
  · simp only [sub1 (show 1 ≤ j by omega) (show j ≤ 1000000 by omega), u_ad (show j < k by omega), u_ad (show j - 1 < k by omega), h2.rd (show j < l2.length by omega), h2.rd (show j - 1 < l2.length by omega), optK_mk]
    refine h2.swap (by omega) (by omega) fun s3 h3 u3 => ?_
    exact ⟨_, by omega, j - 1, _, rfl, h3, pi2.trans (.sw (by omega) (by omega) (by omega) (by omega) (by omega)), ins.step hp' d2 (by omega) (of_decide_eq_true hc), kp2.trans (u3.keep rfl), by omega, by omega, rfl⟩
  · exact next (.inr (by have := of_decide_eq_false hc; omega))
end Go.AM.SG
namespace Go.AM.SG
open Go Go.AM Go.Proofs
variable {K : AVal → Heap → Prop} {s s' s0 : Heap} {db : Nat} {l l' l1 l2 : List Int} {a b i j k f lo hi : Nat}
/-! ### sorting by a heap -/
def SiftI (s : Heap) (db : Nat) (l : List Int) (f lo hi : Nat) : List AVal → Heap → Nat → Prop := fun ys t m =>
  ∃ (r : Nat) (l1 : List Int), ys = [.int .i64 (r : Int)] ∧ UAt t db l1 ∧ PI f (f + hi) l l1 ∧ HpX f lo hi r l1 ∧ KB db s t ∧ lo ≤ r ∧ r ≤ 100000 ∧ m = hi - r
theorem sift_in (h : UAt s db l) (hk : k = l.length) (hl : k ≤ 100000) (hlo : lo ≤ 100000) (hr : Hp f (lo + 1) hi l) (hb : f + hi ≤ l.length) (hK : ∀ s' l', UAt s' db l' → PI f (f + hi) l l' → Hp f lo hi l' → KB db s s' → K (.tup []) s') :
    wpCall Tryd.prog XX 85 [uV db k, .int .i64 (lo : Int), .int .i64 (hi : Int), .int .i64 (f : Int)] K s := by
  refine vc_slices_siftDownOrdered_api_IP__in ?_
  refine ⟨SiftI s db l f lo hi, ⟨_, lo, l, rfl, h, .refl _ _ _, .start hr, .refl _ _, by omega, hlo, rfl⟩, ?_⟩
  rintro e t m ⟨r, l1, hy, h1, pi, hx, kp, c1, c2, rfl⟩
  simp only [List.cons.injEq, and_true] at hy
  rw [hy]
  have hn := pi.len
  have e1 : arithV .mul (.int .i64 2) (.int .i64 (r : Int)) = some (.int .i64 ((2 * r : Nat) : Int)) := by
    rw [arith_mul, wrap64 (by omega) (by omega)]; rfl
  simp only [vc_slices_siftDownOrdered_api_IP__l0, e1, add1 (show 2 * r ≤ 1000000 by omega), arith_geq, optK_mk]
  refine boolK_mk (fun hge => ?_) (fun hlt => ?_)
  · have hge : hi ≤ 2 * r + 1 := by have := of_decide_eq_true hge; omega
    exact hK t l1 h1 pi (hx.leaf hge) kp
  have hlt : 2 * r + 1 < hi := by have := of_decide_eq_false hlt; omega
  have fin : ∀ ch, Chd r ch → ch < hi → (∀ c, Chd r c → c < hi → nAt l1 (f + c) ≤ nAt l1 (f + ch)) → vc_slices_siftDownOrdered_api_IP__j2 XX (uV db k) (.int .i64 (f : Int)) (.int .i64 (r : Int)) (.int .i64 (ch : Int)) (SiftI s db l f lo hi) (hi - r) K t := fun ch q1 q2 q3 => by
    have hrc : r < ch := by unfold Chd at q1; omega
    simp only [vc_slices_siftDownOrdered_api_IP__j2, addN (show f + r ≤ 1000000 by omega), addN (show f + ch ≤ 1000000 by omega), u_ad (show f + r < k by omega), u_ad (show f + ch < k by omega), h1.rd (show f + r < l1.length by omega), h1.rd (show f + ch < l1.length by omega), optK_mk]
    refine less_in ?_
    simp only [unary_not, optK_mk]
    refine boolK_mk (fun hc => ?_) (fun hc => ?_)
    · have hc : ¬ nAt l1 (f + r) < nAt l1 (f + ch) := by simpa using hc
      exact hK t l1 h1 pi (hx.done q3 (by omega)) kp
    · have hc : nAt l1 (f + r) < nAt l1 (f + ch) := by simpa using hc
      simp only [addN (show f + r ≤ 1000000 by omega), addN (show f + ch ≤ 1000000 by omega), u_ad (show f + r < k by omega), u_ad (show f + ch < k by omega), h1.rd (show f + r < l1.length by omega), h1.rd (show f + ch < l1.length by omega), optK_mk]
      refine h1.swap (by omega) (by omega) fun s3 h3 u3 => ?_
      exact ⟨_, by omega, ch, _, rfl, h3, pi.trans (.sw (by omega) (by omega) (by omega) (by omega) (by omega)), hx.down (by omega) c1 q1 q2 q3 (by omega), kp.trans (u3.keep rfl), by omega, by omega, rfl⟩
  simp only [add1 (show 2 * r + 1 ≤ 1000000 by omega), arith_lss, optK_mk]
  refine boolK_mk (fun hp => ?_) (fun hp => ?_)
  · have hp' : 2 * r + 2 < hi := by have := of_decide_eq_true hp; omega
    simp only [addN (show f + (2 * r + 1) ≤ 1000000 by omega), add1 (show f + (2 * r + 1) ≤ 1000000 by omega), u_ad (show f + (2 * r + 1) < k by omega), u_ad (show f + (2 * r + 1) + 1 < k by omega), h1.rd (show f + (2 * r + 1) < l1.length by omega), h1.rd (show f + (2 * r + 1) + 1 < l1.length by omega), optK_mk]
    refine less_in ?_
    simp only [vc_slices_siftDownOrdered_api_IP__j1, hp, pickV_true, optK_mk]
    refine boolK_mk (fun hc => ?_) (fun hc => ?_)
    · have hc := of_decide_eq_true hc
      simp only [add1 (show 2 * r + 1 ≤ 1000000 by omega), optK_mk]
      refine fin (2 * r + 1 + 1) (.inr rfl) (by omega) fun c q1 q2 => ?_
      rcases q1 with rfl | rfl
      · rw [show f + (2 * r + 1 + 1) = f + (2 * r + 1) + 1 by omega]; omega
      · exact Int.le_refl _
    · have hc := of_decide_eq_false hc
      refine fin (2 * r + 1) (.inl rfl) (by omega) fun c q1 q2 => ?_
      rcases q1 with rfl | rfl
      · exact Int.le_refl _
      · rw [show f + (2 * r + 2) = f + (2 * r + 1) + 1 by omega]; omega
  · have hp' : ¬ 2 * r + 2 < hi := by have := of_decide_eq_false hp; omega
    simp only [vc_slices_siftDownOrdered_api_IP__j1, hp, pickV_false, boolK_false, optK_mk]
    refine fin (2 * r + 1) (.inl rfl) (by omega) fun c q1 q2 => ?_
    rcases q1 with rfl | rfl
    · exact Int.le_refl _
    · exact absurd q2 hp'
def HeapI0 (s : Heap) (db : Nat) (l : List Int) (a b : Nat) : List AVal → Heap → Nat → Prop := fun ys t m =>
  ∃ (n : Nat) (l1 : List Int), ys = [.int .i64 ((n : Int) - 1)] ∧ UAt t db l1 ∧ PI a b l l1 ∧ Hp a n (b - a) l1 ∧ KB db s t ∧ n ≤ 100000 ∧ m = n
def HeapI1 (s : Heap) (db : Nat) (l : List Int) (a b : Nat) : List AVal → Heap → Nat → Prop := fun ys t m =>
  ∃ (n : Nat) (l1 : List Int), ys = [.int .i64 ((n : Int) - 1)] ∧ UAt t db l1 ∧ PI a b l l1 ∧ Hp a 0 n l1 ∧ But a b a (a + n) l1 ∧ KB db s t ∧ a + n ≤ b ∧ m = n
theorem heap_in (h : UAt s db l) (hk : k = l.length) (hl : k ≤ 100000) (hab : a < b) (hb : b ≤ l.length) (hK : ∀ s' l', UAt s' db l' → PI a b l l' → Asc a b l' → KB db s s' → K (.tup []) s') :
    wpCall Tryd.prog XX 71 [uV db k, .int .i64 (a : Int), .int .i64 (b : Int)] K s := by
  refine vc_slices_heapSortOrdered_api_IP__in ?_
  have e1 : arithV .quo (.int .i64 ((b - a - 1 : Nat) : Int)) (.int .i64 2) = some (.int .i64 ((((b - a - 1) / 2 + 1 : Nat) : Int) - 1)) := by
    rw [arith_quo (by omega)]
    have : ((b - a - 1 : Nat) : Int).tdiv 2 = (((b - a - 1) / 2 : Nat) : Int) := rfl
    rw [this, wrap64 (by omega) (by omega), show ((((b - a - 1) / 2 + 1 : Nat) : Int) - 1) = (((b - a - 1) / 2 : Nat) : Int) by omega]
  simp only [vc_slices_heapSortOrdered_api_IP_, subN (show a ≤ b by omega) (show b ≤ 1000000 by omega), sub1 (show 1 ≤ b - a by omega) (show b - a ≤ 1000000 by omega), e1, optK_mk]
  refine ⟨HeapI0 s db l a b, ⟨_, (b - a - 1) / 2 + 1, l, rfl, h, .refl _ _ _, .vac, .refl _ _, by omega, rfl⟩, ?_⟩
  rintro e t m ⟨n, l1, hy, h1, pi, hp, kp, c1, rfl⟩
  simp only [List.cons.injEq, and_true] at hy
  rw [hy]
  have hn := pi.len
  simp only [vc_slices_heapSortOrdered_api_IP__l0, arith_geq, optK_mk]
  refine boolK_mk (fun hge => ?_) (fun hlt => ?_)
  · have hge : 1 ≤ m := by have := of_decide_eq_true hge; omega
    obtain ⟨n, rfl⟩ : ∃ n, m = n + 1 := ⟨m - 1, by omega⟩
    have e2 : ((n + 1 : Nat) : Int) - 1 = (n : Int) := by omega
    rw [e2]
    refine sift_in h1 (by omega) hl (by omega) hp (by omega) fun s2 l2 h2 pi2 hp2 kp2 => ?_
    have e3 : arithV .sub (.int .i64 (n : Int)) (.int .i64 1) = some (.int .i64 ((n : Int) - 1)) := by rw [arith_sub, wrap64 (by omega) (by omega)]
    simp only [e3, optK_mk]
    rw [show a + (b - a) = b by omega] at pi2
    exact ⟨_, Nat.lt_succ_self n, n, l2, rfl, h2, pi.trans pi2, hp2, kp.trans kp2, by omega, rfl⟩
  have hm : m = 0 := by have := of_decide_eq_false hlt; omega
  subst hm
  have e4 : arithV .sub (.int .i64 ((b - a : Nat) : Int)) (.int .i64 1) = some (.int .i64 (((b - a : Nat) : Int) - 1)) := by rw [arith_sub, wrap64 (by omega) (by omega)]
  simp only [e4, optK_mk]
  refine ⟨HeapI1 s db l a b, ⟨_, b - a, l1, rfl, h1, pi, hp, ?_, kp, by omega, rfl⟩, ?_⟩
  · rw [show a + (b - a) = b by omega]; exact .start
  clear hy hlt e4
  rintro e t2 m2 ⟨n, l2, hy, h2, pi2, hp2, but, kp2, c2, hmn⟩
  simp only [List.cons.injEq, and_true] at hy
  rw [hy]
  have hn2 := pi2.len
  simp only [vc_slices_heapSortOrdered_api_IP__l1, arith_geq, optK_mk]
  refine boolK_mk (fun hge => ?_) (fun hlt => ?_)
  rotate_left
  · have hm : n = 0 := by have := of_decide_eq_false hlt; omega
    subst hm
    exact hK t2 l2 h2 pi2 (but.asc fun p q _ _ _ => by omega) kp2
  have hge : 1 ≤ n := by have := of_decide_eq_true hge; omega
  obtain ⟨n, rfl⟩ : ∃ n', n = n' + 1 := ⟨n - 1, by omega⟩
  have e2 : ((n + 1 : Nat) : Int) - 1 = (n : Int) := by omega
  rw [e2]
  simp only [addN (show a + n ≤ 1000000 by omega), u_ad (show a + n < k by omega), u_ad (show a < k by omega), h2.rd (show a + n < l2.length by omega), h2.rd (show a < l2.length by omega), optK_mk]
  refine h2.swap (by omega) (by omega) fun s3 h3 u3 => ?_
  have hn3 : (swN l2 a (a + n)).length = l2.length := swN_len
  refine sift_in (lo := 0) h3 (by omega) hl (by omega) (hp2.swap (by omega)) (by omega) fun s4 l4 h4 pi4 hp4 kp4 => ?_
  have e3 : arithV .sub (.int .i64 (n : Int)) (.int .i64 1) = some (.int .i64 ((n : Int) - 1)) := by rw [arith_sub, wrap64 (by omega) (by omega)]
  simp only [e3, optK_mk]
  refine ⟨_, ?_, n, l4, rfl, h4, (pi2.trans (.sw (i := a) (j := a + n) (by omega) (by omega) (by omega) (by omega) (by omega))).trans (pi4.wide (by omega) (by omega)), hp4, ?_, (kp2.trans (u3.keep rfl)).trans kp4, by omega, rfl⟩
  · omega
  · exact (but.pop hp2 (by omega) (by omega)).pi (by omega) (by omega) pi4
end Go.AM.SG
namespace Go.AM.SG
open Go Go.AM Go.Proofs
variable {K : AVal → Heap → Prop} {s s' s0 : Heap} {db g : Nat} {l l' l1 l2 : List Int} {a b c i j k f lo hi n : Nat}
/-! ### parts of quicksort that put nothing in order -/
def RevI (s : Heap) (db : Nat) (l : List Int) (a b : Nat) : List AVal → Heap → Nat → Prop := fun ys t m =>
  ∃ (i j : Nat) (l1 : List Int), ys = [.int .i64 (i : Int), .int .i64 (j : Int)] ∧ UAt t db l1 ∧ PI a b l l1 ∧ KB db s t ∧ a ≤ i ∧ j < b ∧ m = j - i
theorem rev_in (h : UAt s db l) (hk : k = l.length) (hl : k ≤ 100000) (hab : a < b) (hb : b ≤ l.length) (hK : ∀ s' l', UAt s' db l' → PI a b l l' → KB db s s' → K (.tup []) s') :
    wpCall Tryd.prog XX 74 [uV db k, .int .i64 (a : Int), .int .i64 (b : Int)] K s := by
  refine vc_slices_reverseRangeOrdered_api_IP__in ?_
  simp only [vc_slices_reverseRangeOrdered_api_IP_, sub1 (show 1 ≤ b by omega) (show b ≤ 1000000 by omega), optK_mk]
  refine ⟨RevI s db l a b, ⟨_, a, b - 1, l, rfl, h, .refl _ _ _, .refl _ _, by omega, by omega, rfl⟩, ?_⟩
  rintro e t m ⟨i, j, l1, hy, h1, pi, kp, c1, c2, rfl⟩
  simp only [List.cons.injEq, and_true] at hy
  rw [hy.1, hy.2]
  have hn := pi.len
  simp only [vc_slices_reverseRangeOrdered_api_IP__l0, arith_lss, optK_mk]
  refine boolK_mk (fun hc => ?_) (fun hc => ?_)
  · have hc : i < j := by have := of_decide_eq_true hc; omega
    simp only [u_ad (show i < k by omega), u_ad (show j < k by omega), h1.rd (show i < l1.length by omega), h1.rd (show j < l1.length by omega), optK_mk]
    refine h1.swap (by omega) (by omega) fun s3 h3 u3 => ?_
    simp only [add1 (show i ≤ 1000000 by omega), sub1 (show 1 ≤ j by omega) (show j ≤ 1000000 by omega), optK_mk]
    exact ⟨_, by omega, i + 1, j - 1, _, rfl, h3, pi.trans (.sw (by omega) (by omega) (by omega) (by omega) (by omega)), kp.trans (u3.keep rfl), by omega, by omega, rfl⟩
  · exact hK t l1 h1 pi kp
/-- a count of one's own -/
def SwAt (s : Heap) (g : Nat) : Prop := ∃ c : Int, s g = some (false, .cells 3 [.int .i64 c])
theorem SwAt.ne (h : SwAt s g) (h2 : UAt s db l) : db ≠ g := fun e => by
  obtain ⟨c, h⟩ := h
  have h2 : s db = some (false, .cells 33 (us l)) := h2
  rw [e, h] at h2
  have : (3 : TypeId) = 33 := congrArg (fun x : Option (Bool × Blk) => match x with | some (_, .cells e _) => e | _ => 0) h2
  exact absurd this (by decide)
theorem order_in (h : UAt s db l) (hg : SwAt s g) (hk : k = l.length) (ha : a < k) (hb : b < k) (hK : ∀ s' p q, (p = a ∧ q = b ∨ p = b ∧ q = a) → UAt s' db l → SwAt s' g → KB g s s' → K (.tup [.int .i64 ((p : Nat) : Int), .int .i64 ((q : Nat) : Int)]) s') :
    wpCall Tryd.prog XX 91 [uV db k, .int .i64 (a : Int), .int .i64 (b : Int), .ptr g 0] K s := by
  refine vc_slices_order2Ordered_api_IP__in ?_
  simp only [vc_slices_order2Ordered_api_IP_, u_ad ha, u_ad hb, h.rd (show a < l.length by omega), h.rd (show b < l.length by omega), optK_mk]
  refine less_in (boolK_mk (fun _ => ?_) (fun _ => ?_))
  · have ne := hg.ne h
    obtain ⟨c, hc⟩ := hg
    have rc : rd1 s (.ptr g 0) = some (.int .i64 c) := by rw [rd1_mk hc]; rfl
    simp only [nilCheck_ptr, rc, arith_add, optK_mk]
    refine wr1_step hc Nat.zero_lt_one rfl fun s2 h2 u2 => ?_
    have h' : UAt s2 db l := by show s2 db = _; rw [u2 db ne]; exact h
    exact hK s2 b a (.inr ⟨rfl, rfl⟩) h' ⟨_, h2⟩ (u2.keep rfl)
  · exact hK s a b (.inl ⟨rfl, rfl⟩) h hg (.refl _ _)
theorem median_in (h : UAt s db l) (hg : SwAt s g) (hk : k = l.length) (ha : lo ≤ a ∧ a < hi) (hb : lo ≤ b ∧ b < hi) (hc : lo ≤ c ∧ c < hi) (hh : hi ≤ k) (hK : ∀ s' p, lo ≤ p → p < hi → UAt s' db l → SwAt s' g → KB g s s' → K (.int .i64 ((p : Nat) : Int)) s') :
    wpCall Tryd.prog XX 89 [uV db k, .int .i64 (a : Int), .int .i64 (b : Int), .int .i64 (c : Int), .ptr g 0] K s := by
  refine vc_slices_medianOrdered_api_IP__in (order_in h hg hk (by omega) (by omega) fun s1 p1 q1 e1 h1 g1 k1 => ?_)
  have x0 : ∀ x y : AVal, extractA (.tup [x, y]) 0 = some x := fun _ _ => rfl
  have x1 : ∀ x y : AVal, extractA (.tup [x, y]) 1 = some y := fun _ _ => rfl
  simp only [x0, x1, optK_mk]
  refine order_in h1 g1 hk (by omega) (by omega) fun s2 p2 q2 e2 h2 g2 k2 => ?_
  simp only [x0, x1, optK_mk]
  refine order_in h2 g2 hk (by omega) (by omega) fun s3 p3 q3 e3 h3 g3 k3 => ?_
  simp only [x0, x1, optK_mk]
  exact hK s3 q3 (by omega) (by omega) h3 g3 ((k1.trans k2).trans k3)
theorem adj_in (h : UAt s db l) (hg : SwAt s g) (hk : k = l.length) (hl : k ≤ 100000) (ha : lo < a ∧ a + 1 < hi) (hh : hi ≤ k) (hK : ∀ s' p, lo ≤ p → p < hi → UAt s' db l → SwAt s' g → KB g s s' → K (.int .i64 ((p : Nat) : Int)) s') :
    wpCall Tryd.prog XX 88 [uV db k, .int .i64 (a : Int), .ptr g 0] K s := by
  refine vc_slices_medianAdjacentOrdered_api_IP__in ?_
  simp only [vc_slices_medianAdjacentOrdered_api_IP_, sub1 (show 1 ≤ a by omega) (show a ≤ 1000000 by omega), add1 (show a ≤ 1000000 by omega), optK_mk]
  exact median_in h hg hk (lo := lo) (hi := hi) (by omega) (by omega) (by omega) hh hK
theorem quo4 (hn : n ≤ 100000) : arithV .quo (.int .i64 (n : Int)) (.int .i64 4) = some (.int .i64 ((n / 4 : Nat) : Int)) := by
  rw [arith_quo (by omega)]
  have : (n : Int).tdiv 4 = ((n / 4 : Nat) : Int) := rfl
  rw [this, wrap64 (by omega) (by omega)]
theorem mulN {x : Nat} (hn : n * x ≤ 1000000) : arithV .mul (.int .i64 (n : Int)) (.int .i64 (x : Int)) = some (.int .i64 ((n * x : Nat) : Int)) := by
  rw [arith_mul, ← Int.natCast_mul, wrap64 (by omega) (by omega)]
theorem pivot_in (h : UAt s db l) (hk : k = l.length) (hl : k ≤ 100000) (hab : a + 12 < b) (hb : b ≤ k) (hK : ∀ s' p (z : Int), a ≤ p → p < b → UAt s' db l → Sub s s' → K (.tup [.int .i64 ((p : Nat) : Int), .int .i64 z]) s') :
    wpCall Tryd.prog XX 73 [uV db k, .int .i64 (a : Int), .int .i64 (b : Int)] K s := by
  refine vc_slices_choosePivotOrdered_api_IP__in ?_
  have m1 : arithV .mul (.int .i64 (((b - a) / 4 : Nat) : Int)) (.int .i64 1) = some (.int .i64 (((b - a) / 4 * 1 : Nat) : Int)) := mulN (x := 1) (by omega)
  have m2 : arithV .mul (.int .i64 (((b - a) / 4 : Nat) : Int)) (.int .i64 2) = some (.int .i64 (((b - a) / 4 * 2 : Nat) : Int)) := mulN (x := 2) (by omega)
  have m3 : arithV .mul (.int .i64 (((b - a) / 4 : Nat) : Int)) (.int .i64 3) = some (.int .i64 (((b - a) / 4 * 3 : Nat) : Int)) := mulN (x := 3) (by omega)
  have g8 : arithV .geq (.int .i64 ((b - a : Nat) : Int)) (.int .i64 8) = some (.bool true) := by rw [arith_geq, decide_eq_true (by omega)]
  simp only [vc_slices_choosePivotOrdered_api_IP_, subN (show a ≤ b by omega) (show b ≤ 1000000 by omega), optK_mk]
  refine new_step fun g s1 hg h1 u1 => ?_
  have sub1 := u1.sub hg
  have hu := h.sub sub1
  simp only [quo4 (show b - a ≤ 100000 by omega), m1, m2, m3, addN (show a + (b - a) / 4 * 1 ≤ 1000000 by omega), addN (show a + (b - a) / 4 * 2 ≤ 1000000 by omega), addN (show a + (b - a) / 4 * 3 ≤ 1000000 by omega), g8, boolK_true, optK_mk]
  have out : ∀ {t : Heap}, KB g s1 t → Sub s t := fun {t} kp i e hi => kp i e (sub1 i e hi) fun w => by rw [w, hg] at hi; cases hi
  have fin : ∀ t i j q, (a ≤ i ∧ i < b) → (a ≤ j ∧ j < b) → (a ≤ q ∧ q < b) → UAt t db l → SwAt t g → KB g s1 t → vc_slices_choosePivotOrdered_api_IP__j1 XX (uV db k) (.ptr g 0) (.int .i64 ((i : Nat) : Int)) (.int .i64 ((j : Nat) : Int)) (.int .i64 ((q : Nat) : Int)) K t := fun t i j q hi hj hq ht hs kp => by
    refine median_in ht hs hk hi hj hq hb fun s2 p p1 p2 h2 g2 k2 => ?_
    obtain ⟨c, hc⟩ := g2
    have rc : rd1 s2 (.ptr g 0) = some (.int .i64 c) := by rw [rd1_mk hc]; rfl
    simp only [vc_slices_choosePivotOrdered_api_IP__j0, rc, eqV_int, negB_mk, Bool.false_bne, optK_mk]
    have o2 := out (kp.trans k2)
    refine boolK_mk (fun _ => hK s2 p _ p1 p2 h2 o2) (fun _ => boolK_mk (fun _ => hK s2 p _ p1 p2 h2 o2) (fun _ => hK s2 p _ p1 p2 h2 o2))
  have hs : SwAt s1 g := ⟨0, h1⟩
  simp only [arith_geq, optK_mk]
  refine boolK_mk (fun _ => ?_) (fun _ => ?_)
  · refine adj_in hu hs hk hl (lo := a) (hi := b) (by omega) hb fun s2 p p1 p2 h2 g2 k2 => ?_
    refine adj_in h2 g2 hk hl (lo := a) (hi := b) (by omega) hb fun s3 q q1 q2 h3 g3 k3 => ?_
    refine adj_in h3 g3 hk hl (lo := a) (hi := b) (by omega) hb fun s4 r r1 r2 h4 g4 k4 => ?_
    exact fin s4 p q r ⟨p1, p2⟩ ⟨q1, q2⟩ ⟨r1, r2⟩ h4 g4 ((k2.trans k3).trans k4)
  · exact fin s1 _ _ _ (by omega) (by omega) (by omega) hu hs (.refl _ _)
/-! ### numbers that mix -/
abbrev lenTab : ByteArray := ⟨#[0, 1, 2, 2, 3, 3, 3, 3, 4, 4, 4, 4, 4, 4, 4, 4, 5, 5, 5, 5, 5, 5, 5, 5, 5, 5, 5, 5, 5, 5, 5, 5, 6, 6, 6, 6, 6, 6, 6, 6, 6, 6, 6, 6, 6, 6, 6, 6, 6, 6, 6, 6, 6, 6, 6, 6, 6, 6, 6, 6, 6, 6, 6, 6, 7, 7, 7, 7, 7, 7, 7, 7, 7, 7, 7, 7, 7, 7, 7, 7, 7, 7, 7, 7, 7, 7, 7, 7, 7, 7, 7, 7, 7, 7, 7, 7, 7, 7, 7, 7, 7, 7, 7, 7, 7, 7, 7, 7, 7, 7, 7, 7, 7, 7, 7, 7, 7, 7, 7, 7, 7, 7, 7, 7, 7, 7, 7, 7, 8, 8, 8, 8, 8, 8, 8, 8, 8, 8, 8, 8, 8, 8, 8, 8, 8, 8, 8, 8, 8, 8, 8, 8, 8, 8, 8, 8, 8, 8, 8, 8, 8, 8, 8, 8, 8, 8, 8, 8, 8, 8, 8, 8, 8, 8, 8, 8, 8, 8, 8, 8, 8, 8, 8, 8, 8, 8, 8, 8, 8, 8, 8, 8, 8, 8, 8, 8, 8, 8, 8, 8, 8, 8, 8, 8, 8, 8, 8, 8, 8, 8, 8, 8, 8, 8, 8, 8, 8, 8, 8, 8, 8, 8, 8, 8, 8, 8, 8, 8, 8, 8, 8, 8, 8, 8, 8, 8, 8, 8, 8, 8, 8, 8, 8, 8, 8, 8, 8, 8, 8, 8, 8, 8, 8, 8, 8, 8]⟩
theorem tab_all : ((List.range 256).all fun n => match indexStr (.str lenTab) (.int .u8 (n : Int)) with
  | some (.int .u8 (.ofNat t)) => Nat.ble t 8 && Nat.blt n (2 ^ t) && (Nat.beq n 0 || Nat.ble (2 ^ t) (2 * n))
  | _ => false) = true := by kernel_rfl
theorem tab_at (h : n < 256) : ∃ t : Nat, indexStr (.str lenTab) (.int .u8 (n : Int)) = some (.int .u8 (t : Int)) ∧ t ≤ 8 ∧ n < 2 ^ t ∧ (0 < n → 2 ^ t ≤ 2 * n) := by
  have := List.all_eq_true.1 tab_all n (List.mem_range.2 h)
  split at this
  · rename_i t e
    simp only [Bool.and_eq_true, Bool.or_eq_true, Nat.ble_eq, Nat.blt_eq] at this
    refine ⟨t, e, this.1.1, this.1.2, fun h0 => ?_⟩
    rcases this.2 with q | q
    · have := Nat.eq_of_beq_eq_true q; omega
    · exact q
  · cases this
set_option maxRecDepth 100000 in
theorem len_in (h : n < 256) (hK : ∀ t : Nat, t ≤ 8 → n < 2 ^ t → (0 < n → 2 ^ t ≤ 2 * n) → K (.int .i64 (t : Int)) s) : wpCall Tryd.prog XX 59 [.int .u64 (n : Int)] K s := by
  refine vc_math_bits_Len_in ?_
  simp only [vc_math_bits_Len, boolK_false]
  refine vc_math_bits_Len64_in ?_
  have c1 : decide ((4294967296 : Int) ≤ (n : Int)) = false := decide_eq_false (by omega)
  have c2 : decide ((65536 : Int) ≤ (n : Int)) = false := decide_eq_false (by omega)
  have c3 : decide ((256 : Int) ≤ (n : Int)) = false := decide_eq_false (by omega)
  have e1 : convI .u8 (.int .u64 (n : Int)) = some (.int .u8 (n : Int)) := by
    show some (AVal.int .u8 (wrapK .u8 (n : Int))) = _
    rw [wu8_, Int.emod_eq_of_lt (by omega) (by omega)]
  obtain ⟨t, t1, t2, t3, t4⟩ := tab_at h
  have e2 : arithV .add (.int .i64 0) (.int .i64 (t : Int)) = some (.int .i64 (t : Int)) := by rw [arith_add, wrap64 (by omega) (by omega), Int.zero_add]
  refine optK_of (a := .bool false) (by rw [arith_geq, c1]) ?_
  show vc_math_bits_Len64_j0 XX _ _ K s
  refine optK_of (a := .bool false) (by rw [arith_geq, c2]) ?_
  show vc_math_bits_Len64_j1 XX _ _ K s
  refine optK_of (a := .bool false) (by rw [arith_geq, c3]) ?_
  show vc_math_bits_Len64_j2 XX _ _ K s
  exact optK_of e1 (optK_of t1 (optK_of (cv_i64 (by omega)) (optK_of e2 (hK t t2 t3 t4))))
theorem cvn_u64 (h : n < 9223372036854775808) : convI .u64 (.int .i64 (n : Int)) = some (.int .u64 (n : Int)) := by
  show some (AVal.int .u64 (wrapK .u64 (n : Int))) = _
  rw [wu64n_ (by omega)]
theorem pow_in (h : n < 256) (h0 : 0 < n) (hK : ∀ m : Nat, m ≤ 2 * n → 0 < m → K (.int .u64 (m : Int)) s) : wpCall Tryd.prog XX 86 [.int .i64 (n : Int)] K s := by
  refine vc_slices_nextPowerOfTwo_in ?_
  simp only [vc_slices_nextPowerOfTwo, cvn_u64 (show n < 9223372036854775808 by omega), optK_mk]
  refine len_in h fun t t1 t2 t3 => ?_
  have e : shiftV .shl (.int .u64 1) (.int .i64 (t : Int)) = some (.int .u64 ((2 ^ t : Nat) : Int)) := by
    show frc (wrapK .u64 (1 * ((2 ^ (min t (IntKind.bits .u64)) : Nat) : Int))) (fun n => some (AVal.int .u64 n)) = _
    have : min t (IntKind.bits .u64) = t := Nat.min_eq_left (Nat.le_trans t1 (by decide))
    have := t3 h0
    rw [frc_eq, ‹min t (IntKind.bits .u64) = t›, Int.one_mul, wu64n_ (by omega)]
  simp only [e, optK_mk]
  exact hK _ (t3 h0) (Nat.pow_pos (by decide))
def XoAt (s : Heap) (g : Nat) : Prop := ∃ c : Int, s g = some (false, .cells 136 [.int .u64 c])
theorem XoAt.ne (h : XoAt s g) (h2 : UAt s db l) : db ≠ g := fun e => by
  obtain ⟨c, h⟩ := h
  have h2 : s db = some (false, .cells 33 (us l)) := h2
  rw [e, h] at h2
  have : (136 : TypeId) = 33 := congrArg (fun x : Option (Bool × Blk) => match x with | some (_, .cells e _) => e | _ => 0) h2
  exact absurd this (by decide)
theorem next_in (h : XoAt s g) (hK : ∀ s' (z : Int), XoAt s' g → Upto g s s' → K (.int .u64 z) s') : wpCall Tryd.prog XX 87 [.ptr g 0] K s := by
  obtain ⟨c, hc⟩ := h
  refine vc_slices_xorshift_Next_in ?_
  have rc : ∀ {t : Heap} {c : Int}, t g = some (false, .cells 136 [.int .u64 c]) → rd1 t (.ptr g 0) = some (.int .u64 c) := fun {t c} h => by rw [rd1_mk h]; rfl
  obtain ⟨z1, y1⟩ := shl_any (x := c) (m := 13) (k := .u64)
  obtain ⟨z2, y2⟩ := xor_any (x := c) (y := z1)
  obtain ⟨z3, y3⟩ := shr_any (x := z2) (m := 7) (k := .u64)
  obtain ⟨z4, y4⟩ := xor_any (x := z2) (y := z3)
  obtain ⟨z5, y5⟩ := shl_any (x := z4) (m := 17) (k := .u64)
  obtain ⟨z6, y6⟩ := xor_any (x := z4) (y := z5)
  simp only [vc_slices_xorshift_Next, nilCheck_ptr, rc hc, optK_mk]
  refine optK_of y1 (optK_of y2 (wr1_step hc Nat.zero_lt_one rfl fun s1 h1 u1 => ?_))
  have h1 : s1 g = some (false, .cells 136 [.int .u64 z2]) := h1
  simp only [rc h1, optK_mk]
  refine optK_of y3 (optK_of y4 (wr1_step h1 Nat.zero_lt_one rfl fun s2 h2 u2 => ?_))
  have h2 : s2 g = some (false, .cells 136 [.int .u64 z4]) := h2
  simp only [rc h2, optK_mk]
  refine optK_of y5 (optK_of y6 (wr1_step h2 Nat.zero_lt_one rfl fun s3 h3 u3 => ?_))
  have h3 : s3 g = some (false, .cells 136 [.int .u64 z6]) := h3
  simp only [rc h3, optK_mk]
  exact hK s3 z6 ⟨_, h3⟩ fun i hi => by rw [u3 i hi, u2 i hi, u1 i hi]
def BrkI (s : Heap) (db g : Nat) (l : List Int) (a b : Nat) : List AVal → Heap → Nat → Prop := fun ys t m =>
  ∃ (i : Nat) (l1 : List Int), ys = [.int .i64 (i : Int)] ∧ UAt t db l1 ∧ PI a b l l1 ∧ XoAt t g ∧ KeepBut (fun j => j = db ∨ j = g) s t ∧ a ≤ i ∧ i ≤ a + (b - a) / 4 * 2 + 2 ∧ m = a + (b - a) / 4 * 2 + 3 - i
theorem break_in (h : UAt s db l) (hk : k = l.length) (hl : k ≤ 255) (hab : a + 12 < b) (hb : b ≤ k) (hK : ∀ s' l', UAt s' db l' → PI a b l l' → KB db s s' → K (.tup []) s') :
    wpCall Tryd.prog XX 72 [uV db k, .int .i64 (a : Int), .int .i64 (b : Int)] K s := by
  refine vc_slices_breakPatternsOrdered_api_IP__in ?_
  have g8 : arithV .geq (.int .i64 ((b - a : Nat) : Int)) (.int .i64 8) = some (.bool true) := by rw [arith_geq, decide_eq_true (by omega)]
  have m2 : arithV .mul (.int .i64 (((b - a) / 4 : Nat) : Int)) (.int .i64 2) = some (.int .i64 (((b - a) / 4 * 2 : Nat) : Int)) := mulN (x := 2) (by omega)
  simp only [vc_slices_breakPatternsOrdered_api_IP_, subN (show a ≤ b by omega) (show b ≤ 1000000 by omega), g8, boolK_true, cvn_u64 (show b - a < 9223372036854775808 by omega), optK_mk]
  refine new_step fun g s1 hg h1 u1 => ?_
  have h1 : s1 g = some (false, .cells 136 [.int .u64 0]) := h1
  refine wr1_step h1 Nat.zero_lt_one rfl fun s2 h2 u2 => ?_
  have h2 : s2 g = some (false, .cells 136 [.int .u64 ((b - a : Nat) : Int)]) := h2
  have sub2 : Sub s s2 := fun i e hi => by
    have ne : i ≠ g := ne_of_some hg hi
    rw [u2 i ne, u1 i ne]; exact hi
  refine pow_in (n := b - a) (by omega) (by omega) fun md md1 md2 => ?_
  simp only [quo4 (show b - a ≤ 100000 by omega), m2, addN (show a + (b - a) / 4 * 2 ≤ 1000000 by omega), sub1 (show 1 ≤ a + (b - a) / 4 * 2 by omega) (show a + (b - a) / 4 * 2 ≤ 1000000 by omega), optK_mk]
  refine ⟨BrkI s2 db g l a b, ⟨_, _, l, rfl, h.sub sub2, .refl _ _ _, ⟨_, h2⟩, .refl _ _, by omega, by omega, rfl⟩, ?_⟩
  rintro e t m ⟨i, l1, hy, hu, pi, hx, kp, c1, c2, rfl⟩
  simp only [List.cons.injEq, and_true] at hy
  rw [hy]
  have hn := pi.len
  simp only [vc_slices_breakPatternsOrdered_api_IP__l0, quo4 (show b - a ≤ 100000 by omega), m2, addN (show a + (b - a) / 4 * 2 ≤ 1000000 by omega), add1 (show a + (b - a) / 4 * 2 ≤ 1000000 by omega), arith_leq, optK_mk]
  refine boolK_mk (fun hc => ?_) (fun hc => ?_)
  rotate_left
  · refine hK t l1 hu pi fun i e hi hne => kp i e (sub2 i e hi) fun w => ?_
    rcases w with w | w
    · exact hne w
    · rw [w, hg] at hi; cases hi
  have hc : i ≤ a + (b - a) / 4 * 2 + 1 := by have := of_decide_eq_true hc; omega
  have ne := hx.ne hu
  refine next_in hx fun s3 z hx3 u3 => ?_
  have hu3 : UAt s3 db l1 := by show s3 db = _; rw [u3 db ne]; exact hu
  have sb : arithV .sub (.int .u64 (md : Int)) (.int .u64 1) = some (.int .u64 ((md - 1 : Nat) : Int)) := by
    rw [arith_sub, ← wrapK_eq, show (md : Int) - 1 = ((md - 1 : Nat) : Int) by omega, wu64n_ (by omega)]
  obtain ⟨v, v1, v2⟩ := and_le (x := z) (m := md - 1) (by omega)
  simp only [sb, v2, cv_i64 (show v < 9223372036854775808 by omega), arith_geq, optK_mk]
  have fin : ∀ o, o < b - a → vc_slices_breakPatternsOrdered_api_IP__j1 XX (uV db k) (.int .i64 (a : Int)) (.int .i64 (i : Int)) (.int .i64 ((o : Nat) : Int)) (BrkI s2 db g l a b) (a + (b - a) / 4 * 2 + 3 - i) K s3 := fun o ho => by
    simp only [vc_slices_breakPatternsOrdered_api_IP__j1, addN (show a + o ≤ 1000000 by omega), u_ad (show a + o < k by omega), u_ad (show i < k by omega), hu3.rd (show a + o < l1.length by omega), hu3.rd (show i < l1.length by omega), optK_mk]
    refine hu3.swap (by omega) (by omega) fun s4 h4 u4 => ?_
    simp only [add1 (show i ≤ 1000000 by omega), optK_mk]
    refine ⟨_, by omega, i + 1, _, rfl, h4, pi.trans (.sw (by omega) (by omega) (by omega) (by omega) (by omega)), ?_, ?_, by omega, by omega, rfl⟩
    · obtain ⟨c, hc⟩ := hx3
      exact ⟨c, by rw [u4 g ne.symm]; exact hc⟩
    · exact (kp.trans (u3.keep (.inr rfl))).trans (u4.keep (.inl rfl))
  refine boolK_mk (fun hq => ?_) (fun hq => ?_)
  · have hq : b - a ≤ v := by have := of_decide_eq_true hq; omega
    simp only [subN hq (show v ≤ 1000000 by omega), optK_mk]
    exact fin _ (by omega)
  · exact fin v (by have := of_decide_eq_false hq; omega)
end Go.AM.SG
namespace Go.AM.SG
open Go Go.AM Go.Proofs
variable {K : AVal → Heap → Prop} {s s' s0 : Heap} {db g : Nat} {l l' l1 l2 : List Int} {a b c i j k p n : Nat} {v : Int}
/-! ### a part that is in order already, or nearly so -/
theorem Asc.keep (h : Asc a i l) (k : ∀ q, q < i → nAt l' q = nAt l q) : Asc a i l' := fun p q h1 h2 h3 => by
  rw [k p (by omega), k q h3]; exact h p q h1 h2 h3
def PinI0 (s : Heap) (db : Nat) (l : List Int) (a b : Nat) : List AVal → Heap → Nat → Prop := fun ys t m =>
  ∃ (i j : Nat) (l1 : List Int), ys = [.int .i64 (i : Int), .int .i64 (j : Int)] ∧ UAt t db l1 ∧ PI a b l l1 ∧ Asc a i l1 ∧ KB db s t ∧ a < i ∧ i ≤ b ∧ j ≤ 5 ∧ m = 5 - j
def PinI1 (t0 : Heap) (l1 : List Int) (a b : Nat) : List AVal → Heap → Nat → Prop := fun ys t m =>
  ∃ i : Nat, ys = [.int .i64 (i : Int)] ∧ t = t0 ∧ Asc a i l1 ∧ a < i ∧ i ≤ b ∧ m = b - i
def PinI6 (s : Heap) (db : Nat) (l : List Int) (a b i : Nat) : List AVal → Heap → Nat → Prop := fun ys t m =>
  ∃ (q : Nat) (l3 : List Int), ys = [.int .i64 (q : Int)] ∧ UAt t db l3 ∧ PI a b l l3 ∧ Ins a (i - 1) q l3 ∧ KB db s t ∧ a ≤ q ∧ q < i ∧ m = q
def PinI5 (s : Heap) (db : Nat) (l : List Int) (a b i : Nat) : List AVal → Heap → Nat → Prop := fun ys t m =>
  ∃ (q : Nat) (l4 : List Int), ys = [.int .i64 (q : Int)] ∧ UAt t db l4 ∧ PI a b l l4 ∧ Asc a i l4 ∧ KB db s t ∧ i < q ∧ q ≤ b ∧ m = b - q
theorem partial_in (h : UAt s db l) (hk : k = l.length) (hl : k ≤ 100000) (hab : a < b) (hb : b ≤ k) (hlow : Low a b l) (hK : ∀ s' l' r, UAt s' db l' → PI a b l l' → (r = true → Asc a b l') → KB db s s' → K (.bool r) s') :
    wpCall Tryd.prog XX 75 [uV db k, .int .i64 (a : Int), .int .i64 (b : Int)] K s := by
  refine vc_slices_partialInsertionSortOrdered_api_IP__in ?_
  simp only [vc_slices_partialInsertionSortOrdered_api_IP_, add1 (show a ≤ 1000000 by omega), optK_mk]
  refine ⟨PinI0 s db l a b, ⟨_, a + 1, 0, l, rfl, h, .refl _ _ _, fun p q _ _ _ => by omega, .refl _ _, by omega, by omega, by omega, rfl⟩, ?_⟩
  rintro e t m ⟨i0, j, l1, hy, h1, pi, asc0, kp, b1, b2, b3, rfl⟩
  simp only [List.cons.injEq, and_true] at hy
  rw [hy.1, hy.2]
  have hn := pi.len
  simp only [vc_slices_partialInsertionSortOrdered_api_IP__l0, arith_lss, optK_mk]
  refine boolK_mk (fun hj => ?_) (fun _ => hK t l1 false h1 pi (fun q => by cases q) kp)
  have hj : j < 5 := by have := of_decide_eq_true hj; omega
  refine ⟨PinI1 t l1 a b, ⟨_, i0, rfl, rfl, asc0, b1, b2, rfl⟩, ?_⟩
  clear hy
  rintro e t' m ⟨i, hy, rfl, asc, c1, c2, hm⟩
  simp only [List.cons.injEq, and_true] at hy
  rw [hy]
  simp only [vc_slices_partialInsertionSortOrdered_api_IP__l1, arith_lss, optK_mk]
  refine boolK_mk (fun hlt => ?_) (fun hge => ?_)
  rotate_left
  · have hib : i = b := by have := of_decide_eq_false hge; omega
    simp only [vc_slices_partialInsertionSortOrdered_api_IP__j2, hge, pickV_false, boolK_false, eqV_int, negB_mk, Bool.false_bne, optK_mk]
    subst hib
    simp only [beq_self_eq_true, boolK_true]
    exact hK t' l1 true h1 pi (fun _ => asc) kp
  have hlt' : i < b := by have := of_decide_eq_true hlt; omega
  simp only [sub1 (show 1 ≤ i by omega) (show i ≤ 1000000 by omega), u_ad (show i < k by omega), u_ad (show i - 1 < k by omega), h1.rd (show i < l1.length by omega), h1.rd (show i - 1 < l1.length by omega), optK_mk]
  refine less_in ?_
  simp only [vc_slices_partialInsertionSortOrdered_api_IP__j2, hlt, pickV_true, unary_not, optK_mk]
  refine boolK_mk (fun hc => ?_) (fun hc => ?_)
  · have hc : nAt l1 (i - 1) ≤ nAt l1 i := by simpa using hc
    simp only [add1 (show i ≤ 1000000 by omega), optK_mk]
    refine ⟨_, ?_, i + 1, rfl, rfl, fun p q q1 q2 q3 => ?_, by omega, by omega, rfl⟩
    · omega
    · by_cases e1 : q = i
      · subst e1
        by_cases e2 : p = q - 1
        · rw [e2]; exact hc
        · exact Int.le_trans (asc p (q - 1) q1 (by omega) (by omega)) hc
      · exact asc p q q1 q2 (by omega)
  have hc : nAt l1 i < nAt l1 (i - 1) := by simpa using hc
  have hne : ((i : Int) == (b : Int)) = false := by rw [beq_eq_false_iff_ne]; omega
  simp only [eqV_int, hne, negB_mk, Bool.false_bne, boolK_false, subN (show a ≤ b by omega) (show b ≤ 1000000 by omega), optK_mk]
  refine boolK_mk (fun _ => hK t' l1 false h1 pi (fun q => by cases q) kp) (fun _ => ?_)
  simp only [sub1 (show 1 ≤ i by omega) (show i ≤ 1000000 by omega), u_ad (show i < k by omega), u_ad (show i - 1 < k by omega), h1.rd (show i < l1.length by omega), h1.rd (show i - 1 < l1.length by omega), optK_mk]
  refine h1.swap (by omega) (by omega) fun s2 h2 u2 => ?_
  have kp2 := kp.trans (u2.keep rfl)
  have pi2 : PI a b l (swN l1 i (i - 1)) := pi.trans (.sw (by omega) (by omega) (by omega) (by omega) (by omega))
  -- behind both shifts
  have j4 : ∀ t4 l4, UAt t4 db l4 → PI a b l l4 → Asc a i l4 → KB db s t4 → vc_slices_partialInsertionSortOrdered_api_IP__j4 XX (.int .i64 (i : Int)) (.int .i64 (j : Int)) (PinI0 s db l a b) (5 - j) K t4 := fun t4 l4 q1 q2 q3 q4 => by
    simp only [vc_slices_partialInsertionSortOrdered_api_IP__j4, add1 (show j ≤ 1000000 by omega), optK_mk]
    exact ⟨_, by omega, i, j + 1, l4, rfl, q1, q2, q3, q4, c1, c2, by omega, rfl⟩
  have j3 : ∀ t3 l3, UAt t3 db l3 → PI a b l l3 → Asc a i l3 → KB db s t3 → vc_slices_partialInsertionSortOrdered_api_IP__j3 XX (uV db k) (.int .i64 (b : Int)) (.int .i64 (i : Int)) (.int .i64 (j : Int)) (PinI0 s db l a b) (5 - j) K t3 := fun t3 l3 q1 q2 q3 q4 => by
    simp only [vc_slices_partialInsertionSortOrdered_api_IP__j3, subN (show i ≤ b by omega) (show b ≤ 1000000 by omega), arith_geq, optK_mk]
    refine boolK_mk (fun hg => ?_) (fun _ => j4 t3 l3 q1 q2 q3 q4)
    simp only [add1 (show i ≤ 1000000 by omega), optK_mk]
    refine ⟨PinI5 s db l a b i, ⟨_, i + 1, l3, rfl, q1, q2, q3, q4, by omega, by omega, rfl⟩, ?_⟩
    rintro e t4 m ⟨q, l4, hy4, r1, r2, r3, r4, r5, r6, hm4⟩
    simp only [List.cons.injEq, and_true] at hy4
    rw [hy4]
    have hn4 := r2.len
    simp only [vc_slices_partialInsertionSortOrdered_api_IP__l5, arith_lss, optK_mk]
    refine boolK_mk (fun hq => ?_) (fun _ => j4 t4 l4 r1 r2 r3 r4)
    have hq : q < b := by have := of_decide_eq_true hq; omega
    simp only [sub1 (show 1 ≤ q by omega) (show q ≤ 1000000 by omega), u_ad (show q < k by omega), u_ad (show q - 1 < k by omega), r1.rd (show q < l4.length by omega), r1.rd (show q - 1 < l4.length by omega), optK_mk]
    refine less_in ?_
    simp only [unary_not, optK_mk]
    refine boolK_mk (fun _ => j4 t4 l4 r1 r2 r3 r4) (fun _ => ?_)
    simp only [sub1 (show 1 ≤ q by omega) (show q ≤ 1000000 by omega), u_ad (show q < k by omega), u_ad (show q - 1 < k by omega), r1.rd (show q < l4.length by omega), r1.rd (show q - 1 < l4.length by omega), optK_mk]
    refine r1.swap (by omega) (by omega) fun s5 h5 u5 => ?_
    simp only [add1 (show q ≤ 1000000 by omega), optK_mk]
    refine ⟨_, ?_, q + 1, _, rfl, h5, r2.trans (.sw (by omega) (by omega) (by omega) (by omega) (by omega)), r3.keep fun x hx => ?_, r4.trans (u5.keep rfl), by omega, by omega, rfl⟩
    · omega
    · rw [swN_at (by omega) (by omega), if_neg (by omega), if_neg (by omega)]
  have sub0 : ∀ x, x < i - 1 → nAt (swN l1 i (i - 1)) x = nAt l1 x := fun x hx => by rw [swN_at (by omega) (by omega), if_neg (by omega), if_neg (by omega)]
  have asc2 : Asc a (i - 1) (swN l1 i (i - 1)) := Asc.keep (l := l1) (fun p q q1 q2 q3 => asc p q q1 q2 (by omega)) sub0
  simp only [subN (show a ≤ i by omega) (show i ≤ 1000000 by omega), arith_geq, optK_mk]
  refine boolK_mk (fun hg => ?_) (fun hg => ?_)
  rotate_left
  · have hg : i = a + 1 := by have := of_decide_eq_false hg; omega
    exact j3 s2 _ h2 pi2 (fun p q q1 q2 q3 => by omega) kp2
  have hg : a + 2 ≤ i := by have := of_decide_eq_true hg; omega
  refine ⟨PinI6 s db l a b i, ⟨_, i - 1, _, rfl, h2, pi2, .start asc2, kp2, by omega, by omega, rfl⟩, ?_⟩
  rintro e t3 m3 ⟨q, l3, hy3, r1, r2, r3, r4, r5, r6, hm3⟩
  simp only [List.cons.injEq, and_true] at hy3
  rw [hy3]
  have hn3 := r2.len
  have dn : (q = a ∨ nAt l3 (q - 1) ≤ nAt l3 q) → vc_slices_partialInsertionSortOrdered_api_IP__j3 XX (uV db k) (.int .i64 (b : Int)) (.int .i64 (i : Int)) (.int .i64 (j : Int)) (PinI0 s db l a b) (5 - j) K t3 := fun hq => by
    have := r3.done r5 hq
    rw [show i - 1 + 1 = i by omega] at this
    exact j3 t3 l3 r1 r2 this r4
  simp only [vc_slices_partialInsertionSortOrdered_api_IP__l6, arith_geq, optK_mk]
  refine boolK_mk (fun hq => ?_) (fun hq => dn (.inl (by have := of_decide_eq_false hq; omega)))
  have hq : 1 ≤ q := by have := of_decide_eq_true hq; omega
  simp only [sub1 (show 1 ≤ q by omega) (show q ≤ 1000000 by omega), u_ad (show q < k by omega), u_ad (show q - 1 < k by omega), r1.rd (show q < l3.length by omega), r1.rd (show q - 1 < l3.length by omega), optK_mk]
  refine less_in ?_
  simp only [unary_not, optK_mk]
  refine boolK_mk (fun hd => dn (.inr (by simpa using hd))) (fun hd => ?_)
  have hd : nAt l3 q < nAt l3 (q - 1) := by simpa using hd
  have hqa : a < q := by
    by_cases e : q = a
    · subst e
      have := r2.low hlow (by omega) q (Nat.le_refl q) (by omega)
      omega
    · omega
  simp only [sub1 (show 1 ≤ q by omega) (show q ≤ 1000000 by omega), u_ad (show q < k by omega), u_ad (show q - 1 < k by omega), r1.rd (show q < l3.length by omega), r1.rd (show q - 1 < l3.length by omega), optK_mk]
  refine r1.swap (by omega) (by omega) fun s5 h5 u5 => ?_
  refine ⟨_, ?_, q - 1, _, rfl, h5, r2.trans (.sw (by omega) (by omega) (by omega) (by omega) (by omega)), r3.step hqa (by omega) (by omega) hd, r4.trans (u5.keep rfl), by omega, by omega, rfl⟩
  omega
end Go.AM.SG
namespace Go.AM.SG
open Go Go.AM Go.Proofs
variable {K : AVal → Heap → Prop} {s s' s0 : Heap} {db g : Nat} {l l' l1 l2 : List Int} {a b c i j k p n : Nat} {v : Int}
/-! ### parting -/
structure Ptn (a b i j : Nat) (v : Int) (l l1 : List Int) : Prop where
  pi : PI a b l l1
  piv : nAt l1 a = v
  ai : a < i
  ij : i ≤ j + 1
  jb : j < b
  low : ∀ q, a < q → q < i → nAt l1 q ≤ v
  up : ∀ q, j < q → q < b → v ≤ nAt l1 q
theorem Ptn.start (hab : a < b) (h1 : a ≤ p) (h2 : p < b) (hb : b ≤ l.length) : Ptn a b (a + 1) (b - 1) (nAt l p) l (swN l a p) :=
  ⟨.sw (by omega) (by omega) h1 h2 hb, by
    rw [swN_at (by omega) (by omega)]
    by_cases e : a = p
    · rw [if_pos e, e]
    · rw [if_neg e, if_pos rfl], by omega, by omega, by omega, fun q _ _ => by omega, fun q _ _ => by omega⟩
theorem Ptn.incr (h : Ptn a b i j v l l1) (hij : i ≤ j) (c : nAt l1 i ≤ v) : Ptn a b (i + 1) j v l l1 :=
  ⟨h.pi, h.piv, by have := h.ai; omega, by omega, h.jb, fun q q1 q2 => by
    by_cases e : q = i
    · rw [e]; exact c
    · exact h.low q q1 (by omega), h.up⟩
theorem Ptn.decr (h : Ptn a b i j v l l1) (hij : i ≤ j) (c : v ≤ nAt l1 j) : Ptn a b i (j - 1) v l l1 :=
  ⟨h.pi, h.piv, h.ai, by omega, by have := h.jb; omega, h.low, fun q q1 q2 => by
    by_cases e : q = j
    · rw [e]; exact c
    · exact h.up q (by omega) q2⟩
theorem Ptn.swap (h : Ptn a b i j v l l1) (hb : b ≤ l.length) (hij : i < j) (c1 : v ≤ nAt l1 i) (c2 : nAt l1 j ≤ v) : Ptn a b (i + 1) (j - 1) v l (swN l1 i j) := by
  have hn := h.pi.len
  have h1 := h.ai
  have h2 := h.jb
  have at_ : ∀ k, nAt (swN l1 i j) k = if k = j then nAt l1 i else if k = i then nAt l1 j else nAt l1 k := fun k => swN_at (by omega) (by omega)
  refine ⟨h.pi.trans (.sw (by omega) (by omega) (by omega) (by omega) (by omega)), ?_, by omega, by omega, by omega, fun q q1 q2 => ?_, fun q q1 q2 => ?_⟩
  · rw [at_, if_neg (by omega), if_neg (by omega)]; exact h.piv
  · rw [at_, if_neg (by omega)]
    by_cases e : q = i
    · rw [if_pos e]; exact c2
    · rw [if_neg e]; exact h.low q q1 (by omega)
  · rw [at_]
    by_cases e : q = j
    · rw [if_pos e]; exact c1
    · rw [if_neg e, if_neg (by omega)]; exact h.up q (by omega) q2
theorem Ptn.fin (h : Ptn a b i j v l l1) (hb : b ≤ l.length) (hij : j < i) : PI a b l (swN l1 j a) ∧ Parted a b j (swN l1 j a) ∧ a ≤ j := by
  have hn := h.pi.len
  have h1 := h.ai
  have h2 := h.jb
  have h3 := h.ij
  have haj : a ≤ j := by omega
  have at_ : ∀ k, nAt (swN l1 j a) k = if k = a then nAt l1 j else if k = j then nAt l1 a else nAt l1 k := fun k => swN_at (by omega) (by omega)
  refine ⟨h.pi.trans (.sw (by omega) (by omega) (by omega) (by omega) (by omega)), ⟨fun q q1 q2 => ?_, fun q q1 q2 => ?_⟩, haj⟩
  · have : a < j := by omega
    have hj : nAt l1 j ≤ v := h.low j this (by omega)
    rw [at_ q, at_ j, if_neg (show ¬ j = a by omega), if_pos rfl, h.piv]
    by_cases e : q = a
    · rw [if_pos e]; exact hj
    · rw [if_neg e, if_neg (by omega)]
      exact h.low q (by omega) (by omega)
  · have e1 : nAt (swN l1 j a) j = v := by
      rw [at_ j]
      by_cases e : j = a
      · rw [if_pos e, e]; exact h.piv
      · rw [if_neg e, if_pos rfl]; exact h.piv
    rw [e1, at_ q, if_neg (by omega), if_neg (by omega)]
    exact h.up q q1 q2
def PeqI0 (s : Heap) (db : Nat) (l : List Int) (a b : Nat) (v : Int) : List AVal → Heap → Nat → Prop := fun ys t m =>
  ∃ (i j : Nat) (l1 : List Int), ys = [.int .i64 (i : Int), .int .i64 (j : Int)] ∧ UAt t db l1 ∧ Ptn a b i j v l l1 ∧ KB db s t ∧ m = j + 1 - i
def PeqI1 (t0 : Heap) (l l1 : List Int) (a b i0 j : Nat) (v : Int) : List AVal → Heap → Nat → Prop := fun ys t m =>
  ∃ i : Nat, ys = [.int .i64 (i : Int), .int .i64 (j : Int)] ∧ t = t0 ∧ Ptn a b i j v l l1 ∧ i0 ≤ i ∧ m = j + 1 - i
def PeqI3 (t0 : Heap) (l l1 : List Int) (a b i j0 : Nat) (v : Int) : List AVal → Heap → Nat → Prop := fun ys t m =>
  ∃ j : Nat, ys = [.int .i64 (j : Int)] ∧ t = t0 ∧ Ptn a b i j v l l1 ∧ (i ≤ j → v < nAt l1 i) ∧ j ≤ j0 ∧ m = j
theorem parteq_in (h : UAt s db l) (hk : k = l.length) (hl : k ≤ 100000) (hab : a < b) (hb : b ≤ k) (h1p : a ≤ p) (h2p : p < b) (hK : ∀ s' l' m, UAt s' db l' → PI a b l l' → a < m → m ≤ b → (∀ q, a ≤ q → q < m → nAt l' q ≤ nAt l p) → (∀ q, m ≤ q → q < b → nAt l p ≤ nAt l' q) → KB db s s' → K (.int .i64 ((m : Nat) : Int)) s') :
    wpCall Tryd.prog XX 77 [uV db k, .int .i64 (a : Int), .int .i64 (b : Int), .int .i64 (p : Int)] K s := by
  refine vc_slices_partitionEqualOrdered_api_IP__in ?_
  simp only [vc_slices_partitionEqualOrdered_api_IP_, u_ad (show p < k by omega), u_ad (show a < k by omega), h.rd (show p < l.length by omega), h.rd (show a < l.length by omega), optK_mk]
  refine h.swap (by omega) (by omega) fun s1 h1 u1 => ?_
  simp only [add1 (show a ≤ 1000000 by omega), sub1 (show 1 ≤ b by omega) (show b ≤ 1000000 by omega), optK_mk]
  refine ⟨PeqI0 s db l a b (nAt l p), ⟨_, a + 1, b - 1, _, rfl, h1, .start hab h1p h2p (by omega), u1.keep rfl, rfl⟩, ?_⟩
  rintro e t m ⟨i0, j0, l1, hy, ht, pt0, kp, rfl⟩
  simp only [List.cons.injEq, and_true] at hy
  rw [hy.1, hy.2]
  have hn := pt0.pi.len
  refine ⟨PeqI1 t l l1 a b i0 j0 (nAt l p), ⟨_, i0, rfl, rfl, pt0, by omega, rfl⟩, ?_⟩
  clear hy
  rintro e t' m ⟨i, hy, rfl, pt, hi0, hm⟩
  simp only [List.cons.injEq, and_true] at hy
  rw [hy.1]
  have c1 := pt.ai
  have c2 := pt.ij
  have c3 := pt.jb
  -- behind the first inner loop
  have nx : (i ≤ j0 → nAt l p < nAt l1 i) → ∃ I3 : List AVal → Heap → Nat → Prop, (∃ m, I3 [.int .i64 (j0 : Int)] t' m) ∧ ∀ (f : Env) (w : Heap) (m3 : Nat), I3 [f 10] w m3 →
      vc_slices_partitionEqualOrdered_api_IP__l3 XX (uV db k) (.int .i64 (a : Int)) (.int .i64 (i : Int)) (f 10) I3 m3 (PeqI0 s db l a b (nAt l p)) (j0 + 1 - i0) K w := fun hst => by
    refine ⟨PeqI3 t' l l1 a b i j0 (nAt l p), ⟨_, j0, rfl, rfl, pt, hst, by omega, rfl⟩, ?_⟩
    rintro e t3 m3 ⟨j, hy3, rfl, pt3, hst3, hj0, hm3⟩
    simp only [List.cons.injEq, and_true] at hy3
    rw [hy3]
    have d2 := pt3.ij
    have d3 := pt3.jb
    have st : ((i ≤ j → nAt l1 j ≤ nAt l p)) → optK (arithV .gtr (.int .i64 (i : Int)) (.int .i64 (j : Int))) fun v_16 => boolK v_16 (K (.int .i64 (i : Int)) t3)
        (optK (iaddrS 1 (uV db k) (.int .i64 (j : Int))) fun v_17 => optK (rd1 t3 v_17) fun v_18 => optK (iaddrS 1 (uV db k) (.int .i64 (i : Int))) fun v_19 => optK (rd1 t3 v_19) fun v_20 => optK (iaddrS 1 (uV db k) (.int .i64 (i : Int))) fun v_21 => optK (wr1 t3 v_21 v_18) fun s_22 =>
          optK (iaddrS 1 (uV db k) (.int .i64 (j : Int))) fun v_23 => optK (wr1 s_22 v_23 v_20) fun s_24 => optK (arithV .add (.int .i64 (i : Int)) (.int .i64 1)) fun v_25 => optK (arithV .sub (.int .i64 (j : Int)) (.int .i64 1)) fun v_26 => ∃ m', m' < j0 + 1 - i0 ∧ PeqI0 s db l a b (nAt l p) [v_25, v_26] s_24 m') := fun hq => by
      simp only [arith_gtr, optK_mk]
      refine boolK_mk (fun hg => ?_) (fun hg => ?_)
      · have hg : j < i := by have := of_decide_eq_true hg; omega
        refine hK t3 l1 i ht pt3.pi c1 (by omega) (fun q q1 q2 => ?_) (fun q q1 q2 => pt3.up q (by omega) q2) kp
        by_cases e : q = a
        · rw [e, pt3.piv]; exact Int.le_refl _
        · exact pt3.low q (by omega) q2
      · have hg : i ≤ j := by have := of_decide_eq_false hg; omega
        have w1 := hst3 hg
        have w2 := hq hg
        have hij : i < j := by
          by_cases e : i = j
          · rw [e] at w1; omega
          · omega
        simp only [u_ad (show i < k by omega), u_ad (show j < k by omega), ht.rd (show i < l1.length by omega), ht.rd (show j < l1.length by omega), optK_mk]
        refine ht.swap (by omega) (by omega) fun s5 h5 u5 => ?_
        simp only [add1 (show i ≤ 1000000 by omega), sub1 (show 1 ≤ j by omega) (show j ≤ 1000000 by omega), optK_mk]
        exact ⟨_, by omega, i + 1, j - 1, _, rfl, h5, pt3.swap (by omega) hij (by omega) w2, kp.trans (u5.keep rfl), rfl⟩
    simp only [vc_slices_partitionEqualOrdered_api_IP__l3, arith_leq, optK_mk]
    refine boolK_mk (fun hlt => ?_) (fun hge => ?_)
    rotate_left
    · simp only [vc_slices_partitionEqualOrdered_api_IP__j4, hge, pickV_false, boolK_false, optK_mk]
      exact st fun q => by have := of_decide_eq_false hge; omega
    have hlt' : i ≤ j := by have := of_decide_eq_true hlt; omega
    simp only [u_ad (show j < k by omega), u_ad (show a < k by omega), ht.rd (show j < l1.length by omega), ht.rd (show a < l1.length by omega), optK_mk]
    refine less_in ?_
    simp only [vc_slices_partitionEqualOrdered_api_IP__j4, hlt, pickV_true, optK_mk, pt3.piv]
    refine boolK_mk (fun hc => ?_) (fun hc => ?_)
    · have hc := of_decide_eq_true hc
      simp only [sub1 (show 1 ≤ j by omega) (show j ≤ 1000000 by omega), optK_mk]
      exact ⟨_, by omega, j - 1, rfl, rfl, pt3.decr hlt' (by omega), fun q => hst3 (by omega), by omega, rfl⟩
    · exact st fun _ => by have := of_decide_eq_false hc; omega
  simp only [vc_slices_partitionEqualOrdered_api_IP__l1, arith_leq, optK_mk]
  refine boolK_mk (fun hlt => ?_) (fun hge => ?_)
  rotate_left
  · simp only [vc_slices_partitionEqualOrdered_api_IP__j2, hge, pickV_false, boolK_false, optK_mk]
    exact nx fun q => by have := of_decide_eq_false hge; omega
  have hlt' : i ≤ j0 := by have := of_decide_eq_true hlt; omega
  simp only [u_ad (show i < k by omega), u_ad (show a < k by omega), ht.rd (show i < l1.length by omega), ht.rd (show a < l1.length by omega), optK_mk]
  refine less_in ?_
  simp only [vc_slices_partitionEqualOrdered_api_IP__j2, hlt, pickV_true, unary_not, optK_mk, pt.piv]
  refine boolK_mk (fun hc => ?_) (fun hc => ?_)
  · have hc : nAt l1 i ≤ nAt l p := by simpa using hc
    simp only [add1 (show i ≤ 1000000 by omega), optK_mk]
    exact ⟨_, by omega, i + 1, rfl, rfl, pt.incr hlt' hc, by omega, rfl⟩
  · have hc : nAt l p < nAt l1 i := by simpa using hc
    exact nx fun _ => hc
end Go.AM.SG
namespace Go.AM.SG
open Go Go.AM Go.Proofs
variable {K : AVal → Heap → Prop} {s s' s0 : Heap} {db g : Nat} {l l' l1 l2 : List Int} {a b c i j k p n : Nat} {v : Int}
def ParI0 (t0 : Heap) (l l1 : List Int) (a b j : Nat) (v : Int) : List AVal → Heap → Nat → Prop := fun ys t m =>
  ∃ i : Nat, ys = [.int .i64 (i : Int)] ∧ t = t0 ∧ Ptn a b i j v l l1 ∧ m = j + 1 - i
def ParI2 (t0 : Heap) (l l1 : List Int) (a b i j0 : Nat) (v : Int) : List AVal → Heap → Nat → Prop := fun ys t m =>
  ∃ j : Nat, ys = [.int .i64 (j : Int)] ∧ t = t0 ∧ Ptn a b i j v l l1 ∧ (i ≤ j → v ≤ nAt l1 i) ∧ j ≤ j0 ∧ m = j
/-- what comes behind both loops -/
theorem par_fin {cf : Bool} {t : Heap} {R : Heap → Prop} (h : UAt t db l1) (pt : Ptn a b i j v l l1) (hk : k = l.length) (hl : k ≤ 100000) (hb : b ≤ k) (hij : i ≤ j → v ≤ nAt l1 i ∧ nAt l1 j < v)
    (hK : ∀ s' l' m, UAt s' db l' → PI a b l l' → a ≤ m → m < b → Parted a b m l' → KB db t s' → K (.tup [.int .i64 ((m : Nat) : Int), .bool cf]) s')
    (hR : ∀ s', UAt s' db (swN l1 i j) → Ptn a b (i + 1) (j - 1) v l (swN l1 i j) → i < j → KB db t s' → R s') :
    optK (arithV .gtr (.int .i64 (i : Int)) (.int .i64 (j : Int))) fun v_16 =>
    boolK v_16
     (optK (iaddrS 1 (uV db k) (.int .i64 (a : Int))) fun v_17 =>
      optK (rd1 t v_17) fun v_18 =>
      optK (iaddrS 1 (uV db k) (.int .i64 (j : Int))) fun v_19 =>
      optK (rd1 t v_19) fun v_20 =>
      optK (iaddrS 1 (uV db k) (.int .i64 (j : Int))) fun v_21 =>
      optK (wr1 t v_21 v_18) fun s_22 =>
      optK (iaddrS 1 (uV db k) (.int .i64 (a : Int))) fun v_23 =>
      optK (wr1 s_22 v_23 v_20) fun s_24 =>
      K (.tup [.int .i64 (j : Int), (.bool cf)]) s_24)
     (optK (iaddrS 1 (uV db k) (.int .i64 (j : Int))) fun v_25 =>
      optK (rd1 t v_25) fun v_26 =>
      optK (iaddrS 1 (uV db k) (.int .i64 (i : Int))) fun v_27 =>
      optK (rd1 t v_27) fun v_28 =>
      optK (iaddrS 1 (uV db k) (.int .i64 (i : Int))) fun v_29 =>
      optK (wr1 t v_29 v_26) fun s_30 =>
      optK (iaddrS 1 (uV db k) (.int .i64 (j : Int))) fun v_31 =>
      optK (wr1 s_30 v_31 v_28) R) := by
  have hn := pt.pi.len
  have c1 := pt.ai
  have c2 := pt.ij
  have c3 := pt.jb
  simp only [arith_gtr, optK_mk]
  refine boolK_mk (fun hg => ?_) (fun hg => ?_)
  · have hg : j < i := by have := of_decide_eq_true hg; omega
    simp only [u_ad (show a < k by omega), u_ad (show j < k by omega), h.rd (show a < l1.length by omega), h.rd (show j < l1.length by omega), optK_mk]
    refine h.swap (by omega) (by omega) fun s5 h5 u5 => ?_
    obtain ⟨q1, q2, q3⟩ := pt.fin (by omega) hg
    exact hK s5 _ j h5 q1 q3 c3 q2 (u5.keep rfl)
  · have hg : i ≤ j := by have := of_decide_eq_false hg; omega
    obtain ⟨w1, w2⟩ := hij hg
    have hlt : i < j := by
      by_cases e : i = j
      · rw [e] at w1; omega
      · omega
    simp only [u_ad (show i < k by omega), u_ad (show j < k by omega), h.rd (show i < l1.length by omega), h.rd (show j < l1.length by omega), optK_mk]
    refine h.swap (by omega) (by omega) fun s5 h5 u5 => hR s5 h5 (pt.swap (by omega) hlt w1 (by omega)) hlt (u5.keep rfl)
theorem part_in (h : UAt s db l) (hk : k = l.length) (hl : k ≤ 100000) (hab : a < b) (hb : b ≤ k) (h1p : a ≤ p) (h2p : p < b) (hK : ∀ s' l' m (cf : Bool), UAt s' db l' → PI a b l l' → a ≤ m → m < b → Parted a b m l' → KB db s s' → K (.tup [.int .i64 ((m : Nat) : Int), .bool cf]) s') :
    wpCall Tryd.prog XX 78 [uV db k, .int .i64 (a : Int), .int .i64 (b : Int), .int .i64 (p : Int)] K s := by
  refine vc_slices_partitionOrdered_api_IP__in ?_
  simp only [vc_slices_partitionOrdered_api_IP_, u_ad (show p < k by omega), u_ad (show a < k by omega), h.rd (show p < l.length by omega), h.rd (show a < l.length by omega), optK_mk]
  refine h.swap (by omega) (by omega) fun s1 h1 u1 => ?_
  have kp1 : KB db s s1 := u1.keep rfl
  simp only [add1 (show a ≤ 1000000 by omega), sub1 (show 1 ≤ b by omega) (show b ≤ 1000000 by omega), optK_mk]
  have pt1 := Ptn.start (l := l) hab h1p h2p (by omega)
  generalize hv : nAt l p = v at pt1
  generalize swN l a p = l1 at h1 pt1
  refine ⟨ParI0 s1 l l1 a b (b - 1) v, ⟨_, a + 1, rfl, rfl, pt1, rfl⟩, ?_⟩
  rintro e t m ⟨i, hy, rfl, pt, rfl⟩
  simp only [List.cons.injEq, and_true] at hy
  rw [hy]
  have hn := pt.pi.len
  have c1 := pt.ai
  have c2 := pt.ij
  have c3 := pt.jb
  -- the second outer loop
  have big : ∀ t4 l4 i4 j4, UAt t4 db l4 → Ptn a b i4 j4 v l l4 → KB db s t4 → ∃ I4 : List AVal → Heap → Nat → Prop, (∃ m, I4 [.int .i64 ((i4 : Nat) : Int), .int .i64 ((j4 : Nat) : Int)] t4 m) ∧ ∀ (f : Env) (w : Heap) (m4 : Nat), I4 [f 10, f 11] w m4 →
      vc_slices_partitionOrdered_api_IP__l4 XX (uV db k) (.int .i64 (a : Int)) (f 10) (f 11) I4 m4 K w := fun t4 l4 i4 j4 h4 pt4 kp4 => by
    refine ⟨PeqI0 s db l a b v, ⟨_, i4, j4, l4, rfl, h4, pt4, kp4, rfl⟩, ?_⟩
    clear h4 pt4 kp4 hy
    rintro e t m ⟨i0, j0, l1, hy, ht, pt0, kp, rfl⟩
    simp only [List.cons.injEq, and_true] at hy
    rw [hy.1, hy.2]
    have hn := pt0.pi.len
    refine ⟨PeqI1 t l l1 a b i0 j0 v, ⟨_, i0, rfl, rfl, pt0, by omega, rfl⟩, ?_⟩
    clear hy
    rintro e t' m ⟨i, hy, rfl, pt, hi0, hm⟩
    simp only [List.cons.injEq, and_true] at hy
    rw [hy.1]
    have c1 := pt.ai
    have c2 := pt.ij
    have c3 := pt.jb
    have nx : (i ≤ j0 → v ≤ nAt l1 i) → ∃ I7 : List AVal → Heap → Nat → Prop, (∃ m, I7 [.int .i64 (j0 : Int)] t' m) ∧ ∀ (f : Env) (w : Heap) (m7 : Nat), I7 [f 11] w m7 →
        vc_slices_partitionOrdered_api_IP__l7 XX (uV db k) (.int .i64 (a : Int)) (.int .i64 (i : Int)) (f 11) I7 m7 (PeqI0 s db l a b v) (j0 + 1 - i0) K w := fun hst => by
      refine ⟨ParI2 t' l l1 a b i j0 v, ⟨_, j0, rfl, rfl, pt, hst, by omega, rfl⟩, ?_⟩
      rintro e t3 m3 ⟨j, hy3, rfl, pt3, hst3, hj0, hm3⟩
      simp only [List.cons.injEq, and_true] at hy3
      rw [hy3]
      have d2 := pt3.ij
      have d3 := pt3.jb
      have st := fun hq : (i ≤ j → nAt l1 j < v) => par_fin (cf := false) (K := K) (R := fun s_57 => optK (arithV .add (.int .i64 (i : Int)) (.int .i64 1)) fun v_58 => optK (arithV .sub (.int .i64 (j : Int)) (.int .i64 1)) fun v_59 => ∃ m', m' < j0 + 1 - i0 ∧ PeqI0 s db l a b v [v_58, v_59] s_57 m') ht pt3 hk hl hb (fun q => ⟨hst3 q, hq q⟩) (fun s5 l5 m5 q1 q2 q3 q4 q5 q6 => hK s5 l5 m5 false q1 q2 q3 q4 q5 (kp.trans q6)) (fun s5 q1 q2 q3 q4 => by
        simp only [add1 (show i ≤ 1000000 by omega), sub1 (show 1 ≤ j by omega) (show j ≤ 1000000 by omega), optK_mk]
        exact ⟨_, by omega, i + 1, j - 1, _, rfl, q1, q2, kp.trans q4, rfl⟩)
      simp only [vc_slices_partitionOrdered_api_IP__l7, arith_leq, optK_mk]
      refine boolK_mk (fun hlt => ?_) (fun hge => ?_)
      rotate_left
      · simp only [vc_slices_partitionOrdered_api_IP__j8, hge, pickV_false, boolK_false, optK_mk]
        exact st fun q => by have := of_decide_eq_false hge; omega
      have hlt' : i ≤ j := by have := of_decide_eq_true hlt; omega
      simp only [u_ad (show j < k by omega), u_ad (show a < k by omega), ht.rd (show j < l1.length by omega), ht.rd (show a < l1.length by omega), optK_mk]
      refine less_in ?_
      simp only [vc_slices_partitionOrdered_api_IP__j8, hlt, pickV_true, unary_not, optK_mk]
      rw [pt3.piv]
      refine boolK_mk (fun hc => ?_) (fun hc => ?_)
      · have hc : v ≤ nAt l1 j := by simpa using hc
        simp only [sub1 (show 1 ≤ j by omega) (show j ≤ 1000000 by omega), optK_mk]
        exact ⟨_, by omega, j - 1, rfl, rfl, pt3.decr hlt' hc, fun q => hst3 (by omega), by omega, rfl⟩
      · exact st fun _ => by simpa using hc
    simp only [vc_slices_partitionOrdered_api_IP__l5, arith_leq, optK_mk]
    refine boolK_mk (fun hlt => ?_) (fun hge => ?_)
    rotate_left
    · simp only [vc_slices_partitionOrdered_api_IP__j6, hge, pickV_false, boolK_false, optK_mk]
      exact nx fun q => by have := of_decide_eq_false hge; omega
    have hlt' : i ≤ j0 := by have := of_decide_eq_true hlt; omega
    simp only [u_ad (show i < k by omega), u_ad (show a < k by omega), ht.rd (show i < l1.length by omega), ht.rd (show a < l1.length by omega), optK_mk]
    refine less_in ?_
    simp only [vc_slices_partitionOrdered_api_IP__j6, hlt, pickV_true, optK_mk]
    rw [pt.piv]
    refine boolK_mk (fun hc => ?_) (fun hc => ?_)
    · have hc := of_decide_eq_true hc
      simp only [add1 (show i ≤ 1000000 by omega), optK_mk]
      exact ⟨_, by omega, i + 1, rfl, rfl, pt.incr hlt' (by omega), by omega, rfl⟩
    · exact nx fun _ => by have := of_decide_eq_false hc; omega
  -- the first two loops
  have nx : (i ≤ b - 1 → v ≤ nAt l1 i) → ∃ I2 : List AVal → Heap → Nat → Prop, (∃ m, I2 [.int .i64 ((b - 1 : Nat) : Int)] t m) ∧ ∀ (f : Env) (w : Heap) (m2 : Nat), I2 [f 11] w m2 →
      vc_slices_partitionOrdered_api_IP__l2 XX (uV db k) (.int .i64 (a : Int)) (.int .i64 (i : Int)) (f 11) I2 m2 K w := fun hst => by
    refine ⟨ParI2 t l l1 a b i (b - 1) v, ⟨_, b - 1, rfl, rfl, pt, hst, by omega, rfl⟩, ?_⟩
    rintro e t3 m3 ⟨j, hy3, rfl, pt3, hst3, hj0, hm3⟩
    simp only [List.cons.injEq, and_true] at hy3
    rw [hy3]
    have d2 := pt3.ij
    have d3 := pt3.jb
    have st := fun hq : (i ≤ j → nAt l1 j < v) => par_fin (cf := true) (K := K) (R := fun s_32 => optK (arithV .add (.int .i64 (i : Int)) (.int .i64 1)) fun v_33 => optK (arithV .sub (.int .i64 (j : Int)) (.int .i64 1)) fun v_34 => ∃ I4 : List AVal → Heap → Nat → Prop, (∃ m, I4 [v_33, v_34] s_32 m) ∧ ∀ (f : Env) (s : Heap) (m4 : Nat), I4 [f 10, f 11] s m4 →
        vc_slices_partitionOrdered_api_IP__l4 XX (uV db k) (.int .i64 (a : Int)) (f 10) (f 11) I4 m4 K s) h1 pt3 hk hl hb (fun q => ⟨hst3 q, hq q⟩) (fun s5 l5 m5 q1 q2 q3 q4 q5 q6 => hK s5 l5 m5 true q1 q2 q3 q4 q5 (kp1.trans q6)) (fun s5 q1 q2 q3 q4 => by
      simp only [add1 (show i ≤ 1000000 by omega), sub1 (show 1 ≤ j by omega) (show j ≤ 1000000 by omega), optK_mk]
      exact big s5 _ (i + 1) (j - 1) q1 q2 (kp1.trans q4))
    simp only [vc_slices_partitionOrdered_api_IP__l2, arith_leq, optK_mk]
    refine boolK_mk (fun hlt => ?_) (fun hge => ?_)
    rotate_left
    · simp only [vc_slices_partitionOrdered_api_IP__j3, hge, pickV_false, boolK_false, optK_mk]
      exact st fun q => by have := of_decide_eq_false hge; omega
    have hlt' : i ≤ j := by have := of_decide_eq_true hlt; omega
    simp only [u_ad (show j < k by omega), u_ad (show a < k by omega), h1.rd (show j < l1.length by omega), h1.rd (show a < l1.length by omega), optK_mk]
    refine less_in ?_
    simp only [vc_slices_partitionOrdered_api_IP__j3, hlt, pickV_true, unary_not, optK_mk]
    rw [pt3.piv]
    refine boolK_mk (fun hc => ?_) (fun hc => ?_)
    · have hc : v ≤ nAt l1 j := by simpa using hc
      simp only [sub1 (show 1 ≤ j by omega) (show j ≤ 1000000 by omega), optK_mk]
      exact ⟨_, by omega, j - 1, rfl, rfl, pt3.decr hlt' hc, fun q => hst3 (by omega), by omega, rfl⟩
    · exact st fun _ => by simpa using hc
  simp only [vc_slices_partitionOrdered_api_IP__l0, arith_leq, optK_mk]
  refine boolK_mk (fun hlt => ?_) (fun hge => ?_)
  rotate_left
  · simp only [vc_slices_partitionOrdered_api_IP__j1, hge, pickV_false, boolK_false, optK_mk]
    exact nx fun q => by have := of_decide_eq_false hge; omega
  have hlt' : i ≤ b - 1 := by have := of_decide_eq_true hlt; omega
  simp only [u_ad (show i < k by omega), u_ad (show a < k by omega), h1.rd (show i < l1.length by omega), h1.rd (show a < l1.length by omega), optK_mk]
  refine less_in ?_
  simp only [vc_slices_partitionOrdered_api_IP__j1, hlt, pickV_true, optK_mk]
  rw [pt.piv]
  refine boolK_mk (fun hc => ?_) (fun hc => ?_)
  · have hc := of_decide_eq_true hc
    simp only [add1 (show i ≤ 1000000 by omega), optK_mk]
    exact ⟨_, by omega, i + 1, rfl, rfl, pt.incr hlt' (by omega), rfl⟩
  · exact nx fun _ => by have := of_decide_eq_false hc; omega
end Go.AM.SG
namespace Go.AM.SG
open Go Go.AM Go.Proofs
variable {s s' s0 : Heap} {db g : Nat} {l l' l1 l2 : List Int} {a b c i j k p n a0 b0 : Nat} {v : Int}
/-! ### quicksort -/
def PdqI (s : Heap) (db : Nat) (l : List Int) (a0 b0 : Nat) : List AVal → Heap → Nat → Prop := fun ys t m =>
  ∃ (a b lim : Nat) (wb wp : Bool) (l1 : List Int), ys = [.int .i64 (a : Int), .int .i64 (b : Int), .int .i64 (lim : Int), .bool wb, .bool wp] ∧ UAt t db l1 ∧ PI a0 b0 l l1 ∧ But a0 b0 a b l1 ∧ KB db s t ∧ a0 ≤ a ∧ a ≤ b ∧ b ≤ b0 ∧ lim ≤ 64 ∧ m = b - a
theorem pdq_in (k : Nat) (hl : k ≤ 255) : ∀ (n a0 b0 lim : Nat) (l : List Int) (K : AVal → Heap → Prop) (s : Heap), b0 - a0 = n → UAt s db l → k = l.length → a0 ≤ b0 → b0 ≤ k → lim ≤ 64 → Low a0 b0 l → (∀ s' l', UAt s' db l' → PI a0 b0 l l' → Asc a0 b0 l' → KB db s s' → K (.tup []) s') →
    wpCall Tryd.prog XX 58 [uV db k, .int .i64 (a0 : Int), .int .i64 (b0 : Int), .int .i64 (lim : Int)] K s := by
  intro n
  induction n using Nat.strongRecOn with
  | _ n ih =>
  intro a0 b0 lim0 l K s hn h hk hab0 hb0 hlim0 hlow hK
  refine vc_slices_pdqsortOrdered_api_IP__in ?_
  refine ⟨PdqI s db l a0 b0, ⟨_, a0, b0, lim0, true, true, l, rfl, h, .refl _ _ _, .start, .refl _ _, by omega, by omega, by omega, hlim0, rfl⟩, ?_⟩
  rintro e t m ⟨a, b, lim, wb, wp, l1, hy, h1, pi, but, kp, c1, c2, c3, c4, rfl⟩
  simp only [List.cons.injEq, and_true] at hy
  obtain ⟨y1, y2, y3, y4, y5⟩ := hy
  rw [y1, y2, y3, y4, y5]
  clear y1 y2 y3 y4 y5
  have hn1 := pi.len
  -- a sorted rest
  have fin : ∀ t2 l2, UAt t2 db l2 → PI a b l1 l2 → Asc a b l2 → KB db t t2 → K (.tup []) t2 := fun t2 l2 q1 q2 q3 q4 =>
    hK t2 l2 q1 (pi.trans (q2.wide c1 c3)) ((but.pi c1 c3 q2).asc q3) (kp.trans q4)
  simp only [vc_slices_pdqsortOrdered_api_IP__l0, subN c2 (show b ≤ 1000000 by omega), arith_leq, optK_mk]
  refine boolK_mk (fun hs => ?_) (fun hs => ?_)
  · exact inso_in h1 (by omega) (by omega) c2 (by omega) fun s2 l2 q1 q2 q3 q4 => fin s2 l2 q1 q2 q3 q4
  have hs : a + 12 < b := by have := of_decide_eq_false hs; omega
  -- the parting
  have j5 : ∀ t2 l2 p lim wp, UAt t2 db l2 → PI a b l1 l2 → KB db t t2 → a ≤ p → p < b → lim ≤ 64 → vc_slices_pdqsortOrdered_api_IP__j5 XX (uV db k) (.int .i64 (a : Int)) (.int .i64 (b : Int)) (.int .i64 ((lim : Nat) : Int)) (.bool wb) (.bool wp) (.int .i64 ((b - a : Nat) : Int)) (.int .i64 ((p : Nat) : Int)) (PdqI s db l a0 b0) (b - a) K t2 := fun t2 l2 p lim wp q1 q2 q3 q4 q5 q6 => by
    have hn2 := q2.len
    have pi2 := pi.trans (q2.wide c1 c3)
    have but2 := but.pi c1 c3 q2
    have kp2 := kp.trans q3
    have low2 : Low a b l2 := but2.low (pi2.low hlow) c1 c3
    have usual : ∀ z, vc_slices_pdqsortOrdered_api_IP__j6 XX (uV db k) (.int .i64 (a : Int)) (.int .i64 (b : Int)) (.int .i64 ((lim : Nat) : Int)) (.bool wb) (.bool wp) (.int .i64 ((b - a : Nat) : Int)) (.int .i64 ((p : Nat) : Int)) (.bool false) z (PdqI s db l a0 b0) (b - a) K t2 := fun z => by
      simp only [vc_slices_pdqsortOrdered_api_IP__j6, pickV_false, boolK_false, optK_mk]
      refine part_in q1 (by omega) (by omega) (by omega) (by omega) q4 q5 fun s3 l3 mid cf r1 r2 r3 r4 r5 r6 => ?_
      have hn3 := r2.len
      have pi3 := pi2.trans (r2.wide c1 c3)
      have but3 := but2.pi c1 c3 r2
      have low3 : Low a b l3 := r2.low low2
      have kp3 := kp2.trans r6
      have x0 : extractA (.tup [.int .i64 ((mid : Nat) : Int), .bool cf]) 0 = some (.int .i64 ((mid : Nat) : Int)) := rfl
      have x1 : extractA (.tup [.int .i64 ((mid : Nat) : Int), .bool cf]) 1 = some (.bool cf) := rfl
      have e8 : arithV .quo (.int .i64 ((b - a : Nat) : Int)) (.int .i64 8) = some (.int .i64 (((b - a) / 8 : Nat) : Int)) := by
        rw [arith_quo (by omega)]
        have : ((b - a : Nat) : Int).tdiv 8 = (((b - a) / 8 : Nat) : Int) := rfl
        rw [this, wrap64 (by omega) (by omega)]
      simp only [x0, x1, subN r3 (show mid ≤ 1000000 by omega), subN (show mid ≤ b by omega) (show b ≤ 1000000 by omega), e8, arith_lss, arith_geq, optK_mk]
      refine boolK_mk (fun _ => ?_) (fun _ => ?_)
      · refine ih (mid - a) (by omega) a mid lim l3 _ s3 rfl r1 (by omega) r3 (by omega) q6 (fun h0 i i1 i2 => low3 h0 i i1 (by omega)) fun s4 l4 w1 w2 w3 w4 => ?_
        simp only [add1 (show mid ≤ 1000000 by omega), optK_mk]
        exact ⟨_, by omega, mid + 1, b, lim, _, cf, l4, rfl, w1, pi3.trans (w2.wide c1 (by omega)), but3.left c1 c3 r3 r4 r5 w2 w3, kp3.trans w4, by omega, by omega, c3, q6, rfl⟩
      · simp only [add1 (show mid ≤ 1000000 by omega), optK_mk]
        refine ih (b - (mid + 1)) (by omega) (mid + 1) b lim l3 _ s3 rfl r1 (by omega) (by omega) (by omega) q6 (fun _ i i1 i2 => r5.2 i (by omega) i2) fun s4 l4 w1 w2 w3 w4 => ?_
        exact ⟨_, by omega, a, mid, lim, _, cf, l4, rfl, w1, pi3.trans (w2.wide (by omega) c3), but3.right c1 c3 r3 r4 r5 w2 w3, kp3.trans w4, c1, r3, by omega, q6, rfl⟩
    simp only [vc_slices_pdqsortOrdered_api_IP__j5, arith_gtr, optK_mk]
    refine boolK_mk (fun hp => ?_) (fun hp => ?_)
    rotate_left
    · rw [hp]; exact usual _
    have hp' : 0 < a := by have := of_decide_eq_true hp; omega
    simp only [sub1 (show 1 ≤ a by omega) (show a ≤ 1000000 by omega), u_ad (show a - 1 < k by omega), u_ad (show p < k by omega), q1.rd (show a - 1 < l2.length by omega), q1.rd (show p < l2.length by omega), optK_mk]
    refine less_in ?_
    simp only [unary_not, optK_mk, hp]
    by_cases hc : nAt l2 (a - 1) < nAt l2 p
    · have e1 : (!decide (nAt l2 (a - 1) < nAt l2 p)) = false := by rw [decide_eq_true hc]; rfl
      rw [e1]
      have := usual .undef
      simp only [vc_slices_pdqsortOrdered_api_IP__j6, pickV_false, pickV_true, boolK_false, optK_mk] at this ⊢
      exact this
    · have e1 : (!decide (nAt l2 (a - 1) < nAt l2 p)) = true := by rw [decide_eq_false hc]; rfl
      rw [e1]
      simp only [vc_slices_pdqsortOrdered_api_IP__j6, pickV_true, boolK_true, optK_mk]
      refine parteq_in q1 (by omega) (by omega) (by omega) (by omega) q4 q5 fun s3 l3 mid r1 r2 r3 r4 r5 r6 r7 => ?_
      have pi3 := pi2.trans (r2.wide c1 c3)
      have but3 := but2.pi c1 c3 r2
      have low3 := r2.low low2 hp'
      have ea : nAt l3 (a - 1) = nAt l2 (a - 1) := r2.out _ (by omega)
      refine ⟨_, ?_, mid, b, lim, wb, wp, l3, rfl, r1, pi3, but3.equal (x := nAt l2 p) (by omega) r4 (fun i i1 i2 => ?_) r6, kp2.trans r7, by omega, r4, c3, q6, rfl⟩
      · omega
      · have w1 := r5 i i1 i2
        have w2 := low3 i i1 (by omega)
        omega
  have j2 : ∀ t2 l2 p (z : Int) lim wp, UAt t2 db l2 → PI a b l1 l2 → KB db t t2 → a ≤ p → p < b → lim ≤ 64 → vc_slices_pdqsortOrdered_api_IP__j2 XX (uV db k) (.int .i64 (a : Int)) (.int .i64 (b : Int)) (.int .i64 ((lim : Nat) : Int)) (.bool wb) (.bool wp) (.int .i64 ((b - a : Nat) : Int)) (.int .i64 ((p : Nat) : Int)) (.int .i64 z) (PdqI s db l a0 b0) (b - a) K t2 := fun t2 l2 p z lim wp q1 q2 q3 q4 q5 q6 => by
    have hn2 := q2.len
    have low2 : Low a b l2 := (but.pi c1 c3 q2).low ((pi.trans (q2.wide c1 c3)).low hlow) c1 c3
    have s5 := j5 t2 l2 p lim wp q1 q2 q3 q4 q5 q6
    cases wb with
    | false =>
      simp only [vc_slices_pdqsortOrdered_api_IP__j2, boolK_false, vc_slices_pdqsortOrdered_api_IP__j3, pickV_false, optK_mk, vc_slices_pdqsortOrdered_api_IP__j4]
      exact s5
    | true =>
      cases wp with
      | false =>
        simp only [vc_slices_pdqsortOrdered_api_IP__j2, boolK_true, boolK_false, vc_slices_pdqsortOrdered_api_IP__j3, pickV_true, pickV_false, optK_mk, vc_slices_pdqsortOrdered_api_IP__j4]
        exact s5
      | true =>
        simp only [vc_slices_pdqsortOrdered_api_IP__j2, boolK_true, vc_slices_pdqsortOrdered_api_IP__j3, pickV_true, optK_mk, vc_slices_pdqsortOrdered_api_IP__j4, eqV_int, negB_mk, Bool.false_bne]
        refine boolK_mk (fun _ => ?_) (fun _ => s5)
        refine partial_in q1 (by omega) (by omega) (by omega) (by omega) low2 fun s3 l3 r r1 r2 r3 r4 => ?_
        cases r with
        | true => exact fin s3 l3 r1 (q2.trans r2) (r3 rfl) (q3.trans r4)
        | false => exact j5 s3 l3 p lim true r1 (q2.trans r2) (q3.trans r4) q4 q5 q6
  have j1 : ∀ t2 l2 lim, UAt t2 db l2 → PI a b l1 l2 → KB db t t2 → lim ≤ 64 → vc_slices_pdqsortOrdered_api_IP__j1 XX (uV db k) (.int .i64 (a : Int)) (.int .i64 (b : Int)) (.int .i64 ((lim : Nat) : Int)) (.bool wb) (.bool wp) (.int .i64 ((b - a : Nat) : Int)) (PdqI s db l a0 b0) (b - a) K t2 := fun t2 l2 lim q1 q2 q3 q6 => by
    have hn2 := q2.len
    refine pivot_in q1 (by omega) (by omega) hs (by omega) fun s3 p z p1 p2 r1 r2 => ?_
    have x0 : extractA (.tup [.int .i64 ((p : Nat) : Int), .int .i64 z]) 0 = some (.int .i64 ((p : Nat) : Int)) := rfl
    have x1 : extractA (.tup [.int .i64 ((p : Nat) : Int), .int .i64 z]) 1 = some (.int .i64 z) := rfl
    have k3 : KB db t s3 := q3.trans r2.keep
    simp only [x0, x1, eqV_int, negB_mk, Bool.false_bne, optK_mk]
    refine boolK_mk (fun _ => ?_) (fun _ => j2 s3 l2 p z lim wp r1 q2 k3 p1 p2 q6)
    refine rev_in r1 (by omega) (by omega) (by omega) (by omega) fun s4 l4 w1 w2 w3 => ?_
    simp only [sub1 (show 1 ≤ b by omega) (show b ≤ 1000000 by omega), subN p1 (show p ≤ 1000000 by omega), subN (show p - a ≤ b - 1 by omega) (show b - 1 ≤ 1000000 by omega), optK_mk]
    exact j2 s4 l4 _ 1 lim wp w1 (q2.trans w2) (k3.trans w3) (by omega) (by omega) q6
  simp only [eqV_int, negB_mk, Bool.false_bne, optK_mk]
  refine boolK_mk (fun _ => ?_) (fun hz => ?_)
  · exact heap_in h1 (by omega) (by omega) (by omega) (by omega) fun s2 l2 q1 q2 q3 q4 => fin s2 l2 q1 q2 q3 q4
  have hz : lim ≠ 0 := fun e => by rw [e] at hz; cases hz
  simp only [unary_not, optK_mk]
  refine boolK_mk (fun _ => ?_) (fun _ => j1 t l1 lim h1 (.refl _ _ _) (.refl _ _) c4)
  refine break_in h1 (by omega) hl hs (by omega) fun s2 l2 q1 q2 q3 => ?_
  simp only [sub1 (show 1 ≤ lim by omega) (show lim ≤ 1000000 by omega), optK_mk]
  exact j1 s2 l2 _ q1 q2 q3 (by omega)
theorem sortU_in {K : AVal → Heap → Prop} (h : UAt s db l) (hl : l.length ≤ 255) (hK : ∀ s' l', UAt s' db l' → l'.Perm l → Asc 0 l'.length l' → KB db s s' → K (.tup []) s') : wpCall Tryd.prog XX 37 [uV db l.length] K s := by
  refine vc_slices_Sort___api_IP_api_IP__in ?_
  have e1 : lenOfA (uV db l.length) = some l.length := rfl
  simp only [vc_slices_Sort___api_IP_api_IP_, e1, cvn_u64 (show l.length < 9223372036854775808 by omega), optK_mk]
  refine len_in (by omega) fun t t1 _ _ => ?_
  refine pdq_in l.length hl l.length 0 l.length t l _ s (by omega) h rfl (by omega) (Nat.le_refl _) (by omega) (fun h0 => absurd h0 (by omega)) fun s2 l2 q1 q2 q3 q4 => ?_
  exact hK s2 l2 q1 q2.perm (by rw [q2.len]; exact q3) q4
end Go.AM.SG
