/- Part C of a calculus over a small memory that is proved to answer as the program does, and of its use for the functions that the law reaches: see the last part. -/
import Derived.Test.YtmmebmhhonbahaaV
namespace Go.AM
open Go Go.Proofs
variable {K : AVal → Heap → Prop} {s : Heap}
/-! ### words of bits -/
theorem wu64 (n : Int) : wrapK .u64 n = n % 18446744073709551616 := by
  simp only [wrapK]; rw [wrapM_eq _ _ _ (by omega) (by omega)]; split <;> omega
theorem wu64n {n : Nat} (h : n < 18446744073709551616) : wrapK .u64 (n : Int) = n := by rw [wu64, Int.emod_eq_of_lt (by omega) (by omega)]
theorem pow_lt64 {j : Nat} (hj : j < 64) : 2 ^ j < 18446744073709551616 := by
  have : 2 ^ j < 2 ^ 64 := Nat.pow_lt_pow_right (by omega) hj
  exact this
theorem div64 {i : Nat} (hi : i < 128) : arithV .quo (.int .i64 (i : Int)) (.int .i64 64) = some (.int .i64 ((i / 64 : Nat) : Int)) := by
  rw [arith_quo (by omega)]
  have : (i : Int).tdiv 64 = ((i / 64 : Nat) : Int) := rfl
  rw [this, wrap64 (by omega) (by omega)]
theorem mod64 {i : Nat} : arithV .rem (.int .i64 (i : Int)) (.int .i64 64) = some (.int .i64 ((i % 64 : Nat) : Int)) := by
  rw [arith_rem (by omega)]; rfl
theorem shr64 {w m : Nat} (hm : m ≤ 64) : shiftV .shr (.int .u64 (w : Int)) (.int .i64 (m : Int)) = some (.int .u64 ((w / 2 ^ m : Nat) : Int)) := by
  show frc ((w : Int).fdiv ((2 ^ (min m (IntKind.bits .u64)) : Nat) : Int)) (fun n => some (AVal.int .u64 n)) = _
  rw [frc_eq, Nat.min_eq_left (show m ≤ IntKind.bits .u64 from hm), Int.fdiv_eq_ediv_of_nonneg _ (Int.natCast_nonneg _), ← Int.natCast_ediv]
theorem shl64 {m : Nat} (hm : m < 64) : shiftV .shl (.int .u64 1) (.int .i64 (m : Int)) = some (.int .u64 ((2 ^ m : Nat) : Int)) := by
  show frc (wrapK .u64 (1 * ((2 ^ (min m (IntKind.bits .u64)) : Nat) : Int))) (fun n => some (AVal.int .u64 n)) = _
  rw [frc_eq, Nat.min_eq_left (show m ≤ IntKind.bits .u64 from Nat.le_of_lt hm), Int.one_mul, wu64n (pow_lt64 hm)]
theorem bv_bit {w : Nat} (i : Nat) : (BitVec.ofInt 64 (w : Int)).getLsbD i = (decide (i < 64) && w.testBit i) := by
  rw [BitVec.ofInt_natCast, BitVec.getLsbD_ofNat]
theorem tb_hi {w j : Nat} (hw : w < 18446744073709551616) (hj : 64 ≤ j) : w.testBit j = false := Nat.testBit_lt_two_pow (Nat.lt_of_lt_of_le hw (Nat.pow_le_pow_right (n := 2) (by omega) hj))
theorem and1_64 {w : Nat} (hw : w < 18446744073709551616) : arithV .and (.int .u64 (w : Int)) (.int .u64 1) = some (.int .u64 ((w % 2 : Nat) : Int)) := by
  have e : (BitVec.ofInt (IntKind.bits .u64) (w : Int) &&& BitVec.ofInt (IntKind.bits .u64) 1).toNat = w % 2 := by
    show (BitVec.ofInt 64 (w : Int) &&& BitVec.ofInt 64 ((1 : Nat) : Int)).toNat = w % 2
    rw [BitVec.ofInt_natCast, BitVec.ofInt_natCast, BitVec.toNat_and, BitVec.toNat_ofNat, BitVec.toNat_ofNat, Nat.mod_eq_of_lt hw]
    exact Nat.and_one_is_mod w
  have : w % 2 < 2 := Nat.mod_lt _ (by omega)
  simp only [arithV, arith, frc_eq, e, wu64n (show w % 2 < 18446744073709551616 by omega)]
  rfl
theorem or64 {w m : Nat} (hw : w < 18446744073709551616) (hm : m < 64) : ∃ v : Nat, arithV .or (.int .u64 (w : Int)) (.int .u64 ((2 ^ m : Nat) : Int)) = some (.int .u64 (v : Int)) ∧ v < 18446744073709551616 ∧ ∀ j, v.testBit j = if j = m then true else w.testBit j := by
  refine ⟨(BitVec.ofInt 64 (w : Int) ||| BitVec.ofInt 64 ((2 ^ m : Nat) : Int)).toNat, ?_, BitVec.isLt _, fun j => ?_⟩
  · have := (BitVec.ofInt 64 (w : Int) ||| BitVec.ofInt 64 ((2 ^ m : Nat) : Int)).isLt
    have e := wu64n this
    simp only [arithV, arith, frc_eq]
    rw [show IntKind.bits .u64 = 64 from rfl, e]
    rfl
  · rw [BitVec.testBit_toNat, BitVec.getLsbD_or, bv_bit, bv_bit, Nat.testBit_two_pow]
    by_cases e : j = m
    · subst e; simp [hm]
    · by_cases h : j < 64
      · simp [e, h, Ne.symm e]
      · simp [e, h, tb_hi hw (show 64 ≤ j by omega)]
theorem andNot64 {w m : Nat} (hw : w < 18446744073709551616) (hm : m < 64) : ∃ v : Nat, arithV .andNot (.int .u64 (w : Int)) (.int .u64 ((2 ^ m : Nat) : Int)) = some (.int .u64 (v : Int)) ∧ v < 18446744073709551616 ∧ ∀ j, v.testBit j = if j = m then false else w.testBit j := by
  refine ⟨(BitVec.ofInt 64 (w : Int) &&& ~~~(BitVec.ofInt 64 ((2 ^ m : Nat) : Int))).toNat, ?_, BitVec.isLt _, fun j => ?_⟩
  · have := (BitVec.ofInt 64 (w : Int) &&& ~~~(BitVec.ofInt 64 ((2 ^ m : Nat) : Int))).isLt
    have e := wu64n this
    simp only [arithV, arith, frc_eq]
    rw [show IntKind.bits .u64 = 64 from rfl, e]
    rfl
  · rw [BitVec.testBit_toNat, BitVec.getLsbD_and, BitVec.getLsbD_not, bv_bit, bv_bit, Nat.testBit_two_pow]
    by_cases e : j = m
    · subst e; simp [hm]
    · by_cases h : j < 64
      · simp [e, h, Ne.symm e]
      · simp [e, h, tb_hi hw (show 64 ≤ j by omega)]
theorem iA2 {g o i : Nat} (hi : i < 128) : iaddrA 2 1 (.ptr g o) (.int .i64 ((i / 64 : Nat) : Int)) = some (.ptr g (o + i / 64)) := by
  have : Nat.blt (i / 64) 2 = true := by rw [Nat.blt_eq]; omega
  generalize i / 64 = k at *
  simp [iaddrA, this]
theorem has_in {g o i w : Nat} (hi : i < 128) (hr : rd1 s (.ptr g (o + i / 64)) = some (.int .u64 (w : Int))) (hw : w < 18446744073709551616) (hK : K (.bool (w.testBit (i % 64))) s) : wpCall Try.prog XX 54 [.ptr g o, .int .i64 (i : Int)] K s := by
  refine vc_topo_bits_has_in ?_
  have hd : w / 2 ^ (i % 64) < 18446744073709551616 := Nat.lt_of_le_of_lt (Nat.div_le_self _ _) hw
  have e : (!(((w / 2 ^ (i % 64) % 2 : Nat) : Int) == 0)) = w.testBit (i % 64) := by
    rw [Nat.testBit_eq_decide_div_mod_eq]
    have : w / 2 ^ (i % 64) % 2 < 2 := Nat.mod_lt _ (by omega)
    rcases (show w / 2 ^ (i % 64) % 2 = 0 ∨ w / 2 ^ (i % 64) % 2 = 1 by omega) with h | h <;> rw [h] <;> rfl
  simp only [vc_topo_bits_has, div64 hi, mod64, nilCheck_ptr, iA2 hi, hr, shr64 (show i % 64 ≤ 64 by omega), and1_64 hd, eqV_int, negB_mk, Bool.true_bne, e, optK_mk]
  exact hK
theorem put_in {g o i w : Nat} {e : TypeId} {cs : List AVal} {b : Bool} (hi : i < 128) (hg : s g = some (false, .cells e cs)) (hc : cs[o + i / 64]? = some (.int .u64 (w : Int))) (hw : w < 18446744073709551616)
    (hK : ∀ (s' : Heap) (v : Nat), s' g = some (false, .cells e (cs.set (o + i / 64) (.int .u64 (v : Int)))) → v < 18446744073709551616 → (∀ j, v.testBit j = if j = i % 64 then b else w.testBit j) → Upto g s s' → K (.tup []) s') : wpCall Try.prog XX 44 [.ptr g o, .int .i64 (i : Int), .bool b] K s := by
  refine vc_topo_bits_put_in ?_
  have hlt : o + i / 64 < cs.length := (List.getElem?_eq_some_iff.1 hc).1
  have hr : rd1 s (.ptr g (o + i / 64)) = some (.int .u64 (w : Int)) := by rw [rd1_mk hg]; exact hc
  cases b with
  | true =>
    obtain ⟨v, h1, h2, h3⟩ := or64 hw (show i % 64 < 64 by omega)
    simp only [vc_topo_bits_put, boolK_true, div64 hi, mod64, nilCheck_ptr, iA2 hi, hr, shl64 (show i % 64 < 64 by omega), h1, optK_mk]
    exact wr1_step hg hlt rfl fun s' h4 u4 => hK s' v h4 h2 h3 u4
  | false =>
    obtain ⟨v, h1, h2, h3⟩ := andNot64 hw (show i % 64 < 64 by omega)
    simp only [vc_topo_bits_put, boolK_false, div64 hi, mod64, nilCheck_ptr, iA2 hi, hr, shl64 (show i % 64 < 64 by omega), h1, optK_mk]
    exact wr1_step hg hlt rfl fun s' h4 u4 => hK s' v h4 h2 h3 u4
end Go.AM
namespace Go.AM
open Go Go.Proofs
variable {K : AVal → Heap → Prop} {s s' : Heap} {t : Bool} {g : Nat} {lv : AVal} {N : Nat} {lu nu : Nat → Bool}
theorem Sub.upto {s s' s'' : Heap} {b : Nat} (h : Sub s s') (u : Upto b s' s'') (hb : s b = none) : Sub s s'' := fun i e hi => by rw [u i (ne_of_some hb hi)]; exact h i e hi
/-! ### graphs -/
abbrev Lk := Int × Int × Int
def lkR (l : Lk) : List AVal := [.int .i64 l.1, .int .i64 l.2.1, .int .i64 l.2.2]
def Wd (a b : Nat) (f : Nat → Bool) : Prop := a < 18446744073709551616 ∧ b < 18446744073709551616 ∧ ∀ j, j < 64 → a.testBit j = f j ∧ b.testBit j = f (64 + j)
abbrev gc (N : Nat) (lv : AVal) (a b c d : Nat) : List AVal := [.int .i64 N, lv, .int .u64 (a : Int), .int .u64 (b : Int), .int .u64 (c : Int), .int .u64 (d : Int)]
/-- links that a graph may have -/
structure LOk (N : Nat) (L : List Lk) : Prop where
  nn : 1 ≤ N ∧ N ≤ 32
  ll : L.length ≤ 128
  ok : ∀ x ∈ L, (0 ≤ x.1 ∧ x.1 < N) ∧ (0 ≤ x.2.1 ∧ x.2.1 < N) ∧ x.1 ≠ x.2.1 ∧ 1 ≤ x.2.2 ∧ x.2.2 ≤ 1000
structure GRd (t : Bool) (s : Heap) (g : Nat) (lv : AVal) (N : Nat) (L : List Lk) (lu nu : Nat → Bool) : Prop where
  cell : ∃ a b c d : Nat, s g = some (t, .cells 76 (gc N lv a b c d)) ∧ Wd a b lu ∧ Wd c d nu
  ls : SlR 3 s lv (L.map lkR)
  lok : LOk N L
variable {L : List Lk}
theorem GRd.sub (h : GRd t s g lv N L lu nu) (hs : Sub s s') : GRd t s' g lv N L lu nu := by
  obtain ⟨⟨a, b, c, d, h1, h2⟩, h3, h4⟩ := h
  exact ⟨⟨a, b, c, d, hs _ _ h1, h2⟩, h3.sub hs, h4⟩
theorem GRd.frz (h : GRd t s g lv N L lu nu) : GRd true (frz s) g lv N L lu nu := by
  obtain ⟨⟨a, b, c, d, h1, h2⟩, h3, h4⟩ := h
  exact ⟨⟨a, b, c, d, frz_some h1, h2⟩, h3.frz, h4⟩
theorem GRd.lenL (h : GRd t s g lv N L lu nu) : lenOfA lv = some L.length := by rw [h.ls.len, List.length_map]
theorem Wd.bit {a b i : Nat} {f : Nat → Bool} (h : Wd a b f) (hi : i < 128) : ∃ w, (i / 64 = 0 ∧ w = a ∨ i / 64 = 1 ∧ w = b) ∧ w < 18446744073709551616 ∧ w.testBit (i % 64) = f i := by
  rcases (show i / 64 = 0 ∨ i / 64 = 1 by omega) with e | e
  · refine ⟨a, .inl ⟨e, rfl⟩, h.1, ?_⟩
    rw [(h.2.2 (i % 64) (by omega)).1, show i % 64 = i by omega]
  · refine ⟨b, .inr ⟨e, rfl⟩, h.2.1, ?_⟩
    rw [(h.2.2 (i % 64) (by omega)).2, show 64 + i % 64 = i by omega]
theorem GRd.lbit (h : GRd t s g lv N L lu nu) {i : Nat} (hi : i < 128) : ∃ w : Nat, rd1 s (.ptr g (2 + i / 64)) = some (.int .u64 (w : Int)) ∧ w < 18446744073709551616 ∧ w.testBit (i % 64) = lu i := by
  obtain ⟨a, b, c, d, h1, h2, h3⟩ := h.cell
  obtain ⟨w, hw, h4, h5⟩ := h2.bit hi
  refine ⟨w, ?_, h4, h5⟩
  rw [rd1_mk h1]
  rcases hw with ⟨e, rfl⟩ | ⟨e, rfl⟩ <;> rw [e] <;> rfl
theorem GRd.nbit (h : GRd t s g lv N L lu nu) {i : Nat} (hi : i < 128) : ∃ w : Nat, rd1 s (.ptr g (4 + i / 64)) = some (.int .u64 (w : Int)) ∧ w < 18446744073709551616 ∧ w.testBit (i % 64) = nu i := by
  obtain ⟨a, b, c, d, h1, h2, h3⟩ := h.cell
  obtain ⟨w, hw, h4, h5⟩ := h3.bit hi
  refine ⟨w, ?_, h4, h5⟩
  rw [rd1_mk h1]
  rcases hw with ⟨e, rfl⟩ | ⟨e, rfl⟩ <;> rw [e] <;> rfl
theorem GRd.r0 (h : GRd t s g lv N L lu nu) : rd1 s (.ptr g 0) = some (.int .i64 N) := by
  obtain ⟨a, b, c, d, h1, _⟩ := h.cell
  rw [rd1_mk h1]; rfl
theorem GRd.r1 (h : GRd t s g lv N L lu nu) : rd1 s (.ptr g 1) = some lv := by
  obtain ⟨a, b, c, d, h1, _⟩ := h.cell
  rw [rd1_mk h1]; rfl
theorem valid_in (h : GRd t s g lv N L lu nu) (hK : K (.bool true) s) : wpCall Try.prog XX 53 [.ptr g 0] K s := by
  refine vc_topo_Graph_valid_in ?_
  have hp : decide ((0 : Int) < (N : Int)) = true := by have := h.lok.nn; rw [decide_eq_true_eq]; omega
  simp only [vc_topo_Graph_valid, eqV_ptr, negB_mk, Bool.bne_false, optK_mk, boolK_true, nilCheck_ptr, addOff_ptr, Nat.zero_add, h.r0, arith_gtr, hp, vc_topo_Graph_valid_j0, pickV_true]
  exact hK
/-! ### what the functions answer -/
def upB (L : List Lk) (lu nu : Nat → Bool) (i : Nat) : Bool := match L[i]? with
  | some x => lu i && (nu x.1.toNat && nu x.2.1.toNat)
  | none => false
def upI (L : List Lk) (lu nu : Nat → Bool) (i : Int) : Bool := decide (0 ≤ i) && upB L lu nu i.toNat
def aliveI (N : Nat) (nu : Nat → Bool) (n : Int) : Bool := decide (0 ≤ n ∧ n < N) && nu n.toNat
theorem upB_get {i : Nat} (hi : i < L.length) : upB L lu nu i = (lu i && (nu L[i].1.toNat && nu L[i].2.1.toNat)) := by
  unfold upB; rw [List.getElem?_eq_getElem hi]
theorem row_at {v : AVal} {M : List Lk} (h : SlR 3 s v (M.map lkR)) {i : Nat} (hi : i < M.length) : ∃ b o, iaddrS 3 v (.int .i64 (i : Int)) = some (.ptr b o) ∧ rdN s 3 (.ptr b o) = some (lkR M[i]) ∧ ∀ j, j < 3 → rd1 s (.ptr b (o + j)) = (lkR M[i])[j]? := h.get (i := i) (r := lkR M[i]) (by simp [hi])
theorem nhas_in (h : GRd t s g lv N L lu nu) {x : Int} (hx : 0 ≤ x ∧ x < N) (hK : K (.bool (nu x.toNat)) s) : wpCall Try.prog XX 54 [.ptr g 4, .int .i64 x] K s := by
  have hn := h.lok.nn
  obtain ⟨n, rfl⟩ : ∃ n : Nat, x = n := ⟨x.toNat, by omega⟩
  obtain ⟨w, h1, h2, h3⟩ := h.nbit (i := n) (by omega)
  rw [Int.toNat_natCast] at hK
  exact has_in (by omega) h1 h2 (by rw [h3]; exact hK)
theorem Up_in {i : Int} (h : GRd t s g lv N L lu nu) (hK : ∀ s', Sub s s' → K (.bool (upI L lu nu i)) s') : wpCall Try.prog XX 25 [.ptr g 0, .int .i64 i] K s := by
  refine vc_topo_Graph_Up_in (valid_in h ?_)
  have hll := h.lok.ll
  simp only [unary_not, Bool.not_true, optK_mk, boolK_false, arith_lss, vc_topo_Graph_Up_j0]
  by_cases hn : i < 0
  · have e : upI L lu nu i = false := by unfold upI; rw [decide_eq_false (by omega)]; rfl
    simp only [decide_eq_true hn, pickV_true, optK_mk, boolK_true, vc_topo_Graph_Up_j1]
    rw [e] at hK
    exact hK s (.refl s)
  obtain ⟨k, rfl⟩ : ∃ k : Nat, i = k := ⟨i.toNat, by omega⟩
  have e : upI L lu nu (k : Int) = upB L lu nu k := by unfold upI; rw [decide_eq_true (by omega), Int.toNat_natCast]; rfl
  rw [e] at hK
  simp only [decide_eq_false hn, pickV_false, optK_mk, boolK_false, nilCheck_ptr, addOff_ptr, Nat.zero_add, h.r1, h.lenL, arith_geq, vc_topo_Graph_Up_j1]
  by_cases hk : (L.length : Int) ≤ (k : Int)
  · have e2 : upB L lu nu k = false := by unfold upB; rw [List.getElem?_eq_none (by omega)]
    rw [e2] at hK
    simp only [decide_eq_true hk, boolK_true]
    exact hK s (.refl s)
  have hk' : k < L.length := by omega
  obtain ⟨b, o, g1, g2, _⟩ := row_at h.ls hk'
  obtain ⟨hA, hB, _⟩ := h.lok.ok _ (List.getElem_mem hk')
  simp only [decide_eq_false hk, boolK_false, g1, g2, optK_mk]
  refine new_step fun c s1 hc h1 u1 => wrAgg_step h1 rfl rfl rfl fun s2 h2 u2 => ?_
  have sub2 : Sub s s2 := (u1.sub hc).upto u2 hc
  have h2 : s2 c = some (false, .cells 26 (lkR L[k])) := h2
  have z2 := h.sub sub2
  obtain ⟨w, l1, l2, l3⟩ := z2.lbit (i := k) (by omega)
  refine has_in (by omega) l1 l2 ?_
  rw [l3]
  rw [upB_get hk'] at hK
  have hK := hK s2 sub2
  have e0 : (lkR L[k])[0]? = some (.int .i64 L[k].1) := rfl
  have e1 : (lkR L[k])[1]? = some (.int .i64 L[k].2.1) := rfl
  cases hlu : lu k with
  | false =>
    rw [hlu] at hK
    simp only [boolK_false, vc_topo_Graph_Up_j2, vc_topo_Graph_Up_j3, pickV_false, optK_mk]
    exact hK
  | true =>
    rw [hlu] at hK
    simp only [boolK_true, nilCheck_ptr, addOff_ptr, Nat.zero_add, rd1_mk h2, e0, e1, optK_mk]
    refine nhas_in z2 hA ?_
    simp only [vc_topo_Graph_Up_j2, pickV_true, optK_mk]
    cases hna : nu L[k].1.toNat with
    | false =>
      rw [hna] at hK
      simp only [boolK_false, vc_topo_Graph_Up_j3, pickV_false, optK_mk]
      exact hK
    | true =>
      rw [hna] at hK
      simp only [boolK_true, nilCheck_ptr, addOff_ptr, Nat.zero_add, rd1_mk h2, e1, optK_mk]
      refine nhas_in z2 hB ?_
      simp only [vc_topo_Graph_Up_j3, pickV_true, optK_mk]
      exact hK
theorem Alive_in {n : Int} (h : GRd t s g lv N L lu nu) (hK : K (.bool (aliveI N nu n)) s) : wpCall Try.prog XX 26 [.ptr g 0, .int .i64 n] K s := by
  refine vc_topo_Graph_Alive_in (valid_in h ?_)
  simp only [boolK_true, arith_geq, optK_mk, vc_topo_Graph_Alive_j0, pickV_true]
  by_cases h0 : 0 ≤ n
  · simp only [decide_eq_true h0, boolK_true, nilCheck_ptr, addOff_ptr, Nat.zero_add, h.r0, arith_lss, optK_mk, vc_topo_Graph_Alive_j1, pickV_true]
    by_cases h1 : n < (N : Int)
    · have e : aliveI N nu n = nu n.toNat := by unfold aliveI; rw [decide_eq_true ⟨h0, h1⟩]; rfl
      rw [e] at hK
      simp only [decide_eq_true h1, boolK_true, nilCheck_ptr, addOff_ptr, Nat.zero_add, optK_mk]
      refine nhas_in h ⟨h0, h1⟩ ?_
      simp only [vc_topo_Graph_Alive_j2, pickV_true, optK_mk]
      exact hK
    · have e : aliveI N nu n = false := by unfold aliveI; rw [decide_eq_false (by omega)]; rfl
      rw [e] at hK
      simp only [decide_eq_false h1, boolK_false, vc_topo_Graph_Alive_j2, pickV_false, optK_mk]
      exact hK
  · have e : aliveI N nu n = false := by unfold aliveI; rw [decide_eq_false (by omega)]; rfl
    rw [e] at hK
    simp only [decide_eq_false h0, boolK_false, vc_topo_Graph_Alive_j1, pickV_false, vc_topo_Graph_Alive_j2, optK_mk]
    exact hK
theorem Nodes_in (h : GRd t s g lv N L lu nu) (hK : K (.int .i64 N) s) : wpCall Try.prog XX 38 [.ptr g 0] K s := by
  refine vc_topo_Graph_Nodes_in (valid_in h ?_)
  simp only [unary_not, Bool.not_true, optK_mk, boolK_false, nilCheck_ptr, addOff_ptr, Nat.zero_add, h.r0]
  exact hK
theorem CloneL_in {v : AVal} {M : List Lk} (h : SlR 3 s v (M.map lkR)) (hl : M.length ≤ 100000) (hK : ∀ v' s', Sub s s' → SlR 3 s' v' (M.map lkR) → (∀ b o n c, v' = .slc b o n c 3 → M ≠ [] → s b = none) → K v' s') : wpCall Try.prog XX 43 [v] K s := by
  refine vc_slices_Clone___api_Link_api_Link__in ?_
  have cases0 : (v = .nilslc ∧ M = []) ∨ ∃ b o c, v = .slc b o M.length c 3 := by
    rcases h.2 with ⟨a, b⟩ | ⟨b, o, c, a, _⟩
    · exact .inl ⟨a, by simpa using b⟩
    · exact .inr ⟨b, o, c, by simpa using a⟩
  rcases cases0 with ⟨rfl, rfl⟩ | ⟨b, o, c, rfl⟩
  · simp only [vc_slices_Clone___api_Link_api_Link_, eqV_nilslc, negB_mk, Bool.false_bne, optK_mk, boolK_true]
    exact hK _ _ (.refl s) h fun _ _ _ _ _ h => absurd rfl h
  · simp only [vc_slices_Clone___api_Link_api_Link_, eqV_slc, negB_mk, Bool.false_bne, optK_mk, boolK_false]
    refine optK_of (a := []) rfl ⟨rfl, new_step fun d s1 hd h1 u1 => ?_⟩
    refine app_copyR (h.sub (u1.sub hd)) (by rw [List.length_map]; omega) fun v' s2 sub2 sl2 f2 => hK _ _ ((u1.sub hd).trans sub2) sl2 fun b o n c e hne => ?_
    have h3 := f2 b o n c e (by simpa using hne)
    cases q : s b with
    | none => rfl
    | some x => rw [u1.sub hd b x q] at h3; cases h3
theorem Links_in (h : GRd t s g lv N L lu nu) (hK : ∀ v' s', Sub s s' → SlR 3 s' v' (L.map lkR) → (∀ b o n c, v' = .slc b o n c 3 → L ≠ [] → s b = none) → K v' s') : wpCall Try.prog XX 39 [.ptr g 0] K s := by
  have hll := h.lok.ll
  refine vc_topo_Graph_Links_in (valid_in h ?_)
  simp only [unary_not, Bool.not_true, optK_mk, boolK_false, nilCheck_ptr, addOff_ptr, Nat.zero_add, h.r1]
  exact CloneL_in h.ls (by omega) hK
end Go.AM
namespace Go.AM
open Go Go.Proofs
variable {K : AVal → Heap → Prop} {s s' : Heap} {t : Bool} {g : Nat} {lv : AVal} {N : Nat} {lu nu : Nat → Bool} {L : List Lk}
/-! ### graphs are changed -/
def upd1 (f : Nat → Bool) (i : Nat) (x : Bool) : Nat → Bool := fun j => if j = i then x else f j
theorem Wd.put {a b i : Nat} {f : Nat → Bool} {x : Bool} (h : Wd a b f) (hi : i < 128) : (i / 64 = 0 → ∀ v : Nat, v < 18446744073709551616 → (∀ j, v.testBit j = if j = i % 64 then x else a.testBit j) → Wd v b (upd1 f i x)) ∧
    (i / 64 = 1 → ∀ v : Nat, v < 18446744073709551616 → (∀ j, v.testBit j = if j = i % 64 then x else b.testBit j) → Wd a v (upd1 f i x)) := by
  obtain ⟨h1, h2, h3⟩ := h
  refine ⟨fun e v hv hb => ⟨hv, h2, fun j hj => ⟨?_, ?_⟩⟩, fun e v hv hb => ⟨h1, hv, fun j hj => ⟨?_, ?_⟩⟩⟩
  · rw [hb, (h3 j hj).1]
    unfold upd1
    by_cases q : j = i
    · rw [if_pos (by omega), if_pos q]
    · rw [if_neg (by omega), if_neg q]
  · rw [(h3 j hj).2]
    unfold upd1
    rw [if_neg (by omega)]
  · rw [(h3 j hj).1]
    unfold upd1
    rw [if_neg (by omega)]
  · rw [hb, (h3 j hj).2]
    unfold upd1
    by_cases q : 64 + j = i
    · rw [if_pos (by omega), if_pos q]
    · rw [if_neg (by omega), if_neg q]
theorem SlR.upto {es : Nat} {v : AVal} {rows : List (List AVal)} {s s' : Heap} {b : Nat} (h : SlR es s v rows) (u : Upto b s s') (hn : ∀ c o n k, v = .slc c o n k es → rows ≠ [] → c ≠ b) : SlR es s' v rows :=
  h.keep (fp := fun c => c = b) (u.keep rfl) fun c o n k e hne => hn c o n k e hne
/-- the links lie apart from the graph -/
def Ap (g : Nat) (lv : AVal) (L : List Lk) : Prop := ∀ b o n c, lv = .slc b o n c 3 → L ≠ [] → b ≠ g
theorem lput_in {i : Nat} {x : Bool} (h : GRd false s g lv N L lu nu) (ha : Ap g lv L) (hi : i < 128) (hK : ∀ s', GRd false s' g lv N L (upd1 lu i x) nu → Upto g s s' → K (.tup []) s') : wpCall Try.prog XX 44 [.ptr g 2, .int .i64 (i : Int), .bool x] K s := by
  obtain ⟨⟨a, b, c, d, h1, h2, h3⟩, h4, h5⟩ := h
  have hp := h2.put (x := x) hi
  rcases (show i / 64 = 0 ∨ i / 64 = 1 by omega) with e | e
  · refine put_in (w := a) hi h1 (by rw [e]; rfl) h2.1 fun s' v g1 g2 g3 u => hK s' ⟨⟨v, b, c, d, ?_, hp.1 e v g2 g3, h3⟩, h4.upto u fun c o n k e hne => ha c o n k e (by simpa using hne), h5⟩ u
    rw [g1, e]; rfl
  · refine put_in (w := b) hi h1 (by rw [e]; rfl) h2.2.1 fun s' v g1 g2 g3 u => hK s' ⟨⟨a, v, c, d, ?_, hp.2 e v g2 g3, h3⟩, h4.upto u fun c o n k e hne => ha c o n k e (by simpa using hne), h5⟩ u
    rw [g1, e]; rfl
theorem nput_in {i : Nat} {x : Bool} (h : GRd false s g lv N L lu nu) (ha : Ap g lv L) (hi : i < 128) (hK : ∀ s', GRd false s' g lv N L lu (upd1 nu i x) → Upto g s s' → K (.tup []) s') : wpCall Try.prog XX 44 [.ptr g 4, .int .i64 (i : Int), .bool x] K s := by
  obtain ⟨⟨a, b, c, d, h1, h2, h3⟩, h4, h5⟩ := h
  have hp := h3.put (x := x) hi
  rcases (show i / 64 = 0 ∨ i / 64 = 1 by omega) with e | e
  · refine put_in (w := c) hi h1 (by rw [e]; rfl) h3.1 fun s' v g1 g2 g3 u => hK s' ⟨⟨a, b, v, d, ?_, h2, hp.1 e v g2 g3⟩, h4.upto u fun c o n k e hne => ha c o n k e (by simpa using hne), h5⟩ u
    rw [g1, e]; rfl
  · refine put_in (w := d) hi h1 (by rw [e]; rfl) h3.2.1 fun s' v g1 g2 g3 u => hK s' ⟨⟨a, b, c, v, ?_, h2, hp.2 e v g2 g3⟩, h4.upto u fun c o n k e hne => ha c o n k e (by simpa using hne), h5⟩ u
    rw [g1, e]; rfl
theorem SetLink_in {i : Int} {x : Bool} (h : GRd false s g lv N L lu nu) (ha : Ap g lv L) (hE : ¬ (0 ≤ i ∧ i < L.length) → K (.int .i64 2) s)
    (hK : ∀ s', 0 ≤ i ∧ i < L.length → GRd false s' g lv N L (upd1 lu i.toNat x) nu → Upto g s s' → K (.int .i64 0) s') : wpCall Try.prog XX 19 [.ptr g 0, .int .i64 i, .bool x] K s := by
  refine vc_topo_Graph_SetLink_in (valid_in h ?_)
  have hll := h.lok.ll
  simp only [unary_not, Bool.not_true, optK_mk, boolK_false, arith_lss, vc_topo_Graph_SetLink_j0]
  by_cases hn : i < 0
  · simp only [decide_eq_true hn, boolK_true, pickV_true, optK_mk]
    exact hE (by omega)
  obtain ⟨k, rfl⟩ : ∃ k : Nat, i = k := ⟨i.toNat, by omega⟩
  simp only [decide_eq_false hn, boolK_false, nilCheck_ptr, addOff_ptr, Nat.zero_add, h.r1, h.lenL, arith_geq, pickV_false, optK_mk]
  by_cases hk : (L.length : Int) ≤ (k : Int)
  · simp only [decide_eq_true hk, boolK_true]
    exact hE (by omega)
  · simp only [decide_eq_false hk, boolK_false]
    refine lput_in h ha (by omega) fun s' h' u => hK s' (by omega) ?_ u
    rw [Int.toNat_natCast]; exact h'
theorem SetNode_in {i : Int} {x : Bool} (h : GRd false s g lv N L lu nu) (ha : Ap g lv L) (hE : ¬ (0 ≤ i ∧ i < N) → K (.int .i64 2) s)
    (hK : ∀ s', 0 ≤ i ∧ i < N → GRd false s' g lv N L lu (upd1 nu i.toNat x) → Upto g s s' → K (.int .i64 0) s') : wpCall Try.prog XX 22 [.ptr g 0, .int .i64 i, .bool x] K s := by
  refine vc_topo_Graph_SetNode_in (valid_in h ?_)
  have hnn := h.lok.nn
  simp only [unary_not, Bool.not_true, optK_mk, boolK_false, arith_lss, vc_topo_Graph_SetNode_j0]
  by_cases hn : i < 0
  · simp only [decide_eq_true hn, boolK_true, pickV_true, optK_mk]
    exact hE (by omega)
  obtain ⟨k, rfl⟩ : ∃ k : Nat, i = k := ⟨i.toNat, by omega⟩
  simp only [decide_eq_false hn, boolK_false, nilCheck_ptr, addOff_ptr, Nat.zero_add, h.r0, arith_geq, pickV_false, optK_mk]
  by_cases hk : (N : Int) ≤ (k : Int)
  · simp only [decide_eq_true hk, boolK_true]
    exact hE (by omega)
  · simp only [decide_eq_false hk, boolK_false]
    refine nput_in h ha (by omega) fun s' h' u => hK s' (by omega) ?_ u
    rw [Int.toNat_natCast]; exact h'
/-! ### flags and edges -/
abbrev bls (l : List Bool) : List AVal := l.map AVal.bool
def flagsL (L : List Lk) (lu nu : Nat → Bool) : List Bool := (List.range L.length).map (upB L lu nu)
theorem Flags_in (h : GRd t s g lv N L lu nu) (hK : ∀ c s', Sub s s' → s c = none → s' c = some (false, .cells 4 (bls (flagsL L lu nu))) → K (.slc c 0 L.length (some L.length) 1) s') : wpCall Try.prog XX 21 [.ptr g 0] K s := by
  refine vc_topo_Graph_Flags_in (valid_in h ?_)
  have hll := h.lok.ll
  simp only [unary_not, Bool.not_true, optK_mk, boolK_false, nilCheck_ptr, addOff_ptr, Nat.zero_add, h.r1, h.lenL, nat?_mk]
  refine ⟨⟨Nat.le_refl _, by omega⟩, new_step fun c s1 hc h1 u1 => ?_⟩
  have sub1 := u1.sub hc
  have h1 : s1 c = some (false, .cells 4 (bls ((List.range 0).map (upB L lu nu) ++ List.replicate (L.length - 0) false))) := by rw [h1, repl_one]; simp
  simp only [lenOf_slc, optK_mk]
  refine ⟨fun ys s2 n => ∃ i : Nat, ys = [.int .i64 i] ∧ i ≤ L.length ∧ n = L.length - i ∧ Sub s s2 ∧ s2 c = some (false, .cells 4 (bls ((List.range i).map (upB L lu nu) ++ List.replicate (L.length - i) false))), ⟨_, 0, rfl, by omega, rfl, sub1, h1⟩, ?_⟩
  rintro f s2 n ⟨i, hy, hi, rfl, sub2, h2⟩
  simp only [List.cons.injEq, and_true] at hy
  rw [hy]
  simp only [vc_topo_Graph_Flags_l0, arith_lss, optK_mk]
  refine boolK_mk (fun hlt => ?_) (fun hge => ?_)
  · have hlt : i < L.length := by have := of_decide_eq_true hlt; omega
    refine Up_in (h.sub sub2) fun s3 sub3 => ?_
    have eu : upI L lu nu (i : Int) = upB L lu nu i := by unfold upI; rw [decide_eq_true (by omega), Int.toNat_natCast]; rfl
    have ea : iaddrS 1 (.slc c 0 L.length (some L.length) 1) (.int .i64 (i : Int)) = some (.ptr c i) := by
      have : Nat.blt i L.length = true := by rw [Nat.blt_eq]; exact hlt
      simp [iaddrS, this]
    simp only [ea, optK_mk]
    refine wr1_step (sub3 _ _ h2) (by simp; omega) rfl fun s4 h4 u4 => ?_
    simp only [arith_add, optK_mk]
    rw [wrap64 (by omega) (by omega)]
    refine ⟨_, by omega, i + 1, rfl, by omega, rfl, (sub2.trans sub3).upto u4 hc, ?_⟩
    rw [h4, eu]
    congr 3
    have e1 : L.length - i = (L.length - (i + 1)) + 1 := by omega
    rw [e1, List.replicate_succ, bls, List.map_append, List.set_append_right _ _ (by simp), List.length_map, List.length_map, List.length_range, Nat.sub_self, List.map_cons, List.set_cons_zero, List.range_succ, List.map_append, bls, List.map_append, List.map_append, List.append_assoc]
    rfl
  · have hge : i = L.length := by have := of_decide_eq_false hge; omega
    subst hge
    refine hK c s2 sub2 hc ?_
    rw [h2, Nat.sub_self]
    simp [flagsL]
/-- the edge that a link is at a node -/
def edgeAt (L : List Lk) (lu nu : Nat → Bool) (n : Int) (i : Nat) : Option Lk := match L[i]? with
  | some x => if upB L lu nu i = true then (if x.1 = n then some ((i : Int), x.2.1, x.2.2) else if x.2.1 = n then some ((i : Int), x.1, x.2.2) else none) else none
  | none => none
def nbrT (L : List Lk) (lu nu : Nat → Bool) (n : Int) (k : Nat) : List Lk := (List.range k).filterMap (edgeAt L lu nu n)
abbrev nbr (L : List Lk) (lu nu : Nat → Bool) (n : Int) : List Lk := nbrT L lu nu n L.length
theorem nbrT_succ {n : Int} {k : Nat} : nbrT L lu nu n (k + 1) = nbrT L lu nu n k ++ (edgeAt L lu nu n k).toList := by
  unfold nbrT
  rw [List.range_succ, List.filterMap_append]
  cases e : edgeAt L lu nu n k <;> simp [e]
theorem nbrT_len {n : Int} {k : Nat} : (nbrT L lu nu n k).length ≤ k := by
  unfold nbrT
  exact Nat.le_trans (List.length_filterMap_le _ _) (by simp)
end Go.AM
namespace Go.AM
open Go Go.Proofs
variable {K : AVal → Heap → Prop} {s s' s0 : Heap} {t : Bool} {g : Nat} {lv : AVal} {N : Nat} {lu nu : Nat → Bool} {L : List Lk}
theorem fill3 {x y z : Int} : fillR [.int .i64 0, .int .i64 0, .int .i64 0] [(0, 1, .int .i64 x), (1, 1, .int .i64 y), (2, 1, .int .i64 z)] = some (lkR (x, y, z)) := rfl
theorem fill3r {r : List AVal} (h : r.length = 3) : fillR (repl 1 [.int .i64 0, .int .i64 0, .int .i64 0]) [(0, 3, .agg r)] = some r := by
  match r, h with
  | [a, b, c], _ => rfl
theorem allOne_lkR (x : Lk) : allOne (lkR x) = true := rfl
/-- one edge more at the end of a list of one's own -/
theorem pushE {v : AVal} {E : List Lk} {x y z : Int} {e : TypeId} (acc : AccR e 3 s0 s v (E.map lkR)) (hsub : Sub s0 s) (hl : E.length ≤ 1000000) (hK : ∀ v' s', Sub s0 s' → AccR e 3 s0 s' v' ((E ++ [(x, y, z)]).map lkR) → K v' s') :
    optK (fillR [(.int .i64 0), (.int .i64 0), (.int .i64 0)] [(0, 1, .int .i64 x), (1, 1, .int .i64 y), (2, 1, .int .i64 z)]) fun c_25 =>
    optK (fillR (repl 1 [(.int .i64 0), (.int .i64 0), (.int .i64 0)]) [(0, 3, (.agg c_25))]) fun c_26 => allOne c_26 = true ∧ newK e c_26 (fun b_27 s_28 => appK e 3 v (.slc b_27 0 1 (some 1) 3) K s_28) s := by
  refine optK_of fill3 (optK_of (fill3r rfl) ⟨allOne_lkR _, new_step fun b s1 hb h1 u1 => ?_⟩)
  have lit : SlR 3 s1 (.slc b 0 1 (some 1) 3) [lkR (x, y, z)] := SlR.mk (rows := [lkR (x, y, z)]) (by intro r hr; rw [List.mem_singleton] at hr; subst hr; rfl) (by simpa using h1) rfl (by simp)
  refine (acc.sub (u1.sub hb)).app lit (List.cons_ne_nil _ _) (by rw [List.length_map, List.length_singleton]; omega) (hsub.trans (u1.sub hb)) fun v' s' a b => hK v' s' b ?_
  rw [List.map_append]
  exact a
theorem Neighbors_in {n : Int} (h : GRd t s g lv N L lu nu) (hK : ∀ v' s', Sub s s' → AccR 59 3 s s' v' ((nbr L lu nu n).map lkR) → K v' s') : wpCall Try.prog XX 23 [.ptr g 0, .int .i64 n] K s := by
  refine vc_topo_Graph_Neighbors_in (valid_in h ?_)
  have hll := h.lok.ll
  simp only [unary_not, Bool.not_true, optK_mk, boolK_false, nilCheck_ptr, addOff_ptr, Nat.zero_add, h.r1, h.lenL]
  refine ⟨fun ys s2 m => ∃ (i : Nat) (v : AVal), ys = [v, .int .i64 i] ∧ i ≤ L.length ∧ m = L.length - i ∧ Sub s s2 ∧ AccR 59 3 s s2 v ((nbrT L lu nu n i).map lkR), ⟨_, 0, .nilslc, rfl, by omega, rfl, .refl s, ⟨by simp [nbrT], .inl ⟨rfl, rfl⟩⟩⟩, ?_⟩
  rintro f s2 m ⟨i, v, hy, hi, rfl, sub2, acc⟩
  simp only [List.cons.injEq, and_true] at hy
  rw [hy.1, hy.2]
  have hnl : (nbrT L lu nu n i).length ≤ i := nbrT_len
  simp only [vc_topo_Graph_Neighbors_l0, arith_lss, optK_mk]
  refine boolK_mk (fun hlt => ?_) (fun hge => ?_)
  · have hlt : i < L.length := by have := of_decide_eq_true hlt; omega
    have z2 := h.sub sub2
    obtain ⟨b, o, g1, g2, _⟩ := row_at z2.ls hlt
    simp only [g1, g2, optK_mk]
    refine new_step fun c s3 hc h3 u3 => wrAgg_step h3 rfl rfl rfl fun s4 h4 u4 => ?_
    have sub24 : Sub s2 s4 := (u3.sub hc).upto u4 hc
    have sub4 := sub2.trans sub24
    have h4 : s4 c = some (false, .cells 26 (lkR L[i])) := h4
    refine Up_in (h.sub sub4) fun s5 sub45 => ?_
    have sub5 := sub4.trans sub45
    have acc5 := acc.sub (sub24.trans sub45)
    have h5 := sub45 _ _ h4
    have eu : upI L lu nu (i : Int) = upB L lu nu i := by unfold upI; rw [decide_eq_true (by omega), Int.toNat_natCast]; rfl
    have fin : ∀ (s6 : Heap) (v6 : AVal), Sub s s6 → AccR 59 3 s s6 v6 ((nbrT L lu nu n (i + 1)).map lkR) → vc_topo_Graph_Neighbors_j1 XX v6 (.int .i64 (i : Int)) (fun ys s2 m => ∃ (i : Nat) (v : AVal), ys = [v, .int .i64 i] ∧ i ≤ L.length ∧ m = L.length - i ∧ Sub s s2 ∧ AccR 59 3 s s2 v ((nbrT L lu nu n i).map lkR)) (L.length - i) K s6 := by
      intro s6 v6 a1 a2
      simp only [vc_topo_Graph_Neighbors_j1, arith_add, optK_mk]
      rw [wrap64 (by omega) (by omega)]
      exact ⟨_, by omega, i + 1, v6, rfl, by omega, rfl, a1, a2⟩
    have stay : edgeAt L lu nu n i = none → nbrT L lu nu n (i + 1) = nbrT L lu nu n i := fun e => by rw [nbrT_succ, e]; simp
    have more : ∀ {x y z : Int}, edgeAt L lu nu n i = some (x, y, z) → nbrT L lu nu n (i + 1) = nbrT L lu nu n i ++ [(x, y, z)] := fun e => by rw [nbrT_succ, e]; rfl
    have eA : edgeAt L lu nu n i = if upB L lu nu i = true then (if L[i].1 = n then some ((i : Int), L[i].2.1, L[i].2.2) else if L[i].2.1 = n then some ((i : Int), L[i].1, L[i].2.2) else none) else none := by
      unfold edgeAt; rw [List.getElem?_eq_getElem hlt]
    rw [eu]
    simp only [unary_not, optK_mk]
    have e0 : (lkR L[i])[0]? = some (.int .i64 L[i].1) := rfl
    have e1 : (lkR L[i])[1]? = some (.int .i64 L[i].2.1) := rfl
    have e2 : (lkR L[i])[2]? = some (.int .i64 L[i].2.2) := rfl
    cases hu : upB L lu nu i with
    | false =>
      rw [hu] at eA
      simp only [Bool.not_false, boolK_true]
      exact fin s5 v sub5 (by rw [stay (by rw [eA]; rfl)]; exact acc5)
    | true =>
      rw [hu, if_pos rfl] at eA
      simp only [Bool.not_true, boolK_false, addOff_ptr, Nat.zero_add, rd1_mk h5, e0, e1, e2, optK_mk, eqV_int, negB_mk, Bool.false_bne]
      refine boolK_mk (fun ha => ?_) (fun ha => ?_)
      · have ha := eq_of_beq ha
        rw [if_pos ha] at eA
        refine pushE acc5 sub5 (by omega) fun v6 s6 sub6 acc6 => fin s6 v6 sub6 ?_
        rw [more eA]; exact acc6
      · have ha : ¬ L[i].1 = n := beq_eq_false_iff_ne.1 ha
        rw [if_neg ha] at eA
        refine boolK_mk (fun hb => ?_) (fun hb => ?_)
        · have hb := eq_of_beq hb
          rw [if_pos hb] at eA
          refine pushE acc5 sub5 (by omega) fun v6 s6 sub6 acc6 => fin s6 v6 sub6 ?_
          rw [more eA]; exact acc6
        · have hb : ¬ L[i].2.1 = n := beq_eq_false_iff_ne.1 hb
          rw [if_neg hb] at eA
          exact fin s5 v sub5 (by rw [stay eA]; exact acc5)
  · have hge : i = L.length := by have := of_decide_eq_false hge; omega
    subst hge
    exact hK v s2 sub2 acc
end Go.AM
namespace Go.AM
open Go Go.Proofs
variable {K : AVal → Heap → Prop} {s s' s0 : Heap} {t : Bool} {g : Nat} {lv : AVal} {N : Nat} {lu nu : Nat → Bool} {L : List Lk}
/-! ### lists of numbers of one's own -/
/-- a list in a block of its own, maybe without its first elements -/
def Own (s : Heap) (v : AVal) (l : List Int) : Prop := (v = .nilslc ∧ l = []) ∨ ∃ b o cap cs, v = .slc b o l.length cap 1 ∧ (cap = none ∨ cap = some l.length) ∧ s b = some (false, .cells 3 cs) ∧ o + l.length ≤ cs.length ∧ (cs.drop o).take l.length = izs l
theorem Own.sl {v : AVal} {l : List Int} (h : Own s v l) : Sl s v (izs l) := by
  rcases h with ⟨a, rfl⟩ | ⟨b, o, cap, cs, a, h1, h2, h3, h4⟩
  · exact .inl ⟨a, rfl⟩
  · refine .inr ⟨b, o, cap, by rw [List.length_map]; exact a, fun c e => ?_, fun _ => ⟨false, 3, cs, h2, by rw [List.length_map]; exact h3, fun i hi => ?_⟩⟩
    · rcases h1 with h1 | h1
      · rw [h1] at e; cases e
      · rw [h1] at e; cases e; simp
    · have hi' : i < l.length := by simpa using hi
      rw [← h4, List.getElem?_take, if_pos hi', List.getElem?_drop]
theorem Own.mono {v : AVal} {l : List Int} (h : Own s v l) (k : ∀ b o n c, v = .slc b o n c 1 → ∀ e, s b = some e → s' b = some e) : Own s' v l := by
  rcases h with h | ⟨b, o, cap, cs, a, h1, h2, h3, h4⟩
  · exact .inl h
  · exact .inr ⟨b, o, cap, cs, a, h1, k _ _ _ _ a _ h2, h3, h4⟩
theorem own_mk {c : Nat} {l : List Int} (h : s c = some (false, .cells 3 (izs l))) : Own s (.slc c 0 l.length none 1) l := .inr ⟨c, 0, none, _, rfl, .inl rfl, h, by simp, by rw [List.drop_zero, List.take_of_length_le (by simp)]⟩
/-- one number more -/
theorem own_push {v : AVal} {l : List Int} {x : Int} (h : Own s v l) (hl : l.length ≤ 1000000)
    (hK : ∀ c s', s' c = some (false, .cells 3 (izs (l ++ [x]))) → (∀ i e, s i = some e → (∀ b o n k, v = .slc b o n k 1 → i ≠ b) → s' i = some e ∧ i ≠ c) → K (.slc c 0 (l ++ [x]).length none 1) s') :
    optK (fillR (repl 1 [(.int .i64 0)]) [(0, 1, .int .i64 x)]) fun c => allOne c = true ∧ newK 3 c (fun b s => appK 3 1 v (.slc b 0 1 (some 1) 1) K s) s := by
  refine lit1_step (elem := 3) (z := .int .i64 0) (v := .int .i64 x) rfl rfl fun b1 s1 hb1 h1 u1 => ?_
  have sub1 := u1.sub hb1
  have lit : Sl s1 (.slc b1 0 1 (some 1) 1) [AVal.int .i64 x] := Sl.mk h1 rfl (by simp)
  have e2 : izs l ++ [AVal.int .i64 x] = izs (l ++ [x]) := by rw [izs, izs, List.map_append]; rfl
  refine optK_of lit.rd (optK_of lit.len ?_)
  have old : ∀ i e, s i = some e → i ≠ b1 := fun i e hi e2 => by rw [e2, hb1] at hi; cases hi
  have sl1 : Sl s1 v (izs l) := h.sl.sub sub1
  have o1 : Own s1 v l := h.mono fun b o n c _ e hb => sub1 b e hb
  rcases o1 with ⟨rfl, rfl⟩ | ⟨b, o, cap, cs, rfl, hc, hb, ho, hcs⟩
  · refine ⟨by simp, new_step fun c s2 hc h2 u2 => hK c s2 (by simpa using h2) fun i e hi _ => ⟨u2.at (sub1 i e hi) hc, ne_of_some hc (sub1 i e hi)⟩⟩
  · have lr : rdSl s1 1 (.slc b o l.length cap 1) = some (izs l) := sl1.rd
    have el : (l ++ [x]).length = l.length + 1 := by simp
    refine ⟨rfl, ?_⟩
    simp only [List.length_singleton]
    rcases hc with rfl | rfl
    · simp only
      refine optK_of lr ?_
      unfold dropK
      rw [hb]
      refine ⟨rfl, by omega, new_step fun c s2 hc2 h2 u2 => ?_⟩
      rw [← el]
      refine hK c s2 (by rw [← e2]; exact h2) fun i e hi hn => ?_
      have hib := hn b o l.length none rfl
      have hd : hdel s1 b i = some e := by rw [hdel_ne hib]; exact sub1 i e hi
      exact ⟨u2.at hd hc2, ne_of_some hc2 hd⟩
    · have e0 : Nat.ble (l.length + 1) l.length = false := by
        cases q : Nat.ble (l.length + 1) l.length with
        | false => rfl
        | true => have := Nat.le_of_ble_eq_true q; omega
      simp only [e0, cond_false]
      refine optK_of lr ⟨by omega, new_step fun c s2 hc2 h2 u2 => ?_⟩
      rw [← el]
      exact hK c s2 (by rw [← e2]; exact h2) fun i e hi _ => ⟨u2.at (sub1 i e hi) hc2, ne_of_some hc2 (sub1 i e hi)⟩
/-- a list in a block of its own, all of it -/
def Own0 (s : Heap) (v : AVal) (l : List Int) : Prop := (v = .nilslc ∧ l = []) ∨ ∃ b, v = .slc b 0 l.length none 1 ∧ s b = some (false, .cells 3 (izs l))
theorem Own0.own {v : AVal} {l : List Int} (h : Own0 s v l) : Own s v l := by
  rcases h with h | ⟨b, e, hb⟩
  · exact .inl h
  · rw [e]; exact own_mk hb
theorem Own0.mono {v : AVal} {l : List Int} (h : Own0 s v l) (k : ∀ b o n c, v = .slc b o n c 1 → ∀ e, s b = some e → s' b = some e) : Own0 s' v l := by
  rcases h with h | ⟨b, e, hb⟩
  · exact .inl h
  · exact .inr ⟨b, e, k _ _ _ _ e _ hb⟩
theorem Own0.blk {v : AVal} {m : List Int} {b o n : Nat} {k : Option Nat} (h : Own0 s v m) (e : v = .slc b o n k 1) : ∃ cs, s b = some (false, .cells 3 cs) := by
  rcases h with ⟨a, _⟩ | ⟨b', a, h2⟩
  · rw [a] at e; cases e
  · rw [a] at e; injection e with e1
    rw [← e1]; exact ⟨_, h2⟩
/-- without the first one -/
theorem own_tail {v : AVal} {x : Int} {l : List Int} (h : Own s v (x :: l)) : ∃ v', sliceS 1 v (some (.int .i64 1)) none none = some v' ∧ Own s v' l ∧ ∀ b o n c, v' = .slc b o n c 1 → ∃ o n c, v = .slc b o n c 1 := by
  rcases h with ⟨_, h⟩ | ⟨b, o, cap, cs, rfl, hc, hb, ho, hcs⟩
  · cases h
  · have hlen : (x :: l).length = l.length + 1 := rfl
    rw [hlen] at ho hcs hc ⊢
    have e1 : (cs.drop (o + 1)).take l.length = izs l := by
      have h2 : (cs.drop o).take (l.length + 1) = .int .i64 x :: izs l := hcs
      cases hd : cs.drop o with
      | nil => rw [hd] at h2; cases h2
      | cons y ys =>
        rw [hd, List.take_succ_cons] at h2
        have h3 := (List.cons.inj h2).2
        have : cs.drop (o + 1) = ys := by rw [← List.drop_drop, hd]; rfl
        rw [this]; exact h3
    rcases hc with rfl | rfl
    · refine ⟨.slc b (o + 1) l.length none 1, ?_, .inr ⟨b, o + 1, none, cs, rfl, .inl rfl, hb, by omega, e1⟩, fun b' o' n c e => by cases e; exact ⟨_, _, _, rfl⟩⟩
      simp [sliceS, bound, show nat? (.int .i64 1) = some 1 from rfl, Nat.ble_eq_true_of_le (show 1 ≤ l.length + 1 by omega)]
    · refine ⟨.slc b (o + 1) l.length (some l.length) 1, ?_, .inr ⟨b, o + 1, _, cs, rfl, .inr rfl, hb, by omega, e1⟩, fun b' o' n c e => by cases e; exact ⟨_, _, _, rfl⟩⟩
      simp [sliceS, bound, show nat? (.int .i64 1) = some 1 from rfl, Nat.ble_eq_true_of_le (show 1 ≤ l.length + 1 by omega)]
end Go.AM
namespace Go.AM
open Go Go.Proofs
variable {K : AVal → Heap → Prop} {s s' s0 : Heap} {t : Bool} {g : Nat} {lv : AVal} {N : Nat} {lu nu : Nat → Bool} {L : List Lk} {l c sb d : Nat} {S Y W : List Int} {wv : AVal}
/-! ### the search, over an iterator that collects -/
theorem Own.blk {v : AVal} {m : List Int} {b o n : Nat} {k : Option Nat} (h : Own s v m) (e : v = .slc b o n k 1) : ∃ cs, s b = some (false, .cells 3 cs) := by
  rcases h with ⟨a, _⟩ | ⟨b', o', cap, cs, a, _, h2, _, _⟩
  · rw [a] at e; cases e
  · rw [a] at e; injection e with e1
    rw [← e1]; exact ⟨cs, h2⟩
structure Bs (s0 s : Heap) (l c sb d : Nat) (S Y W : List Int) (wv : AVal) : Prop where
  sub : Sub s0 s
  f : s0 l = none ∧ s0 c = none ∧ s0 sb = none
  lp : s l = some (false, .loop .ready none 13 [(2, .ptr c 0)] [7] (rfAs 0 (bodyOf Try.f64)) (rfBo 0 (bodyOf Try.f64)) d)
  ac : ∃ av, s c = some (false, .cells 40 [av]) ∧ Own0 s av Y ∧ (∀ b o n k, av = .slc b o n k 1 → s0 b = none) ∧ (∀ b o n k b' o' n' k', av = .slc b o n k 1 → wv = .slc b' o' n' k' 1 → b ≠ b')
  wk : Own s wv W ∧ ∀ b o n k, wv = .slc b o n k 1 → s0 b = none
  sn : ∃ a b : Nat, s sb = some (false, .cells 74 [.int .u64 (a : Int), .int .u64 (b : Int)]) ∧ Wd a b (fun j => decide ((j : Int) ∈ S))
theorem Bs.round_in {x : Int} (z : Bs s0 s l c sb d S Y W wv) (hY : Y.length ≤ 1000) (hK : ∀ s', Bs s0 s' l c sb d S (Y ++ [x]) W wv → K (.bool true) s') : wpRound Try.prog XX l [.int .i64 x] K s := by
  obtain ⟨hsub, ⟨f1, f2, f3⟩, h1, ⟨av, h2, h3, h4, h5⟩, ⟨h6, h7⟩, ⟨a, b, h8, h9⟩⟩ := z
  have hlc : l ≠ c := by rintro rfl; rw [h1] at h2; cases h2
  have hls : l ≠ sb := by rintro rfl; rw [h1] at h8; cases h8
  have hcs : c ≠ sb := by rintro rfl; rw [h2] at h8; cases h8
  have avl : ∀ b o n k, av = .slc b o n k 1 → b ≠ l ∧ b ≠ c ∧ b ≠ sb := fun b o n k e => by
    obtain ⟨cs, hb⟩ := h3.blk e
    exact ⟨fun e2 => (by rw [e2, h1] at hb; cases hb), fun e2 => (by rw [e2, h2] at hb; cases hb), fun e2 => (by rw [e2, h8] at hb; cases hb)⟩
  have wvl : ∀ b o n k, wv = .slc b o n k 1 → b ≠ l ∧ b ≠ c ∧ b ≠ sb := fun b o n k e => by
    obtain ⟨cs, hb⟩ := h6.blk e
    exact ⟨fun e2 => (by rw [e2, h1] at hb; cases hb), fun e2 => (by rw [e2, h2] at hb; cases hb), fun e2 => (by rw [e2, h8] at hb; cases hb)⟩
  refine vc_slices_AppendSeq___int_int__r0_in h1 ⟨rfl, ?_⟩
  unfold beginK
  rw [h1]
  simp only
  have u1 : Upto l s (hset s l (false, .loop .busy none 13 [(2, .ptr c 0)] [7] (rfAs 0 (bodyOf Try.f64)) (rfBo 0 (bodyOf Try.f64)) d)) := fun _ hi => hset_other hi
  have b1 : (hset s l (false, .loop .busy none 13 [(2, .ptr c 0)] [7] (rfAs 0 (bodyOf Try.f64)) (rfBo 0 (bodyOf Try.f64)) d)) l = some (false, .loop .busy none 13 [(2, .ptr c 0)] [7] (rfAs 0 (bodyOf Try.f64)) (rfBo 0 (bodyOf Try.f64)) d) := hset_eq
  generalize hset s l (false, .loop .busy none 13 [(2, .ptr c 0)] [7] (rfAs 0 (bodyOf Try.f64)) (rfBo 0 (bodyOf Try.f64)) d) = s1 at u1 b1
  have c1 : s1 c = _ := (u1 c hlc.symm).trans h2
  simp only [rd1_mk c1, List.getElem?_cons_zero, optK_mk]
  have o1 : Own s1 av Y := h3.own.mono fun b o n k e x hb => by rw [u1 b (avl b o n k e).1]; exact hb
  refine own_push o1 (by omega) fun c' s2 n2 k2 => ?_
  -- what is kept so far
  have keep2 : ∀ i e, s i = some e → i ≠ l → (∀ b o n k, av = .slc b o n k 1 → i ≠ b) → s2 i = some e ∧ i ≠ c' := fun i e hi hl hn => k2 i e (by rw [u1 i hl]; exact hi) hn
  have kc := keep2 c _ h2 hlc.symm fun b o n k e => (avl b o n k e).2.1.symm
  have kl : s2 l = _ ∧ l ≠ c' := k2 l _ b1 fun b o n k e => (avl b o n k e).1.symm
  refine wr1_step kc.1 (by simp) rfl fun s3 h3' u3 => ?_
  have b3 : s3 l = _ := (u3 l hlc).trans kl.1
  unfold endK
  rw [b3]
  simp only
  have u4 : Upto l s3 (hset s3 l (false, .loop .ready none 13 [(2, .ptr c 0)] [7] (rfAs 0 (bodyOf Try.f64)) (rfBo 0 (bodyOf Try.f64)) d)) := fun _ hi => hset_other hi
  have b4 : (hset s3 l (false, .loop .ready none 13 [(2, .ptr c 0)] [7] (rfAs 0 (bodyOf Try.f64)) (rfBo 0 (bodyOf Try.f64)) d)) l = _ := hset_eq
  generalize hset s3 l (false, .loop .ready none 13 [(2, .ptr c 0)] [7] (rfAs 0 (bodyOf Try.f64)) (rfBo 0 (bodyOf Try.f64)) d) = s4 at u4 b4
  have keep4 : ∀ i e, s i = some e → i ≠ l → i ≠ c → (∀ b o n k, av = .slc b o n k 1 → i ≠ b) → s4 i = some e ∧ i ≠ c' := fun i e hi hl hc hn => by
    obtain ⟨q1, q2⟩ := keep2 i e hi hl hn
    exact ⟨by rw [u4 i hl, u3 i hc]; exact q1, q2⟩
  have sub4 : Sub s0 s4 := fun i e hi => (keep4 i e (hsub i e hi) (ne_of_some f1 hi) (ne_of_some f2 hi) fun b o n k ev e2 => by rw [e2, h4 b o n k ev] at hi; cases hi).1
  have n4 : s4 c' = some (false, .cells 3 (izs (Y ++ [x]))) := by rw [u4 c' kl.2.symm, u3 c' kc.2.symm]; exact n2
  have c4 : s4 c = some (false, .cells 40 [.slc c' 0 (Y ++ [x]).length none 1]) := by rw [u4 c hlc.symm]; exact h3'
  refine hK s4 ⟨sub4, ⟨f1, f2, f3⟩, b4, ⟨_, c4, .inr ⟨c', rfl, n4⟩, fun b o n k e => ?_, fun b o n k b' o' n' k' e e' => ?_⟩, ⟨h6.mono fun b o n k e x hb => ?_, h7⟩, ⟨a, b, ?_, h9⟩⟩
  · injection e with e1
    rw [← e1]
    cases q : s0 c' with
    | none => rfl
    | some y => exact absurd rfl (keep4 c' y (hsub c' y q) (ne_of_some f1 q) (ne_of_some f2 q) fun b o n k ev e2 => by rw [e2, h4 b o n k ev] at q; cases q).2
  · injection e with e1
    rw [← e1]
    obtain ⟨cs, hb⟩ := h6.blk e'
    obtain ⟨w1, w2, w3⟩ := wvl b' o' n' k' e'
    exact fun e2 => (keep4 b' _ hb w1 w2 fun b o n k ev e3 => h5 b o n k b' o' n' k' ev e' e3.symm).2 e2.symm
  · obtain ⟨w1, w2, w3⟩ := wvl b o n k e
    exact (keep4 b x hb w1 w2 fun b2 o2 n2 k2 ev e3 => h5 b2 o2 n2 k2 b o n k ev e e3.symm).1
  · exact (keep4 sb _ h8 hls.symm hcs.symm fun b o n k ev => (avl b o n k ev).2.2.symm).1
end Go.AM
namespace Go.AM
open Go Go.Proofs
variable {K : AVal → Heap → Prop} {s s' s0 : Heap} {t : Bool} {g : Nat} {lv : AVal} {N : Nat} {lu nu : Nat → Bool} {L : List Lk} {l c sb d : Nat} {S Y W : List Int} {wv : AVal}
theorem Bs.to (z : Bs s0 s l c sb d S Y W wv) (hs : Sub s s') : Bs s0 s' l c sb d S Y W wv := by
  obtain ⟨hsub, f, h1, ⟨av, h2, h3, h4, h5⟩, ⟨h6, h7⟩, ⟨a, b, h8, h9⟩⟩ := z
  exact ⟨hsub.trans hs, f, hs _ _ h1, ⟨av, hs _ _ h2, h3.mono fun _ _ _ _ _ e hb => hs _ e hb, h4, h5⟩, ⟨h6.mono fun _ _ _ _ _ e hb => hs _ e hb, h7⟩, ⟨a, b, hs _ _ h8, h9⟩⟩
theorem Bs.has {x : Int} (z : Bs s0 s l c sb d S Y W wv) (hx : 0 ≤ x ∧ x < 128) (hK : K (.bool (decide (x ∈ S))) s) : wpCall Try.prog XX 54 [.ptr sb 0, .int .i64 x] K s := by
  obtain ⟨a, b, h8, h9⟩ := z.sn
  obtain ⟨i, rfl⟩ : ∃ i : Nat, x = i := ⟨x.toNat, by omega⟩
  obtain ⟨w, hw, g1, g2⟩ := h9.bit (i := i) (by omega)
  refine has_in (w := w) (by omega) ?_ g1 (by rw [g2]; exact hK)
  rw [rd1_mk h8]
  rcases hw with ⟨e, rfl⟩ | ⟨e, rfl⟩ <;> rw [e] <;> rfl
theorem Bs.put {x : Int} (z : Bs s0 s l c sb d S Y W wv) (hx : 0 ≤ x ∧ x < 128) (hK : ∀ s', Bs s0 s' l c sb d (S ++ [x]) Y W wv → Upto sb s s' → K (.tup []) s') : wpCall Try.prog XX 44 [.ptr sb 0, .int .i64 x, .bool true] K s := by
  obtain ⟨hsub, ⟨f1, f2, f3⟩, h1, ⟨av, h2, h3, h4, h5⟩, ⟨h6, h7⟩, ⟨a, b, h8, h9⟩⟩ := z
  obtain ⟨i, rfl⟩ : ∃ i : Nat, x = i := ⟨x.toNat, by omega⟩
  have hi : i < 128 := by omega
  have hls : l ≠ sb := by rintro rfl; rw [h1] at h8; cases h8
  have hcs : c ≠ sb := by rintro rfl; rw [h2] at h8; cases h8
  have ef : upd1 (fun j : Nat => decide ((j : Int) ∈ S)) i true = fun j : Nat => decide ((j : Int) ∈ S ++ [(i : Int)]) := by
    funext j
    unfold upd1
    by_cases e : j = i
    · rw [if_pos e, e]; simp
    · rw [if_neg e]
      have : ¬ (j : Int) = (i : Int) := by omega
      simp [this]
  have ob : ∀ v : AVal, (∀ b o n k, v = AVal.slc b o n k 1 → ∃ cs, s b = some (false, .cells 3 cs)) → ∀ b o n k, v = .slc b o n k 1 → b ≠ sb := fun v h b o n k e e2 => by
    obtain ⟨cs, hb⟩ := h _ _ _ _ e
    rw [e2, h8] at hb; cases hb
  have hp := h9.put (x := true) hi
  rw [ef] at hp
  have fin : ∀ (s' : Heap) (a' b' : Nat), s' sb = some (false, .cells 74 [.int .u64 (a' : Int), .int .u64 (b' : Int)]) → Wd a' b' (fun j : Nat => decide ((j : Int) ∈ S ++ [(i : Int)])) → Upto sb s s' → K (.tup []) s' := fun s' a' b' q1 q2 u => hK s' ⟨fun j e hj => by rw [u j (ne_of_some f3 hj)]; exact hsub j e hj, ⟨f1, f2, f3⟩, by rw [u l hls]; exact h1, ⟨av, by rw [u c hcs]; exact h2, h3.mono fun b o n k e x hb => by rw [u b (ob _ (fun _ _ _ _ e => h3.blk e) b o n k e)]; exact hb, h4, h5⟩, ⟨h6.mono fun b o n k e x hb => by rw [u b (ob _ (fun _ _ _ _ e => h6.blk e) b o n k e)]; exact hb, h7⟩, ⟨a', b', q1, q2⟩⟩ u
  rcases (show i / 64 = 0 ∨ i / 64 = 1 by omega) with e | e
  · refine put_in (w := a) hi h8 (by rw [e]; rfl) h9.1 fun s' v g1 g2 g3 u => fin s' v b ?_ (hp.1 e v g2 g3) u
    rw [g1, e]; rfl
  · refine put_in (w := b) hi h8 (by rw [e]; rfl) h9.2.1 fun s' v g1 g2 g3 u => fin s' a v ?_ (hp.2 e v g2 g3) u
    rw [g1, e]; rfl
theorem Bs.push {x : Int} (z : Bs s0 s l c sb d S Y W wv) (hW : W.length ≤ 1000) (hK : ∀ v' s', Bs s0 s' l c sb d S Y (W ++ [x]) v' → (∀ i e, s i = some e → (∀ b o n k, wv = .slc b o n k 1 → i ≠ b) → s' i = some e) → K v' s') :
    optK (fillR (repl 1 [(.int .i64 0)]) [(0, 1, .int .i64 x)]) fun c => allOne c = true ∧ newK 3 c (fun b s => appK 3 1 wv (.slc b 0 1 (some 1) 1) K s) s := by
  obtain ⟨hsub, ⟨f1, f2, f3⟩, h1, ⟨av, h2, h3, h4, h5⟩, ⟨h6, h7⟩, ⟨a, b, h8, h9⟩⟩ := z
  have off : ∀ (i : Nat) (e : Bool × Blk), s i = some e → (∀ cs, e ≠ (false, .cells 3 cs)) → ∀ b o n k, wv = .slc b o n k 1 → i ≠ b := fun i e hi hne b o n k ev e2 => by
    obtain ⟨cs, hb⟩ := h6.blk ev
    rw [e2, hb] at hi
    cases hi
    exact hne cs rfl
  refine own_push h6 (by omega) fun c' s2 n2 k2 => ?_
  have kl := k2 l _ h1 (off l _ h1 fun cs e => by cases e)
  have kc := k2 c _ h2 (off c _ h2 fun cs e => by cases e)
  have ks := k2 sb _ h8 (off sb _ h8 fun cs e => by cases e)
  refine hK _ s2 ⟨fun i e hi => (k2 i e (hsub i e hi) fun b o n k ev e2 => by rw [e2, h7 b o n k ev] at hi; cases hi).1, ⟨f1, f2, f3⟩, kl.1, ⟨av, kc.1, h3.mono fun b o n k ev x hb => (k2 b x hb fun b' o' n' k' ev' => h5 b o n k b' o' n' k' ev ev').1, h4, fun b o n k b' o' n' k' ev ev' => ?_⟩, ⟨own_mk n2, fun b o n k ev => ?_⟩, ⟨a, b, ks.1, h9⟩⟩ fun i e hi hn => (k2 i e hi hn).1
  · injection ev' with e1
    rw [← e1]
    obtain ⟨cs, hb⟩ := h3.blk ev
    exact (k2 b _ hb fun b' o' n' k' ev' => h5 b o n k b' o' n' k' ev ev').2
  · injection ev with e1
    rw [← e1]
    cases q : s0 c' with
    | none => rfl
    | some y => exact absurd rfl (k2 c' y (hsub c' y q) fun b o n k ev e2 => by rw [e2, h7 b o n k ev] at q; cases q).2
/-! ### what is reached -/
/-- the nodes to which links lead -/
def nod (L : List Lk) (lu nu : Nat → Bool) (n : Int) : List Int := (nbr L lu nu n).map fun e => e.2.1
inductive Rc (L : List Lk) (lu nu : Nat → Bool) (a : Int) : Int → Prop
  | refl : Rc L lu nu a a
  | tail {b c : Int} (h : Rc L lu nu a b) (h2 : c ∈ nod L lu nu b) : Rc L lu nu a c
theorem nbr_mem {n : Int} {e : Lk} (h : e ∈ nbr L lu nu n) : ∃ i, ∃ hi : i < L.length, upB L lu nu i = true ∧ e.1 = (i : Int) ∧ e.2.2 = L[i].2.2 ∧ (L[i].1 = n ∧ e.2.1 = L[i].2.1 ∨ L[i].1 ≠ n ∧ L[i].2.1 = n ∧ e.2.1 = L[i].1) := by
  unfold nbr nbrT at h
  obtain ⟨i, hi, he⟩ := List.mem_filterMap.1 h
  have hi : i < L.length := List.mem_range.1 hi
  refine ⟨i, hi, ?_⟩
  unfold edgeAt at he
  rw [List.getElem?_eq_getElem hi] at he
  simp only at he
  split at he
  · rename_i hu
    split at he
    · rename_i ha
      cases he
      exact ⟨hu, rfl, rfl, .inl ⟨ha, rfl⟩⟩
    · rename_i ha
      split at he
      · rename_i hb
        cases he
        exact ⟨hu, rfl, rfl, .inr ⟨ha, hb, rfl⟩⟩
      · cases he
  · cases he
theorem nbr_rg (h : LOk N L) {n : Int} {e : Lk} (he : e ∈ nbr L lu nu n) : 0 ≤ e.2.1 ∧ e.2.1 < N := by
  obtain ⟨i, hi, _, _, _, h2⟩ := nbr_mem he
  obtain ⟨hA, hB, _⟩ := h.ok _ (List.getElem_mem hi)
  rcases h2 with ⟨_, e⟩ | ⟨_, _, e⟩ <;> rw [e] <;> assumption
theorem nod_rg (h : LOk N L) {n m : Int} (he : m ∈ nod L lu nu n) : 0 ≤ m ∧ m < N := by
  obtain ⟨e, h1, rfl⟩ := List.mem_map.1 he
  exact nbr_rg h h1
end Go.AM
namespace Go.AM
open Go Go.Proofs
variable {K : AVal → Heap → Prop} {s s' s0 : Heap} {t : Bool} {g : Nat} {lv : AVal} {N : Nat} {lu nu : Nat → Bool} {L : List Lk} {l c sb d : Nat} {S Y W : List Int} {wv : AVal} {n : Int}
theorem nodup_le : ∀ {l m : List Int}, l.Nodup → (∀ x ∈ l, x ∈ m) → l.length ≤ m.length := by
  intro l
  induction l with
  | nil => intro m _ _; exact Nat.zero_le _
  | cons a l ih =>
    intro m h1 h2
    obtain ⟨ha, hn⟩ := List.nodup_cons.1 h1
    have hm : a ∈ m := h2 a (by simp)
    have := ih (m := m.erase a) hn fun x hx => (List.mem_erase_of_ne (fun e => ha (by rw [← e]; exact hx))).2 (h2 x (by simp [hx]))
    rw [List.length_erase_of_mem hm] at this
    have : 0 < m.length := List.length_pos_of_mem hm
    simp only [List.length_cons]
    omega
theorem nodup_rg {l : List Int} {N : Nat} (h1 : l.Nodup) (h2 : ∀ x ∈ l, 0 ≤ x ∧ x < N) : l.length ≤ N := by
  have := nodup_le (m := (List.range N).map fun i : Nat => (i : Int)) h1 fun x hx => by
    obtain ⟨a, b⟩ := h2 x hx
    exact List.mem_map.2 ⟨x.toNat, List.mem_range.2 (by omega), by omega⟩
  simpa using this
theorem Rc.rg (h : LOk N L) (hn : 0 ≤ n ∧ n < N) {x : Int} (hx : Rc L lu nu n x) : 0 ≤ x ∧ x < N := by
  cases hx with
  | refl => exact hn
  | tail _ h2 => exact nod_rg h h2
/-- what holds of the nodes seen: those done, those at work -/
structure Sn (L : List Lk) (lu nu : Nat → Bool) (n : Int) (D Y W : List Int) : Prop where
  nd : (Y ++ W).Nodup
  rc : ∀ x ∈ Y ++ W, Rc L lu nu n x
  cl : ∀ x ∈ D, ∀ y ∈ nod L lu nu x, y ∈ Y ++ W
  st : n ∈ Y ++ W
theorem Sn.len (h : Sn L lu nu n S Y W) (lok : LOk N L) (hn : 0 ≤ n ∧ n < N) : Y.length + W.length ≤ N := by
  have := nodup_rg (N := N) h.nd fun x hx => (h.rc x hx).rg lok hn
  rwa [List.length_append] at this
theorem Sn.push (h : Sn L lu nu n S Y W) {x : Int} (hx : x ∉ Y ++ W) (hr : Rc L lu nu n x) : Sn L lu nu n S Y (W ++ [x]) := by
  obtain ⟨h1, h2, h3, h4⟩ := h
  refine ⟨?_, fun y hy => ?_, fun y hy z hz => ?_, ?_⟩
  · rw [← List.append_assoc]
    exact List.nodup_append.2 ⟨h1, by simp, fun a ha b hb => by rw [List.mem_singleton] at hb; rintro rfl; rw [hb] at ha; exact hx ha⟩
  · rw [← List.append_assoc, List.mem_append, List.mem_singleton] at hy
    rcases hy with hy | rfl
    · exact h2 y hy
    · exact hr
  · rw [← List.append_assoc]; exact List.mem_append_left _ (h3 y hy z hz)
  · rw [← List.append_assoc]; exact List.mem_append_left _ h4
theorem reach1_in {p1 p2 : AVal} (z : GRd t s0 g lv N L lu nu) (hn : 0 ≤ n ∧ n < N) (hp1 : rd1 s0 p1 = some (.int .i64 n)) (hp2 : rd1 s0 p2 = some (.ptr g 0)) (hk : ∀ s', Sub s0 s' → rd1 s' p1 = some (.int .i64 n) ∧ rd1 s' p2 = some (.ptr g 0))
    (hsub : Sub s0 s) (hl : s0 l = none) (hc : s0 c = none) (lp : s l = some (false, .loop .ready none 13 [(2, .ptr c 0)] [7] (rfAs 0 (bodyOf Try.f64)) (rfBo 0 (bodyOf Try.f64)) d)) (ac : s c = some (false, .cells 40 [.nilslc]))
    (hK : ∀ s' sb Y wv, Bs s0 s' l c sb d Y Y [] wv → Sn L lu nu n Y Y [] → K (.tup []) s') : wpCall Try.prog XX 63 [.yield l, p1, p2] K s := by
  have lok := z.lok
  have hnn := lok.nn
  have hll := lok.ll
  refine vc_topo_Graph_reach_1_in (new_step fun sb s1 hsb h1 u1 => ?_)
  have sub1 := u1.sub hsb
  have hsb0 : s0 sb = none := by
    cases q : s0 sb with
    | none => rfl
    | some y => rw [hsub sb y q] at hsb; cases hsb
  have b1 : Bs s0 s1 l c sb d [] [] [] .nilslc := ⟨hsub.trans sub1, ⟨hl, hc, hsb0⟩, sub1 _ _ lp, ⟨_, sub1 _ _ ac, .inl ⟨rfl, rfl⟩, fun _ _ _ _ e => (by cases e), fun _ _ _ _ _ _ _ _ e => (by cases e)⟩, ⟨.inl ⟨rfl, rfl⟩, fun _ _ _ _ e => (by cases e)⟩, ⟨0, 0, h1, by simp [Wd]⟩⟩
  simp only [(hk s1 b1.sub).1, optK_mk]
  refine b1.put (by omega) fun s2 b2 u2 => ?_
  simp only [(hk s2 b2.sub).1, optK_mk]
  refine lit1_step rfl rfl fun wb s3 hwb h3 u3 => ?_
  have sub3 := u3.sub hwb
  have b3 : Bs s0 s3 l c sb d ([] ++ [n]) [] [n] (.slc wb 0 1 (some 1) 1) := by
    have b3 := b2.to sub3
    refine ⟨b3.sub, b3.f, b3.lp, ?_, ⟨.inr ⟨wb, 0, some 1, _, rfl, .inr rfl, h3, by simp, rfl⟩, fun b o n k e => ?_⟩, b3.sn⟩
    · obtain ⟨av, q1, q2, q3, q4⟩ := b3.ac
      rcases q2 with ⟨e, e2⟩ | ⟨b, e, q5⟩
      · exact ⟨av, q1, .inl ⟨e, e2⟩, q3, fun _ _ _ _ _ _ _ _ e3 => by rw [e] at e3; cases e3⟩
      · refine ⟨av, q1, .inr ⟨b, e, q5⟩, q3, fun b1 o1 n1 k1 b2' o2 n2 k2 e3 e4 => ?_⟩
        obtain ⟨av', w1, w2, _⟩ := b2.ac
        rw [sub3 _ _ w1] at q1
        cases q1
        injection e4 with e5
        rw [← e5]
        obtain ⟨cs', hb⟩ := w2.blk e3
        exact ne_of_some hwb hb
    · injection e with e1
      rw [← e1]
      cases q : s0 wb with
      | none => rfl
      | some y => rw [b2.sub wb y q] at hwb; cases hwb
  refine ⟨fun ys s m => ∃ Y W wv, ys = [wv] ∧ m = N - Y.length ∧ Bs s0 s l c sb d (Y ++ W) Y W wv ∧ Sn L lu nu n Y Y W, ⟨_, [], [n], _, rfl, rfl, b3, ⟨by simp, fun x hx => ?_, by simp, by simp⟩⟩, ?_⟩
  · have : x = n := by simpa using hx
    rw [this]; exact .refl
  rintro f s4 m ⟨Y, W, wv, hy, rfl, z4, sn⟩
  simp only [List.cons.injEq, and_true] at hy
  rw [hy]
  have hlen := sn.len lok hn
  simp only [vc_topo_Graph_reach_1_l0, z4.wk.1.sl.len, List.length_map, arith_gtr, optK_mk]
  refine boolK_mk (fun hpos => ?_) (fun hzero => ?_)
  · have hpos : 0 < W.length := by have := of_decide_eq_true hpos; omega
    obtain ⟨x, W, rfl⟩ : ∃ x W', W = x :: W' := by
      cases W with
      | nil => simp at hpos
      | cons x W' => exact ⟨x, W', rfl⟩
    rw [List.length_cons] at hlen
    obtain ⟨p, g1, g2⟩ := z4.wk.1.sl.get (i := 0) (by simp)
    obtain ⟨wv', g3, g4, g5⟩ := own_tail z4.wk.1
    have g1 : iaddrS 1 wv (.int .i64 0) = some p := g1
    simp only [g1, g2, List.map_cons, List.getElem?_cons_zero, g3, optK_mk]
    have z4' : Bs s0 s4 l c sb d (Y ++ x :: W) Y W wv' := by
      obtain ⟨q1, q2, q3, ⟨av, q4, q5, q6, q7⟩, ⟨q8, q9⟩, q10⟩ := z4
      refine ⟨q1, q2, q3, ⟨av, q4, q5, q6, fun b o n k b' o' n' k' e e' => ?_⟩, ⟨g4, fun b o n k e => ?_⟩, q10⟩
      · obtain ⟨o2, n2, k2, e2⟩ := g5 _ _ _ _ e'
        exact q7 _ _ _ _ _ _ _ _ e e2
      · obtain ⟨o2, n2, k2, e2⟩ := g5 _ _ _ _ e
        exact q9 _ _ _ _ e2
    refine ⟨by unfold loopLen; rw [z4'.lp]; rfl, z4'.round_in (by omega) fun s5 z5 => ?_⟩
    simp only [unary_not, Bool.not_true, boolK_false, optK_mk, (hk s5 z5.sub).2]
    refine Neighbors_in (z.sub z5.sub) fun ev s6 sub6 acc6 => ?_
    have z6 := z5.to sub6
    have ea : Y ++ x :: W = (Y ++ [x]) ++ W := by simp
    have hx := sn.rc x (by simp)
    have sn' : Sn L lu nu n Y (Y ++ [x]) W := by
      obtain ⟨a1, a2, a3, a4⟩ := sn
      rw [ea] at a1 a2 a3 a4
      exact ⟨a1, a2, a3, a4⟩
    rw [ea] at z6
    have hnl : (nbr L lu nu x).length ≤ L.length := nbrT_len
    simp only [acc6.sl.len, List.length_map, optK_mk]
    refine ⟨fun ys s m => ∃ (i : Nat) (W : List Int) (wv : AVal), ys = [wv, .int .i64 i] ∧ i ≤ (nbr L lu nu x).length ∧ m = (nbr L lu nu x).length - i ∧ Bs s0 s l c sb d ((Y ++ [x]) ++ W) (Y ++ [x]) W wv ∧ Sn L lu nu n Y (Y ++ [x]) W ∧ (∀ e ∈ (nbr L lu nu x).take i, e.2.1 ∈ (Y ++ [x]) ++ W) ∧ AccR 59 3 s5 s ev ((nbr L lu nu x).map lkR), ⟨_, 0, W, wv', rfl, by omega, rfl, z6, sn', by simp, acc6⟩, ?_⟩
    rintro f s7 m ⟨i, W, wv, hy, hi, rfl, z7, sn7, hd, acc7⟩
    simp only [List.cons.injEq, and_true] at hy
    rw [hy.1, hy.2]
    have hlen7 := sn7.len lok hn
    rw [List.length_append, List.length_singleton] at hlen7
    simp only [vc_topo_Graph_reach_1_l1, arith_lss, optK_mk]
    refine boolK_mk (fun hlt => ?_) (fun hge => ?_)
    · have hlt : i < (nbr L lu nu x).length := by have := of_decide_eq_true hlt; omega
      obtain ⟨b, o, r1, r2, _⟩ := row_at acc7.sl hlt
      simp only [r1, r2, optK_mk]
      refine new_step fun eb s8 heb h8 u8 => wrAgg_step h8 rfl rfl rfl fun s9 h9 u9 => ?_
      have sub9 : Sub s7 s9 := (u8.sub heb).upto u9 heb
      have h9 : s9 eb = some (false, .cells 59 (lkR (nbr L lu nu x)[i])) := h9
      have e1 : (lkR (nbr L lu nu x)[i])[1]? = some (.int .i64 (nbr L lu nu x)[i].2.1) := rfl
      have z9 := z7.to sub9
      have hmem : (nbr L lu nu x)[i] ∈ nbr L lu nu x := List.getElem_mem hlt
      have hrg := nbr_rg lok hmem
      have hrc : Rc L lu nu n (nbr L lu nu x)[i].2.1 := .tail hx (List.mem_map.2 ⟨_, hmem, rfl⟩)
      have acc9 := acc7.sub sub9
      have etake : (nbr L lu nu x).take (i + 1) = (nbr L lu nu x).take i ++ [(nbr L lu nu x)[i]] := by rw [List.take_add_one, List.getElem?_eq_getElem hlt]; rfl
      simp only [addOff_ptr, Nat.zero_add, rd1_mk h9, e1, optK_mk]
      refine z9.has (by omega) ?_
      simp only [unary_not, optK_mk]
      by_cases hin : (nbr L lu nu x)[i].2.1 ∈ (Y ++ [x]) ++ W
      · rw [decide_eq_true hin]
        simp only [Bool.not_true, boolK_false, vc_topo_Graph_reach_1_j2, arith_add, optK_mk]
        rw [wrap64 (by omega) (by omega)]
        refine ⟨_, by omega, i + 1, W, wv, rfl, by omega, rfl, z9, sn7, fun e he => ?_, acc9⟩
        rw [etake, List.mem_append, List.mem_singleton] at he
        rcases he with he | rfl
        · exact hd e he
        · exact hin
      · rw [decide_eq_false hin]
        simp only [Bool.not_false, boolK_true, addOff_ptr, Nat.zero_add, rd1_mk h9, e1, optK_mk]
        refine z9.put (by omega) fun s10 z10 u10 => ?_
        have hes : eb ≠ sb := by
          obtain ⟨a, b, q, _⟩ := z9.sn
          rintro rfl; rw [h9] at q; cases q
        have h10 : s10 eb = some (false, .cells 59 (lkR (nbr L lu nu x)[i])) := by rw [u10 eb hes]; exact h9
        simp only [addOff_ptr, Nat.zero_add, rd1_mk h10, e1, optK_mk]
        refine z10.push (by omega) fun wv2 s11 z11 k11 => ?_
        simp only [vc_topo_Graph_reach_1_j2, arith_add, optK_mk]
        rw [wrap64 (by omega) (by omega)]
        rw [List.append_assoc] at z11
        refine ⟨_, by omega, i + 1, W ++ [(nbr L lu nu x)[i].2.1], wv2, rfl, by omega, rfl, z11, sn7.push hin hrc, fun e he => ?_, ?_⟩
        · rw [← List.append_assoc]
          rw [etake, List.mem_append, List.mem_singleton] at he
          rcases he with he | rfl
          · exact List.mem_append_left _ (hd e he)
          · simp
        · obtain ⟨q1, q2⟩ := acc9
          refine ⟨q1, ?_⟩
          rcases q2 with q2 | ⟨b, w1, w2, w3⟩
          · exact .inl q2
          · refine .inr ⟨b, w1, w2, k11 b _ ?_ fun b' o' n' k' e' => ?_⟩
            · have : b ≠ sb := by
                obtain ⟨a', b', q, _⟩ := z9.sn
                rintro rfl; rw [w3] at q; cases q
              rw [u10 b this]; exact w3
            · obtain ⟨cs, hb⟩ := z9.wk.1.blk e'
              rintro rfl; rw [w3] at hb; cases hb
    · have hge : i = (nbr L lu nu x).length := by have := of_decide_eq_false hge; omega
      subst hge
      rw [List.take_length] at hd
      refine ⟨N - (Y ++ [x]).length, by rw [List.length_append, List.length_singleton]; omega, Y ++ [x], W, wv, rfl, rfl, z7, sn7.nd, sn7.rc, fun a ha b hb => ?_, sn7.st⟩
      rw [List.mem_append, List.mem_singleton] at ha
      rcases ha with ha | rfl
      · exact sn7.cl a ha b hb
      · obtain ⟨e, he, rfl⟩ := List.mem_map.1 hb
        exact hd e he
  · have hzero : W = [] := by
      have := of_decide_eq_false hzero
      cases W with
      | nil => rfl
      | cons x W => simp only [List.length_cons] at this; omega
    subst hzero
    rw [List.append_nil] at z4
    exact hK s4 sb Y wv z4 sn
theorem Sn.iff (h : Sn L lu nu n Y Y []) : Y.Nodup ∧ ∀ x, x ∈ Y ↔ Rc L lu nu n x := by
  obtain ⟨a, b, c, d⟩ := h
  simp only [List.append_nil] at a b c d
  refine ⟨a, fun x => ⟨b x, fun hx => ?_⟩⟩
  induction hx with
  | refl => exact d
  | tail _ h2 ih => exact c _ ih _ h2
end Go.AM
namespace Go.AM
open Go Go.Proofs
variable {K : AVal → Heap → Prop} {s s' s0 : Heap} {t : Bool} {g : Nat} {lv : AVal} {N : Nat} {lu nu : Nat → Bool} {L : List Lk} {n : Int}
theorem asc_ext : ∀ {l m : List Int}, l.Pairwise (· < ·) → m.Pairwise (· < ·) → (∀ x, x ∈ l ↔ x ∈ m) → l = m := by
  intro l
  induction l with
  | nil =>
    intro m _ _ h
    cases m with
    | nil => rfl
    | cons b m => exact absurd ((h b).2 (by simp)) (by simp)
  | cons a l ih =>
    intro m h1 h2 h
    cases m with
    | nil => exact absurd ((h a).1 (by simp)) (by simp)
    | cons b m =>
      obtain ⟨h3, h4⟩ := List.pairwise_cons.1 h1
      obtain ⟨h5, h6⟩ := List.pairwise_cons.1 h2
      have e : a = b := by
        rcases List.mem_cons.1 ((h a).1 (by simp)) with e | e
        · exact e
        · rcases List.mem_cons.1 ((h b).2 (by simp)) with q | q
          · exact q.symm
          · have := h3 b q; have := h5 a e; omega
      subst e
      rw [ih h4 h6 fun x => ⟨fun hx => ?_, fun hx => ?_⟩]
      · rcases List.mem_cons.1 ((h x).1 (by simp [hx])) with e | e
        · have := h3 x hx; omega
        · exact e
      · rcases List.mem_cons.1 ((h x).2 (by simp [hx])) with e | e
        · have := h5 x hx; omega
        · exact e
def ups (N : Nat) : List Int := (List.range N).map fun i : Nat => (i : Int)
theorem ups_asc : (ups N).Pairwise (· < ·) := by
  unfold ups
  rw [List.pairwise_map]
  exact List.pairwise_lt_range.imp fun h => by omega
theorem mem_ups {x : Int} : x ∈ ups N ↔ 0 ≤ x ∧ x < N := by
  unfold ups
  rw [List.mem_map]
  constructor
  · rintro ⟨i, hi, rfl⟩; have := List.mem_range.1 hi; omega
  · rintro ⟨a, b⟩; exact ⟨x.toNat, List.mem_range.2 (by omega), by omega⟩
/-- the component of a node -/
noncomputable def comp (N : Nat) (L : List Lk) (lu nu : Nat → Bool) (n : Int) : List Int := if aliveI N nu n = true then (ups N).filter (fun x => @decide (Rc L lu nu n x) (Classical.propDecidable _)) else []
theorem comp_asc : (comp N L lu nu n).Pairwise (· < ·) := by
  unfold comp
  split
  · exact ups_asc.filter _
  · exact .nil
theorem alive_rg (h : aliveI N nu n = true) : (0 ≤ n ∧ n < N) ∧ nu n.toNat = true := by
  unfold aliveI at h
  rw [Bool.and_eq_true, decide_eq_true_eq] at h
  exact h
theorem mem_comp (lok : LOk N L) {x : Int} : x ∈ comp N L lu nu n ↔ aliveI N nu n = true ∧ Rc L lu nu n x := by
  unfold comp
  split
  · rename_i h
    rw [List.mem_filter, mem_ups, @decide_eq_true_eq _ (Classical.propDecidable _)]
    exact ⟨fun q => ⟨h, q.2⟩, fun q => ⟨q.2.rg lok (alive_rg h).1, q.2⟩⟩
  · rename_i h
    exact ⟨fun q => (by simp at q), fun q => absurd q.1 h⟩
theorem sorted_comp (lok : LOk N L) (ha : aliveI N nu n = true) {Y : List Int} (h : Y.Nodup) (hY : ∀ x, x ∈ Y ↔ Rc L lu nu n x) : sortI Y = comp N L lu nu n := by
  refine asc_ext ?_ comp_asc fun x => ?_
  · have nd : (sortI Y).Nodup := (sortI_perm Y).nodup_iff.2 h
    exact ((sortI_sorted Y).and nd).imp fun ⟨a, b⟩ => by omega
  · rw [mem_comp lok, (sortI_perm Y).mem_iff, hY]
    exact ⟨fun q => ⟨ha, q⟩, fun q => q.2⟩
theorem Acc.izs {v : AVal} {l : List Int} (h : Own0 s v l) (hf : ∀ b o n k, v = .slc b o n k 1 → s0 b = none) : Acc 3 s0 s v (izs l) := by
  rcases h with ⟨a, rfl⟩ | ⟨b, a, h2⟩
  · exact .inl ⟨a, rfl⟩
  · exact .inr ⟨b, hf _ _ _ _ a, by rw [List.length_map]; exact a, h2⟩
theorem Seq_in {p1 p2 : Nat} (z : GRd t s g lv N L lu nu) (hn : 0 ≤ n ∧ n < N) (hp1 : ∃ t e, s p1 = some (t, .cells e [.int .i64 n])) (hp2 : ∃ t e, s p2 = some (t, .cells e [.ptr g 0]))
    (hK : ∀ v s' Y, Sub s s' → Own0 s' v Y → (∀ b o n k, v = .slc b o n k 1 → s b = none) → Sn L lu nu n Y Y [] → K v s') : wpCall Try.prog XX 64 [.nilslc, .fn (.func 63) [] [.ptr p1 0, .ptr p2 0]] K s := by
  obtain ⟨t1, e1, hp1⟩ := hp1
  obtain ⟨t2, e2, hp2⟩ := hp2
  refine vc_slices_AppendSeq___int_int__in (box_step rfl fun c s3 hc h3 u3 => ⟨by kernel_rfl, trivial, fun l d hl => ?_⟩)
  have sub3 := u3.sub hc
  have u6 : Upto l s3 (hset s3 l (false, .loop .ready none 13 [(2, .ptr c 0)] [7] (rfAs 0 (bodyOf Try.f64)) (rfBo 0 (bodyOf Try.f64)) d)) := fun _ hi => hset_other hi
  have b6 : (hset s3 l (false, .loop .ready none 13 [(2, .ptr c 0)] [7] (rfAs 0 (bodyOf Try.f64)) (rfBo 0 (bodyOf Try.f64)) d)) l = _ := hset_eq
  show wpCall Try.prog XX 63 [.yield l, .ptr p1 0, .ptr p2 0] _ (hset s3 l (false, .loop .ready none 13 [(2, .ptr c 0)] [7] (rfAs 0 (bodyOf Try.f64)) (rfBo 0 (bodyOf Try.f64)) d))
  generalize hset s3 l (false, .loop .ready none 13 [(2, .ptr c 0)] [7] (rfAs 0 (bodyOf Try.f64)) (rfBo 0 (bodyOf Try.f64)) d) = s6 at u6 b6
  have sub6 := u6.sub hl
  have hl0 : s l = none := by
    cases q : s l with
    | none => rfl
    | some y => rw [sub3 l y q] at hl; cases hl
  refine reach1_in z hn (by rw [rd1_mk hp1]; rfl) (by rw [rd1_mk hp2]; rfl) (fun s' hs => ⟨by rw [rd1_mk (hs _ _ hp1)]; rfl, by rw [rd1_mk (hs _ _ hp2)]; rfl⟩) (sub3.trans sub6) hl0 hc b6 (sub6 _ _ h3) fun s7 sb Y wv z7 sn => ?_
  unfold doneK3
  rw [z7.lp]
  refine ⟨by simp, ?_⟩
  obtain ⟨av, q1, q2, q3, _⟩ := z7.ac
  have hlc : c ≠ l := by rintro rfl; rw [h3] at hl; cases hl
  have c8 : hdel s7 l c = some (false, .cells 40 [av]) := by rw [hdel_ne hlc]; exact q1
  simp only [rd1_mk c8, List.getElem?_cons_zero, optK_mk]
  refine hK av _ Y (fun i e hi => ?_) (q2.mono fun b o n k ev e hb => ?_) q3 sn
  · rw [hdel_ne (ne_of_some hl0 hi)]; exact z7.sub i e hi
  · rw [hdel_ne]; exact hb
    rintro rfl
    obtain ⟨cs, hb2⟩ := q2.blk ev
    rw [z7.lp] at hb2; cases hb2
theorem Component_in (z : GRd t s g lv N L lu nu) (hK : ∀ v s', Sub s s' → Acc 3 s s' v (izs (comp N L lu nu n)) → K v s') : wpCall Try.prog XX 27 [.ptr g 0, .int .i64 n] K s := by
  refine vc_topo_Graph_Component_in (Alive_in z ?_)
  simp only [unary_not, optK_mk]
  cases ha : aliveI N nu n with
  | false =>
    simp only [Bool.not_false, boolK_true]
    exact hK _ _ (.refl s) (.inl ⟨rfl, by unfold comp; rw [ha]; rfl⟩)
  | true =>
    simp only [Bool.not_true, boolK_false]
    refine vc_topo_Graph_reach_in (box_step rfl fun p2 s1 hp2 h1 u1 => box_step rfl fun p1 s2 hp1 h2 u2 => ?_)
    have sub2 : Sub s s2 := (u1.sub hp2).trans (u2.sub hp1)
    refine vc_slices_Sorted_int__in (vc_slices_Collect_int__in ?_)
    refine Seq_in (z.sub sub2) (alive_rg ha).1 ⟨_, _, h2⟩ ⟨_, _, u2.sub hp1 _ _ h1⟩ fun v s3 Y sub3 o3 f3 sn => ?_
    obtain ⟨nd, hY⟩ := sn.iff
    have es := sorted_comp z.lok ha nd hY
    have hne : Y ≠ [] := by rintro rfl; exact absurd ((hY n).2 .refl) (by simp)
    rcases o3 with ⟨_, e⟩ | ⟨b, rfl, hb⟩
    · exact absurd e hne
    have hlen := sn.len z.lok (alive_rg ha).1
    have hnn := z.lok.nn
    refine wp_sort hb (by omega) fun s4 h4 u4 => ?_
    have hb0 := f3 _ _ _ _ rfl
    have hbs : s b = none := by
      cases q : s b with
      | none => rfl
      | some y => rw [sub2 b y q] at hb0; cases hb0
    refine hK _ s4 (fun i e hi => ?_) (.inr ⟨b, hbs, ?_, ?_⟩)
    · rw [u4 i (ne_of_some hbs hi)]; exact sub3 i e (sub2 i e hi)
    · rw [← es, List.length_map, (sortI_perm Y).length_eq]
    · rw [← es]; exact h4
end Go.AM
namespace Go.AM
open Go Go.Proofs
variable {K : AVal → Heap → Prop} {s s' s0 : Heap} {t : Bool} {g : Nat} {lv : AVal} {N : Nat} {lu nu : Nat → Bool} {L : List Lk} {n : Int}
/-! ### reachability -/
theorem edgeAt_get {i : Nat} (hi : i < L.length) : edgeAt L lu nu n i = if upB L lu nu i = true then (if L[i].1 = n then some ((i : Int), L[i].2.1, L[i].2.2) else if L[i].2.1 = n then some ((i : Int), L[i].1, L[i].2.2) else none) else none := by
  unfold edgeAt; rw [List.getElem?_eq_getElem hi]
theorem mem_nbr (lok : LOk N L) {e : Lk} : e ∈ nbr L lu nu n ↔ ∃ i, ∃ hi : i < L.length, upB L lu nu i = true ∧ (L[i].1 = n ∧ e = ((i : Int), L[i].2.1, L[i].2.2) ∨ L[i].2.1 = n ∧ e = ((i : Int), L[i].1, L[i].2.2)) := by
  unfold nbr nbrT
  rw [List.mem_filterMap]
  constructor
  · rintro ⟨i, hi, he⟩
    have hi : i < L.length := List.mem_range.1 hi
    rw [edgeAt_get hi] at he
    refine ⟨i, hi, ?_⟩
    split at he
    · rename_i hu
      refine ⟨hu, ?_⟩
      split at he
      · rename_i ha
        exact .inl ⟨ha, by cases he; rfl⟩
      · split at he
        · rename_i hb
          exact .inr ⟨hb, by cases he; rfl⟩
        · cases he
    · cases he
  · rintro ⟨i, hi, hu, h⟩
    refine ⟨i, List.mem_range.2 hi, ?_⟩
    rw [edgeAt_get hi, if_pos hu]
    rcases h with ⟨h1, rfl⟩ | ⟨h1, rfl⟩
    · rw [if_pos h1]
    · have := (lok.ok _ (List.getElem_mem hi)).2.2.1
      rw [if_neg (by rw [← h1]; exact this), if_pos h1]
theorem mem_nod (lok : LOk N L) {m : Int} : m ∈ nod L lu nu n ↔ ∃ i, ∃ hi : i < L.length, upB L lu nu i = true ∧ (L[i].1 = n ∧ L[i].2.1 = m ∨ L[i].2.1 = n ∧ L[i].1 = m) := by
  unfold nod
  rw [List.mem_map]
  constructor
  · rintro ⟨e, he, rfl⟩
    obtain ⟨i, hi, hu, h⟩ := (mem_nbr lok).1 he
    refine ⟨i, hi, hu, ?_⟩
    rcases h with ⟨h1, rfl⟩ | ⟨h1, rfl⟩
    · exact .inl ⟨h1, rfl⟩
    · exact .inr ⟨h1, rfl⟩
  · rintro ⟨i, hi, hu, h⟩
    rcases h with ⟨h1, rfl⟩ | ⟨h1, rfl⟩
    · exact ⟨((i : Int), L[i].2.1, L[i].2.2), (mem_nbr lok).2 ⟨i, hi, hu, .inl ⟨h1, rfl⟩⟩, rfl⟩
    · exact ⟨((i : Int), L[i].1, L[i].2.2), (mem_nbr lok).2 ⟨i, hi, hu, .inr ⟨h1, rfl⟩⟩, rfl⟩
theorem nod_symm (lok : LOk N L) {m : Int} (h : m ∈ nod L lu nu n) : n ∈ nod L lu nu m := by
  obtain ⟨i, hi, hu, h⟩ := (mem_nod lok).1 h
  exact (mem_nod lok).2 ⟨i, hi, hu, h.elim (fun ⟨a, b⟩ => .inr ⟨b, a⟩) fun ⟨a, b⟩ => .inl ⟨b, a⟩⟩
theorem up_ends (lok : LOk N L) {i : Nat} (hi : i < L.length) (hu : upB L lu nu i = true) : lu i = true ∧ aliveI N nu L[i].1 = true ∧ aliveI N nu L[i].2.1 = true := by
  rw [upB_get hi, Bool.and_eq_true, Bool.and_eq_true] at hu
  obtain ⟨a, b, _⟩ := lok.ok _ (List.getElem_mem hi)
  unfold aliveI
  rw [decide_eq_true a, decide_eq_true b]
  exact ⟨hu.1, by simpa using hu.2.1, by simpa using hu.2.2⟩
theorem nod_alive (lok : LOk N L) {m : Int} (h : m ∈ nod L lu nu n) : aliveI N nu n = true ∧ aliveI N nu m = true := by
  obtain ⟨i, hi, hu, h⟩ := (mem_nod lok).1 h
  obtain ⟨_, a, b⟩ := up_ends lok hi hu
  rcases h with ⟨h1, h2⟩ | ⟨h1, h2⟩ <;> rw [← h1, ← h2] <;> exact ⟨by assumption, by assumption⟩
theorem Rc.trans {a b c : Int} (h : Rc L lu nu a b) (k : Rc L lu nu b c) : Rc L lu nu a c := by
  induction k with
  | refl => exact h
  | tail _ h2 ih => exact ih.tail h2
theorem Rc.symm (lok : LOk N L) {a b : Int} (h : Rc L lu nu a b) : Rc L lu nu b a := by
  induction h with
  | refl => exact .refl
  | tail _ h2 ih => exact (Rc.tail .refl (nod_symm lok h2)).trans ih
theorem Rc.alive (lok : LOk N L) {a b : Int} (h : Rc L lu nu a b) (ha : aliveI N nu a = true) : aliveI N nu b = true := by
  cases h with
  | refl => exact ha
  | tail _ h2 => exact (nod_alive lok h2).2
theorem comp_self (lok : LOk N L) (ha : aliveI N nu n = true) : n ∈ comp N L lu nu n := (mem_comp lok).2 ⟨ha, .refl⟩
theorem comp_eq (lok : LOk N L) {m : Int} (h : m ∈ comp N L lu nu n) : comp N L lu nu m = comp N L lu nu n := by
  obtain ⟨ha, hr⟩ := (mem_comp lok).1 h
  have hm := hr.alive lok ha
  refine asc_ext comp_asc comp_asc fun x => ?_
  rw [mem_comp lok, mem_comp lok]
  exact ⟨fun q => ⟨ha, hr.trans q.2⟩, fun q => ⟨hm, (hr.symm lok).trans q.2⟩⟩
/-! ### all components -/
noncomputable def isRep (N : Nat) (L : List Lk) (lu nu : Nat → Bool) (n : Int) : Bool := decide ((comp N L lu nu n).head? = some n)
noncomputable def reps (N : Nat) (L : List Lk) (lu nu : Nat → Bool) (k : Nat) : List Int := (ups k).filter (isRep N L lu nu)
noncomputable def cmps (N : Nat) (L : List Lk) (lu nu : Nat → Bool) : List (List Int) := (reps N L lu nu N).map (comp N L lu nu)
theorem ups_succ {k : Nat} : ups (k + 1) = ups k ++ [(k : Int)] := by unfold ups; rw [List.range_succ, List.map_append]; rfl
theorem rep_alive (h : isRep N L lu nu n = true) : aliveI N nu n = true := by
  unfold isRep at h
  rw [decide_eq_true_eq] at h
  unfold comp at h
  split at h
  · assumption
  · cases h
theorem reps_succ {k : Nat} : reps N L lu nu (k + 1) = reps N L lu nu k ++ (if isRep N L lu nu k = true then [(k : Int)] else []) := by
  unfold reps
  rw [ups_succ, List.filter_append]
  congr 1
  by_cases h : isRep N L lu nu k = true
  · rw [if_pos h, List.filter_cons_of_pos h]; rfl
  · rw [if_neg h, List.filter_cons_of_neg h]; rfl
theorem rep_iff (lok : LOk N L) {k : Nat} (ha : aliveI N nu k = true) : isRep N L lu nu k = true ↔ ¬ ∃ m ∈ reps N L lu nu k, (k : Int) ∈ comp N L lu nu m := by
  constructor
  · rintro h ⟨m, hm, hk⟩
    unfold reps at hm
    rw [List.mem_filter, mem_ups] at hm
    have e := comp_eq lok hk
    unfold isRep at h hm
    rw [decide_eq_true_eq] at h
    have h2 : (comp N L lu nu m).head? = some m := of_decide_eq_true hm.2
    rw [e, h2] at h
    injection h with h
    omega
  · intro h
    have hk := comp_self (lu := lu) lok ha
    obtain ⟨x, r, hx⟩ : ∃ x r, comp N L lu nu k = x :: r := by
      cases q : comp N L lu nu k with
      | nil => rw [q] at hk; simp at hk
      | cons x r => exact ⟨x, r, rfl⟩
    unfold isRep
    rw [decide_eq_true_eq, hx, List.head?_cons]
    by_cases e : x = k
    · rw [e]
    · exfalso
      have hxc : x ∈ comp N L lu nu k := by rw [hx]; simp
      have hasc := comp_asc (N := N) (L := L) (lu := lu) (nu := nu) (n := k)
      rw [hx] at hk hasc
      have hlt : x < k := by
        rcases List.mem_cons.1 hk with q | q
        · exact absurd q.symm e
        · exact (List.pairwise_cons.1 hasc).1 _ q
      have ec := comp_eq lok hxc
      have hrg := (((mem_comp lok).1 hxc).2).rg lok (alive_rg ha).1
      refine h ⟨x, ?_, by rw [ec, hx]; exact hk⟩
      unfold reps
      rw [List.mem_filter, mem_ups]
      refine ⟨⟨hrg.1, hlt⟩, ?_⟩
      unfold isRep
      rw [ec, hx]; simp
theorem not_rep (h : aliveI N nu n = false) : isRep N L lu nu n = false := by
  cases q : isRep N L lu nu n with
  | false => rfl
  | true => rw [rep_alive q] at h; cases h
/-! ### sets of bits -/
def St (s : Heap) (sb : Nat) (S : List Int) : Prop := ∃ a b : Nat, s sb = some (false, .cells 74 [.int .u64 (a : Int), .int .u64 (b : Int)]) ∧ Wd a b (fun j => decide ((j : Int) ∈ S))
theorem St.new {sb : Nat} (h : s sb = some (false, .cells 74 [(.int .u64 0), (.int .u64 0)])) : St s sb [] := ⟨0, 0, h, by simp [Wd]⟩
theorem St.has {sb : Nat} {S : List Int} {x : Int} (z : St s sb S) (hx : 0 ≤ x ∧ x < 128) (hK : K (.bool (decide (x ∈ S))) s) : wpCall Try.prog XX 54 [.ptr sb 0, .int .i64 x] K s := by
  obtain ⟨a, b, h8, h9⟩ := z
  obtain ⟨i, rfl⟩ : ∃ i : Nat, x = i := ⟨x.toNat, by omega⟩
  obtain ⟨w, hw, g1, g2⟩ := h9.bit (i := i) (by omega)
  refine has_in (w := w) (by omega) ?_ g1 (by rw [g2]; exact hK)
  rw [rd1_mk h8]
  rcases hw with ⟨e, rfl⟩ | ⟨e, rfl⟩ <;> rw [e] <;> rfl
theorem St.put {sb : Nat} {S : List Int} {x : Int} (z : St s sb S) (hx : 0 ≤ x ∧ x < 128) (hK : ∀ s', St s' sb (S ++ [x]) → Upto sb s s' → K (.tup []) s') : wpCall Try.prog XX 44 [.ptr sb 0, .int .i64 x, .bool true] K s := by
  obtain ⟨a, b, h8, h9⟩ := z
  obtain ⟨i, rfl⟩ : ∃ i : Nat, x = i := ⟨x.toNat, by omega⟩
  have hi : i < 128 := by omega
  have ef : upd1 (fun j : Nat => decide ((j : Int) ∈ S)) i true = fun j : Nat => decide ((j : Int) ∈ S ++ [(i : Int)]) := by
    funext j
    unfold upd1
    by_cases e : j = i
    · rw [if_pos e, e]; simp
    · rw [if_neg e]
      have : ¬ (j : Int) = (i : Int) := by omega
      simp [this]
  have hp := h9.put (x := true) hi
  rw [ef] at hp
  rcases (show i / 64 = 0 ∨ i / 64 = 1 by omega) with e | e
  · refine put_in (w := a) hi h8 (by rw [e]; rfl) h9.1 fun s' v g1 g2 g3 u => hK s' ⟨v, b, ?_, hp.1 e v g2 g3⟩ u
    rw [g1, e]; rfl
  · refine put_in (w := b) hi h8 (by rw [e]; rfl) h9.2.1 fun s' v g1 g2 g3 u => hK s' ⟨a, v, ?_, hp.2 e v g2 g3⟩ u
    rw [g1, e]; rfl
/-! ### lists of lists -/
abbrev rws (bs : List Nat) (ls : List (List Int)) : List AVal := List.zipWith (fun b l => AVal.slc b 0 l.length none 1) bs ls
structure Cs (s0 s : Heap) (v : AVal) (bs : List Nat) (ls : List (List Int)) : Prop where
  len : bs.length = ls.length
  nd : bs.Nodup
  acc : Acc 40 s0 s v (rws bs ls)
  rw : ∀ (i b : Nat) (l : List Int), bs[i]? = some b → ls[i]? = some l → s0 b = none ∧ s b = some (false, .cells 3 (izs l))
theorem Acc.blk {e : TypeId} {v : AVal} {m : List AVal} {b o n : Nat} {k : Option Nat} (h : Acc e s0 s v m) (ev : v = .slc b o n k 1) : s0 b = none ∧ o = 0 ∧ n = m.length ∧ k = none ∧ s b = some (false, .cells e m) := by
  rcases h with ⟨a, _⟩ | ⟨b', h0, a, h2⟩
  · rw [a] at ev; cases ev
  · rw [a] at ev; injection ev with e1 e2 e3 e4
    subst e1; exact ⟨h0, e2.symm, e3.symm, e4.symm, h2⟩
theorem Acc.to {e : TypeId} {v : AVal} {m : List AVal} (h : Acc e s0 s v m) (k : ∀ b o n c, v = .slc b o n c 1 → ∀ x, s b = some x → s' b = some x) : Acc e s0 s' v m := by
  rcases h with h | ⟨b, h0, a, h2⟩
  · exact .inl h
  · exact .inr ⟨b, h0, a, k _ _ _ _ a _ h2⟩
theorem Acc.old {e : TypeId} {s1 : Heap} {v : AVal} {m : List AVal} (h : Acc e s1 s v m) (hs : Sub s0 s1) : Acc e s0 s v m := by
  rcases h with h | ⟨b, h0, a, h2⟩
  · exact .inl h
  · refine .inr ⟨b, ?_, a, h2⟩
    cases q : s0 b with
    | none => rfl
    | some y => rw [hs b y q] at h0; cases h0
theorem Cs.to {v : AVal} {bs : List Nat} {ls : List (List Int)} (z : Cs s0 s v bs ls) (k : ∀ b x, s b = some x → (∃ m, x = (false, .cells 40 m)) ∨ (∃ m, x = (false, .cells 3 m)) → s' b = some x) : Cs s0 s' v bs ls := by
  obtain ⟨h1, h2, h3, h4⟩ := z
  refine ⟨h1, h2, h3.to fun b o n c e x hx => k b x hx ?_, fun i b l e1 e2 => ⟨(h4 i b l e1 e2).1, k b _ (h4 i b l e1 e2).2 (.inr ⟨_, rfl⟩)⟩⟩
  have := (h3.blk e).2.2.2.2
  rw [hx] at this
  exact .inl ⟨_, by injection this⟩
theorem Cs.sub {v : AVal} {bs : List Nat} {ls : List (List Int)} (z : Cs s0 s v bs ls) (k : Sub s s') : Cs s0 s' v bs ls := z.to fun b x hx _ => k b x hx
/-- one list more -/
theorem Cs.push {v w : AVal} {bs : List Nat} {ls : List (List Int)} {l : List Int} {c : Nat} (z : Cs s0 s v bs ls) (hw : w = .slc c 0 l.length none 1) (hc : s c = some (false, .cells 3 (izs l))) (hc0 : s0 c = none) (hcb : c ∉ bs) (hsub : Sub s0 s) (hl : ls.length ≤ 1000)
    (hK : ∀ v' s', Cs s0 s' v' (bs ++ [c]) (ls ++ [l]) → (∀ i e, s i = some e → (∀ m, e ≠ (false, .cells 40 m)) → s' i = some e) → Sub s0 s' → K v' s') :
    optK (fillR (repl 1 [.nilslc]) [(0, 1, w)]) fun c_20 => allOne c_20 = true ∧ newK 40 c_20 (fun b_21 s_22 => appK 40 1 v (.slc b_21 0 1 (some 1) 1) K s_22) s := by
  obtain ⟨h1, h2, h3, h4⟩ := z
  refine lit1_step (elem := 40) rfl (by rw [hw]; rfl) fun b1 s1 hb1 q1 u1 => ?_
  have sub1 := u1.sub hb1
  have lit : Sl s1 (.slc b1 0 1 (some 1) 1) [w] := Sl.mk q1 rfl (by simp)
  have h31 : Acc 40 s0 s1 v (rws bs ls) := h3.to fun b _ _ _ _ x hx => sub1 b x hx
  have hz : (rws bs ls).length = ls.length := by rw [List.length_zipWith, h1, Nat.min_self]
  refine h31.app lit (by simp) (by rw [hz]; simp; omega) (fun i hi => ?_) fun v' s2 a2 k2 => ?_
  · cases q : s0 i with
    | none => exact absurd q hi
    | some y => rw [sub1 i y (hsub i y q)]; simp
  have keep : ∀ i e, s i = some e → (∀ m, e ≠ (false, .cells 40 m)) → s2 i = some e := fun i e hi hne => k2 i e (sub1 i e hi) fun b ev eb => by
    have := (h3.blk ev).2.2.2.2
    rw [← eb, hi] at this
    injection this with this
    exact hne _ this
  refine hK v' s2 ⟨by rw [List.length_append, List.length_append, h1]; rfl, List.nodup_append.2 ⟨h2, by simp, fun a ha b hb => by rw [List.mem_singleton] at hb; rintro rfl; rw [hb] at ha; exact hcb ha⟩, ?_, fun i b l' e1 e2 => ?_⟩ keep fun i e hi => ?_
  · have : rws (bs ++ [c]) (ls ++ [l]) = rws bs ls ++ [w] := by
      rw [rws, List.zipWith_append h1, hw]; rfl
    rw [this]; exact a2
  · by_cases hi : i < bs.length
    · rw [List.getElem?_append_left hi] at e1
      rw [List.getElem?_append_left (by omega)] at e2
      obtain ⟨a, b'⟩ := h4 i b l' e1 e2
      exact ⟨a, keep _ _ b' fun m e => by cases e⟩
    · rw [List.getElem?_append_right (by omega)] at e1
      rw [List.getElem?_append_right (by omega), ← h1] at e2
      cases hj : i - bs.length with
      | zero =>
        rw [hj] at e1 e2
        cases e1; cases e2
        exact ⟨hc0, keep _ _ hc fun m e => by cases e⟩
      | succ j => rw [hj] at e1; cases e1
  · refine k2 i e (sub1 i e (hsub i e hi)) fun b ev eb => ?_
    rw [← eb] at ev
    have := (h31.blk ev).1
    rw [hi] at this; cases this
theorem Components_in (z : GRd t s g lv N L lu nu) (hK : ∀ v bs s', Sub s s' → Cs s s' v bs (cmps N L lu nu) → K v s') : wpCall Try.prog XX 29 [.ptr g 0] K s := by
  have lok := z.lok
  have hnn := lok.nn
  refine vc_topo_Graph_Components_in (new_step fun sb s1 hsb h1 u1 => ?_)
  have sub1 := u1.sub hsb
  refine Nodes_in (z.sub sub1) ?_
  refine ⟨fun ys s2 m => ∃ (k : Nat) (v : AVal) (bs : List Nat) (S : List Int), ys = [v, .int .i64 k] ∧ k ≤ N ∧ m = N - k ∧ Sub s s2 ∧ St s2 sb S ∧ Cs s s2 v bs ((reps N L lu nu k).map (comp N L lu nu)) ∧ (∀ x, x ∈ S ↔ ∃ m ∈ reps N L lu nu k, x ∈ comp N L lu nu m), ⟨_, 0, .nilslc, [], [], rfl, by omega, rfl, sub1, .new h1, ⟨rfl, by simp, .inl ⟨rfl, rfl⟩, fun i b l e => by simp at e⟩, fun x => by simp [reps, ups]⟩, ?_⟩
  rintro f s2 m ⟨k, v, bs, S, hy, hk, rfl, sub2, st2, cs2, hS⟩
  simp only [List.cons.injEq, and_true] at hy
  rw [hy.1, hy.2]
  simp only [vc_topo_Graph_Components_l0, arith_lss, optK_mk]
  refine boolK_mk (fun hlt => ?_) (fun hge => ?_)
  · have hlt : k < N := by have := of_decide_eq_true hlt; omega
    have z2 := z.sub sub2
    have e1 : IntKind.i64.wrap ((k : Int) + 1) = ((k + 1 : Nat) : Int) := by rw [wrap64 (by omega) (by omega)]; omega
    have skip : isRep N L lu nu k = false → vc_topo_Graph_Components_j1 XX v (.int .i64 (k : Int)) (fun ys s2 m => ∃ (k : Nat) (v : AVal) (bs : List Nat) (S : List Int), ys = [v, .int .i64 k] ∧ k ≤ N ∧ m = N - k ∧ Sub s s2 ∧ St s2 sb S ∧ Cs s s2 v bs ((reps N L lu nu k).map (comp N L lu nu)) ∧ (∀ x, x ∈ S ↔ ∃ m ∈ reps N L lu nu k, x ∈ comp N L lu nu m)) (N - k) K s2 := fun hr => by
      have er : reps N L lu nu (k + 1) = reps N L lu nu k := by rw [reps_succ, hr]; simp
      simp only [vc_topo_Graph_Components_j1, arith_add, optK_mk, e1]
      exact ⟨_, by omega, k + 1, v, bs, S, rfl, by omega, rfl, sub2, st2, by rw [er]; exact cs2, by rw [er]; exact hS⟩
    refine Alive_in z2 ?_
    simp only [unary_not, optK_mk]
    cases ha : aliveI N nu k with
    | false =>
      simp only [Bool.not_false, boolK_true, vc_topo_Graph_Components_j2, pickV_true, optK_mk]
      exact skip (not_rep ha)
    | true =>
      simp only [Bool.not_true, boolK_false]
      refine st2.has (by omega) ?_
      simp only [vc_topo_Graph_Components_j2, pickV_false, optK_mk]
      refine boolK_mk (fun hin => ?_) (fun hnin => ?_)
      · refine skip ?_
        cases q : isRep N L lu nu k with
        | false => rfl
        | true => exact absurd ((hS k).1 (of_decide_eq_true hin)) ((rep_iff lok ha).1 q)
      · have hrep : isRep N L lu nu k = true := (rep_iff lok ha).2 fun q => of_decide_eq_false hnin ((hS k).2 q)
        have er : reps N L lu nu (k + 1) = reps N L lu nu k ++ [(k : Int)] := by rw [reps_succ, hrep]; rfl
        refine Component_in z2 fun w s3 sub3 acc3 => ?_
        have cs3 := cs2.sub sub3
        have sub3' := sub2.trans sub3
        have st3 : St s3 sb S := by obtain ⟨a, b, q1, q2⟩ := st2; exact ⟨a, b, sub3 _ _ q1, q2⟩
        rcases acc3 with ⟨_, e⟩ | ⟨c, hc2, rfl, hc3⟩
        · have := comp_self (lu := lu) lok ha
          cases q : comp N L lu nu k with
          | nil => rw [q] at this; simp at this
          | cons x r => rw [q] at e; cases e
        rw [List.length_map]
        have hcs : c ≠ sb := by
          obtain ⟨a, b, q1, _⟩ := st3
          rintro rfl; rw [hc3] at q1; cases q1
        have hc0 : s c = none := by
          cases q : s c with
          | none => rfl
          | some y => rw [sub2 c y q] at hc2; cases hc2
        have hcb : c ∉ bs := fun hm => by
          obtain ⟨i, hi, e⟩ := List.getElem_of_mem hm
          have hi2 : i < ((reps N L lu nu k).map (comp N L lu nu)).length := by rw [← cs2.len]; exact hi
          have := (cs2.rw i c _ (by rw [List.getElem?_eq_getElem hi, e]) (List.getElem?_eq_getElem hi2)).2
          rw [hc2] at this; cases this
        simp only [lenOf_slc, optK_mk]
        refine ⟨fun ys s4 m => ∃ j : Nat, ys = [.int .i64 j] ∧ j ≤ (comp N L lu nu k).length ∧ m = (comp N L lu nu k).length - j ∧ Sub s s4 ∧ St s4 sb (S ++ (comp N L lu nu k).take j) ∧ Cs s s4 v bs ((reps N L lu nu k).map (comp N L lu nu)) ∧ s4 c = some (false, .cells 3 (izs (comp N L lu nu k))), ⟨_, 0, rfl, by omega, rfl, sub3', by rw [List.take_zero, List.append_nil]; exact st3, cs3, hc3⟩, ?_⟩
        rintro f s4 m ⟨j, hy, hj, rfl, sub4, st4, cs4, hc4⟩
        simp only [List.cons.injEq, and_true] at hy
        rw [hy]
        have hclen : (comp N L lu nu k).length ≤ N := by
          have := nodup_rg (N := N) (comp_asc (N := N) (L := L) (lu := lu) (nu := nu) (n := k) |>.imp fun h => by omega) fun x hx => (((mem_comp lok).1 hx).2).rg lok (alive_rg ha).1
          exact this
        simp only [vc_topo_Graph_Components_l3, arith_lss, optK_mk]
        refine boolK_mk (fun hlt2 => ?_) (fun hge2 => ?_)
        · have hlt2 : j < (comp N L lu nu k).length := by have := of_decide_eq_true hlt2; omega
          have sl4 : Sl s4 (.slc c 0 (comp N L lu nu k).length none 1) (izs (comp N L lu nu k)) := Sl.mk hc4 (by rw [List.length_map]) (by simp)
          obtain ⟨p, g1, g2⟩ := sl4.get (i := j) (by rw [List.length_map]; exact hlt2)
          have e2 : (izs (comp N L lu nu k))[j]? = some (.int .i64 (comp N L lu nu k)[j]) := by simp [hlt2]
          rw [e2] at g2
          have hx : (comp N L lu nu k)[j] ∈ comp N L lu nu k := List.getElem_mem hlt2
          have hrg := (((mem_comp lok).1 hx).2).rg lok (alive_rg ha).1
          simp only [g1, g2, optK_mk]
          refine st4.put (by omega) fun s5 st5 u5 => ?_
          simp only [arith_add, optK_mk]
          rw [wrap64 (by omega) (by omega)]
          have hsb0 : s sb = none := hsb
          refine ⟨_, by omega, j + 1, rfl, by omega, rfl, sub4.upto u5 hsb0, ?_, cs4.to fun b x hx q => ?_, ?_⟩
          · rw [List.append_assoc] at st5
            have : (comp N L lu nu k).take (j + 1) = (comp N L lu nu k).take j ++ [(comp N L lu nu k)[j]] := by rw [List.take_add_one, List.getElem?_eq_getElem hlt2]; rfl
            rw [this]; exact st5
          · rw [u5 b]; exact hx
            obtain ⟨a', b', q1, _⟩ := st4
            rintro rfl
            rw [q1] at hx
            injection hx with hx
            rcases q with ⟨m, q⟩ | ⟨m, q⟩ <;> rw [← hx] at q <;> cases q
          · rw [u5 c hcs]; exact hc4
        · have hge2 : j = (comp N L lu nu k).length := by have := of_decide_eq_false hge2; omega
          subst hge2
          rw [List.take_length] at st4
          have hrl : (reps N L lu nu k).length ≤ k := by
            unfold reps
            refine Nat.le_trans (List.length_filter_le _ _) ?_
            simp [ups]
          refine cs4.push rfl hc4 hc0 hcb sub4 (by rw [List.length_map]; omega) fun v' s5 cs5 k5 sub5 => ?_
          simp only [vc_topo_Graph_Components_j1, arith_add, optK_mk, e1]
          refine ⟨_, by omega, k + 1, v', bs ++ [c], S ++ comp N L lu nu k, rfl, by omega, rfl, sub5, ?_, ?_, fun x => ?_⟩
          · obtain ⟨a, b, q1, q2⟩ := st4
            exact ⟨a, b, k5 _ _ q1 fun m e => (by cases e), q2⟩
          · rw [er, List.map_append]; exact cs5
          · rw [er, List.mem_append, hS]
            constructor
            · rintro (⟨m, a, b⟩ | q)
              · exact ⟨m, List.mem_append_left _ a, b⟩
              · exact ⟨k, by simp, q⟩
            · rintro ⟨m, a, b⟩
              rw [List.mem_append, List.mem_singleton] at a
              rcases a with a | rfl
              · exact .inl ⟨m, a, b⟩
              · exact .inr b
  · have hge : k = N := by have := of_decide_eq_false hge; omega
    subst hge
    exact hK v bs s2 sub2 cs2
end Go.AM
namespace Go.AM
open Go Go.Proofs
variable {K : AVal → Heap → Prop} {s s' s0 : Heap} {t : Bool} {g : Nat} {lv : AVal} {N : Nat} {lu nu : Nat → Bool} {L : List Lk} {n : Int}
/-! ### lists -/
theorem Acc.app2 {e : TypeId} {v y : AVal} {l m : List AVal} (h : Acc e s0 s v l) (hy : Sl s y m) (hm : m ≠ []) (hl : l.length + m.length ≤ 16777216) (hsub : Sub s0 s)
    (hK : ∀ v' s', Sub s0 s' → Acc e s0 s' v' (l ++ m) → K v' s') : appK e 1 v y K s := by
  refine h.app hy hm hl (fun i hi => ?_) fun v' s' a k => hK v' s' (fun i x hi => k i x (hsub i x hi) fun b ev eb => ?_) a
  · cases q : s0 i with
    | none => exact absurd q hi
    | some y => rw [hsub i y q]; simp
  · have := (h.blk ev).1
    rw [← eb, hi] at this; cases this
theorem pushV {e : TypeId} {v x z : AVal} {l : List AVal} (h : Acc e s0 s v l) (hx : x.one = true) (hz : z.one = true) (hl : l.length ≤ 1000000) (hsub : Sub s0 s)
    (hK : ∀ v' s', Sub s0 s' → Acc e s0 s' v' (l ++ [x]) → K v' s') :
    optK (fillR (repl 1 [z]) [(0, 1, x)]) fun c => allOne c = true ∧ newK e c (fun b s => appK e 1 v (.slc b 0 1 (some 1) 1) K s) s := by
  refine lit1_step (elem := e) hz hx fun b1 s1 hb1 q1 u1 => ?_
  have sub1 := u1.sub hb1
  exact (h.to fun b _ _ _ _ x hx => sub1 b x hx).app2 (Sl.mk q1 rfl (by simp)) (by simp) (by simp; omega) (hsub.trans sub1) hK
theorem pushI {v : AVal} {l : List Int} {x : Int} (h : Acc 3 s0 s v (izs l)) (hl : l.length ≤ 1000000) (hsub : Sub s0 s)
    (hK : ∀ v' s', Sub s0 s' → Acc 3 s0 s' v' (izs (l ++ [x])) → K v' s') :
    optK (fillR (repl 1 [(.int .i64 0)]) [(0, 1, .int .i64 x)]) fun c => allOne c = true ∧ newK 3 c (fun b s => appK 3 1 v (.slc b 0 1 (some 1) 1) K s) s :=
  pushV h rfl rfl (by rw [List.length_map]; exact hl) hsub fun v' s' a b => hK v' s' a (by rw [izs, List.map_append]; exact b)
def btw (L : List Lk) (lu nu : Nat → Bool) (a b : Int) : List Int := ((nbr L lu nu a).filter fun e => decide (e.2.1 = b)).map (·.1)
theorem Between_in {a b : Int} (z : GRd t s g lv N L lu nu) (hK : ∀ v s', Sub s s' → Acc 3 s s' v (izs (btw L lu nu a b)) → K v s') : wpCall Try.prog XX 18 [.ptr g 0, .int .i64 a, .int .i64 b] K s := by
  have hll := z.lok.ll
  refine vc_topo_Graph_Between_in (Neighbors_in z fun ev s1 sub1 acc1 => ?_)
  have hnl : (nbr L lu nu a).length ≤ L.length := nbrT_len
  simp only [acc1.sl.len, List.length_map, optK_mk]
  refine ⟨fun ys s2 m => ∃ (i : Nat) (v : AVal), ys = [v, .int .i64 i] ∧ i ≤ (nbr L lu nu a).length ∧ m = (nbr L lu nu a).length - i ∧ Sub s1 s2 ∧ Acc 3 s1 s2 v (izs ((((nbr L lu nu a).take i).filter fun e => decide (e.2.1 = b)).map (·.1))), ⟨_, 0, .nilslc, rfl, by omega, rfl, .refl s1, .inl ⟨rfl, by simp⟩⟩, ?_⟩
  rintro f s2 m ⟨i, v, hy, hi, rfl, sub2, acc2⟩
  simp only [List.cons.injEq, and_true] at hy
  rw [hy.1, hy.2]
  simp only [vc_topo_Graph_Between_l0, arith_lss, optK_mk]
  refine boolK_mk (fun hlt => ?_) (fun hge => ?_)
  · have hlt : i < (nbr L lu nu a).length := by have := of_decide_eq_true hlt; omega
    obtain ⟨p, o, r1, r2, _⟩ := row_at (acc1.sl.sub sub2) hlt
    simp only [r1, r2, optK_mk]
    refine new_step fun eb s8 heb h8 u8 => wrAgg_step h8 rfl rfl rfl fun s9 h9 u9 => ?_
    have sub9 : Sub s2 s9 := (u8.sub heb).upto u9 heb
    have h9 : s9 eb = some (false, .cells 59 (lkR (nbr L lu nu a)[i])) := h9
    have e0 : (lkR (nbr L lu nu a)[i])[0]? = some (.int .i64 (nbr L lu nu a)[i].1) := rfl
    have e1 : (lkR (nbr L lu nu a)[i])[1]? = some (.int .i64 (nbr L lu nu a)[i].2.1) := rfl
    have et : (nbr L lu nu a).take (i + 1) = (nbr L lu nu a).take i ++ [(nbr L lu nu a)[i]] := by rw [List.take_add_one, List.getElem?_eq_getElem hlt]; rfl
    have acc9 : Acc 3 s1 s9 v _ := acc2.to fun b _ _ _ _ x hx => sub9 b x hx
    have fl := List.length_filter_le (fun e : Lk => decide (e.2.1 = b)) ((nbr L lu nu a).take i)
    have fl2 : ((nbr L lu nu a).take i).length ≤ i := by rw [List.length_take]; omega
    simp only [addOff_ptr, Nat.zero_add, rd1_mk h9, e0, e1, optK_mk, eqV_int, negB_mk, Bool.false_bne]
    refine boolK_mk (fun hq => ?_) (fun hq => ?_)
    · have hq := eq_of_beq hq
      refine pushI acc9 (by rw [List.length_map]; omega) (sub2.trans sub9) fun v' s10 sub10 acc10 => ?_
      simp only [vc_topo_Graph_Between_j1, arith_add, optK_mk]
      rw [wrap64 (by omega) (by omega)]
      refine ⟨_, by omega, i + 1, v', rfl, by omega, rfl, sub10, ?_⟩
      rw [et, List.filter_append, List.map_append, List.filter_cons_of_pos (by rw [hq]; exact decide_eq_true rfl)]
      exact acc10
    · have hq : ¬ (nbr L lu nu a)[i].2.1 = b := beq_eq_false_iff_ne.1 hq
      simp only [vc_topo_Graph_Between_j1, arith_add, optK_mk]
      rw [wrap64 (by omega) (by omega)]
      refine ⟨_, by omega, i + 1, v, rfl, by omega, rfl, sub2.trans sub9, ?_⟩
      rw [et, List.filter_append, List.map_append, List.filter_cons_of_neg (by rw [decide_eq_true_eq]; exact hq)]
      simpa using acc9
  · have hge : i = (nbr L lu nu a).length := by have := of_decide_eq_false hge; omega
    subst hge
    rw [List.take_length] at acc2
    exact hK v s2 (sub1.trans sub2) (acc2.old sub1)
theorem SameI_in {a b : AVal} {l m : List Int} (ha : Sl s a (izs l)) (hb : Sl s b (izs m)) (hl : l.length ≤ 1000000) (hK : K (.bool (decide (l = m))) s) : wpCall Try.prog XX 17 [a, b] K s := by
  refine vc_leafmeshkit_Same_int__in ?_
  simp only [vc_leafmeshkit_Same_int_, ha.len, hb.len, List.length_map, optK_mk, eqV_int, negB_mk, Bool.true_bne]
  by_cases he : l.length = m.length
  · have e0 : (!(((l.length : Nat) : Int) == ((m.length : Nat) : Int))) = false := by rw [he]; simp
    rw [e0]
    simp only [boolK_false]
    refine ⟨fun ys s2 n => s2 = s ∧ ∃ i : Nat, ys = [.int .i64 i] ∧ i ≤ l.length ∧ n = l.length - i ∧ ∀ j, j < i → l[j]? = m[j]?, ⟨_, rfl, 0, rfl, by omega, rfl, fun j h => absurd h (by omega)⟩, ?_⟩
    rintro f s2 n ⟨rfl, i, hy, hi, rfl, hq⟩
    simp only [List.cons.injEq, and_true] at hy
    rw [hy]
    simp only [vc_leafmeshkit_Same_int__l0, ha.len, List.length_map, arith_lss, optK_mk]
    refine boolK_mk (fun hlt => ?_) (fun hge => ?_)
    · have hlt : i < l.length := by have := of_decide_eq_true hlt; omega
      obtain ⟨p, g1, g2⟩ := ha.get (i := i) (by rw [List.length_map]; exact hlt)
      obtain ⟨q, g3, g4⟩ := hb.get (i := i) (by rw [List.length_map]; omega)
      have e1 : (izs l)[i]? = some (.int .i64 l[i]) := by simp [hlt]
      have e2 : (izs m)[i]? = some (.int .i64 (m[i]'(by omega))) := by simp [show i < m.length by omega]
      rw [e1] at g2; rw [e2] at g4
      simp only [g1, g2, g3, g4, optK_mk, eqV_int, negB_mk, Bool.true_bne]
      refine boolK_mk (fun hne => ?_) (fun hyes => ?_)
      · have : decide (l = m) = false := by
          rw [decide_eq_false_iff_not]
          rintro rfl
          simp at hne
        rw [this] at hK; exact hK
      · have hyes : l[i] = m[i]'(by omega) := by simpa using hyes
        simp only [arith_add, optK_mk]
        rw [wrap64 (by omega) (by omega)]
        refine ⟨_, by omega, trivial, i + 1, rfl, by omega, rfl, fun j hj => ?_⟩
        by_cases e : j = i
        · rw [e, List.getElem?_eq_getElem hlt, List.getElem?_eq_getElem (by omega), hyes]
        · exact hq j (by omega)
    · have hge : i = l.length := by have := of_decide_eq_false hge; omega
      have : decide (l = m) = true := by
        rw [decide_eq_true_eq]
        refine List.ext_getElem? fun j => ?_
        by_cases hj : j < i
        · exact hq j hj
        · rw [List.getElem?_eq_none (by omega), List.getElem?_eq_none (by omega)]
      rw [this] at hK; exact hK
  · have e0 : (!(((l.length : Nat) : Int) == ((m.length : Nat) : Int))) = true := by
      have : ¬ ((l.length : Nat) : Int) = ((m.length : Nat) : Int) := by omega
      simp [this]
    rw [e0]
    have : decide (l = m) = false := by rw [decide_eq_false_iff_not]; rintro rfl; exact he rfl
    rw [this] at hK
    simp only [boolK_true]; exact hK
theorem SameB_in {a b : AVal} {l m : List Bool} (ha : Sl s a (bls l)) (hb : Sl s b (bls m)) (hl : l.length ≤ 1000000) (hK : K (.bool (decide (l = m))) s) : wpCall Try.prog XX 20 [a, b] K s := by
  refine vc_leafmeshkit_Same_bool__in ?_
  simp only [vc_leafmeshkit_Same_bool_, ha.len, hb.len, List.length_map, optK_mk, eqV_int, negB_mk, Bool.true_bne]
  by_cases he : l.length = m.length
  · have e0 : (!(((l.length : Nat) : Int) == ((m.length : Nat) : Int))) = false := by rw [he]; simp
    rw [e0]
    simp only [boolK_false]
    refine ⟨fun ys s2 n => s2 = s ∧ ∃ i : Nat, ys = [.int .i64 i] ∧ i ≤ l.length ∧ n = l.length - i ∧ ∀ j, j < i → l[j]? = m[j]?, ⟨_, rfl, 0, rfl, by omega, rfl, fun j h => absurd h (by omega)⟩, ?_⟩
    rintro f s2 n ⟨rfl, i, hy, hi, rfl, hq⟩
    simp only [List.cons.injEq, and_true] at hy
    rw [hy]
    simp only [vc_leafmeshkit_Same_bool__l0, ha.len, List.length_map, arith_lss, optK_mk]
    refine boolK_mk (fun hlt => ?_) (fun hge => ?_)
    · have hlt : i < l.length := by have := of_decide_eq_true hlt; omega
      obtain ⟨p, g1, g2⟩ := ha.get (i := i) (by rw [List.length_map]; exact hlt)
      obtain ⟨q, g3, g4⟩ := hb.get (i := i) (by rw [List.length_map]; omega)
      have e1 : (bls l)[i]? = some (.bool l[i]) := by simp [hlt]
      have e2 : (bls m)[i]? = some (.bool (m[i]'(by omega))) := by simp [show i < m.length by omega]
      rw [e1] at g2; rw [e2] at g4
      simp only [g1, g2, g3, g4, optK_mk, eqV_bool, negB_mk, Bool.true_bne]
      refine boolK_mk (fun hne => ?_) (fun hyes => ?_)
      · have : decide (l = m) = false := by
          rw [decide_eq_false_iff_not]
          rintro rfl
          simp at hne
        rw [this] at hK; exact hK
      · have hyes : l[i] = m[i]'(by omega) := by simpa using hyes
        simp only [arith_add, optK_mk]
        rw [wrap64 (by omega) (by omega)]
        refine ⟨_, by omega, trivial, i + 1, rfl, by omega, rfl, fun j hj => ?_⟩
        by_cases e : j = i
        · rw [e, List.getElem?_eq_getElem hlt, List.getElem?_eq_getElem (by omega), hyes]
        · exact hq j (by omega)
    · have hge : i = l.length := by have := of_decide_eq_false hge; omega
      have : decide (l = m) = true := by
        rw [decide_eq_true_eq]
        refine List.ext_getElem? fun j => ?_
        by_cases hj : j < i
        · exact hq j hj
        · rw [List.getElem?_eq_none (by omega), List.getElem?_eq_none (by omega)]
      rw [this] at hK; exact hK
  · have e0 : (!(((l.length : Nat) : Int) == ((m.length : Nat) : Int))) = true := by
      have : ¬ ((l.length : Nat) : Int) = ((m.length : Nat) : Int) := by omega
      simp [this]
    rw [e0]
    have : decide (l = m) = false := by rw [decide_eq_false_iff_not]; rintro rfl; exact he rfl
    rw [this] at hK
    simp only [boolK_true]; exact hK
theorem lhas_in {a : AVal} {l : List Int} {x : Int} (ha : Sl s a (izs l)) (hl : l.length ≤ 1000000) (hK : K (.bool (decide (x ∈ l))) s) : wpCall Try.prog XX 30 [a, .int .i64 x] K s := by
  refine vc_leafmeshlaw09_has_in ?_
  refine ⟨fun ys s2 n => s2 = s ∧ ∃ i : Nat, ys = [.int .i64 i] ∧ i ≤ l.length ∧ n = l.length - i ∧ x ∉ l.take i, ⟨_, rfl, 0, rfl, by omega, rfl, by simp⟩, ?_⟩
  rintro f s2 n ⟨rfl, i, hy, hi, rfl, hq⟩
  simp only [List.cons.injEq, and_true] at hy
  rw [hy]
  simp only [vc_leafmeshlaw09_has_l0, ha.len, List.length_map, arith_lss, optK_mk]
  refine boolK_mk (fun hlt => ?_) (fun hge => ?_)
  · have hlt : i < l.length := by have := of_decide_eq_true hlt; omega
    obtain ⟨p, g1, g2⟩ := ha.get (i := i) (by rw [List.length_map]; exact hlt)
    have e1 : (izs l)[i]? = some (.int .i64 l[i]) := by simp [hlt]
    rw [e1] at g2
    simp only [g1, g2, optK_mk, eqV_int, negB_mk, Bool.false_bne]
    refine boolK_mk (fun hyes => ?_) (fun hne => ?_)
    · have hyes := eq_of_beq hyes
      have : decide (x ∈ l) = true := decide_eq_true (by rw [← hyes]; exact List.getElem_mem hlt)
      rw [this] at hK; exact hK
    · have hne : ¬ l[i] = x := beq_eq_false_iff_ne.1 hne
      simp only [arith_add, optK_mk]
      rw [wrap64 (by omega) (by omega)]
      refine ⟨_, by omega, trivial, i + 1, rfl, by omega, rfl, ?_⟩
      rw [List.take_add_one, List.getElem?_eq_getElem hlt, List.mem_append]
      rintro (h | h)
      · exact hq h
      · have : x = l[i] := by simpa using h
        exact hne this.symm
  · have hge : i = l.length := by have := of_decide_eq_false hge; omega
    rw [hge, List.take_length] at hq
    rw [decide_eq_false hq] at hK; exact hK
/-- all components as one list -/
def partsL (ls : List (List Int)) : List Int := (ls.map fun l => l ++ [-1]).flatten
theorem rep_ne (lok : LOk N L) {l : List Int} (h : l ∈ cmps N L lu nu) : l ≠ [] ∧ l.length ≤ N := by
  unfold cmps reps at h
  obtain ⟨m, hm, rfl⟩ := List.mem_map.1 h
  have ha := rep_alive (List.mem_filter.1 hm).2
  have hs := comp_self (lu := lu) lok ha
  refine ⟨fun e => (by rw [e] at hs; simp at hs), ?_⟩
  exact nodup_rg (N := N) (comp_asc (N := N) (L := L) (lu := lu) (nu := nu) (n := m) |>.imp fun h => by omega) fun x hx => (((mem_comp lok).1 hx).2).rg lok (alive_rg ha).1
theorem cmps_len : (cmps N L lu nu).length ≤ N := by
  unfold cmps reps
  rw [List.length_map]
  refine Nat.le_trans (List.length_filter_le _ _) ?_
  simp [ups]
theorem Cs.row {v : AVal} {bs : List Nat} {ls : List (List Int)} (z : Cs s0 s v bs ls) {i : Nat} (hi : i < ls.length) : ∃ p b, iaddrS 1 v (.int .i64 (i : Int)) = some p ∧ rd1 s p = some (.slc b 0 ls[i].length none 1) ∧ bs[i]? = some b ∧ s0 b = none ∧ s b = some (false, .cells 3 (izs ls[i])) := by
  have hb : i < bs.length := by rw [z.len]; exact hi
  have hz : (rws bs ls).length = ls.length := by rw [List.length_zipWith, z.len, Nat.min_self]
  obtain ⟨p, g1, g2⟩ := z.acc.sl.get (i := i) (by rw [hz]; exact hi)
  obtain ⟨a, b⟩ := z.rw i bs[i] ls[i] (List.getElem?_eq_getElem hb) (List.getElem?_eq_getElem hi)
  refine ⟨p, bs[i], g1, ?_, List.getElem?_eq_getElem hb, a, b⟩
  rw [g2, rws, List.getElem?_zipWith, List.getElem?_eq_getElem hb, List.getElem?_eq_getElem hi]
theorem Cs.lenv {v : AVal} {bs : List Nat} {ls : List (List Int)} (z : Cs s0 s v bs ls) : lenOfA v = some ls.length := by
  rw [z.acc.sl.len, List.length_zipWith, z.len, Nat.min_self]
theorem partsL_len : ∀ {ls : List (List Int)}, (∀ l ∈ ls, l.length ≤ N) → (partsL ls).length ≤ ls.length * (N + 1) := by
  intro ls
  induction ls with
  | nil => intro _; simp [partsL]
  | cons l ls ih =>
    intro h
    have h1 := h l (by simp)
    have h2 := ih fun x hx => h x (by simp [hx])
    unfold partsL at h2 ⊢
    rw [List.map_cons, List.flatten_cons, List.length_append, List.length_append, List.length_singleton, List.length_cons, Nat.add_mul, Nat.one_mul]
    omega
theorem parts_in (z : GRd t s g lv N L lu nu) (hK : ∀ v s', Sub s s' → Acc 3 s s' v (izs (partsL (cmps N L lu nu))) → K (.tup [.int .i64 (cmps N L lu nu).length, v]) s') : wpCall Try.prog XX 33 [.ptr g 0] K s := by
  have lok := z.lok
  have hnn := lok.nn
  refine vc_leafmeshlaw09_parts_in (Components_in z fun cv bs s1 sub1 cs1 => ?_)
  generalize hls : cmps N L lu nu = ls at *
  have hll : ls.length ≤ N := by rw [← hls]; exact cmps_len
  have hrow : ∀ l ∈ ls, l ≠ [] ∧ l.length ≤ N := fun l hl => rep_ne (lu := lu) (nu := nu) lok (by rw [hls]; exact hl)
  refine ⟨fun ys s2 m => ∃ (i : Nat) (v : AVal), ys = [v, .int .i64 i] ∧ i ≤ ls.length ∧ m = ls.length - i ∧ Sub s1 s2 ∧ Acc 3 s1 s2 v (izs (partsL (ls.take i))), ⟨_, 0, .nilslc, rfl, by omega, rfl, .refl s1, .inl ⟨rfl, rfl⟩⟩, ?_⟩
  rintro f s2 m ⟨i, v, hy, hi, rfl, sub2, acc2⟩
  simp only [List.cons.injEq, and_true] at hy
  rw [hy.1, hy.2]
  have cs2 := cs1.sub sub2
  simp only [vc_leafmeshlaw09_parts_l0, cs2.lenv, arith_lss, optK_mk]
  refine boolK_mk (fun hlt => ?_) (fun hge => ?_)
  · have hlt : i < ls.length := by have := of_decide_eq_true hlt; omega
    obtain ⟨p, b, g1, g2, _, _, g3⟩ := cs2.row hlt
    have hr := hrow _ (List.getElem_mem hlt)
    have hpl : (partsL (ls.take i)).length ≤ 32 * 33 := by
      have h1 := partsL_len (N := N) (ls := ls.take i) fun l hl => (hrow l (List.mem_of_mem_take hl)).2
      have h2 : (ls.take i).length ≤ 32 := by rw [List.length_take]; omega
      exact Nat.le_trans h1 (Nat.mul_le_mul h2 (by omega))
    simp only [g1, g2, optK_mk]
    refine acc2.app2 (Sl.mk (l := izs ls[i]) g3 (by rw [List.length_map]) (by simp)) (by simpa using hr.1) (by rw [List.length_map, List.length_map]; omega) sub2 fun v' s3 sub3 acc3 => ?_
    have acc3 : Acc 3 s1 s3 v' (izs (partsL (ls.take i) ++ ls[i])) := by rw [izs, List.map_append]; exact acc3
    refine pushI acc3 (by rw [List.length_append]; omega) sub3 fun v2 s4 sub4 acc4 => ?_
    simp only [arith_add, optK_mk]
    rw [wrap64 (by omega) (by omega)]
    refine ⟨_, by omega, i + 1, v2, rfl, by omega, rfl, sub4, ?_⟩
    have : partsL (ls.take (i + 1)) = partsL (ls.take i) ++ ls[i] ++ [-1] := by
      unfold partsL
      rw [List.take_add_one, List.getElem?_eq_getElem hlt, List.map_append, List.flatten_append]
      simp
    rw [this]; exact acc4
  · have hge : i = ls.length := by have := of_decide_eq_false hge; omega
    subst hge
    rw [List.take_length] at acc2
    exact hK v s2 (sub1.trans sub2) (acc2.old sub1)
end Go.AM
namespace Go.AM
open Go Go.Proofs
variable {K : AVal → Heap → Prop} {s s' s0 : Heap} {t : Bool} {g : Nat} {lv : AVal} {N : Nat} {lu nu : Nat → Bool} {L : List Lk} {n : Int}
/-! ### new graphs -/
theorem extract0 {a b : AVal} : extractA (.tup [a, b]) 0 = some a := rfl
theorem extract1 {a b : AVal} : extractA (.tup [a, b]) 1 = some b := rfl
def badL (n : Int) (x : Lk) : Prop := (x.1 < 0 ∨ n ≤ x.1) ∨ (x.2.1 < 0 ∨ n ≤ x.2.1) ∨ x.2.2 < 1 ∨ 1000 < x.2.2
instance {n : Int} {x : Lk} : Decidable (badL n x) := by unfold badL; infer_instance
def linkE (n : Int) : List Lk → Int
  | [] => 0
  | x :: r => if badL n x then 2 else if x.1 = x.2.1 then 12 else linkE n r
def newE (n : Int) (L : List Lk) : Int := if n < 1 ∨ 32 < n then 2 else if 128 < L.length then 5 else linkE n L
theorem linkE_ok : ∀ {L : List Lk}, linkE n L = 0 → ∀ x ∈ L, ¬ badL n x ∧ x.1 ≠ x.2.1 := by
  intro L
  induction L with
  | nil => intro _ x hx; simp at hx
  | cons y r ih =>
    intro h x hx
    unfold linkE at h
    split at h
    · cases h
    · rename_i h1
      split at h
      · cases h
      · rename_i h2
        rcases List.mem_cons.1 hx with rfl | hx
        · exact ⟨h1, h2⟩
        · exact ih h x hx
theorem newE_ok (h : newE n L = 0) : ∃ N : Nat, n = N ∧ LOk N L := by
  unfold newE at h
  split at h
  · cases h
  · rename_i h1
    split at h
    · cases h
    · rename_i h2
      refine ⟨n.toNat, by omega, by omega, by omega, fun x hx => ?_⟩
      obtain ⟨a, b⟩ := linkE_ok h x hx
      unfold badL at a
      refine ⟨by omega, by omega, b, by omega, by omega⟩
theorem out_in {b0 : Nat} {x : Int} (h0 : ∃ t e, s b0 = some (t, .cells e [.int .i64 n])) (hK : K (.bool (decide (x < 0 ∨ n ≤ x))) s) : wpCall Try.prog XX 57 [.int .i64 x, .ptr b0 0] K s := by
  obtain ⟨t, e, h0⟩ := h0
  refine vc_topo_checks_1_in ?_
  simp only [vc_topo_checks_1, arith_lss, optK_mk]
  by_cases h : x < 0
  · rw [decide_eq_true (Or.inl h)] at hK
    simp only [decide_eq_true h, boolK_true, vc_topo_checks_1_j0, pickV_true, optK_mk]
    exact hK
  · have e1 : decide (x < 0 ∨ n ≤ x) = decide (n ≤ x) := by simp [h]
    rw [e1] at hK
    simp only [decide_eq_false h, boolK_false, rd1_mk h0, List.getElem?_cons_zero, arith_geq, vc_topo_checks_1_j0, pickV_false, optK_mk]
    exact hK
theorem chk2_in {b0 : Nat} (h0 : ∃ t e, s b0 = some (t, .cells e [.int .i64 n])) (hK : K (.int .i64 (if n < 1 ∨ 32 < n then 2 else 0)) s) : wpCall Try.prog XX 58 [.ptr b0 0] K s := by
  obtain ⟨t, e, h0⟩ := h0
  refine vc_topo_checks_2_in ?_
  simp only [vc_topo_checks_2, rd1_mk h0, List.getElem?_cons_zero, arith_lss, optK_mk]
  by_cases h : n < 1
  · rw [if_pos (Or.inl h)] at hK
    simp only [decide_eq_true h, boolK_true, vc_topo_checks_2_j0, pickV_true, optK_mk]
    exact hK
  · simp only [decide_eq_false h, boolK_false, rd1_mk h0, List.getElem?_cons_zero, arith_gtr, vc_topo_checks_2_j0, pickV_false, optK_mk]
    by_cases h2 : 32 < n
    · rw [if_pos (Or.inr h2)] at hK
      simp only [decide_eq_true h2, boolK_true]; exact hK
    · rw [if_neg (by omega)] at hK
      simp only [decide_eq_false h2, boolK_false]; exact hK
theorem chk3_in {b2 : Nat} (h0 : ∃ t e, s b2 = some (t, .cells e [lv])) (hl : lenOfA lv = some L.length) (hK : K (.int .i64 (if 128 < L.length then 5 else 0)) s) : wpCall Try.prog XX 59 [.ptr b2 0] K s := by
  obtain ⟨t, e, h0⟩ := h0
  refine vc_topo_checks_3_in ?_
  simp only [vc_topo_checks_3, rd1_mk h0, List.getElem?_cons_zero, hl, arith_gtr, optK_mk]
  by_cases h : 128 < L.length
  · rw [if_pos h] at hK
    rw [decide_eq_true (show (128 : Int) < L.length by omega)]
    simp only [boolK_true]; exact hK
  · rw [if_neg h] at hK
    rw [decide_eq_false (show ¬ (128 : Int) < L.length by omega)]
    simp only [boolK_false]; exact hK
theorem linkE_drop {i : Nat} (hi : i < L.length) : linkE n (L.drop i) = if badL n L[i] then 2 else if L[i].1 = L[i].2.1 then 12 else linkE n (L.drop (i + 1)) := by
  rw [List.drop_eq_getElem_cons hi, linkE]
theorem chk4_in {b0 b2 b4 : Nat} (h0 : ∃ t e, s b0 = some (t, .cells e [.int .i64 n])) (h2 : ∃ t e, s b2 = some (t, .cells e [lv])) (h4 : ∃ t e, s b4 = some (t, .cells e [.fn (.func 57) [] [.ptr b0 0]])) (hs : SlR 3 s lv (L.map lkR)) (hll : L.length ≤ 1000000)
    (hK : ∀ s', Sub s s' → K (.int .i64 (linkE n L)) s') : wpCall Try.prog XX 60 [.ptr b2 0, .ptr b4 0] K s := by
  obtain ⟨t0, e0, h0⟩ := h0
  obtain ⟨t2, e2, h2⟩ := h2
  obtain ⟨t4, e4, h4⟩ := h4
  refine vc_topo_checks_4_in ?_
  simp only [vc_topo_checks_4, rd1_mk h2, List.getElem?_cons_zero, hs.len, List.length_map, optK_mk]
  refine ⟨fun ys s2 m => ∃ i : Nat, ys = [.int .i64 i] ∧ i ≤ L.length ∧ m = L.length - i ∧ Sub s s2 ∧ linkE n L = linkE n (L.drop i), ⟨_, 0, rfl, by omega, rfl, .refl s, by rw [List.drop_zero]⟩, ?_⟩
  rintro f s2 m ⟨i, hy, hi, rfl, sub2, he⟩
  simp only [List.cons.injEq, and_true] at hy
  rw [hy]
  simp only [vc_topo_checks_4_l0, arith_lss, optK_mk]
  refine boolK_mk (fun hlt => ?_) (fun hge => ?_)
  · have hlt : i < L.length := by have := of_decide_eq_true hlt; omega
    obtain ⟨p, o, r1, r2, _⟩ := row_at (hs.sub sub2) hlt
    rw [linkE_drop hlt] at he
    simp only [r1, r2, optK_mk]
    refine new_step fun eb s8 heb h8 u8 => wrAgg_step h8 rfl rfl rfl fun s9 h9 u9 => ?_
    have sub9 : Sub s2 s9 := (u8.sub heb).upto u9 heb
    have subs := sub2.trans sub9
    have h9 : s9 eb = some (false, .cells 26 (lkR L[i])) := h9
    have q0 : (lkR L[i])[0]? = some (.int .i64 L[i].1) := rfl
    have q1 : (lkR L[i])[1]? = some (.int .i64 L[i].2.1) := rfl
    have q2 : (lkR L[i])[2]? = some (.int .i64 L[i].2.2) := rfl
    have bad : badL n L[i] → K (.int .i64 2) s9 := fun h => by
      rw [if_pos h] at he
      have := hK s9 subs
      rwa [he] at this
    simp only [rd1_mk (subs _ _ h4), List.getElem?_cons_zero, addOff_ptr, Nat.zero_add, rd1_mk h9, q0, optK_mk]
    refine fn_in (by kernel_rfl) (out_in ⟨_, _, subs _ _ h0⟩ ?_)
    by_cases hA : L[i].1 < 0 ∨ n ≤ L[i].1
    · simp only [decide_eq_true hA, boolK_true, vc_topo_checks_4_j1, vc_topo_checks_4_j2, vc_topo_checks_4_j3, pickV_true, optK_mk]
      exact bad (.inl hA)
    simp only [decide_eq_false hA, boolK_false, rd1_mk (subs _ _ h4), List.getElem?_cons_zero, addOff_ptr, Nat.zero_add, rd1_mk h9, q1, optK_mk]
    refine fn_in (by kernel_rfl) (out_in ⟨_, _, subs _ _ h0⟩ ?_)
    by_cases hB : L[i].2.1 < 0 ∨ n ≤ L[i].2.1
    · simp only [decide_eq_true hB, boolK_true, vc_topo_checks_4_j1, vc_topo_checks_4_j2, vc_topo_checks_4_j3, pickV_true, pickV_false, optK_mk]
      exact bad (.inr (.inl hB))
    simp only [decide_eq_false hB, boolK_false, vc_topo_checks_4_j1, pickV_false, addOff_ptr, Nat.zero_add, rd1_mk h9, q2, arith_lss, optK_mk]
    by_cases hC : L[i].2.2 < 1
    · simp only [decide_eq_true hC, boolK_true, vc_topo_checks_4_j2, vc_topo_checks_4_j3, pickV_true, pickV_false, optK_mk]
      exact bad (.inr (.inr (.inl hC)))
    simp only [decide_eq_false hC, boolK_false, vc_topo_checks_4_j2, pickV_false, addOff_ptr, Nat.zero_add, rd1_mk h9, q2, arith_gtr, optK_mk]
    by_cases hD : 1000 < L[i].2.2
    · simp only [decide_eq_true hD, boolK_true, vc_topo_checks_4_j3, pickV_true, pickV_false, optK_mk]
      exact bad (.inr (.inr (.inr hD)))
    simp only [decide_eq_false hD, boolK_false, vc_topo_checks_4_j3, pickV_false, addOff_ptr, Nat.zero_add, rd1_mk h9, q0, q1, eqV_int, negB_mk, Bool.false_bne, optK_mk]
    rw [if_neg (by unfold badL; omega)] at he
    refine boolK_mk (fun hq => ?_) (fun hq => ?_)
    · rw [if_pos (eq_of_beq hq)] at he
      have := hK s9 subs
      rwa [he] at this
    · rw [if_neg (beq_eq_false_iff_ne.1 hq)] at he
      simp only [arith_add, optK_mk]
      rw [wrap64 (by omega) (by omega)]
      exact ⟨_, by omega, i + 1, rfl, by omega, rfl, subs, he⟩
  · have hge : i = L.length := by have := of_decide_eq_false hge; omega
    rw [hge, List.drop_length] at he
    have := hK s2 sub2
    rwa [he] at this
theorem check_in (hs : SlR 3 s lv (L.map lkR)) (hll : L.length ≤ 1000000) (hK : ∀ s', Sub s s' → K (.int .i64 (newE n L)) s') : wpCall Try.prog XX 42 [.int .i64 n, lv] (fun v s => wpCall Try.prog XX 41 [v] K s) s := by
  refine vc_topo_checks_in (box_step rfl fun b0 s1 hb0 h1 u1 => box_step hs.one fun b2 s2 hb2 h2 u2 => new_step fun b4 s3 hb4 h3 u3 => wr1_step h3 (by simp) rfl fun s4 h4 u4 => ?_)
  have sub3 : Sub s s3 := ((u1.sub hb0).trans (u2.sub hb2)).trans (u3.sub hb4)
  have sub24 : Sub s2 s4 := (u3.sub hb4).upto u4 hb4
  have sub4 : Sub s s4 := ((u1.sub hb0).trans (u2.sub hb2)).trans sub24
  have k0 := sub24 _ _ (u2.sub hb2 _ _ h1)
  have k2 := sub24 _ _ h2
  refine optK_of (a := [.fn (.func 58) [] [.ptr b0 0], .fn (.func 59) [] [.ptr b2 0], .fn (.func 60) [] [.ptr b2 0, .ptr b4 0]]) rfl ⟨rfl, new_step fun b8 s5 hb8 h5 u5 => ?_⟩
  have sub45 := u5.sub hb8
  have sub5 := sub4.trans sub45
  refine vc_topo_firstError_in ?_
  simp only [vc_topo_firstError, lenOf_slc, optK_mk]
  have hsl : Sl s5 (.slc b8 0 3 (some 3) 1) [AVal.fn (.func 58) [] [.ptr b0 0], .fn (.func 59) [] [.ptr b2 0], .fn (.func 60) [] [.ptr b2 0, .ptr b4 0]] := Sl.mk h5 rfl (by simp)
  refine ⟨fun ys s2 m => ∃ i : Nat, ys = [.int .i64 i] ∧ i ≤ 3 ∧ m = 3 - i ∧ Sub s5 s2 ∧ (1 ≤ i → ¬ (n < 1 ∨ 32 < n)) ∧ (2 ≤ i → ¬ 128 < L.length) ∧ (3 ≤ i → linkE n L = 0), ⟨_, 0, rfl, by omega, rfl, .refl s5, by omega, by omega, by omega⟩, ?_⟩
  rintro f s6 m ⟨i, hy, hi, rfl, sub6, c1, c2, c3⟩
  simp only [List.cons.injEq, and_true] at hy
  rw [hy]
  have subA := sub5.trans sub6
  have subB := sub45.trans sub6
  simp only [vc_topo_firstError_l0, arith_lss, optK_mk]
  refine boolK_mk (fun hlt => ?_) (fun hge => ?_)
  · have hlt : i < 3 := by have := of_decide_eq_true hlt; omega
    obtain ⟨p, g1, g2⟩ := (hsl.sub sub6).get (i := i) hlt
    simp only [g1, optK_mk, g2]
    have e1 : IntKind.i64.wrap ((i : Int) + 1) = ((i + 1 : Nat) : Int) := by rw [wrap64 (by omega) (by omega)]; omega
    rcases (show i = 0 ∨ i = 1 ∨ i = 2 by omega) with rfl | rfl | rfl
    · simp only [List.getElem?_cons_zero, optK_mk]
      refine fn_in (by kernel_rfl) (chk2_in ⟨_, _, subB _ _ k0⟩ ?_)
      by_cases h : n < 1 ∨ 32 < n
      · have e : newE n L = 2 := by unfold newE; rw [if_pos h]
        have := hK s6 subA
        rw [e] at this
        rw [if_pos h]
        simp only [eqV_int, negB_mk, Bool.true_bne, optK_mk]
        exact this
      · rw [if_neg h]
        simp only [eqV_int, negB_mk, Bool.true_bne, optK_mk, arith_add, e1]
        exact ⟨_, by omega, 1, rfl, by omega, rfl, sub6, fun _ => h, by omega, by omega⟩
    · simp only [List.getElem?_cons_succ, List.getElem?_cons_zero, optK_mk]
      refine fn_in (by kernel_rfl) (chk3_in (L := L) ⟨_, _, subB _ _ k2⟩ (by rw [hs.len, List.length_map]) ?_)
      by_cases h : 128 < L.length
      · have e : newE n L = 5 := by unfold newE; rw [if_neg (c1 (by omega)), if_pos h]
        have := hK s6 subA
        rw [e] at this
        rw [if_pos h]
        simp only [eqV_int, negB_mk, Bool.true_bne, optK_mk]
        exact this
      · rw [if_neg h]
        simp only [eqV_int, negB_mk, Bool.true_bne, optK_mk, arith_add, e1]
        exact ⟨_, by omega, 2, rfl, by omega, rfl, sub6, fun _ => c1 (by omega), fun _ => h, by omega⟩
    · simp only [List.getElem?_cons_succ, List.getElem?_cons_zero, optK_mk]
      refine fn_in (by kernel_rfl) (chk4_in (L := L) ⟨_, _, subB _ _ k0⟩ ⟨_, _, subB _ _ k2⟩ ⟨_, _, (sub45.trans sub6) _ _ h4⟩ (hs.sub subA) hll fun s7 sub7 => ?_)
      have e : newE n L = linkE n L := by unfold newE; rw [if_neg (c1 (by omega)), if_neg (c2 (by omega))]
      have := hK s7 (subA.trans sub7)
      rw [e] at this
      simp only [eqV_int, negB_mk, Bool.true_bne, optK_mk, arith_add, e1]
      by_cases h : linkE n L = 0
      · rw [show (!(linkE n L == 0)) = false by rw [h]; rfl]
        simp only [boolK_false]
        exact ⟨_, by omega, 3, rfl, by omega, rfl, sub6.trans sub7, fun _ => c1 (by omega), fun _ => c2 (by omega), fun _ => h⟩
      · have : (!(linkE n L == 0)) = true := by simp [h]
        rw [this]
        simpa using by assumption
  · have hge : i = 3 := by have := of_decide_eq_false hge; omega
    have e : newE n L = 0 := by unfold newE; rw [if_neg (c1 (by omega)), if_neg (c2 (by omega))]; exact c3 (by omega)
    have := hK s6 subA
    rwa [e] at this
/-- a graph of one's own -/
structure Gr (s0 s : Heap) (g : Nat) (lv : AVal) (N : Nat) (L : List Lk) (lu nu : Nat → Bool) : Prop where
  rd : GRd false s g lv N L lu nu
  fg : s0 g = none
  fl : ∀ b o n c, lv = .slc b o n c 3 → L ≠ [] → s0 b = none
  ap : Ap g lv L
theorem upd1_true {k : Nat} : upd1 (fun j => decide (j < k)) k true = fun j => decide (j < k + 1) := by
  funext j
  unfold upd1
  by_cases e : j = k
  · rw [if_pos e, decide_eq_true (by omega)]
  · rw [if_neg e]
    show decide (j < k) = _
    by_cases h : j < k
    · rw [decide_eq_true h, decide_eq_true (by omega)]
    · rw [decide_eq_false h, decide_eq_false (by omega)]
theorem New_in (hs : SlR 3 s lv (L.map lkR)) (hll : L.length ≤ 100000)
    (hE : newE n L ≠ 0 → ∀ s', Sub s s' → K (.tup [.nilptr, .int .i64 (newE n L)]) s')
    (hK : newE n L = 0 → ∀ N : Nat, n = N → ∀ s' g lv', Sub s s' → Gr s s' g lv' N L (fun j => decide (j < L.length)) (fun j => decide (j < N)) → K (.tup [.ptr g 0, .int .i64 0]) s') : wpCall Try.prog XX 12 [.int .i64 n, lv] K s := by
  refine vc_topo_New_in (check_in hs (by omega) fun s1 sub1 => ?_)
  simp only [eqV_int, negB_mk, Bool.true_bne, optK_mk]
  by_cases he : newE n L = 0
  · obtain ⟨N, rfl, lok⟩ := newE_ok he
    rw [he]
    have e0 : (!((0 : Int) == 0)) = false := rfl
    rw [e0]
    simp only [boolK_false]
    have hnn := lok.nn
    have hll := lok.ll
    refine CloneL_in (hs.sub sub1) (by omega) fun lv' s2 sub2 sl2 fr2 => ?_
    have hone := sl2.one
    refine optK_of (a := [.int .i64 (N : Int), lv', .int .u64 0, .int .u64 0, .int .u64 0, .int .u64 0]) ?_ ⟨?_, new_step fun g s3 hg h3 u3 => ?_⟩
    · have : lv'.cells.length = 1 := by rw [one_cells hone]; rfl
      show fillR _ _ = _
      simp only [fillR, setRange]
      rw [one_cells hone]
      rfl
    · show allOne [AVal.int .i64 (N : Int), lv', .int .u64 0, .int .u64 0, .int .u64 0, .int .u64 0] = true
      rw [allOne_cons, allOne_cons, hone]; rfl
    have sub3 := u3.sub hg
    have subs : Sub s s3 := (sub1.trans sub2).trans sub3
    have hg0 : s g = none := by
      cases q : s g with
      | none => rfl
      | some y => rw [sub2 g y (sub1 g y q)] at hg; cases hg
    have ap : Ap g lv' L := fun b o n c e hne => by
      have := sl2.was b o n c e (by simpa using hne)
      rintro rfl; exact this hg
    have fl : ∀ b o n c, lv' = .slc b o n c 3 → L ≠ [] → s b = none := fun b o n c e hne => by
      have h := fr2 b o n c e hne
      cases q : s b with
      | none => rfl
      | some y => rw [sub1 b y q] at h; cases h
    have z3 : GRd false s3 g lv' N L (fun j => decide (j < 0)) (fun j => decide (j < 0)) := ⟨⟨0, 0, 0, 0, h3, by simp [Wd], by simp [Wd]⟩, sl2.sub sub3, lok⟩
    refine ⟨fun ys s2 m => ∃ i : Nat, ys = [.int .i64 i] ∧ i ≤ N ∧ m = N - i ∧ Sub s s2 ∧ GRd false s2 g lv' N L (fun j => decide (j < 0)) (fun j => decide (j < i)), ⟨_, 0, rfl, by omega, rfl, subs, z3⟩, ?_⟩
    rintro f s4 m ⟨i, hy, hi, rfl, sub4, z4⟩
    simp only [List.cons.injEq, and_true] at hy
    rw [hy]
    simp only [vc_topo_New_l0, arith_lss, optK_mk]
    refine boolK_mk (fun hlt => ?_) (fun hge => ?_)
    · have hlt : i < N := by have := of_decide_eq_true hlt; omega
      simp only [nilCheck_ptr, addOff_ptr, Nat.zero_add, optK_mk]
      refine nput_in z4 ap (by omega) fun s5 z5 u5 => ?_
      rw [upd1_true] at z5
      simp only [arith_add, optK_mk]
      rw [wrap64 (by omega) (by omega)]
      exact ⟨_, by omega, i + 1, rfl, by omega, rfl, sub4.upto u5 hg0, z5⟩
    · have hge : i = N := by have := of_decide_eq_false hge; omega
      subst hge
      simp only [(hs.sub sub4).len, List.length_map, optK_mk]
      refine ⟨fun ys s2 m => ∃ k : Nat, ys = [.int .i64 k] ∧ k ≤ L.length ∧ m = L.length - k ∧ Sub s s2 ∧ GRd false s2 g lv' i L (fun j => decide (j < k)) (fun j => decide (j < i)), ⟨_, 0, rfl, by omega, rfl, sub4, z4⟩, ?_⟩
      rintro f s5 m ⟨k, hy, hk, rfl, sub5, z5⟩
      simp only [List.cons.injEq, and_true] at hy
      rw [hy]
      simp only [vc_topo_New_l1, arith_lss, optK_mk]
      refine boolK_mk (fun hlt => ?_) (fun hge => ?_)
      · have hlt : k < L.length := by have := of_decide_eq_true hlt; omega
        simp only [nilCheck_ptr, addOff_ptr, Nat.zero_add, optK_mk]
        refine lput_in z5 ap (by omega) fun s6 z6 u6 => ?_
        rw [upd1_true] at z6
        simp only [arith_add, optK_mk]
        rw [wrap64 (by omega) (by omega)]
        exact ⟨_, by omega, k + 1, rfl, by omega, rfl, sub5.upto u6 hg0, z6⟩
      · have hge : k = L.length := by have := of_decide_eq_false hge; omega
        subst hge
        exact hK he i rfl s5 g lv' sub5 ⟨z5, hg0, fl, ap⟩
  · have : (!(newE n L == 0)) = true := by simp [he]
    rw [this]
    simp only [boolK_true]
    exact hE he s1 sub1
end Go.AM
