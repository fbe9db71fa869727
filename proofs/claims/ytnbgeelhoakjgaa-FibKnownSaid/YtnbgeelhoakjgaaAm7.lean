/- Part 7 of a calculation in a small memory that is proved to answer as the program does: see the last part. -/
import Derived.Test.YtnbgeelhoakjgaaAm6
namespace Go.AM
open Go Go.RowKit

section
variable {P : Program} {σ : Nat → Value} {ρ : Ren}
/-! ### numbers -/
theorem arith_run {op : BinOp} {k : IntKind} {x y : Int} {v : AVal} (h : arith op k x y = some v) (t : TypeId) (w : World) :
    (op ≠ .shl ∧ op ≠ .shr) ∧ ∃ v', (binOp op t (.int k x) (.int k y)).run P w = .ok v' w ∧ Rel σ ρ v v' := by
  cases op
  case add => simp only [arith, frc_eq, wrapK_eq, Option.some.injEq] at h; subst h; exact ⟨by simp, _, by simp [binOp, Op.intArith]; rfl, by unfold Rel; rfl⟩
  case sub => simp only [arith, frc_eq, wrapK_eq, Option.some.injEq] at h; subst h; exact ⟨by simp, _, by simp [binOp, Op.intArith]; rfl, by unfold Rel; rfl⟩
  case mul => simp only [arith, frc_eq, wrapK_eq, Option.some.injEq] at h; subst h; exact ⟨by simp, _, by simp [binOp, Op.intArith]; rfl, by unfold Rel; rfl⟩
  case quo =>
    simp only [arith, frc_eq, wrapK_eq] at h
    cases hy : eqI y 0 with
    | true => simp [hy] at h
    | false =>
      have h0 : ¬ y = 0 := by rw [eqI_eq] at hy; simpa using hy
      simp only [hy, cond_false, Option.some.injEq] at h; subst h
      exact ⟨by simp, _, by simp [binOp, Op.intDiv, h0]; rfl, by unfold Rel; rfl⟩
  case rem =>
    simp only [arith, frc_eq] at h
    cases hy : eqI y 0 with
    | true => simp [hy] at h
    | false =>
      have h0 : ¬ y = 0 := by rw [eqI_eq] at hy; simpa using hy
      simp only [hy, cond_false, Option.some.injEq] at h; subst h
      exact ⟨by simp, _, by simp [binOp, Op.intDiv, h0]; rfl, by unfold Rel; rfl⟩
  case and => simp only [arith, frc_eq, wrapK_eq, Option.some.injEq] at h; subst h; exact ⟨by simp, _, by simp only [binOp, ne_eq, not_true_eq_false, if_false, Op.intBits]; rfl, by unfold Rel; rfl⟩
  case or => simp only [arith, frc_eq, wrapK_eq, Option.some.injEq] at h; subst h; exact ⟨by simp, _, by simp only [binOp, ne_eq, not_true_eq_false, if_false, Op.intBits]; rfl, by unfold Rel; rfl⟩
  case xor => simp only [arith, frc_eq, wrapK_eq, Option.some.injEq] at h; subst h; exact ⟨by simp, _, by simp only [binOp, ne_eq, not_true_eq_false, if_false, Op.intBits]; rfl, by unfold Rel; rfl⟩
  case andNot => simp only [arith, frc_eq, wrapK_eq, Option.some.injEq] at h; subst h; exact ⟨by simp, _, by simp only [binOp, ne_eq, not_true_eq_false, if_false, Op.intBits]; rfl, by unfold Rel; rfl⟩
  case eql => simp only [arith, Option.some.injEq] at h; subst h; exact ⟨by simp, _, by simp [binOp, Op.intCmp]; rfl, by unfold Rel; rw [eqI_eq]⟩
  case neq => simp only [arith, Option.some.injEq] at h; subst h; exact ⟨by simp, _, by simp [binOp, Op.intCmp]; rfl, by unfold Rel; rw [eqI_eq]; rfl⟩
  case lss => simp only [arith, Option.some.injEq] at h; subst h; exact ⟨by simp, _, by simp [binOp, Op.intCmp]; rfl, by unfold Rel; rw [ltI_eq]⟩
  case leq => simp only [arith, Option.some.injEq] at h; subst h; exact ⟨by simp, _, by simp [binOp, Op.intCmp]; rfl, by unfold Rel; rw [ltI_eq]; congr 1; rw [Bool.eq_iff_iff]; simp⟩
  case gtr => simp only [arith, Option.some.injEq] at h; subst h; exact ⟨by simp, _, by simp [binOp, Op.intCmp]; rfl, by unfold Rel; rw [ltI_eq]⟩
  case geq => simp only [arith, Option.some.injEq] at h; subst h; exact ⟨by simp, _, by simp [binOp, Op.intCmp]; rfl, by unfold Rel; rw [ltI_eq]; congr 1; rw [Bool.eq_iff_iff]; simp⟩
  case shl => simp [arith] at h
  case shr => simp [arith] at h
theorem shift_run {op : BinOp} {k k' : IntKind} {x y : Int} {v : AVal} (h : shiftA op k x y = some v) (t : TypeId) (w : World) :
    ∃ v', (binOp op t (.int k x) (.int k' y)).run P w = .ok v' w ∧ Rel σ ρ v v' := by
  cases y with
  | negSucc m => simp [shiftA] at h
  | ofNat m =>
    have h0 : ¬ (Int.ofNat m < 0) := by simp
    cases op <;> simp only [shiftA, frc_eq, wrapK_eq] at h <;> first | (cases h; done) | skip
    · simp only [Option.some.injEq] at h; subst h
      exact ⟨_, by simp only [binOp, Op.shift, h0, if_false]; rfl, by unfold Rel; simp [Int.natCast_pow]⟩
    · simp only [Option.some.injEq] at h; subst h
      exact ⟨_, by simp only [binOp, Op.shift, h0, if_false]; rfl, by unfold Rel; simp [Int.natCast_pow]⟩
theorem rel_plain {x : AVal} {v : Value} (h : Rel σ ρ x v) (h1 : x ≠ .nilIface) (h2 : ∀ cs, x ≠ .agg cs) (h3 : ∀ i, x ≠ .opq i) : v ≠ .nilIface ∧ ∀ cs, v ≠ .agg cs := by
  cases x <;> unfold Rel at h <;> first
    | exact absurd rfl h1
    | exact absurd rfl (h2 _)
    | exact absurd rfl (h3 _)
    | (subst h; exact ⟨by simp, by simp⟩)
    | (obtain ⟨_, _, rfl⟩ := h; exact ⟨by simp, by simp⟩)
    | (obtain ⟨_, _, _, _, rfl, _⟩ := h; exact ⟨by simp, by simp⟩)
    | (obtain ⟨_, _, rfl, _⟩ := h; exact ⟨by simp, by simp⟩)
    | (obtain ⟨_, rfl, _⟩ := h; exact ⟨by simp, by simp⟩)
theorem eqGuard_cases {op : BinOp} {t : TypeId} {x y : Operand} {a b : Value} (w : World)
    (h : (match a, b with
      | .nilIface, .nilIface => (x matches .const _) || (y matches .const _)
      | .agg _, .agg _ => !P.eqGuardType P.depth t
      | _, _ => true) = true) : (eqGuard op t x y a b).run P w = .ok () w := by
  unfold eqGuard
  cases op <;> simp only [Bool.not_true, Bool.not_false, Bool.false_eq_true, if_false, if_true] <;> first | rfl | skip
  all_goals
    split
    · cases x <;> cases y <;> first | (simp at h; done) | rfl
    · have hg : P.eqGuardType P.depth t = false := by simpa using h
      simp [hg]
    · rfl
theorem guard_pass {op : BinOp} {t : TypeId} {x y : Operand} {a b : Value} (w : World)
    (h : (a ≠ .nilIface ∧ ∀ cs, a ≠ .agg cs) ∨ (b ≠ .nilIface ∧ ∀ cs, b ≠ .agg cs)) : (eqGuard op t x y a b).run P w = .ok () w := by
  refine eqGuard_cases w ?_
  split
  · rcases h with h | h <;> exact absurd rfl h.1
  · rcases h with h | h <;> exact absurd rfl (h.2 _)
  · rfl
theorem plainV_ne {x : AVal} {v : Value} (hp : plainV x = true) (h : Rel σ ρ x v) : v ≠ .nilIface ∧ ∀ cs, v ≠ .agg cs :=
  rel_plain h (fun e => by subst e; simp [plainV] at hp) (fun _ e => by subst e; simp [plainV] at hp) (fun _ e => by subst e; simp [plainV] at hp)
theorem guard_run {op : BinOp} {t : TypeId} {x y : Operand} {a b : AVal} {a' b' : Value} (h : guardPair P t x y a b = true) (ha : Rel σ ρ a a') (hb : Rel σ ρ b b') (w : World) :
    (eqGuard op t x y a' b').run P w = .ok () w := by
  unfold guardPair at h
  split at h
  · unfold Rel at ha hb; subst ha; subst hb
    exact eqGuard_cases w h
  · unfold Rel at ha hb
    obtain ⟨xs, rfl, _⟩ := ha
    obtain ⟨ys, rfl, _⟩ := hb
    exact eqGuard_cases w h
  · rw [Bool.or_eq_true] at h
    exact guard_pass w (h.imp (fun h => plainV_ne h ha) (fun h => plainV_ne h hb))
def shape : Value → Bool
  | .int _ _ | .float _ _ | .complex _ _ _ | .string _ => false
  | _ => true
theorem eql_gen (t : TypeId) (a b : Value) (h : shape a = true) : binOp .eql t a b = (do pure (.bool (← Op.equal t a b))) := by
  cases a <;> first | (simp [shape] at h; done) | rfl
theorem neq_gen (t : TypeId) (a b : Value) (h : shape a = true) : binOp .neq t a b = (do pure (.bool (!(← Op.equal t a b)))) := by
  cases a <;> first | (simp [shape] at h; done) | rfl
theorem rel_shape {x : AVal} {v : Value} (h : Rel σ ρ x v) (h1 : ∀ k n, x ≠ .int k n) (h2 : ∀ s, x ≠ .str s) (h3 : ∀ i, x ≠ .opq i) : shape v = true := by
  cases x <;> unfold Rel at h <;> first
    | exact absurd rfl (h1 _ _)
    | exact absurd rfl (h2 _)
    | exact absurd rfl (h3 _)
    | (subst h; rfl)
    | (obtain ⟨_, _, rfl⟩ := h; rfl)
    | (obtain ⟨_, _, _, _, rfl, _⟩ := h; rfl)
    | (obtain ⟨_, _, rfl, _⟩ := h; rfl)
    | (obtain ⟨_, rfl, _⟩ := h; rfl)
theorem aEq_int {d : Nat} {t : TypeId} {k : IntKind} {n : Int} {y : AVal} {b : Bool} (h : aEq P d t (.int k n) y = some b) : ∃ k' m, y = .int k' m := by
  cases d with
  | zero => simp [aEq] at h
  | succ d =>
    unfold aEq at h
    split at h <;> first | exact ⟨_, _, rfl⟩ | (simp at h; done) | (rename_i h1; simp at h1; done) | skip
    all_goals simp_all
theorem aEq_str {d : Nat} {t : TypeId} {s : ByteArray} {y : AVal} {b : Bool} (h : aEq P d t (.str s) y = some b) : ∃ s', y = .str s' ∧ b = (s == s') := by
  cases d with
  | zero => simp [aEq] at h
  | succ d =>
    unfold aEq at h
    split at h <;> simp_all
theorem aEq_opq {d : Nat} {t : TypeId} {i : Nat} {y : AVal} {b : Bool} (h : aEq P d t (.opq i) y = some b) : False := by
  cases d with
  | zero => simp [aEq] at h
  | succ d =>
    unfold aEq at h
    split at h <;> simp_all
theorem eq_run {t : TypeId} {a b : AVal} {r : Bool} {a' b' : Value} (h : aEq P 30 t a b = some r) (hne : ∀ k m k' n, a = .int k m → b ≠ .int k' n) (ha : Rel σ ρ a a') (hb : Rel σ ρ b b') (w : World) :
    (binOp .eql t a' b').run P w = .ok (.bool r) w ∧ (binOp .neq t a' b').run P w = .ok (.bool !r) w := by
  by_cases hs : ∃ s, a = .str s
  · obtain ⟨s, rfl⟩ := hs
    obtain ⟨s', rfl, rfl⟩ := aEq_str h
    unfold Rel at ha hb; subst ha; subst hb
    simp [binOp, Op.stringOp, beq_toListBytes]
  · have hsh : shape a' = true := rel_shape ha
      (fun k n e => by subst e; obtain ⟨k', m, rfl⟩ := aEq_int h; exact hne _ _ _ _ rfl rfl)
      (fun s e => hs ⟨s, e⟩) (fun i e => by subst e; exact aEq_opq h)
    have hq : (Op.equal t a' b').run P w = .ok r w := aEq_run 30 t a b r a' b' h ha hb 10000 (by decide) w
    rw [eql_gen _ _ _ hsh, neq_gen _ _ _ hsh]
    simp [hq]
theorem binA_other {op : BinOp} {t : TypeId} {x y : Operand} {a b : AVal} (hii : ¬ ∃ k m k' n, a = .int k m ∧ b = .int k' n) : binA P op t x y a b = match op with
      | .eql => cond (guardPair P t x y a b) ((aEq P 30 t a b).map .bool) none
      | .neq => cond (guardPair P t x y a b) ((aEq P 30 t a b).map fun r => .bool !r) none
      | _ => none := by
  unfold binA
  split
  · exact absurd ⟨_, _, _, _, rfl, rfl⟩ hii
  · rfl
theorem binA_run {op : BinOp} {t : TypeId} {x y : Operand} {a b v : AVal} {a' b' : Value} (h : binA P op t x y a b = some v) (ha : Rel σ ρ a a') (hb : Rel σ ρ b b') (w : World) :
    ∃ v', (do eqGuard op t x y a' b'; binOp op t a' b' : Sem Value).run P w = .ok v' w ∧ Rel σ ρ v v' := by
  by_cases hii : ∃ k m k' n, a = .int k m ∧ b = .int k' n
  · obtain ⟨k, m, k', n, rfl, rfl⟩ := hii
    have hg : (eqGuard op t x y a' b').run P w = .ok () w := guard_pass w (.inl (plainV_ne rfl ha))
    unfold Rel at ha hb; subst ha; subst hb
    simp only [binA] at h
    have key : ∃ v', (binOp op t (.int k m) (.int k' n)).run P w = .ok v' w ∧ Rel σ ρ v v' := by
      split at h
      · exact shift_run h t w
      · exact shift_run h t w
      · have hc := condO_some h
        clear h
        obtain ⟨hk, h⟩ := hc
        replace hk := kind_eq hk; subst hk
        exact (arith_run h t w).2
    obtain ⟨v', e, r⟩ := key
    exact ⟨v', by simp [hg, e], r⟩
  · have hne : ∀ k m k' n, a = .int k m → b ≠ .int k' n := fun k m k' n e1 e2 => hii ⟨k, m, k', n, e1, e2⟩
    rw [binA_other hii] at h
    split at h
    · obtain ⟨hg, h⟩ := condO_some h
      simp only [Option.map_eq_some_iff] at h
      obtain ⟨r, hr, rfl⟩ := h
      exact ⟨.bool r, by simp [guard_run hg ha hb w, (eq_run hr hne ha hb w).1], by unfold Rel; rfl⟩
    · obtain ⟨hg, h⟩ := condO_some h
      simp only [Option.map_eq_some_iff] at h
      obtain ⟨r, hr, rfl⟩ := h
      exact ⟨.bool !r, by simp [guard_run hg ha hb w, (eq_run hr hne ha hb w).2], by unfold Rel; rfl⟩
    · cases h
theorem unary_run {op : UnOp} {x v : AVal} {x' : Value} (h : unaryA op x = some v) (hx : Rel σ ρ x x') (w : World) : ∃ v', (Op.unary op x').run P w = .ok v' w ∧ Rel σ ρ v v' := by
  unfold unaryA at h
  split at h
  · unfold Rel at hx; subst hx
    simp only [arith, frc_eq, wrapK_eq, Option.some.injEq] at h; subst h
    exact ⟨_, by simp [Op.unary, Op.intArith]; rfl, by unfold Rel; simp⟩
  · unfold Rel at hx; subst hx
    cases h
    exact ⟨_, by simp [Op.unary]; rfl, by unfold Rel; rfl⟩
  · unfold Rel at hx; subst hx
    simp only [arith, frc_eq, wrapK_eq, Option.some.injEq] at h; subst h
    exact ⟨_, by simp only [Op.unary, Op.intBits]; rfl, by unfold Rel; rfl⟩
  · cases h
theorem convert_run {s d : TypeId} {x v : AVal} {x' : Value} (h : convertA P s d x = some v) (hx : Rel σ ρ x x') (w : World) : ∃ v', (convert s d x').run P w = .ok v' w ∧ Rel σ ρ v v' := by
  unfold convertA at h
  split at h
  · rename_i h1 h2
    unfold Rel at hx; subst hx
    simp only [frc_eq, wrapK_eq, Option.some.injEq] at h; subst h
    exact ⟨_, by simp [convert, run_underlying h1, run_underlying h2, Conv.intToInt]; rfl, by unfold Rel; rfl⟩
  · rename_i h1 h2
    unfold Rel at hx; subst hx
    cases h
    exact ⟨_, by simp [convert, run_underlying h1, run_underlying h2]; rfl, by unfold Rel; rfl⟩
  · cases h

/-! ### addresses -/
theorem addr_add (B k i : Nat) : (⟨B, k, none⟩ : Addr).add i = ⟨B, k + i, none⟩ := by
  unfold Addr.add
  split
  · rename_i h; subst h; rfl
  · rfl
theorem fieldAddr_run {s : TypeId} {x v : AVal} {f : Nat} {x' : Value} (h : fieldAddrA P s x f = some v) (hx : Rel σ ρ x x') (w : World) : ∃ v', (Instr.fieldAt s x' f).run P w = .ok v' w ∧ Rel σ ρ v v' := by
  unfold fieldAddrA at h
  split at h
  · rename_i fields b o hu
    split at h
    · rename_i fd hf
      split at h
      · rename_i n hs
        simp only [frcN_eq, Option.some.injEq] at h; subst h
        unfold Rel at hx
        obtain ⟨L, hL, rfl⟩ := hx
        refine ⟨.pointer (some ⟨L.blk, L.sh + o + fd.offset, none⟩), ?_, ?_⟩
        · simp [Instr.fieldAt, run_underlying hu, hf, Instr.sureAddr, fieldPlace, sz_run hs, addr_add]
        · unfold Rel; exact ⟨L, hL, by rw [Nat.add_assoc]⟩
      · cases h
    · cases h
  · cases h
theorem field_run {s : TypeId} {x v : AVal} {f : Nat} {x' : Value} (h : fieldA P s x f = some v) (hx : Rel σ ρ x x') (w : World) : ∃ v', (Instr.field s x' f).run P w = .ok v' w ∧ Rel σ ρ v v' := by
  unfold fieldA at h
  split at h
  · rename_i fields cs hu
    split at h
    · rename_i fd hf
      unfold Rel at hx
      obtain ⟨cs', rfl, hx⟩ := hx
      obtain ⟨v', e, r⟩ := part_run h hx w
      exact ⟨v', by simp [Instr.field, run_underlying hu, hf, asAgg, e], r⟩
    · cases h
  · cases h
theorem nat?_rel {x : AVal} {n : Nat} {x' : Value} (h : nat? x = some n) (hx : Rel σ ρ x x') : ∃ k, x' = .int k (n : Int) := by
  unfold nat? at h
  split at h
  · cases h; unfold Rel at hx; exact ⟨_, hx⟩
  · cases h
theorem indexAddr_run {t : TypeId} {x i v : AVal} {x' i' : Value} (h : indexAddrA P t x i = some v) (hx : Rel σ ρ x x') (hi : Rel σ ρ i i') (w : World) :
    ∃ v', (Instr.indexAt t x' i').run P w = .ok v' w ∧ Rel σ ρ v v' := by
  unfold indexAddrA at h
  split at h
  · rename_i len elem b o n hu hn
    obtain ⟨k, rfl⟩ := nat?_rel hn hi
    split at h
    · rename_i c hs
      obtain ⟨hlt, h⟩ := condO_some h
      simp only [frcN_eq, Option.some.injEq] at h; subst h
      have hlt : n < len := by simpa [Nat.blt_eq] using hlt
      unfold Rel at hx
      obtain ⟨L, hL, rfl⟩ := hx
      refine ⟨.pointer (some ⟨L.blk, L.sh + o + n * c, none⟩), ?_, ?_⟩
      · have h2 : ¬ len ≤ n := by omega
        have hlt' : n < len := by omega
        simp [Instr.indexAt, asIntOf, run_underlying hu, Instr.sureAddr, sz_run hs, hlt', addr_add]
      · unfold Rel; exact ⟨L, hL, by rw [Nat.add_assoc]⟩
    · cases h
  · rename_i elem b o len cap es n hu hn
    obtain ⟨k, rfl⟩ := nat?_rel hn hi
    split at h
    · rename_i c hs
      obtain ⟨hlt, h⟩ := condO_some h
      simp only [frcN_eq, Option.some.injEq] at h; subst h
      rw [Bool.and_eq_true] at hlt
      have hlt1 : n < len := by simpa [Nat.blt_eq] using hlt.1
      unfold Rel at hx
      obtain ⟨L, a, cc, hL, rfl, hoff, hcap, _⟩ := hx
      have hoff : a = ⟨L.blk, L.sh + o, none⟩ := by rcases hoff with h | h; exact h.1; omega
      subst hoff
      refine ⟨.pointer (some ⟨L.blk, L.sh + o + n * c, none⟩), ?_, ?_⟩
      · have h2 : ¬ len ≤ n := by omega
        have hlt' : n < len := by omega
        simp [Instr.indexAt, asIntOf, run_underlying hu, sz_run hs, hlt', addr_add]
      · unfold Rel; exact ⟨L, hL, by rw [Nat.add_assoc]⟩
    · cases h
  · cases h
theorem index_run {t : TypeId} {x i v : AVal} {x' i' : Value} (h : indexA P t x i = some v) (hx : Rel σ ρ x x') (hi : Rel σ ρ i i') (w : World) :
    ∃ v', (Instr.index t x' i').run P w = .ok v' w ∧ Rel σ ρ v v' := by
  unfold indexA at h
  split at h
  · rename_i len elem cs n hu hn
    obtain ⟨k, rfl⟩ := nat?_rel hn hi
    split at h
    · rename_i c hs
      obtain ⟨hlt, h⟩ := condO_some h
      have hlt : n < len := by simpa [Nat.blt_eq] using hlt
      unfold Rel at hx
      obtain ⟨cs', rfl, hx⟩ := hx
      obtain ⟨v', e, r⟩ := part_run h hx w
      have hlt' : n < len := by omega
      exact ⟨v', by simp [Instr.index, asIntOf, run_underlying hu, sz_run hs, hlt', e], r⟩
    · cases h
  · rename_i s n hu hn
    obtain ⟨k, rfl⟩ := nat?_rel hn hi
    unfold Rel at hx; subst hx
    split at h
    · rename_i c hc
      simp only [frcN_eq, Option.some.injEq] at h; subst h
      exact ⟨.int .u8 (c.toNat : Int), by simp [Instr.index, asIntOf, run_underlying hu, hc], by unfold Rel; rfl⟩
    · cases h
  · cases h
theorem makeIface_run {t : TypeId} {x v : AVal} {x' : Value} (h : makeIfaceA P t x = some v) (hx : Rel σ ρ x x') (w : World) : ∃ v', (Instr.makeInterface t x').run P w = .ok v' w ∧ Rel σ ρ v v' := by
  unfold makeIfaceA at h
  split at h
  · cases h
  · rename_i d hni hu
    cases h
    refine ⟨.iface t x', ?_, by unfold Rel; exact ⟨x', rfl, hx⟩⟩
    simp only [Instr.makeInterface, Sem.run_bind, run_underlying hu, Result.andThen_ok]
    cases d <;> first | exact absurd rfl (hni _) | rfl
  · cases h
theorem extract_run {x v : AVal} {i : Nat} {x' : Value} (h : extractA x i = some v) (hx : Rel σ ρ x x') (w : World) : ∃ v', (Instr.extract x' i).run P w = .ok v' w ∧ Rel σ ρ v v' := by
  unfold extractA at h
  split at h
  · unfold Rel at hx
    obtain ⟨cs, rfl, hx⟩ := hx
    obtain ⟨y, hy, r⟩ := hx.get i v h
    have hy' : cs[i]? = some y := by rw [← Array.getElem?_toList]; exact hy
    exact ⟨y, by simp [Instr.extract, hy'], r⟩
  · cases h
theorem typeAssert_run {x v : AVal} {xt as_ : TypeId} {ok : Bool} {x' : Value} (h : typeAssertA P x as_ ok = some v) (hx : Rel σ ρ x x') (w : World) :
    ∃ v', (Instr.typeAssert x' xt as_ ok).run P w = .ok v' w ∧ Rel σ ρ v v' := by
  have zeroCase : ∀ z, zeroA P as_ = some z → ∃ zv, (∀ w, (zeroValue as_).run P w = .ok zv w) ∧ Rel σ ρ (.tup [z, .bool false]) (.tuple #[zv, .bool false]) := by
    intro z hz
    obtain ⟨zv, e, r⟩ := zero_run hz
    refine ⟨zv, e, ?_⟩
    unfold Rel
    exact ⟨_, rfl, .cons (r σ ρ) (.cons (by unfold Rel; rfl) .nil)⟩
  unfold typeAssertA at h
  split at h
  · cases h
  · rename_i d t y hni hu
    unfold Rel at hx
    obtain ⟨y', rfl, hy⟩ := hx
    have hd : ∀ ms, d ≠ .interface ms := fun ms e => hni ms e
    cases hb : Nat.beq t as_ with
    | true =>
      have : t = as_ := Nat.eq_of_beq_eq_true hb
      subst this
      simp only [hb, cond_true, Option.some.injEq] at h
      cases ok with
      | true =>
        simp only [cond_true] at h; subst h
        refine ⟨.tuple #[y', .bool true], ?_, by unfold Rel; exact ⟨_, rfl, .cons hy (.cons (by unfold Rel; rfl) .nil)⟩⟩
        simp only [Instr.typeAssert, Sem.run_bind, run_underlying hu, Result.andThen_ok]
        cases d <;> first | exact absurd rfl (hd _) | simp
      | false =>
        simp only [cond_false] at h; subst h
        refine ⟨y', ?_, hy⟩
        simp only [Instr.typeAssert, Sem.run_bind, run_underlying hu, Result.andThen_ok]
        cases d <;> first | exact absurd rfl (hd _) | simp
    | false =>
      have hne : ¬ t = as_ := fun e => by subst e; rw [Nat.beq_refl] at hb; cases hb
      simp only [hb, cond_false] at h
      obtain ⟨hok, h⟩ := condO_some h
      subst hok
      split at h
      · rename_i z hz
        cases h
        obtain ⟨zv, e, r⟩ := zeroCase z hz
        refine ⟨_, ?_, r⟩
        simp only [Instr.typeAssert, Sem.run_bind, run_underlying hu, Result.andThen_ok]
        cases d <;> first | exact absurd rfl (hd _) | simp [hne, e]
      · cases h
  · rename_i d hni hu
    unfold Rel at hx; subst hx
    have hd : ∀ ms, d ≠ .interface ms := fun ms e => hni ms e
    obtain ⟨hok, h⟩ := condO_some h
    subst hok
    split at h
    · rename_i z hz
      cases h
      obtain ⟨zv, e, r⟩ := zeroCase z hz
      refine ⟨_, ?_, r⟩
      simp only [Instr.typeAssert, Sem.run_bind, run_underlying hu, Result.andThen_ok]
      cases d <;> first | exact absurd rfl (hd _) | simp [e]
    · cases h
  · cases h
end
end Go.AM
