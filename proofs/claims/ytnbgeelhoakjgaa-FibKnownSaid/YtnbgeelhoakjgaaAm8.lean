/- Part 8 of a calculation in a small memory that is proved to answer as the program does: see the last part. -/
import Derived.Test.YtnbgeelhoakjgaaAm7
namespace Go.AM
open Go Go.RowKit

section
variable {P : Program} {σ : Nat → Value} {ρ : Ren}
/-! ### slice expressions -/
inductive ORel (σ : Nat → Value) (ρ : Ren) : Option AVal → Option Value → Prop
  | none : ORel σ ρ none none
  | some {x v} (h : Rel σ ρ x v) : ORel σ ρ (some x) (some v)
theorem bound_run {x : Option AVal} {x' : Option Value} {d y n : Nat} (h : bound x d y = some n) (hx : ORel σ ρ x x') :
    (x = none ∧ x' = none ∧ n = d) ∨ ∃ k, x.isSome = true ∧ x' = some (.int k (n : Int)) ∧ n ≤ y := by
  cases hx with
  | none => simp [bound] at h; exact .inl ⟨rfl, rfl, h.symm⟩
  | some hr =>
    simp only [bound] at h
    split at h
    · rename_i m hm
      have hc := condO_some h
      obtain ⟨hle, hh⟩ := hc
      cases hh
      obtain ⟨k, rfl⟩ := nat?_rel hm hr
      exact .inr ⟨k, rfl, rfl, by simpa [Nat.ble_eq] using hle⟩
    · cases h
theorem sb {i y : Nat} (k : IntKind) (h : i ≤ y) (code : BoundsCode) (w : World) : (Instr.sliceBound (.int k (i : Int)) y code).run P w = .ok i w := by
  have := run_sliceBound (P := P) w k (i : Int) y code (by omega) (by omega)
  simpa using this
theorem sliceBounds_run {lo hi mx : Option AVal} {lo' hi' mx' : Option Value} (hlo : ORel σ ρ lo lo') (hhi : ORel σ ρ hi hi') (hmx : ORel σ ρ mx mx') {b : Bool} {len c dm y m h l : Nat}
    (e1 : bound mx dm y = some m) (hy : y ≤ c) (hdm : mx = none → m ≤ c) (e2 : bound hi len m = some h) (e3 : bound lo 0 h = some l) (hg : (mx.isNone || hi.isSome) = true) (w : World) :
    (Instr.sliceBounds b len c lo' hi' mx').run P w = .ok (l, h, if mx.isNone then c else m) w := by
  rcases bound_run e1 hmx with ⟨rfl, rfl, hm⟩ | ⟨km, hms, rfl, hm⟩
  · have hmc := hdm rfl
    rcases bound_run e2 hhi with ⟨rfl, rfl, hh⟩ | ⟨kh, _, rfl, hh⟩
    · subst hh
      rcases bound_run e3 hlo with ⟨rfl, rfl, hl⟩ | ⟨kl, _, rfl, hl⟩
      · subst hl; simp [Instr.sliceBounds]
      · simp [Instr.sliceBounds, sb kl hl]
    · have hhc : h ≤ c := by omega
      rcases bound_run e3 hlo with ⟨rfl, rfl, hl⟩ | ⟨kl, _, rfl, hl⟩
      · subst hl; simp [Instr.sliceBounds, sb kh hhc]
      · simp [Instr.sliceBounds, sb kh hhc, sb kl hl]
  · obtain ⟨mv, rfl⟩ := Option.isSome_iff_exists.1 hms
    have hhs : hi.isSome = true := by simpa using hg
    have hmc : m ≤ c := by omega
    rcases bound_run e2 hhi with ⟨rfl, _, _⟩ | ⟨kh, _, rfl, hh⟩
    · cases hhs
    · rcases bound_run e3 hlo with ⟨rfl, rfl, hl⟩ | ⟨kl, _, rfl, hl⟩
      · subst hl; simp [Instr.sliceBounds, sb km hmc, sb kh hh]
      · simp [Instr.sliceBounds, sb km hmc, sb kh hh, sb kl hl]
theorem add_le (B k i : Nat) (m : Nat) (hm : m = 0 → i = 0) : (if m = 0 then (⟨B, k, none⟩ : Addr) else (⟨B, k, none⟩ : Addr).add i) = ⟨B, k + i, none⟩ := by
  split
  · rename_i h; rw [hm h]; rfl
  · exact addr_add _ _ _
theorem bound_le {x : Option AVal} {d y n : Nat} (h : bound x d y = some n) : n ≤ d ∨ n ≤ y := by
  cases x with
  | none => simp [bound] at h; omega
  | some x =>
    simp only [bound] at h
    split at h
    · obtain ⟨hle, hh⟩ := condO_some h; cases hh; right; simpa [Nat.ble_eq] using hle
    · cases h
theorem slice_run {t : TypeId} {x v : AVal} {lo hi mx : Option AVal} {x' : Value} {lo' hi' mx' : Option Value} (hh : sliceA P t x lo hi mx = some v) (hx : Rel σ ρ x x')
    (hlo : ORel σ ρ lo lo') (hhi : ORel σ ρ hi hi') (hmx : ORel σ ρ mx mx') (w : World)
    (hsz : ∀ n elem b o L es, P.underlying t = some (.array n elem) → x = .ptr b o → ρ b = some L → sz P elem = some es → L.sh + o + n * es ≤ L.sz) :
    ∃ v', (Instr.sliceAt t x' lo' hi' mx').run P w = .ok v' w ∧ Rel σ ρ v v' := by
  unfold sliceA at hh
  split at hh
  · rename_i n elem b o hu
    split at hh
    · rename_i es m hs e1
      split at hh
      · rename_i h e2
        split at hh
        · rename_i l e3
          obtain ⟨hg, hh⟩ := condO_some hh
          simp only [frcN_eq, Option.some.injEq] at hh; subst hh
          unfold Rel at hx
          obtain ⟨L, hL, rfl⟩ := hx
          have hb := sliceBounds_run (P := P) hlo hhi hmx (b := false) (len := n) e1 (Nat.le_refl n) (fun hn => by subst hn; simp [bound] at e1; omega) e2 e3 hg w
          have hmn : (if mx.isNone = true then n else m) = m := by
            split
            · rename_i hn
              cases mx with
              | none => simp [bound] at e1; exact e1
              | some _ => cases hn
            · rfl
          rw [hmn] at hb
          have hm : m ≤ n := by rcases bound_le e1 with h | h <;> exact h
          have hhm : h ≤ m ∨ h ≤ n := by rcases bound_le e2 with h | h <;> omega
          have hhm' : h ≤ m := by
            cases hi with
            | none =>
              simp [bound] at e2
              cases mx with
              | none => simp [bound] at e1; omega
              | some _ => simp at hg
            | some hv => rcases bound_run (σ := σ) (ρ := ρ) e2 hhi with ⟨h1, _⟩ | ⟨_, _, _, h1⟩; cases h1; exact h1
          have hlh : l ≤ h := by rcases bound_le e3 with h | h <;> omega
          have hz := hsz n elem b o L es hu rfl hL hs
          refine ⟨.slice (some (if m = l then ⟨L.blk, L.sh + o, none⟩ else (⟨L.blk, L.sh + o, none⟩ : Addr).add (l * es))) (h - l) (m - l), ?_, ?_⟩
          · simp [Instr.sliceAt, run_underlying hu, Instr.sureAddr, hb, sz_run hs]
          · unfold Rel
            have hmul : l * es ≤ n * es := Nat.mul_le_mul_right _ (by omega)
            have hmul2 : l * es + (m - l) * es = m * es := by rw [← Nat.add_mul]; congr 1; omega
            have hmul3 : m * es ≤ n * es := Nat.mul_le_mul_right _ hm
            split
            · rename_i hml
              exact ⟨L, _, _, hL, rfl, .inr ⟨by omega, by omega⟩, by omega, fun k hk => by cases hk; rfl⟩
            · rw [addr_add]
              exact ⟨L, _, _, hL, rfl, .inl ⟨by rw [Nat.add_assoc], by omega⟩, by omega, fun k hk => by cases hk; rfl⟩
        · cases hh
      · cases hh
    · cases hh
  · rename_i elem b o len cap es hu
    split at hh
    · rename_i es' m hs e1
      split at hh
      · rename_i h e2
        split at hh
        · rename_i l e3
          have hcc := condO_some hh
          clear hh
          obtain ⟨hg, hh⟩ := hcc
          rw [Bool.and_eq_true] at hg
          have hes : es = es' := Nat.eq_of_beq_eq_true hg.2
          subst hes
          simp only [frcN_eq] at hh
          unfold Rel at hx
          obtain ⟨L, a, c, hL, rfl, hoff, hlc, hcap⟩ := hx
          have hcl : cap.getD len ≤ c := by
            cases cap with
            | none => exact hlc
            | some c' => rw [hcap c' rfl]; exact Nat.le_refl _
          have hb := sliceBounds_run (P := P) hlo hhi hmx (b := true) (len := len) e1 hcl (fun hn => by subst hn; simp [bound] at e1; omega) e2 e3 hg.1 w
          have hm : m ≤ cap.getD len := by rcases bound_le e1 with h | h <;> exact h
          have hhm' : h ≤ m ∨ (h = len ∧ cap.getD len = m) := by
            cases hi with
            | none =>
              simp [bound] at e2
              cases mx with
              | none => simp [bound] at e1; right; exact ⟨e2.symm, e1⟩
              | some _ => simp at hg
            | some hv => rcases bound_run (σ := σ) (ρ := ρ) e2 hhi with ⟨h1, _⟩ | ⟨_, _, _, h1⟩; cases h1; exact .inl h1
          have hll : len ≤ cap.getD len := by
            cases cap with
            | none => exact Nat.le_refl _
            | some c' => rw [hcap c' rfl] at hlc; exact hlc
          have hlh : l ≤ h := by rcases bound_le e3 with h | h <;> omega
          generalize hM : (if mx.isNone = true then c else m) = M at hb
          have hMc : M ≤ c := by rw [← hM]; split <;> omega
          have hhM : h ≤ M := by rw [← hM]; split <;> omega
          have hmul2 : l * es + (M - l) * es = M * es := by rw [← Nat.add_mul]; congr 1; omega
          have hmul3 : M * es ≤ c * es := Nat.mul_le_mul_right _ hMc
          have hmul4 : l * es ≤ M * es := Nat.mul_le_mul_right _ (by omega)
          refine ⟨.slice (if M = l then some a else some (a.add (l * es))) (h - l) (M - l), ?_, ?_⟩
          · simp [Instr.sliceAt, Instr.slice, run_underlying hu, hb, sz_run hs]
          · have hv : ∃ q, v = .slc b (o + l * es) (h - l) q es ∧ ∀ k, q = some k → M - l = k := by
              cases cap with
              | none =>
                cases mx with
                | none => exact ⟨none, (Option.some.inj hh).symm, fun k hk => by cases hk⟩
                | some mv => refine ⟨some (m - l), (Option.some.inj hh).symm, fun k hk => ?_⟩; cases hk; rw [← hM]; simp
              | some c' =>
                refine ⟨some (m - l), by cases mx <;> exact (Option.some.inj hh).symm, fun k hk => ?_⟩
                cases hk
                have hcc := hcap c' rfl
                rw [← hM]
                split
                · rename_i hn
                  cases mx with
                  | none => simp [bound] at e1; omega
                  | some _ => cases hn
                · rfl
            obtain ⟨q, rfl, hq⟩ := hv
            unfold Rel
            split
            · rename_i hml
              exact ⟨L, a, _, hL, rfl, .inr ⟨by omega, by omega⟩, by omega, hq⟩
            · rcases hoff with ⟨rfl, hoc⟩ | ⟨_, h0⟩
              · rw [addr_add]
                exact ⟨L, _, _, hL, rfl, .inl ⟨by rw [Nat.add_assoc], by omega⟩, by omega, hq⟩
              · omega
        · cases hh
      · cases hh
    · cases hh
  · rename_i elem hu
    split at hh
    · rename_i l h m e3 e2 e1
      obtain ⟨hg, hh⟩ := condO_some hh
      rw [Bool.and_eq_true] at hg
      cases hh
      unfold Rel at hx; subst hx
      have hm0 : m = 0 := by rcases bound_le e1 with h | h <;> omega
      have hh0 : h = 0 := by rcases bound_le e2 with h | h <;> omega
      have hl0 : l = 0 := by rcases bound_le e3 with h | h <;> omega
      subst hm0; subst hh0; subst hl0
      have hb := sliceBounds_run (P := P) hlo hhi hmx (b := true) (len := 0) (c := 0) e1 (Nat.le_refl 0) (fun _ => Nat.le_refl 0) e2 e3 hg.1 w
      have : (if mx.isNone = true then 0 else 0) = 0 := by split <;> rfl
      rw [this] at hb
      obtain ⟨i, hi'⟩ := Option.isSome_iff_exists.1 hg.2
      refine ⟨.slice none 0 0, ?_, by unfold Rel; rfl⟩
      simp [Instr.sliceAt, Instr.slice, run_underlying hu, hb, sizeOf, typeInfo, hi']
    · cases hh
  · cases hh
end
end Go.AM
