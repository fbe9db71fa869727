/- Part 13 of a calculation in a small memory that is proved to answer as the program does: see the last part. -/
import Derived.Test.YtmmebmhhonbahaaAm12
namespace Go.AM
open Go Go.RowKit

section
variable {P : Program} {σ : Nat → Value} {ρ : Ren} {base : Nat} {H H' : AHeap} {w : World}
theorem len_ok {t : TypeId} {x v : AVal} {x' : Value} {ty : TypeId} (h : lenA P t x H = some (v, H')) (hx : Rel σ ρ x x') (hwr : WR σ ρ base H w) (ts : List TypeId) :
    Okay σ ρ base H H' w (fun ρ' v' => Rel σ ρ' v v') ((Builtin.len_ (t :: ts).toArray ty #[x']).run P w) := by
  unfold lenA at h
  generalize hu : P.underlying t = d at h
  split at h
  · rename_i s
    cases ret_some h
    unfold Rel at hx; subst hx
    exact .same (b := goInt s.size) (by simp [Builtin.len_, run_underlying hu]) hwr rfl rfl (by unfold Rel; rfl)
  · rename_i n e
    cases ret_some h
    exact .same (b := goInt n) (by simp [Builtin.len_, run_underlying hu]) hwr rfl rfl (by unfold Rel; rfl)
  · rename_i e b o n c es
    cases ret_some h
    unfold Rel at hx
    obtain ⟨L, off, cc, _, rfl, _⟩ := hx
    exact .same (b := goInt n) (by simp [Builtin.len_, run_underlying hu]) hwr rfl rfl (by unfold Rel; rfl)
  · rename_i e
    cases ret_some h
    unfold Rel at hx; subst hx
    exact .same (b := goInt 0) (by simp [Builtin.len_, run_underlying hu]) hwr rfl rfl (by unfold Rel; rfl)
  · exact (fail_some h).elim
theorem rel_undefL : Rel σ ρ .undef (.tuple #[]) := rel_undef
theorem clear_ok {t : TypeId} {x v : AVal} {x' : Value} {ty : TypeId} (h : clearA P t x H = some (v, H')) (hx : Rel σ ρ x x') (hσ : One σ) (hwr : WR σ ρ base H w) (ts : List TypeId) :
    Okay σ ρ base H H' w (fun ρ' v' => Rel σ ρ' v v') ((Builtin.clear_ (t :: ts).toArray ty #[x']).run P w) := by
  unfold clearA at h
  generalize hu : P.underlying t = d at h
  split at h
  · rename_i e
    cases ret_some h
    unfold Rel at hx; subst hx
    exact .same (b := .tuple #[]) (by simp [Builtin.clear_, run_underlying hu]) hwr rfl rfl rel_undefL
  · rename_i elem b o n c es
    cases hz : zeros P elem n with
    | none => simp only [hz] at h; exact (fail_some h).elim
    | some p =>
      obtain ⟨cs, es'⟩ := p
      simp only [hz] at h
      have hcs := cond_some h
      clear h
      obtain ⟨he, h⟩ := hcs
      have he := Nat.eq_of_beq_eq_true he
      subst he
      unfold Rel at hx
      obtain ⟨L, off, cc, hL, rfl, hoff, hlc, hoc, _⟩ := hx
      split at h
      · cases ret_some h
        exact .same (b := .tuple #[]) (by simp [Builtin.clear_, run_underlying hu]) hwr rfl rfl rel_undefL
      · rename_i m
        obtain ⟨_, K, h1, h2⟩ := bd_some h
        cases ret_some h2
        obtain ⟨i, z, zz⟩ := zeros_spec (σ := σ) (ρ := ρ) hz hσ
        have hof : off = L.sh + o := by omega
        subst hof
        obtain ⟨n1, l1, w', s1, s2, s3⟩ := storeCellsA_ok (P := P) h1 hσ hwr hL zz.rel
        refine ⟨.tuple #[], w', ρ, ?_, .refl _ _ _, s2, s3, rel_undefL⟩
        have hzc : Builtin.zeroCells z.cells (m + 1) = (replV (m + 1) z.cells.toList).toArray := cycle_eq z.cells (m + 1)
        simp [Builtin.clear_, run_underlying hu, zeroValue, typeInfo, zz.info, zz.zero, hzc, s1]
  · exact (fail_some h).elim
theorem min_run {l : List AVal} {x v : AVal} {l' : List Value} {x' : Value} (h : foldA min2A x l = some v) (hx : Rel σ ρ x x') (hl : RelL σ ρ l l') (w : World) :
    ∃ v', (l'.foldlM Builtin.min2 x').run P w = .ok v' w ∧ Rel σ ρ v v' := by
  induction l generalizing x x' l' with
  | nil => unfold RelL at hl; subst hl; cases h; exact ⟨x', by simp, hx⟩
  | cons y ys ih =>
    unfold RelL at hl
    obtain ⟨y', ys', rfl, hy, hys⟩ := hl
    simp only [foldA] at h
    split at h
    · rename_i z hz
      unfold min2A at hz
      split at hz
      · rename_i k a k' b
        obtain ⟨hk, hz'⟩ := condO_some hz
        clear hz
        have hk := kind_eq hk
        subst hk
        simp only [Option.some.injEq] at hz'
        subst hz'
        unfold Rel at hx hy; subst hx; subst hy
        obtain ⟨v', e, r⟩ := ih (x' := .int k (if b < a then b else a)) h (by unfold Rel; rw [ltI_eq]; by_cases hab : b < a <;> simp [hab]) hys
        exact ⟨v', by simp only [List.foldlM_cons, Builtin.min2, Sem.run_bind, Sem.run_pure, Result.andThen_ok]; exact e, r⟩
      · cases hz
    · cases h
theorem max_run {l : List AVal} {x v : AVal} {l' : List Value} {x' : Value} (h : foldA max2A x l = some v) (hx : Rel σ ρ x x') (hl : RelL σ ρ l l') (w : World) :
    ∃ v', (l'.foldlM Builtin.max2 x').run P w = .ok v' w ∧ Rel σ ρ v v' := by
  induction l generalizing x x' l' with
  | nil => unfold RelL at hl; subst hl; cases h; exact ⟨x', by simp, hx⟩
  | cons y ys ih =>
    unfold RelL at hl
    obtain ⟨y', ys', rfl, hy, hys⟩ := hl
    simp only [foldA] at h
    split at h
    · rename_i z hz
      unfold max2A at hz
      split at hz
      · rename_i k a k' b
        obtain ⟨hk, hz'⟩ := condO_some hz
        clear hz
        have hk := kind_eq hk
        subst hk
        simp only [Option.some.injEq] at hz'
        subst hz'
        unfold Rel at hx hy; subst hx; subst hy
        obtain ⟨v', e, r⟩ := ih (x' := .int k (if a < b then b else a)) h (by unfold Rel; rw [ltI_eq]; by_cases hab : a < b <;> simp [hab]) hys
        exact ⟨v', by simp only [List.foldlM_cons, Builtin.max2, Sem.run_bind, Sem.run_pure, Result.andThen_ok]; exact e, r⟩
      · cases hz
    · cases h
theorem sliceM_ok {t : TypeId} {x v : AVal} {lo hi mx : Option AVal} {x' : Value} {lo' hi' mx' : Option Value} (h : sliceM P t x lo hi mx H = some (v, H')) (hx : Rel σ ρ x x')
    (hlo : ORel σ ρ lo lo') (hhi : ORel σ ρ hi hi') (hmx : ORel σ ρ mx mx') (hwr : WR σ ρ base H w) :
    Okay σ ρ base H H' w (fun ρ' v' => Rel σ ρ' v v') ((Instr.sliceAt t x' lo' hi' mx').run P w) := by
  unfold sliceM at h
  generalize hu : P.underlying t = d at h
  split at h
  · rename_i n elem b o
    cases hs : sz P elem with
    | none => simp only [hs] at h; exact (fail_some h).elim
    | some es =>
      simp only [hs] at h
      obtain ⟨blk, K, h1, h2⟩ := bd_some h
      obtain ⟨hb, e1, e2, e3⟩ := rd_some h1
      cases blk with
      | cells e c N =>
        obtain ⟨hle, h3⟩ := cond_some h2
        obtain ⟨v', hv, he⟩ := lift_some h3
        cases he
        have hle : o + n * es ≤ N := by simpa [Nat.ble_eq] using hle
        obtain ⟨r, p1, p2⟩ := slice_run (P := P) hv hx hlo hhi hmx w (fun n' elem' b' o' L es' q1 q2 q3 q4 => by
          cases q2
          rw [hu] at q1; cases q1
          rw [hs] at q4; cases q4
          obtain ⟨L', hL', cc, fr, r1, r2, r3, r4, r5⟩ := hwr.blk b _ hb
          rw [q3] at hL'; cases hL'
          omega)
        exact .same p1 hwr e1 e2 p2
      | _ => exact (fail_some h2).elim
  · rename_i hno
    obtain ⟨v', hv, he⟩ := lift_some h
    cases he
    obtain ⟨r, p1, p2⟩ := slice_run (P := P) hv hx hlo hhi hmx w (fun n' elem' b' o' L es' q1 q2 q3 q4 => absurd q2 (fun e => hno _ _ _ _ (by rw [← hu, q1]) e))
    exact .same p1 hwr rfl rfl p2

/-! ### methods -/
inductive PlRel (σ : Nat → Value) (ρ : Ren) : APl → Place → Prop
  | val {v v'} (h : Rel σ ρ v v') : PlRel σ ρ (.val v) (.val v')
  | var {b o : Nat} {L : Loc} (h : ρ b = some L) : PlRel σ ρ (.var b o) (.var ⟨L.blk, L.sh + o, none⟩)
structure Same (H H' : AHeap) : Prop where
  blks : H'.blks = H.blks
  lo : H'.lo = H.lo
  next : H'.next = H.next
theorem Same.refl (H : AHeap) : Same H H := ⟨rfl, rfl, rfl⟩
theorem Same.trans {a b c : AHeap} (h : Same a b) (k : Same b c) : Same a c := ⟨k.blks.trans h.blks, k.lo.trans h.lo, k.next.trans h.next⟩
theorem get_ok {t : TypeId} {x : APl} {x' : Place} {v : AVal} (h : x.get P t H = some (v, H')) (hx : PlRel σ ρ x x') (hwr : WR σ ρ base H w) : Same H H' ∧ ∃ v', (x'.get t).run P w = .ok v' w ∧ Rel σ ρ v v' := by
  cases hx with
  | val hv => cases ret_some h; exact ⟨.refl _, _, rfl, hv⟩
  | var hL =>
    obtain ⟨e1, e2, e3, v', e, r⟩ := loadA_ok (P := P) h hwr hL
    exact ⟨⟨e1, e2, e3⟩, v', e, r⟩
theorem step_ok {s : FieldStep} {x : APl} {t : TypeId} {p : TypeId × APl} {x' : Place} (h : stepA P s x t H = some (p, H')) (hx : PlRel σ ρ x x') (hwr : WR σ ρ base H w) :
    Same H H' ∧ ∃ y', PlRel σ ρ p.2 y' ∧ ∀ rest, (follow (s :: rest) t x').run P w = (follow rest p.1 y').run P w := by
  unfold stepA at h
  generalize hu : P.underlying s.struct = d at h
  split at h
  · rename_i fields
    generalize hf : fields[s.index]? = f at h
    split at h
    · rename_i f
      generalize hs : sz P f.type = nn at h
      split at h
      · rename_i n
        cases hd : s.deref with
        | true =>
          simp only [hd, cond_true] at h
          obtain ⟨v, K, h1, h2⟩ := bd_some h
          obtain ⟨sm, v', e, r⟩ := get_ok (P := P) h1 hx hwr
          split at h2
          · rename_i b o
            cases ret_some h2
            unfold Rel at r
            obtain ⟨L, hL, rfl⟩ := r
            refine ⟨sm, .var ⟨L.blk, L.sh + o + f.offset, none⟩, by rw [Nat.add_assoc]; exact .var hL, fun rest => ?_⟩
            simp [follow, run_underlying hu, hf, hd, e, asAddr, fieldPlace, sz_run hs, addr_add]
          · exact (fail_some h2).elim
        | false =>
          simp only [hd, cond_false] at h
          cases hx with
          | var hL =>
            rename_i b o L
            cases ret_some h
            refine ⟨.refl _, .var ⟨L.blk, L.sh + o + f.offset, none⟩, by rw [Nat.add_assoc]; exact .var hL, fun rest => ?_⟩
            simp [follow, run_underlying hu, hf, hd, fieldPlace, sz_run hs, addr_add]
          | val hv =>
            rename_i v v'
            cases v with
            | agg cs =>
              simp only at h
              unfold Rel at hv
              obtain ⟨cs', rfl, hv⟩ := hv
              generalize hy : aPart P f.type cs f.offset = yy at h
              cases yy with
              | some y =>
                cases ret_some h
                obtain ⟨y', e, r⟩ := part_run hy hv w
                refine ⟨.refl _, .val y', .val r, fun rest => ?_⟩
                simp [follow, run_underlying hu, hf, hd, e]
              | none => exact (fail_some h).elim
            | _ => exact (fail_some h).elim
      · exact (fail_some h).elim
    · exact (fail_some h).elim
  · exact (fail_some h).elim
theorem follow_ok : ∀ (l : List FieldStep) {x : APl} {t : TypeId} {p : TypeId × APl} {x' : Place} {H H' : AHeap}, followA P l t x H = some (p, H') → PlRel σ ρ x x' → WR σ ρ base H w →
    Same H H' ∧ ∃ y', PlRel σ ρ p.2 y' ∧ (follow l t x').run P w = .ok (p.1, y') w
  | [], x, t, p, x', H, H', h, hx, hwr => by cases ret_some h; exact ⟨.refl _, x', hx, by simp [follow]⟩
  | s :: l, x, t, p, x', H, H', h, hx, hwr => by
    obtain ⟨q, K, h1, h2⟩ := bd_some h
    obtain ⟨sm, y', r, e⟩ := step_ok (P := P) h1 hx hwr
    obtain ⟨sm2, z', r2, e2⟩ := follow_ok l h2 r (hwr.log sm.blks sm.lo)
    exact ⟨sm.trans sm2, z', r2, (e l).trans e2⟩
theorem receiver_ok {xt : TypeId} {x : APl} {pr : Bool} {v : AVal} {x' : Place} {wr_ : Option String} (h : receiverA P xt x pr H = some (v, H')) (hx : PlRel σ ρ x x') (hwr : WR σ ρ base H w) :
    Same H H' ∧ ∃ v', (receiverAt xt x' pr wr_).run P w = .ok v' w ∧ Rel σ ρ v v' := by
  unfold receiverA at h
  generalize hu : P.underlying xt = du at h
  split at h
  · rename_i elem
    cases pr with
    | true =>
      simp only [cond_true] at h
      obtain ⟨sm, v', e, r⟩ := get_ok (P := P) h hx hwr
      exact ⟨sm, v', by simp [receiverAt, run_underlying hu, e], r⟩
    | false =>
      simp only [cond_false] at h
      obtain ⟨p, K, h1, h2⟩ := bd_some h
      obtain ⟨sm, v', e, r⟩ := get_ok (P := P) h1 hx hwr
      split at h2
      · rename_i b o
        unfold Rel at r
        obtain ⟨L, hL, rfl⟩ := r
        obtain ⟨e1, e2, e3, v', e', r'⟩ := loadA_ok (P := P) h2 (hwr.log sm.blks sm.lo) hL
        refine ⟨sm.trans ⟨e1, e2, e3⟩, v', ?_, r'⟩
        have hchk : ∀ name : String, Builtin.ssaWrapNilChk_ #[xt] xt #[.pointer (some ⟨L.blk, L.sh + o, none⟩), strVal "", strVal name] = pure (.pointer (some ⟨L.blk, L.sh + o, none⟩)) := fun _ => rfl
        cases wr_ <;> simp [receiverAt, run_underlying hu, e, hchk, asAddr, e']
      · exact (fail_some h2).elim
  · rename_i d hnp
    have hd : ∀ e, d ≠ .pointer e := fun e he => hnp e (by rw [he])
    cases pr with
    | true =>
      simp only [cond_true] at h
      cases hx with
      | val hv => exact (fail_some h).elim
      | var hL =>
        cases ret_some h
        refine ⟨.refl _, _, ?_, by unfold Rel; exact ⟨_, hL, rfl⟩⟩
        simp only [receiverAt, Sem.run_bind, run_underlying hu, Result.andThen_ok]
        cases d <;> first | exact absurd rfl (hd _) | rfl
    | false =>
      simp only [cond_false] at h
      obtain ⟨sm, v', e, r⟩ := get_ok (P := P) h hx hwr
      refine ⟨sm, v', ?_, r⟩
      simp only [receiverAt, Sem.run_bind, run_underlying hu, Result.andThen_ok]
      cases d <;> first | exact absurd rfl (hd _) | exact e
  · exact (fail_some h).elim
theorem method_ok {t : TypeId} {x : AVal} {name : String} {p : FuncId × AVal} {x' : Value} (h : methodA P t x name H = some (p, H')) (hx : Rel σ ρ x x') (hwr : WR σ ρ base H w) (n : Nat) :
    Same H H' ∧ ∃ r', (method (n + 1) t x' name).run P w = .ok (p.1, r') w ∧ Rel σ ρ p.2 r' := by
  unfold methodA at h
  generalize hi : P.info? t = ii at h
  split at h
  · rename_i i
    generalize hm : i.methods.find? (·.name == name) = mm at h
    split at h
    · rename_i m
      generalize hf : m.func = ff at h
      split at h
      · rename_i f pr
        obtain ⟨q, K, h1, h2⟩ := bd_some h
        obtain ⟨r, K2, h3, h4⟩ := bd_some h2
        cases ret_some h4
        obtain ⟨sm, y', r1, e1⟩ := follow_ok (P := P) m.path.toList h1 (.val hx) hwr
        obtain ⟨sm2, v', e2, r2⟩ := receiver_ok (P := P) (wr_ := if m.path.isEmpty then some ((name.splitOn ".").getLastD name) else none) h3 r1 (hwr.log sm.blks sm.lo)
        refine ⟨sm.trans sm2, v', ?_, r2⟩
        simp only [method, Sem.run_bind, info_run hi, Result.andThen_ok, hm, e1, hf, e2, Sem.run_pure]
      · exact (fail_some h).elim
    · exact (fail_some h).elim
  · exact (fail_some h).elim
end
end Go.AM
