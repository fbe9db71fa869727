/- Part 13 of a calculation in a small memory that is proved to answer as the program does: see the last part. -/
import Derived.Test.YtnbgeelhoakjgaaAm12
namespace Go.AM
open Go Go.RowKit

section
variable {P : Program} {σ : Nat → Value} {ρ : Ren} {base : Nat} {H H' : AHeap} {w : World}
theorem len_ok {t : TypeId} {x v : AVal} {x' : Value} {ty : TypeId} (h : lenA P t x H = some (v, H')) (hx : Rel σ ρ x x') (hwr : WR σ ρ base H w) (ts : List TypeId) :
    Okay σ ρ base H H' w (fun ρ' v' => Rel σ ρ' v v') ((Builtin.len_ (t :: ts).toArray ty #[x']).run P w) := by
  unfold lenA at h
  generalize hu : P.underlying t = d at h
  split at h
  · rename_i s
    cases ret_some h
    unfold Rel at hx; subst hx
    exact .same (b := goInt s.size) (by simp [Builtin.len_, run_underlying hu]) hwr rfl rfl (by unfold Rel; rfl)
  · rename_i n e
    cases ret_some h
    exact .same (b := goInt n) (by simp [Builtin.len_, run_underlying hu]) hwr rfl rfl (by unfold Rel; rfl)
  · rename_i e b o n c es
    cases ret_some h
    unfold Rel at hx
    obtain ⟨L, off, cc, _, rfl, _⟩ := hx
    exact .same (b := goInt n) (by simp [Builtin.len_, run_underlying hu]) hwr rfl rfl (by unfold Rel; rfl)
  · rename_i e
    cases ret_some h
    unfold Rel at hx; subst hx
    exact .same (b := goInt 0) (by simp [Builtin.len_, run_underlying hu]) hwr rfl rfl (by unfold Rel; rfl)
  · cases ret_some h
    unfold Rel at hx; subst hx
    exact .same (b := goInt 0) (by simp [Builtin.len_, run_underlying hu]) hwr rfl rfl (by unfold Rel; rfl)
  · rename_i kt et b
    obtain ⟨blk, K1, g1, g2⟩ := bd_some h
    obtain ⟨hb, e1, e2, e3⟩ := rd_some g1
    split at g2
    · rename_i es clock
      rw [frcN_eq] at g2
      cases ret_some g2
      unfold Rel at hx
      obtain ⟨L, hL, rfl⟩ := hx
      obtain ⟨L', hL', es', q1, q2⟩ := hwr.blk _ _ hb
      rw [hL] at hL'; cases hL'
      have hl : es'.size = es.length := by have := q2.len; simpa using this
      exact .same (b := goInt es'.size) (by simp [Builtin.len_, run_underlying hu, getObj, Sem.run, q1]) hwr e1 e2 (by unfold Rel; rw [hl]; rfl)
    · exact (fail_some g2).elim
  · exact (fail_some h).elim
/-! ### ranges over maps -/
theorem newBlk_ok' {b : ABlk} {id : Nat} {o : Obj} (h : nw b H = some (id, H')) (hwr : WR σ ρ base H w) (hf : Free ρ H.next H'.next) (hb : ∀ ρ', Le ρ ρ' → BR σ ρ' True ⟨w.heap.size, 0, 0⟩ b (some o)) :
    ∃ ρ', Ext ρ ρ' H.next H'.next ∧ WR σ ρ' base H' (w.alloc o) ∧ Below base w (w.alloc o) ∧ ρ' id = some ⟨w.heap.size, 0, 0⟩ := by
  obtain ⟨rfl, hlo, hk, hkl, hkn⟩ := nw_some h
  obtain ⟨ρ', x1, x2, x3, x4⟩ := hwr.new (L := ⟨w.heap.size, 0, 0⟩) (b := b) (hf H.next (Nat.le_refl _) (by omega)) (fun j bj Lj hj hLj => Nat.ne_of_lt (live_lt hwr hj hLj)) hwr.base
    (push_upd w o) (fun ρ' hle _ => hb ρ' hle) hk hkl hkn
  exact ⟨ρ', x1, x3, x4, x2⟩
theorem range_ok {t : TypeId} {x v : AVal} {x' : Value} (h : rangeA P t x H = some (v, H')) (hx : Rel σ ρ x x') (hwr : WR σ ρ base H w) (hf : Free ρ H.next H'.next) :
    Okay σ ρ base H H' w (fun ρ' v' => Rel σ ρ' v v') ((Instr.range t x').run P w) := by
  unfold rangeA at h
  generalize hu : P.underlying t = d at h
  split at h
  · rename_i kt et
    unfold Rel at hx; subst hx
    obtain ⟨id, K, h1, h2⟩ := bd_some h
    cases ret_some h2
    have := newBlk_ok' (o := .mapIter none 0 #[] 0) h1 hwr hf (fun ρ' _ => ⟨rfl, none, rfl, rfl⟩)
    obtain ⟨ρ', p1, p2, p3, p4⟩ := this
    exact ⟨.pointer (some ⟨w.heap.size, 0, none⟩), _, ρ', by simp [Instr.range, run_underlying hu, newObj, Sem.run], p1, p2, p3, by unfold Rel; exact ⟨_, p4, rfl⟩⟩
  · rename_i kt et b
    unfold Rel at hx
    obtain ⟨L, hL, rfl⟩ := hx
    obtain ⟨blk, K1, g1, g2⟩ := bd_some h
    obtain ⟨hb, e1, e2, e3⟩ := rd_some g1
    split at g2
    · rename_i es clock
      obtain ⟨id, K, h1, h2⟩ := bd_some g2
      cases ret_some h2
      obtain ⟨L', hL', es', q1, q2⟩ := hwr.blk _ _ hb
      rw [hL] at hL'; cases hL'
      have := newBlk_ok' (o := .mapIter (some L.blk) clock #[] clock) h1 (hwr.log e1 e2) (by rw [e3]; exact hf) (fun ρ' hle => ⟨rfl, some L.blk, ⟨L, hle _ _ hL, rfl⟩, rfl⟩)
      obtain ⟨ρ', p1, p2, p3, p4⟩ := this
      exact ⟨.pointer (some ⟨w.heap.size, 0, none⟩), _, ρ', by simp [Instr.range, run_underlying hu, getObj, Sem.run, q1, newObj, Sem.run], by rw [← e3]; exact p1, p2, p3, by unfold Rel; exact ⟨_, p4, rfl⟩⟩
    · exact (fail_some g2).elim
  · exact (fail_some h).elim
theorem findBorn_rel {n : Nat} {e : AEnt} : ∀ {es : List AEnt} {es' : List MapEntry}, EsRel σ ρ es es' → findBorn n es = some e → ∃ e', es'.find? (·.born == n) = some e' ∧ ERel σ ρ e e'
  | [], _, _, h => by cases h
  | a :: es, es', hr, h => by
    cases es' with
    | nil => have := hr.len; simp at this
    | cons a' es' =>
      have ha := hr.at_ 0 a a' rfl rfl
      have ht : EsRel σ ρ es es' := ⟨by have := hr.len; simpa using this, fun i x y hx hy => hr.at_ (i + 1) x y (by simpa using hx) (by simpa using hy)⟩
      unfold findBorn at h
      cases hb : Nat.beq a.born n with
      | true =>
        simp only [hb, cond_true] at h
        cases h
        have := Nat.eq_of_beq_eq_true hb
        exact ⟨a', by simp [List.find?, ha.born, this], ha⟩
      | false =>
        simp only [hb, cond_false] at h
        obtain ⟨e', h1, h2⟩ := findBorn_rel ht h
        have : ¬ a.born = n := fun e => by subst e; simp at hb
        exact ⟨e', by have hf : (a.born == n) = false := by simpa using this
                      simp [List.find?, ha.born, hf, h1], h2⟩
theorem lastN_eq : ∀ l : List Nat, lastN l = l.getLast?
  | [] => rfl
  | [_] => rfl
  | _ :: b :: l => by unfold lastN; rw [lastN_eq (b :: l)]; simp [List.getLast?_cons_cons]
theorem entry_ok {x v : AVal} {x' : Value} (h : entryA x H = some (v, H')) (hx : Rel σ ρ x x') (hwr : WR σ ρ base H w) :
    Okay σ ρ base H H' w (fun ρ' v' => Rel σ ρ' v v') ((Instr.entry x').run P w) := by
  unfold entryA at h
  split at h
  · rename_i r
    unfold Rel at hx
    obtain ⟨L, hL, rfl⟩ := hx
    obtain ⟨blk, K1, g1, g2⟩ := bd_some h
    obtain ⟨hb, e1, e2, e3⟩ := rd_some g1
    cases blk with
    | iter m since seen stepped =>
      cases m with
      | none => exact (fail_some g2).elim
      | some m =>
        simp only at g2
        generalize hst : lastN seen = ls at g2
        cases ls with
        | none => exact (fail_some g2).elim
        | some stamp =>
          obtain ⟨blk2, K2, g3, g4⟩ := bd_some g2
          obtain ⟨hb2, f1, f2, f3⟩ := rd_some g3
          cases blk2 with
          | map es clock =>
            obtain ⟨hc, g5⟩ := cond_some g4
            have hc := Nat.eq_of_beq_eq_true hc
            subst hc
            generalize he : findBorn stamp es = r1 at g5
            cases r1 with
            | none => exact (fail_some g5).elim
            | some e =>
              cases ret_some g5
              obtain ⟨L', hL', hsh, M, q1, q2⟩ := hwr.blk _ _ hb
              rw [hL] at hL'; cases hL'
              obtain ⟨D, q3, rfl⟩ := q1
              rw [e1] at hb2
              obtain ⟨D', hD', es', q4, q5⟩ := hwr.blk _ _ hb2
              rw [q3] at hD'; cases hD'
              obtain ⟨e', q6, q7⟩ := findBorn_rel q5 he
              rw [lastN_eq] at hst
              have q6' : es'.find? (·.born == stamp) = some e' := by rw [← Array.find?_toList]; exact q6
              have hback : seen.toArray.back? = some stamp := by simp [hst]
              exact .same (b := .tuple #[e'.key, e'.val]) (by
                simp only [Instr.entry, hsh, Nat.add_zero, getObj, Sem.run_bind, Sem.run, q2, q4, Result.andThen, hback, q6', bne_self_eq_false, Bool.false_eq_true, if_false]
                rfl) hwr (by rw [f1, e1]) (by rw [f2, e2]) (by
                  unfold Rel; exact ⟨_, rfl, .cons q7.key (.cons q7.val .nil)⟩)
          | _ => exact (fail_some g4).elim
    | _ => exact (fail_some g2).elim
  · exact (fail_some h).elim
theorem rel_undefL : Rel σ ρ .undef (.tuple #[]) := rel_undef
theorem clear_ok {t : TypeId} {x v : AVal} {x' : Value} {ty : TypeId} (h : clearA P t x H = some (v, H')) (hx : Rel σ ρ x x') (hσ : One σ) (hwr : WR σ ρ base H w) (ts : List TypeId) :
    Okay σ ρ base H H' w (fun ρ' v' => Rel σ ρ' v v') ((Builtin.clear_ (t :: ts).toArray ty #[x']).run P w) := by
  unfold clearA at h
  generalize hu : P.underlying t = d at h
  split at h
  · rename_i e
    cases ret_some h
    unfold Rel at hx; subst hx
    exact .same (b := .tuple #[]) (by simp [Builtin.clear_, run_underlying hu]) hwr rfl rfl rel_undefL
  · rename_i elem b o n c es
    cases hz : zeros P elem n with
    | none => simp only [hz] at h; exact (fail_some h).elim
    | some p =>
      obtain ⟨cs, es'⟩ := p
      simp only [hz] at h
      have hcs := cond_some h
      clear h
      obtain ⟨he, h⟩ := hcs
      have he := Nat.eq_of_beq_eq_true he
      subst he
      unfold Rel at hx
      obtain ⟨L, a, cc, hL, rfl, hoff, hlc, _⟩ := hx
      split at h
      · cases ret_some h
        exact .same (b := .tuple #[]) (by simp [Builtin.clear_, run_underlying hu]) hwr rfl rfl rel_undefL
      · rename_i m
        obtain ⟨_, K, h1, h2⟩ := bd_some h
        cases ret_some h2
        obtain ⟨i, z, zz⟩ := zeros_spec (σ := σ) (ρ := ρ) hz hσ
        obtain ⟨rfl, hoc⟩ : a = ⟨L.blk, L.sh + o, none⟩ ∧ L.sh + o + cc * es ≤ L.sz := by rcases hoff with h | h; exact h; omega
        obtain ⟨n1, l1, w', s1, s2, s3⟩ := storeCellsA_ok (P := P) h1 hσ hwr hL zz.rel
        refine ⟨.tuple #[], w', ρ, ?_, .refl _ _ _, s2, s3, rel_undefL⟩
        have hzc : Builtin.zeroCells z.cells (m + 1) = (replV (m + 1) z.cells.toList).toArray := cycle_eq z.cells (m + 1)
        simp [Builtin.clear_, run_underlying hu, zeroValue, typeInfo, zz.info, zz.zero, hzc, s1]
  · exact (fail_some h).elim
theorem min_run {l : List AVal} {x v : AVal} {l' : List Value} {x' : Value} (h : foldA min2A x l = some v) (hx : Rel σ ρ x x') (hl : RelL σ ρ l l') (w : World) :
    ∃ v', (l'.foldlM Builtin.min2 x').run P w = .ok v' w ∧ Rel σ ρ v v' := by
  induction l generalizing x x' l' with
  | nil => unfold RelL at hl; subst hl; cases h; exact ⟨x', by simp, hx⟩
  | cons y ys ih =>
    unfold RelL at hl
    obtain ⟨y', ys', rfl, hy, hys⟩ := hl
    simp only [foldA] at h
    split at h
    · rename_i z hz
      unfold min2A at hz
      split at hz
      · rename_i k a k' b
        obtain ⟨hk, hz'⟩ := condO_some hz
        clear hz
        have hk := kind_eq hk
        subst hk
        simp only [Option.some.injEq] at hz'
        subst hz'
        unfold Rel at hx hy; subst hx; subst hy
        obtain ⟨v', e, r⟩ := ih (x' := .int k (if b < a then b else a)) h (by unfold Rel; rw [ltI_eq]; by_cases hab : b < a <;> simp [hab]) hys
        exact ⟨v', by simp only [List.foldlM_cons, Builtin.min2, Sem.run_bind, Sem.run_pure, Result.andThen_ok]; exact e, r⟩
      · cases hz
    · cases h
theorem max_run {l : List AVal} {x v : AVal} {l' : List Value} {x' : Value} (h : foldA max2A x l = some v) (hx : Rel σ ρ x x') (hl : RelL σ ρ l l') (w : World) :
    ∃ v', (l'.foldlM Builtin.max2 x').run P w = .ok v' w ∧ Rel σ ρ v v' := by
  induction l generalizing x x' l' with
  | nil => unfold RelL at hl; subst hl; cases h; exact ⟨x', by simp, hx⟩
  | cons y ys ih =>
    unfold RelL at hl
    obtain ⟨y', ys', rfl, hy, hys⟩ := hl
    simp only [foldA] at h
    split at h
    · rename_i z hz
      unfold max2A at hz
      split at hz
      · rename_i k a k' b
        obtain ⟨hk, hz'⟩ := condO_some hz
        clear hz
        have hk := kind_eq hk
        subst hk
        simp only [Option.some.injEq] at hz'
        subst hz'
        unfold Rel at hx hy; subst hx; subst hy
        obtain ⟨v', e, r⟩ := ih (x' := .int k (if a < b then b else a)) h (by unfold Rel; rw [ltI_eq]; by_cases hab : a < b <;> simp [hab]) hys
        exact ⟨v', by simp only [List.foldlM_cons, Builtin.max2, Sem.run_bind, Sem.run_pure, Result.andThen_ok]; exact e, r⟩
      · cases hz
    · cases h
theorem sliceM_ok {t : TypeId} {x v : AVal} {lo hi mx : Option AVal} {x' : Value} {lo' hi' mx' : Option Value} (h : sliceM P t x lo hi mx H = some (v, H')) (hx : Rel σ ρ x x')
    (hlo : ORel σ ρ lo lo') (hhi : ORel σ ρ hi hi') (hmx : ORel σ ρ mx mx') (hwr : WR σ ρ base H w) :
    Okay σ ρ base H H' w (fun ρ' v' => Rel σ ρ' v v') ((Instr.sliceAt t x' lo' hi' mx').run P w) := by
  unfold sliceM at h
  generalize hu : P.underlying t = d at h
  split at h
  · rename_i n elem b o
    cases hs : sz P elem with
    | none => simp only [hs] at h; exact (fail_some h).elim
    | some es =>
      simp only [hs] at h
      obtain ⟨blk, K, h1, h2⟩ := bd_some h
      obtain ⟨hb, e1, e2, e3⟩ := rd_some h1
      cases blk with
      | cells e c N =>
        obtain ⟨hle, h3⟩ := cond_some h2
        obtain ⟨v', hv, he⟩ := lift_some h3
        cases he
        have hle : o + n * es ≤ N := by simpa [Nat.ble_eq] using hle
        obtain ⟨r, p1, p2⟩ := slice_run (P := P) hv hx hlo hhi hmx w (fun n' elem' b' o' L es' q1 q2 q3 q4 => by
          cases q2
          rw [hu] at q1; cases q1
          rw [hs] at q4; cases q4
          obtain ⟨L', hL', cc, fr, r1, r2, r3, r4, r5⟩ := hwr.blk b _ hb
          rw [q3] at hL'; cases hL'
          omega)
        exact .same p1 hwr e1 e2 p2
      | _ => exact (fail_some h2).elim
  · rename_i hno
    obtain ⟨v', hv, he⟩ := lift_some h
    cases he
    obtain ⟨r, p1, p2⟩ := slice_run (P := P) hv hx hlo hhi hmx w (fun n' elem' b' o' L es' q1 q2 q3 q4 => absurd q2 (fun e => hno _ _ _ _ (by rw [← hu, q1]) e))
    exact .same p1 hwr rfl rfl p2

/-! ### methods -/
inductive PlRel (σ : Nat → Value) (ρ : Ren) : APl → Place → Prop
  | val {v v'} (h : Rel σ ρ v v') : PlRel σ ρ (.val v) (.val v')
  | var {b o : Nat} {L : Loc} (h : ρ b = some L) : PlRel σ ρ (.var b o) (.var ⟨L.blk, L.sh + o, none⟩)
structure Same (H H' : AHeap) : Prop where
  blks : H'.blks = H.blks
  lo : H'.lo = H.lo
  next : H'.next = H.next
theorem Same.refl (H : AHeap) : Same H H := ⟨rfl, rfl, rfl⟩
theorem Same.trans {a b c : AHeap} (h : Same a b) (k : Same b c) : Same a c := ⟨k.blks.trans h.blks, k.lo.trans h.lo, k.next.trans h.next⟩
theorem get_ok {t : TypeId} {x : APl} {x' : Place} {v : AVal} (h : x.get P t H = some (v, H')) (hx : PlRel σ ρ x x') (hwr : WR σ ρ base H w) : Same H H' ∧ ∃ v', (x'.get t).run P w = .ok v' w ∧ Rel σ ρ v v' := by
  cases hx with
  | val hv => cases ret_some h; exact ⟨.refl _, _, rfl, hv⟩
  | var hL =>
    obtain ⟨e1, e2, e3, v', e, r⟩ := loadA_ok (P := P) h hwr hL
    exact ⟨⟨e1, e2, e3⟩, v', e, r⟩
theorem step_ok {s : FieldStep} {x : APl} {t : TypeId} {p : TypeId × APl} {x' : Place} (h : stepA P s x t H = some (p, H')) (hx : PlRel σ ρ x x') (hwr : WR σ ρ base H w) :
    Same H H' ∧ ∃ y', PlRel σ ρ p.2 y' ∧ ∀ rest, (follow (s :: rest) t x').run P w = (follow rest p.1 y').run P w := by
  unfold stepA at h
  generalize hu : P.underlying s.struct = d at h
  split at h
  · rename_i fields
    generalize hf : fields[s.index]? = f at h
    split at h
    · rename_i f
      generalize hs : sz P f.type = nn at h
      split at h
      · rename_i n
        cases hd : s.deref with
        | true =>
          simp only [hd, cond_true] at h
          obtain ⟨v, K, h1, h2⟩ := bd_some h
          obtain ⟨sm, v', e, r⟩ := get_ok (P := P) h1 hx hwr
          split at h2
          · rename_i b o
            cases ret_some h2
            unfold Rel at r
            obtain ⟨L, hL, rfl⟩ := r
            refine ⟨sm, .var ⟨L.blk, L.sh + o + f.offset, none⟩, by rw [Nat.add_assoc]; exact .var hL, fun rest => ?_⟩
            simp [follow, run_underlying hu, hf, hd, e, asAddr, fieldPlace, sz_run hs, addr_add]
          · exact (fail_some h2).elim
        | false =>
          simp only [hd, cond_false] at h
          cases hx with
          | var hL =>
            rename_i b o L
            cases ret_some h
            refine ⟨.refl _, .var ⟨L.blk, L.sh + o + f.offset, none⟩, by rw [Nat.add_assoc]; exact .var hL, fun rest => ?_⟩
            simp [follow, run_underlying hu, hf, hd, fieldPlace, sz_run hs, addr_add]
          | val hv =>
            rename_i v v'
            cases v with
            | agg cs =>
              simp only at h
              unfold Rel at hv
              obtain ⟨cs', rfl, hv⟩ := hv
              generalize hy : aPart P f.type cs f.offset = yy at h
              cases yy with
              | some y =>
                cases ret_some h
                obtain ⟨y', e, r⟩ := part_run hy hv w
                refine ⟨.refl _, .val y', .val r, fun rest => ?_⟩
                simp [follow, run_underlying hu, hf, hd, e]
              | none => exact (fail_some h).elim
            | _ => exact (fail_some h).elim
      · exact (fail_some h).elim
    · exact (fail_some h).elim
  · exact (fail_some h).elim
theorem follow_ok : ∀ (l : List FieldStep) {x : APl} {t : TypeId} {p : TypeId × APl} {x' : Place} {H H' : AHeap}, followA P l t x H = some (p, H') → PlRel σ ρ x x' → WR σ ρ base H w →
    Same H H' ∧ ∃ y', PlRel σ ρ p.2 y' ∧ (follow l t x').run P w = .ok (p.1, y') w
  | [], x, t, p, x', H, H', h, hx, hwr => by cases ret_some h; exact ⟨.refl _, x', hx, by simp [follow]⟩
  | s :: l, x, t, p, x', H, H', h, hx, hwr => by
    obtain ⟨q, K, h1, h2⟩ := bd_some h
    obtain ⟨sm, y', r, e⟩ := step_ok (P := P) h1 hx hwr
    obtain ⟨sm2, z', r2, e2⟩ := follow_ok l h2 r (hwr.log sm.blks sm.lo)
    exact ⟨sm.trans sm2, z', r2, (e l).trans e2⟩
theorem receiver_ok {xt : TypeId} {x : APl} {pr : Bool} {v : AVal} {x' : Place} {wr_ : Option String} (h : receiverA P xt x pr H = some (v, H')) (hx : PlRel σ ρ x x') (hwr : WR σ ρ base H w) :
    Same H H' ∧ ∃ v', (receiverAt xt x' pr wr_).run P w = .ok v' w ∧ Rel σ ρ v v' := by
  unfold receiverA at h
  generalize hu : P.underlying xt = du at h
  split at h
  · rename_i elem
    cases pr with
    | true =>
      simp only [cond_true] at h
      obtain ⟨sm, v', e, r⟩ := get_ok (P := P) h hx hwr
      exact ⟨sm, v', by simp [receiverAt, run_underlying hu, e], r⟩
    | false =>
      simp only [cond_false] at h
      obtain ⟨p, K, h1, h2⟩ := bd_some h
      obtain ⟨sm, v', e, r⟩ := get_ok (P := P) h1 hx hwr
      split at h2
      · rename_i b o
        unfold Rel at r
        obtain ⟨L, hL, rfl⟩ := r
        obtain ⟨e1, e2, e3, v', e', r'⟩ := loadA_ok (P := P) h2 (hwr.log sm.blks sm.lo) hL
        refine ⟨sm.trans ⟨e1, e2, e3⟩, v', ?_, r'⟩
        have hchk : ∀ name : String, Builtin.ssaWrapNilChk_ #[xt] xt #[.pointer (some ⟨L.blk, L.sh + o, none⟩), strVal "", strVal name] = pure (.pointer (some ⟨L.blk, L.sh + o, none⟩)) := fun _ => rfl
        cases wr_ <;> simp [receiverAt, run_underlying hu, e, hchk, asAddr, e']
      · exact (fail_some h2).elim
  · rename_i d hnp
    have hd : ∀ e, d ≠ .pointer e := fun e he => hnp e (by rw [he])
    cases pr with
    | true =>
      simp only [cond_true] at h
      cases hx with
      | val hv => exact (fail_some h).elim
      | var hL =>
        cases ret_some h
        refine ⟨.refl _, _, ?_, by unfold Rel; exact ⟨_, hL, rfl⟩⟩
        simp only [receiverAt, Sem.run_bind, run_underlying hu, Result.andThen_ok]
        cases d <;> first | exact absurd rfl (hd _) | rfl
    | false =>
      simp only [cond_false] at h
      obtain ⟨sm, v', e, r⟩ := get_ok (P := P) h hx hwr
      refine ⟨sm, v', ?_, r⟩
      simp only [receiverAt, Sem.run_bind, run_underlying hu, Result.andThen_ok]
      cases d <;> first | exact absurd rfl (hd _) | exact e
  · exact (fail_some h).elim
theorem method_ok {t : TypeId} {x : AVal} {name : String} {p : FuncId × AVal} {x' : Value} (h : methodA P t x name H = some (p, H')) (hx : Rel σ ρ x x') (hwr : WR σ ρ base H w) (n : Nat) :
    Same H H' ∧ ∃ r', (method (n + 1) t x' name).run P w = .ok (p.1, r') w ∧ Rel σ ρ p.2 r' := by
  unfold methodA at h
  generalize hi : P.info? t = ii at h
  split at h
  · rename_i i
    generalize hm : i.methods.find? (·.name == name) = mm at h
    split at h
    · rename_i m
      generalize hf : m.func = ff at h
      split at h
      · rename_i f pr
        obtain ⟨q, K, h1, h2⟩ := bd_some h
        obtain ⟨r, K2, h3, h4⟩ := bd_some h2
        cases ret_some h4
        obtain ⟨sm, y', r1, e1⟩ := follow_ok (P := P) m.path.toList h1 (.val hx) hwr
        obtain ⟨sm2, v', e2, r2⟩ := receiver_ok (P := P) (wr_ := if m.path.isEmpty then some ((name.splitOn ".").getLastD name) else none) h3 r1 (hwr.log sm.blks sm.lo)
        refine ⟨sm.trans sm2, v', ?_, r2⟩
        simp only [method, Sem.run_bind, info_run hi, Result.andThen_ok, hm, e1, hf, e2, Sem.run_pure]
      · exact (fail_some h).elim
    · exact (fail_some h).elim
  · exact (fail_some h).elim
/-! ### maps with keys that are numbers, texts or Booleans -/
theorem getObj_map {b clock : Nat} {es : Array MapEntry} (hb : w.heap[b]? = some (.map es clock)) : (getObj b).run P w = .ok (.map es clock) w := by simp [getObj, Sem.run, hb]
theorem EsRel.cons {e : AEnt} {es : List AEnt} {l : List MapEntry} (h : EsRel σ ρ (e :: es) l) : ∃ e' es', l = e' :: es' ∧ ERel σ ρ e e' ∧ EsRel σ ρ es es' := by
  cases l with
  | nil => have := h.len; simp at this
  | cons e' es' => exact ⟨e', es', rfl, h.at_ 0 _ _ rfl rfl, by have := h.len; simpa using this, fun i a b ha hb => h.at_ (i + 1) a b ha hb⟩
theorem EsRel.nil {l : List MapEntry} (h : EsRel σ ρ [] l) : l = [] := List.eq_nil_of_length_eq_zero h.len
theorem bytes_eq {x y : ByteArray} (h : (x == y) = true) : x = y := by
  cases x with
  | mk a =>
    cases y with
    | mk b =>
      have : (a == b) = true := h
      rw [eq_of_beq this]
theorem bytes_refl (x : ByteArray) : (x == x) = true := by
  cases x with
  | mk a => show (a == a) = true; exact beq_self_eq_true a
theorem keyEq_rel {kd : TypeDesc} {a b : AVal} {a' b' : Value} {r : Bool} (h : keyEq kd a b = some r) (ha : Rel σ ρ a a') (hb : Rel σ ρ b b') : Instr.sameNow kd a' b' = some r ∧ (r = true → a' = b' ∧ ∀ n, Instr.sameBits n b' a' = true) := by
  unfold keyEq at h
  split at h
  · split at h
    · obtain ⟨hk, h⟩ := condO_some h
      have hk := kind_eq hk
      cases h
      unfold Rel at ha hb
      subst ha; subst hb; subst hk
      refine ⟨by simp [Instr.sameNow, eqI_eq], fun e => ?_⟩
      rw [eqI_eq] at e
      have := eq_of_beq e
      subst this
      exact ⟨rfl, fun n => by cases n <;> simp [Instr.sameBits]⟩
    · cases h
  · split at h
    · cases h
      unfold Rel at ha hb
      subst ha; subst hb
      refine ⟨rfl, fun e => ?_⟩
      have := bytes_eq e
      subst this
      exact ⟨rfl, fun n => by cases n <;> simp [Instr.sameBits, bytes_refl]⟩
    · cases h
  · split at h
    · cases h
      unfold Rel at ha hb
      subst ha; subst hb
      refine ⟨rfl, fun e => ?_⟩
      have := eq_of_beq e
      subst this
      exact ⟨rfl, fun n => by cases n <;> simp [Instr.sameBits]⟩
    · cases h
  · cases h
theorem findE_rel {kd : TypeDesc} {k : AVal} {k' : Value} (hk : Rel σ ρ k k') : ∀ (es : List AEnt) (es' : List MapEntry) (i : Nat) (r : Option (Nat × AVal)), findE kd k es i = some r → EsRel σ ρ es es' →
    (r = none ∧ Instr.findNow kd k' es' i = some none) ∨ ∃ j v v' e', r = some (i + j, v) ∧ Instr.findNow kd k' es' i = some (some (i + j, v')) ∧ Rel σ ρ v v' ∧ es'[j]? = some e' ∧ ∀ n, Instr.sameBits n e'.key k' = true := by
  intro es
  induction es with
  | nil =>
    intro es' i r h hr
    cases h
    rw [hr.nil]
    exact .inl ⟨rfl, rfl⟩
  | cons e es ih =>
    intro es' i r h hr
    obtain ⟨e', es2, rfl, he, hr⟩ := hr.cons
    simp only [findE] at h
    split at h
    · rename_i q
      cases h
      obtain ⟨q1, q2⟩ := keyEq_rel q hk he.key
      exact .inr ⟨0, e.val, e'.val, e', rfl, by simp [Instr.findNow, q1], he.val, rfl, (q2 rfl).2⟩
    · rename_i q
      obtain ⟨q1, _⟩ := keyEq_rel q hk he.key
      rcases ih es2 (i + 1) r h hr with ⟨h1, h2⟩ | ⟨j, v, v', e2, h1, h2, h3, h4, h5⟩
      · exact .inl ⟨h1, by simp [Instr.findNow, q1, h2]⟩
      · have : i + 1 + j = i + (j + 1) := by omega
        rw [this] at h1 h2
        exact .inr ⟨j + 1, v, v', e2, h1, by simp [Instr.findNow, q1, h2], h3, h4, h5⟩
    · cases h
theorem checkKey_run {kt : TypeId} {kd : TypeDesc} (hu : P.underlying kt = some kd) (h : ∃ k, simpleKey kd k = true) (b : Bool) (n : Nat) (v : Value) (w : World) : (Instr.checkKey b (n + 1) kt v).run P w = .ok () w := by
  obtain ⟨k, h⟩ := h
  unfold Instr.checkKey
  simp only [Sem.run_bind, run_underlying hu, Result.andThen_ok]
  cases kd <;> first | (simp [simpleKey] at h; done) | rfl
theorem makeMap_ok {v : AVal} (h : makeMapA H = some (v, H')) (hwr : WR σ ρ base H w) (hf : Free ρ H.next H'.next) (t : TypeId) (o : Option Value) (ho : ∀ x, o = some x → ∃ k n a b, x = .int k n ∧ P.underlying t = some (.map a b)) :
    Okay σ ρ base H H' w (fun ρ' v' => Rel σ ρ' v v') ((Instr.makeMap t o).run P w) := by
  obtain ⟨id, K, h1, h2⟩ := bd_some h
  cases ret_some h2
  obtain ⟨rfl, hlo, hk, hkl, hkn⟩ := nw_some h1
  have hn : ρ H.next = none := hf H.next (Nat.le_refl _) (by omega)
  obtain ⟨ρ', x1, x2, x3, x4⟩ := hwr.new (L := ⟨w.heap.size, 0, 0⟩) (b := .map [] 0) hn (fun j bj Lj hj hLj => Nat.ne_of_lt (live_lt hwr hj hLj)) hwr.base (push_upd w (.map #[] 0)) (fun ρ' hle _ => ⟨#[], rfl, rfl, fun i e e' he _ => by simp at he⟩) hk hkl hkn
  refine ⟨.map (some w.heap.size), w.alloc (.map #[] 0), ρ', ?_, x1, x3, x4, by unfold Rel; exact ⟨_, x2, rfl⟩⟩
  cases o with
  | none => simp [Instr.makeMap]
  | some x =>
    obtain ⟨k, n, a, b, rfl, hu⟩ := ho x rfl
    simp [Instr.makeMap, run_underlying hu, asInt, asIntOf]
def lookRes (ok : Bool) (z : Value) : Option (Nat × Value) → Value
  | some (_, v) => if ok then .tuple #[v, .bool true] else v
  | none => if ok then .tuple #[z, .bool false] else z
theorem lookup_some {t kt et : TypeId} {kd : TypeDesc} {k' z : Value} {ok : Bool} {b clock : Nat} {es : Array MapEntry} {r : Option (Nat × Value)} (hu : P.underlying t = some (.map kt et)) (hku : P.underlying kt = some kd) (hs : ∃ k, simpleKey kd k = true)
    (hz : ∀ w, (zeroValue et).run P w = .ok z w) (hb : w.heap[b]? = some (.map es clock)) (hf : Instr.findNow kd k' es.toList 0 = some r) : (Instr.lookup t (.map (some b)) k' ok).run P w = .ok (lookRes ok z r) w := by
  have hc : (Instr.checkKey es.isEmpty 10000 kt k').run P w = .ok () w := checkKey_run hku hs _ 9999 _ _
  unfold Instr.lookup
  simp only [Sem.run_bind, run_underlying hu, Result.andThen_ok, getObj_map hb, Sem.run_pure, hc, Instr.findKey, run_underlying hku, hf]
  cases r with
  | none => simp only [Sem.run_bind, hz, Result.andThen_ok, Sem.run_pure]; rfl
  | some p => obtain ⟨j, v⟩ := p; simp only [Sem.run_bind, Result.andThen_ok, Sem.run_pure]; rfl
theorem lookup_none {t kt et : TypeId} {kd : TypeDesc} {k' z : Value} {ok : Bool} (hu : P.underlying t = some (.map kt et)) (hku : P.underlying kt = some kd) (hs : ∃ k, simpleKey kd k = true)
    (hz : ∀ w, (zeroValue et).run P w = .ok z w) : (Instr.lookup t (.map none) k' ok).run P w = .ok (lookRes ok z none) w := by
  have hc : (Instr.checkKey (#[] : Array MapEntry).isEmpty 10000 kt k').run P w = .ok () w := checkKey_run hku hs _ 9999 _ _
  unfold Instr.lookup
  simp only [Sem.run_bind, run_underlying hu, Result.andThen_ok, Sem.run_pure, hc, Instr.findKey, run_underlying hku, Instr.findNow, hz]
  rfl
theorem lookRes_rel {ok : Bool} {z v : AVal} {z' v' : Value} (hz : Rel σ ρ z z') (hv : Rel σ ρ v v') (j : Nat) : Rel σ ρ (cond ok (.tup [v, .bool true]) v) (lookRes ok z' (some (j, v'))) ∧ Rel σ ρ (cond ok (.tup [z, .bool false]) z) (lookRes ok z' none) := by
  have two : ∀ {x : AVal} {x' : Value} (b : Bool), Rel σ ρ x x' → Rel σ ρ (.tup [x, .bool b]) (.tuple #[x', .bool b]) := fun b h => by
    unfold Rel
    exact ⟨_, rfl, .cons h (.cons (by unfold Rel; rfl) .nil)⟩
  cases ok with
  | true => exact ⟨two true hv, two false hz⟩
  | false => exact ⟨hv, hz⟩
theorem lookup_ok {t : TypeId} {x k v : AVal} {x' k' : Value} {ok : Bool} (h : lookupA P t x k ok H = some (v, H')) (hx : Rel σ ρ x x') (hk : Rel σ ρ k k') (hwr : WR σ ρ base H w) :
    Okay σ ρ base H H' w (fun ρ' v' => Rel σ ρ' v v') ((Instr.lookup t x' k' ok).run P w) := by
  unfold lookupA at h
  generalize hu : P.underlying t = d at h
  split at h
  · rename_i kt et
    generalize hku : P.underlying kt = kd at h
    generalize hz : zeroA P et = z at h
    split at h
    · rename_i kd z
      obtain ⟨hs, h⟩ := cond_some h
      obtain ⟨r, K, h1, h2⟩ := bd_some h
      clear h
      obtain ⟨z', hz1, hz2⟩ := zero_run (P := P) hz
      have hzr := hz2 σ ρ
      split at h1
      · cases ret_some h1
        cases ret_some h2
        unfold Rel at hx; subst hx
        exact .same (lookup_none hu hku ⟨_, hs⟩ hz1) hwr rfl rfl (lookRes_rel hzr hzr 0).2
      · obtain ⟨blk, K1, g1, g2⟩ := bd_some h1
        obtain ⟨hb, e1, e2, e3⟩ := rd_some g1
        split at g2
        · obtain ⟨r', hr, e⟩ := lift_some g2
          cases e
          unfold Rel at hx
          obtain ⟨L, hL, rfl⟩ := hx
          obtain ⟨L', hL', es', q1, q2⟩ := hwr.blk _ _ hb
          rw [hL] at hL'; cases hL'
          rcases findE_rel (kd := kd) hk _ es'.toList 0 r hr q2 with ⟨rfl, a2⟩ | ⟨j, v1, v', e', rfl, a2, a3, _⟩
          · cases ret_some h2
            exact .same (lookup_some hu hku ⟨_, hs⟩ hz1 q1 a2) hwr e1 e2 (lookRes_rel hzr hzr 0).2
          · cases ret_some h2
            exact .same (lookup_some hu hku ⟨_, hs⟩ hz1 q1 a2) hwr e1 e2 (lookRes_rel hzr a3 _).1
        · exact (fail_some g2).elim
      · exact (fail_some h1).elim
    · exact (fail_some h).elim
  · exact (fail_some h).elim
theorem setObj_map {b clock : Nat} {es : Array MapEntry} (o : Obj) (hb : w.heap[b]? = some (.map es clock)) : ∃ w', (setObj b o).run P w = .ok () w' ∧ Upd w b o w' := by
  have hlt := lt_of_get hb
  refine ⟨{ w with heap := w.heap.setIfInBounds b o }, by simp [setObj, Sem.run, hb], rfl, rfl, rfl, by simp, by simp [hlt], fun k hk => ?_⟩
  show (w.heap.setIfInBounds b o)[k]? = w.heap[k]?
  rw [Array.getElem?_setIfInBounds_ne (fun e => hk e.symm)]
theorem modE_get (f : AEnt → AEnt) : ∀ (es : List AEnt) (i j : Nat), (modE es i f)[j]? = if i = j then (es[j]?).map f else es[j]?
  | [], i, j => by simp [modE]
  | e :: es, 0, j => by cases j <;> simp [modE]
  | e :: es, i + 1, j => by
    cases j with
    | zero => simp [modE]
    | succ j => simp only [modE, List.getElem?_cons_succ, modE_get f es i j, Nat.add_right_cancel_iff]
theorem modE_length (f : AEnt → AEnt) : ∀ (es : List AEnt) (i : Nat), (modE es i f).length = es.length
  | [], _ => rfl
  | e :: es, 0 => rfl
  | e :: es, i + 1 => by simp [modE, modE_length f es i]
theorem EsRel.modify {es : List AEnt} {es' : Array MapEntry} {k v : AVal} {k' v' : Value} (h : EsRel σ ρ es es'.toList) (hk : Rel σ ρ k k') (hv : Rel σ ρ v v') (i : Nat) : EsRel σ ρ (modE es i fun e => { e with key := k, val := v }) (es'.modify i fun e => { e with key := k', val := v' }).toList := by
  refine ⟨by have := h.len; simp [modE_length] at this ⊢; exact this, fun j e e' he he' => ?_⟩
  rw [modE_get] at he
  rw [Array.getElem?_toList, Array.getElem?_modify] at he'
  have at_ := h.at_ j
  simp only [Array.getElem?_toList] at at_
  split at he
  · rename_i hij
    rw [if_pos hij] at he'
    rw [Option.map_eq_some_iff] at he
    obtain ⟨a, ha, rfl⟩ := he
    cases hb : es'[j]? with
    | none => rw [hb] at he'; cases he'
    | some b =>
      rw [hb] at he'; cases he'
      exact ⟨hk, hv, (at_ a b ha hb).born⟩
  · rename_i hij
    rw [if_neg hij] at he'
    exact at_ e e' he he'
theorem EsRel.push {es : List AEnt} {es' : Array MapEntry} {k v : AVal} {k' v' : Value} (h : EsRel σ ρ es es'.toList) (hk : Rel σ ρ k k') (hv : Rel σ ρ v v') (c : Nat) : EsRel σ ρ (es ++ [{ key := k, val := v, born := c }]) (es'.push { key := k', val := v', born := c }).toList := by
  have hl := h.len
  refine ⟨by simp at hl ⊢; exact hl, fun j e e' he he' => ?_⟩
  rw [Array.toList_push, List.getElem?_append] at he'
  rw [List.getElem?_append] at he
  rw [hl] at he'
  split at he
  · rename_i hlt
    rw [if_pos hlt] at he'
    exact h.at_ j e e' he he'
  · rename_i hlt
    rw [if_neg hlt] at he'
    cases q : j - es.length with
    | zero => rw [q] at he he'; cases he; cases he'; exact ⟨hk, hv, rfl⟩
    | succ n => rw [q] at he; cases he
theorem mapUpdate_ok {t : TypeId} {m k v : AVal} {m' k' v' : Value} {u : Unit} (h : mapUpdateA P t m k v H = some (u, H')) (hm : Rel σ ρ m m') (hk : Rel σ ρ k k') (hv : Rel σ ρ v v') (hwr : WR σ ρ base H w) :
    H'.next = H.next ∧ H'.lo = H.lo ∧ ∃ w', (Instr.mapUpdate t m' k' v').run P w = .ok () w' ∧ WR σ ρ base H' w' ∧ Below base w w' := by
  unfold mapUpdateA at h
  generalize hu : P.underlying t = d at h
  split at h
  · rename_i kt et b
    generalize hku : P.underlying kt = kd at h
    split at h
    · rename_i kd
      obtain ⟨hs, h⟩ := cond_some h
      obtain ⟨blk, K1, g1, g2⟩ := bd_some h
      clear h
      obtain ⟨hb, e1, e2, e3⟩ := rd_some g1
      split at g2
      · rename_i es clock
        obtain ⟨r, K2, g3, g4⟩ := bd_some g2
        obtain ⟨r', hr, e⟩ := lift_some g3
        cases e
        unfold Rel at hm
        obtain ⟨L, hL, rfl⟩ := hm
        obtain ⟨L', hL', es', q1, q2⟩ := hwr.blk _ _ hb
        rw [hL] at hL'; cases hL'
        have hc : (Instr.checkKey false 10000 kt k').run P w = .ok () w := checkKey_run hku ⟨_, hs⟩ _ 9999 _ _
        rcases findE_rel (kd := kd) hk _ es'.toList 0 r hr q2 with ⟨rfl, a2⟩ | ⟨j, v1, v2, e', rfl, a2, a3, a4, a5⟩
        · simp only [frcN_eq] at g4
          obtain ⟨w1, _, w3, w4, w5⟩ := wr_some g4
          obtain ⟨w', s1, s2⟩ := setObj_map (P := P) (.map (es'.push { key := k', val := v', born := clock }) (clock + 1)) q1
          obtain ⟨p1, p2⟩ := hwr.put (K := H') (b := .map (es ++ [{ key := k, val := v, born := clock }]) (clock + 1)) hb hL (by rw [← e2]; exact w1) s2 ⟨_, rfl, q2.push hk hv clock⟩ (fun j => by rw [w3 j, e1]) (by rw [w4, e2])
          refine ⟨by rw [w5, e3], by rw [w4, e2], w', ?_, p1, p2⟩
          simp only [Instr.mapUpdate, Sem.run_bind, run_underlying hu, Result.andThen_ok, getObj_map q1, hc, Instr.findKey, run_underlying hku, a2, Sem.run_pure, s1]
        · simp only at g4
          rw [Nat.zero_add] at g4 a2
          obtain ⟨w1, _, w3, w4, w5⟩ := wr_some g4
          obtain ⟨w', s1, s2⟩ := setObj_map (P := P) (.map (es'.modify j fun e => { e with key := k', val := v' }) clock) q1
          obtain ⟨p1, p2⟩ := hwr.put (K := H') (b := .map (modE es j fun e => { e with key := k, val := v }) clock) hb hL (by rw [← e2]; exact w1) s2 ⟨_, rfl, q2.modify hk hv j⟩ (fun j => by rw [w3 j, e1]) (by rw [w4, e2])
          refine ⟨by rw [w5, e3], by rw [w4, e2], w', ?_, p1, p2⟩
          have hst : (Instr.keyThatStays (((es'[j]?).map (·.key)).getD k') k').run P w = .ok k' w := by
            rw [Array.getElem?_toList] at a4
            simp [Instr.keyThatStays, a4, a5]
          simp only [Instr.mapUpdate, Sem.run_bind, run_underlying hu, Result.andThen_ok, getObj_map q1, hc, Instr.findKey, run_underlying hku, a2, Sem.run_pure, hst, s1]
      · exact (fail_some g2).elim
    · exact (fail_some h).elim
  · exact (fail_some h).elim
theorem copy_ok {dT : TypeId} {d s v : AVal} {d' s' : Value} {ty : TypeId} {ts : List TypeId} (h : copyA P dT d s H = some (v, H')) (hd : Rel σ ρ d d') (hx : Rel σ ρ s s') (hσ : One σ) (hwr : WR σ ρ base H w) :
    Okay σ ρ base H H' w (fun ρ' v' => Rel σ ρ' v v') ((Builtin.copy_ (dT :: ts).toArray ty #[d', s']).run P w) := by
  unfold copyA at h
  generalize hu : P.underlying dT = u at h
  generalize hm : lenOfA s = m at h
  generalize hk : lenOfA d = k at h
  split at h
  · rename_i elem m k
    generalize hs : sz P elem = es at h
    split at h
    · rename_i es
      simp only [frcN_eq] at h
      obtain ⟨cs, K, h1, h2⟩ := bd_some h
      clear h
      obtain ⟨e1, e2, e3, vs, a1, a2, a3, a4, a5⟩ := firstA_ok (P := P) h1 hx hm (Nat.min_le_left _ _) hwr
      have hlo := lenOf_run (P := P) hm hx w
      have hf := a5 w rfl
      have hmin : Nat.min m k = min m k := rfl
      split at h2
      · rename_i b o l cap es'
        obtain ⟨hes, h3⟩ := cond_some h2
        have hes := Nat.eq_of_beq_eq_true hes
        subst hes
        unfold Rel at hd
        obtain ⟨L, a, c, hL, rfl, hoff, hlc, hcap⟩ := hd
        have hkl : l = k := Option.some.inj hk
        subst hkl
        generalize hn : min m l = n at *
        split at h3
        · cases ret_some h3
          have hvs : vs = [] := List.eq_nil_of_length_eq_zero (by rw [a1, Nat.zero_mul])
          subst hvs
          refine .same (b := goInt 0) ?_ hwr e1 e2 (by unfold Rel; rfl)
          simp [Builtin.copy_, run_underlying hu, hlo, sz_run hs, hmin, hn, hf, storeCells_nil]
        · rename_i n
          obtain ⟨u, K2, h4, h5⟩ := bd_some h3
          cases ret_some h5
          have ha : a = ⟨L.blk, L.sh + o, none⟩ := by
            rcases hoff with ⟨h, _⟩ | ⟨h, _⟩
            · exact h
            · subst h; simp at hn
          subst ha
          obtain ⟨n1, l1, w', s1, s2, s3⟩ := storeCellsA_ok (P := P) h4 hσ (hwr.log e1 e2) hL a2
          refine ⟨goInt (n + 1), w', ρ, ?_, .refl _ _ _, s2, s3, by unfold Rel; rfl⟩
          simp [Builtin.copy_, run_underlying hu, hlo, sz_run hs, hmin, hn, hf, s1]
      · rename_i hno
        cases ret_some h2
        have hd0 : d = .nilslc ∧ k = 0 := by
          unfold lenOfA at hk
          split at hk
          · exact absurd rfl (hno _ _ _ _ _)
          · cases hk; exact ⟨rfl, rfl⟩
          · cases hk
        obtain ⟨rfl, rfl⟩ := hd0
        unfold Rel at hd; subst hd
        simp only [Nat.min_zero] at hf
        refine .same (b := goInt 0) ?_ hwr e1 e2 (by unfold Rel; simp [goInt])
        have hmin0 : Nat.min m 0 = 0 := Nat.min_zero m
        simp [Builtin.copy_, run_underlying hu, hlo, sz_run hs, hmin0, hf]
    · exact (fail_some h).elim
  · exact (fail_some h).elim
theorem EsRel.erase {es : List AEnt} {es' : Array MapEntry} (h : EsRel σ ρ es es'.toList) (i : Nat) : EsRel σ ρ (es.eraseIdx i) (es'.eraseIdxIfInBounds i).toList := by
  have e : (es'.eraseIdxIfInBounds i).toList = es'.toList.eraseIdx i := by simp [Array.eraseIdxIfInBounds]; split <;> simp_all [List.eraseIdx_of_length_le]
  rw [e]
  have hl := h.len
  refine ⟨by rw [List.length_eraseIdx, List.length_eraseIdx, hl], fun j a b ha hb => ?_⟩
  rw [List.getElem?_eraseIdx] at ha hb
  split at ha
  · rename_i hlt; rw [if_pos hlt] at hb; exact h.at_ _ _ _ ha hb
  · rename_i hlt; rw [if_neg hlt] at hb; exact h.at_ _ _ _ ha hb
theorem delete_ok {t : TypeId} {m k v : AVal} {m' k' : Value} {ty : TypeId} {ts : List TypeId} (h : deleteA P t m k H = some (v, H')) (hm : Rel σ ρ m m') (hk : Rel σ ρ k k') (hwr : WR σ ρ base H w) :
    Okay σ ρ base H H' w (fun ρ' v' => Rel σ ρ' v v') ((Builtin.delete_ (t :: ts).toArray ty #[m', k']).run P w) := by
  unfold deleteA at h
  generalize hu : P.underlying t = d at h
  split at h
  · rename_i kt et
    generalize hku : P.underlying kt = kd at h
    split at h
    · rename_i kd
      obtain ⟨hs, h⟩ := cond_some h
      have hc : ∀ b, (Instr.checkKey b 10000 kt k').run P w = .ok () w := fun b => checkKey_run hku ⟨_, hs⟩ _ 9999 _ _
      split at h
      · cases ret_some h
        unfold Rel at hm; subst hm
        exact .same (b := .tuple #[]) (by simp [Builtin.delete_, run_underlying hu, hc]) hwr rfl rfl rel_undefL
      · rename_i b
        obtain ⟨blk, K1, g1, g2⟩ := bd_some h
        obtain ⟨hb, e1, e2, e3⟩ := rd_some g1
        split at g2
        · rename_i es clock
          obtain ⟨r, K2, g3, g4⟩ := bd_some g2
          obtain ⟨r', hr, e⟩ := lift_some g3
          cases e
          unfold Rel at hm
          obtain ⟨L, hL, rfl⟩ := hm
          obtain ⟨L', hL', es', q1, q2⟩ := hwr.blk _ _ hb
          rw [hL] at hL'; cases hL'
          rcases findE_rel (kd := kd) hk _ es'.toList 0 r hr q2 with ⟨rfl, a2⟩ | ⟨j, v1, v2, e', rfl, a2, a3, a4, a5⟩
          · simp only at g4
            obtain ⟨u, K3, g5, g6⟩ := bd_some g4
            cases ret_some g6
            obtain ⟨w1, _, w3, w4, w5⟩ := wr_some g5
            obtain ⟨w', s1, s2⟩ := setObj_map (P := P) (.map es' clock) q1
            obtain ⟨p1, p2⟩ := hwr.put (K := H') (b := .map es clock) hb hL (by rw [← e2]; exact w1) s2 ⟨_, rfl, q2⟩ (fun j => by rw [w3 j, e1]) (by rw [w4, e2])
            refine ⟨.tuple #[], w', ρ, ?_, .refl _ _ _, p1, p2, rel_undefL⟩
            simp [Builtin.delete_, run_underlying hu, hc, getObj_map q1, Instr.findKey, run_underlying hku, a2, s1]
          · simp only at g4
            rw [Nat.zero_add] at g4 a2
            obtain ⟨u, K3, g5, g6⟩ := bd_some g4
            cases ret_some g6
            obtain ⟨w1, _, w3, w4, w5⟩ := wr_some g5
            obtain ⟨w', s1, s2⟩ := setObj_map (P := P) (.map (es'.eraseIdxIfInBounds j) clock) q1
            obtain ⟨p1, p2⟩ := hwr.put (K := H') (b := .map (es.eraseIdx j) clock) hb hL (by rw [← e2]; exact w1) s2 ⟨_, rfl, q2.erase j⟩ (fun j => by rw [w3 j, e1]) (by rw [w4, e2])
            refine ⟨.tuple #[], w', ρ, ?_, .refl _ _ _, p1, p2, rel_undefL⟩
            simp [Builtin.delete_, run_underlying hu, hc, getObj_map q1, Instr.findKey, run_underlying hku, a2, s1]
        · exact (fail_some g2).elim
      · exact (fail_some h).elim
    · exact (fail_some h).elim
  · exact (fail_some h).elim
end
end Go.AM
