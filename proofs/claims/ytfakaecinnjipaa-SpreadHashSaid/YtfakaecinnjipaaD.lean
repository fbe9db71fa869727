/- Part D of a calculus over a small memory that is proved to answer as the program does, and of its use for the functions that the law reaches: see the last part. -/
import Derived.Test.YtfakaecinnjipaaV
import Derived.Test.YtfakaecinnjipaaU2
namespace Go.AM
open Go Go.Proofs
variable {K : AVal → Heap → Prop} {s : Heap}
/-! ### the hash of a list of bytes -/
theorem allOne_ints {k : IntKind} : ∀ l : List Int, allOne (l.map (AVal.int k)) = true
  | [] => rfl
  | _ :: l => by rw [List.map_cons, allOne_cons, allOne_ints l]; rfl
def xorU (x y : Int) : Int := wrapK .u64 ((BitVec.ofInt (IntKind.bits .u64) x ^^^ BitVec.ofInt (IntKind.bits .u64) y).toNat : Nat)
theorem arith_xor64 {x y : Int} : arithV .xor (.int .u64 x) (.int .u64 y) = some (.int .u64 (xorU x y)) := by simp [arithV, arith, frc_eq, xorU]
def fnvStep (h b : Int) : Int := IntKind.u64.wrap (xorU h (wrapK .u64 b) * 1099511628211)
def fnv : Int → List Int → Int
  | h, [] => h
  | h, b :: r => fnv (fnvStep h b) r
theorem fnv_cons (h b : Int) (r : List Int) : fnv h (b :: r) = fnv (fnvStep h b) r := rfl
theorem fnv_app (h : Int) : ∀ (a b : List Int), fnv h (a ++ b) = fnv (fnv h a) b := by
  intro a
  induction a generalizing h with
  | nil => intro b; rfl
  | cons x r ih => intro b; exact ih (fnvStep h x) b
theorem convI_mk {k k' : IntKind} {n : Int} : convI k (.int k' n) = some (.int k (wrapK k n)) := rfl
theorem wu8 (n : Int) : wrapK .u8 n = n % 256 := by
  simp only [wrapK]; rw [wrapM_eq _ _ _ (by omega) (by omega)]; split <;> omega
theorem wu32 (n : Int) : wrapK .u32 n = n % 4294967296 := by
  simp only [wrapK]; rw [wrapM_eq _ _ _ (by omega) (by omega)]; split <;> omega
theorem wu64 (n : Int) : wrapK .u64 n = n % 18446744073709551616 := by
  simp only [wrapK]; rw [wrapM_eq _ _ _ (by omega) (by omega)]; split <;> omega
/-- the lowest bytes of a number, the most significant one first -/
def numB (v : Int) : Nat → List Int
  | 0 => []
  | n + 1 => wrapK .u8 (v.fdiv ((2 ^ (8 * n) : Nat) : Int)) :: numB v n
theorem shr_mk {v : Int} {m : Nat} (hm : m ≤ 64) : shiftV .shr (.int .u64 v) (.int .i64 (m : Int)) = some (.int .u64 (v.fdiv ((2 ^ m : Nat) : Int))) := by
  show frc (v.fdiv ((2 ^ (min m (IntKind.bits .u64)) : Nat) : Int)) (fun n => some (AVal.int .u64 n)) = _
  rw [frc_eq, Nat.min_eq_left (show m ≤ IntKind.bits .u64 from hm)]
theorem shr_lit {v : Int} (m : Nat) (hm : m ≤ 64) : shiftV .shr (.int .u64 v) (.int .u64 (m : Int)) = some (.int .u64 (v.fdiv ((2 ^ m : Nat) : Int))) := by
  show frc (v.fdiv ((2 ^ (min m (IntKind.bits .u64)) : Nat) : Int)) (fun n => some (AVal.int .u64 n)) = _
  rw [frc_eq, Nat.min_eq_left (show m ≤ IntKind.bits .u64 from hm)]
/-! ### a loop over an iterator that folds -/
structure Fold (l c r d : Nat) (h : Int) (s : Heap) : Prop where
  lp : s l = some (false, .loop .ready none 17 [(5, .ptr c 0), (7, .ptr r 0)] [11] (rfAs 0 (bodyOf Try.f43)) (rfBo 0 (bodyOf Try.f43)) d)
  cb : ∃ t, s c = some (t, .cells 81 [.fn (.func 45) [] []])
  rs : s r = some (false, .cells 28 [.int .u64 h])
theorem round_in {l c r d : Nat} {h b : Int} (z : Fold l c r d h s) (hK : ∀ s', Fold l c r d (fnvStep h b) s' → KeepBut (fun i => i = l ∨ i = r) s s' → K (.bool true) s') : wpRound Try.prog XX l [.int .u8 b] K s := by
  obtain ⟨h1, ⟨t, h2⟩, h3⟩ := z
  have hlc : l ≠ c := by rintro rfl; rw [h1] at h2; cases h2
  have hlr : l ≠ r := by rintro rfl; rw [h1] at h3; cases h3
  have hcr : c ≠ r := by rintro rfl; rw [h2] at h3; cases h3
  refine vc_spread_fold_byte_uint64__r0_in h1 ⟨rfl, ?_⟩
  unfold beginK
  rw [h1]
  simp only
  have u1 : Upto l s (hset s l (false, .loop .busy none 17 [(5, .ptr c 0), (7, .ptr r 0)] [11] (rfAs 0 (bodyOf Try.f43)) (rfBo 0 (bodyOf Try.f43)) d)) := fun _ hi => hset_other hi
  have b1 : (hset s l (false, .loop .busy none 17 [(5, .ptr c 0), (7, .ptr r 0)] [11] (rfAs 0 (bodyOf Try.f43)) (rfBo 0 (bodyOf Try.f43)) d)) l = some (false, .loop .busy none 17 [(5, .ptr c 0), (7, .ptr r 0)] [11] (rfAs 0 (bodyOf Try.f43)) (rfBo 0 (bodyOf Try.f43)) d) := hset_eq
  generalize hset s l (false, .loop .busy none 17 [(5, .ptr c 0), (7, .ptr r 0)] [11] (rfAs 0 (bodyOf Try.f43)) (rfBo 0 (bodyOf Try.f43)) d) = s1 at u1 b1
  have c1 : s1 c = _ := (u1 c hlc.symm).trans h2
  have r1 : s1 r = _ := (u1 r hlr.symm).trans h3
  simp only [rd1_mk c1, rd1_mk r1, List.getElem?_cons_zero, optK_mk]
  refine fn_in (by kernel_rfl) (vc_spread_Hash_1_in ?_)
  simp only [vc_spread_Hash_1, convI_mk, arith_xor64, arith_mul, optK_mk]
  refine wr1_step r1 (by simp) rfl fun s2 r2 u2 => ?_
  have b2 : s2 l = _ := (u2 l hlr).trans b1
  unfold endK
  rw [b2]
  simp only
  have u3 : Upto l s2 (hset s2 l (false, .loop .ready none 17 [(5, .ptr c 0), (7, .ptr r 0)] [11] (rfAs 0 (bodyOf Try.f43)) (rfBo 0 (bodyOf Try.f43)) d)) := fun _ hi => hset_other hi
  refine hK _ ⟨hset_eq, ⟨t, ?_⟩, ?_⟩ ((u1.keep (.inl rfl)).trans ((u2.keep (.inr rfl)).trans (u3.keep (.inl rfl))))
  · rw [u3 c hlc.symm, u2 c hcr]; exact c1
  · rw [u3 r hlr.symm]; exact r2
theorem number_in {l c r d : Nat} {h v : Int} {n : Nat} (hn : n ≤ 4) (z : Fold l c r d h s) (hK : ∀ s', Fold l c r d (fnv h (numB v n)) s' → KeepBut (fun i => i = l ∨ i = r) s s' → K (.bool true) s') : wpCall Try.prog XX 52 [.int .u64 v, .int .i64 (n : Int), .yield l] K s := by
  refine vc_spread_number_in ?_
  simp only [vc_spread_number, arith_sub, optK_mk]
  rw [wrap64 (by omega) (by omega)]
  refine ⟨fun ys s1 m => ∃ (h1 : Int) (j : Nat), ys = [.int .i64 ((j : Int) - 1)] ∧ Fold l c r d h1 s1 ∧ KeepBut (fun i => i = l ∨ i = r) s s1 ∧ j ≤ n ∧ m = j ∧ fnv h (numB v n) = fnv h1 (numB v j), ⟨_, h, n, rfl, z, .refl _ s, by omega, rfl, rfl⟩, ?_⟩
  rintro f s1 m ⟨h1, j, hy, z1, k1, hj, rfl, he⟩
  simp only [List.cons.injEq, and_true] at hy
  rw [hy]
  simp only [vc_spread_number_l0, arith_geq, optK_mk]
  refine boolK_mk (fun hge => ?_) (fun hlt => ?_)
  · have hge : 0 ≤ (m : Int) - 1 := of_decide_eq_true hge
    obtain ⟨i, rfl⟩ : ∃ i, m = i + 1 := ⟨m - 1, by omega⟩
    have e1 : (((i + 1 : Nat) : Int) - 1) = (i : Int) := by omega
    rw [e1]
    have e2 : IntKind.i64.wrap (8 * (i : Int)) = ((8 * i : Nat) : Int) := by rw [wrap64 (by omega) (by omega)]; omega
    simp only [arith_mul, optK_mk, e2, shr_mk (show 8 * i ≤ 64 by omega), convI_mk]
    refine ⟨by unfold loopLen; rw [z1.lp]; rfl, round_in z1 fun s2 z2 k2 => ?_⟩
    simp only [unary_not, Bool.not_true, boolK_false, optK_mk, arith_sub]
    rw [wrap64 (by omega) (by omega)]
    exact ⟨i, by omega, _, i, rfl, z2, k1.trans k2, by omega, rfl, he⟩
  · have hlt : ¬ 0 ≤ (m : Int) - 1 := of_decide_eq_false hlt
    obtain rfl : m = 0 := by omega
    have z1 : Fold l c r d (fnv h (numB v n)) s1 := by rw [he]; exact z1
    exact hK _ z1 k1
def flowB (a b e v : Int) : List Int := numB (wrapK .u64 a) 4 ++ (numB (wrapK .u64 b) 4 ++ (numB (wrapK .u64 e) 2 ++ numB (wrapK .u64 v) 3))
/-- the cells of a packet -/
def Pk (a b e v : Int) (cs : List AVal) : Prop := cs.length = 21 ∧ allOne cs = true ∧ cs[0]? = some (.int .u32 a) ∧ cs[1]? = some (.int .u32 b) ∧ cs[3]? = some (.int .i64 e) ∧ cs[4]? = some (.int .u32 v)
variable {a b e v : Int} {cs : List AVal}
theorem flow1_in {l c r d q : Nat} {t : Bool} {ty : TypeId} {h : Int} (hp : Pk a b e v cs) (z : Fold l c r d h s) (hq : s q = some (t, .cells ty cs)) (hql : q ≠ l ∧ q ≠ r) (hK : ∀ s', Fold l c r d (fnv h (flowB a b e v)) s' → KeepBut (fun i => i = l ∨ i = r) s s' → K (.tup []) s') : wpCall Try.prog XX 51 [.yield l, .ptr q 0] K s := by
  obtain ⟨p1, p2, p3, p4, p5, p6⟩ := hp
  have hno : ¬ (q = l ∨ q = r) := by rintro (e | e); exact hql.1 e; exact hql.2 e
  refine vc_spread_flow_1_in ?_
  simp only [vc_spread_flow_1, addOff_ptr, optK_mk, rd1_mk hq, Nat.zero_add, p3, convI_mk]
  refine number_in (n := 4) (by omega) z fun s1 z1 k1 => ?_
  have q1 := k1 _ _ hq hno
  simp only [boolK_true, addOff_ptr, optK_mk, rd1_mk q1, Nat.zero_add, p4, convI_mk]
  refine number_in (n := 4) (by omega) z1 fun s2 z2 k2 => ?_
  have q2 := k2 _ _ q1 hno
  simp only [vc_spread_flow_1_j0, pickV_true, boolK_true, addOff_ptr, optK_mk, rd1_mk q2, Nat.zero_add, p5, convI_mk]
  refine number_in (n := 2) (by omega) z2 fun s3 z3 k3 => ?_
  have q3 := k3 _ _ q2 hno
  simp only [vc_spread_flow_1_j1, pickV_true, boolK_true, addOff_ptr, optK_mk, rd1_mk q3, Nat.zero_add, p6, convI_mk]
  refine number_in (n := 3) (by omega) z3 fun s4 z4 k4 => ?_
  simp only [vc_spread_flow_1_j2, pickV_true, optK_mk]
  have z4 : Fold l c r d (fnv h (flowB a b e v)) s4 := by
    unfold flowB
    rw [fnv_app, fnv_app, fnv_app]
    exact z4
  exact hK _ z4 ((k1.trans k2).trans (k3.trans k4))
theorem Sub.upto {s s' s'' : Heap} {b : Nat} (h : Sub s s') (u : Upto b s' s'') (hb : s b = none) : Sub s s'' := fun i e hi => by rw [u i (ne_of_some hb hi)]; exact h i e hi
theorem Hash_in (hp : Pk a b e v cs) (hK : ∀ s', Sub s s' → K (.int .u64 (fnv 14695981039346656037 (flowB a b e v))) s') : wpCall Try.prog XX 30 [.agg cs] K s := by
  obtain ⟨p1, p2, _⟩ := id hp
  refine vc_spread_Hash_in ⟨p2, new_step fun x s1 hx h1 u1 => optK_of (rdN_all h1 p1) ?_⟩
  refine vc_spread_flow_in ⟨p2, new_step fun q s2 hq h2 u2 => ?_⟩
  refine vc_spread_fold_byte_uint64__in (box_step rfl fun c s3 hc h3 u3 => new_step fun r s4 hr h4 u4 => wr1_step h4 (by simp) rfl fun s5 h5 u5 => ⟨by kernel_rfl, trivial, fun l d hl => ?_⟩)
  have sub2 : Sub s s2 := (u1.sub hx).trans (u2.sub hq)
  have sub4 : Sub s2 s4 := (u3.sub hc).trans (u4.sub hr)
  have hr2 : s2 r = none := by
    cases w : s2 r with
    | none => rfl
    | some y => rw [u3.sub hc r y w] at hr; cases hr
  have sub5 : Sub s2 s5 := sub4.upto u5 hr2
  have c5 : s5 c = some (false, .cells 81 [.fn (.func 45) [] []]) := by
    rw [u5 c (ne_of_some hr h3)]; exact u4.at h3 hr
  have u6 : Upto l s5 (hset s5 l (false, .loop .ready none 17 [(5, .ptr c 0), (7, .ptr r 0)] [11] (rfAs 0 (bodyOf Try.f43)) (rfBo 0 (bodyOf Try.f43)) d)) := fun _ hi => hset_other hi
  have b6 : (hset s5 l (false, .loop .ready none 17 [(5, .ptr c 0), (7, .ptr r 0)] [11] (rfAs 0 (bodyOf Try.f43)) (rfBo 0 (bodyOf Try.f43)) d)) l = _ := hset_eq
  show wpCall Try.prog XX 51 [.yield l, .ptr q 0] _ (hset s5 l (false, .loop .ready none 17 [(5, .ptr c 0), (7, .ptr r 0)] [11] (rfAs 0 (bodyOf Try.f43)) (rfBo 0 (bodyOf Try.f43)) d))
  generalize hset s5 l (false, .loop .ready none 17 [(5, .ptr c 0), (7, .ptr r 0)] [11] (rfAs 0 (bodyOf Try.f43)) (rfBo 0 (bodyOf Try.f43)) d) = s6 at u6 b6
  have sub6 := u6.sub hl
  have q6 := sub6 _ _ (sub5 _ _ h2)
  refine flow1_in (h := 14695981039346656037) hp ⟨b6, ⟨_, sub6 _ _ c5⟩, sub6 _ _ h5⟩ q6 ⟨?_, ?_⟩ fun s7 z7 k7 => ?_
  · rintro rfl; rw [sub5 _ _ h2] at hl; cases hl
  · rintro rfl; rw [hr2] at h2; cases h2
  · unfold doneK3
    rw [z7.lp]
    refine ⟨by simp, ?_⟩
    have hlr : l ≠ r := by rintro rfl; rw [hl] at h5; cases h5
    have r8 : hdel s7 l r = some (false, .cells 28 [.int .u64 (fnv 14695981039346656037 (flowB a b e v))]) := by
      rw [hdel_ne hlr.symm]; exact z7.rs
    simp only [rd1_mk r8, List.getElem?_cons_zero, optK_mk]
    refine hK _ fun i y hi => ?_
    have hi2 := sub2 i y hi
    have hi5 := sub5 i y hi2
    have hil : i ≠ l := ne_of_some hl hi5
    have hir : i ≠ r := ne_of_some hr2 hi2
    rw [hdel_ne hil]
    exact k7 i y (sub6 i y hi5) (by rintro (q | q); exact hil q; exact hir q)
end Go.AM
namespace Go.AM
open Go Go.Proofs
variable {K : AVal → Heap → Prop} {s : Heap} {a b e v : Int} {cs : List AVal}
theorem fill13 {z0 z1 z2 z3 z4 z5 z6 z7 z8 z9 z10 z11 z12 : Int} : fillR (repl 13 [(.int .u8 0)]) [(0, 1, .int .u8 z0), (1, 1, .int .u8 z1), (2, 1, .int .u8 z2), (3, 1, .int .u8 z3), (4, 1, .int .u8 z4), (5, 1, .int .u8 z5), (6, 1, .int .u8 z6), (7, 1, .int .u8 z7), (8, 1, .int .u8 z8), (9, 1, .int .u8 z9), (10, 1, .int .u8 z10), (11, 1, .int .u8 z11), (12, 1, .int .u8 z12)] = some [.int .u8 z0, .int .u8 z1, .int .u8 z2, .int .u8 z3, .int .u8 z4, .int .u8 z5, .int .u8 z6, .int .u8 z7, .int .u8 z8, .int .u8 z9, .int .u8 z10, .int .u8 z11, .int .u8 z12] := by kernel_rfl
theorem fdiv0 (x : Int) : x.fdiv ((2 ^ (8 * 0) : Nat) : Int) = x := by
  show x.fdiv 1 = x
  rw [Int.fdiv_eq_ediv_of_nonneg _ (by omega)]
  omega
theorem flowB_eq (a b e v : Int) : flowB a b e v = [wrapK .u8 ((wrapK .u64 a).fdiv ((2 ^ (8 * 3) : Nat) : Int)), wrapK .u8 ((wrapK .u64 a).fdiv ((2 ^ (8 * 2) : Nat) : Int)), wrapK .u8 ((wrapK .u64 a).fdiv ((2 ^ (8 * 1) : Nat) : Int)), wrapK .u8 (wrapK .u64 a), wrapK .u8 ((wrapK .u64 b).fdiv ((2 ^ (8 * 3) : Nat) : Int)), wrapK .u8 ((wrapK .u64 b).fdiv ((2 ^ (8 * 2) : Nat) : Int)), wrapK .u8 ((wrapK .u64 b).fdiv ((2 ^ (8 * 1) : Nat) : Int)), wrapK .u8 (wrapK .u64 b), wrapK .u8 ((wrapK .u64 e).fdiv ((2 ^ (8 * 1) : Nat) : Int)), wrapK .u8 (wrapK .u64 e), wrapK .u8 ((wrapK .u64 v).fdiv ((2 ^ (8 * 2) : Nat) : Int)), wrapK .u8 ((wrapK .u64 v).fdiv ((2 ^ (8 * 1) : Nat) : Int)), wrapK .u8 (wrapK .u64 v)] := by
  unfold flowB
  simp only [numB, fdiv0, List.cons_append, List.nil_append]
theorem s24 {x : Int} : shiftV .shr (.int .u64 x) (.int .u64 24) = some (.int .u64 (x.fdiv ((2 ^ (8 * 3) : Nat) : Int))) := shr_lit 24 (by omega)
theorem s16 {x : Int} : shiftV .shr (.int .u64 x) (.int .u64 16) = some (.int .u64 (x.fdiv ((2 ^ (8 * 2) : Nat) : Int))) := shr_lit 16 (by omega)
theorem s8 {x : Int} : shiftV .shr (.int .u64 x) (.int .u64 8) = some (.int .u64 (x.fdiv ((2 ^ (8 * 1) : Nat) : Int))) := shr_lit 8 (by omega)
theorem Bytes_in (hp : Pk a b e v cs) (hK : ∀ w s', Sub s s' → Sl s' w ((flowB a b e v).map (AVal.int .u8)) → K w s') : wpCall Try.prog XX 46 [.agg cs] K s := by
  obtain ⟨p1, p2, p3, p4, p5, p6⟩ := hp
  refine vc_leafmeshref11_Bytes_in ⟨p2, new_step fun q s1 hq h1 u1 => ?_⟩
  have h1 : s1 q = some (false, .cells 66 cs) := h1
  simp only [addOff_ptr, optK_mk, rd1_mk h1, Nat.zero_add, p3, p4, p5, p6, convI_mk, s24, s16, s8, fill13]
  refine ⟨rfl, new_step fun c s2 hc h2 u2 => hK _ _ ((u1.sub hq).trans (u2.sub hc)) ?_⟩
  have h2 : s2 c = some (false, .cells 5 ((flowB a b e v).map (AVal.int .u8))) := by rw [flowB_eq]; exact h2
  exact Sl.mk h2 (by rw [flowB_eq]; rfl) (by rw [flowB_eq]; simp)
theorem rHash_in (hp : Pk a b e v cs) (hK : ∀ s', Sub s s' → K (.int .u64 (fnv 14695981039346656037 (flowB a b e v))) s') : wpCall Try.prog XX 31 [.agg cs] K s := by
  obtain ⟨p1, p2, _⟩ := id hp
  refine vc_leafmeshref11_Hash_in ⟨p2, new_step fun q s1 hq h1 u1 => optK_of (rdN_all h1 p1) (Bytes_in hp fun w s2 sub2 hw => ?_)⟩
  have hlen : (flowB a b e v).length = 13 := by rw [flowB_eq]; rfl
  have hK' := hK _ ((u1.sub hq).trans sub2)
  generalize flowB a b e v = bs at hw hlen hK'
  refine ⟨fun ys s3 n => ∃ (h : Int) (k : Nat), ys = [.int .u64 h, .int .i64 k] ∧ s3 = s2 ∧ k ≤ bs.length ∧ n = bs.length - k ∧ fnv 14695981039346656037 bs = fnv h (bs.drop k), ⟨_, _, 0, rfl, rfl, by omega, rfl, by simp⟩, ?_⟩
  rintro f s3 n ⟨h, k, hy, rfl, hk, rfl, he⟩
  simp only [List.cons.injEq, and_true] at hy
  rw [hy.1, hy.2]
  simp only [vc_leafmeshref11_Hash_l0, hw.len, List.length_map, arith_lss, optK_mk]
  refine boolK_mk (fun hlt => ?_) (fun hge => ?_)
  · have hk2 : k < bs.length := by have := of_decide_eq_true hlt; omega
    rw [List.drop_eq_getElem_cons hk2, fnv_cons] at he
    obtain ⟨p, g1, g2⟩ := hw.get (i := k) (by simpa using hk2)
    simp only [g1, g2, List.getElem?_map, List.getElem?_eq_getElem hk2, Option.map_some, optK_mk, convI_mk, arith_xor64, arith_mul, arith_add]
    rw [wrap64 (by omega) (by omega)]
    exact ⟨_, by omega, fnvStep h bs[k], k + 1, by simp [fnvStep], by trivial, by omega, rfl, he⟩
  · have hge : bs.length ≤ k := by have := of_decide_eq_false hge; omega
    rw [List.drop_eq_nil_of_le (by omega)] at he
    rw [he] at hK'
    exact hK'
/-! ### numbers -/
theorem wi64 {n : Int} (h : 0 ≤ n ∧ n < 9223372036854775808) : wrapK .i64 n = n := by rw [wrapK_eq]; exact wrap64 (by omega) (by omega)
theorem ofInt64 (x : Int) : (BitVec.ofInt 64 x).toNat = (x % 18446744073709551616).toNat := by rw [BitVec.toNat_ofInt]; rfl
theorem ofInt32 (x : Int) : (BitVec.ofInt 32 x).toNat = (x % 4294967296).toNat := by rw [BitVec.toNat_ofInt]; rfl
theorem and64 {x : Int} {k m : Nat} (hm : m = 2 ^ k - 1) (hk : k ≤ 32) : arithV .and (.int .i64 x) (.int .i64 (m : Int)) = some (.int .i64 (x % ((2 ^ k : Nat) : Int))) := by
  have h1 : (2 : Nat) ^ k ≤ 2 ^ 32 := Nat.pow_le_pow_right (by omega) hk
  have h0 : 0 < 2 ^ k := Nat.pow_pos (by omega)
  have hd : ((2 ^ k : Nat) : Int) ∣ 18446744073709551616 := by
    refine ⟨((2 ^ (64 - k) : Nat) : Int), ?_⟩
    rw [← Int.natCast_mul, ← Nat.pow_add, show k + (64 - k) = 64 by omega]; rfl
  have e : arithV .and (.int .i64 x) (.int .i64 (m : Int)) = some (.int .i64 (wrapK .i64 ((BitVec.ofInt 64 x &&& BitVec.ofInt 64 (m : Int)).toNat : Nat))) := by
    simp [arithV, arith, frc_eq]
    rfl
  have em : (BitVec.ofInt 64 (m : Int)).toNat = m := by
    rw [ofInt64, Int.emod_eq_of_lt (by omega) (by omega)]; simp
  have e2 : (BitVec.ofInt 64 x &&& BitVec.ofInt 64 (m : Int)).toNat = (x % 18446744073709551616).toNat % 2 ^ k := by
    rw [BitVec.toNat_and, em, ofInt64, hm, Nat.and_two_pow_sub_one_eq_mod]
  have e3 : (((x % 18446744073709551616).toNat % 2 ^ k : Nat) : Int) = x % ((2 ^ k : Nat) : Int) := by
    rw [Int.natCast_emod, Int.toNat_of_nonneg (by omega), Int.emod_emod_of_dvd _ hd]
  rw [e, e2, e3, wi64 ⟨Int.emod_nonneg _ (by omega), by have := Int.emod_lt_of_pos x (show (0 : Int) < ((2 ^ k : Nat) : Int) by omega); omega⟩]
def maskN (m : Int) : Nat := (m % 4294967296).toNat &&& 4278190080
theorem mask_lt (m : Int) : maskN m < 4294967296 := Nat.lt_of_le_of_lt Nat.and_le_right (by omega)
theorem mask_low (m : Int) : maskN m % 2 ^ 24 = 0 := by
  unfold maskN
  rw [Nat.and_mod_two_pow, show 4278190080 % 2 ^ 24 = 0 from rfl, Nat.and_zero]
theorem and32 {m : Int} : arithV .and (.int .u32 m) (.int .u32 4278190080) = some (.int .u32 (maskN m : Int)) := by
  have e : arithV .and (.int .u32 m) (.int .u32 4278190080) = some (.int .u32 (wrapK .u32 ((BitVec.ofInt 32 m &&& BitVec.ofInt 32 4278190080).toNat : Nat))) := by
    simp [arithV, arith, frc_eq]
    rfl
  have := mask_lt m
  rw [e, BitVec.toNat_and, ofInt32, show (BitVec.ofInt 32 4278190080).toNat = 4278190080 from rfl, wu32]
  show some (AVal.int .u32 ((maskN m : Int) % 4294967296)) = _
  rw [Int.emod_eq_of_lt (by omega) (by omega)]
def flipN (v m : Int) : Nat := (v % 4294967296).toNat ^^^ maskN m
theorem xor32 {v m : Int} : arithV .xor (.int .u32 v) (.int .u32 (maskN m : Int)) = some (.int .u32 (wrapK .u32 (flipN v m : Int))) := by
  have e : arithV .xor (.int .u32 v) (.int .u32 (maskN m : Int)) = some (.int .u32 (wrapK .u32 ((BitVec.ofInt 32 v ^^^ BitVec.ofInt 32 (maskN m : Int)).toNat : Nat))) := by
    simp [arithV, arith, frc_eq]
    rfl
  have := mask_lt m
  rw [e, BitVec.toNat_xor, ofInt32, ofInt32, Int.emod_eq_of_lt (a := (maskN m : Int)) (by omega) (by omega), Int.toNat_natCast]
  rfl
theorem flip_low (v m : Int) : (flipN v m : Int) % 16777216 = v % 16777216 := by
  have : flipN v m % 2 ^ 24 = (v % 4294967296).toNat % 2 ^ 24 := by
    unfold flipN
    rw [Nat.xor_mod_two_pow, mask_low, Nat.xor_zero]
  omega
theorem numB2 (x : Int) : numB x 2 = [x / 256 % 256, x % 256] := by
  simp only [numB, fdiv0, wu8]
  rw [Int.fdiv_eq_ediv_of_nonneg _ (by omega)]
  rfl
theorem numB3 (x : Int) : numB x 3 = [x / 65536 % 256, x / 256 % 256, x % 256] := by
  simp only [numB, fdiv0, wu8]
  rw [Int.fdiv_eq_ediv_of_nonneg _ (by omega), Int.fdiv_eq_ediv_of_nonneg _ (by omega)]
  rfl
theorem flow_same {a b e v e' v' : Int} (he : e' % 65536 = e % 65536) (hv : v' % 16777216 = v % 16777216) : flowB a b e' v' = flowB a b e v := by
  unfold flowB
  rw [numB2, numB2, numB3, numB3]
  simp only [wu64]
  have e1 : e' % 18446744073709551616 / 256 % 256 = e % 18446744073709551616 / 256 % 256 := by omega
  have e2 : e' % 18446744073709551616 % 256 = e % 18446744073709551616 % 256 := by omega
  have v1 : v' % 18446744073709551616 / 65536 % 256 = v % 18446744073709551616 / 65536 % 256 := by omega
  have v2 : v' % 18446744073709551616 / 256 % 256 = v % 18446744073709551616 / 256 % 256 := by omega
  have v3 : v' % 18446744073709551616 % 256 = v % 18446744073709551616 % 256 := by omega
  rw [e1, e2, v1, v2, v3]
/-! ### the law -/
theorem wrAt_step {b o : Nat} {ty : TypeId} {l cs : List AVal} {n : Nat} {K : Heap → Prop} {s : Heap} (h : s b = some (false, .cells ty l)) (hn : cs.length = n) (hl : o + n ≤ l.length) (ho : allOne cs = true) (hk : ∀ s', s' b = some (false, .cells ty (setRange l o cs)) → Upto b s s' → K s') : optK (wrAgg s n (.ptr b o) (.agg cs)) K := by
  have e1 : Nat.beq cs.length n = true := by rw [hn]; exact Nat.beq_refl _
  have e2 : Nat.ble (o + cs.length) l.length = true := Nat.ble_eq_true_of_le (by omega)
  have : wrAgg s n (.ptr b o) (.agg cs) = some (hset s b (false, .cells ty (setRange l o cs))) := by
    simp only [wrAgg, cells_agg, e1, cond_true, wrN, h, e2, ho, Bool.and_self]
  exact optK_of this (hk _ hset_eq fun _ hi => hset_other hi)
theorem cut1 {s t : Heap} {n q : Nat} {x y : Bool × Blk} (hne : q ≠ n) (hs : s q = some x) (ht : t q = some y) : cutH [(hdel s n, s)] t q ≠ none := by
  show (if hdel s n q = none ∧ s q ≠ none then none else t q) ≠ none
  rw [if_neg (by rintro ⟨h, _⟩; rw [hdel_ne hne, hs] at h; cases h), ht]
  simp
theorem SH_in {ttl high mark : Int} {x2 x5 x6 x7 x8 x9 x10 x11 x12 x13 x14 x15 x16 x17 x18 x19 x20 y0 y1 y2 y3 y4 y5 y6 y7 y8 y9 y10 y11 y12 y13 y14 : AVal} (h1 : allOne [.int .u32 a, .int .u32 b, x2, .int .i64 e, .int .u32 v, x5, x6, x7, x8, x9, x10, x11, x12, x13, x14, x15, x16, x17, x18, x19, x20] = true) (h2 : allOne [y0, y1, y2, y3, y4, y5, y6, y7, y8, y9, y10, y11, y12, y13, y14] = true) :
    wpCall Try.prog XX 9 [.agg [.int .u32 a, .int .u32 b, x2, .int .i64 e, .int .u32 v, x5, x6, x7, x8, x9, x10, x11, x12, x13, x14, x15, x16, x17, x18, x19, x20], .int .i64 ttl, .int .i64 high, .int .u32 mark, .agg [y0, y1, y2, y3, y4, y5, y6, y7, y8, y9, y10, y11, y12, y13, y14]] (fun v _ => v = .bool true) s := by
  have pk : Pk a b e v [.int .u32 a, .int .u32 b, x2, .int .i64 e, .int .u32 v, x5, x6, x7, x8, x9, x10, x11, x12, x13, x14, x15, x16, x17, x18, x19, x20] := ⟨rfl, h1, rfl, rfl, rfl, rfl⟩
  refine vc_leafmeshlaw11_SpreadHash_in ⟨h1, new_step fun p s1 hp hp1 u1 => ⟨h2, new_step fun n s2 hn hn2 u2 => ?_⟩⟩
  have hp1 : s1 p = some (false, .cells 66 [.int .u32 a, .int .u32 b, x2, .int .i64 e, .int .u32 v, x5, x6, x7, x8, x9, x10, x11, x12, x13, x14, x15, x16, x17, x18, x19, x20]) := hp1
  have hn2 : s2 n = some (false, .cells 64 [y0, y1, y2, y3, y4, y5, y6, y7, y8, y9, y10, y11, y12, y13, y14]) := hn2
  have hp2 := u2.at hp1 hn
  refine optK_of (rdN_all hp2 rfl) (new_step fun q s3 hq h3 u3 => wrAgg_step h3 rfl rfl h1 fun s4 h4 u4 => ?_)
  have sub4 : Sub s2 s4 := (u3.sub hq).upto u4 hq
  have hqn : q ≠ n := by rintro rfl; rw [hn2] at hq; cases hq
  have hqp : q ≠ p := by rintro rfl; rw [hp2] at hq; cases hq
  refine optK_of (rdN_all (sub4 _ _ hn2) rfl) ?_
  simp only [addOff_ptr, optK_mk, Nat.zero_add, blkOf]
  refine ⟨cut1 hqn h4 h4, wr1_step h4 (by simp) rfl fun s5 h5 u5 => ?_⟩
  refine ⟨cut1 hqn h4 h5, wr1_step h5 (by simp) rfl fun s6 h6 u6 => ?_⟩
  refine wrAt_step h6 rfl (by simp) h2 fun s7 h7 u7 => ?_
  have sub7 : Sub s2 s7 := ((sub4.upto u5 hq).upto u6 hq).upto u7 hq
  simp only [addOff_ptr, optK_mk, Nat.zero_add, rd1_mk (sub7 _ _ hp2), List.getElem?_cons_zero, List.getElem?_cons_succ]
  have a1 : arithV .and (.int .i64 e) (.int .i64 65535) = some (.int .i64 (e % 65536)) := and64 (k := 16) (m := 65535) rfl (by omega)
  have a2 : arithV .and (.int .i64 high) (.int .i64 16777215) = some (.int .i64 (high % 16777216)) := and64 (k := 24) (m := 16777215) rfl (by omega)
  have b1 := Int.emod_nonneg high (show (16777216 : Int) ≠ 0 by omega)
  have b2 := Int.emod_lt_of_pos high (show (0 : Int) < 16777216 by omega)
  have c1 := Int.emod_nonneg e (show (65536 : Int) ≠ 0 by omega)
  have c2 := Int.emod_lt_of_pos e (show (0 : Int) < 65536 by omega)
  simp only [a1, a2, arith_mul, arith_add, optK_mk]
  rw [wrap64 (n := high % 16777216 * 65536) (by omega) (by omega), wrap64 (by omega) (by omega)]
  refine wr1_step h7 (by simp [setRange]) rfl fun s8 h8 u8 => ?_
  have sub8 : Sub s2 s8 := sub7.upto u8 hq
  simp only [addOff_ptr, optK_mk, Nat.zero_add, rd1_mk (sub8 _ _ hp2), List.getElem?_cons_zero, List.getElem?_cons_succ, and32, xor32]
  refine wr1_step h8 (by simp [setRange]) rfl fun s9 h9 u9 => ?_
  have sub9 : Sub s2 s9 := sub8.upto u9 hq
  have hv' : (wrapK .u32 (flipN v mark : Int)) % 16777216 = v % 16777216 := by
    have := flip_low v mark
    rw [wu32]
    omega
  have he' : (e % 65536 + high % 16777216 * 65536) % 65536 = e % 65536 := by omega
  have pk' : Pk a b (e % 65536 + high % 16777216 * 65536) (wrapK .u32 (flipN v mark : Int)) [.int .u32 a, .int .u32 b, .int .i64 ttl, .int .i64 (e % 65536 + high % 16777216 * 65536), .int .u32 (wrapK .u32 (flipN v mark : Int)), .int .u32 mark, y0, y1, y2, y3, y4, y5, y6, y7, y8, y9, y10, y11, y12, y13, y14] := ⟨rfl, h2, rfl, rfl, rfl, rfl⟩
  have h9 : s9 q = some (false, .cells 66 [.int .u32 a, .int .u32 b, .int .i64 ttl, .int .i64 (e % 65536 + high % 16777216 * 65536), .int .u32 (wrapK .u32 (flipN v mark : Int)), .int .u32 mark, y0, y1, y2, y3, y4, y5, y6, y7, y8, y9, y10, y11, y12, y13, y14]) := h9
  have same := flow_same (a := a) (b := b) he' hv'
  refine optK_of (rdN_all (sub9 _ _ hp2) rfl) (Hash_in pk fun s10 sub10 _ => ?_)
  refine optK_of (rdN_all (cut_keep (sub9 _ _ hp2) (add_some (sub9 _ _ hp2))) rfl) (rHash_in pk fun s11 sub11 => ?_)
  have sub911 : Sub s9 s11 := sub_add.trans sub11
  simp only [eqV_int, beq_self_eq_true, negB_mk, Bool.false_bne, optK_mk, boolK_true]
  refine optK_of (rdN_all (sub911 _ _ h9) rfl) (Hash_in pk' fun s12 sub12 _ => ?_)
  have hp11 := sub911 _ _ (sub9 _ _ hp2)
  refine optK_of (rdN_all (cut_keep hp11 (add_some hp11)) rfl) (Hash_in pk fun s13 sub13 => ?_)
  rw [same]
  simp only [eqV_int, beq_self_eq_true, negB_mk, Bool.false_bne, optK_mk, boolK_true, pickV_true]
  exact wp_closed rfl rfl

set_option maxRecDepth 100000 in
theorem pk_arg {d : Nat} {p : AVal} (h : Arg Try.prog s (d + 3) 66 p) : ∃ (a b e v : Int) (x2 x5 x6 x7 x8 x9 x10 x11 x12 x13 x14 x15 x16 x17 x18 x19 x20 : AVal), p = .agg [.int .u32 a, .int .u32 b, x2, .int .i64 e, .int .u32 v, x5, x6, x7, x8, x9, x10, x11, x12, x13, x14, x15, x16, x17, x18, x19, x20] ∧ allOne [.int .u32 a, .int .u32 b, x2, .int .i64 e, .int .u32 v, x5, x6, x7, x8, x9, x10, x11, x12, x13, x14, x15, x16, x17, x18, x19, x20] = true := by
  obtain ⟨h1, h2, _⟩ := h
  obtain ⟨cs, rfl, ho⟩ := h2 (by kernel_rfl)
  unfold Inp at h1
  simp only [Try.underlying66] at h1
  obtain ⟨h1, h2⟩ := h1
  rw [show Try.prog.cellsOf 66 = 21 by kernel_rfl] at h1
  have k0 := h2 _ (List.mem_cons_self)
  have k1 := h2 _ (List.mem_cons_of_mem _ List.mem_cons_self)
  have k3 := h2 _ (List.mem_cons_of_mem _ (List.mem_cons_of_mem _ (List.mem_cons_of_mem _ List.mem_cons_self)))
  have k4 := h2 _ (List.mem_cons_of_mem _ (List.mem_cons_of_mem _ (List.mem_cons_of_mem _ (List.mem_cons_of_mem _ List.mem_cons_self))))
  simp only [cells_agg] at h1 k0 k1 k3 k4
  match cs, h1 with
  | [w0, w1, w2, w3, w4, w5, w6, w7, w8, w9, w10, w11, w12, w13, w14, w15, w16, w17, w18, w19, w20], _ =>
    obtain ⟨a, e1, _⟩ := inp_int (xs := [w0]) Try.underlying57 k0
    obtain ⟨b, e2, _⟩ := inp_int (xs := [w1]) Try.underlying57 k1
    obtain ⟨e, e3, _⟩ := inp_int (xs := [w3]) Try.underlying3 k3
    obtain ⟨v, e4, _⟩ := inp_int (xs := [w4]) Try.underlying56 k4
    cases e1; cases e2; cases e3; cases e4
    exact ⟨a, b, e, v, w2, w5, w6, w7, w8, w9, w10, w11, w12, w13, w14, w15, w16, w17, w18, w19, w20, rfl, ho⟩
set_option maxRecDepth 100000 in
theorem fr_arg {d : Nat} {p : AVal} (h : Arg Try.prog s (d + 3) 64 p) : ∃ (y0 y1 y2 y3 y4 y5 y6 y7 y8 y9 y10 y11 y12 y13 y14 : AVal), p = .agg [y0, y1, y2, y3, y4, y5, y6, y7, y8, y9, y10, y11, y12, y13, y14] ∧ allOne [y0, y1, y2, y3, y4, y5, y6, y7, y8, y9, y10, y11, y12, y13, y14] = true := by
  obtain ⟨h1, h2, _⟩ := h
  obtain ⟨cs, rfl, ho⟩ := h2 (by kernel_rfl)
  unfold Inp at h1
  simp only [Try.underlying64] at h1
  obtain ⟨h1, _⟩ := h1
  rw [show Try.prog.cellsOf 64 = 15 by kernel_rfl] at h1
  simp only [cells_agg] at h1
  match cs, h1 with
  | [y0, y1, y2, y3, y4, y5, y6, y7, y8, y9, y10, y11, y12, y13, y14], _ => exact ⟨y0, y1, y2, y3, y4, y5, y6, y7, y8, y9, y10, y11, y12, y13, y14, rfl, ho⟩
theorem argl5 {P : Program} {d : Nat} {t u w y z : TypeId} {xs : List AVal} (h : ArgL P s d [t, u, w, y, z] xs) : ∃ a b c e f, xs = [a, b, c, e, f] ∧ Arg P s d t a ∧ Arg P s d u b ∧ Arg P s d w c ∧ Arg P s d y e ∧ Arg P s d z f := by
  match xs, h with
  | [a, b, c, e, f], ⟨h1, h2, h3, h4, h5, _⟩ => exact ⟨a, b, c, e, f, rfl, h1, h2, h3, h4, h5⟩
set_option maxRecDepth 100000 in
theorem SH_wp (s : Heap) (xs : List AVal) (h : ArgL Try.prog s 40 [66, 3, 3, 56, 64] xs) : wpCall Try.prog XX 9 xs (fun v _ => v = .bool true) s := by
  obtain ⟨p, t, hi, m, f, rfl, h1, h2, h3, h4, h5⟩ := argl5 h
  · obtain ⟨a, b, e, v, x2, x5, x6, x7, x8, x9, x10, x11, x12, x13, x14, x15, x16, x17, x18, x19, x20, rfl, o1⟩ := pk_arg (d := 37) h1
    obtain ⟨ttl, rfl, _⟩ := arg_int (d := 39) Try.underlying3 h2
    obtain ⟨high, rfl, _⟩ := arg_int (d := 39) Try.underlying3 h3
    obtain ⟨mark, rfl, _⟩ := arg_int (d := 39) Try.underlying56 h4
    obtain ⟨y0, y1, y2, y3, y4, y5, y6, y7, y8, y9, y10, y11, y12, y13, y14, rfl, o2⟩ := fr_arg (d := 37) h5
    exact SH_in o1 o2
end Go.AM
