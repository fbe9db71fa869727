/- Part D of a calculus over a small memory that is proved to answer as the program does, and of its use for the functions that the law reaches: see the last part. -/
import Derived.Test.YtgehkpnggfnapaaDoorV
import Derived.Test.YtgehkpnggfnapaaDoorU2
namespace Go.AM
open Go Go.Proofs
variable {K : AVal → Heap → Prop} {s : Heap}
/-! ### weights -/
theorem allOne_ints {k : IntKind} : ∀ l : List Int, allOne (l.map (AVal.int k)) = true
  | [] => rfl
  | _ :: l => by rw [List.map_cons, allOne_cons, allOne_ints l]; rfl
def xorU (x y : Int) : Int := wrapK .u64 ((BitVec.ofInt (IntKind.bits .u64) x ^^^ BitVec.ofInt (IntKind.bits .u64) y).toNat : Nat)
theorem arith_xor64 {x y : Int} : arithV .xor (.int .u64 x) (.int .u64 y) = some (.int .u64 (xorU x y)) := by simp [arithV, arith, frc_eq, xorU]
def fnvStep (h b : Int) : Int := IntKind.u64.wrap (xorU h (wrapK .u64 b) * 1099511628211)
def fnv : Int → List Int → Int
  | h, [] => h
  | h, b :: r => fnv (fnvStep h b) r
theorem fnv_cons (h b : Int) (r : List Int) : fnv h (b :: r) = fnv (fnvStep h b) r := rfl
theorem wu8 (n : Int) : wrapK .u8 n = n % 256 := by
  simp only [wrapK]; rw [wrapM_eq _ _ _ (by omega) (by omega)]; split <;> omega
theorem wu32 (n : Int) : wrapK .u32 n = n % 4294967296 := by
  simp only [wrapK]; rw [wrapM_eq _ _ _ (by omega) (by omega)]; split <;> omega
theorem wu64 (n : Int) : wrapK .u64 n = n % 18446744073709551616 := by
  simp only [wrapK]; rw [wrapM_eq _ _ _ (by omega) (by omega)]; split <;> omega
def b4 (n : Int) : List Int := [wrapK .u8 (n.fdiv 16777216), wrapK .u8 (n.fdiv 65536), wrapK .u8 (n.fdiv 256), wrapK .u8 n]
theorem b4_mod (n : Int) : b4 (wrapK .u32 n) = b4 (wrapK .u64 n) := by
  unfold b4
  simp only [wu8, wu32, wu64]
  rw [Int.fdiv_eq_ediv_of_nonneg _ (by omega), Int.fdiv_eq_ediv_of_nonneg _ (by omega), Int.fdiv_eq_ediv_of_nonneg _ (by omega), Int.fdiv_eq_ediv_of_nonneg _ (by omega), Int.fdiv_eq_ediv_of_nonneg _ (by omega), Int.fdiv_eq_ediv_of_nonneg _ (by omega)]
  simp only [List.cons.injEq, and_true]
  refine ⟨?_, ?_, ?_, ?_⟩ <;> omega
theorem b4_ip {n : Int} (h : 0 ≤ n ∧ n < 4294967296) : b4 (wrapK .u64 n) = b4 n := by
  rw [wu64, show n % 18446744073709551616 = n by omega]
def wt (ip bd : Int) : Int := fnv 14695981039346656037 (b4 ip ++ b4 (wrapK .u32 bd))
theorem shr32_24 {m : Int} : shiftV .shr (.int .u32 m) (.int .u64 24) = some (.int .u32 (m.fdiv 16777216)) := by
  show frc (m.fdiv ((2 ^ (min 24 (IntKind.bits .u32)) : Nat) : Int)) (fun n => some (AVal.int .u32 n)) = _
  rw [frc_eq]; rfl
theorem shr32_16 {m : Int} : shiftV .shr (.int .u32 m) (.int .u64 16) = some (.int .u32 (m.fdiv 65536)) := by
  show frc (m.fdiv ((2 ^ (min 16 (IntKind.bits .u32)) : Nat) : Int)) (fun n => some (AVal.int .u32 n)) = _
  rw [frc_eq]; rfl
theorem shr32_8 {m : Int} : shiftV .shr (.int .u32 m) (.int .u64 8) = some (.int .u32 (m.fdiv 256)) := by
  show frc (m.fdiv ((2 ^ (min 8 (IntKind.bits .u32)) : Nat) : Int)) (fun n => some (AVal.int .u32 n)) = _
  rw [frc_eq]; rfl
theorem shr64_24 {m : Int} : shiftV .shr (.int .u64 m) (.int .u64 24) = some (.int .u64 (m.fdiv 16777216)) := by
  show frc (m.fdiv ((2 ^ (min 24 (IntKind.bits .u64)) : Nat) : Int)) (fun n => some (AVal.int .u64 n)) = _
  rw [frc_eq]; rfl
theorem shr64_16 {m : Int} : shiftV .shr (.int .u64 m) (.int .u64 16) = some (.int .u64 (m.fdiv 65536)) := by
  show frc (m.fdiv ((2 ^ (min 16 (IntKind.bits .u64)) : Nat) : Int)) (fun n => some (AVal.int .u64 n)) = _
  rw [frc_eq]; rfl
theorem shr64_8 {m : Int} : shiftV .shr (.int .u64 m) (.int .u64 8) = some (.int .u64 (m.fdiv 256)) := by
  show frc (m.fdiv ((2 ^ (min 8 (IntKind.bits .u64)) : Nat) : Int)) (fun n => some (AVal.int .u64 n)) = _
  rw [frc_eq]; rfl
theorem convI_mk {k k' : IntKind} {n : Int} : convI k (.int k' n) = some (.int k (wrapK k n)) := rfl
theorem index8 {cs : List AVal} {k : Nat} (hk : k < 8) : indexD 8 1 none (.agg cs) (.int .i64 (k : Int)) = cs[k]? := by
  have : Nat.blt k 8 = true := by rw [Nat.blt_eq]; exact hk
  simp [indexD, partD, this]
theorem fill8 {x0 x1 x2 x3 x4 x5 x6 x7 : Int} : fillR [.int .u8 0, .int .u8 0, .int .u8 0, .int .u8 0, .int .u8 0, .int .u8 0, .int .u8 0, .int .u8 0] [(0, 1, .int .u8 x0), (1, 1, .int .u8 x1), (2, 1, .int .u8 x2), (3, 1, .int .u8 x3), (4, 1, .int .u8 x4), (5, 1, .int .u8 x5), (6, 1, .int .u8 x6), (7, 1, .int .u8 x7)] = some [.int .u8 x0, .int .u8 x1, .int .u8 x2, .int .u8 x3, .int .u8 x4, .int .u8 x5, .int .u8 x6, .int .u8 x7] := by kernel_rfl
theorem fill8' {x0 x1 x2 x3 x4 x5 x6 x7 : Int} : fillR (repl 8 [.int .u8 0]) [(0, 1, .int .u8 x0), (1, 1, .int .u8 x1), (2, 1, .int .u8 x2), (3, 1, .int .u8 x3), (4, 1, .int .u8 x4), (5, 1, .int .u8 x5), (6, 1, .int .u8 x6), (7, 1, .int .u8 x7)] = some [.int .u8 x0, .int .u8 x1, .int .u8 x2, .int .u8 x3, .int .u8 x4, .int .u8 x5, .int .u8 x6, .int .u8 x7] := by kernel_rfl
theorem map_b4 (a b : Int) : (b4 a ++ b4 b).map (AVal.int .u8) = [.int .u8 (wrapK .u8 (a.fdiv 16777216)), .int .u8 (wrapK .u8 (a.fdiv 65536)), .int .u8 (wrapK .u8 (a.fdiv 256)), .int .u8 (wrapK .u8 a), .int .u8 (wrapK .u8 (b.fdiv 16777216)), .int .u8 (wrapK .u8 (b.fdiv 65536)), .int .u8 (wrapK .u8 (b.fdiv 256)), .int .u8 (wrapK .u8 b)] := rfl
theorem hash_in {bs : List Int} (h8 : bs.length = 8) (hK : ∀ s', Sub s s' → K (.int .u64 (fnv 14695981039346656037 bs)) s') : wpCall Tryd.prog XX 40 [.agg (bs.map (AVal.int .u8))] K s := by
  refine vc_segment_octets_hash_in ⟨allOne_ints bs, new_step fun b s1 hb h1 u1 => ?_⟩
  refine optK_of (a := bs.map (AVal.int .u8)) (rdN_all h1 (by simp [h8])) ?_
  refine ⟨fun ys s2 n => ∃ (h : Int) (k : Nat), ys = [.int .u64 h, .int .i64 k] ∧ s2 = s1 ∧ k ≤ 8 ∧ n = 8 - k ∧ fnv 14695981039346656037 bs = fnv h (bs.drop k), ⟨_, _, 0, rfl, rfl, by omega, rfl, by simp⟩, ?_⟩
  rintro f s2 n ⟨h, k, hy, rfl, hk, rfl, he⟩
  simp only [List.cons.injEq, and_true] at hy
  rw [hy.1, hy.2]
  simp only [vc_segment_octets_hash_l0, arith_lss, optK_mk]
  refine boolK_mk (fun hlt => ?_) (fun hge => ?_)
  · have hlt : k < 8 := by have := of_decide_eq_true hlt; omega
    have hk2 : k < bs.length := by omega
    rw [List.drop_eq_getElem_cons hk2, fnv_cons] at he
    simp only [index8 hlt, List.getElem?_map, List.getElem?_eq_getElem hk2, Option.map_some, optK_mk, convI_mk, arith_xor64, arith_mul, arith_add]
    rw [wrap64 (by omega) (by omega)]
    exact ⟨_, by omega, fnvStep h bs[k], k + 1, by simp [fnvStep], by trivial, by omega, rfl, he⟩
  · have hge : 8 ≤ k := by have := of_decide_eq_false hge; omega
    rw [List.drop_eq_nil_of_le (by omega)] at he
    have := hK _ (u1.sub hb)
    rw [he] at this
    exact this
theorem Weight_in {ip bd : Int} (hK : ∀ s', Sub s s' → K (.int .u64 (wt ip bd)) s') : wpCall Tryd.prog XX 18 [.int .u32 ip, .int .i64 bd] K s := by
  refine vc_segment_Weight_in ?_
  simp only [vc_segment_Weight, convI_mk, shr32_24, shr32_16, shr32_8, optK_mk, fill8]
  rw [← map_b4]
  exact hash_in rfl hK
theorem rWeight_in {ip bd : Int} (hip : 0 ≤ ip ∧ ip < 4294967296) (hK : ∀ s', Sub s s' → K (.int .u64 (wt ip bd)) s') : wpCall Tryd.prog XX 19 [.int .u32 ip, .int .i64 bd] K s := by
  refine vc_leafmeshref25_Weight_in ?_
  simp only [vc_leafmeshref25_Weight, convI_mk, shr64_24, shr64_16, shr64_8, optK_mk, fill8']
  rw [← map_b4]
  have hb : b4 (wrapK .u64 ip) ++ b4 (wrapK .u64 bd) = b4 ip ++ b4 (wrapK .u32 bd) := by rw [b4_ip hip, b4_mod]
  refine ⟨allOne_ints _, new_step fun b s1 hb1 h1 u1 => ?_⟩
  rw [hb] at h1
  have hK' := hK _ (u1.sub hb1)
  unfold wt at hK'
  have h8 : (b4 ip ++ b4 (wrapK .u32 bd)).length = 8 := rfl
  revert h1 hK' h8
  generalize b4 ip ++ b4 (wrapK .u32 bd) = bs
  intro h1 hK' h8
  have hs : Sl s1 (.slc b 0 8 (some 8) 1) (bs.map (AVal.int .u8)) := Sl.mk h1 (by simp [h8]) (by simp [h8])
  refine ⟨fun ys s2 n => ∃ (h : Int) (k : Nat), ys = [.int .u64 h, .int .i64 k] ∧ s2 = s1 ∧ k ≤ 8 ∧ n = 8 - k ∧ fnv 14695981039346656037 bs = fnv h (bs.drop k), ⟨_, _, 0, rfl, rfl, by omega, rfl, by simp⟩, ?_⟩
  rintro f s2 n ⟨h, k, hy, rfl, hk, rfl, he⟩
  simp only [List.cons.injEq, and_true] at hy
  rw [hy.1, hy.2]
  simp only [vc_leafmeshref25_Weight_l0, lenOf_slc, arith_lss, optK_mk]
  refine boolK_mk (fun hlt => ?_) (fun hge => ?_)
  · have hlt : k < 8 := by
      have := of_decide_eq_true hlt
      omega
    have hk2 : k < bs.length := by omega
    rw [List.drop_eq_getElem_cons hk2, fnv_cons] at he
    obtain ⟨p, g1, g2⟩ := hs.get (i := k) (by simpa using hk2)
    simp only [g1, g2, List.getElem?_map, List.getElem?_eq_getElem hk2, Option.map_some, optK_mk, convI_mk, arith_xor64, arith_mul, arith_add]
    rw [wrap64 (by omega) (by omega)]
    exact ⟨_, by omega, fnvStep h bs[k], k + 1, by simp [fnvStep], by trivial, by omega, rfl, he⟩
  · have hge : 8 ≤ k := by
      have := of_decide_eq_false hge
      omega
    rw [List.drop_eq_nil_of_le (by omega)] at he
    rw [he] at hK'
    exact hK'
end Go.AM
namespace Go.AM
open Go Go.Proofs
variable {K : AVal → Heap → Prop} {s : Heap}
/-! ### candidates: an address and a preference -/
abbrev Cand := Int × Int
def candR (c : Cand) : List AVal := [.int .u32 c.1, .int .i64 c.2]
abbrev SlC (s : Heap) (v : AVal) (l : List Cand) : Prop := SlR 2 s v (l.map candR)
theorem Sub.upto {s s' s'' : Heap} {b : Nat} (h : Sub s s') (u : Upto b s' s'') (hb : s b = none) : Sub s s'' := fun i e hi => by rw [u i (ne_of_some hb hi)]; exact h i e hi
theorem candR_len (l : List Cand) : ∀ r ∈ l.map candR, r.length = 2 := fun r hr => by obtain ⟨c, _, rfl⟩ := List.mem_map.1 hr; rfl
theorem slc_at {v : AVal} {l : List Cand} (h : SlC s v l) {k : Nat} (hk : k < l.length) : ∃ b o, iaddrS 2 v (.int .i64 (k : Int)) = some (.ptr b o) ∧ rdN s 2 (.ptr b o) = some (candR l[k]) ∧ rd1 s (.ptr b (o + 0)) = some (.int .u32 l[k].1) ∧ rd1 s (.ptr b (o + 1)) = some (.int .i64 l[k].2) := by
  obtain ⟨b, o, h1, h2, h3⟩ := h.get (i := k) (r := candR l[k]) (by simp [hk])
  exact ⟨b, o, h1, h2, h3 0 (by omega), h3 1 (by omega)⟩
def grt (key : Cand → Int) : Cand → List Cand → Cand
  | b, [] => b
  | b, x :: r => if key b < key x then grt key x r else grt key b r
theorem grt_cons (key : Cand → Int) (b x : Cand) (r : List Cand) : grt key b (x :: r) = if key b < key x then grt key x r else grt key b r := rfl
/-- a block that a function value holds -/
def Held (o : Option (Nat × List AVal)) (s : Heap) : Prop := ∀ q cs, o = some (q, cs) → ∃ t e, s q = some (t, .cells e cs)
theorem Held.sub {o : Option (Nat × List AVal)} {s s' : Heap} (h : Held o s) (hs : Sub s s') : Held o s' := fun q cs e => by
  obtain ⟨t, e, h1⟩ := h q cs e
  exact ⟨t, e, hs _ _ h1⟩
theorem Held.frz {o : Option (Nat × List AVal)} {s : Heap} (h : Held o s) : Held o (AM.frz s) := fun q cs e => by
  obtain ⟨t, e, h1⟩ := h q cs e
  exact ⟨true, e, frz_some h1⟩
theorem great64_in {key : Cand → Int} {kv : AVal} {o : Option (Nat × List AVal)} {v : AVal} {c : Cand} {l : List Cand} (h : SlC s v (c :: l)) (hl : l.length ≤ 1000) (ho : Held o s)
    (hkey : ∀ (x : Cand) (s' : Heap) (K : AVal → Heap → Prop), Held o s' → (∀ s'', Sub s' s'' → K (.int .u64 (key x)) s'') → funK Tryd.prog XX kv [.agg (candR x)] K s')
    (hK : ∀ s', Sub s s' → K (.agg (candR (grt key c l))) s') : wpCall Tryd.prog XX 52 [v, kv] K s := by
  refine vc_segment_greatest_api_Candidate_uint64__in (new_step fun b0 s1 hb0 h1 u1 => ?_)
  have sub1 := u1.sub hb0
  obtain ⟨pb, po, g1, g2, _, _⟩ := slc_at (h.sub sub1) (k := 0) (by simp)
  have g1 : iaddrS 2 v (.int .i64 0) = some (.ptr pb po) := g1
  simp only [g1, g2, optK_mk]
  refine hkey c _ _ ((ho.sub sub1).frz) fun s2 sub2 _ => ?_
  refine newM (l := [(s1, add s1 s2)]) fun b8 s3 hb8 h8 u8 => ?_
  refine wrAgg_step h8 rfl rfl rfl fun s4 h4 u4 => ?_
  obtain ⟨v', d1, d2, _⟩ := h.drop (k := 1) (by simp) (by simp)
  have d1 : sliceS 2 v (some (.int .i64 1)) none none = some v' := d1
  have d2 : SlC s v' l := d2
  simp only [d1, optK_mk, d2.len, List.length_map]
  have subA : Sub s (add s1 s2) := sub1.trans sub_add
  have hb8s : s b8 = none := by
    cases e : s b8 with
    | none => rfl
    | some x => rw [subA b8 x e] at hb8; cases hb8
  have sub4 : Sub s s4 := (subA.trans sub_add).upto u4 hb8s
  have hne : b0 ≠ b8 := by
    rintro rfl
    rw [show add s1 s2 b0 = _ from add_some h1] at hb8; cases hb8
  have h04 : s4 b0 = some (false, .cells 35 [.int .u32 0, .int .i64 0]) := by
    rw [u4 b0 hne]; exact sub_add b0 _ (add_some h1)
  refine ⟨fun ys s5 n => ∃ (b : Cand) (k : Nat), ys = [.int .u64 (key b), .int .i64 k] ∧ k ≤ l.length ∧ n = l.length - k ∧ grt key c l = grt key b (l.drop k) ∧ s5 b8 = some (false, .cells 35 (candR b)) ∧ (∃ cs, cs.length = 2 ∧ s5 b0 = some (false, .cells 35 cs)) ∧ Sub s s5, ⟨_, c, 0, rfl, by omega, rfl, by simp, h4, ⟨_, rfl, h04⟩, sub4⟩, ?_⟩
  rintro f s5 n ⟨b, k, hy, hk, rfl, he, h85, ⟨cs, hcs, h05⟩, sub5⟩
  simp only [List.cons.injEq, and_true] at hy
  rw [hy.1, hy.2]
  simp only [vc_segment_greatest_api_Candidate_uint64__l0, arith_lss, optK_mk]
  refine boolK_mk (fun hlt => ?_) (fun hge => ?_)
  · have hlt : k < l.length := by have := of_decide_eq_true hlt; omega
    rw [List.drop_eq_getElem_cons hlt, grt_cons] at he
    obtain ⟨pb, po, g1, g2, _, _⟩ := slc_at (d2.sub sub5) hlt
    simp only [g1, g2, optK_mk]
    refine new_step fun b17 s6 hb17 h6 u6 => wrAgg_step h6 rfl rfl rfl fun s7 h7 u7 => optK_of (rdN_all h7 rfl) ?_
    have hb17s : s b17 = none := by
      cases e : s b17 with
      | none => rfl
      | some x => rw [sub5 b17 x e] at hb17; cases hb17
    have sub7 : Sub s s7 := (sub5.trans (u6.sub hb17)).upto u7 hb17s
    have n8 : b8 ≠ b17 := by rintro rfl; rw [h85] at hb17; cases hb17
    have n0 : b0 ≠ b17 := by rintro rfl; rw [h05] at hb17; cases hb17
    have h87 : s7 b8 = _ := (u7 b8 n8).trans (u6.at h85 hb17)
    have h07 : s7 b0 = _ := (u7 b0 n0).trans (u6.at h05 hb17)
    refine hkey l[k] _ _ (ho.sub sub7) fun s8 sub8 => ?_
    simp only [arith_gtr, optK_mk, vc_segment_greatest_api_Candidate_uint64__j1, arith_add]
    rw [wrap64 (by omega) (by omega)]
    refine boolK_mk (fun hg => ?_) (fun hg => ?_)
    · rw [if_pos (of_decide_eq_true hg)] at he
      refine optK_of (rdN_all (sub8 _ _ h7) rfl) (wrAgg_step (sub8 _ _ h87) rfl rfl rfl fun s9 h9 u9 => ?_)
      exact ⟨_, by omega, l[k], k + 1, by simp, by omega, rfl, he, h9, ⟨cs, hcs, (u9 b0 hne).trans (sub8 _ _ h07)⟩, (sub7.trans sub8).upto u9 hb8s⟩
    · rw [if_neg (of_decide_eq_false hg)] at he
      exact ⟨_, by omega, b, k + 1, by simp, by omega, rfl, he, sub8 _ _ h87, ⟨cs, hcs, sub8 _ _ h07⟩, sub7.trans sub8⟩
  · have hge : l.length ≤ k := by have := of_decide_eq_false hge; omega
    rw [List.drop_eq_nil_of_le hge] at he
    have he : grt key c l = b := he
    rw [he] at hK
    refine optK_of (rdN_all h85 rfl) (wrAgg_step h05 (by rw [hcs]; rfl) hcs rfl fun s6 h6 u6 => optK_of (rdN_all h6 rfl) ?_)
    exact hK _ (sub5.upto u6 hb0)
theorem greatI_in {key : Cand → Int} {kv : AVal} {o : Option (Nat × List AVal)} {v : AVal} {c : Cand} {l : List Cand} (h : SlC s v (c :: l)) (hl : l.length ≤ 1000) (ho : Held o s)
    (hkey : ∀ (x : Cand) (s' : Heap) (K : AVal → Heap → Prop), Held o s' → (∀ s'', Sub s' s'' → K (.int .i64 (key x)) s'') → funK Tryd.prog XX kv [.agg (candR x)] K s')
    (hK : ∀ s', Sub s s' → K (.agg (candR (grt key c l))) s') : wpCall Tryd.prog XX 55 [v, kv] K s := by
  refine vc_segment_greatest_api_Candidate_int__in (new_step fun b0 s1 hb0 h1 u1 => ?_)
  have sub1 := u1.sub hb0
  obtain ⟨pb, po, g1, g2, _, _⟩ := slc_at (h.sub sub1) (k := 0) (by simp)
  have g1 : iaddrS 2 v (.int .i64 0) = some (.ptr pb po) := g1
  simp only [g1, g2, optK_mk]
  refine hkey c _ _ ((ho.sub sub1).frz) fun s2 sub2 _ => ?_
  refine newM (l := [(s1, add s1 s2)]) fun b8 s3 hb8 h8 u8 => ?_
  refine wrAgg_step h8 rfl rfl rfl fun s4 h4 u4 => ?_
  obtain ⟨v', d1, d2, _⟩ := h.drop (k := 1) (by simp) (by simp)
  have d1 : sliceS 2 v (some (.int .i64 1)) none none = some v' := d1
  have d2 : SlC s v' l := d2
  simp only [d1, optK_mk, d2.len, List.length_map]
  have subA : Sub s (add s1 s2) := sub1.trans sub_add
  have hb8s : s b8 = none := by
    cases e : s b8 with
    | none => rfl
    | some x => rw [subA b8 x e] at hb8; cases hb8
  have sub4 : Sub s s4 := (subA.trans sub_add).upto u4 hb8s
  have hne : b0 ≠ b8 := by
    rintro rfl
    rw [show add s1 s2 b0 = _ from add_some h1] at hb8; cases hb8
  have h04 : s4 b0 = some (false, .cells 35 [.int .u32 0, .int .i64 0]) := by
    rw [u4 b0 hne]; exact sub_add b0 _ (add_some h1)
  refine ⟨fun ys s5 n => ∃ (b : Cand) (k : Nat), ys = [.int .i64 (key b), .int .i64 k] ∧ k ≤ l.length ∧ n = l.length - k ∧ grt key c l = grt key b (l.drop k) ∧ s5 b8 = some (false, .cells 35 (candR b)) ∧ (∃ cs, cs.length = 2 ∧ s5 b0 = some (false, .cells 35 cs)) ∧ Sub s s5, ⟨_, c, 0, rfl, by omega, rfl, by simp, h4, ⟨_, rfl, h04⟩, sub4⟩, ?_⟩
  rintro f s5 n ⟨b, k, hy, hk, rfl, he, h85, ⟨cs, hcs, h05⟩, sub5⟩
  simp only [List.cons.injEq, and_true] at hy
  rw [hy.1, hy.2]
  simp only [vc_segment_greatest_api_Candidate_int__l0, arith_lss, optK_mk]
  refine boolK_mk (fun hlt => ?_) (fun hge => ?_)
  · have hlt : k < l.length := by have := of_decide_eq_true hlt; omega
    rw [List.drop_eq_getElem_cons hlt, grt_cons] at he
    obtain ⟨pb, po, g1, g2, _, _⟩ := slc_at (d2.sub sub5) hlt
    simp only [g1, g2, optK_mk]
    refine new_step fun b17 s6 hb17 h6 u6 => wrAgg_step h6 rfl rfl rfl fun s7 h7 u7 => optK_of (rdN_all h7 rfl) ?_
    have hb17s : s b17 = none := by
      cases e : s b17 with
      | none => rfl
      | some x => rw [sub5 b17 x e] at hb17; cases hb17
    have sub7 : Sub s s7 := (sub5.trans (u6.sub hb17)).upto u7 hb17s
    have n8 : b8 ≠ b17 := by rintro rfl; rw [h85] at hb17; cases hb17
    have n0 : b0 ≠ b17 := by rintro rfl; rw [h05] at hb17; cases hb17
    have h87 : s7 b8 = _ := (u7 b8 n8).trans (u6.at h85 hb17)
    have h07 : s7 b0 = _ := (u7 b0 n0).trans (u6.at h05 hb17)
    refine hkey l[k] _ _ (ho.sub sub7) fun s8 sub8 => ?_
    simp only [arith_gtr, optK_mk, vc_segment_greatest_api_Candidate_int__j1, arith_add]
    rw [wrap64 (by omega) (by omega)]
    refine boolK_mk (fun hg => ?_) (fun hg => ?_)
    · rw [if_pos (of_decide_eq_true hg)] at he
      refine optK_of (rdN_all (sub8 _ _ h7) rfl) (wrAgg_step (sub8 _ _ h87) rfl rfl rfl fun s9 h9 u9 => ?_)
      exact ⟨_, by omega, l[k], k + 1, by simp, by omega, rfl, he, h9, ⟨cs, hcs, (u9 b0 hne).trans (sub8 _ _ h07)⟩, (sub7.trans sub8).upto u9 hb8s⟩
    · rw [if_neg (of_decide_eq_false hg)] at he
      exact ⟨_, by omega, b, k + 1, by simp, by omega, rfl, he, sub8 _ _ h87, ⟨cs, hcs, sub8 _ _ h07⟩, sub7.trans sub8⟩
  · have hge : l.length ≤ k := by have := of_decide_eq_false hge; omega
    rw [List.drop_eq_nil_of_le hge] at he
    have he : grt key c l = b := he
    rw [he] at hK
    refine optK_of (rdN_all h85 rfl) (wrAgg_step h05 (by rw [hcs]; rfl) hcs rfl fun s6 h6 u6 => optK_of (rdN_all h6 rfl) ?_)
    exact hK _ (sub5.upto u6 hb0)

/-! ### the algorithms -/
theorem alg1_in {v : AVal} {c : Cand} {l : List Cand} {bd : Int} (h : SlC s v (c :: l)) (hb : 0 ≤ bd) (hK : ∀ s', Sub s s' → K (.agg (candR (((c :: l)[(bd % ((c :: l).length : Int)).toNat]?).getD c))) s') : wpCall Tryd.prog XX 50 [v, .int .i64 bd] K s := by
  refine vc_segment_algorithms_1_in (new_step fun b s1 hb1 h1 u1 => ?_)
  have hs := h.sub (u1.sub hb1)
  have hpos : ((c :: l).length : Int) ≠ 0 := by have : (c :: l).length = l.length + 1 := rfl; omega
  simp only [hs.len, optK_mk, List.length_map, arith_rem hpos]
  have h0 := Int.emod_nonneg bd hpos
  have hlt := Int.emod_lt_of_pos bd (show (0 : Int) < (c :: l).length by have : (c :: l).length = l.length + 1 := rfl; omega)
  have e1 : bd.tmod ((c :: l).length : Int) = ((bd % ((c :: l).length : Int)).toNat : Nat) := by rw [Int.tmod_eq_emod_of_nonneg hb, Int.toNat_of_nonneg h0]
  rw [e1]
  have hk : (bd % ((c :: l).length : Int)).toNat < (c :: l).length := by omega
  rw [List.getElem?_eq_getElem hk, Option.getD_some] at hK
  obtain ⟨pb, po, g1, g2, _, _⟩ := slc_at hs hk
  simp only [g1, g2, optK_mk]
  refine wrAgg_step h1 rfl rfl rfl fun s2 h2 u2 => ?_
  refine optK_of (rdN_all h2 rfl) ?_
  exact hK _ ((u1.sub hb1).upto u2 hb1)
theorem alg21_in {q : Nat} {bd : Int} {x : Cand} (ho : Held (some (q, [.int .i64 bd])) s) (hK : ∀ s', Sub s s' → K (.int .u64 (wt x.1 bd)) s') : wpCall Tryd.prog XX 53 [.agg (candR x), .ptr q 0] K s := by
  refine vc_segment_algorithms_2_1_in ⟨rfl, new_step fun b s1 hb h1 u1 => ?_⟩
  obtain ⟨t, e, hq⟩ := ho q _ rfl
  have hq1 := u1.sub hb _ _ hq
  simp only [addOff_ptr, optK_mk, rd1_mk h1, rd1_mk hq1, List.getElem?_cons_zero]
  refine Weight_in fun s2 sub2 => hK _ ((u1.sub hb).trans sub2)
theorem alg31_in {x : Cand} (hK : ∀ s', Sub s s' → K (.int .i64 x.2) s') : wpCall Tryd.prog XX 56 [.agg (candR x)] K s := by
  refine vc_segment_algorithms_3_1_in ⟨rfl, new_step fun b s1 hb h1 u1 => ?_⟩
  simp only [addOff_ptr, optK_mk, rd1_mk h1]
  exact hK _ (u1.sub hb)
theorem alg2_in {v : AVal} {c : Cand} {l : List Cand} {bd : Int} (h : SlC s v (c :: l)) (hl : l.length ≤ 1000) (hK : ∀ s', Sub s s' → K (.agg (candR (grt (fun c => wt c.1 bd) c l))) s') : wpCall Tryd.prog XX 51 [v, .int .i64 bd] K s := by
  refine vc_segment_algorithms_2_in (box_step rfl fun q s1 hq h1 u1 => new_step fun b2 s2 hb2 h2 u2 => ?_)
  have sub := (u1.sub hq).trans (u2.sub hb2)
  refine great64_in (key := fun c => wt c.1 bd) (o := some (q, [.int .i64 bd])) (h.sub sub) hl (fun q' cs e => by cases e; exact ⟨_, _, u2.at h1 hb2⟩) (fun x s' K ho hk => fn_in (by kernel_rfl) (alg21_in ho hk)) fun s3 sub3 => ?_
  refine wrAgg_step (sub3 _ _ h2) rfl rfl rfl fun s4 h4 u4 => ?_
  refine optK_of (rdN_all h4 rfl) ?_
  have hb : s b2 = none := by
    cases e : s b2 with
    | none => rfl
    | some x => rw [u1.sub hq b2 x e] at hb2; cases hb2
  exact hK _ ((sub.trans sub3).upto u4 hb)
theorem alg3_in {v w : AVal} {c : Cand} {l : List Cand} (h : SlC s v (c :: l)) (hl : l.length ≤ 1000) (hK : ∀ s', Sub s s' → K (.agg (candR (grt (fun c => c.2) c l))) s') : wpCall Tryd.prog XX 54 [v, w] K s := by
  refine vc_segment_algorithms_3_in (new_step fun b2 s2 hb2 h2 u2 => ?_)
  refine greatI_in (key := fun c => c.2) (o := none) (h.sub (u2.sub hb2)) hl (fun q' cs e => by cases e) (fun x s' K ho hk => fn_in (by kernel_rfl) (alg31_in hk)) fun s3 sub3 => ?_
  refine wrAgg_step (sub3 _ _ h2) rfl rfl rfl fun s4 h4 u4 => ?_
  refine optK_of (rdN_all h4 rfl) ?_
  exact hK _ (((u2.sub hb2).trans sub3).upto u4 hb2)
def algT : List AVal := [.fn (.func 50) [] [], .fn (.func 51) [] [], .fn (.func 54) [] []]
theorem algs_in (hK : ∀ s', Sub s s' → K (.agg algT) s') : wpCall Tryd.prog XX 34 [] K s := by
  refine vc_segment_algorithms_in (new_step fun b s1 hb h1 u1 => ?_)
  refine optK_of (a := algT) rfl ?_
  refine wrAgg_step h1 rfl rfl rfl fun s2 h2 u2 => ?_
  refine optK_of (rdN_all h2 rfl) ?_
  exact hK _ ((u1.sub hb).upto u2 hb)
end Go.AM
namespace Go.AM
open Go Go.Proofs
variable {K : AVal → Heap → Prop} {s : Heap}
def ascB : List Cand → Bool
  | [] => true
  | [_] => true
  | x :: y :: r => decide (x.1 < y.1) && ascB (y :: r)
theorem ascB_step {l : List Cand} {i : Nat} (h1 : 1 ≤ i) (h : i < l.length) : ascB (l.drop (i - 1)) = (decide (l[i - 1].1 < l[i].1) && ascB (l.drop i)) := by
  have e1 : l.drop (i - 1) = l[i - 1] :: l.drop i := by
    rw [List.drop_eq_getElem_cons (show i - 1 < l.length by omega)]
    congr 2; omega
  rw [e1, List.drop_eq_getElem_cons h]
  rfl
def pick (alg bd : Int) (c : Cand) (l : List Cand) : Cand :=
  if alg = 0 then ((c :: l)[(bd % ((c :: l).length : Int)).toNat]?).getD c else if alg = 1 then grt (fun c => wt c.1 bd) c l else grt (fun c => c.2) c l
def elect (alg : Int) (l : List Cand) (bd : Int) : Int × Bool := match l with
  | [] => (0, false)
  | c :: r => if alg < 0 ∨ 3 ≤ alg ∨ bd < 0 then (0, false) else if ascB (c :: r) = true then ((pick alg bd c r).1, true) else (0, false)
theorem elect_cons (alg : Int) (c : Cand) (r : List Cand) (bd : Int) : elect alg (c :: r) bd = if alg < 0 ∨ 3 ≤ alg ∨ bd < 0 then (0, false) else if ascB (c :: r) = true then ((pick alg bd c r).1, true) else (0, false) := rfl
theorem Elect_in {v : AVal} {l : List Cand} {alg bd : Int} (h : SlC s v l) (hl : l.length ≤ 1000) (hK : ∀ s', Sub s s' → K (.tup [.int .u32 (elect alg l bd).1, .bool (elect alg l bd).2]) s') : wpCall Tryd.prog XX 16 [.int .i64 alg, v, .int .i64 bd] K s := by
  refine vc_segment_Elect_in (algs_in fun s1 sub1 => new_step fun t s2 ht h2 u2 => wrAgg_step h2 rfl rfl rfl fun s3 h3 u3 => ?_)
  have hts : s t = none := by
    cases e : s t with
    | none => rfl
    | some x => rw [sub1 t x e] at ht; cases ht
  have sub3 : Sub s s3 := (sub1.trans (u2.sub ht)).upto u3 hts
  have hk := hK s3 sub3
  cases l with
  | nil =>
    simp only [h.len, List.map_nil, List.length_nil, optK_mk, eqV_int, negB_mk, vc_segment_Elect_j0, vc_segment_Elect_j1, vc_segment_Elect_j2]
    simp only [Int.ofNat_zero, beq_self_eq_true, Bool.false_bne, boolK_true, pickV_true, optK_mk]
    exact hk
  | cons c r =>
    have hz : (((c :: r).length : Int) == 0) = false := by
      have : (c :: r).length = r.length + 1 := rfl
      cases q : (((c :: r).length : Int) == 0) with
      | false => rfl
      | true => have := eq_of_beq q; omega
    by_cases hc : alg < 0 ∨ 3 ≤ alg ∨ bd < 0
    · have hk : K (.tup [.int .u32 0, .bool false]) s3 := by
        rw [elect_cons, if_pos hc] at hk
        exact hk
      simp only [h.len, List.length_map, hz, optK_mk, eqV_int, negB_mk, Bool.false_bne, boolK_false, arith_lss, arith_geq, vc_segment_Elect_j0, vc_segment_Elect_j1, vc_segment_Elect_j2]
      by_cases n0 : alg < 0 <;> by_cases n1 : 3 ≤ alg <;> by_cases n2 : bd < 0 <;> first | (exfalso; omega) | (simp only [n0, n1, n2, decide_true, decide_false, boolK_true, boolK_false, pickV_true, pickV_false, optK_mk]; exact hk)
    · have n0 : ¬ alg < 0 := by omega
      have n1 : ¬ 3 ≤ alg := by omega
      have n2 : ¬ bd < 0 := by omega
      simp only [h.len, List.length_map, hz, optK_mk, eqV_int, negB_mk, Bool.false_bne, boolK_false, arith_lss, arith_geq, vc_segment_Elect_j0, vc_segment_Elect_j1, vc_segment_Elect_j2, n0, n1, n2, decide_false, pickV_false]
      have e0 : elect alg (c :: r) bd = if ascB (c :: r) = true then ((pick alg bd c r).1, true) else (0, false) := by
        rw [elect_cons, if_neg hc]
      rw [e0] at hk
      have hlen : (c :: r).length = r.length + 1 := rfl
      have h3' := h.sub sub3
      refine ⟨fun ys s4 n => ∃ i : Nat, ys = [.int .i64 i] ∧ s4 = s3 ∧ 1 ≤ i ∧ i ≤ (c :: r).length ∧ n = (c :: r).length - i ∧ ascB (c :: r) = ascB ((c :: r).drop (i - 1)), ⟨_, 1, rfl, rfl, by omega, by omega, rfl, rfl⟩, ?_⟩
      rintro f s4 n ⟨i, hy, rfl, hi1, hi, rfl, he⟩
      simp only [List.cons.injEq, and_true] at hy
      rw [hy]
      simp only [vc_segment_Elect_l3, h.len, List.length_map, optK_mk, arith_lss]
      refine boolK_mk (fun hlt => ?_) (fun hge => ?_)
      · have hlt : i < (c :: r).length := by have := of_decide_eq_true hlt; omega
        rw [ascB_step hi1 hlt] at he
        obtain ⟨pb, po, g1, _, g2, _⟩ := slc_at h3' hlt
        obtain ⟨qb, qo, g3, _, g4, _⟩ := slc_at h3' (k := i - 1) (by omega)
        have ew : IntKind.i64.wrap ((i : Int) - 1) = ((i - 1 : Nat) : Int) := by rw [wrap64 (by omega) (by omega)]; omega
        simp only [g1, optK_mk, addOff_ptr, g2, arith_sub, ew, g3, g4, arith_leq]
        refine boolK_mk (fun hle => ?_) (fun hle => ?_)
        · have : decide ((c :: r)[i - 1].1 < (c :: r)[i].1) = false := by have := of_decide_eq_true hle; simp; omega
          rw [this, Bool.false_and] at he
          rw [he, if_neg (by simp)] at hk
          exact hk
        · have : decide ((c :: r)[i - 1].1 < (c :: r)[i].1) = true := by have := of_decide_eq_false hle; simp; omega
          rw [this, Bool.true_and] at he
          simp only [arith_add, optK_mk]
          rw [wrap64 (by omega) (by omega)]
          exact ⟨_, by omega, i + 1, by simp, by trivial, by omega, by omega, rfl, he⟩
      · have hge : i = (c :: r).length := by have := of_decide_eq_false hge; omega
        have hlast : ascB ((c :: r).drop (i - 1)) = true := by
          rw [List.drop_eq_getElem_cons (show i - 1 < (c :: r).length by omega), List.drop_eq_nil_of_le (by omega)]; rfl
        have he' : elect alg (c :: r) bd = ((pick alg bd c r).1, true) := by rw [e0, if_pos (he.trans hlast)]
        rw [he'] at hK
        clear hk
        have fin : ∀ (x : Cand), (∀ s', Sub s s' → K (.tup [.int .u32 x.1, .bool true]) s') → ∀ s', Sub s4 s' → optK (fieldD none 0 (.agg (candR x))) fun v_27 => K (.tup [v_27, .bool true]) s' := fun x hx s' hs => hx s' (sub3.trans hs)
        obtain rfl | rfl | rfl : alg = 0 ∨ alg = 1 ∨ alg = 2 := by omega
        · refine optK_of (a := .ptr t 0) rfl (optK_of (a := .fn (.func 50) [] []) (by rw [rd1_mk h3]; rfl) ?_)
          exact fn_in (by kernel_rfl) (alg1_in h3' (by omega) (fin _ hK))
        · refine optK_of (a := .ptr t 1) rfl (optK_of (a := .fn (.func 51) [] []) (by rw [rd1_mk h3]; rfl) ?_)
          exact fn_in (by kernel_rfl) (alg2_in h3' (by omega) (fin _ hK))
        · refine optK_of (a := .ptr t 2) rfl (optK_of (a := .fn (.func 54) [] []) (by rw [rd1_mk h3]; rfl) ?_)
          exact fn_in (by kernel_rfl) (alg3_in h3' (by omega) (fin _ hK))
theorem cut_sub {s0 s s2 : Heap} (h : Sub s0 s) : Sub s0 (cutH [(s, add s s2)] (add s s2)) := fun i e hi => cut_keep (h i e hi) (add_some (h i e hi))
theorem rElect_in {v : AVal} {l : List Cand} {alg bd : Int} (h : SlC s v l) (hl : l.length ≤ 1000) (hip : ∀ c ∈ l, 0 ≤ c.1 ∧ c.1 < 4294967296) (hK : ∀ s', Sub s s' → K (.tup [.int .u32 (elect alg l bd).1, .bool (elect alg l bd).2]) s') : wpCall Tryd.prog XX 17 [.int .i64 alg, v, .int .i64 bd] K s := by
  refine vc_leafmeshref25_Elect_in ?_
  have hk := hK s (.refl s)
  cases l with
  | nil =>
    simp only [vc_leafmeshref25_Elect, h.len, List.map_nil, List.length_nil, optK_mk, eqV_int, negB_mk, vc_leafmeshref25_Elect_j0, vc_leafmeshref25_Elect_j1, vc_leafmeshref25_Elect_j2]
    simp only [Int.ofNat_zero, beq_self_eq_true, Bool.false_bne, boolK_true, pickV_true, optK_mk]
    exact hk
  | cons c r =>
    have hz : (((c :: r).length : Int) == 0) = false := by
      have : (c :: r).length = r.length + 1 := rfl
      cases q : (((c :: r).length : Int) == 0) with
      | false => rfl
      | true => have := eq_of_beq q; omega
    by_cases hc : alg < 0 ∨ 3 ≤ alg ∨ bd < 0
    · have hk : K (.tup [.int .u32 0, .bool false]) s := by
        rw [elect_cons, if_pos hc] at hk
        exact hk
      simp only [vc_leafmeshref25_Elect, h.len, List.length_map, hz, optK_mk, eqV_int, negB_mk, Bool.false_bne, boolK_false, arith_lss, arith_gtr, vc_leafmeshref25_Elect_j0, vc_leafmeshref25_Elect_j1, vc_leafmeshref25_Elect_j2]
      by_cases n0 : alg < 0 <;> by_cases n1 : 2 < alg <;> by_cases n2 : bd < 0 <;> first | (exfalso; omega) | (simp only [n0, n1, n2, decide_true, decide_false, boolK_true, boolK_false, pickV_true, pickV_false, optK_mk]; exact hk)
    · have n0 : ¬ alg < 0 := by omega
      have n1 : ¬ 2 < alg := by omega
      have n2 : ¬ bd < 0 := by omega
      simp only [vc_leafmeshref25_Elect, h.len, List.length_map, hz, optK_mk, eqV_int, negB_mk, Bool.false_bne, boolK_false, arith_lss, arith_gtr, vc_leafmeshref25_Elect_j0, vc_leafmeshref25_Elect_j1, vc_leafmeshref25_Elect_j2, n0, n1, n2, decide_false, pickV_false]
      have e0 : elect alg (c :: r) bd = if ascB (c :: r) = true then ((pick alg bd c r).1, true) else (0, false) := by
        rw [elect_cons, if_neg hc]
      clear hk
      have hlen : (c :: r).length = r.length + 1 := rfl
      refine ⟨fun ys s4 n => ∃ (q : Nat) (i : Nat) (hq : q < (c :: r).length), ys = [.int .i64 q, .int .i64 i] ∧ Sub s s4 ∧ 1 ≤ i ∧ i ≤ (c :: r).length ∧ n = (c :: r).length - i ∧ ascB (c :: r) = ascB ((c :: r).drop (i - 1)) ∧
        (alg = 1 → grt (fun c => wt c.1 bd) c r = grt (fun c => wt c.1 bd) (c :: r)[q] ((c :: r).drop i)) ∧ (alg = 2 → grt (fun c => c.2) c r = grt (fun c => c.2) (c :: r)[q] ((c :: r).drop i)), ⟨_, 0, 1, by omega, rfl, .refl s, by omega, by omega, rfl, rfl, fun _ => rfl, fun _ => rfl⟩, ?_⟩
      rintro f s4 n ⟨q, i, hq, hy, sub4, hi1, hi, rfl, he, hw, hp⟩
      simp only [List.cons.injEq, and_true] at hy
      rw [hy.1, hy.2]
      have h4 := h.sub sub4
      simp only [vc_leafmeshref25_Elect_l3, h.len, List.length_map, optK_mk, arith_lss]
      refine boolK_mk (fun hlt => ?_) (fun hge => ?_)
      · have hlt : i < (c :: r).length := by have := of_decide_eq_true hlt; omega
        rw [ascB_step hi1 hlt] at he
        obtain ⟨pb, po, g1, _, g2, g2'⟩ := slc_at h4 hlt
        obtain ⟨qb, qo, g3, _, g4, _⟩ := slc_at h4 (k := i - 1) (by omega)
        obtain ⟨rb, ro, g5, _, g6, g6'⟩ := slc_at h4 hq
        have ew : IntKind.i64.wrap ((i : Int) - 1) = ((i - 1 : Nat) : Int) := by rw [wrap64 (by omega) (by omega)]; omega
        simp only [g1, optK_mk, addOff_ptr, g2, arith_sub, ew, g3, g4, arith_leq]
        refine boolK_mk (fun hle => ?_) (fun hle => ?_)
        · have : decide ((c :: r)[i - 1].1 < (c :: r)[i].1) = false := by have := of_decide_eq_true hle; simp; omega
          rw [this, Bool.false_and] at he
          have e1 : elect alg (c :: r) bd = (0, false) := by rw [e0, he, if_neg (by simp)]
          rw [e1] at hK
          exact hK _ sub4
        · have : decide ((c :: r)[i - 1].1 < (c :: r)[i].1) = true := by have := of_decide_eq_false hle; simp; omega
          rw [this, Bool.true_and] at he
          have w1 : arithV .add (.int .i64 (i : Int)) (.int .i64 1) = some (.int .i64 ((i + 1 : Nat) : Int)) := by
            rw [arith_add, wrap64 (by omega) (by omega)]
            rfl
          have dropi : (c :: r).drop i = (c :: r)[i] :: (c :: r).drop (i + 1) := List.drop_eq_getElem_cons hlt
          rw [dropi] at hw hp
          have wi := hip _ (List.getElem_mem hlt)
          have wq := hip _ (List.getElem_mem hq)
          simp only [eqV_int, negB_mk, Bool.false_bne, optK_mk]
          obtain rfl | rfl | rfl : alg = 0 ∨ alg = 1 ∨ alg = 2 := by omega
          · simp only [show ((0 : Int) == 1) = false from rfl, show ((0 : Int) == 2) = false from rfl, boolK_false, pickV_false, optK_mk, vc_leafmeshref25_Elect_j8, vc_leafmeshref25_Elect_j9, w1]
            exact ⟨_, by omega, q, i + 1, hq, rfl, sub4, by omega, by omega, rfl, he, fun e => by omega, fun e => by omega⟩
          · simp only [show ((1 : Int) == 1) = true from rfl, show ((1 : Int) == 2) = false from rfl, boolK_true, g1, addOff_ptr, g2, optK_mk]
            refine rWeight_in wi fun s5 sub5 _ => ?_
            have h5 := h.sub (cut_sub (s2 := s5) sub4)
            obtain ⟨rb', ro', k1, _, k2, _⟩ := slc_at h5 hq
            rw [g5] at k1
            cases k1
            simp only [g5, optK_mk, addOff_ptr, k2]
            refine rWeight_in wq fun s6 sub6 => ?_
            have sub6 : Sub s s6 := (sub4.trans sub_add).trans sub6
            have hw := hw rfl
            rw [grt_cons] at hw
            simp only [arith_gtr, optK_mk, pickV_true]
            refine boolK_mk (fun hg => ?_) (fun hg => ?_)
            · rw [hg]
              rw [if_pos (of_decide_eq_true hg)] at hw
              simp only [pickV_true, optK_mk, boolK_true, vc_leafmeshref25_Elect_j4, w1]
              exact ⟨_, by omega, i, i + 1, hlt, rfl, sub6, by omega, by omega, rfl, he, fun _ => hw, fun e => by omega⟩
            · rw [hg]
              rw [if_neg (of_decide_eq_false hg)] at hw
              simp only [pickV_false, optK_mk, boolK_false, vc_leafmeshref25_Elect_j6, w1]
              exact ⟨_, by omega, q, i + 1, hq, rfl, sub6, by omega, by omega, rfl, he, fun _ => hw, fun e => by omega⟩
          · have hp := hp rfl
            rw [grt_cons] at hp
            simp only [show ((2 : Int) == 1) = false from rfl, show ((2 : Int) == 2) = true from rfl, boolK_false, boolK_true, pickV_false, pickV_true, optK_mk, vc_leafmeshref25_Elect_j8, vc_leafmeshref25_Elect_j9, g1, addOff_ptr, g2', g5, g6', arith_gtr, w1]
            refine boolK_mk (fun hg => ?_) (fun hg => ?_)
            · rw [if_pos (of_decide_eq_true hg)] at hp
              exact ⟨_, by omega, i, i + 1, hlt, rfl, sub4, by omega, by omega, rfl, he, fun e => by omega, fun _ => hp⟩
            · rw [if_neg (of_decide_eq_false hg)] at hp
              exact ⟨_, by omega, q, i + 1, hq, rfl, sub4, by omega, by omega, rfl, he, fun e => by omega, fun _ => hp⟩
      · have hge : i = (c :: r).length := by have := of_decide_eq_false hge; omega
        have hlast : ascB ((c :: r).drop (i - 1)) = true := by
          rw [List.drop_eq_getElem_cons (show i - 1 < (c :: r).length by omega), List.drop_eq_nil_of_le (by omega)]; rfl
        have he' : elect alg (c :: r) bd = ((pick alg bd c r).1, true) := by rw [e0, if_pos (he.trans hlast)]
        rw [he'] at hK
        have dropi : (c :: r).drop i = [] := List.drop_eq_nil_of_le (by omega)
        rw [dropi] at hw hp
        simp only [eqV_int, negB_mk, Bool.false_bne, optK_mk]
        obtain ⟨rb, ro, g5, _, g6, _⟩ := slc_at h4 hq
        obtain rfl | rfl | rfl : alg = 0 ∨ alg = 1 ∨ alg = 2 := by omega
        · have hpos : ((c :: r).length : Int) ≠ 0 := by omega
          have h0 := Int.emod_nonneg bd hpos
          have hlt := Int.emod_lt_of_pos bd (show (0 : Int) < (c :: r).length by omega)
          have e1 : bd.tmod ((c :: r).length : Int) = ((bd % ((c :: r).length : Int)).toNat : Nat) := by rw [Int.tmod_eq_emod_of_nonneg (by omega), Int.toNat_of_nonneg h0]
          have hkk : (bd % ((c :: r).length : Int)).toNat < (c :: r).length := by omega
          obtain ⟨qb, qo, g3, _, g4, _⟩ := slc_at h4 hkk
          simp only [show ((0 : Int) == 0) = true from rfl, boolK_true, arith_rem hpos, e1, optK_mk, vc_leafmeshref25_Elect_j10, g3, addOff_ptr, g4]
          have := hK _ sub4
          unfold pick at this
          rw [if_pos rfl, List.getElem?_eq_getElem hkk, Option.getD_some] at this
          exact this
        · simp only [show ((1 : Int) == 0) = false from rfl, boolK_false, vc_leafmeshref25_Elect_j10, g5, optK_mk, addOff_ptr, g6]
          have := hK _ sub4
          unfold pick at this
          rw [if_neg (by decide), if_pos rfl, hw rfl] at this
          exact this
        · simp only [show ((2 : Int) == 0) = false from rfl, boolK_false, vc_leafmeshref25_Elect_j10, g5, optK_mk, addOff_ptr, g6]
          have := hK _ sub4
          unfold pick at this
          rw [if_neg (by decide), if_neg (by decide), hp rfl] at this
          exact this
end Go.AM
namespace Go.AM
open Go Go.Proofs
variable {K : AVal → Heap → Prop} {s : Heap}
theorem OwnC_in {v : AVal} {l : List Cand} (h : SlC s v l) (hl : l.length ≤ 1000000) (hK : ∀ v' s', Sub s s' → SlC s' v' l → K v' s') : wpCall Tryd.prog XX 15 [v] K s := by
  refine vc_leafmeshkit_Own_api_Candidate__in ?_
  refine optK_of (a := []) rfl ⟨rfl, new_step fun b s1 hb h1 u1 => ?_⟩
  exact app_copyR (h.sub (u1.sub hb)) (by simp; omega) fun v' s2 sub2 g1 _ => hK _ _ ((u1.sub hb).trans sub2) g1
theorem eqC (a b : Cand) : eqAgg Tryd.prog 35 (.agg (candR a)) (.agg (candR b)) = some (a == b) := by
  have : eqAgg Tryd.prog 35 (.agg (candR a)) (.agg (candR b)) = cond (eqI a.1 b.1) (cond (eqI a.2 b.2) (some true) (some false)) (some false) := by kernel_rfl
  rw [this, eqI_eq, eqI_eq]
  obtain ⟨a1, a2⟩ := a
  obtain ⟨b1, b2⟩ := b
  show _ = some (a1 == b1 && a2 == b2)
  cases a1 == b1 <;> cases a2 == b2 <;> rfl
theorem SameC_in {v v' : AVal} {l m : List Cand} (h : SlC s v l) (h' : SlC s v' m) (hl : l.length ≤ 1000000) (hK : K (.bool (l == m)) s) : wpCall Tryd.prog XX 10 [v, v'] K s := by
  refine vc_leafmeshkit_Same_api_Candidate__in ?_
  simp only [vc_leafmeshkit_Same_api_Candidate_, h.len, h'.len, optK_mk, eqV_int, negB_mk, List.length_map, Bool.true_bne]
  refine boolK_mk (fun hne => ?_) (fun heq => ?_)
  · have : (l == m) = false := by
      cases q : (l == m) with
      | false => rfl
      | true => rw [eq_of_beq q] at hne; simp at hne
    rw [← this]; exact hK
  · have hlm : l.length = m.length := by
      have : (l.length : Int) = m.length := by simpa using heq
      omega
    refine ⟨fun ys s1 n => ∃ k : Nat, ys = [.int .i64 k] ∧ s1 = s ∧ k ≤ l.length ∧ n = l.length - k ∧ (l == m) = (l.drop k == m.drop k), ⟨_, 0, rfl, rfl, by omega, rfl, by simp⟩, ?_⟩
    rintro f s1 n ⟨k, hy, rfl, hk, rfl, he⟩
    simp only [List.cons.injEq, and_true] at hy
    rw [hy]
    simp only [vc_leafmeshkit_Same_api_Candidate__l0, h.len, optK_mk, arith_lss, List.length_map]
    refine boolK_mk (fun hlt => ?_) (fun hge => ?_)
    · have hlt : k < l.length := by have := of_decide_eq_true hlt; omega
      obtain ⟨pb, po, g1, g2, _, _⟩ := slc_at h hlt
      obtain ⟨qb, qo, g3, g4, _, _⟩ := slc_at h' (k := k) (by omega)
      rw [List.drop_eq_getElem_cons hlt, List.drop_eq_getElem_cons (show k < m.length by omega), List.cons_beq_cons] at he
      simp only [g1, g2, g3, g4, optK_mk, eqC, negB_mk, Bool.true_bne]
      cases hq : (l[k] == m[k]) with
      | false =>
        rw [hq, Bool.false_and] at he; rw [he] at hK
        simp only [Bool.not_false, boolK_true]; exact hK
      | true =>
        rw [hq, Bool.true_and] at he
        simp only [Bool.not_true, boolK_false, arith_add, optK_mk]
        rw [wrap64 (by omega) (by omega)]
        exact ⟨_, by omega, k + 1, by simp, by trivial, by omega, rfl, he⟩
    · have hge : l.length ≤ k := by have := of_decide_eq_false hge; omega
      rw [List.drop_eq_nil_of_le hge, List.drop_eq_nil_of_le (by omega)] at he
      rw [he] at hK; exact hK
/-! ### the law -/
abbrev glob0 (s : Heap) : Prop := s 0 = some (true, .glob 0 (.agg kindsL))
theorem awake_in (h : glob0 s) : wpCall Tryd.prog XX 6 [] (fun v _ => v = .bool true) s := wp_closedG (t := true) rfl rfl h rfl
theorem SE_in {alg bd ip : Int} {v : AVal} {l : List Cand} (hg : glob0 s) (h : SlC s v l) (hip : ∀ c ∈ l, 0 ≤ c.1 ∧ c.1 < 4294967296) (hi : 0 ≤ ip ∧ ip < 4294967296) : wpCall Tryd.prog XX 4 [.int .i64 alg, v, .int .i64 bd, .int .u32 ip] (fun v _ => v = .bool true) s := by
  refine vc_leafmeshlaw25_SegmentElect_in ?_
  simp only [vc_leafmeshlaw25_SegmentElect, h.len, optK_mk, arith_gtr, List.length_map]
  refine boolK_mk (fun _ => awake_in hg) fun hlen => ?_
  have hlen : l.length ≤ 100 := by have := of_decide_eq_false hlen; omega
  refine OwnC_in h (by omega) fun v' s1 sub1 h1 => ?_
  refine Elect_in h1 (by omega) fun s2 sub2 => ?_
  simp only [extract_mk, List.getElem?_cons_zero, List.getElem?_cons_succ, optK_mk]
  refine rElect_in (h.sub (sub1.trans sub2)) (by omega) hip fun s3 sub3 => ?_
  simp only [extract_mk, List.getElem?_cons_zero, List.getElem?_cons_succ, optK_mk, eqV_int, eqV_bool, beq_self_eq_true, negB_mk, Bool.false_bne, boolK_true, vc_leafmeshlaw25_SegmentElect_j0, pickV_true]
  refine Weight_in fun s4 sub4 => rWeight_in hi fun s5 sub5 => ?_
  simp only [eqV_int, beq_self_eq_true, negB_mk, Bool.false_bne, boolK_true, optK_mk, vc_leafmeshlaw25_SegmentElect_j1, pickV_true]
  have sub14 := (sub2.trans sub3).trans (sub4.trans sub5)
  refine SameC_in (h1.sub sub14) (h.sub (sub1.trans sub14)) (by omega) ?_
  simp only [beq_self_eq_true, optK_mk, boolK_true, vc_leafmeshlaw25_SegmentElect_j2, pickV_true]
  refine (awake_in ((sub1.trans sub14) _ _ hg)).mono fun v _ hv => ?_
  subst hv
  rfl
set_option maxRecDepth 100000 in
theorem cand_inp {d : Nat} {xs : List AVal} (h : Inp Tryd.prog s (d + 2) 35 xs) : ∃ c : Cand, xs = candR c ∧ (0 ≤ c.1 ∧ c.1 < 4294967296) := by
  unfold Inp at h
  simp only [Tryd.underlying35] at h
  obtain ⟨h1, h2⟩ := h
  rw [show Tryd.prog.cellsOf 35 = 2 by kernel_rfl] at h1
  have k0 := h2 _ (List.mem_cons_self)
  have k1 := h2 _ (List.mem_cons_of_mem _ List.mem_cons_self)
  match xs, h1 with
  | [a, b], _ =>
    obtain ⟨n, e1, hn⟩ := inp_int (xs := [a]) Tryd.underlying33 k0
    obtain ⟨q, e2, _⟩ := inp_int (xs := [b]) Tryd.underlying3 k1
    cases e1; cases e2
    refine ⟨(n, q), rfl, ?_⟩
    unfold Lit.wf at hn
    have : IntKind.min .u32 ≤ n ∧ n ≤ IntKind.max .u32 := by simpa using hn
    have : 0 ≤ n ∧ n ≤ 4294967295 := by simpa [IntKind.min, IntKind.max, IntKind.bits, IntKind.signed] using this
    exact ⟨this.1, show n < 4294967296 by omega⟩
set_option maxRecDepth 100000 in
theorem SE_wp (s : Heap) (xs : List AVal) (hg : glob0 s) (h : ArgL Tryd.prog s 40 [3, 28, 3, 33] xs) : wpCall Tryd.prog XX 4 xs (fun v _ => v = .bool true) s := by
  obtain ⟨a, b, c, e, rfl, h1, h2, h3, h4⟩ := argl4 h
  obtain ⟨alg, rfl, _⟩ := arg_int (d := 39) Tryd.underlying3 h1
  obtain ⟨bd, rfl, _⟩ := arg_int (d := 39) Tryd.underlying3 h3
  obtain ⟨ip, rfl, hn⟩ := arg_int (d := 39) Tryd.underlying33 h4
  obtain ⟨l, hl, hq, _⟩ := argR (d := 39) Tryd.underlying28 candR (fun c => 0 ≤ c.1 ∧ c.1 < 4294967296) (fun a => by rw [show Tryd.prog.cellsOf 35 = 2 by kernel_rfl]; rfl) (fun xs h => cand_inp (d := 37) h) h2
  rw [show Tryd.prog.cellsOf 35 = 2 by kernel_rfl] at hl
  have hi : 0 ≤ ip ∧ ip < 4294967296 := by
    unfold Lit.wf at hn
    have : IntKind.min .u32 ≤ ip ∧ ip ≤ IntKind.max .u32 := by simpa using hn
    have : 0 ≤ ip ∧ ip ≤ 4294967295 := by simpa [IntKind.min, IntKind.max, IntKind.bits, IntKind.signed] using this
    exact ⟨this.1, by omega⟩
  exact SE_in hg hl hq hi
end Go.AM
