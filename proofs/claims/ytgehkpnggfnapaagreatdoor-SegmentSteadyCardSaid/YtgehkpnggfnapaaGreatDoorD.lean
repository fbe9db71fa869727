/- Part D of a calculus over a small memory that is proved to answer as the program does, and of its use for the functions that the law reaches: see the last part. -/
import Derived.Test.YtgehkpnggfnapaaGreatDoorV
import Derived.Test.YtgehkpnggfnapaaGreatDoorU2
namespace Go.AM
open Go Go.Proofs
variable {K : AVal → Heap → Prop} {s : Heap}
/-! ### weights -/
theorem allOne_ints {k : IntKind} : ∀ l : List Int, allOne (l.map (AVal.int k)) = true
  | [] => rfl
  | _ :: l => by rw [List.map_cons, allOne_cons, allOne_ints l]; rfl
def xorU (x y : Int) : Int := wrapK .u64 ((BitVec.ofInt (IntKind.bits .u64) x ^^^ BitVec.ofInt (IntKind.bits .u64) y).toNat : Nat)
theorem arith_xor64 {x y : Int} : arithV .xor (.int .u64 x) (.int .u64 y) = some (.int .u64 (xorU x y)) := by simp [arithV, arith, frc_eq, xorU]
def fnvStep (h b : Int) : Int := IntKind.u64.wrap (xorU h (wrapK .u64 b) * 1099511628211)
def fnv : Int → List Int → Int
  | h, [] => h
  | h, b :: r => fnv (fnvStep h b) r
theorem fnv_cons (h b : Int) (r : List Int) : fnv h (b :: r) = fnv (fnvStep h b) r := rfl
theorem wu8 (n : Int) : wrapK .u8 n = n % 256 := by
  simp only [wrapK]; rw [wrapM_eq _ _ _ (by omega) (by omega)]; split <;> omega
theorem wu32 (n : Int) : wrapK .u32 n = n % 4294967296 := by
  simp only [wrapK]; rw [wrapM_eq _ _ _ (by omega) (by omega)]; split <;> omega
theorem wu64 (n : Int) : wrapK .u64 n = n % 18446744073709551616 := by
  simp only [wrapK]; rw [wrapM_eq _ _ _ (by omega) (by omega)]; split <;> omega
def b4 (n : Int) : List Int := [wrapK .u8 (n.fdiv 16777216), wrapK .u8 (n.fdiv 65536), wrapK .u8 (n.fdiv 256), wrapK .u8 n]
theorem b4_mod (n : Int) : b4 (wrapK .u32 n) = b4 (wrapK .u64 n) := by
  unfold b4
  simp only [wu8, wu32, wu64]
  rw [Int.fdiv_eq_ediv_of_nonneg _ (by omega), Int.fdiv_eq_ediv_of_nonneg _ (by omega), Int.fdiv_eq_ediv_of_nonneg _ (by omega), Int.fdiv_eq_ediv_of_nonneg _ (by omega), Int.fdiv_eq_ediv_of_nonneg _ (by omega), Int.fdiv_eq_ediv_of_nonneg _ (by omega)]
  simp only [List.cons.injEq, and_true]
  refine ⟨?_, ?_, ?_, ?_⟩ <;> omega
theorem b4_ip {n : Int} (h : 0 ≤ n ∧ n < 4294967296) : b4 (wrapK .u64 n) = b4 n := by
  rw [wu64, show n % 18446744073709551616 = n by omega]
def wt (ip bd : Int) : Int := fnv 14695981039346656037 (b4 ip ++ b4 (wrapK .u32 bd))
theorem shr32_24 {m : Int} : shiftV .shr (.int .u32 m) (.int .u64 24) = some (.int .u32 (m.fdiv 16777216)) := by
  show frc (m.fdiv ((2 ^ (min 24 (IntKind.bits .u32)) : Nat) : Int)) (fun n => some (AVal.int .u32 n)) = _
  rw [frc_eq]; rfl
theorem shr32_16 {m : Int} : shiftV .shr (.int .u32 m) (.int .u64 16) = some (.int .u32 (m.fdiv 65536)) := by
  show frc (m.fdiv ((2 ^ (min 16 (IntKind.bits .u32)) : Nat) : Int)) (fun n => some (AVal.int .u32 n)) = _
  rw [frc_eq]; rfl
theorem shr32_8 {m : Int} : shiftV .shr (.int .u32 m) (.int .u64 8) = some (.int .u32 (m.fdiv 256)) := by
  show frc (m.fdiv ((2 ^ (min 8 (IntKind.bits .u32)) : Nat) : Int)) (fun n => some (AVal.int .u32 n)) = _
  rw [frc_eq]; rfl
theorem shr64_24 {m : Int} : shiftV .shr (.int .u64 m) (.int .u64 24) = some (.int .u64 (m.fdiv 16777216)) := by
  show frc (m.fdiv ((2 ^ (min 24 (IntKind.bits .u64)) : Nat) : Int)) (fun n => some (AVal.int .u64 n)) = _
  rw [frc_eq]; rfl
theorem shr64_16 {m : Int} : shiftV .shr (.int .u64 m) (.int .u64 16) = some (.int .u64 (m.fdiv 65536)) := by
  show frc (m.fdiv ((2 ^ (min 16 (IntKind.bits .u64)) : Nat) : Int)) (fun n => some (AVal.int .u64 n)) = _
  rw [frc_eq]; rfl
theorem shr64_8 {m : Int} : shiftV .shr (.int .u64 m) (.int .u64 8) = some (.int .u64 (m.fdiv 256)) := by
  show frc (m.fdiv ((2 ^ (min 8 (IntKind.bits .u64)) : Nat) : Int)) (fun n => some (AVal.int .u64 n)) = _
  rw [frc_eq]; rfl
theorem convI_mk {k k' : IntKind} {n : Int} : convI k (.int k' n) = some (.int k (wrapK k n)) := rfl
theorem index8 {cs : List AVal} {k : Nat} (hk : k < 8) : indexD 8 1 none (.agg cs) (.int .i64 (k : Int)) = cs[k]? := by
  have : Nat.blt k 8 = true := by rw [Nat.blt_eq]; exact hk
  simp [indexD, partD, this]
theorem fill8 {x0 x1 x2 x3 x4 x5 x6 x7 : Int} : fillR [.int .u8 0, .int .u8 0, .int .u8 0, .int .u8 0, .int .u8 0, .int .u8 0, .int .u8 0, .int .u8 0] [(0, 1, .int .u8 x0), (1, 1, .int .u8 x1), (2, 1, .int .u8 x2), (3, 1, .int .u8 x3), (4, 1, .int .u8 x4), (5, 1, .int .u8 x5), (6, 1, .int .u8 x6), (7, 1, .int .u8 x7)] = some [.int .u8 x0, .int .u8 x1, .int .u8 x2, .int .u8 x3, .int .u8 x4, .int .u8 x5, .int .u8 x6, .int .u8 x7] := by kernel_rfl
theorem fill8' {x0 x1 x2 x3 x4 x5 x6 x7 : Int} : fillR (repl 8 [.int .u8 0]) [(0, 1, .int .u8 x0), (1, 1, .int .u8 x1), (2, 1, .int .u8 x2), (3, 1, .int .u8 x3), (4, 1, .int .u8 x4), (5, 1, .int .u8 x5), (6, 1, .int .u8 x6), (7, 1, .int .u8 x7)] = some [.int .u8 x0, .int .u8 x1, .int .u8 x2, .int .u8 x3, .int .u8 x4, .int .u8 x5, .int .u8 x6, .int .u8 x7] := by kernel_rfl
theorem map_b4 (a b : Int) : (b4 a ++ b4 b).map (AVal.int .u8) = [.int .u8 (wrapK .u8 (a.fdiv 16777216)), .int .u8 (wrapK .u8 (a.fdiv 65536)), .int .u8 (wrapK .u8 (a.fdiv 256)), .int .u8 (wrapK .u8 a), .int .u8 (wrapK .u8 (b.fdiv 16777216)), .int .u8 (wrapK .u8 (b.fdiv 65536)), .int .u8 (wrapK .u8 (b.fdiv 256)), .int .u8 (wrapK .u8 b)] := rfl
theorem hash_in {bs : List Int} (h8 : bs.length = 8) (hK : ∀ s', Sub s s' → K (.int .u64 (fnv 14695981039346656037 bs)) s') : wpCall Tryz.prog XX 118 [.agg (bs.map (AVal.int .u8))] K s := by
  refine vc_segment_octets_hash_in ⟨allOne_ints bs, new_step fun b s1 hb h1 u1 => ?_⟩
  refine optK_of (a := bs.map (AVal.int .u8)) (rdN_all h1 (by simp [h8])) ?_
  refine ⟨fun ys s2 n => ∃ (h : Int) (k : Nat), ys = [.int .u64 h, .int .i64 k] ∧ s2 = s1 ∧ k ≤ 8 ∧ n = 8 - k ∧ fnv 14695981039346656037 bs = fnv h (bs.drop k), ⟨_, _, 0, rfl, rfl, by omega, rfl, by simp⟩, ?_⟩
  rintro f s2 n ⟨h, k, hy, rfl, hk, rfl, he⟩
  simp only [List.cons.injEq, and_true] at hy
  rw [hy.1, hy.2]
  simp only [vc_segment_octets_hash_l0, arith_lss, optK_mk]
  refine boolK_mk (fun hlt => ?_) (fun hge => ?_)
  · have hlt : k < 8 := by have := of_decide_eq_true hlt; omega
    have hk2 : k < bs.length := by omega
    rw [List.drop_eq_getElem_cons hk2, fnv_cons] at he
    simp only [index8 hlt, List.getElem?_map, List.getElem?_eq_getElem hk2, Option.map_some, optK_mk, convI_mk, arith_xor64, arith_mul, arith_add]
    rw [wrap64 (by omega) (by omega)]
    exact ⟨_, by omega, fnvStep h bs[k], k + 1, by simp [fnvStep], by trivial, by omega, rfl, he⟩
  · have hge : 8 ≤ k := by have := of_decide_eq_false hge; omega
    rw [List.drop_eq_nil_of_le (by omega)] at he
    have := hK _ (u1.sub hb)
    rw [he] at this
    exact this
theorem Weight_in {ip bd : Int} (hK : ∀ s', Sub s s' → K (.int .u64 (wt ip bd)) s') : wpCall Tryz.prog XX 80 [.int .u32 ip, .int .i64 bd] K s := by
  refine vc_segment_Weight_in ?_
  simp only [vc_segment_Weight, convI_mk, shr32_24, shr32_16, shr32_8, optK_mk, fill8]
  rw [← map_b4]
  exact hash_in rfl hK
theorem rWeight_in {ip bd : Int} (hip : 0 ≤ ip ∧ ip < 4294967296) (hK : ∀ s', Sub s s' → K (.int .u64 (wt ip bd)) s') : wpCall Tryz.prog XX 93 [.int .u32 ip, .int .i64 bd] K s := by
  refine vc_leafmeshref25_Weight_in ?_
  simp only [vc_leafmeshref25_Weight, convI_mk, shr64_24, shr64_16, shr64_8, optK_mk, fill8']
  rw [← map_b4]
  have hb : b4 (wrapK .u64 ip) ++ b4 (wrapK .u64 bd) = b4 ip ++ b4 (wrapK .u32 bd) := by rw [b4_ip hip, b4_mod]
  refine ⟨allOne_ints _, new_step fun b s1 hb1 h1 u1 => ?_⟩
  rw [hb] at h1
  have hK' := hK _ (u1.sub hb1)
  unfold wt at hK'
  have h8 : (b4 ip ++ b4 (wrapK .u32 bd)).length = 8 := rfl
  revert h1 hK' h8
  generalize b4 ip ++ b4 (wrapK .u32 bd) = bs
  intro h1 hK' h8
  have hs : Sl s1 (.slc b 0 8 (some 8) 1) (bs.map (AVal.int .u8)) := Sl.mk h1 (by simp [h8]) (by simp [h8])
  refine ⟨fun ys s2 n => ∃ (h : Int) (k : Nat), ys = [.int .u64 h, .int .i64 k] ∧ s2 = s1 ∧ k ≤ 8 ∧ n = 8 - k ∧ fnv 14695981039346656037 bs = fnv h (bs.drop k), ⟨_, _, 0, rfl, rfl, by omega, rfl, by simp⟩, ?_⟩
  rintro f s2 n ⟨h, k, hy, rfl, hk, rfl, he⟩
  simp only [List.cons.injEq, and_true] at hy
  rw [hy.1, hy.2]
  simp only [vc_leafmeshref25_Weight_l0, lenOf_slc, arith_lss, optK_mk]
  refine boolK_mk (fun hlt => ?_) (fun hge => ?_)
  · have hlt : k < 8 := by
      have := of_decide_eq_true hlt
      omega
    have hk2 : k < bs.length := by omega
    rw [List.drop_eq_getElem_cons hk2, fnv_cons] at he
    obtain ⟨p, g1, g2⟩ := hs.get (i := k) (by simpa using hk2)
    simp only [g1, g2, List.getElem?_map, List.getElem?_eq_getElem hk2, Option.map_some, optK_mk, convI_mk, arith_xor64, arith_mul, arith_add]
    rw [wrap64 (by omega) (by omega)]
    exact ⟨_, by omega, fnvStep h bs[k], k + 1, by simp [fnvStep], by trivial, by omega, rfl, he⟩
  · have hge : 8 ≤ k := by
      have := of_decide_eq_false hge
      omega
    rw [List.drop_eq_nil_of_le (by omega)] at he
    rw [he] at hK'
    exact hK'
end Go.AM
namespace Go.AM
open Go Go.Proofs
variable {K : AVal → Heap → Prop} {s : Heap}
/-! ### candidates: an address and a preference -/
abbrev Cand := Int × Int
def candR (c : Cand) : List AVal := [.int .u32 c.1, .int .i64 c.2]
abbrev SlC (s : Heap) (v : AVal) (l : List Cand) : Prop := SlR 2 s v (l.map candR)
theorem Sub.upto {s s' s'' : Heap} {b : Nat} (h : Sub s s') (u : Upto b s' s'') (hb : s b = none) : Sub s s'' := fun i e hi => by rw [u i (ne_of_some hb hi)]; exact h i e hi
theorem candR_len (l : List Cand) : ∀ r ∈ l.map candR, r.length = 2 := fun r hr => by obtain ⟨c, _, rfl⟩ := List.mem_map.1 hr; rfl
theorem slc_at {v : AVal} {l : List Cand} (h : SlC s v l) {k : Nat} (hk : k < l.length) : ∃ b o, iaddrS 2 v (.int .i64 (k : Int)) = some (.ptr b o) ∧ rdN s 2 (.ptr b o) = some (candR l[k]) ∧ rd1 s (.ptr b (o + 0)) = some (.int .u32 l[k].1) ∧ rd1 s (.ptr b (o + 1)) = some (.int .i64 l[k].2) := by
  obtain ⟨b, o, h1, h2, h3⟩ := h.get (i := k) (r := candR l[k]) (by simp [hk])
  exact ⟨b, o, h1, h2, h3 0 (by omega), h3 1 (by omega)⟩
def grt (key : Cand → Int) : Cand → List Cand → Cand
  | b, [] => b
  | b, x :: r => if key b < key x then grt key x r else grt key b r
theorem grt_cons (key : Cand → Int) (b x : Cand) (r : List Cand) : grt key b (x :: r) = if key b < key x then grt key x r else grt key b r := rfl
/-- a block that a function value holds -/
def Held (o : Option (Nat × List AVal)) (s : Heap) : Prop := ∀ q cs, o = some (q, cs) → ∃ t e, s q = some (t, .cells e cs)
theorem Held.sub {o : Option (Nat × List AVal)} {s s' : Heap} (h : Held o s) (hs : Sub s s') : Held o s' := fun q cs e => by
  obtain ⟨t, e, h1⟩ := h q cs e
  exact ⟨t, e, hs _ _ h1⟩
theorem Held.frz {o : Option (Nat × List AVal)} {s : Heap} (h : Held o s) : Held o (AM.frz s) := fun q cs e => by
  obtain ⟨t, e, h1⟩ := h q cs e
  exact ⟨true, e, frz_some h1⟩
theorem great64_in {key : Cand → Int} {kv : AVal} {o : Option (Nat × List AVal)} {v : AVal} {c : Cand} {l : List Cand} (h : SlC s v (c :: l)) (hl : l.length ≤ 1000) (ho : Held o s)
    (hkey : ∀ (x : Cand) (s' : Heap) (K : AVal → Heap → Prop), Held o s' → (∀ s'', Sub s' s'' → K (.int .u64 (key x)) s'') → funK Tryz.prog XX kv [.agg (candR x)] K s')
    (hK : ∀ s', Sub s s' → K (.agg (candR (grt key c l))) s') : wpCall Tryz.prog XX 78 [v, kv] K s := by
  refine vc_segment_greatest_api_Candidate_uint64__in (new_step fun b0 s1 hb0 h1 u1 => ?_)
  have sub1 := u1.sub hb0
  obtain ⟨pb, po, g1, g2, _, _⟩ := slc_at (h.sub sub1) (k := 0) (by simp)
  have g1 : iaddrS 2 v (.int .i64 0) = some (.ptr pb po) := g1
  simp only [g1, g2, optK_mk]
  refine hkey c _ _ ((ho.sub sub1).frz) fun s2 sub2 _ => ?_
  refine newM (l := [(s1, add s1 s2)]) fun b8 s3 hb8 h8 u8 => ?_
  refine wrAgg_step h8 rfl rfl rfl fun s4 h4 u4 => ?_
  obtain ⟨v', d1, d2, _⟩ := h.drop (k := 1) (by simp) (by simp)
  have d1 : sliceS 2 v (some (.int .i64 1)) none none = some v' := d1
  have d2 : SlC s v' l := d2
  simp only [d1, optK_mk, d2.len, List.length_map]
  have subA : Sub s (add s1 s2) := sub1.trans sub_add
  have hb8s : s b8 = none := by
    cases e : s b8 with
    | none => rfl
    | some x => rw [subA b8 x e] at hb8; cases hb8
  have sub4 : Sub s s4 := (subA.trans sub_add).upto u4 hb8s
  have hne : b0 ≠ b8 := by
    rintro rfl
    rw [show add s1 s2 b0 = _ from add_some h1] at hb8; cases hb8
  have h04 : s4 b0 = some (false, .cells 36 [.int .u32 0, .int .i64 0]) := by
    rw [u4 b0 hne]; exact sub_add b0 _ (add_some h1)
  refine ⟨fun ys s5 n => ∃ (b : Cand) (k : Nat), ys = [.int .u64 (key b), .int .i64 k] ∧ k ≤ l.length ∧ n = l.length - k ∧ grt key c l = grt key b (l.drop k) ∧ s5 b8 = some (false, .cells 36 (candR b)) ∧ (∃ cs, cs.length = 2 ∧ s5 b0 = some (false, .cells 36 cs)) ∧ Sub s s5, ⟨_, c, 0, rfl, by omega, rfl, by simp, h4, ⟨_, rfl, h04⟩, sub4⟩, ?_⟩
  rintro f s5 n ⟨b, k, hy, hk, rfl, he, h85, ⟨cs, hcs, h05⟩, sub5⟩
  simp only [List.cons.injEq, and_true] at hy
  rw [hy.1, hy.2]
  simp only [vc_segment_greatest_api_Candidate_uint64__l0, arith_lss, optK_mk]
  refine boolK_mk (fun hlt => ?_) (fun hge => ?_)
  · have hlt : k < l.length := by have := of_decide_eq_true hlt; omega
    rw [List.drop_eq_getElem_cons hlt, grt_cons] at he
    obtain ⟨pb, po, g1, g2, _, _⟩ := slc_at (d2.sub sub5) hlt
    simp only [g1, g2, optK_mk]
    refine new_step fun b17 s6 hb17 h6 u6 => wrAgg_step h6 rfl rfl rfl fun s7 h7 u7 => optK_of (rdN_all h7 rfl) ?_
    have hb17s : s b17 = none := by
      cases e : s b17 with
      | none => rfl
      | some x => rw [sub5 b17 x e] at hb17; cases hb17
    have sub7 : Sub s s7 := (sub5.trans (u6.sub hb17)).upto u7 hb17s
    have n8 : b8 ≠ b17 := by rintro rfl; rw [h85] at hb17; cases hb17
    have n0 : b0 ≠ b17 := by rintro rfl; rw [h05] at hb17; cases hb17
    have h87 : s7 b8 = _ := (u7 b8 n8).trans (u6.at h85 hb17)
    have h07 : s7 b0 = _ := (u7 b0 n0).trans (u6.at h05 hb17)
    refine hkey l[k] _ _ (ho.sub sub7) fun s8 sub8 => ?_
    simp only [arith_gtr, optK_mk, vc_segment_greatest_api_Candidate_uint64__j1, arith_add]
    rw [wrap64 (by omega) (by omega)]
    refine boolK_mk (fun hg => ?_) (fun hg => ?_)
    · rw [if_pos (of_decide_eq_true hg)] at he
      refine optK_of (rdN_all (sub8 _ _ h7) rfl) (wrAgg_step (sub8 _ _ h87) rfl rfl rfl fun s9 h9 u9 => ?_)
      exact ⟨_, by omega, l[k], k + 1, by simp, by omega, rfl, he, h9, ⟨cs, hcs, (u9 b0 hne).trans (sub8 _ _ h07)⟩, (sub7.trans sub8).upto u9 hb8s⟩
    · rw [if_neg (of_decide_eq_false hg)] at he
      exact ⟨_, by omega, b, k + 1, by simp, by omega, rfl, he, sub8 _ _ h87, ⟨cs, hcs, sub8 _ _ h07⟩, sub7.trans sub8⟩
  · have hge : l.length ≤ k := by have := of_decide_eq_false hge; omega
    rw [List.drop_eq_nil_of_le hge] at he
    have he : grt key c l = b := he
    rw [he] at hK
    refine optK_of (rdN_all h85 rfl) (wrAgg_step h05 (by rw [hcs]; rfl) hcs rfl fun s6 h6 u6 => optK_of (rdN_all h6 rfl) ?_)
    exact hK _ (sub5.upto u6 hb0)
theorem greatI_in {key : Cand → Int} {kv : AVal} {o : Option (Nat × List AVal)} {v : AVal} {c : Cand} {l : List Cand} (h : SlC s v (c :: l)) (hl : l.length ≤ 1000) (ho : Held o s)
    (hkey : ∀ (x : Cand) (s' : Heap) (K : AVal → Heap → Prop), Held o s' → (∀ s'', Sub s' s'' → K (.int .i64 (key x)) s'') → funK Tryz.prog XX kv [.agg (candR x)] K s')
    (hK : ∀ s', Sub s s' → K (.agg (candR (grt key c l))) s') : wpCall Tryz.prog XX 82 [v, kv] K s := by
  refine vc_segment_greatest_api_Candidate_int__in (new_step fun b0 s1 hb0 h1 u1 => ?_)
  have sub1 := u1.sub hb0
  obtain ⟨pb, po, g1, g2, _, _⟩ := slc_at (h.sub sub1) (k := 0) (by simp)
  have g1 : iaddrS 2 v (.int .i64 0) = some (.ptr pb po) := g1
  simp only [g1, g2, optK_mk]
  refine hkey c _ _ ((ho.sub sub1).frz) fun s2 sub2 _ => ?_
  refine newM (l := [(s1, add s1 s2)]) fun b8 s3 hb8 h8 u8 => ?_
  refine wrAgg_step h8 rfl rfl rfl fun s4 h4 u4 => ?_
  obtain ⟨v', d1, d2, _⟩ := h.drop (k := 1) (by simp) (by simp)
  have d1 : sliceS 2 v (some (.int .i64 1)) none none = some v' := d1
  have d2 : SlC s v' l := d2
  simp only [d1, optK_mk, d2.len, List.length_map]
  have subA : Sub s (add s1 s2) := sub1.trans sub_add
  have hb8s : s b8 = none := by
    cases e : s b8 with
    | none => rfl
    | some x => rw [subA b8 x e] at hb8; cases hb8
  have sub4 : Sub s s4 := (subA.trans sub_add).upto u4 hb8s
  have hne : b0 ≠ b8 := by
    rintro rfl
    rw [show add s1 s2 b0 = _ from add_some h1] at hb8; cases hb8
  have h04 : s4 b0 = some (false, .cells 36 [.int .u32 0, .int .i64 0]) := by
    rw [u4 b0 hne]; exact sub_add b0 _ (add_some h1)
  refine ⟨fun ys s5 n => ∃ (b : Cand) (k : Nat), ys = [.int .i64 (key b), .int .i64 k] ∧ k ≤ l.length ∧ n = l.length - k ∧ grt key c l = grt key b (l.drop k) ∧ s5 b8 = some (false, .cells 36 (candR b)) ∧ (∃ cs, cs.length = 2 ∧ s5 b0 = some (false, .cells 36 cs)) ∧ Sub s s5, ⟨_, c, 0, rfl, by omega, rfl, by simp, h4, ⟨_, rfl, h04⟩, sub4⟩, ?_⟩
  rintro f s5 n ⟨b, k, hy, hk, rfl, he, h85, ⟨cs, hcs, h05⟩, sub5⟩
  simp only [List.cons.injEq, and_true] at hy
  rw [hy.1, hy.2]
  simp only [vc_segment_greatest_api_Candidate_int__l0, arith_lss, optK_mk]
  refine boolK_mk (fun hlt => ?_) (fun hge => ?_)
  · have hlt : k < l.length := by have := of_decide_eq_true hlt; omega
    rw [List.drop_eq_getElem_cons hlt, grt_cons] at he
    obtain ⟨pb, po, g1, g2, _, _⟩ := slc_at (d2.sub sub5) hlt
    simp only [g1, g2, optK_mk]
    refine new_step fun b17 s6 hb17 h6 u6 => wrAgg_step h6 rfl rfl rfl fun s7 h7 u7 => optK_of (rdN_all h7 rfl) ?_
    have hb17s : s b17 = none := by
      cases e : s b17 with
      | none => rfl
      | some x => rw [sub5 b17 x e] at hb17; cases hb17
    have sub7 : Sub s s7 := (sub5.trans (u6.sub hb17)).upto u7 hb17s
    have n8 : b8 ≠ b17 := by rintro rfl; rw [h85] at hb17; cases hb17
    have n0 : b0 ≠ b17 := by rintro rfl; rw [h05] at hb17; cases hb17
    have h87 : s7 b8 = _ := (u7 b8 n8).trans (u6.at h85 hb17)
    have h07 : s7 b0 = _ := (u7 b0 n0).trans (u6.at h05 hb17)
    refine hkey l[k] _ _ (ho.sub sub7) fun s8 sub8 => ?_
    simp only [arith_gtr, optK_mk, vc_segment_greatest_api_Candidate_int__j1, arith_add]
    rw [wrap64 (by omega) (by omega)]
    refine boolK_mk (fun hg => ?_) (fun hg => ?_)
    · rw [if_pos (of_decide_eq_true hg)] at he
      refine optK_of (rdN_all (sub8 _ _ h7) rfl) (wrAgg_step (sub8 _ _ h87) rfl rfl rfl fun s9 h9 u9 => ?_)
      exact ⟨_, by omega, l[k], k + 1, by simp, by omega, rfl, he, h9, ⟨cs, hcs, (u9 b0 hne).trans (sub8 _ _ h07)⟩, (sub7.trans sub8).upto u9 hb8s⟩
    · rw [if_neg (of_decide_eq_false hg)] at he
      exact ⟨_, by omega, b, k + 1, by simp, by omega, rfl, he, sub8 _ _ h87, ⟨cs, hcs, sub8 _ _ h07⟩, sub7.trans sub8⟩
  · have hge : l.length ≤ k := by have := of_decide_eq_false hge; omega
    rw [List.drop_eq_nil_of_le hge] at he
    have he : grt key c l = b := he
    rw [he] at hK
    refine optK_of (rdN_all h85 rfl) (wrAgg_step h05 (by rw [hcs]; rfl) hcs rfl fun s6 h6 u6 => optK_of (rdN_all h6 rfl) ?_)
    exact hK _ (sub5.upto u6 hb0)

/-! ### the algorithms -/
theorem alg1_in {v : AVal} {c : Cand} {l : List Cand} {bd : Int} (h : SlC s v (c :: l)) (hb : 0 ≤ bd) (hK : ∀ s', Sub s s' → K (.agg (candR (((c :: l)[(bd % ((c :: l).length : Int)).toNat]?).getD c))) s') : wpCall Tryz.prog XX 76 [v, .int .i64 bd] K s := by
  refine vc_segment_algorithms_1_in (new_step fun b s1 hb1 h1 u1 => ?_)
  have hs := h.sub (u1.sub hb1)
  have hpos : ((c :: l).length : Int) ≠ 0 := by have : (c :: l).length = l.length + 1 := rfl; omega
  simp only [hs.len, optK_mk, List.length_map, arith_rem hpos]
  have h0 := Int.emod_nonneg bd hpos
  have hlt := Int.emod_lt_of_pos bd (show (0 : Int) < (c :: l).length by have : (c :: l).length = l.length + 1 := rfl; omega)
  have e1 : bd.tmod ((c :: l).length : Int) = ((bd % ((c :: l).length : Int)).toNat : Nat) := by rw [Int.tmod_eq_emod_of_nonneg hb, Int.toNat_of_nonneg h0]
  rw [e1]
  have hk : (bd % ((c :: l).length : Int)).toNat < (c :: l).length := by omega
  rw [List.getElem?_eq_getElem hk, Option.getD_some] at hK
  obtain ⟨pb, po, g1, g2, _, _⟩ := slc_at hs hk
  simp only [g1, g2, optK_mk]
  refine wrAgg_step h1 rfl rfl rfl fun s2 h2 u2 => ?_
  refine optK_of (rdN_all h2 rfl) ?_
  exact hK _ ((u1.sub hb1).upto u2 hb1)
theorem alg21_in {q : Nat} {bd : Int} {x : Cand} (ho : Held (some (q, [.int .i64 bd])) s) (hK : ∀ s', Sub s s' → K (.int .u64 (wt x.1 bd)) s') : wpCall Tryz.prog XX 79 [.agg (candR x), .ptr q 0] K s := by
  refine vc_segment_algorithms_2_1_in ⟨rfl, new_step fun b s1 hb h1 u1 => ?_⟩
  obtain ⟨t, e, hq⟩ := ho q _ rfl
  have hq1 := u1.sub hb _ _ hq
  simp only [addOff_ptr, optK_mk, rd1_mk h1, rd1_mk hq1, List.getElem?_cons_zero]
  refine Weight_in fun s2 sub2 => hK _ ((u1.sub hb).trans sub2)
theorem alg31_in {x : Cand} (hK : ∀ s', Sub s s' → K (.int .i64 x.2) s') : wpCall Tryz.prog XX 83 [.agg (candR x)] K s := by
  refine vc_segment_algorithms_3_1_in ⟨rfl, new_step fun b s1 hb h1 u1 => ?_⟩
  simp only [addOff_ptr, optK_mk, rd1_mk h1]
  exact hK _ (u1.sub hb)
theorem alg2_in {v : AVal} {c : Cand} {l : List Cand} {bd : Int} (h : SlC s v (c :: l)) (hl : l.length ≤ 1000) (hK : ∀ s', Sub s s' → K (.agg (candR (grt (fun c => wt c.1 bd) c l))) s') : wpCall Tryz.prog XX 77 [v, .int .i64 bd] K s := by
  refine vc_segment_algorithms_2_in (box_step rfl fun q s1 hq h1 u1 => new_step fun b2 s2 hb2 h2 u2 => ?_)
  have sub := (u1.sub hq).trans (u2.sub hb2)
  refine great64_in (key := fun c => wt c.1 bd) (o := some (q, [.int .i64 bd])) (h.sub sub) hl (fun q' cs e => by cases e; exact ⟨_, _, u2.at h1 hb2⟩) (fun x s' K ho hk => fn_in (by kernel_rfl) (alg21_in ho hk)) fun s3 sub3 => ?_
  refine wrAgg_step (sub3 _ _ h2) rfl rfl rfl fun s4 h4 u4 => ?_
  refine optK_of (rdN_all h4 rfl) ?_
  have hb : s b2 = none := by
    cases e : s b2 with
    | none => rfl
    | some x => rw [u1.sub hq b2 x e] at hb2; cases hb2
  exact hK _ ((sub.trans sub3).upto u4 hb)
theorem alg3_in {v w : AVal} {c : Cand} {l : List Cand} (h : SlC s v (c :: l)) (hl : l.length ≤ 1000) (hK : ∀ s', Sub s s' → K (.agg (candR (grt (fun c => c.2) c l))) s') : wpCall Tryz.prog XX 81 [v, w] K s := by
  refine vc_segment_algorithms_3_in (new_step fun b2 s2 hb2 h2 u2 => ?_)
  refine greatI_in (key := fun c => c.2) (o := none) (h.sub (u2.sub hb2)) hl (fun q' cs e => by cases e) (fun x s' K ho hk => fn_in (by kernel_rfl) (alg31_in hk)) fun s3 sub3 => ?_
  refine wrAgg_step (sub3 _ _ h2) rfl rfl rfl fun s4 h4 u4 => ?_
  refine optK_of (rdN_all h4 rfl) ?_
  exact hK _ (((u2.sub hb2).trans sub3).upto u4 hb2)
def algT : List AVal := [.fn (.func 76) [] [], .fn (.func 77) [] [], .fn (.func 81) [] []]
theorem algs_in (hK : ∀ s', Sub s s' → K (.agg algT) s') : wpCall Tryz.prog XX 50 [] K s := by
  refine vc_segment_algorithms_in (new_step fun b s1 hb h1 u1 => ?_)
  refine optK_of (a := algT) rfl ?_
  refine wrAgg_step h1 rfl rfl rfl fun s2 h2 u2 => ?_
  refine optK_of (rdN_all h2 rfl) ?_
  exact hK _ ((u1.sub hb).upto u2 hb)
end Go.AM
namespace Go.AM
open Go Go.Proofs
variable {K : AVal → Heap → Prop} {s : Heap}
def ascB : List Cand → Bool
  | [] => true
  | [_] => true
  | x :: y :: r => decide (x.1 < y.1) && ascB (y :: r)
theorem ascB_step {l : List Cand} {i : Nat} (h1 : 1 ≤ i) (h : i < l.length) : ascB (l.drop (i - 1)) = (decide (l[i - 1].1 < l[i].1) && ascB (l.drop i)) := by
  have e1 : l.drop (i - 1) = l[i - 1] :: l.drop i := by
    rw [List.drop_eq_getElem_cons (show i - 1 < l.length by omega)]
    congr 2; omega
  rw [e1, List.drop_eq_getElem_cons h]
  rfl
def pick (alg bd : Int) (c : Cand) (l : List Cand) : Cand :=
  if alg = 0 then ((c :: l)[(bd % ((c :: l).length : Int)).toNat]?).getD c else if alg = 1 then grt (fun c => wt c.1 bd) c l else grt (fun c => c.2) c l
def elect (alg : Int) (l : List Cand) (bd : Int) : Int × Bool := match l with
  | [] => (0, false)
  | c :: r => if alg < 0 ∨ 3 ≤ alg ∨ bd < 0 then (0, false) else if ascB (c :: r) = true then ((pick alg bd c r).1, true) else (0, false)
theorem elect_cons (alg : Int) (c : Cand) (r : List Cand) (bd : Int) : elect alg (c :: r) bd = if alg < 0 ∨ 3 ≤ alg ∨ bd < 0 then (0, false) else if ascB (c :: r) = true then ((pick alg bd c r).1, true) else (0, false) := rfl
theorem Elect_in {v : AVal} {l : List Cand} {alg bd : Int} (h : SlC s v l) (hl : l.length ≤ 1000) (hK : ∀ s', Sub s s' → K (.tup [.int .u32 (elect alg l bd).1, .bool (elect alg l bd).2]) s') : wpCall Tryz.prog XX 28 [.int .i64 alg, v, .int .i64 bd] K s := by
  refine vc_segment_Elect_in (algs_in fun s1 sub1 => new_step fun t s2 ht h2 u2 => wrAgg_step h2 rfl rfl rfl fun s3 h3 u3 => ?_)
  have hts : s t = none := by
    cases e : s t with
    | none => rfl
    | some x => rw [sub1 t x e] at ht; cases ht
  have sub3 : Sub s s3 := (sub1.trans (u2.sub ht)).upto u3 hts
  have hk := hK s3 sub3
  cases l with
  | nil =>
    simp only [h.len, List.map_nil, List.length_nil, optK_mk, eqV_int, negB_mk, vc_segment_Elect_j0, vc_segment_Elect_j1, vc_segment_Elect_j2]
    simp only [Int.ofNat_zero, beq_self_eq_true, Bool.false_bne, boolK_true, pickV_true, optK_mk]
    exact hk
  | cons c r =>
    have hz : (((c :: r).length : Int) == 0) = false := by
      have : (c :: r).length = r.length + 1 := rfl
      cases q : (((c :: r).length : Int) == 0) with
      | false => rfl
      | true => have := eq_of_beq q; omega
    by_cases hc : alg < 0 ∨ 3 ≤ alg ∨ bd < 0
    · have hk : K (.tup [.int .u32 0, .bool false]) s3 := by
        rw [elect_cons, if_pos hc] at hk
        exact hk
      simp only [h.len, List.length_map, hz, optK_mk, eqV_int, negB_mk, Bool.false_bne, boolK_false, arith_lss, arith_geq, vc_segment_Elect_j0, vc_segment_Elect_j1, vc_segment_Elect_j2]
      by_cases n0 : alg < 0 <;> by_cases n1 : 3 ≤ alg <;> by_cases n2 : bd < 0 <;> first | (exfalso; omega) | (simp only [n0, n1, n2, decide_true, decide_false, boolK_true, boolK_false, pickV_true, pickV_false, optK_mk]; exact hk)
    · have n0 : ¬ alg < 0 := by omega
      have n1 : ¬ 3 ≤ alg := by omega
      have n2 : ¬ bd < 0 := by omega
      simp only [h.len, List.length_map, hz, optK_mk, eqV_int, negB_mk, Bool.false_bne, boolK_false, arith_lss, arith_geq, vc_segment_Elect_j0, vc_segment_Elect_j1, vc_segment_Elect_j2, n0, n1, n2, decide_false, pickV_false]
      have e0 : elect alg (c :: r) bd = if ascB (c :: r) = true then ((pick alg bd c r).1, true) else (0, false) := by
        rw [elect_cons, if_neg hc]
      rw [e0] at hk
      have hlen : (c :: r).length = r.length + 1 := rfl
      have h3' := h.sub sub3
      refine ⟨fun ys s4 n => ∃ i : Nat, ys = [.int .i64 i] ∧ s4 = s3 ∧ 1 ≤ i ∧ i ≤ (c :: r).length ∧ n = (c :: r).length - i ∧ ascB (c :: r) = ascB ((c :: r).drop (i - 1)), ⟨_, 1, rfl, rfl, by omega, by omega, rfl, rfl⟩, ?_⟩
      rintro f s4 n ⟨i, hy, rfl, hi1, hi, rfl, he⟩
      simp only [List.cons.injEq, and_true] at hy
      rw [hy]
      simp only [vc_segment_Elect_l3, h.len, List.length_map, optK_mk, arith_lss]
      refine boolK_mk (fun hlt => ?_) (fun hge => ?_)
      · have hlt : i < (c :: r).length := by have := of_decide_eq_true hlt; omega
        rw [ascB_step hi1 hlt] at he
        obtain ⟨pb, po, g1, _, g2, _⟩ := slc_at h3' hlt
        obtain ⟨qb, qo, g3, _, g4, _⟩ := slc_at h3' (k := i - 1) (by omega)
        have ew : IntKind.i64.wrap ((i : Int) - 1) = ((i - 1 : Nat) : Int) := by rw [wrap64 (by omega) (by omega)]; omega
        simp only [g1, optK_mk, addOff_ptr, g2, arith_sub, ew, g3, g4, arith_leq]
        refine boolK_mk (fun hle => ?_) (fun hle => ?_)
        · have : decide ((c :: r)[i - 1].1 < (c :: r)[i].1) = false := by have := of_decide_eq_true hle; simp; omega
          rw [this, Bool.false_and] at he
          rw [he, if_neg (by simp)] at hk
          exact hk
        · have : decide ((c :: r)[i - 1].1 < (c :: r)[i].1) = true := by have := of_decide_eq_false hle; simp; omega
          rw [this, Bool.true_and] at he
          simp only [arith_add, optK_mk]
          rw [wrap64 (by omega) (by omega)]
          exact ⟨_, by omega, i + 1, by simp, by trivial, by omega, by omega, rfl, he⟩
      · have hge : i = (c :: r).length := by have := of_decide_eq_false hge; omega
        have hlast : ascB ((c :: r).drop (i - 1)) = true := by
          rw [List.drop_eq_getElem_cons (show i - 1 < (c :: r).length by omega), List.drop_eq_nil_of_le (by omega)]; rfl
        have he' : elect alg (c :: r) bd = ((pick alg bd c r).1, true) := by rw [e0, if_pos (he.trans hlast)]
        rw [he'] at hK
        clear hk
        have fin : ∀ (x : Cand), (∀ s', Sub s s' → K (.tup [.int .u32 x.1, .bool true]) s') → ∀ s', Sub s4 s' → optK (fieldD none 0 (.agg (candR x))) fun v_27 => K (.tup [v_27, .bool true]) s' := fun x hx s' hs => hx s' (sub3.trans hs)
        obtain rfl | rfl | rfl : alg = 0 ∨ alg = 1 ∨ alg = 2 := by omega
        · refine optK_of (a := .ptr t 0) rfl (optK_of (a := .fn (.func 76) [] []) (by rw [rd1_mk h3]; rfl) ?_)
          exact fn_in (by kernel_rfl) (alg1_in h3' (by omega) (fin _ hK))
        · refine optK_of (a := .ptr t 1) rfl (optK_of (a := .fn (.func 77) [] []) (by rw [rd1_mk h3]; rfl) ?_)
          exact fn_in (by kernel_rfl) (alg2_in h3' (by omega) (fin _ hK))
        · refine optK_of (a := .ptr t 2) rfl (optK_of (a := .fn (.func 81) [] []) (by rw [rd1_mk h3]; rfl) ?_)
          exact fn_in (by kernel_rfl) (alg3_in h3' (by omega) (fin _ hK))
theorem cut_sub {s0 s s2 : Heap} (h : Sub s0 s) : Sub s0 (cutH [(s, add s s2)] (add s s2)) := fun i e hi => cut_keep (h i e hi) (add_some (h i e hi))
theorem rElect_in {v : AVal} {l : List Cand} {alg bd : Int} (h : SlC s v l) (hl : l.length ≤ 1000) (hip : ∀ c ∈ l, 0 ≤ c.1 ∧ c.1 < 4294967296) (hK : ∀ s', Sub s s' → K (.tup [.int .u32 (elect alg l bd).1, .bool (elect alg l bd).2]) s') : wpCall Tryz.prog XX 62 [.int .i64 alg, v, .int .i64 bd] K s := by
  refine vc_leafmeshref25_Elect_in ?_
  have hk := hK s (.refl s)
  cases l with
  | nil =>
    simp only [vc_leafmeshref25_Elect, h.len, List.map_nil, List.length_nil, optK_mk, eqV_int, negB_mk, vc_leafmeshref25_Elect_j0, vc_leafmeshref25_Elect_j1, vc_leafmeshref25_Elect_j2]
    simp only [Int.ofNat_zero, beq_self_eq_true, Bool.false_bne, boolK_true, pickV_true, optK_mk]
    exact hk
  | cons c r =>
    have hz : (((c :: r).length : Int) == 0) = false := by
      have : (c :: r).length = r.length + 1 := rfl
      cases q : (((c :: r).length : Int) == 0) with
      | false => rfl
      | true => have := eq_of_beq q; omega
    by_cases hc : alg < 0 ∨ 3 ≤ alg ∨ bd < 0
    · have hk : K (.tup [.int .u32 0, .bool false]) s := by
        rw [elect_cons, if_pos hc] at hk
        exact hk
      simp only [vc_leafmeshref25_Elect, h.len, List.length_map, hz, optK_mk, eqV_int, negB_mk, Bool.false_bne, boolK_false, arith_lss, arith_gtr, vc_leafmeshref25_Elect_j0, vc_leafmeshref25_Elect_j1, vc_leafmeshref25_Elect_j2]
      by_cases n0 : alg < 0 <;> by_cases n1 : 2 < alg <;> by_cases n2 : bd < 0 <;> first | (exfalso; omega) | (simp only [n0, n1, n2, decide_true, decide_false, boolK_true, boolK_false, pickV_true, pickV_false, optK_mk]; exact hk)
    · have n0 : ¬ alg < 0 := by omega
      have n1 : ¬ 2 < alg := by omega
      have n2 : ¬ bd < 0 := by omega
      simp only [vc_leafmeshref25_Elect, h.len, List.length_map, hz, optK_mk, eqV_int, negB_mk, Bool.false_bne, boolK_false, arith_lss, arith_gtr, vc_leafmeshref25_Elect_j0, vc_leafmeshref25_Elect_j1, vc_leafmeshref25_Elect_j2, n0, n1, n2, decide_false, pickV_false]
      have e0 : elect alg (c :: r) bd = if ascB (c :: r) = true then ((pick alg bd c r).1, true) else (0, false) := by
        rw [elect_cons, if_neg hc]
      clear hk
      have hlen : (c :: r).length = r.length + 1 := rfl
      refine ⟨fun ys s4 n => ∃ (q : Nat) (i : Nat) (hq : q < (c :: r).length), ys = [.int .i64 q, .int .i64 i] ∧ Sub s s4 ∧ 1 ≤ i ∧ i ≤ (c :: r).length ∧ n = (c :: r).length - i ∧ ascB (c :: r) = ascB ((c :: r).drop (i - 1)) ∧
        (alg = 1 → grt (fun c => wt c.1 bd) c r = grt (fun c => wt c.1 bd) (c :: r)[q] ((c :: r).drop i)) ∧ (alg = 2 → grt (fun c => c.2) c r = grt (fun c => c.2) (c :: r)[q] ((c :: r).drop i)), ⟨_, 0, 1, by omega, rfl, .refl s, by omega, by omega, rfl, rfl, fun _ => rfl, fun _ => rfl⟩, ?_⟩
      rintro f s4 n ⟨q, i, hq, hy, sub4, hi1, hi, rfl, he, hw, hp⟩
      simp only [List.cons.injEq, and_true] at hy
      rw [hy.1, hy.2]
      have h4 := h.sub sub4
      simp only [vc_leafmeshref25_Elect_l3, h.len, List.length_map, optK_mk, arith_lss]
      refine boolK_mk (fun hlt => ?_) (fun hge => ?_)
      · have hlt : i < (c :: r).length := by have := of_decide_eq_true hlt; omega
        rw [ascB_step hi1 hlt] at he
        obtain ⟨pb, po, g1, _, g2, g2'⟩ := slc_at h4 hlt
        obtain ⟨qb, qo, g3, _, g4, _⟩ := slc_at h4 (k := i - 1) (by omega)
        obtain ⟨rb, ro, g5, _, g6, g6'⟩ := slc_at h4 hq
        have ew : IntKind.i64.wrap ((i : Int) - 1) = ((i - 1 : Nat) : Int) := by rw [wrap64 (by omega) (by omega)]; omega
        simp only [g1, optK_mk, addOff_ptr, g2, arith_sub, ew, g3, g4, arith_leq]
        refine boolK_mk (fun hle => ?_) (fun hle => ?_)
        · have : decide ((c :: r)[i - 1].1 < (c :: r)[i].1) = false := by have := of_decide_eq_true hle; simp; omega
          rw [this, Bool.false_and] at he
          have e1 : elect alg (c :: r) bd = (0, false) := by rw [e0, he, if_neg (by simp)]
          rw [e1] at hK
          exact hK _ sub4
        · have : decide ((c :: r)[i - 1].1 < (c :: r)[i].1) = true := by have := of_decide_eq_false hle; simp; omega
          rw [this, Bool.true_and] at he
          have w1 : arithV .add (.int .i64 (i : Int)) (.int .i64 1) = some (.int .i64 ((i + 1 : Nat) : Int)) := by
            rw [arith_add, wrap64 (by omega) (by omega)]
            rfl
          have dropi : (c :: r).drop i = (c :: r)[i] :: (c :: r).drop (i + 1) := List.drop_eq_getElem_cons hlt
          rw [dropi] at hw hp
          have wi := hip _ (List.getElem_mem hlt)
          have wq := hip _ (List.getElem_mem hq)
          simp only [eqV_int, negB_mk, Bool.false_bne, optK_mk]
          obtain rfl | rfl | rfl : alg = 0 ∨ alg = 1 ∨ alg = 2 := by omega
          · simp only [show ((0 : Int) == 1) = false from rfl, show ((0 : Int) == 2) = false from rfl, boolK_false, pickV_false, optK_mk, vc_leafmeshref25_Elect_j8, vc_leafmeshref25_Elect_j9, w1]
            exact ⟨_, by omega, q, i + 1, hq, rfl, sub4, by omega, by omega, rfl, he, fun e => by omega, fun e => by omega⟩
          · simp only [show ((1 : Int) == 1) = true from rfl, show ((1 : Int) == 2) = false from rfl, boolK_true, g1, addOff_ptr, g2, optK_mk]
            refine rWeight_in wi fun s5 sub5 _ => ?_
            have h5 := h.sub (cut_sub (s2 := s5) sub4)
            obtain ⟨rb', ro', k1, _, k2, _⟩ := slc_at h5 hq
            rw [g5] at k1
            cases k1
            simp only [g5, optK_mk, addOff_ptr, k2]
            refine rWeight_in wq fun s6 sub6 => ?_
            have sub6 : Sub s s6 := (sub4.trans sub_add).trans sub6
            have hw := hw rfl
            rw [grt_cons] at hw
            simp only [arith_gtr, optK_mk, pickV_true]
            refine boolK_mk (fun hg => ?_) (fun hg => ?_)
            · rw [hg]
              rw [if_pos (of_decide_eq_true hg)] at hw
              simp only [pickV_true, optK_mk, boolK_true, vc_leafmeshref25_Elect_j4, w1]
              exact ⟨_, by omega, i, i + 1, hlt, rfl, sub6, by omega, by omega, rfl, he, fun _ => hw, fun e => by omega⟩
            · rw [hg]
              rw [if_neg (of_decide_eq_false hg)] at hw
              simp only [pickV_false, optK_mk, boolK_false, vc_leafmeshref25_Elect_j6, w1]
              exact ⟨_, by omega, q, i + 1, hq, rfl, sub6, by omega, by omega, rfl, he, fun _ => hw, fun e => by omega⟩
          · have hp := hp rfl
            rw [grt_cons] at hp
            simp only [show ((2 : Int) == 1) = false from rfl, show ((2 : Int) == 2) = true from rfl, boolK_false, boolK_true, pickV_false, pickV_true, optK_mk, vc_leafmeshref25_Elect_j8, vc_leafmeshref25_Elect_j9, g1, addOff_ptr, g2', g5, g6', arith_gtr, w1]
            refine boolK_mk (fun hg => ?_) (fun hg => ?_)
            · rw [if_pos (of_decide_eq_true hg)] at hp
              exact ⟨_, by omega, i, i + 1, hlt, rfl, sub4, by omega, by omega, rfl, he, fun e => by omega, fun _ => hp⟩
            · rw [if_neg (of_decide_eq_false hg)] at hp
              exact ⟨_, by omega, q, i + 1, hq, rfl, sub4, by omega, by omega, rfl, he, fun e => by omega, fun _ => hp⟩
      · have hge : i = (c :: r).length := by have := of_decide_eq_false hge; omega
        have hlast : ascB ((c :: r).drop (i - 1)) = true := by
          rw [List.drop_eq_getElem_cons (show i - 1 < (c :: r).length by omega), List.drop_eq_nil_of_le (by omega)]; rfl
        have he' : elect alg (c :: r) bd = ((pick alg bd c r).1, true) := by rw [e0, if_pos (he.trans hlast)]
        rw [he'] at hK
        have dropi : (c :: r).drop i = [] := List.drop_eq_nil_of_le (by omega)
        rw [dropi] at hw hp
        simp only [eqV_int, negB_mk, Bool.false_bne, optK_mk]
        obtain ⟨rb, ro, g5, _, g6, _⟩ := slc_at h4 hq
        obtain rfl | rfl | rfl : alg = 0 ∨ alg = 1 ∨ alg = 2 := by omega
        · have hpos : ((c :: r).length : Int) ≠ 0 := by omega
          have h0 := Int.emod_nonneg bd hpos
          have hlt := Int.emod_lt_of_pos bd (show (0 : Int) < (c :: r).length by omega)
          have e1 : bd.tmod ((c :: r).length : Int) = ((bd % ((c :: r).length : Int)).toNat : Nat) := by rw [Int.tmod_eq_emod_of_nonneg (by omega), Int.toNat_of_nonneg h0]
          have hkk : (bd % ((c :: r).length : Int)).toNat < (c :: r).length := by omega
          obtain ⟨qb, qo, g3, _, g4, _⟩ := slc_at h4 hkk
          simp only [show ((0 : Int) == 0) = true from rfl, boolK_true, arith_rem hpos, e1, optK_mk, vc_leafmeshref25_Elect_j10, g3, addOff_ptr, g4]
          have := hK _ sub4
          unfold pick at this
          rw [if_pos rfl, List.getElem?_eq_getElem hkk, Option.getD_some] at this
          exact this
        · simp only [show ((1 : Int) == 0) = false from rfl, boolK_false, vc_leafmeshref25_Elect_j10, g5, optK_mk, addOff_ptr, g6]
          have := hK _ sub4
          unfold pick at this
          rw [if_neg (by decide), if_pos rfl, hw rfl] at this
          exact this
        · simp only [show ((2 : Int) == 0) = false from rfl, boolK_false, vc_leafmeshref25_Elect_j10, g5, optK_mk, addOff_ptr, g6]
          have := hK _ sub4
          unfold pick at this
          rw [if_neg (by decide), if_neg (by decide), hp rfl] at this
          exact this
end Go.AM
namespace Go.AM
open Go Go.Proofs
variable {K : AVal → Heap → Prop} {s : Heap}
abbrev Sli (s : Heap) (v : AVal) (l : List Int) : Prop := Sl s v (l.map (AVal.int .i64))
abbrev Slu (s : Heap) (v : AVal) (l : List Int) : Prop := Sl s v (l.map (AVal.int .u32))
theorem sli_at {v : AVal} {l : List Int} (h : Sli s v l) {k : Nat} (hk : k < l.length) : ∃ p, iaddrS 1 v (.int .i64 (k : Int)) = some p ∧ rd1 s p = some (.int .i64 l[k]) := by
  obtain ⟨p, h1, h2⟩ := h.get (i := k) (by simpa using hk)
  exact ⟨p, h1, by rw [h2]; simp [hk]⟩
theorem slu_at {v : AVal} {l : List Int} (h : Slu s v l) {k : Nat} (hk : k < l.length) : ∃ p, iaddrS 1 v (.int .i64 (k : Int)) = some p ∧ rd1 s p = some (.int .u32 l[k]) := by
  obtain ⟨p, h1, h2⟩ := h.get (i := k) (by simpa using hk)
  exact ⟨p, h1, by rw [h2]; simp [hk]⟩
theorem Pick_in {a n : Int} (hn : 0 < n) (hn2 : n ≤ 1000000000) (hK : K (.int .i64 (a % n)) s) : wpCall Tryz.prog XX 22 [.int .i64 a, .int .i64 n] K s := by
  refine vc_leafmeshkit_Pick_in ?_
  have hne : n ≠ 0 := by omega
  have h1 := Int.emod_nonneg a hne
  have h2 := Int.emod_lt_of_pos a hn
  simp only [vc_leafmeshkit_Pick, arith_rem hne, optK_mk, arith_lss, vc_leafmeshkit_Pick_j0]
  have key : a.tmod n = a % n ∨ (a.tmod n = a % n - n ∧ a % n ≠ 0 ∧ a.tmod n < 0) := by
    rw [Int.tmod_eq_emod]
    split
    · left; omega
    · right
      rename_i h
      have : ¬ n ∣ a := fun hd => h (.inr hd)
      have hz : a % n ≠ 0 := fun e => this (Int.dvd_of_emod_eq_zero e)
      have : (n.natAbs : Int) = n := by omega
      omega
  rcases key with e | ⟨e, hz, hlt⟩
  · have : decide (a.tmod n < 0) = false := by simp; omega
    rw [this]
    simp only [boolK_false]
    rw [e]; exact hK
  · have : decide (a.tmod n < 0) = true := by simpa using hlt
    rw [this]
    simp only [boolK_true, arith_add, optK_mk]
    rw [e, wrap64 (by omega) (by omega)]
    rw [show a % n - n + n = a % n by omega]; exact hK
theorem wrapu32 {n : Int} (h : 0 ≤ n ∧ n < 4294967296) : IntKind.u32.wrap n = n := by
  rw [← wrapK_eq, wu32]; omega
theorem loop_in {n : Int} (h : 0 ≤ n ∧ n < 32) (hK : K (.int .u32 (184483841 + n)) s) : wpCall Tryz.prog XX 14 [.int .i64 n] K s := by
  refine vc_leafmeshlaw25_loop_in (vc_addr_Loopback_in ?_)
  have n0 : ¬ n < 0 := by omega
  have n1 : ¬ 32 ≤ n := by omega
  simp only [vc_addr_Loopback, arith_lss, arith_geq, n0, n1, decide_false, optK_mk, boolK_false, vc_addr_Loopback_j0, pickV_false, convI_mk, wu32, show n % 4294967296 = n by omega, arith_add, extract_mk, List.getElem?_cons_zero, List.getElem?_cons_succ]
  rw [wrapu32 (n := 184483840 + n) (by omega), wrapu32 (by omega), show 184483840 + n + 1 = 184483841 + n by omega]
  exact hK
def candAt (l : List Int) (i : Nat) : Cand := (184483841 + (i : Int), l.getD i 0 % 65536)
def mkc (l : List Int) : List Cand := (List.range (min l.length 20)).map (candAt l)
theorem mkc_len (l : List Int) : (mkc l).length = min l.length 20 := by simp [mkc]
theorem mkc_get (l : List Int) {i : Nat} (h : i < (mkc l).length) : (mkc l)[i] = candAt l i := by simp [mkc]
theorem cands_in {v : AVal} {l : List Int} (h : Sli s v l) (hK : ∀ v' s', Sub s s' → SlC s' v' (mkc l) → K v' s') : wpCall Tryz.prog XX 27 [v] K s := by
  refine vc_leafmeshlaw25_candidates_in ?_
  refine ⟨fun ys s1 n => ∃ (out : AVal) (i : Nat), ys = [out, .int .i64 i] ∧ Sub s s1 ∧ i ≤ min l.length 20 ∧ n = 20 - i ∧ AccR 36 2 s s1 out (((List.range i).map (candAt l)).map candR), ⟨_, .nilslc, 0, rfl, .refl s, by omega, rfl, ⟨by simp, .inl ⟨rfl, rfl⟩⟩⟩, ?_⟩
  rintro f s1 n ⟨out, i, hy, sub1, hi, rfl, hacc⟩
  simp only [List.cons.injEq, and_true] at hy
  rw [hy.1, hy.2]
  have h1 := h.sub sub1
  simp only [vc_leafmeshlaw25_candidates_l0, h1.len, List.length_map, optK_mk, arith_lss, vc_leafmeshlaw25_candidates_j1]
  have fin : min l.length 20 ≤ i → K out s1 := fun he => by
    have : i = min l.length 20 := by omega
    subst this
    exact hK _ _ sub1 hacc.sl
  refine boolK_mk (fun hlt => ?_) (fun hge => ?_)
  · rw [hlt]
    have hlt : i < l.length := by have := of_decide_eq_true hlt; omega
    simp only [pickV_true, optK_mk]
    refine boolK_mk (fun h20 => ?_) (fun h20 => ?_)
    · have h20 : i < 20 := by have := of_decide_eq_true h20; omega
      refine loop_in (by omega) fun _ => ?_
      rw [add_frz, cut_refl]
      obtain ⟨p, g1, g2⟩ := sli_at h1 hlt
      simp only [g1, g2, optK_mk]
      refine Pick_in (by omega) (by omega) ?_
      refine optK_of (a := candR (candAt l i)) (by simp [candAt, candR, hlt]; rfl) ?_
      refine optK_of (a := candR (candAt l i)) rfl ⟨rfl, new_step fun b s2 hb h2 u2 => ?_⟩
      have sub2 := u2.sub hb
      refine (hacc.sub sub2).app (m := [candR (candAt l i)]) (SlR.mk (by simp [candR]) (by simpa using h2) rfl (by simp)) (by simp) (by simp; omega) (sub1.trans sub2) fun v' s3 h3 sub3 => ?_
      simp only [arith_add, optK_mk]
      rw [wrap64 (by omega) (by omega)]
      refine ⟨_, ?_, v', i + 1, rfl, sub3, by omega, rfl, ?_⟩
      · omega
      · rw [List.range_succ, List.map_append, List.map_append]; exact h3
    · exact fin (by have := of_decide_eq_false h20; omega)
  · rw [hge]
    simp only [pickV_false, optK_mk, boolK_false]
    exact fin (by have := of_decide_eq_false hge; omega)
theorem Has_in {v : AVal} {l : List Int} {x : Int} (h : Slu s v l) (hl : l.length ≤ 1000000) (hK : K (.bool (decide (x ∈ l))) s) : wpCall Tryz.prog XX 29 [v, .int .u32 x] K s := by
  refine vc_leafmeshkit_Has_api_IP__in ?_
  refine ⟨fun ys s1 n => ∃ k : Nat, ys = [.int .i64 k] ∧ s1 = s ∧ k ≤ l.length ∧ n = l.length - k ∧ (x ∈ l ↔ x ∈ l.drop k), ⟨_, 0, rfl, rfl, by omega, rfl, by simp⟩, ?_⟩
  rintro f s1 n ⟨k, hy, rfl, hk, rfl, he⟩
  simp only [List.cons.injEq, and_true] at hy
  rw [hy]
  simp only [vc_leafmeshkit_Has_api_IP__l0, h.len, List.length_map, optK_mk, arith_lss]
  refine boolK_mk (fun hlt => ?_) (fun hge => ?_)
  · have hlt : k < l.length := by have := of_decide_eq_true hlt; omega
    obtain ⟨p, g1, g2⟩ := slu_at h hlt
    rw [List.drop_eq_getElem_cons hlt, List.mem_cons] at he
    simp only [g1, g2, optK_mk, eqV_int, negB_mk, Bool.false_bne]
    cases hq : (l[k] == x) with
    | true =>
      have : x ∈ l := he.2 (.inl (eq_of_beq hq).symm)
      rw [decide_eq_true this] at hK
      simp only [boolK_true]; exact hK
    | false =>
      have hne : x ≠ l[k] := fun e => by rw [e] at hq; simp at hq
      simp only [boolK_false, arith_add, optK_mk]
      rw [wrap64 (by omega) (by omega)]
      exact ⟨_, by omega, k + 1, by simp, by trivial, by omega, rfl, he.trans ⟨fun h => h.resolve_left hne, .inr⟩⟩
  · have hge : l.length ≤ k := by have := of_decide_eq_false hge; omega
    rw [List.drop_eq_nil_of_le hge] at he
    have : ¬ x ∈ l := fun h => by simpa using he.1 h
    rw [decide_eq_false this] at hK
    exact hK
theorem ascB_of : ∀ {l : List Cand}, (∀ i (h : i + 1 < l.length), l[i].1 < l[i + 1].1) → ascB l = true
  | [], _ => rfl
  | [_], _ => rfl
  | x :: y :: r, h => by
    show (decide (x.1 < y.1) && ascB (y :: r)) = true
    have h0 : x.1 < y.1 := h 0 (by simp)
    rw [decide_eq_true h0, Bool.true_and]
    exact ascB_of fun i hi => h (i + 1) (by simpa using hi)
theorem mkc_asc (l : List Int) : ascB (mkc l) = true := ascB_of fun i h => by
  rw [mkc_get, mkc_get]
  simp only [candAt]
  omega
end Go.AM
namespace Go.AM
open Go Go.Proofs
variable {K : AVal → Heap → Prop} {s : Heap}
abbrev glob0 (s : Heap) : Prop := s 0 = some (true, .glob 0 (.agg kindsL))
theorem awake_in (h : glob0 s) (hK : K (.bool true) s) : wpCall Tryz.prog XX 3 [] K s := wp_closedG (t := true) rfl rfl h hK
/-- the addresses that were elected already -/
def turnL (f n : Int) (i : Nat) : List Int := (List.range i).map fun (j : Nat) => 184483841 + (f + (j : Int)) % n
theorem turn_new {f n : Int} {i : Nat} (hi : (i : Int) < n) : ¬ (184483841 + (f + (i : Int)) % n) ∈ turnL f n i := by
  intro h
  obtain ⟨j, hj, e⟩ := List.mem_map.1 h
  have hj : j < i := List.mem_range.1 hj
  have e1 : (f + (j : Int)) % n = (f + (i : Int)) % n := by omega
  have e2 := Int.emod_emod_of_dvd (f + (i : Int)) (Int.dvd_refl n)
  have e3 : ((f + (i : Int)) - (f + (j : Int))) % n = 0 := by
    rw [Int.sub_emod, e1, Int.sub_self, Int.zero_emod]
  rw [show (f + (i : Int)) - (f + (j : Int)) = (i : Int) - j by omega, Int.emod_eq_of_lt (by omega) (by omega)] at e3
  omega
theorem turn_all {f n : Int} {m k : Nat} (hm : (m : Int) = n) (hk : k < m) : (184483841 + (k : Int)) ∈ turnL f n m := by
  have hn : n ≠ 0 := by omega
  have h0 := Int.emod_nonneg ((k : Int) - f) hn
  have h1 := Int.emod_lt_of_pos ((k : Int) - f) (show 0 < n by omega)
  refine List.mem_map.2 ⟨(((k : Int) - f) % n).toNat, List.mem_range.2 (by omega), ?_⟩
  have e : ((((k : Int) - f) % n).toNat : Int) = ((k : Int) - f) % n := Int.toNat_of_nonneg h0
  rw [e]
  have : (f + ((k : Int) - f) % n) % n = (k : Int) := by
    rw [Int.add_emod, Int.emod_emod_of_dvd _ (Int.dvd_refl n), ← Int.add_emod, show f + ((k : Int) - f) = k by omega, Int.emod_eq_of_lt (by omega) (by omega)]
  omega
theorem elect0 {l : List Int} {b : Int} (hb : 0 ≤ b) (hne : mkc l ≠ []) : elect 0 (mkc l) b = (184483841 + b % ((mkc l).length : Int), true) := by
  have hasc := mkc_asc l
  have hget : ∀ (i : Nat) (h : i < (mkc l).length), (mkc l)[i] = candAt l i := fun i h => mkc_get l h
  revert hasc hget hne
  generalize mkc l = L
  intro hne hasc hget
  cases L with
  | nil => exact absurd rfl hne
  | cons c r =>
    rw [elect_cons, if_neg (by omega), if_pos hasc]
    unfold pick
    rw [if_pos rfl]
    have hpos : (0 : Int) < ((c :: r).length : Int) := by have : (c :: r).length = r.length + 1 := rfl; omega
    have h0 := Int.emod_nonneg b (show ((c :: r).length : Int) ≠ 0 by omega)
    have h1 := Int.emod_lt_of_pos b hpos
    have hk : (b % ((c :: r).length : Int)).toNat < (c :: r).length := by omega
    rw [List.getElem?_eq_getElem hk, Option.getD_some, hget _ hk]
    simp only [candAt]
    rw [Int.toNat_of_nonneg h0]
theorem Turns_in {v : AVal} {l : List Int} {first : Int} (hg : glob0 s) (h : Sli s v l) : wpCall Tryz.prog XX 5 [v, .int .i64 first] (fun v _ => v = .bool true) s := by
  refine vc_leafmeshlaw25_SegmentTurns_in (awake_in hg (cands_in h fun v' s1 sub1 h1 => Pick_in (by omega) (by omega) ?_))
  have hlen : (mkc l).length ≤ 20 := by rw [mkc_len]; omega
  have f0 := Int.emod_nonneg first (show (1048576 : Int) ≠ 0 by omega)
  have f1 := Int.emod_lt_of_pos first (show (0 : Int) < 1048576 by omega)
  generalize first % 1048576 = f at f0 f1
  refine ⟨fun ys s2 n => ∃ (seen : AVal) (i : Nat), ys = [seen, .int .i64 i] ∧ Sub s1 s2 ∧ i ≤ (mkc l).length ∧ n = (mkc l).length - i ∧ Acc 33 s1 s2 seen ((turnL f (mkc l).length i).map (AVal.int .u32)), ⟨_, .nilslc, 0, rfl, .refl s1, by omega, rfl, .inl ⟨rfl, rfl⟩⟩, ?_⟩
  rintro fe s2 n ⟨seen, i, hy, sub2, hi, rfl, hacc⟩
  simp only [List.cons.injEq, and_true] at hy
  rw [hy.1, hy.2]
  have h2 := h1.sub sub2
  simp only [vc_leafmeshlaw25_SegmentTurns_l0, h2.len, List.length_map, optK_mk, arith_lss]
  refine boolK_mk (fun hlt => ?_) (fun hge => ?_)
  · have hlt : i < (mkc l).length := by have := of_decide_eq_true hlt; omega
    simp only [arith_add, optK_mk]
    rw [wrap64 (by omega) (by omega)]
    refine Elect_in h2 (by omega) fun s3 sub3 => ?_
    rw [elect0 (by omega) (by intro e; rw [e] at hlt; simp at hlt)]
    simp only [extract_mk, List.getElem?_cons_zero, List.getElem?_cons_succ, optK_mk, unary_not, Bool.not_true, boolK_false]
    have hacc3 : Acc 33 s1 s3 seen ((turnL f (mkc l).length i).map (AVal.int .u32)) := by
      rcases hacc with h | ⟨b, a1, a2, a3⟩
      · exact .inl h
      · exact .inr ⟨b, a1, a2, sub3 _ _ a3⟩
    refine Has_in (l := turnL f (mkc l).length i) hacc3.sl (by simp [turnL]; omega) ?_
    rw [decide_eq_false (turn_new (by omega))]
    simp only [vc_leafmeshlaw25_SegmentTurns_j1, pickV_false, optK_mk, boolK_false]
    refine lit1_step rfl rfl fun b s4 hb h4 u4 => ?_
    have sub4 := u4.sub hb
    have hacc4 : Acc 33 s1 s4 seen ((turnL f (mkc l).length i).map (AVal.int .u32)) := by
      rcases hacc3 with h | ⟨b, a1, a2, a3⟩
      · exact .inl h
      · exact .inr ⟨b, a1, a2, sub4 _ _ a3⟩
    have sub14 := (sub2.trans sub3).trans sub4
    refine hacc4.app (Sl.mk h4 rfl (by simp)) (by simp) (by simp [turnL]; omega) (fun j hj => by
      cases e : s1 j with
      | none => exact absurd e hj
      | some x => rw [sub14 j x e]; simp) fun v3 s5 h5 keep5 => ?_
    simp only [arith_add, optK_mk]
    rw [wrap64 (by omega) (by omega)]
    refine ⟨_, ?_, v3, i + 1, rfl, fun j e hj => ?_, by omega, rfl, ?_⟩
    · omega
    · refine keep5 j e (sub14 j e hj) fun b' hb' => ?_
      rcases hacc with ⟨h, _⟩ | ⟨b, a1, a2, _⟩
      · rw [h] at hb'; cases hb'
      · rw [a2] at hb'
        cases hb'
        exact ne_of_some a1 hj
    · have : turnL f (mkc l).length (i + 1) = turnL f (mkc l).length i ++ [184483841 + (f + (i : Int)) % ((mkc l).length : Int)] := by
        simp [turnL, List.range_succ]
      rw [this, List.map_append]
      exact h5
  · have hge : i = (mkc l).length := by have := of_decide_eq_false hge; omega
    subst hge
    have hseen := hacc.sl
    refine ⟨fun ys s3 n => ∃ k : Nat, ys = [.int .i64 k] ∧ s3 = s2 ∧ k ≤ (mkc l).length ∧ n = (mkc l).length - k, ⟨_, 0, rfl, rfl, by omega, rfl⟩, ?_⟩
    rintro fe s3 n ⟨k, hy, rfl, hk, rfl⟩
    simp only [List.cons.injEq, and_true] at hy
    rw [hy]
    simp only [vc_leafmeshlaw25_SegmentTurns_l2, h2.len, List.length_map, optK_mk, arith_lss]
    refine boolK_mk (fun hlt => ?_) (fun _ => by trivial)
    have hlt : k < (mkc l).length := by have := of_decide_eq_true hlt; omega
    obtain ⟨pb, po, g1, _, g2, _⟩ := slc_at h2 hlt
    simp only [g1, addOff_ptr, g2, optK_mk]
    refine Has_in (l := turnL f (mkc l).length (mkc l).length) hseen (by simp [turnL]; omega) ?_
    rw [mkc_get, decide_eq_true (show (candAt l k).1 ∈ turnL f (mkc l).length (mkc l).length from turn_all rfl hlt)]
    simp only [unary_not, Bool.not_true, boolK_false, optK_mk, arith_add]
    rw [wrap64 (by omega) (by omega)]
    exact ⟨_, by omega, k + 1, by simp, by trivial, by omega, rfl⟩
set_option maxRecDepth 100000 in
theorem prefs_arg {d : Nat} {v : AVal} (h : Arg Tryz.prog s (d + 2) 70 v) : ∃ l, Sli s v l := by
  obtain ⟨l, hl, _⟩ := arg_slice (d := d + 1) Tryz.underlying70 (by kernel_rfl) (AVal.int .i64) (fun _ => True) (fun xs h => by obtain ⟨n, e, _⟩ := inp_int Tryz.underlying3 h; exact ⟨n, e, trivial⟩) h
  exact ⟨l, hl⟩
theorem Turns_wp (s : Heap) (xs : List AVal) (hg : glob0 s) (h : ArgL Tryz.prog s 40 [70, 3] xs) : wpCall Tryz.prog XX 5 xs (fun v _ => v = .bool true) s := by
  obtain ⟨a, b, rfl, h1, h2⟩ := argl2 h
  obtain ⟨l, hl⟩ := prefs_arg (d := 38) h1
  obtain ⟨first, rfl, _⟩ := arg_int (d := 39) Tryz.underlying3 h2
  exact Turns_in hg hl
end Go.AM
namespace Go.AM
open Go Go.Proofs
variable {K : AVal → Heap → Prop} {s : Heap}
/-! ### the first of the greatest -/
def Best (key : Cand → Int) (X : List Cand) (w : Cand) : Prop := ∃ a b, X = a ++ w :: b ∧ (∀ x ∈ a, key x < key w) ∧ ∀ x ∈ b, key x ≤ key w
theorem grt_best (key : Cand → Int) : ∀ (r : List Cand) (c : Cand), Best key (c :: r) (grt key c r)
  | [], c => ⟨[], [], rfl, by simp, by simp⟩
  | x :: r, c => by
    rw [grt_cons]
    split
    · rename_i h
      obtain ⟨a, b, e, h1, h2⟩ := grt_best key r x
      refine ⟨c :: a, b, by rw [e]; rfl, fun y hy => ?_, h2⟩
      rcases List.mem_cons.1 hy with rfl | hy
      · cases a with
        | nil =>
          simp only [List.nil_append, List.cons.injEq] at e
          rw [← e.1]; exact h
        | cons a0 a1 =>
          simp only [List.cons_append, List.cons.injEq] at e
          have := h1 a0 (by simp)
          rw [← e.1] at this
          omega
      · exact h1 y hy
    · rename_i h
      obtain ⟨a, b, e, h1, h2⟩ := grt_best key r c
      cases a with
      | nil =>
        simp only [List.nil_append, List.cons.injEq] at e
        refine ⟨[], x :: b, by rw [← e.1, e.2]; rfl, by simp, fun y hy => ?_⟩
        rcases List.mem_cons.1 hy with rfl | hy
        · rw [← e.1]; omega
        · exact h2 y hy
      | cons a0 a1 =>
        simp only [List.cons_append, List.cons.injEq] at e
        refine ⟨c :: x :: a1, b, congrArg (fun t => c :: x :: t) e.2, fun y hy => ?_, h2⟩
        have hc := h1 a0 (by simp)
        rw [← e.1] at hc
        rcases List.mem_cons.1 hy with rfl | hy
        · exact hc
        · rcases List.mem_cons.1 hy with rfl | hy
          · omega
          · exact h1 y (by simp [hy])
theorem best_one {key : Cand → Int} {X : List Cand} {w w' : Cand} (h : Best key X w) (h' : Best key X w') : w = w' := by
  obtain ⟨a, b, e, h1, h2⟩ := h
  obtain ⟨a', b', e', h1', h2'⟩ := h'
  rw [e] at e'
  rcases List.append_eq_append_iff.1 e' with ⟨m, hm, hm'⟩ | ⟨m, hm, hm'⟩
  · cases m with
    | nil => simp only [List.nil_append, List.cons.injEq] at hm'; exact hm'.1
    | cons m0 m1 =>
      simp only [List.cons_append, List.cons.injEq] at hm'
      have k1 := h1' w (by rw [hm, hm'.1]; simp)
      have k2 := h2 w' (by rw [hm'.2]; simp)
      omega
  · cases m with
    | nil => simp only [List.nil_append, List.cons.injEq] at hm'; exact hm'.1.symm
    | cons m0 m1 =>
      simp only [List.cons_append, List.cons.injEq] at hm'
      have k1 := h1 w' (by rw [hm, hm'.1]; simp)
      have k2 := h2' w (by rw [hm'.2]; simp)
      omega
/-- one that is not the first of the greatest may go -/
theorem best_less {key : Cand → Int} {p q : List Cand} {u w : Cand} (h : Best key (p ++ u :: q) w) (hne : w ≠ u) : Best key (p ++ q) w := by
  obtain ⟨a, b, e, h1, h2⟩ := h
  rcases List.append_eq_append_iff.1 e with ⟨m, hm, hm'⟩ | ⟨m, hm, hm'⟩
  · cases m with
    | nil => simp only [List.nil_append, List.cons.injEq] at hm'; exact absurd hm'.1.symm hne
    | cons m0 m1 =>
      simp only [List.cons_append, List.cons.injEq] at hm'
      refine ⟨p ++ m1, b, by rw [hm'.2]; simp, fun x hx => h1 x ?_, h2⟩
      rw [hm]
      rcases List.mem_append.1 hx with hx | hx
      · simp [hx]
      · simp [hx]
  · cases m with
    | nil => simp only [List.nil_append, List.cons.injEq] at hm'; exact absurd hm'.1 hne
    | cons m0 m1 =>
      simp only [List.cons_append, List.cons.injEq] at hm'
      refine ⟨a, m1 ++ q, by rw [hm, hm'.1]; simp, h1, fun x hx => h2 x ?_⟩
      rw [hm'.2]
      rcases List.mem_append.1 hx with hx | hx
      · simp [hx]
      · simp [hx]
theorem best_mem {key : Cand → Int} {X : List Cand} {w : Cand} (h : Best key X w) : w ∈ X := by
  obtain ⟨a, b, e, _⟩ := h
  rw [e]; simp
theorem ascB_pair {l : List Cand} (h : ascB l = true) : l.Pairwise fun x y => x.1 < y.1 := by
  induction l with
  | nil => exact .nil
  | cons x r ih =>
    cases r with
    | nil => simp
    | cons y r =>
      have h' : (decide (x.1 < y.1) && ascB (y :: r)) = true := h
      obtain ⟨h1, h2⟩ := Bool.and_eq_true_iff.1 h'
      have ihp := ih h2
      refine List.pairwise_cons.2 ⟨fun z hz => ?_, ihp⟩
      rcases List.mem_cons.1 hz with rfl | hz
      · exact of_decide_eq_true h1
      · have := (List.pairwise_cons.1 ihp).1 z hz
        have := of_decide_eq_true h1
        omega
theorem pair_ascB {l : List Cand} (h : l.Pairwise fun x y => x.1 < y.1) : ascB l = true := ascB_of fun i hi => List.pairwise_iff_getElem.1 h i (i + 1) (by omega) hi (by omega)
/-- what an election gives with one candidate less -/
theorem steady {alg bd : Int} (ha : alg = 1 ∨ alg = 2) (hb : 0 ≤ bd) {p q : List Cand} {u : Cand} (hasc : ascB (p ++ u :: q) = true) (hlen : p ++ q ≠ []) :
    ∃ w w' : Cand, elect alg (p ++ u :: q) bd = (w.1, true) ∧ elect alg (p ++ q) bd = (w'.1, true) ∧ w'.1 ≠ u.1 ∧ (w.1 = u.1 ∨ w.1 = w'.1) := by
  have hp := ascB_pair hasc
  have hp2 : (p ++ q).Pairwise fun x y => x.1 < y.1 := by
    refine hp.sublist ?_
    exact List.Sublist.append_left (List.sublist_cons_self u q) p
  obtain ⟨key, hkey⟩ : ∃ key : Cand → Int, ∀ c r, pick alg bd c r = grt key c r := by
    rcases ha with rfl | rfl
    · exact ⟨fun c => wt c.1 bd, fun c r => by unfold pick; rw [if_neg (by decide), if_pos rfl]⟩
    · exact ⟨fun c => c.2, fun c r => by unfold pick; rw [if_neg (by decide), if_neg (by decide)]⟩
  have hc : ¬ (alg < 0 ∨ 3 ≤ alg ∨ bd < 0) := by omega
  have el : ∀ {X : List Cand}, X ≠ [] → ascB X = true → ∃ w, Best key X w ∧ elect alg X bd = (w.1, true) := by
    intro X hX hA
    cases X with
    | nil => exact absurd rfl hX
    | cons c r => exact ⟨_, grt_best key r c, by rw [elect_cons, if_neg hc, if_pos hA, hkey]⟩
  obtain ⟨w, b1, e1⟩ := el (X := p ++ u :: q) (by simp) hasc
  obtain ⟨w', b2, e2⟩ := el hlen (pair_ascB hp2)
  refine ⟨w, w', e1, e2, ?_, ?_⟩
  · have hm := best_mem b2
    have h3 := List.pairwise_append.1 hp
    rcases List.mem_append.1 hm with hm | hm
    · have := h3.2.2 w' hm u (by simp); omega
    · have := (List.pairwise_cons.1 h3.2.1).1 w' hm; omega
  · by_cases hwu : w = u
    · exact .inl (by rw [hwu])
    · exact .inr (by rw [best_one (best_less b1 hwu) b2])
theorem Steady_in {v : AVal} {l : List Int} {which bd : Int} (hg : glob0 s) (h : Sli s v l) : wpCall Tryz.prog XX 6 [v, .int .i64 which, .int .i64 bd] (fun v _ => v = .bool true) s := by
  refine vc_leafmeshlaw25_SegmentSteady_in (awake_in hg (cands_in h fun v' s1 sub1 h1 => ?_))
  have hlen20 : (mkc l).length ≤ 20 := by rw [mkc_len]; omega
  have hasc := mkc_asc l
  generalize mkc l = L at h1 hlen20 hasc
  simp only [h1.len, List.length_map, optK_mk, arith_lss]
  refine boolK_mk (fun _ => by trivial) fun h2 => ?_
  have h2 : 2 ≤ L.length := by have := of_decide_eq_false h2; omega
  refine Pick_in (by omega) (by omega) (Pick_in (by omega) (by omega) ?_)
  have k0 := Int.emod_nonneg which (show ((L.length : Nat) : Int) ≠ 0 by omega)
  have k1 := Int.emod_lt_of_pos which (show (0 : Int) < ((L.length : Nat) : Int) by omega)
  have b0 := Int.emod_nonneg bd (show (1048576 : Int) ≠ 0 by omega)
  generalize bd % 1048576 = B at b0
  obtain ⟨k, hk⟩ : ∃ k : Nat, which % ((L.length : Nat) : Int) = k := ⟨_, (Int.toNat_of_nonneg k0).symm⟩
  rw [hk] at k1 ⊢
  have hkl : k < L.length := by omega
  have hLne : L.map candR ≠ [] := by intro e; rw [List.map_eq_nil_iff] at e; rw [e] at hkl; simp at hkl
  refine optK_of (a := []) rfl ⟨rfl, new_step fun b s2 hb h2' u2 => ?_⟩
  have sub2 := u2.sub hb
  obtain ⟨va, ea, ha, _⟩ := h1.take (k := k) (by simp; omega) hLne
  simp only [ea, optK_mk]
  refine app_ownR (s0 := s1) (rows := []) (.inl ⟨rfl, b, rfl⟩) (ha.sub sub2) (by simp; omega) sub2 fun v3 s3 h3 sub3 => ?_
  simp only [arith_add, optK_mk]
  rw [wrap64 (by omega) (by omega)]
  obtain ⟨vb, eb, hb', _⟩ := h1.drop (k := k + 1) (by simp; omega) hLne
  have eb : sliceS 2 v' (some (.int .i64 ((k : Int) + 1))) none none = some vb := eb
  simp only [eb, optK_mk]
  refine app_ownR (s0 := s1) h3 (hb'.sub sub3) (by simp; omega) sub3 fun v4 s4 h4 sub4 => ?_
  have hrows : [] ++ (L.map candR).take k ++ (L.map candR).drop (k + 1) = (L.take k ++ L.drop (k + 1)).map candR := by
    rw [List.nil_append, List.map_append, List.map_take, List.map_drop]
  rw [hrows] at h4
  have h5 : SlC s4 v4 (L.take k ++ L.drop (k + 1)) := by
    rcases h4 with ⟨e, b, rfl⟩ | h4
    · unfold SlC; rw [e]; exact .empty
    · exact h4.sl
  have split : L = L.take k ++ L[k] :: L.drop (k + 1) := by
    conv => lhs; rw [← List.take_append_drop k L, List.drop_eq_getElem_cons hkl]
  have hne : L.take k ++ L.drop (k + 1) ≠ [] := by
    intro e
    have := congrArg List.length e
    rw [List.length_append, List.length_take, List.length_drop, Nat.min_eq_left (by omega)] at this
    simp at this
    omega
  have hlen5 : (L.take k ++ L.drop (k + 1)).length ≤ 1000 := by simp; omega
  refine ⟨fun ys s5 n => ∃ alg : Nat, ys = [.int .i64 alg] ∧ 1 ≤ alg ∧ alg ≤ 3 ∧ n = 3 - alg ∧ Sub s4 s5, ⟨_, 1, rfl, by omega, by omega, rfl, .refl s4⟩, ?_⟩
  rintro fe s5 n ⟨alg, hy, ha1, ha3, rfl, sub5⟩
  simp only [List.cons.injEq, and_true] at hy
  rw [hy]
  simp only [vc_leafmeshlaw25_SegmentSteady_l0, arith_leq, optK_mk]
  refine boolK_mk (fun hle => ?_) (fun _ => by trivial)
  have hle : alg ≤ 2 := by have := of_decide_eq_true hle; omega
  obtain ⟨w, w', e1, e2, ne, or⟩ := steady (alg := alg) (bd := B) (by omega) b0 (p := L.take k) (q := L.drop (k + 1)) (u := L[k]) (by rw [← split]; exact hasc) hne
  rw [← split] at e1
  have h15 := h1.sub (sub4.trans sub5)
  refine Elect_in h15 (by omega) fun s6 sub6 => ?_
  rw [e1]
  simp only [extract_mk, List.getElem?_cons_zero, List.getElem?_cons_succ, optK_mk]
  refine Elect_in ((h5.sub sub5).sub sub6) hlen5 fun s7 sub7 => ?_
  rw [e2]
  have h17 := h15.sub (sub6.trans sub7)
  obtain ⟨pb, po, g1, _, g2, _⟩ := slc_at h17 hkl
  have q1 : (w'.1 == L[k].1) = false := by
    cases q : (w'.1 == L[k].1) with
    | false => rfl
    | true => exact absurd (eq_of_beq q) ne
  have fin : optK (arithV .add (.int .i64 (alg : Int)) (.int .i64 1)) fun v_43 => ∃ m', m' < 3 - alg ∧ ∃ alg_1 : Nat, [v_43] = [AVal.int .i64 alg_1] ∧ 1 ≤ alg_1 ∧ alg_1 ≤ 3 ∧ m' = 3 - alg_1 ∧ Sub s4 s7 := by
    simp only [arith_add, optK_mk]
    rw [wrap64 (by omega) (by omega)]
    exact ⟨_, by omega, alg + 1, by simp, by omega, by omega, rfl, (sub5.trans sub6).trans sub7⟩
  simp only [extract_mk, List.getElem?_cons_zero, List.getElem?_cons_succ, optK_mk, unary_not, Bool.not_true, boolK_false, vc_leafmeshlaw25_SegmentSteady_j1, pickV_false, g1, addOff_ptr, g2, eqV_int, q1, negB_mk, Bool.bne_false, vc_leafmeshlaw25_SegmentSteady_j2, Bool.true_bne]
  cases q2 : (w.1 == L[k].1) with
  | true =>
    simp only [Bool.not_true, boolK_false, vc_leafmeshlaw25_SegmentSteady_j3, pickV_false, optK_mk]
    exact fin
  | false =>
    have hw : w.1 = w'.1 := or.resolve_left fun e => by rw [e] at q2; simp at q2
    simp only [Bool.not_false, boolK_true, hw, eqV_int, beq_self_eq_true, negB_mk, Bool.true_bne, Bool.not_true, optK_mk, vc_leafmeshlaw25_SegmentSteady_j3, pickV_true, pickV_false, boolK_false]
    exact fin
theorem Steady_wp (s : Heap) (xs : List AVal) (hg : glob0 s) (h : ArgL Tryz.prog s 40 [70, 3, 3] xs) : wpCall Tryz.prog XX 6 xs (fun v _ => v = .bool true) s := by
  obtain ⟨a, b, c, rfl, h1, h2, h3⟩ := argl3 h
  obtain ⟨l, hl⟩ := prefs_arg (d := 38) h1
  obtain ⟨which, rfl, _⟩ := arg_int (d := 39) Tryz.underlying3 h2
  obtain ⟨bd, rfl, _⟩ := arg_int (d := 39) Tryz.underlying3 h3
  exact Steady_in hg hl
end Go.AM
