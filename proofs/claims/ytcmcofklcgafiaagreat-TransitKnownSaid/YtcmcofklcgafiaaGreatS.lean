/- Part S of the proof: see the last part. -/
import Derived.Test.YtcmcofklcgafiaaGreatU2
import Derived.Shelf.SlIterI.Nil
import Derived.Shelf.SortM.Plain
import Derived.Shelf.SortM.SortNone
import Derived.Ground.GgzProg
import Derived.Ground.SlgmProg
import Derived.Test.YtcmcofklcgafiaaGreatProg
import Derived.KernelRfl
namespace Go.AM
open Go Go.Proofs Go.RowKit Go.Maps Go.Sort Go.Shelf Go.WideShapes
/-! ### 'slices.Sorted(maps.Keys(m))' at keys of the kind int, taken as told -/
/-- maps.Keys: a function over one new block that holds the map -/
def keysG (it : FuncId) (args : List AVal) : M AVal := match args with
  | [.nilmap] => bd (nw (.one .nilmap)) fun id => ret (.fn (.func it) [] [.ptr id 0])
  | [.map m] => bd (nw (.one (.map m))) fun id => ret (.fn (.func it) [] [.ptr id 0])
  | _ => fail
def isIn64 (n : Int) : Bool := eqI (wrapK .i64 n) n
/-- the keys, if the entries are in order: whole numbers, no key and no stamp twice, no stamp from later on -/
def keysI (clock : Nat) : List AEnt → List Nat → List Int → Option (List Int)
  | [], _, _ => some []
  | e :: es, bs, ks => match e.key with
    | .int .i64 n => cond (isIn64 n && (Nat.blt e.born clock && (!hasN e.born bs && !ks.any fun k => eqI k n))) (match keysI clock es (e.born :: bs) (n :: ks) with
      | some l => some (n :: l)
      | none => none) none
    | _ => none
def insI (n : Int) : List Int → List Int
  | [] => [n]
  | m :: l => cond (ltI m n) (m :: insI n l) (n :: m :: l)
def sortI : List Int → List Int
  | [] => []
  | n :: l => insI n (sortI l)
def ints : List Int → List AVal
  | [] => []
  | n :: l => .int .i64 n :: ints l
def sortedG (its : List FuncId) (elem : TypeId) (args : List AVal) : M AVal := match args with
  | [.fn (.func k) [] [.ptr b 0]] => cond (memN k its) (bd (rd b) fun blk => match blk with
    | .one .nilmap => ret .nilslc
    | .one (.map m) => bd (rd m) fun blk => match blk with
      | .map es clock => match keysI clock es [] [] with
        | some ks => cond (Nat.ble es.length 100000) (match sortI ks with
          | [] => ret .nilslc
          | x :: l => bd (newCells elem (ints (x :: l))) fun id => ret (.slc id 0 (l.length + 1) none 1)) fail
        | none => fail
      | _ => fail
    | _ => fail) fail
  | _ => fail
theorem fr_keysG (it : FuncId) (args : List AVal) : Fr (keysG it args) := by
  unfold keysG
  split <;> first | exact fr_fail | exact fr_bd (fr_nw _) fun _ => fr_ret _
theorem fr_sortedG (its : List FuncId) (elem : TypeId) (args : List AVal) : Fr (sortedG its elem args) := by
  unfold sortedG
  repeat' first | exact fr_fail | exact fr_ret _ | exact fr_rd _ | exact fr_newCells _ _ | (refine fr_cond _ ?_ ?_) | (refine fr_bd ?_ fun _ => ?_) | split
/-! the plain part -/
theorem insI_perm (n : Int) : ∀ l, (insI n l).Perm (n :: l)
  | [] => .refl _
  | m :: l => by
    unfold insI
    cases ltI m n with
    | true => exact ((insI_perm n l).cons m).trans (.swap n m l)
    | false => exact .refl _
theorem sortI_perm : ∀ l, (sortI l).Perm l
  | [] => .refl _
  | n :: l => (insI_perm n (sortI l)).trans ((sortI_perm l).cons n)
theorem insI_sorted (n : Int) : ∀ l : List Int, l.Pairwise (· ≤ ·) → (insI n l).Pairwise (· ≤ ·)
  | [], _ => by simp [insI]
  | m :: l, h => by
    have h' := List.pairwise_cons.1 h
    unfold insI
    cases hb : ltI m n with
    | true =>
      rw [ltI_eq, decide_eq_true_eq] at hb
      refine List.pairwise_cons.2 ⟨fun x hx => ?_, insI_sorted n l h'.2⟩
      rcases List.mem_cons.1 ((insI_perm n l).mem_iff.1 hx) with rfl | hx
      · omega
      · exact h'.1 x hx
    | false =>
      rw [ltI_eq, decide_eq_false_iff_not] at hb
      refine List.pairwise_cons.2 ⟨fun x hx => ?_, h⟩
      rcases List.mem_cons.1 hx with rfl | hx
      · omega
      · have := h'.1 x hx; omega
theorem sortI_sorted : ∀ l : List Int, (sortI l).Pairwise (· ≤ ·)
  | [] => by simp [sortI]
  | n :: l => insI_sorted n _ (sortI_sorted l)
theorem sortI_merge {ss l : List Int} (h : ss.Perm l) : ss.mergeSort (fun x y => decide (x ≤ y)) = sortI l := by
  have tr : ∀ a b c : Int, decide (a ≤ b) = true → decide (b ≤ c) = true → decide (a ≤ c) = true := fun a b c h1 h2 => by simp only [decide_eq_true_eq] at *; omega
  have to : ∀ a b : Int, (decide (a ≤ b) || decide (b ≤ a)) = true := fun a b => by simp only [Bool.or_eq_true, decide_eq_true_eq]; omega
  refine List.Perm.eq_of_pairwise (le := fun a b : Int => a ≤ b) (fun a b _ _ h1 h2 => by omega) ((List.pairwise_mergeSort tr to ss).imp fun h => by simpa using h) (sortI_sorted l) (((List.mergeSort_perm ss _).trans h).trans (sortI_perm l).symm)
theorem ints_eq : ∀ l : List Int, ints l = l.map fun n => AVal.int .i64 n
  | [] => rfl
  | n :: l => by unfold ints; rw [ints_eq l]; rfl
theorem isIn64_wf {n : Int} (h : isIn64 n = true) : (Lit.int .i64 n).wf = true := by
  unfold isIn64 at h
  rw [eqI_eq, wrapK_eq] at h
  have h : IntKind.wrap .i64 n = n := by simpa using h
  have h2 : -9223372036854775808 ≤ n ∧ n ≤ 9223372036854775807 := by
    simp [IntKind.wrap, IntKind.bits, IntKind.signed] at h
    split at h <;> omega
  simp [Lit.wf, IntKind.min, IntKind.max, IntKind.bits, IntKind.signed]
  omega
section
variable {P : Program} {σ : Nat → Value} {ρ : Ren}
structure KeysOK (ρ : Ren) (clock : Nat) (es' : List MapEntry) (bs : List Nat) (ks : List Int) (l : List Int) : Prop where
  keys : es'.map (·.key) = l.map encZ
  wf : ∀ n ∈ l, (Lit.int .i64 n).wf = true
  born : ∀ x ∈ es', x.born < clock
  stamps : (es'.map (·.born)).Nodup ∧ ∀ x ∈ es', x.born ∉ bs
  apart : l.Nodup ∧ ∀ n ∈ l, n ∉ ks
theorem hasN_iff {n : Nat} : ∀ {l : List Nat}, hasN n l = true ↔ n ∈ l
  | [] => by simp [hasN]
  | m :: l => by
    unfold hasN
    rw [Bool.or_eq_true, hasN_iff, List.mem_cons]
    constructor
    · rintro (h | h)
      · exact Or.inl (Nat.eq_of_beq_eq_true h)
      · exact Or.inr h
    · rintro (rfl | h)
      · exact Or.inl (by simp)
      · exact Or.inr h
theorem keysI_rel {clock : Nat} : ∀ {es : List AEnt} {es' : List MapEntry} {bs : List Nat} {ks l : List Int}, EsRel σ ρ es es' → keysI clock es bs ks = some l → KeysOK ρ clock es' bs ks l
  | [], es', bs, ks, l, hr, h => by
    cases h
    have := hr.len
    cases es' with
    | nil => exact ⟨rfl, by simp, by simp, by simp, by simp⟩
    | cons => simp at this
  | e :: es, es', bs, ks, l, hr, h => by
    cases es' with
    | nil => have := hr.len; simp at this
    | cons e' es' =>
      have ha := hr.at_ 0 e e' rfl rfl
      have ht : EsRel σ ρ es es' := ⟨by have := hr.len; simpa using this, fun i x y hx hy => hr.at_ (i + 1) x y (by simpa using hx) (by simpa using hy)⟩
      unfold keysI at h
      split at h
      · rename_i n hkey
        obtain ⟨hc, h⟩ := condO_some h
        simp only [Bool.and_eq_true, Bool.not_eq_true'] at hc
        obtain ⟨c1, c2, c3, c4⟩ := hc
        split at h
        · rename_i l' hl'
          cases h
          have ih := keysI_rel ht hl'
          have hk := ha.key
          rw [hkey] at hk
          unfold Rel at hk
          have hn : n ∉ ks := by
            intro hm
            rw [List.any_eq_false] at c4
            exact c4 n hm (by rw [eqI_eq]; simp)
          have hb : e.born ∉ bs := fun hm => by rw [hasN_iff.2 hm] at c3; cases c3
          refine ⟨by simp [hk, ih.keys], fun m hm => ?_, fun x hx => ?_, ⟨?_, fun x hx => ?_⟩, ?_, fun m hm => ?_⟩
          · rcases List.mem_cons.1 hm with rfl | hm
            · exact isIn64_wf c1
            · exact ih.wf m hm
          · rcases List.mem_cons.1 hx with rfl | hx
            · rw [ha.born]; simpa [Nat.blt_eq] using c2
            · exact ih.born x hx
          · simp only [List.map_cons, List.nodup_cons]
            refine ⟨fun hm => ?_, ih.stamps.1⟩
            obtain ⟨x, hx, hxb⟩ := List.mem_map.1 hm
            exact ih.stamps.2 x hx (by rw [hxb, ha.born]; simp)
          · rcases List.mem_cons.1 hx with rfl | hx
            · rw [ha.born]; exact hb
            · exact fun hm => ih.stamps.2 x hx (by simp [hm])
          · exact List.nodup_cons.2 ⟨fun hm => ih.apart.2 n hm (by simp), ih.apart.1⟩
          · rcases List.mem_cons.1 hm with rfl | hm
            · exact hn
            · exact fun h2 => ih.apart.2 m hm (by simp [h2])
        · cases h
      · cases h
def R1 : Value → Option (DataW Unit × List MemPlace) := fun _ => some (.lit (.bool true), [])
theorem own_of {T : TypeId} (hT : P.underlying T = some (.int .i64)) {w : World} {b clock : Nat} {es' : Array MapEntry} {l : List Int} (hb : w.heap[b]? = some (.map es' clock)) (hk : KeysOK ρ clock es'.toList [] [] l) (hsz : es'.size ≤ 100000) :
    ∃ D0 : DataW Unit, w.ownsMap P T R1 b es'.size D0 ∧ (intKeys D0).Perm l ∧ Maps.size D0 ≤ 100000 := by
  have hlen : es'.toList.length = l.length := by have := congrArg List.length hk.keys; simpa using this
  have rdk : ∀ x ∈ es'.toList, ∃ n, x.key = encZ n ∧ WideElems.rd P T R1 x = some (.int .i64 n, .lit (.bool true)) := by
    intro x hx
    have : x.key ∈ es'.toList.map (·.key) := List.mem_map.2 ⟨x, hx, rfl⟩
    rw [hk.keys] at this
    obtain ⟨n, hn, he⟩ := List.mem_map.1 this
    refine ⟨n, he.symm, ?_⟩
    have hw := hk.wf n hn
    simp [WideElems.rd, Go.keyOf, hT, mapKey, ← he, hw, R1]
  refine ⟨_, ⟨es', clock, hb, ⟨by unfold maxLen; omega, ⟨hk.born, hk.stamps.1, by rw [hk.keys]; exact (List.pairwise_map.2 (hk.apart.1.imp fun hne e => hne (encZ_inj e)))⟩, fun x hx => ?_⟩, Nat.le_refl _, rfl⟩, ?_, ?_⟩
  · obtain ⟨n, _, h⟩ := rdk x hx; exact ⟨_, h⟩
  · show List.Perm (((es'.toList.map (WideElems.rg P T R1)).foldr DataW.insert []).map fun p => intOf p.1) l
    refine ((sorted_perm _).map _).trans ?_
    have : ∀ (xs : List MapEntry) (ls : List Int), xs.map (·.key) = ls.map encZ → (∀ x ∈ xs, ∃ n, x.key = encZ n ∧ WideElems.rd P T R1 x = some (.int .i64 n, .lit (.bool true))) → (xs.map (WideElems.rg P T R1)).map (fun p => intOf p.1) = ls := by
      intro xs
      induction xs with
      | nil => intro ls h _; cases ls <;> simp_all
      | cons x xs ih =>
        intro ls h hr
        cases ls with
        | nil => simp at h
        | cons n ls =>
          simp only [List.map_cons, List.cons.injEq] at h ⊢
          obtain ⟨m, hm, hr1⟩ := hr x (by simp)
          refine ⟨?_, ih ls h.2 fun y hy => hr y (by simp [hy])⟩
          rw [h.1] at hm
          have := encZ_inj hm
          subst this
          simp [WideElems.rg, hr1, intOf]
    rw [this es'.toList l hk.keys rdk]
  · show (((es'.toList.map (WideElems.rg P T R1)).foldr DataW.insert [])).length ≤ 100000
    rw [(sorted_perm _).length_eq]
    simpa using hsz
/-- what the program's texts of maps.Keys and slices.Sorted are to keep -/
structure SortedOK (P : Program) (T : TypeId) (fs : FuncId) (l : List (FuncId × FuncId × TypeId)) : Prop where
  ty : P.underlying T = some (.int .i64)
  keys : ∀ p ∈ l, ∀ mb W, CallsIn Fence.wide 0 P p.1 #[.map mb] W fun e w' => e = .returned (.func (.func p.2.1) #[] #[.pointer (some ⟨W.heap.size, 0, none⟩)]) ∧ w' = W.alloc (.cells #[.map mb] p.2.2)
  sorted : ∀ p ∈ l, ∀ (Bm b nn : Nat) (D0 : DataW Unit) (w : World), Bm < w.heap.size → w.cell? ⟨Bm, 0, none⟩ = some (.map (some b)) → w.ownsMap P T R1 b nn D0 → Maps.size D0 ≤ 100000 →
    CallsIn Fence.wide 0 P fs #[.func (.func p.2.1) #[] #[.pointer (some ⟨Bm, 0, none⟩)]] w fun e w' => ∃ (v : Value) (ss : List Int), e = .returned v ∧ ss.Perm (intKeys D0) ∧
      w'.ownsRow w.heap.size T 1 v ss.length ((ss.mergeSort (fun x y => decide (x ≤ y))).map encZ) ∧ (v = .slice none 0 0 ↔ ss = []) ∧ Below w.heap.size w w'
  none : ∀ p ∈ l, ∀ (Bm : Nat) (w : World), Bm < w.heap.size → w.cell? ⟨Bm, 0, none⟩ = some (.map none) →
    CallsIn Fence.wide 0 P fs #[.func (.func p.2.1) #[] #[.pointer (some ⟨Bm, 0, none⟩)]] w fun e w' => e = .returned (.slice none 0 0) ∧ Below w.heap.size w w'
def sortedX (T : TypeId) (fs : FuncId) (l : List (FuncId × FuncId × TypeId)) : Told := fun f => cond (Nat.beq f fs) (some (sortedG (l.map (·.2.1)) T)) (match l.find? fun p => Nat.beq f p.1 with
  | some p => some (keysG p.2.1)
  | none => none)
theorem sortedX_ok {T : TypeId} {fs : FuncId} {l : List (FuncId × FuncId × TypeId)} (hP : SortedOK P T fs l) : ExtOK P (sortedX T fs l) := by
  refine ⟨fun f g args h => ?_, fun f g hg args H v H' hr σ ρ base w args' hσ hwr hf hra => ?_⟩
  · unfold sortedX at h
    cases hb : Nat.beq f fs with
    | true => rw [hb] at h; cases h; exact fr_sortedG _ _ _
    | false =>
      rw [hb] at h
      simp only [cond_false] at h
      split at h
      · cases h; exact fr_keysG _ _
      · cases h
  · unfold sortedX at hg
    cases hb : Nat.beq f fs with
    | true =>
      rw [hb] at hg
      cases hg
      have e := Nat.eq_of_beq_eq_true hb
      subst e
      unfold sortedG at hr
      split at hr
      · rename_i k b
        obtain ⟨hk, hr2⟩ := cond_some hr
        clear hr
        obtain ⟨p, hp, rfl⟩ := List.mem_map.1 (memN_iff.1 hk)
        obtain ⟨blk, K, h1, h2⟩ := bd_some hr2
        obtain ⟨hb1, e1, e2, e3⟩ := rd_some h1
        -- the arguments
        have harg : ∃ L, ρ b = some L ∧ args' = #[.func (.func p.2.1) #[] #[.pointer (some ⟨L.blk, L.sh + 0, none⟩)]] := by
          unfold RelL at hra
          obtain ⟨y, ys, g1, g2, g3⟩ := hra
          unfold RelL at g3
          subst g3
          unfold Rel at g2
          obtain ⟨as', bs', rfl, g4, g5⟩ := g2
          unfold RelL at g4 g5
          obtain ⟨z, zs, g6, g7, g8⟩ := g5
          unfold RelL at g8
          subst g8
          unfold Rel at g7
          obtain ⟨L, hL, rfl⟩ := g7
          refine ⟨L, hL, ?_⟩
          apply Array.toList_inj.1
          rw [g1]
          have : as' = #[] := by apply Array.toList_inj.1; simpa using g4
          have h2 : bs' = #[.pointer (some ⟨L.blk, L.sh + 0, Option.none⟩)] := by apply Array.toList_inj.1; simpa using g6
          rw [this, h2]
        obtain ⟨L, hL, rfl⟩ := harg
        cases blk with
        | one x =>
          obtain ⟨L', hL', hsh, v1, el, fr, q1, q2⟩ := hwr.blk _ _ hb1
          rw [hL] at hL'; cases hL'
          rw [hsh]
          have hlt : L.blk < w.heap.size := lt_of_get q1
          have hcell : w.cell? ⟨L.blk, 0, Option.none⟩ = some v1 := by simp [World.cell?, q1]
          cases x with
          | nilmap =>
            cases ret_some h2
            unfold Rel at q2; subst q2
            refine (hP.none p hp L.blk w hlt hcell).mono ?_
            rintro en w' ⟨rfl, hbel⟩
            refine ⟨_, ρ, rfl, ⟨?_, ?_, hbel.mono hwr.base⟩, by unfold Rel; rfl⟩
            · rw [e3]; exact .refl _ _ _
            · exact (wr_below hwr hbel).log e1 e2
          | map m =>
            unfold Rel at q2
            obtain ⟨D, hD, rfl⟩ := q2
            obtain ⟨blk2, K2, h3, h4⟩ := bd_some h2
            obtain ⟨hb2, f1, f2, f3⟩ := rd_some h3
            rw [e1] at hb2
            cases blk2 with
            | map es clock =>
              simp only at h4
              generalize hki : keysI clock es [] [] = ki at h4
              cases ki with
              | none => exact (fail_some h4).elim
              | some ks =>
                obtain ⟨hc, h5⟩ := cond_some h4
                have hc : es.length ≤ 100000 := Nat.le_of_ble_eq_true hc
                obtain ⟨D', hD', es', q4, q5⟩ := hwr.blk _ _ hb2
                rw [hD] at hD'; cases hD'
                have hko := keysI_rel q5 hki
                have hsz : es'.size ≤ 100000 := by have := q5.len; simp at this; omega
                obtain ⟨D0, o1, o2, o3⟩ := own_of hP.ty q4 hko hsz
                refine (hP.sorted p hp L.blk D.blk _ D0 w hlt hcell o1 o3).mono ?_
                rintro en w' ⟨v', ss, rfl, hperm, hrow, hnil, hbel⟩
                have hms : ss.mergeSort (fun x y => decide (x ≤ y)) = sortI ks := sortI_merge (hperm.trans o2)
                rw [hms] at hrow
                have hlen : ss.length = (sortI ks).length := by rw [← hms]; exact (List.length_mergeSort _).symm
                have hwr' := (wr_below hwr hbel).log (K := K2) (by rw [f1, e1]) (by rw [f2, e2])
                have hnx : K2.next = H.next := by rw [f3, e3]
                cases hs : sortI ks with
                | nil =>
                  rw [hs] at h5
                  cases ret_some h5
                  have : ss = [] := List.eq_nil_of_length_eq_zero (by rw [hlen, hs]; rfl)
                  have hv := hnil.2 this
                  subst hv
                  exact ⟨_, ρ, rfl, ⟨by rw [hnx]; exact .refl _ _ _, hwr', hbel.mono hwr.base⟩, by unfold Rel; rfl⟩
                | cons x lx =>
                  rw [hs] at h5 hrow hlen
                  obtain ⟨id, K3, h6, h7⟩ := bd_some h5
                  cases ret_some h7
                  obtain ⟨_, h8⟩ := cond_some h6
                  obtain ⟨rfl, hlo, hk3, hkl, hkn⟩ := nw_some h8
                  obtain ⟨_, hrow⟩ := hrow
                  rcases hrow with ⟨hv, hz⟩ | ⟨gb, cap, cur, rfl, hbase, hgb, r1, r2, r3, r4⟩
                  · rw [hz] at hlen; simp at hlen
                  · have hu : Upd w' gb (.cells cur T (0, 0)) w' := ⟨rfl, rfl, rfl, Nat.le_refl _, hgb, fun _ _ => rfl⟩
                    have hn : ρ K2.next = Option.none := hf K2.next (by omega) (by omega)
                    have hb0 := hwr.base
                    have hcells : ∀ i v, (Tr.ofListAt .nil 0 (ints (x :: lx))).get i = some v → ∃ v', cur[0 + i]? = some v' ∧ ∀ ρ', Rel σ ρ' v v' ∧ v'.oneCell' = true := by
                      intro i v hv
                      rw [Tr.get_ofListAt] at hv
                      split at hv
                      · rename_i hi
                        rw [ints_eq, List.getElem?_map, Nat.sub_zero] at hv
                        obtain ⟨n, hn1, rfl⟩ := Option.map_eq_some_iff.1 hv
                        refine ⟨encZ n, ?_, fun ρ' => ⟨by unfold Rel; rfl, rfl⟩⟩
                        have h9 : (cur.toList.take (ss.length * 1))[i]? = some (encZ n) := by rw [r4, List.getElem?_map, hn1]; rfl
                        rw [List.getElem?_take] at h9
                        split at h9
                        · rw [Nat.zero_add, ← Array.getElem?_toList]; exact h9
                        · cases h9
                      · rw [Tr.get_nil] at hv; cases hv
                    have hil : (ints (x :: lx)).length = lx.length + 1 := by rw [ints_eq]; simp
                    have h12 : lx.length + 1 ≤ cap := by have := hlen; simp only [List.length_cons] at this; omega
                    obtain ⟨ρ', x1, x2, x3, x4⟩ := hwr'.new (K := H') (w' := w') (L := ⟨gb, 0, cur.size⟩) (b := .cells T (Tr.ofListAt .nil 0 (ints (x :: lx))) (ints (x :: lx)).length) hn
                      (fun j bj Lj hj hLj => by
                        rw [f1, e1] at hj
                        exact Nat.ne_of_lt (Nat.lt_of_lt_of_le (live_lt hwr hj hLj) hbase)) (Nat.le_trans hb0 hbase) hu
                      (fun ρ' hle _ => ⟨cur, (0, 0), rfl, fun _ => rfl, rfl, by simp only [Nat.zero_add]; rw [hil, r3, Nat.mul_one]; omega, fun i v hv => by
                        obtain ⟨v', h10, h11⟩ := hcells i v hv
                        exact ⟨v', h10, (h11 ρ').1, (h11 ρ').2⟩⟩) hk3 hkl hkn
                    refine ⟨_, ρ', rfl, ⟨by rw [← hnx]; exact x1, x3, hbel.mono hwr.base⟩, ?_⟩
                    unfold Rel
                    exact ⟨⟨gb, 0, cur.size⟩, ⟨gb, 0, Option.none⟩, cap, x2, by rw [hlen]; rfl, Or.inl ⟨rfl, by simp only [Nat.zero_add, Nat.mul_one]; rw [r3, Nat.mul_one]; exact Nat.le_refl _⟩, by rw [hlen] at r1; simpa using r1, by intro k hk; cases hk⟩
            | _ => exact (fail_some h4).elim
          | _ => exact (fail_some h2).elim
        | _ => exact (fail_some h2).elim
      · exact (fail_some (H := H) hr).elim
    | false =>
      rw [hb] at hg
      simp only [cond_false] at hg
      split at hg
      · rename_i p hp
        cases hg
        have hmem := List.mem_of_find?_eq_some hp
        have he := List.find?_some hp
        have he : f = p.1 := Nat.eq_of_beq_eq_true he
        subst he
        unfold keysG at hr
        have fin : ∀ (x : AVal) (mb : Option Nat), (∀ ρ', Le ρ ρ' → Rel σ ρ' x (.map mb)) → args' = #[.map mb] → bd (nw (.one x)) (fun id => ret (.fn (.func p.2.1) [] [.ptr id 0])) H = some (v, H') → CallsIn Fence.wide 0 P p.1 args' w (ValPost σ ρ base H H' w v) := by
          intro x mb hx ha h
          subst ha
          obtain ⟨id, K, h1, h2⟩ := bd_some h
          cases ret_some h2
          refine (hP.keys p hmem mb w).mono ?_
          rintro en w' ⟨rfl, rfl⟩
          obtain ⟨ρ', p1, p2, p3, p4⟩ := newBlk_ok' (o := .cells #[.map mb] p.2.2 (0, 0)) h1 hwr hf (fun ρ' hle => ⟨rfl, .map mb, p.2.2, (0, 0), rfl, hx ρ' hle⟩)
          refine ⟨_, ρ', rfl, ⟨p1, p2, p3⟩, ?_⟩
          unfold Rel
          exact ⟨_, _, rfl, .nil, .cons (by unfold Rel; exact ⟨_, p4, rfl⟩) .nil⟩
        have one : ∀ x : AVal, RelL σ ρ [x] args'.toList → ∃ v, args' = #[v] ∧ Rel σ ρ x v := by
          intro x hx
          unfold RelL at hx
          obtain ⟨y, ys, g1, g2, g3⟩ := hx
          unfold RelL at g3
          subst g3
          exact ⟨y, by apply Array.toList_inj.1; rw [g1], g2⟩
        split at hr
        · obtain ⟨v1, ha, hv1⟩ := one _ hra
          unfold Rel at hv1
          exact fin .nilmap Option.none (fun ρ' _ => by unfold Rel; rfl) (by rw [ha, hv1]) hr
        · rename_i m
          obtain ⟨v1, ha, hv1⟩ := one _ hra
          unfold Rel at hv1
          obtain ⟨D, hD, hv1⟩ := hv1
          exact fin (.map m) (some D.blk) (fun ρ' hle => by unfold Rel; exact ⟨D, hle _ _ hD, rfl⟩) (by rw [ha, hv1]) hr
        · exact (fail_some (H := H) hr).elim
      · cases hg
end
end Go.AM
namespace Go.Proofs.YtcmcofklcgafiaaGreat
open Go Go.RowKit Go.Maps Go.Sort Go.Shelf
set_option maxRecDepth 100000
def keys43_ren : Go.Shelf.Ren := ⟨fun | 7 => 43 | 10 => 95 | n => n, fun | 23 => 70 | 26 => 3 | 3 => 115 | 28 => 113 | 0 => 0 | 27 => 112 | 33 => 102 | 4 => 4 | n => n, fun | n => n⟩
theorem keys43 : Go.Proofs.SlLaysZI.n7 Tryz.prog keys43_ren := {
  mixed := by kernel_rfl,
  f7 := ⟨Tryz.f43.name, by decide, Tryz.func43.trans (congrArg some (by kernel_rfl))⟩,
  f10 := ⟨Tryz.f95.name, by decide, Tryz.func95.trans (congrArg some (by kernel_rfl))⟩,
  t0 := Tryz.underlying0,
  a0 := Tryz.isAgg0,
  z0 := Tryz.sizeOf0,
  v0 := Tryz.zeroValue0,
  t4 := Tryz.underlying4,
  a4 := Tryz.isAgg4,
  z4 := Tryz.sizeOf4,
  v4 := Tryz.zeroValue4,
  t23 := Tryz.underlying70,
  a23 := Tryz.isAgg70,
  z23 := Tryz.sizeOf70,
  v23 := Tryz.zeroValue70,
  t26 := Tryz.underlying3,
  a26 := Tryz.isAgg3,
  z26 := Tryz.sizeOf3,
  v26 := Tryz.zeroValue3,
  t27 := Tryz.underlying112,
  a27 := Tryz.isAgg112,
  z27 := Tryz.sizeOf112,
  v27 := Tryz.zeroValue112,
  t28 := Tryz.underlying113,
  a28 := Tryz.isAgg113,
  z28 := Tryz.sizeOf113,
  v28 := Tryz.zeroValue113,
  t33 := Tryz.underlying102,
  a33 := Tryz.isAgg102,
  z33 := Tryz.sizeOf102,
  v33 := Tryz.zeroValue102 }
def keys114_ren : Go.Shelf.Ren := ⟨fun | 7 => 114 | 10 => 144 | n => n, fun | 23 => 215 | 26 => 3 | 3 => 34 | 28 => 113 | 0 => 0 | 27 => 112 | 33 => 102 | 4 => 4 | n => n, fun | n => n⟩
theorem keys114 : Go.Proofs.SlLaysZI.n7 Tryz.prog keys114_ren := {
  mixed := by kernel_rfl,
  f7 := ⟨Tryz.f114.name, by decide, Tryz.func114.trans (congrArg some (by kernel_rfl))⟩,
  f10 := ⟨Tryz.f144.name, by decide, Tryz.func144.trans (congrArg some (by kernel_rfl))⟩,
  t0 := Tryz.underlying0,
  a0 := Tryz.isAgg0,
  z0 := Tryz.sizeOf0,
  v0 := Tryz.zeroValue0,
  t4 := Tryz.underlying4,
  a4 := Tryz.isAgg4,
  z4 := Tryz.sizeOf4,
  v4 := Tryz.zeroValue4,
  t23 := Tryz.underlying215,
  a23 := Tryz.isAgg215,
  z23 := Tryz.sizeOf215,
  v23 := Tryz.zeroValue215,
  t26 := Tryz.underlying3,
  a26 := Tryz.isAgg3,
  z26 := Tryz.sizeOf3,
  v26 := Tryz.zeroValue3,
  t27 := Tryz.underlying112,
  a27 := Tryz.isAgg112,
  z27 := Tryz.sizeOf112,
  v27 := Tryz.zeroValue112,
  t28 := Tryz.underlying113,
  a28 := Tryz.isAgg113,
  z28 := Tryz.sizeOf113,
  v28 := Tryz.zeroValue113,
  t33 := Tryz.underlying102,
  a33 := Tryz.isAgg102,
  z33 := Tryz.sizeOf102,
  v33 := Tryz.zeroValue102 }
def sorted42_ren : Go.Shelf.Ren := ⟨fun | 6 => 42 | 8 => 93 | 9 => 94 | 11 => 134 | 13 => 136 | 12 => 135 | 23 => 174 | 24 => 175 | 14 => 166 | 15 => 167 | 16 => 168 | 17 => 169 | 18 => 170 | 19 => 171 | 20 => 107 | 21 => 172 | 22 => 173 | 25 => 211 | 26 => 212 | 27 => 213 | 28 => 214 | 29 => 215 | 30 => 140 | 31 => 228 | n => n, fun | 26 => 3 | 28 => 113 | 24 => 25 | 0 => 0 | 3 => 3 | 37 => 225 | 48 => 28 | 50 => 55 | 4 => 4 | 40 => 302 | 39 => 301 | 45 => 135 | 5 => 5 | 9 => 9 | 51 => 343 | 55 => 209 | 57 => 365 | 58 => 366 | 33 => 102 | n => n, fun | n => n⟩
theorem sorted42 : Go.Proofs.SlLaysZI.n6 Tryz.prog sorted42_ren := {
  mixed := by kernel_rfl,
  f6 := ⟨Tryz.f42.name, by decide, Tryz.func42.trans (congrArg some (by kernel_rfl))⟩,
  f8 := ⟨Tryz.f93.name, by decide, Tryz.func93.trans (congrArg some (by kernel_rfl))⟩,
  f11 := ⟨Tryz.f134.name, by decide, Tryz.func134.trans (congrArg some (by kernel_rfl))⟩,
  t0 := Tryz.underlying0,
  a0 := Tryz.isAgg0,
  z0 := Tryz.sizeOf0,
  v0 := Tryz.zeroValue0,
  t24 := Tryz.underlying25,
  a24 := Tryz.isAgg25,
  z24 := Tryz.sizeOf25,
  v24 := Tryz.zeroValue25,
  t26 := Tryz.underlying3,
  a26 := Tryz.isAgg3,
  z26 := Tryz.sizeOf3,
  v26 := Tryz.zeroValue3,
  t28 := Tryz.underlying113,
  a28 := Tryz.isAgg113,
  z28 := Tryz.sizeOf113,
  v28 := Tryz.zeroValue113,
  i26 := by kernel_rfl }
def sort94_ren : Go.Shelf.Ren := ⟨fun | 5 => 94 | 8 => 136 | 7 => 135 | 19 => 174 | 20 => 175 | 10 => 166 | 11 => 167 | 12 => 168 | 13 => 169 | 14 => 170 | 15 => 171 | 16 => 107 | 17 => 172 | 18 => 173 | 30 => 211 | 31 => 212 | 32 => 213 | 33 => 214 | 34 => 215 | 35 => 140 | 40 => 228 | n => n, fun | 23 => 25 | 25 => 3 | 3 => 3 | 32 => 225 | 22 => 25 | 0 => 0 | 44 => 28 | 46 => 55 | 4 => 4 | 36 => 302 | 35 => 301 | 41 => 135 | 5 => 5 | 9 => 9 | 53 => 343 | 57 => 209 | 63 => 365 | 64 => 366 | n => n, fun | n => n⟩
theorem sort94 : Go.Proofs.SlLaysM.n5 Tryz.prog sort94_ren := {
  mixed := by kernel_rfl,
  f5 := ⟨Tryz.f94.name, by decide, Tryz.func94.trans (congrArg some (by kernel_rfl))⟩,
  f7 := ⟨Tryz.f135.name, by decide, Tryz.func135.trans (congrArg some (by kernel_rfl))⟩,
  f8 := Tryz.func136.trans (congrArg some (by kernel_rfl)),
  f10 := ⟨Tryz.f166.name, by decide, Tryz.func166.trans (congrArg some (by kernel_rfl))⟩,
  f11 := ⟨Tryz.f167.name, by decide, Tryz.func167.trans (congrArg some (by kernel_rfl))⟩,
  f12 := ⟨Tryz.f168.name, by decide, Tryz.func168.trans (congrArg some (by kernel_rfl))⟩,
  f13 := ⟨Tryz.f169.name, by decide, Tryz.func169.trans (congrArg some (by kernel_rfl))⟩,
  f14 := ⟨Tryz.f170.name, by decide, Tryz.func170.trans (congrArg some (by kernel_rfl))⟩,
  f15 := ⟨Tryz.f171.name, by decide, Tryz.func171.trans (congrArg some (by kernel_rfl))⟩,
  f16 := ⟨Tryz.f107.name, by decide, Tryz.func107.trans (congrArg some (by kernel_rfl))⟩,
  f17 := ⟨Tryz.f172.name, by decide, Tryz.func172.trans (congrArg some (by kernel_rfl))⟩,
  f18 := ⟨Tryz.f173.name, by decide, Tryz.func173.trans (congrArg some (by kernel_rfl))⟩,
  f19 := Tryz.func174.trans (congrArg some (by kernel_rfl)),
  f20 := Tryz.func175.trans (congrArg some (by kernel_rfl)),
  f30 := ⟨Tryz.f211.name, by decide, Tryz.func211.trans (congrArg some (by kernel_rfl))⟩,
  f31 := Tryz.func212.trans (congrArg some (by kernel_rfl)),
  f32 := Tryz.func213.trans (congrArg some (by kernel_rfl)),
  f33 := ⟨Tryz.f214.name, by decide, Tryz.func214.trans (congrArg some (by kernel_rfl))⟩,
  f34 := ⟨Tryz.f215.name, by decide, Tryz.func215.trans (congrArg some (by kernel_rfl))⟩,
  f35 := ⟨Tryz.f140.name, by decide, Tryz.func140.trans (congrArg some (by kernel_rfl))⟩,
  f40 := ⟨Tryz.f228.name, by decide, Tryz.func228.trans (congrArg some (by kernel_rfl))⟩,
  t0 := Tryz.underlying0,
  a0 := Tryz.isAgg0,
  z0 := Tryz.sizeOf0,
  v0 := Tryz.zeroValue0,
  t3 := Tryz.underlying3,
  a3 := Tryz.isAgg3,
  z3 := Tryz.sizeOf3,
  v3 := Tryz.zeroValue3,
  t4 := Tryz.underlying4,
  a4 := Tryz.isAgg4,
  z4 := Tryz.sizeOf4,
  v4 := Tryz.zeroValue4,
  t5 := Tryz.underlying5,
  a5 := Tryz.isAgg5,
  z5 := Tryz.sizeOf5,
  v5 := Tryz.zeroValue5,
  t9 := Tryz.underlying9,
  a9 := Tryz.isAgg9,
  z9 := Tryz.sizeOf9,
  v9 := Tryz.zeroValue9,
  t22 := Tryz.underlying25,
  a22 := Tryz.isAgg25,
  z22 := Tryz.sizeOf25,
  v22 := Tryz.zeroValue25,
  t23 := Tryz.underlying25,
  a23 := Tryz.isAgg25,
  z23 := Tryz.sizeOf25,
  v23 := Tryz.zeroValue25,
  t25 := Tryz.underlying3,
  a25 := Tryz.isAgg3,
  z25 := Tryz.sizeOf3,
  v25 := Tryz.zeroValue3,
  t32 := Tryz.underlying225,
  a32 := Tryz.isAgg225,
  z32 := Tryz.sizeOf225,
  v32 := Tryz.zeroValue225,
  t35 := Tryz.underlying301,
  a35 := Tryz.isAgg301,
  z35 := Tryz.sizeOf301,
  v35 := Tryz.zeroValue301,
  t36 := Tryz.underlying302,
  a36 := Tryz.isAgg302,
  z36 := Tryz.sizeOf302,
  v36 := Tryz.zeroValue302,
  t41 := Tryz.underlying135,
  a41 := Tryz.isAgg135,
  z41 := Tryz.sizeOf135,
  v41 := Tryz.zeroValue135,
  t44 := Tryz.underlying28,
  a44 := Tryz.isAgg28,
  z44 := Tryz.sizeOf28,
  v44 := Tryz.zeroValue28,
  t46 := Tryz.underlying55,
  a46 := Tryz.isAgg55,
  z46 := Tryz.sizeOf55,
  v46 := Tryz.zeroValue55,
  t53 := Tryz.underlying343,
  a53 := Tryz.isAgg343,
  z53 := Tryz.sizeOf343,
  v53 := Tryz.zeroValue343,
  t57 := Tryz.underlying209,
  a57 := Tryz.isAgg209,
  z57 := Tryz.sizeOf209,
  v57 := Tryz.zeroValue209,
  t63 := Tryz.underlying365,
  a63 := Tryz.isAgg365,
  z63 := Tryz.sizeOf365,
  v63 := Tryz.zeroValue365,
  t64 := Tryz.underlying366,
  a64 := Tryz.isAgg366,
  z64 := Tryz.sizeOf366,
  v64 := Tryz.zeroValue366 }
theorem sorts42 (m : Nat) : AnyZI.SortsIn Tryz.prog sorted42_ren Fence.wide m :=
  ⟨fun blk off cap ss W hH hblk hsz => callsIn_wide.2 (AnyM.slices_Sort_int sort94 blk off cap ss W hH hblk hsz),
   fun p cap W => callsIn_wide.2 (AnyM.slices_Sort_int_none sort94 p cap W)⟩
theorem sortedOK : AM.SortedOK Tryz.prog 3 42 [(43, 95, 70), (114, 144, 215)] := by
  refine ⟨Tryz.underlying3, ?_, ?_, ?_⟩
  · intro p hp mb W
    simp only [List.mem_cons, List.not_mem_nil, or_false] at hp
    rcases hp with rfl | rfl
    · exact AnyZI.keys_in keys43 Fence.wide 0 trivial rfl mb W
    · exact AnyZI.keys_in keys114 Fence.wide 0 trivial rfl mb W
  · intro p hp Bm b nn D0 w hlt hm hown hsz
    have hmax : Maps.size D0 ≤ maxLen := by unfold maxLen; omega
    have hbytes : Maps.size D0 * 8 ≤ 140737488355328 := by omega
    simp only [List.mem_cons, List.not_mem_nil, or_false] at hp
    rcases hp with rfl | rfl
    · have hseq : SeqGives Fence.wide 2 Tryz.prog 95 #[.pointer (some ⟨Bm, 0, none⟩)] encZ (fun ss => ss.Perm (intKeys D0)) (Maps.size D0) w :=
        AnyZI.keys_gives (ρ := keys43_ren) { keys43 with } Fence.wide _ trivial rfl (by omega) Bm b nn D0 w hlt hm hown
      have cS := AnyZI.sorted_in sorted42 Fence.wide 5 trivial trivial trivial trivial rfl (by omega) (sorts42 _) (enters_of Tryz.func94 (by kernel_rfl) rfl) 95 #[.pointer (some ⟨Bm, 0, none⟩)] trivial (enters_of Tryz.func95 (by kernel_rfl) rfl) _ _ hmax hbytes w hseq
      exact callsIn_wide.2 (callsIn_wide.1 cS)
    · have hseq : SeqGives Fence.wide 2 Tryz.prog 144 #[.pointer (some ⟨Bm, 0, none⟩)] encZ (fun ss => ss.Perm (intKeys D0)) (Maps.size D0) w :=
        AnyZI.keys_gives (ρ := keys114_ren) { keys114 with } Fence.wide _ trivial rfl (by omega) Bm b nn D0 w hlt hm hown
      have cS := AnyZI.sorted_in sorted42 Fence.wide 5 trivial trivial trivial trivial rfl (by omega) (sorts42 _) (enters_of Tryz.func94 (by kernel_rfl) rfl) 144 #[.pointer (some ⟨Bm, 0, none⟩)] trivial (enters_of Tryz.func144 (by kernel_rfl) rfl) _ _ hmax hbytes w hseq
      exact callsIn_wide.2 (callsIn_wide.1 cS)
  · intro p hp Bm w hlt hm
    simp only [List.mem_cons, List.not_mem_nil, or_false] at hp
    rcases hp with rfl | rfl
    · have hseq : SeqGives Fence.wide 2 Tryz.prog 95 #[.pointer (some ⟨Bm, 0, none⟩)] encZ (fun ss : List Int => ss = []) 0 w :=
        AnyZI.keys_gives_nil (ρ := keys43_ren) { keys43 with } Fence.wide _ trivial rfl Bm w hlt hm
      have cS := AnyZI.sorted_in sorted42 Fence.wide 5 trivial trivial trivial trivial rfl (by omega) (sorts42 _) (enters_of Tryz.func94 (by kernel_rfl) rfl) 95 #[.pointer (some ⟨Bm, 0, none⟩)] trivial (enters_of Tryz.func95 (by kernel_rfl) rfl) _ 0 (Nat.zero_le _) (by omega) w hseq
      refine (callsIn_wide.2 (callsIn_wide.1 cS)).mono ?_
      rintro e w' ⟨v, ss, rfl, rfl, hrow, hnil, hb⟩
      obtain rfl : v = .slice none 0 0 := hnil.2 rfl
      exact ⟨rfl, hb⟩
    · have hseq : SeqGives Fence.wide 2 Tryz.prog 144 #[.pointer (some ⟨Bm, 0, none⟩)] encZ (fun ss : List Int => ss = []) 0 w :=
        AnyZI.keys_gives_nil (ρ := keys114_ren) { keys114 with } Fence.wide _ trivial rfl Bm w hlt hm
      have cS := AnyZI.sorted_in sorted42 Fence.wide 5 trivial trivial trivial trivial rfl (by omega) (sorts42 _) (enters_of Tryz.func94 (by kernel_rfl) rfl) 144 #[.pointer (some ⟨Bm, 0, none⟩)] trivial (enters_of Tryz.func144 (by kernel_rfl) rfl) _ 0 (Nat.zero_le _) (by omega) w hseq
      refine (callsIn_wide.2 (callsIn_wide.1 cS)).mono ?_
      rintro e w' ⟨v, ss, rfl, rfl, hrow, hnil, hb⟩
      obtain rfl : v = .slice none 0 0 := hnil.2 rfl
      exact ⟨rfl, hb⟩
end Go.Proofs.YtcmcofklcgafiaaGreat
