/- Part U2 of a calculus over a small memory that is proved to answer as the program does, and of its use for the functions that the law reaches: see the last part. -/
import Derived.Test.YtboddampdcalfaaU1
import Derived.Shelf.SlIterI.Nil
import Derived.Shelf.SortM.Plain
import Derived.Shelf.SortM.SortNone
import Derived.Ground.GgzProg
import Derived.Ground.SlgmProg
import Derived.Test.YtboddampdcalfaaProg
import Derived.KernelRfl
namespace Go.AM
open Go Go.Proofs Go.RowKit Go.Maps Go.Sort Go.Shelf Go.WideShapes
/-! ### 'slices.Sorted(maps.Keys(m))' at keys of the kind int, taken as told -/
/-- maps.Keys: a function over one new block that holds the map -/
def keysG (it : FuncId) (args : List AVal) : M AVal := match args with
  | [.nilmap] => bd (nw (.one .nilmap)) fun id => ret (.fn (.func it) [] [.ptr id 0])
  | [.map m] => bd (nw (.one (.map m))) fun id => ret (.fn (.func it) [] [.ptr id 0])
  | _ => fail
def isIn64 (n : Int) : Bool := eqI (wrapK .i64 n) n
/-- the keys, if the entries are in order: whole numbers, no key and no stamp twice, no stamp from later on -/
def keysI (clock : Nat) : List AEnt → List Nat → List Int → Option (List Int)
  | [], _, _ => some []
  | e :: es, bs, ks => match e.key with
    | .int .i64 n => cond (isIn64 n && (Nat.blt e.born clock && (!hasN e.born bs && !ks.any fun k => eqI k n))) (match keysI clock es (e.born :: bs) (n :: ks) with
      | some l => some (n :: l)
      | none => none) none
    | _ => none
def insI (n : Int) : List Int → List Int
  | [] => [n]
  | m :: l => cond (ltI m n) (m :: insI n l) (n :: m :: l)
def sortI : List Int → List Int
  | [] => []
  | n :: l => insI n (sortI l)
def ints : List Int → List AVal
  | [] => []
  | n :: l => .int .i64 n :: ints l
def sortedG (its : List FuncId) (elem : TypeId) (args : List AVal) : M AVal := match args with
  | [.fn (.func k) [] [.ptr b 0]] => cond (memN k its) (bd (rd b) fun blk => match blk with
    | .one .nilmap => ret .nilslc
    | .one (.map m) => bd (rd m) fun blk => match blk with
      | .map es clock => match keysI clock es [] [] with
        | some ks => cond (Nat.ble es.length 100000) (match sortI ks with
          | [] => ret .nilslc
          | x :: l => bd (newCells elem (ints (x :: l))) fun id => ret (.slc id 0 (l.length + 1) none 1)) fail
        | none => fail
      | _ => fail
    | _ => fail) fail
  | _ => fail
theorem fr_keysG (it : FuncId) (args : List AVal) : Fr (keysG it args) := by
  unfold keysG
  split <;> first | exact fr_fail | exact fr_bd (fr_nw _) fun _ => fr_ret _
theorem fr_sortedG (its : List FuncId) (elem : TypeId) (args : List AVal) : Fr (sortedG its elem args) := by
  unfold sortedG
  repeat' first | exact fr_fail | exact fr_ret _ | exact fr_rd _ | exact fr_newCells _ _ | (refine fr_cond _ ?_ ?_) | (refine fr_bd ?_ fun _ => ?_) | split
/-! the plain part -/
theorem insI_perm (n : Int) : ∀ l, (insI n l).Perm (n :: l)
  | [] => .refl _
  | m :: l => by
    unfold insI
    cases ltI m n with
    | true => exact ((insI_perm n l).cons m).trans (.swap n m l)
    | false => exact .refl _
theorem sortI_perm : ∀ l, (sortI l).Perm l
  | [] => .refl _
  | n :: l => (insI_perm n (sortI l)).trans ((sortI_perm l).cons n)
theorem insI_sorted (n : Int) : ∀ l : List Int, l.Pairwise (· ≤ ·) → (insI n l).Pairwise (· ≤ ·)
  | [], _ => by simp [insI]
  | m :: l, h => by
    have h' := List.pairwise_cons.1 h
    unfold insI
    cases hb : ltI m n with
    | true =>
      rw [ltI_eq, decide_eq_true_eq] at hb
      refine List.pairwise_cons.2 ⟨fun x hx => ?_, insI_sorted n l h'.2⟩
      rcases List.mem_cons.1 ((insI_perm n l).mem_iff.1 hx) with rfl | hx
      · omega
      · exact h'.1 x hx
    | false =>
      rw [ltI_eq, decide_eq_false_iff_not] at hb
      refine List.pairwise_cons.2 ⟨fun x hx => ?_, h⟩
      rcases List.mem_cons.1 hx with rfl | hx
      · omega
      · have := h'.1 x hx; omega
theorem sortI_sorted : ∀ l : List Int, (sortI l).Pairwise (· ≤ ·)
  | [] => by simp [sortI]
  | n :: l => insI_sorted n _ (sortI_sorted l)
theorem sortI_merge {ss l : List Int} (h : ss.Perm l) : ss.mergeSort (fun x y => decide (x ≤ y)) = sortI l := by
  have tr : ∀ a b c : Int, decide (a ≤ b) = true → decide (b ≤ c) = true → decide (a ≤ c) = true := fun a b c h1 h2 => by simp only [decide_eq_true_eq] at *; omega
  have to : ∀ a b : Int, (decide (a ≤ b) || decide (b ≤ a)) = true := fun a b => by simp only [Bool.or_eq_true, decide_eq_true_eq]; omega
  refine List.Perm.eq_of_pairwise (le := fun a b : Int => a ≤ b) (fun a b _ _ h1 h2 => by omega) ((List.pairwise_mergeSort tr to ss).imp fun h => by simpa using h) (sortI_sorted l) (((List.mergeSort_perm ss _).trans h).trans (sortI_perm l).symm)
theorem ints_eq : ∀ l : List Int, ints l = l.map fun n => AVal.int .i64 n
  | [] => rfl
  | n :: l => by unfold ints; rw [ints_eq l]; rfl
theorem isIn64_wf {n : Int} (h : isIn64 n = true) : (Lit.int .i64 n).wf = true := by
  unfold isIn64 at h
  rw [eqI_eq, wrapK_eq] at h
  have h : IntKind.wrap .i64 n = n := by simpa using h
  have h2 : -9223372036854775808 ≤ n ∧ n ≤ 9223372036854775807 := by
    simp [IntKind.wrap, IntKind.bits, IntKind.signed] at h
    split at h <;> omega
  simp [Lit.wf, IntKind.min, IntKind.max, IntKind.bits, IntKind.signed]
  omega
section
variable {P : Program} {σ : Nat → Value} {ρ : Ren}
structure KeysOK (ρ : Ren) (clock : Nat) (es' : List MapEntry) (bs : List Nat) (ks : List Int) (l : List Int) : Prop where
  keys : es'.map (·.key) = l.map encZ
  wf : ∀ n ∈ l, (Lit.int .i64 n).wf = true
  born : ∀ x ∈ es', x.born < clock
  stamps : (es'.map (·.born)).Nodup ∧ ∀ x ∈ es', x.born ∉ bs
  apart : l.Nodup ∧ ∀ n ∈ l, n ∉ ks
theorem hasN_iff {n : Nat} : ∀ {l : List Nat}, hasN n l = true ↔ n ∈ l
  | [] => by simp [hasN]
  | m :: l => by
    unfold hasN
    rw [Bool.or_eq_true, hasN_iff, List.mem_cons]
    constructor
    · rintro (h | h)
      · exact Or.inl (Nat.eq_of_beq_eq_true h)
      · exact Or.inr h
    · rintro (rfl | h)
      · exact Or.inl (by simp)
      · exact Or.inr h
theorem keysI_rel {clock : Nat} : ∀ {es : List AEnt} {es' : List MapEntry} {bs : List Nat} {ks l : List Int}, EsRel σ ρ es es' → keysI clock es bs ks = some l → KeysOK ρ clock es' bs ks l
  | [], es', bs, ks, l, hr, h => by
    cases h
    have := hr.len
    cases es' with
    | nil => exact ⟨rfl, by simp, by simp, by simp, by simp⟩
    | cons => simp at this
  | e :: es, es', bs, ks, l, hr, h => by
    cases es' with
    | nil => have := hr.len; simp at this
    | cons e' es' =>
      have ha := hr.at_ 0 e e' rfl rfl
      have ht : EsRel σ ρ es es' := ⟨by have := hr.len; simpa using this, fun i x y hx hy => hr.at_ (i + 1) x y (by simpa using hx) (by simpa using hy)⟩
      unfold keysI at h
      split at h
      · rename_i n hkey
        obtain ⟨hc, h⟩ := condO_some h
        simp only [Bool.and_eq_true, Bool.not_eq_true'] at hc
        obtain ⟨c1, c2, c3, c4⟩ := hc
        split at h
        · rename_i l' hl'
          cases h
          have ih := keysI_rel ht hl'
          have hk := ha.key
          rw [hkey] at hk
          unfold Rel at hk
          have hn : n ∉ ks := by
            intro hm
            rw [List.any_eq_false] at c4
            exact c4 n hm (by rw [eqI_eq]; simp)
          have hb : e.born ∉ bs := fun hm => by rw [hasN_iff.2 hm] at c3; cases c3
          refine ⟨by simp [hk, ih.keys], fun m hm => ?_, fun x hx => ?_, ⟨?_, fun x hx => ?_⟩, ?_, fun m hm => ?_⟩
          · rcases List.mem_cons.1 hm with rfl | hm
            · exact isIn64_wf c1
            · exact ih.wf m hm
          · rcases List.mem_cons.1 hx with rfl | hx
            · rw [ha.born]; simpa [Nat.blt_eq] using c2
            · exact ih.born x hx
          · simp only [List.map_cons, List.nodup_cons]
            refine ⟨fun hm => ?_, ih.stamps.1⟩
            obtain ⟨x, hx, hxb⟩ := List.mem_map.1 hm
            exact ih.stamps.2 x hx (by rw [hxb, ha.born]; simp)
          · rcases List.mem_cons.1 hx with rfl | hx
            · rw [ha.born]; exact hb
            · exact fun hm => ih.stamps.2 x hx (by simp [hm])
          · exact List.nodup_cons.2 ⟨fun hm => ih.apart.2 n hm (by simp), ih.apart.1⟩
          · rcases List.mem_cons.1 hm with rfl | hm
            · exact hn
            · exact fun h2 => ih.apart.2 m hm (by simp [h2])
        · cases h
      · cases h
def R1 : Value → Option (DataW Unit × List MemPlace) := fun _ => some (.lit (.bool true), [])
theorem own_of {T : TypeId} (hT : P.underlying T = some (.int .i64)) {w : World} {b clock : Nat} {es' : Array MapEntry} {l : List Int} (hb : w.heap[b]? = some (.map es' clock)) (hk : KeysOK ρ clock es'.toList [] [] l) (hsz : es'.size ≤ 100000) :
    ∃ D0 : DataW Unit, w.ownsMap P T R1 b es'.size D0 ∧ (intKeys D0).Perm l ∧ Maps.size D0 ≤ 100000 := by
  have hlen : es'.toList.length = l.length := by have := congrArg List.length hk.keys; simpa using this
  have rdk : ∀ x ∈ es'.toList, ∃ n, x.key = encZ n ∧ WideElems.rd P T R1 x = some (.int .i64 n, .lit (.bool true)) := by
    intro x hx
    have : x.key ∈ es'.toList.map (·.key) := List.mem_map.2 ⟨x, hx, rfl⟩
    rw [hk.keys] at this
    obtain ⟨n, hn, he⟩ := List.mem_map.1 this
    refine ⟨n, he.symm, ?_⟩
    have hw := hk.wf n hn
    simp [WideElems.rd, Go.keyOf, hT, mapKey, ← he, hw, R1]
  refine ⟨_, ⟨es', clock, hb, ⟨by unfold maxLen; omega, ⟨hk.born, hk.stamps.1, by rw [hk.keys]; exact (List.pairwise_map.2 (hk.apart.1.imp fun hne e => hne (encZ_inj e)))⟩, fun x hx => ?_⟩, Nat.le_refl _, rfl⟩, ?_, ?_⟩
  · obtain ⟨n, _, h⟩ := rdk x hx; exact ⟨_, h⟩
  · show List.Perm (((es'.toList.map (WideElems.rg P T R1)).foldr DataW.insert []).map fun p => intOf p.1) l
    refine ((sorted_perm _).map _).trans ?_
    have : ∀ (xs : List MapEntry) (ls : List Int), xs.map (·.key) = ls.map encZ → (∀ x ∈ xs, ∃ n, x.key = encZ n ∧ WideElems.rd P T R1 x = some (.int .i64 n, .lit (.bool true))) → (xs.map (WideElems.rg P T R1)).map (fun p => intOf p.1) = ls := by
      intro xs
      induction xs with
      | nil => intro ls h _; cases ls <;> simp_all
      | cons x xs ih =>
        intro ls h hr
        cases ls with
        | nil => simp at h
        | cons n ls =>
          simp only [List.map_cons, List.cons.injEq] at h ⊢
          obtain ⟨m, hm, hr1⟩ := hr x (by simp)
          refine ⟨?_, ih ls h.2 fun y hy => hr y (by simp [hy])⟩
          rw [h.1] at hm
          have := encZ_inj hm
          subst this
          simp [WideElems.rg, hr1, intOf]
    rw [this es'.toList l hk.keys rdk]
  · show (((es'.toList.map (WideElems.rg P T R1)).foldr DataW.insert [])).length ≤ 100000
    rw [(sorted_perm _).length_eq]
    simpa using hsz
/-- what the program's texts of maps.Keys and slices.Sorted are to keep -/
structure SortedOK (P : Program) (T : TypeId) (fs : FuncId) (l : List (FuncId × FuncId × TypeId)) : Prop where
  ty : P.underlying T = some (.int .i64)
  keys : ∀ p ∈ l, ∀ mb W, CallsIn Fence.wide 0 P p.1 #[.map mb] W fun e w' => e = .returned (.func (.func p.2.1) #[] #[.pointer (some ⟨W.heap.size, 0, none⟩)]) ∧ w' = W.alloc (.cells #[.map mb] p.2.2)
  sorted : ∀ p ∈ l, ∀ (Bm b nn : Nat) (D0 : DataW Unit) (w : World), Bm < w.heap.size → w.cell? ⟨Bm, 0, none⟩ = some (.map (some b)) → w.ownsMap P T R1 b nn D0 → Maps.size D0 ≤ 100000 →
    CallsIn Fence.wide 0 P fs #[.func (.func p.2.1) #[] #[.pointer (some ⟨Bm, 0, none⟩)]] w fun e w' => ∃ (v : Value) (ss : List Int), e = .returned v ∧ ss.Perm (intKeys D0) ∧
      w'.ownsRow w.heap.size T 1 v ss.length ((ss.mergeSort (fun x y => decide (x ≤ y))).map encZ) ∧ (v = .slice none 0 0 ↔ ss = []) ∧ Below w.heap.size w w'
  none : ∀ p ∈ l, ∀ (Bm : Nat) (w : World), Bm < w.heap.size → w.cell? ⟨Bm, 0, none⟩ = some (.map none) →
    CallsIn Fence.wide 0 P fs #[.func (.func p.2.1) #[] #[.pointer (some ⟨Bm, 0, none⟩)]] w fun e w' => e = .returned (.slice none 0 0) ∧ Below w.heap.size w w'
def sortedX (T : TypeId) (fs : FuncId) (l : List (FuncId × FuncId × TypeId)) : Told := fun f => cond (Nat.beq f fs) (some (sortedG (l.map (·.2.1)) T)) (match l.find? fun p => Nat.beq f p.1 with
  | some p => some (keysG p.2.1)
  | none => none)
theorem sortedX_ok {T : TypeId} {fs : FuncId} {l : List (FuncId × FuncId × TypeId)} (hP : SortedOK P T fs l) : ExtOK P (sortedX T fs l) := by
  refine ⟨fun f g args h => ?_, fun f g hg args H v H' hr σ ρ base w args' hσ hwr hf hra => ?_⟩
  · unfold sortedX at h
    cases hb : Nat.beq f fs with
    | true => rw [hb] at h; cases h; exact fr_sortedG _ _ _
    | false =>
      rw [hb] at h
      simp only [cond_false] at h
      split at h
      · cases h; exact fr_keysG _ _
      · cases h
  · unfold sortedX at hg
    cases hb : Nat.beq f fs with
    | true =>
      rw [hb] at hg
      cases hg
      have e := Nat.eq_of_beq_eq_true hb
      subst e
      unfold sortedG at hr
      split at hr
      · rename_i k b
        obtain ⟨hk, hr2⟩ := cond_some hr
        clear hr
        obtain ⟨p, hp, rfl⟩ := List.mem_map.1 (memN_iff.1 hk)
        obtain ⟨blk, K, h1, h2⟩ := bd_some hr2
        obtain ⟨hb1, e1, e2, e3⟩ := rd_some h1
        -- the arguments
        have harg : ∃ L, ρ b = some L ∧ args' = #[.func (.func p.2.1) #[] #[.pointer (some ⟨L.blk, L.sh + 0, none⟩)]] := by
          unfold RelL at hra
          obtain ⟨y, ys, g1, g2, g3⟩ := hra
          unfold RelL at g3
          subst g3
          unfold Rel at g2
          obtain ⟨as', bs', rfl, g4, g5⟩ := g2
          unfold RelL at g4 g5
          obtain ⟨z, zs, g6, g7, g8⟩ := g5
          unfold RelL at g8
          subst g8
          unfold Rel at g7
          obtain ⟨L, hL, rfl⟩ := g7
          refine ⟨L, hL, ?_⟩
          apply Array.toList_inj.1
          rw [g1]
          have : as' = #[] := by apply Array.toList_inj.1; simpa using g4
          have h2 : bs' = #[.pointer (some ⟨L.blk, L.sh + 0, Option.none⟩)] := by apply Array.toList_inj.1; simpa using g6
          rw [this, h2]
        obtain ⟨L, hL, rfl⟩ := harg
        cases blk with
        | one x =>
          obtain ⟨L', hL', hsh, v1, el, fr, q1, q2⟩ := hwr.blk _ _ hb1
          rw [hL] at hL'; cases hL'
          rw [hsh]
          have hlt : L.blk < w.heap.size := lt_of_get q1
          have hcell : w.cell? ⟨L.blk, 0, Option.none⟩ = some v1 := by simp [World.cell?, q1]
          cases x with
          | nilmap =>
            cases ret_some h2
            unfold Rel at q2; subst q2
            refine (hP.none p hp L.blk w hlt hcell).mono ?_
            rintro en w' ⟨rfl, hbel⟩
            refine ⟨_, ρ, rfl, ⟨?_, ?_, hbel.mono hwr.base⟩, by unfold Rel; rfl⟩
            · rw [e3]; exact .refl _ _ _
            · exact (wr_below hwr hbel).log e1 e2
          | map m =>
            unfold Rel at q2
            obtain ⟨D, hD, rfl⟩ := q2
            obtain ⟨blk2, K2, h3, h4⟩ := bd_some h2
            obtain ⟨hb2, f1, f2, f3⟩ := rd_some h3
            rw [e1] at hb2
            cases blk2 with
            | map es clock =>
              simp only at h4
              generalize hki : keysI clock es [] [] = ki at h4
              cases ki with
              | none => exact (fail_some h4).elim
              | some ks =>
                obtain ⟨hc, h5⟩ := cond_some h4
                have hc : es.length ≤ 100000 := Nat.le_of_ble_eq_true hc
                obtain ⟨D', hD', es', q4, q5⟩ := hwr.blk _ _ hb2
                rw [hD] at hD'; cases hD'
                have hko := keysI_rel q5 hki
                have hsz : es'.size ≤ 100000 := by have := q5.len; simp at this; omega
                obtain ⟨D0, o1, o2, o3⟩ := own_of hP.ty q4 hko hsz
                refine (hP.sorted p hp L.blk D.blk _ D0 w hlt hcell o1 o3).mono ?_
                rintro en w' ⟨v', ss, rfl, hperm, hrow, hnil, hbel⟩
                have hms : ss.mergeSort (fun x y => decide (x ≤ y)) = sortI ks := sortI_merge (hperm.trans o2)
                rw [hms] at hrow
                have hlen : ss.length = (sortI ks).length := by rw [← hms]; exact (List.length_mergeSort _).symm
                have hwr' := (wr_below hwr hbel).log (K := K2) (by rw [f1, e1]) (by rw [f2, e2])
                have hnx : K2.next = H.next := by rw [f3, e3]
                cases hs : sortI ks with
                | nil =>
                  rw [hs] at h5
                  cases ret_some h5
                  have : ss = [] := List.eq_nil_of_length_eq_zero (by rw [hlen, hs]; rfl)
                  have hv := hnil.2 this
                  subst hv
                  exact ⟨_, ρ, rfl, ⟨by rw [hnx]; exact .refl _ _ _, hwr', hbel.mono hwr.base⟩, by unfold Rel; rfl⟩
                | cons x lx =>
                  rw [hs] at h5 hrow hlen
                  obtain ⟨id, K3, h6, h7⟩ := bd_some h5
                  cases ret_some h7
                  obtain ⟨_, h8⟩ := cond_some h6
                  obtain ⟨rfl, hlo, hk3, hkl, hkn⟩ := nw_some h8
                  obtain ⟨_, hrow⟩ := hrow
                  rcases hrow with ⟨hv, hz⟩ | ⟨gb, cap, cur, rfl, hbase, hgb, r1, r2, r3, r4⟩
                  · rw [hz] at hlen; simp at hlen
                  · have hu : Upd w' gb (.cells cur T (0, 0)) w' := ⟨rfl, rfl, rfl, Nat.le_refl _, hgb, fun _ _ => rfl⟩
                    have hn : ρ K2.next = Option.none := hf K2.next (by omega) (by omega)
                    have hb0 := hwr.base
                    have hcells : ∀ i v, (Tr.ofListAt .nil 0 (ints (x :: lx))).get i = some v → ∃ v', cur[0 + i]? = some v' ∧ ∀ ρ', Rel σ ρ' v v' ∧ v'.oneCell' = true := by
                      intro i v hv
                      rw [Tr.get_ofListAt] at hv
                      split at hv
                      · rename_i hi
                        rw [ints_eq, List.getElem?_map, Nat.sub_zero] at hv
                        obtain ⟨n, hn1, rfl⟩ := Option.map_eq_some_iff.1 hv
                        refine ⟨encZ n, ?_, fun ρ' => ⟨by unfold Rel; rfl, rfl⟩⟩
                        have h9 : (cur.toList.take (ss.length * 1))[i]? = some (encZ n) := by rw [r4, List.getElem?_map, hn1]; rfl
                        rw [List.getElem?_take] at h9
                        split at h9
                        · rw [Nat.zero_add, ← Array.getElem?_toList]; exact h9
                        · cases h9
                      · rw [Tr.get_nil] at hv; cases hv
                    have hil : (ints (x :: lx)).length = lx.length + 1 := by rw [ints_eq]; simp
                    have h12 : lx.length + 1 ≤ cap := by have := hlen; simp only [List.length_cons] at this; omega
                    obtain ⟨ρ', x1, x2, x3, x4⟩ := hwr'.new (K := H') (w' := w') (L := ⟨gb, 0, cur.size⟩) (b := .cells T (Tr.ofListAt .nil 0 (ints (x :: lx))) (ints (x :: lx)).length) hn
                      (fun j bj Lj hj hLj => by
                        rw [f1, e1] at hj
                        exact Nat.ne_of_lt (Nat.lt_of_lt_of_le (live_lt hwr hj hLj) hbase)) (Nat.le_trans hb0 hbase) hu
                      (fun ρ' hle _ => ⟨cur, (0, 0), rfl, fun _ => rfl, rfl, by simp only [Nat.zero_add]; rw [hil, r3, Nat.mul_one]; omega, fun i v hv => by
                        obtain ⟨v', h10, h11⟩ := hcells i v hv
                        exact ⟨v', h10, (h11 ρ').1, (h11 ρ').2⟩⟩) hk3 hkl hkn
                    refine ⟨_, ρ', rfl, ⟨by rw [← hnx]; exact x1, x3, hbel.mono hwr.base⟩, ?_⟩
                    unfold Rel
                    exact ⟨⟨gb, 0, cur.size⟩, ⟨gb, 0, Option.none⟩, cap, x2, by rw [hlen]; rfl, Or.inl ⟨rfl, by simp only [Nat.zero_add, Nat.mul_one]; rw [r3, Nat.mul_one]; exact Nat.le_refl _⟩, by rw [hlen] at r1; simpa using r1, by intro k hk; cases hk⟩
            | _ => exact (fail_some h4).elim
          | _ => exact (fail_some h2).elim
        | _ => exact (fail_some h2).elim
      · exact (fail_some (H := H) hr).elim
    | false =>
      rw [hb] at hg
      simp only [cond_false] at hg
      split at hg
      · rename_i p hp
        cases hg
        have hmem := List.mem_of_find?_eq_some hp
        have he := List.find?_some hp
        have he : f = p.1 := Nat.eq_of_beq_eq_true he
        subst he
        unfold keysG at hr
        have fin : ∀ (x : AVal) (mb : Option Nat), (∀ ρ', Le ρ ρ' → Rel σ ρ' x (.map mb)) → args' = #[.map mb] → bd (nw (.one x)) (fun id => ret (.fn (.func p.2.1) [] [.ptr id 0])) H = some (v, H') → CallsIn Fence.wide 0 P p.1 args' w (ValPost σ ρ base H H' w v) := by
          intro x mb hx ha h
          subst ha
          obtain ⟨id, K, h1, h2⟩ := bd_some h
          cases ret_some h2
          refine (hP.keys p hmem mb w).mono ?_
          rintro en w' ⟨rfl, rfl⟩
          obtain ⟨ρ', p1, p2, p3, p4⟩ := newBlk_ok' (o := .cells #[.map mb] p.2.2 (0, 0)) h1 hwr hf (fun ρ' hle => ⟨rfl, .map mb, p.2.2, (0, 0), rfl, hx ρ' hle⟩)
          refine ⟨_, ρ', rfl, ⟨p1, p2, p3⟩, ?_⟩
          unfold Rel
          exact ⟨_, _, rfl, .nil, .cons (by unfold Rel; exact ⟨_, p4, rfl⟩) .nil⟩
        have one : ∀ x : AVal, RelL σ ρ [x] args'.toList → ∃ v, args' = #[v] ∧ Rel σ ρ x v := by
          intro x hx
          unfold RelL at hx
          obtain ⟨y, ys, g1, g2, g3⟩ := hx
          unfold RelL at g3
          subst g3
          exact ⟨y, by apply Array.toList_inj.1; rw [g1], g2⟩
        split at hr
        · obtain ⟨v1, ha, hv1⟩ := one _ hra
          unfold Rel at hv1
          exact fin .nilmap Option.none (fun ρ' _ => by unfold Rel; rfl) (by rw [ha, hv1]) hr
        · rename_i m
          obtain ⟨v1, ha, hv1⟩ := one _ hra
          unfold Rel at hv1
          obtain ⟨D, hD, hv1⟩ := hv1
          exact fin (.map m) (some D.blk) (fun ρ' hle => by unfold Rel; exact ⟨D, hle _ _ hD, rfl⟩) (by rw [ha, hv1]) hr
        · exact (fail_some (H := H) hr).elim
      · cases hg
end
end Go.AM
namespace Go.AM
open Go Go.Proofs Go.RowKit Go.Maps Go.Sort Go.Shelf Go.WideShapes
/-! ### 'slices.Sort' at a list of numbers of the kind int, taken as told: it sorts in place -/
section
variable {P : Program} {σ : Nat → Value} {ρ : Ren}
end
end Go.AM
namespace Go.AM
open Go
variable {α β : Type} {K : AVal → Heap → Prop} {s : Heap}
/-! ### the calculus with slices.Sort told -/
theorem orX_fr {X Y : Told} (hX : FrX X) (hY : FrX Y) : FrX (orX X Y) := fun f g args h => by
  unfold orX at h
  cases hx : X f with
  | some g' => rw [hx] at h; cases h; exact hX f _ args hx
  | none => rw [hx] at h; exact hY f g args h
theorem wp_told {P : Program} {X : Told} {f : FuncId} {g : List AVal → M AVal} {args : List AVal} (hf : X f = some g) (h : wpF (fun _ => g args) K s) : wpCall P X f args K s := by
  intro H hH
  obtain ⟨n, a, H', h1, s', h2, h3, h4⟩ := h H hH
  refine ⟨1, .val a, H', ?_, s', h2, h3, a, rfl, h4⟩
  show (match X f with
    | some g => AM.bd (g args) fun v => AM.ret (Out.val v)
    | none => runCall P (run P X 0) f args) H = _
  rw [hf]
  show AM.bd _ _ H = _
  unfold AM.bd
  have h1 : g args H = some (a, H') := h1
  rw [h1]; rfl
abbrev izs (l : List Int) : List AVal := l.map (AVal.int .i64)
end Go.AM
namespace Go.AM
open Go
variable {α β : Type} {K : AVal → Heap → Prop} {s : Heap} {P : Program} {X : Told}
/-! ### maps from numbers in the calculus -/
/-- entries in order: keys that are numbers, none twice; stamps, none twice, none from later on -/
structure EsOK (es : List AEnt) (c : Nat) (l : List (Int × AVal)) : Prop where
  kv : es.map (fun e => (e.key, e.val)) = l.map fun p => (AVal.int .i64 p.1, p.2)
  nd : (l.map (·.1)).Nodup
  bd : ∀ p ∈ l, -9223372036854775808 ≤ p.1 ∧ p.1 ≤ 9223372036854775807
  bs : (es.map (·.born)).Nodup
  lt : ∀ e ∈ es, e.born < c
theorem EsOK.nil : EsOK [] 0 [] := ⟨rfl, by simp, by simp, by simp, by simp⟩
/-- what a list of pairs has at a key -/
def look {V : Type} (l : List (Int × V)) (k : Int) : Option V := (l.find? fun p => p.1 == k).map (·.2)
theorem EsOK.len {es : List AEnt} {c : Nat} {l : List (Int × AVal)} (h : EsOK es c l) : es.length = l.length := by
  have := congrArg List.length h.kv
  simpa using this
theorem keyEq_int {k n : Int} : keyEq (.int .i64) (.int .i64 k) (.int .i64 n) = some (k == n) := by
  show cond (intKindEq .i64 .i64) (some (eqI k n)) none = _
  rw [eqI_eq]; rfl
theorem findI_kv : ∀ {es : List AEnt} {l : List (Int × AVal)} {k : Int} {i : Nat}, es.map (fun e => (e.key, e.val)) = l.map (fun p => (AVal.int .i64 p.1, p.2)) →
    ∃ r, findI (.int .i64 k) es i = some r ∧ r.map (·.2) = look l k ∧ ∀ p, r = some p → ∃ j, p.1 = i + j ∧ ∃ v, l[j]? = some (k, v) := by
  intro es
  induction es with
  | nil =>
    intro l k i h
    cases l with
    | nil => exact ⟨none, rfl, rfl, fun p e => by cases e⟩
    | cons p l => simp at h
  | cons e es ih =>
    intro l k i h
    cases l with
    | nil => simp at h
    | cons p l =>
      obtain ⟨pk, pv⟩ := p
      simp only [List.map_cons, List.cons.injEq, Prod.mk.injEq] at h
      obtain ⟨⟨h1, h2⟩, h3⟩ := h
      unfold findI
      rw [h1, keyEq_int]
      by_cases e1 : k = pk
      · rw [beq_iff_eq.2 e1]
        refine ⟨_, rfl, ?_, fun p e => ?_⟩
        · rw [e1]; simp [look, h2]
        · cases e
          exact ⟨0, by simp, pv, by rw [e1]; rfl⟩
      · rw [beq_eq_false_iff_ne.2 e1]
        obtain ⟨r, g1, g2, g3⟩ := ih (l := l) (k := k) (i := i + 1) h3
        refine ⟨r, g1, ?_, fun p e => ?_⟩
        · rw [g2]
          unfold look
          rw [List.find?_cons_of_neg (by simpa using Ne.symm e1)]
        · obtain ⟨j, q1, v, q2⟩ := g3 p e
          exact ⟨j + 1, by omega, v, by simpa using q2⟩
/-- a map of one's own -/
def MapAt (s : Heap) (b : Nat) (l : List (Int × AVal)) : Prop := ∃ es c, s b = some (false, .map es c) ∧ EsOK es c l
theorem MapAt.get {b : Nat} {l : List (Int × AVal)} (h : MapAt s b l) {k : Int} : getM s (.map b) (.int .i64 k) = some (look l k) := by
  obtain ⟨es, c, hb, ho⟩ := h
  obtain ⟨r, g1, g2, _⟩ := findI_kv (k := k) (i := 0) ho.kv
  unfold getM
  simp only [hb, g1]
  rw [← g2]
  cases r <;> rfl
theorem MapAt.len {b : Nat} {l : List (Int × AVal)} (h : MapAt s b l) : lenM s (.map b) = some l.length := by
  obtain ⟨es, c, hb, ho⟩ := h
  simp [lenM, hb, ho.len]
/-- stores at a key -/
def stor {V : Type} (l : List (Int × V)) (k : Int) (v : V) : List (Int × V) := match look l k with
  | some _ => l.map fun p => if p.1 = k then (k, v) else p
  | none => l ++ [(k, v)]
theorem look_none {V : Type} {l : List (Int × V)} {k : Int} : look l k = none ↔ k ∉ l.map (·.1) := by
  unfold look
  rw [Option.map_eq_none_iff, List.find?_eq_none]
  constructor
  · intro h hm
    obtain ⟨p, hp, rfl⟩ := List.mem_map.1 hm
    exact h p hp (by simp)
  · intro h p hp e
    exact h (List.mem_map.2 ⟨p, hp, by simpa using e⟩)
theorem modE_born {es : List AEnt} {k v : AVal} : ∀ {i : Nat}, (modE es i (fun e => { e with key := k, val := v })).map (·.born) = es.map (·.born) := by
  induction es with
  | nil => intro i; cases i <;> rfl
  | cons e es ih =>
    intro i
    cases i with
    | zero => rfl
    | succ i =>
      show e.born :: (modE es i _).map (·.born) = _
      rw [ih]; rfl
theorem modE_kv {k : Int} {v : AVal} : ∀ {es : List AEnt} {l : List (Int × AVal)} {j : Nat} {w : AVal}, es.map (fun e => (e.key, e.val)) = l.map (fun p => (AVal.int .i64 p.1, p.2)) → (l.map (·.1)).Nodup → l[j]? = some (k, w) →
    (modE es j (fun e => { e with key := .int .i64 k, val := v })).map (fun e => (e.key, e.val)) = (l.map fun p => if p.1 = k then (k, v) else p).map fun p => (AVal.int .i64 p.1, p.2) := by
  intro es
  induction es with
  | nil =>
    intro l j w h _ hj
    cases l with
    | nil => simp at hj
    | cons p l => simp at h
  | cons e es ih =>
    intro l j w h nd hj
    cases l with
    | nil => simp at h
    | cons p l =>
      obtain ⟨pk, pv⟩ := p
      simp only [List.map_cons, List.cons.injEq, Prod.mk.injEq] at h
      obtain ⟨⟨h1, h2⟩, h3⟩ := h
      rw [List.map_cons, List.nodup_cons] at nd
      cases j with
      | zero =>
        have hj : pk = k := by simp at hj; exact hj.1
        subst hj
        have hl : (l.map fun p => if p.1 = pk then (pk, v) else p) = l := by
          refine (List.map_congr_left fun p hp => ?_).trans (List.map_id l)
          rw [if_neg]; rfl
          intro e; exact nd.1 (List.mem_map.2 ⟨p, hp, e⟩)
        show ((AVal.int .i64 pk, v) :: es.map fun e => (e.key, e.val)) = _
        rw [List.map_cons, hl, if_pos rfl, List.map_cons, h3]
      | succ j =>
        have hj : l[j]? = some (k, w) := by simpa using hj
        have hne : pk ≠ k := fun e => nd.1 (List.mem_map.2 ⟨(k, w), List.mem_of_getElem? hj, e.symm⟩)
        show ((e.key, e.val) :: (modE es j _).map fun e => (e.key, e.val)) = _
        rw [ih h3 nd.2 hj, List.map_cons, if_neg hne, List.map_cons, h1, h2]
theorem MapAt.put {b : Nat} {l : List (Int × AVal)} {k : Int} {v : AVal} {R : Heap → Prop} (h : MapAt s b l) (hk : -9223372036854775808 ≤ k ∧ k ≤ 9223372036854775807) (hK : ∀ s', MapAt s' b (stor l k v) → Upto b s s' → R s') : optK (putM s (.map b) (.int .i64 k) v) R := by
  obtain ⟨es, c, hb, ho⟩ := h
  obtain ⟨r, g1, g2, g3⟩ := findI_kv (k := k) (i := 0) ho.kv
  unfold putM putE
  simp only [hb, g1]
  cases r with
  | none =>
    refine hK _ ⟨_, _, hset_eq, ?_⟩ fun _ hi => hset_other hi
    have hl : look l k = none := g2.symm
    unfold stor
    rw [hl]
    refine ⟨?_, ?_, ?_, ?_, ?_⟩
    · simp only [List.map_append, List.map_cons, List.map_nil]
      rw [ho.kv]
    · rw [List.map_append]
      exact List.nodup_append.2 ⟨ho.nd, by simp, fun a ha b hb => by
        have : b = k := by simpa using hb
        rintro rfl
        rw [this] at ha
        exact look_none.1 hl ha⟩
    · intro p hp
      rw [List.mem_append, List.mem_singleton] at hp
      rcases hp with hp | rfl
      · exact ho.bd p hp
      · exact hk
    · rw [List.map_append]
      exact List.nodup_append.2 ⟨ho.bs, by simp, fun a ha b hb => by
        have hb : b = c := by simpa using hb
        rintro rfl
        obtain ⟨e, he, rfl⟩ := List.mem_map.1 ha
        have := ho.lt e he
        omega⟩
    · intro e he
      rw [List.mem_append, List.mem_singleton] at he
      rcases he with he | rfl
      · have := ho.lt e he; omega
      · exact Nat.lt_succ_self c
  | some p =>
    obtain ⟨j, q1, w, q2⟩ := g3 p rfl
    rw [Nat.zero_add] at q1
    refine hK _ ⟨_, _, hset_eq, ?_⟩ fun _ hi => hset_other hi
    have hl : look l k = some p.2 := g2.symm
    unfold stor
    rw [hl, q1]
    refine ⟨modE_kv ho.kv ho.nd q2, ?_, ?_, ?_, ?_⟩
    · rw [List.map_map]
      have : ((fun p : Int × AVal => p.1) ∘ fun p => if p.1 = k then (k, v) else p) = fun p => p.1 := by
        funext p
        show (if p.1 = k then (k, v) else p).1 = p.1
        split
        · rename_i e; exact e.symm
        · rfl
      rw [this]; exact ho.nd
    · intro p hp
      obtain ⟨q, hq, rfl⟩ := List.mem_map.1 hp
      split
      · exact hk
      · exact ho.bd q hq
    · show ((modE es j _).map (·.born)).Nodup
      rw [modE_born]; exact ho.bs
    · intro e he
      have : e.born ∈ (modE es j (fun e => { e with key := .int .i64 k, val := v })).map (·.born) := List.mem_map.2 ⟨e, he, rfl⟩
      rw [modE_born] at this
      obtain ⟨e', he', q⟩ := List.mem_map.1 this
      rw [← q]; exact ho.lt e' he'
theorem map_new {R : AVal → Heap → Prop} (h : ∀ b s', s b = none → MapAt s' b [] → Upto b s s' → R (.map b) s') : mapK R s := fun b hb => h b _ hb ⟨_, _, hset_eq, .nil⟩ fun _ hi => hset_other hi
theorem look_cons {V : Type} {p : Int × V} {l : List (Int × V)} {j : Int} : look (p :: l) j = if p.1 = j then some p.2 else look l j := by
  unfold look
  by_cases e : p.1 = j
  · rw [if_pos e, List.find?_cons_of_pos (by simpa using e)]; rfl
  · rw [if_neg e, List.find?_cons_of_neg (by simpa using e)]
theorem look_map {V : Type} {k j : Int} {v : V} (hj : j ≠ k) : ∀ {l : List (Int × V)}, look (l.map fun p => if p.1 = k then (k, v) else p) j = look l j := by
  intro l
  induction l with
  | nil => rfl
  | cons p l ih =>
    rw [List.map_cons, look_cons, look_cons, ih]
    by_cases e : p.1 = k
    · rw [if_pos e, if_neg (Ne.symm hj), if_neg (by rw [e]; exact Ne.symm hj)]
    · rw [if_neg e]
theorem look_map_same {V : Type} {k : Int} {v : V} : ∀ {l : List (Int × V)} {w : V}, look l k = some w → look (l.map fun p => if p.1 = k then (k, v) else p) k = some v := by
  intro l
  induction l with
  | nil => intro w h; cases h
  | cons p l ih =>
    intro w h
    rw [List.map_cons, look_cons]
    rw [look_cons] at h
    by_cases e : p.1 = k
    · rw [if_pos e, if_pos rfl]
    · rw [if_neg e, if_neg e]
      rw [if_neg e] at h
      exact ih h
theorem look_app {V : Type} {l : List (Int × V)} {k j : Int} {v : V} (h : look l k = none) : look (l ++ [(k, v)]) j = if j = k then some v else look l j := by
  induction l with
  | nil =>
    rw [List.nil_append, look_cons]
    by_cases e : j = k
    · rw [if_pos e.symm, if_pos e]
    · rw [if_neg (Ne.symm e), if_neg e]
  | cons p l ih =>
    rw [List.cons_append, look_cons, look_cons]
    rw [look_cons] at h
    by_cases e1 : p.1 = k
    · rw [if_pos e1] at h; cases h
    · rw [if_neg e1] at h
      by_cases e : p.1 = j
      · rw [if_pos e, if_pos e, if_neg fun q => e1 (e.trans q)]
      · rw [if_neg e, if_neg e, ih h]
theorem look_stor {V : Type} {l : List (Int × V)} {k j : Int} {v : V} : look (stor l k v) j = if j = k then some v else look l j := by
  unfold stor
  cases h : look l k with
  | none => exact look_app h
  | some w =>
    simp only
    by_cases e : j = k
    · rw [if_pos e, e]; exact look_map_same h
    · rw [if_neg e]; exact look_map e
/-! ### slices.Sorted(maps.Keys(m)) -/
theorem keysI_ok : ∀ {es : List AEnt} {c : Nat} {l : List (Int × AVal)} {bs : List Nat} {ks : List Int}, es.map (fun e => (e.key, e.val)) = l.map (fun p => (AVal.int .i64 p.1, p.2)) → (∀ p ∈ l, -9223372036854775808 ≤ p.1 ∧ p.1 ≤ 9223372036854775807) → (∀ e ∈ es, e.born < c) →
    (es.map (·.born)).Nodup → (∀ e ∈ es, e.born ∉ bs) → (l.map (·.1)).Nodup → (∀ p ∈ l, p.1 ∉ ks) → keysI c es bs ks = some (l.map (·.1)) := by
  intro es
  induction es with
  | nil =>
    intro c l bs ks h _ _ _ _ _ _
    cases l with
    | nil => rfl
    | cons p l => simp at h
  | cons e es ih =>
    intro c l bs ks h hb hc nb nbs nk nks
    cases l with
    | nil => simp at h
    | cons p l =>
      obtain ⟨pk, pv⟩ := p
      simp only [List.map_cons, List.cons.injEq, Prod.mk.injEq] at h
      obtain ⟨⟨h1, h2⟩, h3⟩ := h
      rw [List.map_cons, List.nodup_cons] at nb nk
      have r := ih (c := c) (bs := e.born :: bs) (ks := pk :: ks) h3 (fun p hp => hb p (by simp [hp])) (fun x hx => hc x (by simp [hx])) nb.2 (fun x hx hm => by
        rcases List.mem_cons.1 hm with q | q
        · exact nb.1 (List.mem_map.2 ⟨x, hx, q⟩)
        · exact nbs x (by simp [hx]) q) nk.2 (fun q hq hm => by
        rcases List.mem_cons.1 hm with e | e
        · exact nk.1 (List.mem_map.2 ⟨q, hq, e⟩)
        · exact nks q (by simp [hq]) e)
      have c1 : isIn64 pk = true := by
        have := hb (pk, pv) (by simp)
        unfold isIn64
        rw [eqI_eq, wrapK_eq, wrap64 this.1 this.2]; simp
      have c2 : Nat.blt e.born c = true := by rw [Nat.blt_eq]; exact hc e (by simp)
      have c3 : hasN e.born bs = false := by
        cases q : hasN e.born bs with
        | false => rfl
        | true => exact absurd (hasN_iff.1 q) (nbs e (by simp))
      have c4 : (ks.any fun k => eqI k pk) = false := by
        rw [List.any_eq_false]
        intro x hx
        rw [eqI_eq]
        have := nks (pk, pv) (by simp)
        simp only [beq_iff_eq]
        rintro rfl; exact this hx
      unfold keysI
      rw [h1]
      simp only [c1, c2, c3, c4, r]
      rfl
theorem wp_keys {P : Program} {X : Told} {f it : FuncId} {m : Nat} (hf : X f = some (keysG it)) (h : ∀ b s', s b = none → s' b = some (false, .one (.map m)) → Upto b s s' → K (.fn (.func it) [] [.ptr b 0]) s') : wpCall P X f [.map m] K s := by
  refine wp_told hf ?_
  unfold keysG
  exact wpF.bd (.const _) (fun _ => .const _) (wpF.nw (x := .one (.map m)) rfl fun b hb => wpF.ret (h b _ hb hset_eq fun _ hi => hset_other hi))
theorem wp_sorted {P : Program} {X : Told} {f it : FuncId} {its : List FuncId} {elem : TypeId} {m b : Nat} {l : List (Int × AVal)} (hf : X f = some (sortedG its elem)) (hit : memN it its = true) (hb : s b = some (false, .one (.map m))) (hm : MapAt s m l) (hl : l.length ≤ 1000)
    (h : ∀ v s', Acc elem s s' v (izs (sortI (l.map (·.1)))) → Sub s s' → K v s') : wpCall P X f [.fn (.func it) [] [.ptr b 0]] K s := by
  obtain ⟨es, c, hes, ho⟩ := hm
  refine wp_told hf ?_
  unfold sortedG
  refine wpF.cond hit (wpF.bd (.const _) (fun _ => .const _) (wpF.rd hb fun ab hab => ?_))
  cases ab <;> first | exact hab.elim | skip
  cases hab
  refine wpF.bd (.const _) (fun _ => .const _) (wpF.rd hes fun ab hab => ?_)
  cases ab <;> first | exact hab.elim | skip
  obtain ⟨rfl, rfl⟩ := hab
  have hk := keysI_ok (bs := []) (ks := []) ho.kv ho.bd ho.lt ho.bs (by simp) ho.nd (by simp)
  simp only [hk]
  refine wpF.cond (by rw [Nat.ble_eq, ho.len]; omega) ?_
  cases hs : sortI (l.map (·.1)) with
  | nil => exact wpF.ret (h _ s (by rw [hs]; exact .inl ⟨rfl, rfl⟩) (.refl s))
  | cons x r =>
    have e1 : ints (x :: r) = izs (x :: r) := ints_eq _
    have e4 : ∀ k : List Int, allOne (izs k) = true := by
      intro k
      induction k with
      | nil => rfl
      | cons y k ih => simpa [allOne] using ih
    simp only [e1]
    refine wpF.bd (.const _) (fun _ => .const _) (wp_newCells (e4 _) fun b hb => wpF.ret (h _ _ ?_ fun i e hi => ?_))
    · rw [hs]
      exact .inr ⟨b, hb, by simp, hset_eq⟩
    · rw [hset_other (ne_of_some hb hi)]; exact hi
/-! ### Sorted(Keys) and functions without arguments told -/
theorem sortedX_fr (T : TypeId) (fs : FuncId) (l : List (FuncId × FuncId × TypeId)) : FrX (sortedX T fs l) := fun f g args h => by
  unfold sortedX at h
  cases hb : Nat.beq f fs with
  | true => rw [hb] at h; cases h; exact fr_sortedG _ _ _
  | false =>
    rw [hb] at h
    simp only [cond_false] at h
    split at h
    · cases h; exact fr_keysG _ _
    · cases h
def toldM (T : TypeId) (fs : FuncId) (l : List (FuncId × FuncId × TypeId)) (cl : List FuncId) : Told := orX (sortedX T fs l) (closedX cl)
theorem toldM_fr (T : TypeId) (fs : FuncId) (l : List (FuncId × FuncId × TypeId)) (cl : List FuncId) : FrX (toldM T fs l cl) := orX_fr (sortedX_fr T fs l) (closedX_fr cl)
theorem wp_closedM {P : Program} {T : TypeId} {fs : FuncId} {l : List (FuncId × FuncId × TypeId)} {cl : List FuncId} {f : FuncId} (hf : memN f cl = true) (hne : (sortedX T fs l f).isNone = true) (h : K (.bool true) s) : wpCall P (toldM T fs l cl) f [] K s := by
  refine wp_told (g := fun args => match args with
    | [] => AM.ret (.bool true)
    | _ => AM.fail) ?_ (wpF.ret h)
  unfold toldM orX
  cases q : sortedX T fs l f with
  | some y => rw [q] at hne; cases hne
  | none =>
    unfold closedX
    rw [hf]; rfl
end Go.AM
namespace Go.Proofs.Ytboddampdcalfaa
open Go Go.RowKit Go.Maps Go.Sort Go.Shelf
set_option maxRecDepth 100000
def keys53_ren : Go.Shelf.Ren := ⟨fun | 7 => 53 | 10 => 66 | n => n, fun | 23 => 79 | 26 => 3 | 3 => 24 | 28 => 88 | 0 => 0 | 27 => 87 | 33 => 98 | 4 => 4 | n => n, fun | n => n⟩
theorem keys53 : Go.Proofs.SlLaysZI.n7 Try.prog keys53_ren := {
  mixed := by kernel_rfl,
  f7 := ⟨Try.f53.name, by decide, Try.func53.trans (congrArg some (by kernel_rfl))⟩,
  f10 := ⟨Try.f66.name, by decide, Try.func66.trans (congrArg some (by kernel_rfl))⟩,
  t0 := Try.underlying0,
  a0 := Try.isAgg0,
  z0 := Try.sizeOf0,
  v0 := Try.zeroValue0,
  t4 := Try.underlying4,
  a4 := Try.isAgg4,
  z4 := Try.sizeOf4,
  v4 := Try.zeroValue4,
  t23 := Try.underlying79,
  a23 := Try.isAgg79,
  z23 := Try.sizeOf79,
  v23 := Try.zeroValue79,
  t26 := Try.underlying3,
  a26 := Try.isAgg3,
  z26 := Try.sizeOf3,
  v26 := Try.zeroValue3,
  t27 := Try.underlying87,
  a27 := Try.isAgg87,
  z27 := Try.sizeOf87,
  v27 := Try.zeroValue87,
  t28 := Try.underlying88,
  a28 := Try.isAgg88,
  z28 := Try.sizeOf88,
  v28 := Try.zeroValue88,
  t33 := Try.underlying98,
  a33 := Try.isAgg98,
  z33 := Try.sizeOf98,
  v33 := Try.zeroValue98 }
def sorted52_ren : Go.Shelf.Ren := ⟨fun | 6 => 52 | 8 => 64 | 9 => 65 | 11 => 70 | 13 => 72 | 12 => 71 | 23 => 83 | 24 => 84 | 14 => 75 | 15 => 76 | 16 => 77 | 17 => 78 | 18 => 79 | 19 => 80 | 20 => 73 | 21 => 81 | 22 => 82 | 25 => 85 | 26 => 86 | 27 => 87 | 28 => 88 | 29 => 89 | 30 => 63 | 31 => 90 | n => n, fun | 26 => 3 | 28 => 88 | 24 => 22 | 0 => 0 | 3 => 3 | 37 => 105 | 48 => 114 | 50 => 116 | 4 => 4 | 40 => 108 | 39 => 107 | 45 => 100 | 5 => 5 | 9 => 9 | 51 => 117 | 55 => 121 | 57 => 123 | 58 => 124 | 33 => 98 | n => n, fun | n => n⟩
theorem sorted52 : Go.Proofs.SlLaysZI.n6 Try.prog sorted52_ren := {
  mixed := by kernel_rfl,
  f6 := ⟨Try.f52.name, by decide, Try.func52.trans (congrArg some (by kernel_rfl))⟩,
  f8 := ⟨Try.f64.name, by decide, Try.func64.trans (congrArg some (by kernel_rfl))⟩,
  f11 := ⟨Try.f70.name, by decide, Try.func70.trans (congrArg some (by kernel_rfl))⟩,
  t0 := Try.underlying0,
  a0 := Try.isAgg0,
  z0 := Try.sizeOf0,
  v0 := Try.zeroValue0,
  t24 := Try.underlying22,
  a24 := Try.isAgg22,
  z24 := Try.sizeOf22,
  v24 := Try.zeroValue22,
  t26 := Try.underlying3,
  a26 := Try.isAgg3,
  z26 := Try.sizeOf3,
  v26 := Try.zeroValue3,
  t28 := Try.underlying88,
  a28 := Try.isAgg88,
  z28 := Try.sizeOf88,
  v28 := Try.zeroValue88,
  i26 := by kernel_rfl }
def sort65_ren : Go.Shelf.Ren := ⟨fun | 5 => 65 | 8 => 72 | 7 => 71 | 19 => 83 | 20 => 84 | 10 => 75 | 11 => 76 | 12 => 77 | 13 => 78 | 14 => 79 | 15 => 80 | 16 => 73 | 17 => 81 | 18 => 82 | 30 => 85 | 31 => 86 | 32 => 87 | 33 => 88 | 34 => 89 | 35 => 63 | 40 => 90 | n => n, fun | 23 => 22 | 25 => 3 | 3 => 3 | 32 => 105 | 22 => 22 | 0 => 0 | 44 => 114 | 46 => 116 | 4 => 4 | 36 => 108 | 35 => 107 | 41 => 100 | 5 => 5 | 9 => 9 | 53 => 117 | 57 => 121 | 63 => 123 | 64 => 124 | n => n, fun | n => n⟩
theorem sort65 : Go.Proofs.SlLaysM.n5 Try.prog sort65_ren := {
  mixed := by kernel_rfl,
  f5 := ⟨Try.f65.name, by decide, Try.func65.trans (congrArg some (by kernel_rfl))⟩,
  f7 := ⟨Try.f71.name, by decide, Try.func71.trans (congrArg some (by kernel_rfl))⟩,
  f8 := Try.func72.trans (congrArg some (by kernel_rfl)),
  f10 := ⟨Try.f75.name, by decide, Try.func75.trans (congrArg some (by kernel_rfl))⟩,
  f11 := ⟨Try.f76.name, by decide, Try.func76.trans (congrArg some (by kernel_rfl))⟩,
  f12 := ⟨Try.f77.name, by decide, Try.func77.trans (congrArg some (by kernel_rfl))⟩,
  f13 := ⟨Try.f78.name, by decide, Try.func78.trans (congrArg some (by kernel_rfl))⟩,
  f14 := ⟨Try.f79.name, by decide, Try.func79.trans (congrArg some (by kernel_rfl))⟩,
  f15 := ⟨Try.f80.name, by decide, Try.func80.trans (congrArg some (by kernel_rfl))⟩,
  f16 := ⟨Try.f73.name, by decide, Try.func73.trans (congrArg some (by kernel_rfl))⟩,
  f17 := ⟨Try.f81.name, by decide, Try.func81.trans (congrArg some (by kernel_rfl))⟩,
  f18 := ⟨Try.f82.name, by decide, Try.func82.trans (congrArg some (by kernel_rfl))⟩,
  f19 := Try.func83.trans (congrArg some (by kernel_rfl)),
  f20 := Try.func84.trans (congrArg some (by kernel_rfl)),
  f30 := ⟨Try.f85.name, by decide, Try.func85.trans (congrArg some (by kernel_rfl))⟩,
  f31 := Try.func86.trans (congrArg some (by kernel_rfl)),
  f32 := Try.func87.trans (congrArg some (by kernel_rfl)),
  f33 := ⟨Try.f88.name, by decide, Try.func88.trans (congrArg some (by kernel_rfl))⟩,
  f34 := ⟨Try.f89.name, by decide, Try.func89.trans (congrArg some (by kernel_rfl))⟩,
  f35 := ⟨Try.f63.name, by decide, Try.func63.trans (congrArg some (by kernel_rfl))⟩,
  f40 := ⟨Try.f90.name, by decide, Try.func90.trans (congrArg some (by kernel_rfl))⟩,
  t0 := Try.underlying0,
  a0 := Try.isAgg0,
  z0 := Try.sizeOf0,
  v0 := Try.zeroValue0,
  t3 := Try.underlying3,
  a3 := Try.isAgg3,
  z3 := Try.sizeOf3,
  v3 := Try.zeroValue3,
  t4 := Try.underlying4,
  a4 := Try.isAgg4,
  z4 := Try.sizeOf4,
  v4 := Try.zeroValue4,
  t5 := Try.underlying5,
  a5 := Try.isAgg5,
  z5 := Try.sizeOf5,
  v5 := Try.zeroValue5,
  t9 := Try.underlying9,
  a9 := Try.isAgg9,
  z9 := Try.sizeOf9,
  v9 := Try.zeroValue9,
  t22 := Try.underlying22,
  a22 := Try.isAgg22,
  z22 := Try.sizeOf22,
  v22 := Try.zeroValue22,
  t23 := Try.underlying22,
  a23 := Try.isAgg22,
  z23 := Try.sizeOf22,
  v23 := Try.zeroValue22,
  t25 := Try.underlying3,
  a25 := Try.isAgg3,
  z25 := Try.sizeOf3,
  v25 := Try.zeroValue3,
  t32 := Try.underlying105,
  a32 := Try.isAgg105,
  z32 := Try.sizeOf105,
  v32 := Try.zeroValue105,
  t35 := Try.underlying107,
  a35 := Try.isAgg107,
  z35 := Try.sizeOf107,
  v35 := Try.zeroValue107,
  t36 := Try.underlying108,
  a36 := Try.isAgg108,
  z36 := Try.sizeOf108,
  v36 := Try.zeroValue108,
  t41 := Try.underlying100,
  a41 := Try.isAgg100,
  z41 := Try.sizeOf100,
  v41 := Try.zeroValue100,
  t44 := Try.underlying114,
  a44 := Try.isAgg114,
  z44 := Try.sizeOf114,
  v44 := Try.zeroValue114,
  t46 := Try.underlying116,
  a46 := Try.isAgg116,
  z46 := Try.sizeOf116,
  v46 := Try.zeroValue116,
  t53 := Try.underlying117,
  a53 := Try.isAgg117,
  z53 := Try.sizeOf117,
  v53 := Try.zeroValue117,
  t57 := Try.underlying121,
  a57 := Try.isAgg121,
  z57 := Try.sizeOf121,
  v57 := Try.zeroValue121,
  t63 := Try.underlying123,
  a63 := Try.isAgg123,
  z63 := Try.sizeOf123,
  v63 := Try.zeroValue123,
  t64 := Try.underlying124,
  a64 := Try.isAgg124,
  z64 := Try.sizeOf124,
  v64 := Try.zeroValue124 }
theorem sorts52 (m : Nat) : AnyZI.SortsIn Try.prog sorted52_ren Fence.wide m :=
  ⟨fun blk off cap ss W hH hblk hsz => callsIn_wide.2 (AnyM.slices_Sort_int sort65 blk off cap ss W hH hblk hsz),
   fun p cap W => callsIn_wide.2 (AnyM.slices_Sort_int_none sort65 p cap W)⟩
theorem sortedOK : AM.SortedOK Try.prog 3 52 [(53, 66, 79)] := by
  refine ⟨Try.underlying3, ?_, ?_, ?_⟩
  · intro p hp mb W
    simp only [List.mem_cons, List.not_mem_nil, or_false] at hp
    rcases hp with rfl
    · exact AnyZI.keys_in keys53 Fence.wide 0 trivial rfl mb W
  · intro p hp Bm b nn D0 w hlt hm hown hsz
    have hmax : Maps.size D0 ≤ maxLen := by unfold maxLen; omega
    have hbytes : Maps.size D0 * 8 ≤ 140737488355328 := by omega
    simp only [List.mem_cons, List.not_mem_nil, or_false] at hp
    rcases hp with rfl
    · have hseq : SeqGives Fence.wide 2 Try.prog 66 #[.pointer (some ⟨Bm, 0, none⟩)] encZ (fun ss => ss.Perm (intKeys D0)) (Maps.size D0) w :=
        AnyZI.keys_gives (ρ := keys53_ren) { keys53 with } Fence.wide _ trivial rfl (by omega) Bm b nn D0 w hlt hm hown
      have cS := AnyZI.sorted_in sorted52 Fence.wide 5 trivial trivial trivial trivial rfl (by omega) (sorts52 _) (enters_of Try.func65 (by kernel_rfl) rfl) 66 #[.pointer (some ⟨Bm, 0, none⟩)] trivial (enters_of Try.func66 (by kernel_rfl) rfl) _ _ hmax hbytes w hseq
      exact callsIn_wide.2 (callsIn_wide.1 cS)
  · intro p hp Bm w hlt hm
    simp only [List.mem_cons, List.not_mem_nil, or_false] at hp
    rcases hp with rfl
    · have hseq : SeqGives Fence.wide 2 Try.prog 66 #[.pointer (some ⟨Bm, 0, none⟩)] encZ (fun ss : List Int => ss = []) 0 w :=
        AnyZI.keys_gives_nil (ρ := keys53_ren) { keys53 with } Fence.wide _ trivial rfl Bm w hlt hm
      have cS := AnyZI.sorted_in sorted52 Fence.wide 5 trivial trivial trivial trivial rfl (by omega) (sorts52 _) (enters_of Try.func65 (by kernel_rfl) rfl) 66 #[.pointer (some ⟨Bm, 0, none⟩)] trivial (enters_of Try.func66 (by kernel_rfl) rfl) _ 0 (Nat.zero_le _) (by omega) w hseq
      refine (callsIn_wide.2 (callsIn_wide.1 cS)).mono ?_
      rintro e w' ⟨v, ss, rfl, rfl, hrow, hnil, hb⟩
      obtain rfl : v = .slice none 0 0 := hnil.2 rfl
      exact ⟨rfl, hb⟩
end Go.Proofs.Ytboddampdcalfaa
