/- Part U3 of a calculus over a small memory that is proved to answer as the program does, and of its use for the functions that the law reaches: see the last part. -/
import Derived.Test.YtcbmjpekogancaaU2
import Derived.Shelf.SlIterI.Nil
import Derived.Shelf.SortM.Plain
import Derived.Shelf.SortM.SortNone
import Derived.Ground.GgzProg
import Derived.Ground.SlgmProg
import Derived.Test.YtcbmjpekogancaaProg
import Derived.KernelRfl
namespace Go.AM
open Go Go.Proofs Go.RowKit Go.Maps Go.Sort Go.Shelf Go.WideShapes
/-! ### 'slices.Sorted(maps.Keys(m))' at keys of the kind int, taken as told -/
/-- maps.Keys: a function over one new block that holds the map -/
def keysG (it : FuncId) (args : List AVal) : M AVal := match args with
  | [.nilmap] => bd (nw (.one .nilmap)) fun id => ret (.fn (.func it) [] [.ptr id 0])
  | [.map m] => bd (nw (.one (.map m))) fun id => ret (.fn (.func it) [] [.ptr id 0])
  | _ => fail
def isIn64 (n : Int) : Bool := eqI (wrapK .i64 n) n
/-- the keys, if the entries are in order: whole numbers, no key and no stamp twice, no stamp from later on -/
def keysI (clock : Nat) : List AEnt → List Nat → List Int → Option (List Int)
  | [], _, _ => some []
  | e :: es, bs, ks => match e.key with
    | .int .i64 n => cond (isIn64 n && (Nat.blt e.born clock && (!hasN e.born bs && !ks.any fun k => eqI k n))) (match keysI clock es (e.born :: bs) (n :: ks) with
      | some l => some (n :: l)
      | none => none) none
    | _ => none
def insI (n : Int) : List Int → List Int
  | [] => [n]
  | m :: l => cond (ltI m n) (m :: insI n l) (n :: m :: l)
def sortI : List Int → List Int
  | [] => []
  | n :: l => insI n (sortI l)
def ints : List Int → List AVal
  | [] => []
  | n :: l => .int .i64 n :: ints l
def sortedG (its : List FuncId) (elem : TypeId) (args : List AVal) : M AVal := match args with
  | [.fn (.func k) [] [.ptr b 0]] => cond (memN k its) (bd (rd b) fun blk => match blk with
    | .one .nilmap => ret .nilslc
    | .one (.map m) => bd (rd m) fun blk => match blk with
      | .map es clock => match keysI clock es [] [] with
        | some ks => cond (Nat.ble es.length 100000) (match sortI ks with
          | [] => ret .nilslc
          | x :: l => bd (newCells elem (ints (x :: l))) fun id => ret (.slc id 0 (l.length + 1) none 1)) fail
        | none => fail
      | _ => fail
    | _ => fail) fail
  | _ => fail
theorem fr_keysG (it : FuncId) (args : List AVal) : Fr (keysG it args) := by
  unfold keysG
  split <;> first | exact fr_fail | exact fr_bd (fr_nw _) fun _ => fr_ret _
theorem fr_sortedG (its : List FuncId) (elem : TypeId) (args : List AVal) : Fr (sortedG its elem args) := by
  unfold sortedG
  repeat' first | exact fr_fail | exact fr_ret _ | exact fr_rd _ | exact fr_newCells _ _ | (refine fr_cond _ ?_ ?_) | (refine fr_bd ?_ fun _ => ?_) | split
/-! the plain part -/
theorem insI_perm (n : Int) : ∀ l, (insI n l).Perm (n :: l)
  | [] => .refl _
  | m :: l => by
    unfold insI
    cases ltI m n with
    | true => exact ((insI_perm n l).cons m).trans (.swap n m l)
    | false => exact .refl _
theorem sortI_perm : ∀ l, (sortI l).Perm l
  | [] => .refl _
  | n :: l => (insI_perm n (sortI l)).trans ((sortI_perm l).cons n)
theorem insI_sorted (n : Int) : ∀ l : List Int, l.Pairwise (· ≤ ·) → (insI n l).Pairwise (· ≤ ·)
  | [], _ => by simp [insI]
  | m :: l, h => by
    have h' := List.pairwise_cons.1 h
    unfold insI
    cases hb : ltI m n with
    | true =>
      rw [ltI_eq, decide_eq_true_eq] at hb
      refine List.pairwise_cons.2 ⟨fun x hx => ?_, insI_sorted n l h'.2⟩
      rcases List.mem_cons.1 ((insI_perm n l).mem_iff.1 hx) with rfl | hx
      · omega
      · exact h'.1 x hx
    | false =>
      rw [ltI_eq, decide_eq_false_iff_not] at hb
      refine List.pairwise_cons.2 ⟨fun x hx => ?_, h⟩
      rcases List.mem_cons.1 hx with rfl | hx
      · omega
      · have := h'.1 x hx; omega
theorem sortI_sorted : ∀ l : List Int, (sortI l).Pairwise (· ≤ ·)
  | [] => by simp [sortI]
  | n :: l => insI_sorted n _ (sortI_sorted l)
theorem sortI_merge {ss l : List Int} (h : ss.Perm l) : ss.mergeSort (fun x y => decide (x ≤ y)) = sortI l := by
  have tr : ∀ a b c : Int, decide (a ≤ b) = true → decide (b ≤ c) = true → decide (a ≤ c) = true := fun a b c h1 h2 => by simp only [decide_eq_true_eq] at *; omega
  have to : ∀ a b : Int, (decide (a ≤ b) || decide (b ≤ a)) = true := fun a b => by simp only [Bool.or_eq_true, decide_eq_true_eq]; omega
  refine List.Perm.eq_of_pairwise (le := fun a b : Int => a ≤ b) (fun a b _ _ h1 h2 => by omega) ((List.pairwise_mergeSort tr to ss).imp fun h => by simpa using h) (sortI_sorted l) (((List.mergeSort_perm ss _).trans h).trans (sortI_perm l).symm)
theorem ints_eq : ∀ l : List Int, ints l = l.map fun n => AVal.int .i64 n
  | [] => rfl
  | n :: l => by unfold ints; rw [ints_eq l]; rfl
theorem isIn64_wf {n : Int} (h : isIn64 n = true) : (Lit.int .i64 n).wf = true := by
  unfold isIn64 at h
  rw [eqI_eq, wrapK_eq] at h
  have h : IntKind.wrap .i64 n = n := by simpa using h
  have h2 : -9223372036854775808 ≤ n ∧ n ≤ 9223372036854775807 := by
    simp [IntKind.wrap, IntKind.bits, IntKind.signed] at h
    split at h <;> omega
  simp [Lit.wf, IntKind.min, IntKind.max, IntKind.bits, IntKind.signed]
  omega
section
variable {P : Program} {σ : Nat → Value} {ρ : Ren}
structure KeysOK (ρ : Ren) (clock : Nat) (es' : List MapEntry) (bs : List Nat) (ks : List Int) (l : List Int) : Prop where
  keys : es'.map (·.key) = l.map encZ
  wf : ∀ n ∈ l, (Lit.int .i64 n).wf = true
  born : ∀ x ∈ es', x.born < clock
  stamps : (es'.map (·.born)).Nodup ∧ ∀ x ∈ es', x.born ∉ bs
  apart : l.Nodup ∧ ∀ n ∈ l, n ∉ ks
theorem hasN_iff {n : Nat} : ∀ {l : List Nat}, hasN n l = true ↔ n ∈ l
  | [] => by simp [hasN]
  | m :: l => by
    unfold hasN
    rw [Bool.or_eq_true, hasN_iff, List.mem_cons]
    constructor
    · rintro (h | h)
      · exact Or.inl (Nat.eq_of_beq_eq_true h)
      · exact Or.inr h
    · rintro (rfl | h)
      · exact Or.inl (by simp)
      · exact Or.inr h
theorem keysI_rel {clock : Nat} : ∀ {es : List AEnt} {es' : List MapEntry} {bs : List Nat} {ks l : List Int}, EsRel σ ρ es es' → keysI clock es bs ks = some l → KeysOK ρ clock es' bs ks l
  | [], es', bs, ks, l, hr, h => by
    cases h
    have := hr.len
    cases es' with
    | nil => exact ⟨rfl, by simp, by simp, by simp, by simp⟩
    | cons => simp at this
  | e :: es, es', bs, ks, l, hr, h => by
    cases es' with
    | nil => have := hr.len; simp at this
    | cons e' es' =>
      have ha := hr.at_ 0 e e' rfl rfl
      have ht : EsRel σ ρ es es' := ⟨by have := hr.len; simpa using this, fun i x y hx hy => hr.at_ (i + 1) x y (by simpa using hx) (by simpa using hy)⟩
      unfold keysI at h
      split at h
      · rename_i n hkey
        obtain ⟨hc, h⟩ := condO_some h
        simp only [Bool.and_eq_true, Bool.not_eq_true'] at hc
        obtain ⟨c1, c2, c3, c4⟩ := hc
        split at h
        · rename_i l' hl'
          cases h
          have ih := keysI_rel ht hl'
          have hk := ha.key
          rw [hkey] at hk
          unfold Rel at hk
          have hn : n ∉ ks := by
            intro hm
            rw [List.any_eq_false] at c4
            exact c4 n hm (by rw [eqI_eq]; simp)
          have hb : e.born ∉ bs := fun hm => by rw [hasN_iff.2 hm] at c3; cases c3
          refine ⟨by simp [hk, ih.keys], fun m hm => ?_, fun x hx => ?_, ⟨?_, fun x hx => ?_⟩, ?_, fun m hm => ?_⟩
          · rcases List.mem_cons.1 hm with rfl | hm
            · exact isIn64_wf c1
            · exact ih.wf m hm
          · rcases List.mem_cons.1 hx with rfl | hx
            · rw [ha.born]; simpa [Nat.blt_eq] using c2
            · exact ih.born x hx
          · simp only [List.map_cons, List.nodup_cons]
            refine ⟨fun hm => ?_, ih.stamps.1⟩
            obtain ⟨x, hx, hxb⟩ := List.mem_map.1 hm
            exact ih.stamps.2 x hx (by rw [hxb, ha.born]; simp)
          · rcases List.mem_cons.1 hx with rfl | hx
            · rw [ha.born]; exact hb
            · exact fun hm => ih.stamps.2 x hx (by simp [hm])
          · exact List.nodup_cons.2 ⟨fun hm => ih.apart.2 n hm (by simp), ih.apart.1⟩
          · rcases List.mem_cons.1 hm with rfl | hm
            · exact hn
            · exact fun h2 => ih.apart.2 m hm (by simp [h2])
        · cases h
      · cases h
def R1 : Value → Option (DataW Unit × List MemPlace) := fun _ => some (.lit (.bool true), [])
theorem own_of {T : TypeId} (hT : P.underlying T = some (.int .i64)) {w : World} {b clock : Nat} {es' : Array MapEntry} {l : List Int} (hb : w.heap[b]? = some (.map es' clock)) (hk : KeysOK ρ clock es'.toList [] [] l) (hsz : es'.size ≤ 100000) :
    ∃ D0 : DataW Unit, w.ownsMap P T R1 b es'.size D0 ∧ (intKeys D0).Perm l ∧ Maps.size D0 ≤ 100000 := by
  have hlen : es'.toList.length = l.length := by have := congrArg List.length hk.keys; simpa using this
  have rdk : ∀ x ∈ es'.toList, ∃ n, x.key = encZ n ∧ WideElems.rd P T R1 x = some (.int .i64 n, .lit (.bool true)) := by
    intro x hx
    have : x.key ∈ es'.toList.map (·.key) := List.mem_map.2 ⟨x, hx, rfl⟩
    rw [hk.keys] at this
    obtain ⟨n, hn, he⟩ := List.mem_map.1 this
    refine ⟨n, he.symm, ?_⟩
    have hw := hk.wf n hn
    simp [WideElems.rd, Go.keyOf, hT, mapKey, ← he, hw, R1]
  refine ⟨_, ⟨es', clock, hb, ⟨by unfold maxLen; omega, ⟨hk.born, hk.stamps.1, by rw [hk.keys]; exact (List.pairwise_map.2 (hk.apart.1.imp fun hne e => hne (encZ_inj e)))⟩, fun x hx => ?_⟩, Nat.le_refl _, rfl⟩, ?_, ?_⟩
  · obtain ⟨n, _, h⟩ := rdk x hx; exact ⟨_, h⟩
  · show List.Perm (((es'.toList.map (WideElems.rg P T R1)).foldr DataW.insert []).map fun p => intOf p.1) l
    refine ((sorted_perm _).map _).trans ?_
    have : ∀ (xs : List MapEntry) (ls : List Int), xs.map (·.key) = ls.map encZ → (∀ x ∈ xs, ∃ n, x.key = encZ n ∧ WideElems.rd P T R1 x = some (.int .i64 n, .lit (.bool true))) → (xs.map (WideElems.rg P T R1)).map (fun p => intOf p.1) = ls := by
      intro xs
      induction xs with
      | nil => intro ls h _; cases ls <;> simp_all
      | cons x xs ih =>
        intro ls h hr
        cases ls with
        | nil => simp at h
        | cons n ls =>
          simp only [List.map_cons, List.cons.injEq] at h ⊢
          obtain ⟨m, hm, hr1⟩ := hr x (by simp)
          refine ⟨?_, ih ls h.2 fun y hy => hr y (by simp [hy])⟩
          rw [h.1] at hm
          have := encZ_inj hm
          subst this
          simp [WideElems.rg, hr1, intOf]
    rw [this es'.toList l hk.keys rdk]
  · show (((es'.toList.map (WideElems.rg P T R1)).foldr DataW.insert [])).length ≤ 100000
    rw [(sorted_perm _).length_eq]
    simpa using hsz
/-- what the program's texts of maps.Keys and slices.Sorted are to keep -/
structure SortedOK (P : Program) (T : TypeId) (fs : FuncId) (l : List (FuncId × FuncId × TypeId)) : Prop where
  ty : P.underlying T = some (.int .i64)
  keys : ∀ p ∈ l, ∀ mb W, CallsIn Fence.wide 0 P p.1 #[.map mb] W fun e w' => e = .returned (.func (.func p.2.1) #[] #[.pointer (some ⟨W.heap.size, 0, none⟩)]) ∧ w' = W.alloc (.cells #[.map mb] p.2.2)
  sorted : ∀ p ∈ l, ∀ (Bm b nn : Nat) (D0 : DataW Unit) (w : World), Bm < w.heap.size → w.cell? ⟨Bm, 0, none⟩ = some (.map (some b)) → w.ownsMap P T R1 b nn D0 → Maps.size D0 ≤ 100000 →
    CallsIn Fence.wide 0 P fs #[.func (.func p.2.1) #[] #[.pointer (some ⟨Bm, 0, none⟩)]] w fun e w' => ∃ (v : Value) (ss : List Int), e = .returned v ∧ ss.Perm (intKeys D0) ∧
      w'.ownsRow w.heap.size T 1 v ss.length ((ss.mergeSort (fun x y => decide (x ≤ y))).map encZ) ∧ (v = .slice none 0 0 ↔ ss = []) ∧ Below w.heap.size w w'
  none : ∀ p ∈ l, ∀ (Bm : Nat) (w : World), Bm < w.heap.size → w.cell? ⟨Bm, 0, none⟩ = some (.map none) →
    CallsIn Fence.wide 0 P fs #[.func (.func p.2.1) #[] #[.pointer (some ⟨Bm, 0, none⟩)]] w fun e w' => e = .returned (.slice none 0 0) ∧ Below w.heap.size w w'
def sortedX (T : TypeId) (fs : FuncId) (l : List (FuncId × FuncId × TypeId)) : Told := fun f => cond (Nat.beq f fs) (some (sortedG (l.map (·.2.1)) T)) (match l.find? fun p => Nat.beq f p.1 with
  | some p => some (keysG p.2.1)
  | none => none)
theorem sortedX_ok {T : TypeId} {fs : FuncId} {l : List (FuncId × FuncId × TypeId)} (hP : SortedOK P T fs l) : ExtOK P (sortedX T fs l) := by
  refine ⟨fun f g args h => ?_, fun f g hg args H v H' hr σ ρ base w args' hσ hwr hf hra => ?_⟩
  · unfold sortedX at h
    cases hb : Nat.beq f fs with
    | true => rw [hb] at h; cases h; exact fr_sortedG _ _ _
    | false =>
      rw [hb] at h
      simp only [cond_false] at h
      split at h
      · cases h; exact fr_keysG _ _
      · cases h
  · unfold sortedX at hg
    cases hb : Nat.beq f fs with
    | true =>
      rw [hb] at hg
      cases hg
      have e := Nat.eq_of_beq_eq_true hb
      subst e
      unfold sortedG at hr
      split at hr
      · rename_i k b
        obtain ⟨hk, hr2⟩ := cond_some hr
        clear hr
        obtain ⟨p, hp, rfl⟩ := List.mem_map.1 (memN_iff.1 hk)
        obtain ⟨blk, K, h1, h2⟩ := bd_some hr2
        obtain ⟨hb1, e1, e2, e3⟩ := rd_some h1
        -- the arguments
        have harg : ∃ L, ρ b = some L ∧ args' = #[.func (.func p.2.1) #[] #[.pointer (some ⟨L.blk, L.sh + 0, none⟩)]] := by
          unfold RelL at hra
          obtain ⟨y, ys, g1, g2, g3⟩ := hra
          unfold RelL at g3
          subst g3
          unfold Rel at g2
          obtain ⟨as', bs', rfl, g4, g5⟩ := g2
          unfold RelL at g4 g5
          obtain ⟨z, zs, g6, g7, g8⟩ := g5
          unfold RelL at g8
          subst g8
          unfold Rel at g7
          obtain ⟨L, hL, rfl⟩ := g7
          refine ⟨L, hL, ?_⟩
          apply Array.toList_inj.1
          rw [g1]
          have : as' = #[] := by apply Array.toList_inj.1; simpa using g4
          have h2 : bs' = #[.pointer (some ⟨L.blk, L.sh + 0, Option.none⟩)] := by apply Array.toList_inj.1; simpa using g6
          rw [this, h2]
        obtain ⟨L, hL, rfl⟩ := harg
        cases blk with
        | one x =>
          obtain ⟨L', hL', hsh, v1, el, fr, q1, q2⟩ := hwr.blk _ _ hb1
          rw [hL] at hL'; cases hL'
          rw [hsh]
          have hlt : L.blk < w.heap.size := lt_of_get q1
          have hcell : w.cell? ⟨L.blk, 0, Option.none⟩ = some v1 := by simp [World.cell?, q1]
          cases x with
          | nilmap =>
            cases ret_some h2
            unfold Rel at q2; subst q2
            refine (hP.none p hp L.blk w hlt hcell).mono ?_
            rintro en w' ⟨rfl, hbel⟩
            refine ⟨_, ρ, rfl, ⟨?_, ?_, hbel.mono hwr.base⟩, by unfold Rel; rfl⟩
            · rw [e3]; exact .refl _ _ _
            · exact (wr_below hwr hbel).log e1 e2
          | map m =>
            unfold Rel at q2
            obtain ⟨D, hD, rfl⟩ := q2
            obtain ⟨blk2, K2, h3, h4⟩ := bd_some h2
            obtain ⟨hb2, f1, f2, f3⟩ := rd_some h3
            rw [e1] at hb2
            cases blk2 with
            | map es clock =>
              simp only at h4
              generalize hki : keysI clock es [] [] = ki at h4
              cases ki with
              | none => exact (fail_some h4).elim
              | some ks =>
                obtain ⟨hc, h5⟩ := cond_some h4
                have hc : es.length ≤ 100000 := Nat.le_of_ble_eq_true hc
                obtain ⟨D', hD', es', q4, q5⟩ := hwr.blk _ _ hb2
                rw [hD] at hD'; cases hD'
                have hko := keysI_rel q5 hki
                have hsz : es'.size ≤ 100000 := by have := q5.len; simp at this; omega
                obtain ⟨D0, o1, o2, o3⟩ := own_of hP.ty q4 hko hsz
                refine (hP.sorted p hp L.blk D.blk _ D0 w hlt hcell o1 o3).mono ?_
                rintro en w' ⟨v', ss, rfl, hperm, hrow, hnil, hbel⟩
                have hms : ss.mergeSort (fun x y => decide (x ≤ y)) = sortI ks := sortI_merge (hperm.trans o2)
                rw [hms] at hrow
                have hlen : ss.length = (sortI ks).length := by rw [← hms]; exact (List.length_mergeSort _).symm
                have hwr' := (wr_below hwr hbel).log (K := K2) (by rw [f1, e1]) (by rw [f2, e2])
                have hnx : K2.next = H.next := by rw [f3, e3]
                cases hs : sortI ks with
                | nil =>
                  rw [hs] at h5
                  cases ret_some h5
                  have : ss = [] := List.eq_nil_of_length_eq_zero (by rw [hlen, hs]; rfl)
                  have hv := hnil.2 this
                  subst hv
                  exact ⟨_, ρ, rfl, ⟨by rw [hnx]; exact .refl _ _ _, hwr', hbel.mono hwr.base⟩, by unfold Rel; rfl⟩
                | cons x lx =>
                  rw [hs] at h5 hrow hlen
                  obtain ⟨id, K3, h6, h7⟩ := bd_some h5
                  cases ret_some h7
                  obtain ⟨_, h8⟩ := cond_some h6
                  obtain ⟨rfl, hlo, hk3, hkl, hkn⟩ := nw_some h8
                  obtain ⟨_, hrow⟩ := hrow
                  rcases hrow with ⟨hv, hz⟩ | ⟨gb, cap, cur, rfl, hbase, hgb, r1, r2, r3, r4⟩
                  · rw [hz] at hlen; simp at hlen
                  · have hu : Upd w' gb (.cells cur T (0, 0)) w' := ⟨rfl, rfl, rfl, Nat.le_refl _, hgb, fun _ _ => rfl⟩
                    have hn : ρ K2.next = Option.none := hf K2.next (by omega) (by omega)
                    have hb0 := hwr.base
                    have hcells : ∀ i v, (Tr.ofListAt .nil 0 (ints (x :: lx))).get i = some v → ∃ v', cur[0 + i]? = some v' ∧ ∀ ρ', Rel σ ρ' v v' ∧ v'.oneCell' = true := by
                      intro i v hv
                      rw [Tr.get_ofListAt] at hv
                      split at hv
                      · rename_i hi
                        rw [ints_eq, List.getElem?_map, Nat.sub_zero] at hv
                        obtain ⟨n, hn1, rfl⟩ := Option.map_eq_some_iff.1 hv
                        refine ⟨encZ n, ?_, fun ρ' => ⟨by unfold Rel; rfl, rfl⟩⟩
                        have h9 : (cur.toList.take (ss.length * 1))[i]? = some (encZ n) := by rw [r4, List.getElem?_map, hn1]; rfl
                        rw [List.getElem?_take] at h9
                        split at h9
                        · rw [Nat.zero_add, ← Array.getElem?_toList]; exact h9
                        · cases h9
                      · rw [Tr.get_nil] at hv; cases hv
                    have hil : (ints (x :: lx)).length = lx.length + 1 := by rw [ints_eq]; simp
                    have h12 : lx.length + 1 ≤ cap := by have := hlen; simp only [List.length_cons] at this; omega
                    obtain ⟨ρ', x1, x2, x3, x4⟩ := hwr'.new (K := H') (w' := w') (L := ⟨gb, 0, cur.size⟩) (b := .cells T (Tr.ofListAt .nil 0 (ints (x :: lx))) (ints (x :: lx)).length) hn
                      (fun j bj Lj hj hLj => by
                        rw [f1, e1] at hj
                        exact Nat.ne_of_lt (Nat.lt_of_lt_of_le (live_lt hwr hj hLj) hbase)) (Nat.le_trans hb0 hbase) hu
                      (fun ρ' hle _ => ⟨cur, (0, 0), rfl, fun _ => rfl, rfl, by simp only [Nat.zero_add]; rw [hil, r3, Nat.mul_one]; omega, fun i v hv => by
                        obtain ⟨v', h10, h11⟩ := hcells i v hv
                        exact ⟨v', h10, (h11 ρ').1, (h11 ρ').2⟩⟩) hk3 hkl hkn
                    refine ⟨_, ρ', rfl, ⟨by rw [← hnx]; exact x1, x3, hbel.mono hwr.base⟩, ?_⟩
                    unfold Rel
                    exact ⟨⟨gb, 0, cur.size⟩, ⟨gb, 0, Option.none⟩, cap, x2, by rw [hlen]; rfl, Or.inl ⟨rfl, by simp only [Nat.zero_add, Nat.mul_one]; rw [r3, Nat.mul_one]; exact Nat.le_refl _⟩, by rw [hlen] at r1; simpa using r1, by intro k hk; cases hk⟩
            | _ => exact (fail_some h4).elim
          | _ => exact (fail_some h2).elim
        | _ => exact (fail_some h2).elim
      · exact (fail_some (H := H) hr).elim
    | false =>
      rw [hb] at hg
      simp only [cond_false] at hg
      split at hg
      · rename_i p hp
        cases hg
        have hmem := List.mem_of_find?_eq_some hp
        have he := List.find?_some hp
        have he : f = p.1 := Nat.eq_of_beq_eq_true he
        subst he
        unfold keysG at hr
        have fin : ∀ (x : AVal) (mb : Option Nat), (∀ ρ', Le ρ ρ' → Rel σ ρ' x (.map mb)) → args' = #[.map mb] → bd (nw (.one x)) (fun id => ret (.fn (.func p.2.1) [] [.ptr id 0])) H = some (v, H') → CallsIn Fence.wide 0 P p.1 args' w (ValPost σ ρ base H H' w v) := by
          intro x mb hx ha h
          subst ha
          obtain ⟨id, K, h1, h2⟩ := bd_some h
          cases ret_some h2
          refine (hP.keys p hmem mb w).mono ?_
          rintro en w' ⟨rfl, rfl⟩
          obtain ⟨ρ', p1, p2, p3, p4⟩ := newBlk_ok' (o := .cells #[.map mb] p.2.2 (0, 0)) h1 hwr hf (fun ρ' hle => ⟨rfl, .map mb, p.2.2, (0, 0), rfl, hx ρ' hle⟩)
          refine ⟨_, ρ', rfl, ⟨p1, p2, p3⟩, ?_⟩
          unfold Rel
          exact ⟨_, _, rfl, .nil, .cons (by unfold Rel; exact ⟨_, p4, rfl⟩) .nil⟩
        have one : ∀ x : AVal, RelL σ ρ [x] args'.toList → ∃ v, args' = #[v] ∧ Rel σ ρ x v := by
          intro x hx
          unfold RelL at hx
          obtain ⟨y, ys, g1, g2, g3⟩ := hx
          unfold RelL at g3
          subst g3
          exact ⟨y, by apply Array.toList_inj.1; rw [g1], g2⟩
        split at hr
        · obtain ⟨v1, ha, hv1⟩ := one _ hra
          unfold Rel at hv1
          exact fin .nilmap Option.none (fun ρ' _ => by unfold Rel; rfl) (by rw [ha, hv1]) hr
        · rename_i m
          obtain ⟨v1, ha, hv1⟩ := one _ hra
          unfold Rel at hv1
          obtain ⟨D, hD, hv1⟩ := hv1
          exact fin (.map m) (some D.blk) (fun ρ' hle => by unfold Rel; exact ⟨D, hle _ _ hD, rfl⟩) (by rw [ha, hv1]) hr
        · exact (fail_some (H := H) hr).elim
      · cases hg
end
end Go.AM
namespace Go.AM
open Go Go.Proofs Go.RowKit Go.Maps Go.Sort Go.Shelf Go.WideShapes
/-! ### 'slices.Sort' at a list of numbers of the kind int, taken as told: it sorts in place -/
def intsOf : List AVal → Option (List Int)
  | [] => some []
  | .int .i64 n :: l => match intsOf l with
    | some r => some (n :: r)
    | none => none
  | _ => none
theorem intsOf_eq : ∀ {l : List AVal} {r : List Int}, intsOf l = some r → l = ints r
  | [], r, h => by cases h; rfl
  | x :: l, r, h => by
    unfold intsOf at h
    split at h
    · rename_i e; cases e
    · rename_i n l' e
      split at h
      · rename_i r' hr
        cases h
        cases e
        rw [intsOf_eq hr]; rfl
      · cases h
    · cases h
def sortG (args : List AVal) : M AVal := match args with
  | [.nilslc] => ret (.tup [])
  | [.slc b o n _ es] => match n with
    | 0 => ret (.tup [])
    | k + 1 => cond (Nat.beq es 1 && Nat.ble k 1000000) (bd (loadCellsA b o (k + 1)) fun cs => match intsOf cs with
      | some l => bd (storeCellsA b o (ints (sortI l))) fun _ => ret (.tup [])
      | none => fail) fail
  | _ => fail
theorem fr_sortG (args : List AVal) : Fr (sortG args) := by
  unfold sortG
  repeat' first | exact fr_fail | exact fr_ret _ | exact fr_loadCellsA _ _ _ | exact fr_storeCellsA _ _ _ | (refine fr_cond _ ?_ ?_) | (refine fr_bd ?_ fun _ => ?_) | split
section
variable {P : Program} {σ : Nat → Value} {ρ : Ren}
structure SortOK (P : Program) (fs : FuncId) : Prop where
  row : ∀ (blk off cap : Nat) (zs : List Int) (w : World), Holds (Value.int .i64) w blk off zs.toArray → blk < w.heap.size → zs.length < 4611686018427387904 →
    CallsIn Fence.wide 0 P fs #[.slice (some ⟨blk, off, none⟩) zs.length cap] w fun e w' => e = .returned (.tuple #[]) ∧ ∃ n os, w' = grow (putRow (Value.int .i64) (Sort.ahead w n) blk off (zs.mergeSort fun x y => decide (x ≤ y)).toArray) os
  none : ∀ (p : Option Addr) (cap : Nat) (w : World), CallsIn Fence.wide 0 P fs #[.slice p 0 cap] w fun e w' => e = .returned (.tuple #[]) ∧ w' = w
def sortX (fs : FuncId) : Told := fun f => cond (Nat.beq f fs) (some sortG) none
theorem below_grow (w : World) (os : Array Obj) : Below w.heap.size w (grow w os) := by
  refine ⟨rfl, rfl, rfl, by simp [grow], fun k hk => ?_⟩
  simp [grow, Array.getElem?_append, hk]
theorem put_upd {w : World} {B off : Nat} {cc : Array Value} {e : TypeId} {fr : Nat × Nat} {d : Array Int} (m : Nat) (h : w.heap[B]? = some (.cells cc e fr)) :
    Upd w B (.cells (putCells (Value.int .i64) off d cc) e fr) (putRow (Value.int .i64) (Sort.ahead w m) B off d) := by
  refine ⟨rfl, rfl, rfl, by simp [putRow, mapBlock, Sort.ahead], ?_, fun j hj => ?_⟩
  · simp [putRow, mapBlock, Sort.ahead, Array.getElem?_modify, h, onCells]
  · simp [putRow, mapBlock, Sort.ahead, Array.getElem?_modify, Ne.symm hj]
theorem one_arg {x : AVal} {args' : Array Value} (hx : RelL σ ρ [x] args'.toList) : ∃ v, args' = #[v] ∧ Rel σ ρ x v := by
  unfold RelL at hx
  obtain ⟨y, ys, g1, g2, g3⟩ := hx
  unfold RelL at g3
  subst g3
  exact ⟨y, by apply Array.toList_inj.1; rw [g1], g2⟩
theorem rel_tup0 : Rel σ ρ (.tup []) (.tuple #[]) := by unfold Rel; exact ⟨#[], rfl, by unfold RelL; rfl⟩
theorem sortX_ok {fs : FuncId} (hP : SortOK P fs) : ExtOK P (sortX fs) := by
  refine ⟨fun f g args h => ?_, fun f g hg args H v H' hr σ ρ base w args' hσ hwr hf hra => ?_⟩
  · unfold sortX at h
    cases hb : Nat.beq f fs with
    | true => rw [hb] at h; cases h; exact fr_sortG _
    | false => rw [hb] at h; cases h
  · unfold sortX at hg
    cases hb : Nat.beq f fs with
    | false => rw [hb] at hg; cases hg
    | true =>
      rw [hb] at hg
      cases hg
      have e := Nat.eq_of_beq_eq_true hb
      subst e
      unfold sortG at hr
      split at hr
      · cases ret_some hr
        obtain ⟨v1, rfl, hv1⟩ := one_arg hra
        unfold Rel at hv1
        subst hv1
        refine (hP.none _ 0 w).mono ?_
        rintro en w' ⟨rfl, rfl⟩
        exact ⟨_, ρ, rfl, ⟨.refl _ _ _, hwr, .refl _ _⟩, rel_tup0⟩
      · rename_i b o n cap es
        obtain ⟨v1, rfl, hv1⟩ := one_arg hra
        unfold Rel at hv1
        obtain ⟨L, a, c, hL, rfl, ha, hc1, hc2⟩ := hv1
        cases n with
        | zero =>
          cases ret_some hr
          refine (hP.none _ c w).mono ?_
          rintro en w' ⟨rfl, rfl⟩
          exact ⟨_, ρ, rfl, ⟨.refl _ _ _, hwr, .refl _ _⟩, rel_tup0⟩
        | succ k =>
          obtain ⟨ha, hsz⟩ := ha.resolve_right fun h => by omega
          subst ha
          simp only at hr
          obtain ⟨hes, h2⟩ := cond_some hr
          rw [Bool.and_eq_true] at hes
          have hk : k ≤ 1000000 := Nat.le_of_ble_eq_true hes.2
          obtain ⟨cs, K, h3, h4⟩ := bd_some h2
          obtain ⟨blk, K0, h5, h6⟩ := bd_some h3
          obtain ⟨hb0, e1, e2, e3⟩ := rd_some h5
          cases blk with
          | cells el cT N =>
            simp only at h6
            obtain ⟨l', hl, e⟩ := lift_some h6
            cases e
            obtain ⟨hlen, hget⟩ := cellsAt_spec _ o cs hl
            cases hil : intsOf cs with
            | none => rw [hil] at h4; exact (fail_some h4).elim
            | some l =>
              rw [hil] at h4
              simp only at h4
              obtain ⟨u, K2, h7, h8⟩ := bd_some h4
              cases ret_some h8
              have hcs := intsOf_eq hil
              obtain ⟨blk2, K3, h9, h10⟩ := bd_some h7
              obtain ⟨hb1, f1, f2, f3⟩ := rd_some h9
              rw [e1, hb0] at hb1
              cases hb1
              simp only at h10
              obtain ⟨hcc, h11⟩ := cond_some h10
              rw [Bool.and_eq_true] at hcc
              obtain ⟨hlo, _, hk2, hkl, hkn⟩ := wr_some h11
              have hlo2 : H.lo ≤ b := by rw [f2, e2] at hlo; exact hlo
              obtain ⟨L', hL', cc, fr, p1, p2, p3, p4, p5⟩ := hwr.blk b _ hb0
              rw [hL] at hL'; cases hL'
              have hfr := p2 hlo2
              subst hfr
              have hll : l.length = k + 1 := by rw [← hlen, hcs, ints_eq]; simp
              have hsl : (sortI l).length = k + 1 := by rw [← hll]; exact (sortI_perm l).length_eq
              have hH : Holds (Value.int .i64) w L.blk (L.sh + o) l.toArray := by
                intro j hj
                have hj' : j < l.length := by simpa using hj
                have hcj : cs[j]? = some (.int .i64 l[j]) := by rw [hcs, ints_eq, List.getElem?_map, List.getElem?_eq_getElem hj']; rfl
                obtain ⟨v', q1, q2, _⟩ := p5 _ _ (hget j _ hcj)
                unfold Rel at q2
                refine ⟨?_, frozen_of p1 _⟩
                rw [cell_of p1, Nat.add_assoc, q1, q2]
                simp [hj']
              have hblk : L.blk < w.heap.size := lt_of_get p1
              have hrow := hP.row L.blk (L.sh + o) c l w hH hblk (by omega)
              rw [hll] at hrow
              refine hrow.mono ?_
              rintro en w' ⟨rfl, m, os, rfl⟩
              have hms : l.mergeSort (fun x y => decide (x ≤ y)) = sortI l := sortI_merge (.refl l)
              rw [hms]
              have hu := put_upd (off := L.sh + o) (d := (sortI l).toArray) m p1
              have hput := hwr.put (K := H') (b := .cells el (Tr.ofListAt cT o (ints (sortI l))) N) hb0 hL hlo2 hu (by
                refine ⟨_, (0, 0), rfl, fun _ => rfl, by simp [putCells, p3], by simp [putCells]; exact p4, fun i v hv => ?_⟩
                rw [Tr.get_ofListAt] at hv
                split at hv
                · rename_i hi
                  rw [ints_eq, List.getElem?_map] at hv
                  obtain ⟨x, hx, rfl⟩ := Option.map_eq_some_iff.1 hv
                  have hlt : i - o < (sortI l).length := (List.getElem?_eq_some_iff.1 hx).1
                  have hil : (ints (sortI l)).length = k + 1 := by rw [ints_eq]; simpa using hsl
                  refine ⟨.int .i64 x, ?_, by unfold Rel; rfl, rfl⟩
                  have hcb : L.sh + i < cc.size := by
                    have : o + (ints (sortI l)).length ≤ N := by simpa [Nat.ble_eq] using hcc.1
                    omega
                  simp only [putCells, Array.getElem?_mapIdx, Array.getElem?_eq_getElem hcb, Option.map_some]
                  rw [if_pos ⟨by omega, by simp; omega⟩]
                  have : L.sh + i - (L.sh + o) = i - o := by omega
                  rw [this]
                  simp [List.getElem?_eq_some_iff.1 hx |>.2, hlt]
                · rename_i hi
                  obtain ⟨v', q1, q2, q3⟩ := p5 i v hv
                  refine ⟨v', ?_, q2, q3⟩
                  have hil : (ints (sortI l)).length = k + 1 := by rw [ints_eq]; simpa using hsl
                  simp only [putCells, Array.getElem?_mapIdx, q1, Option.map_some]
                  rw [if_neg]
                  simp
                  omega) (fun j => by rw [hk2, f1, e1]) (hkl.trans (f2.trans e2))
              have hbg := below_grow (putRow (Value.int .i64) (Sort.ahead w m) L.blk (L.sh + o) (sortI l).toArray) os
              refine ⟨_, ρ, rfl, ⟨?_, wr_below hput.1 hbg, hput.2.trans (hbg.mono hput.1.base)⟩, rel_tup0⟩
              rw [show H'.next = H.next by rw [hkn, f3, e3]]
              exact .refl _ _ _
          | _ => exact (fail_some h6).elim
      · exact (fail_some (H := H) hr).elim
end
end Go.AM
namespace Go.AM
open Go
variable {α β : Type} {K : AVal → Heap → Prop} {s : Heap}
/-! ### the calculus with slices.Sort told -/
theorem orX_fr {X Y : Told} (hX : FrX X) (hY : FrX Y) : FrX (orX X Y) := fun f g args h => by
  unfold orX at h
  cases hx : X f with
  | some g' => rw [hx] at h; cases h; exact hX f _ args hx
  | none => rw [hx] at h; exact hY f g args h
theorem sortX_fr (fs : FuncId) : FrX (sortX fs) := fun f g args h => by
  unfold sortX at h
  cases hb : Nat.beq f fs with
  | true => rw [hb] at h; cases h; exact fr_sortG _
  | false => rw [hb] at h; cases h
theorem wp_told {P : Program} {X : Told} {f : FuncId} {g : List AVal → M AVal} {args : List AVal} (hf : X f = some g) (h : wpF (fun _ => g args) K s) : wpCall P X f args K s := by
  intro H hH
  obtain ⟨n, a, H', h1, s', h2, h3, h4⟩ := h H hH
  refine ⟨1, .val a, H', ?_, s', h2, h3, a, rfl, h4⟩
  show (match X f with
    | some g => AM.bd (g args) fun v => AM.ret (Out.val v)
    | none => runCall P (run P X 0) f args) H = _
  rw [hf]
  show AM.bd _ _ H = _
  unfold AM.bd
  have h1 : g args H = some (a, H') := h1
  rw [h1]; rfl
abbrev izs (l : List Int) : List AVal := l.map (AVal.int .i64)
theorem intsOf_izs : ∀ l : List Int, intsOf (izs l) = some l
  | [] => rfl
  | n :: l => by
    show (match intsOf (izs l) with
      | some r => some (n :: r)
      | none => none) = _
    rw [intsOf_izs l]
end Go.AM
namespace Go.AM
open Go
variable {α β : Type} {K : AVal → Heap → Prop} {s : Heap} {P : Program} {X : Told}
/-! ### maps from numbers in the calculus -/
/-- entries in order: keys that are numbers, none twice; stamps, none twice, none from later on -/
structure EsOK (es : List AEnt) (c : Nat) (l : List (Int × AVal)) : Prop where
  kv : es.map (fun e => (e.key, e.val)) = l.map fun p => (AVal.int .i64 p.1, p.2)
  nd : (l.map (·.1)).Nodup
  bd : ∀ p ∈ l, -9223372036854775808 ≤ p.1 ∧ p.1 ≤ 9223372036854775807
  bs : (es.map (·.born)).Nodup
  lt : ∀ e ∈ es, e.born < c
theorem EsOK.nil : EsOK [] 0 [] := ⟨rfl, by simp, by simp, by simp, by simp⟩
/-- what a list of pairs has at a key -/
def look {V : Type} (l : List (Int × V)) (k : Int) : Option V := (l.find? fun p => p.1 == k).map (·.2)
theorem EsOK.len {es : List AEnt} {c : Nat} {l : List (Int × AVal)} (h : EsOK es c l) : es.length = l.length := by
  have := congrArg List.length h.kv
  simpa using this
theorem keyEq_int {k n : Int} : keyEq (.int .i64) (.int .i64 k) (.int .i64 n) = some (k == n) := by
  show cond (intKindEq .i64 .i64) (some (eqI k n)) none = _
  rw [eqI_eq]; rfl
theorem findI_kv : ∀ {es : List AEnt} {l : List (Int × AVal)} {k : Int} {i : Nat}, es.map (fun e => (e.key, e.val)) = l.map (fun p => (AVal.int .i64 p.1, p.2)) →
    ∃ r, findI (.int .i64 k) es i = some r ∧ r.map (·.2) = look l k ∧ ∀ p, r = some p → ∃ j, p.1 = i + j ∧ ∃ v, l[j]? = some (k, v) := by
  intro es
  induction es with
  | nil =>
    intro l k i h
    cases l with
    | nil => exact ⟨none, rfl, rfl, fun p e => by cases e⟩
    | cons p l => simp at h
  | cons e es ih =>
    intro l k i h
    cases l with
    | nil => simp at h
    | cons p l =>
      obtain ⟨pk, pv⟩ := p
      simp only [List.map_cons, List.cons.injEq, Prod.mk.injEq] at h
      obtain ⟨⟨h1, h2⟩, h3⟩ := h
      unfold findI
      rw [h1, keyEq_int]
      by_cases e1 : k = pk
      · rw [beq_iff_eq.2 e1]
        refine ⟨_, rfl, ?_, fun p e => ?_⟩
        · rw [e1]; simp [look, h2]
        · cases e
          exact ⟨0, by simp, pv, by rw [e1]; rfl⟩
      · rw [beq_eq_false_iff_ne.2 e1]
        obtain ⟨r, g1, g2, g3⟩ := ih (l := l) (k := k) (i := i + 1) h3
        refine ⟨r, g1, ?_, fun p e => ?_⟩
        · rw [g2]
          unfold look
          rw [List.find?_cons_of_neg (by simpa using Ne.symm e1)]
        · obtain ⟨j, q1, v, q2⟩ := g3 p e
          exact ⟨j + 1, by omega, v, by simpa using q2⟩
/-- a map of one's own -/
def MapAt (s : Heap) (b : Nat) (l : List (Int × AVal)) : Prop := ∃ es c, s b = some (false, .map es c) ∧ EsOK es c l
theorem MapAt.get {b : Nat} {l : List (Int × AVal)} (h : MapAt s b l) {k : Int} : getM s (.map b) (.int .i64 k) = some (look l k) := by
  obtain ⟨es, c, hb, ho⟩ := h
  obtain ⟨r, g1, g2, _⟩ := findI_kv (k := k) (i := 0) ho.kv
  unfold getM
  simp only [hb, g1]
  rw [← g2]
  cases r <;> rfl
theorem MapAt.len {b : Nat} {l : List (Int × AVal)} (h : MapAt s b l) : lenM s (.map b) = some l.length := by
  obtain ⟨es, c, hb, ho⟩ := h
  simp [lenM, hb, ho.len]
/-- stores at a key -/
def stor {V : Type} (l : List (Int × V)) (k : Int) (v : V) : List (Int × V) := match look l k with
  | some _ => l.map fun p => if p.1 = k then (k, v) else p
  | none => l ++ [(k, v)]
theorem look_none {V : Type} {l : List (Int × V)} {k : Int} : look l k = none ↔ k ∉ l.map (·.1) := by
  unfold look
  rw [Option.map_eq_none_iff, List.find?_eq_none]
  constructor
  · intro h hm
    obtain ⟨p, hp, rfl⟩ := List.mem_map.1 hm
    exact h p hp (by simp)
  · intro h p hp e
    exact h (List.mem_map.2 ⟨p, hp, by simpa using e⟩)
theorem modE_born {es : List AEnt} {k v : AVal} : ∀ {i : Nat}, (modE es i (fun e => { e with key := k, val := v })).map (·.born) = es.map (·.born) := by
  induction es with
  | nil => intro i; cases i <;> rfl
  | cons e es ih =>
    intro i
    cases i with
    | zero => rfl
    | succ i =>
      show e.born :: (modE es i _).map (·.born) = _
      rw [ih]; rfl
theorem modE_kv {k : Int} {v : AVal} : ∀ {es : List AEnt} {l : List (Int × AVal)} {j : Nat} {w : AVal}, es.map (fun e => (e.key, e.val)) = l.map (fun p => (AVal.int .i64 p.1, p.2)) → (l.map (·.1)).Nodup → l[j]? = some (k, w) →
    (modE es j (fun e => { e with key := .int .i64 k, val := v })).map (fun e => (e.key, e.val)) = (l.map fun p => if p.1 = k then (k, v) else p).map fun p => (AVal.int .i64 p.1, p.2) := by
  intro es
  induction es with
  | nil =>
    intro l j w h _ hj
    cases l with
    | nil => simp at hj
    | cons p l => simp at h
  | cons e es ih =>
    intro l j w h nd hj
    cases l with
    | nil => simp at h
    | cons p l =>
      obtain ⟨pk, pv⟩ := p
      simp only [List.map_cons, List.cons.injEq, Prod.mk.injEq] at h
      obtain ⟨⟨h1, h2⟩, h3⟩ := h
      rw [List.map_cons, List.nodup_cons] at nd
      cases j with
      | zero =>
        have hj : pk = k := by simp at hj; exact hj.1
        subst hj
        have hl : (l.map fun p => if p.1 = pk then (pk, v) else p) = l := by
          refine (List.map_congr_left fun p hp => ?_).trans (List.map_id l)
          rw [if_neg]; rfl
          intro e; exact nd.1 (List.mem_map.2 ⟨p, hp, e⟩)
        show ((AVal.int .i64 pk, v) :: es.map fun e => (e.key, e.val)) = _
        rw [List.map_cons, hl, if_pos rfl, List.map_cons, h3]
      | succ j =>
        have hj : l[j]? = some (k, w) := by simpa using hj
        have hne : pk ≠ k := fun e => nd.1 (List.mem_map.2 ⟨(k, w), List.mem_of_getElem? hj, e.symm⟩)
        show ((e.key, e.val) :: (modE es j _).map fun e => (e.key, e.val)) = _
        rw [ih h3 nd.2 hj, List.map_cons, if_neg hne, List.map_cons, h1, h2]
theorem MapAt.put {b : Nat} {l : List (Int × AVal)} {k : Int} {v : AVal} {R : Heap → Prop} (h : MapAt s b l) (hk : -9223372036854775808 ≤ k ∧ k ≤ 9223372036854775807) (hK : ∀ s', MapAt s' b (stor l k v) → Upto b s s' → R s') : optK (putM s (.map b) (.int .i64 k) v) R := by
  obtain ⟨es, c, hb, ho⟩ := h
  obtain ⟨r, g1, g2, g3⟩ := findI_kv (k := k) (i := 0) ho.kv
  unfold putM putE
  simp only [hb, g1]
  cases r with
  | none =>
    refine hK _ ⟨_, _, hset_eq, ?_⟩ fun _ hi => hset_other hi
    have hl : look l k = none := g2.symm
    unfold stor
    rw [hl]
    refine ⟨?_, ?_, ?_, ?_, ?_⟩
    · simp only [List.map_append, List.map_cons, List.map_nil]
      rw [ho.kv]
    · rw [List.map_append]
      exact List.nodup_append.2 ⟨ho.nd, by simp, fun a ha b hb => by
        have : b = k := by simpa using hb
        rintro rfl
        rw [this] at ha
        exact look_none.1 hl ha⟩
    · intro p hp
      rw [List.mem_append, List.mem_singleton] at hp
      rcases hp with hp | rfl
      · exact ho.bd p hp
      · exact hk
    · rw [List.map_append]
      exact List.nodup_append.2 ⟨ho.bs, by simp, fun a ha b hb => by
        have hb : b = c := by simpa using hb
        rintro rfl
        obtain ⟨e, he, rfl⟩ := List.mem_map.1 ha
        have := ho.lt e he
        omega⟩
    · intro e he
      rw [List.mem_append, List.mem_singleton] at he
      rcases he with he | rfl
      · have := ho.lt e he; omega
      · exact Nat.lt_succ_self c
  | some p =>
    obtain ⟨j, q1, w, q2⟩ := g3 p rfl
    rw [Nat.zero_add] at q1
    refine hK _ ⟨_, _, hset_eq, ?_⟩ fun _ hi => hset_other hi
    have hl : look l k = some p.2 := g2.symm
    unfold stor
    rw [hl, q1]
    refine ⟨modE_kv ho.kv ho.nd q2, ?_, ?_, ?_, ?_⟩
    · rw [List.map_map]
      have : ((fun p : Int × AVal => p.1) ∘ fun p => if p.1 = k then (k, v) else p) = fun p => p.1 := by
        funext p
        show (if p.1 = k then (k, v) else p).1 = p.1
        split
        · rename_i e; exact e.symm
        · rfl
      rw [this]; exact ho.nd
    · intro p hp
      obtain ⟨q, hq, rfl⟩ := List.mem_map.1 hp
      split
      · exact hk
      · exact ho.bd q hq
    · show ((modE es j _).map (·.born)).Nodup
      rw [modE_born]; exact ho.bs
    · intro e he
      have : e.born ∈ (modE es j (fun e => { e with key := .int .i64 k, val := v })).map (·.born) := List.mem_map.2 ⟨e, he, rfl⟩
      rw [modE_born] at this
      obtain ⟨e', he', q⟩ := List.mem_map.1 this
      rw [← q]; exact ho.lt e' he'
theorem map_new {R : AVal → Heap → Prop} (h : ∀ b s', s b = none → MapAt s' b [] → Upto b s s' → R (.map b) s') : mapK R s := fun b hb => h b _ hb ⟨_, _, hset_eq, .nil⟩ fun _ hi => hset_other hi
theorem look_cons {V : Type} {p : Int × V} {l : List (Int × V)} {j : Int} : look (p :: l) j = if p.1 = j then some p.2 else look l j := by
  unfold look
  by_cases e : p.1 = j
  · rw [if_pos e, List.find?_cons_of_pos (by simpa using e)]; rfl
  · rw [if_neg e, List.find?_cons_of_neg (by simpa using e)]
/-! ### slices.Sorted(maps.Keys(m)) -/
/-! ### Sorted(Keys) and functions without arguments told -/
theorem sortedX_fr (T : TypeId) (fs : FuncId) (l : List (FuncId × FuncId × TypeId)) : FrX (sortedX T fs l) := fun f g args h => by
  unfold sortedX at h
  cases hb : Nat.beq f fs with
  | true => rw [hb] at h; cases h; exact fr_sortedG _ _ _
  | false =>
    rw [hb] at h
    simp only [cond_false] at h
    split at h
    · cases h; exact fr_keysG _ _
    · cases h
def toldM (T : TypeId) (fs : FuncId) (l : List (FuncId × FuncId × TypeId)) (cl : List FuncId) : Told := orX (sortedX T fs l) (closedX cl)
theorem toldM_fr (T : TypeId) (fs : FuncId) (l : List (FuncId × FuncId × TypeId)) (cl : List FuncId) : FrX (toldM T fs l cl) := orX_fr (sortedX_fr T fs l) (closedX_fr cl)
end Go.AM
namespace Go.AM
open Go
variable {α β : Type} {K : AVal → Heap → Prop} {s : Heap}
/-! ### slices.Sort and slices.Sorted(maps.Keys(..)) both told -/
def toldB (so : FuncId) (T : TypeId) (fs : FuncId) (l : List (FuncId × FuncId × TypeId)) (cl : List FuncId) : Told := orX (sortX so) (toldM T fs l cl)
theorem toldB_fr (so : FuncId) (T : TypeId) (fs : FuncId) (l : List (FuncId × FuncId × TypeId)) (cl : List FuncId) : FrX (toldB so T fs l cl) := orX_fr (sortX_fr so) (toldM_fr T fs l cl)
theorem toldB_sort {so : FuncId} {T : TypeId} {fs : FuncId} {l : List (FuncId × FuncId × TypeId)} {cl : List FuncId} : toldB so T fs l cl so = some sortG := by
  unfold toldB orX sortX
  rw [Nat.beq_refl]; rfl
/-- a list of one's own is sorted -/
theorem wp_sortX {P : Program} {X : Told} {fs : FuncId} {e : TypeId} {b : Nat} {cap : Option Nat} {l : List Int} (hX : X fs = some sortG) (hb : s b = some (false, .cells e (izs l))) (hl : l.length ≤ 1000000)
    (hK : ∀ s', s' b = some (false, .cells e (izs (sortI l))) → Upto b s s' → K (.tup []) s') : wpCall P X fs [.slc b 0 l.length cap 1] K s := by
  refine wp_told hX ?_
  cases l with
  | nil => exact wpF.ret (hK s hb fun _ _ => rfl)
  | cons x r =>
    unfold sortG
    simp only [List.length_cons]
    have hle : Nat.ble r.length 1000000 = true := by rw [Nat.ble_eq]; simp at hl; omega
    refine wpF.cond (by rw [hle]; rfl) (wpF.bd (fun _ _ _ _ _ h => h) (fun _ _ _ _ _ _ h => h) (wp_loadCells (l := izs (x :: r)) ?_ fun _ => ?_))
    · show (match s b with
        | some (_, .cells _ l) => takeAt l 0 (r.length + 1)
        | _ => none) = _
      rw [hb]
      have e0 : Nat.ble (0 + (r.length + 1)) (izs (x :: r)).length = true := by rw [Nat.ble_eq]; simp
      simp only [takeAt, e0, cond_true, List.drop_zero]
      rw [List.take_of_length_le (by simp)]
    · simp only [intsOf_izs]
      have hsl : (sortI (x :: r)).length = r.length + 1 := by rw [(sortI_perm _).length_eq]; rfl
      refine wpF.bd (fun _ _ _ _ _ h => h) (fun _ _ _ _ _ _ h => h) (wp_storeCells (s' := hset s b (false, .cells e (izs (sortI (x :: r))))) ?_ (wpF.ret (hK _ ?_ ?_)))
      · have e1 : ints (sortI (x :: r)) = izs (sortI (x :: r)) := ints_eq _
        rw [e1]
        have e4 : ∀ k : List Int, allOne (izs k) = true := by
          intro k
          induction k with
          | nil => rfl
          | cons y k ih => simpa [allOne] using ih
        have e5 : setRange (izs (x :: r)) 0 (izs (sortI (x :: r))) = izs (sortI (x :: r)) := by
          unfold setRange
          rw [List.drop_eq_nil_of_le (by rw [List.length_map, List.length_map, hsl]; simp)]
          simp
        have e6 : Nat.ble (0 + (izs (sortI (x :: r))).length) (izs (x :: r)).length = true := by rw [Nat.ble_eq, List.length_map, List.length_map, hsl]; simp
        simp only [wrN, hb, e4, e5, e6]
        rfl
      · simp [hset]
      · intro i hi
        simp [hset, hi]
theorem wp_closedB {P : Program} {so : FuncId} {T : TypeId} {fs : FuncId} {l : List (FuncId × FuncId × TypeId)} {cl : List FuncId} {f : FuncId} (hf : memN f cl = true) (hso : Nat.beq f so = false) (hne : (sortedX T fs l f).isNone = true) (h : K (.bool true) s) : wpCall P (toldB so T fs l cl) f [] K s := by
  refine wp_told (g := fun args => match args with
    | [] => AM.ret (.bool true)
    | _ => AM.fail) ?_ (wpF.ret h)
  unfold toldB orX sortX
  rw [hso]
  unfold toldM orX
  cases q : sortedX T fs l f with
  | some y => rw [q] at hne; cases hne
  | none =>
    unfold closedX
    rw [hf]
    simp only [cond_false, q]
    rfl
end Go.AM
namespace Go.Proofs.Ytcbmjpekogancaa
open Go Go.RowKit Go.Maps Go.Sort Go.Shelf
set_option maxRecDepth 100000
def keys42_ren : Go.Shelf.Ren := ⟨fun | 7 => 42 | 10 => 55 | n => n, fun | 23 => 83 | 26 => 3 | 3 => 84 | 28 => 81 | 0 => 0 | 27 => 80 | 33 => 95 | 4 => 4 | n => n, fun | n => n⟩
theorem keys42 : Go.Proofs.SlLaysZI.n7 Try.prog keys42_ren := {
  mixed := by kernel_rfl,
  f7 := ⟨Try.f42.name, by decide, Try.func42.trans (congrArg some (by kernel_rfl))⟩,
  f10 := ⟨Try.f55.name, by decide, Try.func55.trans (congrArg some (by kernel_rfl))⟩,
  t0 := Try.underlying0,
  a0 := Try.isAgg0,
  z0 := Try.sizeOf0,
  v0 := Try.zeroValue0,
  t4 := Try.underlying4,
  a4 := Try.isAgg4,
  z4 := Try.sizeOf4,
  v4 := Try.zeroValue4,
  t23 := Try.underlying83,
  a23 := Try.isAgg83,
  z23 := Try.sizeOf83,
  v23 := Try.zeroValue83,
  t26 := Try.underlying3,
  a26 := Try.isAgg3,
  z26 := Try.sizeOf3,
  v26 := Try.zeroValue3,
  t27 := Try.underlying80,
  a27 := Try.isAgg80,
  z27 := Try.sizeOf80,
  v27 := Try.zeroValue80,
  t28 := Try.underlying81,
  a28 := Try.isAgg81,
  z28 := Try.sizeOf81,
  v28 := Try.zeroValue81,
  t33 := Try.underlying95,
  a33 := Try.isAgg95,
  z33 := Try.sizeOf95,
  v33 := Try.zeroValue95 }
def sorted41_ren : Go.Shelf.Ren := ⟨fun | 6 => 41 | 8 => 53 | 9 => 54 | 11 => 69 | 13 => 71 | 12 => 70 | 23 => 90 | 24 => 91 | 14 => 81 | 15 => 82 | 16 => 83 | 17 => 84 | 18 => 85 | 19 => 86 | 20 => 87 | 21 => 88 | 22 => 89 | 25 => 93 | 26 => 94 | 27 => 95 | 28 => 96 | 29 => 97 | 30 => 98 | 31 => 99 | n => n, fun | 26 => 3 | 28 => 81 | 24 => 28 | 0 => 0 | 3 => 3 | 37 => 120 | 48 => 26 | 50 => 42 | 4 => 4 | 40 => 133 | 39 => 132 | 45 => 33 | 5 => 5 | 9 => 9 | 51 => 142 | 55 => 146 | 57 => 148 | 58 => 149 | 33 => 95 | n => n, fun | n => n⟩
theorem sorted41 : Go.Proofs.SlLaysZI.n6 Try.prog sorted41_ren := {
  mixed := by kernel_rfl,
  f6 := ⟨Try.f41.name, by decide, Try.func41.trans (congrArg some (by kernel_rfl))⟩,
  f8 := ⟨Try.f53.name, by decide, Try.func53.trans (congrArg some (by kernel_rfl))⟩,
  f11 := ⟨Try.f69.name, by decide, Try.func69.trans (congrArg some (by kernel_rfl))⟩,
  t0 := Try.underlying0,
  a0 := Try.isAgg0,
  z0 := Try.sizeOf0,
  v0 := Try.zeroValue0,
  t24 := Try.underlying28,
  a24 := Try.isAgg28,
  z24 := Try.sizeOf28,
  v24 := Try.zeroValue28,
  t26 := Try.underlying3,
  a26 := Try.isAgg3,
  z26 := Try.sizeOf3,
  v26 := Try.zeroValue3,
  t28 := Try.underlying81,
  a28 := Try.isAgg81,
  z28 := Try.sizeOf81,
  v28 := Try.zeroValue81,
  i26 := by kernel_rfl }
def sort54_ren : Go.Shelf.Ren := ⟨fun | 5 => 54 | 8 => 71 | 7 => 70 | 19 => 90 | 20 => 91 | 10 => 81 | 11 => 82 | 12 => 83 | 13 => 84 | 14 => 85 | 15 => 86 | 16 => 87 | 17 => 88 | 18 => 89 | 30 => 93 | 31 => 94 | 32 => 95 | 33 => 96 | 34 => 97 | 35 => 98 | 40 => 99 | n => n, fun | 23 => 28 | 25 => 3 | 3 => 3 | 32 => 120 | 22 => 28 | 0 => 0 | 44 => 26 | 46 => 42 | 4 => 4 | 36 => 133 | 35 => 132 | 41 => 33 | 5 => 5 | 9 => 9 | 53 => 142 | 57 => 146 | 63 => 148 | 64 => 149 | n => n, fun | n => n⟩
theorem sort54 : Go.Proofs.SlLaysM.n5 Try.prog sort54_ren := {
  mixed := by kernel_rfl,
  f5 := ⟨Try.f54.name, by decide, Try.func54.trans (congrArg some (by kernel_rfl))⟩,
  f7 := ⟨Try.f70.name, by decide, Try.func70.trans (congrArg some (by kernel_rfl))⟩,
  f8 := Try.func71.trans (congrArg some (by kernel_rfl)),
  f10 := ⟨Try.f81.name, by decide, Try.func81.trans (congrArg some (by kernel_rfl))⟩,
  f11 := ⟨Try.f82.name, by decide, Try.func82.trans (congrArg some (by kernel_rfl))⟩,
  f12 := ⟨Try.f83.name, by decide, Try.func83.trans (congrArg some (by kernel_rfl))⟩,
  f13 := ⟨Try.f84.name, by decide, Try.func84.trans (congrArg some (by kernel_rfl))⟩,
  f14 := ⟨Try.f85.name, by decide, Try.func85.trans (congrArg some (by kernel_rfl))⟩,
  f15 := ⟨Try.f86.name, by decide, Try.func86.trans (congrArg some (by kernel_rfl))⟩,
  f16 := ⟨Try.f87.name, by decide, Try.func87.trans (congrArg some (by kernel_rfl))⟩,
  f17 := ⟨Try.f88.name, by decide, Try.func88.trans (congrArg some (by kernel_rfl))⟩,
  f18 := ⟨Try.f89.name, by decide, Try.func89.trans (congrArg some (by kernel_rfl))⟩,
  f19 := Try.func90.trans (congrArg some (by kernel_rfl)),
  f20 := Try.func91.trans (congrArg some (by kernel_rfl)),
  f30 := ⟨Try.f93.name, by decide, Try.func93.trans (congrArg some (by kernel_rfl))⟩,
  f31 := Try.func94.trans (congrArg some (by kernel_rfl)),
  f32 := Try.func95.trans (congrArg some (by kernel_rfl)),
  f33 := ⟨Try.f96.name, by decide, Try.func96.trans (congrArg some (by kernel_rfl))⟩,
  f34 := ⟨Try.f97.name, by decide, Try.func97.trans (congrArg some (by kernel_rfl))⟩,
  f35 := ⟨Try.f98.name, by decide, Try.func98.trans (congrArg some (by kernel_rfl))⟩,
  f40 := ⟨Try.f99.name, by decide, Try.func99.trans (congrArg some (by kernel_rfl))⟩,
  t0 := Try.underlying0,
  a0 := Try.isAgg0,
  z0 := Try.sizeOf0,
  v0 := Try.zeroValue0,
  t3 := Try.underlying3,
  a3 := Try.isAgg3,
  z3 := Try.sizeOf3,
  v3 := Try.zeroValue3,
  t4 := Try.underlying4,
  a4 := Try.isAgg4,
  z4 := Try.sizeOf4,
  v4 := Try.zeroValue4,
  t5 := Try.underlying5,
  a5 := Try.isAgg5,
  z5 := Try.sizeOf5,
  v5 := Try.zeroValue5,
  t9 := Try.underlying9,
  a9 := Try.isAgg9,
  z9 := Try.sizeOf9,
  v9 := Try.zeroValue9,
  t22 := Try.underlying28,
  a22 := Try.isAgg28,
  z22 := Try.sizeOf28,
  v22 := Try.zeroValue28,
  t23 := Try.underlying28,
  a23 := Try.isAgg28,
  z23 := Try.sizeOf28,
  v23 := Try.zeroValue28,
  t25 := Try.underlying3,
  a25 := Try.isAgg3,
  z25 := Try.sizeOf3,
  v25 := Try.zeroValue3,
  t32 := Try.underlying120,
  a32 := Try.isAgg120,
  z32 := Try.sizeOf120,
  v32 := Try.zeroValue120,
  t35 := Try.underlying132,
  a35 := Try.isAgg132,
  z35 := Try.sizeOf132,
  v35 := Try.zeroValue132,
  t36 := Try.underlying133,
  a36 := Try.isAgg133,
  z36 := Try.sizeOf133,
  v36 := Try.zeroValue133,
  t41 := Try.underlying33,
  a41 := Try.isAgg33,
  z41 := Try.sizeOf33,
  v41 := Try.zeroValue33,
  t44 := Try.underlying26,
  a44 := Try.isAgg26,
  z44 := Try.sizeOf26,
  v44 := Try.zeroValue26,
  t46 := Try.underlying42,
  a46 := Try.isAgg42,
  z46 := Try.sizeOf42,
  v46 := Try.zeroValue42,
  t53 := Try.underlying142,
  a53 := Try.isAgg142,
  z53 := Try.sizeOf142,
  v53 := Try.zeroValue142,
  t57 := Try.underlying146,
  a57 := Try.isAgg146,
  z57 := Try.sizeOf146,
  v57 := Try.zeroValue146,
  t63 := Try.underlying148,
  a63 := Try.isAgg148,
  z63 := Try.sizeOf148,
  v63 := Try.zeroValue148,
  t64 := Try.underlying149,
  a64 := Try.isAgg149,
  z64 := Try.sizeOf149,
  v64 := Try.zeroValue149 }
theorem sorts41 (m : Nat) : AnyZI.SortsIn Try.prog sorted41_ren Fence.wide m :=
  ⟨fun blk off cap ss W hH hblk hsz => callsIn_wide.2 (AnyM.slices_Sort_int sort54 blk off cap ss W hH hblk hsz),
   fun p cap W => callsIn_wide.2 (AnyM.slices_Sort_int_none sort54 p cap W)⟩
theorem sortedOK : AM.SortedOK Try.prog 3 41 [(42, 55, 83)] := by
  refine ⟨Try.underlying3, ?_, ?_, ?_⟩
  · intro p hp mb W
    simp only [List.mem_cons, List.not_mem_nil, or_false] at hp
    rcases hp with rfl
    · exact AnyZI.keys_in keys42 Fence.wide 0 trivial rfl mb W
  · intro p hp Bm b nn D0 w hlt hm hown hsz
    have hmax : Maps.size D0 ≤ maxLen := by unfold maxLen; omega
    have hbytes : Maps.size D0 * 8 ≤ 140737488355328 := by omega
    simp only [List.mem_cons, List.not_mem_nil, or_false] at hp
    rcases hp with rfl
    · have hseq : SeqGives Fence.wide 2 Try.prog 55 #[.pointer (some ⟨Bm, 0, none⟩)] encZ (fun ss => ss.Perm (intKeys D0)) (Maps.size D0) w :=
        AnyZI.keys_gives (ρ := keys42_ren) { keys42 with } Fence.wide _ trivial rfl (by omega) Bm b nn D0 w hlt hm hown
      have cS := AnyZI.sorted_in sorted41 Fence.wide 5 trivial trivial trivial trivial rfl (by omega) (sorts41 _) (enters_of Try.func54 (by kernel_rfl) rfl) 55 #[.pointer (some ⟨Bm, 0, none⟩)] trivial (enters_of Try.func55 (by kernel_rfl) rfl) _ _ hmax hbytes w hseq
      exact callsIn_wide.2 (callsIn_wide.1 cS)
  · intro p hp Bm w hlt hm
    simp only [List.mem_cons, List.not_mem_nil, or_false] at hp
    rcases hp with rfl
    · have hseq : SeqGives Fence.wide 2 Try.prog 55 #[.pointer (some ⟨Bm, 0, none⟩)] encZ (fun ss : List Int => ss = []) 0 w :=
        AnyZI.keys_gives_nil (ρ := keys42_ren) { keys42 with } Fence.wide _ trivial rfl Bm w hlt hm
      have cS := AnyZI.sorted_in sorted41 Fence.wide 5 trivial trivial trivial trivial rfl (by omega) (sorts41 _) (enters_of Try.func54 (by kernel_rfl) rfl) 55 #[.pointer (some ⟨Bm, 0, none⟩)] trivial (enters_of Try.func55 (by kernel_rfl) rfl) _ 0 (Nat.zero_le _) (by omega) w hseq
      refine (callsIn_wide.2 (callsIn_wide.1 cS)).mono ?_
      rintro e w' ⟨v, ss, rfl, rfl, hrow, hnil, hb⟩
      obtain rfl : v = .slice none 0 0 := hnil.2 rfl
      exact ⟨rfl, hb⟩
end Go.Proofs.Ytcbmjpekogancaa
namespace Go.Proofs.Ytcbmjpekogancaa
open Go Go.RowKit Go.Maps Go.Sort Go.Shelf
set_option maxRecDepth 100000
theorem sortOK : AM.SortOK Try.prog 54 :=
  ⟨fun blk off cap zs w hH hblk hsz => callsIn_wide.2 (AnyM.slices_Sort_int sort54 blk off cap zs w hH hblk hsz), fun p cap w => callsIn_wide.2 (AnyM.slices_Sort_int_none sort54 p cap w)⟩
end Go.Proofs.Ytcbmjpekogancaa
