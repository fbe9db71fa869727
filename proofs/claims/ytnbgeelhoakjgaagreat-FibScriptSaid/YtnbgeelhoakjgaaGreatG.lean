/- Part G of a calculus over a small memory that is proved to answer as the program does, and of its use for the functions that the law reaches: see the last part. -/
import Derived.Test.YtnbgeelhoakjgaaGreatD
import Derived.Test.YtnbgeelhoakjgaaGreatV
import Derived.Test.YtnbgeelhoakjgaaGreatE
set_option linter.unusedVariables false
namespace Go.AM.WH
open Go Go.Proofs
variable {s:Hq} {B B1 B2 M l:List Int}
abbrev outB (B:List Int):List Int:=B.map (· - 1)
theorem _root_.Go.AM.Acc.to {elem:TypeId} {s0 s s':Hq} {v:AV} {l:List AV} (h:Acc elem s0 s v l) (hs:Sub s s'):Acc elem s0 s' v l:=by
 rcases h with h | ⟨b,h1,h2,h3⟩
 ·exact .inl h
 ·exact .inr ⟨b,h1,h2,hs _ _ h3⟩
theorem qJY {l:List (Hq × Hq)} {t:Hq} {b:Nat} {x:Bool × Blk} (h:t b=some x) (hl:∀ p∈l,p.1 b≠none):cutH l t b=some x:=by
 have h1:cutH l t b≠none:=qMa (by rw [h];exact Option.some_ne_none _) λp hp h2=>hl p hp h2.1
 rw [(qF7 h1).2.2,h]
theorem qBn {s s7:Hq}:Sub s (add s s7):=λi e hi=>qAZ hi
theorem qYx {z0 z1 a b:AV} (ha:a.one=true) (hb:b.one=true):qA2 [z0,z1] [(0,1,a),(1,1,b)]=some [a,b]:=by
 simp only [qA2,qBk ha,qBk hb]
 rfl
theorem Stp.det (h1:Stp M B B1) (h2:Stp M B B2):B1=B2:=by
 cases h1 with
 | @fill i t hi h0 ht hmin hf hT=>
   cases h2 with
   | @fill i' t' hi' h0' ht' hmin' hf' hT'=>
     have e1:i=i':=by
      rcases Nat.lt_trichotomy i i' with h | h | h
      ·exact absurd h0 (hf' i hi h)
      ·exact h
      ·exact absurd h0' (hf i' hi' h)
     have e2:t=t':=by
      have a1:=hmin t' ht'
      have a2:=hmin' t ht
      have a3:=hT t' ht' (by omega)
      have a4:=hT' t ht (by omega)
      omega
     rw [e1,e2]
   | @move i' f' t' hi' hf1 hfr ht' hmin' hmax hd hnz hlst hT' hF=>exact absurd h0 (hnz _ (List.getElem_mem hi))
 | @move i f t hi hf1 hfr ht hmin hmax hd hnz hlst hT hF=>
   cases h2 with
   | @fill i' t' hi' h0' ht' hmin' hf' hT'=>exact absurd h0' (hnz _ (List.getElem_mem hi'))
   | @move i' f' t' hi' hf1' hfr' ht' hmin' hmax' hd' hnz' hlst' hT' hF'=>
     have e2:t=t':=by
      have a1:=hmin t' ht'
      have a2:=hmin' t ht
      have a3:=hT t' ht' (by omega)
      have a4:=hT' t ht (by omega)
      omega
     have e3:f=f':=by
      have a1:=hmax f' hfr'
      have a2:=hmax' f hfr
      have a3:=hF f' hfr' (by omega)
      have a4:=hF' f hfr (by omega)
      omega
     subst e3
     have e1:i=i':=by
      rcases Nat.lt_trichotomy i i' with h | h | h
      ·exact absurd hf1' (hlst i' hi' h)
      ·exact h
      ·exact absurd hf1 (hlst' i hi h)
     rw [e1,e2]
theorem Rch.head {C:List Int} (h:Rch M B B1) (h2:Stp M B C):B1=B∨Rch M C B1:=by
 induction h with
 | refl=>exact .inl rfl
 | @tail A1 A2 h3 h4 ih=>
   right
   rcases ih with e | e
   ·subst e
    rw [h4.det h2];exact .refl
   ·exact e.tail h4
theorem Rch.both (h:Rch M B B1) (h2:Rch M B B2):Rch M B1 B2∨Rch M B2 B1:=by
 induction h with
 | refl=>exact .inl h2
 | @tail A1 A2 h3 h4 ih=>
   rcases ih with e | e
   ·rcases e.head h4 with e2 | e2
    ·subst e2;exact .inr (Rch.refl.tail h4)
    ·exact .inl e2
   ·exact .inr (e.tail h4)
theorem Rch.stop (h:Rch M B B1) (hn:∀ C,¬ Stp M B C):B1=B:=by
 induction h with
 | refl=>rfl
 | tail _ h2 ih=>rw [ih] at h2;exact absurd h2 (hn _)
theorem Aft.uniq (ha:Asc l) (h1:Aft l B B1) (h2:Aft l B B2):B1=B2:=by
 by_cases e:l=[]
 ·rw [h1.none e,h2.none e]
 ·have stop:∀ {A},Aft l B A→∀ C,¬ Stp l A C:=by
   intro A h C st
   cases st with
   | @fill i t hi h0 ht hmin _ _=>
     have:=ha.2 _ (h.elt e _ (List.getElem_mem hi))
     rw [h0] at this
     omega
   | @move i f t hi hf hfr ht hmin hmax hd _ _ _ _=>
     have:=h.bal f hfr t ht
     omega
  rcases h1.rch.both h2.rch with h | h
  ·exact (h.stop (stop h1)).symm
  ·exact h.stop (stop h2)
def bad (l:List Int) (k:Nat):Int:=if l.getD k 0 < 0∨128≤l.getD k 0 then 2 else if 0 < k∧l.getD k 0≤l.getD (k - 1) 0 then 10 else 0
def ChkR (l:List Int) (n:Nat) (e:Int):Prop:=(∃ k,k < l.length∧bad l k=e∧e≠0∧∀ j,j < k→bad l j=0)∨((∀ j,j < l.length→bad l j=0)∧e=if n < l.length then 7 else 0)
theorem ChkR.uniq {n:Nat} {e e':Int} (h:ChkR l n e) (h':ChkR l n e'):e=e':=by
 rcases h with ⟨k,h1,h2,h3,h4⟩ | ⟨h1,h2⟩ <;> rcases h' with ⟨k',h1',h2',h3',h4'⟩ | ⟨h1',h2'⟩
 ·rcases Nat.lt_trichotomy k k' with h | h | h
  ·exact absurd (h2.symm.trans (h4' k h)) h3
  ·subst h;rw [← h2,← h2']
  ·exact absurd (h2'.symm.trans (h4 k' h)) h3'
 ·exact absurd (h2.symm.trans (h1' k h1)) h3
 ·exact absurd (h2'.symm.trans (h1 k' h1')) h3'
 ·rw [h2,h2']
theorem qJD {k:Nat} (h:k < l.length):l.getD k 0=l[k]:=by simp [List.getD_eq_getElem?_getD,h]
theorem qOf (h:∀ j,j < l.length→bad l j=0):Asc l:=by
 have hr:∀ j (hj:j < l.length),0≤l[j]∧l[j] < 128:=by
  intro j hj
  have:=h j hj
  unfold bad at this
  rw [qJD hj] at this
  split at this
  ·cases this
  ·omega
 have hs:∀ j (hj:j+1 < l.length),l[j] < l[j+1]:=by
  intro j hj
  have:=h (j+1) hj
  unfold bad at this
  rw [qJD hj,Nat.add_sub_cancel,qJD (show j < l.length by omega)] at this
  have r:=hr (j+1) hj
  rw [if_neg (by omega)] at this
  split at this
  ·cases this
  ·omega
 refine ⟨List.pairwise_iff_getElem.2 λi j hi hj hij=>?_,λx hx=>?_⟩
 ·obtain ⟨d,rfl⟩:∃ d,j=i+1+d:=⟨j - i - 1,by omega⟩
  induction d with
  | zero=>exact hs i hj
  | succ d ih=>
    have a:=ih (by omega) (by omega)
    have b:=hs (i+1+d) hj
    exact Int.lt_trans a b
 ·obtain ⟨j,hj,rfl⟩:=List.getElem_of_mem hx
  exact hr j hj
theorem ChkR.ok {n:Nat} (h:ChkR l n 0):Asc l∧l.length≤n:=by
 rcases h with ⟨k,_,_,h3,_⟩ | ⟨h1,h2⟩
 ·exact absurd rfl h3
 ·refine ⟨qOf h1,?_⟩
  split at h2
  ·cases h2
  ·omega
theorem qTs (ha:Asc l):∀ j,j < l.length→bad l j=0:=by
 intro j hj
 unfold bad
 rw [qJD hj]
 have:=ha.2 _ (List.getElem_mem hj)
 rw [if_neg (by omega)]
 rw [if_neg]
 rintro ⟨h0,h1⟩
 rw [qJD (show j - 1 < l.length by omega)] at h1
 have:=List.pairwise_iff_getElem.1 ha.1 (j - 1) j (by omega) hj (by omega)
 omega
theorem chk_of_asc {n:Nat} (ha:Asc l) (hn:l.length≤n):ChkR l n 0:=.inr ⟨qTs ha,by rw [if_neg (by omega)]⟩
end Go.AM.WH
namespace Go.AM.WH
open Go Go.Proofs
variable {bb:Nat} {cap:Option Nat} {B M:List Int}
theorem wu64 (n:Int):qB7 .u64 n=n % 18446744073709551616:=by
 simp only [qB7]
 rw [qGo _ _ _ (by omega) (by omega)]
 split
 ·have:=Int.emod_lt_of_pos n (b:=18446744073709551616) (by omega)
  omega
 ·rfl
theorem wi64 {n:Int} (h1:0≤n) (h2:n < 1000000):qB7 .i64 n=n:=by rw [qCH,qAf (by omega) (by omega)]
theorem qEd {k k':IntKind} {n:Int}:qCi k (.int k' n)=some (.int k (qB7 k n)):=rfl
theorem qUK {kd:IntKind} {bb n i:Nat} {cap:Option Nat} (hi:i < n):qAO 1 (.slc bb 0 n cap 1) (.int kd (i:Int))=some (.ptr bb i):=by
 have:Nat.blt i n=true:=by rw [Nat.blt_eq];exact hi
 simp [qAO,this]
def pickR (B M:List Int) (h:Int):AV:=if M=[] then .tup [.int .i64 0,.bool false] else .tup [.int .i64 (B.getD (h % B.length).toNat 0 - 1),.bool true]
theorem qZ0 {n:Nat} {h:Int} (hn:1≤n) (hh:0≤h):∃ i:Nat,i < n∧h.tmod (n:Int)=i∧(h % (n:Int)).toNat=i:=by
 have h1:=Int.emod_nonneg h (b:=n) (by omega)
 have h2:=Int.emod_lt_of_pos h (b:=n) (by omega)
 refine ⟨(h % (n:Int)).toNat,by omega,?_,rfl⟩
 rw [Int.tmod_eq_emod_of_nonneg hh]
 omega
end Go.AM.WH
namespace Go.AM.WH
open Go Go.Proofs
variable {K:AV→Hq→Prop} {s:Hq} {o rb:Nat} {vM:AV} {B M l:List Int}
structure RRd (s:Hq) (o rb:Nat) (vM:AV) (B M:List Int):Prop where
 ob:∃ t,s o=some (t,.cells 115 [vM,.slc rb 0 B.length none 1])
 rs:∃ t,s rb=some (t,.cells 3 (ints (outB B)))
 ms:Sli s vM M
 pos:1≤B.length∧B.length≤256
 asc:Asc M
 len:M.length≤256
theorem RRd.frz (h:RRd s o rb vM B M):RRd (frz s) o rb vM B M:=by
 obtain ⟨t,h1⟩:=h.ob
 obtain ⟨t',h2⟩:=h.rs
 exact ⟨⟨true,qBX h1⟩,⟨true,qBX h2⟩,Sl.frz h.ms,h.pos,h.asc,h.len⟩
theorem RRd.lenM (h:RRd s o rb vM B M):qAa vM=some M.length:=by rw [h.ms.len,lMY]
theorem qZE {k:Nat} {t:Bool} (h:s rb=some (t,.cells 3 (ints (outB B)))) (hk:k < B.length):rd1 s (.ptr rb k)=some (.int .i64 (B[k] - 1)):=by
 rw [qAM h]
 simp [ints,outB,hk]
theorem qJi {m:Int} (h:RRd s o rb vM B M) (hm:0≤m∧m < 128) (hK:K (.int .i64 (ld B m:Nat)) s):wC TP XX 69 [.ptr o 0,.int .i64 m] K s:=by
 refine qFQ ?_
 obtain ⟨t1,ho⟩:=h.ob
 obtain ⟨t2,hb⟩:=h.rs
 have hp:=h.pos
 refine ⟨λys s2 n=>∃ i:Nat,ys=[.int .i64 (ld (B.take i) m:Nat),.int .i64 i]∧s2=s∧i≤B.length∧n=B.length - i,⟨_,0,rfl,rfl,by omega,rfl⟩,?_⟩
 rintro f s2 n ⟨i,hy,rfl,hi,rfl⟩
 simp only [cI,and_true] at hy
 rw [hy.1,hy.2]
 simp only [qCr,qAJ,qAE,qAM ho,zA,g0Y,g1Y,qBJ,qAA,qAQ]
 refine qAU (λhlt=>?_) (λhge=>?_)
 ·have hlt:i < B.length:=by have:=oT hlt;omega
  have e1:decide ((0:Int)≤m)=true:=decide_eq_true hm.1
  have hcnt:ld (B.take i) m≤B.length:=Nat.le_trans List.count_le_length (by simp;omega)
  have hstep:ld (B.take (i+1)) m=ld (B.take i) m+if B[i] - 1 == m then 1 else 0:=by
   unfold ld
   rw [List.take_succ_eq_append_getElem hlt,List.count_append,List.count_singleton]
   have:(B[i] == m+1)=(B[i] - 1 == m):=by
    by_cases e:B[i]=m+1
    ·rw [e,Int.add_sub_cancel];simp
    ·have e2:B[i] - 1≠m:=by omega
     rw [beq_eq_false_iff_ne.2 e,beq_eq_false_iff_ne.2 e2]
   rw [this]
  simp only [qA8,e1,qAI,b_addr hlt,qZE hb hlt,qAA,qAv,qAi,Bool.false_bne,qBu,qAV]
  cases hq:(B[i] - 1 == m) with
  | true=>
    rw [hq,if_pos rfl] at hstep
    simp only [qAI,qBR,qAA,qAT]
    rw [qAf (by omega) (by omega),qAf (by omega) (by omega)]
    exact ⟨_,by omega,i+1,by rw [hstep];rfl,by trivial,by omega,rfl⟩
  | false=>
    rw [hq,if_neg (by simp)] at hstep
    simp only [qAB,qBR,qAA,qAT]
    rw [qAf (by omega) (by omega)]
    exact ⟨_,by omega,i+1,by rw [hstep];rfl,by trivial,by omega,rfl⟩
 ·have hge:i=B.length:=by have:=oF hge;omega
  subst hge
  rw [List.take_length]
  exact hK
theorem zABp {v:AV} {x:Int} (h:Sli s v l) (hl:l.length≤1000000) (hK:K (.bool (decide (x∈l))) s):wC TP XX 67 [v,.int .i64 x] K s:=by
 refine qIi ?_
 refine ⟨λys s1 n=>∃ k:Nat,ys=[.int .i64 k]∧s1=s∧k≤l.length∧n=l.length - k∧(x∈l↔x∈l.drop k),⟨_,0,rfl,rfl,by omega,rfl,by simp⟩,?_⟩
 rintro f s1 n ⟨k,hy,rfl,hk,rfl,he⟩
 simp only [cI,and_true] at hy
 rw [hy]
 simp only [qEw,h.len,lMY,qAA,qAQ]
 refine qAU (λhlt=>?_) (λhge=>?_)
 ·have hlt:k < l.length:=by have:=oT hlt;omega
  obtain ⟨p,g1,g2⟩:=qKG h hlt
  rw [List.drop_eq_getElem_cons hlt,List.mem_cons] at he
  simp only [g1,g2,qAA,qAv,qAi,Bool.false_bne]
  cases hq:(l[k] == x) with
  | true=>
    have:x∈l:=he.2 (.inl (eq_of_beq hq).symm)
    rw [decide_eq_true this] at hK
    simp only [qAI];exact hK
  | false=>
    have hne:x≠l[k]:=λe=>by rw [e] at hq;simp at hq
    simp only [qAB,qAT,qAA]
    rw [qAf (by omega) (by omega)]
    exact ⟨_,by omega,k+1,by simp,by trivial,by omega,rfl,he.trans ⟨λh=>h.resolve_left hne,.inr⟩⟩
 ·have hge:l.length≤k:=by have:=oF hge;omega
  rw [List.drop_eq_nil_of_le hge] at he
  have:¬ x∈l:=λh=>by simpa using he.1 h
  rw [decide_eq_false this] at hK
  exact hK
theorem qYZ (h:Asc M) {i j:Nat} (hi:i < M.length) (hj:j < M.length) (hij:i≤j):M[i]≤M[j]:=by
 rcases Nat.lt_or_eq_of_le hij with h2 | h2
 ·have:=List.pairwise_iff_getElem.1 h.1 i j hi hj h2;omega
 ·subst h2;exact Int.le_refl _
theorem qPf (h:RRd s o rb vM B M) (hM:M≠[]) (hK:∀ t,t∈M→(∀ a∈M,ld B t≤ld B a)→(∀ a∈M,ld B a=ld B t→t≤a)→K (.int .i64 t) s):wC TP XX 68 [.ptr o 0] K s:=by
 refine qEz ?_
 obtain ⟨t1,ho⟩:=h.ob
 have hM0:0 < M.length:=List.length_pos_iff.2 hM
 have hlM:=h.len
 obtain ⟨p0,g1,g2⟩:=qKG h.ms hM0
 simp only [qDH,qAJ,qAE,qAM ho,zA,g0Y,qAA,show ((0:Int)=((0:Nat):Int)) from rfl,g1,g2]
 refine ⟨λys s2 n=>∃ i j0:Nat,∃ hj0:j0 < M.length,ys=[.int .i64 M[j0],.int .i64 i]∧s2=s∧i≤M.length∧n=M.length - i∧(j0 < i∨j0=0)∧∀ j (hj:j < M.length),j < i→ld B M[j0]≤ld B M[j]∧(ld B M[j]=ld B M[j0]→M[j0]≤M[j]),⟨_,0,0,hM0,rfl,rfl,by omega,rfl,.inr rfl,λj hj h=>by omega⟩,?_⟩
 rintro f s2 n ⟨i,j0,hj0,hy,rfl,hi,rfl,hj,hall⟩
 simp only [cI,and_true] at hy
 rw [hy.1,hy.2]
 simp only [qCm,qAJ,qAE,qAM ho,zA,g0Y,qAA,h.lenM,qAQ]
 refine qAU (λhlt=>?_) (λhge=>?_)
 ·have hlt:i < M.length:=by have:=oT hlt;omega
  obtain ⟨p,g3,g4⟩:=qKG h.ms hlt
  simp only [g3,g4,qAA]
  refine qJi h (h.asc.2 _ (List.getElem_mem hlt)) (qJi h (h.asc.2 _ (List.getElem_mem hj0)) ?_)
  simp only [qAQ,qAA]
  refine qAU (λhl=>?_) (λhl=>?_)
  ·have hl:=oT hl
   simp only [qAM ho,g0Y,g3,g4,qAA,qBN,qAT]
   rw [qAf (by omega) (by omega)]
   refine ⟨_,by omega,i+1,i,hlt,rfl,by trivial,by omega,rfl,.inl (by omega),λj hj2 hji=>?_⟩
   by_cases e:j=i
   ·subst e;exact ⟨Nat.le_refl _,λ_=>Int.le_refl _⟩
   ·have:=hall j hj2 (by omega)
    exact ⟨by omega,λe=>by omega⟩
  ·have hl:=oF hl
   simp only [qBN,qAT,qAA]
   rw [qAf (by omega) (by omega)]
   refine ⟨_,by omega,i+1,j0,hj0,rfl,by trivial,by omega,rfl,by omega,λj hj2 hji=>?_⟩
   by_cases e:j=i
   ·subst e
    exact ⟨by omega,λ_=>qYZ h.asc hj0 hj2 (by omega)⟩
   ·exact hall j hj2 (by omega)
 ·have hge:i=M.length:=by have:=oF hge;omega
  subst hge
  refine hK _ (List.getElem_mem hj0) (λa ha=>?_) (λa ha=>?_)
  ·obtain ⟨j,hj2,rfl⟩:=List.getElem_of_mem ha
   exact (hall j hj2 hj2).1
  ·obtain ⟨j,hj2,rfl⟩:=List.getElem_of_mem ha
   exact (hall j hj2 hj2).2
theorem qSU (h:RRd s o rb vM B M) (hM:M≠[]) (hK:∀ t,t∈M→(∀ a∈M,ld B a≤ld B t)→(∀ a∈M,ld B a=ld B t→a≤t)→K (.int .i64 t) s):wC TP XX 70 [.ptr o 0] K s:=by
 refine qFM ?_
 obtain ⟨t1,ho⟩:=h.ob
 have hM0:0 < M.length:=List.length_pos_iff.2 hM
 have hlM:=h.len
 obtain ⟨p0,g1,g2⟩:=qKG h.ms hM0
 simp only [qDR,qAJ,qAE,qAM ho,zA,g0Y,qAA,show ((0:Int)=((0:Nat):Int)) from rfl,g1,g2]
 refine ⟨λys s2 n=>∃ i j0:Nat,∃ hj0:j0 < M.length,ys=[.int .i64 M[j0],.int .i64 i]∧s2=s∧i≤M.length∧n=M.length - i∧∀ j (hj:j < M.length),j < i→ld B M[j]≤ld B M[j0]∧(ld B M[j]=ld B M[j0]→M[j]≤M[j0]),⟨_,0,0,hM0,rfl,rfl,by omega,rfl,λj hj h=>by omega⟩,?_⟩
 rintro f s2 n ⟨i,j0,hj0,hy,rfl,hi,rfl,hall⟩
 simp only [cI,and_true] at hy
 rw [hy.1,hy.2]
 simp only [qCt,qAJ,qAE,qAM ho,zA,g0Y,qAA,h.lenM,qAQ]
 refine qAU (λhlt=>?_) (λhge=>?_)
 ·have hlt:i < M.length:=by have:=oT hlt;omega
  obtain ⟨p,g3,g4⟩:=qKG h.ms hlt
  simp only [g3,g4,qAA]
  refine qJi h (h.asc.2 _ (List.getElem_mem hlt)) (qJi h (h.asc.2 _ (List.getElem_mem hj0)) ?_)
  simp only [qA8,qAA]
  refine qAU (λhl=>?_) (λhl=>?_)
  ·have hl:=oT hl
   simp only [qAM ho,g0Y,g3,g4,qAA,qBS,qAT]
   rw [qAf (by omega) (by omega)]
   refine ⟨_,by omega,i+1,i,hlt,rfl,by trivial,by omega,rfl,λj hj2 hji=>?_⟩
   have:=hall
   by_cases e:j=i
   ·subst e;exact ⟨Nat.le_refl _,λ_=>Int.le_refl _⟩
   ·have:=hall j hj2 (by omega)
    exact ⟨by omega,λ_=>qYZ h.asc hj2 hlt (by omega)⟩
  ·have hl:=oF hl
   simp only [qBS,qAT,qAA]
   rw [qAf (by omega) (by omega)]
   refine ⟨_,by omega,i+1,j0,hj0,rfl,by trivial,by omega,rfl,λj hj2 hji=>?_⟩
   by_cases e:j=i
   ·subst e
    exact ⟨by omega,λ_=>by omega⟩
   ·exact hall j hj2 (by omega)
 ·have hge:i=M.length:=by have:=oF hge;omega
  subst hge
  refine hK _ (List.getElem_mem hj0) (λa ha=>?_) (λa ha=>?_)
  ·obtain ⟨j,hj2,rfl⟩:=List.getElem_of_mem ha
   exact (hall j hj2 hj2).1
  ·obtain ⟨j,hj2,rfl⟩:=List.getElem_of_mem ha
   exact (hall j hj2 hj2).2
theorem rPick_in {h:Int} (z:RRd s o rb vM B M) (hh:0≤h) (hK:K (pickR B M h) s):wC TP XX 46 [.ptr o 0,.int .u64 h] K s:=by
 refine qFY ?_
 obtain ⟨t1,ho⟩:=z.ob
 obtain ⟨t2,hb⟩:=z.rs
 have hp:=z.pos
 simp only [qDO,qAJ,qAE,qAM ho,zA,g0Y,g1Y,z.lenM,qAA,qAv,qAi,Bool.false_bne]
 by_cases e:M=[]
 ·subst e
  have hK:K (.tup [.int .i64 0,.bool false]) s:=by unfold pickR at hK;rwa [if_pos rfl] at hK
  simp only [List.length_nil,Int.natCast_zero,beq_self_eq_true,qAI];exact hK
 ·have hne:(((M.length:Nat):Int) == 0)=false:=beq_eq_false_iff_ne.2 λh0=>e (List.length_eq_zero_iff.1 (by omega))
  obtain ⟨i,hi,e1,e2⟩:=qZ0 (n:=B.length) hp.1 hh
  have ew:(B.length:Int) % 18446744073709551616=B.length:=Int.emod_eq_of_lt (by omega) (by omega)
  unfold pickR at hK
  rw [if_neg e,e2,qJD hi] at hK
  simp only [hne,qAB,qBJ,qAA,qEd,wu64,ew,qMi (k:=.u64) (x:=h) (y:=(B.length:Int)) (by omega),e1,wi64 (n:=(i:Int)) (by omega) (by omega),b_addr hi,qZE hb hi]
  exact hK
end Go.AM.WH
namespace Go.AM.WH
open Go Go.Proofs
variable {K:AV→Hq→Prop} {s:Hq} {o rb:Nat} {vM:AV} {B M:List Int}
structure RAt (s:Hq) (o rb:Nat) (vM:AV) (B M:List Int):Prop where
 ob:s o=some (false,.cells 115 [vM,.slc rb 0 B.length none 1])
 rs:s rb=some (false,.cells 3 (ints (outB B)))
 ms:Sli s vM M
 pos:1≤B.length∧B.length≤256
 asc:Asc M
 len:M.length≤B.length
theorem RAt.rd (h:RAt s o rb vM B M):RRd s o rb vM B M:=⟨⟨_,h.ob⟩,⟨_,h.rs⟩,h.ms,h.pos,h.asc,by have:=h.len;have:=h.pos;omega⟩
theorem RAt.sub {s':Hq} (h:RAt s o rb vM B M) (hs:Sub s s'):RAt s' o rb vM B M:=⟨hs _ _ h.ob,hs _ _ h.rs,h.ms.sub hs,h.pos,h.asc,h.len⟩
theorem zAB8 {s0:Hq} {v:AV} {L:List Int} {x:Int} (acc:Acc 3 s0 s v (ints L)) (hdom:∀ i,s0 i≠none→s i≠none) (hl:L.length≤1000000) (hK:∀ v' s',(∀ i e,s i=some e→s0 i≠none→s' i=some e)→Acc 3 s0 s' v' (ints (L ++ [x]))→K v' s') :
  oK (qA2 (repl 1 [(.int .i64 0)]) [(0,1,.int .i64 x)]) λc=>qAb c=true∧newK 3 c (λb s=>appK 3 1 v (.slc b 0 1 (some 1) 1) K s) s:=by
 refine qFG (elem:=3) (z:=.int .i64 0) (v:=.int .i64 x) rfl rfl λb s3 hb h3 u3=>?_
 have acc3:=acc.to (u3.sub hb)
 have lit:Sl s3 (.slc b 0 1 (some 1) 1) [AV.int .i64 x]:=Sl.mk h3 rfl (by simp)
 have hl2:(ints L).length+[AV.int .i64 x].length≤16777216:=by
  rw [lMY,List.length_singleton];omega
 have e2:ints L ++ [AV.int .i64 x]=ints (L ++ [x]):=by rw [ints,ints,List.map_append];rfl
 refine acc3.app lit (List.cons_ne_nil _ _) hl2 (λi hi=>?_) λv' s4 acc4 k4=>?_
 ·have:=hdom i hi
  cases e:s i with
  | none=>exact absurd e this
  | some x=>rw [u3.sub hb i x e];exact Option.some_ne_none _
 ·rw [e2] at acc4
  refine hK v' s4 (λi e hi hne=>k4 i e (u3.sub hb i e hi) λb hb2 e3=>?_) acc4
  rcases acc3 with ⟨a,_⟩ | ⟨c,c1,c2,_⟩
  ·rw [a] at hb2;cases hb2
  ·rw [c2] at hb2
   injection hb2 with b1
   rw [e3,← b1] at hne
   exact hne c1
theorem rNew_in {n:Nat} (h1:1≤n) (h2:n≤256) (hK:∀ o rb s',s o=none→s rb=none→Sub s s'→RAt s' o rb .nilslc (List.replicate n 0) []→K (.tup [.ptr o 0,.int .i64 0]) s'):wC TP XX 27 [.int .i64 (n:Int)] K s:=by
 refine qHr ?_
 have e1:decide ((n:Int) < 1)=false:=by rw [decide_eq_false_iff_not];omega
 have e2:decide ((256:Int) < (n:Int))=false:=by rw [decide_eq_false_iff_not];omega
 simp only [qFp,qAQ,qAx,e1,e2,qAA,qAB,qCy,qAL]
 refine qAW (a:=[.nilslc,.nilslc]) rfl ⟨rfl,qAS λo s4 ho h4 u4=>?_⟩
 have sub4:=u4.sub ho
 have h4:s4 o=some (false,.cells 115 [.nilslc,.nilslc]):=h4
 refine ⟨λys s' m=>∃ (i:Nat) (v:AV),ys=[.int .i64 i]∧i≤n∧m=n - i∧s' o=some (false,.cells 115 [.nilslc,v])∧Acc 3 s4 s' v (ints (List.replicate i (-1)))∧(∀ i,s4 i≠none→s' i≠none)∧Sub s s',⟨_,0,.nilslc,rfl,by omega,rfl,h4,.inl ⟨rfl,rfl⟩,λ_ h=>h,sub4⟩,?_⟩
 rintro f s5 m ⟨i,v,hy,hi,rfl,h5,acc,dom,sub5⟩
 simp only [cI,and_true] at hy
 rw [hy]
 simp only [qEg,qAQ,qAA]
 refine qAU (λhlt=>?_) (λhge=>?_)
 ·have hlt:i < n:=by have:=oT hlt;omega
  simp only [qAJ,qAE,qAM h5,zA,g0Y,g1Y,qAA]
  refine zAB8 acc dom (by simp;omega) λv' s6 keep6 acc6=>?_
  have ho4:s4 o≠none:=by rw [h4];exact Option.some_ne_none _
  have h6:=keep6 _ _ h5 ho4
  refine qAm h6 (by simp) acc6.sl.one λs7 h7 u7=>?_
  simp only [qAT,qAA]
  rw [qAf (by omega) (by omega)]
  refine ⟨_,by omega,i+1,v',rfl,by omega,rfl,h7,?_,λj hj=>?_,λj e hj=>?_⟩
  ·have e3:List.replicate i (-1:Int) ++ [-1]=List.replicate (i+1) (-1):=by rw [List.replicate_succ']
   rw [e3] at acc6
   rcases acc6 with a | ⟨c,c1,c2,c3⟩
   ·exact .inl a
   ·refine .inr ⟨c,c1,c2,?_⟩
    rw [u7 c λe=>ho4 (e ▸ c1)];exact c3
  ·by_cases e:j=o
   ·rw [e,h7];exact Option.some_ne_none _
   ·rw [u7 j e]
    have:=dom j hj
    cases q:s5 j with
    | none=>exact absurd q this
    | some x=>rw [keep6 j x q hj];exact Option.some_ne_none _
  ·have hj4:s4 j≠none:=by rw [sub4 j e hj];exact Option.some_ne_none _
   rw [u7 j λe2=>by rw [e2,ho] at hj;cases hj]
   exact keep6 j e (sub5 j e hj) hj4
 ·have hge:i=n:=by have:=oF hge;omega
  subst hge
  rcases acc with ⟨_,e⟩ | ⟨c,c1,c2,c3⟩
  ·have:(ints (List.replicate i (-1))).length=0:=by rw [e];rfl
   rw [lMY,List.length_replicate] at this
   omega
  ·have hcs:s c=none:=by
    cases q:s c with
    | none=>rfl
    | some x=>rw [sub4 c x q] at c1;cases c1
   refine hK o c s5 ho hcs sub5 ⟨?_,?_,.inl ⟨rfl,rfl⟩,by simp;omega,⟨List.Pairwise.nil,by simp⟩,by simp⟩
   ·rw [List.length_replicate,h5,c2]
    simp
   ·rw [c3]
    simp [outB]
end Go.AM.WH
namespace Go.AM.WH
open Go Go.Proofs
variable {K:AV→Hq→Prop} {s s':Hq} {o rb:Nat} {v vM:AV} {A B M l:List Int} {n:Nat}
structure Rst (s0 s:Hq) (o rb n:Nat) (vM v:AV) (l A:List Int):Prop where
 ob:s o=some (false,.cells 115 [vM,.slc rb 0 n none 1])
 rs:s rb=some (false,.cells 3 (ints (outB A)))
 ln:A.length=n
 ms:Sli s vM l
 vs:Sli s v l
 kp:qAg (λb=>b=o∨b=rb) s0 s
theorem Rst.rd {s0:Hq} (h:Rst s0 s o rb n vM v l A) (hp:1≤n∧n≤256) (ha:Asc l) (hl:l.length≤n):RRd s o rb vM A l:=⟨⟨_,by rw [h.ln];exact h.ob⟩,⟨_,h.rs⟩,h.ms,by rw [h.ln];exact hp,ha,by omega⟩
theorem Rst.set {s0:Hq} {i:Nat} {x:Int} (h:Rst s0 s o rb n vM v l A) (u:Upto rb s s') (hb:s' rb=some (false,.cells 3 ((ints (outB A)).set i (.int .i64 x))))
  (h1:∀ b o n c,vM=.slc b o n c 1→l≠[]→b≠rb) (h2:∀ b o n c,v=.slc b o n c 1→l≠[]→b≠rb):Rst s0 s' o rb n vM v l (A.set i (x+1)):=by
 have ho:o≠rb:=by
  rintro rfl
  have:=h.ob;rw [h.rs] at this;cases this
 refine ⟨by rw [u o ho];exact h.ob,?_,by rw [List.length_set];exact h.ln,h.ms.keep (fp:=λb=>b=rb) (u.keep rfl) λb o n c e hne=>h1 b o n c e (by simpa using hne),h.vs.keep (fp:=λb=>b=rb) (u.keep rfl) λb o n c e hne=>h2 b o n c e (by simpa using hne),h.kp.trans (u.keep (.inr rfl))⟩
 rw [hb,qKu]
 unfold outB
 rw [List.map_set,Int.add_sub_cancel]
theorem qMr {cap:Option Nat} {i:Nat} (hi:i < n):qAO 1 (.slc rb 0 n cap 1) (.int .i64 (i:Int))=some (.ptr rb i):=b_addr hi
theorem qVz {k:Nat} {t:Bool} (h:s rb=some (t,.cells 3 (ints (outB A)))) (hk:k < A.length):rd1 s (.ptr rb k)=some (.int .i64 (A[k] - 1)):=qZE h hk
set_option maxRecDepth 4000 in
theorem rSet_in (z:RAt s o rb vM B M) (hl:Sli s v l) (hlen:l.length≤1000000) (hr:∀ b∈B,0≤b∧b≤128) (hv:∀ b o' n c,v=.slc b o' n c 1→l≠[]→b≠o∧b≠rb)
  (hE:∀ e,ChkR l B.length e→e≠0→K (.int .i64 e) s)
  (hK:∀ s' vM' B',Asc l→l.length≤B.length→RAt s' o rb vM' B' l→Aft l B B'→qAg (λb=>b=o∨b=rb) s s'→(l≠[]→∃ c n k,s c=none∧vM'=.slc c 0 n k 1)→K (.int .i64 0) s'):wC TP XX 34 [.ptr o 0,v] K s:=by
 have hp:=z.pos
 refine qFc ?_
 refine ⟨λys s1 n=>∃ k:Nat,ys=[.int .i64 k]∧s1=s∧k≤l.length∧n=l.length - k∧∀ j,j < k→bad l j=0,⟨_,0,rfl,rfl,by omega,rfl,λj h=>by omega⟩,?_⟩
 rintro f s1 n ⟨k,hy,rfl,hk,rfl,hno⟩
 simp only [cI,and_true] at hy
 rw [hy]
 have lenV:qAa v=some l.length:=by rw [hl.len,lMY]
 simp only [qDB,lenV,qAA,qAQ]
 refine qAU (λhlt=>?_) (λhge=>?_)
 ·have hlt:k < l.length:=by have:=oT hlt;omega
  obtain ⟨p,g1,g2⟩:=qKG hl hlt
  have hgd:=qJD hlt
  have out:l[k] < 0∨128≤l[k]→K (.int .i64 2) s1:=λhb=>hE 2 (.inl ⟨k,hlt,by unfold bad;rw [hgd,if_pos hb],by decide,hno⟩) (by decide)
  have fin:bad l k=0→oK (qAG .add (.int .i64 (k:Int)) (.int .i64 1)) λv_9=>∃ m',m' < l.length - k∧∃ k_1:Nat,[v_9]=[AV.int .i64 k_1]∧True∧k_1≤l.length∧m'=l.length - k_1∧∀ j,j < k_1→bad l j=0:=by
   intro hb
   simp only [qAT,qAA]
   rw [qAf (by omega) (by omega)]
   refine ⟨_,by omega,k+1,by simp,by trivial,by omega,rfl,λj hj=>?_⟩
   by_cases e:j=k
   ·rw [e];exact hb
   ·exact hno j (by omega)
  simp only [g1,g2,qAA,qAQ,qA8,qB6]
  by_cases n0:l[k] < 0
  ·simp only [decide_eq_true n0,qAI,qAV,qAA]
   exact out (.inl n0)
  ·by_cases n1:128≤l[k]
   ·simp only [decide_eq_false n0,decide_eq_true n1,qAI,qAB,qAL,qAA]
    exact out (.inr n1)
   ·simp only [decide_eq_false n0,decide_eq_false n1,qAB,qAL,qAA,qAx]
    refine qAU (λhp=>?_) (λhp=>?_)
    ·rw [hp]
     have hp:0 < k:=by have:=oT hp;omega
     obtain ⟨q,g3,g4⟩:=qKG hl (k:=k - 1) (by omega)
     have ew:IntKind.i64.wrap ((k:Int) - 1)=((k - 1:Nat):Int):=by rw [qAf (by omega) (by omega)];omega
     have hgd2:=qJD (l:=l) (show k - 1 < l.length by omega)
     simp only [qBO,ew,g3,g4,qAA,qI1,qBb,qAV]
     refine qAU (λhle=>?_) (λhle=>?_)
     ·exact hE 10 (.inl ⟨k,hlt,by unfold bad;rw [hgd,hgd2,if_neg (by omega),if_pos ⟨hp,oT hle⟩],by decide,hno⟩) (by decide)
     ·exact fin (by unfold bad;rw [hgd,hgd2,if_neg (by omega),if_neg (by have:=oF hle;omega)])
    ·rw [hp]
     simp only [qBb,qAL,qAA,qAB]
     exact fin (by unfold bad;rw [hgd,if_neg (by omega),if_neg (by have:=oF hp;omega)])
 ·have hge:k=l.length:=by have:=oF hge;omega
  subst hge
  simp only [qAJ,qAE,qAM z.ob,zA,g0Y,g1Y,qBJ,qAA,qAx]
  refine qAU (λhb=>?_) (λhb=>?_)
  ·exact hE 7 (.inr ⟨hno,by rw [if_pos (by have:=oT hb;omega)]⟩) (by decide)
  have hb:=oF hb
  have ha:=qOf hno
  have hlB:l.length≤B.length:=by omega
  refine qAW (a:=[]) rfl ⟨rfl,qAS λb1 s2 hb1 h2 u2=>?_⟩
  have sub2:=u2.sub hb1
  refine qIJ (hl.sub sub2) (by simp;omega) λvM' s3 sub3 c1 c2=>?_
  have sub03:=sub2.trans sub3
  have hM:Sli s3 vM' l∧(l≠[]→∃ c n k,s1 c=none∧vM'=.slc c 0 n k 1):=by
   by_cases hm:l.map (AV.int .i64)=[]
   ·rw [c1 hm]
    refine ⟨?_,λh=>absurd (by simpa using hm) h⟩
    unfold Sli;rw [hm]
    exact .inr ⟨b1,0,some 0,rfl,by simp,λh=>absurd rfl h⟩
   ·obtain ⟨d,hd0,rfl,hd⟩:=c2 hm
    refine ⟨Sl.mk hd rfl (by simp),λ_=>⟨d,_,_,?_,rfl⟩⟩
    cases e:s1 d with
    | none=>rfl
    | some x=>rw [sub2 d x e] at hd0;cases hd0
  have z3:=z.sub sub03
  refine qAm z3.ob (by simp) hM.1.one λs4 h4 u4=>?_
  have h4:s4 o=some (false,.cells 115 [vM',.slc rb 0 B.length none 1]):=h4
  have hor:rb≠o:=by
   rintro rfl
   have:=z.ob;rw [z.rs] at this;cases this
  have f1:∀ b o' n c,vM'=.slc b o' n c 1→l≠[]→b≠o∧b≠rb:=by
   intro b o' n c e hne
   obtain ⟨d,n',k',hd,e2⟩:=hM.2 hne
   rw [e2] at e;injection e with e3
   rw [← e3]
   exact ⟨λe4=>(by rw [e4,z.ob] at hd;cases hd),λe4=>(by rw [e4,z.rs] at hd;cases hd)⟩
  have r4:Rst s1 s4 o rb B.length vM' v l (clr l (B.take 0) ++ B.drop 0):=⟨h4,by rw [u4 rb hor];exact z3.rs,by simp [clr],hM.1.keep (fp:=λb=>b=o) (u4.keep rfl) λb o' n c e hne=>(f1 b o' n c e (by simpa using hne)).1,(hl.sub sub03).keep (fp:=λb=>b=o) (u4.keep rfl) λb o' n c e hne=>(hv b o' n c e (by simpa using hne)).1,(sub03.keep).trans (u4.keep (.inl rfl))⟩
  have q1:∀ b o n c,vM'=.slc b o n c 1→l≠[]→b≠rb:=λb o' n c e hne=>(f1 b o' n c e hne).2
  have q2:∀ b o n c,v=.slc b o n c 1→l≠[]→b≠rb:=λb o' n c e hne=>(hv b o' n c e hne).2
  refine ⟨λys s5 n=>∃ i:Nat,ys=[.int .i64 i]∧i≤B.length∧n=B.length - i∧Rst s1 s5 o rb B.length vM' v l (clr l (B.take i) ++ B.drop i),⟨_,0,rfl,by omega,rfl,r4⟩,?_⟩
  rintro f s5 n ⟨i,hy,hi,rfl,r5⟩
  simp only [cI,and_true] at hy
  rw [hy]
  simp only [qC9,qAJ,qAE,qAM r5.ob,zA,g0Y,g1Y,qBJ,qAA,qAQ]
  refine qAU (λhlt=>?_) (λhge=>?_)
  ·have hlt:i < B.length:=by have:=oT hlt;omega
   have ec:(clr l (B.take i)).length=i:=by rw [qHw,List.length_take,Nat.min_eq_left hi]
   have el:B.drop i=B[i] :: B.drop (i+1):=List.drop_eq_getElem_cons hlt
   have et:B.take (i+1)=B.take i ++ [B[i]]:=List.take_succ_eq_append_getElem hlt
   have hiA:i < (clr l (B.take i) ++ B.drop i).length:=by rw [r5.ln];exact hlt
   have hAi:(clr l (B.take i) ++ B.drop i)[i]=B[i]:=by
    rw [List.getElem_append_right (by rw [ec];omega)]
    simp [ec]
   have hbr:=hr _ (List.getElem_mem hlt)
   simp only [qMr hlt,qVz r5.rs hiA,hAi,qAA]
   refine zABp r5.vs hlen ?_
   simp only [qAj,qAA]
   have fin:∀ s6,Rst s1 s6 o rb B.length vM' v l (clr l (B.take (i+1)) ++ B.drop (i+1))→qBY XX (.int .i64 (i:Int)) (λys s5 n=>∃ i:Nat,ys=[.int .i64 i]∧i≤B.length∧n=B.length - i∧Rst s1 s5 o rb B.length vM' v l (clr l (B.take i) ++ B.drop i)) (B.length - i) K s6:=by
    intro s6 r6
    simp only [qBY,qAT,qAA]
    rw [qAf (by omega) (by omega)]
    exact ⟨_,by omega,i+1,rfl,by omega,rfl,r6⟩
   by_cases hin:B[i] - 1∈l
   ·rw [decide_eq_true hin]
    simp only [Bool.not_true,qAB]
    refine fin s5 ?_
    have:clr l (B.take (i+1)) ++ B.drop (i+1)=clr l (B.take i) ++ B.drop i:=by
     rw [et,el];unfold clr
     rw [List.map_append,List.map_singleton,if_pos hin,List.append_assoc];rfl
    rw [this];exact r5
   ·rw [decide_eq_false hin]
    simp only [Bool.not_false,qAI,qAM r5.ob,g0Y,g1Y,qAA,qMr hlt]
    refine qAm r5.rs (by rw [lMY,lMY];exact hiA) rfl λs6 h6 u6=>?_
    refine fin s6 ?_
    have r6:=r5.set (i:=i) u6 h6 q1 q2
    have:clr l (B.take (i+1)) ++ B.drop (i+1)=(clr l (B.take i) ++ B.drop i).set i (-1+1):=by
     rw [List.set_append_right _ _ (by rw [ec];omega),ec,Nat.sub_self,el,List.set_cons_zero,et]
     unfold clr
     rw [List.map_append,List.map_singleton,if_neg hin,List.append_assoc];rfl
    rw [this];exact r6
  ·have hge:i=B.length:=by have:=oF hge;omega
   subst hge
   rw [List.take_length,List.drop_length,List.append_nil] at r5
   have done:∀ s9 A,Rst s1 s9 o rb B.length vM' v l A→Aft l B A→K (.int .i64 0) s9:=λs9 A r9 aft=>hK s9 vM' A ha hlB ⟨by rw [r9.ln];exact r9.ob,r9.rs,r9.ms,by rw [r9.ln];exact hp,ha,by rw [r9.ln];exact hlB⟩ aft r9.kp hM.2
   simp only [lenV,qAA,qAv,qAi,Bool.false_bne]
   refine qAU (λhz=>?_) (λhz=>?_)
   ·have hz:=eq_of_beq hz
    have e0:l=[]:=List.length_eq_zero_iff.1 (by omega)
    subst e0
    exact done s5 _ r5 ⟨λ_=>rfl,.refl,λh=>absurd rfl h,λa ha=>by simp at ha⟩
   have hne:l≠[]:=λe=>by rw [e] at hz;simp at hz
   refine ⟨λys s6 n=>∃ (i:Nat) (A:List Int),ys=[.int .i64 i]∧i≤B.length∧n=B.length - i∧Rst s1 s6 o rb B.length vM' v l A∧Rch l (clr l B) A∧(∀ k (hk:k < A.length),k < i→A[k]≠0)∧(∀ b∈A,0≤b∧b≤128),⟨_,0,_,rfl,by omega,rfl,r5,.refl,λk hk h=>by omega,λb hb=>?_⟩,?_⟩
   ·rcases qPi b hb with h | h
    ·omega
    ·have:=ha.2 _ h;omega
   rintro f s6 n ⟨i,A,hy,hi,rfl,r6,rc,nz,rg⟩
   simp only [cI,and_true] at hy
   rw [hy]
   have hAl:=r6.ln
   simp only [qDA,qAJ,qAE,qAM r6.ob,zA,g0Y,g1Y,qBJ,qAA,qAQ]
   refine qAU (λhlt=>?_) (λhge=>?_)
   ·have hlt:i < B.length:=by have:=oT hlt;omega
    have hiA:i < A.length:=by omega
    have hbr:=rg _ (List.getElem_mem hiA)
    have fin:∀ s7 A7,Rst s1 s7 o rb B.length vM' v l A7→Rch l (clr l B) A7→(∀ k (hk:k < A7.length),k < i+1→A7[k]≠0)→(∀ b∈A7,0≤b∧b≤128)→qBa XX (.int .i64 (i:Int)) (λys s6 n=>∃ (i:Nat) (A:List Int),ys=[.int .i64 i]∧i≤B.length∧n=B.length - i∧Rst s1 s6 o rb B.length vM' v l A∧Rch l (clr l B) A∧(∀ k (hk:k < A.length),k < i→A[k]≠0)∧(∀ b∈A,0≤b∧b≤128)) (B.length - i) K s7:=by
     intro s7 A7 a1 a2 a3 a4
     simp only [qBa,qAT,qAA]
     rw [qAf (by omega) (by omega)]
     exact ⟨_,by omega,i+1,A7,rfl,by omega,rfl,a1,a2,a3,a4⟩
    simp only [qMr hlt,qVz r6.rs hiA,qAA,qAQ]
    refine qAU (λhneg=>?_) (λhneg=>?_)
    ·have h0:A[i]=0:=by have:=oT hneg;omega
     refine qPf ((r6.rd hp ha hlB).frz) hne λt ht tmin ttie _=>?_
     rw [qPL]
     have htr:=ha.2 t ht
     refine qAm r6.rs (by rw [lMY,lMY];exact hiA) rfl λs7 h7 u7=>?_
     refine fin s7 _ (r6.set (i:=i) u7 h7 q1 q2) (rc.tail (.fill hiA h0 ht tmin (λk hk hki=>nz k hk hki) ttie)) (λk hk hki=>?_) (λb hb=>?_)
     ·rw [List.getElem_set]
      split
      ·omega
      ·exact nz k (by simpa using hk) (by omega)
     ·rcases List.mem_or_eq_of_mem_set hb with h | rfl
      ·exact rg b h
      ·omega
    ·have hneg:=oF hneg
     refine fin s6 A r6 rc (λk hk hki=>?_) rg
     by_cases e:k=i
     ·subst e;omega
     ·exact nz k hk (by omega)
   ·have hge:i=B.length:=by have:=oF hge;omega
    subst hge
    have nz0:∀ b∈A,b≠0:=λb hb=>by
     obtain ⟨k,hk,rfl⟩:=List.getElem_of_mem hb
     exact nz k hk (by omega)
    refine ⟨λys s7 n=>∃ A:List Int,ys=[]∧n=pot l A∧Rst s1 s7 o rb B.length vM' v l A∧Rch l (clr l B) A∧(∀ b∈A,b≠0),⟨_,A,rfl,rfl,r6,rc,nz0⟩,?_⟩
    rintro f s7 n ⟨A,_,rfl,r7,rc,nz⟩
    have hAl:=r7.ln
    have rd7:=r7.rd hp ha hlB
    have elt:∀ b∈A,b - 1∈l:=λb hb=>by
     rcases rc.elt b hb with h | h
     ·rcases qPi b h with h | h
      ·exact absurd h (nz b hb)
      ·exact h
     ·exact h
    unfold qDD
    refine qSU rd7 hne λfr hfr fmax ftie=>?_
    have hf:=ha.2 fr hfr
    refine qJi rd7 hf (qPf rd7 hne λt ht tmin ttie=>?_)
    have htr:=ha.2 t ht
    refine qJi rd7 htr ?_
    have lf:ld A fr≤A.length:=qVv _ _
    have lt:ld A t≤A.length:=qVv _ _
    simp only [qBO,qAA]
    rw [qAf (by omega) (by omega)]
    simp only [qAx,qAA]
    refine qAU (λhg=>?_) (λhg=>?_)
    ·have hg:=oT hg
     refine qSU rd7 hne λfr' hfr' fmax' ftie'=>qPf rd7 hne λt' ht' tmin' ttie'=>?_
     have e1:fr'=fr:=by
      have a1:=fmax fr' hfr';have a2:=fmax' fr hfr
      have a3:=ftie fr' hfr' (by omega);have a4:=ftie' fr hfr (by omega)
      omega
     have e2:t'=t:=by
      have a1:=tmin t' ht';have a2:=tmin' t ht
      have a3:=ttie t' ht' (by omega);have a4:=ttie' t ht (by omega)
      omega
     subst e1;subst e2
     have hin:fr'+1∈A:=by
      have:0 < ld A fr':=by omega
      exact List.count_pos_iff.1 this
     refine ⟨λys s8 n=>∃ (i p:Nat),ys=[.int .i64 p,.int .i64 i]∧s8=s7∧i≤A.length∧n=A.length - i∧p < A.length∧(∀ k (hk:k < A.length),k < i→A[k]=fr'+1→k≤p)∧((∃ k,∃ hk:k < A.length,k < i∧A[k]=fr'+1)→∀ hp:p < A.length,A[p]=fr'+1),⟨_,0,0,rfl,rfl,by omega,rfl,by omega,λk hk h=>by omega,λ⟨k,hk,h,_⟩=>by omega⟩,?_⟩
     rintro f s8 n ⟨i,p,hy,rfl,hi,rfl,hpA,hl1,hl2⟩
     simp only [cI,and_true] at hy
     rw [hy.1,hy.2]
     simp only [qC8,qAJ,qAE,qAM r7.ob,zA,g0Y,g1Y,qBJ,qAA,qAQ]
     refine qAU (λhlt=>?_) (λhge=>?_)
     ·have hlt:i < B.length:=by have:=oT hlt;omega
      have hiA:i < A.length:=by omega
      simp only [qMr hlt,qVz r7.rs hiA,qAA,qAv,qAi,Bool.false_bne]
      cases hq:(A[i] - 1 == fr') with
      | true=>
        have hq:=eq_of_beq hq
        simp only [qAI,qBZ,qAT,qAA]
        rw [qAf (by omega) (by omega)]
        exact ⟨_,by omega,i+1,i,rfl,by trivial,by omega,rfl,hiA,λk hk h _=>by omega,λ_ _=>by omega⟩
      | false=>
        have hq:A[i] - 1≠fr':=λe=>by rw [e] at hq;simp at hq
        simp only [qAB,qBZ,qAT,qAA]
        rw [qAf (by omega) (by omega)]
        refine ⟨_,by omega,i+1,p,rfl,by trivial,by omega,rfl,hpA,λk hk h e=>?_,λ⟨k,hk,h,e⟩=>hl2 ⟨k,hk,?_,e⟩⟩
        ·by_cases e2:k=i
         ·subst e2;omega
         ·exact hl1 k hk (by omega) e
        ·by_cases e2:k=i
         ·subst e2;omega
         ·omega
     ·have hge:i=A.length:=by have:=oF hge;omega
      subst hge
      obtain ⟨k0,hk0,ek0⟩:=List.getElem_of_mem hin
      have hAp:=hl2 ⟨k0,hk0,hk0,ek0⟩ hpA
      simp only [qMr (show p < B.length by omega),qAA]
      refine qAm r7.rs (by rw [lMY,lMY];exact hpA) rfl λs9 h9 u9=>?_
      have stp:Stp l A (A.set p (t'+1)):=.move hpA hAp hfr ht tmin fmax (by omega) nz (λk hk hpk e=>by have:=hl1 k hk hk e;omega) ttie ftie
      have hft:fr'≠t':=by rintro rfl;omega
      have l1:∀ a,ld (A.set p (t'+1)) a+(if fr'=a then 1 else 0)=ld A a+(if t'=a then 1 else 0):=λa=>by
       have:=qVW (B:=A) (i:=p) (v:=t'+1) (m:=a) hpA
       rw [hAp] at this
       have e1:(if fr'+1=a+1 then 1 else 0)=(if fr'=a then 1 else 0):=by split <;> split <;> omega
       have e2:(if t'+1=a+1 then 1 else 0)=(if t'=a then 1 else 0):=by split <;> split <;> omega
       rw [e1,e2] at this
       exact this
      refine ⟨pot l (A.set p (t'+1)),qSs ha.nodup hfr ht (by omega) ?_ ?_ ?_,_,by trivial,rfl,r7.set (i:=p) u9 h9 q1 q2,rc.tail stp,λb hb=>?_⟩
      ·have:=l1 fr';rw [if_pos rfl,if_neg (λe=>hft e.symm)] at this;exact this
      ·have:=l1 t';rw [if_neg hft,if_pos rfl] at this;exact this
      ·intro m hm h1 h2
       have:=l1 m;rw [if_neg (Ne.symm h1),if_neg (Ne.symm h2)] at this;exact this
      ·rcases List.mem_or_eq_of_mem_set hb with h | rfl
       ·exact nz b h
       ·omega
    ·have hg:=oF hg
     exact done s7 A r7 ⟨λe=>absurd e hne,rc,λ_=>elt,λa ha2 c hc=>by
      have:=fmax a ha2;have:=tmin c hc;omega⟩
end Go.AM.WH
namespace Go.AM.FB
open Go Go.Proofs
set_option maxRecDepth 100000
variable {K:AV→Hq→Prop} {r s s' s0 t H H':Hq} {lv ev ev' wv wv' v y:AV} {o N x:Nat} {U:List Bool} {L:List RLk} {Bf:Nat→List Int} {Mf:Nat→List Nat}
abbrev Rl:=Nat × Nat × AV
variable {ps:List Rl}
def rOwn (ps:List Rl) (i:Nat):Prop:=∃ p∈ps,i=p.1∨i=p.2.1
structure Rw (s H:Hq) (ps:List Rl) (Bf:Nat→List Int) (Mf:Nat→List Nat):Prop where
 ow:∀ (i j:Nat) (p q:Rl),ps[i]?=some p→ps[j]?=some q→p.1=q.1∨p.2.1=q.2.1→i=j
 hn:∀ i,rOwn ps i→H i=none
 at_:∀ (i:Nat) (p:Rl),ps[i]?=some p→s p.1=some (false,.cells 115 [p.2.2,.slc p.2.1 0 64 none 1])∧s p.2.1=some (false,.cells 3 (WH.ints (WH.outB (Bf i))))∧Sl H p.2.2 (iz (Mf i))∧WH.Asc (nz (Mf i))∧(Mf i).length≤64
 ln:∀ n,(Bf n).length=64
 rg:∀ n,∀ b∈Bf n,0≤b∧b≤128
theorem qSf {l:List Nat}:(nz l).length=l.length:=by unfold nz;simp
theorem Rw.rat (z:Rw s H ps Bf Mf) (hs:Sub H s) {i:Nat} {p:Rl} (hp:ps[i]?=some p):WH.RAt s p.1 p.2.1 p.2.2 (Bf i) (nz (Mf i)):=by
 obtain ⟨a,b,c,e,g⟩:=z.at_ i p hp
 have l:=z.ln i
 refine ⟨by rw [l];exact a,b,?_,by omega,e,by rw [qSf];omega⟩
 have:=c.sub hs
 rw [qB8] at this
 exact this
def tabC (N x:Int) (lv ev wv:AV):List AV:=[.int .i64 N,.int .i64 x,lv,ev,wv]
structure Rt (s H:Hq) (o N x:Nat) (lv ev wv:AV) (L:List RLk) (ps:List Rl) (Bf:Nat→List Int) (Mf:Nat→List Nat):Prop where
 hs:Sub H s
 ho:H o=none
 co:s o=some (false,.cells 80 (tabC (N:Int) (x:Int) lv ev wv))
 lk:SlR 3 H lv (L.map rwR)
 rw_:Rw s H ps Bf Mf
def ro (o:Nat) (ps:List Rl) (i:Nat):Prop:=i=o∨rOwn ps i
theorem Rt.wc (z:Rt s H o N x lv ev wv L ps Bf Mf) {i:Nat} (h:rOwn ps i):(∃ cs,s i=some (false,.cells 115 cs))∨∃ cs,s i=some (false,.cells 3 cs):=by
 obtain ⟨p,hp,h⟩:=h
 obtain ⟨j,hj⟩:=List.mem_iff_getElem?.1 hp
 obtain ⟨a,b,_⟩:=z.rw_.at_ j p hj
 rcases h with rfl | rfl
 ·exact .inl ⟨_,a⟩
 ·exact .inr ⟨_,b⟩
theorem Rt.no (z:Rt s H o N x lv ev wv L ps Bf Mf):¬ rOwn ps o:=λh=>by
 rcases z.wc h with ⟨cs,e⟩ | ⟨cs,e⟩ <;> (rw [z.co] at e;cases e)
theorem Rt.live (z:Rt s H o N x lv ev wv L ps Bf Mf) {i:Nat} (h:ro o ps i):s i≠none:=by
 rcases h with rfl | h
 ·rw [z.co];simp
 ·rcases z.wc h with ⟨cs,e⟩ | ⟨cs,e⟩ <;> (rw [e];simp)
theorem Rt.hn (z:Rt s H o N x lv ev wv L ps Bf Mf) {i:Nat} (h:ro o ps i):H i=none:=by
 rcases h with rfl | h
 ·exact z.ho
 ·exact z.rw_.hn i h
theorem Rt.keep {fp:Nat→Prop} (z:Rt s H o N x lv ev wv L ps Bf Mf) (k:qAg fp s s') (h1:∀ i,ro o ps i→¬ fp i) (h2:Sub H s'):Rt s' H o N x lv ev wv L ps Bf Mf:=by
 refine ⟨h2,z.ho,k _ _ z.co (h1 _ (.inl rfl)),z.lk,⟨z.rw_.ow,z.rw_.hn,λi p hp=>?_,z.rw_.ln,z.rw_.rg⟩⟩
 obtain ⟨a,b,c⟩:=z.rw_.at_ i p hp
 exact ⟨k _ _ a (h1 _ (.inr ⟨p,mG hp,.inl rfl⟩)),k _ _ b (h1 _ (.inr ⟨p,mG hp,.inr rfl⟩)),c⟩
theorem Rt.sub (z:Rt s H o N x lv ev wv L ps Bf Mf) (k:Sub s s'):Rt s' H o N x lv ev wv L ps Bf Mf:=z.keep (fp:=λ_=>False) k.keep (λ_ _ h=>h) (z.hs.trans k)
theorem Rt.more (z:Rt s H o N x lv ev wv L ps Bf Mf) (k:Sub H H') (h:Sub H' s) (hn:∀ i,ro o ps i→H' i=none):Rt s H' o N x lv ev wv L ps Bf Mf:=by
 refine ⟨h,hn _ (.inl rfl),z.co,z.lk.sub k,⟨z.rw_.ow,λi hi=>hn _ (.inr hi),λi p hp=>?_,z.rw_.ln,z.rw_.rg⟩⟩
 obtain ⟨a,b,c,e⟩:=z.rw_.at_ i p hp
 exact ⟨a,b,c.sub k,e⟩
theorem Rt.set (z:Rt s H o N x lv ev wv L ps Bf Mf) (u:Upto o s s') (h:s' o=some (false,.cells 80 (tabC (N:Int) (x:Int) lv ev' wv'))):Rt s' H o N x lv ev' wv' L ps Bf Mf:=by
 have nf:=z.no
 have ne:∀ {i},rOwn ps i→i≠o:=fun {i} hi e=>nf (e ▸ hi)
 refine ⟨λi e hi=>?_,z.ho,h,z.lk,⟨z.rw_.ow,z.rw_.hn,λi p hp=>?_,z.rw_.ln,z.rw_.rg⟩⟩
 ·rw [u i (λq=>by rw [q,z.ho] at hi;cases hi)]
  exact z.hs _ _ hi
 ·obtain ⟨a,b,c⟩:=z.rw_.at_ i p hp
  have m:=mG hp
  exact ⟨by rw [u _ (ne ⟨p,m,.inl rfl⟩)];exact a,by rw [u _ (ne ⟨p,m,.inr rfl⟩)];exact b,c⟩
theorem qSQ {i:Nat} {p:Rl} {mv:AV} (hp:ps[i]?=some p) {j:Nat}:rOwn (ps.set i (p.1,p.2.1,mv)) j↔rOwn ps j:=by
 have hi:=(gS hp).1
 constructor
 ·rintro ⟨q,hq,h⟩
  obtain ⟨k,hk⟩:=List.mem_iff_getElem?.1 hq
  by_cases e:i=k
  ·subst e
   rw [List.getElem?_set_self hi] at hk
   cases hk
   exact ⟨p,mG hp,h⟩
  ·rw [List.getElem?_set_ne e] at hk
   exact ⟨q,mG hk,h⟩
 ·rintro ⟨q,hq,h⟩
  obtain ⟨k,hk⟩:=List.mem_iff_getElem?.1 hq
  by_cases e:i=k
  ·subst e
   rw [hp] at hk
   cases hk
   exact ⟨(p.1,p.2.1,mv),mG (by rw [List.getElem?_set_self hi]),h⟩
  ·exact ⟨q,mG (by rw [List.getElem?_set_ne e];exact hk),h⟩
theorem Rt.setM {i:Nat} {p:Rl} {v:AV} {l:List Nat} (z:Rt s H o N x lv ev wv L ps Bf Mf) (hp:ps[i]?=some p) (hl:Sl s v (iz l)) (hvo:∀ b o' n c,v=.slc b o' n c 1→iz l≠[]→¬ ro o ps b) (ha:l.Pairwise (· < ·)) (hb:∀ i∈l,i < 128) (hlen:l.length≤64)
  (hK:∀ s' H' mv B',Rt s' H' o N x lv ev wv L (ps.set i (p.1,p.2.1,mv)) (updF Bf i B') (updF Mf i l)→WH.Aft (nz l) (Bf i) B'→qAg (ro o ps) s s'→Sub H H'→(∀ j,H' j≠none→H j≠none∨s j=none)→K (.int .i64 0) s'):wC TP XX 34 [.ptr p.1 0,v] K s:=by
 have asc:=qYF ha hb
 have hm:=mG hp
 have hi:=(gS hp).1
 have ra:=z.rw_.rat z.hs hp
 have l64:=z.rw_.ln i
 have hl':WH.Sli s v (nz l):=by rw [qB8] at hl;exact hl
 have ofp:∀ j,(j=p.1∨j=p.2.1)→rOwn ps j:=λj h=>⟨p,hm,h⟩
 refine WH.rSet_in ra hl' (by rw [qSf];omega) (z.rw_.rg _) (λb o' n c e hne=>?_) (λe he hne=>?_) λs3 mv3 B3 _ _ ra3 aft k3 fr3=>?_
 ·have h0:=hvo b o' n c e (λq=>hne (by unfold nz;unfold iz at q;simpa using q))
  exact ⟨λq=>h0 (.inr (ofp _ (.inl q))),λq=>h0 (.inr (ofp _ (.inr q)))⟩
 ·exact absurd (WH.ChkR.uniq he (WH.chk_of_asc asc (by rw [qSf,l64];exact hlen))) hne
 have l3:B3.length=64:=by rw [aft.len,l64]
 have kO:qAg (ro o ps) s s3:=k3.mono λi h=>.inr (ofp i h)
 have hH3:Sub H s3:=λi e hi=>k3 _ _ (z.hs _ _ hi) λq=>by rw [z.rw_.hn i (ofp i q)] at hi;cases hi
 have gn:∀ i,ro o ps i→grow H s s3 (ro o ps) i=none:=λi hi=>qDg (z.hn hi) hi
 have mvH:Sl (grow H s s3 (ro o ps)) mv3 (iz l):=by
  have:Sl s3 mv3 (iz l):=by rw [qB8];exact ra3.ms
  refine qJQ this λb o n c e hne=>?_
  obtain ⟨c',n',k',hc,e'⟩:=fr3 (λq=>hne (by rw [qB8];unfold nz at q;rw [q];rfl))
  rw [e'] at e
  cases e
  refine ⟨?_,hc,λq=>z.live q hc⟩
  cases q:H b with
  | none=>rfl
  | some y=>rw [z.hs _ _ q] at hc;cases hc
 have no:=z.no
 refine hK s3 (grow H s s3 (ro o ps)) mv3 B3 ⟨qE9 hH3,gn _ (.inl rfl),k3 _ _ z.co (λq=>no (ofp _ q)),z.lk.sub qC6,⟨?_,λj hj=>gn j (.inr ((qSQ hp).1 hj)),?_,λn=>?_,λn=>?_⟩⟩ aft kO qC6 λj hj=>?_
 ·intro a b q1 q2 h1 h2 h
  have get:∀ {a:Nat} {q:Rl},(ps.set i (p.1,p.2.1,mv3))[a]?=some q→∃ q',ps[a]?=some q'∧q.1=q'.1∧q.2.1=q'.2.1:=fun {a q} h=>by
   by_cases e:i=a
   ·subst e
    rw [List.getElem?_set_self hi] at h
    cases h;exact ⟨p,hp,rfl,rfl⟩
   ·rw [List.getElem?_set_ne e] at h
    exact ⟨q,h,rfl,rfl⟩
  obtain ⟨q1',g1,g2,g3⟩:=get h1
  obtain ⟨q2',g4,g5,g6⟩:=get h2
  exact z.rw_.ow a b q1' q2' g1 g4 (by rw [← g2,← g5,← g3,← g6];exact h)
 ·intro j q hq
  rw [List.getElem?_set] at hq
  by_cases e:i=j
  ·subst e
   rw [if_pos rfl,if_pos hi] at hq
   cases hq
   have e1:updF Bf i B3 i=B3:=if_pos rfl
   have e2:updF Mf i l i=l:=if_pos rfl
   rw [e1,e2]
   refine ⟨?_,ra3.rs,mvH,asc,hlen⟩
   have:=ra3.ob
   rw [l3] at this
   exact this
  ·rw [if_neg e] at hq
   have e1:updF Bf i B3 j=Bf j:=if_neg (Ne.symm e)
   have e2:updF Mf i l j=Mf j:=if_neg (Ne.symm e)
   obtain ⟨a,b,c,g⟩:=z.rw_.at_ j q hq
   obtain ⟨a',b',_⟩:=z.rw_.at_ i p hp
   have n1:¬ (q.1=p.1∨q.1=p.2.1):=by
    rintro (h | h)
    ·exact e (z.rw_.ow i j p q hp hq (.inl h.symm))
    ·rw [h,b'] at a;cases a
   have n2:¬ (q.2.1=p.1∨q.2.1=p.2.1):=by
    rintro (h | h)
    ·rw [h,a'] at b;cases b
    ·exact e (z.rw_.ow i j p q hp hq (.inr h.symm))
   rw [e1,e2]
   exact ⟨k3 _ _ a n1,k3 _ _ b n2,c.sub qC6,g⟩
 ·unfold updF
  split
  ·exact l3
  ·exact z.rw_.ln n
 ·unfold updF
  split
  ·exact aft.rg asc
  ·exact z.rw_.rg n
 ·by_cases h1:H j=none
  ·refine .inr ?_
   cases q:s j with
   | none=>rfl
   | some y=>exact absurd (qDb h1 (by rw [q];simp)) hj
  ·exact .inl h1
theorem Rt.addG {op rb:Nat} {mv:AV} {B:List Int} {M:List Nat} (z:Rt s H o N x lv ev wv L ps Bf Mf) (ho:s op=none) (hrb:s rb=none) (hs:Sub s s') (h1:s' op=some (false,.cells 115 [mv,.slc rb 0 64 none 1])) (h2:s' rb=some (false,.cells 3 (WH.ints (WH.outB B))))
  (h4:Sl H mv (iz M)) (h5:B.length=64) (h6:∀ b∈B,0≤b∧b≤128) (h7:WH.Asc (nz M)) (h8:M.length≤64):Rt s' H o N x lv ev wv L (ps ++ [((op,rb,mv):Rl)]) (updF Bf ps.length B) (updF Mf ps.length M):=by
 have hlive:∀ {i},s i=none→∀ q∈ps,q.1≠i∧q.2.1≠i:=fun {i} hi q hq=>by
  obtain ⟨j,hj⟩:=List.mem_iff_getElem?.1 hq
  obtain ⟨a,b,_⟩:=z.rw_.at_ j q hj
  exact ⟨λe=>(by rw [e,hi] at a;cases a),λe=>(by rw [e,hi] at b;cases b)⟩
 have hH:∀ {i},s i=none→H i=none:=fun {i} hi=>by
  cases q:H i with
  | none=>rfl
  | some y=>rw [z.hs _ _ q] at hi;cases hi
 have get:∀ {a:Nat} {q:Rl},(ps ++ [((op,rb,mv):Rl)])[a]?=some q→(a < ps.length∧ps[a]?=some q)∨(a=ps.length∧q=(op,rb,mv)):=fun {a q} h=>by
  rcases Nat.lt_trichotomy a ps.length with e | e | e
  ·rw [List.getElem?_append_left e] at h;exact .inl ⟨e,h⟩
  ·subst e
   rw [List.getElem?_append_right (Nat.le_refl _),Nat.sub_self] at h
   cases h;exact .inr ⟨rfl,rfl⟩
  ·rw [List.getElem?_eq_none (by simp;omega)] at h;cases h
 refine ⟨z.hs.trans hs,z.ho,hs _ _ z.co,z.lk,⟨?_,?_,?_,λn=>?_,λn=>?_⟩⟩
 ·intro a b q1 q2 g1 g2 h
  rcases get g1 with ⟨_,e1⟩ | ⟨e1,rfl⟩ <;> rcases get g2 with ⟨_,e2⟩ | ⟨e2,rfl⟩
  ·exact z.rw_.ow a b q1 q2 e1 e2 h
  ·have k1:=(hlive ho q1 (mG e1)).1
   have k2:=(hlive hrb q1 (mG e1)).2
   rcases h with h | h
   ·exact absurd h k1
   ·exact absurd h k2
  ·have k1:=(hlive ho q2 (mG e2)).1
   have k2:=(hlive hrb q2 (mG e2)).2
   rcases h with h | h
   ·exact absurd h.symm k1
   ·exact absurd h.symm k2
  ·omega
 ·rintro i ⟨p,hp,h⟩
  rcases mP hp with hp | hp
  ·exact z.rw_.hn i ⟨p,hp,h⟩
  ·rw [List.mem_singleton] at hp
   subst hp
   rcases h with rfl | rfl
   ·exact hH ho
   ·exact hH hrb
 ·intro j q hq
  rcases get hq with ⟨e,e1⟩ | ⟨e,rfl⟩
  ·have n1:updF Bf ps.length B j=Bf j:=if_neg (by omega)
   have n2:updF Mf ps.length M j=Mf j:=if_neg (by omega)
   obtain ⟨a,b,c⟩:=z.rw_.at_ j q e1
   rw [n1,n2]
   exact ⟨hs _ _ a,hs _ _ b,c⟩
  ·subst e
   have n1:updF Bf ps.length B ps.length=B:=if_pos rfl
   have n2:updF Mf ps.length M ps.length=M:=if_pos rfl
   rw [n1,n2]
   exact ⟨h1,h2,h4,h7,h8⟩
 ·unfold updF
  split
  ·exact h5
  ·exact z.rw_.ln n
 ·unfold updF
  split
  ·exact h6
  ·exact z.rw_.rg n
structure RTab (r:Hq) (o N x:Nat) (L:List RLk) (U:List Bool) (Bf:Nat→List Int):Prop where
 ex:∃ (H:Hq) (lv ev wv:AV) (R:List EnV) (ps:List Rl) (Mf:Nat→List Nat),Rt r H o N x lv ev wv L ps Bf Mf∧SlR 2 H ev (R.map enR)∧R.map kyE=ofP N (L.map toL) U x N∧(∀ y∈R,Sl H y.2.1 (iz y.2.2))∧ps.length=N∧Sl H wv (ps.map λp=>.ptr p.1 0)∧∀ n,n < N→Mf n=lnk N (L.map toL) U x n
theorem RTab.sub (z:RTab r o N x L U Bf) (k:Sub r s):RTab s o N x L U Bf:=by
 obtain ⟨H,lv,ev,wv,R,ps,Mf,h1,h⟩:=z.ex
 exact ⟨H,lv,ev,wv,R,ps,Mf,h1.sub k,h⟩
theorem RTab.live (z:RTab r o N x L U Bf):r o≠none:=by
 obtain ⟨H,lv,ev,wv,R,ps,Mf,h1,h⟩:=z.ex
 rw [h1.co];simp
theorem Acc.offv {elem:TypeId} {l:List AV} (h:Acc elem s0 t v l):Acc elem (offV v t) t v l:=by
 rcases h with h | ⟨b,h1,rfl,h3⟩
 ·exact .inl h
 ·exact .inr ⟨b,by simp [offV,hdel],rfl,h3⟩
end Go.AM.FB
namespace Go.AM.FB
open Go Go.Proofs
set_option maxRecDepth 100000
variable {K:AV→Hq→Prop} {r r' s s' t t' H Q:Hq} {lv ev wv uv y w:AV} {o N x:Nat} {G:List Lnk} {U U':List Bool} {L:List RLk} {Bf Bf':Nat→List Int} {Mf:Nat→List Nat} {ps:List Rl} {R:List EnV}
structure REn (s:Hq) (o:Nat) (R:List EnV):Prop where
 ex:∃ (tg:Bool) (N x:Int) (lv ev wv:AV),s o=some (tg,.cells 80 (tabC N x lv ev wv))∧SlR 2 s ev (R.map enR)∧∀ y∈R,Sl s y.2.1 (iz y.2.2)
theorem REn.sub (z:REn s o R) (k:Sub s s'):REn s' o R:=by
 obtain ⟨tg,N,x,lv,ev,wv,h1,h2,h3⟩:=z.ex
 exact ⟨tg,N,x,lv,ev,wv,k _ _ h1,h2.sub k,λy hy=>(h3 y hy).sub k⟩
theorem REn.frz (z:REn s o R):REn (AM.frz s) o R:=by
 obtain ⟨tg,N,x,lv,ev,wv,h1,h2,h3⟩:=z.ex
 exact ⟨true,N,x,lv,ev,wv,qBX h1,h2.frz,λy hy=>Sl.frz (h3 y hy)⟩
def qML (R:List EnV) (q:Int):List Nat:=match R.find? λy=>y.1 == q with
 | some y=>y.2.2
 | none=>[]
theorem qSz (h:R.map kyE=ofP N G U x N) {n:Nat} (hn:n < N):qML R (lbk n)=lnk N G U x n:=by
 unfold qML
 cases q:R.find? λy=>y.1 == lbk n with
 | some y=>
   have hy:=List.mem_of_find?_eq_some q
   have h1:=List.find?_some q
   have h1:y.1=lbk n:=by simpa using h1
   obtain ⟨m,hm,e1,e2⟩:=FibR.row h hy
   have:=qO3 (e1.symm.trans h1)
   subst this
   exact e2
 | none=>
   have:=List.find?_eq_none.1 q
   by_cases c:lnk N G U x n=[]
   ·exact c.symm
   ·obtain ⟨y,hy,e⟩:=FibR.has h (qC3.2 ⟨hn,c⟩)
    exact absurd (by simp [e]) (this y hy)
theorem qOi {q:Int} (z:REn s o R) (hl:R.length≤1000) (hl2:∀ y∈R,y.2.2.length≤1000)
  (hK:∀ s' w,Sub s s'→Sl s' w (iz (qML R q))→(qML R q≠[]→∃ c,s c=none∧w=.slc c 0 (qML R q).length none 1∧s' c=some (false,.cells 3 (iz (qML R q))))→K w s'):wC TP XX 13 [.ptr o 0,.int .u32 q] K s:=by
 obtain ⟨tg,N,x,lv,ev,wv,h1,h2,h3⟩:=z.ex
 have c3:(tabC N x lv ev wv)[3]?=some ev:=rfl
 refine qFV ?_
 refine ⟨λys t m=>∃ i:Nat,ys=[.int .i64 i]∧t=s∧i≤R.length∧m=R.length - i∧∀ y∈R.take i,y.1≠q,⟨_,0,rfl,rfl,by omega,rfl,by simp⟩,?_⟩
 rintro f t m ⟨i,hy,rfl,hi,rfl,hq⟩
 simp only [cI,and_true] at hy
 rw [hy]
 simp only [qCu,qAJ,qAE,zA,qAM h1,c3,h2.len,lMY,qAQ,qAA]
 refine qAU (λhlt=>?_) (λhge=>?_)
 ·have hlt:i < R.length:=by have:=oT hlt;omega
  have hy:R[i]?=some R[i]:=gE hlt
  have hm:=List.getElem_mem hlt
  generalize R[i]=y at hy hm
  obtain ⟨pb,po,e1,e2,e3⟩:=h2.get (i:=i) (r:=enR y) (by rw [List.getElem?_map,hy];rfl)
  have r0:=e3 0 (by omega)
  rw [Nat.add_zero] at r0
  have r0:rd1 t (.ptr pb po)=some (.int .u32 y.1):=r0
  have r1:=e3 1 (by omega)
  have r1:rd1 t (.ptr pb (po+1))=some y.2.1:=r1
  simp only [e1,qAE,Nat.add_zero,r0,qAv,qAi,Bool.false_bne,qAA]
  refine qAU (λc=>?_) (λc=>?_)
  ·have c:y.1=q:=by simpa using c
   have hlook:qML R q=y.2.2:=by
    unfold qML
    have hfind:R.find? (λy=>y.1 == q)=some y:=by
     rw [List.find?_eq_some_iff_append]
     refine ⟨by simpa using c,R.take i,R.drop (i+1),?_,λz hz=>by simpa using hq z hz⟩
     obtain ⟨a1,a2⟩:=gS hy
     rw [← a2,List.getElem_cons_drop,List.take_append_drop]
    rw [hfind]
   refine qAW (a:=[]) rfl ⟨rfl,qAS λb s1 hb hb1 u1=>?_⟩
   have sub1:=u1.sub hb
   obtain ⟨pb',po',f1,f2,f3⟩:=(h2.sub sub1).get (i:=i) (r:=enR y) (by rw [List.getElem?_map,hy];rfl)
   have g1:=f3 1 (by omega)
   have g1:rd1 s1 (.ptr pb' (po'+1))=some y.2.1:=g1
   simp only [qAE,qAM (sub1 _ _ h1),c3,f1,g1,qAA]
   refine qIJ ((h3 y hm).sub sub1) (by rw [qHU];have:=hl2 y hm;omega) λv' s2 sub2 k0 k1=>?_
   rw [hlook] at hK
   by_cases hne:y.2.2=[]
   ·refine hK s2 v' (sub1.trans sub2) ?_ λh=>absurd hne h
    rw [k0 (by rw [hne];rfl),hne]
    exact .inr ⟨b,0,some 0,rfl,by simp [iz],λh=>absurd rfl h⟩
   ·obtain ⟨c',hc,hv,hc2⟩:=k1 (by rw [qB8];simpa using hne)
    rw [qHU] at hv
    refine hK s2 v' (sub1.trans sub2) (by rw [hv];exact Sl.mk hc2 (by rw [qHU]) (by simp)) λ_=>⟨c',qAe sub1 hc,hv,hc2⟩
  ·have c:¬ y.1=q:=by simpa using c
   simp only [qAT,qAA]
   rw [qAf (by omega) (by omega)]
   refine ⟨_,by omega,i+1,rfl,by trivial,by omega,rfl,λz hz=>?_⟩
   rw [List.take_add_one,hy] at hz
   simp only [Option.toList_some,List.mem_append,List.mem_singleton] at hz
   rcases hz with hz | hz
   ·exact hq z hz
   ·rw [hz];exact c
 ·have hge:i=R.length:=by have:=oF hge;omega
  subst hge
  rw [List.take_length] at hq
  have hlook:qML R q=[]:=by
   unfold qML
   rw [List.find?_eq_none.2 λy hy=>by simpa using hq y hy]
  rw [hlook] at hK
  exact hK t .nilslc (.refl t) (.inl ⟨rfl,rfl⟩) λh=>absurd rfl h
structure RU (t Q:Hq) (o N x:Nat) (L:List RLk) (U:List Bool) (lv ev wv:AV) (R:List EnV) (Bf0:Nat→List Int) (P0:List AV) (k:Nat):Prop where
 ex:∃ (H:Hq) (ps:List Rl) (Bf:Nat→List Int) (Mf:Nat→List Nat),Rt t H o N x lv ev wv L ps Bf Mf∧SlR 2 H ev (R.map enR)∧(∀ y∈R,Sl H y.2.1 (iz y.2.2))∧ps.length=N∧(ps.map λp=>AV.ptr p.1 0)=P0∧Sl H wv P0∧
  (∀ n,n < k→WH.Aft (nz (lnk N (L.map toL) U x n)) (Bf0 n) (Bf n)∧Mf n=lnk N (L.map toL) U x n)∧(∀ n,k≤n→Bf n=Bf0 n)∧Sub Q t∧∀ i,Q i≠none→H i=none∧¬ ro o ps i
theorem qRI {c n:Nat}:qDs 1 (.slc c 0 n none 1) none (some (.int .i64 (n:Int))) none=some (.slc c 0 n none 1):=by
 simp [qDs,bound,bL (Nat.le_refl n)]
theorem zAAH {k:Nat} {P0:List AV} {Bf0:Nat→List Int} {J:Hq→Prop} (z:RU t Q o N x L U lv ev wv R Bf0 P0 k) (hR:R.map kyE=ofP N (L.map toL) U x N) (hN:N≤32) (hG:L.length≤64) (hk:k < N)
  (hJ:∀ t',RU t' Q o N x L U lv ev wv R Bf0 P0 (k+1)→J t') :
  wC TP XX 33 [.int .i64 (k:Int)] (λv_26 s_27=>
  wC TP XX 13 [.ptr o 0,v_26] (λv_28 s_29=>
  oK (qAH (.ptr o 0)) λv_30=>
  oK (qAF 4 v_30) λv_31=>
  oK (rd1 s_29 v_31) λv_32=>
  oK (qAO 1 v_32 (.int .i64 (k:Int))) λv_33=>
  oK (rd1 s_29 v_33) λv_34=>
  oK (qAa v_28) λv_35=>
  oK (qKU min2A (.int .i64 v_35) [(.int .i64 64)]) λv_39=>
  oK (qDs 1 v_28 none (some v_39) none) λv_40=>
  wC TP XX 34 [v_34,v_40] (λv_41 s_42=>J s_42) s_29) s_27) t:=by
 obtain ⟨H,ps,Bf,Mf,tb,hev,hrow,hps,hP0,hwv,hdone,hto,hQ,hQn⟩:=z.ex
 have hRl:R.length≤32:=by
  have:=congrArg List.length hR
  rw [lMY] at this
  have:=qHz (N:=N) (G:=L.map toL) (U:=U) (x:=x) (k:=N)
  omega
 have hlk:∀ y∈R,y.2.2.length≤64:=λy hy=>Nat.le_trans (qLG hR hy) (by rw [lMY];exact hG)
 have ren:REn t o R:=⟨false,_,_,_,_,_,tb.co,hev.sub tb.hs,λy hy=>(hrow y hy).sub tb.hs⟩
 have hlook:=qSz hR hk
 refine qMg (by omega) ?_
 refine qOi ren (by omega) (λy hy=>by have:=hlk y hy;omega) λs1 w sub1 hw hwf=>?_
 rw [hlook] at hw hwf
 have tb1:=tb.sub sub1
 have c4:(tabC (N:Int) (x:Int) lv ev wv)[4]?=some wv:=rfl
 obtain ⟨p,hp⟩:∃ p,ps[k]?=some p:=⟨_,gE (by omega)⟩
 obtain ⟨pp,g1,g2⟩:=(hwv.sub tb1.hs).get (i:=k) (by rw [← hP0,lMY];omega)
 have g3:P0[k]?=some (.ptr p.1 0):=by rw [← hP0,List.getElem?_map,hp];rfl
 rw [g3] at g2
 have hlen2:(if (64:Int) < ((iz (lnk N (L.map toL) U x k)).length:Int) then (64:Int) else ((iz (lnk N (L.map toL) U x k)).length:Int))=((iz (lnk N (L.map toL) U x k)).length:Int):=if_neg (by
  rw [qHU]
  have:=qIE (N:=N) (G:=L.map toL) (U:=U) (x:=x) (n:=k)
  rw [lMY] at this
  omega)
 simp only [qAJ,qAE,zA,qAM tb1.co,c4,g1,g2,hw.len,qZ4,hlen2,qAA]
 have fin:∀ v',Sl s1 v' (iz (lnk N (L.map toL) U x k))→(∀ b o' n c,v'=.slc b o' n c 1→iz (lnk N (L.map toL) U x k)≠[]→t b=none)→wC TP XX 34 [.ptr p.1 0,v'] (λv_41 s_42=>J s_42) s1:=λv' hv' hfr=>by
  refine tb1.setM hp hv' (λb o' n c e hne hq=>tb.live hq (hfr b o' n c e hne)) qRl (λi hi=>by have:=qSW hi;rw [lMY] at this;omega) (Nat.le_trans qIE (by rw [lMY];exact hG)) λs2 H2 mv B2 tb2 aft k2 hH2 hH2n=>?_
  have hown2:∀ i,ro o (ps.set k (p.1,p.2.1,mv)) i→ro o ps i:=λi hi=>by
   rcases hi with hi | hi
   ·exact .inl hi
   ·exact .inr ((qSQ hp).1 hi)
  refine hJ s2 ⟨H2,ps.set k (p.1,p.2.1,mv),updF Bf k B2,updF Mf k (lnk N (L.map toL) U x k),tb2,hev.sub hH2,λy hy=>(hrow y hy).sub hH2,by rw [List.length_set];exact hps,?_,hwv.sub hH2,λn hn=>?_,λn hn=>?_,λi e hi=>?_,λi hi=>?_⟩
  ·rw [← hP0,List.map_set]
   apply List.ext_getElem?
   intro i
   by_cases e:k=i
   ·subst e
    rw [List.getElem?_set_self (by rw [lMY];omega),List.getElem?_map,hp];rfl
   ·rw [List.getElem?_set_ne e]
  ·by_cases e:n=k
   ·subst e
    rw [show updF Bf n B2 n=B2 from if_pos rfl,show updF Mf n (lnk N (L.map toL) U x n) n=lnk N (L.map toL) U x n from if_pos rfl,← hto n (Nat.le_refl _)]
    exact ⟨aft,rfl⟩
   ·rw [show updF Bf k B2 n=Bf n from if_neg e,show updF Mf k (lnk N (L.map toL) U x k) n=Mf n from if_neg e]
    exact hdone n (by omega)
  ·rw [show updF Bf k B2 n=Bf n from if_neg (by omega)]
   exact hto n (by omega)
  ·exact k2 _ _ (sub1 _ _ (hQ _ _ hi)) (hQn i (by rw [hi];simp)).2
  ·obtain ⟨q1,q2⟩:=hQn i hi
   refine ⟨?_,λh=>q2 (hown2 i h)⟩
   cases q:H2 i with
   | none=>rfl
   | some e=>
     rcases hH2n i (by rw [q];simp) with h | h
     ·exact absurd q1 h
     ·cases q3:Q i with
      | none=>exact absurd q3 hi
      | some e'=>rw [sub1 _ _ (hQ _ _ q3)] at h;cases h
 by_cases hne:lnk N (L.map toL) U x k=[]
 ·obtain ⟨v',hv',hlv⟩:=Sl.whole hw
  rw [hv',qAA]
  exact fin v' hlv λb o' n c _ h=>absurd (by rw [hne];rfl) h
 ·obtain ⟨c,hc,rfl,hc2⟩:=hwf hne
  rw [qHU,qRI,qAA]
  exact fin _ hw λb o' n c' e _=>by cases e;exact hc
theorem qTq (z:RTab r o N x L U Bf) (hrs:Sub r s) (hv:vld (N:Int) L U') (hx:x < N) (hG:L.length≤64) (hu:Sl s uv (U'.map AV.bool))
  (hK:∀ r' s' Bf',RTab r' o N x L U' Bf'→Goes r s r' s'→(∀ n,n < N→WH.Aft (nz (lnk N (L.map toL) U' x n)) (Bf n) (Bf' n))→K (.int .i64 0) s'):wC TP XX 10 [.ptr o 0,uv] K s:=by
 obtain ⟨H0,lv,ev,wv,R0,ps,Mf,tb0,_,_,_,hps,hwv,_⟩:=z.ex
 have tb:=tb0.sub hrs
 have hN:=hv.1
 obtain ⟨_,_,hN32,_,_⟩:=vld.gok hv
 refine qCq ?_
 have c2:∀ ev,(tabC (N:Int) (x:Int) lv ev wv)[2]?=some lv:=λ_=>rfl
 have c0:∀ ev,(tabC (N:Int) (x:Int) lv ev wv)[0]?=some (.int .i64 (N:Int)):=λ_=>rfl
 have c1:∀ ev,(tabC (N:Int) (x:Int) lv ev wv)[1]?=some (.int .i64 (x:Int)):=λ_=>rfl
 have eul:U'.length=L.length:=hv.2.2.2.1
 unfold qCP
 simp only [hu.len,lMY,qAJ,qAE,zA,qAM tb.co,c2,c0,c1,(tb.lk.sub tb.hs).len,qAv,qAi,eul,beq_self_eq_true,Bool.true_bne,Bool.not_true,qAB,qAA]
 refine zABS (tb.lk.sub tb.hs) (by omega) hu λov s1 R en hRk=>?_
 have sub1:=en.sub
 have hRk:R.map kyE=ofP N (L.map toL) U' x N:=by
  rw [hRk]
  unfold ofEn
  rw [if_pos ⟨hv,by omega,by omega⟩,Int.toNat_natCast,Int.toNat_natCast]
 obtain ⟨sb,kb1,kb2,acc,hrows⟩:=en.ex
 have slo:=acc.sl
 have tb1:=tb.sub sub1
 try simp only [qAJ,qAE,zA,qAA]
 refine qAm tb1.co (show 3 < (tabC (N:Int) (x:Int) lv ev wv).length from by show 3 < 5;omega) slo.one λs2 h2 u2=>?_
 have h2:s2 o=some (false,.cells 80 (tabC (N:Int) (x:Int) lv ov wv)):=h2
 have tb2:=tb1.set u2 h2
 have h0none:∀ {i},s i=none→H0 i=none:=fun {i} hi=>by
  cases q:H0 i with
  | none=>rfl
  | some e=>rw [tb.hs _ _ q] at hi;cases hi
 have so:s o≠none:=tb.live (.inl rfl)
 obtain ⟨H,hH⟩:∃ H:Hq,H=grow H0 s s2 (λ_=>False):=⟨_,rfl⟩
 have tb3:Rt s2 H o N x lv ov wv L ps Bf Mf:=by
  rw [hH]
  exact tb2.more qC6 (qE9 tb2.hs) λi hi=>qDb (tb.hn hi) (tb.live hi)
 have slH:SlR 2 H ov (R.map enR):=by
  rw [hH]
  have h1:SlR 2 s2 ov (R.map enR):=slo.keep (fp:=λi=>i=o) (u2.keep rfl) λb o' n c e hne q=>by
   rcases acc.2 with ⟨_,q2⟩ | ⟨b',q1,q2,_⟩
   ·exact hne q2
   ·rw [q2] at e;cases e
    rw [q] at q1
    exact so (qAe kb1 q1)
  refine qJs h1 λb o' n c e hne=>?_
  rcases acc.2 with ⟨_,q⟩ | ⟨b',q1,q2,_⟩
  ·exact absurd q hne
  ·rw [q2] at e
   cases e
   have a1:=qAe kb1 q1
   exact ⟨h0none a1,a1,id⟩
 have slW:∀ y∈R,Sl H y.2.1 (iz y.2.2):=λy hy=>by
  have hb:∀ b o' n c,y.2.1=.slc b o' n c 1→iz y.2.2≠[]→s b=none:=λb o' n c e hne=>by
   rcases hrows y hy with ⟨_,q⟩ | ⟨b',q1,q2,_⟩
   ·exact absurd q hne
   ·rw [q2] at e
    cases e
    exact q1
  have:Sl s1 y.2.1 (iz y.2.2):=(hrows y hy).sl.sub kb2
  have:Sl s2 y.2.1 (iz y.2.2):=this.keep (fp:=λi=>i=o) (u2.keep rfl) λb o' n c e hne q=>so (by rw [← q];exact hb b o' n c e hne)
  rw [hH]
  exact qJQ this λb o' n c e hne=>⟨h0none (hb b o' n c e hne),hb b o' n c e hne,id⟩
 have restQ:∀ {i},rest s r i≠none→r i=none∧rest s r i=s i:=fun {i} hi=>by
  unfold rest at hi ⊢
  by_cases c:r i=none
  ·exact ⟨c,if_pos c⟩
  ·rw [if_neg c] at hi;exact absurd rfl hi
 have start:RU s2 (rest s r) o N x L U' lv ov wv R Bf (ps.map λp=>.ptr p.1 0) 0:=by
  refine ⟨H,ps,Bf,Mf,tb3,slH,slW,hps,rfl,?_,(λn hn=>by omega),λn _=>rfl,λi e hi=>?_,λi hi=>?_⟩
  ·rw [hH];exact hwv.sub qC6
  ·obtain ⟨q1,q2⟩:=restQ (i:=i) (by rw [hi];simp)
   rw [q2] at hi
   have ne:i≠o:=λe=>tb0.live (.inl rfl) (e ▸ q1)
   rw [u2 i ne];exact sub1 _ _ hi
  ·obtain ⟨q1,q2⟩:=restQ hi
   have hs:s i≠none:=by rw [← q2];exact hi
   have h0:H0 i=none:=by
    cases q:H0 i with
    | none=>rfl
    | some e=>rw [tb0.hs _ _ q] at q1;cases q1
   exact ⟨by rw [hH];exact qDb h0 hs,λq=>tb0.live q q1⟩
 refine ⟨λys t m=>∃ k:Nat,ys=[.int .i64 k]∧k≤N∧m=N - k∧RU t (rest s r) o N x L U' lv ov wv R Bf (ps.map λp=>.ptr p.1 0) k,⟨_,0,rfl,by omega,rfl,start⟩,?_⟩
 rintro g t m ⟨k,hy,hk,rfl,up⟩
 simp only [cI,and_true] at hy
 rw [hy]
 have tco:t o=some (false,.cells 80 (tabC (N:Int) (x:Int) lv ov wv)):=by obtain ⟨_,_,_,_,h,_⟩:=up.ex;exact h.co
 simp only [qCv,qAJ,qAE,zA,qAM tco,c0,qAQ,qAA]
 refine qAU (λhlt=>?_) (λhge=>?_)
 ·have hlt:k < N:=by have:=oT hlt;omega
  have:=zAAH (J:=λt'=>oK (qAG .add (.int .i64 (k:Int)) (.int .i64 1)) λv_43=>∃ m',m' < N - k∧∃ k:Nat,[v_43]=[.int .i64 (k:Int)]∧k≤N∧m'=N - k∧RU t' (rest s r) o N x L U' lv ov wv R Bf (ps.map λp=>.ptr p.1 0) k) up hRk hN32 hG hlt λt' up'=>by
   simp only [qAT,qAA]
   rw [qAf (by omega) (by omega)]
   exact ⟨_,by omega,k+1,rfl,by omega,rfl,up'⟩
  simp only [qAJ,qAE,zA,qAA] at this
  exact this
 ·have hge:k=N:=by have:=oF hge;omega
  subst hge
  obtain ⟨H2,ps2,Bf2,Mf2,tb4,hev2,hrow2,hps2,hP2,hwv2,hdone,_,hQ,hQn⟩:=up.ex
  obtain ⟨r1,hr1⟩:∃ r1:Hq,r1=λi=>if rest s r i=none then t i else none:=⟨_,rfl⟩
  have r1s:Sub r1 t:=λi e hi=>by
   rw [hr1] at hi
   have hi:(if rest s r i=none then t i else none)=some e:=hi
   split at hi
   ·exact hi
   ·cases hi
  have r1in:∀ {i},rest s r i=none→r1 i=t i:=fun {i} h=>by rw [hr1];exact if_pos h
  have h2rest:∀ {i e},H2 i=some e→rest s r i=none:=fun {i e} hi=>by
   by_cases c:rest s r i=none
   ·exact c
   ·rw [(hQn i c).1] at hi;cases hi
  have tb5:Rt r1 H2 o k x lv ov wv L ps2 Bf2 Mf2:=tb4.keep (fp:=λi=>rest s r i≠none) (λi e hi hn=>by rw [r1in (Classical.not_not.1 hn)];exact hi) (λi hi hq=>(hQn i hq).2 hi) λi e hi=>by rw [r1in (h2rest hi)];exact tb4.hs _ _ hi
  refine hK r1 t Bf2 ⟨H2,lv,ov,wv,R,ps2,Mf2,tb5,hev2,hRk,hrow2,hps2,by rw [hP2];exact hwv2,λn hn=>(hdone n hn).2⟩ ⟨r1s,λi h1 h2=>?_⟩ λn hn=>(hdone n hn).1
  have hq:rest s r i≠none:=by unfold rest;rw [if_pos h1];exact h2
  obtain ⟨q1,q2⟩:=restQ hq
  refine ⟨?_,by rw [hr1];exact if_neg hq⟩
  cases c:rest s r i with
  | none=>exact absurd c hq
  | some e=>rw [hQ _ _ c,← q2,c]
end Go.AM.FB
namespace Go.AM.FB
open Go Go.Proofs
set_option maxRecDepth 100000
variable {K:AV→Hq→Prop} {r r' s s' t:Hq} {lv lv' y:AV} {f b mb N:Nat} {d:Nat→Int} {L:List RLk}
theorem qZG {n x:Int} (hl:SlR 3 s lv (L.map rwR)) (hlm:L.length≤9223372036854775807)
  (hform:¬ vld n L (List.replicate L.length false)→∀ s',Sub s s'→K (.tup [.nilptr,.int .i64 3]) s') (hrange:vld n L (List.replicate L.length false)→¬ (0≤x∧x < n)→∀ s',Sub s s'→K (.tup [.nilptr,.int .i64 2]) s')
  (hK:vld n L (List.replicate L.length false)→0≤x→x < n→∀ f mb lv' s',Sub s s'→s f=none→s mb=none→f≠mb→s' f=some (false,.cells 76 (fibC n x lv' .nilslc mb))→s' mb=some (false,.map [] 0)→SlR 3 s' lv' (L.map rwR)→(∀ b o n c,lv'=.slc b o n c 3→L.map rwR≠[]→(b≠f∧b≠mb)∧s b=none)→K (.tup [.ptr f 0,.int .i64 0]) s') :
  wC TP XX 5 [.int .i64 n,lv,.int .i64 x] K s:=by
 refine qLV ?_
 simp only [qLb,hl.len,lMY,qAx,qAA]
 refine qAU (λc=>?_) (λc=>?_)
 ·have c':=oT c
  rw [c]
  simp only [qCW,qAV,qAI,qAA]
  exact hform (λh=>by have:=h.2.2.1;omega) _ (.refl s)
 have c':=oF c
 rw [c]
 simp only [nat?_mk,qAA]
 refine ⟨⟨Nat.le_refl _,by omega⟩,qAS λub s1 hub h1 u1=>?_⟩
 have sub1:=u1.sub hub
 have hu1:Sl s1 (.slc ub 0 L.length (some L.length) 1) ((List.replicate L.length false).map AV.bool):=by
  rw [qFE] at h1
  refine Sl.mk (l:=(List.replicate L.length false).map AV.bool) (t:=false) (e:=4) ?_ (by simp) (by simp)
  rw [h1,List.map_replicate]
 refine qRv (hl.sub sub1) hlm hu1 λdv s2 sub2 hno hyes=>?_
 have s02:=sub1.trans sub2
 by_cases q:vld n L (List.replicate L.length false)∧(0:Int)≤0∧0 < n
 rotate_left
 ·rw [hno q]
  simp only [qJq,qAi,Bool.false_bne,qAA,qCW,qAL,qAI]
  exact hform (λh=>q ⟨h,by omega,by have:=h.1;omega⟩) _ s02
 obtain ⟨hv,_,hn0⟩:=q
 obtain ⟨N,rfl⟩:∃ N:Nat,n=N:=⟨n.toNat,by omega⟩
 obtain ⟨d,db,_,_,rfl,_,_⟩:=hyes N 0 hv rfl (by omega) rfl
 simp only [qOy,qAi,Bool.false_bne,qAA,qCW,qAL,qAB,qAQ]
 by_cases c1:x < 0
 ·rw [decide_eq_true c1]
  simp only [qDf,qAV,qAI,qAA]
  exact hrange hv (λh=>by omega) _ s02
 rw [decide_eq_false c1]
 simp only [qAB,qA8,qAA,qDf,qAL]
 by_cases c2:(N:Int)≤x
 ·rw [decide_eq_true c2]
  simp only [qAI]
  exact hrange hv (λh=>by omega) _ s02
 rw [decide_eq_false c2]
 simp only [qAB]
 obtain ⟨r,rfl⟩:∃ r:Nat,x=r:=⟨x.toNat,by omega⟩
 have hN:=hv.2.1
 refine qPS (by omega) ?_
 have x0:qAN (.tup [.int .u32 (lbk r),.int .i64 0]) 0=some (.int .u32 (lbk r)):=rfl
 have x1:qAN (.tup [.int .u32 (lbk r),.int .i64 0]) 1=some (.int .i64 0):=rfl
 simp only [x0,x1,qAv,qAi,beq_self_eq_true,Bool.true_bne,Bool.not_true,qAB,qAA]
 refine qM5 (hl.sub s02) (by rw [lMY];omega) λlv' s3 sub3 hl3 fr3=>?_
 have s03:=s02.trans sub3
 intro mb hmb
 have sub4:Sub s3 (hset s3 mb (false,.map [] 0)):=qJb hmb
 have hm4:hset s3 mb (false,.map [] 0) mb=some (false,.map [] 0):=by simp [hset]
 generalize hset s3 mb (false,.map [] 0)=s4 at sub4 hm4
 have hone:lv'.one=true:=hl3.one
 refine qAW (a:=fibC N r lv' .nilslc mb) ?_ ?_
 ·show cond (Nat.beq lv'.cells.length 1&&Nat.ble (3+lv'.cells.length) 6) (qA2 (qAu [.int .i64 (N:Int),.int .i64 (r:Int),.int .u32 (lbk r),.nilslc,.nilslc,.nilmap] 3 lv'.cells) [(5,1,.map mb)]) none=_
  rw [qBk hone]
  rfl
 refine ⟨?_,qAS λf s5 hf h5 u5=>?_⟩
 ·show ((AV.int .i64 (N:Int)).one&&((AV.int .i64 (r:Int)).one&&((AV.int .u32 _).one&&(lv'.one&&(AV.nilslc.one&&((AV.map mb).one&&true))))))=true
  rw [hone];rfl
 have sub5:=u5.sub hf
 have hfm:f≠mb:=λe=>by rw [e,hm4] at hf;cases hf
 refine hK hv (by omega) (by omega) f mb lv' s5 (s03.trans (sub4.trans sub5)) (qAe (s03.trans sub4) hf) (qAe s03 hmb) hfm h5 (sub5 _ _ hm4) (hl3.sub (sub4.trans sub5)) λb o n c e hne=>?_
 have:=hl3.was b o n c e hne
 exact ⟨⟨λq=>this (qAe sub4 (by rw [q];exact hf)),λq=>this (by rw [q];exact hmb)⟩,qAe s02 (fr3 b o n c e hne)⟩
theorem qZ2 {n x:Int} (hl:SlR 3 s lv (L.map rwR)) (hlm:L.length≤9223372036854775807)
  (hform:¬ vld n L (List.replicate L.length false)→∀ s',Sub s s'→K (.tup [.nilptr,.int .i64 3]) s') (hrange:vld n L (List.replicate L.length false)→¬ (0≤x∧x < n)→∀ s',Sub s s'→K (.tup [.nilptr,.int .i64 2]) s')
  (hK:∀ (N y:Nat) r' s' f,n=N→x=y→y < N→vld (N:Int) L (List.replicate L.length false)→Tab r' f N y L (List.replicate L.length false) (λ_=>Zs)→Sub s s'→Sub r' s'→(∀ i,r' i≠none→s i=none)→K (.tup [.ptr f 0,.int .i64 0]) s') :
  wC TP XX 5 [.int .i64 n,lv,.int .i64 x] K s:=by
 refine qZG hl hlm hform hrange λhv h0 h1 f mb lv' s' sub hf hm hfm h2 h3 h4 h5=>?_
 obtain ⟨N,rfl⟩:∃ N:Nat,n=N:=⟨n.toNat,by omega⟩
 obtain ⟨y,rfl⟩:∃ y:Nat,x=y:=⟨x.toNat,by omega⟩
 obtain ⟨r2,hr2⟩:∃ r2:Hq,r2=λi=>if s i=none then s' i else none:=⟨_,rfl⟩
 have r2in:∀ {i},s i=none→r2 i=s' i:=fun {i} h=>by rw [hr2];exact if_pos h
 have r2s:Sub r2 s':=λi e hi=>by
  rw [hr2] at hi
  have hi:(if s i=none then s' i else none)=some e:=hi
  split at hi
  ·exact hi
  ·cases hi
 have hH:SlR 3 (grow (λ_=>none) s s' (λi=>i=f∨i=mb)) lv' (L.map rwR):=qJs h4 λb o n c e hne=>by
  obtain ⟨⟨a,b⟩,c⟩:=h5 b o n c e hne
  exact ⟨rfl,c,λq=>q.elim a b⟩
 have hHs:Sub (grow (λ_=>none) s s' (λi=>i=f∨i=mb)) r2:=λi e hi=>by
  have hs:s i=none:=by
   cases q:s i with
   | none=>rfl
   | some y=>rw [qDb rfl (by rw [q];simp)] at hi;cases hi
  rw [r2in hs]
  exact qE9 (λi e hi=>by cases hi) _ _ hi
 have ofn:ofP N (L.map toL) (List.replicate L.length false) y N=[]:=by rw [qNe,qRT];rfl
 refine hK N y r2 s' f rfl rfl (by omega) hv ⟨⟨_,mb,lv',.nilslc,[],[],λ_=>[],⟨hHs,qDg rfl (.inl rfl),qDg rfl (.inr rfl),by rw [r2in hf];exact h2,by rw [r2in hm];exact h3,⟨.nil,(λp hp=>by cases hp),(λi hi=>by obtain ⟨p,hp,_⟩:=hi;cases hp),(λp hp=>by cases hp),λ_=>qSb,λ_ b hb=>by rw [qXj b hb];omega,λ_ _=>rfl⟩,(λp hp=>by cases hp),hH⟩,⟨(λr hr=>by cases hr),.inl ⟨rfl,rfl⟩⟩,by rw [ofn];rfl,(λy hy=>by cases hy),(λn hn=>by rw [qRT] at hn;cases hn),λp hp=>by cases hp⟩,λn hn=>?_⟩ sub r2s λi hi=>?_
 ·rw [qQ9]
  exact ⟨λ_=>rfl,λh=>absurd rfl h,λa ha=>by cases ha⟩
 ·cases q:s i with
  | none=>rfl
  | some e=>
    rw [hr2] at hi
    exact absurd (if_neg (by rw [q];simp)) hi
end Go.AM.FB
namespace Go.AM.FB
open Go Go.Proofs
set_option maxRecDepth 100000
variable {r r' s t t' H:Hq} {lv ev wv v y:AV} {o N x:Nat} {U:List Bool} {L:List RLk} {Bf:Nat→List Int} {Mf:Nat→List Nat} {ps:List Rl} {R:List EnV}
def ptrs (ps:List Rl):List AV:=ps.map λp=>.ptr p.1 0
theorem qWn:(ptrs ps).length=ps.length:=by unfold ptrs;simp
theorem qXZ {p:Rl}:ptrs (ps ++ [p])=ptrs ps ++ [.ptr p.1 0]:=by unfold ptrs;simp
structure RN (s t:Hq) (o N x:Nat) (L:List RLk) (lv ev:AV) (R:List EnV) (Bf:Nat→List Int) (Mf:Nat→List Nat) (k:Nat):Prop where
 ex:∃ (H:Hq) (wv:AV) (ps:List Rl) (Bn:Nat→List Int) (Mn:Nat→List Nat),Rt t H o N x lv ev wv L ps Bn Mn∧SlR 2 H ev (R.map enR)∧(∀ y∈R,Sl H y.2.1 (iz y.2.2))∧ps.length=k∧Acc 81 (offV wv t) t wv (ptrs ps)∧(∀ b o n c e,wv=.slc b o n c e→H b=none∧s b=none)∧
  Sub s t∧(∀ i,H i≠none∨ro o ps i→s i=none)∧∀ n,n < k→Bn n=Bf n∧Mn n=Mf n
theorem qYb {k op rb b22:Nat} {mv:AV} {T:Hq} {J:Hq→Prop} (z:RN s t o N x L lv ev R Bf Mf k) (hk:k≤1000) (kT:Sub t T) (ho:t op=none) (hrb:t rb=none) (h1:T op=some (false,.cells 115 [mv,.slc rb 0 64 none 1])) (h2:T rb=some (false,.cells 3 (WH.ints (WH.outB (Bf k)))))
  (h3:Sl T mv (iz (Mf k))) (h3f:∀ b o n c,mv=.slc b o n c 1→iz (Mf k)≠[]→t b=none∧b≠op∧b≠rb) (h5:(Bf k).length=64) (h6:∀ b∈Bf k,0≤b∧b≤128) (h7:WH.Asc (nz (Mf k))) (h8:(Mf k).length≤64) (hlit:T b22=some (false,.cells 81 [.ptr op 0])) (hlf:t b22=none)
  (hJ:∀ t',RN s t' o N x L lv ev R Bf Mf (k+1)→J t') :
  ∃ wv:AV,t o=some (false,.cells 80 (tabC (N:Int) (x:Int) lv ev wv))∧appK 81 1 wv (.slc b22 0 1 (some 1) 1) (λv_24 s_25=>
  oK (qAH (.ptr o 0)) λv_26=>
  oK (qAF 4 v_26) λv_27=>
  oK (wr1 s_25 v_27 v_24) λs_28=>J s_28) T:=by
 obtain ⟨H,wv,ps,Bn,Mn,tb,hev,hrow,hps,acc,hwb,hst,hfr,hBM⟩:=z.ex
 refine ⟨wv,tb.co,?_⟩
 have acc2:=Acc.offv (acc.sub kT)
 have cne:∀ {i e},t i=some e→(∀ cs,e≠(false,.cells 81 cs))→∀ b o n c k,wv=.slc b o n c k→i≠b:=fun {i e} hi he b o n c k q q2=>by
  rcases acc with ⟨r,_⟩ | ⟨j,_,r2,r3⟩
  ·rw [r] at q;cases q
  ·rw [r2] at q;cases q;rw [q2,r3] at hi;cases hi;exact he _ rfl
 have cnone:∀ {i},t i=none→∀ b o n c k,wv=.slc b o n c k→i≠b:=fun {i} hi b o n c k q q2=>by
  rcases acc with ⟨r,_⟩ | ⟨j,_,r2,r3⟩
  ·rw [r] at q;cases q
  ·rw [r2] at q;cases q;rw [q2,r3] at hi;cases hi
 have cown:∀ {i},ro o ps i→∀ b o n c k,wv=.slc b o n c k→i≠b:=fun {i} hi=>by
  rcases hi with rfl | hi
  ·exact cne tb.co (λcs q=>by cases q)
  ·rcases tb.wc hi with ⟨cs,q⟩ | ⟨cs,q⟩
   ·exact cne q (λcs q=>by cases q)
   ·exact cne q (λcs q=>by cases q)
 have hH0:∀ {i},t i=none→H i=none:=fun {i} hi=>by
  cases q:H i with
  | none=>rfl
  | some e=>rw [tb.hs _ _ q] at hi;cases hi
 refine acc2.app2 qPj (y:=.slc b22 0 1 (some 1) 1) (m:=[.ptr op 0]) (Sl.mk hlit rfl (by simp)) (by simp) (by rw [qWn];simp;omega) λv' t4 a4 k4=>?_
 have t4of:∀ {i e},T i=some e→(∀ b o n c k,wv=.slc b o n c k→i≠b)→t4 i=some e:=fun {i e} hi hne=>k4 _ _ (by rw [qFb hne];exact hi)
 have o4:t4 o=some (false,.cells 80 (tabC (N:Int) (x:Int) lv ev wv)):=t4of (kT _ _ tb.co) (cown (.inl rfl))
 have cb:∃ c,v'=.slc c 0 (ptrs ps ++ [AV.ptr op 0]).length none 1∧offV wv T c=none∧t4 c=some (false,.cells 81 (ptrs ps ++ [AV.ptr op 0])):=by
  rcases a4 with ⟨_,q⟩ | ⟨c,q1,q2,q3⟩
  ·simp at q
  ·exact ⟨c,q2,q1,q3⟩
 obtain ⟨c,hv',hc0,hc4⟩:=cb
 simp only [qAJ,qAE,zA,qAA]
 refine qAm o4 (show 4 < (tabC (N:Int) (x:Int) lv ev wv).length from by show 4 < 5;omega) (by rw [hv'];rfl) λt5 h5' u5=>?_
 have h5':t5 o=some (false,.cells 80 (tabC (N:Int) (x:Int) lv ev v')):=h5'
 have hco:c≠o:=λe=>by rw [e,o4] at hc4;cases hc4
 have c5:t5 c=some (false,.cells 81 (ptrs ps ++ [AV.ptr op 0])):=by rw [u5 _ hco];exact hc4
 have oo:∀ {i},t i=none→i≠o:=fun {i} hi e=>by rw [e,tb.co] at hi;cases hi
 have t5of:∀ {i e},T i=some e→(∀ b o n c k,wv=.slc b o n c k→i≠b)→i≠o→t5 i=some e:=fun {i e} hi h1 h2=>by rw [u5 _ h2];exact t4of hi h1
 obtain ⟨H1,hH1⟩:∃ H1:Hq,H1=grow H t t5 (λi=>i=op∨i=rb∨i=c∨i=b22):=⟨_,rfl⟩
 have HT5:Sub H t5:=λi e hi=>t5of (kT _ _ (tb.hs _ _ hi)) (λb o n c k q q2=>by rw [q2,(hwb _ _ _ _ _ q).1] at hi;cases hi) λe=>by rw [e,tb.ho] at hi;cases hi
 have kH1:Sub H H1:=by rw [hH1];exact qC6
 have H1s:Sub H1 t5:=by rw [hH1];exact qE9 HT5
 have hcT:c≠op∧c≠rb:=by
  constructor
  ·intro e
   rw [e,qFb (cnone ho),h1] at hc0;cases hc0
  ·intro e
   rw [e,qFb (cnone hrb),h2] at hc0;cases hc0
 have hcH:H c=none:=by
  cases q:H c with
  | none=>rfl
  | some e=>
    have:offV wv T c=some e:=by rw [qFb λb o n c' k q2 q3=>by rw [q3,(hwb _ _ _ _ _ q2).1] at q;cases q];exact kT _ _ (tb.hs _ _ q)
    rw [this] at hc0;cases hc0
 have hcs:s c=none:=by
  cases q:s c with
  | none=>rfl
  | some e=>
    exfalso
    have hb:∀ b o n c' k,wv=.slc b o n c' k→c≠b:=λb o n c' k q2 q3=>by rw [q3,(hwb _ _ _ _ _ q2).2] at q;cases q
    have:offV wv T c=some e:=by rw [qFb hb];exact kT _ _ (hst _ _ q)
    rw [this] at hc0;cases hc0
 have H1none:∀ {i},H i=none→t i≠none∨(i=op∨i=rb∨i=c∨i=b22)→H1 i=none:=fun {i} h0 h=>by
  rw [hH1]
  rcases h with h | h
  ·exact qDb h0 h
  ·exact qDg h0 h
 have mvT5:Sl t5 mv (iz (Mf k)):=by
  have h4:Sl t4 mv (iz (Mf k)):=h3.keep (fp:=λi=>∃ o n c k,wv=.slc i o n c k) (λi e hi hn=>t4of hi λb o n c k q q2=>hn ⟨o,n,c,k,by rw [q2];exact q⟩) λb o' n c' e hne ⟨o2,n2,c2,k2,q⟩=>cnone (h3f b o' n c' e hne).1 _ _ _ _ _ q rfl
  exact h4.keep (fp:=λi=>i=o) (u5.keep rfl) λb o' n c' e hne q=>oo (h3f b o' n c' e hne).1 q
 have mvH:Sl H1 mv (iz (Mf k)):=by
  rw [hH1]
  refine qJQ mvT5 λb o' n c' e hne=>?_
  obtain ⟨q1,q2,q3⟩:=h3f b o' n c' e hne
  refine ⟨hH0 q1,q1,?_⟩
  have live:T b≠none:=by
   rcases h3 with ⟨q,_⟩ | ⟨b',o'',c'',g1,_,g3⟩
   ·rw [q] at e;cases e
   ·rw [g1] at e;cases e
    obtain ⟨tt,el,cs,g4,_⟩:=g3 hne
    rw [g4];simp
  rintro (q | q | q | q)
  ·exact q2 q
  ·exact q3 q
  ·apply live
   rw [q]
   rw [← qFb (v:=wv) (t:=T) (i:=c) (by rw [← q];exact cnone q1)]
   exact hc0
  ·rcases h3 with ⟨g,_⟩ | ⟨b',o'',c'',g1,_,g3⟩
   ·rw [g] at e;cases e
   ·rw [g1] at e;cases e
    obtain ⟨tt,el,cs,g4,g5⟩:=g3 hne
    rw [q,hlit] at g4
    cases g4
    have hl0:0 < (iz (Mf k)).length:=List.length_pos_iff.2 hne
    have:=g5.2 0 hl0
    rw [Nat.add_zero] at this
    have e0:∃ a:Int,(iz (Mf k))[0]?=some (.int .i64 a):=by
     cases hM:Mf k with
     | nil=>rw [hM] at hne;exact absurd rfl hne
     | cons a l=>exact ⟨(a:Int),rfl⟩
    obtain ⟨a,e0⟩:=e0
    rw [e0] at this
    match o',this with
    | 0,this=>cases this
    | o'+1,this=>simp at this
 have z1:Rt t H o N x lv ev wv L ps Bn Mn:=tb
 have base:Rt (add t H1) H1 o N x lv ev wv L ps Bn Mn:=by
  refine (tb.sub (qFk (t:=H1))).more kH1 (λi e hi=>?_) λi hi=>H1none (tb.hn hi) (.inl (tb.live hi))
  cases q:t i with
  | none=>rw [qAX q];exact hi
  | some e'=>
    rw [qAZ q]
    by_cases c1:H i=none
    ·rw [H1none c1 (.inl (by rw [q];simp))] at hi;cases hi
    ·cases q3:H i with
     | none=>exact absurd q3 c1
     | some e3=>
       rw [kH1 _ _ q3] at hi
       rw [tb.hs _ _ q3] at q
       rw [← q];exact hi
 have addn:∀ {i},t i=none→(i=op∨i=rb∨i=c∨i=b22)→add t H1 i=none:=fun {i} h0 h=>by rw [qAX h0];exact H1none (hH0 h0) (.inr h)
 have op5:t5 op=some (false,.cells 115 [mv,.slc rb 0 64 none 1]):=t5of h1 (cnone ho) (oo ho)
 have rb5:t5 rb=some (false,.cells 3 (WH.ints (WH.outB (Bf k)))):=t5of h2 (cnone hrb) (oo hrb)
 have tb5:Rt t5 H1 o N x lv ev v' L ps Bn Mn:=by
  have zz:Rt t4 H o N x lv ev wv L ps Bn Mn:=(tb.sub kT).keep (fp:=λi=>∃ o n c k,wv=.slc i o n c k) (λi e hi hn=>t4of hi λb o n c k q q2=>hn ⟨o,n,c,k,by rw [q2];exact q⟩) (λi hi ⟨o',n,c',k',q⟩=>cown hi _ _ _ _ _ q rfl) λi e hi=>t4of (kT _ _ (tb.hs _ _ hi)) λb o n c k q q2=>by rw [q2,(hwb _ _ _ _ _ q).1] at hi;cases hi
  exact (zz.set u5 h5').more kH1 H1s λi hi=>H1none (tb.hn hi) (.inl (tb.live hi))
 have fin:Rt t5 H1 o N x lv ev v' L (ps ++ [((op,rb,mv):Rl)]) (updF Bn ps.length (Bf k)) (updF Mn ps.length (Mf k)):=by
  have b2:Rt (λi=>if i=op∨i=rb then none else t5 i) H1 o N x lv ev v' L ps Bn Mn:=by
   refine tb5.keep (fp:=λi=>i=op∨i=rb) (λi e hi hn=>by show (if i=op∨i=rb then none else t5 i)=_;rw [if_neg hn];exact hi) (λi hi hq=>?_) λi e hi=>?_
   ·have:=tb.live hi
    rcases hq with hq | hq
    ·rw [hq] at this;exact this ho
    ·rw [hq] at this;exact this hrb
   ·show (if i=op∨i=rb then none else t5 i)=_
    rw [if_neg]
    ·exact H1s _ _ hi
    ·rintro (q | q)
     ·rw [q,H1none (hH0 ho) (.inr (.inl rfl))] at hi;cases hi
     ·rw [q,H1none (hH0 hrb) (.inr (.inr (.inl rfl)))] at hi;cases hi
  exact b2.addG (by show (if op=op∨op=rb then none else t5 op)=_;rw [if_pos (.inl rfl)]) (by show (if rb=op∨rb=rb then none else t5 rb)=_;rw [if_pos (.inr rfl)]) (λi e hi=>by
   have hi:(if i=op∨i=rb then none else t5 i)=some e:=hi
   split at hi
   ·cases hi
   ·exact hi) op5 rb5 mvH h5 h6 h7 h8
 refine hJ t5 ⟨H1,v',ps ++ [(op,rb,mv)],_,_,fin,hev.sub kH1,λy hy=>(hrow y hy).sub kH1,by simp [hps],?_,λb o' n c' e q=>?_,λi e hi=>?_,λi hi=>?_,λn hn=>?_⟩
 ·rw [qXZ]
  exact .inr ⟨c,by rw [hv'];simp [offV,hdel],by rw [hv'],c5⟩
 ·rw [hv'] at q
  cases q
  exact ⟨H1none hcH (.inr (.inr (.inr (.inl rfl)))),hcs⟩
 ·exact t5of (kT _ _ (hst _ _ hi)) (λb o n c k q q2=>by rw [q2,(hwb _ _ _ _ _ q).2] at hi;cases hi) λe=>by
   have:=hfr o (.inr (.inl rfl))
   rw [← e,hi] at this;cases this
 ·rcases hi with hi | hi | ⟨p,hp,hi⟩
  ·by_cases c1:H i=none
   ·cases q:s i with
    | none=>rfl
    | some e=>exact absurd (H1none c1 (.inl (by rw [hst _ _ q];simp))) hi
   ·exact hfr i (.inl c1)
  ·exact hfr i (.inr (.inl hi))
  ·rcases mP hp with hp | hp
   ·exact hfr i (.inr (.inr ⟨p,hp,hi⟩))
   ·rw [List.mem_singleton] at hp
    subst hp
    rcases hi with rfl | rfl
    ·exact qAe hst ho
    ·exact qAe hst hrb
 ·rw [hps]
  by_cases e:n=k
  ·subst e
   exact ⟨if_pos rfl,if_pos rfl⟩
  ·obtain ⟨q1,q2⟩:=hBM n (by omega)
   exact ⟨(if_neg e).trans q1,(if_neg e).trans q2⟩
theorem qVt (z:RN s t o N x L lv ev R Bf Mf N) (hR:R.map kyE=ofP N (L.map toL) U x N) (hM:∀ n,n < N→Mf n=lnk N (L.map toL) U x n) (hB:∀ n,¬ n < N→(Bf n).length=64∧∀ b∈Bf n,0≤b∧b≤128):∃ r',RTab r' o N x L U Bf∧Sub s t∧Sub r' t∧∀ i,r' i≠none→s i=none:=by
 obtain ⟨H,wv,ps,Bn,Mn,tb,hev,hrow,hps,acc,hwb,hst,hfr,hBM⟩:=z.ex
 obtain ⟨r2,hr2⟩:∃ r2:Hq,r2=λi=>if s i=none then t i else none:=⟨_,rfl⟩
 have r2in:∀ {i},s i=none→r2 i=t i:=fun {i} h=>by rw [hr2];exact if_pos h
 have r2s:Sub r2 t:=λi e hi=>by
  rw [hr2] at hi
  have hi:(if s i=none then t i else none)=some e:=hi
  split at hi
  ·exact hi
  ·cases hi
 have tbB:Rt t H o N x lv ev wv L ps Bf Mn:=⟨tb.hs,tb.ho,tb.co,tb.lk,⟨tb.rw_.ow,tb.rw_.hn,λi p hp=>by
  have hi:i < N:=by have:=(gS hp).1;omega
  rw [← (hBM i hi).1];exact tb.rw_.at_ i p hp,λn=>by
  by_cases c:n < N
  ·rw [← (hBM n c).1];exact tb.rw_.ln n
  ·exact (hB n c).1,λn=>by
  by_cases c:n < N
  ·rw [← (hBM n c).1];exact tb.rw_.rg n
  ·exact (hB n c).2⟩⟩
 have tb4:Rt r2 H o N x lv ev wv L ps Bf Mn:=tbB.keep (fp:=λi=>s i≠none) (λi e hi hn=>by rw [r2in (Classical.not_not.1 hn)];exact hi) (λi hi hq=>hq (hfr i (.inr hi))) λi e hi=>by rw [r2in (hfr i (.inl (by rw [hi];simp)))];exact tb.hs _ _ hi
 have fresh:∀ i,r2 i≠none→s i=none:=λi hi=>by
  cases c:s i with
  | none=>rfl
  | some e=>
    rw [hr2] at hi
    exact absurd (if_neg (by rw [c];simp)) hi
 have hMl:∀ n,n < N→Mn n=lnk N (L.map toL) U x n:=λn hn=>(hBM n hn).2.trans (hM n hn)
 rcases acc with ⟨e1,e2⟩ | ⟨c,c1,e1,e2⟩
 ·refine ⟨r2,⟨H,lv,ev,wv,R,ps,Mn,tb4,hev,hR,hrow,hps,.inl ⟨e1,e2⟩,hMl⟩,hst,r2s,fresh⟩
 ·obtain ⟨hcH,hcs⟩:=hwb _ _ _ _ _ e1
  have cown:¬ ro o ps c:=λhi=>by
   rcases hi with hi | hi
   ·rw [hi,tb.co] at e2;cases e2
   ·rcases tb.wc hi with ⟨cs,q⟩ | ⟨cs,q⟩ <;> (rw [e2] at q;cases q)
  have k1:Sub H (hset H c (false,.cells 81 (ptrs ps))):=qJb hcH
  refine ⟨r2,⟨hset H c (false,.cells 81 (ptrs ps)),lv,ev,wv,R,ps,Mn,tb4.more k1 (λi e hi=>?_) (λi hi=>?_),hev.sub k1,hR,λy hy=>(hrow y hy).sub k1,hps,?_,hMl⟩,hst,r2s,fresh⟩
  ·by_cases h:i=c
   ·subst h
    rw [qCN] at hi
    cases hi
    rw [r2in hcs];exact e2
   ·rw [qAt h] at hi
    exact tb4.hs _ _ hi
  ·have h:i≠c:=λe=>cown (e ▸ hi)
   rw [qAt h]
   exact tb4.hn hi
  ·rw [e1]
   exact Sl.mk (qCN (s:=H)) rfl (by simp)
end Go.AM.FB
namespace Go.AM.WH
open Go Go.Proofs
theorem rCopyR_in {s:Hq} {o rb:Nat} {vM:AV} {B M:List Int} {K:AV→Hq→Prop} (z:RRd s o rb vM B M) (hlM:M.length≤B.length) (hK:∀ o' rb' vM' s',s o'=none→s rb'=none→Sub s s'→RAt s' o' rb' vM' B M→(M≠[]→∃ c n k,s c=none∧c≠o'∧c≠rb'∧vM'=.slc c 0 n k 1)→K (.ptr o' 0) s'):wC TP XX 40 [.ptr o 0] K s:=by
 have hp:=z.pos
 obtain ⟨t1,zob⟩:=z.ob
 obtain ⟨t2,zrs⟩:=z.rs
 have fr:∀ {b:Nat} {t:Hq},Sub s t→t b=none→s b=none:=fun {b t} h hb=>by
  cases e:s b with
  | none=>rfl
  | some x=>rw [h b x e] at hb;cases hb
 refine qFU ?_
 refine qAW (a:=[]) rfl ⟨rfl,qAS λb1 s2 hb1 h2 u2 _=>?_⟩
 have T2:Sub s (add s s2):=qBn
 have ho2:cutH [(s,add s s2)] (add s s2) o=some (t1,.cells 115 [vM,.slc rb 0 B.length none 1]):=qJY (T2 _ _ zob) λp hp=>by
  rw [List.mem_singleton] at hp;subst hp
  simp only [zob];exact Option.some_ne_none _
 simp only [qAJ,qAE,qAM ho2,zA,g0Y,qAA]
 refine qIJ (s:=frz (add s s2)) (Sl.frz (z.ms.sub T2)) (by simp;omega) λv7 s7 sub7 g1 g2 _=>?_
 refine qAW (a:=[]) rfl ⟨rfl,qAS λb9 s10 hb9 h10 u10 _=>?_⟩
 have T3:Sub s (add (add s s2) s7):=T2.trans qBn
 have T4:Sub s (add (add (add s s2) s7) s10):=T3.trans qBn
 have ho4:cutH [(s,add s s2),(add s s2,add (add s s2) s7),(add (add s s2) s7,add (add (add s s2) s7) s10)] (add (add (add s s2) s7) s10) o=some (t1,.cells 115 [vM,.slc rb 0 B.length none 1]):=qJY (T4 _ _ zob) λp hp=>by
  simp only [List.mem_cons,List.not_mem_nil,or_false] at hp
  rcases hp with rfl | rfl | rfl
  ·simp only [zob];exact Option.some_ne_none _
  ·simp only [T2 _ _ zob];exact Option.some_ne_none _
  ·simp only [T3 _ _ zob];exact Option.some_ne_none _
 simp only [qAM ho4,g0Y,g1Y,qAA]
 have slB:Sli s (.slc rb 0 B.length none 1) (outB B):=Sl.mk zrs (by simp) (by simp)
 refine qIJ (s:=add (add (add s s2) s7) s10) (slB.sub T4) (by simp;omega) λv15 s15 sub15 g3 g4=>?_
 have hne:(outB B).map (AV.int .i64)≠[]:=λe=>by
  have:((outB B).map (AV.int .i64)).length=0:=by rw [e];rfl
  simp at this
  rw [this] at hp
  simp at hp
 obtain ⟨c,hc0,rfl,hc⟩:=g4 hne
 have sub:Sub s s15:=T4.trans sub15
 have eM:Sli s15 v7 M∧(M≠[]→∃ d n k,s d=none∧s15 d≠none∧d≠c∧v7=.slc d 0 n k 1):=by
  by_cases hm:M.map (AV.int .i64)=[]
  ·rw [g1 hm]
   refine ⟨?_,λh=>absurd (by simpa using hm) h⟩
   unfold Sli;rw [hm]
   exact .inr ⟨b1,0,some 0,rfl,by simp,λh=>absurd rfl h⟩
  ·obtain ⟨d,hd0,rfl,hd⟩:=g2 hm
   have hd0:=qBI.1 hd0
   have hd3:add (add s s2) s7 d=some (false,.cells 3 (M.map (AV.int .i64))):=by rw [qAX hd0];exact hd
   refine ⟨Sl.mk (sub15 _ _ (qAZ hd3)) rfl (by simp),λ_=>⟨d,_,_,fr T2 hd0,by rw [sub15 _ _ (qAZ hd3)];simp,λe=>(by rw [← e,qAZ hd3] at hc0;cases hc0),rfl⟩⟩
 have o7:=eM.1.one
 refine qAW (qYx o7 rfl) ⟨by simp [o7],qAS λo' s18 ho' h18 u18=>?_⟩
 have hs:Sub s s18:=sub.trans (u18.sub ho')
 refine hK o' c v7 s18 (fr sub ho') (fr T4 hc0) hs ⟨by simpa using h18,u18.at hc ho',eM.1.sub (u18.sub ho'),hp,z.asc,hlM⟩ λhm=>by
  obtain ⟨d,n,k,q1,q2,q3,q4⟩:=eM.2 hm
  exact ⟨d,n,k,q1,λe=>q2 (by rw [e];exact ho'),q3,q4⟩
end Go.AM.WH
namespace Go.AM.FB
open Go Go.Proofs
set_option maxRecDepth 100000
variable {K:AV→Hq→Prop} {r r' s s' t t':Hq} {lv lv' ev ev' wv wv' v y:AV} {o N x:Nat} {U:List Bool} {d:Nat→Int} {L:List RLk} {Bf:Nat→List Int} {Mf:Nat→List Nat} {R:List EnV}
theorem zAB1 {z0 z1 z2 z3 z4 a b c:AV} (h1:a.one=true) (h2:b.one=true) (h3:c.one=true):qA2 [z0,z1,z2,z3,z4] [(0,1,a),(1,1,b),(2,1,c)]=some [a,b,c,z3,z4]:=by
 simp only [qA2,qBk h1,qBk h2,qBk h3]
 rfl
theorem zAAu {z0 z1 z2 z3 z4 a b c e:AV} (h1:a.one=true) (h2:b.one=true) (h3:c.one=true) (h4:e.one=true):qA2 [z0,z1,z2,z3,z4] [(0,1,a),(1,1,b),(2,1,c),(3,1,e)]=some [a,b,c,e,z4]:=by
 simp only [qA2,qBk h1,qBk h2,qBk h3,qBk h4]
 rfl
theorem qZm {N x:Int} {lv ev wv:AV} (h1:lv.one=true) (h2:ev.one=true) (h3:wv.one=true):qAb (tabC N x lv ev wv)=true:=by
 show ((AV.int .i64 N).one&&((AV.int .i64 x).one&&(lv.one&&(ev.one&&(wv.one&&true)))))=true
 rw [h1,h2,h3];rfl
theorem qS8 {lv' ev':AV} {s12:Hq} (hst:Sub s s12) (ho:s o=none) (h:s12 o=some (false,.cells 80 (tabC (N:Int) (x:Int) lv' ev' .nilslc))) (hl:SlR 3 s12 lv' (L.map rwR)) (hlf:∀ b o' n c,lv'=.slc b o' n c 3→L.map rwR≠[]→s b=none∧b≠o)
  (he:SlR 2 s12 ev' (R.map enR)) (hef:∀ b o' n c,ev'=.slc b o' n c 2→R.map enR≠[]→s b=none∧b≠o) (hr:∀ y∈R,Sl s12 y.2.1 (iz y.2.2)) (hrf:∀ y∈R,∀ b o' n c,y.2.1=.slc b o' n c 1→iz y.2.2≠[]→s b=none∧b≠o):RN s s12 o N x L lv' ev' R Bf Mf 0:=by
 have e0:∀ {b},(λ_:Nat=>(none:Option (Bool × Blk))) b=none:=rfl
 refine ⟨grow (λ_=>none) s s12 (λi=>i=o),.nilslc,[],λ_=>Zs,λ_=>[],⟨qE9 (λi e hi=>by cases hi),qDg rfl rfl,h,qJs hl λb o' n c e hne=>⟨rfl,hlf b o' n c e hne⟩,⟨(λi j p q h=>by simp at h),(λi hi=>by obtain ⟨p,hp,_⟩:=hi;cases hp),(λi p hp=>by simp at hp),λ_=>qSb,λ_ b hb=>by rw [qXj b hb];omega⟩⟩,qJs he λb o' n c e hne=>⟨rfl,hef b o' n c e hne⟩,λy hy=>qJQ (hr y hy) λb o' n c e hne=>⟨rfl,hrf y hy b o' n c e hne⟩,rfl,.inl ⟨rfl,rfl⟩,(λb o' n c e q=>by cases q),hst,λi hi=>?_,λn hn=>by omega⟩
 rcases hi with hi | hi | ⟨p,hp,_⟩
 ·cases q:s i with
  | none=>rfl
  | some e=>exact absurd (qDb rfl (by rw [q];simp)) hi
 ·rw [hi];exact ho
 ·cases hp
theorem qOs {n x:Int} (hl:SlR 3 s lv (L.map rwR)) (hlm:L.length≤9223372036854775807)
  (hform:¬ vld n L (List.replicate L.length false)→∀ s',Sub s s'→K (.tup [.nilptr,.int .i64 3]) s') (hrange:vld n L (List.replicate L.length false)→¬ (0≤x∧x < n)→∀ s',Sub s s'→K (.tup [.nilptr,.int .i64 2]) s')
  (hK:vld n L (List.replicate L.length false)→∀ (N y:Nat) r' s' o,n=N→x=y→y < N→RTab r' o N y L (List.replicate L.length false) (λ_=>Zs)→Sub s s'→Sub r' s'→(∀ i,r' i≠none→s i=none)→K (.tup [.ptr o 0,.int .i64 0]) s') :
  wC TP XX 6 [.int .i64 n,lv,.int .i64 x] K s:=by
 refine qIO (qNM hl hlm λs1 e sub1 he=>?_)
 by_cases hv:vld n L (List.replicate L.length false)
 rotate_left
 ·have:e≠0:=λq=>hv (by
   obtain ⟨a,b,c,d⟩:=he.1 q
   exact ⟨a,b,c,by simp,d⟩)
  simp only [qAv,beq_eq_false_iff_ne.2 this,qAi,Bool.true_bne,Bool.not_false,qAI,qAA]
  exact hform hv s1 sub1
 have e0:e=0:=he.2 ⟨hv.1,hv.2.1,hv.2.2.1,hv.2.2.2.2⟩
 subst e0
 simp only [qAv,beq_self_eq_true,qAi,Bool.true_bne,Bool.not_true,qAB,qAQ,qAA]
 by_cases c1:x < 0
 ·rw [decide_eq_true c1]
  simp only [qAI,qCF,qAV,qAA]
  exact hrange hv (λh=>by omega) s1 sub1
 rw [decide_eq_false c1]
 simp only [qAB,qA8,qAA,qCF,qAL]
 by_cases c2:n≤x
 ·rw [decide_eq_true c2]
  simp only [qAI]
  exact hrange hv (λh=>by omega) s1 sub1
 rw [decide_eq_false c2]
 simp only [qAB]
 obtain ⟨N,rfl⟩:∃ N:Nat,n=N:=⟨n.toNat,by have:=hv.1;omega⟩
 obtain ⟨y,rfl⟩:∃ y:Nat,x=y:=⟨x.toNat,by omega⟩
 have hN32:=hv.2.1
 refine qAW (a:=[]) rfl ⟨rfl,qAS λb6 s2 hb6 h6 u6=>?_⟩
 have sub2:=sub1.trans (u6.sub hb6)
 refine qMt (hl.sub sub2) (by rw [lMY];have:=hv.2.2.1;omega) λlv' s3 sub3 hl3 fr3=>?_
 have s03:=sub2.trans sub3
 refine qAW (zAB1 rfl rfl hl3.one) ⟨by simp [qAb,hl3.one],qAS λo s12 ho h12 u12=>?_⟩
 have h12:s12 o=some (false,.cells 80 (tabC (N:Int) (y:Int) lv' .nilslc .nilslc)):=h12
 have sub12:=s03.trans (u12.sub ho)
 have hos:s o=none:=qAe s03 ho
 have start:RN s s12 o N y L lv' .nilslc [] (λ_=>Zs) (λ_=>[]) 0:=qS8 sub12 hos h12 (hl3.sub (u12.sub ho)) (λb o' n c e hne=>⟨qAe sub2 (fr3 b o' n c e hne),λq=>by
   have:=hl3.was b o' n c e hne
   rw [q] at this;exact this ho⟩) ⟨(λr hr=>by cases hr),.inl ⟨rfl,rfl⟩⟩ (λb o' n c e hne=>absurd rfl hne) (λy hy=>by cases hy) (λy hy=>by cases hy)
 refine ⟨λys t m=>∃ k:Nat,ys=[.int .i64 k]∧k≤N∧m=N - k∧RN s t o N y L lv' .nilslc [] (λ_=>Zs) (λ_=>[]) k,⟨_,0,rfl,by omega,rfl,start⟩,?_⟩
 rintro g t m ⟨k,hy,hk,rfl,z⟩
 simp only [cI,and_true] at hy
 rw [hy]
 simp only [qEl,qAQ,qAA]
 refine qAU (λhlt=>?_) (λhge=>?_)
 ·have hlt:k < N:=by have:=oT hlt;omega
  obtain ⟨_,wv,_,_,_,tb0,_⟩:=z.ex
  refine WH.rNew_in (n:=64) (by omega) (by omega) λop rb s15 hop hrb sub15 ra=>?_
  have c4:(tabC (N:Int) (y:Int) lv' .nilslc wv)[4]?=some wv:=rfl
  have x0:qAN (.tup [.ptr op 0,.int .i64 0]) 0=some (.ptr op 0):=rfl
  have x1:qAN (.tup [.ptr op 0,.int .i64 0]) 1=some (.int .i64 0):=rfl
  simp only [x0,x1,qAJ,qAE,zA,qAM (sub15 _ _ tb0.co),c4,qAA]
  refine qFG (elem:=81) (z:=.nilptr) (v:=.ptr op 0) rfl rfl λb22 s23 hb22 h23 u23=>?_
  have sub23:=sub15.trans (u23.sub hb22)
  obtain ⟨wv',hw',happ⟩:=qYb (J:=λt'=>oK (qAG .add (.int .i64 (k:Int)) (.int .i64 1)) λv_29=>∃ m',m' < N - k∧∃ k:Nat,[v_29]=[.int .i64 (k:Int)]∧k≤N∧m'=N - k∧RN s t' o N y L lv' .nilslc [] (λ_=>Zs) (λ_=>[]) k) z (by omega) sub23 hop hrb (mv:=.nilslc) (by
   have:=u23.sub hb22 _ _ ra.ob
   simpa using this) (by
   have:=u23.sub hb22 _ _ ra.rs
   exact this) (.inl ⟨rfl,rfl⟩) (λb o' n c e=>by cases e) qSb (λb hb=>by rw [qXj b hb];omega) ⟨.nil,λz hz=>by cases hz⟩ (by simp) h23 (qAe sub15 hb22) λt' z'=>by
   simp only [qAT,qAA]
   rw [qAf (by omega) (by omega)]
   exact ⟨_,by omega,k+1,rfl,by omega,rfl,z'⟩
  have:wv'=wv:=by
   rw [tb0.co] at hw'
   injection hw' with e
   injection e with _ e
   injection e with _ e
   unfold tabC at e
   simp only [cI,and_true] at e
   exact e.2.2.2.2.symm
  subst this
  simp only [qAJ,qAE,zA,qAA] at happ
  exact happ
 ·have hge:k=N:=by have:=oF hge;omega
  subst hge
  have ofn:ofP k (L.map toL) (List.replicate L.length false) y k=[]:=by rw [qNe,qRT];rfl
  obtain ⟨r',h1,h2,h3,h4⟩:=qVt z (U:=List.replicate L.length false) (by rw [ofn];rfl) (λn _=>by rw [qQ9]) (λn _=>⟨qSb,λb hb=>by rw [qXj b hb];omega⟩)
  exact hK hv k y r' t o rfl rfl (by omega) h1 h2 h3 h4
end Go.AM.FB
namespace Go.AM.FB
open Go Go.Proofs
set_option maxRecDepth 100000
variable {K:AV→Hq→Prop} {r s s' t t':Hq} {lv ev wv wv' v y w:AV} {o N x:Nat} {R R':List EnV}
theorem qNE (e1:SlR 2 s v (R.map enR)) (hR:∀ x∈R,Sl s x.2.1 (iz x.2.2)) (e2:SlR 2 s w (R'.map enR)) (hR':∀ x∈R',Sl s x.2.1 (iz x.2.2)) (he:R.map kyE=R'.map kyE) (hlen:R.length≤1000) (hlk:∀ x∈R,x.2.2.length≤1000) (hK:K (.bool true) s):wC TP XX 20 [v,w] K s:=by
 have ll:R.length=R'.length:=by have:=congrArg List.length he;simpa using this
 refine qGU ?_
 simp only [qEJ,e1.len,e2.len,lMY,ll,qAv,qAi,Bool.true_bne,beq_self_eq_true,Bool.not_true,qAB,qAA]
 refine ⟨λys t m=>∃ i:Nat,ys=[.int .i64 i]∧t=s∧i≤R.length∧m=R.length - i,⟨_,0,rfl,rfl,by omega,rfl⟩,?_⟩
 rintro f t m ⟨i,hy,rfl,hi,rfl⟩
 simp only [cI,and_true] at hy
 rw [hy]
 simp only [qDT,e1.len,lMY,qAQ,qAA]
 refine qAU (λhlt=>?_) (λhge=>hK)
 have hlt:i < R.length:=by have:=oT hlt;omega
 have hlt':i < R'.length:=by omega
 have hx:R[i]?=some R[i]:=gE hlt
 have hx':R'[i]?=some R'[i]:=gE hlt'
 have ek:kyE R[i]=kyE R'[i]:=by
  have:=congrArg (λl=>l[i]?) he
  simp only [List.getElem?_map,hx,hx',Option.map_some] at this
  exact Option.some.inj this
 have m1:=List.getElem_mem hlt
 have m2:=List.getElem_mem hlt'
 generalize R[i]=a at hx ek m1
 generalize R'[i]=b at hx' ek m2
 obtain ⟨n,wv,l⟩:=a
 obtain ⟨n',wv',l'⟩:=b
 have ek:(n,l)=(n',l'):=ek
 cases ek
 obtain ⟨p1,o1,g1,_,g3⟩:=e1.get (i:=i) (r:=enR (n,wv,l)) (by rw [List.getElem?_map,hx];rfl)
 obtain ⟨p2,o2,g4,_,g6⟩:=e2.get (i:=i) (r:=enR (n,wv',l)) (by rw [List.getElem?_map,hx'];rfl)
 have r0:rd1 t (.ptr p1 o1)=some (.int .u32 n):=g3 0 (by omega)
 have r1:rd1 t (.ptr p1 (o1+1))=some wv:=g3 1 (by omega)
 have q0:rd1 t (.ptr p2 o2)=some (.int .u32 n):=g6 0 (by omega)
 have q1:rd1 t (.ptr p2 (o2+1))=some wv':=g6 1 (by omega)
 simp only [g1,g4,qAE,Nat.add_zero,r0,r1,q0,q1,qAv,qAi,Bool.true_bne,beq_self_eq_true,Bool.not_true,qAB,qAA]
 have ei:∀ {T:List Nat},iz T=izs (T.map λ(n:Nat)=>(n:Int)):=fun {T}=>by
  unfold iz
  exact (List.map_map ..).symm
 have s1:Sl t wv (iz l):=hR _ m1
 have s2:Sl t wv' (iz l):=hR' _ m2
 rw [ei] at s1 s2
 have hlk:=hlk _ m1
 have hlk:l.length≤1000:=hlk
 refine qSF s1 s2 (by rw [lMY];omega) λb hb=>?_
 rw [hb.2 rfl]
 simp only [qAj,Bool.not_true,qAA,qCK,qAL,qAB,qAT]
 rw [qAf (by omega) (by omega)]
 exact ⟨_,by omega,i+1,rfl,by trivial,by omega,rfl⟩
theorem qR4 (z:REn s o R) (hRl:R.length≤1000) (hlk:∀ y∈R,y.2.2≠[]∧y.2.2.length≤1000)
  (hK:∀ s' v R',Ens s s' v R'→R'.map kyE=R.map kyE→K v s'):wC TP XX 39 [.ptr o 0] K s:=by
 obtain ⟨tg,N,x,lv,ev,wv,h1,h2,h3⟩:=z.ex
 refine qE1 ?_
 have c3:(tabC N x lv ev wv)[3]?=some ev:=rfl
 refine ⟨λys t m=>∃ (k:Nat) (ov:AV) (R':List EnV),ys=[ov,.int .i64 k]∧k≤R.length∧m=R.length - k∧Ens s t ov R'∧R'.map kyE=(R.take k).map kyE,⟨_,0,.nilslc,[],rfl,by omega,rfl,Ens.nil,by simp⟩,?_⟩
 rintro g t m ⟨k,ov,R',hy,hk,rfl,en,hR⟩
 simp only [cI,and_true] at hy
 rw [hy.1,hy.2]
 have st:=en.sub
 have t1:=st _ _ h1
 simp only [qCp,qAJ,qAE,zA,qAM t1,c3,(h2.sub st).len,lMY,qAQ,qAA]
 refine qAU (λhlt=>?_) (λhge=>?_)
 ·have hlt:k < R.length:=by have:=oT hlt;omega
  obtain ⟨y,hy⟩:∃ y,R[k]?=some y:=⟨_,gE hlt⟩
  have hm:=mG hy
  obtain ⟨hne,hl1000⟩:=hlk y hm
  obtain ⟨pb,po,f1,f2,f3⟩:=(h2.sub st).get (i:=k) (r:=enR y) (by rw [List.getElem?_map,hy];rfl)
  have r0:rd1 t (.ptr pb po)=some (.int .u32 y.1):=f3 0 (by omega)
  simp only [f1,qAE,Nat.add_zero,r0,qAA]
  refine qAW (a:=[]) rfl ⟨rfl,qAS λb s1 hb hb1 u1 _=>?_⟩
  have T2:Sub t (add t s1):=qBn
  have hc:Sub t (cutH [(t,add t s1)] (add t s1)):=λi e hi=>qJY (T2 _ _ hi) λp hp=>by
   rw [List.mem_singleton] at hp;subst hp
   simp only [hi];exact Option.some_ne_none _
  obtain ⟨pb',po',g1,g2,g3⟩:=((h2.sub st).sub hc).get (i:=k) (r:=enR y) (by rw [List.getElem?_map,hy];rfl)
  have r1:rd1 (cutH [(t,add t s1)] (add t s1)) (.ptr pb' (po'+1))=some y.2.1:=g3 1 (by omega)
  simp only [qAE,qAM (hc _ _ t1),c3,g1,r1,qAA]
  refine qIJ (s:=frz (add t s1)) (Sl.frz ((h3 y hm).sub (st.trans T2))) (by rw [qHU];omega) λv' s2 sub2 k0 k1 _=>?_
  obtain ⟨c,hc0,rfl,hc2⟩:=k1 (by rw [qB8];simpa using hne)
  have hc0:=qBI.1 hc0
  have ac:Acc 3 t (add (add t s1) s2) (.slc c 0 (iz y.2.2).length none 1) (iz y.2.2):=.inr ⟨c,qAe T2 hc0,rfl,by rw [qAX hc0];exact hc2⟩
  refine qVj en (T2.trans qBn) ac (by
   have:=congrArg List.length hR
   rw [lMY,lMY,List.length_take] at this
   omega) λv' t' en'=>?_
  simp only [qAT,qAA]
  rw [qAf (by omega) (by omega)]
  refine ⟨_,by omega,k+1,v',_,rfl,by omega,rfl,en',?_⟩
  rw [List.map_append,hR,List.take_add_one,hy,List.map_append]
  rfl
 ·have hge:k=R.length:=by have:=oF hge;omega
  subst hge
  rw [List.take_length] at hR
  exact hK t ov R' en hR
theorem qVo (z:REn s o R) (hRl:R.length≤1000) (hK:∀ s' v,Sub s s'→Sl s' v (R.map λy=>.int .u32 y.1)→K v s'):wC TP XX 51 [.ptr o 0] K s:=by
 obtain ⟨tg,N,x,lv,ev,wv,h1,h2,h3⟩:=z.ex
 refine qFl ?_
 have c3:(tabC N x lv ev wv)[3]?=some ev:=rfl
 refine ⟨λys t m=>∃ (k:Nat) (ov:AV),ys=[ov,.int .i64 k]∧k≤R.length∧m=R.length - k∧Sub s t∧Acc 34 s t ov ((R.take k).map λy=>.int .u32 y.1),⟨_,0,.nilslc,rfl,by omega,rfl,.refl s,.inl ⟨rfl,by simp⟩⟩,?_⟩
 rintro g t m ⟨k,ov,hy,hk,rfl,st,acc⟩
 simp only [cI,and_true] at hy
 rw [hy.1,hy.2]
 have t1:=st _ _ h1
 simp only [qDE,qAJ,qAE,zA,qAM t1,c3,(h2.sub st).len,lMY,qAQ,qAA]
 refine qAU (λhlt=>?_) (λhge=>?_)
 ·have hlt:k < R.length:=by have:=oT hlt;omega
  obtain ⟨y,hy⟩:∃ y,R[k]?=some y:=⟨_,gE hlt⟩
  obtain ⟨pb,po,f1,f2,f3⟩:=(h2.sub st).get (i:=k) (r:=enR y) (by rw [List.getElem?_map,hy];rfl)
  have r0:rd1 t (.ptr pb po)=some (.int .u32 y.1):=f3 0 (by omega)
  simp only [f1,qAE,Nat.add_zero,r0,qAA]
  refine qFG rfl rfl λb s1 hb hb1 u1=>?_
  have acc1:=acc.sub (u1.sub hb)
  refine acc1.app2 (st.trans (u1.sub hb)) (Sl.mk hb1 rfl (by simp)) (by simp) (by simp;omega) λv' s2 a2 k2=>?_
  simp only [qAT,qAA]
  rw [qAf (by omega) (by omega)]
  refine ⟨_,by omega,k+1,v',rfl,by omega,rfl,k2,?_⟩
  rw [List.take_add_one,hy,List.map_append]
  exact a2
 ·have hge:k=R.length:=by have:=oF hge;omega
  subst hge
  rw [List.take_length] at acc
  exact hK t ov st acc.sl
end Go.AM.FB
namespace Go.AM.FB
open Go Go.Proofs
set_option maxRecDepth 100000
variable {K:AV→Hq→Prop} {r s s' s0 t t':Hq} {lv ev wv y w:AV} {N x:Nat} {G:List Lnk} {U:List Bool} {Bf:Nat→List Int} {R R':List EnV}
theorem qTb {a:Int} {wv:AV} {l:List Nat} (h:Sl s wv (iz l)) (hne:l≠[]) (hl:l.length≤1000)
  (hK:∀ s' c,Sub s s'→s c=none→s' c=some (false,.cells 3 (iz l))→K (.agg [.int .u32 a,.slc c 0 (iz l).length none 1]) s'):wC TP XX 37 [.agg [.int .u32 a,wv]] K s:=by
 have hone:=h.one
 refine qFH ⟨by simp [qAb,hone],qAS λb0 s1 hb0 h1 u1=>qAS λb2 s2 hb2 h2 u2=>?_⟩
 have sub1:=u1.sub hb0
 have sub2:=u2.sub hb2
 have h1:s1 b0=some (false,.cells 85 [.int .u32 a,wv]):=h1
 have h12:=sub2 _ _ h1
 have e1:[AV.int .u32 a,wv][1]?=some wv:=rfl
 simp only [qAE,zA,qAM h12,e1,qAA]
 refine WH.Clone_in (l:=nz l) (by show Sl s2 wv _;rw [show (nz l).map (AV.int .i64)=iz l from qB8.symm];exact (h.sub sub1).sub sub2) (by unfold nz;rw [lMY];omega) λv' s3 sub3 sl3 g3=>?_
 have h13:=sub3 _ _ h12
 have one3:=sl3.one
 obtain ⟨c,q1,q2,q3⟩:=g3 (by unfold nz;simpa using hne)
 have q3:s3 c=some (false,.cells 3 (iz l)):=by rw [q3,qB8];rfl
 have q2:v'=.slc c 0 (iz l).length none 1:=by rw [q2,qHU,qSf]
 refine qAm h13 (by simp) one3 λs4 h4 u4=>?_
 have h4:s4 b0=some (false,.cells 85 [.int .u32 a,v']):=h4
 have ne:b2≠b0:=λe=>by rw [e,h1] at hb2;cases hb2
 have h24:s4 b2=some (false,.cells 85 [.int .u32 0,.nilslc]):=by rw [u4 _ ne];exact sub3 _ _ h2
 refine qAW (qA7 h4 rfl) (qAl h24 rfl rfl (by simp [qAb,one3]) λs5 h5 u5=>qAW (qA7 h5 rfl) ?_)
 have hb2s:s b2=none:=qAe sub1 hb2
 have n0:c≠b0:=λe=>by rw [e,h12] at q1;cases q1
 have n2:c≠b2:=λe=>by rw [e,h2] at q1;cases q1
 have:=hK s5 c (qAh (qAh ((sub1.trans sub2).trans sub3) u4 hb0) u5 hb2s) (qAe (sub1.trans sub2) q1) (by rw [u5 _ n2,u4 _ n0];exact q3)
 rw [q2]
 exact this
def Row (s0 t:Hq) (y:EnV):Prop:=∃ c,s0 c=none∧y.2.1=.slc c 0 (iz y.2.2).length none 1∧t c=some (false,.cells 3 (iz y.2.2))
structure EnsP (s0 t:Hq) (b n:Nat) (R:List EnV):Prop where
 sub:Sub s0 t
 hb:s0 b=none
 cb:∃ Z,t b=some (false,.cells 66 ((R.map enR).flatten ++ Z))∧Z.length=2 * (n - R.length)
 rows:∀ y∈R,Row s0 t y
theorem zABH:((R.map enR).flatten).length=2 * R.length:=by
 rw [qF0 (es:=2) (λr hr=>by obtain ⟨y,_,rfl⟩:=List.mem_map.1 hr;rfl),lMY]
 omega
theorem Row.sub {y:EnV} (h:Row s0 t y) (k:Sub t t'):Row s0 t' y:=by
 obtain ⟨c,a,b,e⟩:=h
 exact ⟨c,a,b,k _ _ e⟩
theorem qQw {a b:AV}:∀ {n:Nat},(repl n [a,b]).length=2 * n
 | 0=>rfl
 | n+1=>by
   show ([a,b] ++ repl n [a,b]).length=_
   rw [lAp,qQw (n:=n)]
   simp;omega
theorem qOh {f:Nat} (h:FibT s f N G U x Bf) (hN:N≤32) (hN0:0 < N) (hG:G.length≤1000)
  (hK:∀ s' b R,EnsP s s' b R.length R→R.map kyE=ofP N G U x N→K (.slc b 0 R.length (some R.length) 2) s'):wC TP XX 48 [.ptr f 0] K s:=by
 obtain ⟨tf,lv,ev,mb,R,tm,c,ws,h1,h2,h3,h4,_⟩:=h.ex
 have hRl:R.length≤32:=by
  have:=congrArg List.length h3
  rw [lMY] at this
  have:=qHz (N:=N) (G:=G) (U:=U) (x:=x) (k:=N)
  omega
 have hlk:∀ y∈R,y.2.2≠[]∧y.2.2.length≤1000:=λy hy=>by
  obtain ⟨n,hn,e1,e2⟩:=FibR.row h3 hy
  exact ⟨by rw [e2];exact (qC3.1 hn).2,by rw [e2];exact Nat.le_trans qIE hG⟩
 refine qI2 (qDx h1 (by omega) ?_)
 have c4:(fibC (N:Int) (x:Int) lv ev mb)[4]?=some ev:=rfl
 have z0:nat? (.int .i64 0)=some 0:=nat?_mk (n:=0)
 simp only [qAj,Bool.not_true,qAB,qAJ,qAE,zA,qAM h1,c4,h2.len,lMY,z0,nat?_mk,qAA]
 refine ⟨⟨Nat.zero_le _,by omega⟩,qAS λb s1 hb hb1 u1=>?_⟩
 have sub1:=u1.sub hb
 simp only [qAM (sub1 _ _ h1),c4,h2.len,lMY,qAA]
 refine ⟨λys t m=>∃ (k:Nat) (R':List EnV),ys=[.slc b 0 k (some R.length) 2,.int .i64 k]∧k≤R.length∧m=R.length - k∧R'.length=k∧EnsP s t b R.length R'∧R'.map kyE=(R.take k).map kyE,⟨_,0,[],rfl,by omega,rfl,rfl,⟨sub1,hb,⟨_,hb1,?_⟩,(λy hy=>by cases hy)⟩,by simp⟩,?_⟩
 ·rw [qQw];simp
 rintro g t m ⟨k,R',hy,hk,rfl,hl',en,hR⟩
 simp only [cI,and_true] at hy
 rw [hy.1,hy.2]
 have st:=en.sub
 simp only [qFJ,qAQ,qAA]
 refine qAU (λhlt=>?_) (λhge=>?_)
 ·have hlt:k < R.length:=by have:=oT hlt;omega
  obtain ⟨y,hy⟩:∃ y,R[k]?=some y:=⟨_,gE hlt⟩
  have hm:=mG hy
  have hone:=(h4 y hm).one
  obtain ⟨hne,hl1000⟩:=hlk y hm
  obtain ⟨pb,po,g1,g2,_⟩:=(h2.sub st).get (i:=k) (r:=enR y) (by rw [List.getElem?_map,hy];rfl)
  simp only [g1,g2,qAA]
  refine qAS λb2 t2 hb2 h2' u2=>qAl h2' rfl rfl ?_ λt3 h3' u3=>?_
  ·show ((AV.int .u32 y.1).one&&(y.2.1.one&&true))=true
   rw [hone];rfl
  have st3:Sub t t3:=qAh (u2.sub hb2) u3 hb2
  have h3':t3 b2=some (false,.cells 85 (enR y)):=h3'
  refine qAW (qA7 h3' rfl) ?_
  refine qTb ((h4 y hm).sub (st.trans st3)) hne hl1000 λt4 c st4 hc hc4=>?_
  refine qAW (qMS (zs:=[(.int .u32 0),.nilslc]) (c:=[.int .u32 y.1,.slc c 0 (iz y.2.2).length none 1]) rfl) ⟨rfl,qAS λb5 t5 hb5 h5 u5=>?_⟩
  have st5:Sub t t5:=(st3.trans st4).trans (u5.sub hb5)
  obtain ⟨Z,hZ,hZl⟩:=en.cb
  obtain ⟨z0,z1,Z',rfl⟩:∃ z0 z1 Z',Z=z0 :: z1 :: Z':=by
   match Z,hZl with
   | [],q=>simp at q;omega
   | [_],q=>simp at q;omega
   | a :: b :: l,_=>exact ⟨a,b,l,rfl⟩
  refine qS4 (st5 _ _ hZ) (by rw [zABH,hl']) hlt (SlR.mk (rows:=[[.int .u32 y.1,.slc c 0 (iz y.2.2).length none 1]]) (by intro r hr;rw [List.mem_singleton] at hr;subst hr;rfl) (by simpa using h5) rfl (by simp)) rfl rfl λt6 h6 u6=>?_
  simp only [qAT,qAA]
  rw [qAf (by omega) (by omega)]
  have hbt:t b≠none:=by rw [hZ];simp
  have cb:c≠b:=λe=>hbt (qAe st3 (e ▸ hc))
  have sub6:Sub s t6:=qAh (st.trans st5) u6 hb
  refine ⟨_,by omega,k+1,R' ++ [((y.1,.slc c 0 (iz y.2.2).length none 1,y.2.2):EnV)],rfl,by omega,rfl,by simp [hl'],⟨sub6,hb,⟨Z',?_,?_⟩,λz hz=>?_⟩,?_⟩
  ·rw [h6,List.map_append,List.flatten_append];rfl
  ·simp only [List.length_cons,lAp,List.length_nil] at hZl ⊢
   omega
  ·rcases mP hz with hz | hz
   ·obtain ⟨c',q1,q2,q3⟩:=en.rows z hz
    refine ⟨c',q1,q2,?_⟩
    rw [u6 c' (λe=>by rw [e,hZ] at q3;cases q3)]
    exact st5 _ _ q3
   ·rw [List.mem_singleton] at hz
    subst hz
    exact ⟨c,qAe (st.trans st3) hc,rfl,by rw [u6 c cb];exact u5.sub hb5 _ _ hc4⟩
  ·rw [List.map_append,hR,List.take_add_one,hy,List.map_append]
   rfl
 ·have hge:k=R.length:=by have:=oF hge;omega
  subst hge
  rw [List.take_length] at hR
  have:=hK t b R' (by rw [hl'];exact en) (hR.trans h3)
  rw [hl'] at this
  exact this
theorem EnsP.sl {b:Nat} (z:EnsP s0 t b R.length R):SlR 2 t (.slc b 0 R.length (some R.length) 2) (R.map enR):=by
 obtain ⟨Z,h,hl⟩:=z.cb
 rw [Nat.sub_self] at hl
 have:Z=[]:=List.eq_nil_of_length_eq_zero hl
 subst this
 rw [List.append_nil] at h
 refine SlR.mk (λr hr=>by obtain ⟨y,_,rfl⟩:=List.mem_map.1 hr;rfl) h (by simp) (by simp)
theorem Row.sl {y:EnV} (h:Row s0 t y):Sl t y.2.1 (iz y.2.2):=by
 obtain ⟨c,_,e,h⟩:=h
 rw [e]
 exact Sl.mk h rfl (by simp)
structure Ovr (s0 t:Hq) (b:Nat) (ws:List AV):Prop where
 sub:Sub s0 t
 hb:s0 b=none
 cb:∃ cs,t b=some (false,.cells 66 cs)∧∀ (i:Nat) (w:AV),ws[i]?=some w→cs[2 * i+1]?=some w∧∃ c m ds,w=.slc c 0 m none 1∧s0 c=none∧t c=some (false,.cells 3 ds)∧ds.length=m∧m≤1000
theorem qZS {b n i:Nat} {cap:Option Nat} (hi:i < n):qAO 2 (.slc b 0 n cap 2) (.int .i64 (i:Int))=some (.ptr b (2 * i)):=by
 have:Nat.blt i n=true:=by rw [Nat.blt_eq];exact hi
 simp [qAO,this]
 omega
theorem qYy {b:Nat} {cap:Option Nat} {ws:List AV} (z:Ovr s0 t b ws) (hn:ws.length≤1000) (hK:∀ t',Sub s0 t'→K (.tup []) t'):wC TP XX 52 [.slc b 0 ws.length cap 2] K t:=by
 refine qHn ?_
 refine ⟨λys t m=>∃ i:Nat,ys=[.int .i64 i]∧i≤ws.length∧m=ws.length - i∧Ovr s0 t b ws,⟨_,0,rfl,by omega,rfl,z⟩,?_⟩
 rintro g t m ⟨i,hy,hi,rfl,z⟩
 simp only [cI,and_true] at hy
 rw [hy]
 simp only [qEI,qBJ,qAQ,qAA]
 refine qAU (λhlt=>?_) (λhge=>hK t z.sub)
 have hlt:i < ws.length:=by have:=oT hlt;omega
 obtain ⟨w,hw⟩:∃ w,ws[i]?=some w:=⟨_,gE hlt⟩
 refine ⟨λys t m=>∃ k:Nat,ys=[.int .i64 k]∧k≤1000∧m=1000 - k∧Ovr s0 t b ws,⟨_,0,rfl,by omega,rfl,z⟩,?_⟩
 rintro g2 t2 m2 ⟨k,hy2,hk,rfl,z2⟩
 simp only [cI,and_true] at hy2
 rw [hy2]
 obtain ⟨cs,hcs,hws⟩:=z2.cb
 obtain ⟨a1,c,m,ds,e1,e2,e3,e4,e5⟩:=hws i w hw
 have ha1:2 * i+1 < cs.length:=(gS a1).1
 subst e1
 simp only [qEL,qZS hlt,qAE,qAM hcs,a1,qBJ,qAQ,qAA]
 refine qAU (λhlt2=>?_) (λhge2=>?_)
 ·have hlt2:k < m:=by have:=oT hlt2;omega
  rw [WH.b_addr hlt2,qAA]
  refine qAm e3 (by omega) rfl λt3 h3 u3=>?_
  simp only [qAT,qAA]
  rw [qAf (by omega) (by omega)]
  refine ⟨_,by omega,k+1,rfl,by omega,rfl,⟨qAh z2.sub u3 e2,z2.hb,cs,?_,λj w hj=>?_⟩⟩
  ·rw [u3 _ (λe=>by rw [e,e3] at hcs;cases hcs)];exact hcs
  ·obtain ⟨b1,c',m',ds',f1,f2,f3,f4,f5⟩:=hws j w hj
   by_cases q:c'=c
   ·subst q
    rw [e3] at f3
    cases f3
    exact ⟨b1,c',m',_,f1,f2,h3,by rw [List.length_set];exact f4,f5⟩
   ·exact ⟨b1,c',m',ds',f1,f2,by rw [u3 _ q];exact f3,f4,f5⟩
 ·simp only [Nat.add_zero]
  refine qAm hcs (by omega) rfl λt3 h3 u3=>?_
  simp only [qAT,qAA]
  rw [qAf (by omega) (by omega)]
  refine ⟨_,by omega,i+1,rfl,by omega,rfl,⟨qAh z2.sub u3 z2.hb,z2.hb,_,h3,λj w hj=>?_⟩⟩
  obtain ⟨b1,c',m',ds',f1,f2,f3,f4,f5⟩:=hws j w hj
  refine ⟨by rw [List.getElem?_set_ne (by omega)];exact b1,c',m',ds',f1,f2,?_,f4,f5⟩
  rw [u3 _ (λe=>by rw [e,hcs] at f3;cases f3)];exact f3
theorem EnsP.ovr {b:Nat} (z:EnsP s0 t b R.length R) (hl:∀ y∈R,y.2.2.length≤1000):Ovr s0 t b (R.map (·.2.1)):=by
 obtain ⟨Z,h,hZ⟩:=z.cb
 refine ⟨z.sub,z.hb,_,h,λi w hw=>?_⟩
 rw [List.getElem?_map] at hw
 cases q:R[i]? with
 | none=>rw [q] at hw;cases hw
 | some y=>
   rw [q] at hw
   cases hw
   have hm:=mG q
   obtain ⟨c,c1,c2,c3⟩:=z.rows y hm
   refine ⟨?_,c,_,_,c2,c1,c3,rfl,by rw [qHU];exact hl y hm⟩
   have hi:=(gS q).1
   rw [List.getElem?_append_left (by rw [zABH];omega)]
   have e:=qO5 (es:=2) (rows:=R.map enR) (i:=i) (r:=enR y) (λr hr=>by obtain ⟨y,_,rfl⟩:=List.mem_map.1 hr;rfl) (by rw [List.getElem?_map,q];rfl)
   have e:=congrArg (λl=>l[1]?) e
   simp only [List.getElem?_take,List.getElem?_drop] at e
   rw [if_pos (by omega)] at e
   rw [show 2 * i+1=i * 2+1 by omega,e]
   rfl
end Go.AM.FB
namespace Go.AM.FB
open Go Go.Proofs
set_option maxRecDepth 100000
variable {K:AV→Hq→Prop} {r r' s s' t t' H:Hq} {lv ev wv y w:AV} {o N x:Nat} {G:List Lnk} {U:List Bool} {L:List RLk} {Bf Bf':Nat→List Int} {Mf:Nat→List Nat} {ps:List Rl} {R:List EnV}
theorem WhT.frz {w:Nat} {l:List Nat} {B:List Int} (h:WhT s w l B):WhT (AM.frz s) w l B:=by
 obtain ⟨t1,t2,bb,mv,cap,h1,h2,h3,h4,h5,h6⟩:=h
 exact ⟨true,true,bb,mv,cap,qBX h1,qBX h2,h3,h4,Sl.frz h5,h6⟩
theorem FibT.frz {f x:Nat} (h:FibT s f N G U x Bf):FibT (AM.frz s) f N G U x Bf:=by
 obtain ⟨tf,lv,ev,mb,R,tm,c,ws,h1,h2,h3,h4,h5,h6,h7⟩:=h.ex
 exact ⟨true,lv,ev,mb,R,true,c,ws,qBX h1,h2.frz,h3,λy hy=>Sl.frz (h4 y hy),qBX h5,h6,λp hp q=>(h7 p hp q).frz⟩
theorem RTab.es (z:RTab r o N x L U Bf):∃ (lv ev wv:AV) (R:List EnV),r o=some (false,.cells 80 (tabC (N:Int) (x:Int) lv ev wv))∧SlR 2 r ev (R.map enR)∧R.map kyE=ofP N (L.map toL) U x N∧∀ y∈R,Sl r y.2.1 (iz y.2.2):=by
 obtain ⟨H,lv,ev,wv,R,ps,Mf,h1,h2,h3,h4,_⟩:=z.ex
 exact ⟨lv,ev,wv,R,h1.co,h2.sub h1.hs,h3,λy hy=>(h4 y hy).sub h1.hs⟩
theorem EnsP.unfrz {b n:Nat} (z:EnsP (frz s) t b n R):EnsP s (add s t) b n R:=by
 obtain ⟨Z,h,hZ⟩:=z.cb
 refine ⟨qBn,qBI.1 z.hb,⟨Z,by rw [qAX (qBI.1 z.hb)];exact h,hZ⟩,λy hy=>?_⟩
 obtain ⟨c,h1,h2,h3⟩:=z.rows y hy
 exact ⟨c,qBI.1 h1,h2,by rw [qAX (qBI.1 h1)];exact h3⟩
theorem EnsP.more {b n:Nat} (z:EnsP s t b n R) (k:Sub t t'):EnsP s t' b n R:=by
 obtain ⟨Z,h,hZ⟩:=z.cb
 exact ⟨z.sub.trans k,z.hb,⟨Z,k _ _ h,hZ⟩,λy hy=>(z.rows y hy).sub k⟩
theorem qYu {f:Nat} (z1:Tab r f N x L U Bf) (z2:RTab r' o N x L U Bf') (k1:Sub r s) (k2:Sub r' s) (hN:N≤32) (hN0:0 < N) (hG:L.length≤64) (hK:∀ s',Sub s s'→K (.bool true) s'):wC TP XX 18 [.ptr f 0,.ptr o 0] K s:=by
 have ft:=z1.rd.sub k1
 obtain ⟨lv,ev,wv,R,ho,hev,hR,hrow⟩:=z2.es
 have ho:=k2 _ _ ho
 have hev:=hev.sub k2
 have hrow:∀ y∈R,Sl s y.2.1 (iz y.2.2):=λy hy=>(hrow y hy).sub k2
 have ren:REn s o R:=⟨false,_,_,_,_,_,ho,hev,hrow⟩
 have hRl:R.length≤32:=by
  have:=congrArg List.length hR
  rw [lMY] at this
  have:=qHz (N:=N) (G:=L.map toL) (U:=U) (x:=x) (k:=N)
  omega
 have hlk:∀ {R:List EnV},R.map kyE=ofP N (L.map toL) U x N→∀ y∈R,y.2.2.length≤1000:=λhR y hy=>by
  have:=qLG hR hy
  rw [lMY] at this
  omega
 have c3:(tabC (N:Int) (x:Int) lv ev wv)[3]?=some ev:=rfl
 refine qHi ?_
 refine qOh ft hN hN0 (by rw [lMY];omega) λs1 b R1 en1 hR1=>?_
 have st1:=en1.sub
 have hR1l:R1.length≤32:=by
  have:=congrArg List.length (hR1.trans hR.symm)
  rw [lMY,lMY] at this
  omega
 simp only [qAJ,qAE,zA,qAM (st1 _ _ ho),c3,qAA]
 refine qNE en1.sl (λy hy=>(en1.rows y hy).sl) (hev.sub st1) (λy hy=>(hrow y hy).sub st1) (hR1.trans hR.symm) (by omega) (hlk hR1) ?_
 simp only [qAj,Bool.not_true,qAB,qAA]
 refine qUj (ft.sub st1) hN hN0 λs2 w2 sub2 sl2=>?_
 have st2:=st1.trans sub2
 refine qVo (ren.sub st2) (by omega) λs3 w3 sub3 sl3=>?_
 have st3:=st2.trans sub3
 have e3:(R.map λy=>AV.int .u32 y.1)=ips ((ndL N (L.map toL) U x).map lbk):=by
  have:=(FibR.ord hR).2
  rw [← this]
  unfold ips
  rw [List.map_map];rfl
 have e2:((ndL N (L.map toL) U x).map λn=>AV.int .u32 (lbk n))=ips ((ndL N (L.map toL) U x).map lbk):=by
  unfold ips
  rw [List.map_map];rfl
 rw [e3] at sl3
 rw [e2] at sl2
 have hNl:=qPB (N:=N) (G:=L.map toL) (U:=U) (x:=x)
 refine qWz (sl2.sub sub3) sl3 (by rw [lMY];omega) ?_
 simp only [qAj,Bool.not_true,qAA,qCh,qAL,qAB]
 have ov:=(en1.more (sub2.trans sub3)).ovr (hlk hR1)
 have:=qYy (K:=λv_9 s_10=>∃ I1:List AV→Hq→Nat→Prop,(∃ m,I1 [(.int .i64 0)] s_10 m)∧∀ (g:Env) (s:Hq) (m1:Nat),I1 [g 6] s m1→
   qCg XX (.ptr f 0) (.ptr o 0) (g 6) I1 m1 K s) (cap:=some R1.length) ov (by rw [lMY];omega) λs4 st4=>?_
 ·rw [lMY] at this
  exact this
 refine ⟨λys t m=>∃ i:Nat,ys=[.int .i64 i]∧i≤R.length∧m=R.length - i∧Sub s t,⟨_,0,rfl,by omega,rfl,st4⟩,?_⟩
 rintro g t m ⟨i,hy,hi,rfl,st⟩
 simp only [cI,and_true] at hy
 rw [hy]
 simp only [qCg,qAJ,qAE,zA,qAM (st _ _ ho),c3,(hev.sub st).len,lMY,qAQ,qAA]
 refine qAU (λhlt=>?_) (λhge=>?_)
 ·have hlt:i < R.length:=by have:=oT hlt;omega
  obtain ⟨y,hy⟩:∃ y,R[i]?=some y:=⟨_,gE hlt⟩
  have hm:=mG hy
  obtain ⟨n,hn,e1,e2⟩:=FibR.row hR hm
  obtain ⟨pb,po,f1,_,f3⟩:=(hev.sub st).get (i:=i) (r:=enR y) (by rw [List.getElem?_map,hy];rfl)
  have r0:rd1 t (.ptr pb po)=some (.int .u32 y.1):=f3 0 (by omega)
  simp only [f1,qAE,Nat.add_zero,r0,qAA]
  refine qOS (ft.sub st) hN hN0 (by rw [lMY];omega) λt1 w l sub1 slw hl hlu _ hfr=>?_
  have el:l=y.2.2:=by rw [e2];exact hlu n (qC3.1 hn).1 e1
  have lne:l≠[]:=by rw [el,e2];exact (qC3.1 hn).2
  obtain ⟨c,hc,rfl,hc1⟩:=hfr lne
  have s1t:=st.trans sub1
  obtain ⟨pb',po',g1,_,g3⟩:=(hev.sub s1t).get (i:=i) (r:=enR y) (by rw [List.getElem?_map,hy];rfl)
  have r1:rd1 t1 (.ptr pb' (po'+1))=some y.2.1:=g3 1 (by omega)
  simp only [qAE,qAM (s1t _ _ ho),c3,g1,r1,qAA]
  have ei:∀ {T:List Nat},iz T=izs (T.map λ(n:Nat)=>(n:Int)):=fun {T}=>by
   unfold iz
   exact (List.map_map ..).symm
  have slr:Sl t1 y.2.1 (iz l):=by rw [el];exact (hrow y hm).sub s1t
  rw [ei] at slr slw
  refine qSF slw slr (by rw [lMY];omega) λb hb=>?_
  rw [hb.2 rfl]
  simp only [qAj,Bool.not_true,qAB,qAA]
  have hcs:s c=none:=qAe st hc
  refine ⟨λys t m=>∃ (k:Nat) (ds:List AV),ys=[.int .i64 k]∧k≤l.length∧m=l.length - k∧Sub s t∧t c=some (false,.cells 3 ds)∧ds.length=l.length,⟨_,0,_,rfl,by omega,rfl,s1t,hc1,qHU⟩,?_⟩
  rintro g2 t2 m2 ⟨k,ds,hy2,hk,rfl,st2',hcd,hds⟩
  simp only [cI,and_true] at hy2
  rw [hy2]
  simp only [qEE,qBJ,qAQ,qAA]
  refine qAU (λhlt2=>?_) (λhge2=>?_)
  ·have hlt2:k < l.length:=by have:=oT hlt2;omega
   rw [WH.b_addr hlt2,qAA]
   refine qAm hcd (by omega) rfl λt3 h3 u3=>?_
   simp only [qAT,qAA]
   rw [qAf (by omega) (by omega)]
   exact ⟨_,by omega,k+1,_,rfl,by omega,rfl,qAh st2' u3 hcs,h3,by rw [List.length_set];exact hds⟩
  ·simp only [qAT,qAA]
   rw [qAf (by omega) (by omega)]
   exact ⟨_,by omega,i+1,rfl,by omega,rfl,st2'⟩
 ·refine qOh (ft.sub st).frz hN hN0 (by rw [lMY];omega) λt1 b2 R2 en2 hR2 _=>?_
  have en2:=en2.unfrz
  have hR2l:R2.length≤32:=by
   have:=congrArg List.length (hR2.trans hR.symm)
   rw [lMY,lMY] at this
   omega
  have hc:Sub t (cutH [(t,add t t1)] (add t t1)):=λi e hi=>qJY (qBn _ _ hi) λp hp=>by
   rw [List.mem_singleton] at hp;subst hp
   simp only [hi];exact Option.some_ne_none _
  have s1t:Sub s (add t t1):=st.trans qBn
  simp only [qAM (hc _ _ (st _ _ ho)),c3,qAA]
  exact qNE en2.sl (λy hy=>(en2.rows y hy).sl) (hev.sub s1t) (λy hy=>(hrow y hy).sub s1t) (hR2.trans hR.symm) (by omega) (hlk hR2) (hK _ s1t)
end Go.AM.FB
namespace Go.AM.FB
open Go Go.Proofs
set_option maxRecDepth 100000
variable {K:AV→Hq→Prop} {r r' s s' t t' H:Hq} {lv lv' ev ev' wv wv' v y:AV} {o N x:Nat} {G:List Lnk} {U:List Bool} {L:List RLk} {Bf:Nat→List Int} {Mf:Nat→List Nat} {ps:List Rl} {R R':List EnV}
theorem qUO (z:RTab r o N x L U Bf) (hrs:Sub r s) (hN:N≤32) (hG:L.length≤64)
  (hK:∀ o' r' s',RTab r' o' N x L U Bf→Sub s s'→Sub r' s'→(∀ i,r' i≠none→s i=none)→K (.ptr o' 0) s'):wC TP XX 15 [.ptr o 0] K s:=by
 obtain ⟨H,lv,ev,wv,R,ps,Mf,tb0,hev,hR,hrow,hps,hwv,hMf⟩:=z.ex
 have tb:=tb0.sub hrs
 have hs:Sub H s:=tb.hs
 have hRl:R.length≤32:=by
  have:=congrArg List.length hR
  rw [lMY] at this
  have:=qHz (N:=N) (G:=L.map toL) (U:=U) (x:=x) (k:=N)
  omega
 have hlk:∀ y∈R,y.2.2≠[]∧y.2.2.length≤1000:=λy hy=>by
  obtain ⟨n,hn,e1,e2⟩:=FibR.row hR hy
  exact ⟨by rw [e2];exact (qC3.1 hn).2,by rw [e2];exact Nat.le_trans qIE (by rw [lMY];omega)⟩
 refine qF5 ?_
 have c0:(tabC (N:Int) (x:Int) lv ev wv)[0]?=some (.int .i64 (N:Int)):=rfl
 have c1:(tabC (N:Int) (x:Int) lv ev wv)[1]?=some (.int .i64 (x:Int)):=rfl
 have c2:(tabC (N:Int) (x:Int) lv ev wv)[2]?=some lv:=rfl
 have c4:(tabC (N:Int) (x:Int) lv ev wv)[4]?=some wv:=rfl
 simp only [qDp,qAJ,qAE,zA,qAM tb.co,c0,c1,qAA]
 refine qAW (a:=[]) rfl ⟨rfl,qAS λb7 s8 hb7 h7 u7 _=>?_⟩
 have T1:Sub s (add s s8):=qBn
 have hc:Sub s (cutH [(s,add s s8)] (add s s8)):=λi e hi=>qJY (T1 _ _ hi) λp hp=>by
  rw [List.mem_singleton] at hp;subst hp
  simp only [hi];exact Option.some_ne_none _
 simp only [qAM (hc _ _ tb.co),c2,qAA]
 refine qMt (s:=frz (add s s8)) ((tb.lk.sub (hs.trans T1)).frz) (by rw [lMY];omega) λlv' s13 sub13 hl13 fr13 _=>?_
 have T12:Sub (add s s8) (add (add s s8) s13):=qBn
 have T2:Sub s (add (add s s8) s13):=T1.trans T12
 have ren:REn (add (add s s8) s13) o R:=⟨false,_,_,_,_,_,T2 _ _ tb.co,hev.sub (hs.trans T2),λy hy=>(hrow y hy).sub (hs.trans T2)⟩
 have lv13:SlR 3 (add (add s s8) s13) lv' (L.map rwR):=hl13.keep (fp:=λi=>add s s8 i≠none) (λi e hi hn=>by rw [qAX (Classical.not_not.1 hn)];exact hi) λb o n c e hne q=>q (qBI.1 (fr13 b o n c e hne))
 obtain ⟨A,hA⟩:∃ A:Hq,A=add (add s s8) s13:=⟨_,rfl⟩
 rw [← hA] at T2 ren lv13 T12 ⊢
 refine qR4 ren.frz (by omega) hlk λs15 ev' R' en hR' _=>?_
 obtain ⟨sub15,sb,kb1,kb2,acc,hrows⟩:=en
 have T3:Sub A (add A s15):=qBn
 have nA:∀ {i},sb i=none→A i=none:=fun {i} hi=>qBI.1 (qAe kb1 hi)
 have ev15:SlR 2 (add A s15) ev' (R'.map enR):=acc.sl.keep (fp:=λi=>A i≠none) (λi e hi hn=>by rw [qAX (Classical.not_not.1 hn)];exact hi) λb o n c e hne q=>by
  rcases acc.2 with ⟨_,q2⟩ | ⟨b',q1,q2,_⟩
  ·exact hne q2
  ·rw [q2] at e;cases e
   exact q (nA q1)
 have evf:∀ b o n c,ev'=.slc b o n c 2→R'.map enR≠[]→A b=none:=λb o n c e hne=>by
  rcases acc.2 with ⟨_,q2⟩ | ⟨b',q1,q2,_⟩
  ·exact absurd q2 hne
  ·rw [q2] at e;cases e
   exact nA q1
 have rowf:∀ y∈R',∀ b o n c,y.2.1=.slc b o n c 1→iz y.2.2≠[]→A b=none:=λy hy b o n c e hne=>by
  rcases hrows y hy with ⟨_,q⟩ | ⟨b',q1,q2,_⟩
  ·exact absurd q hne
  ·rw [q2] at e;cases e
   exact qBI.1 q1
 have row15:∀ y∈R',Sl (add A s15) y.2.1 (iz y.2.2):=λy hy=>((hrows y hy).sl.sub kb2).keep (fp:=λi=>A i≠none) (λi e hi hn=>by rw [qAX (Classical.not_not.1 hn)];exact hi) λb o n c e hne q=>q (rowf y hy b o n c e hne)
 refine qAW (zAAu rfl rfl lv13.one ev15.one) ⟨qZm lv13.one ev15.one rfl,qAS λo' s18 ho' h18 u18=>?_⟩
 have T4:Sub (add A s15) s18:=u18.sub ho'
 have T5:Sub s s18:=T2.trans (T3.trans T4)
 have h18:s18 o'=some (false,.cells 80 (tabC (N:Int) (x:Int) lv' ev' .nilslc)):=h18
 have nO:∀ {b},add A s15 b≠none→b≠o':=fun {b} h e=>h (e ▸ ho')
 have start:RN s s18 o' N x L lv' ev' R' Bf Mf 0:=qS8 T5 (qAe (T2.trans T3) ho') h18 ((lv13.sub T3).sub T4) (λb o n c e hne=>⟨qAe T1 (qBI.1 (fr13 b o n c e hne)),nO ((lv13.sub T3).was b o n c e hne)⟩) (ev15.sub T4) (λb o n c e hne=>⟨qAe T2 (evf b o n c e hne),nO (ev15.was b o n c e hne)⟩) (λy hy=>(row15 y hy).sub T4) λy hy b o n c e hne=>⟨qAe T2 (rowf y hy b o n c e hne),nO (by
  rcases row15 y hy with ⟨q,_⟩ | ⟨b',o'',c'',g1,_,g3⟩
  ·rw [q] at e;cases e
  ·rw [g1] at e;cases e
   obtain ⟨tt,el,cs,g4,_⟩:=g3 hne
   rw [g4];simp)⟩
 refine ⟨λys t m=>∃ k:Nat,ys=[.int .i64 k]∧k≤N∧m=N - k∧RN s t o' N x L lv' ev' R' Bf Mf k,⟨_,0,rfl,by omega,rfl,start⟩,?_⟩
 rintro g t m ⟨k,hy,hk,rfl,z⟩
 simp only [cI,and_true] at hy
 rw [hy]
 obtain ⟨_,wv',_,_,_,tb1,_,_,_,_,_,hst,_⟩:=z.ex
 have tbt:=tb.sub hst
 simp only [qDI,qAJ,qAE,zA,qAM tbt.co,c0,qAQ,qAA]
 refine qAU (λhlt=>?_) (λhge=>?_)
 ·have hlt:k < N:=by have:=oT hlt;omega
  have c4':(tabC (N:Int) (x:Int) lv' ev' wv')[4]?=some wv':=rfl
  obtain ⟨p,hp⟩:∃ p,ps[k]?=some p:=⟨_,gE (by omega)⟩
  obtain ⟨pp,g1,g2⟩:=(hwv.sub tbt.hs).get (i:=k) (by rw [lMY];omega)
  have g3:(ps.map λp=>AV.ptr p.1 0)[k]?=some (.ptr p.1 0):=by rw [List.getElem?_map,hp];rfl
  rw [g3] at g2
  simp only [qAM tb1.co,c4',c4,g1,g2,qAA]
  have ra:=tbt.rw_.rat tbt.hs hp
  obtain ⟨_,_,_,asc,hM64⟩:=tbt.rw_.at_ k p hp
  refine WH.rCopyR_in ra.rd.frz ra.len λop rb mv s32 hop hrb sub32 ra32 hmv _=>?_
  have hop:=qBI.1 hop
  have hrb:=qBI.1 hrb
  refine qFG (elem:=81) (z:=.nilptr) (v:=.ptr op 0) rfl rfl λb22 s35 hb22 h35 u35 _=>?_
  have hb22:=qBI.1 hb22
  have l64:=tbt.rw_.ln k
  have kA:Sub t (add t s32):=qBn
  have kB:Sub (add t s32) (add (add t s32) s35):=qBn
  have a1:=ra32.ob
  rw [l64] at a1
  obtain ⟨wv2,hw2,happ⟩:=qYb (J:=λt'=>oK (qAG .add (.int .i64 (k:Int)) (.int .i64 1)) λv_29=>∃ m',m' < N - k∧∃ k:Nat,[v_29]=[.int .i64 (k:Int)]∧k≤N∧m'=N - k∧RN s t' o' N x L lv' ev' R' Bf Mf k) z (by omega) (kA.trans kB) hop hrb (mv:=mv) (by
   refine kB _ _ ?_
   rw [qAX hop];exact a1) (by
   refine kB _ _ ?_
   rw [qAX hrb];exact ra32.rs) (by
   have h0:Sl s32 mv (iz (Mf k)):=by rw [qB8];exact ra32.ms
   refine Sl.sub (h0.keep (s':=add t s32) (fp:=λi=>t i≠none) (λi e hi hn=>by rw [qAX (Classical.not_not.1 hn)];exact hi) λb o n c e hne q=>?_) kB
   obtain ⟨c',n',k',q1,q2,q3,q4⟩:=hmv (λq=>hne (by rw [qB8];unfold nz at q;rw [q];rfl))
   rw [q4] at e;cases e
   exact q (qBI.1 q1)) (λb o n c e hne=>by
   obtain ⟨c',n',k',q1,q2,q3,q4⟩:=hmv (λq=>hne (by rw [qB8];unfold nz at q;rw [q];rfl))
   rw [q4] at e;cases e
   exact ⟨qBI.1 q1,q2,q3⟩) l64 (tbt.rw_.rg k) asc hM64 (b22:=b22) (by rw [qAX hb22];exact h35) (qAe kA hb22) λt' z'=>by
   simp only [qAT,qAA]
   rw [qAf (by omega) (by omega)]
   exact ⟨_,by omega,k+1,rfl,by omega,rfl,z'⟩
  have:wv2=wv':=by
   rw [tb1.co] at hw2
   injection hw2 with e
   injection e with _ e
   injection e with _ e
   unfold tabC at e
   simp only [cI,and_true] at e
   exact e.2.2.2.2.symm
  subst this
  simp only [qAJ,qAE,zA,qAA] at happ
  exact happ
 ·have hge:k=N:=by have:=oF hge;omega
  subst hge
  obtain ⟨r',h1,h2,h3,h4⟩:=qVt z (U:=U) (hR'.trans hR) hMf (λn _=>⟨tb.rw_.ln n,tb.rw_.rg n⟩)
  exact hK o' r' t h1 h2 h3 h4
end Go.AM.FB
namespace Go.AM.FB
open Go Go.Proofs
set_option maxRecDepth 100000
variable {K:AV→Hq→Prop} {r s s' t t' H:Hq} {lv ev wv v w:AV} {o N x:Nat} {U:List Bool} {L:List RLk} {Bf:Nat→List Int} {Mf:Nat→List Nat} {ps:List Rl} {R:List EnV}
theorem qRg {v:Int} {m:Nat} (hm:m≤64):qEF .shr (.int .u64 v) (.int .u64 (m:Int))=some (.int .u64 (v.fdiv ((2 ^ m:Nat):Int))):=by
 show frc (v.fdiv ((2 ^ (min m (IntKind.bits .u64)):Nat):Int)) (λn=>some (AV.int .u64 n))=_
 rw [qDL,Nat.min_eq_left (show m≤IntKind.bits .u64 from hm)]
theorem zABc {v:Int}:qEF .shr (.int .u64 v) (.int .u64 24)=some (.int .u64 (v.fdiv ((2 ^ 24:Nat):Int))):=qRg (m:=24) (by omega)
theorem zABn {v:Int}:qEF .shr (.int .u64 v) (.int .u64 16)=some (.int .u64 (v.fdiv ((2 ^ 16:Nat):Int))):=qRg (m:=16) (by omega)
theorem shr8 {v:Int}:qEF .shr (.int .u64 v) (.int .u64 8)=some (.int .u64 (v.fdiv ((2 ^ 8:Nat):Int))):=qRg (m:=8) (by omega)
theorem qXH {v:Int}:numB v 4=[qB7 .u8 (v.fdiv ((2 ^ 24:Nat):Int)),qB7 .u8 (v.fdiv ((2 ^ 16:Nat):Int)),qB7 .u8 (v.fdiv ((2 ^ 8:Nat):Int)),qB7 .u8 v]:=by
 have:v.fdiv ((2 ^ (8 * 0):Nat):Int)=v:=Int.fdiv_one v
 simp only [numB,this]
theorem zAA6 {v:Int}:numB v 3=[qB7 .u8 (v.fdiv ((2 ^ 16:Nat):Int)),qB7 .u8 (v.fdiv ((2 ^ 8:Nat):Int)),qB7 .u8 v]:=by
 have:v.fdiv ((2 ^ (8 * 0):Nat):Int)=v:=Int.fdiv_one v
 simp only [numB,this]
theorem zAAU {v:Int}:numB v 2=[qB7 .u8 (v.fdiv ((2 ^ 8:Nat):Int)),qB7 .u8 v]:=by
 have:v.fdiv ((2 ^ (8 * 0):Nat):Int)=v:=Int.fdiv_one v
 simp only [numB,this]
def b8 (l:List Int):List AV:=l.map (AV.int .u8)
theorem zAAV {a b e v:Int}:(qG8 a b e v).length=13:=by
 unfold qG8
 rw [qXH,qXH,zAAU,zAA6];rfl
theorem zAAi {c0 c1 c2 c3 c4 c5 c6 c7 c8 c9 c10 c11 c12:Int}:qA2 (repl 13 [(.int .u8 0)]) [(0,1,.int .u8 c0),(1,1,.int .u8 c1),(2,1,.int .u8 c2),(3,1,.int .u8 c3),(4,1,.int .u8 c4),(5,1,.int .u8 c5),(6,1,.int .u8 c6),(7,1,.int .u8 c7),(8,1,.int .u8 c8),(9,1,.int .u8 c9),(10,1,.int .u8 c10),(11,1,.int .u8 c11),(12,1,.int .u8 c12)]=some [.int .u8 c0,.int .u8 c1,.int .u8 c2,.int .u8 c3,.int .u8 c4,.int .u8 c5,.int .u8 c6,.int .u8 c7,.int .u8 c8,.int .u8 c9,.int .u8 c10,.int .u8 c11,.int .u8 c12]:=by
 kernel_rfl
theorem qV6 {a b e v:Int} {cs:List AV} (hp:Pk a b e v cs) (hK:∀ s' q,Sub s s'→s' q=some (false,.cells 5 (b8 (qG8 a b e v)))→K (.slc q 0 13 (some 13) 1) s'):wC TP XX 75 [.agg cs] K s:=by
 obtain ⟨p1,p2,p3,p4,p5,p6⟩:=hp
 refine qHD ⟨p2,qAS λb0 s1 hb0 h1 u1=>?_⟩
 have h1:s1 b0=some (false,.cells 44 cs):=h1
 simp only [qAE,zA,qAM h1,p3,p4,p5,p6,qEd,zABc,zABn,shr8,qAA]
 rw [zAAi,qAA]
 refine ⟨rfl,qAS λq s2 hq h2 u2=>hK s2 q ((u1.sub hb0).trans (u2.sub hq)) ?_⟩
 rw [h2]
 unfold qG8 b8
 rw [qXH,qXH,zAAU,zAA6]
 rfl
theorem qW7 {a b e v:Int} {cs:List AV} (hp:Pk a b e v cs) (hK:∀ s',Sub s s'→K (.int .u64 (fnv 14695981039346656037 (qG8 a b e v))) s'):wC TP XX 47 [.agg cs] K s:=by
 obtain ⟨p1,p2,_⟩:=id hp
 refine qHI ⟨p2,qAS λb0 s1 hb0 h1 u1=>qAW (qA7 h1 p1) ?_⟩
 refine qV6 hp λs2 q sub2 hq=>?_
 have s02:=(u1.sub hb0).trans sub2
 have h13:=zAAV (a:=a) (b:=b) (e:=e) (v:=v)
 generalize qG8 a b e v=l at *
 refine ⟨λys t m=>∃ i:Nat,ys=[.int .u64 (fnv 14695981039346656037 (l.take i)),.int .i64 i]∧t=s2∧i≤13∧m=13 - i,⟨_,0,rfl,rfl,by omega,rfl⟩,?_⟩
 rintro g t m ⟨i,hy,rfl,hi,rfl⟩
 simp only [cI,and_true] at hy
 rw [hy.1,hy.2]
 simp only [qEG,qBJ,qAQ,qAA]
 refine qAU (λhlt=>?_) (λhge=>?_)
 ·have hlt:i < 13:=by have:=oT hlt;omega
  have e1:(b8 l)[i]?=some (.int .u8 l[i]):=by unfold b8;rw [List.getElem?_map,gE (by omega)];rfl
  simp only [WH.b_addr hlt,qAM hq,e1,qEd,qNu,qHp,qAT,qAA]
  rw [qAf (by omega) (by omega)]
  refine ⟨_,by omega,i+1,?_,by trivial,by omega,rfl⟩
  have e2:fnv 14695981039346656037 (l.take (i+1))=qKT (fnv 14695981039346656037 (l.take i)) l[i]:=by
   rw [List.take_succ_eq_append_getElem (by omega),qPJ];rfl
  rw [e2]
  rfl
 ·have hge:i=13:=by have:=oF hge;omega
  subst hge
  rw [List.take_of_length_le (by omega)]
  exact hK _ s02
theorem qRh {a dq e vn ttl:Int} {cs:List AV} (z:RTab r o N x L U Bf) (hrs:Sub r s) (hN:N≤32) (hx:x < N) (hG:L.length≤64) (hp:Pk a dq e vn cs) (hc:cs[2]?=some (.int .i64 ttl)) (ht:-9223372036854775808≤ttl∧ttl≤9223372036854775807)
  (hK:∀ s' w,Sub s s'→FwdT N (L.map toL) U x dq ttl Bf (fnv 14695981039346656037 (qG8 a dq e vn)) cs w→K w s'):wC TP XX 17 [.ptr o 0,.agg cs] K s:=by
 obtain ⟨H,lv,ev,wv,R,ps,Mf,tb0,hev,hR,hrow,hps,hwv,hMf⟩:=z.ex
 obtain ⟨p1,p2,p3,p4,p5,p6⟩:=id hp
 have tb:=tb0.sub hrs
 have c0:(tabC (N:Int) (x:Int) lv ev wv)[0]?=some (.int .i64 (N:Int)):=rfl
 have c1:(tabC (N:Int) (x:Int) lv ev wv)[1]?=some (.int .i64 (x:Int)):=rfl
 have c4:(tabC (N:Int) (x:Int) lv ev wv)[4]?=some wv:=rfl
 refine qEx ⟨p2,qAS λb0 s1 hb0 h1 u1=>qAS λb2 s3 hb2 h3 u3=>?_⟩
 have h1:s1 b0=some (false,.cells 44 cs):=h1
 have h3:s3 b2=some (false,.cells 44 zP):=h3
 have sub1:=u1.sub hb0
 have sub3:=sub1.trans (u3.sub hb2)
 have h13:=u3.sub hb2 _ _ h1
 have tb3:=tb.sub sub3
 have hb2s:s b2=none:=qAe sub1 hb2
 have ez:qA2 zP []=some zP:=rfl
 simp only [qAJ,qAE,zA,qAM h13,p4,qAM tb3.co,c1,qAA]
 refine qMg (by omega) λ_=>?_
 rw [qPL]
 have stop:∀ (t':Hq) (er:Int),Sub s3 t'→(∀ s',Sub s s'→K (.tup [.int .i64 0,.agg zP,.int .i64 er]) s')→
   (oK (qA2 [(.int .u32 0),(.int .u32 0),(.int .i64 0),(.int .i64 0),(.int .u32 0),(.int .u32 0),(.int .u64 0),(.int .u64 0),(.int .i64 0),(.int .i64 0),(.int .u64 0),(.int .u32 0),(.int .u64 0),(.int .u32 0),(.int .u32 0),(.int .u32 0),(.int .i64 0),(.int .i64 0),(.int .i64 0),(.int .i64 0),(.int .u64 0)] []) λc_12=>
   oK (qBo t' 21 (.ptr b2 0) (.agg c_12)) λs_13=>
   oK (rdN s_13 21 (.ptr b2 0)) λt5_14=>
   K (.tup [(.int .i64 0),(.agg t5_14),(.int .i64 er)]) s_13):=λt' er kt hk=>by
  refine qAW ez (qAl (kt _ _ h3) rfl rfl rfl λt5 h5 u5=>qAW (qA7 h5 rfl) (hk _ ?_))
  exact qAh (sub3.trans kt) u5 hb2s
 simp only [qAv,qAi,Bool.false_bne,qAA]
 refine qAU (λhq=>?_) (λhq=>?_)
 ·have hq:dq=lbk x:=by simpa using hq
  exact stop s3 9 (.refl _) λs' hs=>hK s' _ hs (.at_ hq)
 have hq:dq≠lbk x:=by simpa using hq
 simp only [qAM h13,hc,qAQ,qAA]
 refine qAU (λht2=>?_) (λht2=>?_)
 ·have ht2:ttl < 2:=oT ht2
  exact stop s3 20 (.refl _) λs' hs=>hK s' _ hs (.time hq ht2)
 have ht2:2≤ttl:=by have:=oF ht2;omega
 refine ⟨λys t m=>∃ n:Nat,ys=[.int .i64 n]∧n≤N∧m=N - n∧Sub s3 t∧∀ m,m < n→m∈ndL N (L.map toL) U x→dq≠lbk m,⟨_,0,rfl,by omega,rfl,.refl _,λm h=>by omega⟩,?_⟩
 rintro g t m ⟨n,hy,hn,rfl,st,hno⟩
 simp only [cI,and_true] at hy
 rw [hy]
 have tbt:=tb3.sub st
 simp only [qCo,qAJ,qAE,zA,qAM tbt.co,c0,qAQ,qAA]
 refine qAU (λhlt=>?_) (λhge=>?_)
 rotate_left
 ·have hge:n=N:=by have:=oF hge;omega
  subst hge
  exact stop t 13 st λs' hs=>hK s' _ hs (.down hq ht2 λm hm=>hno m (qC3.1 hm).1 hm)
 have hlt:n < N:=by have:=oT hlt;omega
 obtain ⟨p,hpn⟩:∃ p,ps[n]?=some p:=⟨_,gE (by omega)⟩
 obtain ⟨pp,g1,g2⟩:=(hwv.sub tbt.hs).get (i:=n) (by rw [lMY];omega)
 have g3:(ps.map λp=>AV.ptr p.1 0)[n]?=some (.ptr p.1 0):=by rw [List.getElem?_map,hpn];rfl
 rw [g3] at g2
 have t13:=st _ _ h13
 simp only [c4,g1,g2,qAA]
 refine qAW (qA7 t13 p1) ?_
 refine qW7 hp λs32 sub32 _=>?_
 have kA:Sub t (add t s32):=qBn
 have ra:=((tbt.sub kA).rw_.rat (tbt.sub kA).hs hpn).rd
 have l64:=tbt.rw_.ln n
 refine WH.rPick_in ra (qUz (by omega)) ?_
 obtain ⟨A,hA⟩:∃ A:Hq,A=add t s32:=⟨_,rfl⟩
 rw [← hA] at kA ⊢
 have a13:=kA _ _ t13
 have ea:(nz (Mf n)=[])↔lnk N (L.map toL) U x n=[]:=by
  rw [hMf n hlt]
  unfold nz
  simp
 have next:(n∈ndL N (L.map toL) U x→dq≠lbk n)→(oK (qAG .add (.int .i64 (n:Int)) (.int .i64 1)) λv_61=>∃ m',m' < N - n∧∃ n:Nat,[v_61]=[.int .i64 n]∧n≤N∧m'=N - n∧Sub s3 A∧∀ m,m < n→m∈ndL N (L.map toL) U x→dq≠lbk m):=λhnn=>by
  simp only [qAT,qAA]
  rw [qAf (by omega) (by omega)]
  refine ⟨_,by omega,n+1,rfl,by omega,rfl,st.trans kA,λm hm h=>?_⟩
  by_cases e:m=n
  ·subst e;exact hnn h
  ·exact hno m (by omega) h
 have pk:∃ (hop:Int) (b:Bool),WH.pickR (Bf n) (nz (Mf n)) (fnv 14695981039346656037 (qG8 a dq e vn))=.tup [.int .i64 hop,.bool b]∧(b=true→hop=hopI Bf n (fnv 14695981039346656037 (qG8 a dq e vn))∧n∈ndL N (L.map toL) U x)∧(b=false→lnk N (L.map toL) U x n=[]):=by
  unfold WH.pickR
  by_cases e0:nz (Mf n)=[]
  ·rw [if_pos e0]
   exact ⟨0,false,rfl,(λh=>by cases h),λ_=>ea.1 e0⟩
  ·rw [if_neg e0,l64]
   exact ⟨_,true,rfl,λ_=>⟨rfl,qC3.2 ⟨hlt,λh=>e0 (ea.2 h)⟩⟩,λh=>by cases h⟩
 obtain ⟨hop,b,epk,hb1,hb2'⟩:=pk
 rw [epk]
 have x0:qAN (.tup [.int .i64 hop,.bool b]) 0=some (.int .i64 hop):=rfl
 have x1:qAN (.tup [.int .i64 hop,.bool b]) 1=some (.bool b):=rfl
 simp only [x0,x1,qAM a13,p4,qAA]
 refine qMg (by omega) λ_=>?_
 rw [qPL]
 simp only [qAv,qAi,Bool.false_bne,qAA]
 by_cases e1:dq=lbk n
 ·have e2:(dq == lbk n)=true:=by rw [e1];simp
  rw [e2]
  simp only [qAI,qAV,qAA]
  cases b with
  | false=>
    simp only [qAB]
    exact next λh=>absurd (hb2' rfl) (qC3.1 h).2
  | true=>
    obtain ⟨rfl,hmem⟩:=hb1 rfl
    simp only [qAI,qAM a13,hc,qBO,qAA]
    rw [qAf (by omega) (by omega)]
    refine qAm a13 (by omega) rfl λs4 h4 u4=>qAW (qA7 h4 (by rw [List.length_set];exact p1)) ?_
    have a3:=kA _ _ (st _ _ h3)
    have ne:b2≠b0:=λq=>by rw [q,h1] at hb2;cases hb2
    have h42:s4 b2=some (false,.cells 44 zP):=by rw [u4 _ ne];exact a3
    refine qAl h42 (by rw [List.length_set];exact p1) rfl (qJm rfl p2) λs5 h5 u5=>qAW (qA7 h5 (by rw [List.length_set];exact p1)) ?_
    exact hK _ _ (qAh (qAh ((sub3.trans st).trans kA) u4 hb0) u5 hb2s) (.go n hq ht2 hmem e1)
 ·have e2:(dq == lbk n)=false:=beq_eq_false_iff_ne.2 e1
  rw [e2]
  simp only [qAB,qAL,qAA]
  exact next λ_=>e1
end Go.AM.FB
namespace Go.AM.FB
open Go Go.Proofs
set_option maxRecDepth 100000
variable {K:AV→Hq→Prop} {r s s' s0 t t' H r1 r2:Hq} {lv ev wv uv v y w:AV} {f o N x:Nat} {G:List Lnk} {U U':List Bool} {L:List RLk} {Bf Bg:Nat→List Int} {Mf:Nat→List Nat} {ps:List Rl} {R:List EnV}
theorem qTP (z:Tab r f N x L U Bf) (hrs:Sub r s) (hN:0 < N) (hu:Sl s uv (U'.map AV.bool)) (hne:U'.length≠L.length) (hK:K (.int .i64 2) s):wpW TP XX 8 [.ptr f 0,uv] K s:=by
 obtain ⟨H,mb,lv,ev,R,ws,Mf,h1,_⟩:=z.ex
 have tb:=h1.sub hrs
 have hcf:=tb.cf
 have c3:(fibC (N:Int) (x:Int) lv ev mb)[3]?=some lv:=rfl
 have ne:(((U'.length:Nat):Int) == ((L.length:Nat):Int))=false:=beq_eq_false_iff_ne.2 λe=>hne (by omega)
 refine qFy (qDx hcf (by omega) ?_)
 simp only [qAj,Bool.not_true,qAB,hu.len,lMY,qAJ,qAE,zA,qAM hcf,c3,(tb.lk.sub tb.hs).len,qAv,ne,qAi,Bool.true_bne,Bool.not_false,qAI,qAA]
 exact hK
theorem qRZ (z:RTab r o N x L U Bf) (hrs:Sub r s) (hu:Sl s uv (U'.map AV.bool)) (hne:U'.length≠L.length) (hK:K (.int .i64 2) s):wC TP XX 10 [.ptr o 0,uv] K s:=by
 obtain ⟨H,lv,ev,wv,R,ps,Mf,h1,_⟩:=z.ex
 have tb:=h1.sub hrs
 have c2:(tabC (N:Int) (x:Int) lv ev wv)[2]?=some lv:=rfl
 have ne:(((U'.length:Nat):Int) == ((L.length:Nat):Int))=false:=beq_eq_false_iff_ne.2 λe=>hne (by omega)
 refine qCq ?_
 simp only [qCP,hu.len,lMY,qAJ,qAE,zA,qAM tb.co,c2,(tb.lk.sub tb.hs).len,qAv,ne,qAi,Bool.true_bne,Bool.not_false,qAI,qAA]
 exact hK
theorem qS0 {b o n:Nat} {tg:Bool} {e:TypeId} {l:List AV} (h:s b=some (tg,.cells e l)) (hn:o+n≤l.length):rdN s n (.ptr b o)=some ((l.drop o).take n):=by
 have h1:Nat.ble (o+n) l.length=true:=bL hn
 simp [rdN,h,qJM,h1]
structure Inv (s0 t r1 r2:Hq) (f o N x:Nat) (L:List RLk) (U:List Bool) (Bf Bg:Nat→List Int):Prop where
 z1:Tab r1 f N x L U Bf
 z2:RTab r2 o N x L U Bg
 eq:∀ n,n < N→Bf n=Bg n
 k0:Sub s0 t
 k1:Sub r1 t
 k2:Sub r2 t
 d1:∀ i,s0 i≠none→r1 i=none
 d2:∀ i,s0 i≠none→r2 i=none
 d3:∀ i,r1 i≠none→r2 i=none
 vl:vld (N:Int) L U
 hx:x < N
 hL:L.length≤60
theorem Inv.more (z:Inv s0 t r1 r2 f o N x L U Bf Bg) (k:Sub t t'):Inv s0 t' r1 r2 f o N x L U Bf Bg:=⟨z.z1,z.z2,z.eq,z.k0.trans k,z.k1.trans k,z.k2.trans k,z.d1,z.d2,z.d3,z.vl,z.hx,z.hL⟩
theorem Inv.d4 (z:Inv s0 t r1 r2 f o N x L U Bf Bg):∀ i,r2 i≠none→r1 i=none:=λi hi=>by
 cases q:r1 i with
 | none=>rfl
 | some e=>exact absurd (z.d3 i (by rw [q];simp)) hi
def LP (s0:Hq) (N x:Nat) (L:List RLk) (A:Nat) (ys:List AV) (t:Hq) (m:Nat):Prop:=∃ (f o i:Nat) (r1 r2:Hq) (U:List Bool) (Bf Bg:Nat→List Int),ys=[.ptr f 0,.ptr o 0,.int .i64 (i:Int)]∧i≤A∧m=A - i∧Inv s0 t r1 r2 f o N x L U Bf Bg
theorem qV8 {i A:Nat} (z:Inv s0 t r1 r2 f o N x L U Bf Bg) (hi:i < A) (hA:A≤1000):qA0 XX (.ptr f 0) (.ptr o 0) (.int .i64 (i:Int)) (LP s0 N x L A) (A - i) K t:=by
 have hN:=z.vl.1
 have hN2:=z.vl.2.1
 have hL:=z.hL
 unfold qA0
 refine qYu z.z1 z.z2 z.k1 z.k2 (by omega) (by omega) (by omega) λs' sub=>?_
 simp only [qAj,Bool.not_true,qAB,qAT,qAA]
 rw [qAf (by omega) (by omega)]
 exact ⟨A - (i+1),by omega,f,o,i+1,r1,r2,U,Bf,Bg,rfl,by omega,rfl,z.more sub⟩
theorem Inv.update {s2:Hq} {r1' r2':Hq} {Bf2 Bg2:Nat→List Int} (z:Inv s0 t r1 r2 f o N x L U Bf Bg) (a:Tab r1' f N x L U' Bf2) (b:RTab r2' o N x L U' Bg2) (ga:Goes r1 t r1' t') (gb:Goes r2 t' r2' s2) (hv:vld (N:Int) L U')
  (fa:∀ n,n < N→WH.Aft (nz (lnk N (L.map toL) U' x n)) (Bf n) (Bf2 n)) (fb:∀ n,n < N→WH.Aft (nz (lnk N (L.map toL) U' x n)) (Bg n) (Bg2 n)):Inv s0 s2 r1' r2' f o N x L U' Bf2 Bg2:=by
 obtain ⟨a1,a2⟩:=ga.old z.k0 z.d1
 obtain ⟨a3,a4⟩:=ga.old z.k2 z.d4
 obtain ⟨b1,b2⟩:=gb.old a1 z.d2
 have d5:∀ i,r1' i≠none→r2 i=none:=λi hi=>by
  cases q:r2 i with
  | none=>rfl
  | some e=>exact absurd (a4 i (by rw [q];simp)) hi
 obtain ⟨b3,b4⟩:=gb.old ga.sub d5
 refine ⟨a,b,λn hn=>?_,b1,b3,gb.sub,a2,b2,b4,hv,z.hx,z.hL⟩
 have fb:=fb n hn
 rw [← z.eq n hn] at fb
 have hL:=z.hL
 exact WH.Aft.uniq (qYF qRl λi hi=>by have:=qSW hi;rw [lMY] at this;omega) (fa n hn) fb
theorem zAAc {b i A:Nat} {row:List AV} {links1 t76:AV} (z:Inv s0 t r1 r2 f o N x L U Bf Bg) (hi:i < A) (hA:A≤1000) (hb:t b=some (false,.cells 46 row)) (h0:s0 b=none) (h1:r1 b=none) (h2:r2 b=none) (hr:row[1]?=some uv) (hu:Sl s0 uv (U'.map AV.bool)) (hul:U'.length≤1000) :
  qAc XX links1 (.ptr f 0) (.ptr o 0) (.int .i64 (i:Int)) (.ptr b 0) t76 (.bool true) (LP s0 N x L A) (A - i) K t:=by
 have hN:=z.vl.1
 have hN2:=z.vl.2.1
 have hL:=z.hL
 unfold qAc
 simp only [qAI]
 obtain ⟨h,hh⟩:∃ h:Hq,h=λj=>if j=b then t j else none:=⟨_,rfl⟩
 have hhb:h b=some (false,.cells 46 row):=by rw [hh];show (if b=b then t b else none)=_;rw [if_pos rfl];exact hb
 have hhn:∀ {j},j≠b→h j=none:=fun {j} hj=>by rw [hh];exact if_neg hj
 have hsub:Sub h t:=λj e hj=>by
  by_cases q:j=b
  ·subst q;rw [hb,← hhb];exact hj
  ·rw [hhn q] at hj;cases hj
 have hm:∀ {j},j≠b→minus t h j=t j:=fun {j} hj=>by unfold minus;rw [if_pos (hhn hj)]
 have zm:Inv s0 (minus t h) r1 r2 f o N x L U Bf Bg:=by
  refine ⟨z.z1,z.z2,z.eq,λj e hj=>?_,λj e hj=>?_,λj e hj=>?_,z.d1,z.d2,z.d3,z.vl,z.hx,z.hL⟩
  ·rw [hm (λq=>by rw [q,h0] at hj;cases hj)];exact z.k0 _ _ hj
  ·rw [hm (λq=>by rw [q,h1] at hj;cases hj)];exact z.k1 _ _ hj
  ·rw [hm (λq=>by rw [q,h2] at hj;cases hj)];exact z.k2 _ _ hj
 have rdh:rd1 h (.ptr b 1)=some uv:=by rw [qAM hhb];exact hr
 refine ⟨h,hsub,.ptr f 0,.ptr b 1,uv,.ptr o 0,.ptr b 1,uv,?_,?_,⟨trivial,rfl⟩,?_,?_,⟨trivial,rfl⟩,?_⟩
 ·rw [rdh];exact ⟨trivial,rfl⟩
 ·exact ⟨trivial,rfl⟩
 ·rw [rdh];exact ⟨trivial,rfl⟩
 ·exact ⟨trivial,rfl⟩
 refine qZp (hu.sub zm.k0) (by omega) λv s2 sub2 hv hvf=>?_
 have zo:=zm.more sub2
 have hfl:r1 f≠none:=by
  obtain ⟨_,_,_,_,_,_,_,tb,_⟩:=z.z1.ex
  rw [tb.cf];simp
 by_cases hlen:U'.length=L.length
 ·have hv':vld (N:Int) L U':=⟨z.vl.1,z.vl.2.1,z.vl.2.2.1,hlen,z.vl.2.2.2.2⟩
  refine qOW zo.z1 zo.k1 hv' z.hx (by omega) hv (λb' o' n c e hne q=>?_) λr1' s3 Bf2 ta ga fa=>?_
  ·have:=hvf b' o' n c e hne
   rw [q] at this
   cases q2:r1 f with
   | none=>exact hfl q2
   | some e=>rw [zm.k1 _ _ q2] at this;cases this
  obtain ⟨a1,_⟩:=ga.old zo.k0 z.d1
  obtain ⟨a3,_⟩:=ga.old zo.k2 z.d4
  refine qTq z.z2 a3 hv' z.hx (by omega) (hu.sub a1) λr2' s4 Bg2 tb gb fb=>?_
  have e0:negB true (eqV 0 false (.int .i64 0) (.int .i64 0))=some (.bool false):=rfl
  simp only [e0,qAB,qAA]
  exact qV8 ((zo.update ta tb ga gb hv' fa fb).more qBn) hi hA
 ·refine qTP zo.z1 zo.k1 (by omega) hv hlen ?_
  refine qRZ zo.z2 zo.k2 (hu.sub zo.k0) hlen ?_
  have e0:negB true (eqV 0 false (.int .i64 2) (.int .i64 2))=some (.bool false):=rfl
  simp only [e0,qAB,qAA]
  exact qV8 (zo.more qBn) hi hA
theorem qUl {q:Int} {l:List Nat} (hR:R.map kyE=ofP N G U x N) (k1:∀ n,n < N→q=lbk n→l=lnk N G U x n) (k2:l≠[]↔∃ n∈ndL N G U x,q=lbk n):qML R q=l:=by
 by_cases h:∃ n,n < N∧q=lbk n
 ·obtain ⟨n,hn,rfl⟩:=h
  rw [qSz hR hn,k1 n hn rfl]
 ·have hl:l=[]:=by
   by_cases c:l=[]
   ·exact c
   ·obtain ⟨n,hn,e⟩:=k2.1 c
    exact absurd ⟨n,(qC3.1 hn).1,e⟩ h
  rw [hl]
  unfold qML
  rw [List.find?_eq_none.2 λy hy=>by
   obtain ⟨n,hn,e1,_⟩:=FibR.row hR hy
   have:¬ y.1=q:=λe=>h ⟨n,(qC3.1 hn).1,by rw [← e,e1]⟩
   simpa using this]
theorem zABo {b i A:Nat} {row:List AV} {links1:AV} {dq:Int} (z:Inv s0 t r1 r2 f o N x L U Bf Bg) (hi:i < A) (hA:A≤1000) (hb:t b=some (false,.cells 46 row)) (hr:row[3]?=some (.int .u32 dq)) :
  qAc XX links1 (.ptr f 0) (.ptr o 0) (.int .i64 (i:Int)) (.ptr b 0) (.int .i64 4) (.bool false) (LP s0 N x L A) (A - i) K t:=by
 have hN:=z.vl.1
 have hN2:=z.vl.2.1
 have hL:=z.hL
 obtain ⟨lv,ev,wv,R,ho,hev,hR,hrow⟩:=z.z2.es
 have ren:REn r2 o R:=⟨false,_,_,_,_,_,ho,hev,hrow⟩
 have hRl:R.length≤32:=by
  have:=congrArg List.length hR
  rw [lMY] at this
  have:=qHz (N:=N) (G:=L.map toL) (U:=U) (x:=x) (k:=N)
  omega
 have hlk:∀ y∈R,y.2.2.length≤1000:=λy hy=>by
  have:=qLG hR hy
  rw [lMY] at this
  omega
 unfold qAc
 have e4:negB false (eqV 0 true (.int .i64 4) (.int .i64 4))=some (.bool true):=rfl
 have hbf:frz t b=some (true,.cells 46 row):=qBX hb
 simp only [qAB,e4,qAI,qAE,zA,qAM hb,show 2+1=3 from rfl,hr,qAA]
 refine qOS (z.z1.rd.sub z.k1).frz (by omega) (by omega) (by rw [lMY];omega) λs1 w l sub1 slw hl hlu hln hfr _=>?_
 have T:Sub t (add t s1):=qBn
 have hc:Sub t (cutH [(t,add t s1)] (add t s1)):=λi e hi=>qJY (T _ _ hi) λp hp=>by
  rw [List.mem_singleton] at hp;subst hp
  simp only [hi];exact Option.some_ne_none _
 have zt:=z.more T
 simp only [qAM (hc _ _ hb),hr,qAA]
 have hlook:=qUl hR hlu hln
 refine qOi (ren.sub zt.k2) (by omega) hlk λs2 w2 sub2 sl2 _=>?_
 rw [hlook] at sl2
 have slw2:Sl (add t s1) w (iz l):=slw.keep (fp:=λi=>t i≠none) (λi e hi hn=>by rw [qAX (Classical.not_not.1 hn)];exact hi) λb o n c e hne q=>by
  obtain ⟨c',h1,h2,_⟩:=hfr (λq=>hne (by rw [q];rfl))
  rw [h2] at e;cases e
  exact q (qBI.1 h1)
 have ei:∀ {T:List Nat},iz T=izs (T.map λ(n:Nat)=>(n:Int)):=fun {T}=>by
  unfold iz
  exact (List.map_map ..).symm
 have slw3:=slw2.sub sub2
 rw [ei] at slw3 sl2
 refine qSF slw3 sl2 (by rw [lMY];omega) λb hb=>?_
 rw [hb.2 rfl]
 simp only [qAj,Bool.not_true,qAB,qAA]
 exact qV8 (zt.more sub2) hi hA
end Go.AM.FB
namespace Go.AM.FB
open Go Go.Proofs
set_option maxRecDepth 100000
variable {K:AV→Hq→Prop} {s0 t r1 r2:Hq} {lv v w:AV} {f o N x:Nat} {U:List Bool} {L:List RLk} {Bf Bf' Bg:Nat→List Int}
theorem zAB9 {b i A:Nat} (z:Inv s0 t r1 r2 f o N x L U Bf Bg) (hi:i < A) (hA:A≤1000) (hl:SlR 3 s0 lv (L.map rwR)) :
  qAc XX lv (.ptr f 0) (.ptr o 0) (.int .i64 (i:Int)) (.ptr b 0) (.int .i64 5) (.bool false) (LP s0 N x L A) (A - i) K t:=by
 have hN:=z.vl.1
 have hN2:=z.vl.2.1
 have hL:=z.hL
 unfold qAc
 have e4:negB false (eqV 0 true (.int .i64 5) (.int .i64 4))=some (.bool false):=rfl
 have e5:negB false (eqV 0 true (.int .i64 5) (.int .i64 5))=some (.bool true):=rfl
 simp only [qAB,e4,e5,qAI,qAA]
 refine qYE z.z1 z.k1 (by omega) (by omega) (by omega) λr1' s1 f' ta sub1 k1 fr1=>?_
 refine qUO z.z2 (z.k2.trans sub1) (by omega) (by omega) λo' r2' s2 tb sub2 k2 fr2=>?_
 have s02:=sub1.trans sub2
 simp only [hl.len,lMY,nat?_mk,qAA]
 refine ⟨⟨Nat.le_refl _,by omega⟩,qAS λub s3 hub h3 u3=>?_⟩
 have sub3:=s02.trans (u3.sub hub)
 have hu1:Sl s3 (.slc ub 0 L.length (some L.length) 1) ((List.replicate L.length false).map AV.bool):=by
  rw [qFE] at h3
  refine Sl.mk (l:=(List.replicate L.length false).map AV.bool) (t:=false) (e:=4) ?_ (by simp) (by simp)
  rw [h3,List.map_replicate]
 have hv':vld (N:Int) L (List.replicate L.length false):=⟨z.vl.1,z.vl.2.1,z.vl.2.2.1,by simp,z.vl.2.2.2.2⟩
 have hfl:t f≠none:=by
  obtain ⟨_,_,_,_,_,_,_,tb,_⟩:=z.z1.ex
  rw [z.k1 _ _ tb.cf];simp
 have hubt:t ub=none:=qAe s02 hub
 refine qOW z.z1 (z.k1.trans sub3) hv' z.hx (by omega) hu1 (λb' o' n c e hne q=>?_) λr1n s4 Bf2 _ ga _=>?_
 ·cases e;rw [q] at hubt;exact hfl hubt
 have f1:∀ i,r1' i≠none→r1 i=none:=λi hi=>qAe z.k1 (fr1 i hi)
 have f2:∀ i,r2' i≠none→r1 i=none:=λi hi=>qAe (z.k1.trans sub1) (fr2 i hi)
 have g0:=(ga.old (z.k0.trans sub3) z.d1).1
 have g1:=(ga.old ((k1.trans sub2).trans (u3.sub hub)) f1).1
 have g2:=(ga.old (k2.trans (u3.sub hub)) f2).1
 refine qV8 (U:=U) (Bf:=Bf) (Bg:=Bg) ⟨ta,tb,z.eq,g0,g1,g2,λi hi=>?_,λi hi=>?_,λi hi=>?_,z.vl,z.hx,z.hL⟩ hi hA
 ·cases q:r1' i with
  | none=>rfl
  | some e=>exact absurd (qAe z.k0 (fr1 i (by rw [q];simp))) hi
 ·cases q:r2' i with
  | none=>rfl
  | some e=>exact absurd (qAe (z.k0.trans sub1) (fr2 i (by rw [q];simp))) hi
 ·cases q:r2' i with
  | none=>rfl
  | some e=>exact absurd (qAe k1 (fr2 i (by rw [q];simp))) hi
theorem zAAT {b i A:Nat} {row pk:List AV} {links1:AV} {a dq e vn ttl:Int} {n6:Nat} (z:Inv s0 t r1 r2 f o N x L U Bf Bg) (hi:i < A) (hA:A≤1000) (hb:t b=some (false,.cells 46 row)) (hn4:(n6:Int)≠4) (hn5:(n6:Int)≠5)
  (hrl:row.length=23) (hrp:(row.drop 2).take 21=pk) (hp:Pk a dq e vn pk) (hc:pk[2]?=some (.int .i64 ttl)) (ht:-9223372036854775808≤ttl∧ttl≤9223372036854775807) (hdq:0≤dq∧dq < 4294967296) (hz:aDef TP 30 44 (.agg zP)=true) (hd:∀ v,aDef TP 30 44 (.agg (pk.set 2 (.int .i64 v)))=true) :
  qAc XX links1 (.ptr f 0) (.ptr o 0) (.int .i64 (i:Int)) (.ptr b 0) (.int .i64 (n6:Int)) (.bool false) (LP s0 N x L A) (A - i) K t:=by
 have hN:=z.vl.1
 have hN2:=z.vl.2.1
 have hL:=z.hL
 unfold qAc
 have e4:((n6:Int) == 4)=false:=beq_eq_false_iff_ne.2 hn4
 have e5:((n6:Int) == 5)=false:=beq_eq_false_iff_ne.2 hn5
 simp only [qAB,qAv,e4,e5,qAi,Bool.false_bne,qAE,zA,qAA]
 rw [qS0 hb (by omega),hrp,qAA]
 refine qQ5 (z.z1.rd.sub z.k1) (by omega) (by omega) (by rw [lMY];omega) hp hc ht hdq λs1 w sub1 fw=>?_
 obtain ⟨lk,q,er,rfl,hql,hqo,_⟩:=fw.shape hp.1 hp.2.1
 have qd:aDef TP 30 44 (.agg q)=true:=by
  generalize hw:AV.tup [.int .i64 lk,.agg q,.int .i64 er]=w at fw
  cases fw with
  | at_ _=>injection hw with hw;simp only [cI,AV.agg.injEq,and_true] at hw;rw [hw.2.1];exact hz
  | time _ _=>injection hw with hw;simp only [cI,AV.agg.injEq,and_true] at hw;rw [hw.2.1];exact hz
  | down _ _ _=>injection hw with hw;simp only [cI,AV.agg.injEq,and_true] at hw;rw [hw.2.1];exact hz
  | go m _ _ _ _=>injection hw with hw;simp only [cI,AV.agg.injEq,and_true] at hw;rw [hw.2.1];exact hd _
 have x0:qAN (.tup [.int .i64 lk,.agg q,.int .i64 er]) 0=some (.int .i64 lk):=rfl
 have x1:qAN (.tup [.int .i64 lk,.agg q,.int .i64 er]) 1=some (.agg q):=rfl
 have x2:qAN (.tup [.int .i64 lk,.agg q,.int .i64 er]) 2=some (.int .i64 er):=rfl
 simp only [x0,x1,x2,qAA]
 refine qAS λb84 s2 hb84 h84 u84=>qAl h84 hql rfl hqo λs3 h3 u3=>?_
 have sub2:Sub t s3:=sub1.trans (qAh (u84.sub hb84) u3 hb84)
 have hb3:=sub2 _ _ hb
 rw [qS0 hb3 (by omega),hrp,qAA]
 refine qRh z.z2 (z.k2.trans sub2) (by omega) z.hx (by omega) hp hc ht λs4 w2 sub4 fw2=>?_
 have fw3:=fw2.congr (Bf':=Bf) λn hn=>z.eq n (qC3.1 hn).1
 have:=fw3.uniq fw
 subst this
 simp only [x0,x1,x2,qAA]
 refine qAS λb94 s5 hb94 h94 u94=>qAl h94 hql rfl hqo λs6 h6 u6=>?_
 have sub5:Sub s3 s6:=sub4.trans (qAh (u94.sub hb94) u6 hb94)
 have h36:=sub5 _ _ h3
 have ee:qW1 TP 44 (.agg q) (.agg q)=some true:=qWV _ 30 44 (.agg q) qd
 simp only [qAv,beq_self_eq_true,qAi,Bool.true_bne,Bool.not_true,qAB,qAA]
 rw [qA7 h36 hql,qAA,qA7 h6 hql,qAA,ee]
 simp only [qAi,Bool.true_bne,Bool.not_true,qAB,qAA,qB5,qB9,qAL,qAv,beq_self_eq_true]
 exact qV8 (z.more (sub2.trans sub5)) hi hA
end Go.AM.FB
namespace Go.AM.FB
open Go Go.Proofs
set_option maxRecDepth 100000
variable {s:Hq}
abbrev qZA:={l:List AV // l.length=23}
structure ActR (s:Hq) (row:List AV):Prop where
 ex:∃ (kd:Int) (uv:AV) (U':List Bool) (pk:List AV) (a dq e vn ttl:Int),row=.int .i64 kd :: uv :: pk∧(-9223372036854775808≤kd∧kd≤9223372036854775807)∧Sl s uv (U'.map AV.bool)∧Pk a dq e vn pk∧pk[2]?=some (.int .i64 ttl)∧(-9223372036854775808≤ttl∧ttl≤9223372036854775807)∧(0≤dq∧dq < 4294967296)∧∀ v,aDef TP 30 44 (.agg (pk.set 2 (.int .i64 v)))=true
theorem zAB3 {n:Int} (h:(Lit.int .u32 n).wf=true):0≤n∧n < 4294967296:=by
 unfold Lit.wf at h
 simp [IntKind.min,IntKind.max,IntKind.bits,IntKind.signed] at h
 omega
theorem qRp:TP.cellsOf 46=23:=by kernel_rfl
theorem zABQ {d:Nat} {xs:List AV} (h:Inp TP s (d+2) 38 xs):∃ a0 a1 a2 a3 a4:Int,xs=[.int .i64 a0,.int .u64 a1,.int .u32 a2,.int .u64 a3,.int .u32 a4]:=by
 unfold Inp at h
 simp only [Tryz.underlying38] at h
 obtain ⟨h1,h2⟩:=h
 rw [show TP.cellsOf 38=5 by kernel_rfl] at h1
 have k0:=h2 _ List.mem_cons_self
 have k1:=h2 _ (mO _ List.mem_cons_self)
 have k2:=h2 _ (mO _ (mO _ List.mem_cons_self))
 have k3:=h2 _ (mO _ (mO _ (mO _ List.mem_cons_self)))
 have k4:=h2 _ (mO _ (mO _ (mO _ (mO _ List.mem_cons_self))))
 match xs,h1 with
 | [c0,c1,c2,c3,c4],_=>
   obtain ⟨n0,e0,_⟩:=qB4 (xs:=[c0]) Tryz.underlying3 k0
   obtain ⟨n1,e1,_⟩:=qB4 (xs:=[c1]) Tryz.underlying36 k1
   obtain ⟨n2,e2,_⟩:=qB4 (xs:=[c2]) Tryz.underlying34 k2
   obtain ⟨n3,e3,_⟩:=qB4 (xs:=[c3]) Tryz.underlying36 k3
   obtain ⟨n4,e4,_⟩:=qB4 (xs:=[c4]) Tryz.underlying34 k4
   cases e0;cases e1;cases e2;cases e3;cases e4
   exact ⟨n0,n1,n2,n3,n4,rfl⟩
theorem zABA {d:Nat} {xs:List AV} (h:Inp TP s (d+2) 40 xs):∃ a0 a1 a2 a3 a4 a5:Int,xs=[.int .u32 a0,.int .u32 a1,.int .i64 a2,.int .i64 a3,.int .i64 a4,.int .i64 a5]:=by
 unfold Inp at h
 simp only [Tryz.underlying40] at h
 obtain ⟨h1,h2⟩:=h
 rw [show TP.cellsOf 40=6 by kernel_rfl] at h1
 have k0:=h2 _ List.mem_cons_self
 have k1:=h2 _ (mO _ List.mem_cons_self)
 have k2:=h2 _ (mO _ (mO _ List.mem_cons_self))
 have k3:=h2 _ (mO _ (mO _ (mO _ List.mem_cons_self)))
 have k4:=h2 _ (mO _ (mO _ (mO _ (mO _ List.mem_cons_self))))
 have k5:=h2 _ (mO _ (mO _ (mO _ (mO _ (mO _ List.mem_cons_self)))))
 match xs,h1 with
 | [c0,c1,c2,c3,c4,c5],_=>
   obtain ⟨n0,e0,_⟩:=qB4 (xs:=[c0]) Tryz.underlying34 k0
   obtain ⟨n1,e1,_⟩:=qB4 (xs:=[c1]) Tryz.underlying34 k1
   obtain ⟨n2,e2,_⟩:=qB4 (xs:=[c2]) Tryz.underlying3 k2
   obtain ⟨n3,e3,_⟩:=qB4 (xs:=[c3]) Tryz.underlying3 k3
   obtain ⟨n4,e4,_⟩:=qB4 (xs:=[c4]) Tryz.underlying3 k4
   obtain ⟨n5,e5,_⟩:=qB4 (xs:=[c5]) Tryz.underlying3 k5
   cases e0;cases e1;cases e2;cases e3;cases e4;cases e5
   exact ⟨n0,n1,n2,n3,n4,n5,rfl⟩
theorem zABY {d:Nat} {xs:List AV} (h:Inp TP s (d+3) 42 xs):∃ a0 a1 a2 a3 a4 a5 a6 a7 a8 a9 a10 a11 a12 a13 a14:Int,xs=[.int .u64 a0,.int .u64 a1,.int .i64 a2,.int .i64 a3,.int .u64 a4,.int .u32 a5,.int .u64 a6,.int .u32 a7,.int .u32 a8,.int .u32 a9,.int .i64 a10,.int .i64 a11,.int .i64 a12,.int .i64 a13,.int .u64 a14]:=by
 unfold Inp at h
 simp only [Tryz.underlying42] at h
 obtain ⟨h1,h2⟩:=h
 rw [show TP.cellsOf 42=15 by kernel_rfl] at h1
 have k0:=h2 _ List.mem_cons_self
 have k1:=h2 _ (mO _ List.mem_cons_self)
 have k2:=h2 _ (mO _ (mO _ List.mem_cons_self))
 have k3:=h2 _ (mO _ (mO _ (mO _ List.mem_cons_self)))
 have k4:=h2 _ (mO _ (mO _ (mO _ (mO _ List.mem_cons_self))))
 have k5:=h2 _ (mO _ (mO _ (mO _ (mO _ (mO _ List.mem_cons_self)))))
 match xs,h1 with
 | [c0,c1,c2,c3,c4,c5,c6,c7,c8,c9,c10,c11,c12,c13,c14],_=>
   obtain ⟨n0,e0,_⟩:=qB4 (xs:=[c0]) Tryz.underlying36 k0
   obtain ⟨n1,e1,_⟩:=qB4 (xs:=[c1]) Tryz.underlying36 k1
   obtain ⟨n2,e2,_⟩:=qB4 (xs:=[c2]) Tryz.underlying3 k2
   obtain ⟨n3,n4,n5,n6,n7,e3⟩:=zABQ (d:=d) (xs:=[c3,c4,c5,c6,c7]) k3
   obtain ⟨n8,n9,n10,n11,n12,n13,e4⟩:=zABA (d:=d) (xs:=[c8,c9,c10,c11,c12,c13]) k4
   obtain ⟨n14,e5,_⟩:=qB4 (xs:=[c14]) Tryz.underlying35 k5
   cases e0;cases e1;cases e2;cases e3;cases e4;cases e5
   exact ⟨n0,n1,n2,n3,n4,n5,n6,n7,n8,n9,n10,n11,n12,n13,n14,rfl⟩
def pkt (a0 a1 a2 a3 a4 a5 a6 a7 a8 a9 a10 a11 a12 a13 a14 a15 a16 a17 a18 a19 a20:Int):List AV:=[.int .u32 a0,.int .u32 a1,.int .i64 a2,.int .i64 a3,.int .u32 a4,.int .u32 a5,.int .u64 a6,.int .u64 a7,.int .i64 a8,.int .i64 a9,.int .u64 a10,.int .u32 a11,.int .u64 a12,.int .u32 a13,.int .u32 a14,.int .u32 a15,.int .i64 a16,.int .i64 a17,.int .i64 a18,.int .i64 a19,.int .u64 a20]
theorem zAAq {d:Nat} {xs:List AV} (h:Inp TP s (d+4) 44 xs):∃ a0 a1 a2 a3 a4 a5 a6 a7 a8 a9 a10 a11 a12 a13 a14 a15 a16 a17 a18 a19 a20:Int,xs=pkt a0 a1 a2 a3 a4 a5 a6 a7 a8 a9 a10 a11 a12 a13 a14 a15 a16 a17 a18 a19 a20∧(Lit.int .u32 a1).wf=true∧(Lit.int .i64 a2).wf=true:=by
 unfold Inp at h
 simp only [Tryz.underlying44] at h
 obtain ⟨g1,g2⟩:=h
 rw [show TP.cellsOf 44=21 by kernel_rfl] at g1
 have k0:=g2 _ List.mem_cons_self
 have k1:=g2 _ (mO _ List.mem_cons_self)
 have k2:=g2 _ (mO _ (mO _ List.mem_cons_self))
 have k3:=g2 _ (mO _ (mO _ (mO _ List.mem_cons_self)))
 have k4:=g2 _ (mO _ (mO _ (mO _ (mO _ List.mem_cons_self))))
 have k5:=g2 _ (mO _ (mO _ (mO _ (mO _ (mO _ List.mem_cons_self)))))
 have k6:=g2 _ (mO _ (mO _ (mO _ (mO _ (mO _ (mO _ List.mem_cons_self))))))
 match xs,g1 with
 | [c0,c1,c2,c3,c4,c5,c6,c7,c8,c9,c10,c11,c12,c13,c14,c15,c16,c17,c18,c19,c20],_=>
   obtain ⟨n0,e0,w0⟩:=qB4 (xs:=[c0]) Tryz.underlying34 k0
   obtain ⟨n1,e1,w1⟩:=qB4 (xs:=[c1]) Tryz.underlying34 k1
   obtain ⟨n2,e2,w2⟩:=qB4 (xs:=[c2]) Tryz.underlying3 k2
   obtain ⟨n3,e3,w3⟩:=qB4 (xs:=[c3]) Tryz.underlying3 k3
   obtain ⟨n4,e4,w4⟩:=qB4 (xs:=[c4]) Tryz.underlying33 k4
   obtain ⟨n5,e5,w5⟩:=qB4 (xs:=[c5]) Tryz.underlying33 k5
   obtain ⟨n6,n7,n8,n9,n10,n11,n12,n13,n14,n15,n16,n17,n18,n19,n20,e6⟩:=zABY (d:=d) (xs:=[c6,c7,c8,c9,c10,c11,c12,c13,c14,c15,c16,c17,c18,c19,c20]) k6
   cases e0;cases e1;cases e2;cases e3;cases e4;cases e5;cases e6
   exact ⟨n0,n1,n2,n3,n4,n5,n6,n7,n8,n9,n10,n11,n12,n13,n14,n15,n16,n17,n18,n19,n20,rfl,w1,w2⟩
theorem zAAX {d:Nat} {xs:List AV} (h:Inp TP s (d+5) 46 xs):∃ a:qZA,xs=a.val∧ActR s a.val:=by
 unfold Inp at h
 simp only [Tryz.underlying46] at h
 obtain ⟨g1,g2⟩:=h
 rw [qRp] at g1
 have k0:=g2 _ List.mem_cons_self
 have k1:=g2 _ (mO _ List.mem_cons_self)
 have k2:=g2 _ (mO _ (mO _ List.mem_cons_self))
 match xs,g1 with
 | [c0,c1,c2,c3,c4,c5,c6,c7,c8,c9,c10,c11,c12,c13,c14,c15,c16,c17,c18,c19,c20,c21,c22],_=>
   obtain ⟨kd,e0,w0⟩:=qB4 (xs:=[c0]) Tryz.underlying3 k0
   obtain ⟨uv,e1,U',hu,_,_⟩:=qVl (xs:=[c1]) (d:=d+3) Tryz.underlying32 (by kernel_rfl) AV.bool (λ_=>True) (λxs h=>qXE (d:=d+2) Tryz.underlying4 h) k1
   obtain ⟨n0,n1,n2,n3,n4,n5,n6,n7,n8,n9,n10,n11,n12,n13,n14,n15,n16,n17,n18,n19,n20,e2,w1,w2⟩:=zAAq (d:=d) (xs:=[c2,c3,c4,c5,c6,c7,c8,c9,c10,c11,c12,c13,c14,c15,c16,c17,c18,c19,c20,c21,c22]) k2
   cases e0;cases e1;cases e2
   exact ⟨⟨.int .i64 kd :: c1 :: pkt n0 n1 n2 n3 n4 n5 n6 n7 n8 n9 n10 n11 n12 n13 n14 n15 n16 n17 n18 n19 n20,rfl⟩,rfl,⟨kd,c1,U',pkt n0 n1 n2 n3 n4 n5 n6 n7 n8 n9 n10 n11 n12 n13 n14 n15 n16 n17 n18 n19 n20,n0,n1,n3,n4,n2,rfl,bd64 w0,hu,⟨rfl,rfl,rfl,rfl,rfl,rfl⟩,rfl,bd64 w2,zAB3 w1,λv=>rfl⟩⟩
end Go.AM.FB
namespace Go.AM.FB
open Go Go.Proofs
set_option maxRecDepth 100000
variable {K:AV→Hq→Prop} {r r' s s' s0 t r1 r2:Hq} {lv av uv v y:AV} {f o N x:Nat} {U U':List Bool} {d:Nat→Int} {L:List RLk} {Bf Bg:Nat→List Int} {acts:List qZA}
theorem qUm (hK:K (.bool true) s):wC TP XX 4 [] K s:=qVQ rfl hK
theorem qZD {i:Nat} (z:Inv s0 t r1 r2 f o N x L U Bf Bg) (hl:SlR 3 s0 lv (L.map rwR)) (ha:SlR 23 s0 av (acts.map Subtype.val)) (hact:∀ a∈acts,ActR s0 a.val) (hi:i < acts.length) (hA:acts.length≤40) (hK:∀ s',K (.bool true) s') :
  qAz XX lv av (.ptr f 0) (.ptr o 0) (.int .i64 (i:Int)) (.bool true) (.bool true) (LP s0 N x L acts.length) (acts.length - i) K t:=by
 obtain ⟨a,hai⟩:∃ a,acts[i]?=some a:=⟨_,gE hi⟩
 obtain ⟨kd,uv,U',pk,pa,dq,e,vn,ttl,hrow,hkd,hu,hp,hc,ht,hdq,hd⟩:=(hact a (mG hai)).ex
 obtain ⟨pb,po,g1,g2,_⟩:=(ha.sub z.k0).get (i:=i) (r:=a.val) (by rw [List.getElem?_map,hai];rfl)
 have hlen:=a.property
 unfold qAz
 simp only [qAV,qAI,g1,g2,qAA]
 refine qAS λb s1 hb h1 u1=>qAl h1 hlen rfl ?_ λs2 h2 u2=>?_
 ·rw [hrow]
  show ((AV.int .i64 kd).one&&(uv.one&&qAb pk))=true
  rw [hu.one,hp.2.1];rfl
 have sub2:Sub t s2:=qAh (u1.sub hb) u2 hb
 have zz:=z.more sub2
 have b0:s0 b=none:=qAe z.k0 hb
 have b1:r1 b=none:=qAe z.k1 hb
 have b2:r2 b=none:=qAe z.k2 hb
 have q0:a.val[0]?=some (.int .i64 kd):=by rw [hrow];rfl
 have q1:a.val[1]?=some uv:=by rw [hrow];rfl
 have q3:a.val[3]?=some (.int .u32 dq):=by rw [hrow];exact hp.2.2.2.1
 have qp:(a.val.drop 2).take 21=pk:=by
  rw [hrow]
  exact List.take_of_length_le (by show pk.length≤21;have:=hp.1;omega)
 simp only [qAE,zA,qAM h2,q1,q0,(hu.sub zz.k0).len,lMY,qAx,qAA]
 refine qAU (λc=>qUm (hK _)) (λc=>?_)
 have hul:U'.length≤60:=by have:=oF c;omega
 have pick:=qZf (s:=s2) (N:=6) (K:=λv_32 s_33=>
   oK (negB false (eqV 0 true v_32 (.int .i64 0))) λv_34=>
   qAP v_34
    (qAc XX lv (.ptr f 0) (.ptr o 0) (.int .i64 (i:Int)) (.ptr b 0) v_32 v_34 (LP s0 N x L acts.length) (acts.length - i) K s_33)
    (oK (negB false (eqV 0 true v_32 (.int .i64 1))) λv_104=>
     qAc XX lv (.ptr f 0) (.ptr o 0) (.int .i64 (i:Int)) (.ptr b 0) v_32 v_104 (LP s0 N x L acts.length) (acts.length - i) K s_33)) hkd (by omega) (by omega) λr hr=>?_
 ·exact pick
 match r,hr with
 | 0,_=>
   have e0:negB false (eqV 0 true (.int .i64 ((0:Nat):Int)) (.int .i64 0))=some (.bool true):=rfl
   simp only [e0,qAI,qAA]
   exact zAAc zz hi (by omega) h2 b0 b1 b2 q1 hu (by omega)
 | 1,_=>
   have e0:negB false (eqV 0 true (.int .i64 ((1:Nat):Int)) (.int .i64 0))=some (.bool false):=rfl
   have e1:negB false (eqV 0 true (.int .i64 ((1:Nat):Int)) (.int .i64 1))=some (.bool true):=rfl
   simp only [e0,e1,qAB,qAA]
   exact zAAc zz hi (by omega) h2 b0 b1 b2 q1 hu (by omega)
 | 2,_=>
   have e0:negB false (eqV 0 true (.int .i64 ((2:Nat):Int)) (.int .i64 0))=some (.bool false):=rfl
   have e1:negB false (eqV 0 true (.int .i64 ((2:Nat):Int)) (.int .i64 1))=some (.bool false):=rfl
   simp only [e0,e1,qAB,qAA]
   exact zAAT (n6:=2) zz hi (by omega) h2 (by omega) (by omega) hlen qp hp hc ht hdq rfl hd
 | 3,_=>
   have e0:negB false (eqV 0 true (.int .i64 ((3:Nat):Int)) (.int .i64 0))=some (.bool false):=rfl
   have e1:negB false (eqV 0 true (.int .i64 ((3:Nat):Int)) (.int .i64 1))=some (.bool false):=rfl
   simp only [e0,e1,qAB,qAA]
   exact zAAT (n6:=3) zz hi (by omega) h2 (by omega) (by omega) hlen qp hp hc ht hdq rfl hd
 | 4,_=>
   have e0:negB false (eqV 0 true (.int .i64 ((4:Nat):Int)) (.int .i64 0))=some (.bool false):=rfl
   have e1:negB false (eqV 0 true (.int .i64 ((4:Nat):Int)) (.int .i64 1))=some (.bool false):=rfl
   simp only [e0,e1,qAB,qAA]
   exact zABo zz hi (by omega) h2 q3
 | 5,_=>
   have e0:negB false (eqV 0 true (.int .i64 ((5:Nat):Int)) (.int .i64 0))=some (.bool false):=rfl
   have e1:negB false (eqV 0 true (.int .i64 ((5:Nat):Int)) (.int .i64 1))=some (.bool false):=rfl
   simp only [e0,e1,qAB,qAA]
   exact zAB9 zz hi (by omega) hl
theorem qYc (hK:∀ s',K (.bool true) s'):qA1 XX lv av .nilptr .nilptr (.bool false) (.bool false) K s:=by
 unfold qA1
 simp only [qAL,qAB,qAA]
 refine ⟨λys t m=>ys=[.nilptr,.nilptr,.int .i64 0],⟨0,rfl⟩,λg t m hy=>?_⟩
 simp only [cI,and_true] at hy
 rw [hy.1,hy.2.1,hy.2.2]
 simp only [qB3,qTa,qAi,bne_self_eq_false,qAB,qAz,qAL,qAA]
 exact qUm (hK _)
theorem qZB (z:Inv s0 t r1 r2 f o N x L U Bf Bg) (hl:SlR 3 s0 lv (L.map rwR)) (ha:SlR 23 s0 av (acts.map Subtype.val)) (hact:∀ a∈acts,ActR s0 a.val) (hA:acts.length≤40) (hK:∀ s',K (.bool true) s'):qA1 XX lv av (.ptr f 0) (.ptr o 0) (.bool false) (.bool false) K t:=by
 unfold qA1
 simp only [qAL,qAB,qAA]
 refine ⟨LP s0 N x L acts.length,⟨_,f,o,0,r1,r2,U,Bf,Bg,rfl,Nat.zero_le _,rfl,z⟩,?_⟩
 rintro g t2 m ⟨f,o,i,r1,r2,U,Bf,Bg,hy,hi,rfl,z⟩
 simp only [cI,and_true] at hy
 rw [hy.1,hy.2.1,hy.2.2]
 simp only [qB3,qPc,qAi,Bool.true_bne,Bool.not_false,qAI,(ha.sub z.k0).len,lMY,qAQ,qAA]
 by_cases c:(i:Int) < (acts.length:Int)
 ·rw [decide_eq_true c]
  exact qZD z hl ha hact (by omega) hA hK
 ·rw [decide_eq_false c]
  simp only [qAz,qAV,qAB,qAA]
  exact qUm (hK _)
theorem qWQ {n x:Int} (hl:SlR 3 s lv (L.map rwR)) (hlm:L.length≤9223372036854775807) (ha:SlR 23 s av (acts.map Subtype.val)) (hact:∀ a∈acts,ActR s a.val) (hK:∀ s',K (.bool true) s'):wpW TP XX 3 [.int .i64 n,lv,.int .i64 x,av] K s:=by
 refine qFg ?_
 have main:L.length≤60→acts.length≤40→qAq XX (.int .i64 n) lv (.int .i64 x) av (.bool false) (.bool false) K s:=λh60 h40=>by
  unfold qAq
  simp only [qAL,qAB,qAA]
  have x0:∀ {a b:AV},qAN (.tup [a,b]) 0=some a:=fun {_ _}=>rfl
  have x1:∀ {a b:AV},qAN (.tup [a,b]) 1=some b:=fun {_ _}=>rfl
  have e33:negB true (eqV 0 false (.int .i64 3) (.int .i64 3))=some (.bool false):=rfl
  have e22:negB true (eqV 0 false (.int .i64 2) (.int .i64 2))=some (.bool false):=rfl
  have e00:negB true (eqV 0 false (.int .i64 0) (.int .i64 0))=some (.bool false):=rfl
  have p0:negB false (eqV 3 true .nilptr .nilptr)=some (.bool true):=rfl
  have p1:∀ {b:Nat},negB false (eqV 3 true (.ptr b 0) .nilptr)=some (.bool false):=fun {_}=>rfl
  have b1:negB true (eqV 1 false (.bool true) (.bool true))=some (.bool false):=rfl
  have b2:negB true (eqV 1 false (.bool false) (.bool false))=some (.bool false):=rfl
  refine qZ2 hl hlm (λhf s1 sub1=>?_) (λhv hr s1 sub1=>?_) λN y r1 s1 f hn hx hy hv tb sub1 k1 fr1=>?_
  ·simp only [x0,x1,qAA]
   refine qOs (hl.sub sub1) hlm (λ_ s2 sub2=>?_) (λhv=>absurd hv hf) (λhv=>absurd hv hf)
   simp only [x0,x1,e33,p0,b1,qAB,qAA]
   exact qYc hK
  ·simp only [x0,x1,qAA]
   refine qOs (hl.sub sub1) hlm (λhf=>absurd hv hf) (λ_ _ s2 sub2=>?_) (λ_ N y r' s' o hn hx hy=>absurd ⟨by omega,by omega⟩ hr)
   simp only [x0,x1,e22,p0,b1,qAB,qAA]
   exact qYc hK
  ·subst hn hx
   simp only [x0,x1,qAA]
   refine qOs (hl.sub sub1) hlm (λhf=>absurd hv hf) (λ_ hr=>absurd ⟨by omega,by omega⟩ hr) λ_ N' y' r2 s2 o hn hx hy' tb2 sub2 k2 fr2=>?_
   have hn:N=N':=by omega
   have hx:y=y':=by omega
   subst hn hx
   simp only [x0,x1,e00,p1,b2,qAB,qAA]
   refine qZB (U:=List.replicate L.length false) (Bf:=λ_=>Zs) (Bg:=λ_=>Zs) ⟨tb,tb2,λ_ _=>rfl,sub1.trans sub2,k1.trans sub2,k2,λi hi=>?_,λi hi=>?_,λi hi=>?_,hv,hy,h60⟩ hl ha hact h40 hK
   ·cases q:r1 i with
    | none=>rfl
    | some e=>exact absurd (fr1 i (by rw [q];simp)) hi
   ·cases q:r2 i with
    | none=>rfl
    | some e=>exact absurd (qAe sub1 (fr2 i (by rw [q];simp))) hi
   ·cases q:r2 i with
    | none=>rfl
    | some e=>exact absurd (qAe k1 (fr2 i (by rw [q];simp))) hi
 have aw:qAq XX (.int .i64 n) lv (.int .i64 x) av (.bool false) (.bool true) K s:=by
  simp only [qAq,qAL,qAI,qAA]
  exact qUm (hK _)
 simp only [qCU,hl.len,ha.len,lMY,qAx,qAA]
 refine qAU (λc=>?_) (λc=>?_)
 ·rw [c]
  simp only [qAq,qAV,qAI,qAA]
  exact qUm (hK _)
 ·have h60:L.length≤60:=by have:=oF c;omega
  rw [c]
  by_cases c2:(40:Int) < (acts.length:Int)
  ·rw [decide_eq_true c2];exact aw
  ·rw [decide_eq_false c2];exact main h60 (by omega)
theorem Script_wp (s:Hq) (xs:List AV) (h:ArgL TP s 40 [3,22,3,23] xs):wpW TP XX 3 xs (λv _=>v=.bool true) s:=by
 obtain ⟨a,b,c,e,rfl,h1,h2,h3,h4⟩:=zAB5 h
 obtain ⟨n,rfl,_⟩:=qUL (k:=.i64) Tryz.underlying3 h1
 obtain ⟨x,rfl,_⟩:=qUL (k:=.i64) Tryz.underlying3 h3
 obtain ⟨L,hl,_,hlm⟩:=argR (d:=39) Tryz.underlying22 rwR (λ_=>True) (λa=>by rw [qSM];rfl) (λxs h=>zABP (d:=37) h) h2
 obtain ⟨acts,ha,hact,_⟩:=argR (d:=39) Tryz.underlying23 Subtype.val (λa:qZA=>ActR s a.val) (λa=>by rw [qRp];exact a.property) (λxs h=>zAAX (d:=34) h) h4
 rw [qSM] at hl
 rw [qRp] at ha
 exact qWQ hl hlm ha hact λ_=>rfl
end Go.AM.FB
