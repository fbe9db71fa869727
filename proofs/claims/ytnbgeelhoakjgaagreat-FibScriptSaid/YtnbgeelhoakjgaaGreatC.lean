/- Part C of a calculus over a small memory that is proved to answer as the program does, and of its use for the functions that the law reaches: see the last part. -/
import Derived.Test.YtnbgeelhoakjgaaGreatU1
import Derived.Test.YtnbgeelhoakjgaaGreatV
set_option linter.unusedVariables false
namespace Go.AM
open Go
abbrev Lnk:=Nat × Nat × Nat
def Ed (G:List Lnk) (U:List Bool) (i n m c:Nat):Prop:=U[i]?=some true∧(G[i]?=some (n,m,c)∨G[i]?=some (m,n,c))
theorem Ed.sym {G:List Lnk} {U:List Bool} {i n m c:Nat} (h:Ed G U i n m c):Ed G U i m n c:=⟨h.1,h.2.symm⟩
structure GOk (N:Nat) (G:List Lnk) (U:List Bool):Prop where
 len:U.length=G.length
 ok:∀ x∈G,x.1 < N∧x.2.1 < N∧x.1≠x.2.1∧1≤x.2.2∧x.2.2≤65535
variable {N:Nat} {G:List Lnk} {U:List Bool} {from_:Nat} {d d':Nat→Int}
theorem GOk.ed (z:GOk N G U) {i n m c:Nat} (h:Ed G U i n m c):n < N∧m < N∧n≠m∧1≤c∧c≤65535:=by
 rcases h.2 with e | e
 ·have:=z.ok _ (mG e);exact ⟨this.1,this.2.1,this.2.2.1,this.2.2.2.1,this.2.2.2.2⟩
 ·have:=z.ok _ (mG e);exact ⟨this.2.1,this.1,Ne.symm this.2.2.1,this.2.2.2.1,this.2.2.2.2⟩
structure IsDist (N:Nat) (G:List Lnk) (U:List Bool) (from_:Nat) (d:Nat→Int):Prop where
 fr:d from_=0
 lo:∀ n,n < N→-1≤d n
 sup:∀ n,n < N→0≤d n→n≠from_→∃ i m c,Ed G U i n m c∧0≤d m∧d n=d m+c
 clo:∀ i n m c,Ed G U i n m c→0≤d m→0≤d n∧d n≤d m+c
theorem qSL (z:GOk N G U) (h:IsDist N G U from_ d) (h':IsDist N G U from_ d'):∀ (k:Nat) (n:Nat),n < N→d' n=k→0≤d n∧d n≤k:=by
 intro k
 induction k using Nat.strongRecOn with
 | _ k ih=>
   intro n hn hk
   by_cases e:n=from_
   ·rw [e,h.fr]
    rw [e,h'.fr] at hk
    omega
   ·obtain ⟨i,m,c,h1,h2,h3⟩:=h'.sup n hn (by omega) e
    obtain ⟨_,hm,_,hc,_⟩:=z.ed h1
    obtain ⟨g1,g2⟩:=ih (d' m).toNat (by omega) m hm (by omega)
    obtain ⟨g3,g4⟩:=h.clo i n m c h1 g1
    omega
theorem qUW (z:GOk N G U) (h:IsDist N G U from_ d) (h':IsDist N G U from_ d') {n:Nat} (hn:n < N):d n=d' n:=by
 have a:=h.lo n hn
 have b:=h'.lo n hn
 by_cases e:0≤d' n
 ·obtain ⟨g1,g2⟩:=qSL z h h' (d' n).toNat n hn (by omega)
  obtain ⟨g3,g4⟩:=qSL z h' h (d n).toNat n hn (by omega)
  omega
 ·by_cases e2:0≤d n
  ·obtain ⟨g3,g4⟩:=qSL z h' h (d n).toNat n hn (by omega)
   omega
  ·omega
abbrev It:=Nat × Nat
structure DInv (N:Nat) (G:List Lnk) (U:List Bool) (from_:Nat) (d:Nat→Int) (q:List It):Prop where
 lo:∀ n,n < N→-1≤d n
 fr:d from_=0∨(∀ n,n < N→d n=-1)∧(from_,0)∈q
 sup:∀ n,n < N→0≤d n→n≠from_→∃ i m c,Ed G U i n m c∧0≤d m∧d n=d m+c
 qn:∀ x∈q,x.1 < N∧(x=(from_,0)∨∃ i m c,Ed G U i x.1 m c∧0≤d m∧(x.2:Int)=d m+c)
 mon:∀ x∈q,∀ n,n < N→d n≤x.2
 clo:∀ i n m c,Ed G U i n m c→0≤d m→(0≤d n∧d n≤d m+c)∨∃ k:Nat,(n,k)∈q∧(k:Int)=d m+c
theorem DInv.end_ (h:DInv N G U from_ d []):IsDist N G U from_ d:=by
 refine ⟨?_,h.lo,h.sup,λi n m c e hm=>?_⟩
 ·rcases h.fr with e | ⟨_,e⟩
  ·exact e
  ·cases e
 ·rcases h.clo i n m c e hm with q | ⟨k,q,_⟩
  ·exact q
  ·cases q
theorem DInv.skip {q q':List It} {x:It} (h:DInv N G U from_ d q) (hx:0≤d x.1) (hq:∀ y,y∈q↔y=x∨y∈q'):DInv N G U from_ d q':=by
 have xN:=(h.qn x ((hq x).2 (.inl rfl))).1
 refine ⟨h.lo,?_,h.sup,λy hy=>h.qn y ((hq y).2 (.inr hy)),λy hy=>h.mon y ((hq y).2 (.inr hy)),λi n m c e hm=>?_⟩
 ·rcases h.fr with e | ⟨e1,_⟩
  ·exact .inl e
  ·have:=e1 x.1 xN;omega
 ·rcases h.clo i n m c e hm with k | ⟨k,k1,k2⟩
  ·exact .inl k
  ·rcases (hq _).1 k1 with e2 | e2
   ·refine .inl ?_
    have:=h.mon x ((hq x).2 (.inl rfl)) n (by rw [← e2] at xN;exact xN)
    rw [← e2] at hx this
    exact ⟨hx,by show d n≤d m+c;have:d n≤((k:Nat):Int):=this;omega⟩
   ·exact .inr ⟨k,e2,k2⟩
def updI (d:Nat→Int) (n:Nat) (v:Int):Nat→Int:=λk=>if k=n then v else d k
theorem qBP {n:Nat} {v:Int}:updI d n v n=v:=if_pos rfl
theorem qCa {n k:Nat} {v:Int} (h:k≠n):updI d n v k=d k:=if_neg h
theorem DInv.take (z:GOk N G U) {q q':List It} {x:It} (h:DInv N G U from_ d q) (hx:d x.1 < 0) (hin:x∈q) (hq:∀ y,y∈q→y=x∨y∈q') (hmin:∀ y∈q,x.2≤y.2)
  (hnew:∀ i m c,Ed G U i x.1 m c→d m < 0→(m,x.2+c)∈q') (hold:∀ y∈q',y∈q∨∃ i m c,Ed G U i x.1 m c∧y=(m,x.2+c)):DInv N G U from_ (updI d x.1 x.2) q':=by
 obtain ⟨xN,hqn⟩:=h.qn x hin
 have hmx:=h.mon x hin
 have keep:∀ n,0≤d n→updI d x.1 x.2 n=d n:=λn hn=>qCa λe=>by rw [e] at hn;omega
 have hcase:∀ n,updI d x.1 x.2 n=d n∨n=x.1∧updI d x.1 x.2 n=x.2:=λn=>by
  by_cases e:n=x.1
  ·exact .inr ⟨e,by rw [e,qBP]⟩
  ·exact .inl (qCa e)
 refine ⟨λn hn=>?_,?_,λn hn h0 hne=>?_,λy hy=>?_,λy hy n hn=>?_,λi n m c e hm=>?_⟩
 ·have:=h.lo n hn
  rcases hcase n with e | ⟨_,e⟩ <;> rw [e] <;> omega
 ·refine .inl ?_
  rcases h.fr with e | ⟨e1,e2⟩
  ·rw [keep from_ (by omega)];exact e
  ·have:=hmin _ e2
   have:x.2=0:=by simpa using this
   rcases hqn with e3 | ⟨i,m,c,e3,e4,e5⟩
   ·rw [e3,qBP];rfl
   ·have:=e1 m (z.ed e3).2.1;omega
 ·rcases hcase n with e | ⟨e1,e⟩
  ·rw [e] at h0 ⊢
   obtain ⟨i,m,c,g1,g2,g3⟩:=h.sup n hn h0 hne
   exact ⟨i,m,c,g1,by rw [keep m g2];exact g2,by rw [keep m g2];exact g3⟩
  ·rw [e]
   rcases hqn with e3 | ⟨i,m,c,e3,e4,e5⟩
   ·exact absurd (e1.trans (by rw [e3])) hne
   ·exact ⟨i,m,c,by rw [e1];exact e3,by rw [keep m e4];exact e4,by rw [keep m e4];exact e5⟩
 ·rcases hold y hy with g | ⟨i,m,c,g1,rfl⟩
  ·obtain ⟨k1,k2⟩:=h.qn y g
   refine ⟨k1,k2.imp id λ⟨i,m,c,g1,g2,g3⟩=>⟨i,m,c,g1,by rw [keep m g2];exact g2,by rw [keep m g2];exact g3⟩⟩
  ·refine ⟨(z.ed g1).2.1,.inr ⟨i,x.1,c,g1.sym,?_⟩⟩
   rw [qBP]
   exact ⟨by omega,by show ((x.2+c:Nat):Int)=x.2+c;omega⟩
 ·have hy2:x.2≤y.2:=by
   rcases hold y hy with g | ⟨i,m,c,g1,rfl⟩
   ·exact hmin y g
   ·exact Nat.le_add_right _ _
  rcases hcase n with e | ⟨e1,e⟩
  ·rw [e];have:=hmx n hn;omega
  ·rw [e];omega
 ·rcases hcase m with em | ⟨em1,em⟩
  ·rw [em] at hm ⊢
   rcases h.clo i n m c e hm with k | ⟨k,k1,k2⟩
   ·left;rw [keep n k.1];exact k
   ·rcases hq _ k1 with e2 | e2
    ·left
     have e3:n=x.1:=by rw [← e2]
     have e4:k=x.2:=by rw [← e2]
     rw [e3,qBP]
     omega
    ·exact .inr ⟨k,e2,k2⟩
  ·rw [em] at hm ⊢
   subst em1
   by_cases e0:d n < 0
   ·exact .inr ⟨x.2+c,hnew i n c e.sym e0,by omega⟩
   ·left
    have:=hmx n (z.ed e).1
    rw [keep n (by omega)]
    omega
end Go.AM
namespace Go.AM
open Go
variable {N:Nat} {G:List Lnk} {U:List Bool} {from_:Nat} {d:Nat→Int}
theorem qZM {α:Type} {f g:α→Nat}:∀ {l:List α},(∀ x∈l,f x≤g x)→(l.map f).sum≤(l.map g).sum:=by
 intro l
 induction l with
 | nil=>intro _;exact Nat.le_refl _
 | cons a l ih=>
   intro h
   have:=ih λx hx=>h x (by simp [hx])
   have:=h a (by simp)
   simp only [List.map_cons,List.sum_cons]
   omega
theorem qZV {α:Type} {f g:α→Nat} {y:α}:∀ {l:List α},(∀ x∈l,f x≤g x)→y∈l→f y+1≤g y→(l.map f).sum+1≤(l.map g).sum:=by
 intro l
 induction l with
 | nil=>intro _ h;cases h
 | cons a l ih=>
   intro h hy h1
   simp only [List.map_cons,List.sum_cons]
   rcases mC hy with e | e
   ·have:=qZM (l:=l) λx hx=>h x (by simp [hx])
    rw [e] at h1
    omega
   ·have:=ih (λx hx=>h x (by simp [hx])) e h1
    have:=h a (by simp)
    omega
theorem qVx {α:Type} {p q:α→Bool}:∀ {l:List α},(∀ x∈l,p x=true→q x=true)→l.countP p≤l.countP q:=by
 intro l
 induction l with
 | nil=>intro _;exact Nat.le_refl _
 | cons a l ih=>
   intro h
   have h1:=ih λx hx=>h x (by simp [hx])
   rw [List.countP_cons,List.countP_cons]
   by_cases e:p a=true
   ·rw [if_pos e,if_pos (h a (by simp) e)];omega
   ·rw [if_neg e];split <;> omega
theorem qVi {α:Type} {p q:α→Bool} {y:α}:∀ {l:List α},(∀ x∈l,p x=true→q x=true)→y∈l→p y=false→q y=true→l.countP p+1≤l.countP q:=by
 intro l
 induction l with
 | nil=>intro _ h;cases h
 | cons a l ih=>
   intro h hy h1 h2
   rw [List.countP_cons,List.countP_cons]
   rcases mC hy with e | e
   ·have:=qVx (l:=l) λx hx=>h x (by simp [hx])
    rw [← e,h1,h2]
    simp only [Bool.false_eq_true,if_false,if_true];omega
   ·have h3:=ih (λx hx=>h x (by simp [hx])) e h1 h2
    by_cases e:p a=true
    ·rw [if_pos e,if_pos (h a (by simp) e)];omega
    ·rw [if_neg e];split <;> omega
def cntD (N:Nat) (d:Nat→Int):Nat:=(List.range N).countP λn=>decide (0≤d n)
def muD (N:Nat) (d:Nat→Int):Nat:=((List.range N).map λn=>if d n < 0 then 3000000 else (d n).toNat).sum
structure RInv (N:Nat) (G:List Lnk) (U:List Bool) (from_:Nat) (d:Nat→Int):Prop where
 lo:∀ n,n < N→-1≤d n
 fr:d from_=0
 sup:∀ n,n < N→0≤d n→n≠from_→∃ i m c,Ed G U i n m c∧0≤d m∧d m+c≤d n
 bd:∀ n,n < N→d n≤cntD N d * 65535
theorem qRU {N:Nat} {d:Nat→Int}:cntD N d≤N:=by
 have:=List.countP_le_length (p:=λn=>decide (0≤d n)) (l:=List.range N)
 rw [List.length_range] at this
 exact this
theorem RInv.relax (z:GOk N G U) (hN:N≤40) (h:RInv N G U from_ d) {i a b c:Nat} (e:Ed G U i a b c) (ha:0≤d a) (hb:d b < 0∨d a+c < d b):RInv N G U from_ (updI d b (d a+c))∧muD N (updI d b (d a+c))+1≤muD N d:=by
 obtain ⟨k1,k2,k3,k4,k5⟩:=z.ed e
 have hbf:b≠from_:=λq=>by rw [q,h.fr] at hb;omega
 have hba:=h.bd a k1
 have hcN:=qRU (N:=N) (d:=d)
 have hB:(cntD N d:Int) * 65535≤40 * 65535:=by omega
 have hcnt:cntD N d≤cntD N (updI d b (d a+c)):=qVx λn _ hn=>by
  have hn:=oT hn
  refine decide_eq_true ?_
  by_cases q:n=b
  ·rw [q,qBP];omega
  ·rw [qCa q];exact hn
 refine ⟨⟨λn hn=>?_,by rw [qCa (Ne.symm hbf)];exact h.fr,λn hn h0 hne=>?_,λn hn=>?_⟩,?_⟩
 ·by_cases q:n=b
  ·rw [q,qBP];omega
  ·rw [qCa q];exact h.lo n hn
 ·by_cases q:n=b
  ·rw [q,qBP]
   exact ⟨i,a,c,e.sym,by rw [qCa k3];exact ha,by rw [qCa k3];omega⟩
  ·rw [qCa q] at h0 ⊢
   obtain ⟨j,m,c',g1,g2,g3⟩:=h.sup n hn h0 hne
   by_cases q2:m=b
   ·refine ⟨j,m,c',g1,?_,?_⟩
    ·rw [q2,qBP];omega
    ·rw [q2,qBP]
     rw [q2] at g2 g3
     omega
   ·exact ⟨j,m,c',g1,by rw [qCa q2];exact g2,by rw [qCa q2];exact g3⟩
 ·by_cases q:n=b
  ·rw [q,qBP]
   rcases hb with hb | hb
   ·have:cntD N d+1≤cntD N (updI d b (d a+c)):=qVi (y:=b) (λn _ hn=>by
     have hn:=oT hn
     refine decide_eq_true ?_
     by_cases q:n=b
     ·rw [q,qBP];omega
     ·rw [qCa q];exact hn) (List.mem_range.2 k2) (decide_eq_false (by omega)) (decide_eq_true (by rw [qBP];omega))
    omega
   ·have:=h.bd b k2
    omega
  ·rw [qCa q]
   have:=h.bd n hn
   omega
 ·unfold muD
  refine qZV (y:=b) (λn hn=>?_) (List.mem_range.2 k2) ?_
  ·have hn:=List.mem_range.1 hn
   by_cases q:n=b
   ·rw [q,qBP]
    split <;> split <;> omega
   ·rw [qCa q]
    exact Nat.le_refl _
  ·rw [qBP]
   split <;> split <;> omega
theorem RInv.end_ (h:RInv N G U from_ d) (clo:∀ i a b c,Ed G U i a b c→0≤d a→0≤d b∧d b≤d a+c):IsDist N G U from_ d:=by
 refine ⟨h.fr,h.lo,λn hn h0 hne=>?_,λi n m c e hm=>clo i m n c e.sym hm⟩
 obtain ⟨i,m,c,g1,g2,g3⟩:=h.sup n hn h0 hne
 have:=clo i m n c g1.sym g2
 exact ⟨i,m,c,g1,g2,by omega⟩
theorem RInv.start {from_ N:Nat} (hf:from_ < N):RInv N G U from_ (λn=>if n=from_ then 0 else -1):=by
 refine ⟨λn _=>by split <;> omega,if_pos rfl,λn _ h0 hne=>?_,λn _=>?_⟩
 ·rw [if_neg hne] at h0;omega
 ·have:(0:Int)≤(cntD N (λn=>if n=from_ then 0 else -1):Int) * 65535:=by omega
  split <;> omega
def oth (x:Lnk) (n:Nat):Option Nat:=if x.1=n then some x.2.1 else if x.2.1=n then some x.1 else none
def edL (G:List Lnk) (U:List Bool) (n:Nat):List (Nat × Nat × Nat):=(List.range G.length).filterMap λi=>if U.getD i false then (match G[i]? with | some x=>(oth x n).map λm=>(i,m,x.2.2) | none=>none) else none
theorem qKd {i n m c:Nat} (z:GOk N G U):(i,m,c)∈edL G U n↔Ed G U i n m c:=by
 unfold edL Ed
 rw [List.mem_filterMap]
 constructor
 ·rintro ⟨j,hj,e⟩
  split at e
  ·rename_i hu
   cases hg:G[j]? with
   | none=>rw [hg] at e;cases e
   | some x=>
     rw [hg] at e
     simp only [Option.map_eq_some_iff,Prod.mk.injEq] at e
     obtain ⟨m',e1,rfl,rfl,rfl⟩:=e
     have hlt:j < U.length:=by rw [z.len];exact List.mem_range.1 hj
     refine ⟨by rw [List.getD_eq_getElem?_getD,gE hlt] at hu;rw [gE hlt];simpa using hu,?_⟩
     unfold oth at e1
     split at e1
     ·rename_i q
      cases e1
      exact .inl (by rw [hg,← q])
     ·split at e1
      ·rename_i q
       cases e1
       exact .inr (by rw [hg,← q])
      ·cases e1
  ·cases e
 ·rintro ⟨hu,he⟩
  have hlt:i < G.length:=by rcases he with e | e <;> exact (gS e).1
  have hne:n≠m:=(z.ed ⟨hu,he⟩).2.2.1
  refine ⟨i,List.mem_range.2 hlt,?_⟩
  rw [List.getD_eq_getElem?_getD,hu]
  simp only [Option.getD_some,if_true]
  rcases he with e | e
  ·rw [e]
   show ((if n=n then some m else if m=n then some n else none).map λm'=>(i,m',c))=some (i,m,c)
   rw [if_pos rfl];rfl
  ·rw [e]
   show ((if m=n then some n else if n=n then some m else none).map λm'=>(i,m',c))=some (i,m,c)
   rw [if_neg (Ne.symm hne),if_pos rfl];rfl
def qIS (G:List Lnk) (U:List Bool) (d:Nat→Int) (n:Nat):List (Nat × Nat × Nat):=(edL G U n).filter λe=>decide (d n=d e.2.1+e.2.2)
def parL (G:List Lnk) (U:List Bool) (d:Nat→Int) (n:Nat):Int:=match qIS G U d n with
 | []=>-1
 | e :: _=>e.1
end Go.AM
namespace Go.AM
open Go
def key (x:It):Int:=(x.2:Int)
def at0 (q:List It) (j:Nat):It:=q.getD j (0,0)
def ky (q:List It) (j:Nat):Int:=key (at0 q j)
def swp (q:List It) (i j:Nat):List It:=(q.set i (at0 q j)).set j (at0 q i)
theorem qD3 (q:List It) (i j:Nat):(swp q i j).length=q.length:=by simp [swp]
theorem qBe {q:List It} {j:Nat} (h:j < q.length):at0 q j=q[j]:=by simp [at0,h]
theorem qGP {q:List It} {i j:Nat} {x:It} (hi:i < q.length):at0 (q.set i x) j=if j=i then x else at0 q j:=by
 unfold at0
 rw [List.getD_eq_getElem?_getD,List.getElem?_set,List.getD_eq_getElem?_getD]
 by_cases e:i=j
 ·subst e;simp [hi]
 ·rw [if_neg e,if_neg (Ne.symm e)]
theorem qO0 {q:List It} {i j m:Nat} (hi:i < q.length) (hj:j < q.length):at0 (swp q i j) m=if m=j then at0 q i else if m=i then at0 q j else at0 q m:=by
 unfold swp
 rw [qGP (by simpa using hj),qGP hi]
theorem qEu {q:List It} {i j m:Nat} (hi:i < q.length) (hj:j < q.length):ky (swp q i j) m=if m=j then ky q i else if m=i then ky q j else ky q m:=by
 unfold ky
 rw [qO0 hi hj]
 split
 ·rfl
 ·split <;> rfl
theorem qIM:∀ {q:List It} {i:Nat} {x:It} (h:i < q.length),(q[i] :: q.set i x).Perm (x :: q)
 | y :: q,0,x,_=>List.Perm.swap x y q
 | y :: q,i+1,x,h=>by
   have hi:i < q.length:=by simpa using h
   have ih:=qIM (q:=q) (i:=i) (x:=x) hi
   show (q[i] :: y :: q.set i x).Perm (x :: y :: q)
   exact (List.Perm.swap _ _ _).trans ((ih.cons y).trans (List.Perm.swap _ _ _))
theorem qH1 {q:List It} {i j:Nat} (hi:i < q.length) (hj:j < q.length):(swp q i j).Perm q:=by
 by_cases e:i=j
 ·subst e
  unfold swp
  rw [qBe hi,List.set_set,List.set_getElem_self]
 ·have h1:=qIM (q:=q) (i:=i) (x:=at0 q j) hi
  have hj':j < (q.set i (at0 q j)).length:=by simpa using hj
  have h2:=qIM (q:=q.set i (at0 q j)) (i:=j) (x:=at0 q i) hj'
  have e1:(q.set i (at0 q j))[j]=at0 q j:=by
   rw [List.getElem_set_ne e]
   exact (qBe hj).symm
  rw [e1] at h2
  rw [← qBe hi] at h1
  have h3:(at0 q j :: swp q i j).Perm (at0 q j :: q):=h2.trans h1
  exact h3.cons_inv
def Hp (q:List It) (k:Nat):Prop:=∀ j,0 < j→j < q.length→k≤(j - 1) / 2→ky q ((j - 1) / 2)≤ky q j
structure Dn (q:List It) (i0 i:Nat):Prop where
 ok:∀ j,0 < j→j < q.length→i0≤(j - 1) / 2→(j - 1) / 2≠i→ky q ((j - 1) / 2)≤ky q j
 gr:i≠i0→∀ j,0 < j→j < q.length→(j - 1) / 2=i→ky q ((i - 1) / 2)≤ky q j
 le:i0≤i
 pr:i≠i0→i0≤(i - 1) / 2
theorem Hp.dn {q:List It} {i0:Nat} (h:Hp q (i0+1)):Dn q i0 i0:=⟨λj h0 h1 h2 h3=>h j h0 h1 (by omega),λe=>absurd rfl e,Nat.le_refl _,λe=>absurd rfl e⟩
theorem Dn.done {q:List It} {i0 i:Nat} (h:Dn q i0 i) (hc:∀ j,0 < j→j < q.length→(j - 1) / 2=i→ky q i≤ky q j):Hp q i0:=λj h0 h1 h2=>by
 by_cases e:(j - 1) / 2=i
 ·rw [e];exact hc j h0 h1 e
 ·exact h.ok j h0 h1 h2 e
theorem Dn.swap {q:List It} {i0 i j:Nat} (h:Dn q i0 i) (hj:j < q.length) (hc:j=2 * i+1∨j=2 * i+2) (hlt:ky q j < ky q i) (hmin:∀ m,0 < m→m < q.length→(m - 1) / 2=i→ky q j≤ky q m):Dn (swp q i j) i0 j:=by
 have hi:i < q.length:=by omega
 have hle:=h.le
 refine ⟨λm h0 h1 h2 h3=>?_,λ_ m h0 h1 h2=>?_,by omega,λ_=>by omega⟩
 ·rw [qD3] at h1
  rw [qEu hi hj,qEu hi hj]
  by_cases e1:m=j
  ·rw [if_neg (show (m - 1) / 2≠j by omega),if_pos (show (m - 1) / 2=i by omega),if_pos e1]
   omega
  ·rw [if_neg h3,if_neg e1]
   by_cases e2:(m - 1) / 2=i
   ·rw [if_pos e2,if_neg (show m≠i by omega)]
    exact hmin m h0 h1 e2
   ·rw [if_neg e2]
    by_cases e3:m=i
    ·rw [if_pos e3]
     have hne:i≠i0:=by omega
     subst e3
     exact h.gr hne j (by omega) hj (by omega)
    ·rw [if_neg e3]
     exact h.ok m h0 h1 h2 e2
 ·rw [qD3] at h1
  rw [qEu hi hj,qEu hi hj]
  rw [if_neg (show (j - 1) / 2≠j by omega),if_pos (show (j - 1) / 2=i by omega),if_neg (show m≠j by omega),if_neg (show m≠i by omega)]
  have:=h.ok m h0 h1 (by omega) (by omega)
  rw [h2] at this
  exact this
structure Up (q:List It) (j:Nat):Prop where
 ok:∀ m,0 < m→m < q.length→m≠j→ky q ((m - 1) / 2)≤ky q m
 gr:0 < j→∀ m,0 < m→m < q.length→(m - 1) / 2=j→ky q ((j - 1) / 2)≤ky q m
theorem Up.done {q:List It} {j:Nat} (h:Up q j) (hc:0 < j→ky q ((j - 1) / 2)≤ky q j):Hp q 0:=λm h0 h1 _=>by
 by_cases e:m=j
 ·subst e;exact hc h0
 ·exact h.ok m h0 h1 e
theorem Up.swap {q:List It} {j:Nat} (h:Up q j) (hj:j < q.length) (h0:0 < j) (hlt:ky q j < ky q ((j - 1) / 2)):Up (swp q ((j - 1) / 2) j) ((j - 1) / 2):=by
 have hi:(j - 1) / 2 < q.length:=by omega
 refine ⟨λm m0 m1 m2=>?_,λi0 m m0 m1 m2=>?_⟩
 ·rw [qD3] at m1
  rw [qEu hi hj,qEu hi hj]
  by_cases e1:m=j
  ·rw [if_neg (show (m - 1) / 2≠j by omega),if_pos (show (m - 1) / 2=(j - 1) / 2 by rw [e1]),if_pos e1]
   omega
  ·rw [if_neg e1,if_neg m2]
   by_cases e2:(m - 1) / 2=j
   ·rw [if_pos e2]
    exact h.gr h0 m m0 m1 e2
   ·rw [if_neg e2]
    by_cases e3:(m - 1) / 2=(j - 1) / 2
    ·rw [if_pos e3]
     have:=h.ok m m0 m1 e1
     rw [e3] at this
     omega
    ·rw [if_neg e3]
     exact h.ok m m0 m1 e1
 ·rw [qD3] at m1
  rw [qEu hi hj,qEu hi hj]
  rw [if_neg (show ((j - 1) / 2 - 1) / 2≠j by omega),if_neg (show ((j - 1) / 2 - 1) / 2≠(j - 1) / 2 by omega)]
  have hp:=h.ok ((j - 1) / 2) i0 hi (by omega)
  by_cases e1:m=j
  ·rw [if_pos e1];exact hp
  ·rw [if_neg e1,if_neg (show m≠(j - 1) / 2 by omega)]
   have:=h.ok m m0 m1 e1
   rw [m2] at this
   omega
theorem Hp.root {q:List It} (h:Hp q 0):∀ j,j < q.length→ky q 0≤ky q j
 | 0,_=>Int.le_refl _
 | j+1,hj=>by
   have h1:=h (j+1) (by omega) hj (by omega)
   have h2:=Hp.root h ((j+1 - 1) / 2) (by omega)
   omega
theorem Hp.leaf {q:List It} {k:Nat} (h:q.length≤2 * k+1):Hp q k:=λj h0 h1 h2=>by omega
end Go.AM
namespace Go.AM
open Go Go.Proofs
variable {K:AV→Hq→Prop} {s s':Hq}
def shR (x:It):List AV:=[.int .i64 (x.1:Int),.int .i64 (x.2:Int)]
abbrev qBm (q:List It):List AV:=(q.map shR).flatten
theorem qLa (q:List It):∀ r∈q.map shR,r.length=2:=λr hr=>by obtain ⟨x,_,rfl⟩:=List.mem_map.1 hr;rfl
theorem qDq (q:List It):(qBm q).length=q.length * 2:=by rw [qF0 (qLa q),lMY]
theorem qIz {x:It}:∀ {q:List It} {i:Nat},i < q.length→qAu (qBm q) (i * 2) (shR x)=qBm (q.set i x)
 | [],_,h=>by simp at h
 | y :: q,0,_=>rfl
 | y :: q,i+1,h=>by
   have ih:=qIz (x:=x) (q:=q) (i:=i) (by simpa using h)
   have e3:(i+1) * 2=i * 2+2:=by omega
   have e4:qAu (qBm (y :: q)) (i * 2+2) (shR x)=.int .i64 (y.1:Int) :: .int .i64 (y.2:Int) :: qAu (qBm q) (i * 2) (shR x):=by
    have e5:qBm (y :: q)=.int .i64 (y.1:Int) :: .int .i64 (y.2:Int) :: qBm q:=rfl
    unfold qAu
    rw [e5]
    show (.int .i64 (y.1:Int) :: .int .i64 (y.2:Int) :: (qBm q).take (i * 2)) ++ shR x ++ (qBm q).drop (i * 2+2)=_
    rfl
   rw [e3,e4,ih];rfl
structure QAt (s:Hq) (o sb:Nat) (cap:Option Nat) (q:List It):Prop where
 ob:s o=some (false,.cells 144 [.slc sb 0 q.length cap 2])
 dt:∃ tl,s sb=some (false,.cells 142 (qBm q ++ tl))∧∀ c,cap=some c→q.length≤c∧c * 2=q.length * 2+tl.length
 ln:q.length≤1000000
variable {o sb:Nat} {cap:Option Nat} {q:List It}
theorem QAt.ne (h:QAt s o sb cap q):o≠sb:=by
 rintro rfl
 obtain ⟨tl,e,_⟩:=h.dt
 rw [h.ob] at e;cases e
theorem QAt.keep {fp:Nat→Prop} (h:QAt s o sb cap q) (k:qAg fp s s') (h1:¬ fp o) (h2:¬ fp sb):QAt s' o sb cap q:=by
 obtain ⟨tl,e,hc⟩:=h.dt
 exact ⟨k _ _ h.ob h1,⟨tl,k _ _ e h2,hc⟩,h.ln⟩
theorem QAt.sub (h:QAt s o sb cap q) (k:Sub s s'):QAt s' o sb cap q:=h.keep (fp:=λ_=>False) k.keep (λh=>h) λh=>h
theorem qEX {n i:Nat} (hi:i < n):qAO 2 (.slc sb 0 n cap 2) (.int .i64 (i:Int))=some (.ptr sb (i * 2)):=by
 have:Nat.blt i n=true:=by rw [Nat.blt_eq];exact hi
 simp [qAO,this]
theorem QAt.sl (h:QAt s o sb cap q):SlR 2 s (.slc sb 0 q.length cap 2) (q.map shR):=by
 obtain ⟨tl,e,hc⟩:=h.dt
 refine ⟨qLa q,.inr ⟨sb,0,cap,by simp,λc hc'=>by simpa using (hc c hc').1,λ_=>⟨_,_,_,e,?_,?_⟩⟩⟩
 ·rw [lAp,qDq,lMY];omega
 ·rw [List.drop_zero,lMY,← qDq,List.take_left]
theorem QAt.row (h:QAt s o sb cap q) {i:Nat} (hi:i < q.length):rdN s 2 (.ptr sb (i * 2))=some (shR (at0 q i))∧rd1 s (.ptr sb (i * 2))=some (.int .i64 ((at0 q i).1:Int))∧rd1 s (.ptr sb (i * 2+1))=some (.int .i64 ((at0 q i).2:Int)):=by
 obtain ⟨b,p,h1,h2,h3⟩:=h.sl.get (i:=i) (r:=shR (at0 q i)) (by simp [qBe hi,hi])
 rw [qEX hi] at h1
 cases h1
 exact ⟨h2,h3 0 (by omega),h3 1 (by omega)⟩
abbrev qv (o:Nat):AV:=.ifc 140 (.ptr o 0)
theorem qPT:qBq TP 140 (.ptr o 0) "Len"=bd (qFa TP 144 o 0) λr=>ret (79,r):=by kernel_rfl
theorem qM6:qBq TP 140 (.ptr o 0) "Less"=bd (qFa TP 144 o 0) λr=>ret (124,r):=by kernel_rfl
theorem qNb:qBq TP 140 (.ptr o 0) "Swap"=bd (qFa TP 144 o 0) λr=>ret (127,r):=by kernel_rfl
theorem qW6:qBq TP 140 (.ptr o 0) "Pop"=ret (125,.ptr o 0):=by kernel_rfl
theorem qVy:qBq TP 140 (.ptr o 0) "Push"=ret (126,.ptr o 0):=by kernel_rfl
theorem qYh {R:AV→Prop}:qNy TP 144 (.ptr o 0) R s=oK (rd1 s (.ptr o 0)) R:=by kernel_rfl
theorem valM {name:String} {f:FuncId} {args:List AV} (hm:qBq TP 140 (.ptr o 0) name=bd (qFa TP 144 o 0) λr=>ret (f,r)) (hf:isFn TP f=true) (h:QAt s o sb cap q) (hK:wC TP XX f (.slc sb 0 q.length cap 2 :: args) K s):qD4 TP XX (qv o) name args K s:=by
 show wpF (λ_=>qBq TP 140 (.ptr o 0) name) _ s
 rw [hm]
 refine wpF.bd (.const _) (λ_=>.const _) (qRo (p:=.ptr o 0) ?_)
 rw [qYh,qAM h.ob]
 exact wpF.ret ⟨hf,hK⟩
theorem qLn (h:QAt s o sb cap q) (hK:K (.int .i64 (q.length:Int)) s):qD4 TP XX (qv o) "Len" [] K s:=by
 refine valM qPT (by kernel_rfl) h (qGH ?_)
 simp only [qFn,qBJ,qAA]
 exact hK
theorem qKr {i j:Nat} (h:QAt s o sb cap q) (hi:i < q.length) (hj:j < q.length) (hK:K (.bool (decide (ky q i < ky q j))) s):qD4 TP XX (qv o) "Less" [.int .i64 (i:Int),.int .i64 (j:Int)] K s:=by
 refine valM qM6 (by kernel_rfl) h (qJy ?_)
 simp only [qHM,qEX hi,qEX hj,qAE,(h.row hi).2.2,(h.row hj).2.2,qAQ,qAA]
 exact hK
theorem qKw {i j:Nat} (h:QAt s o sb cap q) (hi:i < q.length) (hj:j < q.length) (hK:∀ s',QAt s' o sb cap (swp q i j)→qAg (λb=>b=sb) s s'→K (.tup []) s'):qD4 TP XX (qv o) "Swap" [.int .i64 (i:Int),.int .i64 (j:Int)] K s:=by
 refine valM qNb (by kernel_rfl) h (qJ2 ?_)
 have ri:=(h.row hi).1
 have rj:=(h.row hj).1
 obtain ⟨tl,hd,hc⟩:=h.dt
 have wr:∀ {s:Hq} {q:List It} {i:Nat} {x:It} {R:Hq→Prop},s sb=some (false,.cells 142 (qBm q ++ tl))→i < q.length→(∀ s',s' sb=some (false,.cells 142 (qBm (q.set i x) ++ tl))→Upto sb s s'→R s')→oK (qBo s 2 (.ptr sb (i * 2)) (.agg (shR x))) R:=by
  intro s q i x R hs hi hR
  have e0:i * 2+2≤(qBm q).length:=by rw [qDq];omega
  have e1:Nat.ble (i * 2+(shR x).length) (qBm q ++ tl).length=true:=bL (by rw [lAp];show i * 2+2≤_;omega)
  have e3:qAu (qBm q ++ tl) (i * 2) (shR x)=qBm (q.set i x) ++ tl:=by
   rw [← qIz hi]
   unfold qAu
   rw [List.take_append_of_le_length (by omega),List.drop_append_of_le_length (by show i * 2+2≤_;omega),List.append_assoc,List.append_assoc,List.append_assoc]
  have e2:qBo s 2 (.ptr sb (i * 2)) (.agg (shR x))=some (hset s sb (false,.cells 142 (qBm (q.set i x) ++ tl))):=by
   rw [← e3]
   simp only [qBo,qK2,show Nat.beq (shR x).length 2=true from rfl,cond_true,wrN,hs,e1,show qAb (shR x)=true from rfl,Bool.and_self]
  exact qAW e2 (hR _ qCN λ_ hi=>qAt hi)
 simp only [qHb,qEX hi,qEX hj,ri,rj,qAA]
 refine wr hd hi λs1 h1 u1=>wr h1 (by simpa using hj) λs2 h2 u2=>?_
 refine hK _ ⟨?_,⟨tl,h2,λc e=>by rw [qD3];exact hc c e⟩,by rw [qD3];exact h.ln⟩ ((u1.keep (fp:=λb=>b=sb) rfl).trans (u2.keep (fp:=λb=>b=sb) rfl))
 rw [u2 o h.ne,u1 o h.ne,qD3];exact h.ob
end Go.AM
namespace Go.AM
open Go Go.Proofs
variable {K:AV→Hq→Prop} {s s':Hq} {o sb:Nat} {cap:Option Nat} {q r:List It}
theorem qRe {j:Nat} (h:j < q.length):at0 (q ++ r) j=at0 q j:=by
 rw [qBe (by rw [lAp];omega),qBe h,List.getElem_append_left h]
theorem qQl {j:Nat} (h:j < q.length):ky (q ++ r) j=ky q j:=by unfold ky;rw [qRe h]
theorem qZJ {i j:Nat} (hi:i < q.length) (hj:j < q.length):swp (q ++ r) i j=swp q i j ++ r:=by
 unfold swp
 rw [qRe hi,qRe hj,List.set_append_left _ _ hi,List.set_append_left _ _ (by simpa using hj)]
theorem qWD {i j:Nat} (h:QAt s o sb cap (q ++ r)) (hi:i < q.length) (hj:j < q.length) (hK:∀ s',Sub s s'→K (.bool (decide (ky q i < ky q j))) s'):qD4 TP XX (qv o) "Less" [.int .i64 (i:Int),.int .i64 (j:Int)] K s:=by
 refine qKr h (by rw [lAp];omega) (by rw [lAp];omega) ?_
 rw [qQl hi,qQl hj]
 exact hK s (.refl s)
theorem qYJ {i j:Nat} (h:QAt s o sb cap (q ++ r)) (hi:i < q.length) (hj:j < q.length) (hK:∀ s',QAt s' o sb cap (swp q i j ++ r)→qAg (λb=>b=sb) s s'→K (.tup []) s'):qD4 TP XX (qv o) "Swap" [.int .i64 (i:Int),.int .i64 (j:Int)] K s:=by
 refine qKw h (by rw [lAp];omega) (by rw [lAp];omega) λs' z k=>hK s' ?_ k
 rw [← qZJ hi hj];exact z
theorem QAt.ln2 (h:QAt s o sb cap (q ++ r)):q.length≤1000000:=by have:=h.ln;rw [lAp] at this;omega
theorem qM1 {i0:Nat} (h:QAt s o sb cap (q ++ r)) (hd:Hp q (i0+1)) (h0:i0 < q.length) (hK:∀ s' q' b,QAt s' o sb cap (q' ++ r)→q'.Perm q→Hp q' i0→qAg (λb=>b=sb) s s'→(b=false→q'=q)→((∀ j,0 < j→j < q.length→(j - 1) / 2=i0→ky q i0≤ky q j)→b=false)→K (.bool b) s'):wC TP XX 94 [qv o,.int .i64 (i0:Int),.int .i64 (q.length:Int)] K s:=by
 refine qCc ?_
 refine ⟨λys s1 n=>∃ (i:Nat) (q1:List It),ys=[.int .i64 i]∧n=q.length - i∧i < q.length∧QAt s1 o sb cap (q1 ++ r)∧q1.Perm q∧Dn q1 i0 i∧qAg (λb=>b=sb) s s1∧(i=i0→q1=q)∧((∀ j,0 < j→j < q.length→(j - 1) / 2=i0→ky q i0≤ky q j)→i=i0),⟨_,i0,q,rfl,rfl,h0,h,.refl q,hd.dn,.refl _ s,λ_=>rfl,λ_=>rfl⟩,?_⟩
 rintro f s1 n ⟨i,q1,hy,rfl,hi,z,hp,dn,kp,same,stay⟩
 simp only [cI,and_true] at hy
 rw [hy]
 have hlen:=hp.length_eq
 have hl:=h.ln2
 have m1:IntKind.i64.wrap (2 * (i:Int))=((2 * i:Nat):Int):=by rw [qAf (by omega) (by omega)];omega
 have m2:IntKind.i64.wrap (((2 * i:Nat):Int)+1)=((2 * i+1:Nat):Int):=by rw [qAf (by omega) (by omega)];omega
 have m3:IntKind.i64.wrap (((2 * i+1:Nat):Int)+1)=((2 * i+2:Nat):Int):=by rw [qAf (by omega) (by omega)];omega
 simp only [qBs,qHp,qAA,m1,qAT,m2,qA8,qAQ]
 have fin:∀ s2,Sub s1 s2→(∀ j,0 < j→j < q1.length→(j - 1) / 2=i→ky q1 i≤ky q1 j)→qA4 XX (.int .i64 (i0:Int)) (.int .i64 (i:Int)) K s2:=by
  intro s2 hs hc
  simp only [qA4,qAx,qAA]
  refine hK s2 q1 _ (z.sub hs) hp (dn.done hc) (kp.trans hs.keep) (λhb=>same ?_) λhst=>?_
  ·have:=oF hb
   have:=dn.le
   omega
  ·rw [stay hst,decide_eq_false_iff_not]
   omega
 by_cases hc:q.length≤2 * i+1
 ·have e1:decide ((q.length:Int)≤((2 * i+1:Nat):Int))=true:=by rw [decide_eq_true_eq];omega
  rw [e1]
  simp only [qAI,qA3,qAV,qAA]
  exact fin s1 (.refl s1) λj a b c=>by omega
 ·have e1:decide ((q.length:Int)≤((2 * i+1:Nat):Int))=false:=by rw [decide_eq_false_iff_not];omega
  have e2:decide (((2 * i+1:Nat):Int) < 0)=false:=by rw [decide_eq_false_iff_not];omega
  rw [e1,e2]
  simp only [qAB,qA3,qAL,qAA,qAT,m3,qAQ]
  have go:∀ (s2:Hq) (j:Nat),Sub s1 s2→j < q1.length→(j=2 * i+1∨j=2 * i+2)→(∀ m,0 < m→m < q1.length→(m - 1) / 2=i→ky q1 j≤ky q1 m)→
    qBC XX (qv o) (.int .i64 (i0:Int)) (.int .i64 (i:Int)) (.int .i64 (j:Int)) (λys s1 n=>∃ (i:Nat) (q1:List It),ys=[.int .i64 i]∧n=q.length - i∧i < q.length∧QAt s1 o sb cap (q1 ++ r)∧q1.Perm q∧Dn q1 i0 i∧qAg (λb=>b=sb) s s1∧(i=i0→q1=q)∧((∀ j,0 < j→j < q.length→(j - 1) / 2=i0→ky q i0≤ky q j)→i=i0)) (q.length - i) K s2:=by
   intro s2 j hs hj hc2 hmin
   unfold qBC
   refine qWD (z.sub hs) hj (by omega) λs3 hs3=>?_
   simp only [qAj,qAA]
   refine qAU (λhb=>?_) (λhb=>?_)
   ·have hb:¬ ky q1 j < ky q1 i:=by simpa using hb
    exact fin s3 (hs.trans hs3) λm a b c=>by have:=hmin m a b c;omega
   ·have hb:ky q1 j < ky q1 i:=by simpa using hb
    refine qYJ (z.sub (hs.trans hs3)) (by omega) hj λs4 z4 k4=>?_
    refine ⟨_,?_,j,_,rfl,rfl,by omega,z4,(qH1 (by omega) hj).trans hp,dn.swap hj hc2 hb hmin,(kp.trans (hs.trans hs3).keep).trans k4,λe=>?_,λhst=>?_⟩
    ·omega
    ·have:=dn.le;omega
    ·have e1:=stay hst
     have e2:=same e1
     subst e1
     rw [e2] at hb
     have:=hst j (by omega) (by omega) (by omega)
     omega
  refine qAU (λhb=>?_) (λhb=>?_)
  ·have hb2:2 * i+2 < q.length:=by have:=oT hb;omega
   rw [hb]
   refine qWD z (by omega) (by omega) λs2 hs2=>?_
   simp only [qBB,qAV,qAA]
   refine qAU (λhl2=>?_) (λhl2=>?_)
   ·have hl2:=oT hl2
    exact go s2 (2 * i+2) hs2 (by omega) (.inr rfl) λm a b c=>by
     have:m=2 * i+1∨m=2 * i+2:=by omega
     rcases this with rfl | rfl
     ·omega
     ·exact Int.le_refl _
   ·have hl2:=oF hl2
    exact go s2 (2 * i+1) hs2 (by omega) (.inl rfl) λm a b c=>by
     have:m=2 * i+1∨m=2 * i+2:=by omega
     rcases this with rfl | rfl
     ·exact Int.le_refl _
     ·omega
  ·have hb2:¬ 2 * i+2 < q.length:=by have:=oF hb;omega
   rw [hb]
   simp only [qBB,qAL,qAA,qAB]
   exact go s1 (2 * i+1) (.refl s1) (by omega) (.inl rfl) λm a b c=>by
    have:m=2 * i+1:=by omega
    subst this
    exact Int.le_refl _
theorem qWY {j0:Nat} (h:QAt s o sb cap (q ++ r)) (hu:Up q j0) (h0:j0 < q.length) (hK:∀ s' q',QAt s' o sb cap (q' ++ r)→q'.Perm q→Hp q' 0→qAg (λb=>b=sb) s s'→K (.tup []) s'):wC TP XX 95 [qv o,.int .i64 (j0:Int)] K s:=by
 refine qEa ?_
 refine ⟨λys s1 n=>∃ (j:Nat) (q1:List It),ys=[.int .i64 j]∧n=j∧j < q.length∧QAt s1 o sb cap (q1 ++ r)∧q1.Perm q∧Up q1 j∧qAg (λb=>b=sb) s s1,⟨_,j0,q,rfl,rfl,h0,h,.refl q,hu,.refl _ s⟩,?_⟩
 rintro f s1 n ⟨j,q1,hy,rfl,hj,z,hp,up,kp⟩
 simp only [cI,and_true] at hy
 rw [hy]
 have hlen:=hp.length_eq
 have hl:=h.ln2
 simp only [qC5,qBO,qAA]
 rw [qAf (by omega) (by omega)]
 simp only [qMl (show (2:Int)≠0 by omega),qAA]
 have e1:((n:Int) - 1).tdiv 2=(((n - 1) / 2:Nat):Int):=by
  cases n with
  | zero=>rfl
  | succ m=>
    rw [show ((m+1:Nat):Int) - 1=(m:Int) by omega,show m+1 - 1=m by omega,Int.tdiv_eq_ediv_of_nonneg (by omega)]
    rfl
 rw [e1,qAf (by omega) (by omega)]
 simp only [qAv,qAi,Bool.false_bne,qAA]
 cases n with
 | zero=>
   simp only [show ((((0 - 1) / 2:Nat):Int) == ((0:Nat):Int))=true from rfl,qAI,qBL,qAV,qAA]
   exact hK s1 q1 z hp (up.done λh=>absurd h (by omega)) kp
 | succ m=>
   have e2:((((m+1 - 1) / 2:Nat):Int) == ((m+1:Nat):Int))=false:=by
    cases hq:((((m+1 - 1) / 2:Nat):Int) == ((m+1:Nat):Int)) with
    | false=>rfl
    | true=>have:=eq_of_beq hq;omega
   rw [e2]
   simp only [qAB]
   refine qWD z (by omega) (by omega) λs2 hs2=>?_
   simp only [qAj,qAA,qBL,qAL]
   refine qAU (λhb=>?_) (λhb=>?_)
   ·have hb:¬ ky q1 (m+1) < ky q1 ((m+1 - 1) / 2):=by simpa using hb
    exact hK s2 q1 (z.sub hs2) hp (up.done λ_=>by omega) (kp.trans hs2.keep)
   ·have hb:ky q1 (m+1) < ky q1 ((m+1 - 1) / 2):=by simpa using hb
    refine qYJ (z.sub hs2) (by omega) (by omega) λs3 z3 k3=>?_
    exact ⟨_,by omega,_,_,rfl,rfl,by omega,z3,(qH1 (by omega) (by omega)).trans hp,up.swap (by omega) (by omega) hb,(kp.trans hs2.keep).trans k3⟩
end Go.AM
namespace Go.AM
open Go Go.Proofs
variable {K:AV→Hq→Prop} {s s':Hq} {o sb:Nat} {cap:Option Nat} {q r:List It}
theorem qAh {s s' s'':Hq} {b:Nat} (h:Sub s s') (u:Upto b s' s'') (hb:s b=none):Sub s s'':=λi e hi=>by rw [u i (qBl hb hi)];exact h i e hi
theorem qQK (a b:List It):qBm (a ++ b)=qBm a ++ qBm b:=by simp [qBm]
theorem qWf {x:It} (hK:∀ b,K (.bool b) s):wC TP XX 94 [qv o,.int .i64 0,.int .i64 0] K s:=by
 refine qCc ?_
 refine ⟨λys s1 n=>ys=[.int .i64 0]∧s1=s,⟨0,rfl,rfl⟩,?_⟩
 rintro f s1 n ⟨hy,rfl⟩
 simp only [cI,and_true] at hy
 rw [hy]
 simp only [qBs,qHp,qAA,qAT,qA8]
 rw [show IntKind.i64.wrap (2 * 0)=0 by rw [qAf (by omega) (by omega)];rfl,show IntKind.i64.wrap (0+1)=1 by rw [qAf (by omega) (by omega)];rfl]
 simp only [show decide ((0:Int)≤1)=true from rfl,qAI,qA3,qAV,qAA,qA4,qAx]
 exact hK _
theorem qZi {x:It} (h:QAt s o sb cap (q ++ [x])) (hK:∀ s',QAt s' o sb cap q→qAg (λb=>b=o) s s'→K (.ifc 142 (.agg (shR x))) s'):qD4 TP XX (qv o) "Pop" [] K s:=by
 show wpF (λ_=>qBq TP 140 (.ptr o 0) "Pop") _ s
 rw [qW6]
 refine wpF.ret ⟨by kernel_rfl,qKR ?_⟩
 have hln:=h.ln
 rw [lAp,List.length_singleton] at hln
 have hlen:(q ++ [x]).length=q.length+1:=by simp
 have row:=(h.row (i:=q.length) (by rw [hlen];omega)).1
 have hx:at0 (q ++ [x]) q.length=x:=by rw [qBe (by rw [hlen];omega)];simp
 rw [hx] at row
 have e1:IntKind.i64.wrap (((q ++ [x]).length:Int) - 1)=(q.length:Int):=by rw [qAf (by omega) (by omega),hlen];omega
 have ad:=qEX (sb:=sb) (cap:=cap) (n:=(q ++ [x]).length) (i:=q.length) (by rw [hlen];omega)
 simp only [qIb,qAJ,qAM h.ob,g0Y,qBJ,qBO,e1,ad,row,qAA]
 refine qAS λb s1 hb h1 u1=>qAl h1 rfl rfl rfl λs2 h2 u2=>?_
 have h2:s2 b=some (false,.cells 142 (shR x)):=h2
 have sub2:Sub s s2:=qAh (u1.sub hb) u2 hb
 have z2:=h.sub sub2
 obtain ⟨tl,hd,hc⟩:=z2.dt
 have sl:qDs 2 (.slc sb 0 (q ++ [x]).length cap 2) none (some (.int .i64 (q.length:Int))) none=some (.slc sb 0 q.length cap 2):=by
  cases cap with
  | none=>
    have e3:Nat.ble q.length (q.length+1)=true:=bL (by omega)
    simp [qDs,bound,e3]
  | some c=>
    have:=(hc c rfl).1
    have e3:Nat.ble q.length c=true:=bL (by rw [hlen] at this;omega)
    simp [qDs,bound,e3]
 simp only [qAM z2.ob,g0Y,sl,qAA]
 have hbo:b≠o:=λe=>by rw [e,h.ob] at hb;cases hb
 refine qAm z2.ob (by simp) rfl λs3 h3 u3=>?_
 have h23:s3 b=some (false,.cells 142 (shR x)):=(u3 b hbo).trans h2
 have rb:rdN s3 2 (.ptr b 0)=some (shR x):=qA7 h23 rfl
 simp only [rb,qAA]
 have k3:qAg (λb=>b=o) s s3:=sub2.keep.trans (u3.keep (fp:=λb=>b=o) rfl)
 refine hK s3 ⟨h3,⟨shR x ++ tl,?_,λc e=>?_⟩,by omega⟩ k3
 ·rw [u3 sb (Ne.symm z2.ne),hd,qQK,List.append_assoc]
  simp [qBm]
 ·have:=hc c e
  rw [hlen] at this
  rw [lAp]
  show q.length≤c∧c * 2=q.length * 2+(2+tl.length)
  omega
theorem zAA5 (h:QAt s o sb cap q) (hh:Hp q 0) (hq:0 < q.length) (hK:∀ s' q' x,QAt s' o sb cap q'→Hp q' 0→q.Perm (x :: q')→(∀ y∈q,x.2≤y.2)→qAg (λb=>b=o∨b=sb) s s'→K (.ifc 142 (.agg (shR x))) s'):wC TP XX 80 [qv o] K s:=by
 refine qHh (qLn h ?_)
 obtain ⟨n,hn⟩:∃ n,q.length=n+1:=⟨q.length - 1,by omega⟩
 have hln:=h.ln
 have e1:IntKind.i64.wrap ((q.length:Int) - 1)=(n:Int):=by rw [qAf (by omega) (by omega)];omega
 simp only [qBO,e1,qAA]
 have sw:=qKw (i:=0) (j:=n) (K:=λv_3 s_4=>wC TP XX 94 [qv o,(.int .i64 0),.int .i64 (n:Int)] (λv_5 s_6=>qD4 TP XX (qv o) "Pop" [] (λv_7 s_8=>K v_7 s_8) s_6) s_4) h (by omega) (by omega) λs1 z1 k1=>?_
 ·exact sw
 have hlast:(swp q 0 n).length=n+1:=by rw [qD3,hn]
 obtain ⟨q1,x,e,hq1⟩:∃ q1 x,swp q 0 n=q1 ++ [x]∧q1.length=n:=by
  refine ⟨(swp q 0 n).take n,at0 (swp q 0 n) n,?_,by rw [List.length_take];omega⟩
  rw [qBe (by omega)]
  conv=>lhs;rw [← List.take_append_drop n (swp q 0 n)]
  congr 1
  rw [List.drop_eq_getElem_cons (by omega),List.drop_eq_nil_of_le (by omega)]
 have perm:q.Perm (x :: q1):=by
  have p1:=qH1 (q:=q) (i:=0) (j:=n) (by omega) (by omega)
  rw [e] at p1
  exact p1.symm.trans (List.perm_append_singleton x q1)
 have hx:x=at0 q 0:=by
  have h1:at0 (swp q 0 n) n=at0 q 0:=by rw [qO0 (by omega) (by omega),if_pos rfl]
  rw [e,qBe (by simp [hq1])] at h1
  rw [← h1]
  simp [← hq1]
 have hmin:∀ y∈q,x.2≤y.2:=λy hy=>by
  obtain ⟨j,hj,rfl⟩:=List.getElem_of_mem hy
  have:=Hp.root hh j hj
  rw [hx]
  unfold ky key at this
  rw [qBe hj] at this
  omega
 have hp1:Hp q1 1:=λj h0 h1 h2=>by
  have hj:j < n:=by omega
  have e2:∀ k,0 < k→k < n→ky q1 k=ky q k:=λk k0 kn=>by
   have h3:ky (swp q 0 n) k=ky q k:=by rw [qEu (by omega) (by omega),if_neg (by omega),if_neg (by omega)]
   rw [e,qQl (by omega)] at h3
   exact h3
  rw [e2 j h0 hj,e2 ((j - 1) / 2) (by omega) (by omega)]
  exact hh j h0 (by omega) (by omega)
 rw [e] at z1
 have fin:∀ s2 q2,QAt s2 o sb cap (q2 ++ [x])→q2.Perm q1→Hp q2 0→qAg (λb=>b=sb) s1 s2→qD4 TP XX (qv o) "Pop" [] (λv_7 s_8=>K v_7 s_8) s2:=λs2 q2 z2 p2 h2 k2=>by
  refine qZi z2 λs3 z3 k3=>hK s3 q2 x z3 h2 (perm.trans (p2.symm.cons x)) hmin ?_
  exact ((k1.trans k2).mono λi hi=>.inr hi).trans (k3.mono λi hi=>.inl hi)
 cases n with
 | zero=>
   have:q1=[]:=List.eq_nil_of_length_eq_zero hq1
   subst this
   exact qWf (x:=x) λb=>fin s1 [] z1 (.refl _) (λj h0 h1=>by simp at h1) (.refl _ _)
 | succ m=>
   have hd:=qM1 (i0:=0) (q:=q1) (r:=[x]) (K:=λv_5 s_6=>qD4 TP XX (qv o) "Pop" [] (λv_7 s_8=>K v_7 s_8) s_6) z1 hp1 (by omega) λs2 q2 b z2 p2 h2 k2 _ _=>fin s2 q2 z2 p2 h2 k2
   rw [hq1] at hd
   exact hd
theorem qYo {x:It} (h:QAt s o sb cap q) (hh:Hp q 0) (hl:q.length≤10000) (hK:∀ s' sb' cap' q',QAt s' o sb' cap' q'→Hp q' 0→q'.Perm (x :: q)→qAg (λb=>b=o∨b=sb) s s'→(sb'=sb∨s sb'=none)→K (.tup []) s'):wC TP XX 81 [qv o,.ifc 142 (.agg (shR x))] K s:=by
 refine qG3 ?_
 show wpF (λ_=>qBq TP 140 (.ptr o 0) "Push") _ s
 rw [qVy]
 refine wpF.ret ⟨by kernel_rfl,qJv ?_⟩
 have t1:qR9 142 (some (.agg [(.int .i64 0),(.int .i64 0)])) true (.ifc 142 (.agg (shR x)))=some (.tup [.agg (shR x),.bool true]):=rfl
 have t2:qAN (.tup [.agg (shR x),.bool true]) 0=some (.agg (shR x)):=rfl
 have t3:qAN (.tup [.agg (shR x),.bool true]) 1=some (.bool true):=rfl
 simp only [qHN,t1,t2,t3,qAA]
 refine qAS λb s1 hb h1 u1=>qAl h1 rfl rfl rfl λs2 h2 u2=>?_
 have h2:s2 b=some (false,.cells 142 (shR x)):=h2
 have sub2:Sub s s2:=qAh (u1.sub hb) u2 hb
 have z2:=h.sub sub2
 have rb:rdN s2 2 (.ptr b 0)=some (shR x):=qA7 h2 rfl
 simp only [qAI,qAJ,qAM z2.ob,g0Y,rb,qAA]
 refine qAW (a:=shR x) rfl ⟨rfl,newM (s:=s2) (l:=[]) λb3 s3 hb3 h3 u3=>?_⟩
 have h3:add s2 s3 b3=some (false,.cells 142 (shR x)):=h3
 have sub3:=u3.sub hb3
 generalize add s2 s3=t at h3 u3 sub3
 have z3:=z2.sub sub3
 have lit:SlR 2 t (.slc b3 0 1 (some 1) 2) ([x].map shR):=SlR.mk (qLa [x]) (by simpa using h3) rfl (by simp)
 have subt:=sub2.trans sub3
 have fin:∀ s4 sb' cap',s4 o=some (false,.cells 144 [.slc sb 0 q.length cap 2])→(∃ tl,s4 sb'=some (false,.cells 142 (qBm (q ++ [x]) ++ tl))∧∀ c,cap'=some c→(q ++ [x]).length≤c∧c * 2=(q ++ [x]).length * 2+tl.length)→qAg (λb=>b=o∨b=sb) s s4→(sb'=sb∨s sb'=none)→
   oK (wr1 s4 (.ptr o 0) (.slc sb' 0 (q.length+1) cap' 2)) λs_15=>qD4 TP XX (qv o) "Len" [] (λv_2 s_3=>oK (qAG .sub v_2 (.int .i64 1)) λv_4=>wC TP XX 95 [qv o,v_4] (λv_5 s_6=>K (.tup []) s_6) s_3) s_15:=λs4 sb' cap' ho hd kp hfr=>by
  refine qAm ho (by simp) rfl λs5 h5 u5=>?_
  have hne:sb'≠o:=by
   rintro rfl
   obtain ⟨tl,e,_⟩:=hd
   rw [ho] at e;cases e
  obtain ⟨tl,hd1,hd2⟩:=hd
  have z5:QAt s5 o sb' cap' (q ++ [x]):=⟨by rw [h5];simp,⟨tl,by rw [u5 sb' hne];exact hd1,hd2⟩,by rw [lAp];simp;omega⟩
  refine qLn z5 ?_
  have e1:IntKind.i64.wrap (((q ++ [x]).length:Int) - 1)=(q.length:Int):=by rw [lAp,List.length_singleton,qAf (by omega) (by omega)];omega
  simp only [qBO,e1,qAA]
  have hup:Up (q ++ [x]) q.length:=⟨λm m0 m1 m2=>by
   rw [lAp,List.length_singleton] at m1
   rw [qQl (by omega),qQl (by omega)]
   exact hh m m0 (by omega) (by omega),λ_ m m0 m1 m2=>by
   rw [lAp,List.length_singleton] at m1
   omega⟩
  refine qWY (q:=q ++ [x]) (r:=[]) (by rw [List.append_nil];exact z5) hup (by simp) λs6 q6 z6 p6 h6 k6=>?_
  rw [List.append_nil] at z6
  refine hK s6 sb' cap' q6 z6 h6 (p6.trans (List.perm_append_singleton x q)) ?_ hfr
  intro i e hi hn
  have h4:=kp i e hi hn
  have h5':s5 i=some e:=by rw [u5 i λq=>hn (.inl q)];exact h4
  by_cases q2:i=sb'
  ·-- a block of its own: it was not there,or is the list's
   rcases hfr with q3 | q3
   ·exact absurd (.inr (q2.trans q3)) hn
   ·rw [q2,q3] at hi;cases hi
  ·exact k6 i e h5' q2
 obtain ⟨tl,hd,hc⟩:=z3.dt
 have hne:=z3.ne
 have o3:t o=some (false,.cells 144 [.slc sb 0 q.length cap 2]):=z3.ob
 have flat1:qBm (q ++ [x])=qBm q ++ shR x:=by rw [qQK];simp [qBm]
 have old:rdSl t 2 (.slc sb 0 q.length cap 2)=some (qBm q):=by
  have:=z3.sl.rd
  simpa using this
 have fresh:∀ t',(∀ i e,i≠sb→t i=some e→t' i=some e)→(∀ i,t' i=none→i=sb∨t i=none)→qUk 142 2 (q.length+1) (qBm q ++ shR x) (λv_12 s_13=>oK (wr1 s_13 (.ptr o 0) v_12) λs_15=>qD4 TP XX (qv o) "Len" [] (λv_2 s_3=>oK (qAG .sub v_2 (.int .i64 1)) λv_4=>wC TP XX 95 [qv o,v_4] (λv_5 s_6=>K (.tup []) s_6) s_3) s_15) t':=λt' h1 h2=>by
  refine ⟨by omega,qAS λc s4 hc4 h4 u4=>?_⟩
  have hoc:o≠c:=λe=>by rw [← e,h1 o _ hne o3] at hc4;cases hc4
  refine fin s4 c none ?_ ⟨[],by rw [List.append_nil,flat1];exact h4,λc e=>by cases e⟩ (λi e hi hn=>?_) ?_
  ·rw [u4 o hoc];exact h1 o _ hne o3
  ·have h5:=h1 i e (λq=>hn (.inr q)) (subt i e hi)
   rw [u4 i (qBl hc4 h5)];exact h5
  ·rcases h2 c hc4 with e | e
   ·exact .inl e
   ·refine .inr ?_
    cases q:s c with
    | none=>rfl
    | some y=>rw [subt c y q] at e;cases e
 refine qAW lit.rd (qAW lit.len ⟨rfl,?_⟩)
 have lf:([x].map shR).flatten=shR x:=by simp
 have ll:([x].map shR).length=1:=rfl
 rw [lf,ll]
 simp only
 cases cap with
 | none=>
   simp only
   refine qAW old ?_
   unfold qQa
   rw [hd]
   refine ⟨rfl,?_⟩
   exact fresh (hdel t sb) (λi e hi he=>by rw [← he];exact if_neg hi) λi hi=>by
    by_cases e:i=sb
    ·exact .inl e
    ·exact .inr (by rw [← hi];exact (if_neg e).symm)
 | some c=>
   obtain ⟨c1,c2⟩:=hc c rfl
   simp only
   by_cases hfit:q.length+1≤c
   ·have e1:Nat.ble (q.length+1) c=true:=bL hfit
    have htl:2≤tl.length:=by omega
    have e3:Nat.ble (0+q.length * 2+(shR x).length) (qBm q ++ tl).length=true:=bL (by rw [lAp,qDq];show 0+q.length * 2+2≤_;omega)
    have e4:wrN t (.ptr sb (0+q.length * 2)) (shR x)=some (hset t sb (false,.cells 142 (qAu (qBm q ++ tl) (0+q.length * 2) (shR x)))):=by
     simp only [wrN,hd,e3,show qAb (shR x)=true from rfl,Bool.and_self,cond_true]
    have e5:qAu (qBm q ++ tl) (0+q.length * 2) (shR x)=qBm (q ++ [x]) ++ tl.drop 2:=by
     rw [zA,← qDq,flat1]
     unfold qAu
     rw [List.take_left]
     show qBm q ++ shR x ++ (qBm q ++ tl).drop ((qBm q).length+2)=_
     rw [List.drop_append,List.drop_eq_nil_of_le (by omega),List.nil_append]
     congr 2
     omega
    simp only [e1,cond_true,e4,qAA]
    rw [e5]
    refine fin _ sb (some c) (by rw [qAt hne];exact o3) ⟨tl.drop 2,qCN,λc' e=>?_⟩ (λi e hi hn=>?_) (.inl rfl)
    ·cases e
     rw [lAp,List.length_singleton,List.length_drop]
     omega
    ·rw [qAt λq=>hn (.inr q)];exact subt i e hi
   ·have e1:Nat.ble (q.length+1) c=false:=by
     cases e:Nat.ble (q.length+1) c with
     | false=>rfl
     | true=>exact absurd (Nat.le_of_ble_eq_true e) hfit
    simp only [e1,cond_false]
    exact qAW old (fresh t (λi e _ he=>he) λi hi=>.inr hi)
end Go.AM
namespace Go.AM
open Go Go.Proofs
variable {K:AV→Hq→Prop} {s s' s0:Hq} {o sb db:Nat} {cap:Option Nat} {q:List It} {N:Nat} {G:List Lnk} {U:List Bool} {from_:Nat} {d:Nat→Int} {av:AV}
def dl (N:Nat) (d:Nat→Int):List AV:=(List.range N).map λn=>.int .i64 (d n)
theorem qHH:(dl N d).length=N:=by unfold dl;simp
theorem qGm {n:Nat} (h:n < N):(dl N d)[n]?=some (.int .i64 (d n)):=by unfold dl;simp [h]
theorem qOZ {n:Nat} {v:Int} (h:n < N):(dl N d).set n (.int .i64 v)=dl N (updI d n v):=by
 refine List.ext_getElem? λi=>?_
 rw [List.getElem?_set]
 by_cases e:n=i
 ·subst e
  rw [if_pos rfl,qHH,if_pos h,qGm h,qBP]
 ·rw [if_neg e]
  by_cases hi:i < N
  ·rw [qGm hi,qGm hi,qCa (Ne.symm e)]
  ·rw [List.getElem?_eq_none (by rw [qHH];omega),List.getElem?_eq_none (by rw [qHH];omega)]
def edR (e:Nat × Nat × Nat):List AV:=[.int .i64 (e.1:Int),.int .i64 (e.2.1:Int),.int .i64 (e.2.2:Int)]
structure AdjR (s:Hq) (av:AV) (N:Nat) (E:Nat→List (Nat × Nat × Nat)):Prop where
 ex:∃ vs:Nat→AV,Sl s av ((List.range N).map vs)∧∀ n,n < N→SlR 3 s (vs n) ((E n).map edR)
theorem AdjR.sub {E:Nat→List (Nat × Nat × Nat)} (h:AdjR s av N E) (k:Sub s s'):AdjR s' av N E:=by
 obtain ⟨vs,h1,h2⟩:=h
 exact ⟨vs,h1.sub k,λn hn=>(h2 n hn).sub k⟩
theorem AdjR.at {E:Nat→List (Nat × Nat × Nat)} (h:AdjR s av N E) {n:Nat} (hn:n < N):∃ p v,qAO 1 av (.int .i64 (n:Int))=some p∧rd1 s p=some v∧SlR 3 s v ((E n).map edR):=by
 obtain ⟨vs,h1,h2⟩:=h
 obtain ⟨p,g1,g2⟩:=h1.get (i:=n) (by simpa using hn)
 refine ⟨p,vs n,g1,?_,h2 n hn⟩
 rw [g2];simp [hn]
theorem AdjR.len {E:Nat→List (Nat × Nat × Nat)} (h:AdjR s av N E):qAa av=some N:=by
 obtain ⟨vs,h1,_⟩:=h
 rw [h1.len];simp
def qRw (N:Nat) (G:List Lnk) (U:List Bool) (d:Nat→Int):Nat:=((List.range N).map λn=>if d n < 0 then (edL G U n).length else 0).sum
theorem qLj {n:Nat}:(edL G U n).length≤G.length:=by
 have:=List.length_filterMap_le (λi=>if U.getD i false then (match G[i]? with | some x=>(oth x n).map λm=>(i,m,x.2.2) | none=>none) else none) (List.range G.length)
 rw [List.length_range] at this
 exact this
theorem qXM:qRw N G U d≤N * G.length:=by
 have:∀ {l:List Nat},(l.map λn=>if d n < 0 then (edL G U n).length else 0).sum≤l.length * G.length:=by
  intro l
  induction l with
  | nil=>simp
  | cons a l ih=>
    have h1:=qLj (G:=G) (U:=U) (n:=a)
    simp only [List.map_cons,List.sum_cons,List.length_cons,Nat.succ_mul]
    split <;> omega
 have h:=this (l:=List.range N)
 rw [List.length_range] at h
 exact h
theorem qY3 {α:Type} [DecidableEq α] {f g:α→Nat} {y:α} {k:Nat}:∀ {l:List α},l.Nodup→y∈l→(∀ x∈l,x≠y→f x=g x)→f y+k=g y→(l.map f).sum+k=(l.map g).sum:=by
 intro l
 induction l with
 | nil=>intro _ h;cases h
 | cons a l ih=>
   intro nd hy h h1
   obtain ⟨na,nl⟩:=List.nodup_cons.1 nd
   simp only [List.map_cons,List.sum_cons]
   by_cases e:a=y
   ·subst e
    have:(l.map f)=l.map g:=List.map_congr_left λx hx=>h x (by simp [hx]) λq=>na (q ▸ hx)
    rw [this];omega
   ·have hy':y∈l:=by
     rcases mC hy with q | q
     ·exact absurd q.symm e
     ·exact q
    have:=ih nl hy' (λx hx=>h x (by simp [hx])) h1
    have:=h a (by simp) e
    omega
theorem qTn {n:Nat} {v:Nat} (hn:n < N) (hd:d n < 0):qRw N G U (updI d n v)+(edL G U n).length=qRw N G U d:=by
 unfold qRw
 refine qY3 (y:=n) List.nodup_range (List.mem_range.2 hn) (λx _ hx=>by rw [qCa hx]) ?_
 rw [qBP,if_neg (by omega),if_pos hd];omega
def pushed (G:List Lnk) (U:List Bool) (d:Nat→Int) (x:It) (i:Nat):List It:=((edL G U x.1).take i).filterMap λe=>if d e.2.1 < 0 then some (e.2.1,x.2+e.2.2) else none
theorem qRK {x:It} {i:Nat} {e:Nat × Nat × Nat} (he:(edL G U x.1)[i]?=some e):pushed G U d x (i+1)=pushed G U d x i ++ (if d e.2.1 < 0 then [(e.2.1,x.2+e.2.2)] else []):=by
 unfold pushed
 rw [List.take_add_one,he,List.filterMap_append]
 congr 1
 by_cases c:d e.2.1 < 0
 ·simp [c]
 ·simp [c]
theorem qT9 {x:It} {i:Nat}:(pushed G U d x i).length≤i:=by
 unfold pushed
 exact Nat.le_trans (List.length_filterMap_le _ _) (List.length_take_le _ _)
theorem qOH {x y:It}:y∈pushed G U d x (edL G U x.1).length↔∃ e∈edL G U x.1,d e.2.1 < 0∧y=(e.2.1,x.2+e.2.2):=by
 unfold pushed
 rw [List.take_length,List.mem_filterMap]
 constructor
 ·rintro ⟨e,h1,h2⟩
  split at h2
  ·rename_i c;cases h2;exact ⟨e,h1,c,rfl⟩
  ·cases h2
 ·rintro ⟨e,h1,h2,rfl⟩
  exact ⟨e,h1,if_pos h2⟩
structure DSt (s0 s:Hq) (o sb:Nat) (cap:Option Nat) (q:List It) (db N:Nat) (d:Nat→Int):Prop where
 sub:Sub s0 s
 qa:QAt s o sb cap q
 hp:Hp q 0
 dd:s db=some (false,.cells 3 (dl N d))
 f:s0 o=none∧s0 sb=none∧s0 db=none
theorem DSt.more (z:DSt s0 s o sb cap q db N d) (k:Sub s s'):DSt s0 s' o sb cap q db N d:=⟨z.sub.trans k,z.qa.sub k,z.hp,k _ _ z.dd,z.f⟩
theorem DSt.db_ne (z:DSt s0 s o sb cap q db N d):db≠o∧db≠sb:=by
 constructor
 ·rintro rfl
  have:=z.dd
  rw [z.qa.ob] at this;cases this
 ·rintro rfl
  obtain ⟨tl,e,_⟩:=z.qa.dt
  rw [z.dd] at e;cases e
theorem qLu (z:GOk N G U) (hN:N≤32) (hG:G.length≤128) (hC:∀ x∈G,x.2.2≤1000) (ha:AdjR s av N (edL G U)) (hf:from_ < N)
  (hK:∀ d b s',IsDist N G U from_ d→(∀ n,n < N→d n≤32000)→Sub s s'→s b=none→s' b=some (false,.cells 3 (dl N d))→K (.slc b 0 N (some N) 1) s'):wC TP XX 56 [av,.int .i64 (from_:Int)] K s:=by
 have hcost:∀ {i n m c:Nat},Ed G U i n m c→c≤1000:=fun {i n m c} e=>by
  rcases e.2 with e | e
  ·exact hC _ (mG e)
  ·exact hC _ (mG e)
 refine qKh ?_
 have n0:nat? (.int .i64 (N:Int))=some N:=nat?_mk
 simp only [qId,ha.len,n0,qAA,qBJ]
 refine ⟨⟨Nat.le_refl _,by omega⟩,qAS λdb s1 hdb h1 u1=>?_⟩
 have sub1:=u1.sub hdb
 refine ⟨λys s2 m=>∃ i:Nat,ys=[.int .i64 i]∧i≤N∧m=N - i∧Sub s s2∧s2 db=some (false,.cells 3 (dl N λn=>if n < i then -1 else 0)),⟨_,0,rfl,by omega,rfl,sub1,?_⟩,?_⟩
 ·rw [h1,qFE]
  congr 3
  unfold dl
  refine List.ext_getElem? λi=>?_
  by_cases hi:i < N
  ·simp [hi]
  ·simp [hi]
 rintro f s2 m ⟨i,hy,hi,rfl,sub2,h2⟩
 simp only [cI,and_true] at hy
 rw [hy]
 simp only [qGK,qAQ,qAA]
 refine qAU (λhlt=>?_) (λhge=>?_)
 ·have hlt:i < N:=by have:=oT hlt;omega
  have ad:qAO 1 (.slc db 0 N (some N) 1) (.int .i64 (i:Int))=some (.ptr db i):=by
   have:Nat.blt i N=true:=by rw [Nat.blt_eq];exact hlt
   simp [qAO,this]
  simp only [ad,qAA]
  refine qAm h2 (by rw [qHH];exact hlt) rfl λs3 h3 u3=>?_
  simp only [qAT,qAA]
  rw [qAf (by omega) (by omega)]
  refine ⟨_,by omega,i+1,rfl,by omega,rfl,qAh sub2 u3 hdb,?_⟩
  rw [h3,qOZ hlt]
  congr 3
  unfold dl
  refine List.map_congr_left λn hn=>?_
  congr 1
  by_cases e:n=i
  ·rw [e,qBP];exact (if_pos (by omega)).symm
  ·rw [qCa e]
   by_cases c:n < i
   ·show (if n < i then (-1:Int) else 0)=if n < i+1 then -1 else 0
    rw [if_pos c,if_pos (by omega)]
   ·show (if n < i then (-1:Int) else 0)=if n < i+1 then -1 else 0
    rw [if_neg c,if_neg (by omega)]
 have hge:i=N:=by have:=oF hge;omega
 subst hge
 have h2:s2 db=some (false,.cells 3 (dl i λ_=>-1)):=by
  rw [h2]
  congr 3
  unfold dl
  refine List.map_congr_left λn hn=>?_
  congr 1
  exact if_pos (List.mem_range.1 hn)
 refine qAW (a:=shR (from_,0)) rfl (qAW (a:=shR (from_,0)) rfl ⟨rfl,qAS λsb s3 hsb h3 u3=>⟨rfl,qAS λo s4 ho h4 u4=>?_⟩⟩)
 have h4:s4 o=some (false,.cells 144 [.slc sb 0 1 (some 1) 2]):=h4
 have sub3:=u3.sub hsb
 have sub4:=u4.sub ho
 have old:∀ b,s2 b=none→s b=none:=λb hb=>by
  cases q:s b with
  | none=>rfl
  | some x=>rw [sub2 b x q] at hb;cases hb
 have st0:DSt s s4 o sb (some 1) [(from_,0)] db i (λ_=>-1):=by
  refine ⟨(sub2.trans sub3).trans sub4,⟨h4,⟨[],?_,λc e=>by cases e;simp⟩,by simp⟩,λj h0 h1=>by simp at h1;omega,sub4 _ _ (sub3 _ _ h2),?_,old _ hsb,hdb⟩
  ·rw [List.append_nil,sub4 _ _ h3];rfl
  ·cases q:s o with
   | none=>rfl
   | some x=>rw [sub3 _ _ (sub2 _ _ q)] at ho;cases ho
 obtain ⟨vs,hv1,hv2⟩:=ha
 have hnl:i * G.length≤32 * 128:=Nat.mul_le_mul hN hG
 have inv0:DInv i G U from_ (λ_=>-1) [(from_,0)]:=⟨λn _=>Int.le_refl _,.inr ⟨λn _=>rfl,by simp⟩,λn _ h=>absurd h (by decide),λx hx=>by rw [List.mem_singleton] at hx;subst hx;exact ⟨hf,.inl rfl⟩,λx hx n _=>by rw [List.mem_singleton] at hx;subst hx;show (-1:Int)≤0;omega,λj n m c _ h=>absurd h (by decide)⟩
 refine ⟨λys s5 m=>∃ sb cap q d,DSt s s5 o sb cap q db i d∧DInv i G U from_ d q∧m=q.length+qRw i G U d∧m≤5000∧∀ n,n < i→d n≤(cntD i d:Int) * 1000,⟨_,sb,some 1,_,_,st0,inv0,rfl,by
  have:=qXM (N:=i) (G:=G) (U:=U) (d:=λ_=>-1)
  show 1+_≤5000
  omega,λn _=>by show (-1:Int)≤_;omega⟩,?_⟩
 clear st0 inv0
 rintro f s5 m ⟨sb,cap,q,d,st,inv,rfl,hm,hdm'⟩
 have hcl:=qRU (N:=i) (d:=d)
 have hdm:∀ n,n < i→d n≤32000:=λn hn=>by have:=hdm' n hn;omega
 simp only [qGB,qAJ,qAM st.qa.ob,g0Y,qAA]
 refine qGH ?_
 simp only [qFn,qBJ,qAA,qAx]
 refine qAU (λhlt=>?_) (λhge=>?_)
 rotate_left
 ·have hge:q=[]:=List.eq_nil_of_length_eq_zero (by have:=oF hge;omega)
  subst hge
  exact hK d db s5 inv.end_ hdm st.sub st.f.2.2 st.dd
 have hlt:0 < q.length:=by have:=oT hlt;omega
 refine zAA5 st.qa st.hp hlt λs6 q1 x z6 hp6 perm hmin k6=>?_
 have dbn:=st.db_ne
 have st6:DSt s s6 o sb cap q1 db i d:=⟨λb e hb=>k6 b e (st.sub b e hb) (by rintro (rfl | rfl);rw [st.f.1] at hb;cases hb;rw [st.f.2.1] at hb;cases hb),z6,hp6,k6 _ _ st.dd (by rintro (q | q);exact dbn.1 q;exact dbn.2 q),st.f⟩
 have t1:qR9 142 (some (.agg [(.int .i64 0),(.int .i64 0)])) true (.ifc 142 (.agg (shR x)))=some (.tup [.agg (shR x),.bool true]):=rfl
 have t2:qAN (.tup [.agg (shR x),.bool true]) 0=some (.agg (shR x)):=rfl
 have t3:qAN (.tup [.agg (shR x),.bool true]) 1=some (.bool true):=rfl
 simp only [t1,t2,t3,qAA]
 refine qAS λbx s7 hbx h7 u7=>qAl h7 rfl rfl rfl λs8 h8 u8=>?_
 have h8:s8 bx=some (false,.cells 142 [.int .i64 (x.1:Int),.int .i64 (x.2:Int)]):=h8
 have st8:=st6.more (qAh (u7.sub hbx) u8 hbx)
 have memx:x∈q:=perm.mem_iff.2 (by simp)
 have xN:=(inv.qn x memx).1
 have g0:[AV.int .i64 (x.1:Int),.int .i64 (x.2:Int)][0]?=some (.int .i64 (x.1:Int)):=rfl
 have g1:[AV.int .i64 (x.1:Int),.int .i64 (x.2:Int)][1]?=some (.int .i64 (x.2:Int)):=rfl
 have ad:∀ {n:Nat},n < i→qAO 1 (.slc db 0 i (some i) 1) (.int .i64 (n:Int))=some (.ptr db n):=fun {n} hn=>by
  have:Nat.blt n i=true:=by rw [Nat.blt_eq];exact hn
  simp [qAO,this]
 have plen:=perm.length_eq
 rw [List.length_cons] at plen
 simp only [qAE,zA,qAM h8,g0,g1,ad xN,qAM st8.dd,qGm xN,qA8,qAA]
 refine qAU (λhd=>?_) (λhd=>?_)
 ·have hd:=oT hd
  exact ⟨_,by omega,sb,cap,q1,d,st8,inv.skip hd λy=>(perm.mem_iff).trans List.mem_cons,rfl,by omega,hdm'⟩
 ·have hd:d x.1 < 0:=by have:=oF hd;omega
  refine qAm st8.dd (by rw [qHH];exact xN) rfl λs9 h9 u9=>?_
  rw [qOZ xN] at h9
  have hbxs:∀ {b:Nat} {e:Bool × Blk},s6 b=some e→b≠bx:=fun {b e} hb q=>by rw [q,hbx] at hb;cases hb
  have bxd:bx≠db:=λe=>hbxs st6.dd e.symm
  have h9x:s9 bx=_:=(u9 bx bxd).trans h8
  have sub9:Sub s s9:=qAh st8.sub u9 st.f.2.2
  have st9:DSt s s9 o sb cap q1 db i (updI d x.1 x.2):=⟨sub9,st8.qa.keep (fp:=λb=>b=db) (u9.keep rfl) (Ne.symm dbn.1) (Ne.symm dbn.2),hp6,h9,st.f⟩
  obtain ⟨pa,a1,a2⟩:=(hv1.sub sub9).get (i:=x.1) (by simpa using xN)
  have a2:rd1 s9 pa=some (vs x.1):=by rw [a2];simp [xN]
  have a3:=hv2 x.1 xN
  simp only [qAE,zA,qAM h9x,g0,a1,a2,a3.len,lMY,qAA]
  have hleft:=qTn (G:=G) (U:=U) (v:=x.2) xN hd
  refine ⟨λys s10 m=>∃ (k sb:Nat) (cap:Option Nat) (q2:List It),ys=[.int .i64 k]∧k≤(edL G U x.1).length∧m=(edL G U x.1).length - k∧DSt s s10 o sb cap q2 db i (updI d x.1 x.2)∧q2.Perm (pushed G U (updI d x.1 x.2) x k ++ q1)∧s10 bx=some (false,.cells 142 [.int .i64 (x.1:Int),.int .i64 (x.2:Int)])∧bx≠sb,⟨_,0,sb,cap,q1,rfl,by omega,rfl,st9,by simp [pushed],h9x,λe=>by obtain ⟨tl,e2,_⟩:=z6.dt;rw [← e,hbx] at e2;cases e2⟩,?_⟩
  rintro f2 s10 m2 ⟨k,sb,cap,q2,hy2,hk,rfl,st10,perm2,hx10,hbsb⟩
  simp only [cI,and_true] at hy2
  rw [hy2]
  have hp2:=perm2.length_eq
  rw [lAp] at hp2
  have hpl:=qT9 (G:=G) (U:=U) (d:=updI d x.1 x.2) (x:=x) (i:=k)
  have hxs:x.2≤100000:=by
   rcases (inv.qn x memx).2 with e | ⟨j,m,c,e1,e2,e3⟩
   ·rw [e];exact Nat.zero_le _
   ·have:=hdm m (z.ed e1).2.1
    have:=(z.ed e1).2.2.2.2
    omega
  simp only [qGF,qAQ,qAA]
  refine qAU (λhlt2=>?_) (λhge2=>?_)
  ·have hlt2:k < (edL G U x.1).length:=by have:=oT hlt2;omega
   obtain ⟨e,he⟩:∃ e,(edL G U x.1)[k]?=some e:=⟨_,gE hlt2⟩
   obtain ⟨j,mm,c⟩:=e
   have hed:=(qKd z).1 (mG he)
   obtain ⟨_,mN,nem,c1,c2⟩:=z.ed hed
   obtain ⟨pb,po,e1,e2,e3⟩:=(a3.sub st10.sub).get (i:=k) (r:=edR (j,mm,c)) (by rw [List.getElem?_map,he];rfl)
   simp only [e1,e2,qAA]
   refine qAS λbe s11 hbe h11 u11=>qAl h11 rfl rfl rfl λs12 h12 u12=>?_
   have h12:s12 be=some (false,.cells 137 [.int .i64 (j:Int),.int .i64 (mm:Int),.int .i64 (c:Int)]):=h12
   have sub12:Sub s10 s12:=qAh (u11.sub hbe) u12 hbe
   have st12:=st10.more sub12
   have hx12:=sub12 _ _ hx10
   have y1:[AV.int .i64 (j:Int),.int .i64 (mm:Int),.int .i64 (c:Int)][1]?=some (.int .i64 (mm:Int)):=rfl
   have y2:[AV.int .i64 (j:Int),.int .i64 (mm:Int),.int .i64 (c:Int)][2]?=some (.int .i64 (c:Int)):=rfl
   have hps:=qRK (d:=updI d x.1 x.2) he
   have next:∀ s13 sb cap q3,DSt s s13 o sb cap q3 db i (updI d x.1 x.2)→q3.Perm (pushed G U (updI d x.1 x.2) x (k+1) ++ q1)→s13 bx=some (false,.cells 142 [.int .i64 (x.1:Int),.int .i64 (x.2:Int)])→bx≠sb→
     qCz XX (.int .i64 (k:Int)) (λys s10 m=>∃ (k sb:Nat) (cap:Option Nat) (q2:List It),ys=[.int .i64 k]∧k≤(edL G U x.1).length∧m=(edL G U x.1).length - k∧DSt s s10 o sb cap q2 db i (updI d x.1 x.2)∧q2.Perm (pushed G U (updI d x.1 x.2) x k ++ q1)∧s10 bx=some (false,.cells 142 [.int .i64 (x.1:Int),.int .i64 (x.2:Int)])∧bx≠sb) ((edL G U x.1).length - k) (λys s5 m=>∃ sb cap q d,DSt s s5 o sb cap q db i d∧DInv i G U from_ d q∧m=q.length+qRw i G U d∧m≤5000∧∀ n,n < i→d n≤(cntD i d:Int) * 1000) (q.length+qRw i G U d) K s13:=λs13 sb cap q3 z3 p3 h13 h14=>by
    simp only [qCz,qAT,qAA]
    have:=qLj (G:=G) (U:=U) (n:=x.1)
    rw [qAf (by omega) (by omega)]
    exact ⟨_,by omega,k+1,sb,cap,q3,rfl,by omega,rfl,z3,p3,h13,h14⟩
   simp only [qAE,zA,qAM h12,y1,y2,ad mN,qAM st12.dd,qGm mN,qAQ,qAA]
   refine qAU (λhneg=>?_) (λhneg=>?_)
   ·have hneg:=oT hneg
    rw [if_pos hneg] at hps
    simp only [qAE,zA,qAM h12,y1,y2,qAM hx12,g1,qAT,qAA]
    rw [qAf (by omega) (by omega)]
    refine qAW (a:=shR (mm,x.2+c)) (by show some [AV.int .i64 (mm:Int),.int .i64 ((x.2:Int)+(c:Int))]=some (shR (mm,x.2+c));unfold shR;rw [show ((x.2+c:Nat):Int)=(x.2:Int)+(c:Int) by omega]) ?_
    have:=qLj (G:=G) (U:=U) (n:=x.1)
    refine qYo st12.qa st12.hp (by omega) λs13 sb' cap' q3 z13 hp13 perm3 k13 hfr=>?_
    have dbn':=st12.db_ne
    have sub13:Sub s s13:=λb e hb=>k13 b e (st12.sub b e hb) (by rintro (rfl | rfl);rw [st12.f.1] at hb;cases hb;rw [st12.f.2.1] at hb;cases hb)
    have hx13:s13 bx=_:=k13 _ _ hx12 (by
     rintro (e | e)
     ·rw [e,st12.qa.ob] at hx12;cases hx12
     ·exact hbsb e)
    refine next s13 sb' cap' q3 ⟨sub13,z13,hp13,k13 _ _ st12.dd (by rintro (q | q);exact dbn'.1 q;exact dbn'.2 q),st12.f.1,?_,st12.f.2.2⟩ ?_ hx13 ?_
    ·rcases hfr with e | e
     ·rw [e];exact st12.f.2.1
     ·cases q:s sb' with
      | none=>rfl
      | some y=>rw [st12.sub _ _ q] at e;cases e
    ·rw [hps,List.append_assoc]
     refine perm3.trans ((perm2.cons _).trans ?_)
     exact (List.perm_middle (l₁:=pushed G U (updI d x.1 x.2) x k) (a:=(mm,x.2+c)) (l₂:=q1)).symm
    ·intro e
     rcases hfr with q | q
     ·exact hbsb (e.trans q)
     ·rw [← e,hx12] at q;cases q
   ·have hneg:=oF hneg
    rw [if_neg hneg,List.append_nil] at hps
    exact next s12 sb cap q2 st12 (by rw [hps];exact perm2) hx12 hbsb
  ·have hge2:k=(edL G U x.1).length:=by have:=oF hge2;omega
   subst hge2
   have mp:=λy=>(perm2.mem_iff (a:=y)).trans List.mem_append
   have tk:=inv.take z (q':=q2) hd memx (λy hy=>by
    rcases mC (perm.mem_iff.1 hy) with e | e
    ·exact .inl e
    ·exact .inr ((mp y).2 (.inr e))) (λy hy=>hmin y hy) (λj m c e hm=>(mp _).2 (.inl (qOH.2 ⟨(j,m,c),(qKd z).2 e,by rw [qCa (Ne.symm (z.ed e).2.2.1)];exact hm,rfl⟩))) λy hy=>by
    rcases (mp y).1 hy with e | e
    ·obtain ⟨⟨j,m,c⟩,e1,e2,e3⟩:=qOH.1 e
     exact .inr ⟨j,m,c,(qKd z).1 e1,e3⟩
    ·exact .inl (perm.mem_iff.2 (by simp [e]))
   refine ⟨_,?_,sb,cap,q2,_,st10,tk,rfl,by omega,λn hn=>?_⟩
   ·omega
   ·have hc1:cntD i d+1≤cntD i (updI d x.1 x.2):=qVi (y:=x.1) (λn _ hn=>by
     have hn:=oT hn
     refine decide_eq_true ?_
     by_cases e:n=x.1
     ·rw [e,qBP];omega
     ·rw [qCa e];exact hn) (List.mem_range.2 xN) (decide_eq_false (by omega)) (decide_eq_true (by rw [qBP];omega))
    by_cases e:n=x.1
    ·rw [e,qBP]
     rcases (inv.qn x memx).2 with e | ⟨j,m,c,e1,e2,e3⟩
     ·rw [e];show (0:Int)≤_;omega
     ·have:=hdm' m (z.ed e1).2.1
      have:=hcost e1
      omega
    ·rw [qCa e]
     have:=hdm' n hn
     omega
end Go.AM
namespace Go.AM
open Go Go.Proofs
variable {K:AV→Hq→Prop} {s s' s0 t R:Hq} {N:Nat} {v y:AV} {rows:List (List AV)}
theorem qZ3 {row:List AV} (hs:Sub R t) (hv:AccR 137 3 s0 t v rows) (hvis:∀ b n,v=.slc b 0 n none 3→R b=t b) (hy:SlR 3 R y [row]) (hl:rows.length≤1000)
  (hK:∀ c s22,((∀ b,t b≠none→R b=none→s22 b=none)→(∀ i e,t i=some e→(∀ n,v≠.slc i 0 n none 3)→i≠c∧add s22 (rest t R) i=some e)∧add s22 (rest t R) c=some (false,.cells 137 (rows ++ [row]).flatten)∧(t c=none∨∃ n,v=.slc c 0 n none 3))→
   K (.slc c 0 (rows.length+1) none 3) s22):appK 137 3 v y K R:=by
 have hf:[row].flatten=row:=by simp
 have hm:[row].length=1:=rfl
 have fl:(rows ++ [row]).flatten=rows.flatten ++ row:=by simp
 refine qAW hy.rd (qAW hy.len ?_)
 rw [hf,hm]
 obtain ⟨hrow,hv⟩:=hv
 have fin:∀ (R':Hq),(∀ i,(∀ n,v≠.slc i 0 n none 3)→R' i=R i)→(∀ i,R' i=none→R i=none∨∃ n,v=.slc i 0 n none 3)→newK 137 (rows.flatten ++ row) (λb=>K (.slc b 0 (rows.length+1) none 3)) R':=λR' h1 h2=>by
  refine qAS λc s22 hc h4 u4=>hK c s22 λhcond=>?_
  have hct:t c=none∨∃ n,v=.slc c 0 n none 3:=by
   rcases h2 c hc with e | e
   ·left
    cases q:t c with
    | none=>rfl
    | some x=>
      have:=hcond c (by rw [q];simp) e
      rw [h4] at this;cases this
   ·exact .inr e
  refine ⟨λi e hi hn=>?_,?_,hct⟩
  ·have hic:i≠c:=by
    rintro rfl
    rcases hct with q | ⟨n,q⟩
    ·rw [hi] at q;cases q
    ·exact hn n q
   refine ⟨hic,?_⟩
   have hR:R' i=R i:=h1 i hn
   have h5:s22 i=R i:=by rw [← hR];exact u4 i hic
   cases q:R i with
   | some x=>
     have:=hs i x q
     rw [hi] at this
     cases this
     exact qAZ (by rw [h5,q])
   | none=>
     rw [qAX (by rw [h5,q])]
     unfold rest
     rw [if_pos q];exact hi
  ·rw [fl];exact qAZ h4
 rcases hv with ⟨rfl,rfl⟩ | ⟨b,hb0,rfl,hb⟩
 ·simp only
  refine ⟨by omega,?_⟩
  exact fin R (λ_ _=>rfl) λi hi=>.inl hi
 ·refine ⟨rfl,?_⟩
  simp only
  have hbR:R b=some (false,.cells 137 rows.flatten):=by rw [hvis b _ rfl];exact hb
  refine qAW (SlR.rd (SlR.mk hrow hbR rfl (by simp))) ?_
  unfold qQa
  rw [hbR]
  refine ⟨rfl,by omega,?_⟩
  exact fin (hdel R b) (λi hn=>if_neg λe=>hn rows.length (by rw [e])) λi hi=>by
   by_cases e:i=b
   ·exact .inr ⟨rows.length,by rw [e]⟩
   ·exact .inl (by rw [← hi];exact (if_neg e).symm)
structure EB (s0 s:Hq) (o ab N:Nat) (E:Nat→List (Nat × Nat × Nat)):Prop where
 sub:Sub s0 s
 f:s0 o=none∧s0 ab=none
 oc:s o=some (false,.cells 112 [.slc ab 0 N (some N) 1])
 row:∃ vs:Nat→AV,s ab=some (false,.cells 134 ((List.range N).map vs))∧(∀ n,n < N→AccR 137 3 s0 s (vs n) ((E n).map edR))∧
  ∀ n m,n < N→m < N→n≠m→∀ b k b' k',vs n=.slc b 0 k none 3→vs m=.slc b' 0 k' none 3→b≠b'
theorem EB.more {o ab:Nat} {E:Nat→List (Nat × Nat × Nat)} (z:EB s0 s o ab N E) (k:Sub s s'):EB s0 s' o ab N E:=by
 obtain ⟨h1,h2,h3,vs,h4,h5,h6⟩:=z
 exact ⟨h1.trans k,h2,k _ _ h3,vs,k _ _ h4,λn hn=>(h5 n hn).sub k,h6⟩
theorem zAA2 {vs:Nat→AV} {n:Nat} {v:AV} (h:n < N):((List.range N).map vs).set n v=(List.range N).map λi=>if i=n then v else vs i:=by
 refine List.ext_getElem? λi=>?_
 rw [List.getElem?_set]
 by_cases e:n=i
 ·subst e
  simp [h]
 ·rw [if_neg e]
  by_cases hi:i < N
  ·simp [hi,Ne.symm e]
  ·simp [hi]
def addE (E:Nat→List (Nat × Nat × Nat)) (n:Nat) (e:Nat × Nat × Nat):Nat→List (Nat × Nat × Nat):=λk=>if k=n then E k ++ [e] else E k
theorem EB.put {o ab n:Nat} {E:Nat→List (Nat × Nat × Nat)} {e:Nat × Nat × Nat} (z:EB s0 t o ab N E) {vs:Nat→AV} (h4:t ab=some (false,.cells 134 ((List.range N).map vs))) (h5:∀ n,n < N→AccR 137 3 s0 t (vs n) ((E n).map edR)) (h6:∀ n m,n < N→m < N→n≠m→∀ b k b' k',vs n=.slc b 0 k none 3→vs m=.slc b' 0 k' none 3→b≠b') (hn:n < N) (hs:Sub R t) (hR:∀ i,R i=t i∨(t i≠none∧∃ el cs,t i=some (false,.cells el cs)∧el≠137)) (hy:SlR 3 R y [edR e]) (hl:(E n).length≤500) {J:Hq→Prop}
  (hJ:∀ s4,EB s0 s4 o ab N (addE E n e)→(∀ i el cs,t i=some (false,.cells el cs)→el≠137→el≠134→s4 i=t i)→(∀ i x,t i=some (false,x)→(∀ el cs,x≠.cells el cs)→s4 i=t i)→J s4) :
  appK 137 3 (vs n) y (λv_21 s_22=>(∀ b,t b≠none→R b=none→s_22 b=none)→oK (wr1 (add s_22 (rest t R)) (.ptr ab n) v_21) J) R:=by
 have own:∀ b k,vs n=.slc b 0 k none 3→∃ cs,t b=some (false,.cells 137 cs):=λb k e=>by
  rcases (h5 n hn).2 with ⟨e',_⟩ | ⟨b',_,e',h⟩
  ·rw [e'] at e;cases e
  ·rw [e'] at e;cases e;exact ⟨_,h⟩
 refine qZ3 hs (h5 n hn) (λb k e=>?_) hy (by rw [lMY];omega) λc s22 hf hcond=>?_
 ·rcases hR b with q | ⟨_,el,cs,q,ne⟩
  ·exact q
  ·obtain ⟨cs',q'⟩:=own b k e
   rw [q'] at q;cases q;exact absurd rfl ne
 obtain ⟨g1,g2,g3⟩:=hf hcond
 generalize add s22 (rest t R)=M at g1 g2
 have notown:∀ i el cs,t i=some (false,.cells el cs)→el≠137→∀ k,vs n≠.slc i 0 k none 3:=λi el cs h ne k e=>by
  obtain ⟨cs',q⟩:=own i k e
  rw [h] at q;cases q;exact ne rfl
 obtain ⟨c1,m1⟩:=g1 ab _ h4 (notown ab _ _ h4 (by decide))
 obtain ⟨c2,m2⟩:=g1 o _ z.oc (notown o _ _ z.oc (by decide))
 refine qAm m1 (by simpa using hn) rfl λs4 h7 u7=>?_
 rw [zAA2 hn] at h7
 have oab:o≠ab:=by
  rintro rfl
  rw [z.oc] at h4;cases h4
 have f0:∀ {i:Nat} {x:Bool × Blk},s0 i=some x→i≠c∧(∀ k,vs n≠.slc i 0 k none 3):=fun {i x} hi=>by
  have own0:∀ k,vs n≠.slc i 0 k none 3:=λk e=>by
   rcases (h5 n hn).2 with ⟨e',_⟩ | ⟨b',hb',e',h⟩
   ·rw [e'] at e;cases e
   ·rw [e'] at e;cases e;rw [hi] at hb';cases hb'
  refine ⟨λq=>?_,own0⟩
  rcases g3 with q2 | ⟨k,q2⟩
  ·rw [q] at hi;rw [z.sub _ _ hi] at q2;cases q2
  ·rw [← q] at q2;exact own0 k q2
 have cab:c≠ab:=Ne.symm c1
 have hc4:s4 c=some (false,.cells 137 ((E n).map edR ++ [edR e]).flatten):=by rw [u7 c cab];exact g2
 have hc0:s0 c=none:=by
  cases q:s0 c with
  | none=>rfl
  | some x=>exact absurd rfl (f0 q).1
 refine hJ s4 ⟨λi x hi=>?_,z.f,by rw [u7 o oab];exact m2,λi=>if i=n then .slc c 0 (((E n).map edR).length+1) none 3 else vs i,h7,λm hm=>?_,λa b ha hb hab x k x' k' v1 v2=>?_⟩ (λi el cs hi h111 h109=>?_) λi x hi hx=>?_
 ·obtain ⟨q1,q2⟩:=f0 hi
  obtain ⟨_,q3⟩:=g1 i x (z.sub i x hi) q2
  rw [u7 i (λq=>by rw [q,z.f.2] at hi;cases hi)];exact q3
 ·by_cases e1:m=n
  ·subst e1
   have eE:addE E m e m=E m ++ [e]:=if_pos rfl
   rw [eE,List.map_append]
   simp only [if_true]
   exact ⟨λr hr=>by
    rcases mP hr with q | q
    ·exact (h5 m hn).1 r q
    ·rw [List.map_singleton,List.mem_singleton] at q;subst q;rfl,.inr ⟨c,hc0,by simp,by simpa using hc4⟩⟩
  ·have eE:addE E n e m=E m:=if_neg e1
   rw [eE]
   simp only [if_neg e1]
   obtain ⟨r0,q⟩:=h5 m hm
   refine ⟨r0,?_⟩
   rcases q with q | ⟨b,q1,q2,q3⟩
   ·exact .inl q
   ·obtain ⟨w1,w2⟩:=g1 b _ q3 λk e3=>h6 n m hn hm (Ne.symm e1) b k b _ e3 q2 rfl
    refine .inr ⟨b,q1,q2,?_⟩
    rw [u7 b (λq=>by rw [q,h4] at q3;cases q3)];exact w2
 ·have e1:(if a=n then AV.slc c 0 (((E n).map edR).length+1) none 3 else vs a)=.slc x 0 k none 3:=v1
  have e2:(if b=n then AV.slc c 0 (((E n).map edR).length+1) none 3 else vs b)=.slc x' 0 k' none 3:=v2
  clear v1 v2
  by_cases e3:a=n
  ·rw [if_pos e3] at e1
   rw [if_neg (λq=>hab (e3.trans q.symm))] at e2
   cases e1
   intro q
   subst q
   rcases (h5 b hb).2 with ⟨e',_⟩ | ⟨b',q1,e',q3⟩
   ·rw [e'] at e2;cases e2
   ·rw [e'] at e2;cases e2
    rcases g3 with q | ⟨k2,q⟩
    ·rw [q] at q3;cases q3
    ·exact h6 n b hn hb (λq=>hab (e3.trans q)) _ k2 _ _ q e' rfl
  ·rw [if_neg e3] at e1
   by_cases e4:b=n
   ·rw [if_pos e4] at e2
    cases e2
    intro q
    subst q
    rcases (h5 a ha).2 with ⟨e',_⟩ | ⟨b',q1,e',q3⟩
    ·rw [e'] at e1;cases e1
    ·rw [e'] at e1;cases e1
     rcases g3 with q | ⟨k2,q⟩
     ·rw [q] at q3;cases q3
     ·exact h6 n a hn ha (Ne.symm e3) _ k2 _ _ q e' rfl
   ·rw [if_neg e4] at e2
    exact h6 a b ha hb hab x k x' k' e1 e2
 ·obtain ⟨w1,w2⟩:=g1 i _ hi (notown i _ _ hi h111)
  rw [u7 i (λq=>by rw [q,h4] at hi;cases hi;exact h109 rfl),w2,hi]
 ·obtain ⟨w1,w2⟩:=g1 i _ hi λk e3=>by
   obtain ⟨cs',q⟩:=own i k e3
   rw [hi] at q;cases q;exact hx _ _ rfl
  rw [u7 i (λq=>by rw [q,h4] at hi;cases hi;exact hx _ _ rfl),w2,hi]
end Go.AM
namespace Go.AM
open Go Go.Proofs
variable {K:AV→Hq→Prop} {s s' s0 t R:Hq} {N:Nat} {E:Nat→List (Nat × Nat × Nat)} {o ab:Nat}
theorem EB.loop {l:Nat} {x:Blk} (z:EB s0 s o ab N E) (hl:s l=some (false,x)) (hx:∀ el cs,x≠.cells el cs) (h0:s0 l=none) (u:Upto l s s'):EB s0 s' o ab N E:=by
 obtain ⟨vs,h4,h5,h6⟩:=z.row
 have ne:∀ {i el cs},s i=some (false,.cells el cs)→i≠l:=fun {i el cs} h q=>by rw [q,hl] at h;cases h;exact hx _ _ rfl
 refine ⟨qAh z.sub u h0,z.f,by rw [u o (ne z.oc)];exact z.oc,vs,by rw [u ab (ne h4)];exact h4,λn hn=>?_,h6⟩
 obtain ⟨r0,q⟩:=h5 n hn
 refine ⟨r0,q.imp id λ⟨b,q1,q2,q3⟩=>⟨b,q1,q2,by rw [u b (ne q3)];exact q3⟩⟩
theorem qSv {t:Hq}:minus t (λ_=>none)=t:=by
 funext b
 unfold minus
 rw [if_pos rfl]
theorem qWM {s3:Hq} {x y i:Nat} (h1:i≠x) (h2:i≠y):cutH [(hdel s3 x,s3),(hdel s3 y,s3)] t i=t i:=by
 show (if hdel s3 y i=none∧s3 i≠none then none else (if hdel s3 x i=none∧s3 i≠none then none else t i))=_
 have e1:hdel s3 x i=s3 i:=if_neg h1
 have e2:hdel s3 y i=s3 i:=if_neg h2
 rw [e1,e2]
 by_cases q:s3 i=none
 ·rw [if_neg (by rintro ⟨_,h⟩;exact h q),if_neg (by rintro ⟨_,h⟩;exact h q)]
 ·rw [if_neg (by rintro ⟨h,_⟩;exact q h),if_neg (by rintro ⟨h,_⟩;exact q h)]
theorem lit3 {e:Nat × Nat × Nat} {R:Nat→Hq→Prop} (hK:∀ b s2,s b=none→add s s2 b=some (false,.cells 137 (edR e))→Upto b s (add s s2)→R b s2) :
  oK (qA2 [(.int .i64 0),(.int .i64 0),(.int .i64 0)] [(0,1,.int .i64 (e.1:Int)),(1,1,.int .i64 (e.2.1:Int)),(2,1,.int .i64 (e.2.2:Int))]) λc_16=>
  oK (qA2 (repl 1 [(.int .i64 0),(.int .i64 0),(.int .i64 0)]) [(0,3,(.agg c_16))]) λc_17=>qAb c_17=true∧newK 137 c_17 (λb s2=>(∀ b,s b≠none→s b=none→s2 b=none)→R b s2) (frz s):=
 qAW (a:=edR e) rfl (qAW (a:=edR e) rfl ⟨rfl,newM (l:=[]) hK⟩)
abbrev rdyC (ac bo:Code) (o d:Nat):Blk:=.loop .ready none 52 [(7,.ptr o 0)] [15,16] ac bo d
abbrev bsyC (ac bo:Code) (o d:Nat):Blk:=.loop .busy none 52 [(7,.ptr o 0)] [15,16] ac bo d
theorem qOx {l i a b c d:Nat} (z:EB s0 s o ab N E) (hl:s l=some (false,rdyC (rfAs 0 (qAp Tryz.f57)) (rfBo 0 (qAp Tryz.f57)) o d)) (h0:s0 l=none) (ha:a < N) (hb:b < N) (hab:a≠b) (hle:∀ n,(E n).length≤300)
  (hK:∀ s',EB s0 s' o ab N (addE (addE E a (i,b,c)) b (i,a,c))→s' l=some (false,rdyC (rfAs 0 (qAp Tryz.f57)) (rfBo 0 (qAp Tryz.f57)) o d)→(∀ j el cs,s j=some (false,.cells el cs)→el≠137→el≠134→s' j=s j)→K (.bool true) s') :
  qKg TP XX l [.int .i64 (i:Int),.agg [.int .i64 (a:Int),.int .i64 (b:Int),.int .i64 (c:Int)]] K s:=by
 refine qK8 hl ?_
 refine qAS λb0 s1 hb0 h1 u1=>qAl h1 rfl rfl rfl λs2 h2 u2=>⟨rfl,?_⟩
 have h2:s2 b0=some (false,.cells 72 [.int .i64 (a:Int),.int .i64 (b:Int),.int .i64 (c:Int)]):=h2
 have sub2:Sub s s2:=qAh (u1.sub hb0) u2 hb0
 have z2:=z.more sub2
 have l2:=sub2 _ _ hl
 unfold qLM
 rw [l2]
 simp only
 have u3:Upto l s2 (hset s2 l (false,bsyC (rfAs 0 (qAp Tryz.f57)) (rfBo 0 (qAp Tryz.f57)) o d)):=λ_ hi=>qAt hi
 have l3:hset s2 l (false,bsyC (rfAs 0 (qAp Tryz.f57)) (rfBo 0 (qAp Tryz.f57)) o d) l=some (false,bsyC (rfAs 0 (qAp Tryz.f57)) (rfBo 0 (qAp Tryz.f57)) o d):=qCN
 have z3:=z2.loop l2 (λ_ _ h=>by cases h) h0 u3
 have lb0:b0≠l:=λq=>by rw [q,l2] at h2;cases h2
 have h3:hset s2 l (false,bsyC (rfAs 0 (qAp Tryz.f57)) (rfBo 0 (qAp Tryz.f57)) o d) b0=_:=(u3 b0 lb0).trans h2
 have c3:∀ j el cs,s j=some (false,.cells el cs)→hset s2 l (false,bsyC (rfAs 0 (qAp Tryz.f57)) (rfBo 0 (qAp Tryz.f57)) o d) j=s j:=λj el cs hj=>by rw [u3 j (λq=>by rw [q,hl] at hj;cases hj),sub2 _ _ hj,hj]
 generalize hset s2 l (false,bsyC (rfAs 0 (qAp Tryz.f57)) (rfBo 0 (qAp Tryz.f57)) o d)=s3 at u3 l3 z3 h3 c3
 clear u3
 obtain ⟨vs,h4,h5,h6⟩:=z3.row
 have x0:[AV.int .i64 (a:Int),.int .i64 (b:Int),.int .i64 (c:Int)][0]?=some (.int .i64 (a:Int)):=rfl
 have x1:[AV.int .i64 (a:Int),.int .i64 (b:Int),.int .i64 (c:Int)][1]?=some (.int .i64 (b:Int)):=rfl
 have x2:[AV.int .i64 (a:Int),.int .i64 (b:Int),.int .i64 (c:Int)][2]?=some (.int .i64 (c:Int)):=rfl
 have ad:∀ {n:Nat},n < N→qAO 1 (.slc ab 0 N (some N) 1) (.int .i64 (n:Int))=some (.ptr ab n):=fun {n} hn=>by
  have:Nat.blt n N=true:=by rw [Nat.blt_eq];exact hn
  simp [qAO,this]
 have ra:((List.range N).map vs)[a]?=some (vs a):=by simp [ha]
 simp only [qAM z3.oc,g0Y,qAE,zA,qAM h3,x0,x1,x2,ad ha,qAM h4,ra,qAA]
 refine lit3 (e:=(i,b,c)) λb18 s19 hb18 h18 u18=>⟨λ_=>none,λ_ h=>absurd rfl h,?_⟩
 have sub3:=u18.sub hb18
 rw [qSv]
 have hidden:∀ {s3 t:Hq} {b0:Nat},Sub s3 t→s3 o=some (false,.cells 112 [.slc ab 0 N (some N) 1])→s3 b0=some (false,.cells 72 [.int .i64 (a:Int),.int .i64 (b:Int),.int .i64 (c:Int)])→∀ j,cutH [(hdel s3 o,s3),(hdel s3 b0,s3)] t j=t j∨(t j≠none∧∃ el cs,t j=some (false,.cells el cs)∧el≠137):=fun {s3 t b0} hs ho hb j=>by
  by_cases e1:j=o
  ·rw [e1,hs _ _ ho]
   exact .inr ⟨by simp,_,_,rfl,by decide⟩
  ·by_cases e2:j=b0
   ·rw [e2,hs _ _ hb]
    exact .inr ⟨by simp,_,_,rfl,by decide⟩
   ·exact .inl (qWM e1 e2)
 have lit:∀ {s3 t:Hq} {x y b18:Nat} {e:Nat × Nat × Nat},t b18=some (false,.cells 137 (edR e))→b18≠x→b18≠y→SlR 3 (cutH [(hdel s3 x,s3),(hdel s3 y,s3)] t) (.slc b18 0 1 (some 1) 3) [edR e]:=fun {s3 t x y b18 e} h q1 q2=>SlR.mk (rows:=[edR e]) (by intro r hr;rw [List.mem_singleton] at hr;subst hr;rfl) (by rw [qWM q1 q2];simpa using h) rfl (by simp)
 have nb:∀ {j:Nat} {e:Bool × Blk},s3 j=some e→b18≠j:=fun {j e} h q=>by rw [← q,hb18] at h;cases h
 refine EB.put (z3.more sub3) (sub3 _ _ h4) (λn hn=>(h5 n hn).sub sub3) h6 ha (qK7 _ _) (hidden sub3 z3.oc h3) (lit h18 (nb z3.oc) (nb h3)) (by have:=hle a;omega) λs4 z4 k1 k2=>?_
 have h34:s4 b0=_:=(k1 b0 _ _ (sub3 _ _ h3) (by decide) (by decide)).trans (sub3 _ _ h3)
 have l4:s4 l=_:=(k2 l _ (sub3 _ _ l3) (λ_ _ h=>by cases h)).trans (sub3 _ _ l3)
 have c4:∀ j el cs,s j=some (false,.cells el cs)→el≠137→el≠134→s4 j=s j:=λj el cs hj e1 e2=>by
  have q:=c3 j el cs hj
  rw [hj] at q
  rw [k1 j el cs (sub3 _ _ q) e1 e2,sub3 _ _ q,hj]
 clear k1 k2 c3 sub3 h18 u18 hb18 nb h4 h5 h6 ra
 obtain ⟨ws,h4,h5,h6⟩:=z4.row
 have rb:((List.range N).map ws)[b]?=some (ws b):=by simp [hb]
 simp only [qAM z4.oc,g0Y,qAE,zA,qAM h34,x0,x1,x2,ad hb,qAM h4,rb,qAA]
 refine lit3 (e:=(i,a,c)) λb39 s40 hb39 h39 u39=>⟨λ_=>none,λ_ h=>absurd rfl h,?_⟩
 have sub4:=u39.sub hb39
 rw [qSv]
 have nb:∀ {j:Nat} {e:Bool × Blk},s4 j=some e→b39≠j:=fun {j e} h q=>by rw [← q,hb39] at h;cases h
 refine EB.put (z4.more sub4) (sub4 _ _ h4) (λn hn=>(h5 n hn).sub sub4) h6 hb (qK7 _ _) (hidden sub4 z4.oc h34) (lit h39 (nb z4.oc) (nb h34)) ?_ λs5 z5 k1 k2=>?_
 ·have:addE E a (i,b,c) b=E b:=if_neg (Ne.symm hab)
  rw [this]
  have:=hle b;omega
 have l5:s5 l=_:=(k2 l _ (sub4 _ _ l4) (λ_ _ h=>by cases h)).trans (sub4 _ _ l4)
 unfold endK
 rw [l5]
 simp only
 refine hK _ (z5.loop l5 (λ_ _ h=>by cases h) h0 λ_ hi=>qAt hi) qCN λj el cs hj e1 e2=>?_
 have q:=c4 j el cs hj e1 e2
 rw [hj] at q
 rw [qAt (λq=>by rw [q,hl] at hj;cases hj),k1 j el cs (sub4 _ _ q) e1 e2,sub4 _ _ q,hj]
end Go.AM
namespace Go.AM
open Go Go.Proofs
variable {K:AV→Hq→Prop} {s s':Hq} {N:Nat} {G:List Lnk} {U:List Bool} {lv uv:AV}
def lkR (x:Lnk):List AV:=[.int .i64 (x.1:Int),.int .i64 (x.2.1:Int),.int .i64 (x.2.2:Int)]
def edF (G:List Lnk) (U:List Bool) (n i:Nat):Option (Nat × Nat × Nat):=if U.getD i false then (match G[i]? with | some x=>(oth x n).map λm=>(i,m,x.2.2) | none=>none) else none
def edP (G:List Lnk) (U:List Bool) (k n:Nat):List (Nat × Nat × Nat):=(List.range k).filterMap (edF G U n)
theorem qPh {k n:Nat}:edP G U (k+1) n=edP G U k n ++ (edF G U n k).toList:=by
 unfold edP
 rw [List.range_succ,List.filterMap_append]
 congr 1
theorem qUM {k n:Nat}:(edP G U k n).length≤k:=by
 have:=List.length_filterMap_le (edF G U n) (List.range k)
 rw [List.length_range] at this
 exact this
theorem qXK {k:Nat} (h:U.getD k false=false):edP G U (k+1)=edP G U k:=by
 funext n
 rw [qPh]
 have:edF G U n k=none:=by unfold edF;rw [h];rfl
 rw [this];simp
theorem zABN {k a b c:Nat} (h:U.getD k false=true) (hg:G[k]?=some (a,b,c)) (hab:a≠b):edP G U (k+1)=addE (addE (edP G U k) a (k,b,c)) b (k,a,c):=by
 funext n
 rw [qPh]
 have e1:edF G U n k=(oth (a,b,c) n).map λm=>(k,m,c):=by unfold edF;rw [h,hg];rfl
 rw [e1]
 unfold addE oth
 by_cases q1:a=n
 ·subst q1
  rw [if_pos rfl,if_neg hab,if_pos rfl];rfl
 ·by_cases q2:b=n
  ·subst q2
   rw [if_neg q1,if_pos rfl,if_pos rfl,if_neg (Ne.symm hab)];rfl
  ·rw [if_neg q1,if_neg q2,if_neg (Ne.symm q2),if_neg (Ne.symm q1)];simp
set_option maxHeartbeats 1000000 in
theorem qSX (z:GOk N G U) (hN:N≤32) (hG:G.length≤128) (hl:SlR 3 s lv (G.map lkR)) (hu:Sl s uv (U.map AV.bool)) (hK:∀ v s',Sub s s'→AdjR s' v N (edL G U)→K v s'):wC TP XX 57 [.int .i64 (N:Int),lv,uv] K s:=by
 refine qNP ?_
 have n0:nat? (.int .i64 (N:Int))=some N:=nat?_mk
 simp only [qL5,n0,qAA]
 refine ⟨⟨Nat.le_refl _,by omega⟩,qAS λab s1 hab h1 u1=>qAS λo s2 ho h2 u2=>?_⟩
 have sub1:=u1.sub hab
 have hos:s o=none:=by
  cases q:s o with
  | none=>rfl
  | some x=>rw [sub1 _ _ q] at ho;cases ho
 refine qAm h2 (by simp) rfl λs3 h3 u3=>?_
 have h3:s3 o=some (false,.cells 112 [.slc ab 0 N (some N) 1]):=h3
 have sub3:Sub s s3:=qAh (sub1.trans (u2.sub ho)) u3 hos
 have hoab:ab≠o:=λq=>by rw [q,ho] at h1;cases h1
 have h3a:s3 ab=some (false,.cells 134 ((List.range N).map λ_=>AV.nilslc)):=by
  rw [u3 ab hoab,u2 ab hoab,h1,qFE]
  congr 3
  refine List.ext_getElem? λi=>?_
  by_cases hi:i < N
  ·simp [hi]
  ·simp [hi]
 have z3:EB s s3 o ab N (edP G U 0):=⟨sub3,⟨hos,hab⟩,h3,λ_=>.nilslc,h3a,λn _=>⟨by simp [edP],.inl ⟨rfl,rfl⟩⟩,λn m _ _ _ b k b' k' e=>by cases e⟩
 refine qGW (qLB hl.one λb0 s4 hb0 h4 u4=>qLB hu.one λb2 s5 hb2 h5 u5=>?_)
 have sub5:Sub s3 s5:=(u4.sub hb0).trans (u5.sub hb2)
 have z5:=z3.more sub5
 have h4':s5 b0=some (false,.cells 22 [lv]):=(u5.sub hb2) _ _ h4
 refine ⟨by kernel_rfl,trivial,λl d hlf=>?_⟩
 have u6:Upto l s5 (hset s5 l (false,rdyC (rfAs 0 (qAp Tryz.f57)) (rfBo 0 (qAp Tryz.f57)) o d)):=λ_ hi=>qAt hi
 have l6:(hset s5 l (false,rdyC (rfAs 0 (qAp Tryz.f57)) (rfBo 0 (qAp Tryz.f57)) o d)) l=_:=qCN
 have z6:=z5.more (u6.sub hlf)
 have hls:s l=none:=by
  cases q:s l with
  | none=>rfl
  | some x=>rw [sub5 _ _ (sub3 _ _ q)] at hlf;cases hlf
 have h6a:=(u6.sub hlf) _ _ h4'
 have h6b:=(u6.sub hlf) _ _ h5
 show wC TP XX 96 [.yield l,.ptr b0 0,.ptr b2 0] _ (hset s5 l (false,rdyC (rfAs 0 (qAp Tryz.f57)) (rfBo 0 (qAp Tryz.f57)) o d))
 generalize hset s5 l (false,rdyC (rfAs 0 (qAp Tryz.f57)) (rfBo 0 (qAp Tryz.f57)) o d)=s6 at u6 l6 z6 h6a h6b
 refine qFh ?_
 simp only [qDj,qAM h6a,g0Y,hl.len,lMY,qAA]
 refine ⟨λys t m=>∃ i:Nat,ys=[.int .i64 i]∧i≤G.length∧m=G.length - i∧EB s t o ab N (edP G U i)∧t l=some (false,rdyC (rfAs 0 (qAp Tryz.f57)) (rfBo 0 (qAp Tryz.f57)) o d)∧t b2=some (false,.cells 32 [uv]),⟨_,0,rfl,by omega,rfl,z6,l6,h6b⟩,?_⟩
 rintro f t m ⟨i,hy,hi,rfl,zt,lt,ht2⟩
 simp only [cI,and_true] at hy
 rw [hy]
 simp only [qDC,qAQ,qAA]
 refine qAU (λhlt=>?_) (λhge=>?_)
 ·have hlt:i < G.length:=by have:=oT hlt;omega
  obtain ⟨x,hx⟩:∃ x,G[i]?=some x:=⟨_,gE hlt⟩
  obtain ⟨a,b,c⟩:=x
  have ok:=z.ok _ (mG hx)
  obtain ⟨pb,po,e1,e2,_⟩:=(hl.sub zt.sub).get (i:=i) (r:=lkR (a,b,c)) (by rw [List.getElem?_map,hx];rfl)
  obtain ⟨p,g1,g2⟩:=(hu.sub zt.sub).get (i:=i) (by rw [lMY,z.len];exact hlt)
  have g3:(U.map AV.bool)[i]?=some (.bool (U.getD i false)):=by
   have:i < U.length:=by rw [z.len];exact hlt
   simp [this]
  rw [g3] at g2
  simp only [e1,e2,qAA]
  refine qAS λbe t1 hbe h7 u7=>qAl h7 rfl rfl rfl λt2 h8 u8=>?_
  have h8:t2 be=some (false,.cells 72 (lkR (a,b,c))):=h8
  have subt:Sub t t2:=qAh (u7.sub hbe) u8 hbe
  have z2:=zt.more subt
  have lt2:=subt _ _ lt
  have hb22:=subt _ _ ht2
  have g2':rd1 t2 p=some (.bool (U.getD i false)):=by
   obtain ⟨p',g1',g2'⟩:=(hu.sub z2.sub).get (i:=i) (by rw [lMY,z.len];exact hlt)
   rw [g1] at g1';cases g1'
   rw [g2',g3]
  have next:∀ t3,EB s t3 o ab N (edP G U (i+1))→t3 l=some (false,rdyC (rfAs 0 (qAp Tryz.f57)) (rfBo 0 (qAp Tryz.f57)) o d)→t3 b2=some (false,.cells 32 [uv])→∃ m',m' < G.length - i∧∃ i':Nat,[AV.int .i64 ((i:Int)+1)]=[.int .i64 i']∧i'≤G.length∧m'=G.length - i'∧EB s t3 o ab N (edP G U i')∧t3 l=some (false,rdyC (rfAs 0 (qAp Tryz.f57)) (rfBo 0 (qAp Tryz.f57)) o d)∧t3 b2=some (false,.cells 32 [uv]):=λt3 a1 a2 a3=>⟨_,by omega,i+1,rfl,by omega,rfl,a1,a2,a3⟩
  simp only [qAM hb22,g0Y,g1,g2',qAA]
  refine qAU (λhup=>?_) (λhdn=>?_)
  ·have r3:rdN t2 3 (.ptr be 0)=some (lkR (a,b,c)):=qA7 h8 rfl
   simp only [r3,qAA]
   refine ⟨by unfold qPN;rw [lt2];rfl,qOx (i:=i) (a:=a) (b:=b) (c:=c) (E:=edP G U i) z2 lt2 hls ok.1 ok.2.1 ok.2.2.1 (λn=>Nat.le_trans qUM (by omega)) λt3 z3 l3 k3=>?_⟩
   rw [← zABN hup hx ok.2.2.1] at z3
   simp only [qAj,Bool.not_true,hup,qBc,qAV,qAB,qAT,qAA]
   rw [qAf (by omega) (by omega)]
   exact next t3 z3 l3 ((k3 b2 _ _ hb22 (by decide) (by decide)).trans hb22)
  ·simp only [hdn,qBc,qAL,qAB,qAT,qAA]
   rw [qAf (by omega) (by omega)]
   exact next t2 (by rw [qXK hdn];exact z2) lt2 hb22
 ·have hge:i=G.length:=by have:=oF hge;omega
  subst hge
  unfold qVr
  rw [lt]
  refine ⟨(λh=>by cases h),?_⟩
  have z9:=zt.loop lt (λ_ _ h=>by cases h) hls (s':=hdel t l) λi hi=>if_neg hi
  simp only [qAM z9.oc,g0Y,qAA]
  obtain ⟨vs,q1,q2,_⟩:=z9.row
  exact hK _ _ z9.sub ⟨vs,.inr ⟨ab,0,some N,by simp,by simp,λ_=>⟨false,134,_,q1,by simp,λi _=>by rw [zA]⟩⟩,λn hn=>(q2 n hn).sl⟩
end Go.AM
namespace Go.AM
open Go Go.Proofs
variable {K:AV→Hq→Prop} {s s':Hq} {lv uv ev:AV}
abbrev RLk:=Int × Int × Int
def rwR (x:RLk):List AV:=[.int .i64 x.1,.int .i64 x.2.1,.int .i64 x.2.2]
def okL (n:Int) (x:RLk):Prop:=(0≤x.1∧x.1 < n)∧(0≤x.2.1∧x.2.1 < n)∧x.1≠x.2.1∧1≤x.2.2∧x.2.2≤1000
def vld (n:Int) (L:List RLk) (U:List Bool):Prop:=1≤n∧n≤32∧L.length≤128∧U.length=L.length∧∀ x∈L,okL n x
theorem okD {n a p c:Int} (h:okL n (a,p,c)):(0≤a∧a < n)∧(0≤p∧p < n)∧a≠p∧1≤c∧c≤1000:=h
theorem okI {n a p c:Int} (h:(0≤a∧a < n)∧(0≤p∧p < n)∧a≠p∧1≤c∧c≤1000):okL n (a,p,c):=h
theorem qLd {n x:Int} {b:Nat} (hb:s b=some (false,.cells 3 [.int .i64 n])) (hK:K (.bool (decide (x < 0∨n≤x))) s):funK TP XX (.fn (.func 77) [] [.ptr b 0]) [.int .i64 x] K s:=by
 refine ⟨by kernel_rfl,?_⟩
 show wC TP XX 77 [.int .i64 x,.ptr b 0] K s
 refine qLe ?_
 simp only [qKE,qAQ,qAA]
 refine qAU (λh=>?_) (λh=>?_)
 ·rw [h]
  have h:=oT h
  simp only [qDd,qAV,qAA]
  rw [decide_eq_true (.inl h)] at hK
  exact hK
 ·rw [h]
  have h:=oF h
  simp only [qAM hb,g0Y,qA8,qDd,qAL,qAA]
  have e:decide (x < 0∨n≤x)=decide (n≤x):=by
   by_cases q:n≤x
   ·rw [decide_eq_true q,decide_eq_true (.inr q)]
   ·rw [decide_eq_false q,decide_eq_false (by omega)]
  rw [e] at hK
  exact hK
theorem qQB {n:Int} {b:Nat} {es:List Int} (hb:s b=some (false,.cells 3 [.int .i64 n])) (he:Sl s ev (es.map (AV.int .i64))) (hl:es.length≤1000) (hK:∀ r:Bool,(r=false↔∀ e∈es,0≤e∧e < n)→K (.bool r) s):wC TP XX 78 [ev,.fn (.func 77) [] [.ptr b 0]] K s:=by
 refine qFm (qGa ?_)
 simp only [qEj,he.len,lMY,qAA]
 refine ⟨λys t m=>∃ i:Nat,ys=[.int .i64 i]∧t=s∧i≤es.length∧m=es.length - i∧∀ e∈es.take i,0≤e∧e < n,⟨_,0,rfl,rfl,by omega,rfl,by simp⟩,?_⟩
 rintro f t m ⟨i,hy,rfl,hi,rfl,hq⟩
 simp only [cI,and_true] at hy
 rw [hy]
 simp only [qDh,qAQ,qAA]
 refine qAU (λhlt=>?_) (λhge=>?_)
 ·have hlt:i < es.length:=by have:=oT hlt;omega
  obtain ⟨p,g1,g2⟩:=he.get (i:=i) (by rw [lMY];exact hlt)
  have g3:(es.map (AV.int .i64))[i]?=some (.int .i64 es[i]):=by simp [hlt]
  rw [g3] at g2
  simp only [g1,g2,qAA]
  refine qLd hb ?_
  refine qAU (λh=>?_) (λh=>?_)
  ·have h:=oT h
   simp only [qA8,qAA]
   rw [decide_eq_true (show (0:Int)≤i by omega)]
   refine hK true ⟨(λh=>by cases h),λhall=>?_⟩
   have:=hall _ (List.getElem_mem hlt)
   omega
  ·have h:=oF h
   simp only [qAT,qAA]
   rw [qAf (by omega) (by omega)]
   refine ⟨_,by omega,i+1,rfl,by trivial,by omega,rfl,λe he=>?_⟩
   rw [List.take_add_one,gE hlt] at he
   rcases mP he with q | q
   ·exact hq e q
   ·have:e=es[i]:=by simpa using q
    rw [this];omega
 ·have hge:i=es.length:=by have:=oF hge;omega
  subst hge
  rw [List.take_length] at hq
  simp only [qA8,qAA]
  exact hK _ ⟨λ_=>hq,λ_=>rfl⟩
theorem qDx {n:Int} {L:List RLk} {U:List Bool} {es:List Int} (hl:SlR 3 s lv (L.map rwR)) (hlm:L.length≤9223372036854775807) (hu:Sl s uv (U.map AV.bool)) (he:Sl s ev (es.map (AV.int .i64))) (hel:es.length≤1000)
  (hK:∀ s' (r:Bool),Sub s s'→(r=true↔vld n L U∧∀ e∈es,0≤e∧e < n)→K (.bool r) s'):wC TP XX 55 [.int .i64 n,lv,uv,ev] K s:=by
 refine qMk (qLB rfl λb s1 hb h1 u1=>?_)
 have sub1:=u1.sub hb
 have no:∀ {s'},Sub s s'→¬ (vld n L U∧∀ e∈es,0≤e∧e < n)→K (.bool false) s':=fun {s'} h q=>hK s' false h ⟨(λh=>by cases h),λh=>absurd h q⟩
 simp only [qAM h1,g0Y,qAQ,qAx,qAA,(hl.sub sub1).len,(hu.sub sub1).len,lMY]
 by_cases c1:n < 1
 ·rw [decide_eq_true c1]
  simp only [qAI,qDU,qCf,qCM,qAV,qAA]
  exact no sub1 λh=>by have:=h.1.1;omega
 rw [decide_eq_false c1]
 simp only [qAB]
 by_cases c2:(32:Int) < n
 ·rw [decide_eq_true c2]
  simp only [qDU,qCf,qCM,qAV,qAL,qAI,qAA]
  exact no sub1 λh=>by have:=h.1.2.1;omega
 rw [decide_eq_false c2]
 simp only [qDU,qAL,qAB,qAA,(hl.sub sub1).len,lMY,qAx]
 by_cases c3:(128:Int) < L.length
 ·rw [decide_eq_true c3]
  simp only [qCf,qCM,qAV,qAL,qAI,qAA]
  exact no sub1 λh=>by have:=h.1.2.2.1;omega
 rw [decide_eq_false c3]
 simp only [qCf,qAL,qAB,qAA,(hl.sub sub1).len,(hu.sub sub1).len,lMY,qAv,qAi,Bool.true_bne]
 cases c4:((U.length:Int) == (L.length:Int)) with
 | false=>
   have c4:¬ (U.length:Int)=L.length:=by simpa using c4
   simp only [Bool.not_false,qCM,qAL,qAI,qAA]
   exact no sub1 λh=>by have:=h.1.2.2.2.1;omega
 | true=>
 have c4:(U.length:Int)=L.length:=by simpa using c4
 simp only [Bool.not_true,qCM,qAL,qAB,qAA,(hl.sub sub1).len,lMY]
 refine ⟨λys t m=>∃ i:Nat,ys=[.int .i64 i]∧i≤L.length∧m=L.length - i∧Sub s1 t∧∀ x∈L.take i,okL n x,⟨_,0,rfl,by omega,rfl,.refl s1,by simp⟩,?_⟩
 rintro f t m ⟨i,hy,hi,rfl,ht,hq⟩
 simp only [cI,and_true] at hy
 rw [hy]
 have ht1:=sub1.trans ht
 simp only [qJL,qAQ,qAA]
 refine qAU (λhlt=>?_) (λhge=>?_)
 ·have hlt:i < L.length:=by have:=oT hlt;omega
  obtain ⟨x,hx⟩:∃ x,L[i]?=some x:=⟨_,gE hlt⟩
  obtain ⟨a,p,c⟩:=x
  obtain ⟨pb,po,e1,e2,_⟩:=(hl.sub ht1).get (i:=i) (r:=rwR (a,p,c)) (by rw [List.getElem?_map,hx];rfl)
  simp only [e1,e2,qAA]
  refine qAS λbe t1 hbe h7 u7=>qAl h7 rfl rfl rfl λt2 h8 u8=>?_
  have h8:t2 be=some (false,.cells 72 [.int .i64 a,.int .i64 p,.int .i64 c]):=h8
  have subt:Sub t t2:=qAh (u7.sub hbe) u8 hbe
  have hb2:=subt _ _ (ht _ _ h1)
  have st2:=ht1.trans subt
  have y0:[AV.int .i64 a,.int .i64 p,.int .i64 c][0]?=some (.int .i64 a):=rfl
  have y1:[AV.int .i64 a,.int .i64 p,.int .i64 c][1]?=some (.int .i64 p):=rfl
  have y2:[AV.int .i64 a,.int .i64 p,.int .i64 c][2]?=some (.int .i64 c):=rfl
  have bad:¬ okL n (a,p,c)→¬ (vld n L U∧∀ e∈es,0≤e∧e < n):=λh q=>h (q.1.2.2.2.2 _ (mG hx))
  have stop:∀ t59 t62,qBK t59 (.bool true) t62=some (.bool true)→¬ okL n (a,p,c)→qDS XX (.int .i64 (i:Int)) t59 t62 (λys t m=>∃ i:Nat,ys=[.int .i64 i]∧i≤L.length∧m=L.length - i∧Sub s1 t∧∀ x∈L.take i,okL n x) (L.length - i) K t2:=λt59 t62 h q=>by
   simp only [qDS,h,qAA,qAI]
   exact no st2 (bad q)
  simp only [qAE,zA,qAM h8,y0,qAA]
  refine qLd hb2 ?_
  by_cases d1:a < 0∨n≤a
  ·rw [decide_eq_true d1]
   simp only [qAI,qDY,qCe,qCO,qAV,qAA]
   exact stop _ _ rfl λh=>by have:=okD h;omega
  rw [decide_eq_false d1]
  simp only [qAB,qAE,zA,qAM h8,y1,qAA]
  refine qLd hb2 ?_
  by_cases d2:p < 0∨n≤p
  ·rw [decide_eq_true d2]
   simp only [qAI,qDY,qCe,qCO,qAV,qAL,qAA]
   exact stop _ _ rfl λh=>by have:=okD h;omega
  rw [decide_eq_false d2]
  simp only [qDY,qAL,qAB,qAE,zA,qAM h8,y0,y1,qAv,qAi,Bool.false_bne,qAA]
  cases d3:(a == p) with
  | true=>
    have d3:a=p:=by simpa using d3
    simp only [qCe,qCO,qAI,qAV,qAL,qAA]
    exact stop _ _ rfl λh=>(okD h).2.2.1 d3
  | false=>
  have d3:a≠p:=by simpa using d3
  simp only [qCe,qAL,qAB,qAE,zA,qAM h8,y2,qAQ,qAA]
  by_cases d4:c < 1
  ·rw [decide_eq_true d4]
   simp only [qCO,qAI,qAV,qAL,qAA]
   exact stop _ _ rfl λh=>by have:=okD h;omega
  rw [decide_eq_false d4]
  simp only [qCO,qAL,qAB,qAE,zA,qAM h8,y2,qAx,qAA]
  by_cases d5:1000 < c
  ·rw [decide_eq_true d5]
   exact stop _ _ rfl λh=>by have:=okD h;omega
  rw [decide_eq_false d5]
  simp only [qDS,qAL,qAB,qAT,qAA]
  rw [qAf (by omega) (by omega)]
  refine ⟨_,by omega,i+1,rfl,by omega,rfl,ht.trans subt,λy hy=>?_⟩
  rw [List.take_add_one,hx] at hy
  rcases mP hy with q | q
  ·exact hq y q
  ·have:y=(a,p,c):=by simpa using q
   rw [this]
   exact okI ⟨by omega,by omega,d3,by omega,by omega⟩
 ·have hge:i=L.length:=by have:=oF hge;omega
  subst hge
  rw [List.take_length] at hq
  refine qQB (ht _ _ h1) (he.sub ht1) hel λr hr=>?_
  simp only [qAj,qAA]
  refine hK t (!r) ht1 ?_
  have hv:vld n L U:=⟨by omega,by omega,by omega,by omega,hq⟩
  cases r with
  | true=>exact ⟨(λh=>by cases h),λh=>absurd (hr.2 h.2) (by decide)⟩
  | false=>exact ⟨λ_=>⟨hv,hr.1 rfl⟩,λ_=>rfl⟩
end Go.AM
namespace Go.AM
open Go Go.Proofs
variable {K:AV→Hq→Prop} {s s':Hq} {N:Nat} {G:List Lnk} {U:List Bool} {lv uv av dv v:AV} {d:Nat→Int}
theorem qVG {n:Nat} (z:GOk N G U) (hn:n < N) (hG:G.length≤128) (hC:∀ x∈G,x.2.2≤1000) (hd:∀ m,m < N→-1≤d m∧d m≤32000) (hv:SlR 3 s v ((edL G U n).map edR)) (hdv:Sl s dv (dl N d))
  (hK:∀ v' s',AccR 137 3 s s' v' ((qIS G U d n).map edR)→Sub s s'→K v' s'):wC TP XX 76 [v,dv,.int .i64 (n:Int)] K s:=by
 have hcost:∀ {i n m c:Nat},Ed G U i n m c→c≤1000:=fun {i n m c} e=>by
  rcases e.2 with e | e
  ·exact hC _ (mG e)
  ·exact hC _ (mG e)
 have hle:=qLj (G:=G) (U:=U) (n:=n)
 refine qMJ ?_
 simp only [qKj,hv.len,lMY,qAA]
 refine ⟨λys t m=>∃ (i:Nat) (lv:AV),ys=[lv,.int .i64 i]∧i≤(edL G U n).length∧m=(edL G U n).length - i∧Sub s t∧AccR 137 3 s t lv ((((edL G U n).take i).filter λe=>decide (d n=d e.2.1+e.2.2)).map edR),⟨_,0,_,rfl,by omega,rfl,.refl s,by simp,.inl ⟨rfl,by simp⟩⟩,?_⟩
 rintro f t m ⟨i,lv,hy,hi,rfl,st,ac⟩
 simp only [cI,and_true] at hy
 obtain ⟨hy1,hy2⟩:=hy
 rw [hy1,hy2]
 simp only [qIX,qAQ,qAA]
 refine qAU (λhlt=>?_) (λhge=>?_)
 ·have hlt:i < (edL G U n).length:=by have:=oT hlt;omega
  obtain ⟨e,he⟩:∃ e,(edL G U n)[i]?=some e:=⟨_,gE hlt⟩
  obtain ⟨j,mm,c⟩:=e
  have hed:=(qKd z).1 (mG he)
  obtain ⟨_,mN,nem,c1,_⟩:=z.ed hed
  have c2:=hcost hed
  obtain ⟨pb,po,e1,e2,_⟩:=(hv.sub st).get (i:=i) (r:=edR (j,mm,c)) (by rw [List.getElem?_map,he];rfl)
  simp only [e1,e2,qAA]
  refine qAS λb t1 hb h1 u1=>qAl h1 rfl rfl rfl λt2 h2 u2=>?_
  have h2:t2 b=some (false,.cells 137 [.int .i64 (j:Int),.int .i64 (mm:Int),.int .i64 (c:Int)]):=h2
  have subt:Sub t t2:=qAh (u1.sub hb) u2 hb
  have st2:=st.trans subt
  obtain ⟨p1,g1,g2⟩:=(hdv.sub st2).get (i:=n) (by rw [qHH];exact hn)
  obtain ⟨p2,g3,g4⟩:=(hdv.sub st2).get (i:=mm) (by rw [qHH];exact mN)
  rw [qGm hn] at g2
  rw [qGm mN] at g4
  have y1:[AV.int .i64 (j:Int),.int .i64 (mm:Int),.int .i64 (c:Int)][1]?=some (.int .i64 (mm:Int)):=rfl
  have y2:[AV.int .i64 (j:Int),.int .i64 (mm:Int),.int .i64 (c:Int)][2]?=some (.int .i64 (c:Int)):=rfl
  have dm:=hd mm mN
  simp only [g1,g2,qAE,zA,qAM h2,y1,y2,g3,g4,qAT,qAA,qAv,qAi,Bool.false_bne]
  rw [qAf (by omega) (by omega)]
  have tk:((edL G U n).take (i+1)).filter (λe=>decide (d n=d e.2.1+e.2.2))=((edL G U n).take i).filter (λe=>decide (d n=d e.2.1+e.2.2)) ++ (if d n=d mm+c then [(j,mm,c)] else []):=by
   rw [List.take_add_one,he,List.filter_append]
   congr 1
   by_cases q:d n=d mm+c
   ·simp [q]
   ·simp [q]
  refine qAU (λheq=>?_) (λhne=>?_)
  ·have heq:d n=d mm+c:=by simpa using heq
   have r3:rdN t2 3 (.ptr b 0)=some (edR (j,mm,c)):=qA7 h2 rfl
   simp only [r3,qAA]
   refine qAW (a:=edR (j,mm,c)) rfl ⟨rfl,qAS λb3 t3 hb3 h3 u3=>?_⟩
   have sub3:=subt.trans (u3.sub hb3)
   have lit:SlR 3 t3 (.slc b3 0 1 (some 1) 3) ([(j,mm,c)].map edR):=SlR.mk (by intro r hr;simp only [List.map_cons,List.map_nil,List.mem_singleton] at hr;subst hr;rfl) (by simpa using h3) rfl (by simp)
   refine (ac.sub sub3).app lit (by simp) ?_ (st.trans sub3) λv' t4 a4 s4=>?_
   ·have:=List.length_filter_le (λe:Nat × Nat × Nat=>decide (d n=d e.2.1+e.2.2)) ((edL G U n).take i)
    have:=List.length_take_le i (edL G U n)
    simp only [lMY,List.length_cons,List.length_nil]
    omega
   ·simp only [qDw,qAT,qAA]
    rw [qAf (by omega) (by omega)]
    refine ⟨_,by omega,i+1,v',rfl,by omega,rfl,s4,?_⟩
    rw [tk,if_pos heq,List.map_append]
    exact a4
  ·have hne:¬ d n=d mm+c:=by simpa using hne
   simp only [qDw,qAT,qAA]
   rw [qAf (by omega) (by omega)]
   refine ⟨_,by omega,i+1,lv,rfl,by omega,rfl,st2,?_⟩
   rw [tk,if_neg hne,List.append_nil]
   exact ac.sub subt
 ·have hge:i=(edL G U n).length:=by have:=oF hge;omega
  subst hge
  rw [List.take_length] at ac
  exact hK _ _ ac st
def toL (x:RLk):Lnk:=(x.1.toNat,x.2.1.toNat,x.2.2.toNat)
theorem vld.gok {n:Nat} {L:List RLk} (h:vld (n:Int) L U):GOk n (L.map toL) U∧(L.map toL).length≤128∧n≤32∧(∀ x∈L.map toL,x.2.2≤1000)∧L.map rwR=(L.map toL).map lkR:=by
 obtain ⟨h1,h2,h3,h4,h5⟩:=h
 refine ⟨⟨by rw [lMY];exact h4,λx hx=>?_⟩,by rw [lMY];exact h3,by omega,λx hx=>?_,?_⟩
 ·obtain ⟨⟨a,b,c⟩,hy,rfl⟩:=List.mem_map.1 hx
  have:=okD (h5 _ hy)
  show a.toNat < n∧b.toNat < n∧a.toNat≠b.toNat∧1≤c.toNat∧c.toNat≤65535
  omega
 ·obtain ⟨⟨a,b,c⟩,hy,rfl⟩:=List.mem_map.1 hx
  have:=okD (h5 _ hy)
  show c.toNat≤1000
  omega
 ·rw [List.map_map]
  refine List.map_congr_left λx hx=>?_
  obtain ⟨a,b,c⟩:=x
  have:=okD (h5 _ hx)
  have e1:((a.toNat:Nat):Int)=a:=by omega
  have e2:((b.toNat:Nat):Int)=b:=by omega
  have e3:((c.toNat:Nat):Int)=c:=by omega
  show [AV.int .i64 a,.int .i64 b,.int .i64 c]=[.int .i64 ((a.toNat:Nat):Int),.int .i64 ((b.toNat:Nat):Int),.int .i64 ((c.toNat:Nat):Int)]
  rw [e1,e2,e3]
theorem qRv {n x:Int} {L:List RLk} (hl:SlR 3 s lv (L.map rwR)) (hlm:L.length≤9223372036854775807) (hu:Sl s uv (U.map AV.bool))
  (hK:∀ v s',Sub s s'→(¬ (vld n L U∧0≤x∧x < n)→v=.nilslc)→(∀ (N r:Nat),vld (N:Int) L U→n=N→r < N→x=r→∃ d b,IsDist N (L.map toL) U r d∧(∀ m,m < N→-1≤d m∧d m≤32000)∧v=.slc b 0 N (some N) 1∧s b=none∧s' b=some (false,.cells 3 (dl N d)))→K v s'):wC TP XX 23 [.int .i64 n,lv,uv,.int .i64 x] K s:=by
 refine qN0 ?_
 refine qFG rfl rfl λeb s1 heb h1 u1=>?_
 have sub1:=u1.sub heb
 refine qDx (es:=[x]) (hl.sub sub1) hlm (hu.sub sub1) (Sl.mk h1 rfl (by simp)) (by simp) λs2 r sub2 hr=>?_
 simp only [qAj,qAA]
 have s02:=sub1.trans sub2
 cases r with
 | false=>
   have hr:¬ (vld n L U∧∀ e∈[x],0≤e∧e < n):=λh=>by have:=hr.2 h;cases this
   have hr':¬ (vld n L U∧0≤x∧x < n):=λh=>hr ⟨h.1,λe he=>by rw [List.mem_singleton] at he;rw [he];exact h.2⟩
   exact hK _ _ s02 (λ_=>rfl) λN r q1 q2 q3 q4=>by
    subst q2 q4
    exact absurd ⟨q1,by omega,by omega⟩ hr'
 | true=>
   obtain ⟨hv,hx⟩:=hr.1 rfl
   have hx:=hx x (by simp)
   obtain ⟨N,rfl⟩:∃ N:Nat,n=N:=⟨n.toNat,by have:=hv.1;omega⟩
   obtain ⟨r,rfl⟩:∃ r:Nat,x=r:=⟨x.toNat,by omega⟩
   obtain ⟨z,hG,hN,hC,hm⟩:=hv.gok
   have hrN:r < N:=by omega
   show wC TP XX 57 _ _ s2
   refine qSX z hN hG (by rw [← hm];exact hl.sub s02) (hu.sub s02) λav s3 sub3 ha=>?_
   refine qLu z hN hG hC ha hrN λd b s4 hd hdm sub4 hb h4=>?_
   have hdd:∀ m,m < N→-1≤d m∧d m≤32000:=λm hm=>⟨hd.lo m hm,hdm m hm⟩
   have hbs:s b=none:=by
    cases q:s b with
    | none=>rfl
    | some y=>rw [sub3 _ _ (s02 _ _ q)] at hb;cases hb
   refine hK _ _ ((s02.trans sub3).trans sub4) (λh=>absurd ⟨hv,by omega,by omega⟩ h) λN' r' _ e1 _ e2=>?_
   obtain rfl:N=N':=by omega
   obtain rfl:r=r':=by omega
   exact ⟨d,b,hd,hdd,rfl,hbs,h4⟩
end Go.AM
namespace Go.AM
open Go
variable {N:Nat} {G:List Lnk} {U:List Bool} {r:Nat} {d:Nat→Int}
def far (G:List Lnk) (i n:Nat):Nat:=match G[i]? with
 | some (a,b,_)=>a+b - n
 | none=>n
theorem zAAb (z:GOk N G U) {i n m c:Nat} (h:Ed G U i n m c):far G i n=m:=by
 have:=z.ed h
 unfold far
 rcases h.2 with e | e <;> rw [e] <;> simp only <;> omega
theorem qP2 (z:GOk N G U) {n i m c:Nat}:(i,m,c)∈qIS G U d n↔Ed G U i n m c∧d n=d m+c:=by
 unfold qIS
 rw [List.mem_filter,qKd z,decide_eq_true_eq]
theorem qHk (G:List Lnk) (U:List Bool) (d:Nat→Int) (n:Nat):(parL G U d n=-1∧qIS G U d n=[])∨∃ i m c:Nat,parL G U d n=(i:Int)∧(i,m,c)∈qIS G U d n∧∃ l,qIS G U d n=(i,m,c) :: l:=by
 unfold parL
 cases h:qIS G U d n with
 | nil=>exact .inl ⟨rfl,rfl⟩
 | cons e l=>obtain ⟨i,m,c⟩:=e;exact .inr ⟨i,m,c,rfl,by simp,l,rfl⟩
theorem qJo (z:GOk N G U) (h:IsDist N G U r d) {n i:Nat} (hp:parL G U d n=(i:Int)):∃ m c,Ed G U i n m c∧far G i n=m∧n < N∧m < N∧0≤d m∧d n=d m+c∧1≤c:=by
 rcases qHk G U d n with ⟨e,_⟩ | ⟨j,m,c,e,hm,_⟩
 ·rw [e] at hp;omega
 ·rw [e] at hp
  have:j=i:=by omega
  subst this
  obtain ⟨h1,h2⟩:=(qP2 z).1 hm
  obtain ⟨n1,m1,_,c1,_⟩:=z.ed h1
  have lm:=h.lo m m1
  refine ⟨m,c,h1,zAAb z h1,n1,m1,?_,h2,c1⟩
  by_cases q:0≤d n
  ·exact (h.clo j m n c h1.sym q).1
  ·omega
theorem qS5 (z:GOk N G U) (h:IsDist N G U r d) {n:Nat} (hn:n < N) (h0:0≤d n) (hr:n≠r):∃ i:Nat,parL G U d n=(i:Int):=by
 obtain ⟨i,m,c,h1,_,h3⟩:=h.sup n hn h0 hr
 rcases qHk G U d n with ⟨_,e⟩ | ⟨j,_,_,e,_,_⟩
 ·have:=(qP2 (d:=d) z).2 ⟨h1,h3⟩
  rw [e] at this;cases this
 ·exact ⟨j,e⟩
theorem qSd (z:GOk N G U) (h:IsDist N G U r d):parL G U d r=-1:=by
 rcases qHk G U d r with ⟨e,_⟩ | ⟨j,m,c,e,_,_⟩
 ·exact e
 ·obtain ⟨m,c,_,_,_,_,h1,h2,h3⟩:=qJo z h e
  rw [h.fr] at h2;omega
theorem qZg (z:GOk N G U) (h:IsDist N G U r d) {n:Nat} (h0:d n < 0):parL G U d n=-1:=by
 rcases qHk G U d n with ⟨e,_⟩ | ⟨j,m,c,e,_,_⟩
 ·exact e
 ·obtain ⟨m,c,_,_,_,_,h1,h2,h3⟩:=qJo z h e
  omega
theorem zAA1 (z:GOk N G U) (h:IsDist N G U r d) {n i:Nat} (hp:parL G U d n=(i:Int)):i < G.length:=by
 obtain ⟨m,c,h1,_⟩:=qJo z h hp
 rcases h1.2 with e | e <;> exact (gS e).1
inductive OnP (G:List Lnk) (p:Nat→Int):Nat→Nat→Prop where
 | here {n i:Nat}:p n=(i:Int)→OnP G p n i
 | up {n i j:Nat}:p n=(i:Int)→OnP G p (far G i n) j→OnP G p n j
theorem OnP.no {p:Nat→Int} {n j:Nat} (h:OnP G p n j):∃ i:Nat,p n=(i:Int):=by
 cases h with
 | here e=>exact ⟨_,e⟩
 | up e _=>exact ⟨_,e⟩
theorem OnP.node (z:GOk N G U) (h:IsDist N G U r d) {n j:Nat} (hj:OnP G (parL G U d) n j):∃ n',parL G U d n'=(j:Int)∧d n'≤d n∧(n'≠n→d n' < d n)∧∀ k,OnP G (parL G U d) n' k→OnP G (parL G U d) n k:=by
 induction hj with
 | here e=>exact ⟨_,e,Int.le_refl _,λq=>absurd rfl q,λ_ hk=>hk⟩
 | up e _ ih=>
   obtain ⟨n',h1,h2,h3,h4⟩:=ih
   obtain ⟨m,c,_,e2,_,_,_,e3,e4⟩:=qJo z h e
   rw [e2] at h2
   refine ⟨n',h1,by omega,λ_=>by omega,λk hk=>.up e (h4 k hk)⟩
theorem OnP.lt (z:GOk N G U) (h:IsDist N G U r d) {n j:Nat} (hj:OnP G (parL G U d) n j):j < G.length:=by
 obtain ⟨n',h1,_⟩:=hj.node z h
 exact zAA1 z h h1
def InT (G:List Lnk) (p:Nat→Int) (M:Nat→Prop) (j:Nat):Prop:=∃ m,M m∧OnP G p m j
end Go.AM
namespace Go.AM
open Go
variable {N:Nat} {G:List Lnk} {U:List Bool} {r:Nat} {d d':Nat→Int}
theorem qZN (z:GOk N G U) {n:Nat} (hn:¬ n < N):edL G U n=[]:=by
 cases h:edL G U n with
 | nil=>rfl
 | cons e l=>
   obtain ⟨i,m,c⟩:=e
   have:=(qKd z).1 (by rw [h];exact List.mem_cons_self ..:(i,m,c)∈edL G U n)
   exact absurd (z.ed this).1 hn
theorem qRW (z:GOk N G U) (hd:∀ n,n < N→d n=d' n) {n:Nat}:qIS G U d n=qIS G U d' n:=by
 unfold qIS
 by_cases hn:n < N
 ·refine List.filter_congr λe he=>?_
  obtain ⟨i,m,c⟩:=e
  have:=z.ed ((qKd z).1 he)
  rw [hd n hn]
  show decide (d' n=d m+c)=decide (d' n=d' m+c)
  rw [hd m this.2.1]
 ·rw [qZN z hn];rfl
open Classical in
noncomputable def dF (N:Nat) (G:List Lnk) (U:List Bool) (r:Nat):Nat→Int:=λn=>if h:∃ d,IsDist N G U r d then h.choose n else 0
theorem zAA4 (h:IsDist N G U r d):IsDist N G U r (dF N G U r):=by
 have hx:∃ d,IsDist N G U r d:=⟨d,h⟩
 have e:dF N G U r=hx.choose:=by
  funext n
  unfold dF
  rw [dif_pos hx]
 rw [e];exact hx.choose_spec
theorem zAB2 (z:GOk N G U) (h:IsDist N G U r d) {n:Nat} (hn:n < N):d n=dF N G U r n:=qUW z h (zAA4 h) hn
end Go.AM
namespace Go.AM
open Go Go.Proofs
variable {K:AV→Hq→Prop} {s s' s0:Hq} {v y:AV}
theorem Acc.app2 {elem:TypeId} {l m:List AV} (h:Acc elem s0 s v l) (hs:Sub s0 s) (hy:Sl s y m) (hm:m≠[]) (hl:l.length+m.length≤16777216) (hK:∀ v' s',Acc elem s0 s' v' (l ++ m)→Sub s0 s'→K v' s'):appK elem 1 v y K s:=
 h.app hy hm hl (λi hi=>by
  cases q:s0 i with
  | none=>exact absurd q hi
  | some x=>rw [hs i x q];simp) λv' s' a k=>hK v' s' a λi e hi=>k i e (hs i e hi) λb hb q=>by
    rcases h with ⟨h,_⟩ | ⟨b',h0,h,_⟩
    ·rw [h] at hb;cases hb
    ·rw [h] at hb;cases hb;rw [q,h0] at hi;cases hi
theorem Acc.sub {elem:TypeId} {l:List AV} (h:Acc elem s0 s v l) (k:Sub s s'):Acc elem s0 s' v l:=h.imp id λ⟨b,h0,h1,h2⟩=>⟨b,h0,h1,k _ _ h2⟩
def iz (l:List Nat):List AV:=l.map λ(n:Nat)=>.int .i64 (n:Int)
theorem qHU {l:List Nat}:(iz l).length=l.length:=by unfold iz;simp
theorem qYd {l m:List Nat}:iz (l ++ m)=iz l ++ iz m:=by unfold iz;simp
end Go.AM
namespace Go.AM
open Go Go.Proofs
variable {K:AV→Hq→Prop} {s s':Hq} {lv uv:AV}
theorem qNM {n:Int} {L:List RLk} (hl:SlR 3 s lv (L.map rwR)) (hlm:L.length≤9223372036854775807)
  (hK:∀ s' (e:Int),Sub s s'→(e=0↔1≤n∧n≤32∧L.length≤128∧∀ x∈L,okL n x)→K (.int .i64 e) s'):wC TP XX 26 [.int .i64 n,lv] K s:=by
 refine qHF ?_
 have no:∀ {s'} {e:Int},e≠0→Sub s s'→¬ (1≤n∧n≤32∧L.length≤128∧∀ x∈L,okL n x)→K (.int .i64 e) s':=fun {s' e} he h q=>hK s' e h ⟨λh=>absurd h he,λh=>absurd h q⟩
 simp only [qEv,qAQ,qAx,qAA]
 by_cases c1:n < 1
 ·rw [decide_eq_true c1]
  simp only [qAI,qBW,qAV,qAA]
  exact no (by decide) (.refl s) λh=>by omega
 rw [decide_eq_false c1]
 simp only [qAB]
 by_cases c2:(32:Int) < n
 ·rw [decide_eq_true c2]
  simp only [qAI,qBW,qAL,qAA]
  exact no (by decide) (.refl s) λh=>by omega
 rw [decide_eq_false c2]
 simp only [qAB,qBW,qAL,qAA,hl.len,lMY,qAx]
 by_cases c3:(128:Int) < L.length
 ·rw [decide_eq_true c3]
  simp only [qAI]
  exact no (by decide) (.refl s) λh=>by omega
 rw [decide_eq_false c3]
 simp only [qAB]
 refine ⟨λys t m=>∃ i:Nat,ys=[.int .i64 i]∧i≤L.length∧m=L.length - i∧Sub s t∧∀ x∈L.take i,okL n x,⟨_,0,rfl,by omega,rfl,.refl s,by simp⟩,?_⟩
 rintro f t m ⟨i,hy,hi,rfl,ht,hq⟩
 simp only [cI,and_true] at hy
 rw [hy]
 simp only [qDu,(hl.sub ht).len,lMY,qAQ,qAA]
 refine qAU (λhlt=>?_) (λhge=>?_)
 ·have hlt:i < L.length:=by have:=oT hlt;omega
  obtain ⟨x,hx⟩:∃ x,L[i]?=some x:=⟨_,gE hlt⟩
  obtain ⟨a,p,c⟩:=x
  obtain ⟨pb,po,e1,e2,_⟩:=(hl.sub ht).get (i:=i) (r:=rwR (a,p,c)) (by rw [List.getElem?_map,hx];rfl)
  simp only [e1,e2,qAA]
  refine qAS λbe t1 hbe h7 u7=>qAl h7 rfl rfl rfl λt2 h8 u8=>?_
  have h8:t2 be=some (false,.cells 72 [.int .i64 a,.int .i64 p,.int .i64 c]):=h8
  have subt:Sub t t2:=qAh (u7.sub hbe) u8 hbe
  have st2:=ht.trans subt
  have y0:[AV.int .i64 a,.int .i64 p,.int .i64 c][0]?=some (.int .i64 a):=rfl
  have y1:[AV.int .i64 a,.int .i64 p,.int .i64 c][1]?=some (.int .i64 p):=rfl
  have y2:[AV.int .i64 a,.int .i64 p,.int .i64 c][2]?=some (.int .i64 c):=rfl
  have bad:¬ okL n (a,p,c)→¬ (1≤n∧n≤32∧L.length≤128∧∀ x∈L,okL n x):=λh q=>h (q.2.2.2 _ (mG hx))
  have stop:∀ t59 t62,qBK t59 (.bool true) t62=some (.bool true)→¬ okL n (a,p,c)→qBT XX (.int .i64 (i:Int)) (.ptr be 0) t59 t62 (λys t m=>∃ i:Nat,ys=[.int .i64 i]∧i≤L.length∧m=L.length - i∧Sub s t∧∀ x∈L.take i,okL n x) (L.length - i) K t2:=λt59 t62 h q=>by
   simp only [qBT,h,qAA,qAI]
   exact no (by decide) st2 (bad q)
  simp only [qAE,zA,qAM h8,y0,qAA,qAQ,qA8]
  by_cases d1:a < 0
  ·rw [decide_eq_true d1]
   simp only [qAI,qBt,qBU,qAw,qAn,qAV,qAA]
   exact stop _ _ rfl λh=>by have:=okD h;omega
  rw [decide_eq_false d1]
  simp only [qAB,qBt,qAL,qAA]
  by_cases d2:n≤a
  ·rw [decide_eq_true d2]
   simp only [qAI,qBU,qAw,qAn,qAV,qAA]
   exact stop _ _ rfl λh=>by have:=okD h;omega
  rw [decide_eq_false d2]
  simp only [qAB,qBU,qAL,qAA,qAE,zA,qAM h8,y1,qAQ]
  by_cases d3:p < 0
  ·rw [decide_eq_true d3]
   simp only [qAI,qAw,qAn,qAV,qAA]
   exact stop _ _ rfl λh=>by have:=okD h;omega
  rw [decide_eq_false d3]
  simp only [qAB,qAw,qAL,qAA,qAE,zA,qAM h8,y1,qA8]
  by_cases d4:n≤p
  ·rw [decide_eq_true d4]
   simp only [qAI,qAw,qAn,qAV,qAA]
   exact stop _ _ rfl λh=>by have:=okD h;omega
  rw [decide_eq_false d4]
  simp only [qAB,qAw,qAn,qAL,qAA,qAE,zA,qAM h8,y2,qAQ]
  by_cases d5:c < 1
  ·rw [decide_eq_true d5]
   simp only [qAI,qAn,qAV,qAA]
   exact stop _ _ rfl λh=>by have:=okD h;omega
  rw [decide_eq_false d5]
  simp only [qAB,qAn,qAL,qAA,qAE,zA,qAM h8,y2,qAx]
  by_cases d6:1000 < c
  ·rw [decide_eq_true d6]
   exact stop _ _ rfl λh=>by have:=okD h;omega
  rw [decide_eq_false d6]
  simp only [qBT,qAL,qAB,qAE,zA,qAM h8,y0,y1,qAv,qAi,Bool.false_bne,qAA]
  cases d7:(a == p) with
  | true=>
    have d7:a=p:=by simpa using d7
    simp only [qAI]
    exact no (by decide) st2 (bad λh=>(okD h).2.2.1 d7)
  | false=>
  have d7:a≠p:=by simpa using d7
  simp only [qAB,qAT,qAA]
  rw [qAf (by omega) (by omega)]
  refine ⟨_,by omega,i+1,rfl,by omega,rfl,st2,λy hy=>?_⟩
  rw [List.take_add_one,hx] at hy
  rcases mP hy with q | q
  ·exact hq y q
  ·have:y=(a,p,c):=by simpa using q
   rw [this]
   exact okI ⟨by omega,by omega,d7,by omega,by omega⟩
 ·have hge:i=L.length:=by have:=oF hge;omega
  subst hge
  rw [List.take_length] at hq
  exact hK t 0 ht ⟨λ_=>⟨by omega,by omega,by omega,hq⟩,λ_=>rfl⟩
theorem qNa {n x:Int} {L:List RLk} {U:List Bool} (hl:SlR 3 s lv (L.map rwR)) (hlm:L.length≤9223372036854775807) (hu:Sl s uv (U.map AV.bool))
  (hK:∀ s' (r:Bool),Sub s s'→(r=true↔vld n L U∧0≤x∧x < n)→K (.bool r) s'):wC TP XX 64 [.int .i64 n,lv,uv,.int .i64 x] K s:=by
 refine qG6 (qNM hl hlm λs1 e sub1 he=>?_)
 simp only [qAv,qAi,Bool.true_bne,Bool.false_bne,qAA]
 have no:¬ (vld n L U∧0≤x∧x < n)→K (.bool false) s1:=λq=>hK s1 false sub1 ⟨(λh=>by cases h),λh=>absurd h q⟩
 cases c0:(e == 0) with
 | false=>
   have c0:e≠0:=by simpa using c0
   simp only [Bool.not_true,Bool.not_false,qAB,qBV,qBA,qA9,qAL,qAA]
   exact no λh=>c0 (he.2 ⟨h.1.1,h.1.2.1,h.1.2.2.1,h.1.2.2.2.2⟩)
 | true=>
 have c0:e=0:=by simpa using c0
 obtain ⟨k1,k2,k3,k4⟩:=he.1 c0
 simp only [Bool.not_true,Bool.not_false,qAI,(hl.sub sub1).len,(hu.sub sub1).len,lMY,qAA]
 cases c1:((U.length:Int) == (L.length:Int)) with
 | false=>
   have c1:¬ (U.length:Int)=L.length:=by simpa using c1
   simp only [Bool.not_true,Bool.not_false,qAB,qBV,qBA,qA9,qAV,qAL,qAA]
   exact no λh=>by have:=h.1.2.2.2.1;omega
 | true=>
 have c1:(U.length:Int)=L.length:=by simpa using c1
 have hv:vld n L U:=⟨k1,k2,k3,by omega,k4⟩
 simp only [Bool.not_true,Bool.not_false,qAI,qBV,qAV,qA8,qAA]
 by_cases c2:0≤x
 ·rw [decide_eq_true c2]
  simp only [qAI,qBA,qA9,qAV,qAQ,qAA]
  refine hK s1 _ sub1 ⟨λh=>⟨hv,c2,oT h⟩,λh=>decide_eq_true h.2.2⟩
 ·rw [decide_eq_false c2]
  simp only [qAB,qBA,qA9,qAV,qAL,qAA]
  exact no λh=>c2 h.2.1
end Go.AM
namespace Go.AM
open Go Go.Proofs
variable {K:AV→Hq→Prop} {s s':Hq} {lv uv:AV} {N:Nat} {G:List Lnk} {U:List Bool} {f:Nat} {d:Nat→Int} {I1 I2:List AV→Hq→Nat→Prop} {m1 m2:Nat}
theorem qIv {db n:Nat} (hn:n < N):qAO 1 (.slc db 0 N (some N) 1) (.int .i64 (n:Int))=some (.ptr db n):=by
 have:Nat.blt n N=true:=by rw [Nat.blt_eq];exact hn
 simp [qAO,this]
theorem lk39 {bx:Nat} {a b c:Int} (hx:s bx=some (false,.cells 72 [.int .i64 a,.int .i64 b,.int .i64 c])):rd1 s (.ptr bx 0)=some (.int .i64 a)∧rd1 s (.ptr bx 1)=some (.int .i64 b)∧rd1 s (.ptr bx 2)=some (.int .i64 c):=by
 refine ⟨?_,?_,?_⟩ <;> (rw [qAM hx];rfl)
theorem RInv.bd' (h:RInv N G U f d) (hN:N≤32) {n:Nat} (hn:n < N):-1≤d n∧d n≤3000000:=by
 have h1:=h.lo n hn
 have h2:=h.bd n hn
 have h3:=qRU (N:=N) (d:=d)
 omega
theorem bf2 {bx db i a b c:Nat} {mo iv:AV} (z:GOk N G U) (hN:N≤32) (inv:RInv N G U f d) (e:Ed G U i a b c) (hx:s bx=some (false,.cells 72 [.int .i64 (a:Int),.int .i64 (b:Int),.int .i64 (c:Int)])) (hd:s db=some (false,.cells 3 (dl N d)))
  (h0:(0≤d b→0≤d a∧d a≤d b+c)→qAd XX mo iv I2 m2 I1 m1 K s)
  (h1:∀ s',0≤d b→(d a < 0∨d b+c < d a)→s' db=some (false,.cells 3 (dl N (updI d a (d b+c))))→Upto db s s'→qAd XX (.bool true) iv I2 m2 I1 m1 K s') :
  qA5 XX (.slc db 0 N (some N) 1) mo iv (.ptr bx 0) I2 m2 I1 m1 K s:=by
 obtain ⟨k1,k2,k3,k4,k5⟩:=z.ed e
 obtain ⟨x0,x1,x2⟩:=lk39 hx
 have da:=inv.bd' hN k1
 have db':=inv.bd' hN k2
 have ga:(dl N d)[a]?=some (.int .i64 (d a)):=qGm k1
 have gb:(dl N d)[b]?=some (.int .i64 (d b)):=qGm k2
 have w:IntKind.i64.wrap (d b+(c:Int))=d b+c:=qAf (by omega) (by omega)
 have act:0≤d b→(d a < 0∨d b+c < d a)→oK (wr1 s (.ptr db a) (.int .i64 (d b+(c:Int)))) (λs_59=>qAd XX (.bool true) iv I2 m2 I1 m1 K s_59):=λq1 q2=>
  qAm hd (by rw [qHH];exact k1) rfl λs' g1 g2=>by
   rw [qOZ k1] at g1
   exact h1 s' q1 q2 g1 g2
 simp only [qA5,qAE,zA,x0,x1,qIv k1,qIv k2,qAM hd,ga,gb,qA8,qAQ,qAA]
 by_cases c1:0≤d b
 ·rw [decide_eq_true c1]
  simp only [qAI]
  by_cases c2:d a < 0
  ·rw [decide_eq_true c2]
   simp only [qAI,qBf,qAV,qAE,zA,x0,x1,x2,qIv k1,qIv k2,qAM hd,gb,qAT,w,qAA]
   exact act c1 (.inl c2)
  ·rw [decide_eq_false c2]
   simp only [qAB,x2,qAT,w,qAx,qAA]
   by_cases c3:d b+c < d a
   ·rw [decide_eq_true c3]
    simp only [qAI,qBf,qAV,qAL,qAE,zA,x0,x1,x2,qIv k1,qIv k2,qAM hd,gb,qAT,w,qAA]
    exact act c1 (.inr c3)
   ·rw [decide_eq_false c3]
    simp only [qAB,qBf,qAV,qAL,qAA]
    exact h0 λ_=>⟨by omega,by omega⟩
 ·rw [decide_eq_false c1]
  simp only [qAB,qAL,qAA]
  exact h0 λq=>absurd q c1
theorem zABj:qCd=qA5:=rfl
theorem zAAB {v:Int} {i:Nat} (h:i < N):(dl N λn=>if n < i then v else 0).set i (.int .i64 v)=dl N λn=>if n < i+1 then v else 0:=by
 rw [qOZ h]
 unfold dl
 refine List.map_congr_left λn hn=>?_
 congr 1
 by_cases e:n=i
 ·rw [e,qBP];exact (if_pos (by omega)).symm
 ·rw [qCa e]
  by_cases c:n < i
  ·show (if n < i then v else 0)=if n < i+1 then v else 0
   rw [if_pos c,if_pos (by omega)]
  ·show (if n < i then v else 0)=if n < i+1 then v else 0
   rw [if_neg c,if_neg (by omega)]
theorem qVN {v:Int}:repl N [AV.int .i64 0]=dl N λn=>if n < 0 then v else 0:=by
 rw [qFE]
 unfold dl
 refine List.ext_getElem? λi=>?_
 by_cases hi:i < N
 ·simp [hi]
 ·simp [hi]
theorem qW3 {n x:Int} {L:List RLk} (hl:SlR 3 s lv (L.map rwR)) (hlm:L.length≤9223372036854775807) (hu:Sl s uv (U.map AV.bool))
  (hK:∀ v s',Sub s s'→(¬ (vld n L U∧0≤x∧x < n)→v=.nilslc)→(∀ (N r:Nat),vld (N:Int) L U→n=N→r < N→x=r→∃ d b,IsDist N (L.map toL) U r d∧(∀ m,m < N→-1≤d m∧d m≤3000000)∧v=.slc b 0 N (some N) 1∧s b=none∧s' b=some (false,.cells 3 (dl N d)))→K v s'):wC TP XX 87 [.int .i64 n,lv,uv,.int .i64 x] K s:=by
 refine qHj (qNa hl hlm hu λs1 r sub1 hr=>?_)
 simp only [qAj,qAA]
 cases r with
 | false=>
   have hr':¬ (vld n L U∧0≤x∧x < n):=λh=>by have:=hr.2 h;cases this
   exact hK _ _ sub1 (λ_=>rfl) λN r q1 q2 q3 q4=>by
    subst q2 q4
    exact absurd ⟨q1,by omega,by omega⟩ hr'
 | true=>
 obtain ⟨hv,hx0,hxn⟩:=hr.1 rfl
 obtain ⟨N,rfl⟩:∃ N:Nat,n=N:=⟨n.toNat,by omega⟩
 obtain ⟨f,rfl⟩:∃ f:Nat,x=f:=⟨x.toNat,by omega⟩
 have hf:f < N:=by omega
 obtain ⟨z,hG,hN,hC,hrw⟩:=vld.gok hv
 rw [hrw] at hl
 simp only [Bool.not_true,qAB,nat?_mk,qAA]
 refine ⟨⟨Nat.le_refl _,by omega⟩,qAS λdb s2 hdb h2 u2=>?_⟩
 have sub2:=sub1.trans (u2.sub hdb)
 have hdb0:s db=none:=by
  cases q:s db with
  | none=>rfl
  | some y=>rw [sub1 _ _ q] at hdb;cases hdb
 refine ⟨λys t m=>∃ i:Nat,ys=[.int .i64 i]∧i≤N∧m=N - i∧Sub s t∧t db=some (false,.cells 3 (dl N λn=>if n < i then -1 else 0)),⟨_,0,rfl,by omega,rfl,sub2,by rw [h2,qVN]⟩,?_⟩
 rintro fe t m ⟨i,hy,hi,rfl,st,hd⟩
 simp only [cI,and_true] at hy
 rw [hy]
 simp only [qET,qAQ,qAA]
 refine qAU (λhlt=>?_) (λhge=>?_)
 ·have hlt:i < N:=by have:=oT hlt;omega
  simp only [qIv hlt,qAA]
  refine qAm hd (by rw [qHH];exact hlt) rfl λt3 h3 u3=>?_
  simp only [qAT,qAA]
  rw [qAf (by omega) (by omega)]
  refine ⟨_,by omega,i+1,rfl,by omega,rfl,qAh st u3 hdb0,?_⟩
  rw [h3,zAAB hlt]
 have hge:i=N:=by have:=oF hge;omega
 subst hge
 simp only [qIv hf,qAA]
 refine qAm hd (by rw [qHH];exact hf) rfl λt1 g1 v1=>?_
 have st1:=qAh st v1 hdb0
 have g1:t1 db=some (false,.cells 3 (dl i λn=>if n=f then 0 else -1)):=by
  rw [g1,qOZ hf]
  congr 3
  unfold dl
  refine List.map_congr_left λn hn=>?_
  congr 1
  have hn:=List.mem_range.1 hn
  by_cases e:n=f
  ·rw [e,qBP];exact (if_pos rfl).symm
  ·rw [qCa e]
   show (if n < i then (-1:Int) else 0)=if n=f then 0 else -1
   rw [if_pos hn,if_neg e]
 clear hd h2 u2 v1 hdb
 refine ⟨λys t m=>∃ (mo:Bool) (d:Nat→Int),ys=[.bool mo]∧m=muD i d+(if mo then 1 else 0)∧Sub s t∧t db=some (false,.cells 3 (dl i d))∧RInv i (L.map toL) U f d∧(mo=false→∀ j a b c,Ed (L.map toL) U j a b c→0≤d a→0≤d b∧d b≤d a+c),⟨_,true,_,rfl,rfl,st1,g1,RInv.start hf,λh=>by cases h⟩,?_⟩
 clear st1 g1
 rintro fe t m ⟨mo,d0,hy,rfl,st,hd,inv,clo⟩
 simp only [cI,and_true] at hy
 rw [hy]
 cases mo with
 | false=>
   simp only [qCn,qAB]
   refine hK _ t st (λh=>absurd ⟨hv,hx0,hxn⟩ h) λN' r q1 q2 q3 q4=>?_
   have q2:i=N':=by omega
   have q4:f=r:=by omega
   subst q2 q4
   exact ⟨d0,db,inv.end_ (clo rfl),λm hm=>inv.bd' hN hm,rfl,hdb0,hd⟩
 | true=>
 clear clo
 simp only [qCn,qAI]
 refine ⟨λys t m=>∃ (mo:Bool) (k:Nat) (d:Nat→Int),ys=[.bool mo,.int .i64 k]∧k≤(L.map toL).length∧m=(L.map toL).length - k∧Sub s t∧t db=some (false,.cells 3 (dl i d))∧RInv i (L.map toL) U f d∧(mo=true→muD i d < muD i d0)∧(mo=false→d=d0∧∀ j a b c,j < k→Ed (L.map toL) U j a b c→0≤d a→0≤d b∧d b≤d a+c),⟨_,false,0,d0,rfl,by omega,rfl,st,hd,inv,(λh=>by cases h),λ_=>⟨rfl,λj a b c h=>by omega⟩⟩,?_⟩
 clear st hd inv hy
 rintro fe t m ⟨mo,k,d,hy,hk,rfl,st,hd,inv,dec,clo⟩
 simp only [cI,and_true] at hy
 rw [hy.1,hy.2]
 have len:=(hl.sub st).len
 rw [lMY] at len
 simp only [qEO,len,qAQ,qAA]
 refine qAU (λhlt=>?_) (λhge=>?_)
 rotate_left
 ·have hge:k=(L.map toL).length:=by have:=oF hge;omega
  cases mo with
  | true=>
    have:=dec rfl
    exact ⟨muD i d+1,by show muD i d+1 < muD i d0+1;omega,true,d,rfl,rfl,st,hd,inv,λh=>by cases h⟩
  | false=>
    obtain ⟨e0,clo1⟩:=clo rfl
    refine ⟨muD i d,by rw [e0];show muD i d0 < muD i d0+1;omega,false,d,rfl,rfl,st,hd,inv,λ_ j a b c e=>clo1 j a b c ?_ e⟩
    rw [hge]
    rcases e.2 with e | e
    ·exact (gS e).1
    ·exact (gS e).1
 have hlt:k < (L.map toL).length:=by have:=oT hlt;omega
 obtain ⟨x,hx⟩:∃ x,(L.map toL)[k]?=some x:=⟨_,gE hlt⟩
 obtain ⟨a,b,c⟩:=x
 obtain ⟨pb,po,e1,e2,_⟩:=(hl.sub st).get (i:=k) (r:=lkR (a,b,c)) (by rw [List.getElem?_map,hx];rfl)
 simp only [e1,e2,qAA]
 refine qAS λbe t1 hbe h7 u7=>qAl h7 rfl rfl rfl λt2 h8 u8=>?_
 have h8:t2 be=some (false,.cells 72 [.int .i64 (a:Int),.int .i64 (b:Int),.int .i64 (c:Int)]):=h8
 have st2:Sub t t2:=qAh (u7.sub hbe) u8 hbe
 have hd2:=st2 _ _ hd
 have stt:=st.trans st2
 have hkU:k < U.length:=by rw [z.len];exact hlt
 have bed:be≠db:=λq=>by rw [q,hd] at hbe;cases hbe
 obtain ⟨pu,a1,a2⟩:=(hu.sub stt).get (i:=k) (by rw [lMY];exact hkU)
 have a3:(U.map AV.bool)[k]?=some (.bool U[k]):=by simp [hkU]
 rw [a3] at a2
 have st:=stt
 clear stt u7 u8 h7 e1 e2
 have nxt:∀ (mo':Bool) (d':Nat→Int) (t':Hq),Sub s t'→t' db=some (false,.cells 3 (dl i d'))→RInv i (L.map toL) U f d'→(mo'=true→muD i d' < muD i d0)→(mo'=false→d'=d0∧mo=false∧∀ a b c,Ed (L.map toL) U k a b c→0≤d' a→0≤d' b∧d' b≤d' a+c)→
   qAd XX (.bool mo') (.int .i64 (k:Int)) (λys t m=>∃ (mo:Bool) (k:Nat) (d:Nat→Int),ys=[.bool mo,.int .i64 k]∧k≤(L.map toL).length∧m=(L.map toL).length - k∧Sub s t∧t db=some (false,.cells 3 (dl i d))∧RInv i (L.map toL) U f d∧(mo=true→muD i d < muD i d0)∧(mo=false→d=d0∧∀ j a b c,j < k→Ed (L.map toL) U j a b c→0≤d a→0≤d b∧d b≤d a+c)) ((L.map toL).length - k) (λys t m=>∃ (mo:Bool) (d:Nat→Int),ys=[.bool mo]∧m=muD i d+(if mo then 1 else 0)∧Sub s t∧t db=some (false,.cells 3 (dl i d))∧RInv i (L.map toL) U f d∧(mo=false→∀ j a b c,Ed (L.map toL) U j a b c→0≤d a→0≤d b∧d b≤d a+c)) (muD i d0+(if true then 1 else 0)) K t':=by
  intro mo' d' t' w1 w2 w3 w4 w5
  simp only [qAd,qAT,qAA]
  rw [qAf (by omega) (by omega)]
  refine ⟨_,by omega,mo',k+1,d',rfl,by omega,rfl,w1,w2,w3,w4,λh=>?_⟩
  obtain ⟨y1,y2,y3⟩:=w5 h
  refine ⟨y1,λj a b c hj e=>?_⟩
  by_cases q:j=k
  ·rw [q] at e;exact y3 a b c e
  ·have:=(clo y2).2 j a b c (by omega) e
   rw [y1,← (clo y2).1]
   exact this
 simp only [a1,a2,qAj,qAA]
 cases hup:U[k] with
 | false=>
   simp only [Bool.not_false,qAI]
   refine nxt mo d t2 st hd2 inv dec λh=>⟨(clo h).1,h,λa b c e=>?_⟩
   have:=e.1
   rw [gE hkU,hup] at this
   cases this
 | true=>
 have e:Ed (L.map toL) U k a b c:=⟨by rw [gE hkU,hup],.inl hx⟩
 obtain ⟨k1,k2,k3,k4,k5⟩:=z.ed e
 have da:=inv.bd' hN k1
 have db':=inv.bd' hN k2
 obtain ⟨x0,x1,x2⟩:=lk39 h8
 have ga:(dl i d)[a]?=some (.int .i64 (d a)):=qGm k1
 have gb:(dl i d)[b]?=some (.int .i64 (d b)):=qGm k2
 have w:IntKind.i64.wrap (d a+(c:Int))=d a+c:=qAf (by omega) (by omega)
 have hN40:i≤40:=by omega
 have both:∀ {d':Nat→Int},(0≤d' a→0≤d' b∧d' b≤d' a+c)→(0≤d' b→0≤d' a∧d' a≤d' b+c)→∀ a b c,Ed (L.map toL) U k a b c→0≤d' a→0≤d' b∧d' b≤d' a+c:=fun {d'} p1 p2 a' b' c' e'=>by
  rcases e'.2 with q | q
  ·rw [hx] at q;cases q;exact p1
  ·rw [hx] at q;cases q;exact p2
 have stay:(0≤d a→0≤d b∧d b≤d a+c)→qA5 XX (.slc db 0 i (some i) 1) (.bool mo) (.int .i64 (k:Int)) (.ptr be 0) _ _ _ _ K t2:=λcl1=>by
  refine bf2 z hN inv e h8 hd2 (λcl2=>nxt mo d t2 st hd2 inv dec λh=>⟨(clo h).1,h,both cl1 cl2⟩) λt3 q1 q2 q3 q4=>?_
  obtain ⟨r1,r2⟩:=inv.relax z hN40 e.sym q1 q2
  refine nxt true _ t3 (qAh st q4 hdb0) q3 r1 (λ_=>?_) λh=>by cases h
  cases mo with
  | true=>have:=dec rfl;omega
  | false=>have:=(clo rfl).1;rw [← this];omega
 have go:0≤d a→(d b < 0∨d a+c < d b)→oK (wr1 t2 (.ptr db b) (.int .i64 (d a+(c:Int)))) (λs_59=>qA5 XX (.slc db 0 i (some i) 1) (.bool true) (.int .i64 (k:Int)) (.ptr be 0) _ _ _ _ K s_59):=λq1 q2=>
  qAm hd2 (by rw [qHH];exact k2) rfl λt3 g1 g2=>by
   rw [qOZ k2] at g1
   obtain ⟨r1,r2⟩:=inv.relax z hN40 e q1 q2
   have lo:muD i (updI d b (d a+c)) < muD i d0:=by
    cases mo with
    | true=>have:=dec rfl;omega
    | false=>have:=(clo rfl).1;rw [← this];omega
   have st3:=qAh st g2 hdb0
   refine bf2 z hN r1 e (by rw [g2 be bed];exact h8) g1 (λ_=>nxt true _ t3 st3 g1 r1 (λ_=>lo) λh=>by cases h) λt4 p1 p2 p3 p4=>?_
   obtain ⟨y1,y2⟩:=r1.relax z hN40 e.sym p1 p2
   refine nxt true _ t4 (qAh st3 p4 hdb0) p3 y1 (λ_=>by omega) λh=>by cases h
 simp only [Bool.not_true,qAB,qAE,zA,x0,x1,qIv k1,qIv k2,qAM hd2,ga,gb,qA8,qAQ,qAA,zABj]
 by_cases c1:0≤d a
 ·rw [decide_eq_true c1]
  simp only [qAI]
  by_cases c2:d b < 0
  ·rw [decide_eq_true c2]
   simp only [qAI,qBj,qAV,qAE,zA,x0,x1,x2,qIv k1,qIv k2,qAM hd2,ga,qAT,w,qAA]
   exact go c1 (.inl c2)
  ·rw [decide_eq_false c2]
   simp only [qAB,x2,qAT,w,qAx,qAA]
   by_cases c3:d a+c < d b
   ·rw [decide_eq_true c3]
    simp only [qAI,qBj,qAV,qAL,qAE,zA,x0,x1,x2,qIv k1,qIv k2,qAM hd2,ga,qAT,w,qAA]
    exact go c1 (.inr c3)
   ·rw [decide_eq_false c3]
    simp only [qAB,qBj,qAV,qAL,qAA]
    exact stay λ_=>⟨by omega,by omega⟩
 ·rw [decide_eq_false c1]
  simp only [qAB,qAL,qAA]
  exact stay λq=>absurd q c1
end Go.AM
namespace Go.AM
open Go Go.Proofs
variable {K:AV→Hq→Prop} {s s' s0:Hq} {lv uv v:AV} {N:Nat} {G:List Lnk} {U:List Bool} {d:Nat→Int}
def othV:Option Nat→AV
 | some m=>.tup [.int .i64 (m:Int),.bool true]
 | none=>.tup [.int .i64 0,.bool false]
theorem qVH {a b c n:Nat} (hK:∀ s',Sub s s'→K (othV (oth (a,b,c) n)) s'):wC TP XX 88 [.agg (lkR (a,b,c)),.int .i64 (n:Int)] K s:=by
 refine qGv ⟨rfl,qAS λbx s1 hb h1 u1=>?_⟩
 obtain ⟨x0,x1,x2⟩:=lk39 h1
 have hK:=hK s1 (u1.sub hb)
 simp only [qAE,zA,x0,x1,qAv,qAi,Bool.false_bne,qAA]
 unfold oth at hK
 cases c1:((n:Int) == (a:Int)) with
 | true=>
   have c1:a=n:=by have:=eq_of_beq c1;omega
   simp only [qAI]
   rw [if_pos c1] at hK
   exact hK
 | false=>
   have c1:¬ a=n:=by
    have:¬ (n:Int)=(a:Int):=by simpa using c1
    omega
   simp only [qAB]
   rw [if_neg c1] at hK
   cases c2:((n:Int) == (b:Int)) with
   | true=>
     have c2:b=n:=by have:=eq_of_beq c2;omega
     simp only [qAI]
     rw [if_pos c2] at hK
     exact hK
   | false=>
     have c2:¬ b=n:=by
      have:¬ (n:Int)=(b:Int):=by simpa using c2
      omega
     simp only [qAB]
     rw [if_neg c2] at hK
     exact hK
theorem Acc.weak {elem:TypeId} {s1:Hq} {l:List AV} (h:Acc elem s1 s v l) (k:Sub s0 s1):Acc elem s0 s v l:=h.imp id λ⟨b,h0,h1,h2⟩=>⟨b,(by
 cases q:s0 b with
 | none=>rfl
 | some x=>rw [k _ _ q] at h0;cases h0),h1,h2⟩
def nrP (G:List Lnk) (U:List Bool) (d:Nat→Int) (n k:Nat):List Nat:=((edP G U k n).filter λe=>decide (d n=d e.2.1+e.2.2)).map (·.1)
theorem qTF {n k:Nat}:nrP G U d n (k+1)=nrP G U d n k ++ (((edF G U n k).toList.filter λe=>decide (d n=d e.2.1+e.2.2)).map (·.1)):=by
 unfold nrP
 rw [qPh,List.filter_append,List.map_append]
theorem qYm {n k:Nat}:(nrP G U d n k).length≤k:=by
 unfold nrP
 rw [lMY]
 exact Nat.le_trans (List.length_filter_le _ _) qUM
def nrL (G:List Lnk) (U:List Bool) (d:Nat→Int) (n:Nat):List Nat:=(qIS G U d n).map (·.1)
theorem qZw {n:Nat}:nrP G U d n G.length=nrL G U d n:=rfl
theorem qWW {L:List RLk} {n t:Nat} (hl:SlR 3 s lv (L.map rwR)) (hu:Sl s uv (U.map AV.bool)) (hv:vld (N:Int) L U) (hn:n < N) (ht:t < N)
  (hK:∀ v s' d,IsDist N (L.map toL) U t d→Acc 3 s s' v (iz (nrL (L.map toL) U d n))→Sub s s'→K v s'):wC TP XX 65 [.int .i64 (N:Int),lv,uv,.int .i64 (n:Int),.int .i64 (t:Int)] K s:=by
 have hlm:L.length≤9223372036854775807:=by have:=hv.2.2.1;omega
 refine qHR (qNa hl hlm hu λs1 r sub1 hr=>?_)
 simp only [qAj,qAA]
 rw [hr.2 ⟨hv,by omega,by omega⟩]
 simp only [Bool.not_true,qAB]
 refine qW3 (hl.sub sub1) hlm (hu.sub sub1) λdv s2 sub2 _ hdist=>?_
 obtain ⟨d,db,isd,hbd,rfl,hdb,hd⟩:=hdist N t hv rfl ht rfl
 have s02:=sub1.trans sub2
 obtain ⟨z,hG,hN,hC,hrw⟩:=vld.gok hv
 rw [hrw] at hl
 refine ⟨λys x m=>∃ (k:Nat) (lv:AV),ys=[lv,.int .i64 k]∧k≤(L.map toL).length∧m=(L.map toL).length - k∧Sub s2 x∧Acc 3 s2 x lv (iz (nrP (L.map toL) U d n k)),⟨_,0,.nilslc,rfl,by omega,rfl,.refl s2,.inl ⟨rfl,rfl⟩⟩,?_⟩
 rintro f x m ⟨k,ov,hy,hk,rfl,st,ac⟩
 simp only [cI,and_true] at hy
 rw [hy.1,hy.2]
 have stt:=s02.trans st
 have len:=(hl.sub stt).len
 rw [lMY] at len
 have len2:qAa (.slc db 0 N (some N) 1)=some N:=rfl
 simp only [qED,len,len2,qAQ,qAx,qAA]
 refine qAU (λhlt=>?_) (λhge=>?_)
 rotate_left
 ·have hge':k=(L.map toL).length:=by have:=oF hge;omega
  simp only [qBx,hge,qAL,qAB,qAA]
  rw [hge',qZw] at ac
  exact hK _ x d isd (ac.weak s02) stt
 have hlt':k < (L.map toL).length:=by have:=oT hlt;omega
 obtain ⟨l,hx⟩:∃ l,(L.map toL)[k]?=some l:=⟨_,gE hlt'⟩
 obtain ⟨a,b,c⟩:=l
 have hkU:k < U.length:=by rw [z.len];exact hlt'
 have row:∀ {x},Sub s x→∃ pb po,qAO 3 lv (.int .i64 (k:Int))=some (.ptr pb po)∧rdN x 3 (.ptr pb po)=some (lkR (a,b,c))∧rd1 x (.ptr pb (po+2))=some (.int .i64 (c:Int)):=fun {x} hs=>by
  obtain ⟨pb,po,e1,e2,e3⟩:=(hl.sub hs).get (i:=k) (r:=lkR (a,b,c)) (by rw [List.getElem?_map,hx];rfl)
  exact ⟨pb,po,e1,e2,e3 2 (by omega)⟩
 obtain ⟨pb,po,e1,e2,_⟩:=row stt
 have hpos:decide ((0:Int) < (N:Int))=true:=decide_eq_true (by omega)
 rw [hpos]
 simp only [qBx,hlt,qAV,qAI,e1,e2,qAA]
 refine qVH λs5 sub5=>?_
 have st5:=st.trans sub5
 have st05:=stt.trans sub5
 have ac5:=ac.sub sub5
 clear e1 e2
 obtain ⟨pb,po,e1,_,e3⟩:=row st05
 obtain ⟨pu,a1,a2⟩:=(hu.sub st05).get (i:=k) (by rw [lMY];exact hkU)
 have a3:(U.map AV.bool)[k]?=some (.bool U[k]):=by simp [hkU]
 rw [a3] at a2
 have hd5:=st5 _ _ hd
 have nxt:∀ (ov':AV) (s6:Hq),Sub s2 s6→Acc 3 s2 s6 ov' (iz (nrP (L.map toL) U d n (k+1)))→qBg XX ov' (.int .i64 (k:Int)) (λys x m=>∃ (k:Nat) (lv:AV),ys=[lv,.int .i64 k]∧k≤(L.map toL).length∧m=(L.map toL).length - k∧Sub s2 x∧Acc 3 s2 x lv (iz (nrP (L.map toL) U d n k))) ((L.map toL).length - k) K s6:=λov' s6 h1 h2=>by
  simp only [qBg,qAT,qAA]
  rw [qAf (by omega) (by omega)]
  exact ⟨_,by omega,k+1,ov',rfl,by omega,rfl,h1,h2⟩
 have same:(edF (L.map toL) U n k).toList.filter (λe=>decide (d n=d e.2.1+e.2.2))=[]→qBg XX ov (.int .i64 (k:Int)) _ _ K s5:=λh=>nxt ov s5 st5 (by rw [qTF,h,List.map_nil,List.append_nil];exact ac5)
 have eF:edF (L.map toL) U n k=if U[k] then (oth (a,b,c) n).map λm=>(k,m,c) else none:=by
  unfold edF
  rw [List.getD_eq_getElem?_getD,gE hkU,Option.getD_some,hx]
 cases ho:oth (a,b,c) n with
 | none=>
   have x0:qAN (othV none) 0=some (.int .i64 0):=rfl
   have x1:qAN (othV none) 1=some (.bool false):=rfl
   simp only [x0,x1,qAA,qAB,qBy,qBh,qBG,qAL]
   refine same ?_
   rw [eF,ho]
   cases U[k] <;> rfl
 | some m=>
   have x0:qAN (othV (some m)) 0=some (.int .i64 (m:Int)):=rfl
   have x1:qAN (othV (some m)) 1=some (.bool true):=rfl
   simp only [x0,x1,qAA,qAI,a1,a2,qBy,qAV]
   cases hup:U[k] with
   | false=>
     simp only [qAB,qBh,qBG,qAL,qAA]
     refine same ?_
     rw [eF,hup];rfl
   | true=>
   have e:Ed (L.map toL) U k n m c:=by
    refine ⟨by rw [gE hkU,hup],?_⟩
    unfold oth at ho
    split at ho
    ·rename_i q;cases ho;exact .inl (by rw [hx];show some (a,b,c)=some (n,b,c);rw [show a=n from q])
    ·split at ho
     ·rename_i q;cases ho;exact .inr (by rw [hx];show some (a,b,c)=some (a,n,c);rw [show b=n from q])
     ·cases ho
   obtain ⟨k1,k2,k3,k4,k5⟩:=z.ed e
   have eF2:edF (L.map toL) U n k=some (k,m,c):=by rw [eF,hup,ho];rfl
   have gn:(dl N d)[n]?=some (.int .i64 (d n)):=qGm k1
   have gm:(dl N d)[m]?=some (.int .i64 (d m)):=qGm k2
   have dn:=hbd n k1
   have dm:=hbd m k2
   have w:IntKind.i64.wrap (d m+(c:Int))=d m+c:=qAf (by omega) (by omega)
   simp only [qAI,qIv k2,qAM hd5,gm,qA8,qAA,qBh,qAV]
   have hfil:(edF (L.map toL) U n k).toList.filter (λe=>decide (d n=d e.2.1+e.2.2))=if d n=d m+c then [(k,m,c)] else []:=by
    rw [eF2]
    by_cases q:d n=d m+c
    ·simp [q]
    ·simp [q]
   by_cases c1:0≤d m
   ·rw [decide_eq_true c1]
    simp only [qAI,qIv k1,qIv k2,qAM hd5,gm,gn,e1,qAE,e3,qAT,w,qAv,qAi,Bool.false_bne,qAA,qBG,qAV]
    cases c2:(d m+(c:Int) == d n) with
    | true=>
      have c2:d n=d m+c:=(eq_of_beq c2).symm
      simp only [qAI]
      refine qFG rfl rfl λb6 s6 hb6 h6 u6=>?_
      have sub6:=u6.sub hb6
      refine (ac5.sub sub6).app2 (st5.trans sub6) (Sl.mk h6 rfl (by simp)) (by simp) ?_ λv' s7 a7 s07=>?_
      ·have:=qYm (G:=L.map toL) (U:=U) (d:=d) (n:=n) (k:=k)
       rw [qHU];simp only [List.length_singleton];omega
      ·refine nxt v' s7 s07 ?_
       rw [qTF,hfil,if_pos c2,qYd]
       exact a7
    | false=>
      have c2:¬ d n=d m+c:=by
       have:¬ d m+(c:Int)=d n:=by simpa using c2
       omega
      simp only [qAB]
      exact same (by rw [hfil,if_neg c2])
   ·rw [decide_eq_false c1]
    simp only [qAB,qBG,qAL,qAA]
    refine same ?_
    rw [hfil,if_neg ?_]
    intro q
    have h1:=isd.clo k m n c e.sym
    omega
end Go.AM
namespace Go.AM
open Go Go.Proofs
abbrev izs (l:List Int):List AV:=l.map (AV.int .i64)
section
variable (P : Program)
def qVF (def_:TypeId→AV→Bool) (xs:List AV):List Field→Bool
 | []=>true
 | f :: fs=>cond (f.name == "_") (qVF def_ xs fs) (match qGh P f.type xs f.offset with
   | some x=>def_ f.type x&&qVF def_ xs fs
   | none=>false)
def aDef:Nat→TypeId→AV→Bool
 | 0,_,_=>false
 | d+1,t,x=>match P.underlying t,x with
   | some .bool,.bool _=>true
   | some (.int _),.int _ _=>true
   | some (.struct fields),.agg xs=>cond (P.stoodInHeld t) false (qVF P (aDef d) xs fields.toList)
   | _,_=>false
theorem qPb {eq:TypeId→AV→AV→Option Bool} {df:TypeId→AV→Bool} (h:∀ t x,df t x=true→eq t x x=some true) {xs:List AV}:∀ {fs:List Field},qVF P df xs fs=true→eqFields P eq xs xs fs=some true
 | [],_=>rfl
 | f :: fs,q=>by
   unfold qVF at q
   unfold eqFields
   cases c:(f.name == "_") with
   | true=>rw [c] at q;exact qPb h q
   | false=>
     rw [c] at q
     simp only [cond_false] at q ⊢
     cases e:qGh P f.type xs f.offset with
     | none=>rw [e] at q;cases q
     | some x=>
       rw [e] at q
       simp only [Bool.and_eq_true] at q
       simp only [h _ _ q.1]
       exact qPb h q.2
theorem qWV:∀ (d:Nat) (t:TypeId) (x:AV),aDef P d t x=true→aEq P d t x x=some true
 | 0,_,_,h=>by cases h
 | d+1,t,x,h=>by
   unfold aDef at h
   split at h
   ·rename_i b hu
    unfold aEq
    rw [hu]
    simp
   ·rename_i k k' n hu
    unfold aEq
    rw [hu]
    have e:qCQ k' k'=true:=by cases k' <;> rfl
    simp only [e,cond_true,qGn]
    simp
   ·rename_i fields xs hu
    unfold aEq
    rw [hu]
    simp only
    cases c:P.stoodInHeld t with
    | true=>rw [c] at h;cases h
    | false=>
      rw [c] at h
      simp only [cond_false] at h ⊢
      exact qPb P (qWV d) h
   ·cases h
end
variable {K:AV→Hq→Prop} {s s' s0 t:Hq} {U:List Bool} {L:List RLk} {lnv upv v w dv mv:AV} {lf sp sf g:Int} {N r:Nat} {d ds:Nat→Int} {es:List Int}
theorem qAe (k:Sub s s') {b:Nat} (h:s' b=none):s b=none:=by
 cases q:s b with
 | none=>rfl
 | some y=>rw [k _ _ q] at h;cases h
theorem qZp {s:Hq} (h:Sl s mv (U.map AV.bool)) (hl:U.length≤1000000) (hK:∀ v s',Sub s s'→Sl s' v (U.map AV.bool)→(∀ b o n c,v=.slc b o n c 1→U.map AV.bool≠[]→s b=none)→K v s'):wC TP XX 9 [mv] K s:=by
 refine qNZ ?_
 refine qAW (a:=[]) rfl ⟨rfl,qAS λb s1 hb h1 u1=>?_⟩
 have sub1:=u1.sub hb
 refine qIJ (h.sub sub1) (by rw [lMY];omega) λv' s' sub2 h0 h2=>?_
 by_cases q:U.map AV.bool=[]
 ·refine hK v' s' (sub1.trans sub2) ?_ λ_ _ _ _ _ h=>absurd q h
  rw [h0 q,q];exact .inr ⟨b,0,some 0,by simp,by simp,λh=>absurd rfl h⟩
 ·obtain ⟨c,h5,rfl,h4⟩:=h2 q
  exact hK _ s' (sub1.trans sub2) (Sl.mk h4 rfl (by simp)) λb o n c' e _=>by cases e;exact qAe sub1 h5
variable {K:AV→Hq→Prop} {s t:Hq} {v w:AV} {es es':List Int}
theorem qSF (h:Sl s v (izs es)) (h':Sl s w (izs es')) (hl:es.length≤1000000) (hK:∀ b:Bool,(b=true↔es=es')→K (.bool b) s):wC TP XX 11 [v,w] K s:=by
 refine qM8 ?_
 simp only [qMF,h.len,h'.len,lMY,qAv,qAi,Bool.true_bne,qAA]
 refine qAU (λc=>?_) (λc=>?_)
 ·have c:¬ (es.length:Int)=es'.length:=by simpa using c
  exact hK false ⟨(λh=>by cases h),λh=>by rw [h] at c;exact absurd rfl c⟩
 have c:es.length=es'.length:=by
  have c:(es.length:Int)=es'.length:=by simpa using c
  omega
 refine ⟨λys t m=>∃ i:Nat,ys=[.int .i64 i]∧t=s∧i≤es.length∧m=es.length - i∧es.take i=es'.take i,⟨_,0,rfl,rfl,by omega,rfl,by simp⟩,?_⟩
 rintro f t m ⟨i,hy,rfl,hi,rfl,hq⟩
 simp only [cI,and_true] at hy
 rw [hy]
 simp only [qJO,h.len,lMY,qAQ,qAA]
 refine qAU (λhlt=>?_) (λhge=>?_)
 ·have hlt:i < es.length:=by have:=oT hlt;omega
  have hlt':i < es'.length:=by omega
  obtain ⟨p,g1,g2⟩:=h.get (i:=i) (by rw [lMY];exact hlt)
  obtain ⟨q,g3,g4⟩:=h'.get (i:=i) (by rw [lMY];exact hlt')
  have e1:(izs es)[i]?=some (.int .i64 es[i]):=by simp [hlt]
  have e2:(izs es')[i]?=some (.int .i64 es'[i]):=by simp [hlt']
  rw [e1] at g2
  rw [e2] at g4
  simp only [g1,g2,g3,g4,qAv,qAi,Bool.true_bne,qAA]
  refine qAU (λc=>?_) (λc=>?_)
  ·have c:¬ es[i]=es'[i]:=by simpa using c
   exact hK false ⟨(λh=>by cases h),λh=>by subst h;exact absurd rfl c⟩
  ·have c:es[i]=es'[i]:=by simpa using c
   simp only [qAT,qAA]
   rw [qAf (by omega) (by omega)]
   refine ⟨_,by omega,i+1,rfl,by trivial,by omega,rfl,?_⟩
   rw [List.take_add_one,List.take_add_one,hq,gE hlt,gE hlt',c]
 ·have hge:i=es.length:=by have:=oF hge;omega
  subst hge
  rw [List.take_length,c,List.take_length] at hq
  exact hK true ⟨λ_=>hq,λ_=>rfl⟩
end Go.AM
namespace Go.AM
open Go Go.Proofs
variable {K:AV→Hq→Prop} {s s' s0:Hq} {lv uv v:AV} {N:Nat} {U:List Bool} {d:Nat→Int}
theorem AccR.weak {elem:TypeId} {es:Nat} {s1:Hq} {rows:List (List AV)} (h:AccR elem es s1 s v rows) (k:Sub s0 s1):AccR elem es s0 s v rows:=⟨h.1,h.2.imp id λ⟨b,h0,h1,h2⟩=>⟨b,qAe k h0,h1,h2⟩⟩
theorem qW8 {L:List RLk} {n t:Nat} (hl:SlR 3 s lv (L.map rwR)) (hu:Sl s uv (U.map AV.bool)) (hv:vld (N:Int) L U) (hn:n < N) (ht:t < N)
  (hK:∀ v s' d,IsDist N (L.map toL) U t d→Acc 3 s s' v (iz (nrL (L.map toL) U d n))→Sub s s'→K v s'):wC TP XX 54 [.int .i64 (N:Int),lv,uv,.int .i64 (n:Int),.int .i64 (t:Int)] K s:=by
 have hlm:L.length≤9223372036854775807:=by have:=hv.2.2.1;omega
 obtain ⟨z,hG,hN,hC,hrw⟩:=vld.gok hv
 refine qN1 ?_
 refine qAW (a:=[.int .i64 (n:Int),.int .i64 (t:Int)]) rfl ⟨rfl,qAS λeb s1 heb h1 u1=>?_⟩
 have sub1:=u1.sub heb
 refine qDx (es:=[(n:Int),(t:Int)]) (hl.sub sub1) hlm (hu.sub sub1) (Sl.mk h1 rfl (by simp)) (by simp) λs2 r sub2 hr=>?_
 have hr1:r=true:=hr.2 ⟨hv,λe he=>by
  simp only [List.mem_cons,List.not_mem_nil,or_false] at he
  rcases he with rfl | rfl <;> omega⟩
 rw [hr1]
 have s02:=sub1.trans sub2
 rw [hrw] at hl
 simp only [qAj,Bool.not_true,qAB,qAA]
 refine qSX z hN hG (hl.sub s02) (hu.sub s02) λev s3 sub3 he=>?_
 have s03:=s02.trans sub3
 obtain ⟨p,w,g1,g2,g3⟩:=he.at hn
 simp only [g1,g2,qAA]
 have hef:AdjR (frz s3) ev N (edL (L.map toL) U):=by
  obtain ⟨vs,h1,h2⟩:=he
  exact ⟨vs,h1.frz,λn hn=>(h2 n hn).frz⟩
 refine qLu z hN hG hC hef ht λd b s4 isd hbd sub4 hb0 hb4 _=>?_
 have hb0:=qBI.1 hb0
 have hb5:add s3 s4 b=some (false,.cells 3 (dl N d)):=by rw [qAX hb0];exact hb4
 have sub5:Sub s3 (add s3 s4):=qFk
 generalize add s3 s4=s5 at hb5 sub5
 have s05:=s03.trans sub5
 refine qVG z hn hG hC (λm hm=>⟨isd.lo m hm,hbd m hm⟩) (g3.sub sub5) (Sl.mk hb5 qHH.symm (by simp [qHH])) λnv s6 ac6 sub6=>?_
 have s06:=s05.trans sub6
 have hnl:(qIS (L.map toL) U d n).length≤128:=by
  refine Nat.le_trans (List.length_filter_le _ _) (Nat.le_trans ?_ hG)
  exact qLj
 simp only [ac6.sl.len,lMY,qAA]
 refine ⟨λys x m=>∃ (k:Nat) (ov:AV),ys=[ov,.int .i64 k]∧k≤(qIS (L.map toL) U d n).length∧m=(qIS (L.map toL) U d n).length - k∧Sub s6 x∧Acc 3 s6 x ov (iz ((nrL (L.map toL) U d n).take k)),⟨_,0,.nilslc,rfl,by omega,rfl,.refl s6,.inl ⟨rfl,rfl⟩⟩,?_⟩
 rintro f x m ⟨k,ov,hy,hk,rfl,st,ac⟩
 simp only [cI,and_true] at hy
 rw [hy.1,hy.2]
 simp only [qKC,qAQ,qAA]
 refine qAU (λhlt=>?_) (λhge=>?_)
 rotate_left
 ·have hge:k=(qIS (L.map toL) U d n).length:=by have:=oF hge;omega
  have e:(nrL (L.map toL) U d n).take k=nrL (L.map toL) U d n:=by
   rw [hge]
   exact List.take_of_length_le (by unfold nrL;rw [lMY];exact Nat.le_refl _)
  rw [e] at ac
  exact hK _ x d isd (ac.weak s06) (s06.trans st)
 have hlt:k < (qIS (L.map toL) U d n).length:=by have:=oT hlt;omega
 obtain ⟨e,he⟩:∃ e,(qIS (L.map toL) U d n)[k]?=some e:=⟨_,gE hlt⟩
 obtain ⟨pb,po,e1,e2,_⟩:=(ac6.sl.sub st).get (i:=k) (r:=edR e) (by rw [List.getElem?_map,he];rfl)
 simp only [e1,e2,qAA]
 refine qAS λbe x1 hbe h7 u7=>qAl h7 rfl rfl rfl λx2 h8 u8=>?_
 have h8:x2 be=some (false,.cells 137 (edR e)):=h8
 have st2:Sub x x2:=qAh (u7.sub hbe) u8 hbe
 have r0:rd1 x2 (.ptr be 0)=some (.int .i64 (e.1:Int)):=by rw [qAM h8];rfl
 simp only [qAE,zA,r0,qAA]
 refine qFG rfl rfl λb6 x3 hb6 h6 u6=>?_
 have st3:=st2.trans (u6.sub hb6)
 refine (ac.sub st3).app2 (st.trans st3) (Sl.mk h6 rfl (by simp)) (by simp) ?_ λv' x4 a4 s04=>?_
 ·rw [qHU,List.length_take];simp only [List.length_singleton];omega
 ·simp only [qAT,qAA]
  rw [qAf (by omega) (by omega)]
  refine ⟨_,by omega,k+1,v',rfl,by omega,rfl,s04,?_⟩
  have:(nrL (L.map toL) U d n)[k]?=some e.1:=by unfold nrL;rw [List.getElem?_map,he];rfl
  rw [List.take_add_one,this,qYd]
  exact a4
end Go.AM
namespace Go.AM
open Go Go.Proofs
variable {K:AV→Hq→Prop} {s s' s0 t:Hq} {v y w:AV}
def lbk (n:Nat):Int:=184483841+n
theorem qWI {n:Nat} (hn:n < 32):qCi .u32 (.int .i64 (n:Int))=some (.int .u32 (n:Int))∧qAG .add (.int .u32 184483840) (.int .u32 (n:Int))=some (.int .u32 (184483840+n))∧qAG .add (.int .u32 (184483840+n)) (.int .u32 1)=some (.int .u32 (lbk n)):=by
 have w:∀ x:Int,0≤x→x < 4294967296→IntKind.u32.wrap x=x:=λx h1 h2=>by
  unfold IntKind.wrap
  simp [IntKind.bits,IntKind.signed]
  omega
 refine ⟨?_,?_,?_⟩
 ·show some (AV.int .u32 (qB7 .u32 (n:Int)))=_
  rw [show qB7 .u32 (n:Int)=n by simp only [qB7];rw [qGo _ _ _ (by omega) (by omega)];split <;> omega]
 ·rw [qAT,w _ (by omega) (by omega)]
 ·rw [qAT,w _ (by omega) (by omega)]
  unfold lbk
  congr 2
  omega
theorem qPS {n:Nat} (hn:n < 32) (hK:K (.tup [.int .u32 (lbk n),.int .i64 0]) s):wC TP XX 24 [.int .i64 (n:Int)] K s:=by
 obtain ⟨a1,a2,a3⟩:=qWI hn
 have c1:decide ((n:Int) < 0)=false:=decide_eq_false (by omega)
 have c2:decide ((32:Int)≤(n:Int))=false:=decide_eq_false (by omega)
 refine qKf ?_
 simp only [qIf,qAQ,qA8,c1,c2,qAB,qAA,qD2,qAL,a1,a2,a3]
 exact hK
theorem qMg {n:Nat} (hn:n < 32) (hK:K (.int .u32 (lbk n)) s):wC TP XX 33 [.int .i64 (n:Int)] K s:=by
 obtain ⟨a1,a2,a3⟩:=qWI hn
 have c1:decide ((n:Int) < 0)=false:=decide_eq_false (by omega)
 have c2:decide ((32:Int)≤(n:Int))=false:=decide_eq_false (by omega)
 refine qF4 (qFz ?_)
 have x0:qAN (.tup [.int .u32 (lbk n),.int .i64 0]) 0=some (.int .u32 (lbk n)):=rfl
 have x1:qAN (.tup [.int .u32 (lbk n),.int .i64 0]) 1=some (.int .i64 0):=rfl
 simp only [qDo,qAQ,qA8,c1,c2,qAB,qAA,qCC,qAL,a1,a2,a3,x0,x1]
 exact hK
abbrev EnV:=Int × AV × List Nat
def enR (x:EnV):List AV:=[.int .u32 x.1,x.2.1]
structure Ens (s0 s:Hq) (v:AV) (R:List EnV):Prop where
 sub:Sub s0 s
 ex:∃ sb,Sub s0 sb∧Sub sb s∧AccR 66 2 sb s v (R.map enR)∧∀ x∈R,Acc 3 s0 sb x.2.1 (iz x.2.2)
theorem Ens.more {R:List EnV} (h:Ens s0 s v R) (k:Sub s s'):Ens s0 s' v R:=by
 obtain ⟨a,sb,b,c,e,f⟩:=h
 exact ⟨a.trans k,sb,b,c.trans k,e.sub k,f⟩
theorem Ens.nil:Ens s s .nilslc []:=⟨.refl s,s,.refl s,.refl s,⟨(λr h=>by cases h),.inl ⟨rfl,rfl⟩⟩,λx h=>by cases h⟩
def offV (v:AV) (t:Hq):Hq:=match v with
 | .slc b _ _ _ _=>hdel t b
 | _=>t
theorem qPj {v:AV}:Sub (offV v t) t:=λi x hi=>by
 unfold offV at hi
 split at hi
 ·rename_i b _ _ _ _
  have hi:(if i=b then none else t i)=some x:=hi
  split at hi
  ·cases hi
  ·exact hi
 ·exact hi
theorem qFb {v:AV} {i:Nat} (h:∀ b o n c e,v=.slc b o n c e→i≠b):offV v t i=t i:=by
 unfold offV
 split
 ·exact if_neg (h _ _ _ _ _ rfl)
 ·rfl
theorem Ens.put {R:List EnV} {n:Int} {w y:AV} {l:List Nat} {t:Hq} (h:Ens s0 s v R) (k:Sub s t) (hw:Acc 3 s t w (iz l)) (hy:SlR 2 t y [enR (n,w,l)]) (hl:R.length≤1000) (hK:∀ v' s',Ens s0 s' v' (R ++ [(n,w,l)])→K v' s'):appK 66 2 v y K t:=by
 obtain ⟨h0,sb,b,c,ac,hR⟩:=h
 have own:∀ i b o n c e,v=.slc b o n c e→sb i≠none→i≠b:=λi b o n c e q q2 q3=>by
  rcases ac.2 with ⟨r,_⟩ | ⟨j,r1,r2,r3⟩
  ·rw [r] at q;cases q
  ·rw [r2] at q;cases q;rw [q3] at q2;exact q2 r1
 have k1:Sub sb (offV v t):=λi x hi=>by
  rw [qFb λb o n c e q=>own i b o n c e q (by rw [hi];simp)]
  exact k _ _ (c _ _ hi)
 have ac2:AccR 66 2 (offV v t) t v (R.map enR):=by
  refine ⟨ac.1,ac.2.imp id λ⟨i,q1,q2,q3⟩=>⟨i,?_,q2,k _ _ q3⟩⟩
  rw [q2]
  exact if_pos rfl
 have hwc:Acc 3 s0 (offV v t) w (iz l):=by
  rcases hw with ⟨q1,q2⟩ | ⟨i,q1,q2,q3⟩
  ·exact .inl ⟨q1,q2⟩
  ·have:offV v t i=some (false,.cells 3 (iz l)):=by
    rw [qFb λb o n c e q q4=>?_]
    ·exact q3
    ·rcases ac.2 with ⟨r,_⟩ | ⟨j,r1,r2,r3⟩
     ·rw [r] at q;cases q
     ·rw [r2] at q;cases q;rw [q4,r3] at q1;cases q1
   exact .inr ⟨i,qAe h0 q1,q2,this⟩
 refine ac2.app hy (by simp) (by rw [lMY];simp only [List.length_singleton];omega) qPj λv' s' a' k'=>?_
 refine hK v' s' ⟨b.trans (k1.trans k'),offV v t,b.trans k1,k',?_,λx hx=>?_⟩
 ·rw [List.map_append];exact a'
 ·rcases mP hx with q | q
  ·exact (hR x q).sub k1
  ·rw [List.mem_singleton] at q;rw [q];exact hwc
theorem qZv {n:Int} {w:AV} {l:List Nat} (hw:w.one=true) {R:List AV→Prop} (h:R (enR (n,w,l))):oK (qA2 [(.int .u32 0),.nilslc] [(0,1,.int .u32 n),(1,1,w)]) R:=by
 refine qAW (a:=enR (n,w,l)) ?_ h
 show cond (Nat.beq w.cells.length 1&&Nat.ble (1+w.cells.length) 2) (qA2 (qAu [.int .u32 n,.nilslc] 1 w.cells) []) none=_
 rw [qBk hw]
 rfl
theorem qMS {zs c:List AV} (h:c.length=zs.length):qA2 (repl 1 zs) [(0,zs.length,.agg c)]=some c:=by
 have e0:repl 1 zs=zs:=by simp [repl]
 rw [e0]
 have e2:Nat.beq c.length zs.length=true:=by rw [h];exact Nat.beq_refl _
 have e3:Nat.ble (0+c.length) zs.length=true:=bL (by omega)
 simp only [qA2,qK2,e2,e3,Bool.and_self,cond_true]
 unfold qAu
 rw [List.take_zero,List.nil_append,List.drop_eq_nil_of_le (by omega),List.append_nil]
theorem qVj {R:List EnV} {n:Int} {w:AV} {l:List Nat} {t:Hq} (h:Ens s0 s v R) (k:Sub s t) (hw:Acc 3 s t w (iz l)) (hl:R.length≤1000) (hK:∀ v' s',Ens s0 s' v' (R ++ [(n,w,l)])→K v' s') :
  oK (qA2 [(.int .u32 0),.nilslc] [(0,1,.int .u32 n),(1,1,w)]) λc_17=>
   oK (qA2 (repl 1 [(.int .u32 0),.nilslc]) [(0,2,(.agg c_17))]) λc_18=>qAb c_18=true∧newK 66 c_18 (λb_19 s_20=>
   appK 66 2 v (.slc b_19 0 1 (some 1) 2) (λv_21 s_22=>K v_21 s_22) s_20) t:=by
 refine qZv (l:=l) hw.sl.one (qAW (qMS (zs:=[(.int .u32 0),.nilslc]) (c:=enR (n,w,l)) rfl) ⟨?_,qAS λb s1 hb h1 u1=>?_⟩)
 ·show ((AV.int .u32 n).one&&(w.one&&true))=true
  rw [hw.sl.one];rfl
 ·refine h.put (k.trans (u1.sub hb)) (hw.sub (u1.sub hb)) (SlR.mk (rows:=[enR (n,w,l)]) (by intro r hr;rw [List.mem_singleton] at hr;subst hr;rfl) (by simpa using h1) rfl (by simp)) hl hK
end Go.AM
namespace Go.AM
open Go
variable {N:Nat} {G:List Lnk} {U:List Bool} {r:Nat} {d:Nat→Int} {M:Nat→Prop}
theorem qRb (z:GOk N G U) (hN:N≤40) (hr:r < N):∃ d,IsDist N G U r d:=by
 have key:∀ (k:Nat) (d:Nat→Int),RInv N G U r d→muD N d=k→∃ d,IsDist N G U r d:=by
  intro k
  induction k using Nat.strongRecOn with
  | _ k ih=>
    intro d h hk
    by_cases q:∀ i a b c,Ed G U i a b c→0≤d a→0≤d b∧d b≤d a+c
    ·exact ⟨d,h.end_ q⟩
    ·have:∃ i a b c,Ed G U i a b c∧0≤d a∧(d b < 0∨d a+c < d b):=by
      apply Classical.byContradiction
      intro hno
      refine q λi a b c e h0=>?_
      apply Classical.byContradiction
      intro hn2
      exact hno ⟨i,a,b,c,e,h0,by omega⟩
     obtain ⟨i,a,b,c,e,h0,hb⟩:=this
     obtain ⟨h1,h2⟩:=h.relax z hN e h0 hb
     exact ih _ (by omega) _ h1 rfl
 exact key _ _ (RInv.start hr) rfl
theorem zAAo (z:GOk N G U) (hN:N≤40) (hr:r < N):IsDist N G U r (dF N G U r):=by
 obtain ⟨d,h⟩:=qRb z hN hr
 exact zAA4 h
inductive Con (G:List Lnk) (U:List Bool):Nat→Nat→Prop where
 | refl (n:Nat):Con G U n n
 | step {n m k i c:Nat}:Con G U n m→Ed G U i m k c→Con G U n k
theorem Con.trans {n m k:Nat} (h:Con G U n m) (h':Con G U m k):Con G U n k:=by
 induction h' with
 | refl=>exact h
 | step _ e ih=>exact .step ih e
theorem Con.symm {n m:Nat} (h:Con G U n m):Con G U m n:=by
 induction h with
 | refl=>exact .refl _
 | step _ e ih=>exact (Con.step (.refl _) e.sym).trans ih
theorem qRz (z:GOk N G U) (h:IsDist N G U r d):∀ (k n:Nat),n < N→0≤d n→(d n).toNat=k→Con G U r n:=by
 intro k
 induction k using Nat.strongRecOn with
 | _ k ih=>
   intro n hn h0 hk
   by_cases e:n=r
   ·rw [e];exact .refl _
   ·obtain ⟨i,m,c,h1,h2,h3⟩:=h.sup n hn h0 e
    obtain ⟨_,hm,_,hc,_⟩:=z.ed h1
    exact .step (ih (d m).toNat (by omega) m hm h2 rfl) h1.sym
theorem qR2 (h:IsDist N G U r d) {n:Nat} (c:Con G U r n):0≤d n:=by
 induction c with
 | refl=>rw [h.fr];exact Int.le_refl _
 | step _ e ih=>exact (h.clo _ _ _ _ e.sym ih).1
theorem qS2 (z:GOk N G U) (h:IsDist N G U r d) {n:Nat} (hn:n < N):0≤d n↔Con G U r n:=⟨λh0=>qRz z h _ n hn h0 rfl,qR2 h⟩
abbrev Tr0 (G:List Lnk) (U:List Bool) (d:Nat→Int) (M:Nat→Prop):Nat→Prop:=InT G (parL G U d) M
def InV (G:List Lnk) (U:List Bool) (r:Nat) (d:Nat→Int) (M:Nat→Prop) (n:Nat):Prop:=n=r∨∃ i:Nat,parL G U d n=(i:Int)∧Tr0 G U d M i
theorem Tr0.lt (z:GOk N G U) (h:IsDist N G U r d) {i:Nat} (hi:Tr0 G U d M i):i < G.length:=by
 obtain ⟨m,_,q⟩:=hi
 exact q.lt z h
theorem Tr0.ends (z:GOk N G U) (h:IsDist N G U r d) {i:Nat} (hi:Tr0 G U d M i):∃ n m c,parL G U d n=(i:Int)∧Ed G U i n m c∧n < N∧m < N∧far G i n=m∧n≠r∧d m < d n∧0≤d m∧InV G U r d M n∧InV G U r d M m:=by
 obtain ⟨q,hq,h1⟩:=hi
 obtain ⟨n,hn,_,_,hw⟩:=h1.node z h
 obtain ⟨m,c,e1,e2,e3,e4,e5,e6,e7⟩:=qJo z h hn
 refine ⟨n,m,c,hn,e1,e3,e4,e2,λe=>?_,by omega,e5,.inr ⟨i,hn,q,hq,hw i (.here hn)⟩,?_⟩
 ·rw [e,qSd z h] at hn;omega
 ·by_cases e:m=r
  ·exact .inl e
  ·obtain ⟨j,hj⟩:=qS5 z h e4 e5 e
   exact .inr ⟨j,hj,q,hq,hw j (.up hn (by rw [e2];exact .here hj))⟩
theorem InV.at (z:GOk N G U) (h:IsDist N G U r d) {i a b c:Nat} (hi:Tr0 G U d M i) (hg:G[i]?=some (a,b,c)):InV G U r d M a∧InV G U r d M b:=by
 obtain ⟨n,m,c',_,e,_,_,_,_,_,_,h1,h2⟩:=hi.ends z h
 rcases e.2 with q | q <;> rw [hg] at q <;> simp only [Option.some.injEq,Prod.mk.injEq] at q <;> obtain ⟨rfl,rfl,_⟩:=q
 ·exact ⟨h1,h2⟩
 ·exact ⟨h2,h1⟩
theorem InV.lt (z:GOk N G U) (hr:r < N) (h:IsDist N G U r d) {n:Nat} (hn:InV G U r d M n):n < N∧0≤d n:=by
 rcases hn with rfl | ⟨i,hi,_⟩
 ·exact ⟨hr,by rw [h.fr];exact Int.le_refl _⟩
 ·obtain ⟨m,c,_,_,h1,_,h2,h3,_⟩:=qJo z h hi
  exact ⟨h1,by omega⟩
end Go.AM
namespace Go.AM
open Go Go.Proofs
variable {K:AV→Hq→Prop} {s s' t:Hq} {lv uv v y w:AV} {N:Nat} {G:List Lnk} {U:List Bool} {d:Nat→Int} {L:List RLk}
noncomputable def ofE (N:Nat) (G:List Lnk) (U:List Bool) (x n:Nat):Option (Int × List Nat):=if nrL G U (dF N G U n) x=[] then none else some (lbk n,nrL G U (dF N G U n) x)
noncomputable def ofP (N:Nat) (G:List Lnk) (U:List Bool) (x k:Nat):List (Int × List Nat):=(List.range k).filterMap (ofE N G U x)
theorem qK5 {x k:Nat}:ofP N G U x (k+1)=ofP N G U x k ++ (ofE N G U x k).toList:=by
 unfold ofP
 rw [List.range_succ,List.filterMap_append]
 congr 1
theorem qHz {x k:Nat}:(ofP N G U x k).length≤k:=by
 have:=List.length_filterMap_le (ofE N G U x) (List.range k)
 rw [List.length_range] at this
 exact this
theorem qYH (z:GOk N G U) {n x:Nat} (h:IsDist N G U n d):nrL G U d x=nrL G U (dF N G U n) x:=by
 unfold nrL
 rw [qRW z λm hm=>zAB2 z h hm]
theorem qYz {x:Nat}:nrL G U d x=[]↔parL G U d x=-1:=by
 unfold nrL
 rw [List.map_eq_nil_iff]
 rcases qHk G U d x with ⟨h1,h2⟩ | ⟨i,m,c,h1,_,l,h2⟩
 ·exact ⟨λ_=>h1,λ_=>h2⟩
 ·constructor
  ·intro h
   rw [h2] at h
   cases h
  ·intro h
   rw [h1] at h
   omega
theorem of_same (z:GOk N G U) (hN:N≤40) {x n:Nat} (hx:x < N) (hn:n < N) (h:IsDist N G U x d):nrL G U (dF N G U n) x=[]↔n=x∨d n < 0:=by
 have isn:=zAAo z hN hn
 have sym:0≤dF N G U n x↔0≤d n:=by
  rw [qS2 z isn hx,qS2 z h hn]
  exact ⟨Con.symm,Con.symm⟩
 rw [qYz]
 constructor
 ·intro hp
  by_cases e:n=x
  ·exact .inl e
  ·refine .inr ?_
   by_cases q:0≤d n
   ·obtain ⟨i,hi⟩:=qS5 z isn hx (sym.2 q) (Ne.symm e)
    rw [hp] at hi
    omega
   ·omega
 ·rintro (e | e)
  ·rw [e]
   rw [e] at isn
   exact qSd z isn
  ·exact qZg z isn (by
    by_cases q:0≤dF N G U n x
    ·have:=sym.1 q;omega
    ·omega)
open Classical in
noncomputable def ofEn (n:Int) (L:List RLk) (U:List Bool) (x:Int):List (Int × List Nat):=if vld n L U∧0≤x∧x < n then ofP n.toNat (L.map toL) U x.toNat n.toNat else []
def kyE (x:EnV):Int × List Nat:=(x.1,x.2.2)
theorem zAAm {n x:Int} (hl:SlR 3 s lv (L.map rwR)) (hlm:L.length≤9223372036854775807) (hu:Sl s uv (U.map AV.bool)) (hK:∀ v s' R,Ens s s' v R→R.map kyE=ofEn n L U x→K v s'):wC TP XX 21 [.int .i64 n,lv,uv,.int .i64 x] K s:=by
 refine qQd (qRv hl hlm hu λdv s1 sub1 hno hyes=>?_)
 by_cases q:vld n L U∧0≤x∧x < n
 rotate_left
 ·rw [hno q]
  have e:qAa .nilslc=some 0:=rfl
  simp only [e,qAA]
  refine ⟨λys t m=>ys=[.nilslc,.int .i64 0]∧Sub s t,⟨0,rfl,sub1⟩,?_⟩
  rintro f t m ⟨hy,st⟩
  simp only [cI,and_true] at hy
  rw [hy.1,hy.2]
  simp only [qJE,qAQ,qAA]
  have c:decide ((0:Int) < ((0:Nat):Int))=false:=by decide
  rw [c]
  simp only [qAB]
  refine hK .nilslc t [] (Ens.nil.more st) ?_
  unfold ofEn
  rw [if_neg q];rfl
 obtain ⟨hv,hx0,hxn⟩:=q
 obtain ⟨N,rfl⟩:∃ N:Nat,n=N:=⟨n.toNat,by omega⟩
 obtain ⟨x,rfl⟩:∃ y:Nat,x=y:=⟨x.toNat,by omega⟩
 have hx:x < N:=by omega
 obtain ⟨d,db,isd,hbd,rfl,hdb,hd⟩:=hyes N x hv rfl hx rfl
 obtain ⟨z,hG,hN,hC,hrw⟩:=vld.gok hv
 have e:qAa (.slc db 0 N (some N) 1)=some N:=rfl
 simp only [e,qAA]
 have eV:ofEn (N:Int) L U (x:Int)=ofP N (L.map toL) U x N:=by
  unfold ofEn
  rw [if_pos ⟨hv,by omega,by omega⟩,Int.toNat_natCast,Int.toNat_natCast]
 refine ⟨λys t m=>∃ (k:Nat) (ov:AV) (R:List EnV),ys=[ov,.int .i64 k]∧k≤N∧m=N - k∧Ens s1 t ov R∧R.map kyE=ofP N (L.map toL) U x k,⟨_,0,.nilslc,[],rfl,by omega,rfl,Ens.nil,rfl⟩,?_⟩
 rintro f t m ⟨k,ov,R,hy,hk,rfl,en,hR⟩
 simp only [cI,and_true] at hy
 rw [hy.1,hy.2]
 have st:=sub1.trans en.sub
 simp only [qJE,qAQ,qAA]
 refine qAU (λhlt=>?_) (λhge=>?_)
 rotate_left
 ·have hge:k=N:=by have:=oF hge;omega
  subst hge
  refine hK ov t R ⟨st,?_⟩ (hR.trans eV.symm)
  obtain ⟨sb,b,c,e,f⟩:=en.ex
  exact ⟨sb,sub1.trans b,c,e,λx hx=>(f x hx).weak sub1⟩
 have hlt:k < N:=by have:=oT hlt;omega
 have hdt:=en.sub _ _ hd
 have hRl:R.length≤1000:=by
  have h1:=qHz (N:=N) (G:=L.map toL) (U:=U) (x:=x) (k:=k)
  rw [← hR,lMY] at h1
  omega
 have ad:qAO 1 (.slc db 0 N (some N) 1) (.int .i64 (k:Int))=some (.ptr db k):=qIv hlt
 have nx:∀ (ov':AV) (R':List EnV) (t':Hq),Ens s1 t' ov' R'→R'.map kyE=ofP N (L.map toL) U x (k+1)→qFI XX ov' (.int .i64 (k:Int)) (λys t m=>∃ (k:Nat) (ov:AV) (R:List EnV),ys=[ov,.int .i64 k]∧k≤N∧m=N - k∧Ens s1 t ov R∧R.map kyE=ofP N (L.map toL) U x k) (N - k) K t':=λov' R' t' h1 h2=>by
  simp only [qFI,qAT,qAA]
  rw [qAf (by omega) (by omega)]
  exact ⟨_,by omega,k+1,ov',R',rfl,by omega,rfl,h1,h2⟩
 have os:=of_same z (by omega) hx hlt isd
 have skip:nrL (L.map toL) U (dF N (L.map toL) U k) x=[]→ofP N (L.map toL) U x (k+1)=ofP N (L.map toL) U x k:=λh=>by
  rw [qK5]
  unfold ofE
  rw [if_pos h]
  simp
 simp only [ad,qAM hdt,qGm hlt,qAv,qAi,Bool.false_bne,qAA]
 cases c1:((k:Int) == (x:Int)) with
 | true=>
   have c1:k=x:=by have:=eq_of_beq c1;omega
   simp only [qAI,qFO,qAV,qAA]
   exact nx ov R t en (hR.trans (skip (os.2 (.inl c1))).symm)
 | false=>
 have c1:¬ k=x:=by
  have:¬ (k:Int)=(x:Int):=by simpa using c1
  omega
 simp only [qAB,qAQ,qAA]
 by_cases c2:d k < 0
 ·rw [decide_eq_true c2]
  simp only [qFO,qAL,qAI,qAA]
  exact nx ov R t en (hR.trans (skip (os.2 (.inr c2))).symm)
 rw [decide_eq_false c2]
 simp only [qFO,qAL,qAB,qAA]
 refine qPS (by omega) ?_
 have x0:qAN (.tup [.int .u32 (lbk k),.int .i64 0]) 0=some (.int .u32 (lbk k)):=rfl
 have x1:qAN (.tup [.int .u32 (lbk k),.int .i64 0]) 1=some (.int .i64 0):=rfl
 have x2:negB false (eqV 0 true (.int .i64 0) (.int .i64 0))=some (.bool true):=rfl
 simp only [x0,x1,x2,qAI,qAA]
 refine qW8 (hl.sub st) (hu.sub st) hv hx hlt λw t2 d2 isd2 ac sub2=>?_
 have hne:¬ nrL (L.map toL) U (dF N (L.map toL) U k) x=[]:=λh=>by
  rcases os.1 h with q | q
  ·exact c1 q
  ·exact c2 q
 refine qVj en sub2 ac hRl λv' t3 en'=>nx v' _ t3 en' ?_
 rw [List.map_append,hR,qK5]
 congr 1
 unfold ofE
 rw [if_neg hne,← qYH z isd2]
 rfl
end Go.AM
namespace Go.AM
open Go Go.Proofs
variable {K:AV→Hq→Prop} {s s' t:Hq} {lv uv v y w:AV} {N:Nat} {G:List Lnk} {U:List Bool} {d:Nat→Int} {L:List RLk}
theorem zABS {n x:Int} (hl:SlR 3 s lv (L.map rwR)) (hlm:L.length≤9223372036854775807) (hu:Sl s uv (U.map AV.bool)) (hK:∀ v s' R,Ens s s' v R→R.map kyE=ofEn n L U x→K v s'):wC TP XX 32 [.int .i64 n,lv,uv,.int .i64 x] K s:=by
 refine qIh (qNa hl hlm hu λs1 r sub1 hr=>?_)
 cases r with
 | false=>
   have q:¬ (vld n L U∧0≤x∧x < n):=λh=>by have:=hr.2 h;cases this
   simp only [qAj,Bool.not_false,qAI,qAA]
   refine hK .nilslc s1 [] (Ens.nil.more sub1) ?_
   unfold ofEn
   rw [if_neg q];rfl
 | true=>
 obtain ⟨hv,hx0,hxn⟩:=hr.1 rfl
 obtain ⟨N,rfl⟩:∃ N:Nat,n=N:=⟨n.toNat,by omega⟩
 obtain ⟨x,rfl⟩:∃ y:Nat,x=y:=⟨x.toNat,by omega⟩
 have hx:x < N:=by omega
 obtain ⟨z,hG,hN,hC,hrw⟩:=vld.gok hv
 simp only [qAj,Bool.not_true,qAB,qAA]
 have eV:ofEn (N:Int) L U (x:Int)=ofP N (L.map toL) U x N:=by
  unfold ofEn
  rw [if_pos ⟨hv,by omega,by omega⟩,Int.toNat_natCast,Int.toNat_natCast]
 refine ⟨λys t m=>∃ (k:Nat) (ov:AV) (R:List EnV),ys=[ov,.int .i64 k]∧k≤N∧m=N - k∧Ens s1 t ov R∧R.map kyE=ofP N (L.map toL) U x k,⟨_,0,.nilslc,[],rfl,by omega,rfl,Ens.nil,rfl⟩,?_⟩
 rintro f t m ⟨k,ov,R,hy,hk,rfl,en,hR⟩
 simp only [cI,and_true] at hy
 rw [hy.1,hy.2]
 have st:=sub1.trans en.sub
 simp only [qEt,qAQ,qAA]
 refine qAU (λhlt=>?_) (λhge=>?_)
 rotate_left
 ·have hge:k=N:=by have:=oF hge;omega
  subst hge
  refine hK ov t R ⟨st,?_⟩ (hR.trans eV.symm)
  obtain ⟨sb,b,c,e,f⟩:=en.ex
  exact ⟨sb,sub1.trans b,c,e,λx hx=>(f x hx).weak sub1⟩
 have hlt:k < N:=by have:=oT hlt;omega
 have hRl:R.length≤1000:=by
  have h1:=qHz (N:=N) (G:=L.map toL) (U:=U) (x:=x) (k:=k)
  rw [← hR,lMY] at h1
  omega
 have nx:∀ (ov':AV) (R':List EnV) (t':Hq),Ens s1 t' ov' R'→R'.map kyE=ofP N (L.map toL) U x (k+1)→qCS XX ov' (.int .i64 (k:Int)) (λys t m=>∃ (k:Nat) (ov:AV) (R:List EnV),ys=[ov,.int .i64 k]∧k≤N∧m=N - k∧Ens s1 t ov R∧R.map kyE=ofP N (L.map toL) U x k) (N - k) K t':=λov' R' t' h1 h2=>by
  simp only [qCS,qAT,qAA]
  rw [qAf (by omega) (by omega)]
  exact ⟨_,by omega,k+1,ov',R',rfl,by omega,rfl,h1,h2⟩
 refine qWW (hl.sub st) (hu.sub st) hv hx hlt λw t2 d2 isd2 ac sub2=>?_
 have en2:=en.more sub2
 have eN:=qYH (x:=x) z isd2
 simp only [ac.sl.len,qHU,qAx,qAA]
 refine qAU (λhp=>?_) (λhp=>?_)
 ·have hp:0 < (nrL (L.map toL) U d2 x).length:=by have:=oT hp;omega
  have hne:¬ nrL (L.map toL) U (dF N (L.map toL) U k) x=[]:=λh=>by rw [eN,h] at hp;simp at hp
  refine qMg (by omega) ?_
  refine qVj en sub2 ac hRl λv' t3 en'=>nx v' _ t3 en' ?_
  rw [List.map_append,hR,qK5]
  congr 1
  unfold ofE
  rw [if_neg hne,← eN]
  rfl
 ·have hp:nrL (L.map toL) U d2 x=[]:=List.eq_nil_of_length_eq_zero (by have:=oF hp;omega)
  refine nx ov R t2 en2 (hR.trans ?_)
  rw [qK5]
  unfold ofE
  rw [if_pos (by rw [← eN];exact hp)]
  simp
theorem qSM:TP.cellsOf 72=3:=by kernel_rfl
set_option maxRecDepth 100000 in
theorem zABP {d:Nat} {xs:List AV} (h:Inp TP s (d+2) 72 xs):∃ a:RLk,xs=rwR a∧True:=by
 unfold Inp at h
 simp only [Tryz.underlying72] at h
 obtain ⟨h1,h2⟩:=h
 rw [qSM] at h1
 have k0:=h2 _ (List.mem_cons_self)
 have k1:=h2 _ (mO _ List.mem_cons_self)
 have k2:=h2 _ (mO _ (mO _ List.mem_cons_self))
 match xs,h1 with
 | [a,b,c],_=>
   obtain ⟨n,e1,_⟩:=qB4 (xs:=[a]) Tryz.underlying3 k0
   obtain ⟨q,e2,_⟩:=qB4 (xs:=[b]) Tryz.underlying3 k1
   obtain ⟨w,e3,_⟩:=qB4 (xs:=[c]) Tryz.underlying3 k2
   cases e1;cases e2;cases e3
   exact ⟨(n,q,w),rfl,trivial⟩
end Go.AM
