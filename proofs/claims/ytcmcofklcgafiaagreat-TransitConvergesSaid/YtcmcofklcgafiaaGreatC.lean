/- Part C of the proof: see the last part. -/
import Derived.Test.YtcmcofklcgafiaaGreatA3
import Derived.Test.YtcmcofklcgafiaaGreatV2
import Derived.Test.YtcmcofklcgafiaaGreatV
open Go renaming IntKind→aA,TypeId→ah
open List renaming append_assoc→cn,append_nil→d9,drop_eq_getElem_cons→dG,drop_eq_nil_of_le→fc,ext_getElem?→d8,filterMap_append→iG,getElem_mem→aN,length_cons→cr,length_filterMap_le→iH,length_filter_le→eD,length_range→fR,map_append→bM,map_congr_left→cK,map_cons→cL,mem_map→aG,mem_range→dr,mem_singleton→bN,sum_cons→ff,take_add_one→bO
open Nat renaming blt_eq→bZ
set_option linter.unusedVariables false
namespace Go.AM
open Go List Nat
abbrev Lnk:=Nat×Nat×Nat
def Ed(G:List Lnk)(U:List Bool)(i n m c:Nat):Prop:=U[i]?=some true/\(G[i]?=some (n,m,c)∨G[i]?=some (m,n,c))
theorem Ed.sym{G:List Lnk}{U:List Bool}{i n m c:Nat}(h:Ed G U i n m c):Ed G U i m n c:=⟨h.1,h.2.symm⟩
structure GOk(N:Nat)(G:List Lnk)(U:List Bool):Prop where
 len:U.length=G.length
 ok:∀x∈G,x.1<N/\x.2.1<N/\x.1≠x.2.1/\1<=x.2.2/\x.2.2<=65535
variable{N:Nat}{G:List Lnk}{U:List Bool}{from_:Nat}{d d':Nat→Int}
theorem GOk.ed(z:GOk N G U){i n m c:Nat}(h:Ed G U i n m c):n<N/\m<N/\n≠m/\1<=c/\c<=65535:=by rcases h.2 with e|e;have:=z.ok _ (mG e);grind;have:=z.ok _ (mG e);grind
structure IsDist(N:Nat)(G:List Lnk)(U:List Bool)(from_:Nat)(d:Nat->Int):Prop where
 fr:d from_=0
 lo:∀n,n<N->-1<=d n
 sup:∀n,n<N->0<=d n->n≠from_->∃i m c,Ed G U i n m c/\0<=d m/\d n=d m+c
 clo:∀i n m c,Ed G U i n m c->0<=d m->0<=d n/\d n<=d m+c
theorem F5(z:GOk N G U)(h:IsDist N G U from_ d)(h':IsDist N G U from_ d'):∀(k:Nat) (n:Nat),n<N->d' n=k->0<=d n/\d n<=k:=by
 intro k
 induction k using Nat.strongRecOn with
 | _ k ih=>
   intro n hn hk
   by_cases e:n=from_
   grind [IsDist.fr]
   have ⟨i,m,c,h1,h2,h3⟩:=h'.sup n hn oM e;have ⟨_,hm,_,hc,_⟩:=z.ed h1;have ⟨g1,g2⟩:=ih (d' m).toNat oM m hm oM;have ⟨g3,g4⟩:=h.clo i n m c h1 g1;omega
theorem RV(z:GOk N G U)(h:IsDist N G U from_ d)(h':IsDist N G U from_ d'){n:Nat}(hn:n<N):d n=d' n:=by
 have a:=h.lo n hn;have b:=h'.lo n hn
 by_cases e:0<=d' n
 have ⟨g1,g2⟩:=F5 z h h' (d' n).toNat n hn oM;have ⟨g3,g4⟩:=F5 z h' h (d n).toNat n hn oM;omega
 by_cases e2:0<=d n
 have ⟨g3,g4⟩:=F5 z h' h (d n).toNat n hn oM;omega;omega
abbrev It:=Nat×Nat
structure DInv(N:Nat)(G:List Lnk)(U:List Bool)(from_:Nat)(d:Nat->Int)(q:List It):Prop where
 lo:∀n,n<N->-1<=d n
 fr:d from_=0∨(∀n,n<N->d n=-1)/\(from_,0)∈q
 sup:∀n,n<N->0<=d n->n≠from_->∃i m c,Ed G U i n m c/\0<=d m/\d n=d m+c
 qn:∀x∈q,x.1<N/\(x=(from_,0)∨∃i m c,Ed G U i x.1 m c/\0<=d m/\(x.2:Int)=d m+c)
 mon:∀x∈q,∀n,n<N->d n<=x.2
 clo:∀i n m c,Ed G U i n m c->0<=d m->(0<=d n/\d n<=d m+c)∨∃k:Nat,(n,k)∈q/\(k:Int)=d m+c
theorem DInv.end_(h:DInv N G U from_ d []):IsDist N G U from_ d:=by
 refine⟨?_,h.lo,h.sup,λi n m c e hm=>?_⟩
 ·rcases h.fr with e|⟨_,e⟩
  exact e
  ·cases e
 ·rcases h.clo i n m c e hm with q|⟨k,q,_⟩
  exact q
  ·cases q
theorem DInv.skip{q q':List It}{x:It}(h:DInv N G U from_ d q)(hx:0<=d x.1)(hq:∀y,y∈q↔y=x∨y∈q'):DInv N G U from_ d q':=by
 have xN:=(h.qn x ((hq x).2 (.inl rfl))).1;refine⟨h.lo,?_,h.sup,λy hy=>h.qn y ((hq y).2 (.inr hy)),λy hy=>h.mon y ((hq y).2 (.inr hy)),λi n m c e hm=>?_⟩;rcases h.fr with e|⟨e1,_⟩;exact .inl e
 grind
 rcases h.clo i n m c e hm with k|⟨k,k1,k2⟩;exact .inl k;rcases(hq _).1 k1 with e2|e2;refine .inl ?_;have:=h.mon x ((hq x).2 (.inl rfl)) n gR
 grind
 grind
def updI(d:Nat->Int)(n:Nat)(v:Int):Nat->Int:=λk=>if k=n then v else d k
theorem gp{n:Nat}{v:Int}:updI d n v n=v:=ak rfl
theorem gw{n k:Nat}{v:Int}(h:k≠n):updI d n v k=d k:=aj h
theorem DInv.take(z:GOk N G U){q q':List It}{x:It}(h:DInv N G U from_ d q)(hx:d x.1<0)(hin:x∈q)(hq:∀y,y∈q->y=x∨y∈q')(hmin:∀y∈q,x.2<=y.2)
  (hnew:∀i m c,Ed G U i x.1 m c->d m<0->(m,x.2+c)∈q') (hold:∀y∈q',y∈q∨∃i m c,Ed G U i x.1 m c/\y=(m,x.2+c)):DInv N G U from_ (updI d x.1 x.2) q':=by
 have ⟨xN,hqn⟩:=h.qn x hin;have hmx:=h.mon x hin;have keep:∀n,0<=d n->updI d x.1 x.2 n=d n:=(by grind [gw])
 have hcase:∀n,updI d x.1 x.2 n=d n∨n=x.1/\updI d x.1 x.2 n=x.2:=λn=>by
  by_cases e:n=x.1
  grind [gp]
  exact .inl (gw e)
 refine⟨λn hn=>?_,?_,λn hn h0 hne=>?_,λy hy=>?_,λy hy n hn=>?_,λi n m c e hm=>?_⟩;have:=h.lo n hn
 grind
 refine .inl ?_;rcases h.fr with e|⟨e1,e2⟩
 grind
 have:=hmin _ e2;have:x.2=0:=by simpa using this
 rcases hqn with e3|⟨i,m,c,e3,e4,e5⟩;rw[e3,gp];rfl;have:=e1 m (z.ed e3).2.1;omega;rcases hcase n with e|⟨e1,e⟩
 grind [sup]
 grind
 rcases hold y hy with g|⟨i,m,c,g1,rfl⟩;have ⟨k1,k2⟩:=h.qn y g
 grind
 refine⟨(z.ed g1).2.1,.inr ⟨i,x.1,c,g1.sym,?_⟩⟩;rw[gp]
 grind
 grind
 rcases hcase m with em|⟨em1,em⟩;rw[em]at hm ⊢;rcases h.clo i n m c e hm with k|⟨k,k1,k2⟩
 grind
 grind [gp]
 rw[em]at hm ⊢;subst em1
 by_cases e0:d n<0
 grind [Ed.sym]
 left;have:=hmx n (z.ed e).1;rw[keep n oM];omega
theorem F6{α:Type}{f g:α->Nat}:∀{l:List α},(∀x∈l,f x<=g x)->(l.map f).sum<=(l.map g).sum:=by
 intro l
 induction l with
 |nil=>grind
 | cons a l ih=>
   grind
theorem F7{α:Type}{f g:α->Nat}{y:α}:∀{l:List α},(∀x∈l,f x<=g x)->y∈l->f y+1<=g y->(l.map f).sum+1<=(l.map g).sum:=by
 intro l
 induction l with
 |nil=>intro _ h;cases h
 | cons a l ih=>
   intro h hy h1;simp only[cL,ff];rcases mCY hy with e|e;have:=F6 (l:=l) λx hx=>h x (by simp[hx]);rw[e]at h1;omega
   grind
theorem tH{α:Type}{p q:α->Bool}:∀{l:List α},(∀x∈l,p x=true->q x=true)->l.countP p<=l.countP q:=by
 intro l
 induction l with
 |nil=>grind
 | cons a l ih=>
   grind
theorem tI{α:Type}{p q:α->Bool}{y:α}:∀{l:List α},(∀x∈l,p x=true->q x=true)->y∈l->p y=false->q y=true->l.countP p+1<=l.countP q:=by
 intro l
 induction l with
 |nil=>intro _ h;cases h
 | cons a l ih=>
   intro h hy h1 h2;rw[countP_cons,countP_cons];rcases mCY hy with e|e
   simp_all [tH]
   grind
def cntD(N:Nat)(d:Nat->Int):Nat:=(List.range N).countP λn=>decide (0<=d n)
def muD(N:Nat)(d:Nat->Int):Nat:=((List.range N).map λn=>if d n<0 then 3000000 else(d n).toNat).sum
structure RInv(N:Nat)(G:List Lnk)(U:List Bool)(from_:Nat)(d:Nat->Int):Prop where
 lo:∀n,n<N->-1<=d n
 fr:d from_=0
 sup:∀n,n<N->0<=d n->n≠from_->∃i m c,Ed G U i n m c/\0<=d m/\d m+c<=d n
 bd:∀n,n<N->d n<=cntD N d*65535
theorem tJ{N:Nat}{d:Nat->Int}:cntD N d<=N:=by have:=countP_le_length (p:=λn=>decide (0<=d n)) (l:=List.range N);rw[fR]at this;exact this
theorem RInv.relax(z:GOk N G U)(hN:N<=40)(h:RInv N G U from_ d){i a b c:Nat}(e:Ed G U i a b c)(ha:0<=d a)(hb:d b<0∨d a+c<d b):RInv N G U from_ (updI d b (d a+c))/\muD N (updI d b (d a+c))+1<=muD N d:=by
 have ⟨k1,k2,k3,k4,k5⟩:=z.ed e;have hbf:b≠from_:=(by grind [fr])
 have hba:=h.bd a k1;have hcN:=tJ (N:=N) (d:=d);have hB:(cntD N d:Int)*65535<=40*65535:=oM;have hcnt:cntD N d<=cntD N (updI d b (d a+c)):=tH (by grind [gp,gw]);refine⟨⟨λn hn=>?_,by rw[gw (Ne.symm hbf)];exact h.fr,λn hn h0 hne=>?_,λn hn=>?_⟩,?_⟩
 by_cases q:n=b
 rw[q,gp];omega;rw[gw q];exact h.lo n hn
 by_cases q:n=b
 rw[q,gp];exact⟨i,a,c,e.sym,by rw[gw k3];exact ha,by rw[gw k3];omega⟩;rw[gw q]at h0 ⊢;have ⟨j,m,c',g1,g2,g3⟩:=h.sup n hn h0 hne
 by_cases q2:m=b
 refine⟨j,m,c',g1,?_,?_⟩;rw[q2,gp];omega;rw[q2,gp];rw[q2]at g2 g3;omega;exact⟨j,m,c',g1,by rw[gw q2];exact g2,by rw[gw q2];exact g3⟩
 by_cases q:n=b
 rw[q,gp];rcases hb with hb|hb;have:cntD N d+1<=cntD N (updI d b (d a+c)):=tI (y:=b) ((by grind [gw])) (dr.2 k2) (aC oM) (aH (by rw[gp];omega));omega;have:=h.bd b k2;omega;rw[gw q];have:=h.bd n hn;omega;unfold muD;refine F7 (y:=b) (λn hn=>?_) (dr.2 k2) ?_
 grind [gp,gw]
 grind [gp]
theorem RInv.end_(h:RInv N G U from_ d)(clo:∀i a b c,Ed G U i a b c->0<=d a->0<=d b/\d b<=d a+c):IsDist N G U from_ d:=by
 refine⟨h.fr,h.lo,λn hn h0 hne=>?_,(by grind [Ed.sym])⟩;have ⟨i,m,c,g1,g2,g3⟩:=h.sup n hn h0 hne;have:=clo i m n c g1.sym g2
 grind
theorem RInv.start{from_ N:Nat}(hf:from_<N):RInv N G U from_ (λn=>if n=from_ then 0 else -1):=by
 refine⟨λn _=>by split<;>omega,ak rfl,λn _ h0 hne=>?_,λn _=>?_⟩
 grind
 grind
def oth(x:Lnk)(n:Nat):Option Nat:=if x.1=n then some x.2.1 else if x.2.1=n then some x.1 else none
def edL(G:List Lnk)(U:List Bool)(n:Nat):List (Nat×Nat×Nat):=(List.range G.length).filterMap λi=>if U.getD i false then(match G[i]? with|some x=>(oth x n).map λm=>(i,m,x.2.2)|none=>none)else none
theorem nL{i n m c:Nat}(z:GOk N G U):(i,m,c)∈edL G U n↔Ed G U i n m c:=by
 unfold edL Ed;rw[mem_filterMap];constructor
 grind [oth]
 rintro ⟨hu,he⟩;have hlt:i<G.length:=gR;have hne:n≠m:=(z.ed ⟨hu,he⟩).2.2.1;refine⟨i,dr.2 hlt,?_⟩;rw[getD_eq_getElem?_getD,hu];simp only[Option.getD_some,if_true];rcases he with e|e;rw[e];show((if n=n then some m else if m=n then some n else none).map λm'=>(i,m',c))=some (i,m,c);rw[ak rfl];rfl;rw[e];show((if m=n then some n else if n=n then some m else none).map λm'=>(i,m',c))=some (i,m,c);rw[aj (Ne.symm hne),ak rfl];rfl
def fS(G:List Lnk)(U:List Bool)(d:Nat->Int)(n:Nat):List (Nat×Nat×Nat):=(edL G U n).filter λe=>decide (d n=d e.2.1+e.2.2)
def parL(G:List Lnk)(U:List Bool)(d:Nat->Int)(n:Nat):Int:=match fS G U d n with
 |[]=>-1
 |e::_=>e.1
def key(x:It):Int:=(x.2:Int)
def at0(q:List It)(j:Nat):It:=q.getD j (0,0)
def ky(q:List It)(j:Nat):Int:=key (at0 q j)
def swp(q:List It)(i j:Nat):List It:=(q.set i (at0 q j)).set j (at0 q i)
theorem iI(q:List It)(i j:Nat):(swp q i j).length=q.length:=by simp[swp]
theorem fL{q:List It}{j:Nat}(h:j<q.length):at0 q j=q[j]:=by simp[at0,h]
theorem lq{q:List It}{i j:Nat}{x:It}(hi:i<q.length):at0 (q.set i x) j=if j=i then x else at0 q j:=by
 grind [at0]
theorem zQ{q:List It}{i j m:Nat}(hi:i<q.length)(hj:j<q.length):at0 (swp q i j) m=if m=j then at0 q i else if m=i then at0 q j else at0 q m:=by
 grind [swp,lq]
theorem gU{q:List It}{i j m:Nat}(hi:i<q.length)(hj:j<q.length):ky (swp q i j) m=if m=j then ky q i else if m=i then ky q j else ky q m:=by
 grind [ky,zQ]
theorem nM{q:List It}{i j:Nat}(hi:i<q.length)(hj:j<q.length):(swp q i j).Perm q:=by
 grind [swp,at0]
def Hp(q:List It)(k:Nat):Prop:=∀j,0<j->j<q.length->k<=(j-1) / 2->ky q ((j-1) / 2)<=ky q j
structure Dn(q:List It)(i0 i:Nat):Prop where
 ok:∀j,0<j->j<q.length->i0<=(j-1) / 2->(j-1) / 2≠i->ky q ((j-1) / 2)<=ky q j
 gr:i≠i0->∀j,0<j->j<q.length->(j-1) / 2=i->ky q ((i-1) / 2)<=ky q j
 le:i0<=i
 pr:i≠i0->i0<=(i-1) / 2
theorem Hp.dn{q:List It}{i0:Nat}(h:Hp q (i0+1)):Dn q i0 i0:=⟨λj h0 h1 h2 h3=>h j h0 h1 oM,λe=>absurd rfl e,Nat.le_refl _,λe=>absurd rfl e⟩
theorem Dn.done{q:List It}{i0 i:Nat}(h:Dn q i0 i)(hc:∀j,0<j->j<q.length->(j-1) / 2=i->ky q i<=ky q j):Hp q i0:=λj h0 h1 h2=>by
 by_cases e:(j-1) / 2=i
 grind
 exact h.ok j h0 h1 h2 e
theorem Dn.swap{q:List It}{i0 i j:Nat}(h:Dn q i0 i)(hj:j<q.length)(hc:j=2*i+1∨j=2*i+2)(hlt:ky q j<ky q i)(hmin:∀m,0<m->m<q.length->(m-1) / 2=i->ky q j<=ky q m):Dn (swp q i j) i0 j:=by
 have hi:i<q.length:=oM;have hle:=h.le;refine⟨λm h0 h1 h2 h3=>?_,λ_ m h0 h1 h2=>?_,oM,λ_=>oM⟩;rw[iI]at h1;rw[gU hi hj,gU hi hj]
 by_cases e1:m=j
 grind
 rw[aj h3,aj e1]
 by_cases e2:(m-1) / 2=i
 grind
 rw[aj e2]
 by_cases e3:m=i
 rw[ak e3];have hne:i≠i0:=oM;subst e3;exact h.gr hne j oM hj oM;rw[aj e3];exact h.ok m h0 h1 h2 e2;rw[iI]at h1;rw[gU hi hj,gU hi hj];rw[aj (show(j-1) / 2≠j by omega),ak (show(j-1) / 2=i by omega),aj (show m≠j by omega),aj (show m≠i by omega)];have:=h.ok m h0 h1 oM oM
 grind
structure Up(q:List It)(j:Nat):Prop where
 ok:∀m,0<m->m<q.length->m≠j->ky q ((m-1) / 2)<=ky q m
 gr:0<j->∀m,0<m->m<q.length->(m-1) / 2=j->ky q ((j-1) / 2)<=ky q m
theorem Up.done{q:List It}{j:Nat}(h:Up q j)(hc:0<j->ky q ((j-1) / 2)<=ky q j):Hp q 0:=λm h0 h1 _=>by
 by_cases e:m=j
 subst e;exact hc h0;exact h.ok m h0 h1 e
theorem Up.swap{q:List It}{j:Nat}(h:Up q j)(hj:j<q.length)(h0:0<j)(hlt:ky q j<ky q ((j-1) / 2)):Up (swp q ((j-1) / 2) j) ((j-1) / 2):=by
 have hi:(j-1) / 2<q.length:=oM;refine⟨λm m0 m1 m2=>?_,λi0 m m0 m1 m2=>?_⟩;rw[iI]at m1;rw[gU hi hj,gU hi hj]
 by_cases e1:m=j
 grind
 rw[aj e1,aj m2]
 by_cases e2:(m-1) / 2=j
 simp_all [gr]
 rw[aj e2]
 by_cases e3:(m-1) / 2=(j-1) / 2
 rw[ak e3];have:=h.ok m m0 m1 e1
 grind
 rw[aj e3];exact h.ok m m0 m1 e1;rw[iI]at m1;rw[gU hi hj,gU hi hj];rw[aj (show((j-1) / 2-1) / 2≠j by omega),aj (show((j-1) / 2-1) / 2≠(j-1) / 2 by omega)];have hp:=h.ok ((j-1) / 2) i0 hi oM
 by_cases e1:m=j
 rw[ak e1];exact hp;rw[aj e1,aj (show m≠(j-1) / 2 by omega)];have:=h.ok m m0 m1 e1
 grind
theorem Hp.root{q:List It}(h:Hp q 0):∀j,j<q.length->ky q 0<=ky q j
 | 0,_=>Int.le_refl _
 | j+1,hj=>by
   have h1:=h (j+1) oM hj oM;have h2:=Hp.root h ((j+1-1) / 2) oM;omega
theorem Hp.leaf{q:List It}{k:Nat}(h:q.length<=2*k+1):Hp q k:=λj h0 h1 h2=>oM
open Go.Proofs
set_option maxRecDepth 100000
variable{K:AV→Hq→Prop}{s s':Hq}
def shR(x:It):List AV:=[x.1,x.2]
abbrev dA(q:List It):List AV:=(q.map shR).flatten
theorem pz(q:List It):∀r∈q.map shR,r.length=2:=λr hr=>by obtain⟨x,_,rfl⟩:=aG.1 hr;rfl
theorem ku(q:List It):(dA q).length=q.length*2:=by rw[ki (pz q),lMY]
theorem tK{x:It}:∀{q:List It}{i:Nat},i<q.length->dB (dA q) (i*2) (shR x)=dA (q.set i x)
 |[],_,h=>by simp at h
 |y::q,0,_=>rfl
 | y::q,i+1,h=>by
   have ih:=tK (x:=x) (q:=q) (i:=i) (by simpa using h);have e3:(i+1)*2=i*2+2:=oM
   simp_all [dB,dA,shR]
structure QAt(s:Hq)(o sb:Nat)(cap:Option Nat)(q:List It):Prop where
 ob:Hc s o 267 [.slc sb 0 q.length cap 2]
 dt:∃tl,Hc s sb 265 (dA q++tl)/\∀c,cap=some c->q.length<=c/\c*2=q.length*2+tl.length
 ln:q.length<=1000000
variable{o sb:Nat}{cap:Option Nat}{q:List It}
theorem QAt.ne(h:QAt s o sb cap q):o≠sb:=by rintro rfl;have ⟨tl,e,_⟩:=h.dt;rw[h.ob]at e;cases e
theorem QAt.keep{fp:Nat->Prop}(h:QAt s o sb cap q)(k:aV fp s s')(h1:¬fp o)(h2:¬fp sb):QAt s' o sb cap q:=by have ⟨tl,e,hc⟩:=h.dt;exact⟨k _ _ h.ob h1,⟨tl,k _ _ e h2,hc⟩,h.ln⟩
theorem QAt.sub(h:QAt s o sb cap q)(k:Sub s s'):QAt s' o sb cap q:=h.keep (fp:=λ_=>False) k.keep (λh=>h) λh=>h
theorem gJ{n i:Nat}(hi:i<n):cF 2 (.slc sb 0 n cap 2) i=some (.ptr sb (i*2)):=by
 have:blt i n=true:=by rw[bZ];exact hi
 simp[cF,this]
theorem QAt.sl(h:QAt s o sb cap q):SlR 2 s (.slc sb 0 q.length cap 2) (q.map shR):=by
 have ⟨tl,e,hc⟩:=h.dt;refine⟨pz q,.inr ⟨sb,0,cap,sI,gR,λ_=>⟨_,_,_,e,?_,?_⟩⟩⟩
 grind [ku]
 grind [ku]
theorem QAt.row(h:QAt s o sb cap q){i:Nat}(hi:i<q.length):rdN s 2 (.ptr sb (i*2))=some (shR (at0 q i))/\rd1 s (.ptr sb (i*2))=some (Ii ((at0 q i).1))/\rd1 s (.ptr sb (i*2+1))=some (Ii ((at0 q i).2)):=by have ⟨b,p,h1,h2,h3⟩:=h.sl.get (i:=i) (r:=shR (at0 q i)) (by simp[fL hi,hi]);rw[gJ hi]at h1;cases h1;exact⟨h2,h3 0 oM,h3 1 oM⟩
abbrev qv(o:Nat):AV:=.ifc 263 (Pp o)
theorem F8{R:AV->Prop}:gP TP 267 (Pp o) R s=oK (rd1 s (Pp o)) R:=kR
theorem valM{name:String}{f:FuncId}{args:List AV}(hm:mL TP 263 name=some (f,some 267))(hf:isFn TP f=true)(h:QAt s o sb cap q)(hK:wC TP f (.slc sb 0 q.length cap 2::args) K s):eg TP (qv o) name args K s:=by refine CY hm hf ?_;rw[F8,au h.ob];exact hK
theorem pA(h:QAt s o sb cap q)(hK:K q.length s):eg TP (qv o) "Len" [] K s:=by
 refine valM kR kR h (P9 ?_)
 grind [EA,ge,cP]
theorem tM{i j:Nat}(h:QAt s o sb cap q)(hi:i<q.length)(hj:j<q.length)(hK:K (decide (ky q i<ky q j)) s):eg TP (qv o) "Less" [i,j] K s:=by refine valM kR kR h (X6 ?_);simp only[Qe,gJ hi,gJ hj,aK,(h.row hi).2.2,(h.row hj).2.2,bu,ae];exact hK
theorem tN{i j:Nat}(h:QAt s o sb cap q)(hi:i<q.length)(hj:j<q.length)(hK:∀s',QAt s' o sb cap (swp q i j)->aV (λb=>b=sb) s s'->K (.tup []) s'):eg TP (qv o) "Swap" [i,j] K s:=by
 refine valM kR kR h (Ya ?_);have ri:=(h.row hi).1;have rj:=(h.row hj).1;have ⟨tl,hd,hc⟩:=h.dt;have wr:∀{s:Hq}{q:List It}{i:Nat}{x:It}{R:Hq->Prop},Hc s sb 265 (dA q++tl)->i<q.length->(∀s',Hc s' sb 265 (dA (q.set i x)++tl)->Upto sb s s'->R s')->oK (dP s 2 (.ptr sb (i*2)) (.agg (shR x))) R:=by
  intro s q i x R hs hi hR;have e0:i*2+2<=(dA q).length:=by rw[ku];omega
  have e1:ble (i*2+(shR x).length) (dA q++tl).length=true:=bL (by rw[lAp];show i*2+2<=_;omega);have e3:dB (dA q++tl) (i*2) (shR x)=dA (q.set i x)++tl:=by rw[<- tK hi];unfold dB;rw[take_append_of_le_length oM,drop_append_of_le_length (by show i*2+2<=_;omega),cn,cn,cn]
  have e2:dP s 2 (.ptr sb (i*2)) (.agg (shR x))=some (hset s sb (false,.cells 265 (dA (q.set i x)++tl))):=by rw[<- e3];simp only[dP,jZ,show beq (shR x).length 2=true from rfl,aD,wrN,hs,e1,show aX (shR x)=true from rfl,Bool.and_self]
  exact aE e2 (hR _ fe λ_ hi=>eL hi)
 simp only[Qh,gJ hi,gJ hj,ri,rj,ae];refine wr hd hi λs1 h1 u1=>wr h1 (by simpa using hj) λs2 h2 u2=>?_;refine hK _ ⟨?_,⟨tl,h2,(by grind [iI])⟩,by rw[iI];exact h.ln⟩ ((u1.keep (fp:=λb=>b=sb) rfl).trans (u2.keep (fp:=λb=>b=sb) rfl));rw[u2 o h.ne,u1 o h.ne,iI];exact h.ob
variable{r:List It}
theorem tO{j:Nat}(h:j<q.length):at0 (q++r) j=at0 q j:=by
 grind [fL]
theorem zR{j:Nat}(h:j<q.length):ky (q++r) j=ky q j:=by unfold ky;rw[tO h]
theorem F9{i j:Nat}(hi:i<q.length)(hj:j<q.length):swp (q++r) i j=swp q i j++r:=by
 grind [swp,tO]
theorem nO{i j:Nat}(h:QAt s o sb cap (q++r))(hi:i<q.length)(hj:j<q.length)(hK:∀s',Sub s s'->K (decide (ky q i<ky q j)) s'):eg TP (qv o) "Less" [i,j] K s:=by
 grind [tM,zR,Sub.refl]
theorem tP{i j:Nat}(h:QAt s o sb cap (q++r))(hi:i<q.length)(hj:j<q.length)(hK:∀s',QAt s' o sb cap (swp q i j++r)->aV (λb=>b=sb) s s'->K (.tup []) s'):eg TP (qv o) "Swap" [i,j] K s:=by
 grind [tN,F9]
theorem QAt.ln2(h:QAt s o sb cap (q++r)):q.length<=1000000:=by have:=h.ln;grind
theorem tQ{i0:Nat}(h:QAt s o sb cap (q++r))(hd:Hp q (i0+1))(h0:i0<q.length)(hK:∀s' q' b,QAt s' o sb cap (q'++r)->q'.Perm q->Hp q' i0->aV (λb=>b=sb) s s'->(b=false->q'=q)->((∀j,0<j->j<q.length->(j-1) / 2=i0->ky q i0<=ky q j)->b=false)->K b s'):wC TP 163 [qv o,i0,q.length] K s:=by
 refine EC ?_;refine⟨λys s1 n=>∃(i:Nat) (q1:List It),ys=[Ii i]/\n=q.length-i/\i<q.length/\QAt s1 o sb cap (q1++r)/\q1.Perm q/\Dn q1 i0 i/\aV (λb=>b=sb) s s1/\(i=i0->q1=q)/\((∀j,0<j->j<q.length->(j-1) / 2=i0->ky q i0<=ky q j)->i=i0),(by grind [Hp.dn,aV.refl]),?_⟩;rintro f s1 n ⟨i,q1,hy,rfl,hi,z,hp,dn,kp,same,stay⟩;simp only[cI,aq]at hy;rw[hy];have hlen:=hp.length_eq;have hl:=h.ln2;have m1:aA.i64.wrap (2*(i:Int))=((2*i:Nat):Int):=by grind [aT]
 have m2:aA.i64.wrap (((2*i:Nat):Int)+1)=((2*i+1:Nat):Int):=by grind [aT]
 have m3:aA.i64.wrap (((2*i+1:Nat):Int)+1)=((2*i+2:Nat):Int):=by grind [aT]
 simp only[yx,oX,ae,m1,bg,m2,dQ,bu];have fin:∀s2,Sub s1 s2->(∀j,0<j->j<q1.length->(j-1) / 2=i->ky q1 i<=ky q1 j)->nI i0 i K s2:=by
  intro s2 hs hc;simp only[nI,dy,ae];refine hK s2 q1 _ (z.sub hs) hp (dn.done hc) (kp.trans hs.keep) (λhb=>same ?_) λhst=>?_;have:=oF hb;have:=dn.le;omega
  grind
 by_cases hc:q.length<=2*i+1
 grind [bD,nJ,cy,cP,Sub.refl]
 ·have e1:decide ((q.length:Int)<=((2*i+1:Nat):Int))=false:=gR
  have e2:decide (((2*i+1:Nat):Int)<0)=false:=gR;rw[e1,e2];simp only[aR,nJ,ct,ae,bg,m3,bu];have go:∀(s2:Hq) (j:Nat),Sub s1 s2->j<q1.length->(j=2*i+1∨j=2*i+2)->(∀m,0<m->m<q1.length->(m-1) / 2=i->ky q1 j<=ky q1 m)->
    pf (qv o) i0 i j (λys s1 n=>∃(i:Nat) (q1:List It),ys=[Ii i]/\n=q.length-i/\i<q.length/\QAt s1 o sb cap (q1++r)/\q1.Perm q/\Dn q1 i0 i/\aV (λb=>b=sb) s s1/\(i=i0->q1=q)/\((∀j,0<j->j<q.length->(j-1) / 2=i0->ky q i0<=ky q j)->i=i0)) (q.length-i) K s2:=by
   intro s2 j hs hj hc2 hmin;unfold pf aS;refine nO (z.sub hs) hj oM λs3 hs3=>?_;simp only[cQ,ae];refine aL (λhb=>?_) (λhb=>?_);have hb:¬ky q1 j<ky q1 i:=by simpa using hb
   exact fin s3 (hs.trans hs3) gR
   ·have hb:ky q1 j<ky q1 i:=by simpa using hb
    refine tP (z.sub (hs.trans hs3)) oM hj λs4 z4 k4=>?_;refine⟨_,?_,j,_,rfl,rfl,oM,z4,(nM oM hj).trans hp,dn.swap hj hc2 hb hmin,(kp.trans (hs.trans hs3).keep).trans k4,λe=>?_,λhst=>?_⟩;omega;have:=dn.le;omega;have e1:=stay hst
    grind
  refine aL (λhb=>?_) (λhb=>?_);have hb2:2*i+2<q.length:=gR;rw[hb];refine nO z oM oM λs2 hs2=>?_;simp only[ph,cy,ae];refine aL (λhl2=>?_) (λhl2=>?_);have hl2:=oT hl2;exact go s2 (2*i+2) hs2 oM (.inr rfl) λm a b c=>by
   have:m=2*i+1∨m=2*i+2:=oM
   grind
  have hl2:=oF hl2;exact go s2 (2*i+1) hs2 oM (.inl rfl) λm a b c=>by
   have:m=2*i+1∨m=2*i+2:=oM
   grind
  have hb2:¬ 2*i+2<q.length:=by have:=oF hb;omega
  rw[hb];simp only[ph,ct,ae,aR];exact go s1 (2*i+1) (.refl s1) oM (.inl rfl) gR
theorem mh{j0:Nat}(h:QAt s o sb cap (q++r))(hu:Up q j0)(h0:j0<q.length)(hK:∀s' q',QAt s' o sb cap (q'++r)->q'.Perm q->Hp q' 0->aV (λb=>b=sb) s s'->K (.tup []) s'):wC TP 164 [qv o,j0] K s:=by
 refine Qa ?_;refine⟨λys s1 n=>∃(j:Nat) (q1:List It),ys=[Ii j]/\n=j/\j<q.length/\QAt s1 o sb cap (q1++r)/\q1.Perm q/\Up q1 j/\aV (λb=>b=sb) s s1,(by grind [aV.refl]),?_⟩;rintro f s1 n ⟨j,q1,hy,rfl,hj,z,hp,up,kp⟩;simp only[cI,aq]at hy;rw[hy];have hlen:=hp.length_eq;have hl:=h.ln2;simp only[ED,eC,ae];rw[aT];simp only[xi (show(2:Int)≠0 by omega),ae];have e1:((n:Int)-1).tdiv 2=(((n-1) / 2:Nat):Int):=by
  grind
 rw[e1,aT];simp only[cj,bJ,Bool.false_bne,ae];cases n with
 | zero=>
   grind [bD,pi,cy,cP,Up.done]
 | succ m=>
   have e2:((((m+1-1) / 2:Nat):Int) == ((m+1:Nat):Int))=false:=by
    grind
   rw[e2];simp only[aR];refine nO z oM oM λs2 hs2=>?_;simp only[cQ,ae,pi,ct,aS];refine aL (λhb=>?_) (λhb=>?_)
   grind [QAt.sub,Up.done,aV.trans,Sub.keep]
   ·have hb:ky q1 (m+1)<ky q1 ((m+1-1) / 2):=by simpa using hb
    refine tP (z.sub hs2) oM oM λs3 z3 k3=>?_;exact⟨_,oM,_,_,rfl,rfl,oM,z3,(by grind [nM]),up.swap oM oM hb,(kp.trans hs2.keep).trans k3⟩
theorem dp{s s' s'':Hq}{b:Nat}(h:Sub s s')(u:Upto b s' s'')(hb:s b=none):Sub s s'':=λi e hi=>by rw[u i (dZ hb hi)];exact h i e hi
theorem Ga(a b:List It):dA (a++b)=dA a++dA b:=by simp[dA]
theorem Gb{x:It}(hK:∀b,K (.bool b) s):wC TP 163 [qv o,Ii 0,Ii 0] K s:=by
 refine EC ?_;refine⟨λys s1 n=>ys=[Ii 0]/\s1=s,⟨0,rfl,rfl⟩,?_⟩;rintro f s1 n ⟨hy,rfl⟩;simp only[cI,aq]at hy;rw[hy];simp only[yx,oX,ae,bg,dQ]
 simp_all [aT,nJ,nI,ae]
theorem Gc{x:It}(h:QAt s o sb cap (q ++ [x]))(hK:∀s',QAt s' o sb cap q->aV (λb=>b=o) s s'->K (.ifc 265 (.agg (shR x))) s'):eg TP (qv o) "Pop" [] K s:=by
 refine xm (f:=284) kR kR (X7 ?_);have hln:=h.ln;have hlen:(q ++ [x]).length=q.length+1:=sI;have row:=(h.row (i:=q.length) (by rw[hlen];omega)).1;have hx:at0 (q ++ [x]) q.length=x:=by grind [fL]
 rw[hx]at row;have e1:aA.i64.wrap (((q ++ [x]).length:Int)-1)=(q.length:Int):=by grind [aT]
 have ad:=gJ (sb:=sb) (cap:=cap) (n:=(q ++ [x]).length) (i:=q.length) (by rw[hlen];omega);simp only[Qf,bQ,au h.ob,g0Y,ge,eC,e1,ad,row,ae];refine aI λb s1 hb h1 u1=>cD h1 rfl rfl rfl λs2 h2 u2=>?_;have sub2:=dp (u1.sub hb) u2 hb;have z2:=h.sub sub2;have ⟨tl,hd,hc⟩:=z2.dt;have sl:fI 2 (.slc sb 0 (q ++ [x]).length cap 2) none (some q.length) none=some (.slc sb 0 q.length cap 2):=by rcases cap with _|c;have e3:ble q.length (q.length+1)=true:=bL oM;simp[fI,bound,e3];have:=(hc c rfl).1;have e3:ble q.length c=true:=bL (by rw[hlen]at this;omega);simp[fI,bound,e3]
 simp only[au z2.ob,g0Y,sl,ae];have hbo:b≠o:=λe=>by rw[e,h.ob]at hb;cases hb
 refine cw z2.ob sI rfl λs3 h3 u3=>?_;have h23:=(u3 b hbo).trans h2;have rb:rdN s3 2 (Pp b)=some (shR x):=bX h23 rfl;simp only[rb,ae];have k3:=sub2.keep.trans (u3.keep (fp:=λb=>b=o) rfl);refine hK s3 ⟨h3,⟨shR x++tl,?_,λc e=>?_⟩,oM⟩ k3;rw[u3 sb (Ne.symm z2.ne),hd,Ga,cn];simp[dA];have:=hc c e;rw[lAp];show q.length<=c/\c*2=q.length*2+(2+tl.length);omega
theorem Gd(h:QAt s o sb cap q)(hh:Hp q 0)(hq:0<q.length)(hK:∀s' q' x,QAt s' o sb cap q'->Hp q' 0->q.Perm (x::q')->(∀y∈q,x.2<=y.2)->aV (λb=>b=o∨b=sb) s s'->K (.ifc 265 (.agg (shR x))) s'):wC TP 131 [qv o] K s:=by
 refine XV (pA h ?_);have ⟨n,hn⟩:∃n,q.length=n+1:=⟨q.length-1,oM⟩
 have hln:=h.ln;have e1:aA.i64.wrap ((q.length:Int)-1)=(n:Int):=by grind [aT]
 simp only[eC,e1,ae];have sw:=tN (i:=0) (j:=n) (K:=λv_3 s_4=>wC TP 163 [qv o,(Ii 0),n] (λv_5 s_6=>eg TP (qv o) "Pop" [] (λv_7 s_8=>K v_7 s_8) s_6) s_4) h oM oM λs1 z1 k1=>?_;exact sw;have hlast:(swp q 0 n).length=n+1:=by rw[iI,hn]
 have ⟨q1,x,e,hq1⟩:∃q1 x,swp q 0 n=q1 ++ [x]/\q1.length=n:=by
  refine⟨(swp q 0 n).take n,at0 (swp q 0 n) n,?_,gR⟩;rw[fL oM]
  conv=>lhs;rw[<- take_append_drop n (swp q 0 n)]
  congr 1
  rw[dG oM,fc oM]
 have perm:q.Perm (x::q1):=by
  grind [nM]
 have hx:x=at0 q 0:=by
  have h1:at0 (swp q 0 n) n=at0 q 0:=by grind [zQ]
  grind [fL]
 have hmin:∀y∈q,x.2<=y.2:=λy hy=>by
  obtain⟨j,hj,rfl⟩:=getElem_of_mem hy;have:=Hp.root hh j hj
  grind [ky,key,fL]
 have hp1:Hp q1 1:=λj h0 h1 h2=>by
  have hj:j<n:=oM;have e2:∀k,0<k->k<n->ky q1 k=ky q k:=λk k0 kn=>by
   have h3:ky (swp q 0 n) k=ky q k:=by grind [gU]
   grind [zR]
  rw[e2 j h0 hj,e2 ((j-1) / 2) oM oM];exact hh j h0 oM oM
 rw[e]at z1;have fin:∀s2 q2,QAt s2 o sb cap (q2 ++ [x])->q2.Perm q1->Hp q2 0->aV (λb=>b=sb) s1 s2->eg TP (qv o) "Pop" [] (λv_7 s_8=>K v_7 s_8) s2:=λs2 q2 z2 p2 h2 k2=>by refine Gc z2 λs3 z3 k3=>hK s3 q2 x z3 h2 (perm.trans (p2.symm.cons x)) hmin ?_;exact((k1.trans k2).mono λi hi=>.inr hi).trans (k3.mono λi hi=>.inl hi)
 cases n with
 | zero=>
   have:q1=[]:=eq_nil_of_length_eq_zero hq1;subst this;exact Gb (x:=x) λb=>fin s1 [] z1 (.refl _) (λj h0 h1=>by simp at h1) (.refl _ _)
 | succ m=>
   have hd:=tQ (i0:=0) (q:=q1) (r:=[x]) (K:=λv_5 s_6=>eg TP (qv o) "Pop" [] (λv_7 s_8=>K v_7 s_8) s_6) z1 hp1 oM gR
   grind
theorem Ge{x:It}(h:QAt s o sb cap q)(hh:Hp q 0)(hl:q.length<=10000)(hK:∀s' sb' cap' q',QAt s' o sb' cap' q'->Hp q' 0->q'.Perm (x::q)->aV (λb=>b=o∨b=sb) s s'->(sb'=sb∨s sb'=none)->K (.tup []) s'):wC TP 132 [qv o,.ifc 265 (.agg (shR x))] K s:=by
 refine XX ?_;refine xm (f:=285) kR kR (X9 ?_);have t1:jW 265 (some (.agg [(Ii 0),(Ii 0)])) true (.ifc 265 (.agg (shR x)))=some (.tup [.agg (shR x),true]):=rfl;have t2:bV (.tup [.agg (shR x),true]) 0=some (.agg (shR x)):=rfl;have t3:bV (.tup [.agg (shR x),true]) 1=some (.bool true):=rfl;simp only[Qg,t1,t2,t3,ae];refine aI λb s1 hb h1 u1=>cD h1 rfl rfl rfl λs2 h2 u2=>?_;have sub2:=dp (u1.sub hb) u2 hb;have z2:=h.sub sub2;have rb:rdN s2 2 (Pp b)=some (shR x):=bX h2 rfl;simp only[bD,bQ,au z2.ob,g0Y,rb,ae];refine aE (a:=shR x) rfl ⟨rfl,aI λb3 t hb3 h3 u3=>?_⟩;have sub3:=u3.sub hb3;have z3:=z2.sub sub3;have lit:SlR 2 t (.slc b3 0 1 (some 1) 2) ([x].map shR):=SlR.mk (pz [x]) (by simpa using h3) rfl sI;have subt:=sub2.trans sub3;have fin:∀s4 sb' cap',Hc s4 o 267 [.slc sb 0 q.length cap 2]->(∃tl,Hc s4 sb' 265 (dA (q ++ [x])++tl)/\∀c,cap'=some c->(q ++ [x]).length<=c/\c*2=(q ++ [x]).length*2+tl.length)->aV (λb=>b=o∨b=sb) s s4->(sb'=sb∨s sb'=none)->
   oK (wr1 s4 (Pp o) (.slc sb' 0 (q.length+1) cap' 2)) λs_15=>eg TP (qv o) "Len" [] (λv_2 s_3=>oK (cZ .sub v_2 (Ii 1)) λv_4=>wC TP 164 [qv o,v_4] (λv_5 s_6=>K (.tup []) s_6) s_3) s_15:=λs4 sb' cap' ho hd kp hfr=>by
  refine cw ho sI rfl λs5 h5 u5=>?_;have hne:sb'≠o:=by
   grind
  have ⟨tl,hd1,hd2⟩:=hd;have z5:QAt s5 o sb' cap' (q ++ [x]):=⟨by rw[h5];simp,⟨tl,by rw[u5 sb' hne];exact hd1,hd2⟩,gR⟩
  refine pA z5 ?_;have e1:aA.i64.wrap (((q ++ [x]).length:Int)-1)=(q.length:Int):=by grind [aT]
  simp only[eC,e1,ae];have hup:Up (q ++ [x]) q.length:=⟨λm m0 m1 m2=>by rw[lAp,length_singleton]at m1;rw[zR oM,zR oM];exact hh m m0 oM oM,gR⟩
  refine mh (q:=q ++ [x]) (r:=[]) (by rw[d9];exact z5) hup sI λs6 q6 z6 p6 h6 k6=>?_;rw[d9]at z6;refine hK s6 sb' cap' q6 z6 h6 (gR) ?_ hfr;intro i e hi hn;have h4:=kp i e hi hn;have h5':s5 i=some e:=by rw[u5 i λq=>hn (.inl q)];exact h4
  by_cases q2:i=sb'
  grind
  exact k6 i e h5' q2
 have ⟨tl,hd,hc⟩:=z3.dt;have hne:=z3.ne;have o3:=z3.ob;have flat1:dA (q ++ [x])=dA q++shR x:=gR;have old:rdSl t 2 (.slc sb 0 q.length cap 2)=some (dA q):=by
  grind [SlR.rd,QAt.sl]
 have fresh:∀t',(∀i e,i≠sb->t i=some e->t' i=some e)->(∀i,t' i=none->i=sb∨t i=none)->jX 265 2 (q.length+1) (dA q++shR x) (λv_12 s_13=>oK (wr1 s_13 (Pp o) v_12) λs_15=>eg TP (qv o) "Len" [] (λv_2 s_3=>oK (cZ .sub v_2 (Ii 1)) λv_4=>wC TP 164 [qv o,v_4] (λv_5 s_6=>K (.tup []) s_6) s_3) s_15) t':=λt' h1 h2=>by
  refine⟨oM,aI λc s4 hc4 h4 u4=>?_⟩;have hoc:o≠c:=λe=>gR;refine fin s4 c none ?_ ⟨[],gR,λc e=>by cases e⟩ (λi e hi hn=>?_) ?_;rw[u4 o hoc];exact h1 o _ hne o3;have h5:=h1 i e (λq=>hn (.inr q)) (subt i e hi);rw[u4 i (dZ hc4 h5)];exact h5
  ·rcases h2 c hc4 with e|e
   exact .inl e
   ·refine .inr ?_
    cases q:s c with
    |none=>rfl
    |some y=>rw[subt c y q]at e;cases e
 refine aE lit.rd (aE lit.len ⟨rfl,?_⟩);have lf:([x].map shR).flatten=shR x:=sI;have ll:([x].map shR).length=1:=rfl;rw[lf,ll];simp only;rcases cap with _|c;simp only;refine aE old ?_;unfold lQ;rw[hd]
 grind [hdel]
 have ⟨c1,c2⟩:=hc c rfl;simp only
 by_cases hfit:q.length+1<=c
 have e1:=bL hfit;have htl:=oM;have e3:ble (0+q.length*2+(shR x).length) (dA q++tl).length=true:=bL (by grind [ku]);have e4:wrN t (.ptr sb (0+q.length*2)) (shR x)=some (hset t sb (false,.cells 265 (dB (dA q++tl) (0+q.length*2) (shR x)))):=by simp only[wrN,hd,e3,show aX (shR x)=true from rfl,Bool.and_self,aD]
 have e5:dB (dA q++tl) (0+q.length*2) (shR x)=dA (q ++ [x])++tl.drop 2:=by
  rw[zAY,<- ku,flat1];unfold dB;rw[take_left];show dA q++shR x++(dA q++tl).drop ((dA q).length+2)=_;rw[drop_append,fc oM,nil_append]
  congr 2
  omega
 simp only[e1,aD,e4,ae];rw[e5];refine fin _ sb (some c) (by grind [eL]) ⟨tl.drop 2,fe,λc' e=>?_⟩ (λi e hi hn=>?_) (.inl rfl)
 grind
 rw[eL λq=>hn (.inr q)];exact subt i e hi;have e1:ble (q.length+1) c=false:=by rcases e:ble (q.length+1) c with _|_;rfl;exact absurd (le_of_ble_eq_true e) hfit
 simp only[e1,cond_false];exact aE old (gR)
variable{s0:Hq}{db:Nat}{av:AV}
def dl(N:Nat)(d:Nat->Int):List AV:=(List.range N).map λn=>(d n:Int)
theorem ij:(dl N d).length=N:=by unfold dl;simp
theorem nP{n:Nat}(h:n<N):(dl N d)[n]?=some (Ii (d n)):=by unfold dl;simp[h]
theorem zS{n:Nat}{v:Int}(h:n<N):(dl N d).set n v=dl N (updI d n v):=by
 refine d8 λi=>?_;rw[getElem?_set]
 by_cases e:n=i
 grind [ij,nP,gp]
 by_cases hi:i<N
 grind [nP,gw]
 grind [ij]
def edR(e:Nat×Nat×Nat):List AV:=[e.1,e.2.1,e.2.2]
structure AdjR(s:Hq)(av:AV)(N:Nat)(E:Nat->List (Nat×Nat×Nat)):Prop where
 ex:∃vs:Nat->AV,Sl s av ((List.range N).map vs)/\∀n,n<N->SlR 3 s (vs n) ((E n).map edR)
theorem AdjR.sub{E:Nat->List (Nat×Nat×Nat)}(h:AdjR s av N E)(k:Sub s s'):AdjR s' av N E:=by have ⟨vs,h1,h2⟩:=h;exact⟨vs,h1.sub k,λn hn=>(h2 n hn).sub k⟩
theorem AdjR.at{E:Nat->List (Nat×Nat×Nat)}(h:AdjR s av N E){n:Nat}(hn:n<N):∃p v,cF 1 av n=some p/\rd1 s p=some v/\SlR 3 s v ((E n).map edR):=by
 have ⟨vs,h1,h2⟩:=h;have ⟨p,g1,g2⟩:=h1.get (i:=n) (by simpa using hn)
 grind
theorem AdjR.len{E:Nat->List (Nat×Nat×Nat)}(h:AdjR s av N E):cM av=some N:=by have ⟨vs,h1,_⟩:=h;rw[h1.len];simp
def iZ(N:Nat)(G:List Lnk)(U:List Bool)(d:Nat->Int):Nat:=((List.range N).map λn=>if d n<0 then(edL G U n).length else 0).sum
theorem zT{n:Nat}:(edL G U n).length<=G.length:=by have:=iH (λi=>if U.getD i false then(match G[i]? with|some x=>(oth x n).map λm=>(i,m,x.2.2)|none=>none)else none) (List.range G.length);rw[fR]at this;exact this
theorem Gf:iZ N G U d<=N*G.length:=by
 have:∀{l:List Nat},(l.map λn=>if d n<0 then(edL G U n).length else 0).sum<=l.length*G.length:=by
  intro l
  induction l with
  |nil=>simp
  | cons a l ih=>
    have h1:=zT (G:=G) (U:=U) (n:=a);simp only[cL,ff,cr,succ_mul];split<;>omega
 have h:=this (l:=List.range N);rw[fR]at h;exact h
theorem Gg{α:Type}[DecidableEq α]{f g:α->Nat}{y:α}{k:Nat}:∀{l:List α},l.Nodup->y∈l->(∀x∈l,x≠y->f x=g x)->f y+k=g y->(l.map f).sum+k=(l.map g).sum:=by
 intro l
 induction l with
 |nil=>intro _ h;cases h
 | cons a l ih=>
   intro nd hy h h1;simp only[cL,ff]
   by_cases e:a=y
   subst e;have:(l.map f)=l.map g:=cK λx hx=>gR;rw[this];omega
   grind
theorem Gh{n:Nat}{v:Nat}(hn:n<N)(hd:d n<0):iZ N G U (updI d n v)+(edL G U n).length=iZ N G U d:=by
 refine Gg (y:=n) nodup_range (dr.2 hn) (λx _ hx=>by rw[gw hx]) ?_
 grind [gp]
def pushed(G:List Lnk)(U:List Bool)(d:Nat->Int)(x:It)(i:Nat):List It:=((edL G U x.1).take i).filterMap λe=>if d e.2.1<0 then some (e.2.1,x.2+e.2.2)else none
theorem qYW{x:It}{i:Nat}{e:Nat×Nat×Nat}(he:(edL G U x.1)[i]?=some e):pushed G U d x (i+1)=pushed G U d x i++(if d e.2.1<0 then[(e.2.1,x.2+e.2.2)]else[]):=by
 unfold pushed;rw[bO,he,iG]
 grind
theorem Gi{x:It}{i:Nat}:(pushed G U d x i).length<=i:=by
 grind [pushed]
theorem RW{x y:It}:y∈pushed G U d x (edL G U x.1).length↔∃e∈edL G U x.1,d e.2.1<0/\y=(e.2.1,x.2+e.2.2):=by
 grind [pushed]
structure DSt(s0 s:Hq)(o sb:Nat)(cap:Option Nat)(q:List It)(db N:Nat)(d:Nat->Int):Prop where
 sub:Sub s0 s
 qa:QAt s o sb cap q
 hp:Hp q 0
 dd:Hc s db 3 (dl N d)
 f:s0 o=none/\s0 sb=none/\s0 db=none
theorem DSt.more(z:DSt s0 s o sb cap q db N d)(k:Sub s s'):DSt s0 s' o sb cap q db N d:=⟨z.sub.trans k,z.qa.sub k,z.hp,k _ _ z.dd,z.f⟩
theorem DSt.db_ne(z:DSt s0 s o sb cap q db N d):db≠o/\db≠sb:=by
 constructor
 ·rintro rfl
  have:=z.dd;rw[z.qa.ob]at this;cases this
 ·rintro rfl
  have ⟨tl,e,_⟩:=z.qa.dt;rw[z.dd]at e;cases e
theorem Gj(z:GOk N G U)(hN:N<=32)(hG:G.length<=128)(hC:∀x∈G,x.2.2<=1000)(ha:AdjR s av N (edL G U))(hf:from_<N)
  (hK:∀d b s',IsDist N G U from_ d->(∀n,n<N->d n<=32000)->Sub s s'->s b=none->Hc s' b 3 (dl N d)->K (.slc b 0 N (some N) 1) s'):wC TP 91 [av,from_] K s:=by
 have hcost:∀{i n m c:Nat},Ed G U i n m c->c<=1000:=fun {i n m c} e=>by
  rcases e.2 with e|e
  grind
  grind
 refine XQ ?_;have n0:nat? N=some N:=nat?_mk;simp only[P5,ha.len,n0,ae,ge,bG];refine⟨⟨Nat.le_refl _,oM⟩,aI λdb s1 hdb h1 u1=>?_⟩;have sub1:=u1.sub hdb;refine⟨λys s2 m=>∃i:Nat,ys=[Ii i]/\i<=N/\m=N-i/\Sub s s2/\Hc s2 db 3 (dl N λn=>if n<i then -1 else 0),⟨_,0,rfl,oM,rfl,sub1,?_⟩,?_⟩;rw[h1,ig]
 congr 3
 unfold dl;refine d8 λi=>?_
 grind
 rintro f s2 m ⟨i,hy,hi,rfl,sub2,h2⟩;simp only[cI,aq]at hy;rw[hy];simp only[P4,bu,ae,bG,aS];refine aL (λhlt=>?_) (λhge=>?_);have hlt:i<N:=gR;have ad:cF 1 (.slc db 0 N (some N) 1) i=some (.ptr db i):=by
  have:blt i N=true:=by simp_all
  simp[cF,this]
 simp only[ad,ae];refine cw h2 (by rw[ij];exact hlt) rfl λs3 h3 u3=>?_;simp only[bg,ae];rw[aT];refine⟨_,oM,i+1,rfl,oM,rfl,dp sub2 u3 hdb,?_⟩;rw[h3,zS hlt]
 grind [dl,gp,gw]
 have hge:i=N:=gR;subst hge;have h2:Hc s2 db 3 (dl i λ_=>-1):=by
  simp_all [dl]
 refine aE (a:=shR (from_,0)) rfl (aE (a:=shR (from_,0)) rfl ⟨rfl,aI λsb s3 hsb h3 u3=>⟨rfl,aI λo s4 ho h4 u4=>?_⟩⟩);have sub3:=u3.sub hsb;have sub4:=u4.sub ho;have old:∀b,s2 b=none->s b=none:=λb hb=>by
  cases q:s b with
  |none=>rfl
  |some x=>rw[sub2 b x q]at hb;cases hb
 have st0:DSt s s4 o sb (some 1) [(from_,0)] db i (λ_=>-1):=by
  refine⟨(sub2.trans sub3).trans sub4,⟨h4,⟨[],?_,λc e=>by cases e;simp⟩,sI⟩,λj h0 h1=>by simp at h1;omega,sub4 _ _ (sub3 _ _ h2),?_,old _ hsb,hdb⟩;rw[d9,sub4 _ _ h3];rfl
  ·cases q:s o with
   |none=>rfl
   |some x=>rw[sub3 _ _ (sub2 _ _ q)]at ho;cases ho
 have ⟨vs,hv1,hv2⟩:=ha;have hnl:=Nat.mul_le_mul hN hG;have inv0:DInv i G U from_ (λ_=>-1) [(from_,0)]:=⟨λn _=>Int.le_refl _,.inr ⟨λn _=>rfl,sI⟩,λn _ h=>absurd h dE,gR,gR,λj n m c _ h=>absurd h dE⟩
 refine⟨λys s5 m=>∃sb cap q d,DSt s s5 o sb cap q db i d/\DInv i G U from_ d q/\m=q.length+iZ i G U d/\m<=5000/\∀n,n<i->d n<=(cntD i d:Int)*1000,⟨_,sb,some 1,_,_,st0,inv0,rfl,by
  have:=Gf (N:=i) (G:=G) (U:=U) (d:=λ_=>-1)
  grind,gR⟩,?_⟩
 rintro f s5 m ⟨sb,cap,q,d,st,inv,rfl,hm,hdm'⟩;have hcl:=tJ (N:=i) (d:=d);have hdm:∀n,n<i->d n<=32000:=λn hn=>by have:=hdm' n hn;omega
 simp only[P3,bQ,au st.qa.ob,g0Y,ae,bG,aS];refine P9 ?_;simp only[EA,ge,ae,dy];refine aL (λhlt=>?_) (λhge=>?_)
 rotate_left
 have hge:q=[]:=(by simp_all)
 subst hge;exact hK d db s5 inv.end_ hdm st.sub st.f.2.2 st.dd;have hlt:0<q.length:=gR;refine Gd st.qa st.hp hlt λs6 q1 x z6 hp6 perm hmin k6=>?_;have dbn:=st.db_ne;have st6:DSt s s6 o sb cap q1 db i d:=⟨λb e hb=>k6 b e (st.sub b e hb) (by grind [DSt.f]),z6,hp6,k6 _ _ st.dd gR,st.f⟩
 have t1:jW 265 (some (.agg [(Ii 0),(Ii 0)])) true (.ifc 265 (.agg (shR x)))=some (.tup [.agg (shR x),true]):=rfl;have t2:bV (.tup [.agg (shR x),true]) 0=some (.agg (shR x)):=rfl;have t3:bV (.tup [.agg (shR x),true]) 1=some (.bool true):=rfl;simp only[t1,t2,t3,ae];refine aI λbx s7 hbx h7 u7=>cD h7 rfl rfl rfl λs8 h8 u8=>?_;have h8:Hc s8 bx 265 [x.1,x.2]:=h8;have st8:=st6.more (dp (u7.sub hbx) u8 hbx);have memx:x∈q:=perm.mem_iff.2 sI;have xN:=(inv.qn x memx).1;have g0:[AV.int .i64 (x.1:Int),x.2][0]?=some (Ii x.1):=rfl;have g1:[AV.int .i64 (x.1:Int),x.2][1]?=some (Ii x.2):=rfl;have ad:∀{n:Nat},n<i->cF 1 (.slc db 0 i (some i) 1) n=some (.ptr db n):=fun {n} hn=>by
  have:blt n i=true:=by rw[bZ];exact hn
  simp[cF,this]
 have plen:=perm.length_eq;rw[cr]at plen;simp only[aK,zAY,au h8,g0,g1,ad xN,au st8.dd,nP xN,dQ,ae];refine aL (λhd=>?_) (λhd=>?_);have hd:=oT hd;exact⟨_,oM,sb,cap,q1,d,st8,inv.skip hd λy=>(perm.mem_iff).trans mem_cons,rfl,oM,hdm'⟩
 ·have hd:d x.1<0:=gR
  refine cw st8.dd (by rw[ij];exact xN) rfl λs9 h9 u9=>?_;rw[zS xN]at h9;have hbxs:∀{b:Nat}{e:Bool×Blk},s6 b=some e->b≠bx:=fun {b e} hb q=>gR;have bxd:bx≠db:=λe=>hbxs st6.dd e.symm;have h9x:=(u9 bx bxd).trans h8;have sub9:=dp st8.sub u9 st.f.2.2;have st9:DSt s s9 o sb cap q1 db i (updI d x.1 x.2):=⟨sub9,st8.qa.keep (fp:=λb=>b=db) (u9.keep rfl) (Ne.symm dbn.1) (Ne.symm dbn.2),hp6,h9,st.f⟩
  have ⟨pa,a1,a2⟩:=(hv1.sub sub9).get (i:=x.1) (by simpa using xN);have a2:rd1 s9 pa=some (vs x.1):=by rw[a2];simp[xN]
  have a3:=hv2 x.1 xN;simp only[au h9x,g0,a1,a2,a3.len,lMY,ae];have hleft:=Gh (G:=G) (U:=U) (v:=x.2) xN hd;refine⟨λys s10 m=>∃(k sb:Nat) (cap:Option Nat) (q2:List It),ys=[Ii k]/\k<=(edL G U x.1).length/\m=(edL G U x.1).length-k/\DSt s s10 o sb cap q2 db i (updI d x.1 x.2)/\q2.Perm (pushed G U (updI d x.1 x.2) x k++q1)/\Hc s10 bx 265 [x.1,x.2]/\bx≠sb,⟨_,0,sb,cap,q1,rfl,oM,rfl,st9,by simp[pushed],h9x,λe=>by have ⟨tl,e2,_⟩:=z6.dt;grind⟩,?_⟩;rintro f2 s10 m2 ⟨k,sb,cap,q2,hy2,hk,rfl,st10,perm2,hx10,hbsb⟩;simp only[cI,aq]at hy2;rw[hy2];have hp2:=perm2.length_eq;rw[lAp]at hp2;have hpl:=Gi (G:=G) (U:=U) (d:=updI d x.1 x.2) (x:=x) (i:=k);have hxs:x.2<=100000:=by
   rcases(inv.qn x memx).2 with e|⟨j,m,c,e1,e2,e3⟩
   grind
   have:=hdm m (z.ed e1).2.1;have:=(z.ed e1).2.2.2.2;omega
  simp only[P0,bu,ae,aS];refine aL (λhlt2=>?_) (λhge2=>?_)
  ·have hlt2:k<(edL G U x.1).length:=gR
   obtain⟨e,he⟩:∃e,(edL G U x.1)[k]?=some e:=⟨_,gE hlt2⟩
   have ⟨j,mm,c⟩:=e;have hed:=(nL z).1 (mG he);have ⟨_,mN,nem,c1,c2⟩:=z.ed hed;have ⟨pb,po,e1,e2,e3⟩:=(a3.sub st10.sub).get (i:=k) (r:=edR (j,mm,c)) (by rw[getElem?_map,he];rfl);simp only[e1,e2,ae];refine aI λbe s11 hbe h11 u11=>cD h11 rfl rfl rfl λs12 h12 u12=>?_;have h12:Hc s12 be 272 [j,mm,c]:=h12;have sub12:=dp (u11.sub hbe) u12 hbe;have st12:=st10.more sub12;have hx12:=sub12 _ _ hx10;have y1:[AV.int .i64 (j:Int),mm,c][1]?=some (Ii mm):=rfl;have y2:[AV.int .i64 (j:Int),mm,c][2]?=some (Ii c):=rfl;have hps:=qYW (d:=updI d x.1 x.2) he;have next:∀s13 sb cap q3,DSt s s13 o sb cap q3 db i (updI d x.1 x.2)->q3.Perm (pushed G U (updI d x.1 x.2) x (k+1)++q1)->Hc s13 bx 265 [x.1,x.2]->bx≠sb->
     yu k (λys s10 m=>∃(k sb:Nat) (cap:Option Nat) (q2:List It),ys=[Ii k]/\k<=(edL G U x.1).length/\m=(edL G U x.1).length-k/\DSt s s10 o sb cap q2 db i (updI d x.1 x.2)/\q2.Perm (pushed G U (updI d x.1 x.2) x k++q1)/\Hc s10 bx 265 [x.1,x.2]/\bx≠sb) ((edL G U x.1).length-k) (λys s5 m=>∃sb cap q d,DSt s s5 o sb cap q db i d/\DInv i G U from_ d q/\m=q.length+iZ i G U d/\m<=5000/\∀n,n<i->d n<=(cntD i d:Int)*1000) (q.length+iZ i G U d) K s13:=λs13 sb cap q3 z3 p3 h13 h14=>by
    simp only[yu,bg,ae,aS];rw[aT];exact⟨_,oM,k+1,sb,cap,q3,rfl,oM,rfl,z3,p3,h13,h14⟩
   simp only[aK,zAY,au h12,y1,y2,ad mN,au st12.dd,nP mN,bu,ae];refine aL (λhneg=>?_) (λhneg=>?_)
   ·have hneg:=oT hneg
    rw[ak hneg]at hps;simp only[au hx12,g1,bg,ae];rw[aT];refine aE (a:=shR (mm,x.2+c)) (by show some [AV.int .i64 (mm:Int),((x.2:Int)+(c:Int):Int)]=some (shR (mm,x.2+c));unfold shR;rw[show((x.2+c:Nat):Int)=(x.2:Int)+(c:Int)by omega]) ?_;refine Ge st12.qa st12.hp oM λs13 sb' cap' q3 z13 hp13 perm3 k13 hfr=>?_;have dbn':=st12.db_ne;have sub13:=λb e hb=>k13 b e (st12.sub b e hb) (by rintro (rfl|rfl);rw[st12.f.1]at hb;cases hb;rw[st12.f.2.1]at hb;cases hb);have hx13:=k13 _ _ hx12 (by
     rintro (e|e)
     ·rw[e,st12.qa.ob]at hx12;cases hx12
     exact hbsb e)
    refine next s13 sb' cap' q3 ⟨sub13,z13,hp13,k13 _ _ st12.dd gR,st12.f.1,?_,st12.f.2.2⟩ ?_ hx13 ?_
    ·rcases hfr with e|e
     rw[e];exact st12.f.2.1
     ·cases q:s sb' with
      |none=>rfl
      |some y=>rw[st12.sub _ _ q]at e;cases e
    rw[hps,cn];refine perm3.trans ((perm2.cons _).trans ?_);exact(perm_middle (l₁:=pushed G U (updI d x.1 x.2) x k) (a:=(mm,x.2+c)) (l₂:=q1)).symm
    ·intro e
     rcases hfr with q|q;exact hbsb (e.trans q)
     ·rw[<- e,hx12]at q;cases q
   ·have hneg:=oF hneg
    rw[aj hneg,d9]at hps;exact next s12 sb cap q2 st12 (by rw[hps];exact perm2) hx12 hbsb
  have hge2:k=(edL G U x.1).length:=gR;subst hge2;have mp:=λy=>(perm2.mem_iff (a:=y)).trans mem_append;have tk:=inv.take z (q':=q2) hd memx (λy hy=>by
   rcases mCY (perm.mem_iff.1 hy)with e|e;exact .inl e;exact .inr ((mp y).2 (.inr e))) (λy hy=>hmin y hy) (λj m c e hm=>(mp _).2 (.inl (RW.2 ⟨(j,m,c),(nL z).2 e,by rw[gw (Ne.symm (z.ed e).2.2.1)];exact hm,rfl⟩))) λy hy=>by
   rcases(mp y).1 hy with e|e;have ⟨⟨j,m,c⟩,e1,e2,e3⟩:=RW.1 e;exact .inr ⟨j,m,c,(nL z).1 e1,e3⟩;exact .inl (perm.mem_iff.2 (by simp[e]))
  refine⟨_,?_,sb,cap,q2,_,st10,tk,rfl,oM,λn hn=>?_⟩;omega;have hc1:cntD i d+1<=cntD i (updI d x.1 x.2):=tI (y:=x.1) (λn _ hn=>by
   have hn:=oT hn;refine aH ?_
   by_cases e:n=x.1
   rw[e,gp];omega;rw[gw e];exact hn) (dr.2 xN) (aC oM) (aH (by rw[gp];omega))
  by_cases e:n=x.1
  rw[e,gp];rcases(inv.qn x memx).2 with e|⟨j,m,c,e1,e2,e3⟩;rw[e];show(0:Int)<=_;omega;have:=hdm' m (z.ed e1).2.1;have:=hcost e1;omega
  grind [gw]
variable{t R:Hq}{v y:AV}{rows:List (List AV)}
theorem Gk{row:List AV}(hs:Sub R t)(hv:AccR 272 3 s0 t v rows)(hvis:∀b n,v=.slc b 0 n none 3->R b=t b)(hy:SlR 3 R y [row])(hl:rows.length<=1000)
  (hK:∀c s22,((∀b,t b≠none->R b=none->s22 b=none)->(∀i e,t i=some e->(∀n,v≠.slc i 0 n none 3)->i≠c/\add s22 (rest t R) i=some e)/\add s22 (rest t R) c=some (false,.cells 272 (rows ++ [row]).flatten)/\(t c=none∨∃n,v=.slc c 0 n none 3))->
   K (.slc c 0 (rows.length+1) none 3) s22):appK 272 3 v y K R:=by
 have hf:[row].flatten=row:=sI;have hm:[row].length=1:=rfl;have fl:(rows ++ [row]).flatten=rows.flatten++row:=sI;refine aE hy.rd (aE hy.len ?_);rw[hf,hm];have ⟨hrow,hv⟩:=hv;have fin:∀(R':Hq),(∀i,(∀n,v≠.slc i 0 n none 3)->R' i=R i)->(∀i,R' i=none->R i=none∨∃n,v=.slc i 0 n none 3)->newK 272 (rows.flatten++row) (λb=>K (.slc b 0 (rows.length+1) none 3)) R':=λR' h1 h2=>by
  refine aI λc s22 hc h4 u4=>hK c s22 λhcond=>?_;have hct:t c=none∨∃n,v=.slc c 0 n none 3:=by
   grind
  refine⟨λi e hi hn=>?_,?_,hct⟩;have hic:i≠c:=by
   grind
  refine⟨hic,?_⟩;have hR:R' i=R i:=h1 i hn;have h5:s22 i=R i:=by rw[<- hR];exact u4 i hic
  rcases q:R i with _|x
  grind [cC,rest]
  have:=hs i x q
  grind [cU]
  grind [cU]
 rcases hv with⟨rfl,rfl⟩|⟨b,hb0,rfl,hb⟩;simp only;refine⟨oM,?_⟩
 simp_all
 refine⟨rfl,?_⟩;simp only;have hbR:Hc R b 272 rows.flatten:=gR;refine aE (SlR.rd (SlR.mk hrow hbR rfl sI)) ?_;unfold lQ;rw[hbR];refine⟨rfl,oM,?_⟩;exact fin (hdel R b) (λi hn=>aj λe=>hn rows.length (by rw[e])) λi hi=>by
  by_cases e:i=b
  simp_all
  exact .inl (by rw[<- hi];exact(aj e).symm)
structure EB(s0 s:Hq)(o ab N:Nat)(E:Nat->List (Nat×Nat×Nat)):Prop where
 sub:Sub s0 s
 f:s0 o=none/\s0 ab=none
 oc:Hc s o 203 [.slc ab 0 N (some N) 1]
 row:∃vs:Nat->AV,Hc s ab 270 ((List.range N).map vs)/\(∀n,n<N->AccR 272 3 s0 s (vs n) ((E n).map edR))/\
  ∀n m,n<N->m<N->n≠m->∀b k b' k',vs n=.slc b 0 k none 3->vs m=.slc b' 0 k' none 3->b≠b'
theorem EB.more{o ab:Nat}{E:Nat->List (Nat×Nat×Nat)}(z:EB s0 s o ab N E)(k:Sub s s'):EB s0 s' o ab N E:=by have ⟨h1,h2,h3,vs,h4,h5,h6⟩:=z;exact⟨h1.trans k,h2,k _ _ h3,vs,k _ _ h4,λn hn=>(h5 n hn).sub k,h6⟩
theorem Gl{vs:Nat->AV}{n:Nat}{v:AV}(h:n<N):((List.range N).map vs).set n v=(List.range N).map λi=>if i=n then v else vs i:=by
 refine d8 λi=>?_
 grind
def addE(E:Nat->List (Nat×Nat×Nat))(n:Nat)(e:Nat×Nat×Nat):Nat->List (Nat×Nat×Nat):=λk=>if k=n then E k ++ [e]else E k
theorem EB.put{o ab n:Nat}{E:Nat->List (Nat×Nat×Nat)}{e:Nat×Nat×Nat}(z:EB s0 t o ab N E){vs:Nat->AV}(h4:Hc t ab 270 ((List.range N).map vs))(h5:∀n,n<N->AccR 272 3 s0 t (vs n) ((E n).map edR))(h6:∀n m,n<N->m<N->n≠m->∀b k b' k',vs n=.slc b 0 k none 3->vs m=.slc b' 0 k' none 3->b≠b')(hn:n<N)(hs:Sub R t)(hR:∀i,R i=t i∨(t i≠none/\∃el cs,Hc t i el cs/\el≠272))(hy:SlR 3 R y [edR e])(hl:(E n).length<=500){J:Hq->Prop}
  (hJ:∀s4,EB s0 s4 o ab N (addE E n e)->(∀i el cs,Hc t i el cs->el≠272->el≠270->s4 i=t i)->(∀i x,t i=some (false,x)->(∀el cs,x≠.cells el cs)->s4 i=t i)->J s4) :
  appK 272 3 (vs n) y (λv_21 s_22=>(∀b,t b≠none->R b=none->s_22 b=none)->oK (wr1 (add s_22 (rest t R)) (.ptr ab n) v_21) J) R:=by
 have own:∀b k,vs n=.slc b 0 k none 3->∃cs,Hc t b 272 cs:=λb k e=>by
  rcases(h5 n hn).2 with⟨e',_⟩|⟨b',_,e',h⟩
  ·rw[e']at e;cases e
  grind
 refine Gk hs (h5 n hn) (λb k e=>?_) hy gR λc s22 hf hcond=>?_
 grind
 have ⟨g1,g2,g3⟩:=hf hcond;generalize add s22 (rest t R)=M at g1 g2;have notown:∀i el cs,Hc t i el cs->el≠272->∀k,vs n≠.slc i 0 k none 3:=gR;have ⟨c1,m1⟩:=g1 ab _ h4 (notown ab _ _ h4 dE);have ⟨c2,m2⟩:=g1 o _ z.oc (notown o _ _ z.oc dE);refine cw m1 (by simpa using hn) rfl λs4 h7 u7=>?_;rw[Gl hn]at h7;have oab:o≠ab:=by
  grind
 have f0:∀{i:Nat}{x:Bool×Blk},s0 i=some x->i≠c/\(∀k,vs n≠.slc i 0 k none 3):=fun {i x} hi=>by
  have own0:∀k,vs n≠.slc i 0 k none 3:=λk e=>by
   rcases(h5 n hn).2 with⟨e',_⟩|⟨b',hb',e',h⟩
   ·rw[e']at e;cases e
   grind
  refine⟨λq=>?_,own0⟩;rcases g3 with q2|⟨k,q2⟩
  ·rw[q]at hi;rw[z.sub _ _ hi]at q2;cases q2
  grind
 have cab:c≠ab:=Ne.symm c1;have hc4:Hc s4 c 272 ((E n).map edR ++ [edR e]).flatten:=by rw[u7 c cab];exact g2
 have hc0:s0 c=none:=by rcases q:s0 c with _|x;rfl;exact absurd rfl (f0 q).1
 refine hJ s4 ⟨λi x hi=>?_,z.f,by rw[u7 o oab];exact m2,λi=>if i=n then .slc c 0 (((E n).map edR).length+1) none 3 else vs i,h7,λm hm=>?_,λa b ha hb hab x k x' k' v1 v2=>?_⟩ (λi el cs hi h111 h109=>?_) λi x hi hx=>?_;have ⟨q1,q2⟩:=f0 hi;have ⟨_,q3⟩:=g1 i x (z.sub i x hi) q2;rw[u7 i ((by grind [f]))];exact q3
 by_cases e1:m=n
 subst e1;have eE:addE E m e m=E m ++ [e]:=ak rfl;rw[eE,bM];simp only[if_true];exact⟨λr hr=>by rcases mP hr with q|q;exact(h5 m hn).1 r q;rw[map_singleton,bN]at q;subst q;rfl,.inr ⟨c,hc0,sI,by simpa using hc4⟩⟩
 have eE:addE E n e m=E m:=aj e1;rw[eE];simp only[aj e1];have ⟨r0,q⟩:=h5 m hm;refine⟨r0,?_⟩;rcases q with q|⟨b,q1,q2,q3⟩;exact .inl q;have ⟨w1,w2⟩:=g1 b _ q3 λk e3=>gR;refine .inr ⟨b,q1,q2,?_⟩;rw[u7 b (λq=>gR)];exact w2
 ·have e1:(if a=n then AV.slc c 0 (((E n).map edR).length+1) none 3 else vs a)=.slc x 0 k none 3:=v1
  have e2:(if b=n then AV.slc c 0 (((E n).map edR).length+1) none 3 else vs b)=.slc x' 0 k' none 3:=v2;clear v1 v2
  by_cases e3:a=n
  ·rw[ak e3]at e1
   rw[aj (λq=>hab (e3.trans q.symm))]at e2;cases e1;intro q;subst q;rcases(h5 b hb).2 with⟨e',_⟩|⟨b',q1,e',q3⟩
   ·rw[e']at e2;cases e2
   grind
  ·rw[aj e3]at e1
   by_cases e4:b=n
   ·rw[ak e4]at e2
    cases e2;intro q;subst q;rcases(h5 a ha).2 with⟨e',_⟩|⟨b',q1,e',q3⟩
    ·rw[e']at e1;cases e1
    ·rw[e']at e1;cases e1
     rcases g3 with q|⟨k2,q⟩
     ·rw[q]at q3;cases q3
     exact h6 n a hn ha (Ne.symm e3) _ k2 _ _ q e' rfl
   grind
 have ⟨w1,w2⟩:=g1 i _ hi (notown i _ _ hi h111);rw[u7 i (λq=>gR),w2,hi];have ⟨w1,w2⟩:=g1 i _ hi λk e3=>by
  have ⟨cs',q⟩:=own i k e3
  grind
 rw[u7 i (λq=>gR),w2,hi]
variable{E:Nat→List (Nat × Nat × Nat)}{ab:Nat}
theorem EB.loop{l:Nat}{x:Blk}(z:EB s0 s o ab N E)(hl:s l=some (false,x))(hx:∀el cs,x≠.cells el cs)(h0:s0 l=none)(u:Upto l s s'):EB s0 s' o ab N E:=by obtain⟨vs,h4,h5,h6⟩:=z.row;have ne:∀{i el cs},Hc s i el cs->i≠l:=gR;refine⟨dp z.sub u h0,z.f,by rw[u o (ne z.oc)];exact z.oc,vs,by rw[u ab (ne h4)];exact h4,λn hn=>?_,h6⟩;obtain⟨r0,q⟩:=h5 n hn;refine⟨r0,q.imp id λ⟨b,q1,q2,q3⟩=>⟨b,q1,q2,by rw[u b (ne q3)];exact q3⟩⟩
def h3(s:Hq)(x y z:Nat):Hq:=λi=>if i=x∨i=y∨i=z then s i else none
theorem pB{x y z:Nat}:Sub (h3 s x y z) s:=λi e hi=>by
 unfold h3 at hi;split at hi
 ·exact hi
 ·cases hi
theorem h3_1{x y z:Nat}{q:Option (Bool×Blk)}(h:s x=q):h3 s x y z x=q:=(ak (.inl rfl)).trans h
theorem h3_2{x y z:Nat}{q:Option (Bool×Blk)}(h:s y=q):h3 s x y z y=q:=(ak (.inr (.inl rfl))).trans h
theorem h3_3{x y z:Nat}{q:Option (Bool×Blk)}(h:s z=q):h3 s x y z z=q:=(ak (.inr (.inr rfl))).trans h
theorem tR{x y z i:Nat}(h1:i≠x)(h2:i≠y)(h3':i≠z):h3 s x y z i=none:=aj (by simp[h1,h2,h3'])
theorem lit3{e:Nat×Nat×Nat}{S h:Hq}{R:Nat->Hq->Prop}(hs:Sub h S)(hK:∀b t,S b=none->Hc t b 272 (edR e)->Upto b S t->Sub h t->R b (lock t h)):
  oK (aM [(Ii 0),(Ii 0),(Ii 0)] [(0,1,e.1),(1,1,e.2.1),(2,1,e.2.2)]) λc_16=>
  oK (aM (repl 1 [(Ii 0),(Ii 0),(Ii 0)]) [(0,3,(.agg c_16))]) λc_17=>aX c_17=true/\newK 272 c_17 R (lock S h):=
 aE (a:=edR e) rfl (aE (a:=edR e) rfl ⟨rfl,rU hs (aI λb t hb h1 u1 h2=>hK b t hb h1 u1 h2)⟩)
abbrev rdyC(ac bo:Code)(o d:Nat):Blk:=.loop .ready none 52 [(7,Pp o)] [15,16] ac bo d
abbrev bsyC(ac bo:Code)(o d:Nat):Blk:=.loop .busy none 52 [(7,Pp o)] [15,16] ac bo d
theorem Gm{l i a b c d:Nat}(z:EB s0 s o ab N E)(hl:s l=some (false,rdyC (rfAs 0 (bH Tryz.f92)) (rfBo 0 (bH Tryz.f92)) o d))(h0:s0 l=none)(ha:a<N)(hb:b<N)(hab:a≠b)(hle:∀n,(E n).length<=300)
  (hK:∀s',EB s0 s' o ab N (addE (addE E a (i,b,c)) b (i,a,c))->s' l=some (false,rdyC (rfAs 0 (bH Tryz.f92)) (rfBo 0 (bH Tryz.f92)) o d)->(∀j el cs,Hc s j el cs->el≠272->el≠270->s' j=s j)->K true s') :
  gF TP l [i,.agg [a,b,c]] K s:=by
 refine Zn hl ?_;refine aI λb0 s1 hb0 h1 u1=>cD h1 rfl rfl rfl λs2 h2 u2=>⟨rfl,?_⟩
 have h2:Hc s2 b0 145 [a,b,c]:=h2;have sub2:Sub s s2:=dp (u1.sub hb0) u2 hb0;have z2:=z.more sub2;have l2:=sub2 _ _ hl;unfold gj;rw[l2];simp only;have u3:Upto l s2 (hset s2 l (false,bsyC (rfAs 0 (bH Tryz.f92)) (rfBo 0 (bH Tryz.f92)) o d)):=λ_ hi=>eL hi;have l3:hset s2 l (false,bsyC (rfAs 0 (bH Tryz.f92)) (rfBo 0 (bH Tryz.f92)) o d) l=some (false,bsyC (rfAs 0 (bH Tryz.f92)) (rfBo 0 (bH Tryz.f92)) o d):=fe;have z3:=z2.loop l2 (λ_ _ h=>by cases h) h0 u3;have lb0:b0≠l:=λq=>gR;have h3:hset s2 l (false,bsyC (rfAs 0 (bH Tryz.f92)) (rfBo 0 (bH Tryz.f92)) o d) b0=_:=(u3 b0 lb0).trans h2;have c3:∀j el cs,Hc s j el cs->hset s2 l (false,bsyC (rfAs 0 (bH Tryz.f92)) (rfBo 0 (bH Tryz.f92)) o d) j=s j:=λj el cs hj=>by rw[u3 j (λq=>by rw[q,hl]at hj;cases hj),sub2 _ _ hj,hj]
 generalize hset s2 l (false,bsyC (rfAs 0 (bH Tryz.f92)) (rfBo 0 (bH Tryz.f92)) o d)=s3 at u3 l3 z3 h3 c3;clear u3;have ⟨vs,h4,h5,h6⟩:=z3.row;have x0:[AV.int .i64 (a:Int),b,c][0]?=some (Ii a):=rfl;have x1:[AV.int .i64 (a:Int),b,c][1]?=some (Ii b):=rfl;have x2:[AV.int .i64 (a:Int),b,c][2]?=some (Ii c):=rfl;have ad:∀{n:Nat},n<N->cF 1 (.slc ab 0 N (some N) 1) n=some (.ptr ab n):=fun {n} hn=>by
  have:blt n N=true:=by rw[bZ];exact hn
  simp[cF,this]
 have ra:((List.range N).map vs)[a]?=some (vs a):=by simp[ha]
 refine⟨AM.h3 s3 o b0 ab,pB,?_⟩;simp only[au (h3_1 z3.oc),g0Y,aK,zAY,au (h3_2 h3),x0,x1,x2,ad ha,au (h3_3 h4),ra,ae];refine lit3 (e:=(i,b,c)) pB λb18 t18 hb18 h18 u18 hs18=>?_;have sub3:=u18.sub hb18;have lit:∀{t:Hq}{b18:Nat}{e:Nat×Nat×Nat},Hc t b18 272 (edR e)->SlR 3 t (.slc b18 0 1 (some 1) 3) [edR e]:=fun {t b18 e} h=>SlR.mk (rows:=[edR e]) (by intro r hr;rw[bN]at hr;subst hr;rfl) (by simpa using h) rfl sI;have off:∀{s t:Hq}{v:AV}{rows:List (List AV)}{x y z:Nat}{e1 e2 e3:Nat}{c1 c2 c3:List AV},AccR 272 3 s0 t v rows->Hc t x e1 c1->Hc t y e2 c2->Hc t z e3 c3->e1≠272->e2≠272->e3≠272->∀b o n c,v=.slc b o n c 3->AM.h3 s x y z b=none:=fun {s t v rows x y z e1 e2 e3 c1 c2 c3} acc q1 q2 q3 n1 n2 n3 b o n c e=>by
  rcases acc.2 with⟨e',_⟩|⟨b',_,e',h⟩
  ·rw[e']at e;cases e
  ·rw[e']at e;cases e
   exact tR (λq=>by subst q;rw[h]at q1;cases q1;exact n1 rfl) (λq=>by subst q;rw[h]at q2;cases q2;exact n2 rfl) (λq=>by subst q;rw[h]at q3;cases q3;exact n3 rfl)
 have fix_:∀{t s2:Hq}{h:Hq}{v:AV}{n:Nat}{J:Hq->Prop},((∀b,t b≠none->t b=none->s2 b=none)->oK (wr1 (add s2 (rest t t)) (.ptr ab n) v) J)->Sub h s2->oK (wr1 (add h (lock s2 h)) (.ptr ab n) v) J:=fun {t s2 h v n J} hk hs=>by
  have e:add s2 (rest t t)=s2:=by
   funext i
   cases q:s2 i with
   |some _=>exact cU q
   |none=>rw[cC q];unfold rest;split<;>first|assumption|rfl
  have:=hk λb h1 h2=>absurd h2 h1;rw[e]at this;rw[unlock hs];exact this
 refine Od hs18 (off ((h5 a ha).sub sub3) (sub3 _ _ z3.oc) (sub3 _ _ h3) (sub3 _ _ h4) dE dE dE) (Oe (EB.put (R:=t18) (z3.more sub3) (sub3 _ _ h4) (λn hn=>(h5 n hn).sub sub3) h6 ha (.refl _) (λj=>.inl rfl) (lit h18) (by have:=hle a;omega) λs4 z4 k1 k2=>?_) λv s2 hk hs2=>fix_ hk hs2);have h34:s4 b0=_:=(k1 b0 _ _ (sub3 _ _ h3) dE dE).trans (sub3 _ _ h3);have l4:s4 l=_:=(k2 l _ (sub3 _ _ l3) (λ_ _ h=>by cases h)).trans (sub3 _ _ l3);have c4:∀j el cs,Hc s j el cs->el≠272->el≠270->s4 j=s j:=λj el cs hj e1 e2=>by have q:=c3 j el cs hj;rw[hj]at q;rw[k1 j el cs (sub3 _ _ q) e1 e2,sub3 _ _ q,hj]
 clear k1 k2 c3 sub3 h18 u18 hb18 h4 h5 h6 ra;have ⟨ws,h4,h5,h6⟩:=z4.row;have rb:((List.range N).map ws)[b]?=some (ws b):=by simp[hb]
 refine⟨AM.h3 s4 o b0 ab,pB,?_⟩;simp only[au (h3_1 z4.oc),g0Y,au (h3_2 h34),x0,x1,x2,ad hb,au (h3_3 h4),rb,ae];refine lit3 (e:=(i,a,c)) pB λb39 t39 hb39 h39 u39 hs39=>?_;have sub4:=u39.sub hb39;refine Od hs39 (off ((h5 b hb).sub sub4) (sub4 _ _ z4.oc) (sub4 _ _ h34) (sub4 _ _ h4) dE dE dE) (Oe (EB.put (R:=t39) (z4.more sub4) (sub4 _ _ h4) (λn hn=>(h5 n hn).sub sub4) h6 hb (.refl _) (λj=>.inl rfl) (lit h39) ?_ λs5 z5 k1 k2=>?_) λv s2 hk hs2=>fix_ hk hs2);have:addE E a (i,b,c) b=E b:=aj (Ne.symm hab)
 grind
 have l5:s5 l=_:=(k2 l _ (sub4 _ _ l4) (λ_ _ h=>by cases h)).trans (sub4 _ _ l4);unfold endK;rw[l5];simp only;refine hK _ (z5.loop l5 (λ_ _ h=>by cases h) h0 λ_ hi=>eL hi) fe λj el cs hj e1 e2=>?_;have q:=c4 j el cs hj e1 e2;rw[hj]at q;rw[eL (λq=>gR),k1 j el cs (sub4 _ _ q) e1 e2,sub4 _ _ q,hj]
variable{lv uv:AV}
def lkR(x:Lnk):List AV:=[x.1,x.2.1,x.2.2]
def edF(G:List Lnk)(U:List Bool)(n i:Nat):Option (Nat×Nat×Nat):=if U.getD i false then(match G[i]? with|some x=>(oth x n).map λm=>(i,m,x.2.2)|none=>none)else none
def edP(G:List Lnk)(U:List Bool)(k n:Nat):List (Nat×Nat×Nat):=(List.range k).filterMap (edF G U n)
theorem RX{k n:Nat}:edP G U (k+1) n=edP G U k n++(edF G U n k).toList:=by
 unfold edP;rw[range_succ,iG]
 congr 1
theorem Gp{k n:Nat}:(edP G U k n).length<=k:=by have:=iH (edF G U n) (List.range k);rw[fR]at this;exact this
theorem Gq{k:Nat}(h:U.getD k false=false):edP G U (k+1)=edP G U k:=by
 grind [RX,edF]
theorem Gs{k a b c:Nat}(h:U.getD k false=true)(hg:G[k]?=some (a,b,c))(hab:a≠b):edP G U (k+1)=addE (addE (edP G U k) a (k,b,c)) b (k,a,c):=by
 grind [RX,edF,oth,addE]
set_option maxHeartbeats 1000000 in
theorem Gt(z:GOk N G U)(hN:N<=32)(hG:G.length<=128)(hl:SlR 3 s lv (G.map lkR))(hu:Sl s uv (U.map AV.bool))(hK:∀v s',Sub s s'->AdjR s' v N (edL G U)->K v s'):wC TP 92 [.int .i64 (N:Int),lv,uv] K s:=by
 refine Zl ?_;have n0:nat? (.int .i64 (N:Int))=some N:=nat?_mk;simp only[QT,n0,ae];refine⟨⟨Nat.le_refl _,by omega⟩,aI λab s1 hab h1 u1=>aI λo s2 ho h2 u2=>?_⟩;have sub1:=u1.sub hab;have hos:s o=none:=by
  cases q:s o with
  |none=>rfl
  |some x=>rw[sub1 _ _ q]at ho;cases ho
 refine cw h2 (by simp) rfl λs3 h3 u3=>?_;have h3:s3 o=some (false,.cells 203 [.slc ab 0 N (some N) 1]):=h3;have sub3:Sub s s3:=dp (sub1.trans (u2.sub ho)) u3 hos;have hoab:ab≠o:=λq=>by rw[q,ho]at h1;cases h1
 have h3a:s3 ab=some (false,.cells 270 ((List.range N).map λ_=>AV.nilslc)):=by
  rw[u3 ab hoab,u2 ab hoab,h1,ig]
  congr 3
  refine d8 λi=>?_
  by_cases hi:i<N
  simp[hi];simp[hi]
 have z3:EB s s3 o ab N (edP G U 0):=⟨sub3,⟨hos,hab⟩,h3,λ_=>.nilslc,h3a,λn _=>⟨by simp[edP],.inl ⟨rfl,rfl⟩⟩,λn m _ _ _ b k b' k' e=>by cases e⟩
 refine XZ (fG hl.one λb0 s4 hb0 h4 u4=>fG hu.one λb2 s5 hb2 h5 u5=>?_);have sub5:Sub s3 s5:=(u4.sub hb0).trans (u5.sub hb2);have z5:=z3.more sub5;have h4':s5 b0=some (false,.cells 43 [lv]):=(u5.sub hb2) _ _ h4;refine⟨by kernel_rfl,trivial,λl d hlf=>?_⟩;have u6:Upto l s5 (hset s5 l (false,rdyC (rfAs 0 (bH Tryz.f92)) (rfBo 0 (bH Tryz.f92)) o d)):=λ_ hi=>eL hi;have l6:(hset s5 l (false,rdyC (rfAs 0 (bH Tryz.f92)) (rfBo 0 (bH Tryz.f92)) o d)) l=_:=fe;have z6:=z5.more (u6.sub hlf);have hls:s l=none:=by
  cases q:s l with
  |none=>rfl
  |some x=>rw[sub5 _ _ (sub3 _ _ q)]at hlf;cases hlf
 have h6a:=(u6.sub hlf) _ _ h4';have h6b:=(u6.sub hlf) _ _ h5;show wC TP 165 [.yield l,.ptr b0 0,.ptr b2 0] _ (hset s5 l (false,rdyC (rfAs 0 (bH Tryz.f92)) (rfBo 0 (bH Tryz.f92)) o d));generalize hset s5 l (false,rdyC (rfAs 0 (bH Tryz.f92)) (rfBo 0 (bH Tryz.f92)) o d)=s6 at u6 l6 z6 h6a h6b;refine X5 ?_;simp only[Qd,au h6a,g0Y,hl.len,lMY,ae,bG];refine⟨λys t m=>∃i:Nat,ys=[.int .i64 i]/\i<=G.length/\m=G.length-i/\EB s t o ab N (edP G U i)/\t l=some (false,rdyC (rfAs 0 (bH Tryz.f92)) (rfBo 0 (bH Tryz.f92)) o d)/\t b2=some (false,.cells 73 [uv]),⟨_,0,rfl,by omega,rfl,z6,l6,h6b⟩,?_⟩;rintro f t m ⟨i,hy,hi,rfl,zt,lt,ht2⟩;simp only[cI,aq]at hy;rw[hy];simp only[Qc,bu,ae];refine aL (λhlt=>?_) (λhge=>?_)
 ·have hlt:i<G.length:=by have:=oT hlt;omega
  obtain⟨x,hx⟩:∃x,G[i]?=some x:=⟨_,gE hlt⟩
  obtain⟨a,b,c⟩:=x;have ok:=z.ok _ (mG hx);obtain⟨pb,po,e1,e2,_⟩:=(hl.sub zt.sub).get (i:=i) (r:=lkR (a,b,c)) (by rw[getElem?_map,hx];rfl);obtain⟨p,g1,g2⟩:=(hu.sub zt.sub).get (i:=i) (by rw[lMY,z.len];exact hlt);have g3:(U.map AV.bool)[i]?=some (.bool (U.getD i false)):=by
   have:i<U.length:=by rw[z.len];exact hlt
   simp[this]
  rw[g3]at g2;simp only[e1,e2,ae];refine aI λbe t1 hbe h7 u7=>cD h7 rfl rfl rfl λt2 h8 u8=>?_;have h8:t2 be=some (false,.cells 145 (lkR (a,b,c))):=h8;have subt:Sub t t2:=dp (u7.sub hbe) u8 hbe;have z2:=zt.more subt;have lt2:=subt _ _ lt;have hb22:=subt _ _ ht2;have g2':rd1 t2 p=some (.bool (U.getD i false)):=by obtain⟨p',g1',g2'⟩:=(hu.sub z2.sub).get (i:=i) (by rw[lMY,z.len];exact hlt);rw[g1]at g1';cases g1';rw[g2',g3]
  have next:∀t3,EB s t3 o ab N (edP G U (i+1))->t3 l=some (false,rdyC (rfAs 0 (bH Tryz.f92)) (rfBo 0 (bH Tryz.f92)) o d)->t3 b2=some (false,.cells 73 [uv])->∃m',m'<G.length-i/\∃i':Nat,[AV.int .i64 ((i:Int)+1)]=[.int .i64 i']/\i'<=G.length/\m'=G.length-i'/\EB s t3 o ab N (edP G U i')/\t3 l=some (false,rdyC (rfAs 0 (bH Tryz.f92)) (rfBo 0 (bH Tryz.f92)) o d)/\t3 b2=some (false,.cells 73 [uv]):=λt3 a1 a2 a3=>⟨_,by omega,i+1,rfl,by omega,rfl,a1,a2,a3⟩
  simp only[au hb22,g0Y,g1,g2',ae];refine aL (λhup=>?_) (λhdn=>?_)
  ·have r3:rdN t2 3 (.ptr be 0)=some (lkR (a,b,c)):=bX h8 rfl
   simp only[r3,ae];refine⟨by unfold jw;rw[lt2];rfl,Gm (i:=i) (a:=a) (b:=b) (c:=c) (E:=edP G U i) z2 lt2 hls ok.1 ok.2.1 ok.2.2.1 (λn=>Nat.le_trans Gp (by omega)) λt3 z3 l3 k3=>?_⟩;rw[<- Gs hup hx ok.2.2.1]at z3;simp only[cQ,Bool.not_true,hup,yy,cy,aR,bg,ae,aS];rw[aT];exact next t3 z3 l3 ((k3 b2 _ _ hb22 (by decide) (by decide)).trans hb22)
  ·simp only[hdn,yy,ct,aR,bg,ae,aS]
   rw[aT];exact next t2 (by rw[Gq hdn];exact z2) lt2 hb22
 ·have hge:i=G.length:=by have:=oF hge;omega
  subst hge;unfold oY;rw[lt];refine⟨(λh=>by cases h),?_⟩;have z9:=zt.loop lt (λ_ _ h=>by cases h) hls (s':=hdel t l) λi hi=>aj hi;simp only[au z9.oc,g0Y,ae];obtain⟨vs,q1,q2,_⟩:=z9.row;exact hK _ _ z9.sub ⟨vs,.inr ⟨ab,0,some N,by simp,by simp,λ_=>⟨false,270,_,q1,by simp,λi _=>by rw[zAY]⟩⟩,λn hn=>(q2 n hn).sl⟩
variable{ev:AV}
abbrev RLk:=Int×Int×Int
def rwR(x:RLk):List AV:=[x.1,x.2.1,x.2.2]
def okL(n:Int)(x:RLk):Prop:=(0<=x.1/\x.1<n)/\(0<=x.2.1/\x.2.1<n)/\x.1≠x.2.1/\1<=x.2.2/\x.2.2<=1000
def vld(n:Int)(L:List RLk)(U:List Bool):Prop:=1<=n/\n<=32/\L.length<=128/\U.length=L.length/\∀x∈L,okL n x
theorem okD{n a p c:Int}(h:okL n (a,p,c)):(0<=a/\a<n)/\(0<=p/\p<n)/\a≠p/\1<=c/\c<=1000:=h
theorem okI{n a p c:Int}(h:(0<=a/\a<n)/\(0<=p/\p<n)/\a≠p/\1<=c/\c<=1000):okL n (a,p,c):=h
theorem gK{n x:Int}{b:Nat}(hb:Hc s b 3 [n])(hK:K (decide (x<0∨n<=x)) s):funK TP (.fn (.func 128) [] [Pp b]) [x] K s:=by
 refine⟨kR,?_⟩;refine XT ?_;simp only[P8,bu,ae];refine aL (λh=>?_) (λh=>?_)
 simp_all [yw,ae]
 rw[h];have h:=oF h;simp only[au hb,g0Y,dQ,yw,ct,ae];have e:decide (x<0∨n<=x)=decide (n<=x):=by
  by_cases q:n<=x
  rw[aH q,aH (.inr q)];rw[aC q,aC oM]
 rw[e]at hK;exact hK
theorem qV9{n:Int}{b:Nat}{es:List Int}(hb:Hc s b 3 [n])(he:Sl s ev (es.map (AV.int .i64)))(hl:es.length<=1000)(hK:∀r:Bool,(r=false↔∀e∈es,0<=e/\e<n)->K r s):wC TP 129 [ev,.fn (.func 128) [] [Pp b]] K s:=by
 refine OH (OW ?_);simp only[DY,he.len,lMY,ae,bG];refine⟨λys t m=>∃i:Nat,ys=[Ii i]/\t=s/\i<=es.length/\m=es.length-i/\∀e∈es.take i,0<=e/\e<n,⟨_,0,rfl,rfl,oM,rfl,sI⟩,?_⟩;rintro f t m ⟨i,hy,rfl,hi,rfl,hq⟩;simp only[cI,aq]at hy;rw[hy];simp only[DX,bu,ae,aS];refine aL (λhlt=>?_) (λhge=>?_)
 ·have hlt:i<es.length:=by have:=oT hlt;omega
  have ⟨p,g1,g2⟩:=he.get (i:=i) gR;have g3:(es.map (AV.int .i64))[i]?=some (es[i]):=by simp[hlt]
  rw[g3]at g2;simp only[g1,g2,ae];refine gK hb ?_;refine aL (λh=>?_) (λh=>?_)
  ·have h:=oT h
   simp only[dQ,ae];refine hK true ⟨(λh=>by cases h),λhall=>?_⟩;have:=hall _ (aN hlt);omega
  simp only[bg,ae];rw[aT];refine⟨_,oM,i+1,rfl,by trivial,oM,rfl,λe he=>?_⟩;rw[bO,gE hlt]at he
  grind
 grind [dQ,cP]
theorem fk{n:Int}{L:List RLk}{U:List Bool}{es:List Int}(hl:SlR 3 s lv (L.map rwR))(hlm:L.length<=9223372036854775807)(hu:Sl s uv (U.map AV.bool))(he:Sl s ev (es.map (AV.int .i64)))(hel:es.length<=1000)
  (hK:∀s' (r:Bool),Sub s s'->(r=true↔vld n L U/\∀e∈es,0<=e/\e<n)->K r s'):wC TP 90 [n,lv,uv,ev] K s:=by
 refine XO (fG rfl λb s1 hb h1 u1=>?_);have sub1:=u1.sub hb;have no:∀{s'},Sub s s'->¬(vld n L U/\∀e∈es,0<=e/\e<n)->K false s':=gR;simp only[au h1,g0Y,bu,dy,ae]
 by_cases c1:n<1
 ·rw[aH c1]
  exact no sub1 λh=>by have:=h.1.1;omega
 rw[aC c1]
 by_cases c2:(32:Int)<n
 ·rw[aH c2]
  exact no sub1 λh=>by have:=h.1.2.1;omega
 rw[aC c2];simp only[Ez,ct,aR,ae,(hl.sub sub1).len,lMY,dy]
 by_cases c3:(128:Int)<L.length
 ·rw[aH c3]
  simp only[yt,yr,cy,ct,bD,ae,bG];exact no sub1 λh=>by have:=h.1.2.2.1;omega
 rw[aC c3];simp only[yt,ct,aR,ae,(hl.sub sub1).len,(hu.sub sub1).len,lMY,cj,bJ,Bool.true_bne];cases c4:((U.length:Int) == (L.length:Int))with
 | false=>
   have c4:¬(U.length:Int)=L.length:=by simpa using c4
   exact no sub1 λh=>by have:=h.1.2.2.2.1;omega
 |true=>
 simp only[Bool.not_true,yr,ct,aR,ae,(hl.sub sub1).len,lMY,bG];refine⟨λys t m=>∃i:Nat,ys=[Ii i]/\i<=L.length/\m=L.length-i/\Sub s1 t/\∀x∈L.take i,okL n x,⟨_,0,rfl,oM,rfl,.refl s1,sI⟩,?_⟩;rintro f t m ⟨i,hy,hi,rfl,ht,hq⟩;simp only[cI,aq]at hy;rw[hy];have ht1:=sub1.trans ht;simp only[PZ,bu,ae];refine aL (λhlt=>?_) (λhge=>?_)
 ·have hlt:i<L.length:=gR
  have ⟨x,hx⟩:∃x,L[i]?=some x:=(by simp_all)
  have ⟨a,p,c⟩:=x;have ⟨pb,po,e1,e2,_⟩:=(hl.sub ht1).get (i:=i) (r:=rwR (a,p,c)) gR;simp only[e1,e2,ae];refine aI λbe t1 hbe h7 u7=>cD h7 rfl rfl rfl λt2 h8 u8=>?_;have h8:Hc t2 be 145 [a,p,c]:=h8;have subt:=dp (u7.sub hbe) u8 hbe;have hb2:=subt _ _ (ht _ _ h1);have st2:=ht1.trans subt;have y0:[AV.int .i64 a,p,c][0]?=some (Ii a):=rfl;have y1:[AV.int .i64 a,p,c][1]?=some (Ii p):=rfl;have y2:[AV.int .i64 a,p,c][2]?=some (Ii c):=rfl;have bad:¬okL n (a,p,c)->¬(vld n L U/\∀e∈es,0<=e/\e<n):=λh q=>h (q.1.2.2.2.2 _ (mG hx));have stop:∀t59 t62,cW t59 true t62=some true->¬okL n (a,p,c)->tu i t59 t62 (λys t m=>∃i:Nat,ys=[Ii i]/\i<=L.length/\m=L.length-i/\Sub s1 t/\∀x∈L.take i,okL n x) (L.length-i) K t2:=λt59 t62 h q=>by simp only[tu,h,aS];exact no st2 (bad q)
  simp only[aK,zAY,au h8,y0,ae];refine gK hb2 ?_
  by_cases d1:a<0∨n<=a
  ·rw[aH d1]
   simp only[bD,tx,pe,nG,cy,ae];exact stop _ _ rfl λh=>by have:=okD h;omega
  rw[aC d1];simp only[aR,au h8,y1,ae];refine gK hb2 ?_
  by_cases d2:p<0∨n<=p
  ·rw[aH d2]
   simp only[bD,tx,pe,nG,cy,ct,ae];exact stop _ _ rfl λh=>by have:=okD h;omega
  rw[aC d2];simp only[tx,ct,aR,aK,zAY,au h8,y0,y1,cj,bJ,Bool.false_bne,ae];cases d3:(a == p)with
  | true=>
    have d3:a=p:=by simpa using d3
    simp only[pe,nG,bD,cy,ct,ae];exact stop _ _ rfl λh=>(okD h).2.2.1 d3
  |false=>
  simp only[pe,ct,aR,aK,zAY,au h8,y2,bu,ae]
  by_cases d4:c<1
  ·rw[aH d4]
   simp only[nG,bD,ct,ae];exact stop _ _ rfl λh=>by have:=okD h;omega
  rw[aC d4];simp only[nG,ct,aR,aK,zAY,au h8,y2,dy,ae]
  by_cases d5:1000<c
  ·rw[aH d5]
   exact stop _ _ rfl λh=>by have:=okD h;omega
  rw[aC d5];simp only[tu,ct,aR,bg,ae,aS];rw[aT];refine⟨_,oM,i+1,rfl,oM,rfl,ht.trans subt,λy hy=>?_⟩;rw[bO,hx]at hy
  grind [okI]
 ·have hge:i=L.length:=gR
  subst hge;refine qV9 (ht _ _ h1) (he.sub ht1) hel λr hr=>?_
  grind [cQ,cP,vld]
variable{dv:AV}
theorem RY{n:Nat}(z:GOk N G U)(hn:n<N)(hG:G.length<=128)(hC:∀x∈G,x.2.2<=1000)(hd:∀m,m<N->-1<=d m/\d m<=32000)(hv:SlR 3 s v ((edL G U n).map edR))(hdv:Sl s dv (dl N d))
  (hK:∀v' s',AccR 272 3 s s' v' ((fS G U d n).map edR)->Sub s s'->K v' s'):wC TP 223 [v,dv,n] K s:=by
 have hcost:∀{i n m c:Nat},Ed G U i n m c->c<=1000:=fun {i n m c} e=>by
  rcases e.2 with e|e
  grind
  grind
 have hle:=zT (G:=G) (U:=U) (n:=n);refine XS ?_;simp only[P7,hv.len,lMY,ae,bG];refine⟨λys t m=>∃(i:Nat) (lv:AV),ys=[lv,i]/\i<=(edL G U n).length/\m=(edL G U n).length-i/\Sub s t/\AccR 272 3 s t lv ((((edL G U n).take i).filter λe=>decide (d n=d e.2.1+e.2.2)).map edR),⟨_,0,_,rfl,oM,rfl,.refl s,sI,.inl ⟨rfl,sI⟩⟩,?_⟩;rintro f t m ⟨i,lv,hy,hi,rfl,st,ac⟩;simp only[cI,aq]at hy;have ⟨hy1,hy2⟩:=hy;rw[hy1,hy2];simp only[P6,bu,ae];refine aL (λhlt=>?_) (λhge=>?_);have hlt:i<(edL G U n).length:=gR;obtain⟨e,he⟩:∃e,(edL G U n)[i]?=some e:=(by simp_all)
 have ⟨j,mm,c⟩:=e;have hed:=(nL z).1 (mG he);have ⟨_,mN,nem,c1,_⟩:=z.ed hed;have ⟨pb,po,e1,e2,_⟩:=(hv.sub st).get (i:=i) (r:=edR (j,mm,c)) gR;simp only[e1,e2,ae];refine aI λb t1 hb h1 u1=>cD h1 rfl rfl rfl λt2 h2 u2=>?_;have h2:Hc t2 b 272 [j,mm,c]:=h2;have subt:=dp (u1.sub hb) u2 hb;have st2:=st.trans subt;have ⟨p1,g1,g2⟩:=(hdv.sub st2).get (i:=n) (by rw[ij];exact hn);have ⟨p2,g3,g4⟩:=(hdv.sub st2).get (i:=mm) (by rw[ij];exact mN);rw[nP hn]at g2;rw[nP mN]at g4;have y1:[AV.int .i64 (j:Int),mm,c][1]?=some (Ii mm):=rfl;have y2:[AV.int .i64 (j:Int),mm,c][2]?=some (Ii c):=rfl;have dm:=hd mm mN;simp only[g1,g2,aK,zAY,au h2,y1,y2,g3,g4,bg,ae,cj,bJ,Bool.false_bne];rw[aT];have tk:((edL G U n).take (i+1)).filter (λe=>decide (d n=d e.2.1+e.2.2))=((edL G U n).take i).filter (λe=>decide (d n=d e.2.1+e.2.2))++(if d n=d mm+c then[(j,mm,c)]else[]):=by
  rw[bO,he,filter_append]
  congr 1
  by_cases q:d n=d mm+c
  simp[q];simp[q]
 refine aL (λheq=>?_) (λhne=>?_);have heq:d n=d mm+c:=by simpa using heq
 have r3:rdN t2 3 (Pp b)=some (edR (j,mm,c)):=bX h2 rfl;simp only[r3,ae];refine aE (a:=edR (j,mm,c)) rfl ⟨rfl,aI λb3 t3 hb3 h3 u3=>?_⟩;have sub3:=subt.trans (u3.sub hb3);have lit:SlR 3 t3 (.slc b3 0 1 (some 1) 3) ([(j,mm,c)].map edR):=SlR.mk (by intro r hr;simp only[cL,map_nil,bN]at hr;subst hr;rfl) (by simpa using h3) rfl sI;refine(ac.sub sub3).app lit sI ?_ (st.trans sub3) λv' t4 a4 s4=>?_;have:=eD (λe:Nat×Nat×Nat=>decide (d n=d e.2.1+e.2.2)) ((edL G U n).take i);have:=length_take_le i (edL G U n);simp only[lMY,cr,length_nil];omega;simp only[yv,bg,ae,aS];rw[aT];refine⟨_,oM,i+1,v',rfl,oM,rfl,s4,?_⟩;rw[tk,ak heq,bM];exact a4;simp only[yv,bg,ae,aS];rw[aT];refine⟨_,oM,i+1,lv,rfl,oM,rfl,st2,?_⟩
 grind [AccR.sub]
 have hge:i=(edL G U n).length:=gR;subst hge;rw[take_length]at ac;exact hK _ _ ac st
def toL(x:RLk):Lnk:=(x.1.toNat,x.2.1.toNat,x.2.2.toNat)
theorem vld.gok{n:Nat}{L:List RLk}(h:vld (n:Int) L U):GOk n (L.map toL) U/\(L.map toL).length<=128/\n<=32/\(∀x∈L.map toL,x.2.2<=1000)/\L.map rwR=(L.map toL).map lkR:=by
 have ⟨h1,h2,h3,h4,h5⟩:=h;refine⟨⟨gR,λx hx=>?_⟩,gR,oM,λx hx=>?_,?_⟩;obtain⟨⟨a,b,c⟩,hy,rfl⟩:=aG.1 hx;have:=okD (h5 _ hy);show a.toNat<n/\b.toNat<n/\a.toNat≠b.toNat/\1<=c.toNat/\c.toNat<=65535;omega;obtain⟨⟨a,b,c⟩,hy,rfl⟩:=aG.1 hx;have:=okD (h5 _ hy);show c.toNat<=1000;omega;rw[map_map];refine cK λx hx=>?_;have ⟨a,b,c⟩:=x;have:=okD (h5 _ hx);have e1:((a.toNat:Nat):Int)=a:=oM;have e2:((b.toNat:Nat):Int)=b:=oM;have e3:((c.toNat:Nat):Int)=c:=oM;show[AV.int .i64 a,b,c]=[Ii ((a.toNat:Nat)),Ii ((b.toNat:Nat)),Ii ((c.toNat:Nat))]
 rw[e1,e2,e3]
theorem pD{n x:Int}{L:List RLk}(hl:SlR 3 s lv (L.map rwR))(hlm:L.length<=9223372036854775807)(hu:Sl s uv (U.map AV.bool))
  (hK:∀v s',Sub s s'->(¬(vld n L U/\0<=x/\x<n)->v=.nilslc)->(∀(N r:Nat),vld (N:Int) L U->n=N->r<N->x=r->∃d b,IsDist N (L.map toL) U r d/\(∀m,m<N->-1<=d m/\d m<=32000)/\v=.slc b 0 N (some N) 1/\s b=none/\Hc s' b 3 (dl N d))->K v s'):wC TP 36 [n,lv,uv,x] K s:=by
 refine XH ?_;refine xl rfl rfl λeb s1 heb h1 u1=>?_;have sub1:=u1.sub heb;refine fk (es:=[x]) (hl.sub sub1) hlm (hu.sub sub1) (Sl.mk h1 rfl sI) sI λs2 r sub2 hr=>?_;have s02:=sub1.trans sub2;cases r with
 | false=>
   have hr:¬(vld n L U/\∀e∈[x],0<=e/\e<n):=λh=>gR;have hr':¬(vld n L U/\0<=x/\x<n):=λh=>gR;exact hK _ _ s02 (λ_=>rfl) λN r q1 q2 q3 q4=>by subst q2 q4;exact absurd ⟨q1,oM,oM⟩ hr'
 | true=>
   have ⟨hv,hx⟩:=hr.1 rfl;have hx:=hx x sI;obtain⟨N,rfl⟩:∃N:Nat,n=N:=⟨n.toNat,by have:=hv.1;omega⟩
   obtain⟨r,rfl⟩:∃r:Nat,x=r:=⟨x.toNat,oM⟩
   have ⟨z,hG,hN,hC,hm⟩:=hv.gok;have hrN:r<N:=oM;refine Gt z hN hG (by grind [SlR.sub]) (hu.sub s02) λav s3 sub3 ha=>?_;refine Gj z hN hG hC ha hrN λd b s4 hd hdm sub4 hb h4=>?_;have hdd:∀m,m<N->-1<=d m/\d m<=32000:=(by grind [IsDist.lo])
   have hbs:s b=none:=by
    cases q:s b with
    |none=>rfl
    |some y=>rw[sub3 _ _ (s02 _ _ q)]at hb;cases hb
   refine hK _ _ ((s02.trans sub3).trans sub4) (λh=>gR) λN' r' _ e1 _ e2=>?_;obtain rfl:N=N':=oM;obtain rfl:r=r':=oM;exact⟨d,b,hd,hdd,rfl,hbs,h4⟩
variable{r:Nat}
def far(G:List Lnk)(i n:Nat):Nat:=match G[i]? with
 |some (a,b,_)=>a+b-n
 |none=>n
theorem Gu(z:GOk N G U){i n m c:Nat}(h:Ed G U i n m c):far G i n=m:=by have:=z.ed h;unfold far;rcases h.2 with e|e<;>rw[e]<;>simp only<;>omega
theorem RZ(z:GOk N G U){n i m c:Nat}:(i,m,c)∈fS G U d n↔Ed G U i n m c/\d n=d m+c:=by
 grind [fS,nL]
theorem tS(G:List Lnk)(U:List Bool)(d:Nat->Int)(n:Nat):(parL G U d n=-1/\fS G U d n=[])∨∃i m c:Nat,parL G U d n=(i:Int)/\(i,m,c)∈fS G U d n/\∃l,fS G U d n=(i,m,c)::l:=by
 grind [parL]
theorem ly(z:GOk N G U)(h:IsDist N G U r d){n i:Nat}(hp:parL G U d n=(i:Int)):∃m c,Ed G U i n m c/\far G i n=m/\n<N/\m<N/\0<=d m/\d n=d m+c/\1<=c:=by
 rcases tS G U d n with⟨e,_⟩|⟨j,m,c,e,hm,_⟩;rw[e]at hp;omega;rw[e]at hp;have:j=i:=oM;subst this;have ⟨h1,h2⟩:=(RZ z).1 hm;have ⟨n1,m1,_,c1,_⟩:=z.ed h1;have lm:=h.lo m m1;refine⟨m,c,h1,Gu z h1,n1,m1,?_,h2,c1⟩
 by_cases q:0<=d n
 exact(h.clo j m n c h1.sym q).1;omega
theorem Gv(z:GOk N G U)(h:IsDist N G U r d){n:Nat}(hn:n<N)(h0:0<=d n)(hr:n≠r):∃i:Nat,parL G U d n=(i:Int):=by
 have ⟨i,m,c,h1,_,h3⟩:=h.sup n hn h0 hr;rcases tS G U d n with⟨_,e⟩|⟨j,_,_,e,_,_⟩
 ·have:=(RZ (d:=d) z).2 ⟨h1,h3⟩
  rw[e]at this;cases this
 exact⟨j,e⟩
theorem R2(z:GOk N G U)(h:IsDist N G U r d):parL G U d r=-1:=by
 grind [tS,ly,IsDist.fr]
theorem Gx(z:GOk N G U)(h:IsDist N G U r d){n:Nat}(h0:d n<0):parL G U d n=-1:=by
 grind [tS,ly]
theorem Gy(z:GOk N G U)(h:IsDist N G U r d){n i:Nat}(hp:parL G U d n=(i:Int)):i<G.length:=by have ⟨m,c,h1,_⟩:=ly z h hp;rcases h1.2 with e|e<;>exact(gS e).1
theorem zU(z:GOk N G U)(h:IsDist N G U r d){n n' i:Nat}(hp:parL G U d n=(i:Int))(hp':parL G U d n'=(i:Int)):n=n':=by have ⟨m,c,h1,_,_,_,_,h2,h3⟩:=ly z h hp;have ⟨m',c',h1',_,_,_,_,h2',h3'⟩:=ly z h hp';rcases h1.2 with e|e<;>rcases h1'.2 with e'|e'<;>rw[e]at e'<;>simp only[Option.some.injEq,Prod.mk.injEq]at e'<;>have ⟨rfl,rfl,rfl⟩:=e'<;>first|rfl|omega
inductive OnP (G:List Lnk) (p:Nat->Int):Nat->Nat->Prop where
 |here {n i:Nat}:p n=(i:Int)->OnP G p n i
 |up {n i j:Nat}:p n=(i:Int)->OnP G p (far G i n) j->OnP G p n j
theorem OnP.no{p:Nat->Int}{n j:Nat}(h:OnP G p n j):∃i:Nat,p n=(i:Int):=by
 cases h with
 |here e=>exact⟨_,e⟩
 |up e _=>exact⟨_,e⟩
theorem OnP.node(z:GOk N G U)(h:IsDist N G U r d){n j:Nat}(hj:OnP G (parL G U d) n j):∃n',parL G U d n'=(j:Int)/\d n'<=d n/\(n'≠n->d n'<d n)/\∀k,OnP G (parL G U d) n' k->OnP G (parL G U d) n k:=by
 induction hj with
 |here e=>grind
 | up e _ ih=>
   have ⟨n',h1,h2,h3,h4⟩:=ih;have ⟨m,c,_,e2,_,_,_,e3,e4⟩:=ly z h e;rw[e2]at h2;refine⟨n',h1,oM,λ_=>oM,λk hk=>.up e (h4 k hk)⟩
theorem OnP.lt(z:GOk N G U)(h:IsDist N G U r d){n j:Nat}(hj:OnP G (parL G U d) n j):j<G.length:=by have ⟨n',h1,_⟩:=hj.node z h;exact Gy z h h1
def InT(G:List Lnk)(p:Nat->Int)(M:Nat->Prop)(j:Nat):Prop:=∃m,M m/\OnP G p m j
theorem Gz(z:GOk N G U){n:Nat}(hn:¬n<N):edL G U n=[]:=by
 cases h:edL G U n with
 |nil=>rfl
 | cons e l=>
   have ⟨i,m,c⟩:=e;have:=(nL z).1 (by grind:(i,m,c)∈edL G U n);exact absurd (z.ed this).1 hn
theorem qYI(z:GOk N G U)(hd:∀n,n<N->d n=d' n){n:Nat}:fS G U d n=fS G U d' n:=by
 unfold fS
 by_cases hn:n<N
 ·refine filter_congr λe he=>?_
  have ⟨i,m,c⟩:=e;have:=z.ed ((nL z).1 he)
  grind
 ·rw[Gz z hn];rfl
open Classical in
noncomputable def dF(N:Nat)(G:List Lnk)(U:List Bool)(r:Nat):Nat->Int:=λn=>if h:∃d,IsDist N G U r d then h.choose n else 0
theorem tT(h:IsDist N G U r d):IsDist N G U r (dF N G U r):=by
 have hx:∃d,IsDist N G U r d:=⟨d,h⟩
 have e:dF N G U r=hx.choose:=by
  grind [dF]
 grind
theorem GA(z:GOk N G U)(h:IsDist N G U r d){n:Nat}(hn:n<N):d n=dF N G U r n:=RV z h (tT h) hn
end Go.AM
namespace Go.AM.TN
open Go Go.Proofs List Nat
set_option maxRecDepth 100000
variable{K:AV→Hq→Prop}{s s' s0 t:Hq}{lv v y:AV}
theorem dp{s s' s'':Hq}{b:Nat}(h:Sub s s')(u:Upto b s' s'')(hb:s b=none):Sub s s'':=λi e hi=>by rw[u i (dZ hb hi)];exact h i e hi
theorem eM(k:Sub s s'){b:Nat}(h:s' b=none):s b=none:=by
 cases q:s b with
 |none=>rfl
 |some y=>rw[k _ _ q]at h;cases h
theorem GB{x:Int}{n:Nat}(hx:-9223372036854775808<=x/\x<=9223372036854775807)(hn:1<=n)(hn2:n<=1000)(hK:∀r:Nat,r<n->K r s):wC TP 127 [x,n] K s:=by
 refine DN ?_;have c:decide ((n:Int)<=0)=false:=aC oM;have h1:=Int.tmod_lt_of_pos x (show(0:Int)<(n:Int)by omega);have h2:-(n:Int)<x.tmod n:=by have:=Int.tmod_lt_of_pos (-x) (show(0:Int)<(n:Int)by omega);rw[Int.neg_tmod]at this;omega
 simp only[sO,iX,c,aR,na (show(n:Int)≠0 by omega),bg,ae];rw[aT,Int.tmod_eq_emod_of_nonneg oM];have h3:=Int.emod_nonneg (x.tmod n+n) (show(n:Int)≠0 by omega);have h4:=Int.emod_lt_of_pos (x.tmod n+n) (show(0:Int)<(n:Int)by omega);obtain⟨r,hr⟩:∃r:Nat,(x.tmod n+n) % (n:Int)=r:=⟨((x.tmod n+n) % (n:Int)).toNat,oM⟩
 grind
structure Tk(s0 t:Hq)(b:Nat):Prop where
 sub:Sub s0 t
 fr:s0 b=none
 ex:∃(lv:AV) (l:List Int) (i:Nat),Hc t b 176 [lv,i]/\i<=9223372036854775807/\l.length<=9223372036854775807/\Sl s0 lv (l.map (AV.int .i64))/\∀x∈l,-9223372036854775808<=x/\x<=9223372036854775807
theorem Tk.more{b:Nat}(h:Tk s0 t b)(k:Sub t s):Tk s0 s b:=by have ⟨lv,l,i,h1,h2⟩:=h.ex;exact⟨h.sub.trans k,h.fr,lv,l,i,k _ _ h1,h2⟩
theorem Tk.keep{b:Nat}(h:Tk s0 t b){fp:Nat->Prop}(k:aV fp t s)(hb:¬fp b)(h0:∀i,fp i->s0 i=none):Tk s0 s b:=by have ⟨lv,l,i,h1,h2⟩:=h.ex;exact⟨λi e hi=>k _ _ (h.sub _ _ hi) λq=>gR,h.fr,lv,l,i,k _ _ h1 hb,h2⟩
theorem fz{b:Nat}{n:Nat}(h:Tk s0 t b)(hn:1<=n)(hn2:n<=1000)(hK:∀t' (r:Nat),r<n->Tk s0 t' b->Upto b t t'->K r t'):wC TP 77 [Pp b,n] K t:=by
 have ⟨lv,l,i,h1,h2,h3,h4,h5⟩:=h.ex;have h4t:=h4.sub h.sub;refine UI ?_;have e0:[lv,AV.int .i64 (i:Int)][0]?=some lv:=rfl;have e1:[lv,AV.int .i64 (i:Int)][1]?=some (Ii i):=rfl;simp only[Oq,bQ,aK,zAY,au h1,e0,e1,h4t.len,lMY,dQ,ae];refine aL (λc=>hK t 0 oM h λ_ _=>rfl) (λc=>?_);have c:=oF c;have hi:i<l.length:=oM;simp only[bg,ae];rw[aT];refine cw h1 sI rfl λt2 h6 u6=>?_;have h6:Hc t2 b 176 [lv,((i+1:Nat):Int)]:=by
  grind
 have e3:[lv,AV.int .i64 ((i+1:Nat):Int)][0]?=some lv:=rfl;have e4:[lv,AV.int .i64 ((i+1:Nat):Int)][1]?=some (Ii ((i+1:Nat))):=rfl;have sub2:=dp h.sub u6 h.fr;have ⟨p,g1,g2⟩:=(h4.sub sub2).get (i:=i) gR;have g3:(l.map (AV.int .i64))[i]?=some (l[i]):=by simp[hi]
 rw[g3]at g2;simp only[au h6,e3,e4,eC,ae];rw[aT];have e5:((i+1:Nat):Int)-1=(i:Int):=oM;rw[e5];simp only[g1,g2,ae];exact GB (h5 _ (aN hi)) hn hn2 λr hr=>hK t2 r hr ⟨sub2,h.fr,lv,l,i+1,h6,oM,h3,h4,h5⟩ u6
abbrev RLk:=Int×Int×Int
def lkC(x:RLk):List AV:=[x.1,x.2.1,x.2.2]
def iz(l:List Nat):List AV:=l.map λ(n:Nat)=>n
theorem lA{l:List Nat}:(iz l).length=l.length:=by unfold iz;simp
theorem nQ{l m:List Nat}:iz (l++m)=iz l++iz m:=by unfold iz;simp
theorem _root_.Go.AM.Acc.app2{elem:ah}{l m:List AV}(h:Acc elem s0 s v l)(hs:Sub s0 s)(hy:Sl s y m)(hm:m≠[])(hl:l.length+m.length<=16777216)(hK:∀v' s',Acc elem s0 s' v' (l++m)->Sub s0 s'->K v' s'):appK elem 1 v y K s:=
 h.app hy hm hl (λi hi=>by
  cases q:s0 i with
  |none=>exact absurd q hi
  | some e=>rw[hs _ _ q];simp) λv' s' h1 h2=>hK v' s' h1 λi e hi=>h2 i e (hs _ _ hi) λb hb=>by
    rintro rfl;rcases h with⟨q,_⟩|⟨j,q1,q2,_⟩
    ·rw[q]at hb;cases hb
    grind
theorem _root_.Go.AM.Acc.sub{elem:ah}{l:List AV}(h:Acc elem s0 s v l)(k:Sub s s'):Acc elem s0 s' v l:=h.imp id λ⟨b,h0,h1,h2⟩=>⟨b,h0,h1,k _ _ h2⟩
theorem _root_.Go.AM.Acc.upto{elem:ah}{l:List AV}{b:Nat}(h:Acc elem s0 s v l)(u:Upto b s s')(hb:s0 b≠none):Acc elem s0 s' v l:=h.imp id λ⟨c,h0,h1,h2⟩=>⟨c,h0,h1,by rw[u c λe=>hb (by rw[<- e];exact h0)];exact h2⟩
theorem tV{b:Nat}{n most:Nat}(h:Tk s0 t b)(hn:1<=n)(hn2:n<=100)(hm:1<=most)(hm2:most<=100)
  (hK:∀t' v (l:List Nat),Tk s0 t' b->aV (λi=>i=b) t t'->Acc 3 t t' v (iz l)∨(∃c,t c=none/\v=.slc c 0 1 (some 1) 1/\Hc t' c 3 (iz l)/\l.length=1)->l.Pairwise (· < ·)->l≠[]->(∀i∈l,i<n)->l.length<=most->K v t') :
  wC TP 80 [Pp b,n,most] K t:=by
 refine DC (fz h hn oM λt1 first hf h1 u1=>?_);have hbt:t b≠none:=by
  grind [Tk.ex]
 refine⟨λys t2 m=>∃(i:Nat) (v:AV) (l:List Nat),ys=[v,i]/\i<=n/\m=n-i/\Tk s0 t2 b/\aV (λi=>i=b) t t2/\Acc 3 t t2 v (iz l)/\l.Pairwise (· < ·)/\(∀j∈l,j<i)/\l.length<=most,⟨_,0,.nilslc,[],rfl,oM,rfl,h1,u1.keep rfl,.inl ⟨rfl,rfl⟩,.nil,sI,sI⟩,?_⟩;rintro f t2 m ⟨i,v,l,hy,hi,rfl,tk,kp,acc,asc,lt,len⟩;simp only[cI,aq]at hy;rw[hy.1,hy.2];have fin:∀c:Bool,c=false->o7 (Pp b) v first i true c (λys t2 m=>∃(i:Nat) (v:AV) (l:List Nat),ys=[v,i]/\i<=n/\m=n-i/\Tk s0 t2 b/\aV (λi=>i=b) t t2/\Acc 3 t t2 v (iz l)/\l.Pairwise (· < ·)/\(∀j∈l,j<i)/\l.length<=most) (n-i) K t2/\o7 (Pp b) v first i false .undef (λys t2 m=>∃(i:Nat) (v:AV) (l:List Nat),ys=[v,i]/\i<=n/\m=n-i/\Tk s0 t2 b/\aV (λi=>i=b) t t2/\Acc 3 t t2 v (iz l)/\l.Pairwise (· < ·)/\(∀j∈l,j<i)/\l.length<=most) (n-i) K t2:=λc hc=>by
  subst hc;have e:∀x y:AV,cW x y false=some false->o7 (Pp b) v first i x y (λys t2 m=>∃(i:Nat) (v:AV) (l:List Nat),ys=[v,i]/\i<=n/\m=n-i/\Tk s0 t2 b/\aV (λi=>i=b) t t2/\Acc 3 t t2 v (iz l)/\l.Pairwise (· < ·)/\(∀j∈l,j<i)/\l.length<=most) (n-i) K t2:=λx y hxy=>by
   simp only[o7,hxy,acc.sl.len,lA,cj,bJ,Bool.false_bne,ae];refine aL (λq=>?_) (λq=>?_)
   ·refine xl rfl rfl λc t3 hc h3 u3=>?_
    have k3:=u3.sub hc;have hcb:c≠b:=(by grind [Tk.ex])
    have hct:t c=none:=by
     cases q':t c with
     |none=>rfl
     |some y=>rw[kp _ _ q' hcb]at hc;cases hc
    exact hK t3 _ [first] (tk.more k3) (kp.trans k3.keep) (.inr ⟨c,hct,rfl,h3,rfl⟩) sI sI (by simpa using hf) (by simpa using hm)
   ·have q:¬(l.length:Int)=0:=by simpa using q
    exact hK t2 v l tk kp (.inl acc) asc (λe=>q (by rw[e];rfl)) (λj hj=>by have:=lt j hj;omega) len
  exact⟨e _ _ rfl,e _ _ rfl⟩
 simp only[Ov,bu,ae];refine aL (λhlt=>?_) (λhge=>?_)
 rotate_left
 ·grind
 rw[hlt];have hlt:=oT hlt;simp only[acc.sl.len,lA,ae]
 by_cases cl:l.length<most
 rotate_left
 ·grind
 have cl':decide ((l.length:Int)<(most:Int))=true:=aH oM;rw[cl'];have put:∀t3,Tk s0 t3 b->aV (λi=>i=b) t t3->Acc 3 t t3 v (iz l)->∀x y:AV,cW x true y=some (.bool true)->o6 v i x y (λys t2 m=>∃(i:Nat) (v:AV) (l:List Nat),ys=[v,i]/\i<=n/\m=n-i/\Tk s0 t2 b/\aV (λi=>i=b) t t2/\Acc 3 t t2 v (iz l)/\l.Pairwise (· < ·)/\(∀j∈l,j<i)/\l.length<=most) (n-i) K t3:=λt3 tk3 kp3 acc3 x y hxy=>by
  simp only[o6,hxy,bD,ae];refine xl rfl rfl λc t4 hc h4 u4=>?_;have k4:=u4.sub hc;have tk4:=tk3.more k4;have kp4:=kp3.trans (k4.keep (fp:=λi=>i=b));have a4:Acc 3 (λj=>if j=b then t4 j else t j) t4 v (iz l):=(acc3.sub k4).imp id λ⟨c,h0,h1,h2⟩=>gR;have s4:=λj e hj=>by
   have hj:(if j=b then t4 j else t j)=some e:=hj;split at hj
   ·exact hj
   ·rename_i ne
    exact kp4 _ _ hj ne
  refine a4.app2 s4 (Sl.mk h4 rfl sI) sI (by grind [lA]) λv' t5 a5 k5=>?_;simp only[xq,bg,ae,aS];rw[aT];have kp5:aV (λi=>i=b) t t5:=λj e hj ne=>k5 _ _ gR;have tb5:t5 b=t4 b:=by
   cases q:t4 b with
   | none=>
     have ⟨lv,l',i',q',_⟩:=tk4.ex;rw[q']at q;cases q
   |some e=>exact k5 _ _ gR
  have tk5:Tk s0 t5 b:=by
   have ⟨lv,l',i',q',q''⟩:=tk4.ex;refine⟨λj e hj=>?_,h.fr,lv,l',i',by rw[tb5];exact q',q''⟩;have ne:j≠b:=(by grind [Tk.fr])
   exact kp5 _ _ (h.sub _ _ hj) ne
  refine⟨_,oM,i+1,v',l ++ [i],rfl,oM,rfl,tk5,kp5,?_,?_,?_,?_⟩
  ·rw[nQ]
   exact a5.imp id λ⟨c,h0,h1,h2⟩=>⟨c,by
    grind,h1,h2⟩
  ·grind
  ·grind
  grind
 have skip:∀t3,Tk s0 t3 b->aV (λi=>i=b) t t3->Acc 3 t t3 v (iz l)->o6 v i false false (λys t2 m=>∃(i:Nat) (v:AV) (l:List Nat),ys=[v,i]/\i<=n/\m=n-i/\Tk s0 t2 b/\aV (λi=>i=b) t t2/\Acc 3 t t2 v (iz l)/\l.Pairwise (· < ·)/\(∀j∈l,j<i)/\l.length<=most) (n-i) K t3:=λt3 tk3 kp3 acc3=>by simp only[o6,ct,aR,ae,xq,bg,aS];rw[aT];exact⟨_,oM,i+1,v,l,rfl,oM,rfl,tk3,kp3,acc3,asc,λj hj=>by have:=lt j hj;omega,len⟩
 refine aL (λce=>?_) (λce=>?_)
 ·rw[ce]
  exact put t2 tk kp acc _ _ rfl
 ·rw[ce]
  refine fz tk (n:=3) oM oM λt3 r hr tk3 u3=>?_;have kp3:=kp.trans (u3.keep (fp:=λi=>i=b) rfl);have acc3:=acc.upto u3 hbt;simp only[cj,bJ,Bool.false_bne,ae];cases q:((r:Int) == 1)with
  |true=>exact put t3 tk3 kp3 acc3 _ _ rfl
  |false=>exact skip t3 tk3 kp3 acc3
end Go.AM.TN
namespace Go.AM
open Go Go.Proofs List Nat
set_option maxRecDepth 100000
def iz(l:List Nat):List AV:=l.map λ(n:Nat)=>n
theorem lA{l:List Nat}:(iz l).length=l.length:=by unfold iz;simp
theorem nQ{l m:List Nat}:iz (l++m)=iz l++iz m:=by unfold iz;simp
variable{N:Nat}
theorem GC{db n:Nat}(hn:n<N):cF 1 (.slc db 0 N (some N) 1) n=some (.ptr db n):=by
 have:blt n N=true:=by rw[bZ];exact hn
 simp[cF,this]
variable{s s0:Hq}{v:AV}{G:List Lnk}{U:List Bool}{d:Nat→Int}
theorem Acc.weak{elem:ah}{s1:Hq}{l:List AV}(h:Acc elem s1 s v l)(k:Sub s0 s1):Acc elem s0 s v l:=h.imp id λ⟨b,h0,h1,h2⟩=>⟨b,(by
 cases q:s0 b with
 |none=>rfl
 |some x=>rw[k _ _ q]at h0;cases h0),h1,h2⟩
def nrL(G:List Lnk)(U:List Bool)(d:Nat->Int)(n:Nat):List Nat:=(fS G U d n).map (·.1)
section
variable (P : Program)
end
variable{K:AV→Hq→Prop}{s' t:Hq}{L:List RLk}{lnv upv w dv mv:AV}{lf sp sf g:Int}{r:Nat}{ds:Nat→Int}{es:List Int}
theorem eM(k:Sub s s'){b:Nat}(h:s' b=none):s b=none:=by
 cases q:s b with
 |none=>rfl
 |some y=>rw[k _ _ q]at h;cases h
variable{lv uv:AV}
theorem AccR.weak{elem:ah}{es:Nat}{s1:Hq}{rows:List (List AV)}(h:AccR elem es s1 s v rows)(k:Sub s0 s1):AccR elem es s0 s v rows:=⟨h.1,h.2.imp id λ⟨b,h0,h1,h2⟩=>⟨b,eM k h0,h1,h2⟩⟩
theorem GD{L:List RLk}{n t:Nat}(hl:SlR 3 s lv (L.map rwR))(hu:Sl s uv (U.map AV.bool))(hv:vld (N:Int) L U)(hn:n<N)(ht:t<N)
  (hK:∀v s' d,IsDist N (L.map toL) U t d->Acc 3 s s' v (iz (nrL (L.map toL) U d n))->Sub s s'->K v s'):wC TP 205 [N,lv,uv,n,t] K s:=by
 have hlm:L.length<=9223372036854775807:=by have:=hv.2.2.1;omega
 have ⟨z,hG,hN,hC,hrw⟩:=vld.gok hv;refine XK ?_;refine aE (a:=[n,t]) rfl ⟨rfl,aI λeb s1 heb h1 u1=>?_⟩;have sub1:=u1.sub heb;refine fk (es:=[(n:Int),(t:Int)]) (hl.sub sub1) hlm (hu.sub sub1) (Sl.mk h1 rfl sI) sI λs2 r sub2 hr=>?_;have hr1:r=true:=gR;rw[hr1];have s02:=sub1.trans sub2;rw[hrw]at hl;simp only[cQ,Bool.not_true,aR,ae];refine Gt z hN hG (hl.sub s02) (hu.sub s02) λev s3 sub3 he=>?_;have s03:=s02.trans sub3;have ⟨p,w,g1,g2,g3⟩:=he.at hn;refine⟨s3,.refl s3,?_⟩;simp only[g1,g2,ae];rw[gT];have hef:AdjR (frz s3) ev N (edL (L.map toL) U):=by have ⟨vs,h1,h2⟩:=he;exact⟨vs,h1.frz,λn hn=>(h2 n hn).frz⟩
 refine Gj z hN hG hC hef ht λd b s4 isd hbd sub4 hb0 hb4=>?_;have hb0:=jg.1 hb0;have hb5:add s3 s4 b=some (false,.cells 3 (dl N d)):=by grind [cC]
 have sub5:Sub s3 (add s3 s4):=iD;generalize add s3 s4=s5 at hb5 sub5;have s05:=s03.trans sub5;refine RY z hn hG hC (λm hm=>⟨isd.lo m hm,hbd m hm⟩) (g3.sub sub5) (Sl.mk hb5 ij.symm (by simp[ij])) λnv s6 ac6 sub6=>?_;have s06:=s05.trans sub6;have hnl:(fS (L.map toL) U d n).length<=128:=by refine Nat.le_trans (eD _ _) (Nat.le_trans ?_ hG);exact zT
 simp only[ac6.sl.len,lMY,ae];refine⟨λys x m=>∃(k:Nat) (ov:AV),ys=[ov,k]/\k<=(fS (L.map toL) U d n).length/\m=(fS (L.map toL) U d n).length-k/\Sub s6 x/\Acc 3 s6 x ov (iz ((nrL (L.map toL) U d n).take k)),⟨_,0,.nilslc,rfl,oM,rfl,.refl s6,.inl ⟨rfl,rfl⟩⟩,?_⟩;rintro f x m ⟨k,ov,hy,hk,rfl,st,ac⟩;simp only[cI,aq]at hy;rw[hy.1,hy.2];simp only[PX,bu,ae,aS];refine aL (λhlt=>?_) (λhge=>?_)
 rotate_left
 have hge:k=(fS (L.map toL) U d n).length:=by have:=oF hge;omega
 have e:(nrL (L.map toL) U d n).take k=nrL (L.map toL) U d n:=by rw[hge];exact take_of_length_le (by grind [nrL])
 grind [Acc.weak,Sub.trans]
 have hlt:k<(fS (L.map toL) U d n).length:=gR;obtain⟨e,he⟩:∃e,(fS (L.map toL) U d n)[k]?=some e:=(by simp_all)
 have ⟨pb,po,e1,e2,_⟩:=(ac6.sl.sub st).get (i:=k) (r:=edR e) gR;simp only[e1,e2,ae];refine aI λbe x1 hbe h7 u7=>cD h7 rfl rfl rfl λx2 h8 u8=>?_;have h8:Hc x2 be 272 (edR e):=h8;have st2:Sub x x2:=dp (u7.sub hbe) u8 hbe;have r0:rd1 x2 (Pp be)=some (Ii e.1):=by rw[au h8];rfl
 simp only[aK,zAY,r0,ae];refine xl rfl rfl λb6 x3 hb6 h6 u6=>?_;have st3:=st2.trans (u6.sub hb6);refine(ac.sub st3).app2 (st.trans st3) (Sl.mk h6 rfl sI) sI ?_ λv' x4 a4 s04=>?_
 grind [lA]
 simp only[bg,ae];rw[aT];refine⟨_,oM,k+1,v',rfl,oM,rfl,s04,?_⟩;have:(nrL (L.map toL) U d n)[k]?=some e.1:=by grind [nrL]
 rw[bO,this,nQ];exact a4
variable{y:AV}
def lbk(n:Nat):Int:=184483841+n
theorem GE{n:Nat}(hn:n<32):dX .u32 n=some (Iw n)/\cZ .add (Iw 184483840) (Iw n)=some (Iw (184483840+n))/\cZ .add (Iw (184483840+n)) (Iw 1)=some (Iw (lbk n)):=by
 have w:∀x:Int,0<=x->x<4294967296->aA.u32.wrap x=x:=λx h1 h2=>by unfold aA.wrap;simp[aA.bits,aA.signed];omega
 refine⟨?_,?_,?_⟩;show some (AV.int .u32 (dw .u32 (n:Int)))=_;rw[show dw .u32 (n:Int)=n by rw[kj];simp[aA.bits,aA.signed]<;>omega]
 grind [bg]
 grind [bg,lbk]
theorem pE{n:Nat}(hn:n<32)(hK:K (.tup [Iw (lbk n),Ii 0]) s):wC TP 47 [n] K s:=by have ⟨a1,a2,a3⟩:=GE hn;have c1:decide ((n:Int)<0)=false:=aC oM;have c2:decide ((32:Int)<=(n:Int))=false:=aC oM;refine XL ?_;simp only[PY,bu,dQ,c1,c2,aR,ae,Ey,ct,a1,a2,a3];exact hK
abbrev EnV:=Int×AV×List Nat
def enR(x:EnV):List AV:=[Iw x.1,x.2.1]
structure Ens(s0 s:Hq)(v:AV)(R:List EnV):Prop where
 sub:Sub s0 s
 ex:∃sb,Sub s0 sb/\Sub sb s/\AccR 285 2 sb s v (R.map enR)/\∀x∈R,Acc 3 s0 sb x.2.1 (iz x.2.2)
theorem Ens.more{R:List EnV}(h:Ens s0 s v R)(k:Sub s s'):Ens s0 s' v R:=by have ⟨a,sb,b,c,e,f⟩:=h;exact⟨a.trans k,sb,b,c.trans k,e.sub k,f⟩
theorem Ens.nil:Ens s s .nilslc []:=⟨.refl s,s,.refl s,.refl s,⟨(λr h=>by cases h),.inl ⟨rfl,rfl⟩⟩,λx h=>by cases h⟩
def offV(v:AV)(t:Hq):Hq:=match v with
 | .slc b _ _ _ _=>hdel t b
 |_=>t
theorem lB{v:AV}:Sub (offV v t) t:=λi x hi=>by
 unfold offV at hi;split at hi
 ·rename_i b _ _ _ _
  have hi:(if i=b then none else t i)=some x:=hi;split at hi
  ·cases hi
  exact hi
 exact hi
theorem gV{v:AV}{i:Nat}(h:∀b o n c e,v=.slc b o n c e->i≠b):offV v t i=t i:=by unfold offV;split;exact aj (h _ _ _ _ _ rfl);rfl
theorem Ens.put{R:List EnV}{n:Int}{w y:AV}{l:List Nat}{t:Hq}(h:Ens s0 s v R)(k:Sub s t)(hw:Acc 3 s t w (iz l))(hy:SlR 2 t y [enR (n,w,l)])(hl:R.length<=1000)(hK:∀v' s',Ens s0 s' v' (R ++ [(n,w,l)])->K v' s'):appK 285 2 v y K t:=by
 have ⟨h0,sb,b,c,ac,hR⟩:=h;have own:∀i b o n c e,v=.slc b o n c e->sb i≠none->i≠b:=λi b o n c e q q2 q3=>by
  rcases ac.2 with⟨r,_⟩|⟨j,r1,r2,r3⟩
  ·rw[r]at q;cases q
  grind
 have k1:Sub sb (offV v t):=λi x hi=>by rw[gV gR];exact k _ _ (c _ _ hi)
 have ac2:AccR 285 2 (offV v t) t v (R.map enR):=by refine⟨ac.1,ac.2.imp id λ⟨i,q1,q2,q3⟩=>⟨i,?_,q2,k _ _ q3⟩⟩;rw[q2];exact ak rfl
 have hwc:Acc 3 s0 (offV v t) w (iz l):=by
  rcases hw with⟨q1,q2⟩|⟨i,q1,q2,q3⟩;exact .inl ⟨q1,q2⟩
  ·have:offV v t i=some (false,.cells 3 (iz l)):=by
    rw[gV λb o n c e q q4=>?_];exact q3
    ·rcases ac.2 with⟨r,_⟩|⟨j,r1,r2,r3⟩
     ·rw[r]at q;cases q
     grind
   exact .inr ⟨i,eM h0 q1,q2,this⟩
 refine ac2.app hy sI gR lB λv' s' a' k'=>?_;refine hK v' s' ⟨b.trans (k1.trans k'),offV v t,b.trans k1,k',?_,λx hx=>?_⟩
 grind
 rcases mP hx with q|q;exact(hR x q).sub k1
 grind
theorem GF{n:Int}{w:AV}{l:List Nat}(hw:w.one=true){R:List AV->Prop}(h:R (enR (n,w,l))):oK (aM [(Iw 0),.nilslc] [(0,1,Iw n),(1,1,w)]) R:=by refine aE (a:=enR (n,w,l)) ?_ h;show cond (beq w.cells.length 1&&ble (1+w.cells.length) 2) (aM (dB [Iw n,.nilslc] 1 w.cells) []) none=_;rw[fZ hw];rfl
theorem R3{zs c:List AV}(h:c.length=zs.length):aM (repl 1 zs) [(0,zs.length,.agg c)]=some c:=by
 have e0:repl 1 zs=zs:=by simp[repl]
 rw[e0];have e2:beq c.length zs.length=true:=by simp_all
 have e3:ble (0+c.length) zs.length=true:=bL oM
 grind [aM,jZ,dB]
theorem pF{R:List EnV}{n:Int}{w:AV}{l:List Nat}{t:Hq}(h:Ens s0 s v R)(k:Sub s t)(hw:Acc 3 s t w (iz l))(hl:R.length<=1000)(hK:∀v' s',Ens s0 s' v' (R ++ [(n,w,l)])->K v' s'):
  oK (aM [(Iw 0),.nilslc] [(0,1,Iw n),(1,1,w)]) λc_17=>
   oK (aM (repl 1 [(Iw 0),.nilslc]) [(0,2,(.agg c_17))]) λc_18=>aX c_18=true/\newK 285 c_18 (λb_19 s_20=>
   appK 285 2 v (.slc b_19 0 1 (some 1) 2) (λv_21 s_22=>K v_21 s_22) s_20) t:=by
 refine GF (l:=l) hw.sl.one (aE (R3 (zs:=[(Iw 0),.nilslc]) (c:=enR (n,w,l)) rfl) ⟨?_,aI λb s1 hb h1 u1=>?_⟩);show((AV.int .u32 n).one&&(w.one&&true))=true;rw[hw.sl.one];rfl;refine h.put (k.trans (u1.sub hb)) (hw.sub (u1.sub hb)) (SlR.mk (rows:=[enR (n,w,l)]) (by intro r hr;rw[bN]at hr;subst hr;rfl) (by simpa using h1) rfl sI) hl hK
variable{M:Nat→Prop}
theorem qYT(z:GOk N G U)(hN:N<=40)(hr:r<N):∃d,IsDist N G U r d:=by
 have key:∀(k:Nat) (d:Nat->Int),RInv N G U r d->muD N d=k->∃d,IsDist N G U r d:=by
  intro k
  induction k using Nat.strongRecOn with
  | _ k ih=>
    intro d h hk
    by_cases q:∀i a b c,Ed G U i a b c->0<=d a->0<=d b/\d b<=d a+c
    exact⟨d,h.end_ q⟩;have:∃i a b c,Ed G U i a b c/\0<=d a/\(d b<0∨d a+c<d b):=by
     grind
    have ⟨i,a,b,c,e,h0,hb⟩:=this;have ⟨h1,h2⟩:=h.relax z hN e h0 hb
    grind
 exact key _ _ (RInv.start hr) rfl
theorem tW(z:GOk N G U)(hN:N<=40)(hr:r<N):IsDist N G U r (dF N G U r):=by
 grind [qYT,tT]
inductive Con (G:List Lnk) (U:List Bool):Nat->Nat->Prop where
 |refl (n:Nat):Con G U n n
 |step {n m k i c:Nat}:Con G U n m->Ed G U i m k c->Con G U n k
theorem Con.trans{n m k:Nat}(h:Con G U n m)(h':Con G U m k):Con G U n k:=by
 induction h' with
 |refl=>exact h
 |step _ e ih=>exact .step ih e
theorem Con.symm{n m:Nat}(h:Con G U n m):Con G U m n:=by
 induction h with
 |refl=>exact .refl _
 |step _ e ih=>exact(Con.step (.refl _) e.sym).trans ih
theorem qXo(z:GOk N G U)(h:IsDist N G U r d):∀(k n:Nat),n<N->0<=d n->(d n).toNat=k->Con G U r n:=by
 intro k
 induction k using Nat.strongRecOn with
 | _ k ih=>
   intro n hn h0 hk
   by_cases e:n=r
   rw[e];exact .refl _;have ⟨i,m,c,h1,h2,h3⟩:=h.sup n hn h0 e;have ⟨_,hm,_,hc,_⟩:=z.ed h1;exact .step (gR) h1.sym
theorem qXy(h:IsDist N G U r d){n:Nat}(c:Con G U r n):0<=d n:=by
 induction c with
 |refl=>grind [IsDist.fr]
 |step _ e ih=>exact(h.clo _ _ _ _ e.sym ih).1
theorem R5(z:GOk N G U)(h:IsDist N G U r d){n:Nat}(hn:n<N):0<=d n↔Con G U r n:=⟨λh0=>qXo z h _ n hn h0 rfl,qXy h⟩
abbrev Tr0(G:List Lnk)(U:List Bool)(d:Nat->Int)(M:Nat->Prop):Nat->Prop:=InT G (parL G U d) M
def InV(G:List Lnk)(U:List Bool)(r:Nat)(d:Nat->Int)(M:Nat->Prop)(n:Nat):Prop:=n=r∨∃i:Nat,parL G U d n=(i:Int)/\Tr0 G U d M i
theorem Tr0.lt(z:GOk N G U)(h:IsDist N G U r d){i:Nat}(hi:Tr0 G U d M i):i<G.length:=by have ⟨m,_,q⟩:=hi;exact q.lt z h
theorem Tr0.ends(z:GOk N G U)(h:IsDist N G U r d){i:Nat}(hi:Tr0 G U d M i):∃n m c,parL G U d n=(i:Int)/\Ed G U i n m c/\n<N/\m<N/\far G i n=m/\n≠r/\d m<d n/\0<=d m/\InV G U r d M n/\InV G U r d M m:=by
 have ⟨q,hq,h1⟩:=hi;have ⟨n,hn,_,_,hw⟩:=h1.node z h;have ⟨m,c,e1,e2,e3,e4,e5,e6,e7⟩:=ly z h hn;refine⟨n,m,c,hn,e1,e3,e4,e2,λe=>?_,oM,e5,.inr ⟨i,hn,q,hq,hw i (.here hn)⟩,?_⟩
 grind [R2]
 by_cases e:m=r
 exact .inl e;have ⟨j,hj⟩:=Gv z h e4 e5 e;exact .inr ⟨j,hj,q,hq,hw j (.up hn (by rw[e2];exact .here hj))⟩
theorem InV.at(z:GOk N G U)(h:IsDist N G U r d){i a b c:Nat}(hi:Tr0 G U d M i)(hg:G[i]?=some (a,b,c)):InV G U r d M a/\InV G U r d M b:=by
 have ⟨n,m,c',_,e,_,_,_,_,_,_,h1,h2⟩:=hi.ends z h;rcases e.2 with q|q<;>rw[hg]at q<;>simp only[Option.some.injEq,Prod.mk.injEq]at q<;>have ⟨rfl,rfl,_⟩:=q
 exact⟨h1,h2⟩;exact⟨h2,h1⟩
theorem InV.lt(z:GOk N G U)(hr:r<N)(h:IsDist N G U r d){n:Nat}(hn:InV G U r d M n):n<N/\0<=d n:=by
 rcases hn with rfl|⟨i,hi,_⟩
 grind [IsDist.fr]
 grind [ly]
theorem InV.mem(z:GOk N G U)(h:IsDist N G U r d){n:Nat}(hn:n<N)(h0:0<=d n)(hm:M n):InV G U r d M n:=by
 by_cases e:n=r
 exact .inl e;have ⟨i,hi⟩:=Gv z h hn h0 e;exact .inr ⟨i,hi,n,hm,.here hi⟩
theorem InV.all(z:GOk N G U)(hr:r<N)(h:IsDist N G U r d){P:Nat->Prop}(h0:P r)(hs:∀i n m c,Tr0 G U d M i->Ed G U i n m c->P m->P n):∀(k n:Nat),(d n).toNat=k->InV G U r d M n->P n:=by
 intro k
 induction k using Nat.strongRecOn with
 | _ k ih=>
   intro n hk hn;rcases hn with rfl|⟨i,hi,ht⟩;exact h0;have ⟨n',m,c,e1,e2,_,_,_,_,e3,e4,_,e5⟩:=ht.ends z h;have:=zU z h hi e1
   grind
theorem OnP.under(z:GOk N G U)(h:IsDist N G U r d){m n j:Nat}(hj:OnP G (parL G U d) m j)(hp:parL G U d n=(j:Int))(hne:n≠m):∃c j':Nat,parL G U d c=(j':Int)/\OnP G (parL G U d) m j'/\far G j' c=n/\j'≠j:=by
 induction hj with
 |here e=>exact absurd (zU z h hp e) hne
 | up e h2 ih=>
   rename_i m i j
   by_cases q:n=far G i m
   refine⟨m,i,e,.here e,q.symm,λq2=>?_⟩;subst q2;exact hne (zU z h hp e);have ⟨c,j',h3,h4,h5,h6⟩:=ih hp q;exact⟨c,j',h3,.up e h4,h5,h6⟩
theorem InV.two(z:GOk N G U)(h:IsDist N G U r d){n i:Nat}(hp:parL G U d n=(i:Int))(ht:Tr0 G U d M i)(hm:¬M n):∃j m c,Tr0 G U d M j/\Ed G U j n m c/\j≠i:=by have ⟨q,hq,h1⟩:=ht;have ⟨c,j',h2,h3,h4,h5⟩:=h1.under z h hp (λe=>hm (e ▸ hq));have ⟨m,c',e1,e2,_⟩:=ly z h h2;rw[h4]at e2;subst e2;exact⟨j',c,c',⟨q,hq,h3⟩,e1.sym,h5⟩
theorem InV.count(z:GOk N G U)(hr:r<N)(h:IsDist N G U r d){V T:List Nat}(hV:V.Nodup)(hT:T.Nodup)(mV:∀n,n∈V↔InV G U r d M n)(mT:∀i,i∈T↔Tr0 G U d M i):V.length=T.length+1:=by
 have hrV:r∈V:=(mV r).2 (.inl rfl);have e1:=length_erase_of_mem hrV;have hpos:0<V.length:=length_pos_of_mem hrV;have nd:(V.erase r).Nodup:=hV.erase r;have memE:∀n,n∈V.erase r↔n≠r/\n∈V:=λn=>hV.mem_erase_iff;have key:∀n∈V.erase r,∃i:Nat,parL G U d n=(i:Int)/\Tr0 G U d M i:=λn hn=>by have ⟨h1,h2⟩:=(memE n).1 hn;rcases(mV n).1 h2 with e|e;exact absurd e h1;exact e
 have nm:((V.erase r).map λn=>(parL G U d n).toNat).Nodup:=by refine pairwise_map.2 (List.Pairwise.imp_of_mem (fun {a b} ha hb hab=>?_) nd);intro e;have ⟨i,hi,_⟩:=key a ha;have ⟨j,hj,_⟩:=key b hb;rw[hi,hj]at e;have:i=j:=oM;subst this;exact hab (zU z h hi hj)
 have pm:((V.erase r).map λn=>(parL G U d n).toNat).Perm T:=by
  refine(perm_ext_iff_of_nodup nm hT).2 λi=>?_;rw[aG,mT];constructor
  grind
  intro ht;have ⟨n,m,c,h1,_,_,_,_,h2,_,_,h3,_⟩:=ht.ends z h
  grind
 have:=pm.length_eq
 grind
noncomputable def ofE(N:Nat)(G:List Lnk)(U:List Bool)(x n:Nat):Option (Int×List Nat):=if nrL G U (dF N G U n) x=[]then none else some (lbk n,nrL G U (dF N G U n) x)
noncomputable def ofP(N:Nat)(G:List Lnk)(U:List Bool)(x k:Nat):List (Int×List Nat):=(List.range k).filterMap (ofE N G U x)
theorem GG{x k:Nat}:ofP N G U x (k+1)=ofP N G U x k++(ofE N G U x k).toList:=by
 unfold ofP;rw[range_succ,iG]
 congr 1
theorem tX{x k:Nat}:(ofP N G U x k).length<=k:=by have:=iH (ofE N G U x) (List.range k);rw[fR]at this;exact this
theorem GH(z:GOk N G U){n x:Nat}(h:IsDist N G U n d):nrL G U d x=nrL G U (dF N G U n) x:=by
 grind [nrL,qYI,GA]
theorem GI{x:Nat}:nrL G U d x=[]↔parL G U d x=-1:=by
 grind [nrL,tS]
theorem GJ(z:GOk N G U)(hN:N<=40){x n:Nat}(hx:x<N)(hn:n<N)(h:IsDist N G U x d):nrL G U (dF N G U n) x=[]↔n=x∨d n<0:=by
 have isn:=tW z hN hn;have sym:0<=dF N G U n x↔0<=d n:=by
  rw[R5 z isn hx,R5 z h hn]
  grind [Con.symm]
 rw[GI];constructor
 grind [Gv]
 rintro (e|e)
 grind [R2]
 exact Gx z isn (by
  grind)
open Classical in
noncomputable def ofEn(n:Int)(L:List RLk)(U:List Bool)(x:Int):List (Int×List Nat):=if vld n L U/\0<=x/\x<n then ofP n.toNat (L.map toL) U x.toNat n.toNat else[]
def kyE(x:EnV):Int×List Nat:=(x.1,x.2.2)
theorem GK{n x:Int}(hl:SlR 3 s lv (L.map rwR))(hlm:L.length<=9223372036854775807)(hu:Sl s uv (U.map AV.bool))(hK:∀v s' R,Ens s s' v R->R.map kyE=ofEn n L U x->K v s'):wC TP 153 [n,lv,uv,x] K s:=by
 refine XF (pD hl hlm hu λdv s1 sub1 hno hyes=>?_)
 by_cases q:vld n L U/\0<=x/\x<n
 rotate_left
 ·rw[hno q]
  have e:cM .nilslc=some 0:=rfl;simp only[e,ae];refine⟨λys t m=>ys=[.nilslc,Ii 0]/\Sub s t,⟨0,rfl,sub1⟩,?_⟩;rintro f t m ⟨hy,st⟩;simp only[cI,aq]at hy;rw[hy.1,hy.2];simp only[Ew,bu,ae];have c:decide ((0:Int)<((0:Nat):Int))=false:=dE;rw[c];simp only[aR];refine hK .nilslc t [] (Ens.nil.more st) ?_
  grind [ofEn]
 have ⟨hv,hx0,hxn⟩:=q;obtain⟨N,rfl⟩:∃N:Nat,n=N:=⟨n.toNat,oM⟩
 obtain⟨x,rfl⟩:∃y:Nat,x=y:=⟨x.toNat,oM⟩
 have hx:x<N:=oM;obtain⟨d,db,isd,hbd,rfl,hdb,hd⟩:=hyes N x hv rfl hx rfl;have ⟨z,hG,hN,hC,hrw⟩:=vld.gok hv;have e:cM (.slc db 0 N (some N) 1)=some N:=rfl;simp only[e,ae];have eV:ofEn (N:Int) L U (x:Int)=ofP N (L.map toL) U x N:=by
  grind [ofEn]
 refine⟨λys t m=>∃(k:Nat) (ov:AV) (R:List EnV),ys=[ov,k]/\k<=N/\m=N-k/\Ens s1 t ov R/\R.map kyE=ofP N (L.map toL) U x k,⟨_,0,.nilslc,[],rfl,oM,rfl,Ens.nil,rfl⟩,?_⟩;rintro f t m ⟨k,ov,R,hy,hk,rfl,en,hR⟩;simp only[cI,aq]at hy;rw[hy.1,hy.2];have st:=sub1.trans en.sub;simp only[Ew,bu,ae];refine aL (λhlt=>?_) (λhge=>?_)
 rotate_left
 ·have hge:k=N:=gR
  subst hge;refine hK ov t R ⟨st,?_⟩ (hR.trans eV.symm);have ⟨sb,b,c,e,f⟩:=en.ex
  grind [Sub.trans,Acc.weak]
 have hlt:k<N:=gR;have hdt:=en.sub _ _ hd;have hRl:R.length<=1000:=by
  have h1:=tX (N:=N) (G:=L.map toL) (U:=U) (x:=x) (k:=k)
  grind
 have ad:cF 1 (.slc db 0 N (some N) 1) k=some (.ptr db k):=GC hlt;have nx:∀(ov':AV) (R':List EnV) (t':Hq),Ens s1 t' ov' R'->R'.map kyE=ofP N (L.map toL) U x (k+1)->ti ov' k (λys t m=>∃(k:Nat) (ov:AV) (R:List EnV),ys=[ov,k]/\k<=N/\m=N-k/\Ens s1 t ov R/\R.map kyE=ofP N (L.map toL) U x k) (N-k) K t':=λov' R' t' h1 h2=>by
  simp only[ti,bg,ae,aS];rw[aT]
  grind
 have os:=GJ z oM hx hlt isd;have skip:nrL (L.map toL) U (dF N (L.map toL) U k) x=[]->ofP N (L.map toL) U x (k+1)=ofP N (L.map toL) U x k:=(by grind [GG,ofE])
 simp only[ad,au hdt,nP hlt,cj,bJ,Bool.false_bne,ae];cases c1:((k:Int) == (x:Int))with
 | true=>
   have c1:k=x:=gR;simp only[bD,tj,cy,ae]
   grind
 |false=>
 have c1:¬k=x:=by
  grind
 simp only[aR,bu,ae]
 by_cases c2:d k<0
 ·rw[aH c2]
  simp only[tj,ct,bD,ae]
  grind
 rw[aC c2];simp only[tj,ct,aR,ae];refine pE oM ?_;have x0:bV (.tup [Iw (lbk k),Ii 0]) 0=some (Iw (lbk k)):=rfl;have x1:bV (.tup [Iw (lbk k),Ii 0]) 1=some (Ii 0):=rfl;have x2:negB false (eqV 0 true (Ii 0) (Ii 0))=some true:=rfl;simp only[x0,x1,x2,ae];refine GD (hl.sub st) (hu.sub st) hv hx hlt λw t2 d2 isd2 ac sub2=>?_;have hne:¬nrL (L.map toL) U (dF N (L.map toL) U k) x=[]:=λh=>by
  grind
 refine pF en sub2 ac hRl λv' t3 en'=>nx v' _ t3 en' ?_;rw[bM,hR,GG]
 congr 1
 unfold ofE;rw[aj hne,<- GH z isd2];rfl
end Go.AM
namespace Go.AM.WH
open Go Go.Proofs List Nat
set_option maxRecDepth 100000
abbrev Shr:=Int×Int
def key(x:Shr):Int:=x.2*1000+x.1
def at0(q:List Shr)(j:Nat):Shr:=q.getD j (0,0)
def ky(q:List Shr)(j:Nat):Int:=key (at0 q j)
def swp(q:List Shr)(i j:Nat):List Shr:=(q.set i (at0 q j)).set j (at0 q i)
theorem iI(q:List Shr)(i j:Nat):(swp q i j).length=q.length:=by simp[swp]
theorem fL{q:List Shr}{j:Nat}(h:j<q.length):at0 q j=q[j]:=by simp[at0,h]
theorem lq{q:List Shr}{i j:Nat}{x:Shr}(hi:i<q.length):at0 (q.set i x) j=if j=i then x else at0 q j:=by
 grind [at0]
theorem zQ{q:List Shr}{i j m:Nat}(hi:i<q.length)(hj:j<q.length):at0 (swp q i j) m=if m=j then at0 q i else if m=i then at0 q j else at0 q m:=by
 grind [swp,lq]
theorem gU{q:List Shr}{i j m:Nat}(hi:i<q.length)(hj:j<q.length):ky (swp q i j) m=if m=j then ky q i else if m=i then ky q j else ky q m:=by
 grind [ky,zQ]
theorem nM{q:List Shr}{i j:Nat}(hi:i<q.length)(hj:j<q.length):(swp q i j).Perm q:=by
 grind [swp,at0]
def Hp(q:List Shr)(k:Nat):Prop:=∀j,0<j->j<q.length->k<=(j-1) / 2->ky q ((j-1) / 2)<=ky q j
structure Dn(q:List Shr)(i0 i:Nat):Prop where
 ok:∀j,0<j->j<q.length->i0<=(j-1) / 2->(j-1) / 2≠i->ky q ((j-1) / 2)<=ky q j
 gr:i≠i0->∀j,0<j->j<q.length->(j-1) / 2=i->ky q ((i-1) / 2)<=ky q j
 le:i0<=i
 pr:i≠i0->i0<=(i-1) / 2
theorem Hp.dn{q:List Shr}{i0:Nat}(h:Hp q (i0+1)):Dn q i0 i0:=⟨λj h0 h1 h2 h3=>h j h0 h1 oM,λe=>absurd rfl e,Nat.le_refl _,λe=>absurd rfl e⟩
theorem Dn.done{q:List Shr}{i0 i:Nat}(h:Dn q i0 i)(hc:∀j,0<j->j<q.length->(j-1) / 2=i->ky q i<=ky q j):Hp q i0:=λj h0 h1 h2=>by
 by_cases e:(j-1) / 2=i
 grind
 exact h.ok j h0 h1 h2 e
theorem Dn.swap{q:List Shr}{i0 i j:Nat}(h:Dn q i0 i)(hj:j<q.length)(hc:j=2*i+1∨j=2*i+2)(hlt:ky q j<ky q i)(hmin:∀m,0<m->m<q.length->(m-1) / 2=i->ky q j<=ky q m):Dn (swp q i j) i0 j:=by
 have hi:i<q.length:=oM;have hle:=h.le;refine⟨λm h0 h1 h2 h3=>?_,λ_ m h0 h1 h2=>?_,oM,λ_=>oM⟩;rw[iI]at h1;rw[gU hi hj,gU hi hj]
 by_cases e1:m=j
 grind
 rw[aj h3,aj e1]
 by_cases e2:(m-1) / 2=i
 grind
 rw[aj e2]
 by_cases e3:m=i
 rw[ak e3];have hne:i≠i0:=oM;subst e3;exact h.gr hne j oM hj oM;rw[aj e3];exact h.ok m h0 h1 h2 e2;rw[iI]at h1;rw[gU hi hj,gU hi hj];rw[aj (show(j-1) / 2≠j by omega),ak (show(j-1) / 2=i by omega),aj (show m≠j by omega),aj (show m≠i by omega)];have:=h.ok m h0 h1 oM oM
 grind
structure Up(q:List Shr)(j:Nat):Prop where
 ok:∀m,0<m->m<q.length->m≠j->ky q ((m-1) / 2)<=ky q m
 gr:0<j->∀m,0<m->m<q.length->(m-1) / 2=j->ky q ((j-1) / 2)<=ky q m
theorem Up.done{q:List Shr}{j:Nat}(h:Up q j)(hc:0<j->ky q ((j-1) / 2)<=ky q j):Hp q 0:=λm h0 h1 _=>by
 by_cases e:m=j
 subst e;exact hc h0;exact h.ok m h0 h1 e
theorem Up.swap{q:List Shr}{j:Nat}(h:Up q j)(hj:j<q.length)(h0:0<j)(hlt:ky q j<ky q ((j-1) / 2)):Up (swp q ((j-1) / 2) j) ((j-1) / 2):=by
 have hi:(j-1) / 2<q.length:=oM;refine⟨λm m0 m1 m2=>?_,λi0 m m0 m1 m2=>?_⟩;rw[iI]at m1;rw[gU hi hj,gU hi hj]
 by_cases e1:m=j
 grind
 rw[aj e1,aj m2]
 by_cases e2:(m-1) / 2=j
 simp_all [gr]
 rw[aj e2]
 by_cases e3:(m-1) / 2=(j-1) / 2
 rw[ak e3];have:=h.ok m m0 m1 e1
 grind
 rw[aj e3];exact h.ok m m0 m1 e1;rw[iI]at m1;rw[gU hi hj,gU hi hj];rw[aj (show((j-1) / 2-1) / 2≠j by omega),aj (show((j-1) / 2-1) / 2≠(j-1) / 2 by omega)];have hp:=h.ok ((j-1) / 2) i0 hi oM
 by_cases e1:m=j
 rw[ak e1];exact hp;rw[aj e1,aj (show m≠(j-1) / 2 by omega)];have:=h.ok m m0 m1 e1
 grind
theorem Hp.root{q:List Shr}(h:Hp q 0):∀j,j<q.length->ky q 0<=ky q j
 | 0,_=>Int.le_refl _
 | j+1,hj=>by
   have h1:=h (j+1) oM hj oM;have h2:=Hp.root h ((j+1-1) / 2) oM;omega
theorem Hp.leaf{q:List Shr}{k:Nat}(h:q.length<=2*k+1):Hp q k:=λj h0 h1 h2=>oM
variable{K:AV→Hq→Prop}{s:Hq}
def shR(x:Shr):List AV:=[x.1,x.2]
abbrev dA(q:List Shr):List AV:=(q.map shR).flatten
theorem pz(q:List Shr):∀r∈q.map shR,r.length=2:=λr hr=>by obtain⟨x,_,rfl⟩:=aG.1 hr;rfl
theorem ku(q:List Shr):(dA q).length=q.length*2:=by rw[ki (pz q),lMY]
theorem tK{x:Shr}:∀{q:List Shr}{i:Nat},i<q.length->dB (dA q) (i*2) (shR x)=dA (q.set i x)
 |y::q,0,_=>by simp[dB,shR,dA]
 | y::q,i+1,h=>by
   have ih:=tK (x:=x) (q:=q) (i:=i) (by simpa using h);have e:dA (y::q)=Ii y.1::Ii y.2::dA q:=rfl;have e2:dA ((y::q).set (i+1) x)=Ii y.1::Ii y.2::dA (q.set i x):=rfl;rw[e,e2,<- ih];have e3:(i+1)*2=i*2+2:=oM;rw[e3];simp[dB,shR,take_succ_cons]
theorem GL{v:Int}:∀{q:List Shr}{i:Nat},i<q.length->(dA q).set (i*2+1) v=dA (q.set i ((at0 q i).1,v))
 |y::q,0,_=>rfl
 | y::q,i+1,h=>by
   have ih:=GL (v:=v) (q:=q) (i:=i) (by simpa using h);have e3:(i+1)*2+1=(i*2+1)+2:=oM;rw[e3];exact aJ (λt=>AV.int .i64 y.1::AV.int .i64 y.2::t) ih
theorem R6{v:Int}:∀{q:List Shr}{i:Nat},i<q.length->(dA q).set (i*2) v=dA (q.set i (v,(at0 q i).2))
 |y::q,0,_=>rfl
 | y::q,i+1,h=>by
   have ih:=R6 (v:=v) (q:=q) (i:=i) (by simpa using h);have e3:(i+1)*2=i*2+2:=oM;rw[e3];exact aJ (λt=>AV.int .i64 y.1::AV.int .i64 y.2::t) ih
structure QAt(s:Hq)(o sb:Nat)(q:List Shr):Prop where
 ob:∃t,s o=some (t,.cells 362 [.slc sb 0 q.length (some q.length) 2])
 dt:Hc s sb 364 (dA q)
 rg:∀x∈q,0<=x.1/\x.1<1000
 ln:q.length<=1000
variable{o sb:Nat}{q:List Shr}
theorem QAt.sub{s':Hq}(h:QAt s o sb q)(hs:Sub s s'):QAt s' o sb q:=by have ⟨⟨t,h1⟩,h2,h3,h4⟩:=h;exact⟨⟨t,hs _ _ h1⟩,hs _ _ h2,h3,h4⟩
theorem gJ{n i:Nat}(hi:i<n):cF 2 (.slc sb 0 n (some n) 2) i=some (.ptr sb (i*2)):=by
 have:blt i n=true:=by rw[bZ];exact hi
 simp[cF,this]
theorem QAt.row(h:QAt s o sb q){i:Nat}(hi:i<q.length):rdN s 2 (.ptr sb (i*2))=some (shR (at0 q i))/\rd1 s (.ptr sb (i*2))=some (Ii (at0 q i).1)/\rd1 s (.ptr sb (i*2+1))=some (Ii (at0 q i).2):=by have hs:SlR 2 s (.slc sb 0 q.length (some q.length) 2) (q.map shR):=SlR.mk (pz q) h.dt sI sI;have ⟨b,p,h1,h2,h3⟩:=hs.get (i:=i) (r:=shR (at0 q i)) (by simp[fL hi,hi]);rw[gJ hi]at h1;cases h1;exact⟨h2,h3 0 oM,h3 1 oM⟩
theorem GM{a b:Shr}(ha:0<=a.1/\a.1<1000)(hb:0<=b.1/\b.1<1000):decide (key a<key b)=if(a.2 == b.2)=true then decide (a.1<b.1)else decide (a.2<b.2):=by
 grind [key]
theorem zV{i j:Nat}(h:QAt s o sb q)(hi:i<q.length)(hj:j<q.length)(hK:∀s',Sub s s'->K (decide (ky q i<ky q j)) s'):wC TP 232 [Pp o,i,j] K s:=by
 have ⟨t,ho⟩:=h.ob;have ri:=(h.row hi).1;have rj:=(h.row hj).1;refine YH ?_;refine⟨s,.refl s,?_⟩;simp only[bQ,aK,ae,au ho,zAY,g0Y,gJ hi,gJ hj,ri,rj];rw[gT];refine aI λx s1 hx hx1 ux=>aI λy s2 hy hy2 uy=>?_;have hyx:y≠x:=λq=>by subst q;rw[hx1]at hy;cases hy
 refine cD (uy.at hx1 hy) rfl rfl rfl λs3 hx3 u3=>?_;refine cD ((u3 y hyx).trans hy2) rfl rfl rfl λs4 hy4 u4=>?_;have hx4:add s s4 x=_:=(cC (jg.1 hx)).trans ((u4 x hyx.symm).trans hx3);have hy4:add s s4 y=_:=(cC (jg.1 ((ux y hyx).symm.trans hy))).trans hy4;have hk:=hK (add s s4) iD;have e:=GM (h.rg _ (aN hi)) (h.rg _ (aN hj));rw[<- fL hi,<- fL hj]at e;unfold ky at hk;rw[e]at hk;simp only[ae,au hx4,au hy4,shR,g0Y,g1Y,cj,bJ,Bool.true_bne,bu]
 grind [aR,bD]
theorem GN{i j:Nat}(h:QAt s o sb q)(hi:i<q.length)(hj:j<q.length)(hK:∀s',QAt s' o sb (swp q i j)->aV (λb=>b=sb) s s'->K (.tup []) s'):wC TP 288 [Pp o,i,j] K s:=by
 have ⟨t,ho⟩:=h.ob;have ri:=(h.row hi).1;have rj:=(h.row hj).1;refine YJ ?_;simp only[Qw,bQ,aK,ae,au ho,zAY,g0Y,gJ hi,gJ hj,ri,rj];have hos:o≠sb:=by rintro rfl;rw[h.dt]at ho;cases ho
 have wr:∀{s:Hq}{q:List Shr}{i:Nat}{x:Shr}{R:Hq->Prop},Hc s sb 364 (dA q)->i<q.length->(∀s',Hc s' sb 364 (dA (q.set i x))->Upto sb s s'->R s')->oK (dP s 2 (.ptr sb (i*2)) (.agg (shR x))) R:=by
  intro s q i x R hs hi hR;have e1:ble (i*2+(shR x).length) (dA q).length=true:=bL (by rw[ku];show i*2+2<=_;omega);have e2:dP s 2 (.ptr sb (i*2)) (.agg (shR x))=some (hset s sb (false,.cells 364 (dA (q.set i x)))):=by rw[<- tK hi];simp only[dP,jZ,show beq (shR x).length 2=true from rfl,aD,wrN,hs,e1,show aX (shR x)=true from rfl,Bool.and_self]
  exact aE e2 (hR _ fe λ_ hi=>eL hi)
 refine wr h.dt hi λs1 h1 u1=>wr h1 (by simpa using hj) λs2 h2 u2=>?_;refine hK _ ⟨⟨t,?_⟩,h2,λx hx=>h.rg x ((nM hi hj).mem_iff.1 hx),by rw[iI];exact h.ln⟩ ((u1.keep (fp:=λb=>b=sb) rfl).trans (u2.keep (fp:=λb=>b=sb) rfl));rw[u2 o hos,u1 o hos,iI];exact ho
abbrev qv(o:Nat):AV:=.ifc 340 (.agg [Pp o])
theorem pA(h:QAt s o sb q)(hK:K q.length s):eg TP (qv o) "Len" [] K s:=by have ⟨t,ho⟩:=h.ob;refine CZ (f:=287) (fty:=338) (off:=0) (r:=Pp o) kR kR kR kR (YI ?_);simp only[Qv,bQ,aK,ae,au ho,zAY,g0Y,ge];exact hK
theorem tM{i j:Nat}(h:QAt s o sb q)(hi:i<q.length)(hj:j<q.length)(hK:∀s',Sub s s'->K (decide (ky q i<ky q j)) s'):eg TP (qv o) "Less" [i,j] K s:=by exact CZ (f:=232) (fty:=338) (off:=0) (r:=Pp o) kR kR kR kR (zV h hi hj hK)
theorem tN{i j:Nat}(h:QAt s o sb q)(hi:i<q.length)(hj:j<q.length)(hK:∀s',QAt s' o sb (swp q i j)->aV (λb=>b=sb) s s'->K (.tup []) s'):eg TP (qv o) "Swap" [i,j] K s:=by exact CZ (f:=288) (fty:=338) (off:=0) (r:=Pp o) kR kR kR kR (GN h hi hj hK)
theorem QAt.of{q:List Shr}(h:QAt s o sb q){s':Hq}{q':List Shr}(hd:Hc s' sb 364 (dA q'))(hp:q'.length=q.length)(hr:∀x∈q',0<=x.1/\x.1<1000)(hk:aV (λb=>b=sb) s s'):QAt s' o sb q':=by
 have ⟨t,ho⟩:=h.ob;have hos:¬o=sb:=by rintro rfl;rw[h.dt]at ho;cases ho
 exact⟨⟨t,by rw[hp];exact hk _ _ ho hos⟩,hd,hr,by rw[hp];exact h.ln⟩
theorem tQ{i0:Nat}(h:QAt s o sb q)(hd:Hp q (i0+1))(h0:i0<q.length)(hK:∀s' q' b,QAt s' o sb q'->q'.Perm q->Hp q' i0->aV (λb=>b=sb) s s'->(b=false->q'=q)->((∀j,0<j->j<q.length->(j-1) / 2=i0->ky q i0<=ky q j)->b=false)->K b s'):wC TP 163 [qv o,i0,q.length] K s:=by
 refine EC ?_;refine⟨λys s1 n=>∃(i:Nat) (q1:List Shr),ys=[Ii i]/\n=q.length-i/\i<q.length/\QAt s1 o sb q1/\q1.Perm q/\Dn q1 i0 i/\aV (λb=>b=sb) s s1/\(i=i0->q1=q)/\((∀j,0<j->j<q.length->(j-1) / 2=i0->ky q i0<=ky q j)->i=i0),(by grind [Hp.dn,aV.refl]),?_⟩;rintro f s1 n ⟨i,q1,hy,rfl,hi,z,hp,dn,kp,same,stay⟩;simp only[cI,aq]at hy;rw[hy];have hlen:=hp.length_eq;have hl:=h.ln;have m1:aA.i64.wrap (2*(i:Int))=((2*i:Nat):Int):=by grind [aT]
 have m2:aA.i64.wrap (((2*i:Nat):Int)+1)=((2*i+1:Nat):Int):=by grind [aT]
 have m3:aA.i64.wrap (((2*i+1:Nat):Int)+1)=((2*i+2:Nat):Int):=by grind [aT]
 simp only[yx,oX,ae,m1,bg,m2,dQ,bu];have fin:∀s2,Sub s1 s2->(∀j,0<j->j<q1.length->(j-1) / 2=i->ky q1 i<=ky q1 j)->nI i0 i K s2:=by
  intro s2 hs hc;simp only[nI,dy,ae];refine hK s2 q1 _ (z.sub hs) hp (dn.done hc) (kp.trans hs.keep) (λhb=>same ?_) λhst=>?_;have:=oF hb;have:=dn.le;omega
  grind
 by_cases hc:q.length<=2*i+1
 grind [bD,nJ,cy,cP,Sub.refl]
 ·have e1:decide ((q.length:Int)<=((2*i+1:Nat):Int))=false:=gR
  have e2:decide (((2*i+1:Nat):Int)<0)=false:=gR;rw[e1,e2];simp only[aR,nJ,ct,ae,bg,m3,bu];have go:∀(s2:Hq) (j:Nat),Sub s1 s2->j<q1.length->(j=2*i+1∨j=2*i+2)->(∀m,0<m->m<q1.length->(m-1) / 2=i->ky q1 j<=ky q1 m)->
    pf (qv o) i0 i j (λys s1 n=>∃(i:Nat) (q1:List Shr),ys=[Ii i]/\n=q.length-i/\i<q.length/\QAt s1 o sb q1/\q1.Perm q/\Dn q1 i0 i/\aV (λb=>b=sb) s s1/\(i=i0->q1=q)/\((∀j,0<j->j<q.length->(j-1) / 2=i0->ky q i0<=ky q j)->i=i0)) (q.length-i) K s2:=by
   intro s2 j hs hj hc2 hmin;unfold pf aS;refine tM (z.sub hs) hj oM λs3 hs3=>?_;simp only[cQ,ae];refine aL (λhb=>?_) (λhb=>?_);have hb:¬ky q1 j<ky q1 i:=by simpa using hb
   exact fin s3 (hs.trans hs3) gR
   ·have hb:ky q1 j<ky q1 i:=by simpa using hb
    refine tN (z.sub (hs.trans hs3)) oM hj λs4 z4 k4=>?_;refine⟨_,?_,j,_,rfl,rfl,oM,z4,(nM oM hj).trans hp,dn.swap hj hc2 hb hmin,(kp.trans (hs.trans hs3).keep).trans k4,λe=>?_,λhst=>?_⟩;omega;have:=dn.le;omega;have e1:=stay hst
    grind
  refine aL (λhb=>?_) (λhb=>?_);have hb2:2*i+2<q.length:=gR;rw[hb];refine tM z oM oM λs2 hs2=>?_;simp only[ph,cy,ae];refine aL (λhl2=>?_) (λhl2=>?_);have hl2:=oT hl2;exact go s2 (2*i+2) hs2 oM (.inr rfl) λm a b c=>by
   have:m=2*i+1∨m=2*i+2:=oM
   grind
  have hl2:=oF hl2;exact go s2 (2*i+1) hs2 oM (.inl rfl) λm a b c=>by
   have:m=2*i+1∨m=2*i+2:=oM
   grind
  have hb2:¬ 2*i+2<q.length:=by have:=oF hb;omega
  rw[hb];simp only[ph,ct,ae,aR];exact go s1 (2*i+1) (.refl s1) oM (.inl rfl) gR
theorem mh{j0:Nat}(h:QAt s o sb q)(hu:Up q j0)(h0:j0<q.length)(hK:∀s' q',QAt s' o sb q'->q'.Perm q->Hp q' 0->aV (λb=>b=sb) s s'->K (.tup []) s'):wC TP 164 [qv o,j0] K s:=by
 refine Qa ?_;refine⟨λys s1 n=>∃(j:Nat) (q1:List Shr),ys=[Ii j]/\n=j/\j<q.length/\QAt s1 o sb q1/\q1.Perm q/\Up q1 j/\aV (λb=>b=sb) s s1,(by grind [aV.refl]),?_⟩;rintro f s1 n ⟨j,q1,hy,rfl,hj,z,hp,up,kp⟩;simp only[cI,aq]at hy;rw[hy];have hlen:=hp.length_eq;have hl:=h.ln;simp only[ED,eC,ae];rw[aT];simp only[xi (show(2:Int)≠0 by omega),ae];have e1:((n:Int)-1).tdiv 2=(((n-1) / 2:Nat):Int):=by
  grind
 rw[e1,aT];simp only[cj,bJ,Bool.false_bne,ae];cases n with
 | zero=>
   grind [bD,pi,cy,cP,Up.done]
 | succ m=>
   have e2:((((m+1-1) / 2:Nat):Int) == ((m+1:Nat):Int))=false:=by
    grind
   rw[e2];simp only[aR];refine tM z oM oM λs2 hs2=>?_;simp only[cQ,ae,pi,ct,aS];refine aL (λhb=>?_) (λhb=>?_)
   grind [QAt.sub,Up.done,aV.trans,Sub.keep]
   ·have hb:ky q1 (m+1)<ky q1 ((m+1-1) / 2):=by simpa using hb
    refine tN (z.sub hs2) oM oM λs3 z3 k3=>?_;exact⟨_,oM,_,_,rfl,rfl,oM,z3,(by grind [nM]),up.swap oM oM hb,(kp.trans hs2.keep).trans k3⟩
theorem GO(h:QAt s o sb q)(hK:∀s' q',QAt s' o sb q'->q'.Perm q->Hp q' 0->aV (λb=>b=sb) s s'->K (.tup []) s'):wC TP 230 [qv o] K s:=by
 refine YD (pA h ?_);have hl:=h.ln;have e1:(q.length:Int).tdiv 2=((q.length / 2:Nat):Int):=gR;simp only[xi (show(2:Int)≠0 by omega),ae,e1];rw[aT];simp only[eC,ae];rw[aT];refine⟨λys s1 n=>∃(j:Nat) (q1:List Shr),ys=[Ii ((j:Int)-1)]/\n=j/\j<=q.length / 2/\QAt s1 o sb q1/\q1.Perm q/\Hp q1 j/\aV (λb=>b=sb) s s1,⟨_,q.length / 2,q,rfl,rfl,oM,h,.refl q,.leaf oM,.refl _ s⟩,?_⟩;rintro f s1 n ⟨j,q1,hy,rfl,hj,z,hp,hh,kp⟩;simp only[cI,aq]at hy;rw[hy];have hlen:=hp.length_eq;simp only[Qs,dQ,ae,aS];refine aL (λhb=>?_) (λhb=>?_);have hb:=oT hb;obtain⟨i,rfl⟩:∃i,n=i+1:=⟨n-1,oM⟩
 rw[show((i+1:Nat):Int)-1=(i:Int)by omega,<- hlen];refine tQ z hh oM λs2 q2 b z2 p2 h2 k2 _ _=>?_;simp only[eC,ae];rw[aT]
 grind [aV.trans]
 grind
def upd2(q:List Shr)(i:Nat)(d:Int):List Shr:=q.set i ((at0 q i).1,(at0 q i).2+d)
theorem jh(q:List Shr)(i:Nat)(d:Int):(upd2 q i d).length=q.length:=by simp[upd2]
theorem kw{i m:Nat}{d:Int}(hi:i<q.length):ky (upd2 q i d) m=if m=i then ky q i+d*1000 else ky q m:=by
 grind [ky,upd2,lq,key]
theorem GP{i:Nat}{d:Int}(hi:i<q.length)(hr:∀x∈q,0<=x.1/\x.1<1000):∀x∈upd2 q i d,0<=x.1/\x.1<1000:=λx hx=>by
 rcases mem_or_eq_of_mem_set hx with h|rfl;exact hr x h
 grind [fL]
theorem zW{i:Nat}{d:Int}(h:QAt s o sb q)(hi:i<q.length)(hd:-1<=d/\d<=1)(hb:0<=(at0 q i).2/\(at0 q i).2<=100000)
  (hK:∀s',QAt s' o sb (upd2 q i d)->aV (λb=>b=sb) s s'->wC TP 231 [qv o,i] (λ_ s''=>K (.tup []) s'') s'):wC TP 225 [.agg [Pp o],i,d] K s:=by
 refine Yv ⟨rfl,aI λb s1 hb1 h1 u1=>?_⟩;have z1:=h.sub (u1.sub hb1);have ⟨t,ho⟩:=z1.ob;have h1:Hc s1 b 340 [Pp o]:=h1;have r:=(z1.row hi).2.2;simp only[aK,ae,au h1,au ho,zAY,g0Y,bQ,gJ hi,r,bg];rw[aT];refine cw z1.dt (by rw[ku];omega) rfl λs2 h2 u2=>?_;have hbs:b≠sb:=by grind [QAt.dt]
 refine aE (bX ((u2 b hbs).trans h1) rfl) ?_;refine hK s2 (z1.of (by rw[GL hi]at h2;exact h2) (jh _ _ _) (GP hi h.rg) (u2.keep (fp:=λb=>b=sb) rfl)) ((u1.sub hb1).keep.trans (u2.keep (fp:=λb=>b=sb) rfl))
theorem R7(h:QAt s o sb q)(hh:Hp q 0)(hi:0<q.length)(hb:0<=(at0 q 0).2/\(at0 q 0).2<=100000)
  (hK:∀s' q',QAt s' o sb q'->q'.Perm (upd2 q 0 1)->Hp q' 0->aV (λb=>b=sb) s s'->K (.tup []) s'):wC TP 225 [.agg [Pp o],Ii 0,Ii 1] K s:=by
 refine zW (i:=0) h hi oM hb λs1 z1 k1=>?_;refine Qu (pA z1 ?_);have hd:Hp (upd2 q 0 1) 1:=λj h0 h1 h2=>by rw[jh]at h1;rw[kw hi,kw hi,aj oM,aj oM];exact hh j h0 h1 oM
 refine tQ (i0:=0) z1 hd (by rw[jh];exact hi) λs2 q2 b z2 p2 h2 k2 same _=>?_;simp only[cQ,ae];refine aL (λ_=>?_) ((by grind [aV.trans]));refine mh (j0:=0) z2 ⟨λm m0 m1 _=>h2 m m0 m1 oM,λh=>absurd h oM⟩ (by grind [jh]) (by grind [aV.trans])
theorem GQ{i:Nat}(h:QAt s o sb q)(hh:Hp q 0)(hi:i<q.length)(hb:0<=(at0 q i).2/\(at0 q i).2<=100000)
  (hK:∀s' q',QAt s' o sb q'->q'.Perm (upd2 q i (-1))->Hp q' 0->aV (λb=>b=sb) s s'->K (.tup []) s'):wC TP 225 [.agg [Pp o],i,(-1:Int)] K s:=by
 refine zW h hi oM hb λs1 z1 k1=>?_;refine Qu (pA z1 ?_);have hd:Hp (upd2 q i (-1)) (i+1):=λj h0 h1 h2=>by rw[jh]at h1;rw[kw hi,kw hi,aj oM,aj oM];exact hh j h0 h1 oM
 have hi1:i<(upd2 q i (-1)).length:=by rw[jh];exact hi
 refine tQ (i0:=i) z1 hd hi1 λs2 q2 b z2 p2 h2 k2 same stay=>?_;have hb:b=false:=stay λj h0 h1 h2=>by rw[jh]at h1;rw[kw hi,kw hi,ak rfl,aj oM];have:=hh j h0 h1 oM;rw[h2]at this;omega
 subst hb;have e2:=same rfl;subst e2;simp only[cQ,Bool.not_false,ae,bD];refine mh (j0:=i) z2 ⟨λm m0 m1 m2=>?_,λi0 m m0 m1 m2=>?_⟩ hi1 (by grind [aV.trans]);rw[jh]at m1;rw[kw hi,kw hi,aj m2];have:=hh m m0 m1 oM
 grind
 rw[jh]at m1;rw[kw hi,kw hi,aj (show(i-1) / 2≠i by omega),aj (show m≠i by omega)];have a:=hh m m0 m1 oM;have b:=hh i i0 hi oM;rw[m2]at a;omega
theorem GR(h:QAt s o sb q)(hq:0<q.length)(hK:∀s' (m:Nat),Sub s s'->m<q.length->(∀j,j<q.length->ky q j<=ky q m)->K m s'):wC TP 226 [.agg [Pp o]] K s:=by
 refine Yy ⟨rfl,aI λb s1 hb1 h1 u1=>?_⟩;have sub1:=u1.sub hb1;have z1:=h.sub sub1;have ⟨t,ho⟩:=z1.ob;have h1:Hc s1 b 340 [Pp o]:=h1;have hl:=h.ln;simp only[aK,ae,au h1,au ho,zAY,g0Y,bQ,ge];refine⟨λys s2 n=>∃(m i:Nat),ys=[Ii m,Ii i]/\n=q.length-i/\i<=q.length/\m<q.length/\(∀j,j<i->ky q j<=ky q m)/\Sub s1 s2,⟨_,0,0,rfl,rfl,oM,hq,oM,.refl s1⟩,?_⟩;rintro f s2 n ⟨m,i,hy,rfl,hi,hm,hb,sub2⟩;simp only[cI,aq]at hy;rw[hy.1,hy.2];have z2:=z1.sub sub2;simp only[Qp,bu,ae];refine aL (λhlt=>?_) (λhge=>?_);have hlt:i<q.length:=gR;simp only[aK,ae,au (sub2 _ _ h1),zAY,g0Y];refine zV z2 hm hlt λs3 sub3=>?_;simp only[EI,bg,ae,aS];rw[aT];refine aL (λhb2=>?_) (λhb2=>?_);have hb2:=oT hb2;refine⟨_,oM,i,i+1,rfl,rfl,oM,hlt,λj hj=>?_,sub2.trans sub3⟩
 grind
 have hb2:=oF hb2;refine⟨_,oM,m,i+1,rfl,rfl,oM,hm,λj hj=>?_,sub2.trans sub3⟩
 grind
 grind [Sub.trans]
theorem GS(h:QAt s o sb q)(hK:∀s' q',QAt s' o sb q'->q'.Perm q->Hp q' 0->aV (λb=>b=sb) s s'->K (.tup []) s'):wC TP 224 [.agg [Pp o]] K s:=by refine Yt ⟨rfl,aI λb s1 hb1 h1 u1=>aE (bX h1 rfl) ?_⟩;exact GO (h.sub (u1.sub hb1)) λs2 q2 z2 p2 h2 k2=>hK s2 q2 z2 p2 h2 ((u1.sub hb1).keep.trans k2)
end Go.AM.WH
namespace Go.AM.LS
open Go Go.Proofs List Nat
set_option maxRecDepth 100000
variable{K:AV→Hq→Prop}{s:Hq}
abbrev Sli(s:Hq)(v:AV)(l:List Int):Prop:=Sl s v (l.map (AV.int .i64))
theorem gC{v:AV}{l:List Int}(h:Sli s v l){k:Nat}(hk:k<l.length):∃p,cF 1 v k=some p/\rd1 s p=some (Ii l[k]):=by
 have ⟨p,h1,h2⟩:=h.get (i:=k) (by simpa using hk)
 grind
theorem GT{x:Int}(hK:K false s):wC TP 140 [x] K s:=by
 grind [Xa,PF,cj,bJ,cP]
def cmpI(x y:Int):Int:=if x<y then -1 else if y<x then 1 else 0
theorem tY{x y:Int}(hK:K (cmpI x y:Int) s):wC TP 138 [x,y] K s:=by
 refine WX (GT (GT ?_))
 grind [bu,dy,cP,cmpI,aL]
def cmpL:List Int->List Int->Int
 |[],[]=>0
 |[],_::_=>-1
 |_::_,[]=>1
 |x::a,y::b=>if x<y then -1 else if y<x then 1 else cmpL a b
theorem pG(x y:Int)(a b:List Int):cmpL (x::a) (y::b)=if x<y then -1 else if y<x then 1 else cmpL a b:=rfl
theorem GU(b:List Int):cmpL [] b=if 0<b.length then -1 else 0:=by cases b<;>simp[cmpL]
theorem qYl{v v':AV}{l m:List Int}(h:Sli s v l)(h':Sli s v' m)(hl:l.length<=1000000)(hK:K (cmpL l m:Int) s):wC TP 139 [v,v'] K s:=by
 refine WZ ?_;simp only[Pz,h.len,ae,lMY,bG];refine⟨λys s1 n=>∃k:Nat,ys=[Ii k]/\s1=s/\k<=l.length/\n=l.length-k/\cmpL l m=cmpL (l.drop k) (m.drop k),⟨_,0,rfl,rfl,oM,rfl,sI⟩,?_⟩;rintro f s1 n ⟨k,hy,rfl,hk,rfl,he⟩;simp only[cI,aq]at hy;rw[hy];simp only[Py,h.len,h'.len,ae,bu,dQ,lMY,aS];refine aL (λhlt=>?_) (λhge=>?_);have hlt:k<l.length:=by simpa using hlt
 have ⟨p,g1,g2⟩:=gC h hlt;simp only[g1,g2,ae];rw[dG hlt]at he;refine aL (λhm=>?_) (λhm=>?_);have hm:m.length<=k:=by simpa using hm
 rw[fc hm]at he;rw[he]at hK;exact hK;have hm:k<m.length:=by simpa using hm
 have ⟨p',g3,g4⟩:=gC h' hm;simp only[g3,g4,ae];rw[dG hm]at he;refine tY ?_;simp only[cj,bJ,ae,Bool.true_bne];rw[pG]at he;unfold cmpI
 by_cases a1:l[k]<m[k]
 simp_all
 rw[aj a1]at he ⊢
 by_cases a2:m[k]<l[k]
 simp_all
 rw[aj a2]at he ⊢;refine aL (λh=>by simp at h) λ_=>?_;simp only[bg,ae];rw[aT];exact⟨_,oM,k+1,sI,by trivial,oM,rfl,he⟩
 grind [GU,aL]
def chkL:Option Int->List Int->Int
 |_,[]=>0
 |p,x::r=>if x<0∨128<=x then 2 else if(p.any λq=>decide (x<=q))=true then 10 else chkL (some x) r
def ji(l:List Int)(k:Nat):Option Int:=if k=0 then none else l[k-1]?
theorem GW{l:List Int}{k:Nat}(hk:k<l.length):chkL (ji l k) (l.drop k)=if l[k]<0∨128<=l[k]then 2 else if((ji l k).any λq=>decide (l[k]<=q))=true then 10 else chkL (ji l (k+1)) (l.drop (k+1)):=by
 rw[dG hk]
 grind [chkL,ji]
theorem R8{v:AV}{l:List Int}(h:Sli s v l)(hl:l.length<=1000000)(hK:K (chkL none l:Int) s):wC TP 111 [v] K s:=by
 refine WT ?_;simp only[Pv,h.len,ae,lMY,bG];refine⟨λys s1 n=>∃k:Nat,ys=[Ii k]/\s1=s/\k<=l.length/\n=l.length-k/\chkL none l=chkL (ji l k) (l.drop k),⟨_,0,rfl,rfl,oM,rfl,by simp[ji]⟩,?_⟩;rintro f s1 n ⟨k,hy,rfl,hk,rfl,he⟩;simp only[cI,aq]at hy;rw[hy];simp only[Pu,ae,bu];refine aL (λhlt=>?_) (λhge=>?_);have hlt:k<l.length:=by simpa using hlt
 have ⟨p,g1,g2⟩:=gC h hlt;rw[GW hlt]at he;simp only[g1,g2,ae,bu,dQ,El,dy,eC];have key:¬(l[k]<0∨128<=l[k])->ao (decide ((0:Int)<k))
    (oK (cF 1 v (aA.i64.wrap ((k:Int)-1):Int)) λv_11=>
     oK (rd1 s1 v_11) λv_12=>
     oK (cZ .leq (l[k]) v_12) λv_13=>
     o9 k (decide ((0:Int)<k)) v_13 (λys s1_1 n=>∃k:Nat,ys=[Ii k]/\s1_1=s1/\k<=l.length/\n=l.length-k/\chkL none l=chkL (ji l k) (l.drop k)) (l.length-k) K s1)
    (o9 k (decide ((0:Int)<k)) .undef (λys s1_1 n=>∃k:Nat,ys=[Ii k]/\s1_1=s1/\k<=l.length/\n=l.length-k/\chkL none l=chkL (ji l k) (l.drop k)) (l.length-k) K s1):=by
  intro hn;rw[aj hn]at he;have fin:chkL none l=chkL (ji l (k+1)) (l.drop (k+1))->oK (cZ .add k (Ii 1)) λv_9=>∃m',m'<l.length-k/\(∃k:Nat,[v_9]=[AV.int .i64 k]/\True/\k<=l.length/\m'=l.length-k/\chkL none l=chkL (ji l k) (l.drop k)):=by intro he;simp only[bg,ae];rw[aT];exact⟨_,oM,k+1,sI,by trivial,oM,rfl,he⟩
  refine aL (λhp=>?_) (λhp=>?_);rw[hp];have hp:0<k:=by simpa using hp
  have ⟨q,g3,g4⟩:=gC h (k:=k-1) oM
  grind [aT,ji,cP,iX,o9,cy,aL]
  grind [ji,o9,ct,cP,aR]
 refine aL (λhc=>?_) (λhc=>?_);rw[hc];rw[ak (.inl (oT hc))]at he;rw[he]at hK;simp only[cy,ae,bD];exact hK;rw[hc];simp only[ct,ae];refine aL (λhd=>?_) (λhd=>?_);rw[ak (.inr (oT hd))]at he;rw[he]at hK;exact hK;exact key (by rintro (q|q);exact oF hc q;exact oF hd q)
 grind [chkL]
theorem box3{e:ah}{a b v:AV}{K:AV->Hq->Prop}(ha:a.one=true)(hb:b.one=true)(hv:v.one=true)(h:∀b0 s',s b0=none->Hc s' b0 e [a,b,v]->Upto b0 s s'->K (Pp b0) s'):boxK e (.agg [a,b,v]) K s:=
 ⟨by simp[ha,hb,hv],aI h⟩
abbrev recV(n q:Int)(v:AV):AV:=.agg [n,q,v]
def chkR(nodes n q:Int)(l:List Int):Int:=if n<0∨nodes<=n∨q<1∨1073741824<q then 2 else chkL none l
theorem zX{nodes n q:Int}{v:AV}{l:List Int}(h:Sli s v l)(hl:l.length<=1000000)(hK:∀s',Sub s s'->K (chkR nodes n q l:Int) s'):wC TP 100 [nodes,recV n q v] K s:=by
 refine Wv (box3 rfl rfl h.one λb s1 hb h1 u1=>?_);have sub:=u1.sub hb;have fin2:(n<0∨nodes<=n∨q<1∨1073741824<q)->K (Ii 2) s1:=(by grind [chkR])
 have finC:¬(n<0∨nodes<=n∨q<1∨1073741824<q)->wC TP 111 [v] (λv s=>K v s) s1:=(by grind [R8,chkR,Sl.sub])
 simp only[aK,ae,au h1,zAY,g0Y,g1Y,bu,dQ,dy,Ef,Ee,Ec]
 by_cases n0:n<0<;>by_cases n1:nodes<=n<;>by_cases n2:q<1<;>by_cases n3:1073741824<q<;>simp only[n0,n1,n2,n3,decide_true,decide_false,bD,aR,cy,ct,ae]<;>first|exact fin2 oM|exact finC oM
def orL:List Int->Int
 |[]=>0
 |x::r=>if x≠0 then x else orL r
theorem GX(x:Int)(r:List Int):orL (x::r)=if x≠0 then x else orL r:=rfl
theorem GY{v:AV}{l:List Int}(h:Sli s v l)(hl:l.length<=1000000)(hK:K (orL l:Int) s):wC TP 137 [v] K s:=by
 refine WV ?_;simp only[Px,h.len,ae,lMY,bG];refine⟨λys s1 n=>∃k:Nat,ys=[Ii k]/\s1=s/\k<=l.length/\n=l.length-k/\orL l=orL (l.drop k),⟨_,0,rfl,rfl,oM,rfl,sI⟩,?_⟩;rintro f s1 n ⟨k,hy,rfl,hk,rfl,he⟩;simp only[cI,aq]at hy;rw[hy];simp only[Pw,ae,bu,aS];refine aL (λhlt=>?_) (λhge=>?_);have hlt:k<l.length:=by simpa using hlt
 have ⟨p,g1,g2⟩:=gC h hlt;rw[dG hlt]at he;rw[GX]at he;simp only[g1,g2,ae,cj,bJ,Bool.true_bne]
 by_cases hz:l[k]=0
 rw[aj (by simpa using hz)]at he;refine aL (λh=>by simp[hz]at h) λ_=>?_;simp only[bg,ae];rw[aT];exact⟨_,oM,k+1,sI,by trivial,oM,rfl,he⟩
 grind [aL]
 have hge:l.length<=k:=by simpa using hge
 rw[fc hge]at he;rw[he]at hK;exact hK
def cmpR(p q:Int)(l m:List Int):Int:=if p<q then -1 else if q<p then 1 else cmpL l m
theorem GZ(p q:Int)(l m:List Int):orL [cmpI p q,cmpL l m]=cmpR p q l m:=by
 grind [cmpR,cmpI,orL]
theorem G0{a b p q:Int}{v w:AV}{l m:List Int}(h:Sli s v l)(h':Sli s w m)(hl:l.length<=1000000)(hK:∀s',Sub s s'->K (cmpR p q l m:Int) s'):wC TP 101 [recV a p v,recV b q w] K s:=by
 refine Wy (box3 rfl rfl h.one λb1 s1 hb1 h1 u1=>box3 rfl rfl h'.one λb2 s2 hb2 h2 u2=>?_);have sub1:=u1.sub hb1;have sub2:=sub1.trans (u2.sub hb2);have h12:=u2.at h1 hb2;refine⟨s2,.refl s2,?_⟩;simp only[aK,ae,au h12,au h2,zAY,g0Y,g1Y];rw[gT];refine tY ?_;rw[ke];refine qYl (h.sub sub2) (h'.sub sub2) hl ?_;refine aE (a:=[(cmpI p q:Int),(cmpL l m:Int)]) rfl ⟨rfl,aI λc s3 hc h3 u3=>?_⟩;refine GY (l:=[cmpI p q,cmpL l m]) (Sl.mk h3 rfl sI) sI ?_
 grind [GZ,Sub.trans,Upto.sub]
theorem G1{v v':AV}{l m:List Int}(h:Sli s v l)(h':Sli s v' m)(hl:l.length<=10000000)(hK:K (l == m) s):wC TP 9 [v,v'] K s:=by
 refine WN ?_;simp only[Ps,h.len,h'.len,ae,cj,bJ,lMY,Bool.true_bne,bG];refine aL (λhne=>?_) (λheq=>?_);have:(l == m)=false:=by
  grind
 rw[<- this];exact hK;have hlm:l.length=m.length:=by
  grind
 refine⟨λys s1 n=>∃k:Nat,ys=[Ii k]/\s1=s/\k<=l.length/\n=l.length-k/\(l == m)=(l.drop k == m.drop k),⟨_,0,rfl,rfl,oM,rfl,sI⟩,?_⟩;rintro f s1 n ⟨k,hy,rfl,hk,rfl,he⟩;simp only[cI,aq]at hy;rw[hy];simp only[Pr,h.len,ae,bu,lMY,aS];refine aL (λhlt=>?_) (λhge=>?_);have hlt:k<l.length:=by simpa using hlt
 have ⟨p,g1,g2⟩:=gC h hlt;have ⟨p',g3,g4⟩:=gC h' (k:=k) oM;rw[dG hlt,dG (show k<m.length by omega),cons_beq_cons]at he;simp only[g1,g2,g3,g4,ae,cj,bJ,Bool.true_bne];rcases hq:(l[k] == m[k])with _|_
 simp_all
 rw[hq,Bool.true_and]at he;simp only[Bool.not_true,aR,bg,ae];rw[aT];exact⟨_,oM,k+1,sI,by trivial,oM,rfl,he⟩
 grind
end Go.AM.LS
