/- Part L of the proof: see the last part. -/
import Derived.Test.YtcmcofklcgafiaaGreatK
import Derived.Test.YtcmcofklcgafiaaGreatA3
set_option linter.unusedVariables false
namespace Go.AM.RT
open Go Go.Proofs List Nat
set_option maxRecDepth 100000
variable{L:List LS.Lnk}{N x:Nat}{B B' dl:Int}{F:List (Int × LS.Rec)}{q:LS.Rec}
theorem oq{k:Int}:∀{F:List (Int×LS.Rec)},look F k=none->k ∉ F.map (·.1)
 |[],_=>sI
 | e::F,h=>by
   unfold look at h;rw[find?_cons]at h;cases q:(e.1 == k)with
   |true=>rw[q]at h;cases h
   | false=>
     rw[q]at h;have ih:=oq (F:=F) (k:=k) h;intro hk;rw[map_cons]at hk;rcases mCY hk with e1|hk
     ·rw[<- e1]at q;simp at q
     ·exact ih hk
theorem xU{k:Int}{r:LS.Rec}(h:cM N L B F)(hr:GoodR N L B r)(e:r.1=k):cM N L B (stor F k r):=by
 have hn:=hr.n;refine⟨λj y hy=>?_,?_,?_⟩
 ·grind [ui,cM.g]
 ·unfold stor
  cases q:look F k with
  | some o=>
    have:(F.map λp=>if p.1=k then(k,r)else p).map (·.1)=F.map (·.1):=by
     rw[map_map];refine map_congr_left λp hp=>?_
     grind
    grind [cM.nd]
  | none=>
    grind [oq,cM.nd]
 ·unfold stor
  cases q:look F k with
  | some o=>
    intro j hj;have:(F.map λp=>if p.1=k then(k,r)else p).map (·.1)=F.map (·.1):=by
     rw[map_map];refine map_congr_left λp hp=>?_
     grind
    have hj:j∈(F.map λp=>if p.1=k then(k,r)else p).map (·.1):=hj;rw[this]at hj;exact h.k j hj
  | none=>
    intro j hj;have hj:j∈(F ++ [(k,r)]).map (·.1):=hj;rw[map_append]at hj;rcases mP hj with hj|hj
    ·exact h.k j hj
    grind
theorem IU(hF:cM N L (B+1) F)(hq:GoodR N L B q)(hx:x<N)(hd:0<=dl/\dl<=B+1)(hL:L.length<=64)(hB:0<=B/\B<1073741824):
  (LS.cL (N:Int) (x:Int) dl F q).err=0/\cM N L (B+1) (LS.cL (N:Int) (x:Int) dl F q).F/\0<=(LS.cL (N:Int) (x:Int) dl F q).last/\(LS.cL (N:Int) (x:Int) dl F q).last<=B+1:=by
 have hs:=hq.q;unfold LS.cL;rw[if_neg (by rw[hq.chk hL oM];simp)];have hq':=hq.up (B':=B+1) oM;cases ho:look F q.1 with
 | none=>
   grind [xU]
 | some o=>
   simp only[];split
   ·grind
   ·split
    ·split
     ·rename_i e
      rw[if_neg oM];have ⟨e1,e2⟩:=hF.g _ _ ho;refine⟨rfl,xU hF ⟨gR,gR,e2.a,λi hi=>?_⟩ rfl,gR,gR⟩
      grind [GoodR.o]
     grind [xU]
    ·grind
variable{Us:List Int}
theorem IV(hF:cM N L (B+1) F)(hx:x<N)(hd:0<=dl/\dl<=B+1)(hL:L.length<=64)(hB:0<=B/\B<1073741800)(h1:Us.Pairwise (· < ·))(h2:∀i∈Us,owB L (x:Int) i=true):
  (LS.ownR (x:Int) dl F Us).err=0/\cM N L (B+2) (LS.ownR (x:Int) dl F Us).F/\0<=(LS.ownR (x:Int) dl F Us).last/\(LS.ownR (x:Int) dl F Us).last<=B+2/\GoodR N L (B+2) (LS.ownR (x:Int) dl F Us).r:=by
 have hc:LS.chkL none Us=0:=IS h1 (λi hi=>by have:=xT (h2 i hi);omega) λq hq=>by cases hq
 have new:(LS.ownN (x:Int) dl F Us).err=0/\cM N L (B+2) (LS.ownN (x:Int) dl F Us).F/\0<=(LS.ownN (x:Int) dl F Us).last/\(LS.ownN (x:Int) dl F Us).last<=B+2/\GoodR N L (B+2) (LS.ownN (x:Int) dl F Us).r:=by
  unfold LS.ownN;rw[if_neg oM];have g:GoodR N L (B+2) ((x:Int),dl+1,Us):=⟨gR,gR,h1,h2⟩
  grind [xU,cM.up]
 grind [LS.ownR,cM.up,cM.g]
theorem cM.len(h:cM N L B F):F.length<=N:=by have h1:=eI (F.map (·.1));have h2:=uh (F.map (·.1));have h3:(cB (F.map (·.1))).Nodup:=h1.nodup_iff.2 h.nd;have h4:(cB (F.map (·.1))).Pairwise (· < ·):=(h2.and h3).imp λ⟨a,b⟩=>oM;have:=sN (n:=N) h4 λi hi=>h.k i (h1.mem_iff.1 hi);rw[h1.length_eq,lMY]at this;exact this
theorem P6(h:cM N L B F):(LS.allR F).length<=N:=by have h1:(LS.allR F).length<=(cB (F.map (·.1))).length:=length_filterMap_le _ _;rw[(eI _).length_eq,lMY]at h1;have:=h.len;omega
theorem IW(h:cM N L B F):∀r∈LS.allR F,GoodR N L B r:=λr hr=>by
 grind [Px,cM.g]
variable{k de:Int}{S:Ro}{hd:List Int}
structure WtG(de k:Int)(W:DT.Wt):Prop where
 m:W.m=de
 l:∀j,W.last=some j->j<=k
 h:∀j,W.heard=some j->0<=j/\j<=k
 c:0<=W.changes/\W.changes<=k
structure RoG(N x:Nat)(L:List LS.Lnk)(de B k:Int)(S:Ro):Prop where
 w:∀n∈ownL L x,WtG de k (S.W n)
 la:S.tk=true->S.la<=k
 dl:0<=S.dl/\S.dl<=B
 F:cM N L B S.F
 U:S.U.length=L.length
theorem WtG.tick{W:DT.Wt}{b:Bool}(h:WtG de k W)(hk:0<=k):WtG de (k+1) (DT.fF W (k+1) b):=by
 refine⟨h.m,λj hj=>?_,λj hj=>?_,?_⟩
 ·have:some (k+1)=some j:=hj
  cases this;omega
 ·cases b with
  | true=>
    have:some (k+1)=some j:=hj;cases this;omega
  | false=>
    have:=h.h j hj;omega
 have:=h.c;show 0<=(if DT.cY W (k+1) b then W.changes+1 else W.changes)/\(if DT.cY W (k+1) b then W.changes+1 else W.changes)<=k+1;split<;>omega
theorem mc:(ownL L x).Pairwise (· < ·):=List.Pairwise.filter _ pairwise_lt_range
theorem IX{W:Nat->DT.Wt}:(ups (ownL L x) W).Pairwise (· < ·):=by
 grind [ups,mc]
theorem IY{W:Nat->DT.Wt}:∀i∈ups (ownL L x) W,owB L (x:Int) i=true:=λi hi=>by
 obtain⟨n,hn,rfl⟩:=mem_map.1 hi
 grind [lU]
theorem IZ{f:Int->Int->Bool}(hL:L.length<=64):(LS.dA f L).length=L.length:=by
 grind [LS.dA]
theorem I6{lu nu:Nat->Bool}(hL:L.length<=64):(dZ L lu nu x).Pairwise (· < ·)/\(∀i∈dZ L lu nu x,owB L (x:Int) i=true)/\(dZ L lu nu x).length<=1000:=by
 refine⟨?_,λi hi=>?_,?_⟩
 grind [dZ,mc]
 obtain⟨n,hn,rfl⟩:=mem_map.1 hi
 grind [lU]
 grind [dZ,lR]
theorem I7(h:RoG N x L de (B+1) k S)(hx:x<N)(hN:N<=32)(hL:L.length<=64)(hB:0<=B/\B<1073741800)(hk:0<=k/\k<=1000)(hde:1<=de/\de<=1000)(ha:hd.Pairwise (· < ·))(ho:∀i∈hd,owB L (x:Int) i=true)(hl:hd.length<=1000):
  TkP x L S (k+1) hd/\RoG N x L de (B+2) (k+1) (gH x L S (k+1) hd)/\(∀n∈d9 x L S (k+1) hd,GoodR N L (B+2) n.2):=by
 have G:=IV (Us:=ups (ownL L x) (Wn (ownL L x) S.W (k+1) hd)) h.F hx h.dl hL hB IX IY;have hG:LS.ownR (x:Int) S.dl S.F (ups (ownL L x) (Wn (ownL L x) S.W (k+1) hd))=fI x (ownL L x) S (k+1) hd:=rfl;rw[hG]at G;have ⟨g1,g2,g3,g4,g5⟩:=G;refine⟨⟨λn hn=>?_,oM,λht=>by have:=h.la ht;omega,h.dl.1,h.U,ha,ho,hl,g2.asc,?_,?_⟩,⟨λn hn=>?_,λ_=>by show k+1<=k+1;omega,⟨g3,g4⟩,g2,IZ hL⟩,λn hn=>?_⟩;have w:=h.w n hn;refine⟨⟨by rw[w.m];omega,by rw[w.m];omega,λj hj=>by have:=w.h j hj;omega⟩,⟨w.c.1,by have:=w.c;omega⟩,?_⟩;unfold DT.fG;rw[if_neg oM];rcases q:(S.W n).last with _|j;rfl;have:=w.l j q
 grind
 have:=g5.len;omega;have:=P6 g2;omega;show WtG de (k+1) (Wn (ownL L x) S.W (k+1) hd n)
 grind [Wn,WtG.tick,RoG.w]
 grind [d9,ntsL,chT,IW]
theorem I8{lk:Int}(h:RoG N x L de (B+1) k S)(hx:x<N)(hL:L.length<=64)(hB:0<=B/\B<1073741800)(hde:1<=de)(hq:GoodR N L B q)(ho:owB L (x:Int) lk=true):
  RvP N x L S lk q/\RoG N x L de (B+1) k (fJ N x L S q)/\(∀n∈eK N x L S lk q,GoodR N L (B+1) n.2):=by
 have ⟨g1,g2,g3,g4⟩:=IU (q:=q) h.F hq hx h.dl hL ⟨hB.1,oM⟩;refine⟨⟨λn hn=>by rw[(h.w n hn).m];omega,ho,h.U,by have:=hq.len;omega,g1,g2.asc⟩,⟨h.w,h.la,⟨g3,g4⟩,g2,IZ hL⟩,λn hn=>?_⟩;unfold eK ntsL at hn;have ⟨i,hi,hn⟩:=mem_flatMap.1 hn;split at hn
 ·obtain⟨r,hr,rfl⟩:=mem_map.1 hn
  unfold chR at hr;split at hr
  grind [GoodR.up]
  ·split at hr
   rename_i hc;rw[mem_singleton]at hr;rw[hr];have:=PC (N:=N) (x:=x) (S:=S) (q:=q) gR;exact(g2.g _ _ this).2
   ·cases hr
 ·cases hn
variable{n:Nat}{k':Int}{T:Pst}{m:Msg}
theorem WtG.up{W:DT.Wt}(h:WtG de k W)(hk:k<=k'):WtG de k' W:=⟨h.m,λj hj=>by have:=h.l j hj;omega,λj hj=>by have:=h.h j hj;omega,by have:=h.c;omega⟩
theorem RoG.up(h:RoG N x L de B k S)(hB:B<=B')(hk:k<=k'):RoG N x L de B' k' S:=⟨λn hn=>(h.w n hn).up hk,λht=>by have:=h.la ht;omega,by have:=h.dl;omega,h.F.up hB,h.U⟩
structure MsgG(N:Nat)(L:List LS.Lnk)(B:Int)(m:Msg):Prop where
 n:m.1<N
 o:owB L (m.1:Int) (m.2.1:Int)=true
 r:GoodR N L B m.2.2
theorem MsgG.up(h:MsgG N L B m)(hB:B<=B'):MsgG N L B' m:=⟨h.n,h.o,h.r.up hB⟩
structure Lks(N:Nat)(L:List LS.Lnk):Prop where
 n:N<=32
 l:L.length<=64
 e:∀y∈L,(0<=y.1/\y.1<(N:Int))/\(0<=y.2.1/\y.2.1<(N:Int))
theorem I9(hl:Lks N L){i:Nat}(ho:owB L (n:Int) (i:Int)=true):far L n i<N/\owB L ((far L n i:Nat):Int) (i:Int)=true:=by
 have h:=oT ho;have hlk:i<L.length:=by have:=h.2.1;omega
 have hyg:L.getD i (0,0,0)=L[i]:=gR;have ⟨e1,e2⟩:=hl.e _ (getElem_mem hlk);have hor:=h.2.2;rw[Int.toNat_natCast,hyg]at hor;have hf:((far L n i:Nat):Int)=L[i].1+L[i].2.1-(n:Int):=by
  grind [far]
 refine⟨gR,decide_eq_true ⟨h.1,h.2.1,?_⟩⟩
 grind
theorem P7(hl:Lks N L){ns:List Ntc}(ho:∀y∈ns,owB L (n:Int) (y.1:Int)=true)(hg:∀y∈ns,GoodR N L B y.2):∀m∈msgs L n ns,MsgG N L B m:=λm hm=>by obtain⟨y,hy,rfl⟩:=mem_map.1 hm;have ⟨a,b⟩:=I9 hl (ho y hy);exact⟨a,b,hg y hy⟩
structure PG(N:Nat)(L:List LS.Lnk)(de B k:Int)(T:Pst):Prop where
 now:T.now=k
 ro:∀n,n<N->RoG N n L de B k (T.R n)
 way:∀m∈T.way,MsgG N L B m
structure Bnd(B k de:Int):Prop where
 B:0<=B/\B<1073741800
 k:0<=k/\k<=1000
 de:1<=de/\de<=1000
theorem P8(hl:Lks N L)(b:Bnd B k de)(h1:∀n,n<N->RoG N n L de (B+1) k (T.R n))(h2:∀m∈T.way,MsgG N L (B+1) m)(hm:MsgG N L B m):
  RvP N m.1 L (T.R m.1) (m.2.1:Int) m.2.2/\(∀n,n<N->RoG N n L de (B+1) k ((rcv N L T m).R n))/\(∀y∈(rcv N L T m).way,MsgG N L (B+1) y):=by
 have ⟨g1,g2,g3⟩:=I8 (h1 _ hm.n) hm.n hl.l b.B b.de.1 hm.r hm.o;refine⟨g1,λn hn=>?_,λy hy=>?_⟩;unfold rcv;split;show RoG N n L de (B+1) k (updR T.R m.1 _ n)
 grind [updR]
 exact h1 n hn;unfold rcv at hy;split at hy;have hy:y∈T.way++msgs L m.1 (eK N m.1 L (T.R m.1) (m.2.1:Int) m.2.2):=hy;rcases mP hy with hy|hy;exact h2 y hy;exact P7 hl (λz hz=>xP hz) g3 y hy;exact h2 y hy
theorem sO(hl:Lks N L)(b:Bnd B k de)(h:PG N L de B k T):∀i,(∀n,n<N->RoG N n L de (B+1) k ((ph1 N L T i).R n))/\(∀y∈(ph1 N L T i).way,MsgG N L (B+1) y)
 | 0=>⟨λn hn=>(h.ro n hn).up oM oM,λy hy=>by cases hy⟩
 | i+1=>by
   have ⟨a,c⟩:=sO hl b h i;rcases q:T.way[i]? with _|m;have:ph1 N L T (i+1)=ph1 N L T i:=by unfold ph1;rw[take_add_one,q];simp
   grind
   rw[lZ q];exact(P8 hl b a c (h.way m (mG q))).2
theorem xV(hl:Lks N L)(b:Bnd B k de)(h:PG N L de B k T):∀i,i<=N->(∀n,n<N->(n<i->RoG N n L de (B+2) (k+1) ((ph2 N L T i).R n))/\(i<=n->RoG N n L de (B+1) k ((ph2 N L T i).R n)))/\(∀y∈(ph2 N L T i).way,MsgG N L (B+2) y)
 | 0,_=>by
   have ⟨a,c⟩:=sO hl b h T.way.length;exact⟨λn hn=>⟨λh=>oM,λ_=>a n hn⟩,λy hy=>(c y hy).up oM⟩
 | i+1,hi=>by
   have ⟨a,c⟩:=xV hl b h i oM;have ri:=(a i oM).2 (Nat.le_refl i);have ⟨k1,k2,k3⟩:=I6 (x:=i) (lu:=(ph2 N L T i).lu) (nu:=(ph2 N L T i).nu) hl.l;have ⟨g1,g2,g3⟩:=I7 ri oM hl.n hl.l b.B b.k b.de k1 k2 k3;have hnow:(ph2 N L T i).now=k+1:=by rw[l8.2.2,h.now]
   rw[jX];refine⟨λn hn=>?_,λy hy=>?_⟩;unfold tck;split;show(n<i+1->RoG N n L de (B+2) (k+1) (updR _ i _ n))/\(i+1<=n->RoG N n L de (B+1) k (updR _ i _ n))
   grind [updR]
   grind [RoG.up]
   unfold tck at hy;split at hy;rw[hnow]at hy;have hy:y∈(ph2 N L T i).way++msgs L i (d9 i L ((ph2 N L T i).R i) (k+1) (dZ L (ph2 N L T i).lu (ph2 N L T i).nu i)):=hy;rcases mP hy with hy|hy;exact c y hy;exact P7 hl (λz hz=>xP hz) g3 y hy;exact c y hy
theorem Ja(hl:Lks N L)(b:Bnd B k de)(h:PG N L de B k T):PG N L de (B+2) (k+1) (ir N L T):=by have ⟨a,c⟩:=xV hl b h N (Nat.le_refl N);exact⟨by show(ph2 N L T N).now=_;rw[l8.2.2,h.now],λn hn=>(a n hn).1 hn,c⟩
theorem Jb(hl:Lks N L)(b:Bnd B k de)(h:PG N L de B k T)(h1:(ir N L T).way.length<=16777216)(h2:T.way.length<=16777216):TickOk N L T:=by
 refine⟨λi m hm=>?_,λn hn ha=>?_,h1,h2⟩;have ⟨a,c⟩:=sO hl b h i
 grind [P8,PG.way,MsgG.n]
 have ⟨a,c⟩:=xV hl b h n oM;have ⟨k1,k2,k3⟩:=I6 (x:=n) (lu:=T.lu) (nu:=T.nu) hl.l;rw[h.now];exact(I7 ((a n hn).2 (Nat.le_refl n)) hn hl.n hl.l b.B b.k b.de k1 k2 k3).1
variable{k:Nat}{F:TN.NFab}{T':Pst}
theorem P9(ok:TN.NFok F):RoG (nF F) n F.L (F.x.de:Int) 0 0 (new0 F):=by have ⟨_,hL,_⟩:=gj ok;exact⟨λn _=>⟨rfl,(λj h=>by cases h),(λj h=>by cases h),by show(0:Int)<=0/\(0:Int)<=0;omega⟩,(λh=>by cases h),by show(0:Int)<=0/\(0:Int)<=0;omega,cM.nil,IZ hL⟩
theorem sP(ok:TN.NFok F):Lks (nF F) F.L:=by
 have ⟨_,hL,hN⟩:=gj ok;refine⟨oM,hL,λy hy=>?_⟩;have ⟨a1,a2,_⟩:=ok.L.2 y hy
 grind
theorem Jc(ok:TN.NFok F)(h:PG (nF F) F.L (F.x.de:Int) B (k:Int) T)(hB:0<=B)(c:Chg F T T'):PG (nF F) F.L (F.x.de:Int) B (k:Int) T':=by
 cases c with
 |no=>exact h
 |link i x hi=>exact⟨h.now,h.ro,h.way⟩
 | node n x hn=>
   refine⟨h.now,λj hj=>?_,h.way⟩;show RoG _ _ _ _ _ _ ((if(x&&!T.nu n)=true then updR T.R n (new0 F)else T.R) j);split;unfold updR;split;exact(P9 ok).up hB oM;exact h.ro j hj;exact h.ro j hj
theorem Qa(ok:TN.NFok F)(h:Rch F k T):k<=400->PG (nF F) F.L (F.x.de:Int) (2*(k:Int)) (k:Int) T:=by
 have hde:=ok.x.de
 induction h with
 |zero=>exact λ_=>⟨rfl,λn hn=>P9 ok,λm hm=>by cases hm⟩
 | @step j T T' h c ih=>
   intro hk;have h1:=Jc ok (ih oM) oM c;have:=Ja (sP ok) ⟨oM,oM,oM⟩ h1;rw[show(2*((j+1:Nat):Int))=2*(j:Int)+2 by omega,show((j+1:Nat):Int)=(j:Int)+1 by omega];exact this
theorem Jd(ok:TN.NFok F)(h:Rch F k T)(hk:k<=399)(c:Chg F T T')(h1:(ir (nF F) F.L T').way.length<=16777216)(h2:T'.way.length<=16777216):TickOk (nF F) F.L T':=by have hde:=ok.x.de;exact Jb (sP ok) ⟨oM,oM,oM⟩ (Jc ok (Qa ok h oM) oM c) h1 h2
def subs:List Int->List (List Int)
 |[]=>[[]]
 |x::l=>(subs l).map (x :: ·)++subs l
theorem Qc:∀{l:List Int},(subs l).length=2^l.length
 |[]=>rfl
 | x::l=>by
   unfold subs;rw[lAp,lMY,Qc,length_cons,Nat.pow_succ];omega
theorem xW:∀{o l:List Int},o.Pairwise (· < ·)->l.Pairwise (· < ·)->(∀i∈l,i∈o)->l∈subs o
 | [],l,_,_,h=>by
   have:l=[]:=by
    cases l with
    |nil=>rfl
    |cons y l=>have:=h y sI;cases this
   rw[this];simp[subs]
 | x::o,[],h1,_,_=>by
   unfold subs;exact mem_append_right _ (xW (pairwise_cons.1 h1).2 .nil sI)
 | x::o,y::l,h1,h2,h=>by
   have ⟨a1,b1⟩:=pairwise_cons.1 h1;have ⟨a2,b2⟩:=pairwise_cons.1 h2;unfold subs
   by_cases e:y=x
   subst e;refine mem_append_left _ (mem_map.2 ⟨l,xW b1 b2 λi hi=>?_,rfl⟩);have h3:=a2 i hi;rcases mCY (h i (by simp[hi]))with q|q;omega;exact q;refine mem_append_right _ (xW b1 h2 λi hi=>?_);have hy:y∈o:=by rcases mCY (h y sI)with q|q;exact absurd q e;exact q
   have hxy:=a1 y hy;rcases mCY hi with q|q;rw[q];exact hy;have h3:=a2 i q;rcases mCY (h i (by simp[q]))with q2|q2;omega;exact q2
def below(o l:List Int):Nat:=((subs o).filter λm=>decide (LS.cmpL m l=-1)).length
theorem Qd{o l:List Int}:below o l<=2^o.length:=by
 grind [below,Qc]
theorem Qe{A:Type}{p q:A->Bool}:∀{l:List A}{x:A},(∀y∈l,p y=true->q y=true)->x∈l->p x=false->q x=true->(l.filter p).length<(l.filter q).length
 | y::l,x,h,hx,h1,h2=>by
   have hle:(l.filter p).length<=(l.filter q).length:=by
    have:∀l:List A,(∀y∈l,p y=true->q y=true)->(l.filter p).length<=(l.filter q).length:=by
     intro l
     induction l with
     |nil=>intro _;simp
     | cons z l ih=>
       grind
    grind
   rw[filter_cons,filter_cons];rcases mCY hx with e|hx
   ·subst e
    rw[h1,h2];simp;omega
   ·have ih:=Qe (λy hy=>h y (by simp[hy])) hx h1 h2
    cases hp:p y with
    |true=>rw[h y sI hp];simpa using ih
    | false=>
      cases hq:q y with
      |true=>simp;omega
      |false=>simpa using ih
theorem Qf:∀l:List Int,LS.cmpL l l=0
 |[]=>rfl
 |x::l=>by rw[LS.lL,if_neg oM,if_neg oM];exact Qf l
theorem Je{o l m:List Int}(hl:l∈subs o)(h:LS.cmpL l m=-1):below o l<below o m:=by
 unfold below;refine Qe (λy _ hy=>?_) hl (by rw[Qf];rfl) (by rw[h];rfl)
 grind [LS.Zk,LS.Pi]
variable{F:List (Int × LS.Rec)}{o r:LS.Rec}
def ownI(L:List LS.Lnk)(v:Int):List Int:=(ownL L v.toNat).map λ(i:Nat)=>(i:Int)
def rk(L:List LS.Lnk)(r:LS.Rec):Nat:=r.2.1.toNat*17+below (ownI L r.1) r.2.2+1
def valF(L:List LS.Lnk)(F:List (Int×LS.Rec))(v:Nat):Nat:=match look F (v:Int)with
 |some r=>rk L r
 |none=>0
def phi(N:Nat)(L:List LS.Lnk)(F:List (Int×LS.Rec)):Nat:=((List.range N).map (valF L F)).sum
theorem sQ{f g:Nat->Nat}:∀{l:List Nat},(∀v∈l,f v<=g v)->(l.map f).sum<=(l.map g).sum
 |[],_=>sI
 | y::l,h=>by
   have h1:=h y sI;have h2:=sQ (l:=l) λv hv=>h v (by simp[hv])
   grind
theorem sS{f g:Nat->Nat}{x:Nat}:∀{l:List Nat},(∀v∈l,f v<=g v)->x∈l->f x<g x->(l.map f).sum<(l.map g).sum
 | y::l,h,hx,hlt=>by
   have h1:=h y sI;have h2:=sQ (l:=l) λv hv=>h v (by simp[hv]);simp only[map_cons,sum_cons];rcases mCY hx with e|hx;subst e;omega;have h3:=sS (λv hv=>h v (by simp[hv])) hx hlt;omega
theorem Qg{k:Nat}(hk:k<N)(h:valF L F k<rk L r):phi N L F+1<=phi N L (stor F (k:Int) r):=by
 have e:∀v,valF L (stor F (k:Int) r) v=if v=k then rk L r else valF L F v:=(by grind [valF,ui])
 have:=sS (f:=valF L F) (g:=valF L (stor F (k:Int) r)) (x:=k) (l:=List.range N) (gR) (mem_range.2 hk) gR;unfold phi;omega
theorem Jf{v i:Int}(hv:0<=v)(h:owB L v i=true):i∈ownI L v:=by
 have:=xT h;refine mem_map.2 ⟨i.toNat,lU.2 ?_,oM⟩
 grind
theorem Jg{v:Int}:(ownI L v).Pairwise (· < ·):=by
 grind [ownI,mc]
theorem Jh(h:GoodR N L B r):r.2.2∈subs (ownI L r.1):=xW Jg h.a λi hi=>Jf h.n.1 (h.o i hi)
theorem Ji(ho:GoodR N L B o)(e:q.1=o.1)(hd:(ownI L o.1).length<=4)(h:LS.cmpR q.2.1 o.2.1 q.2.2 o.2.2=1)(hq:1<=q.2.1):rk L o<rk L q:=by
 have h1:below (ownI L o.1) o.2.2<=16:=Nat.le_trans Qd (by have:2^(ownI L o.1).length<=2^4:=Nat.pow_le_pow_right oM hd;omega)
 have hs:=ho.q;unfold LS.cmpR at h;unfold rk;rw[e];split at h
 ·cases h
 split at h;omega;have e2:q.2.1=o.2.1:=oM;have h2:LS.cmpL o.2.2 q.2.2=-1:=by rw[LS.Pi,h]
 have:=Je (Jh ho) h2;rw[e2];omega
variable{lk:Int}
theorem Qh{up:Nat->Bool}{ch:Nat->List LS.Rec}(h:∀n,(ch n).length<=1):∀{own:List Nat},(ntsL own up ch).length<=own.length
 |[]=>by simp[ntsL]
 | n::own=>by
   have ih:=Qh (up:=up) h (own:=own);have e:ntsL (n::own) up ch=(if up n=true then(ch n).map λr=>(n,r)else[])++ntsL own up ch:=rfl;have h1:=h n;rw[e,lAp,length_cons];split;rw[lMY];omega;simp;omega
theorem Qi{up:Nat->Bool}{ch:Nat->List LS.Rec}{k:Int}(h:∀n:Nat,(n:Int)≠k->ch n=[])(h1:∀n,(ch n).length<=1):∀{own:List Nat},own.Pairwise (· < ·)->(ntsL own up ch).length<=1
 |[],_=>by simp[ntsL]
 | n::own,ha=>by
   have ⟨a,b⟩:=pairwise_cons.1 ha;have ih:=Qi (up:=up) h h1 b;have e:ntsL (n::own) up ch=(if up n=true then(ch n).map λr=>(n,r)else[])++ntsL own up ch:=rfl;rw[e,lAp]
   by_cases hk:(n:Int)=k
   have:ntsL own up ch=[]:=by unfold ntsL;rw[flatMap_eq_nil_iff];intro j hj;have:=a j hj;rw[h j oM];simp
   grind
   grind
theorem Jj(hF:cM N L (B+1) F)(hq:GoodR N L B q)(hx:x<N)(hd4:∀v,(ownI L v).length<=4)(hL:L.length<=64)(hB:0<=B/\B<1073741824):
  (((LS.cL (N:Int) (x:Int) dl F q).code=0∨(LS.cL (N:Int) (x:Int) dl F q).code=2)/\(LS.cL (N:Int) (x:Int) dl F q).F=F)∨(((LS.cL (N:Int) (x:Int) dl F q).code=1∨(LS.cL (N:Int) (x:Int) dl F q).code=3)/\phi N L F+1<=phi N L (LS.cL (N:Int) (x:Int) dl F q).F):=by
 have hs:=hq.q;have hn:=hq.n;have eN:((q.1.toNat:Nat):Int)=q.1:=oM;have st:∀(h:valF L F q.1.toNat<rk L q),phi N L F+1<=phi N L (stor F q.1 q):=λh=>by
  have:=Qg (N:=N) (k:=q.1.toNat) oM h
  rwa [eN]at this
 unfold LS.cL;rw[if_neg (by rw[hq.chk hL oM];simp)];cases ho:look F q.1 with
 | none=>
   grind [valF,rk]
 | some o=>
   have ⟨e1,e2⟩:=hF.g _ _ ho;simp only[];split
   grind
   split;rename_i h2;have hlt:=Ji e2 e1.symm (hd4 _) h2 hs.1;have hv:valF L F q.1.toNat=rk L o:=by unfold valF;rw[eN,ho]
   split;rename_i e;rw[if_neg oM];refine .inr ⟨.inr rfl,?_⟩;have:=Qg (N:=N) (L:=L) (F:=F) (k:=x) (r:=((x:Int),q.2.1+1,o.2.2)) hx (by
    grind [LS.cmpR,rk])
   exact this
   grind
   grind
theorem Jk(hF:cM N L (B+1) S.F)(hq:GoodR N L B q)(hx:x<N)(hd4:∀v,(ownI L v).length<=4)(hL:L.length<=64)(hB:0<=B/\B<1073741824):(eK N x L S lk q).length+4*phi N L S.F<=4*phi N L (fJ N x L S q).F+1:=by
 have hown:(ownL L x).length<=4:=by
  have:=hd4 (x:Int)
  grind [ownI]
 have c1:∀(c:Int) (n:Nat),(chR c lk q (LS.gotR (du N x S q).F q.1) n).length<=1:=(by grind [chR])
 show(ntsL _ _ _).length+_<=4*phi N L (du N x S q).F+1;rcases Jj (dl:=S.dl) hF hq hx hd4 hL hB with⟨hc,hf⟩|⟨hc,hp⟩;have hf:(du N x S q).F=S.F:=hf;have:(ntsL (ownL L x) (λn=>(S.W n).up) (chR (du N x S q).code lk q (LS.gotR (du N x S q).F q.1))).length<=1:=by
  refine Qi (k:=lk) (λn hn=>?_) (c1 _) mc;have hc:(du N x S q).code=0∨(du N x S q).code=2:=hc
  grind [chR]
 grind
 have h1:=Qh (up:=λn=>(S.W n).up) (c1 (du N x S q).code) (own:=ownL L x);have hp:phi N L S.F+1<=phi N L (du N x S q).F:=hp;omega
variable{k:Int}
def Phi(N:Nat)(L:List LS.Lnk)(R:Nat->Ro):Nat:=((List.range N).map λn=>phi N L (R n).F).sum
theorem sT{f:Nat->Nat}{x a:Nat}:∀{l:List Nat},l.Nodup->x∈l->(l.map λn=>if n=x then a else f n).sum+f x=(l.map f).sum+a
 | y::l,hn,hx=>by
   have ⟨h1,h2⟩:=nodup_cons.1 hn;simp only[map_cons,sum_cons]
   by_cases e:y=x
   subst e;have:(l.map λn=>if n=y then a else f n)=l.map f:=map_congr_left λz hz=>by rw[if_neg];rintro rfl;exact h1 hz
   rw[this,if_pos rfl];omega;rw[if_neg e];have hx':x∈l:=by rcases mCY hx with q|q;exact absurd q.symm e;exact q
   have:=sT (f:=f) (a:=a) h2 hx';omega
theorem Jl{R:Nat->Ro}(hx:x<N):Phi N L (updR R x S)+phi N L (R x).F=Phi N L R+phi N L S.F:=by
 unfold Phi;have e:((List.range N).map λn=>phi N L (updR R x S n).F)=(List.range N).map λn=>if n=x then phi N L S.F else phi N L (R n).F:=(by grind [updR])
 rw[e];exact sT (f:=λn=>phi N L (R n).F) nodup_range (mem_range.2 hx)
theorem Jm(hl:Lks N L)(b:Bnd B k de)(hd4:∀v,(ownI L v).length<=4)(h1:∀n,n<N->RoG N n L de (B+1) k (T.R n))(hm:MsgG N L B m):(rcv N L T m).way.length+4*Phi N L T.R<=T.way.length+4*Phi N L (rcv N L T m).R+1:=by
 unfold rcv;split;have h:=Jk (lk:=(m.2.1:Int)) (h1 _ hm.n).F hm.r hm.n hd4 hl.l ⟨b.B.1,by have:=b.B;omega⟩;have e:=Jl (N:=N) (L:=L) (R:=T.R) (S:=fJ N m.1 L (T.R m.1) m.2.2) hm.n;show(T.way++msgs L m.1 _).length+_<=T.way.length+4*Phi N L (updR T.R m.1 _)+1
 grind [msgs]
 grind
theorem sU(hl:Lks N L)(b:Bnd B k de)(hd4:∀v,(ownI L v).length<=4)(h:PG N L de B k T):∀i,(ph1 N L T i).way.length+4*Phi N L T.R<=4*Phi N L (ph1 N L T i).R+i
 | 0=>by
   show 0+4*Phi N L T.R<=4*Phi N L T.R+0;omega
 | i+1=>by
   have ih:=sU hl b hd4 h i;cases q:T.way[i]? with
   | none=>
     have:ph1 N L T (i+1)=ph1 N L T i:=by unfold ph1;rw[take_add_one,q];simp
     rw[this];omega
   | some m=>
     rw[lZ q];have:=Jm (T:=ph1 N L T i) hl b hd4 (sO hl b h i).1 (h.way m (mG q));omega
theorem sV{up:Nat->Bool}{ch:Nat->List LS.Rec}{c:Nat}(h:∀n,(ch n).length<=c):∀{own:List Nat},(ntsL own up ch).length<=own.length*c
 |[]=>by simp[ntsL]
 | n::own=>by
   have ih:=sV (up:=up) h (own:=own);have e:ntsL (n::own) up ch=(if up n=true then(ch n).map λr=>(n,r)else[])++ntsL own up ch:=rfl;have h1:=h n;rw[e,lAp,length_cons,succ_mul]
   grind
theorem sW(hl:Lks N L)(b:Bnd B k de)(hd4:∀v,(ownI L v).length<=4)(h:PG N L de B k T)(hN:1<=N):∀i,i<=N->(ph2 N L T i).way.length<=(ph1 N L T T.way.length).way.length+i*(4*N)
 | 0,_=>by show(ph1 N L T T.way.length).way.length<=_;omega
 | i+1,hi=>by
   have ih:=sW hl b hd4 h hN i oM;have ri:=((xV hl b h i oM).1 i oM).2 (Nat.le_refl i);have ⟨k1,k2,k3⟩:=I6 (x:=i) (lu:=(ph2 N L T i).lu) (nu:=(ph2 N L T i).nu) hl.l;have g2:=(I7 ri oM hl.n hl.l b.B b.k b.de k1 k2 k3).2.1.F;have hnow:(ph2 N L T i).now=k+1:=by rw[l8.2.2,h.now]
   rw[jX,succ_mul];unfold tck;split
   ·rw[hnow]
    show((ph2 N L T i).way++msgs L i (d9 i L ((ph2 N L T i).R i) (k+1) (dZ L (ph2 N L T i).lu (ph2 N L T i).nu i))).length<=_;rw[lAp];unfold msgs;rw[lMY];have hown:(ownL L i).length<=4:=by
     have:=hd4 (i:Int)
     grind [ownI]
    have hc:∀rs F made rec (n:Nat),(LS.allR F).length<=N->(chT (k+1) rs F made rec n).length<=N:=(by grind [chT])
    have h3:(d9 i L ((ph2 N L T i).R i) (k+1) (dZ L (ph2 N L T i).lu (ph2 N L T i).nu i)).length<=(ownL L i).length*N:=by unfold d9;exact sV λn=>hc _ _ _ _ n (P6 g2)
    have h4:(ownL L i).length*N<=4*N:=mul_le_mul_right N hown;omega
   ·omega
theorem Jn(h:GoodR N L B r)(hd4:∀v,(ownI L v).length<=4){b:Nat}(hB:B<=b):rk L r<=b*17+17:=by
 have h1:below (ownI L r.1) r.2.2<=16:=Nat.le_trans Qd (by have:2^(ownI L r.1).length<=2^4:=Nat.pow_le_pow_right oM (hd4 _);omega)
 have:=h.q;unfold rk;omega
theorem Jo{f:Nat->Nat}{c:Nat}:∀{l:List Nat},(∀v∈l,f v<=c)->(l.map f).sum<=l.length*c
 |[],_=>sI
 | y::l,h=>by
   have h1:=h y sI;have h2:=Jo (l:=l) λv hv=>h v (by simp[hv]);rw[map_cons,sum_cons,length_cons,succ_mul];omega
theorem Jp{R:Nat->Ro}(h:∀n,n<N->cM N L B (R n).F)(hd4:∀v,(ownI L v).length<=4){b:Nat}(hB:B<=b):Phi N L R<=N*(N*(b*17+17)):=by
 unfold Phi;have:=Jo (f:=λn=>phi N L (R n).F) (c:=N*(b*17+17)) (l:=List.range N) λn hn=>by
  show phi N L (R n).F<=_;unfold phi;have:=Jo (f:=valF L (R n).F) (c:=b*17+17) (l:=List.range N) λv hv=>by unfold valF;rcases q:look (R n).F (v:Int)with _|r;show 0<=_;omega;exact Jn ((h n (mem_range.1 hn)).g _ _ q).2 hd4 hB
  grind
 grind
variable{k:Nat}{F:TN.NFab}
theorem Qj{l:List Int}{lo hi:Int}(h:l.Nodup)(hb:∀i∈l,lo<=i/\i<hi)(hle:lo<=hi):(l.length:Int)+lo<=hi:=by
 have h1:=eI l;have h3:(cB l).Nodup:=h1.nodup_iff.2 h;have h4:(cB l).Pairwise (· < ·):=((uh l).and h3).imp λ⟨a,b⟩=>oM;have:=IT (lo:=lo) (n:=hi) h4 (λi hi=>hb i (h1.mem_iff.1 hi)) hle
 rwa [h1.length_eq]at this
theorem own4(ok:TN.NFok F):(ownL F.L x).length<=4:=by
 have h1:=ok.x.lf;have h2:=ok.x.sp;have ⟨nd,rg⟩:=ok.L;have at_:∀i∈ownL F.L x,∃h:i<F.L.length,F.L[i].1=(x:Int)∨F.L[i].2.1=(x:Int):=λi hi=>by
  have h:=oT (lU.1 hi);have hlk:i<F.L.length:=by have:=h.2.1;omega
  simp_all
 have pr:∀i j (hi:i<F.L.length) (hj:j<F.L.length),i<j->(F.L[i].1,F.L[i].2.1)≠(F.L[j].1,F.L[j].2.1):=λi j hi hj hij=>by have:=pairwise_iff_getElem.1 nd i j (by simpa using hi) (by simpa using hj) hij;simpa using this
 by_cases hx:(x:Int)<F.x.lf
 have:=Qj (l:=(ownL F.L x).map λi=>(F.L.getD i (0,0,0)).2.1) (lo:=F.x.lf) (hi:=(F.x.lf:Int)+F.x.sp) (by
  refine pairwise_map.2 (List.Pairwise.imp_of_mem (fun {a b} ha hb hab=>?_) mc);have ⟨la,oa⟩:=at_ a ha;have ⟨lb,ob⟩:=at_ b hb;have ⟨_,ra,_⟩:=rg _ (getElem_mem la);have ⟨_,rb,_⟩:=rg _ (getElem_mem lb);have ea:F.L.getD a (0,0,0)=F.L[a]:=by rw[getD_eq_getElem?_getD,gE la];rfl
  have eb:F.L.getD b (0,0,0)=F.L[b]:=by rw[getD_eq_getElem?_getD,gE lb];rfl
  rw[ea,eb];intro e;refine pr a b la lb hab ?_;have h3:F.L[a].1=(x:Int):=oM;have h4:F.L[b].1=(x:Int):=oM;rw[h3,h4,e]) (λi hi=>by
  obtain⟨j,hj,rfl⟩:=mem_map.1 hi;have ⟨la,_⟩:=at_ j hj;have ⟨_,ra,_⟩:=rg _ (getElem_mem la);have ea:F.L.getD j (0,0,0)=F.L[j]:=by rw[getD_eq_getElem?_getD,gE la];rfl
  show(F.x.lf:Int)<=(F.L.getD j (0,0,0)).2.1/\(F.L.getD j (0,0,0)).2.1<(F.x.lf:Int)+F.x.sp;rw[ea];omega) oM
 rw[lMY]at this;omega;have:=Qj (l:=(ownL F.L x).map λi=>(F.L.getD i (0,0,0)).1) (lo:=0) (hi:=(F.x.lf:Int)) (by
  refine pairwise_map.2 (List.Pairwise.imp_of_mem (fun {a b} ha hb hab=>?_) mc);have ⟨la,oa⟩:=at_ a ha;have ⟨lb,ob⟩:=at_ b hb;have ⟨ra,_⟩:=rg _ (getElem_mem la);have ⟨rb,_⟩:=rg _ (getElem_mem lb);have ea:F.L.getD a (0,0,0)=F.L[a]:=by rw[getD_eq_getElem?_getD,gE la];rfl
  have eb:F.L.getD b (0,0,0)=F.L[b]:=by rw[getD_eq_getElem?_getD,gE lb];rfl
  rw[ea,eb];intro e;refine pr a b la lb hab ?_;have h3:F.L[a].2.1=(x:Int):=oM;have h4:F.L[b].2.1=(x:Int):=oM;rw[h3,h4,e]) (λi hi=>by
  obtain⟨j,hj,rfl⟩:=mem_map.1 hi;have ⟨la,_⟩:=at_ j hj;have ⟨ra,_⟩:=rg _ (getElem_mem la);have ea:F.L.getD j (0,0,0)=F.L[j]:=by rw[getD_eq_getElem?_getD,gE la];rfl
  show 0<=(F.L.getD j (0,0,0)).1/\(F.L.getD j (0,0,0)).1<(F.x.lf:Int);rw[ea];omega) oM
 rw[lMY]at this;omega
theorem own4I(ok:TN.NFok F)(v:Int):(ownI F.L v).length<=4:=by grind [ownI,own4]
theorem sX(c:Chg F T T'):T'.way=T.way:=by cases c<;>rfl
theorem Qk(ok:TN.NFok F)(h:Rch F k T)(hk:k<=40)(c:Chg F T T'):(ir (nF F) F.L T').way.length<=T'.way.length+300000:=by
 have hde:=ok.x.de;have h1:=ok.x.lf;have h2:=ok.x.sp;have hN:nF F<=7:=(gj ok).2.2;have hN1:1<=nF F:=gR;have g:=Jc ok (Qa ok h oM) oM c;have b:Bnd (2*(k:Int)) (k:Int) (F.x.de:Int):=⟨oM,oM,oM⟩
 have l1:=sU (sP ok) b (own4I ok) g T'.way.length;have l2:=sW (sP ok) b (own4I ok) g hN1 (nF F) (Nat.le_refl _);have p:=Jp (N:=nF F) (L:=F.L) (R:=(ph1 (nF F) F.L T' T'.way.length).R) (λn hn=>((sO (sP ok) b g T'.way.length).1 n hn).F) (own4I ok) (b:=81) oM;have p2:nF F*(nF F*(81*17+17))<=7*(7*(81*17+17)):=Nat.mul_le_mul hN (mul_le_mul_right _ hN);have p3:nF F*(4*nF F)<=7*(4*7):=gR;show(ph2 (nF F) F.L T' (nF F)).way.length<=_;omega
theorem Jq(ok:TN.NFok F)(h:Rch F k T):k<=41->T.way.length<=k*300000:=by
 induction h with
 |zero=>intro _;show 0<=_;omega
 | @step j T T' h c ih=>
   grind [Qk,sX]
theorem Jr:sK:=λF k T T' ok h hk c=>by
 have h1:=Jq ok h oM
 grind [Qk,sX,Jd]
variable{s:Hq}{v:AV}
theorem wf64{n:Int}(h:(Lit.int .i64 n).wf=true):-9223372036854775808<=n/\n<=9223372036854775807:=by unfold Lit.wf at h;simpa [IntKind.min,IntKind.max,IntKind.bits,IntKind.signed]using h
theorem Js{d:Nat}(h:Arg TP s (d+2) 25 v):∃l:List Int,Sl s v (l.map (AV.int .i64))/\(∀x∈l,-9223372036854775808<=x/\x<=9223372036854775807)/\l.length<=maxLen:=
 Az (d:=d+1) Tryz.underlying25 kR (AV.int .i64) (λn=>-9223372036854775808<=n/\n<=9223372036854775807) (λxs h=>by have ⟨n,e,w⟩:=AA Tryz.underlying3 h;exact⟨n,e,wf64 w⟩) h
theorem Jt{d:Nat}{xs:List AV}(h:Inp TP s (d+2) 92 xs):∃a:ChR,xs=chC a/\True:=by
 unfold Inp at h;simp only[Tryz.underlying92]at h;obtain⟨h1,h2⟩:=h;rw[show TP.cellsOf 92=3 by kernel_rfl]at h1;have k0:=h2 _ (mem_cons_self);have k1:=h2 _ (mO _ mem_cons_self);have k2:=h2 _ (mO _ (mO _ mem_cons_self))
 match xs,h1 with
 | [w0,w1,w2],_=>
   have ⟨a,e1,ha⟩:=AA (xs:=[w0]) Tryz.underlying3 k0;have ⟨b,e2,_⟩:=AA (xs:=[w1]) Tryz.underlying3 k1;have ⟨c,e3,_⟩:=AB (xs:=[w2]) Tryz.underlying4 k2;cases e1;cases e2;cases e3;exact⟨(a,b,c),rfl,trivial⟩
theorem sY:TP.cellsOf 92=3:=kR
theorem Ju{d:Nat}{v:AV}(h:Arg TP s (d+3) 86 v):∃M:List ChR,SlR 3 s v (M.map chC):=by
 have ⟨l,h1,h2,h3⟩:=argR (d:=d+2) Tryz.underlying86 chC (λ_=>True) (λa=>by rw[sY];rfl) (λxs h=>Jt h) h
 grind [sY]
theorem Lives_wp(kn:xR)(s:Hq)(xs:List AV)(h:ArgL TP s 40 [25,86,3,3] xs):wC TP 5 xs (λv _=>v=true) s:=by obtain⟨a,b,c,e,rfl,h1,h2,h3,h4⟩:=AC h;have ⟨fl,hf,hb,hl⟩:=Js (d:=38) h1;have ⟨ch,hc⟩:=Ju (d:=37) h2;obtain⟨x,rfl,_⟩:=om (d:=39) Tryz.underlying3 h3;obtain⟨y,rfl,_⟩:=om (d:=39) Tryz.underlying3 h4;exact IR Jr kn hf (Nat.le_trans hl (by unfold maxLen;decide)) hb hc λ_=>rfl
end Go.AM.RT
namespace Go.AM
open Go Go.Proofs List Nat
section
variable {K:AV→Hq→Prop} {s s' s0 t:Hq} {N:Nat} {G:List Lnk} {U:List Bool} {d:Nat→Int} {av dv v lv uv w:AV}
theorem ZH(z:GOk N G U)(hN:N<=32)(hG:G.length<=128)(hC:∀x∈G,x.2.2<=1000)(hd:∀m,m<N->-1<=d m/\d m<=32000)(ha:AdjR s av N (edL G U))(hdv:Sl s dv (dl N d))
  (hK:∀b s',s b=none->Hc s' b 3 (dl N (parL G U d))->Sub s s'->K (.slc b 0 N (some N) 1) s'):wC TP 262 [av,dv] K s:=by
 refine XZ ?_;have n0:nat? N=some N:=nat?_mk;simp only[Ox,ha.len,n0,ae,c9,aK];refine⟨⟨Nat.le_refl _,oM⟩,an λdb s1 hdb h1 u1=>?_⟩;have sub1:=u1.sub hdb;refine⟨λys t m=>∃i:Nat,ys=[Ii i]/\i<=N/\m=N-i/\Sub s t/\Hc t db 3 (dl N λn=>if n<i then parL G U d n else 0),⟨_,0,rfl,oM,rfl,sub1,?_⟩,?_⟩
 ·rw[h1,eH]
  congr 3
  unfold dl;refine ext_getElem? λi=>?_
  grind
 rintro f t m ⟨i,hy,hi,rfl,st,h2⟩;simp only[cI,and_true]at hy;rw[hy];simp only[Ov,aH,ae];refine au (λhlt=>?_) (λhge=>?_)
 ·have hlt:i<N:=gR
  have ad:ba 1 (.slc db 0 N (some N) 1) i=some (.ptr db i):=by
   have:blt i N=true:=by simp_all
   simp[ba,this]
  simp only[ad,ae];refine aT h2 (by rw[fe];exact hlt) rfl λt3 h3 u3=>?_;rw[wY hlt]at h3;have st3:=bQ st u3 hdb;have ⟨p,v,a1,a2,a3⟩:=(ha.sub st3).at hlt;simp only[a1,a2,ae];have upd1:∀w:Int,w=parL G U d i->dl N (updI (updI (λn=>if n<i then parL G U d n else 0) i (-1)) i w)=dl N (λn=>if n<i+1 then parL G U d n else 0):=λw hw=>by
   unfold dl
   grind [dD,dG]
  refine OV z hlt hG hC hd a3 (hdv.sub st3) λv' t4 ac s4=>?_;have h4:=s4 _ _ h3;have st4:=st3.trans s4;simp only[ac.sl.len,lMY,bW,ae];refine au (λhg=>?_) (λhg=>?_)
  ·have hg:0<(dr G U d i).length:=gR
   obtain⟨e,he⟩:∃e,(dr G U d i)[0]?=some e:=(by simp_all)
   have ⟨pb,po,e1,_,e3⟩:=ac.sl.get (i:=0) (r:=edR e) gR;have e1:ba 3 v' (Ii 0)=some (.ptr pb po):=e1;have e4:rd1 t4 (.ptr pb po)=some e.1:=e3 0 oM;simp only[e1,ao,Nat.add_zero,e4,ae];refine aT h4 (by rw[fe];exact hlt) rfl λt5 h5 u5=>?_;rw[wY hlt]at h5;simp only[wD,aJ,ae,aA];rw[aC];refine⟨_,oM,i+1,rfl,oM,rfl,bQ st4 u5 hdb,?_⟩
   grind [parL]
  ·have hg:dr G U d i=[]:=(by simp_all)
   simp only[wD,aJ,ae,aA];rw[aC];refine⟨_,oM,i+1,rfl,oM,rfl,st4,?_⟩;rw[h4];have:=upd1 (-1) (by unfold parL;rw[hg])
   congr 3
   rw[<- this];unfold dl
   grind [dD,dG]
 ·have hge:i=N:=gR
  simp_all [dl]
end
namespace RT
variable{K:AV→Hq→Prop}{s s' s0 t:Hq}{d:Nat→Int}{lv uv:AV}{i n m c:Nat}{g:Int}{db:Nat}
theorem Ql{v w:AV}{l:List AV}(ow:w.one=true)(ac:Acc 3 s0 t v l)(k:Sub s0 t)(hl:l.length<=1000000)(hK:∀v' t',Acc 3 s0 t' v' (l ++ [w])->Sub s0 t'->aB (bH 1 v) t t'->K v' t'):oK (aq (repl 1 [(Ii 0)]) [(0,1,w)]) λc=>aD c=true/\newK 3 c (λb s=>appK 3 1 v (.slc b 0 1 (some 1) 1) K s) t:=by
 refine am (fi ow) ⟨by rw[bP,ow];rfl,an λc t2 hc w2 u2=>?_⟩;have k2:=u2.sub hc;have ac2:Acc 3 s0 t2 v l:=ac.imp id λ⟨c,q1,q2,q3⟩=>⟨c,q1,q2,k2 _ _ q3⟩
 refine xz ac2 (k.trans k2) (Sl.mk (l:=[w]) w2 rfl sI) (λb o m c' e q=>?_) oM λv' t3 a3 kp _=>hK v' t3 a3 (λj e hj=>kp j e ((k.trans k2) _ _ hj) λq=>?_) λj e hj hn=>kp j e (k2 _ _ hj) hn
 ·cases e
  rw[(Acc.blk ac q).2]at hc;cases hc
 ·rw[(Acc.blk ac2 q).1]at hj;cases hj
def L3:List LS.Lnk:=[(0,2,1),(1,2,1)]
def G3:List Lnk:=[(0,2,1),(1,2,1)]
def U3:List Bool:=[true,true]
theorem vld3:vld ((3:Nat):Int) L3 U3:=⟨dE,dE,dE,rfl,(by grind [L3,okL])⟩
theorem ed3(h:Ed G3 U3 i n m c):c=1/\((i=0/\((n=0/\m=2)∨(n=2/\m=0)))∨(i=1/\((n=1/\m=2)∨(n=2/\m=1)))):=by
 obtain⟨_,h⟩:=h
 match i with
 | 0=>simp[G3]at h;omega
 | 1=>simp[G3]at h;omega
 |k+2=>simp[G3]at h
theorem ed30:Ed G3 U3 0 0 2 1:=⟨rfl,.inl rfl⟩
theorem ed31:Ed G3 U3 1 1 2 1:=⟨rfl,.inl rfl⟩
theorem sZ(h:IsDist 3 G3 U3 0 d):d 0=0/\d 1=2/\d 2=1:=by
 have a:=h.fr;have b:=h.clo _ _ _ _ ed30.sym oM;have c:=h.clo _ _ _ _ ed31 oM;have ⟨i,m,k,e,p,q⟩:=h.sup 2 oM b.1 dE;have ⟨i',m',k',e',p',q'⟩:=h.sup 1 oM c.1 dE
 grind [ed3]
theorem Jv(h:IsDist 3 G3 U3 2 d):d 0=1/\d 1=1/\d 2=0:=by
 have a:=h.fr;have b:=h.clo _ _ _ _ ed30 oM;have c:=h.clo _ _ _ _ ed31 oM;have ⟨i,m,k,e,p,q⟩:=h.sup 0 oM b.1 dE;have ⟨i',m',k',e',p',q'⟩:=h.sup 1 oM c.1 dE
 grind [ed3]
theorem par2(h:IsDist 3 G3 U3 2 d):dl 3 (parL G3 U3 d)=[Ii 0,Ii 1,Ii (-1)]:=by have ⟨a,b,c⟩:=Jv h;have e0:edL G3 U3 0=[(0,2,1)]:=rfl;have e1:edL G3 U3 1=[(1,2,1)]:=rfl;have e2:edL G3 U3 2=[(0,0,1),(1,1,1)]:=rfl;simp[dl,range_succ,parL,dr,e0,e1,e2,a,b,c]
abbrev D0:List AV:=[Ii 0,Ii 2,Ii 1]
abbrev net3(lv uv:AV):List AV:=[Ii 2,Ii 1,lv,uv]
theorem te(o1:lv.one=true)(o2:uv.one=true):aD (net3 lv uv)=true:=by simp_all
theorem Qm(hl:SlR 3 s lv (L3.map LS.lnR))(hu:Sl s uv (U3.map AV.bool))(hK:∀b s',Sub s s'->Hc s' b 3 D0->K (.slc b 0 3 (some 3) 1) s'):wC TP 254 [.agg (net3 lv uv),Ii 0] K s:=by refine X3 ⟨te hl.one hu.one,an λb0 s1 hb0 q1 u1=>?_⟩;have k1:=u1.sub hb0;have e0:(net3 lv uv)[0]?=some (Ii 2):=rfl;have e1:(net3 lv uv)[1]?=some (Ii 1):=rfl;have e2:(net3 lv uv)[2]?=some lv:=rfl;have e3:(net3 lv uv)[3]?=some uv:=rfl;have w3:IntKind.i64.wrap (2+1)=3:=rfl;simp only[CO,CN,CM,ao,zAY,ae,aj q1];refine pD (hl.sub k1) dE (hu.sub k1) λv s2 k2 _ h=>?_;obtain⟨d,b,hd,_,rfl,_,h2⟩:=h 3 0 vld3 rfl oM rfl;have ⟨a,b',c⟩:=sZ hd;refine hK b s2 (k1.trans k2) ?_;rw[h2];simp[dl,range_succ,a,b',c]
theorem Qn(o1:lv.one=true)(o2:uv.one=true)(hd:Hc s db 3 D0)(hK:∀s',Sub s s'->K (.tup [Ii 2,true]) s'):wC TP 255 [.agg (net3 lv uv),.slc db 0 3 (some 3) 1,Iw g] K s:=by
 refine X6 ⟨te o1 o2,an λb0 s1 hb0 q1 u1=>?_⟩;have q1:Hc s1 b0 385 (net3 lv uv):=q1;have k1:=u1.sub hb0;refine⟨λys t m=>∃(i:Nat) (sp:AV),ys=[sp,i]/\i<=3/\m=3-i/\Sub s1 t/\Acc 3 s1 t sp (if i=3 then[Ii 2]else[]),⟨_,0,.nilslc,rfl,oM,rfl,.refl _,.inl ⟨rfl,rfl⟩⟩,?_⟩;rintro f t m ⟨i,sp,hy,hi,rfl,kt,ac⟩;simp only[cI,and_true]at hy;rw[hy.1,hy.2];have hd':=kt _ _ (k1 _ _ hd);have q1':=kt _ _ q1;have e0:(net3 lv uv)[0]?=some (Ii 2):=rfl;unfold Oy;simp only[aH,ae];obtain⟨I0,hI0⟩:∃I0:List AV->Hq->Nat->Prop,I0=λys t m=>∃(i:Nat) (sp:AV),ys=[sp,i]/\i<=3/\m=3-i/\Sub s1 t/\Acc 3 s1 t sp (if i=3 then[Ii 2]else[]):=⟨_,rfl⟩
 have next:i<3->∀sp' t',Sub s1 t'->Acc 3 s1 t' sp' (if i+1=3 then[Ii 2]else[])->wE sp' i I0 (3-i) K t':=λhlt sp' t' k' a'=>by simp only[wE,aJ,ae,aA];rw[aC,hI0];exact⟨_,oM,i+1,sp',sI,oM,rfl,k',a'⟩
 rcases(by omega:i=0∨i=1∨i=2∨i=3)with rfl|rfl|rfl|rfl
 ·simp only[show decide (((0:Nat):Int)<((3:Nat):Int))=true from rfl,aF,show ba 1 (.slc db 0 3 (some 3) 1) ((0:Nat):Int)=some (.ptr db 0)from rfl,ae,aj hd',g0Y,ao,zAY,aj q1',e0,ci,show decide ((2:Int)<=((0:Nat):Int))=false from rfl,ay,pf,aS]
  grind
 ·simp only[show decide (((1:Nat):Int)<((3:Nat):Int))=true from rfl,aF,show ba 1 (.slc db 0 3 (some 3) 1) ((1:Nat):Int)=some (.ptr db 1)from rfl,ae,aj hd',g1Y,g0Y,ao,zAY,aj q1',e0,ci,show decide ((2:Int)<=((1:Nat):Int))=false from rfl,ay,pf,aS]
  grind
 ·simp only[show decide (((2:Nat):Int)<((3:Nat):Int))=true from rfl,aF,show ba 1 (.slc db 0 3 (some 3) 1) ((2:Nat):Int)=some (.ptr db 2)from rfl,ae,aj hd',g1Y,g0Y,ao,zAY,aj q1',e0,ci,show decide ((2:Int)<=((2:Nat):Int))=true from rfl,show decide ((0:Int)<=1)=true from rfl,pf,aU]
  exact Ql rfl ac kt sI gR
 ·have ac:Acc 3 s1 t sp [Ii 2]:=ac
  rcases ac with⟨_,h⟩|⟨b,_,rfl,hb⟩
  ·cases h
  have e1:cw .u64 (Iw g)=some (Iq (bV .u64 g)):=rfl;have e2:cw .u64 ((1:Nat):Int)=some (Iq 1):=rfl;simp only[show decide (((3:Nat):Int)<((3:Nat):Int))=false from rfl,ay,c9,length_cons,length_nil,zAY,ae,aR,aG,show(((1:Nat):Int) == 0)=false from rfl,Bool.false_bne,e1,e2,jg (show(1:Int)≠0 by decide),Int.tmod_one];simp only[show ba 1 (.slc b 0 1 none 1) (Iq 0)=some (.ptr b 0)from rfl,ae,aj hb,g0Y];exact hK t (k1.trans kt)
end RT
end Go.AM
set_option maxRecDepth 100000
namespace Go.AM.RT
open Go Go.Proofs List Nat
variable{K:AV→Hq→Prop}{s s' t t':Hq}{lv uv v:AV}{n:Nat}{es:List Int}{b0 b4 b18 b21 m pb:Nat}{ks:List Int}
theorem Jw(h:LS.Sli s v es)(hl:es.length<=1000)(hK:∀v' s',Own3 s s' v' es->Sub s s'->K v' s'):wC TP 105 [v] K s:=by
 refine vv ?_;have cases0:(v=.nilslc/\es=[])∨∃b o c,v=.slc b o es.length c 1:=by
  rcases h with⟨a,b⟩|⟨b,o,c,a,_⟩
  ·simp_all
  grind
 rcases cases0 with⟨rfl,rfl⟩|⟨b,o,c,rfl⟩
 ·simp only[iI,ji,aG,Bool.false_bne,ae,aF]
  exact hK _ _ (.inl ⟨rfl,rfl⟩) (.refl s)
 simp only[iI,gT,aG,Bool.false_bne,ae,ay];refine am (a:=[]) rfl ⟨rfl,an λd s1 hd h1 u1=>?_⟩;have sub1:=u1.sub hd;refine ol (h.sub sub1) (by simp;omega) λv' s2 sub2 q1 q2=>hK v' s2 ?_ (sub1.trans sub2)
 by_cases e:es=[]
 ·subst e
  exact .inr ⟨d,some 0,hd,q1 rfl,sub2 _ _ h1,λ_ _=>rfl⟩
 ·have ⟨c,e1,e2,e3⟩:=q2 (by simpa using e)
  exact .inr ⟨c,none,cq sub1 e1,by simpa using e2,e3,λc h=>by cases h⟩
theorem xX{k:Int}:∀{ks:List Int},look (ks.map λk=>(k,AV.agg [])) k=if k∈ks then some (.agg [])else none
 |[]=>rfl
 | a::ks=>by
   rw[map_cons,jl,xX]
   grind
structure Gw(t:Hq)(b0 b4 b18 b21 m pb:Nat)(lv uv:AV)(ks:List Int):Prop where
 c4:Hc t b4 391 [.map m]
 mp:da t m (ks.map λk=>(k,AV.agg []))
 c18:Hc t b18 25 [.slc pb 0 3 (some 3) 1]
 pa:Hc t pb 3 [Ii 0,Ii 1,(-1:Int)]
 c21:Hc t b21 395 [.fn (.func 260) [] [Pp b18,Pp b4,Pp b21,Pp b0]]
 c0:Hc t b0 385 (net3 lv uv)
 ll:SlR 3 t lv (L3.map LS.lnR)
theorem da.up{l:List (Int×AV)}(h:da t m l)(k:t' m=t m):da t' m l:=by have ⟨es,c,h1,h2⟩:=h;exact⟨es,c,k.trans h1,h2⟩
theorem Gw.up(z:Gw t b0 b4 b18 b21 m pb lv uv ks)(k:Sub t t'):Gw t' b0 b4 b18 b21 m pb lv uv ks:=by have ⟨es,c,h1,h2⟩:=z.mp;exact⟨k _ _ z.c4,⟨es,c,k _ _ h1,h2⟩,k _ _ z.c18,k _ _ z.pa,k _ _ z.c21,k _ _ z.c0,z.ll.sub k⟩
theorem th:ba 1 (.slc pb 0 3 (some 3) 1) ((n:Nat):Int)=if n<3 then some (.ptr pb n)else none:=by
 simp_all [ba]
theorem Jx(z:Gw t b0 b4 b18 b21 m pb lv uv ks)(hK:K (.tup []) t):wC TP 260 [Ii 2,Pp b18,Pp b4,Pp b21,Pp b0] K t:=by refine OB ?_;unfold CQ;simp only[aj z.c18,g0Y,g1Y,ae,show ba 1 (.slc pb 0 3 (some 3) 1) (Ii 2)=some (.ptr pb 2)from rfl,aj z.pa,aH,show decide ((-1:Int)<0)=true from rfl,aF];exact hK
theorem Jy(z:Gw t b0 b4 b18 b21 m pb lv uv ks)(hn:n<2)(hK:∀t' ks',Gw t' b0 b4 b18 b21 m pb lv uv ks'->(n:Int)∈ks'->(∀k∈ks,k∈ks')->aB (λi=>i=m) t t'->K (.tup []) t'):wC TP 260 [n,Pp b18,Pp b4,Pp b21,Pp b0] K t:=by
 refine OB ?_;unfold CQ;have en:[AV.int .i64 0,Ii 1,(-1:Int)][n]?=some (Ii n):=by
  grind
 simp only[aj z.c18,g0Y,ae,th,show n<3 by omega,↓reduceIte,aj z.pa,en,aH];rw[decide_eq_false oM,ay];simp only[aj z.c4,g0Y,ae,z.mp.get,xX]
 by_cases hk:(n:Int)∈ks
 ·simp only[hk,↓reduceIte]
  refine am (a:=.agg []) rfl (am (a:=true) rfl (an λb8 s9 h8 w8 u8=>aZ w8 rfl rfl rfl λs10 w10 u10=>?_));rw[aF];have k10:Sub t s10:=λi e hi=>by have hne:=cx h8 hi;rw[u10 i hne,u8 i hne];exact hi
  exact hK s10 ks (z.up k10) hk (λ_ h=>h) λi e hi _=>k10 i e hi
 ·simp only[hk,↓reduceIte]
  refine am (a:=.agg []) rfl (am (a:=false) rfl (an λb8 s9 h8 w8 u8=>aZ w8 rfl rfl rfl λs10 w10 u10=>?_));rw[ay];have k10:Sub t s10:=λi e hi=>by have hne:=cx h8 hi;rw[u10 i hne,u8 i hne];exact hi
  have z10:=z.up k10;simp only[aj z10.c4,g0Y,ae];refine am (a:=[]) rfl (z10.mp.put oM λs13 mp u13=>?_);rw[PZ (by rw[xX];simp[hk])]at mp;have mp:da s13 m ((ks ++ [(n:Int)]).map λk=>(k,AV.agg [])):=by simpa using mp
  obtain⟨es,cl,hm,_⟩:=z10.mp;have up:∀{i e cs},Hc s10 i e cs->Hc s13 i e cs:=fun {i e cs} h=>by rw[u13 i λq=>by rw[q,hm]at h;cases h];exact h
  have kp:aB (λi=>i=m) t s13:=λi e hi hne=>by rw[u13 i hne];exact k10 i e hi
  have z13:Gw s13 b0 b4 b18 b21 m pb lv uv (ks ++ [(n:Int)]):=by refine⟨up z10.c4,mp,up z10.c18,up z10.pa,up z10.c21,up z10.c0,?_⟩;obtain⟨l1,l2⟩:=z10.ll;refine⟨l1,l2.imp id λ⟨b,o,c,e1,e2,e3⟩=>⟨b,o,c,e1,e2,λhne=>?_⟩⟩;obtain⟨tg,el,cs,q1,q2⟩:=e3 hne;exact⟨tg,el,cs,by rw[u13 b λq=>gR];exact q1,q2⟩
  have hr:∃a:Int,(L3.map LS.lnR)[n]?=some [Ii a,Ii 2,Ii 1]/\a=n:=by
   match n,hn with
   | 0,_=>exact⟨0,rfl,rfl⟩
   | 1,_=>exact⟨1,rfl,rfl⟩
  obtain⟨a,hr,rfl⟩:=hr;have ⟨b,o,g1,g2,g3⟩:=z13.ll.get hr;have r0:rd1 s13 (.ptr b o)=some (Ii n):=g3 0 oM;have r1:rd1 s13 (.ptr b (o+1))=some (Ii 2):=g3 1 oM;have e2:(net3 lv uv)[2]?=some lv:=rfl;have w1:IntKind.i64.wrap ((n:Int)+2)=(n:Int)+2:=aC oM oM;have w2:IntKind.i64.wrap ((n:Int)+2-n)=2:=by rw[show(n:Int)+2-n=2 by omega];rfl
  simp only[aj z13.c21,g0Y,ae,ao,zAY,Nat.add_zero,aj z13.c0,e2,g1,r0,r1,aJ,cA,w1,w2];refine dV kR (Jx z13 ?_);exact hK s13 _ z13 sI (λk h=>by simp[h]) kp
set_option maxRecDepth 100000
variable{mv:AV}{l:List Int}{db lp d:Nat}
theorem Jz(hl:SlR 3 s lv (L3.map LS.lnR))(hu:Sl s uv (U3.map AV.bool))(hK:∀b s',Sub s s'->Hc s' b 3 [Ii 0,Ii 1,(-1:Int)]->K (.slc b 0 3 (some 3) 1) s'):wC TP 259 [Ii 3,lv,uv,Ii 2] K s:=by
 refine X1 (am (fi rfl) ⟨rfl,an λeb s1 heb h1 u1=>?_⟩);have sub1:=u1.sub heb;refine AM.cP (es:=[2]) (hl.sub sub1) dE (hu.sub sub1) (Sl.mk h1 rfl sI) sI λs2 r sub2 hr=>?_;have hr:r=true:=(by grind [vld3])
 subst hr;have s02:=sub1.trans sub2;have ⟨z,hG,hN,hC,hm⟩:=vld3.gok;refine D3 (N:=3) z hN hG (by rw[<- hm];exact hl.sub s02) (hu.sub s02) λav s3 sub3 ha=>?_;refine DU (N:=3) (from_:=2) z hN hG hC ha oM λd b s4 hd hdm sub4 hb h4=>?_;have hdd:∀m,m<3->-1<=d m/\d m<=32000:=λm hm=>⟨hd.lo m hm,hdm m hm⟩
 refine ZH z hN hG hC hdd (ha.sub sub4) ((by grind [Sl.mk,fe])) λb5 s5 hb5 h5 sub5=>?_;exact hK b5 s5 ((by grind [Sub.trans])) (by rw[h5,<- par2 hd];rfl)
noncomputable abbrev lpG(st:LoopState)(b21 d:Nat):Blk:=.loop st none 35 [(11,Pp b21)] [30] (rfAs 0 (aI Tryz.f258)) (rfBo 0 (aI Tryz.f258)) d
theorem Gw.lpU{x y:Blk}(z:Gw t b0 b4 b18 b21 m pb lv uv ks)(u:Upto lp t t')(h:∀el cs,t lp≠some (false,.cells el cs))(h2:∀el cs,t lp≠some (true,.cells el cs))(h3:∀es c,t lp≠some (false,.map es c)):Gw t' b0 b4 b18 b21 m pb lv uv ks:=by
 have up:∀{i e cs},Hc t i e cs->Hc t' i e cs:=fun {i e cs} q=>by rw[u i λe=>gR];exact q
 have ⟨es,c,q1,q2⟩:=z.mp;refine⟨up z.c4,⟨es,c,by rw[u m (by grind [h3])];exact q1,q2⟩,up z.c18,up z.pa,up z.c21,up z.c0,?_⟩;obtain⟨l1,l2⟩:=z.ll;refine⟨l1,l2.imp id λ⟨b,o,c,e1,e2,e3⟩=>⟨b,o,c,e1,e2,λhne=>?_⟩⟩;have ⟨tg,el,cs,q1,q2⟩:=e3 hne;refine⟨tg,el,cs,?_,q2⟩;rw[u b λe=>by
  simp_all]
 exact q1
theorem JA(z:Gw t b0 b4 b18 b21 m pb lv uv ks)(hl:t lp=some (false,lpG .ready b21 d))(hn:n<2)(hK:∀t' ks',Gw t' b0 b4 b18 b21 m pb lv uv ks'->(n:Int)∈ks'->(∀k∈ks,k∈ks')->t' lp=some (false,lpG .ready b21 d)->aB (λi=>i=m∨i=lp) t t'->K true t'):funK TP (.yield lp) [n] K t:=by refine⟨by grind [fR],Ye hl ⟨rfl,?_⟩⟩;unfold dC;rw[hl];simp only;have ⟨es,c,hm,_⟩:=id z.mp;have ne:lp≠m:=λe=>gR;have u1:Upto lp t (hset t lp (false,lpG .busy b21 d)):=λi hi=>bg hi;have l1:hset t lp (false,lpG .busy b21 d) lp=some (false,lpG .busy b21 d):=cr;have z1:=z.lpU (x:=lpG .busy b21 d) (y:=lpG .busy b21 d) u1 (by rw[hl];simp) (by rw[hl];simp) (by rw[hl];simp);simp only[aj z1.c21,g0Y,ae];refine dV kR (Jy z1 hn λt2 ks2 z2 h1 h2 kp=>?_);have l2:=kp _ _ l1 ne;unfold endK;rw[l2];simp only;have u3:Upto lp t2 (hset t2 lp (false,lpG .ready b21 d)):=λi hi=>bg hi;refine hK _ ks2 (z2.lpU (x:=lpG .busy b21 d) (y:=lpG .busy b21 d) u3 (by rw[l2];simp) (by rw[l2];simp) (by rw[l2];simp)) h1 h2 cr λi e hi hne=>?_;have hne:i≠m/\i≠lp:=gR;rw[u3 i hne.2];exact kp i e (by rw[u1 i hne.2];exact hi) hne.1
theorem JB(hl:SlR 3 s lv (L3.map LS.lnR))(hu:Sl s uv (U3.map AV.bool))(hd:Hc s db 3 D0)(hm:LS.Sli s mv l)(hlen:l.length<=72)
  (hK:∀m s' (ks:List Int),Sub s s'->da s' m (ks.map λk=>(k,AV.agg []))->(0∈l->0∈ks)->K (.map m) s'):wC TP 258 [.agg (net3 lv uv),.slc db 0 3 (some 3) 1,Ii 2,mv] K s:=by
 have on:=te hl.one hu.one;refine Yc ⟨on,an λb0 s1 h0 q0 u0=>ot λm s3 hm3 m3 u3=>an λb4 s5 h4 q4 u4=>?_⟩;have k1:=u0.sub h0;have k3:=u3.sub hm3;have k5:=u4.sub h4;refine aT q4 sI rfl λs6 q6 u6=>?_;have k36:Sub s3 s6:=λi e hi=>by have hne:=cx h4 hi;rw[u6 i hne];exact k5 i e hi
 have k06:=(k1.trans k3).trans k36;have sm:=cq k1 hm3;have e0:(net3 lv uv)[0]?=some (Ii 2):=rfl;have e1:(net3 lv uv)[1]?=some (Ii 1):=rfl;have e2:(net3 lv uv)[2]?=some lv:=rfl;have e3:(net3 lv uv)[3]?=some uv:=rfl;have w3:IntKind.i64.wrap (2+1)=3:=rfl;have q06:=k36 _ _ (k3 _ _ q0);simp only[ao,zAY,ae,aj q06];refine Jz (hl.sub k06) (hu.sub k06) λpb s17 k17 hpb=>an λb18 s19 h18 q18 u18=>aT q18 sI rfl λs20 q20 u20=>an λb21 s22 h21 q21 u21=>aT q21 sI rfl λs23 q23 u23=>?_;have k20:Sub s17 s20:=λi e hi=>by have hne:=cx h18 hi;rw[u20 i hne,u18 i hne];exact hi
 have k23:Sub s20 s23:=λi e hi=>by have hne:=cx h21 hi;rw[u23 i hne,u21 i hne];exact hi
 have k6:=(k17.trans k20).trans k23;have ⟨es0,c0,mm,mo⟩:=m3;have z23:Gw s23 b0 b4 b18 b21 m pb lv uv []:=⟨k6 _ _ q6,⟨es0,c0,k6 _ _ (k36 _ _ mm),mo⟩,k23 _ _ q20,(k20.trans k23) _ _ hpb,q23,k6 _ _ q06,hl.sub (k06.trans k6)⟩
 refine am (aQ (n:=4) z23.c0 rfl) (X8 ⟨on,an λbA sA hA qA uA=>cW rfl λbB sB hB qB uB=>cW hm.one λbC sC hC qC uC=>⟨kR,trivial,λlp d hlp=>?_⟩⟩);have kA:=uA.sub hA;have kB:=uB.sub hB;have kC:=uC.sub hC;have k0C:=(k06.trans k6).trans ((kA.trans kB).trans kC);obtain⟨J,hJ⟩:∃J:AV->Hq->Prop,J=λ_ s=>kU lp (λs=>oK (rd1 s (Pp b4)) λv=>K v s) (λs=>K .nilmap s) (λid s=>cond (beq id 0) (oK (rd1 s (Pp b4)) λv=>K v s) False) s:=⟨_,rfl⟩
 refine(show wC TP 263 [.yield lp,Pp bC,Pp bA,Pp bB] J (hset sC lp (false,lpG .ready b21 d))->_ from λh=>by rw[hJ]at h;exact h) ?_;have u27:Upto lp sC (hset sC lp (false,lpG .ready b21 d)):=λi hi=>bg hi;have l27:hset sC lp (false,lpG .ready b21 d) lp=some (false,lpG .ready b21 d):=cr;generalize hset sC lp (false,lpG .ready b21 d)=s27 at u27 l27;have k27:=u27.sub hlp;have z27:=z23.up (((kA.trans kB).trans kC).trans k27);have qC27:=k27 _ _ qC;refine Ya ?_;unfold OA;simp only[aj qC27,g0Y,ae];refine Jw (hm.sub (k0C.trans k27)) oM λv1 s28 o28 k28=>rP o28 k28 oM λs29 o29 k29=>PY o29 k29 (by rw[(eI l).length_eq];omega) λv2 s30 es sl hes mem k30 fr=>?_;have hmem:∀x,x∈es↔x∈l:=(by grind [eI])
 have z30:=z27.up k30;have hes:es.length<=72:=by rw[(eI l).length_eq]at hes;omega
 have l30:=k30 _ _ l27;have lv2:bp v2=some es.length:=by rw[sl.len];simp
 simp only[lv2,ae];have ⟨mE,mC,mm27,_⟩:=z27.mp;have mm30:=k30 _ _ mm27;refine⟨λys t k=>∃(i:Nat) (ks:List Int),ys=[Ii i]/\i<=es.length/\k=es.length-i/\Gw t b0 b4 b18 b21 m pb lv uv ks/\(0∈es.take i->0∈ks)/\t lp=some (false,lpG .ready b21 d)/\aB (λi=>i=m∨i=lp) s30 t,⟨_,0,[],rfl,oM,rfl,z30,sI,l30,.refl _ _⟩,?_⟩;rintro f t k ⟨i,ks,hy,hi,rfl,z,h0i,hlt,kp⟩;simp only[cI,and_true]at hy;rw[hy];have ck:∀{i:Nat}{tg:Bool}{el:TypeId}{cs:List AV},s30 i=some (tg,.cells el cs)->t i=some (tg,.cells el cs):=fun {i tg el cs} h=>kp _ _ h λq=>by
  rcases q with rfl|rfl
  ·grind
  grind
 have k030:=(k0C.trans k27).trans k30;unfold Oz;simp only[aH,ae];obtain⟨I0,hI0⟩:∃I0:List AV->Hq->Nat->Prop,I0=λys t k=>∃(i:Nat) (ks:List Int),ys=[Ii i]/\i<=es.length/\k=es.length-i/\Gw t b0 b4 b18 b21 m pb lv uv ks/\(0∈es.take i->0∈ks)/\t lp=some (false,lpG .ready b21 d)/\aB (λi=>i=m∨i=lp) s30 t:=⟨_,rfl⟩
 rw[<- hI0];refine au (λhlt2=>?_) (λhge=>?_)
 rotate_left
 ·have hi:i=es.length:=gR
  rw[hi,take_length]at h0i;have ⟨mE,mC,q1,q2⟩:=z.mp;have nm:m≠lp:=λe=>gR;rw[hJ];refine qP hlt sI ?_;have c4:hdel t lp b4=some (false,.cells 391 [.map m]):=by grind [bZ,Gw.c4]
  simp only[aj c4,g0Y,ae];refine hK m _ ks (λi e hi=>?_) ⟨mE,mC,by rw[bZ nm];exact q1,q2⟩ λh=>h0i ((hmem 0).2 h);have n1:i≠m:=λq=>gR;have n2:i≠lp:=λq=>by
   have:=k0C i e hi
   grind
  rw[bZ n2];exact kp i e (k030 i e hi) λq=>q.elim n1 n2
 have hlt2:i<es.length:=gR;have slt:=Sl.keepB sl λc ⟨o,n,cp,e⟩ hne x hx=>by
  have hc:s27 c=none:=gR;refine kp c x hx λq=>?_;rcases q with rfl|rfl
  ·rw[mm27]at hc;cases hc
  grind
 have ⟨p,g1,g2⟩:=slt.get (i:=i) (by simpa using hlt2);have g2:rd1 t p=some (Ii es[i]):=by rw[g2];simp[hlt2]
 simp only[g1,g2,ae,ci];have tk:∀x:Int,x∈es.take (i+1)↔x∈es.take i∨x=es[i]:=λx=>by rw[take_add_one,gE hlt2,mem_append];simp only[Option.toList,mem_singleton]
 have ⟨n,hn⟩:∃n,n=es[i]:=⟨_,rfl⟩
 rw[<- hn]at tk ⊢;have next:∀a b:AV,bK a b false=some false->∀t' ks',Gw t' b0 b4 b18 b21 m pb lv uv ks'->(0∈es.take (i+1)->0∈ks')->t' lp=some (false,lpG .ready b21 d)->aB (λi=>i=m∨i=lp) s30 t'->wF i a b I0 (es.length-i) J t':=λa b hp t' ks' z' h0' l' kp'=>by unfold wF;simp only[hp,ae,aJ];rw[aC,hI0];exact⟨_,oM,i+1,ks',sI,oM,rfl,z',h0',l',kp'⟩
 have out:¬(0<=n/\n<2)->(0∈es.take (i+1)->0∈ks):=λh q=>by
  rcases(tk 0).1 q with q|q
  ·exact h0i q
  omega
 have qA30:Hc t bA 385 (net3 lv uv):=ck (k30 _ _ (k27 _ _ (kC _ _ (kB _ _ qA))));have qB30:=ck (k30 _ _ (k27 _ _ (kC _ _ qB)));have qd30:=ck (k030 _ _ hd);have j1:∀a b:AV,bK a b false=some (.bool false)->¬(0<=n/\n<2)->pg (.yield lp) (Pp bB) n i a b I0 (es.length-i) J t:=λa b hp hno=>by unfold pg CP;simp only[hp,ae,ay,aS];exact next _ _ rfl t ks z (out hno) hlt kp
 refine au (λhge=>?_) (λhng=>?_)
 rotate_left
 ·have hng:=oF hng
  rw[decide_eq_false oM];exact j1 _ _ rfl oM
 have hge:=oT hge;rw[decide_eq_true hge];simp only[ao,ae,aj qA30,e0,aH]
 by_cases h2:n<2
 rotate_left
 ·rw[decide_eq_false h2]
  exact j1 _ _ rfl oM
 rw[decide_eq_true h2];obtain⟨q,rfl⟩:∃q:Nat,n=q:=⟨n.toNat,oM⟩
 have hq:q<2:=oM;have ed:∃x:Int,D0[q]?=some (Ii x)/\0<=x:=by
  match q,hq with
  | 0,_=>exact⟨0,rfl,oM⟩
  | 1,_=>exact⟨2,rfl,oM⟩
 have ⟨x,ed,hx⟩:=ed;unfold pg;simp only[aU,ae,aF,aj qB30,g0Y,th,show q<3 by omega,↓reduceIte,aj qd30,ed,ci];rw[decide_eq_true hx];refine JA z hlt hq λt' ks' z' a1 a2 a3 a4=>?_;simp only[bD,Bool.not_true,ae];refine next _ _ rfl t' ks' z' (λh=>?_) a3 (kp.trans a4);rcases(tk 0).1 h with h|h
 ·exact a2 0 (h0i h)
 ·rw[h];exact a1
variable{b2 b6:Nat}{g fr:Int}{cs:List AV}
structure Nx(H t:Hq)(b2 b6:Nat)(fr:Int)(i:Nat):Prop where
 sub:Sub H t
 lk:∃lk,Hc t b2 25 [lk]/\Acc 3 H t lk (if 1<=i/\fr=-1 then[Ii 0]else[])
 al:Hc t b6 4 [(decide (1<=i/\fr=0))]
theorem Qo{b4:Nat}{a c:AV}(h6:Hc t b6 4 [true])(h2:Hc t b2 25 [a])(h4:Hc t b4 4 [c])(hK:K (.tup [a,c]) t):
  runK TP (.fn (.func 257) [] [Pp b6,Pp b2,Pp b4]) (λs=>oK (rd1 s (Pp b2)) λx=>oK (rd1 s (Pp b4)) λy=>K (.tup [x,y]) s) t:=by
 refine Yf (K:=λ_ s=>oK (rd1 s (Pp b2)) λx=>oK (rd1 s (Pp b4)) λy=>K (.tup [x,y]) s) ?_;unfold OD;simp only[aj h6,g0Y,ae,bD,Bool.not_true,ay,aj h2,aj h4];exact hK
theorem JC(hf:fr=-1∨fr=0)(hl:SlR 3 s lv (L3.map LS.lnR))(hu:Sl s uv (U3.map AV.bool))(hm:LS.Sli s mv l)(hlen:l.length<=72)(h0:0∈l)
  (hK1:fr=-1->∀v s',Sub s s'->LS.Sli s' v [0]->(∀c,bH 1 v c->s c=none)->K (.tup [v,false]) s') (hK2:fr=0->∀v s',Sub s s'->LS.Sli s' v []->K (.tup [v,true]) s'):wC TP 256 [.agg (net3 lv uv),Ii 0,Iw g,mv,fr] K s:=by
 have on:=te hl.one hu.one;refine Yi ⟨on,an λb0 s1 h0' q0 u0=>an λb2 s3 h2 q2 u2=>an λb4 s5 h4 q4 u4=>an λb6 s7 h6 q6 u6=>aT q6 sI rfl λs8 q8 u8=>⟨by show isFn TP 257=true;kernel_rfl,?_⟩⟩;have q0:Hc s1 b0 385 (net3 lv uv):=q0;have k1:=u0.sub h0';have k3:=u2.sub h2;have k5:=u4.sub h4;have k58:Sub s5 s8:=λi e hi=>by have hne:=cx h6 hi;rw[u8 i hne,u6 i hne];exact hi
 have q08:=k58 _ _ (k5 _ _ (k3 _ _ q0));have q28:=k58 _ _ (k5 _ _ q2);have q48:=k58 _ _ q4;have k8:Sub s s8:=((k1.trans k3).trans k5).trans k58;refine am (aQ (n:=4) q08 rfl) (Qm (hl.sub k8) (hu.sub k8) λdb s11 k11 hd=>am (aQ (n:=4) (k11 _ _ q08) rfl) (Qn hl.one hu.one hd λs14 k14=>?_));have k0e:=(k8.trans k11).trans k14;have x0:∀a b:AV,aN (.tup [a,b]) 0=some a:=λ_ _=>rfl;have x1:∀a b:AV,aN (.tup [a,b]) 1=some b:=λ_ _=>rfl;simp only[x0,x1,ae,bD,Bool.not_true,ay];refine am (aQ (n:=4) (k14 _ _ (k11 _ _ q08)) rfl) (JB (hl.sub k0e) (hu.sub k0e) (k14 _ _ hd) (hm.sub k0e) hlen λm s23 ks k23 mp hks=>?_);have hks:=hks h0;have k823:=(k11.trans k14).trans k23;have k0:=k0e.trans k23;have e2:(net3 lv uv)[2]?=some lv:=rfl;have e0:(net3 lv uv)[0]?=some (Ii 2):=rfl;have ll:bp lv=some 2:=hl.len;simp only[ao,zAY,ae,aj (k823 _ _ q08),e2,ll];obtain⟨H,hH⟩:∃H:Hq,H=hdel (hdel s23 b2) b6:=⟨_,rfl⟩
 have inH:∀{i e},s23 i=some e->i≠b2->i≠b6->H i=some e:=(by simp_all [bZ])
 have n02:b0≠b2:=λe=>gR;have n06:b0≠b6:=λe=>gR;have n42:b4≠b2:=λe=>gR;have n46:b4≠b6:=λe=>gR;have n26:b2≠b6:=λe=>gR;have sb2:s b2=none:=cq k1 h2;have sb6:s b6=none:=cq ((k1.trans k3).trans k5) h6;have kH:Sub s H:=λi e hi=>inH (k0 i e hi) (λq=>gR) (λq=>gR);have ⟨mE,mC,mm,mo⟩:=mp;have q2':=k823 _ _ q28;have q6':=k823 _ _ q8;have H0:=inH (k823 _ _ q08) n02 n06;have H4:=inH (k823 _ _ q48) n42 n46;have Hm:=inH mm (λq=>by rw[q,q2']at mm;cases mm) (λq=>by rw[q,q6']at mm;cases mm);have HH:Sub H s23:=by grind [TN.rr,Sub.trans]
 have hf0:¬(1<=0/\fr=-1):=oM;have nx0:Nx H s23 b2 b6 fr 0:=⟨HH,⟨_,q2',.inl ⟨rfl,if_neg hf0⟩⟩,q6'⟩
 refine⟨λys t k=>∃i:Nat,ys=[Ii i]/\i<=2/\k=2-i/\Nx H t b2 b6 fr i,⟨_,0,rfl,oM,rfl,nx0⟩,?_⟩;rintro f t k ⟨i,hy,hi,rfl,z⟩;simp only[cI,and_true]at hy;rw[hy];obtain⟨I0,hI0⟩:∃I0:List AV->Hq->Nat->Prop,I0=λys t k=>∃i:Nat,ys=[Ii i]/\i<=2/\k=2-i/\Nx H t b2 b6 fr i:=⟨_,rfl⟩
 rw[<- hI0];have next:i<2->∀t',Nx H t' b2 b6 fr (i+1)->iK i I0 (2-i) K t':=λhlt t' z'=>by simp only[iK,aJ,ae,aA];rw[aC,hI0];exact⟨_,oM,i+1,sI,oM,rfl,z'⟩
 unfold OE;simp only[aH,ae];refine au (λhlt=>?_) (λhge=>?_)
 rotate_left
 ·have hi:i=2:=gR
  subst hi;have ⟨lk,l1,l2⟩:=z.lk;have za:=z.al;have k0t:=kH.trans z.sub;simp only[ao,zAY,ae,aj (z.sub _ _ H0),e0,aH,show decide ((0:Int)<2)=true from rfl,aF];refine TN.PU oM (hm.sub k0t) ?_;rw[decide_eq_true h0];unfold CR;simp only[aU,ae,aR,aG,Bool.false_bne];rcases hf with rfl|rfl
  ·rw[show((-1:Int) == -1)=true from rfl,aF]
   refine aT za sI rfl λs' h' u'=>?_;have kk:Sub s s':=λi e hi=>by rw[u' i λq=>gR];exact k0t i e hi
   refine Qo (K:=K) h' (by rw[u' _ n26];exact l1) (by rw[u' _ n46];exact z.sub _ _ H4) (hK1 rfl _ _ kk (Sl.keepB l2.sl λc hc _ e he=>?_) λc hc=>by
    rcases l2 with⟨_,h⟩|⟨c',e1,e',h⟩
    ·cases h
    ·have ⟨_,_,_,e2⟩:=hc
     rw[e']at e2;cases e2;exact cq kH e1)
   rw[u' c λq=>by
    rcases l2 with⟨_,h⟩|⟨c',_,e',h⟩
    ·cases h
    ·have ⟨_,_,_,e2⟩:=hc
     grind]
   exact he
  ·rw[show((0:Int) == -1)=false from rfl,ay]
   have l2:Acc 3 H t lk []:=l2;simp only[aj l1,g0Y,ae];refine aT l1 sI l2.sl.one λs3 h3 u3=>aT (by rw[u3 _ n42];exact z.sub _ _ H4) sI rfl λs4 h4' u4'=>?_;have kk:Sub s s4:=λi e hi=>by have sb4:s b4=none:=cq (k1.trans k3) h4;rw[u4' i (λq=>gR),u3 i (λq=>gR)];exact k0t i e hi
   refine Qo (K:=K) (by rw[u4' _ (Ne.symm n46),u3 _ (Ne.symm n26)];exact za) (by rw[u4' _ (Ne.symm n42)];exact h3) h4' (hK2 rfl _ _ kk ?_);rcases l2.sl with h|⟨b,o,c,e1,e2,e3⟩
   ·exact .inl h
   ·exact .inr ⟨b,o,c,e1,e2,λh=>absurd rfl h⟩
 have hlt:i<2:=gR;have k0t:=kH.trans z.sub;obtain⟨a,hr,ha⟩:∃a:Int,(L3.map LS.lnR)[i]?=some [Ii a,Ii 2,Ii 1]/\a=i:=by
  match i,hlt with
  | 0,_=>exact⟨0,rfl,rfl⟩
  | 1,_=>exact⟨1,rfl,rfl⟩
 subst ha;obtain⟨b,o,g1,g2,_⟩:=(hl.sub k0t).get hr;simp only[g1,ae];refine am g2 (an λb32 s33 h33 q33 u33=>aZ q33 rfl rfl rfl λs34 q34 u34=>?_);have k34:Sub t s34:=λj e hj=>by have hne:=cx h33 hj;rw[u34 j hne,u33 j hne];exact hj
 have mp34:da s34 m (ks.map λk=>(k,AV.agg [])):=⟨mE,mC,k34 _ _ (z.sub _ _ Hm),mo⟩
 simp only[mp34.get,xX,ae];have e3:∀c:Bool,aN (retM (.agg []) true (if c then some (.agg [])else none)) 0=some (.agg [])/\aN (retM (.agg []) true (if c then some (.agg [])else none)) 1=some c:=λc=>by cases c<;>exact⟨rfl,rfl⟩
 obtain⟨c,hc⟩:∃c:Bool,c=decide ((i:Int)∈ks):=⟨_,rfl⟩
 have ei:(if(i:Int)∈ks then some (AV.agg [])else none)=if c then some (.agg [])else none:=by
  rw[hc]
  grind
 rw[ei];simp only[e3,ae];refine an λb38 s39 h39 q39 u39=>aZ q39 rfl rfl rfl λs40 q40 u40=>?_;have k40:Sub s34 s40:=λj e hj=>by have hne:=cx h39 hj;rw[u40 j hne,u39 j hne];exact hj
 have kt:=k34.trans k40;have zz:Nx H s40 b2 b6 fr i:=by obtain⟨lk,l1,l2⟩:=z.lk;exact⟨z.sub.trans kt,⟨lk,kt _ _ l1,l2.imp id λ⟨c,q1,q2,q3⟩=>⟨c,q1,q2,kt _ _ q3⟩⟩,kt _ _ z.al⟩
 have q32:=k40 _ _ q34;have r0:[AV.int .i64 (i:Int),Ii 2,Ii 1][0]?=some (Ii i):=rfl;have r1:[AV.int .i64 (i:Int),Ii 2,Ii 1][1]?=some (Ii 2):=rfl;simp only[bD,ae]
 match i,hlt with
 | 0,_=>
   have hc:c=true:=gR;subst hc;rw[Bool.not_true,ay];simp only[ao,ae,aj q32,zAY,r0,aR,aG,Bool.true_bne,show(((0:Nat):Int) == 0)=true from rfl,Bool.not_true,ay,wH,aS,Bool.false_bne];obtain⟨lk,l1,l2⟩:=zz.lk;have l2:Acc 3 H s40 lk []:=l2;rcases hf with rfl|rfl
   ·rw[show(((0:Nat):Int) == -1)=false from rfl,ay]
    simp only[aj l1,g0Y,ae];refine Ql rfl l2 zz.sub sI λv' t' a' k' kp=>?_;have nb:∀{j el cs},Hc s40 j el cs->el≠3->Hc t' j el cs:=fun {j el cs} hj hne=>kp _ _ hj λq=>by
     rcases l2 with⟨h,_⟩|⟨c',_,e',h⟩
     ·have ⟨_,_,_,e2⟩:=q
      rw[h]at e2;cases e2
     ·have ⟨_,_,_,e2⟩:=q
      grind
    refine aT (nb l1 dE) sI a'.sl.one λt4 h4' u4'=>next oM _ ⟨λj e hj=>?_,⟨v',h4',a'.imp id λ⟨c,q1,q2,q3⟩=>⟨c,q1,q2,?_⟩⟩,?_⟩
    ·rw[u4' j λq=>by rw[q,hH,bZ n26,eo]at hj;cases hj];exact k' _ _ hj
    ·rw[u4' _ (Ne.symm n26)];exact nb zz.al dE
    ·rw[u4' c λq=>by rw[q,nb l1 dE]at q3;cases q3];exact q3
   ·rw[show(((0:Nat):Int) == 0)=true from rfl,aF]
    refine aT zz.al sI rfl λt4 h4' u4'=>next oM _ ⟨λj e hj=>?_,⟨lk,by rw[u4' _ n26];exact l1,l2.imp id λ⟨c,q1,q2,q3⟩=>⟨c,q1,q2,?_⟩⟩,h4'⟩
    ·rw[u4' j λq=>by rw[q,hH,eo]at hj;cases hj];exact zz.sub _ _ hj
    ·rw[u4' c λq=>by rw[q,zz.al]at q3;cases q3];exact q3
 | 1,_=>
   have nx1:Nx H s40 b2 b6 fr 2:=by have ⟨lk,l1,l2⟩:=zz.lk;exact⟨zz.sub,⟨lk,l1,by simpa using l2⟩,by simpa using zz.al⟩
   cases c with
   | false=>
     rw[Bool.not_false,aF];simp only[aU,ae,aF]
     grind
   | true=>
     rw[Bool.not_true,ay];simp only[ao,ae,aj q32,zAY,r0,r1,aR,aG,Bool.true_bne,show(((1:Nat):Int) == 0)=false from rfl,show((2:Int) == 0)=false from rfl,Bool.not_false,aF,wH,aU,aS]
     grind
theorem JD(hf:fr=-1∨fr=0)(hl:SlR 3 s lv (L3.map LS.lnR))(hu:Sl s uv (U3.map AV.bool))(hm:LS.Sli s mv l)(hlen:l.length<=72)(h0:0∈l)(c1:cs.length=21)(c2:aD cs=true)(c3:cs[1]?=some (Iw g))(c4:cs[2]?=some (Ii 9))
  (hK1:fr=-1->∀v s',Sub s s'->SlR 22 s' v [Ii 0::cs.set 2 (Ii 8)]->K (.tup [v,false,Ii 0]) s') (hK2:fr=0->∀v s',Sub s s'->bp v=some 0->K (.tup [v,true,Ii 0]) s'):wC TP 253 [.agg (net3 lv uv),Ii 0,mv,.agg cs,fr] K s:=by
 have on:=te hl.one hu.one;refine Yl ⟨on,an λb0 s1 h0' q0 u0=>⟨c2,an λb2 s3 h2 q2 u2=>?_⟩⟩;have q0:Hc s1 b0 385 (net3 lv uv):=q0;have q2:Hc s3 b2 64 cs:=q2;have k1:=u0.sub h0';have k3:=u2.sub h2;have k03:=k1.trans k3;refine am (aQ (n:=4) (k3 _ _ q0) rfl) (Qm (hl.sub k03) (hu.sub k03) λdb s6 k6 hd=>?_);have k06:=k03.trans k6;have q0':=k6 _ _ (k3 _ _ q0);have q2':=k6 _ _ q2;simp only[show eqV 5 true (.slc db 0 3 (some 3) 1) .nilslc=some false from rfl,aG,show(false != false)=false from rfl,ae,ay];refine am (aQ (n:=4) q0' rfl) ?_;simp only[ao,zAY,ae,aj q2',c3];refine Qn hl.one hu.one hd λs12 k12=>?_;have k012:=k06.trans k12;have x0:∀a b:AV,aN (.tup [a,b]) 0=some a:=λ_ _=>rfl;have x1:∀a b:AV,aN (.tup [a,b]) 1=some b:=λ_ _=>rfl;simp only[x0,x1,ae,bD,Bool.not_true,ay];refine am (aQ (n:=4) (k12 _ _ q0') rfl) ?_;simp only[ae,aj (k12 _ _ q2'),c3];have tail:∀(v:AV) (s20:Hq) (b:Bool) (vs:List Int),Sub s12 s20->LS.Sli s20 v vs->(vs≠[]->∀c,bH 1 v c->s12 c=none)->(fr=-1/\vs=[0]/\b=false∨fr=0/\vs=[]/\b=true)->
   oK (cO 2 (Pp b2)) (λv_23=>oK (rd1 s20 v_23) λv_24=>oK (bO .lss v_24 (Ii 2)) λv_25=>ai v_25 (K (.tup [.nilslc,b,(Ii 0)]) s20)
    (oK (cO 2 (Pp b2)) λv_26=>oK (rd1 s20 v_26) λv_27=>oK (bO .sub v_27 (Ii 1)) λv_28=>oK (cO 2 (Pp b2)) λv_29=>oK (wr1 s20 v_29 v_28) λs_30=>oK (bp v) λv_31=>
    ∃I0:List AV->Hq->Nat->Prop,(∃m,I0 [.nilslc,(Ii 0)] s_30 m)/\∀(f:Env) (s:Hq) (m0:Nat),I0 [f 10,f 54] s m0->CS (Pp b2) (f 10) b v v_31 (f 54) I0 m0 K s)):=by
  intro v s20 b vs k20 hv hfr hb;have q20:=k20 _ _ (k12 _ _ q2');simp only[ao,zAY,ae,aj q20,c4,aH,show decide ((9:Int)<2)=false from rfl,ay,cA,show IntKind.i64.wrap (9-1)=8 from rfl];refine aT q20 oM rfl λs30 q30 u30=>?_;have sb:s b2=none:=cq k1 h2;have k30:Sub s s30:=λi e hi=>by rw[u30 i ((by grind [sb]))];exact k20 _ _ (k012 _ _ hi)
  have hv30:LS.Sli s30 v vs:=Sl.keep (fp:=λi=>i=b2) hv (u30.keep rfl) λb o n c e hne q=>by have:=hfr (λq=>hne (by rw[q];rfl)) b ⟨_,_,_,e⟩;rw[q,k12 _ _ q2']at this;cases this
  simp only[hv30.len,ae,lMY];obtain⟨ps,hps⟩:∃ps,ps=cs.set 2 (Ii 8):=⟨_,rfl⟩
  have l21:ps.length=21:=gR;have o21:aD ps=true:=by simp_all [Ib]
  rw[<- hps]at q30 hK1;refine⟨λys t m=>∃(i:Nat) (sv:AV),ys=[sv,i]/\i<=vs.length/\m=vs.length-i/\Sub s30 t/\AccR 121 22 s30 t sv (if i=0 then[]else[Ii 0::ps]),⟨_,0,.nilslc,rfl,oM,rfl,.refl _,⟨λr h=>(nomatch h),.inl ⟨rfl,rfl⟩⟩⟩,?_⟩;rintro f t m ⟨i,sv,hy,hi,rfl,kt,ac⟩;simp only[cI,and_true]at hy;rw[hy.1,hy.2];unfold CS;simp only[aH,ae];refine au (λhlt=>?_) (λhge=>?_)
  rotate_left
  ·have hi:i=vs.length:=gR
   rcases hb with⟨rfl,rfl,rfl⟩|⟨rfl,rfl,rfl⟩
   ·subst hi
    have ac:AccR 121 22 s30 t sv [Ii 0::ps]:=ac
    grind [Sub.trans,AccR.sl]
   ·subst hi
    have ac:AccR 121 22 s30 t sv []:=ac;exact hK2 rfl _ _ (k30.trans kt) ac.sl.len
  have hlt:i<vs.length:=gR;rcases hb with⟨rfl,rfl,rfl⟩|⟨rfl,rfl,rfl⟩
  rotate_left
  ·cases hlt
  have hi0:i=0:=gR;subst hi0;have ac:AccR 121 22 s30 t sv []:=ac;have ⟨p,g1,g2⟩:=(hv30.sub kt).get (i:=0) sI;have g2:rd1 t p=some (Ii 0):=g2;simp only[g1,g2,ae];refine am (aQ (n:=21) (kt _ _ q30) l21) (am (rV rfl l21) (am (fill22b rfl gR) ⟨by simp_all,an λd1 s39 hd1 w39 u39=>?_⟩));have k39:=u39.sub hd1;have ac39:AccR 121 22 s30 s39 sv []:=⟨ac.1,ac.2.imp id λ⟨c,q1,q2,q3⟩=>⟨c,q1,q2,k39 _ _ q3⟩⟩
  refine xx ac39 (kt.trans k39) (SlR.mk (rows:=[Ii 0::ps]) ((by simp_all)) (t:=false) (e:=121) (by rw[w39];simp) sI sI) (λb o m c' e q=>?_) sI λv' s42 a42 kp _=>?_
  ·cases e
   obtain⟨_,_,_,e⟩:=q;rcases ac.2 with⟨q1,_⟩|⟨c,_,q1,q2⟩
   ·rw[e]at q1;cases q1
   grind
  ·simp only[aJ,ae]
   rw[aC];refine⟨_,oM,1,v',sI,sI,rfl,λi e hi=>?_,a42⟩;refine kp i e (k39 _ _ (kt _ _ hi)) λ⟨_,_,_,q⟩=>?_;rcases ac.2 with⟨q1,_⟩|⟨c,q0,q1,q2⟩
   ·rw[q]at q1;cases q1
   grind
 refine JC (K:=λv s=>_) hf (hl.sub k012) (hu.sub k012) (hm.sub k012) hlen h0 (λhf v s20 k20 hv hfr=>?_) λhf v s20 k20 hv=>?_
 ·exact tail v s20 false [0] k20 hv (λ_=>hfr) (.inl ⟨hf,rfl,rfl⟩)
 ·exact tail v s20 true [] k20 hv (λh=>absurd rfl h) (.inr ⟨hf,rfl,rfl⟩)
variable{r r' s0:Hq}{w hv:AV}{S:Ro}{ns:List Ntc}{now a q e:Int}{p:Nat}{rows:List (List AV)}
theorem fw(k:Sub s s'):Sub (rest s r) (rest s' r):=λi e h=>by
 unfold rest at h ⊢;split at h
 ·rename_i hr;rw[if_pos hr];exact k _ _ h
 ·cases h
theorem xY(k:Sub r s){b:Nat}{x:Bool×Blk}(hb:s b=none)(h:s' b=some x):rest s' r b=some x:=by unfold rest;rw[if_pos (cq k hb)];exact h
theorem Qp(k:Sub r s)(h:Goes r s r' s'):Sub (rest s r) (rest s' r'):=by
 have ⟨a,b⟩:=F6 (t:=rest s r) h (λi e hi=>by unfold rest at hi;split at hi;exact hi;cases hi) λi hi=>by unfold rest at hi;split at hi;assumption;exact absurd rfl hi
 intro i e hi;unfold rest;rw[if_pos (b i (by rw[hi];simp))];exact a i e hi
theorem iO(h:v.one=true)(hK:∀s',Sub s s'->K (LS.recV a q v) s'):wC TP 16 [a,q,v] K s:=by refine Yq (an λb s1 hb h1 u1=>am (a:=[a,q,v]) (by simp only[aq,dx h];rfl) (aZ h1 rfl rfl (by simp_all) λs2 h2 u2=>am (aQ (n:=3) h2 rfl) (hK s2 λi x hi=>?_)));have hne:=cx hb hi;rw[u2 i hne,u1 i hne];exact hi
theorem JE(h:LS.Sli s v l)(h':LS.Sli s w l)(hl:l.length<=10000000)(hK:∀s',Sub s s'->K true s'):wC TP 98 [LS.recV a q v,LS.recV a q w] K s:=by
 refine Ys (LS.box3 rfl rfl h.one λb1 s1 hb1 h1 u1=>LS.box3 rfl rfl h'.one λb2 s2 hb2 h2 u2=>?_);have sub1:=u1.sub hb1;have sub2:=sub1.trans (u2.sub hb2);have h12:=u2.at h1 hb2;simp only[CU,CT,ao,ae,aj h12,aj h2,zAY,g0Y,g1Y,aR,aG,Bool.false_bne,beq_self_eq_true,aF,aU]
 grind [LS.xf,Sl.sub]
def Wnt(s:Hq)(w:AV)(ns:List Ntc):Prop:=∃rows,SlR 3 s w rows/\rows.length=ns.length/\ns.length<=1000/\∀(i:Nat) (n:Ntc),ns[i]?=some n->n.1=0/\∃lw,rows[i]?=some [Ii n.2.1,Ii n.2.2.1,lw]/\LS.Sli s lw n.2.2.2/\n.2.2.2.length<=10000000
theorem Wnt.sub(h:Wnt s w ns)(k:Sub s s'):Wnt s' w ns:=by have ⟨rows,h1,h2,h3,h4⟩:=h;refine⟨rows,h1.sub k,h2,h3,λi n hn=>?_⟩;have ⟨a,lw,b,c,d⟩:=h4 i n hn;exact⟨a,lw,b,c.sub k,d⟩
theorem Wnt.nil:Wnt s .nilslc []:=⟨[],⟨sI,.inl ⟨rfl,rfl⟩⟩,rfl,sI,λi n h=>by simp at h⟩
theorem Wnt.one{b:Nat}{x:Bool}{e:TypeId}{lw:AV}(h:s b=some (x,.cells e [a,q,lw]))(hl:LS.Sli s lw l)(hn:l.length<=10000000):Wnt s (.slc b 0 1 (some 1) 3) [(0,(a,q,l))]:=by
 refine⟨[[a,q,lw]],SlR.mk ((by simp_all)) (t:=x) (e:=e) (by rw[h];rfl) rfl sI,rfl,sI,λi n hn'=>?_⟩
 grind
theorem Qq(hv:Nts s0 s v ns)(hw:Wnt s w ns)(hK:∀s',Sub s s'->K true s'):wC TP 48 [v,w] K s:=by
 have ⟨vr,v1,v2,v3⟩:=hv.ex;have ⟨wr,w1,w2,w3,w4⟩:=hw;have vl:=v1.sl;refine Yu ?_;unfold OG;simp only[vl.len,w1.len,ae,v2,w2,aR,aG,beq_self_eq_true,Bool.true_bne,Bool.not_true,ay];refine⟨λys t m=>∃i:Nat,ys=[Ii i]/\i<=ns.length/\m=ns.length-i/\Sub s t,⟨_,0,rfl,oM,rfl,.refl _⟩,?_⟩;rintro f t m ⟨i,hy,hi,rfl,kt⟩;simp only[cI,and_true]at hy;rw[hy];unfold OF;simp only[vl.len,v2,aH,ae];refine au (λhlt=>?_) (λhge=>hK _ kt);have hlt:i<ns.length:=gR;have ⟨n,hn⟩:∃n,ns[i]?=some n:=⟨_,gE hlt⟩
 have ⟨lv,a1,a2,_⟩:=v3 i n hn;have ⟨n0,lw,b1,b2,b3⟩:=w4 i n hn;have ⟨pb,po,g1,g2,g3⟩:=(vl.sub kt).get a1;have ⟨qb,qo,e1,e2,e3⟩:=(w1.sub kt).get b1;have g0:rd1 t (.ptr pb po)=some (Ii n.1):=g3 0 oM;have gr:rdN t 3 (.ptr pb (po+1))=some [Ii n.2.1,Ii n.2.2.1,lv]:=xQ (j:=1) (k:=3) g2;simp only[g1,ae,ao,Nat.add_zero,g0,aR,aG,Bool.true_bne,show((n.1:Int) == 0)=true by rw[n0];rfl,Bool.not_true,ay];refine am gr ?_;simp only[e1,ae];refine am e2 (JE (a2.sub kt) (b2.sub kt) b3 λt3 k3=>?_);simp only[bD,Bool.not_true,ae,CV,aS,ay,aJ,aA];rw[aC];exact⟨_,oM,i+1,rfl,oM,rfl,kt.trans k3⟩
abbrev Rt(r:Hq)(p:Nat)(S:Ro):Prop:=RoAt 3 L3 2 1 0 r p S
theorem pln3:Pln 3 L3 2 1:=⟨oM,dE,vld3.2.2.2.2,dE⟩
theorem JF(k:Sub r s)(z:Rt r p S)(T:TkP 0 L3 S now l)(hh:LS.Sli (rest s r) hv l)(hw:Wnt (rest s r) w (d9 0 L3 S now l))
  (hK:∀r' s',Rt r' p (gH 0 L3 S now l)->Sub r' s'->Sub (rest s r) (rest s' r')->K true s'):wC TP 19 [Pp p,now,hv,w] K s:=by
 refine Yy (xw pln3 oM k z hh T λr' s1 v s0 z' g _ k0 k1 hn=>?_);have x0:∀a b:AV,aN (.tup [a,b]) 0=some a:=λ_ _=>rfl;have x1:∀a b:AV,aN (.tup [a,b]) 1=some b:=λ_ _=>rfl;simp only[x0,x1,ae,aR,aG,beq_self_eq_true,Bool.false_bne,aF];refine Qq hn (hw.sub (k0.trans k1)) λs2 k2=>?_;simp only[CY,aU,ae];exact hK r' s2 z' (g.sub.trans k2) ((Qp k g).trans (fw k2))
theorem JG{rc:LS.Rec}(k:Sub r s)(z:Rt r p S)(T:RvP 3 0 L3 S 0 rc)(hh:LS.Sli (rest s r) hv rc.2.2)(hw:Wnt (rest s r) w (eK 3 0 L3 S 0 rc))
  (hK:∀r' s',Rt r' p (fJ 3 0 L3 S rc)->Sub r' s'->Sub (rest s r) (rest s' r')->K true s'):wC TP 15 [Pp p,LS.recV rc.1 rc.2.1 hv,w] K s:=by
 refine Yw (LS.box3 rfl rfl hh.one λb s1 hb h1 u1=>am (aQ (n:=3) h1 rfl) ?_);have kb:=u1.sub hb;refine xr pln3 oM (k.trans kb) z (hh.sub (fw kb)) T λr' s1 v s0 z' g _ k0 k1 hn=>?_;have x0:∀a b:AV,aN (.tup [a,b]) 0=some a:=λ_ _=>rfl;have x1:∀a b:AV,aN (.tup [a,b]) 1=some b:=λ_ _=>rfl;simp only[x0,x1,ae,aR,aG,beq_self_eq_true,Bool.false_bne,aF];refine Qq hn (hw.sub (((fw kb).trans k0).trans k1)) λs2 k2=>?_;simp only[CX,aU,ae];exact hK r' s2 z' (g.sub.trans k2) (((fw kb).trans (Qp (k.trans kb) g)).trans (fw k2))
variable{ttl:Int}{row:List AV}{lo:Bool}
theorem JH(h:SlR 22 s v [row])(h':SlR 22 s w [row])(he:cZ TP 121 (.agg row) (.agg row)=some true)(hK:K true s):wC TP 46 [v,w] K s:=by refine YA ?_;unfold OI;simp only[h.len,h'.len,ae,aR,aG,beq_self_eq_true,Bool.true_bne,Bool.not_true,ay];refine⟨λys t m=>∃i:Nat,ys=[Ii i]/\i<=1/\m=1-i/\t=s,⟨_,0,rfl,oM,rfl,rfl⟩,?_⟩;rintro f t m ⟨i,hy,hi,rfl,rfl⟩;simp only[cI,and_true]at hy;rw[hy];unfold OH;simp only[h.len,length_singleton,aH,ae];refine au (λhlt=>?_) (λhge=>hK);have hlt:i=0:=gR;subst hlt;have ⟨b,o,g1,g2,_⟩:=h.get (i:=0) rfl;have ⟨b',o',g1',g2',_⟩:=h'.get (i:=0) rfl;simp only[g1,ae];refine am g2 ?_;simp only[g1',ae];refine am g2' ?_;simp only[he,aG,Bool.true_bne,Bool.not_true,ae,ay,aJ];exact⟨_,oM,1,rfl,oM,rfl,trivial⟩
theorem JI(h:SlR 2 s v rows)(h':SlR 2 s w rows)(hl:rows.length<=1000)(he:∀r∈rows,cZ TP 105 (.agg r) (.agg r)=some true)(hK:K true s):wC TP 38 [v,w] K s:=by refine YD ?_;unfold OL;simp only[h.len,h'.len,ae,aR,aG,beq_self_eq_true,Bool.true_bne,Bool.not_true,ay];refine⟨λys t m=>∃i:Nat,ys=[Ii i]/\i<=rows.length/\m=rows.length-i/\t=s,⟨_,0,rfl,oM,rfl,rfl⟩,?_⟩;rintro f t m ⟨i,hy,hi,rfl,rfl⟩;simp only[cI,and_true]at hy;rw[hy];unfold OK;simp only[h.len,aH,ae];refine au (λhlt=>?_) (λhge=>hK);have hlt:i<rows.length:=gR;have ⟨b,o,g1,g2,_⟩:=h.get (gE hlt);have ⟨b',o',g1',g2',_⟩:=h'.get (gE hlt);simp only[g1,ae];refine am g2 ?_;simp only[g1',ae];refine am g2' ?_;simp only[he _ (getElem_mem hlt),aG,Bool.true_bne,Bool.not_true,ae,ay,aJ];rw[aC];exact⟨_,oM,i+1,rfl,oM,rfl,trivial⟩
theorem JJ{m:List Bool}(h:Sl s v (m.map AV.bool))(h':Sl s w (m.map AV.bool))(hl:m.length<=1000)(hK:K true s):wC TP 70 [v,w] K s:=by
 refine YI ?_;unfold OO;simp only[h.len,h'.len,lMY,ae,aR,aG,beq_self_eq_true,Bool.true_bne,Bool.not_true,ay];refine⟨λys t k=>∃i:Nat,ys=[Ii i]/\i<=m.length/\k=m.length-i/\t=s,⟨_,0,rfl,oM,rfl,rfl⟩,?_⟩;rintro f t k ⟨i,hy,hi,rfl,rfl⟩;simp only[cI,and_true]at hy;rw[hy];unfold ON;simp only[h.len,lMY,aH,ae];refine au (λhlt=>?_) (λhge=>hK);have hlt:i<m.length:=gR;have ⟨p,g1,g2⟩:=h.get (i:=i) (by simpa using hlt);have ⟨p',g1',g2'⟩:=h'.get (i:=i) (by simpa using hlt);have g2:rd1 t p=some (.bool m[i]):=by rw[g2];simp[hlt]
 have g2':rd1 t p'=some (.bool m[i]):=by rw[g2'];simp[hlt]
 have e:eqV 1 false (m[i]) (m[i])=some true:=by cases m[i]<;>rfl
 simp only[g1,g2,g1',g2',ae,e,aG,Bool.true_bne,Bool.not_true,ay,aJ];rw[aC];exact⟨_,oM,i+1,rfl,oM,rfl,trivial⟩
def pk(g ttl:Int):List AV:=[Iw 0,Iw g,ttl,Ii 0,Iw 0,Iw 0,Iq 0,Iq 0,Ii 0,Ii 0,Iq 0,Iw 0,Iq 0,Iw 0,Iw 0,Iw 0,Ii 0,Ii 0,Ii 0,Ii 0,Iq 0]
theorem pkP:FB.Pk 0 g 0 0 (pk g ttl):=⟨rfl,rfl,rfl,rfl,rfl,rfl⟩
theorem JK(h:∀K':AV->Hq->Prop,(∀s' v,Sub s s'->bp v=some 0->K' (.tup [v,lo,e]) s')->wC TP 23 [Pp p,.agg (pk g ttl),fr] K' s)(hK:∀s',Sub s s'->K true s'):
  wC TP 12 [Pp p,Iw g,ttl,fr,false,lo,e] K s:=by
 refine OJ (am (a:=pk g ttl) rfl (h _ λs' v k hl=>?_));have x0:∀a b c:AV,aN (.tup [a,b,c]) 0=some a:=λ_ _ _=>rfl;have x1:∀a b c:AV,aN (.tup [a,b,c]) 1=some b:=λ_ _ _=>rfl;have x2:∀a b c:AV,aN (.tup [a,b,c]) 2=some c:=λ_ _ _=>rfl;have eb:∀b:Bool,eqV 1 false b b=some true:=λb=>by cases b<;>rfl
 simp only[x0,x1,x2,ae,eb,aG,Bool.true_bne,Bool.not_true,ay,aR,beq_self_eq_true,wK,aS,hl,bW,show decide ((((0:Nat):Int))>0)=false from rfl,wJ,bD,Bool.not_false,aF,wI,aU];exact hK s' k
theorem JL(h:∀K':AV->Hq->Prop,(∀s' v,Sub s s'->SlR 22 s' v [Ii 0::(pk g 9).set 2 (Ii 8)]->K' (.tup [v,false,Ii 0]) s')->wC TP 23 [Pp p,.agg (pk g 9),fr] K' s)(he:cZ TP 121 (.agg (Ii 0::pk g 8)) (.agg (Ii 0::pk g 8))=some true)(hK:∀s',Sub s s'->K true s'):
  wC TP 12 [Pp p,Iw g,Ii 9,fr,true,false,Ii 0] K s:=by
 refine OJ (am (a:=pk g 9) rfl (h _ λs' v k hl=>?_));have x0:∀a b c:AV,aN (.tup [a,b,c]) 0=some a:=λ_ _ _=>rfl;have x1:∀a b c:AV,aN (.tup [a,b,c]) 1=some b:=λ_ _ _=>rfl;have x2:∀a b c:AV,aN (.tup [a,b,c]) 2=some c:=λ_ _ _=>rfl;have eb:∀b:Bool,eqV 1 false b b=some true:=λb=>by cases b<;>rfl
 simp only[x0,x1,x2,ae,eb,aG,Bool.true_bne,Bool.not_true,ay,aR,beq_self_eq_true,wK,aS,hl.len,length_singleton,bW,show decide ((0:Int)<((1:Nat):Int))=true from rfl,wJ,bD,cA,show IntKind.i64.wrap (9-1)=8 from rfl];refine am (a:=pk g 8) rfl (am (a:=Ii 0::pk g 8) rfl (am (a:=Ii 0::pk g 8) rfl ⟨rfl,an λb s2 hb h2 u2=>?_⟩));refine JH (hl.sub (u2.sub hb)) (SlR.mk (rows:=[Ii 0::pk g 8]) (λr h=>by rw[mem_singleton.1 h];rfl) (t:=false) (e:=121) (by rw[h2];rfl) rfl sI) he ?_;simp only[wI,aS,ae]
 grind [Sub.trans,Upto.sub]
theorem JM(k:Sub r s)(z:Rt r p S)(hK:∀s' v,Sub s s'->LS.Sli s' v [0]->K v s'):wC TP 10 [Pp p] K s:=by
 have ⟨st,rv0,rd,rt,wl,wm,d,f,lv,mv,uv,dv,zs,pt⟩:=z.ex;have zs':=zs.more k;have hp:=zs'.sub (pC p 0 2 1 lv mv wm d f S.tk S.la uv dv) sI _ _ aP;have ws:=pt.ws.sub (zs'.sub rv0 sI);refine Pr ws.asc (by have:=congrArg List.length pt.wk;rw[lMY]at this;rw[this];decide) hp ws.mr λs' v k' ac=>hK s' v k' ?_;have e:lks wl=[0]:=by
  show wl.map _=_;have:wl.map (·.1)=[0]:=pt.wk
  simp_all
 grind [Acc.sl]
theorem iL(k:Sub r s)(z:Rt r p S)(hm:0<(S.W 0).m)(hK:∀s' v,Sub s s'->LS.Sli s' v (ups [0] S.W)->K v s'):wC TP 11 [Pp p] K s:=by
 have ⟨st,rv0,rd,rt,wl,wm,d,f,lv,mv,uv,dv,zs,pt⟩:=z.ex;have zs':=zs.more k;have hp:=zs'.sub (pC p 0 2 1 lv mv wm d f S.tk S.la uv dv) sI _ _ aP;have ws:=pt.ws.sub (zs'.sub rv0 sI);have wk:wl.map (·.1)=[0]:=pt.wk;refine Up_in ws.asc (by have:=congrArg List.length wk;grind) hp ws.mr (λq hq=>⟨⟨_,ws.w q hq⟩,?_⟩) λs' v k' ac=>hK s' v k' ?_
 ·have:q.1∈wl.map (·.1):=mem_map_of_mem hq
  grind
 grind [qW,Acc.sl]
theorem JN(k:Sub r s)(z:Rt r p S)(hne:S.U≠[])(hl:S.U.length<=1000)(hK:∀s' v,Sub s s'->Sl s' v (S.U.map AV.bool)->K v s'):wC TP 25 [Pp p] K s:=by
 have ⟨st,rv0,rd,rt,wl,wm,d,f,lv,mv,uv,dv,zs,pt⟩:=z.ex;have zs':=zs.more k;have hp:=zs'.sub (pC p 0 2 1 lv mv wm d f S.tk S.la uv dv) sI _ _ aP;have hu:=pt.u.sub (zs'.sub st sI);refine YL (cP hp ?_);simp only[bD,Bool.not_true,ae,ay,aO,ao,aj hp,zAY,g1Y,g0Y];refine YJ ?_;have hne':S.U.map AV.bool≠[]:=(by simp_all)
 obtain⟨b,o,c,e⟩:∃b o c,uv=.slc b o (S.U.map AV.bool).length c 1:=by
  rcases hu with⟨_,h⟩|⟨b,o,c,h,_⟩
  ·exact absurd h hne'
  ·exact⟨b,o,c,h⟩
 rw[e]at hu ⊢;simp only[OP,gT,aG,Bool.false_bne,ae,ay];refine am (a:=[]) rfl ⟨rfl,an λd s1 hd h1 u1=>?_⟩;refine ol (hu.sub (u1.sub hd)) gR λv' s2 sub2 _ q2=>?_;exact hK s2 v' ((u1.sub hd).trans sub2) (by grind [Sl.mk])
def rrow(dd:Nat->Int)(i:Nat):List (List AV):=((List.range i).filter λm=>decide (m≠0/\0<=dd m)).map λm=>[Iw (lbk m),(dd m:Int)]
theorem iu{dd:Nat->Int}{i:Nat}:rrow dd (i+1)=rrow dd i++if i≠0/\0<=dd i then[[Iw (lbk i),Ii (dd i)]]else[]:=by
 unfold rrow;rw[range_succ,filter_append,map_append]
 grind
theorem Qr(k:Sub r s)(z:Rt r p S)(hK:∀s' v dd,Sub s s'->IsDist 3 G3 S.U 0 dd->SlR 2 s' v (rrow dd 3)->K v s'):wC TP 26 [Pp p] K s:=by
 obtain⟨st,rv0,rd,rt,wl,wm,d,f,lv,mv,uv,dv,zs,pt⟩:=z.ex;have zs':=zs.more k;have hp:=zs'.sub (pC p 0 2 1 lv mv wm d f S.tk S.la uv dv) sI _ _ aP;obtain⟨dd,hdd,hb,hdv⟩:=pt.ds.ex;have hdv:=hdv.sub (zs'.sub st sI);refine YG (cP hp ?_);have l3:bp dv=some 3:=by rw[hdv.len,fe]
 simp only[bD,Bool.not_true,ae,ay,aO,ao,aj hp,zAY,g1Y,g0Y,l3];refine⟨λys t m=>∃(i:Nat) (sv:AV),ys=[sv,i]/\i<=3/\m=3-i/\Sub s t/\AccR 105 2 s t sv (rrow dd i),⟨_,0,.nilslc,rfl,oM,rfl,.refl _,⟨λr h=>(nomatch h),.inl ⟨rfl,rfl⟩⟩⟩,?_⟩;rintro f t m ⟨i,sv,hy,hi,rfl,kt,ac⟩;simp only[cI,and_true]at hy;rw[hy.1,hy.2];obtain⟨I0,hI0⟩:∃I0:List AV->Hq->Nat->Prop,I0=λys t m=>∃(i:Nat) (sv:AV),ys=[sv,i]/\i<=3/\m=3-i/\Sub s t/\AccR 105 2 s t sv (rrow dd i):=⟨_,rfl⟩
 rw[<- hI0];unfold OM;simp only[aH,ae];refine au (λhlt=>?_) (λhge=>?_)
 rotate_left
 ·have hi:i=3:=gR
  subst hi;exact hK t sv dd kt hdd ac.sl
 have hlt:i<3:=gR;have next:∀sv' t',Sub s t'->AccR 105 2 s t' sv' (rrow dd (i+1))->wL sv' i I0 (3-i) K t':=λsv' t' k' a'=>by simp only[wL,aJ,ae,aA];rw[aC,hI0];exact⟨_,oM,i+1,sv',sI,oM,rfl,k',a'⟩
 have ⟨q,g1,g2⟩:=(hdv.sub kt).get (i:=i) (by rw[fe];exact hlt);have g2:rd1 t q=some (Ii (dd i)):=by grind [AM.dl]
 simp only[g1,g2,ae,aO,ao,aj (kt _ _ hp),zAY,g0Y,aR,aG,Bool.false_bne]
 by_cases h0:i=0
 ·grind [aF,wM,aU,bG,iu]
 rw[show((i:Int) == (0:Nat))=false by simpa using h0];simp only[ay,aH,ae,wM,aS];refine au (λhn=>?_) (λhn=>?_)
 ·grind [iu]
 refine lJ oM ?_;have x0:∀a b:AV,aN (.tup [a,b]) 0=some a:=λ_ _=>rfl;have x1:∀a b:AV,aN (.tup [a,b]) 1=some b:=λ_ _=>rfl;simp only[x0,x1,ae];refine am (a:=[Iw (lbk i),(dd i:Int)]) rfl (am (a:=[Iw (lbk i),(dd i:Int)]) rfl ⟨rfl,an λc t2 hc w2 u2=>?_⟩);have k2:=u2.sub hc;have ac2:AccR 105 2 s t2 sv (rrow dd i):=⟨ac.1,ac.2.imp id λ⟨c,q1,q2,q3⟩=>⟨c,q1,q2,k2 _ _ q3⟩⟩
 have old:∀b,bH 2 sv b->s b=none/\t b≠none:=λb ⟨_,_,_,e⟩=>by
  rcases ac.2 with⟨q1,_⟩|⟨c',q0,q1,q2⟩
  ·rw[e]at q1;cases q1
  grind
 refine xx ac2 (kt.trans k2) (SlR.mk (rows:=[[Iw (lbk i),(dd i:Int)]]) ((by simp_all)) (t:=false) (e:=105) (by rw[w2];rfl) rfl sI) (λb o m c' e q=>?_) ?_ λv' t3 a3 kp _=>?_
 ·grind
 ·grind [rrow]
 ·refine next _ _ (λj e hj=>kp j e (k2 _ _ (kt _ _ hj)) λq=>gR) ?_
  grind [iu]
def FP:TN.FG:=⟨2,1,0,0,0,false,false,3,9,100,20,5,50,L3,[(100,1)],[(0,10,2,167772160,24,167772161),(0,20,3,0,0,0)],[([0],[0,1]),([0,1],[0])],[],[]⟩
theorem JO:TN.Valid FP:=by
 intro i hi
 match i,hi with
 | 0,_=>exact⟨dE,dE,dE,dE,dE,dE⟩
 | 1,_=>exact⟨dE,dE,dE,dE,dE,dE⟩
 | 2,_=>
   refine⟨dE,λi x h=>?_⟩
   match i with
   | 0=>cases h;exact⟨⟨dE,dE,dE,dE⟩,dE⟩
   | 1=>cases h;exact⟨⟨dE,dE,dE,dE⟩,dE⟩
   |i+2=>cases h
 | 3,_=>
   refine⟨dE,λi x h=>?_⟩
   match i with
   | 0=>cases h;exact⟨⟨dE,dE,dE⟩,dE,dE⟩
   |i+1=>cases h
 | 4,_=>
   refine⟨dE,λi x h=>?_⟩
   match i with
   | 0=>cases h;exact⟨⟨dE,dE,dE⟩,dE,dE,rfl,rfl,λh=>(nomatch h),λ_=>⟨by decide +kernel,dE,by decide +kernel,rfl⟩⟩
   | 1=>cases h;exact⟨⟨dE,dE,dE⟩,dE,dE,rfl,rfl,λ_=>⟨rfl,rfl⟩,λh=>absurd rfl h⟩
   |i+2=>cases h
 | 5,_=>
   refine⟨dE,λx h=>?_,λn=>Nat.le_trans count_le_length dE⟩;rcases mCY h with rfl|h
   ·exact⟨dE,⟨dE,dE⟩,dE,dE⟩
   ·rcases mem_singleton.1 h with rfl
    exact⟨dE,⟨dE,dE⟩,dE,dE⟩
 | 6,_=>exact⟨dE,λi x h=>by cases h⟩
 | 7,_=>exact⟨dE,λi x h=>by cases h⟩
 |n+8,h=>omega
theorem ti:TN.Sz FP:=⟨dE,dE,dE,dE,dE,dE,dE,dE⟩
theorem JP:SgB FP:=⟨dE,dE,dE⟩
theorem JQ:∀i:Nat,[true,true][i]?=some true->MbA FP ((0:Nat):Int) FP.S.length i:=λi h=>by
 match i with
 | 0=>exact⟨([0],[0,1]),dE,dE,dE⟩
 | 1=>exact⟨([0],[0,1]),dE,dE,dE⟩
 |i+2=>simp at h
theorem tj(hK:∀cs s',Sub s s'->TN.FabR s' cs FP->K (.agg cs) s'):wC TP 21 [] K s:=by
 refine YT ?_;refine an λb0 s1 h0 q0 u0=>am (a:=[Ii 0,Ii 2,Ii 1]) rfl (am (a:=[Ii 1,Ii 2,Ii 1]) rfl (am (a:=[Ii 0,Ii 2,Ii 1,Ii 1,Ii 2,Ii 1]) rfl ⟨rfl,an λb5 s6 h5 q5 u5=>?_⟩));refine am (a:=[Iw 100,Iw 1]) rfl (am (a:=[Iw 100,Iw 1]) rfl ⟨rfl,an λb9 s10 h9 q9 u9=>?_⟩);refine am (a:=[Ii 2,Ii 1,.slc b5 0 2 (some 2) 3,.slc b9 0 1 (some 1) 2,.nilslc,.nilslc,.nilslc,.nilslc,Ii 0,Ii 0,Ii 0,false,false,Ii 0,Ii 0,Ii 0,Ii 0,Ii 0,Ii 0]) rfl (an λb12 s13 h12 q12 u12=>aZ q12 rfl rfl rfl λs14 q14 u14=>?_);refine am (a:=[Iw 167772160,Ii 24]) rfl (am (a:=[Ii 0,Iw 10,Iw 2,Iw 167772160,Ii 24,Iw 167772161]) rfl (am (a:=[Ii 0,Iw 20,Iw 3,Iw 0,Ii 0,Iw 0]) rfl ?_));refine am (a:=[Ii 0,Iw 10,Iw 2,Iw 167772160,Ii 24,Iw 167772161,Ii 0,Iw 20,Iw 3,Iw 0,Ii 0,Iw 0]) rfl ⟨rfl,an λb19 s20 h19 q19 u19=>?_⟩;simp only[ao,zAY,ae];have n12:b12≠b19:=λe=>gR;refine aT (by rw[u19 _ n12];exact q14) sI rfl λs22 q22 u22=>?_;refine am (a:=[Ii 0]) rfl ⟨rfl,an λb24 s25 h24 q24 u24=>?_⟩;refine am (a:=[Ii 0,Ii 1]) rfl ⟨rfl,an λb27 s28 h27 q27 u27=>?_⟩;refine am (a:=[.slc b24 0 1 (some 1) 1,.slc b27 0 2 (some 2) 1]) rfl ?_;refine am (a:=[Ii 0,Ii 1]) rfl ⟨rfl,an λb31 s32 h31 q31 u31=>?_⟩;refine am (a:=[Ii 0]) rfl ⟨rfl,an λb34 s35 h34 q34 u34=>?_⟩;refine am (a:=[.slc b31 0 2 (some 2) 1,.slc b34 0 1 (some 1) 1]) rfl ?_;refine am (a:=[.slc b24 0 1 (some 1) 1,.slc b27 0 2 (some 2) 1,.slc b31 0 2 (some 2) 1,.slc b34 0 1 (some 1) 1]) rfl ⟨rfl,an λb38 s39 h38 q38 u38=>?_⟩;have k1:=u0.sub h0;have k6:=u5.sub h5;have k10:=u9.sub h9;have k13:=u12.sub h12;have s12:s10 b12=none:=h12;have k20:=u19.sub h19;have k25:=u24.sub h24;have k28:=u27.sub h27;have k32:=u31.sub h31;have k35:=u34.sub h34;have k39:=u38.sub h38;have q22':=k39 _ _ (k35 _ _ (k32 _ _ (k28 _ _ (k25 _ _ q22))));refine aT q22' sI rfl λs41 q41 u41=>?_;refine am (a:=[Ii 3,Ii 9,Ii 100,Ii 20,Ii 5,Ii 50]) rfl ?_;refine TN.rh q41 rfl sI rfl λs44 q44 u44=>?_;obtain⟨cs,hcs⟩:∃cs,cs=TN.csG FP (.slc b5 0 2 (some 2) 3) (.slc b9 0 1 (some 1) 2) (.slc b19 0 2 (some 2) 6) (.slc b38 0 2 (some 2) 2) .nilslc .nilslc:=⟨_,rfl⟩
 have q44:Hc s44 b12 52 cs:=by rw[hcs];exact q44
 have lcs:cs.length=19:=by rw[hcs];rfl
 have acs:aD cs=true:=by rw[hcs];rfl
 refine am (aQ (n:=19) q44 lcs) ?_;have kA:Sub s10 s44:=λi e hi=>by have hne:i≠b12:=cx h12 hi;rw[u44 i hne,u41 i hne];refine k39 _ _ (k35 _ _ (k32 _ _ (k28 _ _ (k25 _ _ ?_))));rw[u22 i hne];refine k20 _ _ ?_;rw[u14 i hne];exact k13 _ _ hi
 have q0':s44 b0=_:=kA _ _ (k10 _ _ (k6 _ _ q0));refine aZ q0' (by rw[lcs];rfl) rfl acs λs46 q46 u46=>am (aQ (n:=19) q46 lcs) ?_;have sb0:s b0=none:=h0;have up:∀{i e},s44 i=some e->i≠b0->s46 i=some e:=fun {i e} h hne=>by rw[u46 i hne];exact h
 have kk:Sub s s46:=λi e hi=>up (kA _ _ (k10 _ _ (k6 _ _ (k1 _ _ hi)))) (cx h0 hi);have nb:∀{b} {t:Hq},Sub s1 t->t b=none->b≠b0:=fun {b t} k h e=>by rw[e,k _ _ q0]at h;cases h
 have m6:=k6;have m10:=k6.trans k10;have n14:Sub s1 s14:=λi e hi=>by have h:=m10 _ _ hi;have hne:i≠b12:=cx h12 h;rw[u14 i hne];exact k13 _ _ h
 have n22:Sub s1 s22:=λi e hi=>by have hne:i≠b12:=cx h12 (m10 _ _ hi);rw[u22 i hne];exact k20 _ _ (n14 _ _ hi)
 have f5:s46 b5=_:=up (kA _ _ (k10 _ _ q5)) (nb (.refl _) h5);have f9:s46 b9=_:=up (kA _ _ q9) (nb m6 h9);have tl:∀{i e},s22 i=some e->i≠b12->s44 i=some e:=fun {i e} h hne=>by rw[u44 i hne,u41 i hne];exact k39 _ _ (k35 _ _ (k32 _ _ (k28 _ _ (k25 _ _ h))))
 have f19:s46 b19=_:=up (tl (by rw[u22 _ (Ne.symm n12)];exact q19) (Ne.symm n12)) (nb n14 h19);have t25:∀{i e},s25 i=some e->i≠b12->s44 i=some e:=fun {i e} h hne=>by rw[u44 i hne,u41 i hne];exact k39 _ _ (k35 _ _ (k32 _ _ (k28 _ _ h)))
 have e12:∀{b} {t:Hq},Sub s22 t->t b=none->b≠b12:=fun {b t} k h e=>by rw[e,k _ _ q22]at h;cases h
 have l25:=k25;have l28:=k25.trans k28;have l32:=l28.trans k32;have l35:=l32.trans k35;have f24:s46 b24=_:=up (t25 q24 (e12 (.refl _) h24)) (nb n22 h24);have f27:Hc s46 b27 3 [Ii 0,Ii 1]:=up (by rw[u44 _ (e12 l25 h27),u41 _ (e12 l25 h27)];exact k39 _ _ (k35 _ _ (k32 _ _ q27))) (nb (n22.trans l25) h27)
 have f31:Hc s46 b31 3 [Ii 0,Ii 1]:=up (by rw[u44 _ (e12 l28 h31),u41 _ (e12 l28 h31)];exact k39 _ _ (k35 _ _ q31)) (nb (n22.trans l28) h31)
 have f34:Hc s46 b34 3 [Ii 0]:=up (by rw[u44 _ (e12 l32 h34),u41 _ (e12 l32 h34)];exact k39 _ _ q34) (nb (n22.trans l32) h34)
 have f38:s46 b38=_:=up (by rw[u44 _ (e12 l35 h38),u41 _ (e12 l35 h38)];exact q38) (nb (n22.trans l35) h38)
 refine hK cs s46 kk ⟨_,_,_,_,_,_,hcs,⟨?_,?_,?_,?_,⟨λr h=>(nomatch h),.inl ⟨rfl,rfl⟩⟩,⟨λr h=>(nomatch h),.inl ⟨rfl,rfl⟩⟩⟩⟩
 ·exact SlR.mk (n:=2) dE (t:=false) (e:=145) f5 rfl (by simp;decide)
 ·exact SlR.mk (n:=1) dE (t:=false) (e:=157) f9 rfl (by simp;decide)
 ·exact SlR.mk (n:=2) dE (t:=false) (e:=161) f19 rfl (by simp;decide)
 ·refine⟨[(.slc b24 0 1 (some 1) 1,.slc b27 0 2 (some 2) 1),(.slc b31 0 2 (some 2) 1,.slc b34 0 1 (some 1) 1)],SlR.mk (n:=2) sI (t:=false) (e:=163) f38 rfl sI,rfl,λi q x hq hx=>?_⟩
  match i with
  | 0=>cases hq;cases hx;exact⟨Sl.mk f24 rfl (by simp[TN.ix]),Sl.mk f27 rfl (by simp[TN.ix])⟩
  | 1=>cases hq;cases hx;exact⟨Sl.mk f31 rfl (by simp[TN.ix]),Sl.mk f34 rfl (by simp[TN.ix])⟩
  |i+2=>simp at hq
variable{h lk:Int}
theorem Qs(k:Sub r s)(z:Rt r p S)(hh:LS.Sli s hv [h])(hnow:0<=now/\now<=1099511627776)(hc:(owB L3 0 h=false/\e=2)∨(owB L3 0 h=true/\S.tk=true/\now<=S.la/\e=20))(hK:∀s',Sub s s'->K (.tup [.nilslc,e]) s'):wC TP 18 [Pp p,now,hv] K s:=by
 have ⟨st,rv0,rd,rt,wl,wm,d,f,lv,mv,uv,dv,zs,pt⟩:=z.ex;have zs':=zs.more k;have hp0:=zs'.sub (pC p 0 2 1 lv mv wm d f S.tk S.la uv dv) sI _ _ aP;have hl0:=pt.l.sub (zs'.sub st sI);refine Oj (cW rfl λbR s1 hbR h1 u1=>cW rfl λbn s2 hbn h2 u2=>cW hh.one λbh s3 hbh h3 u3=>?_);have k3:=((u1.sub hbR).trans (u2.sub hbn)).trans (u3.sub hbh);have hp:Hc s3 p 75 (roC ((0:Nat):Int) (lbk 0) 2 1 lv mv wm d f S.tk S.la uv dv):=k3 _ _ hp0;have hl3:=hl0.sub k3;have hR:=(u3.sub hbh) _ _ ((u2.sub hbn) _ _ h1);have hn:=(u3.sub hbh) _ _ h2;have hv3:=hh.sub k3;simp only[aj hR,g0Y,ae];refine cP hp ?_;have now0:decide (now<0)=false:=decide_eq_false oM;have now1:decide (now>1099511627776)=false:=decide_eq_false oM;have lenh:bp hv=some 1:=hv3.len;simp only[bD,Bool.not_true,ae,ay,aj hn,g0Y,aH,now0,bW,now1,v8,aS,aj h3,lenh,aK];refine⟨λys s1 n=>∃i:Nat,ys=[.nilslc,Ii 0,Ii i]/\s1=s3/\i<=1/\n=1-i/\(i=1->owB L3 0 h=true),⟨_,0,rfl,rfl,oM,rfl,λh=>(nomatch h)⟩,?_⟩;rintro g s1' n ⟨i,hy,rfl,hi,rfl,hoi⟩;simp only[cI,and_true]at hy;have ⟨y1,y2,y3⟩:=hy;rw[y1,y2,y3];simp only[CC,ae,aH];refine au (λhlt=>?_) (λhge=>?_)
 ·have hlt:i=0:=gR
  subst hlt;have ⟨q,g1,g2⟩:=LS.dK hv3 (k:=0) sI;have g2:rd1 s1' q=some h:=g2;simp only[g1,g2,ae,aj hR,g0Y,aO,ao,zAY];refine lQ hp hl3 ?_;simp only[bD,ae];rcases hc with⟨o,rfl⟩|⟨o,ht,hle,rfl⟩
  ·simp_all
  ·rw[show owB L3 ((0:Nat):Int) h=true from o,Bool.not_true,ay]
   simp only[bW,ae,show decide ((((0:Nat):Int))>0)=false from rfl,ay,o7,aS,aJ,aA];exact⟨_,oM,1,rfl,by trivial,oM,rfl,λ_=>o⟩
 ·have hi:i=1:=gR
  have o':=hoi hi;simp only[aj hR,g0Y,ae,aO,ao,zAY,aj hp,g1Y];rcases hc with⟨o,rfl⟩|⟨o,ht,hle,rfl⟩
  ·rw[o']at o;cases o
  rw[ht]at hp ⊢;simp only[aF,aj hn,g0Y,ae,eR]
  grind [lB,aU,bG,aF]
theorem JR{n q:Int}(k:Sub r s)(z:Rt r p S)(hv1:v.one=true)(ho:owB L3 0 lk=false)(hK:∀s',Sub s s'->K (.tup [.nilslc,Ii 2]) s'):wC TP 17 [Pp p,lk,LS.recV n q v] K s:=by
 have ⟨st,rv0,rd,rt,wl,wm,d,f,lv,mv,uv,dv,zs,pt⟩:=z.ex;have zs':=zs.more k;have hp0:=zs'.sub (pC p 0 2 1 lv mv wm d f S.tk S.la uv dv) sI _ _ aP;have hl0:=pt.l.sub (zs'.sub st sI);refine Ol (cW rfl λbR s1 hbR h1 u1=>cW rfl λbl s2 hbl h2 u2=>LS.box3 rfl rfl hv1 λbx s3 hbx h3 u3=>?_);have k3:=((u1.sub hbR).trans (u2.sub hbl)).trans (u3.sub hbx);have hp:Hc s3 p 75 (roC ((0:Nat):Int) (lbk 0) 2 1 lv mv wm d f S.tk S.la uv dv):=k3 _ _ hp0;have hR:=(u3.sub hbx) _ _ ((u2.sub hbl) _ _ h1);have hn:=(u3.sub hbx) _ _ h2;simp only[aj hR,g0Y,ae];refine cP hp ?_;simp only[bD,Bool.not_true,ae,ay,aj hR,aj hn,g0Y,aO,ao,zAY]
 grind [lQ,bD,bG,aF,SlR.sub]
theorem JS(hF:TN.FabR s cs FP)(hK:∀s',Sub s s'->K (.tup [.nilptr,Ii 2]) s'):wC TP 20 [.agg cs,Ii 3] K s:=by
 obtain⟨v2,v3,v4,v5,v6,v7,rfl,hL⟩:=id hF;have ones:=hL.all;have ⟨cs,hcs⟩:∃cs,cs=TN.csG FP v2 v3 v4 v5 v6 v7:=⟨_,rfl⟩
 have c0:cs[0]?=some (Ii 2):=by rw[hcs];rfl
 have c1:cs[1]?=some (Ii 1):=by rw[hcs];rfl
 have clen:cs.length=19:=by rw[hcs];rfl
 rw[<- hcs]at hF ones ⊢;refine CE ⟨ones,an λb0 s1 hb0 q1 u1=>?_⟩;have q1:Hc s1 b0 52 cs:=q1;have k1:=u1.sub hb0;refine am (aQ (n:=19) q1 clen) (TN.xe JO ti (hF.sub k1) (λ_ s4 k4=>?_) λh=>absurd JO h);have y0:∀a b c:AV,aN (.tup [a,b,c]) 0=some a:=λ_ _ _=>rfl;have y1:∀a b c:AV,aN (.tup [a,b,c]) 1=some b:=λ_ _ _=>rfl;have y2:∀a b c:AV,aN (.tup [a,b,c]) 2=some c:=λ_ _ _=>rfl;have e3:negB true (eqV 0 true (Ii 0) (Ii 0))=some (.bool false):=rfl;simp only[y0,y1,y2,e3,ae,ay,aH,show decide ((3:Int)<0)=false from rfl,ao,zAY,aj (k4 _ _ q1),c0,c1,aJ,show IntKind.i64.wrap (2+1)=3 from rfl,ci,show decide ((3:Int) ≥ 3)=true from rfl]
 grind [CD,aS,bG,aF,Sub.trans]
def C0:List AV:=[Ii 0,Ii 0,.nilslc,.nilslc,.nilslc,.nilslc,.nilslc,.nilslc,Ii 0,Ii 0,Ii 0,false,false,Ii 0,Ii 0,Ii 0,Ii 0,Ii 0,Ii 0]
def JT:Prop:=∀(K:AV->Hq->Prop) (s:Hq),(∀s' (e:Int) (p:ByteArray) (i:Int),Sub s s'->e≠0->K (.tup [e,.str p,i]) s')->wC TP 61 [.agg C0] K s
theorem JU(cb:JT)(hK:∀s',Sub s s'->K (.tup [.nilptr,Ii 3]) s'):wC TP 20 [.agg C0,Ii 0] K s:=by
 refine CE ⟨rfl,an λb0 s1 hb0 q1 u1=>?_⟩;have q1:Hc s1 b0 52 C0:=q1;have k1:=u1.sub hb0;refine am (aQ (n:=19) q1 rfl) (cb _ _ λs4 e p i k4 he=>?_);have y0:∀a b c:AV,aN (.tup [a,b,c]) 0=some a:=λ_ _ _=>rfl;have y1:∀a b c:AV,aN (.tup [a,b,c]) 1=some b:=λ_ _ _=>rfl;have y2:∀a b c:AV,aN (.tup [a,b,c]) 2=some c:=λ_ _ _=>rfl;have e3:negB true (eqV 0 true e (Ii 0))=some true:=by
  simp_all
 grind [bG,aF,Sub.trans]
def S0:Ro:=newG 3 L3 [true,true]
def S1:Ro:=gH 0 L3 S0 1 [0]
def S2:Ro:=gH 0 L3 S1 2 [0]
def S3:Ro:=fJ 3 0 L3 S2 (2,1,[0,1])
def S4:Ro:=fJ 3 0 L3 S3 (1,1,[1])
def S5:Ro:=fJ 3 0 L3 S4 (0,5,[])
def S6:Ro:=fJ 3 0 L3 S5 (2,1,[0])
def S7:Ro:=gH 0 L3 S6 5 []
theorem n0:d9 0 L3 S0 1 [0]=[]:=by decide +kernel
theorem n1:d9 0 L3 S1 2 [0]=[(0,(0,2,[0]))]:=by decide +kernel
theorem n2:eK 3 0 L3 S2 0 (2,1,[0,1])=[]:=by decide +kernel
theorem n3:eK 3 0 L3 S3 0 (1,1,[1])=[]:=by decide +kernel
theorem n4:eK 3 0 L3 S4 0 (0,5,[])=[(0,(0,6,[0]))]:=by decide +kernel
theorem n5:eK 3 0 L3 S5 0 (2,1,[0])=[(0,(2,1,[0,1]))]:=by decide +kernel
theorem n6:d9 0 L3 S6 5 []=[]:=by decide +kernel
theorem u1:ups [0] S1.W=[]:=by decide +kernel
theorem u2:S2.U=[false,false]:=by decide +kernel
theorem u4:S4.U=[true,true]:=by decide +kernel
theorem w4:ups [0] S4.W=[0]:=by decide +kernel
theorem w7:ups [0] S7.W=[]:=by decide +kernel
theorem wok{W:Nat->DT.Wt}{now:Int}(h:(decide (1<=(W 0).m/\(W 0).m<=1000/\0<=(W 0).changes/\(W 0).changes<=1000000000000)&&((W 0).heard.all λn=>decide (0<=n/\n<=1099511627776))&&decide (DT.fG (W 0) now=none))=true):∀n∈ownL L3 0,(W n).ok/\(0<=(W n).changes/\(W n).changes<=1000000000000)/\DT.fG (W n) now=none:=λn hn=>by
 have e:ownL L3 0=[0]:=by decide +kernel
 rw[e]at hn;rcases mem_singleton.1 hn with rfl;simp only[Bool.and_eq_true,decide_eq_true_eq]at h;have ⟨⟨⟨a,b,c,d⟩,f⟩,g⟩:=h;refine⟨⟨a,b,λn hn=>?_⟩,⟨c,d⟩,g⟩
 grind
theorem gJ:∀{F:List (Int×LS.Rec)},(∀x∈F,x.2.2.2.Pairwise (· < ·))->LS.AscF F
 |[],_=>λk r h=>by cases h
 | x::F,h=>λk r hk=>by
   rw[jl]at hk;split at hk
   ·grind
   ·exact gJ (gR) k r hk
theorem t0:TkP 0 L3 S0 1 [0]:=⟨wok (by decide +kernel),dE,λh=>(nomatch h),by decide +kernel,by decide +kernel,dE,by decide +kernel,dE,gJ (by decide +kernel),by decide +kernel,by decide +kernel⟩
theorem t1:TkP 0 L3 S1 2 [0]:=⟨wok (by decide +kernel),dE,λ_=>by decide +kernel,by decide +kernel,by decide +kernel,dE,by decide +kernel,dE,gJ (by decide +kernel),by decide +kernel,by decide +kernel⟩
theorem t6:TkP 0 L3 S6 5 []:=⟨wok (by decide +kernel),dE,λ_=>by decide +kernel,by decide +kernel,by decide +kernel,dE,by decide +kernel,dE,gJ (by decide +kernel),by decide +kernel,by decide +kernel⟩
theorem v2:RvP 3 0 L3 S2 0 (2,1,[0,1]):=⟨by decide +kernel,by decide +kernel,by decide +kernel,dE,by decide +kernel,gJ (by decide +kernel)⟩
theorem v3:RvP 3 0 L3 S3 0 (1,1,[1]):=⟨by decide +kernel,by decide +kernel,by decide +kernel,dE,by decide +kernel,gJ (by decide +kernel)⟩
theorem v4:RvP 3 0 L3 S4 0 (0,5,[]):=⟨by decide +kernel,by decide +kernel,by decide +kernel,dE,by decide +kernel,gJ (by decide +kernel)⟩
theorem v5:RvP 3 0 L3 S5 0 (2,1,[0]):=⟨by decide +kernel,by decide +kernel,by decide +kernel,dE,by decide +kernel,gJ (by decide +kernel)⟩
variable{B:Hq}{b:Nat}
structure At(B s:Hq)(p:Nat)(S:Ro)(r:Hq):Prop where
 z:Rt r p S
 k:Sub r s
 o:Sub B (rest s r)
theorem At.up(h:At B s p S r)(k:Sub s s'):At B s' p S r:=⟨h.z,h.k.trans k,h.o.trans (fw k)⟩
theorem iP(k:Sub r s){e:TypeId}{n:Nat}{c:Option Nat}(hb:s b=none)(h:Hc s' b e (l.map (AV.int .i64)))(hn:n=l.length)(hc:∀c',c=some c'->l.length<=c'):LS.Sli (rest s' r) (.slc b 0 n c 1) l:=by subst hn;have:=Sl.mk (s:=rest s' r) (b:=b) (t:=false) (e:=e) (l:=l.map (AV.int .i64)) (xY k hb h) rfl (cap:=c) (by simpa using hc);simpa using this
theorem jZ(h:At B s p S r){now:Int}(T:TkP 0 L3 S now l)(hh:LS.Sli (rest s r) hv l)(hw:Wnt (rest s r) w (d9 0 L3 S now l))(hK:∀r' s',At B s' p (gH 0 L3 S now l) r'->K true s'):wC TP 19 [Pp p,now,hv,w] K s:=
 JF h.k h.z T hh hw λr' s' z k o=>hK r' s' ⟨z,k,h.o.trans o⟩
theorem iv(h:At B s p S r){rc:LS.Rec}(T:RvP 3 0 L3 S 0 rc)(hh:LS.Sli (rest s r) hv rc.2.2)(hw:Wnt (rest s r) w (eK 3 0 L3 S 0 rc))(hK:∀r' s',At B s' p (fJ 3 0 L3 S rc) r'->K true s'):wC TP 15 [Pp p,LS.recV rc.1 rc.2.1 hv,w] K s:=
 JG h.k h.z T hh hw λr' s' z k o=>hK r' s' ⟨z,k,h.o.trans o⟩
theorem new1{a:Int}{K:Nat->Hq->Prop}(h:∀b s',s b=none->Hc s' b 3 ([a].map (AV.int .i64))->Upto b s s'->K b s'):oK (aq (repl 1 [(Ii 0)]) [(0,1,a)]) λc=>aD c=true/\newK 3 c K s:=
 am (a:=[a]) rfl ⟨rfl,an h⟩
theorem new2{a c:Int}{K:Nat->Hq->Prop}(h:∀b s',s b=none->Hc s' b 3 ([a,c].map (AV.int .i64))->Upto b s s'->K b s'):oK (aq (repl 2 [(Ii 0)]) [(0,1,a),(1,1,c)]) λc=>aD c=true/\newK 3 c K s:=
 am (a:=[a,c]) rfl ⟨rfl,an h⟩
theorem newW(h1:v.one=true){a q:Int}{K:Nat->Hq->Prop}(h:∀b s',s b=none->Hc s' b 34 [a,q,v]->Upto b s s'->K b s'):oK (aq (repl 1 [(Ii 0),(Ii 0),.nilslc]) [(0,3,LS.recV a q v)]) λc=>aD c=true/\newK 34 c K s:=
 am (a:=[a,q,v]) rfl (by simp_all [an])
theorem tu{s:Hq}:LS.Sli s .nilslc []:=.inl ⟨rfl,rfl⟩
theorem Qt(hK:∀p r s',At s s' p S4 r->K (Pp p) s'):wC TP 8 [] K s:=by
 refine YP (tj λcs s1 k1 hF=>rR (M:=[true,true]) (N:=3) (x:=0) JO ti JP hF pln3 oM (λ_=>⟨rfl,JQ⟩) λp r s3 z k3 kr dj=>?_);have a3:At s s3 p S0 r:=⟨z,kr,λi e hi=>by
  have h1:=k1 _ _ hi;have hr:r i=none:=by
   grind
  unfold rest;rw[if_pos hr];exact k3 _ _ h1⟩
 have x0:∀a b:AV,aN (.tup [a,b]) 0=some a:=λ_ _=>rfl;have x1:∀a b:AV,aN (.tup [a,b]) 1=some b:=λ_ _=>rfl;have e3:negB true (eqV 0 true (Ii 0) (Ii 0))=some false:=rfl;have e4:negB false (eqV 3 true (Pp p) .nilptr)=some false:=rfl;simp only[x0,x1,e3,e4,ae,C6];refine new1 λb5 s5 hb5 q5 u5=>?_;have a5:=a3.up (u5.sub hb5);refine jZ a5 t0 (iP a3.k hb5 q5 rfl sI) (by rw[n0];exact Wnt.nil) λr6 s6 a6=>?_;simp only[bD,Bool.not_true,ae,C5,aS,ay];have a6:At s s6 p S1 r6:=a6;refine iL a6.k a6.z (by decide +kernel) λs7 v7 k7 h7=>?_;have a7:=a6.up k7;rw[u1]at h7;have l7:bp v7=some 0:=h7.len;simp only[l7,ae,show negB true (eqV 0 true ((0:Nat):Int) (Ii 0))=some false from rfl,C4,aS];refine new1 λb8 s8 hb8 q8 u8=>new1 λb9 s9 hb9 q9 u9=>iO rfl λs10 k10=>newW rfl λb11 s11 hb11 q11 u11=>?_;have a8:=a7.up (u8.sub hb8);have a9:=a8.up (u9.sub hb9);have a10:=a9.up k10;have a11:=a10.up (u11.sub hb11);have h8:=iP a7.k hb8 q8 (n:=1) (c:=some 1) rfl sI;have h9:=iP a8.k hb9 q9 (n:=1) (c:=some 1) rfl sI;refine jZ a11 t1 (h8.sub (fw (((u9.sub hb9).trans k10).trans (u11.sub hb11)))) (by rw[n1];exact Wnt.one (xY a10.k hb11 q11) ((by grind [fw,Sl.sub,Sub.trans,Upto.sub])) sI) λr12 s12 a12=>?_;have a12:At s s12 p S2 r12:=a12;simp only[bD,Bool.not_true,ae,C3,aS,ay];refine Qr a12.k a12.z λs13 v13 dd k13 hd h13=>?_;have a13:=a12.up k13;have e13:rrow dd 3=[]:=by
  rw[u2]at hd;have no:∀n,n<3->n≠0->¬ 0<=dd n:=λn hn h0 h=>by
   have ⟨i,m,c,e,_⟩:=hd.sup n hn h h0;have e:=e.1
   grind
  rw[iu,iu,iu,if_neg (λh=>h.1 rfl),if_neg ((by simp_all)),if_neg ((by simp_all))];rfl
 rw[e13]at h13;have l13:bp v13=some 0:=h13.len;simp only[l13,ae,show negB true (eqV 0 true ((0:Nat):Int) (Ii 0))=some false from rfl,C2,aS];refine new2 λb14 s14 hb14 q14 u14=>iO rfl λs15 k15=>?_;have h14:=iP a13.k hb14 q14 (n:=2) (c:=some 2) rfl sI;have a15:=(a13.up (u14.sub hb14)).up k15;refine iv a15 v2 (h14.sub (fw k15)) (by rw[n2];exact Wnt.nil) λr16 s16 a16=>?_;have a16:At s s16 p S3 r16:=a16;simp only[bD,Bool.not_true,ae,C1,aS,ay];refine new1 λb17 s17 hb17 q17 u17=>iO rfl λs18 k18=>?_;have h17:=iP a16.k hb17 q17 (n:=1) (c:=some 1) rfl sI;have a18:=(a16.up (u17.sub hb17)).up k18;refine iv a18 v3 (h17.sub (fw k18)) (by rw[n3];exact Wnt.nil) λr19 s19 a19=>?_;simp only[bD,Bool.not_true,ae,CZ,aS,ay,wN];exact hK p r19 s19 a19
variable{d:Nat→Int}
theorem ZI(h:IsDist 3 G3 U3 1 d):d 0=2/\d 1=0/\d 2=1:=by
 have a:=h.fr;have b:=h.clo _ _ _ _ ed31.sym oM;have c:=h.clo _ _ _ _ ed30 oM;have ⟨i,m,k,e,p,q⟩:=h.sup 2 oM b.1 dE;have ⟨i',m',k',e',p',q'⟩:=h.sup 0 oM c.1 dE
 grind [ed3]
theorem lnk1:FB.lnk 3 G3 U3 0 1=[0]:=by
 have ⟨z,hG,hN,hC,hm⟩:=vld3.gok;have ⟨a,b,c⟩:=ZI (pI (N:=3) (G:=G3) (U:=U3) (r:=1) z oM oM);have e0:edL G3 U3 0=[(0,2,1)]:=rfl
 simp_all [FB.lnk,nrL,dr]
theorem nd1:1∈FB.ndL 3 G3 U3 0:=(by grind [FB.fX,lnk1])
abbrev PkA(s:Hq)(p:Nat)(g ttl fr:Int)(R:Hq->AV->Prop):Prop:=∀K':AV->Hq->Prop,(∀s' v,Sub s s'->R s' v->K' v s')->wC TP 23 [Pp p,.agg (pk g ttl),fr] K' s
theorem tx(k:Sub r s)(z:Rt r p S)(hU:S.U=U3){g:Int}(hg:0<=g/\g<4000000000)(h0:g≠lbk 0)(ht:0<=ttl/\ttl<=100)(hc:(ttl<2/\e=20)∨(2<=ttl/\(∀m,m<3->g≠lbk m)/\e=13)):
  PkA s p g ttl (-1) λ_ v=>v=.tup [.nilslc,false,e]:=λK' hK=>by
 refine lY pln3 oM k z pkP rfl ⟨oM,oM⟩ ⟨oM,oM⟩ (.inl rfl) (λh=>absurd h h0) (λ_ s' e' k' _ h=>?_) (λm _ h2 hm hd s' b hop k' _ _ _=>?_) (.inl λj _=>oM)
 ·have:e'=e:=by
   rcases h with⟨a,b⟩|⟨a,b,c⟩<;>rcases hc with⟨x,y⟩|⟨x,_,y⟩
   ·rw[a,y]
   ·omega
   ·omega
   ·rw[a,y]
  rw[this];exact hK s' _ k' rfl
 ·rcases hc with⟨x,y⟩|⟨x,y,_⟩
  ·omega
  ·exact absurd hd (y m (FB.fX.1 hm).1)
theorem JV(k:Sub r s)(z:Rt r p S)(hU:S.U=U3):PkA s p (lbk 1) 9 (-1) λs' v=>∃v',v=.tup [v',false,Ii 0]/\SlR 22 s' v' [Ii 0::(pk (lbk 1) 9).set 2 (Ii 8)]:=λK' hK=>by
 refine lY pln3 oM k z pkP rfl ⟨oM,oM⟩ dE (.inl rfl) (λh=>absurd h dE) (λ_ s' e' k' _ h=>?_) (λm _ h2 hm hd s' b hop k' _ hh hb=>?_) ((by grind [lbk]))
 ·exfalso
  rcases h with⟨a,b⟩|⟨a,b,c⟩
  ·omega
  ·rw[hU]at c
   exact c 1 nd1 rfl
 ·have:m=1:=by unfold lbk at hd;omega
  subst this;rw[hU,show FB.lnk 3 (tL L3) U3 0 1=[0]from lnk1]at hh;have:hop=0:=mem_singleton.1 hh;subst this;exact hK s' _ k' ⟨_,rfl,SlR.mk (rows:=[Ii 0::(pk (lbk 1) 9).set 2 (Ii 8)]) (λr h=>by rw[mem_singleton.1 h];rfl) (t:=false) (e:=121) (by rw[hb];simp) rfl sI⟩
theorem JW(k:Sub r s)(z:Rt r p S):PkA s p (lbk 0) 9 0 λ_ v=>v=.tup [.nilslc,true,Ii 0]:=λK' hK=>by refine lY pln3 oM k z pkP rfl ⟨oM,oM⟩ dE (.inr dE) (λ_ s' k'=>hK s' _ k' rfl) (λh=>absurd rfl h) (λm h=>absurd rfl h) ((by grind [lbk]))
theorem j9(k:Sub r s)(z:Rt r p S)(hU:S.U=U3)(hM:S.M=[true,true]){j:Nat}(hj:j<2)(hf:fr=-1∨fr=0):PkA s p (4009754625+(j:Int)) 9 fr λs' v=>(fr=-1/\∃v',v=.tup [v',false,Ii 0]/\SlR 22 s' v' [Ii 0::(pk (4009754625+(j:Int)) 9).set 2 (Ii 8)])∨(fr=0/\∃v',v=.tup [v',true,Ii 0]/\bp v'=some 0):=λK' hK=>by
 have x0:∀a b c:AV,aN (.tup [a,b,c]) 0=some a:=λ_ _ _=>rfl;have x1:∀a b c:AV,aN (.tup [a,b,c]) 1=some b:=λ_ _ _=>rfl;have x2:∀a b c:AV,aN (.tup [a,b,c]) 2=some c:=λ_ _ _=>rfl;refine lY pln3 oM k z pkP rfl ⟨oM,oM⟩ ⟨oM,oM⟩ (hf.imp id λh=>by rw[h];decide) (λh=>by unfold lbk at h;omega) (λ_ s' e' k' hno h=>?_) (λm _ h2 hm hd=>?_) (.inr ⟨by rw[hM];decide,λj' s1 w lv uv l hj' hd k1 hl hu hm hlen h0=>?_⟩)
 ·grind
 ·grind [FB.fX,lbk]
 ·rw[hU]at hu
  refine JD hf hl hu hm hlen h0 rfl rfl rfl rfl (λhf v s' k' hv=>?_) λhf v s' k' hv=>?_
  ·simp only[trip,x0,x1,x2,ae]
   grind [Sub.trans]
  ·simp only[trip,x0,x1,x2,ae]
   grind [Sub.trans]
theorem JX(k:Sub r s)(z:Rt r p S)(hM:S.M=[true,true])(hU:S.U=U3):PkA s p 4009754627 9 (-1) λ_ v=>v=.tup [.nilslc,false,Ii 13]:=λK' hK=>by
 refine lY pln3 oM k z pkP rfl ⟨oM,oM⟩ dE (.inl rfl) (λh=>absurd h dE) (λ_ s' e' k' _ h=>?_) (λm _ h2 hm hd=>?_) (.inr ⟨by rw[hM];decide,λj' s1 w lv uv l hj' hd=>?_⟩)
 ·rcases h with⟨a,b⟩|⟨a,b,c⟩
  ·omega
  ·rw[a];exact hK s' _ k' rfl
 ·have:=(FB.fX.1 hm).1
  unfold lbk at hd;omega
 ·rw[hM]at hj'
  have:j'<2:=hj';omega
theorem tz{g:Int}(h:At B s p S r)(hp:PkA s p g ttl fr λ_ v=>∃v',v=.tup [v',lo,e]/\bp v'=some 0)(hK:∀s',At B s' p S r->K true s'):wC TP 12 [Pp p,Iw g,ttl,fr,false,lo,e] K s:=
 (by grind [JK,At.up])
theorem JY{g:Int}(h:At B s p S r)(hp:PkA s p g 9 fr λs' v=>∃v',v=.tup [v',false,Ii 0]/\SlR 22 s' v' [Ii 0::(pk g 9).set 2 (Ii 8)])(he:cZ TP 121 (.agg (Ii 0::pk g 8)) (.agg (Ii 0::pk g 8))=some true)(hK:∀s',At B s' p S r->K true s'):wC TP 12 [Pp p,Iw g,Ii 9,fr,true,false,Ii 0] K s:=
 (by grind [JL,At.up])
theorem PkA.nil{g:Int}(h:PkA s p g ttl fr λ_ v=>v=.tup [.nilslc,lo,e]):PkA s p g ttl fr λ_ v=>∃v',v=.tup [v',lo,e]/\bp v'=some 0:=λK' hK=>h K' λs' v k e=>hK s' v k ⟨_,e,rfl⟩
theorem lp1:lbk 1=184483842:=dE
theorem JZ(hK:∀s',Sub s s'->K true s'):wC TP 22 [] K s:=by
 refine YR (Qt λp r s1 a1=>?_);have e4:negB true (eqV 3 true (Pp p) .nilptr)=some true:=rfl;simp only[e4];refine Qr a1.k a1.z λs2 v2 dd k2 hd h2=>jY (n:=1) oM (am (a:=[Iw (lbk 1),Ii 2]) rfl (jY (n:=2) oM (am (a:=[Iw (lbk 2),Ii 1]) rfl (am (a:=[Iw (lbk 1),Ii 2,Iw (lbk 2),Ii 1]) rfl ⟨rfl,an λb s3 hb q3 u3=>?_⟩))));have a2:=a1.up k2;have a3:=a2.up (u3.sub hb);rw[u4]at hd;have ⟨d0,d1,d2⟩:=sZ hd;have er:rrow dd 3=[[Iw (lbk 1),Ii 2],[Iw (lbk 2),Ii 1]]:=by rw[iu,iu,iu,if_neg (λh=>h.1 rfl),if_pos ⟨oM,oM⟩,if_pos ⟨oM,oM⟩,d1,d2];rfl
 rw[er]at h2;refine JI (h2.sub (u3.sub hb)) (SlR.mk (n:=2) dE (t:=false) (e:=105) q3 rfl sI) dE (λr hr=>?_) ?_
 ·rcases mCY hr with rfl|hr
  ·kernel_rfl
  ·rcases mem_singleton.1 hr with rfl
   kernel_rfl
 simp only[Da,aU,ae,aF];refine JN a3.k a3.z (by rw[u4];simp) (by rw[u4];decide) λs4 v4 k4 h4=>?_;have a4:=a3.up k4;rw[u4]at h4;refine am (a:=[true,true]) rfl ⟨rfl,an λb5 s5 hb5 q5 u5=>JJ (h4.sub (u5.sub hb5)) (Sl.mk q5 rfl sI) dE ?_⟩;have a5:=a4.up (u5.sub hb5);simp only[C9,aU,ae,aF];refine jY (n:=1) oM (JY a5 (JV a5.k a5.z u4) kR λs6 a6=>?_);simp only[C8,aU,ae,aF];refine jY (n:=0) oM (tz a6 (JW a6.k a6.z).nil λs7 a7=>?_);simp only[C7,aU,ae];exact hK s7 λi e hi=>a7.o.trans (λi e h=>by unfold rest at h;split at h;exact h;cases h) i e hi
theorem J0(cb:JT):xR:=λK s hK=>by
 refine Y1 (Qt λp r s1 a1=>?_);have e4:negB false (eqV 3 true (Pp p) .nilptr)=some false:=rfl;simp only[e4,wS];refine JM a1.k a1.z λs2 v2 k2 h2=>new1 λb3 s3 hb3 q3 u3=>?_;have a3:=(a1.up k2).up (u3.sub hb3);refine LS.xf (h2.sub (u3.sub hb3)) (l:=[0]) (m:=[0]) (Sl.mk q3 rfl sI) sI ?_;rw[beq_self_eq_true,aF];refine iL a3.k a3.z (by decide +kernel) λs4 x4 k4 h4=>new1 λb5 s5 hb5 q5 u5=>?_;have a5:=(a3.up k4).up (u5.sub hb5);rw[w4]at h4;refine LS.xf (h4.sub (u5.sub hb5)) (l:=[0]) (m:=[0]) (Sl.mk q5 rfl sI) sI ?_;rw[beq_self_eq_true];simp only[Du,aU,ae,aF];refine jY (n:=8) oM (tz a5 (tx a5.k a5.z u4 dE dE oM (.inr ⟨oM,dE,rfl⟩)).nil λs6 a6=>?_);simp only[Dt,aU,ae,aF];refine jY (n:=1) oM (tz a6 (tx a6.k a6.z u4 dE dE oM (.inl ⟨oM,rfl⟩)).nil λs7 a7=>?_);simp only[Ds,aU,ae,wR];refine rU (n:=0) oM (JY a7 (λK' hK'=>j9 a7.k a7.z u4 rfl (j:=0) oM (.inl rfl) K' λs' v k h=>?_) kR λs8 a8=>?_)
 ·grind
 simp only[aF];refine rU (n:=0) oM (tz a8 (λK' hK'=>j9 a8.k a8.z u4 rfl (j:=0) oM (.inr rfl) K' λs' v k h=>?_) λs9 a9=>?_)
 ·grind
 simp only[Dr,aU,ae,aF];refine rU (n:=1) oM (JY a9 (λK' hK'=>j9 a9.k a9.z u4 rfl (j:=1) oM (.inl rfl) K' λs' v k h=>?_) kR λs10 a10=>?_)
 ·grind
 simp only[Dq,aU,ae,aF];refine rU (n:=2) oM (tz a10 (JX a10.k a10.z rfl u4).nil λs11 a11=>?_);simp only[Dp,aU,ae,wQ];refine iO rfl λs12 k12=>new1 λb13 s13 hb13 q13 u13=>iO rfl λs14 k14=>newW rfl λb15 s15 hb15 q15 u15=>?_;have a12:=a11.up k12;have a14:=(a12.up (u13.sub hb13)).up k14;have a15:=a14.up (u15.sub hb15);have h13:=iP a12.k hb13 q13 (n:=1) (c:=some 1) rfl sI;refine iv a15 (rc:=(0,5,[])) v4 tu (by rw[n4];exact Wnt.one (xY a14.k hb15 q15) ((by grind [fw,Sl.sub,Sub.trans,Upto.sub])) sI) λr16 s16 a16=>?_;have a16:At s s16 p S5 r16:=a16;simp only[aF];refine new1 λb17 s17 hb17 q17 u17=>iO rfl λs18 k18=>new2 λb19 s19 hb19 q19 u19=>iO rfl λs20 k20=>newW rfl λb21 s21 hb21 q21 u21=>?_;have a17:=a16.up (u17.sub hb17);have a18:=a17.up k18;have a20:=(a18.up (u19.sub hb19)).up k20;have a21:=a20.up (u21.sub hb21);have h17:=iP a16.k hb17 q17 (n:=1) (c:=some 1) rfl sI;have h19:=iP a18.k hb19 q19 (n:=2) (c:=some 2) rfl sI;refine iv a21 (rc:=(2,1,[0])) v5 (h17.sub (fw (((k18.trans (u19.sub hb19)).trans k20).trans (u21.sub hb21)))) (by rw[n5];exact Wnt.one (xY a20.k hb21 q21) ((by grind [fw,Sl.sub,Sub.trans,Upto.sub])) sI) λr22 s22 a22=>?_;have a22:At s s22 p S6 r22:=a22;simp only[Do,aU,ae,wP];have x0:∀a b:AV,aN (.tup [a,b]) 0=some a:=λ_ _=>rfl;have x1:∀a b:AV,aN (.tup [a,b]) 1=some b:=λ_ _=>rfl;refine iO rfl λs23 k23=>JR (a22.k.trans k23) a22.z rfl dE λs24 k24=>?_;have a24:=(a22.up k23).up k24;simp only[x0,x1,ae];refine new1 λb25 s25 hb25 q25 u25=>?_;have a25:=a24.up (u25.sub hb25);refine Qs (h:=0) (e:=20) a25.k a25.z (Sl.mk q25 rfl sI) dE (.inr ⟨dE,by decide +kernel,by decide +kernel,rfl⟩) λs26 k26=>?_;have a26:=a25.up k26;simp only[x0,x1,ae];refine new1 λb27 s27 hb27 q27 u27=>?_;have a27:=a26.up (u27.sub hb27);refine Qs (h:=1) (e:=2) a27.k a27.z (Sl.mk q27 rfl sI) dE (.inl ⟨dE,rfl⟩) λs28 k28=>?_;have a28:=a27.up k28;simp only[x0,x1,ae,aR,aG,beq_self_eq_true,Bool.false_bne,aF,Dm,aU,Dl];refine jZ a28 t6 tu (by rw[n6];exact Wnt.nil) λr29 s29 a29=>?_;have a29:At s s29 p S7 r29:=a29;simp only[Dk,aU,ae,aF];refine iL a29.k a29.z (by decide +kernel) λs30 v30 k30 h30=>?_;have a30:=a29.up k30;rw[w7]at h30;have l30:bp v30=some 0:=h30.len;simp only[l30,ae,show negB false (eqV 0 true ((0:Nat):Int) (Ii 0))=some (.bool true)from rfl,Di,aU,wO];have y0:∀a b c:AV,aN (.tup [a,b,c]) 0=some a:=λ_ _ _=>rfl;refine am (a:=C0) rfl (JU cb λs31 k31=>?_);simp only[x0,x1,ae];refine tj λcs s32 k32 hF=>JS hF λs33 k33=>?_;simp only[x0,x1,ae];refine JZ λs34 k34=>?_;simp only[aF,Dh,Dg,Df,De,Dd,Dc,aU,ae,aR,aG,beq_self_eq_true,Bool.false_bne];exact hK s34 λi e hi=>k34 _ _ (k33 _ _ (k32 _ _ (k31 _ _ ((a30.o.trans (λi e h=>by unfold rest at h;split at h;exact h;cases h)) i e hi))))
end Go.AM.RT
namespace Go.AM
open Go Go.Proofs List Nat
def sL:Code->Code
 | .seq a _=>a
 |c=>c
def sR:Code->Code
 | .seq _ b=>b
 |c=>c
def cT:Code->Code
 | .cond _ a _=>a
 |c=>c
def bI:Code->Code
 | .block _ b=>b
 | .loop b=>b
 |c=>c
def rO:Code->Array Oper
 | .region _ o _=>o
 |_=>#[]
abbrev flF(e i:Int)(p:ByteArray):AV:=.ifc 235 (.agg [e,.str p,i])
noncomputable abbrev c176:Code:=aI Tryz.f176
theorem J1{e i:Int}{p:ByteArray}{R:AV->Hq->Prop}{s:Hq}(hR:R (flF e i p) s):fc TP 176 [true,e,.str p,i] R s:=by refine Lp Tryz.func176 (by kernel_rfl:Tryz.f176.body=some (.seq (sL c176) (.cond (.tmp 8) (.region 1 (rO (cT (sR c176))) false) .skip))) kR ?_;refine DieC.then (λ_=>[]) kR (K:=λenv s'=>s'=s/\env=upd (d7 [true,e,.str p,i]) 8 true) (Eq.mpr (by kernel_rfl:_=(s=s/\upd (d7 [true,e,.str p,i]) 8 true=upd (d7 [true,e,.str p,i]) 8 true)) ⟨rfl,rfl⟩) ?_;rintro env s' ⟨rfl,rfl⟩;refine DieC.cond (b:=true) rfl rfl ?_;rw[if_pos rfl];refine DieC.last (l:=(rO (cT (sR c176))).toList.dropLast) (o:=⟨none,.panic (.tmp 13),0,"check.go:39",#[⟨4,.data⟩],none⟩) kR rfl kR (K:=λenv s2=>env 13=flF e i p/\s2=s') (Eq.mpr (by kernel_rfl:_=(flF e i p=flF e i p/\s'=s')) ⟨rfl,rfl⟩) ?_;rintro env s ⟨h1,rfl⟩;exact DieO.panic rfl rfl h1 hR
open RT in
theorem ZJ{c:Nat}{t:Bool}{R:AV->Hq->Prop}{s:Hq}(hc:s c=some (t,.cells 238 C0))(hR:∀s',Sub s s'->R (flF 2 0 ⟨#[102,97,98,114,105,99]⟩) s'):fc TP 145 [.ptr c 0] R s:=by
 obtain⟨cd,hcd⟩:∃cd,cd=aI Tryz.f145:=⟨_,rfl⟩
 refine Lp Tryz.func145 (by kernel_rfl:Tryz.f145.body=some (.seq (sL (aI Tryz.f145)) (.seq (.region 1 (rO (sL (sR (aI Tryz.f145)))) false) (sR (sR (aI Tryz.f145)))))) (by kernel_rfl) ?_;obtain⟨K1,hK1⟩:∃K1:Env->Hq->Prop,K1=λenv s'=>∃b,env 2=.ptr b 0/\s' b=some (false,.cells 52 C0)/\Sub s s':=⟨_,rfl⟩
 refine DieC.then (λ_=>[]) (by kernel_rfl) (K:=λenv s'=>∃b,env 2=.ptr b 0/\s' b=some (false,.cells 52 C0)/\Sub s s') (Eq.mpr (by kernel_rfl:_=(oK (cJ (.ptr c 0)) λv_0=>oK (cO 0 v_0) λv_1=>oK (rdN s 19 v_1) λv_2=>newK 52 C0 (λb_3 s_4=>oK (cn s_4 19 (.ptr b_3 0) (.agg v_2)) λs_5=>∃b,AV.ptr b_3 0=.ptr b 0/\s_5 b=some (false,.cells 52 C0)/\Sub s s_5) s)) ?_) ?_
 ·simp only[aO,ao,zAY,ae]
  refine am (aQ (n:=19) hc rfl) (an λb s1 hb h1 u1=>aZ h1 rfl rfl rfl λs2 h2 u2=>⟨b,rfl,h2,λi e hi=>?_⟩);have hne:=cx hb hi;rw[u2 i hne,u1 i hne];exact hi
 rintro env s1 ⟨b,e2,h1,k1⟩;refine DieC.left (DieC.last (l:=(rO (sL (sR (aI Tryz.f145)))).toList.dropLast) (o:=⟨some 15,.call ⟨.value (.func 176),#[.tmp 14,.const (.int .i64 2),.const (.string ⟨#[102,97,98,114,105,99]⟩),.const (.int .i64 0)],#[4,31,9,3]⟩,0,"check.go:65",#[⟨7,.data⟩,⟨6,.chain⟩],none⟩) (by kernel_rfl) rfl (by kernel_rfl) (K:=λenv s'=>env 14=.bool true/\Sub s s') ?_ ?_)
 ·refine Eq.mpr (by kernel_rfl:_=(oK (cO 0 (env 2)) λv_6=>oK (rd1 s1 v_6) λv_7=>wC TP 177 [v_7,(.int .i64 1),(.int .i64 32)] (λv_8 s_9=>ai v_8 (oK (bK v_8 (.bool true) .undef) λv_10=>v_10=.bool true/\Sub s s_9) (oK (cO 1 (env 2)) λv_37=>oK (rd1 s_9 v_37) λv_38=>wC TP 177 [v_38,(.int .i64 0),(.int .i64 32)] (λv_39 s_40=>oK (bK v_8 (.bool true) v_39) λv_10=>v_10=.bool true/\Sub s s_40) s_9)) s1)) ?_
  rw[e2];have r0:C0[0]?=some (.int .i64 0):=rfl;simp only[ao,zAY,ae,aj h1,r0];refine TN.dQ ?_;rw[show TN.outB 0 1 32=true from rfl,aF];simp only[aU,ae,true_and];exact k1
 rintro env s2 ⟨e14,k2⟩;refine DieO.call (c:=⟨.value (.func 176),#[.tmp 14,.const (.int .i64 2),.const (.string ⟨#[102,97,98,114,105,99]⟩),.const (.int .i64 0)],#[4,31,9,3]⟩) (f:=.func 176) (k:=176) rfl rfl rfl rfl (by kernel_rfl) ?_;show fc TP 176 [env 14,.int .i64 2,.str ⟨#[102,97,98,114,105,99]⟩,.int .i64 0] _ s2;rw[e14];exact J1 (hR s2 k2)
theorem J2{b2 b4 b6:Nat}{e i:Int}{p:ByteArray}{Q:Hq->Prop}{s:Hq}{x2 x4 x6:AV}(h2:Hc s b2 31 [x2])(h4:Hc s b4 9 [x4])(h6:Hc s b6 3 [x6])(n24:b2≠b4)(n26:b2≠b6)(n46:b4≠b6)
  (hQ:∀s',Hc s' b2 31 [e]->Hc s' b4 9 [.str p]->Hc s' b6 3 [i]->aB (λj=>j=b2∨j=b4∨j=b6) s s'->Q s'):gW TP 115 [Pp b2,Pp b4,Pp b6] (flF e i p) Q s:=by
 refine Rp Mi Tryz.func115 (o:=⟨some 6,.call ⟨.builtin .recover,#[],#[]⟩,20,"tenant.go:15",#[],none⟩) (id:=0) (tm:=6) (rest:=sR (aI Tryz.f115)) kR rfl ⟨rfl,rfl,_,rfl⟩ kR kR kR (Eq.mpr (by kernel_rfl:_=(oK (negB false (eqV 4 true (flF e i p) .nilIface)) λv_0=>
 ai v_0
  (Q s)
  (oK (gq 235 (some (.agg [(Ii 0),(.str ⟨#[]⟩),(Ii 0)])) true (flF e i p)) λv_1=>
   oK (aN v_1 1) λv_2=>
   oK (aN v_1 0) λv_3=>
   ai v_2
    (newK 235 [(Ii 0),(.str ⟨#[]⟩),(Ii 0)] (λb_4 s_5=>
     oK (cn s_5 3 (Pp b_4) v_3) λs_6=>
     ∃h_7:Hq,Sub h_7 s_6/\
     oK (cO 0 (Pp b_4)) λv_8=>
     oK (rd1 h_7 v_8) λv_9=>
     oK (cO 1 (Pp b_4)) λv_10=>
     oK (rd1 h_7 v_10) λv_11=>
     oK (cO 2 (Pp b_4)) λv_12=>
     oK (rd1 h_7 v_12) λv_13=>
     oK (wr1 (lock s_6 h_7) (Pp b2) v_9) λs_14=>
     oK (wr1 s_14 (Pp b4) v_11) λs_15=>
     oK (wr1 (add h_7 s_15) (Pp b6) v_13) λs_16=>
     Q s_16) s)
    (oK (wr1 s (Pp b2) (Ii 3)) λs_17=>
     oK (wr1 s_17 (Pp b4) (.str ⟨#[102,97,98,114,105,99]⟩)) λs_18=>
     oK (wr1 s_18 (Pp b6) (Ii 0)) λs_19=>
     Q s_19)))) ?_)
 have ev:eqV 4 true (flF e i p) .nilIface=some false:=rfl;have ta:gq 235 (some (.agg [(Ii 0),(.str ⟨#[]⟩),(Ii 0)])) true (flF e i p)=some (.tup [.agg [e,.str p,i],true]):=kR;have x0:∀a b:AV,aN (.tup [a,b]) 0=some a:=λ_ _=>rfl;have x1:∀a b:AV,aN (.tup [a,b]) 1=some b:=λ_ _=>rfl;simp only[ev,aG,Bool.false_bne,ae,ay,ta,x0,x1,aF];refine an λb s1 hb q1 u1=>aZ q1 rfl rfl rfl λs2 q2 u2=>?_;have kb:∀j,j≠b->s2 j=s j:=λj hj=>by rw[u2 j hj,u1 j hj]
 have m2:b2≠b:=λe=>gR;have m4:b4≠b:=λe=>gR;have m6:b6≠b:=λe=>gR;obtain⟨H,hH⟩:∃H:Hq,H=RT.one b (false,.cells 235 [e,.str p,i]):=⟨_,rfl⟩
 have Hb:Hc H b 235 [e,.str p,i]:=by rw[hH];exact RT.aP
 have Hn:∀j,j≠b->H j=none:=λj hj=>by rw[hH];exact if_neg hj
 refine⟨H,λj e hj=>?_,?_⟩
 ·grind
 simp only[ao,zAY,ae,aj Hb,g0Y,g1Y];have lk:∀j,j≠b->lock s2 H j=s2 j:=(by grind [lock])
 refine aT (l:=[x2]) (by rw[lk _ m2,kb _ m2];exact h2) sI rfl λs3 q3 u3=>?_;refine aT (l:=[x4]) (by rw[u3 _ (Ne.symm n24),lk _ m4,kb _ m4];exact h4) sI rfl λs4 q4 u4=>?_;have ad:∀j,j≠b->add H s4 j=s4 j:=λj hj=>aV (Hn j hj);refine aT (l:=[x6]) (by rw[ad _ m6,u4 _ (Ne.symm n46),u3 _ (Ne.symm n26),lk _ m6,kb _ m6];exact h6) sI rfl λs5 q5 u5=>?_;refine hQ s5 ?_ ?_ q5 λj e hj hn=>?_
 ·rw[u5 _ n26,ad _ m2,u4 _ n24];exact q3
 ·rw[u5 _ n46,ad _ m4];exact q4
 ·have mj:j≠b:=λq=>gR
  rw[u5 j (λq=>hn (.inr (.inr q))),ad j mj,u4 j (λq=>hn (.inr (.inl q))),u3 j (λq=>hn (.inl q)),lk j mj,kb j mj];exact hj
set_option maxRecDepth 100000
end Go.AM
namespace Go.AM.RT
open Go Go.Proofs Go.AM List Nat
noncomputable abbrev c61:Code:=aI Tryz.f61
noncomputable abbrev i61:Code:=sL (sR (sR (sR c61)))
noncomputable abbrev l61:Code:=bI (bI (sR i61))
structure Ck(s:Hq)(env:Env)(s':Hq)(b0 b2 b4 b6:Nat):Prop where
 e1:env 1=Pp b0
 e2:env 2=Pp b2
 e3:env 3=Pp b4
 e4:env 4=Pp b6
 e8:env 8=.fn (.func 115) [] [Pp b2,Pp b4,Pp b6]
 h0:Hc s' b0 52 C0
 h2:Hc s' b2 31 [Ii 0]
 h4:Hc s' b4 9 [.str ⟨#[]⟩]
 h6:Hc s' b6 3 [Ii 0]
 k:Sub s s'
 n:(s b2=none/\s b4=none/\s b6=none)/\b2≠b4/\b2≠b6/\b4≠b6
theorem Ck.up{s s' s2:Hq}{env env2:Env}{b0 b2 b4 b6:Nat}(z:Ck s env s' b0 b2 b4 b6)(k:Sub s' s2)(e:env2 1=env 1/\env2 2=env 2/\env2 3=env 3/\env2 4=env 4/\env2 8=env 8):Ck s env2 s2 b0 b2 b4 b6:=
 ⟨e.1.trans z.e1,e.2.1.trans z.e2,e.2.2.1.trans z.e3,e.2.2.2.1.trans z.e4,e.2.2.2.2.trans z.e8,k _ _ z.h0,k _ _ z.h2,k _ _ z.h4,k _ _ z.h6,z.k.trans k,z.n⟩
abbrev gK(a b:Env):Prop:=a 1=b 1/\a 2=b 2/\a 3=b 3/\a 4=b 4/\a 8=b 8
theorem J3:JT:=λK s hK=>by
 refine Rq (λ_=>[]) (id:=1) (r0:=sL c61) (rest:=sR (sR c61)) (ops:=rO (sL (sR c61))) (l:=(rO (sL (sR c61))).toList.dropLast) (c:=⟨.value (.tmp 8),#[],#[]⟩) (fo:=.tmp 8) Tryz.func61 kR kR kR kR rfl kR (K0:=λenv s'=>∃b0 b2 b4 b6,Ck s env s' b0 b2 b4 b6) ?_ ?_
 ·refine Eq.mpr (by kernel_rfl:_=boxK 52 (.agg C0) (λb_0 s_1=>newK 31 [(Ii 0)] (λb_2 s_3=>newK 9 [.str ⟨#[]⟩] (λb_4 s_5=>newK 3 [Ii 0] (λb_6 s_7=>jm TP (.fn (.func 115) [] [Pp b_2,Pp b_4,Pp b_6])/\∃b0 b2 b4 b6,Ck s (upd (upd (upd (upd (upd (d7 [.agg C0]) 1 b_0) 2 (Pp b_2)) 3 (Pp b_4)) 4 (Pp b_6)) 8 (.fn (.func 115) [] [Pp b_2,Pp b_4,Pp b_6])) s_7 b0 b2 b4 b6) s_5) s_3) s_1) s) ?_
  refine⟨rfl,an λb0 s1 hb0 q0 u0=>an λb2 s3 hb2 q2 u2=>an λb4 s5 hb4 q4 u4=>an λb6 s7 hb6 q6 u6=>⟨by show isFn TP 115=true;kernel_rfl,b0,b2,b4,b6,?_⟩⟩;have k1:=u0.sub hb0;have k3:=u2.sub hb2;have k5:=u4.sub hb4;have k7:=u6.sub hb6;exact⟨rfl,rfl,rfl,rfl,rfl,k7 _ _ (k5 _ _ (k3 _ _ q0)),k7 _ _ (k5 _ _ q2),k7 _ _ q4,q6,((k1.trans k3).trans k5).trans k7,⟨cq k1 hb2,cq (k1.trans k3) hb4,cq ((k1.trans k3).trans k5) hb6⟩,(λe=>gR),(λe=>by have:=k5 _ _ q2;grind),λe=>gR⟩
 rintro env s1 ⟨b0,b2,b4,b6,z⟩;have fin:∀(env':Env) (s':Hq),Ck s env' s' b0 b2 b4 b6->recK TP (evD env (.tmp 8)) (flF 2 0 ⟨#[102,97,98,114,105,99]⟩) (λs=>resK TP Tryz.f61.results.toList env' (λvs=>K (oneV vs) s) s) s':=λenv' s' z'=>by
  show recK TP (env 8) _ _ s';rw[z.e8];show gW TP 115 [Pp b2,Pp b4,Pp b6] _ _ s';have ⟨⟨n2,n4,n6⟩,m1,m2,m3⟩:=z'.n;refine J2 z'.h2 z'.h4 z'.h6 m1 m2 m3 λs4 q2 q4 q6 kp=>?_;refine Eq.mpr (by kernel_rfl:_=(oK (rd1 s4 (env' 2)) λa=>oK (rd1 s4 (env' 3)) λb=>oK (rd1 s4 (env' 4)) λc=>K (.tup [a,b,c]) s4)) ?_;rw[z'.e2,z'.e3,z'.e4];simp only[aj q2,aj q4,aj q6,g0Y,ae];refine hK s4 2 _ 0 (λj e hj=>kp j e (z'.k _ _ hj) λq=>?_) oM
  grind
 obtain⟨R,hR⟩:∃R:AV->Env->Hq->Prop,R=λv env' s'=>recK TP (evD env (.tmp 8)) v (λs=>resK TP Tryz.f61.results.toList env' (λvs=>K (oneV vs) s) s) s':=⟨_,rfl⟩
 rw[<- hR];have fin:∀(env':Env) (s':Hq),Ck s env' s' b0 b2 b4 b6->R (flF 2 0 ⟨#[102,97,98,114,105,99]⟩) env' s':=by rw[hR];exact fin
 rw[show sR (sR c61)=.seq (sL (sR (sR c61))) (.seq (.seq (sL i61) (.block 0 (.loop (.seq (sL l61) (.seq (sL (sR l61)) (.seq (.block 1 (.seq (sL (bI (sL (sR (sR l61))))) (.region 6 (rO (sR (bI (sL (sR (sR l61)))))) false))) (sR (sR (sR l61))))))))) (sR (sR (sR (sR c61)))))from by kernel_rfl];refine DieC.then (λ_=>[]) kR (K:=λenv' s'=>∃b,env' 5=Pp b/\Hc s' b 238 C0/\Sub s1 s'/\gK env' env) (Eq.mpr (by kernel_rfl:_=(oK (rdN s1 19 (env 1)) λv_8=>oK (aq C0 [(0,19,.agg v_8)]) λc_9=>boxK 238 (.agg c_9) (λb_10 s_11=>∃b,b_10=Pp b/\Hc s_11 b 238 C0/\Sub s1 s_11/\gK env env) s1)) ?_) ?_
 ·rw[z.e1]
  exact am (aQ (n:=19) z.h0 rfl) (am (a:=C0) rfl ⟨rfl,an λb s2 hb q u=>⟨b,rfl,q,u.sub hb,rfl,rfl,rfl,rfl,rfl⟩⟩)
 rintro env2 s2 ⟨c,f5,hc,k2,se2⟩;have z2:=z.up k2 se2;refine DieC.left (DieC.then (λ_=>[]) kR (K:=λenv' s'=>∃b,env' 12=.slc b 0 8 (some 8) 1/\Hc s' b 241 TN.chk/\env' 13=Ii 8/\env' 14=Ii 0/\env' 5=env2 5/\Sub s2 s'/\gK env' env2) (Eq.mpr (by kernel_rfl:_=wC TP 116 [] (λv_12 s_13=>oK (bp v_12) λv_14=>∃b,v_12=.slc b 0 8 (some 8) 1/\Hc s_13 b 241 TN.chk/\AV.int .i64 v_14=Ii 8/\AV.int .i64 0=Ii 0/\env2 5=env2 5/\Sub s2 s_13/\gK env2 env2) s2) ?_) ?_)
 ·exact TN.PV λb s3 hb q k=>⟨b,rfl,q,rfl,rfl,rfl,k,rfl,rfl,rfl,rfl,rfl⟩
 rintro env3 s3 ⟨b12,f12,h12,f13,f14,f5',k3,se3⟩;have z3:=z2.up k3 se3;refine DieC.block (DieC.loop (DieC.then (λ_=>[]) kR (K:=λenv' s'=>s'=s3/\env' 15=true/\env' 5=env3 5/\env' 12=env3 12/\env' 14=env3 14/\gK env' env3) (Eq.mpr (by kernel_rfl:_=(oK (bO .lss (env3 14) (env3 13)) λv=>s3=s3/\v=true/\env3 5=env3 5/\env3 12=env3 12/\env3 14=env3 14/\gK env3 env3)) ?_) ?_))
 ·rw[f13,f14]
  exact am (a:=true) rfl gR
 rintro env4 s4 ⟨rfl,f15,f5'',f12',f14',se4⟩;refine DieC.then (λ_=>[]) kR (K:=λenv' s'=>env'=env4/\s'=s4) (Eq.mpr (by kernel_rfl:_=ai (env4 15) (env4=env4/\s4=s4) False) ?_) ?_
 ·simp_all
 rintro env5 s5 ⟨rfl,rfl⟩;refine DieC.left (DieC.block (DieC.then (λ_=>[]) kR (K:=λenv' s'=>env' 7=.fn (.func 145) [] []/\env' 5=env5 5/\s'=s5/\gK env' env5) (Eq.mpr (by kernel_rfl:_=(oK (ba 1 (env5 12) (env5 14)) λv_17=>oK (rd1 s5 v_17) λv_18=>v_18=.fn (.func 145) [] []/\env5 5=env5 5/\s5=s5/\gK env5 env5)) ?_) ?_))
 ·rw[f12',f14',f12,f14,show ba 1 (.slc b12 0 8 (some 8) 1) (Ii 0)=some (.ptr b12 0)from rfl]
  simp only[ae,aj h12];refine am (a:=.fn (.func 145) [] []) rfl ⟨rfl,?_,?_,?_⟩<;>first|trivial|exact⟨rfl,rfl,rfl,rfl,rfl⟩
 rintro env6 s6 ⟨f7,g5,rfl,se6⟩;refine DieC.last (l:=(rO (sR (bI (sL (sR (sR l61)))))).toList.dropLast) (o:=⟨some 20,.call ⟨.value (.tmp 18),#[.tmp 19],#[236]⟩,0,"tenant.go:25",#[⟨0,.data⟩,⟨1,.data⟩],none⟩) kR rfl kR (K:=λenv' s'=>env' 18=env6 7/\env' 19=env6 5/\s'=s6/\gK env' env6) (Eq.mpr (by kernel_rfl:_=(env6 7=env6 7/\env6 5=env6 5/\s6=s6/\gK env6 env6)) gR) ?_;rintro env7 s7 ⟨f18,f19,rfl,se7⟩;refine DieO.call (c:=⟨.value (.tmp 18),#[.tmp 19],#[236]⟩) (f:=.tmp 18) (k:=145) rfl rfl rfl (f18.trans f7) kR ?_;show fc TP 145 [env7 19] _ s7;rw[f19,g5,f5'',f5',f5];refine ZJ (k3 _ _ hc) (by grind [Ck.up])
theorem known_ok:xR:=J0 J3
end Go.AM.RT
