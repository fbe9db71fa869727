/- Part E of the proof: see the last part. -/
import Derived.Test.YtcmcofklcgafiaaGreatD
import Derived.Test.YtcmcofklcgafiaaGreatS
import Derived.Test.YtcmcofklcgafiaaGreatV2
open Go renaming FuncId→aQ,IntKind→aA,LoopState→dg,Program→ay,TypeId→ah
open List renaming drop_eq_getElem_cons→dG,getElem?_append_left→da,getElem?_append_right→ez,getElem_mem→aN,length_take→dJ,map_append→bM,mem_cons_self→dW,mem_singleton→bN,pairwise_cons→aB,pairwise_iff_getElem→cE,perm_middle→gL,set_cons_zero→fW,take_add_one→bO
set_option linter.unusedVariables false
namespace Go.AM.LS
open Go Go.Proofs List Nat
set_option maxRecDepth 100000
variable{K:AV→Hq→Prop}{s s':Hq}{Fz:Nat→Prop}{d m:Nat}{nodes node last n q:Int}{F:List (Int × Rec)}{v:AV}{L:List Int}
theorem eqC3(a b a' b':Bool)(x x':Int):fF TP 219 (.agg [a,b,x]) (.agg [a',b',x'])=(match some (a == a')with
   | some true=>(match some (b == b')with
     | some true=>(match some (eqI x x')with
       |some true=>some true
       |some false=>some false
       |none=>none)
     |some false=>some false
     |none=>none)
   |some false=>some false
   |none=>none):=kR
theorem eqCd(a b a' b':Bool)(x x':Int):fF TP 219 (.agg [a,b,x]) (.agg [a',b',x'])=some (a == a'&&(b == b'&&x == x')):=by
 grind [eqC3,iL]
theorem H5{a b:Int}:im max2A a [b]=some (Ii (max a b)):=by
 have e:ltI a b=decide (a<b):=by rw[ib]
 by_cases h:a<b
 have:max a b=b:=oM
 simp_all [im,max2A]
 have:max a b=a:=oM
 simp_all [im,max2A]
theorem H6{a b v:AV}(ha:a.one=true)(hb:b.one=true)(hv:v.one=true):aM [(Ii 0),(Ii 0),.nilslc] [(0,1,a),(1,1,b),(2,1,v)]=some [a,b,v]:=by simp only[aM,fZ ha,fZ hb,fZ hv];rfl
theorem H8{s':Hq}{fp:Nat->Prop}{l:List (Int×AV)}(h:Pairs (RelV Fz s d m) l F)(k:aV fp s s')(hf:∀b,fp b->b=d∨b=m∨s b=none):Pairs (RelV Fz s' d m) l F:=h.mono λa r ⟨lv,e,h4,h5⟩=>⟨lv,e,h4.keep k λb' o n c e' hne hb=>by have h6:=h5 b' o n c e' (by simpa using hne);rcases hf b' hb with q|q|q;exact h6.2.1 q;exact h6.2.2 q;exact h4.ne q b' o n c e' hne rfl,h5⟩
theorem Db.stored{s2:Hq}{last2:Int}{r:Rec}{lv:AV}(z:Db Fz s d m nodes node last F)(hF:∀b,Fz b->s b≠none)(k:aV (λi=>i=d) s s2)(hd:Hc s2 d 217 [nodes,node,last2,.map m])
  (hlv:Sli s2 lv r.2.2) (hfr:∀b o n c,lv=.slc b o n c 1->r.2.2≠[]->s b=none) (hr:0<=r.1/\r.1<nodes) (hl:r.2.2.length<=100000)
  {R:Hq->Prop}(hK:∀s3,Db Fz s3 d m nodes node last2 (stor F r.1 r)->Upto m s2 s3->R s3):oK (putM s2 (.map m) r.1 (recV r.1 r.2.1 lv)) R:=by
 have hdm:=z.dm;have ⟨l,hm,hp⟩:=z.mp;have hm2:fK s2 m l:=by have ⟨es,c,h1,h2⟩:=hm;exact⟨es,c,k _ _ h1 hdm.symm,h2⟩
 have hnn:=z.nn;have hsd:s d≠none:=by rw[z.dc];grind
 have hsm:s m≠none:=by have ⟨es,c,h1,_⟩:=hm;grind
 have hp2:=H8 hp k λb hb=>.inl hb;refine hm2.put oM λs3 h3 u3=>hK s3 ⟨by rw[u3 d hdm];exact hd,⟨_,h3,Pairs.stor (H8 hp2 (u3.keep (fp:=λi=>i=m) rfl) λb hb=>.inr (.inl hb)) ⟨lv,rfl,?_,λb o n c e hne=>?_⟩⟩,z.fd,z.fm,z.nn,λj r' hj=>?_⟩ u3;refine hlv.keep (fp:=λi=>i=m) (u3.keep rfl) λb o n c e hne hb=>?_
 grind
 grind
 rw[jE]at hj;split at hj
 grind
 exact z.gd j r' hj
theorem Db.ext{b0:Nat}(z:Db Fz s d m nodes node last F)(h:s b0=none):Db (λb=>Fz b∨b=b0) s d m nodes node last F:=by
 have ⟨w1,⟨lw,w2,w3⟩,w4,w5,w6,w7⟩:=z;refine⟨w1,⟨lw,w2,w3.mono λa r ⟨lv,e,h4,h5⟩=>⟨lv,e,h4,λb' o n c e' hne=>?_⟩⟩,?_,?_,w6,w7⟩;have ⟨x1,x2⟩:=h5 b' o n c e' hne;refine⟨?_,x2⟩;rintro (q|q);exact x1 q;exact h4.ne h b' o n c e' (by simpa using hne) q
 grind
 ·rintro (q|rfl)
  exact w5 q
  ·have ⟨es,c,e1,_⟩:=w2
   rw[e1]at h;cases h
theorem Db.weak{Fz':Nat->Prop}(z:Db Fz' s d m nodes node last F)(h:∀b,Fz b->Fz' b):Db Fz s d m nodes node last F:=by obtain⟨w1,⟨lw,w2,w3⟩,w4,w5,w6,w7⟩:=z;exact⟨w1,⟨lw,w2,w3.mono λa r ⟨lv,e,h4,h5⟩=>⟨lv,e,h4,λb' o n c e' hne=>⟨λq=>(h5 b' o n c e' hne).1 (h _ q),(h5 b' o n c e' hne).2⟩⟩⟩,λq=>w4 (h _ q),λq=>w5 (h _ q),w6,w7⟩
theorem uF{seq:Int}(z:Db Fz s d m nodes node last F)(hF:∀b,Fz b->s b≠none)(h:Sli s v L)(hl:L.length<=100000)
  (hK:∀v' s',aV (λi=>i=d∨i=m) s s'->Db Fz s' d m nodes node seq (stor F node (node,seq,L))->Sli s' v' L->K (recV node seq v') s'):wC TP 113 [Pp d,v,seq] K s:=by
 refine W9 (aI λb0 s1 hb0 h1 u1=>?_);have sub1:=u1.sub hb0;have z1:=z.sub sub1;have q1:∀la:Int,[AV.int .i64 nodes,node,la,.map m][1]?=some (Ii node):=λ_=>rfl;have q3:∀la:Int,[AV.int .i64 nodes,node,la,.map m][3]?=some (.map m):=λ_=>rfl;refine⟨s1,.refl s1,?_⟩;simp only[bQ,aK,zAY,au z1.dc,q1,ae];rw[gT];refine G4 (s:=frz s1) (h.sub sub1).frz oM λv5 s6 sub6 sl6 fr6=>?_;have sl7:=sl6.addf sub6;have subt:Sub s1 (add s1 s6):=iD;have fr7:∀b o n c,v5=.slc b o n c 1->L≠[]->s1 b=none:=(by grind [jg])
 refine aE (H6 rfl rfl sl7.one) (aI λb8 t2 hb8 h8 u8=>?_);refine cD h8 rfl rfl (by rw[dh,dh,dh,sl7.one];rfl) λs10 h10 u10=>?_;have h10:=h10;have subt10:=(u8.sub hb8).upto u10 hb8;have sub10:=(sub1.trans subt).trans subt10;have z10:=z.sub sub10;have sl10:=sl7.sub subt10;have hbd:b8≠d:=by rintro rfl;have:=z10.dc;grind
 refine cw z10.dc sI rfl λs13 h13 u13=>?_;have h13:=h13;have h13b:=(u13 b8 hbd).trans h10;simp only[au h13,q1,q3,bX (n:=3) h13b rfl,ae];have old:∀b,s1 b=none->s b=none:=λb hb=>by
  cases q:s b with
  |none=>rfl
  |some x=>rw[sub1 b x q]at hb;cases hb
 have hsd:s d≠none:=by grind [Db.dc]
 have hs1d:s1 d≠none:=gR;have hs1m:s1 m≠none:=by
  have ⟨l0,⟨es0,c0,hm0,_⟩,_⟩:=z1.mp
  grind
 have hs1b:s1 b0≠none:=gR;have sl13:=sl10.keep (fp:=λi=>i=d) (u13.keep rfl) gR;have ze:=(z.ext hb0).sub sub1;refine Db.stored (r:=(node,seq,L)) ze (λb hb=>?_) ((subt.trans subt10).keep.trans (u13.keep rfl)) h13 sl13 fr7 ⟨z.nn.2.2.1,z.nn.2.2.2⟩ hl λs21 z21 u21=>?_
 grind
 have hbm:b8≠m:=by
  rintro rfl;have ⟨l0,⟨es0,c0,hm0,_⟩,_⟩:=z10.mp
  grind
 have h21b:=(u21 b8 hbm).trans h13b;have hb0d:b0≠d:=λe=>hsd (by rw[<- e];exact hb0);have hb0m:b0≠m:=by
  rintro rfl;have ⟨l0,⟨es0,c0,hm0,_⟩,_⟩:=z.mp
  grind
 have h21c:Hc s21 b0 34 [Ii 0,Ii 0,.nilslc]:=by rw[u21 b0 hb0m,u13 b0 hb0d];exact subt10 _ _ (subt _ _ h1)
 simp only[bX (n:=3) h21b rfl,ae];refine cD h21c rfl rfl (by rw[dh,dh,dh,sl7.one];rfl) λs23 h23 u23=>?_;have h23:=h23;simp only[bX (n:=3) h23 rfl,ae];have kb:aV (λi=>i=d∨i=m) s s23:=λb e hb hn=>by
  have h1:s13 b=some e:=by rw[u13 b λq=>hn (.inl q)];exact sub10 b e hb
  rw[u23 b (dZ hb0 hb),u21 b λq=>hn (.inr q)];exact h1
 refine hK v5 s23 kb ((z21.keep ((by grind [Upto.keep])) λi hi=>.inr hi).weak λb hb=>.inl hb) ?_;refine sl13.keep (fp:=λi=>i=m∨i=b0) ((u21.keep (.inl rfl)).trans (u23.keep (.inr rfl))) λb o n c e hne hb=>?_
 grind
theorem ext0{a b:AV}:bV (.tup [a,b]) 0=some a:=rfl
theorem ext1{a b:AV}:bV (.tup [a,b]) 1=some b:=rfl
theorem H9{a p:Int}(z:Db Fz s d m nodes node last F)(hF:∀b,Fz b->s b≠none)(h:Sli s v L)(hl:L.length<=100000)(hq:1<=q)
  (hE:1073741824<=q->∀s',Sub s s'->K (.tup [Ii 0,Ii 7]) s')
  (hK:¬ 1073741824<=q->∀s',aV (λi=>i=d∨i=m) s s'->Db Fz s' d m nodes node (q+1) (stor F node (node,q+1,L))->K (.tup [Ii 3,Ii 0]) s'):wC TP 103 [Pp d,recV a p v,q] K s:=by
 refine W4 (box3 rfl rfl h.one λb0 s1 hb0 h1 u1=>?_);have sub1:=u1.sub hb0;simp only[dQ,ae];refine aL ((by simp_all)) λhq=>?_;have hq:=oF hq;have q2:[AV.int .i64 a,p,v][2]?=some v:=rfl;simp only[aK,zAY,au h1,q2,bg,ae];rw[aT];refine uF (z.sub sub1) (λb hb=>?_) (h.sub sub1) hl λv' s2 k2 z2 _=>hK hq s2 (sub1.keep.trans k2) z2;cases e:s b with
 |none=>exact absurd e (hF b hb)
 |some x=>rw[sub1 b x e];grind
theorem So{b0:Nat}{old7 t46:AV}(z:Db Fz s d m nodes node last F)(hF:∀b,Fz b->s b≠none)(h0:Hc s b0 34 [n,q,v])(h:Sli s v L)(hl:L.length<=100000)(hn:0<=n/\n<nodes)
  (hK:∀s',aV (λi=>i=d∨i=m) s s'->Db Fz s' d m nodes node last (stor F n (n,q,L))->K (.tup [Ii 1,Ii 0]) s') :
  lj (Pp d) (Pp b0) old7 t46 true K s:=by
 have q0:[AV.int .i64 n,q,v][0]?=some (Ii n):=rfl;have q3:[AV.int .i64 nodes,node,last,.map m][3]?=some (.map m):=rfl;refine⟨s,.refl s,?_⟩;simp only[bQ,aK,zAY,au z.dc,q3,au h0,q0,bX (n:=3) h0 rfl,ae];rw[gT];refine R9 (s:=frz s) h.frz oM λv' s2 sub2 sl2 fr2=>?_;have sl3:=sl2.addf sub2;have subt:Sub s (add s s2):=iD;have z3:=z.sub subt;refine Db.stored (r:=(n,q,L)) z hF subt.keep z3.dc sl3 ((by grind [jg])) hn hl λs3 h3 u3=>hK s3 (subt.keep.trans (u3.keep (.inr rfl))) h3
theorem rj0{b0 b7 b9:Nat}{old:List AV}{stored:Bool}{ord:Int}(z:Db Fz s d m nodes node last F)(hF:∀b,Fz b->s b≠none)(h0:Hc s b0 34 [n,q,v])(h7:Hc s b7 34 old)(h9:Hc s b9 219 [(n == node),stored,ord])
  (h:Sli s v L) (hl:L.length<=100000) (hn:0<=n/\n<nodes) (hq:1<=q) (hchk:chkR nodes n q L=0)
  (hst:(stored=false/\look F n=none/\ord=0)∨(stored=true/\∃o lo,look F n=some o/\old=[Ii o.1,Ii o.2.1,lo]/\Sli s lo o.2.2/\ord=cmpR q o.2.1 L o.2.2))
  (hK:∀s',aV (λi=>i=d∨i=m) s s'->Db Fz s' d m nodes node (eI nodes node last F (n,q,L)).last (eI nodes node last F (n,q,L)).F->K (.tup [(eI nodes node last F (n,q,L)).code,(eI nodes node last F (n,q,L)).err]) s') :
  o8 (Pp d) (Pp b0) (Pp b7) (Pp b9) K s:=by
 have hdm:=z.dm;have q1:[AV.int .i64 n,q,v][1]?=some (Ii q):=rfl;have q2:[AV.int .i64 nodes,node,last,.map m][2]?=some (Ii last):=rfl;have f0:aM [false,false,(Ii 0)] []=some [.bool false,.bool false,Ii 0]:=rfl;have f1:aM [false,false,(Ii 0)] [(1,1,true),(2,1,(Ii 1))]=some [.bool false,.bool true,Ii 1]:=rfl;have f2:aM [false,false,(Ii 0)] [(0,1,true)]=some [.bool true,.bool false,Ii 0]:=rfl;have f3:aM [false,false,(Ii 0)] [(1,1,true),(2,1,(-1:Int))]=some [.bool false,.bool true,Ii (-1)]:=rfl;have f4:aM [false,false,(Ii 0)] [(0,1,true),(1,1,true),(2,1,(-1:Int))]=some [.bool true,.bool true,Ii (-1)]:=rfl;have f5:aM [false,false,(Ii 0)] [(0,1,true),(1,1,true),(2,1,(Ii 1))]=some [.bool true,.bool true,Ii 1]:=rfl;have tf:(true == false)=false:=rfl;have ft:(false == true)=false:=rfl;have i01:((0:Int) == 1)=false:=rfl;have i0m:((0:Int) == -1)=false:=rfl;have i10:((1:Int) == 0)=false:=rfl;have i1m:((1:Int) == -1)=false:=rfl;have im0:((-1:Int) == 0)=false:=rfl;have im1:((-1:Int) == 1)=false:=rfl;have un:eI nodes node last F (n,q,L)=(match look F n with
  |none=>if n=node then⟨max last q,F,0,0⟩else⟨last,stor F n (n,q,L),1,0⟩
  | some o=>if cmpR q o.2.1 L o.2.2=-1 then⟨last,F,2,0⟩else
    if cmpR q o.2.1 L o.2.2=1 then(if n=node then(if 1073741824<=q then⟨last,F,0,7⟩else⟨q+1,stor F node (node,q+1,o.2.2),3,0⟩)else⟨last,stor F n (n,q,L),1,0⟩)
    else⟨last,F,0,0⟩):=by
  grind [eI]
 rw[un]at hK;simp only[o8,bX (n:=3) h9 rfl,f0,eqCd,bJ,Bool.false_bne,ae];rcases hst with⟨rfl,hlk,rfl⟩|⟨rfl,o,lo,hlk,rfl,hlo,rfl⟩
 ·rw[hlk]at hK
  by_cases hown:n=node
  ·have e1:=beq_iff_eq.2 hown
   rw[ak hown]at hK;simp only[e1,tf,Bool.false_and,aR,f1,eqCd,bJ,Bool.false_bne,ae,lj,f2,aZ,Bool.and_self,bD,bQ,aK,zAY,au z.dc,q2,au h0,q1,H5];refine cw z.dc sI rfl λs2 h2 u2=>hK s2 (u2.keep (.inl rfl)) ?_;have ⟨w1,⟨lw,w2,w3⟩,w4,w5,w6,w7⟩:=z;refine⟨h2,⟨lw,?_,H8 w3 (u2.keep (fp:=λi=>i=d) rfl) λb hb=>.inl hb⟩,w4,w5,w6,w7⟩;have ⟨es,c,e3,e4⟩:=w2;exact⟨es,c,by rw[u2 m hdm.symm];exact e3,e4⟩
  ·have e1:=beq_eq_false_iff_ne.2 hown
   rw[aj hown]at hK;simp only[e1,aZ,Bool.and_self,bD];exact So z hF h0 h hl hn hK
 ·rw[hlk]at hK
  simp only at hK;have stay:(cmpR q o.2.1 L o.2.2=0)->K (.tup [Ii 0,Ii 0]) s:=(by grind [aV.refl])
  have stale:(cmpR q o.2.1 L o.2.2=-1)->K (.tup [Ii 2,Ii 0]) s:=(by grind [aV.refl])
  have hol:=(z.gd _ _ hlk).2.2
  by_cases hown:n=node
  ·have e1:=beq_iff_eq.2 hown
   rcases zY (p:=q) (q:=o.2.1) (l:=L) (m:=o.2.2)with hc|hc|hc
   ·simp only[e1,hc,tf,Bool.false_and,aR,f1,eqCd,bJ,Bool.false_bne,ae,lj,f2,aZ,Bool.true_and,Bool.and_self,f3,f4,nC,bD]
    exact stale hc
   ·simp only[e1,hc,tf,i01,i0m,Bool.false_and,Bool.and_false,aR,f1,eqCd,bJ,Bool.false_bne,ae,lj,f2,aZ,Bool.and_self,f3,f4,nC,f5]
    exact stay hc
   ·rw[hc,aj dE,ak rfl,ak hown]at hK
    simp only[e1,hc,tf,i10,i1m,Bool.false_and,Bool.and_false,aR,f1,eqCd,bJ,Bool.false_bne,ae,lj,f2,aZ,Bool.and_self,f3,f4,nC,bD,f5,bX (n:=3) h7 rfl,aK,zAY,au h0,q1];refine H9 z hF hlo hol hq (λhq s2 sub2=>?_) λhq s2 k2 z2=>?_
    ·grind [ext0,ext1,cP,Sub.keep,Db.sub]
    grind [ext0,ext1,cP]
  ·have e1:=beq_eq_false_iff_ne.2 hown
   rcases zY (p:=q) (q:=o.2.1) (l:=L) (m:=o.2.2)with hc|hc|hc
   ·simp only[e1,hc,tf,ft,im0,im1,Bool.false_and,Bool.and_false,aR,f1,eqCd,bJ,Bool.false_bne,ae,lj,f2,aZ,Bool.and_self,f3,f4,nC,bD]
    exact stale hc
   ·simp only[e1,hc,tf,ft,i01,i0m,Bool.false_and,Bool.and_false,aR,f1,eqCd,bJ,Bool.false_bne,ae,lj,f2,aZ,Bool.and_self,f3,f4,nC,f5]
    exact stay hc
   ·rw[hc,aj dE,ak rfl,aj hown]at hK
    simp only[e1,hc,tf,i10,Bool.and_false,aR,f1,eqCd,bJ,Bool.false_bne,ae,aZ,Bool.and_self];exact So z hF h0 h hl hn hK
theorem Ia(h:chkR nodes n q L≠0):eI nodes node last F (n,q,L)=⟨last,F,0,chkR nodes n q L⟩:=by
 grind [eI]
theorem Ib(h:chkR nodes n q L=0):(0<=n/\n<nodes)/\1<=q/\q<=1073741824:=by
 grind [chkR]
theorem Am(z:Db Fz s d m nodes node last F)(hF:∀b,Fz b->s b≠none)(h:Sli s v L)(hl:L.length<=100000)
  (hK:∀s',aV (λi=>i=d∨i=m) s s'->Db Fz s' d m nodes node (eI nodes node last F (n,q,L)).last (eI nodes node last F (n,q,L)).F->K (.tup [(eI nodes node last F (n,q,L)).code,(eI nodes node last F (n,q,L)).err]) s'):wC TP 50 [Pp d,recV n q v] K s:=by
 refine WJ (box3 rfl rfl h.one λb0 s1 hb0 h1 u1=>?_);have sub1:=u1.sub hb0;have z1:=z.sub sub1;refine zZ z1 ?_;have p0:[AV.int .i64 nodes,node,last,.map m][0]?=some (Ii nodes):=rfl;have p1:[AV.int .i64 nodes,node,last,.map m][1]?=some (Ii node):=rfl;have p3:[AV.int .i64 nodes,node,last,.map m][3]?=some (.map m):=rfl;have q0:[AV.int .i64 n,q,v][0]?=some (Ii n):=rfl;simp only[cQ,Bool.not_true,aR,bQ,aK,zAY,au z1.dc,p0,bX (n:=3) h1 rfl,ae];refine zX (h.sub sub1) oM λs2 sub2=>?_;have sub02:=sub1.trans sub2;have z2:=z.sub sub02;have h2:=sub2 _ _ h1;simp only[cj,bJ,Bool.true_bne,ae]
 by_cases hc:chkR nodes n q L=0
 ·have e0:(!(chkR nodes n q L == 0))=false:=by rw[hc];rfl
  rw[e0];have ⟨hn,hq1,hq2⟩:=Ib hc;have ⟨l,hm,hp⟩:=z2.mp;have hget:=hm.get (k:=n);simp only[aR,au z2.dc,p3,au h2,q0,hget,ae];have key:∀(old:List AV) (stored:Bool),old.length=3->aX old=true->((stored=false/\look F n=none)∨(stored=true/\∃o lo,look F n=some o/\old=[Ii o.1,Ii o.2.1,lo]/\Sli s2 lo o.2.2))->
    newK 34 [(Ii 0),(Ii 0),.nilslc] (λb_20 s_21=>
    oK (dP s_21 3 (Pp b_20) (.agg old)) λs_22=>
    oK (fu 0 (Pp b0)) λv_23=>
    oK (rd1 s_22 v_23) λv_24=>
    oK (eX (Pp d)) λv_25=>
    oK (fu 1 v_25) λv_26=>
    oK (rd1 s_22 v_26) λv_27=>
    oK (negB false (eqV 0 false v_24 v_27)) λv_28=>
    oK (aM [false,false,(Ii 0)] [(0,1,v_28),(1,1,stored)]) λc_29=>
    newK 219 [false,false,(Ii 0)] (λb_30 s_31=>
    oK (dP s_31 3 (Pp b_30) (.agg c_29)) λs_32=>
    ao stored
     (oK (rdN s_32 3 (Pp b0)) λv_73=>
      oK (rdN s_32 3 (Pp b_20)) λv_74=>
      wC TP 101 [(.agg v_73),(.agg v_74)] (λv_75 s_76=>
      oK (fu 2 (Pp b_30)) λv_77=>
      oK (wr1 s_76 v_77 v_75) λs_78=>
      o8 (Pp d) (Pp b0) (Pp b_20) (Pp b_30) K s_78) s_32)
     (o8 (Pp d) (Pp b0) (Pp b_20) (Pp b_30) K s_32)) s_22) s2:=by
   intro old stored ho3 ho1 hst;refine aI λb7 t hb7 h7 u7=>?_;refine cD h7 (by rw[ho3];rfl) rfl ho1 λs4 h4 u4=>?_;have sub24:=(u7.sub hb7).upto u4 hb7;have h14:=sub24 _ _ h2;have z4:=z2.sub sub24;simp only[aK,zAY,au h14,q0,bQ,au z4.dc,p1,cj,bJ,Bool.false_bne,ae];refine aE (a:=[(n == node),stored,Ii 0]) rfl (aI λb9 t2 hb9 h9 u9=>?_);refine cD h9 rfl rfl rfl λs6 h6 u6=>?_;have sub46:=(u9.sub hb9).upto u6 hb9;have sub26:=sub24.trans sub46;have h16:=sub46 _ _ h14;have h76:=sub46 _ _ h4;have z6:=z2.sub sub26;have sub06:=sub02.trans sub26;have hF6:∀b,Fz b->s6 b≠none:=λb hb=>by rcases e:s b with _|x;exact absurd e (hF b hb);rw[sub06 b x e];grind
   rcases hst with⟨rfl,hlk⟩|⟨rfl,o,lo,hlk,rfl,hlo⟩;exact rj0 z6 hF6 h16 h76 h6 (h.sub sub06) hl hn hq1 hc (.inl ⟨rfl,hlk,rfl⟩) λs8 k8 z8=>hK s8 (sub06.keep.trans k8) z8
   ·simp only[bD,bX (n:=3) h16 rfl,bX (n:=3) h76 rfl,ae]
    refine G0 (h.sub sub06) (hlo.sub sub26) oM λs7 sub7=>?_;refine cw (sub7 _ _ h6) sI rfl λs8 h8 u8=>?_;have hb9s:s2 b9=none:=by
     cases e:s2 b9 with
     |none=>rfl
     |some x=>rw[sub24 b9 x e]at hb9;cases hb9
    have hb9s4:=hb9;have sub28:=(sub26.trans sub7).upto u8 hb9s;have sub48:=(sub46.trans sub7).upto u8 hb9s4;have sub08:=sub02.trans sub28;have hF8:∀b,Fz b->s8 b≠none:=λb hb=>by rcases e:s b with _|x;exact absurd e (hF b hb);rw[sub08 b x e];grind
    exact rj0 (z2.sub sub28) hF8 (sub28 _ _ h2) (sub48 _ _ h4) h8 (h.sub sub08) hl hn hq1 hc ((by grind [Sl.sub])) λs9 k9 z9=>hK s9 (sub08.keep.trans k9) z9
  rcases hp.look n with⟨h3,h4⟩|⟨a,o,h3,h4,lo,rfl,hlo,_⟩;rw[h3];exact key [Ii 0,Ii 0,.nilslc] false rfl rfl (.inl ⟨rfl,h4⟩);rw[h3];exact key [o.1,o.2.1,lo] true rfl (by rw[dh,dh,dh,hlo.one];rfl) (.inr ⟨rfl,o,lo,h4,rfl,hlo⟩)
 grind [bD,Ia,Sub.keep]
theorem Ic:∀{l m:List Int},l.Nodup->(∀x∈l,x∈m)->l.length<=m.length:=by
 intro l
 induction l with
 |nil=>grind
 | cons a l ih=>
   intro m h1 h2;have ⟨ha,hn⟩:=nodup_cons.1 h1;have hm:a∈m:=h2 a sI;have:=ih (m:=m.erase a) hn λx hx=>(mem_erase_of_ne (λe=>ha (by rw[<- e];exact hx))).2 (h2 x (by simp[hx]));rw[length_erase_of_mem hm]at this;have:0<m.length:=length_pos_of_mem hm;simp only[length_cons];omega
theorem Id{l:List Int}{N:Nat}(h1:l.Nodup)(h2:∀x∈l,0<=x/\x<N):l.length<=N:=by
 have:=Ic (m:=(List.range N).map λi:Nat=>(i:Int)) h1 λx hx=>by have ⟨a,b⟩:=h2 x hx;exact mem_map.2 ⟨x.toNat,mem_range.2 oM,oM⟩
 simpa using this
theorem Sp{V:Type}{l:List (Int×V)}{k:Int}(h:k∈l.map (·.1)):∃r,look l k=some r:=by
 cases e:look l k with
 |none=>grind [sx]
 |some r=>exact⟨r,rfl⟩
theorem Db.short(z:Db Fz s d m nodes node last F):(F.map (·.1)).Nodup/\F.length<=32:=by
 have ⟨l,⟨es,c,_,ho⟩,hp⟩:=z.mp;have hk:=hp.keys;have nd:(F.map (·.1)).Nodup:=by rw[<- hk];exact ho.nd
 refine⟨nd,?_⟩;have:=Id (N:=32) nd λx hx=>by have ⟨r,hr⟩:=Sp hx;have:=z.gd x r hr;have:=z.nn;omega
 simpa using this
theorem Ie(hn:1<=nodes/\nodes<=32/\0<=node/\node<nodes)(hK:∀s' d m,Sub s s'->s d=none->s m=none->(∀Fz:Nat->Prop,(∀b,Fz b->s b≠none)->Db Fz s' d m nodes node 0 [])->K (.tup [Pp d,Ii 0]) s'):wC TP 64 [nodes,node] K s:=by
 refine Wz ?_;simp only[Pm,bu,dy,dQ,aC (show ¬nodes<1 by omega),aC (show ¬ 32<nodes by omega),aC (show ¬node<0 by omega),aC (show ¬nodes<=node by omega),aR,Ei,Eh,Eg,ct,ae];refine sy λm s1 hm h1 u1=>aE (a:=[nodes,node,Ii 0,.map m]) rfl ⟨rfl,aI λd s2 hd h2 u2=>?_⟩;have sub1:=u1.sub hm;have hd0:s d=none:=by
  cases q:s d with
  |none=>rfl
  |some x=>rw[sub1 d x q]at hd;cases hd
 have hmd:m≠d:=by rintro rfl;have ⟨es,c,e,_⟩:=h1;rw[e]at hd;cases hd
 refine hK s2 d m (sub1.trans (u2.sub hd)) hd0 hm λFz hF=>⟨h2,⟨[],?_,.nil⟩,λh=>hF d h hd0,λh=>hF m h hm,hn,λk r h=>by cases h⟩
 have ⟨es,c,e,ho⟩:=h1;exact⟨es,c,by rw[u2 m hmd];exact e,ho⟩
structure Rcs(s:Hq)(v:AV)(rs:List Rec):Prop where
 ex:∃rows,SlR 3 s v rows/\rows.length=rs.length/\∀(i:Nat) (r:Rec),rs[i]?=some r->∃lv,rows[i]?=some [Ii r.1,Ii r.2.1,lv]/\Sli s lv r.2.2
theorem Rcs.sub{rs:List Rec}(h:Rcs s v rs)(k:Sub s s'):Rcs s' v rs:=by have ⟨rows,h1,h2,h3⟩:=h;exact⟨rows,h1.sub k,h2,λi r hi=>by have ⟨lv,e1,e2⟩:=h3 i r hi;exact⟨lv,e1,e2.sub k⟩⟩
theorem Rcs.len{rs:List Rec}(h:Rcs s v rs):cM v=some rs.length:=by have ⟨rows,h1,h2,h3⟩:=h;rw[h1.len,h2]
theorem Rcs.at{rs:List Rec}(h:Rcs s v rs){i:Nat}(hi:i<rs.length):∃b o lv,cF 3 v i=some (.ptr b o)/\rdN s 3 (.ptr b o)=some [Ii rs[i].1,Ii rs[i].2.1,lv]/\Sli s lv rs[i].2.2/\rd1 s (.ptr b (o+2))=some lv:=by
 have ⟨rows,h1,h2,h3⟩:=h;have ⟨lv,e1,e2⟩:=h3 i rs[i] (gE hi);have ⟨b,o,g1,g2,g3⟩:=h1.get e1
 grind
structure RcsF(Fz:Nat->Prop)(s:Hq)(v:AV)(rs:List Rec):Prop where
 ex:∃rows,SlR 3 s v rows/\rows.length=rs.length/\(∀b o n c,v=.slc b o n c 3->rows≠[]->¬Fz b)/\∀(i:Nat) (r:Rec),rs[i]?=some r->∃lv,rows[i]?=some [Ii r.1,Ii r.2.1,lv]/\Sli s lv r.2.2/\∀b o n c,lv=.slc b o n c 1->r.2.2≠[]->¬Fz b
theorem RcsF.keep{fp:Nat->Prop}{rs:List Rec}(h:RcsF Fz s v rs)(k:aV fp s s')(hf:∀b,fp b->Fz b):RcsF Fz s' v rs:=by
 have ⟨rows,h1,h2,h0,h3⟩:=h;exact⟨rows,h1.keep k gR,h2,h0,λi r hi=>by have ⟨lv,e1,e2,e3⟩:=h3 i r hi;exact⟨lv,e1,e2.keep k gR,e3⟩⟩
def allR(F:List (Int×Rec)):List Rec:=(eH (F.map (·.1))).filterMap (look F)
theorem qVn{V:Type}{f:Int->Option V}:∀{l:List Int},(∀x∈l,∃r,f x=some r)->(l.filterMap f).length=l.length/\∀(i:Nat) (x:Int) (r:V),l[i]?=some x->f x=some r->(l.filterMap f)[i]?=some r:=by
 intro l
 induction l with
 |nil=>grind
 | cons y l ih=>
   intro h;have ⟨r0,h0⟩:=h y sI
   grind
theorem If{elem e:ah}{es b i c:Nat}{cs row:List AV}{y:AV}(hb:Hc s b e cs)(hy:SlR es s y [row])(hi:i<c)(hcs:cs.length=c*es)(hr:row.length=es)(ho:aX row=true)
  (hK:∀s',Hc s' b e (dB cs (i*es) row)->Upto b s s'->K (.slc b 0 (i+1) (some c) es) s'):appK elem es (.slc b 0 i (some c) es) y K s:=by
 refine aE hy.rd (aE hy.len ⟨rfl,?_⟩);have e1:ble (i+[row].length) c=true:=by rw[ble_eq];exact hi
 have hfl:([row]:List (List AV)).flatten=row:=sI;simp only[length_singleton,hfl];have hle:i*es+es<=c*es:=by
  have:(i+1)*es<=c*es:=mul_le_mul_right es hi
  grind
 have e2:ble (i+1) c=true:=by rw[ble_eq];exact hi
 have e3:ble (0+i*es+row.length) cs.length=true:=by simp_all
 have e4:wrN s (.ptr b (0+i*es)) row=some (hset s b (false,.cells e (dB cs (0+i*es) row))):=by
  grind [wrN]
 simp only[e2,aD,e4,ae];refine hK _ ?_ λ_ h=>eL h
 simp_all
theorem qVJ{cs row:List AV}{o:Nat}(h:o<=cs.length):(dB cs o row).take (o+row.length)=cs.take o++row:=by
 grind [dB]
theorem qWI{cs row:List AV}{o:Nat}(h:o+row.length<=cs.length):(dB cs o row).length=cs.length:=by
 grind [dB]
theorem Ig{r:List AV}(h:r.length=3):aM (repl 1 [Ii 0,Ii 0,.nilslc]) [(0,3,.agg r)]=some r:=by
 match r,h with
 |[a,b,c],_=>rfl
theorem Ih{z:List AV}{k:Nat}(h:z.length=3):(repl k z).length=k*3:=by
 induction k with
 |zero=>rfl
 | succ k ih=>
   grind [repl]
theorem An:∀{l m:List Int},cmpL m l=- cmpL l m:=by
 intro l
 induction l with
 |nil=>intro m;cases m<;>rfl
 | cons x l ih=>
   intro m;cases m with
   |nil=>rfl
   | cons y m=>
     grind [pG]
theorem Ij:∀{l m k:List Int},cmpL l m≠1->cmpL m k≠1->cmpL l k≠1:=by
 intro l
 induction l with
 |nil=>intro m k _ _;cases k<;>simp[cmpL]
 | cons x l ih=>
   intro m k h1 h2;cases m with
   |nil=>exact absurd rfl h1
   | cons y m=>
     cases k with
     |nil=>exact absurd rfl h2
     | cons z k=>
       grind [pG]
def uG(a b:Rec):Int:=cmpR a.2.1 b.2.1 a.2.2 b.2.2
def eO(nodes:Int)(F:List (Int×Rec)):Prop:=∀k r,look F k=some r->r.1=k/\chkR nodes r.1 r.2.1 r.2.2=0
def Geq(o:Option Rec)(r:Rec):Prop:=∃w,o=some w/\uG r w≠1
def nwT(x:Rec):Option Rec->Bool
 |none=>true
 |some v=>decide (uG x v=1)
def Ao(o o':Option Rec):Prop:=∀r,Geq o r->Geq o' r
theorem Ao.refl(o:Option Rec):Ao o o:=λ_ h=>h
theorem uH{x:Rec}{o:Option Rec}:nwT x o=true↔¬Geq o x:=by
 cases o with
 |none=>exact⟨λ_ h=>(by have ⟨w,e,_⟩:=h;cases e),λ_=>rfl⟩
 | some v=>
   unfold nwT;rw[decide_eq_true_iff];constructor
   ·rintro h ⟨w,e,hw⟩
    cases e;exact hw h
   intro h;exact Classical.byContradiction λq=>h ⟨v,rfl,q⟩
theorem Ao.nw{x:Rec}{o o':Option Rec}(h:Ao o o')(hx:nwT x o'=true):nwT x o=true:=uH.2 λq=>uH.1 hx (h x q)
def MapR(s:Hq)(b:Nat)(l:List (Int×AV)):Prop:=∃t es c,s b=some (t,.map es c)/\EsOK es c l
theorem MapR.get{s:Hq}{b:Nat}{l:List (Int×AV)}(h:MapR s b l){k:Int}:getM s (.map b) k=some (look l k):=by
 have ⟨t,es,c,hb,ho⟩:=h;have ⟨r,g1,g2,_⟩:=C9 (k:=k) (i:=0) ho.kv
 grind [getM]
theorem MapR.len{s:Hq}{b:Nat}{l:List (Int×AV)}(h:MapR s b l):lenM s (.map b)=some l.length:=by have ⟨t,es,c,hb,ho⟩:=h;simp[lenM,hb,ho.len]
theorem MapR.sub{s s':Hq}{b:Nat}{l:List (Int×AV)}(h:MapR s b l)(k:Sub s s'):MapR s' b l:=by have ⟨t,es,c,hb,ho⟩:=h;exact⟨t,es,c,k _ _ hb,ho⟩
theorem MapR.nd{s:Hq}{b:Nat}{l:List (Int×AV)}(h:MapR s b l):(l.map (·.1)).Nodup:=by have ⟨t,es,c,hb,ho⟩:=h;exact ho.nd
section
variable {K:AV→Hq→Prop} {s:Hq} {P:ay}
theorem Sq{P:ay}{T:ah}{fs:aQ}{L:List (aQ×aQ×ah)}(hP:SortedOK P T fs L){p:aQ×aQ×ah}(hp:p∈L){m b:Nat}{l:List (Int×AV)}(hb:s b=some (false,.one (.map m)))(hm:MapR s m l)(hl:l.length<=1000)
  (h:∀v s',Acc T s s' v (izs (eH (l.map (·.1))))->Sub s s'->K v s'):wC P fs [.fn (.func p.2.1) [] [Pp b]] K s:=by
 have ⟨tt,es,c,hes,ho⟩:=hm;exact Oi hP hp hb hes ho hl h
theorem Ik{P:ay}{T:ah}{fs:aQ}{L:List (aQ×aQ×ah)}(hP:SortedOK P T fs L){p:aQ×aQ×ah}(hp:p∈L){m b:Nat}{l:List (Int×AV)}(hb:s b=some (false,.one (.map m)))(hm:fK s m l)(hl:l.length<=1000)
  (h:∀v s',Acc T s s' v (izs (eH (l.map (·.1))))->Sub s s'->K v s'):wC P fs [.fn (.func p.2.1) [] [Pp b]] K s:=by
 have ⟨es,c,hes,ho⟩:=hm;exact Oi hP hp hb hes ho hl h
end
structure DbR(s:Hq)(d m:Nat)(nodes node last:Int)(F:List (Int×Rec)):Prop where
 dc:∃t,s d=some (t,.cells 217 [nodes,node,last,.map m])
 mp:∃l,MapR s m l/\Pairs (λv r=>∃lv,v=recV r.1 r.2.1 lv/\Sli s lv r.2.2) l F
 nn:1<=nodes/\nodes<=32/\0<=node/\node<nodes
 gd:∀k r,look F k=some r->r.1=k/\(0<=k/\k<nodes)/\r.2.2.length<=100000
theorem Db.rd(z:Db Fz s d m nodes node last F):DbR s d m nodes node last F:=by obtain⟨l,⟨es,c,h1,h2⟩,h3⟩:=z.mp;exact⟨⟨_,z.dc⟩,⟨l,⟨_,es,c,h1,h2⟩,h3.mono λa b ⟨lv,e,h4,_⟩=>⟨lv,e,h4⟩⟩,z.nn,z.gd⟩
theorem DbR.sub(z:DbR s d m nodes node last F)(k:Sub s s'):DbR s' d m nodes node last F:=by obtain⟨l,h1,h3⟩:=z.mp;obtain⟨t,h⟩:=z.dc;exact⟨⟨t,k _ _ h⟩,⟨l,h1.sub k,h3.mono λa b ⟨lv,e,h4⟩=>⟨lv,e,h4.sub k⟩⟩,z.nn,z.gd⟩
theorem DbR.frz(z:DbR s d m nodes node last F):DbR (frz s) d m nodes node last F:=by have ⟨l,⟨t,es,c,h1,h2⟩,h3⟩:=z.mp;have ⟨t',h⟩:=z.dc;exact⟨⟨_,eK h⟩,⟨l,⟨_,es,c,eK h1,h2⟩,h3.mono λa b ⟨lv,e,h4⟩=>⟨lv,e,h4.frz⟩⟩,z.nn,z.gd⟩
theorem Il(z:DbR s d m nodes node last F)(hK:K true s):wC TP 99 [Pp d] K s:=by refine PA ?_;have hp:decide ((0:Int)<nodes)=true:=aH (by have:=z.nn;omega);have ⟨t,zdc⟩:=z.dc;simp only[Em,nc,bJ,Bool.true_bne,Bool.not_false,bD,bQ,aK,zAY,au zdc,g0Y,dy,hp,yk,cy,ae];exact hK
theorem Im(z:DbR s d m nodes node last F){o:Rec}(hlk:look F n=some o)(hK:∀s' v',Sub s s'->Sli s' v' o.2.2->(∀b o1 n c,v'=.slc b o1 n c 1->o.2.2≠[]->s b=none)->K (.tup [recV o.1 o.2.1 v',true]) s'):wC TP 55 [Pp d,n] K s:=by
 refine WL (aI λb0 s1 hb0 h1 u1=>?_);have sub1:=u1.sub hb0;have z1:=z.sub sub1;refine Il z1 ?_;have p3:[AV.int .i64 nodes,node,last,.map m][3]?=some (.map m):=rfl;have ⟨l,hm,hp⟩:=z1.mp;rcases hp.look n with⟨_,h4⟩|⟨a,o',h3,h4,lo,rfl,hlo⟩
 ·rw[hlk]at h4;cases h4
 rw[hlk]at h4;cases h4;have hol:=(z.gd _ _ hlk).2.2;simp only[cQ,Bool.not_true,aR,bQ,aK,zAY,au (Classical.choose_spec z1.dc),p3,hm.get,h3,retM,aD,ext0,ext1,ae];refine aI λb2 s2 hb2 h2 u2=>cD h2 rfl rfl (by rw[dh,dh,dh,hlo.one];rfl) λs3 h3' u3=>?_;have h3':Hc s3 b2 34 [o.1,o.2.1,lo]:=h3';have sub13:Sub s1 s3:=(u2.sub hb2).upto u3 hb2;simp only[bX (n:=3) h3' rfl,ae];refine R9 (hlo.sub sub13) oM λv4 s4 sub4 sl4 fr4=>?_;have h14:=sub4 _ _ (sub13 _ _ h1);refine cD h14 rfl rfl (by rw[dh,dh,dh,sl4.one];rfl) λs5 h5 u5=>?_;have h5:Hc s5 b0 34 [o.1,o.2.1,v4]:=h5;simp only[bX (n:=3) h5 rfl,ae];have old:∀b,s3 b=none->s b=none:=λb hb=>by
  cases q:s b with
  |none=>rfl
  |some x=>rw[sub13 _ _ (sub1 b x q)]at hb;cases hb
 refine hK s5 v4 (((sub1.trans sub13).trans sub4).upto u5 hb0) ?_ λb o1 n c e hne=>old b (fr4 b o1 n c e hne);refine sl4.keep (fp:=λi=>i=b0) (u5.keep rfl) λb o n c e hne hb=>?_;have:=fr4 b o n c e (by simpa using hne);rw[hb,sub13 _ _ h1]at this;cases this
variable{s0:Hq}
def Fre(s s':Hq)(v:AV)(l:List Int):Prop:=∀b o n c,v=.slc b o n c 1->l≠[]->s b=none/\∃e cs,Hc s' b e cs
theorem In{v:AV}{l:List Int}(h:Sli s v l)(hl:l.length<=10000000)(hK:∀v' s',Sub s s'->Sli s' v' l->Fre s s' v' l->K v' s'):wC TP 105 [v] K s:=by
 refine yl ?_;have cases0:(v=.nilslc/\l=[])∨∃b o c,v=.slc b o l.length c 1:=by
  rcases h with⟨a,b⟩|⟨b,o,c,a,_⟩
  simp_all
  grind
 rcases cases0 with⟨rfl,rfl⟩|⟨b,o,c,rfl⟩;exact hK _ _ (.refl s) h λ_ _ _ _ _ h=>absurd rfl h
 ·simp only[me,kY,bJ,Bool.false_bne,ae,aR]
  refine aE (a:=[]) rfl ⟨rfl,aI λd s1 hd h1 u1=>?_⟩;have sub1:=u1.sub hd;refine se (h.sub sub1) gR λv' s2 sub2 q1 q2=>hK v' s2 (sub1.trans sub2) ?_ λb o n c e hne=>?_
  by_cases e:l=[]
  subst e;rw[q1 rfl];exact .inr ⟨d,0,some 0,rfl,sI,λh=>absurd rfl h⟩;have ⟨c,e1,e2,e3⟩:=q2 (by simpa using e)
  grind [Sl.mk]
  ·have ⟨c,e1,e2,e3⟩:=q2 (by simpa using hne)
   rw[e2]at e
   injection e with e
   rw[<- e];refine⟨?_,_,_,e3⟩;cases q:s c with
   |none=>rfl
   |some x=>rw[sub1 c x q]at e1;cases e1
theorem Io{n q:Int}{v:AV}{l:List Int}(h:Sli s v l)(hl:l.length<=10000000)(hK:∀v' s',Sub s s'->Sli s' v' l->Fre s s' v' l->K (recV n q v') s'):wC TP 102 [recV n q v] K s:=by
 refine PB (box3 rfl rfl h.one λb0 s1 hb0 h1 u1=>aI λb2 s2 hb2 h2 u2=>?_);have sub1:=u1.sub hb0;have sub2:=sub1.trans (u2.sub hb2);have h12:=u2.sub hb2 _ _ h1;have hne:=dZ hb2 h1;have q2:[AV.int .i64 n,q,v][2]?=some v:=rfl;simp only[aK,zAY,au h12,q2,ae];refine In (h.sub sub2) hl λv' s3 sub3 sl3 fr3=>?_;have h13:=sub3 _ _ h12;refine cw h13 sI sl3.one λs4 h4 u4=>?_;have h4:Hc s4 b0 34 [n,q,v']:=h4;have h24:=(u4 b2 hne.symm).trans (sub3 _ _ h2);simp only[bX (n:=3) h4 rfl,ae];refine cD h24 rfl rfl (by rw[dh,dh,dh,sl3.one];rfl) λs5 h5 u5=>?_;simp only[bX (n:=3) h5 rfl,ae];have old:∀b,s2 b=none->s b=none:=λb hb=>by
  cases q:s b with
  |none=>rfl
  |some x=>rw[sub2 b x q]at hb;cases hb
 have hb0s:=hb0;have hb2s:s b2=none:=by
  cases q:s b2 with
  |none=>rfl
  |some x=>rw[sub1 b2 x q]at hb2;cases hb2
 have far:∀b o n c,v'=.slc b o n c 1->l≠[]->b≠b0/\b≠b2:=λb o n c e hne=>by
  have:=(fr3 b o n c e hne).1
  grind
 refine hK v' s5 (((sub2.trans sub3).upto u4 hb0s).upto u5 hb2s) ?_ λb o n c e hne=>?_;refine Sl.keep (fp:=λi=>i=b0∨i=b2) sl3 ((u4.keep (.inl rfl)).trans (u5.keep (.inr rfl))) λb o n c e hne=>?_
 grind
 have ⟨h0,e0,cs0,h9⟩:=fr3 b o n c e hne;have ⟨n1,n2⟩:=far b o n c e hne;exact⟨old b h0,e0,cs0,by rw[u5 b n2,u4 b n1];exact h9⟩
def RcW(s0 s:Hq)(v:AV)(rs:List Rec):Prop:=∃rows,SlR 3 s v rows/\rows.length=rs.length/\(∀b o n c,v=.slc b o n c 3->rows≠[]->s0 b=none)/\∀(i:Nat) (r:Rec),rs[i]?=some r->∃lv,rows[i]?=some [Ii r.1,Ii r.2.1,lv]/\Sli s lv r.2.2/\∀b o n c,lv=.slc b o n c 1->r.2.2≠[]->s0 b=none/\(∃e cs,Hc s b e cs)/\∀b' o' n' c',v=.slc b' o' n' c' 3->b≠b'
theorem RcW.sub{rs:List Rec}(h:RcW s0 s v rs)(k:Sub s s'):RcW s0 s' v rs:=by
 have ⟨rows,h1,h2,h0,h3⟩:=h;refine⟨rows,h1.sub k,h2,h0,λi r hi=>?_⟩;have ⟨lv,e1,e2,e3⟩:=h3 i r hi;exact⟨lv,e1,e2.sub k,λb o n c e hne=>by have ⟨a,⟨e',cs,b'⟩,c'⟩:=e3 b o n c e hne;exact⟨a,⟨e',cs,k _ _ b'⟩,c'⟩⟩
theorem Ip(z:Db Fz s d m nodes node last F)(hK:∀v s',Sub s s'->RcW s s' v (allR F)->K v s'):wC TP 60 [Pp d] K s:=by
 refine WC (zZ z ?_);have p3:[AV.int .i64 nodes,node,last,.map m][3]?=some (.map m):=rfl;have ⟨hnd,hlen⟩:=z.short;have ⟨l,hm,hp⟩:=z.mp;have hkeys:=hp.keys;have hll:l.length=F.length:=by have:=aJ List.length hkeys;simpa using this
 have n0:nat? (Ii 0)=some 0:=rfl;simp only[cQ,Bool.not_true,aR,bQ,aK,zAY,au z.dc,p3,hm.len,n0,nat?_mk,ae];refine⟨⟨zero_le _,oM⟩,aI λb1 s1 hb1 h1 u1=>?_⟩;have sub1:=u1.sub hb1;have z1:=z.sub sub1;have hm1:fK s1 m l:=by have ⟨es,c,e,ho⟩:=hm;exact⟨es,c,sub1 _ _ e,ho⟩
 simp only[au z1.dc,p3,ae];refine Dh Go.Proofs.YtcmcofklcgafiaaGreat.sortedOK (p:=(114,144,215)) sI λb2 s2 hb2 h2 u2=>?_;have sub2:=u2.sub hb2;have hm2:fK s2 m l:=by have ⟨es,c,e,ho⟩:=hm1;exact⟨es,c,sub2 _ _ e,ho⟩
 refine LS.Ik Go.Proofs.YtcmcofklcgafiaaGreat.sortedOK sI h2 hm2 oM λv17 s3 acc3 sub3=>?_;rw[hkeys]at acc3;have sub13:=sub2.trans sub3;have sub03:=sub1.trans sub13;have ks:(eH (F.map (·.1))).length=F.length:=by rw[(ii _).length_eq,lMY]
 have hin:∀x∈eH (F.map (·.1)),∃r,look F x=some r:=λx hx=>Sp ((ii _).mem_iff.1 hx);have ⟨al,aa⟩:=qVn hin;simp only[acc3.sl.len,lMY,ks,ae];have acc3':Acc 3 s s3 v17 (izs (eH (F.map (·.1)))):=by
  rcases acc3 with h|⟨b,h0,a,h2⟩;exact .inl h
  ·refine .inr ⟨b,?_,a,h2⟩
   cases q:s b with
   |none=>rfl
   |some y=>rw[sub2 b y (sub1 b y q)]at h0;cases h0
 rw[hll]at h1 ⊢;refine⟨λys s4 k=>∃(i:Nat) (cs:List AV) (rows:List (List AV)),ys=[.slc b1 0 i (some F.length) 3,Ii i]/\i<=F.length/\k=F.length-i/\Sub s s4/\Acc 3 s s4 v17 (izs (eH (F.map (·.1))))/\
  Hc s4 b1 34 cs/\cs.length=F.length*3/\rows.length=i/\(∀r∈rows,r.length=3)/\cs.take (i*3)=rows.flatten/\
  ∀(j:Nat) (r:Rec),j<i->(allR F)[j]?=some r->∃lv,rows[j]?=some [Ii r.1,Ii r.2.1,lv]/\Sli s4 lv r.2.2/\∀b o n c,lv=.slc b o n c 1->r.2.2≠[]->b≠b1/\s b=none/\∃e cs,Hc s4 b e cs,
  ⟨_,0,_,[],rfl,oM,rfl,sub03,acc3',sub13 _ _ h1,Ih rfl,rfl,sI,sI,λj r h=>oM⟩,?_⟩
 rintro f s4 k ⟨i,cs,rows,hy,hi,rfl,sub4,acc4,h4,hcs,hrl,hr3,htk,hrows⟩;simp only[cI,aq]at hy;rw[hy.1,hy.2];have z4:=z.sub sub4;simp only[Po,bu,ae,aS];refine aL (λhlt=>?_) (λhge=>?_)
 ·have hlt:i<F.length:=gR
  have hik:i<(eH (F.map (·.1))).length:=by rw[ks];exact hlt
  have ⟨p,g1,g2⟩:=acc4.sl.get (i:=i) gR;have e1:(izs (eH (F.map (·.1))))[i]?=some (Ii (eH (F.map (·.1)))[i]):=by simp[hik]
  rw[e1]at g2;have ⟨l4,hm4,hp4⟩:=z4.mp;have ⟨o,ho⟩:=hin _ (aN hik);have hall:(allR F)[i]?=some o:=aa i _ o (gE hik) ho;rcases hp4.look (eH (F.map (·.1)))[i]with⟨_,h6⟩|⟨a,o2,h5,h6,lo,rfl,hlo,_⟩
  ·rw[h6]at ho;cases ho
  ·rw[ho]at h6;cases h6
   have hol:=(z.gd _ _ ho).2.2;simp only[g1,g2,bQ,aK,zAY,au z4.dc,p3,hm4.get,h5,retM,cond_false,ae];refine Io hlo oM λlv' s5 sub5 sl5 fr5=>?_;have h5b:=sub5 _ _ h4;refine aE (Ig rfl) ⟨by show aX [AV.int .i64 o.1,o.2.1,lv']=true;rw[dh,dh,dh,sl5.one];rfl,aI λb6 s6 hb6 h6 u6=>?_⟩;have sub6:=u6.sub hb6;have lit:SlR 3 s6 (.slc b6 0 1 (some 1) 3) [[o.1,o.2.1,lv']]:=SlR.mk (rows:=[[o.1,o.2.1,lv']]) (by intro r hr;rw[bN]at hr;subst hr;rfl) (by simpa using h6) rfl sI;have hb1s:=hb1;refine If (sub6 _ _ h5b) lit hlt hcs rfl (by rw[dh,dh,dh,sl5.one];rfl) λs7 h7 u7=>?_;have sub46:=sub5.trans sub6;have sub7:=(sub4.trans sub46).upto u7 hb1s;have hle:i*3+3<=cs.length:=by rw[hcs];omega
   simp only[bg,ae];rw[aT];refine⟨F.length-(i+1),oM,i+1,_,rows ++ [[Ii o.1,Ii o.2.1,lv']],rfl,oM,rfl,sub7,?_,h7,?_,by rw[lAp,hrl];rfl,λr hr=>?_,?_,λj r hj hr=>?_⟩;rcases acc4 with h|⟨b,h0,a,h2⟩;exact .inl h;refine .inr ⟨b,h0,a,?_⟩;rw[u7 b gR];exact sub46 _ _ h2;rw[qWI oM];exact hcs;rw[mem_append,bN]at hr;rcases hr with hr|rfl;exact hr3 r hr;rfl;have:=qVJ (cs:=cs) (row:=[o.1,o.2.1,lv']) (o:=i*3) oM;rw[show(i+1)*3=i*3+[AV.int .i64 o.1,o.2.1,lv'].length by show(i+1)*3=i*3+3;omega,this,htk,flatten_append];simp
   ·by_cases e:j=i
    ·subst e
     rw[hall]at hr;cases hr;refine⟨lv',by rw[ez oM,hrl,Nat.sub_self];rfl,?_,λb o1 n1 c1 e hne=>?_⟩;refine(sl5.sub sub6).keep (fp:=λi=>i=b1) (u7.keep rfl) λb o1 n1 c1 e hne hb=>?_;have:=(fr5 b o1 n1 c1 e (by simpa using hne)).1
     grind
     ·have ⟨this,e0,cs0,h0⟩:=fr5 b o1 n1 c1 e hne
      have hb1b:b≠b1:=gR;refine⟨hb1b,?_,e0,cs0,by rw[u7 b hb1b];exact sub6 _ _ h0⟩;cases q:s b with
      |none=>rfl
      |some x=>rw[sub4 b x q]at this;cases this
    have ⟨lv,x1,x2,x3⟩:=hrows j r oM hr;exact⟨lv,by rw[da oM];exact x1,(x2.sub sub46).keep (fp:=λi=>i=b1) (u7.keep rfl) λb o1 n1 c1 e hne=>(x3 b o1 n1 c1 e (by simpa using hne)).1,λb o1 n1 c1 e hne=>by have ⟨y1,y2,e0,cs0,h0⟩:=x3 b o1 n1 c1 e hne;exact⟨y1,y2,e0,cs0,by rw[u7 b y1];exact sub46 _ _ h0⟩⟩
 ·have hge:i=F.length:=gR
  subst hge;rw[take_of_length_le oM]at htk;have al2:(allR F).length=F.length:=al.trans ks;refine hK _ s4 sub4 ⟨rows,?_,by rw[hrl,al2],λb o n c e _=>?_,λj r hr=>?_⟩
  ·refine SlR.mk hr3 (by rw[<- htk];exact h4) hrl.symm λc e=>by cases e;omega
  grind
  have hj:j<F.length:=by
   grind
  have ⟨lv,x1,x2,x3⟩:=hrows j r hj hr;exact⟨lv,x1,x2,λb o n c e hne=>⟨(x3 b o n c e hne).2.1,(x3 b o n c e hne).2.2,gR⟩⟩
variable{w:AV}
theorem _root_.Go.AM.Sl.was{l:List AV}(h:Sl s v l):∀b o n c,v=.slc b o n c 1->l≠[]->s b≠none:=λb o n c e hne=>by
 rcases h with⟨_,hn⟩|⟨b',o',c',a1,_,a3⟩;exact absurd hn hne
 grind
theorem Db.more(z:Db Fz s d m nodes node last F):Db (λb=>Fz b∨s b=none) s d m nodes node last F:=by
 obtain⟨l,⟨es,c,h1,h2⟩,h3⟩:=z.mp;refine⟨z.dc,⟨l,⟨es,c,h1,h2⟩,h3.mono λa b ⟨lv,e,h4,h5⟩=>⟨lv,e,h4,λb' o n c e' hne=>⟨?_,(h5 b' o n c e' hne).2⟩⟩⟩,?_,?_,z.nn,z.gd⟩;rintro (h|h)
 grind
 exact h4.was b' o n c e' (by simpa using hne) h
 ·rintro (h|h)
  exact z.fd h
  ·rw[z.dc]at h;cases h
 grind [fm]
def gotR(F:List (Int×Rec))(n:Int):Rec:=(look F n).getD (0,0,[])
theorem zV{x y:Int}(hK:K (decide (x<y)) s):wC TP 107 [x,y] K s:=by
 refine Xe (GT ?_)
 grind [aR,Eo,ct,cP,bu,En]
theorem Ir{x:Int}(hK:K false s):wC TP 108 [x] K s:=by
 grind [Xf,PK,cj,bJ,cP]
theorem cv_u{x:Nat}(h:x<1000000000):dX .u64 x=some (Iq x):=by
 show some (AV.int .u64 (dw .u64 (x:Int)))=_;rw[gz]
 congr 2
 simp only[aA.wrap,aA.signed,aA.bits];simp;omega
theorem cv_i{x:Nat}(h:x<1000000000):dX .i64 (Iq x)=some (Ii x):=by
 show some (AV.int .i64 (dw .i64 (x:Int)))=_
 grind [gz,aT]
theorem shr1{x:Nat}:fN .shr (Iq x) (Iq 1)=some (Iq ((x / 2:Nat))):=by
 show frc ((x:Int).fdiv ((2^(min 1 (aA.bits .u64)):Nat):Int)) (λn=>some (AV.int .u64 n))=_;rw[eQ]
 congr 2
 show(x:Int).fdiv ((2:Nat):Int)=_
 grind
theorem Is{l:List Int}{x:Int}(h:Sli s v l)(hl:l.length<=1000000)(ha:l.Pairwise (· < ·))(hK:∀r,K (.tup [r,(decide (x∈l))]) s):wC TP 56 [v,x] K s:=by
 refine Xc ?_;have lt:∀{i j:Nat}(hi:i<l.length) (hj:j<l.length),i<j->l[i]<l[j]:=λhi hj hij=>cE.1 ha _ _ hi hj hij;simp only[PJ,h.len,lMY,ae,bG];refine⟨λys t k=>∃i j:Nat,ys=[Ii i,Ii j]/\t=s/\i<=j/\j<=l.length/\k=j-i/\(∀a (ha:a<l.length),a<i->l[a]<x)/\∀a (ha:a<l.length),j<=a->x<=l[a],⟨_,0,l.length,rfl,rfl,oM,oM,rfl,λa _ h=>oM,λa h1 h2=>oM⟩,?_⟩;rintro en t k ⟨i,j,hy,rfl,hij,hj,rfl,lo,hi⟩;simp only[cI,aq]at hy;rw[hy.1,hy.2];simp only[PI,bu,ae,aS];refine aL (λhlt=>?_) (λhge=>?_);have hlt:i<j:=by have:=oT hlt;omega
 simp only[bg,ae];rw[aT,show(i:Int)+(j:Int)=((i+j:Nat):Int)from by omega,cv_u oM];simp only[ae,shr1];rw[cv_i oM];have hm:(i+j) / 2<l.length:=oM;have ⟨p,e1,e2⟩:=gC h hm;simp only[ae,e1,e2];refine zV ?_;refine aL (λq=>?_) (λq=>?_);have q:=oT q;simp only[bg,ae];rw[aT];refine⟨_,oM,(i+j) / 2+1,j,rfl,(by trivial),oM,hj,rfl,λa ha h=>?_,hi⟩
 by_cases e:a=(i+j) / 2
 subst e;exact q
 grind
 have q:=oF q;refine⟨_,oM,i,(i+j) / 2,rfl,(by trivial),oM,oM,rfl,lo,λa ha h=>?_⟩
 by_cases e:a=(i+j) / 2
 subst e;omega
 grind
 have hge:i=j:=gR;subst hge;refine aL (λhlt=>?_) (λhge=>?_);have hlt2:i<l.length:=gR;have ⟨p,e1,e2⟩:=gC h hlt2;simp only[e1,e2,ae,cj,bJ,Bool.false_bne];refine aL (λq=>?_) (λq=>?_)
 grind [cy,cP]
 have q':l[i]≠x:=by simpa using q
 refine Ir ?_;rw[hlt,q];have hn:x ∉ l:=λhx=>by obtain⟨a,ha,rfl⟩:=mem_iff_getElem.1 hx;rcases Nat.lt_trichotomy a i with h|h|h;have:=lo a ha h;omega;subst h;exact q' rfl;have h1:=hi i hlt2 oM;have h2:=lt hlt2 ha h;omega
 have:=hK i
 rwa [aC hn]at this
 rw[hge];simp only[ct,ae];have hn:x ∉ l:=λhx=>by
  obtain⟨a,ha,rfl⟩:=mem_iff_getElem.1 hx
  grind
 grind
theorem Iu{l k:List Int}(h:Sli s v l)(h':Sli s w k)(hl:l.length<=10000000)(hK:K (l == k) s):wC TP 112 [v,w] K s:=by
 refine W6 ?_;simp only[PE,h.len,h'.len,ae,cj,bJ,lMY,Bool.true_bne,bG];refine aL (λhne=>?_) (λheq=>?_);have:(l == k)=false:=by
  grind
 rw[<- this];exact hK;have hlm:l.length=k.length:=by
  grind
 refine⟨λys s1 n=>∃i:Nat,ys=[Ii i]/\s1=s/\i<=l.length/\n=l.length-i/\(l == k)=(l.drop i == k.drop i),⟨_,0,rfl,rfl,oM,rfl,sI⟩,?_⟩;rintro f s1 n ⟨i,hy,rfl,hi,rfl,he⟩;simp only[cI,aq]at hy;rw[hy];simp only[PD,ae,bu,aS];refine aL (λhlt=>?_) (λhge=>?_);have hlt:i<l.length:=by simpa using hlt
 have ⟨p,g1,g2⟩:=gC h hlt;have ⟨p',g3,g4⟩:=gC h' (k:=i) oM;rw[dG hlt,dG (show i<k.length by omega),cons_beq_cons]at he;simp only[g1,g2,g3,g4,ae,cj,bJ,Bool.true_bne];rcases hq:(l[i] == k[i])with _|_
 simp_all
 rw[hq,Bool.true_and]at he;simp only[Bool.not_true,aR,bg,ae];rw[aT];exact⟨_,oM,i+1,sI,by trivial,oM,rfl,he⟩
 grind
def lsB(F:List (Int×Rec))(n k:Int):Bool:=decide (k∈(gotR F n).2.2)
def AscF(F:List (Int×Rec)):Prop:=∀k r,look F k=some r->r.2.2.Pairwise (· < ·)
theorem Sr{k:Int}(z:Db Fz s d m nodes node last F)(ha:AscF F)(hK:K (lsB F n k) s):wC TP 119 [Pp d,n,k] K s:=by refine W2 ?_;unfold PC;have p3:[AV.int .i64 nodes,node,last,.map m][3]?=some (.map m):=rfl;have ⟨l,hm,hp⟩:=z.mp;unfold lsB gotR at hK;rcases hp.look n with⟨h3,h4⟩|⟨a,o,h3,h4,lo,rfl,hlo,_⟩;simp only[bQ,aK,zAY,au z.dc,p3,hm.get,h3,retM,cond_false,ae];rw[h4]at hK;refine aE (a:=.nilslc) rfl (Is (l:=[]) (.inl ⟨rfl,rfl⟩) sI List.Pairwise.nil λr=>?_);exact aE (a:=r) rfl (aE (a:=_) rfl hK);simp only[bQ,aK,zAY,au z.dc,p3,hm.get,h3,retM,cond_false,ae];rw[h4]at hK;have hol:=(z.gd _ _ h4).2.2;refine aE (a:=lo) rfl (Is hlo oM (ha _ _ h4) λr=>?_);exact aE (a:=r) rfl (aE (a:=_) rfl hK)
abbrev Lnk:=Int×Int×Int
def lnR(x:Lnk):List AV:=[x.1,x.2.1,x.2.2]
def fw(f:Int->Int->Bool)(links:List Lnk):List Bool:=if 128<links.length then[]else(List.range links.length).map λ(i:Nat)=>f ((links[i]?.getD (0,0,0)).1) (i:Int)&&f ((links[i]?.getD (0,0,0)).2.1) (i:Int)
theorem uI{links:List Lnk}(z:Db Fz s d m nodes node last F)(ha:AscF F)(hv:SlR 3 s v (links.map lnR))(hlen:links.length<=1000000)(hK:∀v' s',Sub s s'->Sl s' v' ((fw (lsB F) links).map AV.bool)->(∀b o n c,v'=.slc b o n c 1->s b=none)->K v' s'):wC TP 69 [Pp d,v] K s:=by
 refine WF (zZ z ?_);have lenv:cM v=some links.length:=by rw[hv.len,lMY]
 simp only[cQ,Bool.not_true,aR,lenv,dy,ae,Ej,ct,bG];refine aL (λq=>?_) (λq=>?_)
 ·have q:=oT q
  refine hK _ s (.refl _) ?_ (λ_ _ _ _ e=>by cases e);unfold fw;rw[ak oM];exact .inl ⟨rfl,rfl⟩
 have q:=oF q;have n1:nat? links.length=some links.length:=nat?_mk;refine⟨⟨Nat.le_refl _,oM⟩,aI λb8 s9 hb8 h9 u9=>?_⟩;have k9:=u9.sub hb8
 let g:Nat->Bool:=λi=>lsB F ((links[i]?.getD (0,0,0)).1) (i:Int)&&lsB F ((links[i]?.getD (0,0,0)).2.1) (i:Int)
 have rl:∀k:Nat,(repl k [AV.bool false]).length=k:=λk=>by
  induction k with
  |zero=>rfl
  |succ k ih=>simp_all [repl]
 refine⟨λys t k=>∃(i:Nat) (cs:List AV),ys=[Ii i]/\i<=links.length/\k=links.length-i/\Sub s t/\Hc t b8 4 cs/\cs.length=links.length/\∀j,j<i->cs[j]?=some (g j),⟨_,0,_,rfl,oM,rfl,k9,h9,rl _,λj h=>oM⟩,?_⟩;rintro en t k ⟨i,cs,hy,hi,rfl,kt,hb,hcs,hdone⟩;simp only[cI,aq]at hy;rw[hy];simp only[Pq,bu,ae];refine aL (λhlt=>?_) (λhge=>?_);have hlt:i<links.length:=gR;have hx:=gE hlt;have ⟨pb,po,e1,e2,_⟩:=(hv.sub kt).get (i:=i) (r:=lnR links[i]) gR;simp only[e1,e2,ae];refine aI λb15 s16 hb15 h16 u16=>cD h16 rfl rfl rfl λs17 h17 u17=>?_;have k17:=(u16.sub hb15).upto u17 hb15;have z17:=z.sub (kt.trans k17);have y0:(lnR links[i])[0]?=some (Ii links[i].1):=rfl;have y1:(lnR links[i])[1]?=some (Ii links[i].2.1):=rfl;have ia:cF 1 (.slc b8 0 links.length (some links.length) 1) i=some (.ptr b8 i):=by
  have:blt i links.length=true:=by simp_all
  simp[cF,this]
 have gi:g i=(lsB F links[i].1 (i:Int)&&lsB F links[i].2.1 (i:Int)):=by show(lsB F ((links[i]?.getD (0,0,0)).1) (i:Int)&&lsB F ((links[i]?.getD (0,0,0)).2.1) (i:Int))=_;rw[hx];rfl
 have fin:∀b,g i=b->oK (wr1 s17 (.ptr b8 i) b) λs_24=>oK (cZ .add i (Ii 1)) λv_25=>∃m',m'<links.length-i/\∃(i:Nat) (cs:List AV),[v_25]=[AV.int .i64 (i:Int)]/\i<=links.length/\m'=links.length-i/\Sub s s_24/\Hc s_24 b8 4 cs/\cs.length=links.length/\∀j,j<i->cs[j]?=some (g j):=λb hg=>by
  refine cw (k17 _ _ hb) oM rfl λs24 h24 u24=>?_;simp only[bg,ae];rw[aT];refine⟨_,oM,i+1,_,rfl,oM,rfl,(kt.trans k17).upto u24 hb8,h24,gR,λj hj=>?_⟩
  by_cases e:j=i
  grind
  grind
 simp only[aK,zAY,ae,au h17,y0];refine Sr z17 ha ?_;rcases q1:lsB F links[i].1 (i:Int)with _|_;simp only[aR,yj,ct,ae,ia,aS];exact fin false (by rw[gi,q1];rfl);simp only[bD,ae,au h17,y1];refine Sr z17 ha ?_;simp only[yj,cy,ae,ia,aS];exact fin _ (by rw[gi,q1,Bool.true_and]);have hge:i=links.length:=gR;subst hge;have hv:(fw (lsB F) links)=(List.range links.length).map g:=by unfold fw;rw[aj oM]
 refine hK _ t kt ?_ (gR);rw[hv];have hc:cs=((List.range links.length).map g).map AV.bool:=by
  apply ext_getElem?
  grind
 grind [Sl.mk]
structure OwnG where
 r:Rec
 nw:Bool
 err:Int
 last:Int
 F:List (Int×Rec)
def ownN(node last:Int)(F:List (Int×Rec))(L:List Int):OwnG:=if 1073741824<=last then⟨(0,0,[]),false,7,last,F⟩else⟨(node,last+1,L),true,0,last+1,stor F node (node,last+1,L)⟩
def ownR(node last:Int)(F:List (Int×Rec))(L:List Int):OwnG:=
 if chkL none L≠0 then⟨(0,0,[]),false,chkL none L,last,F⟩else
 match look F node with
 |some o=>if o.2.2=L then⟨o,false,0,last,F⟩else ownN node last F L
 |none=>ownN node last F L
def inL(v:AV)(l:List Int)(b:Nat):Prop:=l≠[]/\∃o n c,v=.slc b o n c 1
theorem Aq{Fy:Nat->Prop}{b0:Nat}{r:Rec}{lv w4:AV}{s4:Hq}{old:List AV}(z:Db Fy s d m nodes node last F)(hb0:Fy b0)(h0:Hc s b0 34 old)(ho:old.length=3)(hw:w4=recV r.1 r.2.1 lv)(k4:Sub s s4)(sl:Sli s4 lv r.2.2)(fr:Fre s s4 lv r.2.2){R:AV->Hq->Prop}
  (hK:∀s5,aV (λi=>i=b0) s s5->Db (λb=>Fy b∨inL lv r.2.2 b) s5 d m nodes node last F->Sli s5 lv r.2.2->Fre s s5 lv r.2.2->R (.agg [r.1,r.2.1,lv]) s5):oK (dP s4 3 (Pp b0) w4) λs_30=>oK (rdN s_30 3 (Pp b0)) λt4=>R (.agg t4) s_30:=by
 subst hw;have h4:=k4 _ _ h0;have far:∀b o n c,lv=.slc b o n c 1->r.2.2≠[]->b≠b0:=λb o n c e hne=>by
  have:=(fr b o n c e hne).1
  grind
 refine cD h4 (by rw[ho];rfl) ho (by rw[dh,dh,dh,sl.one];rfl) λs5 h5 u5=>?_;have h5:=h5;refine aE (bX (n:=3) h5 rfl) (hK s5 ?_ ?_ ?_ ?_);exact λi e hi hn=>by rw[u5 i hn];exact k4 i e hi
 have z4:=(z.more.sub k4).keep (u5.keep (fp:=λi=>i=b0) rfl) ((by simp_all));exact z4.weak λb hb=>by rcases hb with hb|⟨hne,o,n,c,e⟩;exact .inl hb;exact .inr (fr b o n c e hne).1
 exact sl.keep (fp:=λi=>i=b0) (u5.keep rfl) gR;exact λb o n c e hne=>by have ⟨g1,e0,cs0,g2⟩:=fr b o n c e hne;exact⟨g1,e0,cs0,by rw[u5 b (far b o n c e hne)];exact g2⟩
theorem uJ{s1:Hq}:Fre s s1 v []:=λ_ _ _ _ _ h=>absurd rfl h
theorem Iv{s1:Hq}(h:Fre s1 s' v L)(k:∀b,s1 b=none->s b=none):Fre s s' v L:=λb o n c e hne=>⟨k b (h b o n c e hne).1,(h b o n c e hne).2⟩
theorem Ix(z:Db Fz s d m nodes node last F)(hF:∀b,Fz b->s b≠none)(h:Sli s v L)(hl:L.length<=100000)(h0:0<=last)
  (hK:∀s' lv,aV (λi=>i=d∨i=m) s s'->Db (λb=>Fz b∨inL lv (ownR node last F L).r.2.2 b) s' d m nodes node (ownR node last F L).last (ownR node last F L).F->Sli s' lv (ownR node last F L).r.2.2->Fre s s' lv (ownR node last F L).r.2.2->K (.tup [recV (ownR node last F L).r.1 (ownR node last F L).r.2.1 lv,(ownR node last F L).nw,(ownR node last F L).err]) s'):wC TP 58 [Pp d,v] K s:=by
 refine WQ (aI λb0 s1 hb0 h1 u1=>?_);have sub1:=u1.sub hb0;have nd:s d≠none:=by rw[z.dc];simp
 have nm:s m≠none:=by have ⟨l,⟨es,c,e,_⟩,_⟩:=z.mp;rw[e];simp
 have m0:b0≠m:=by rintro rfl;exact nm hb0
 have z1:Db (λb=>Fz b∨b=b0) s1 d m nodes node last F:=(z.more.sub sub1).weak λb hb=>by
  grind
 have hF1:∀{t:Hq},Sub s1 t->∀b,(Fz b∨b=b0)->t b≠none:=fun {t} k b hb=>by
  rcases hb with hb|rfl
  ·cases e:s b with
   |none=>exact absurd e (hF b hb)
   |some x=>rw[k _ _ (sub1 b x e)];simp
  ·rw[k _ _ h1];simp
 have back:∀{t:Hq},aV (λi=>i=d∨i=m) s1 t->t d≠none->t m≠none->∀b,t b=none->s b=none:=fun {t} k hd hm b hb=>by
  cases q:s b with
  |none=>rfl
  | some x=>
    by_cases hf:b=d∨b=m
    ·grind
    ·rw[k b x (sub1 b x q) hf]at hb;cases hb
 refine zZ z1 ?_;refine R8 (h.sub sub1) oM ?_;simp only[cj,bJ,Bool.true_bne,ae];have fin:∀{g:OwnG}{t t5:Hq}{lv:AV},ownR node last F L=g->aV (λi=>i=d∨i=m) s1 t->t d≠none->t m≠none->aV (λi=>i=b0) t t5->Db (λb=>(Fz b∨b=b0)∨inL lv g.r.2.2 b) t5 d m nodes node g.last g.F->Sli t5 lv g.r.2.2->Fre t t5 lv g.r.2.2->K (.tup [.agg [g.r.1,g.r.2.1,lv],g.nw,g.err]) t5:=fun {g t t5 lv} hg k hd hm k5 z5 sl fr=>by
  rw[hg]at hK;refine hK t5 lv ?_ (z5.weak λb hb=>?_) sl (Iv fr (back k hd hm))
  ·intro i e hi hn
   have hib:i≠b0:=gR;exact k5 i e (k i e (sub1 i e hi) hn) hib
  grind
 have d1:s1 d≠none:=by rw[z1.dc];simp
 have m1:s1 m≠none:=by have ⟨l,⟨es,c,e,_⟩,_⟩:=z1.mp;rw[e];simp
 cases a0:(chkL none L == 0)with
 | false=>
   simp only[Bool.not_false,bD];refine Aq (r:=(0,0,[])) (lv:=.nilslc) (R:=λx t=>K (.tup [x,false,(chkL none L:Int)]) t) z1 (.inr rfl) h1 rfl rfl (.refl _) (.inl ⟨rfl,rfl⟩) uJ λs5 k5 z5 sl5 fr5=>?_;have hg:ownR node last F L=⟨(0,0,[]),false,chkL none L,last,F⟩:=by grind [ownR]
   exact fin hg (λi e hi _=>hi) d1 m1 k5 z5 sl5 fr5
 |true=>
 have a0:=eq_of_beq a0;have hown:ownR node last F L=match look F node with
   |some o=>if o.2.2=L then⟨o,false,0,last,F⟩else ownN node last F L
   |none=>ownN node last F L:=by grind [ownR]
 have p1:[AV.int .i64 nodes,node,last,.map m][1]?=some (Ii node):=rfl;have p2:[AV.int .i64 nodes,node,last,.map m][2]?=some (Ii last):=rfl;have p3:[AV.int .i64 nodes,node,last,.map m][3]?=some (.map m):=rfl;have ⟨l,hm,hp⟩:=z1.mp;simp only[Bool.not_true,aR,bQ,aK,zAY,au z1.dc,p1,p3,hm.get,ae];have mk:∀{t:Hq}{b23:Nat},Sub s1 t->ownR node last F L=ownN node last F L->oK (eX (Pp d)) λv_32=>
  oK (fu 2 v_32) λv_33=>
  oK (rd1 t v_33) λv_34=>
  oK (cZ .geq v_34 (Ii 1073741824)) λv_35=>
  ao v_35
   (oK (aM [(Ii 0),(Ii 0),.nilslc] []) λc_36=>
    oK (dP t 3 (Pp b0) (.agg c_36)) λs_37=>
    oK (rdN s_37 3 (Pp b0)) λt4_38=>
    K (.tup [(.agg t4_38),false,(Ii 7)]) s_37)
   (oK (eX (Pp d)) λv_39=>
    oK (fu 2 v_39) λv_40=>
    oK (rd1 t v_40) λv_41=>
    oK (cZ .add v_41 (Ii 1)) λv_42=>
    wC TP 113 [Pp d,v,v_42] (λv_43 s_44=>
    wC TP 102 [v_43] (λv_45 s_46=>
    oK (dP s_46 3 (Pp b0) v_45) λs_47=>
    oK (rdN s_47 3 (Pp b0)) λt4_48=>
    K (.tup [(.agg t4_48),true,(Ii 0)]) s_47) s_44) t):=fun {t b23} k he=>by
  have zt:=z1.sub k;have ht0:=k _ _ h1;simp only[bQ,aK,zAY,au zt.dc,p2,ae,dQ];refine aL (λq=>?_) (λq=>?_)
  ·have q:=oT q
   refine Aq (r:=(0,0,[])) (lv:=.nilslc) (R:=λx t=>K (.tup [x,false,Ii 7]) t) zt (.inr rfl) ht0 rfl rfl (.refl _) (.inl ⟨rfl,rfl⟩) uJ λs5 k5 z5 sl5 fr5=>?_;have hg:ownR node last F L=⟨(0,0,[]),false,7,last,F⟩:=by grind [ownN]
   refine fin hg (λi e hi _=>k i e hi) ?_ ?_ k5 z5 sl5 fr5
   ·rw[zt.dc];simp
   ·have ⟨l,⟨es,c,e,_⟩,_⟩:=zt.mp;rw[e];simp
  ·have q:=oF q
   simp only[bg,ae];rw[aT];have hg:ownR node last F L=⟨(node,last+1,L),true,0,last+1,stor F node (node,last+1,L)⟩:=by grind [ownN]
   refine uF zt (hF1 k) ((h.sub sub1).sub k) hl λv43 s44 k44 z44 sl44=>?_;have hb44:=k44 _ _ ht0 gR;refine Io sl44 oM λlv s46 k46 sl46 fr46=>?_;refine Aq (r:=(node,last+1,L)) (R:=λx t=>K (.tup [x,true,Ii 0]) t) z44 (.inr rfl) hb44 rfl rfl k46 sl46 fr46 λs5 k5 z5 sl5 fr5=>?_;refine fin hg (λi e hi hn=>k44 i e (k i e hi) hn) ?_ ?_ k5 z5 sl5 fr5
   ·rw[z44.dc];simp
   ·have ⟨l,⟨es,c,e,_⟩,_⟩:=z44.mp;rw[e];simp
 rcases hp.look node with⟨h3,h4⟩|⟨a,o,h3,h4,lo,rfl,hlo,_⟩
 ·simp only[h3,retM,aD,ext0,ext1,ae]
  refine aI λb23 t hb23 h24 u24=>?_;refine cD h24 rfl rfl rfl λs25 h25 u25=>?_;have k25:=(u24.sub hb23).upto u25 hb23;exact mk (b23:=b23) k25 (by rw[hown,h4])
 ·simp only[h3,retM,aD,ext0,ext1,ae]
  refine aI λb23 t hb23 h24 u24=>?_;refine cD h24 rfl rfl (by rw[dh,dh,dh,hlo.one];rfl) λs25 h25 u25=>?_;have h25:=h25;have k25:=(u24.sub hb23).upto u25 hb23;have q2:[AV.int .i64 o.1,o.2.1,lo][2]?=some lo:=rfl;have hol:=(z1.gd _ _ h4).2.2;simp only[bD,au h25,q2,ae];refine Iu (hlo.sub k25) ((h.sub sub1).sub k25) oM ?_;simp only[Ek,cy,ae];cases e:(o.2.2 == L)with
  | true=>
    have e:=eq_of_beq e;simp only[bD,bX (n:=3) h25 rfl,ae];refine Io (hlo.sub k25) oM λlv s29 k29 sl29 fr29=>?_;have hg:ownR node last F L=⟨o,false,0,last,F⟩:=gR;have z25:=z1.sub k25;refine Aq (r:=o) (R:=λx t=>K (.tup [x,false,Ii 0]) t) z25 (.inr rfl) (k25 _ _ h1) rfl rfl k29 sl29 fr29 λs5 k5 z5 sl5 fr5=>?_;refine fin hg (λi e hi _=>k25 i e hi) ?_ ?_ k5 z5 sl5 fr5
    ·rw[z25.dc];simp
    ·have ⟨l,⟨es,c,e,_⟩,_⟩:=z25.mp;rw[e];simp
  | false=>
    exact mk (b23:=b23) k25 gR
end Go.AM.LS
namespace Go.AM.DT
open Go Go.Proofs List Nat
set_option maxRecDepth 100000
structure Wt where
 m:Int
 up:Bool
 last:Option Int
 heard:Option Int
 since:Int
 changes:Int
def opI(s:Hq)(v:AV):Option Int->Prop
 |none=>v=.nilptr
 |some n=>∃b t e,v=Pp b/\s b=some (t,.cells e [n])
def bi(b:Bool):Int:=cond b 1 0
def WtAt(s:Hq)(w:Nat)(t:Bool)(x:Wt):Prop:=∃e L D,s w=some (t,.cells e [x.m,(bi x.up:Int),L,D,x.since,x.changes])/\opI s L x.last/\opI s D x.heard
theorem opI.keep{fp:Nat->Prop}{s s':Hq}{v:AV}{o:Option Int}(h:opI s v o)(hk:aV fp s s')(hn:∀b t e n,s b=some (t,.cells e [Ii n])->¬fp b):opI s' v o:=by
 cases o with
 |none=>exact h
 |some n=>obtain⟨b,t,e,rfl,hb⟩:=h;exact⟨b,t,e,rfl,hk b _ hb (hn b t e n hb)⟩
theorem opI.sub{s s':Hq}{v:AV}{o:Option Int}(h:opI s v o)(hk:Sub s s'):opI s' v o:=by
 cases o with
 |none=>exact h
 |some n=>obtain⟨b,t,e,rfl,hb⟩:=h;exact⟨b,t,e,rfl,hk b _ hb⟩
theorem opI.upto{s s':Hq}{v:AV}{o:Option Int}{c:Nat}{t:Bool}{e:ah}{l:List AV}(h:opI s v o)(hc:s c=some (t,.cells e l))(hl:l.length≠1)(hu:Upto c s s'):opI s' v o:=by
 cases o with
 |none=>exact h
 | some n=>
   obtain⟨b,tb,eb,rfl,hb⟩:=h;refine⟨b,tb,eb,rfl,?_⟩;rw[hu b λq=>gR];exact hb
theorem WtAt.sub{s s':Hq}{w:Nat}{t:Bool}{x:Wt}(h:WtAt s w t x)(hs:Sub s s'):WtAt s' w t x:=by have ⟨e,L,D,h1,h2,h3⟩:=h;exact⟨e,L,D,hs _ _ h1,h2.sub hs,h3.sub hs⟩
theorem WtAt.keep{s s':Hq}{w w':Nat}{t t':Bool}{x y:Wt}(h:WtAt s w t x)(h':WtAt s w' t' y)(hk:aV (·=w') s s')(hn:w≠w'):WtAt s' w t x:=by
 have ⟨e,L,D,h1,h2,h3⟩:=h;have ⟨e',L',D',h1',_,_⟩:=h';have key:∀b t e n,s b=some (t,.cells e [Ii n])->¬b=w':=by
  grind
 exact⟨e,L,D,hk _ _ h1 hn,h2.keep hk key,h3.keep hk key⟩
variable{K:AV→Hq→Prop}{s:Hq}{w:Nat}{t:Bool}{x:Wt}
theorem fk(h:WtAt s w t x)(hm:0<x.m)(hK:K true s):wC TP 97 [Pp w] K s:=by have ⟨e,L,D,h,_,_⟩:=h;refine Wj ?_;simp[Ph,Eb,au h,hm,hK,ae]
theorem Iy{a b:Int}(h1:0<=a)(h2:a<=1099511627776)(h3:0<=b)(h4:b<=1099511627776)(hK:K (b+a:Int) s):wC TP 143 [a,b] K s:=by
 grind [Wq,Pj,bg,cP,aT]
theorem Iz{b:Bool}(hK:K (bi !b:Int) s):wC TP 110 [(bi b:Int)] K s:=by refine Wp ?_;simp[Pi,ae];cases b<;>exact hK
theorem New_in{m:Int}(hK:∀w s',Sub s s'->s w=none->WtAt s' w false ⟨m,false,none,none,0,0⟩->1<=m->m<=1000->K (.tup [Pp w,Ii 0]) s')(hE:¬(1<=m/\m<=1000)->K (.tup [.nilptr,Ii 2]) s):wC TP 67 [m] K s:=by
 refine Wa ?_;simp only[Pf,bu,ae,dy];refine aL (λh=>?_) (λh=>?_)
 grind [yf,cy,cP,bD]
 simp only[decide_eq_false_iff_not]at h;simp only[yf,h,decide_false,ct,ae];refine aL (λh2=>hE ?_) (λh2=>?_)
 grind
 simp only[decide_eq_false_iff_not]at h2;refine aE (a:=[m,Ii 0,.nilptr,.nilptr,Ii 0,Ii 0]) rfl ⟨rfl,λb hb=>?_⟩;exact hK b _ (j9 hb) hb ⟨211,.nilptr,.nilptr,fe,rfl,rfl⟩ oM oM
theorem Up_in(h:WtAt s w t x)(hm:0<x.m)(hK:K x.up s):wC TP 45 [Pp w] K s:=by
 refine Wi ?_;refine fk h hm ?_;have ⟨e,L,D,h,_,_⟩:=h;simp[Ea,au h,ae];have:(bi x.up == 1)=x.up:=by cases x.up<;>rfl
 rw[this];exact hK
def Wt.ok(x:Wt):Prop:=1<=x.m/\x.m<=1000/\(∀n,x.heard=some n->0<=n/\n<=1099511627776)
def eT(x:Wt)(now:Int)(heard:Bool):Bool:=match x.up with
 |true=>!heard&&(match x.heard with|some n=>decide (n+x.m<=now)|none=>false)
 |false=>heard&&(match x.heard with|some n=>n == now-1|none=>false)
def gW(x:Wt)(now:Int)(heard:Bool):Wt:=
 { m:=x.m,up:=x.up != eT x now heard,last:=some now,heard:=if heard then some now else x.heard,since:=if eT x now heard then now else x.since,changes:=if eT x now heard then x.changes+1 else x.changes }
def jj(x:Wt)(now:Int):Option Int:=if now<0∨1099511627776<now then some 2 else match x.last with
 |some n=>if now<=n then some 20 else none
 |none=>none
theorem IC{now:Int}{heard:Bool}(h:WtAt s w t x)(h0:0<=now)(h1:now<=1099511627776)(hu:x.up=false)(hK:K (eT x now heard) s):wC TP 141 [Pp w,now,heard] K s:=by
 refine Wr ?_;have ⟨e,L,D,h,hL,hD⟩:=h;cases heard with
 |false=>simpa [yh,sV,sU,eT,hu,ae]using hK
 | true=>
   cases hh:x.heard with
   | none=>
     rw[hh]at hD;obtain rfl:D=.nilptr:=hD;simpa [yh,sV,sU,eT,hu,hh,au h,ae]using hK
   | some n=>
     rw[hh]at hD;obtain⟨b,tb,eb,rfl,hb⟩:=hD;have:aA.i64.wrap (now-1)=now-1:=aT oM oM;simpa [yh,sV,sU,eT,hu,hh,au h,au hb,this,ae]using hK
theorem ID{now:Int}{heard:Bool}(h:WtAt s w t x)(hx:x.ok)(hu:x.up=true)(hK:K (eT x now heard) s):wC TP 142 [Pp w,now,heard] K s:=by
 refine Ws ?_;have ⟨e,L,D,h,hL,hD⟩:=h;cases heard with
 |true=>simpa [yi,sX,sW,eT,hu,ae]using hK
 | false=>
   cases hh:x.heard with
   | none=>
     rw[hh]at hD;obtain rfl:D=.nilptr:=hD;simpa [yi,sX,sW,eT,hu,hh,au h,ae]using hK
   | some n=>
     rw[hh]at hD;obtain⟨b,tb,eb,rfl,hb⟩:=hD;have:=hx.2.2 n hh;simp[yi,sX,sW,au h,au hb,ae];refine Iy (by have:=hx.1;omega) (by have:=hx.2.1;omega) this.1 this.2 ?_
     grind [eT,dQ,cP]
theorem IE(hK:∀s',Sub s s'->K (.agg [.fn (.func 141) [] [],.fn (.func 142) [] []]) s'):wC TP 109 [] K s:=by refine Wo ?_;refine aI λc s1 hc h1 u1=>aE (a:=[.fn (.func 141) [] [],.fn (.func 142) [] []]) rfl ?_;refine cD h1 rfl rfl rfl λs2 h2 u2=>aE (bX h2 rfl) ?_;exact hK _ λi q hi=>by have:=dZ hc hi;rw[u2 i this,u1 i this];exact hi
theorem IF{e c e':Nat}{t' up ch:Bool}{m since changes now:Int}{L D:AV}(h:Hc s w e [m,(bi up:Int),L,D,since,changes])(hc:s c=some (t',.cells e' [now]))
  (hb:0<=changes/\changes<=1000000000000) (hK:∀s',Hc s' w e [m,(bi (up != ch):Int),L,D,(if ch then now else since:Int),(if ch then changes+1 else changes:Int)]->Upto w s s'->K (.tup [ch,Ii 0]) s') :
  nA (Pp w) (Pp c) ch K s:=by
 have hcw:c≠w:=λq=>by rw[q,h]at hc;cases hc
 unfold nA;refine aL (λhch=>?_) (λhch=>?_);subst hch;simp only[bQ,ae,aK,zAY,au h,g1Y,g0Y];refine Iz (cw h sI rfl λs1 h1 u1=>?_);have hc1:s1 c=some (t',.cells e' [now]):=by rw[u1 c hcw];exact hc
 simp only[au hc1,ae,g0Y];refine cw h1 sI rfl λs2 h2 u2=>?_;simp only[au h2,set_cons_succ,fW,g1Y,g0Y,ae,bg]at h2 ⊢;rw[aT];refine cw h2 sI rfl λs3 h3 u3=>hK s3 ?_ λi hi=>by rw[u3 i hi,u2 i hi,u1 i hi]
 simpa using h3;subst hch;exact hK s (by simpa using h) λ_ _=>rfl
theorem IG:isFn TP 141=true:=kR
theorem IH:isFn TP 142=true:=kR
theorem uK{c e':Nat}{t':Bool}{now:Int}{heard:Bool}{a b:AV}(h:WtAt s w false x)(hx:x.ok)(hc:s c=some (t',.cells e' [now]))(hn:0<=now/\now<=1099511627776)(hb:0<=x.changes/\x.changes<=1000000000000)
  (hp:cW a b false=some (.bool false)) (hK:∀s',WtAt s' w false (gW x now heard)->aV (·=w) s s'->K (.tup [(eT x now heard),Ii 0]) s') :
  sS (Pp w) heard (Pp c) a b K s:=by
 unfold sS;rw[hp];simp only[ae,aR];have ⟨e,L,D,hw,hL,hD⟩:=id h;refine⟨s,.refl s,?_⟩;simp only[bQ,ae,aK,zAY,au hw,au hc,g1Y,g0Y];rw[gT];refine IE λs1 sub1=>?_;have sub2:Sub s (add s s1):=iD;have hcw:c≠w:=λq=>gR;have main:∀k,(k=141∨k=142)->(∀K':AV->Hq->Prop,K' (eT x now heard) (add s s1)->wC TP k [Pp w,now,heard] K' (add s s1))->
   funK TP (.fn (.func k) [] []) [Pp w,now,heard] (λv_20 s_21=>oK (wr1 s_21 (.ptr w 2) (Pp c)) λs_24=>ao heard (oK (wr1 s_24 (.ptr w 3) (Pp c)) λs_46=>nA (Pp w) (Pp c) v_20 K s_46) (nA (Pp w) (Pp c) v_20 K s_24)) (add s s1):=by
  intro k hk hr;refine gQ (by grind [IG,IH]) (hr _ ?_);have hw2:=sub2 _ _ hw;refine cw hw2 sI rfl λs3 h3 u3=>?_;simp only[set_cons_succ,fW]at h3;have hc3:s3 c=some (t',.cells e' [now]):=by rw[u3 c hcw];exact sub2 _ _ hc
  have fin:∀s4 D',Hc s4 w e [x.m,(bi x.up:Int),Pp c,D',x.since,x.changes]->Upto w (add s s1) s4->opI s4 D' (if heard then some now else x.heard)->nA (Pp w) (Pp c) (eT x now heard) K s4:=by
   intro s4 D' h4 u4 hD';have hc4:s4 c=some (t',.cells e' [now]):=by rw[u4 c hcw];exact sub2 _ _ hc
   refine IF h4 hc4 hb λs5 h5 u5=>hK s5 ⟨e,Pp c,D',h5,⟨c,t',e',rfl,by rw[u5 c hcw];exact hc4⟩,hD'.upto h4 sI u5⟩ λi q hi hne=>?_;rw[u5 i hne,u4 i hne];exact sub2 _ _ hi
  refine aL (λhh=>?_) (λhh=>?_)
  ·subst hh
   refine cw h3 sI rfl λs4 h4 u4=>fin s4 (Pp c) h4 (λi hi=>by rw[u4 i hi,u3 i hi]) ⟨c,t',e',rfl,by rw[u4 c hcw];exact hc3⟩
  ·subst hh
   exact fin s3 D h3 u3 ((hD.sub sub2).upto hw2 sI u3)
 cases hu:x.up with
 | false=>
   refine aE (a:=.fn (.func 141) [] []) (by rfl) ?_;exact main 141 (.inl rfl) λK' hK'=>IC (h.sub sub2) hn.1 hn.2 hu hK'
 | true=>
   refine aE (a:=.fn (.func 142) [] []) (by rfl) ?_;exact main 142 (.inr rfl) λK' hK'=>ID (h.sub sub2) hx hu hK'
theorem Ar{now:Int}{heard:Bool}(h:WtAt s w false x)(hx:x.ok)(hb:0<=x.changes/\x.changes<=1000000000000)
  (hE:∀e s',jj x now=some e->WtAt s' w false x->aV (·=w) s s'->K (.tup [false,e]) s')
  (hK:∀s',jj x now=none->WtAt s' w false (gW x now heard)->aV (·=w) s s'->K (.tup [(eT x now heard),Ii 0]) s') :
  wC TP 57 [Pp w,now,heard] K s:=by
 refine Wf ?_;refine fG rfl λc s1 hc h1 u1=>?_;have sub1:=u1.sub hc;have hw1:=h.sub sub1;have keep1:aV (·=w) s s1:=sub1.keep;refine fk hw1 (by have:=hx.1;omega) ?_;simp only[cQ,ae,Bool.not_true,aR,au h1,g0Y,bu,dy];have j0:∀a b:AV,cW a true b=some (.bool (decide (now<0∨1099511627776<now)))->yg (Pp w) heard (Pp c) a b K s1:=by
  intro a b hab;unfold yg;rw[hab,cP];refine aL (λhr=>?_) (λhr=>?_)
  ·grind [jj]
  ·simp only[decide_eq_false_iff_not]at hr
   have ⟨e,L,D,h2,hL,hD⟩:=id hw1;simp only[bQ,ae,aK,zAY,au h2,g1Y,g0Y];cases hl:x.last with
   | none=>
     rw[hl]at hL;obtain rfl:L=.nilptr:=hL;simp only[CN,bJ,ae,bne_self_eq_false,aR];exact uK hw1 hx h1 oM hb rfl (by grind [jj,aV.trans])
   | some n=>
     rw[hl]at hL;obtain⟨b,tb,eb,rfl,hb'⟩:=hL;simp only[nc,bJ,ae,Bool.bne_false,bD,au h1,au hb',bQ,g0Y,iX]
     by_cases hle:now<=n
     ·grind [sS,cy,cP,bD,jj]
     ·simp only[hle,decide_false]
      exact uK hw1 hx h1 oM hb rfl (by grind [jj,aV.trans])
 simp_all [aL]
end Go.AM.DT
namespace Go.AM.RT
open Go Go.Proofs List Nat
set_option maxRecDepth 100000
variable{K:AV→Hq→Prop}{r r' s s' t a b b' q:Hq}{l l1 l2:List Hq}
abbrev Goes:=FB.Goes
def Dj(a b:Hq):Prop:=∀i,a i≠none->b i=none
theorem Dj.symm(h:Dj a b):Dj b a:=λi hi=>by
 cases e:a i with
 |none=>rfl
 |some x=>exact absurd (h i (by rw[e];simp)) hi
structure Sep(s:Hq)(l:List Hq):Prop where
 sub:∀h∈l,Sub h s
 dj:l.Pairwise Dj
theorem Sep.more(z:Sep s l)(k:Sub s s'):Sep s' l:=⟨λh hh=>(z.sub h hh).trans k,z.dj⟩
theorem Sep.perm(z:Sep s l){l':List Hq}(p:l.Perm l'):Sep s l':=⟨λh hh=>z.sub h (p.mem_iff.2 hh),p.pairwise z.dj (λh=>h.symm)⟩
theorem II(h:Goes r s r' s')(k:Sub t s)(hd:∀i,t i≠none->r i=none):Sub t s'/\∀i,t i≠none->r' i=none:=by
 constructor;intro i e hi;have h1:=k _ _ hi;rw[(h.out i (hd i (by rw[hi];simp)) (by rw[h1];simp)).1];exact h1;intro i hi;have h1:s i≠none:=by rcases q:t i with _|e;exact absurd q hi;rw[k _ _ q];simp
 exact(h.out i (hd i hi) h1).2
theorem Sep.goes1(z:Sep s (b::l))(g:Goes b s b' s'):Sep s' (b'::l):=by
 have hd:=(aB.1 z.dj).1;refine⟨λh hh=>?_,aB.2 ⟨λa ha=>?_,(aB.1 z.dj).2⟩⟩
 ·rcases mCY hh with rfl|hh
  ·exact g.sub
  ·exact(II g (z.sub h (mO _ hh)) λi hi=>(hd h hh).symm i hi).1
 ·exact Dj.symm λi hi=>(II g (z.sub a (mO _ ha)) λi hi=>(hd a ha).symm i hi).2 i hi
theorem Sep.goes(z:Sep s (l1++b::l2))(g:Goes b s b' s'):Sep s' (l1++b'::l2):=
 (Sep.goes1 (z.perm gL) g).perm gL.symm
def one(c:Nat)(x:Bool×Blk):Hq:=λi=>if i=c then some x else none
theorem bW{c:Nat}{x:Bool×Blk}:one c x c=some x:=ak rfl
theorem jl{c i:Nat}{x:Bool×Blk}(h:one c x i≠none):i=c:=by
 grind [one]
theorem dU(hs:Sub a s){c:Nat}(hc:s c=none):a c=none:=by
 cases e:a c with
 |none=>rfl
 |some x=>rw[hs c x e]at hc;cases hc
theorem Sep.new(z:Sep s l){c:Nat}{x:Bool×Blk}(u:Upto c s s')(hc:s c=none)(h:s' c=some x):Sep s' (one c x::l):=by
 have z':=z.more (u.sub hc);refine⟨λa ha=>?_,aB.2 ⟨λa ha i hi=>?_,z'.dj⟩⟩
 ·rcases mCY ha with rfl|ha
  ·intro i e hi
   have:=jl (c:=c) (x:=x) (i:=i) (by rw[hi];simp)
   grind [bW]
  ·exact z'.sub a ha
 ·rw[jl hi];exact dU (z.sub a ha) hc
theorem Sep.wr1(z:Sep s (b::l)){c:Nat}{x:Bool×Blk}(u:Upto c s s')(hb:b c≠none)(h:s' c=some x):Sep s' (hset b c x::l):=by
 have hd:=(aB.1 z.dj).1;have hc:∀y∈l,y c=none:=λy hy=>hd y hy c hb;refine⟨λy hy=>?_,aB.2 ⟨λy hy i hi=>?_,(aB.1 z.dj).2⟩⟩
 ·rcases mCY hy with rfl|hy'
  ·intro i e hi
   by_cases q:i=c
   ·simp_all
   ·rw[cG q]at hi;rw[u i q];exact z.sub b dW i e hi
  ·intro i e hi
   have:i≠c:=λq=>by simp_all
   rw[u i this];exact z.sub y (mO _ hy') i e hi
 ·by_cases q:i=c
  ·subst q;exact hc y hy
  ·rw[cG q]at hi;exact hd y hy i hi
theorem Sep.wr(z:Sep s (l1++b::l2)){c:Nat}{x:Bool×Blk}(u:Upto c s s')(hb:b c≠none)(h:s' c=some x):Sep s' (l1++hset b c x::l2):=
 (Sep.wr1 (z.perm gL) u hb h).perm gL.symm
theorem Sep.drop(z:Sep s (b::l)):Sep s l:=⟨λh hh=>z.sub h (mO _ hh),(aB.1 z.dj).2⟩
theorem Sep.join(z:Sep s (a::b::l)):Sep s (add a b::l):=by
 have ⟨h1,h2⟩:=aB.1 z.dj;refine⟨λh hh=>?_,aB.2 ⟨λc hc i hi=>?_,(aB.1 h2).2⟩⟩
 ·rcases mCY hh with rfl|hh
  ·intro i e hi
   cases q:a i with
   |some x=>rw[cU q]at hi;cases hi;exact z.sub a sI i _ q
   |none=>rw[cC q]at hi;exact z.sub b sI i _ hi
  ·exact z.sub h (by simp[hh])
 ·cases q:a i with
  |some x=>exact h1 c (by simp[hc]) i (by rw[q];simp)
  |none=>rw[cC q]at hi;exact(aB.1 h2).1 c hc i hi
theorem Sep.split(z:Sep s (add a b::l))(hd:Dj a b):Sep s (a::b::l):=by
 have ⟨h1,h2⟩:=aB.1 z.dj;have hs:=z.sub (add a b) dW;have sa:Sub a (add a b):=λi e hi=>cU hi;have sb:Sub b (add a b):=λi e hi=>by rw[cC (hd.symm i (by rw[hi];simp))];exact hi
 refine⟨λh hh=>?_,aB.2 ⟨λc hc=>?_,aB.2 ⟨λc hc i hi=>h1 c hc i ?_,h2⟩⟩⟩
 ·rcases mCY hh with rfl|hh
  ·exact sa.trans hs
  ·rcases mCY hh with rfl|hh
   ·exact sb.trans hs
   ·exact z.sub h (by simp[hh])
 ·rcases mCY hc with rfl|hc
  ·exact hd
  ·intro i hi
   refine h1 c hc i ?_;cases q:a i with
   |none=>exact absurd q hi
   |some x=>rw[cU q];simp
 ·cases q:b i with
  |none=>exact absurd q hi
  |some x=>rw[sb i _ q];simp
theorem IJ(h:Sub r s):Sep s [r,rest s r]:=by
 refine⟨λa ha=>?_,aB.2 ⟨λa ha i hi=>?_,sI⟩⟩
 ·simp only[mem_cons,not_mem_nil,or_false]at ha
  rcases ha with rfl|rfl
  ·exact h
  ·intro i e hi
   grind [rest]
 simp_all [rest]
theorem Sep.back(h:Sub r s)(z:Sep s' [r',rest s r]):Goes r s r' s':=⟨z.sub r' sI,λi h1 h2=>by
 have hr:rest s r i=s i:=by grind [rest]
 have h3:=z.sub (rest s r) sI;refine⟨?_,(aB.1 z.dj).1 (rest s r) sI |>.symm i (by rw[hr];exact h2)⟩;cases e:s i with
 |none=>exact absurd e h2
 |some x=>exact h3 i x (hr.trans e)⟩
theorem wC.goes{P:ay}{f:aQ}{args:List AV}(hsub:Sub b s)(h:wC P f args (λv b'=>∀s',Goes b s b' s'->K v s') b):wC P f args K s:=
 wC.part hsub (h.mono λv b' hk s' h1 h2=>hk s' ⟨h1,h2⟩)
section
variable {P:ay}
theorem qXQ{f:Nat}{args:List AV}{K:AV->Hq->Prop}{r s:Hq}(hsub:Sub r s)
  (h:gF P f args (λv s1=>∀s',Sub s1 s'->(∀i,r i=none->s i≠none->s' i=s i/\s1 i=none)->K v s') r):gF P f args K s:=by
 refine Uv hsub (N4 h λv s1 hv hout=>hv _ iD λi hr hi=>?_);have:=hout i hi hr
 grind [cC,rest]
theorem IK{f:Nat}{args:List AV}{b s:Hq}{K:AV->Hq->Prop}(hsub:Sub b s)(h:funK P (.yield f) args (λv b'=>∀s',Goes b s b' s'->K v s') b):funK P (.yield f) args K s:=by have ⟨h1,h2⟩:=h;refine⟨?_,qXQ hsub (N4 h2 λv s1 hv s' k1 k2=>hv s' ⟨k1,k2⟩)⟩;unfold jw at h1 ⊢;split at h1;rename_i q;rw[hsub _ _ q];exact h1;exact h1.elim
end
variable{p wm d f:Nat}{t:Bool}{x ad lf sp la:Int}{lv mv uv dv:AV}{tk:Bool}{L:List LS.Lnk}
abbrev roC(x ad lf sp:Int)(lv mv:AV)(wm d f:Nat)(tk:Bool)(la:Int)(uv dv:AV):List AV:=
 [x,Iw ad,lf,sp,lv,mv,.map wm,Pp d,Pp f,tk,la,uv,dv]
theorem fk(h:s p=some (t,.cells 75 (roC x ad lf sp lv mv wm d f tk la uv dv)))(hK:K true s):wC TP 41 [Pp p] K s:=by refine Zr ?_;have e1:negB true (eqV 3 true (Pp p) .nilptr)=some true:=rfl;have e2:negB true (eqV 3 true (Pp d) .nilptr)=some true:=rfl;have e3:negB true (eqV 3 true (Pp f) .nilptr)=some true:=rfl;simp only[QW,ET,ES,e1,ae,bQ,aK,au h,zAY,g1Y,g0Y,e2,e3];exact hK
def owB(L:List LS.Lnk)(x i:Int):Bool:=decide (0<=i/\i<L.length/\((L.getD i.toNat (0,0,0)).1=x∨(L.getD i.toNat (0,0,0)).2.1=x))
theorem pJ{i:Int}(h:s p=some (t,.cells 75 (roC x ad lf sp lv mv wm d f tk la uv dv)))(hl:SlR 3 s lv (L.map LS.lnR))(hK:K (owB L x i) s):wC TP 49 [Pp p,i] K s:=by
 refine Zt ?_;have ll:cM lv=some L.length:=by rw[hl.len,lMY]
 simp only[QX,dQ,ae];refine aL (λh0=>?_) (λh0=>?_);have h0:=oT h0;obtain⟨n,rfl⟩:∃n:Nat,i=n:=⟨i.toNat,oM⟩
 simp only[bQ,ae,aK,au h,zAY,g1Y,g0Y,ll,bu,yJ];refine aL (λh1=>?_) (λh1=>?_);have h1:n<L.length:=gR;have ⟨b,o,g1,_,g3⟩:=hl.get (i:=n) (r:=LS.lnR L[n]) gR;have a0:rd1 s (.ptr b (o+0))=some (Ii L[n].1):=g3 0 oM;have a1:rd1 s (.ptr b (o+1))=some (Ii L[n].2.1):=g3 1 oM;rw[aH (show(n:Int)<(L.length:Int)by omega)];have hk:owB L x n=decide (L[n].1=x∨L[n].2.1=x):=by
  grind [owB]
 simp only[g1,ae,aK,a0,a1,cj,bJ,Bool.false_bne,EU,cy];refine aL (λh2=>?_) (λh2=>?_)
 simp_all
 grind [ct,cP]
 grind [owB,ct,cP]
 grind [owB,yJ,ct,cP,aR]
theorem IL(h:s p=some (t,.cells 75 (roC x ad lf sp lv mv wm d f tk la uv dv)))(h1:0<=lf/\lf<=32)(h2:0<=sp/\sp<=32)(hK:K (lf+sp:Int) s):wC TP 65 [Pp p] K s:=by
 refine QY ?_;simp only[EV,bQ,ae,aK,au h,zAY,g1Y,g0Y,bg]
 grind [aT]
theorem nX(hK:∀b s',s b=none->Hc s' b 22 [Pp p]->Upto b s s'->K (.fn (.func 96) [] [Pp b]) s'):wC TP 44 [Pp p] K s:=
 Zv (fG rfl gR)
abbrev Wb:=List (Nat×Nat)
def mW(wl:Wb):List (Int×AV):=wl.map λq=>((q.1:Int),Pp q.2)
theorem IM{wl:Wb}:(mW wl).map (·.1)=(wl.map (·.1)).map λ(n:Nat)=>(n:Int):=by
 simp_all [mW]
theorem Ss:∀{l:List Int},l.Pairwise (·<=·)->eH l=l
 |[],_=>rfl
 | n::l,h=>by
   have ⟨h1,h2⟩:=aB.1 h;show insI n (eH l)=_;rw[Ss h2];cases l with
   |nil=>rfl
   | cons m l=>
     have:=h1 m sI;show cond (ltI m n) _ _=_;rw[ib,aC oM];rfl
theorem uL{wl:Wb}(h:wl.Pairwise λa b=>a.1<b.1):eH ((mW wl).map (·.1))=(wl.map (·.1)).map λ(n:Nat)=>(n:Int):=by
 grind [IM,Ss]
theorem uM:∀{wl:Wb},(wl.Pairwise λa b=>a.1<b.1)->∀q∈wl,look (mW wl) (q.1:Int)=some (.ptr q.2 0)
 |[],_,q,h=>by cases h
 | e::wl,h,q,hq=>by
   have ⟨h1,h2⟩:=aB.1 h;unfold look mW;rw[map_cons,find?_cons];rcases mCY hq with rfl|hq;simp;have:=h1 q hq;rw[show(((e.1:Int),AV.ptr e.2 0).1 == (q.1:Int))=false by simp;omega];exact uM h2 q hq
theorem IN{wl:Wb}{rb l:Nat}(hasc:wl.Pairwise λa b=>a.1<b.1)(hlen:wl.length<=200){I:Nat->Hq->Prop}
  (h0:I 0 s)
  (hI:∀k s,I k s->(∃t e,s rb=some (t,.cells e [Pp p]))/\(∃t cs,s p=some (t,.cells 75 cs)/\cs[6]?=some (.map wm))/\LS.MapR s wm (mW wl))
  (hround:∀k (hk:k<wl.length) s,I k s->∀Q:AV->Hq->Prop,(∀s',I (k+1) s'->Q true s')->funK TP (.yield l) [(wl[k].1:Int),.ptr wl[k].2 0] Q s)
  (hK:∀r s',I wl.length r->Sub r s'->K (.tup []) s'):wC TP 96 [.yield l,Pp rb] K s:=by
 have ⟨⟨tr,er,hrb⟩,⟨tp,cs,hp,hc⟩,hm⟩:=hI 0 s h0;refine Zx ?_;simp only[Q0,au hrb,g0Y,ae,bQ,aK,zAY,au hp,hc,bG];refine Dh Go.Proofs.YtcmcofklcgafiaaGreat.sortedOK (p:=(43,95,70)) sI λb2 s2 hb2 h2 u2=>?_;have sub2:=u2.sub hb2;have hm2:=hm.sub sub2;refine LS.Sq Go.Proofs.YtcmcofklcgafiaaGreat.sortedOK sI h2 hm2 (by grind [mW]) λv s3 acc sub3=>?_;rw[uL hasc]at acc;have sub23:=sub2.trans sub3;have slv:=acc.sl;have hl3:(izs ((wl.map (·.1)).map λ(n:Nat)=>(n:Int))).length=wl.length:=sI;have ⟨x,hx⟩:∃x:Hq,x=rest s3 s:=⟨_,rfl⟩
 have sp:Sep s3 [s,x]:=by grind [IJ]
 have slx:Sl x v (izs ((wl.map (·.1)).map λ(n:Nat)=>(n:Int))):=by
  refine slv.keep (fp:=λi=>s i≠none) (λi e hi hn=>?_) λb o n c e hne q=>?_
  ·rw[hx];unfold rest
   rw[ak (Classical.not_not.1 hn)];exact hi
  ·rcases acc with⟨_,q2⟩|⟨b',hb',q2,_⟩
   ·exact hne q2
   ·rw[q2]at e;cases e
    cases q3:s b with
    |none=>exact q q3
    |some y=>rw[sub2 b y q3]at hb';cases hb'
 simp only[slv.len,hl3,ae];refine⟨λys t m=>∃(k:Nat) (r:Hq),ys=[Ii k]/\k<=wl.length/\m=wl.length-k/\I k r/\Sep t [r,x],gR,?_⟩;rintro g t m ⟨k,r,hy,hk,rfl,hIk,spt⟩;simp only[cI,aq]at hy;rw[hy];have subr:=spt.sub r sI;simp only[QZ,bu,ae,aS];refine aL (λhlt=>?_) (λhge=>?_)
 ·have hlt:k<wl.length:=gR
  have ⟨⟨tr,er,hrb⟩,⟨tp,cs,hp,hc⟩,hm⟩:=hI k r hIk;have hm:=hm.sub subr;have ⟨q,g1,g2⟩:=(slx.sub (spt.sub x sI)).get (i:=k) oM;have e1:(izs ((wl.map (·.1)).map λ(n:Nat)=>(n:Int)))[k]?=some (Ii (wl[k].1)):=by
   grind
  rw[e1]at g2;have e2:retM .nilptr false (some (AV.ptr wl[k].2 0))=.ptr wl[k].2 0:=rfl;simp only[g1,g2,ae,au (subr _ _ hrb),g0Y,bQ,aK,zAY,au (subr _ _ hp),hc,hm.get,uM hasc _ (aN hlt),e2];refine IK subr (hround k hlt r hIk _ λr' hI' t' hg=>?_);simp only[cQ,Bool.not_true,ae,aR,bg];rw[aT];exact⟨_,oM,k+1,r',sI,oM,rfl,hI',spt.goes1 hg⟩
 ·have hge:k=wl.length:=by have:=oF hge;omega
  subst hge;exact hK r t hIk subr
variable{s0 t:Hq}{v:AV}
def cN(es:Nat)(v:AV)(i:Nat):Prop:=∃o n c,v=.slc i o n c es
theorem uN{elem:ah}{es:Nat}{y:AV}{row:List AV}{rows:List (List AV)}(h:AccR elem es s0 t v rows)(hs:Sub s0 t)(hy:SlR es t y [row])(hne:∀b o n c,y=.slc b o n c es->¬cN es v b)(hl:rows.length+1<=16777216)
  (hK:∀v' s',AccR elem es s0 s' v' (rows ++ [row])->aV (cN es v) t s'->(∀b,cN es v' b->t b=none∨cN es v b)->K v' s'):appK elem es v y K t:=by
 have own:∀{i:Nat},¬cN es v i->offV v t i=t i:=fun {i} hn=>gV λb o n c e' q1 q2=>by
  subst q2;rcases h.2 with⟨q6,_⟩|⟨b'',_,q6,_⟩
  ·rw[q1]at q6;cases q6
  ·rw[q1]at q6;cases q6;exact hn ⟨_,_,_,q1⟩
 have old:∀{i:Nat},cN es v i->s0 i=none:=fun {i} ⟨o,n,c,q4⟩=>by
  rcases h.2 with⟨q5,_⟩|⟨b',q6,q5,_⟩
  ·rw[q4]at q5;cases q5
  grind
 refine AccR.app (s0:=offV v t) h.offvB hy sI (by simpa using hl) lB λv' s' acc sub=>?_;have fr:∀b,offV v t b=none->t b=none∨cN es v b:=(by grind [cN])
 have acc':AccR elem es s0 s' v' (rows ++ [row]):=by
  refine⟨acc.1,?_⟩;rcases acc.2 with q|⟨b,q1,q2,q3⟩
  ·exact .inl q
  ·refine .inr ⟨b,?_,q2,q3⟩
   rcases fr b q1 with q|q
   ·exact dU hs q
   ·exact old q
 refine hK v' s' acc' (λi e hi hn=>sub i e (by rw[own hn];exact hi)) λb ⟨o,n,c,q1⟩=>?_;rcases acc.2 with⟨q2,_⟩|⟨b',q3,q2,_⟩
 ·rw[q1]at q2;cases q2
 grind
abbrev Ntc:=Nat×LS.Rec
def ntR(n:Ntc)(lv:AV):List AV:=[n.1,n.2.1,n.2.2.1,lv]
structure Nts(s0 s:Hq)(v:AV)(ns:List Ntc):Prop where
 ex:∃rows,AccR 190 4 s0 s v rows/\rows.length=ns.length/\∀(i:Nat) (n:Ntc),ns[i]?=some n->∃lv,rows[i]?=some (ntR n lv)/\LS.Sli s lv n.2.2.2/\∀b o m c,lv=.slc b o m c 1->n.2.2.2≠[]->s0 b=none/\¬cN 4 v b
theorem Nts.nil:Nts s0 s .nilslc []:=⟨[],⟨sI,.inl ⟨rfl,rfl⟩⟩,rfl,λi n h=>by simp at h⟩
theorem nocell{fp:Nat->Prop}{es:Nat}{lv:AV}(hf:∀i,fp i->∀tg el cs,s i≠some (tg,.cells el cs)):∀b o m c,lv=.slc b o m c es->(∃tg el cs,s b=some (tg,.cells el cs))->¬fp b:=gR
theorem nY{lv:AV}{l:List Int}(h:LS.Sli s lv l):∀b o m c,lv=.slc b o m c 1->l≠[]->∃tg el cs,s b=some (tg,.cells el cs):=λb o m c e hne=>by
 rcases h with⟨q,_⟩|⟨b',o',c',q,_,q2⟩
 ·rw[e]at q;cases q
 ·rw[e]at q;cases q
  have ⟨t1,e1,cs,q3,_⟩:=q2 (by simpa using hne)
  grind
theorem Su{fp:Nat->Prop}{lv:AV}{l:List Int}(h:LS.Sli s lv l)(k:aV fp s s')(hf:∀i,fp i->∀tg el cs,s i≠some (tg,.cells el cs)):LS.Sli s' lv l:=
 Sl.keep h k λb o m c e hne=>nocell hf b o m c e (nY h b o m c e (by simpa using hne))
theorem Nts.keep{fp:Nat->Prop}{ns:List Ntc}(h:Nts s0 s v ns)(k:aV fp s s')(hf:∀i,fp i->∀tg el cs,s i≠some (tg,.cells el cs)):Nts s0 s' v ns:=by
 obtain⟨rows,h1,h2,h3⟩:=h.ex;refine⟨rows,⟨h1.1,h1.2.imp id λ⟨b,q1,q2,q3⟩=>⟨b,q1,q2,k _ _ q3 λq=>hf b q _ _ _ q3⟩⟩,h2,λi n hn=>?_⟩
 grind [Su]
structure Col(s t:Hq)(l b0:Nat)(ns:List Ntc):Prop where
 sub:Sub s t
 hb:s b0=none
 hl:s l=none
 ne:b0≠l
 lp:∃d,t l=some (false,.loop .ready none 20 [(3,Pp b0)] [7,8] (rfAs 0 (bH Tryz.f52)) (rfBo 0 (bH Tryz.f52)) d)
 bx:∃v,Hc t b0 36 [v]/\Nts s t v ns/\¬cN 4 v b0/\¬cN 4 v l/\v.one=true
theorem Col.keep{fp:Nat->Prop}{l b0:Nat}{ns:List Ntc}{t':Hq}(z:Col s t l b0 ns)(k:aV fp t t')(hs:∀i,fp i->t i=none∨(s i=none/\i≠l/\∀tg el cs,t i≠some (tg,.cells el cs))):Col s t' l b0 ns:=by
 have ⟨d,hlp⟩:=z.lp;have ⟨v,h1,h2,h3⟩:=z.bx;have hf:∀i,fp i->∀tg el cs,t i≠some (tg,.cells el cs):=gR;refine⟨λi e hi=>k i e (z.sub i e hi) λq=>?_,z.hb,z.hl,z.ne,⟨d,k _ _ hlp λq=>?_⟩,⟨v,k _ _ h1 λq=>hf _ q _ _ _ h1,h2.keep k hf,h3⟩⟩
 ·rcases hs i q with q1|⟨q1,_⟩
  ·rw[z.sub i e hi]at q1;cases q1
  grind
 grind
theorem Col.more{l b0:Nat}{ns:List Ntc}{t':Hq}(z:Col s t l b0 ns)(k:Sub t t'):Col s t' l b0 ns:=z.keep (fp:=λ_=>False) k.keep λ_ h=>h.elim
theorem As{l:Nat}{K:Hq->Prop}{pd:Option Code}{nt:Nat}{keep:List (Nat×AV)}{ps:List Tmp}{ac bo:Code}{d:Nat}(h:s l=some (false,.loop .ready pd nt keep ps ac bo d))
  (hk:∀s',s' l=some (false,.loop .busy pd nt keep ps ac bo d)->Upto l s s'->K s'):gj l K s:=by
 unfold gj;rw[h];exact hk _ dT λi hi=>cG hi
theorem uO{l:Nat}{K:AV->Hq->Prop}{st:dg}{pd:Option Code}{nt:Nat}{keep:List (Nat×AV)}{ps:List Tmp}{ac bo:Code}{d:Nat}(h:s l=some (false,.loop st pd nt keep ps ac bo d))
  (hk:∀s',s' l=some (false,.loop .ready none nt keep ps ac bo d)->Upto l s s'->K true s'):endK l .nrm K s:=by
 unfold endK;rw[h];exact hk _ dT λi hi=>cG hi
theorem i4{a b:Int}{w:AV}(hw:w.one=true):aX [a,b,w]=true:=by
 simp_all
theorem IP{a b c:Int}{w:AV}(hw:w.one=true):aX [a,b,c,w]=true:=by
 simp_all
theorem IQ{a b c:Int}{w:AV}(hw:w.one=true):aM [(Ii 0),(Ii 0),(Ii 0),.nilslc] [(0,1,a),(1,3,.agg [b,c,w])]=some [Ii a,Ii b,Ii c,w]:=by cases w<;>first|rfl|cases hw
theorem IR{a b c:Int}{w:AV}(hw:w.one=true):aM (repl 1 [(Ii 0),(Ii 0),(Ii 0),.nilslc]) [(0,4,.agg [a,b,c,w])]=some [Ii a,Ii b,Ii c,w]:=by cases w<;>first|rfl|cases hw
theorem uP{lv:AV}{l:List Int}(h:LS.Sli s lv l):lv.one=true:=Sl.one h
def i5(t:Hq)(b0 i:Nat):Prop:=∃v,Hc t b0 36 [v]/\cN 4 v i
theorem IS{lv v:AV}{l:List Int}{b0:Nat}{tg:Bool}{e:ah}(h:LS.Sli t lv l)(hb:t b0=some (tg,.cells e [v]))(hv:∀n,v≠Ii n):∀b o m c,lv=.slc b o m c 1->l≠[]->b≠b0:=λb o m c e1 hne q=>by
 subst q;rcases h with⟨q,_⟩|⟨b',o',c',q,_,q2⟩
 ·rw[e1]at q;cases q
 ·rw[e1]at q
  cases q;have ⟨t1,e2,cs,q3,q4,q5⟩:=q2 (by simpa using hne);cases l with
  |nil=>exact hne rfl
  | cons x l=>
    have:=q5 0 sI
    grind
theorem IT{l b0:Nat}{ns:List Ntc}{n:Nat}{r:LS.Rec}{rv:AV}{Q:AV->Hq->Prop}(z:Col s t l b0 ns)(hr:LS.Sli t rv r.2.2)(hlen:r.2.2.length<=100000)(hns:ns.length<=100000)
  (hQ:∀t',Col s t' l b0 (ns ++ [(n,r)])->aV (λi=>i=l∨i=b0∨i5 t b0 i) t t'->(∀i,i5 t' b0 i->t i=none∨i5 t b0 i)->Q true t') :
  funK TP (.yield l) [n,.agg [r.1,r.2.1,rv]] Q t:=by
 obtain⟨d,hlp⟩:=z.lp;obtain⟨v,hbx,hnt,hvb,hvl,hv1⟩:=z.bx;obtain⟨rows,acc,hrl,hrows⟩:=hnt.ex;have hvi:∀n,v≠Ii n:=λn e=>by rcases acc.2 with⟨q,_⟩|⟨b,_,q,_⟩<;>(rw[e]at q;cases q)
 have hvt:∀i,cN 4 v i->s i=none/\t i≠none:=λi ⟨o,m,c,q⟩=>by
  rcases acc.2 with⟨q2,_⟩|⟨b,q1,q2,q3⟩
  ·rw[q]at q2;cases q2
  grind
 refine⟨by grind [jw],ZB hlp ?_⟩;refine aI λb1 s1 hb1 h1 u1=>cD h1 rfl rfl (i4 (uP hr)) λs2 h2 u2=>⟨rfl,?_⟩
 have n1l:b1≠l:=λe=>gR;have up12:Upto b1 t s2:=λi hi=>by rw[u2 i hi,u1 i hi]
 have sub2:=up12.sub hb1;refine As (sub2 _ _ hlp) λs3 hl3 u3=>?_;have h3:Hc s3 b1 34 [r.1,r.2.1,rv]:=by rw[u3 _ n1l];exact h2
 have k3:aV (λi=>i=l) t s3:=λi e hi hn=>by rw[u3 i hn];exact sub2 _ _ hi
 have hf3:∀i,i=l->∀tg el cs,t i≠some (tg,.cells el cs):=gR;have hr3:=Su hr k3 hf3;simp only[aK,ae,au h3,zAY,g1Y,g0Y];refine LS.G4 hr3 oM λv6 s4 sub4 hc4 hf4=>?_;have h4:=sub4 _ _ h3;refine cw h4 sI (Sl.one hc4) λs5 h5 u5=>?_;have h5:Hc s5 b1 34 [r.1,r.2.1,v6]:=h5;have at5:∀{i e},s3 i=some e->i≠b1->s5 i=some e:=fun {i e} hi hn=>by rw[u5 i hn];exact sub4 _ _ hi
 have nb1:∀{i e},t i=some e->i≠b1:=fun {i e} hi q=>gR;have hb5:=at5 (k3 _ _ hbx z.ne) (nb1 hbx);simp only[au hb5,g0Y,ae,bX (n:=3) h5 rfl,IQ (Sl.one hc4)];rw[IR (Sl.one hc4)];refine⟨IP (Sl.one hc4),aI λb2 s6 hb2 h6 u6=>?_⟩;have at6:=fun {i e} hi hn=>(u6.sub hb2) _ _ (at5 (k3 i e hi hn) (nb1 hi));have hl6:=(u6.sub hb2) _ _ (at5 hl3 (Ne.symm n1l));have acc6:AccR 190 4 s s6 v rows:=by refine⟨acc.1,acc.2.imp id λ⟨b,q1,q2,q3⟩=>⟨b,q1,q2,at6 q3 λq=>?_⟩⟩;exact hf3 b q _ _ _ q3
 have back:∀i,s6 i=none->t i=none:=λi hi=>by
  cases q:t i with
  |none=>rfl
  | some e=>
    grind
 have back5:∀i,s5 i=none->t i=none:=λi hi=>by
  cases q:t i with
  |none=>rfl
  | some e=>
    by_cases e1:i=l
    ·grind
    ·rw[at5 (k3 i e q e1) (nb1 q)]at hi;cases hi
 have sub6:=λi e hi=>at6 (z.sub i e hi) (by grind [Col.hl]);refine uN acc6 sub6 (SlR.mk (rows:=[[n,r.1,r.2.1,v6]]) (by intro x hx;rw[bN]at hx;rw[hx];rfl) (by simpa using h6) rfl sI) (λb o m c e q=>?_) oM λv' s7 acc7 k7 f7=>?_
 ·grind
 have n6:∀i,cN 4 v i->i≠l/\i≠b0:=λi q=>⟨λe=>hvl (e ▸ q),λe=>hvb (e ▸ q)⟩
 have hb6:=at6 hbx z.ne;have hb7:=k7 _ _ hb6 λq=>hvb q;have hv'1:v'.one=true:=by rcases acc7.2 with⟨q,_⟩|⟨b,_,q,_⟩<;>rw[q]<;>rfl
 refine cw hb7 sI hv'1 λs8 h8 u8=>?_;have hl7:=k7 _ _ hl6 λq=>hvl q;have hl8:s8 l=some (false,.loop .busy none 20 [(3,Pp b0)] [7,8] (rfAs 0 (bH Tryz.f52)) (rfBo 0 (bH Tryz.f52)) d):=by rw[u8 _ (Ne.symm z.ne)];exact hl7
 refine uO hl8 λs9 hl9 u9=>?_;have kp:aV (λi=>i=l∨i=b0∨i5 t b0 i) t s9:=λi e hi hn=>by have n1:=λq=>hn (.inl q);have n2:=λq=>hn (.inr (.inl q));rw[u9 i n1,u8 i n2];exact k7 _ _ (at6 hi n1) λq=>hn (.inr (.inr ⟨v,hbx,q⟩))
 have h9:Hc s9 b0 36 [v']:=by rw[u9 _ z.ne];exact h8
 have hlst:∀i,i5 t b0 i->cN 4 v i:=λi ⟨v2,q1,q2⟩=>gR;have fr:=λi q=>(f7 i q).imp (back i) id;refine hQ s9 ⟨λi e hi=>kp i e (z.sub i e hi) ?_,z.hb,z.hl,z.ne,⟨d,hl9⟩,⟨v',h9,⟨rows ++ [[Ii n,Ii r.1,Ii r.2.1,v6]],?_,by simp[hrl],λi m hm=>?_⟩,λq=>?_,λq=>?_,hv'1⟩⟩ kp λi ⟨v2,q1,q2⟩=>?_
 ·rintro (q|q|q)
  ·rw[q,z.hl]at hi;cases hi
  ·rw[q,z.hb]at hi;cases hi
  ·have:=(hvt i (hlst i q)).1;grind
 ·refine⟨acc7.1,acc7.2.imp id λ⟨b,q1,q2,q3⟩=>⟨b,q1,q2,?_⟩⟩
  have n1:b≠l:=λe=>gR;have n2:b≠b0:=λe=>gR;rw[u9 b n1,u8 b n2];exact q3
 ·rcases Nat.lt_trichotomy i ns.length with q|q|q
  ·rw[da q]at hm
   have ⟨lv,e1,e2,e3⟩:=hrows i m hm;refine⟨lv,by rw[da oM];exact e1,e2.keep kp λb o c' c e hne q2=>?_,λb o c' c e hne=>⟨(e3 b o c' c e hne).1,λq2=>?_⟩⟩
   ·have hne:m.2.2.2≠[]:=by simpa using hne
    have ⟨tg,el,cs,q3⟩:=nY e2 b o c' c e hne;rcases q2 with q2|q2|q2
    ·exact hf3 b q2 _ _ _ q3
    ·exact IS e2 hbx hvi b o c' c e hne q2
    ·exact(e3 b o c' c e hne).2 (hlst b q2)
   ·have ⟨tg,el,cs,q3⟩:=nY e2 b o c' c e hne
    rcases fr b q2 with q4|q4
    ·rw[q3]at q4;cases q4
    ·exact(e3 b o c' c e hne).2 q4
  ·subst q
   have:m=(n,r):=by simpa using hm.symm
   subst this;refine⟨v6,by rw[ez oM,<- hrl,Nat.sub_self];rfl,?_,λb o c' c e hne=>?_⟩
   ·have k49:aV (λi=>i=l∨i=b0∨i=b1∨cN 4 v i) s4 s9:=λi e hi hn=>by
     rw[u9 i λq=>hn (.inl q),u8 i λq=>hn (.inr (.inl q))];refine k7 _ _ ((u6.sub hb2) _ _ ?_) λq=>hn (.inr (.inr (.inr q)));rw[u5 i λq=>hn (.inr (.inr (.inl q)))];exact hi
    refine Sl.keep hc4 k49 λb o c' c e hne q2=>?_;have hb3:=hf4 b o c' c e (by simpa using hne);rcases q2 with q2|q2|q2|q2
    ·grind
    ·rw[q2,k3 _ _ hbx z.ne]at hb3;cases hb3
    ·grind
    ·have:=(hvt b q2).2
     cases q5:t b with
     |none=>exact this q5
     |some y=>rw[k3 _ _ q5 (n6 b q2).1]at hb3;cases hb3
   ·have hb3:=hf4 b o c' c e hne
    have ht:t b=none:=by
     cases q5:t b with
     |none=>rfl
     | some y=>
       by_cases q6:b=l
       ·grind
       ·rw[k3 _ _ q5 q6]at hb3;cases hb3
    refine⟨dU z.sub ht,λq2=>?_⟩;have ⟨tg,el,cs,q3⟩:=nY hc4 b o c' c e hne;rcases f7 b q2 with q4|q4
    ·by_cases q7:b=b1
     ·grind
     ·have:s5 b=some (tg,.cells el cs):=by rw[u5 b q7];exact q3
      rw[(u6.sub hb2) _ _ this]at q4;cases q4
    ·exact(hvt b q4).2 ht
  ·rw[getElem?_eq_none (by simp;omega)]at hm;cases hm
 ·rcases fr b0 q with q2|q2
  ·rw[hbx]at q2;cases q2
  ·exact hvb q2
 ·rcases fr l q with q2|q2
  ·rw[hlp]at q2;cases q2
  ·exact hvl q2
 ·rw[h9]at q1;cases q1
  exact(fr i q2).imp id λq=>⟨v,hbx,q⟩
variable{cv:AV}
structure RcV(s t t':Hq)(v:AV)(rs:List LS.Rec):Prop where
 ex:∃rows,SlR 3 t' v rows/\rows.length=rs.length/\(∀b o n c,v=.slc b o n c 3->rows≠[]->t b=none)/\
  ∀(i:Nat) (r:LS.Rec),rs[i]?=some r->∃lv,rows[i]?=some [Ii r.1,Ii r.2.1,lv]/\LS.Sli t' lv r.2.2/\r.2.2.length<=100000/\∀b o n c,lv=.slc b o n c 1->r.2.2≠[]->t b=none∨s b≠none
def ChO(s:Hq)(cv:AV)(wl:Wb)(up:Nat->Bool)(ch:Nat->List LS.Rec):Prop:=
 ∀t,Sub s t->∀q∈wl,up q.1=true->∀Q:AV->Hq->Prop,(∀t' v,Sub t t'->RcV s t t' v (ch q.1)->Q v t')->funK TP cv [q.1] Q t
def gX(wl:Wb)(up:Nat->Bool)(ch:Nat->List LS.Rec):List Ntc:=wl.flatMap λq=>if up q.1=true then(ch q.1).map λr=>(q.1,r)else[]
theorem Sv{up:Nat->Bool}{ch:Nat->List LS.Rec}:∀{wl:Wb},(∀q∈wl,(ch q.1).length<=40)->(gX wl up ch).length<=40*wl.length
 |[],_=>by simp[gX]
 | q::wl,h=>by
   have h1:=Sv (up:=up) (wl:=wl) λq hq=>h q (mO _ hq);have h2:=h q dW;have e:gX (q::wl) up ch=(if up q.1=true then(ch q.1).map λr=>(q.1,r)else[])++gX wl up ch:=rfl;rw[e,lAp,length_cons];split;rw[lMY];omega;simp;omega
theorem IU{wl:Wb}{up:Nat->Bool}{ch:Nat->List LS.Rec}{k:Nat}(hk:k<wl.length):gX (wl.take (k+1)) up ch=gX (wl.take k) up ch++(if up wl[k].1=true then(ch wl[k].1).map λr=>(wl[k].1,r)else[]):=by unfold gX;rw[bO,flatMap_append,gE hk];simp
theorem uQ{l b0:Nat}{ns:List Ntc}(z:Col s t l b0 ns){i:Nat}(h:i5 t b0 i):s i=none/\t i≠none/\i≠b0/\i≠l:=by
 have ⟨v,q1,q2⟩:=h;have ⟨v',h1,h2,h3,h4,_⟩:=z.bx;rw[h1]at q1;cases q1;have ⟨rows,acc,_⟩:=h2.ex;have ⟨o,m,c,q3⟩:=id q2;refine⟨?_,?_,λe=>h3 (e ▸ q2),λe=>h4 (e ▸ q2)⟩
 ·rcases acc.2 with⟨q,_⟩|⟨b,q,q4,_⟩
  ·rw[q3]at q;cases q
  grind
 ·rcases acc.2 with⟨q,_⟩|⟨b,_,q4,q⟩
  ·rw[q3]at q;cases q
  grind
noncomputable abbrev lp2(bc by_:Nat)(st:dg)(d:Nat):Blk:=.loop st none 29 [(2,Pp bc),(3,Pp by_)] [10,11] (rfAs 0 (bH Tryz.f106)) (rfBo 0 (bH Tryz.f106)) d
structure NwI(sB:Hq)(l b0 l2 bc by_ bo:Nat)(p:Nat)(ns:List Ntc)(t:Hq):Prop where
 col:Col sB t l b0 ns
 lp:∃d,t l2=some (false,lp2 bc by_ .ready d)
 y:Hc t by_ 224 [.yield l]
 o:Hc t bo 22 [Pp p]
 n2:sB l2=none/\l2≠l
theorem IV{sB:Hq}{wl:Wb}{W:Nat->DT.Wt}{ch:Nat->List LS.Rec}{l b0 l2 bc by_ bo k:Nat}(hk:k<wl.length)(hs:Sub s sB)(hbc:Hc sB bc 133 [cv])
  (hw:∀q∈wl,(∃t,DT.WtAt s q.2 t (W q.1))/\0<(W q.1).m) (hc:ChO sB cv wl (λn=>(W n).up) ch) (hlen:wl.length<=200) (hcl:∀q∈wl,(ch q.1).length<=40)
  (z:NwI sB l b0 l2 bc by_ bo p (gX (wl.take k) (λn=>(W n).up) ch) t) {Q:AV->Hq->Prop}(hQ:∀t',NwI sB l b0 l2 bc by_ bo p (gX (wl.take (k+1)) (λn=>(W n).up) ch) t'->Q true t') :
  funK TP (.yield l2) [(wl[k].1:Int),.ptr wl[k].2 0] Q t:=by
 have ⟨d,hlp⟩:=z.lp;have hq:wl[k]∈wl:=aN hk;obtain⟨⟨_,hwk⟩,hm⟩:=hw _ hq;rw[IU hk]at hQ;refine⟨by grind [jw],ZH hlp ?_⟩;unfold EW bG;refine⟨rfl,As hlp λt1 hl1 u1=>?_⟩;have hno:∀tg el cs,t l2≠some (tg,.cells el cs):=gR;have ne2:∀{i e},t i=some e->(∀st d,e≠(false,lp2 bc by_ st d))->i≠l2:=gR;have col1:Col sB t1 l b0 (gX (wl.take k) (λn=>(W n).up) ch):=z.col.keep (fp:=λi=>i=l2) (u1.keep rfl) (by grind [NwI.n2]);have y1:Hc t1 by_ 224 [.yield l]:=by rw[u1 _ (λq=>hno _ _ _ (by rw[<- q];exact z.y))];exact z.y
 have o1:Hc t1 bo 22 [Pp p]:=by rw[u1 _ (λq=>hno _ _ _ (by rw[<- q];exact z.o))];exact z.o
 have st1:Sub sB t1:=col1.sub;have fin:∀u,Col sB u l b0 (gX (wl.take k) (λn=>(W n).up) ch++(if(W wl[k].1).up=true then(ch wl[k].1).map λr=>(wl[k].1,r)else[]))->(∃d,u l2=some (false,lp2 bc by_ .busy d))->Hc u by_ 224 [.yield l]->Hc u bo 22 [Pp p]->endK l2 .nrm Q u:=by rintro u c1 ⟨d,c2⟩ c3 c4;refine uO c2 λu' e1 e2=>hQ u' ⟨c1.keep (fp:=λi=>i=l2) (e2.keep rfl) (by grind [NwI.n2]),⟨d,e1⟩,?_,?_,z.n2⟩;rw[e2 _ (λq=>gR)];exact c3;rw[e2 _ (λq=>gR)];exact c4
 refine DT.Up_in (hwk.sub (hs.trans st1)) hm ?_;simp only[cQ,ae];cases hup:(W wl[k].1).up with
 | false=>
   simp_all
 | true=>
   simp only[Bool.not_true,aR,au (st1 _ _ hbc),g0Y,ae];refine hc t1 st1 _ hq hup _ λt2 v sub2 rv=>?_;have ⟨rows,hsl,hrl,hfr,hrows⟩:=rv.ex;simp only[hsl.len,ae];have hcn:=hcl _ hq;have col2:=col1.more sub2;refine⟨λys u m=>∃j:Nat,ys=[Ii j]/\j<=rows.length/\m=rows.length-j/\Col sB u l b0 (gX (wl.take k) (λn=>(W n).up) ch++((ch wl[k].1).take j).map λr=>(wl[k].1,r))/\(∃d,u l2=some (false,lp2 bc by_ .busy d))/\Hc u by_ 224 [.yield l]/\Hc u bo 22 [Pp p]/\
    ∀b e,t2 b=some e->(sB b≠none∨t1 b=none)->u b=some e/\¬i5 u b0 b,⟨_,0,rfl,oM,rfl,by simpa using col2,⟨d,sub2 _ _ hl1⟩,sub2 _ _ y1,sub2 _ _ o1,λb e hb ho=>⟨hb,λq=>?_⟩⟩,?_⟩
   ·have ⟨q1,q2,_⟩:=uQ col2 q
    rcases ho with ho|ho;exact ho q1
    ·obtain⟨v',a1,a2⟩:=q
     have:i5 t1 b0 b:=by have ⟨v2,a3,_⟩:=col1.bx;rw[sub2 _ _ a3]at a1;cases a1;exact⟨_,a3,a2⟩
     grind [uQ]
   ·rintro g u m ⟨j,hy,hj,rfl,cu,⟨d3,l3⟩,y3,o3,kp⟩
    simp only[cI,aq]at hy;rw[hy];simp only[Q4,bu,ae,aS];refine aL (λhlt=>?_) (λhge=>?_)
    ·have hlt:j<rows.length:=gR
     have hjc:j<(ch wl[k].1).length:=oM;have ⟨lv,e1,e2,e3,e4⟩:=hrows j _ (gE hjc);have hsl3:SlR 3 u v rows:=hsl.keep (fp:=λb=>¬(sB b≠none∨t1 b=none)) (λb e hb hn=>(kp b e hb (Classical.not_not.1 hn)).1) λb o n c e hne q=>q (.inr (hfr b o n c e hne));have hli:LS.Sli u lv (ch wl[k].1)[j].2.2:=Sl.keep (fp:=λb=>¬(sB b≠none∨t1 b=none)) e2 (λb e hb hn=>(kp b e hb (Classical.not_not.1 hn)).1) λb o n c e hne q=>q ((e4 b o n c e (by simpa using hne)).symm);have ⟨b,o,g1,g2,_⟩:=hsl3.get (i:=j) e1;simp only[g1,g2,ae];refine aI λb12 u1' hb12 h12 v12=>cD h12 rfl rfl (i4 (uP hli)) λu2 h2' v2=>?_;have up2:Upto b12 u u2:=λi hi=>by rw[v2 i hi,v12 i hi]
     have subu:=up2.sub hb12;simp only[au (subu _ _ y3),g0Y,ae,bX (n:=3) h2' rfl];have cu2:=cu.more subu;have hlen2:(gX (wl.take k) (λn=>(W n).up) ch++((ch wl[k].1).take j).map λr=>(wl[k].1,r)).length<=100000:=by rw[lAp,lMY,dJ];have:=Sv (up:=λn=>(W n).up) (ch:=ch) (wl:=wl.take k) λq hq=>hcl q (mem_of_mem_take hq);rw[dJ]at this;omega
     refine IT cu2 (hli.sub subu) e3 hlen2 λu3 c3 k3 f3=>?_;simp only[cQ,Bool.not_true,ae,aR,bg];rw[aT];have lstu:∀i,i5 u2 b0 i->i5 u b0 i:=λi ⟨v',a1,a2⟩=>by have ⟨v2,a3,_⟩:=cu.bx;rw[subu _ _ a3]at a1;cases a1;exact⟨_,a3,a2⟩
     have stay:∀{i e},u i=some e->i≠l->i≠b0->¬i5 u b0 i->u3 i=some e/\¬i5 u3 b0 i:=fun {i e} hi h1 h2 h3=>by
      refine⟨k3 _ _ (subu _ _ hi) ?_,λq=>?_⟩;rintro (q|q|q);exact h1 q;exact h2 q;exact h3 (lstu i q)
      ·rcases f3 i q with q|q
       ·rw[subu _ _ hi]at q;cases q
       exact h3 (lstu i q)
     have ⟨dl,hlu⟩:=cu.lp;have ⟨vb,hbu,hnu,_⟩:=cu.bx;have nl:∀{i tg el cs},u i=some (tg,.cells el cs)->i≠l:=gR;have nlst:∀{i e},u i=some e->(∀cs,e≠(false,.cells 190 cs))->¬i5 u b0 i:=fun {i e} hi hn ⟨v',a1,a2⟩=>by
      rw[hbu]at a1;cases a1;have ⟨rows',acc,_⟩:=hnu.ex;have ⟨o',m',c',q3⟩:=a2;rcases acc.2 with⟨q,_⟩|⟨b',_,q4,q⟩
      ·rw[q3]at q;cases q
      ·rw[q3]at q4;cases q4;rw[hi]at q;cases q;exact hn _ rfl
     have nb0:∀{i e},u i=some e->(∀cs,e≠(false,.cells 36 cs))->i≠b0:=fun {i e} hi hn q=>by rw[q,hbu]at hi;cases hi;exact hn _ rfl
     refine⟨_,oM,j+1,sI,oM,rfl,?_,⟨d3,(stay l3 z.n2.2 (nb0 l3 (λcs q=>by cases q)) (nlst l3 (λcs q=>by cases q))).1⟩,(stay y3 (nl y3) (nb0 y3 (λcs q=>by cases q)) (nlst y3 (λcs q=>by cases q))).1,(stay o3 (nl o3) (nb0 o3 (λcs q=>by cases q)) (nlst o3 (λcs q=>by cases q))).1,λi e hi ho=>?_⟩;have e5:((ch wl[k].1).take (j+1)).map (λr=>(wl[k].1,r))=((ch wl[k].1).take j).map (λr=>(wl[k].1,r)) ++ [(wl[k].1,(ch wl[k].1)[j])]:=by rw[bO,gE hjc,bM];rfl
     grind
     ·have ⟨a1,a2⟩:=kp i e hi ho
      refine stay a1 (λq=>?_) (λq=>?_) a2
      ·rcases ho with ho|ho
       exact ho (by rw[q];exact cu.hl)
       ·rw[q]at ho
        have ⟨d5,q5⟩:=col1.lp;rw[q5]at ho;cases ho
      ·rcases ho with ho|ho
       exact ho (by rw[q];exact cu.hb)
       ·rw[q]at ho
        have ⟨v5,q5,_⟩:=col1.bx;rw[q5]at ho;cases ho
    grind
variable{tp:Bool}
theorem uR{l:Nat}{Kn Kr:Hq->Prop}{Ke:Nat->Hq->Prop}{st:dg}{nt:Nat}{kp:List (Nat×AV)}{ps:List Tmp}{ac bo:Code}{d:Nat}(h:s l=some (false,.loop st none nt kp ps ac bo d))(hst:st≠.busy)(hk:Kn (hdel s l)):oY l Kn Kr Ke s:=by
 grind [oY]
theorem qWi{wl:Wb}{W:Nat->DT.Wt}{ch:Nat->List LS.Rec}(hasc:wl.Pairwise λa b=>a.1<b.1)(hlen:wl.length<=200)(h:s p=some (tp,.cells 75 (roC x ad lf sp lv mv wm d f tk la uv dv)))(hm:LS.MapR s wm (mW wl))
  (hw:∀q∈wl,(∃t,DT.WtAt s q.2 t (W q.1))/\0<(W q.1).m) (hc:∀s',Sub s s'->ChO s' cv wl (λn=>(W n).up) ch) (hcv:cv.one=true) (hcl:∀q∈wl,(ch q.1).length<=40)
  (hK:∀s0 s' v,Sub s s0->Sub s s'->Sub s0 s'->Nts s0 s' v (gX wl (λn=>(W n).up) ch)->K v s'):wC TP 53 [Pp p,cv] (λv s=>wC TP 52 [v] K s) s:=by
 refine ZD (fG rfl λbr s1 hbr h1 u1=>fG hcv λbc s2 hbc h2 u2=>?_);refine Zz (aI λb0 s3 hb0 h3 u3=>⟨kR,trivial,λl d1 hl=>?_⟩);have sub2:Sub s s2:=(u1.sub hbr).trans (u2.sub hbc);have sub3:=u3.sub hb0;have hl2:s2 l=none:=dU sub3 hl;have ne:b0≠l:=λe=>gR;show wC TP 106 [.yield l,Pp br,Pp bc] _ (hset s3 l _);obtain⟨s4,hs4⟩:∃s4,s4=hset s3 l (false,.loop .ready none 20 [(3,Pp b0)] [7,8] (rfAs 0 (bH Tryz.f52)) (rfBo 0 (bH Tryz.f52)) d1):=⟨_,rfl⟩
 rw[<- hs4];have h4:s4 l=some (false,.loop .ready none 20 [(3,Pp b0)] [7,8] (rfAs 0 (bH Tryz.f52)) (rfBo 0 (bH Tryz.f52)) d1):=by rw[hs4,dT]
 have u4:Upto l s3 s4:=λi hi=>by rw[hs4,cG hi]
 have sub4:=u4.sub hl;have sub24:=sub3.trans sub4;have col4:Col s2 s4 l b0 []:=⟨sub24,hb0,hl2,ne,⟨_,h4⟩,⟨.nilslc,sub4 _ _ h3,.nil,(λ⟨_,_,_,q⟩=>by cases q),(λ⟨_,_,_,q⟩=>by cases q),rfl⟩⟩
 refine ZF (fG rfl λby_ s5 hby h5 u5=>?_);have sub5:=u5.sub hby;have hbr5:Hc s5 br 22 [Pp p]:=sub5 _ _ (sub24 _ _ ((u2.sub hbc) _ _ h1));simp only[au hbr5,g0Y,ae];refine nX λbo s6 hbo h6 u6=>⟨kR,trivial,λl2 d2 hl2'=>?_⟩
 have sub6:=u6.sub hbo;have sub26:Sub s2 s6:=(sub24.trans sub5).trans sub6;show wC TP 96 [.yield l2,Pp bo] _ (hset s6 l2 _);obtain⟨s7,hs7⟩:∃s7,s7=hset s6 l2 (false,lp2 bc by_ .ready d2):=⟨_,rfl⟩
 rw[show hset s6 l2 _=s7 from hs7.symm];have h7:s7 l2=some (false,lp2 bc by_ .ready d2):=by rw[hs7,dT]
 have u7:Upto l2 s6 s7:=λi hi=>by rw[hs7,cG hi]
 have sub7:=u7.sub hl2';have n2:s2 l2=none/\l2≠l:=⟨dU sub26 hl2',λe=>by rw[e,sub6 _ _ (sub5 _ _ h4)]at hl2';cases hl2'⟩
 have nw0:NwI s2 l b0 l2 bc by_ bo p (gX (wl.take 0) (λn=>(W n).up) ch) s7:=
  ⟨col4.more ((sub5.trans sub6).trans sub7),⟨d2,h7⟩,sub7 _ _ (sub6 _ _ h5),sub7 _ _ h6,n2⟩
 refine IN (p:=p) (wm:=wm) hasc hlen (I:=λk t=>NwI s2 l b0 l2 bc by_ bo p (gX (wl.take k) (λn=>(W n).up) ch) t) nw0 (λk t z=>?_) (λk hk t z Q hQ=>?_) λr s8 z sub8=>?_;exact⟨⟨_,_,z.o⟩,⟨_,_,z.col.sub _ _ (sub2 _ _ h),rfl⟩,hm.sub (sub2.trans z.col.sub)⟩;exact IV hk sub2 h2 hw (hc s2 sub2) hlen hcl z hQ;rw[take_length]at z;have ⟨dz,lz⟩:=z.lp;have ⟨dl,ll⟩:=z.col.lp;have ⟨vz,bz,nz,_⟩:=z.col.bx;have nb2:b0≠l2:=λe=>gR;refine uR (sub8 _ _ lz) sI ?_;have l9:hdel s8 l2 l=some (false,.loop .ready none 20 [(3,Pp b0)] [7,8] (rfAs 0 (bH Tryz.f52)) (rfBo 0 (bH Tryz.f52)) dl):=by rw[dL n2.2.symm];exact sub8 _ _ ll
 refine uR l9 sI ?_;have b9:hdel (hdel s8 l2) l b0=some (false,.cells 36 [vz]):=by rw[dL ne,dL nb2];exact sub8 _ _ bz
 simp only[au b9,g0Y,ae];have k9:aV (λi=>i=l∨i=l2) r (hdel (hdel s8 l2) l):=λi e hi hn=>by rw[dL λq=>hn (.inl q),dL λq=>hn (.inr q)];exact sub8 _ _ hi
 have s29:Sub s2 (hdel (hdel s8 l2) l):=λi e hi=>by
  refine k9 _ _ (z.col.sub _ _ hi) ?_
  grind
 refine hK s2 _ _ sub2 (sub2.trans s29) s29 (nz.keep k9 λi q tg el cs e=>?_)
 grind
def lks(wl:Wb):List Int:=wl.map λq=>(q.1:Int)
def upL(wl:Wb)(W:Nat->DT.Wt):List Int:=lks (wl.filter λq=>(W q.1).up)
theorem Sw{wl:Wb}(hasc:wl.Pairwise λa b=>a.1<b.1)(hlen:wl.length<=200)(h:s p=some (tp,.cells 75 (roC x ad lf sp lv mv wm d f tk la uv dv)))(hm:LS.MapR s wm (mW wl))
  (hK:∀s' v,Sub s s'->Acc 3 s s' v (izs (lks wl))->K v s'):wC TP 10 [Pp p] K s:=by
 refine ZP (fk h ?_);simp only[cQ,Bool.not_true,ae,aR,bQ,aK,au h,zAY,g1Y,g0Y];refine Dh Go.Proofs.YtcmcofklcgafiaaGreat.sortedOK (p:=(43,95,70)) sI λb2 s2 hb2 h2 u2=>?_;have sub2:=u2.sub hb2;refine LS.Sq Go.Proofs.YtcmcofklcgafiaaGreat.sortedOK sI h2 (hm.sub sub2) (by grind [mW]) λv s3 acc sub3=>?_;rw[uL hasc]at acc;have e:lks wl=(wl.map (·.1)).map λ(n:Nat)=>(n:Int):=by simp_all [lks]
 rw[<- e]at acc;exact hK s3 v (sub2.trans sub3) (acc.imp id λ⟨b,q1,q2⟩=>⟨b,dU sub2 q1,q2⟩)
theorem Sx{elem:ah}{y:AV}{l m:List AV}(hm:m≠[])(h:Acc elem s0 t v l)(hs:Sub s0 t)(hy:Sl t y m)(hl:l.length+m.length<=16777216)
  (hK:∀v' s',Acc elem s0 s' v' (l++m)->aV (cN 1 v) t s'->(∀b,cN 1 v' b->t b=none∨cN 1 v b)->K v' s'):appK elem 1 v y K t:=by
 have own:∀{i:Nat},¬cN 1 v i->offV v t i=t i:=fun {i} hn=>gV λb o n c e' q1 q2=>by
  subst q2;rcases h with⟨q6,_⟩|⟨b'',_,q6,_⟩
  ·rw[q1]at q6;cases q6
  ·rw[q1]at q6;cases q6;exact hn ⟨_,_,_,q1⟩
 have old:∀{i:Nat},cN 1 v i->s0 i=none:=fun {i} ⟨o,n,c,q4⟩=>by
  rcases h with⟨q5,_⟩|⟨b',q6,q5,_⟩
  ·rw[q4]at q5;cases q5
  grind
 have ho:Acc elem (offV v t) t v l:=by
  refine h.imp id λ⟨b,q1,q2,q3⟩=>⟨b,?_,q2,q3⟩
  rw[q2];exact ak rfl
 refine Acc.app ho hy hm hl (λi hi q=>hi (dU lB q)) λv' s' acc kp=>?_;have fr:∀b,offV v t b=none->t b=none∨cN 1 v b:=(by grind [cN])
 have acc':Acc elem s0 s' v' (l++m):=by rcases acc with q|⟨b,q1,q2,q3⟩;exact .inl q;refine .inr ⟨b,?_,q2,q3⟩;rcases fr b q1 with q|q;exact dU hs q;exact old q
 refine hK v' s' acc' (λi e hi hn=>kp i e hi λb q1 q2=>hn (by rw[q2];exact⟨_,_,_,q1⟩)) λb ⟨o,n,c,q1⟩=>?_;rcases acc with⟨q2,_⟩|⟨b',q3,q2,_⟩
 ·rw[q1]at q2;cases q2
 grind
theorem Au{elem:ah}{y w:AV}{l:List AV}(h:Acc elem s0 t v l)(hs:Sub s0 t)(hy:Sl t y [w])(hne:∀b o n c,y=.slc b o n c 1->¬cN 1 v b)(hl:l.length+1<=16777216)
  (hK:∀v' s',Acc elem s0 s' v' (l ++ [w])->aV (cN 1 v) t s'->(∀b,cN 1 v' b->t b=none∨cN 1 v b)->K v' s'):appK elem 1 v y K t:=(by grind [Sx])
structure UpI(sB:Hq)(l b0 bo p:Nat)(ns:List Int)(t:Hq):Prop where
 sub:Sub sB t
 hb:sB b0=none
 hl:sB l=none
 lp:∃d,t l=some (false,.loop .ready none 20 [(3,Pp b0)] [11,12] (rfAs 0 (bH Tryz.f11)) (rfBo 0 (bH Tryz.f11)) d)
 bx:∃v,Hc t b0 25 [v]/\Acc 3 sB t v (izs ns)/\¬cN 1 v b0/\¬cN 1 v l/\¬cN 1 v bo
 o:Hc t bo 22 [Pp p]
 ob:bo≠b0/\bo≠l/\sB bo=none
theorem IW{a:Int}:aM (repl 1 [(Ii 0)]) [(0,1,a)]=some [Ii a]:=rfl
theorem IX{l b0 bo:Nat}{ns:List Int}{n w:Nat}{W:DT.Wt}{Q:AV->Hq->Prop}{tw:Bool}(z:UpI s l b0 bo p ns t)(hw:DT.WtAt s w tw W)(hm:0<W.m)(hns:ns.length<=1000)
  (hQ:∀t',UpI s l b0 bo p (ns++(if W.up=true then[(n:Int)]else[])) t'->Q true t') :
  funK TP (.yield l) [n,Pp w] Q t:=by
 have ⟨d,hlp⟩:=z.lp;obtain⟨v,hbx,acc,n1,n2,n3⟩:=z.bx;refine⟨by grind [jw],ZT hlp ?_⟩;unfold EZ;refine⟨rfl,As hlp λt1 hl1 u1=>?_⟩;have hno:∀tg el cs,t l≠some (tg,.cells el cs):=gR;have k1:aV (λi=>i=l) t t1:=u1.keep rfl;have sub1:Sub s t1:=λi e hi=>k1 _ _ (z.sub _ _ hi) (by grind [UpI.hl]);have b1:Hc t1 b0 25 [v]:=k1 _ _ hbx λq=>gR;have o1:Hc t1 bo 22 [Pp p]:=k1 _ _ z.o z.ob.2.1;have acc1:Acc 3 s t1 v (izs ns):=acc.imp id λ⟨b,q1,q2,q3⟩=>⟨b,q1,q2,k1 _ _ q3 λq=>hno _ _ _ (by rw[<- q];exact q3)⟩
 refine DT.Up_in (hw.sub sub1) hm ?_;cases hup:W.up with
 | false=>
   simp only[aR];refine uO hl1 λt2 hl2 u2=>hQ t2 ?_;have k2:aV (λi=>i=l) t1 t2:=u2.keep rfl;have hno1:∀tg el cs,t1 l≠some (tg,.cells el cs):=gR;rw[hup];refine⟨λi e hi=>k2 _ _ (sub1 _ _ hi) ((by grind [UpI.hl])),z.hb,z.hl,⟨d,hl2⟩,⟨v,k2 _ _ b1 λq=>gR,?_,n1,n2,n3⟩,k2 _ _ o1 z.ob.2.1,z.ob⟩;simp only[Bool.false_eq_true,if_false,append_nil];exact acc1.imp id λ⟨b,q1,q2,q3⟩=>⟨b,q1,q2,k2 _ _ q3 λq=>gR⟩
 | true=>
   simp only[bD,au b1,g0Y,ae,IW];refine⟨rfl,aI λb5 t2 hb5 h5 u5=>?_⟩;have sub2:=u5.sub hb5;have acc2:Acc 3 s t2 v (izs ns):=acc1.imp id λ⟨b,q1,q2,q3⟩=>⟨b,q1,q2,sub2 _ _ q3⟩
   refine Au acc2 (sub1.trans sub2) (Sl.mk (l:=[n]) h5 rfl sI) (λb o m c e q=>?_) (by rw[lMY];omega) λv' t3 acc3 k3 f3=>?_
   ·cases e
    have ⟨o,m,c,q2⟩:=q;rcases acc1 with⟨q3,_⟩|⟨b',_,q3,q4⟩
    ·rw[q2]at q3;cases q3
    ·rw[q2]at q3;cases q3;rw[hb5]at q4;cases q4
   have b3:Hc t3 b0 25 [v]:=k3 _ _ (sub2 _ _ b1) n1;have l3:=k3 _ _ (sub2 _ _ hl1) n2;have o3:=k3 _ _ (sub2 _ _ o1) n3;have hv1:v'.one=true:=by rcases acc3 with⟨q,_⟩|⟨b,_,q,_⟩<;>rw[q]<;>rfl
   refine cw b3 sI hv1 λt4 h4 u4=>?_;have h4:Hc t4 b0 25 [v']:=h4;have ne:b0≠l:=λq=>gR;have l4:t4 l=some (false,.loop .busy none 20 [(3,Pp b0)] [11,12] (rfAs 0 (bH Tryz.f11)) (rfBo 0 (bH Tryz.f11)) d):=by rw[u4 _ ne.symm];exact l3
   refine uO l4 λt5 l5 u5'=>hQ t5 ?_;rw[hup];have fr:∀i,t1 i≠none->¬cN 1 v i->¬cN 1 v' i:=λi hi hn q=>by rcases f3 i q with q2|q2;exact hi (dU sub2 q2);exact hn q2
   have hold:∀i e,s i=some e->¬cN 1 v i:=λi e hi ⟨o,m,c,q⟩=>by
    rcases acc with⟨q2,_⟩|⟨b,q1,q2,_⟩
    ·rw[q]at q2;cases q2
    grind
   refine⟨λi e hi=>?_,z.hb,z.hl,⟨d,l5⟩,⟨v',by rw[u5' _ ne];exact h4,?_,fr _ (by rw[b1];simp) n1,fr _ (by rw[hl1];simp) n2,fr _ (by rw[o1];simp) n3⟩,by rw[u5' _ z.ob.2.1,u4 _ z.ob.1];exact o3,z.ob⟩
   ·have i1:i≠l:=(by grind [UpI.hl])
    have i2:i≠b0:=λq=>by rw[q,z.hb]at hi;cases hi
    rw[u5' i i1,u4 i i2];exact k3 _ _ (sub2 _ _ (sub1 _ _ hi)) (hold i e hi)
   ·have e:izs (ns++if true=true then[(n:Int)]else[])=izs ns ++ [Ii n]:=sI
    rw[e];refine acc3.imp id λ⟨b,q1,q2,q3⟩=>⟨b,q1,q2,?_⟩
    rw[u5' b (λq=>by rw[q,l3]at q3;cases q3),u4 b (λq=>gR)];exact q3
theorem Up_in{wl:Wb}{W:Nat->DT.Wt}(hasc:wl.Pairwise λa b=>a.1<b.1)(hlen:wl.length<=200)(h:s p=some (tp,.cells 75 (roC x ad lf sp lv mv wm d f tk la uv dv)))(hm:LS.MapR s wm (mW wl))
  (hw:∀q∈wl,(∃t,DT.WtAt s q.2 t (W q.1))/\0<(W q.1).m)
  (hK:∀s' v,Sub s s'->Acc 3 s s' v (izs (upL wl W))->K v s'):wC TP 11 [Pp p] K s:=by
 refine ZR (fk h ?_);simp only[cQ,Bool.not_true,ae,aR];refine aI λb0 s1 hb0 h1 u1=>nX λbo s2 hbo h2 u2=>⟨kR,trivial,λl d1 hl=>?_⟩
 have sub1:=u1.sub hb0;have sub2:=u2.sub hbo;have sub12:=sub1.trans sub2;show wC TP 96 [.yield l,Pp bo] _ (hset s2 l _);obtain⟨s3,hs3⟩:∃s3,s3=hset s2 l (false,.loop .ready none 20 [(3,Pp b0)] [11,12] (rfAs 0 (bH Tryz.f11)) (rfBo 0 (bH Tryz.f11)) d1):=⟨_,rfl⟩
 rw[<- hs3];have h3:s3 l=some (false,.loop .ready none 20 [(3,Pp b0)] [11,12] (rfAs 0 (bH Tryz.f11)) (rfBo 0 (bH Tryz.f11)) d1):=by rw[hs3,dT]
 have u3:Upto l s2 s3:=λi hi=>by rw[hs3,cG hi]
 have sub3:=u3.sub hl;have nb:bo≠b0:=λq=>gR;have nl:bo≠l:=λq=>gR;have z0:UpI s l b0 bo p (upL (wl.take 0) W) s3:=⟨sub12.trans sub3,hb0,dU sub12 hl,⟨_,h3⟩,⟨.nilslc,sub3 _ _ (sub2 _ _ h1),.inl ⟨rfl,rfl⟩,(λ⟨_,_,_,q⟩=>by cases q),(λ⟨_,_,_,q⟩=>by cases q),(λ⟨_,_,_,q⟩=>by cases q)⟩,sub3 _ _ h2,nb,nl,dU sub1 hbo⟩
 refine IN (p:=p) (wm:=wm) hasc hlen (I:=λk t=>UpI s l b0 bo p (upL (wl.take k) W) t) z0 (λk t z=>⟨⟨_,_,z.o⟩,⟨_,_,z.sub _ _ h,rfl⟩,hm.sub z.sub⟩) (λk hk t z Q hQ=>?_) λr s8 z sub8=>?_
 ·have ⟨⟨tw,hwk⟩,hmk⟩:=hw _ (aN hk)
  refine IX z hwk hmk ?_ λt' z'=>hQ t' ?_
  grind [upL,lks]
  ·have e:upL (wl.take (k+1)) W=upL (wl.take k) W++(if(W wl[k].1).up=true then[(wl[k].1:Int)]else[]):=by
    unfold upL lks;rw[bO,gE hk,filter_append,bM]
    congr 1
    cases q:(W wl[k].1).up<;>simp[q]
   rw[e];exact z'
 ·rw[take_length]at z
  have ⟨dz,lz⟩:=z.lp;obtain⟨vz,bz,az,_⟩:=z.bx;refine uR (sub8 _ _ lz) sI ?_;have ne:b0≠l:=λq=>gR;have b9:hdel s8 l b0=some (false,.cells 25 [vz]):=by rw[dL ne];exact sub8 _ _ bz
  simp only[au b9,g0Y,ae];refine hK _ _ (λi e hi=>?_) (az.imp id λ⟨b,q1,q2,q3⟩=>⟨b,q1,q2,?_⟩)
  ·rw[dL λq=>by rw[q,z.hl]at hi;cases hi];exact sub8 _ _ (z.sub _ _ hi)
  ·rw[dL λq=>by rw[q,lz]at q3;cases q3];exact sub8 _ _ q3
variable{m:Nat}{nodes dl now:Int}{hv:AV}{F:List (Int × LS.Rec)}
def chT(now:Int)(rs:Nat->Bool)(F:List (Int×LS.Rec))(made:Bool)(rec:LS.Rec)(n:Nat):List LS.Rec:=
 if(rs n||decide (now.tmod 8=0))=true then LS.allR F else if made=true then[rec]else[]
def iJ(rs:Nat->Bool):List AV:=(List.range 128).map λn=>(rs n)
theorem Sy{rs:Nat->Bool}:(iJ rs).length=128:=by unfold iJ;simp
theorem SA{rs:Nat->Bool}{n:Nat}(h:n<128):(iJ rs)[n]?=some (.bool (rs n)):=by unfold iJ;simp[h]
theorem SB{b n:Nat}(h:n<128):fj 128 1 (Pp b) n=some (.ptr b n):=by
 have:blt n 128=true:=by rw[blt_eq];exact h
 show(match nat? n with|some i=>cond (blt i 128) (some (AV.ptr b (0+i*1))) none|none=>none)=_
 grind [nat?_mk]
theorem nZ{a b:Int}{w:AV}(hw:w.one=true):aM (repl 1 [(Ii 0),(Ii 0),.nilslc]) [(0,3,.agg [a,b,w])]=some [Ii a,Ii b,w]:=by cases w<;>first|rfl|cases hw
theorem RcV.single{b:Nat}{r:LS.Rec}(hb:t b=none)(h:Hc s' b 34 [r.1,r.2.1,lv])(hl:LS.Sli s' lv r.2.2)(hn:r.2.2.length<=100000)(ho:∀b o n c,lv=.slc b o n c 1->r.2.2≠[]->t b=none∨s b≠none):RcV s t s' (.slc b 0 1 (some 1) 3) [r]:=by
 refine⟨[[r.1,r.2.1,lv]],SlR.mk (rows:=[[r.1,r.2.1,lv]]) gR (by simpa using h) rfl sI,rfl,gR,λi r' hi=>?_⟩
 grind
theorem RcV.no:RcV s t s' .nilslc []:=⟨[],⟨sI,.inl ⟨rfl,rfl⟩⟩,rfl,(λ_ _ _ _ e=>by cases e),(λi r hi=>by simp at hi)⟩
theorem RcV.all{rs:List LS.Rec}(h:LS.RcW t s' v rs)(hn:∀r∈rs,r.2.2.length<=100000):RcV s t s' v rs:=by
 have ⟨rows,h1,h2,h3,h4⟩:=h;refine⟨rows,h1,h2,h3,λi r hi=>?_⟩
 grind
theorem IY{r:LS.Rec}(h:r∈LS.allR F):∃k,look F k=some r:=by have ⟨k,_,e⟩:=mem_filterMap.1 h;exact⟨k,e⟩
theorem IZ{wl:Wb}{up:Nat->Bool}{rs:Nat->Bool}{made:Bool}{rec:LS.Rec}{br bn bR bm bq:Nat}(hR:Hc s bR 22 [Pp p])(hp:s p=some (tp,.cells 75 (roC x ad lf sp lv mv wm d f tk la uv dv)))(hd:LS.Db (λ_=>False) s d m nodes x dl F)
  (hr:Hc s br 134 (iJ rs)) (hn:Hc s bn 3 [now]) (hm:Hc s bm 4 [made]) (hq:Hc s bq 34 [rec.1,rec.2.1,v]) (hv:LS.Sli s v rec.2.2) (hvl:rec.2.2.length<=100000) (hwl:∀q∈wl,q.1<128) :
  ChO s (.fn (.func 59) [] [Pp br,Pp bn,Pp bR,Pp bm,Pp bq]) wl up (chT now rs F made rec):=by
 intro t st q hq' _ Q hQ;refine⟨kR,?_⟩;show wC TP 59 [q.1,Pp br,Pp bn,Pp bR,Pp bm,Pp bq] Q t;refine ZK ?_;have hd':=hd.sub st;simp only[Q7,SB (hwl q hq'),ae,au (st _ _ hr),SA (hwl q hq')];have all:(rs q.1||decide (now.tmod 8=0))=true->wC TP 60 [Pp d] (λv s=>Q v s) t:=λh=>LS.Ip hd' λv t' sub rw'=>hQ t' v sub (by unfold chT;rw[ak h];exact RcV.all rw' λr hr=>by have ⟨k,e⟩:=IY hr;exact(hd.gd k r e).2.2)
 have e8:cZ .rem now (Ii 8)=some (Ii (now.tmod 8)):=na dE;have j0:∀t12 t15:AV,cW t12 true t15=some (.bool (rs q.1||decide (now.tmod 8=0)))->yO (Pp bR) (Pp bm) (Pp bq) t12 t15 Q t:=by
  intro t12 t15 hp';unfold yO;rw[hp',cP];refine aL (λh=>?_) (λh=>?_)
  ·simp only[au (st _ _ hR),g0Y,ae,bQ,aK,zAY,au (st _ _ hp),g1Y]
   exact all h
  ·simp only[au (st _ _ hm),g0Y,ae]
   have hch:chT now rs F made rec q.1=if made=true then[rec]else[]:=by unfold chT;grind
   cases hmade:made with
   | true=>
     simp only[bD,bX (n:=3) (st _ _ hq) rfl,ae,nZ (Sl.one hv)];refine⟨i4 (Sl.one hv),aI λb t' hb h' u'=>hQ t' _ (u'.sub hb) ?_⟩;rw[hch,hmade,ak rfl];exact RcV.single hb h' (hv.sub (st.trans (u'.sub hb))) hvl (by grind [nY])
   | false=>
     grind [aR,RcV.no,Sub.refl]
 cases hrs:rs q.1 with
 | true=>
   simp_all
 | false=>
   simp only[aR,au (st _ _ hn),g0Y,ae,e8,cj,bJ,Bool.false_bne]
   grind [ct]
def chR(code lk:Int)(rec old:LS.Rec)(n:Nat):List LS.Rec:=
 if code=1/\(n:Int)≠lk then[rec]else if code=3∨(code=2/\(n:Int)=lk)then[old]else[]
theorem I6{wl:Wb}{up:Nat->Bool}{rec old:LS.Rec}{code lk:Int}{bw bl bR bx:Nat}(hR:Hc s bR 22 [Pp p])(hp:s p=some (tp,.cells 75 (roC x ad lf sp lv mv wm d f tk la uv dv)))(hd:LS.Db (λ_=>False) s d m nodes x dl F)
  (hw:Hc s bw 3 [code]) (hl:Hc s bl 3 [lk]) (hx:Hc s bx 34 [rec.1,rec.2.1,v]) (hv:LS.Sli s v rec.2.2) (hvl:rec.2.2.length<=100000) (hold:code=2∨code=3->look F rec.1=some old) :
  ChO s (.fn (.func 54) [] [Pp bw,Pp bl,Pp bx,Pp bR]) wl up (chR code lk rec old):=by
 intro t st q hq' _ Q hQ;refine⟨kR,?_⟩;show wC TP 54 [q.1,Pp bw,Pp bl,Pp bx,Pp bR] Q t;refine ZJ ?_;have hd':=hd.sub st;have hx':=st _ _ hx;have hp':=st _ _ hp;simp only[Q5,au (st _ _ hw),g0Y,ae,cj,bJ,Bool.false_bne];have emp:chR code lk rec old q.1=[]->EX Q t:=λh=>by refine hQ t _ (.refl t) ?_;rw[h];exact RcV.no
 have get:(code=2∨code=3)->chR code lk rec old q.1=[old]->tB (Pp bx) (Pp bR) true Q t:=λhc h=>by
  unfold tB;simp only[bD,au (st _ _ hR),g0Y,ae,bQ,aK,zAY,au hp',g1Y,au hx'];refine LS.Im hd'.rd (hold hc) λs1 v1 sub1 hv1 hf1=>?_;have e0:bV (.tup [LS.recV old.1 old.2.1 v1,true]) 0=some (LS.recV old.1 old.2.1 v1):=rfl;have e1:bV (.tup [LS.recV old.1 old.2.1 v1,true]) 1=some (.bool true):=rfl;simp only[e0,e1,ae];have hv2:LS.Sli s1 v1 old.2.2:=hv1;have s02:Sub t s1:=sub1;refine aI λb2 g hb2 gb gu=>?_;have gs:Sub s1 g:=gu.sub hb2;refine cD gb rfl rfl (i4 (Sl.one hv1)) λs3 h3 u3=>?_;have sub3:Sub s1 s3:=λi e hi=>by rw[u3 i λq=>by rw[q,hb2]at hi;cases hi];exact gs _ _ hi
  simp only[bD,bX (n:=3) h3 rfl,ae,nZ (Sl.one hv1)];refine⟨i4 (Sl.one hv1),aI λb4 s4 hb4 h4 u4=>hQ s4 _ ((s02.trans sub3).trans (u4.sub hb4)) ?_⟩;rw[h];exact RcV.single (dU (s02.trans sub3) hb4) h4 (hv2.sub (sub3.trans (u4.sub hb4))) (hd.gd _ _ (hold hc)).2.2 λb o n c e hne=>.inl (hf1 b o n c e hne)
 have j3:∀t24 t27:AV,cW t24 t27 false=some (decide (code=2/\(q.1:Int)=lk))->¬(code=1/\(q.1:Int)≠lk)->code≠3->yM (Pp bx) (Pp bR) t24 t27 Q t:=by
  grind [yM,cP,chR,tB,aR]
 have j0:∀t12 t15:AV,cW t12 t15 false=some (.bool (decide (code=1/\(q.1:Int)≠lk)))->yN q.1 (Pp bw) (Pp bl) (Pp bx) (Pp bR) t12 t15 Q t:=by
  intro t12 t15 hpk;unfold yN;rw[hpk,cP]
  by_cases h1:code=1/\(q.1:Int)≠lk
  ·rw[aH h1]
   simp only[bD,bX (n:=3) hx' rfl,ae,nZ (Sl.one hv)];refine⟨i4 (Sl.one hv),aI λb t' hb h' u'=>hQ t' _ (u'.sub hb) ?_⟩;unfold chR;rw[ak h1];exact RcV.single hb h' (hv.sub (st.trans (u'.sub hb))) hvl λb' o n c e hne=>.inr λq=>by have ⟨tg,el,cs,q2⟩:=nY hv b' o n c e hne;rw[q2]at q;cases q
  rw[aC h1];simp only[aR,au (st _ _ hw),g0Y,ae,cj,bJ,Bool.false_bne]
  by_cases h3:code=3
  grind [bD,chR]
  rw[show(code == 3)=false by simpa using h3];simp only[aR]
  by_cases h2:code=2
  rw[show(code == 2)=true by simpa using h2];simp only[bD,au (st _ _ hl),g0Y,ae,cj,bJ,Bool.false_bne]
  grind [cy]
  grind [aR,ct]
 by_cases h1:code=1
 rw[show(code == 1)=true by simpa using h1];simp only[bD,au (st _ _ hl),g0Y,ae,cj,bJ,Bool.true_bne];refine j0 _ _ ?_;rw[cy]
 congr 2
 rw[Bool.eq_iff_iff];simp[h1]
 grind [aR,ct]
variable{rv0 rw' o:Hq}{wl:Wb}{W:Nat→DT.Wt}
structure WsAt(rv0:Hq)(wm:Nat)(wl:Wb)(W:Nat->DT.Wt):Prop where
 mp:fK rv0 wm (mW wl)
 w:∀q∈wl,DT.WtAt rv0 q.2 false (W q.1)
 inj:∀q∈wl,∀q'∈wl,q.2=q'.2->q.1=q'.1
 asc:wl.Pairwise λa b=>a.1<b.1
theorem WsAt.sub(z:WsAt rv0 wm wl W)(k:Sub rv0 s):WsAt s wm wl W:=by have ⟨es,c,h1,h2⟩:=z.mp;exact⟨⟨es,c,k _ _ h1,h2⟩,λq hq=>(z.w q hq).sub k,z.inj,z.asc⟩
theorem WsAt.mr(z:WsAt rv0 wm wl W):LS.MapR rv0 wm (mW wl):=by have ⟨es,c,h1,h2⟩:=z.mp;exact⟨_,es,c,h1,h2⟩
theorem WsAt.congr{W':Nat->DT.Wt}(z:WsAt rv0 wm wl W)(h:∀q∈wl,W q.1=W' q.1):WsAt rv0 wm wl W':=⟨z.mp,λq hq=>by grind [w],z.inj,z.asc⟩
theorem uS:∀{wl:Wb},(wl.Pairwise λa b=>a.1<b.1)->∀q∈wl,∀q'∈wl,q'.1=q.1->q'=q
 |[],_,q,h,_,_,_=>by cases h
 | e::wl,h,q,hq,q',hq',e1=>by
   have ⟨h1,h2⟩:=aB.1 h;rcases mCY hq with a|a;rcases mCY hq' with c|c;rw[a,c];have:=h1 q' c;rw[a]at e1;omega;rcases mCY hq' with c|c;have:=h1 q a;rw[c]at e1;omega;exact uS h2 q a q' c e1
theorem I7{q:Nat×Nat}{heard:Bool}(z:WsAt rv0 wm wl W)(hq:q∈wl)(hs:Sub rv0 s)(hok:(W q.1).ok)(hch:0<=(W q.1).changes/\(W q.1).changes<=1000000000000)(hne:DT.jj (W q.1) now=none)
  (hK:∀rw' s',WsAt rw' wm wl (λn=>if n=q.1 then DT.gW (W n) now heard else W n)->Goes rv0 s rw' s'->K (.tup [(DT.eT (W q.1) now heard),Ii 0]) s'):wC TP 57 [Pp q.2,now,heard] K s:=by
 refine wC.goes hs (DT.Ar (z.w q hq) hok hch (gR) λb' _ hw k s' g=>hK b' s' ⟨?_,λq' hq'=>?_,z.inj,z.asc⟩ g);have ⟨es,c,h1,h2⟩:=z.mp;have ⟨e0,L0,D0,hc,_⟩:=z.w q hq;exact⟨es,c,k _ _ h1 (λe=>gR),h2⟩
 by_cases e:q'.1=q.1
 have:=uS z.asc q hq q' hq' e
 grind
 rw[aj e];exact(z.w q' hq').keep (z.w q hq) k λe2=>e (z.inj q' hq' q hq e2)
def Wk(wl:Wb)(W:Nat->DT.Wt)(now:Int)(heard:List Int)(k n:Nat):DT.Wt:=if n∈(wl.take k).map (·.1)then DT.gW (W n) now (decide ((n:Int)∈heard))else W n
def risen(wl:Wb)(W:Nat->DT.Wt)(now:Int)(heard:List Int)(k n:Nat):Bool:=decide (n∈(wl.take k).map (·.1))&&(DT.eT (W n) now (decide ((n:Int)∈heard))&&(DT.gW (W n) now (decide ((n:Int)∈heard))).up)
theorem SC{k n:Nat}(hk:k<wl.length):n∈(wl.take (k+1)).map (·.1)↔n∈(wl.take k).map (·.1)∨n=wl[k].1:=by rw[bO,gE hk,bM,mem_append];simp
theorem SD(hasc:wl.Pairwise λa b=>a.1<b.1){k:Nat}(hk:k<wl.length):wl[k].1 ∉ (wl.take k).map (·.1):=λh=>by have ⟨q,hq,e⟩:=mem_map.1 h;have ⟨j,hj⟩:=mem_iff_getElem?.1 hq;have ⟨j1,j2⟩:=gS hj;rw[dJ]at j1;rw[getElem_take]at j2;have:=cE.1 hasc j k oM hk oM;rw[j2]at this;omega
theorem uT(hasc:wl.Pairwise λa b=>a.1<b.1){heard:List Int}{k:Nat}(hk:k<wl.length)(n:Nat):Wk wl W now heard (k+1) n=if n=wl[k].1 then DT.gW (Wk wl W now heard k n) now (decide ((n:Int)∈heard))else Wk wl W now heard k n:=by
 grind [Wk,SC,SD]
theorem I8{rs:Nat->Bool}{n:Nat}{b:Bool}(h:n<128):(iJ rs).set n b=iJ λi=>if i=n then b else rs i:=by
 apply ext_getElem?
 grind [Sy,SA]
noncomputable abbrev lpT(bn bh br:Nat)(st:dg)(d:Nat):Blk:=.loop st none 116 [(4,Pp bn),(5,Pp bh),(10,Pp br)] [75,76] (rfAs 0 (bH Tryz.f18)) (rfBo 0 (bH Tryz.f18)) d
structure TkH(wl:Wb)(W:Nat->DT.Wt)(now:Int):Prop where
 ok:∀q∈wl,(W q.1).ok
 ch:∀q∈wl,0<=(W q.1).changes/\(W q.1).changes<=1000000000000
 ne:∀q∈wl,DT.jj (W q.1) now=none
 lt:∀q∈wl,q.1<128
theorem I9{heard:List Int}{bn bh br bR:Nat}{Kn Kr:Hq->Prop}{Ke:Nat->Hq->Prop}(z:WsAt rv0 wm wl W)(h:TkH wl W now)(hlen:wl.length<=200)
  (hp:o p=some (tp,.cells 75 (roC x ad lf sp lv mv wm d f tk la uv dv))) (hn:Hc o bn 3 [now]) (hh:Hc o bh 25 [hv]) (hhv:LS.Sli o hv heard) (hha:heard.Pairwise (· < ·)) (hhl:heard.length<=1000000)
  (sp:Sep s [rv0,o,one br (false,.cells 134 (iJ λ_=>false))])
  (hK:∀rw' s',WsAt rw' wm wl (Wk wl W now heard wl.length)->Sep s' [rw',o,one br (false,.cells 134 (iJ (risen wl W now heard wl.length)))]->Kn s') :
  wC TP 44 [Pp p] (λv s=>rngK TP 116 none v [(4,Pp bn),(5,Pp bh),(10,Pp br)] [75,76] (rfAs 0 (bH Tryz.f18)) (rfBo 0 (bH Tryz.f18)) Kn Kr Ke s) s:=by
 refine nX λbo s1 hbo h1 u1=>⟨kR,trivial,λl d0 hl=>?_⟩
 obtain⟨s2,hs2⟩:∃s2,s2=hset s1 l (false,lpT bn bh br .ready d0):=⟨_,rfl⟩
 have h2:s2 l=some (false,lpT bn bh br .ready d0):=by rw[hs2,dT]
 have u2:Upto l s1 s2:=λi hi=>by rw[hs2,cG hi]
 have sp2:=(sp.new u1 hbo h1).new u2 hl h2;have e0:Wk wl W now heard 0=W:=by funext n;unfold Wk;simp
 have er:risen wl W now heard 0=λ_=>false:=by funext n;unfold risen;simp
 refine IN (p:=p) (wm:=wm) z.asc hlen (I:=λk t=>∃rk d0,WsAt rk wm wl (Wk wl W now heard k)/\Sep t [one l (false,lpT bn bh br .ready d0),one bo (false,.cells 22 [Pp p]),rk,o,one br (false,.cells 134 (iJ (risen wl W now heard k)))]) gR (λk t ⟨rk,d0,zk,sk⟩=>?_) (λk hk t ⟨rk,d0,zk,sk⟩ Q hQ=>?_) λr s8 ⟨rk,d0,zk,sk⟩ sub8=>?_;exact⟨⟨_,_,sk.sub (one bo (false,.cells 22 [Pp p])) sI _ _ bW⟩,⟨_,_,sk.sub o sI _ _ hp,rfl⟩,zk.mr.sub (sk.sub rk sI)⟩;have hlp:=sk.sub (one l (false,lpT bn bh br .ready d0)) sI _ _ bW;have hq:=aN hk;have eW:Wk wl W now heard k wl[k].1=W wl[k].1:=by unfold Wk;rw[aj (SD z.asc hk)]
 refine⟨by grind [jw],Z8 hlp ?_⟩;refine⟨rfl,As hlp λt1 hl1 u1=>?_⟩;have s1:=Sep.wr1 sk (x:=(false,lpT bn bh br .busy d0)) u1 (by rw[bW];simp) hl1;have so:=s1.sub o sI;simp only[au (so _ _ hh),g0Y,ae];refine LS.Is (hhv.sub so) hhl hha λrv=>?_;have x0:bV (.tup [rv,(decide ((wl[k].1:Int)∈heard))]) 0=some rv:=rfl;have x1:bV (.tup [rv,(decide ((wl[k].1:Int)∈heard))]) 1=some (decide ((wl[k].1:Int)∈heard)):=rfl;simp only[x0,x1,ae,au (so _ _ hn),g0Y];refine I7 zk hq (s1.sub rk sI) (by rw[eW];exact h.ok _ hq) (by rw[eW];exact h.ch _ hq) (by rw[eW];exact h.ne _ hq) λrk' t2 zk' g=>?_;have s2:=Sep.goes (l1:=[hset (one l (false,lpT bn bh br .ready d0)) l (false,lpT bn bh br .busy d0),one bo (false,.cells 22 [Pp p])]) s1 g;rw[eW];have y0:bV (.tup [AV.bool (DT.eT (W wl[k].1) now (decide ((wl[k].1:Int)∈heard))),Ii 0]) 0=some (.bool (DT.eT (W wl[k].1) now (decide ((wl[k].1:Int)∈heard)))):=rfl;have y1:bV (.tup [AV.bool (DT.eT (W wl[k].1) now (decide ((wl[k].1:Int)∈heard))),Ii 0]) 1=some (Ii 0):=rfl;simp only[y0,y1,ae];have zk2:WsAt rk' wm wl (Wk wl W now heard (k+1)):=(by grind [uT,WsAt.congr,WsAt.asc])
 have fin:∀t92 t94:AV,cW t92 t94 false=some (DT.eT (W wl[k].1) now (decide ((wl[k].1:Int)∈heard))&&(DT.gW (W wl[k].1) now (decide ((wl[k].1:Int)∈heard))).up)->yT (Pp br) (wl[k].1:Int) t92 t94 (λe s=>endK l e Q s) t2:=by
  intro t92 t94 hpk;unfold yT;have hb2:=s2.sub (one br (false,.cells 134 (iJ (risen wl W now heard k)))) sI _ _ bW;simp only[hpk,ae,SB (h.lt _ hq)];refine cw hb2 (by grind [Sy,TkH.lt]) rfl λt3 h3 u3=>?_;rw[I8 (h.lt _ hq)]at h3;have er:(λi=>if i=wl[k].1 then(DT.eT (W wl[k].1) now (decide ((wl[k].1:Int)∈heard))&&(DT.gW (W wl[k].1) now (decide ((wl[k].1:Int)∈heard))).up)else risen wl W now heard k i)=risen wl W now heard (k+1):=by
   grind [risen,SC]
  have s3:=Sep.wr (l1:=[hset (one l (false,lpT bn bh br .ready d0)) l (false,lpT bn bh br .busy d0),one bo (false,.cells 22 [Pp p]),rk',o]) (l2:=[]) s2 u3 (by rw[bW];simp) h3;have hl3:=s3.sub (hset (one l (false,lpT bn bh br .ready d0)) l (false,lpT bn bh br .busy d0)) sI _ _ dT;refine uO hl3 λt4 hl4 u4=>hQ t4 ⟨rk',d0,zk2,?_⟩;have s4:=Sep.wr1 s3 (x:=(false,lpT bn bh br .ready d0)) u4 (by rw[dT];simp) hl4;have c1:hset (hset (one l (false,lpT bn bh br .ready d0)) l (false,lpT bn bh br .busy d0)) l (false,lpT bn bh br .ready d0)=one l (false,lpT bn bh br .ready d0):=by
   funext i
   grind [dT,bW,cG]
  have c2:∀(c1 c2:List AV),hset (one br (false,.cells 134 c1)) br (false,.cells 134 c2)=one br (false,.cells 134 c2):=(by grind [dT,cG,one])
  simp_all
 rcases hch:DT.eT (W wl[k].1) now (decide ((wl[k].1:Int)∈heard))with _|_;rw[hch]at fin;exact fin _ _ rfl;rw[hch]at fin;have hw2:=zk2.w _ hq;have ew:Wk wl W now heard (k+1) wl[k].1=DT.gW (W wl[k].1) now (decide ((wl[k].1:Int)∈heard)):=by rw[uT z.asc hk,ak rfl,eW]
 rw[ew]at hw2;refine DT.Up_in (hw2.sub (s2.sub rk' sI)) (by have:=(h.ok _ hq).1;show 0<(W wl[k].1).m;omega) ?_;exact fin _ _ rfl;have hlp:=sub8 _ _ (sk.sub (one l (false,lpT bn bh br .ready d0)) sI _ _ bW);refine uR hlp sI (hK rk _ zk ?_);have s8':=(sk.drop).more sub8;have ho:=sk.dj;have sd:Sep (hdel s8 l) [one bo (false,.cells 22 [Pp p]),rk,o,one br (false,.cells 134 (iJ (risen wl W now heard wl.length)))]:=by
  refine⟨λy hy i e hi=>?_,(aB.1 ho).2⟩;rw[dL λq=>by
   have:=(aB.1 ho).1 y hy l (by rw[bW];simp)
   grind]
  exact s8'.sub y hy i e hi
 exact sd.drop
variable{rd:Hq}{N x:Nat}{w:AV}
def DbAt(rd:Hq)(d N x:Nat)(dl:Int)(F:List (Int×LS.Rec)):Prop:=∃m,LS.Db (λ_=>False) rd d m (N:Int) (x:Int) dl F
def outR(s r:Hq)(i:Nat):Prop:=s i≠none/\r i=none
theorem lC{m:Nat}(z:LS.Db (λ_=>False) rd d m (N:Int) (x:Int) dl F)(hs:Sub rd s):LS.Db (outR s rd) s d m (N:Int) (x:Int) dl F:=by
 obtain⟨l,⟨es,c,h1,h2⟩,h3⟩:=z.mp;refine⟨hs _ _ z.dc,⟨l,⟨es,c,hs _ _ h1,h2⟩,h3.mono λa b ⟨lv,e,h4,h5⟩=>⟨lv,e,h4.sub hs,λb' o n c e' hne=>⟨λq=>?_,(h5 b' o n c e' hne).2⟩⟩⟩,λq=>?_,λq=>?_,z.nn,z.gd⟩
 ·have ⟨tg,el,cs,q2⟩:=nY h4 b' o n c e' hne
  rw[q.2]at q2;cases q2
 ·have:=q.2;rw[z.dc]at this;cases this
 have:=q.2;grind
theorem Ja{Fz:Nat->Prop}{r:Hq}{m:Nat}(z:LS.Db Fz s d m (N:Int) (x:Int) dl F)(hr:∀i e,s i=some e->¬Fz i->r i=some e):LS.Db (λ_=>False) r d m (N:Int) (x:Int) dl F:=by obtain⟨l,⟨es,c,h1,h2⟩,h3⟩:=z.mp;refine⟨hr _ _ z.dc z.fd,⟨l,⟨es,c,hr _ _ h1 z.fm,h2⟩,h3.mono λa b ⟨lv,e,h4,h5⟩=>⟨lv,e,?_,gR⟩⟩,λq=>q,λq=>q,z.nn,z.gd⟩;exact Sl.keep (fp:=Fz) h4 hr gR
open Classical in
noncomputable def less(s:Hq)(A:Nat->Prop):Hq:=λi=>if A i then none else s i
theorem Jb{A:Nat->Prop}:Sub (less s A) s:=λi e hi=>by
 unfold less at hi;split at hi
 ·cases hi
 exact hi
theorem uU{A:Nat->Prop}{i:Nat}(h:¬A i):less s A i=s i:=aj h
theorem uV{A:Nat->Prop}{i:Nat}(h:A i):less s A i=none:=ak h
theorem SE{A:Nat->Prop}{fp:Nat->Prop}(k:aV fp s s')(hfp:∀i,fp i->rd i≠none)(hA:∀i,outR s rd i->A i):Goes rd s (less s' A) s':=
 ⟨Jb,λi h1 h2=>⟨by
  cases e:s i with
  |none=>exact absurd e h2
  |some y=>exact(k _ _ e λq=>hfp i q h1),uV (hA i ⟨h2,h1⟩)⟩⟩
theorem Jc{L:List Int}(z:DbAt rd d N x dl F)(hs:Sub rd s)(h:LS.Sli s v L)(hl:L.length<=100000)(h0:0<=dl)
  (hK:∀rd' s' lv,DbAt rd' d N x (LS.ownR (x:Int) dl F L).last (LS.ownR (x:Int) dl F L).F->Goes rd s rd' s'->LS.Sli s' lv (LS.ownR (x:Int) dl F L).r.2.2->(∀b o n c,lv=.slc b o n c 1->(LS.ownR (x:Int) dl F L).r.2.2≠[]->s b=none/\rd' b=none)->
   K (.tup [LS.recV (LS.ownR (x:Int) dl F L).r.1 (LS.ownR (x:Int) dl F L).r.2.1 lv,(LS.ownR (x:Int) dl F L).nw,(LS.ownR (x:Int) dl F L).err]) s'):wC TP 58 [Pp d,v] K s:=by
 have ⟨m,z⟩:=z;have zu:=lC z hs;refine LS.Ix zu (λb hb=>hb.1) h hl h0 λs' lv k z' hli hfr=>?_;have hdm:∀i,(i=d∨i=m)->rd i≠none:=λi hi=>by
  have ⟨l,⟨es,c,h1,_⟩,_⟩:=z.mp;rcases hi with rfl|rfl
  ·rw[z.dc];simp
  ·rw[h1];simp
 refine hK (less s' λb=>outR s rd b∨LS.inL lv (LS.ownR (x:Int) dl F L).r.2.2 b) s' lv ⟨m,(by grind [Ja,uU])⟩ (SE k hdm λi hi=>.inl hi) hli λb o n c e hne=>⟨(hfr b o n c e hne).1,uV (.inr ⟨hne,o,n,c,e⟩)⟩
theorem Jd{r:LS.Rec}(z:DbAt rd d N x dl F)(hs:Sub rd s)(h:LS.Sli s v r.2.2)(hl:r.2.2.length<=100000)
  (hK:∀rd' s',DbAt rd' d N x (LS.eI (N:Int) (x:Int) dl F r).last (LS.eI (N:Int) (x:Int) dl F r).F->Goes rd s rd' s'->K (.tup [(LS.eI (N:Int) (x:Int) dl F r).code,(LS.eI (N:Int) (x:Int) dl F r).err]) s'):wC TP 50 [Pp d,LS.recV r.1 r.2.1 v] K s:=by
 have ⟨m,z⟩:=z;have zu:=lC z hs;refine LS.Am zu (λb hb=>hb.1) h hl λs' k z'=>?_;have hdm:∀i,(i=d∨i=m)->rd i≠none:=λi hi=>by have ⟨l,⟨es,c,h1,_⟩,_⟩:=z.mp;rcases hi with rfl|rfl;rw[z.dc];simp;rw[h1];simp
 exact hK (less s' (outR s rd)) s' ⟨m,(by grind [Ja,uU])⟩ (SE k hdm λi hi=>hi)
theorem Je{l k:List Bool}(h:Sl s v (l.map .bool))(h':Sl s w (k.map .bool))(hl:l.length<=10000000)(hK:K (l == k) s):wC TP 104 [v,w] K s:=by
 refine Zi ?_;simp only[QP,h.len,h'.len,ae,cj,bJ,lMY,Bool.true_bne,bG];refine aL (λhne=>?_) (λheq=>?_);have:(l == k)=false:=by
  grind
 rw[<- this];exact hK;have hlm:l.length=k.length:=by
  grind
 refine⟨λys s1 n=>∃i:Nat,ys=[Ii i]/\s1=s/\i<=l.length/\n=l.length-i/\(l == k)=(l.drop i == k.drop i),⟨_,0,rfl,rfl,oM,rfl,sI⟩,?_⟩;rintro f s1 n ⟨i,hy,rfl,hi,rfl,he⟩;simp only[cI,aq]at hy;rw[hy];simp only[QO,ae,bu,aS];refine aL (λhlt=>?_) (λhge=>?_);have hlt:i<l.length:=by simpa using hlt
 have ⟨p,g1,g2⟩:=h.get (i:=i) gR;have ⟨p',g3,g4⟩:=h'.get (i:=i) (by rw[lMY];omega);rw[getElem?_map,gE hlt]at g2;rw[getElem?_map,gE (show i<k.length by omega)]at g4;rw[dG hlt,dG (show i<k.length by omega),cons_beq_cons]at he;simp only[g1,g2,g3,g4,ae,Option.map_some];have eb:∀a b:Bool,eqV 1 false a b=some (a == b):=(by simp_all)
 simp only[eb,bJ,Bool.true_bne,ae];rcases hq:(l[i] == k[i])with _|_
 simp_all
 rw[hq,Bool.true_and]at he;simp only[Bool.not_true,aR,bg,ae];rw[aT];exact⟨_,oM,i+1,sI,by trivial,oM,rfl,he⟩
 grind
end Go.AM.RT
