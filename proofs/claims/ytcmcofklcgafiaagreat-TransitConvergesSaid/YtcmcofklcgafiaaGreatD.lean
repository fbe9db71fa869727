/- Part D of the proof: see the last part. -/
import Derived.Test.YtcmcofklcgafiaaGreatC
import Derived.Test.YtcmcofklcgafiaaGreatV2
import Derived.Test.YtcmcofklcgafiaaGreatA3
open Go renaming IntKind→aA
open Nat renaming blt_eq→bZ
open List renaming getElem?_map→cq,getElem_mem→aN,getElem_of_mem→dH,length_filter_le→eD,map_append→bM,map_congr_left→cK,map_map→fT,mem_cons_self→dW,mem_iff_getElem?→fV,mem_map→aG,mem_or_eq_of_mem_set→jF,mem_singleton→bN,pairwise_iff_getElem→cE,pairwise_lt_range→jG,replicate→ba,set_cons_zero→fW,take_length→dI
set_option linter.unusedVariables false
namespace Go.AM.LS
open Go Go.Proofs List Nat
set_option maxRecDepth 100000
variable{K:AV→Hq→Prop}{s s':Hq}
theorem _root_.Go.AM.Sub.upto{s s' s'':Hq}{b:Nat}(h:Sub s s')(u:Upto b s' s'')(hb:s b=none):Sub s s'':=λi e hi=>by rw[u i (dZ hb hi)];exact h i e hi
inductive Pairs {A B:Type}(R:A->B->Prop):List (Int×A)->List (Int×B)->Prop
 |nil:Pairs R [] []
 |cons {k:Int}{a:A}{b:B}{l:List (Int×A)}{F:List (Int×B)}(h:R a b) (t:Pairs R l F):Pairs R ((k,a)::l) ((k,b)::F)
section
variable {A B:Type} {R R':A→B→Prop} {l:List (Int × A)} {F:List (Int × B)}
theorem Pairs.look(h:Pairs R l F)(k:Int):(AM.look l k=none/\AM.look F k=none)∨∃a b,AM.look l k=some a/\AM.look F k=some b/\R a b:=by
 induction h with
 |nil=>exact .inl ⟨rfl,rfl⟩
 | @cons k' a b l F h t ih=>
   grind [nj]
theorem Pairs.mono(h:Pairs R l F)(hm:∀a b,R a b->R' a b):Pairs R' l F:=by
 induction h with
 |nil=>exact .nil
 |cons h t ih=>exact .cons (hm _ _ h) ih
theorem Pairs.keys(h:Pairs R l F):l.map (·.1)=F.map (·.1):=by
 induction h with
 |nil=>rfl
 |cons h t ih=>grind
theorem Pairs.app{k:Int}{a:A}{b:B}(h:Pairs R l F)(hr:R a b):Pairs R (l ++ [(k,a)]) (F ++ [(k,b)]):=by
 induction h with
 |nil=>exact .cons hr .nil
 |cons h t ih=>exact .cons h ih
theorem Pairs.upd{k:Int}{a:A}{b:B}(h:Pairs R l F)(hr:R a b):Pairs R (l.map λp=>if p.1=k then(k,a)else p) (F.map λp=>if p.1=k then(k,b)else p):=by
 induction h with
 |nil=>exact .nil
 | @cons k' _ _ _ _ h t ih=>
   grind [cons]
theorem Pairs.stor{k:Int}{a:A}{b:B}(h:Pairs R l F)(hr:R a b):Pairs R (AM.stor l k a) (AM.stor F k b):=by
 unfold AM.stor;rcases h.look k with⟨h1,h2⟩|⟨a',b',h1,h2,_⟩
 grind [app]
 simp_all [upd]
end
abbrev Rec:=Int×Int×List Int
def RelV(Fz:Nat->Prop)(s:Hq)(d m:Nat)(v:AV)(r:Rec):Prop:=∃lv,v=recV r.1 r.2.1 lv/\Sli s lv r.2.2/\∀b o n c,lv=.slc b o n c 1->r.2.2≠[]->¬Fz b/\b≠d/\b≠m
structure Db(Fz:Nat->Prop)(s:Hq)(d m:Nat)(nodes node last:Int)(F:List (Int×Rec)):Prop where
 dc:Hc s d 217 [nodes,node,last,.map m]
 mp:∃l,fK s m l/\Pairs (RelV Fz s d m) l F
 fd:¬Fz d
 fm:¬Fz m
 nn:1<=nodes/\nodes<=32/\0<=node/\node<nodes
 gd:∀k r,look F k=some r->r.1=k/\(0<=k/\k<nodes)/\r.2.2.length<=100000
theorem Db.dm{Fz:Nat->Prop}{d m:Nat}{nodes node last:Int}{F:List (Int×Rec)}(z:Db Fz s d m nodes node last F):d≠m:=by rintro rfl;have ⟨l,⟨es,c,h,_⟩,_⟩:=z.mp;rw[z.dc]at h;cases h
theorem Db.keep{Fz fp:Nat->Prop}{d m:Nat}{nodes node last:Int}{F:List (Int×Rec)}(z:Db Fz s d m nodes node last F)(k:aV fp s s')(hf:∀i,fp i->Fz i):Db Fz s' d m nodes node last F:=by have nf:∀i,¬Fz i->¬fp i:=λi h q=>h (hf i q);obtain⟨l,⟨es,c,h1,h2⟩,h3⟩:=z.mp;exact⟨k _ _ z.dc (nf _ z.fd),⟨l,⟨es,c,k _ _ h1 (nf _ z.fm),h2⟩,h3.mono λa b ⟨lv,e,h4,h5⟩=>⟨lv,e,h4.keep k gR,h5⟩⟩,z.fd,z.fm,z.nn,z.gd⟩
theorem Db.sub{Fz:Nat->Prop}{d m:Nat}{nodes node last:Int}{F:List (Int×Rec)}(z:Db Fz s d m nodes node last F)(k:Sub s s'):Db Fz s' d m nodes node last F:=z.keep (fp:=λ_=>False) (λb e h _=>k b e h) λ_ h=>h.elim
structure Got where
 last:Int
 F:List (Int×Rec)
 code:Int
 err:Int
def eI(nodes node last:Int)(F:List (Int×Rec))(r:Rec):Got:=
 if chkR nodes r.1 r.2.1 r.2.2≠0 then⟨last,F,0,chkR nodes r.1 r.2.1 r.2.2⟩else
 match look F r.1 with
 |none=>if r.1=node then⟨max last r.2.1,F,0,0⟩else⟨last,stor F r.1 r,1,0⟩
 | some o=>if cmpR r.2.1 o.2.1 r.2.2 o.2.2=-1 then⟨last,F,2,0⟩else
   if cmpR r.2.1 o.2.1 r.2.2 o.2.2=1 then(if r.1=node then(if 1073741824<=r.2.1 then⟨last,F,0,7⟩else⟨r.2.1+1,stor F node (node,r.2.1+1,o.2.2),3,0⟩)else⟨last,stor F r.1 r,1,0⟩)
   else⟨last,F,0,0⟩
theorem G2:∀{l m:List Int},cmpL l m=-1∨cmpL l m=0∨cmpL l m=1:=by
 intro l
 induction l with
 |nil=>intro m;cases m<;>simp[cmpL]
 | cons x l ih=>
   intro m;cases m with
   |nil=>simp[cmpL]
   | cons y m=>
     grind [pG]
theorem zY{p q:Int}{l m:List Int}:cmpR p q l m=-1∨cmpR p q l m=0∨cmpR p q l m=1:=by
 grind [cmpR,G2]
theorem zZ{d m:Nat}{Fz:Nat->Prop}{nodes node last:Int}{F:List (Int×Rec)}(z:Db Fz s d m nodes node last F)(hK:K true s):wC TP 99 [Pp d] K s:=by refine PA ?_;have hp:decide ((0:Int)<nodes)=true:=aH (by have:=z.nn;omega);simp only[Em,nc,bJ,Bool.true_bne,Bool.not_false,bD,bQ,aK,zAY,au z.dc,g0Y,dy,hp,yk,cy,ae];exact hK
theorem G4{v:AV}{l:List Int}(h:Sli s v l)(hl:l.length<=10000000)(hK:∀v' s',Sub s s'->Sli s' v' l->(∀b o n c,v'=.slc b o n c 1->l≠[]->s b=none)->K v' s'):wC TP 105 [v] K s:=by
 refine yl ?_;have cases0:(v=.nilslc/\l=[])∨∃b o c,v=.slc b o l.length c 1:=by
  rcases h with⟨a,b⟩|⟨b,o,c,a,_⟩
  simp_all
  grind
 rcases cases0 with⟨rfl,rfl⟩|⟨b,o,c,rfl⟩
 grind [me,ng,bJ,cP,bD,Sub.refl]
 ·simp only[me,kY,bJ,Bool.false_bne,ae,aR]
  refine aE (a:=[]) rfl ⟨rfl,aI λd s1 hd h1 u1=>?_⟩;have sub1:=u1.sub hd;refine se (h.sub sub1) gR λv' s2 sub2 q1 q2=>hK v' s2 (sub1.trans sub2) ?_ λb o n c e hne=>?_
  by_cases e:l=[]
  subst e;rw[q1 rfl];exact .inr ⟨d,0,some 0,rfl,sI,λh=>absurd rfl h⟩;have ⟨c,e1,e2,e3⟩:=q2 (by simpa using e)
  grind [Sl.mk]
  ·have ⟨c,e1,e2,e3⟩:=q2 (by simpa using hne)
   rw[e2]at e
   injection e with e
   rw[<- e];cases q:s c with
   |none=>rfl
   |some x=>rw[sub1 c x q]at e1;cases e1
theorem R9{n q:Int}{v:AV}{l:List Int}(h:Sli s v l)(hl:l.length<=10000000)(hK:∀v' s',Sub s s'->Sli s' v' l->(∀b o n c,v'=.slc b o n c 1->l≠[]->s b=none)->K (recV n q v') s'):wC TP 102 [recV n q v] K s:=by
 refine PB (box3 rfl rfl h.one λb0 s1 hb0 h1 u1=>aI λb2 s2 hb2 h2 u2=>?_);have sub1:=u1.sub hb0;have sub2:=sub1.trans (u2.sub hb2);have h12:=u2.sub hb2 _ _ h1;have hne:b0≠b2:=dZ hb2 h1;have q2:[AV.int .i64 n,q,v][2]?=some v:=rfl;simp only[aK,zAY,au h12,q2,ae];refine G4 (h.sub sub2) hl λv' s3 sub3 sl3 fr3=>?_;have h13:=sub3 _ _ h12;refine cw h13 sI sl3.one λs4 h4 u4=>?_;have h4:Hc s4 b0 34 [n,q,v']:=h4;have h24:s4 b2=_:=(u4 b2 hne.symm).trans (sub3 _ _ h2);simp only[bX (n:=3) h4 rfl,ae];refine cD h24 rfl rfl (by rw[dh,dh,dh,sl3.one];rfl) λs5 h5 u5=>?_;have h5:Hc s5 b2 34 [n,q,v']:=h5;simp only[bX (n:=3) h5 rfl,ae];have old:∀b,s2 b=none->s b=none:=λb hb=>by
  cases q:s b with
  |none=>rfl
  |some x=>rw[sub2 b x q]at hb;cases hb
 have hb0s:s b0=none:=hb0;have hb2s:s b2=none:=by
  cases q:s b2 with
  |none=>rfl
  |some x=>rw[sub1 b2 x q]at hb2;cases hb2
 refine hK v' s5 (((sub2.trans sub3).upto u4 hb0s).upto u5 hb2s) ?_ gR;refine Sl.keep (fp:=λi=>i=b0∨i=b2) sl3 ((u4.keep (.inl rfl)).trans (u5.keep (.inr rfl))) λb o n c e hne=>?_
 grind
end Go.AM.LS
namespace Go.AM.WH
open Go Go.Proofs List Nat
set_option maxRecDepth 100000
variable{K:AV→Hq→Prop}{s:Hq}
abbrev Sli(s:Hq)(v:AV)(l:List Int):Prop:=Sl s v (l.map (AV.int .i64))
theorem gC{v:AV}{l:List Int}(h:Sli s v l){k:Nat}(hk:k<l.length):∃p,cF 1 v k=some p/\rd1 s p=some (Ii l[k]):=by
 have ⟨p,h1,h2⟩:=h.get (i:=k) (by simpa using hk)
 grind
abbrev ints(l:List Int):List AV:=l.map (AV.int .i64)
theorem pH{bb n i:Nat}{cap:Option Nat}(hi:i<n):cF 1 (.slc bb 0 n cap 1) i=some (.ptr bb i):=by
 have:blt i n=true:=by rw[bZ];exact hi
 simp[cF,this]
theorem G5{B:List Int}{i:Nat}(hi:i<B.length):(ints B)[i]?=some (Ii B[i]):=by simp[ints,hi]
theorem Aa{B:List Int}{i:Nat}{v:Int}:(ints B).set i v=ints (B.set i v):=by simp[ints,map_set]
def ld(B:List Int)(m:Int):Nat:=B.count (m+1)
structure WAt(s:Hq)(w bb:Nat)(mv:AV)(cap:Option Nat)(B M:List Int):Prop where
 wb:Hc s w 289 [.slc bb 0 B.length cap 1,mv]
 bs:Hc s bb 3 (ints B)
 ms:Sli s mv M
 cp:∀c,cap=some c->B.length<=c
 pos:1<=B.length/\B.length<=256
variable{w bb:Nat}{mv:AV}{cap:Option Nat}{B M:List Int}
theorem WAt.sub{s':Hq}(h:WAt s w bb mv cap B M)(hs:Sub s s'):WAt s' w bb mv cap B M:=⟨hs _ _ h.wb,hs _ _ h.bs,h.ms.sub hs,h.cp,h.pos⟩
theorem WAt.ne(h:WAt s w bb mv cap B M):w≠bb:=by rintro rfl;have:=h.wb;rw[h.bs]at this;cases this
theorem G6{t1:Bool}{n:Nat}(hw:s w=some (t1,.cells 289 [.slc bb 0 n cap 1,mv]))(hp:1<=n)(hK:K true s):wC TP 157 [Pp w] K s:=by refine Qj ?_;have hp:decide ((0:Int)<(n:Int))=true:=gR;simp only[EG,nc,bJ,Bool.bne_false,ae,bD,bQ,aK,au hw,zAY,g0Y,ge,dy,hp,yz,cy];exact hK
theorem fk(h:WAt s w bb mv cap B M)(hK:K true s):wC TP 157 [Pp w] K s:=by
 refine Qj ?_;have hp:decide ((0:Int)<(B.length:Int))=true:=by grind [WAt.pos]
 simp only[EG,nc,bJ,Bool.bne_false,ae,bD,bQ,aK,au h.wb,zAY,g0Y,ge,dy,hp,yz,cy];exact hK
theorem New_in{n:Nat}(h1:1<=n)(h2:n<=256)(hK:∀w bb s',s w=none->s bb=none->Sub s s'->WAt s' w bb .nilslc (some n) (ba n 0) []->K (.tup [Pp w,Ii 0]) s'):wC TP 206 [n] K s:=by
 refine Yb ?_;have e1:decide ((n:Int)<1)=false:=gR;have e2:decide ((256:Int)<(n:Int))=false:=gR;simp only[Qi,bu,dy,e1,e2,ae,aR,EE,ct,nat?_mk];refine⟨⟨Nat.le_refl _,oM⟩,aI λbb s1 hb hb1 u1=>?_⟩;refine aE (a:=[.slc bb 0 n (some n) 1,.nilslc]) rfl ⟨rfl,aI λw s2 hw hw2 u2=>?_⟩;have hbb:Hc s2 bb 3 (ints (ba n 0)):=by rw[u2.at hb1 hw,ig];simp[ints]
 have hws:s w=none:=by
  cases e:s w with
  |none=>rfl
  |some x=>rw[u1.sub hb w x e]at hw;cases hw
 refine hK w bb s2 hws hb ((u1.sub hb).trans (u2.sub hw)) ⟨?_,hbb,.inl ⟨rfl,rfl⟩,λc e=>by cases e;simp,by simp;omega⟩
 simp_all
theorem G7{v:AV}{l:List Int}(h:Sli s v l)(hl:l.length<=100000)(hK:∀v' s',Sub s s'->Sli s' v' l->(l≠[]->∃c,s c=none/\v'=.slc c 0 l.length none 1/\Hc s' c 3 (ints l))->K v' s'):wC TP 105 [v] K s:=by
 refine yl ?_;have cases0:(v=.nilslc/\l=[])∨∃b o c,v=.slc b o l.length c 1:=by
  rcases h with⟨a,b⟩|⟨b,o,c,a,_⟩
  simp_all
  grind
 rcases cases0 with⟨rfl,rfl⟩|⟨b,o,c,rfl⟩
 grind [me,ng,bJ,cP,bD,Sub.refl]
 ·simp only[me,kY,bJ,Bool.false_bne,ae,aR]
  refine aE (a:=[]) rfl ⟨rfl,aI λd s1 hd h1 u1=>?_⟩;refine se (h.sub (u1.sub hd)) (by simp;omega) λv' s2 sub2 g1 g2=>hK _ _ ((u1.sub hd).trans sub2) ?_ λhne=>?_
  by_cases hm:l.map (AV.int .i64)=[]
  rw[g1 hm];unfold Sli;rw[hm];exact .inr ⟨d,0,some 0,rfl,sI,λh=>absurd rfl h⟩
  grind [Sl.mk]
  ·have ⟨c,hc0,e,hc⟩:=g2 (by simpa using hne)
   refine⟨c,?_,by simpa using e,hc⟩;cases q:s c with
   |none=>rfl
   |some x=>rw[u1.sub hd c x q]at hc0;cases hc0
def Asc(l:List Int):Prop:=l.Pairwise (· < ·)/\∀x∈l,0<=x/\x<128
theorem G8{v:AV}{l:List Int}(h:WAt s w bb mv cap B M)(hl:Sli s v l)(ha:Asc l)(hlen:l.length<=B.length)(hK:K (Ii 0) s):wC TP 207 [Pp w,v] K s:=by
 refine Yh ?_;have hp:=h.pos;simp only[Ql,hl.len,ae,lMY,bG];refine⟨λys s1 n=>∃k:Nat,ys=[Ii k]/\s1=s/\k<=l.length/\n=l.length-k,⟨_,0,rfl,rfl,oM,rfl⟩,?_⟩;rintro f s1 n ⟨k,hy,rfl,hk,rfl⟩;simp only[cI,aq]at hy;rw[hy];simp only[Qk,ae,bu];refine aL (λhlt=>?_) (λhge=>?_);have hlt:k<l.length:=gR;have ⟨p,g1,g2⟩:=gC hl hlt;have hr:=ha.2 _ (aN hlt);have e1:decide (l[k]<0)=false:=gR;have e2:decide ((128:Int)<=l[k])=false:=gR;have fin:oK (cZ .add k (Ii 1)) λv_9=>∃m',m'<l.length-k/\∃k_1:Nat,[v_9]=[AV.int .i64 k_1]/\True/\k_1<=l.length/\m'=l.length-k_1:=by simp only[bg,ae];rw[aT];exact⟨_,oM,k+1,sI,by trivial,oM,rfl⟩
 simp only[g1,g2,ae,bu,dQ,e1,e2,aR,EH,ct,dy];refine aL (λhp=>?_) (λhp=>?_);rw[hp];have hp:0<k:=gR;have ⟨q,g3,g4⟩:=gC hl (k:=k-1) oM;have ew:aA.i64.wrap ((k:Int)-1)=((k-1:Nat):Int):=by rw[aT];omega
 have hlt2:l[k-1]<l[k]:=cE.1 ha.1 (k-1) k oM hlt oM;have e3:decide (l[k]<=l[k-1])=false:=gR;simp only[eC,ew,g3,g4,ae,iX,e3,yA,cy,aR,aS];exact fin
 grind [yA,ct,cP,aR]
 have e3:decide ((B.length:Int)<(l.length:Int))=false:=gR;simp only[hl.len,lMY,ae,bQ,aK,au h.wb,zAY,g0Y,ge,dy,e3,aR];exact hK
theorem G9{m:Int}{t1 t2:Bool}{mv:AV}(hw:s w=some (t1,.cells 289 [.slc bb 0 B.length cap 1,mv]))(hbs:s bb=some (t2,.cells 3 (ints B)))(hp:1<=B.length/\B.length<=256)(hm:0<=m/\m<128)(hin:m+1∈B)(hK:∀i:Nat,∀hi:i<B.length,B[i]=m+1->(∀k (hk:k<B.length),i<k->B[k]≠m+1)->K i s):wC TP 227 [Pp w,m] K s:=by
 refine YA ?_;simp only[Qr,bQ,aK,au hw,zAY,g0Y,ge,ae,eC,bG];rw[aT];refine⟨λys s1 n=>∃k:Nat,ys=[Ii k]/\s1=s/\n=k/\k<B.length/\m+1∈B.take (k+1)/\∀j (hj:j<B.length),k<j->B[j]≠m+1,⟨_,B.length-1,by simp;omega,rfl,rfl,oM,gR,λj hj h=>oM⟩,?_⟩;rintro f s1 n ⟨k,hy,rfl,rfl,hk,hmem,hlast⟩;simp only[cI,aq]at hy;rw[hy];rw[take_succ_eq_append_getElem hk,mem_append,bN]at hmem;simp only[Qq,dy,ae];refine aL (λhg=>?_) (λhg=>?_);rw[hg];have hg:=oT hg;simp only[bQ,aK,au hw,zAY,g0Y,ae,pH hk,au hbs,G5 hk,bg];rw[aT (n:=m+1) oM oM];simp only[cj,bJ,Bool.true_bne,ae,yC,cy,aS];rcases hq:(B[n] == m+1)with _|_;have hne:¬m+1=B[n]:=λe=>by rw[e]at hq;simp at hq
 simp only[Bool.not_false,bD,eC,ae];rw[aT];refine⟨n-1,oM,n-1,by simp;omega,by trivial,rfl,oM,?_,λj hj hjk=>?_⟩
 grind
 by_cases e:j=n
 subst e;exact λe=>hne e.symm;exact hlast j hj oM
 simp_all
 rw[hg];have hg:=oF hg;have:n=0:=oM;subst this;simp only[yC,ct,ae,aR,aS];refine hK 0 hk ?_ λj hj h=>hlast j hj h;rcases hmem with h|h;simp at h;exact h.symm
def clr(M B:List Int):List Int:=B.map λb=>if b-1∈M then b else 0
theorem ml(M B:List Int):(clr M B).length=B.length:=by simp[clr]
def QF(q:List Shr)(M:List Int)(f:Int->Int):Prop:=(q.map (·.1)).Perm M/\∀x∈q,x.2=f x.1
abbrev QM(q:List Shr)(M B:List Int):Prop:=QF q M λm=>(ld B m:Nat)
theorem QF.perm{q q':List Shr}{f:Int->Int}(h:QF q M f)(hp:q'.Perm q):QF q' M f:=⟨(hp.map _).trans h.1,λx hx=>h.2 x (hp.mem_iff.1 hx)⟩
theorem tZ{i:Nat}{v m:Int}(hi:i<B.length):ld (B.set i v) m+(if B[i]=m+1 then 1 else 0)=ld B m+(if v=m+1 then 1 else 0):=by
 grind [ld]
theorem QF.upd{q:List Shr}{j:Nat}{d:Int}{f f':Int->Int}(h:QF q M f)(hnd:M.Nodup)(hj:j<q.length)(h1:f' (at0 q j).1=f (at0 q j).1+d)(h2:∀m∈M,m≠(at0 q j).1->f' m=f m):QF (upd2 q j d) M f':=by
 have e1:(upd2 q j d).map (·.1)=q.map (·.1):=by
  unfold upd2;rw[map_set];apply ext_getElem sI
  grind [fL]
 refine⟨by rw[e1];exact h.1,λx hx=>?_⟩;obtain⟨n,hn,rfl⟩:=dH hx;have hn':n<q.length:=by grind [jh]
 by_cases e:n=j
 subst e;have:(upd2 q n d)[n]=((at0 q n).1,(at0 q n).2+d):=by simp[upd2]
 rw[this];simp only;rw[h1,h.2 (at0 q n) (by grind [fL])];have hx':(upd2 q j d)[n]=q[n]:=by simp[upd2,getElem_set_ne (Ne.symm e)]
 rw[hx'];have hnd2:(q.map (·.1)).Nodup:=h.1.nodup_iff.2 hnd;have hne:q[n].1≠(at0 q j).1:=by
  intro e2;rw[fL hj]at e2;have hn2:n<(q.map (·.1)).length:=by simpa using hn'
  have hj2:j<(q.map (·.1)).length:=by simpa using hj
  rcases Nat.lt_or_gt_of_ne e with hlt|hlt;exact cE.1 hnd2 n j hn2 hj2 hlt (by simpa using e2);exact cE.1 hnd2 j n hj2 hn2 hlt (by simpa using e2.symm)
 have hm:q[n].1∈M:=h.1.mem_iff.1 (gR);rw[h.2 _ (aN hn'),h2 _ hm hne]
structure Qb(s:Hq)(t2 pb db ob qb n:Nat)(pl:List Int)(Q:List Shr):Prop where
 a:Hc s t2 340 [.nilptr]
 p:Hc s pb 359 (ints pl)
 d:Hc s db 364 (dA Q)
 o:Hc s ob 362 [.slc db 0 n (some n) 2]
 q:Hc s qb 340 [Pp ob]
variable{t2 pb db ob qb n:Nat}{pl:List Int}{Q:List Shr}
theorem Qb.setP{s':Hq}{pl':List Int}(h:Qb s t2 pb db ob qb n pl Q)(u:Upto pb s s')(hp:Hc s' pb 359 (ints pl')):Qb s' t2 pb db ob qb n pl' Q:=by have ⟨h1,h2,h3,h4,h5⟩:=h;have n1:t2≠pb:=gR;have n2:db≠pb:=gR;have n3:ob≠pb:=gR;have n4:qb≠pb:=gR;exact⟨(u _ n1).trans h1,hp,(u _ n2).trans h3,(u _ n3).trans h4,(u _ n4).trans h5⟩
theorem Qb.setD{s':Hq}{Q':List Shr}(h:Qb s t2 pb db ob qb n pl Q)(u:Upto db s s')(hp:Hc s' db 364 (dA Q')):Qb s' t2 pb db ob qb n pl Q':=by have ⟨h1,h2,h3,h4,h5⟩:=h;have n1:t2≠db:=gR;have n2:pb≠db:=gR;have n3:ob≠db:=gR;have n4:qb≠db:=gR;exact⟨(u _ n1).trans h1,(u _ n2).trans h2,hp,(u _ n3).trans h4,(u _ n4).trans h5⟩
theorem Qb.setB{s':Hq}{b:Nat}{l:List AV}(h:Qb s t2 pb db ob qb n pl Q)(u:Upto b s s')(hb:Hc s b 3 l):Qb s' t2 pb db ob qb n pl Q:=by have ⟨h1,h2,h3,h4,h5⟩:=h;have n1:t2≠b:=gR;have n2:pb≠b:=gR;have n3:db≠b:=gR;have n4:ob≠b:=gR;have n5:qb≠b:=gR;exact⟨(u _ n1).trans h1,(u _ n2).trans h2,(u _ n3).trans h3,(u _ n4).trans h4,(u _ n5).trans h5⟩
theorem Qb.sub{s':Hq}(h:Qb s t2 pb db ob qb n pl Q)(hs:Sub s s'):Qb s' t2 pb db ob qb n pl Q:=⟨hs _ _ h.a,hs _ _ h.p,hs _ _ h.d,hs _ _ h.o,hs _ _ h.q⟩
def Pl(M:List Int)(i:Nat)(pl:List Int):Prop:=pl.length=128/\(∀j (hj:j<M.length),j<i->pl[M[j].toNat]?=some ((j:Int)+1))/\∀k:Nat,k<128->(∀j (hj:j<M.length),j<i->M[j]≠(k:Int))->pl[k]?=some 0
theorem Pl.step{i:Nat}(ha:Asc M)(hi:i<M.length)(h:Pl M i pl):Pl M (i+1) (pl.set M[i].toNat ((i:Int)+1)):=by
 have ⟨h1,h2,h3⟩:=h;have hr:=ha.2 _ (aN hi);refine⟨gR,λj hj hji=>?_,λk hk hno=>?_⟩
 by_cases e:j=i
 grind
 have hlt:=cE.1 ha.1 j i hj hi oM;have hr2:=ha.2 _ (aN hj)
 grind
 have hne:=hno i hi oM;rw[getElem?_set,aj oM]
 grind
def Q1(M:List Int)(i:Nat)(Q:List Shr):Prop:=Q.length=M.length/\(∀j (hj:j<M.length),j<i->at0 Q j=(M[j],0))/\∀j,j<M.length->i<=j->at0 Q j=(0,0)
theorem Q1.step{i:Nat}(hi:i<M.length)(h:Q1 M i Q):Q1 M (i+1) (Q.set i (M[i],(at0 Q i).2)):=by have ⟨h1,h2,h3⟩:=h;have e0:=h3 i hi (Nat.le_refl _);refine⟨by rw[length_set];exact h1,λj hj hji=>?_,λj hj hij=>?_⟩;rw[lq oM,e0];split;rename_i e;subst e;rfl;exact h2 j hj oM;rw[lq oM,aj oM];exact h3 j hj oM
def Q2(M B:List Int)(Q:List Shr):Prop:=Q.length=M.length/\∀j (hj:j<M.length),at0 Q j=(M[j],((ld (clr M B) M[j]:Nat):Int))
theorem Ha{b m:Int}:ld (clr M (B ++ [b])) m=ld (clr M B) m+(if(if b-1∈M then b else 0)=m+1 then 1 else 0):=by
 grind [ld,clr]
theorem Q2.qm(ha:Asc M)(h:Q2 M B Q):QM Q M (clr M B):=by
 have e:Q.map (·.1)=M:=by apply ext_getElem (by simp[h.1]);intro j h1 h2;rw[getElem_map,<- fL (by simpa using h1),h.2 j h2]
 refine⟨by rw[e],λx hx=>?_⟩;obtain⟨j,hj,rfl⟩:=dH hx;rw[<- fL hj,h.2 j (by rw[<- h.1];exact hj)]
theorem Sa{pb k:Nat}(hk:k<128):fj 128 1 (Pp pb) k=some (.ptr pb k):=by
 have:blt k 128=true:=by rw[bZ];exact hk
 simp[fj,this]
theorem Ab(h:WAt s w bb mv cap B M)(ha:Asc M)(hM:M.length<=256)(hr:∀b∈B,0<=b/\b<=128)(hfree:∀b o n c,mv=.slc b o n c 1->M≠[]->¬b=bb)
  (hK:∀s' o sb q,WAt s' w bb mv cap (clr M B) M->QAt s' o sb q->QM q M (clr M B)->Hp q 0->s sb=none->s o=none->aV (λb=>b=bb) s s'->K (.agg [Pp o]) s'):wC TP 208 [Pp w] K s:=by
 have hp:=h.pos;refine Yk (aI λt2 s1 ht h1 u1=>aI λpb s2 hpb h2 u2=>?_);have sub2:=(u1.sub ht).trans (u2.sub hpb);have z2:=h.sub sub2;simp only[bQ,aK,au z2.wb,zAY,g0Y,g1Y,ae,z2.ms.len,lMY,nat?_mk];refine⟨⟨Nat.le_refl _,oM⟩,aI λdb s3 hdb h3 u3=>?_⟩;refine aE (a:=[.slc db 0 M.length (some M.length) 2]) rfl ⟨rfl,aI λob s4 hob h4 u4=>?_⟩;refine aE (a:=[Pp ob]) rfl (aI λqb s5 hqb h5 u5=>cD h5 rfl rfl rfl λs6 h6 u6=>?_);have sub3:=sub2.trans (u3.sub hdb);have sub4:=sub3.trans (u4.sub hob);have fresh:∀{b:Nat}{s':Hq},Sub s s'->s' b=none->s b=none:=fun {b s'} hs hb=>by
  cases e:s b with
  |none=>rfl
  |some x=>rw[hs b x e]at hb;cases hb
 have ft:=ht;have fp:=fresh (u1.sub ht) hpb;have fd:=fresh sub2 hdb;have fo:=fresh sub3 hob;have fq:=fresh sub4 hqb;have sub6:=(sub4.trans (u5.sub hqb)).upto u6 fq;have z6:Qb s6 t2 pb db ob qb M.length (ba 128 0) (ba M.length (0,0)):=by
  have e1:=u4.at (u3.at (u2.at h1 hpb) hdb) hob;have e2:=u4.at (u3.at h2 hdb) hob;have e3:=u4.at h3 hob;have n1:=dZ hqb e1;have n2:=dZ hqb e2;have n3:=dZ hqb e3;have n4:=dZ hqb h4;refine⟨by rw[u6 _ n1];exact u5.at e1 hqb,by rw[u6 _ n2];exact u5.at e2 hqb,?_,by rw[u6 _ n4];exact u5.at h4 hqb,h6⟩;rw[u6 _ n3,u5.at e3 hqb];have:∀k,repl k [AV.int .i64 0,Ii 0]=dA (ba k (0,0)):=by
   intro k
   induction k with
   |zero=>rfl
   |succ k ih=>rw[repl,ih];rfl
  rw[this]
 have z:=h.sub sub6;simp only[au z.wb,g0Y,g1Y,ae,z.ms.len,lMY];refine⟨λys s' m=>∃(i:Nat) (pl:List Int) (Q:List Shr),ys=[Ii i]/\i<=M.length/\m=M.length-i/\Sub s s'/\Qb s' t2 pb db ob qb M.length pl Q/\Pl M i pl/\Q1 M i Q,⟨_,0,_,_,rfl,oM,rfl,sub6,z6,⟨rfl,λj hj h=>oM,λk hk _=>by rw[getElem?_replicate,ak hk]⟩,⟨sI,λj hj h=>oM,λj hj _=>by simp[at0,hj]⟩⟩,?_⟩;rintro f s7 m ⟨i,pl,Q,hy,hi,rfl,sub7,z7,hpl,hq1⟩;simp only[cI,aq]at hy;rw[hy];simp only[Qn,bu,ae,bG,aS];have w7:=h.sub sub7;refine aL (λhlt=>?_) (λhge=>?_);have hlt:i<M.length:=gR;have ⟨pp,g1,g2⟩:=gC w7.ms hlt;have hmi:=ha.2 _ (aN hlt);have e1:fj 128 1 (Pp pb) (M[i])=some (.ptr pb M[i].toNat):=by
  have:=Sa (pb:=pb) (k:=M[i].toNat) oM
  grind
 simp only[g1,g2,ae,bg,e1];rw[aT];refine cw z7.p (by simp[hpl.1];omega) rfl λs8 h8 u8=>?_;rw[Aa]at h8;have z8:=z7.setP u8 h8;have sub8:=sub7.upto u8 fp;simp only[aK,ae,au z8.q,au z8.o,zAY,g0Y,bQ,gJ hlt];refine cw z8.d (by rw[ku,hq1.1];omega) rfl λs9 h9 u9=>?_;have h9:Hc s9 db 364 ((dA Q).set (i*2) (M[i])):=h9;rw[R6 (by rw[hq1.1];exact hlt)]at h9;exact⟨_,oM,i+1,_,_,rfl,oM,rfl,sub8.upto u9 fd,z8.setD u9 h9,hpl.step ha hlt,hq1.step hlt⟩
 ·have hge:i=M.length:=gR
  subst hge;simp only[bQ,aK,ae,au w7.wb,zAY,g0Y,ge];have q2:Q2 M [] Q:=⟨hq1.1,λj hj=>by rw[hq1.2.1 j hj hj];rfl⟩
  refine⟨λys s' m=>∃(i:Nat) (Q:List Shr),ys=[Ii i]/\i<=B.length/\m=B.length-i/\aV (λb=>b=bb) s s'/\Hc s' bb 3 (ints (clr M (B.take i)++B.drop i))/\Qb s' t2 pb db ob qb M.length pl Q/\Q2 M (B.take i) Q,⟨_,0,Q,rfl,oM,rfl,sub7.keep,by rw[w7.bs];rfl,z7,q2⟩,?_⟩;rintro f s8 m ⟨i,Q,hy,hi,rfl,k8,b8,z8,q8⟩;simp only[cI,aq]at hy;rw[hy];have w8:=k8 _ _ h.wb h.ne;simp only[Qm,bu,ae];refine aL (λhlt=>?_) (λhge=>?_)
  ·have hlt:i<B.length:=gR
   have hb:=hr _ (aN hlt);have ec:(clr M (B.take i)).length=i:=by grind [ml]
   have el:=drop_eq_getElem_cons hlt;have et:B.take (i+1)=B.take i ++ [B[i]]:=gR;have hrd:rd1 s8 (.ptr bb i)=some (Ii B[i]):=by rw[au b8,el];simp only[ints,bM];rw[getElem?_append_right gR,lMY,ec,Nat.sub_self];rfl
   have fin:∀(s9:Hq) (Q9:List Shr),aV (λb=>b=bb) s s9->Hc s9 bb 3 (ints (clr M (B.take (i+1))++B.drop (i+1)))->Qb s9 t2 pb db ob qb M.length pl Q9->Q2 M (B.take (i+1)) Q9->
     tz i (λys s' m=>∃(i:Nat) (Q:List Shr),ys=[Ii i]/\i<=B.length/\m=B.length-i/\aV (λb=>b=bb) s s'/\Hc s' bb 3 (ints (clr M (B.take i)++B.drop i))/\Qb s' t2 pb db ob qb M.length pl Q/\Q2 M (B.take i) Q) (B.length-i) K s9:=by
    intro s9 Q9 a1 a2 a3 a4;simp only[tz,bg,ae,aS];rw[aT];exact⟨_,oM,i+1,Q9,rfl,oM,rfl,a1,a2,a3,a4⟩
   have same:(if B[i]-1∈M then B[i]else 0)=B[i]->clr M (B.take (i+1))++B.drop (i+1)=clr M (B.take i)++B.drop i:=by
    intro e;unfold clr
    grind
   simp only[pH hlt,hrd,ae,cj,bJ,Bool.false_bne];cases hz:(B[i] == 0)with
   | true=>
     have hz:=eq_of_beq hz;have e0:(if B[i]-1∈M then B[i]else 0)=B[i]:=by rw[hz];split<;>rfl
     refine fin s8 Q k8 (by rw[same e0];exact b8) z8 ⟨q8.1,λj hj=>?_⟩;rw[q8.2 j hj,et,Ha,e0,hz,aj (by have:=ha.2 _ (aN hj);omega)];rfl
   | false=>
     have hz:B[i]≠0:=λe=>by rw[e]at hz;simp at hz
     have hk:(B[i]-1).toNat<128:=oM;have ew:aA.i64.wrap (B[i]-1)=(((B[i]-1).toNat:Nat):Int):=by grind [aT]
     have e1:=Sa (pb:=pb) hk;simp only[aR,eC,ae,ew,e1]
     by_cases hin:B[i]-1∈M
     have ⟨j,hj,ej⟩:=dH hin;have hpl2:=hpl.2.1 j hj hj;rw[ej]at hpl2;have hrp:rd1 s8 (.ptr pb (B[i]-1).toNat)=some (Ii ((j:Int)+1)):=by rw[au z8.p];simp only[ints,cq,hpl2,Option.map_some]
     have hne:(((j:Int)+1) == 0)=false:=by
      grind
     have ej1:aA.i64.wrap ((j:Int)+1-1)=(j:Int):=by rw[aT];omega
     have hlj:j<Q.length:=by rw[q8.1];exact hj
     have hq2:QAt s8 ob db Q:=⟨⟨_,by rw[q8.1];exact z8.o⟩,z8.d,λx hx=>by
      obtain⟨m,hm,rfl⟩:=dH hx;have hm2:m<M.length:=by rw[<- q8.1];exact hm
      rw[<- fL hm,q8.2 m hm2];have:=ha.2 _ (aN hm2)
      grind,by rw[q8.1];omega⟩
     have hrow:=(hq2.row hlj).2.2;have hcnt:ld (clr M (B.take i)) M[j]<=256:=by refine Nat.le_trans count_le_length ?_;rw[ec];omega
     simp only[hrp,ae,cj,bJ,Bool.false_bne,hne,aR,aK,au z8.q,au z8.o,zAY,g0Y,bQ,eC,ej1,gJ hj,hrow,bg];rw[q8.2 j hj];rw[aT];refine cw z8.d (by rw[ku];omega) rfl λs9 h9 u9=>?_;rw[GL hlj]at h9;have e0:(if B[i]-1∈M then B[i]else 0)=B[i]:=ak hin;have nb:bb≠db:=by rintro rfl;have:=z8.d;grind
     refine fin s9 _ (λx e hx hn=>by rw[u9 x (dZ fd hx)];exact k8 x e hx hn) (by rw[same e0,u9 bb nb];exact b8) (z8.setD u9 h9) ⟨by rw[length_set];exact q8.1,λm hm=>?_⟩;rw[lq hlj,et,Ha,e0];split;rename_i e;subst e;rw[q8.2 m hm,ej,ak oM];rfl;rename_i e;have hne2:¬B[i]=M[m]+1:=λe2=>by have:M[m]=M[j]:=oM;rcases Nat.lt_or_gt_of_ne e with hlt|hlt;have:=cE.1 ha.1 m j hm hj hlt;omega;have:=cE.1 ha.1 j m hj hm hlt;omega
     rw[q8.2 m hm,aj hne2];rfl;have hpl3:=hpl.2.2 (B[i]-1).toNat hk λj hj _ e=>hin (by
      have e2:M[j]=B[i]-1:=by rw[e];omega
      grind)
     have hrp:rd1 s8 (.ptr pb (B[i]-1).toNat)=some (Ii 0):=by rw[au z8.p];simp only[ints,cq,hpl3,Option.map_some]
     simp only[hrp,ae,cj,bJ,Bool.false_bne,aZ,bD,bQ,aK,au w8,zAY,g0Y,pH hlt];refine cw b8 (by simp[ints,ec];omega) rfl λs9 h9 u9=>?_;rw[Aa]at h9;have e0:(if B[i]-1∈M then B[i]else 0)=0:=aj hin;have el2:(clr M (B.take i)++B.drop i).set i 0=clr M (B.take (i+1))++B.drop (i+1):=by rw[set_append_right _ _ (by rw[ec];omega),ec,Nat.sub_self,el,fW,et];unfold clr;rw[bM,map_singleton,e0,append_assoc];rfl
     rw[el2]at h9;refine fin s9 Q (k8.trans (u9.keep (fp:=λb=>b=bb) rfl)) h9 (z8.setB u9 b8) ⟨q8.1,λj hj=>?_⟩;rw[q8.2 j hj,et,Ha,e0,aj (by have:=ha.2 _ (aN hj);omega)];rfl
  ·have hge:i=B.length:=gR
   subst hge;rw[dI,drop_length,append_nil]at b8;rw[dI]at q8;have hq2:QAt s8 ob db Q:=⟨⟨_,by rw[q8.1];exact z8.o⟩,z8.d,λx hx=>by
    obtain⟨m,hm,rfl⟩:=dH hx;have hm2:m<M.length:=by rw[<- q8.1];exact hm
    rw[<- fL hm,q8.2 m hm2];have:=ha.2 _ (aN hm2)
    grind,by rw[q8.1];omega⟩
   refine aE (bX z8.q rfl) (GS hq2 λs9 q9 z9 p9 hh9 k9=>?_);have n4:¬qb=db:=by rintro rfl;have:=z8.q;rw[z8.d]at this;cases this
   have n1:¬t2=db:=by rintro rfl;have:=z8.a;rw[z8.d]at this;cases this
   have n5:¬bb=db:=by rintro rfl;rw[z8.d]at b8;cases b8
   refine aE (bX (k9 _ _ z8.q n4) rfl) (cD (k9 _ _ z8.a n1) rfl rfl rfl λs10 h10 u10=>aE (bX h10 rfl) ?_);have k10:aV (λb=>b=bb) s s10:=λx e hx hn=>by rw[u10 x (dZ ft hx)];exact k9 x e (k8 x e hx hn) (λe2=>gR)
   have nbt:bb≠t2:=by rintro rfl;rw[h.bs]at ft;cases ft
   have b10:Hc s10 bb 3 (ints (clr M B)):=by rw[u10 bb nbt];exact k9 _ _ b8 n5
   have not:ob≠t2:=by grind [Qb.o,Qb.a]
   have ndt:db≠t2:=gR;have ⟨tt,ho9⟩:=z9.ob;refine hK s10 ob db q9 ⟨by rw[ml];exact k10 _ _ h.wb h.ne,b10,h.ms.keep k10 gR,by rw[ml];exact h.cp,by rw[ml];exact h.pos⟩ ⟨⟨tt,by rw[u10 ob not];exact ho9⟩,by rw[u10 db ndt];exact z9.dt,z9.rg,z9.ln⟩ ((q8.qm ha).perm p9) hh9 fd fo k10
variable{o sb:Nat}{q:List Shr}
inductive Stp (M:List Int):List Int->List Int->Prop
 |fill {B:List Int}{i:Nat}{t:Int}(hi:i<B.length) (h0:B[i]=0) (ht:t∈M) (hmin:∀a∈M,ld B t<=ld B a) (hfst:∀k (hk:k<B.length),k<i->B[k]≠0) (htie:∀a∈M,ld B a=ld B t->t<=a):Stp M B (B.set i (t+1))
 |move {B:List Int}{i:Nat}{f t:Int}(hi:i<B.length) (hf:B[i]=f+1) (hfr:f∈M) (ht:t∈M) (hmin:∀a∈M,ld B t<=ld B a) (hmax:∀a∈M,ld B a<=ld B f) (hd:ld B t+1<ld B f) (hnz:∀b∈B,b≠0) (hlst:∀k (hk:k<B.length),i<k->B[k]≠f+1) (htie:∀a∈M,ld B a=ld B t->t<=a) (hftie:∀a∈M,ld B a=ld B f->a<=f):Stp M B (B.set i (t+1))
inductive Rch (M:List Int) (B:List Int):List Int->Prop
 |refl:Rch M B B
 |tail {B1 B2:List Int}(h:Rch M B B1) (h2:Stp M B1 B2):Rch M B B2
theorem Stp.len{B B':List Int}(h:Stp M B B'):B'.length=B.length:=by cases h<;>simp
theorem Rch.len{B B':List Int}(h:Rch M B B'):B'.length=B.length:=by
 induction h with
 |refl=>rfl
 |tail _ h2 ih=>rw[h2.len,ih]
structure St(s:Hq)(w bb:Nat)(mv:AV)(cap:Option Nat)(o sb:Nat)(B M:List Int)(q:List Shr):Prop where
 wa:WAt s w bb mv cap B M
 qa:QAt s o sb q
 qm:QM q M B
 hp:Hp q 0
 fr:∀b o n c,mv=.slc b o n c 1->M≠[]->¬(b=bb∨b=sb)
 asc:Asc M
 rg:∀b∈B,0<=b/\b<=128
theorem St.nbs(h:St s w bb mv cap o sb B M q):bb≠sb:=by rintro rfl;have:=h.wa.bs;rw[h.qa.dt]at this;cases this
theorem St.nws(h:St s w bb mv cap o sb B M q):w≠sb:=by rintro rfl;have:=h.wa.wb;rw[h.qa.dt]at this;cases this
theorem St.nob(h:St s w bb mv cap o sb B M q):o≠bb:=by rintro rfl;have ⟨t,ho⟩:=h.qa.ob;rw[h.wa.bs]at ho;cases ho
theorem St.qlen(h:St s w bb mv cap o sb B M q):q.length=M.length:=by have:=h.qm.1.length_eq;simpa using this
theorem St.mem(h:St s w bb mv cap o sb B M q){i:Nat}(hi:i<q.length):(at0 q i).1∈M/\(at0 q i).2=(ld B (at0 q i).1:Nat)/\0<=(at0 q i).1/\(at0 q i).1<128:=by
 have h1:at0 q i∈q:=by grind [fL]
 have h2:=h.qm.1.mem_iff.1 (aG.2 ⟨_,h1,rfl⟩);exact⟨h2,h.qm.2 _ h1,h.asc.2 _ h2⟩
theorem nR(B:List Int)(m:Int):ld B m<=B.length:=count_le_length
theorem St.find(h:St s w bb mv cap o sb B M q){a:Int}(ha:a∈M):∃j,j<q.length/\(at0 q j).1=a:=by have:=h.qm.1.mem_iff.2 ha;obtain⟨x,hx,rfl⟩:=aG.1 this;obtain⟨j,hj,rfl⟩:=dH hx;exact⟨j,hj,by rw[fL hj]⟩
theorem St.least(h:St s w bb mv cap o sb B M q)(hq:0<q.length):∀a∈M,ld B (at0 q 0).1<=ld B a:=λa ha=>by
 have ⟨j,hj,e⟩:=h.find ha;have k:=h.hp.root j hj;unfold ky key at k;have m0:=h.mem hq
 grind [mem]
theorem St.tie(h:St s w bb mv cap o sb B M q)(hq:0<q.length):∀a∈M,ld B a=ld B (at0 q 0).1->(at0 q 0).1<=a:=λa ha e0=>by
 have ⟨j,hj,e⟩:=h.find ha;have k:=h.hp.root j hj;unfold ky key at k;have m0:=h.mem hq
 grind [mem]
theorem Asc.nodup(h:Asc M):M.Nodup:=h.1.imp λh=>oM
theorem St.setB{s':Hq}{B':List Int}(h:St s w bb mv cap o sb B M q)(u:Upto bb s s')(hb:Hc s' bb 3 (ints B'))(hl:B'.length=B.length):WAt s' w bb mv cap B' M/\QAt s' o sb q:=by have ⟨t,ho⟩:=h.qa.ob;refine⟨⟨by rw[hl,u w h.wa.ne];exact h.wa.wb,hb,h.wa.ms.keep (fp:=λb=>b=bb) (u.keep rfl) λb' o' n' c' e hne=>λe2=>h.fr b' o' n' c' e (by simpa using hne) (.inl e2),by rw[hl];exact h.wa.cp,by rw[hl];exact h.wa.pos⟩,⟨⟨t,by rw[u o h.nob];exact ho⟩,by rw[u sb h.nbs.symm];exact h.qa.dt,h.qa.rg,h.qa.ln⟩⟩
theorem WAt.keepQ{s':Hq}(h:WAt s w bb mv cap B M)(k:aV (λb=>b=sb) s s')(hw:w≠sb)(hb:bb≠sb)(fr:∀b o n c,mv=.slc b o n c 1->M≠[]->¬(b=bb∨b=sb)):WAt s' w bb mv cap B M:=
 ⟨k _ _ h.wb hw,k _ _ h.bs hb,h.ms.keep k gR,h.cp,h.pos⟩
theorem Hd(h:St s w bb mv cap o sb B M q)(hM:M≠[])(hK:∀s' B' q',St s' w bb mv cap o sb B' M q'->Rch M B B'->(∀b∈B',b≠0)->aV (λb=>b=bb∨b=sb) s s'->K (.tup []) s'):wC TP 209 [Pp w,.agg [Pp o]] K s:=by
 refine Yn ⟨rfl,aI λx s1 hx h1 u1=>?_⟩;have sub1:=u1.sub hx;have hpos:=h.wa.pos;simp only[bQ,aK,au (h.wa.sub sub1).wb,zAY,g0Y,ae,ge];have h01:St s1 w bb mv cap o sb B M q:=⟨h.wa.sub sub1,h.qa.sub sub1,h.qm,h.hp,h.fr,h.asc,h.rg⟩
 refine⟨λys s' n=>∃(i:Nat) (B':List Int) (q':List Shr),ys=[Ii i]/\i<=B.length/\n=B.length-i/\St s' w bb mv cap o sb B' M q'/\Rch M B B'/\(∀k (hk:k<B'.length),k<i->B'[k]≠0)/\aV (λb=>b=bb∨b=sb) s s'/\Hc s' x 340 [Pp o],⟨_,0,B,q,rfl,oM,rfl,h01,.refl,λk hk h=>oM,sub1.keep,h1⟩,?_⟩;rintro f s2 n ⟨i,B',q',hy,hi,rfl,z,rc,nz,kp,hx2⟩;simp only[cI,aq]at hy;rw[hy];have hlB:=rc.len;have hxb:x≠bb:=by rintro rfl;rw[z.wa.bs]at hx2;cases hx2
 have hxs:x≠sb:=by rintro rfl;rw[z.qa.dt]at hx2;cases hx2
 simp only[Qo,bu,ae];refine aL (λhlt=>?_) (λhge=>?_);have hlt:i<B.length:=gR;have hlt':i<B'.length:=oM;have fin:∀(s3:Hq) (B3:List Int) (q3:List Shr),St s3 w bb mv cap o sb B3 M q3->Rch M B B3->(∀k (hk:k<B3.length),k<i+1->B3[k]≠0)->aV (λb=>b=bb∨b=sb) s s3->Hc s3 x 340 [Pp o]->
   yB i (λys s' n=>∃(i:Nat) (B':List Int) (q':List Shr),ys=[Ii i]/\i<=B.length/\n=B.length-i/\St s' w bb mv cap o sb B' M q'/\Rch M B B'/\(∀k (hk:k<B'.length),k<i->B'[k]≠0)/\aV (λb=>b=bb∨b=sb) s s'/\Hc s' x 340 [Pp o]) (B.length-i) K s3:=by
  intro s3 B3 q3 a1 a2 a3 a4 a5;simp only[yB,bg,ae,aS];rw[aT];exact⟨_,oM,i+1,B3,q3,rfl,oM,rfl,a1,a2,a3,a4,a5⟩
 simp only[pH hlt,au z.wa.bs,G5 hlt',ae,cj,bJ,Bool.false_bne];rcases hz:(B'[i] == 0)with _|_
 grind [aR]
 have hz:=eq_of_beq hz;have hq:0<q'.length:=by
  rw[z.qlen]
  grind
 have ⟨tt,ho⟩:=z.qa.ob;have mm:=z.mem hq;have row:=(z.qa.row hq).2.1;have qa0:cF 2 (.slc sb 0 q'.length (some q'.length) 2) (Ii 0)=some (.ptr sb 0):=gJ (i:=0) hq;simp only[bD,bQ,aK,au z.wa.wb,au hx2,au ho,g0Y,ae,qa0,Nat.add_zero,row,bg,pH hlt'];rw[aT];refine cw z.wa.bs (by simp[ints];exact hlt') rfl λs3 h3 u3=>?_;rw[Aa]at h3;have ⟨wa3,qa3⟩:=z.setB u3 h3 sI;refine aE (bX ((u3 x hxb).trans hx2) rfl) ?_;have hle:ld B' (at0 q' 0).1<=B'.length:=nR _ _;refine R7 qa3 z.hp hq gR λs4 q4 qa4 p4 hh4 k4=>?_;have l1:∀m,0<=m->(ld (B'.set i ((at0 q' 0).1+1)) m:Nat)=ld B' m+(if(at0 q' 0).1=m then 1 else 0):=by
  intro m hm0;have:=tZ (B:=B') (i:=i) (v:=(at0 q' 0).1+1) (m:=m) hlt'
  grind
 have qm4:QM q4 M (B'.set i ((at0 q' 0).1+1)):=(z.qm.upd z.asc.nodup hq gR λm hm hne=>by rw[l1 _ (z.asc.2 m hm).1,aj (λe=>hne e.symm)];rfl).perm p4
 have st4:St s4 w bb mv cap o sb (B'.set i ((at0 q' 0).1+1)) M q4:=⟨wa3.keepQ k4 z.nws z.nbs z.fr,qa4,qm4,hh4,z.fr,z.asc,λb hb=>by rcases jF hb with h|rfl;exact z.rg b h;omega⟩
 refine fin s4 _ q4 st4 (rc.tail (.fill hlt' hz mm.1 (z.least hq) (λk hk hki=>nz k hk hki) (z.tie hq))) (λk hk hki=>?_) (kp.trans ((u3.keep (fp:=λb=>b=bb∨b=sb) (.inl rfl)).trans (k4.mono λb e=>.inr e))) (k4 _ _ ((u3 x hxb).trans hx2) hxs)
 grind
 have hge:i=B.length:=gR;subst hge;refine hK s2 B' q' z rc (λb hb=>?_) kp;obtain⟨k,hk,rfl⟩:=dH hb;exact nz k hk oM
def pot(M B:List Int):Nat:=(M.map λm=>ld B m*ld B m).sum
theorem Sb{l l':List Nat}(h:l.Perm l'):l.sum=l'.sum:=by
 grind
theorem He{B':List Int}{f t:Int}(hnd:M.Nodup)(hf:f∈M)(ht:t∈M)(hd:ld B t+1<ld B f)(h1:ld B' f+1=ld B f)(h2:ld B' t=ld B t+1)(h3:∀m∈M,m≠f->m≠t->ld B' m=ld B m):pot M B'<pot M B:=by
 have hne:t≠f:=by rintro rfl;omega
 have p1:=perm_cons_erase hf;have ht2:=(mem_erase_of_ne hne).2 ht;have p2:=perm_cons_erase ht2;have p:=p1.trans (p2.cons f);have e1:pot M B'=(List.map (λm=>ld B' m*ld B' m) (f::t::(M.erase f).erase t)).sum:=Sb (p.map _);have e2:pot M B=(List.map (λm=>ld B m*ld B m) (f::t::(M.erase f).erase t)).sum:=Sb (p.map _);have e3:List.map (λm=>ld B' m*ld B' m) ((M.erase f).erase t)=List.map (λm=>ld B m*ld B m) ((M.erase f).erase t):=by
  refine cK λm hm=>?_;have hmM:m∈M:=p.mem_iff.2 (by simp[hm]);have n1:m≠f:=by
   grind
  have n2:m≠t:=by
   grind
  rw[h3 m hmM n1 n2]
 rw[e1,e2];simp only[map_cons,sum_cons,e3,h2];have ⟨a,ha⟩:∃a,ld B f=ld B t+2+a:=⟨ld B f-ld B t-2,oM⟩
 have hb:ld B' f=ld B t+1+a:=oM;rw[ha,hb]
 grind
theorem Hf(h:St s w bb mv cap o sb B M q)(hM:M≠[])(hnz:∀b∈B,b≠0)(hK:∀s' B' q',St s' w bb mv cap o sb B' M q'->Rch M B B'->(∀b∈B',b≠0)->(∀a∈M,∀c∈M,ld B' a<=ld B' c+1)->aV (λb=>b=bb∨b=sb) s s'->K (.tup []) s'):wC TP 210 [Pp w,.agg [Pp o]] K s:=by
 refine Yr ⟨rfl,aI λx s1 hx h1 u1=>?_⟩;have sub1:=u1.sub hx;have hpos:=h.wa.pos;have h01:St s1 w bb mv cap o sb B M q:=⟨h.wa.sub sub1,h.qa.sub sub1,h.qm,h.hp,h.fr,h.asc,h.rg⟩
 refine⟨λys s' n=>∃(B':List Int) (q':List Shr),n=pot M B'/\St s' w bb mv cap o sb B' M q'/\Rch M B B'/\(∀b∈B',b≠0)/\aV (λb=>b=bb∨b=sb) s s'/\Hc s' x 340 [Pp o],⟨_,B,q,rfl,h01,.refl,hnz,sub1.keep,h1⟩,?_⟩;rintro f s2 n ⟨B',q',rfl,z,rc,nz,kp,hx2⟩;have hlB:=rc.len;have hq:0<q'.length:=by
  rw[z.qlen]
  grind
 refine aE (bX hx2 rfl) (GR z.qa hq λs3 m sub3 hm hmax=>?_);have z3:St s3 w bb mv cap o sb B' M q':=⟨z.wa.sub sub3,z.qa.sub sub3,z.qm,z.hp,z.fr,z.asc,z.rg⟩
 have hx3:=sub3 _ _ hx2;have ⟨tt,ho⟩:=z3.qa.ob;have mm:=z3.mem hm;have m0:=z3.mem hq;have row0:rd1 s3 (Pp sb)=some (Ii (at0 q' 0).1)/\rd1 s3 (.ptr sb 1)=some (Ii (at0 q' 0).2):=⟨(z3.qa.row hq).2.1,(z3.qa.row hq).2.2⟩
 have rowm:=(z3.qa.row hm).2;have qa0:cF 2 (.slc sb 0 q'.length (some q'.length) 2) (Ii 0)=some (.ptr sb 0):=gJ (i:=0) hq;have l0:ld B' (at0 q' 0).1<=B'.length:=nR _ _;have lm:ld B' (at0 q' m).1<=B'.length:=nR _ _;have hmaxl:∀a∈M,ld B' a<=ld B' (at0 q' m).1:=(by grind [ky,key,St.find,St.mem])
 have htieM:∀a∈M,ld B' a=ld B' (at0 q' m).1->a<=(at0 q' m).1:=(by grind [ky,key,St.find,St.mem])
 simp only[aK,au hx3,au ho,zAY,g0Y,bQ,ae,qa0,gJ hm,row0.2,rowm.2,eC];rw[mm.2.1,m0.2.1,aT];simp only[iX,ae];refine aL (λhle=>?_) (λhgt=>?_);have hle:=oT hle;refine hK s3 B' q' z3 rc nz (λa ha c hc=>?_) (kp.trans sub3.keep);have:=hmaxl a ha;have:=z3.least hq c hc;omega
 ·have hgt:=oF hgt
  have hin:(at0 q' m).1+1∈B':=by
   grind [ld]
  refine⟨s3,.refl s3,?_⟩;simp only[bQ,aK,au z3.wa.wb,au hx3,au ho,g0Y,ae,gJ hm,Nat.add_zero,rowm.1,qa0,row0.1,bg];rw[aT,gT];refine G9 (eK z3.wa.wb) (eK z3.wa.bs) z3.wa.pos mm.2.2 hin λi hi hBi hlst=>?_;rw[ke];simp only[pH hi,ae];refine cw z3.wa.bs (by simp[ints];exact hi) rfl λs4 h4 u4=>?_;rw[Aa]at h4;have ⟨wa4,qa4⟩:=z3.setB u4 h4 sI;have hxb:x≠bb:=by rintro rfl;rw[z3.wa.bs]at hx3;cases hx3
  have hxs:x≠sb:=by rintro rfl;rw[z3.qa.dt]at hx3;cases hx3
  have hx4:=(u4 x hxb).trans hx3;refine aE (bX hx4 rfl) (GQ qa4 z3.hp hm gR λs5 q5 qa5 p5 hh5 k5=>?_);have hx5:=k5 _ _ hx4 hxs;have hmt:(at0 q' m).1≠(at0 q' 0).1:=λe=>by rw[e]at hgt;omega
  have hq5:0<q5.length:=by rw[p5.length_eq,jh];exact hq
  have root:at0 q5 0=at0 q' 0:=by
   have hin5:at0 q5 0∈upd2 q' m (-1):=(by grind [fL])
   have h0in:at0 q' 0∈upd2 q' m (-1):=by
    have:at0 (upd2 q' m (-1)) 0=at0 q' 0:=by grind [upd2,lq]
    grind [fL]
   have ⟨j,hj,ej⟩:=dH (p5.mem_iff.2 h0in);have k1:=hh5.root j hj;have k1':key (at0 q5 0)<=key (at0 q' 0):=by
    grind [ky,fL]
   have ⟨i2,hi2,ei2⟩:=dH hin5;have hi2':i2<q'.length:=by grind [jh]
   have e5:at0 (upd2 q' m (-1)) i2=at0 q5 0:=by rw[fL hi2,ei2]
   have mi:=z3.mem hi2';have kr:=z3.hp.root i2 hi2';unfold upd2 at e5;rw[lq hm]at e5;unfold ky key at kr;unfold key at k1'
   by_cases e:i2=m
   grind
   grind
  have l1:∀a,ld (B'.set i ((at0 q' 0).1+1)) a+(if(at0 q' m).1=a then 1 else 0)=ld B' a+(if(at0 q' 0).1=a then 1 else 0):=by
   intro a;have:=tZ (B:=B') (i:=i) (v:=(at0 q' 0).1+1) (m:=a) hi
   grind
  have lf:ld (B'.set i ((at0 q' 0).1+1)) (at0 q' m).1+1=ld B' (at0 q' m).1:=by
   grind
  have lt:ld (B'.set i ((at0 q' 0).1+1)) (at0 q' 0).1=ld B' (at0 q' 0).1+1:=by
   grind
  have lo:∀a,a≠(at0 q' m).1->a≠(at0 q' 0).1->ld (B'.set i ((at0 q' 0).1+1)) a=ld B' a:=gR;have qf5:QF q5 M λa=>(ld B' a:Int)-(if(at0 q' m).1=a then 1 else 0):=(z3.qm.upd z3.asc.nodup hm gR gR).perm p5;refine aE (bX hx5 rfl) (R7 qa5 hh5 hq5 gR λs6 q6 qa6 p6 hh6 k6=>?_);have qm6:QM q6 M (B'.set i ((at0 q' 0).1+1)):=(qf5.upd z3.asc.nodup hq5 (by
   grind) gR).perm p6
  have wa6:=(wa4.keepQ k5 z3.nws z3.nbs z3.fr).keepQ k6 z3.nws z3.nbs z3.fr;have stp:Stp M B' (B'.set i ((at0 q' 0).1+1)):=.move hi hBi mm.1 m0.1 (z3.least hq) hmaxl oM nz hlst (z3.tie hq) htieM;refine⟨pot M (B'.set i ((at0 q' 0).1+1)),He z3.asc.nodup mm.1 m0.1 oM lf lt λa _ e1 e2=>lo a e1 e2,_,q6,rfl,⟨wa6,qa6,qm6,hh6,z3.fr,z3.asc,λb hb=>?_⟩,rc.tail stp,λb hb=>?_,(kp.trans sub3.keep).trans ((u4.keep (fp:=λb=>b=bb∨b=sb) (.inl rfl)).trans ((k5.mono λb e=>.inr e).trans (k6.mono λb e=>.inr e))),k6 _ _ hx5 hxs⟩;rcases jF hb with h|rfl;exact z3.rg b h;omega
  grind
variable{l:List Int}
theorem Stp.elt{B B':List Int}(h:Stp M B B'):∀b∈B',b∈B∨b-1∈M:=by
 intro b hb;cases h with
 | @fill i t hi h0 ht hmin _ _=>
   grind
 | @move i f t hi hf hfr ht hmin hmax hd _ _ _ _=>
   grind
theorem Rch.elt{B B':List Int}(h:Rch M B B'):∀b∈B',b∈B∨b-1∈M:=by
 induction h with
 |refl=>exact λb hb=>.inl hb
 | tail _ h2 ih=>
   intro b hb;rcases h2.elt b hb with h|h;exact ih b h;exact .inr h
theorem Rch.trans{B B1 B2:List Int}(h:Rch M B B1)(h2:Rch M B1 B2):Rch M B B2:=by
 induction h2 with
 |refl=>exact h
 |tail _ h3 ih=>exact ih.tail h3
theorem ua:∀b∈clr M B,b=0∨b-1∈M:=by
 intro b hb;obtain⟨x,_,rfl⟩:=aG.1 hb
 grind
structure Aft(l B B':List Int):Prop where
 none:l=[]->B'=clr [] B
 rch:Rch l (clr l B) B'
 elt:l≠[]->∀b∈B',b-1∈l
 bal:∀a∈l,∀c∈l,ld B' a<=ld B' c+1
theorem Aft.len(h:Aft l B M):M.length=B.length:=by rw[h.rch.len,ml]
theorem Aft.rg(h:Aft l B M)(ha:Asc l):∀b∈M,0<=b/\b<=128:=by
 intro b hb
 by_cases e:l=[]
 rw[h.none e]at hb;obtain⟨x,_,rfl⟩:=aG.1 hb
 grind
 have:=ha.2 _ (h.elt e b hb);omega
theorem Hg{K:AV->Hq->Prop}(hb:Hc s bb 3 (ints B))(hp:1<=B.length)(hK:∀s',Hc s' bb 3 (ints (ba B.length 0))->Upto bb s s'->K .undef s'):oN [Ii 0] 1 (.slc bb 0 B.length cap 1) K s:=by
 have ⟨n,hn⟩:∃n,B.length=n+1:=⟨B.length-1,oM⟩
 rw[hn];refine⟨rfl,?_⟩;have e1:wrN s (Pp bb) (repl (n+1) [Ii 0])=some (hset s bb (false,.cells 3 (ints (ba B.length 0)))):=by
  have e2:repl (n+1) [AV.int .i64 0]=ints (ba B.length 0):=by simp_all [ig]
  have e3:dB (ints B) 0 (ints (ba B.length 0))=ints (ba B.length 0):=by
   simp_all [dB]
  have e4:∀k,aX (ints (ba k 0))=true:=by
   intro k;induction k with
   |zero=>rfl
   |succ k ih=>grind [dh,rZ]
  simp only[wrN,hb,e2,e3,e4];have:ble (0+(ints (ba B.length 0)).length) (ints B).length=true:=by rw[ble_eq];simp
  rw[this];rfl
 refine aE e1 (hK _ ?_ ?_);simp[hset];intro i hi;simp[hset,hi]
theorem Hi{v:AV}(h:WAt s w bb mv cap B M)(hl:Sli s v l)(ha:Asc l)(hlen:l.length<=B.length)(hr:∀b∈B,0<=b/\b<=128)
  (hK:∀s' mv' B',WAt s' w bb mv' cap B' l->Aft l B B'->aV (λb=>b=w∨b=bb) s s'->(l≠[]->∃c n k,s c=none/\mv'=.slc c 0 n k 1)->K (Ii 0) s'):wC TP 156 [Pp w,v] K s:=by
 have hp:=h.pos;refine Yf (fk h ?_);simp only[cQ,Bool.not_true,ae,aR];refine G8 h hl ha hlen ?_;simp only[cj,bJ,aZ,Bool.true_bne,Bool.not_true,ae,aR];refine G7 hl oM λv6 s7 sub7 sl7 g7=>?_;have w7:=h.sub sub7;simp only[bQ,aK,zAY,ae];refine cw w7.wb sI sl7.one λs10 h10 u10=>?_;have h10:Hc s10 w 289 [.slc bb 0 B.length cap 1,v6]:=h10;have mfree:∀b o n c,v6=.slc b o n c 1->l≠[]->s b=none:=by
  grind
 have w10:WAt s10 w bb v6 cap B l:=⟨h10,by rw[u10 bb h.ne.symm];exact w7.bs,sl7.keep (fp:=λb=>b=w) (u10.keep rfl) (by grind [WAt.wb]),h.cp,h.pos⟩
 have k10:aV (λb=>b=w∨b=bb) s s10:=(sub7.keep).trans (u10.keep (.inl rfl));simp only[hl.len,lMY,ae,Bool.false_bne];cases hz:(((l.length:Nat):Int) == 0)with
 | true=>
   have hz:=eq_of_beq hz;have hl0:l=[]:=(by simp_all)
   subst hl0;simp only[bD,au h10,g0Y,ae];refine Hg w10.bs hp.1 λs11 h11 u11=>?_;have e0:clr [] B=ba B.length 0:=by unfold clr;simp only[not_mem_nil,if_false];rw[map_const']
   refine hK s11 v6 (clr [] B) ⟨by rw[ml,u11 w h.ne];exact h10,by rw[h11,e0],w10.ms.keep (fp:=λb=>b=bb) (u11.keep rfl) λb o n c e hne=>absurd rfl hne,by rw[ml];exact h.cp,by rw[ml];exact h.pos⟩ ⟨λ_=>rfl,.refl,λe=>absurd rfl e,λa ha=>by simp at ha⟩ (k10.trans (u11.keep (.inr rfl))) λe=>absurd rfl e
 | false=>
   have hz:¬((l.length:Nat):Int)=0:=(by simp_all)
   have hne:l≠[]:=(by simp_all)
   simp only[aR];refine Ab w10 ha oM hr (λb o n c e hM=>λe2=>by have:=mfree b o n c e hM;rw[e2,h.bs]at this;cases this) λs20 o sb q w20 q20 qm20 hp20 fsb fo k20=>?_
   refine aI λx s22 hx h22 u22=>cD h22 rfl rfl rfl λs23 h23 u23=>aE (bX h23 rfl) ?_;have h23:Hc s23 x 340 [Pp o]:=h23;have sub23:Sub s20 s23:=(Sub.refl s20).trans ((u22.sub hx).upto u23 hx);have st:St s23 w bb v6 cap o sb (clr l B) l q:=⟨w20.sub sub23,q20.sub sub23,qm20,hp20,λb o' n c e hM=>λe2=>by
    have e0:=mfree b o' n c e hM;rcases e2 with e2|e2
    ·rw[e2,h.bs]at e0;cases e0
    have ⟨c',hc,e3,hc2⟩:=g7 hM;have e4:b=c':=gR;rw[e4]at e2;have:s10 c'≠none:=by rw[u10 c' (λe=>gR),hc2];simp
    grind,ha,λb hb=>by rcases ua b hb with h|h;omega;have:=ha.2 _ h;omega⟩
   have nx:¬(x=bb∨x=sb):=by rintro (e|e);have:=w20.bs;grind;have:=q20.dt;grind
   refine Hd st hne λs26 B26 q26 st26 rc26 nz26 k26=>?_;refine aE (bX (k26 _ _ h23 nx) rfl) ?_;refine Hf st26 hne nz26 λs29 B29 q29 st29 rc29 nz29 bal29 k29=>?_;have rc:=rc26.trans rc29;refine hK s29 v6 B29 st29.wa ⟨λe=>absurd e hne,rc,λ_ b hb=>?_,bal29⟩ ?_ λ_=>gR
   grind [ua,Rch.elt]
   intro i e hi hn;have n1:¬i=bb:=λe=>hn (.inr e);have i10:=k10 i e hi hn;have i20:=k20 i e i10 n1;have i23:=sub23 i e i20;have n2:¬(i=bb∨i=sb):=by
    grind
   exact k29 i e (k26 i e i23 n2) n2
end Go.AM.WH
namespace Go.AM.FB
open Go Go.Proofs List Nat
set_option maxRecDepth 100000
variable{K:AV→Hq→Prop}{s s' t:Hq}{lv v w:AV}{N:Nat}{d:Nat→Int}{L:List RLk}
theorem u32w{x:Int}(h1:0<=x)(h2:x<4294967296):aA.u32.wrap x=x:=by unfold aA.wrap;simp[aA.bits,aA.signed];omega
theorem uc{n:Nat}(hn:n<32)(hK:K (.tup [n,true]) s):wC TP 154 [Iw (lbk n)] K s:=by
 refine Qz ?_;have c1:decide (lbk n<=184483840)=false:=(by grind [lbk])
 have c2:decide ((184483872:Int)<lbk n)=false:=(by grind [lbk])
 have a1:cZ .sub (Iw (lbk n)) (Iw 184483840)=some (Iw ((n:Int)+1)):=by
  grind [eC,lbk,u32w]
 have a2:cZ .sub (Iw ((n:Int)+1)) (Iw 1)=some (Iw n):=by
  grind [eC,u32w]
 have a3:dX .i64 (Iw n)=some (Ii n):=by show some (AV.int .i64 (dw .i64 (n:Int)))=_;rw[show dw .i64 (n:Int)=n by rw[kj];simp[aA.bits,aA.signed]<;>omega]
 simp only[EL,iX,dy,c1,c2,aR,ae,tA,ct,a1,a2,a3];exact hK
theorem Hj{x:Int}(h0:0<=x/\x<4294967296)(hx:∀n:Nat,n<32->x≠lbk n)(hK:K (.tup [Ii 0,false]) s):wC TP 154 [Iw x] K s:=by
 refine Qz ?_;simp only[EL,iX,dy,ae];refine aL (λc1=>?_) (λc1=>?_)
 grind [tA,cy,bD,cP]
 have c2:decide ((184483872:Int)<x)=true:=by
  rw[decide_eq_true_eq];have c1:=oF c1
  by_cases q:184483872<x
  exact q;exfalso;exact hx (x-184483841).toNat oM (by unfold lbk;omega)
 grind [tA,ct,bD,cP]
def fibC(n x:Int)(lv ev:AV)(mb:Nat):List AV:=[n,x,Iw (184483841+x),lv,ev,.map mb]
theorem fk{f:Nat}{tg:Bool}{n x:Int}{lv ev:AV}{mb:Nat}(h:s f=some (tg,.cells 245 (fibC n x lv ev mb)))(hn:0<n)(hK:K true s):wC TP 121 [Pp f] K s:=by refine YK ?_;have e:(fibC n x lv ev mb)[0]?=some (Ii n):=rfl;have hp:=aH hn;simp only[Qy,nc,bJ,Bool.bne_false,ae,bD,bQ,aK,au h,zAY,e,dy,hp,EK,cy];exact hK
theorem ud{rows:List (List AV)}(h:SlR 3 s v rows)(hl:rows.length<=1000000)(hK:∀w s',Sub s s'->SlR 3 s' w rows->(∀b o n c,w=.slc b o n c 3->rows≠[]->s b=none)->K w s'):wC TP 62 [v] K s:=by
 refine PP ?_;have cases0:(v=.nilslc/\rows=[])∨∃b o c,v=.slc b o rows.length c 3:=by rcases h.2 with⟨a,b⟩|⟨b,o,c,a,_⟩;exact .inl ⟨a,b⟩;exact .inr ⟨b,o,c,a⟩
 rcases cases0 with⟨rfl,rfl⟩|⟨b,o,c,rfl⟩
 grind [te,ng,bJ,cP,bD,Sub.refl]
 simp only[te,kY,bJ,Bool.false_bne,ae,aR];refine aE (a:=[]) rfl ⟨rfl,aI λd s1 hd h1 u1=>?_⟩;have sub1:=u1.sub hd;exact Oc (h.sub sub1) oM λv' s' sub2 h2 h3=>hK v' s' (sub1.trans sub2) h2 λb o n c e q=>eM sub1 (h3 b o n c e q)
theorem New_in{n x:Int}(hl:SlR 3 s lv (L.map rwR))(hlm:L.length<=9223372036854775807)
  (hbad:¬(vld n L (ba L.length false)/\0<=x/\x<n)->∀s' e,Sub s s'->e≠0->K (.tup [.nilptr,Ii e]) s')
  (hK:vld n L (ba L.length false)->0<=x->x<n->∀f mb lv' s',Sub s s'->s f=none->s mb=none->f≠mb->Hc s' f 245 (fibC n x lv' .nilslc mb)->s' mb=some (false,.map [] 0)->SlR 3 s' lv' (L.map rwR)->(∀b o n c,lv'=.slc b o n c 3->L.map rwR≠[]->b≠f/\b≠mb)->K (.tup [Pp f,Ii 0]) s') :
  wC TP 66 [n,lv,x] K s:=by
 refine Qx ?_;have bad0:∀{s'},¬(vld n L (ba L.length false)/\0<=x/\x<n)->Sub s s'->∀{e:Int},e≠0->K (.tup [.nilptr,e]) s':=gR;simp only[EJ,hl.len,lMY,dy,ae];refine aL (λc=>?_) (λc=>?_);have c':=oT c;rw[c];simp only[mf,cy,bD,ae];exact bad0 (λh=>by have:=h.1.2.2.1;omega) (.refl s) oM;have c':=oF c;rw[c];refine⟨⟨Nat.le_refl _,oM⟩,aI λub s1 hub h1 u1=>?_⟩;have sub1:=u1.sub hub;have hu1:Sl s1 (.slc ub 0 L.length (some L.length) 1) ((ba L.length false).map AV.bool):=by rw[ig]at h1;refine Sl.mk (l:=(ba L.length false).map AV.bool) (t:=false) (e:=4) ?_ sI sI;rw[h1,map_replicate]
 refine pD (hl.sub sub1) hlm hu1 λdv s2 sub2 hno hyes=>?_;have s02:=sub1.trans sub2
 by_cases q:vld n L (ba L.length false)/\(0:Int)<=0/\0<n
 rotate_left
 grind [ng,bJ,cP,mf,ct,bD]
 have ⟨hv,_,hn0⟩:=q;obtain⟨N,rfl⟩:∃N:Nat,n=N:=⟨n.toNat,oM⟩
 obtain⟨d,db,_,_,rfl,_,_⟩:=hyes N 0 hv rfl oM rfl;simp only[kY,bJ,Bool.false_bne,ae,mf,ct,aR,bu]
 by_cases c1:x<0
 rw[aH c1];simp only[pj,cy,bD,ae]
 grind
 rw[aC c1];simp only[aR,dQ,ae,pj,ct]
 by_cases c2:(N:Int)<=x
 rw[aH c2];simp only[bD]
 grind
 rw[aC c2];obtain⟨r,rfl⟩:∃r:Nat,x=r:=⟨x.toNat,oM⟩
 have hN:=hv.2.1;refine pE oM ?_;have x0:bV (.tup [Iw (lbk r),Ii 0]) 0=some (Iw (lbk r)):=rfl;have x1:bV (.tup [Iw (lbk r),Ii 0]) 1=some (Ii 0):=rfl;refine ud (hl.sub s02) (by rw[lMY];omega) λlv' s3 sub3 hl3 fr3=>?_;have s03:=s02.trans sub3;intro mb hmb;have sub4:Sub s3 (hset s3 mb (false,.map [] 0)):=j9 hmb;have hm4:hset s3 mb (false,.map [] 0) mb=some (false,.map [] 0):=by simp[hset]
 have hone:=hl3.one;refine aE (a:=fibC N r lv' .nilslc mb) ?_ ?_;show cond (beq lv'.cells.length 1&&ble (3+lv'.cells.length) 6) (aM (dB [N,r,Iw (lbk r),.nilslc,.nilslc,.nilmap] 3 lv'.cells) [(5,1,.map mb)]) none=_;rw[fZ hone];rfl;refine⟨?_,aI λf s5 hf h5 u5=>?_⟩;show((AV.int .i64 (N:Int)).one&&((AV.int .i64 (r:Int)).one&&((AV.int .u32 _).one&&(lv'.one&&(AV.nilslc.one&&((AV.map mb).one&&true))))))=true;rw[hone];rfl;have sub5:=u5.sub hf;have hfm:f≠mb:=λe=>gR;refine hK hv oM oM f mb lv' s5 (s03.trans (sub4.trans sub5)) (eM (s03.trans sub4) hf) (eM s03 hmb) hfm h5 (sub5 _ _ hm4) (hl3.sub (sub4.trans sub5)) λb o n c e hne=>?_;have:=hl3.was b o n c e hne;exact⟨λq=>this (eM sub4 (by rw[q];exact hf)),λq=>this (by rw[q];exact hmb)⟩
variable{y:AV}
def mE:Nat->List (Nat×Nat)->List AEnt
 |_,[]=>[]
 |i,p::l=>⟨p.1,Pp p.2,i⟩::mE (i+1) l
theorem ue:∀{i:Nat}{l:List (Nat×Nat)},(mE i l).length=l.length
 |_,[]=>rfl
 |i,p::l=>by show(mE (i+1) l).length+1=_;rw[ue];rfl
theorem uf{p:Nat×Nat}:∀{i:Nat}{l:List (Nat×Nat)},mE i (l ++ [p])=mE i l ++ [⟨p.1,Pp p.2,i+l.length⟩]
 |_,[]=>rfl
 | i,q::l=>by
   show _::mE (i+1) (l ++ [p])=_::mE (i+1) l++_;rw[uf,cons_append];have:i+1+l.length=i+(q::l).length:=by rw[length_cons];omega
   rw[this]
theorem ug:∀{i:Nat}{l:List (Nat×Nat)}{c:Nat},i+l.length<=c->jV c (mE i l)=true
 |_,[],_,_=>rfl
 | i,p::l,c,h=>by
   rw[length_cons]at h;show(blt i c&&jV c (mE (i+1) l))=true;rw[ug oM,Bool.and_true,bZ];omega
theorem nS:∀{i:Nat}{l:List (Nat×Nat)}{e:AEnt},e∈mE i l->∃p∈l,e.key=p.1/\e.val=Pp p.2/\i<=e.born
 |_,[],e,h=>by cases h
 | i,p::l,e,h=>by
   rcases mCY h with rfl|h;exact⟨p,sI,rfl,rfl,Nat.le_refl _⟩;have ⟨q,hq,a,b,c⟩:=nS h;exact⟨q,mO _ hq,a,b,oM⟩
theorem Ac:∀{i:Nat}{l:List (Nat×Nat)}{e:AEnt},e∈mE i l->oE e.born (mE i l)=some e
 |_,[],e,h=>by cases h
 | i,p::l,e,h=>by
   show cond (beq i e.born) _ (oE e.born (mE (i+1) l))=_;rcases mCY h with rfl|h;rw[beq_refl];rfl;have ⟨_,_,_,_,c⟩:=nS h;have:beq i e.born=false:=by rcases q:beq i e.born with _|_;rfl;have:=bE q;omega
   rw[this];exact Ac h
def wOf(l:List (Nat×Nat))(n:Nat):Option Nat:=(l.find? λp=>p.1 == n).map (·.2)
theorem keq{a b:Nat}:jU (.int .i64) a b=some (b == a):=by
 show some (eqI (a:Int) b)=_;rw[iL]
 congr 1
 grind
theorem Hk{n:Nat}:∀{i j:Nat}{l:List (Nat×Nat)},∃r,jd n (mE i l) j=some r/\r.map (·.2)=(wOf l n).map λw=>AV.ptr w 0
 |_,_,[]=>⟨none,rfl,rfl⟩
 | i,j,p::l=>by
   have e:jd n (mE i (p::l)) j=match (some (p.1 == n):Option Bool)with
     |some true=>some (some (j,AV.ptr p.2 0))
     |some false=>jd n (mE (i+1) l) (j+1)
     |none=>none:=by
    rw[<- keq];rfl
   cases q:(p.1 == n)with
   | true=>
     rw[q]at e;refine⟨some (j,Pp p.2),e,?_⟩;unfold wOf;rw[find?_cons_of_pos (by exact q)];rfl
   | false=>
     rw[q]at e;have ⟨r,h1,h2⟩:=Hk (n:=n) (i:=i+1) (j:=j+1) (l:=l);refine⟨r,e.trans h1,?_⟩;rw[h2];unfold wOf;rw[find?_cons_of_neg (by rw[q];simp)]
theorem Sc{l:List (Nat×Nat)}{n:Nat}(h:n ∉ l.map (·.1)):wOf l n=none:=by
 grind [wOf]
theorem Sd{l:List (Nat×Nat)}{n:Nat}(h:n∈l.map (·.1)):∃w,wOf l n=some w/\(n,w)∈l:=by
 obtain⟨p,hp,rfl⟩:=aG.1 h;unfold wOf;cases q:l.find? λx=>x.1 == p.1 with
 | none=>
   grind
 | some y=>
   grind
theorem mget{mb:Nat}{tg:Bool}{c:Nat}{l:List (Nat×Nat)}{n:Nat}(h:s mb=some (tg,.map (mE 0 l) c)):getM s (.map mb) n=some ((wOf l n).map λw=>AV.ptr w 0):=by
 have ⟨r,h1,h2⟩:=Hk (n:=n) (i:=0) (j:=0) (l:=l)
 grind [getM]
theorem mput{mb w:Nat}{l:List (Nat×Nat)}{n:Nat}{R:Hq->Prop}(h:s mb=some (false,.map (mE 0 l) l.length))(hn:n ∉ l.map (·.1))
  (hK:∀s',s' mb=some (false,.map (mE 0 (l ++ [(n,w)])) (l ++ [(n,w)]).length)->Upto mb s s'->R s'):oK (putM s (.map mb) n (Pp w)) R:=by
 have ⟨r,h1,h2⟩:=Hk (n:=n) (i:=0) (j:=0) (l:=l);rw[Sc hn]at h2;have hr:r=none:=by simp_all
 subst hr;refine aE (a:=hset s mb (false,.map (mE 0 (l ++ [(n,w)])) (l ++ [(n,w)]).length)) ?_ (hK _ (by simp[hset]) λi hi=>by simp[hset,hi])
 grind [putM,putE,uf]
def Wh(s:Hq)(w:Nat)(l:List Nat):Prop:=∃bb mv cap B,WH.WAt s w bb mv cap B (l.map λ(n:Nat)=>(n:Int))/\WH.Aft (l.map λ(n:Nat)=>(n:Int)) (ba 64 0) B
theorem Wh.sub{w:Nat}{l:List Nat}(h:Wh s w l)(k:Sub s s'):Wh s' w l:=by have ⟨bb,mv,cap,B,h1,h2⟩:=h;exact⟨bb,mv,cap,B,h1.sub k,h2⟩
theorem uh{a b:Int}:im min2A a [b]=some (Ii (if b<a then b else a)):=by
 by_cases h:b<a
 have:ltI b a=true:=by grind [ib]
 simp_all [im,min2A]
 have:ltI b a=false:=by grind [ib]
 simp only[im,min2A,this,aj h];rfl
theorem ui{l:List Nat}:iz l=(l.map λ(n:Nat)=>(n:Int)).map (AV.int .i64):=by
 simp_all [iz]
theorem _root_.Go.AM.Sl.whole{l:List AV}(h:Sl s v l):∃v',fI 1 v none (some l.length) none=some v'/\Sl s v' l:=by
 rcases h with⟨rfl,rfl⟩|⟨b,o,cap,rfl,h2,h3⟩;exact⟨.nilslc,rfl,.inl ⟨rfl,rfl⟩⟩
 ·cases cap with
  | none=>
    refine⟨.slc b o l.length none 1,?_,.inr ⟨b,o,none,rfl,sI,h3⟩⟩;simp[fI,bound,bL (Nat.le_refl l.length)]
  | some c=>
    refine⟨.slc b o l.length (some c) 1,?_,.inr ⟨b,o,some c,rfl,h2,h3⟩⟩;simp[fI,bound,bL (h2 c rfl)]
variable{G:List Lnk}{U:List Bool}
noncomputable def lnk(N:Nat)(G:List Lnk)(U:List Bool)(x n:Nat):List Nat:=nrL G U (dF N G U n) x
noncomputable def ndL(N:Nat)(G:List Lnk)(U:List Bool)(x:Nat):List Nat:=(List.range N).filter λn=>!(lnk N G U x n).isEmpty
theorem uj{x:Nat}:∀k,ofP N G U x k=((List.range k).filter λn=>!(lnk N G U x n).isEmpty).map λn=>(lbk n,lnk N G U x n)
 | 0=>rfl
 | k+1=>by
   rw[GG,uj k,range_succ,filter_append,bM]
   congr 1
   unfold ofE
   by_cases q:nrL G U (dF N G U k) x=[]
   rw[ak q];have:(lnk N G U x k).isEmpty=true:=by unfold lnk;rw[q];rfl
   simp[this];rw[aj q];have:(lnk N G U x k).isEmpty=false:=by
    unfold lnk
    grind
   simp[this];rfl
theorem Ae{x:Nat}:ofP N G U x N=(ndL N G U x).map λn=>(lbk n,lnk N G U x n):=uj N
theorem jH{x n:Nat}:n∈ndL N G U x↔n<N/\lnk N G U x n≠[]:=by
 unfold ndL
 grind
theorem uk{x:Nat}:(ndL N G U x).Pairwise (· < ·):=List.Pairwise.filter _ jG
theorem ul{x:Nat}:(ndL N G U x).length<=N:=by have:=eD (λn=>!(lnk N G U x n).isEmpty) (List.range N);rw[length_range]at this;exact this
theorem Hl{n:Nat}:(edL G U n).Pairwise λa b=>a.1<b.1:=by
 unfold edL;rw[pairwise_filterMap];refine List.Pairwise.imp ?_ jG
 grind [oth]
theorem Ho{n:Nat}:(nrL G U d n).Pairwise (· < ·):=by unfold nrL;rw[pairwise_map];exact(List.Pairwise.filter _ Hl)
theorem Hr{n i:Nat}(h:i∈nrL G U d n):i<G.length:=by
 unfold nrL at h;obtain⟨e,he,rfl⟩:=aG.1 h;have he:=(mem_filter.1 he).1;unfold edL at he;have ⟨j,hj,hq⟩:=mem_filterMap.1 he;rw[mem_range]at hj;split at hq
 ·split at hq
  obtain⟨m,_,rfl⟩:=Option.map_eq_some_iff.1 hq;exact hj
  ·cases hq
 ·cases hq
theorem Ht{n:Nat}:(nrL G U d n).length<=G.length:=by unfold nrL;rw[lMY];exact Nat.le_trans (eD _ _) zT
theorem Hu{x n:Nat}:(lnk N G U x n).Pairwise (· < ·):=Ho
theorem um{x n i:Nat}(h:i∈lnk N G U x n):i<G.length:=Hr h
theorem uo{x n:Nat}:(lnk N G U x n).length<=G.length:=Ht
def WhR(s:Hq)(w:Nat)(l:List Nat):Prop:=∃t1 t2 bb mv cap B,s w=some (t1,.cells 289 [.slc bb 0 B.length cap 1,mv])/\s bb=some (t2,.cells 3 (WH.ints B))/\(∀c,cap=some c->B.length<=c)/\B.length=64/\WH.Sli s mv (l.map λ(n:Nat)=>(n:Int))/\WH.Aft (l.map λ(n:Nat)=>(n:Int)) (ba 64 0) B
theorem Wh.rd{w:Nat}{l:List Nat}(h:Wh s w l):WhR s w l:=by have ⟨bb,mv,cap,B,h1,h2⟩:=h;exact⟨false,false,bb,mv,cap,B,h1.wb,h1.bs,h1.cp,by rw[h2.len,length_replicate],h1.ms,h2⟩
theorem WhR.sub{w:Nat}{l:List Nat}(h:WhR s w l)(k:Sub s s'):WhR s' w l:=by have ⟨t1,t2,bb,mv,cap,B,h1,h2,h3,h4,h5,h6⟩:=h;exact⟨t1,t2,bb,mv,cap,B,k _ _ h1,k _ _ h2,h3,h4,h5.sub k,h6⟩
theorem WhR.frz{w:Nat}{l:List Nat}(h:WhR s w l):WhR (AM.frz s) w l:=by have ⟨t1,t2,bb,mv,cap,B,h1,h2,h3,h4,h5,h6⟩:=h;exact⟨true,true,bb,mv,cap,B,eK h1,eK h2,h3,h4,Sl.frz h5,h6⟩
structure FibR(s:Hq)(f N:Nat)(G:List Lnk)(U:List Bool)(x:Nat):Prop where
 ex:∃(tf:Bool) (lv ev:AV) (mb:Nat) (R:List EnV) (tm:Bool) (c:Nat) (ws:List (Nat×Nat)),s f=some (tf,.cells 245 (fibC (N:Int) (x:Int) lv ev mb))/\SlR 2 s ev (R.map enR)/\R.map kyE=ofP N G U x N/\(∀y∈R,Sl s y.2.1 (iz y.2.2))/\
  s mb=some (tm,.map (mE 0 ws) c)/\ws.map (·.1)=ndL N G U x/\∀p∈ws,WhR s p.2 (lnk N G U x p.1)
theorem FibR.sub{f x:Nat}(h:FibR s f N G U x)(k:Sub s s'):FibR s' f N G U x:=by have ⟨tf,lv,ev,mb,R,tm,c,ws,h1,h2,h3,h4,h5,h6,h7⟩:=h.ex;exact⟨tf,lv,ev,mb,R,tm,c,ws,k _ _ h1,h2.sub k,h3,λy hy=>(h4 y hy).sub k,k _ _ h5,h6,λp hp=>(h7 p hp).sub k⟩
theorem FibR.frz{f x:Nat}(h:FibR s f N G U x):FibR (AM.frz s) f N G U x:=by have ⟨tf,lv,ev,mb,R,tm,c,ws,h1,h2,h3,h4,h5,h6,h7⟩:=h.ex;exact⟨true,lv,ev,mb,R,true,c,ws,eK h1,h2.frz,h3,λy hy=>Sl.frz (h4 y hy),eK h5,h6,λp hp=>(h7 p hp).frz⟩
variable{s0:Hq}
def rchL(l:List Nat):List AV:=(List.range 32).map λj=>(decide (j∈l))
theorem Se{l:List Nat}:(rchL l).length=32:=by unfold rchL;simp
theorem Sf{l:List Nat}{n:Nat}(h:n<32):(rchL l)[n]?=some (.bool (decide (n∈l))):=by unfold rchL;simp[h]
theorem Hv{l:List Nat}{n:Nat}(h:n<32):(rchL l).set n true=rchL (l ++ [n]):=by
 apply ext_getElem?
 grind [Se,Sf]
theorem _root_.Go.AM.AccR.offvB{elem:TypeId}{es:Nat}{rows:List (List AV)}(h:AccR elem es s0 t v rows):AccR elem es (offV v t) t v rows:=by refine⟨h.1,h.2.imp id λ⟨i,q1,q2,q3⟩=>⟨i,?_,q2,q3⟩⟩;rw[q2];exact ak rfl
theorem Sh{rb n:Nat}(h:n<32):fj 32 1 (Pp rb) n=some (.ptr rb n):=by
 have:blt n 32=true:=by rw[bZ];exact h
 show(match nat? n with|some i=>cond (blt i 32) (some (AV.ptr rb (0+i*1))) none|none=>none)=_
 grind [nat?_mk]
theorem Hw{w:Nat}(h:w<=1000000):dX .u64 w=some (Iq w)/\fN .shr (Iq w) (Iq 1)=some (Iq ((w / 2:Nat)))/\dX .i64 (Iq ((w / 2:Nat)))=some (Ii ((w / 2:Nat))):=by refine⟨?_,?_,?_⟩;show some (AV.int .u64 (dw .u64 (w:Int)))=_;rw[show dw .u64 (w:Int)=w by rw[kj];simp[aA.bits,aA.signed]<;>omega];show frc ((w:Int).fdiv ((2^(min 1 (aA.bits .u64)):Nat):Int)) (λn=>some (AV.int .u64 n))=_;rw[eQ,Nat.min_eq_left (show 1<=aA.bits .u64 by decide),Int.fdiv_eq_ediv_of_nonneg _ (Int.natCast_nonneg _),<- Int.natCast_ediv];show some (AV.int .i64 (dw .i64 ((w / 2:Nat):Int)))=_;rw[show dw .i64 ((w / 2:Nat):Int)=((w / 2:Nat):Int)by rw[kj];simp[aA.bits,aA.signed]<;>omega]
theorem Hx{a b:Int}(hK:K (if a<b then -1 else if b<a then 1 else 0:Int) s):wC TP 279 [Iw a,Iw b] K s:=by
 refine Y4 (QH ?_);simp only[EN,cj,bJ,aZ,Bool.true_bne,Bool.not_true,ae];refine QH ?_;simp only[EN,cj,bJ,aZ,Bool.true_bne,Bool.not_true,ae,aR,bu,dy]
 grind [bD,aR]
theorem uq{a b:Int}{wv:AV}(hw:wv.one=true)(hK:∀s',Sub s s'->K (if a<b then -1 else if b<a then 1 else 0:Int) s'):funK TP (.fn (.func 275) [] []) [.agg [Iw a,wv],Iw b] K s:=by
 refine gQ (k:=275) (first:=[]) (cap:=[]) kR ?_;show wC TP 275 [.agg [Iw a,wv],Iw b] K s;refine YR ⟨?_,aI λb s1 hb h1 u1=>?_⟩
 simp_all
 have e0:[AV.int .u32 a,wv][0]?=some (Iw a):=rfl;have h1:Hc s1 b 253 [Iw a,wv]:=h1
 grind [aK,au,cP,Hx,Upto.sub]
def Ord(R:List EnV):Prop:=(R.map (·.1)).Pairwise (· < ·)
theorem Ord.lt{R:List EnV}(h:Ord R){i j:Nat}{a b:EnV}(hi:R[i]?=some a)(hj:R[j]?=some b)(hij:i<j):a.1<b.1:=by
 unfold Ord at h;have ⟨x1,x2⟩:=gS hi;have ⟨y1,y2⟩:=gS hj;have:=cE.1 h i j (by simpa using x1) (by simpa using y1) hij
 grind
theorem Hy{R:List EnV}{q:Int}{ev:AV}(he:SlR 2 s ev (R.map enR))(ho:Ord R)(hl:R.length<=1000)(hw:∀y∈R,y.2.1.one=true)
  (hK:∀s' (i:Nat) (b:Bool),Sub s s'->(b=true->∃y,R[i]?=some y/\y.1=q)->(b=false->∀y∈R,y.1≠q)->K (.tup [i,b]) s'):wC TP 274 [ev,Iw q,.fn (.func 275) [] []] K s:=by
 refine YP ?_;simp only[QB,he.len,lMY,ae,bG];refine⟨λys t m=>∃i j:Nat,ys=[Ii i,Ii j]/\i<=j/\j<=R.length/\m=j-i/\Sub s t/\(∀k a,R[k]?=some a->k<i->a.1<q)/\∀k a,R[k]?=some a->j<=k->q<=a.1,⟨_,0,R.length,rfl,oM,oM,rfl,.refl s,λk a _ h=>oM,λk a h1 h2=>by rw[getElem?_eq_none h2]at h1;cases h1⟩,?_⟩;rintro f t m ⟨i,j,hy,hij,hj,rfl,st,hlo,hhi⟩;simp only[cI,aq]at hy;rw[hy.1,hy.2];simp only[QA,bu,ae,aS];refine aL (λhlt=>?_) (λhge=>?_);have hlt:i<j:=gR;have a1:cZ .add i j=some (Ii ((i+j:Nat))):=by
  grind [bg,aT]
 have ⟨g1,g2,g3⟩:=Hw (w:=i+j) oM;have hh:(i+j) / 2<R.length:=oM;obtain⟨y,hy⟩:∃y,R[(i+j) / 2]?=some y:=⟨_,gE hh⟩
 have ⟨pb,po,e1,e2,_⟩:=(he.sub st).get (i:=(i+j) / 2) (r:=enR y) gR;simp only[a1,g1,g2,g3,e1,e2,ae];refine uq (a:=y.1) (hw y (mG hy)) λt' st'=>?_;simp only[bu,ae];refine aL (λc=>?_) (λc=>?_);have c:y.1<q:=by
  grind
 simp only[bg,ae];rw[aT];refine⟨_,?_,(i+j) / 2+1,j,rfl,oM,hj,rfl,st.trans st',λk a hk hki=>?_,hhi⟩;omega
 by_cases e:k=(i+j) / 2
 grind
 have:=ho.lt hk hy oM;omega;have c:¬y.1<q:=λh=>by
  grind
 refine⟨_,?_,i,(i+j) / 2,rfl,oM,oM,rfl,st.trans st',hlo,λk a hk hki=>?_⟩;omega
 by_cases e:k=(i+j) / 2
 grind
 have:=ho.lt hy hk oM;omega
 ·have hge:i=j:=gR
  subst hge;refine aL (λc=>?_) (λc=>?_);have c':i<R.length:=gR;have ⟨y,hy⟩:∃y,R[i]?=some y:=⟨_,gE c'⟩
  have ⟨pb,po,e1,e2,_⟩:=(he.sub st).get (i:=i) (r:=enR y) gR;simp only[e1,e2,ae];refine uq (a:=y.1) (hw y (mG hy)) λt' st'=>?_;rw[c];simp only[cj,bJ,Bool.false_bne,ae,yE,cy];have hq:=hhi i y hy (Nat.le_refl _);refine hK t' i _ (st.trans st') (λb=>⟨y,hy,?_⟩) λb a ha ea=>?_
  grind
  have ⟨k,hk⟩:=fV.1 ha;have hki:k=i:=by
   by_cases e:k<i
   grind
   by_cases e2:i<k
   have:=ho.lt hy hk e2;omega;omega
  grind
  ·have c':i=R.length:=gR
   rw[c];simp only[yE,ct,ae];refine hK t i _ st (λb=>by cases b) λ_ a ha ea=>?_;have ⟨k,hk⟩:=fV.1 ha
   grind
theorem FibR.ord{R:List EnV}{x:Nat}(hR:R.map kyE=ofP N G U x N):Ord R/\R.map (·.1)=(ndL N G U x).map lbk:=by
 have e1:R.map (·.1)=(R.map kyE).map (·.1):=by rw[fT];rfl
 have e2:R.map (·.1)=(ndL N G U x).map lbk:=by simp_all [Ae]
 grind [Ord,lbk,uk]
theorem Hz{a b:Nat}(h:lbk a=lbk b):a=b:=by unfold lbk at h;omega
theorem FibR.row{R:List EnV}{x:Nat}(hR:R.map kyE=ofP N G U x N){y:EnV}(hy:y∈R):∃n∈ndL N G U x,y.1=lbk n/\y.2.2=lnk N G U x n:=by
 have:kyE y∈R.map kyE:=aG.2 ⟨y,hy,rfl⟩;rw[hR,Ae]at this;have ⟨n,hn,e⟩:=aG.1 this;have ⟨a,b,c⟩:=y;have e:(lbk n,lnk N G U x n)=(a,c):=e
 grind
theorem FibR.has{R:List EnV}{x n:Nat}(hR:R.map kyE=ofP N G U x N)(hn:n∈ndL N G U x):∃y∈R,y.1=lbk n:=by
 have:lbk n∈R.map (·.1):=by rw[(FibR.ord hR).2];grind
 grind
def xorU(x y:Int):Int:=dw .u64 ((BitVec.ofInt (aA.bits .u64) x ^^^ BitVec.ofInt (aA.bits .u64) y).toNat:Nat)
theorem qXk{x y:Int}:cZ .xor (Iq x) (Iq y)=some (Iq (xorU x y)):=by simp[cZ,arith,eQ,xorU]
def pI(h b:Int):Int:=aA.u64.wrap (xorU h (dw .u64 b)*1099511628211)
def fnv:Int->List Int->Int
 |h,[]=>h
 |h,b::r=>fnv (pI h b) r
theorem HA(h b:Int)(r:List Int):fnv h (b::r)=fnv (pI h b) r:=rfl
theorem HB(h:Int):∀(a b:List Int),fnv h (a++b)=fnv (fnv h a) b:=by
 intro a
 induction a generalizing h with
 |nil=>intro b;rfl
 |cons x r ih=>intro b;exact ih (pI h x) b
theorem nU{k k':aA}{n:Int}:dX k (.int k' n)=some (.int k (dw k n)):=rfl
theorem wu64(n:Int):dw .u64 n=n % 18446744073709551616:=by rw[kj];simp[aA.bits,aA.signed]<;>omega
def numB(v:Int):Nat->List Int
 | 0=>[]
 |n+1=>dw .u8 (v.fdiv ((2^(8*n):Nat):Int))::numB v n
theorem HC{v:Int}{m:Nat}(hm:m<=64):fN .shr (Iq v) m=some (Iq (v.fdiv ((2^m:Nat):Int))):=by show frc (v.fdiv ((2^(min m (aA.bits .u64)):Nat):Int)) (λn=>some (AV.int .u64 n))=_;rw[eQ,Nat.min_eq_left (show m<=aA.bits .u64 from hm)]
structure Fold(l c r d:Nat)(h:Int)(s:Hq):Prop where
 lp:s l=some (false,.loop .ready none 17 [(5,Pp c),(7,Pp r)] [11] (rfAs 0 (bH Tryz.f276)) (rfBo 0 (bH Tryz.f276)) d)
 cb:∃t,s c=some (t,.cells 413 [.fn (.func 278) [] []])
 rs:Hc s r 55 [Iq h]
theorem Gm{l c r d:Nat}{h b:Int}(z:Fold l c r d h s)(hK:∀s',Fold l c r d (pI h b) s'->aV (λi=>i=l∨i=r) s s'->K true s'):gF TP l [.int .u8 b] K s:=by have ⟨h1,⟨t,h2⟩,h3⟩:=z;have hlc:l≠c:=gR;have hlr:l≠r:=gR;have hcr:c≠r:=gR;refine Zb h1 ⟨rfl,?_⟩;unfold gj;rw[h1];simp only;have u1:Upto l s (hset s l (false,.loop .busy none 17 [(5,Pp c),(7,Pp r)] [11] (rfAs 0 (bH Tryz.f276)) (rfBo 0 (bH Tryz.f276)) d)):=λ_ hi=>eL hi;have b1:(hset s l (false,.loop .busy none 17 [(5,Pp c),(7,Pp r)] [11] (rfAs 0 (bH Tryz.f276)) (rfBo 0 (bH Tryz.f276)) d)) l=some (false,.loop .busy none 17 [(5,Pp c),(7,Pp r)] [11] (rfAs 0 (bH Tryz.f276)) (rfBo 0 (bH Tryz.f276)) d):=fe;have c1:=(u1 c hlc.symm).trans h2;have r1:=(u1 r hlr.symm).trans h3;simp only[au c1,au r1,g0Y,ae];refine gQ kR (Y7 ?_);simp only[QI,nU,qXk,oX,ae];refine cw r1 sI rfl λs2 r2 u2=>?_;have b2:=(u2 l hlr).trans b1;unfold endK;rw[b2];simp only;have u3:Upto l s2 (hset s2 l (false,.loop .ready none 17 [(5,Pp c),(7,Pp r)] [11] (rfAs 0 (bH Tryz.f276)) (rfBo 0 (bH Tryz.f276)) d)):=λ_ hi=>eL hi;refine hK _ ⟨fe,⟨t,?_⟩,?_⟩ ((u1.keep (.inl rfl)).trans ((u2.keep (.inr rfl)).trans (u3.keep (.inl rfl))));rw[u3 c hlc.symm,u2 c hcr];exact c1;rw[u3 r hlr.symm];exact r2
theorem Af{l c r d:Nat}{h v:Int}{n:Nat}(hn:n<=4)(z:Fold l c r d h s)(hK:∀s',Fold l c r d (fnv h (numB v n)) s'->aV (λi=>i=l∨i=r) s s'->K true s'):wC TP 281 [Iq v,n,.yield l] K s:=by
 refine Zg ?_;simp only[QN,eC,ae,bG];rw[aT];refine⟨λys s1 m=>∃(h1:Int) (j:Nat),ys=[Ii ((j:Int)-1)]/\Fold l c r d h1 s1/\aV (λi=>i=l∨i=r) s s1/\j<=n/\m=j/\fnv h (numB v n)=fnv h1 (numB v j),(by grind [aV.refl]),?_⟩;rintro f s1 m ⟨h1,j,hy,z1,k1,hj,rfl,he⟩;simp only[cI,aq]at hy;rw[hy];simp only[QL,dQ,ae,aS];refine aL (λhge=>?_) (λhlt=>?_);have hge:=oT hge;obtain⟨i,rfl⟩:∃i,m=i+1:=⟨m-1,oM⟩
 have e1:(((i+1:Nat):Int)-1)=(i:Int):=oM;rw[e1];have e2:aA.i64.wrap (8*(i:Int))=((8*i:Nat):Int):=by rw[aT];omega
 simp only[oX,ae,e2,HC (show 8*i<=64 by omega),nU];refine⟨by unfold jw;rw[z1.lp];rfl,Gm z1 λs2 z2 k2=>?_⟩;simp only[cQ,Bool.not_true,aR,ae,eC];rw[aT];exact⟨i,oM,_,i,rfl,z2,k1.trans k2,oM,rfl,he⟩;have hlt:=oF hlt;obtain rfl:m=0:=oM
 grind [fnv,numB]
def jI(a b e v:Int):List Int:=numB (dw .u64 a) 4++(numB (dw .u64 b) 4++(numB (dw .u64 e) 2++numB (dw .u64 v) 3))
def Pk(a b e v:Int)(cs:List AV):Prop:=cs.length=21/\aX cs=true/\cs[0]?=some (Iw a)/\cs[1]?=some (Iw b)/\cs[3]?=some (Ii e)/\cs[4]?=some (Iw v)
variable{a b e v:Int}{cs:List AV}
theorem HD{l c r d q:Nat}{t:Bool}{ty:TypeId}{h:Int}(hp:Pk a b e v cs)(z:Fold l c r d h s)(hq:s q=some (t,.cells ty cs))(hql:q≠l/\q≠r)(hK:∀s',Fold l c r d (fnv h (jI a b e v)) s'->aV (λi=>i=l∨i=r) s s'->K (.tup []) s'):wC TP 280 [.yield l,Pp q] K s:=by
 have ⟨p1,p2,p3,p4,p5,p6⟩:=hp;have hno:¬(q=l∨q=r):=gR;refine Ze ?_;simp only[QK,aK,ae,au hq,zAY,p3,nU];refine Af (n:=4) oM z λs1 z1 k1=>?_;have q1:=k1 _ _ hq hno;simp only[bD,ae,au q1,p4,nU];refine Af (n:=4) oM z1 λs2 z2 k2=>?_;have q2:=k2 _ _ q1 hno;simp only[EQ,cy,bD,aK,ae,au q2,zAY,p5,nU];refine Af (n:=2) oM z2 λs3 z3 k3=>?_;have q3:=k3 _ _ q2 hno;simp only[EP,cy,bD,aK,ae,au q3,zAY,p6,nU];refine Af (n:=3) oM z3 λs4 z4 k4=>?_;simp only[EO,cy,ae]
 grind [jI,HB,aV.trans]
theorem HE(hp:Pk a b e v cs)(hK:∀s',Sub s s'->K (Iq (fnv 14695981039346656037 (jI a b e v))) s'):wC TP 273 [.agg cs] K s:=by
 have ⟨p1,p2,_⟩:=id hp;refine Y6 ⟨p2,aI λx s1 hx h1 u1=>aE (bX h1 p1) ?_⟩;refine Zd ⟨p2,aI λq s2 hq h2 u2=>?_⟩;refine Y9 (fG rfl λc s3 hc h3 u3=>aI λr s4 hr h4 u4=>cw h4 sI rfl λs5 h5 u5=>⟨kR,trivial,λl d hl=>?_⟩);have sub2:=(u1.sub hx).trans (u2.sub hq);have sub4:=(u3.sub hc).trans (u4.sub hr);have hr2:s2 r=none:=by
  cases w:s2 r with
  |none=>rfl
  |some y=>rw[u3.sub hc r y w]at hr;cases hr
 have sub5:=sub4.upto u5 hr2;have c5:Hc s5 c 413 [.fn (.func 278) [] []]:=by rw[u5 c (dZ hr h3)];exact u4.at h3 hr
 have u6:Upto l s5 (hset s5 l (false,.loop .ready none 17 [(5,Pp c),(7,Pp r)] [11] (rfAs 0 (bH Tryz.f276)) (rfBo 0 (bH Tryz.f276)) d)):=λ_ hi=>eL hi;have b6:(hset s5 l (false,.loop .ready none 17 [(5,Pp c),(7,Pp r)] [11] (rfAs 0 (bH Tryz.f276)) (rfBo 0 (bH Tryz.f276)) d)) l=_:=fe;have sub6:=u6.sub hl;have q6:=sub6 _ _ (sub5 _ _ h2);refine HD (h:=14695981039346656037) hp ⟨b6,⟨_,sub6 _ _ c5⟩,sub6 _ _ h5⟩ q6 ⟨?_,?_⟩ λs7 z7 k7=>?_
 grind
 grind
 unfold oY;rw[z7.lp];refine⟨sI,?_⟩;have r8:hdel s7 l r=some (false,.cells 55 [Iq (fnv 14695981039346656037 (jI a b e v))]):=by
  grind [dL,Fold.rs]
 simp only[au r8,g0Y,ae];refine hK _ λi y hi=>?_;have hi2:=sub2 i y hi;have hi5:=sub5 i y hi2;have hil:=dZ hl hi5;have hir:=dZ hr2 hi2;rw[dL hil];exact k7 i y (sub6 i y hi5) gR
def WhB(s:Hq)(w:Nat)(l:List Nat)(B:List Int):Prop:=∃t1 t2 bb mv cap,s w=some (t1,.cells 289 [.slc bb 0 B.length cap 1,mv])/\s bb=some (t2,.cells 3 (WH.ints B))/\(∀c,cap=some c->B.length<=c)/\B.length=64/\WH.Sli s mv (l.map λ(n:Nat)=>(n:Int))/\WH.Aft (l.map λ(n:Nat)=>(n:Int)) (ba 64 0) B
theorem WhB.sub{w:Nat}{l:List Nat}{B:List Int}(h:WhB s w l B)(k:Sub s s'):WhB s' w l B:=by have ⟨t1,t2,bb,mv,cap,h1,h2,h3,h4,h5,h6⟩:=h;exact⟨t1,t2,bb,mv,cap,k _ _ h1,k _ _ h2,h3,h4,h5.sub k,h6⟩
theorem WhB.frz{w:Nat}{l:List Nat}{B:List Int}(h:WhB s w l B):WhB (AM.frz s) w l B:=by have ⟨t1,t2,bb,mv,cap,h1,h2,h3,h4,h5,h6⟩:=h;exact⟨true,true,bb,mv,cap,eK h1,eK h2,h3,h4,Sl.frz h5,h6⟩
structure FibB(s:Hq)(f N:Nat)(G:List Lnk)(U:List Bool)(x:Nat)(Bf:Nat->List Int):Prop where
 r:FibR s f N G U x
 ex:∃(tf:Bool) (lv ev:AV) (mb:Nat) (tm:Bool) (c:Nat) (ws:List (Nat×Nat)),s f=some (tf,.cells 245 (fibC (N:Int) (x:Int) lv ev mb))/\
  s mb=some (tm,.map (mE 0 ws) c)/\ws.map (·.1)=ndL N G U x/\∀p∈ws,WhB s p.2 (lnk N G U x p.1) (Bf p.1)
theorem FibB.sub{f x:Nat}{Bf:Nat->List Int}(h:FibB s f N G U x Bf)(k:Sub s s'):FibB s' f N G U x Bf:=by have ⟨tf,lv,ev,mb,tm,c,ws,h1,h5,h6,h7⟩:=h.ex;exact⟨h.r.sub k,tf,lv,ev,mb,tm,c,ws,k _ _ h1,k _ _ h5,h6,λp hp=>(h7 p hp).sub k⟩
theorem FibB.frz{f x:Nat}{Bf:Nat->List Int}(h:FibB s f N G U x Bf):FibB (AM.frz s) f N G U x Bf:=by have ⟨tf,lv,ev,mb,tm,c,ws,h1,h5,h6,h7⟩:=h.ex;exact⟨h.r.frz,true,lv,ev,mb,true,c,ws,eK h1,eK h5,h6,λp hp=>(h7 p hp).frz⟩
open Classical in
def hopI(Bf:Nat->List Int)(n:Nat)(h:Int):Int:=(Bf n).getD (h % 64).toNat 0-1
theorem qZ7{h b:Int}:0<=pI h b:=by
 unfold pI;rw[<- gz,wu64]
 grind
theorem ur:∀{l:List Int}{h:Int},0<=h->0<=fnv h l
 |[],_,h=>h
 |b::l,h,_=>by rw[HA];exact ur qZ7
theorem ut{kd:aA}{bb n i:Nat}{cap:Option Nat}(hi:i<n):cF 1 (.slc bb 0 n cap 1) (.int kd (i:Int))=some (.ptr bb i):=by
 have:blt i n=true:=by rw[bZ];exact hi
 simp[cF,this]
theorem HF{x:AV}(hx:x.one=true):∀{l:List AV}{i:Nat},aX l=true->aX (l.set i x)=true
 |[],_,_=>rfl
 | y::l,0,h=>by
   simp only[dh,Bool.and_eq_true]at h;simp only[fW,dh,hx,h.2,Bool.and_self]
 | y::l,i+1,h=>by
   simp only[dh,Bool.and_eq_true]at h;rw[set_cons_succ,dh,h.1,HF hx h.2];rfl
def zP:List AV:=[(Iw 0),(Iw 0),(Ii 0),(Ii 0),(Iw 0),(Iw 0),(Iq 0),(Iq 0),(Ii 0),(Ii 0),(Iq 0),(Iw 0),(Iq 0),(Iw 0),(Iw 0),(Iw 0),(Ii 0),(Ii 0),(Ii 0),(Ii 0),(Iq 0)]
theorem Ah{b:Bool}{e:Int}(hK:K (if b=true then 0 else e:Int) s):wC TP 267 [b,e] K s:=by refine YZ ?_;cases b<;>exact hK
variable{t' H H':Hq}{ev v:AV}{f mb x:Nat}
abbrev Wl:=Nat×Nat×Nat×Option Nat×AV
def np(p:Wl):Nat×Nat:=(p.1,p.2.1)
def ownW(ws:List Wl)(i:Nat):Prop:=∃p∈ws,i=p.2.1∨i=p.2.2.1
def Zs:List Int:=ba 64 0
def nz(l:List Nat):List Int:=l.map λ(n:Nat)=>(n:Int)
variable{ws:List Wl}{Bf:Nat→List Int}{Mf:Nat→List Nat}
structure Wls(s H:Hq)(ws:List Wl)(Bf:Nat->List Int)(Mf:Nat->List Nat):Prop where
 nd:(ws.map (·.1)).Nodup
 ow:∀p∈ws,∀q∈ws,p.2.1=q.2.1∨p.2.2.1=q.2.2.1->p.1=q.1
 hn:∀i,ownW ws i->H i=none
 at_:∀p∈ws,Hc s p.2.1 289 [.slc p.2.2.1 0 64 p.2.2.2.1 1,p.2.2.2.2]/\Hc s p.2.2.1 3 (WH.ints (Bf p.1))/\(∀c,p.2.2.2.1=some c->64<=c)/\Sl H p.2.2.2.2 (iz (Mf p.1))
 ln:∀n,(Bf n).length=64
 rg:∀n,∀b∈Bf n,0<=b/\b<=128
 zr:∀n,n ∉ ws.map (·.1)->Bf n=Zs
theorem HG(h:(ws.map (·.1)).Nodup){p q:Wl}(hp:p∈ws)(hq:q∈ws)(e:p.1=q.1):p=q:=by
 have ⟨i,hi⟩:=fV.1 hp;have ⟨j,hj⟩:=fV.1 hq;have ⟨a1,a2⟩:=gS hi;have ⟨b1,b2⟩:=gS hj;have:i=j:=(getElem_inj (h₀:=by simpa using a1) (h₁:=by simpa using b1) h).1 gR
 grind
theorem Wls.wat(z:Wls s H ws Bf Mf)(hs:Sub H s){p:Wl}(hp:p∈ws):WH.WAt s p.2.1 p.2.2.1 p.2.2.2.2 p.2.2.2.1 (Bf p.1) (nz (Mf p.1)):=by have ⟨a,b,c,e⟩:=z.at_ p hp;have l:=z.ln p.1;refine⟨by rw[l];exact a,b,?_,by rw[l];exact c,oM⟩;have:=e.sub hs;rw[ui]at this;exact this
def setW(ws:List Wl)(n:Nat)(mv:AV):List Wl:=ws.map λq=>if q.1=n then(q.1,q.2.1,q.2.2.1,q.2.2.2.1,mv)else q
def updF{α:Type}(g:Nat->α)(n:Nat)(a:α)(m:Nat):α:=if m=n then a else g m
theorem HI{n:Nat}{mv:AV}:(setW ws n mv).map np=ws.map np:=by
 unfold setW;rw[fT];apply cK
 grind [np]
theorem Ai{n:Nat}{mv:AV}:(setW ws n mv).map (·.1)=ws.map (·.1):=by have:=aJ (List.map (·.1)) (HI (ws:=ws) (n:=n) (mv:=mv));rw[fT,fT]at this;exact this
theorem HJ{n:Nat}{mv:AV}:(setW ws n mv).length=ws.length:=by grind [setW]
theorem uu{n:Nat}{mv:AV}{q':Wl}(h:q'∈setW ws n mv):∃q∈ws,q'=if q.1=n then(q.1,q.2.1,q.2.2.1,q.2.2.2.1,mv)else q:=by obtain⟨q,hq,rfl⟩:=aG.1 h;exact⟨q,hq,rfl⟩
theorem uw{n:Nat}{mv:AV}{i:Nat}:ownW (setW ws n mv) i↔ownW ws i:=by
 constructor;rintro ⟨p,hp,h⟩;obtain⟨q,hq,rfl⟩:=uu hp;refine⟨q,hq,?_⟩;split at h<;>exact h
 rintro ⟨q,hq,h⟩;refine⟨_,aG.2 ⟨q,hq,rfl⟩,?_⟩
 grind
open Classical in
noncomputable def grow(H t t':Hq)(O:Nat->Prop):Hq:=λi=>if H i=none then(if t i=none/\¬O i then t' i else none)else H i
theorem Aj{O:Nat->Prop}:Sub H (grow H t t' O):=λi e hi=>by unfold grow;rw[aj (by rw[hi];simp)];exact hi
theorem Si{O:Nat->Prop}{i:Nat}(h:H i=none)(h1:t i=none)(h2:¬O i):grow H t t' O i=t' i:=by
 grind [grow]
theorem HK{O:Nat->Prop}(h:Sub H t'):Sub (grow H t t' O) t':=λi e hi=>by
 unfold grow at hi;split at hi
 ·split at hi
  exact hi
  ·cases hi
 exact h _ _ hi
theorem Ak{O:Nat->Prop}{i:Nat}(h:H i=none)(ho:O i):grow H t t' O i=none:=by
 grind [grow]
theorem Al{O:Nat->Prop}{i:Nat}(h:H i=none)(ht:t i≠none):grow H t t' O i=none:=by
 grind [grow]
theorem uz{O:Nat->Prop}{l:List AV}(h:Sl t' v l)(hb:∀b o n c,v=.slc b o n c 1->l≠[]->H b=none/\t b=none/\¬O b):Sl (grow H t t' O) v l:=
 h.keep (fp:=λi=>grow H t t' O i≠t' i) (λi e hi hn=>by rw[Classical.not_not.1 hn];exact hi) λb o n c e hne q=>by have ⟨a1,a2,a3⟩:=hb b o n c e hne;exact q (Si a1 a2 a3)
structure Tb(s H:Hq)(f mb N x:Nat)(lv ev:AV)(L:List RLk)(ws:List Wl)(Bf:Nat->List Int)(Mf:Nat->List Nat):Prop where
 hs:Sub H s
 hf:H f=none
 hm:H mb=none
 cf:Hc s f 245 (fibC (N:Int) (x:Int) lv ev mb)
 cm:s mb=some (false,.map (mE 0 (ws.map np)) ws.length)
 wl:Wls s H ws Bf Mf
 wn:∀p∈ws,p.1<N
 lk:SlR 3 H lv (L.map rwR)
def own(f mb:Nat)(ws:List Wl)(i:Nat):Prop:=i=f∨i=mb∨ownW ws i
theorem Tb.fm(z:Tb s H f mb N x lv ev L ws Bf Mf):mb≠f:=λe=>by have:=z.cm;rw[e,z.cf]at this;cases this
theorem Tb.wc(z:Tb s H f mb N x lv ev L ws Bf Mf){i:Nat}(h:ownW ws i):(∃cs,Hc s i 289 cs)∨∃cs,Hc s i 3 cs:=by
 have ⟨p,hp,h⟩:=h;have ⟨a,b,_⟩:=z.wl.at_ p hp
 grind
theorem Tb.nf(z:Tb s H f mb N x lv ev L ws Bf Mf):¬ownW ws f/\¬ownW ws mb:=by
 constructor
 ·intro h
  rcases z.wc h with⟨cs,e⟩|⟨cs,e⟩<;>(rw[z.cf]at e;cases e)
 ·intro h
  rcases z.wc h with⟨cs,e⟩|⟨cs,e⟩<;>(rw[z.cm]at e;cases e)
theorem Tb.live(z:Tb s H f mb N x lv ev L ws Bf Mf){i:Nat}(h:own f mb ws i):s i≠none:=by
 rcases h with rfl|rfl|h;rw[z.cf];simp;rw[z.cm];simp
 grind [wc]
theorem Tb.hn(z:Tb s H f mb N x lv ev L ws Bf Mf){i:Nat}(h:own f mb ws i):H i=none:=by rcases h with rfl|rfl|h;exact z.hf;exact z.hm;exact z.wl.hn i h
theorem Tb.keep{fp:Nat->Prop}(z:Tb s H f mb N x lv ev L ws Bf Mf)(k:aV fp s s')(h1:∀i,own f mb ws i->¬fp i)(h2:Sub H s'):Tb s' H f mb N x lv ev L ws Bf Mf:=by refine⟨h2,z.hf,z.hm,k _ _ z.cf (h1 _ (.inl rfl)),k _ _ z.cm (h1 _ (.inr (.inl rfl))),⟨z.wl.nd,z.wl.ow,z.wl.hn,λp hp=>?_,z.wl.ln,z.wl.rg,z.wl.zr⟩,z.wn,z.lk⟩;have ⟨a,b,c,e⟩:=z.wl.at_ p hp;exact⟨k _ _ a (h1 _ (.inr (.inr ⟨p,hp,.inl rfl⟩))),k _ _ b (h1 _ (.inr (.inr ⟨p,hp,.inr rfl⟩))),c,e⟩
theorem Tb.sub(z:Tb s H f mb N x lv ev L ws Bf Mf)(k:Sub s s'):Tb s' H f mb N x lv ev L ws Bf Mf:=z.keep (fp:=λ_=>False) k.keep (λ_ _ h=>h) (z.hs.trans k)
theorem Tb.more(z:Tb s H f mb N x lv ev L ws Bf Mf)(k:Sub H H')(h:Sub H' s)(hn:∀i,own f mb ws i->H' i=none):Tb s H' f mb N x lv ev L ws Bf Mf:=by
 refine⟨h,hn _ (.inl rfl),hn _ (.inr (.inl rfl)),z.cf,z.cm,⟨z.wl.nd,z.wl.ow,λi hi=>hn _ (.inr (.inr hi)),λp hp=>?_,z.wl.ln,z.wl.rg,z.wl.zr⟩,z.wn,z.lk.sub k⟩;have ⟨a,b,c,e⟩:=z.wl.at_ p hp
 grind [Sl.sub]
theorem Tb.setE{ev':AV}(z:Tb s H f mb N x lv ev L ws Bf Mf)(u:Upto f s s')(h:Hc s' f 245 (fibC (N:Int) (x:Int) lv ev' mb)):Tb s' H f mb N x lv ev' L ws Bf Mf:=by have nf:=z.nf;have ne:∀{i},ownW ws i->i≠f:=fun {i} hi e=>nf.1 (e ▸ hi);refine⟨λi e hi=>?_,z.hf,z.hm,h,by rw[u _ z.fm];exact z.cm,⟨z.wl.nd,z.wl.ow,z.wl.hn,λp hp=>?_,z.wl.ln,z.wl.rg,z.wl.zr⟩,z.wn,z.lk⟩;rw[u i ((by grind [hf]))];exact z.hs _ _ hi;have ⟨a,b,c,e⟩:=z.wl.at_ p hp;exact⟨by rw[u _ (ne ⟨p,hp,.inl rfl⟩)];exact a,by rw[u _ (ne ⟨p,hp,.inr rfl⟩)];exact b,c,e⟩
theorem Tb.setM{p:Wl}{v:AV}{l:List Nat}(z:Tb s H f mb N x lv ev L ws Bf Mf)(hp:p∈ws)(hl:Sl s v (iz l))(ha:l.Pairwise (· < ·))(hb:∀i∈l,i<128)(hlen:l.length<=64)
  (hK:∀s' H' mv B',Tb s' H' f mb N x lv ev L (setW ws p.1 mv) (updF Bf p.1 B') (updF Mf p.1 l)->WH.Aft (nz l) (Bf p.1) B'->aV (own f mb ws) s s'->Sub H H'->(∀i,H' i≠none->H i≠none∨s i=none)->K (Ii 0) s'):wC TP 156 [Pp p.2.1,v] K s:=by
 have asc:WH.Asc (nz l):=⟨by
  grind [nz],λz hz=>by
  obtain⟨i,hi,rfl⟩:=aG.1 hz;have:=hb i hi;omega⟩
 have wa:=z.wl.wat z.hs hp;rw[ui]at hl;refine WH.Hi wa hl asc (by rw[z.wl.ln];grind) (z.wl.rg _) λs3 mv3 B3 wa3 aft k3 fr3=>?_;have l3:B3.length=64:=by rw[aft.len,z.wl.ln]
 have ofp:∀i,(i=p.2.1∨i=p.2.2.1)->ownW ws i:=λi h=>⟨p,hp,h⟩
 have kO:aV (own f mb ws) s s3:=k3.mono λi h=>.inr (.inr (ofp i h));have hH3:Sub H s3:=λi e hi=>k3 _ _ (z.hs _ _ hi) λq=>by rw[z.wl.hn i (ofp i q)]at hi;cases hi
 refine hK s3 (grow H s s3 (own f mb ws)) mv3 B3 ?_ aft kO Aj λi hi=>?_
 rotate_left
 by_cases h1:H i=none
 refine .inr ?_;rcases q:s i with _|y;rfl;exact absurd (Al h1 (by rw[q];simp)) hi;exact .inl h1;have nf:=z.nf;have gn:∀i,own f mb ws i->grow H s s3 (own f mb ws) i=none:=λi hi=>Ak (z.hn hi) hi;have mvH:Sl (grow H s s3 (own f mb ws)) mv3 (iz l):=by
  have:Sl s3 mv3 (iz l):=by grind [ui,WH.WAt.ms]
  refine uz this λb o n c e hne=>?_;have ⟨c',n',k',hc,e'⟩:=fr3 (λq=>hne (by rw[ui,q];rfl));rw[e']at e;cases e;refine⟨?_,hc,λq=>z.live q hc⟩;cases q:H b with
  |none=>rfl
  |some y=>rw[z.hs _ _ q]at hc;cases hc
 refine⟨HK hH3,gn _ (.inl rfl),gn _ (.inr (.inl rfl)),k3 _ _ z.cf (λq=>nf.1 (ofp _ q)),?_,⟨by rw[Ai];exact z.wl.nd,?_,λi hi=>gn i (.inr (.inr (uw.1 hi))),?_,λn=>?_,λn=>?_,λn hn=>?_⟩,?_,z.lk.sub Aj⟩;rw[HI,HJ];exact k3 _ _ z.cm (λq=>nf.2 (ofp _ q));intro a ha b hb h;obtain⟨a',ha',rfl⟩:=uu ha;obtain⟨b',hb',rfl⟩:=uu hb;have:=z.wl.ow a' ha' b' hb' gR
 grind
 ·intro q' hq'
  obtain⟨q,hq,rfl⟩:=uu hq'
  by_cases e:q.1=p.1
  have:=HG z.wl.nd hq hp e;subst this;rw[ak rfl];have e1:updF Bf q.1 B3 q.1=B3:=ak rfl;have e2:updF Mf q.1 l q.1=l:=ak rfl;refine⟨?_,by rw[e1];exact wa3.bs,(z.wl.at_ q hq).2.2.1,by rw[e2];exact mvH⟩;have:=wa3.wb
  grind
  ·rw[aj e]
   have e1:updF Bf p.1 B3 q.1=Bf q.1:=aj e;have e2:updF Mf p.1 l q.1=Mf q.1:=aj e;have ⟨a,b,c,g⟩:=z.wl.at_ q hq;have ⟨a',b',_,_⟩:=z.wl.at_ p hp;have n1:¬(q.2.1=p.2.1∨q.2.1=p.2.2.1):=by
    rintro (h|h);exact e (z.wl.ow q hq p hp (.inl h))
    grind
   have n2:¬(q.2.2.1=p.2.1∨q.2.2.1=p.2.2.1):=by
    rintro (h|h)
    ·rw[h,a']at b;cases b
    exact e (z.wl.ow q hq p hp (.inr h))
   exact⟨k3 _ _ a n1,by rw[e1];exact k3 _ _ b n2,c,by rw[e2];exact g.sub Aj⟩
 unfold updF;split;exact l3;exact z.wl.ln n;unfold updF;split;exact aft.rg asc;exact z.wl.rg n;rw[Ai]at hn;have:n≠p.1:=λe=>gR;rw[show updF Bf p.1 B3 n=Bf n from aj this];exact z.wl.zr n hn;intro q' hq';obtain⟨q,hq,rfl⟩:=uu hq';split<;>exact z.wn q hq
variable{Q:Hq}{ws':List Wl}
theorem HL{α:Type}{g:Nat->α}{n:Nat}{a b:α}:updF (updF g n a) n b=updF g n b:=by
 grind [updF]
theorem nV:(ws.map np).map (·.1)=ws.map (·.1):=by rw[fT];rfl
theorem Tb.addW{n w bb:Nat}(z:Tb s H f mb N x lv ev L ws Bf Mf)(hn:n ∉ ws.map (·.1))(hN:n<N)(hw:s w=none)(hbb:s bb=none)(wa:WH.WAt s' w bb .nilslc (some 64) Zs [])
  (hm:s' mb=some (false,.map (mE 0 ((ws ++ [((n,w,bb,some 64,AV.nilslc):Wl)]).map np)) (ws ++ [((n,w,bb,some 64,AV.nilslc):Wl)]).length)) (k:aV (λi=>i=mb) s s'):Tb s' H f mb N x lv ev L (ws ++ [((n,w,bb,some 64,AV.nilslc):Wl)]) Bf (updF Mf n []):=by
 have hlive:∀{i},s i=none->∀q∈ws,q.2.1≠i/\q.2.2.1≠i:=fun {i} hi q hq=>by
  have ⟨a,b,_⟩:=z.wl.at_ q hq
  grind
 have hH:∀{i},s i=none->H i=none:=fun {i} hi=>by
  cases q:H i with
  |none=>rfl
  |some y=>rw[z.hs _ _ q]at hi;cases hi
 have nf:=z.nf;refine⟨λi e hi=>k _ _ (z.hs _ _ hi) λq=>(by grind [hm]),z.hf,z.hm,k _ _ z.cf λq=>z.fm q.symm,hm,⟨?_,?_,?_,?_,z.wl.ln,z.wl.rg,λm hm'=>z.wl.zr m λq=>gR⟩,?_,z.lk⟩;rw[bM,nodup_append];refine⟨z.wl.nd,sI,?_⟩
 grind
 intro a ha b hb h;rcases mP ha with ha|ha<;>rcases mP hb with hb|hb
 exact z.wl.ow a ha b hb h
 grind
 grind
 grind
 rintro i ⟨p,hp,h⟩;rcases mP hp with hp|hp;exact z.wl.hn i ⟨p,hp,h⟩
 grind
 ·intro p hp
  rcases mP hp with hp|hp;have hne:p.1≠n:=λe=>gR;have ⟨a,b,c,e⟩:=z.wl.at_ p hp;have e2:updF Mf n [] p.1=Mf p.1:=aj hne;exact⟨k _ _ a λq=>nf.2 (q ▸ ⟨p,hp,.inl rfl⟩),k _ _ b λq=>nf.2 (q ▸ ⟨p,hp,.inr rfl⟩),c,by rw[e2];exact e⟩
  ·rw[bN]at hp
   subst hp;have e2:updF Mf n [] n=[]:=ak rfl;refine⟨wa.wb,?_,λc e=>by cases e;omega,?_⟩;rw[z.wl.zr n hn];exact wa.bs;rw[e2];exact .inl ⟨rfl,rfl⟩
 intro p hp;rcases mP hp with hp|hp;exact z.wn p hp
 grind
theorem HM{n:Nat}{l:List Nat}(z:Tb s H f mb N x lv ev L ws Bf Mf)(hnN:n<N)(hl:Sl H v (iz l))(ha:l.Pairwise (· < ·))(hb:∀i∈l,i<128)(hlen:l.length<=64)
  (hK:∀s' H' ws' B',Tb s' H' f mb N x lv ev L ws' (updF Bf n B') (updF Mf n l)->WH.Aft (nz l) (Bf n) B'->aV (own f mb ws) s s'->Sub H H'->(∀i,H' i≠none->H i≠none∨s i=none)->(∀i,ownW ws' i->ownW ws i∨s i=none)->(∀m,m∈ws'.map (·.1)↔m∈ws.map (·.1)∨m=n)->K (.tup []) s'):wC TP 155 [Pp f,n,v] K s:=by
 refine YL ?_;have e5:(fibC (N:Int) (x:Int) lv ev mb)[5]?=some (.map mb):=rfl;have hg:=mget (n:=n) z.cm;have hlen2:(if(64:Int)<((iz l).length:Int)then(64:Int)else((iz l).length:Int))=((iz l).length:Int):=aj (by rw[lA];omega)
 by_cases hn:n∈ws.map (·.1)
 have ⟨w,hw,hwm⟩:=Sd (l:=ws.map np) (n:=n) (by rw[nV];exact hn);have ⟨p,hp,e⟩:=aG.1 hwm;have ep1:=aJ (·.1) e;have ep2:=aJ (·.2) e;subst ep1 ep2;rw[hw]at hg;have x0:bV (retM .nilptr true (some (Pp p.2.1))) 0=some (Pp p.2.1):=rfl;have x1:bV (retM .nilptr true (some (Pp p.2.1))) 1=some true:=rfl;simp only[EM,bQ,aK,zAY,au z.cf,e5,hg,ae];unfold yD;have ⟨v',hv',hlv⟩:=Sl.whole (hl.sub z.hs);simp only[(hl.sub z.hs).len,uh,hlen2,hv',ae];refine z.setM hp hlv ha hb hlen λs' H' mv B' z' aft k hH hH2=>hK s' H' _ B' z' aft k hH hH2 (λi hi=>.inl (uw.1 hi)) λm=>?_;rw[Ai];constructor;exact .inl;rintro (h|h);exact h;rw[h];exact hn
 ·rw[Sc (by rw[nV];exact hn)]at hg
  have x0:bV (retM .nilptr true none) 0=some .nilptr:=rfl;have x1:bV (retM .nilptr true none) 1=some false:=rfl;simp only[EM,bQ,aK,zAY,au z.cf,e5,hg,ae];refine WH.New_in (n:=64) oM oM λw bb s1 hw hbb sub1 wa=>?_;have y0:bV (.tup [Pp w,Ii 0]) 0=some (Pp w):=rfl;have y1:bV (.tup [Pp w,Ii 0]) 1=some (Ii 0):=rfl;have hf1:=sub1 _ _ z.cf;simp only[y0,y1,au hf1,e5,ae];have hm1:=sub1 _ _ z.cm;rw[<- lMY (f:=np)]at hm1;refine mput hm1 (by rw[nV];exact hn) λs2 hm2 u2=>?_;have wm:w≠mb:=λe=>by rw[e,z.cm]at hw;cases hw
  have bm:bb≠mb:=(by grind [Tb.cm])
  have wa2:WH.WAt s2 w bb .nilslc (some 64) Zs []:=⟨by rw[u2 w wm];exact wa.wb,by rw[u2 bb bm];exact wa.bs,.inl ⟨rfl,rfl⟩,wa.cp,wa.pos⟩
  have k2:aV (λi=>i=mb) s s2:=sub1.keep.trans (u2.keep rfl);have z2:=z.addW hn hnN hw hbb wa2 (by rw[bM,lAp,<- lMY (f:=np)];rw[lAp]at hm2;exact hm2) k2;unfold yD;have ⟨v',hv',hlv⟩:=Sl.whole (hl.sub z2.hs);simp only[(hl.sub z2.hs).len,uh,hlen2,hv',ae];refine z2.setM (p:=(n,w,bb,some 64,.nilslc)) sI hlv ha hb hlen λs' H' mv B' z' aft k hH hH2=>?_;rw[HL]at z';have old2:∀{i},s2 i=none->s i=none:=fun {i} hi=>by
   cases q:s i with
   |none=>rfl
   | some y=>
     by_cases e:i=mb
     ·rw[e,hm2]at hi;cases hi
     ·rw[k2 i y q e]at hi;cases hi
  refine hK s' H' _ B' z' aft (λi e hi hn'=>?_) hH (λi hi=>(hH2 i hi).imp id old2) (λi hi=>?_) λm=>?_;refine k i e (k2 i e hi λq=>hn' (.inr (.inl q))) ?_;rintro (q|q|⟨p,hp,q⟩);exact hn' (.inl q);exact hn' (.inr (.inl q));rcases mP hp with hp|hp;exact hn' (.inr (.inr ⟨p,hp,q⟩))
  grind
  have ⟨p,hp,q⟩:=uw.1 hi;rcases mP hp with hp|hp;exact .inl ⟨p,hp,q⟩
  grind
  grind [Ai]
structure UpG(t Q:Hq)(f rb mb N:Nat)(L:List RLk)(U:List Bool)(x:Nat)(lv ov:AV)(R:List EnV)(Bf0:Nat->List Int)(k:Nat):Prop where
 ex:∃(ev:AV) (ws:List Wl) (Bf:Nat->List Int) (Mf:Nat->List Nat) (H:Hq),Tb t H f mb N x lv ev L ws Bf Mf/\H rb=none/\Hc t rb 282 (rchL ((ndL N (L.map toL) U x).take k))/\AccR 253 2 (offV ev t) t ev ((R.take k).map enR)/\
  (∀b o n c e,ev=.slc b o n c e->H b=none)/\Sub Q t/\(∀i,Q i≠none->H i=none/\¬own f mb ws i/\i≠rb/\∀b o n c e,ev=.slc b o n c e->i≠b)/\SlR 2 H ov (R.map enR)/\(∀y∈R,Sl H y.2.1 (iz y.2.2))/\
  (∀n∈(ndL N (L.map toL) U x).take k,n∈ws.map (·.1)/\WH.Aft (nz (lnk N (L.map toL) U x n)) (Bf0 n) (Bf n)/\Mf n=lnk N (L.map toL) U x n)/\∀n,n ∉ (ndL N (L.map toL) U x).take k->Bf n=Bf0 n
theorem HN{rb k n:Nat}{wv ov:AV}{R:List EnV}{Bf0:Nat->List Int}{J:Hq->Prop}(z:UpG t Q f rb mb N L U x lv ov R Bf0 k)(hN:N<=32)(hG:L.length<=64)(hk:(ndL N (L.map toL) U x)[k]?=some n)(hR:R[k]?=some (lbk n,wv,lnk N (L.map toL) U x n))
  (hK:∀t',UpG t' Q f rb mb N L U x lv ov R Bf0 (k+1)->J t') :
  newK 285 [(Iw 0),.nilslc] (λb_32 s_33=>
  oK (dP s_33 2 (Pp b_32) (.agg (enR (lbk n,wv,lnk N (L.map toL) U x n)))) λs_34=>
  oK (eX (Pp f)) λv_35=>
  oK (fu 4 v_35) λv_36=>
  oK (rd1 s_34 v_36) λv_37=>
  oK (rdN s_34 2 (Pp b_32)) λv_38=>
  oK (aM (repl 1 [(Iw 0),.nilslc]) [(0,2,(.agg v_38))]) λc_39=>aX c_39=true/\newK 253 c_39 (λb_40 s_41=>
  appK 253 2 v_37 (.slc b_40 0 1 (some 1) 2) (λv_42 s_43=>
  oK (eX (Pp f)) λv_44=>
  oK (fu 4 v_44) λv_45=>
  oK (wr1 s_43 v_45 v_42) λs_46=>
  oK (fu 0 (Pp b_32)) λv_47=>
  oK (rd1 s_46 v_47) λv_48=>
  wC TP 154 [v_48] (λv_49 s_50=>
  oK (bV v_49 0) λv_51=>
  oK (bV v_49 1) λv_52=>
  ao v_52
   (oK (fj 32 1 (Pp rb) v_51) λv_54=>
    oK (wr1 s_50 v_54 true) λs_55=>
    oK (fu 1 (Pp b_32)) λv_56=>
    oK (rd1 s_55 v_56) λv_57=>
    wC TP 155 [(Pp f),v_51,v_57] (λv_58 s_59=>J s_59) s_55)
   (J s_50)) s_46) s_41) s_34) t:=by
 have ⟨ev,ws,Bf,Mf,H,tb,hHr,hr,acc,hHe,hQ,hQn,hov,hrow,hsem,hsem2⟩:=z.ex;have hnl:=mG hk;have hn:=(jH.1 hnl).1;have hwH:=hrow _ (mG hR);have hone:=hwH.one;have hf:=tb.cf;have allone:aX (enR (lbk n,wv,lnk N (L.map toL) U x n))=true:=by show((AV.int .u32 (lbk n)).one&&(wv.one&&true))=true;rw[hone];rfl
 refine aI λb32 t1 hb32 h1 u1=>cD h1 rfl rfl allone λt2 h2 u2=>?_;have st2:=dp (u1.sub hb32) u2 hb32;have f4:(fibC (N:Int) (x:Int) lv ev mb)[4]?=some ev:=rfl;have f2:=st2 _ _ hf;simp only[bQ,aK,zAY,au f2,f4,bX h2 (show(enR (lbk n,wv,lnk N (L.map toL) U x n)).length=2 from rfl),ae];refine aE (R3 (zs:=[(Iw 0),.nilslc]) (c:=enR (lbk n,wv,lnk N (L.map toL) U x n)) rfl) ⟨allone,?_⟩;refine aI λb40 t3 hb40 h40 u40=>?_;have st3:=u40.sub hb40;have st03:=st2.trans st3;have acc3:=AccR.offvB (acc.sub st03);have cne:∀{i e},t i=some e->(∀cs,e≠(false,.cells 253 cs))->∀b o n c k,ev=.slc b o n c k->i≠b:=fun {i e} hi he b o n c k q q2=>by
  rcases acc.2 with⟨r,_⟩|⟨j,_,r2,r3⟩
  ·rw[r]at q;cases q
  grind
 have cnone:∀{i},t i=none->∀b o n c k,ev=.slc b o n c k->i≠b:=fun {i} hi b o n c k q q2=>by
  rcases acc.2 with⟨r,_⟩|⟨j,_,r2,r3⟩
  ·rw[r]at q;cases q
  grind
 have cH:∀{i e},H i=some e->∀b o n c k,ev=.slc b o n c k->i≠b:=gR;have cown:∀{i},own f mb ws i->∀b o n c k,ev=.slc b o n c k->i≠b:=fun {i} hi=>by
  rcases hi with rfl|rfl|hi
  ·exact cne tb.cf (λcs q=>by cases q)
  ·exact cne tb.cm (λcs q=>by cases q)
  ·rcases tb.wc hi with⟨cs,q⟩|⟨cs,q⟩
   ·exact cne q (λcs q=>by cases q)
   ·exact cne q (λcs q=>by cases q)
 have h32:offV ev t3 b32=some (false,.cells 285 (enR (lbk n,wv,lnk N (L.map toL) U x n))):=by rw[gV (cnone hb32)];exact st3 _ _ h2
 have hkl:R.take k ++ [(lbk n,wv,lnk N (L.map toL) U x n)]=R.take (k+1):=by rw[take_add_one,hR];rfl
 have hndl:(ndL N (L.map toL) U x).take k ++ [n]=(ndL N (L.map toL) U x).take (k+1):=by rw[take_add_one,hk];rfl
 have hkn:=(gS hk).1;have hNl:=ul (N:=N) (G:=L.map toL) (U:=U) (x:=x);refine acc3.app (SlR.mk (rows:=[enR (lbk n,wv,lnk N (L.map toL) U x n)]) (by intro r hr;rw[bN]at hr;subst hr;rfl) (by simpa using h40) rfl sI) sI (by rw[lMY,length_take];simp only[length_singleton];omega) lB λv' t4 a4 k4=>?_;have t4of:∀{i e},t i=some e->(∀b o n c k,ev=.slc b o n c k->i≠b)->t4 i=some e:=fun {i e} hi hne=>k4 _ _ (by rw[gV hne];exact st03 _ _ hi);have z4:=tb.keep (fp:=λi=>∃o n c k,ev=.slc i o n c k) (λi e hi hn=>t4of hi λb o n c k q q2=>hn ⟨o,n,c,k,by rw[q2];exact q⟩) (λi hi ⟨o,n,c,k,q⟩=>cown hi _ _ _ _ _ q rfl) λi e hi=>t4of (tb.hs _ _ hi) (cH hi);have r4:=t4of hr (cne hr λcs q=>by cases q);have n1:rb≠f:=λe=>gR;have h32':=k4 _ _ h32;have n4:b32≠f:=λe=>gR;have n5:b32≠rb:=λe=>gR
 try simp only[bQ,aK,zAY,ae]
 refine cw z4.cf (show 4<(fibC (N:Int) (x:Int) lv ev mb).length from by show 4<6;omega) a4.sl.one λt5 h5 u5=>?_;have z5:=z4.setE u5 h5;have b5:Hc t5 b32 285 (enR (lbk n,wv,lnk N (L.map toL) U x n)):=by rw[u5 _ n4];exact h32'
 have e0:(enR (lbk n,wv,lnk N (L.map toL) U x n))[0]?=some (Iw (lbk n)):=rfl;have e1:(enR (lbk n,wv,lnk N (L.map toL) U x n))[1]?=some wv:=rfl;simp only[au b5,e0,ae];refine uc oM ?_;have x0:bV (.tup [n,true]) 0=some (Ii n):=rfl;have x1:bV (.tup [n,true]) 1=some true:=rfl;simp only[x0,x1,Sh (show n<32 by omega),ae];have r5:Hc t5 rb 282 (rchL ((ndL N (L.map toL) U x).take k)):=by rw[u5 _ n1];exact r4
 refine cw r5 (by rw[Se];omega) rfl λt6 h6 u6=>?_;rw[Hv oM,hndl]at h6;have b6:Hc t6 b32 285 (enR (lbk n,wv,lnk N (L.map toL) U x n)):=by rw[u6 _ n5];exact b5
 simp only[au b6,e1,ae];have ownr:∀{i},own f mb ws i->i≠rb:=fun {i} hi q=>by
  subst q;rcases hi with hi|hi|hi;exact n1 hi;have:=z5.cm;grind
  ·rcases z5.wc hi with⟨cs,q⟩|⟨cs,q⟩<;>(rw[r5]at q;cases q)
 have z6:=z5.keep (fp:=λi=>i=rb) (u6.keep rfl) (λi hi=>ownr hi) λi e hi=>by rw[u6 i (λq=>gR)];exact z5.hs _ _ hi
 refine HM z6 hn hwH Hu (λi hi=>by have:=um hi;rw[lMY]at this;omega) (Nat.le_trans uo (by rw[lMY];exact hG)) λt7 H7 ws7 B7 z7 aft7 k7 hH7 hH7n hw7 hnd7=>?_;have cb:∃c,v'=.slc c 0 ((R.take k).map enR ++ [enR (lbk n,wv,lnk N (L.map toL) U x n)]).length none 2/\offV ev t3 c=none/\Hc t4 c 253 ((R.take k).map enR ++ [enR (lbk n,wv,lnk N (L.map toL) U x n)]).flatten:=by rcases a4.2 with⟨_,q⟩|⟨c,q1,q2,q3⟩;simp at q;exact⟨c,q2,q1,q3⟩
 have ⟨c,hv',hc0,hc4⟩:=cb;have hcf:c≠f:=λe=>by rw[e,z4.cf]at hc4;cases hc4
 have hcr:c≠rb:=λe=>gR;have c6:Hc t6 c 253 ((R.take k).map enR ++ [enR (lbk n,wv,lnk N (L.map toL) U x n)]).flatten:=by rw[u6 _ hcr,u5 _ hcf];exact hc4
 have nown:¬own f mb ws c:=by
  rintro (q|q|q);exact hcf q;have:=z6.cm;grind
  ·rcases z6.wc q with⟨cs,q⟩|⟨cs,q⟩<;>(rw[c6]at q;cases q)
 have c7:=k7 _ _ c6 nown;have hcH:H c=none:=by
  rcases q:H c with _|e;rfl;have:offV ev t3 c=some e:=by rw[gV (cH q)];exact st03 _ _ (tb.hs _ _ q)
  grind
 have off7:∀{i},H i=none->t6 i≠none->H7 i=none:=fun {i} h1 h2=>by rcases q:H7 i with _|e;rfl;rcases hH7n i (by rw[q];simp)with h|h;exact absurd h1 h;exact absurd h h2
 have r7:=k7 _ _ h6 (λq=>ownr q rfl);have Q6:Sub Q t6:=λi e hi=>by have ⟨q1,q2,q3,q4⟩:=hQn i (by rw[hi];simp);rw[u6 _ q3,u5 _ (λe=>q2 (.inl e))];exact t4of (hQ _ _ hi) q4
 have htk:∀m,m∈(ndL N (L.map toL) U x).take (k+1)↔m∈(ndL N (L.map toL) U x).take k∨m=n:=λm=>by rw[<- hndl];simp
 have hnt:n ∉ (ndL N (L.map toL) U x).take k:=by
  intro q;have:=uk (N:=N) (G:=L.map toL) (U:=U) (x:=x);have ⟨j,hj⟩:=fV.1 q;rw[getElem?_take]at hj;split at hj;rename_i hjk;have ⟨a1,a2⟩:=gS hj;have ⟨c1,c2⟩:=gS hk;have:=cE.1 this j k a1 c1 hjk;omega
  ·cases hj
 refine hK t7 ⟨v',ws7,updF Bf n B7,updF Mf n (lnk N (L.map toL) U x n),H7,z7,off7 hHr (by rw[h6];simp),r7,⟨?_,.inr ⟨c,?_,?_,?_⟩⟩,?_,?_,?_,hov.sub hH7,λy hy=>(hrow y hy).sub hH7,?_,?_⟩;intro r hr;obtain⟨y,_,rfl⟩:=aG.1 hr;rfl;rw[hv'];simp[offV,hdel];rw[hv',<- hkl,bM];rfl;rw[<- hkl,bM];exact c7;intro b o n c e q
 grind
 intro i e hi;have ⟨q1,q2,q3,q4⟩:=hQn i (by rw[hi];simp);exact k7 _ _ (Q6 _ _ hi) q2
 ·intro i hi
  have ⟨q1,q2,q3,q4⟩:=hQn i hi;have hi6:t6 i≠none:=by rcases q:Q i with _|e;exact absurd q hi;rw[Q6 _ _ q];simp
  refine⟨off7 q1 hi6,?_,q3,λb o n c' e q q5=>?_⟩;rintro (q|q|q);exact q2 (.inl q);exact q2 (.inr (.inl q));rcases hw7 i q with q|q;exact q2 (.inr (.inr q));exact hi6 q
  ·rw[hv']at q
   have hq:∃e,Q i=some e:=by rcases q:Q i with _|e;exact absurd q hi;exact⟨e,rfl⟩
   have ⟨e,he⟩:=hq;have:offV ev t3 i=some e:=by rw[gV q4];exact st03 _ _ (hQ _ _ he)
   grind
 intro m hm;rcases(htk m).1 hm with h|h;have ⟨a,b,c⟩:=hsem m h;have hne:m≠n:=λe=>hnt (e ▸ h);refine⟨(hnd7 m).2 (.inl a),?_,?_⟩;rw[show updF Bf n B7 m=Bf m from aj hne];exact b;rw[show updF Mf n (lnk N (L.map toL) U x n) m=Mf m from aj hne];exact c;subst h;refine⟨(hnd7 m).2 (.inr rfl),?_,ak rfl⟩;rw[show updF Bf m B7 m=B7 from ak rfl,<- hsem2 m hnt];exact aft7;intro m hm;have hm2:=λq=>hm ((htk m).2 q);rw[show updF Bf n B7 m=Bf m from aj λe=>hm2 (.inr e)];exact hsem2 m λq=>hm2 (.inl q)
def WhT(s:Hq)(w:Nat)(l:List Nat)(B:List Int):Prop:=∃t1 t2 bb mv cap,s w=some (t1,.cells 289 [.slc bb 0 B.length cap 1,mv])/\s bb=some (t2,.cells 3 (WH.ints B))/\(∀c,cap=some c->B.length<=c)/\B.length=64/\WH.Sli s mv (l.map λ(n:Nat)=>(n:Int))/\∀b∈B,b-1∈nz l
theorem WhT.sub{w:Nat}{l:List Nat}{B:List Int}(h:WhT s w l B)(k:Sub s s'):WhT s' w l B:=by have ⟨t1,t2,bb,mv,cap,h1,h2,h3,h4,h5,h6⟩:=h;exact⟨t1,t2,bb,mv,cap,k _ _ h1,k _ _ h2,h3,h4,h5.sub k,h6⟩
structure FibT(s:Hq)(f N:Nat)(G:List Lnk)(U:List Bool)(x:Nat)(Bf:Nat->List Int):Prop where
 ex:∃(tf:Bool) (lv ev:AV) (mb:Nat) (R:List EnV) (tm:Bool) (c:Nat) (ws:List (Nat×Nat)),s f=some (tf,.cells 245 (fibC (N:Int) (x:Int) lv ev mb))/\SlR 2 s ev (R.map enR)/\R.map kyE=ofP N G U x N/\(∀y∈R,Sl s y.2.1 (iz y.2.2))/\
  s mb=some (tm,.map (mE 0 ws) c)/\(∀n∈ndL N G U x,n∈ws.map (·.1))/\∀p∈ws,p.1∈ndL N G U x->WhT s p.2 (lnk N G U x p.1) (Bf p.1)
theorem FibT.sub{f x:Nat}(h:FibT s f N G U x Bf)(k:Sub s s'):FibT s' f N G U x Bf:=by have ⟨tf,lv,ev,mb,R,tm,c,ws,h1,h2,h3,h4,h5,h6,h7⟩:=h.ex;exact⟨tf,lv,ev,mb,R,tm,c,ws,k _ _ h1,h2.sub k,h3,λy hy=>(h4 y hy).sub k,k _ _ h5,h6,λp hp q=>(h7 p hp q).sub k⟩
theorem HO{f x:Nat}{q:Int}(h:FibT s f N G U x Bf)(hN:N<=32)
  (hK:∀s' (a:Int) (wv:AV) (b:Bool),Sub s s'->(b=true->∃n∈ndL N G U x,q=lbk n/\Sl s wv (iz (lnk N G U x n)))->(b=false->wv=.nilslc/\∀n∈ndL N G U x,q≠lbk n)->wv.one=true->K (.tup [.agg [Iw a,wv],b]) s'):wC TP 271 [Pp f,Iw q] K s:=by
 have ⟨tf,lv,ev,mb,R,tm,c,ws,h1,h2,h3,h4,h5,h6,h7⟩:=h.ex;have hRl:R.length<=32:=by have:=aJ List.length h3;rw[lMY]at this;have:=tX (N:=N) (G:=G) (U:=U) (x:=x) (k:=N);omega
 refine YN (aI λb0 s1 hb0 hb1 u1=>?_);have sub1:=u1.sub hb0;have f1:=sub1 _ _ h1;have c4:(fibC (N:Int) (x:Int) lv ev mb)[4]?=some ev:=rfl;simp only[bQ,aK,zAY,au f1,c4,ae];refine Hy (h2.sub sub1) (FibR.ord h3).1 oM (λy hy=>(h4 y hy).one) λs2 i b sub2 hyes hno=>?_;have b2:=sub2 _ _ hb1;have x0:bV (.tup [i,b]) 0=some (Ii i):=rfl;have x1:bV (.tup [i,b]) 1=some (.bool b):=rfl;simp only[x0,x1,cQ,ae];cases b with
 | false=>
   simp only[Bool.not_false,bD];refine aE (a:=[Iw 0,.nilslc]) rfl (cD b2 rfl rfl rfl λs3 h3' u3=>?_);refine aE (bX h3' rfl) ?_;refine hK s3 0 .nilslc false (dp (sub1.trans sub2) u3 hb0) (λh=>by cases h) (λ_=>⟨rfl,λn hn e=>?_⟩) rfl;have ⟨y,hy,e2⟩:=FibR.has h3 hn;exact hno rfl y hy (by rw[e2,e])
 | true=>
   have ⟨y,hy,eq⟩:=hyes rfl;have ⟨n,hn,e1,e2⟩:=FibR.row h3 (mG hy);have f2:=sub2 _ _ f1;have hone:=(h4 y (mG hy)).one;simp only[Bool.not_true,aR,au f2,c4,ae];have ⟨pb,po,g1,g2,_⟩:=((h2.sub sub1).sub sub2).get (i:=i) (r:=enR y) gR;simp only[g1,g2,ae];refine cD b2 rfl rfl ?_ λs3 h3' u3=>?_
   ·show((AV.int .u32 y.1).one&&(y.2.1.one&&true))=true
    rw[hone];rfl
   refine aE (bX h3' rfl) ?_;exact hK s3 y.1 y.2.1 true (dp (sub1.trans sub2) u3 hb0) (λ_=>gR) (λh=>by cases h) hone
theorem HP{w:Nat}{l:List Nat}{n:Nat}{h:Int}(z:WhT s w l (Bf n))(hl:l≠[])(hl2:∀i∈l,i<1000)(hl3:l.length<=1000)(hh:0<=h)(hK:K (.tup [(hopI Bf n h:Int),true]) s):wC TP 272 [Pp w,Iq h] K s:=by
 have ⟨t1,t2,bb,mv,cap,k1,k2,k3,k4,k5,k6⟩:=z;refine Yd (WH.G6 k1 oM ?_);have lM:cM mv=some l.length:=by rw[Sl.len k5,lMY,lMY]
 have hne:(((l.length:Nat):Int) == 0)=false:=(by simp_all)
 obtain⟨i,hi,e1,e2⟩:∃i:Nat,i<(Bf n).length/\h.tmod 64=i/\(h % 64).toNat=i:=gR;have hb:=k6 _ (aN hi);have ⟨j,hj,hj2⟩:=aG.1 hb;have ew:((Bf n).length:Int) % 18446744073709551616=64:=by rw[k4];rfl
 have er:=WH.G5 hi;unfold hopI at hK;have ad:cF 1 (.slc bb 0 (Bf n).length cap 1) (Iq i)=some (.ptr bb i):=ut hi;simp only[cQ,Bool.not_true,ae,aR,bQ,aK,au k1,zAY,g0Y,g1Y,lM,cj,hne,bJ,Bool.false_bne,EF,ct,ge,nU,wu64,ew,na (k:=.u64) (x:=h) (y:=64) oM,e1,ad,au k2,er,eC]
 grind [aT]
theorem HQ{f x:Nat}{a q e vn:Int}{cs:List AV}(h:FibT s f N G U x Bf)(hN:N<=32)(hG:G.length<=128)(hp:Pk a q e vn cs)(hq:0<=q/\q<4294967296)
  (hyes:∀m∈ndL N G U x,q=lbk m->∀s',Sub s s'->K (.tup [(hopI Bf m (fnv 14695981039346656037 (jI a q e vn)):Int),true]) s')
  (hno:(∀m∈ndL N G U x,q≠lbk m)->∀s',Sub s s'->K (.tup [Ii 0,false]) s'):wC TP 270 [Pp f,.agg cs] K s:=by
 have ⟨p1,p2,p3,p4,p5,p6⟩:=id hp;refine Y2 ⟨p2,aI λb s1 hb h1 u1=>?_⟩;have sub1:=u1.sub hb;have h1:Hc s1 b 64 cs:=h1;simp only[aK,zAY,au h1,p4,ae]
 by_cases hex:∃m:Nat,m<32/\q=lbk m
 rotate_left
 ·grind [Hj,bV,cQ,bD,cP,jH]
 obtain⟨m,hm,rfl⟩:=hex;refine uc hm ?_;have x0:bV (.tup [m,true]) 0=some m:=rfl;have x1:bV (.tup [m,true]) 1=some true:=rfl;simp only[x0,x1,au h1,p4,ae];refine HO (h.sub sub1) hN λs2 ra rv0 bb sub2 fy fn _=>?_;have y0:bV (.tup [.agg [Iw ra,rv0],bb]) 0=some (.agg [Iw ra,rv0]):=rfl;have y1:bV (.tup [.agg [Iw ra,rv0],bb]) 1=some bb:=rfl;have s02:=sub1.trans sub2;cases bb with
 | false=>
   simp_all
 | true=>
   have ⟨n,hn,e1,_⟩:=fy rfl;have hmn:=Hz e1;subst hmn;have h2:=h.sub s02;have ⟨tf,lv,ev,mb,R,tm,c,ws,k1,_,_,_,k5,k6,k7⟩:=h2.ex;have ⟨w,w1,w2⟩:=Sd (l:=ws) (n:=m) (k6 m hn);have c5:(fibC (N:Int) (x:Int) lv ev mb)[5]?=some (.map mb):=rfl;have hg:=mget (n:=m) k5;rw[w1]at hg;have b2:=sub2 _ _ h1;simp only[bQ,aK,zAY,ae];refine⟨s2,.refl s2,?_⟩;simp only[au k1,c5,hg,ae];refine aE (bX b2 p1) ?_;refine HE hp λs3 sub3=>?_;have sub4:Sub s2 (add s2 s3):=iD;refine HP (n:=m) ((k7 _ w2 hn).sub sub4) (jH.1 hn).2 (λi hi=>by have:=um hi;omega) (Nat.le_trans uo oM) (ur oM) ?_;have z0:∀q:Int,bV (.tup [q,true]) 0=some q:=λ_=>rfl;have z1:∀q:Int,bV (.tup [q,true]) 1=some true:=λ_=>rfl
   grind [cP,Sub.trans]
inductive FwdT (N:Nat) (G:List Lnk) (U:List Bool) (x:Nat) (q ttl:Int) (Bf:Nat->List Int) (h:Int) (cs:List AV):AV->Prop where
 |at_:q=lbk x->FwdT N G U x q ttl Bf h cs (.tup [Ii 0,.agg zP,Ii 9])
 |time:q≠lbk x->ttl<2->FwdT N G U x q ttl Bf h cs (.tup [Ii 0,.agg zP,Ii 20])
 |down:q≠lbk x->2<=ttl->(∀m∈ndL N G U x,q≠lbk m)->FwdT N G U x q ttl Bf h cs (.tup [Ii 0,.agg zP,Ii 13])
 |go (m:Nat):q≠lbk x->2<=ttl->m∈ndL N G U x->q=lbk m->FwdT N G U x q ttl Bf h cs (.tup [(hopI Bf m h:Int),.agg (cs.set 2 (ttl-1:Int)),Ii 0])
theorem qXs{f x:Nat}{a dq e vn ttl:Int}{cs:List AV}(h:FibT s f N G U x Bf)(hN:N<=32)(hN0:1<=N)(hG:G.length<=128)(hp:Pk a dq e vn cs)(hc:cs[2]?=some (Ii ttl))(ht:-9223372036854775808<=ttl/\ttl<=9223372036854775807)(hdq:0<=dq/\dq<4294967296)
  (hK:∀s' r,Sub s s'->FwdT N G U x dq ttl Bf (fnv 14695981039346656037 (jI a dq e vn)) cs r->K r s'):wC TP 265 [Pp f,.agg cs] K s:=by
 have ⟨p1,p2,p3,p4,p5,p6⟩:=id hp;refine YU (fG rfl λb0 s1 hb0 h1 u1=>⟨p2,aI λb2 s2 hb2 h2 u2=>aI λb4 s3 hb4 h3 u3=>?_⟩);have sub1:=u1.sub hb0;have sub2:=u2.sub hb2;have sub3:=u3.sub hb4;have h1':=sub3 _ _ (sub2 _ _ h1);have h2':=sub3 _ _ h2;have s03:=(sub1.trans sub2).trans sub3;have hf3:=h.sub s03;obtain⟨tf,lv,ev,mb,R,tm,c,ws,k1,_⟩:=hf3.ex;have ca:(fibC (N:Int) (x:Int) lv ev mb)[2]?=some (Iw (lbk x)):=rfl;simp only[au h1',g0Y,ae];refine fk k1 oM ?_;refine aI λb13 s4 hb13 h4 u4=>cw h4 sI rfl λs5 h5 u5=>?_;have sub5:=dp (u4.sub hb13) u5 hb13;refine aE (a:=[.fn (.func 266) [] [Pp b2,Pp b0],.fn (.func 268) [] [Pp b2],.fn (.func 269) [] [Pp b0,Pp b2,Pp b13]]) rfl ⟨rfl,aI λb17 s6 hb17 h6 u6=>?_⟩;have sub6:=u6.sub hb17;have e3:cM (.slc b17 0 3 (some 3) 1)=some 3:=rfl;have hr:∃r:Hq,r=hdel s6 b13:=⟨_,rfl⟩
 have ⟨r,hr⟩:=hr;have rin:∀{i e},s3 i=some e->r i=some e:=fun {i e} hi=>by rw[hr];have ne:i≠b13:=λq=>gR;rw[dL ne];exact sub6 _ _ (sub5 _ _ hi)
 have ne17:b17≠b13:=λq=>gR;have r17:Hc r b17 290 [.fn (.func 266) [] [Pp b2,Pp b0],.fn (.func 268) [] [Pp b2],.fn (.func 269) [] [Pp b0,Pp b2,Pp b13]]:=by
  simp_all [dL]
 have rs6:Sub r s6:=λi e hi=>by
  rw[hr]at hi;have hi:(if i=b13 then none else s6 i)=some e:=hi
  grind
 have s3r:Sub s3 r:=λi e hi=>rin hi;have r13:r b13=none:=by rw[hr];simp[hdel]
 refine⟨λys t mm=>∃(i:Nat) (q:Int),ys=[Ii i]/\i<=3/\mm=3-i/\Sub r t/\Hc t b13 3 [q]/\(1<=i->dq≠lbk x)/\(2<=i->2<=ttl)/\(3<=i->∃m∈ndL N G U x,dq=lbk m/\q=hopI Bf m (fnv 14695981039346656037 (jI a dq e vn))),⟨_,0,0,rfl,oM,rfl,rs6,sub6 _ _ h5,λh=>oM,λh=>oM,λh=>oM⟩,?_⟩;rintro g t mm ⟨i,q,hy,hi,rfl,rt,t13,i1,i2,i3⟩;simp only[cI,aq]at hy;rw[hy];have t0:=rt _ _ (s3r _ _ h1');have t2:=rt _ _ (s3r _ _ h2');have t2:Hc t b2 64 cs:=t2;have t4:=rt _ _ (s3r _ _ h3);have t17:=rt _ _ r17;have tF:=rt _ _ (s3r _ _ k1);have hft:=hf3.sub (s3r.trans rt);have e0:aM zP []=some zP:=rfl;have st:=s03.trans (s3r.trans rt);have stop:∀(t':Hq) (er:Int),Sub r t'->(er == 0)=false->(∀s',Sub s s'->K (.tup [Ii 0,.agg zP,er]) s')->
   oK (negB true (eqV 0 true er (Ii 0))) (λv_26=>ao v_26 (oK (aM [(Iw 0),(Iw 0),(Ii 0),(Ii 0),(Iw 0),(Iw 0),(Iq 0),(Iq 0),(Ii 0),(Ii 0),(Iq 0),(Iw 0),(Iq 0),(Iw 0),(Iw 0),(Iw 0),(Ii 0),(Ii 0),(Ii 0),(Ii 0),(Iq 0)] []) λc_27=>
   oK (dP t' 21 (Pp b4) (.agg c_27)) λs_28=>
   oK (rdN s_28 21 (Pp b4)) λt5_29=>
   K (.tup [(Ii 0),(.agg t5_29),er]) s_28) (oK (cZ .add i (Ii 1)) λv_30=>
   ∃m',m'<3-i/\∃(i:Nat) (q:Int),[v_30]=[Ii i]/\i<=3/\m'=3-i/\Sub r t'/\Hc t' b13 3 [q]/\(1<=i->dq≠lbk x)/\(2<=i->2<=ttl)/\(3<=i->∃m∈ndL N G U x,dq=lbk m/\q=hopI Bf m (fnv 14695981039346656037 (jI a dq e vn))))):=λt' er rt' her hk=>by
  have t4':=rt' _ _ (s3r _ _ h3);simp only[cj,her,bJ,Bool.true_bne,Bool.not_false,bD,ae];refine aE e0 (cD t4' rfl rfl rfl λt5 h5' u5'=>aE (bX h5' rfl) (hk _ ?_));have hb4s:=eM (sub1.trans sub2) hb4;exact dp (s03.trans (s3r.trans rt')) u5' hb4s
 have goOn:∀(t':Hq) (q':Int),Sub r t'->Hc t' b13 3 [q']->i<3->(1<=i+1->dq≠lbk x)->(2<=i+1->2<=ttl)->(3<=i+1->∃m∈ndL N G U x,dq=lbk m/\q'=hopI Bf m (fnv 14695981039346656037 (jI a dq e vn)))->
   oK (negB true (eqV 0 true (Ii 0) (Ii 0))) (λv_26=>ao v_26 (oK (aM [(Iw 0),(Iw 0),(Ii 0),(Ii 0),(Iw 0),(Iw 0),(Iq 0),(Iq 0),(Ii 0),(Ii 0),(Iq 0),(Iw 0),(Iq 0),(Iw 0),(Iw 0),(Iw 0),(Ii 0),(Ii 0),(Ii 0),(Ii 0),(Iq 0)] []) λc_27=>
   oK (dP t' 21 (Pp b4) (.agg c_27)) λs_28=>
   oK (rdN s_28 21 (Pp b4)) λt5_29=>
   K (.tup [(Ii 0),(.agg t5_29),(Ii 0)]) s_28) (oK (cZ .add i (Ii 1)) λv_30=>
   ∃m',m'<3-i/\∃(i:Nat) (q:Int),[v_30]=[Ii i]/\i<=3/\m'=3-i/\Sub r t'/\Hc t' b13 3 [q]/\(1<=i->dq≠lbk x)/\(2<=i->2<=ttl)/\(3<=i->∃m∈ndL N G U x,dq=lbk m/\q=hopI Bf m (fnv 14695981039346656037 (jI a dq e vn))))):=λt' q' a1 a2 a0 a3 a4 a5=>by
  have c:negB true (eqV 0 true (Ii 0) (Ii 0))=some false:=rfl;simp only[c,bg,ae];rw[aT];exact⟨3-(i+1),oM,i+1,q',rfl,oM,rfl,a1,a2,a3,a4,a5⟩
 simp only[QC,bu,ae,aS];refine aL (λhlt=>?_) (λhge=>?_)
 ·have hlt:i<3:=gR
  have ad:cF 1 (.slc b17 0 3 (some 3) 1) i=some (.ptr b17 i):=ut hlt
  match i,hlt with
  | 0,_=>
    have q0:rd1 t (Pp b17)=some (.fn (.func 266) [] [Pp b2,Pp b0]):=by rw[au t17];rfl
    simp only[ad,q0,ae];refine gQ (k:=266) (first:=[]) (cap:=[Pp b2,Pp b0]) kR ?_;refine YV ?_;simp only[QD,aK,zAY,au t2,p4,au t0,g0Y,bQ,au tF,ca,cj,bJ,Bool.true_bne,ae];refine Ah ?_
    by_cases c:dq=lbk x
    ·have c2:(dq == lbk x)=true:=by rw[c];simp
     simp only[c2,Bool.not_true,Bool.false_eq_true,if_false];exact stop t 9 rt rfl λs' hs=>hK s' _ hs (.at_ c)
    ·have c2:=beq_eq_false_iff_ne.2 c
     simp only[c2,Bool.not_false,if_true];exact goOn t q rt t13 oM (λ_=>c) (λh=>oM) λh=>oM
  | 1,_=>
    have q0:rd1 t (.ptr b17 1)=some (.fn (.func 268) [] [Pp b2]):=by rw[au t17];rfl
    simp only[ad,q0,ae];refine gQ (k:=268) (first:=[]) (cap:=[Pp b2]) kR ?_;refine YW ?_;simp only[QE,aK,zAY,au t2,hc,dQ,ae];refine Ah ?_
    by_cases c:2<=ttl
    ·rw[aH c]
     exact goOn t q rt t13 oM (λ_=>i1 oM) (λ_=>c) λh=>oM
    ·rw[aC c]
     exact stop t 20 rt rfl λs' hs=>hK s' _ hs (.time (i1 oM) oM)
  | 2,_=>
    have q0:rd1 t (.ptr b17 2)=some (.fn (.func 269) [] [Pp b0,Pp b2,Pp b13]):=by rw[au t17];rfl
    simp only[ad,q0,ae];refine gQ (k:=269) (first:=[]) (cap:=[Pp b0,Pp b2,Pp b13]) kR ?_;refine YX ?_;simp only[QG,au t0,g0Y,ae];refine aE (bX t2 p1) (HQ hft hN hG hp hdq (λm hmm hq t' st'=>?_) λhq t' st'=>?_)
    ·have z0:∀q:Int,bV (.tup [q,true]) 0=some q:=λ_=>rfl
     have z1:∀q:Int,bV (.tup [q,true]) 1=some true:=λ_=>rfl;refine cw (st' _ _ t13) sI rfl λt7 h7 u7=>Ah ?_;have rt7:=dp (rt.trans st') u7 r13;exact goOn t7 _ rt7 h7 oM (λ_=>i1 oM) (λ_=>i2 oM) λ_=>⟨m,hmm,hq,rfl⟩
    ·have z0:bV (.tup [Ii 0,false]) 0=some (Ii 0):=rfl
     have z1:bV (.tup [Ii 0,false]) 1=some false:=rfl;refine cw (st' _ _ t13) sI rfl λt7 h7 u7=>Ah ?_;have rt7:=dp (rt.trans st') u7 r13;exact stop t7 13 rt7 rfl λs' hs=>hK s' _ hs (.down (i1 oM) (i2 oM) hq)
 ·have hge:i=3:=gR
  obtain⟨m,hmm,hq,rfl⟩:=i3 oM;simp only[aK,zAY,au t2,hc,eC,ae];have h2t:=i2 oM;rw[aT];refine cw t2 (by rw[p1];omega) rfl λt5 h5 u5=>?_;have n1:b13≠b2:=λq=>gR;have n2:b4≠b2:=λq=>gR;have t13':Hc t5 b13 3 [(hopI Bf m (fnv 14695981039346656037 (jI a dq e vn)):Int)]:=by rw[u5 _ n1];exact t13
  have t4':Hc t5 b4 64 zP:=by rw[u5 _ n2];exact t4
  simp only[au t13',g0Y,ae];have ls:(cs.set 2 (ttl-1:Int)).length=21:=gR;refine aE (bX h5 ls) (cD t4' (by rw[ls];rfl) rfl ?_ λt6 h6 u6=>aE (bX h6 ls) ?_)
  ·exact HF rfl p2
  refine hK t6 _ ?_ (.go m (i1 oM) h2t hmm hq);have hb2s:=eM sub1 hb2;have hb4s:=eM (sub1.trans sub2) hb4;exact dp (dp st u5 hb2s) u6 hb4s
variable{r r':Hq}{uv:AV}{U':List Bool}{Bf':Nat→List Int}{Mf':Nat→List Nat}
structure Good(l B:List Int):Prop where
 nil:l=[]->B=Zs
 elt:l≠[]->∀b∈B,b-1∈l
 bal:∀a∈l,∀c∈l,WH.ld B a<=WH.ld B c+1
theorem HR{B:List Int}(h:B.length=64):WH.clr [] B=Zs:=by unfold WH.clr Zs;simp only[not_mem_nil,if_false];rw[map_const',h]
theorem HS{l B B':List Int}(h:WH.Aft l B B')(hl:B.length=64):Good l B':=⟨λe=>by rw[h.none e,HR hl],h.elt,h.bal⟩
structure Tab(r:Hq)(f N x:Nat)(L:List RLk)(U:List Bool)(Bf:Nat->List Int):Prop where
 ex:∃(H:Hq) (mb:Nat) (lv ev:AV) (R:List EnV) (ws:List Wl) (Mf:Nat->List Nat),Tb r H f mb N x lv ev L ws Bf Mf/\SlR 2 H ev (R.map enR)/\R.map kyE=ofP N (L.map toL) U x N/\(∀y∈R,Sl H y.2.1 (iz y.2.2))/\(∀n∈ndL N (L.map toL) U x,n∈ws.map (·.1))/\∀p∈ws,Mf p.1=lnk N (L.map toL) U x p.1
 el:∀n,n<N->Good (nz (lnk N (L.map toL) U x n)) (Bf n)
theorem Tab.sub(z:Tab r f N x L U Bf)(k:Sub r s):Tab s f N x L U Bf:=by have ⟨H,mb,lv,ev,R,ws,Mf,h1,h⟩:=z.ex;exact⟨⟨H,mb,lv,ev,R,ws,Mf,h1.sub k,h⟩,z.el⟩
theorem Tab.len(z:Tab r f N x L U Bf)(n:Nat):(Bf n).length=64:=by have ⟨H,mb,lv,ev,R,ws,Mf,h1,h⟩:=z.ex;exact h1.wl.ln n
theorem Tab.rd(z:Tab r f N x L U Bf):FibT r f N (L.map toL) U x Bf:=by have ⟨H,mb,lv,ev,R,ws,Mf,h1,h2,h3,h4,h5,h6⟩:=z.ex;refine⟨false,lv,ev,mb,R,false,ws.length,ws.map np,h1.cf,h2.sub h1.hs,h3,λy hy=>(h4 y hy).sub h1.hs,h1.cm,(by grind [nV]),λp hp hn=>?_⟩;obtain⟨q,hq,rfl⟩:=aG.1 hp;have hn:q.1∈ndL N (L.map toL) U x:=hn;have ⟨a,b,c,e⟩:=h1.wl.at_ q hq;have l:=h1.wl.ln q.1;have ⟨n1,n2⟩:=jH.1 hn;refine⟨false,false,q.2.2.1,q.2.2.2.2,q.2.2.2.1,?_,b,?_,l,?_,(z.el q.1 n1).elt (by unfold nz;simpa using n2)⟩;show Hc r q.2.1 289 [.slc q.2.2.1 0 (Bf q.1).length q.2.2.2.1 1,q.2.2.2.2];rw[l];exact a;intro c' hc';show(Bf q.1).length<=c';rw[l];exact c c' hc';have:=e.sub h1.hs;rw[h6 q hq,ui]at this;exact this
structure Goes(r s r' s':Hq):Prop where
 sub:Sub r' s'
 out:∀i,r i=none->s i≠none->s' i=s i/\r' i=none
theorem Goes.trans{r2 s2:Hq}(h:Goes r s r' s')(k:Goes r' s' r2 s2):Goes r s r2 s2:=⟨k.sub,λi h1 h2=>by have ⟨a,b⟩:=h.out i h1 h2;have ⟨c,e⟩:=k.out i b (by rw[a];exact h2);exact⟨c.trans a,e⟩⟩
theorem Sj{O:Nat->Prop}{es:Nat}{l:List (List AV)}(h:SlR es t' v l)(hb:∀b o n c,v=.slc b o n c es->l≠[]->H b=none/\t b=none/\¬O b):SlR es (grow H t t' O) v l:=
 h.keep (fp:=λi=>grow H t t' O i≠t' i) (λi e hi hn=>by rw[Classical.not_not.1 hn];exact hi) λb o n c e hne q=>by have ⟨a1,a2,a3⟩:=hb b o n c e hne;exact q (Si a1 a2 a3)
theorem nW:∀{i:Nat}{l:List (Nat×Nat)}{p:Nat×Nat},p∈l->∃e∈mE i l,e.key=p.1/\e.val=Pp p.2
 | i,q::l,p,h=>by
   rcases mCY h with rfl|h;exact⟨_,dW,rfl,rfl⟩;have ⟨e,h1,h2⟩:=nW (i:=i+1) h;exact⟨e,mO _ h1,h2⟩
theorem Sk:∀{l m:List Nat},l.Nodup->(∀x∈l,x∈m)->l.length<=m.length
 |[],_,_,_=>zero_le _
 | x::l,m,hn,h=>by
   rw[nodup_cons]at hn;have:=Sk (l:=l) (m:=m.erase x) hn.2 λy hy=>gR
   grind
theorem Sm{r:Nat}{e:Bool×Blk}(h:t r=none):hdel (hset t r e) r=t:=by
 grind [hdel,hset]
structure Clr(t h:Hq)(es:List AEnt)(f mb N x:Nat)(lv ev:AV)(L:List RLk)(D:List Nat)(ws:List Wl)(Bf:Nat->List Int)(Mf:Nat->List Nat)(H:Hq)(sn:List Nat):Prop where
 ex:∃(ws':List Wl) (Bf':Nat->List Int) (Mf':Nat->List Nat) (H':Hq),Tb h H' f mb N x lv ev L ws' Bf' Mf'/\ws'.map np=ws.map np/\(∀i,ownW ws' i↔ownW ws i)/\Sub H H'/\(∀i,H' i≠none->H i≠none∨t i=none)/\aV (own f mb ws) t h/\
  (∀n∈D,Bf' n=Bf n/\Mf' n=Mf n)/\∀e∈es,hasN e.born sn=true->∀n:Nat,e.key=n->n ∉ D->Bf' n=Zs/\Mf' n=[]
theorem HT:iz []=[]:=rfl
theorem HU{rb q:Nat}{e:AEnt}{D:List Nat}{sn:List Nat}{J:Hq->Prop}{bk:Bool×Blk}(z:Clr t s (mE 0 (ws.map np)) f mb N x lv ev L D ws Bf Mf H sn)(hq:s q=none)(hr:Hc s rb 282 (rchL D))(hrb:¬own f mb ws rb)(hN:N<=32)
  (he:e∈mE 0 (ws.map np)) (hnd:(ws.map (·.1)).Nodup) (hwn:∀p∈ws,p.1<N)
  (hJ:∀h,Clr t h (mE 0 (ws.map np)) f mb N x lv ev L D ws Bf Mf H (sn ++ [e.born])->Hc h rb 282 (rchL D)->J h) :
  oK (fj 32 1 (Pp rb) e.key) λv_73=>oK (rd1 (hset s q bk) v_73) λv_74=>oK (oG .not v_74) λv_75=>ao v_75
   (wC TP 156 [e.val,.nilslc] (λ_ s_77=>J (hdel s_77 q)) (hset s q bk))
   (J (hdel (hset s q bk) q)):=by
 have ⟨ws',Bf',Mf',H',tb,hnp,how,hH,hHn,hk,hD,hseen⟩:=z.ex;have ⟨p0,hp0,ek,ev',_⟩:=nS he;rw[<- hnp]at hp0;obtain⟨p,hp,rfl⟩:=aG.1 hp0;have ek:e.key=p.1:=ek;have hp32:p.1<32:=by have:=tb.wn p hp;omega
 have rne:rb≠q:=λe=>gR;have hset_rb:hset s q bk rb=some (false,.cells 282 (rchL D)):=by grind [eL]
 have hrd:rd1 (hset s q bk) (.ptr rb p.1)=some (.bool (decide (p.1∈D))):=by rw[au hset_rb,Sf hp32]
 have seen1:∀e'∈mE 0 (ws.map np),hasN e'.born (sn ++ [e.born])=true->hasN e'.born sn=true∨e'=e:=λe' he' hs=>by
  rw[xa,Bool.or_eq_true]at hs;rcases hs with h|h;exact .inl h;have hb:e'.born=e.born:=by simpa using h
  have a:=Ac he'
  grind [Ac]
 rw[ek,ev'];simp only[Sh hp32,hrd,cQ,ae]
 by_cases hpD:p.1∈D
 simp only[hpD,decide_true,Bool.not_true,aR];rw[Sm hq];refine hJ s ⟨ws',Bf',Mf',H',tb,hnp,how,hH,hHn,hk,hD,λe' he' hs n hn hnD=>?_⟩ hr
 grind
 ·simp only[hpD,decide_false,Bool.not_false,bD]
  have tb1:Tb (hset s q bk) H' f mb N x lv ev L ws' Bf' Mf':=tb.sub (j9 hq);have hqH:H' q=none:=by
   cases c:H' q with
   |none=>rfl
   |some b=>rw[tb.hs _ _ c]at hq;cases hq
  have qne:∀i,own f mb ws' i->i≠q:=(by grind [Tb.live])
  refine tb1.setM (l:=[]) hp (.inl ⟨rfl,HT⟩) .nil (λi hi=>by cases hi) sI λs2 H2 mv B2 tb2 aft k2 hH2 hH2n=>?_;have sq:hset s q bk q≠none:=by rw[fe];simp
  have tb3:Tb (hdel s2 q) H2 f mb N x lv ev L (setW ws' p.1 mv) (updF Bf' p.1 B2) (updF Mf' p.1 []):=by refine tb2.keep (fp:=λi=>i=q) (λi b hi hn=>by unfold hdel;rw[aj hn];exact hi) (λi hi=>?_) λi b hi=>?_;refine qne i ?_;rcases hi with h|h|h;exact .inl h;exact .inr (.inl h);exact .inr (.inr (uw.1 h));unfold hdel;rw[aj (λe=>gR)];exact tb2.hs _ _ hi
  have hB2:B2=Zs:=by rw[aft.none rfl,HR (tb.wl.ln _)]
  have hown2:∀i,ownW (setW ws' p.1 mv) i↔ownW ws i:=λi=>uw.trans (how i);have k3:aV (own f mb ws) t (hdel s2 q):=λi b hi hn=>by have h1:=hk i b hi hn;have iq:i≠q:=λe=>gR;unfold hdel;rw[aj iq];refine k2 i b (by grind [eL]) λh=>hn ?_;rcases h with h|h|h;exact .inl h;exact .inr (.inl h);exact .inr (.inr ((how i).1 h))
  refine hJ _ ⟨setW ws' p.1 mv,updF Bf' p.1 B2,updF Mf' p.1 [],H2,tb3,by rw[HI];exact hnp,hown2,hH.trans hH2,λi hi=>?_,k3,λn hn=>?_,λe' he' hs n hn hnD=>?_⟩ ?_;rcases hH2n i hi with h|h;exact hHn i h
  by_cases c:H i=none
  refine .inr ?_;rcases c2:t i with _|b;rfl
  by_cases c3:own f mb ws i
  have c4:own f mb ws' i:=by rcases c3 with h|h|h;exact .inl h;exact .inr (.inl h);exact .inr (.inr ((how i).2 h))
  grind [Tb.live]
  have c4:=hk i b c2 c3
  grind [eL]
  exact .inl c;have:n≠p.1:=λe=>hpD (e ▸ hn);have ⟨a,b⟩:=hD n hn;exact⟨(aj this).trans a,(aj this).trans b⟩
  by_cases c:n=p.1
  subst c;exact⟨(ak rfl).trans hB2,ak rfl⟩;rcases seen1 e' he' hs with h|h;have ⟨a,b⟩:=hseen e' he' h n hn hnD;exact⟨(aj c).trans a,(aj c).trans b⟩
  grind
  unfold hdel;rw[aj rne];refine k2 _ _ hset_rb λh=>hrb ?_;rcases h with h|h|h;exact .inl h;exact .inr (.inl h);exact .inr (.inr ((how _).1 h))
theorem HV(z:Tab r f N x L U Bf)(hrs:Sub r s)(hv:vld (N:Int) L U')(hx:x<N)(hG:L.length<=64)(hu:Sl s uv (U'.map AV.bool))(huf:∀b o n c,uv=.slc b o n c 1->U'.map AV.bool≠[]->b≠f)
  (hK:∀r' s' Bf',Tab r' f N x L U' Bf'->Goes r s r' s'->(∀n,n<N->WH.Aft (nz (lnk N (L.map toL) U' x n)) (Bf n) (Bf' n))->K (Ii 0) s'):wC TP 118 [Pp f,uv] K s:=by
 have ⟨H0,mb,lv,ev,R0,ws,Mf,tb0,_⟩:=z.ex;have tb:=tb0.sub hrs;have ⟨_,_,hN32,_,_⟩:=vld.gok hv;refine Zq (fk tb.cf oM ?_);have c3:∀ev,(fibC (N:Int) (x:Int) lv ev mb)[3]?=some lv:=λ_=>rfl;have c0:∀ev,(fibC (N:Int) (x:Int) lv ev mb)[0]?=some (Ii N):=λ_=>rfl;have c1:∀ev,(fibC (N:Int) (x:Int) lv ev mb)[1]?=some (Ii x):=λ_=>rfl;have eul:=hv.2.2.2.1;simp only[cQ,Bool.not_true,aR,hu.len,lMY,bQ,aK,zAY,au tb.cf,c3,(tb.lk.sub tb.hs).len,cj,bJ,eul,aZ,Bool.true_bne,ae];refine cw tb.cf (show 4<(fibC (N:Int) (x:Int) lv ev mb).length from by show 4<6;omega) rfl λs1 h1 u1=>?_;have tb1:=tb.setE u1 h1;have hu1:=hu.keep (fp:=λi=>i=f) (u1.keep rfl) huf;refine aI λrb s2 hrb h2 u2=>?_;have sub2:=u2.sub hrb;have tb2:=tb1.sub sub2;simp only[au tb2.cf,c3,c0,c1,ae];refine GK (tb2.lk.sub tb2.hs) oM (hu1.sub sub2) λov s3 R en hRk=>?_;have sub3:=en.sub;have hRk:R.map kyE=ofP N (L.map toL) U' x N:=by rw[hRk];unfold ofEn;rw[ak ⟨hv,oM,oM⟩,Int.toNat_natCast,Int.toNat_natCast]
 have hRn:=hRk.trans (Ae (N:=N) (G:=L.map toL) (U:=U') (x:=x));have hRlen:R.length=(ndL N (L.map toL) U' x).length:=by have:=aJ List.length hRn;simpa using this
 have ⟨sb,kb1,kb2,acc,hrows⟩:=en.ex;have slo:=acc.sl;have s1none:∀{i},s1 i=none->s i=none:=fun {i} hi=>by
  by_cases e:i=f
  grind
  rw[<- u1 i e];exact hi
 have s2none:∀{i},s2 i=none->s i=none/\i≠rb:=fun {i} hi=>⟨s1none (eM sub2 hi),λe=>gR⟩
 have h0none:∀{i},s i=none->H0 i=none:=fun {i} hi=>by
  cases q:H0 i with
  |none=>rfl
  |some e=>rw[tb.hs _ _ q]at hi;cases hi
 have srb:=s1none hrb;obtain⟨H,hH⟩:∃H:Hq,H=grow H0 s s3 (λi=>i=rb):=⟨_,rfl⟩
 have tb3:Tb s3 H f mb N x lv .nilslc L ws Bf Mf:=by rw[hH];exact(tb2.sub sub3).more Aj (HK (tb2.hs.trans sub3)) (by grind [Al,Tb.hn,Tb.live])
 have hHrb:H rb=none:=by rw[hH];grind [Ak]
 have slH:SlR 2 H ov (R.map enR):=by
  rw[hH];refine Sj slo λb o n c e hne=>?_;rcases acc.2 with⟨_,q⟩|⟨b',q1,q2,_⟩;exact absurd q hne
  ·rw[q2]at e
   have ⟨a1,a2⟩:=s2none (eM kb1 q1)
   grind
 have slW:∀y∈R,Sl H y.2.1 (iz y.2.2):=λy hy=>by
  have:Sl s3 y.2.1 (iz y.2.2):=(hrows y hy).sl.sub kb2;rw[hH];refine uz this λb o n c e hne=>?_;rcases hrows y hy with⟨_,q⟩|⟨b',q1,q2,_⟩;exact absurd q hne
  grind
 have rows:∀{k n:Nat},(ndL N (L.map toL) U' x)[k]?=some n->∃wv,R[k]?=some (lbk n,wv,lnk N (L.map toL) U' x n):=fun {k n} hk=>by
  have:=aJ (λl=>l[k]?) hRn;simp only[cq,hk,Option.map_some]at this;rcases hR:R[k]? with _|y
  grind
  rw[hR]at this;have ⟨a,b,c⟩:=y;have this:some (a,c)=some (lbk n,lnk N (L.map toL) U' x n):=this
  grind
 have hNl:=ul (N:=N) (G:=L.map toL) (U:=U') (x:=x);have restQ:∀{i},rest s r i≠none->r i=none/\rest s r i=s i:=(by grind [rest])
 have start:UpG s3 (rest s r) f rb mb N L U' x lv ov R Bf 0:=by
  refine⟨.nilslc,ws,Bf,Mf,H,tb3,hHrb,sub3 _ _ h2,⟨(λr h=>by cases h),.inl ⟨rfl,rfl⟩⟩,(λb o n c e q=>by cases q),λi e hi=>?_,λi hi=>?_,slH,slW,(λn hn=>by simp at hn),λn _=>rfl⟩;have ⟨q1,q2⟩:=restQ (i:=i) (by rw[hi];simp);rw[q2]at hi;have ne:i≠f:=λe=>tb0.live (.inl rfl) (e ▸ q1);exact sub3 _ _ (sub2 _ _ (by rw[u1 i ne];exact hi))
  ·have ⟨q1,q2⟩:=restQ hi
   have hs:s i≠none:=by rw[<- q2];exact hi
   have h0:H0 i=none:=by
    cases q:H0 i with
    |none=>rfl
    |some e=>rw[tb0.hs _ _ q]at q1;cases q1
   refine⟨by rw[hH];exact Al h0 hs,λq=>tb0.live q q1,λe=>hs (by rw[e];exact srb),λb o n c e q=>by cases q⟩
 simp only[slo.len,lMY,ae];refine⟨λys t m=>∃k:Nat,ys=[Ii k]/\k<=R.length/\m=R.length-k/\UpG t (rest s r) f rb mb N L U' x lv ov R Bf k,⟨_,0,rfl,oM,rfl,start⟩,?_⟩;rintro g t m ⟨k,hy,hk,rfl,up⟩;simp only[cI,aq]at hy;rw[hy];simp only[QV,bu,ae];refine aL (λhlt=>?_) (λhge=>?_);have hlt:k<R.length:=gR;obtain⟨n,hn⟩:∃n,(ndL N (L.map toL) U' x)[k]?=some n:=⟨_,gE oM⟩
 have ⟨wv,hR⟩:=rows hn;have hov:SlR 2 t ov (R.map enR):=by have ⟨ev,ws,Bf,Mf,H,tb,_,_,_,_,_,_,hov,_⟩:=up.ex;exact hov.sub tb.hs
 have ⟨pb,po,e1,e2,_⟩:=hov.get (i:=k) (r:=enR (lbk n,wv,lnk N (L.map toL) U' x n)) (by rw[cq,hR];rfl);simp only[e1,e2,ae];refine HN (J:=λt'=>yI k _ _ K t') up hN32 hG hn hR λt' up'=>?_;simp only[yI,bg,ae,aS];rw[aT];exact⟨_,oM,k+1,rfl,oM,rfl,up'⟩
 ·have hge:k=R.length:=gR
  subst hge;have ⟨ev',ws2,Bf2,Mf2,H2,tq,hHr,tr,ta,hHe,hQ,hQn,hov,hrow,hsem,hsem2⟩:=up.ex;have hk2:(ndL N (L.map toL) U' x).take R.length=ndL N (L.map toL) U' x:=by rw[hRlen,dI]
  rw[hk2]at hsem hsem2 tr;rw[dI]at ta;have c5:(fibC (N:Int) (x:Int) lv ev' mb)[5]?=some (.map mb):=rfl;simp only[bQ,aK,zAY,au tq.cf,c5,ae];unfold jv;simp only[tq.cm];intro q hq;have qm:q≠mb:=λe=>by rw[e,tq.cm]at hq;cases hq
  have wl:ws2.length<=32:=by
   have h1:∀n∈ws2.map (·.1),n∈List.range N:=λn hn=>by obtain⟨p,hp,rfl⟩:=aG.1 hn;exact mem_range.2 (tq.wn p hp)
   have:=Sk tq.wl.nd h1;rw[lMY,length_range]at this;omega
  have sq:hset t q (false,.iter (some mb) ws2.length [] ws2.length) q=some (false,.iter (some mb) ws2.length [] ws2.length):=by simp[hset]
  have sm:hset t q (false,.iter (some mb) ws2.length [] ws2.length) mb=some (false,.map (mE 0 (ws2.map np)) ws2.length):=by rw[eL (Ne.symm qm)];exact tq.cm
  refine aE (a:=(q,some mb,ws2.length,ws2.length,mE 0 (ws2.map np))) ?_ ?_;unfold rK;have a1:ble ws2.length ws2.length=true:=bL (Nat.le_refl _);have a2:jV ws2.length (mE 0 (ws2.map np))=true:=ug gR;have a3:blt (mE 0 (ws2.map np)).length 900=true:=by rw[bZ,ue,lMY];omega
  grind
  have rbown:¬own f mb ws2 rb:=by
   rintro (e|e|e)
   grind
   ·rw[e,tq.cm]at tr;cases tr
   ·rcases tq.wc e with⟨cs,q⟩|⟨cs,q⟩<;>(rw[tr]at q;cases q)
  refine⟨λsn _ h=>Clr t h (mE 0 (ws2.map np)) f mb N x lv ev' L (ndL N (L.map toL) U' x) ws2 Bf2 Mf2 H2 sn/\Hc h rb 282 (rchL (ndL N (L.map toL) U' x)),?_,?_⟩;rw[Sm hq];exact⟨⟨ws2,Bf2,Mf2,H2,tq,rfl,λ_=>Iff.rfl,.refl _,λi hi=>.inl hi,.refl _ _,λ_ _=>⟨rfl,rfl⟩,λe _ h=>by simp[hasN]at h⟩,tr⟩;rintro sn g s31 ⟨z31,r31⟩ hq31;have hm31:s31 mb=some (false,.map (mE 0 (ws2.map np)) ws2.length):=by have ⟨ws',Bf',Mf',H',tb,hnp,_⟩:=z31.ex;have:=tb.cm;rw[this,<- lMY (f:=np),hnp,lMY]
  refine⟨⟨false,hm31⟩,λe he hns=>?_,λhall=>?_⟩;have hq1:hset s31 q (true,.iter (some mb) ws2.length (sn ++ [e.born]) ws2.length) q=some (true,.iter (some mb) ws2.length (sn ++ [e.born]) ws2.length):=fe;have hm1:hset s31 q (true,.iter (some mb) ws2.length (sn ++ [e.born]) ws2.length) mb=some (false,.map (mE 0 (ws2.map np)) ws2.length):=by rw[eL (Ne.symm qm)];exact hm31
  have hent:entD (hset s31 q (true,.iter (some mb) ws2.length (sn ++ [e.born]) ws2.length)) (Pp q)=some (.tup [e.key,e.val]):=by unfold entD;simp only[hq1,C5,hm1,beq_refl,aD,Ac he]
  have x0:bV (.tup [e.key,e.val]) 0=some e.key:=rfl;have x1:bV (.tup [e.key,e.val]) 1=some e.val:=rfl;simp only[hent,x0,x1,ae];exact HU (J:=λh=>Clr t h (mE 0 (ws2.map np)) f mb N x lv ev' L (ndL N (L.map toL) U' x) ws2 Bf2 Mf2 H2 (sn ++ [e.born])/\Hc h rb 282 (rchL (ndL N (L.map toL) U' x))) z31 hq31 r31 rbown hN32 he tq.wl.nd tq.wn λh z r=>⟨z,r⟩
  ·rw[aR]
   have ⟨ws3,Bf3,Mf3,H3,tb4,hnp,how,hH3,hH3n,hk3,hD,hseen⟩:=z31.ex;have hnodes:ws3.map (·.1)=ws2.map (·.1):=by rw[<- nV,<- nV (ws:=ws2),hnp]
   have eb:ev'=.nilslc/\R.map enR=[]∨∃c,ev'=.slc c 0 (R.map enR).length none 2/\Hc t c 253 (R.map enR).flatten:=by rcases ta.2 with q|⟨c,_,q2,q3⟩;exact .inl q;exact .inr ⟨c,q2,q3⟩
   have off2:∀{i},rest s r i≠none->H3 i=none/\¬own f mb ws3 i/\s31 i=s i:=fun {i} hi=>by
    have ⟨q1,q2,q3,q4⟩:=hQn i hi;have ⟨q5,q6⟩:=restQ hi;have hti:t i=s i:=by rcases c:rest s r i with _|e;exact absurd c hi;rw[hQ _ _ c,<- q6,c]
    have hsi:s i≠none:=by rw[<- q6];exact hi
    refine⟨?_,?_,?_⟩
    ·cases c:H3 i with
     |none=>rfl
     | some e=>
       rcases hH3n i (by rw[c];simp)with h|h;exact absurd q1 h;rw[hti]at h;exact absurd h hsi
    rintro (h|h|h);exact q2 (.inl h);exact q2 (.inr (.inl h));exact q2 (.inr (.inr ((how i).1 h)))
    ·cases c:t i with
     |none=>rw[hti]at c;exact absurd c hsi
     |some e=>rw[hk3 i e c q2,<- hti,c]
   have ⟨r1,hr1⟩:∃r1:Hq,r1=λi=>if rest s r i=none then s31 i else none:=⟨_,rfl⟩
   have r1s:Sub r1 s31:=λi e hi=>by
    rw[hr1]at hi;have hi:(if rest s r i=none then s31 i else none)=some e:=hi;split at hi;exact hi
    ·cases hi
   have r1in:∀{i},rest s r i=none->r1 i=s31 i:=fun {i} h=>by rw[hr1];exact ak h
   have h3rest:∀{i e},H3 i=some e->rest s r i=none:=fun {i e} hi=>by
    by_cases c:rest s r i=none
    exact c
    ·rw[(off2 c).1]at hi;cases hi
   have tb5:Tb r1 H3 f mb N x lv ev' L ws3 Bf3 Mf3:=tb4.keep (fp:=λi=>rest s r i≠none) (λi e hi hn=>by rw[r1in (Classical.not_not.1 hn)];exact hi) (λi hi hq=>(off2 hq).2.1 hi) λi e hi=>by rw[r1in (h3rest hi)];exact tb4.hs _ _ hi
   have goes:Goes r s r1 s31:=⟨r1s,λi h1 h2=>by
    have hq:rest s r i≠none:=by unfold rest;rw[ak h1];exact h2
    refine⟨(off2 hq).2.2,?_⟩;rw[hr1];exact aj hq⟩
   have hml:=λn h1 h2=>by
    by_cases c:lnk N (L.map toL) U' x n=[]
    exact c;exact absurd (jH.2 ⟨h1,c⟩) h2
   have zero:∀n,n<N->n ∉ ndL N (L.map toL) U' x->Bf3 n=Zs:=λn h1 h2=>by
    by_cases c:n∈ws3.map (·.1)
    rw[<- nV,hnp]at c;obtain⟨p,hp,rfl⟩:=aG.1 c;have ⟨e,he,hek,_⟩:=nW (i:=0) hp;exact(hseen e he (hall e he) p.1 hek h2).1;exact tb4.wl.zr n c
   have aft:∀n,n<N->WH.Aft (nz (lnk N (L.map toL) U' x n)) (Bf n) (Bf3 n):=λn hn=>by
    by_cases c:n∈ndL N (L.map toL) U' x
    rw[(hD n c).1];exact(hsem n c).2.1
    ·rw[hml n hn c]
     have e1:Bf3 n=WH.clr [] (Bf n):=by rw[zero n hn c,HR (tb.wl.ln n)]
     rw[e1];exact⟨λ_=>rfl,.refl,λh=>absurd rfl h,λa ha=>by cases ha⟩
   have fin:=λH4 k1 k2 k3 k4=>by
    refine hK r1 s31 Bf3 ⟨⟨H4,mb,lv,ev',R,ws3,Mf3,tb5.more k1 k2 k3,k4,hRk,λy hy=>((hrow y hy).sub hH3).sub k1,λn hn=>by rw[hnodes];exact(hsem n hn).1,λp hp=>?_⟩,λn hn=>HS (aft n hn) (tb.wl.ln n)⟩ goes aft;have hpN:=tb4.wn p hp
    by_cases c:p.1∈ndL N (L.map toL) U' x
    rw[(hD _ c).2];exact(hsem _ c).2.2;rw[hml _ hpN c];have:np p∈ws2.map np:=by rw[<- hnp];exact aG.2 ⟨p,hp,rfl⟩
    have ⟨e,he,hek,_⟩:=nW (i:=0) this;exact(hseen e he (hall e he) p.1 hek c).2
   rcases eb with⟨e1,e2⟩|⟨c,e1,e2⟩;refine fin H3 (.refl _) tb5.hs (λi hi=>tb5.hn hi) ⟨ta.1,.inl ⟨e1,e2⟩⟩
   ·have cown:¬own f mb ws2 c:=by
     rintro (h|h|h)
     ·rw[h,tq.cf]at e2;cases e2
     ·rw[h,tq.cm]at e2;cases e2
     ·rcases tq.wc h with⟨cs,q⟩|⟨cs,q⟩<;>(rw[e2]at q;cases q)
    have c31:=hk3 _ _ e2 cown;have hc2:=hHe _ _ _ _ _ e1;have hc3:H3 c=none:=by
     cases h:H3 c with
     |none=>rfl
     | some e=>
       rcases hH3n c (by rw[h];simp)with h|h;exact absurd hc2 h
       ·rw[e2]at h;cases h
    refine fin (hset H3 c (false,.cells 253 (R.map enR).flatten)) (j9 hc3) (λi e hi=>?_) (λi hi=>?_) ?_
    by_cases h:i=c
    subst h;rw[fe]at hi
    grind
    rw[eL h]at hi;exact tb5.hs _ _ hi;have h:i≠c:=λe=>by subst e;rcases hi with h|h|h;exact cown (.inl h);exact cown (.inr (.inl h));exact cown (.inr (.inr ((how _).1 h)))
    rw[eL h];exact tb5.hn hi;rw[e1];exact SlR.mk ta.1 (fe (s:=H3)) rfl sI
variable{lv':AV}{b:Nat}
theorem HW{n x:Int}(hl:SlR 3 s lv (L.map rwR))(hlm:L.length<=9223372036854775807)
  (hbad:¬(vld n L (ba L.length false)/\0<=x/\x<n)->∀s' e,Sub s s'->e≠0->K (.tup [.nilptr,Ii e]) s')
  (hK:vld n L (ba L.length false)->0<=x->x<n->∀f mb lv' s',Sub s s'->s f=none->s mb=none->f≠mb->Hc s' f 245 (fibC n x lv' .nilslc mb)->s' mb=some (false,.map [] 0)->SlR 3 s' lv' (L.map rwR)->(∀b o n c,lv'=.slc b o n c 3->L.map rwR≠[]->(b≠f/\b≠mb)/\s b=none)->K (.tup [Pp f,Ii 0]) s') :
  wC TP 66 [n,lv,x] K s:=by
 refine Qx ?_;have bad0:∀{s'},¬(vld n L (ba L.length false)/\0<=x/\x<n)->Sub s s'->∀{e:Int},e≠0->K (.tup [.nilptr,e]) s':=gR;simp only[EJ,hl.len,lMY,dy,ae];refine aL (λc=>?_) (λc=>?_);have c':=oT c;rw[c];simp only[mf,cy,bD,ae];exact bad0 (λh=>by have:=h.1.2.2.1;omega) (.refl s) oM;have c':=oF c;rw[c];simp only[nat?_mk,ae];refine⟨⟨Nat.le_refl _,oM⟩,aI λub s1 hub h1 u1=>?_⟩;have sub1:=u1.sub hub;have hu1:Sl s1 (.slc ub 0 L.length (some L.length) 1) ((ba L.length false).map AV.bool):=by rw[ig]at h1;refine Sl.mk (l:=(ba L.length false).map AV.bool) (t:=false) (e:=4) ?_ sI sI;rw[h1,map_replicate]
 refine pD (hl.sub sub1) hlm hu1 λdv s2 sub2 hno hyes=>?_;have s02:=sub1.trans sub2
 by_cases q:vld n L (ba L.length false)/\(0:Int)<=0/\0<n
 rotate_left
 grind [ng,bJ,cP,mf,ct,bD]
 have ⟨hv,_,hn0⟩:=q;obtain⟨N,rfl⟩:∃N:Nat,n=N:=⟨n.toNat,oM⟩
 obtain⟨d,db,_,_,rfl,_,_⟩:=hyes N 0 hv rfl oM rfl;simp only[kY,bJ,Bool.false_bne,ae,mf,ct,aR,bu]
 by_cases c1:x<0
 rw[aH c1];simp only[pj,cy,bD,ae]
 grind
 rw[aC c1];simp only[aR,dQ,ae,pj,ct]
 by_cases c2:(N:Int)<=x
 rw[aH c2];simp only[bD]
 grind
 rw[aC c2];simp only[aR];obtain⟨r,rfl⟩:∃r:Nat,x=r:=⟨x.toNat,oM⟩
 have hN:=hv.2.1;refine pE oM ?_;have x0:bV (.tup [Iw (lbk r),Ii 0]) 0=some (Iw (lbk r)):=rfl;have x1:bV (.tup [Iw (lbk r),Ii 0]) 1=some (Ii 0):=rfl;simp only[x0,x1,cj,bJ,aZ,Bool.true_bne,Bool.not_true,aR,ae];refine ud (hl.sub s02) (by rw[lMY];omega) λlv' s3 sub3 hl3 fr3=>?_;have s03:=s02.trans sub3;intro mb hmb;have sub4:Sub s3 (hset s3 mb (false,.map [] 0)):=j9 hmb;have hm4:hset s3 mb (false,.map [] 0) mb=some (false,.map [] 0):=by simp[hset]
 generalize hset s3 mb (false,.map [] 0)=s4 at sub4 hm4;have hone:lv'.one=true:=hl3.one;refine aE (a:=fibC N r lv' .nilslc mb) ?_ ?_;show cond (beq lv'.cells.length 1&&ble (3+lv'.cells.length) 6) (aM (dB [N,r,Iw (lbk r),.nilslc,.nilslc,.nilmap] 3 lv'.cells) [(5,1,.map mb)]) none=_;rw[fZ hone];rfl;refine⟨?_,aI λf s5 hf h5 u5=>?_⟩;show((AV.int .i64 (N:Int)).one&&((AV.int .i64 (r:Int)).one&&((AV.int .u32 _).one&&(lv'.one&&(AV.nilslc.one&&((AV.map mb).one&&true))))))=true;rw[hone];rfl;have sub5:=u5.sub hf;have hfm:f≠mb:=λe=>gR;refine hK hv oM oM f mb lv' s5 (s03.trans (sub4.trans sub5)) (eM (s03.trans sub4) hf) (eM s03 hmb) hfm h5 (sub5 _ _ hm4) (hl3.sub (sub4.trans sub5)) λb o n c e hne=>?_;have:=hl3.was b o n c e hne;exact⟨⟨λq=>this (eM sub4 (by rw[q];exact hf)),λq=>this (by rw[q];exact hmb)⟩,eM s02 (fr3 b o n c e hne)⟩
theorem HX{n:Nat}(h:∀i,U.getD i false=false):edL G U n=[]:=by
 simp_all [edL]
theorem uD{k x n:Nat}:lnk N G (ba k false) x n=[]:=by
 grind [lnk,nrL,fS,HX]
theorem uE{k x:Nat}:ndL N G (ba k false) x=[]:=by rcases q:ndL N G (ba k false) x with _|⟨a,l⟩;rfl;exact absurd uD (jH.1 (by rw[q];exact dW)).2
theorem HY:Zs.length=64:=by unfold Zs;simp
theorem HZ:∀b∈Zs,b=0:=λb hb=>eq_of_mem_replicate hb
theorem H1{n x:Int}(hl:SlR 3 s lv (L.map rwR))(hlm:L.length<=9223372036854775807)
  (hbad:¬(vld n L (ba L.length false)/\0<=x/\x<n)->∀s' e,Sub s s'->e≠0->K (.tup [.nilptr,Ii e]) s')
  (hK:∀(N y:Nat) r' s' f,n=N->x=y->y<N->vld (N:Int) L (ba L.length false)->Tab r' f N y L (ba L.length false) (λ_=>Zs)->Sub s s'->Sub r' s'->(∀i,r' i≠none->s i=none)->K (.tup [Pp f,Ii 0]) s') :
  wC TP 66 [n,lv,x] K s:=by
 refine HW hl hlm hbad λhv h0 h1 f mb lv' s' sub hf hm hfm h2 h3 h4 h5=>?_;obtain⟨N,rfl⟩:∃N:Nat,n=N:=⟨n.toNat,oM⟩
 obtain⟨y,rfl⟩:∃y:Nat,x=y:=⟨x.toNat,oM⟩
 have ⟨r2,hr2⟩:∃r2:Hq,r2=λi=>if s i=none then s' i else none:=⟨_,rfl⟩
 have r2in:∀{i},s i=none->r2 i=s' i:=fun {i} h=>by rw[hr2];exact ak h
 have r2s:Sub r2 s':=λi e hi=>by
  grind
 have hH:SlR 3 (grow (λ_=>none) s s' (λi=>i=f∨i=mb)) lv' (L.map rwR):=(by grind [Sj])
 have hHs:Sub (grow (λ_=>none) s s' (λi=>i=f∨i=mb)) r2:=λi e hi=>by
  have hs:s i=none:=by
   grind [Al]
  rw[r2in hs];exact HK (λi e hi=>by cases hi) _ _ hi
 have ofn:ofP N (L.map toL) (ba L.length false) y N=[]:=by grind [Ae,uE]
 refine hK N y r2 s' f rfl rfl oM hv ⟨⟨_,mb,lv',.nilslc,[],[],λ_=>[],⟨hHs,Ak rfl (.inl rfl),Ak rfl (.inr rfl),by rw[r2in hf];exact h2,by rw[r2in hm];exact h3,⟨.nil,(λp hp=>by cases hp),(λi hi=>by have ⟨p,hp,_⟩:=hi;cases hp),(λp hp=>by cases hp),λ_=>HY,λ_ b hb=>by rw[HZ b hb];omega,λ_ _=>rfl⟩,(λp hp=>by cases hp),hH⟩,⟨(λr hr=>by cases hr),.inl ⟨rfl,rfl⟩⟩,by rw[ofn];rfl,(λy hy=>by cases hy),(λn hn=>by rw[uE]at hn;cases hn),λp hp=>by cases hp⟩,λn hn=>?_⟩ sub r2s λi hi=>?_
 ·rw[uD]
  exact⟨λ_=>rfl,λh=>absurd rfl h,λa ha=>by cases ha⟩
 grind
end Go.AM.FB
