/- Part K of the proof: see the last part. -/
import Derived.Test.YtcmcofklcgafiaaGreatH
import Derived.Test.YtcmcofklcgafiaaGreatV2
import Derived.Test.YtcmcofklcgafiaaGreatA3
open Go renaming IntKind→aA,TypeId→ah
open List renaming append_assoc→cn,getD_eq_getElem?_getD→dO,getElem?_set_ne→ef,getElem?_set_self→fE,getElem_mem→aN,length_cons→cr,length_set→gN,map_append→bM,map_congr_left→cK,map_cons→cL,mem_append_right→dN,mem_cons_self→dW,mem_map→aG,mem_range→dr,mem_singleton→bN,pairwise_append→fh,pairwise_cons→aB,range_succ→fi,sum_cons→ff,take_add_one→bO,take_length→dI,take_of_length_le→jN
open Nat renaming mul_le_mul_right→cV,succ_mul→eB
set_option linter.unusedVariables false
namespace Go.AM.TG
open Go Go.Proofs List Nat
set_option maxRecDepth 100000
variable{K:AV→Hq→Prop}{s s':Hq}{g:Nat}{lv:AV}{N:Nat}{lu nu:Nat→Bool}{L:List Lk}
def upd1(f:Nat->Bool)(i:Nat)(x:Bool):Nat->Bool:=λj=>if j=i then x else f j
theorem Wd.put{a b i:Nat}{f:Nat->Bool}{x:Bool}(h:Wd a b f)(hi:i<128):(i / 64=0->∀v:Nat,v<18446744073709551616->(∀j,v.testBit j=if j=i % 64 then x else a.testBit j)->Wd v b (upd1 f i x))/\
  (i / 64=1->∀v:Nat,v<18446744073709551616->(∀j,v.testBit j=if j=i % 64 then x else b.testBit j)->Wd a v (upd1 f i x)):=by
 have ⟨h1,h2,h3⟩:=h;refine⟨λe v hv hb=>⟨hv,h2,λj hj=>⟨?_,?_⟩⟩,λe v hv hb=>⟨h1,hv,λj hj=>⟨?_,?_⟩⟩⟩;rw[hb,(h3 j hj).1];unfold upd1
 grind
 rw[(h3 j hj).2];unfold upd1;rw[aj oM];rw[(h3 j hj).1];unfold upd1;rw[aj oM];rw[hb,(h3 j hj).2];unfold upd1
 grind
theorem _root_.Go.AM.SlR.upto{es:Nat}{v:AV}{rows:List (List AV)}{s s':Hq}{b:Nat}(h:SlR es s v rows)(u:Upto b s s')(hn:∀c o n k,v=.slc c o n k es->rows≠[]->c≠b):SlR es s' v rows:=
 h.keep (fp:=λc=>c=b) (u.keep rfl) gR
def Ap(g:Nat)(lv:AV)(L:List Lk):Prop:=∀b o n c,lv=.slc b o n c 3->L≠[]->b≠g
theorem vK{i:Nat}{x:Bool}(h:GRd false s g lv N L lu nu)(ha:Ap g lv L)(hi:i<128)(hK:∀s',GRd false s' g lv N L (upd1 lu i x) nu->Upto g s s'->K (.tup []) s'):wC TP 126 [.ptr g 2,i,x] K s:=by have ⟨⟨a,b,c,d,h1,h2,h3⟩,h4,h5⟩:=h;have hp:=h2.put (x:=x) hi;rcases(show i / 64=0∨i / 64=1 by omega)with e|e;refine pF (w:=a) hi h1 (by rw[e];rfl) h2.1 λs' v g1 g2 g3 u=>hK s' ⟨⟨v,b,c,d,?_,hp.1 e v g2 g3,h3⟩,h4.upto u λc o n k e hne=>ha c o n k e (by simpa using hne),h5⟩ u;rw[g1,e];rfl;refine pF (w:=b) hi h1 (by rw[e];rfl) h2.2.1 λs' v g1 g2 g3 u=>hK s' ⟨⟨a,v,c,d,?_,hp.2 e v g2 g3,h3⟩,h4.upto u λc o n k e hne=>ha c o n k e (by simpa using hne),h5⟩ u;rw[g1,e];rfl
theorem vL{i:Nat}{x:Bool}(h:GRd false s g lv N L lu nu)(ha:Ap g lv L)(hi:i<128)(hK:∀s',GRd false s' g lv N L lu (upd1 nu i x)->Upto g s s'->K (.tup []) s'):wC TP 126 [.ptr g 4,i,x] K s:=by have ⟨⟨a,b,c,d,h1,h2,h3⟩,h4,h5⟩:=h;have hp:=h3.put (x:=x) hi;rcases(show i / 64=0∨i / 64=1 by omega)with e|e;refine pF (w:=c) hi h1 (by rw[e];rfl) h3.1 λs' v g1 g2 g3 u=>hK s' ⟨⟨a,b,v,d,?_,h2,hp.1 e v g2 g3⟩,h4.upto u λc o n k e hne=>ha c o n k e (by simpa using hne),h5⟩ u;rw[g1,e];rfl;refine pF (w:=d) hi h1 (by rw[e];rfl) h3.2.1 λs' v g1 g2 g3 u=>hK s' ⟨⟨a,b,c,v,?_,h2,hp.2 e v g2 g3⟩,h4.upto u λc o n k e hne=>ha c o n k e (by simpa using hne),h5⟩ u;rw[g1,e];rfl
theorem SetLink_in{i:Int}{x:Bool}(h:GRd false s g lv N L lu nu)(ha:Ap g lv L)(hE:¬(0<=i/\i<L.length)->K (Ii 2) s)
  (hK:∀s',0<=i/\i<L.length->GRd false s' g lv N L (upd1 lu i.toNat x) nu->Upto g s s'->K (Ii 0) s'):wC TP 84 [Pp g,i,x] K s:=by
 refine Xk (fk h ?_);have hll:=h.lok.ll;simp only[cQ,Bool.not_true,ae,aR,bu,Ep]
 by_cases hn:i<0
 grind [bD,cy,cP]
 obtain⟨k,rfl⟩:∃k:Nat,i=k:=⟨i.toNat,oM⟩
 simp only[aC hn,aR,bQ,aK,zAY,h.r1,h.lenL,dQ,ct,ae]
 grind [bD,aR,vK]
theorem SetNode_in{i:Int}{x:Bool}(h:GRd false s g lv N L lu nu)(ha:Ap g lv L)(hE:¬(0<=i/\i<N)->K (Ii 2) s)
  (hK:∀s',0<=i/\i<N->GRd false s' g lv N L lu (upd1 nu i.toNat x)->Upto g s s'->K (Ii 0) s'):wC TP 85 [Pp g,i,x] K s:=by
 refine Xm (fk h ?_);have hnn:=h.lok.nn;simp only[cQ,Bool.not_true,ae,aR,bu,Er]
 by_cases hn:i<0
 grind [bD,cy,cP]
 obtain⟨k,rfl⟩:∃k:Nat,i=k:=⟨i.toNat,oM⟩
 simp only[aC hn,aR,bQ,aK,zAY,h.r0,dQ,ct,ae]
 by_cases hk:(N:Int)<=(k:Int)
 simp_all
 grind [aR,vL]
variable{s0:Hq}{t:Bool}{n:Int}
def badL(n:Int)(x:Lk):Prop:=(x.1<0∨n<=x.1)∨(x.2.1<0∨n<=x.2.1)∨x.2.2<1∨1000<x.2.2
instance{n:Int}{x:Lk}:Decidable (badL n x):=by unfold badL;infer_instance
def linkE(n:Int):List Lk->Int
 |[]=>0
 |x::r=>if badL n x then 2 else if x.1=x.2.1 then 12 else linkE n r
def newE(n:Int)(L:List Lk):Int:=if n<1∨32<n then 2 else if 128<L.length then 5 else linkE n L
theorem KQ:∀{L:List Lk},linkE n L=0->∀x∈L,¬badL n x/\x.1≠x.2.1:=by
 intro L
 induction L with
 |nil=>intro _ x hx;simp at hx
 | cons y r ih=>
   grind [linkE]
theorem KR(h:newE n L=0):∃N:Nat,n=N/\LOk N L:=by
 unfold newE at h;split at h
 ·cases h
 ·rename_i h1
  split at h
  ·cases h
  rename_i h2;refine⟨n.toNat,oM,oM,oM,λx hx=>?_⟩;have ⟨a,b⟩:=KQ h x hx
  grind [badL]
theorem vM{b0:Nat}{x:Int}(h0:∃t e,s b0=some (t,.cells e [n]))(hK:K (decide (x<0∨n<=x)) s):wC TP 158 [x,Pp b0] K s:=by
 have ⟨t,e,h0⟩:=h0;refine Xz ?_;simp only[PS,bu,ae]
 by_cases h:x<0
 simp_all [yp,ae]
 have e1:decide (x<0∨n<=x)=decide (n<=x):=by simp[h]
 rw[e1]at hK;simp only[aC h,aR,au h0,g0Y,dQ,yp,ct,ae];exact hK
theorem KS{b0:Nat}(h0:∃t e,s b0=some (t,.cells e [n]))(hK:K (if n<1∨32<n then 2 else 0:Int) s):wC TP 159 [Pp b0] K s:=by
 have ⟨t,e,h0⟩:=h0;refine XA ?_;simp only[PT,au h0,g0Y,bu,ae]
 by_cases h:n<1
 grind [bD,yq,cy,cP]
 grind [aR,dy,yq,ct,cP,bD]
theorem KU{b2:Nat}(h0:∃t e,s b2=some (t,.cells e [lv]))(hl:cM lv=some L.length)(hK:K (if 128<L.length then 5 else 0:Int) s):wC TP 160 [Pp b2] K s:=by
 have ⟨t,e,h0⟩:=h0;refine XB ?_;simp only[PU,au h0,g0Y,hl,dy,ae]
 grind [bD,aR]
theorem KV{i:Nat}(hi:i<L.length):linkE n (L.drop i)=if badL n L[i]then 2 else if L[i].1=L[i].2.1 then 12 else linkE n (L.drop (i+1)):=by rw[drop_eq_getElem_cons hi,linkE]
theorem KW{b0 b2 b4:Nat}(h0:∃t e,s b0=some (t,.cells e [n]))(h2:∃t e,s b2=some (t,.cells e [lv]))(h4:∃t e,s b4=some (t,.cells e [.fn (.func 158) [] [Pp b0]]))(hs:SlR 3 s lv (L.map lkR))(hll:L.length<=1000000)
  (hK:∀s',Sub s s'->K (linkE n L:Int) s'):wC TP 161 [Pp b2,Pp b4] K s:=by
 have ⟨t0,e0,h0⟩:=h0;have ⟨t2,e2,h2⟩:=h2;have ⟨t4,e4,h4⟩:=h4;refine XD ?_;simp only[PW,au h2,g0Y,hs.len,lMY,ae,bG];refine⟨λys s2 m=>∃i:Nat,ys=[Ii i]/\i<=L.length/\m=L.length-i/\Sub s s2/\linkE n L=linkE n (L.drop i),⟨_,0,rfl,oM,rfl,.refl s,by rw[drop_zero]⟩,?_⟩;rintro f s2 m ⟨i,hy,hi,rfl,sub2,he⟩;simp only[cI,aq]at hy;rw[hy];simp only[PV,bu,ae];refine aL (λhlt=>?_) (λhge=>?_);have hlt:i<L.length:=gR;have ⟨p,o,r1,r2,_⟩:=vJ (hs.sub sub2) hlt;rw[KV hlt]at he;simp only[r1,r2,ae];refine aI λeb s8 heb h8 u8=>cD h8 rfl rfl rfl λs9 h9 u9=>?_;have sub9:=(u8.sub heb).upto u9 heb;have subs:=sub2.trans sub9;have q0:(lkR L[i])[0]?=some (Ii L[i].1):=rfl;have q1:(lkR L[i])[1]?=some (Ii L[i].2.1):=rfl;have q2:(lkR L[i])[2]?=some (Ii L[i].2.2):=rfl;have bad:badL n L[i]->K (Ii 2) s9:=gR;simp only[au (subs _ _ h4),g0Y,aK,zAY,au h9,q0,ae];refine gQ kR (vM ⟨_,_,subs _ _ h0⟩ ?_)
 by_cases hA:L[i].1<0∨n<=L[i].1
 simp only[aH hA,bD,th,pc,nE,cy,ae,aS];exact bad (.inl hA);simp only[aC hA,aR,au (subs _ _ h4),g0Y,au h9,q1,ae];refine gQ kR (vM ⟨_,_,subs _ _ h0⟩ ?_)
 by_cases hB:L[i].2.1<0∨n<=L[i].2.1
 simp only[aH hB,bD,th,pc,nE,cy,ct,ae,aS];exact bad (.inr (.inl hB));simp only[aC hB,aR,th,ct,aK,zAY,au h9,q2,bu,ae]
 by_cases hC:L[i].2.2<1
 simp only[aH hC,bD,pc,nE,cy,ct,ae,aS];exact bad (.inr (.inr (.inl hC)));simp only[aC hC,aR,pc,ct,aK,zAY,au h9,q2,dy,ae]
 by_cases hD:1000<L[i].2.2
 simp only[aH hD,bD,nE,ct,ae,aS];exact bad (.inr (.inr (.inr hD)));simp only[aC hD,aR,nE,ct,aK,zAY,au h9,q0,q1,cj,bJ,Bool.false_bne,ae,aS];rw[aj (by unfold badL;omega)]at he;refine aL (λhq=>?_) (λhq=>?_)
 grind
 rw[aj (beq_eq_false_iff_ne.1 hq)]at he;simp only[bg,ae];rw[aT];exact⟨_,oM,i+1,rfl,oM,rfl,subs,he⟩;have hge:i=L.length:=gR;rw[hge,drop_length]at he;have:=hK s2 sub2
 rwa [he]at this
theorem G8(hs:SlR 3 s lv (L.map lkR))(hll:L.length<=1000000)(hK:∀s',Sub s s'->K (newE n L:Int) s'):wC TP 125 [n,lv] (λv s=>wC TP 124 [v] K s) s:=by
 refine Xv (fG rfl λb0 s1 hb0 h1 u1=>fG hs.one λb2 s2 hb2 h2 u2=>aI λb4 s3 hb4 h3 u3=>cw h3 sI rfl λs4 h4 u4=>?_);have sub24:=(u3.sub hb4).upto u4 hb4;have sub4:=((u1.sub hb0).trans (u2.sub hb2)).trans sub24;have k0:=sub24 _ _ (u2.sub hb2 _ _ h1);have k2:=sub24 _ _ h2;refine aE (a:=[.fn (.func 159) [] [Pp b0],.fn (.func 160) [] [Pp b2],.fn (.func 161) [] [Pp b2,Pp b4]]) rfl ⟨rfl,aI λb8 s5 hb8 h5 u5=>?_⟩;have sub45:=u5.sub hb8;have sub5:=sub4.trans sub45;refine Xt ?_;have hsl:Sl s5 (.slc b8 0 3 (some 3) 1) [AV.fn (.func 159) [] [Pp b0],.fn (.func 160) [] [Pp b2],.fn (.func 161) [] [Pp b2,Pp b4]]:=Sl.mk h5 rfl sI;refine⟨λys s2 m=>∃i:Nat,ys=[Ii i]/\i<=3/\m=3-i/\Sub s5 s2/\(1<=i->¬(n<1∨32<n))/\(2<=i->¬ 128<L.length)/\(3<=i->linkE n L=0),⟨_,0,rfl,oM,rfl,.refl s5,oM,oM,oM⟩,?_⟩;rintro f s6 m ⟨i,hy,hi,rfl,sub6,c1,c2,c3⟩;simp only[cI,aq]at hy;rw[hy];have subA:=sub5.trans sub6;have subB:=sub45.trans sub6;simp only[PO,bu,ae,aS];refine aL (λhlt=>?_) (λhge=>?_);have hlt:i<3:=gR;have ⟨p,g1,g2⟩:=(hsl.sub sub6).get (i:=i) hlt;simp only[g1,ae,g2];have e1:aA.i64.wrap ((i:Int)+1)=((i+1:Nat):Int):=by grind [aT]
 rcases(show i=0∨i=1∨i=2 by omega)with rfl|rfl|rfl;refine gQ kR (KS ⟨_,_,subB _ _ k0⟩ ?_)
 by_cases h:n<1∨32<n
 have e:newE n L=2:=by unfold newE;rw[ak h]
 have:=hK s6 subA;rw[e]at this;rw[ak h];exact this;rw[aj h];exact⟨_,oM,1,rfl,oM,rfl,sub6,λ_=>h,oM,oM⟩;refine gQ kR (KU (L:=L) ⟨_,_,subB _ _ k2⟩ (by rw[hs.len,lMY]) ?_)
 by_cases h:128<L.length
 have e:newE n L=5:=by unfold newE;rw[aj (c1 oM),ak h]
 have:=hK s6 subA;rw[e]at this;rw[ak h];exact this;rw[aj h];exact⟨_,oM,2,rfl,oM,rfl,sub6,λ_=>c1 oM,λ_=>h,oM⟩;refine gQ kR (KW (L:=L) ⟨_,_,subB _ _ k0⟩ ⟨_,_,subB _ _ k2⟩ ⟨_,_,(sub45.trans sub6) _ _ h4⟩ (hs.sub subA) hll λs7 sub7=>?_);have e:newE n L=linkE n L:=by unfold newE;rw[aj (c1 oM),aj (c2 oM)]
 have:=hK s7 (subA.trans sub7);rw[e]at this;simp only[cj,bJ,Bool.true_bne,ae,bg,e1]
 by_cases h:linkE n L=0
 rw[show(!(linkE n L == 0))=false by rw[h];rfl];exact⟨_,oM,3,rfl,oM,rfl,sub6.trans sub7,λ_=>c1 oM,λ_=>c2 oM,λ_=>h⟩;have:(!(linkE n L == 0))=true:=by simp[h]
 rw[this];simpa using by assumption
 grind [newE]
structure Gr(s0 s:Hq)(g:Nat)(lv:AV)(N:Nat)(L:List Lk)(lu nu:Nat->Bool):Prop where
 rd:GRd false s g lv N L lu nu
 fg:s0 g=none
 fl:∀b o n c,lv=.slc b o n c 3->L≠[]->s0 b=none
 ap:Ap g lv L
theorem Te{k:Nat}:upd1 (λj=>decide (j<k)) k true=λj=>decide (j<k+1):=by
 grind [upd1]
theorem New_in(hs:SlR 3 s lv (L.map lkR))(hll:L.length<=100000)
  (hE:newE n L≠0->∀s',Sub s s'->K (.tup [.nilptr,(newE n L:Int)]) s')
  (hK:newE n L=0->∀N:Nat,n=N->∀s' g lv',Sub s s'->Gr s s' g lv' N L (λj=>decide (j<L.length)) (λj=>decide (j<N))->K (.tup [Pp g,Ii 0]) s'):wC TP 76 [n,lv] K s:=by
 refine Xi (G8 hs oM λs1 sub1=>?_);simp only[cj,bJ,Bool.true_bne,ae]
 by_cases he:newE n L=0
 ·obtain⟨N,rfl,lok⟩:=KR he
  rw[he];have e0:(!((0:Int) == 0))=false:=rfl;rw[e0];have hnn:=lok.nn;have hll:=lok.ll;refine ud (hs.sub sub1) oM λlv' s2 sub2 sl2 fr2=>?_;have hone:=sl2.one;refine aE (a:=[N,lv',Iq 0,Iq 0,Iq 0,Iq 0]) ?_ ⟨?_,aI λg s3 hg h3 u3=>?_⟩;simp only[aM,dB];rw[fZ hone];rfl
  simp_all
  have sub3:=u3.sub hg;have subs:=(sub1.trans sub2).trans sub3;have hg0:s g=none:=by
   cases q:s g with
   |none=>rfl
   |some y=>rw[sub2 g y (sub1 g y q)]at hg;cases hg
  have ap:Ap g lv' L:=λb o n c e hne=>by have:=sl2.was b o n c e (by simpa using hne);rintro rfl;exact this hg
  have fl:∀b o n c,lv'=.slc b o n c 3->L≠[]->s b=none:=λb o n c e hne=>by
   have h:=fr2 b o n c e hne;cases q:s b with
   |none=>rfl
   |some y=>rw[sub1 b y q]at h;cases h
  have z3:GRd false s3 g lv' N L (λj=>decide (j<0)) (λj=>decide (j<0)):=⟨⟨0,0,0,0,h3,by simp[Wd],by simp[Wd]⟩,sl2.sub sub3,lok⟩
  refine⟨λys s2 m=>∃i:Nat,ys=[Ii i]/\i<=N/\m=N-i/\Sub s s2/\GRd false s2 g lv' N L (λj=>decide (j<0)) (λj=>decide (j<i)),⟨_,0,rfl,oM,rfl,subs,z3⟩,?_⟩;rintro f s4 m ⟨i,hy,hi,rfl,sub4,z4⟩;simp only[cI,aq]at hy;rw[hy];simp only[PN,bu,ae,bG,aS];refine aL (λhlt=>?_) (λhge=>?_);have hlt:i<N:=gR;refine vL z4 ap oM λs5 z5 u5=>?_;rw[Te]at z5;simp only[bg,ae];rw[aT];exact⟨_,oM,i+1,rfl,oM,rfl,sub4.upto u5 hg0,z5⟩;have hge:i=N:=gR;subst hge;simp only[(hs.sub sub4).len,lMY,ae];refine⟨λys s2 m=>∃k:Nat,ys=[Ii k]/\k<=L.length/\m=L.length-k/\Sub s s2/\GRd false s2 g lv' i L (λj=>decide (j<k)) (λj=>decide (j<i)),⟨_,0,rfl,oM,rfl,sub4,z4⟩,?_⟩;rintro f s5 m ⟨k,hy,hk,rfl,sub5,z5⟩;simp only[cI,aq]at hy;rw[hy];simp only[PM,bu,ae,aS];refine aL (λhlt=>?_) (λhge=>?_);have hlt:k<L.length:=gR;refine vK z5 ap oM λs6 z6 u6=>?_;rw[Te]at z6;simp only[bg,ae];rw[aT];exact⟨_,oM,k+1,rfl,oM,rfl,sub5.upto u6 hg0,z6⟩;have hge:k=L.length:=gR;subst hge;exact hK he i rfl s5 g lv' sub5 ⟨z5,hg0,fl,ap⟩
 grind [bD]
end Go.AM.TG
namespace Go.AM.RT
open Go Go.Proofs List Nat
set_option maxRecDepth 100000
variable{r s' s0 M q:Hq}{n:Nat}{v:AV}{L:List LS.Lnk}{cs:List AV}
abbrev Msg:=Nat×Ntc
def msgR(m:Msg)(lv:AV):List AV:=[m.1,m.2.1,m.2.2.1,m.2.2.2.1,lv]
structure WayAt(M q:Hq)(v:AV)(ms:List Msg):Prop where
 ex:∃rows,AccR 192 5 (λ_=>none) q v rows/\rows.length=ms.length/\∀(i:Nat) (m:Msg),ms[i]?=some m->∃lv,rows[i]?=some (msgR m lv)/\LS.Sli M lv m.2.2.2.2
structure NtAt(M:Hq)(v:AV)(ns:List Ntc):Prop where
 ex:∃rows,SlR 4 M v rows/\rows.length=ns.length/\∀(i:Nat) (n:Ntc),ns[i]?=some n->∃lv,rows[i]?=some (ntR n lv)/\LS.Sli M lv n.2.2.2
theorem WayAt.sub{M':Hq}{ms:List Msg}(z:WayAt M q v ms)(k:Sub M M'):WayAt M' q v ms:=by
 have ⟨rows,h1,h2,h3⟩:=z.ex;exact⟨rows,h1,h2,λi m hi=>by have ⟨lv,a,c⟩:=h3 i m hi;exact⟨lv,a,c.sub k⟩⟩
theorem WayAt.nil:WayAt M (λ_=>none) .nilslc []:=⟨[],⟨(λr h=>by cases h),.inl ⟨rfl,rfl⟩⟩,rfl,λi m h=>by cases h⟩
theorem NtAt.sub{M':Hq}{ns:List Ntc}(z:NtAt M v ns)(k:Sub M M'):NtAt M' v ns:=by
 have ⟨rows,h1,h2,h3⟩:=z.ex;exact⟨rows,h1.sub k,h2,λi m hi=>by have ⟨lv,a,c⟩:=h3 i m hi;exact⟨lv,a,c.sub k⟩⟩
def far(L:List LS.Lnk)(n i:Nat):Nat:=((L.getD i (0,0,0)).1+(L.getD i (0,0,0)).2.1-(n:Int)).toNat
def msgs(L:List LS.Lnk)(n:Nat)(ns:List Ntc):List Msg:=ns.map λx=>(far L n x.1,x)
theorem Nts.at{ns:List Ntc}(z:Nts s0 s' v ns):NtAt (newp s0 s') v ns:=by
 have ⟨rows,h1,h2,h3⟩:=z.ex;have ⟨a1,a2⟩:=h1;refine⟨rows,⟨a1,?_⟩,h2,λi n hi=>?_⟩
 ·rcases a2 with h|⟨b,q1,q2,q3⟩
  exact .inl h
  ·exact .inr ⟨b,0,none,q2,(λc h=>by cases h),λ_=>⟨false,190,rows.flatten,by rw[ol q1];exact q3,by rw[ki a1];omega,by rw[drop_zero,jN (by rw[ki a1];omega)]⟩⟩
 have ⟨lv,e1,e2,e3⟩:=h3 i n hi;refine⟨lv,e1,?_⟩;rcases e2 with h|⟨b,o,c,q1,q2,q3⟩;exact .inl h;refine .inr ⟨b,o,c,q1,q2,λhn=>?_⟩;have ⟨t1,el,cs,q4,q5⟩:=q3 hn;exact⟨t1,el,cs,by rw[ol gR];exact q4,q5⟩
variable{s:Hq}{g:Nat}{rsl wv:AV}{now:Int}
abbrev plC(cs:List AV)(g:Nat)(rsl wv:AV)(now:Int):List AV:=cs ++ [.ptr g 0,rsl,wv,now]
theorem vN{k:Nat}(h:cs.length=19)(hk:k<19):(plC cs g rsl wv now)[k]?=cs[k]?:=gR
theorem pl19(h:cs.length=19):(plC cs g rsl wv now)[19]?=some (.ptr g 0):=gR
theorem pl20(h:cs.length=19):(plC cs g rsl wv now)[20]?=some rsl:=gR
theorem pl21(h:cs.length=19):(plC cs g rsl wv now)[21]?=some wv:=gR
theorem pl22(h:cs.length=19):(plC cs g rsl wv now)[22]?=some (Ii now):=by simp_all
theorem AD{k:Nat}{x:AV}(h:cs.length=19):(plC cs g rsl wv now).set (19+k) x=cs ++ [.ptr g 0,rsl,wv,now].set k x:=by
 grind
theorem Sep.upto{l:List Hq}{c:Nat}(z:Sep s l)(u:Upto c s s')(h:∀y∈l,y c=none):Sep s' l:=⟨λy hy i e hi=>by rw[u i λq=>gR];exact z.sub y hy i e hi,z.dj⟩
theorem Sep.nn{l:List Hq}{c:Nat}(z:Sep s l)(h:s c=none):∀y∈l,y c=none:=λy hy=>dU (z.sub y hy) h
theorem Sep.grow{l:List Hq}{rows rows':List (List AV)}(z:Sep s (q::l))(h:AccR 192 5 (λ_=>none) q v rows){v':AV}(h':AccR 192 5 (λ_=>none) s' v' rows')(kp:aV (cN 5 v) s s')(hb:∀b,cN 5 v' b->s b=none∨cN 5 v b):∃q',AccR 192 5 (λ_=>none) q' v' rows'/\Sep s' (q'::l):=by
 obtain⟨hq,hd⟩:=aB.1 z.dj;have own:∀b,cN 5 v b->q b≠none:=λb ⟨o,n,c,e⟩=>by
  rcases h.2 with⟨q1,_⟩|⟨b',_,q1,q2⟩
  ·rw[e]at q1;cases q1
  grind
 have keep:∀y∈l,Sub y s':=λy hy i e hi=>kp i e (z.sub y (by simp[hy]) i e hi) λq1=>by rw[hq y hy i (own i q1)]at hi;cases hi
 rcases h'.2 with⟨e1,e2⟩|⟨b,_,e1,e2⟩
 ·exact⟨λ_=>none,⟨h'.1,.inl ⟨e1,e2⟩⟩,⟨λy hy=>by
   rcases mCY hy with e|hy
   ·rw[e];intro i e hi;cases hi
   exact keep y hy,aB.2 ⟨λy hy i hi=>absurd rfl hi,hd⟩⟩⟩
 refine⟨one b (false,.cells 192 rows'.flatten),⟨h'.1,.inr ⟨b,rfl,e1,bW⟩⟩,⟨λy hy=>?_,aB.2 ⟨λy hy i hi=>?_,hd⟩⟩⟩;rcases mCY hy with e|hy;rw[e];intro i x hi;have:=jl (c:=b) (x:=(false,Blk.cells 192 rows'.flatten)) (i:=i) (by rw[hi];simp)
 grind [bW]
 exact keep y hy;rw[jl hi];rcases hb b ⟨_,_,_,e1⟩with q1|q1;exact dU (z.sub y (by simp[hy])) q1;exact hq y hy b (own b q1)
theorem AccR.zero{elem:ah}{es:Nat}{rows:List (List AV)}(h:AccR elem es s0 s v rows):AccR elem es (λ_=>none) s v rows:=⟨h.1,h.2.imp id λ⟨b,_,q⟩=>⟨b,rfl,q⟩⟩
theorem AccR.up{elem:ah}{es:Nat}{rows:List (List AV)}(h:AccR elem es s0 s v rows)(k:Sub s s'):AccR elem es s0 s' v rows:=⟨h.1,h.2.imp id λ⟨b,q1,q2,q3⟩=>⟨b,q1,q2,k _ _ q3⟩⟩
theorem KX{a b c d:AV}{lv:AV}(ha:a.one=true)(hb:aX [b,c,d,lv]=true):aM [(Ii 0),(Ii 0),(Ii 0),(Ii 0),.nilslc] [(0,1,a),(1,4,.agg [b,c,d,lv])]=some [a,b,c,d,lv]:=by simp only[aM,fZ ha,jZ];rfl
theorem fill5b{a b c d lv:AV}:aM (repl 1 [(Ii 0),(Ii 0),(Ii 0),(Ii 0),.nilslc]) [(0,5,.agg [a,b,c,d,lv])]=some [a,b,c,d,lv]:=rfl
variable{K:AV→Hq→Prop}{t:Hq}{pl:Nat}{lkv:AV}{X:List Hq}
theorem WayAt.snoc{ms:List Msg}{m:Msg}{rows:List (List AV)}{q':Hq}{v' lv:AV}(h1:AccR 192 5 (λ_=>none) q' v' (rows ++ [msgR m lv]))(h2:rows.length=ms.length)(h3:∀(i:Nat) (m:Msg),ms[i]?=some m->∃lv,rows[i]?=some (msgR m lv)/\LS.Sli M lv m.2.2.2.2)(h4:LS.Sli M lv m.2.2.2.2):WayAt M q' v' (ms ++ [m]):=by
 refine⟨_,h1,by simp[h2],λi x hi=>?_⟩
 grind
theorem Ab{ms:List Msg}{ns:List Ntc}(clen:cs.length=19)(c2:cs[2]?=some lkv)(hl:SlR 3 M lkv (L.map LS.lnR))(hL:∀y∈L,(0<=y.1/\y.1<100)/\(0<=y.2.1/\y.2.1<100)/\0<=y.2.2)(hL2:L.length<=64)(hn100:n<100)
  (z:Sep s (one pl (false,.cells 96 (plC cs g rsl wv now))::q::M::X)) (hw:WayAt M q wv ms) (hn:NtAt M v ns) (hns:∀x∈ns,owB L (n:Int) (x.1:Int)=true) (hlen:ms.length+ns.length<=16777216)
  (hK:∀s' q' wv',Sep s' (one pl (false,.cells 96 (plC cs g rsl wv' now))::q'::M::X)->WayAt M q' wv' (ms++msgs L n ns)->K true s'):wC TP 87 [Pp pl,n,v] K s:=by
 refine h_ ?_;have ⟨nr,n1,n2,n3⟩:=hn.ex;have ln:cM v=some ns.length:=by rw[n1.len,n2]
 refine⟨λys t m=>∃(i:Nat) (q:Hq) (wv:AV),ys=[Ii i]/\i<=ns.length/\m=ns.length-i/\Sep t (one pl (false,.cells 96 (plC cs g rsl wv now))::q::M::X)/\WayAt M q wv (ms++msgs L n (ns.take i)),⟨_,0,q,wv,rfl,oM,rfl,z,by simpa [msgs]using hw⟩,?_⟩;rintro f t m ⟨i,q,wv,hy,hi,rfl,z,hw⟩;simp only[cI,aq]at hy;rw[hy];simp only[Rk,ln,ae,bu];refine aL (λhlt=>?_) (λhge=>?_)
 rotate_left
 have:i=ns.length:=by have:=oF hge;omega
 rw[this,dI]at hw;exact hK t q wv z hw;have hlt:i<ns.length:=gR;have ⟨x,hx⟩:∃x,x=ns[i]:=⟨_,rfl⟩
 have hxi:ns[i]?=some x:=gR;have hox:=hns x (by rw[hx];exact aN hlt);have hox':=oT hox;have ⟨lv,e1,e2⟩:=n3 i x hxi;have kM:=z.sub M sI;obtain⟨b,o,g1,g2,g3⟩:=(n1.sub kM).get e1;have hpl:=z.sub (one pl (false,.cells 96 (plC cs g rsl wv now))) sI _ _ bW;have r0:rd1 t (.ptr b o)=some (Ii x.1):=g3 0 (by simp);have hlk:x.1<L.length:=by have:=hox'.2.1;omega
 have ll:cM lkv=some L.length:=by rw[hl.len,lMY]
 simp only[g1,aK,Nat.add_zero,r0,ae,bu];rw[aC oM,aR];simp only[bQ,aK,zAY,ae,au hpl,vN (g:=g) (rsl:=rsl) (wv:=wv) (now:=now) clen (show 2<19 by omega),c2,ll,dQ];rw[aC oM];unfold E6;simp only[ct,ae,aR,bQ,aK,zAY,Nat.add_zero,au hpl,vN (g:=g) (rsl:=rsl) (wv:=wv) (now:=now) clen (show 2<19 by omega),c2,g1,r0];have ⟨y,hy2⟩:∃y,y=L[x.1]:=⟨_,rfl⟩
 have hyL:y∈L:=by rw[hy2];exact aN hlk
 have hyg:L.getD x.1 (0,0,0)=y:=by rw[dO,gE hlk,hy2];rfl
 have ⟨b2,o2,g4,g5,g6⟩:=(hl.sub kM).get (i:=x.1) (r:=LS.lnR y) (by rw[getElem?_map,gE hlk,hy2];rfl);simp only[g4,ae];refine aE g5 (aI λb17 t1 hb17t w17' u17=>?_);have z1:=z.fresh (u17.sub hb17t) hb17t w17';refine cD w17' rfl rfl (by rfl) λt2 w2 u2=>?_;have z2:=Sep.wr1 z1 u2 (by rw[bW];simp) w2;have e0:(LS.lnR y)[0]?=some (Ii y.1):=rfl;have e1':(LS.lnR y)[1]?=some (Ii y.2.1):=rfl;simp only[ae,au w2,e0,cj,bJ,Bool.true_bne];have z3:=z2.drop;have kM2:=z3.sub M sI;have hpl2:=z3.sub (one pl (false,.cells 96 (plC cs g rsl wv now))) sI _ _ bW;obtain⟨hy1,hy2',_⟩:=hL y hyL;have hfar:((far L n x.1:Nat):Int)=y.1+y.2.1-(n:Int):=by unfold far;rw[hyg];have:=hox'.2.2;rw[Int.toNat_natCast,hyg]at this;omega
 have main:∀t51 t55:AV,cW t51 t55 false=some (.bool false)->yV (Pp pl) n v i (Pp b17) t51 t55 (λys t m=>∃(i:Nat) (q:Hq) (wv:AV),ys=[Ii i]/\i<=ns.length/\m=ns.length-i/\Sep t (one pl (false,.cells 96 (plC cs g rsl wv now))::q::M::X)/\WayAt M q wv (ms++msgs L n (ns.take i))) (ns.length-i) K t2:=by
  intro c1 c2' hpk;unfold yV aS;have ⟨b3,o3,g7,g8,_⟩:=(n1.sub kM2).get e1;have gg:rdN t2 4 (.ptr b3 o3)=some (ntR x lv):=g8;simp only[hpk,ae,aR,bQ,aK,zAY,au hpl2,pl21 (g:=g) (rsl:=rsl) (wv:=wv) (now:=now) clen,au w2,e0,e1',bg,eC,g7,gg];have w1:aA.i64.wrap (y.1+y.2.1)=y.1+y.2.1:=aT oM oM;have w2':aA.i64.wrap (y.1+y.2.1-(n:Int))=y.1+y.2.1-(n:Int):=aT oM oM;rw[w1,w2',<- hfar];have on4:aX [x.1,x.2.1,x.2.2.1,lv]=true:=by simp[e2.one]
  refine aE (KX rfl on4) (aE fill5b ⟨by simp[e2.one],aI λb37 t3 hb37t w37' u37=>?_⟩);have w37':Hc t3 b37 192 (msgR (far L n x.1,x) lv):=w37';have z4:=z3.more (u37.sub hb37t);obtain⟨rows,a1,a2,a3⟩:=hw.ex;have hq4:=z4.sub q sI;have qn:∀c,cN 5 wv c->q c≠none:=λc ⟨o,k,e,q1⟩=>by
   rcases a1.2 with⟨q2,_⟩|⟨b',_,q2,q3⟩
   ·rw[q1]at q2;cases q2
   ·rw[q1]at q2;cases q2;rw[q3];simp
  have hne:∀c,cN 5 wv c->c≠b37:=λc hc e=>by have:=qn c hc;rw[e]at this;exact this (dU (z3.sub q sI) hb37t)
  refine uN (rows:=rows) (row:=msgR (far L n x.1,x) lv) (AccR.up a1 hq4) (λi e h=>by cases h) (SlR.mk (rows:=[msgR (far L n x.1,x) lv]) (by intro r hr;rw[bN]at hr;rw[hr];rfl) (by simpa using w37') rfl sI) (λc o k e q1 q2=>by cases q1;exact hne _ q2 rfl) (by rw[a2,lAp];unfold msgs;rw[lMY,length_take];omega) λv' t5 acc5 kp5 hb5=>?_;have ⟨q',acc',z5⟩:=Sep.grow (z4.perm (List.Perm.swap _ _ _)) a1 acc5 kp5 hb5;have z6:=z5.perm (List.Perm.swap _ _ _);have hpl5:=z6.sub (one pl (false,.cells 96 (plC cs g rsl wv now))) sI _ _ bW;have ov:=acc'.sl.one;refine cw hpl5 (by simp[clen]) ov λt6 w6 u6=>?_;have z7:=Sep.wr1 z6 u6 (by rw[bW];simp) w6;rw[i6,show(21:Nat)=19+2 from rfl,AD clen]at z7;rw[aT];refine⟨_,oM,i+1,q',v',sI,oM,rfl,z7,?_⟩;have em:ms++msgs L n (ns.take (i+1))=(ms++msgs L n (ns.take i)) ++ [(far L n x.1,x)]:=by unfold msgs;rw[bO,hxi,bM,cn];rfl
  rw[em];exact WayAt.snoc acc' a2 a3 e2
 have hor:=hox'.2.2;rw[Int.toNat_natCast,hyg]at hor;refine aL (λhd=>?_) (λhd=>?_);have hd:y.1≠(n:Int):=by simpa using hd
 simp only[ae,e1',cj,bJ,Bool.true_bne];have he:(y.2.1 == (n:Int))=true:=by simp;omega
 have hd':(y.1 == (n:Int))=false:=by simpa using hd
 rw[he,hd'];exact main _ _ rfl;rw[hd];exact main _ _ rfl
variable{r' s2 h:Hq}{w:AV}{l1:List Hq}
theorem KY(z:Sep s (r::l1)){y:Hq}(hy:y∈l1):Sub y (rest s r):=λi e hi=>by
 have h1:r i=none:=by
  cases q:r i with
  |none=>rfl
  |some x=>rw[(aB.1 z.dj).1 y hy i (by rw[q];simp)]at hi;cases hi
 unfold rest;rw[ak h1];exact z.sub y (by simp[hy]) i e hi
theorem vO(z:Sep s (r::l1))(g:Goes r s r' s2)(k1:Sub r' s0)(k2:Sub (rest s r) s0)(k3:Sub s0 s2):Sep s2 (newp s0 s2::r'::l1):=by
 have zg:=Sep.goes (l1:=[]) z g;refine Sep.newp ⟨λy hy=>?_,zg.dj⟩ k3;rcases mCY hy with rfl|hy
 ·exact k1
 ·exact(KY z hy).trans k2
structure Pst where
 R:Nat->Ro
 lu:Nat->Bool
 nu:Nat->Bool
 way:List Msg
 now:Int
def updR(R:Nat->Ro)(n:Nat)(S:Ro)(m:Nat):Ro:=if m=n then S else R m
def rcv(N:Nat)(L:List LS.Lnk)(T:Pst)(m:Msg):Pst:=
 if TG.upI L T.lu T.nu (m.2.1:Int)=true then{ T with R:=updR T.R m.1 (iP N m.1 L (T.R m.1) m.2.2),way:=T.way++msgs L m.1 (il N m.1 L (T.R m.1) (m.2.1:Int) m.2.2) }else T
def dK(L:List LS.Lnk)(lu nu:Nat->Bool)(n:Nat):List Int:=((ownL L n).filter λi:Nat=>TG.upI L lu nu (i:Int)).map λ(i:Nat)=>(i:Int)
def tck(L:List LS.Lnk)(T:Pst)(n:Nat):Pst:=
 if T.nu n=true then{ T with R:=updR T.R n (iO n L (T.R n) T.now (dK L T.lu T.nu n)),way:=T.way++msgs L n (gD n L (T.R n) T.now (dK L T.lu T.nu n)) }else T
def ph1(N:Nat)(L:List LS.Lnk)(T:Pst)(i:Nat):Pst:=(T.way.take i).foldl (rcv N L) { T with way:=[],now:=T.now+1 }
def ph2(N:Nat)(L:List LS.Lnk)(T:Pst)(n:Nat):Pst:=(List.range n).foldl (tck L) (ph1 N L T T.way.length)
def fM(N:Nat)(L:List LS.Lnk)(T:Pst):Pst:=ph2 N L T N
structure TickOk(N:Nat)(L:List LS.Lnk)(T:Pst):Prop where
 r:∀(i:Nat) (m:Msg),T.way[i]?=some m->m.1<N/\(TG.upI L T.lu T.nu (m.2.1:Int)=true->RvP N m.1 L ((ph1 N L T i).R m.1) (m.2.1:Int) m.2.2)
 t:∀n,n<N->T.nu n=true->TkP n L ((ph2 N L T n).R n) (T.now+1) (dK L T.lu T.nu n)
 l:(fM N L T).way.length<=16777216
 w:T.way.length<=16777216
theorem oq{N i:Nat}{T:Pst}{m:Msg}(h:T.way[i]?=some m):ph1 N L T (i+1)=rcv N L (ph1 N L T i) m:=by unfold ph1;rw[bO,h,foldl_append];rfl
theorem lJ{N n:Nat}{T:Pst}:ph2 N L T (n+1)=tck L (ph2 N L T n) n:=by unfold ph2;rw[fi,foldl_append];rfl
theorem Tf{N:Nat}{T:Pst}{m:Msg}:(rcv N L T m).lu=T.lu/\(rcv N L T m).nu=T.nu/\(rcv N L T m).now=T.now/\T.way.length<=(rcv N L T m).way.length:=by
 grind [rcv]
theorem KZ{T:Pst}{n:Nat}:(tck L T n).lu=T.lu/\(tck L T n).nu=T.nu/\(tck L T n).now=T.now/\T.way.length<=(tck L T n).way.length:=by
 grind [tck]
theorem AE{N:Nat}{T:Pst}:∀{i:Nat},(ph1 N L T i).lu=T.lu/\(ph1 N L T i).nu=T.nu/\(ph1 N L T i).now=T.now+1
 | 0=>⟨rfl,rfl,rfl⟩
 | i+1=>by
   cases q:T.way[i]? with
   | none=>
     have:ph1 N L T (i+1)=ph1 N L T i:=by unfold ph1;rw[bO,q];simp
     rw[this];exact AE
   | some m=>
     rw[oq q];have ⟨a,b,c⟩:=AE (N:=N) (T:=T) (i:=i);have ⟨a',b',c',_⟩:=Tf (N:=N) (L:=L) (T:=ph1 N L T i) (m:=m)
     grind
theorem jO{N:Nat}{T:Pst}:∀{i:Nat},(ph2 N L T i).lu=T.lu/\(ph2 N L T i).nu=T.nu/\(ph2 N L T i).now=T.now+1
 | 0=>AE
 | i+1=>by
   rw[lJ];have ⟨a,b,c⟩:=jO (N:=N) (T:=T) (i:=i);have ⟨a',b',c',_⟩:=KZ (L:=L) (T:=ph2 N L T i) (n:=i)
   grind
theorem K2{N:Nat}{T:Pst}{i:Nat}:(ph1 N L T i).way.length<=(ph1 N L T (i+1)).way.length:=by
 cases q:T.way[i]? with
 | none=>
   have:ph1 N L T (i+1)=ph1 N L T i:=by unfold ph1;rw[bO,q];simp
   grind
 |some m=>simp_all [oq,Tf]
theorem K3{f:Nat->Nat}(h:∀i,f i<=f (i+1)){i j:Nat}(hij:i<=j):f i<=f j:=by
 induction j with
 |zero=>grind
 | succ j ih=>
   grind
theorem len1{N:Nat}{T:Pst}{i:Nat}(hi:i<=T.way.length):(ph1 N L T i).way.length<=(fM N L T).way.length:=
 Nat.le_trans (K3 (f:=λi=>(ph1 N L T i).way.length) (λi=>K2) hi) (K3 (f:=λi=>(ph2 N L T i).way.length) (λi=>by show _<=(ph2 N L T (i+1)).way.length;grind [lJ,KZ]) (zero_le N))
theorem len2{N:Nat}{T:Pst}{i:Nat}(hi:i<=N):(ph2 N L T i).way.length<=(fM N L T).way.length:=
 K3 (f:=λi=>(ph2 N L T i).way.length) (λi=>by show _<=(ph2 N L T (i+1)).way.length;grind [lJ,KZ]) hi
variable{A rs:List Hq}{F:TN.NFab}{E:Hq}{T:Pst}
theorem Sep.idxA(z:Sep s (A++X))(is:List Nat)(h:is.Nodup):Sep s (is.filterMap (A[·]?)++X):=by
 have ⟨d1,d2,d3⟩:=fh.1 z.dj;have za:Sep s A:=⟨λy hy=>z.sub y (by simp[hy]),d1⟩
 have zi:=za.idx is h;refine⟨λy hy=>?_,fh.2 ⟨zi.dj,d2,gR⟩⟩;rcases mP hy with hy|hy;exact zi.sub y hy;exact z.sub y (by simp[hy])
theorem Sep.pull(z:Sep s (A++rs))(hn:rs[n]?=some r):Sep s (r::(A++(rs.take n++rs.drop (n+1)))):=by
 have e:rs=rs.take n++r::rs.drop (n+1):=by have ⟨h1,h2⟩:=gS hn;rw[<- h2,getElem_cons_drop,take_append_drop]
 rw[e,<- cn]at z;have:=z.perm perm_middle
 grind
theorem Sep.push(hn:rs[n]?=some r)(z:Sep s (r'::(A++(rs.take n++rs.drop (n+1))))):Sep s (A++rs.set n r'):=by have ⟨h1,h2⟩:=gS hn;have e:rs.set n r'=rs.take n++r'::rs.drop (n+1):=set_eq_take_append_cons_drop.trans (ak h1);rw[e,<- cn];rw[<- cn]at z;exact z.perm perm_middle.symm
abbrev nF(F:TN.NFab):Nat:=F.x.lf+F.x.sp
structure PlP(F:TN.NFab)(cs:List AV)(t:Hq)(pl:Nat)(E M:Hq)(T:Pst)(ar g:Nat)(wv glv:AV)(G q:Hq)(rs:List Hq)(ps:List Nat):Prop where
 sep:Sep t ([one pl (false,.cells 96 (plC cs g (.slc ar 0 (nF F) none 1) wv T.now)),q,M,one ar (false,.cells 22 (ps.map λp=>Pp p)),G,E]++rs)
 rl:rs.length=nF F
 pn:ps.length=nF F
 gr:TG.GRd false G g glv (nF F) F.L T.lu T.nu
 ap:TG.Ap g glv F.L
 fab:TN.NFR M cs F
 way:WayAt M q wv T.way
 ro:∀(n:Nat) (r:Hq) (p:Nat),rs[n]?=some r->ps[n]?=some p->RoAt (nF F) F.L (F.x.lf:Int) (F.x.sp:Int) n r p (T.R n)
def PlW(F:TN.NFab)(cs:List AV)(t:Hq)(pl:Nat)(E M:Hq)(T:Pst):Prop:=∃ar g wv glv G q rs ps,PlP F cs t pl E M T ar g wv glv G q rs ps
theorem kJ(h:TN.NFR M cs F):cs.length=19/\∃v2,cs[2]?=some v2/\SlR 3 M v2 (F.L.map LS.lnR):=by obtain⟨v2,v3,v4,v5,v6,v7,rfl,h2,_⟩:=h.ex;exact⟨rfl,v2,rfl,h2⟩
theorem jP(ok:TN.NFok F):(∀y∈F.L,(0<=y.1/\y.1<100)/\(0<=y.2.1/\y.2.1<100)/\0<=y.2.2)/\F.L.length<=64/\nF F<=7:=by
 have h1:=ok.x.lf;have h2:=ok.x.sp;have h3:=ok.Ln;refine⟨λy hy=>?_,oM,gR⟩;have ⟨a1,a2,a3⟩:=ok.L.2 y hy
 grind
theorem AF{ar N i p:Nat}{ps:List Nat}(hl:ps.length=N)(hi:ps[i]?=some p)(ht:Hc t ar 22 (ps.map λp=>AV.ptr p 0)):cF 1 (.slc ar 0 N none 1) i=some (.ptr ar i)/\rd1 t (.ptr ar i)=some (.ptr p 0):=by
 have ⟨h1,_⟩:=gS hi;have:blt i N=true:=by rw[blt_eq];omega
 exact⟨by simp[cF,this],by rw[au ht,getElem?_map,hi];rfl⟩
theorem AG{up:Nat->Bool}{ch:Nat->List LS.Rec}{x:Ntc}(h:x∈ntsL (ownL L n) up ch):owB L (n:Int) (x.1:Int)=true:=by
 grind [ntsL,jm]
theorem K4{b o k:Nat}{l:List AV}(hs:Sub s t)(h:rdN s k (.ptr b o)=some l):rdN t k (.ptr b o)=some l:=by
 cases q:s b with
 |none=>simp[rdN,q]at h
 | some y=>
   have:=hs b y q
   grind [rdN]
theorem Tg{b o j k:Nat}{l:List AV}(h:rdN s (j+k) (.ptr b o)=some l):rdN s k (.ptr b (o+j))=some (l.drop j):=by
 cases q:s b with
 |none=>simp[rdN,q]at h
 | some y=>
   have ⟨t,x⟩:=y;cases x with
   | cells e c=>
     simp only[rdN,q,ju]at h ⊢;cases e1:ble (o+(j+k)) c.length with
     |false=>rw[e1]at h;cases h
     | true=>
       rw[e1,aD]at h;have e2:=le_of_ble_eq_true e1;rw[bL oM,aD];cases h;rw[drop_take,drop_drop]
       congr 2
       omega
   |_=>simp[rdN,q]at h
theorem K5{ov:AV}{old:List Msg}{m:Msg}{i:Nat}{I0:List AV->Hq->Nat->Prop}{m0:Nat}(ok:TN.NFok F)(z:PlW F cs t pl E M T)(ho:WayAt M E ov old)(hm:old[i]?=some m)(hn:m.1<nF F)(hr:TG.upI F.L T.lu T.nu (m.2.1:Int)=true->RvP (nF F) m.1 F.L (T.R m.1) (m.2.1:Int) m.2.2)(hlen:(rcv (nF F) F.L T m).way.length<=16777216)(hold:old.length<=16777216)
  (hK:∀t' M',Sub M M'->PlW F cs t' pl E M' (rcv (nF F) F.L T m)->yY i I0 m0 K t'):y7 (Pp pl) ov i I0 m0 K t:=by
 have ⟨ar,g,wv,glv,G,q,rs,ps,z⟩:=z;have ⟨clen,v2,c2,hl⟩:=kJ z.fab;have ⟨rows,a1,a2,a3⟩:=ho.ex;have ⟨lv,e1,e2⟩:=a3 i m hm;have ⟨hi,_⟩:=gS hm;have kE:=z.sep.sub E sI;have kM:=z.sep.sub M sI;have kG:=z.sep.sub G sI;have hpl:=z.sep.sub (one pl (false,.cells 96 (plC cs g (.slc ar 0 (nF F) none 1) wv T.now))) sI _ _ bW;have ln:cM ov=some old.length:=by rw[a1.sl.len,a2]
 have ⟨b,o,g1,g2,g3⟩:=a1.sl.get e1;have r0:rd1 E (.ptr b (o+0))=some m.1:=g3 0 (by simp);have r1:rd1 E (.ptr b (o+1))=some m.2.1:=g3 1 (by simp);have rdE:∀{x:Hq}{k:Nat}{w:AV},Sub E x->rd1 E (.ptr b k)=some w->rd1 x (.ptr b k)=some w:=fun {x k w} hx h=>by
  rcases q:E b with _|y;simp[rd1,q]at h;have:=hx b y q
  grind [rd1]
 unfold y7;simp only[ln,ae,bu];rw[aH oM,bD];simp only[bQ,aK,zAY,Nat.add_zero,ae,au hpl,pl19 (g:=g) (rsl:=.slc ar 0 (nF F) none 1) (wv:=wv) (now:=T.now) clen,g1,rdE kE r1];refine TG.Up_in (z.gr.sub kG) λt1 k1=>?_;have z1:=z.sep.more k1;refine aL (λhup=>?_) (λhup=>?_);have hup:TG.upI F.L T.lu T.nu (m.2.1:Int)=false:=by simpa using hup
 refine hK t1 M (.refl _) ?_;unfold rcv;rw[aj (by rw[hup];simp)];exact⟨ar,g,wv,glv,G,q,rs,ps,z1,z.rl,z.pn,z.gr,z.ap,z.fab,z.way,z.ro⟩;have hup:TG.upI F.L T.lu T.nu (m.2.1:Int)=true:=by simpa using hup
 have hrv:=hr hup;have ⟨rt,hrt⟩:∃rt,rs[m.1]?=some rt:=⟨_,gE (by rw[z.rl];exact hn)⟩
 have ⟨p,hp⟩:∃p,ps[m.1]?=some p:=(by grind [PlP.pn])
 have hro:=z.ro m.1 rt p hrt hp;obtain⟨PL,hPL⟩:∃PL,PL=one pl (false,.cells 96 (plC cs g (.slc ar 0 (nF F) none 1) wv T.now)):=⟨_,rfl⟩
 obtain⟨AR,hAR⟩:∃AR,AR=one ar (false,.cells 22 (ps.map λp=>AV.ptr p 0)):=⟨_,rfl⟩
 obtain⟨Y,hY⟩:∃Y,Y=rs.take m.1++rs.drop (m.1+1):=⟨_,rfl⟩
 rw[<- hPL,<- hAR]at z1;have zp:=z1.pull hrt;rw[<- hY]at zp;have kE1:=zp.sub E sI;have r0:rd1 E (.ptr b o)=some m.1:=r0;have hpl1:=zp.sub PL sI _ _ (by rw[hPL];exact bW);have har1:=zp.sub AR sI _ _ (by rw[hAR];exact bW);have ⟨ad1,ad2⟩:=AF z.pn hp har1;have rN:rdN t1 3 (.ptr b (o+1+1))=some [Ii m.2.2.1,Ii m.2.2.2.1,lv]:=by have h5:rdN E (2+3) (.ptr b o)=some (msgR m lv):=g2;exact K4 kE1 (Tg h5)
 have p20:=pl20 (g:=g) (rsl:=.slc ar 0 (nF F) none 1) (wv:=wv) (now:=T.now) clen;simp only[ae,au hpl1,p20,rdE kE1 r0,rdE kE1 r1,ad1,ad2];refine aE rN ?_;have P:=pO ok;have ⟨hL1,hL2,hN7⟩:=jP ok;refine Am P hn (zp.sub rt sI) hro (e2.sub (KY zp sI)) hrv λr' s2 nv s0 h1 h2 h3 h4 h5 h6=>?_;have x0:bV (.tup [nv,Ii 0]) 0=some nv:=rfl;have x1:bV (.tup [nv,Ii 0]) 1=some (Ii 0):=rfl;have e3:negB true (eqV 0 true (Ii 0) (Ii 0))=some false:=rfl;have za:=vO zp h2 h3 h4 h5;have zb:=Sep.idxA (A:=[newp s0 s2,r',PL,q,M,AR,G,E]) (X:=Y) za [0,4,1,2,5,7,3,6] dE;have kMM:=lD ((aB.1 zb.dj).1 M sI);have zd:=Sep.push hrt (by rw[<- hY];exact Sep.idxA (A:=[add (newp s0 s2) M,r',PL,AR,E,q,G]) (X:=Y) (Sep.join zb) [1,2,5,0,3,6,4] dE);simp only[x0,x1,e3,ae,rdE (zd.sub E sI) r0];rw[hPL]at zd;have hnat:NtAt (add (newp s0 s2) M) nv (il (nF F) m.1 F.L (T.R m.1) (m.2.1:Int) m.2.2):=h6.at.sub iD;have hlen':T.way.length+(il (nF F) m.1 F.L (T.R m.1) (m.2.1:Int) m.2.2).length<=16777216:=by have:=hlen;unfold rcv at this;rw[ak hup]at this;simpa [msgs]using this
 refine Ab clen c2 (hl.sub kMM) hL1 hL2 oM (X:=[AR,G,E]++rs.set m.1 r') zd (z.way.sub kMM) hnat (λx hx=>AG hx) hlen' λs' q' wv' ze hw'=>?_;refine hK s' _ kMM ?_;unfold rcv;rw[ak hup];rw[hAR]at ze;refine⟨ar,g,wv',glv,G,q',rs.set m.1 r',ps,ze,by rw[gN];exact z.rl,z.pn,z.gr,z.ap,NFR.sub z.fab kMM,hw',λn' r2 p' hr2 hp'=>?_⟩;show RoAt _ _ _ _ n' r2 p' (updR T.R m.1 _ n');unfold updR
 by_cases e:n'=m.1
 ·subst e
  rw[ak rfl];rw[hp]at hp';cases hp';rw[fE (by rw[z.rl];exact hn)]at hr2;cases hr2;exact h1
 rw[aj e];rw[ef (Ne.symm e)]at hr2;exact z.ro n' r2 p' hr2 hp'
theorem kx{a:AV}(h:a.one=true):aM (repl 1 [(Ii 0)]) [(0,1,a)]=some [a]:=by simp only[aM,fZ h];rfl
theorem K6{hv:AV}{k:Nat}{own:AV}{m5 m3:Nat}{I5 I3:List AV->Hq->Nat->Prop}(ok:TN.NFok F)(z:PlW F cs t pl E M T)(hn:n<nF F)(ha:T.nu n=true)(hT:TkP n F.L (T.R n) T.now (dK F.L T.lu T.nu n))(hlen:(tck F.L T n).way.length<=16777216)
  (hh:LS.Sli t hv (dK F.L T.lu T.nu n)) (hf:∃t0,PlW F cs t0 pl E M T/\Sub t0 t/\∀b o m c,hv=.slc b o m c 1->dK F.L T.lu T.nu n≠[]->t0 b=none) (hown:cM own=some k)
  (hK:∀t' M',Sub M M'->PlW F cs t' pl E M' (tck F.L T n)->py n I3 m3 K t'):y5 (Pp pl) n hv own k I5 m5 I3 m3 K t:=by
 have ⟨t0,⟨ar,g,wv,glv,G,q,rs,ps,z⟩,k0,hfr⟩:=hf;have ⟨clen,v2,c2,hl⟩:=kJ z.fab;have ⟨rt,hrt⟩:∃rt,rs[n]?=some rt:=⟨_,gE (by rw[z.rl];exact hn)⟩
 have ⟨p,hp⟩:∃p,ps[n]?=some p:=⟨_,gE (by rw[z.pn];exact hn)⟩
 have hro:=z.ro n rt p hrt hp;have ⟨nb,hnb,zn⟩:=Sep.lst (z.sep.more k0) hh λb o m c e hne y hy=>dU (z.sep.sub y hy) (hfr b o m c e hne);obtain⟨PL,hPL⟩:∃PL,PL=one pl (false,.cells 96 (plC cs g (.slc ar 0 (nF F) none 1) wv T.now)):=⟨_,rfl⟩
 obtain⟨AR,hAR⟩:∃AR,AR=one ar (false,.cells 22 (ps.map λp=>AV.ptr p 0)):=⟨_,rfl⟩
 obtain⟨Y,hY⟩:∃Y,Y=rs.take n++rs.drop (n+1):=⟨_,rfl⟩
 rw[<- hPL,<- hAR]at zn;have zp:=Sep.pull (A:=[nb,PL,q,M,AR,G,E]) zn hrt;rw[<- hY]at zp;have hpl1:Hc t pl 96 (plC cs g (.slc ar 0 (nF F) none 1) wv T.now):=zp.sub PL sI _ _ (by rw[hPL];exact bW);have har1:Hc t ar 22 (ps.map λp=>AV.ptr p 0):=zp.sub AR sI _ _ (by rw[hAR];exact bW);have ⟨ad1,ad2⟩:=AF z.pn hp har1;have p20:=pl20 (g:=g) (rsl:=.slc ar 0 (nF F) none 1) (wv:=wv) (now:=T.now) clen;have p22:=pl22 (g:=g) (rsl:=.slc ar 0 (nF F) none 1) (wv:=wv) (now:=T.now) clen;unfold y5;simp only[hown,ae,bu];rw[aC oM,aR];simp only[bQ,aK,zAY,ae,au hpl1,p20,p22,ad1,ad2];have P:=pO ok;have ⟨hL1,hL2,hN7⟩:=jP ok;refine Ar P hn (zp.sub rt sI) hro (hnb.sub (KY zp sI)) hT λr' s2 nv s0 h1 h2 h3 h4 h5 h6=>?_;have x0:bV (.tup [nv,Ii 0]) 0=some nv:=rfl;have x1:bV (.tup [nv,Ii 0]) 1=some (Ii 0):=rfl;have e3:negB true (eqV 0 true (Ii 0) (Ii 0))=some false:=rfl;have za:=vO zp h2 h3 h4 h5;have zb:Sep s2 (newp s0 s2::M::([r',PL,AR,q,G,E]++Y)):=Sep.idxA (A:=[newp s0 s2,r',nb,PL,q,M,AR,G,E]) (X:=Y) za [0,5,1,3,6,4,7,8] dE;have kMM:Sub M (add (newp s0 s2) M):=lD ((aB.1 zb.dj).1 M sI);have zd:Sep s2 ([PL,q,add (newp s0 s2) M,AR,G,E]++rs.set n r'):=Sep.push hrt (by rw[<- hY];exact Sep.idxA (A:=[add (newp s0 s2) M,r',PL,AR,q,G,E]) (X:=Y) (Sep.join zb) [1,2,4,0,3,5,6] dE);simp only[x0,x1,e3,ae];rw[hPL]at zd;have hnat:NtAt (add (newp s0 s2) M) nv (gD n F.L (T.R n) T.now (dK F.L T.lu T.nu n)):=h6.at.sub iD;have hlen':T.way.length+(gD n F.L (T.R n) T.now (dK F.L T.lu T.nu n)).length<=16777216:=by have:=hlen;unfold tck at this;rw[ak ha]at this;simpa [msgs]using this
 refine Ab clen c2 (hl.sub kMM) hL1 hL2 oM (X:=[AR,G,E]++rs.set n r') zd (z.way.sub kMM) hnat (λx hx=>AG hx) hlen' λs' q' wv' ze hw'=>?_;refine aE (cQ) ?_;show py n I3 m3 K s';refine hK s' _ kMM ?_;unfold tck;rw[ak ha];rw[hAR]at ze;refine⟨ar,g,wv',glv,G,q',rs.set n r',ps,ze,by rw[gN];exact z.rl,z.pn,z.gr,z.ap,NFR.sub z.fab kMM,hw',λn' r2 p' hr2 hp'=>?_⟩;show RoAt _ _ _ _ n' r2 p' (updR T.R n _ n');unfold updR
 by_cases e:n'=n
 ·subst e
  rw[ak rfl];rw[hp]at hp';cases hp';rw[fE (by rw[z.rl];exact hn)]at hr2;cases hr2;exact h1
 rw[aj e];rw[ef (Ne.symm e)]at hr2;exact z.ro n' r2 p' hr2 hp'
theorem PlW.sub(z:PlW F cs t pl E M T)(k:Sub t s'):PlW F cs s' pl E M T:=by have ⟨ar,g,wv,glv,G,q,rs,ps,z⟩:=z;exact⟨ar,g,wv,glv,G,q,rs,ps,z.sep.more k,z.rl,z.pn,z.gr,z.ap,z.fab,z.way,z.ro⟩
theorem K7{m3:Nat}{I3:List AV->Hq->Nat->Prop}(ok:TN.NFok F)(z:PlW F cs t pl E M T)(hn:n<nF F)(hT:T.nu n=true->TkP n F.L (T.R n) T.now (dK F.L T.lu T.nu n))(hlen:(tck F.L T n).way.length<=16777216)
  (hK:∀t' M',Sub M M'->PlW F cs t' pl E M' (tck F.L T n)->py n I3 m3 K t'):y6 (Pp pl) n I3 m3 K t:=by
 have z0:=z;have ⟨ar,g,wv,glv,G,q,rs,ps,z⟩:=z;obtain⟨clen,v2,c2,hl⟩:=kJ z.fab;have kG:Sub G t:=z.sep.sub G sI;have hpl:Hc t pl 96 (plC cs g (.slc ar 0 (nF F) none 1) wv T.now):=z.sep.sub (one pl (false,.cells 96 (plC cs g (.slc ar 0 (nF F) none 1) wv T.now))) sI _ _ bW;have har:Hc t ar 22 (ps.map λp=>AV.ptr p 0):=z.sep.sub (one ar (false,.cells 22 (ps.map λp=>AV.ptr p 0))) sI _ _ bW;have p19:=pl19 (g:=g) (rsl:=.slc ar 0 (nF F) none 1) (wv:=wv) (now:=T.now) clen;have p20:=pl20 (g:=g) (rsl:=.slc ar 0 (nF F) none 1) (wv:=wv) (now:=T.now) clen;obtain⟨hL1,hL2,hN7⟩:=jP ok;unfold y6;simp only[bQ,aK,zAY,ae,au hpl,p20,ge,bu];rw[aH oM,bD];simp only[ae,p19];refine TG.Alive_in (z.gr.sub kG) ?_;have eal:TG.aliveI (nF F) T.nu (n:Int)=T.nu n:=by unfold TG.aliveI;rw[aH ⟨oM,oM⟩,Bool.true_and,Int.toNat_natCast]
 rw[eal];simp only[cQ,ae];refine aL (λhna=>?_) (λha=>?_);refine hK t M (.refl _) ?_
 grind [tck]
 have ha:T.nu n=true:=by simpa using ha
 have ⟨rt,hrt⟩:∃rt,rs[n]?=some rt:=⟨_,gE (by rw[z.rl];exact hn)⟩
 have ⟨p,hp⟩:∃p,ps[n]?=some p:=⟨_,gE (by rw[z.pn];exact hn)⟩
 have hro:=z.ro n rt p hrt hp;obtain⟨ad1,ad2⟩:=AF z.pn hp har;have krt:Sub rt t:=z.sep.sub rt (by simp[mG hrt]);obtain⟨st,rw_,rd,rtb,wl,wm,d,f,lv,mv,uv,dv,zs,pt⟩:=hro.ex;have zst:=zs.more krt;have hp0:Hc t p 75 (roC (n:Int) (lbk n) (F.x.lf:Int) (F.x.sp:Int) lv mv wm d f (T.R n).tk (T.R n).la uv dv):=zst.sub (pC p n (F.x.lf:Int) (F.x.sp:Int) lv mv wm d f (T.R n).tk (T.R n).la uv dv) sI _ _ bW;have hwl:wl.length<=200:=by
  have h1:(wl.map (·.1)).length<=F.L.length:=by rw[pt.wk];exact pK
  rw[lMY]at h1;omega
 simp only[ae,au hpl,p20,ad1,ad2];refine Sw pt.ws.asc hwl hp0 (pt.ws.mr.sub (zst.sub rw_ sI)) λt1 ov k1 acc1=>?_;have elk:lks wl=(ownL F.L n).map λ(i:Nat)=>(i:Int):=by rw[<- pt.wk];simp_all [lks]
 rw[elk]at acc1;have sl1:LS.Sli t1 ov ((ownL F.L n).map λ(i:Nat)=>(i:Int)):=acc1.sl;have lov:cM ov=some (ownL F.L n).length:=by rw[sl1.len];simp
 have own64:(ownL F.L n).length<=64:=Nat.le_trans pK hL2;have z1:=z0.sub k1;have gr1:=z.gr.sub (kG.trans k1);have hpl1:=k1 _ _ hpl
 let hd:Nat->List Int:=λi=>(((ownL F.L n).take i).filter λi:Nat=>TG.upI F.L T.lu T.nu (i:Int)).map λ(i:Nat)=>(i:Int)
 have hdlen:∀i,(hd i).length<=64:=λi=>by show(List.map _ (List.filter _ _)).length<=64;rw[lMY];refine Nat.le_trans (length_filter_le _ _) ?_;rw[length_take];omega
 refine⟨λys t m=>∃(i:Nat) (hv:AV),ys=[hv,i]/\i<=(ownL F.L n).length/\m=(ownL F.L n).length-i/\Sub t1 t/\Acc 3 t1 t hv (izs (hd i)),⟨_,0,.nilslc,rfl,oM,rfl,.refl _,.inl ⟨rfl,rfl⟩⟩,?_⟩;rintro f t2 m ⟨i,hv,hy,hi,rfl,k2,acc2⟩;simp only[cI,aq]at hy;rw[hy.1,hy.2]
 by_cases hlt:i<(ownL F.L n).length
 rotate_left
 ·have:i=(ownL F.L n).length:=oM
  subst this;have eh:hd (ownL F.L n).length=dK F.L T.lu T.nu n:=by show List.map _ (List.filter _ (List.take _ _))=_;rw[dI];rfl
  rw[eh]at acc2;refine K6 ok (z1.sub k2) hn ha (hT ha) hlen acc2.sl ⟨t1,z1,k2,λb o m c e hne=>?_⟩ lov hK;rcases acc2 with⟨q1,_⟩|⟨b',q1,q2,_⟩
  ·rw[e]at q1;cases q1
  grind
 unfold y5;simp only[lov,ae,bu];rw[aH oM,bD];have hpl2:=k2 _ _ hpl1;obtain⟨b,g1,g2⟩:=LS.gC (sl1.sub k2) (k:=i) (by rw[lMY];exact hlt);have e0:((ownL F.L n).map λ(i:Nat)=>(i:Int))[i]'(by rw[lMY];exact hlt)=((ownL F.L n)[i]:Int):=by rw[getElem_map]
 rw[e0]at g2;simp only[bQ,aK,zAY,ae,au hpl2,p19,g1,g2];refine TG.Up_in (gr1.sub k2) λt3 k3=>?_;have k23:=k2.trans k3;have acc3:Acc 3 t1 t3 hv (izs (hd i)):=acc2.imp id λ⟨c,q1,q2,q3⟩=>⟨c,q1,q2,k3 _ _ q3⟩
 have hds:hd (i+1)=hd i++(if TG.upI F.L T.lu T.nu ((ownL F.L n)[i]:Int)=true then[((ownL F.L n)[i]:Int)]else[]):=by
  show List.map _ (List.filter _ (List.take (i+1) _))=_;rw[bO,gE hlt,filter_append,bM]
  congr 1
  show List.map _ (List.filter _ [(ownL F.L n)[i]])=_
  by_cases hu:TG.upI F.L T.lu T.nu ((ownL F.L n)[i]:Int)=true
  rw[ak hu];simp[hu]
  simp_all
 have next:∀hv' t',Sub t1 t'->Acc 3 t1 t' hv' (izs (hd (i+1)))->yZ hv' i (λys t m=>∃(i:Nat) (hv:AV),ys=[hv,i]/\i<=(ownL F.L n).length/\m=(ownL F.L n).length-i/\Sub t1 t/\Acc 3 t1 t hv (izs (hd i))) ((ownL F.L n).length-i) I3 m3 K t':=λhv' t' k' a'=>by unfold yZ;simp only[bg,ae];rw[aT];exact⟨_,oM,i+1,hv',sI,oM,rfl,k',a'⟩
 refine aL (λhu=>?_) (λhu=>?_)
 ·rw[ak hu]at hds
  obtain⟨b',g3,g4⟩:=LS.gC (sl1.sub k23) (k:=i) (by rw[lMY];exact hlt);rw[g1]at g3;cases g3;rw[e0]at g4;simp only[g4,ae];refine aE (kx rfl) ⟨rfl,aI λc t4 hc w4 u4=>?_⟩;have k4:=u4.sub hc;have acc4:Acc 3 t1 t4 hv (izs (hd i)):=acc3.imp id λ⟨d,q1,q2,q3⟩=>⟨d,q1,q2,k4 _ _ q3⟩
  refine Au acc4 (k23.trans k4) (Sl.mk (l:=[((ownL F.L n)[i]:Int)]) w4 rfl sI) (λb o m c' e q1=>?_) (by rw[lMY];have:=hdlen i;omega) λv' t5 acc5 kp5 _=>?_
  ·cases e
   have ⟨_,q2⟩:=Acc.blk acc3 q1;rw[hc]at q2;cases q2
  ·have em:izs (hd i) ++ [Ii ((ownL F.L n)[i])]=izs (hd (i+1)):=by rw[hds];simp
   rw[em]at acc5;refine next v' t5 (λj e hj=>kp5 j e (k4 _ _ (k23 _ _ hj)) λq1=>?_) acc5;rw[(Acc.blk acc4 q1).1]at hj;cases hj
 ·rw[aj (by rw[hu];simp),append_nil]at hds
  exact next hv t3 k23 (by rw[hds];exact acc3)
variable{l2:List Hq}
theorem Th(ok:TN.NFok F)(z:PlW F cs t pl E M T)(tk:TickOk (nF F) F.L T)(hnow:0<=T.now/\T.now<=1000000000000)
  (hK:∀t' E' M',Sub M M'->PlW F cs t' pl E' M' (fM (nF F) F.L T)->K true t'):wC TP 31 [Pp pl] K t:=by
 have ⟨ar,g,wv,glv,G,q,rs,ps,z⟩:=z;have ⟨clen,v2,c2,hl⟩:=kJ z.fab;have hpl:Hc t pl 96 (plC cs g (.slc ar 0 (nF F) none 1) wv T.now):=z.sep.sub (one pl (false,.cells 96 (plC cs g (.slc ar 0 (nF F) none 1) wv T.now))) sI _ _ bW;refine p_ ?_;unfold Rp;simp only[bQ,aK,zAY,ae,au hpl,pl22 (g:=g) (rsl:=.slc ar 0 (nF F) none 1) (wv:=wv) (now:=T.now) clen,bg];rw[aT];refine cw hpl (by simp[clen]) rfl λs1 h1 u1=>?_;have z1:=Sep.wr1 (l:=[q,M,one ar (false,.cells 22 (ps.map λp=>Pp p)),G,E]++rs) z.sep u1 (by rw[bW];simp) h1;have e22:(plC cs g (.slc ar 0 (nF F) none 1) wv T.now).set 22 (T.now+1:Int)=plC cs g (.slc ar 0 (nF F) none 1) wv (T.now+1):=by rw[show(22:Nat)=19+3 from rfl,AD clen];rfl
 rw[i6,e22]at z1;rw[e22]at h1;simp only[ae,au h1,pl21 (g:=g) (rsl:=.slc ar 0 (nF F) none 1) (wv:=wv) (now:=T.now+1) clen];refine cw h1 (by simp[clen]) rfl λs2 h2 u2=>?_;have z2:=Sep.wr1 (l:=[q,M,one ar (false,.cells 22 (ps.map λp=>Pp p)),G,E]++rs) z1 u2 (by rw[bW];simp) h2;have e21:(plC cs g (.slc ar 0 (nF F) none 1) wv (T.now+1)).set 21 .nilslc=plC cs g (.slc ar 0 (nF F) none 1) .nilslc (T.now+1):=by rw[show(21:Nat)=19+2 from rfl,AD clen];rfl
 rw[i6,e21]at z2;have z3:Sep s2 ([one pl (false,.cells 96 (plC cs g (.slc ar 0 (nF F) none 1) .nilslc (T.now+1))),λ_=>none,M,one ar (false,.cells 22 (ps.map λp=>Pp p)),G,q]++rs):=by have za:=z2.fresh1 (.refl _) (r:=λ_=>none) (λi e hi=>by cases hi) λi hi=>absurd rfl hi;exact Sep.idxA (A:=[λ_=>none,one pl (false,.cells 96 (plC cs g (.slc ar 0 (nF F) none 1) .nilslc (T.now+1))),q,M,one ar (false,.cells 22 (ps.map λp=>Pp p)),G,E]) (X:=rs) za [1,0,3,4,5,2] dE
 have p0:PlW F cs s2 pl q M (ph1 (nF F) F.L T 0):=⟨ar,g,.nilslc,glv,G,_,rs,ps,z3,z.rl,z.pn,z.gr,z.ap,z.fab,WayAt.nil,z.ro⟩
 have hlen:∀{v':AV}{ms:List Msg}{M':Hq},WayAt M' q v' ms->cM v'=some ms.length:=fun {v' ms M'} h=>by have ⟨rows,a1,a2,_⟩:=h.ex;rw[a1.sl.len,a2]
 have tw:=tk.w;have tl:=tk.l;refine⟨λys t m=>∃(i:Nat) (M':Hq),ys=[Ii i]/\i<=T.way.length/\m=T.way.length-i/\Sub M M'/\PlW F cs t pl q M' (ph1 (nF F) F.L T i),⟨_,0,M,rfl,oM,rfl,.refl _,p0⟩,?_⟩;rintro f t1 m ⟨i,M1,hy,hi,rfl,kM,zi⟩;simp only[cI,aq]at hy;rw[hy];have ⟨su,sn,sw⟩:=AE (N:=nF F) (L:=F.L) (T:=T) (i:=i)
 by_cases hlt:i<T.way.length
 have hm:=gE hlt;have ⟨r1,r2⟩:=tk.r i _ hm;have l1:(rcv (nF F) F.L (ph1 (nF F) F.L T i) T.way[i]).way.length<=16777216:=by
  rw[<- oq hm]
  grind [len1]
 refine K5 ok zi (z.way.sub kM) hm r1 ((by simp_all)) l1 tw λt' M' k' z'=>?_;rw[<- oq hm]at z';unfold yY;simp only[bg,ae];rw[aT]
 grind [Sub.trans]
 have hi2:i=T.way.length:=oM;unfold y7;simp only[hlen z.way,ae,bu];rw[aC oM,aR];rw[hi2]at zi;refine⟨λys t m=>∃(n:Nat) (M':Hq),ys=[Ii n]/\n<=nF F/\m=nF F-n/\Sub M M'/\PlW F cs t pl q M' (ph2 (nF F) F.L T n),⟨_,0,M1,rfl,oM,rfl,kM,zi⟩,?_⟩;rintro f t2 m ⟨n,M2,hy,hn,rfl,kM2,zn⟩;simp only[cI,aq]at hy;rw[hy];have ⟨_,_,hN7⟩:=jP ok;have ⟨su,sn,sw⟩:=jO (N:=nF F) (L:=F.L) (T:=T) (i:=n)
 by_cases hlt:n<nF F
 have l2:(tck F.L (ph2 (nF F) F.L T n) n).way.length<=16777216:=by rw[<- lJ];exact Nat.le_trans (len2 oM) tl
 refine K7 ok zn hlt (λha=>?_) l2 λt' M' k' z'=>?_
 simp_all [TickOk.t]
 rw[<- lJ]at z';unfold py;simp only[bg,ae];rw[aT];exact⟨_,oM,n+1,M',sI,oM,rfl,kM2.trans k',z'⟩;have hn2:n=nF F:=oM;rw[hn2]at zn;have zz:=zn;have ⟨ar,g,wv,glv,G,q,rs,ps,z⟩:=zn;have ⟨clen,v2,c2,hl⟩:=kJ z.fab;have hpl:Hc t2 pl 96 (plC cs g (.slc ar 0 (nF F) none 1) wv (ph2 (nF F) F.L T (nF F)).now):=z.sep.sub (one pl (false,.cells 96 (plC cs g (.slc ar 0 (nF F) none 1) wv (ph2 (nF F) F.L T (nF F)).now))) sI _ _ bW;unfold y6;simp only[bQ,aK,zAY,ae,au hpl,pl20 (g:=g) (rsl:=.slc ar 0 (nF F) none 1) (wv:=wv) (now:=(ph2 (nF F) F.L T (nF F)).now) clen,ge,bu];rw[aC oM,aR];exact hK t2 _ M2 kM2 zz
theorem Sep.shrink{a a':Hq}{l:List Hq}(z:Sep s (a::l))(k:Sub a' a):Sep s (a'::l):=by
 have ⟨h1,h2⟩:=aB.1 z.dj;refine⟨λy hy=>?_,aB.2 ⟨λy hy i hi=>h1 y hy i ?_,h2⟩⟩;rcases mCY hy with e|hy;rw[e];exact k.trans (z.sub a sI);exact z.sub y (by simp[hy])
 ·cases q:a' i with
  |none=>exact absurd q hi
  |some x=>rw[k i x q];simp
theorem Sep.grow1{elem:ah}{l:List Hq}{rows rows':List AV}(z:Sep s (q::l))(h:Acc elem (λ_=>none) q v rows){v':AV}(h':Acc elem (λ_=>none) s' v' rows')(kp:aV (cN 1 v) s s')(hb:∀b,cN 1 v' b->s b=none∨cN 1 v b):∃q',Acc elem (λ_=>none) q' v' rows'/\Sep s' (q'::l):=by
 obtain⟨hq,hd⟩:=aB.1 z.dj;have own:∀b,cN 1 v b->q b≠none:=λb ⟨o,n,c,e⟩=>by
  rcases h with⟨q1,_⟩|⟨b',_,q1,q2⟩
  ·rw[e]at q1;cases q1
  grind
 have keep:∀y∈l,Sub y s':=λy hy i e hi=>kp i e (z.sub y (by simp[hy]) i e hi) λq1=>by rw[hq y hy i (own i q1)]at hi;cases hi
 rcases h' with⟨e1,e2⟩|⟨b,_,e1,e2⟩
 ·exact⟨λ_=>none,.inl ⟨e1,e2⟩,⟨λy hy=>by
   rcases mCY hy with e|hy
   ·rw[e];intro i e hi;cases hi
   exact keep y hy,aB.2 ⟨λy hy i hi=>absurd rfl hi,hd⟩⟩⟩
 refine⟨one b (false,.cells elem rows'),.inr ⟨b,rfl,e1,bW⟩,⟨λy hy=>?_,aB.2 ⟨λy hy i hi=>?_,hd⟩⟩⟩;rcases mCY hy with e|hy;rw[e];intro i x hi;have:=jl (c:=b) (x:=(false,Blk.cells elem rows')) (i:=i) (by rw[hi];simp)
 grind [bW]
 exact keep y hy;rw[jl hi];rcases hb b ⟨_,_,_,e1⟩with q1|q1;exact dU (z.sub y (by simp[hy])) q1;exact hq y hy b (own b q1)
def pst0(F:TN.NFab):Pst:=⟨λ_=>new0 F,λj=>decide (j<F.L.length),λj=>decide (j<nF F),[],0⟩
theorem K8(ok:TN.NFok F):TG.newE ((F.x.lf:Int)+(F.x.sp:Int)) F.L=0:=by
 have h1:=ok.x.lf;have h2:=ok.x.sp;have h3:=ok.Ln;unfold TG.newE;have:∀l:List TG.Lk,(∀x∈l,x∈F.L)->TG.linkE ((F.x.lf:Int)+(F.x.sp:Int)) l=0:=by
  intro l
  induction l with
  |nil=>intro _;rfl
  | cons x l ih=>
    intro h;have ⟨a1,a2,a3⟩:=ok.L.2 x (h x sI)
    grind [TG.linkE,TG.badL]
 grind
theorem K9{g:Nat}(h:cs.length=19)(ho:aX cs=true):aM [(Ii 0),(Ii 0),.nilslc,.nilslc,.nilslc,.nilslc,.nilslc,.nilslc,(Ii 0),(Ii 0),(Ii 0),false,false,(Ii 0),(Ii 0),(Ii 0),(Ii 0),(Ii 0),(Ii 0),.nilptr,.nilslc,.nilslc,(Ii 0)] [(0,19,(.agg cs)),(19,1,Pp g)]=some (plC cs g .nilslc .nilslc 0):=by
 have e1:ble (0+cs.length) 23=true:=by rw[ble_eq];omega
 have e2:beq cs.length 19=true:=by rw[h];rfl
 have s1:dB [(Ii 0),(Ii 0),.nilslc,.nilslc,.nilslc,.nilslc,.nilslc,.nilslc,(Ii 0),(Ii 0),(Ii 0),false,false,(Ii 0),(Ii 0),(Ii 0),(Ii 0),(Ii 0),(Ii 0),.nilptr,.nilslc,.nilslc,(Ii 0)] 0 cs=cs ++ [.nilptr,.nilslc,.nilslc,Ii 0]:=by
  simp_all [dB]
 have s2:dB (cs ++ [.nilptr,.nilslc,.nilslc,Ii 0]) 19 [Pp g]=plC cs g .nilslc .nilslc 0:=by unfold dB plC;rw[take_append_of_le_length oM,jN oM,show 19+[AV.ptr g 0].length=cs.length+1 by rw[h];rfl,drop_append,drop_eq_nil_of_le oM];simp
 have e3:ble (19+1) (cs ++ [AV.nilptr,.nilslc,.nilslc,Ii 0]).length=true:=by simp_all
 have e4:beq 1 1=true:=rfl;simp only[aM,jZ,CQ,s1,s2,e2,cr,length_nil,zAY,e4]
 grind
theorem La{a:AV}(h:a.one=true):aM (repl 1 [.nilptr]) [(0,1,a)]=some [a]:=by simp only[aM,fZ h];rfl
theorem Lb(ok:TN.NFok F)(hF:TN.NFR s cs F)(hK:∀t' pl M,Sub s t'->Sub s M->PlW F cs t' pl (λ_=>none) M (pst0 F)->K (Pp pl) t'):wC TP 28 [.agg cs] K s:=by
 have ⟨v2,v3,v4,v5,v6,v7,hcs,h2,h3,h4,h5,h6,h7⟩:=hF.ex;have ones:aX cs=true:=by grind [TN.csF,dh,rZ,SlR.one,TN.SgR.one,xj,xk]
 have c0:cs[0]?=some (Ii F.x.lf):=by rw[hcs];rfl
 have c1:cs[1]?=some (Ii F.x.sp):=by rw[hcs];rfl
 have c2:cs[2]?=some v2:=by rw[hcs];rfl
 have clen:cs.length=19:=by rw[hcs];rfl
 have xlf:=ok.x.lf;have xsp:=ok.x.sp;have xL:=ok.Ln;refine k_ ⟨ones,aI λb0 s1 hb0 q1 u1=>?_⟩;have q1:Hc s1 b0 52 cs:=q1;have k1:=u1.sub hb0;simp only[aK,zAY,ae,au q1,c0,c1,c2,bg];rw[aT];have hl1:=h2.sub k1;refine TG.New_in hl1 oM (λh=>absurd (K8 ok) h) λ_ N' eN s2 g glv k2 hg=>?_;obtain rfl:N'=nF F:=gR;have x0:∀a b:AV,bV (.tup [a,b]) 0=some a:=λ_ _=>rfl;have x1:∀a b:AV,bV (.tup [a,b]) 1=some b:=λ_ _=>rfl;have e3:negB true (eqV 0 true (Ii 0) (Ii 0))=some (.bool false):=rfl;have e4:∀p:Nat,negB false (eqV 3 true (Pp p) .nilptr)=some (.bool false):=λ_=>rfl;simp only[x0,x1,e3,e4,ae,aR];unfold E8 bG;have q2:=k2 _ _ q1;have hg2:TG.GRd false (newp s1 s2) g glv (nF F) F.L (λj=>decide (j<F.L.length)) (λj=>decide (j<nF F)):=by
  have ⟨⟨a,b,c,d,w1,w2⟩,w3,w4⟩:=hg.rd;refine⟨(by grind [ol,TG.Gr.fg]),?_,w4⟩;have ⟨a1,a2⟩:=w3;refine⟨a1,?_⟩;rcases a2 with h|⟨b',o',c',d1,d2,d3⟩;exact .inl h;refine .inr ⟨b',o',c',d1,d2,λhn=>?_⟩
  grind [ol,TG.Gr.fl]
 have z1:Sep s1 [s1]:=⟨(by grind [Sub.refl]),sI⟩
 have z2:=z1.newp k2;have ⟨G,hG⟩:∃G,G=newp s1 s2:=⟨_,rfl⟩
 rw[<- hG]at z2 hg2;simp only[ct,ae,aR];refine aE (bX (n:=19) q2 clen) (aE (K9 clen ones) ⟨?_,aI λpl s3 hpl q3 u3=>?_⟩);have:∀(l m:List AV),aX l=true->aX m=true->aX (l++m)=true:=by
  intro l m h1 h2
  induction l with
  |nil=>exact h2
  | cons x l ih=>
    grind [dh]
 exact this _ _ ones rfl;have z3:=z2.new u3 hpl q3;have z4:Sep s3 ([one pl (false,.cells 96 (plC cs g .nilslc .nilslc 0)),λ_=>none,s1,G]++([]:List Hq)):=by have za:=z3.fresh1 (.refl _) (r:=λ_=>none) (λi e hi=>by cases hi) λi hi=>absurd rfl hi;exact za.idx [1,0,3,2] dE
 refine⟨λys t m=>∃(k:Nat) (rv:AV) (Q:Hq) (rs:List Hq) (ps:List Nat),ys=[Ii k]/\k<=nF F/\m=nF F-k/\Sep t ([one pl (false,.cells 96 (plC cs g rv .nilslc 0)),Q,s1,G]++rs)/\Acc 22 (λ_=>none) Q rv (ps.map λp=>Pp p)/\rs.length=k/\ps.length=k/\∀(n:Nat) (r:Hq) (p:Nat),rs[n]?=some r->ps[n]?=some p->RoAt (nF F) F.L (F.x.lf:Int) (F.x.sp:Int) n r p (new0 F),⟨_,0,.nilslc,_,[],[],rfl,oM,rfl,z4,.inl ⟨rfl,rfl⟩,rfl,rfl,λn r p h=>by simp at h⟩,?_⟩;rintro f t m ⟨k,rv,Q,rs,ps,hy,hk,rfl,z,acc,lr,lp,hro⟩;simp only[cI,aq]at hy;rw[hy];have ks:=z.sub s1 sI;have qb:=ks _ _ q1;unfold Rl;simp only[aK,zAY,ae,au qb,c0,c1,bg,bu];rw[aT];refine aL (λhlt=>?_) (λhge=>?_)
 ·have hlt:k<nF F:=gR
  refine aE (bX (n:=19) qb clen) (New_in ok (NFR.sub hF (k1.trans ks)) hlt λp r' t1 hr k2 sr fr=>?_);simp only[x0,x1,e3,e4,ae,aR];unfold E7 aS;have z5:=z.fresh1 k2 sr fr;have hp5:=z5.sub (one pl (false,.cells 96 (plC cs g rv .nilslc 0))) sI _ _ bW;simp only[ct,ae,aR,bQ,aK,zAY,au hp5,pl20 (g:=g) (rsl:=rv) (wv:=.nilslc) (now:=0) clen];refine aE (La rfl) ⟨rfl,aI λc t2 hc q6 u6=>?_⟩;have z6:=z5.more (u6.sub hc);have kQ:=z6.sub Q sI;have acc2:Acc 22 (λ_=>none) t2 rv (ps.map λp=>Pp p):=acc.imp id λ⟨b,a1,a2,a3⟩=>⟨b,a1,a2,kQ _ _ a3⟩
  have hlp:ps.length+1<=16777216:=by have:nF F<=7:=(jP ok).2.2;omega
  refine Au acc2 (λi e h=>by cases h) (Sl.mk (l:=[Pp p]) q6 rfl sI) (λb o m c' e q1=>?_) (by rw[lMY];exact hlp) λv' t3 acc3 kp3 hb3=>?_
  ·cases e
   rcases acc with⟨w1,_⟩|⟨b',_,w1,w2⟩
   ·have ⟨o,n,c',w⟩:=q1;rw[w1]at w;cases w
   ·have ⟨o,n,c',w⟩:=q1
    rw[w1]at w;cases w;have:=z5.sub Q sI _ _ w2;rw[hc]at this;cases this
  ·have z7:Sep t2 (Q::one pl (false,.cells 96 (plC cs g rv .nilslc 0))::r'::s1::G::rs):=by
    exact Sep.idxA (A:=[r',one pl (false,.cells 96 (plC cs g rv .nilslc 0)),Q,s1,G]) (X:=rs) z6 [2,1,0,3,4] dE
   have ⟨Q',acc4,z8⟩:=Sep.grow1 z7 acc acc3 kp3 hb3;have hp8:=z8.sub (one pl (false,.cells 96 (plC cs g rv .nilslc 0))) sI _ _ bW;have ov:=acc4.sl.one;refine cw hp8 (by simp[clen]) ov λt4 h9 u9=>?_;have z9:=Sep.wr1 (z8.perm (List.Perm.swap _ _ _)) u9 (by rw[bW];simp) h9;have e20:(plC cs g rv .nilslc 0).set 20 v'=plC cs g v' .nilslc 0:=by grind [AD]
   rw[i6,e20]at z9;simp only[bg,ae];rw[aT oM gR];refine⟨_,oM,k+1,v',Q',rs ++ [r'],ps ++ [p],sI,oM,rfl,?_,gR,by simp[lr],by simp[lp],λn r p2 hr2 hp2=>?_⟩;have:Sep t4 (one pl (false,.cells 96 (plC cs g v' .nilslc 0))::Q'::s1::G::r'::rs):=Sep.idxA (A:=[one pl (false,.cells 96 (plC cs g v' .nilslc 0)),Q',r',s1,G]) (X:=rs) z9 [0,1,3,4,2] dE;refine this.perm ?_;refine .cons _ (.cons _ (.cons _ (.cons _ ?_)));exact(perm_append_singleton r' rs).symm
   by_cases e:n<k
   grind
   have en:n=k:=by have:=(gS hr2).1;simp at this;omega
   grind
 ·have hge:k=nF F:=gR
  subst hge;have hne:ps≠[]:=λq=>by
   grind
  rcases acc with⟨_,w⟩|⟨ar,_,w1,w2⟩;exact absurd (by simpa using w) hne
  ·rw[lMY,lp]at w1
   subst w1;have za:=z.perm (List.Perm.swap _ _ _);have zb:=Sep.shrink za (a':=one ar (false,.cells 22 (ps.map λp=>Pp p))) λi e hi=>by
    have:=jl (c:=ar) (x:=(false,Blk.cells 22 (ps.map λp=>AV.ptr p 0))) (i:=i) (by rw[hi];simp)
    grind [bW]
   have zc:=zb.fresh1 (.refl _) (r:=λ_=>none) (λi e hi=>by cases hi) λi hi=>absurd rfl hi;have zd:=zc.fresh1 (.refl _) (r:=λ_=>none) (λi e hi=>by cases hi) λi hi=>absurd rfl hi;refine hK t pl s1 (k1.trans ks) k1 ⟨ar,g,.nilslc,glv,G,λ_=>none,rs,ps,?_,lr,lp,hg2,hg.ap,NFR.sub hF k1,WayAt.nil,hro⟩;exact Sep.idxA (A:=[λ_=>none,λ_=>none,one ar (false,.cells 22 (ps.map λp=>Pp p)),one pl (false,.cells 96 (plC cs g (.slc ar 0 (nF F) none 1) .nilslc 0)),s1,G]) (X:=rs) zd [3,0,4,2,5,1] dE
theorem Lc{a n:Int}(hn:0<n)(hn2:n<=1000000)(hK:K (a % n:Int) s):wC TP 32 [a,n] K s:=by
 refine D9 ?_;have hne:n≠0:=oM;have h1:=Int.emod_nonneg a hne;have h2:=Int.emod_lt_of_pos a hn;simp only[sT,na hne,ae,bu,D8]
 grind [aR,bD,bg,cP,aT]
theorem Ld{a:Int}{n:Nat}(hn:0<n)(hn2:n<=1000000)(hK:∀r:Nat,r<n->K r s):wC TP 32 [a,n] K s:=by
 refine Lc oM oM ?_;have h1:=Int.emod_nonneg a (b:=(n:Int)) oM;have h2:=Int.emod_lt_of_pos a (b:=(n:Int)) oM;have:=hK (a % (n:Int)).toNat oM
 grind
inductive Chg (F:TN.NFab) (T:Pst):Pst->Prop where
 |no:Chg F T T
 |link (i:Nat) (x:Bool):i<F.L.length->Chg F T { T with lu:=TG.upd1 T.lu i x }
 |node (n:Nat) (x:Bool):n<nF F->Chg F T { T with R:=if(x&&!T.nu n)=true then updR T.R n (new0 F)else T.R,nu:=TG.upd1 T.nu n x }
theorem Ti{c0:Nat}{ka aa:Int}{x:Bool}(z:PlW F cs t pl E M T)(hn:n<nF F)(hc:Hc t c0 92 [ka,aa,x]){R':Nat->Ro}(hR:{ T with R:=R',nu:=TG.upd1 T.nu n x }=({ T with R:=T.R,nu:=TG.upd1 T.nu n x }:Pst))
  (hK:∀t',PlW F cs t' pl E M { T with nu:=TG.upd1 T.nu n x }->K (.tup []) t'):yW (Pp pl) (Pp c0) n K t:=by
 have ⟨ar,g,wv,glv,G,q,rs,ps,z⟩:=z;have ⟨clen,_⟩:=kJ z.fab;have hpl:Hc t pl 96 (plC cs g (.slc ar 0 (nF F) none 1) wv T.now):=z.sep.sub (one pl (false,.cells 96 (plC cs g (.slc ar 0 (nF F) none 1) wv T.now))) sI _ _ bW;have kG:Sub G t:=z.sep.sub G sI;unfold yW;simp only[bQ,aK,zAY,ae,au hpl,pl19 (g:=g) (rsl:=.slc ar 0 (nF F) none 1) (wv:=wv) (now:=T.now) clen,au hc,g1Y,g0Y];refine wC.goes kG (TG.SetNode_in z.gr z.ap (λh=>absurd ⟨oM,oM⟩ h) λG' _ hg u s1 go=>?_);have z1:=Sep.goes (l1:=[one pl (false,.cells 96 (plC cs g (.slc ar 0 (nF F) none 1) wv T.now)),q,M,one ar (false,.cells 22 (ps.map λp=>Pp p))]) (l2:=E::rs) z.sep go;rw[Int.toNat_natCast]at hg;exact hK s1 ⟨ar,g,wv,glv,G',q,rs,ps,z1,z.rl,z.pn,hg,z.ap,z.fab,z.way,z.ro⟩
theorem Tj{c0:Nat}{ka aa:Int}{x:Bool}{t54 t61:AV}(ok:TN.NFok F)(z:PlW F cs t pl E M T)(hn:n<nF F)(hc:Hc t c0 92 [ka,aa,x])(hcn:∀t',Sub t t'->c0≠pl/\True){up:Bool}(hpk:cW t54 t61 false=some (.bool up))
  (hK:∀t',PlW F cs t' pl E M { T with R:=if up=true then updR T.R n (new0 F)else T.R,nu:=TG.upd1 T.nu n x }->K (.tup []) t'):yX (Pp pl) (Pp c0) n t54 t61 K t:=by
 unfold yX;rw[hpk,cP];refine aL (λhu=>?_) (λhu=>?_)
 rotate_left
 grind [Ti]
 subst hu;have ⟨ar,g,wv,glv,G,q,rs,ps,z⟩:=z;have ⟨clen,_⟩:=kJ z.fab;obtain⟨PL,hPL⟩:∃PL,PL=one pl (false,.cells 96 (plC cs g (.slc ar 0 (nF F) none 1) wv T.now)):=⟨_,rfl⟩
 have zs:=z.sep;rw[<- hPL]at zs;have hs:Sub PL t:=zs.sub PL sI;have jpl:Hc PL pl 96 (plC cs g (.slc ar 0 (nF F) none 1) wv T.now):=by rw[hPL];exact bW
 have ⟨p,hp⟩:∃p,ps[n]?=some p:=⟨_,gE (by rw[z.pn];exact hn)⟩
 have ad1:cF 1 (.slc ar 0 (nF F) none 1) n=some (.ptr ar n):=by
  have:blt n (nF F)=true:=by rw[blt_eq];exact hn
  simp[cF,this]
 have p20:=pl20 (g:=g) (rsl:=.slc ar 0 (nF F) none 1) (wv:=wv) (now:=T.now) clen;have r19:rdN PL 19 (Pp pl)=some cs:=by
  have e1:ble (0+19) (plC cs g (.slc ar 0 (nF F) none 1) wv T.now).length=true:=by simp_all
  simp only[rdN,jpl,ju,e1,aD,drop_zero]
  grind
 have zl:=Sep.lock zs;refine⟨PL,hs,?_⟩;simp only[bQ,aK,zAY,ae,au jpl,p20];refine aE r19 (New_in ok (NFR.sub z.fab (zl.sub M sI)) hn λp' r' s2 hr k2 sr fr=>?_);have z2:=Sep.unlock ((zl.fresh1 k2 sr fr).perm (List.Perm.swap _ _ _));have hcp:PL c0=none:=by rw[hPL];unfold one;rw[aj (hcn t (.refl t)).1]
 have hc3:add PL s2 c0=some (false,.cells 92 [ka,aa,x]):=by rw[cC hcp];exact k2 _ _ ((gB hcp).trans hc)
 have x0:bV (.tup [Pp p',Ii 0]) 0=some (Pp p'):=rfl;have x1:bV (.tup [Pp p',Ii 0]) 1=some (Ii 0):=rfl;have hln:n<(ps.map λp=>AV.ptr p 0).length:=gR;have har:add PL s2 ar=some (false,.cells 22 (ps.map λp=>AV.ptr p 0)):=z2.sub (one ar (false,.cells 22 (ps.map λp=>AV.ptr p 0))) sI _ _ bW;simp only[x0,x1,ad1,ae];refine cw har hln rfl λs3 h3 u3=>?_;have e5:(ps.map λp=>AV.ptr p 0).set n (Pp p')=(ps.set n p').map λp=>AV.ptr p 0:=by rw[map_set]
 rw[e5]at h3;have z3:Sep s3 ([PL,r',q,M,one ar (false,.cells 22 ((ps.set n p').map λp=>Pp p)),G,E]++rs):=by have:=Sep.wr (l1:=[PL,r',q,M]) (l2:=[G,E]++rs) z2 u3 (by rw[bW];simp) h3;rw[i6]at this;exact this
 have ⟨rt,hrt⟩:∃rt,rs[n]?=some rt:=⟨_,gE (by rw[z.rl];exact hn)⟩
 have z6:Sep s3 ([PL,q,M,one ar (false,.cells 22 ((ps.set n p').map λp=>Pp p)),G,E]++rs.set n r'):=Sep.push hrt (Sep.idxA (A:=[PL,r',q,M,one ar (false,.cells 22 ((ps.set n p').map λp=>Pp p)),G,E]) (z3.pull hrt).drop [1,0,2,3,4,5,6] dE);rw[hPL]at z6;have hc':Hc s3 c0 92 [ka,aa,x]:=by rw[u3 c0 λe=>by rw[e,har]at hc3;cases hc3];exact hc3
 have pw:PlW F cs s3 pl E M { T with R:=updR T.R n (new0 F) }:=by
  refine⟨ar,g,wv,glv,G,q,rs.set n r',ps.set n p',z6,by rw[gN];exact z.rl,by rw[gN];exact z.pn,z.gr,z.ap,z.fab,z.way,λn' r2 p2 hr2 hp2=>?_⟩;show RoAt _ _ _ _ n' r2 p2 (updR T.R n _ n');unfold updR
  by_cases e:n'=n
  grind
  grind [PlP.ro]
 exact Ti pw hn hc' rfl λt' h=>hK t' h
theorem Lf(h:TN.NFR M cs F):cs[0]?=some (Ii F.x.lf)/\cs[1]?=some (Ii F.x.sp)/\cs[13]?=some (Ii F.x.de):=by obtain⟨v2,v3,v4,v5,v6,v7,rfl,_⟩:=h.ex;exact⟨rfl,rfl,rfl⟩
theorem zW{ka aa:Int}{x:Bool}(ok:TN.NFok F)(z:PlW F cs t pl E M T)(hK:∀t' T',Chg F T T'->PlW F cs t' pl E M T'->K (.tup []) t'):wC TP 30 [Pp pl,.agg [ka,aa,x]] K t:=by
 refine n_ ⟨rfl,aI λc0 t1 hc0 q1 u1=>?_⟩;have q1:Hc t1 c0 92 [ka,aa,x]:=q1;have z1:=z.sub (u1.sub hc0);have zz:=z1;have ⟨ar,g,wv,glv,G,q,rs,ps,zp⟩:=z1;have ⟨clen,v2,c2,hl⟩:=kJ zp.fab;have ⟨e0,e1,_⟩:=Lf zp.fab;have xlf:=ok.x.lf;have xsp:=ok.x.sp;have xL:=ok.Ln;have hpl:Hc t1 pl 96 (plC cs g (.slc ar 0 (nF F) none 1) wv T.now):=zp.sep.sub (one pl (false,.cells 96 (plC cs g (.slc ar 0 (nF F) none 1) wv T.now))) sI _ _ bW;have hcp:c0≠pl:=λe=>gR;have kG:Sub G t1:=zp.sep.sub G sI;have kM:Sub M t1:=zp.sep.sub M sI;have p0:(plC cs g (.slc ar 0 (nF F) none 1) wv T.now)[0]?=some (Ii F.x.lf):=gR;have p1:(plC cs g (.slc ar 0 (nF F) none 1) wv T.now)[1]?=some (Ii F.x.sp):=gR;have p2:(plC cs g (.slc ar 0 (nF F) none 1) wv T.now)[2]?=some v2:=gR;have p19:=pl19 (g:=g) (rsl:=.slc ar 0 (nF F) none 1) (wv:=wv) (now:=T.now) clen;have ll:cM v2=some F.L.length:=by rw[hl.len,lMY]
 simp only[bQ,aK,zAY,ae,au hpl,p0,p1,bg,au q1,g0Y];rw[aT];rw[show(AV.int .i64 4)=((4:Nat):Int)from rfl];refine Ld oM oM λk hk=>?_;have links:px (Pp pl) (Pp c0) ((F.x.lf:Int)+(F.x.sp:Int):Int) k true K t1:=by unfold px;simp only[bD,bQ,aK,zAY,ae,au hpl,p2,ll,dy];refine aL (λhg=>?_) (λ_=>hK t1 T .no zz);have hg:0<F.L.length:=gR;refine⟨t1,.refl t1,?_⟩;simp only[ae,au hpl,p19,au q1,g0Y,g1Y,p2,ll];rw[gT];refine Ld hg oM λi hi=>?_;rw[ke];refine wC.goes kG (TG.SetLink_in zp.gr zp.ap (oM) λG' _ hgr u s1 go=>?_);have z2:=Sep.goes (l1:=[one pl (false,.cells 96 (plC cs g (.slc ar 0 (nF F) none 1) wv T.now)),q,M,one ar (false,.cells 22 (ps.map λp=>Pp p))]) (l2:=E::rs) zp.sep go;rw[Int.toNat_natCast]at hgr;exact hK s1 _ (.link i x hi) ⟨ar,g,wv,glv,G',q,rs,ps,z2,zp.rl,zp.pn,hgr,zp.ap,zp.fab,zp.way,zp.ro⟩
 have others:px (Pp pl) (Pp c0) ((F.x.lf:Int)+(F.x.sp:Int):Int) k false K t1:=by
  unfold px;simp only[aR,cj,bJ,Bool.false_bne,ae];refine aL (λ_=>?_) (λ_=>hK t1 T .no zz);simp only[aK,zAY,ae,au q1,g0Y,g1Y];rw[show((F.x.lf:Int)+(F.x.sp:Int))=((nF F:Nat):Int)by show _=((F.x.lf+F.x.sp:Nat):Int);omega];refine Ld (show 0<F.x.lf+F.x.sp by omega) (show F.x.lf+F.x.sp<=1000000 by omega) λn hn=>?_;simp only[ae,au q1,g0Y,g1Y];rcases x with _|_;rw[aR];exact Tj ok zz hn q1 (λ_ _=>⟨hcp,trivial⟩) (up:=false) rfl λt' h=>hK t' _ (.node n false hn) h;rw[bD];simp only[bQ,aK,zAY,ae,au hpl,p19];refine TG.Alive_in (zp.gr.sub kG) ?_;have eal:TG.aliveI (nF F) T.nu (n:Int)=T.nu n:=by unfold TG.aliveI;rw[aH ⟨oM,by have:n<nF F:=hn;omega⟩,Bool.true_and,Int.toNat_natCast]
  rw[eal];simp only[cQ,ae];exact Tj ok zz hn q1 (λ_ _=>⟨hcp,trivial⟩) (up:=!T.nu n) rfl λt' h=>hK t' _ (.node n true hn) (by simpa using h)
 simp only[cj,bJ,Bool.false_bne,ae];refine aL (λh=>?_) (λh=>?_);rw[h];exact links
 ·cases hk1:((k:Int) == 1)with
  |true=>exact links
  |false=>exact others
variable{T':Pst}{k:Nat}
inductive Rch (F:TN.NFab):Nat->Pst->Prop where
 |zero:Rch F 0 (pst0 F)
 |step {k:Nat}{T T':Pst}:Rch F k T->Chg F T T'->Rch F (k+1) (fM (nF F) F.L T')
theorem vP(h:Chg F T T'):T'.now=T.now:=by cases h<;>rfl
theorem vQ(h:Rch F k T):T.now=k:=by
 induction h with
 |zero=>rfl
 | step h c ih=>
   show(ph2 _ _ _ _).now=_
   grind [jO,vP]
def AH:Prop:=∀(K:AV->Hq->Prop) (s:Hq),(∀s',Sub s s'->K true s')->wC TP 3 [] K s
theorem ot(hn:n<32)(hK:K (Iw (lbk n)) s):wC TP 13 [n] K s:=by refine e_ (pE hn ?_);exact hK
abbrev ChR:=Int×Int×Bool
def chC(c:ChR):List AV:=[c.1,c.2.1,c.2.2]
def Lg:Prop:=∀(F:TN.NFab) (k:Nat) (T T':Pst),TN.NFok F->Rch F k T->k<40->Chg F T T'->TickOk (nF F) F.L T'
variable{N:Nat}{B B':Int}{F:List (Int × LS.Rec)}{rc:LS.Rec}
structure GoodR(N:Nat)(L:List LS.Lnk)(B:Int)(r:LS.Rec):Prop where
 n:0<=r.1/\r.1<N
 q:1<=r.2.1/\r.2.1<=B
 a:r.2.2.Pairwise (· < ·)
 o:∀i∈r.2.2,owB L r.1 i=true
theorem GoodR.up(h:GoodR N L B rc)(k:B<=B'):GoodR N L B' rc:=⟨h.n,by have:=h.q;omega,h.a,h.o⟩
theorem AI:∀{l:List Int}{p:Option Int},l.Pairwise (· < ·)->(∀i∈l,0<=i/\i<128)->(∀q,p=some q->∀i∈l,q<i)->LS.chkL p l=0
 |[],p,_,_,_=>by unfold LS.chkL;rfl
 | y::l,p,h1,h2,h3=>by
   have ⟨a,b⟩:=aB.1 h1;have hy:=h2 y sI;unfold LS.chkL;rw[aj oM,aj ?_]
   ·exact AI b (λi hi=>h2 i (by simp[hi])) λq hq i hi=>by cases hq;exact a i hi
   ·cases p with
    |none=>simp
    | some q=>
      have:=h3 q rfl y sI;simp;omega
theorem vR{i v:Int}(h:owB L v i=true):0<=i/\i<L.length:=⟨(oT h).1,(oT h).2.1⟩
theorem GoodR.lst(h:GoodR N L B rc)(hL:L.length<=64){p:Option Int}(hp:p=none):LS.chkL p rc.2.2=0:=
 AI h.a (λi hi=>by have:=vR (h.o i hi);omega) (by simp_all)
theorem GoodR.chk(h:GoodR N L B rc)(hL:L.length<=64)(hB:B<=1073741824):LS.chkR (N:Int) rc.1 rc.2.1 rc.2.2=0:=by unfold LS.chkR;have h1:=h.n;have h2:=h.q;rw[aj oM];exact h.lst hL rfl
theorem Lh:∀{l:List Int}{lo n:Int},l.Pairwise (· < ·)->(∀i∈l,lo<=i/\i<n)->lo<=n->(l.length:Int)+lo<=n
 |[],lo,n,_,_,h=>by simpa using h
 | y::l,lo,n,h1,h2,_=>by
   have ⟨a,b⟩:=aB.1 h1;have hy:=h2 y sI;have:=Lh (lo:=y+1) (n:=n) b (λi hi=>gR) oM
   grind
theorem vT{l:List Int}{n:Nat}(h:l.Pairwise (· < ·))(hb:∀i∈l,0<=i/\i<(n:Int)):l.length<=n:=by have:=Lh (lo:=0) (n:=n) h hb oM;omega
theorem GoodR.len(h:GoodR N L B rc):rc.2.2.length<=L.length:=vT h.a λi hi=>vR (h.o i hi)
structure eO(N:Nat)(L:List LS.Lnk)(B:Int)(F:List (Int×LS.Rec)):Prop where
 g:∀k r,look F k=some r->r.1=k/\GoodR N L B r
 nd:(F.map (·.1)).Nodup
 k:∀k∈F.map (·.1),0<=k/\k<(N:Int)
theorem eO.up(h:eO N L B F)(k:B<=B'):eO N L B' F:=⟨λn r hr=>⟨(h.g n r hr).1,(h.g n r hr).2.up k⟩,h.nd,h.k⟩
theorem eO.nil:eO N L B []:=⟨(λk r h=>by cases h),sI,sI⟩
theorem eO.asc(h:eO N L B F):LS.AscF F:=λk r hr=>(h.g k r hr).2.a
variable{x:Nat}{dl:Int}{q:LS.Rec}
theorem sx{k:Int}:∀{F:List (Int×LS.Rec)},look F k=none->k ∉ F.map (·.1)
 |[],_=>sI
 | e::F,h=>by
   unfold look at h;rw[find?_cons]at h;cases q:(e.1 == k)with
   |true=>rw[q]at h;cases h
   | false=>
     rw[q]at h;have ih:=sx (F:=F) (k:=k) h;intro hk;rw[cL]at hk;rcases mCY hk with e1|hk
     ·rw[<- e1]at q;simp at q
     ·exact ih hk
theorem AJ{k:Int}{r:LS.Rec}(h:eO N L B F)(hr:GoodR N L B r)(e:r.1=k):eO N L B (stor F k r):=by
 have hn:=hr.n;refine⟨λj y hy=>?_,?_,?_⟩
 ·grind [jE,eO.g]
 ·unfold stor
  cases q:look F k with
  | some o=>
    have:(F.map λp=>if p.1=k then(k,r)else p).map (·.1)=F.map (·.1):=by
     rw[map_map];refine cK λp hp=>?_
     grind
    grind [eO.nd]
  | none=>
    grind [sx,eO.nd]
 ·unfold stor
  cases q:look F k with
  | some o=>
    intro j hj;have:(F.map λp=>if p.1=k then(k,r)else p).map (·.1)=F.map (·.1):=by
     rw[map_map];refine cK λp hp=>?_
     grind
    have hj:j∈(F.map λp=>if p.1=k then(k,r)else p).map (·.1):=hj;rw[this]at hj;exact h.k j hj
  | none=>
    intro j hj;have hj:j∈(F ++ [(k,r)]).map (·.1):=hj;rw[bM]at hj;rcases mP hj with hj|hj
    ·exact h.k j hj
    grind
theorem Ll(hF:eO N L (B+1) F)(hq:GoodR N L B q)(hx:x<N)(hd:0<=dl/\dl<=B+1)(hL:L.length<=64)(hB:0<=B/\B<1073741824):
  (LS.eI (N:Int) (x:Int) dl F q).err=0/\eO N L (B+1) (LS.eI (N:Int) (x:Int) dl F q).F/\0<=(LS.eI (N:Int) (x:Int) dl F q).last/\(LS.eI (N:Int) (x:Int) dl F q).last<=B+1:=by
 have hs:=hq.q;unfold LS.eI;rw[aj (by rw[hq.chk hL oM];simp)];have hq':=hq.up (B':=B+1) oM;cases ho:look F q.1 with
 | none=>
   grind [AJ]
 | some o=>
   simp only[];split
   ·grind
   ·split
    ·split
     ·rename_i e
      rw[aj oM];have ⟨e1,e2⟩:=hF.g _ _ ho;refine⟨rfl,AJ hF ⟨gR,gR,e2.a,λi hi=>?_⟩ rfl,gR,gR⟩
      grind [GoodR.o]
     grind [AJ]
    ·grind
variable{Us:List Int}
theorem Lm(hF:eO N L (B+1) F)(hx:x<N)(hd:0<=dl/\dl<=B+1)(hL:L.length<=64)(hB:0<=B/\B<1073741800)(h1:Us.Pairwise (· < ·))(h2:∀i∈Us,owB L (x:Int) i=true):
  (LS.ownR (x:Int) dl F Us).err=0/\eO N L (B+2) (LS.ownR (x:Int) dl F Us).F/\0<=(LS.ownR (x:Int) dl F Us).last/\(LS.ownR (x:Int) dl F Us).last<=B+2/\GoodR N L (B+2) (LS.ownR (x:Int) dl F Us).r:=by
 have hc:LS.chkL none Us=0:=AI h1 (λi hi=>by have:=vR (h2 i hi);omega) λq hq=>by cases hq
 have new:(LS.ownN (x:Int) dl F Us).err=0/\eO N L (B+2) (LS.ownN (x:Int) dl F Us).F/\0<=(LS.ownN (x:Int) dl F Us).last/\(LS.ownN (x:Int) dl F Us).last<=B+2/\GoodR N L (B+2) (LS.ownN (x:Int) dl F Us).r:=by
  unfold LS.ownN;rw[aj oM];have g:GoodR N L (B+2) ((x:Int),dl+1,Us):=⟨gR,gR,h1,h2⟩
  grind [AJ,eO.up]
 grind [LS.ownR,eO.up,eO.g]
theorem eO.len(h:eO N L B F):F.length<=N:=by have h1:=ii (F.map (·.1));have h2:=xn (F.map (·.1));have h3:(eH (F.map (·.1))).Nodup:=h1.nodup_iff.2 h.nd;have h4:(eH (F.map (·.1))).Pairwise (· < ·):=(h2.and h3).imp λ⟨a,b⟩=>oM;have:=vT (n:=N) h4 λi hi=>h.k i (h1.mem_iff.1 hi);rw[h1.length_eq,lMY]at this;exact this
theorem Tl(h:eO N L B F):(LS.allR F).length<=N:=by have h1:(LS.allR F).length<=(eH (F.map (·.1))).length:=length_filterMap_le _ _;rw[(ii _).length_eq,lMY]at h1;have:=h.len;omega
theorem Lo(h:eO N L B F):∀r∈LS.allR F,GoodR N L B r:=λr hr=>by
 grind [IY,eO.g]
variable{k de:Int}{S:Ro}{hd:List Int}
structure WtG(de k:Int)(W:DT.Wt):Prop where
 m:W.m=de
 l:∀j,W.last=some j->j<=k
 h:∀j,W.heard=some j->0<=j/\j<=k
 c:0<=W.changes/\W.changes<=k
structure RoG(N x:Nat)(L:List LS.Lnk)(de B k:Int)(S:Ro):Prop where
 w:∀n∈ownL L x,WtG de k (S.W n)
 la:S.tk=true->S.la<=k
 dl:0<=S.dl/\S.dl<=B
 F:eO N L B S.F
 U:S.U.length=L.length
theorem WtG.tick{W:DT.Wt}{b:Bool}(h:WtG de k W)(hk:0<=k):WtG de (k+1) (DT.gW W (k+1) b):=by
 refine⟨h.m,λj hj=>?_,λj hj=>?_,?_⟩
 ·have:some (k+1)=some j:=hj
  cases this;omega
 ·cases b with
  | true=>
    have:some (k+1)=some j:=hj;cases this;omega
  | false=>
    have:=h.h j hj;omega
 have:=h.c;show 0<=(if DT.eT W (k+1) b then W.changes+1 else W.changes)/\(if DT.eT W (k+1) b then W.changes+1 else W.changes)<=k+1;split<;>omega
theorem pP:(ownL L x).Pairwise (· < ·):=List.Pairwise.filter _ pairwise_lt_range
theorem Lp{W:Nat->DT.Wt}:(ups (ownL L x) W).Pairwise (· < ·):=by
 grind [ups,pP]
theorem Lq{W:Nat->DT.Wt}:∀i∈ups (ownL L x) W,owB L (x:Int) i=true:=λi hi=>by
 obtain⟨n,hn,rfl⟩:=aG.1 hi
 grind [jm]
theorem Lr{f:Int->Int->Bool}(hL:L.length<=64):(LS.fw f L).length=L.length:=by
 grind [LS.fw]
theorem AK{lu nu:Nat->Bool}(hL:L.length<=64):(dK L lu nu x).Pairwise (· < ·)/\(∀i∈dK L lu nu x,owB L (x:Int) i=true)/\(dK L lu nu x).length<=1000:=by
 refine⟨?_,λi hi=>?_,?_⟩
 grind [dK,pP]
 obtain⟨n,hn,rfl⟩:=aG.1 hi
 grind [jm]
 grind [dK,pK]
theorem Ls(h:RoG N x L de (B+1) k S)(hx:x<N)(hN:N<=32)(hL:L.length<=64)(hB:0<=B/\B<1073741800)(hk:0<=k/\k<=1000)(hde:1<=de/\de<=1000)(ha:hd.Pairwise (· < ·))(ho:∀i∈hd,owB L (x:Int) i=true)(hl:hd.length<=1000):
  TkP x L S (k+1) hd/\RoG N x L de (B+2) (k+1) (iO x L S (k+1) hd)/\(∀n∈gD x L S (k+1) hd,GoodR N L (B+2) n.2):=by
 have G:=Lm (Us:=ups (ownL L x) (Wn (ownL L x) S.W (k+1) hd)) h.F hx h.dl hL hB Lp Lq;have hG:LS.ownR (x:Int) S.dl S.F (ups (ownL L x) (Wn (ownL L x) S.W (k+1) hd))=gM x (ownL L x) S (k+1) hd:=rfl;rw[hG]at G;have ⟨g1,g2,g3,g4,g5⟩:=G;refine⟨⟨λn hn=>?_,oM,λht=>by have:=h.la ht;omega,h.dl.1,h.U,ha,ho,hl,g2.asc,?_,?_⟩,⟨λn hn=>?_,λ_=>by show k+1<=k+1;omega,⟨g3,g4⟩,g2,Lr hL⟩,λn hn=>?_⟩;have w:=h.w n hn;refine⟨⟨by rw[w.m];omega,by rw[w.m];omega,λj hj=>by have:=w.h j hj;omega⟩,⟨w.c.1,by have:=w.c;omega⟩,?_⟩;unfold DT.jj;rw[aj oM];rcases q:(S.W n).last with _|j;rfl;have:=w.l j q
 grind
 have:=g5.len;omega;have:=Tl g2;omega;show WtG de (k+1) (Wn (ownL L x) S.W (k+1) hd n)
 grind [Wn,WtG.tick,RoG.w]
 grind [gD,ntsL,chT,Lo]
theorem Tm{lk:Int}(h:RoG N x L de (B+1) k S)(hx:x<N)(hL:L.length<=64)(hB:0<=B/\B<1073741800)(hde:1<=de)(hq:GoodR N L B q)(ho:owB L (x:Int) lk=true):
  RvP N x L S lk q/\RoG N x L de (B+1) k (iP N x L S q)/\(∀n∈il N x L S lk q,GoodR N L (B+1) n.2):=by
 have ⟨g1,g2,g3,g4⟩:=Ll (q:=q) h.F hq hx h.dl hL ⟨hB.1,oM⟩;refine⟨⟨λn hn=>by rw[(h.w n hn).m];omega,ho,h.U,by have:=hq.len;omega,g1,g2.asc⟩,⟨h.w,h.la,⟨g3,g4⟩,g2,Lr hL⟩,λn hn=>?_⟩;unfold il ntsL at hn;have ⟨i,hi,hn⟩:=mem_flatMap.1 hn;split at hn
 ·obtain⟨r,hr,rfl⟩:=aG.1 hn
  unfold chR at hr;split at hr
  grind [GoodR.up]
  ·split at hr
   rename_i hc;rw[bN]at hr;rw[hr];have:=Jq (N:=N) (x:=x) (S:=S) (q:=q) gR;exact(g2.g _ _ this).2
   ·cases hr
 ·cases hn
variable{k':Int}{m:Msg}
theorem WtG.up{W:DT.Wt}(h:WtG de k W)(hk:k<=k'):WtG de k' W:=⟨h.m,λj hj=>by have:=h.l j hj;omega,λj hj=>by have:=h.h j hj;omega,by have:=h.c;omega⟩
theorem RoG.up(h:RoG N x L de B k S)(hB:B<=B')(hk:k<=k'):RoG N x L de B' k' S:=⟨λn hn=>(h.w n hn).up hk,λht=>by have:=h.la ht;omega,by have:=h.dl;omega,h.F.up hB,h.U⟩
structure MsgG(N:Nat)(L:List LS.Lnk)(B:Int)(m:Msg):Prop where
 n:m.1<N
 o:owB L (m.1:Int) (m.2.1:Int)=true
 r:GoodR N L B m.2.2
theorem MsgG.up(h:MsgG N L B m)(hB:B<=B'):MsgG N L B' m:=⟨h.n,h.o,h.r.up hB⟩
structure Lks(N:Nat)(L:List LS.Lnk):Prop where
 n:N<=32
 l:L.length<=64
 e:∀y∈L,(0<=y.1/\y.1<(N:Int))/\(0<=y.2.1/\y.2.1<(N:Int))
theorem Lt(hl:Lks N L){i:Nat}(ho:owB L (n:Int) (i:Int)=true):far L n i<N/\owB L ((far L n i:Nat):Int) (i:Int)=true:=by
 have h:=oT ho;have hlk:i<L.length:=by have:=h.2.1;omega
 have hyg:L.getD i (0,0,0)=L[i]:=gR;have ⟨e1,e2⟩:=hl.e _ (aN hlk);have hor:=h.2.2;rw[Int.toNat_natCast,hyg]at hor;have hf:((far L n i:Nat):Int)=L[i].1+L[i].2.1-(n:Int):=by
  grind [far]
 refine⟨gR,aH ⟨h.1,h.2.1,?_⟩⟩
 grind
theorem Tn(hl:Lks N L){ns:List Ntc}(ho:∀y∈ns,owB L (n:Int) (y.1:Int)=true)(hg:∀y∈ns,GoodR N L B y.2):∀m∈msgs L n ns,MsgG N L B m:=λm hm=>by obtain⟨y,hy,rfl⟩:=aG.1 hm;have ⟨a,b⟩:=Lt hl (ho y hy);exact⟨a,b,hg y hy⟩
structure PG(N:Nat)(L:List LS.Lnk)(de B k:Int)(T:Pst):Prop where
 now:T.now=k
 ro:∀n,n<N->RoG N n L de B k (T.R n)
 way:∀m∈T.way,MsgG N L B m
structure Bnd(B k de:Int):Prop where
 B:0<=B/\B<1073741800
 k:0<=k/\k<=1000
 de:1<=de/\de<=1000
theorem Lu(hl:Lks N L)(b:Bnd B k de)(h1:∀n,n<N->RoG N n L de (B+1) k (T.R n))(h2:∀m∈T.way,MsgG N L (B+1) m)(hm:MsgG N L B m):
  RvP N m.1 L (T.R m.1) (m.2.1:Int) m.2.2/\(∀n,n<N->RoG N n L de (B+1) k ((rcv N L T m).R n))/\(∀y∈(rcv N L T m).way,MsgG N L (B+1) y):=by
 have ⟨g1,g2,g3⟩:=Tm (h1 _ hm.n) hm.n hl.l b.B b.de.1 hm.r hm.o;refine⟨g1,λn hn=>?_,λy hy=>?_⟩;unfold rcv;split;show RoG N n L de (B+1) k (updR T.R m.1 _ n)
 grind [updR]
 exact h1 n hn;unfold rcv at hy;split at hy;have hy:y∈T.way++msgs L m.1 (il N m.1 L (T.R m.1) (m.2.1:Int) m.2.2):=hy;rcases mP hy with hy|hy;exact h2 y hy;exact Tn hl (λz hz=>AG hz) g3 y hy;exact h2 y hy
theorem kK(hl:Lks N L)(b:Bnd B k de)(h:PG N L de B k T):∀i,(∀n,n<N->RoG N n L de (B+1) k ((ph1 N L T i).R n))/\(∀y∈(ph1 N L T i).way,MsgG N L (B+1) y)
 | 0=>⟨λn hn=>(h.ro n hn).up oM oM,λy hy=>by cases hy⟩
 | i+1=>by
   have ⟨a,c⟩:=kK hl b h i;rcases q:T.way[i]? with _|m;have:ph1 N L T (i+1)=ph1 N L T i:=by unfold ph1;rw[bO,q];simp
   grind
   rw[oq q];exact(Lu hl b a c (h.way m (mG q))).2
theorem AL(hl:Lks N L)(b:Bnd B k de)(h:PG N L de B k T):∀i,i<=N->(∀n,n<N->(n<i->RoG N n L de (B+2) (k+1) ((ph2 N L T i).R n))/\(i<=n->RoG N n L de (B+1) k ((ph2 N L T i).R n)))/\(∀y∈(ph2 N L T i).way,MsgG N L (B+2) y)
 | 0,_=>by
   have ⟨a,c⟩:=kK hl b h T.way.length;exact⟨λn hn=>⟨λh=>oM,λ_=>a n hn⟩,λy hy=>(c y hy).up oM⟩
 | i+1,hi=>by
   have ⟨a,c⟩:=AL hl b h i oM;have ri:=(a i oM).2 (Nat.le_refl i);have ⟨k1,k2,k3⟩:=AK (x:=i) (lu:=(ph2 N L T i).lu) (nu:=(ph2 N L T i).nu) hl.l;have ⟨g1,g2,g3⟩:=Ls ri oM hl.n hl.l b.B b.k b.de k1 k2 k3;have hnow:(ph2 N L T i).now=k+1:=by rw[jO.2.2,h.now]
   rw[lJ];refine⟨λn hn=>?_,λy hy=>?_⟩;unfold tck;split;show(n<i+1->RoG N n L de (B+2) (k+1) (updR _ i _ n))/\(i+1<=n->RoG N n L de (B+1) k (updR _ i _ n))
   grind [updR]
   grind [RoG.up]
   unfold tck at hy;split at hy;rw[hnow]at hy;have hy:y∈(ph2 N L T i).way++msgs L i (gD i L ((ph2 N L T i).R i) (k+1) (dK L (ph2 N L T i).lu (ph2 N L T i).nu i)):=hy;rcases mP hy with hy|hy;exact c y hy;exact Tn hl (λz hz=>AG hz) g3 y hy;exact c y hy
theorem Lv(hl:Lks N L)(b:Bnd B k de)(h:PG N L de B k T):PG N L de (B+2) (k+1) (fM N L T):=by have ⟨a,c⟩:=AL hl b h N (Nat.le_refl N);exact⟨by show(ph2 N L T N).now=_;rw[jO.2.2,h.now],λn hn=>(a n hn).1 hn,c⟩
theorem Lw(hl:Lks N L)(b:Bnd B k de)(h:PG N L de B k T)(h1:(fM N L T).way.length<=16777216)(h2:T.way.length<=16777216):TickOk N L T:=by
 refine⟨λi m hm=>?_,λn hn ha=>?_,h1,h2⟩;have ⟨a,c⟩:=kK hl b h i
 grind [Lu,PG.way,MsgG.n]
 have ⟨a,c⟩:=AL hl b h n oM;have ⟨k1,k2,k3⟩:=AK (x:=n) (lu:=T.lu) (nu:=T.nu) hl.l;rw[h.now];exact(Ls ((a n hn).2 (Nat.le_refl n)) hn hl.n hl.l b.B b.k b.de k1 k2 k3).1
variable{k:Nat}{F:TN.NFab}
theorem Tp(ok:TN.NFok F):RoG (nF F) n F.L (F.x.de:Int) 0 0 (new0 F):=by have ⟨_,hL,_⟩:=jP ok;exact⟨λn _=>⟨rfl,(λj h=>by cases h),(λj h=>by cases h),by show(0:Int)<=0/\(0:Int)<=0;omega⟩,(λh=>by cases h),by show(0:Int)<=0/\(0:Int)<=0;omega,eO.nil,Lr hL⟩
theorem lK(ok:TN.NFok F):Lks (nF F) F.L:=by
 have ⟨_,hL,hN⟩:=jP ok;refine⟨oM,hL,λy hy=>?_⟩;have ⟨a1,a2,_⟩:=ok.L.2 y hy
 grind
theorem Lx(ok:TN.NFok F)(h:PG (nF F) F.L (F.x.de:Int) B (k:Int) T)(hB:0<=B)(c:Chg F T T'):PG (nF F) F.L (F.x.de:Int) B (k:Int) T':=by
 cases c with
 |no=>exact h
 |link i x hi=>exact⟨h.now,h.ro,h.way⟩
 | node n x hn=>
   refine⟨h.now,λj hj=>?_,h.way⟩;show RoG _ _ _ _ _ _ ((if(x&&!T.nu n)=true then updR T.R n (new0 F)else T.R) j);split;unfold updR;split;exact(Tp ok).up hB oM;exact h.ro j hj;exact h.ro j hj
theorem vU(ok:TN.NFok F)(h:Rch F k T):k<=400->PG (nF F) F.L (F.x.de:Int) (2*(k:Int)) (k:Int) T:=by
 have hde:=ok.x.de
 induction h with
 |zero=>exact λ_=>⟨rfl,λn hn=>Tp ok,λm hm=>by cases hm⟩
 | @step j T T' h c ih=>
   intro hk;have h1:=Lx ok (ih oM) oM c;have:=Lv (lK ok) ⟨oM,oM,oM⟩ h1;rw[show(2*((j+1:Nat):Int))=2*(j:Int)+2 by omega,show((j+1:Nat):Int)=(j:Int)+1 by omega];exact this
theorem Tq(ok:TN.NFok F)(h:Rch F k T)(hk:k<=399)(c:Chg F T T')(h1:(fM (nF F) F.L T').way.length<=16777216)(h2:T'.way.length<=16777216):TickOk (nF F) F.L T':=by have hde:=ok.x.de;exact Lw (lK ok) ⟨oM,oM,oM⟩ (Lx ok (vU ok h oM) oM c) h1 h2
def subs:List Int->List (List Int)
 |[]=>[[]]
 |x::l=>(subs l).map (x :: ·)++subs l
theorem Tr:∀{l:List Int},(subs l).length=2^l.length
 |[]=>rfl
 | x::l=>by
   unfold subs;rw[lAp,lMY,Tr,cr,Nat.pow_succ];omega
theorem AN:∀{o l:List Int},o.Pairwise (· < ·)->l.Pairwise (· < ·)->(∀i∈l,i∈o)->l∈subs o
 | [],l,_,_,h=>by
   have:l=[]:=by
    cases l with
    |nil=>rfl
    |cons y l=>have:=h y sI;cases this
   rw[this];simp[subs]
 | x::o,[],h1,_,_=>by
   unfold subs;exact dN _ (AN (aB.1 h1).2 .nil sI)
 | x::o,y::l,h1,h2,h=>by
   have ⟨a1,b1⟩:=aB.1 h1;have ⟨a2,b2⟩:=aB.1 h2;unfold subs
   by_cases e:y=x
   subst e;refine mem_append_left _ (aG.2 ⟨l,AN b1 b2 λi hi=>?_,rfl⟩);have h3:=a2 i hi;rcases mCY (h i (by simp[hi]))with q|q;omega;exact q;refine dN _ (AN b1 h2 λi hi=>?_);have hy:y∈o:=by rcases mCY (h y sI)with q|q;exact absurd q e;exact q
   have hxy:=a1 y hy;rcases mCY hi with q|q;rw[q];exact hy;have h3:=a2 i q;rcases mCY (h i (by simp[q]))with q2|q2;omega;exact q2
def below(o l:List Int):Nat:=((subs o).filter λm=>decide (LS.cmpL m l=-1)).length
theorem Ly{o l:List Int}:below o l<=2^o.length:=by
 grind [below,Tr]
theorem Lz{A:Type}{p q:A->Bool}:∀{l:List A}{x:A},(∀y∈l,p y=true->q y=true)->x∈l->p x=false->q x=true->(l.filter p).length<(l.filter q).length
 | y::l,x,h,hx,h1,h2=>by
   have hle:(l.filter p).length<=(l.filter q).length:=by
    have:∀l:List A,(∀y∈l,p y=true->q y=true)->(l.filter p).length<=(l.filter q).length:=by
     intro l
     induction l with
     |nil=>intro _;simp
     | cons z l ih=>
       grind
    grind
   rw[filter_cons,filter_cons];rcases mCY hx with e|hx
   ·subst e
    rw[h1,h2];simp;omega
   ·have ih:=Lz (λy hy=>h y (by simp[hy])) hx h1 h2
    cases hp:p y with
    |true=>rw[h y sI hp];simpa using ih
    | false=>
      cases hq:q y with
      |true=>simp;omega
      |false=>simpa using ih
theorem Ts:∀l:List Int,LS.cmpL l l=0
 |[]=>rfl
 |x::l=>by rw[LS.pG,aj oM,aj oM];exact Ts l
theorem LA{o l m:List Int}(hl:l∈subs o)(h:LS.cmpL l m=-1):below o l<below o m:=by
 unfold below;refine Lz (λy _ hy=>?_) hl (by rw[Ts];rfl) (by rw[h];rfl)
 grind [LS.Ij,LS.An]
variable{F:List (Int × LS.Rec)}{o r:LS.Rec}
def ownI(L:List LS.Lnk)(v:Int):List Int:=(ownL L v.toNat).map λ(i:Nat)=>(i:Int)
def rk(L:List LS.Lnk)(r:LS.Rec):Nat:=r.2.1.toNat*17+below (ownI L r.1) r.2.2+1
def valF(L:List LS.Lnk)(F:List (Int×LS.Rec))(v:Nat):Nat:=match look F (v:Int)with
 |some r=>rk L r
 |none=>0
def phi(N:Nat)(L:List LS.Lnk)(F:List (Int×LS.Rec)):Nat:=((List.range N).map (valF L F)).sum
theorem vV{f g:Nat->Nat}:∀{l:List Nat},(∀v∈l,f v<=g v)->(l.map f).sum<=(l.map g).sum
 |[],_=>sI
 | y::l,h=>by
   have h1:=h y sI;have h2:=vV (l:=l) λv hv=>h v (by simp[hv])
   grind
theorem vW{f g:Nat->Nat}{x:Nat}:∀{l:List Nat},(∀v∈l,f v<=g v)->x∈l->f x<g x->(l.map f).sum<(l.map g).sum
 | y::l,h,hx,hlt=>by
   have h1:=h y sI;have h2:=vV (l:=l) λv hv=>h v (by simp[hv]);simp only[cL,ff];rcases mCY hx with e|hx;subst e;omega;have h3:=vW (λv hv=>h v (by simp[hv])) hx hlt;omega
theorem Tt{k:Nat}(hk:k<N)(h:valF L F k<rk L r):phi N L F+1<=phi N L (stor F (k:Int) r):=by
 have e:∀v,valF L (stor F (k:Int) r) v=if v=k then rk L r else valF L F v:=(by grind [valF,jE])
 have:=vW (f:=valF L F) (g:=valF L (stor F (k:Int) r)) (x:=k) (l:=List.range N) (gR) (dr.2 hk) gR;unfold phi;omega
theorem LB{v i:Int}(hv:0<=v)(h:owB L v i=true):i∈ownI L v:=by
 have:=vR h;refine aG.2 ⟨i.toNat,jm.2 ?_,oM⟩
 grind
theorem LC{v:Int}:(ownI L v).Pairwise (· < ·):=by
 grind [ownI,pP]
theorem LD(h:GoodR N L B r):r.2.2∈subs (ownI L r.1):=AN LC h.a λi hi=>LB h.n.1 (h.o i hi)
theorem jQ(ho:GoodR N L B o)(e:q.1=o.1)(hd:(ownI L o.1).length<=4)(h:LS.cmpR q.2.1 o.2.1 q.2.2 o.2.2=1)(hq:1<=q.2.1):rk L o<rk L q:=by
 have h1:below (ownI L o.1) o.2.2<=16:=Nat.le_trans Ly (by have:2^(ownI L o.1).length<=2^4:=Nat.pow_le_pow_right oM hd;omega)
 have hs:=ho.q;unfold LS.cmpR at h;unfold rk;rw[e];split at h
 ·cases h
 split at h;omega;have e2:q.2.1=o.2.1:=oM;have h2:LS.cmpL o.2.2 q.2.2=-1:=by rw[LS.An,h]
 have:=LA (LD ho) h2;rw[e2];omega
variable{lk:Int}
theorem Tu{up:Nat->Bool}{ch:Nat->List LS.Rec}(h:∀n,(ch n).length<=1):∀{own:List Nat},(ntsL own up ch).length<=own.length
 |[]=>by simp[ntsL]
 | n::own=>by
   have ih:=Tu (up:=up) h (own:=own);have e:ntsL (n::own) up ch=(if up n=true then(ch n).map λr=>(n,r)else[])++ntsL own up ch:=rfl;have h1:=h n;rw[e,lAp,cr];split;rw[lMY];omega;simp;omega
theorem Tv{up:Nat->Bool}{ch:Nat->List LS.Rec}{k:Int}(h:∀n:Nat,(n:Int)≠k->ch n=[])(h1:∀n,(ch n).length<=1):∀{own:List Nat},own.Pairwise (· < ·)->(ntsL own up ch).length<=1
 |[],_=>by simp[ntsL]
 | n::own,ha=>by
   have ⟨a,b⟩:=aB.1 ha;have ih:=Tv (up:=up) h h1 b;have e:ntsL (n::own) up ch=(if up n=true then(ch n).map λr=>(n,r)else[])++ntsL own up ch:=rfl;rw[e,lAp]
   by_cases hk:(n:Int)=k
   have:ntsL own up ch=[]:=by unfold ntsL;rw[flatMap_eq_nil_iff];intro j hj;have:=a j hj;rw[h j oM];simp
   grind
   grind
theorem LE(hF:eO N L (B+1) F)(hq:GoodR N L B q)(hx:x<N)(hd4:∀v,(ownI L v).length<=4)(hL:L.length<=64)(hB:0<=B/\B<1073741824):
  (((LS.eI (N:Int) (x:Int) dl F q).code=0∨(LS.eI (N:Int) (x:Int) dl F q).code=2)/\(LS.eI (N:Int) (x:Int) dl F q).F=F)∨(((LS.eI (N:Int) (x:Int) dl F q).code=1∨(LS.eI (N:Int) (x:Int) dl F q).code=3)/\phi N L F+1<=phi N L (LS.eI (N:Int) (x:Int) dl F q).F):=by
 have hs:=hq.q;have hn:=hq.n;have eN:((q.1.toNat:Nat):Int)=q.1:=oM;have st:∀(h:valF L F q.1.toNat<rk L q),phi N L F+1<=phi N L (stor F q.1 q):=λh=>by
  have:=Tt (N:=N) (k:=q.1.toNat) oM h
  rwa [eN]at this
 unfold LS.eI;rw[aj (by rw[hq.chk hL oM];simp)];cases ho:look F q.1 with
 | none=>
   grind [valF,rk]
 | some o=>
   have ⟨e1,e2⟩:=hF.g _ _ ho;simp only[];split
   grind
   split;rename_i h2;have hlt:=jQ e2 e1.symm (hd4 _) h2 hs.1;have hv:valF L F q.1.toNat=rk L o:=by unfold valF;rw[eN,ho]
   split;rename_i e;rw[aj oM];refine .inr ⟨.inr rfl,?_⟩;have:=Tt (N:=N) (L:=L) (F:=F) (k:=x) (r:=((x:Int),q.2.1+1,o.2.2)) hx (by
    grind [LS.cmpR,rk])
   exact this
   grind
   grind
theorem LF(hF:eO N L (B+1) S.F)(hq:GoodR N L B q)(hx:x<N)(hd4:∀v,(ownI L v).length<=4)(hL:L.length<=64)(hB:0<=B/\B<1073741824):(il N x L S lk q).length+4*phi N L S.F<=4*phi N L (iP N x L S q).F+1:=by
 have hown:(ownL L x).length<=4:=by
  have:=hd4 (x:Int)
  grind [ownI]
 have c1:∀(c:Int) (n:Nat),(chR c lk q (LS.gotR (eF N x S q).F q.1) n).length<=1:=(by grind [chR])
 show(ntsL _ _ _).length+_<=4*phi N L (eF N x S q).F+1;rcases LE (dl:=S.dl) hF hq hx hd4 hL hB with⟨hc,hf⟩|⟨hc,hp⟩;have hf:(eF N x S q).F=S.F:=hf;have:(ntsL (ownL L x) (λn=>(S.W n).up) (chR (eF N x S q).code lk q (LS.gotR (eF N x S q).F q.1))).length<=1:=by
  refine Tv (k:=lk) (λn hn=>?_) (c1 _) pP;have hc:(eF N x S q).code=0∨(eF N x S q).code=2:=hc
  grind [chR]
 grind
 have h1:=Tu (up:=λn=>(S.W n).up) (c1 (eF N x S q).code) (own:=ownL L x);have hp:phi N L S.F+1<=phi N L (eF N x S q).F:=hp;omega
variable{k:Int}
def Phi(N:Nat)(L:List LS.Lnk)(R:Nat->Ro):Nat:=((List.range N).map λn=>phi N L (R n).F).sum
theorem vX{f:Nat->Nat}{x a:Nat}:∀{l:List Nat},l.Nodup->x∈l->(l.map λn=>if n=x then a else f n).sum+f x=(l.map f).sum+a
 | y::l,hn,hx=>by
   have ⟨h1,h2⟩:=nodup_cons.1 hn;simp only[cL,ff]
   by_cases e:y=x
   subst e;have:(l.map λn=>if n=y then a else f n)=l.map f:=cK λz hz=>by rw[aj];rintro rfl;exact h1 hz
   rw[this,ak rfl];omega;rw[aj e];have hx':x∈l:=by rcases mCY hx with q|q;exact absurd q.symm e;exact q
   have:=vX (f:=f) (a:=a) h2 hx';omega
theorem LG{R:Nat->Ro}(hx:x<N):Phi N L (updR R x S)+phi N L (R x).F=Phi N L R+phi N L S.F:=by
 unfold Phi;have e:((List.range N).map λn=>phi N L (updR R x S n).F)=(List.range N).map λn=>if n=x then phi N L S.F else phi N L (R n).F:=(by grind [updR])
 rw[e];exact vX (f:=λn=>phi N L (R n).F) nodup_range (dr.2 hx)
theorem LH(hl:Lks N L)(b:Bnd B k de)(hd4:∀v,(ownI L v).length<=4)(h1:∀n,n<N->RoG N n L de (B+1) k (T.R n))(hm:MsgG N L B m):(rcv N L T m).way.length+4*Phi N L T.R<=T.way.length+4*Phi N L (rcv N L T m).R+1:=by
 unfold rcv;split;have h:=LF (lk:=(m.2.1:Int)) (h1 _ hm.n).F hm.r hm.n hd4 hl.l ⟨b.B.1,by have:=b.B;omega⟩;have e:=LG (N:=N) (L:=L) (R:=T.R) (S:=iP N m.1 L (T.R m.1) m.2.2) hm.n;show(T.way++msgs L m.1 _).length+_<=T.way.length+4*Phi N L (updR T.R m.1 _)+1
 grind [msgs]
 grind
theorem LI(hl:Lks N L)(b:Bnd B k de)(hd4:∀v,(ownI L v).length<=4)(h:PG N L de B k T):∀i,(ph1 N L T i).way.length+4*Phi N L T.R<=4*Phi N L (ph1 N L T i).R+i
 | 0=>by
   show 0+4*Phi N L T.R<=4*Phi N L T.R+0;omega
 | i+1=>by
   have ih:=LI hl b hd4 h i;cases q:T.way[i]? with
   | none=>
     have:ph1 N L T (i+1)=ph1 N L T i:=by unfold ph1;rw[bO,q];simp
     rw[this];omega
   | some m=>
     rw[oq q];have:=LH (T:=ph1 N L T i) hl b hd4 (kK hl b h i).1 (h.way m (mG q));omega
theorem vY{up:Nat->Bool}{ch:Nat->List LS.Rec}{c:Nat}(h:∀n,(ch n).length<=c):∀{own:List Nat},(ntsL own up ch).length<=own.length*c
 |[]=>by simp[ntsL]
 | n::own=>by
   have ih:=vY (up:=up) h (own:=own);have e:ntsL (n::own) up ch=(if up n=true then(ch n).map λr=>(n,r)else[])++ntsL own up ch:=rfl;have h1:=h n;rw[e,lAp,cr,eB]
   grind
theorem LJ(hl:Lks N L)(b:Bnd B k de)(hd4:∀v,(ownI L v).length<=4)(h:PG N L de B k T)(hN:1<=N):∀i,i<=N->(ph2 N L T i).way.length<=(ph1 N L T T.way.length).way.length+i*(4*N)
 | 0,_=>by show(ph1 N L T T.way.length).way.length<=_;omega
 | i+1,hi=>by
   have ih:=LJ hl b hd4 h hN i oM;have ri:=((AL hl b h i oM).1 i oM).2 (Nat.le_refl i);have ⟨k1,k2,k3⟩:=AK (x:=i) (lu:=(ph2 N L T i).lu) (nu:=(ph2 N L T i).nu) hl.l;have g2:=(Ls ri oM hl.n hl.l b.B b.k b.de k1 k2 k3).2.1.F;have hnow:(ph2 N L T i).now=k+1:=by rw[jO.2.2,h.now]
   rw[lJ,eB];unfold tck;split
   ·rw[hnow]
    show((ph2 N L T i).way++msgs L i (gD i L ((ph2 N L T i).R i) (k+1) (dK L (ph2 N L T i).lu (ph2 N L T i).nu i))).length<=_;rw[lAp];unfold msgs;rw[lMY];have hown:(ownL L i).length<=4:=by
     have:=hd4 (i:Int)
     grind [ownI]
    have hc:∀rs F made rec (n:Nat),(LS.allR F).length<=N->(chT (k+1) rs F made rec n).length<=N:=(by grind [chT])
    have h3:(gD i L ((ph2 N L T i).R i) (k+1) (dK L (ph2 N L T i).lu (ph2 N L T i).nu i)).length<=(ownL L i).length*N:=by unfold gD;exact vY λn=>hc _ _ _ _ n (Tl g2)
    have h4:(ownL L i).length*N<=4*N:=cV N hown;omega
   ·omega
theorem LK(h:GoodR N L B r)(hd4:∀v,(ownI L v).length<=4){b:Nat}(hB:B<=b):rk L r<=b*17+17:=by
 have h1:below (ownI L r.1) r.2.2<=16:=Nat.le_trans Ly (by have:2^(ownI L r.1).length<=2^4:=Nat.pow_le_pow_right oM (hd4 _);omega)
 have:=h.q;unfold rk;omega
theorem LL{f:Nat->Nat}{c:Nat}:∀{l:List Nat},(∀v∈l,f v<=c)->(l.map f).sum<=l.length*c
 |[],_=>sI
 | y::l,h=>by
   have h1:=h y sI;have h2:=LL (l:=l) λv hv=>h v (by simp[hv]);rw[cL,ff,cr,eB];omega
theorem ou{R:Nat->Ro}(h:∀n,n<N->eO N L B (R n).F)(hd4:∀v,(ownI L v).length<=4){b:Nat}(hB:B<=b):Phi N L R<=N*(N*(b*17+17)):=by
 unfold Phi;have:=LL (f:=λn=>phi N L (R n).F) (c:=N*(b*17+17)) (l:=List.range N) λn hn=>by
  show phi N L (R n).F<=_;unfold phi;have:=LL (f:=valF L (R n).F) (c:=b*17+17) (l:=List.range N) λv hv=>by unfold valF;rcases q:look (R n).F (v:Int)with _|r;show 0<=_;omega;exact LK ((h n (dr.1 hn)).g _ _ q).2 hd4 hB
  grind
 grind
variable{k:Nat}{F:TN.NFab}
theorem Tw{l:List Int}{lo hi:Int}(h:l.Nodup)(hb:∀i∈l,lo<=i/\i<hi)(hle:lo<=hi):(l.length:Int)+lo<=hi:=by
 have h1:=ii l;have h3:(eH l).Nodup:=h1.nodup_iff.2 h;have h4:(eH l).Pairwise (· < ·):=((xn l).and h3).imp λ⟨a,b⟩=>oM;have:=Lh (lo:=lo) (n:=hi) h4 (λi hi=>hb i (h1.mem_iff.1 hi)) hle
 rwa [h1.length_eq]at this
theorem own4(ok:TN.NFok F):(ownL F.L x).length<=4:=by
 have h1:=ok.x.lf;have h2:=ok.x.sp;have ⟨nd,rg⟩:=ok.L;have at_:∀i∈ownL F.L x,∃h:i<F.L.length,F.L[i].1=(x:Int)∨F.L[i].2.1=(x:Int):=λi hi=>by
  have h:=oT (jm.1 hi);have hlk:i<F.L.length:=by have:=h.2.1;omega
  simp_all
 have pr:∀i j (hi:i<F.L.length) (hj:j<F.L.length),i<j->(F.L[i].1,F.L[i].2.1)≠(F.L[j].1,F.L[j].2.1):=λi j hi hj hij=>by have:=pairwise_iff_getElem.1 nd i j (by simpa using hi) (by simpa using hj) hij;simpa using this
 by_cases hx:(x:Int)<F.x.lf
 have:=Tw (l:=(ownL F.L x).map λi=>(F.L.getD i (0,0,0)).2.1) (lo:=F.x.lf) (hi:=(F.x.lf:Int)+F.x.sp) (by
  refine pairwise_map.2 (List.Pairwise.imp_of_mem (fun {a b} ha hb hab=>?_) pP);have ⟨la,oa⟩:=at_ a ha;have ⟨lb,ob⟩:=at_ b hb;have ⟨_,ra,_⟩:=rg _ (aN la);have ⟨_,rb,_⟩:=rg _ (aN lb);have ea:F.L.getD a (0,0,0)=F.L[a]:=by rw[dO,gE la];rfl
  have eb:F.L.getD b (0,0,0)=F.L[b]:=by rw[dO,gE lb];rfl
  rw[ea,eb];intro e;refine pr a b la lb hab ?_;have h3:F.L[a].1=(x:Int):=oM;have h4:F.L[b].1=(x:Int):=oM;rw[h3,h4,e]) (λi hi=>by
  obtain⟨j,hj,rfl⟩:=aG.1 hi;have ⟨la,_⟩:=at_ j hj;have ⟨_,ra,_⟩:=rg _ (aN la);have ea:F.L.getD j (0,0,0)=F.L[j]:=by rw[dO,gE la];rfl
  show(F.x.lf:Int)<=(F.L.getD j (0,0,0)).2.1/\(F.L.getD j (0,0,0)).2.1<(F.x.lf:Int)+F.x.sp;rw[ea];omega) oM
 rw[lMY]at this;omega;have:=Tw (l:=(ownL F.L x).map λi=>(F.L.getD i (0,0,0)).1) (lo:=0) (hi:=(F.x.lf:Int)) (by
  refine pairwise_map.2 (List.Pairwise.imp_of_mem (fun {a b} ha hb hab=>?_) pP);have ⟨la,oa⟩:=at_ a ha;have ⟨lb,ob⟩:=at_ b hb;have ⟨ra,_⟩:=rg _ (aN la);have ⟨rb,_⟩:=rg _ (aN lb);have ea:F.L.getD a (0,0,0)=F.L[a]:=by rw[dO,gE la];rfl
  have eb:F.L.getD b (0,0,0)=F.L[b]:=by rw[dO,gE lb];rfl
  rw[ea,eb];intro e;refine pr a b la lb hab ?_;have h3:F.L[a].2.1=(x:Int):=oM;have h4:F.L[b].2.1=(x:Int):=oM;rw[h3,h4,e]) (λi hi=>by
  obtain⟨j,hj,rfl⟩:=aG.1 hi;have ⟨la,_⟩:=at_ j hj;have ⟨ra,_⟩:=rg _ (aN la);have ea:F.L.getD j (0,0,0)=F.L[j]:=by rw[dO,gE la];rfl
  show 0<=(F.L.getD j (0,0,0)).1/\(F.L.getD j (0,0,0)).1<(F.x.lf:Int);rw[ea];omega) oM
 rw[lMY]at this;omega
theorem own4I(ok:TN.NFok F)(v:Int):(ownI F.L v).length<=4:=by grind [ownI,own4]
theorem vZ(c:Chg F T T'):T'.way=T.way:=by cases c<;>rfl
theorem Tx(ok:TN.NFok F)(h:Rch F k T)(hk:k<=40)(c:Chg F T T'):(fM (nF F) F.L T').way.length<=T'.way.length+300000:=by
 have hde:=ok.x.de;have h1:=ok.x.lf;have h2:=ok.x.sp;have hN:nF F<=7:=(jP ok).2.2;have hN1:1<=nF F:=gR;have g:=Lx ok (vU ok h oM) oM c;have b:Bnd (2*(k:Int)) (k:Int) (F.x.de:Int):=⟨oM,oM,oM⟩
 have l1:=LI (lK ok) b (own4I ok) g T'.way.length;have l2:=LJ (lK ok) b (own4I ok) g hN1 (nF F) (Nat.le_refl _);have p:=ou (N:=nF F) (L:=F.L) (R:=(ph1 (nF F) F.L T' T'.way.length).R) (λn hn=>((kK (lK ok) b g T'.way.length).1 n hn).F) (own4I ok) (b:=81) oM;have p2:nF F*(nF F*(81*17+17))<=7*(7*(81*17+17)):=Nat.mul_le_mul hN (cV _ hN);have p3:nF F*(4*nF F)<=7*(4*7):=gR;show(ph2 (nF F) F.L T' (nF F)).way.length<=_;omega
theorem v8(ok:TN.NFok F)(h:Rch F k T):k<=41->T.way.length<=k*300000:=by
 induction h with
 |zero=>intro _;show 0<=_;omega
 | @step j T T' h c ih=>
   grind [Tx,vZ]
theorem LM:Lg:=λF k T T' ok h hk c=>by
 have h1:=v8 ok h oM
 grind [Tx,vZ,Tq]
theorem wf64{n:Int}(h:(Lit.int .i64 n).wf=true):-9223372036854775808<=n/\n<=9223372036854775807:=by unfold Lit.wf at h;simpa [aA.min,aA.max,aA.bits,aA.signed]using h
theorem LN{d:Nat}(h:Arg TP s (d+2) 25 v):∃l:List Int,Sl s v (l.map (AV.int .i64))/\(∀x∈l,-9223372036854775808<=x/\x<=9223372036854775807)/\l.length<=maxLen:=
 CU (d:=d+1) Tryz.underlying25 kR (AV.int .i64) (λn=>-9223372036854775808<=n/\n<=9223372036854775807) (λxs h=>by have ⟨n,e,w⟩:=CV Tryz.underlying3 h;exact⟨n,e,wf64 w⟩) h
theorem LO{d:Nat}{xs:List AV}(h:Inp TP s (d+2) 92 xs):∃a:ChR,xs=chC a/\True:=by
 unfold Inp at h;simp only[Tryz.underlying92]at h;obtain⟨h1,h2⟩:=h;rw[show TP.cellsOf 92=3 by kernel_rfl]at h1;have k0:=h2 _ (dW);have k1:=h2 _ (mO _ dW);have k2:=h2 _ (mO _ (mO _ dW))
 match xs,h1 with
 | [w0,w1,w2],_=>
   have ⟨a,e1,ha⟩:=CV (xs:=[w0]) Tryz.underlying3 k0;have ⟨b,e2,_⟩:=CV (xs:=[w1]) Tryz.underlying3 k1;have ⟨c,e3,_⟩:=CX (xs:=[w2]) Tryz.underlying4 k2;cases e1;cases e2;cases e3;exact⟨(a,b,c),rfl,trivial⟩
theorem wd:TP.cellsOf 92=3:=kR
theorem LP{d:Nat}{v:AV}(h:Arg TP s (d+3) 86 v):∃M:List ChR,SlR 3 s v (M.map chC):=by
 have ⟨l,h1,h2,h3⟩:=argR (d:=d+2) Tryz.underlying86 chC (λ_=>True) (λa=>by rw[wd];rfl) (λxs h=>LO h) h
 grind [wd]
end Go.AM.RT
namespace Go.AM
open Go Go.Proofs List Nat
section
variable {K:AV→Hq→Prop} {s s' s0 t:Hq} {N:Nat} {G:List Lnk} {U:List Bool} {d:Nat→Int} {av dv v lv uv w:AV}
theorem LQ(z:GOk N G U)(hN:N<=32)(hG:G.length<=128)(hC:∀x∈G,x.2.2<=1000)(hd:∀m,m<N->-1<=d m/\d m<=32000)(ha:AdjR s av N (edL G U))(hdv:Sl s dv (dl N d))
  (hK:∀b s',s b=none->Hc s' b 3 (dl N (parL G U d))->Sub s s'->K (.slc b 0 N (some N) 1) s'):wC TP 262 [av,dv] K s:=by
 refine r_ ?_;have n0:nat? N=some N:=nat?_mk;simp only[Rr,ha.len,n0,ae,ge,bG];refine⟨⟨Nat.le_refl _,oM⟩,aI λdb s1 hdb h1 u1=>?_⟩;have sub1:=u1.sub hdb;refine⟨λys t m=>∃i:Nat,ys=[Ii i]/\i<=N/\m=N-i/\Sub s t/\Hc t db 3 (dl N λn=>if n<i then parL G U d n else 0),⟨_,0,rfl,oM,rfl,sub1,?_⟩,?_⟩
 ·rw[h1,ig]
  congr 3
  unfold dl;refine ext_getElem? λi=>?_
  grind
 rintro f t m ⟨i,hy,hi,rfl,st,h2⟩;simp only[cI,aq]at hy;rw[hy];simp only[Rq,bu,ae];refine aL (λhlt=>?_) (λhge=>?_)
 ·have hlt:i<N:=gR
  have ad:cF 1 (.slc db 0 N (some N) 1) i=some (.ptr db i):=by
   have:blt i N=true:=by simp_all
   simp[cF,this]
  simp only[ad,ae];refine cw h2 (by rw[ij];exact hlt) rfl λt3 h3 u3=>?_;rw[zS hlt]at h3;have st3:=dp st u3 hdb;have ⟨p,v,a1,a2,a3⟩:=(ha.sub st3).at hlt;simp only[a1,a2,ae];have upd1:∀w:Int,w=parL G U d i->dl N (updI (updI (λn=>if n<i then parL G U d n else 0) i (-1)) i w)=dl N (λn=>if n<i+1 then parL G U d n else 0):=λw hw=>by
   unfold dl
   grind [gp,gw]
  refine RY z hlt hG hC hd a3 (hdv.sub st3) λv' t4 ac s4=>?_;have h4:=s4 _ _ h3;have st4:=st3.trans s4;simp only[ac.sl.len,lMY,dy,ae];refine aL (λhg=>?_) (λhg=>?_)
  ·have hg:0<(fS G U d i).length:=gR
   obtain⟨e,he⟩:∃e,(fS G U d i)[0]?=some e:=(by simp_all)
   have ⟨pb,po,e1,_,e3⟩:=ac.sl.get (i:=0) (r:=edR e) gR;have e1:cF 3 v' (Ii 0)=some (.ptr pb po):=e1;have e4:rd1 t4 (.ptr pb po)=some e.1:=e3 0 oM;simp only[e1,aK,Nat.add_zero,e4,ae];refine cw h4 (by rw[ij];exact hlt) rfl λt5 h5 u5=>?_;rw[zS hlt]at h5;simp only[y8,bg,ae,aS];rw[aT];refine⟨_,oM,i+1,rfl,oM,rfl,dp st4 u5 hdb,?_⟩
   grind [parL]
  ·have hg:fS G U d i=[]:=(by simp_all)
   simp only[y8,bg,ae,aS];rw[aT];refine⟨_,oM,i+1,rfl,oM,rfl,st4,?_⟩;rw[h4];have:=upd1 (-1) (by unfold parL;rw[hg])
   congr 3
   rw[<- this];unfold dl
   grind [gp,gw]
 ·have hge:i=N:=gR
  simp_all [dl]
end
namespace RT
variable{K:AV→Hq→Prop}{s s' s0 t:Hq}{d:Nat→Int}{lv uv:AV}{i n m c:Nat}{g:Int}{db:Nat}
theorem Ty{v w:AV}{l:List AV}(ow:w.one=true)(ac:Acc 3 s0 t v l)(k:Sub s0 t)(hl:l.length<=1000000)(hK:∀v' t',Acc 3 s0 t' v' (l ++ [w])->Sub s0 t'->aV (cN 1 v) t t'->K v' t'):oK (aM (repl 1 [(Ii 0)]) [(0,1,w)]) λc=>aX c=true/\newK 3 c (λb s=>appK 3 1 v (.slc b 0 1 (some 1) 1) K s) t:=by
 refine aE (kx ow) ⟨by rw[dh,ow];rfl,aI λc t2 hc w2 u2=>?_⟩;have k2:=u2.sub hc;have ac2:Acc 3 s0 t2 v l:=ac.imp id λ⟨c,q1,q2,q3⟩=>⟨c,q1,q2,k2 _ _ q3⟩
 refine Au ac2 (k.trans k2) (Sl.mk (l:=[w]) w2 rfl sI) (λb o m c' e q=>?_) oM λv' t3 a3 kp _=>hK v' t3 a3 (λj e hj=>kp j e ((k.trans k2) _ _ hj) λq=>?_) λj e hj hn=>kp j e (k2 _ _ hj) hn
 ·cases e
  rw[(Acc.blk ac q).2]at hc;cases hc
 ·rw[(Acc.blk ac2 q).1]at hj;cases hj
def L3:List LS.Lnk:=[(0,2,1),(1,2,1)]
def G3:List Lnk:=[(0,2,1),(1,2,1)]
def U3:List Bool:=[true,true]
theorem vld3:vld ((3:Nat):Int) L3 U3:=⟨dE,dE,dE,rfl,(by grind [L3,okL])⟩
theorem ed3(h:Ed G3 U3 i n m c):c=1/\((i=0/\((n=0/\m=2)∨(n=2/\m=0)))∨(i=1/\((n=1/\m=2)∨(n=2/\m=1)))):=by
 obtain⟨_,h⟩:=h
 match i with
 | 0=>simp[G3]at h;omega
 | 1=>simp[G3]at h;omega
 |k+2=>simp[G3]at h
theorem ed30:Ed G3 U3 0 0 2 1:=⟨rfl,.inl rfl⟩
theorem ed31:Ed G3 U3 1 1 2 1:=⟨rfl,.inl rfl⟩
theorem we(h:IsDist 3 G3 U3 0 d):d 0=0/\d 1=2/\d 2=1:=by
 have a:=h.fr;have b:=h.clo _ _ _ _ ed30.sym oM;have c:=h.clo _ _ _ _ ed31 oM;have ⟨i,m,k,e,p,q⟩:=h.sup 2 oM b.1 dE;have ⟨i',m',k',e',p',q'⟩:=h.sup 1 oM c.1 dE
 grind [ed3]
theorem LR(h:IsDist 3 G3 U3 2 d):d 0=1/\d 1=1/\d 2=0:=by
 have a:=h.fr;have b:=h.clo _ _ _ _ ed30 oM;have c:=h.clo _ _ _ _ ed31 oM;have ⟨i,m,k,e,p,q⟩:=h.sup 0 oM b.1 dE;have ⟨i',m',k',e',p',q'⟩:=h.sup 1 oM c.1 dE
 grind [ed3]
theorem par2(h:IsDist 3 G3 U3 2 d):dl 3 (parL G3 U3 d)=[Ii 0,Ii 1,Ii (-1)]:=by have ⟨a,b,c⟩:=LR h;have e0:edL G3 U3 0=[(0,2,1)]:=rfl;have e1:edL G3 U3 1=[(1,2,1)]:=rfl;have e2:edL G3 U3 2=[(0,0,1),(1,1,1)]:=rfl;simp[dl,fi,parL,fS,e0,e1,e2,a,b,c]
abbrev D0:List AV:=[Ii 0,Ii 2,Ii 1]
abbrev net3(lv uv:AV):List AV:=[Ii 2,Ii 1,lv,uv]
theorem wg(o1:lv.one=true)(o2:uv.one=true):aX (net3 lv uv)=true:=by simp_all
theorem Tz(hl:SlR 3 s lv (L3.map LS.lnR))(hu:Sl s uv (U3.map AV.bool))(hK:∀b s',Sub s s'->Hc s' b 3 D0->K (.slc b 0 3 (some 3) 1) s'):wC TP 254 [.agg (net3 lv uv),Ii 0] K s:=by refine v_ ⟨wg hl.one hu.one,aI λb0 s1 hb0 q1 u1=>?_⟩;have k1:=u1.sub hb0;have e0:(net3 lv uv)[0]?=some (Ii 2):=rfl;have e1:(net3 lv uv)[1]?=some (Ii 1):=rfl;have e2:(net3 lv uv)[2]?=some lv:=rfl;have e3:(net3 lv uv)[3]?=some uv:=rfl;have w3:aA.i64.wrap (2+1)=3:=rfl;simp only[Fb,Fa,E9,aK,zAY,ae,au q1];refine pD (hl.sub k1) dE (hu.sub k1) λv s2 k2 _ h=>?_;obtain⟨d,b,hd,_,rfl,_,h2⟩:=h 3 0 vld3 rfl oM rfl;have ⟨a,b',c⟩:=we hd;refine hK b s2 (k1.trans k2) ?_;rw[h2];simp[dl,fi,a,b',c]
theorem TA(o1:lv.one=true)(o2:uv.one=true)(hd:Hc s db 3 D0)(hK:∀s',Sub s s'->K (.tup [Ii 2,true]) s'):wC TP 255 [.agg (net3 lv uv),.slc db 0 3 (some 3) 1,Iw g] K s:=by
 refine y_ ⟨wg o1 o2,aI λb0 s1 hb0 q1 u1=>?_⟩;have q1:Hc s1 b0 385 (net3 lv uv):=q1;have k1:=u1.sub hb0;refine⟨λys t m=>∃(i:Nat) (sp:AV),ys=[sp,i]/\i<=3/\m=3-i/\Sub s1 t/\Acc 3 s1 t sp (if i=3 then[Ii 2]else[]),⟨_,0,.nilslc,rfl,oM,rfl,.refl _,.inl ⟨rfl,rfl⟩⟩,?_⟩;rintro f t m ⟨i,sp,hy,hi,rfl,kt,ac⟩;simp only[cI,aq]at hy;rw[hy.1,hy.2];have hd':=kt _ _ (k1 _ _ hd);have q1':=kt _ _ q1;have e0:(net3 lv uv)[0]?=some (Ii 2):=rfl;unfold Rs;simp only[bu,ae];obtain⟨I0,hI0⟩:∃I0:List AV->Hq->Nat->Prop,I0=λys t m=>∃(i:Nat) (sp:AV),ys=[sp,i]/\i<=3/\m=3-i/\Sub s1 t/\Acc 3 s1 t sp (if i=3 then[Ii 2]else[]):=⟨_,rfl⟩
 have next:i<3->∀sp' t',Sub s1 t'->Acc 3 s1 t' sp' (if i+1=3 then[Ii 2]else[])->y9 sp' i I0 (3-i) K t':=λhlt sp' t' k' a'=>by simp only[y9,bg,ae,aS];rw[aT,hI0];exact⟨_,oM,i+1,sp',sI,oM,rfl,k',a'⟩
 rcases(by omega:i=0∨i=1∨i=2∨i=3)with rfl|rfl|rfl|rfl
 ·simp only[show decide (((0:Nat):Int)<((3:Nat):Int))=true from rfl,bD,show cF 1 (.slc db 0 3 (some 3) 1) ((0:Nat):Int)=some (.ptr db 0)from rfl,ae,au hd',g0Y,aK,zAY,au q1',e0,dQ,show decide ((2:Int)<=((0:Nat):Int))=false from rfl,aR,tD,ct]
  grind
 ·simp only[show decide (((1:Nat):Int)<((3:Nat):Int))=true from rfl,bD,show cF 1 (.slc db 0 3 (some 3) 1) ((1:Nat):Int)=some (.ptr db 1)from rfl,ae,au hd',g1Y,g0Y,aK,zAY,au q1',e0,dQ,show decide ((2:Int)<=((1:Nat):Int))=false from rfl,aR,tD,ct]
  grind
 ·simp only[show decide (((2:Nat):Int)<((3:Nat):Int))=true from rfl,bD,show cF 1 (.slc db 0 3 (some 3) 1) ((2:Nat):Int)=some (.ptr db 2)from rfl,ae,au hd',g1Y,g0Y,aK,zAY,au q1',e0,dQ,show decide ((2:Int)<=((2:Nat):Int))=true from rfl,show decide ((0:Int)<=1)=true from rfl,tD,cy]
  exact Ty rfl ac kt sI gR
 ·have ac:Acc 3 s1 t sp [Ii 2]:=ac
  rcases ac with⟨_,h⟩|⟨b,_,rfl,hb⟩
  ·cases h
  have e1:dX .u64 (Iw g)=some (Iq (dw .u64 g)):=rfl;have e2:dX .u64 ((1:Nat):Int)=some (Iq 1):=rfl;simp only[show decide (((3:Nat):Int)<((3:Nat):Int))=false from rfl,aR,ge,cr,length_nil,zAY,ae,cj,bJ,show(((1:Nat):Int) == 0)=false from rfl,Bool.false_bne,e1,e2,na (show(1:Int)≠0 by decide),Int.tmod_one];simp only[show cF 1 (.slc b 0 1 none 1) (Iq 0)=some (.ptr b 0)from rfl,ae,au hb,g0Y];exact hK t (k1.trans kt)
end RT
end Go.AM
set_option maxRecDepth 100000
namespace Go.AM.RT
open Go Go.Proofs List Nat
variable{K:AV→Hq→Prop}{s s' t t':Hq}{lv uv v:AV}{n:Nat}{es:List Int}{b0 b4 b18 b21 m pb:Nat}{ks:List Int}
theorem LT(h:LS.Sli s v es)(hl:es.length<=1000)(hK:∀v' s',Own3 s s' v' es->Sub s s'->K v' s'):wC TP 105 [v] K s:=by
 refine yl ?_;have cases0:(v=.nilslc/\es=[])∨∃b o c,v=.slc b o es.length c 1:=by
  rcases h with⟨a,b⟩|⟨b,o,c,a,_⟩
  ·simp_all
  grind
 rcases cases0 with⟨rfl,rfl⟩|⟨b,o,c,rfl⟩
 ·simp only[me,ng,bJ,Bool.false_bne,ae,bD]
  exact hK _ _ (.inl ⟨rfl,rfl⟩) (.refl s)
 simp only[me,kY,bJ,Bool.false_bne,ae,aR];refine aE (a:=[]) rfl ⟨rfl,aI λd s1 hd h1 u1=>?_⟩;have sub1:=u1.sub hd;refine se (h.sub sub1) (by simp;omega) λv' s2 sub2 q1 q2=>hK v' s2 ?_ (sub1.trans sub2)
 by_cases e:es=[]
 ·subst e
  exact .inr ⟨d,some 0,hd,q1 rfl,sub2 _ _ h1,λ_ _=>rfl⟩
 ·have ⟨c,e1,e2,e3⟩:=q2 (by simpa using e)
  exact .inr ⟨c,none,dU sub1 e1,by simpa using e2,e3,λc h=>by cases h⟩
theorem AO{k:Int}:∀{ks:List Int},look (ks.map λk=>(k,AV.agg [])) k=if k∈ks then some (.agg [])else none
 |[]=>rfl
 | a::ks=>by
   rw[cL,nj,AO]
   grind
structure Gw(t:Hq)(b0 b4 b18 b21 m pb:Nat)(lv uv:AV)(ks:List Int):Prop where
 c4:Hc t b4 391 [.map m]
 mp:fK t m (ks.map λk=>(k,AV.agg []))
 c18:Hc t b18 25 [.slc pb 0 3 (some 3) 1]
 pa:Hc t pb 3 [Ii 0,Ii 1,(-1:Int)]
 c21:Hc t b21 395 [.fn (.func 260) [] [Pp b18,Pp b4,Pp b21,Pp b0]]
 c0:Hc t b0 385 (net3 lv uv)
 ll:SlR 3 t lv (L3.map LS.lnR)
theorem fK.up{l:List (Int×AV)}(h:fK t m l)(k:t' m=t m):fK t' m l:=by have ⟨es,c,h1,h2⟩:=h;exact⟨es,c,k.trans h1,h2⟩
theorem Gw.up(z:Gw t b0 b4 b18 b21 m pb lv uv ks)(k:Sub t t'):Gw t' b0 b4 b18 b21 m pb lv uv ks:=by have ⟨es,c,h1,h2⟩:=z.mp;exact⟨k _ _ z.c4,⟨es,c,k _ _ h1,h2⟩,k _ _ z.c18,k _ _ z.pa,k _ _ z.c21,k _ _ z.c0,z.ll.sub k⟩
theorem wh:cF 1 (.slc pb 0 3 (some 3) 1) ((n:Nat):Int)=if n<3 then some (.ptr pb n)else none:=by
 simp_all [cF]
theorem LU(z:Gw t b0 b4 b18 b21 m pb lv uv ks)(hK:K (.tup []) t):wC TP 260 [Ii 2,Pp b18,Pp b4,Pp b21,Pp b0] K t:=by refine Rw ?_;unfold Fd;simp only[au z.c18,g0Y,g1Y,ae,show cF 1 (.slc pb 0 3 (some 3) 1) (Ii 2)=some (.ptr pb 2)from rfl,au z.pa,bu,show decide ((-1:Int)<0)=true from rfl,bD];exact hK
theorem LV(z:Gw t b0 b4 b18 b21 m pb lv uv ks)(hn:n<2)(hK:∀t' ks',Gw t' b0 b4 b18 b21 m pb lv uv ks'->(n:Int)∈ks'->(∀k∈ks,k∈ks')->aV (λi=>i=m) t t'->K (.tup []) t'):wC TP 260 [n,Pp b18,Pp b4,Pp b21,Pp b0] K t:=by
 refine Rw ?_;unfold Fd;have en:[AV.int .i64 0,Ii 1,(-1:Int)][n]?=some (Ii n):=by
  grind
 simp only[au z.c18,g0Y,ae,wh,show n<3 by omega,↓reduceIte,au z.pa,en,bu];rw[aC oM,aR];simp only[au z.c4,g0Y,ae,z.mp.get,AO]
 by_cases hk:(n:Int)∈ks
 ·simp only[hk,↓reduceIte]
  refine aE (a:=.agg []) rfl (aE (a:=true) rfl (aI λb8 s9 h8 w8 u8=>cD w8 rfl rfl rfl λs10 w10 u10=>?_));rw[bD];have k10:Sub t s10:=λi e hi=>by have hne:=dZ h8 hi;rw[u10 i hne,u8 i hne];exact hi
  exact hK s10 ks (z.up k10) hk (λ_ h=>h) λi e hi _=>k10 i e hi
 ·simp only[hk,↓reduceIte]
  refine aE (a:=.agg []) rfl (aE (a:=false) rfl (aI λb8 s9 h8 w8 u8=>cD w8 rfl rfl rfl λs10 w10 u10=>?_));rw[aR];have k10:Sub t s10:=λi e hi=>by have hne:=dZ h8 hi;rw[u10 i hne,u8 i hne];exact hi
  have z10:=z.up k10;simp only[au z10.c4,g0Y,ae];refine aE (a:=[]) rfl (z10.mp.put oM λs13 mp u13=>?_);rw[Td (by rw[AO];simp[hk])]at mp;have mp:fK s13 m ((ks ++ [(n:Int)]).map λk=>(k,AV.agg [])):=by simpa using mp
  obtain⟨es,cl,hm,_⟩:=z10.mp;have up:∀{i e cs},Hc s10 i e cs->Hc s13 i e cs:=fun {i e cs} h=>by rw[u13 i λq=>by rw[q,hm]at h;cases h];exact h
  have kp:aV (λi=>i=m) t s13:=λi e hi hne=>by rw[u13 i hne];exact k10 i e hi
  have z13:Gw s13 b0 b4 b18 b21 m pb lv uv (ks ++ [(n:Int)]):=by refine⟨up z10.c4,mp,up z10.c18,up z10.pa,up z10.c21,up z10.c0,?_⟩;obtain⟨l1,l2⟩:=z10.ll;refine⟨l1,l2.imp id λ⟨b,o,c,e1,e2,e3⟩=>⟨b,o,c,e1,e2,λhne=>?_⟩⟩;obtain⟨tg,el,cs,q1,q2⟩:=e3 hne;exact⟨tg,el,cs,by rw[u13 b λq=>gR];exact q1,q2⟩
  have hr:∃a:Int,(L3.map LS.lnR)[n]?=some [Ii a,Ii 2,Ii 1]/\a=n:=by
   match n,hn with
   | 0,_=>exact⟨0,rfl,rfl⟩
   | 1,_=>exact⟨1,rfl,rfl⟩
  obtain⟨a,hr,rfl⟩:=hr;have ⟨b,o,g1,g2,g3⟩:=z13.ll.get hr;have r0:rd1 s13 (.ptr b o)=some (Ii n):=g3 0 oM;have r1:rd1 s13 (.ptr b (o+1))=some (Ii 2):=g3 1 oM;have e2:(net3 lv uv)[2]?=some lv:=rfl;have w1:aA.i64.wrap ((n:Int)+2)=(n:Int)+2:=aT oM oM;have w2:aA.i64.wrap ((n:Int)+2-n)=2:=by rw[show(n:Int)+2-n=2 by omega];rfl
  simp only[au z13.c21,g0Y,ae,aK,zAY,Nat.add_zero,au z13.c0,e2,g1,r0,r1,bg,eC,w1,w2];refine gQ kR (LU z13 ?_);exact hK s13 _ z13 sI (λk h=>by simp[h]) kp
set_option maxRecDepth 100000
variable{mv:AV}{l:List Int}{db lp d:Nat}
theorem LW(hl:SlR 3 s lv (L3.map LS.lnR))(hu:Sl s uv (U3.map AV.bool))(hK:∀b s',Sub s s'->Hc s' b 3 [Ii 0,Ii 1,(-1:Int)]->K (.slc b 0 3 (some 3) 1) s'):wC TP 259 [Ii 3,lv,uv,Ii 2] K s:=by
 refine t_ (aE (kx rfl) ⟨rfl,aI λeb s1 heb h1 u1=>?_⟩);have sub1:=u1.sub heb;refine AM.fk (es:=[2]) (hl.sub sub1) dE (hu.sub sub1) (Sl.mk h1 rfl sI) sI λs2 r sub2 hr=>?_;have hr:r=true:=(by grind [vld3])
 subst hr;have s02:=sub1.trans sub2;have ⟨z,hG,hN,hC,hm⟩:=vld3.gok;refine Gt (N:=3) z hN hG (by rw[<- hm];exact hl.sub s02) (hu.sub s02) λav s3 sub3 ha=>?_;refine Gj (N:=3) (from_:=2) z hN hG hC ha oM λd b s4 hd hdm sub4 hb h4=>?_;have hdd:∀m,m<3->-1<=d m/\d m<=32000:=λm hm=>⟨hd.lo m hm,hdm m hm⟩
 refine LQ z hN hG hC hdd (ha.sub sub4) ((by grind [Sl.mk,ij])) λb5 s5 hb5 h5 sub5=>?_;exact hK b5 s5 ((by grind [Sub.trans])) (by rw[h5,<- par2 hd];rfl)
noncomputable abbrev lpG(st:LoopState)(b21 d:Nat):Blk:=.loop st none 35 [(11,Pp b21)] [30] (rfAs 0 (bH Tryz.f258)) (rfBo 0 (bH Tryz.f258)) d
theorem Gw.lpU{x y:Blk}(z:Gw t b0 b4 b18 b21 m pb lv uv ks)(u:Upto lp t t')(h:∀el cs,t lp≠some (false,.cells el cs))(h2:∀el cs,t lp≠some (true,.cells el cs))(h3:∀es c,t lp≠some (false,.map es c)):Gw t' b0 b4 b18 b21 m pb lv uv ks:=by
 have up:∀{i e cs},Hc t i e cs->Hc t' i e cs:=fun {i e cs} q=>by rw[u i λe=>gR];exact q
 have ⟨es,c,q1,q2⟩:=z.mp;refine⟨up z.c4,⟨es,c,by rw[u m (by grind [h3])];exact q1,q2⟩,up z.c18,up z.pa,up z.c21,up z.c0,?_⟩;obtain⟨l1,l2⟩:=z.ll;refine⟨l1,l2.imp id λ⟨b,o,c,e1,e2,e3⟩=>⟨b,o,c,e1,e2,λhne=>?_⟩⟩;have ⟨tg,el,cs,q1,q2⟩:=e3 hne;refine⟨tg,el,cs,?_,q2⟩;rw[u b λe=>by
  simp_all]
 exact q1
theorem LX(z:Gw t b0 b4 b18 b21 m pb lv uv ks)(hl:t lp=some (false,lpG .ready b21 d))(hn:n<2)(hK:∀t' ks',Gw t' b0 b4 b18 b21 m pb lv uv ks'->(n:Int)∈ks'->(∀k∈ks,k∈ks')->t' lp=some (false,lpG .ready b21 d)->aV (λi=>i=m∨i=lp) t t'->K true t'):funK TP (.yield lp) [n] K t:=by refine⟨by grind [jw],F_ hl ⟨rfl,?_⟩⟩;unfold gj;rw[hl];simp only;have ⟨es,c,hm,_⟩:=id z.mp;have ne:lp≠m:=λe=>gR;have u1:Upto lp t (hset t lp (false,lpG .busy b21 d)):=λi hi=>cG hi;have l1:hset t lp (false,lpG .busy b21 d) lp=some (false,lpG .busy b21 d):=dT;have z1:=z.lpU (x:=lpG .busy b21 d) (y:=lpG .busy b21 d) u1 (by rw[hl];simp) (by rw[hl];simp) (by rw[hl];simp);simp only[au z1.c21,g0Y,ae];refine gQ kR (LV z1 hn λt2 ks2 z2 h1 h2 kp=>?_);have l2:=kp _ _ l1 ne;unfold endK;rw[l2];simp only;have u3:Upto lp t2 (hset t2 lp (false,lpG .ready b21 d)):=λi hi=>cG hi;refine hK _ ks2 (z2.lpU (x:=lpG .busy b21 d) (y:=lpG .busy b21 d) u3 (by rw[l2];simp) (by rw[l2];simp) (by rw[l2];simp)) h1 h2 dT λi e hi hne=>?_;have hne:i≠m/\i≠lp:=gR;rw[u3 i hne.2];exact kp i e (by rw[u1 i hne.2];exact hi) hne.1
theorem LY(hl:SlR 3 s lv (L3.map LS.lnR))(hu:Sl s uv (U3.map AV.bool))(hd:Hc s db 3 D0)(hm:LS.Sli s mv l)(hlen:l.length<=72)
  (hK:∀m s' (ks:List Int),Sub s s'->fK s' m (ks.map λk=>(k,AV.agg []))->(0∈l->0∈ks)->K (.map m) s'):wC TP 258 [.agg (net3 lv uv),.slc db 0 3 (some 3) 1,Ii 2,mv] K s:=by
 have on:=wg hl.one hu.one;refine D_ ⟨on,aI λb0 s1 h0 q0 u0=>sy λm s3 hm3 m3 u3=>aI λb4 s5 h4 q4 u4=>?_⟩;have k1:=u0.sub h0;have k3:=u3.sub hm3;have k5:=u4.sub h4;refine cw q4 sI rfl λs6 q6 u6=>?_;have k36:Sub s3 s6:=λi e hi=>by have hne:=dZ h4 hi;rw[u6 i hne];exact k5 i e hi
 have k06:=(k1.trans k3).trans k36;have sm:=dU k1 hm3;have e0:(net3 lv uv)[0]?=some (Ii 2):=rfl;have e1:(net3 lv uv)[1]?=some (Ii 1):=rfl;have e2:(net3 lv uv)[2]?=some lv:=rfl;have e3:(net3 lv uv)[3]?=some uv:=rfl;have w3:aA.i64.wrap (2+1)=3:=rfl;have q06:=k36 _ _ (k3 _ _ q0);simp only[aK,zAY,ae,au q06];refine LW (hl.sub k06) (hu.sub k06) λpb s17 k17 hpb=>aI λb18 s19 h18 q18 u18=>cw q18 sI rfl λs20 q20 u20=>aI λb21 s22 h21 q21 u21=>cw q21 sI rfl λs23 q23 u23=>?_;have k20:Sub s17 s20:=λi e hi=>by have hne:=dZ h18 hi;rw[u20 i hne,u18 i hne];exact hi
 have k23:Sub s20 s23:=λi e hi=>by have hne:=dZ h21 hi;rw[u23 i hne,u21 i hne];exact hi
 have k6:=(k17.trans k20).trans k23;have ⟨es0,c0,mm,mo⟩:=m3;have z23:Gw s23 b0 b4 b18 b21 m pb lv uv []:=⟨k6 _ _ q6,⟨es0,c0,k6 _ _ (k36 _ _ mm),mo⟩,k23 _ _ q20,(k20.trans k23) _ _ hpb,q23,k6 _ _ q06,hl.sub (k06.trans k6)⟩
 refine aE (bX (n:=4) z23.c0 rfl) (A_ ⟨on,aI λbA sA hA qA uA=>fG rfl λbB sB hB qB uB=>fG hm.one λbC sC hC qC uC=>⟨kR,trivial,λlp d hlp=>?_⟩⟩);have kA:=uA.sub hA;have kB:=uB.sub hB;have kC:=uC.sub hC;have k0C:=(k06.trans k6).trans ((kA.trans kB).trans kC);obtain⟨J,hJ⟩:∃J:AV->Hq->Prop,J=λ_ s=>oY lp (λs=>oK (rd1 s (Pp b4)) λv=>K v s) (λs=>K .nilmap s) (λid s=>cond (beq id 0) (oK (rd1 s (Pp b4)) λv=>K v s) False) s:=⟨_,rfl⟩
 refine(show wC TP 263 [.yield lp,Pp bC,Pp bA,Pp bB] J (hset sC lp (false,lpG .ready b21 d))->_ from λh=>by rw[hJ]at h;exact h) ?_;have u27:Upto lp sC (hset sC lp (false,lpG .ready b21 d)):=λi hi=>cG hi;have l27:hset sC lp (false,lpG .ready b21 d) lp=some (false,lpG .ready b21 d):=dT;generalize hset sC lp (false,lpG .ready b21 d)=s27 at u27 l27;have k27:=u27.sub hlp;have z27:=z23.up (((kA.trans kB).trans kC).trans k27);have qC27:=k27 _ _ qC;refine C_ ?_;unfold Rv;simp only[au qC27,g0Y,ae];refine LT (hm.sub (k0C.trans k27)) oM λv1 s28 o28 k28=>vA o28 k28 oM λs29 o29 k29=>Tc o29 k29 (by rw[(ii l).length_eq];omega) λv2 s30 es sl hes mem k30 fr=>?_;have hmem:∀x,x∈es↔x∈l:=(by grind [ii])
 have z30:=z27.up k30;have hes:es.length<=72:=by rw[(ii l).length_eq]at hes;omega
 have l30:=k30 _ _ l27;have lv2:cM v2=some es.length:=by rw[sl.len];simp
 simp only[lv2,ae];have ⟨mE,mC,mm27,_⟩:=z27.mp;have mm30:=k30 _ _ mm27;refine⟨λys t k=>∃(i:Nat) (ks:List Int),ys=[Ii i]/\i<=es.length/\k=es.length-i/\Gw t b0 b4 b18 b21 m pb lv uv ks/\(0∈es.take i->0∈ks)/\t lp=some (false,lpG .ready b21 d)/\aV (λi=>i=m∨i=lp) s30 t,⟨_,0,[],rfl,oM,rfl,z30,sI,l30,.refl _ _⟩,?_⟩;rintro f t k ⟨i,ks,hy,hi,rfl,z,h0i,hlt,kp⟩;simp only[cI,aq]at hy;rw[hy];have ck:∀{i:Nat}{tg:Bool}{el:ah}{cs:List AV},s30 i=some (tg,.cells el cs)->t i=some (tg,.cells el cs):=fun {i tg el cs} h=>kp _ _ h λq=>by
  rcases q with rfl|rfl
  ·grind
  grind
 have k030:=(k0C.trans k27).trans k30;unfold Ru;simp only[bu,ae];obtain⟨I0,hI0⟩:∃I0:List AV->Hq->Nat->Prop,I0=λys t k=>∃(i:Nat) (ks:List Int),ys=[Ii i]/\i<=es.length/\k=es.length-i/\Gw t b0 b4 b18 b21 m pb lv uv ks/\(0∈es.take i->0∈ks)/\t lp=some (false,lpG .ready b21 d)/\aV (λi=>i=m∨i=lp) s30 t:=⟨_,rfl⟩
 rw[<- hI0];refine aL (λhlt2=>?_) (λhge=>?_)
 rotate_left
 ·have hi:i=es.length:=gR
  rw[hi,dI]at h0i;have ⟨mE,mC,q1,q2⟩:=z.mp;have nm:m≠lp:=λe=>gR;rw[hJ];refine uR hlt sI ?_;have c4:hdel t lp b4=some (false,.cells 391 [.map m]):=by grind [dL,Gw.c4]
  simp only[au c4,g0Y,ae];refine hK m _ ks (λi e hi=>?_) ⟨mE,mC,by rw[dL nm];exact q1,q2⟩ λh=>h0i ((hmem 0).2 h);have n1:i≠m:=λq=>gR;have n2:i≠lp:=λq=>by
   have:=k0C i e hi
   grind
  rw[dL n2];exact kp i e (k030 i e hi) λq=>q.elim n1 n2
 have hlt2:i<es.length:=gR;have slt:=Sl.keepB sl λc ⟨o,n,cp,e⟩ hne x hx=>by
  have hc:s27 c=none:=gR;refine kp c x hx λq=>?_;rcases q with rfl|rfl
  ·rw[mm27]at hc;cases hc
  grind
 have ⟨p,g1,g2⟩:=slt.get (i:=i) (by simpa using hlt2);have g2:rd1 t p=some (Ii es[i]):=by rw[g2];simp[hlt2]
 simp only[g1,g2,ae,dQ];have tk:∀x:Int,x∈es.take (i+1)↔x∈es.take i∨x=es[i]:=λx=>by rw[bO,gE hlt2,mem_append];simp only[Option.toList,bN]
 have ⟨n,hn⟩:∃n,n=es[i]:=⟨_,rfl⟩
 rw[<- hn]at tk ⊢;have next:∀a b:AV,cW a b false=some false->∀t' ks',Gw t' b0 b4 b18 b21 m pb lv uv ks'->(0∈es.take (i+1)->0∈ks')->t' lp=some (false,lpG .ready b21 d)->aV (λi=>i=m∨i=lp) s30 t'->zh i a b I0 (es.length-i) J t':=λa b hp t' ks' z' h0' l' kp'=>by unfold zh;simp only[hp,ae,bg];rw[aT,hI0];exact⟨_,oM,i+1,ks',sI,oM,rfl,z',h0',l',kp'⟩
 have out:¬(0<=n/\n<2)->(0∈es.take (i+1)->0∈ks):=λh q=>by
  rcases(tk 0).1 q with q|q
  ·exact h0i q
  omega
 have qA30:Hc t bA 385 (net3 lv uv):=ck (k30 _ _ (k27 _ _ (kC _ _ (kB _ _ qA))));have qB30:=ck (k30 _ _ (k27 _ _ (kC _ _ qB)));have qd30:=ck (k030 _ _ hd);have j1:∀a b:AV,cW a b false=some (.bool false)->¬(0<=n/\n<2)->tE (.yield lp) (Pp bB) n i a b I0 (es.length-i) J t:=λa b hp hno=>by unfold tE Fc;simp only[hp,ae,aR,ct];exact next _ _ rfl t ks z (out hno) hlt kp
 refine aL (λhge=>?_) (λhng=>?_)
 rotate_left
 ·have hng:=oF hng
  rw[aC oM];exact j1 _ _ rfl oM
 have hge:=oT hge;rw[aH hge];simp only[aK,ae,au qA30,e0,bu]
 by_cases h2:n<2
 rotate_left
 ·rw[aC h2]
  exact j1 _ _ rfl oM
 rw[aH h2];obtain⟨q,rfl⟩:∃q:Nat,n=q:=⟨n.toNat,oM⟩
 have hq:q<2:=oM;have ed:∃x:Int,D0[q]?=some (Ii x)/\0<=x:=by
  match q,hq with
  | 0,_=>exact⟨0,rfl,oM⟩
  | 1,_=>exact⟨2,rfl,oM⟩
 have ⟨x,ed,hx⟩:=ed;unfold tE;simp only[cy,ae,bD,au qB30,g0Y,wh,show q<3 by omega,↓reduceIte,au qd30,ed,dQ];rw[aH hx];refine LX z hlt hq λt' ks' z' a1 a2 a3 a4=>?_;simp only[cQ,Bool.not_true,ae];refine next _ _ rfl t' ks' z' (λh=>?_) a3 (kp.trans a4);rcases(tk 0).1 h with h|h
 ·exact a2 0 (h0i h)
 ·rw[h];exact a1
variable{b2 b6:Nat}{g fr:Int}{cs:List AV}
structure Nx(H t:Hq)(b2 b6:Nat)(fr:Int)(i:Nat):Prop where
 sub:Sub H t
 lk:∃lk,Hc t b2 25 [lk]/\Acc 3 H t lk (if 1<=i/\fr=-1 then[Ii 0]else[])
 al:Hc t b6 4 [(decide (1<=i/\fr=0))]
theorem TB{b4:Nat}{a c:AV}(h6:Hc t b6 4 [true])(h2:Hc t b2 25 [a])(h4:Hc t b4 4 [c])(hK:K (.tup [a,c]) t):
  runK TP (.fn (.func 257) [] [Pp b6,Pp b2,Pp b4]) (λs=>oK (rd1 s (Pp b2)) λx=>oK (rd1 s (Pp b4)) λy=>K (.tup [x,y]) s) t:=by
 refine G_ (K:=λ_ s=>oK (rd1 s (Pp b2)) λx=>oK (rd1 s (Pp b4)) λy=>K (.tup [x,y]) s) ?_;unfold Ry;simp only[au h6,g0Y,ae,cQ,Bool.not_true,aR,au h2,au h4];exact hK
theorem LZ(hf:fr=-1∨fr=0)(hl:SlR 3 s lv (L3.map LS.lnR))(hu:Sl s uv (U3.map AV.bool))(hm:LS.Sli s mv l)(hlen:l.length<=72)(h0:0∈l)
  (hK1:fr=-1->∀v s',Sub s s'->LS.Sli s' v [0]->(∀c,cN 1 v c->s c=none)->K (.tup [v,false]) s') (hK2:fr=0->∀v s',Sub s s'->LS.Sli s' v []->K (.tup [v,true]) s'):wC TP 256 [.agg (net3 lv uv),Ii 0,Iw g,mv,fr] K s:=by
 have on:=wg hl.one hu.one;refine I' ⟨on,aI λb0 s1 h0' q0 u0=>aI λb2 s3 h2 q2 u2=>aI λb4 s5 h4 q4 u4=>aI λb6 s7 h6 q6 u6=>cw q6 sI rfl λs8 q8 u8=>⟨by show isFn TP 257=true;kernel_rfl,?_⟩⟩;have q0:Hc s1 b0 385 (net3 lv uv):=q0;have k1:=u0.sub h0';have k3:=u2.sub h2;have k5:=u4.sub h4;have k58:Sub s5 s8:=λi e hi=>by have hne:=dZ h6 hi;rw[u8 i hne,u6 i hne];exact hi
 have q08:=k58 _ _ (k5 _ _ (k3 _ _ q0));have q28:=k58 _ _ (k5 _ _ q2);have q48:=k58 _ _ q4;have k8:=((k1.trans k3).trans k5).trans k58;refine aE (bX (n:=4) q08 rfl) (Tz (hl.sub k8) (hu.sub k8) λdb s11 k11 hd=>aE (bX (n:=4) (k11 _ _ q08) rfl) (TA hl.one hu.one hd λs14 k14=>?_));have k0e:=(k8.trans k11).trans k14;have x0:∀a b:AV,bV (.tup [a,b]) 0=some a:=λ_ _=>rfl;have x1:∀a b:AV,bV (.tup [a,b]) 1=some b:=λ_ _=>rfl;simp only[x0,x1,ae,cQ,Bool.not_true,aR];refine aE (bX (n:=4) (k14 _ _ (k11 _ _ q08)) rfl) (LY (hl.sub k0e) (hu.sub k0e) (k14 _ _ hd) (hm.sub k0e) hlen λm s23 ks k23 mp hks=>?_);have k823:=(k11.trans k14).trans k23;have k0:=k0e.trans k23;have e2:(net3 lv uv)[2]?=some lv:=rfl;have e0:(net3 lv uv)[0]?=some (Ii 2):=rfl;have ll:cM lv=some 2:=hl.len;simp only[aK,zAY,ae,au (k823 _ _ q08),e2,ll];obtain⟨H,hH⟩:∃H:Hq,H=hdel (hdel s23 b2) b6:=⟨_,rfl⟩
 have inH:∀{i e},s23 i=some e->i≠b2->i≠b6->H i=some e:=(by simp_all [dL])
 have n02:b0≠b2:=λe=>gR;have n06:b0≠b6:=λe=>gR;have n42:b4≠b2:=λe=>gR;have n46:b4≠b6:=λe=>gR;have n26:b2≠b6:=λe=>gR;have sb2:=dU k1 h2;have sb6:=dU ((k1.trans k3).trans k5) h6;have kH:Sub s H:=λi e hi=>inH (k0 i e hi) (λq=>gR) (λq=>gR);have ⟨mE,mC,mm,mo⟩:=mp;have q2':=k823 _ _ q28;have q6':=k823 _ _ q8;have H0:=inH (k823 _ _ q08) n02 n06;have H4:=inH (k823 _ _ q48) n42 n46;have Hm:=inH mm (λq=>by rw[q,q2']at mm;cases mm) (λq=>by rw[q,q6']at mm;cases mm);have HH:Sub H s23:=by grind [TN.vh,Sub.trans]
 have hf0:¬(1<=0/\fr=-1):=oM;have nx0:Nx H s23 b2 b6 fr 0:=⟨HH,⟨_,q2',.inl ⟨rfl,aj hf0⟩⟩,q6'⟩
 refine⟨λys t k=>∃i:Nat,ys=[Ii i]/\i<=2/\k=2-i/\Nx H t b2 b6 fr i,⟨_,0,rfl,oM,rfl,nx0⟩,?_⟩;rintro f t k ⟨i,hy,hi,rfl,z⟩;simp only[cI,aq]at hy;rw[hy];obtain⟨I0,hI0⟩:∃I0:List AV->Hq->Nat->Prop,I0=λys t k=>∃i:Nat,ys=[Ii i]/\i<=2/\k=2-i/\Nx H t b2 b6 fr i:=⟨_,rfl⟩
 rw[<- hI0];have next:i<2->∀t',Nx H t' b2 b6 fr (i+1)->mg i I0 (2-i) K t':=λhlt t' z'=>by simp only[mg,bg,ae,aS];rw[aT,hI0];exact⟨_,oM,i+1,sI,oM,rfl,z'⟩
 unfold Rz;simp only[bu,ae];refine aL (λhlt=>?_) (λhge=>?_)
 rotate_left
 ·have hi:i=2:=gR
  subst hi;have ⟨lk,l1,l2⟩:=z.lk;have za:=z.al;have k0t:=kH.trans z.sub;simp only[aK,zAY,ae,au (z.sub _ _ H0),e0,bu,show decide ((0:Int)<2)=true from rfl,bD];refine TN.SZ oM (hm.sub k0t) ?_;rw[aH h0];unfold Fe;simp only[cy,ae,cj,bJ,Bool.false_bne];rcases hf with rfl|rfl
  ·rw[show((-1:Int) == -1)=true from rfl,bD]
   refine cw za sI rfl λs' h' u'=>?_;have kk:Sub s s':=λi e hi=>by rw[u' i λq=>gR];exact k0t i e hi
   refine TB (K:=K) h' (by rw[u' _ n26];exact l1) (by rw[u' _ n46];exact z.sub _ _ H4) (hK1 rfl _ _ kk (Sl.keepB l2.sl λc hc _ e he=>?_) λc hc=>by
    rcases l2 with⟨_,h⟩|⟨c',e1,e',h⟩
    ·cases h
    ·have ⟨_,_,_,e2⟩:=hc
     rw[e']at e2;cases e2;exact dU kH e1)
   rw[u' c λq=>by
    rcases l2 with⟨_,h⟩|⟨c',_,e',h⟩
    ·cases h
    ·have ⟨_,_,_,e2⟩:=hc
     grind]
   exact he
  ·rw[show((0:Int) == -1)=false from rfl,aR]
   have l2:=l2;simp only[au l1,g0Y,ae];refine cw l1 sI l2.sl.one λs3 h3 u3=>cw (by rw[u3 _ n42];exact z.sub _ _ H4) sI rfl λs4 h4' u4'=>?_;have kk:Sub s s4:=λi e hi=>by have sb4:=dU (k1.trans k3) h4;rw[u4' i (λq=>gR),u3 i (λq=>gR)];exact k0t i e hi
   refine TB (K:=K) (by rw[u4' _ (Ne.symm n46),u3 _ (Ne.symm n26)];exact za) (by rw[u4' _ (Ne.symm n42)];exact h3) h4' (hK2 rfl _ _ kk ?_);rcases l2.sl with h|⟨b,o,c,e1,e2,e3⟩
   ·exact .inl h
   ·exact .inr ⟨b,o,c,e1,e2,λh=>absurd rfl h⟩
 have hlt:i<2:=gR;have k0t:=kH.trans z.sub;obtain⟨a,hr,ha⟩:∃a:Int,(L3.map LS.lnR)[i]?=some [Ii a,Ii 2,Ii 1]/\a=i:=by
  match i,hlt with
  | 0,_=>exact⟨0,rfl,rfl⟩
  | 1,_=>exact⟨1,rfl,rfl⟩
 subst ha;obtain⟨b,o,g1,g2,_⟩:=(hl.sub k0t).get hr;simp only[g1,ae];refine aE g2 (aI λb32 s33 h33 q33 u33=>cD q33 rfl rfl rfl λs34 q34 u34=>?_);have k34:Sub t s34:=λj e hj=>by have hne:=dZ h33 hj;rw[u34 j hne,u33 j hne];exact hj
 have mp34:fK s34 m (ks.map λk=>(k,AV.agg [])):=⟨mE,mC,k34 _ _ (z.sub _ _ Hm),mo⟩
 simp only[mp34.get,AO,ae];have e3:∀c:Bool,bV (retM (.agg []) true (if c then some (.agg [])else none)) 0=some (.agg [])/\bV (retM (.agg []) true (if c then some (.agg [])else none)) 1=some c:=λc=>by cases c<;>exact⟨rfl,rfl⟩
 obtain⟨c,hc⟩:∃c:Bool,c=decide ((i:Int)∈ks):=⟨_,rfl⟩
 have ei:(if(i:Int)∈ks then some (AV.agg [])else none)=if c then some (.agg [])else none:=by
  rw[hc]
  grind
 rw[ei];simp only[e3,ae];refine aI λb38 s39 h39 q39 u39=>cD q39 rfl rfl rfl λs40 q40 u40=>?_;have k40:Sub s34 s40:=λj e hj=>by have hne:=dZ h39 hj;rw[u40 j hne,u39 j hne];exact hj
 have kt:=k34.trans k40;have zz:Nx H s40 b2 b6 fr i:=by obtain⟨lk,l1,l2⟩:=z.lk;exact⟨z.sub.trans kt,⟨lk,kt _ _ l1,l2.imp id λ⟨c,q1,q2,q3⟩=>⟨c,q1,q2,kt _ _ q3⟩⟩,kt _ _ z.al⟩
 have q32:=k40 _ _ q34;have r0:[AV.int .i64 (i:Int),Ii 2,Ii 1][0]?=some (Ii i):=rfl;have r1:[AV.int .i64 (i:Int),Ii 2,Ii 1][1]?=some (Ii 2):=rfl;simp only[cQ,ae]
 match i,hlt with
 | 0,_=>
   have hc:c=true:=gR;subst hc;simp only[aK,ae,au q32,zAY,r0,cj,bJ,Bool.true_bne,show(((0:Nat):Int) == 0)=true from rfl,Bool.not_true,aR,zo,ct,Bool.false_bne];obtain⟨lk,l1,l2⟩:=zz.lk;have l2:=l2;rcases hf with rfl|rfl
   ·rw[show(((0:Nat):Int) == -1)=false from rfl,aR]
    simp only[au l1,g0Y,ae];refine Ty rfl l2 zz.sub sI λv' t' a' k' kp=>?_;have nb:∀{j el cs},Hc s40 j el cs->el≠3->Hc t' j el cs:=fun {j el cs} hj hne=>kp _ _ hj λq=>by
     rcases l2 with⟨h,_⟩|⟨c',_,e',h⟩
     ·have ⟨_,_,_,e2⟩:=q
      rw[h]at e2;cases e2
     ·have ⟨_,_,_,e2⟩:=q
      grind
    refine cw (nb l1 dE) sI a'.sl.one λt4 h4' u4'=>next oM _ ⟨λj e hj=>?_,⟨v',h4',a'.imp id λ⟨c,q1,q2,q3⟩=>⟨c,q1,q2,?_⟩⟩,?_⟩
    ·rw[u4' j λq=>by rw[q,hH,dL n26,ic]at hj;cases hj];exact k' _ _ hj
    ·rw[u4' _ (Ne.symm n26)];exact nb zz.al dE
    ·rw[u4' c λq=>by rw[q,nb l1 dE]at q3;cases q3];exact q3
   ·rw[show(((0:Nat):Int) == 0)=true from rfl,bD]
    refine cw zz.al sI rfl λt4 h4' u4'=>next oM _ ⟨λj e hj=>?_,⟨lk,by rw[u4' _ n26];exact l1,l2.imp id λ⟨c,q1,q2,q3⟩=>⟨c,q1,q2,?_⟩⟩,h4'⟩
    ·rw[u4' j λq=>by rw[q,hH,ic]at hj;cases hj];exact zz.sub _ _ hj
    ·rw[u4' c λq=>by rw[q,zz.al]at q3;cases q3];exact q3
 | 1,_=>
   have nx1:Nx H s40 b2 b6 fr 2:=by have ⟨lk,l1,l2⟩:=zz.lk;exact⟨zz.sub,⟨lk,l1,by simpa using l2⟩,by simpa using zz.al⟩
   cases c with
   | false=>
     rw[Bool.not_false,bD];simp only[cy,ae,bD]
     grind
   | true=>
     rw[Bool.not_true,aR];simp only[aK,ae,au q32,zAY,r0,r1,cj,bJ,Bool.true_bne,show(((1:Nat):Int) == 0)=false from rfl,show((2:Int) == 0)=false from rfl,Bool.not_false,bD,zo,cy,ct]
     grind
end Go.AM.RT
