/- Part L of the proof: see the last part. -/
import Derived.Test.YtcmcofklcgafiaaGreatK
import Derived.Test.YtcmcofklcgafiaaGreatH
import Derived.Test.YtcmcofklcgafiaaGreatA3
import Derived.Test.YtcmcofklcgafiaaGreatV2
open List renaming filter_append→fX,getElem?_eq_none→jR,getElem?_map→cq,getElem_mem→aN,length_filter_le→eD,length_singleton→jS,map_append→bM,map_congr_left→cK,mem_map→aG,mem_range→dr,mem_singleton→bN,range_succ→fi
open Nat renaming mul_le_mul_right→cV,zero_le→dx
set_option linter.unusedVariables false
set_option maxRecDepth 100000
namespace Go.AM.RT
open Go Go.Proofs List Nat
variable{K:AV→Hq→Prop}{s s' t:Hq}{lv uv v mv:AV}{l:List Int}{g fr:Int}{cs:List AV}
theorem L2(hf:fr=-1∨fr=0)(hl:SlR 3 s lv (L3.map LS.lnR))(hu:Sl s uv (U3.map AV.bool))(hm:LS.Sli s mv l)(hlen:l.length<=72)(h0:0∈l)(c1:cs.length=21)(c2:aX cs=true)(c3:cs[1]?=some (Iw g))(c4:cs[2]?=some (Ii 9))
  (hK1:fr=-1->∀v s',Sub s s'->SlR 22 s' v [Ii 0::cs.set 2 (Ii 8)]->K (.tup [v,false,Ii 0]) s') (hK2:fr=0->∀v s',Sub s s'->cM v=some 0->K (.tup [v,true,Ii 0]) s'):wC TP 253 [.agg (net3 lv uv),Ii 0,mv,.agg cs,fr] K s:=by
 have on:=wg hl.one hu.one;refine K_ ⟨on,aI λb0 s1 h0' q0 u0=>⟨c2,aI λb2 s3 h2 q2 u2=>?_⟩⟩;have q0:Hc s1 b0 385 (net3 lv uv):=q0;have q2:Hc s3 b2 64 cs:=q2;have k1:=u0.sub h0';have k3:=u2.sub h2;have k03:=k1.trans k3;refine aE (bX (n:=4) (k3 _ _ q0) rfl) (Tz (hl.sub k03) (hu.sub k03) λdb s6 k6 hd=>?_);have k06:=k03.trans k6;have q0':=k6 _ _ (k3 _ _ q0);have q2':=k6 _ _ q2;simp only[show eqV 5 true (.slc db 0 3 (some 3) 1) .nilslc=some false from rfl,bJ,show(false != false)=false from rfl,ae,aR];refine aE (bX (n:=4) q0' rfl) ?_;simp only[aK,zAY,ae,au q2',c3];refine TA hl.one hu.one hd λs12 k12=>?_;have k012:=k06.trans k12;have x0:∀a b:AV,bV (.tup [a,b]) 0=some a:=λ_ _=>rfl;have x1:∀a b:AV,bV (.tup [a,b]) 1=some b:=λ_ _=>rfl;simp only[x0,x1,ae,cQ,Bool.not_true,aR];refine aE (bX (n:=4) (k12 _ _ q0') rfl) ?_;simp only[ae,au (k12 _ _ q2'),c3];have tail:∀(v:AV) (s20:Hq) (b:Bool) (vs:List Int),Sub s12 s20->LS.Sli s20 v vs->(vs≠[]->∀c,cN 1 v c->s12 c=none)->(fr=-1/\vs=[0]/\b=false∨fr=0/\vs=[]/\b=true)->
   oK (fu 2 (Pp b2)) (λv_23=>oK (rd1 s20 v_23) λv_24=>oK (cZ .lss v_24 (Ii 2)) λv_25=>ao v_25 (K (.tup [.nilslc,b,(Ii 0)]) s20)
    (oK (fu 2 (Pp b2)) λv_26=>oK (rd1 s20 v_26) λv_27=>oK (cZ .sub v_27 (Ii 1)) λv_28=>oK (fu 2 (Pp b2)) λv_29=>oK (wr1 s20 v_29 v_28) λs_30=>oK (cM v) λv_31=>
    ∃I0:List AV->Hq->Nat->Prop,(∃m,I0 [.nilslc,(Ii 0)] s_30 m)/\∀(f:Env) (s:Hq) (m0:Nat),I0 [f 10,f 54] s m0->Ff (Pp b2) (f 10) b v v_31 (f 54) I0 m0 K s)):=by
  intro v s20 b vs k20 hv hfr hb;have q20:=k20 _ _ (k12 _ _ q2');simp only[aK,zAY,ae,au q20,c4,bu,show decide ((9:Int)<2)=false from rfl,aR,eC,show IntKind.i64.wrap (9-1)=8 from rfl];refine cw q20 oM rfl λs30 q30 u30=>?_;have sb:s b2=none:=dU k1 h2;have k30:Sub s s30:=λi e hi=>by rw[u30 i ((by grind [sb]))];exact k20 _ _ (k012 _ _ hi)
  have hv30:LS.Sli s30 v vs:=Sl.keep (fp:=λi=>i=b2) hv (u30.keep rfl) λb o n c e hne q=>by have:=hfr (λq=>hne (by rw[q];rfl)) b ⟨_,_,_,e⟩;rw[q,k12 _ _ q2']at this;cases this
  simp only[hv30.len,ae,lMY];obtain⟨ps,hps⟩:∃ps,ps=cs.set 2 (Ii 8):=⟨_,rfl⟩
  have l21:ps.length=21:=gR;have o21:aX ps=true:=by simp_all [vE]
  rw[<- hps]at q30 hK1;refine⟨λys t m=>∃(i:Nat) (sv:AV),ys=[sv,i]/\i<=vs.length/\m=vs.length-i/\Sub s30 t/\AccR 121 22 s30 t sv (if i=0 then[]else[Ii 0::ps]),⟨_,0,.nilslc,rfl,oM,rfl,.refl _,⟨λr h=>(nomatch h),.inl ⟨rfl,rfl⟩⟩⟩,?_⟩;rintro f t m ⟨i,sv,hy,hi,rfl,kt,ac⟩;simp only[cI,aq]at hy;rw[hy.1,hy.2];unfold Ff;simp only[bu,ae];refine aL (λhlt=>?_) (λhge=>?_)
  rotate_left
  ·have hi:i=vs.length:=gR
   rcases hb with⟨rfl,rfl,rfl⟩|⟨rfl,rfl,rfl⟩
   ·subst hi
    have ac:AccR 121 22 s30 t sv [Ii 0::ps]:=ac
    grind [Sub.trans,AccR.sl]
   ·subst hi
    have ac:AccR 121 22 s30 t sv []:=ac;exact hK2 rfl _ _ (k30.trans kt) ac.sl.len
  have hlt:i<vs.length:=gR;rcases hb with⟨rfl,rfl,rfl⟩|⟨rfl,rfl,rfl⟩
  rotate_left
  ·cases hlt
  have hi0:i=0:=gR;subst hi0;have ac:AccR 121 22 s30 t sv []:=ac;have ⟨p,g1,g2⟩:=(hv30.sub kt).get (i:=0) sI;have g2:rd1 t p=some (Ii 0):=g2;simp only[g1,g2,ae];refine aE (bX (n:=21) (kt _ _ q30) l21) (aE (vF rfl l21) (aE (fill22b rfl gR) ⟨by simp_all,aI λd1 s39 hd1 w39 u39=>?_⟩));have k39:=u39.sub hd1;have ac39:AccR 121 22 s30 s39 sv []:=⟨ac.1,ac.2.imp id λ⟨c,q1,q2,q3⟩=>⟨c,q1,q2,k39 _ _ q3⟩⟩
  refine uN ac39 (kt.trans k39) (SlR.mk (rows:=[Ii 0::ps]) ((by simp_all)) (t:=false) (e:=121) (by rw[w39];simp) sI sI) (λb o m c' e q=>?_) sI λv' s42 a42 kp _=>?_
  ·cases e
   obtain⟨_,_,_,e⟩:=q;rcases ac.2 with⟨q1,_⟩|⟨c,_,q1,q2⟩
   ·rw[e]at q1;cases q1
   grind
  ·simp only[bg,ae]
   rw[aT];refine⟨_,oM,1,v',sI,sI,rfl,λi e hi=>?_,a42⟩;refine kp i e (k39 _ _ (kt _ _ hi)) λ⟨_,_,_,q⟩=>?_;rcases ac.2 with⟨q1,_⟩|⟨c,q0,q1,q2⟩
   ·rw[q]at q1;cases q1
   grind
 refine LZ (K:=λv s=>_) hf (hl.sub k012) (hu.sub k012) (hm.sub k012) hlen h0 (λhf v s20 k20 hv hfr=>?_) λhf v s20 k20 hv=>?_
 ·exact tail v s20 false [0] k20 hv (λ_=>hfr) (.inl ⟨hf,rfl,rfl⟩)
 ·exact tail v s20 true [] k20 hv (λh=>absurd rfl h) (.inr ⟨hf,rfl,rfl⟩)
set_option maxRecDepth 100000
variable{r r' s0:Hq}{w hv:AV}{S:Ro}{ns:List Ntc}{now a q e:Int}{p:Nat}{rows:List (List AV)}
theorem jb(k:Sub s s'):Sub (rest s r) (rest s' r):=λi e h=>by
 unfold rest at h ⊢;split at h
 ·rename_i hr;rw[ak hr];exact k _ _ h
 ·cases h
theorem AP(k:Sub r s){b:Nat}{x:Bool×Blk}(hb:s b=none)(h:s' b=some x):rest s' r b=some x:=by unfold rest;rw[ak (dU k hb)];exact h
theorem TC(k:Sub r s)(h:Goes r s r' s'):Sub (rest s r) (rest s' r'):=by
 have ⟨a,b⟩:=II (t:=rest s r) h (λi e hi=>by unfold rest at hi;split at hi;exact hi;cases hi) λi hi=>by unfold rest at hi;split at hi;assumption;exact absurd rfl hi
 intro i e hi;unfold rest;rw[ak (b i (by rw[hi];simp))];exact a i e hi
theorem mu(h:v.one=true)(hK:∀s',Sub s s'->K (LS.recV a q v) s'):wC TP 16 [a,q,v] K s:=by refine O' (aI λb s1 hb h1 u1=>aE (a:=[a,q,v]) (by simp only[aM,fZ h];rfl) (cD h1 rfl rfl (by simp_all) λs2 h2 u2=>aE (bX (n:=3) h2 rfl) (hK s2 λi x hi=>?_)));have hne:=dZ hb hi;rw[u2 i hne,u1 i hne];exact hi
theorem L4(h:LS.Sli s v l)(h':LS.Sli s w l)(hl:l.length<=10000000)(hK:∀s',Sub s s'->K true s'):wC TP 98 [LS.recV a q v,LS.recV a q w] K s:=by
 refine Q_ (LS.box3 rfl rfl h.one λb1 s1 hb1 h1 u1=>LS.box3 rfl rfl h'.one λb2 s2 hb2 h2 u2=>?_);have sub1:=u1.sub hb1;have sub2:=sub1.trans (u2.sub hb2);have h12:=u2.at h1 hb2;simp only[Fh,Fg,aK,ae,au h12,au h2,zAY,g0Y,g1Y,cj,bJ,Bool.false_bne,aZ,bD,cy]
 grind [LS.G1,Sl.sub]
def Wnt(s:Hq)(w:AV)(ns:List Ntc):Prop:=∃rows,SlR 3 s w rows/\rows.length=ns.length/\ns.length<=1000/\∀(i:Nat) (n:Ntc),ns[i]?=some n->n.1=0/\∃lw,rows[i]?=some [Ii n.2.1,Ii n.2.2.1,lw]/\LS.Sli s lw n.2.2.2/\n.2.2.2.length<=10000000
theorem Wnt.sub(h:Wnt s w ns)(k:Sub s s'):Wnt s' w ns:=by have ⟨rows,h1,h2,h3,h4⟩:=h;refine⟨rows,h1.sub k,h2,h3,λi n hn=>?_⟩;have ⟨a,lw,b,c,d⟩:=h4 i n hn;exact⟨a,lw,b,c.sub k,d⟩
theorem Wnt.nil:Wnt s .nilslc []:=⟨[],⟨sI,.inl ⟨rfl,rfl⟩⟩,rfl,sI,λi n h=>by simp at h⟩
theorem Wnt.one{b:Nat}{x:Bool}{e:TypeId}{lw:AV}(h:s b=some (x,.cells e [a,q,lw]))(hl:LS.Sli s lw l)(hn:l.length<=10000000):Wnt s (.slc b 0 1 (some 1) 3) [(0,(a,q,l))]:=by
 refine⟨[[a,q,lw]],SlR.mk ((by simp_all)) (t:=x) (e:=e) (by rw[h];rfl) rfl sI,rfl,sI,λi n hn'=>?_⟩
 grind
theorem TD(hv:Nts s0 s v ns)(hw:Wnt s w ns)(hK:∀s',Sub s s'->K true s'):wC TP 48 [v,w] K s:=by
 have ⟨vr,v1,v2,v3⟩:=hv.ex;have ⟨wr,w1,w2,w3,w4⟩:=hw;have vl:=v1.sl;refine S_ ?_;unfold RB;simp only[vl.len,w1.len,ae,v2,w2,cj,bJ,aZ,Bool.true_bne,Bool.not_true,aR];refine⟨λys t m=>∃i:Nat,ys=[Ii i]/\i<=ns.length/\m=ns.length-i/\Sub s t,⟨_,0,rfl,oM,rfl,.refl _⟩,?_⟩;rintro f t m ⟨i,hy,hi,rfl,kt⟩;simp only[cI,aq]at hy;rw[hy];unfold RA;simp only[vl.len,v2,bu,ae];refine aL (λhlt=>?_) (λhge=>hK _ kt);have hlt:i<ns.length:=gR;have ⟨n,hn⟩:∃n,ns[i]?=some n:=⟨_,gE hlt⟩
 have ⟨lv,a1,a2,_⟩:=v3 i n hn;have ⟨n0,lw,b1,b2,b3⟩:=w4 i n hn;have ⟨pb,po,g1,g2,g3⟩:=(vl.sub kt).get a1;have ⟨qb,qo,e1,e2,e3⟩:=(w1.sub kt).get b1;have g0:rd1 t (.ptr pb po)=some (Ii n.1):=g3 0 oM;have gr:rdN t 3 (.ptr pb (po+1))=some [Ii n.2.1,Ii n.2.2.1,lv]:=Tg (j:=1) (k:=3) g2;simp only[g1,ae,aK,Nat.add_zero,g0,cj,bJ,Bool.true_bne,show((n.1:Int) == 0)=true by rw[n0];rfl,Bool.not_true,aR];refine aE gr ?_;simp only[e1,ae];refine aE e2 (L4 (a2.sub kt) (b2.sub kt) b3 λt3 k3=>?_);simp only[cQ,Bool.not_true,ae,Fi,ct,aR,bg,aS];rw[aT];exact⟨_,oM,i+1,rfl,oM,rfl,kt.trans k3⟩
abbrev Rt(r:Hq)(p:Nat)(S:Ro):Prop:=RoAt 3 L3 2 1 0 r p S
theorem pln3:Pln 3 L3 2 1:=⟨oM,dE,vld3.2.2.2.2,dE⟩
theorem L5(k:Sub r s)(z:Rt r p S)(T:TkP 0 L3 S now l)(hh:LS.Sli (rest s r) hv l)(hw:Wnt (rest s r) w (gD 0 L3 S now l))
  (hK:∀r' s',Rt r' p (iO 0 L3 S now l)->Sub r' s'->Sub (rest s r) (rest s' r')->K true s'):wC TP 19 [Pp p,now,hv,w] K s:=by
 refine V' (Ar pln3 oM k z hh T λr' s1 v s0 z' g _ k0 k1 hn=>?_);have x0:∀a b:AV,bV (.tup [a,b]) 0=some a:=λ_ _=>rfl;have x1:∀a b:AV,bV (.tup [a,b]) 1=some b:=λ_ _=>rfl;simp only[x0,x1,ae,cj,bJ,aZ,Bool.false_bne,bD];refine TD hn (hw.sub (k0.trans k1)) λs2 k2=>?_;simp only[Fk,cy,ae];exact hK r' s2 z' (g.sub.trans k2) ((TC k g).trans (jb k2))
theorem L6{rc:LS.Rec}(k:Sub r s)(z:Rt r p S)(T:RvP 3 0 L3 S 0 rc)(hh:LS.Sli (rest s r) hv rc.2.2)(hw:Wnt (rest s r) w (il 3 0 L3 S 0 rc))
  (hK:∀r' s',Rt r' p (iP 3 0 L3 S rc)->Sub r' s'->Sub (rest s r) (rest s' r')->K true s'):wC TP 15 [Pp p,LS.recV rc.1 rc.2.1 hv,w] K s:=by
 refine U_ (LS.box3 rfl rfl hh.one λb s1 hb h1 u1=>aE (bX (n:=3) h1 rfl) ?_);have kb:=u1.sub hb;refine Am pln3 oM (k.trans kb) z (hh.sub (jb kb)) T λr' s1 v s0 z' g _ k0 k1 hn=>?_;have x0:∀a b:AV,bV (.tup [a,b]) 0=some a:=λ_ _=>rfl;have x1:∀a b:AV,bV (.tup [a,b]) 1=some b:=λ_ _=>rfl;simp only[x0,x1,ae,cj,bJ,aZ,Bool.false_bne,bD];refine TD hn (hw.sub (((jb kb).trans k0).trans k1)) λs2 k2=>?_;simp only[Fj,cy,ae];exact hK r' s2 z' (g.sub.trans k2) (((jb kb).trans (TC (k.trans kb) g)).trans (jb k2))
variable{t':Hq}{ttl:Int}{row:List AV}{lo:Bool}
theorem L7(h:SlR 22 s v [row])(h':SlR 22 s w [row])(he:fF TP 121 (.agg row) (.agg row)=some true)(hK:K true s):wC TP 46 [v,w] K s:=by refine X_ ?_;unfold RD;simp only[h.len,h'.len,ae,cj,bJ,aZ,Bool.true_bne,Bool.not_true,aR];refine⟨λys t m=>∃i:Nat,ys=[Ii i]/\i<=1/\m=1-i/\t=s,⟨_,0,rfl,oM,rfl,rfl⟩,?_⟩;rintro f t m ⟨i,hy,hi,rfl,rfl⟩;simp only[cI,aq]at hy;rw[hy];unfold RC;simp only[h.len,jS,bu,ae];refine aL (λhlt=>?_) (λhge=>hK);have hlt:i=0:=gR;subst hlt;have ⟨b,o,g1,g2,_⟩:=h.get (i:=0) rfl;have ⟨b',o',g1',g2',_⟩:=h'.get (i:=0) rfl;simp only[g1,ae];refine aE g2 ?_;simp only[g1',ae];refine aE g2' ?_;simp only[he,bJ,Bool.true_bne,Bool.not_true,ae,aR,bg];exact⟨_,oM,1,rfl,oM,rfl,trivial⟩
theorem TE(h:SlR 2 s v rows)(h':SlR 2 s w rows)(hl:rows.length<=1000)(he:∀r∈rows,fF TP 105 (.agg r) (.agg r)=some true)(hK:K true s):wC TP 38 [v,w] K s:=by refine Y' ?_;unfold RG;simp only[h.len,h'.len,ae,cj,bJ,aZ,Bool.true_bne,Bool.not_true,aR];refine⟨λys t m=>∃i:Nat,ys=[Ii i]/\i<=rows.length/\m=rows.length-i/\t=s,⟨_,0,rfl,oM,rfl,rfl⟩,?_⟩;rintro f t m ⟨i,hy,hi,rfl,rfl⟩;simp only[cI,aq]at hy;rw[hy];unfold RF;simp only[h.len,bu,ae];refine aL (λhlt=>?_) (λhge=>hK);have hlt:i<rows.length:=gR;have ⟨b,o,g1,g2,_⟩:=h.get (gE hlt);have ⟨b',o',g1',g2',_⟩:=h'.get (gE hlt);simp only[g1,ae];refine aE g2 ?_;simp only[g1',ae];refine aE g2' ?_;simp only[he _ (aN hlt),bJ,Bool.true_bne,Bool.not_true,ae,aR,bg];rw[aT];exact⟨_,oM,i+1,rfl,oM,rfl,trivial⟩
theorem L8{m:List Bool}(h:Sl s v (m.map AV.bool))(h':Sl s w (m.map AV.bool))(hl:m.length<=1000)(hK:K true s):wC TP 70 [v,w] K s:=by
 refine qRd ?_;unfold RJ;simp only[h.len,h'.len,lMY,ae,cj,bJ,aZ,Bool.true_bne,Bool.not_true,aR];refine⟨λys t k=>∃i:Nat,ys=[Ii i]/\i<=m.length/\k=m.length-i/\t=s,⟨_,0,rfl,oM,rfl,rfl⟩,?_⟩;rintro f t k ⟨i,hy,hi,rfl,rfl⟩;simp only[cI,aq]at hy;rw[hy];unfold RI;simp only[h.len,lMY,bu,ae];refine aL (λhlt=>?_) (λhge=>hK);have hlt:i<m.length:=gR;have ⟨p,g1,g2⟩:=h.get (i:=i) (by simpa using hlt);have ⟨p',g1',g2'⟩:=h'.get (i:=i) (by simpa using hlt);have g2:rd1 t p=some (.bool m[i]):=by rw[g2];simp[hlt]
 have g2':rd1 t p'=some (.bool m[i]):=by rw[g2'];simp[hlt]
 have e:eqV 1 false (m[i]) (m[i])=some true:=by cases m[i]<;>rfl
 simp only[g1,g2,g1',g2',ae,e,bJ,Bool.true_bne,Bool.not_true,aR,bg];rw[aT];exact⟨_,oM,i+1,rfl,oM,rfl,trivial⟩
def pk(g ttl:Int):List AV:=[Iw 0,Iw g,ttl,Ii 0,Iw 0,Iw 0,Iq 0,Iq 0,Ii 0,Ii 0,Iq 0,Iw 0,Iq 0,Iw 0,Iw 0,Iw 0,Ii 0,Ii 0,Ii 0,Ii 0,Iq 0]
theorem pkP:FB.Pk 0 g 0 0 (pk g ttl):=⟨rfl,rfl,rfl,rfl,rfl,rfl⟩
theorem L9(h:∀K':AV->Hq->Prop,(∀s' v,Sub s s'->cM v=some 0->K' (.tup [v,lo,e]) s')->wC TP 23 [Pp p,.agg (pk g ttl),fr] K' s)(hK:∀s',Sub s s'->K true s'):
  wC TP 12 [Pp p,Iw g,ttl,fr,false,lo,e] K s:=by
 refine RE (aE (a:=pk g ttl) rfl (h _ λs' v k hl=>?_));have x0:∀a b c:AV,bV (.tup [a,b,c]) 0=some a:=λ_ _ _=>rfl;have x1:∀a b c:AV,bV (.tup [a,b,c]) 1=some b:=λ_ _ _=>rfl;have x2:∀a b c:AV,bV (.tup [a,b,c]) 2=some c:=λ_ _ _=>rfl;have eb:∀b:Bool,eqV 1 false b b=some true:=λb=>by cases b<;>rfl
 simp only[x0,x1,x2,ae,eb,bJ,Bool.true_bne,Bool.not_true,aR,cj,aZ,zx,ct,hl,dy,show decide ((((0:Nat):Int))>0)=false from rfl,zw,cQ,Bool.not_false,bD,zq,cy];exact hK s' k
theorem Ma(h:∀K':AV->Hq->Prop,(∀s' v,Sub s s'->SlR 22 s' v [Ii 0::(pk g 9).set 2 (Ii 8)]->K' (.tup [v,false,Ii 0]) s')->wC TP 23 [Pp p,.agg (pk g 9),fr] K' s)(he:fF TP 121 (.agg (Ii 0::pk g 8)) (.agg (Ii 0::pk g 8))=some true)(hK:∀s',Sub s s'->K true s'):
  wC TP 12 [Pp p,Iw g,Ii 9,fr,true,false,Ii 0] K s:=by
 refine RE (aE (a:=pk g 9) rfl (h _ λs' v k hl=>?_));have x0:∀a b c:AV,bV (.tup [a,b,c]) 0=some a:=λ_ _ _=>rfl;have x1:∀a b c:AV,bV (.tup [a,b,c]) 1=some b:=λ_ _ _=>rfl;have x2:∀a b c:AV,bV (.tup [a,b,c]) 2=some c:=λ_ _ _=>rfl;have eb:∀b:Bool,eqV 1 false b b=some true:=λb=>by cases b<;>rfl
 simp only[x0,x1,x2,ae,eb,bJ,Bool.true_bne,Bool.not_true,aR,cj,aZ,zx,ct,hl.len,jS,dy,show decide ((0:Int)<((1:Nat):Int))=true from rfl,zw,cQ,eC,show IntKind.i64.wrap (9-1)=8 from rfl];refine aE (a:=pk g 8) rfl (aE (a:=Ii 0::pk g 8) rfl (aE (a:=Ii 0::pk g 8) rfl ⟨rfl,aI λb s2 hb h2 u2=>?_⟩));refine L7 (hl.sub (u2.sub hb)) (SlR.mk (rows:=[Ii 0::pk g 8]) (λr h=>by rw[bN.1 h];rfl) (t:=false) (e:=121) (by rw[h2];rfl) rfl sI) he ?_;simp only[zq,ct,ae]
 grind [Sub.trans,Upto.sub]
theorem Mc(k:Sub r s)(z:Rt r p S)(hK:∀s' v,Sub s s'->LS.Sli s' v [0]->K v s'):wC TP 10 [Pp p] K s:=by
 have ⟨st,rv0,rd,rt,wl,wm,d,f,lv,mv,uv,dv,zs,pt⟩:=z.ex;have zs':=zs.more k;have hp:=zs'.sub (pC p 0 2 1 lv mv wm d f S.tk S.la uv dv) sI _ _ bW;have ws:=pt.ws.sub (zs'.sub rv0 sI);refine Sw ws.asc (by have:=aJ List.length pt.wk;rw[lMY]at this;rw[this];decide) hp ws.mr λs' v k' ac=>hK s' v k' ?_;have e:lks wl=[0]:=by
  show wl.map _=_;have:wl.map (·.1)=[0]:=pt.wk
  simp_all
 grind [Acc.sl]
theorem mh(k:Sub r s)(z:Rt r p S)(hm:0<(S.W 0).m)(hK:∀s' v,Sub s s'->LS.Sli s' v (ups [0] S.W)->K v s'):wC TP 11 [Pp p] K s:=by
 have ⟨st,rv0,rd,rt,wl,wm,d,f,lv,mv,uv,dv,zs,pt⟩:=z.ex;have zs':=zs.more k;have hp:=zs'.sub (pC p 0 2 1 lv mv wm d f S.tk S.la uv dv) sI _ _ bW;have ws:=pt.ws.sub (zs'.sub rv0 sI);have wk:wl.map (·.1)=[0]:=pt.wk;refine Up_in ws.asc (by have:=aJ List.length wk;grind) hp ws.mr (λq hq=>⟨⟨_,ws.w q hq⟩,?_⟩) λs' v k' ac=>hK s' v k' ?_
 ·have:q.1∈wl.map (·.1):=mem_map_of_mem hq
  grind
 grind [uY,Acc.sl]
theorem Md(k:Sub r s)(z:Rt r p S)(hne:S.U≠[])(hl:S.U.length<=1000)(hK:∀s' v,Sub s s'->Sl s' v (S.U.map AV.bool)->K v s'):wC TP 25 [Pp p] K s:=by
 have ⟨st,rv0,rd,rt,wl,wm,d,f,lv,mv,uv,dv,zs,pt⟩:=z.ex;have zs':=zs.more k;have hp:=zs'.sub (pC p 0 2 1 lv mv wm d f S.tk S.la uv dv) sI _ _ bW;have hu:=pt.u.sub (zs'.sub st sI);refine qJw (fk hp ?_);simp only[cQ,Bool.not_true,ae,aR,bQ,aK,au hp,zAY,g1Y,g0Y];refine qKR ?_;have hne':S.U.map AV.bool≠[]:=(by simp_all)
 obtain⟨b,o,c,e⟩:∃b o c,uv=.slc b o (S.U.map AV.bool).length c 1:=by
  rcases hu with⟨_,h⟩|⟨b,o,c,h,_⟩
  ·exact absurd h hne'
  ·exact⟨b,o,c,h⟩
 rw[e]at hu ⊢;simp only[RK,kY,bJ,Bool.false_bne,ae,aR];refine aE (a:=[]) rfl ⟨rfl,aI λd s1 hd h1 u1=>?_⟩;refine se (hu.sub (u1.sub hd)) gR λv' s2 sub2 _ q2=>?_;exact hK s2 v' ((u1.sub hd).trans sub2) (by grind [Sl.mk])
def jc(x:Nat)(dd:Nat->Int)(i:Nat):List (List AV):=((List.range i).filter λm=>decide (m≠x/\0<=dd m)).map λm=>[.int .u32 (lbk m),.int .i64 (dd m)]
theorem lL{x:Nat}{dd:Nat->Int}{i:Nat}:jc x dd (i+1)=jc x dd i++if i≠x/\0<=dd i then[[.int .u32 (lbk i),.int .i64 (dd i)]]else[]:=by
 unfold jc;rw[fi,fX,bM]
 grind
theorem Me{N x:Nat}{L:List LS.Lnk}{lf sp:Int}(hN:N<=32)(k:Sub r s)(z:RoAt N L lf sp x r p S)(hK:∀s' v dd,Sub s s'->IsDist N (tL L) S.U x dd->SlR 2 s' v (jc x dd N)->K v s'):wC TP 26 [.ptr p 0] K s:=by
 obtain⟨st,rv0,rd,rt,wl,wm,d,f,lv,mv,uv,dv,zs,pt⟩:=z.ex;have zs':=zs.more k;have hp:=zs'.sub (pC p x lf sp lv mv wm d f S.tk S.la uv dv) (by simp) _ _ bW;obtain⟨dd,hdd,hb,hdv⟩:=pt.ds.ex;have hdv:=hdv.sub (zs'.sub st (by simp));refine qJI (fk hp ?_);have l3:cM dv=some N:=by rw[hdv.len,ij]
 simp only[cQ,Bool.not_true,ae,aR,bQ,aK,au hp,zAY,g1Y,g0Y,l3];refine⟨λys t m=>∃(i:Nat) (sv:AV),ys=[sv,.int .i64 i]/\i<=N/\m=N-i/\Sub s t/\AccR 105 2 s t sv (jc x dd i),⟨_,0,.nilslc,rfl,by omega,rfl,.refl _,⟨λr h=>(nomatch h),.inl ⟨rfl,rfl⟩⟩⟩,?_⟩;rintro f t m ⟨i,sv,hy,hi,rfl,kt,ac⟩;simp only[cI,aq]at hy;rw[hy.1,hy.2];obtain⟨I0,hI0⟩:∃I0:List AV->Hq->Nat->Prop,I0=λys t m=>∃(i:Nat) (sv:AV),ys=[sv,.int .i64 i]/\i<=N/\m=N-i/\Sub s t/\AccR 105 2 s t sv (jc x dd i):=⟨_,rfl⟩
 rw[<- hI0];unfold RH;simp only[bu,ae];refine aL (λhlt=>?_) (λhge=>?_)
 rotate_left
 ·have hi:i=N:=by grind
  subst hi;exact hK t sv dd kt hdd ac.sl
 have hlt:i<N:=by grind
 have next:∀sv' t',Sub s t'->AccR 105 2 s t' sv' (jc x dd (i+1))->zy sv' (.int .i64 i) I0 (N-i) K t':=λsv' t' k' a'=>by simp only[zy,bg,ae,aS];rw[aT,hI0];exact⟨_,by omega,i+1,sv',by simp,by omega,rfl,k',a'⟩
 obtain⟨q,g1,g2⟩:=(hdv.sub kt).get (i:=i) (by rw[ij];exact hlt);have g2:rd1 t q=some (.int .i64 (dd i)):=by grind [AM.dl]
 simp only[g1,g2,ae,bQ,aK,au (kt _ _ hp),zAY,g0Y,cj,bJ,Bool.false_bne]
 by_cases h0:i=x
 ·grind [bD,zC,cy,cP,lL]
 rw[show((i:Int) == (x:Int))=false by rw[beq_eq_false_iff_ne];omega];simp only[aR,bu,ae,zC,ct];refine aL (λhn=>?_) (λhn=>?_)
 ·grind [lL]
 refine pE (by omega) ?_;have x0:∀a b:AV,bV (.tup [a,b]) 0=some a:=λ_ _=>rfl;have x1:∀a b:AV,bV (.tup [a,b]) 1=some b:=λ_ _=>rfl;simp only[x0,x1,ae];refine aE (a:=[.int .u32 (lbk i),.int .i64 (dd i)]) rfl (aE (a:=[.int .u32 (lbk i),.int .i64 (dd i)]) rfl ⟨rfl,aI λc t2 hc w2 u2=>?_⟩);have k2:=u2.sub hc;have ac2:AccR 105 2 s t2 sv (jc x dd i):=⟨ac.1,ac.2.imp id λ⟨c,q1,q2,q3⟩=>⟨c,q1,q2,k2 _ _ q3⟩⟩
 have old:∀b,cN 2 sv b->s b=none/\t b≠none:=λb ⟨_,_,_,e⟩=>by
  rcases ac.2 with⟨q1,_⟩|⟨c',q0,q1,q2⟩
  ·rw[e]at q1;cases q1
  grind
 refine uN ac2 (kt.trans k2) (SlR.mk (rows:=[[.int .u32 (lbk i),.int .i64 (dd i)]]) ((by simp_all)) (t:=false) (e:=105) (by rw[w2];rfl) rfl (by simp)) (λb o m c' e q=>?_) ?_ λv' t3 a3 kp _=>?_
 ·grind
 ·grind [jc]
 ·refine next _ _ (λj e hj=>kp j e (k2 _ _ (kt _ _ hj)) λq=>by grind) ?_
  grind [lL]
def FP:TN.FG:=⟨2,1,0,0,0,false,false,3,9,100,20,5,50,L3,[(100,1)],[(0,10,2,167772160,24,167772161),(0,20,3,0,0,0)],[([0],[0,1]),([0,1],[0])],[],[]⟩
theorem Mg:TN.Valid FP:=by
 intro i hi
 match i,hi with
 | 0,_=>exact⟨dE,dE,dE,dE,dE,dE⟩
 | 1,_=>exact⟨dE,dE,dE,dE,dE,dE⟩
 | 2,_=>
   refine⟨dE,λi x h=>?_⟩
   match i with
   | 0=>cases h;exact⟨⟨dE,dE,dE,dE⟩,dE⟩
   | 1=>cases h;exact⟨⟨dE,dE,dE,dE⟩,dE⟩
   |i+2=>cases h
 | 3,_=>
   refine⟨dE,λi x h=>?_⟩
   match i with
   | 0=>cases h;exact⟨⟨dE,dE,dE⟩,dE,dE⟩
   |i+1=>cases h
 | 4,_=>
   refine⟨dE,λi x h=>?_⟩
   match i with
   | 0=>cases h;exact⟨⟨dE,dE,dE⟩,dE,dE,rfl,rfl,λh=>(nomatch h),λ_=>⟨by decide +kernel,dE,by decide +kernel,rfl⟩⟩
   | 1=>cases h;exact⟨⟨dE,dE,dE⟩,dE,dE,rfl,rfl,λ_=>⟨rfl,rfl⟩,λh=>absurd rfl h⟩
   |i+2=>cases h
 | 5,_=>
   refine⟨dE,λx h=>?_,λn=>Nat.le_trans count_le_length dE⟩;rcases mCY h with rfl|h
   ·exact⟨dE,⟨dE,dE⟩,dE,dE⟩
   ·rcases bN.1 h with rfl
    exact⟨dE,⟨dE,dE⟩,dE,dE⟩
 | 6,_=>exact⟨dE,λi x h=>by cases h⟩
 | 7,_=>exact⟨dE,λi x h=>by cases h⟩
 |n+8,h=>omega
theorem wj:TN.Sz FP:=⟨dE,dE,dE,dE,dE,dE,dE,dE⟩
theorem Mh:SgB FP:=⟨dE,dE,dE⟩
theorem Mi:∀i:Nat,[true,true][i]?=some true->MbA FP ((0:Nat):Int) FP.S.length i:=λi h=>by
 match i with
 | 0=>exact⟨([0],[0,1]),dE,dE,dE⟩
 | 1=>exact⟨([0],[0,1]),dE,dE,dE⟩
 |i+2=>simp at h
theorem wo(hK:∀cs s',Sub s s'->TN.FabR s' cs FP->K (.agg cs) s'):wC TP 21 [] K s:=by
 refine qKt ?_;refine aI λb0 s1 h0 q0 u0=>aE (a:=[Ii 0,Ii 2,Ii 1]) rfl (aE (a:=[Ii 1,Ii 2,Ii 1]) rfl (aE (a:=[Ii 0,Ii 2,Ii 1,Ii 1,Ii 2,Ii 1]) rfl ⟨rfl,aI λb5 s6 h5 q5 u5=>?_⟩));refine aE (a:=[Iw 100,Iw 1]) rfl (aE (a:=[Iw 100,Iw 1]) rfl ⟨rfl,aI λb9 s10 h9 q9 u9=>?_⟩);refine aE (a:=[Ii 2,Ii 1,.slc b5 0 2 (some 2) 3,.slc b9 0 1 (some 1) 2,.nilslc,.nilslc,.nilslc,.nilslc,Ii 0,Ii 0,Ii 0,false,false,Ii 0,Ii 0,Ii 0,Ii 0,Ii 0,Ii 0]) rfl (aI λb12 s13 h12 q12 u12=>cD q12 rfl rfl rfl λs14 q14 u14=>?_);refine aE (a:=[Iw 167772160,Ii 24]) rfl (aE (a:=[Ii 0,Iw 10,Iw 2,Iw 167772160,Ii 24,Iw 167772161]) rfl (aE (a:=[Ii 0,Iw 20,Iw 3,Iw 0,Ii 0,Iw 0]) rfl ?_));refine aE (a:=[Ii 0,Iw 10,Iw 2,Iw 167772160,Ii 24,Iw 167772161,Ii 0,Iw 20,Iw 3,Iw 0,Ii 0,Iw 0]) rfl ⟨rfl,aI λb19 s20 h19 q19 u19=>?_⟩;have n12:b12≠b19:=λe=>gR;refine cw (by rw[u19 _ n12];exact q14) sI rfl λs22 q22 u22=>?_;refine aE (a:=[Ii 0]) rfl ⟨rfl,aI λb24 s25 h24 q24 u24=>?_⟩;refine aE (a:=[Ii 0,Ii 1]) rfl ⟨rfl,aI λb27 s28 h27 q27 u27=>?_⟩;refine aE (a:=[.slc b24 0 1 (some 1) 1,.slc b27 0 2 (some 2) 1]) rfl ?_;refine aE (a:=[Ii 0,Ii 1]) rfl ⟨rfl,aI λb31 s32 h31 q31 u31=>?_⟩;refine aE (a:=[Ii 0]) rfl ⟨rfl,aI λb34 s35 h34 q34 u34=>?_⟩;refine aE (a:=[.slc b31 0 2 (some 2) 1,.slc b34 0 1 (some 1) 1]) rfl ?_;refine aE (a:=[.slc b24 0 1 (some 1) 1,.slc b27 0 2 (some 2) 1,.slc b31 0 2 (some 2) 1,.slc b34 0 1 (some 1) 1]) rfl ⟨rfl,aI λb38 s39 h38 q38 u38=>?_⟩;have k1:=u0.sub h0;have k6:=u5.sub h5;have k10:=u9.sub h9;have k13:=u12.sub h12;have s12:=h12;have k20:=u19.sub h19;have k25:=u24.sub h24;have k28:=u27.sub h27;have k32:=u31.sub h31;have k35:=u34.sub h34;have k39:=u38.sub h38;have q22':=k39 _ _ (k35 _ _ (k32 _ _ (k28 _ _ (k25 _ _ q22))));refine cw q22' sI rfl λs41 q41 u41=>?_;refine TN.ve q41 rfl sI rfl λs44 q44 u44=>?_;obtain⟨cs,hcs⟩:∃cs,cs=TN.csG FP (.slc b5 0 2 (some 2) 3) (.slc b9 0 1 (some 1) 2) (.slc b19 0 2 (some 2) 6) (.slc b38 0 2 (some 2) 2) .nilslc .nilslc:=⟨_,rfl⟩
 have q44:Hc s44 b12 52 cs:=by rw[hcs];exact q44
 have lcs:cs.length=19:=by rw[hcs];rfl
 have acs:aX cs=true:=by rw[hcs];rfl
 refine aE (bX (n:=19) q44 lcs) ?_;have kA:Sub s10 s44:=λi e hi=>by have hne:=dZ h12 hi;rw[u44 i hne,u41 i hne];refine k39 _ _ (k35 _ _ (k32 _ _ (k28 _ _ (k25 _ _ ?_))));rw[u22 i hne];refine k20 _ _ ?_;rw[u14 i hne];exact k13 _ _ hi
 have q0':=kA _ _ (k10 _ _ (k6 _ _ q0));refine cD q0' (by rw[lcs];rfl) rfl acs λs46 q46 u46=>aE (bX (n:=19) q46 lcs) ?_;have sb0:=h0;have up:∀{i e},s44 i=some e->i≠b0->s46 i=some e:=fun {i e} h hne=>by rw[u46 i hne];exact h
 have kk:Sub s s46:=λi e hi=>up (kA _ _ (k10 _ _ (k6 _ _ (k1 _ _ hi)))) (dZ h0 hi);have nb:∀{b} {t:Hq},Sub s1 t->t b=none->b≠b0:=fun {b t} k h e=>by rw[e,k _ _ q0]at h;cases h
 have m6:=k6;have m10:=k6.trans k10;have n14:Sub s1 s14:=λi e hi=>by have h:=m10 _ _ hi;have hne:=dZ h12 h;rw[u14 i hne];exact k13 _ _ h
 have n22:Sub s1 s22:=λi e hi=>by have hne:=dZ h12 (m10 _ _ hi);rw[u22 i hne];exact k20 _ _ (n14 _ _ hi)
 have f5:=up (kA _ _ (k10 _ _ q5)) (nb (.refl _) h5);have f9:=up (kA _ _ q9) (nb m6 h9);have tl:∀{i e},s22 i=some e->i≠b12->s44 i=some e:=fun {i e} h hne=>by rw[u44 i hne,u41 i hne];exact k39 _ _ (k35 _ _ (k32 _ _ (k28 _ _ (k25 _ _ h))))
 have f19:=up (tl (by rw[u22 _ (Ne.symm n12)];exact q19) (Ne.symm n12)) (nb n14 h19);have t25:∀{i e},s25 i=some e->i≠b12->s44 i=some e:=fun {i e} h hne=>by rw[u44 i hne,u41 i hne];exact k39 _ _ (k35 _ _ (k32 _ _ (k28 _ _ h)))
 have e12:∀{b} {t:Hq},Sub s22 t->t b=none->b≠b12:=fun {b t} k h e=>by rw[e,k _ _ q22]at h;cases h
 have l25:=k25;have l28:=k25.trans k28;have l32:=l28.trans k32;have l35:=l32.trans k35;have f24:=up (t25 q24 (e12 (.refl _) h24)) (nb n22 h24);have f27:=up (by rw[u44 _ (e12 l25 h27),u41 _ (e12 l25 h27)];exact k39 _ _ (k35 _ _ (k32 _ _ q27))) (nb (n22.trans l25) h27)
 have f31:=up (by rw[u44 _ (e12 l28 h31),u41 _ (e12 l28 h31)];exact k39 _ _ (k35 _ _ q31)) (nb (n22.trans l28) h31)
 have f34:=up (by rw[u44 _ (e12 l32 h34),u41 _ (e12 l32 h34)];exact k39 _ _ q34) (nb (n22.trans l32) h34)
 have f38:=up (by rw[u44 _ (e12 l35 h38),u41 _ (e12 l35 h38)];exact q38) (nb (n22.trans l35) h38)
 refine hK cs s46 kk ⟨_,_,_,_,_,_,hcs,⟨?_,?_,?_,?_,⟨λr h=>(nomatch h),.inl ⟨rfl,rfl⟩⟩,⟨λr h=>(nomatch h),.inl ⟨rfl,rfl⟩⟩⟩⟩
 ·exact SlR.mk (n:=2) dE (t:=false) (e:=145) f5 rfl (by simp;decide)
 ·exact SlR.mk (n:=1) dE (t:=false) (e:=157) f9 rfl (by simp;decide)
 ·exact SlR.mk (n:=2) dE (t:=false) (e:=161) f19 rfl (by simp;decide)
 ·refine⟨[(.slc b24 0 1 (some 1) 1,.slc b27 0 2 (some 2) 1),(.slc b31 0 2 (some 2) 1,.slc b34 0 1 (some 1) 1)],SlR.mk (n:=2) sI (t:=false) (e:=163) f38 rfl sI,rfl,λi q x hq hx=>?_⟩
  match i with
  | 0=>cases hq;cases hx;exact⟨Sl.mk f24 rfl (by simp[TN.ix]),Sl.mk f27 rfl (by simp[TN.ix])⟩
  | 1=>cases hq;cases hx;exact⟨Sl.mk f31 rfl (by simp[TN.ix]),Sl.mk f34 rfl (by simp[TN.ix])⟩
  |i+2=>simp at hq
variable{h lk:Int}
theorem TF(k:Sub r s)(z:Rt r p S)(hh:LS.Sli s hv [h])(hnow:0<=now/\now<=1099511627776)(hc:(owB L3 0 h=false/\e=2)∨(owB L3 0 h=true/\S.tk=true/\now<=S.la/\e=20))(hK:∀s',Sub s s'->K (.tup [.nilslc,e]) s'):wC TP 18 [Pp p,now,hv] K s:=by
 have ⟨st,rv0,rd,rt,wl,wm,d,f,lv,mv,uv,dv,zs,pt⟩:=z.ex;have zs':=zs.more k;have hp0:=zs'.sub (pC p 0 2 1 lv mv wm d f S.tk S.la uv dv) sI _ _ bW;have hl0:=pt.l.sub (zs'.sub st sI);refine Rh (fG rfl λbR s1 hbR h1 u1=>fG rfl λbn s2 hbn h2 u2=>fG hh.one λbh s3 hbh h3 u3=>?_);have k3:=((u1.sub hbR).trans (u2.sub hbn)).trans (u3.sub hbh);have hp:Hc s3 p 75 (roC ((0:Nat):Int) (lbk 0) 2 1 lv mv wm d f S.tk S.la uv dv):=k3 _ _ hp0;have hl3:=hl0.sub k3;have hR:=(u3.sub hbh) _ _ ((u2.sub hbn) _ _ h1);have hn:=(u3.sub hbh) _ _ h2;have hv3:=hh.sub k3;simp only[au hR,g0Y,ae];refine fk hp ?_;have now0:decide (now<0)=false:=aC oM;have now1:decide (now>1099511627776)=false:=aC oM;have lenh:cM hv=some 1:=hv3.len;simp only[cQ,Bool.not_true,ae,aR,au hn,g0Y,bu,now0,dy,now1,yR,ct,au h3,lenh,bG];refine⟨λys s1 n=>∃i:Nat,ys=[.nilslc,Ii 0,Ii i]/\s1=s3/\i<=1/\n=1-i/\(i=1->owB L3 0 h=true),⟨_,0,rfl,rfl,oM,rfl,λh=>(nomatch h)⟩,?_⟩;rintro g s1' n ⟨i,hy,rfl,hi,rfl,hoi⟩;simp only[cI,aq]at hy;have ⟨y1,y2,y3⟩:=hy;rw[y1,y2,y3];simp only[E2,ae,bu];refine aL (λhlt=>?_) (λhge=>?_)
 ·have hlt:i=0:=gR
  subst hlt;have ⟨q,g1,g2⟩:=LS.gC hv3 (k:=0) sI;have g2:rd1 s1' q=some h:=g2;simp only[g1,g2,ae,au hR,g0Y,bQ,aK,zAY];refine pJ hp hl3 ?_;simp only[cQ,ae];rcases hc with⟨o,rfl⟩|⟨o,ht,hle,rfl⟩
  ·simp_all
  ·rw[show owB L3 ((0:Nat):Int) h=true from o,Bool.not_true,aR]
   simp only[dy,ae,show decide ((((0:Nat):Int))>0)=false from rfl,aR,tC,ct,bg,aS];exact⟨_,oM,1,rfl,by trivial,oM,rfl,λ_=>o⟩
 ·have hi:i=1:=gR
  have o':=hoi hi;simp only[au hR,g0Y,ae,bQ,aK,zAY,au hp,g1Y];rcases hc with⟨o,rfl⟩|⟨o,ht,hle,rfl⟩
  ·rw[o']at o;cases o
  rw[ht]at hp ⊢;simp only[bD,au hn,g0Y,ae,iX]
  grind [pq,cy,cP,bD]
theorem Mj{n q:Int}(k:Sub r s)(z:Rt r p S)(hv1:v.one=true)(ho:owB L3 0 lk=false)(hK:∀s',Sub s s'->K (.tup [.nilslc,Ii 2]) s'):wC TP 17 [Pp p,lk,LS.recV n q v] K s:=by
 have ⟨st,rv0,rd,rt,wl,wm,d,f,lv,mv,uv,dv,zs,pt⟩:=z.ex;have zs':=zs.more k;have hp0:=zs'.sub (pC p 0 2 1 lv mv wm d f S.tk S.la uv dv) sI _ _ bW;have hl0:=pt.l.sub (zs'.sub st sI);refine Rj (fG rfl λbR s1 hbR h1 u1=>fG rfl λbl s2 hbl h2 u2=>LS.box3 rfl rfl hv1 λbx s3 hbx h3 u3=>?_);have k3:=((u1.sub hbR).trans (u2.sub hbl)).trans (u3.sub hbx);have hp:Hc s3 p 75 (roC ((0:Nat):Int) (lbk 0) 2 1 lv mv wm d f S.tk S.la uv dv):=k3 _ _ hp0;have hR:=(u3.sub hbx) _ _ ((u2.sub hbl) _ _ h1);have hn:=(u3.sub hbx) _ _ h2;simp only[au hR,g0Y,ae];refine fk hp ?_;simp only[cQ,Bool.not_true,ae,aR,au hR,au hn,g0Y,bQ,aK,zAY]
 grind [pJ,cQ,cP,bD,SlR.sub]
theorem Mk(hF:TN.FabR s cs FP)(hK:∀s',Sub s s'->K (.tup [.nilptr,Ii 2]) s'):wC TP 20 [.agg cs,Ii 3] K s:=by
 obtain⟨v2,v3,v4,v5,v6,v7,rfl,hL⟩:=id hF;have ones:=hL.all;have ⟨cs,hcs⟩:∃cs,cs=TN.csG FP v2 v3 v4 v5 v6 v7:=⟨_,rfl⟩
 have c0:cs[0]?=some (Ii 2):=by rw[hcs];rfl
 have c1:cs[1]?=some (Ii 1):=by rw[hcs];rfl
 have clen:cs.length=19:=by rw[hcs];rfl
 rw[<- hcs]at hF ones ⊢;refine E5 ⟨ones,aI λb0 s1 hb0 q1 u1=>?_⟩;have q1:Hc s1 b0 52 cs:=q1;have k1:=u1.sub hb0;refine aE (bX (n:=19) q1 clen) (TN.zX Mg wj (hF.sub k1) (λ_ s4 k4=>?_) λh=>absurd Mg h);have y0:∀a b c:AV,bV (.tup [a,b,c]) 0=some a:=λ_ _ _=>rfl;have y1:∀a b c:AV,bV (.tup [a,b,c]) 1=some b:=λ_ _ _=>rfl;have y2:∀a b c:AV,bV (.tup [a,b,c]) 2=some c:=λ_ _ _=>rfl;have e3:negB true (eqV 0 true (Ii 0) (Ii 0))=some (.bool false):=rfl;simp only[y0,y1,y2,e3,ae,aR,bu,show decide ((3:Int)<0)=false from rfl,aK,zAY,au (k4 _ _ q1),c0,c1,bg,show IntKind.i64.wrap (2+1)=3 from rfl,dQ,show decide ((3:Int) ≥ 3)=true from rfl]
 grind [E3,ct,cP,bD,Sub.trans]
def C0:List AV:=[Ii 0,Ii 0,.nilslc,.nilslc,.nilslc,.nilslc,.nilslc,.nilslc,Ii 0,Ii 0,Ii 0,false,false,Ii 0,Ii 0,Ii 0,Ii 0,Ii 0,Ii 0]
def Ml:Prop:=∀(K:AV->Hq->Prop) (s:Hq),(∀s' (e:Int) (p:ByteArray) (i:Int),Sub s s'->e≠0->K (.tup [e,.str p,i]) s')->wC TP 61 [.agg C0] K s
theorem Mm(cb:Ml)(hK:∀s',Sub s s'->K (.tup [.nilptr,Ii 3]) s'):wC TP 20 [.agg C0,Ii 0] K s:=by
 refine E5 ⟨rfl,aI λb0 s1 hb0 q1 u1=>?_⟩;have q1:Hc s1 b0 52 C0:=q1;have k1:=u1.sub hb0;refine aE (bX (n:=19) q1 rfl) (cb _ _ λs4 e p i k4 he=>?_);have y0:∀a b c:AV,bV (.tup [a,b,c]) 0=some a:=λ_ _ _=>rfl;have y1:∀a b c:AV,bV (.tup [a,b,c]) 1=some b:=λ_ _ _=>rfl;have y2:∀a b c:AV,bV (.tup [a,b,c]) 2=some c:=λ_ _ _=>rfl;have e3:negB true (eqV 0 true e (Ii 0))=some true:=by
  simp_all
 grind [cP,bD,Sub.trans]
def S0:Ro:=newG 3 L3 [true,true]
def S1:Ro:=iO 0 L3 S0 1 [0]
def S2:Ro:=iO 0 L3 S1 2 [0]
def S3:Ro:=iP 3 0 L3 S2 (2,1,[0,1])
def S4:Ro:=iP 3 0 L3 S3 (1,1,[1])
def S5:Ro:=iP 3 0 L3 S4 (0,5,[])
def S6:Ro:=iP 3 0 L3 S5 (2,1,[0])
def S7:Ro:=iO 0 L3 S6 5 []
theorem n0:gD 0 L3 S0 1 [0]=[]:=by decide +kernel
theorem n1:gD 0 L3 S1 2 [0]=[(0,(0,2,[0]))]:=by decide +kernel
theorem n2:il 3 0 L3 S2 0 (2,1,[0,1])=[]:=by decide +kernel
theorem n3:il 3 0 L3 S3 0 (1,1,[1])=[]:=by decide +kernel
theorem n4:il 3 0 L3 S4 0 (0,5,[])=[(0,(0,6,[0]))]:=by decide +kernel
theorem n5:il 3 0 L3 S5 0 (2,1,[0])=[(0,(2,1,[0,1]))]:=by decide +kernel
theorem n6:gD 0 L3 S6 5 []=[]:=by decide +kernel
theorem u1:ups [0] S1.W=[]:=by decide +kernel
theorem u2:S2.U=[false,false]:=by decide +kernel
theorem u4:S4.U=[true,true]:=by decide +kernel
theorem w4:ups [0] S4.W=[0]:=by decide +kernel
theorem w7:ups [0] S7.W=[]:=by decide +kernel
theorem wok{W:Nat->DT.Wt}{now:Int}(h:(decide (1<=(W 0).m/\(W 0).m<=1000/\0<=(W 0).changes/\(W 0).changes<=1000000000000)&&((W 0).heard.all λn=>decide (0<=n/\n<=1099511627776))&&decide (DT.jj (W 0) now=none))=true):∀n∈ownL L3 0,(W n).ok/\(0<=(W n).changes/\(W n).changes<=1000000000000)/\DT.jj (W n) now=none:=λn hn=>by
 have e:ownL L3 0=[0]:=by decide +kernel
 rw[e]at hn;rcases bN.1 hn with rfl;simp only[Bool.and_eq_true,decide_eq_true_eq]at h;have ⟨⟨⟨a,b,c,d⟩,f⟩,g⟩:=h;refine⟨⟨a,b,λn hn=>?_⟩,⟨c,d⟩,g⟩
 grind
theorem kI:∀{F:List (Int×LS.Rec)},(∀x∈F,x.2.2.2.Pairwise (· < ·))->LS.AscF F
 |[],_=>λk r h=>by cases h
 | x::F,h=>λk r hk=>by
   rw[nj]at hk;split at hk
   ·grind
   ·exact kI (gR) k r hk
theorem t0:TkP 0 L3 S0 1 [0]:=⟨wok (by decide +kernel),dE,λh=>(nomatch h),by decide +kernel,by decide +kernel,dE,by decide +kernel,dE,kI (by decide +kernel),by decide +kernel,by decide +kernel⟩
theorem t1:TkP 0 L3 S1 2 [0]:=⟨wok (by decide +kernel),dE,λ_=>by decide +kernel,by decide +kernel,by decide +kernel,dE,by decide +kernel,dE,kI (by decide +kernel),by decide +kernel,by decide +kernel⟩
theorem t6:TkP 0 L3 S6 5 []:=⟨wok (by decide +kernel),dE,λ_=>by decide +kernel,by decide +kernel,by decide +kernel,dE,by decide +kernel,dE,kI (by decide +kernel),by decide +kernel,by decide +kernel⟩
theorem v2:RvP 3 0 L3 S2 0 (2,1,[0,1]):=⟨by decide +kernel,by decide +kernel,by decide +kernel,dE,by decide +kernel,kI (by decide +kernel)⟩
theorem v3:RvP 3 0 L3 S3 0 (1,1,[1]):=⟨by decide +kernel,by decide +kernel,by decide +kernel,dE,by decide +kernel,kI (by decide +kernel)⟩
theorem v4:RvP 3 0 L3 S4 0 (0,5,[]):=⟨by decide +kernel,by decide +kernel,by decide +kernel,dE,by decide +kernel,kI (by decide +kernel)⟩
theorem v5:RvP 3 0 L3 S5 0 (2,1,[0]):=⟨by decide +kernel,by decide +kernel,by decide +kernel,dE,by decide +kernel,kI (by decide +kernel)⟩
variable{B:Hq}{b:Nat}
structure At(B s:Hq)(p:Nat)(S:Ro)(r:Hq):Prop where
 z:Rt r p S
 k:Sub r s
 o:Sub B (rest s r)
theorem At.up(h:At B s p S r)(k:Sub s s'):At B s' p S r:=⟨h.z,h.k.trans k,h.o.trans (jb k)⟩
theorem mw(k:Sub r s){e:TypeId}{n:Nat}{c:Option Nat}(hb:s b=none)(h:Hc s' b e (l.map (AV.int .i64)))(hn:n=l.length)(hc:∀c',c=some c'->l.length<=c'):LS.Sli (rest s' r) (.slc b 0 n c 1) l:=by subst hn;have:=Sl.mk (s:=rest s' r) (b:=b) (t:=false) (e:=e) (l:=l.map (AV.int .i64)) (AP k hb h) rfl (cap:=c) (by simpa using hc);simpa using this
theorem oz(h:At B s p S r){now:Int}(T:TkP 0 L3 S now l)(hh:LS.Sli (rest s r) hv l)(hw:Wnt (rest s r) w (gD 0 L3 S now l))(hK:∀r' s',At B s' p (iO 0 L3 S now l) r'->K true s'):wC TP 19 [Pp p,now,hv,w] K s:=
 L5 h.k h.z T hh hw λr' s' z k o=>hK r' s' ⟨z,k,h.o.trans o⟩
theorem lO(h:At B s p S r){rc:LS.Rec}(T:RvP 3 0 L3 S 0 rc)(hh:LS.Sli (rest s r) hv rc.2.2)(hw:Wnt (rest s r) w (il 3 0 L3 S 0 rc))(hK:∀r' s',At B s' p (iP 3 0 L3 S rc) r'->K true s'):wC TP 15 [Pp p,LS.recV rc.1 rc.2.1 hv,w] K s:=
 L6 h.k h.z T hh hw λr' s' z k o=>hK r' s' ⟨z,k,h.o.trans o⟩
theorem new1{a:Int}{K:Nat->Hq->Prop}(h:∀b s',s b=none->Hc s' b 3 ([a].map (AV.int .i64))->Upto b s s'->K b s'):oK (aM (repl 1 [(Ii 0)]) [(0,1,a)]) λc=>aX c=true/\newK 3 c K s:=
 aE (a:=[a]) rfl ⟨rfl,aI h⟩
theorem new2{a c:Int}{K:Nat->Hq->Prop}(h:∀b s',s b=none->Hc s' b 3 ([a,c].map (AV.int .i64))->Upto b s s'->K b s'):oK (aM (repl 2 [(Ii 0)]) [(0,1,a),(1,1,c)]) λc=>aX c=true/\newK 3 c K s:=
 aE (a:=[a,c]) rfl ⟨rfl,aI h⟩
theorem newW(h1:v.one=true){a q:Int}{K:Nat->Hq->Prop}(h:∀b s',s b=none->Hc s' b 34 [a,q,v]->Upto b s s'->K b s'):oK (aM (repl 1 [(Ii 0),(Ii 0),.nilslc]) [(0,3,LS.recV a q v)]) λc=>aX c=true/\newK 34 c K s:=
 aE (a:=[a,q,v]) rfl (by simp_all [aI])
theorem wp{s:Hq}:LS.Sli s .nilslc []:=.inl ⟨rfl,rfl⟩
theorem TH(hK:∀p r s',At s s' p S4 r->K (Pp p) s'):wC TP 8 [] K s:=by
 refine qJq (wo λcs s1 k1 hF=>vC (M:=[true,true]) (N:=3) (x:=0) Mg wj Mh hF pln3 oM (λ_=>⟨rfl,Mi⟩) λp r s3 z k3 kr dj=>?_);have a3:At s s3 p S0 r:=⟨z,kr,λi e hi=>by
  have h1:=k1 _ _ hi;have hr:r i=none:=by
   grind
  unfold rest;rw[ak hr];exact k3 _ _ h1⟩
 have x0:∀a b:AV,bV (.tup [a,b]) 0=some a:=λ_ _=>rfl;have x1:∀a b:AV,bV (.tup [a,b]) 1=some b:=λ_ _=>rfl;have e3:negB true (eqV 0 true (Ii 0) (Ii 0))=some false:=rfl;have e4:negB false (eqV 3 true (Pp p) .nilptr)=some false:=rfl;simp only[x0,x1,e3,e4,ae,Fs];refine new1 λb5 s5 hb5 q5 u5=>?_;have a5:=a3.up (u5.sub hb5);refine oz a5 t0 (mw a3.k hb5 q5 rfl sI) (by rw[n0];exact Wnt.nil) λr6 s6 a6=>?_;simp only[cQ,Bool.not_true,ae,Fr,ct,aR];have a6:At s s6 p S1 r6:=a6;refine mh a6.k a6.z (by decide +kernel) λs7 v7 k7 h7=>?_;have a7:=a6.up k7;rw[u1]at h7;have l7:cM v7=some 0:=h7.len;simp only[l7,ae,show negB true (eqV 0 true ((0:Nat):Int) (Ii 0))=some false from rfl,Fq,ct];refine new1 λb8 s8 hb8 q8 u8=>new1 λb9 s9 hb9 q9 u9=>mu rfl λs10 k10=>newW rfl λb11 s11 hb11 q11 u11=>?_;have a8:=a7.up (u8.sub hb8);have a9:=a8.up (u9.sub hb9);have a10:=a9.up k10;have a11:=a10.up (u11.sub hb11);have h8:=mw a7.k hb8 q8 (n:=1) (c:=some 1) rfl sI;have h9:=mw a8.k hb9 q9 (n:=1) (c:=some 1) rfl sI;refine oz a11 t1 (h8.sub (jb (((u9.sub hb9).trans k10).trans (u11.sub hb11)))) (by rw[n1];exact Wnt.one (AP a10.k hb11 q11) ((by grind [jb,Sl.sub,Sub.trans,Upto.sub])) sI) λr12 s12 a12=>?_;have a12:At s s12 p S2 r12:=a12;simp only[cQ,Bool.not_true,ae,Fp,ct,aR];refine Me oM a12.k a12.z λs13 v13 dd k13 hd h13=>?_;have a13:=a12.up k13;have e13:jc 0 dd 3=[]:=by
  rw[u2]at hd;have no:∀n,n<3->n≠0->¬ 0<=dd n:=λn hn h0 h=>by
   have ⟨i,m,c,e,_⟩:=hd.sup n hn h h0;have e:=e.1
   grind
  rw[lL,lL,lL,aj (λh=>h.1 rfl),aj ((by simp_all)),aj ((by simp_all))];rfl
 rw[e13]at h13;have l13:cM v13=some 0:=h13.len;simp only[l13,ae,show negB true (eqV 0 true ((0:Nat):Int) (Ii 0))=some false from rfl,Fo,ct];refine new2 λb14 s14 hb14 q14 u14=>mu rfl λs15 k15=>?_;have h14:=mw a13.k hb14 q14 (n:=2) (c:=some 2) rfl sI;have a15:=(a13.up (u14.sub hb14)).up k15;refine lO a15 v2 (h14.sub (jb k15)) (by rw[n2];exact Wnt.nil) λr16 s16 a16=>?_;have a16:At s s16 p S3 r16:=a16;simp only[cQ,Bool.not_true,ae,Fm,ct,aR];refine new1 λb17 s17 hb17 q17 u17=>mu rfl λs18 k18=>?_;have h17:=mw a16.k hb17 q17 (n:=1) (c:=some 1) rfl sI;have a18:=(a16.up (u17.sub hb17)).up k18;refine lO a18 v3 (h17.sub (jb k18)) (by rw[n3];exact Wnt.nil) λr19 s19 a19=>?_;simp only[cQ,Bool.not_true,ae,Fl,ct,aR,zD];exact hK p r19 s19 a19
variable{d:Nat→Int}
theorem qFI(h:IsDist 3 G3 U3 1 d):d 0=2/\d 1=0/\d 2=1:=by
 have a:=h.fr;have b:=h.clo _ _ _ _ ed31.sym oM;have c:=h.clo _ _ _ _ ed30 oM;have ⟨i,m,k,e,p,q⟩:=h.sup 2 oM b.1 dE;have ⟨i',m',k',e',p',q'⟩:=h.sup 0 oM c.1 dE
 grind [ed3]
theorem lnk1:FB.lnk 3 G3 U3 0 1=[0]:=by
 have ⟨z,hG,hN,hC,hm⟩:=vld3.gok;have ⟨a,b,c⟩:=qFI (tW (N:=3) (G:=G3) (U:=U3) (r:=1) z oM oM);have e0:edL G3 U3 0=[(0,2,1)]:=rfl
 simp_all [FB.lnk,nrL,fS]
theorem nd1:1∈FB.ndL 3 G3 U3 0:=(by grind [FB.jH,lnk1])
abbrev PkA(s:Hq)(p:Nat)(g ttl fr:Int)(R:Hq->AV->Prop):Prop:=∀K':AV->Hq->Prop,(∀s' v,Sub s s'->R s' v->K' v s')->wC TP 23 [Pp p,.agg (pk g ttl),fr] K' s
theorem wq(k:Sub r s)(z:Rt r p S)(hU:S.U=U3){g:Int}(hg:0<=g/\g<4000000000)(h0:g≠lbk 0)(ht:0<=ttl/\ttl<=100)(hc:(ttl<2/\e=20)∨(2<=ttl/\(∀m,m<3->g≠lbk m)/\e=13)):
  PkA s p g ttl (-1) λ_ v=>v=.tup [.nilslc,false,e]:=λK' hK=>by
 refine vG pln3 oM k z pkP rfl ⟨oM,oM⟩ ⟨oM,oM⟩ (.inl rfl) (λh=>absurd h h0) (λ_ s' e' k' _ h=>?_) (λm _ h2 hm hd s' b hop k' _ _ _=>?_) (.inl λj _=>oM)
 ·have:e'=e:=by
   rcases h with⟨a,b⟩|⟨a,b,c⟩<;>rcases hc with⟨x,y⟩|⟨x,_,y⟩
   ·rw[a,y]
   ·omega
   ·omega
   ·rw[a,y]
  rw[this];exact hK s' _ k' rfl
 ·rcases hc with⟨x,y⟩|⟨x,y,_⟩
  ·omega
  ·exact absurd hd (y m (FB.jH.1 hm).1)
theorem Mn(k:Sub r s)(z:Rt r p S)(hU:S.U=U3):PkA s p (lbk 1) 9 (-1) λs' v=>∃v',v=.tup [v',false,Ii 0]/\SlR 22 s' v' [Ii 0::(pk (lbk 1) 9).set 2 (Ii 8)]:=λK' hK=>by
 refine vG pln3 oM k z pkP rfl ⟨oM,oM⟩ dE (.inl rfl) (λh=>absurd h dE) (λ_ s' e' k' _ h=>?_) (λm _ h2 hm hd s' b hop k' _ hh hb=>?_) ((by grind [lbk]))
 ·exfalso
  rcases h with⟨a,b⟩|⟨a,b,c⟩
  ·omega
  ·rw[hU]at c
   exact c 1 nd1 rfl
 ·have:m=1:=by unfold lbk at hd;omega
  subst this;rw[hU,show FB.lnk 3 (tL L3) U3 0 1=[0]from lnk1]at hh;have:hop=0:=bN.1 hh;subst this;exact hK s' _ k' ⟨_,rfl,SlR.mk (rows:=[Ii 0::(pk (lbk 1) 9).set 2 (Ii 8)]) (λr h=>by rw[bN.1 h];rfl) (t:=false) (e:=121) (by rw[hb];simp) rfl sI⟩
theorem Mo(k:Sub r s)(z:Rt r p S):PkA s p (lbk 0) 9 0 λ_ v=>v=.tup [.nilslc,true,Ii 0]:=λK' hK=>by refine vG pln3 oM k z pkP rfl ⟨oM,oM⟩ dE (.inr dE) (λ_ s' k'=>hK s' _ k' rfl) (λh=>absurd rfl h) (λm h=>absurd rfl h) ((by grind [lbk]))
theorem oA(k:Sub r s)(z:Rt r p S)(hU:S.U=U3)(hM:S.M=[true,true]){j:Nat}(hj:j<2)(hf:fr=-1∨fr=0):PkA s p (4009754625+(j:Int)) 9 fr λs' v=>(fr=-1/\∃v',v=.tup [v',false,Ii 0]/\SlR 22 s' v' [Ii 0::(pk (4009754625+(j:Int)) 9).set 2 (Ii 8)])∨(fr=0/\∃v',v=.tup [v',true,Ii 0]/\cM v'=some 0):=λK' hK=>by
 have x0:∀a b c:AV,bV (.tup [a,b,c]) 0=some a:=λ_ _ _=>rfl;have x1:∀a b c:AV,bV (.tup [a,b,c]) 1=some b:=λ_ _ _=>rfl;have x2:∀a b c:AV,bV (.tup [a,b,c]) 2=some c:=λ_ _ _=>rfl;refine vG pln3 oM k z pkP rfl ⟨oM,oM⟩ ⟨oM,oM⟩ (hf.imp id λh=>by rw[h];decide) (λh=>by unfold lbk at h;omega) (λ_ s' e' k' hno h=>?_) (λm _ h2 hm hd=>?_) (.inr ⟨by rw[hM];decide,λj' s1 w lv uv l hj' hd k1 hl hu hm hlen h0=>?_⟩)
 ·grind
 ·grind [FB.jH,lbk]
 ·rw[hU]at hu
  refine L2 hf hl hu hm hlen h0 rfl rfl rfl rfl (λhf v s' k' hv=>?_) λhf v s' k' hv=>?_
  ·simp only[trip,x0,x1,x2,ae]
   grind [Sub.trans]
  ·simp only[trip,x0,x1,x2,ae]
   grind [Sub.trans]
theorem Mp(k:Sub r s)(z:Rt r p S)(hM:S.M=[true,true])(hU:S.U=U3):PkA s p 4009754627 9 (-1) λ_ v=>v=.tup [.nilslc,false,Ii 13]:=λK' hK=>by
 refine vG pln3 oM k z pkP rfl ⟨oM,oM⟩ dE (.inl rfl) (λh=>absurd h dE) (λ_ s' e' k' _ h=>?_) (λm _ h2 hm hd=>?_) (.inr ⟨by rw[hM];decide,λj' s1 w lv uv l hj' hd=>?_⟩)
 ·rcases h with⟨a,b⟩|⟨a,b,c⟩
  ·omega
  ·rw[a];exact hK s' _ k' rfl
 ·have:=(FB.jH.1 hm).1
  unfold lbk at hd;omega
 ·rw[hM]at hj'
  have:j'<2:=hj';omega
theorem wt{g:Int}(h:At B s p S r)(hp:PkA s p g ttl fr λ_ v=>∃v',v=.tup [v',lo,e]/\cM v'=some 0)(hK:∀s',At B s' p S r->K true s'):wC TP 12 [Pp p,Iw g,ttl,fr,false,lo,e] K s:=
 (by grind [L9,At.up])
theorem Mq{g:Int}(h:At B s p S r)(hp:PkA s p g 9 fr λs' v=>∃v',v=.tup [v',false,Ii 0]/\SlR 22 s' v' [Ii 0::(pk g 9).set 2 (Ii 8)])(he:fF TP 121 (.agg (Ii 0::pk g 8)) (.agg (Ii 0::pk g 8))=some true)(hK:∀s',At B s' p S r->K true s'):wC TP 12 [Pp p,Iw g,Ii 9,fr,true,false,Ii 0] K s:=
 (by grind [Ma,At.up])
theorem PkA.nil{g:Int}(h:PkA s p g ttl fr λ_ v=>v=.tup [.nilslc,lo,e]):PkA s p g ttl fr λ_ v=>∃v',v=.tup [v',lo,e]/\cM v'=some 0:=λK' hK=>h K' λs' v k e=>hK s' v k ⟨_,e,rfl⟩
theorem Mr(hK:∀s',Sub s s'->K true s'):wC TP 22 [] K s:=by
 refine qJx (TH λp r s1 a1=>?_);have e4:negB true (eqV 3 true (Pp p) .nilptr)=some true:=rfl;simp only[e4];refine Me oM a1.k a1.z λs2 v2 dd k2 hd h2=>ot (n:=1) oM (aE (a:=[Iw (lbk 1),Ii 2]) rfl (ot (n:=2) oM (aE (a:=[Iw (lbk 2),Ii 1]) rfl (aE (a:=[Iw (lbk 1),Ii 2,Iw (lbk 2),Ii 1]) rfl ⟨rfl,aI λb s3 hb q3 u3=>?_⟩))));have a2:=a1.up k2;have a3:=a2.up (u3.sub hb);rw[u4]at hd;have ⟨d0,d1,d2⟩:=we hd;have er:jc 0 dd 3=[[Iw (lbk 1),Ii 2],[Iw (lbk 2),Ii 1]]:=by rw[lL,lL,lL,aj (λh=>h.1 rfl),ak ⟨oM,oM⟩,ak ⟨oM,oM⟩,d1,d2];rfl
 rw[er]at h2;refine TE (h2.sub (u3.sub hb)) (SlR.mk (n:=2) dE (t:=false) (e:=105) q3 rfl sI) dE (λr hr=>?_) ?_
 ·rcases mCY hr with rfl|hr
  ·kernel_rfl
  ·rcases bN.1 hr with rfl
   kernel_rfl
 simp only[Fx,cy,ae,bD];refine Md a3.k a3.z (by rw[u4];simp) (by rw[u4];decide) λs4 v4 k4 h4=>?_;have a4:=a3.up k4;rw[u4]at h4;refine aE (a:=[true,true]) rfl ⟨rfl,aI λb5 s5 hb5 q5 u5=>L8 (h4.sub (u5.sub hb5)) (Sl.mk q5 rfl sI) dE ?_⟩;have a5:=a4.up (u5.sub hb5);simp only[Fw,cy,ae,bD];refine ot (n:=1) oM (Mq a5 (Mn a5.k a5.z u4) kR λs6 a6=>?_);simp only[Fu,cy,ae,bD];refine ot (n:=0) oM (wt a6 (Mo a6.k a6.z).nil λs7 a7=>?_);simp only[Ft,cy,ae];exact hK s7 λi e hi=>a7.o.trans (λi e h=>by unfold rest at h;split at h;exact h;cases h) i e hi
theorem Mt(cb:Ml):AH:=λK s hK=>by
 refine qGY (TH λp r s1 a1=>?_);have e4:negB false (eqV 3 true (Pp p) .nilptr)=some false:=rfl;simp only[e4,zI];refine Mc a1.k a1.z λs2 v2 k2 h2=>new1 λb3 s3 hb3 q3 u3=>?_;have a3:=(a1.up k2).up (u3.sub hb3);refine LS.G1 (h2.sub (u3.sub hb3)) (l:=[0]) (m:=[0]) (Sl.mk q3 rfl sI) sI ?_;rw[aZ,bD];refine mh a3.k a3.z (by decide +kernel) λs4 x4 k4 h4=>new1 λb5 s5 hb5 q5 u5=>?_;have a5:=(a3.up k4).up (u5.sub hb5);rw[w4]at h4;refine LS.G1 (h4.sub (u5.sub hb5)) (l:=[0]) (m:=[0]) (Sl.mk q5 rfl sI) sI ?_;rw[aZ];simp only[FW,cy,ae,bD];refine ot (n:=8) oM (wt a5 (wq a5.k a5.z u4 dE dE oM (.inr ⟨oM,dE,rfl⟩)).nil λs6 a6=>?_);simp only[FV,cy,ae,bD];refine ot (n:=1) oM (wt a6 (wq a6.k a6.z u4 dE dE oM (.inl ⟨oM,rfl⟩)).nil λs7 a7=>?_);simp only[FU,cy,ae,zH];refine vD (n:=0) oM (Mq a7 (λK' hK'=>oA a7.k a7.z u4 rfl (j:=0) oM (.inl rfl) K' λs' v k h=>?_) kR λs8 a8=>?_)
 ·grind
 simp only[bD];refine vD (n:=0) oM (wt a8 (λK' hK'=>oA a8.k a8.z u4 rfl (j:=0) oM (.inr rfl) K' λs' v k h=>?_) λs9 a9=>?_)
 ·grind
 simp only[FT,cy,ae,bD];refine vD (n:=1) oM (Mq a9 (λK' hK'=>oA a9.k a9.z u4 rfl (j:=1) oM (.inl rfl) K' λs' v k h=>?_) kR λs10 a10=>?_)
 ·grind
 simp only[FQ,cy,ae,bD];refine vD (n:=2) oM (wt a10 (Mp a10.k a10.z rfl u4).nil λs11 a11=>?_);simp only[FO,cy,ae,zG];refine mu rfl λs12 k12=>new1 λb13 s13 hb13 q13 u13=>mu rfl λs14 k14=>newW rfl λb15 s15 hb15 q15 u15=>?_;have a12:=a11.up k12;have a14:=(a12.up (u13.sub hb13)).up k14;have a15:=a14.up (u15.sub hb15);have h13:=mw a12.k hb13 q13 (n:=1) (c:=some 1) rfl sI;refine lO a15 (rc:=(0,5,[])) v4 wp (by rw[n4];exact Wnt.one (AP a14.k hb15 q15) ((by grind [jb,Sl.sub,Sub.trans,Upto.sub])) sI) λr16 s16 a16=>?_;have a16:At s s16 p S5 r16:=a16;simp only[bD];refine new1 λb17 s17 hb17 q17 u17=>mu rfl λs18 k18=>new2 λb19 s19 hb19 q19 u19=>mu rfl λs20 k20=>newW rfl λb21 s21 hb21 q21 u21=>?_;have a17:=a16.up (u17.sub hb17);have a18:=a17.up k18;have a20:=(a18.up (u19.sub hb19)).up k20;have a21:=a20.up (u21.sub hb21);have h17:=mw a16.k hb17 q17 (n:=1) (c:=some 1) rfl sI;have h19:=mw a18.k hb19 q19 (n:=2) (c:=some 2) rfl sI;refine lO a21 (rc:=(2,1,[0])) v5 (h17.sub (jb (((k18.trans (u19.sub hb19)).trans k20).trans (u21.sub hb21)))) (by rw[n5];exact Wnt.one (AP a20.k hb21 q21) ((by grind [jb,Sl.sub,Sub.trans,Upto.sub])) sI) λr22 s22 a22=>?_;have a22:At s s22 p S6 r22:=a22;simp only[FN,cy,ae,zF];have x0:∀a b:AV,bV (.tup [a,b]) 0=some a:=λ_ _=>rfl;have x1:∀a b:AV,bV (.tup [a,b]) 1=some b:=λ_ _=>rfl;refine mu rfl λs23 k23=>Mj (a22.k.trans k23) a22.z rfl dE λs24 k24=>?_;have a24:=(a22.up k23).up k24;simp only[x0,x1,ae];refine new1 λb25 s25 hb25 q25 u25=>?_;have a25:=a24.up (u25.sub hb25);refine TF (h:=0) (e:=20) a25.k a25.z (Sl.mk q25 rfl sI) dE (.inr ⟨dE,by decide +kernel,by decide +kernel,rfl⟩) λs26 k26=>?_;have a26:=a25.up k26;simp only[x0,x1,ae];refine new1 λb27 s27 hb27 q27 u27=>?_;have a27:=a26.up (u27.sub hb27);refine TF (h:=1) (e:=2) a27.k a27.z (Sl.mk q27 rfl sI) dE (.inl ⟨dE,rfl⟩) λs28 k28=>?_;have a28:=a27.up k28;simp only[x0,x1,ae,cj,bJ,aZ,Bool.false_bne,bD,FM,cy,FK];refine oz a28 t6 wp (by rw[n6];exact Wnt.nil) λr29 s29 a29=>?_;have a29:At s s29 p S7 r29:=a29;simp only[FJ,cy,ae,bD];refine mh a29.k a29.z (by decide +kernel) λs30 v30 k30 h30=>?_;have a30:=a29.up k30;rw[w7]at h30;have l30:cM v30=some 0:=h30.len;simp only[l30,ae,show negB false (eqV 0 true ((0:Nat):Int) (Ii 0))=some (.bool true)from rfl,FI,cy,zE];have y0:∀a b c:AV,bV (.tup [a,b,c]) 0=some a:=λ_ _ _=>rfl;refine aE (a:=C0) rfl (Mm cb λs31 k31=>?_);simp only[x0,x1,ae];refine wo λcs s32 k32 hF=>Mk hF λs33 k33=>?_;simp only[x0,x1,ae];refine Mr λs34 k34=>?_;simp only[bD,FH,FF,FE,FD,FC,FA,cy,ae,cj,bJ,aZ,Bool.false_bne];exact hK s34 λi e hi=>k34 _ _ (k33 _ _ (k32 _ _ (k31 _ _ ((a30.o.trans (λi e h=>by unfold rest at h;split at h;exact h;cases h)) i e hi))))
end Go.AM.RT
namespace Go.AM
open Go Go.Proofs List Nat
def sL:Code->Code
 | .seq a _=>a
 |c=>c
def sR:Code->Code
 | .seq _ b=>b
 |c=>c
def cT:Code->Code
 | .cond _ a _=>a
 |c=>c
def bI:Code->Code
 | .block _ b=>b
 | .loop b=>b
 |c=>c
def rO:Code->Array Oper
 | .region _ o _=>o
 |_=>#[]
abbrev flF(e i:Int)(p:ByteArray):AV:=.ifc 235 (.agg [e,.str p,i])
noncomputable abbrev c176:Code:=bH Tryz.f176
theorem Mu{e i:Int}{p:ByteArray}{R:AV->Hq->Prop}{s:Hq}(hR:R (flF e i p) s):iY TP 176 [true,e,.str p,i] R s:=by refine On Tryz.func176 (by kernel_rfl:Tryz.f176.body=some (.seq (sL c176) (.cond (.tmp 8) (.region 1 (rO (cT (sR c176))) false) .skip))) kR ?_;refine DieC.then (λ_=>[]) kR (K:=λenv s'=>s'=s/\env=upd (gZ [true,e,.str p,i]) 8 true) (Eq.mpr (by kernel_rfl:_=(s=s/\upd (gZ [true,e,.str p,i]) 8 true=upd (gZ [true,e,.str p,i]) 8 true)) ⟨rfl,rfl⟩) ?_;rintro env s' ⟨rfl,rfl⟩;refine DieC.cond (b:=true) rfl rfl ?_;rw[ak rfl];refine DieC.last (l:=(rO (cT (sR c176))).toList.dropLast) (o:=⟨none,.panic (.tmp 13),0,"check.go:39",#[⟨4,.data⟩],none⟩) kR rfl kR (K:=λenv s2=>env 13=flF e i p/\s2=s') (Eq.mpr (by kernel_rfl:_=(flF e i p=flF e i p/\s'=s')) ⟨rfl,rfl⟩) ?_;rintro env s ⟨h1,rfl⟩;exact DieO.panic rfl rfl h1 hR
open RT in
theorem Mw{c:Nat}{t:Bool}{R:AV->Hq->Prop}{s:Hq}(hc:s c=some (t,.cells 238 C0))(hR:∀s',Sub s s'->R (flF 2 0 ⟨#[102,97,98,114,105,99]⟩) s'):iY TP 145 [.ptr c 0] R s:=by
 obtain⟨cd,hcd⟩:∃cd,cd=bH Tryz.f145:=⟨_,rfl⟩
 refine On Tryz.func145 (by kernel_rfl:Tryz.f145.body=some (.seq (sL (bH Tryz.f145)) (.seq (.region 1 (rO (sL (sR (bH Tryz.f145)))) false) (sR (sR (bH Tryz.f145)))))) (by kernel_rfl) ?_;obtain⟨K1,hK1⟩:∃K1:Env->Hq->Prop,K1=λenv s'=>∃b,env 2=.ptr b 0/\s' b=some (false,.cells 52 C0)/\Sub s s':=⟨_,rfl⟩
 refine DieC.then (λ_=>[]) (by kernel_rfl) (K:=λenv s'=>∃b,env 2=.ptr b 0/\s' b=some (false,.cells 52 C0)/\Sub s s') (Eq.mpr (by kernel_rfl:_=(oK (eX (.ptr c 0)) λv_0=>oK (fu 0 v_0) λv_1=>oK (rdN s 19 v_1) λv_2=>newK 52 C0 (λb_3 s_4=>oK (dP s_4 19 (.ptr b_3 0) (.agg v_2)) λs_5=>∃b,AV.ptr b_3 0=.ptr b 0/\s_5 b=some (false,.cells 52 C0)/\Sub s s_5) s)) ?_) ?_
 ·simp only[bQ,aK,zAY,ae]
  refine aE (bX (n:=19) hc rfl) (aI λb s1 hb h1 u1=>cD h1 rfl rfl rfl λs2 h2 u2=>⟨b,rfl,h2,λi e hi=>?_⟩);have hne:=dZ hb hi;rw[u2 i hne,u1 i hne];exact hi
 rintro env s1 ⟨b,e2,h1,k1⟩;refine DieC.left (DieC.last (l:=(rO (sL (sR (bH Tryz.f145)))).toList.dropLast) (o:=⟨some 15,.call ⟨.value (.func 176),#[.tmp 14,.const (.int .i64 2),.const (.string ⟨#[102,97,98,114,105,99]⟩),.const (.int .i64 0)],#[4,31,9,3]⟩,0,"check.go:65",#[⟨7,.data⟩,⟨6,.chain⟩],none⟩) (by kernel_rfl) rfl (by kernel_rfl) (K:=λenv s'=>env 14=.bool true/\Sub s s') ?_ ?_)
 ·refine Eq.mpr (by kernel_rfl:_=(oK (fu 0 (env 2)) λv_6=>oK (rd1 s1 v_6) λv_7=>wC TP 177 [v_7,(.int .i64 1),(.int .i64 32)] (λv_8 s_9=>ao v_8 (oK (cW v_8 (.bool true) .undef) λv_10=>v_10=.bool true/\Sub s s_9) (oK (fu 1 (env 2)) λv_37=>oK (rd1 s_9 v_37) λv_38=>wC TP 177 [v_38,(.int .i64 0),(.int .i64 32)] (λv_39 s_40=>oK (cW v_8 (.bool true) v_39) λv_10=>v_10=.bool true/\Sub s s_40) s_9)) s1)) ?_
  rw[e2];have r0:C0[0]?=some (.int .i64 0):=rfl;simp only[aK,zAY,ae,au h1,r0];refine TN.gK ?_;rw[show TN.outB 0 1 32=true from rfl,bD];simp only[cy,ae,true_and];exact k1
 rintro env s2 ⟨e14,k2⟩;refine DieO.call (c:=⟨.value (.func 176),#[.tmp 14,.const (.int .i64 2),.const (.string ⟨#[102,97,98,114,105,99]⟩),.const (.int .i64 0)],#[4,31,9,3]⟩) (f:=.func 176) (k:=176) rfl rfl rfl rfl (by kernel_rfl) ?_;show iY TP 176 [env 14,.int .i64 2,.str ⟨#[102,97,98,114,105,99]⟩,.int .i64 0] _ s2;rw[e14];exact Mu (hR s2 k2)
theorem Mx{b2 b4 b6:Nat}{e i:Int}{p:ByteArray}{Q:Hq->Prop}{s:Hq}{x2 x4 x6:AV}(h2:Hc s b2 31 [x2])(h4:Hc s b4 9 [x4])(h6:Hc s b6 3 [x6])(n24:b2≠b4)(n26:b2≠b6)(n46:b4≠b6)
  (hQ:∀s',Hc s' b2 31 [e]->Hc s' b4 9 [.str p]->Hc s' b6 3 [i]->aV (λj=>j=b2∨j=b4∨j=b6) s s'->Q s'):lc TP 115 [Pp b2,Pp b4,Pp b6] (flF e i p) Q s:=by
 refine Do Pd Tryz.func115 (o:=⟨some 6,.call ⟨.builtin .recover,#[],#[]⟩,20,"tenant.go:15",#[],none⟩) (id:=0) (tm:=6) (rest:=sR (bH Tryz.f115)) kR rfl ⟨rfl,rfl,_,rfl⟩ kR kR kR (Eq.mpr (by kernel_rfl:_=(oK (negB false (eqV 4 true (flF e i p) .nilIface)) λv_0=>
 ao v_0
  (Q s)
  (oK (jW 235 (some (.agg [(Ii 0),(.str ⟨#[]⟩),(Ii 0)])) true (flF e i p)) λv_1=>
   oK (bV v_1 1) λv_2=>
   oK (bV v_1 0) λv_3=>
   ao v_2
    (newK 235 [(Ii 0),(.str ⟨#[]⟩),(Ii 0)] (λb_4 s_5=>
     oK (dP s_5 3 (Pp b_4) v_3) λs_6=>
     ∃h_7:Hq,Sub h_7 s_6/\
     oK (fu 0 (Pp b_4)) λv_8=>
     oK (rd1 h_7 v_8) λv_9=>
     oK (fu 1 (Pp b_4)) λv_10=>
     oK (rd1 h_7 v_10) λv_11=>
     oK (fu 2 (Pp b_4)) λv_12=>
     oK (rd1 h_7 v_12) λv_13=>
     oK (wr1 (lock s_6 h_7) (Pp b2) v_9) λs_14=>
     oK (wr1 s_14 (Pp b4) v_11) λs_15=>
     oK (wr1 (add h_7 s_15) (Pp b6) v_13) λs_16=>
     Q s_16) s)
    (oK (wr1 s (Pp b2) (Ii 3)) λs_17=>
     oK (wr1 s_17 (Pp b4) (.str ⟨#[102,97,98,114,105,99]⟩)) λs_18=>
     oK (wr1 s_18 (Pp b6) (Ii 0)) λs_19=>
     Q s_19)))) ?_)
 have ev:eqV 4 true (flF e i p) .nilIface=some false:=rfl;have ta:jW 235 (some (.agg [(Ii 0),(.str ⟨#[]⟩),(Ii 0)])) true (flF e i p)=some (.tup [.agg [e,.str p,i],true]):=kR;have x0:∀a b:AV,bV (.tup [a,b]) 0=some a:=λ_ _=>rfl;have x1:∀a b:AV,bV (.tup [a,b]) 1=some b:=λ_ _=>rfl;simp only[ev,bJ,Bool.false_bne,ae,aR,ta,x0,x1,bD];refine aI λb s1 hb q1 u1=>cD q1 rfl rfl rfl λs2 q2 u2=>?_;have kb:∀j,j≠b->s2 j=s j:=λj hj=>by rw[u2 j hj,u1 j hj]
 have m2:b2≠b:=λe=>gR;have m4:b4≠b:=λe=>gR;have m6:b6≠b:=λe=>gR;obtain⟨H,hH⟩:∃H:Hq,H=RT.one b (false,.cells 235 [e,.str p,i]):=⟨_,rfl⟩
 have Hb:Hc H b 235 [e,.str p,i]:=by rw[hH];exact RT.bW
 have Hn:∀j,j≠b->H j=none:=λj hj=>by rw[hH];exact aj hj
 refine⟨H,λj e hj=>?_,?_⟩
 ·grind
 simp only[aK,zAY,ae,au Hb,g0Y,g1Y];have lk:∀j,j≠b->lock s2 H j=s2 j:=(by grind [lock])
 refine cw (l:=[x2]) (by rw[lk _ m2,kb _ m2];exact h2) sI rfl λs3 q3 u3=>?_;refine cw (l:=[x4]) (by rw[u3 _ (Ne.symm n24),lk _ m4,kb _ m4];exact h4) sI rfl λs4 q4 u4=>?_;have ad:∀j,j≠b->add H s4 j=s4 j:=λj hj=>cC (Hn j hj);refine cw (l:=[x6]) (by rw[ad _ m6,u4 _ (Ne.symm n46),u3 _ (Ne.symm n26),lk _ m6,kb _ m6];exact h6) sI rfl λs5 q5 u5=>?_;refine hQ s5 ?_ ?_ q5 λj e hj hn=>?_
 ·rw[u5 _ n26,ad _ m2,u4 _ n24];exact q3
 ·rw[u5 _ n46,ad _ m4];exact q4
 ·have mj:j≠b:=λq=>gR
  rw[u5 j (λq=>hn (.inr (.inr q))),ad j mj,u4 j (λq=>hn (.inr (.inl q))),u3 j (λq=>hn (.inl q)),lk j mj,kb j mj];exact hj
set_option maxRecDepth 100000
end Go.AM
namespace Go.AM.RT
open Go Go.Proofs Go.AM List Nat
noncomputable abbrev c61:Code:=bH Tryz.f61
noncomputable abbrev i61:Code:=sL (sR (sR (sR c61)))
noncomputable abbrev l61:Code:=bI (bI (sR i61))
structure Ck(s:Hq)(env:Env)(s':Hq)(b0 b2 b4 b6:Nat):Prop where
 e1:env 1=Pp b0
 e2:env 2=Pp b2
 e3:env 3=Pp b4
 e4:env 4=Pp b6
 e8:env 8=.fn (.func 115) [] [Pp b2,Pp b4,Pp b6]
 h0:Hc s' b0 52 C0
 h2:Hc s' b2 31 [Ii 0]
 h4:Hc s' b4 9 [.str ⟨#[]⟩]
 h6:Hc s' b6 3 [Ii 0]
 k:Sub s s'
 n:(s b2=none/\s b4=none/\s b6=none)/\b2≠b4/\b2≠b6/\b4≠b6
theorem Ck.up{s s' s2:Hq}{env env2:Env}{b0 b2 b4 b6:Nat}(z:Ck s env s' b0 b2 b4 b6)(k:Sub s' s2)(e:env2 1=env 1/\env2 2=env 2/\env2 3=env 3/\env2 4=env 4/\env2 8=env 8):Ck s env2 s2 b0 b2 b4 b6:=
 ⟨e.1.trans z.e1,e.2.1.trans z.e2,e.2.2.1.trans z.e3,e.2.2.2.1.trans z.e4,e.2.2.2.2.trans z.e8,k _ _ z.h0,k _ _ z.h2,k _ _ z.h4,k _ _ z.h6,z.k.trans k,z.n⟩
abbrev kL(a b:Env):Prop:=a 1=b 1/\a 2=b 2/\a 3=b 3/\a 4=b 4/\a 8=b 8
theorem My:Ml:=λK s hK=>by
 refine UF (λ_=>[]) (id:=1) (r0:=sL c61) (rest:=sR (sR c61)) (ops:=rO (sL (sR c61))) (l:=(rO (sL (sR c61))).toList.dropLast) (c:=⟨.value (.tmp 8),#[],#[]⟩) (fo:=.tmp 8) Tryz.func61 kR kR kR kR rfl kR (K0:=λenv s'=>∃b0 b2 b4 b6,Ck s env s' b0 b2 b4 b6) ?_ ?_
 ·refine Eq.mpr (by kernel_rfl:_=boxK 52 (.agg C0) (λb_0 s_1=>newK 31 [(Ii 0)] (λb_2 s_3=>newK 9 [.str ⟨#[]⟩] (λb_4 s_5=>newK 3 [Ii 0] (λb_6 s_7=>nk TP (.fn (.func 115) [] [Pp b_2,Pp b_4,Pp b_6])/\∃b0 b2 b4 b6,Ck s (upd (upd (upd (upd (upd (gZ [.agg C0]) 1 b_0) 2 (Pp b_2)) 3 (Pp b_4)) 4 (Pp b_6)) 8 (.fn (.func 115) [] [Pp b_2,Pp b_4,Pp b_6])) s_7 b0 b2 b4 b6) s_5) s_3) s_1) s) ?_
  refine⟨rfl,aI λb0 s1 hb0 q0 u0=>aI λb2 s3 hb2 q2 u2=>aI λb4 s5 hb4 q4 u4=>aI λb6 s7 hb6 q6 u6=>⟨by show isFn TP 115=true;kernel_rfl,b0,b2,b4,b6,?_⟩⟩;have k1:=u0.sub hb0;have k3:=u2.sub hb2;have k5:=u4.sub hb4;have k7:=u6.sub hb6;exact⟨rfl,rfl,rfl,rfl,rfl,k7 _ _ (k5 _ _ (k3 _ _ q0)),k7 _ _ (k5 _ _ q2),k7 _ _ q4,q6,((k1.trans k3).trans k5).trans k7,⟨dU k1 hb2,dU (k1.trans k3) hb4,dU ((k1.trans k3).trans k5) hb6⟩,(λe=>gR),(λe=>by have:=k5 _ _ q2;grind),λe=>gR⟩
 rintro env s1 ⟨b0,b2,b4,b6,z⟩;have fin:∀(env':Env) (s':Hq),Ck s env' s' b0 b2 b4 b6->recK TP (evD env (.tmp 8)) (flF 2 0 ⟨#[102,97,98,114,105,99]⟩) (λs=>resK TP Tryz.f61.results.toList env' (λvs=>K (oneV vs) s) s) s':=λenv' s' z'=>by
  show recK TP (env 8) _ _ s';rw[z.e8];show lc TP 115 [Pp b2,Pp b4,Pp b6] _ _ s';have ⟨⟨n2,n4,n6⟩,m1,m2,m3⟩:=z'.n;refine Mx z'.h2 z'.h4 z'.h6 m1 m2 m3 λs4 q2 q4 q6 kp=>?_;refine Eq.mpr (by kernel_rfl:_=(oK (rd1 s4 (env' 2)) λa=>oK (rd1 s4 (env' 3)) λb=>oK (rd1 s4 (env' 4)) λc=>K (.tup [a,b,c]) s4)) ?_;rw[z'.e2,z'.e3,z'.e4];simp only[au q2,au q4,au q6,g0Y,ae];refine hK s4 2 _ 0 (λj e hj=>kp j e (z'.k _ _ hj) λq=>?_) oM
  grind
 obtain⟨R,hR⟩:∃R:AV->Env->Hq->Prop,R=λv env' s'=>recK TP (evD env (.tmp 8)) v (λs=>resK TP Tryz.f61.results.toList env' (λvs=>K (oneV vs) s) s) s':=⟨_,rfl⟩
 rw[<- hR];have fin:∀(env':Env) (s':Hq),Ck s env' s' b0 b2 b4 b6->R (flF 2 0 ⟨#[102,97,98,114,105,99]⟩) env' s':=by rw[hR];exact fin
 rw[show sR (sR c61)=.seq (sL (sR (sR c61))) (.seq (.seq (sL i61) (.block 0 (.loop (.seq (sL l61) (.seq (sL (sR l61)) (.seq (.block 1 (.seq (sL (bI (sL (sR (sR l61))))) (.region 6 (rO (sR (bI (sL (sR (sR l61)))))) false))) (sR (sR (sR l61))))))))) (sR (sR (sR (sR c61)))))from by kernel_rfl];refine DieC.then (λ_=>[]) kR (K:=λenv' s'=>∃b,env' 5=Pp b/\Hc s' b 238 C0/\Sub s1 s'/\kL env' env) (Eq.mpr (by kernel_rfl:_=(oK (rdN s1 19 (env 1)) λv_8=>oK (aM C0 [(0,19,.agg v_8)]) λc_9=>boxK 238 (.agg c_9) (λb_10 s_11=>∃b,b_10=Pp b/\Hc s_11 b 238 C0/\Sub s1 s_11/\kL env env) s1)) ?_) ?_
 ·rw[z.e1]
  exact aE (bX (n:=19) z.h0 rfl) (aE (a:=C0) rfl ⟨rfl,aI λb s2 hb q u=>⟨b,rfl,q,u.sub hb,rfl,rfl,rfl,rfl,rfl⟩⟩)
 rintro env2 s2 ⟨c,f5,hc,k2,se2⟩;have z2:=z.up k2 se2;refine DieC.left (DieC.then (λ_=>[]) kR (K:=λenv' s'=>∃b,env' 12=.slc b 0 8 (some 8) 1/\Hc s' b 241 TN.chk/\env' 13=Ii 8/\env' 14=Ii 0/\env' 5=env2 5/\Sub s2 s'/\kL env' env2) (Eq.mpr (by kernel_rfl:_=wC TP 116 [] (λv_12 s_13=>oK (cM v_12) λv_14=>∃b,v_12=.slc b 0 8 (some 8) 1/\Hc s_13 b 241 TN.chk/\AV.int .i64 v_14=Ii 8/\AV.int .i64 0=Ii 0/\env2 5=env2 5/\Sub s2 s_13/\kL env2 env2) s2) ?_) ?_)
 ·exact TN.S8 λb s3 hb q k=>⟨b,rfl,q,rfl,rfl,rfl,k,rfl,rfl,rfl,rfl,rfl⟩
 rintro env3 s3 ⟨b12,f12,h12,f13,f14,f5',k3,se3⟩;have z3:=z2.up k3 se3;refine DieC.block (DieC.loop (DieC.then (λ_=>[]) kR (K:=λenv' s'=>s'=s3/\env' 15=true/\env' 5=env3 5/\env' 12=env3 12/\env' 14=env3 14/\kL env' env3) (Eq.mpr (by kernel_rfl:_=(oK (cZ .lss (env3 14) (env3 13)) λv=>s3=s3/\v=true/\env3 5=env3 5/\env3 12=env3 12/\env3 14=env3 14/\kL env3 env3)) ?_) ?_))
 ·rw[f13,f14]
  exact aE (a:=true) rfl gR
 rintro env4 s4 ⟨rfl,f15,f5'',f12',f14',se4⟩;refine DieC.then (λ_=>[]) kR (K:=λenv' s'=>env'=env4/\s'=s4) (Eq.mpr (by kernel_rfl:_=ao (env4 15) (env4=env4/\s4=s4) False) ?_) ?_
 ·simp_all
 rintro env5 s5 ⟨rfl,rfl⟩;refine DieC.left (DieC.block (DieC.then (λ_=>[]) kR (K:=λenv' s'=>env' 7=.fn (.func 145) [] []/\env' 5=env5 5/\s'=s5/\kL env' env5) (Eq.mpr (by kernel_rfl:_=(oK (cF 1 (env5 12) (env5 14)) λv_17=>oK (rd1 s5 v_17) λv_18=>v_18=.fn (.func 145) [] []/\env5 5=env5 5/\s5=s5/\kL env5 env5)) ?_) ?_))
 ·rw[f12',f14',f12,f14,show cF 1 (.slc b12 0 8 (some 8) 1) (Ii 0)=some (.ptr b12 0)from rfl]
  simp only[ae,au h12];refine aE (a:=.fn (.func 145) [] []) rfl ⟨rfl,?_,?_,?_⟩<;>first|trivial|exact⟨rfl,rfl,rfl,rfl,rfl⟩
 rintro env6 s6 ⟨f7,g5,rfl,se6⟩;refine DieC.last (l:=(rO (sR (bI (sL (sR (sR l61)))))).toList.dropLast) (o:=⟨some 20,.call ⟨.value (.tmp 18),#[.tmp 19],#[236]⟩,0,"tenant.go:25",#[⟨0,.data⟩,⟨1,.data⟩],none⟩) kR rfl kR (K:=λenv' s'=>env' 18=env6 7/\env' 19=env6 5/\s'=s6/\kL env' env6) (Eq.mpr (by kernel_rfl:_=(env6 7=env6 7/\env6 5=env6 5/\s6=s6/\kL env6 env6)) gR) ?_;rintro env7 s7 ⟨f18,f19,rfl,se7⟩;refine DieO.call (c:=⟨.value (.tmp 18),#[.tmp 19],#[236]⟩) (f:=.tmp 18) (k:=145) rfl rfl rfl (f18.trans f7) kR ?_;show iY TP 145 [env7 19] _ s7;rw[f19,g5,f5'',f5',f5];refine Mw (k3 _ _ hc) (by grind [Ck.up])
theorem known_ok:AH:=Mt My
set_option maxRecDepth 100000
variable{L:List LS.Lnk}{N x y n v:Nat}{B dl:Int}{F:List (Int × LS.Rec)}{q o r:LS.Rec}{m:Msg}
theorem pQ{j:Nat}:valF L (stor F (j:Int) r) v=if v=j then rk L r else valF L F v:=by grind [valF,jE]
theorem wu(h:look F (v:Int)=some r):valF L F v=rk L r:=by unfold valF;rw[h]
theorem Mz:∀{l m:List Int},LS.cmpL l m=0->l=m
 |[],[],_=>rfl
 |[],_::_,h=>by cases h
 |_::_,[],h=>by cases h
 | x::l,y::m,h=>by
   rw[LS.pG]at h;split at h
   ·cases h
   split at h
   ·cases h
   rw[Mz h,show x=y by omega]
theorem MA(hq:GoodR N L B q)(ho:GoodR N L B o)(e:q.1=o.1)(hd:∀v,(ownI L v).length<=4)(h:rk L q=rk L o):q=o:=by
 rcases LS.zY (p:=q.2.1) (q:=o.2.1) (l:=q.2.2) (m:=o.2.2)with c|c|c
 ·have c':LS.cmpR o.2.1 q.2.1 o.2.2 q.2.2=1:=by
   have:=LS.An (l:=q.2.2) (m:=o.2.2)
   grind [LS.cmpR]
  have:=jQ hq e.symm (hd _) c' ho.q.1;omega
 ·have:q.2.1=o.2.1/\LS.cmpL q.2.2 o.2.2=0:=by grind [LS.cmpR]
  have:=Mz this.2
  grind
 ·have:=jQ ho e (hd _) c hq.q.1
  omega
inductive RcvK (L:List LS.Lnk) (x:Nat) (F:List (Int×LS.Rec)) (q:LS.Rec) (F':List (Int×LS.Rec)) (code:Int):Prop where
 |old:F'=F->(code=0∨code=2)->(look F q.1=none->q.1=x)->(look F q.1≠none->rk L q<=valF L F q.1.toNat)->RcvK L x F q F' code
 |new:F'=stor F q.1 q->code=1->q.1≠x->valF L F q.1.toNat<rk L q->RcvK L x F q F' code
 |mine (o:LS.Rec):F'=stor F (x:Int) ((x:Int),q.2.1+1,o.2.2)->code=3->q.1=x->look F (x:Int)=some o->valF L F x<rk L q->rk L q<rk L ((x:Int),q.2.1+1,o.2.2)->RcvK L x F q F' code
theorem MB(hF:eO N L (B+1) F)(hq:GoodR N L B q)(hx:x<N)(hd4:∀v,(ownI L v).length<=4)(hL:L.length<=64)(hB:0<=B/\B<1073741824):
  RcvK L x F q (LS.eI (N:Int) (x:Int) dl F q).F (LS.eI (N:Int) (x:Int) dl F q).code:=by
 have hs:=hq.q;have hn:=hq.n;have eN:((q.1.toNat:Nat):Int)=q.1:=oM;unfold LS.eI;rw[aj (by rw[hq.chk hL oM];simp)];cases ho:look F q.1 with
 | none=>
   simp only[];split
   ·exact .old rfl (.inl rfl) (λ_=>by assumption) (λh=>absurd ho h)
   ·refine .new rfl rfl (by assumption) ?_
    have:valF L F q.1.toNat=0:=by unfold valF;rw[eN,ho]
    rw[this];unfold rk;omega
 | some o=>
   have ⟨e1,e2⟩:=hF.g _ _ ho;have hv:valF L F q.1.toNat=rk L o:=by unfold valF;rw[eN,ho]
   simp only[];split
   ·rename_i c
    refine .old rfl (.inr rfl) (λh=>by rw[ho]at h;cases h) λ_=>?_;have c':LS.cmpR o.2.1 q.2.1 o.2.2 q.2.2=1:=by
     have:=LS.An (l:=q.2.2) (m:=o.2.2)
     grind [LS.cmpR]
    have:=jQ (N:=N) (B:=B) hq e1 (hd4 _) c' e2.q.1;omega
   split
   ·rename_i h2
    have hlt:=jQ e2 e1.symm (hd4 _) h2 hs.1;split
    ·rename_i e
     rw[aj oM];rw[e]at ho hv;refine .mine o rfl rfl e ho (by rw[Int.toNat_natCast]at hv;omega) ?_;have hb:below (ownI L q.1) q.2.2<=16:=Nat.le_trans Ly (by have:2^(ownI L q.1).length<=2^4:=Nat.pow_le_pow_right oM (hd4 _);omega)
     unfold rk;simp only[];omega
    ·exact .new rfl rfl (by assumption) oM
   ·rename_i c1 c2
    refine .old rfl (.inl rfl) (λh=>by rw[ho]at h;cases h) λ_=>?_;have c:LS.cmpR q.2.1 o.2.1 q.2.2 o.2.2=0:=by
     rcases LS.zY (p:=q.2.1) (q:=o.2.1) (l:=q.2.2) (m:=o.2.2)with c|c|c
     ·exact absurd c c1
     ·exact c
     ·exact absurd c c2
    have:q.2.1=o.2.1/\LS.cmpL q.2.2 o.2.2=0:=by grind [LS.cmpR]
    have:=Mz this.2;have:q=o:=gR;rw[hv,this];exact Nat.le_refl _
variable{i:Nat}{lk k de now:Int}{T:Pst}{P:Msg→Prop}
structure CvL(N:Nat)(L:List LS.Lnk):Prop where
 l:Lks N L
 ne:∀y∈L,y.1≠y.2.1
 d4:∀v,(ownI L v).length<=4
abbrev gv(L:List LS.Lnk)(T:Pst)(x v:Nat):Nat:=valF L (T.R x).F v
structure Ad(L:List LS.Lnk)(lu nu:Nat->Bool)(i x y:Nat):Prop where
 ox:i∈ownL L x
 oy:i∈ownL L y
 fx:far L x i=y
 fy:far L y i=x
 ne:x≠y
 nx:nu x=true
 ny:nu y=true
 up:TG.upI L lu nu (i:Int)=true
theorem Ad.sym{lu nu:Nat->Bool}(h:Ad L lu nu i x y):Ad L lu nu i y x:=⟨h.oy,h.ox,h.fy,h.fx,h.ne.symm,h.ny,h.nx,h.up⟩
theorem ww(hc:CvL N L)(ho:i∈ownL L x):far L x i<N/\i∈ownL L (far L x i)/\far L (far L x i) i=x/\x≠far L x i/\(∀lu nu,TG.upI L lu nu (i:Int)=true->nu x=true/\nu (far L x i)=true):=by
 have h:=oT (jm.1 ho);have hi:i<L.length:=by have:=h.2.1;omega
 have hyg:L.getD i (0,0,0)=L[i]:=gR;have ⟨e1,e2⟩:=hc.l.e _ (aN hi);have e3:=hc.ne _ (aN hi);have hor:=h.2.2;rw[Int.toNat_natCast,hyg]at hor;have hf:((far L x i:Nat):Int)=L[i].1+L[i].2.1-(x:Int):=by unfold far;rw[hyg];omega
 have ho2:i∈ownL L (far L x i):=by refine jm.2 (aH ⟨oM,oM,?_⟩);rw[Int.toNat_natCast,hyg];omega
 refine⟨oM,ho2,?_,oM,λlu nu hu=>?_⟩
 ·have:((far L (far L x i) i:Nat):Int)=L[i].1+L[i].2.1-((far L x i:Nat):Int):=by
   conv=>lhs;unfold far
   rw[hyg];omega
  omega
 ·have:TG.upB L lu nu i=true:=by
   unfold TG.upI at hu;rw[Bool.and_eq_true,Int.toNat_natCast]at hu;exact hu.2
  rw[TG.upB_get hi]at this;simp only[Bool.and_eq_true]at this;have ⟨_,a,b⟩:=this;rcases hor with e|e
  ·have:L[i].2.1.toNat=far L x i:=oM
   have:L[i].1.toNat=x:=oM
   grind
  ·have:L[i].1.toNat=far L x i:=oM
   have:L[i].2.1.toNat=x:=oM
   grind
theorem jT(hc:CvL N L){lu nu:Nat->Bool}(ho:i∈ownL L x)(hu:TG.upI L lu nu (i:Int)=true):Ad L lu nu i x (far L x i):=by have ⟨a,b,c,d,e⟩:=ww hc ho;exact⟨ho,b,rfl,c,d,(e _ _ hu).1,(e _ _ hu).2,hu⟩
def WOk(N:Nat)(L:List LS.Lnk)(T:Pst):Prop:=∀x,x<N->T.nu x=true->∀n∈ownL L x,((T.R x).W n).up=TG.upI L T.lu T.nu (n:Int)
def jr(N:Nat)(L:List LS.Lnk)(T:Pst):Prop:=∀x,x<N->T.nu x=true->∃s,look (T.R x).F (x:Int)=some ((x:Int),s,dK L T.lu T.nu x)
def Src(L:List LS.Lnk)(T:Pst)(P:Msg->Prop):Prop:=∀m,P m∨m∈T.way->rk L m.2.2<=gv L T (far L m.1 m.2.1) m.2.2.1.toNat
def IA(N:Nat)(L:List LS.Lnk)(T:Pst)(P:Msg->Prop):Prop:=∀i x y v,x<N->v<N->Ad L T.lu T.nu i x y->gv L T x v<=gv L T y v∨∃m,(P m∨m∈T.way)/\m.1=y/\m.2.1=i/\m.2.2.1=(v:Int)/\gv L T x v<=rk L m.2.2
structure RcvT(N:Nat)(L:List LS.Lnk)(T:Pst)(m:Msg)(T':Pst):Prop where
 o:∀j,j≠m.1->T'.R j=T.R j
 w:∀j,(T'.R j).W=(T.R j).W
 lu:T'.lu=T.lu
 nu:T'.nu=T.nu
 now:T'.now=T.now
 way:∀y∈T.way,y∈T'.way
 k:∃code,RcvK L m.1 (T.R m.1).F m.2.2 (T'.R m.1).F code/\(∀y∈T'.way,y∈T.way∨∃n,n∈ownL L m.1/\y=(far L m.1 n,(n,y.2.2))/\look (T'.R m.1).F y.2.2.1=some y.2.2)/\
  (∀n∈ownL L m.1,((T.R m.1).W n).up=true->(code=1->n≠m.2.1->(far L m.1 n,(n,m.2.2))∈T'.way)/\(code=3->∃r,look (T'.R m.1).F m.2.2.1=some r/\(far L m.1 n,(n,r))∈T'.way))
theorem wx{own:List Nat}{up:Nat->Bool}{ch:Nat->List LS.Rec}{y:Ntc}:y∈ntsL own up ch↔y.1∈own/\up y.1=true/\y.2∈ch y.1:=by
 unfold ntsL;rw[mem_flatMap];constructor
 ·rintro ⟨n,hn,h⟩
  split at h
  ·obtain⟨r,hr,rfl⟩:=aG.1 h
   exact⟨hn,by assumption,hr⟩
  ·cases h
 ·rintro ⟨a,b,c⟩
  exact⟨y.1,a,by rw[ak b];exact aG.2 ⟨y.2,c,rfl⟩⟩
theorem TI{ns:List Ntc}{y:Msg}:y∈msgs L n ns↔y.2∈ns/\y.1=far L n y.2.1:=by
 unfold msgs;rw[aG];constructor
 ·rintro ⟨x,h,rfl⟩;exact⟨h,rfl⟩
 ·rintro ⟨a,b⟩;exact⟨y.2,a,by rw[<- b]⟩
theorem MC(hc:CvL N L)(b:Bnd B k de)(hg:∀n,n<N->RoG N n L de (B+1) k (T.R n))(hm:MsgG N L B m)(hu:TG.upI L T.lu T.nu (m.2.1:Int)=true):RcvT N L T m (rcv N L T m):=by
 have hB:=b.B;have hk:=MB (dl:=(T.R m.1).dl) (hg _ hm.n).F hm.r hm.n hc.d4 hc.l.l ⟨hB.1,oM⟩;have e:rcv N L T m={ T with R:=updR T.R m.1 (iP N m.1 L (T.R m.1) m.2.2),way:=T.way++msgs L m.1 (il N m.1 L (T.R m.1) (m.2.1:Int) m.2.2) }:=by unfold rcv;rw[ak hu]
 have hgf:eO N L (B+1) (eF N m.1 (T.R m.1) m.2.2).F:=(Tm (lk:=(m.2.1:Int)) (hg _ hm.n) hm.n hc.l.l hB b.de.1 hm.r hm.o).2.1.F;have hR:((rcv N L T m).R m.1)=iP N m.1 L (T.R m.1) m.2.2:=by rw[e];exact ak rfl
 have hF:((rcv N L T m).R m.1).F=(eF N m.1 (T.R m.1) m.2.2).F:=by rw[hR];rfl
 have hold:∀{c:Int},(eF N m.1 (T.R m.1) m.2.2).code=c->c=2∨c=3->look (eF N m.1 (T.R m.1) m.2.2).F m.2.2.1=some (LS.gotR (eF N m.1 (T.R m.1) m.2.2).F m.2.2.1):=λh h'=>Jq oM;have hw:∀y,y∈(rcv N L T m).way↔y∈T.way∨(y.2.1∈ownL L m.1/\((T.R m.1).W y.2.1).up=true/\y.2.2∈chR (eF N m.1 (T.R m.1) m.2.2).code m.2.1 m.2.2 (LS.gotR (eF N m.1 (T.R m.1) m.2.2).F m.2.2.1) y.2.1/\y.1=far L m.1 y.2.1):=λy=>by rw[e];show y∈T.way++msgs L m.1 (ntsL _ _ _)↔_;rw[mem_append,TI,wx];simp only[and_assoc]
 refine⟨λj hj=>by rw[e];exact aj hj,λj=>?_,by rw[e],by rw[e],by rw[e],λy hy=>(hw y).2 (.inl hy),_,hF ▸ hk,λy hy=>?_,λn hn hup=>⟨λh1 hne=>?_,λh3=>?_⟩⟩
 ·rw[e]
  show(updR T.R m.1 _ j).W=_;unfold updR;split
  ·rename_i h;rw[h];rfl
  ·rfl
 ·rcases(hw y).1 hy with h|⟨h1,h2,h3,h4⟩
  ·exact .inl h
  refine .inr ⟨y.2.1,h1,by rw[<- h4],?_⟩;rw[hF];unfold chR at h3;split at h3
  ·rename_i hcd
   have e2:y.2.2=m.2.2:=by simpa using h3
   rw[e2];have hk':RcvK L m.1 (T.R m.1).F m.2.2 (eF N m.1 (T.R m.1) m.2.2).F (eF N m.1 (T.R m.1) m.2.2).code:=hk;cases hk' with
   |old _ h=>omega
   |new h=>rw[h,jE];simp
   |mine _ _ h=>omega
  split at h3
  ·rename_i hcd
   have e2:y.2.2=LS.gotR (eF N m.1 (T.R m.1) m.2.2).F m.2.2.1:=by simpa using h3
   have h5:=hold rfl oM;rw[e2,(hgf.g _ _ h5).1];exact h5
  ·cases h3
 ·refine(hw _).2 (.inr ⟨hn,hup,?_,rfl⟩)
  have h1:(eF N m.1 (T.R m.1) m.2.2).code=1:=h1;unfold chR;rw[ak ⟨h1,λq=>hne (Int.ofNat_inj.1 q)⟩];simp
 ·have h3:(eF N m.1 (T.R m.1) m.2.2).code=3:=h3
  refine⟨_,by rw[hF];exact hold h3 (.inr rfl),(hw _).2 (.inr ⟨hn,hup,?_,rfl⟩)⟩;unfold chR;rw[aj oM,ak (.inl h3)];simp
structure RcvV(N:Nat)(L:List LS.Lnk)(T:Pst)(m:Msg)(T':Pst):Prop where
 o:∀(x v:Nat),(x≠m.1∨(v:Int)≠m.2.2.1)->gv L T' x v=gv L T x v
 c:gv L T' m.1 m.2.2.1.toNat=gv L T m.1 m.2.2.1.toNat∨(gv L T' m.1 m.2.2.1.toNat=rk L m.2.2/\m.2.2.1≠m.1/\gv L T m.1 m.2.2.1.toNat<rk L m.2.2/\∀n∈ownL L m.1,((T.R m.1).W n).up=true->n≠m.2.1->(far L m.1 n,(n,m.2.2))∈T'.way)∨
  (m.2.2.1=m.1/\gv L T m.1 m.1<rk L m.2.2/\rk L m.2.2<gv L T' m.1 m.1/\∀n∈ownL L m.1,((T.R m.1).W n).up=true->∃r,r.1=(m.1:Int)/\rk L r=gv L T' m.1 m.1/\(far L m.1 n,(n,r))∈T'.way)
 s:∀y∈T'.way,y∈T.way∨∃n,n∈ownL L m.1/\y=(far L m.1 n,(n,y.2.2))/\rk L y.2.2=gv L T' m.1 y.2.2.1.toNat
 g:jr N L T->m.1<N->T.nu m.1=true->rk L m.2.2<=gv L T' m.1 m.2.2.1.toNat
 own:jr N L T->jr N L T'
 keep:rk L m.2.2<=gv L T m.1 m.1->look (T'.R m.1).F (m.1:Int)=look (T.R m.1).F (m.1:Int)
theorem MD{T':Pst}(hm:MsgG N L B m)(hG:∀v r,look (T'.R m.1).F v=some r->r.1=v/\0<=v)(h:RcvT N L T m T'):RcvV N L T m T':=by
 have ⟨code,hk,h1,h2⟩:=h.k;have hn:=hm.r.n;have eN:((m.2.2.1.toNat:Nat):Int)=m.2.2.1:=oM;have sv:∀{v:Int}{r:LS.Rec},look (T'.R m.1).F v=some r->rk L r=gv L T' m.1 v.toNat:=fun {v r} hl=>by have:=(hG _ _ hl).2;exact(wu (by rw[show((v.toNat:Nat):Int)=v by omega];exact hl)).symm
 refine⟨λx v hx=>?_,?_,λy hy=>?_,λho hz hnu=>?_,λho x hx hnu=>?_,λhle=>?_⟩
 ·by_cases e:x=m.1
  ·have hv:(v:Int)≠m.2.2.1:=by
    rcases hx with hx|hx
    ·exact absurd e hx
    ·exact hx
   rw[e];cases hk with
   |old h=>unfold gv;rw[h]
   |new h=>unfold gv;rw[h,<- eN,pQ,aj oM]
   |mine o h _ h3=>unfold gv;rw[h,pQ,aj oM]
  ·unfold gv;rw[h.o x e]
 ·cases hk with
  |old h=>exact .inl (by unfold gv;rw[h])
  | new h hcd hne hlt=>
    refine .inr (.inl ⟨?_,hne,hlt,λn hn hup hni=>(h2 n hn hup).1 hcd hni⟩);unfold gv;rw[h]
    conv=>lhs;arg 2;rw[<- eN]
    rw[pQ,ak rfl]
  | mine o h hcd he ho hlt hlt2=>
    have e2:gv L T' m.1 m.1=rk L ((m.1:Int),m.2.2.2.1+1,o.2.2):=by unfold gv;rw[h,pQ,ak rfl]
    refine .inr (.inr ⟨he,hlt,by rw[e2];exact hlt2,λn hn hup=>?_⟩);have ⟨r,hr,hw⟩:=(h2 n hn hup).2 hcd;refine⟨r,by rw[(hG _ _ hr).1];exact he,?_,hw⟩;rw[sv hr,he];rfl
 ·rcases h1 y hy with h|⟨n,a,b,c⟩
  ·exact .inl h
  ·exact .inr ⟨n,a,b,sv c⟩
 ·cases hk with
  | old h _ h3 h4=>
    by_cases e:look (T.R m.1).F m.2.2.1=none
    ·have:=h3 e
     have ⟨s,hs⟩:=ho _ hz hnu;rw[this,hs]at e;cases e
    ·have:=h4 e
     unfold gv;rw[h];exact this
  | new h=>
    unfold gv;rw[h]
    conv=>rhs;arg 2;rw[<- eN]
    rw[pQ,ak rfl];exact Nat.le_refl _
  | mine o h _ he _ _ h2=>
    unfold gv;rw[h,he,Int.toNat_natCast,pQ,ak rfl];omega
 ·have ⟨s,hs⟩:=ho x hx (by rw[<- h.nu];exact hnu)
  rw[h.lu,h.nu]
  by_cases e:x=m.1
  ·subst e
   cases hk with
   |old h=>exact⟨s,by rw[h];exact hs⟩
   |new h _ hne=>exact⟨s,by rw[h,jE,aj (λq=>hne q.symm)];exact hs⟩
   | mine o h _ _ ho=>
     rw[hs]at ho;cases ho;exact⟨_,by rw[h,jE,ak rfl]⟩
  ·exact⟨s,by rw[h.o x e];exact hs⟩
 ·cases hk with
  |old h=>rw[h]
  |new h _ hne=>rw[h,jE,aj (λq=>hne q.symm)]
  |mine o _ _ _ _ hlt=>exact absurd hle (by unfold gv;omega)
variable{M:Nat}{T':Pst}{P':Msg→Prop}{C:Nat→Prop}
theorem RcvV.mono(h:RcvV N L T m T')(hm:MsgG N L B m)(x v:Nat):gv L T x v<=gv L T' x v:=by
 have hn:=hm.r.n
 by_cases e:x≠m.1∨(v:Int)≠m.2.2.1
 ·rw[h.o x v e];exact Nat.le_refl _
 ·obtain⟨rfl,e2⟩:x=m.1/\(v:Int)=m.2.2.1:=by
   constructor
   ·exact Classical.byContradiction λq=>e (.inl q)
   ·exact Classical.byContradiction λq=>e (.inr q)
  obtain rfl:v=m.2.2.1.toNat:=oM;rcases h.c with c|⟨c,_,d,_⟩|⟨c,d,d2,_⟩
  ·rw[c];exact Nat.le_refl _
  ·omega
  ·rw[c,Int.toNat_natCast];omega
theorem TJ(hc:CvL N L)(h:RcvV N L T m T')(hm:MsgG N L B m)(hS:Src L T P)(hP:∀y,P' y->P y):Src L T' P':=by
 intro y hy;have old:(P y∨y∈T.way)->rk L y.2.2<=gv L T' (far L y.1 y.2.1) y.2.2.1.toNat:=λq=>Nat.le_trans (hS y q) (h.mono hm _ _);rcases hy with hy|hy
 ·exact old (.inl (hP y hy))
 rcases h.s y hy with q|⟨n,a,b,c⟩
 ·exact old (.inr q)
 ·have e1:y.1=far L m.1 n:=by rw[b]
  have e2:y.2.1=n:=by rw[b]
  rw[e1,e2,(ww hc a).2.2.1,c];exact Nat.le_refl _
theorem ME(hc:CvL N L)(h:RcvV N L T m T')(ht:RcvT N L T m T')(hm:MsgG N L B m)(hW:WOk N L T)(hO:jr N L T)(hS:Src L T P)(hA:IA N L T P)(hmP:P m)(hP:∀y,P y->y=m∨P' y):IA N L T' P':=by
 intro i x y v hx hv ad;rw[ht.lu,ht.nu]at ad;have hn:=hm.r.n;have keep:∀{g:Nat},(∃w,(P w∨w∈T.way)/\w.1=y/\w.2.1=i/\w.2.2.1=(v:Int)/\g<=rk L w.2.2)->(∃w,(P' w∨w∈T'.way)/\w.1=y/\w.2.1=i/\w.2.2.1=(v:Int)/\g<=rk L w.2.2)∨(m.1=y/\m.2.1=i/\m.2.2.1=(v:Int)/\g<=rk L m.2.2):=fun {g} ⟨w,a,b,c,d,e⟩=>by
  rcases a with a|a
  ·rcases hP w a with rfl|a
   ·exact .inr ⟨b,c,d,e⟩
   ·exact .inl ⟨w,.inl a,b,c,d,e⟩
  ·exact .inl ⟨w,.inr (ht.way w a),b,c,d,e⟩
 have base:=hA i x y v hx hv ad
 by_cases ex:x=m.1
 ·have ny:y≠m.1:=λq=>ad.ne (ex.trans q.symm)
  have gy:gv L T' y v=gv L T y v:=h.o y v (.inl ny);have same:gv L T' x v=gv L T x v->gv L T' x v<=gv L T' y v∨∃w,(P' w∨w∈T'.way)/\w.1=y/\w.2.1=i/\w.2.2.1=(v:Int)/\gv L T' x v<=rk L w.2.2:=λe=>by
   rw[e,gy];rcases base with q|q
   ·exact .inl q
   ·rcases keep q with q|q
    ·exact .inr q
    ·exact absurd q.1.symm ny
  by_cases ev:(v:Int)=m.2.2.1
  ·have ev':m.2.2.1.toNat=v:=oM
   subst ex;have up:=hW m.1 hm.n ad.nx i ad.ox;rw[ad.up]at up;have hcc:=h.c;rw[ev']at hcc;rcases hcc with c|⟨c,_,d,e⟩|⟨c,d,d2,e⟩
   ·exact same c
   ·by_cases ei:i=m.2.1
    ·left
     have:=hS m (.inl hmP);rw[<- ei,ad.fx,ev']at this;rw[c,gy];exact this
    ·refine .inr ⟨_,.inr (e i ad.ox up ei),ad.fx,rfl,ev.symm,by rw[c];exact Nat.le_refl _⟩
   ·have ⟨r,r1,r2,r3⟩:=e i ad.ox up
    have e3:v=m.1:=oM;refine .inr ⟨_,.inr r3,ad.fx,rfl,by rw[r1,e3],?_⟩;rw[e3,<- r2];exact Nat.le_refl _
  ·exact same (h.o x v (.inr ev))
 ·have gx:gv L T' x v=gv L T x v:=h.o x v (.inl ex)
  rw[gx];rcases base with q|q
  ·exact .inl (Nat.le_trans q (h.mono hm y v))
  ·rcases keep q with q|⟨q1,q2,q3,q4⟩
   ·exact .inr q
   ·left
    have:=h.g hO hm.n (by rw[q1];exact ad.ny);rw[q3,Int.toNat_natCast,q1]at this;omega
def Arr(L:List LS.Lnk)(T:Pst)(P:Msg->Prop)(i y v g:Nat):Prop:=g<=gv L T y v∨∃m,P m/\m.1=y/\m.2.1=i/\m.2.2.1=(v:Int)/\g<=rk L m.2.2
theorem MF{g:Nat}(h:RcvV N L T m T')(hm:MsgG N L B m)(hO:jr N L T)(hn:T.nu y=true)(hA:Arr L T P i y v g)(hP:∀y,P y->y=m∨P' y):Arr L T' P' i y v g:=by
 rcases hA with q|⟨w,a,b,c,d,e⟩
 ·exact .inl (Nat.le_trans q (h.mono hm y v))
 rcases hP w a with rfl|a
 ·left
  have:=h.g hO hm.n (by rw[b];exact hn);rw[d,Int.toNat_natCast,b]at this;omega
 ·exact .inr ⟨w,a,b,c,d,e⟩
def Bd(L:List LS.Lnk)(T:Pst)(C:Nat->Prop)(v M:Nat):Prop:=∀x,C x->gv L T x v<=max M (gv L T v v)
def Closed(L:List LS.Lnk)(lu nu:Nat->Bool)(C:Nat->Prop):Prop:=∀i x y,C x->Ad L lu nu i x y->C y
theorem MG(hc:CvL N L)(h:RcvV N L T m T')(hm:MsgG N L B m)(hu:TG.upI L T.lu T.nu (m.2.1:Int)=true)(hC:Closed L T.lu T.nu C)(hS:Src L T P)(hmP:P m)(hB:Bd L T C v M):Bd L T' C v M:=by
 intro x hx;have h1:=hB x hx;have h2:=h.mono hm v v;have hn:=hm.r.n
 by_cases e:x≠m.1∨(v:Int)≠m.2.2.1
 ·rw[h.o x v e];omega
 ·obtain⟨rfl,e2⟩:x=m.1/\(v:Int)=m.2.2.1:=by
   constructor
   ·exact Classical.byContradiction λq=>e (.inl q)
   ·exact Classical.byContradiction λq=>e (.inr q)
  have ev':m.2.2.1.toNat=v:=oM;have hcc:=h.c;rw[ev']at hcc;rcases hcc with c|⟨c,_,d,_⟩|⟨c,d,d2,_⟩
  ·rw[c];omega
  ·have ad:=jT hc (jm.2 hm.o) hu
   have h3:=hS m (.inl hmP);have h4:=hB _ (hC _ _ _ hx ad);rw[ev']at h3;omega
  ·have:v=m.1:=oM
   subst this;omega
theorem MH(hc:CvL N L)(h:RcvV N L T m T')(ht:RcvT N L T m T')(hm:MsgG N L B m)(hu:TG.upI L T.lu T.nu (m.2.1:Int)=true)(hC:Closed L T.lu T.nu C)(hv:C v)(hS:Src L T P)(hmP:P m)(hB:Bd L T C v M)(hM:M<=gv L T v v):look (T'.R v).F (v:Int)=look (T.R v).F (v:Int):=by
 by_cases e:v=m.1
 ·subst e
  by_cases e2:m.2.2.1=(m.1:Int)
  ·refine h.keep ?_
   have ad:=jT hc (jm.2 hm.o) hu;have h3:=hS m (.inl hmP);have h4:=hB _ (hC _ _ _ hv ad);rw[e2,Int.toNat_natCast]at h3;omega
  ·have ⟨code,hk,_⟩:=ht.k
   cases hk with
   |old h=>rw[h]
   |new h _ hne=>rw[h,jE,aj (λq=>e2 q.symm)]
   |mine o _ _ h=>exact absurd h e2
 ·rw[ht.o v e]
variable{z:Nat}
def Nil(m:Msg):Prop:=False
def Pn(T:Pst)(i:Nat)(m:Msg):Prop:=∃j,i<=j/\T.way[j]?=some m
theorem Pn.cut(h:T.way[i]?=some m):∀y,Pn T i y->y=m∨Pn T (i+1) y:=λy ⟨j,a,b⟩=>by
 rcases Nat.lt_or_ge i j with q|q
 ·exact .inr ⟨j,q,b⟩
 ·have:j=i:=oM
  subst this;rw[b]at h;cases h;exact .inl rfl
theorem Pn.low{y:Msg}(h:Pn T (i+1) y):Pn T i y:=by have ⟨j,a,b⟩:=h;exact⟨j,oM,b⟩
theorem Pn.end_{y:Msg}(h:Pn T T.way.length y):False:=by have ⟨j,a,b⟩:=h;rw[jR a]at b;cases b
theorem wy{Q:Nat->Pst->Prop}(h0:Q 0 (ph1 N L T 0))(hs:∀i m,T.way[i]?=some m->Q i (ph1 N L T i)->Q (i+1) (rcv N L (ph1 N L T i) m)):Q T.way.length (ph1 N L T T.way.length):=by
 have:∀i,i<=T.way.length->Q i (ph1 N L T i):=by
  intro i
  induction i with
  |zero=>exact λ_=>h0
  | succ i ih=>
    intro hi;have q:T.way[i]?=some T.way[i]:=gE oM;rw[oq q];exact hs i _ q (ih oM)
 exact this _ (Nat.le_refl _)
structure P1(N:Nat)(L:List LS.Lnk)(T T':Pst)(P:Msg->Prop):Prop where
 w:WOk N L T'
 own:jr N L T'
 src:Src L T' Nil
 srcP:Src L T Nil->Src L T' P
 lu:T'.lu=T.lu
 nu:T'.nu=T.nu
 ia:Src L T Nil->IA N L T Nil->IA N L T' P
 mono:∀x v,gv L T x v<=gv L T' x v
 arr:IA N L T Nil->∀i x y v,x<N->v<N->Ad L T.lu T.nu i x y->Arr L T' P i y v (gv L T x v)
 bd:Src L T Nil->∀C v M,Closed L T.lu T.nu C->Bd L T C v M->Bd L T' C v M
 fix:Src L T Nil->∀C v M,Closed L T.lu T.nu C->C v->Bd L T C v M->M<=gv L T v v->look (T'.R v).F (v:Int)=look (T.R v).F (v:Int)
theorem MI(hc:CvL N L)(b:Bnd B k de)(h:PG N L de B k T)(hW:WOk N L T)(hO:jr N L T):P1 N L T (ph1 N L T T.way.length) (Pn T T.way.length):=by
 have init:∀{m},(Pn T 0 m∨m∈(ph1 N L T 0).way)->m∈T.way:=fun {m} hm=>by
  rcases hm with⟨j,_,e⟩|hm
  ·exact mG e
  ·cases hm
 have ini:∀{m},m∈T.way->Pn T 0 m:=fun {m} hm=>by have ⟨j,e⟩:=getElem?_of_mem hm;exact⟨j,dx _,e⟩
 refine wy (Q:=λi T'=>P1 N L T T' (Pn T i)) ⟨hW,hO,λm hm=>(by rcases hm with q|q<;>cases q),λhS m hm=>hS m (.inr (init hm)),rfl,rfl,λ_ hA i x y v hx hv ad=>?_,λ_ _=>Nat.le_refl _,λhA i x y v hx hv ad=>?_,λ_ _ _ _ _ h=>h,λ_ _ _ _ _ _ _ _=>rfl⟩ λi m hm z=>?_
 ·rcases hA i x y v hx hv ad with q|⟨w,a,c⟩
  ·exact .inl q
  ·exact .inr ⟨w,.inl (ini (a.resolve_left id)),c⟩
 ·rcases hA i x y v hx hv ad with q|⟨w,a,c⟩
  ·exact .inl q
  ·exact .inr ⟨w,ini (a.resolve_left id),c⟩
 have hmg:=h.way m (mG hm);have ⟨g1,g2⟩:=kK hc.l b h i;have hmP:Pn T i m:=⟨i,Nat.le_refl _,hm⟩
 by_cases hu:TG.upI L (ph1 N L T i).lu (ph1 N L T i).nu (m.2.1:Int)=true
 ·have ht:=MC hc b g1 hmg hu
  have gf:=((Lu hc.l b g1 g2 hmg).2.1 m.1 hmg.n).F;have hv:=MD hmg (λv r hl=>by have:=gf.g _ _ hl;exact⟨this.1,by rw[<- this.1];exact this.2.n.1⟩) ht
  refine⟨λx hx hn n ho=>?_,hv.own z.own,TJ hc hv hmg z.src (λy h=>h),λhS=>TJ hc hv hmg (z.srcP hS) λy=>Pn.low,ht.lu.trans z.lu,ht.nu.trans z.nu,λhS hA=>ME hc hv ht hmg z.w z.own (z.srcP hS) (z.ia hS hA) hmP (Pn.cut hm),λx v=>Nat.le_trans (z.mono x v) (hv.mono hmg x v),λhA i' x y v hx hv' ad=>MF hv hmg z.own (by rw[z.nu];exact ad.ny) (z.arr hA i' x y v hx hv' ad) (Pn.cut hm),λhS C v M hC hB=>?_,λhS C v M hC hv' hB hM=>?_⟩
  ·rw[ht.w,ht.lu,ht.nu]
   exact z.w x hx (by rw[<- ht.nu];exact hn) n ho
  ·exact MG hc hv hmg hu (by rw[z.lu,z.nu];exact hC) (z.srcP hS) hmP (z.bd hS C v M hC hB)
  ·exact(MH hc hv ht hmg hu (by rw[z.lu,z.nu];exact hC) hv' (z.srcP hS) hmP (z.bd hS C v M hC hB) (Nat.le_trans hM (z.mono v v))).trans (z.fix hS C v M hC hv' hB hM)
 ·have e:rcv N L (ph1 N L T i) m=ph1 N L T i:=by unfold rcv;rw[aj hu]
  rw[e];have far:∀{i' x y},Ad L T.lu T.nu i' x y->m.2.1≠i':=fun {i' x y} ad q=>hu (by rw[z.lu,z.nu,q];exact ad.up);refine⟨z.w,z.own,z.src,λhS y hy=>z.srcP hS y (hy.imp_left Pn.low),z.lu,z.nu,λhS hA i' x y v hx hv ad=>?_,z.mono,λhA i' x y v hx hv ad=>?_,z.bd,z.fix⟩
  ·rcases z.ia hS hA i' x y v hx hv ad with q|⟨w,a,c,d,e⟩
   ·exact .inl q
   rcases a with a|a
   ·rcases Pn.cut hm w a with rfl|a
    ·exact absurd d (far (by rw[<- z.lu,<- z.nu];exact ad))
    ·exact .inr ⟨w,.inl a,c,d,e⟩
   ·exact .inr ⟨w,.inr a,c,d,e⟩
  ·rcases z.arr hA i' x y v hx hv ad with q|⟨w,a,c,d,e⟩
   ·exact .inl q
   rcases Pn.cut hm w a with rfl|a
   ·exact absurd d (far ad)
   ·exact .inr ⟨w,a,c,d,e⟩
variable{S:Ro}
theorem oB:∀n x,(ph2 N L T n).R x=if x<n/\T.nu x=true then iO x L ((ph1 N L T T.way.length).R x) (T.now+1) (dK L T.lu T.nu x)else(ph1 N L T T.way.length).R x
 | 0,x=>by rw[aj oM];rfl
 | n+1,x=>by
   have ih:=oB n;have ⟨e1,e2,e3⟩:=jO (N:=N) (L:=L) (T:=T) (i:=n);rw[lJ];unfold tck;rw[e1,e2,e3];split
   ·rename_i h
    show updR _ n _ x=_;unfold updR;split
    ·rename_i e;subst e
     rw[ak ⟨oM,h⟩,ih x,aj oM]
    ·rename_i e
     rw[ih x]
     by_cases c:x<n/\T.nu x=true
     ·rw[ak c,ak ⟨oM,c.2⟩]
     ·rw[aj c,aj (λq=>c ⟨oM,q.2⟩)]
   ·rename_i h
    rw[ih x]
    by_cases c:x<n/\T.nu x=true
    ·rw[ak c,ak ⟨oM,c.2⟩]
    ·rw[aj c,aj (λq=>c ⟨by
      have:x≠n:=by rintro rfl;exact h q.2
      omega,q.2⟩)]
theorem wz{y:Msg}:∀n,y∈(ph2 N L T n).way↔y∈(ph1 N L T T.way.length).way∨∃x,x<n/\T.nu x=true/\y∈msgs L x (gD x L ((ph1 N L T T.way.length).R x) (T.now+1) (dK L T.lu T.nu x))
 | 0=>⟨.inl,λh=>h.resolve_right λ⟨x,a,_⟩=>oM⟩
 | n+1=>by
   have ih:=wz (y:=y) n;have ⟨e1,e2,e3⟩:=jO (N:=N) (L:=L) (T:=T) (i:=n);have eR:=oB (N:=N) (L:=L) (T:=T) n n;rw[aj oM]at eR;rw[lJ];unfold tck;rw[e1,e2,e3,eR];split
   ·rename_i h
    rw[mem_append,ih];constructor
    ·rintro ((a|⟨x,a,b⟩)|a)
     ·exact .inl a
     ·exact .inr ⟨x,oM,b⟩
     ·exact .inr ⟨n,oM,h,a⟩
    ·rintro (a|⟨x,a,b⟩)
     ·exact .inl (.inl a)
     ·by_cases e:x=n
      ·subst e;exact .inr b.2
      ·exact .inl (.inr ⟨x,oM,b⟩)
   ·rename_i h
    rw[ih];constructor
    ·rintro (a|⟨x,a,b⟩)
     ·exact .inl a
     ·exact .inr ⟨x,oM,b⟩
    ·rintro (a|⟨x,a,b⟩)
     ·exact .inl a
     ·by_cases e:x=n
      ·subst e;exact absurd b.1 h
      ·exact .inr ⟨x,oM,b⟩
theorem MJ{lu nu:Nat->Bool}(h:n∈ownL L x):((n:Int)∈dK L lu nu x)↔TG.upI L lu nu (n:Int)=true:=by
 unfold dK;rw[aG];constructor
 ·rintro ⟨j,hj,e⟩
  obtain rfl:j=n:=oM;exact(mem_filter.1 hj).2
 ·exact λh'=>⟨n,mem_filter.2 ⟨h,h'⟩,rfl⟩
theorem MK{W:DT.Wt}{b:Bool}(h:W.up=b):(DT.gW W now b).up=b:=by show(W.up != DT.eT W now b)=b;unfold DT.eT;rw[h];cases b<;>rfl
theorem MM{lu nu:Nat->Bool}(h:n∈ownL L x):decide ((n:Int)∈dK L lu nu x)=TG.upI L lu nu (n:Int):=by rw[Bool.eq_iff_iff,decide_eq_true_iff,MJ h]
theorem MN(h:(S.W n).up=TG.upI L T.lu T.nu (n:Int))(hn:n∈ownL L x):(Wn (ownL L x) S.W now (dK L T.lu T.nu x) n).up=TG.upI L T.lu T.nu (n:Int):=by unfold Wn;rw[ak hn,MM hn];exact MK h
theorem TK(h:∀n∈ownL L x,(Wn (ownL L x) S.W now (dK L T.lu T.nu x) n).up=TG.upI L T.lu T.nu (n:Int)):ups (ownL L x) (Wn (ownL L x) S.W now (dK L T.lu T.nu x))=dK L T.lu T.nu x:=by
 unfold ups
 conv=>rhs;unfold dK
 rw[filter_congr h]
theorem MO{s:Int}(h:∀n∈ownL L x,(Wn (ownL L x) S.W now (dK L T.lu T.nu x) n).up=TG.upI L T.lu T.nu (n:Int))(ho:look S.F (x:Int)=some ((x:Int),s,dK L T.lu T.nu x)):(iO x L S now (dK L T.lu T.nu x)).F=S.F/\(gM x (ownL L x) S now (dK L T.lu T.nu x)).nw=false:=by
 show(gM x (ownL L x) S now (dK L T.lu T.nu x)).F=S.F/\_;unfold gM LS.ownR;rw[TK h,ho];split
 ·exact⟨rfl,rfl⟩
 ·simp
theorem MQ{v:Int}(h:look F v=some r):r∈LS.allR F:=by
 refine mem_filterMap.2 ⟨v,(ii _).mem_iff.2 (Classical.byContradiction λq=>?_),h⟩;have:∀F:List (Int×LS.Rec),v ∉ F.map (·.1)->look F v=none:=λF=>by
  induction F with
  |nil=>exact λ_=>rfl
  |cons e F ih=>grind [look]
 rw[this F q]at h;cases h
structure P2(N:Nat)(L:List LS.Lnk)(T T':Pst):Prop where
 w:WOk N L T'
 own:jr N L T'
 src:Src L T' Nil
 lu:T'.lu=T.lu
 nu:T'.nu=T.nu
 ia:Src L T Nil->IA N L T Nil->IA N L T' Nil
 re:(T.now+1) % 8=0->IA N L T' Nil
 mono:∀x v,gv L T x v<=gv L T' x v
 arr:IA N L T Nil->∀i x y v,x<N->v<N->Ad L T.lu T.nu i x y->gv L T x v<=gv L T' y v
 bd:Src L T Nil->∀C v M,Closed L T.lu T.nu C->Bd L T C v M->Bd L T' C v M
 fix:Src L T Nil->∀C v M,Closed L T.lu T.nu C->C v->Bd L T C v M->M<=gv L T v v->look (T'.R v).F (v:Int)=look (T.R v).F (v:Int)
 f:∀x,(T'.R x).F=((ph1 N L T T.way.length).R x).F
 view:∀x,x<N->T.nu x=true->(T'.R x).U=LS.fw (LS.lsB (T'.R x).F) L
theorem wA(hc:CvL N L)(b:Bnd B k de)(h:PG N L de B k T)(hW:WOk N L T)(hO:jr N L T):P2 N L T (fM N L T):=by
 have z:=MI hc b h hW hO;have e0:fM N L T=ph2 N L T N:=rfl;have ⟨e1,e2,e3⟩:=jO (N:=N) (L:=L) (T:=T) (i:=N);rw[<- e0]at e1 e2 e3;have hR:∀x,(fM N L T).R x=_:=oB N;have hw:∀y,y∈(fM N L T).way↔_:=λy=>wz N;have wn:∀x,x<N->T.nu x=true->∀n∈ownL L x,(Wn (ownL L x) ((ph1 N L T T.way.length).R x).W (T.now+1) (dK L T.lu T.nu x) n).up=TG.upI L T.lu T.nu (n:Int):=λx hx hn n ho=>by refine MN ?_ ho;have:=z.w x hx (by rw[z.nu];exact hn) n ho;rw[z.lu,z.nu]at this;exact this
 have same:∀x,x<N->T.nu x=true->(iO x L ((ph1 N L T T.way.length).R x) (T.now+1) (dK L T.lu T.nu x)).F=((ph1 N L T T.way.length).R x).F/\(gM x (ownL L x) ((ph1 N L T T.way.length).R x) (T.now+1) (dK L T.lu T.nu x)).nw=false:=λx hx hn=>by have ⟨s,hs⟩:=z.own x hx (by rw[z.nu];exact hn);rw[z.lu,z.nu]at hs;exact MO (wn x hx hn) hs
 have hF:∀x,((fM N L T).R x).F=((ph1 N L T T.way.length).R x).F:=λx=>by
  rw[hR x];split
  ·rename_i c;exact(same x c.1 c.2).1
  ·rfl
 have gve:∀x v,gv L (fM N L T) x v=gv L (ph1 N L T T.way.length) x v:=λx v=>by unfold gv;rw[hF]
 have noP:∀{m},Pn T T.way.length m∨m∈(ph1 N L T T.way.length).way->m∈(fM N L T).way:=fun {m} hm=>by
  rcases hm with q|q
  ·exact(Pn.end_ q).elim
  ·exact(hw m).2 (.inl q)
 have sent:∀x,x<N->T.nu x=true->∀y:Msg,y∈msgs L x (gD x L ((ph1 N L T T.way.length).R x) (T.now+1) (dK L T.lu T.nu x))↔y.1=far L x y.2.1/\y.2.1∈ownL L x/\TG.upI L T.lu T.nu (y.2.1:Int)=true/\(rsn (ownL L x) ((ph1 N L T T.way.length).R x).W (T.now+1) (dK L T.lu T.nu x) y.2.1||decide ((T.now+1).tmod 8=0))=true/\y.2.2∈LS.allR ((ph1 N L T T.way.length).R x).F:=λx hx hn y=>by
  rw[TI];unfold gD;rw[wx];have hs:=same x hx hn;have hs1:(gM x (ownL L x) ((ph1 N L T T.way.length).R x) (T.now+1) (dK L T.lu T.nu x)).F=((ph1 N L T T.way.length).R x).F:=hs.1;rw[hs.2,hs1];constructor
  ·rintro ⟨⟨a,b,c⟩,d⟩
   rw[wn x hx hn _ a]at b;unfold chT at c;split at c
   ·exact⟨d,a,b,by assumption,c⟩
   ·simp at c
  ·rintro ⟨a,b,c,d,e⟩
   refine⟨⟨b,(wn x hx hn _ b).trans c,?_⟩,a⟩;unfold chT;rw[ak d];exact e
 refine⟨λx hx hn n ho=>?_,λx hx hn=>?_,λm hm=>?_,e1,e2,λhS hA i x y v hx hv ad=>?_,λhr i x y v hx hv ad=>?_,λx v=>by rw[gve];exact z.mono x v,λhA i x y v hx hv ad=>?_,λhS C v M hC hB x hx=>by rw[gve,gve];exact z.bd hS C v M hC hB x hx,λhS C v M hC hv hB hM=>by rw[hF];exact z.fix hS C v M hC hv hB hM,hF,λx hx hn=>?_⟩
 ·rw[e2]at hn
  rw[hR x,ak ⟨hx,hn⟩,e1,e2];exact wn x hx hn n ho
 ·rw[e2]at hn
  have ⟨s,hs⟩:=z.own x hx (by rw[z.nu];exact hn);rw[z.lu,z.nu]at hs;exact⟨s,by rw[hF,e1,e2];exact hs⟩
 ·rcases(hw m).1 (hm.resolve_left id)with q|⟨x,hx,hn,hm⟩
  ·rw[gve];exact z.src m (.inr q)
  ·have ⟨a1,a2,_,_,a5⟩:=(sent x hx hn m).1 hm
   rw[a1,(ww hc a2).2.2.1,gve];have ⟨j,hj⟩:=IY a5;have gf:=(((kK hc.l b h T.way.length).1 x hx).F.g _ _ hj)
   have:=gf.2.n;have:rk L m.2.2=gv L (ph1 N L T T.way.length) x m.2.2.1.toNat:=(wu (by rw[show((m.2.2.1.toNat:Nat):Int)=j by omega];exact hj)).symm;omega
 ·rw[e1,e2]at ad
  rw[gve,gve];rcases z.ia hS hA i x y v hx hv (by rw[z.lu,z.nu];exact ad)with q|⟨w,a,c⟩
  ·exact .inl q
  ·exact .inr ⟨w,.inr (noP a),c⟩
 ·rw[e1,e2]at ad
  rw[gve,gve];rcases e:look ((ph1 N L T T.way.length).R x).F (v:Int)with _|r
  ·left;unfold gv valF;rw[e];exact dx _
  ·have gf:=(((kK hc.l b h T.way.length).1 x hx).F.g _ _ e)
   refine .inr ⟨(y,(i,r)),.inr ((hw _).2 (.inr ⟨x,hx,ad.nx,(sent x hx ad.nx _).2 ⟨ad.fx.symm,ad.ox,ad.up,?_,MQ e⟩⟩)),rfl,rfl,gf.1,?_⟩
   ·have:(T.now+1).tmod 8=0:=by
     rw[Int.tmod_eq_emod_of_nonneg (by have:=h.now;have:=b.k;omega)];exact hr
    rw[aH this,Bool.or_true]
   ·exact Nat.le_of_eq (wu e)
 ·rw[gve]
  rcases z.arr hA i x y v hx hv ad with q|⟨w,a,_⟩
  ·exact q
  ·exact(Pn.end_ a).elim
 ·rw[hR x,ak ⟨hx,hn⟩];rfl
variable{j:Nat}{W:DT.Wt}{b:Bool}{F:TN.NFab}
theorem MR:(DT.gW W now b).heard=if b=true then some now else W.heard:=rfl
theorem MS:(DT.gW W now b).up=(W.up != DT.eT W now b):=rfl
def WtH(W:DT.Wt):Prop:=W.up=true->W.heard≠none
theorem WtH.tick(h:WtH W):WtH (DT.gW W now b):=by unfold WtH at *;rw[MS,MR];unfold DT.eT;cases b<;>cases e:W.up<;>simp_all
structure WtS(de k t:Int)(b:Bool)(W:DT.Wt):Prop where
 m:W.m=de
 hd:b=true->1<=t->W.heard=some (k+t)
 up:b=true->2<=t->W.up=true
 no:b=false->W.up=true->(∃h,W.heard=some h/\h<=k)/\(t=0∨t<de)
theorem WtS.tick{t:Int}(h:WtS de k t b W)(ht:0<=t):WtS de k (t+1) b (DT.gW W (k+t+1) b):=by
 refine⟨h.m,λhb _=>?_,λhb h2=>?_,λhb hu=>?_⟩
 ·rw[MR,ak hb,Int.add_assoc]
 ·have:=h.hd hb oM
  rw[MS];unfold DT.eT;rw[hb,this];cases e:W.up
  ·have:(k+t == k+t+1-1)=true:=by rw[beq_iff_eq];omega
   simp[this]
  ·rfl
 ·rw[MS]at hu
  unfold DT.eT at hu;rw[hb]at hu;cases e:W.up
  ·rw[e]at hu;simp at hu
  ·have ⟨⟨g,e1,e2⟩,_⟩:=h.no hb e
   rw[e,e1]at hu;rw[MR,hb];refine⟨⟨g,e1,e2⟩,?_⟩;have:=h.m;have:¬(g+W.m<=k+t+1):=by simpa using hu
   omega
theorem MT:((rcv N L T m).R x).W=(T.R x).W:=by
 unfold rcv;split
 ·show(updR T.R m.1 _ x).W=_
  unfold updR;split
  ·rename_i e;rw[e];rfl
  ·rfl
 ·rfl
theorem wB:((ph1 N L T T.way.length).R x).W=(T.R x).W:=
 wy (Q:=λ_ T'=>(T'.R x).W=(T.R x).W) rfl λi m _ h=>MT.trans h
theorem wD(hx:x<N)(hn:T.nu x=true)(ho:n∈ownL L x):((fM N L T).R x).W n=DT.gW ((T.R x).W n) (T.now+1) (TG.upI L T.lu T.nu (n:Int)):=by show((ph2 N L T N).R x).W n=_;rw[oB,ak ⟨hx,hn⟩];show Wn (ownL L x) ((ph1 N L T T.way.length).R x).W (T.now+1) (dK L T.lu T.nu x) n=_;unfold Wn;rw[ak ho,MM ho,wB]
theorem MU(hn:¬(x<N/\T.nu x=true)):((fM N L T).R x).W=(T.R x).W:=by show((ph2 N L T N).R x).W=_;rw[oB,aj hn,wB]
theorem MW(h:Rch F j T):∀x n,n∈ownL F.L x->WtH ((T.R x).W n):=by
 induction h with
 |zero=>exact λx n _ h=>by cases h
 | @step j T T' h c ih=>
   have i2:∀x n,n∈ownL F.L x->WtH ((T'.R x).W n):=λx n hn=>by
    cases c with
    |no=>exact ih x n hn
    |link=>exact ih x n hn
    | node a u _=>
      show WtH (((if(u&&!T.nu a)=true then updR T.R a (new0 F)else T.R) x).W n);split
      ·unfold updR
       split
       ·exact λh=>by cases h
       ·exact ih x n hn
      ·exact ih x n hn
   intro x n hn
   by_cases e:x<nF F/\T'.nu x=true
   ·rw[wD e.1 e.2 hn];exact(i2 x n hn).tick
   ·rw[MU e];exact i2 x n hn
def Qt(N:Nat)(L:List LS.Lnk)(T:Pst):Nat->Pst
 | 0=>T
 |t+1=>fM N L (Qt N L T t)
theorem pR:∀t,(Qt N L T t).lu=T.lu/\(Qt N L T t).nu=T.nu/\(Qt N L T t).now=T.now+t
 | 0=>⟨rfl,rfl,by show T.now=_;simp⟩
 | t+1=>by
   have ⟨a,b,c⟩:=pR t;have ⟨a',b',c'⟩:=jO (N:=N) (L:=L) (T:=Qt N L T t) (i:=N);exact⟨a'.trans a,b'.trans b,by show(ph2 N L (Qt N L T t) N).now=_;rw[c',c];omega⟩
theorem qt_w(h:PG N L de B k T)(hh:∀x n,n∈ownL L x->WtH ((T.R x).W n))(hx:x<N)(hn:T.nu x=true)(ho:n∈ownL L x):∀t:Nat,WtS de k t (TG.upI L T.lu T.nu (n:Int)) (((Qt N L T t).R x).W n)
 | 0=>by
   have w:=(h.ro x hx).w n ho;refine⟨w.m,λ_ h=>oM,λ_ h=>oM,λhb hu=>⟨?_,.inl rfl⟩⟩;have:=hh x n ho hu;cases e:((Qt N L T 0).R x).W n |>.heard with
   |none=>exact absurd e this
   |some g=>exact⟨g,rfl,(w.h g e).2⟩
 | t+1=>by
   have ih:=qt_w h hh hx hn ho t;have ⟨a,b,c⟩:=pR (N:=N) (L:=L) (T:=T) t;show WtS de k ((t+1:Nat):Int) _ (((fM N L (Qt N L T t)).R x).W n);rw[wD hx (by rw[b];exact hn) ho,a,b,c,h.now];have:=ih.tick oM;rw[show((t+1:Nat):Int)=(t:Int)+1 by omega];exact this
theorem wE(h:PG N L de B k T)(hh:∀x n,n∈ownL L x->WtH ((T.R x).W n)){t:Nat}(h2:2<=t)(hd:de<=t):WOk N L (Qt N L T t):=λx hx hn n ho=>by
 have ⟨a,b,c⟩:=pR (N:=N) (L:=L) (T:=T) t;rw[b]at hn;have w:=qt_w h hh hx hn ho t;rw[a,b];cases e:TG.upI L T.lu T.nu (n:Int)with
 |true=>exact w.up e oM
 | false=>
   cases e2:(((Qt N L T t).R x).W n).up with
   |false=>rfl
   | true=>
     have:=(w.no e e2).2;omega
theorem TL(hc:CvL N L)(b:Bnd B k de)(h:PG N L de B k T)(hW:WOk N L (fM N L T)):jr N L (fM N L T):=λx hx hn=>by
 have ⟨e1,e2,e3⟩:=jO (N:=N) (L:=L) (T:=T) (i:=N);have e0:fM N L T=ph2 N L T N:=rfl;rw[<- e0]at e1 e2 e3;have w:=hW x hx hn;rw[e2]at hn;have hR:(fM N L T).R x=iO x L ((ph1 N L T T.way.length).R x) (T.now+1) (dK L T.lu T.nu x):=by rw[e0,oB,ak ⟨hx,hn⟩]
 rw[hR,e1,e2]at w;have hu:ups (ownL L x) (Wn (ownL L x) ((ph1 N L T T.way.length).R x).W (T.now+1) (dK L T.lu T.nu x))=dK L T.lu T.nu x:=TK w;have g:=(kK hc.l b h T.way.length).1 x hx;have hB:=b.B;rw[hR,e1,e2];show ∃s,look (gM x (ownL L x) ((ph1 N L T T.way.length).R x) (T.now+1) (dK L T.lu T.nu x)).F (x:Int)=_;unfold gM;rw[hu];have ⟨k1,k2,k3⟩:=AK (x:=x) (lu:=T.lu) (nu:=T.nu) hc.l.l;have hck:LS.chkL none (dK L T.lu T.nu x)=0:=AI k1 (λi hi=>by have:=vR (k2 i hi);have:=hc.l.l;omega) λq hq=>by cases hq
 have new:∃s,look (LS.ownN (x:Int) ((ph1 N L T T.way.length).R x).dl ((ph1 N L T T.way.length).R x).F (dK L T.lu T.nu x)).F (x:Int)=some ((x:Int),s,dK L T.lu T.nu x):=by unfold LS.ownN;rw[aj (by have:=g.dl;omega)];exact⟨_,by rw[jE,ak rfl]⟩
 unfold LS.ownR;rw[aj (by rw[hck];simp)];cases ho:look ((ph1 N L T T.way.length).R x).F (x:Int)with
 |none=>exact new
 | some o=>
   simp only[];split
   ·rename_i e
    refine⟨o.2.1,?_⟩;have:=(g.F.g _ _ ho).1;rw[<- e,ho,<- this]
   ·exact new
inductive Conn (L:List LS.Lnk) (lu nu:Nat->Bool) (x:Nat):Nat->Prop where
 |refl:Conn L lu nu x x
 |step {i y z:Nat}:Conn L lu nu x y->Ad L lu nu i y z->Conn L lu nu x z
theorem Conn.trans{lu nu:Nat->Bool}(h:Conn L lu nu x y)(g:Conn L lu nu y z):Conn L lu nu x z:=by
 induction g with
 |refl=>exact h
 |step _ a ih=>exact .step ih a
theorem Conn.sym{lu nu:Nat->Bool}(h:Conn L lu nu x y):Conn L lu nu y x:=by
 induction h with
 |refl=>exact .refl
 |step _ a ih=>exact Conn.trans (.step .refl a.sym) ih
theorem Conn.lt(hc:CvL N L){lu nu:Nat->Bool}(h:Conn L lu nu x y)(hx:x<N)(hn:nu x=true):y<N/\nu y=true:=by
 cases h with
 |refl=>exact⟨hx,hn⟩
 |step _ a=>exact⟨by rw[<- a.fx];exact(ww hc a.ox).1,a.ny⟩
theorem TM{lu nu:Nat->Bool}:Closed L lu nu (Conn L lu nu x):=λi y z h a=>.step h a
open Classical in
theorem spread{lu nu:Nat->Bool}{A:Nat->Nat->Prop}(hm:∀t y,A t y->A (t+1) y)(hs:∀t i y z,y<N->A t y->Ad L lu nu i y z->A (t+1) z)(hN:∀i y z,Ad L lu nu i y z->z<N)(hx:x<N)(h0:A 0 x)(h:Conn L lu nu x y):A N y:=by
 have up:∀{t s y},t<=s->A t y->A s y:=fun {t s y} h a=>by
  induction h with
  |refl=>exact a
  |step _ ih=>exact hm _ _ ih
 by_cases c:∃t,t<=N/\∀i y z,y<N->A t y->Ad L lu nu i y z->A t z
 ·obtain⟨t,ht,hc⟩:=c
  have:y<N/\A t y:=by
   induction h with
   |refl=>exact⟨hx,up (dx _) h0⟩
   |step _ a ih=>exact⟨hN _ _ _ a,hc _ _ _ ih.1 ih.2 a⟩
  exact up ht this.2
 ·have gr:∀t,t<=N+1->t<=((List.range N).filter λy=>decide (A t y)).length:=by
   intro t
   induction t with
   |zero=>exact λ_=>dx _
   | succ t ih=>
     intro ht;have h1:=ih (by omega);obtain⟨i,y,z,hy,ha,had,hna⟩:∃i y z,y<N/\A t y/\Ad L lu nu i y z/\¬A t z:=by refine Classical.byContradiction λq=>c ⟨t,by omega,λi y z a b d=>Classical.byContradiction λe=>q ⟨i,y,z,a,b,d,e⟩⟩
     have:=Lz (p:=λy=>decide (A t y)) (q:=λy=>decide (A (t+1) y)) (l:=List.range N) (x:=z) (λw _ hw=>aH (hm _ _ (oT hw))) (dr.2 (hN _ _ _ had)) (aC hna) (aH (hs _ _ _ _ hy ha had));omega
  have h1:=gr (N+1) (Nat.le_refl _);have h2:=eD (λy=>decide (A (N+1) y)) (List.range N);rw[length_range]at h2;omega
theorem wF{C:Nat->Prop}{f:Nat->Nat}:∀n,(∃x,x<n/\C x)->∃x,x<n/\C x/\∀y,y<n->C y->f y<=f x
 | 0,⟨x,h,_⟩=>oM
 | n+1,⟨x,hx,hC⟩=>by
   by_cases e:∃x,x<n/\C x
   ·have ⟨w,a,b,c⟩:=wF (f:=f) n e
    by_cases g:C n/\f w<f n
    ·refine⟨n,oM,g.1,λy hy hc=>?_⟩
     rcases Nat.lt_or_ge y n with q|q
     ·have:=c y q hc;omega
     ·obtain rfl:y=n:=oM
      exact Nat.le_refl _
    ·refine⟨w,oM,b,λy hy hc=>?_⟩
     rcases Nat.lt_or_ge y n with q|q
     ·exact c y q hc
     ·obtain rfl:y=n:=oM
      exact Nat.le_of_not_lt λh=>g ⟨hc,h⟩
   ·have hxn:x=n:=by
     refine Classical.byContradiction λq=>e ⟨x,oM,hC⟩
    subst hxn;refine⟨x,oM,hC,λy hy hc=>?_⟩;have:y=x:=Classical.byContradiction λq=>e ⟨y,oM,hc⟩;rw[this];exact Nat.le_refl _
structure Quiet(N:Nat)(L:List LS.Lnk)(de k:Int)(T:Pst)(Q:Nat):Prop where
 pg:∀t,t<=Q->∃B,Bnd B (k+t) de/\PG N L de B (k+t) (Qt N L T t)
 hh:∀x n,n∈ownL L x->WtH ((T.R x).W n)
theorem settle(hc:CvL N L){Q:Nat}(z:Quiet N L de k T Q)(hQ:de+2*N+9<=Q)(hx:v<N)(hn:T.nu v=true)(hy:Conn L T.lu T.nu v y):∃s,look ((Qt N L T Q).R y).F (v:Int)=some ((v:Int),s,dK L T.lu T.nu v):=by
 have hde:1<=de/\de<=1000:=by have ⟨B,b,_⟩:=z.pg 0 (dx _);exact b.de
 obtain⟨t1,ht1,ht1'⟩:∃t1:Nat,2<=t1/\de<=t1/\(t1:Int)<=de+1:=⟨max 2 de.toNat,oM,oM,oM⟩
 have lun:=λt=>pR (N:=N) (L:=L) (T:=T) t;have hW:∀t,t1<=t->WOk N L (Qt N L T t):=λt ht=>by have ⟨B,b,h⟩:=z.pg 0 (dx _);exact wE (T:=T) h z.hh oM oM
 have hO:∀t,t1<=t->t<=Q->jr N L (Qt N L T t):=λt ht hq=>by
  obtain⟨s,rfl⟩:∃s,t=s+1:=⟨t-1,oM⟩
  have ⟨B,b,h⟩:=z.pg s oM;exact TL hc b h (hW _ ht)
 have p2:∀t,t1<=t->t+1<=Q->P2 N L (Qt N L T t) (Qt N L T (t+1)):=λt ht hq=>by have ⟨B,b,h⟩:=z.pg t oM;exact wA hc b h (hW t ht) (hO t ht oM)
 have src:∀t,t1+1<=t->t<=Q->Src L (Qt N L T t) Nil:=λt ht hq=>by
  obtain⟨s,rfl⟩:∃s,t=s+1:=⟨t-1,oM⟩
  exact(p2 s oM hq).src
 have hnow:∀t:Nat,(Qt N L T t).now=k+t:=λt=>by have ⟨B,b,h⟩:=z.pg 0 (dx _);have:=h.now;rw[(lun t).2.2];have e:(Qt N L T 0).now=T.now:=rfl;omega
 obtain⟨t2,h2a,h2b,h2c⟩:∃t2:Nat,t1+1<=t2/\t2<=t1+8/\(k+t2) % 8=0:=⟨t1+1+((7-(k+t1) % 8) % 8).toNat,oM,oM,oM⟩
 have ia:∀t,t2<=t->t<=Q->IA N L (Qt N L T t) Nil:=λt ht=>by
  induction ht with
  | refl=>
    intro hq;obtain⟨s,rfl⟩:∃s,t2=s+1:=⟨t2-1,oM⟩
    exact(p2 s oM hq).re (by rw[hnow];omega)
  | @step t ht ih=>
    intro hq;exact(p2 t (by have:t2<=t:=ht;omega) hq).ia (src t (by have:t2<=t:=ht;omega) oM) (ih oM)
 have arr:∀t i a c w,t2<=t->t+1<=Q->a<N->w<N->Ad L T.lu T.nu i a c->gv L (Qt N L T t) a w<=gv L (Qt N L T (t+1)) c w:=λt i a c w ht hq ha hw ad=>
  (p2 t oM hq).arr (ia t ht oM) i a c w ha hw (by rw[(lun t).1,(lun t).2.1];exact ad)
 have mono:∀t a w,t2<=t->t+1<=Q->gv L (Qt N L T t) a w<=gv L (Qt N L T (t+1)) a w:=λt a w ht hq=>(p2 t oM hq).mono a w;have sp:∀s a c g,t2<=s->s+N<=Q->a<N->g<=gv L (Qt N L T s) a v->Conn L T.lu T.nu a c->g<=gv L (Qt N L T (s+N)) c v:=λs a c g hs hq ha hg hcn=>by
  refine spread (N:=N) (A:=λt y=>g<=gv L (Qt N L T (s+min t N)) y v∨N<t) (λt y h=>?_) (λt i y w hy h ad=>?_) (λi y w ad=>by rw[<- ad.fx];exact(ww hc ad.ox).1) ha (.inl (by rw[Nat.zero_min,Nat.add_zero];exact hg)) hcn |>.elim (λh=>by rw[Nat.min_self]at h;exact h) λh=>absurd h (Nat.lt_irrefl _)
  ·rcases h with h|h
   ·rcases Nat.lt_or_ge t N with q|q
    ·left
     rw[Nat.min_eq_left oM]at h;rw[Nat.min_eq_left oM];exact Nat.le_trans h (mono (s+t) y v oM oM)
    ·exact .inr oM
   ·exact .inr oM
  ·rcases h with h|h
   ·rcases Nat.lt_or_ge t N with q|q
    ·left
     rw[Nat.min_eq_left oM]at h;rw[Nat.min_eq_left oM];exact Nat.le_trans h (arr (s+t) i y w v oM oM hy hx ad)
    ·exact .inr oM
   ·exact .inr oM
 have ⟨w,hw,hwC,hwM⟩:=wF (C:=Conn L T.lu T.nu v) (f:=λx=>gv L (Qt N L T t2) x v) N ⟨v,hx,.refl⟩;have bd:∀t,t2<=t->t<=Q->Bd L (Qt N L T t) (Conn L T.lu T.nu v) v (gv L (Qt N L T t2) w v):=λt ht=>by
  induction ht with
  |refl=>exact λ_ x hcx=>Nat.le_trans (hwM x (hcx.lt hc hx hn).1 hcx) (Nat.le_max_left _ _)
  | @step t ht ih=>
    intro hq;have ht:t2<=t:=ht;exact(p2 t oM hq).bd (src t oM oM) _ _ _ (by rw[(lun t).1,(lun t).2.1];exact TM) (ih oM)
 have big:∀t,t2+N<=t->t<=Q->gv L (Qt N L T t2) w v<=gv L (Qt N L T t) v v:=λt ht=>by
  induction ht with
  |refl=>exact λhq=>sp t2 w v _ (Nat.le_refl _) hq hw (Nat.le_refl _) hwC.sym
  | @step t ht ih=>
    intro hq;have ht:t2+N<=t:=ht;exact Nat.le_trans (ih oM) (mono t v v oM hq)
 have fix:∀t,t2+N<=t->t<=Q->look ((Qt N L T t).R v).F (v:Int)=look ((Qt N L T (t2+N)).R v).F (v:Int):=λt ht=>by
  induction ht with
  |refl=>exact λ_=>rfl
  | @step t ht ih=>
    intro hq;have ht:t2+N<=t:=ht;exact((p2 t oM hq).fix (src t oM oM) _ _ _ (by rw[(lun t).1,(lun t).2.1];exact TM) .refl (bd t oM oM) (big t ht oM)).trans (ih oM)
 have ⟨s,hs⟩:=hO Q oM (Nat.le_refl _) v hx (by rw[(lun Q).2.1];exact hn);rw[(lun Q).1,(lun Q).2.1]at hs;refine⟨s,?_⟩;have gq:∀t,t2+N<=t->t<=Q->gv L (Qt N L T t) v v=gv L (Qt N L T Q) v v:=λt ht hq=>by unfold gv valF;rw[fix t ht hq,fix Q oM (Nat.le_refl _)]
 have lo:gv L (Qt N L T Q) v v<=gv L (Qt N L T Q) y v:=by
  have ⟨u,hu⟩:∃u,Q=u+N:=⟨Q-N,oM⟩
  have:=sp u v y (gv L (Qt N L T u) v v) oM oM hx (Nat.le_refl _) hy;rw[<- hu,gq u oM oM]at this;exact this
 have hi:=bd Q oM (Nat.le_refl _) y hy;have hb:=big Q oM (Nat.le_refl _);have ⟨B,b,pg⟩:=z.pg Q (Nat.le_refl _);have hrv:=wu (L:=L) hs;rcases e:look ((Qt N L T Q).R y).F (v:Int)with _|r
 ·have:gv L (Qt N L T Q) y v=0:=by unfold gv valF;rw[e]
  have:gv L (Qt N L T Q) v v=_:=hrv;unfold rk at this;omega
 ·have hr:=wu (L:=L) e
  have g1:=(pg.ro y (hy.lt hc hx hn).1).F.g _ _ e;have g2:=(pg.ro v hx).F.g _ _ hs;have e1:gv L (Qt N L T Q) y v=rk L r:=hr;have e2:gv L (Qt N L T Q) v v=_:=hrv;rw[MA g1.2 g2.2 (by rw[g1.1]) hc.d4 oM]
variable{m c:Nat}{lf sp:Int}{G:List Lnk}{U U':List Bool}{d d':Nat→Int}{F:List (Int × LS.Rec)}{lu nu:Nat→Bool}
theorem MX(z:GOk N G U)(z':GOk N G U')(hcl:∀i n m c,C n->Ed G U' i n m c->C m)(hE:∀i n m c,C n->(Ed G U i n m c↔Ed G U' i n m c))(hx:C x)(h:IsDist N G U x d)(h':IsDist N G U' x d')(hn:n<N):d n=d' n:=by
 have hC:∀(k n:Nat),n<N->d n=k->C n:=by
  intro k
  induction k using Nat.strongRecOn with
  | _ k ih=>
    intro n hn hk
    by_cases e:n=x
    ·rw[e];exact hx
    have ⟨i,m,c,h1,h2,h3⟩:=h.sup n hn oM e;have ⟨_,hm,_,hc,_⟩:=z.ed h1;have:=ih (d m).toNat oM m hm oM;exact hcl i m n c this ((hE i m n c this).1 h1.sym)
 refine RV z' ⟨h.fr,h.lo,λn hn h0 e=>?_,λi n m c e h0=>?_⟩ h' hn
 ·have ⟨i,m,c,h1,h2,h3⟩:=h.sup n hn h0 e
  exact⟨i,m,c,(hE i n m c (hC (d n).toNat n hn oM)).1 h1,h2,h3⟩
 ·have ⟨_,hm,_,_⟩:=z'.ed e
  have:=hC (d m).toNat m hm oM;exact h.clo i n m c ((hE i m n c this).2 e.sym).sym h0
def iQ(L:List LS.Lnk)(lu nu:Nat->Bool):List Bool:=(List.range L.length).map λ(i:Nat)=>TG.upI L lu nu (i:Int)
theorem oC(hc:CvL N L)(h:(tL L)[i]?=some (n,m,c)):i∈ownL L n/\i∈ownL L m/\far L n i=m/\L[i]?.getD (0,0,0)=((n:Int),(m:Int),((L[i]?.getD (0,0,0)).2.2))/\i<L.length:=by
 unfold tL at h;rw[cq]at h;cases e:L[i]? with
 |none=>rw[e]at h;cases h
 | some y=>
   have ⟨a,b,cc⟩:=y;rw[e]at h;have h1:=hc.l.e _ (mG e);simp only[Option.map_some,toL,Option.some.injEq,Prod.mk.injEq]at h;obtain⟨rfl,rfl,_⟩:=h;have hi:i<L.length:=by
    rcases Nat.lt_or_ge i L.length with q|q
    ·exact q
    ·rw[jR q]at e;cases e
   have hg:L.getD i (0,0,0)=(a,b,cc):=by rw[getD_eq_getElem?_getD,e];rfl
   have h1:(0<=a/\a<N)/\(0<=b/\b<N):=h1;refine⟨jm.2 (aH ⟨oM,oM,?_⟩),jm.2 (aH ⟨oM,oM,?_⟩),?_,?_,hi⟩
   ·rw[Int.toNat_natCast,hg];left;show a=_;omega
   ·rw[Int.toNat_natCast,hg];right;show b=_;omega
   ·unfold far;rw[hg];show(a+b-(a.toNat:Int)).toNat=_;omega
   ·simp only[Option.getD_some,Prod.mk.injEq];exact⟨oM,oM,trivial⟩
theorem MY{f:Int->Int->Bool}(hL:L.length<=64)(hi:i<L.length):(LS.fw f L)[i]?=some (f ((L[i]?.getD (0,0,0)).1) (i:Int)&&f ((L[i]?.getD (0,0,0)).2.1) (i:Int)):=by unfold LS.fw;rw[aj oM,cq,List.getElem?_range hi];rfl
theorem MZ(hi:i<L.length):(iQ L lu nu)[i]?=some (TG.upI L lu nu (i:Int)):=by unfold iQ;rw[cq,List.getElem?_range hi];rfl
theorem M3(hc:CvL N L)(hx:x<N)(hn:nu x=true)(hF:∀v,v<N->nu v=true->Conn L lu nu v x->∃s,look F (v:Int)=some ((v:Int),s,dK L lu nu v))(hy:Conn L lu nu x n):Ed (tL L) (LS.fw (LS.lsB F) L) i n m c↔Ed (tL L) (iQ L lu nu) i n m c:=by
 have kn:∀v,Conn L lu nu x v->∀j,j∈ownL L v->LS.lsB F (v:Int) (j:Int)=TG.upI L lu nu (j:Int):=λv hv j hj=>by have ⟨a,b⟩:=hv.lt hc hx hn;have ⟨s,hs⟩:=hF v a b hv.sym;unfold LS.lsB LS.gotR;rw[hs];exact MM hj
 have main:∀{a b:Nat},(tL L)[i]?=some (a,b,c)->(Conn L lu nu x a∨Conn L lu nu x b)->((LS.fw (LS.lsB F) L)[i]?=some true↔(iQ L lu nu)[i]?=some true):=fun {a b} h q=>by
  have ⟨h1,h2,h3,h4,h5⟩:=oC hc h;have ea:(L[i]?.getD (0,0,0)).1=(a:Int):=by rw[h4]
  have eb:(L[i]?.getD (0,0,0)).2.1=(b:Int):=by rw[h4]
  rw[MY hc.l.l h5,MZ h5,ea,eb,Option.some.injEq,Option.some.injEq,Bool.and_eq_true];constructor
  ·rintro ⟨ha,hb⟩
   rcases q with q|q
   ·rw[kn a q i h1]at ha;exact ha
   ·rw[kn b q i h2]at hb;exact hb
  ·intro hu
   have ad:=jT hc h1 hu;rw[h3]at ad;have qa:Conn L lu nu x a:=by
    rcases q with q|q
    ·exact q
    ·exact .step q ad.sym
   exact⟨(kn a qa i h1).trans hu,(kn b (.step qa ad) i h2).trans hu⟩
 unfold Ed;constructor
 ·rintro ⟨a,b|b⟩
  ·exact⟨(main b (.inl hy)).1 a,.inl b⟩
  ·exact⟨(main b (.inr hy)).1 a,.inr b⟩
 ·rintro ⟨a,b|b⟩
  ·exact⟨(main b (.inl hy)).2 a,.inl b⟩
  ·exact⟨(main b (.inr hy)).2 a,.inr b⟩
theorem qXu(hc:CvL N L)(P:Pln N L lf sp){de k:Int}{T:Pst}{Q:Nat}(z:Quiet N L de k T Q)(hQ:de+2*N+9<=Q)(hx:x<N)(hn:T.nu x=true)(h:IsDist N (tL L) ((Qt N L T Q).R x).U x d)(h':IsDist N (tL L) (iQ L T.lu T.nu) x d'):∀j,j<N->d j=d' j:=λj hj=>by
 have hde:1<=de:=by have ⟨B,b,_⟩:=z.pg 0 (dx _);exact b.de.1
 have hv:((Qt N L T Q).R x).U=LS.fw (LS.lsB ((Qt N L T Q).R x).F) L:=by
  obtain⟨s,rfl⟩:∃s,Q=s+1:=⟨Q-1,oM⟩
  have ⟨a,b,_⟩:=pR (N:=N) (L:=L) (T:=T) s;show((ph2 N L (Qt N L T s) N).R x).U=LS.fw (LS.lsB ((ph2 N L (Qt N L T s) N).R x).F) L;rw[oB,ak ⟨hx,by rw[b];exact hn⟩];rfl
 have l1:((Qt N L T Q).R x).U.length=L.length:=by have ⟨B,b,pg⟩:=z.pg Q (Nat.le_refl _);exact(pg.ro x hx).U
 have l2:(iQ L T.lu T.nu).length=L.length:=by unfold iQ;simp
 refine MX (C:=Conn L T.lu T.nu x) (P.vld l1).gok.1 (P.vld l2).gok.1 (λi n m c hC e=>?_) (λi n m c hC=>?_) .refl h h' hj
 ·rcases e.2 with q|q
  ·have ⟨h1,h2,h3,_,h5⟩:=oC hc q
   have hu:=e.1;rw[MZ h5,Option.some.injEq]at hu;have ad:=jT hc h1 hu;rw[h3]at ad;exact .step hC ad
  ·have ⟨h1,h2,h3,_,h5⟩:=oC hc q
   have hu:=e.1;rw[MZ h5,Option.some.injEq]at hu;have ad:=jT hc h1 hu;rw[h3]at ad;exact .step hC ad.sym
 ·rw[hv]
  exact M3 hc hx hn (λv a b hcn=>settle hc z hQ a b hcn) hC
end Go.AM.RT
namespace Go.AM.TG
open Go Go.Proofs List Nat
set_option maxRecDepth 100000
variable{K:AV→Hq→Prop}{s s':Hq}{t:Bool}{g:Nat}{lv:AV}{N:Nat}{lu nu:Nat→Bool}{L:List Lk}{n:Int}
theorem GRd.frz(h:GRd t s g lv N L lu nu):GRd true (frz s) g lv N L lu nu:=by have ⟨⟨a,b,c,d,h1,h2⟩,h3,h4⟩:=h;exact⟨⟨a,b,c,d,eK h1,h2⟩,h3.frz,h4⟩
theorem Flags_in(h:GRd t s g lv N L lu nu)(hK:∀v s',Sub s s'->Sl s' v ((RT.iQ L lu nu).map AV.bool)->K v s'):wC TP 37 [Pp g] K s:=by
 refine qL9 (fk h ?_);have hll:=h.lok.ll;simp only[cQ,Bool.not_true,ae,aR,bQ,aK,zAY,h.r1,h.lenL,nat?_mk];refine⟨⟨Nat.le_refl _,oM⟩,aI λc s1 hc h1 u1=>?_⟩;have sub1:=u1.sub hc;have h1:Hc s1 c 4 (((List.range 0).map λ(i:Nat)=>AV.bool (upI L lu nu (i:Int)))++replicate (L.length-0) (.bool false)):=by rw[h1,ig];simp
 simp only[ge,ae];refine⟨λys s2 n=>∃i:Nat,ys=[Ii i]/\i<=L.length/\n=L.length-i/\Sub s s2/\Hc s2 c 4 (((List.range i).map λ(i:Nat)=>AV.bool (upI L lu nu (i:Int)))++replicate (L.length-i) (.bool false)),⟨_,0,rfl,oM,rfl,sub1,h1⟩,?_⟩;rintro f s2 n ⟨i,hy,hi,rfl,sub2,h2⟩;simp only[cI,aq]at hy;rw[hy];simp only[RN,bu,ae,aS];refine aL (λhlt=>?_) (λhge=>?_)
 ·have hlt:i<L.length:=by have:=oT hlt;omega
  refine Up_in (h.sub sub2) λs3 sub3=>?_;have ea:cF 1 (.slc c 0 L.length (some L.length) 1) i=some (.ptr c i):=by
   have:blt i L.length=true:=by rw[blt_eq];exact hlt
   simp[cF,this]
  simp only[ea,ae];refine cw (sub3 _ _ h2) (by simp;omega) rfl λs4 h4 u4=>?_;simp only[bg,ae];rw[aT];refine⟨_,oM,i+1,rfl,oM,rfl,(sub2.trans sub3).upto u4 hc,?_⟩;rw[h4]
  congr 3
  have e1:L.length-i=(L.length-(i+1))+1:=oM;rw[e1,replicate_succ,set_append_right _ _ sI,lMY,length_range,Nat.sub_self,set_cons_zero,fi,bM,append_assoc];rfl
 ·have hge:i=L.length:=by have:=oF hge;omega
  subst hge;refine hK _ s2 sub2 ?_;rw[Nat.sub_self,List.replicate_zero,append_nil]at h2;have e:(RT.iQ L lu nu).map AV.bool=(List.range L.length).map λ(i:Nat)=>AV.bool (upI L lu nu (i:Int)):=by unfold RT.iQ;rw[map_map];rfl
  exact Sl.mk (h2.trans (by rw[e])) (by rw[e];simp) (λc q=>by rw[e];cases q;simp)
end Go.AM.TG
namespace Go.AM.RT
open Go Go.Proofs List Nat
set_option maxRecDepth 100000
variable{F:TN.NFab}{T:Pst}{k t:Nat}
theorem pS(h:Rch F k T):∀t,Rch F (k+t) (Qt (nF F) F.L T t)
 | 0=>h
 |t+1=>.step (pS h t) .no
theorem oD(ok:TN.NFok F):CvL (nF F) F.L:=⟨lK ok,λy hy=>by have ⟨a1,a2,_⟩:=ok.L.2 y hy;omega,own4I ok⟩
theorem TO(ok:TN.NFok F)(h:Rch F k T)(hk:k<=40){Q:Nat}(hQ:Q<=60):Quiet (nF F) F.L (F.x.de:Int) (k:Int) T Q:=⟨λt ht=>by have hde:=ok.x.de;have:=vU ok (pS h t) oM;refine⟨2*((k+t:Nat):Int),⟨oM,oM,oM⟩,?_⟩;rw[show(k:Int)+(t:Int)=((k+t:Nat):Int)by omega];exact this,MW h⟩
theorem M5(ok:TN.NFok F)(h:Rch F k T)(hk:k<=40):∀t,t<=60->(Qt (nF F) F.L T t).way.length<=12000000+(min t 4)*680000+t*200+(if 4<=t then 4*Phi (nF F) F.L (Qt (nF F) F.L T t).R else 0):=by
 have hde:=ok.x.de;have h1:=ok.x.lf;have h2:=ok.x.sp;have hN:nF F<=7:=(jP ok).2.2;have hN1:1<=nF F:=by show 1<=F.x.lf+F.x.sp;omega
 have p3:nF F*(4*nF F)<=7*(4*7):=Nat.mul_le_mul hN (Nat.mul_le_mul_left 4 hN);intro t
 induction t with
 | zero=>
   intro _;have:=v8 ok h oM;have h0:T.way.length<=12000000:=oM;exact Nat.le_trans h0 sI
 | succ t ih=>
   intro ht;have ih:=ih oM;have g:=vU ok (pS h t) oM;have b:Bnd (2*((k+t:Nat):Int)) ((k+t:Nat):Int) (F.x.de:Int):=⟨oM,oM,oM⟩
   have l1:=LI (lK ok) b (own4I ok) g (Qt (nF F) F.L T t).way.length;have l2:=LJ (lK ok) b (own4I ok) g hN1 (nF F) (Nat.le_refl _);have p:=ou (N:=nF F) (L:=F.L) (R:=(ph1 (nF F) F.L (Qt (nF F) F.L T t) (Qt (nF F) F.L T t).way.length).R) (λn hn=>((kK (lK ok) b g (Qt (nF F) F.L T t).way.length).1 n hn).F) (own4I ok) (b:=201) oM;have p2:nF F*(nF F*(201*17+17))<=7*(7*(201*17+17)):=Nat.mul_le_mul hN (cV _ hN);show(ph2 (nF F) F.L (Qt (nF F) F.L T t) (nF F)).way.length<=_
   by_cases c:4<=t
   ·rw[ak c]at ih
    rw[ak oM];have z:=TO ok h hk (Q:=60) oM;have hW:WOk (nF F) F.L (Qt (nF F) F.L T t):=by have ⟨B,b,pg⟩:=z.pg 0 (dx _);exact wE (T:=T) pg z.hh oM oM
    have hO:jr (nF F) F.L (Qt (nF F) F.L T t):=by
     obtain⟨s,rfl⟩:∃s,t=s+1:=⟨t-1,oM⟩
     have ⟨B,b,pg⟩:=z.pg s oM;exact TL (oD ok) b pg hW
    have e:=(wA (oD ok) b g hW hO).f;have eP:Phi (nF F) F.L (Qt (nF F) F.L T (t+1)).R=Phi (nF F) F.L (ph1 (nF F) F.L (Qt (nF F) F.L T t) (Qt (nF F) F.L T t).way.length).R:=by
     unfold Phi
     congr 1
     exact cK λn _=>by rw[show((Qt (nF F) F.L T (t+1)).R n).F=_ from e n]
    rw[eP];omega
   ·rw[aj c]at ih
    have:(if 4<=t+1 then 4*Phi (nF F) F.L (Qt (nF F) F.L T (t+1)).R else 0) ≥ 0:=dx _;omega
theorem M6(ok:TN.NFok F)(h:Rch F k T)(hk:k<=40)(ht:t<=59):TickOk (nF F) F.L (Qt (nF F) F.L T t):=by
 have hN:nF F<=7:=(jP ok).2.2;have bnd:∀t,t<=60->(Qt (nF F) F.L T t).way.length<=16777216:=λt ht=>by have:=M5 ok h hk t ht;have g:=vU ok (pS h t) oM;have p:=ou (N:=nF F) (L:=F.L) (R:=(Qt (nF F) F.L T t).R) (λn hn=>(g.ro n hn).F) (own4I ok) (b:=201) oM;have p2:nF F*(nF F*(201*17+17))<=7*(7*(201*17+17)):=Nat.mul_le_mul hN (cV _ hN);split at this<;>omega
 exact Tq ok (pS h t) oM .no (bnd (t+1) oM) (bnd t oM)
variable{K:AV→Hq→Prop}{r s t t' M q:Hq}{pl g n:Nat}{wv:AV}{L:List LS.Lnk}{l2 rs:List Hq}{cs:List AV}{now:Int}{E:Hq}{T':Pst}{m:Nat}
theorem M7{lv:AV}{ch:List ChR}(ok:TN.NFok F)(hF:TN.NFR s cs F)(hl:SlR 3 s lv (ch.map chC))(h40:ch.length<=40)(hK:∀t' E M k T,Sub s M->k<=40->Rch F k T->∀pl,PlW F cs t' pl E M (Qt (nF F) F.L T (F.x.de+3*nF F+16))->K (Pp pl) t'):wC TP 34 [.agg cs,lv] K s:=by
 obtain⟨clen,_⟩:=kJ hF;have ones:aX cs=true:=by
  obtain⟨v2,v3,v4,v5,v6,v7,hcs,h2,h3,h4,h5,h6,h7⟩:=hF.ex
  grind [TN.csF,dh,rZ,SlR.one,TN.SgR.one,xj,xk]
 refine qIo ⟨ones,aI λb0 s1 hb0 h1 u1=>?_⟩;have k1:=u1.sub hb0;have h1:Hc s1 b0 52 cs:=h1;refine aE (bX h1 clen) (Lb ok (hF.sub k1) λt2 pl M0 k2 kM z2=>?_);have e4:negB false (eqV 3 true (Pp pl) .nilptr)=some false:=rfl;simp only[e4,ae,aR];have l2:cM lv=some ch.length:=by rw[hl.len,lMY]
 have hlM:SlR 3 M0 lv (ch.map chC):=hl.sub (k1.trans kM);have mt:∀{t:Hq}{E M:Hq}{T:Pst},PlW F cs t pl E M T->Sub M t:=λ⟨ar,g,wv,glv,G,q,rs,ps,zp⟩=>zp.sep.sub _ sI;refine⟨λys t m=>∃(i:Nat) (T:Pst) (E M:Hq),ys=[Ii i]/\i<=ch.length/\m=ch.length-i/\Rch F i T/\Sub M0 M/\PlW F cs t pl E M T,⟨_,0,pst0 F,_,M0,rfl,oM,rfl,.zero,.refl _,z2⟩,?_⟩;rintro f t m ⟨i,T,E,M,hy,hi,rfl,hr,kM',z⟩;simp only[cI,aq]at hy;rw[hy];simp only[RQ,l2,ae,bu,bG,aS];refine aL (λhlt=>?_) (λhge=>?_)
 ·have hlt:i<ch.length:=by have:=oT hlt;omega
  have ⟨b,o,g1,g2,_⟩:=(hlM.sub (kM'.trans (mt z))).get (i:=i) (r:=chC ch[i]) gR;simp only[g1,ae];refine aE g2 (zW ok z λt3 T' hc z3=>?_);have tk:=LM F i T T' ok hr oM hc;have hnow:T'.now=i:=by rw[vP hc,vQ hr]
  refine Th ok z3 tk ⟨oM,oM⟩ λt4 E4 M4 k4 z4=>?_;simp only[cQ,Bool.not_true,ae,aR,bg];rw[aT];exact⟨_,oM,i+1,_,E4,M4,sI,oM,rfl,.step hr hc,kM'.trans k4,z4⟩
 have xlf:=ok.x.lf;have xsp:=ok.x.sp;have xde:=ok.x.de;have hb:Hc t b0 52 cs:=mt z _ _ (kM' _ _ (kM _ _ h1));have ⟨v2,v3,v4,v5,v6,v7,hcs,_⟩:=hF.ex;have r13:rd1 t (.ptr b0 (0+13+0))=some (Ii F.x.de):=by rw[au hb,hcs];rfl
 have r0:rd1 t (.ptr b0 (0+0))=some (Ii F.x.lf):=by rw[au hb,hcs];rfl
 have r1:rd1 t (.ptr b0 (0+1))=some (Ii F.x.sp):=by rw[au hb,hcs];rfl
 simp only[aK,ae,r13,r0,r1,bg,oX];rw[aT (n:=(F.x.lf:Int)+(F.x.sp:Int)),aT (n:=3*((F.x.lf:Int)+(F.x.sp:Int))),aT (n:=(F.x.de:Int)+3*((F.x.lf:Int)+(F.x.sp:Int))),aT];refine⟨λys t m=>∃(j:Nat) (E M:Hq),ys=[Ii j]/\j<=F.x.de+3*nF F+16/\m=F.x.de+3*nF F+16-j/\Sub M0 M/\PlW F cs t pl E M (Qt (nF F) F.L T j),⟨_,0,E,M,rfl,oM,rfl,kM',z⟩,?_⟩;rintro f t m ⟨j,E,M,hy,hj,rfl,kM',z⟩;simp only[cI,aq]at hy;rw[hy];simp only[RO,bu,ae,aS];refine aL (λhlt=>?_) (λhge=>?_)
 ·have hlt:j<F.x.de+3*nF F+16:=by have:=oT hlt;show j<F.x.de+3*(F.x.lf+F.x.sp)+16;omega
  have hnow:(Qt (nF F) F.L T j).now=((i+j:Nat):Int):=by rw[vQ (pS hr j)]
  refine Th ok z (M6 ok hr oM (by show j<=59;have:nF F=F.x.lf+F.x.sp:=rfl;omega)) ⟨oM,by rw[hnow];have:nF F=F.x.lf+F.x.sp:=rfl;omega⟩ λt4 E4 M4 k4 z4=>?_;simp only[cQ,Bool.not_true,ae,aR,bg];rw[aT oM (by have:nF F=F.x.lf+F.x.sp:=rfl;omega)];exact⟨_,oM,j+1,E4,M4,sI,oM,rfl,kM'.trans k4,z4⟩
 ·have hge:j=F.x.de+3*nF F+16:=by have:=oF hge;have:nF F=F.x.lf+F.x.sp:=rfl;omega
  subst hge;exact hK t E M i T ((k1.trans kM).trans kM') oM hr pl z
variable{h:Hq}{v:AV}
theorem M8(a l a' l':Int):fF TP 105 (.agg [Iw a,l]) (.agg [Iw a',l'])=TN.mB (some (eqI a a')) (TN.mB (some (eqI l l')) (some true)):=kR
theorem eq105'{a l:Int}:fF TP 105 (.agg [Iw a,l]) (.agg [Iw a,l])=some true:=by
 grind [M8,TN.jo,TN.mB]
def wrow(dd:Nat->Int)(i:Nat):List (List AV):=((List.range i).filter λm=>decide (0<dd m)).map λm=>[Iw (lbk m),(dd m:Int)]
theorem TQ{dd:Nat->Int}{i:Nat}:wrow dd (i+1)=wrow dd i++if 0<dd i then[[Iw (lbk i),Ii (dd i)]]else[]:=by
 unfold wrow;rw[fi,fX,bM]
 grind
theorem M9{dd:Nat->Int}{i:Nat}:(wrow dd i).length<=i:=by unfold wrow;rw[lMY];exact Nat.le_trans (eD _ _) sI
theorem Na{x N:Nat}{G:List Lnk}{U:List Bool}{d d':Nat->Int}(z:GOk N G U)(h':IsDist N G U x d')(e:∀j,j<N->d j=d' j):jc x d N=wrow d' N:=by
 unfold jc wrow;have:(List.range N).filter (λm=>decide (m≠x/\0<=d m))=(List.range N).filter λm=>decide (0<d' m):=by
  refine filter_congr λm hm=>?_;have hm:=dr.1 hm;rw[e m hm,decide_eq_decide];constructor
  ·rintro ⟨a,b⟩
   have ⟨i,j,c,h1,h2,h3⟩:=h'.sup m hm b a;have:=(z.ed h1).2.2.2.1;omega
  ·intro a
   refine⟨?_,oM⟩;rintro rfl;have:=h'.fr;omega
 rw[this];refine cK λm hm=>?_;rw[e m (dr.1 (mem_filter.1 hm).1)]
theorem Nb{dd:Nat->Int}{b N:Nat}{p7 n8:AV}{I1:List AV->Hq->Nat->Prop}{m1:Nat}(hN:N<=32)(hb:Hc s b 3 (AM.dl N dd))(hd:∀m,m<N->-1<=dd m/\dd m<=32000)
  (hK:∀t v,Sub s t->SlR 2 t v (wrow dd N)->∀(I3:List AV->Hq->Nat->Prop) (m3:Nat),tG p7 n8 (.slc b 0 N (some N) 1) v N I3 m3 I1 m1 K t) :
  ∃I3:List AV->Hq->Nat->Prop,(∃m,I3 [.nilslc,(Ii 0)] s m)/\∀(f:Env) (s:Hq) (m3:Nat),I3 [f 10,f 11] s m3->tG p7 n8 (.slc b 0 N (some N) 1) (f 10) (f 11) I3 m3 I1 m1 K s:=by
 refine⟨λys t m=>∃(i:Nat) (sv:AV),ys=[sv,i]/\i<=N/\m=N-i/\Sub s t/\AccR 105 2 s t sv (wrow dd i),⟨_,0,.nilslc,rfl,oM,rfl,.refl _,⟨λr h=>(nomatch h),.inl ⟨rfl,rfl⟩⟩⟩,?_⟩;rintro f t m ⟨i,sv,hy,hi,rfl,kt,ac⟩;simp only[cI,aq]at hy;rw[hy.1,hy.2]
 by_cases hlt:i<N
 ·generalize hI0:(λ(ys:List AV) (t:Hq) (m:Nat)=>∃(i:Nat) (sv:AV),ys=[sv,i]/\i<=N/\m=N-i/\Sub s t/\AccR 105 2 s t sv (wrow dd i))=I0
  unfold tG;have l9:cM (.slc b 0 N (some N) 1)=some N:=rfl;simp only[l9,bu,ae,aH (show(i:Int)<(N:Int)by omega),bD];have sl:Sl t (.slc b 0 N (some N) 1) (AM.dl N dd):=Sl.mk (kt _ _ hb) ij.symm (λc q=>by cases q;rw[ij];exact Nat.le_refl _);have ⟨q,g1,g2⟩:=sl.get (i:=i) (by rw[ij];exact hlt);have g2:rd1 t q=some (Ii (dd i)):=by grind [AM.dl]
  have next:∀sv' t',Sub s t'->AccR 105 2 s t' sv' (wrow dd (i+1))->zK sv' i I0 (N-i) I1 m1 K t':=λsv' t' k' a'=>by simp only[zK,bg,ae,aS];rw[aT,<- hI0];exact⟨_,oM,i+1,sv',sI,oM,rfl,k',a'⟩
  simp only[g1,g2,ae,dy];refine aL (λhn=>?_) (λhn=>?_)
  ·refine⟨t,.refl t,?_⟩
   rw[gT];refine aE g2 (ot (n:=i) oM ?_);rw[ke];refine aE (a:=[Iw (lbk i),(dd i:Int)]) rfl (aE (a:=[Iw (lbk i),(dd i:Int)]) rfl ⟨rfl,aI λc t2 hc w2 u2=>?_⟩);have k2:=u2.sub hc;have ac2:AccR 105 2 s t2 sv (wrow dd i):=⟨ac.1,ac.2.imp id λ⟨c,q1,q2,q3⟩=>⟨c,q1,q2,k2 _ _ q3⟩⟩
   have old:∀b,cN 2 sv b->s b=none/\t b≠none:=λb ⟨_,_,_,e⟩=>by
    rcases ac.2 with⟨q1,_⟩|⟨c',q0,q1,q2⟩
    ·rw[e]at q1;cases q1
    grind
   refine uN ac2 (kt.trans k2) (SlR.mk (rows:=[[Iw (lbk i),(dd i:Int)]]) ((by simp_all)) (t:=false) (e:=105) (by rw[w2];rfl) rfl sI) (λb o m c' e q=>?_) ?_ λv' t3 a3 kp _=>?_
   ·grind
   ·grind [wrow]
   ·refine next _ _ (λj e hj=>kp j e (k2 _ _ (kt _ _ hj)) λq=>gR) ?_
    grind [TQ]
  ·refine next _ _ kt ?_
   rw[TQ,aj (by have:=oF hn;omega),append_nil];exact ac
 ·obtain rfl:i=N:=oM
  exact hK t sv kt ac.sl _ _
variable{s':Hq}{rsl:AV}{l1:List Hq}
theorem qXJ{fv lv:AV}{fl:List Int}{ch:List ChR}(kn:AH)(hf:Sl s fv (fl.map (AV.int .i64)))(hfl:fl.length<=9223372036854775807)(hb:∀x∈fl,-9223372036854775808<=x/\x<=9223372036854775807)(hl:SlR 3 s lv (ch.map chC))(hK:∀s',K true s'):wC TP 6 [fv,lv] K s:=by
 refine qFL (kn _ _ λs1 ks=>?_);have hf:=hf.sub ks;have hl:=hl.sub ks;have l1:cM fv=some fl.length:=by rw[hf.len,lMY]
 have l2:cM lv=some ch.length:=by rw[hl.len,lMY]
 simp only[l1,l2,ae,dy];refine aL (λh=>?_) (λh=>?_)
 ·grind [zL,cy,cP,bD]
 rw[h];unfold zL;simp only[ct,ae];refine aL (λ_=>hK _) (λh40=>?_);have h40:ch.length<=40:=by have:=oF h40;omega
 refine TN.JO hf hfl hb λt1 cs F k1 ok hF _=>?_;have ⟨clen,_⟩:=kJ hF;have ones:aX cs=true:=by
  have ⟨v2,v3,v4,v5,v6,v7,hcs,h2,h3,h4,h5,h6,h7⟩:=hF.ex
  grind [TN.csF,dh,rZ,SlR.one,TN.SgR.one,xj,xk]
 refine aI λb8 t2 hb8 w2 u2=>cD w2 clen rfl ones λt3 w3 u3=>aE (bX w3 clen) ?_;have k3:Sub t1 t3:=(u2.sub hb8).upto u3 hb8;refine M7 ok (hF.sub k3) (hl.sub (k1.trans k3)) h40 λt4 E M k T kM hk hr pl z=>?_;have e4:negB false (eqV 3 true (Pp pl) .nilptr)=some false:=rfl;simp only[e4,ae,aR];have ⟨ar,g,wv,glv,G,q,rs,ps,zp⟩:=z;have ⟨_,_,hN7⟩:=jP ok;have kMt:Sub M t4:=zp.sep.sub M sI;have kG:Sub G t4:=zp.sep.sub G sI;have hpl:=zp.sep.sub (one pl (false,.cells 96 (plC cs g (.slc ar 0 (nF F) none 1) wv (Qt (nF F) F.L T (F.x.de+3*nF F+16)).now))) sI _ _ bW;have har:=zp.sep.sub (one ar (false,.cells 22 (ps.map λp=>Pp p))) sI _ _ bW;have hc8:Hc t4 b8 52 cs:=kMt _ _ (kM _ _ w3);have ⟨v2,v3,v4,v5,v6,v7,hcs,hlk,_⟩:=hF.ex;have lun:=pR (N:=nF F) (L:=F.L) (T:=T) (F.x.de+3*nF F+16);have xlf:=ok.x.lf;have xsp:=ok.x.sp;have xde:=ok.x.de;have eN:nF F=F.x.lf+F.x.sp:=rfl;refine⟨λys t m=>∃i:Nat,ys=[Ii i]/\i<=nF F/\m=nF F-i/\Sub t4 t,⟨_,0,rfl,oM,rfl,.refl _⟩,?_⟩;rintro f t m ⟨i,hy,hi,rfl,kt⟩;simp only[cI,aq]at hy;rw[hy];generalize hI1:(λ(ys:List AV) (t:Hq) (m:Nat)=>∃i:Nat,ys=[Ii i]/\i<=nF F/\m=nF F-i/\Sub t4 t)=I1;unfold RS;simp only[bQ,aK,zAY,ae,au (kt _ _ hpl),pl20 (g:=g) (rsl:=.slc ar 0 (nF F) none 1) (wv:=wv) clen,pl19 (g:=g) (rsl:=.slc ar 0 (nF F) none 1) (wv:=wv) clen,ge,bu];refine aL (λhlt=>?_) (λhge=>hK _);have hlt:i<nF F:=by have:=oT hlt;omega
 have next:∀t',Sub t4 t'->zJ i I1 (nF F-i) K t':=λt' k'=>by simp only[zJ,bg,ae,aS];rw[aT,<- hI1];exact⟨_,oM,i+1,sI,oM,rfl,k'⟩
 have hg:=zp.gr.sub (kG.trans kt);refine TG.Alive_in hg ?_;simp only[cQ,ae];have eal:TG.aliveI (nF F) (Qt (nF F) F.L T (F.x.de+3*nF F+16)).nu (i:Int)=T.nu i:=by unfold TG.aliveI;rw[aH oM,lun.2.1];rfl
 rw[eal];refine aL (λ_=>next t kt) (λhal=>?_);have hal:T.nu i=true:=by simpa using hal
 refine⟨t,.refl t,?_⟩;have rd0:rd1 t (.ptr b8 (0+0))=some (Ii F.x.lf):=by rw[au (kt _ _ hc8),hcs];rfl
 have rd1':rd1 t (.ptr b8 (0+1))=some (Ii F.x.sp):=by rw[au (kt _ _ hc8),hcs];rfl
 have rd2:rd1 t (.ptr b8 (0+2))=some v2:=by rw[au (kt _ _ hc8),hcs];rfl
 have rdp:rd1 t (.ptr pl (0+19))=some (.ptr g 0):=by rw[au (kt _ _ hpl),zAY,pl19 clen]
 simp only[aK,bQ,rd0,rd1',rd2,rdp,ae,bg];rw[gT];refine TG.Flags_in hg.frz λuv s1 ks1 hu=>?_;have ka:Sub t (add t s1):=λ_ _ h=>cU h;rw[aT (n:=(F.x.lf:Int)+(F.x.sp:Int))];refine pD (U:=RT.iQ F.L (Qt (nF F) F.L T (F.x.de+3*nF F+16)).lu (Qt (nF F) F.L T (F.x.de+3*nF F+16)).nu) (hlk.sub ((((k3.trans kM).trans kMt).trans kt).trans ka)) (by have:=ok.Ln;omega) (hu.addf ks1) λdv s3 ks3 _ hd=>?_;obtain⟨d',db,hdist,hdb,rfl,_,hdc⟩:=hd (nF F) i ((pO ok).vld (by unfold RT.iQ;simp)) oM hlt rfl;refine Nb oM hdc hdb λt5 wv' k5 hw I3 m3=>?_;have kt5:Sub t4 t5:=((kt.trans ka).trans ks3).trans k5;unfold tG;have l9:cM (.slc db 0 (nF F) (some (nF F)) 1)=some (nF F):=rfl;have ⟨p,hp⟩:∃p,ps[i]?=some p:=⟨ps[i]'(by rw[zp.pn];exact hlt),gE _⟩
 have ⟨r,hr'⟩:∃r,rs[i]?=some r:=⟨rs[i]'(by rw[zp.rl];exact hlt),gE _⟩
 have ⟨a1,a2⟩:=AF zp.pn hp (kt5 _ _ har);simp only[l9,bu,ae,aC (show ¬(nF F:Int)<(nF F:Int)by omega),aR,bQ,aK,zAY,au (kt5 _ _ hpl),pl20 (g:=g) (rsl:=.slc ar 0 (nF F) none 1) (wv:=wv) clen,a1,a2];have kr:Sub r t4:=zp.sep.sub r (mem_append_right _ (mG hr'));refine Me oM (kr.trans kt5) (zp.ro i r p hr' hp) λt6 rv dd k6 hdd hrv=>?_;have ed:=qXu (oD ok) (pO ok) (TO ok hr hk (Q:=F.x.de+3*nF F+16) oM) oM hlt hal hdd (by rw[lun.1,lun.2.1]at hdist;exact hdist);have gok:=((pO ok).vld (L:=F.L) (U:=RT.iQ F.L (Qt (nF F) F.L T (F.x.de+3*nF F+16)).lu (Qt (nF F) F.L T (F.x.de+3*nF F+16)).nu) (by unfold RT.iQ;simp)).gok.1;rw[Na gok hdist ed]at hrv;refine TE hrv (hw.sub k6) (Nat.le_trans M9 oM) (λrow hrow=>?_) ?_
 ·unfold wrow at hrow
  obtain⟨j,_,rfl⟩:=aG.1 hrow;exact eq105'
 simp only[cQ,Bool.not_true,ae,aR];exact next t6 (kt5.trans k6)
theorem Nc{P:Program}{d:Nat}{t u:TypeId}{xs:List AV}(h:ArgL P s d [t,u] xs):∃a b,xs=[a,b]/\Arg P s d t a/\Arg P s d u b:=by
 match xs,h with
 |[a,b],⟨h1,h2,_⟩=>exact⟨a,b,rfl,h1,h2⟩
theorem Converges_wp(kn:AH)(s:Hq)(xs:List AV)(h:ArgL TP s 40 [25,86] xs):wC TP 6 xs (λv _=>v=true) s:=by obtain⟨a,b,rfl,h1,h2⟩:=Nc h;have ⟨fl,hf,hb,hl⟩:=LN (d:=38) h1;have ⟨ch,hc⟩:=LP (d:=37) h2;exact qXJ kn hf (Nat.le_trans hl (by unfold maxLen;decide)) hb hc λ_=>rfl
end Go.AM.RT
