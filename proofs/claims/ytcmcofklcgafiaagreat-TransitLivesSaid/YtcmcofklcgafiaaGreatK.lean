/- Part K of the proof: see the last part. -/
import Derived.Test.YtcmcofklcgafiaaGreatH
import Derived.Test.YtcmcofklcgafiaaGreatV2
import Derived.Test.YtcmcofklcgafiaaGreatD
set_option linter.unusedVariables false
namespace Go.AM.RT
open Go Go.Proofs List Nat
set_option maxRecDepth 100000
variable{K:AV→Hq→Prop}{r s s' t rv0 st rt rd:Hq}{p m d f N x:Nat}{lf sp:Int}{lv mv v w:AV}{wl:Wb}{U:List Bool}{L:List LS.Lnk}{X:List Hq}{cs:List AV}
theorem xI{F:TN.NFab}(ok:TN.NFok F):Pln (F.x.lf+F.x.sp) F.L (F.x.lf:Int) (F.x.sp:Int):=by have h1:=ok.x.lf;have h2:=ok.x.sp;have h3:=ok.Ln;refine⟨oM,oM,λy hy=>?_,oM⟩;have ⟨a1,a2,a3⟩:=ok.L.2 y hy;exact⟨oM,oM,oM,oM,oM⟩
theorem FabR.frz{F:TN.FG}(h:TN.FabR s cs F):TN.FabR (frz s) cs F:=by have ⟨v2,v3,v4,v5,v6,v7,e,hL⟩:=h;have ⟨vs,h1,h2,h3⟩:=hL.S;exact⟨v2,v3,v4,v5,v6,v7,e,⟨SlR.frz hL.L,SlR.frz hL.T,SlR.frz hL.B,⟨vs,SlR.frz h1,h2,λi q x a c=>⟨Sl.frz (h3 i q x a c).1,Sl.frz (h3 i q x a c).2⟩⟩,SlR.frz hL.H,SlR.frz hL.G⟩⟩
theorem rQ{cs:List AV}{tp:Bool}{e:TypeId}(h:s p=some (tp,.cells e cs))(c2:cs[2]?=some (Ii lf))(c3:cs[3]?=some (Ii sp))(h1:0<=lf/\lf<=32)(h2:0<=sp/\sp<=32)(hK:K (lf+sp:Int) s):wC TP 65 [Pp p] K s:=by
 refine N4 ?_;simp only[Cv,aO,ae,ao,aj h,zAY,c2,c3,aJ]
 grind [aC]
theorem H8{s t t':Hq}(k:Sub t t'):Sub (add s t) (add s t'):=λi e h=>by
 cases q:s i with
 |some y=>rw[bJ q]at h ⊢;exact h
 |none=>rw[aV q]at h ⊢;exact k i e h
def newG(de:Int)(L:List LS.Lnk)(M:List Bool):Ro:=⟨W0 de,false,0,0,[],LS.dA (LS.lsB []) L,M⟩
def new0(F:TN.NFab):Ro:=newG (F.x.de:Int) F.L []
theorem H9{M:List Bool}{b0 n:Nat}{de:Int}{I1:List AV->Hq->Nat->Prop}{m1:Nat}{o:Hq}(P:Pln N L lf sp)(hx:x<N)(hn:n=L.length)
  (z:Sep s (pC p x lf sp lv mv m d f false 0 .nilslc .nilslc::rv0 :: [st,rd,rt,o])) (hw:WsAt rv0 m wl (W0 de)) (hwl:wl.map (·.1)=ownL L x) (hl:SlR 3 st lv (L.map LS.lnR)) (hm:MsAt st mv x M) (hd:DbAt rd d N x 0 []) (ht:FB.Tab rt f N x L U (λ_=>FB.Zs))
  (hK:∀p r' s',RoAt N L lf sp x r' p ⟨W0 de,false,0,0,[],LS.dA (LS.lsB []) L,M⟩->Sep s' [r',o]->K (.tup [Pp p,Ii 0]) s') :
  lC (Pp b0) (Pp p) n n I1 m1 K s:=by
 have hp:=z.sub (pC p x lf sp lv mv m d f false 0 .nilslc .nilslc) sI _ _ aP;have hasc:LS.AscF []:=λk r h=>by cases h
 have hvl:(LS.dA (LS.lsB []) L).length=L.length:=by unfold LS.dA;rw[if_neg (by have:=P.l;omega)];simp
 unfold lC;simp only[aH,ae];rw[decide_eq_false oM,ay];have main:wC TP 69 [Pp d,lv] (λv_108 s_109=>wC TP 68 [Pp p,v_108] (λv_110 s_111=>K (.tup [Pp p,(Ii 0)]) s_111) s_109) s:=by
  have ⟨md,hd'⟩:=hd;refine LS.qH (ie hd' (z.sub rd sI)) hasc (hl.sub (z.sub st sI)) (by have:=P.l;omega) λv s1 sub1 hv hf=>?_;obtain⟨nb,hnb,hz⟩:∃nb:Hq,Sl nb v ((LS.dA (LS.lsB []) L).map AV.bool)/\Sep s1 (nb::(pC p x lf sp lv mv m d f false 0 .nilslc .nilslc::rv0 :: [st,rd,rt,o])):=by
   rcases hv with⟨e1,e2⟩|⟨b,o',c,e1,e2,e3⟩
   ·exact⟨λ_=>none,.inl ⟨e1,e2⟩,z.fresh1 sub1 (λi e hi=>by cases hi) λi hi=>absurd rfl hi⟩
   ·by_cases hn:(LS.dA (LS.lsB []) L).map AV.bool=[]
    ·exact⟨λ_=>none,.inr ⟨b,o',c,e1,e2,λq=>absurd hn q⟩,z.fresh1 sub1 (λi e hi=>by cases hi) λi hi=>absurd rfl hi⟩
    have ⟨t1,el,cs,q1,q2,q3⟩:=e3 hn;exact⟨one b (t1,.cells el cs),.inr ⟨b,o',c,e1,e2,(by grind [aP])⟩,z.fresh sub1 (hf _ _ _ _ e1) q1⟩
  have z2:=hz.idx [0,1,3,5,2,4,6] dE;have hd2:=(pairwise_cons.1 z2.dj).1 st sI;have z3:=Sep.take2 z2;refine PB P hx hvl z3 (hl.sub (ig hd2)) (hnb.sub λi e hi=>bJ hi) ht λs' st' rt' dv' Bf' z' k zt' ds'=>?_;have z4:Sep s' ([pC p x lf sp lv mv m d f false 0 v dv',st',rv0,rd,rt'] ++ [o]):=z'.idx [0,1,3,4,2,5] dE;have zp:=pairwise_append.1 z4.dj;have k2:=(ig hd2).trans k;refine hK p _ s' ⟨st',rv0,rd,rt',wl,m,d,f,lv,mv,v,dv',qV zp.1,?_⟩ (Sep.joinL z4);exact⟨hl.sub k2,hm.sub k2,(hnb.sub λi e hi=>bJ hi).sub k,ds',hw,hwl,⟨md,hd'⟩,⟨Bf',zt'⟩⟩
 simp only[aO,ao,zAY,aj hp,g1Y,g0Y,ae];exact main
theorem rR{F:TN.FG}{M:List Bool}(hv:TN.Valid F)(hz:TN.Sz F)(hS:SgB F)(hF:TN.FabR s cs F)(P:Pln N F.L F.lf F.sp)(hx:x<N)(hM:M≠[]->M.length=F.B.length/\∀i:Nat,M[i]?=some true->MbA F x F.S.length i)
  (hK:∀p r' s',RoAt N F.L F.lf F.sp x r' p (newG F.de F.L M)->Sub s s'->Sub r' s'->(∀i,r' i≠none->s i=none)->K (.tup [Pp p,Ii 0]) s'):wC TP 20 [.agg cs,x] K s:=by
 obtain⟨v2,v3,v4,v5,v6,v7,rfl,hL⟩:=id hF;have ones:=hL.all;have ⟨cs,hcs⟩:∃cs,cs=TN.csG F v2 v3 v4 v5 v6 v7:=⟨_,rfl⟩
 have c0:cs[0]?=some (Ii F.lf):=by rw[hcs];rfl
 have c1:cs[1]?=some (Ii F.sp):=by rw[hcs];rfl
 have c2:cs[2]?=some v2:=by rw[hcs];rfl
 have c13:cs[13]?=some (Ii F.de):=by rw[hcs];rfl
 have clen:cs.length=19:=by rw[hcs];rfl
 rw[<- hcs]at hF ones ⊢;have o0:=hv 0 oM;have o1:=hv 1 oM;have xlf:=o0.lf;have xsp:=o0.sp;have xde:=o1.de;have xL:=P.l;have xN:=P.n;have xS:=P.ls;have xB:=hS.b;refine CE ⟨ones,an λb0 s1 hb0 q1 u1=>?_⟩;have k1:=u1.sub hb0;refine am (aQ (n:=19) q1 clen) (TN.xe hv hz (hF.sub k1) (λ_ s4 k4=>?_) λh=>absurd hv h);have y0:∀a b c:AV,aN (.tup [a,b,c]) 0=some a:=λ_ _ _=>rfl;have y1:∀a b c:AV,aN (.tup [a,b,c]) 1=some b:=λ_ _ _=>rfl;have y2:∀a b c:AV,aN (.tup [a,b,c]) 2=some c:=λ_ _ _=>rfl;have e3:negB true (eqV 0 true (Ii 0) (Ii 0))=some false:=rfl;have qb:Hc s4 b0 52 cs:=k4 _ _ q1;have hF4:=hF.sub (k1.trans k4);simp only[y0,y1,y2,e3,ae,aH];rw[decide_eq_false (show ¬(x:Int)<0 by omega),ay];simp only[ao,zAY,aj qb,c0,c1,ae,aJ,ci];rw[aC,decide_eq_false (show ¬(x:Int) ≥ F.lf+F.sp by omega)];have z4:Sep s4 [s4]:=⟨(by grind [Sub.refl]),sI⟩
 intro m hm;obtain⟨s12,h12,u12,e12⟩:∃s12,s12 m=some (false,.map [] 0)/\Upto m s4 s12/\hset s4 m (false,.map [] 0)=s12:=⟨_,cr,λi hi=>bg hi,rfl⟩
 rw[e12];have z12:=z4.new u12 hm h12;refine am (a:=[Ii 0,Iw 0,Ii 0,Ii 0,.nilslc,.nilslc,.map m,.nilptr,.nilptr,false,Ii 0,.nilslc,.nilslc]) rfl ⟨rfl,an λp s15 hp h15 u15=>?_⟩;have z15:=z12.new u15 hp h15;have kb15:=z15.sub s4 sI;have qb15:=kb15 _ _ qb;refine⟨s15,.refl s15,?_⟩;simp only[ao,zAY,aj qb15,c0,c1,c2,ae];rw[d8];have hF15:=hF4.sub kb15;have h2':SlR 3 (frz s15) v2 (F.L.map TN.lkC):=by have ⟨a2,a3,a4,a5,a6,a7,e,g2⟩:=hF15;rw[e]at c2;cases c2;exact SlR.frz g2.L
 refine am (aQ (n:=19) qb15 clen) (FB.pO (rows:=F.L.map TN.lkC) h2' gR λw s23 k23 hw23 fw23=>HZ (x:=(x:Int)) hS ((FabR.frz hF15).sub k23) λb s26 vs k26 hb26 h26 hvs hms=>?_);have ⟨hwA,fwA⟩:=ZE hw23 fw23;have ⟨A,hA⟩:∃A,A=add s15 s23:=⟨_,rfl⟩
 have kA:Sub s15 A:=by rw[hA];exact eF
 rw[<- hA]at hwA;have ⟨nl,hnl,zA⟩:=z15.rows kA hwA fwA;have ⟨B,hB⟩:∃B,B=add s15 s26:=⟨_,rfl⟩
 have kB:Sub A B:=by rw[hA,hB];exact H8 k26
 have n15:=eu.1 (cq k23 hb26);have hbA:A b=none:=by rw[hA,aV n15];exact hb26
 have hbB:Hc B b 25 vs:=by rw[hB,aV n15];exact h26
 rw[<- hB];have ⟨Q,hQ⟩:∃Q,Q=newp A B:=⟨_,rfl⟩
 have zB:=Sep.newp zA kB;rw[<- hQ]at zB;have hQb:Hc Q b 25 vs:=by rw[hQ,jU hbA];exact hbB
 have hQm:∀(i:Nat) w,vs[i]?=some w->∃l,LS.Sli Q w l/\l.length<=72/\(MbA F x F.S.length i->(x:Int)∈l):=λi w hw=>by have ⟨l,a1,a2,a3,a4⟩:=hms i w hw;refine⟨l,Sl.keepB a1 λc hc hne e he=>?_,a2,a3⟩;have c23:=a4 c hc hne;have c15:=eu.1 (cq k23 c23);rw[hQ,jU (by rw[hA,aV c15];exact c23),hB,aV c15];exact he
 have fill:aq [(Ii 0),(Iw 0),(Ii 0),(Ii 0),.nilslc,.nilslc] [(0,1,x),(2,1,F.lf),(3,1,F.sp),(4,1,w),(5,1,.slc b 0 F.B.length (some F.B.length) 1)]=some [Ii x,Iw 0,Ii F.lf,Ii F.sp,w,.slc b 0 F.B.length (some F.B.length) 1]:=by simp only[aq,dx hwA.one];rfl
 refine am fill ?_;have hpB:=kB _ _ (kA _ _ h15);refine TN.rh hpB rfl sI (by simp[hwA.one]) λs30 h30 u30=>?_;have h30:Hc s30 p 75 [x,Iw 0,F.lf,F.sp,w,.slc b 0 F.B.length (some F.B.length) 1,.map m,.nilptr,.nilptr,false,Ii 0,.nilslc,.nilslc]:=h30;have z30:=Sep.wr (l1:=[Q,nl]) zB u30 (by rw[aP];simp) h30;rw[eT]at z30;refine lJ oM ?_;have x0:∀a b:AV,aN (.tup [a,b]) 0=some a:=λ_ _=>rfl;have x1:∀a b:AV,aN (.tup [a,b]) 1=some b:=λ_ _=>rfl;refine aT h30 sI rfl λs38 h38 u38=>?_;have z38:=Sep.wr (l1:=[Q,nl]) z30 u38 (by rw[aP];simp) h38;rw[eT]at z38;refine rQ h38 rfl rfl oM oM ?_;rw[show(F.lf+F.sp)=(N:Int)by omega];refine LS.FE oM λs44 d md k44 hd hmd hdb=>?_;have hdb:=hdb (λb=>s38 b≠none) λb h=>h;have db44:DbAt (newp s38 s44) d (N) x 0 []:=⟨md,Gt hdb λi e hi hn=>by rw[jU (by cases q:s38 i with|none=>rfl|some y=>exact absurd (by rw[q];simp) hn)];exact hi⟩
 have ⟨rd,hrd⟩:∃rd,rd=newp s38 s44:=⟨_,rfl⟩
 have z44:=Sep.newp z38 k44;rw[<- hrd]at z44 db44;refine aT (k44 _ _ h38) sI rfl λs49 h49 u49=>?_;have z49:=Sep.wr (l1:=[rd,Q,nl]) z44 u49 (by rw[aP];simp) h49;rw[eT]at z49;refine⟨s49,.refl s49,?_⟩;simp only[aO,ao,zAY,ae,aj h49];rw[d8];refine rQ (cG h49) rfl rfl oM oM ?_;rw[show(F.lf+F.sp)=(N:Int)by omega,gU];have hl49:=hnl.sub (z49.sub nl sI);have hvld:vld (N:Int) F.L (replicate F.L.length false):=P.vld sI;refine FB.Fr (L:=F.L) hl49 oM (λh=>gR) λN' y' rt s60 f en ey hy _ ht60 k60 sr60 fr60=>?_;obtain rfl:N'=N:=oM;obtain rfl:y'=x:=oM;have z60:=z49.fresh1 k60 sr60 fr60;refine aT (k60 _ _ h49) sI rfl λs65 h65 u65=>?_;have h65:Hc s65 p 75 (roC (y':Int) (lbk y') F.lf F.sp w (.slc b 0 F.B.length (some F.B.length) 1) m d f false 0 .nilslc .nilslc):=h65;have z65:=Sep.wr (l1:=[rt,rd,Q,nl]) z60 u65 (by rw[aP];simp) h65;rw[eT]at z65;simp only[e3,ae,aj h65,g1Y,g0Y];have lw:bp w=some F.L.length:=by rw[hnl.len,lMY]
 simp only[lw,ae];have zz:=z65.idx [2,3,4,5,1,0,6] dE;have djb:=(pairwise_cons.1 zz.dj).1 nl sI;have zj:=Sep.join zz;obtain⟨st,hst⟩:∃st,st=add (Q) nl:=⟨_,rfl⟩
 rw[<- hst]at zj;have zk:=zj.idx [1,2,0,3,4,5] dE;have hlst:SlR 3 st w (F.L.map LS.lnR):=hnl.sub (by rw[hst];exact ig djb);have hmst:MsAt st (.slc b 0 F.B.length (some F.B.length) 1) y' M:=⟨vs,.inr ⟨b,0,some F.B.length,by rw[hvs],(λc h=>by cases h;omega),λ_=>⟨false,25,vs,by rw[hst];exact bJ hQb,oM,λi hi=>by rw[zAY]⟩⟩,oM,λhm=>⟨hvs.trans (hM hm).1.symm,λi hi=>?_⟩⟩
 rotate_left
 ·have hlt:i<vs.length:=by
   have:=(gS hi).1;have:=(hM hm).1;omega
  have ⟨l,c1,c2,c3⟩:=hQm i _ (gE hlt);exact⟨_,l,gE hlt,c1.sub (by rw[hst];exact eF),c2,c3 ((hM hm).2 i hi)⟩
 refine H6 (n:=F.L.length) (b0:=b0) (cs:=cs) (de:=F.de) (st:=st) (X:=[st,rd,rt,s4]) oM c13 (λt ht=>ht s4 sI _ _ qb) sI hlst rfl oM zk (WsAt.nil ⟨[],0,aP,EsOK.nil⟩) (k:=0) (I1:=λ_ _ _=>True) (m1:=0) λs7 rv0 wl I1 m1 z7 w7 wl7=>?_;refine H9 P hx rfl z7 w7 wl7 hlst hmst db44 ht60 λp r' s' hr z'=>?_;have h1:=z'.dj;refine hK p r' s' hr ((k1.trans k4).trans (z'.sub s4 sI)) (z'.sub r' sI) λi hi=>?_;have:=(pairwise_cons.1 h1).1 s4 sI i hi;exact cq (k1.trans k4) this
theorem Ia{F:TN.NFab}(ok:TN.NFok F):SgB F.toG:=by have h1:=ok.Bn;have h2:=ok.Sn;refine⟨by show(F.B.mapIdx TN.bgN).length<=_;simp;omega,by show(F.S.map _).length<=_;simp;omega,λy hy=>?_⟩;obtain⟨z,hz,rfl⟩:=mem_map.1 hy;have so:=ok.S z hz;refine⟨λq=>so.2.1 (by simpa [TN.ni]using q),by unfold TN.ni;rw[lMY];exact so.2.2.2.1,by unfold TN.ni;rw[lMY];exact so.2.2.2.2.2.2.2,λn hn=>?_⟩;obtain⟨m,hm,rfl⟩:=TN.xG.1 hn;have:=so.2.2.2.2.2.2.1 m hm;exact⟨oM,by show(m:Int)<((F.B.mapIdx TN.bgN).length:Int);simp;omega⟩
theorem New_in{F:TN.NFab}(ok:TN.NFok F)(hF:TN.NFR s cs F)(hx:x<F.x.lf+F.x.sp)
  (hK:∀p r' s',RoAt (F.x.lf+F.x.sp) F.L (F.x.lf:Int) (F.x.sp:Int) x r' p (new0 F)->Sub s s'->Sub r' s'->(∀i,r' i≠none->s i=none)->K (.tup [Pp p,Ii 0]) s'):wC TP 20 [.agg cs,x] K s:=
 rR (F:=F.toG) (M:=[]) ok.valid ok.sz (Ia ok) (TN.NFR.fab hF) (xI ok) hx (λh=>absurd rfl h) hK
variable{wm:Nat}{uv dv:AV}{a e vn ttl lk:Int}{tk:Bool}{la:Int}{tp:Bool}
theorem rU{n:Nat}(hn:n<32)(hK:K (Iw (4009754625+n)) s):wC TP 14 [n] K s:=by
 have w:∀x:Int,0<=x->x<4294967296->IntKind.u32.wrap x=x:=λx h1 h2=>TN.w32 h1 h2;have a1:cw .u32 n=some (Iw n):=by
  show some (AV.int .u32 _)=_
  grind [dH]
 have a2:bO .add (Iw 4009754625) (Iw n)=some (Iw (4009754625+n)):=by
  grind [aJ]
 have c1:decide ((n:Int)<0)=false:=decide_eq_false oM;refine Xu ?_
 grind [Of,aH,ci,ay,bG,CA,aS]
theorem ZF{vs:List AV}{dq:Int}(h:s p=some (tp,.cells 75 (roC (x:Int) (lbk x) lf sp lv mv wm d f tk la uv dv)))(hm:Sl s mv vs)(hl:vs.length<=32)(h1:(∀i:Nat,i<vs.length->dq≠4009754625+(i:Int))->K (.ifc 250 (.agg [Pp p])) s)(h2:∀(j:Nat) w,vs[j]?=some w->dq=4009754625+(j:Int)->w.one=true/\K (.ifc 248 (.agg [Pp p,w])) s):wC TP 71 [Pp p,Iw dq] K s:=by
 refine Xq ?_;unfold Oe;simp only[aO,ao,zAY,ae,aj h,g1Y,g0Y,hm.len];refine⟨λys t M=>∃k:Nat,ys=[Ii k]/\t=s/\k<=vs.length/\M=vs.length-k/\∀i:Nat,i<k->dq≠4009754625+(i:Int),⟨_,0,rfl,rfl,oM,rfl,λi hi=>absurd hi (not_lt_zero i)⟩,?_⟩;rintro g t M ⟨k,hy,rfl,hk,rfl,hno⟩;simp only[cI,and_true]at hy;rw[hy];simp only[Od,aH,ae,aA];refine au (λhlt=>?_) (λhge=>am (a:=[Pp p]) rfl (h1 λi hi=>hno i (by have:=oF hge;omega)));have hlt:k<vs.length:=gR;have ⟨q,g1,g2⟩:=hm.get (i:=k) hlt;rw[gE hlt]at g2;simp only[g1,g2,ae];refine rU oM ?_;simp only[aR,aG,Bool.false_bne,ae];refine au (λhe=>?_) (λhne=>?_)
 ·have he:(4009754625:Int)+k=dq:=by simpa using he
  have ⟨o1,o2⟩:=h2 k _ (gE hlt) he.symm;exact am (a:=[Pp p,vs[k]]) (by simp only[aq,dx o1];rfl) o2
 have hne:(4009754625:Int)+k≠dq:=by simpa using hne
 simp only[aJ,ae];rw[aC];refine⟨_,oM,k+1,sI,by trivial,oM,rfl,λi hi=>?_⟩;rcases Nat.lt_succ_iff_lt_or_eq.1 hi with h|rfl
 ·exact hno i h
 ·exact Ne.symm hne
abbrev trip(K:AV->Hq->Prop)(v:AV)(s:Hq):Prop:=oK (aN v 0) λa=>oK (aN v 1) λb=>oK (aN v 2) λc=>K (.tup [a,b,c]) s
theorem Ib:∀{l:List AV},aD l=true->∀{i:Nat}{v:AV},v.one=true->aD (l.set i v)=true:=(by grind [FB.E7])
theorem gel{B:List Int}{P:Int->Prop}(h:∀(i:Nat) (hi:i<B.length),P (B[i]-1)){j:Nat}(hj:j<B.length):P (B.getD j 0-1):=by
 grind
theorem rV{Z ps:List AV}{hop:Int}(hz:Z.length=22)(hp:ps.length=21):aq Z [(0,1,hop),(1,21,.agg ps)]=some (Ii hop::ps):=by
 obtain⟨z,Z,rfl⟩:∃z Z',Z=z::Z':=by cases Z with|nil=>cases hz|cons z Z'=>exact⟨z,Z',rfl⟩
 have hZ:Z.length=21:=by simpa using hz
 have s1:bN (z::Z) 0 [hop]=Ii hop::Z:=by simp[bN]
 have s2:bN (hop::Z) 1 ps=Ii hop::ps:=by
  grind [bN]
 have e1:ble (1+ps.length) (Z.length+1)=true:=by rw[ble_eq];omega
 have e2:beq ps.length 21=true:=by rw[hp];rfl
 have e3:ble (0+1) (Z.length+1)=true:=by rw[ble_eq];omega
 have e4:beq 1 1=true:=rfl
 grind [aq,Au,fC]
theorem fill22b{Z ps:List AV}(hz:Z.length=22)(hp:ps.length=22):aq (repl 1 Z) [(0,22,.agg ps)]=some ps:=by
 have e0:repl 1 Z=Z:=by simp[repl]
 have e1:ble (0+ps.length) Z.length=true:=by rw[ble_eq];omega
 have e2:beq ps.length 22=true:=by rw[hp];rfl
 grind [bN,aq,fC]
theorem lY{S:Ro}{dq:Int}(P:Pln N L lf sp)(hx:x<N)(k:Sub r s)(z:RoAt N L lf sp x r p S)(hp:FB.Pk a dq e vn cs)(hc:cs[2]?=some (Ii ttl))(ht:-9223372036854775808<=ttl/\ttl<=9223372036854775807)(hdq:0<=dq/\dq<4294967296)(hlk:lk=-1∨owB L (x:Int) lk=true)
  (h1:dq=lbk x->∀s',Sub s s'->K (.tup [.nilslc,true,Ii 0]) s')
  (h2:dq≠lbk x->∀s' e,Sub s s'->(S.M≠[]->∀j:Nat,j<S.M.length->dq≠4009754625+(j:Int))->((e=20/\ttl<2)∨(e=13/\2<=ttl/\∀m∈FB.ndL N (tL L) S.U x,dq≠lbk m))->K (.tup [.nilslc,false,Ii e]) s')
  (h3:∀m,dq≠lbk x->2<=ttl->m∈FB.ndL N (tL L) S.U x->dq=lbk m->∀s' b hop,Sub s s'->s b=none->hop∈FB.nz (FB.lnk N (tL L) S.U x m)->Hc s' b 121 (hop::cs.set 2 (ttl-1:Int))->K (.tup [.slc b 0 1 (some 1) 22,false,Ii 0]) s')
  (h4:(∀j:Nat,j<32->dq≠4009754625+(j:Int))∨((S.M≠[]/\∀b∈S.M,b=true)/\∀(j:Nat) (s1:Hq) (w lv uv:AV) (l:List Int),j<S.M.length->dq=4009754625+(j:Int)->Sub s s1->SlR 3 s1 lv (L.map LS.lnR)->Sl s1 uv (S.U.map AV.bool)->LS.Sli s1 w l->l.length<=72->(x:Int)∈l->wC TP 253 [.agg [lf,sp,lv,uv],x,w,.agg cs,lk] (trip K) s1)):wC TP 23 [Pp p,.agg cs,lk] K s:=by
 have ⟨st,rv0,rd,rt,wl,wm,d,f,lv,mv,uv,dv,zs,pt⟩:=z.ex;have ⟨p1,p2,p3,p4,p5,p6⟩:=id hp;have zs':=zs.more k;have hpb:=zs'.sub (pC p x lf sp lv mv wm d f S.tk S.la uv dv) sI _ _ aP;have kst:=zs'.sub st sI;refine Xo ⟨p2,an λb0 s1 hb0 q1 u1=>?_⟩;have q1:Hc s1 b0 64 cs:=q1;have k1:=u1.sub hb0;have hp1:=k1 _ _ hpb;refine cP hp1 ?_;simp only[bD,Bool.not_true,ae,ay,aR,aG,Bool.true_bne];have z0:∀a b c:AV,aN (.tup [a,b,c]) 0=some a:=λ_ _ _=>rfl;have z1:∀a b c:AV,aN (.tup [a,b,c]) 1=some b:=λ_ _ _=>rfl;have z2:∀a b c:AV,aN (.tup [a,b,c]) 2=some c:=λ_ _ _=>rfl;have main:∀t14 t20:AV,bK t14 t20 false=some false->vZ (Pp p) lk (Pp b0) t14 t20 K s1:=by
  intro c1 c2 he;unfold vZ;simp only[he];have ⟨ms,hms,hml,hmM⟩:=pt.m;refine⟨s1,.refl s1,?_⟩;simp only[ao,zAY,ae,aj q1,p4];rw[d8];refine am (aQ (n:=21) q1 p1) (ZF (cG hp1) (RT.Sl.frz (hms.sub (kst.trans k1))) hml (λhno=>?_) λj w hw hj=>?_)
  rotate_left
  ·rcases h4 with h4|⟨⟨hM,hall⟩,h4⟩
   ·exact absurd hj (h4 j (by have:=(gS hw).1;omega))
   have ⟨hlen,hrow⟩:=hmM hM;have hjl:j<S.M.length:=by have:=(gS hw).1;omega
   have ⟨w',l,e1,e2,e3,e4⟩:=hrow j (by rw[gE hjl,hall _ (getElem_mem hjl)]);rw[hw]at e1;cases e1;refine⟨e2.one,?_⟩;rw[gU];refine ug (f:=252) kR kR ?_;have ow:aD [Pp p,w]=true:=by rw[bP,bP,e2.one];rfl
   refine Yo ⟨ow,an λc0 s2 hc0 w2 u2=>⟨p2,an λc2 s3 hc2 w3 u3=>?_⟩⟩;have w2:Hc s2 c0 248 [Pp p,w]:=w2;have k2:=u2.sub hc0;have k3:=u3.sub hc2;have hp3:=k3 _ _ (k2 _ _ hp1);have k13:=k1.trans (k2.trans k3);have w2':=k3 _ _ w2;simp only[ao,zAY,ae,aj w2',g0Y,aO,aj hp3,g1Y];refine am (a:=[lf,sp,lv,uv]) (by simp only[aq,dx pt.l.one,dx pt.u.one];rfl) (an λc4 s4 hc4 w4 u4=>aZ w4 rfl rfl (by rw[bP,bP,bP,bP,pt.l.one,pt.u.one];rfl) λs5 w5 u5=>am (aQ (n:=4) w5 rfl) ?_);have k5:Sub s3 s5:=λi e hi=>by have hne:=cx hc4 hi;rw[u5 i hne,u4 i hne];exact hi
   simp only[ae,aj (k5 _ _ w2'),g0Y,aj (k5 _ _ hp3),g1Y];have kk:=k13.trans k5;exact am (aQ (n:=21) (k5 _ _ w3) p1) (h4 j s5 w lv uv l hjl hj kk (pt.l.sub (kst.trans kk)) (pt.u.sub (kst.trans kk)) (e2.sub (kst.trans kk)) e3 e4)
  rw[gU];refine ug (f:=264) kR kR ?_;refine Xt ⟨rfl,an λc0 s2 hc0 w2 u2=>⟨p2,an λc2 s3 hc2 w3 u3=>?_⟩⟩;have w2:Hc s2 c0 250 [Pp p]:=w2;have w3:Hc s3 c2 64 cs:=w3;have k2:=u2.sub hc0;have k3:=u3.sub hc2;have hp3:=k3 _ _ (k2 _ _ hp1);have k13:=k1.trans (k2.trans k3);simp only[ao,zAY,ae,aj w3,p4,aj (k3 _ _ w2),g0Y,aO,aj hp3,g1Y,aR,aG,Bool.false_bne];refine au (λhxe=>?_) (λhxe=>?_)
  ·simp only[z0,z1,z2,ae]
   exact h1 (by simpa using hxe) _ k13
  ·have hxe:dq≠lbk x:=by simpa using hxe
   have ⟨Bf,zt⟩:=pt.tb;have zf:=zt.rd.sub ((zs'.sub rt sI).trans k13);refine am (aQ (n:=21) w3 p1) ?_;have hN:=P.n;refine FB.Zd zf hN.2 hN.1 (by rw[lMY];have:=P.l;omega) hp hc ht hdq λs20 res k20 hfw=>?_;have key:∃hop ps e,res=.tup [Ii hop,.agg ps,Ii e]/\ps.length=21/\aD ps=true/\(((e=20/\ttl<2)∨(e=13/\2<=ttl/\∀m∈FB.ndL N (tL L) S.U x,dq≠lbk m))∨∃m,e=0/\ps=cs.set 2 (ttl-1:Int)/\2<=ttl/\m∈FB.ndL N (tL L) S.U x/\dq=lbk m/\hop∈FB.nz (FB.lnk N (tL L) S.U x m)):=by
    cases hfw with
    |at_ h=>exact absurd h hxe
    |time _ h=>exact⟨_,_,_,rfl,rfl,rfl,.inl (.inl ⟨rfl,h⟩)⟩
    |down _ g h=>exact⟨_,_,_,rfl,rfl,rfl,.inl (.inr ⟨rfl,g,h⟩)⟩
    | go m _ h2 h3 h4=>
      refine⟨_,_,_,rfl,gR,Ib p2 rfl,.inr ⟨m,rfl,rfl,h2,h3,h4,?_⟩⟩;have ⟨n1,n2⟩:=FB.fX.1 h3;have g:=zt.el m n1;have hlen:=zt.len m;have ne:FB.nz (FB.lnk N (L.map toL) S.U x m)≠[]:=by simp_all [FB.nz]
      refine gel (λi hi=>g.elt ne _ (getElem_mem hi)) ?_;omega
   obtain⟨hop,ps,er,rfl,l21,o21,hcase⟩:=key;simp only[z0,z1,z2,ae];refine an λd0 s27 n25 w25' u25'=>?_;have k27:=(k13.trans k20).trans (u25'.sub n25);refine aZ w25' (by rw[l21];rfl) rfl o21 λs26 w26 u26=>?_;have hd0s:=cq (k13.trans k20) n25;have k26:Sub s s26:=λi e hi=>by rw[u26 i (cx hd0s hi)];exact k27 i e hi
   have e3:negB true (eqV 0 true er (Ii 0))=some (.bool (!(er == 0))):=by simp_all
   rw[e3,bG];rcases hcase with hw|⟨m,rfl,rfl,ht2,hin,hdm,hhop⟩
   ·rw[show(!(er == 0))=true by rcases hw with⟨rfl,_⟩|⟨rfl,_⟩<;>rfl,aF]
    exact h2 hxe s26 er k26 (λhM j hj=>hno j (by rw[(hmM hM).1];exact hj)) hw
   refine am (aQ (n:=21) w26 l21) (am (rV rfl l21) (am (fill22b rfl gR) ⟨by simp_all,an λd1 s32 hd1 w32 u32=>?_⟩));exact h3 m hxe ht2 hin hdm s32 d1 hop (k26.trans (u32.sub hd1)) (cq k26 hd1) hhop w32
 refine au (λhne=>?_) (λheq=>?_);rcases hlk with e|e
 grind
 rw[show(lk == -1)=false from by simpa using hne];refine lQ hp1 (pt.l.sub (kst.trans k1)) ?_;rw[e];simp only[bD,Bool.not_true,ae];exact main _ _ rfl
 simp_all
end Go.AM.RT
namespace Go.AM.TG
open Go Go.Proofs List Nat
set_option maxRecDepth 100000
variable{K:AV→Hq→Prop}{s:Hq}
theorem wu64(n:Int):bV .u64 n=n % 18446744073709551616:=by rw[gB];simp[IntKind.bits,IntKind.signed]<;>omega
theorem wu64n{n:Nat}(h:n<18446744073709551616):bV .u64 (n:Int)=n:=by grind [wu64]
theorem Ic{j:Nat}(hj:j<64):2^j<18446744073709551616:=by have:2^j<2^64:=Nat.pow_lt_pow_right oM hj;exact this
theorem jV{i:Nat}(hi:i<128):bO .quo i (Ii 64)=some (Ii ((i / 64:Nat))):=by
 grind [ue,aC]
theorem jW{i:Nat}:bO .rem i (Ii 64)=some (Ii ((i % 64:Nat))):=by
 grind [jg]
theorem Id{w m:Nat}(hm:m<=64):dh .shr (Iq w) m=some (Iq ((w / 2^m:Nat))):=by show frc ((w:Int).fdiv ((2^(min m (IntKind.bits .u64)):Nat):Int)) (λn=>some (AV.int .u64 n))=_;rw[cD,Nat.min_eq_left (show m<=IntKind.bits .u64 from hm),Int.fdiv_eq_ediv_of_nonneg _ (Int.natCast_nonneg _),<- Int.natCast_ediv]
theorem rW{m:Nat}(hm:m<64):dh .shl (Iq 1) m=some (Iq ((2^m:Nat))):=by show frc (bV .u64 (1*((2^(min m (IntKind.bits .u64)):Nat):Int))) (λn=>some (AV.int .u64 n))=_;rw[cD,Nat.min_eq_left (show m<=IntKind.bits .u64 from Nat.le_of_lt hm),Int.one_mul,wu64n (Ic hm)]
theorem xJ{w:Nat}(i:Nat):(BitVec.ofInt 64 (w:Int)).getLsbD i=(decide (i<64)&&w.testBit i):=by rw[BitVec.ofInt_natCast,BitVec.getLsbD_ofNat]
theorem rX{w j:Nat}(hw:w<18446744073709551616)(hj:64<=j):w.testBit j=false:=testBit_lt_two_pow (Nat.lt_of_lt_of_le hw (Nat.pow_le_pow_right (n:=2) oM hj))
theorem Ie{w:Nat}(hw:w<18446744073709551616):bO .and (Iq w) (Iq 1)=some (Iq ((w % 2:Nat))):=by
 have e:(BitVec.ofInt (IntKind.bits .u64) (w:Int) &&& BitVec.ofInt (IntKind.bits .u64) 1).toNat=w % 2:=by
  show(BitVec.ofInt 64 (w:Int) &&& BitVec.ofInt 64 ((1:Nat):Int)).toNat=w % 2
  grind
 have:w % 2<2:=mod_lt _ oM;simp only[bO,arith,cD,e,wu64n (show w % 2<18446744073709551616 by omega)];rfl
theorem or64{w m:Nat}(hw:w<18446744073709551616)(hm:m<64):∃v:Nat,bO .or (Iq w) (Iq ((2^m:Nat)))=some (Iq v)/\v<18446744073709551616/\∀j,v.testBit j=if j=m then true else w.testBit j:=by
 refine⟨(BitVec.ofInt 64 (w:Int) |||BitVec.ofInt 64 ((2^m:Nat):Int)).toNat,?_,BitVec.isLt _,λj=>?_⟩;have:=(BitVec.ofInt 64 (w:Int) |||BitVec.ofInt 64 ((2^m:Nat):Int)).isLt;have e:=wu64n this;simp only[bO,arith,cD];rw[show IntKind.bits .u64=64 from rfl,e];rfl;rw[BitVec.testBit_toNat,BitVec.getLsbD_or,xJ,xJ,testBit_two_pow]
 by_cases e:j=m
 subst e;simp[hm]
 by_cases h:j<64
 simp[e,h,Ne.symm e];simp[e,h,rX hw (show 64<=j by omega)]
theorem If{w m:Nat}(hw:w<18446744073709551616)(hm:m<64):∃v:Nat,bO .andNot (Iq w) (Iq ((2^m:Nat)))=some (Iq v)/\v<18446744073709551616/\∀j,v.testBit j=if j=m then false else w.testBit j:=by
 refine⟨(BitVec.ofInt 64 (w:Int) &&& ~~~(BitVec.ofInt 64 ((2^m:Nat):Int))).toNat,?_,BitVec.isLt _,λj=>?_⟩;have:=(BitVec.ofInt 64 (w:Int) &&& ~~~(BitVec.ofInt 64 ((2^m:Nat):Int))).isLt;have e:=wu64n this;simp only[bO,arith,cD];rw[show IntKind.bits .u64=64 from rfl,e];rfl;rw[BitVec.testBit_toNat,BitVec.getLsbD_and,BitVec.getLsbD_not,xJ,xJ,testBit_two_pow]
 by_cases e:j=m
 subst e;simp[hm]
 by_cases h:j<64
 simp[e,h,Ne.symm e];simp[e,h,rX hw (show 64<=j by omega)]
theorem iA2{g o i:Nat}(hi:i<128):cN 2 1 (.ptr g o) ((i / 64:Nat):Int)=some (.ptr g (o+i / 64)):=by
 have:blt (i / 64) 2=true:=by rw[blt_eq];omega
 generalize i / 64=k at *;simp[cN,this]
theorem rJ{g o i w:Nat}(hi:i<128)(hr:rd1 s (.ptr g (o+i / 64))=some (Iq w))(hw:w<18446744073709551616)(hK:K (w.testBit (i % 64)) s):wC TP 89 [.ptr g o,i] K s:=by
 refine UN ?_;have hd:w / 2^(i % 64)<18446744073709551616:=Nat.lt_of_le_of_lt (div_le_self _ _) hw;have e:(!(((w / 2^(i % 64) % 2:Nat):Int) == 0))=w.testBit (i % 64):=by
  grind
 simp only[MT,jV hi,jW,aO,iA2 hi,hr,Id (show i % 64<=64 by omega),Ie hd,aR,aG,Bool.true_bne,e,ae];exact hK
theorem lK{g o i w:Nat}{e:TypeId}{cs:List AV}{b:Bool}(hi:i<128)(hg:Hc s g e cs)(hc:cs[o+i / 64]?=some (Iq w))(hw:w<18446744073709551616)
  (hK:∀(s':Hq) (v:Nat),Hc s' g e (cs.set (o+i / 64) (Iq v))->v<18446744073709551616->(∀j,v.testBit j=if j=i % 64 then b else w.testBit j)->Upto g s s'->K (.tup []) s'):wC TP 126 [.ptr g o,i,b] K s:=by
 refine UL ?_;have hlt:o+i / 64<cs.length:=(gS hc).1;have hr:rd1 s (.ptr g (o+i / 64))=some (Iq w):=by rw[aj hg];exact hc
 cases b with
 | true=>
   have ⟨v,h1,h2,h3⟩:=or64 hw (show i % 64<64 by omega);simp only[B5,aF,jV hi,jW,aO,iA2 hi,hr,rW (show i % 64<64 by omega),h1,ae];exact aT hg hlt rfl λs' h4 u4=>hK s' v h4 h2 h3 u4
 | false=>
   have ⟨v,h1,h2,h3⟩:=If hw (show i % 64<64 by omega);simp only[B5,ay,jV hi,jW,aO,iA2 hi,hr,rW (show i % 64<64 by omega),h1,ae];exact aT hg hlt rfl λs' h4 u4=>hK s' v h4 h2 h3 u4
variable{s':Hq}{t:Bool}{g:Nat}{lv:AV}{N:Nat}{lu nu:Nat→Bool}
abbrev Lk:=Int×Int×Int
def lkR(l:Lk):List AV:=[l.1,l.2.1,l.2.2]
def Wd(a b:Nat)(f:Nat->Bool):Prop:=a<18446744073709551616/\b<18446744073709551616/\∀j,j<64->a.testBit j=f j/\b.testBit j=f (64+j)
abbrev gc(N:Nat)(lv:AV)(a b c d:Nat):List AV:=[N,lv,Iq a,Iq b,Iq c,Iq d]
structure LOk(N:Nat)(L:List Lk):Prop where
 nn:1<=N/\N<=32
 ll:L.length<=128
 ok:∀x∈L,(0<=x.1/\x.1<N)/\(0<=x.2.1/\x.2.1<N)/\x.1≠x.2.1/\1<=x.2.2/\x.2.2<=1000
structure GRd(t:Bool)(s:Hq)(g:Nat)(lv:AV)(N:Nat)(L:List Lk)(lu nu:Nat->Bool):Prop where
 cell:∃a b c d:Nat,s g=some (t,.cells 200 (gc N lv a b c d))/\Wd a b lu/\Wd c d nu
 ls:SlR 3 s lv (L.map lkR)
 lok:LOk N L
variable{L:List Lk}
theorem GRd.sub(h:GRd t s g lv N L lu nu)(hs:Sub s s'):GRd t s' g lv N L lu nu:=by have ⟨⟨a,b,c,d,h1,h2⟩,h3,h4⟩:=h;exact⟨⟨a,b,c,d,hs _ _ h1,h2⟩,h3.sub hs,h4⟩
theorem GRd.lenL(h:GRd t s g lv N L lu nu):bp lv=some L.length:=by rw[h.ls.len,lMY]
theorem Wd.bit{a b i:Nat}{f:Nat->Bool}(h:Wd a b f)(hi:i<128):∃w,(i / 64=0/\w=a∨i / 64=1/\w=b)/\w<18446744073709551616/\w.testBit (i % 64)=f i:=by rcases(show i / 64=0∨i / 64=1 by omega)with e|e;refine⟨a,.inl ⟨e,rfl⟩,h.1,?_⟩;rw[(h.2.2 (i % 64) oM).1,show i % 64=i by omega];refine⟨b,.inr ⟨e,rfl⟩,h.2.1,?_⟩;rw[(h.2.2 (i % 64) oM).2,show 64+i % 64=i by omega]
theorem GRd.lbit(h:GRd t s g lv N L lu nu){i:Nat}(hi:i<128):∃w:Nat,rd1 s (.ptr g (2+i / 64))=some (Iq w)/\w<18446744073709551616/\w.testBit (i % 64)=lu i:=by
 have ⟨a,b,c,d,h1,h2,h3⟩:=h.cell;have ⟨w,hw,h4,h5⟩:=h2.bit hi;refine⟨w,?_,h4,h5⟩;rw[aj h1]
 grind
theorem GRd.nbit(h:GRd t s g lv N L lu nu){i:Nat}(hi:i<128):∃w:Nat,rd1 s (.ptr g (4+i / 64))=some (Iq w)/\w<18446744073709551616/\w.testBit (i % 64)=nu i:=by
 have ⟨a,b,c,d,h1,h2,h3⟩:=h.cell;have ⟨w,hw,h4,h5⟩:=h3.bit hi;refine⟨w,?_,h4,h5⟩;rw[aj h1]
 grind
theorem GRd.r0(h:GRd t s g lv N L lu nu):rd1 s (Pp g)=some (Ii N):=by have ⟨a,b,c,d,h1,_⟩:=h.cell;rw[aj h1];rfl
theorem GRd.r1(h:GRd t s g lv N L lu nu):rd1 s (.ptr g 1)=some lv:=by have ⟨a,b,c,d,h1,_⟩:=h.cell;rw[aj h1];rfl
theorem cP(h:GRd t s g lv N L lu nu)(hK:K true s):wC TP 88 [Pp g] K s:=by
 refine UM ?_;have hp:decide ((0:Int)<(N:Int))=true:=by have:=h.lok.nn;grind
 simp only[MS,jh,aG,Bool.bne_false,ae,aF,aO,ao,zAY,h.r0,bW,hp,B6,aU];exact hK
def upB(L:List Lk)(lu nu:Nat->Bool)(i:Nat):Bool:=match L[i]? with
 |some x=>lu i&&(nu x.1.toNat&&nu x.2.1.toNat)
 |none=>false
def upI(L:List Lk)(lu nu:Nat->Bool)(i:Int):Bool:=decide (0<=i)&&upB L lu nu i.toNat
def aliveI(N:Nat)(nu:Nat->Bool)(n:Int):Bool:=decide (0<=n/\n<N)&&nu n.toNat
theorem Ig{i:Nat}(hi:i<L.length):upB L lu nu i=(lu i&&(nu L[i].1.toNat&&nu L[i].2.1.toNat)):=by
 grind [upB]
theorem rY{v:AV}{M:List Lk}(h:SlR 3 s v (M.map lkR)){i:Nat}(hi:i<M.length):∃b o,ba 3 v i=some (.ptr b o)/\rdN s 3 (.ptr b o)=some (lkR M[i])/\∀j,j<3->rd1 s (.ptr b (o+j))=(lkR M[i])[j]?:=h.get (i:=i) (r:=lkR M[i]) (by simp[hi])
theorem Ih(h:GRd t s g lv N L lu nu){x:Int}(hx:0<=x/\x<N)(hK:K (nu x.toNat) s):wC TP 89 [.ptr g 4,x] K s:=by
 have hn:=h.lok.nn;obtain⟨n,rfl⟩:∃n:Nat,x=n:=⟨x.toNat,oM⟩
 have ⟨w,h1,h2,h3⟩:=h.nbit (i:=n) oM;rw[Int.toNat_natCast]at hK
 grind [rJ]
theorem Up_in{i:Int}(h:GRd t s g lv N L lu nu)(hK:∀s',Sub s s'->K (upI L lu nu i) s'):wC TP 86 [Pp g,i] K s:=by
 refine UD (cP h ?_);have hll:=h.lok.ll;simp only[bD,Bool.not_true,ae,ay,aH,B0]
 by_cases hn:i<0
 ·have e:upI L lu nu i=false:=by grind [upI]
  simp_all [vx,Sub.refl,ae]
 obtain⟨k,rfl⟩:∃k:Nat,i=k:=⟨i.toNat,oM⟩
 have e:upI L lu nu (k:Int)=upB L lu nu k:=by grind [upI]
 rw[e]at hK;simp only[decide_eq_false hn,aS,ae,ay,aO,ao,zAY,h.r1,h.lenL,ci,vx]
 by_cases hk:(L.length:Int)<=(k:Int)
 ·have e2:upB L lu nu k=false:=by grind [upB]
  rw[e2]at hK;simp only[decide_eq_true hk,aF];exact hK s (.refl s)
 have hk':k<L.length:=oM;have ⟨b,o,g1,g2,_⟩:=rY h.ls hk';have ⟨hA,hB,_⟩:=h.lok.ok _ (getElem_mem hk');simp only[decide_eq_false hk,ay,g1,g2,ae];refine an λc s1 hc h1 u1=>aZ h1 rfl rfl rfl λs2 h2 u2=>?_;have sub2:Sub s s2:=(u1.sub hc).upto u2 hc;have h2:Hc s2 c 145 (lkR L[k]):=h2;have z2:=h.sub sub2;have ⟨w,l1,l2,l3⟩:=z2.lbit (i:=k) oM;refine rJ oM l1 l2 ?_;rw[l3];rw[Ig hk']at hK;have hK:=hK s2 sub2;have e0:(lkR L[k])[0]?=some (Ii L[k].1):=rfl;have e1:(lkR L[k])[1]?=some (Ii L[k].2.1):=rfl;cases hlu:lu k with
 | false=>
   simp_all [vw,oQ,ae]
 | true=>
   rw[hlu]at hK;simp only[aF,aj h2,e0,ae];refine Ih z2 hA ?_;simp only[vw,aU,ae];cases hna:nu L[k].1.toNat with
   | false=>
     simp_all [oQ,ae]
   | true=>
     rw[hna]at hK;simp only[aF,aO,ao,zAY,aj h2,e1,ae]
     grind [Ih,oQ,aU,bG]
theorem Alive_in{n:Int}(h:GRd t s g lv N L lu nu)(hK:K (aliveI N nu n) s):wC TP 35 [Pp g,n] K s:=by
 refine UF (cP h ?_);simp only[aF,ci,ae,B4,aU]
 by_cases h0:0<=n
 ·simp only[decide_eq_true h0,aF,aO,ao,zAY,h.r0,aH,ae,vy,aU]
  by_cases h1:n<(N:Int)
  ·have e:aliveI N nu n=nu n.toNat:=by grind [aliveI]
   grind [aF,bG,Ih,oR,aU]
  ·have e:aliveI N nu n=false:=by grind [aliveI]
   rw[e]at hK;simp only[decide_eq_false h1,ay,oR,aS,ae];exact hK
 ·have e:aliveI N nu n=false:=by grind [aliveI]
  rw[e]at hK
  grind [ay,vy,aS,oR,bG]
theorem pO{v:AV}{M:List Lk}(h:SlR 3 s v (M.map lkR))(hl:M.length<=100000)(hK:∀v' s',Sub s s'->SlR 3 s' v' (M.map lkR)->(∀b o n c,v'=.slc b o n c 3->M≠[]->s b=none)->K v' s'):wC TP 62 [v] K s:=by
 refine MR ?_;have cases0:(v=.nilslc/\M=[])∨∃b o c,v=.slc b o M.length c 3:=by
  rcases h.2 with⟨a,b⟩|⟨b,o,c,a,_⟩;exact .inl ⟨a,by simpa using b⟩
  grind
 rcases cases0 with⟨rfl,rfl⟩|⟨b,o,c,rfl⟩
 grind [oS,ji,aG,bG,aF,Sub.refl]
 ·simp only[oS,gT,aG,Bool.false_bne,ae,ay]
  refine am (a:=[]) rfl ⟨rfl,an λd s1 hd h1 u1=>?_⟩;refine K9 (h.sub (u1.sub hd)) gR λv' s2 sub2 sl2 f2=>hK _ _ ((u1.sub hd).trans sub2) sl2 λb o n c e hne=>?_;have h3:=f2 b o n c e (by simpa using hne);cases q:s b with
  |none=>rfl
  |some x=>rw[u1.sub hd b x q]at h3;cases h3
def upd1(f:Nat->Bool)(i:Nat)(x:Bool):Nat->Bool:=λj=>if j=i then x else f j
theorem Wd.put{a b i:Nat}{f:Nat->Bool}{x:Bool}(h:Wd a b f)(hi:i<128):(i / 64=0->∀v:Nat,v<18446744073709551616->(∀j,v.testBit j=if j=i % 64 then x else a.testBit j)->Wd v b (upd1 f i x))/\
  (i / 64=1->∀v:Nat,v<18446744073709551616->(∀j,v.testBit j=if j=i % 64 then x else b.testBit j)->Wd a v (upd1 f i x)):=by
 have ⟨h1,h2,h3⟩:=h;refine⟨λe v hv hb=>⟨hv,h2,λj hj=>⟨?_,?_⟩⟩,λe v hv hb=>⟨h1,hv,λj hj=>⟨?_,?_⟩⟩⟩;rw[hb,(h3 j hj).1];unfold upd1
 grind
 rw[(h3 j hj).2];unfold upd1;rw[if_neg oM];rw[(h3 j hj).1];unfold upd1;rw[if_neg oM];rw[hb,(h3 j hj).2];unfold upd1
 grind
theorem _root_.Go.AM.SlR.upto{es:Nat}{v:AV}{rows:List (List AV)}{s s':Hq}{b:Nat}(h:SlR es s v rows)(u:Upto b s s')(hn:∀c o n k,v=.slc c o n k es->rows≠[]->c≠b):SlR es s' v rows:=
 h.keep (fp:=λc=>c=b) (u.keep rfl) gR
def Ap(g:Nat)(lv:AV)(L:List Lk):Prop:=∀b o n c,lv=.slc b o n c 3->L≠[]->b≠g
theorem rZ{i:Nat}{x:Bool}(h:GRd false s g lv N L lu nu)(ha:Ap g lv L)(hi:i<128)(hK:∀s',GRd false s' g lv N L (upd1 lu i x) nu->Upto g s s'->K (.tup []) s'):wC TP 126 [.ptr g 2,i,x] K s:=by have ⟨⟨a,b,c,d,h1,h2,h3⟩,h4,h5⟩:=h;have hp:=h2.put (x:=x) hi;rcases(show i / 64=0∨i / 64=1 by omega)with e|e;refine lK (w:=a) hi h1 (by rw[e];rfl) h2.1 λs' v g1 g2 g3 u=>hK s' ⟨⟨v,b,c,d,?_,hp.1 e v g2 g3,h3⟩,h4.upto u λc o n k e hne=>ha c o n k e (by simpa using hne),h5⟩ u;rw[g1,e];rfl;refine lK (w:=b) hi h1 (by rw[e];rfl) h2.2.1 λs' v g1 g2 g3 u=>hK s' ⟨⟨a,v,c,d,?_,hp.2 e v g2 g3,h3⟩,h4.upto u λc o n k e hne=>ha c o n k e (by simpa using hne),h5⟩ u;rw[g1,e];rfl
theorem se{i:Nat}{x:Bool}(h:GRd false s g lv N L lu nu)(ha:Ap g lv L)(hi:i<128)(hK:∀s',GRd false s' g lv N L lu (upd1 nu i x)->Upto g s s'->K (.tup []) s'):wC TP 126 [.ptr g 4,i,x] K s:=by have ⟨⟨a,b,c,d,h1,h2,h3⟩,h4,h5⟩:=h;have hp:=h3.put (x:=x) hi;rcases(show i / 64=0∨i / 64=1 by omega)with e|e;refine lK (w:=c) hi h1 (by rw[e];rfl) h3.1 λs' v g1 g2 g3 u=>hK s' ⟨⟨a,b,v,d,?_,h2,hp.1 e v g2 g3⟩,h4.upto u λc o n k e hne=>ha c o n k e (by simpa using hne),h5⟩ u;rw[g1,e];rfl;refine lK (w:=d) hi h1 (by rw[e];rfl) h3.2.1 λs' v g1 g2 g3 u=>hK s' ⟨⟨a,b,c,v,?_,h2,hp.2 e v g2 g3⟩,h4.upto u λc o n k e hne=>ha c o n k e (by simpa using hne),h5⟩ u;rw[g1,e];rfl
theorem SetLink_in{i:Int}{x:Bool}(h:GRd false s g lv N L lu nu)(ha:Ap g lv L)(hE:¬(0<=i/\i<L.length)->K (Ii 2) s)
  (hK:∀s',0<=i/\i<L.length->GRd false s' g lv N L (upd1 lu i.toNat x) nu->Upto g s s'->K (Ii 0) s'):wC TP 84 [Pp g,i,x] K s:=by
 refine Uz (cP h ?_);have hll:=h.lok.ll;simp only[bD,Bool.not_true,ae,ay,aH,BY]
 by_cases hn:i<0
 grind [aF,aU,bG]
 obtain⟨k,rfl⟩:∃k:Nat,i=k:=⟨i.toNat,oM⟩
 simp only[decide_eq_false hn,ay,aO,ao,zAY,h.r1,h.lenL,ci,aS,ae]
 grind [aF,ay,rZ]
theorem SetNode_in{i:Int}{x:Bool}(h:GRd false s g lv N L lu nu)(ha:Ap g lv L)(hE:¬(0<=i/\i<N)->K (Ii 2) s)
  (hK:∀s',0<=i/\i<N->GRd false s' g lv N L lu (upd1 nu i.toNat x)->Upto g s s'->K (Ii 0) s'):wC TP 85 [Pp g,i,x] K s:=by
 refine UB (cP h ?_);have hnn:=h.lok.nn;simp only[bD,Bool.not_true,ae,ay,aH,BZ]
 by_cases hn:i<0
 grind [aF,aU,bG]
 obtain⟨k,rfl⟩:∃k:Nat,i=k:=⟨i.toNat,oM⟩
 simp only[decide_eq_false hn,ay,aO,ao,zAY,h.r0,ci,aS,ae]
 by_cases hk:(N:Int)<=(k:Int)
 simp_all
 grind [ay,se]
variable{s0:Hq}{n:Int}
def badL(n:Int)(x:Lk):Prop:=(x.1<0∨n<=x.1)∨(x.2.1<0∨n<=x.2.1)∨x.2.2<1∨1000<x.2.2
instance{n:Int}{x:Lk}:Decidable (badL n x):=by unfold badL;infer_instance
def linkE(n:Int):List Lk->Int
 |[]=>0
 |x::r=>if badL n x then 2 else if x.1=x.2.1 then 12 else linkE n r
def newE(n:Int)(L:List Lk):Int:=if n<1∨32<n then 2 else if 128<L.length then 5 else linkE n L
theorem Ij:∀{L:List Lk},linkE n L=0->∀x∈L,¬badL n x/\x.1≠x.2.1:=by
 intro L
 induction L with
 |nil=>intro _ x hx;simp at hx
 | cons y r ih=>
   grind [linkE]
theorem Ik(h:newE n L=0):∃N:Nat,n=N/\LOk N L:=by
 unfold newE at h;split at h
 ·cases h
 ·rename_i h1
  split at h
  ·cases h
  rename_i h2;refine⟨n.toNat,oM,oM,oM,λx hx=>?_⟩;have ⟨a,b⟩:=Ij h x hx
  grind [badL]
theorem si{b0:Nat}{x:Int}(h0:∃t e,s b0=some (t,.cells e [n]))(hK:K (decide (x<0∨n<=x)) s):wC TP 158 [x,Pp b0] K s:=by
 have ⟨t,e,h0⟩:=h0;refine UO ?_;simp only[MU,aH,ae]
 by_cases h:x<0
 simp_all [vA,ae]
 have e1:decide (x<0∨n<=x)=decide (n<=x):=by simp[h]
 rw[e1]at hK;simp only[decide_eq_false h,ay,aj h0,g0Y,ci,vA,aS,ae];exact hK
theorem Il{b0:Nat}(h0:∃t e,s b0=some (t,.cells e [n]))(hK:K (if n<1∨32<n then 2 else 0:Int) s):wC TP 159 [Pp b0] K s:=by
 have ⟨t,e,h0⟩:=h0;refine UP ?_;simp only[MW,aj h0,g0Y,aH,ae]
 by_cases h:n<1
 grind [aF,vB,aU,bG]
 grind [ay,bW,vB,aS,bG,aF]
theorem Im{b2:Nat}(h0:∃t e,s b2=some (t,.cells e [lv]))(hl:bp lv=some L.length)(hK:K (if 128<L.length then 5 else 0:Int) s):wC TP 160 [Pp b2] K s:=by
 have ⟨t,e,h0⟩:=h0;refine UQ ?_;simp only[MX,aj h0,g0Y,hl,bW,ae]
 grind [aF,ay]
theorem ZG{i:Nat}(hi:i<L.length):linkE n (L.drop i)=if badL n L[i]then 2 else if L[i].1=L[i].2.1 then 12 else linkE n (L.drop (i+1)):=by rw[drop_eq_getElem_cons hi,linkE]
theorem In{b0 b2 b4:Nat}(h0:∃t e,s b0=some (t,.cells e [n]))(h2:∃t e,s b2=some (t,.cells e [lv]))(h4:∃t e,s b4=some (t,.cells e [.fn (.func 158) [] [Pp b0]]))(hs:SlR 3 s lv (L.map lkR))(hll:L.length<=1000000)
  (hK:∀s',Sub s s'->K (linkE n L:Int) s'):wC TP 161 [Pp b2,Pp b4] K s:=by
 have ⟨t0,e0,h0⟩:=h0;have ⟨t2,e2,h2⟩:=h2;have ⟨t4,e4,h4⟩:=h4;refine US ?_;simp only[MZ,aj h2,g0Y,hs.len,lMY,ae,aK];refine⟨λys s2 m=>∃i:Nat,ys=[Ii i]/\i<=L.length/\m=L.length-i/\Sub s s2/\linkE n L=linkE n (L.drop i),⟨_,0,rfl,oM,rfl,.refl s,by rw[drop_zero]⟩,?_⟩;rintro f s2 m ⟨i,hy,hi,rfl,sub2,he⟩;simp only[cI,and_true]at hy;rw[hy];simp only[MY,aH,ae];refine au (λhlt=>?_) (λhge=>?_);have hlt:i<L.length:=gR;have ⟨p,o,r1,r2,_⟩:=rY (hs.sub sub2) hlt;rw[ZG hlt]at he;simp only[r1,r2,ae];refine an λeb s8 heb h8 u8=>aZ h8 rfl rfl rfl λs9 h9 u9=>?_;have sub9:=(u8.sub heb).upto u9 heb;have subs:=sub2.trans sub9;have q0:(lkR L[i])[0]?=some (Ii L[i].1):=rfl;have q1:(lkR L[i])[1]?=some (Ii L[i].2.1):=rfl;have q2:(lkR L[i])[2]?=some (Ii L[i].2.2):=rfl;have bad:badL n L[i]->K (Ii 2) s9:=gR;simp only[aj (subs _ _ h4),g0Y,ao,zAY,aj h9,q0,ae];refine dV kR (si ⟨_,_,subs _ _ h0⟩ ?_)
 by_cases hA:L[i].1<0∨n<=L[i].1
 simp only[decide_eq_true hA,aF,oU,lg,jv,aU,ae,aA];exact bad (.inl hA);simp only[decide_eq_false hA,ay,aj (subs _ _ h4),g0Y,aj h9,q1,ae];refine dV kR (si ⟨_,_,subs _ _ h0⟩ ?_)
 by_cases hB:L[i].2.1<0∨n<=L[i].2.1
 simp only[decide_eq_true hB,aF,oU,lg,jv,aU,aS,ae,aA];exact bad (.inr (.inl hB));simp only[decide_eq_false hB,ay,oU,aS,ao,zAY,aj h9,q2,aH,ae]
 by_cases hC:L[i].2.2<1
 simp only[decide_eq_true hC,aF,lg,jv,aU,aS,ae,aA];exact bad (.inr (.inr (.inl hC)));simp only[decide_eq_false hC,ay,lg,aS,ao,zAY,aj h9,q2,bW,ae]
 by_cases hD:1000<L[i].2.2
 simp only[decide_eq_true hD,aF,jv,aS,ae,aA];exact bad (.inr (.inr (.inr hD)));simp only[decide_eq_false hD,ay,jv,aS,ao,zAY,aj h9,q0,q1,aR,aG,Bool.false_bne,ae,aA];rw[if_neg (by unfold badL;omega)]at he;refine au (λhq=>?_) (λhq=>?_)
 grind
 rw[if_neg (beq_eq_false_iff_ne.1 hq)]at he;simp only[aJ,ae];rw[aC];exact⟨_,oM,i+1,rfl,oM,rfl,subs,he⟩;have hge:i=L.length:=gR;rw[hge,drop_length]at he;have:=hK s2 sub2
 rwa [he]at this
theorem EG(hs:SlR 3 s lv (L.map lkR))(hll:L.length<=1000000)(hK:∀s',Sub s s'->K (newE n L:Int) s'):wC TP 125 [n,lv] (λv s=>wC TP 124 [v] K s) s:=by
 refine UK (cW rfl λb0 s1 hb0 h1 u1=>cW hs.one λb2 s2 hb2 h2 u2=>an λb4 s3 hb4 h3 u3=>aT h3 sI rfl λs4 h4 u4=>?_);have sub24:=(u3.sub hb4).upto u4 hb4;have sub4:=((u1.sub hb0).trans (u2.sub hb2)).trans sub24;have k0:=sub24 _ _ (u2.sub hb2 _ _ h1);have k2:=sub24 _ _ h2;refine am (a:=[.fn (.func 159) [] [Pp b0],.fn (.func 160) [] [Pp b2],.fn (.func 161) [] [Pp b2,Pp b4]]) rfl ⟨rfl,an λb8 s5 hb8 h5 u5=>?_⟩;have sub45:=u5.sub hb8;have sub5:=sub4.trans sub45;refine UI ?_;have hsl:Sl s5 (.slc b8 0 3 (some 3) 1) [AV.fn (.func 159) [] [Pp b0],.fn (.func 160) [] [Pp b2],.fn (.func 161) [] [Pp b2,Pp b4]]:=Sl.mk h5 rfl sI;refine⟨λys s2 m=>∃i:Nat,ys=[Ii i]/\i<=3/\m=3-i/\Sub s5 s2/\(1<=i->¬(n<1∨32<n))/\(2<=i->¬ 128<L.length)/\(3<=i->linkE n L=0),⟨_,0,rfl,oM,rfl,.refl s5,oM,oM,oM⟩,?_⟩;rintro f s6 m ⟨i,hy,hi,rfl,sub6,c1,c2,c3⟩;simp only[cI,and_true]at hy;rw[hy];have subA:=sub5.trans sub6;have subB:=sub45.trans sub6;simp only[MQ,aH,ae,aA];refine au (λhlt=>?_) (λhge=>?_);have hlt:i<3:=gR;have ⟨p,g1,g2⟩:=(hsl.sub sub6).get (i:=i) hlt;simp only[g1,ae,g2];have e1:IntKind.i64.wrap ((i:Int)+1)=((i+1:Nat):Int):=by grind [aC]
 rcases(show i=0∨i=1∨i=2 by omega)with rfl|rfl|rfl;refine dV kR (Il ⟨_,_,subB _ _ k0⟩ ?_)
 by_cases h:n<1∨32<n
 have e:newE n L=2:=by unfold newE;rw[if_pos h]
 have:=hK s6 subA;rw[e]at this;rw[if_pos h];exact this;rw[if_neg h];exact⟨_,oM,1,rfl,oM,rfl,sub6,λ_=>h,oM,oM⟩;refine dV kR (Im (L:=L) ⟨_,_,subB _ _ k2⟩ (by rw[hs.len,lMY]) ?_)
 by_cases h:128<L.length
 have e:newE n L=5:=by unfold newE;rw[if_neg (c1 oM),if_pos h]
 have:=hK s6 subA;rw[e]at this;rw[if_pos h];exact this;rw[if_neg h];exact⟨_,oM,2,rfl,oM,rfl,sub6,λ_=>c1 oM,λ_=>h,oM⟩;refine dV kR (In (L:=L) ⟨_,_,subB _ _ k0⟩ ⟨_,_,subB _ _ k2⟩ ⟨_,_,(sub45.trans sub6) _ _ h4⟩ (hs.sub subA) hll λs7 sub7=>?_);have e:newE n L=linkE n L:=by unfold newE;rw[if_neg (c1 oM),if_neg (c2 oM)]
 have:=hK s7 (subA.trans sub7);rw[e]at this;simp only[aR,aG,Bool.true_bne,ae,aJ,e1]
 by_cases h:linkE n L=0
 rw[show(!(linkE n L == 0))=false by rw[h];rfl];exact⟨_,oM,3,rfl,oM,rfl,sub6.trans sub7,λ_=>c1 oM,λ_=>c2 oM,λ_=>h⟩;have:(!(linkE n L == 0))=true:=by simp[h]
 rw[this];simpa using by assumption
 grind [newE]
structure Gr(s0 s:Hq)(g:Nat)(lv:AV)(N:Nat)(L:List Lk)(lu nu:Nat->Bool):Prop where
 rd:GRd false s g lv N L lu nu
 fg:s0 g=none
 fl:∀b o n c,lv=.slc b o n c 3->L≠[]->s0 b=none
 ap:Ap g lv L
theorem P0{k:Nat}:upd1 (λj=>decide (j<k)) k true=λj=>decide (j<k+1):=by
 grind [upd1]
theorem New_in(hs:SlR 3 s lv (L.map lkR))(hll:L.length<=100000)
  (hE:newE n L≠0->∀s',Sub s s'->K (.tup [.nilptr,(newE n L:Int)]) s')
  (hK:newE n L=0->∀N:Nat,n=N->∀s' g lv',Sub s s'->Gr s s' g lv' N L (λj=>decide (j<L.length)) (λj=>decide (j<N))->K (.tup [Pp g,Ii 0]) s'):wC TP 76 [n,lv] K s:=by
 refine Ux (EG hs oM λs1 sub1=>?_);simp only[aR,aG,Bool.true_bne,ae]
 by_cases he:newE n L=0
 ·obtain⟨N,rfl,lok⟩:=Ik he
  rw[he];have e0:(!((0:Int) == 0))=false:=rfl;rw[e0];have hnn:=lok.nn;have hll:=lok.ll;refine pO (hs.sub sub1) oM λlv' s2 sub2 sl2 fr2=>?_;have hone:=sl2.one;refine am (a:=[N,lv',Iq 0,Iq 0,Iq 0,Iq 0]) ?_ ⟨?_,an λg s3 hg h3 u3=>?_⟩;simp only[aq,bN];rw[dx hone];rfl
  simp_all
  have sub3:=u3.sub hg;have subs:=(sub1.trans sub2).trans sub3;have hg0:s g=none:=by
   cases q:s g with
   |none=>rfl
   |some y=>rw[sub2 g y (sub1 g y q)]at hg;cases hg
  have ap:Ap g lv' L:=λb o n c e hne=>by have:=sl2.was b o n c e (by simpa using hne);rintro rfl;exact this hg
  have fl:∀b o n c,lv'=.slc b o n c 3->L≠[]->s b=none:=λb o n c e hne=>by
   have h:=fr2 b o n c e hne;cases q:s b with
   |none=>rfl
   |some y=>rw[sub1 b y q]at h;cases h
  have z3:GRd false s3 g lv' N L (λj=>decide (j<0)) (λj=>decide (j<0)):=⟨⟨0,0,0,0,h3,by simp[Wd],by simp[Wd]⟩,sl2.sub sub3,lok⟩
  refine⟨λys s2 m=>∃i:Nat,ys=[Ii i]/\i<=N/\m=N-i/\Sub s s2/\GRd false s2 g lv' N L (λj=>decide (j<0)) (λj=>decide (j<i)),⟨_,0,rfl,oM,rfl,subs,z3⟩,?_⟩;rintro f s4 m ⟨i,hy,hi,rfl,sub4,z4⟩;simp only[cI,and_true]at hy;rw[hy];simp only[MO,aH,ae,aK,aA];refine au (λhlt=>?_) (λhge=>?_);have hlt:i<N:=gR;refine se z4 ap oM λs5 z5 u5=>?_;rw[P0]at z5;simp only[aJ,ae];rw[aC];exact⟨_,oM,i+1,rfl,oM,rfl,sub4.upto u5 hg0,z5⟩;have hge:i=N:=gR;subst hge;simp only[(hs.sub sub4).len,lMY,ae];refine⟨λys s2 m=>∃k:Nat,ys=[Ii k]/\k<=L.length/\m=L.length-k/\Sub s s2/\GRd false s2 g lv' i L (λj=>decide (j<k)) (λj=>decide (j<i)),⟨_,0,rfl,oM,rfl,sub4,z4⟩,?_⟩;rintro f s5 m ⟨k,hy,hk,rfl,sub5,z5⟩;simp only[cI,and_true]at hy;rw[hy];simp only[MN,aH,ae,aA];refine au (λhlt=>?_) (λhge=>?_);have hlt:k<L.length:=gR;refine rZ z5 ap oM λs6 z6 u6=>?_;rw[P0]at z6;simp only[aJ,ae];rw[aC];exact⟨_,oM,k+1,rfl,oM,rfl,sub5.upto u6 hg0,z6⟩;have hge:k=L.length:=gR;subst hge;exact hK he i rfl s5 g lv' sub5 ⟨z5,hg0,fl,ap⟩
 grind [aF]
end Go.AM.TG
namespace Go.AM.RT
open Go Go.Proofs List Nat
set_option maxRecDepth 100000
variable{r s' s0 M q:Hq}{n:Nat}{v:AV}{L:List LS.Lnk}{cs:List AV}
abbrev Msg:=Nat×Ntc
def msgR(m:Msg)(lv:AV):List AV:=[m.1,m.2.1,m.2.2.1,m.2.2.2.1,lv]
structure WayAt(M q:Hq)(v:AV)(ms:List Msg):Prop where
 ex:∃rows,AccR 192 5 (λ_=>none) q v rows/\rows.length=ms.length/\∀(i:Nat) (m:Msg),ms[i]?=some m->∃lv,rows[i]?=some (msgR m lv)/\LS.Sli M lv m.2.2.2.2
structure NtAt(M:Hq)(v:AV)(ns:List Ntc):Prop where
 ex:∃rows,SlR 4 M v rows/\rows.length=ns.length/\∀(i:Nat) (n:Ntc),ns[i]?=some n->∃lv,rows[i]?=some (ntR n lv)/\LS.Sli M lv n.2.2.2
theorem WayAt.sub{M':Hq}{ms:List Msg}(z:WayAt M q v ms)(k:Sub M M'):WayAt M' q v ms:=by
 have ⟨rows,h1,h2,h3⟩:=z.ex;exact⟨rows,h1,h2,λi m hi=>by have ⟨lv,a,c⟩:=h3 i m hi;exact⟨lv,a,c.sub k⟩⟩
theorem WayAt.nil:WayAt M (λ_=>none) .nilslc []:=⟨[],⟨(λr h=>by cases h),.inl ⟨rfl,rfl⟩⟩,rfl,λi m h=>by cases h⟩
theorem NtAt.sub{M':Hq}{ns:List Ntc}(z:NtAt M v ns)(k:Sub M M'):NtAt M' v ns:=by
 have ⟨rows,h1,h2,h3⟩:=z.ex;exact⟨rows,h1.sub k,h2,λi m hi=>by have ⟨lv,a,c⟩:=h3 i m hi;exact⟨lv,a,c.sub k⟩⟩
def far(L:List LS.Lnk)(n i:Nat):Nat:=((L.getD i (0,0,0)).1+(L.getD i (0,0,0)).2.1-(n:Int)).toNat
def msgs(L:List LS.Lnk)(n:Nat)(ns:List Ntc):List Msg:=ns.map λx=>(far L n x.1,x)
theorem Nts.at{ns:List Ntc}(z:Nts s0 s' v ns):NtAt (newp s0 s') v ns:=by
 have ⟨rows,h1,h2,h3⟩:=z.ex;have ⟨a1,a2⟩:=h1;refine⟨rows,⟨a1,?_⟩,h2,λi n hi=>?_⟩
 ·rcases a2 with h|⟨b,q1,q2,q3⟩
  exact .inl h
  ·exact .inr ⟨b,0,none,q2,(λc h=>by cases h),λ_=>⟨false,190,rows.flatten,by rw[jU q1];exact q3,by rw[gA a1];omega,by rw[drop_zero,take_of_length_le (by rw[gA a1];omega)]⟩⟩
 have ⟨lv,e1,e2,e3⟩:=h3 i n hi;refine⟨lv,e1,?_⟩;rcases e2 with h|⟨b,o,c,q1,q2,q3⟩;exact .inl h;refine .inr ⟨b,o,c,q1,q2,λhn=>?_⟩;have ⟨t1,el,cs,q4,q5⟩:=q3 hn;exact⟨t1,el,cs,by rw[jU gR];exact q4,q5⟩
variable{s:Hq}{g:Nat}{rsl wv:AV}{now:Int}
abbrev plC(cs:List AV)(g:Nat)(rsl wv:AV)(now:Int):List AV:=cs ++ [.ptr g 0,rsl,wv,now]
theorem sx{k:Nat}(h:cs.length=19)(hk:k<19):(plC cs g rsl wv now)[k]?=cs[k]?:=gR
theorem pl19(h:cs.length=19):(plC cs g rsl wv now)[19]?=some (.ptr g 0):=gR
theorem pl20(h:cs.length=19):(plC cs g rsl wv now)[20]?=some rsl:=gR
theorem pl21(h:cs.length=19):(plC cs g rsl wv now)[21]?=some wv:=gR
theorem pl22(h:cs.length=19):(plC cs g rsl wv now)[22]?=some (Ii now):=by simp_all
theorem xK{k:Nat}{x:AV}(h:cs.length=19):(plC cs g rsl wv now).set (19+k) x=cs ++ [.ptr g 0,rsl,wv,now].set k x:=by
 grind
theorem Sep.upto{l:List Hq}{c:Nat}(z:Sep s l)(u:Upto c s s')(h:∀y∈l,y c=none):Sep s' l:=⟨λy hy i e hi=>by rw[u i λq=>gR];exact z.sub y hy i e hi,z.dj⟩
theorem Sep.nn{l:List Hq}{c:Nat}(z:Sep s l)(h:s c=none):∀y∈l,y c=none:=λy hy=>cq (z.sub y hy) h
theorem Sep.grow{l:List Hq}{rows rows':List (List AV)}(z:Sep s (q::l))(h:AccR 192 5 (λ_=>none) q v rows){v':AV}(h':AccR 192 5 (λ_=>none) s' v' rows')(kp:aB (bH 5 v) s s')(hb:∀b,bH 5 v' b->s b=none∨bH 5 v b):∃q',AccR 192 5 (λ_=>none) q' v' rows'/\Sep s' (q'::l):=by
 obtain⟨hq,hd⟩:=pairwise_cons.1 z.dj;have own:∀b,bH 5 v b->q b≠none:=λb ⟨o,n,c,e⟩=>by
  rcases h.2 with⟨q1,_⟩|⟨b',_,q1,q2⟩
  ·rw[e]at q1;cases q1
  grind
 have keep:∀y∈l,Sub y s':=λy hy i e hi=>kp i e (z.sub y (by simp[hy]) i e hi) λq1=>by rw[hq y hy i (own i q1)]at hi;cases hi
 rcases h'.2 with⟨e1,e2⟩|⟨b,_,e1,e2⟩
 ·exact⟨λ_=>none,⟨h'.1,.inl ⟨e1,e2⟩⟩,⟨λy hy=>by
   rcases mCY hy with e|hy
   ·rw[e];intro i e hi;cases hi
   exact keep y hy,pairwise_cons.2 ⟨λy hy i hi=>absurd rfl hi,hd⟩⟩⟩
 refine⟨one b (false,.cells 192 rows'.flatten),⟨h'.1,.inr ⟨b,rfl,e1,aP⟩⟩,⟨λy hy=>?_,pairwise_cons.2 ⟨λy hy i hi=>?_,hd⟩⟩⟩;rcases mCY hy with e|hy;rw[e];intro i x hi;have:=fH (c:=b) (x:=(false,Blk.cells 192 rows'.flatten)) (i:=i) (by rw[hi];simp)
 grind [aP]
 exact keep y hy;rw[fH hi];rcases hb b ⟨_,_,_,e1⟩with q1|q1;exact cq (z.sub y (by simp[hy])) q1;exact hq y hy b (own b q1)
theorem AccR.zero{elem:TypeId}{es:Nat}{rows:List (List AV)}(h:AccR elem es s0 s v rows):AccR elem es (λ_=>none) s v rows:=⟨h.1,h.2.imp id λ⟨b,_,q⟩=>⟨b,rfl,q⟩⟩
theorem AccR.up{elem:TypeId}{es:Nat}{rows:List (List AV)}(h:AccR elem es s0 s v rows)(k:Sub s s'):AccR elem es s0 s' v rows:=⟨h.1,h.2.imp id λ⟨b,q1,q2,q3⟩=>⟨b,q1,q2,k _ _ q3⟩⟩
theorem Io{a b c d:AV}{lv:AV}(ha:a.one=true)(hb:aD [b,c,d,lv]=true):aq [(Ii 0),(Ii 0),(Ii 0),(Ii 0),.nilslc] [(0,1,a),(1,4,.agg [b,c,d,lv])]=some [a,b,c,d,lv]:=by simp only[aq,dx ha,fC];rfl
theorem fill5b{a b c d lv:AV}:aq (repl 1 [(Ii 0),(Ii 0),(Ii 0),(Ii 0),.nilslc]) [(0,5,.agg [a,b,c,d,lv])]=some [a,b,c,d,lv]:=rfl
variable{K:AV→Hq→Prop}{t:Hq}{pl:Nat}{lkv:AV}{X:List Hq}
theorem WayAt.snoc{ms:List Msg}{m:Msg}{rows:List (List AV)}{q':Hq}{v' lv:AV}(h1:AccR 192 5 (λ_=>none) q' v' (rows ++ [msgR m lv]))(h2:rows.length=ms.length)(h3:∀(i:Nat) (m:Msg),ms[i]?=some m->∃lv,rows[i]?=some (msgR m lv)/\LS.Sli M lv m.2.2.2.2)(h4:LS.Sli M lv m.2.2.2.2):WayAt M q' v' (ms ++ [m]):=by
 refine⟨_,h1,by simp[h2],λi x hi=>?_⟩
 grind
theorem xi{ms:List Msg}{ns:List Ntc}(clen:cs.length=19)(c2:cs[2]?=some lkv)(hl:SlR 3 M lkv (L.map LS.lnR))(hL:∀y∈L,(0<=y.1/\y.1<100)/\(0<=y.2.1/\y.2.1<100)/\0<=y.2.2)(hL2:L.length<=64)(hn100:n<100)
  (z:Sep s (one pl (false,.cells 96 (plC cs g rsl wv now))::q::M::X)) (hw:WayAt M q wv ms) (hn:NtAt M v ns) (hns:∀x∈ns,owB L (n:Int) (x.1:Int)=true) (hlen:ms.length+ns.length<=16777216)
  (hK:∀s' q' wv',Sep s' (one pl (false,.cells 96 (plC cs g rsl wv' now))::q'::M::X)->WayAt M q' wv' (ms++msgs L n ns)->K true s'):wC TP 87 [Pp pl,n,v] K s:=by
 refine XJ ?_;have ⟨nr,n1,n2,n3⟩:=hn.ex;have ln:bp v=some ns.length:=by rw[n1.len,n2]
 refine⟨λys t m=>∃(i:Nat) (q:Hq) (wv:AV),ys=[Ii i]/\i<=ns.length/\m=ns.length-i/\Sep t (one pl (false,.cells 96 (plC cs g rsl wv now))::q::M::X)/\WayAt M q wv (ms++msgs L n (ns.take i)),⟨_,0,q,wv,rfl,oM,rfl,z,by simpa [msgs]using hw⟩,?_⟩;rintro f t m ⟨i,q,wv,hy,hi,rfl,z,hw⟩;simp only[cI,and_true]at hy;rw[hy];simp only[Om,ln,ae,aH];refine au (λhlt=>?_) (λhge=>?_)
 rotate_left
 have:i=ns.length:=by have:=oF hge;omega
 rw[this,take_length]at hw;exact hK t q wv z hw;have hlt:i<ns.length:=gR;have ⟨x,hx⟩:∃x,x=ns[i]:=⟨_,rfl⟩
 have hxi:ns[i]?=some x:=gR;have hox:=hns x (by rw[hx];exact getElem_mem hlt);have hox':=oT hox;have ⟨lv,e1,e2⟩:=n3 i x hxi;have kM:Sub M t:=z.sub M sI;obtain⟨b,o,g1,g2,g3⟩:=(n1.sub kM).get e1;have hpl:Hc t pl 96 (plC cs g rsl wv now):=z.sub (one pl (false,.cells 96 (plC cs g rsl wv now))) sI _ _ aP;have r0:rd1 t (.ptr b o)=some (Ii x.1):=g3 0 (by simp);have hlk:x.1<L.length:=by have:=hox'.2.1;omega
 have ll:bp lkv=some L.length:=by rw[hl.len,lMY]
 simp only[g1,ao,Nat.add_zero,r0,ae,aH];rw[decide_eq_false oM,ay];simp only[aO,ao,zAY,ae,aj hpl,sx (g:=g) (rsl:=rsl) (wv:=wv) (now:=now) clen (show 2<19 by omega),c2,ll,ci];rw[decide_eq_false oM];unfold CF;simp only[aS,ae,ay,aO,ao,zAY,Nat.add_zero,aj hpl,sx (g:=g) (rsl:=rsl) (wv:=wv) (now:=now) clen (show 2<19 by omega),c2,g1,r0];have ⟨y,hy2⟩:∃y,y=L[x.1]:=⟨_,rfl⟩
 have hyL:y∈L:=by rw[hy2];exact getElem_mem hlk
 have hyg:L.getD x.1 (0,0,0)=y:=by rw[getD_eq_getElem?_getD,gE hlk,hy2];rfl
 have ⟨b2,o2,g4,g5,g6⟩:=(hl.sub kM).get (i:=x.1) (r:=LS.lnR y) (by rw[getElem?_map,gE hlk,hy2];rfl);simp only[g4,ae];refine am g5 (an λb17 t1 hb17t w17' u17=>?_);have z1:=z.fresh (u17.sub hb17t) hb17t w17';refine aZ w17' rfl rfl (by rfl) λt2 w2 u2=>?_;have z2:=Sep.wr1 z1 u2 (by rw[aP];simp) w2;rw[eT]at z2;have e0:(LS.lnR y)[0]?=some (Ii y.1):=rfl;have e1':(LS.lnR y)[1]?=some (Ii y.2.1):=rfl;simp only[ae,aj w2,e0,aR,aG,Bool.true_bne];have z3:=z2.drop;have kM2:Sub M t2:=z3.sub M sI;have hpl2:Hc t2 pl 96 (plC cs g rsl wv now):=z3.sub (one pl (false,.cells 96 (plC cs g rsl wv now))) sI _ _ aP;obtain⟨hy1,hy2',_⟩:=hL y hyL;have hfar:((far L n x.1:Nat):Int)=y.1+y.2.1-(n:Int):=by unfold far;rw[hyg];have:=hox'.2.2;rw[Int.toNat_natCast,hyg]at this;omega
 have main:∀t51 t55:AV,bK t51 t55 false=some (.bool false)->wh (Pp pl) n v i (Pp b17) t51 t55 (λys t m=>∃(i:Nat) (q:Hq) (wv:AV),ys=[Ii i]/\i<=ns.length/\m=ns.length-i/\Sep t (one pl (false,.cells 96 (plC cs g rsl wv now))::q::M::X)/\WayAt M q wv (ms++msgs L n (ns.take i))) (ns.length-i) K t2:=by
  intro c1 c2' hpk;unfold wh aA;have ⟨b3,o3,g7,g8,_⟩:=(n1.sub kM2).get e1;have gg:rdN t2 4 (.ptr b3 o3)=some (ntR x lv):=g8;simp only[hpk,ae,ay,aO,ao,zAY,aj hpl2,pl21 (g:=g) (rsl:=rsl) (wv:=wv) (now:=now) clen,aj w2,e0,e1',aJ,cA,g7,gg];have w1:IntKind.i64.wrap (y.1+y.2.1)=y.1+y.2.1:=aC oM oM;have w2':IntKind.i64.wrap (y.1+y.2.1-(n:Int))=y.1+y.2.1-(n:Int):=aC oM oM;rw[w1,w2',<- hfar];have on4:aD [x.1,x.2.1,x.2.2.1,lv]=true:=by simp[e2.one]
  refine am (Io rfl on4) (am fill5b ⟨by simp[e2.one],an λb37 t3 hb37t w37' u37=>?_⟩);have w37':Hc t3 b37 192 (msgR (far L n x.1,x) lv):=w37';have z4:Sep t3 (one pl (false,.cells 96 (plC cs g rsl wv now))::q::M::X):=z3.more (u37.sub hb37t);obtain⟨rows,a1,a2,a3⟩:=hw.ex;have hq4:Sub q t3:=z4.sub q sI;have qn:∀c,bH 5 wv c->q c≠none:=λc ⟨o,k,e,q1⟩=>by
   rcases a1.2 with⟨q2,_⟩|⟨b',_,q2,q3⟩
   ·rw[q1]at q2;cases q2
   ·rw[q1]at q2;cases q2;rw[q3];simp
  have hne:∀c,bH 5 wv c->c≠b37:=λc hc e=>by have:=qn c hc;rw[e]at this;exact this (cq (z3.sub q sI) hb37t)
  refine xx (rows:=rows) (row:=msgR (far L n x.1,x) lv) (AccR.up a1 hq4) (λi e h=>by cases h) (SlR.mk (rows:=[msgR (far L n x.1,x) lv]) (by intro r hr;rw[mem_singleton]at hr;rw[hr];rfl) (by simpa using w37') rfl sI) (λc o k e q1 q2=>by cases q1;exact hne _ q2 rfl) (by rw[a2,lAp];unfold msgs;rw[lMY,length_take];omega) λv' t5 acc5 kp5 hb5=>?_;have ⟨q',acc',z5⟩:=Sep.grow (z4.perm (List.Perm.swap _ _ _)) a1 acc5 kp5 hb5;have z6:=z5.perm (List.Perm.swap _ _ _);have hpl5:Hc t5 pl 96 (plC cs g rsl wv now):=z6.sub (one pl (false,.cells 96 (plC cs g rsl wv now))) sI _ _ aP;have ov:v'.one=true:=acc'.sl.one;refine aT hpl5 (by simp[clen]) ov λt6 w6 u6=>?_;have z7:=Sep.wr1 z6 u6 (by rw[aP];simp) w6;rw[eT,show(21:Nat)=19+2 from rfl,xK clen]at z7;rw[aC];refine⟨_,oM,i+1,q',v',sI,oM,rfl,z7,?_⟩;have em:ms++msgs L n (ns.take (i+1))=(ms++msgs L n (ns.take i)) ++ [(far L n x.1,x)]:=by unfold msgs;rw[take_add_one,hxi,map_append,append_assoc];rfl
  rw[em];exact WayAt.snoc acc' a2 a3 e2
 have hor:=hox'.2.2;rw[Int.toNat_natCast,hyg]at hor;refine au (λhd=>?_) (λhd=>?_);have hd:y.1≠(n:Int):=by simpa using hd
 simp only[ae,e1',aR,aG,Bool.true_bne];have he:(y.2.1 == (n:Int))=true:=by simp;omega
 have hd':(y.1 == (n:Int))=false:=by simpa using hd
 rw[he,hd'];exact main _ _ rfl;have hd:(y.1 == (n:Int))=true:=by simpa using hd
 rw[hd];exact main _ _ rfl
variable{r' s2 h:Hq}{w:AV}{l1:List Hq}
theorem Ip:∀{l:List Hq},(∀y∈l,Sub y s)->Sub (joinL l) s
 |[],_=>λi e hi=>by cases hi
 | a::l,h=>λi e hi=>by
   rw[GA]at hi;cases q:a i with
   |some x=>rw[bJ q]at hi;cases hi;exact h a sI i _ q
   |none=>rw[aV q]at hi;exact Ip (λy hy=>h y (by simp[hy])) i e hi
theorem Ir(z:Sep s (r::l1)){y:Hq}(hy:y∈l1):Sub y (rest s r):=λi e hi=>by
 have h1:r i=none:=by
  cases q:r i with
  |none=>rfl
  |some x=>rw[(pairwise_cons.1 z.dj).1 y hy i (by rw[q];simp)]at hi;cases hi
 unfold rest;rw[if_pos h1];exact z.sub y (by simp[hy]) i e hi
theorem sy(z:Sep s (r::l1))(g:Goes r s r' s2)(k1:Sub r' s0)(k2:Sub (rest s r) s0)(k3:Sub s0 s2):Sep s2 (newp s0 s2::r'::l1):=by
 have zg:=Sep.goes (l1:=[]) z g;refine Sep.newp ⟨λy hy=>?_,zg.dj⟩ k3;rcases mCY hy with rfl|hy
 ·exact k1
 ·exact(Ir z hy).trans k2
structure Pst where
 R:Nat->Ro
 lu:Nat->Bool
 nu:Nat->Bool
 way:List Msg
 now:Int
def updR(R:Nat->Ro)(n:Nat)(S:Ro)(m:Nat):Ro:=if m=n then S else R m
def rcv(N:Nat)(L:List LS.Lnk)(T:Pst)(m:Msg):Pst:=
 if TG.upI L T.lu T.nu (m.2.1:Int)=true then{ T with R:=updR T.R m.1 (fJ N m.1 L (T.R m.1) m.2.2),way:=T.way++msgs L m.1 (eK N m.1 L (T.R m.1) (m.2.1:Int) m.2.2) }else T
def dZ(L:List LS.Lnk)(lu nu:Nat->Bool)(n:Nat):List Int:=((ownL L n).filter λi:Nat=>TG.upI L lu nu (i:Int)).map λ(i:Nat)=>(i:Int)
def tck(L:List LS.Lnk)(T:Pst)(n:Nat):Pst:=
 if T.nu n=true then{ T with R:=updR T.R n (gH n L (T.R n) T.now (dZ L T.lu T.nu n)),way:=T.way++msgs L n (d9 n L (T.R n) T.now (dZ L T.lu T.nu n)) }else T
def ph1(N:Nat)(L:List LS.Lnk)(T:Pst)(i:Nat):Pst:=(T.way.take i).foldl (rcv N L) { T with way:=[],now:=T.now+1 }
def ph2(N:Nat)(L:List LS.Lnk)(T:Pst)(n:Nat):Pst:=(List.range n).foldl (tck L) (ph1 N L T T.way.length)
def ir(N:Nat)(L:List LS.Lnk)(T:Pst):Pst:=ph2 N L T N
structure TickOk(N:Nat)(L:List LS.Lnk)(T:Pst):Prop where
 r:∀(i:Nat) (m:Msg),T.way[i]?=some m->m.1<N/\(TG.upI L T.lu T.nu (m.2.1:Int)=true->RvP N m.1 L ((ph1 N L T i).R m.1) (m.2.1:Int) m.2.2)
 t:∀n,n<N->T.nu n=true->TkP n L ((ph2 N L T n).R n) (T.now+1) (dZ L T.lu T.nu n)
 l:(ir N L T).way.length<=16777216
 w:T.way.length<=16777216
theorem lZ{N i:Nat}{T:Pst}{m:Msg}(h:T.way[i]?=some m):ph1 N L T (i+1)=rcv N L (ph1 N L T i) m:=by unfold ph1;rw[take_add_one,h,foldl_append];rfl
theorem jX{N n:Nat}{T:Pst}:ph2 N L T (n+1)=tck L (ph2 N L T n) n:=by unfold ph2;rw[range_succ,foldl_append];rfl
theorem P1{N:Nat}{T:Pst}{m:Msg}:(rcv N L T m).lu=T.lu/\(rcv N L T m).nu=T.nu/\(rcv N L T m).now=T.now/\T.way.length<=(rcv N L T m).way.length:=by
 grind [rcv]
theorem Is{T:Pst}{n:Nat}:(tck L T n).lu=T.lu/\(tck L T n).nu=T.nu/\(tck L T n).now=T.now/\T.way.length<=(tck L T n).way.length:=by
 grind [tck]
theorem xM{N:Nat}{T:Pst}:∀{i:Nat},(ph1 N L T i).lu=T.lu/\(ph1 N L T i).nu=T.nu/\(ph1 N L T i).now=T.now+1
 | 0=>⟨rfl,rfl,rfl⟩
 | i+1=>by
   cases q:T.way[i]? with
   | none=>
     have:ph1 N L T (i+1)=ph1 N L T i:=by unfold ph1;rw[take_add_one,q];simp
     rw[this];exact xM
   | some m=>
     rw[lZ q];have ⟨a,b,c⟩:=xM (N:=N) (T:=T) (i:=i);have ⟨a',b',c',_⟩:=P1 (N:=N) (L:=L) (T:=ph1 N L T i) (m:=m)
     grind
theorem l8{N:Nat}{T:Pst}:∀{i:Nat},(ph2 N L T i).lu=T.lu/\(ph2 N L T i).nu=T.nu/\(ph2 N L T i).now=T.now+1
 | 0=>xM
 | i+1=>by
   rw[jX];have ⟨a,b,c⟩:=l8 (N:=N) (T:=T) (i:=i);have ⟨a',b',c',_⟩:=Is (L:=L) (T:=ph2 N L T i) (n:=i)
   grind
theorem Iu{N:Nat}{T:Pst}{i:Nat}:(ph1 N L T i).way.length<=(ph1 N L T (i+1)).way.length:=by
 cases q:T.way[i]? with
 | none=>
   have:ph1 N L T (i+1)=ph1 N L T i:=by unfold ph1;rw[take_add_one,q];simp
   grind
 |some m=>simp_all [lZ,P1]
theorem Iv{f:Nat->Nat}(h:∀i,f i<=f (i+1)){i j:Nat}(hij:i<=j):f i<=f j:=by
 induction j with
 |zero=>grind
 | succ j ih=>
   grind
theorem len1{N:Nat}{T:Pst}{i:Nat}(hi:i<=T.way.length):(ph1 N L T i).way.length<=(ir N L T).way.length:=
 Nat.le_trans (Iv (f:=λi=>(ph1 N L T i).way.length) (λi=>Iu) hi) (Iv (f:=λi=>(ph2 N L T i).way.length) (λi=>by show _<=(ph2 N L T (i+1)).way.length;grind [jX,Is]) (zero_le N))
theorem len2{N:Nat}{T:Pst}{i:Nat}(hi:i<=N):(ph2 N L T i).way.length<=(ir N L T).way.length:=
 Iv (f:=λi=>(ph2 N L T i).way.length) (λi=>by show _<=(ph2 N L T (i+1)).way.length;grind [jX,Is]) hi
variable{A rs:List Hq}{F:TN.NFab}{E:Hq}{T:Pst}
theorem Sep.idxA(z:Sep s (A++X))(is:List Nat)(h:is.Nodup):Sep s (is.filterMap (A[·]?)++X):=by
 have ⟨d1,d2,d3⟩:=pairwise_append.1 z.dj;have za:Sep s A:=⟨λy hy=>z.sub y (by simp[hy]),d1⟩
 have zi:=za.idx is h;have mem:∀y∈is.filterMap (A[·]?),y∈A:=gR;refine⟨λy hy=>?_,pairwise_append.2 ⟨zi.dj,d2,gR⟩⟩;rcases mP hy with hy|hy;exact zi.sub y hy;exact z.sub y (by simp[hy])
theorem Sep.pull(z:Sep s (A++rs))(hn:rs[n]?=some r):Sep s (r::(A++(rs.take n++rs.drop (n+1)))):=by
 have e:rs=rs.take n++r::rs.drop (n+1):=by have ⟨h1,h2⟩:=gS hn;rw[<- h2,getElem_cons_drop,take_append_drop]
 rw[e,<- append_assoc]at z;have:=z.perm perm_middle
 grind
theorem Sep.push(hn:rs[n]?=some r)(z:Sep s (r'::(A++(rs.take n++rs.drop (n+1))))):Sep s (A++rs.set n r'):=by have ⟨h1,h2⟩:=gS hn;have e:rs.set n r'=rs.take n++r'::rs.drop (n+1):=set_eq_take_append_cons_drop.trans (if_pos h1);rw[e,<- append_assoc];rw[<- append_assoc]at z;exact z.perm perm_middle.symm
abbrev nF(F:TN.NFab):Nat:=F.x.lf+F.x.sp
structure PlP(F:TN.NFab)(cs:List AV)(t:Hq)(pl:Nat)(E M:Hq)(T:Pst)(ar g:Nat)(wv glv:AV)(G q:Hq)(rs:List Hq)(ps:List Nat):Prop where
 sep:Sep t ([one pl (false,.cells 96 (plC cs g (.slc ar 0 (nF F) none 1) wv T.now)),q,M,one ar (false,.cells 22 (ps.map λp=>Pp p)),G,E]++rs)
 rl:rs.length=nF F
 pn:ps.length=nF F
 gr:TG.GRd false G g glv (nF F) F.L T.lu T.nu
 ap:TG.Ap g glv F.L
 fab:TN.NFR M cs F
 way:WayAt M q wv T.way
 ro:∀(n:Nat) (r:Hq) (p:Nat),rs[n]?=some r->ps[n]?=some p->RoAt (nF F) F.L (F.x.lf:Int) (F.x.sp:Int) n r p (T.R n)
def PlW(F:TN.NFab)(cs:List AV)(t:Hq)(pl:Nat)(E M:Hq)(T:Pst):Prop:=∃ar g wv glv G q rs ps,PlP F cs t pl E M T ar g wv glv G q rs ps
theorem fM(h:TN.NFR M cs F):cs.length=19/\∃v2,cs[2]?=some v2/\SlR 3 M v2 (F.L.map LS.lnR):=by obtain⟨v2,v3,v4,v5,v6,v7,rfl,h2,_⟩:=h.ex;exact⟨rfl,v2,rfl,h2⟩
theorem gj(ok:TN.NFok F):(∀y∈F.L,(0<=y.1/\y.1<100)/\(0<=y.2.1/\y.2.1<100)/\0<=y.2.2)/\F.L.length<=64/\nF F<=7:=by
 have h1:=ok.x.lf;have h2:=ok.x.sp;have h3:=ok.Ln;refine⟨λy hy=>?_,oM,gR⟩;have ⟨a1,a2,a3⟩:=ok.L.2 y hy
 grind
theorem xO{ar N i p:Nat}{ps:List Nat}(hl:ps.length=N)(hi:ps[i]?=some p)(ht:Hc t ar 22 (ps.map λp=>AV.ptr p 0)):ba 1 (.slc ar 0 N none 1) i=some (.ptr ar i)/\rd1 t (.ptr ar i)=some (.ptr p 0):=by
 have ⟨h1,_⟩:=gS hi;have:blt i N=true:=by rw[blt_eq];omega
 exact⟨by simp[ba,this],by rw[aj ht,getElem?_map,hi];rfl⟩
theorem xP{up:Nat->Bool}{ch:Nat->List LS.Rec}{x:Ntc}(h:x∈ntsL (ownL L n) up ch):owB L (n:Int) (x.1:Int)=true:=by
 grind [ntsL,lU]
theorem Ix{b o k:Nat}{l:List AV}(hs:Sub s t)(h:rdN s k (.ptr b o)=some l):rdN t k (.ptr b o)=some l:=by
 cases q:s b with
 |none=>simp[rdN,q]at h
 | some y=>
   have:=hs b y q
   grind [rdN]
theorem xQ{b o j k:Nat}{l:List AV}(h:rdN s (j+k) (.ptr b o)=some l):rdN s k (.ptr b (o+j))=some (l.drop j):=by
 cases q:s b with
 |none=>simp[rdN,q]at h
 | some y=>
   have ⟨t,x⟩:=y;cases x with
   | cells e c=>
     simp only[rdN,q,eA]at h ⊢;cases e1:ble (o+(j+k)) c.length with
     |false=>rw[e1]at h;cases h
     | true=>
       rw[e1,cond_true]at h;have e2:=le_of_ble_eq_true e1;rw[bL oM,cond_true];cases h;rw[drop_take,drop_drop]
       congr 2
       omega
   |_=>simp[rdN,q]at h
theorem Iy{ov:AV}{old:List Msg}{m:Msg}{i:Nat}{I0:List AV->Hq->Nat->Prop}{m0:Nat}(ok:TN.NFok F)(z:PlW F cs t pl E M T)(ho:WayAt M E ov old)(hm:old[i]?=some m)(hn:m.1<nF F)(hr:TG.upI F.L T.lu T.nu (m.2.1:Int)=true->RvP (nF F) m.1 F.L (T.R m.1) (m.2.1:Int) m.2.2)(hlen:(rcv (nF F) F.L T m).way.length<=16777216)(hold:old.length<=16777216)
  (hK:∀t' M',Sub M M'->PlW F cs t' pl E M' (rcv (nF F) F.L T m)->pe i I0 m0 K t'):wz (Pp pl) ov i I0 m0 K t:=by
 have ⟨ar,g,wv,glv,G,q,rs,ps,z⟩:=z;have ⟨clen,v2,c2,hl⟩:=fM z.fab;have ⟨rows,a1,a2,a3⟩:=ho.ex;have ⟨lv,e1,e2⟩:=a3 i m hm;have ⟨hi,_⟩:=gS hm;have kE:Sub E t:=z.sep.sub E sI;have kM:Sub M t:=z.sep.sub M sI;have kG:Sub G t:=z.sep.sub G sI;have hpl:Hc t pl 96 (plC cs g (.slc ar 0 (nF F) none 1) wv T.now):=z.sep.sub (one pl (false,.cells 96 (plC cs g (.slc ar 0 (nF F) none 1) wv T.now))) sI _ _ aP;have ln:bp ov=some old.length:=by rw[a1.sl.len,a2]
 have ⟨b,o,g1,g2,g3⟩:=a1.sl.get e1;have r0:rd1 E (.ptr b (o+0))=some m.1:=g3 0 (by simp);have r1:rd1 E (.ptr b (o+1))=some m.2.1:=g3 1 (by simp);have rdE:∀{x:Hq}{k:Nat}{w:AV},Sub E x->rd1 E (.ptr b k)=some w->rd1 x (.ptr b k)=some w:=fun {x k w} hx h=>by
  rcases q:E b with _|y;simp[rd1,q]at h;have:=hx b y q
  grind [rd1]
 unfold wz;simp only[ln,ae,aH];rw[decide_eq_true oM,aF];simp only[aO,ao,zAY,Nat.add_zero,ae,aj hpl,pl19 (g:=g) (rsl:=.slc ar 0 (nF F) none 1) (wv:=wv) (now:=T.now) clen,g1,rdE kE r1];refine TG.Up_in (z.gr.sub kG) λt1 k1=>?_;simp only[bD,ae];have z1:=z.sep.more k1;refine au (λhup=>?_) (λhup=>?_);have hup:TG.upI F.L T.lu T.nu (m.2.1:Int)=false:=by simpa using hup
 refine hK t1 M (.refl _) ?_;unfold rcv;rw[if_neg (by rw[hup];simp)];exact⟨ar,g,wv,glv,G,q,rs,ps,z1,z.rl,z.pn,z.gr,z.ap,z.fab,z.way,z.ro⟩;have hup:TG.upI F.L T.lu T.nu (m.2.1:Int)=true:=by simpa using hup
 have hrv:=hr hup;have ⟨rt,hrt⟩:∃rt,rs[m.1]?=some rt:=⟨_,gE (by rw[z.rl];exact hn)⟩
 have ⟨p,hp⟩:∃p,ps[m.1]?=some p:=(by grind [PlP.pn])
 have hro:=z.ro m.1 rt p hrt hp;obtain⟨PL,hPL⟩:∃PL,PL=one pl (false,.cells 96 (plC cs g (.slc ar 0 (nF F) none 1) wv T.now)):=⟨_,rfl⟩
 obtain⟨AR,hAR⟩:∃AR,AR=one ar (false,.cells 22 (ps.map λp=>AV.ptr p 0)):=⟨_,rfl⟩
 obtain⟨Y,hY⟩:∃Y,Y=rs.take m.1++rs.drop (m.1+1):=⟨_,rfl⟩
 rw[<- hPL,<- hAR]at z1;have zp:=z1.pull hrt;rw[<- hY]at zp;have kE1:Sub E t1:=zp.sub E sI;have r0:rd1 E (.ptr b o)=some m.1:=r0;have hpl1:Hc t1 pl 96 (plC cs g (.slc ar 0 (nF F) none 1) wv T.now):=zp.sub PL sI _ _ (by rw[hPL];exact aP);have har1:Hc t1 ar 22 (ps.map λp=>AV.ptr p 0):=zp.sub AR sI _ _ (by rw[hAR];exact aP);have ⟨ad1,ad2⟩:=xO z.pn hp har1;have rN:rdN t1 3 (.ptr b (o+1+1))=some [Ii m.2.2.1,Ii m.2.2.2.1,lv]:=by have h5:rdN E (2+3) (.ptr b o)=some (msgR m lv):=g2;exact Ix kE1 (xQ h5)
 have p20:=pl20 (g:=g) (rsl:=.slc ar 0 (nF F) none 1) (wv:=wv) (now:=T.now) clen;simp only[ae,aj hpl1,p20,rdE kE1 r0,rdE kE1 r1,ad1,ad2];refine am rN ?_;have P:=xI ok;have ⟨hL1,hL2,hN7⟩:=gj ok;show wC TP 17 [Pp p,m.2.1,LS.recV m.2.2.1 m.2.2.2.1 lv] _ _;refine xr P hn (zp.sub rt sI) hro (e2.sub (Ir zp sI)) hrv λr' s2 nv s0 h1 h2 h3 h4 h5 h6=>?_;have x0:aN (.tup [nv,Ii 0]) 0=some nv:=rfl;have x1:aN (.tup [nv,Ii 0]) 1=some (Ii 0):=rfl;have e3:negB true (eqV 0 true (Ii 0) (Ii 0))=some false:=rfl;have za:=sy zp h2 h3 h4 h5;have zb:Sep s2 (newp s0 s2::M::([r',PL,AR,E,q,G]++Y)):=Sep.idxA (A:=[newp s0 s2,r',PL,q,M,AR,G,E]) (X:=Y) za [0,4,1,2,5,7,3,6] dE;have kMM:Sub M (add (newp s0 s2) M):=ig ((pairwise_cons.1 zb.dj).1 M sI);have zd:Sep s2 ([PL,q,add (newp s0 s2) M,AR,G,E]++rs.set m.1 r'):=Sep.push hrt (by rw[<- hY];exact Sep.idxA (A:=[add (newp s0 s2) M,r',PL,AR,E,q,G]) (X:=Y) (Sep.join zb) [1,2,5,0,3,6,4] dE);simp only[x0,x1,e3,ae,rdE (zd.sub E sI) r0];rw[hPL]at zd;have hnat:NtAt (add (newp s0 s2) M) nv (eK (nF F) m.1 F.L (T.R m.1) (m.2.1:Int) m.2.2):=h6.at.sub eF;have hlen':T.way.length+(eK (nF F) m.1 F.L (T.R m.1) (m.2.1:Int) m.2.2).length<=16777216:=by have:=hlen;unfold rcv at this;rw[if_pos hup]at this;simpa [msgs]using this
 refine xi clen c2 (hl.sub kMM) hL1 hL2 oM (X:=[AR,G,E]++rs.set m.1 r') zd (z.way.sub kMM) hnat (λx hx=>xP hx) hlen' λs' q' wv' ze hw'=>?_;refine am (bD) ?_;show pe i I0 m0 K s';refine hK s' _ kMM ?_;unfold rcv;rw[if_pos hup];rw[hAR]at ze;refine⟨ar,g,wv',glv,G,q',rs.set m.1 r',ps,ze,by rw[length_set];exact z.rl,z.pn,z.gr,z.ap,NFR.sub z.fab kMM,hw',λn' r2 p' hr2 hp'=>?_⟩;show RoAt _ _ _ _ n' r2 p' (updR T.R m.1 _ n');unfold updR
 by_cases e:n'=m.1
 ·subst e
  rw[if_pos rfl];rw[hp]at hp';cases hp';rw[getElem?_set_self (by rw[z.rl];exact hn)]at hr2;cases hr2;exact h1
 rw[if_neg e];rw[getElem?_set_ne (Ne.symm e)]at hr2;exact z.ro n' r2 p' hr2 hp'
theorem fi{a:AV}(h:a.one=true):aq (repl 1 [(Ii 0)]) [(0,1,a)]=some [a]:=by simp only[aq,dx h];rfl
theorem Iz{hv:AV}{k:Nat}{own:AV}{m5 m3:Nat}{I5 I3:List AV->Hq->Nat->Prop}(ok:TN.NFok F)(z:PlW F cs t pl E M T)(hn:n<nF F)(ha:T.nu n=true)(hT:TkP n F.L (T.R n) T.now (dZ F.L T.lu T.nu n))(hlen:(tck F.L T n).way.length<=16777216)
  (hh:LS.Sli t hv (dZ F.L T.lu T.nu n)) (hf:∃t0,PlW F cs t0 pl E M T/\Sub t0 t/\∀b o m c,hv=.slc b o m c 1->dZ F.L T.lu T.nu n≠[]->t0 b=none) (hown:bp own=some k)
  (hK:∀t' M',Sub M M'->PlW F cs t' pl E M' (tck F.L T n)->lE n I3 m3 K t'):wx (Pp pl) n hv own k I5 m5 I3 m3 K t:=by
 have ⟨t0,⟨ar,g,wv,glv,G,q,rs,ps,z⟩,k0,hfr⟩:=hf;have ⟨clen,v2,c2,hl⟩:=fM z.fab;have ⟨rt,hrt⟩:∃rt,rs[n]?=some rt:=⟨_,gE (by rw[z.rl];exact hn)⟩
 have ⟨p,hp⟩:∃p,ps[n]?=some p:=⟨_,gE (by rw[z.pn];exact hn)⟩
 have hro:=z.ro n rt p hrt hp;have ⟨nb,hnb,zn⟩:=Sep.lst (z.sep.more k0) hh λb o m c e hne y hy=>cq (z.sep.sub y hy) (hfr b o m c e hne);obtain⟨PL,hPL⟩:∃PL,PL=one pl (false,.cells 96 (plC cs g (.slc ar 0 (nF F) none 1) wv T.now)):=⟨_,rfl⟩
 obtain⟨AR,hAR⟩:∃AR,AR=one ar (false,.cells 22 (ps.map λp=>AV.ptr p 0)):=⟨_,rfl⟩
 obtain⟨Y,hY⟩:∃Y,Y=rs.take n++rs.drop (n+1):=⟨_,rfl⟩
 rw[<- hPL,<- hAR]at zn;have zp:=Sep.pull (A:=[nb,PL,q,M,AR,G,E]) zn hrt;rw[<- hY]at zp;have hpl1:Hc t pl 96 (plC cs g (.slc ar 0 (nF F) none 1) wv T.now):=zp.sub PL sI _ _ (by rw[hPL];exact aP);have har1:Hc t ar 22 (ps.map λp=>AV.ptr p 0):=zp.sub AR sI _ _ (by rw[hAR];exact aP);have ⟨ad1,ad2⟩:=xO z.pn hp har1;have p20:=pl20 (g:=g) (rsl:=.slc ar 0 (nF F) none 1) (wv:=wv) (now:=T.now) clen;have p22:=pl22 (g:=g) (rsl:=.slc ar 0 (nF F) none 1) (wv:=wv) (now:=T.now) clen;unfold wx;simp only[hown,ae,aH];rw[decide_eq_false oM,ay];simp only[aO,ao,zAY,ae,aj hpl1,p20,p22,ad1,ad2];have P:=xI ok;have ⟨hL1,hL2,hN7⟩:=gj ok;refine xw P hn (zp.sub rt sI) hro (hnb.sub (Ir zp sI)) hT λr' s2 nv s0 h1 h2 h3 h4 h5 h6=>?_;have x0:aN (.tup [nv,Ii 0]) 0=some nv:=rfl;have x1:aN (.tup [nv,Ii 0]) 1=some (Ii 0):=rfl;have e3:negB true (eqV 0 true (Ii 0) (Ii 0))=some false:=rfl;have za:=sy zp h2 h3 h4 h5;have zb:Sep s2 (newp s0 s2::M::([r',PL,AR,q,G,E]++Y)):=Sep.idxA (A:=[newp s0 s2,r',nb,PL,q,M,AR,G,E]) (X:=Y) za [0,5,1,3,6,4,7,8] dE;have kMM:Sub M (add (newp s0 s2) M):=ig ((pairwise_cons.1 zb.dj).1 M sI);have zd:Sep s2 ([PL,q,add (newp s0 s2) M,AR,G,E]++rs.set n r'):=Sep.push hrt (by rw[<- hY];exact Sep.idxA (A:=[add (newp s0 s2) M,r',PL,AR,q,G,E]) (X:=Y) (Sep.join zb) [1,2,4,0,3,5,6] dE);simp only[x0,x1,e3,ae];rw[hPL]at zd;have hnat:NtAt (add (newp s0 s2) M) nv (d9 n F.L (T.R n) T.now (dZ F.L T.lu T.nu n)):=h6.at.sub eF;have hlen':T.way.length+(d9 n F.L (T.R n) T.now (dZ F.L T.lu T.nu n)).length<=16777216:=by have:=hlen;unfold tck at this;rw[if_pos ha]at this;simpa [msgs]using this
 refine xi clen c2 (hl.sub kMM) hL1 hL2 oM (X:=[AR,G,E]++rs.set n r') zd (z.way.sub kMM) hnat (λx hx=>xP hx) hlen' λs' q' wv' ze hw'=>?_;refine am (bD) ?_;show lE n I3 m3 K s';refine hK s' _ kMM ?_;unfold tck;rw[if_pos ha];rw[hAR]at ze;refine⟨ar,g,wv',glv,G,q',rs.set n r',ps,ze,by rw[length_set];exact z.rl,z.pn,z.gr,z.ap,NFR.sub z.fab kMM,hw',λn' r2 p' hr2 hp'=>?_⟩;show RoAt _ _ _ _ n' r2 p' (updR T.R n _ n');unfold updR
 by_cases e:n'=n
 ·subst e
  rw[if_pos rfl];rw[hp]at hp';cases hp';rw[getElem?_set_self (by rw[z.rl];exact hn)]at hr2;cases hr2;exact h1
 rw[if_neg e];rw[getElem?_set_ne (Ne.symm e)]at hr2;exact z.ro n' r2 p' hr2 hp'
theorem PlW.sub(z:PlW F cs t pl E M T)(k:Sub t s'):PlW F cs s' pl E M T:=by have ⟨ar,g,wv,glv,G,q,rs,ps,z⟩:=z;exact⟨ar,g,wv,glv,G,q,rs,ps,z.sep.more k,z.rl,z.pn,z.gr,z.ap,z.fab,z.way,z.ro⟩
theorem IA{m3:Nat}{I3:List AV->Hq->Nat->Prop}(ok:TN.NFok F)(z:PlW F cs t pl E M T)(hn:n<nF F)(hT:T.nu n=true->TkP n F.L (T.R n) T.now (dZ F.L T.lu T.nu n))(hlen:(tck F.L T n).way.length<=16777216)
  (hK:∀t' M',Sub M M'->PlW F cs t' pl E M' (tck F.L T n)->lE n I3 m3 K t'):wy (Pp pl) n I3 m3 K t:=by
 have z0:=z;have ⟨ar,g,wv,glv,G,q,rs,ps,z⟩:=z;obtain⟨clen,v2,c2,hl⟩:=fM z.fab;have kG:Sub G t:=z.sep.sub G sI;have hpl:Hc t pl 96 (plC cs g (.slc ar 0 (nF F) none 1) wv T.now):=z.sep.sub (one pl (false,.cells 96 (plC cs g (.slc ar 0 (nF F) none 1) wv T.now))) sI _ _ aP;have har:Hc t ar 22 (ps.map λp=>AV.ptr p 0):=z.sep.sub (one ar (false,.cells 22 (ps.map λp=>AV.ptr p 0))) sI _ _ aP;have p19:=pl19 (g:=g) (rsl:=.slc ar 0 (nF F) none 1) (wv:=wv) (now:=T.now) clen;have p20:=pl20 (g:=g) (rsl:=.slc ar 0 (nF F) none 1) (wv:=wv) (now:=T.now) clen;obtain⟨hL1,hL2,hN7⟩:=gj ok;unfold wy;simp only[aO,ao,zAY,ae,aj hpl,p20,c9,aH];rw[decide_eq_true oM,aF];simp only[ae,p19];refine TG.Alive_in (z.gr.sub kG) ?_;have eal:TG.aliveI (nF F) T.nu (n:Int)=T.nu n:=by unfold TG.aliveI;rw[decide_eq_true ⟨oM,oM⟩,Bool.true_and,Int.toNat_natCast]
 rw[eal];simp only[bD,ae];refine au (λhna=>?_) (λha=>?_);refine hK t M (.refl _) ?_
 grind [tck]
 have ha:T.nu n=true:=by simpa using ha
 have ⟨rt,hrt⟩:∃rt,rs[n]?=some rt:=⟨_,gE (by rw[z.rl];exact hn)⟩
 have ⟨p,hp⟩:∃p,ps[n]?=some p:=⟨_,gE (by rw[z.pn];exact hn)⟩
 have hro:=z.ro n rt p hrt hp;obtain⟨ad1,ad2⟩:=xO z.pn hp har;have krt:Sub rt t:=z.sep.sub rt (by simp[mG hrt]);obtain⟨st,rw_,rd,rtb,wl,wm,d,f,lv,mv,uv,dv,zs,pt⟩:=hro.ex;have zst:=zs.more krt;have hp0:Hc t p 75 (roC (n:Int) (lbk n) (F.x.lf:Int) (F.x.sp:Int) lv mv wm d f (T.R n).tk (T.R n).la uv dv):=zst.sub (pC p n (F.x.lf:Int) (F.x.sp:Int) lv mv wm d f (T.R n).tk (T.R n).la uv dv) sI _ _ aP;have hwl:wl.length<=200:=by
  have h1:(wl.map (·.1)).length<=F.L.length:=by rw[pt.wk];exact lR
  rw[lMY]at h1;omega
 simp only[ae,aj hpl,p20,ad1,ad2];refine Pr pt.ws.asc hwl hp0 (pt.ws.mr.sub (zst.sub rw_ sI)) λt1 ov k1 acc1=>?_;have elk:lks wl=(ownL F.L n).map λ(i:Nat)=>(i:Int):=by rw[<- pt.wk];simp_all [lks]
 rw[elk]at acc1;have sl1:LS.Sli t1 ov ((ownL F.L n).map λ(i:Nat)=>(i:Int)):=acc1.sl;have lov:bp ov=some (ownL F.L n).length:=by rw[sl1.len];simp
 have own64:(ownL F.L n).length<=64:=Nat.le_trans lR hL2;have z1:=z0.sub k1;have gr1:=z.gr.sub (kG.trans k1);have hpl1:=k1 _ _ hpl
 let hd:Nat->List Int:=λi=>(((ownL F.L n).take i).filter λi:Nat=>TG.upI F.L T.lu T.nu (i:Int)).map λ(i:Nat)=>(i:Int)
 have hdlen:∀i,(hd i).length<=64:=λi=>by show(List.map _ (List.filter _ _)).length<=64;rw[lMY];refine Nat.le_trans (length_filter_le _ _) ?_;rw[length_take];omega
 refine⟨λys t m=>∃(i:Nat) (hv:AV),ys=[hv,i]/\i<=(ownL F.L n).length/\m=(ownL F.L n).length-i/\Sub t1 t/\Acc 3 t1 t hv (izs (hd i)),⟨_,0,.nilslc,rfl,oM,rfl,.refl _,.inl ⟨rfl,rfl⟩⟩,?_⟩;rintro f t2 m ⟨i,hv,hy,hi,rfl,k2,acc2⟩;simp only[cI,and_true]at hy;rw[hy.1,hy.2]
 by_cases hlt:i<(ownL F.L n).length
 rotate_left
 ·have:i=(ownL F.L n).length:=oM
  subst this;have eh:hd (ownL F.L n).length=dZ F.L T.lu T.nu n:=by show List.map _ (List.filter _ (List.take _ _))=_;rw[take_length];rfl
  rw[eh]at acc2;refine Iz ok (z1.sub k2) hn ha (hT ha) hlen acc2.sl ⟨t1,z1,k2,λb o m c e hne=>?_⟩ lov hK;rcases acc2 with⟨q1,_⟩|⟨b',q1,q2,_⟩
  ·rw[e]at q1;cases q1
  grind
 unfold wx;simp only[lov,ae,aH];rw[decide_eq_true oM,aF];have hpl2:=k2 _ _ hpl1;obtain⟨b,g1,g2⟩:=LS.dK (sl1.sub k2) (k:=i) (by rw[lMY];exact hlt);have e0:((ownL F.L n).map λ(i:Nat)=>(i:Int))[i]'(by rw[lMY];exact hlt)=((ownL F.L n)[i]:Int):=by rw[getElem_map]
 rw[e0]at g2;simp only[aO,ao,zAY,ae,aj hpl2,p19,g1,g2];refine TG.Up_in (gr1.sub k2) λt3 k3=>?_;have k23:=k2.trans k3;have acc3:Acc 3 t1 t3 hv (izs (hd i)):=acc2.imp id λ⟨c,q1,q2,q3⟩=>⟨c,q1,q2,k3 _ _ q3⟩
 have hds:hd (i+1)=hd i++(if TG.upI F.L T.lu T.nu ((ownL F.L n)[i]:Int)=true then[((ownL F.L n)[i]:Int)]else[]):=by
  show List.map _ (List.filter _ (List.take (i+1) _))=_;rw[take_add_one,gE hlt,filter_append,map_append]
  congr 1
  show List.map _ (List.filter _ [(ownL F.L n)[i]])=_
  by_cases hu:TG.upI F.L T.lu T.nu ((ownL F.L n)[i]:Int)=true
  rw[if_pos hu];simp[hu]
  simp_all
 have next:∀hv' t',Sub t1 t'->Acc 3 t1 t' hv' (izs (hd (i+1)))->ww hv' i (λys t m=>∃(i:Nat) (hv:AV),ys=[hv,i]/\i<=(ownL F.L n).length/\m=(ownL F.L n).length-i/\Sub t1 t/\Acc 3 t1 t hv (izs (hd i))) ((ownL F.L n).length-i) I3 m3 K t':=λhv' t' k' a'=>by unfold ww;simp only[aJ,ae];rw[aC];exact⟨_,oM,i+1,hv',sI,oM,rfl,k',a'⟩
 refine au (λhu=>?_) (λhu=>?_)
 ·rw[if_pos hu]at hds
  obtain⟨b',g3,g4⟩:=LS.dK (sl1.sub k23) (k:=i) (by rw[lMY];exact hlt);rw[g1]at g3;cases g3;rw[e0]at g4;simp only[g4,ae];refine am (fi rfl) ⟨rfl,an λc t4 hc w4 u4=>?_⟩;have k4:=u4.sub hc;have acc4:Acc 3 t1 t4 hv (izs (hd i)):=acc3.imp id λ⟨d,q1,q2,q3⟩=>⟨d,q1,q2,k4 _ _ q3⟩
  refine xz acc4 (k23.trans k4) (Sl.mk (l:=[((ownL F.L n)[i]:Int)]) w4 rfl sI) (λb o m c' e q1=>?_) (by rw[lMY];have:=hdlen i;omega) λv' t5 acc5 kp5 _=>?_
  ·cases e
   have ⟨_,q2⟩:=Acc.blk acc3 q1;rw[hc]at q2;cases q2
  ·have em:izs (hd i) ++ [Ii ((ownL F.L n)[i])]=izs (hd (i+1)):=by rw[hds];simp
   rw[em]at acc5;refine next v' t5 (λj e hj=>kp5 j e (k4 _ _ (k23 _ _ hj)) λq1=>?_) acc5;rw[(Acc.blk acc4 q1).1]at hj;cases hj
 ·rw[if_neg (by rw[hu];simp),append_nil]at hds
  exact next hv t3 k23 (by rw[hds];exact acc3)
variable{l2:List Hq}
theorem IC(ok:TN.NFok F)(z:PlW F cs t pl E M T)(tk:TickOk (nF F) F.L T)(hnow:0<=T.now/\T.now<=1000000000000)
  (hK:∀t' E' M',Sub M M'->PlW F cs t' pl E' M' (ir (nF F) F.L T)->K true t'):wC TP 31 [Pp pl] K t:=by
 have ⟨ar,g,wv,glv,G,q,rs,ps,z⟩:=z;have ⟨clen,v2,c2,hl⟩:=fM z.fab;have hpl:Hc t pl 96 (plC cs g (.slc ar 0 (nF F) none 1) wv T.now):=z.sep.sub (one pl (false,.cells 96 (plC cs g (.slc ar 0 (nF F) none 1) wv T.now))) sI _ _ aP;refine XU ?_;unfold Ot;simp only[aO,ao,zAY,ae,aj hpl,pl22 (g:=g) (rsl:=.slc ar 0 (nF F) none 1) (wv:=wv) (now:=T.now) clen,aJ];rw[aC];refine aT hpl (by simp[clen]) rfl λs1 h1 u1=>?_;have z1:=Sep.wr1 (l:=[q,M,one ar (false,.cells 22 (ps.map λp=>Pp p)),G,E]++rs) z.sep u1 (by rw[aP];simp) h1;have e22:(plC cs g (.slc ar 0 (nF F) none 1) wv T.now).set 22 (T.now+1:Int)=plC cs g (.slc ar 0 (nF F) none 1) wv (T.now+1):=by rw[show(22:Nat)=19+3 from rfl,xK clen];rfl
 rw[eT,e22]at z1;rw[e22]at h1;simp only[ae,aj h1,pl21 (g:=g) (rsl:=.slc ar 0 (nF F) none 1) (wv:=wv) (now:=T.now+1) clen];refine aT h1 (by simp[clen]) rfl λs2 h2 u2=>?_;have z2:=Sep.wr1 (l:=[q,M,one ar (false,.cells 22 (ps.map λp=>Pp p)),G,E]++rs) z1 u2 (by rw[aP];simp) h2;have e21:(plC cs g (.slc ar 0 (nF F) none 1) wv (T.now+1)).set 21 .nilslc=plC cs g (.slc ar 0 (nF F) none 1) .nilslc (T.now+1):=by rw[show(21:Nat)=19+2 from rfl,xK clen];rfl
 rw[eT,e21]at z2;have z3:Sep s2 ([one pl (false,.cells 96 (plC cs g (.slc ar 0 (nF F) none 1) .nilslc (T.now+1))),λ_=>none,M,one ar (false,.cells 22 (ps.map λp=>Pp p)),G,q]++rs):=by have za:=z2.fresh1 (.refl _) (r:=λ_=>none) (λi e hi=>by cases hi) λi hi=>absurd rfl hi;exact Sep.idxA (A:=[λ_=>none,one pl (false,.cells 96 (plC cs g (.slc ar 0 (nF F) none 1) .nilslc (T.now+1))),q,M,one ar (false,.cells 22 (ps.map λp=>Pp p)),G,E]) (X:=rs) za [1,0,3,4,5,2] dE
 have p0:PlW F cs s2 pl q M (ph1 (nF F) F.L T 0):=⟨ar,g,.nilslc,glv,G,_,rs,ps,z3,z.rl,z.pn,z.gr,z.ap,z.fab,WayAt.nil,z.ro⟩
 have hlen:∀{v':AV}{ms:List Msg}{M':Hq},WayAt M' q v' ms->bp v'=some ms.length:=fun {v' ms M'} h=>by have ⟨rows,a1,a2,_⟩:=h.ex;rw[a1.sl.len,a2]
 have tw:=tk.w;have tl:=tk.l;refine⟨λys t m=>∃(i:Nat) (M':Hq),ys=[Ii i]/\i<=T.way.length/\m=T.way.length-i/\Sub M M'/\PlW F cs t pl q M' (ph1 (nF F) F.L T i),⟨_,0,M,rfl,oM,rfl,.refl _,p0⟩,?_⟩;rintro f t1 m ⟨i,M1,hy,hi,rfl,kM,zi⟩;simp only[cI,and_true]at hy;rw[hy];have ⟨su,sn,sw⟩:=xM (N:=nF F) (L:=F.L) (T:=T) (i:=i)
 by_cases hlt:i<T.way.length
 have hm:=gE hlt;have ⟨r1,r2⟩:=tk.r i _ hm;have l1:(rcv (nF F) F.L (ph1 (nF F) F.L T i) T.way[i]).way.length<=16777216:=by
  rw[<- lZ hm]
  grind [len1]
 refine Iy ok zi (z.way.sub kM) hm r1 ((by simp_all)) l1 tw λt' M' k' z'=>?_;rw[<- lZ hm]at z';unfold pe;simp only[aJ,ae];rw[aC]
 grind [Sub.trans]
 have hi2:i=T.way.length:=oM;unfold wz;simp only[hlen z.way,ae,aH];rw[decide_eq_false oM,ay];rw[hi2]at zi;refine⟨λys t m=>∃(n:Nat) (M':Hq),ys=[Ii n]/\n<=nF F/\m=nF F-n/\Sub M M'/\PlW F cs t pl q M' (ph2 (nF F) F.L T n),⟨_,0,M1,rfl,oM,rfl,kM,zi⟩,?_⟩;rintro f t2 m ⟨n,M2,hy,hn,rfl,kM2,zn⟩;simp only[cI,and_true]at hy;rw[hy];have ⟨_,_,hN7⟩:=gj ok;have ⟨su,sn,sw⟩:=l8 (N:=nF F) (L:=F.L) (T:=T) (i:=n)
 by_cases hlt:n<nF F
 have l2:(tck F.L (ph2 (nF F) F.L T n) n).way.length<=16777216:=by rw[<- jX];exact Nat.le_trans (len2 oM) tl
 refine IA ok zn hlt (λha=>?_) l2 λt' M' k' z'=>?_
 simp_all [TickOk.t]
 rw[<- jX]at z';unfold lE;simp only[aJ,ae];rw[aC];exact⟨_,oM,n+1,M',sI,oM,rfl,kM2.trans k',z'⟩;have hn2:n=nF F:=oM;rw[hn2]at zn;have zz:=zn;have ⟨ar,g,wv,glv,G,q,rs,ps,z⟩:=zn;have ⟨clen,v2,c2,hl⟩:=fM z.fab;have hpl:Hc t2 pl 96 (plC cs g (.slc ar 0 (nF F) none 1) wv (ph2 (nF F) F.L T (nF F)).now):=z.sep.sub (one pl (false,.cells 96 (plC cs g (.slc ar 0 (nF F) none 1) wv (ph2 (nF F) F.L T (nF F)).now))) sI _ _ aP;unfold wy;simp only[aO,ao,zAY,ae,aj hpl,pl20 (g:=g) (rsl:=.slc ar 0 (nF F) none 1) (wv:=wv) (now:=(ph2 (nF F) F.L T (nF F)).now) clen,c9,aH];rw[decide_eq_false oM,ay];exact hK t2 _ M2 kM2 zz
theorem Sep.shrink{a a':Hq}{l:List Hq}(z:Sep s (a::l))(k:Sub a' a):Sep s (a'::l):=by
 have ⟨h1,h2⟩:=pairwise_cons.1 z.dj;refine⟨λy hy=>?_,pairwise_cons.2 ⟨λy hy i hi=>h1 y hy i ?_,h2⟩⟩;rcases mCY hy with e|hy;rw[e];exact k.trans (z.sub a sI);exact z.sub y (by simp[hy])
 ·cases q:a' i with
  |none=>exact absurd q hi
  |some x=>rw[k i x q];simp
theorem Sep.grow1{elem:TypeId}{l:List Hq}{rows rows':List AV}(z:Sep s (q::l))(h:Acc elem (λ_=>none) q v rows){v':AV}(h':Acc elem (λ_=>none) s' v' rows')(kp:aB (bH 1 v) s s')(hb:∀b,bH 1 v' b->s b=none∨bH 1 v b):∃q',Acc elem (λ_=>none) q' v' rows'/\Sep s' (q'::l):=by
 obtain⟨hq,hd⟩:=pairwise_cons.1 z.dj;have own:∀b,bH 1 v b->q b≠none:=λb ⟨o,n,c,e⟩=>by
  rcases h with⟨q1,_⟩|⟨b',_,q1,q2⟩
  ·rw[e]at q1;cases q1
  grind
 have keep:∀y∈l,Sub y s':=λy hy i e hi=>kp i e (z.sub y (by simp[hy]) i e hi) λq1=>by rw[hq y hy i (own i q1)]at hi;cases hi
 rcases h' with⟨e1,e2⟩|⟨b,_,e1,e2⟩
 ·exact⟨λ_=>none,.inl ⟨e1,e2⟩,⟨λy hy=>by
   rcases mCY hy with e|hy
   ·rw[e];intro i e hi;cases hi
   exact keep y hy,pairwise_cons.2 ⟨λy hy i hi=>absurd rfl hi,hd⟩⟩⟩
 refine⟨one b (false,.cells elem rows'),.inr ⟨b,rfl,e1,aP⟩,⟨λy hy=>?_,pairwise_cons.2 ⟨λy hy i hi=>?_,hd⟩⟩⟩;rcases mCY hy with e|hy;rw[e];intro i x hi;have:=fH (c:=b) (x:=(false,Blk.cells elem rows')) (i:=i) (by rw[hi];simp)
 grind [aP]
 exact keep y hy;rw[fH hi];rcases hb b ⟨_,_,_,e1⟩with q1|q1;exact cq (z.sub y (by simp[hy])) q1;exact hq y hy b (own b q1)
def pst0(F:TN.NFab):Pst:=⟨λ_=>new0 F,λj=>decide (j<F.L.length),λj=>decide (j<nF F),[],0⟩
theorem ID(ok:TN.NFok F):TG.newE ((F.x.lf:Int)+(F.x.sp:Int)) F.L=0:=by
 have h1:=ok.x.lf;have h2:=ok.x.sp;have h3:=ok.Ln;unfold TG.newE;have:∀l:List TG.Lk,(∀x∈l,x∈F.L)->TG.linkE ((F.x.lf:Int)+(F.x.sp:Int)) l=0:=by
  intro l
  induction l with
  |nil=>intro _;rfl
  | cons x l ih=>
    intro h;have ⟨a1,a2,a3⟩:=ok.L.2 x (h x sI)
    grind [TG.linkE,TG.badL]
 grind
theorem IE{g:Nat}(h:cs.length=19)(ho:aD cs=true):aq [(Ii 0),(Ii 0),.nilslc,.nilslc,.nilslc,.nilslc,.nilslc,.nilslc,(Ii 0),(Ii 0),(Ii 0),false,false,(Ii 0),(Ii 0),(Ii 0),(Ii 0),(Ii 0),(Ii 0),.nilptr,.nilslc,.nilslc,(Ii 0)] [(0,19,(.agg cs)),(19,1,Pp g)]=some (plC cs g .nilslc .nilslc 0):=by
 have e1:ble (0+cs.length) 23=true:=by rw[ble_eq];omega
 have e2:beq cs.length 19=true:=by rw[h];rfl
 have s1:bN [(Ii 0),(Ii 0),.nilslc,.nilslc,.nilslc,.nilslc,.nilslc,.nilslc,(Ii 0),(Ii 0),(Ii 0),false,false,(Ii 0),(Ii 0),(Ii 0),(Ii 0),(Ii 0),(Ii 0),.nilptr,.nilslc,.nilslc,(Ii 0)] 0 cs=cs ++ [.nilptr,.nilslc,.nilslc,Ii 0]:=by
  simp_all [bN]
 have s2:bN (cs ++ [.nilptr,.nilslc,.nilslc,Ii 0]) 19 [Pp g]=plC cs g .nilslc .nilslc 0:=by unfold bN plC;rw[take_append_of_le_length oM,take_of_length_le oM,show 19+[AV.ptr g 0].length=cs.length+1 by rw[h];rfl,drop_append,drop_eq_nil_of_le oM];simp
 have e3:ble (19+1) (cs ++ [AV.nilptr,.nilslc,.nilslc,Ii 0]).length=true:=by simp_all
 have e4:beq 1 1=true:=rfl;simp only[aq,fC,Av,s1,s2,e2,length_cons,length_nil,zAY,e4]
 grind
theorem IF{a:AV}(h:a.one=true):aq (repl 1 [.nilptr]) [(0,1,a)]=some [a]:=by simp only[aq,dx h];rfl
theorem IG(ok:TN.NFok F)(hF:TN.NFR s cs F)(hK:∀t' pl M,Sub s t'->Sub s M->PlW F cs t' pl (λ_=>none) M (pst0 F)->K (Pp pl) t'):wC TP 28 [.agg cs] K s:=by
 have ⟨v2,v3,v4,v5,v6,v7,hcs,h2,h3,h4,h5,h6,h7⟩:=hF.ex;have ones:aD cs=true:=by grind [TN.csF,bP,As,SlR.one,TN.SgR.one,K6,K7]
 have c0:cs[0]?=some (Ii F.x.lf):=by rw[hcs];rfl
 have c1:cs[1]?=some (Ii F.x.sp):=by rw[hcs];rfl
 have c2:cs[2]?=some v2:=by rw[hcs];rfl
 have clen:cs.length=19:=by rw[hcs];rfl
 have xlf:=ok.x.lf;have xsp:=ok.x.sp;have xL:=ok.Ln;refine XP ⟨ones,an λb0 s1 hb0 q1 u1=>?_⟩;have q1:Hc s1 b0 52 cs:=q1;have k1:=u1.sub hb0;simp only[ao,zAY,ae,aj q1,c0,c1,c2,aJ];rw[aC];have hl1:=h2.sub k1;refine TG.New_in hl1 oM (λh=>absurd (ID ok) h) λ_ N' eN s2 g glv k2 hg=>?_;obtain rfl:N'=nF F:=gR;have x0:∀a b:AV,aN (.tup [a,b]) 0=some a:=λ_ _=>rfl;have x1:∀a b:AV,aN (.tup [a,b]) 1=some b:=λ_ _=>rfl;have e3:negB true (eqV 0 true (Ii 0) (Ii 0))=some (.bool false):=rfl;have e4:∀p:Nat,negB false (eqV 3 true (Pp p) .nilptr)=some (.bool false):=λ_=>rfl;simp only[x0,x1,e3,e4,ae,ay];unfold CJ aK;have q2:=k2 _ _ q1;have hg2:TG.GRd false (newp s1 s2) g glv (nF F) F.L (λj=>decide (j<F.L.length)) (λj=>decide (j<nF F)):=by
  have ⟨⟨a,b,c,d,w1,w2⟩,w3,w4⟩:=hg.rd;refine⟨(by grind [jU,TG.Gr.fg]),?_,w4⟩;have ⟨a1,a2⟩:=w3;refine⟨a1,?_⟩;rcases a2 with h|⟨b',o',c',d1,d2,d3⟩;exact .inl h;refine .inr ⟨b',o',c',d1,d2,λhn=>?_⟩
  grind [jU,TG.Gr.fl]
 have z1:Sep s1 [s1]:=⟨(by grind [Sub.refl]),sI⟩
 have z2:=z1.newp k2;have ⟨G,hG⟩:∃G,G=newp s1 s2:=⟨_,rfl⟩
 rw[<- hG]at z2 hg2;simp only[aS,ae,ay];refine am (aQ (n:=19) q2 clen) (am (IE clen ones) ⟨?_,an λpl s3 hpl q3 u3=>?_⟩);have:∀(l m:List AV),aD l=true->aD m=true->aD (l++m)=true:=by
  intro l m h1 h2
  induction l with
  |nil=>exact h2
  | cons x l ih=>
    grind [bP]
 exact this _ _ ones rfl;have z3:=z2.new u3 hpl q3;have z4:Sep s3 ([one pl (false,.cells 96 (plC cs g .nilslc .nilslc 0)),λ_=>none,s1,G]++([]:List Hq)):=by have za:=z3.fresh1 (.refl _) (r:=λ_=>none) (λi e hi=>by cases hi) λi hi=>absurd rfl hi;exact za.idx [1,0,3,2] dE
 refine⟨λys t m=>∃(k:Nat) (rv:AV) (Q:Hq) (rs:List Hq) (ps:List Nat),ys=[Ii k]/\k<=nF F/\m=nF F-k/\Sep t ([one pl (false,.cells 96 (plC cs g rv .nilslc 0)),Q,s1,G]++rs)/\Acc 22 (λ_=>none) Q rv (ps.map λp=>Pp p)/\rs.length=k/\ps.length=k/\∀(n:Nat) (r:Hq) (p:Nat),rs[n]?=some r->ps[n]?=some p->RoAt (nF F) F.L (F.x.lf:Int) (F.x.sp:Int) n r p (new0 F),⟨_,0,.nilslc,_,[],[],rfl,oM,rfl,z4,.inl ⟨rfl,rfl⟩,rfl,rfl,λn r p h=>by simp at h⟩,?_⟩;rintro f t m ⟨k,rv,Q,rs,ps,hy,hk,rfl,z,acc,lr,lp,hro⟩;simp only[cI,and_true]at hy;rw[hy];have ks:=z.sub s1 sI;have qb:=ks _ _ q1;unfold Oo;simp only[ao,zAY,ae,aj qb,c0,c1,aJ,aH];rw[aC];refine au (λhlt=>?_) (λhge=>?_)
 ·have hlt:k<nF F:=gR
  refine am (aQ (n:=19) qb clen) (New_in ok (NFR.sub hF (k1.trans ks)) hlt λp r' t1 hr k2 sr fr=>?_);simp only[x0,x1,e3,e4,ae,ay];unfold CI aA;have z5:=z.fresh1 k2 sr fr;have hp5:=z5.sub (one pl (false,.cells 96 (plC cs g rv .nilslc 0))) sI _ _ aP;simp only[aS,ae,ay,aO,ao,zAY,aj hp5,pl20 (g:=g) (rsl:=rv) (wv:=.nilslc) (now:=0) clen];refine am (IF rfl) ⟨rfl,an λc t2 hc q6 u6=>?_⟩;have z6:=z5.more (u6.sub hc);have kQ:=z6.sub Q sI;have acc2:Acc 22 (λ_=>none) t2 rv (ps.map λp=>Pp p):=acc.imp id λ⟨b,a1,a2,a3⟩=>⟨b,a1,a2,kQ _ _ a3⟩
  have hlp:ps.length+1<=16777216:=by have:nF F<=7:=(gj ok).2.2;omega
  refine xz acc2 (λi e h=>by cases h) (Sl.mk (l:=[Pp p]) q6 rfl sI) (λb o m c' e q1=>?_) (by rw[lMY];exact hlp) λv' t3 acc3 kp3 hb3=>?_
  ·cases e
   rcases acc with⟨w1,_⟩|⟨b',_,w1,w2⟩
   ·have ⟨o,n,c',w⟩:=q1;rw[w1]at w;cases w
   ·have ⟨o,n,c',w⟩:=q1
    rw[w1]at w;cases w;have:=z5.sub Q sI _ _ w2;rw[hc]at this;cases this
  ·have z7:Sep t2 (Q::one pl (false,.cells 96 (plC cs g rv .nilslc 0))::r'::s1::G::rs):=by
    exact Sep.idxA (A:=[r',one pl (false,.cells 96 (plC cs g rv .nilslc 0)),Q,s1,G]) (X:=rs) z6 [2,1,0,3,4] dE
   have ⟨Q',acc4,z8⟩:=Sep.grow1 z7 acc acc3 kp3 hb3;have hp8:=z8.sub (one pl (false,.cells 96 (plC cs g rv .nilslc 0))) sI _ _ aP;have ov:=acc4.sl.one;refine aT hp8 (by simp[clen]) ov λt4 h9 u9=>?_;have z9:=Sep.wr1 (z8.perm (List.Perm.swap _ _ _)) u9 (by rw[aP];simp) h9;have e20:(plC cs g rv .nilslc 0).set 20 v'=plC cs g v' .nilslc 0:=by grind [xK]
   rw[eT,e20]at z9;simp only[aJ,ae];rw[aC oM gR];refine⟨_,oM,k+1,v',Q',rs ++ [r'],ps ++ [p],sI,oM,rfl,?_,gR,by simp[lr],by simp[lp],λn r p2 hr2 hp2=>?_⟩;have:Sep t4 (one pl (false,.cells 96 (plC cs g v' .nilslc 0))::Q'::s1::G::r'::rs):=Sep.idxA (A:=[one pl (false,.cells 96 (plC cs g v' .nilslc 0)),Q',r',s1,G]) (X:=rs) z9 [0,1,3,4,2] dE;refine this.perm ?_;refine .cons _ (.cons _ (.cons _ (.cons _ ?_)));exact(perm_append_singleton r' rs).symm
   by_cases e:n<k
   grind
   have en:n=k:=by have:=(gS hr2).1;simp at this;omega
   grind
 ·have hge:k=nF F:=gR
  subst hge;have hne:ps≠[]:=λq=>by
   grind
  rcases acc with⟨_,w⟩|⟨ar,_,w1,w2⟩;exact absurd (by simpa using w) hne
  ·rw[lMY,lp]at w1
   subst w1;have za:=z.perm (List.Perm.swap _ _ _);have zb:=Sep.shrink za (a':=one ar (false,.cells 22 (ps.map λp=>Pp p))) λi e hi=>by
    have:=fH (c:=ar) (x:=(false,Blk.cells 22 (ps.map λp=>AV.ptr p 0))) (i:=i) (by rw[hi];simp)
    grind [aP]
   have zc:=zb.fresh1 (.refl _) (r:=λ_=>none) (λi e hi=>by cases hi) λi hi=>absurd rfl hi;have zd:=zc.fresh1 (.refl _) (r:=λ_=>none) (λi e hi=>by cases hi) λi hi=>absurd rfl hi;refine hK t pl s1 (k1.trans ks) k1 ⟨ar,g,.nilslc,glv,G,λ_=>none,rs,ps,?_,lr,lp,hg2,hg.ap,NFR.sub hF k1,WayAt.nil,hro⟩;exact Sep.idxA (A:=[λ_=>none,λ_=>none,one ar (false,.cells 22 (ps.map λp=>Pp p)),one pl (false,.cells 96 (plC cs g (.slc ar 0 (nF F) none 1) .nilslc 0)),s1,G]) (X:=rs) zd [3,0,4,2,5,1] dE
theorem IH{a n:Int}(hn:0<n)(hn2:n<=1000000)(hK:K (a % n:Int) s):wC TP 32 [a,n] K s:=by
 refine Tp ?_;have hne:n≠0:=oM;have h1:=Int.emod_nonneg a hne;have h2:=Int.emod_lt_of_pos a hn;simp only[oJ,jg hne,ae,aH,BJ]
 grind [ay,aF,aJ,bG,aC]
theorem sD{a:Int}{n:Nat}(hn:0<n)(hn2:n<=1000000)(hK:∀r:Nat,r<n->K r s):wC TP 32 [a,n] K s:=by
 refine IH oM oM ?_;have h1:=Int.emod_nonneg a (b:=(n:Int)) oM;have h2:=Int.emod_lt_of_pos a (b:=(n:Int)) oM;have:=hK (a % (n:Int)).toNat oM
 grind
inductive Chg (F:TN.NFab) (T:Pst):Pst->Prop where
 |no:Chg F T T
 |link (i:Nat) (x:Bool):i<F.L.length->Chg F T { T with lu:=TG.upd1 T.lu i x }
 |node (n:Nat) (x:Bool):n<nF F->Chg F T { T with R:=if(x&&!T.nu n)=true then updR T.R n (new0 F)else T.R,nu:=TG.upd1 T.nu n x }
theorem P2{c0:Nat}{ka aa:Int}{x:Bool}(z:PlW F cs t pl E M T)(hn:n<nF F)(hc:Hc t c0 92 [ka,aa,x]){R':Nat->Ro}(hR:{ T with R:=R',nu:=TG.upd1 T.nu n x }=({ T with R:=T.R,nu:=TG.upd1 T.nu n x }:Pst))
  (hK:∀t',PlW F cs t' pl E M { T with nu:=TG.upd1 T.nu n x }->K (.tup []) t'):wt (Pp pl) (Pp c0) n K t:=by
 have ⟨ar,g,wv,glv,G,q,rs,ps,z⟩:=z;have ⟨clen,_⟩:=fM z.fab;have hpl:Hc t pl 96 (plC cs g (.slc ar 0 (nF F) none 1) wv T.now):=z.sep.sub (one pl (false,.cells 96 (plC cs g (.slc ar 0 (nF F) none 1) wv T.now))) sI _ _ aP;have kG:Sub G t:=z.sep.sub G sI;unfold wt;simp only[aO,ao,zAY,ae,aj hpl,pl19 (g:=g) (rsl:=.slc ar 0 (nF F) none 1) (wv:=wv) (now:=T.now) clen,aj hc,g1Y,g0Y];refine wC.goes kG (TG.SetNode_in z.gr z.ap (λh=>absurd ⟨oM,oM⟩ h) λG' _ hg u s1 go=>?_);have z1:=Sep.goes (l1:=[one pl (false,.cells 96 (plC cs g (.slc ar 0 (nF F) none 1) wv T.now)),q,M,one ar (false,.cells 22 (ps.map λp=>Pp p))]) (l2:=E::rs) z.sep go;rw[Int.toNat_natCast]at hg;exact hK s1 ⟨ar,g,wv,glv,G',q,rs,ps,z1,z.rl,z.pn,hg,z.ap,z.fab,z.way,z.ro⟩
theorem P3{c0:Nat}{ka aa:Int}{x:Bool}{t54 t61:AV}(ok:TN.NFok F)(z:PlW F cs t pl E M T)(hn:n<nF F)(hc:Hc t c0 92 [ka,aa,x])(hcn:∀t',Sub t t'->c0≠pl/\True){up:Bool}(hpk:bK t54 t61 false=some (.bool up))
  (hK:∀t',PlW F cs t' pl E M { T with R:=if up=true then updR T.R n (new0 F)else T.R,nu:=TG.upd1 T.nu n x }->K (.tup []) t'):wu (Pp pl) (Pp c0) n t54 t61 K t:=by
 unfold wu;rw[hpk,bG];refine au (λhu=>?_) (λhu=>?_)
 rotate_left
 grind [P2]
 subst hu;have ⟨ar,g,wv,glv,G,q,rs,ps,z⟩:=z;have ⟨clen,_⟩:=fM z.fab;obtain⟨PL,hPL⟩:∃PL,PL=one pl (false,.cells 96 (plC cs g (.slc ar 0 (nF F) none 1) wv T.now)):=⟨_,rfl⟩
 have zs:=z.sep;rw[<- hPL]at zs;have hs:Sub PL t:=zs.sub PL sI;have jpl:Hc PL pl 96 (plC cs g (.slc ar 0 (nF F) none 1) wv T.now):=by rw[hPL];exact aP
 have ⟨p,hp⟩:∃p,ps[n]?=some p:=⟨_,gE (by rw[z.pn];exact hn)⟩
 have ad1:ba 1 (.slc ar 0 (nF F) none 1) n=some (.ptr ar n):=by
  have:blt n (nF F)=true:=by rw[blt_eq];exact hn
  simp[ba,this]
 have p20:=pl20 (g:=g) (rsl:=.slc ar 0 (nF F) none 1) (wv:=wv) (now:=T.now) clen;have r19:rdN PL 19 (Pp pl)=some cs:=by
  have e1:ble (0+19) (plC cs g (.slc ar 0 (nF F) none 1) wv T.now).length=true:=by simp_all
  simp only[rdN,jpl,eA,e1,cond_true,drop_zero]
  grind
 have zl:=Sep.lock zs;refine⟨PL,hs,?_⟩;simp only[aO,ao,zAY,ae,aj jpl,p20];refine am r19 (New_in ok (NFR.sub z.fab (zl.sub M sI)) hn λp' r' s2 hr k2 sr fr=>?_);have z2:=Sep.unlock ((zl.fresh1 k2 sr fr).perm (List.Perm.swap _ _ _));have hcp:PL c0=none:=by rw[hPL];unfold one;rw[if_neg (hcn t (.refl t)).1]
 have hc3:add PL s2 c0=some (false,.cells 92 [ka,aa,x]):=by rw[aV hcp];exact k2 _ _ ((dJ hcp).trans hc)
 have x0:aN (.tup [Pp p',Ii 0]) 0=some (Pp p'):=rfl;have x1:aN (.tup [Pp p',Ii 0]) 1=some (Ii 0):=rfl;have hln:n<(ps.map λp=>AV.ptr p 0).length:=gR;have har:add PL s2 ar=some (false,.cells 22 (ps.map λp=>AV.ptr p 0)):=z2.sub (one ar (false,.cells 22 (ps.map λp=>AV.ptr p 0))) sI _ _ aP;simp only[x0,x1,ad1,ae];refine aT har hln rfl λs3 h3 u3=>?_;have e5:(ps.map λp=>AV.ptr p 0).set n (Pp p')=(ps.set n p').map λp=>AV.ptr p 0:=by rw[map_set]
 rw[e5]at h3;have z3:Sep s3 ([PL,r',q,M,one ar (false,.cells 22 ((ps.set n p').map λp=>Pp p)),G,E]++rs):=by have:=Sep.wr (l1:=[PL,r',q,M]) (l2:=[G,E]++rs) z2 u3 (by rw[aP];simp) h3;rw[eT]at this;exact this
 have ⟨rt,hrt⟩:∃rt,rs[n]?=some rt:=⟨_,gE (by rw[z.rl];exact hn)⟩
 have z6:Sep s3 ([PL,q,M,one ar (false,.cells 22 ((ps.set n p').map λp=>Pp p)),G,E]++rs.set n r'):=Sep.push hrt (Sep.idxA (A:=[PL,r',q,M,one ar (false,.cells 22 ((ps.set n p').map λp=>Pp p)),G,E]) (z3.pull hrt).drop [1,0,2,3,4,5,6] dE);rw[hPL]at z6;have hc':Hc s3 c0 92 [ka,aa,x]:=by rw[u3 c0 λe=>by rw[e,har]at hc3;cases hc3];exact hc3
 have pw:PlW F cs s3 pl E M { T with R:=updR T.R n (new0 F) }:=by
  refine⟨ar,g,wv,glv,G,q,rs.set n r',ps.set n p',z6,by rw[length_set];exact z.rl,by rw[length_set];exact z.pn,z.gr,z.ap,z.fab,z.way,λn' r2 p2 hr2 hp2=>?_⟩;show RoAt _ _ _ _ n' r2 p2 (updR T.R n _ n');unfold updR
  by_cases e:n'=n
  grind
  grind [PlP.ro]
 exact P2 pw hn hc' rfl λt' h=>hK t' h
theorem II(h:TN.NFR M cs F):cs[0]?=some (Ii F.x.lf)/\cs[1]?=some (Ii F.x.sp)/\cs[13]?=some (Ii F.x.de):=by obtain⟨v2,v3,v4,v5,v6,v7,rfl,_⟩:=h.ex;exact⟨rfl,rfl,rfl⟩
theorem xa{ka aa:Int}{x:Bool}(ok:TN.NFok F)(z:PlW F cs t pl E M T)(hK:∀t' T',Chg F T T'->PlW F cs t' pl E M T'->K (.tup []) t'):wC TP 30 [Pp pl,.agg [ka,aa,x]] K t:=by
 refine XS ⟨rfl,an λc0 t1 hc0 q1 u1=>?_⟩;have q1:Hc t1 c0 92 [ka,aa,x]:=q1;have z1:=z.sub (u1.sub hc0);have zz:=z1;have ⟨ar,g,wv,glv,G,q,rs,ps,zp⟩:=z1;have ⟨clen,v2,c2,hl⟩:=fM zp.fab;have ⟨e0,e1,_⟩:=II zp.fab;have xlf:=ok.x.lf;have xsp:=ok.x.sp;have xL:=ok.Ln;have hpl:Hc t1 pl 96 (plC cs g (.slc ar 0 (nF F) none 1) wv T.now):=zp.sep.sub (one pl (false,.cells 96 (plC cs g (.slc ar 0 (nF F) none 1) wv T.now))) sI _ _ aP;have hcp:c0≠pl:=λe=>gR;have kG:Sub G t1:=zp.sep.sub G sI;have kM:Sub M t1:=zp.sep.sub M sI;have p0:(plC cs g (.slc ar 0 (nF F) none 1) wv T.now)[0]?=some (Ii F.x.lf):=gR;have p1:(plC cs g (.slc ar 0 (nF F) none 1) wv T.now)[1]?=some (Ii F.x.sp):=gR;have p2:(plC cs g (.slc ar 0 (nF F) none 1) wv T.now)[2]?=some v2:=gR;have p19:=pl19 (g:=g) (rsl:=.slc ar 0 (nF F) none 1) (wv:=wv) (now:=T.now) clen;have ll:bp v2=some F.L.length:=by rw[hl.len,lMY]
 simp only[aO,ao,zAY,ae,aj hpl,p0,p1,aJ,aj q1,g0Y];rw[aC];rw[show(AV.int .i64 4)=((4:Nat):Int)from rfl];refine sD oM oM λk hk=>?_;have links:lD (Pp pl) (Pp c0) ((F.x.lf:Int)+(F.x.sp:Int):Int) k true K t1:=by unfold lD;simp only[aF,aO,ao,zAY,ae,aj hpl,p2,ll,bW];refine au (λhg=>?_) (λ_=>hK t1 T .no zz);have hg:0<F.L.length:=gR;refine⟨t1,.refl t1,?_⟩;simp only[ae,aj hpl,p19,aj q1,g0Y,g1Y,p2,ll];rw[d8];refine sD hg oM λi hi=>?_;rw[gU];refine wC.goes kG (TG.SetLink_in zp.gr zp.ap (oM) λG' _ hgr u s1 go=>?_);have z2:=Sep.goes (l1:=[one pl (false,.cells 96 (plC cs g (.slc ar 0 (nF F) none 1) wv T.now)),q,M,one ar (false,.cells 22 (ps.map λp=>Pp p))]) (l2:=E::rs) zp.sep go;rw[Int.toNat_natCast]at hgr;exact hK s1 _ (.link i x hi) ⟨ar,g,wv,glv,G',q,rs,ps,z2,zp.rl,zp.pn,hgr,zp.ap,zp.fab,zp.way,zp.ro⟩
 have others:lD (Pp pl) (Pp c0) ((F.x.lf:Int)+(F.x.sp:Int):Int) k false K t1:=by
  unfold lD;simp only[ay,aR,aG,Bool.false_bne,ae];refine au (λ_=>?_) (λ_=>hK t1 T .no zz);simp only[ao,zAY,ae,aj q1,g0Y,g1Y];rw[show((F.x.lf:Int)+(F.x.sp:Int))=((nF F:Nat):Int)by show _=((F.x.lf+F.x.sp:Nat):Int);omega];refine sD (show 0<F.x.lf+F.x.sp by omega) (show F.x.lf+F.x.sp<=1000000 by omega) λn hn=>?_;simp only[ae,aj q1,g0Y,g1Y];rcases x with _|_;rw[ay];exact P3 ok zz hn q1 (λ_ _=>⟨hcp,trivial⟩) (up:=false) rfl λt' h=>hK t' _ (.node n false hn) h;rw[aF];simp only[aO,ao,zAY,ae,aj hpl,p19];refine TG.Alive_in (zp.gr.sub kG) ?_;have eal:TG.aliveI (nF F) T.nu (n:Int)=T.nu n:=by unfold TG.aliveI;rw[decide_eq_true ⟨oM,by have:n<nF F:=hn;omega⟩,Bool.true_and,Int.toNat_natCast]
  rw[eal];simp only[bD,ae];exact P3 ok zz hn q1 (λ_ _=>⟨hcp,trivial⟩) (up:=!T.nu n) rfl λt' h=>hK t' _ (.node n true hn) (by simpa using h)
 simp only[aR,aG,Bool.false_bne,ae];refine au (λh=>?_) (λh=>?_);rw[h];exact links
 ·cases hk1:((k:Int) == 1)with
  |true=>exact links
  |false=>exact others
theorem sE{Z ps:List AV}{a b c d:Int}(hz:Z.length=25)(hp:ps.length=21):aq Z [(0,1,a),(1,1,b),(2,1,c),(3,1,d),(4,21,.agg ps)]=some (Ii a::Ii b::Ii c::Ii d::ps):=by
 obtain⟨z0,z1,z2,z3,Z,rfl⟩:∃z0 z1 z2 z3 Z',Z=z0::z1::z2::z3::Z':=by
  match Z,hz with
  |z0::z1::z2::z3::Z,_=>grind
 have hZ:Z.length=21:=by simpa using hz
 have s0:bN (z0::z1::z2::z3::Z) 0 [a]=Ii a::z1::z2::z3::Z:=by simp[bN]
 have s1:bN (a::z1::z2::z3::Z) 1 [b]=Ii a::Ii b::z2::z3::Z:=by simp[bN]
 have s2:bN (a::b::z2::z3::Z) 2 [c]=Ii a::Ii b::Ii c::z3::Z:=by simp[bN]
 have s3:bN (a::b::c::z3::Z) 3 [d]=Ii a::Ii b::Ii c::Ii d::Z:=by simp[bN]
 have s4:bN (a::b::c::d::Z) 4 ps=Ii a::Ii b::Ii c::Ii d::ps:=by
  simp_all [bN]
 have k0:ble (0+1) (Z.length+1+1+1+1)=true:=by rw[ble_eq];omega
 have k1:ble (1+1) (Z.length+1+1+1+1)=true:=by rw[ble_eq];omega
 have k2:ble (2+1) (Z.length+1+1+1+1)=true:=by rw[ble_eq];omega
 have k3:ble (3+1) (Z.length+1+1+1+1)=true:=by rw[ble_eq];omega
 have k4:ble (4+ps.length) (Z.length+1+1+1+1)=true:=by rw[ble_eq];omega
 have e1:beq 1 1=true:=rfl;have e2:beq ps.length 21=true:=by rw[hp];rfl
 have f:∀(Z:List AV) (o sz:Nat) (v:AV) (l:List (Nat×Nat×AV)),beq v.cells.length sz=true->ble (o+v.cells.length) Z.length=true->aq Z ((o,sz,v)::l)=aq (bN Z o v.cells) l:=λZ o sz v l h1 h2=>by show cond (beq v.cells.length sz&&ble (o+v.cells.length) Z.length) _ none=_;rw[h1,h2];rfl
 have f1:∀(Z:List AV) (o:Nat) (x:Int) (l:List (Nat×Nat×AV)),ble (o+1) Z.length=true->aq Z ((o,1,x)::l)=aq (bN Z o [x]) l:=(by simp_all)
 rw[f1 _ _ _ _ k0,s0,f1 _ _ _ _ k1,s1,f1 _ _ _ _ k2,s2,f1 _ _ _ _ k3,s3,f _ _ _ (.agg ps) _ e2 k4,fC,s4];rfl
theorem fill25b{Z ps:List AV}(hz:Z.length=25)(hp:ps.length=25):aq (repl 1 Z) [(0,25,.agg ps)]=some ps:=by
 have e0:repl 1 Z=Z:=by simp[repl]
 have e1:ble (0+ps.length) Z.length=true:=by rw[ble_eq];omega
 have e2:beq ps.length 25=true:=by rw[hp];rfl
 grind [bN,aq,fC]
theorem IJ{x:Nat}{U:List Bool}{d:Nat->Int}{i:Nat}(hL:∀y∈L,0<=y.1/\0<=y.2.1)(h:i∈nrL (tL L) U d x):owB L (x:Int) (i:Int)=true:=by
 unfold nrL at h;obtain⟨e,he,rfl⟩:=mem_map.1 h;have he:=(mem_filter.1 he).1;unfold edL at he;have ⟨j,hj,hq⟩:=mem_filterMap.1 he;rw[mem_range,lMY]at hj;split at hq
 ·split at hq
  rename_i y hy;obtain⟨m,hm,rfl⟩:=Option.map_eq_some_iff.1 hq;rw[getElem?_map,gE hj]at hy;have hy:toL L[j]=y:=by simpa using hy
  have ⟨p1,p2⟩:=hL _ (getElem_mem hj);have eg:L.getD j (0,0,0)=L[j]:=gR;refine decide_eq_true ⟨oM,by show(j:Int)<_;omega,?_⟩;show(L.getD ((j:Int)).toNat (0,0,0)).1=_∨_;rw[Int.toNat_natCast,eg]
  grind [oth,toL]
  ·cases hq
 ·cases hq
variable{pc:List AV}{a e vn:Int}{m:Nat}
abbrev flC(nd lk co ho:Int)(ps:List AV):List AV:=nd::lk::co::ho::ps
theorem IK(h:FB.Pk a (lbk m) e vn pc){x:Int}:FB.Pk a (lbk m) e vn (pc.set 2 x)/\(pc.set 2 x)[2]?=some (Ii x):=by
 have ⟨p1,p2,p3,p4,p5,p6⟩:=h;refine⟨⟨by rw[length_set];exact p1,Ib p2 rfl,?_,?_,?_,?_⟩,?_⟩
 grind
 rw[getElem?_set_ne oM];exact p4
 grind
 grind
 grind
theorem P4{elem el:TypeId}{b:Nat}{tg:Bool}{w:AV}(h:s b=some (tg,.cells el [w]))(hK:∀c s',s c=none->Hc s' c elem [w]->Upto c s s'->K (.slc c 0 1 none 1) s'):appK elem 1 .nilslc (.slc b 0 1 (some 1) 1) K s:=by
 have e1:rdSl s 1 (.slc b 0 1 (some 1) 1)=some [w]:=by
  show cond (beq 1 1) (cond (beq (1*1) 0) (some []) (match s b with
   |some (_,.cells _ l)=>eA l 0 (1*1)
   |_=>none)) none=_
  rw[h];rfl
 unfold appK;rw[e1];exact⟨oM,an λc s' hc h' u'=>hK c s' hc h' u'⟩
theorem IL{el:TypeId}{row:List AV}{b c:Nat}{fl:List AV}{tg:Bool}{cap cap':Option Nat}(hcap:(cap=some 1/\cap'=some 0)∨(cap=none/\cap'=none))(hb:Hc s b 195 fl)(hc:s c=some (tg,.cells el row))(hr:row.length=25)
  (hK:∀d s1 s',(∀i,i≠b->s1 i=s i)->(s1 b=none∨s1 b=s b)->s1 d=none->Hc s' d 195 row->Upto d s1 s'->K (.slc d 0 1 none 25) s'):appK 195 25 (.slc b 25 0 cap' 25) (.slc c 0 1 (some 1) 25) K s:=by
 have e1:rdSl s 25 (.slc c 0 1 (some 1) 25)=some row:=by
  have e3:ble (0+1*25) row.length=true:=by rw[hr];rfl
  show cond (beq 25 25) (cond (beq (1*25) 0) (some []) (match s c with
   |some (_,.cells _ l)=>eA l 0 (1*25)
   |_=>none)) none=_
  rw[hc];show eA row 0 (1*25)=some row
  grind [eA]
 have e2:∀k,rdSl s 25 (.slc b 25 0 k 25)=some []:=λk=>rfl;unfold appK;rw[e1,bG];refine am (a:=1) rfl ⟨rfl,?_⟩;rcases hcap with⟨_,rfl⟩|⟨_,rfl⟩
 simp_all [oK,fx,an]
 change oK (rdSl s 25 (.slc b 25 0 none 25)) (λold=>gw 195 b (λs=>fx 195 25 (0+1) (old++row) K s) s);refine am (e2 _) ?_;unfold gw;rw[hb];refine⟨rfl,oM,an λd s' hd h' u'=>?_⟩
 grind [hdel]
def FlI(F:TN.NFab)(cs:List AV)(pl:Nat)(M:Hq)(T:Pst)(a e vn:Int)(m:Nat)(ys:List AV)(t:Hq)(k:Nat):Prop:=
 (∃(b nd hops:Nat) (link cost mst:Int) (cap:Option Nat) (pc:List AV),ys=[.nilslc,.nilslc,Ii mst,.slc b 0 1 cap 25,Ii hops]/\(cap=none∨cap=some 1)/\k=20-hops/\hops<=15/\0<=mst/\mst<=hops/\nd<nF F/\(link=-1∨owB F.L (nd:Int) link=true)/\FB.Pk a (lbk m) e vn pc/\pc[2]?=some (Ii (16-hops))/\
  PlW F cs t pl (one b (false,.cells 195 (flC nd link cost hops pc))) M T)∨
 (∃(nv cv td:AV) (mst tn:Int) (ns:List Int),ys=[nv,cv,mst,td,tn]/\k=0/\bp td=some 0/\0<=mst/\mst<=15/\(ns=[]∨ns=[(m:Int)])/\LS.Sli t nv ns)
theorem P5{nv cv:AV}{mst:Int}{td:AV}{tn:Nat}{ns:List Int}{m0:Nat}(h0:0<m0)(hl:bp td=some 0)(h1:0<=mst)(h2:mst<=15)(hn:ns=[]∨ns=[(m:Int)])(hs:LS.Sli t nv ns)(ht:tn<=15):o8 nv cv mst td tn (FlI F cs pl M T a e vn m) m0 K t:=by unfold o8 aA;exact⟨0,h0,.inr ⟨nv,cv,td,mst,_,ns,rfl,rfl,hl,h1,h2,hn,hs⟩⟩
theorem IM{x y:Int}:dS max2A x [y]=some (Ii (max x y)):=by
 grind [eO,dS,max2A,d6]
theorem sF{nv cv td:AV}{mst:Int}{tn b13:Nat}{ns:List Int}{m0:Nat}(h0:0<m0)(hl:bp td=some 0)(h1:0<=mst)(h2:mst<=15)(hn:ns=[]∨ns=[(m:Int)])(hs:LS.Sli t nv ns)(ht:tn<=15):wq (Pp pl) nv cv mst td tn (Pp b13) .nilslc (FlI F cs pl M T a e vn m) m0 K t:=by
 refine⟨λys t' k=>ys=[td,Ii 0]/\t'=t,⟨0,rfl,rfl⟩,?_⟩
 grind [wp,Aq,bG,aH,ay,P5]
theorem IN{b b13 sb nd hops hop:Nat}{link cost mst:Int}{cap cap':Option Nat}{fl:List AV}(ok:TN.NFok F)(z:PlW F cs t pl (one b (false,.cells 195 fl)) M T)(hcap:(cap=some 1/\cap'=some 0)∨(cap=none/\cap'=none))(hb13:b13≠b)(h13:Hc t b13 195 (flC nd link cost hops pc))(hsb0:sb≠b)
  (hsb:Hc t sb 121 (hop::pc.set 2 (16-hops-1:Int))) (hp:FB.Pk a (lbk m) e vn pc) (hc:pc[2]?=some (Ii (16-hops))) (hh:hops<=14) (hnd:nd<nF F) (hown:owB F.L (nd:Int) (hop:Int)=true) (h1:0<=mst) (h2:mst<=hops) :
  wq (Pp pl) .nilslc .nilslc mst (.slc b 25 0 cap' 25) hops (Pp b13) (.slc sb 0 1 (some 1) 22) (FlI F cs pl M T a e vn m) (20-hops) K t:=by
 have ⟨q1,q2⟩:=IK (x:=16-(hops:Int)-1) hp;have ⟨hL1,hL2,hN7⟩:=gj ok;have ⟨ar,g,wv,glv,G,q,rs,ps,zp⟩:=z;have ⟨clen,v2,c2,hl⟩:=fM zp.fab;have hpl:=zp.sep.sub (one pl (false,.cells 96 (plC cs g (.slc ar 0 (nF F) none 1) wv T.now))) sI _ _ aP;have p2:(plC cs g (.slc ar 0 (nF F) none 1) wv T.now)[2]?=some v2:=gR;have ll:bp v2=some F.L.length:=by rw[hl.len,lMY]
 have kM:Sub M t:=zp.sep.sub M sI;have ho:=oT hown;have hlk:hop<F.L.length:=by have:=ho.2.1;omega
 have ⟨y,hy⟩:∃y,y=F.L[hop]:=⟨_,rfl⟩
 have hyL:y∈F.L:=by simp_all
 have hyg:F.L.getD hop (0,0,0)=y:=by simp_all
 have ⟨b2,o2,g4,g5,g6⟩:=(hl.sub kM).get (i:=hop) (r:=LS.lnR y) (by simp_all);have r0:rd1 t (.ptr b2 (o2+0))=some (Ii y.1):=g6 0 (by simp);have r1:rd1 t (.ptr b2 (o2+1))=some (Ii y.2.1):=g6 1 (by simp);have r2:rd1 t (.ptr b2 (o2+2))=some (Ii y.2.2):=g6 2 (by simp);rw[Nat.add_zero]at r0;have ⟨hy1,hy2,_⟩:=hL1 y hyL;have hor:=ho.2.2;rw[Int.toNat_natCast,hyg]at hor;have yN:(0<=y.1/\y.1<(nF F:Int))/\(0<=y.2.1/\y.2.1<(nF F:Int)):=by
  have ⟨a1,a2,_⟩:=ok.L.2 y hyL
  grind
 obtain⟨nd',hnd'⟩:∃nd':Nat,(nd':Int)=y.1+y.2.1-(nd:Int):=⟨(y.1+y.2.1-(nd:Int)).toNat,oM⟩
 have hnd2:nd'<nF F:=oM;have hown':owB F.L (nd':Int) (hop:Int)=true:=decide_eq_true ⟨ho.1,ho.2.1,by rw[Int.toNat_natCast,hyg];omega⟩;have s0:ba 22 (.slc sb 0 1 (some 1) 22) (Ii 0)=some (.ptr sb 0):=rfl;have c0:∀ps:List AV,(flC nd link cost hops ps)[0]?=some (Ii nd):=λ_=>rfl;have c2':∀ps:List AV,(flC nd link cost hops ps)[2]?=some (Ii cost):=λ_=>rfl;have c3:∀ps:List AV,(flC nd link cost hops ps)[3]?=some (Ii hops):=λ_=>rfl;have c6:(flC nd link cost hops pc)[4+2]?=some (Ii (16-hops)):=hc;have d0:(AV.int .i64 (hop:Int)::pc.set 2 (16-hops-1:Int))[0]?=some (Ii hop):=rfl;have d3:(AV.int .i64 (hop:Int)::pc.set 2 (16-hops-1:Int))[1+2]?=some (Ii (16-hops-1)):=q2;have rN:rdN t 21 (.ptr sb (0+1))=some (pc.set 2 (16-hops-1:Int)):=by have h22:rdN t (1+21) (Pp sb)=some (Ii hop::pc.set 2 (16-hops-1:Int)):=aQ (n:=22) hsb (by rw[length_cons,q1.1]);exact xQ h22
 refine⟨λys t' k=>(ys=[.slc b 25 0 cap' 25,Ii 0]/\t'=t/\k=1)∨(∃(d:Nat) (co:Int),ys=[.slc d 0 1 none 25,Ii 1]/\k=0/\PlW F cs t' pl (one d (false,.cells 195 (flC nd' hop co (hops+1) (pc.set 2 (16-hops-1:Int))))) M T),⟨1,.inl ⟨rfl,rfl,rfl⟩⟩,?_⟩;rintro f t' k (⟨hys,rfl,rfl⟩|⟨d,co,hys,rfl,z'⟩)
 rotate_left
 simp only[cI,and_true]at hys;rw[hys.1,hys.2];simp only[wp,c9,ae,aH];rw[decide_eq_false oM,ay];unfold o8;simp only[aJ,ae];rw[aC];refine⟨20-(hops+1),oM,.inl ⟨d,nd',hops+1,hop,co,mst,none,_,sI,.inl rfl,rfl,oM,h1,oM,hnd2,.inr hown',q1,?_,?_⟩⟩;rw[q2];congr 2;omega;exact z';simp only[cI,and_true]at hys;rw[hys.1,hys.2];simp only[wp,c9,ae,aH];rw[decide_eq_true oM,aF];simp only[s0,ae,ao,zAY,aj hsb,d0,aH];rw[decide_eq_false oM,ay];simp only[aO,ao,zAY,ae,aj hpl,p2,ll,ci];rw[decide_eq_false oM];obtain⟨I4,hI4⟩:∃I4:List AV->Hq->Nat->Prop,I4=λys t'_1 k=>(ys=[.slc b 25 0 cap' 25,Ii 0]/\t'_1=t'/\k=1)∨(∃(d:Nat) (co:Int),ys=[.slc d 0 1 none 25,Ii 1]/\k=0/\PlW F cs t'_1 pl (one d (false,.cells 195 (flC nd' hop co (hops+1) (pc.set 2 (16-hops-1:Int))))) M T):=⟨_,rfl⟩
 rw[<- hI4];have j8:wj (Pp pl) (.slc b 25 0 cap' 25) (Pp b13) (.slc sb 0 1 (some 1) 22) (Ii 0) hop false false I4 1 (FlI F cs pl M T a e vn m) (20-hops) K t':=by
  unfold wj;simp only[aS,ae,ay,aO,ao,zAY,Nat.add_zero,aj hpl,p2,g4,r0,r1,r2,aJ,cA,aj h13,c0,c2',c3,s0];have w1:IntKind.i64.wrap (y.1+y.2.1)=y.1+y.2.1:=aC oM oM;have w2:IntKind.i64.wrap (y.1+y.2.1-(nd:Int))=y.1+y.2.1-(nd:Int):=aC oM oM;have w3:IntKind.i64.wrap ((hops:Int)+1)=(hops:Int)+1:=aC oM oM;rw[w1,w2,w3,<- hnd'];refine am rN (am (sE rfl q1.1) (am (fill25b rfl (by simp[q1.1])) ⟨by simp[q1.2.1],an λc t2 hc2 w4 u4=>?_⟩));have z2:=zp.sep.more (u4.sub hc2);have hb2:Hc t2 b 195 fl:=z2.sub (one b (false,.cells 195 fl)) sI _ _ aP;refine IL (row:=flC nd' hop (IntKind.i64.wrap (cost+y.2.2)) ((hops:Int)+1) (pc.set 2 (16-hops-1:Int))) hcap hb2 w4 (by simp[q1.1]) λd s1 s3 h5 h6 h7 h8 h9=>?_;refine⟨0,oM,?_⟩;rw[hI4];refine .inr ⟨d,IntKind.i64.wrap (cost+y.2.2),?_,rfl,?_⟩;rw[aC];rfl
  ·have zr:=Sep.idxA (A:=[one pl (false,.cells 96 (plC cs g (.slc ar 0 (nF F) none 1) wv T.now)),q,M,one ar (false,.cells 22 (ps.map λp=>Pp p)),G,one b (false,.cells 195 fl)]) (X:=rs) z2 [5,0,1,2,3,4] dE
   have dj:=(pairwise_cons.1 zr.dj)
   have zd:Sep s1 ([one pl (false,.cells 96 (plC cs g (.slc ar 0 (nF F) none 1) wv T.now)),q,M,one ar (false,.cells 22 (ps.map λp=>Pp p)),G]++rs):=⟨λy hy i e hi=>by rw[h5 i λq=>by rw[q,dj.1 y hy b (by rw[aP];simp)]at hi;cases hi];exact zr.sub y (mO _ hy) i e hi,dj.2⟩
   have ze:=zd.new h9 h7 h8;exact⟨ar,g,wv,glv,G,q,rs,ps,Sep.idxA (A:=[one d (false,.cells 195 (flC nd' hop (IntKind.i64.wrap (cost+y.2.2)) ((hops:Int)+1) (pc.set 2 (16-hops-1:Int)))),one pl (false,.cells 96 (plC cs g (.slc ar 0 (nF F) none 1) wv T.now)),q,M,one ar (false,.cells 22 (ps.map λp=>Pp p)),G]) (X:=rs) ze [1,2,3,4,5,0] dE,zp.rl,zp.pn,zp.gr,zp.ap,zp.fab,zp.way,zp.ro⟩
 have j7:∀t118 t130:AV,bK t118 t130 false=some (.bool false)->wo (Pp pl) (.slc b 25 0 cap' 25) (Pp b13) (.slc sb 0 1 (some 1) 22) (Ii 0) hop false t118 t130 I4 1 (FlI F cs pl M T a e vn m) (20-hops) K t':=by intro x1 x2 hx;unfold wo;simp only[hx,ae,aS,ay,s0,ao,zAY,aj hsb,d3,aj h13,c6,cA];have w1:IntKind.i64.wrap (16-(hops:Int)-1)=16-(hops:Int)-1:=aC oM oM;rw[w1];simp only[aR,aG,beq_self_eq_true,Bool.true_bne,Bool.not_true,ae];exact j8
 unfold CG;simp only[aS,ae,ay,aO,ao,zAY,Nat.add_zero,aj hpl,p2,g4,r0,r1,aj h13,c0,aR,aG,Bool.true_bne];refine au (λhd=>?_) (λhd=>?_);have hd:y.1≠(nd:Int):=by simpa using hd
 have he:(y.2.1 == (nd:Int))=true:=by simp;omega
 have hd':(y.1 == (nd:Int))=false:=by simpa using hd
 rw[he,hd'];exact j7 _ _ rfl;rw[hd];exact j7 _ _ rfl
variable{t':Hq}
theorem PlW.setE{c:Nat}{y:Bool×Blk}(z:PlW F cs t pl E M T)(u:Upto c t t')(hc:t c=none)(hy:t' c=some y):PlW F cs t' pl (one c y) M T:=by have ⟨ar,g,wv,glv,G,q,rs,ps,z⟩:=z;have z1:=z.sep.new u hc hy;exact⟨ar,g,wv,glv,G,q,rs,ps,Sep.idxA (A:=[one c y,one pl (false,.cells 96 (plC cs g (.slc ar 0 (nF F) none 1) wv T.now)),q,M,one ar (false,.cells 22 (ps.map λp=>Pp p)),G,E]) (X:=rs) z1 [1,2,3,4,5,0] dE,z.rl,z.pn,z.gr,z.ap,z.fab,z.way,z.ro⟩
theorem nzI{l:List Nat}{x:Int}(h:x∈FB.nz l):∃k:Nat,k∈l/\x=k:=by
 grind [FB.nz]
theorem sG{b b13 nd hops:Nat}{link cost mst:Int}{cap cap':Option Nat}{fl:List AV}{c1 c2:AV}(ok:TN.NFok F)(z:PlW F cs t pl (one b (false,.cells 195 fl)) M T)(hcap:(cap=some 1/\cap'=some 0)∨(cap=none/\cap'=none))(hb13:b13≠b)(h13:Hc t b13 195 (flC nd link cost hops pc))
  (hp:FB.Pk a (lbk m) e vn pc) (hc:pc[2]?=some (Ii (16-hops))) (hm:m<32) (hh:hops<=15) (hnd:nd<nF F) (hlk:link=-1∨owB F.L (nd:Int) link=true) (h1:0<=mst) (h2:mst<=hops) (hpk:bK c1 c2 false=some (.bool false)) :
  o9 (Pp pl) .nilslc .nilslc mst (.slc b 25 0 cap' 25) hops (Pp b13) c1 c2 (FlI F cs pl M T a e vn m) (20-hops) K t:=by
 have zz:=z;have ⟨ar,g,wv,glv,G,q,rs,ps,z⟩:=z;have ⟨clen,_⟩:=fM z.fab;have hpl:Hc t pl 96 (plC cs g (.slc ar 0 (nF F) none 1) wv T.now):=z.sep.sub (one pl (false,.cells 96 (plC cs g (.slc ar 0 (nF F) none 1) wv T.now))) sI _ _ aP;have har:Hc t ar 22 (ps.map λp=>AV.ptr p 0):=z.sep.sub (one ar (false,.cells 22 (ps.map λp=>AV.ptr p 0))) sI _ _ aP;have ⟨rt,hrt⟩:∃rt,rs[nd]?=some rt:=⟨_,gE (by rw[z.rl];exact hnd)⟩
 have ⟨p,hpp⟩:∃p,ps[nd]?=some p:=(by grind [PlP.pn])
 have hro:=z.ro nd rt p hrt hpp;have ⟨ad1,ad2⟩:=xO z.pn hpp har;have krt:Sub rt t:=z.sep.sub rt gR;have p20:=pl20 (g:=g) (rsl:=.slc ar 0 (nF F) none 1) (wv:=wv) (now:=T.now) clen;have c0:(flC nd link cost hops pc)[0]?=some (Ii nd):=rfl;have ck1:(flC nd link cost hops pc)[1]?=some (Ii link):=rfl;have ck2:(flC nd link cost hops pc)[2]?=some (Ii cost):=rfl;have ⟨p1,p2',_⟩:=id hp;have rN:rdN t 21 (.ptr b13 (0+4))=some pc:=by have h25:rdN t (4+21) (Pp b13)=some (flC nd link cost hops pc):=aQ (n:=25) h13 (by simp[p1]);exact xQ h25
 have P:=xI ok;have ⟨hL1,hL2,hN7⟩:=gj ok;unfold o9;simp only[hpk,ae,ay,aO,ao,zAY,aj hpl,p20,aj h13,c0,ck1,ad1,ad2];have rN':rdN t 21 (.ptr b13 4)=some pc:=rN;simp only[rN',ae];have x0:∀u v w:AV,aN (.tup [u,v,w]) 0=some u:=λ_ _ _=>rfl;have x1:∀u v w:AV,aN (.tup [u,v,w]) 1=some v:=λ_ _ _=>rfl;have x2:∀u v w:AV,aN (.tup [u,v,w]) 2=some w:=λ_ _ _=>rfl;refine lY P hnd krt hro hp hc ⟨oM,oM⟩ (by unfold lbk;omega) hlk (λhq s1 k1=>?_) (λ_ s1 er k1 _ _=>?_) (λm' hq httl hin hmm s1 sb hop k1 hsb0 hhop hsb=>?_) (.inl λj hj q=>by unfold lbk at q;omega);have hmx:m=nd:=by unfold lbk at hq;omega
 subst hmx;simp only[x0,x1,x2,ae,aF];refine⟨s1,.refl s1,?_⟩;simp only[aj (k1 _ _ h13),c0,ck2,ae];rw[d8];refine am (fi rfl) ⟨rfl,am (fi rfl) ⟨rfl,an λd1 t1 hd1 w1 u1=>P4 w1 λd2 t2 hd2 w2 u2=>an λd3 t3 hd3 w3 u3=>P4 w3 λd4 s4 hd4 w4 u4=>?_⟩⟩;have n2:s1 d2=none:=eu.1 (cq (u1.sub hd1) hd2);have w4':Hc s4 d2 3 [m]:=(u4.sub hd4) _ _ ((u3.sub hd3) _ _ (by rw[aV n2];exact w2));exact sF (ns:=[(m:Int)]) oM rfl h1 oM (.inr rfl) (Sl.mk (l:=[m]) w4' rfl sI) hh;simp only[x0,x1,x2,ae,ay];exact sF (ns:=[]) oM rfl h1 oM (.inl rfl) (.inl ⟨rfl,rfl⟩) hh
 ·simp only[x0,x1,x2,ae,ay]
  obtain⟨hp2,hmem,rfl⟩:=nzI hhop;have hown:=IJ (x:=nd) (λy hy=>⟨(hL1 y hy).1.1,(hL1 y hy).2.1.1⟩) hmem;have hb0:Hc t b 195 fl:=z.sep.sub (one b (false,.cells 195 fl)) sI _ _ aP;exact IN ok (zz.sub k1) hcap hb13 (k1 _ _ h13) (λq=>by rw[q,hb0]at hsb0;cases hsb0) hsb hp hc oM hnd hown h1 h2
theorem IP{nd0:Nat}(ok:TN.NFok F)(z:PlW F cs t pl E M T)(hn:nd0<nF F)(hm:m<32)(hp:FB.Pk a (lbk m) e vn pc)(hc:pc[2]?=some (Ii 16))
  (hK:∀t' nv cv mst ns,0<=mst->mst<=15->(ns=[]∨ns=[(m:Int)])->LS.Sli t' nv ns->K (.tup [nv,cv,Ii mst,true]) t'):wC TP 33 [Pp pl,nd0,.agg pc] K t:=by
 have ⟨p1,p2,_⟩:=id hp;refine XM ⟨p2,an λb0 s1 hb0 q1 u1=>?_⟩;have q1:Hc s1 b0 64 pc:=q1;refine am (aQ (n:=21) q1 p1) (am (sE (a:=(nd0:Int)) rfl p1) (am (fill25b rfl (by simp[p1])) ⟨by simp[p2],an λb5 s6 hb5 q5 u5=>?_⟩));have z6:=(z.sub (u1.sub hb0)).setE u5 hb5 q5;refine⟨FlI F cs pl M T a e vn m,⟨20,.inl ⟨b5,nd0,0,-1,0,0,some 1,pc,rfl,.inr rfl,rfl,oM,oM,oM,hn,.inl rfl,hp,by rw[hc];rfl,z6⟩⟩,?_⟩;rintro f t1 m0 (⟨b,nd,hops,link,cost,mst,cap,pc,hy,hcap,rfl,hh,h1,h2,hnd,hlk,hp,hc,z⟩|⟨nv,cv,td,mst,tn,ns,hy,rfl,hl,h1,h2,hns,hs⟩)
 rotate_left
 simp only[cI,and_true]at hy;have ⟨y1,y2,y3,y4,y5⟩:=hy;rw[y1,y2,y3,y4,y5];simp only[CH,hl,ae,bW];rw[decide_eq_false oM,ay];exact hK t1 nv cv mst ns h1 h2 hns hs;simp only[cI,and_true]at hy;have ⟨y1,y2,y3,y4,y5⟩:=hy;rw[y1,y2,y3,y4,y5];have ⟨p1,p2,_⟩:=id hp;have zz:=z;have ⟨ar,g,wv,glv,G,q,rs,ps,zp⟩:=z;have ⟨clen,_⟩:=fM zp.fab;have hb:Hc t1 b 195 (flC nd link cost hops pc):=zp.sep.sub (one b (false,.cells 195 (flC nd link cost hops pc))) sI _ _ aP;have ad:ba 25 (.slc b 0 1 cap 25) (Ii 0)=some (.ptr b 0):=rfl;have l25:(flC nd link cost hops pc).length=25:=by simp[p1]
 obtain⟨cap',hcap'⟩:∃cap',(cap=some 1/\cap'=some 0)∨(cap=none/\cap'=(none:Option Nat)):=by
  grind
 have sl:cU 25 (.slc b 0 1 cap 25) (some (Ii 1)) none none=some (.slc b 25 0 cap' 25):=by rcases hcap' with⟨rfl,rfl⟩|⟨rfl,rfl⟩<;>rfl
 unfold CH;simp only[c9,ae,bW];rw[decide_eq_true oM,aF];simp only[ad,ae];refine am (aQ (n:=25) hb l25) (an λb13 t2 hb13 w2 u2=>aZ w2 (by rw[l25];rfl) rfl (by simp[p2]) λt3 w3 u3=>?_);have u23:Upto b13 t1 t3:=λi hi=>by rw[u3 i hi,u2 i hi]
 have k3:=u23.sub hb13;have hne:b13≠b:=λq=>gR;have c1:(flC nd link cost hops pc)[1]?=some (Ii link):=rfl;have c3:(flC nd link cost hops pc)[3]?=some (Ii hops):=rfl;have z3:=zz.sub k3;have hpl3:Hc t3 pl 96 (plC cs g (.slc ar 0 (nF F) none 1) wv T.now):=k3 _ _ (zp.sep.sub (one pl (false,.cells 96 (plC cs g (.slc ar 0 (nF F) none 1) wv T.now))) sI _ _ aP);have kG:Sub G t3:=(zp.sep.sub G sI).trans k3;have p19:=pl19 (g:=g) (rsl:=.slc ar 0 (nF F) none 1) (wv:=wv) (now:=T.now) clen;simp only[sl,ao,zAY,ae,aj w3,c3,IM];rw[decide_eq_false oM,ay];simp only[ae,c1,ci];have hmx:max mst (hops:Int)=hops:=oM;rw[hmx];refine au (λhge=>?_) (λhlt=>?_);rw[hge];simp only[aO,ao,zAY,ae,aj hpl3,p19];refine TG.Up_in (zp.gr.sub kG) λt4 k4=>?_;simp only[bD,ae];rcases hup:TG.upI F.L T.lu T.nu link with _|_;unfold o9;simp only[Bool.not_false,aU,ae,aF];exact P5 (ns:=[]) oM rfl oM oM (.inl rfl) (.inl ⟨rfl,rfl⟩) hh;exact sG ok (z3.sub k4) hcap' hne (k4 _ _ w3) hp hc hm hh hnd hlk oM oM rfl;rw[hlt];exact sG ok z3 hcap' hne w3 hp hc hm hh hnd hlk oM oM rfl
variable{T':Pst}{k:Nat}
inductive Rch (F:TN.NFab):Nat->Pst->Prop where
 |zero:Rch F 0 (pst0 F)
 |step {k:Nat}{T T':Pst}:Rch F k T->Chg F T T'->Rch F (k+1) (ir (nF F) F.L T')
theorem sJ(h:Chg F T T'):T'.now=T.now:=by cases h<;>rfl
theorem IQ(h:Rch F k T):T.now=k:=by
 induction h with
 |zero=>rfl
 | step h c ih=>
   show(ph2 _ _ _ _).now=_
   grind [l8,sJ]
def xR:Prop:=∀(K:AV->Hq->Prop) (s:Hq),(∀s',Sub s s'->K true s')->wC TP 3 [] K s
theorem jY(hn:n<32)(hK:K (Iw (lbk n)) s):wC TP 13 [n] K s:=by refine XG (lJ hn ?_);exact hK
abbrev ChR:=Int×Int×Bool
def chC(c:ChR):List AV:=[c.1,c.2.1,c.2.2]
def sK:Prop:=∀(F:TN.NFab) (k:Nat) (T T':Pst),TN.NFok F->Rch F k T->k<40->Chg F T T'->TickOk (nF F) F.L T'
theorem IR{fv lv:AV}{fl:List Int}{ch:List ChR}{x y:Int}(plain:sK)(kn:xR)(hf:Sl s fv (fl.map (AV.int .i64)))(hfl:fl.length<=9223372036854775807)(hb:∀x∈fl,-9223372036854775808<=x/\x<=9223372036854775807)(hl:SlR 3 s lv (ch.map chC))(hK:∀s',K true s'):wC TP 5 [fv,lv,x,y] K s:=by
 refine XX (kn _ _ λs1 ks=>?_);have hf:=hf.sub ks;have hl:=hl.sub ks;have l1:bp fv=some fl.length:=by rw[hf.len,lMY]
 have l2:bp lv=some ch.length:=by rw[hl.len,lMY]
 simp only[l1,l2,ae,bW];refine au (λh=>?_) (λh=>?_)
 grind [wB,aU,bG,aF]
 rw[h];unfold wB;simp only[aS,ae];refine au (λ_=>hK _) (λh40=>?_);have h40:ch.length<=40:=gR;refine TN.G9 hf hfl hb λt1 cs F k1 ok hF _=>IG ok hF λt2 pl M0 k2 kM z2=>?_;have e4:negB false (eqV 3 true (Pp pl) .nilptr)=some false:=rfl;simp only[e4];have hlM:SlR 3 M0 lv (ch.map chC):=hl.sub (k1.trans kM);refine⟨λys t m=>∃(i:Nat) (T:Pst) (E M:Hq),ys=[Ii i]/\i<=ch.length/\m=ch.length-i/\Rch F i T/\Sub M0 M/\PlW F cs t pl E M T,⟨_,0,pst0 F,_,M0,rfl,oM,rfl,.zero,.refl _,z2⟩,?_⟩;rintro f t m ⟨i,T,E,M,hy,hi,rfl,hr,kM',z⟩;simp only[cI,and_true]at hy;rw[hy];have kMt:Sub M t:=by have ⟨ar,g,wv,glv,G,q,rs,ps,zp⟩:=z;exact zp.sep.sub M sI
 simp only[Ou,l2,ae,aH,aA];refine au (λhlt=>?_) (λhge=>?_);have hlt:i<ch.length:=gR;have ⟨b,o,g1,g2,_⟩:=(hlM.sub (kM'.trans kMt)).get (i:=i) (r:=chC ch[i]) gR;simp only[g1,ae];refine am g2 (xa ok z λt3 T' hc z3=>?_);have tk:=plain F i T T' ok hr oM hc;have hnow:T'.now=i:=by rw[sJ hc,IQ hr]
 refine IC ok z3 tk ⟨oM,oM⟩ λt4 E4 M4 k4 z4=>?_;simp only[bD,Bool.not_true,ae,ay,aJ];rw[aC];exact⟨_,oM,i+1,_,E4,M4,sI,oM,rfl,.step hr hc,kM'.trans k4,z4⟩;have zz:=z;have ⟨ar,g,wv,glv,G,q,rs,ps,zp⟩:=z;have ⟨clen,_⟩:=fM zp.fab;have ⟨_,_,hN7⟩:=gj ok;have xlf:=ok.x.lf;have hN0:0<nF F:=gR;have hpl:Hc t pl 96 (plC cs g (.slc ar 0 (nF F) none 1) wv T.now):=zp.sep.sub (one pl (false,.cells 96 (plC cs g (.slc ar 0 (nF F) none 1) wv T.now))) sI _ _ aP;simp only[aO,ao,zAY,ae,aj hpl,pl20 (g:=g) (rsl:=.slc ar 0 (nF F) none 1) (wv:=wv) (now:=T.now) clen,c9];refine sD hN0 oM λnd hnd=>sD hN0 oM λm hm=>jY oM ?_;have fl:aq [(Iw 0),(Iw 0),(Ii 0),(Ii 0),(Iw 0),(Iw 0),(Iq 0),(Iq 0),(Ii 0),(Ii 0),(Iq 0),(Iw 0),(Iq 0),(Iw 0),(Iw 0),(Iw 0),(Ii 0),(Ii 0),(Ii 0),(Ii 0),(Iq 0)] [(1,1,Iw (lbk m)),(2,1,(Ii 16))]=some [(Iw 0),(Iw (lbk m)),(Ii 16),(Ii 0),(Iw 0),(Iw 0),(Iq 0),(Iq 0),(Ii 0),(Ii 0),(Iq 0),(Iw 0),(Iq 0),(Iw 0),(Iw 0),(Iw 0),(Ii 0),(Ii 0),(Ii 0),(Ii 0),(Iq 0)]:=rfl;refine am fl (IP (a:=0) (e:=0) (vn:=0) ok zz hnd oM ⟨rfl,rfl,rfl,rfl,rfl,rfl⟩ rfl λt5 nv cv mst ns h1 h2 hns hs=>?_);have x0:∀u v w x:AV,aN (.tup [u,v,w,x]) 0=some u:=λ_ _ _ _=>rfl;have x1:∀u v w x:AV,aN (.tup [u,v,w,x]) 1=some v:=λ_ _ _ _=>rfl;have x2:∀u v w x:AV,aN (.tup [u,v,w,x]) 2=some w:=λ_ _ _ _=>rfl;have x3:∀u v w x:AV,aN (.tup [u,v,w,x]) 3=some x:=λ_ _ _ _=>rfl;simp only[x0,x1,x2,x3,ae,aF,CL,aU,eR];rw[decide_eq_true h2];unfold CK;have ln:bp nv=some ns.length:=by rw[hs.len,lMY]
 simp only[aU,ae,aF,ln,aR,aG,Bool.false_bne];rcases hns with rfl|rfl;show ai true _ _;rw[aF];unfold wA;show oK (some (AV.bool true)) _;exact hK t5;show ai false _ _;rw[ay];refine am (fi rfl) ⟨rfl,an λc t6 hc6 w6 u6=>?_⟩;refine LS.xf (m:=[(m:Int)]) (hs.sub (u6.sub hc6)) (Sl.mk (l:=[m]) w6 rfl sI:LS.Sli t6 (.slc c 0 1 (some 1) 1) [(m:Int)]) sI ?_
 simp_all [wA,ae]
variable{N:Nat}{B B':Int}{F:List (Int × LS.Rec)}{rc:LS.Rec}
structure GoodR(N:Nat)(L:List LS.Lnk)(B:Int)(r:LS.Rec):Prop where
 n:0<=r.1/\r.1<N
 q:1<=r.2.1/\r.2.1<=B
 a:r.2.2.Pairwise (· < ·)
 o:∀i∈r.2.2,owB L r.1 i=true
theorem GoodR.up(h:GoodR N L B rc)(k:B<=B'):GoodR N L B' rc:=⟨h.n,by have:=h.q;omega,h.a,h.o⟩
theorem IS:∀{l:List Int}{p:Option Int},l.Pairwise (· < ·)->(∀i∈l,0<=i/\i<128)->(∀q,p=some q->∀i∈l,q<i)->LS.chkL p l=0
 |[],p,_,_,_=>by unfold LS.chkL;rfl
 | y::l,p,h1,h2,h3=>by
   have ⟨a,b⟩:=pairwise_cons.1 h1;have hy:=h2 y sI;unfold LS.chkL;rw[if_neg oM,if_neg ?_]
   ·exact IS b (λi hi=>h2 i (by simp[hi])) λq hq i hi=>by cases hq;exact a i hi
   ·cases p with
    |none=>simp
    | some q=>
      have:=h3 q rfl y sI;simp;omega
theorem xT{i v:Int}(h:owB L v i=true):0<=i/\i<L.length:=⟨(oT h).1,(oT h).2.1⟩
theorem GoodR.lst(h:GoodR N L B rc)(hL:L.length<=64){p:Option Int}(hp:p=none):LS.chkL p rc.2.2=0:=
 IS h.a (λi hi=>by have:=xT (h.o i hi);omega) (by simp_all)
theorem GoodR.chk(h:GoodR N L B rc)(hL:L.length<=64)(hB:B<=1073741824):LS.chkR (N:Int) rc.1 rc.2.1 rc.2.2=0:=by unfold LS.chkR;have h1:=h.n;have h2:=h.q;rw[if_neg oM];exact h.lst hL rfl
theorem IT:∀{l:List Int}{lo n:Int},l.Pairwise (· < ·)->(∀i∈l,lo<=i/\i<n)->lo<=n->(l.length:Int)+lo<=n
 |[],lo,n,_,_,h=>by simpa using h
 | y::l,lo,n,h1,h2,_=>by
   have ⟨a,b⟩:=pairwise_cons.1 h1;have hy:=h2 y sI;have:=IT (lo:=y+1) (n:=n) b (λi hi=>gR) oM
   grind
theorem sN{l:List Int}{n:Nat}(h:l.Pairwise (· < ·))(hb:∀i∈l,0<=i/\i<(n:Int)):l.length<=n:=by have:=IT (lo:=0) (n:=n) h hb oM;omega
theorem GoodR.len(h:GoodR N L B rc):rc.2.2.length<=L.length:=sN h.a λi hi=>xT (h.o i hi)
structure cM(N:Nat)(L:List LS.Lnk)(B:Int)(F:List (Int×LS.Rec)):Prop where
 g:∀k r,look F k=some r->r.1=k/\GoodR N L B r
 nd:(F.map (·.1)).Nodup
 k:∀k∈F.map (·.1),0<=k/\k<(N:Int)
theorem cM.up(h:cM N L B F)(k:B<=B'):cM N L B' F:=⟨λn r hr=>⟨(h.g n r hr).1,(h.g n r hr).2.up k⟩,h.nd,h.k⟩
theorem cM.nil:cM N L B []:=⟨(λk r h=>by cases h),sI,sI⟩
theorem cM.asc(h:cM N L B F):LS.AscF F:=λk r hr=>(h.g k r hr).2.a
end Go.AM.RT
