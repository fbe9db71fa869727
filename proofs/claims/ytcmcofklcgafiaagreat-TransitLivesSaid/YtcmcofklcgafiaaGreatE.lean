/- Part E of the proof: see the last part. -/
import Derived.Test.YtcmcofklcgafiaaGreatD
import Derived.Test.YtcmcofklcgafiaaGreatS
import Derived.Test.YtcmcofklcgafiaaGreatV2
set_option linter.unusedVariables false
namespace Go.AM.FB
open Go Go.Proofs List Nat
set_option maxRecDepth 100000
variable{K:AV→Hq→Prop}{r r' s s' t:Hq}{lv lv' y:AV}{f b mb N:Nat}{G:List Lnk}{U:List Bool}{d:Nat→Int}{L:List RLk}
theorem Fm{n x:Int}(hl:SlR 3 s lv (L.map rwR))(hlm:L.length<=9223372036854775807)
  (hbad:¬(vld n L (replicate L.length false)/\0<=x/\x<n)->∀s' e,Sub s s'->e≠0->K (.tup [.nilptr,Ii e]) s')
  (hK:vld n L (replicate L.length false)->0<=x->x<n->∀f mb lv' s',Sub s s'->s f=none->s mb=none->f≠mb->Hc s' f 245 (fibC n x lv' .nilslc mb)->s' mb=some (false,.map [] 0)->SlR 3 s' lv' (L.map rwR)->(∀b o n c,lv'=.slc b o n c 3->L.map rwR≠[]->(b≠f/\b≠mb)/\s b=none)->K (.tup [Pp f,Ii 0]) s') :
  wC TP 66 [n,lv,x] K s:=by
 refine NE ?_;have bad0:∀{s'},¬(vld n L (replicate L.length false)/\0<=x/\x<n)->Sub s s'->∀{e:Int},e≠0->K (.tup [.nilptr,e]) s':=gR;simp only[Cj,hl.len,lMY,bW,ae];refine au (λc=>?_) (λc=>?_);have c':=oT c;rw[c];simp only[iJ,aU,aF,ae];exact bad0 (λh=>by have:=h.1.2.2.1;omega) (.refl s) oM;have c':=oF c;rw[c];simp only[nat?_mk,ae];refine⟨⟨Nat.le_refl _,oM⟩,an λub s1 hub h1 u1=>?_⟩;have sub1:=u1.sub hub;have hu1:Sl s1 (.slc ub 0 L.length (some L.length) 1) ((replicate L.length false).map AV.bool):=by rw[eH]at h1;refine Sl.mk (l:=(replicate L.length false).map AV.bool) (t:=false) (e:=4) ?_ sI sI;rw[h1,map_replicate]
 refine pD (hl.sub sub1) hlm hu1 λdv s2 sub2 hno hyes=>?_;have s02:=sub1.trans sub2
 by_cases q:vld n L (replicate L.length false)/\(0:Int)<=0/\0<n
 rotate_left
 grind [ji,aG,bG,iJ,aS,aF]
 have ⟨hv,_,hn0⟩:=q;obtain⟨N,rfl⟩:∃N:Nat,n=N:=⟨n.toNat,oM⟩
 obtain⟨d,db,_,_,rfl,_,_⟩:=hyes N 0 hv rfl oM rfl;simp only[gT,aG,Bool.false_bne,ae,iJ,aS,ay,aH]
 by_cases c1:x<0
 rw[decide_eq_true c1];simp only[lA,aU,aF,ae]
 grind
 rw[decide_eq_false c1];simp only[ay,ci,ae,lA,aS]
 by_cases c2:(N:Int)<=x
 rw[decide_eq_true c2];simp only[aF]
 grind
 rw[decide_eq_false c2];simp only[ay];obtain⟨r,rfl⟩:∃r:Nat,x=r:=⟨x.toNat,oM⟩
 have hN:=hv.2.1;refine lJ oM ?_;have x0:aN (.tup [Iw (lbk r),Ii 0]) 0=some (Iw (lbk r)):=rfl;have x1:aN (.tup [Iw (lbk r),Ii 0]) 1=some (Ii 0):=rfl;simp only[x0,x1,aR,aG,beq_self_eq_true,Bool.true_bne,Bool.not_true,ay,ae];refine pO (hl.sub s02) (by rw[lMY];omega) λlv' s3 sub3 hl3 fr3=>?_;have s03:=s02.trans sub3;intro mb hmb;have sub4:Sub s3 (hset s3 mb (false,.map [] 0)):=gy hmb;have hm4:hset s3 mb (false,.map [] 0) mb=some (false,.map [] 0):=by simp[hset]
 generalize hset s3 mb (false,.map [] 0)=s4 at sub4 hm4;have hone:lv'.one=true:=hl3.one;refine am (a:=fibC N r lv' .nilslc mb) ?_ ?_;show cond (beq lv'.cells.length 1&&ble (3+lv'.cells.length) 6) (aq (bN [N,r,Iw (lbk r),.nilslc,.nilslc,.nilmap] 3 lv'.cells) [(5,1,.map mb)]) none=_;rw[dx hone];rfl;refine⟨?_,an λf s5 hf h5 u5=>?_⟩;show((AV.int .i64 (N:Int)).one&&((AV.int .i64 (r:Int)).one&&((AV.int .u32 _).one&&(lv'.one&&(AV.nilslc.one&&((AV.map mb).one&&true))))))=true;rw[hone];rfl;have sub5:=u5.sub hf;have hfm:f≠mb:=λe=>gR;refine hK hv oM oM f mb lv' s5 (s03.trans (sub4.trans sub5)) (cF (s03.trans sub4) hf) (cF s03 hmb) hfm h5 (sub5 _ _ hm4) (hl3.sub (sub4.trans sub5)) λb o n c e hne=>?_;have:=hl3.was b o n c e hne;exact⟨⟨λq=>this (cF sub4 (by rw[q];exact hf)),λq=>this (by rw[q];exact hmb)⟩,cF s02 (fr3 b o n c e hne)⟩
theorem Fo{n:Nat}(h:∀i,U.getD i false=false):edL G U n=[]:=by
 simp_all [edL]
theorem Zf{k i:Nat}:(replicate k false).getD i false=false:=by
 grind
theorem qy{k x n:Nat}:lnk N G (replicate k false) x n=[]:=by
 grind [lnk,nrL,dr,Fo]
theorem qD{k x:Nat}:ndL N G (replicate k false) x=[]:=by rcases q:ndL N G (replicate k false) x with _|⟨a,l⟩;rfl;exact absurd qy (fX.1 (by rw[q];exact mem_cons_self)).2
theorem Fp:Zs.length=64:=by unfold Zs;simp
theorem Fq:∀b∈Zs,b=0:=λb hb=>eq_of_mem_replicate hb
theorem Fr{n x:Int}(hl:SlR 3 s lv (L.map rwR))(hlm:L.length<=9223372036854775807)
  (hbad:¬(vld n L (replicate L.length false)/\0<=x/\x<n)->∀s' e,Sub s s'->e≠0->K (.tup [.nilptr,Ii e]) s')
  (hK:∀(N y:Nat) r' s' f,n=N->x=y->y<N->vld (N:Int) L (replicate L.length false)->Tab r' f N y L (replicate L.length false) (λ_=>Zs)->Sub s s'->Sub r' s'->(∀i,r' i≠none->s i=none)->K (.tup [Pp f,Ii 0]) s') :
  wC TP 66 [n,lv,x] K s:=by
 refine Fm hl hlm hbad λhv h0 h1 f mb lv' s' sub hf hm hfm h2 h3 h4 h5=>?_;obtain⟨N,rfl⟩:∃N:Nat,n=N:=⟨n.toNat,oM⟩
 obtain⟨y,rfl⟩:∃y:Nat,x=y:=⟨x.toNat,oM⟩
 have ⟨r2,hr2⟩:∃r2:Hq,r2=λi=>if s i=none then s' i else none:=⟨_,rfl⟩
 have r2in:∀{i},s i=none->r2 i=s' i:=fun {i} h=>by rw[hr2];exact if_pos h
 have r2s:Sub r2 s':=λi e hi=>by
  grind
 have hH:SlR 3 (grow (λ_=>none) s s' (λi=>i=f∨i=mb)) lv' (L.map rwR):=(by grind [Pd])
 have hHs:Sub (grow (λ_=>none) s s' (λi=>i=f∨i=mb)) r2:=λi e hi=>by
  have hs:s i=none:=by
   grind [xq]
  rw[r2in hs];exact Fb (λi e hi=>by cases hi) _ _ hi
 have ofn:ofP N (L.map toL) (replicate L.length false) y N=[]:=by grind [xk,qD]
 refine hK N y r2 s' f rfl rfl oM hv ⟨⟨_,mb,lv',.nilslc,[],[],λ_=>[],⟨hHs,xp rfl (.inl rfl),xp rfl (.inr rfl),by rw[r2in hf];exact h2,by rw[r2in hm];exact h3,⟨.nil,(λp hp=>by cases hp),(λi hi=>by have ⟨p,hp,_⟩:=hi;cases hp),(λp hp=>by cases hp),λ_=>Fp,λ_ b hb=>by rw[Fq b hb];omega,λ_ _=>rfl⟩,(λp hp=>by cases hp),hH⟩,⟨(λr hr=>by cases hr),.inl ⟨rfl,rfl⟩⟩,by rw[ofn];rfl,(λy hy=>by cases hy),(λn hn=>by rw[qD]at hn;cases hn),λp hp=>by cases hp⟩,λn hn=>?_⟩ sub r2s λi hi=>?_
 ·rw[qy]
  exact⟨λ_=>rfl,λh=>absurd rfl h,λa ha=>by cases ha⟩
 grind
end Go.AM.FB
namespace Go.AM.LS
open Go Go.Proofs List Nat
set_option maxRecDepth 100000
variable{K:AV→Hq→Prop}{s s':Hq}{Fz:Nat→Prop}{d m:Nat}{nodes node last n q:Int}{F:List (Int × Rec)}{v:AV}{L:List Int}
theorem eqC3(a b a' b':Bool)(x x':Int):cZ TP 219 (.agg [a,b,x]) (.agg [a',b',x'])=(match some (a == a')with
   | some true=>(match some (b == b')with
     | some true=>(match some (eqI x x')with
       |some true=>some true
       |some false=>some false
       |none=>none)
     |some false=>some false
     |none=>none)
   |some false=>some false
   |none=>none):=kR
theorem eqCd(a b a' b':Bool)(x x':Int):cZ TP 219 (.agg [a,b,x]) (.agg [a',b',x'])=some (a == a'&&(b == b'&&x == x')):=by
 grind [eqC3,eM]
theorem Fs{a b:Int}:dS max2A a [b]=some (Ii (max a b)):=by
 have e:ltI a b=decide (a<b):=by rw[d6]
 by_cases h:a<b
 have:max a b=b:=oM
 simp_all [dS,max2A]
 have:max a b=a:=oM
 simp_all [dS,max2A]
theorem Ft{a b v:AV}(ha:a.one=true)(hb:b.one=true)(hv:v.one=true):aq [(Ii 0),(Ii 0),.nilslc] [(0,1,a),(1,1,b),(2,1,v)]=some [a,b,v]:=by simp only[aq,dx ha,dx hb,dx hv];rfl
theorem Fu{s':Hq}{fp:Nat->Prop}{l:List (Int×AV)}(h:Pairs (RelV Fz s d m) l F)(k:aB fp s s')(hf:∀b,fp b->b=d∨b=m∨s b=none):Pairs (RelV Fz s' d m) l F:=h.mono λa r ⟨lv,e,h4,h5⟩=>⟨lv,e,h4.keep k λb' o n c e' hne hb=>by have h6:=h5 b' o n c e' (by simpa using hne);rcases hf b' hb with q|q|q;exact h6.2.1 q;exact h6.2.2 q;exact h4.ne q b' o n c e' hne rfl,h5⟩
theorem Db.stored{s2:Hq}{last2:Int}{r:Rec}{lv:AV}(z:Db Fz s d m nodes node last F)(hF:∀b,Fz b->s b≠none)(k:aB (λi=>i=d) s s2)(hd:Hc s2 d 217 [nodes,node,last2,.map m])
  (hlv:Sli s2 lv r.2.2) (hfr:∀b o n c,lv=.slc b o n c 1->r.2.2≠[]->s b=none) (hr:0<=r.1/\r.1<nodes) (hl:r.2.2.length<=100000)
  {R:Hq->Prop}(hK:∀s3,Db Fz s3 d m nodes node last2 (stor F r.1 r)->Upto m s2 s3->R s3):oK (putM s2 (.map m) r.1 (recV r.1 r.2.1 lv)) R:=by
 have hdm:=z.dm;have ⟨l,hm,hp⟩:=z.mp;have hm2:da s2 m l:=by have ⟨es,c,h1,h2⟩:=hm;exact⟨es,c,k _ _ h1 hdm.symm,h2⟩
 have hnn:=z.nn;have hsd:s d≠none:=by rw[z.dc];grind
 have hsm:s m≠none:=by have ⟨es,c,h1,_⟩:=hm;grind
 have hp2:=Fu hp k λb hb=>.inl hb;refine hm2.put oM λs3 h3 u3=>hK s3 ⟨by rw[u3 d hdm];exact hd,⟨_,h3,Pairs.stor (Fu hp2 (u3.keep (fp:=λi=>i=m) rfl) λb hb=>.inr (.inl hb)) ⟨lv,rfl,?_,λb o n c e hne=>?_⟩⟩,z.fd,z.fm,z.nn,λj r' hj=>?_⟩ u3;refine hlv.keep (fp:=λi=>i=m) (u3.keep rfl) λb o n c e hne hb=>?_
 grind
 grind
 rw[ui]at hj;split at hj
 grind
 exact z.gd j r' hj
theorem Db.ext{b0:Nat}(z:Db Fz s d m nodes node last F)(h:s b0=none):Db (λb=>Fz b∨b=b0) s d m nodes node last F:=by
 have ⟨w1,⟨lw,w2,w3⟩,w4,w5,w6,w7⟩:=z;refine⟨w1,⟨lw,w2,w3.mono λa r ⟨lv,e,h4,h5⟩=>⟨lv,e,h4,λb' o n c e' hne=>?_⟩⟩,?_,?_,w6,w7⟩;have ⟨x1,x2⟩:=h5 b' o n c e' hne;refine⟨?_,x2⟩;rintro (q|q);exact x1 q;exact h4.ne h b' o n c e' (by simpa using hne) q
 grind
 ·rintro (q|rfl)
  exact w5 q
  ·have ⟨es,c,e1,_⟩:=w2
   rw[e1]at h;cases h
theorem Db.weak{Fz':Nat->Prop}(z:Db Fz' s d m nodes node last F)(h:∀b,Fz b->Fz' b):Db Fz s d m nodes node last F:=by obtain⟨w1,⟨lw,w2,w3⟩,w4,w5,w6,w7⟩:=z;exact⟨w1,⟨lw,w2,w3.mono λa r ⟨lv,e,h4,h5⟩=>⟨lv,e,h4,λb' o n c e' hne=>⟨λq=>(h5 b' o n c e' hne).1 (h _ q),(h5 b' o n c e' hne).2⟩⟩⟩,λq=>w4 (h _ q),λq=>w5 (h _ q),w6,w7⟩
theorem qE{seq:Int}(z:Db Fz s d m nodes node last F)(hF:∀b,Fz b->s b≠none)(h:Sli s v L)(hl:L.length<=100000)
  (hK:∀v' s',aB (λi=>i=d∨i=m) s s'->Db Fz s' d m nodes node seq (stor F node (node,seq,L))->Sli s' v' L->K (recV node seq v') s'):wC TP 113 [Pp d,v,seq] K s:=by
 have hdm:=z.dm;refine Um (an λb0 s1 hb0 h1 u1=>?_);have sub1:=u1.sub hb0;have z1:=z.sub sub1;have q1:∀la:Int,[AV.int .i64 nodes,node,la,.map m][1]?=some (Ii node):=λ_=>rfl;have q3:∀la:Int,[AV.int .i64 nodes,node,la,.map m][3]?=some (.map m):=λ_=>rfl;refine⟨s1,.refl s1,?_⟩;simp only[aO,ao,zAY,aj z1.dc,q1,ae];rw[d8];refine EC (s:=frz s1) (h.sub sub1).frz oM λv5 s6 sub6 sl6 fr6=>?_;have sl7:=sl6.addf sub6;have subt:Sub s1 (add s1 s6):=eF;have fr7:∀b o n c,v5=.slc b o n c 1->L≠[]->s1 b=none:=(by grind [eu])
 generalize add s1 s6=t at sl7 subt;refine am (Ft rfl rfl sl7.one) (an λb8 t2 hb8 h8 u8=>?_);refine aZ h8 rfl rfl (by rw[bP,bP,bP,sl7.one];rfl) λs10 h10 u10=>?_;have h10:Hc s10 b8 34 [node,seq,v5]:=h10;have subt10:Sub t s10:=(u8.sub hb8).upto u10 hb8;have sub10:=(sub1.trans subt).trans subt10;have z10:=z.sub sub10;have sl10:=sl7.sub subt10;have hbd:b8≠d:=by rintro rfl;have:=z10.dc;grind
 refine aT z10.dc sI rfl λs13 h13 u13=>?_;have h13:Hc s13 d 217 [nodes,node,seq,.map m]:=h13;have h13b:s13 b8=_:=(u13 b8 hbd).trans h10;simp only[aj h13,q1,q3,aQ (n:=3) h13b rfl,ae];have old:∀b,s1 b=none->s b=none:=λb hb=>by
  cases q:s b with
  |none=>rfl
  |some x=>rw[sub1 b x q]at hb;cases hb
 have hsd:s d≠none:=by grind [Db.dc]
 have hs1d:s1 d≠none:=gR;have hs1m:s1 m≠none:=by
  have ⟨l0,⟨es0,c0,hm0,_⟩,_⟩:=z1.mp
  grind
 have hs1b:s1 b0≠none:=gR;have sl13:Sli s13 v5 L:=sl10.keep (fp:=λi=>i=d) (u13.keep rfl) gR;have ze:Db (λb=>Fz b∨b=b0) s1 d m nodes node last F:=(z.ext hb0).sub sub1;refine Db.stored (r:=(node,seq,L)) ze (λb hb=>?_) ((subt.trans subt10).keep.trans (u13.keep rfl)) h13 sl13 fr7 ⟨z.nn.2.2.1,z.nn.2.2.2⟩ hl λs21 z21 u21=>?_
 grind
 have hbm:b8≠m:=by
  rintro rfl;have ⟨l0,⟨es0,c0,hm0,_⟩,_⟩:=z10.mp
  grind
 have h21b:s21 b8=_:=(u21 b8 hbm).trans h13b;have hb0d:b0≠d:=λe=>hsd (by rw[<- e];exact hb0);have hb0m:b0≠m:=by
  rintro rfl;have ⟨l0,⟨es0,c0,hm0,_⟩,_⟩:=z.mp
  grind
 have h21c:Hc s21 b0 34 [Ii 0,Ii 0,.nilslc]:=by rw[u21 b0 hb0m,u13 b0 hb0d];exact subt10 _ _ (subt _ _ h1)
 simp only[aQ (n:=3) h21b rfl,ae];refine aZ h21c rfl rfl (by rw[bP,bP,bP,sl7.one];rfl) λs23 h23 u23=>?_;have h23:Hc s23 b0 34 [node,seq,v5]:=h23;simp only[aQ (n:=3) h23 rfl,ae];have kb:aB (λi=>i=d∨i=m) s s23:=λb e hb hn=>by
  have h1:s13 b=some e:=by rw[u13 b λq=>hn (.inl q)];exact sub10 b e hb
  rw[u23 b (cx hb0 hb),u21 b λq=>hn (.inr q)];exact h1
 refine hK v5 s23 kb ((z21.keep ((by grind [Upto.keep])) λi hi=>.inr hi).weak λb hb=>.inl hb) ?_;refine sl13.keep (fp:=λi=>i=m∨i=b0) ((u21.keep (.inl rfl)).trans (u23.keep (.inr rfl))) λb o n c e hne hb=>?_
 grind
theorem ext0{a b:AV}:aN (.tup [a,b]) 0=some a:=rfl
theorem ext1{a b:AV}:aN (.tup [a,b]) 1=some b:=rfl
theorem Fw{a p:Int}(z:Db Fz s d m nodes node last F)(hF:∀b,Fz b->s b≠none)(h:Sli s v L)(hl:L.length<=100000)(hq:1<=q)
  (hE:1073741824<=q->∀s',Sub s s'->K (.tup [Ii 0,Ii 7]) s')
  (hK:¬ 1073741824<=q->∀s',aB (λi=>i=d∨i=m) s s'->Db Fz s' d m nodes node (q+1) (stor F node (node,q+1,L))->K (.tup [Ii 3,Ii 0]) s'):wC TP 103 [Pp d,recV a p v,q] K s:=by
 refine Uh (box3 rfl rfl h.one λb0 s1 hb0 h1 u1=>?_);have sub1:=u1.sub hb0;simp only[ci,ae];refine au ((by simp_all)) λhq=>?_;have hq:=oF hq;have q2:[AV.int .i64 a,p,v][2]?=some v:=rfl;simp only[ao,zAY,aj h1,q2,aJ,ae];rw[aC];refine qE (z.sub sub1) (λb hb=>?_) (h.sub sub1) hl λv' s2 k2 z2 _=>hK hq s2 (sub1.keep.trans k2) z2;cases e:s b with
 |none=>exact absurd e (hF b hb)
 |some x=>rw[sub1 b x e];grind
theorem Pg{b0:Nat}{old7 t46:AV}(z:Db Fz s d m nodes node last F)(hF:∀b,Fz b->s b≠none)(h0:Hc s b0 34 [n,q,v])(h:Sli s v L)(hl:L.length<=100000)(hn:0<=n/\n<nodes)
  (hK:∀s',aB (λi=>i=d∨i=m) s s'->Db Fz s' d m nodes node last (stor F n (n,q,L))->K (.tup [Ii 1,Ii 0]) s') :
  gY (Pp d) (Pp b0) old7 t46 true K s:=by
 have q0:[AV.int .i64 n,q,v][0]?=some (Ii n):=rfl;have q3:[AV.int .i64 nodes,node,last,.map m][3]?=some (.map m):=rfl;refine⟨s,.refl s,?_⟩;simp only[aO,ao,zAY,aj z.dc,q3,aj h0,q0,aQ (n:=3) h0 rfl,ae];rw[d8];refine O4 (s:=frz s) h.frz oM λv' s2 sub2 sl2 fr2=>?_;have sl3:=sl2.addf sub2;have subt:Sub s (add s s2):=eF;have z3:=z.sub subt;refine Db.stored (r:=(n,q,L)) z hF subt.keep z3.dc sl3 ((by grind [eu])) hn hl λs3 h3 u3=>hK s3 (subt.keep.trans (u3.keep (.inr rfl))) h3
theorem rj0{b0 b7 b9:Nat}{old:List AV}{stored:Bool}{ord:Int}(z:Db Fz s d m nodes node last F)(hF:∀b,Fz b->s b≠none)(h0:Hc s b0 34 [n,q,v])(h7:Hc s b7 34 old)(h9:Hc s b9 219 [(n == node),stored,ord])
  (h:Sli s v L) (hl:L.length<=100000) (hn:0<=n/\n<nodes) (hq:1<=q) (hchk:chkR nodes n q L=0)
  (hst:(stored=false/\look F n=none/\ord=0)∨(stored=true/\∃o lo,look F n=some o/\old=[Ii o.1,Ii o.2.1,lo]/\Sli s lo o.2.2/\ord=cmpR q o.2.1 L o.2.2))
  (hK:∀s',aB (λi=>i=d∨i=m) s s'->Db Fz s' d m nodes node (cL nodes node last F (n,q,L)).last (cL nodes node last F (n,q,L)).F->K (.tup [(cL nodes node last F (n,q,L)).code,(cL nodes node last F (n,q,L)).err]) s') :
  kZ (Pp d) (Pp b0) (Pp b7) (Pp b9) K s:=by
 have hdm:=z.dm;have q1:[AV.int .i64 n,q,v][1]?=some (Ii q):=rfl;have q2:[AV.int .i64 nodes,node,last,.map m][2]?=some (Ii last):=rfl;have f0:aq [false,false,(Ii 0)] []=some [.bool false,.bool false,Ii 0]:=rfl;have f1:aq [false,false,(Ii 0)] [(1,1,true),(2,1,(Ii 1))]=some [.bool false,.bool true,Ii 1]:=rfl;have f2:aq [false,false,(Ii 0)] [(0,1,true)]=some [.bool true,.bool false,Ii 0]:=rfl;have f3:aq [false,false,(Ii 0)] [(1,1,true),(2,1,(-1:Int))]=some [.bool false,.bool true,Ii (-1)]:=rfl;have f4:aq [false,false,(Ii 0)] [(0,1,true),(1,1,true),(2,1,(-1:Int))]=some [.bool true,.bool true,Ii (-1)]:=rfl;have f5:aq [false,false,(Ii 0)] [(0,1,true),(1,1,true),(2,1,(Ii 1))]=some [.bool true,.bool true,Ii 1]:=rfl;have tf:(true == false)=false:=rfl;have ft:(false == true)=false:=rfl;have i01:((0:Int) == 1)=false:=rfl;have i0m:((0:Int) == -1)=false:=rfl;have i10:((1:Int) == 0)=false:=rfl;have i1m:((1:Int) == -1)=false:=rfl;have im0:((-1:Int) == 0)=false:=rfl;have im1:((-1:Int) == 1)=false:=rfl;have un:cL nodes node last F (n,q,L)=(match look F n with
  |none=>if n=node then⟨max last q,F,0,0⟩else⟨last,stor F n (n,q,L),1,0⟩
  | some o=>if cmpR q o.2.1 L o.2.2=-1 then⟨last,F,2,0⟩else
    if cmpR q o.2.1 L o.2.2=1 then(if n=node then(if 1073741824<=q then⟨last,F,0,7⟩else⟨q+1,stor F node (node,q+1,o.2.2),3,0⟩)else⟨last,stor F n (n,q,L),1,0⟩)
    else⟨last,F,0,0⟩):=by
  grind [cL]
 rw[un]at hK;simp only[kZ,aQ (n:=3) h9 rfl,f0,eqCd,aG,Bool.false_bne,ae];rcases hst with⟨rfl,hlk,rfl⟩|⟨rfl,o,lo,hlk,rfl,hlo,rfl⟩
 ·rw[hlk]at hK
  by_cases hown:n=node
  ·have e1:=beq_iff_eq.2 hown
   rw[if_pos hown]at hK;simp only[e1,tf,Bool.false_and,ay,f1,eqCd,aG,Bool.false_bne,ae,gY,f2,beq_self_eq_true,Bool.and_self,aF,aO,ao,zAY,aj z.dc,q2,aj h0,q1,Fs];refine aT z.dc sI rfl λs2 h2 u2=>hK s2 (u2.keep (.inl rfl)) ?_;have ⟨w1,⟨lw,w2,w3⟩,w4,w5,w6,w7⟩:=z;refine⟨h2,⟨lw,?_,Fu w3 (u2.keep (fp:=λi=>i=d) rfl) λb hb=>.inl hb⟩,w4,w5,w6,w7⟩;have ⟨es,c,e3,e4⟩:=w2;exact⟨es,c,by rw[u2 m hdm.symm];exact e3,e4⟩
  ·have e1:=beq_eq_false_iff_ne.2 hown
   rw[if_neg hown]at hK;simp only[e1,beq_self_eq_true,Bool.and_self,aF];exact Pg z hF h0 h hl hn hK
 ·rw[hlk]at hK
  simp only at hK;have stay:(cmpR q o.2.1 L o.2.2=0)->K (.tup [Ii 0,Ii 0]) s:=(by grind [aB.refl])
  have stale:(cmpR q o.2.1 L o.2.2=-1)->K (.tup [Ii 2,Ii 0]) s:=(by grind [aB.refl])
  have hol:=(z.gd _ _ hlk).2.2
  by_cases hown:n=node
  ·have e1:=beq_iff_eq.2 hown
   rcases O3 (p:=q) (q:=o.2.1) (l:=L) (m:=o.2.2)with hc|hc|hc
   ·simp only[e1,hc,tf,Bool.false_and,ay,f1,eqCd,aG,Bool.false_bne,ae,gY,f2,beq_self_eq_true,Bool.true_and,Bool.and_self,f3,f4,ju,aF]
    exact stale hc
   ·simp only[e1,hc,tf,i01,i0m,Bool.false_and,Bool.and_false,ay,f1,eqCd,aG,Bool.false_bne,ae,gY,f2,beq_self_eq_true,Bool.and_self,f3,f4,ju,f5]
    exact stay hc
   ·rw[hc,if_neg dE,if_pos rfl,if_pos hown]at hK
    simp only[e1,hc,tf,i10,i1m,Bool.false_and,Bool.and_false,ay,f1,eqCd,aG,Bool.false_bne,ae,gY,f2,beq_self_eq_true,Bool.and_self,f3,f4,ju,aF,f5,aQ (n:=3) h7 rfl,ao,zAY,aj h0,q1];refine Fw z hF hlo hol hq (λhq s2 sub2=>?_) λhq s2 k2 z2=>?_
    ·grind [ext0,ext1,bG,Sub.keep,Db.sub]
    grind [ext0,ext1,bG]
  ·have e1:=beq_eq_false_iff_ne.2 hown
   rcases O3 (p:=q) (q:=o.2.1) (l:=L) (m:=o.2.2)with hc|hc|hc
   ·simp only[e1,hc,tf,ft,im0,im1,Bool.false_and,Bool.and_false,ay,f1,eqCd,aG,Bool.false_bne,ae,gY,f2,beq_self_eq_true,Bool.and_self,f3,f4,ju,aF]
    exact stale hc
   ·simp only[e1,hc,tf,ft,i01,i0m,Bool.false_and,Bool.and_false,ay,f1,eqCd,aG,Bool.false_bne,ae,gY,f2,beq_self_eq_true,Bool.and_self,f3,f4,ju,f5]
    exact stay hc
   ·rw[hc,if_neg dE,if_pos rfl,if_neg hown]at hK
    simp only[e1,hc,tf,i10,Bool.and_false,ay,f1,eqCd,aG,Bool.false_bne,ae,beq_self_eq_true,Bool.and_self];exact Pg z hF h0 h hl hn hK
theorem Fx(h:chkR nodes n q L≠0):cL nodes node last F (n,q,L)=⟨last,F,0,chkR nodes n q L⟩:=by
 grind [cL]
theorem FA(h:chkR nodes n q L=0):(0<=n/\n<nodes)/\1<=q/\q<=1073741824:=by
 grind [chkR]
theorem xr(z:Db Fz s d m nodes node last F)(hF:∀b,Fz b->s b≠none)(h:Sli s v L)(hl:L.length<=100000)
  (hK:∀s',aB (λi=>i=d∨i=m) s s'->Db Fz s' d m nodes node (cL nodes node last F (n,q,L)).last (cL nodes node last F (n,q,L)).F->K (.tup [(cL nodes node last F (n,q,L)).code,(cL nodes node last F (n,q,L)).err]) s'):wC TP 50 [Pp d,recV n q v] K s:=by
 refine TQ (box3 rfl rfl h.one λb0 s1 hb0 h1 u1=>?_);have sub1:=u1.sub hb0;have z1:=z.sub sub1;refine xg z1 ?_;have p0:[AV.int .i64 nodes,node,last,.map m][0]?=some (Ii nodes):=rfl;have p1:[AV.int .i64 nodes,node,last,.map m][1]?=some (Ii node):=rfl;have p3:[AV.int .i64 nodes,node,last,.map m][3]?=some (.map m):=rfl;have q0:[AV.int .i64 n,q,v][0]?=some (Ii n):=rfl;simp only[bD,Bool.not_true,ay,aO,ao,zAY,aj z1.dc,p0,aQ (n:=3) h1 rfl,ae];refine xe (h.sub sub1) oM λs2 sub2=>?_;have sub02:=sub1.trans sub2;have z2:=z.sub sub02;have h2:=sub2 _ _ h1;simp only[aR,aG,Bool.true_bne,ae]
 by_cases hc:chkR nodes n q L=0
 ·have e0:(!(chkR nodes n q L == 0))=false:=by rw[hc];rfl
  rw[e0];have ⟨hn,hq1,hq2⟩:=FA hc;have ⟨l,hm,hp⟩:=z2.mp;have hget:=hm.get (k:=n);simp only[ay,aj z2.dc,p3,aj h2,q0,hget,ae];have key:∀(old:List AV) (stored:Bool),old.length=3->aD old=true->((stored=false/\look F n=none)∨(stored=true/\∃o lo,look F n=some o/\old=[Ii o.1,Ii o.2.1,lo]/\Sli s2 lo o.2.2))->
    newK 34 [(Ii 0),(Ii 0),.nilslc] (λb_20 s_21=>
    oK (cn s_21 3 (Pp b_20) (.agg old)) λs_22=>
    oK (cO 0 (Pp b0)) λv_23=>
    oK (rd1 s_22 v_23) λv_24=>
    oK (cJ (Pp d)) λv_25=>
    oK (cO 1 v_25) λv_26=>
    oK (rd1 s_22 v_26) λv_27=>
    oK (negB false (eqV 0 false v_24 v_27)) λv_28=>
    oK (aq [false,false,(Ii 0)] [(0,1,v_28),(1,1,stored)]) λc_29=>
    newK 219 [false,false,(Ii 0)] (λb_30 s_31=>
    oK (cn s_31 3 (Pp b_30) (.agg c_29)) λs_32=>
    ai stored
     (oK (rdN s_32 3 (Pp b0)) λv_73=>
      oK (rdN s_32 3 (Pp b_20)) λv_74=>
      wC TP 101 [(.agg v_73),(.agg v_74)] (λv_75 s_76=>
      oK (cO 2 (Pp b_30)) λv_77=>
      oK (wr1 s_76 v_77 v_75) λs_78=>
      kZ (Pp d) (Pp b0) (Pp b_20) (Pp b_30) K s_78) s_32)
     (kZ (Pp d) (Pp b0) (Pp b_20) (Pp b_30) K s_32)) s_22) s2:=by
   intro old stored ho3 ho1 hst;refine an λb7 t hb7 h7 u7=>?_;refine aZ h7 (by rw[ho3];rfl) rfl ho1 λs4 h4 u4=>?_;have sub24:=(u7.sub hb7).upto u4 hb7;have h14:=sub24 _ _ h2;have z4:=z2.sub sub24;simp only[ao,zAY,aj h14,q0,aO,aj z4.dc,p1,aR,aG,Bool.false_bne,ae];refine am (a:=[(n == node),stored,Ii 0]) rfl (an λb9 t2 hb9 h9 u9=>?_);refine aZ h9 rfl rfl rfl λs6 h6 u6=>?_;have sub46:=(u9.sub hb9).upto u6 hb9;have sub26:=sub24.trans sub46;have h16:=sub46 _ _ h14;have h76:=sub46 _ _ h4;have z6:=z2.sub sub26;have sub06:=sub02.trans sub26;have hF6:∀b,Fz b->s6 b≠none:=λb hb=>by rcases e:s b with _|x;exact absurd e (hF b hb);rw[sub06 b x e];grind
   rcases hst with⟨rfl,hlk⟩|⟨rfl,o,lo,hlk,rfl,hlo⟩;exact rj0 z6 hF6 h16 h76 h6 (h.sub sub06) hl hn hq1 hc (.inl ⟨rfl,hlk,rfl⟩) λs8 k8 z8=>hK s8 (sub06.keep.trans k8) z8
   ·simp only[aF,aQ (n:=3) h16 rfl,aQ (n:=3) h76 rfl,ae]
    refine Ez (h.sub sub06) (hlo.sub sub26) oM λs7 sub7=>?_;refine aT (sub7 _ _ h6) sI rfl λs8 h8 u8=>?_;have hb9s:s2 b9=none:=by
     cases e:s2 b9 with
     |none=>rfl
     |some x=>rw[sub24 b9 x e]at hb9;cases hb9
    have hb9s4:=hb9;have sub28:=(sub26.trans sub7).upto u8 hb9s;have sub48:=(sub46.trans sub7).upto u8 hb9s4;have sub08:=sub02.trans sub28;have hF8:∀b,Fz b->s8 b≠none:=λb hb=>by rcases e:s b with _|x;exact absurd e (hF b hb);rw[sub08 b x e];grind
    exact rj0 (z2.sub sub28) hF8 (sub28 _ _ h2) (sub48 _ _ h4) h8 (h.sub sub08) hl hn hq1 hc ((by grind [Sl.sub])) λs9 k9 z9=>hK s9 (sub08.keep.trans k9) z9
  rcases hp.look n with⟨h3,h4⟩|⟨a,o,h3,h4,lo,rfl,hlo,_⟩;rw[h3];exact key [Ii 0,Ii 0,.nilslc] false rfl rfl (.inl ⟨rfl,h4⟩);rw[h3];exact key [o.1,o.2.1,lo] true rfl (by rw[bP,bP,bP,hlo.one];rfl) (.inr ⟨rfl,o,lo,h4,rfl,hlo⟩)
 grind [aF,Fx,Sub.keep]
theorem FC:∀{l m:List Int},l.Nodup->(∀x∈l,x∈m)->l.length<=m.length:=by
 intro l
 induction l with
 |nil=>grind
 | cons a l ih=>
   intro m h1 h2;have ⟨ha,hn⟩:=nodup_cons.1 h1;have hm:a∈m:=h2 a sI;have:=ih (m:=m.erase a) hn λx hx=>(mem_erase_of_ne (λe=>ha (by rw[<- e];exact hx))).2 (h2 x (by simp[hx]));rw[length_erase_of_mem hm]at this;have:0<m.length:=length_pos_of_mem hm;simp only[length_cons];omega
theorem FD{l:List Int}{N:Nat}(h1:l.Nodup)(h2:∀x∈l,0<=x/\x<N):l.length<=N:=by
 have:=FC (m:=(List.range N).map λi:Nat=>(i:Int)) h1 λx hx=>by have ⟨a,b⟩:=h2 x hx;exact mem_map.2 ⟨x.toNat,mem_range.2 oM,oM⟩
 simpa using this
theorem Ph{V:Type}{l:List (Int×V)}{k:Int}(h:k∈l.map (·.1)):∃r,look l k=some r:=by
 cases e:look l k with
 |none=>grind [oq]
 |some r=>exact⟨r,rfl⟩
theorem Db.short(z:Db Fz s d m nodes node last F):(F.map (·.1)).Nodup/\F.length<=32:=by
 have ⟨l,⟨es,c,_,ho⟩,hp⟩:=z.mp;have hk:=hp.keys;have nd:(F.map (·.1)).Nodup:=by rw[<- hk];exact ho.nd
 refine⟨nd,?_⟩;have:=FD (N:=32) nd λx hx=>by have ⟨r,hr⟩:=Ph hx;have:=z.gd x r hr;have:=z.nn;omega
 simpa using this
theorem FE(hn:1<=nodes/\nodes<=32/\0<=node/\node<nodes)(hK:∀s' d m,Sub s s'->s d=none->s m=none->(∀Fz:Nat->Prop,(∀b,Fz b->s b≠none)->Db Fz s' d m nodes node 0 [])->K (.tup [Pp d,Ii 0]) s'):wC TP 64 [nodes,node] K s:=by
 refine TE ?_;simp only[Mp,aH,bW,ci,decide_eq_false (show ¬nodes<1 by omega),decide_eq_false (show ¬ 32<nodes by omega),decide_eq_false (show ¬node<0 by omega),decide_eq_false (show ¬nodes<=node by omega),ay,BS,BQ,BP,aS,ae];refine ot λm s1 hm h1 u1=>am (a:=[nodes,node,Ii 0,.map m]) rfl ⟨rfl,an λd s2 hd h2 u2=>?_⟩;have sub1:=u1.sub hm;have hd0:s d=none:=by
  cases q:s d with
  |none=>rfl
  |some x=>rw[sub1 d x q]at hd;cases hd
 have hmd:m≠d:=by rintro rfl;have ⟨es,c,e,_⟩:=h1;rw[e]at hd;cases hd
 refine hK s2 d m (sub1.trans (u2.sub hd)) hd0 hm λFz hF=>⟨h2,⟨[],?_,.nil⟩,λh=>hF d h hd0,λh=>hF m h hm,hn,λk r h=>by cases h⟩
 have ⟨es,c,e,ho⟩:=h1;exact⟨es,c,by rw[u2 m hmd];exact e,ho⟩
structure Rcs(s:Hq)(v:AV)(rs:List Rec):Prop where
 ex:∃rows,SlR 3 s v rows/\rows.length=rs.length/\∀(i:Nat) (r:Rec),rs[i]?=some r->∃lv,rows[i]?=some [Ii r.1,Ii r.2.1,lv]/\Sli s lv r.2.2
theorem Rcs.sub{rs:List Rec}(h:Rcs s v rs)(k:Sub s s'):Rcs s' v rs:=by have ⟨rows,h1,h2,h3⟩:=h;exact⟨rows,h1.sub k,h2,λi r hi=>by have ⟨lv,e1,e2⟩:=h3 i r hi;exact⟨lv,e1,e2.sub k⟩⟩
theorem Rcs.len{rs:List Rec}(h:Rcs s v rs):bp v=some rs.length:=by have ⟨rows,h1,h2,h3⟩:=h;rw[h1.len,h2]
theorem Rcs.at{rs:List Rec}(h:Rcs s v rs){i:Nat}(hi:i<rs.length):∃b o lv,ba 3 v i=some (.ptr b o)/\rdN s 3 (.ptr b o)=some [Ii rs[i].1,Ii rs[i].2.1,lv]/\Sli s lv rs[i].2.2/\rd1 s (.ptr b (o+2))=some lv:=by
 have ⟨rows,h1,h2,h3⟩:=h;have ⟨lv,e1,e2⟩:=h3 i rs[i] (gE hi);have ⟨b,o,g1,g2,g3⟩:=h1.get e1
 grind
structure RcsF(Fz:Nat->Prop)(s:Hq)(v:AV)(rs:List Rec):Prop where
 ex:∃rows,SlR 3 s v rows/\rows.length=rs.length/\(∀b o n c,v=.slc b o n c 3->rows≠[]->¬Fz b)/\∀(i:Nat) (r:Rec),rs[i]?=some r->∃lv,rows[i]?=some [Ii r.1,Ii r.2.1,lv]/\Sli s lv r.2.2/\∀b o n c,lv=.slc b o n c 1->r.2.2≠[]->¬Fz b
theorem RcsF.keep{fp:Nat->Prop}{rs:List Rec}(h:RcsF Fz s v rs)(k:aB fp s s')(hf:∀b,fp b->Fz b):RcsF Fz s' v rs:=by
 have ⟨rows,h1,h2,h0,h3⟩:=h;exact⟨rows,h1.keep k gR,h2,h0,λi r hi=>by have ⟨lv,e1,e2,e3⟩:=h3 i r hi;exact⟨lv,e1,e2.keep k gR,e3⟩⟩
def allR(F:List (Int×Rec)):List Rec:=(cB (F.map (·.1))).filterMap (look F)
theorem Zg{V:Type}{f:Int->Option V}:∀{l:List Int},(∀x∈l,∃r,f x=some r)->(l.filterMap f).length=l.length/\∀(i:Nat) (x:Int) (r:V),l[i]?=some x->f x=some r->(l.filterMap f)[i]?=some r:=by
 intro l
 induction l with
 |nil=>grind
 | cons y l ih=>
   intro h;have ⟨r0,h0⟩:=h y sI
   grind
theorem FF{elem e:TypeId}{es b i c:Nat}{cs row:List AV}{y:AV}(hb:Hc s b e cs)(hy:SlR es s y [row])(hi:i<c)(hcs:cs.length=c*es)(hr:row.length=es)(ho:aD row=true)
  (hK:∀s',Hc s' b e (bN cs (i*es) row)->Upto b s s'->K (.slc b 0 (i+1) (some c) es) s'):appK elem es (.slc b 0 i (some c) es) y K s:=by
 refine am hy.rd (am hy.len ⟨rfl,?_⟩);have e1:ble (i+[row].length) c=true:=by rw[ble_eq];exact hi
 have hfl:([row]:List (List AV)).flatten=row:=sI;simp only[length_singleton,hfl];have hle:i*es+es<=c*es:=by
  have:(i+1)*es<=c*es:=mul_le_mul_right es hi
  grind
 have e2:ble (i+1) c=true:=by rw[ble_eq];exact hi
 have e3:ble (0+i*es+row.length) cs.length=true:=by simp_all
 have e4:wrN s (.ptr b (0+i*es)) row=some (hset s b (false,.cells e (bN cs (0+i*es) row))):=by
  grind [wrN]
 simp only[e2,cond_true,e4,ae];refine hK _ ?_ λ_ h=>cE h
 simp_all
theorem Zh{cs row:List AV}{o:Nat}(h:o<=cs.length):(bN cs o row).take (o+row.length)=cs.take o++row:=by
 grind [bN]
theorem Zi{cs row:List AV}{o:Nat}(h:o+row.length<=cs.length):(bN cs o row).length=cs.length:=by
 grind [bN]
theorem FH{r:List AV}(h:r.length=3):aq (repl 1 [Ii 0,Ii 0,.nilslc]) [(0,3,.agg r)]=some r:=by
 match r,h with
 |[a,b,c],_=>rfl
theorem FI{z:List AV}{k:Nat}(h:z.length=3):(repl k z).length=k*3:=by
 induction k with
 |zero=>rfl
 | succ k ih=>
   grind [repl]
theorem Zj:∀{l m:List Int},cmpL l m=0->l=m:=by
 intro l
 induction l with
 |nil=>intro m h;cases m with|nil=>rfl|cons y m=>cases h
 | cons x l ih=>
   intro m h;cases m with
   |nil=>cases h
   | cons y m=>
     grind [lL]
theorem Pi:∀{l m:List Int},cmpL m l=- cmpL l m:=by
 intro l
 induction l with
 |nil=>intro m;cases m<;>rfl
 | cons x l ih=>
   intro m;cases m with
   |nil=>rfl
   | cons y m=>
     grind [lL]
theorem Zk:∀{l m k:List Int},cmpL l m≠1->cmpL m k≠1->cmpL l k≠1:=by
 intro l
 induction l with
 |nil=>intro m k _ _;cases k<;>simp[cmpL]
 | cons x l ih=>
   intro m k h1 h2;cases m with
   |nil=>exact absurd rfl h1
   | cons y m=>
     cases k with
     |nil=>exact absurd rfl h2
     | cons z k=>
       grind [lL]
def qF(a b:Rec):Int:=cmpR a.2.1 b.2.1 a.2.2 b.2.2
def cM(nodes:Int)(F:List (Int×Rec)):Prop:=∀k r,look F k=some r->r.1=k/\chkR nodes r.1 r.2.1 r.2.2=0
def Geq(o:Option Rec)(r:Rec):Prop:=∃w,o=some w/\qF r w≠1
def nwT(x:Rec):Option Rec->Bool
 |none=>true
 |some v=>decide (qF x v=1)
def xu(o o':Option Rec):Prop:=∀r,Geq o r->Geq o' r
theorem xu.refl(o:Option Rec):xu o o:=λ_ h=>h
theorem qG{x:Rec}{o:Option Rec}:nwT x o=true↔¬Geq o x:=by
 cases o with
 |none=>exact⟨λ_ h=>(by have ⟨w,e,_⟩:=h;cases e),λ_=>rfl⟩
 | some v=>
   unfold nwT;rw[decide_eq_true_iff];constructor
   ·rintro h ⟨w,e,hw⟩
    cases e;exact hw h
   intro h;exact Classical.byContradiction λq=>h ⟨v,rfl,q⟩
theorem xu.nw{x:Rec}{o o':Option Rec}(h:xu o o')(hx:nwT x o'=true):nwT x o=true:=qG.2 λq=>qG.1 hx (h x q)
def MapR(s:Hq)(b:Nat)(l:List (Int×AV)):Prop:=∃t es c,s b=some (t,.map es c)/\EsOK es c l
theorem MapR.get{s:Hq}{b:Nat}{l:List (Int×AV)}(h:MapR s b l){k:Int}:getM s (.map b) k=some (look l k):=by
 have ⟨t,es,c,hb,ho⟩:=h;have ⟨r,g1,g2,_⟩:=AO (k:=k) (i:=0) ho.kv
 grind [getM]
theorem MapR.len{s:Hq}{b:Nat}{l:List (Int×AV)}(h:MapR s b l):lenM s (.map b)=some l.length:=by have ⟨t,es,c,hb,ho⟩:=h;simp[lenM,hb,ho.len]
theorem MapR.sub{s s':Hq}{b:Nat}{l:List (Int×AV)}(h:MapR s b l)(k:Sub s s'):MapR s' b l:=by have ⟨t,es,c,hb,ho⟩:=h;exact⟨t,es,c,k _ _ hb,ho⟩
theorem MapR.nd{s:Hq}{b:Nat}{l:List (Int×AV)}(h:MapR s b l):(l.map (·.1)).Nodup:=by have ⟨t,es,c,hb,ho⟩:=h;exact ho.nd
section
variable {K:AV→Hq→Prop} {s:Hq} {P:Program}
theorem Pj{P:Program}{T:TypeId}{fs:FuncId}{L:List (FuncId×FuncId×TypeId)}(hP:SortedOK P T fs L){p:FuncId×FuncId×TypeId}(hp:p∈L){m b:Nat}{l:List (Int×AV)}(hb:s b=some (false,.one (.map m)))(hm:MapR s m l)(hl:l.length<=1000)
  (h:∀v s',Acc T s s' v (izs (cB (l.map (·.1))))->Sub s s'->K v s'):wC P fs [.fn (.func p.2.1) [] [Pp b]] K s:=by
 have ⟨tt,es,c,hes,ho⟩:=hm;exact Lg hP hp hb hes ho hl h
theorem FJ{P:Program}{T:TypeId}{fs:FuncId}{L:List (FuncId×FuncId×TypeId)}(hP:SortedOK P T fs L){p:FuncId×FuncId×TypeId}(hp:p∈L){m b:Nat}{l:List (Int×AV)}(hb:s b=some (false,.one (.map m)))(hm:da s m l)(hl:l.length<=1000)
  (h:∀v s',Acc T s s' v (izs (cB (l.map (·.1))))->Sub s s'->K v s'):wC P fs [.fn (.func p.2.1) [] [Pp b]] K s:=by
 have ⟨es,c,hes,ho⟩:=hm;exact Lg hP hp hb hes ho hl h
end
structure DbR(s:Hq)(d m:Nat)(nodes node last:Int)(F:List (Int×Rec)):Prop where
 dc:∃t,s d=some (t,.cells 217 [nodes,node,last,.map m])
 mp:∃l,MapR s m l/\Pairs (λv r=>∃lv,v=recV r.1 r.2.1 lv/\Sli s lv r.2.2) l F
 nn:1<=nodes/\nodes<=32/\0<=node/\node<nodes
 gd:∀k r,look F k=some r->r.1=k/\(0<=k/\k<nodes)/\r.2.2.length<=100000
theorem Db.rd(z:Db Fz s d m nodes node last F):DbR s d m nodes node last F:=by obtain⟨l,⟨es,c,h1,h2⟩,h3⟩:=z.mp;exact⟨⟨_,z.dc⟩,⟨l,⟨_,es,c,h1,h2⟩,h3.mono λa b ⟨lv,e,h4,_⟩=>⟨lv,e,h4⟩⟩,z.nn,z.gd⟩
theorem DbR.sub(z:DbR s d m nodes node last F)(k:Sub s s'):DbR s' d m nodes node last F:=by obtain⟨l,h1,h3⟩:=z.mp;obtain⟨t,h⟩:=z.dc;exact⟨⟨t,k _ _ h⟩,⟨l,h1.sub k,h3.mono λa b ⟨lv,e,h4⟩=>⟨lv,e,h4.sub k⟩⟩,z.nn,z.gd⟩
theorem DbR.frz(z:DbR s d m nodes node last F):DbR (frz s) d m nodes node last F:=by have ⟨l,⟨t,es,c,h1,h2⟩,h3⟩:=z.mp;have ⟨t',h⟩:=z.dc;exact⟨⟨_,cG h⟩,⟨l,⟨_,es,c,cG h1,h2⟩,h3.mono λa b ⟨lv,e,h4⟩=>⟨lv,e,h4.frz⟩⟩,z.nn,z.gd⟩
theorem FK(z:DbR s d m nodes node last F)(hK:K true s):wC TP 99 [Pp d] K s:=by refine MC ?_;have hp:decide ((0:Int)<nodes)=true:=decide_eq_true (by have:=z.nn;omega);have ⟨t,zdc⟩:=z.dc;simp only[BV,jh,aG,Bool.true_bne,Bool.not_false,aF,aO,ao,zAY,aj zdc,g0Y,bW,hp,vu,aU,ae];exact hK
theorem FM(z:DbR s d m nodes node last F){o:Rec}(hlk:look F n=some o)(hK:∀s' v',Sub s s'->Sli s' v' o.2.2->(∀b o1 n c,v'=.slc b o1 n c 1->o.2.2≠[]->s b=none)->K (.tup [recV o.1 o.2.1 v',true]) s'):wC TP 55 [Pp d,n] K s:=by
 refine TS (an λb0 s1 hb0 h1 u1=>?_);have sub1:=u1.sub hb0;have z1:=z.sub sub1;refine FK z1 ?_;have p3:[AV.int .i64 nodes,node,last,.map m][3]?=some (.map m):=rfl;have ⟨l,hm,hp⟩:=z1.mp;rcases hp.look n with⟨_,h4⟩|⟨a,o',h3,h4,lo,rfl,hlo⟩
 ·rw[hlk]at h4;cases h4
 rw[hlk]at h4;cases h4;have hol:=(z.gd _ _ hlk).2.2;simp only[bD,Bool.not_true,ay,aO,ao,zAY,aj (Classical.choose_spec z1.dc),p3,hm.get,h3,retM,cond_true,ext0,ext1,ae];refine an λb2 s2 hb2 h2 u2=>aZ h2 rfl rfl (by rw[bP,bP,bP,hlo.one];rfl) λs3 h3' u3=>?_;have h3':Hc s3 b2 34 [o.1,o.2.1,lo]:=h3';have sub13:Sub s1 s3:=(u2.sub hb2).upto u3 hb2;simp only[aQ (n:=3) h3' rfl,ae];refine O4 (hlo.sub sub13) oM λv4 s4 sub4 sl4 fr4=>?_;have h14:=sub4 _ _ (sub13 _ _ h1);refine aZ h14 rfl rfl (by rw[bP,bP,bP,sl4.one];rfl) λs5 h5 u5=>?_;have h5:Hc s5 b0 34 [o.1,o.2.1,v4]:=h5;simp only[aQ (n:=3) h5 rfl,ae];have old:∀b,s3 b=none->s b=none:=λb hb=>by
  cases q:s b with
  |none=>rfl
  |some x=>rw[sub13 _ _ (sub1 b x q)]at hb;cases hb
 refine hK s5 v4 (((sub1.trans sub13).trans sub4).upto u5 hb0) ?_ λb o1 n c e hne=>old b (fr4 b o1 n c e hne);refine sl4.keep (fp:=λi=>i=b0) (u5.keep rfl) λb o n c e hne hb=>?_;have:=fr4 b o n c e (by simpa using hne);rw[hb,sub13 _ _ h1]at this;cases this
variable{s0:Hq}
def Fre(s s':Hq)(v:AV)(l:List Int):Prop:=∀b o n c,v=.slc b o n c 1->l≠[]->s b=none/\∃e cs,Hc s' b e cs
theorem FN{v:AV}{l:List Int}(h:Sli s v l)(hl:l.length<=10000000)(hK:∀v' s',Sub s s'->Sli s' v' l->Fre s s' v' l->K v' s'):wC TP 105 [v] K s:=by
 refine vv ?_;have cases0:(v=.nilslc/\l=[])∨∃b o c,v=.slc b o l.length c 1:=by
  rcases h with⟨a,b⟩|⟨b,o,c,a,_⟩
  simp_all
  grind
 rcases cases0 with⟨rfl,rfl⟩|⟨b,o,c,rfl⟩;exact hK _ _ (.refl s) h λ_ _ _ _ _ h=>absurd rfl h
 ·simp only[iI,gT,aG,Bool.false_bne,ae,ay]
  refine am (a:=[]) rfl ⟨rfl,an λd s1 hd h1 u1=>?_⟩;have sub1:=u1.sub hd;refine ol (h.sub sub1) gR λv' s2 sub2 q1 q2=>hK v' s2 (sub1.trans sub2) ?_ λb o n c e hne=>?_
  by_cases e:l=[]
  subst e;rw[q1 rfl];exact .inr ⟨d,0,some 0,rfl,sI,λh=>absurd rfl h⟩;have ⟨c,e1,e2,e3⟩:=q2 (by simpa using e)
  grind [Sl.mk]
  ·have ⟨c,e1,e2,e3⟩:=q2 (by simpa using hne)
   rw[e2]at e
   injection e with e
   rw[<- e];refine⟨?_,_,_,e3⟩;cases q:s c with
   |none=>rfl
   |some x=>rw[sub1 c x q]at e1;cases e1
theorem FO{n q:Int}{v:AV}{l:List Int}(h:Sli s v l)(hl:l.length<=10000000)(hK:∀v' s',Sub s s'->Sli s' v' l->Fre s s' v' l->K (recV n q v') s'):wC TP 102 [recV n q v] K s:=by
 refine MD (box3 rfl rfl h.one λb0 s1 hb0 h1 u1=>an λb2 s2 hb2 h2 u2=>?_);have sub1:=u1.sub hb0;have sub2:=sub1.trans (u2.sub hb2);have h12:=u2.sub hb2 _ _ h1;have hne:=cx hb2 h1;have q2:[AV.int .i64 n,q,v][2]?=some v:=rfl;simp only[ao,zAY,aj h12,q2,ae];refine FN (h.sub sub2) hl λv' s3 sub3 sl3 fr3=>?_;have h13:=sub3 _ _ h12;refine aT h13 sI sl3.one λs4 h4 u4=>?_;have h4:Hc s4 b0 34 [n,q,v']:=h4;have h24:=(u4 b2 hne.symm).trans (sub3 _ _ h2);simp only[aQ (n:=3) h4 rfl,ae];refine aZ h24 rfl rfl (by rw[bP,bP,bP,sl3.one];rfl) λs5 h5 u5=>?_;simp only[aQ (n:=3) h5 rfl,ae];have old:∀b,s2 b=none->s b=none:=λb hb=>by
  cases q:s b with
  |none=>rfl
  |some x=>rw[sub2 b x q]at hb;cases hb
 have hb0s:=hb0;have hb2s:s b2=none:=by
  cases q:s b2 with
  |none=>rfl
  |some x=>rw[sub1 b2 x q]at hb2;cases hb2
 have far:∀b o n c,v'=.slc b o n c 1->l≠[]->b≠b0/\b≠b2:=λb o n c e hne=>by
  have:=(fr3 b o n c e hne).1
  grind
 refine hK v' s5 (((sub2.trans sub3).upto u4 hb0s).upto u5 hb2s) ?_ λb o n c e hne=>?_;refine Sl.keep (fp:=λi=>i=b0∨i=b2) sl3 ((u4.keep (.inl rfl)).trans (u5.keep (.inr rfl))) λb o n c e hne=>?_
 grind
 have ⟨h0,e0,cs0,h9⟩:=fr3 b o n c e hne;have ⟨n1,n2⟩:=far b o n c e hne;exact⟨old b h0,e0,cs0,by rw[u5 b n2,u4 b n1];exact h9⟩
def RcW(s0 s:Hq)(v:AV)(rs:List Rec):Prop:=∃rows,SlR 3 s v rows/\rows.length=rs.length/\(∀b o n c,v=.slc b o n c 3->rows≠[]->s0 b=none)/\∀(i:Nat) (r:Rec),rs[i]?=some r->∃lv,rows[i]?=some [Ii r.1,Ii r.2.1,lv]/\Sli s lv r.2.2/\∀b o n c,lv=.slc b o n c 1->r.2.2≠[]->s0 b=none/\(∃e cs,Hc s b e cs)/\∀b' o' n' c',v=.slc b' o' n' c' 3->b≠b'
theorem RcW.sub{rs:List Rec}(h:RcW s0 s v rs)(k:Sub s s'):RcW s0 s' v rs:=by
 have ⟨rows,h1,h2,h0,h3⟩:=h;refine⟨rows,h1.sub k,h2,h0,λi r hi=>?_⟩;have ⟨lv,e1,e2,e3⟩:=h3 i r hi;exact⟨lv,e1,e2.sub k,λb o n c e hne=>by have ⟨a,⟨e',cs,b'⟩,c'⟩:=e3 b o n c e hne;exact⟨a,⟨e',cs,k _ _ b'⟩,c'⟩⟩
theorem FQ(z:Db Fz s d m nodes node last F)(hK:∀v s',Sub s s'->RcW s s' v (allR F)->K v s'):wC TP 60 [Pp d] K s:=by
 refine TI (xg z ?_);have p3:[AV.int .i64 nodes,node,last,.map m][3]?=some (.map m):=rfl;have ⟨hnd,hlen⟩:=z.short;have ⟨l,hm,hp⟩:=z.mp;have hkeys:=hp.keys;have hll:l.length=F.length:=by have:=congrArg List.length hkeys;simpa using this
 have n0:nat? (Ii 0)=some 0:=rfl;simp only[bD,Bool.not_true,ay,aO,ao,zAY,aj z.dc,p3,hm.len,n0,nat?_mk,ae];refine⟨⟨zero_le _,oM⟩,an λb1 s1 hb1 h1 u1=>?_⟩;have sub1:=u1.sub hb1;have z1:=z.sub sub1;have hm1:da s1 m l:=by have ⟨es,c,e,ho⟩:=hm;exact⟨es,c,sub1 _ _ e,ho⟩
 simp only[aj z1.dc,p3,ae];refine AX Go.Proofs.YtcmcofklcgafiaaGreat.sortedOK (p:=(114,144,215)) sI λb2 s2 hb2 h2 u2=>?_;have sub2:=u2.sub hb2;have hm2:da s2 m l:=by have ⟨es,c,e,ho⟩:=hm1;exact⟨es,c,sub2 _ _ e,ho⟩
 refine LS.FJ Go.Proofs.YtcmcofklcgafiaaGreat.sortedOK sI h2 hm2 oM λv17 s3 acc3 sub3=>?_;rw[hkeys]at acc3;have sub13:=sub2.trans sub3;have sub03:=sub1.trans sub13;have ks:(cB (F.map (·.1))).length=F.length:=by rw[(eI _).length_eq,lMY]
 have hin:∀x∈cB (F.map (·.1)),∃r,look F x=some r:=λx hx=>Ph ((eI _).mem_iff.1 hx);have ⟨al,aa⟩:=Zg hin;simp only[acc3.sl.len,lMY,ks,ae];have acc3':Acc 3 s s3 v17 (izs (cB (F.map (·.1)))):=by
  rcases acc3 with h|⟨b,h0,a,h2⟩;exact .inl h
  ·refine .inr ⟨b,?_,a,h2⟩
   cases q:s b with
   |none=>rfl
   |some y=>rw[sub2 b y (sub1 b y q)]at h0;cases h0
 rw[hll]at h1 ⊢;refine⟨λys s4 k=>∃(i:Nat) (cs:List AV) (rows:List (List AV)),ys=[.slc b1 0 i (some F.length) 3,Ii i]/\i<=F.length/\k=F.length-i/\Sub s s4/\Acc 3 s s4 v17 (izs (cB (F.map (·.1))))/\
  Hc s4 b1 34 cs/\cs.length=F.length*3/\rows.length=i/\(∀r∈rows,r.length=3)/\cs.take (i*3)=rows.flatten/\
  ∀(j:Nat) (r:Rec),j<i->(allR F)[j]?=some r->∃lv,rows[j]?=some [Ii r.1,Ii r.2.1,lv]/\Sli s4 lv r.2.2/\∀b o n c,lv=.slc b o n c 1->r.2.2≠[]->b≠b1/\s b=none/\∃e cs,Hc s4 b e cs,
  ⟨_,0,_,[],rfl,oM,rfl,sub03,acc3',sub13 _ _ h1,FI rfl,rfl,sI,sI,λj r h=>oM⟩,?_⟩
 rintro f s4 k ⟨i,cs,rows,hy,hi,rfl,sub4,acc4,h4,hcs,hrl,hr3,htk,hrows⟩;simp only[cI,and_true]at hy;rw[hy.1,hy.2];have z4:=z.sub sub4;simp only[Mq,aH,ae,aA];refine au (λhlt=>?_) (λhge=>?_)
 ·have hlt:i<F.length:=gR
  have hik:i<(cB (F.map (·.1))).length:=by rw[ks];exact hlt
  have ⟨p,g1,g2⟩:=acc4.sl.get (i:=i) gR;have e1:(izs (cB (F.map (·.1))))[i]?=some (Ii (cB (F.map (·.1)))[i]):=by simp[hik]
  rw[e1]at g2;have ⟨l4,hm4,hp4⟩:=z4.mp;have ⟨o,ho⟩:=hin _ (getElem_mem hik);have hall:(allR F)[i]?=some o:=aa i _ o (gE hik) ho;rcases hp4.look (cB (F.map (·.1)))[i]with⟨_,h6⟩|⟨a,o2,h5,h6,lo,rfl,hlo,_⟩
  ·rw[h6]at ho;cases ho
  ·rw[ho]at h6;cases h6
   have hol:=(z.gd _ _ ho).2.2;simp only[g1,g2,aO,ao,zAY,aj z4.dc,p3,hm4.get,h5,retM,cond_false,ae];refine FO hlo oM λlv' s5 sub5 sl5 fr5=>?_;have h5b:=sub5 _ _ h4;refine am (FH rfl) ⟨by show aD [AV.int .i64 o.1,o.2.1,lv']=true;rw[bP,bP,bP,sl5.one];rfl,an λb6 s6 hb6 h6 u6=>?_⟩;have sub6:=u6.sub hb6;have lit:SlR 3 s6 (.slc b6 0 1 (some 1) 3) [[o.1,o.2.1,lv']]:=SlR.mk (rows:=[[o.1,o.2.1,lv']]) (by intro r hr;rw[mem_singleton]at hr;subst hr;rfl) (by simpa using h6) rfl sI;have hb1s:=hb1;refine FF (sub6 _ _ h5b) lit hlt hcs rfl (by rw[bP,bP,bP,sl5.one];rfl) λs7 h7 u7=>?_;have sub46:=sub5.trans sub6;have sub7:=(sub4.trans sub46).upto u7 hb1s;have hle:i*3+3<=cs.length:=by rw[hcs];omega
   simp only[aJ,ae];rw[aC];refine⟨F.length-(i+1),oM,i+1,_,rows ++ [[Ii o.1,Ii o.2.1,lv']],rfl,oM,rfl,sub7,?_,h7,?_,by rw[lAp,hrl];rfl,λr hr=>?_,?_,λj r hj hr=>?_⟩;rcases acc4 with h|⟨b,h0,a,h2⟩;exact .inl h;refine .inr ⟨b,h0,a,?_⟩;rw[u7 b gR];exact sub46 _ _ h2;rw[Zi oM];exact hcs;rw[mem_append,mem_singleton]at hr;rcases hr with hr|rfl;exact hr3 r hr;rfl;have:=Zh (cs:=cs) (row:=[o.1,o.2.1,lv']) (o:=i*3) oM;rw[show(i+1)*3=i*3+[AV.int .i64 o.1,o.2.1,lv'].length by show(i+1)*3=i*3+3;omega,this,htk,flatten_append];simp
   ·by_cases e:j=i
    ·subst e
     rw[hall]at hr;cases hr;refine⟨lv',by rw[getElem?_append_right oM,hrl,Nat.sub_self];rfl,?_,λb o1 n1 c1 e hne=>?_⟩;refine(sl5.sub sub6).keep (fp:=λi=>i=b1) (u7.keep rfl) λb o1 n1 c1 e hne hb=>?_;have:=(fr5 b o1 n1 c1 e (by simpa using hne)).1
     grind
     ·have ⟨this,e0,cs0,h0⟩:=fr5 b o1 n1 c1 e hne
      have hb1b:b≠b1:=gR;refine⟨hb1b,?_,e0,cs0,by rw[u7 b hb1b];exact sub6 _ _ h0⟩;cases q:s b with
      |none=>rfl
      |some x=>rw[sub4 b x q]at this;cases this
    have ⟨lv,x1,x2,x3⟩:=hrows j r oM hr;exact⟨lv,by rw[getElem?_append_left oM];exact x1,(x2.sub sub46).keep (fp:=λi=>i=b1) (u7.keep rfl) λb o1 n1 c1 e hne=>(x3 b o1 n1 c1 e (by simpa using hne)).1,λb o1 n1 c1 e hne=>by have ⟨y1,y2,e0,cs0,h0⟩:=x3 b o1 n1 c1 e hne;exact⟨y1,y2,e0,cs0,by rw[u7 b y1];exact sub46 _ _ h0⟩⟩
 ·have hge:i=F.length:=gR
  subst hge;rw[take_of_length_le oM]at htk;have al2:(allR F).length=F.length:=al.trans ks;refine hK _ s4 sub4 ⟨rows,?_,by rw[hrl,al2],λb o n c e _=>?_,λj r hr=>?_⟩
  ·refine SlR.mk hr3 (by rw[<- htk];exact h4) hrl.symm λc e=>by cases e;omega
  grind
  have hj:j<F.length:=by
   grind
  have ⟨lv,x1,x2,x3⟩:=hrows j r hj hr;exact⟨lv,x1,x2,λb o n c e hne=>⟨(x3 b o n c e hne).2.1,(x3 b o n c e hne).2.2,gR⟩⟩
variable{w:AV}
theorem _root_.Go.AM.Sl.was{l:List AV}(h:Sl s v l):∀b o n c,v=.slc b o n c 1->l≠[]->s b≠none:=λb o n c e hne=>by
 rcases h with⟨_,hn⟩|⟨b',o',c',a1,_,a3⟩;exact absurd hn hne
 grind
theorem Db.more(z:Db Fz s d m nodes node last F):Db (λb=>Fz b∨s b=none) s d m nodes node last F:=by
 obtain⟨l,⟨es,c,h1,h2⟩,h3⟩:=z.mp;refine⟨z.dc,⟨l,⟨es,c,h1,h2⟩,h3.mono λa b ⟨lv,e,h4,h5⟩=>⟨lv,e,h4,λb' o n c e' hne=>⟨?_,(h5 b' o n c e' hne).2⟩⟩⟩,?_,?_,z.nn,z.gd⟩;rintro (h|h)
 grind
 exact h4.was b' o n c e' (by simpa using hne) h
 ·rintro (h|h)
  exact z.fd h
  ·rw[z.dc]at h;cases h
 grind [fm]
def gotR(F:List (Int×Rec))(n:Int):Rec:=(look F n).getD (0,0,[])
theorem w9{x y:Int}(hK:K (decide (x<y)) s):wC TP 107 [x,y] K s:=by
 refine Ut (Et ?_)
 grind [ay,BX,aS,bG,aH,BW]
theorem FT{x:Int}(hK:K false s):wC TP 108 [x] K s:=by
 grind [Uu,MM,aR,aG,bG]
theorem cv_u{x:Nat}(h:x<1000000000):cw .u64 x=some (Iq x):=by
 show some (AV.int .u64 (bV .u64 (x:Int)))=_;rw[dH]
 congr 2
 simp only[IntKind.wrap,IntKind.signed,IntKind.bits];simp;omega
theorem cv_i{x:Nat}(h:x<1000000000):cw .i64 (Iq x)=some (Ii x):=by
 show some (AV.int .i64 (bV .i64 (x:Int)))=_
 grind [dH,aC]
theorem shr1{x:Nat}:dh .shr (Iq x) (Iq 1)=some (Iq ((x / 2:Nat))):=by
 show frc ((x:Int).fdiv ((2^(min 1 (IntKind.bits .u64)):Nat):Int)) (λn=>some (AV.int .u64 n))=_;rw[cD]
 congr 2
 show(x:Int).fdiv ((2:Nat):Int)=_
 grind
theorem FU{l:List Int}{x:Int}(h:Sli s v l)(hl:l.length<=1000000)(ha:l.Pairwise (· < ·))(hK:∀r,K (.tup [r,(decide (x∈l))]) s):wC TP 56 [v,x] K s:=by
 refine Uq ?_;have lt:∀{i j:Nat}(hi:i<l.length) (hj:j<l.length),i<j->l[i]<l[j]:=λhi hj hij=>pairwise_iff_getElem.1 ha _ _ hi hj hij;simp only[MK,h.len,lMY,ae,aK];refine⟨λys t k=>∃i j:Nat,ys=[Ii i,Ii j]/\t=s/\i<=j/\j<=l.length/\k=j-i/\(∀a (ha:a<l.length),a<i->l[a]<x)/\∀a (ha:a<l.length),j<=a->x<=l[a],⟨_,0,l.length,rfl,rfl,oM,oM,rfl,λa _ h=>oM,λa h1 h2=>oM⟩,?_⟩;rintro en t k ⟨i,j,hy,rfl,hij,hj,rfl,lo,hi⟩;simp only[cI,and_true]at hy;rw[hy.1,hy.2];simp only[MJ,aH,ae,aA];refine au (λhlt=>?_) (λhge=>?_);have hlt:i<j:=by have:=oT hlt;omega
 simp only[aJ,ae];rw[aC,show(i:Int)+(j:Int)=((i+j:Nat):Int)from by omega,cv_u oM];simp only[ae,shr1];rw[cv_i oM];have hm:(i+j) / 2<l.length:=oM;have ⟨p,e1,e2⟩:=dK h hm;simp only[ae,e1,e2];refine w9 ?_;refine au (λq=>?_) (λq=>?_);have q:=oT q;simp only[aJ,ae];rw[aC];refine⟨_,oM,(i+j) / 2+1,j,rfl,(by trivial),oM,hj,rfl,λa ha h=>?_,hi⟩
 by_cases e:a=(i+j) / 2
 subst e;exact q
 grind
 have q:=oF q;refine⟨_,oM,i,(i+j) / 2,rfl,(by trivial),oM,oM,rfl,lo,λa ha h=>?_⟩
 by_cases e:a=(i+j) / 2
 subst e;omega
 grind
 have hge:i=j:=gR;subst hge;refine au (λhlt=>?_) (λhge=>?_);have hlt2:i<l.length:=gR;have ⟨p,e1,e2⟩:=dK h hlt2;simp only[e1,e2,ae,aR,aG,Bool.false_bne];refine au (λq=>?_) (λq=>?_)
 grind [aU,bG]
 have q':l[i]≠x:=by simpa using q
 refine FT ?_;rw[hlt,q];have hn:x ∉ l:=λhx=>by obtain⟨a,ha,rfl⟩:=mem_iff_getElem.1 hx;rcases Nat.lt_trichotomy a i with h|h|h;have:=lo a ha h;omega;subst h;exact q' rfl;have h1:=hi i hlt2 oM;have h2:=lt hlt2 ha h;omega
 have:=hK i
 rwa [decide_eq_false hn]at this
 rw[hge];simp only[aS,ae];have hn:x ∉ l:=λhx=>by
  obtain⟨a,ha,rfl⟩:=mem_iff_getElem.1 hx
  grind
 grind
theorem FV{l k:List Int}(h:Sli s v l)(h':Sli s w k)(hl:l.length<=10000000)(hK:K (l == k) s):wC TP 112 [v,w] K s:=by
 refine Uj ?_;simp only[MG,h.len,h'.len,ae,aR,aG,lMY,Bool.true_bne,aK];refine au (λhne=>?_) (λheq=>?_);have:(l == k)=false:=by
  grind
 rw[<- this];exact hK;have hlm:l.length=k.length:=by
  grind
 refine⟨λys s1 n=>∃i:Nat,ys=[Ii i]/\s1=s/\i<=l.length/\n=l.length-i/\(l == k)=(l.drop i == k.drop i),⟨_,0,rfl,rfl,oM,rfl,sI⟩,?_⟩;rintro f s1 n ⟨i,hy,rfl,hi,rfl,he⟩;simp only[cI,and_true]at hy;rw[hy];simp only[MF,ae,aH,aA];refine au (λhlt=>?_) (λhge=>?_);have hlt:i<l.length:=by simpa using hlt
 have ⟨p,g1,g2⟩:=dK h hlt;have ⟨p',g3,g4⟩:=dK h' (k:=i) oM;rw[drop_eq_getElem_cons hlt,drop_eq_getElem_cons (show i<k.length by omega),cons_beq_cons]at he;simp only[g1,g2,g3,g4,ae,aR,aG,Bool.true_bne];rcases hq:(l[i] == k[i])with _|_
 simp_all
 rw[hq,Bool.true_and]at he;simp only[Bool.not_true,ay,aJ,ae];rw[aC];exact⟨_,oM,i+1,sI,by trivial,oM,rfl,he⟩
 grind
def lsB(F:List (Int×Rec))(n k:Int):Bool:=decide (k∈(gotR F n).2.2)
def AscF(F:List (Int×Rec)):Prop:=∀k r,look F k=some r->r.2.2.Pairwise (· < ·)
theorem Pm{k:Int}(z:Db Fz s d m nodes node last F)(ha:AscF F)(hK:K (lsB F n k) s):wC TP 119 [Pp d,n,k] K s:=by refine Uf ?_;unfold ME;have p3:[AV.int .i64 nodes,node,last,.map m][3]?=some (.map m):=rfl;have ⟨l,hm,hp⟩:=z.mp;unfold lsB gotR at hK;rcases hp.look n with⟨h3,h4⟩|⟨a,o,h3,h4,lo,rfl,hlo,_⟩;simp only[aO,ao,zAY,aj z.dc,p3,hm.get,h3,retM,cond_false,ae];rw[h4]at hK;refine am (a:=.nilslc) rfl (FU (l:=[]) (.inl ⟨rfl,rfl⟩) sI List.Pairwise.nil λr=>?_);exact am (a:=r) rfl (am (a:=_) rfl hK);simp only[aO,ao,zAY,aj z.dc,p3,hm.get,h3,retM,cond_false,ae];rw[h4]at hK;have hol:=(z.gd _ _ h4).2.2;refine am (a:=lo) rfl (FU hlo oM (ha _ _ h4) λr=>?_);exact am (a:=r) rfl (am (a:=_) rfl hK)
abbrev Lnk:=Int×Int×Int
def lnR(x:Lnk):List AV:=[x.1,x.2.1,x.2.2]
def dA(f:Int->Int->Bool)(links:List Lnk):List Bool:=if 128<links.length then[]else(List.range links.length).map λ(i:Nat)=>f ((links[i]?.getD (0,0,0)).1) (i:Int)&&f ((links[i]?.getD (0,0,0)).2.1) (i:Int)
theorem qH{links:List Lnk}(z:Db Fz s d m nodes node last F)(ha:AscF F)(hv:SlR 3 s v (links.map lnR))(hlen:links.length<=1000000)(hK:∀v' s',Sub s s'->Sl s' v' ((dA (lsB F) links).map AV.bool)->(∀b o n c,v'=.slc b o n c 1->s b=none)->K v' s'):wC TP 69 [Pp d,v] K s:=by
 refine TL (xg z ?_);have lenv:bp v=some links.length:=by rw[hv.len,lMY]
 simp only[bD,Bool.not_true,ay,lenv,bW,ae,BT,aS,aK];refine au (λq=>?_) (λq=>?_)
 ·have q:=oT q
  refine hK _ s (.refl _) ?_ (λ_ _ _ _ e=>by cases e);unfold dA;rw[if_pos oM];exact .inl ⟨rfl,rfl⟩
 have q:=oF q;have n1:nat? links.length=some links.length:=nat?_mk;refine⟨⟨Nat.le_refl _,oM⟩,an λb8 s9 hb8 h9 u9=>?_⟩;have k9:=u9.sub hb8
 let g:Nat->Bool:=λi=>lsB F ((links[i]?.getD (0,0,0)).1) (i:Int)&&lsB F ((links[i]?.getD (0,0,0)).2.1) (i:Int)
 have rl:∀k:Nat,(repl k [AV.bool false]).length=k:=λk=>by
  induction k with
  |zero=>rfl
  |succ k ih=>simp_all [repl]
 refine⟨λys t k=>∃(i:Nat) (cs:List AV),ys=[Ii i]/\i<=links.length/\k=links.length-i/\Sub s t/\Hc t b8 4 cs/\cs.length=links.length/\∀j,j<i->cs[j]?=some (g j),⟨_,0,_,rfl,oM,rfl,k9,h9,rl _,λj h=>oM⟩,?_⟩;rintro en t k ⟨i,cs,hy,hi,rfl,kt,hb,hcs,hdone⟩;simp only[cI,and_true]at hy;rw[hy];simp only[Mr,aH,ae];refine au (λhlt=>?_) (λhge=>?_);have hlt:i<links.length:=gR;have hx:=gE hlt;have ⟨pb,po,e1,e2,_⟩:=(hv.sub kt).get (i:=i) (r:=lnR links[i]) gR;simp only[e1,e2,ae];refine an λb15 s16 hb15 h16 u16=>aZ h16 rfl rfl rfl λs17 h17 u17=>?_;have k17:=(u16.sub hb15).upto u17 hb15;have z17:=z.sub (kt.trans k17);have y0:(lnR links[i])[0]?=some (Ii links[i].1):=rfl;have y1:(lnR links[i])[1]?=some (Ii links[i].2.1):=rfl;have ia:ba 1 (.slc b8 0 links.length (some links.length) 1) i=some (.ptr b8 i):=by
  have:blt i links.length=true:=by simp_all
  simp[ba,this]
 have gi:g i=(lsB F links[i].1 (i:Int)&&lsB F links[i].2.1 (i:Int)):=by show(lsB F ((links[i]?.getD (0,0,0)).1) (i:Int)&&lsB F ((links[i]?.getD (0,0,0)).2.1) (i:Int))=_;rw[hx];rfl
 have fin:∀b,g i=b->oK (wr1 s17 (.ptr b8 i) b) λs_24=>oK (bO .add i (Ii 1)) λv_25=>∃m',m'<links.length-i/\∃(i:Nat) (cs:List AV),[v_25]=[AV.int .i64 (i:Int)]/\i<=links.length/\m'=links.length-i/\Sub s s_24/\Hc s_24 b8 4 cs/\cs.length=links.length/\∀j,j<i->cs[j]?=some (g j):=λb hg=>by
  refine aT (k17 _ _ hb) oM rfl λs24 h24 u24=>?_;simp only[aJ,ae];rw[aC];refine⟨_,oM,i+1,_,rfl,oM,rfl,(kt.trans k17).upto u24 hb8,h24,gR,λj hj=>?_⟩
  by_cases e:j=i
  grind
  grind
 simp only[ao,zAY,ae,aj h17,y0];refine Pm z17 ha ?_;rcases q1:lsB F links[i].1 (i:Int)with _|_;simp only[ay,vq,aS,ae,ia,aA];exact fin false (by rw[gi,q1];rfl);simp only[aF,ae,aj h17,y1];refine Pm z17 ha ?_;simp only[vq,aU,ae,ia,aA];exact fin _ (by rw[gi,q1,Bool.true_and]);have hge:i=links.length:=gR;subst hge;have hv:(dA (lsB F) links)=(List.range links.length).map g:=by unfold dA;rw[if_neg oM]
 refine hK _ t kt ?_ (gR);rw[hv];have hc:cs=((List.range links.length).map g).map AV.bool:=by
  apply ext_getElem?
  grind
 grind [Sl.mk]
structure OwnG where
 r:Rec
 nw:Bool
 err:Int
 last:Int
 F:List (Int×Rec)
def ownN(node last:Int)(F:List (Int×Rec))(L:List Int):OwnG:=if 1073741824<=last then⟨(0,0,[]),false,7,last,F⟩else⟨(node,last+1,L),true,0,last+1,stor F node (node,last+1,L)⟩
def ownR(node last:Int)(F:List (Int×Rec))(L:List Int):OwnG:=
 if chkL none L≠0 then⟨(0,0,[]),false,chkL none L,last,F⟩else
 match look F node with
 |some o=>if o.2.2=L then⟨o,false,0,last,F⟩else ownN node last F L
 |none=>ownN node last F L
def inL(v:AV)(l:List Int)(b:Nat):Prop:=l≠[]/\∃o n c,v=.slc b o n c 1
theorem xv{Fy:Nat->Prop}{b0:Nat}{r:Rec}{lv w4:AV}{s4:Hq}{old:List AV}(z:Db Fy s d m nodes node last F)(hb0:Fy b0)(h0:Hc s b0 34 old)(ho:old.length=3)(hw:w4=recV r.1 r.2.1 lv)(k4:Sub s s4)(sl:Sli s4 lv r.2.2)(fr:Fre s s4 lv r.2.2){R:AV->Hq->Prop}
  (hK:∀s5,aB (λi=>i=b0) s s5->Db (λb=>Fy b∨inL lv r.2.2 b) s5 d m nodes node last F->Sli s5 lv r.2.2->Fre s s5 lv r.2.2->R (.agg [r.1,r.2.1,lv]) s5):oK (cn s4 3 (Pp b0) w4) λs_30=>oK (rdN s_30 3 (Pp b0)) λt4=>R (.agg t4) s_30:=by
 subst hw;have h4:=k4 _ _ h0;have far:∀b o n c,lv=.slc b o n c 1->r.2.2≠[]->b≠b0:=λb o n c e hne=>by
  have:=(fr b o n c e hne).1
  grind
 refine aZ h4 (by rw[ho];rfl) ho (by rw[bP,bP,bP,sl.one];rfl) λs5 h5 u5=>?_;have h5:Hc s5 b0 34 [r.1,r.2.1,lv]:=h5;refine am (aQ (n:=3) h5 rfl) (hK s5 ?_ ?_ ?_ ?_);exact λi e hi hn=>by rw[u5 i hn];exact k4 i e hi
 have z4:=(z.more.sub k4).keep (u5.keep (fp:=λi=>i=b0) rfl) ((by simp_all));exact z4.weak λb hb=>by rcases hb with hb|⟨hne,o,n,c,e⟩;exact .inl hb;exact .inr (fr b o n c e hne).1
 exact sl.keep (fp:=λi=>i=b0) (u5.keep rfl) gR;exact λb o n c e hne=>by have ⟨g1,e0,cs0,g2⟩:=fr b o n c e hne;exact⟨g1,e0,cs0,by rw[u5 b (far b o n c e hne)];exact g2⟩
theorem qI{s1:Hq}:Fre s s1 v []:=λ_ _ _ _ _ h=>absurd rfl h
theorem FW{s1:Hq}(h:Fre s1 s' v L)(k:∀b,s1 b=none->s b=none):Fre s s' v L:=λb o n c e hne=>⟨k b (h b o n c e hne).1,(h b o n c e hne).2⟩
theorem FX(z:Db Fz s d m nodes node last F)(hF:∀b,Fz b->s b≠none)(h:Sli s v L)(hl:L.length<=100000)(h0:0<=last)
  (hK:∀s' lv,aB (λi=>i=d∨i=m) s s'->Db (λb=>Fz b∨inL lv (ownR node last F L).r.2.2 b) s' d m nodes node (ownR node last F L).last (ownR node last F L).F->Sli s' lv (ownR node last F L).r.2.2->Fre s s' lv (ownR node last F L).r.2.2->K (.tup [recV (ownR node last F L).r.1 (ownR node last F L).r.2.1 lv,(ownR node last F L).nw,(ownR node last F L).err]) s'):wC TP 58 [Pp d,v] K s:=by
 have hdm:=z.dm;refine TX (an λb0 s1 hb0 h1 u1=>?_);have sub1:=u1.sub hb0;have nd:s d≠none:=by rw[z.dc];simp
 have nm:s m≠none:=by have ⟨l,⟨es,c,e,_⟩,_⟩:=z.mp;rw[e];simp
 have d0:b0≠d:=by rintro rfl;exact nd hb0
 have m0:b0≠m:=by rintro rfl;exact nm hb0
 have z1:Db (λb=>Fz b∨b=b0) s1 d m nodes node last F:=(z.more.sub sub1).weak λb hb=>by
  grind
 have hF1:∀{t:Hq},Sub s1 t->∀b,(Fz b∨b=b0)->t b≠none:=fun {t} k b hb=>by
  rcases hb with hb|rfl
  ·cases e:s b with
   |none=>exact absurd e (hF b hb)
   |some x=>rw[k _ _ (sub1 b x e)];simp
  ·rw[k _ _ h1];simp
 have back:∀{t:Hq},aB (λi=>i=d∨i=m) s1 t->t d≠none->t m≠none->∀b,t b=none->s b=none:=fun {t} k hd hm b hb=>by
  cases q:s b with
  |none=>rfl
  | some x=>
    by_cases hf:b=d∨b=m
    ·grind
    ·rw[k b x (sub1 b x q) hf]at hb;cases hb
 refine xg z1 ?_;simp only[bD,Bool.not_true,ay,ae];refine O2 (h.sub sub1) oM ?_;simp only[aR,aG,Bool.true_bne,ae];have fin:∀{g:OwnG}{t t5:Hq}{lv:AV},ownR node last F L=g->aB (λi=>i=d∨i=m) s1 t->t d≠none->t m≠none->aB (λi=>i=b0) t t5->Db (λb=>(Fz b∨b=b0)∨inL lv g.r.2.2 b) t5 d m nodes node g.last g.F->Sli t5 lv g.r.2.2->Fre t t5 lv g.r.2.2->K (.tup [.agg [g.r.1,g.r.2.1,lv],g.nw,g.err]) t5:=fun {g t t5 lv} hg k hd hm k5 z5 sl fr=>by
  rw[hg]at hK;refine hK t5 lv ?_ (z5.weak λb hb=>?_) sl (FW fr (back k hd hm))
  ·intro i e hi hn
   have hib:i≠b0:=gR;exact k5 i e (k i e (sub1 i e hi) hn) hib
  grind
 have d1:s1 d≠none:=by rw[z1.dc];simp
 have m1:s1 m≠none:=by have ⟨l,⟨es,c,e,_⟩,_⟩:=z1.mp;rw[e];simp
 cases a0:(chkL none L == 0)with
 | false=>
   have a0:chkL none L≠0:=by simpa using a0
   simp only[Bool.not_false,aF];refine am (a:=[Ii 0,Ii 0,.nilslc]) rfl ?_;refine xv (r:=(0,0,[])) (lv:=.nilslc) (R:=λx t=>K (.tup [x,false,(chkL none L:Int)]) t) z1 (.inr rfl) h1 rfl rfl (.refl _) (.inl ⟨rfl,rfl⟩) qI λs5 k5 z5 sl5 fr5=>?_;have hg:ownR node last F L=⟨(0,0,[]),false,chkL none L,last,F⟩:=by grind [ownR]
   exact fin hg (λi e hi _=>hi) d1 m1 k5 z5 sl5 fr5
 |true=>
 have a0:chkL none L=0:=eq_of_beq a0;have hown:ownR node last F L=match look F node with
   |some o=>if o.2.2=L then⟨o,false,0,last,F⟩else ownN node last F L
   |none=>ownN node last F L:=by grind [ownR]
 have p1:[AV.int .i64 nodes,node,last,.map m][1]?=some (Ii node):=rfl;have p2:[AV.int .i64 nodes,node,last,.map m][2]?=some (Ii last):=rfl;have p3:[AV.int .i64 nodes,node,last,.map m][3]?=some (.map m):=rfl;have ⟨l,hm,hp⟩:=z1.mp;simp only[Bool.not_true,ay,aO,ao,zAY,aj z1.dc,p1,p3,hm.get,ae];have mk:∀{t:Hq}{b23:Nat},Sub s1 t->ownR node last F L=ownN node last F L->oK (cJ (Pp d)) λv_32=>
  oK (cO 2 v_32) λv_33=>
  oK (rd1 t v_33) λv_34=>
  oK (bO .geq v_34 (Ii 1073741824)) λv_35=>
  ai v_35
   (oK (aq [(Ii 0),(Ii 0),.nilslc] []) λc_36=>
    oK (cn t 3 (Pp b0) (.agg c_36)) λs_37=>
    oK (rdN s_37 3 (Pp b0)) λt4_38=>
    K (.tup [(.agg t4_38),false,(Ii 7)]) s_37)
   (oK (cJ (Pp d)) λv_39=>
    oK (cO 2 v_39) λv_40=>
    oK (rd1 t v_40) λv_41=>
    oK (bO .add v_41 (Ii 1)) λv_42=>
    wC TP 113 [Pp d,v,v_42] (λv_43 s_44=>
    wC TP 102 [v_43] (λv_45 s_46=>
    oK (cn s_46 3 (Pp b0) v_45) λs_47=>
    oK (rdN s_47 3 (Pp b0)) λt4_48=>
    K (.tup [(.agg t4_48),true,(Ii 0)]) s_47) s_44) t):=fun {t b23} k he=>by
  have zt:=z1.sub k;have ht0:=k _ _ h1;simp only[aO,ao,zAY,aj zt.dc,p2,ae,ci];refine au (λq=>?_) (λq=>?_)
  ·have q:=oT q
   refine am (a:=[Ii 0,Ii 0,.nilslc]) rfl ?_;refine xv (r:=(0,0,[])) (lv:=.nilslc) (R:=λx t=>K (.tup [x,false,Ii 7]) t) zt (.inr rfl) ht0 rfl rfl (.refl _) (.inl ⟨rfl,rfl⟩) qI λs5 k5 z5 sl5 fr5=>?_;have hg:ownR node last F L=⟨(0,0,[]),false,7,last,F⟩:=by grind [ownN]
   refine fin hg (λi e hi _=>k i e hi) ?_ ?_ k5 z5 sl5 fr5
   ·rw[zt.dc];simp
   ·have ⟨l,⟨es,c,e,_⟩,_⟩:=zt.mp;rw[e];simp
  ·have q:=oF q
   simp only[aJ,ae];rw[aC];have hg:ownR node last F L=⟨(node,last+1,L),true,0,last+1,stor F node (node,last+1,L)⟩:=by grind [ownN]
   refine qE zt (hF1 k) ((h.sub sub1).sub k) hl λv43 s44 k44 z44 sl44=>?_;have hb44:Hc s44 b0 34 [Ii 0,Ii 0,.nilslc]:=k44 _ _ ht0 gR;refine FO sl44 oM λlv s46 k46 sl46 fr46=>?_;refine xv (r:=(node,last+1,L)) (R:=λx t=>K (.tup [x,true,Ii 0]) t) z44 (.inr rfl) hb44 rfl rfl k46 sl46 fr46 λs5 k5 z5 sl5 fr5=>?_;refine fin hg (λi e hi hn=>k44 i e (k i e hi) hn) ?_ ?_ k5 z5 sl5 fr5
   ·rw[z44.dc];simp
   ·have ⟨l,⟨es,c,e,_⟩,_⟩:=z44.mp;rw[e];simp
 rcases hp.look node with⟨h3,h4⟩|⟨a,o,h3,h4,lo,rfl,hlo,_⟩
 ·simp only[h3,retM,cond_true,ext0,ext1,ae]
  refine an λb23 t hb23 h24 u24=>?_;refine aZ h24 rfl rfl rfl λs25 h25 u25=>?_;have k25:Sub s1 s25:=(u24.sub hb23).upto u25 hb23;simp only[ay,vt,aS,ae];exact mk (b23:=b23) k25 (by rw[hown,h4])
 ·simp only[h3,retM,cond_true,ext0,ext1,ae]
  refine an λb23 t hb23 h24 u24=>?_;refine aZ h24 rfl rfl (by rw[bP,bP,bP,hlo.one];rfl) λs25 h25 u25=>?_;have h25:Hc s25 b23 34 [o.1,o.2.1,lo]:=h25;have k25:Sub s1 s25:=(u24.sub hb23).upto u25 hb23;have q2:[AV.int .i64 o.1,o.2.1,lo][2]?=some lo:=rfl;have hol:=(z1.gd _ _ h4).2.2;simp only[aF,aj h25,q2,ae];refine FV (hlo.sub k25) ((h.sub sub1).sub k25) oM ?_;simp only[vt,aU,ae];cases e:(o.2.2 == L)with
  | true=>
    have e:o.2.2=L:=eq_of_beq e;simp only[aF,aQ (n:=3) h25 rfl,ae];refine FO (hlo.sub k25) oM λlv s29 k29 sl29 fr29=>?_;have hg:ownR node last F L=⟨o,false,0,last,F⟩:=gR;have z25:=z1.sub k25;refine xv (r:=o) (R:=λx t=>K (.tup [x,false,Ii 0]) t) z25 (.inr rfl) (k25 _ _ h1) rfl rfl k29 sl29 fr29 λs5 k5 z5 sl5 fr5=>?_;refine fin hg (λi e hi _=>k25 i e hi) ?_ ?_ k5 z5 sl5 fr5
    ·rw[z25.dc];simp
    ·have ⟨l,⟨es,c,e,_⟩,_⟩:=z25.mp;rw[e];simp
  | false=>
    have e:o.2.2≠L:=by simpa using e
    simp only[ay];exact mk (b23:=b23) k25 gR
end Go.AM.LS
namespace Go.AM.DT
open Go Go.Proofs List Nat
set_option maxRecDepth 100000
structure Wt where
 m:Int
 up:Bool
 last:Option Int
 heard:Option Int
 since:Int
 changes:Int
def opI(s:Hq)(v:AV):Option Int->Prop
 |none=>v=.nilptr
 |some n=>∃b t e,v=Pp b/\s b=some (t,.cells e [n])
def bi(b:Bool):Int:=cond b 1 0
def WtAt(s:Hq)(w:Nat)(t:Bool)(x:Wt):Prop:=∃e L D,s w=some (t,.cells e [x.m,(bi x.up:Int),L,D,x.since,x.changes])/\opI s L x.last/\opI s D x.heard
theorem opI.keep{fp:Nat->Prop}{s s':Hq}{v:AV}{o:Option Int}(h:opI s v o)(hk:aB fp s s')(hn:∀b t e n,s b=some (t,.cells e [Ii n])->¬fp b):opI s' v o:=by
 cases o with
 |none=>exact h
 |some n=>obtain⟨b,t,e,rfl,hb⟩:=h;exact⟨b,t,e,rfl,hk b _ hb (hn b t e n hb)⟩
theorem opI.sub{s s':Hq}{v:AV}{o:Option Int}(h:opI s v o)(hk:Sub s s'):opI s' v o:=by
 cases o with
 |none=>exact h
 |some n=>obtain⟨b,t,e,rfl,hb⟩:=h;exact⟨b,t,e,rfl,hk b _ hb⟩
theorem opI.upto{s s':Hq}{v:AV}{o:Option Int}{c:Nat}{t:Bool}{e:TypeId}{l:List AV}(h:opI s v o)(hc:s c=some (t,.cells e l))(hl:l.length≠1)(hu:Upto c s s'):opI s' v o:=by
 cases o with
 |none=>exact h
 | some n=>
   obtain⟨b,tb,eb,rfl,hb⟩:=h;refine⟨b,tb,eb,rfl,?_⟩;rw[hu b λq=>gR];exact hb
theorem WtAt.sub{s s':Hq}{w:Nat}{t:Bool}{x:Wt}(h:WtAt s w t x)(hs:Sub s s'):WtAt s' w t x:=by have ⟨e,L,D,h1,h2,h3⟩:=h;exact⟨e,L,D,hs _ _ h1,h2.sub hs,h3.sub hs⟩
theorem WtAt.keep{s s':Hq}{w w':Nat}{t t':Bool}{x y:Wt}(h:WtAt s w t x)(h':WtAt s w' t' y)(hk:aB (·=w') s s')(hn:w≠w'):WtAt s' w t x:=by
 have ⟨e,L,D,h1,h2,h3⟩:=h;have ⟨e',L',D',h1',_,_⟩:=h';have key:∀b t e n,s b=some (t,.cells e [Ii n])->¬b=w':=by
  grind
 exact⟨e,L,D,hk _ _ h1 hn,h2.keep hk key,h3.keep hk key⟩
variable{K:AV→Hq→Prop}{s:Hq}{w:Nat}{t:Bool}{x:Wt}
theorem cP(h:WtAt s w t x)(hm:0<x.m)(hK:K true s):wC TP 97 [Pp w] K s:=by have ⟨e,L,D,h,_,_⟩:=h;refine Ts ?_;simp[Mm,BL,aj h,hm,hK,ae]
theorem FY{a b:Int}(h1:0<=a)(h2:a<=1099511627776)(h3:0<=b)(h4:b<=1099511627776)(hK:K (b+a:Int) s):wC TP 143 [a,b] K s:=by
 grind [Tw,Mo,aJ,bG,aC]
theorem FZ{b:Bool}(hK:K (bi !b:Int) s):wC TP 110 [(bi b:Int)] K s:=by refine Tv ?_;simp[Mn,ae];cases b<;>exact hK
theorem New_in{m:Int}(hK:∀w s',Sub s s'->s w=none->WtAt s' w false ⟨m,false,none,none,0,0⟩->1<=m->m<=1000->K (.tup [Pp w,Ii 0]) s')(hE:¬(1<=m/\m<=1000)->K (.tup [.nilptr,Ii 2]) s):wC TP 67 [m] K s:=by
 refine Tj ?_;simp only[Mk,aH,ae,bW];refine au (λh=>?_) (λh=>?_)
 grind [vk,aU,bG,aF]
 simp only[decide_eq_false_iff_not]at h;simp only[vk,h,decide_false,aS,ae];refine au (λh2=>hE ?_) (λh2=>?_)
 grind
 simp only[decide_eq_false_iff_not]at h2;refine am (a:=[m,Ii 0,.nilptr,.nilptr,Ii 0,Ii 0]) rfl ⟨rfl,λb hb=>?_⟩;exact hK b _ (gy hb) hb ⟨211,.nilptr,.nilptr,cK,rfl,rfl⟩ oM oM
theorem Up_in(h:WtAt s w t x)(hm:0<x.m)(hK:K x.up s):wC TP 45 [Pp w] K s:=by
 refine Tr ?_;refine cP h hm ?_;have ⟨e,L,D,h,_,_⟩:=h;simp[BK,aj h,ae];have:(bi x.up == 1)=x.up:=by cases x.up<;>rfl
 rw[this];exact hK
def Wt.ok(x:Wt):Prop:=1<=x.m/\x.m<=1000/\(∀n,x.heard=some n->0<=n/\n<=1099511627776)
def cY(x:Wt)(now:Int)(heard:Bool):Bool:=match x.up with
 |true=>!heard&&(match x.heard with|some n=>decide (n+x.m<=now)|none=>false)
 |false=>heard&&(match x.heard with|some n=>n == now-1|none=>false)
def fF(x:Wt)(now:Int)(heard:Bool):Wt:=
 { m:=x.m,up:=x.up != cY x now heard,last:=some now,heard:=if heard then some now else x.heard,since:=if cY x now heard then now else x.since,changes:=if cY x now heard then x.changes+1 else x.changes }
def fG(x:Wt)(now:Int):Option Int:=if now<0∨1099511627776<now then some 2 else match x.last with
 |some n=>if now<=n then some 20 else none
 |none=>none
theorem F0{now:Int}{heard:Bool}(h:WtAt s w t x)(h0:0<=now)(h1:now<=1099511627776)(hu:x.up=false)(hK:K (cY x now heard) s):wC TP 141 [Pp w,now,heard] K s:=by
 refine Tx ?_;have ⟨e,L,D,h,hL,hD⟩:=h;cases heard with
 |false=>simpa [vo,oN,oL,cY,hu,ae]using hK
 | true=>
   cases hh:x.heard with
   | none=>
     rw[hh]at hD;obtain rfl:D=.nilptr:=hD;simpa [vo,oN,oL,cY,hu,hh,aj h,ae]using hK
   | some n=>
     rw[hh]at hD;obtain⟨b,tb,eb,rfl,hb⟩:=hD;have:IntKind.i64.wrap (now-1)=now-1:=aC oM oM;simpa [vo,oN,oL,cY,hu,hh,aj h,aj hb,this,ae]using hK
theorem F1{now:Int}{heard:Bool}(h:WtAt s w t x)(hx:x.ok)(hu:x.up=true)(hK:K (cY x now heard) s):wC TP 142 [Pp w,now,heard] K s:=by
 refine Ty ?_;have ⟨e,L,D,h,hL,hD⟩:=h;cases heard with
 |true=>simpa [vp,oP,oO,cY,hu,ae]using hK
 | false=>
   cases hh:x.heard with
   | none=>
     rw[hh]at hD;obtain rfl:D=.nilptr:=hD;simpa [vp,oP,oO,cY,hu,hh,aj h,ae]using hK
   | some n=>
     rw[hh]at hD;obtain⟨b,tb,eb,rfl,hb⟩:=hD;have:=hx.2.2 n hh;simp[vp,oP,oO,aj h,aj hb,ae];refine FY (by have:=hx.1;omega) (by have:=hx.2.1;omega) this.1 this.2 ?_
     grind [cY,ci,bG]
theorem F2(hK:∀s',Sub s s'->K (.agg [.fn (.func 141) [] [],.fn (.func 142) [] []]) s'):wC TP 109 [] K s:=by refine Tu ?_;refine an λc s1 hc h1 u1=>am (a:=[.fn (.func 141) [] [],.fn (.func 142) [] []]) rfl ?_;refine aZ h1 rfl rfl rfl λs2 h2 u2=>am (aQ h2 rfl) ?_;exact hK _ λi q hi=>by have:=cx hc hi;rw[u2 i this,u1 i this];exact hi
theorem F3{e c e':Nat}{t' up ch:Bool}{m since changes now:Int}{L D:AV}(h:Hc s w e [m,(bi up:Int),L,D,since,changes])(hc:s c=some (t',.cells e' [now]))
  (hb:0<=changes/\changes<=1000000000000) (hK:∀s',Hc s' w e [m,(bi (up != ch):Int),L,D,(if ch then now else since:Int),(if ch then changes+1 else changes:Int)]->Upto w s s'->K (.tup [ch,Ii 0]) s') :
  jt (Pp w) (Pp c) ch K s:=by
 have hcw:c≠w:=λq=>by rw[q,h]at hc;cases hc
 unfold jt;refine au (λhch=>?_) (λhch=>?_);subst hch;simp only[aO,ae,ao,zAY,aj h,g1Y,g0Y];refine FZ (aT h sI rfl λs1 h1 u1=>?_);have hc1:s1 c=some (t',.cells e' [now]):=by rw[u1 c hcw];exact hc
 simp only[aj hc1,ae,g0Y];refine aT h1 sI rfl λs2 h2 u2=>?_;simp only[aj h2,set_cons_succ,set_cons_zero,g1Y,g0Y,ae,aJ]at h2 ⊢;rw[aC];refine aT h2 sI rfl λs3 h3 u3=>hK s3 ?_ λi hi=>by rw[u3 i hi,u2 i hi,u1 i hi]
 simpa using h3;subst hch;exact hK s (by simpa using h) λ_ _=>rfl
theorem F4:isFn TP 141=true:=kR
theorem F5:isFn TP 142=true:=kR
theorem qJ{c e':Nat}{t':Bool}{now:Int}{heard:Bool}{a b:AV}(h:WtAt s w false x)(hx:x.ok)(hc:s c=some (t',.cells e' [now]))(hn:0<=now/\now<=1099511627776)(hb:0<=x.changes/\x.changes<=1000000000000)
  (hp:bK a b false=some (.bool false)) (hK:∀s',WtAt s' w false (fF x now heard)->aB (·=w) s s'->K (.tup [(cY x now heard),Ii 0]) s') :
  oI (Pp w) heard (Pp c) a b K s:=by
 unfold oI;rw[hp];simp only[ae,ay];have ⟨e,L,D,hw,hL,hD⟩:=id h;refine⟨s,.refl s,?_⟩;simp only[aO,ae,ao,zAY,aj hw,aj hc,g1Y,g0Y];rw[d8];refine F2 λs1 sub1=>?_;have sub2:Sub s (add s s1):=eF;have hcw:c≠w:=λq=>gR;have main:∀k,(k=141∨k=142)->(∀K':AV->Hq->Prop,K' (cY x now heard) (add s s1)->wC TP k [Pp w,now,heard] K' (add s s1))->
   funK TP (.fn (.func k) [] []) [Pp w,now,heard] (λv_20 s_21=>oK (wr1 s_21 (.ptr w 2) (Pp c)) λs_24=>ai heard (oK (wr1 s_24 (.ptr w 3) (Pp c)) λs_46=>jt (Pp w) (Pp c) v_20 K s_46) (jt (Pp w) (Pp c) v_20 K s_24)) (add s s1):=by
  intro k hk hr;refine dV (by grind [F4,F5]) (hr _ ?_);have hw2:=sub2 _ _ hw;refine aT hw2 sI rfl λs3 h3 u3=>?_;simp only[set_cons_succ,set_cons_zero]at h3;have hc3:s3 c=some (t',.cells e' [now]):=by rw[u3 c hcw];exact sub2 _ _ hc
  have fin:∀s4 D',Hc s4 w e [x.m,(bi x.up:Int),Pp c,D',x.since,x.changes]->Upto w (add s s1) s4->opI s4 D' (if heard then some now else x.heard)->jt (Pp w) (Pp c) (cY x now heard) K s4:=by
   intro s4 D' h4 u4 hD';have hc4:s4 c=some (t',.cells e' [now]):=by rw[u4 c hcw];exact sub2 _ _ hc
   refine F3 h4 hc4 hb λs5 h5 u5=>hK s5 ⟨e,Pp c,D',h5,⟨c,t',e',rfl,by rw[u5 c hcw];exact hc4⟩,hD'.upto h4 sI u5⟩ λi q hi hne=>?_;rw[u5 i hne,u4 i hne];exact sub2 _ _ hi
  refine au (λhh=>?_) (λhh=>?_)
  ·subst hh
   refine aT h3 sI rfl λs4 h4 u4=>fin s4 (Pp c) h4 (λi hi=>by rw[u4 i hi,u3 i hi]) ⟨c,t',e',rfl,by rw[u4 c hcw];exact hc3⟩
  ·subst hh
   exact fin s3 D h3 u3 ((hD.sub sub2).upto hw2 sI u3)
 cases hu:x.up with
 | false=>
   refine am (a:=.fn (.func 141) [] []) (by rfl) ?_;exact main 141 (.inl rfl) λK' hK'=>F0 (h.sub sub2) hn.1 hn.2 hu hK'
 | true=>
   refine am (a:=.fn (.func 142) [] []) (by rfl) ?_;exact main 142 (.inr rfl) λK' hK'=>F1 (h.sub sub2) hx hu hK'
theorem xw{now:Int}{heard:Bool}(h:WtAt s w false x)(hx:x.ok)(hb:0<=x.changes/\x.changes<=1000000000000)
  (hE:∀e s',fG x now=some e->WtAt s' w false x->aB (·=w) s s'->K (.tup [false,e]) s')
  (hK:∀s',fG x now=none->WtAt s' w false (fF x now heard)->aB (·=w) s s'->K (.tup [(cY x now heard),Ii 0]) s') :
  wC TP 57 [Pp w,now,heard] K s:=by
 refine Tn ?_;refine cW rfl λc s1 hc h1 u1=>?_;have sub1:=u1.sub hc;have hw1:=h.sub sub1;have keep1:aB (·=w) s s1:=sub1.keep;refine cP hw1 (by have:=hx.1;omega) ?_;simp only[bD,ae,Bool.not_true,ay,aj h1,g0Y,aH,bW];have j0:∀a b:AV,bK a true b=some (.bool (decide (now<0∨1099511627776<now)))->vm (Pp w) heard (Pp c) a b K s1:=by
  intro a b hab;unfold vm;rw[hab,bG];refine au (λhr=>?_) (λhr=>?_)
  ·grind [fG]
  ·simp only[decide_eq_false_iff_not]at hr
   have ⟨e,L,D,h2,hL,hD⟩:=id hw1;simp only[aO,ae,ao,zAY,aj h2,g1Y,g0Y];cases hl:x.last with
   | none=>
     rw[hl]at hL;obtain rfl:L=.nilptr:=hL;simp only[Rj,aG,ae,bne_self_eq_false,ay];exact qJ hw1 hx h1 oM hb rfl (by grind [fG,aB.trans])
   | some n=>
     rw[hl]at hL;obtain⟨b,tb,eb,rfl,hb'⟩:=hL;simp only[jh,aG,ae,Bool.bne_false,aF,aj h1,aj hb',aO,g0Y,eR]
     by_cases hle:now<=n
     ·grind [oI,aU,bG,aF,fG]
     ·simp only[hle,decide_false]
      exact qJ hw1 hx h1 oM hb rfl (by grind [fG,aB.trans])
 simp_all [au]
end Go.AM.DT
namespace Go.AM.RT
open Go Go.Proofs List Nat
set_option maxRecDepth 100000
variable{K:AV→Hq→Prop}{r r' s s' t a b b' q:Hq}{l l1 l2:List Hq}
abbrev Goes:=FB.Goes
def Dj(a b:Hq):Prop:=∀i,a i≠none->b i=none
theorem Dj.symm(h:Dj a b):Dj b a:=λi hi=>by
 cases e:a i with
 |none=>rfl
 |some x=>exact absurd (h i (by rw[e];simp)) hi
structure Sep(s:Hq)(l:List Hq):Prop where
 sub:∀h∈l,Sub h s
 dj:l.Pairwise Dj
theorem Sep.more(z:Sep s l)(k:Sub s s'):Sep s' l:=⟨λh hh=>(z.sub h hh).trans k,z.dj⟩
theorem Sep.perm(z:Sep s l){l':List Hq}(p:l.Perm l'):Sep s l':=⟨λh hh=>z.sub h (p.mem_iff.2 hh),p.pairwise z.dj (λh=>h.symm)⟩
theorem F6(h:Goes r s r' s')(k:Sub t s)(hd:∀i,t i≠none->r i=none):Sub t s'/\∀i,t i≠none->r' i=none:=by
 constructor;intro i e hi;have h1:=k _ _ hi;rw[(h.out i (hd i (by rw[hi];simp)) (by rw[h1];simp)).1];exact h1;intro i hi;have h1:s i≠none:=by rcases q:t i with _|e;exact absurd q hi;rw[k _ _ q];simp
 exact(h.out i (hd i hi) h1).2
theorem Sep.goes1(z:Sep s (b::l))(g:Goes b s b' s'):Sep s' (b'::l):=by
 have hd:=(pairwise_cons.1 z.dj).1;refine⟨λh hh=>?_,pairwise_cons.2 ⟨λa ha=>?_,(pairwise_cons.1 z.dj).2⟩⟩
 ·rcases mCY hh with rfl|hh
  ·exact g.sub
  ·exact(F6 g (z.sub h (mO _ hh)) λi hi=>(hd h hh).symm i hi).1
 ·exact Dj.symm λi hi=>(F6 g (z.sub a (mO _ ha)) λi hi=>(hd a ha).symm i hi).2 i hi
theorem Sep.goes(z:Sep s (l1++b::l2))(g:Goes b s b' s'):Sep s' (l1++b'::l2):=
 (Sep.goes1 (z.perm perm_middle) g).perm perm_middle.symm
def one(c:Nat)(x:Bool×Blk):Hq:=λi=>if i=c then some x else none
theorem aP{c:Nat}{x:Bool×Blk}:one c x c=some x:=if_pos rfl
theorem fH{c i:Nat}{x:Bool×Blk}(h:one c x i≠none):i=c:=by
 grind [one]
theorem cq(hs:Sub a s){c:Nat}(hc:s c=none):a c=none:=by
 cases e:a c with
 |none=>rfl
 |some x=>rw[hs c x e]at hc;cases hc
theorem Sep.new(z:Sep s l){c:Nat}{x:Bool×Blk}(u:Upto c s s')(hc:s c=none)(h:s' c=some x):Sep s' (one c x::l):=by
 have z':=z.more (u.sub hc);refine⟨λa ha=>?_,pairwise_cons.2 ⟨λa ha i hi=>?_,z'.dj⟩⟩
 ·rcases mCY ha with rfl|ha
  ·intro i e hi
   have:=fH (c:=c) (x:=x) (i:=i) (by rw[hi];simp)
   grind [aP]
  ·exact z'.sub a ha
 ·rw[fH hi];exact cq (z.sub a ha) hc
theorem Sep.wr1(z:Sep s (b::l)){c:Nat}{x:Bool×Blk}(u:Upto c s s')(hb:b c≠none)(h:s' c=some x):Sep s' (hset b c x::l):=by
 have hd:=(pairwise_cons.1 z.dj).1;have hc:∀y∈l,y c=none:=λy hy=>hd y hy c hb;refine⟨λy hy=>?_,pairwise_cons.2 ⟨λy hy i hi=>?_,(pairwise_cons.1 z.dj).2⟩⟩
 ·rcases mCY hy with rfl|hy'
  ·intro i e hi
   by_cases q:i=c
   ·simp_all
   ·rw[bg q]at hi;rw[u i q];exact z.sub b mem_cons_self i e hi
  ·intro i e hi
   have:i≠c:=λq=>by simp_all
   rw[u i this];exact z.sub y (mO _ hy') i e hi
 ·by_cases q:i=c
  ·subst q;exact hc y hy
  ·rw[bg q]at hi;exact hd y hy i hi
theorem Sep.wr(z:Sep s (l1++b::l2)){c:Nat}{x:Bool×Blk}(u:Upto c s s')(hb:b c≠none)(h:s' c=some x):Sep s' (l1++hset b c x::l2):=
 (Sep.wr1 (z.perm perm_middle) u hb h).perm perm_middle.symm
theorem Sep.drop(z:Sep s (b::l)):Sep s l:=⟨λh hh=>z.sub h (mO _ hh),(pairwise_cons.1 z.dj).2⟩
theorem Sep.join(z:Sep s (a::b::l)):Sep s (add a b::l):=by
 have ⟨h1,h2⟩:=pairwise_cons.1 z.dj;refine⟨λh hh=>?_,pairwise_cons.2 ⟨λc hc i hi=>?_,(pairwise_cons.1 h2).2⟩⟩
 ·rcases mCY hh with rfl|hh
  ·intro i e hi
   cases q:a i with
   |some x=>rw[bJ q]at hi;cases hi;exact z.sub a sI i _ q
   |none=>rw[aV q]at hi;exact z.sub b sI i _ hi
  ·exact z.sub h (by simp[hh])
 ·cases q:a i with
  |some x=>exact h1 c (by simp[hc]) i (by rw[q];simp)
  |none=>rw[aV q]at hi;exact(pairwise_cons.1 h2).1 c hc i hi
theorem Sep.split(z:Sep s (add a b::l))(hd:Dj a b):Sep s (a::b::l):=by
 have ⟨h1,h2⟩:=pairwise_cons.1 z.dj;have hs:=z.sub (add a b) mem_cons_self;have sa:Sub a (add a b):=λi e hi=>bJ hi;have sb:Sub b (add a b):=λi e hi=>by rw[aV (hd.symm i (by rw[hi];simp))];exact hi
 refine⟨λh hh=>?_,pairwise_cons.2 ⟨λc hc=>?_,pairwise_cons.2 ⟨λc hc i hi=>h1 c hc i ?_,h2⟩⟩⟩
 ·rcases mCY hh with rfl|hh
  ·exact sa.trans hs
  ·rcases mCY hh with rfl|hh
   ·exact sb.trans hs
   ·exact z.sub h (by simp[hh])
 ·rcases mCY hc with rfl|hc
  ·exact hd
  ·intro i hi
   refine h1 c hc i ?_;cases q:a i with
   |none=>exact absurd q hi
   |some x=>rw[bJ q];simp
 ·cases q:b i with
  |none=>exact absurd q hi
  |some x=>rw[sb i _ q];simp
theorem F7(h:Sub r s):Sep s [r,rest s r]:=by
 refine⟨λa ha=>?_,pairwise_cons.2 ⟨λa ha i hi=>?_,sI⟩⟩
 ·simp only[mem_cons,not_mem_nil,or_false]at ha
  rcases ha with rfl|rfl
  ·exact h
  ·intro i e hi
   grind [rest]
 simp_all [rest]
theorem Sep.back(h:Sub r s)(z:Sep s' [r',rest s r]):Goes r s r' s':=⟨z.sub r' sI,λi h1 h2=>by
 have hr:rest s r i=s i:=by grind [rest]
 have h3:=z.sub (rest s r) sI;refine⟨?_,(pairwise_cons.1 z.dj).1 (rest s r) sI |>.symm i (by rw[hr];exact h2)⟩;cases e:s i with
 |none=>exact absurd e h2
 |some x=>exact h3 i x (hr.trans e)⟩
theorem wC.goes{P:Program}{f:FuncId}{args:List AV}(hsub:Sub b s)(h:wC P f args (λv b'=>∀s',Goes b s b' s'->K v s') b):wC P f args K s:=
 wC.part hsub (h.mono λv b' hk s' h1 h2=>hk s' ⟨h1,h2⟩)
section
variable {P:Program}
theorem Zl{f:Nat}{args:List AV}{K:AV->Hq->Prop}{r s:Hq}(hsub:Sub r s)
  (h:dL P f args (λv s1=>∀s',Sub s1 s'->(∀i,r i=none->s i≠none->s' i=s i/\s1 i=none)->K v s') r):dL P f args K s:=by
 refine Rd hsub (KX h λv s1 hv hout=>hv _ eF λi hr hi=>?_);have:=hout i hi hr
 grind [aV,rest]
theorem F8{f:Nat}{args:List AV}{b s:Hq}{K:AV->Hq->Prop}(hsub:Sub b s)(h:funK P (.yield f) args (λv b'=>∀s',Goes b s b' s'->K v s') b):funK P (.yield f) args K s:=by have ⟨h1,h2⟩:=h;refine⟨?_,Zl hsub (KX h2 λv s1 hv s' k1 k2=>hv s' ⟨k1,k2⟩)⟩;unfold fR at h1 ⊢;split at h1;rename_i q;rw[hsub _ _ q];exact h1;exact h1.elim
end
variable{p wm d f:Nat}{t:Bool}{x ad lf sp la:Int}{lv mv uv dv:AV}{tk:Bool}{L:List LS.Lnk}
abbrev roC(x ad lf sp:Int)(lv mv:AV)(wm d f:Nat)(tk:Bool)(la:Int)(uv dv:AV):List AV:=
 [x,Iw ad,lf,sp,lv,mv,.map wm,Pp d,Pp f,tk,la,uv,dv]
theorem cP(h:s p=some (t,.cells 75 (roC x ad lf sp lv mv wm d f tk la uv dv)))(hK:K true s):wC TP 41 [Pp p] K s:=by refine WT ?_;have e1:negB true (eqV 3 true (Pp p) .nilptr)=some true:=rfl;have e2:negB true (eqV 3 true (Pp d) .nilptr)=some true:=rfl;have e3:negB true (eqV 3 true (Pp f) .nilptr)=some true:=rfl;simp only[N2,Ct,Cs,e1,ae,aO,ao,aj h,zAY,g1Y,g0Y,e2,e3];exact hK
def owB(L:List LS.Lnk)(x i:Int):Bool:=decide (0<=i/\i<L.length/\((L.getD i.toNat (0,0,0)).1=x∨(L.getD i.toNat (0,0,0)).2.1=x))
theorem lQ{i:Int}(h:s p=some (t,.cells 75 (roC x ad lf sp lv mv wm d f tk la uv dv)))(hl:SlR 3 s lv (L.map LS.lnR))(hK:K (owB L x i) s):wC TP 49 [Pp p,i] K s:=by
 refine WU ?_;have ll:bp lv=some L.length:=by rw[hl.len,lMY]
 simp only[N3,ci,ae];refine au (λh0=>?_) (λh0=>?_);have h0:0<=i:=oT h0;obtain⟨n,rfl⟩:∃n:Nat,i=n:=⟨i.toNat,oM⟩
 simp only[aO,ae,ao,aj h,zAY,g1Y,g0Y,ll,aH,vR];refine au (λh1=>?_) (λh1=>?_);have h1:n<L.length:=gR;have ⟨b,o,g1,_,g3⟩:=hl.get (i:=n) (r:=LS.lnR L[n]) gR;have a0:rd1 s (.ptr b (o+0))=some (Ii L[n].1):=g3 0 oM;have a1:rd1 s (.ptr b (o+1))=some (Ii L[n].2.1):=g3 1 oM;have eg:L.getD n (0,0,0)=L[n]:=gR;rw[decide_eq_true (show(n:Int)<(L.length:Int)by omega)];have hk:owB L x n=decide (L[n].1=x∨L[n].2.1=x):=by
  grind [owB]
 rw[hk]at hK;simp only[g1,ae,ao,a0,a1,aR,aG,Bool.false_bne,Cu,aU];refine au (λh2=>?_) (λh2=>?_)
 simp_all
 grind [aS,bG]
 grind [owB,aS,bG]
 grind [owB,vR,aS,bG,ay]
theorem F9(h:s p=some (t,.cells 75 (roC x ad lf sp lv mv wm d f tk la uv dv)))(h1:0<=lf/\lf<=32)(h2:0<=sp/\sp<=32)(hK:K (lf+sp:Int) s):wC TP 65 [Pp p] K s:=by
 refine N4 ?_;simp only[Cv,aO,ae,ao,aj h,zAY,g1Y,g0Y,aJ]
 grind [aC]
theorem jL(hK:∀b s',s b=none->Hc s' b 22 [Pp p]->Upto b s s'->K (.fn (.func 96) [] [Pp b]) s'):wC TP 44 [Pp p] K s:=
 WW (cW rfl gR)
abbrev Wb:=List (Nat×Nat)
def mW(wl:Wb):List (Int×AV):=wl.map λq=>((q.1:Int),Pp q.2)
theorem Ga{wl:Wb}:(mW wl).map (·.1)=(wl.map (·.1)).map λ(n:Nat)=>(n:Int):=by
 simp_all [mW]
theorem Pn:∀{l:List Int},l.Pairwise (·<=·)->cB l=l
 |[],_=>rfl
 | n::l,h=>by
   have ⟨h1,h2⟩:=pairwise_cons.1 h;show insI n (cB l)=_;rw[Pn h2];cases l with
   |nil=>rfl
   | cons m l=>
     have:=h1 m sI;show cond (ltI m n) _ _=_;rw[d6,decide_eq_false oM];rfl
theorem qK{wl:Wb}(h:wl.Pairwise λa b=>a.1<b.1):cB ((mW wl).map (·.1))=(wl.map (·.1)).map λ(n:Nat)=>(n:Int):=by
 grind [Ga,Pn]
theorem qL:∀{wl:Wb},(wl.Pairwise λa b=>a.1<b.1)->∀q∈wl,look (mW wl) (q.1:Int)=some (.ptr q.2 0)
 |[],_,q,h=>by cases h
 | e::wl,h,q,hq=>by
   have ⟨h1,h2⟩:=pairwise_cons.1 h;unfold look mW;rw[map_cons,find?_cons];rcases mCY hq with rfl|hq;simp;have:=h1 q hq;rw[show(((e.1:Int),AV.ptr e.2 0).1 == (q.1:Int))=false by simp;omega];exact qL h2 q hq
theorem Gb{wl:Wb}{rb l:Nat}(hasc:wl.Pairwise λa b=>a.1<b.1)(hlen:wl.length<=200){I:Nat->Hq->Prop}
  (h0:I 0 s)
  (hI:∀k s,I k s->(∃t e,s rb=some (t,.cells e [Pp p]))/\(∃t cs,s p=some (t,.cells 75 cs)/\cs[6]?=some (.map wm))/\LS.MapR s wm (mW wl))
  (hround:∀k (hk:k<wl.length) s,I k s->∀Q:AV->Hq->Prop,(∀s',I (k+1) s'->Q true s')->funK TP (.yield l) [(wl[k].1:Int),.ptr wl[k].2 0] Q s)
  (hK:∀r s',I wl.length r->Sub r s'->K (.tup []) s'):wC TP 96 [.yield l,Pp rb] K s:=by
 have ⟨⟨tr,er,hrb⟩,⟨tp,cs,hp,hc⟩,hm⟩:=hI 0 s h0;refine WY ?_;simp only[N6,aj hrb,g0Y,ae,aO,ao,zAY,aj hp,hc,aK];refine AX Go.Proofs.YtcmcofklcgafiaaGreat.sortedOK (p:=(43,95,70)) sI λb2 s2 hb2 h2 u2=>?_;have sub2:=u2.sub hb2;have hm2:=hm.sub sub2;refine LS.Pj Go.Proofs.YtcmcofklcgafiaaGreat.sortedOK sI h2 hm2 (by grind [mW]) λv s3 acc sub3=>?_;rw[qK hasc]at acc;have sub23:=sub2.trans sub3;have slv:=acc.sl;have hl3:(izs ((wl.map (·.1)).map λ(n:Nat)=>(n:Int))).length=wl.length:=sI;have ⟨x,hx⟩:∃x:Hq,x=rest s3 s:=⟨_,rfl⟩
 have sp:Sep s3 [s,x]:=by grind [F7]
 have slx:Sl x v (izs ((wl.map (·.1)).map λ(n:Nat)=>(n:Int))):=by
  refine slv.keep (fp:=λi=>s i≠none) (λi e hi hn=>?_) λb o n c e hne q=>?_
  ·rw[hx];unfold rest
   rw[if_pos (Classical.not_not.1 hn)];exact hi
  ·rcases acc with⟨_,q2⟩|⟨b',hb',q2,_⟩
   ·exact hne q2
   ·rw[q2]at e;cases e
    cases q3:s b with
    |none=>exact q q3
    |some y=>rw[sub2 b y q3]at hb';cases hb'
 simp only[slv.len,hl3,ae];refine⟨λys t m=>∃(k:Nat) (r:Hq),ys=[Ii k]/\k<=wl.length/\m=wl.length-k/\I k r/\Sep t [r,x],gR,?_⟩;rintro g t m ⟨k,r,hy,hk,rfl,hIk,spt⟩;simp only[cI,and_true]at hy;rw[hy];have subr:Sub r t:=spt.sub r sI;simp only[N5,aH,ae,aA];refine au (λhlt=>?_) (λhge=>?_)
 ·have hlt:k<wl.length:=gR
  have ⟨⟨tr,er,hrb⟩,⟨tp,cs,hp,hc⟩,hm⟩:=hI k r hIk;have hm:=hm.sub subr;have ⟨q,g1,g2⟩:=(slx.sub (spt.sub x sI)).get (i:=k) oM;have e1:(izs ((wl.map (·.1)).map λ(n:Nat)=>(n:Int)))[k]?=some (Ii (wl[k].1)):=by
   grind
  rw[e1]at g2;have e2:retM .nilptr false (some (AV.ptr wl[k].2 0))=.ptr wl[k].2 0:=rfl;simp only[g1,g2,ae,aj (subr _ _ hrb),g0Y,aO,ao,zAY,aj (subr _ _ hp),hc,hm.get,qL hasc _ (getElem_mem hlt),e2];refine F8 subr (hround k hlt r hIk _ λr' hI' t' hg=>?_);simp only[bD,Bool.not_true,ae,ay,aJ];rw[aC];exact⟨_,oM,k+1,r',sI,oM,rfl,hI',spt.goes1 hg⟩
 ·have hge:k=wl.length:=by have:=oF hge;omega
  subst hge;exact hK r t hIk subr
variable{s0 t:Hq}{v:AV}
def bH(es:Nat)(v:AV)(i:Nat):Prop:=∃o n c,v=.slc i o n c es
theorem xx{elem:TypeId}{es:Nat}{y:AV}{row:List AV}{rows:List (List AV)}(h:AccR elem es s0 t v rows)(hs:Sub s0 t)(hy:SlR es t y [row])(hne:∀b o n c,y=.slc b o n c es->¬bH es v b)(hl:rows.length+1<=16777216)
  (hK:∀v' s',AccR elem es s0 s' v' (rows ++ [row])->aB (bH es v) t s'->(∀b,bH es v' b->t b=none∨bH es v b)->K v' s'):appK elem es v y K t:=by
 have own:∀{i:Nat},¬bH es v i->offV v t i=t i:=fun {i} hn=>dX λb o n c e' q1 q2=>by
  subst q2;rcases h.2 with⟨q6,_⟩|⟨b'',_,q6,_⟩
  ·rw[q1]at q6;cases q6
  ·rw[q1]at q6;cases q6;exact hn ⟨_,_,_,q1⟩
 have old:∀{i:Nat},bH es v i->s0 i=none:=fun {i} ⟨o,n,c,q4⟩=>by
  rcases h.2 with⟨q5,_⟩|⟨b',q6,q5,_⟩
  ·rw[q4]at q5;cases q5
  grind
 refine AccR.app (s0:=offV v t) h.offvB hy sI (by simpa using hl) ic λv' s' acc sub=>?_;have fr:∀b,offV v t b=none->t b=none∨bH es v b:=(by grind [bH])
 have acc':AccR elem es s0 s' v' (rows ++ [row]):=by
  refine⟨acc.1,?_⟩;rcases acc.2 with q|⟨b,q1,q2,q3⟩
  ·exact .inl q
  ·refine .inr ⟨b,?_,q2,q3⟩
   rcases fr b q1 with q|q
   ·exact cq hs q
   ·exact old q
 refine hK v' s' acc' (λi e hi hn=>sub i e (by rw[own hn];exact hi)) λb ⟨o,n,c,q1⟩=>?_;rcases acc.2 with⟨q2,_⟩|⟨b',q3,q2,_⟩
 ·rw[q1]at q2;cases q2
 grind
abbrev Ntc:=Nat×LS.Rec
def ntR(n:Ntc)(lv:AV):List AV:=[n.1,n.2.1,n.2.2.1,lv]
structure Nts(s0 s:Hq)(v:AV)(ns:List Ntc):Prop where
 ex:∃rows,AccR 190 4 s0 s v rows/\rows.length=ns.length/\∀(i:Nat) (n:Ntc),ns[i]?=some n->∃lv,rows[i]?=some (ntR n lv)/\LS.Sli s lv n.2.2.2/\∀b o m c,lv=.slc b o m c 1->n.2.2.2≠[]->s0 b=none/\¬bH 4 v b
theorem Nts.nil:Nts s0 s .nilslc []:=⟨[],⟨sI,.inl ⟨rfl,rfl⟩⟩,rfl,λi n h=>by simp at h⟩
theorem nocell{fp:Nat->Prop}{es:Nat}{lv:AV}(hf:∀i,fp i->∀tg el cs,s i≠some (tg,.cells el cs)):∀b o m c,lv=.slc b o m c es->(∃tg el cs,s b=some (tg,.cells el cs))->¬fp b:=gR
theorem jM{lv:AV}{l:List Int}(h:LS.Sli s lv l):∀b o m c,lv=.slc b o m c 1->l≠[]->∃tg el cs,s b=some (tg,.cells el cs):=λb o m c e hne=>by
 rcases h with⟨q,_⟩|⟨b',o',c',q,_,q2⟩
 ·rw[e]at q;cases q
 ·rw[e]at q;cases q
  have ⟨t1,e1,cs,q3,_⟩:=q2 (by simpa using hne)
  grind
theorem Po{fp:Nat->Prop}{lv:AV}{l:List Int}(h:LS.Sli s lv l)(k:aB fp s s')(hf:∀i,fp i->∀tg el cs,s i≠some (tg,.cells el cs)):LS.Sli s' lv l:=
 Sl.keep h k λb o m c e hne=>nocell hf b o m c e (jM h b o m c e (by simpa using hne))
theorem Nts.keep{fp:Nat->Prop}{ns:List Ntc}(h:Nts s0 s v ns)(k:aB fp s s')(hf:∀i,fp i->∀tg el cs,s i≠some (tg,.cells el cs)):Nts s0 s' v ns:=by
 obtain⟨rows,h1,h2,h3⟩:=h.ex;refine⟨rows,⟨h1.1,h1.2.imp id λ⟨b,q1,q2,q3⟩=>⟨b,q1,q2,k _ _ q3 λq=>hf b q _ _ _ q3⟩⟩,h2,λi n hn=>?_⟩
 grind [Po]
structure Col(s t:Hq)(l b0:Nat)(ns:List Ntc):Prop where
 sub:Sub s t
 hb:s b0=none
 hl:s l=none
 ne:b0≠l
 lp:∃d,t l=some (false,.loop .ready none 20 [(3,Pp b0)] [7,8] (rfAs 0 (aI Tryz.f52)) (rfBo 0 (aI Tryz.f52)) d)
 bx:∃v,Hc t b0 36 [v]/\Nts s t v ns/\¬bH 4 v b0/\¬bH 4 v l/\v.one=true
theorem Col.keep{fp:Nat->Prop}{l b0:Nat}{ns:List Ntc}{t':Hq}(z:Col s t l b0 ns)(k:aB fp t t')(hs:∀i,fp i->t i=none∨(s i=none/\i≠l/\∀tg el cs,t i≠some (tg,.cells el cs))):Col s t' l b0 ns:=by
 have ⟨d,hlp⟩:=z.lp;have ⟨v,h1,h2,h3⟩:=z.bx;have hf:∀i,fp i->∀tg el cs,t i≠some (tg,.cells el cs):=gR;refine⟨λi e hi=>k i e (z.sub i e hi) λq=>?_,z.hb,z.hl,z.ne,⟨d,k _ _ hlp λq=>?_⟩,⟨v,k _ _ h1 λq=>hf _ q _ _ _ h1,h2.keep k hf,h3⟩⟩
 ·rcases hs i q with q1|⟨q1,_⟩
  ·rw[z.sub i e hi]at q1;cases q1
  grind
 grind
theorem Col.more{l b0:Nat}{ns:List Ntc}{t':Hq}(z:Col s t l b0 ns)(k:Sub t t'):Col s t' l b0 ns:=z.keep (fp:=λ_=>False) k.keep λ_ h=>h.elim
theorem xy{l:Nat}{K:Hq->Prop}{pd:Option Code}{nt:Nat}{keep:List (Nat×AV)}{ps:List Tmp}{ac bo:Code}{d:Nat}(h:s l=some (false,.loop .ready pd nt keep ps ac bo d))
  (hk:∀s',s' l=some (false,.loop .busy pd nt keep ps ac bo d)->Upto l s s'->K s'):dC l K s:=by
 unfold dC;rw[h];exact hk _ cr λi hi=>bg hi
theorem qM{l:Nat}{K:AV->Hq->Prop}{st:LoopState}{pd:Option Code}{nt:Nat}{keep:List (Nat×AV)}{ps:List Tmp}{ac bo:Code}{d:Nat}(h:s l=some (false,.loop st pd nt keep ps ac bo d))
  (hk:∀s',s' l=some (false,.loop .ready none nt keep ps ac bo d)->Upto l s s'->K true s'):endK l .nrm K s:=by
 unfold endK;rw[h];exact hk _ cr λi hi=>bg hi
theorem ff{a b:Int}{w:AV}(hw:w.one=true):aD [a,b,w]=true:=by
 simp_all
theorem Gc{a b c:Int}{w:AV}(hw:w.one=true):aD [a,b,c,w]=true:=by
 simp_all
theorem Gd{a b c:Int}{w:AV}(hw:w.one=true):aq [(Ii 0),(Ii 0),(Ii 0),.nilslc] [(0,1,a),(1,3,.agg [b,c,w])]=some [Ii a,Ii b,Ii c,w]:=by cases w<;>first|rfl|cases hw
theorem Ge{a b c:Int}{w:AV}(hw:w.one=true):aq (repl 1 [(Ii 0),(Ii 0),(Ii 0),.nilslc]) [(0,4,.agg [a,b,c,w])]=some [Ii a,Ii b,Ii c,w]:=by cases w<;>first|rfl|cases hw
theorem qN{lv:AV}{l:List Int}(h:LS.Sli s lv l):lv.one=true:=Sl.one h
def fh(t:Hq)(b0 i:Nat):Prop:=∃v,Hc t b0 36 [v]/\bH 4 v i
theorem Gf{lv v:AV}{l:List Int}{b0:Nat}{tg:Bool}{e:TypeId}(h:LS.Sli t lv l)(hb:t b0=some (tg,.cells e [v]))(hv:∀n,v≠Ii n):∀b o m c,lv=.slc b o m c 1->l≠[]->b≠b0:=λb o m c e1 hne q=>by
 subst q;rcases h with⟨q,_⟩|⟨b',o',c',q,_,q2⟩
 ·rw[e1]at q;cases q
 ·rw[e1]at q
  cases q;have ⟨t1,e2,cs,q3,q4,q5⟩:=q2 (by simpa using hne);cases l with
  |nil=>exact hne rfl
  | cons x l=>
    have:=q5 0 sI
    grind
theorem Gg{l b0:Nat}{ns:List Ntc}{n:Nat}{r:LS.Rec}{rv:AV}{Q:AV->Hq->Prop}(z:Col s t l b0 ns)(hr:LS.Sli t rv r.2.2)(hlen:r.2.2.length<=100000)(hns:ns.length<=100000)
  (hQ:∀t',Col s t' l b0 (ns ++ [(n,r)])->aB (λi=>i=l∨i=b0∨fh t b0 i) t t'->(∀i,fh t' b0 i->t i=none∨fh t b0 i)->Q true t') :
  funK TP (.yield l) [n,.agg [r.1,r.2.1,rv]] Q t:=by
 obtain⟨d,hlp⟩:=z.lp;obtain⟨v,hbx,hnt,hvb,hvl,hv1⟩:=z.bx;obtain⟨rows,acc,hrl,hrows⟩:=hnt.ex;have hvi:∀n,v≠Ii n:=λn e=>by rcases acc.2 with⟨q,_⟩|⟨b,_,q,_⟩<;>(rw[e]at q;cases q)
 have hvt:∀i,bH 4 v i->s i=none/\t i≠none:=λi ⟨o,m,c,q⟩=>by
  rcases acc.2 with⟨q2,_⟩|⟨b,q1,q2,q3⟩
  ·rw[q]at q2;cases q2
  grind
 refine⟨by grind [fR],W3 hlp ?_⟩;refine an λb1 s1 hb1 h1 u1=>aZ h1 rfl rfl (ff (qN hr)) λs2 h2 u2=>⟨rfl,?_⟩
 have n1l:b1≠l:=λe=>gR;have up12:Upto b1 t s2:=λi hi=>by rw[u2 i hi,u1 i hi]
 have sub2:=up12.sub hb1;refine xy (sub2 _ _ hlp) λs3 hl3 u3=>?_;have h3:Hc s3 b1 34 [r.1,r.2.1,rv]:=by rw[u3 _ n1l];exact h2
 have k3:aB (λi=>i=l) t s3:=λi e hi hn=>by rw[u3 i hn];exact sub2 _ _ hi
 have hf3:∀i,i=l->∀tg el cs,t i≠some (tg,.cells el cs):=gR;have hr3:=Po hr k3 hf3;simp only[ao,ae,aj h3,zAY,g1Y,g0Y];refine LS.EC hr3 oM λv6 s4 sub4 hc4 hf4=>?_;have h4:=sub4 _ _ h3;refine aT h4 sI (Sl.one hc4) λs5 h5 u5=>?_;have h5:Hc s5 b1 34 [r.1,r.2.1,v6]:=h5;have at5:∀{i e},s3 i=some e->i≠b1->s5 i=some e:=fun {i e} hi hn=>by rw[u5 i hn];exact sub4 _ _ hi
 have nb1:∀{i e},t i=some e->i≠b1:=fun {i e} hi q=>gR;have hb5:=at5 (k3 _ _ hbx z.ne) (nb1 hbx);simp only[aj hb5,g0Y,ae,aQ (n:=3) h5 rfl,Gd (Sl.one hc4)];rw[Ge (Sl.one hc4)];refine⟨Gc (Sl.one hc4),an λb2 s6 hb2 h6 u6=>?_⟩;have at6:=fun {i e} hi hn=>(u6.sub hb2) _ _ (at5 (k3 i e hi hn) (nb1 hi));have hl6:=(u6.sub hb2) _ _ (at5 hl3 (Ne.symm n1l));have acc6:AccR 190 4 s s6 v rows:=by refine⟨acc.1,acc.2.imp id λ⟨b,q1,q2,q3⟩=>⟨b,q1,q2,at6 q3 λq=>?_⟩⟩;exact hf3 b q _ _ _ q3
 have back:∀i,s6 i=none->t i=none:=λi hi=>by
  cases q:t i with
  |none=>rfl
  | some e=>
    grind
 have back5:∀i,s5 i=none->t i=none:=λi hi=>by
  cases q:t i with
  |none=>rfl
  | some e=>
    by_cases e1:i=l
    ·grind
    ·rw[at5 (k3 i e q e1) (nb1 q)]at hi;cases hi
 have sub6:=λi e hi=>at6 (z.sub i e hi) (by grind [Col.hl]);refine xx acc6 sub6 (SlR.mk (rows:=[[n,r.1,r.2.1,v6]]) (by intro x hx;rw[mem_singleton]at hx;rw[hx];rfl) (by simpa using h6) rfl sI) (λb o m c e q=>?_) oM λv' s7 acc7 k7 f7=>?_
 ·grind
 have n6:∀i,bH 4 v i->i≠l/\i≠b0:=λi q=>⟨λe=>hvl (e ▸ q),λe=>hvb (e ▸ q)⟩
 have hb6:=at6 hbx z.ne;have hb7:=k7 _ _ hb6 λq=>hvb q;have hv'1:v'.one=true:=by rcases acc7.2 with⟨q,_⟩|⟨b,_,q,_⟩<;>rw[q]<;>rfl
 refine aT hb7 sI hv'1 λs8 h8 u8=>?_;have hl7:=k7 _ _ hl6 λq=>hvl q;have hl8:s8 l=some (false,.loop .busy none 20 [(3,Pp b0)] [7,8] (rfAs 0 (aI Tryz.f52)) (rfBo 0 (aI Tryz.f52)) d):=by rw[u8 _ (Ne.symm z.ne)];exact hl7
 refine qM hl8 λs9 hl9 u9=>?_;have kp:aB (λi=>i=l∨i=b0∨fh t b0 i) t s9:=λi e hi hn=>by have n1:=λq=>hn (.inl q);have n2:=λq=>hn (.inr (.inl q));rw[u9 i n1,u8 i n2];exact k7 _ _ (at6 hi n1) λq=>hn (.inr (.inr ⟨v,hbx,q⟩))
 have h9:Hc s9 b0 36 [v']:=by rw[u9 _ z.ne];exact h8
 have hlst:∀i,fh t b0 i->bH 4 v i:=λi ⟨v2,q1,q2⟩=>gR;have fr:=λi q=>(f7 i q).imp (back i) id;refine hQ s9 ⟨λi e hi=>kp i e (z.sub i e hi) ?_,z.hb,z.hl,z.ne,⟨d,hl9⟩,⟨v',h9,⟨rows ++ [[Ii n,Ii r.1,Ii r.2.1,v6]],?_,by simp[hrl],λi m hm=>?_⟩,λq=>?_,λq=>?_,hv'1⟩⟩ kp λi ⟨v2,q1,q2⟩=>?_
 ·rintro (q|q|q)
  ·rw[q,z.hl]at hi;cases hi
  ·rw[q,z.hb]at hi;cases hi
  ·have:=(hvt i (hlst i q)).1;grind
 ·refine⟨acc7.1,acc7.2.imp id λ⟨b,q1,q2,q3⟩=>⟨b,q1,q2,?_⟩⟩
  have n1:b≠l:=λe=>gR;have n2:b≠b0:=λe=>gR;rw[u9 b n1,u8 b n2];exact q3
 ·rcases Nat.lt_trichotomy i ns.length with q|q|q
  ·rw[getElem?_append_left q]at hm
   have ⟨lv,e1,e2,e3⟩:=hrows i m hm;refine⟨lv,by rw[getElem?_append_left oM];exact e1,e2.keep kp λb o c' c e hne q2=>?_,λb o c' c e hne=>⟨(e3 b o c' c e hne).1,λq2=>?_⟩⟩
   ·have hne:m.2.2.2≠[]:=by simpa using hne
    have ⟨tg,el,cs,q3⟩:=jM e2 b o c' c e hne;rcases q2 with q2|q2|q2
    ·exact hf3 b q2 _ _ _ q3
    ·exact Gf e2 hbx hvi b o c' c e hne q2
    ·exact(e3 b o c' c e hne).2 (hlst b q2)
   ·have ⟨tg,el,cs,q3⟩:=jM e2 b o c' c e hne
    rcases fr b q2 with q4|q4
    ·rw[q3]at q4;cases q4
    ·exact(e3 b o c' c e hne).2 q4
  ·subst q
   have:m=(n,r):=by simpa using hm.symm
   subst this;refine⟨v6,by rw[getElem?_append_right oM,<- hrl,Nat.sub_self];rfl,?_,λb o c' c e hne=>?_⟩
   ·have k49:aB (λi=>i=l∨i=b0∨i=b1∨bH 4 v i) s4 s9:=λi e hi hn=>by
     rw[u9 i λq=>hn (.inl q),u8 i λq=>hn (.inr (.inl q))];refine k7 _ _ ((u6.sub hb2) _ _ ?_) λq=>hn (.inr (.inr (.inr q)));rw[u5 i λq=>hn (.inr (.inr (.inl q)))];exact hi
    refine Sl.keep hc4 k49 λb o c' c e hne q2=>?_;have hb3:=hf4 b o c' c e (by simpa using hne);rcases q2 with q2|q2|q2|q2
    ·grind
    ·rw[q2,k3 _ _ hbx z.ne]at hb3;cases hb3
    ·grind
    ·have:=(hvt b q2).2
     cases q5:t b with
     |none=>exact this q5
     |some y=>rw[k3 _ _ q5 (n6 b q2).1]at hb3;cases hb3
   ·have hb3:=hf4 b o c' c e hne
    have ht:t b=none:=by
     cases q5:t b with
     |none=>rfl
     | some y=>
       by_cases q6:b=l
       ·grind
       ·rw[k3 _ _ q5 q6]at hb3;cases hb3
    refine⟨cq z.sub ht,λq2=>?_⟩;have ⟨tg,el,cs,q3⟩:=jM hc4 b o c' c e hne;rcases f7 b q2 with q4|q4
    ·by_cases q7:b=b1
     ·grind
     ·have:s5 b=some (tg,.cells el cs):=by rw[u5 b q7];exact q3
      rw[(u6.sub hb2) _ _ this]at q4;cases q4
    ·exact(hvt b q4).2 ht
  ·rw[getElem?_eq_none (by simp;omega)]at hm;cases hm
 ·rcases fr b0 q with q2|q2
  ·rw[hbx]at q2;cases q2
  ·exact hvb q2
 ·rcases fr l q with q2|q2
  ·rw[hlp]at q2;cases q2
  ·exact hvl q2
 ·rw[h9]at q1;cases q1
  exact(fr i q2).imp id λq=>⟨v,hbx,q⟩
variable{cv:AV}
structure RcV(s t t':Hq)(v:AV)(rs:List LS.Rec):Prop where
 ex:∃rows,SlR 3 t' v rows/\rows.length=rs.length/\(∀b o n c,v=.slc b o n c 3->rows≠[]->t b=none)/\
  ∀(i:Nat) (r:LS.Rec),rs[i]?=some r->∃lv,rows[i]?=some [Ii r.1,Ii r.2.1,lv]/\LS.Sli t' lv r.2.2/\r.2.2.length<=100000/\∀b o n c,lv=.slc b o n c 1->r.2.2≠[]->t b=none∨s b≠none
def ChO(s:Hq)(cv:AV)(wl:Wb)(up:Nat->Bool)(ch:Nat->List LS.Rec):Prop:=
 ∀t,Sub s t->∀q∈wl,up q.1=true->∀Q:AV->Hq->Prop,(∀t' v,Sub t t'->RcV s t t' v (ch q.1)->Q v t')->funK TP cv [q.1] Q t
def dY(wl:Wb)(up:Nat->Bool)(ch:Nat->List LS.Rec):List Ntc:=wl.flatMap λq=>if up q.1=true then(ch q.1).map λr=>(q.1,r)else[]
theorem Pq{up:Nat->Bool}{ch:Nat->List LS.Rec}:∀{wl:Wb},(∀q∈wl,(ch q.1).length<=40)->(dY wl up ch).length<=40*wl.length
 |[],_=>by simp[dY]
 | q::wl,h=>by
   have h1:=Pq (up:=up) (wl:=wl) λq hq=>h q (mO _ hq);have h2:=h q mem_cons_self;have e:dY (q::wl) up ch=(if up q.1=true then(ch q.1).map λr=>(q.1,r)else[])++dY wl up ch:=rfl;rw[e,lAp,length_cons];split;rw[lMY];omega;simp;omega
theorem Gh{wl:Wb}{up:Nat->Bool}{ch:Nat->List LS.Rec}{k:Nat}(hk:k<wl.length):dY (wl.take (k+1)) up ch=dY (wl.take k) up ch++(if up wl[k].1=true then(ch wl[k].1).map λr=>(wl[k].1,r)else[]):=by unfold dY;rw[take_add_one,flatMap_append,gE hk];simp
theorem qO{l b0:Nat}{ns:List Ntc}(z:Col s t l b0 ns){i:Nat}(h:fh t b0 i):s i=none/\t i≠none/\i≠b0/\i≠l:=by
 have ⟨v,q1,q2⟩:=h;have ⟨v',h1,h2,h3,h4,_⟩:=z.bx;rw[h1]at q1;cases q1;have ⟨rows,acc,_⟩:=h2.ex;have ⟨o,m,c,q3⟩:=id q2;refine⟨?_,?_,λe=>h3 (e ▸ q2),λe=>h4 (e ▸ q2)⟩
 ·rcases acc.2 with⟨q,_⟩|⟨b,q,q4,_⟩
  ·rw[q3]at q;cases q
  grind
 ·rcases acc.2 with⟨q,_⟩|⟨b,_,q4,q⟩
  ·rw[q3]at q;cases q
  grind
noncomputable abbrev lp2(bc by_:Nat)(st:LoopState)(d:Nat):Blk:=.loop st none 29 [(2,Pp bc),(3,Pp by_)] [10,11] (rfAs 0 (aI Tryz.f106)) (rfBo 0 (aI Tryz.f106)) d
structure NwI(sB:Hq)(l b0 l2 bc by_ bo:Nat)(p:Nat)(ns:List Ntc)(t:Hq):Prop where
 col:Col sB t l b0 ns
 lp:∃d,t l2=some (false,lp2 bc by_ .ready d)
 y:Hc t by_ 224 [.yield l]
 o:Hc t bo 22 [Pp p]
 n2:sB l2=none/\l2≠l
theorem Gi{sB:Hq}{wl:Wb}{W:Nat->DT.Wt}{ch:Nat->List LS.Rec}{l b0 l2 bc by_ bo k:Nat}(hk:k<wl.length)(hs:Sub s sB)(hbc:Hc sB bc 133 [cv])
  (hw:∀q∈wl,(∃t,DT.WtAt s q.2 t (W q.1))/\0<(W q.1).m) (hc:ChO sB cv wl (λn=>(W n).up) ch) (hlen:wl.length<=200) (hcl:∀q∈wl,(ch q.1).length<=40)
  (z:NwI sB l b0 l2 bc by_ bo p (dY (wl.take k) (λn=>(W n).up) ch) t) {Q:AV->Hq->Prop}(hQ:∀t',NwI sB l b0 l2 bc by_ bo p (dY (wl.take (k+1)) (λn=>(W n).up) ch) t'->Q true t') :
  funK TP (.yield l2) [(wl[k].1:Int),.ptr wl[k].2 0] Q t:=by
 have ⟨d,hlp⟩:=z.lp;have hq:wl[k]∈wl:=getElem_mem hk;obtain⟨⟨_,hwk⟩,hm⟩:=hw _ hq;rw[Gh hk]at hQ;refine⟨by grind [fR],W9 hlp ?_⟩;unfold Cw aK;refine⟨rfl,xy hlp λt1 hl1 u1=>?_⟩;have hno:∀tg el cs,t l2≠some (tg,.cells el cs):=gR;have ne2:∀{i e},t i=some e->(∀st d,e≠(false,lp2 bc by_ st d))->i≠l2:=gR;have col1:Col sB t1 l b0 (dY (wl.take k) (λn=>(W n).up) ch):=z.col.keep (fp:=λi=>i=l2) (u1.keep rfl) (by grind [NwI.n2]);have y1:Hc t1 by_ 224 [.yield l]:=by rw[u1 _ (λq=>hno _ _ _ (by rw[<- q];exact z.y))];exact z.y
 have o1:Hc t1 bo 22 [Pp p]:=by rw[u1 _ (λq=>hno _ _ _ (by rw[<- q];exact z.o))];exact z.o
 have st1:Sub sB t1:=col1.sub;have fin:∀u,Col sB u l b0 (dY (wl.take k) (λn=>(W n).up) ch++(if(W wl[k].1).up=true then(ch wl[k].1).map λr=>(wl[k].1,r)else[]))->(∃d,u l2=some (false,lp2 bc by_ .busy d))->Hc u by_ 224 [.yield l]->Hc u bo 22 [Pp p]->endK l2 .nrm Q u:=by rintro u c1 ⟨d,c2⟩ c3 c4;refine qM c2 λu' e1 e2=>hQ u' ⟨c1.keep (fp:=λi=>i=l2) (e2.keep rfl) (by grind [NwI.n2]),⟨d,e1⟩,?_,?_,z.n2⟩;rw[e2 _ (λq=>gR)];exact c3;rw[e2 _ (λq=>gR)];exact c4
 refine DT.Up_in (hwk.sub (hs.trans st1)) hm ?_;simp only[bD,ae];cases hup:(W wl[k].1).up with
 | false=>
   simp_all
 | true=>
   simp only[Bool.not_true,ay,aj (st1 _ _ hbc),g0Y,ae];refine hc t1 st1 _ hq hup _ λt2 v sub2 rv=>?_;have ⟨rows,hsl,hrl,hfr,hrows⟩:=rv.ex;simp only[hsl.len,ae];have hcn:=hcl _ hq;have col2:=col1.more sub2;refine⟨λys u m=>∃j:Nat,ys=[Ii j]/\j<=rows.length/\m=rows.length-j/\Col sB u l b0 (dY (wl.take k) (λn=>(W n).up) ch++((ch wl[k].1).take j).map λr=>(wl[k].1,r))/\(∃d,u l2=some (false,lp2 bc by_ .busy d))/\Hc u by_ 224 [.yield l]/\Hc u bo 22 [Pp p]/\
    ∀b e,t2 b=some e->(sB b≠none∨t1 b=none)->u b=some e/\¬fh u b0 b,⟨_,0,rfl,oM,rfl,by simpa using col2,⟨d,sub2 _ _ hl1⟩,sub2 _ _ y1,sub2 _ _ o1,λb e hb ho=>⟨hb,λq=>?_⟩⟩,?_⟩
   ·have ⟨q1,q2,_⟩:=qO col2 q
    rcases ho with ho|ho;exact ho q1
    ·obtain⟨v',a1,a2⟩:=q
     have:fh t1 b0 b:=by have ⟨v2,a3,_⟩:=col1.bx;rw[sub2 _ _ a3]at a1;cases a1;exact⟨_,a3,a2⟩
     grind [qO]
   ·rintro g u m ⟨j,hy,hj,rfl,cu,⟨d3,l3⟩,y3,o3,kp⟩
    simp only[cI,and_true]at hy;rw[hy];simp only[N8,aH,ae,aA];refine au (λhlt=>?_) (λhge=>?_)
    ·have hlt:j<rows.length:=gR
     have hjc:j<(ch wl[k].1).length:=oM;have ⟨lv,e1,e2,e3,e4⟩:=hrows j _ (gE hjc);have hsl3:SlR 3 u v rows:=hsl.keep (fp:=λb=>¬(sB b≠none∨t1 b=none)) (λb e hb hn=>(kp b e hb (Classical.not_not.1 hn)).1) λb o n c e hne q=>q (.inr (hfr b o n c e hne));have hli:LS.Sli u lv (ch wl[k].1)[j].2.2:=Sl.keep (fp:=λb=>¬(sB b≠none∨t1 b=none)) e2 (λb e hb hn=>(kp b e hb (Classical.not_not.1 hn)).1) λb o n c e hne q=>q ((e4 b o n c e (by simpa using hne)).symm);have ⟨b,o,g1,g2,_⟩:=hsl3.get (i:=j) e1;simp only[g1,g2,ae];refine an λb12 u1' hb12 h12 v12=>aZ h12 rfl rfl (ff (qN hli)) λu2 h2' v2=>?_;have up2:Upto b12 u u2:=λi hi=>by rw[v2 i hi,v12 i hi]
     have subu:=up2.sub hb12;simp only[aj (subu _ _ y3),g0Y,ae,aQ (n:=3) h2' rfl];have cu2:=cu.more subu;have hlen2:(dY (wl.take k) (λn=>(W n).up) ch++((ch wl[k].1).take j).map λr=>(wl[k].1,r)).length<=100000:=by rw[lAp,lMY,length_take];have:=Pq (up:=λn=>(W n).up) (ch:=ch) (wl:=wl.take k) λq hq=>hcl q (mem_of_mem_take hq);rw[length_take]at this;omega
     refine Gg cu2 (hli.sub subu) e3 hlen2 λu3 c3 k3 f3=>?_;simp only[bD,Bool.not_true,ae,ay,aJ];rw[aC];have lstu:∀i,fh u2 b0 i->fh u b0 i:=λi ⟨v',a1,a2⟩=>by have ⟨v2,a3,_⟩:=cu.bx;rw[subu _ _ a3]at a1;cases a1;exact⟨_,a3,a2⟩
     have stay:∀{i e},u i=some e->i≠l->i≠b0->¬fh u b0 i->u3 i=some e/\¬fh u3 b0 i:=fun {i e} hi h1 h2 h3=>by
      refine⟨k3 _ _ (subu _ _ hi) ?_,λq=>?_⟩;rintro (q|q|q);exact h1 q;exact h2 q;exact h3 (lstu i q)
      ·rcases f3 i q with q|q
       ·rw[subu _ _ hi]at q;cases q
       exact h3 (lstu i q)
     have ⟨dl,hlu⟩:=cu.lp;have ⟨vb,hbu,hnu,_⟩:=cu.bx;have nl:∀{i tg el cs},u i=some (tg,.cells el cs)->i≠l:=gR;have nlst:∀{i e},u i=some e->(∀cs,e≠(false,.cells 190 cs))->¬fh u b0 i:=fun {i e} hi hn ⟨v',a1,a2⟩=>by
      rw[hbu]at a1;cases a1;have ⟨rows',acc,_⟩:=hnu.ex;have ⟨o',m',c',q3⟩:=a2;rcases acc.2 with⟨q,_⟩|⟨b',_,q4,q⟩
      ·rw[q3]at q;cases q
      ·rw[q3]at q4;cases q4;rw[hi]at q;cases q;exact hn _ rfl
     have nb0:∀{i e},u i=some e->(∀cs,e≠(false,.cells 36 cs))->i≠b0:=fun {i e} hi hn q=>by rw[q,hbu]at hi;cases hi;exact hn _ rfl
     refine⟨_,oM,j+1,sI,oM,rfl,?_,⟨d3,(stay l3 z.n2.2 (nb0 l3 (λcs q=>by cases q)) (nlst l3 (λcs q=>by cases q))).1⟩,(stay y3 (nl y3) (nb0 y3 (λcs q=>by cases q)) (nlst y3 (λcs q=>by cases q))).1,(stay o3 (nl o3) (nb0 o3 (λcs q=>by cases q)) (nlst o3 (λcs q=>by cases q))).1,λi e hi ho=>?_⟩;have e5:((ch wl[k].1).take (j+1)).map (λr=>(wl[k].1,r))=((ch wl[k].1).take j).map (λr=>(wl[k].1,r)) ++ [(wl[k].1,(ch wl[k].1)[j])]:=by rw[take_add_one,gE hjc,map_append];rfl
     grind
     ·have ⟨a1,a2⟩:=kp i e hi ho
      refine stay a1 (λq=>?_) (λq=>?_) a2
      ·rcases ho with ho|ho
       exact ho (by rw[q];exact cu.hl)
       ·rw[q]at ho
        have ⟨d5,q5⟩:=col1.lp;rw[q5]at ho;cases ho
      ·rcases ho with ho|ho
       exact ho (by rw[q];exact cu.hb)
       ·rw[q]at ho
        have ⟨v5,q5,_⟩:=col1.bx;rw[q5]at ho;cases ho
    grind
variable{tp:Bool}
theorem qP{l:Nat}{Kn Kr:Hq->Prop}{Ke:Nat->Hq->Prop}{st:LoopState}{nt:Nat}{kp:List (Nat×AV)}{ps:List Tmp}{ac bo:Code}{d:Nat}(h:s l=some (false,.loop st none nt kp ps ac bo d))(hst:st≠.busy)(hk:Kn (hdel s l)):kU l Kn Kr Ke s:=by
 grind [kU]
theorem Zm{wl:Wb}{W:Nat->DT.Wt}{ch:Nat->List LS.Rec}(hasc:wl.Pairwise λa b=>a.1<b.1)(hlen:wl.length<=200)(h:s p=some (tp,.cells 75 (roC x ad lf sp lv mv wm d f tk la uv dv)))(hm:LS.MapR s wm (mW wl))
  (hw:∀q∈wl,(∃t,DT.WtAt s q.2 t (W q.1))/\0<(W q.1).m) (hc:∀s',Sub s s'->ChO s' cv wl (λn=>(W n).up) ch) (hcv:cv.one=true) (hcl:∀q∈wl,(ch q.1).length<=40)
  (hK:∀s0 s' v,Sub s s0->Sub s s'->Sub s0 s'->Nts s0 s' v (dY wl (λn=>(W n).up) ch)->K v s'):wC TP 53 [Pp p,cv] (λv s=>wC TP 52 [v] K s) s:=by
 refine W5 (cW rfl λbr s1 hbr h1 u1=>cW hcv λbc s2 hbc h2 u2=>?_);refine W1 (an λb0 s3 hb0 h3 u3=>⟨kR,trivial,λl d1 hl=>?_⟩);have sub2:Sub s s2:=(u1.sub hbr).trans (u2.sub hbc);have sub3:=u3.sub hb0;have hl2:s2 l=none:=cq sub3 hl;have ne:b0≠l:=λe=>gR;show wC TP 106 [.yield l,Pp br,Pp bc] _ (hset s3 l _);obtain⟨s4,hs4⟩:∃s4,s4=hset s3 l (false,.loop .ready none 20 [(3,Pp b0)] [7,8] (rfAs 0 (aI Tryz.f52)) (rfBo 0 (aI Tryz.f52)) d1):=⟨_,rfl⟩
 rw[<- hs4];have h4:s4 l=some (false,.loop .ready none 20 [(3,Pp b0)] [7,8] (rfAs 0 (aI Tryz.f52)) (rfBo 0 (aI Tryz.f52)) d1):=by rw[hs4,cr]
 have u4:Upto l s3 s4:=λi hi=>by rw[hs4,bg hi]
 have sub4:=u4.sub hl;have sub24:=sub3.trans sub4;have col4:Col s2 s4 l b0 []:=⟨sub24,hb0,hl2,ne,⟨_,h4⟩,⟨.nilslc,sub4 _ _ h3,.nil,(λ⟨_,_,_,q⟩=>by cases q),(λ⟨_,_,_,q⟩=>by cases q),rfl⟩⟩
 refine W7 (cW rfl λby_ s5 hby h5 u5=>?_);have sub5:=u5.sub hby;have hbr5:Hc s5 br 22 [Pp p]:=sub5 _ _ (sub24 _ _ ((u2.sub hbc) _ _ h1));simp only[aj hbr5,g0Y,ae];refine jL λbo s6 hbo h6 u6=>⟨kR,trivial,λl2 d2 hl2'=>?_⟩
 have sub6:=u6.sub hbo;have sub26:Sub s2 s6:=(sub24.trans sub5).trans sub6;show wC TP 96 [.yield l2,Pp bo] _ (hset s6 l2 _);obtain⟨s7,hs7⟩:∃s7,s7=hset s6 l2 (false,lp2 bc by_ .ready d2):=⟨_,rfl⟩
 rw[show hset s6 l2 _=s7 from hs7.symm];have h7:s7 l2=some (false,lp2 bc by_ .ready d2):=by rw[hs7,cr]
 have u7:Upto l2 s6 s7:=λi hi=>by rw[hs7,bg hi]
 have sub7:=u7.sub hl2';have n2:s2 l2=none/\l2≠l:=⟨cq sub26 hl2',λe=>by rw[e,sub6 _ _ (sub5 _ _ h4)]at hl2';cases hl2'⟩
 have nw0:NwI s2 l b0 l2 bc by_ bo p (dY (wl.take 0) (λn=>(W n).up) ch) s7:=
  ⟨col4.more ((sub5.trans sub6).trans sub7),⟨d2,h7⟩,sub7 _ _ (sub6 _ _ h5),sub7 _ _ h6,n2⟩
 refine Gb (p:=p) (wm:=wm) hasc hlen (I:=λk t=>NwI s2 l b0 l2 bc by_ bo p (dY (wl.take k) (λn=>(W n).up) ch) t) nw0 (λk t z=>?_) (λk hk t z Q hQ=>?_) λr s8 z sub8=>?_;exact⟨⟨_,_,z.o⟩,⟨_,_,z.col.sub _ _ (sub2 _ _ h),rfl⟩,hm.sub (sub2.trans z.col.sub)⟩;exact Gi hk sub2 h2 hw (hc s2 sub2) hlen hcl z hQ;rw[take_length]at z;have ⟨dz,lz⟩:=z.lp;have ⟨dl,ll⟩:=z.col.lp;have ⟨vz,bz,nz,_⟩:=z.col.bx;have nb2:b0≠l2:=λe=>gR;refine qP (sub8 _ _ lz) sI ?_;have l9:hdel s8 l2 l=some (false,.loop .ready none 20 [(3,Pp b0)] [7,8] (rfAs 0 (aI Tryz.f52)) (rfBo 0 (aI Tryz.f52)) dl):=by rw[bZ n2.2.symm];exact sub8 _ _ ll
 refine qP l9 sI ?_;have b9:hdel (hdel s8 l2) l b0=some (false,.cells 36 [vz]):=by rw[bZ ne,bZ nb2];exact sub8 _ _ bz
 simp only[aj b9,g0Y,ae];have k9:aB (λi=>i=l∨i=l2) r (hdel (hdel s8 l2) l):=λi e hi hn=>by rw[bZ λq=>hn (.inl q),bZ λq=>hn (.inr q)];exact sub8 _ _ hi
 have s29:Sub s2 (hdel (hdel s8 l2) l):=λi e hi=>by
  refine k9 _ _ (z.col.sub _ _ hi) ?_
  grind
 refine hK s2 _ _ sub2 (sub2.trans s29) s29 (nz.keep k9 λi q tg el cs e=>?_)
 grind
def lks(wl:Wb):List Int:=wl.map λq=>(q.1:Int)
def upL(wl:Wb)(W:Nat->DT.Wt):List Int:=lks (wl.filter λq=>(W q.1).up)
theorem Pr{wl:Wb}(hasc:wl.Pairwise λa b=>a.1<b.1)(hlen:wl.length<=200)(h:s p=some (tp,.cells 75 (roC x ad lf sp lv mv wm d f tk la uv dv)))(hm:LS.MapR s wm (mW wl))
  (hK:∀s' v,Sub s s'->Acc 3 s s' v (izs (lks wl))->K v s'):wC TP 10 [Pp p] K s:=by
 refine Xh (cP h ?_);simp only[bD,Bool.not_true,ae,ay,aO,ao,aj h,zAY,g1Y,g0Y];refine AX Go.Proofs.YtcmcofklcgafiaaGreat.sortedOK (p:=(43,95,70)) sI λb2 s2 hb2 h2 u2=>?_;have sub2:=u2.sub hb2;refine LS.Pj Go.Proofs.YtcmcofklcgafiaaGreat.sortedOK sI h2 (hm.sub sub2) (by grind [mW]) λv s3 acc sub3=>?_;rw[qK hasc]at acc;have e:lks wl=(wl.map (·.1)).map λ(n:Nat)=>(n:Int):=by simp_all [lks]
 rw[<- e]at acc;exact hK s3 v (sub2.trans sub3) (acc.imp id λ⟨b,q1,q2⟩=>⟨b,cq sub2 q1,q2⟩)
theorem Ps{elem:TypeId}{y:AV}{l m:List AV}(hm:m≠[])(h:Acc elem s0 t v l)(hs:Sub s0 t)(hy:Sl t y m)(hl:l.length+m.length<=16777216)
  (hK:∀v' s',Acc elem s0 s' v' (l++m)->aB (bH 1 v) t s'->(∀b,bH 1 v' b->t b=none∨bH 1 v b)->K v' s'):appK elem 1 v y K t:=by
 have own:∀{i:Nat},¬bH 1 v i->offV v t i=t i:=fun {i} hn=>dX λb o n c e' q1 q2=>by
  subst q2;rcases h with⟨q6,_⟩|⟨b'',_,q6,_⟩
  ·rw[q1]at q6;cases q6
  ·rw[q1]at q6;cases q6;exact hn ⟨_,_,_,q1⟩
 have old:∀{i:Nat},bH 1 v i->s0 i=none:=fun {i} ⟨o,n,c,q4⟩=>by
  rcases h with⟨q5,_⟩|⟨b',q6,q5,_⟩
  ·rw[q4]at q5;cases q5
  grind
 have ho:Acc elem (offV v t) t v l:=by
  refine h.imp id λ⟨b,q1,q2,q3⟩=>⟨b,?_,q2,q3⟩
  rw[q2];exact if_pos rfl
 refine Acc.app ho hy hm hl (λi hi q=>hi (cq ic q)) λv' s' acc kp=>?_;have fr:∀b,offV v t b=none->t b=none∨bH 1 v b:=(by grind [bH])
 have acc':Acc elem s0 s' v' (l++m):=by rcases acc with q|⟨b,q1,q2,q3⟩;exact .inl q;refine .inr ⟨b,?_,q2,q3⟩;rcases fr b q1 with q|q;exact cq hs q;exact old q
 refine hK v' s' acc' (λi e hi hn=>kp i e hi λb q1 q2=>hn (by rw[q2];exact⟨_,_,_,q1⟩)) λb ⟨o,n,c,q1⟩=>?_;rcases acc with⟨q2,_⟩|⟨b',q3,q2,_⟩
 ·rw[q1]at q2;cases q2
 grind
theorem xz{elem:TypeId}{y w:AV}{l:List AV}(h:Acc elem s0 t v l)(hs:Sub s0 t)(hy:Sl t y [w])(hne:∀b o n c,y=.slc b o n c 1->¬bH 1 v b)(hl:l.length+1<=16777216)
  (hK:∀v' s',Acc elem s0 s' v' (l ++ [w])->aB (bH 1 v) t s'->(∀b,bH 1 v' b->t b=none∨bH 1 v b)->K v' s'):appK elem 1 v y K t:=(by grind [Ps])
structure UpI(sB:Hq)(l b0 bo p:Nat)(ns:List Int)(t:Hq):Prop where
 sub:Sub sB t
 hb:sB b0=none
 hl:sB l=none
 lp:∃d,t l=some (false,.loop .ready none 20 [(3,Pp b0)] [11,12] (rfAs 0 (aI Tryz.f11)) (rfBo 0 (aI Tryz.f11)) d)
 bx:∃v,Hc t b0 25 [v]/\Acc 3 sB t v (izs ns)/\¬bH 1 v b0/\¬bH 1 v l/\¬bH 1 v bo
 o:Hc t bo 22 [Pp p]
 ob:bo≠b0/\bo≠l/\sB bo=none
theorem Gj{a:Int}:aq (repl 1 [(Ii 0)]) [(0,1,a)]=some [Ii a]:=rfl
theorem Gk{l b0 bo:Nat}{ns:List Int}{n w:Nat}{W:DT.Wt}{Q:AV->Hq->Prop}{tw:Bool}(z:UpI s l b0 bo p ns t)(hw:DT.WtAt s w tw W)(hm:0<W.m)(hns:ns.length<=1000)
  (hQ:∀t',UpI s l b0 bo p (ns++(if W.up=true then[(n:Int)]else[])) t'->Q true t') :
  funK TP (.yield l) [n,Pp w] Q t:=by
 have ⟨d,hlp⟩:=z.lp;obtain⟨v,hbx,acc,n1,n2,n3⟩:=z.bx;refine⟨by grind [fR],Xl hlp ?_⟩;unfold Cz;refine⟨rfl,xy hlp λt1 hl1 u1=>?_⟩;have hno:∀tg el cs,t l≠some (tg,.cells el cs):=gR;have k1:aB (λi=>i=l) t t1:=u1.keep rfl;have sub1:Sub s t1:=λi e hi=>k1 _ _ (z.sub _ _ hi) (by grind [UpI.hl]);have b1:Hc t1 b0 25 [v]:=k1 _ _ hbx λq=>gR;have o1:Hc t1 bo 22 [Pp p]:=k1 _ _ z.o z.ob.2.1;have acc1:Acc 3 s t1 v (izs ns):=acc.imp id λ⟨b,q1,q2,q3⟩=>⟨b,q1,q2,k1 _ _ q3 λq=>hno _ _ _ (by rw[<- q];exact q3)⟩
 refine DT.Up_in (hw.sub sub1) hm ?_;cases hup:W.up with
 | false=>
   simp only[ay];refine qM hl1 λt2 hl2 u2=>hQ t2 ?_;have k2:aB (λi=>i=l) t1 t2:=u2.keep rfl;have hno1:∀tg el cs,t1 l≠some (tg,.cells el cs):=gR;rw[hup];refine⟨λi e hi=>k2 _ _ (sub1 _ _ hi) ((by grind [UpI.hl])),z.hb,z.hl,⟨d,hl2⟩,⟨v,k2 _ _ b1 λq=>gR,?_,n1,n2,n3⟩,k2 _ _ o1 z.ob.2.1,z.ob⟩;simp only[Bool.false_eq_true,if_false,append_nil];exact acc1.imp id λ⟨b,q1,q2,q3⟩=>⟨b,q1,q2,k2 _ _ q3 λq=>gR⟩
 | true=>
   simp only[aF,aj b1,g0Y,ae,Gj];refine⟨rfl,an λb5 t2 hb5 h5 u5=>?_⟩;have sub2:=u5.sub hb5;have acc2:Acc 3 s t2 v (izs ns):=acc1.imp id λ⟨b,q1,q2,q3⟩=>⟨b,q1,q2,sub2 _ _ q3⟩
   refine xz acc2 (sub1.trans sub2) (Sl.mk (l:=[n]) h5 rfl sI) (λb o m c e q=>?_) (by rw[lMY];omega) λv' t3 acc3 k3 f3=>?_
   ·cases e
    have ⟨o,m,c,q2⟩:=q;rcases acc1 with⟨q3,_⟩|⟨b',_,q3,q4⟩
    ·rw[q2]at q3;cases q3
    ·rw[q2]at q3;cases q3;rw[hb5]at q4;cases q4
   have b3:Hc t3 b0 25 [v]:=k3 _ _ (sub2 _ _ b1) n1;have l3:=k3 _ _ (sub2 _ _ hl1) n2;have o3:=k3 _ _ (sub2 _ _ o1) n3;have hv1:v'.one=true:=by rcases acc3 with⟨q,_⟩|⟨b,_,q,_⟩<;>rw[q]<;>rfl
   refine aT b3 sI hv1 λt4 h4 u4=>?_;have h4:Hc t4 b0 25 [v']:=h4;have ne:b0≠l:=λq=>gR;have l4:t4 l=some (false,.loop .busy none 20 [(3,Pp b0)] [11,12] (rfAs 0 (aI Tryz.f11)) (rfBo 0 (aI Tryz.f11)) d):=by rw[u4 _ ne.symm];exact l3
   refine qM l4 λt5 l5 u5'=>hQ t5 ?_;rw[hup];have fr:∀i,t1 i≠none->¬bH 1 v i->¬bH 1 v' i:=λi hi hn q=>by rcases f3 i q with q2|q2;exact hi (cq sub2 q2);exact hn q2
   have hold:∀i e,s i=some e->¬bH 1 v i:=λi e hi ⟨o,m,c,q⟩=>by
    rcases acc with⟨q2,_⟩|⟨b,q1,q2,_⟩
    ·rw[q]at q2;cases q2
    grind
   refine⟨λi e hi=>?_,z.hb,z.hl,⟨d,l5⟩,⟨v',by rw[u5' _ ne];exact h4,?_,fr _ (by rw[b1];simp) n1,fr _ (by rw[hl1];simp) n2,fr _ (by rw[o1];simp) n3⟩,by rw[u5' _ z.ob.2.1,u4 _ z.ob.1];exact o3,z.ob⟩
   ·have i1:i≠l:=(by grind [UpI.hl])
    have i2:i≠b0:=λq=>by rw[q,z.hb]at hi;cases hi
    rw[u5' i i1,u4 i i2];exact k3 _ _ (sub2 _ _ (sub1 _ _ hi)) (hold i e hi)
   ·have e:izs (ns++if true=true then[(n:Int)]else[])=izs ns ++ [Ii n]:=sI
    rw[e];refine acc3.imp id λ⟨b,q1,q2,q3⟩=>⟨b,q1,q2,?_⟩
    rw[u5' b (λq=>by rw[q,l3]at q3;cases q3),u4 b (λq=>gR)];exact q3
theorem Up_in{wl:Wb}{W:Nat->DT.Wt}(hasc:wl.Pairwise λa b=>a.1<b.1)(hlen:wl.length<=200)(h:s p=some (tp,.cells 75 (roC x ad lf sp lv mv wm d f tk la uv dv)))(hm:LS.MapR s wm (mW wl))
  (hw:∀q∈wl,(∃t,DT.WtAt s q.2 t (W q.1))/\0<(W q.1).m)
  (hK:∀s' v,Sub s s'->Acc 3 s s' v (izs (upL wl W))->K v s'):wC TP 11 [Pp p] K s:=by
 refine Xj (cP h ?_);simp only[bD,Bool.not_true,ae,ay];refine an λb0 s1 hb0 h1 u1=>jL λbo s2 hbo h2 u2=>⟨kR,trivial,λl d1 hl=>?_⟩
 have sub1:=u1.sub hb0;have sub2:=u2.sub hbo;have sub12:=sub1.trans sub2;show wC TP 96 [.yield l,Pp bo] _ (hset s2 l _);obtain⟨s3,hs3⟩:∃s3,s3=hset s2 l (false,.loop .ready none 20 [(3,Pp b0)] [11,12] (rfAs 0 (aI Tryz.f11)) (rfBo 0 (aI Tryz.f11)) d1):=⟨_,rfl⟩
 rw[<- hs3];have h3:s3 l=some (false,.loop .ready none 20 [(3,Pp b0)] [11,12] (rfAs 0 (aI Tryz.f11)) (rfBo 0 (aI Tryz.f11)) d1):=by rw[hs3,cr]
 have u3:Upto l s2 s3:=λi hi=>by rw[hs3,bg hi]
 have sub3:=u3.sub hl;have nb:bo≠b0:=λq=>gR;have nl:bo≠l:=λq=>gR;have z0:UpI s l b0 bo p (upL (wl.take 0) W) s3:=⟨sub12.trans sub3,hb0,cq sub12 hl,⟨_,h3⟩,⟨.nilslc,sub3 _ _ (sub2 _ _ h1),.inl ⟨rfl,rfl⟩,(λ⟨_,_,_,q⟩=>by cases q),(λ⟨_,_,_,q⟩=>by cases q),(λ⟨_,_,_,q⟩=>by cases q)⟩,sub3 _ _ h2,nb,nl,cq sub1 hbo⟩
 refine Gb (p:=p) (wm:=wm) hasc hlen (I:=λk t=>UpI s l b0 bo p (upL (wl.take k) W) t) z0 (λk t z=>⟨⟨_,_,z.o⟩,⟨_,_,z.sub _ _ h,rfl⟩,hm.sub z.sub⟩) (λk hk t z Q hQ=>?_) λr s8 z sub8=>?_
 ·have ⟨⟨tw,hwk⟩,hmk⟩:=hw _ (getElem_mem hk)
  refine Gk z hwk hmk ?_ λt' z'=>hQ t' ?_
  grind [upL,lks]
  ·have e:upL (wl.take (k+1)) W=upL (wl.take k) W++(if(W wl[k].1).up=true then[(wl[k].1:Int)]else[]):=by
    unfold upL lks;rw[take_add_one,gE hk,filter_append,map_append]
    congr 1
    cases q:(W wl[k].1).up<;>simp[q]
   rw[e];exact z'
 ·rw[take_length]at z
  have ⟨dz,lz⟩:=z.lp;obtain⟨vz,bz,az,_⟩:=z.bx;refine qP (sub8 _ _ lz) sI ?_;have ne:b0≠l:=λq=>gR;have b9:hdel s8 l b0=some (false,.cells 25 [vz]):=by rw[bZ ne];exact sub8 _ _ bz
  simp only[aj b9,g0Y,ae];refine hK _ _ (λi e hi=>?_) (az.imp id λ⟨b,q1,q2,q3⟩=>⟨b,q1,q2,?_⟩)
  ·rw[bZ λq=>by rw[q,z.hl]at hi;cases hi];exact sub8 _ _ (z.sub _ _ hi)
  ·rw[bZ λq=>by rw[q,lz]at q3;cases q3];exact sub8 _ _ q3
variable{m:Nat}{nodes dl now:Int}{hv:AV}{F:List (Int × LS.Rec)}
def chT(now:Int)(rs:Nat->Bool)(F:List (Int×LS.Rec))(made:Bool)(rec:LS.Rec)(n:Nat):List LS.Rec:=
 if(rs n||decide (now.tmod 8=0))=true then LS.allR F else if made=true then[rec]else[]
def ez(rs:Nat->Bool):List AV:=(List.range 128).map λn=>(rs n)
theorem Pu{rs:Nat->Bool}:(ez rs).length=128:=by unfold ez;simp
theorem Pv{rs:Nat->Bool}{n:Nat}(h:n<128):(ez rs)[n]?=some (.bool (rs n)):=by unfold ez;simp[h]
theorem Pw{b n:Nat}(h:n<128):cN 128 1 (Pp b) n=some (.ptr b n):=by
 have:blt n 128=true:=by rw[blt_eq];exact h
 show(match nat? n with|some i=>cond (blt i 128) (some (AV.ptr b (0+i*1))) none|none=>none)=_
 grind [nat?_mk]
theorem jN{a b:Int}{w:AV}(hw:w.one=true):aq (repl 1 [(Ii 0),(Ii 0),.nilslc]) [(0,3,.agg [a,b,w])]=some [Ii a,Ii b,w]:=by cases w<;>first|rfl|cases hw
theorem RcV.single{b:Nat}{r:LS.Rec}(hb:t b=none)(h:Hc s' b 34 [r.1,r.2.1,lv])(hl:LS.Sli s' lv r.2.2)(hn:r.2.2.length<=100000)(ho:∀b o n c,lv=.slc b o n c 1->r.2.2≠[]->t b=none∨s b≠none):RcV s t s' (.slc b 0 1 (some 1) 3) [r]:=by
 refine⟨[[r.1,r.2.1,lv]],SlR.mk (rows:=[[r.1,r.2.1,lv]]) gR (by simpa using h) rfl sI,rfl,gR,λi r' hi=>?_⟩
 grind
theorem RcV.no:RcV s t s' .nilslc []:=⟨[],⟨sI,.inl ⟨rfl,rfl⟩⟩,rfl,(λ_ _ _ _ e=>by cases e),(λi r hi=>by simp at hi)⟩
theorem RcV.all{rs:List LS.Rec}(h:LS.RcW t s' v rs)(hn:∀r∈rs,r.2.2.length<=100000):RcV s t s' v rs:=by
 have ⟨rows,h1,h2,h3,h4⟩:=h;refine⟨rows,h1,h2,h3,λi r hi=>?_⟩
 grind
theorem Px{r:LS.Rec}(h:r∈LS.allR F):∃k,look F k=some r:=by have ⟨k,_,e⟩:=mem_filterMap.1 h;exact⟨k,e⟩
theorem Gl{wl:Wb}{up:Nat->Bool}{rs:Nat->Bool}{made:Bool}{rec:LS.Rec}{br bn bR bm bq:Nat}(hR:Hc s bR 22 [Pp p])(hp:s p=some (tp,.cells 75 (roC x ad lf sp lv mv wm d f tk la uv dv)))(hd:LS.Db (λ_=>False) s d m nodes x dl F)
  (hr:Hc s br 134 (ez rs)) (hn:Hc s bn 3 [now]) (hm:Hc s bm 4 [made]) (hq:Hc s bq 34 [rec.1,rec.2.1,v]) (hv:LS.Sli s v rec.2.2) (hvl:rec.2.2.length<=100000) (hwl:∀q∈wl,q.1<128) :
  ChO s (.fn (.func 59) [] [Pp br,Pp bn,Pp bR,Pp bm,Pp bq]) wl up (chT now rs F made rec):=by
 intro t st q hq' _ Q hQ;refine⟨kR,?_⟩;show wC TP 59 [q.1,Pp br,Pp bn,Pp bR,Pp bm,Pp bq] Q t;refine Xc ?_;have hd':=hd.sub st;simp only[Oa,Pw (hwl q hq'),ae,aj (st _ _ hr),Pv (hwl q hq')];have all:(rs q.1||decide (now.tmod 8=0))=true->wC TP 60 [Pp d] (λv s=>Q v s) t:=λh=>LS.FQ hd' λv t' sub rw'=>hQ t' v sub (by unfold chT;rw[if_pos h];exact RcV.all rw' λr hr=>by have ⟨k,e⟩:=Px hr;exact(hd.gd k r e).2.2)
 have e8:bO .rem now (Ii 8)=some (Ii (now.tmod 8)):=jg dE;have j0:∀t12 t15:AV,bK t12 true t15=some (.bool (rs q.1||decide (now.tmod 8=0)))->vX (Pp bR) (Pp bm) (Pp bq) t12 t15 Q t:=by
  intro t12 t15 hp';unfold vX;rw[hp',bG];refine au (λh=>?_) (λh=>?_)
  ·simp only[aj (st _ _ hR),g0Y,ae,aO,ao,zAY,aj (st _ _ hp),g1Y]
   exact all h
  ·simp only[aj (st _ _ hm),g0Y,ae]
   have hch:chT now rs F made rec q.1=if made=true then[rec]else[]:=by unfold chT;grind
   cases hmade:made with
   | true=>
     simp only[aF,aQ (n:=3) (st _ _ hq) rfl,ae,jN (Sl.one hv)];refine⟨ff (Sl.one hv),an λb t' hb h' u'=>hQ t' _ (u'.sub hb) ?_⟩;rw[hch,hmade,if_pos rfl];exact RcV.single hb h' (hv.sub (st.trans (u'.sub hb))) hvl (by grind [jM])
   | false=>
     grind [ay,RcV.no,Sub.refl]
 cases hrs:rs q.1 with
 | true=>
   simp_all
 | false=>
   simp only[ay,aj (st _ _ hn),g0Y,ae,e8,aR,aG,Bool.false_bne]
   grind [aS]
end Go.AM.RT
