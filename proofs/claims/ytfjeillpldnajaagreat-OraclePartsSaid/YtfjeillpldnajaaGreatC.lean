/- Part C of the proof: see the last part. -/
import Derived.Test.YtfjeillpldnajaaGreatV
set_option linter.unusedVariables false
namespace Go.AM.TN
open Go Go.Proofs
variable {K:AV→Hq→Prop} {s s' s0 t:Hq} {lv v y:AV}
theorem qAX{s s' s'':Hq}{b:Nat}(h:Sub s s')(u:Upto b s' s'')(hb:s b=none):Sub s s'':=λi e hi=>by rw[u i (qJ1 hb hi)];exact h i e hi
theorem qCL(k:Sub s s'){b:Nat}(h:s' b=none):s b=none:=by
 cases q:s b with
 |none=>rfl
 |some y=>rw[k _ _ q]at h;cases h
theorem zADO{x:Int}{n:Nat}(hx:-9223372036854775808<=x/\x<=9223372036854775807)(hn:1<=n)(hn2:n<=1000)(hK:∀r:Nat,r<n->K (.int .i64 (r:Int)) s):wC TP XX 15 [.int .i64 x,.int .i64 (n:Int)] K s:=by
 refine qWi ?_;have c:decide ((n:Int)<=0)=false:=decide_eq_false (by omega);have h1:=Int.tmod_lt_of_pos x (show(0:Int)<(n:Int)by omega);have h2:-(n:Int)<x.tmod n:=by have:=Int.tmod_lt_of_pos (-x) (show(0:Int)<(n:Int)by omega);rw[Int.neg_tmod]at this;omega
 simp only[zAAb,qEP,c,qAD,qI8 (show(n:Int)≠0 by omega),qAU,qAB];rw[qAe (by omega) (by omega),Int.tmod_eq_emod_of_nonneg (by omega)];have h3:=Int.emod_nonneg (x.tmod n+n) (show(n:Int)≠0 by omega);have h4:=Int.emod_lt_of_pos (x.tmod n+n) (show(0:Int)<(n:Int)by omega);obtain⟨r,hr⟩:∃r:Nat,(x.tmod n+n) % (n:Int)=r:=⟨((x.tmod n+n) % (n:Int)).toNat,by omega⟩
 rw[hr];exact hK r (by omega)
structure Tk(s0 t:Hq)(b:Nat):Prop where
 sub:Sub s0 t
 fr:s0 b=none
 ex:∃(lv:AV) (l:List Int) (i:Nat),t b=some (false,.cells 110 [lv,.int .i64 (i:Int)])/\i<=9223372036854775807/\l.length<=9223372036854775807/\Sl s0 lv (l.map (AV.int .i64))/\∀x∈l,-9223372036854775808<=x/\x<=9223372036854775807
theorem Tk.more{b:Nat}(h:Tk s0 t b)(k:Sub t s):Tk s0 s b:=by obtain⟨lv,l,i,h1,h2⟩:=h.ex;exact⟨h.sub.trans k,h.fr,lv,l,i,k _ _ h1,h2⟩
theorem Tk.keep{b:Nat}(h:Tk s0 t b){fp:Nat->Prop}(k:qBp fp t s)(hb:¬fp b)(h0:∀i,fp i->s0 i=none):Tk s0 s b:=by obtain⟨lv,l,i,h1,h2⟩:=h.ex;exact⟨λi e hi=>k _ _ (h.sub _ _ hi) λq=>(by rw[h0 i q]at hi;cases hi),h.fr,lv,l,i,k _ _ h1 hb,h2⟩
theorem qPv{b:Nat}{n:Nat}(h:Tk s0 t b)(hn:1<=n)(hn2:n<=1000)(hK:∀t' (r:Nat),r<n->Tk s0 t' b->Upto b t t'->K (.int .i64 (r:Int)) t'):wC TP XX 48 [.ptr b 0,.int .i64 (n:Int)] K t:=by
 obtain⟨lv,l,i,h1,h2,h3,h4,h5⟩:=h.ex;have h4t:=h4.sub h.sub;refine qMp ?_;have e0:[lv,AV.int .i64 (i:Int)][0]?=some lv:=rfl;have e1:[lv,AV.int .i64 (i:Int)][1]?=some (.int .i64 (i:Int)):=rfl;simp only[qLf,qGq,qAG,zA,qAI h1,e0,e1,h4t.len,lM,qAo,qAB];refine qAJ (λc=>hK t 0 (by omega) h λ_ _=>rfl) (λc=>?_);have c:=oF c;have hi:i<l.length:=by omega
 simp only[qAU,qAB];rw[qAe (by omega) (by omega)];refine qBW h1 (by simp) rfl λt2 h6 u6=>?_;have h6:t2 b=some (false,.cells 110 [lv,.int .i64 ((i+1:Nat):Int)]):=by
  have:((i+1:Nat):Int)=(i:Int)+1:=by omega
  rw[this];exact h6
 have e3:[lv,AV.int .i64 ((i+1:Nat):Int)][0]?=some lv:=rfl;have e4:[lv,AV.int .i64 ((i+1:Nat):Int)][1]?=some (.int .i64 ((i+1:Nat):Int)):=rfl;have sub2:Sub s0 t2:=qAX h.sub u6 h.fr;obtain⟨p,g1,g2⟩:=(h4.sub sub2).get (i:=i) (by rw[lM];exact hi);have g3:(l.map (AV.int .i64))[i]?=some (.int .i64 l[i]):=by simp[hi]
 rw[g3]at g2;simp only[qAI h6,e3,e4,qAx,qAB];rw[qAe (by omega) (by omega)];have e5:((i+1:Nat):Int)-1=(i:Int):=by omega
 rw[e5];simp only[g1,g2,qAB];exact zADO (h5 _ (List.getElem_mem hi)) hn hn2 λr hr=>hK t2 r hr ⟨sub2,h.fr,lv,l,i+1,h6,by omega,h3,h4,h5⟩ u6
abbrev RLk:=Int×Int×Int
def lkC(x:RLk):List AV:=[.int .i64 x.1,.int .i64 x.2.1,.int .i64 x.2.2]
def iz(l:List Nat):List AV:=l.map λ(n:Nat)=>.int .i64 (n:Int)
theorem zAA9{l:List Nat}:(iz l).length=l.length:=by unfold iz;simp
theorem _root_.Go.AM.Acc.app2{elem:TypeId}{l m:List AV}(h:Acc elem s0 s v l)(hs:Sub s0 s)(hy:Sl s y m)(hm:m≠[])(hl:l.length+m.length<=16777216)(hK:∀v' s',Acc elem s0 s' v' (l++m)->Sub s0 s'->K v' s'):appK elem 1 v y K s:=
 h.app hy hm hl (λi hi=>by
  cases q:s0 i with
  |none=>exact absurd q hi
  | some e=>rw[hs _ _ q];simp) λv' s' h1 h2=>hK v' s' h1 λi e hi=>h2 i e (hs _ _ hi) λb hb=>by
    rintro rfl;rcases h with⟨q,_⟩|⟨j,q1,q2,_⟩
    ·rw[q]at hb;cases hb
    ·rw[q2]at hb;cases hb;rw[hi]at q1;cases q1
theorem _root_.Go.AM.Acc.sub{elem:TypeId}{l:List AV}(h:Acc elem s0 s v l)(k:Sub s s'):Acc elem s0 s' v l:=h.imp id λ⟨b,h0,h1,h2⟩=>⟨b,h0,h1,k _ _ h2⟩
end Go.AM.TN
namespace Go.AM.TN
open Go Go.Proofs
variable {s0 t:Hq} {lv:AV} {b:Nat}
theorem Tk.at(h:Tk s0 t b):t b≠none:=by obtain⟨lv,l,i,q,_⟩:=h.ex;rw[q];simp
def LkOk(lf sp:Nat)(L:List RLk):Prop:=(L.map λx=>(x.1,x.2.1)).Nodup/\∀x∈L,(0<=x.1/\x.1<lf)/\((lf:Int)<=x.2.1/\x.2.1<(lf+sp:Nat))/\1<=x.2.2/\x.2.2<=2
end Go.AM.TN
namespace Go.AM.TN
open Go Go.Proofs
variable {K:AV→Hq→Prop} {s s' s0 t:Hq} {b:Nat}
theorem zAEM{n:Int}(h1:0<=n)(h2:n<4294967296):qDk .u32 (.int .i64 n)=some (.int .u32 n):=by show some (AV.int .u32 (qBF .u32 n))=_;rw[show qBF .u32 n=n by simp only[qBF];rw[qFr _ _ _ (by omega) (by omega)];split<;>omega]
theorem zAAv{n:Int}(h1:0<=n)(h2:n<9223372036854775808):qDk .u64 (.int .i64 n)=some (.int .u64 n):=by show some (AV.int .u64 (qBF .u64 n))=_;rw[show qBF .u64 n=n by simp only[qBF];rw[qFr _ _ _ (by omega) (by omega)];split<;>omega]
theorem w32{x:Int}(h1:0<=x)(h2:x<4294967296):IntKind.u32.wrap x=x:=by unfold IntKind.wrap;simp[IntKind.bits,IntKind.signed];omega
abbrev Bd:=Nat×Bool
def subN(i:Nat)(r:Bool):Int:=if r then 167772160+(i:Int)*65536 else 0
def gwN(i:Nat)(r:Bool):Int:=if r then 167772160+(i:Int)*65536+1 else 0
def lenN(r:Bool):Int:=if r then 24 else 0
def bdC(i:Nat)(x:Bd):List AV:=[.int .i64 (x.1:Int),.int .u32 (10+(i:Int)),.int .u32 (500+(i:Int)),.int .u32 (subN i x.2),.int .i64 (lenN x.2),.int .u32 (gwN i x.2)]
theorem qZF{b o n:Nat}{e:TypeId}{l cs:List AV}{K:Hq->Prop}(h:s b=some (false,.cells e l))(hl:cs.length=n)(ho:o+n<=l.length)(h1:qAd cs=true)
  (hk:∀s',s' b=some (false,.cells e (qBG l o cs))->Upto b s s'->K s'):oK (qBA s n (.ptr b o) (.agg cs)) K:=by
 refine qAA (a:=hset s b (false,.cells e (qBG l o cs))) ?_ (hk _ (by simp[hset]) λi hi=>by simp[hset,hi]);have e2:Nat.ble (o+cs.length) l.length=true:=bL (by omega);have e3:Nat.beq cs.length n=true:=by rw[hl];exact Nat.beq_refl _
 unfold qBA;unfold wrN;simp only[qHc,e3,cond_true,h,e2,h1,Bool.and_self]
theorem Tk.u(h:Tk s0 t b){c:Nat}(u:Upto c t s)(hc:s0 c=none)(hb:b≠c):Tk s0 s b:=h.keep (fp:=λi=>i=c) (u.keep rfl) hb λi hi=>by rw[hi];exact hc
abbrev Lkg:=Nat×Nat×Option Nat
def pfN:Option Nat->Int
 |some j=>167772160+(j:Int)*65536
 |none=>0
def plN:Option Nat->Int
 |some _=>16
 |none=>0
def lgC(x:Lkg):List AV:=[.int .i64 (x.1:Int),.int .i64 (x.2.1:Int),.int .u32 (pfN x.2.2),.int .i64 (plN x.2.2)]
def LgOk(k:Nat)(x:Lkg):Prop:=x.1<k/\x.2.1<k/\x.1≠x.2.1/\∀j,x.2.2=some j->j<4
def mB(r:Option Bool)(k:Option Bool):Option Bool:=match r with
 |some true=>k
 |some false=>some false
 |none=>none
theorem qEN{a b:Int}:eqI a b=decide (a=b):=by
 rw[qET]
 by_cases h:a=b
 ·rw[h];simp
 ·rw[decide_eq_false h];simpa using h
end Go.AM.TN
namespace Go.AM.TN
open Go Go.Proofs
variable {K:AV→Hq→Prop} {s s' s0 t:Hq} {v:AV} {b:Nat}
abbrev Sg:=List Nat×List Nat
def SgR(s:Hq)(v:AV)(S:List Sg):Prop:=∃vs:List (AV×AV),SlR 2 s v (vs.map λp=>[p.1,p.2])/\vs.length=S.length/\∀(i:Nat) (q:AV×AV) (x:Sg),vs[i]?=some q->S[i]?=some x->Sl s q.1 (iz x.1)/\Sl s q.2 (iz x.2)
theorem SgR.sub{S:List Sg}(h:SgR s v S)(k:Sub s s'):SgR s' v S:=by obtain⟨vs,h1,h2,h3⟩:=h;exact⟨vs,h1.sub k,h2,λi q x a c=>⟨(h3 i q x a c).1.sub k,(h3 i q x a c).2.sub k⟩⟩
theorem SgR.len{S:List Sg}(h:SgR s v S):qAN v=some S.length:=by obtain⟨vs,h1,h2,_⟩:=h;rw[h1.len,lM,h2]
theorem SgR.at{S:List Sg}(h:SgR s v S){i:Nat}{x:Sg}(hx:S[i]?=some x):∃pb po l1 l2,qAT 2 v (.int .i64 (i:Int))=some (.ptr pb po)/\rdN s 2 (.ptr pb po)=some [l1,l2]/\rd1 s (.ptr pb po)=some l1/\rd1 s (.ptr pb (po+1))=some l2/\Sl s l1 (iz x.1)/\Sl s l2 (iz x.2):=by
 obtain⟨vs,h1,h2,h3⟩:=h;have hi:i<vs.length:=by rw[h2];exact(gS hx).1
 have hq:vs[i]?=some vs[i]:=gE hi;obtain⟨pb,po,e1,e2,e3⟩:=h1.get (i:=i) (r:=[vs[i].1,vs[i].2]) (by rw[List.getElem?_map,hq];rfl);obtain⟨a,c⟩:=h3 i _ x hq hx;exact⟨pb,po,vs[i].1,vs[i].2,e1,e2,e3 0 (by omega),e3 1 (by omega),a,c⟩
theorem SgR.one{S:List Sg}(h:SgR s v S):v.one=true:=by obtain⟨vs,h1,_⟩:=h;exact h1.one
abbrev Hst:=Nat×Nat×Bool×Bool
def ipN(i:Nat)(x:Hst):Int:=if x.2.2.1 then 167772160+(x.1:Int)*65536+(10+(i:Int))else 0
def sgN(x:Hst):Int:=if x.2.2.2 then -1 else(x.2.1:Int)
def hoC(i:Nat)(x:Hst):List AV:=[.int .u64 (2199023951872+(i:Int)),.int .u32 (ipN i x),.int .i64 (x.1:Int),.int .i64 (sgN x)]
def qUP(B:List Bd):List (List AV):=B.mapIdx λi x=>bdC i x
def zADc(H:List Hst):List (List AV):=H.mapIdx λi x=>hoC i x
theorem qSC{B:List Bd}{i:Nat}{x:Bd}(h:B[i]?=some x):(qUP B)[i]?=some (bdC i x):=by unfold qUP;rw[List.getElem?_mapIdx,h];rfl
def SgOk(lf n:Nat)(x:Sg):Prop:=x.1.Pairwise (· < ·)/\x.1≠[]/\(∀i∈x.1,i<lf)/\x.1.length<=3/\x.2.Pairwise (· < ·)/\x.2≠[]/\(∀i∈x.2,i<n)/\x.2.length<=4
def HoOk(B:List Bd)(S:List Sg)(x:Hst):Prop:=(∃g,S[x.2.1]?=some g/\x.1∈g.2)/\(x.2.2.1=true->∃d,B[x.1]?=some d/\d.2=true)
theorem qQ8{i:Nat}{cs:List AV}{bv sv:AV}{B:List Bd}{S:List Sg}{lf:Nat}(h:Tk s0 t b)(hi:i<100)(hl:cs.length=19)(ho:qAd cs=true)(h4:cs[4]?=some bv)(h5:cs[5]?=some sv)(hB:SlR 6 (hdel t b) bv (qUP B))(hS:SgR (hdel t b) sv S)(hS1:1<=S.length)(hS2:S.length<=100)(hok:∀x∈S,SgOk lf B.length x)(hB2:B.length<=100)
  (hK:∀t' (x:Hst),Tk s0 t' b->qBp (λi=>i=b) t t'->HoOk B S x->K (.agg (hoC i x)) t'):wC TP XX 52 [.ptr b 0,.agg cs,.int .i64 (i:Int)] K t:=by
 have hdt:∀{x:Hq},qBp (λi=>i=b) t x->Sub (hdel t b) x:=fun {x} kp j e hj=>by
  unfold hdel at hj;split at hj
  ·cases hj
  ·rename_i ne
   exact kp _ _ hj ne
 refine qWJ ⟨ho,qAP λc0 t1 hc0 h1 u1=>qAP λb2 t2 hb2 h2 u2=>?_⟩;have h1:t1 c0=some (false,.cells 31 cs):=h1;have k1:=u1.sub hc0;have k2:=u2.sub hb2;have k02:=k1.trans k2;have c2:=k2 _ _ h1;have nc0:c0≠b:=λe=>by rw[e]at hc0;exact h.at hc0
 have nb2:b2≠b:=λe=>by rw[e]at hb2;exact(h.more k1).at hb2
 simp only[qAG,zA,qAI c2,h5,hS.len,qAB];refine qPv (h.more k02) hS1 (by omega) λt3 sg hsg tk3 u3=>?_;have kp3:qBp (λi=>i=b) t t3:=k02.keep.trans (u3.keep rfl);have c3:t3 c0=some (false,.cells 31 cs):=by rw[u3 _ nc0];exact c2
 have z3:t3 b2=some (false,.cells 61 [(.int .u64 0),(.int .u32 0),(.int .i64 0),(.int .i64 0)]):=by rw[u3 _ nb2];exact h2
 obtain⟨g,hg⟩:∃g,S[sg]?=some g:=⟨_,gE hsg⟩
 have gok:=hok g (mG hg);obtain⟨pb,po,l1,l2,e1,e2,e3,e4,q1,q2⟩:=(hS.sub (hdt kp3)).at hg;simp only[qAG,qAI c3,h5,e1,e4,qAU,qAB];rw[qAe (by omega) (by omega),zAAv (by omega) (by omega)];simp only[q2.len,zAA9,qAB];have gl:0<g.2.length:=List.length_pos_iff.2 gok.2.2.2.2.2.1;refine qPv tk3 (n:=g.2.length) (by omega) (by have:=gok.2.2.2.2.2.2.2;omega) λt4 ix hix tk4 u4=>?_;have kp4:=kp3.trans (u4.keep (fp:=λi=>i=b) rfl);have q24:Sl t4 l2 (iz g.2):=by
  obtain⟨pb',po',l1',l2',e1',_,_,e4',_,q2'⟩:=(hS.sub (hdt kp4)).at hg;have e5:rd1 t4 (.ptr pb (po+1))=some l2:=by
   obtain⟨vs,h1',h2',h3'⟩:=hS;have hi':sg<vs.length:=by rw[h2'];exact hsg
   have hq:vs[sg]?=some vs[sg]:=gE hi';obtain⟨pb1,po1,x1,_,x3⟩:=(h1'.sub (hdt kp3)).get (i:=sg) (r:=[vs[sg].1,vs[sg].2]) (by rw[List.getElem?_map,hq];rfl);obtain⟨pb2,po2,y1,_,y3⟩:=(h1'.sub (hdt kp4)).get (i:=sg) (r:=[vs[sg].1,vs[sg].2]) (by rw[List.getElem?_map,hq];rfl);rw[e1]at x1 y1;have x1:=Option.some.inj x1;have y1:=Option.some.inj y1;cases x1;cases y1;have x4:=x3 1 (by omega);have y4:=y3 1 (by omega);rw[e4]at x4;rw[y4];exact x4.symm
  rw[e1]at e1';have e1':=Option.some.inj e1';cases e1';rw[e5]at e4';have:=Option.some.inj e4';rw[this];exact q2'
 obtain⟨p,g1,g2⟩:=q24.get (i:=ix) (by rw[zAA9];exact hix);have g3:(iz g.2)[ix]?=some (.int .i64 (g.2[ix]:Int)):=by unfold iz;simp[hix]
 rw[g3]at g2;have hbd:=gok.2.2.2.2.2.2.1 _ (List.getElem_mem hix);have hmem:=List.getElem_mem hix;generalize g.2[ix]=bd at g2 hbd hmem;have c4:t4 c0=some (false,.cells 31 cs):=by rw[u4 _ nc0];exact c3
 have z4:t4 b2=some (false,.cells 61 [(.int .u64 0),(.int .u32 0),(.int .i64 0),(.int .i64 0)]):=by rw[u4 _ nb2];exact z3
 simp only[g1,g2,qAB];refine qAA (a:=hoC i (bd,sg,false,false)) rfl (qAP λb9 t5 hb9 h5' u5=>qAW h5' rfl rfl rfl λt6 h6 u6=>?_);have k6:Sub t4 t6:=qAX (u5.sub hb9) u6 hb9;have nb9:b9≠b:=λe=>by rw[e]at hb9;exact tk4.at hb9
 have n29:b2≠b9:=λe=>by rw[<- e,z4]at hb9;cases hb9
 have n09:c0≠b9:=λe=>by rw[<- e,c4]at hb9;cases hb9
 have s0b9:s0 b9=none:=qCL tk4.sub hb9;have tb2:t b2=none:=qCL k1 hb2;have s0b2:s0 b2=none:=qCL h.sub tb2;have tb9:t b9=none:=qCL k02 (by rw[<- u3 _ nb9,<- u4 _ nb9];exact hb9);have kp6:=kp4.trans (k6.keep (fp:=λi=>i=b));obtain⟨d,hd⟩:∃d,B[bd]?=some d:=⟨_,gE hbd⟩
 have c6:=k6 _ _ c4;have bt:(hoC i (bd,sg,false,false))[2]?=some (.int .i64 (bd:Int)):=rfl;obtain⟨pb6,po6,w1,_,w3⟩:=(hB.sub (hdt kp6)).get (i:=bd) (qSC hd);have w5:rd1 t6 (.ptr pb6 (po6+5))=some (.int .u32 (gwN bd d.2)):=w3 5 (by omega);simp only[qAG,qAI c6,h4,qAI h6,bt,w1,w5,qAZ,qAY,Bool.true_bne,qAB];have fin2:∀(x:Hq) (on lone:Bool),(on=true->d.2=true)->Tk s0 x b->qBp (λi=>i=b) t x->x b9=some (false,.cells 61 (hoC i (bd,sg,on,lone)))->x b2=some (false,.cells 61 [(.int .u64 0),(.int .u32 0),(.int .i64 0),(.int .i64 0)])->qJn XX (.ptr b2 0) (.ptr b9 0) K x:=λx on lone hon tk kp q1 q2=>by
  unfold qJn;refine qAA (qAS q1 rfl) (qAW q2 rfl rfl rfl λx2 q3 u3=>qAA (qAS q3 rfl) ?_);refine hK x2 (bd,sg,on,lone) (tk.u u3 s0b2 (Ne.symm nb2)) (λj e hj ne=>?_) ⟨⟨g,hg,hmem⟩,λe=>⟨d,hd,hon e⟩⟩;have e2:j≠b2:=λq=>by rw[q,tb2]at hj;cases hj
  rw[u3 _ e2];exact kp _ _ hj ne
 have fin1:∀(x:Hq) (on:Bool),(on=true->d.2=true)->Tk s0 x b->qBp (λi=>i=b) t x->x b9=some (false,.cells 61 (hoC i (bd,sg,on,false)))->x b2=some (false,.cells 61 [(.int .u64 0),(.int .u32 0),(.int .i64 0),(.int .i64 0)])->qJf XX (.ptr b 0) (.ptr b2 0) (.ptr b9 0) K x:=λx on hon tk kp q1 q2=>by
  unfold qJf;refine qPv tk (n:=10) (by omega) (by omega) λx2 r hr tk2 u2=>?_;have q12:=q1;rw[<- u2 _ nb9]at q12;have q22:=q2;rw[<- u2 _ nb2]at q22;have kp2:=kp.trans (u2.keep (fp:=λi=>i=b) rfl);simp only[qAZ,qAY,Bool.false_bne,qAB];refine qAJ (λ_=>?_) (λ_=>fin2 x2 on false hon tk2 kp2 q12 q22);simp only[qAG,zA,qAB];refine qBW q12 (show 3<(hoC i (bd,sg,on,false)).length from by show 3<4;omega) rfl λx3 q3 u3=>?_;refine fin2 x3 on true hon (tk2.u u3 s0b9 (Ne.symm nb9)) (λj e hj ne=>?_) q3 (by rw[u3 _ n29];exact q22);have e2:j≠b9:=λq=>by rw[q,tb9]at hj;cases hj
  rw[u3 _ e2];exact kp2 _ _ hj ne
 have z6:=k6 _ _ z4;refine qAJ (λcg=>?_) (λcg=>?_)
 rotate_left
 ·rw[cg]
  simp only[qJx,qAL,qAD,qAB];exact fin1 t6 false (λe=>by cases e) (tk4.more k6) kp6 h6 z6
 rw[cg];have hd2:d.2=true:=by
  cases e:d.2 with
  |true=>rfl
  | false=>
    rw[e]at cg;simp[gwN]at cg
 refine qPv (tk4.more k6) (n:=6) (by omega) (by omega) λt7 r hr tk7 u7=>?_;have h7:t7 b9=some (false,.cells 61 (hoC i (bd,sg,false,false))):=by rw[u7 _ nb9];exact h6
 have z7:=z6;rw[<- u7 _ nb2]at z7;have c7:t7 c0=some (false,.cells 31 cs):=by rw[u7 _ nc0];exact c6
 have kp7:=kp6.trans (u7.keep (fp:=λi=>i=b) rfl);simp only[qAZ,qAY,Bool.true_bne,qAB,qJx,qAV];refine qAJ (λ_=>?_) (λ_=>fin1 t7 false (λe=>by cases e) tk7 kp7 h7 z7);obtain⟨pb7,po7,w1',_,w3'⟩:=(hB.sub (hdt kp7)).get (i:=bd) (qSC hd);have w6:rd1 t7 (.ptr pb7 (po7+3))=some (.int .u32 (subN bd d.2)):=w3' 3 (by omega);have es:subN bd d.2=167772160+(bd:Int)*65536:=by rw[hd2];rfl
 rw[es]at w6;have hbd100:bd<100:=by omega
 simp only[qAG,zA,qAI c7,h4,qAI h7,bt,w1',w6,qAU,qAB];rw[qAe (by omega) (by omega),zAEM (by omega) (by omega)];simp only[qAU,qAB];rw[w32 (by omega) (by omega)];refine qBW h7 (show 1<(hoC i (bd,sg,false,false)).length from by show 1<4;omega) rfl λt8 h8 u8=>?_;refine fin1 t8 true (λ_=>hd2) (tk7.u u8 s0b9 (Ne.symm nb9)) (λj e hj ne=>?_) h8 (by rw[u8 _ n29];exact z7);have e2:j≠b9:=λq=>by rw[q,tb9]at hj;cases hj
 rw[u8 _ e2];exact kp7 _ _ hj ne
end Go.AM.TN
namespace Go.AM.TN
open Go Go.Proofs
variable {s s0 t:Hq} {lv v:AV} {b:Nat}
theorem _root_.Go.AM.AccR.own{elem:TypeId}{es:Nat}{rows:List (List AV)}(h:AccR elem es s0 t v rows){i:Nat}(hi:s0 i≠none):∀b o n c e,v=.slc b o n c e->i≠b:=λb o n c e q q2=>by
 rcases h.2 with⟨r,_⟩|⟨j,r1,r2,_⟩
 ·rw[r]at q;cases q
 ·rw[r2]at q;cases q;exact hi (by rw[q2];exact r1)
structure FS(el:TypeId)(s0 H t:Hq)(b3 b24:Nat)(cs:List AV):Prop where
 tk:Tk s0 t b3
 fb:t b24=some (false,.cells el cs)
 sub:Sub H t
 n3:H b3=none
 n24:H b24=none
 base:Sub s0 H
 ne:b3≠b24
variable {el:TypeId} {H:Hq} {b3 b24:Nat} {cs:List AV}
def ext(H t:Hq)(b3 b24:Nat):Hq:=λi=>if i=b3∨i=b24 then t i else H i
theorem FS.f0(z:FS el s0 H t b3 b24 cs):s0 b24=none:=qCL z.base z.n24
theorem FS.e1(z:FS el s0 H t b3 b24 cs){i:Nat}(h:i=b3∨i=b24):ext H t b3 b24 i=t i:=if_pos h
theorem FS.e2(z:FS el s0 H t b3 b24 cs):Sub H (ext H t b3 b24):=λi e hi=>by
 unfold ext;rw[if_neg]
 ·exact hi
 ·rintro (q|q)
  ·rw[q,z.n3]at hi;cases hi
  ·rw[q,z.n24]at hi;cases hi
theorem FS.step(z:FS el s0 H t b3 b24 cs){t2:Hq}(kp:qBp (λi=>i=b3) t t2)(tk2:Tk s0 t2 b3):FS el s0 H t2 b3 b24 cs:=
 ⟨tk2,kp _ _ z.fb (Ne.symm z.ne),λi e hi=>kp _ _ (z.sub _ _ hi) λq=>(by rw[q,z.n3]at hi;cases hi),z.n3,z.n24,z.base,z.ne⟩
theorem finish{elem:TypeId}{es b0:Nat}{rows:List (List AV)}(z:FS el s0 H t b3 b24 cs)(acc:AccR elem es (ext H t b3 b24) t v rows)(hb0:H b0≠none):∃H2,FS el s0 H2 t b3 b24 cs/\Sub H H2/\SlR es (hdel H2 b0) v rows:=by
 refine⟨λi=>if i=b3∨i=b24 then none else t i,⟨z.tk,z.fb,λi e hi=>?_,by simp,by simp,λi e hi=>?_,z.ne⟩,λi e hi=>?_,?_⟩
 ·have hi:(if i=b3∨i=b24 then none else t i)=some e:=hi
  split at hi
  ·cases hi
  ·exact hi
 ·have h1:=z.base _ _ hi
  show(if i=b3∨i=b24 then none else t i)=some e;rw[if_neg]
  ·exact z.sub _ _ h1
  ·rintro (q|q)
   ·rw[q,z.n3]at h1;cases h1
   ·rw[q,z.n24]at h1;cases h1
 ·show(if i=b3∨i=b24 then none else t i)=some e
  rw[if_neg]
  ·exact z.sub _ _ hi
  ·rintro (q|q)
   ·rw[q,z.n3]at hi;cases hi
   ·rw[q,z.n24]at hi;cases hi
 ·refine⟨acc.1,?_⟩
  rcases acc.2 with q|⟨c,q0,q1,q2⟩
  ·exact .inl q
  ·have c3:c≠b3:=λe=>by
    rw[e,z.e1 (.inl rfl)]at q0;exact z.tk.at q0
   have c24:c≠b24:=λe=>by rw[e,z.e1 (.inr rfl),z.fb]at q0;cases q0
   have c0:c≠b0:=λe=>by
    rw[e]at q0;cases h:H b0 with
    |none=>exact hb0 h
    |some x=>rw[z.e2 _ _ h]at q0;cases q0
   have:=AccR.sl (s:=hdel (λi=>if i=b3∨i=b24 then none else t i) b0) (s0:=s0) (elem:=elem) (es:=es) (v:=v) (rows:=rows) ⟨acc.1,.inr ⟨c,qCL z.base (qCL z.e2 q0),q1,by rw[qMI c0];show(if c=b3∨c=b24 then none else t c)=_;rw[if_neg (by rintro (q|q)<;>contradiction)];exact q2⟩⟩
   exact this.2
theorem Tk.hid{q:Nat}(h:Tk s0 t b)(hq:s0 q=none)(hb:b≠q):Tk s0 (hdel t q) b:=by
 obtain⟨lv,l',i',q',q''⟩:=h.ex;refine⟨λj e hj=>?_,h.fr,lv,l',i',by rw[qMI hb];exact q',q''⟩;have ne:j≠q:=λe=>by rw[e,hq]at hj;cases hj
 rw[qMI ne];exact h.sub _ _ hj
end Go.AM.TN
namespace Go.AM.TN
open Go Go.Proofs
variable {el:TypeId} {s s' H:Hq} {b:Nat} {cs:List AV}
structure NX where
 lf:Nat
 sp:Nat
 el:Nat
 hz:Nat
 ro:Nat
 su:Bool
 tr:Bool
 de:Nat
 ag:Nat
structure NXok(x:NX):Prop where
 lf:2<=x.lf/\x.lf<=4
 sp:1<=x.sp/\x.sp<=3
 el:x.el<=2
 hz:x.hz<=1
 ro:x.ro<=1
 de:1<=x.de/\x.de<=3
 ag:40<=x.ag/\x.ag<=69
def csF(x:NX)(v2 v3 v4 v5 v6 v7:AV):List AV:=[.int .i64 (x.lf:Int),.int .i64 (x.sp:Int),v2,v3,v4,v5,v6,v7,.int .i64 (x.el:Int),.int .i64 (x.hz:Int),.int .i64 (x.ro:Int),.bool x.su,.bool x.tr,.int .i64 (x.de:Int),.int .i64 9,.int .i64 (x.ag:Int),.int .i64 20,.int .i64 5,.int .i64 30]
def tnC(i:Nat):List AV:=[.int .u32 (100+(i:Int)),.int .u32 (900+(i:Int))]
def zAC0(n:Nat):List (List AV):=(List.range n).map tnC
structure NFab where
 x:NX
 L:List RLk
 n:Nat
 B:List Bd
 S:List Sg
 H:List Hst
 G:List Lkg
structure NFok(F:NFab):Prop where
 x:NXok F.x
 L:LkOk F.x.lf F.x.sp F.L
 Ln:F.L.length<=12
 n:1<=F.n/\F.n<=3
 Bn:1<=F.B.length/\F.B.length<=4
 B:∀x∈F.B,x.1<F.n
 Sn:2<=F.S.length/\F.S.length<=6
 S:∀x∈F.S,SgOk F.x.lf F.B.length x
 Hn:F.H.length<=8
 H:∀x∈F.H,HoOk F.B F.S x
 Gn:F.G.length<=2
 G:F.G.Nodup/\∀x∈F.G,LgOk F.n x
structure NFR(s:Hq)(cs:List AV)(F:NFab):Prop where
 ex:∃v2 v3 v4 v5 v6 v7,cs=csF F.x v2 v3 v4 v5 v6 v7/\SlR 3 s v2 (F.L.map lkC)/\SlR 2 s v3 (zAC0 F.n)/\SlR 6 s v4 (qUP F.B)/\SgR s v5 F.S/\SlR 4 s v6 (zADc F.H)/\SlR 4 s v7 (F.G.map lgC)
theorem qZy(k:Sub s s'):Sub (hdel s b) (hdel s' b):=λi e hi=>by
 unfold hdel at hi ⊢;split at hi
 ·cases hi
 ·rename_i ne
  rw[if_neg ne];exact k _ _ hi
theorem zABY:Sub (hdel s b) s:=λi e hi=>by
 unfold hdel at hi;split at hi
 ·cases hi
 ·exact hi
theorem NFR.sub{F:NFab}(h:NFR s cs F)(k:Sub s s'):NFR s' cs F:=by obtain⟨v2,v3,v4,v5,v6,v7,e,h2,h3,h4,h5,h6,h7⟩:=h.ex;exact⟨v2,v3,v4,v5,v6,v7,e,h2.sub k,h3.sub k,h4.sub k,h5.sub k,h6.sub k,h7.sub k⟩
theorem NFR.len{F:NFab}(h:NFR s cs F):cs.length=19:=by obtain⟨v2,v3,v4,v5,v6,v7,rfl,_⟩:=h.ex;rfl
theorem NFR.all{F:NFab}(h:NFR s cs F):qAd cs=true:=by obtain⟨v2,v3,v4,v5,v6,v7,rfl,h2,h3,h4,h5,h6,h7⟩:=h.ex;simp[csF,h2.one,h3.one,h4.one,h5.one,h6.one,h7.one]
end Go.AM.TN
namespace Go.AM.TN
open Go Go.Proofs
variable {b:Nat}
theorem qM0(a b c d e:Int)(f g:Bool):qBb [(.int .i64 0),(.int .i64 0),.nilslc,.nilslc,.nilslc,.nilslc,.nilslc,.nilslc,(.int .i64 0),(.int .i64 0),(.int .i64 0),(.bool false),(.bool false),(.int .i64 0),(.int .i64 0),(.int .i64 0),(.int .i64 0),(.int .i64 0),(.int .i64 0)] [(0,1,.int .i64 a),(1,1,.int .i64 b),(8,1,.int .i64 c),(9,1,.int .i64 d),(10,1,.int .i64 e),(11,1,.bool f),(12,1,.bool g)]=some [.int .i64 a,.int .i64 b,.nilslc,.nilslc,.nilslc,.nilslc,.nilslc,.nilslc,.int .i64 c,.int .i64 d,.int .i64 e,.bool f,.bool g,.int .i64 0,.int .i64 0,.int .i64 0,.int .i64 0,.int .i64 0,.int .i64 0]:=rfl
end Go.AM.TN
namespace Go.AM.TN
open Go Go.Proofs
variable {K R:AV→Hq→Prop} {s s':Hq} {v:AV} {c:Nat} {cs:List AV} {Y:Td}
abbrev BG:=Int×Int×Int×Int×Int×Int
abbrev R4:=Int×Int×Int×Int
structure FG where
 lf:Int
 sp:Int
 el:Int
 hz:Int
 ro:Int
 su:Bool
 tr:Bool
 de:Int
 ho:Int
 ag:Int
 re:Int
 mo:Int
 wi:Int
 L:List RLk
 T:List (Int×Int)
 B:List BG
 S:List (List Int×List Int)
 H:List R4
 G:List R4
def tgC(x:Int×Int):List AV:=[.int .u32 x.1,.int .u32 x.2]
def bgC(x:BG):List AV:=[.int .i64 x.1,.int .u32 x.2.1,.int .u32 x.2.2.1,.int .u32 x.2.2.2.1,.int .i64 x.2.2.2.2.1,.int .u32 x.2.2.2.2.2]
def hgC(x:R4):List AV:=[.int .u64 x.1,.int .u32 x.2.1,.int .i64 x.2.2.1,.int .i64 x.2.2.2]
def ggC(x:R4):List AV:=[.int .i64 x.1,.int .i64 x.2.1,.int .u32 x.2.2.1,.int .i64 x.2.2.2]
def ix(l:List Int):List AV:=l.map (AV.int .i64)
theorem qAm{l:List Int}:(ix l).length=l.length:=by unfold ix;simp
theorem qDU{l:List Int}{i:Nat}(h:i<l.length):(ix l)[i]?=some (.int .i64 l[i]):=by unfold ix;simp[h]
def SgG(s:Hq)(v:AV)(S:List (List Int×List Int)):Prop:=∃vs:List (AV×AV),SlR 2 s v (vs.map λp=>[p.1,p.2])/\vs.length=S.length/\∀(i:Nat) (q:AV×AV) (x:List Int×List Int),vs[i]?=some q->S[i]?=some x->Sl s q.1 (ix x.1)/\Sl s q.2 (ix x.2)
theorem SgG.sub{S:List (List Int×List Int)}(h:SgG s v S)(k:Sub s s'):SgG s' v S:=by obtain⟨vs,h1,h2,h3⟩:=h;exact⟨vs,h1.sub k,h2,λi q x a c=>⟨(h3 i q x a c).1.sub k,(h3 i q x a c).2.sub k⟩⟩
theorem SgG.len{S:List (List Int×List Int)}(h:SgG s v S):qAN v=some S.length:=by obtain⟨vs,h1,h2,_⟩:=h;rw[h1.len,lM,h2]
theorem SgG.one{S:List (List Int×List Int)}(h:SgG s v S):v.one=true:=by obtain⟨vs,h1,_⟩:=h;exact h1.one
theorem SgG.at{S:List (List Int×List Int)}(h:SgG s v S){i:Nat}{x:List Int×List Int}(hx:S[i]?=some x):∃pb po l1 l2,qAT 2 v (.int .i64 (i:Int))=some (.ptr pb po)/\rdN s 2 (.ptr pb po)=some [l1,l2]/\rd1 s (.ptr pb po)=some l1/\rd1 s (.ptr pb (po+1))=some l2/\Sl s l1 (ix x.1)/\Sl s l2 (ix x.2):=by
 obtain⟨vs,h1,h2,h3⟩:=h;have hi:i<vs.length:=by rw[h2];exact(gS hx).1
 have hq:vs[i]?=some vs[i]:=gE hi;obtain⟨pb,po,e1,e2,e3⟩:=h1.get (i:=i) (r:=[vs[i].1,vs[i].2]) (by rw[List.getElem?_map,hq];rfl);obtain⟨a,c⟩:=h3 i _ x hq hx;exact⟨pb,po,vs[i].1,vs[i].2,e1,e2,e3 0 (by omega),e3 1 (by omega),a,c⟩
def csG(F:FG)(v2 v3 v4 v5 v6 v7:AV):List AV:=[.int .i64 F.lf,.int .i64 F.sp,v2,v3,v4,v5,v6,v7,.int .i64 F.el,.int .i64 F.hz,.int .i64 F.ro,.bool F.su,.bool F.tr,.int .i64 F.de,.int .i64 F.ho,.int .i64 F.ag,.int .i64 F.re,.int .i64 F.mo,.int .i64 F.wi]
structure FL(s:Hq)(F:FG)(v2 v3 v4 v5 v6 v7:AV):Prop where
 L:SlR 3 s v2 (F.L.map lkC)
 T:SlR 2 s v3 (F.T.map tgC)
 B:SlR 6 s v4 (F.B.map bgC)
 S:SgG s v5 F.S
 H:SlR 4 s v6 (F.H.map hgC)
 G:SlR 4 s v7 (F.G.map ggC)
theorem FL.sub{F:FG}{v2 v3 v4 v5 v6 v7:AV}(h:FL s F v2 v3 v4 v5 v6 v7)(k:Sub s s'):FL s' F v2 v3 v4 v5 v6 v7:=⟨h.L.sub k,h.T.sub k,h.B.sub k,h.S.sub k,h.H.sub k,h.G.sub k⟩
theorem FL.all{F:FG}{v2 v3 v4 v5 v6 v7:AV}(h:FL s F v2 v3 v4 v5 v6 v7):qAd (csG F v2 v3 v4 v5 v6 v7)=true:=by simp[csG,h.L.one,h.T.one,h.B.one,h.S.one,h.H.one,h.G.one]
def FabR(s:Hq)(cs:List AV)(F:FG):Prop:=∃v2 v3 v4 v5 v6 v7,cs=csG F v2 v3 v4 v5 v6 v7/\FL s F v2 v3 v4 v5 v6 v7
theorem FabR.sub{F:FG}(h:FabR s cs F)(k:Sub s s'):FabR s' cs F:=by obtain⟨v2,v3,v4,v5,v6,v7,e,h⟩:=h;exact⟨v2,v3,v4,v5,v6,v7,e,h.sub k⟩
def outB(n lo hi:Int):Bool:=decide (n<lo)||decide (hi<n)
theorem qAk{n lo hi:Int}:outB n lo hi=false↔lo<=n/\n<=hi:=by unfold outB;simp
theorem qBw(hY:Fn0 Y){n lo hi:Int}(hK:K (.bool (outB n lo hi)) s):wC TP Y 150 [.int .i64 n,.int .i64 lo,.int .i64 hi] K s:=by
 refine qQr hY.fr (hY.no _ rfl) ?_;unfold outB at hK;simp only[qPi,qAR,qAh,qAB];refine qAJ (λe=>?_) (λe=>?_)
 ·rw[e]at hK ⊢
  exact hK
 ·rw[e]at hK ⊢
  exact hK
def inB(i n:Int):Bool:=decide (0<=i)&&decide (i<n)
theorem qL6{i n:Int}:inB i n=true↔0<=i/\i<n:=by unfold inB;simp
theorem qEw(hY:Fn0 Y){i n:Int}(hK:K (.bool (inB i n)) s):wC TP Y 153 [.int .i64 i,.int .i64 n] K s:=by
 refine qRa hY.fr (hY.no _ rfl) ?_;unfold inB at hK;simp only[qRR,qAo,qAR,qAB];refine qAJ (λe=>?_) (λe=>?_)
 ·rw[e]at hK ⊢
  exact hK
 ·rw[e]at hK ⊢
  exact hK
def flV(e:Int)(p:ByteArray)(i:Int):AV:=.ifc 156 (.agg [.int .i64 e,.str p,.int .i64 i])
theorem qA6{bad:Bool}{e i:Int}{p:ByteArray}(hK:bad=false->K (.tup []) s)(hR:bad=true->R (flV e p i) s):qAf TP X0 SS 149 [.bool bad,.int .i64 e,.str p,.int .i64 i] K R s:=by refine qMK ?_;unfold qKR;refine qAJ (λq=>?_) hK;exact qAA (a:=[.int .i64 e,.str p,.int .i64 i]) rfl (hR q)
end Go.AM.TN
namespace Go.AM.OR
theorem qYr:∀{l m:List Int},l.Nodup->(∀x∈l,x∈m)->l.length<=m.length:=by
 intro l
 induction l with
 |nil=>intro m _ _;exact Nat.zero_le _
 | cons a l ih=>
   intro m h1 h2;obtain⟨ha,hn⟩:=List.nodup_cons.1 h1;have hm:a∈m:=h2 a (by simp);have:=ih (m:=m.erase a) hn λx hx=>(List.mem_erase_of_ne (λe=>ha (by rw[<- e];exact hx))).2 (h2 x (by simp[hx]));rw[List.length_erase_of_mem hm]at this;have:0<m.length:=List.length_pos_of_mem hm;simp only[List.length_cons];omega
theorem qP1{l:List Int}{N:Nat}(h1:l.Nodup)(h2:∀x∈l,0<=x/\x<N):l.length<=N:=by
 have:=qYr (m:=(List.range N).map λi:Nat=>(i:Int)) h1 λx hx=>by obtain⟨a,b⟩:=h2 x hx;exact List.mem_map.2 ⟨x.toNat,List.mem_range.2 (by omega),by omega⟩
 simpa using this
inductive Rch (nx:Int->List Int) (a:Int):Int->Prop
 |refl:Rch nx a a
 |step {b c:Int}:Rch nx a b->c∈nx b->Rch nx a c
variable {nx:Int→List Int} {a b c:Int} {Q:List Int} {i N:Nat}
theorem Rch.trans(h:Rch nx a b)(h2:Rch nx b c):Rch nx a c:=by
 induction h2 with
 |refl=>exact h
 |step _ q ih=>exact .step ih q
theorem Rch.symm(hs:∀a b,b∈nx a->a∈nx b)(h:Rch nx a b):Rch nx b a:=by
 induction h with
 |refl=>exact .refl
 |step _ q ih=>exact(Rch.step .refl (hs _ _ q)).trans ih
structure Bfs(nx:Int->List Int)(a:Int)(N:Nat)(Q:List Int)(i:Nat):Prop where
 nd:Q.Nodup
 h0:a∈Q
 rch:∀x∈Q,Rch nx a x
 cl:∀j,j<i->∀x,Q[j]?=some x->∀y∈nx x,y∈Q
 rng:∀x∈Q,0<=x/\x<(N:Int)
theorem Bfs.len(h:Bfs nx a N Q i):Q.length<=N:=qP1 h.nd h.rng
theorem Bfs.start(h0:0<=a)(h1:a<(N:Int)):Bfs nx a N [a] 0:=
 ⟨by simp,by simp,λx hx=>by rw[List.mem_singleton.1 hx];exact .refl,λj hj=>by omega,λx hx=>by rw[List.mem_singleton.1 hx];exact⟨h0,h1⟩⟩
structure Bfr(nx:Int->List Int)(a:Int)(N:Nat)(Q0 Q:List Int)(i:Nat)(x:Int)(k:Nat):Prop where
 b:Bfs nx a N Q i
 at':Q[i]?=some x
 pre:∃L,Q=Q0++L
 hk:∀y∈(nx x).take k,y∈Q
theorem Bfs.enter{x:Int}(h:Bfs nx a N Q i)(hx:Q[i]?=some x):Bfr nx a N Q Q i x 0:=⟨h,hx,⟨[],by simp⟩,λy hy=>by simp at hy⟩
theorem Bfr.old{Q0:List Int}{x y:Int}{k:Nat}(h:Bfr nx a N Q0 Q i x k)(hy:(nx x)[k]?=some y)(hq:y∈Q):Bfr nx a N Q0 Q i x (k+1):=
 ⟨h.b,h.at',h.pre,λz hz=>by
  rw[List.take_add_one,hy]at hz;rcases mP hz with hz|hz
  ·exact h.hk z hz
  ·have:z=y:=by simpa using hz
   rw[this];exact hq⟩
theorem Bfr.new{Q0:List Int}{x y:Int}{k:Nat}(h:Bfr nx a N Q0 Q i x k)(hy:(nx x)[k]?=some y)(hr:0<=y/\y<(N:Int))(hq:y ∉ Q):Bfr nx a N Q0 (Q ++ [y]) i x (k+1):=by
 have hlt:=(gS h.at').1;refine⟨⟨?_,by simp[h.b.h0],λz hz=>?_,λj hj z hz w hw=>?_,λz hz=>?_⟩,?_,?_,λz hz=>?_⟩
 ·rw[List.nodup_append]
  exact⟨h.b.nd,by simp,λp hp q hq' e=>by have:q=y:=by simpa using hq'
                                         subst this;subst e;exact hq hp⟩
 ·rcases mP hz with hz|hz
  ·exact h.b.rch z hz
  ·have:z=y:=by simpa using hz
   subst this;exact .step (h.b.rch x (mG h.at')) (mG hy)
 ·rw[List.getElem?_append_left (by omega)]at hz
  exact List.mem_append_left _ (h.b.cl j hj z hz w hw)
 ·rcases mP hz with hz|hz
  ·exact h.b.rng z hz
  ·have:z=y:=by simpa using hz
   subst this;exact hr
 ·rw[List.getElem?_append_left hlt];exact h.at'
 ·obtain⟨L,e⟩:=h.pre
  exact⟨L ++ [y],by rw[e,List.append_assoc]⟩
 ·rw[List.take_add_one,hy]at hz
  rcases mP hz with hz|hz
  ·exact List.mem_append_left _ (h.hk z hz)
  ·have:z=y:=by simpa using hz
   rw[this];simp
theorem Bfr.leave{Q0:List Int}{x:Int}{k:Nat}(h:Bfr nx a N Q0 Q i x k)(hk:(nx x).length<=k):Bfs nx a N Q (i+1):=
 ⟨h.b.nd,h.b.h0,h.b.rch,λj hj z hz w hw=>by
  by_cases e:j=i
  ·subst e
   rw[h.at']at hz;cases hz;exact h.hk w (by rw[List.take_of_length_le hk];exact hw)
  ·exact h.b.cl j (by omega) z hz w hw,h.b.rng⟩
theorem Bfs.done(h:Bfs nx a N Q Q.length):∀y,y∈Q↔Rch nx a y:=λy=>by
 refine⟨h.rch y,λq=>?_⟩
 induction q with
 |refl=>exact h.h0
 | step _ hc ih=>
   obtain⟨j,hj⟩:=List.getElem?_of_mem ih;exact h.cl j (gS hj).1 _ hj _ hc
end Go.AM.OR
namespace Go.AM.FD
theorem asc_ext:∀{a b:List Int},a.Pairwise (· < ·)->b.Pairwise (· < ·)->(∀y,y∈a↔y∈b)->a=b
 |[],[],_,_,_=>rfl
 |[],y::b,_,_,h=>by have:=(h y).2 List.mem_cons_self;cases this
 |x::a,[],_,_,h=>by have:=(h x).1 List.mem_cons_self;cases this
 | x::a,y::b,ha,hb,h=>by
   obtain⟨a1,a2⟩:=List.pairwise_cons.1 ha;obtain⟨b1,b2⟩:=List.pairwise_cons.1 hb;have e:x=y:=by
    rcases mC ((h x).1 List.mem_cons_self)with e|e
    ·exact e
    ·rcases mC ((h y).2 List.mem_cons_self)with e2|e2
     ·exact e2.symm
     ·have:=a1 y e2;have:=b1 x e;omega
   subst e
   congr 1
   refine asc_ext a2 b2 λz=>⟨λhz=>?_,λhz=>?_⟩
   ·rcases mC ((h z).1 (mO _ hz))with e|e
    ·have:=a1 z hz;omega
    ·exact e
   ·rcases mC ((h z).2 (mO _ hz))with e|e
    ·have:=b1 z hz;omega
    ·exact e
section
variable {ρ : Type} (fl : ρ → Bool) (nx : ρ → Int)
end
end Go.AM.FD
namespace Go.AM.OR
open Go.AM.TN
structure WG where
 nd:List Bool
 lk:List Bool
 pt:List (List Bool)
 wh:List Int
def onB(l:List Bool)(i:Int):Bool:=decide (0<=i)&&(l[i.toNat]?).getD false
theorem zABo{l:List Bool}{i:Nat}:onB l (i:Int)=(l[i]?).getD false:=by unfold onB;rw[decide_eq_true (by omega),Bool.true_and];rfl
def works(F:FG)(W:WG)(i:Nat):Bool:=match F.L[i]? with
 |some x=>onB W.lk (i:Int)&&(onB W.nd x.1&&onB W.nd x.2.1)
 |none=>false
def qRg(F:FG)(W:WG)(n:Int)(i:Nat):Option Int:=match F.L[i]? with
 |some x=>if works F W i then(if x.1=n then some x.2.1 else if x.2.1=n then some x.1 else none)else none
 |none=>none
def nbrN(F:FG)(W:WG)(n:Int)(k:Nat):List Int:=(List.range k).filterMap (qRg F W n)
def nbr(F:FG)(W:WG)(n:Int):List Int:=nbrN F W n F.L.length
variable {F:FG} {W:WG} {a b n:Int} {i k:Nat} {ar ar':List Int}
theorem qYG:nbrN F W n (k+1)=nbrN F W n k++(qRg F W n k).toList:=by unfold nbrN;rw[List.range_succ,List.filterMap_append];cases h:qRg F W n k<;>simp[h]
theorem qUH:∀k,(nbrN F W n k).length<=k:=λk=>by unfold nbrN;have:=List.length_filterMap_le (qRg F W n) (List.range k);simpa using this
theorem qL9:b∈nbr F W a↔∃i x,F.L[i]?=some x/\works F W i=true/\((x.1=a/\x.2.1=b)∨(x.1≠a/\x.2.1=a/\x.1=b)):=by
 unfold nbr nbrN;rw[List.mem_filterMap];constructor
 ·rintro ⟨i,_,h⟩
  unfold qRg at h;split at h
  ·rename_i x hx
   split at h
   ·rename_i hw
    split at h
    ·rename_i e
     exact⟨i,x,hx,hw,.inl ⟨e,by simpa using h⟩⟩
    ·rename_i e
     split at h
     ·rename_i e2
      exact⟨i,x,hx,hw,.inr ⟨e,e2,by simpa using h⟩⟩
     ·cases h
   ·cases h
  ·cases h
 ·rintro ⟨i,x,hx,hw,h⟩
  refine⟨i,List.mem_range.2 (gS hx).1,?_⟩;unfold qRg;simp only[hx,hw,if_true];rcases h with⟨h1,h2⟩|⟨h1,h2,h3⟩
  ·rw[if_pos h1,h2]
  ·rw[if_neg h1,if_pos h2,h3]
structure LnkOk(F:FG):Prop where
 lf:0<=F.lf
 sp:0<=F.sp
 row:∀x∈F.L,(0<=x.1/\x.1<F.lf)/\(F.lf<=x.2.1/\x.2.1<F.lf+F.sp)
theorem qUp(hL:LnkOk F)(h:b∈nbr F W a):a∈nbr F W b:=by
 obtain⟨i,x,hx,hw,h⟩:=qL9.1 h;obtain⟨h1,h2⟩:=hL.row x (mG hx);refine qL9.2 ⟨i,x,hx,hw,?_⟩;rcases h with⟨rfl,rfl⟩|⟨h3,rfl,rfl⟩
 ·exact .inr ⟨by omega,rfl,rfl⟩
 ·exact .inl ⟨rfl,rfl⟩
theorem qY6{x:RLk}(hx:F.L[i]?=some x)(h:works F W i=true):onB W.nd x.1=true/\onB W.nd x.2.1=true:=by unfold works at h;rw[hx]at h;simp only[Bool.and_eq_true]at h;exact h.2
theorem zAC3(h:b∈nbr F W a):onB W.nd b=true:=by
 obtain⟨i,x,hx,hw,h⟩:=qL9.1 h;obtain⟨h1,h2⟩:=qY6 hx hw;rcases h with⟨rfl,rfl⟩|⟨h3,rfl,rfl⟩
 ·exact h2
 ·exact h1
theorem zAD4(hL:LnkOk F)(h:b∈nbr F W a):0<=b/\b<F.lf+F.sp:=by obtain⟨i,x,hx,hw,h⟩:=qL9.1 h;obtain⟨h1,h2⟩:=hL.row x (mG hx);have:=hL.lf;have:=hL.sp;rcases h with⟨rfl,rfl⟩|⟨h3,rfl,rfl⟩<;>omega
theorem zAC1(h:Rch (nbr F W) a b)(ha:onB W.nd a=true):onB W.nd b=true:=by
 cases h with
 |refl=>exact ha
 |step _ h=>exact zAC3 h
def upB(F:FG)(W:WG)(l:Int):Bool:=decide (0<=l)&&(decide (l<F.lf)&&onB W.nd l)
def Ar(F:FG)(W:WG)(l:Int)(ar:List Int):Prop:=(upB F W l=false->ar=[])/\(upB F W l=true->ar.Pairwise (· < ·)/\∀n,n∈ar↔(0<=n/\n<F.lf)/\Rch (nbr F W) l n)
theorem Ar.uniq(h:Ar F W a ar)(h':Ar F W a ar'):ar=ar':=by
 cases c:upB F W a with
 |false=>rw[h.1 c,h'.1 c]
 |true=>exact FD.asc_ext (h.2 c).1 (h'.2 c).1 λy=>((h.2 c).2 y).trans ((h'.2 c).2 y).symm
theorem Ar.up(h:Ar F W a ar)(hb:b∈ar):upB F W a=true:=by
 cases c:upB F W a with
 |false=>rw[h.1 c]at hb;cases hb
 |true=>rfl
theorem qTS:upB F W a=true↔(0<=a/\a<F.lf)/\onB W.nd a=true:=by unfold upB;simp only[Bool.and_eq_true,decide_eq_true_eq];exact⟨λ⟨h1,h2,h3⟩=>⟨⟨h1,h2⟩,h3⟩,λ⟨⟨h1,h2⟩,h3⟩=>⟨h1,h2,h3⟩⟩
theorem Ar.mem_up(h:Ar F W a ar)(hb:b∈ar):upB F W b=true:=by have c:=h.up hb;obtain⟨h1,h2⟩:=((h.2 c).2 b).1 hb;exact qTS.2 ⟨h1,zAC1 h2 (qTS.1 c).2⟩
theorem Ar.same(hL:LnkOk F)(h:Ar F W a ar)(hb:b∈ar)(h':Ar F W b ar'):ar'=ar:=by have c:=h.up hb;have c':=h.mem_up hb;have r:=(((h.2 c).2 b).1 hb).2;refine FD.asc_ext (h'.2 c').1 (h.2 c).1 λy=>((h'.2 c').2 y).trans (Iff.trans ?_ ((h.2 c).2 y).symm);exact⟨λ⟨q1,q2⟩=>⟨q1,r.trans q2⟩,λ⟨q1,q2⟩=>⟨q1,(r.symm λa b=>qUp hL).trans q2⟩⟩
def qLB(W:WG)(l sg:Int):Bool:=decide (0<=l)&&(match W.pt[l.toNat]? with
 |some r=>onB r sg
 |none=>false)
def memB(W:WG)(sg l:Int):Bool:=onB W.nd l&&qLB W l sg
def mems(F:FG)(W:WG)(sg:Int):List Int:=if 0<=sg then(match F.S[sg.toNat]? with
 |some x=>x.1.filter (memB W sg)
 |none=>[])else[]
def att(F:FG)(W:WG)(h:Int):Option Int:=if 0<=h then(match F.H[h.toNat]?,W.wh[h.toNat]? with
 | some x,some sg=>if 0<=sg then(match F.S[sg.toNat]? with
   |some g=>if x.2.2.1∈g.2 then some sg else none
   |none=>none)else none
 |_,_=>none)else none
def wthB(F:FG)(W:WG)(sg:Int)(ar:List Int):Bool:=(mems F W sg).any λl=>decide (l∈ar)
abbrev Hd:=Int×Int×Bool
end Go.AM.OR
namespace Go.AM.TN
open Go Go.Proofs
variable {K R:AV→Hq→Prop} {s s':Hq} {y:AV} {b c:Nat} {F:FG} {v2 v3 v4 v5 v6 v7:AV} {t:Bool}
theorem zABw:(csG F v2 v3 v4 v5 v6 v7).length=19:=rfl
theorem csG0:(csG F v2 v3 v4 v5 v6 v7)[0]?=some (.int .i64 F.lf):=id rfl
theorem csG1:(csG F v2 v3 v4 v5 v6 v7)[1]?=some (.int .i64 F.sp):=id rfl
theorem csG2:(csG F v2 v3 v4 v5 v6 v7)[2]?=some v2:=id rfl
theorem csG3:(csG F v2 v3 v4 v5 v6 v7)[3]?=some v3:=id rfl
theorem csG4:(csG F v2 v3 v4 v5 v6 v7)[4]?=some v4:=id rfl
theorem csG5:(csG F v2 v3 v4 v5 v6 v7)[5]?=some v5:=id rfl
theorem csG6:(csG F v2 v3 v4 v5 v6 v7)[6]?=some v6:=id rfl
theorem csG7:(csG F v2 v3 v4 v5 v6 v7)[7]?=some v7:=id rfl
theorem csG8:(csG F v2 v3 v4 v5 v6 v7)[8]?=some (.int .i64 F.el):=id rfl
theorem csG9:(csG F v2 v3 v4 v5 v6 v7)[9]?=some (.int .i64 F.hz):=id rfl
theorem zAC9:(csG F v2 v3 v4 v5 v6 v7)[10]?=some (.int .i64 F.ro):=id rfl
theorem qL4{zs:List AV}(hz:zs.length=19)(hc:s c=some (t,.cells 159 (csG F v2 v3 v4 v5 v6 v7)))(hL:FL s F v2 v3 v4 v5 v6 v7){J:Nat->Hq->Prop}(h:∀b s',s' b=some (false,.cells 31 (csG F v2 v3 v4 v5 v6 v7))->Sub s s'->J b s'):
  oK (qAc (.ptr c 0)) λv0=>oK (qAC 0 v0) λv1=>oK (rdN s 19 v1) λv2=>newK 31 zs (λb s4=>oK (qBA s4 19 (.ptr b 0) (.agg v2)) λs5=>J b s5) s:=by
 simp only[qGq,qAG,zA,qAB];refine qAA (qAS hc rfl) (qAP λb s4 hb h4 u4=>qAW h4 (by rw[zABw,hz]) hz hL.all λs5 h5 u5=>?_);exact h b s5 h5 (qAX (u4.sub hb) u5 hb)
structure FabOk(F:FG):Prop where
 lf:1<=F.lf/\F.lf<=32
 sp:0<=F.sp/\F.sp<=32
 sum:F.lf+F.sp<=32
 el:0<=F.el/\F.el<=2
 hz:0<=F.hz/\F.hz<=1
 ro:0<=F.ro/\F.ro<=1
abbrev Kok(s:Hq)(P:Prop)(K:AV->Hq->Prop):Prop:=P->∀s',Sub s s'->K (.tup []) s'
abbrev Rbad(s:Hq)(P:Prop)(R:AV->Hq->Prop):Prop:=¬P->∀(e:Int) (p:ByteArray) (i:Int) s',e≠0->Sub s s'->R (flV e p i) s'
theorem qWa(hc:s c=some (t,.cells 159 (csG F v2 v3 v4 v5 v6 v7)))(hL:FL s F v2 v3 v4 v5 v6 v7)(hK:Kok s (FabOk F) K)(hR:Rbad s (FabOk F) R):qAf TP X0 SS 119 [.ptr c 0] K R s:=by
 refine qRp (qL4 rfl hc hL λb3 s5 h5 k5=>?_);simp only[qAG,zA,qAB,qAI h5,csG0];have j2:∀(x y:AV) (bad:Bool),qAO x (.bool true) y=some (.bool bad)->(bad=true->¬FabOk F)->(bad=false->FabOk F)->qGm X0 x y K R s5:=λx y bad h h1 h2=>by unfold qGm;rw[h];exact qA6 (λq=>hK (h2 q) s5 k5) λq=>hR (h1 q) _ _ _ s5 (by omega) k5
 have j1:∀(x y:AV) (bad:Bool),qAO x (.bool true) y=some (.bool bad)->(bad=true->¬FabOk F)->(bad=false->outB F.ro 0 1=false->FabOk F)->qGf X0 (.ptr b3 0) x y K R s5:=λx y bad h h1 h2=>by
  unfold qGf;rw[h];simp only[qAB];refine qAJ (λq=>?_) (λq=>?_)
  ·exact j2 _ _ bad (by rw[q];rfl) h1 (λq2=>by rw[q]at q2;cases q2)
  ·simp only[qAG,zA,qAB,qAI h5,zAC9]
   refine qBw X0_0 ?_;exact j2 _ _ (outB F.ro 0 1) (by rw[q];rfl) (λq2 q3=>by have:=qAk.2 q3.ro;rw[this]at q2;cases q2) (λq2=>h2 q q2)
 have j0:∀(x y:AV) (bad:Bool),qAO x (.bool true) y=some (.bool bad)->(bad=true->¬FabOk F)->(bad=false->(1<=F.lf/\F.lf<=32)/\(0<=F.sp/\F.sp<=32))->qGc X0 (.ptr b3 0) x y K R s5:=λx y bad h h1 h2=>by
  unfold qGc;rw[h];simp only[qAB];refine qA6 (λq=>?_) λq=>hR (h1 q) _ _ _ s5 (by omega) k5;obtain⟨g1,g2⟩:=h2 q;simp only[qAG,zA,qAB,qAI h5,csG0,csG1,qAU,qAh];rw[qAe (by omega) (by omega)];refine qA6 (λq2=>?_) λq2=>hR (λg=>by have:=oT q2;have:=g.sum;omega) _ _ _ s5 (by omega) k5;have g3:=oF q2;simp only[qAI h5,csG8,qAB];refine qBw X0_0 ?_;have fin:outB F.el 0 2=false->outB F.hz 0 1=false->outB F.ro 0 1=false->FabOk F:=λa b c=>⟨g1,g2,by omega,qAk.1 a,qAk.1 b,qAk.1 c⟩
  refine qAJ (λq=>?_) (λq=>?_)
  ·exact j1 _ _ true (by rw[q];rfl) (λ_ g=>by have:=qAk.2 g.el;rw[this]at q;cases q) (λq2=>by cases q2)
  ·simp only[qAB,qAI h5,csG9]
   refine qBw X0_0 ?_;exact j1 _ _ (outB F.hz 0 1) (by rw[q];rfl) (λq2 g=>by have:=qAk.2 g.hz;rw[this]at q2;cases q2) (λq2 q3=>fin q q2 q3)
 refine qBw X0_0 ?_;refine qAJ (λq=>?_) (λq=>?_)
 ·exact j0 _ _ true (by rw[q];rfl) (λ_ g=>by have:=qAk.2 g.lf;rw[this]at q;cases q) (λq2=>by cases q2)
 ·simp only[qAB,qAI h5,csG1]
  refine qBw X0_0 ?_;exact j0 _ _ (outB F.sp 0 32) (by rw[q];rfl) (λq2 g=>by have:=qAk.2 g.sp;rw[this]at q2;cases q2) (λq2=>⟨qAk.1 q,qAk.1 q2⟩)
structure TimOk(F:FG):Prop where
 de:1<=F.de/\F.de<=100
 ho:3<=F.ho/\F.ho<=1000
 ag:1<=F.ag/\F.ag<=10000
 re:0<=F.re/\F.re<=1000
 mo:1<=F.mo/\F.mo<=100
 wi:1<=F.wi/\F.wi<=10000
theorem qWw(hc:s c=some (t,.cells 159 (csG F v2 v3 v4 v5 v6 v7)))(hK:Kok s (TimOk F) K)(hR:Rbad s (TimOk F) R):qAf TP X0 SS 120 [.ptr c 0] K R s:=by
 refine qRO ?_;unfold qRq;simp only[qGq,qAG,zA,qAB];have hrd:rdN s 6 (.ptr c 13)=some [.int .i64 F.de,.int .i64 F.ho,.int .i64 F.ag,.int .i64 F.re,.int .i64 F.mo,.int .i64 F.wi]:=by simp only[rdN,hc];rfl
 refine qAA hrd (qAP λb4 s5 hb h5' u5=>qAW h5' rfl rfl rfl λs6 h6 u6=>?_);have k6:Sub s s6:=qAX (u5.sub hb) u6 hb;have c0:rd1 s6 (.ptr b4 0)=some (.int .i64 F.de):=by rw[qAI h6];rfl
 have c1:rd1 s6 (.ptr b4 1)=some (.int .i64 F.ho):=by rw[qAI h6];rfl
 have c2:rd1 s6 (.ptr b4 2)=some (.int .i64 F.ag):=by rw[qAI h6];rfl
 have c3:rd1 s6 (.ptr b4 3)=some (.int .i64 F.re):=by rw[qAI h6];rfl
 have c4:rd1 s6 (.ptr b4 4)=some (.int .i64 F.mo):=by rw[qAI h6];rfl
 have c5:rd1 s6 (.ptr b4 5)=some (.int .i64 F.wi):=by rw[qAI h6];rfl
 have j3:∀(x y:AV) (bad:Bool),qAO x (.bool true) y=some (.bool bad)->(bad=true->¬TimOk F)->(bad=false->TimOk F)->qGs X0 x y K R s6:=λx y bad h h1 h2=>by unfold qGs;rw[h];exact qA6 (λq=>hK (h2 q) s6 k6) λq=>hR (h1 q) _ _ _ s6 (by omega) k6
 have j2:∀(x y:AV) (bad:Bool),qAO x (.bool true) y=some (.bool bad)->(bad=true->¬TimOk F)->(bad=false->outB F.wi 1 10000=false->TimOk F)->qGi X0 (.ptr b4 0) x y K R s6:=λx y bad h h1 h2=>by
  unfold qGi;rw[h];simp only[qAB];refine qAJ (λq=>?_) (λq=>?_)
  ·exact j3 _ _ bad (by rw[q];rfl) h1 (λq2=>by rw[q]at q2;cases q2)
  ·simp only[qAG,zA,qAB,c5]
   refine qBw X0_0 ?_;exact j3 _ _ (outB F.wi 1 10000) (by rw[q];rfl) (λq2 g=>by have:=qAk.2 g.wi;rw[this]at q2;cases q2) (λq2=>h2 q q2)
 have j1:∀(x y:AV) (bad:Bool),qAO x (.bool true) y=some (.bool bad)->(bad=true->¬TimOk F)->(bad=false->outB F.re 0 1000=false->outB F.mo 1 100=false->outB F.wi 1 10000=false->TimOk F)->qGu X0 (.ptr b4 0) x y K R s6:=λx y bad h h1 h2=>by
  unfold qGu;rw[h];simp only[qAB];refine qA6 (λq=>?_) λq=>hR (h1 q) _ _ _ s6 (by omega) k6;simp only[qAG,zA,qAB,c3];refine qBw X0_0 ?_;refine qAJ (λq2=>?_) (λq2=>?_)
  ·exact j2 _ _ true (by rw[q2];rfl) (λ_ g=>by have:=qAk.2 g.re;rw[this]at q2;cases q2) (λq2=>by cases q2)
  ·simp only[qAB,c4]
   refine qBw X0_0 ?_;exact j2 _ _ (outB F.mo 1 100) (by rw[q2];rfl) (λq3 g=>by have:=qAk.2 g.mo;rw[this]at q3;cases q3) (λq3 q4=>h2 q q2 q3 q4)
 have j0:∀(x y:AV) (bad:Bool),qAO x (.bool true) y=some (.bool bad)->(bad=true->¬TimOk F)->(bad=false->outB F.ag 1 10000=false->outB F.re 0 1000=false->outB F.mo 1 100=false->outB F.wi 1 10000=false->TimOk F)->qGj X0 (.ptr b4 0) x y K R s6:=λx y bad h h1 h2=>by
  unfold qGj;rw[h];simp only[qAB];refine qAJ (λq=>?_) (λq=>?_)
  ·exact j1 _ _ bad (by rw[q];rfl) h1 (λq2=>by rw[q]at q2;cases q2)
  ·simp only[qAG,zA,qAB,c2]
   refine qBw X0_0 ?_;exact j1 _ _ (outB F.ag 1 10000) (by rw[q];rfl) (λq2 g=>by have:=qAk.2 g.ag;rw[this]at q2;cases q2) (λq2=>h2 q q2)
 simp only[qAB,c0];refine qBw X0_0 ?_;refine qAJ (λq=>?_) (λq=>?_)
 ·exact j0 _ _ true (by rw[q];rfl) (λ_ g=>by have:=qAk.2 g.de;rw[this]at q;cases q) (λq2=>by cases q2)
 ·simp only[qAB,c1]
  refine qBw X0_0 ?_;exact j0 _ _ (outB F.ho 3 1000) (by rw[q];rfl) (λq2 g=>by have:=qAk.2 g.ho;rw[this]at q2;cases q2) (λq2 q3 q4 q5 q6=>⟨qAk.1 q,qAk.1 q2,qAk.1 q3,qAk.1 q4,qAk.1 q5,qAk.1 q6⟩)
end Go.AM.TN
namespace Go.AM.TN
open Go Go.Proofs
variable {s s' s0:Hq} {v k:AV} {b c mb rb:Nat}
def qOz(q:AV->AV->Option Bool)(k:AV):List AEnt->Nat->Option (Option (Nat×AV))
 |[],_=>some none
 | e::es,i=>match q k e.key with
   |some true=>some (some (i,e.val))
   |some false=>qOz q k es (i+1)
   |none=>none
theorem qSf(k:AV):∀(es:List AEnt) (i:Nat),qMC k es i=qOz (qOA (.int .i64)) k es i
 |[],_=>rfl
 | e::es,i=>by
   unfold qMC qOz;rw[qSf k es (i+1)];cases qOA (.int .i64) k e.key with
   |none=>rfl
   |some b=>cases b<;>rfl
theorem qTM(P:Program)(kt:TypeId)(d:TypeDesc)(k:AV):∀(es:List AEnt) (i:Nat),qIi P kt d k es i=qOz (qJL P kt d) k es i
 |[],_=>rfl
 | e::es,i=>by
   unfold qIi qOz;rw[qTM P kt d k es (i+1)];cases qJL P kt d k e.key with
   |none=>rfl
   |some b=>cases b<;>rfl
def Dec(q:AV->AV->Option Bool)(U:AV->Prop):Prop:=∀k k',U k->U k'->∃b,q k k'=some b/\(b=true↔k=k')
structure SM(U:AV->Prop)(s:Hq)(mb:Nat)(keys:List AV):Prop where
 ex:∃es cl,s mb=some (false,.map es cl)/\(∀e∈es,e.val=.bool true)/\∀k,k∈es.map (·.key)↔k∈keys
 all:∀k∈keys,U k
theorem qPX{q:AV->AV->Option Bool}{U:AV->Prop}(hq:Dec q U){k:AV}(hk:U k):∀(es:List AEnt) (i:Nat),(∀e∈es,U e.key)->
  (qOz q k es i=some none/\k ∉ es.map (·.key))∨∃j e,es[j]?=some e/\e.key=k/\qOz q k es i=some (some (i+j,e.val))
 |[],i,_=>.inl ⟨rfl,by simp⟩
 | e::es,i,h=>by
   obtain⟨b,h1,h2⟩:=hq k e.key hk (h e (by simp));unfold qOz;rw[h1];cases b with
   |true=>exact .inr ⟨0,e,rfl,(h2.1 rfl).symm,by simp⟩
   | false=>
     have hne:k≠e.key:=λq=>by have:=h2.2 q;cases this
     rcases qPX hq hk es (i+1) (λe' he'=>h e' (by simp[he']))with⟨g1,g2⟩|⟨j,e',g1,g2,g3⟩
     ·exact .inl ⟨g1,by simp only[List.map_cons,List.mem_cons,not_or];exact⟨hne,g2⟩⟩
     ·exact .inr ⟨j+1,e',by simpa using g1,g2,by simp only;rw[g3];congr 3;omega⟩
theorem qUW{k v:AV}:∀{es:List AEnt}{j:Nat}{e:AEnt},es[j]?=some e->e.key=k->(modE es j λe=>{ e with key:=k,val:=v }).map (·.key)=es.map (·.key)
 |[],_,_,h,_=>by simp at h
 | x::es,0,e,h,he=>by
   have:x=e:=by simpa using h
   subst this;show k::es.map (·.key)=_;rw[List.map_cons,he]
 | x::es,j+1,e,h,he=>by
   show x.key::(modE es j _).map (·.key)=_;rw[qUW (es:=es) (by simpa using h) he,List.map_cons]
theorem qUd{k v:AV}:∀{es:List AEnt}{j:Nat},(∀e∈es,e.val=v)->∀e∈modE es j (λe=>{ e with key:=k,val:=v }),e.val=v
 |[],0,_,e,h=>by cases h
 |[],_+1,_,e,h=>by cases h
 | x::es,0,hv,e,h=>by
   have h:e∈({ x with key:=k,val:=v }:AEnt)::es:=h;rcases mC h with rfl|h
   ·rfl
   ·exact hv e (by simp[h])
 | x::es,j+1,hv,e,h=>by
   have h:e∈x::modE es j (λe=>{ e with key:=k,val:=v }):=h;rcases mC h with rfl|h
   ·exact hv e (by simp)
   ·exact qUd (λe he=>hv e (by simp[he])) e h
section
variable {q:AV→AV→Option Bool} {U:AV→Prop} {keys:List AV}
theorem SM.fnd(h:SM U s mb keys)(hq:Dec q U)(hk:U k):∃es cl,s mb=some (false,.map es cl)/\((qOz q k es 0=some none/\k ∉ keys)∨∃j e,es[j]?=some e/\e.key=k/\qOz q k es 0=some (some (j,.bool true))/\k∈keys)/\(∀e∈es,e.val=.bool true)/\∀k,k∈es.map (·.key)↔k∈keys:=by
 obtain⟨es,cl,h1,h2,h3⟩:=h.ex;refine⟨es,cl,h1,?_,h2,h3⟩;rcases qPX hq hk es 0 λe he=>h.all _ ((h3 _).1 (List.mem_map.2 ⟨e,he,rfl⟩))with⟨g1,g2⟩|⟨j,e,g1,g2,g3⟩
 ·exact .inl ⟨g1,λhm=>g2 ((h3 _).2 hm)⟩
 ·have he:=mG g1
  exact .inr ⟨j,e,g1,g2,by rw[g3,zA,h2 e he],(h3 _).1 (List.mem_map.2 ⟨e,he,g2⟩)⟩
theorem SM.next{es:List AEnt}{cl:Nat}(h:SM U s mb keys)(hk:U k)(hv:∀e∈es,e.val=.bool true)(h3:∀k,k∈es.map (·.key)↔k∈keys){es':List AEnt}{cl':Nat}(hb:s' mb=some (false,.map es' cl'))
  (hes:(∃j e,es[j]?=some e/\e.key=k/\k∈keys/\es'=modE es j λe=>{ e with key:=k,val:=.bool true })∨es'=es ++ [{ key:=k,val:=.bool true,born:=cl }]):SM U s' mb (keys ++ [k]):=by
 refine⟨⟨es',cl',hb,λe he=>?_,λk'=>?_⟩,λk' hk'=>?_⟩
 ·rcases hes with⟨j,e0,g1,g2,_,rfl⟩|rfl
  ·exact qUd hv e he
  ·rcases mP he with he|he
   ·exact hv e he
   ·rw[List.mem_singleton]at he
    rw[he]
 ·rcases hes with⟨j,e0,g1,g2,g3,rfl⟩|rfl
  ·rw[qUW g1 g2,h3,List.mem_append,List.mem_singleton]
   exact⟨.inl,λq=>q.elim id λe=>by rw[e];exact g3⟩
  ·rw[List.map_append,List.mem_append,h3,List.mem_append]
   simp
 ·rcases mP hk' with q|q
  ·exact h.all _ q
  ·rw[List.mem_singleton]at q
   rw[q];exact hk
theorem SM.sub(h:SM U s mb keys)(k:Sub s s'):SM U s' mb keys:=by obtain⟨es,cl,h1,h2,h3⟩:=h.ex;exact⟨⟨es,cl,k _ _ h1,h2,h3⟩,h.all⟩
theorem SM.upto(h:SM U s mb keys)(u:Upto b s s')(hb:mb≠b):SM U s' mb keys:=by obtain⟨es,cl,h1,h2,h3⟩:=h.ex;exact⟨⟨es,cl,by rw[u _ hb];exact h1,h2,h3⟩,h.all⟩
end
def qO8(v:AV):Prop:=∃n,v=.int .u32 n
theorem qWY:Dec (qOA (.int .i64)) qO8:=by
 rintro k k' ⟨n,rfl⟩ ⟨m,rfl⟩;refine⟨n == m,?_,?_⟩
 ·show cond (qB6 .u32 .u32) (some (eqI n m)) none=_
  rw[qET];rfl
 ·simp
variable {keys:List AV} {U:AV→Prop}
theorem SM.getM{n:Int}(h:SM qO8 s mb keys){J:Option AV->Prop}(hJ:∀r b,retM (.bool false) false r=.bool b->(b=true↔AV.int .u32 n∈keys)->J r):oK (AM.getM s (.map mb) (.int .u32 n)) J:=by
 obtain⟨es,cl,h1,h2,_⟩:=h.fnd qWY ⟨n,rfl⟩;unfold AM.getM;simp only[h1,qSf];rcases h2 with⟨g1,g2⟩|⟨j,e,_,_,g1,g2⟩
 ·rw[g1]
  exact hJ none false rfl ⟨λq=>(by cases q),λq=>absurd q g2⟩
 ·rw[g1]
  exact hJ _ true rfl ⟨λ_=>g2,λ_=>rfl⟩
theorem SM.putM{n:Int}(h:SM qO8 s mb keys){J:Hq->Prop}(hJ:∀s',SM qO8 s' mb (keys ++ [.int .u32 n])->Upto mb s s'->J s'):oK (AM.putM s (.map mb) (.int .u32 n) (.bool true)) J:=by
 obtain⟨es,cl,h1,h2,hv,h3⟩:=h.fnd qWY (k:=.int .u32 n) ⟨n,rfl⟩;unfold AM.putM putE;simp only[h1,qSf];rcases h2 with⟨g1,g2⟩|⟨j,e,g0,g3,g1,g2⟩
 ·rw[g1]
  exact hJ _ (h.next (cl:=cl) ⟨n,rfl⟩ hv h3 qC8 (.inr rfl)) λ_ hi=>qCF hi
 ·rw[g1]
  exact hJ _ (h.next (cl:=cl) ⟨n,rfl⟩ hv h3 qC8 (.inl ⟨j,e,g0,g3,g2,rfl⟩)) λ_ hi=>qCF hi
structure KT(P:Program)(kt:TypeId)(U:AV->Prop):Prop where
 ex:∃d,P.underlying kt=some d/\aggD d=true/\Dec (qJL P kt d) U
 ok:∀k,U k->qFT P 10 kt k=true
variable {P:Program}
theorem SM.getG{kt:TypeId}(hT:KT P kt U)(h:SM U s mb keys)(hk:U k){J:Option AV->Prop}(hJ:∀r b,retM (.bool false) false r=.bool b->(b=true↔k∈keys)->J r):oK (AM.getG P kt s (.map mb) k) J:=by
 obtain⟨d,hd,ha,hq⟩:=hT.ex;obtain⟨es,cl,h1,h2,_⟩:=h.fnd hq hk;unfold AM.getG;rw[hd];simp only[ha,hT.ok k hk,Bool.and_self,cond_true,h1,qTM];rcases h2 with⟨g1,g2⟩|⟨j,e,_,_,g1,g2⟩
 ·rw[g1]
  exact hJ none false rfl ⟨λq=>(by cases q),λq=>absurd q g2⟩
 ·rw[g1]
  exact hJ _ true rfl ⟨λ_=>g2,λ_=>rfl⟩
theorem SM.putG{kt:TypeId}(hT:KT P kt U)(h:SM U s mb keys)(hk:U k){J:Hq->Prop}(hJ:∀s',SM U s' mb (keys ++ [k])->Upto mb s s'->J s'):oK (AM.putG P kt s (.map mb) k (.bool true)) J:=by
 obtain⟨d,hd,ha,hq⟩:=hT.ex;obtain⟨es,cl,h1,h2,hv,h3⟩:=h.fnd hq hk;unfold AM.putG;rw[hd];simp only[ha,hT.ok k hk,Bool.and_self,cond_true,h1,qTM];rcases h2 with⟨g1,g2⟩|⟨j,e,g0,g3,g1,g2⟩
 ·rw[g1]
  exact hJ _ (h.next (cl:=cl) hk hv h3 qC8 (.inr rfl)) λ_ hi=>qCF hi
 ·rw[g1]
  exact hJ _ (h.next (cl:=cl) hk hv h3 qC8 (.inl ⟨j,e,g0,g3,g2,rfl⟩)) λ_ hi=>qCF hi
structure RepR(s:Hq)(v:AV)(ks:List AV):Prop where
 ex:∃bs:List Bool,Sl s v (bs.map AV.bool)/\bs.length=ks.length/\∀(j:Nat) b,bs[j]?=some b->(b=true↔∃k,ks[j]?=some k/\k∈ks.take j)
theorem RepR.sub{ks:List AV}(h:RepR s v ks)(k:Sub s s'):RepR s' v ks:=by obtain⟨bs,h1,h2,h3⟩:=h.ex;exact⟨bs,h1.sub k,h2,h3⟩
theorem RepR.at{ks:List AV}(h:RepR s v ks){j:Nat}{k:AV}(hk:ks[j]?=some k):∃p b,qAT 1 v (.int .i64 (j:Int))=some p/\rd1 s p=some (.bool b)/\(b=true↔k∈ks.take j):=by
 obtain⟨bs,h1,h2,h3⟩:=h.ex;have hj:j<bs.length:=by rw[h2];exact(gS hk).1
 obtain⟨p,g1,g2⟩:=h1.get (i:=j) (by simpa using hj);have hb:bs[j]?=some bs[j]:=gE hj;refine⟨p,bs[j],g1,by rw[g2,List.getElem?_map,hb];rfl,(h3 j _ hb).trans ⟨λ⟨k',e1,e2⟩=>?_,λe=>⟨k,hk,e⟩⟩⟩;rw[hk]at e1;cases e1;exact e2
structure RP(U:AV->Prop)(s0 s:Hq)(mb rb:Nat)(ks:List AV)(i:Nat):Prop where
 keep:Sub s0 s
 nm:s0 mb=none
 nr:s0 rb=none
 ne:mb≠rb
 map:SM U s mb (ks.take i)
 arr:∃bs:List Bool,s rb=some (false,.cells 4 (bs.map AV.bool))/\bs.length=ks.length/\∀(j:Nat) b,j<i->bs[j]?=some b->(b=true↔∃k,ks[j]?=some k/\k∈ks.take j)
theorem RP.sub{ks:List AV}{i:Nat}(h:RP U s0 s mb rb ks i)(k:Sub s s'):RP U s0 s' mb rb ks i:=by obtain⟨bs,h1,h2,h3⟩:=h.arr;exact⟨h.keep.trans k,h.nm,h.nr,h.ne,h.map.sub k,bs,k _ _ h1,h2,h3⟩
theorem RP.put{ks:List AV}{i:Nat}{k:AV}{b:Bool}(h:RP U s0 s mb rb ks i)(hk:ks[i]?=some k)(hb:b=true↔k∈ks.take i){J:Hq->Prop}
  (hJ:∀(s':Hq) (bs:List Bool),SM U s' mb (ks.take i)->Sub s0 s'->s' rb=some (false,.cells 4 (bs.map AV.bool))->bs.length=ks.length->(∀(j:Nat) b,j<i+1->bs[j]?=some b->(b=true↔∃k,ks[j]?=some k/\k∈ks.take j))->J s') :
  oK (qAT 1 (.slc rb 0 ks.length (some ks.length) 1) (.int .i64 (i:Int))) λp=>oK (wr1 s p (.bool b)) J:=by
 obtain⟨bs,h1,h2,h3⟩:=h.arr;have hi:i<ks.length:=(gS hk).1;have e1:qAT 1 (.slc rb 0 ks.length (some ks.length) 1) (.int .i64 (i:Int))=some (.ptr rb i):=by
  have:Nat.blt i ks.length=true:=by rw[Nat.blt_eq];exact hi
  simp[qAT,this]
 rw[e1];simp only[qAB];refine qBW h1 (by simp;omega) rfl λs' h4 u4=>?_;refine hJ s' (bs.set i b) (h.map.upto u4 h.ne) (qAX h.keep u4 h.nr) (by rw[h4,List.map_set]) (by simp[h2]) λj b' hj hb'=>?_
 by_cases e:i=j
 ·subst e
  rw[List.getElem?_set_self (by omega)]at hb';cases hb';exact hb.trans ⟨λq=>⟨k,hk,q⟩,λ⟨k',q1,q2⟩=>by rw[hk]at q1;cases q1;exact q2⟩
 ·rw[List.getElem?_set_ne e]at hb'
  exact h3 j b' (by omega) hb'
theorem RP.done{ks:List AV}(h:RP U s0 s mb rb ks ks.length):RepR s (.slc rb 0 ks.length (some ks.length) 1) ks:=by obtain⟨bs,h1,h2,h3⟩:=h.arr;refine⟨bs,Sl.mk h1 (by simp[h2]) (λc e=>by cases e;simp[h2]),h2,λj b hb=>h3 j b ?_ hb⟩;rw[<- h2];exact(gS hb).1
theorem RP.start{ks:List AV}(h1:s0 mb=none)(h2:s0 rb=none)(hne:mb≠rb)(hs:Sub s0 s)(hm:s mb=some (false,.map [] 0))(hr:s rb=some (false,.cells 4 (repl ks.length [.bool false]))):RP U s0 s mb rb ks 0:=
 ⟨hs,h1,h2,hne,⟨⟨[],0,hm,by simp,by simp⟩,by simp⟩,List.replicate ks.length false,by rw[hr,qLA];simp,by simp,λj b hj=>by omega⟩
end Go.AM.TN
set_option maxRecDepth 100000
namespace Go.AM.TN
open Go Go.Proofs
variable {K:AV→Hq→Prop} {s s' s0:Hq} {v k:AV} {b mb rb:Nat} {Y:Td} {U:AV→Prop}
theorem qOH{k:IntKind}{n:Int}{p:Prop}:intK (.int k n) p=p:=id rfl
theorem RP.putU{ks:List AV}{i:Nat}{k:AV}{b:Bool}(h:RP U s0 s mb rb ks i)(hk:ks[i]?=some k)(hb:b=true↔k∈ks.take i){J:Hq->Prop}
  (hJ:∀(s':Hq) (bs:List Bool),SM U s' mb (ks.take i)->Sub s0 s'->s' rb=some (false,.cells 4 (bs.map AV.bool))->bs.length=ks.length->(∀(j:Nat) b,j<i+1->bs[j]?=some b->(b=true↔∃k,ks[j]?=some k/\k∈ks.take j))->Upto rb s s'->J s') :
  oK (qAT 1 (.slc rb 0 ks.length (some ks.length) 1) (.int .i64 (i:Int))) λp=>oK (wr1 s p (.bool b)) J:=by
 obtain⟨bs,h1,h2,h3⟩:=h.arr;have hi:i<ks.length:=(gS hk).1;have e1:qAT 1 (.slc rb 0 ks.length (some ks.length) 1) (.int .i64 (i:Int))=some (.ptr rb i):=by
  have:Nat.blt i ks.length=true:=by rw[Nat.blt_eq];exact hi
  simp[qAT,this]
 rw[e1];simp only[qAB];refine qBW h1 (by simp;omega) rfl λs' h4 u4=>?_;refine hJ s' (bs.set i b) (h.map.upto u4 h.ne) (qAX h.keep u4 h.nr) (by rw[h4,List.map_set]) (by simp[h2]) (λj b' hj hb'=>?_) u4
 by_cases e:i=j
 ·subst e
  rw[List.getElem?_set_self (by omega)]at hb';cases hb';exact hb.trans ⟨λq=>⟨k,hk,q⟩,λ⟨k',q1,q2⟩=>by rw[hk]at q1;cases q1;exact q2⟩
 ·rw[List.getElem?_set_ne e]at hb'
  exact h3 j b' (by omega) hb'
theorem zAAo(hY:Fn0 Y){A:Type}{rows:List A}{rowC:A->List AV}(hl:∀x,(rowC x).length=2)(ho:∀x,qAd (rowC x)=true){key1:AV}{kf:A->Int}(hkey:∀(x:A) (s:Hq) (J:AV->Hq->Prop),(∀s',Sub s s'->J (AV.int .u32 (kf x)) s')->funK TP Y key1 [.agg (rowC x)] J s)(hv:SlR 2 s v (rows.map rowC))(hn:rows.length<=4294967296)(hK:∀s' r,Sub s s'->RepR s' r (rows.map λx=>AV.int .u32 (kf x))->K r s'):wC TP Y 154 [v,key1] K s:=by
 refine qHd hY.fr (hY.no _ rfl) ?_;unfold qFC;have hlen:qAN v=some rows.length:=by rw[hv.len,lM]
 have hkl0:(rows.map λx=>AV.int .u32 (kf x)).length=rows.length:=lM _;rw[hlen];simp only[qAB];rw[qOH];intro mb hmb;simp only[nat?_mk,qAB];refine⟨⟨Nat.le_refl _,hn⟩,qAP λrb s9 hrb h9 u9=>?_⟩;have k3:Sub s (hset s mb (false,.map [] 0)):=qNg hmb;have hne:mb≠rb:=λe=>by rw[<- e,qC8]at hrb;cases hrb
 have hsrb:s rb=none:=by rw[qCF (Ne.symm hne)]at hrb;exact hrb
 have hm9:s9 mb=some (false,.map [] 0):=by rw[u9 _ hne,qC8]
 have rp0:RP qO8 s s9 mb rb (rows.map λx=>AV.int .u32 (kf x)) 0:=.start hmb hsrb hne (k3.trans (u9.sub hrb)) hm9 (by rw[hkl0];exact h9);refine⟨λys t m=>∃i:Nat,ys=[.int .i64 (i:Int)]/\i<=rows.length/\m=rows.length-i/\RP qO8 s t mb rb (rows.map λx=>AV.int .u32 (kf x)) i,⟨_,0,rfl,by omega,rfl,rp0⟩,?_⟩;rintro f t m ⟨i,hy,hi,rfl,rp⟩;simp only[cI,and_true]at hy;rw[hy];simp only[qD1,qAR,qAB];refine qAJ (λhlt=>?_) (λhge=>?_)
 rotate_left
 ·have hge:i=rows.length:=by have:=oF hge;omega
  subst hge;have:=RP.done (by rw[hkl0];exact rp);rw[hkl0]at this;exact hK t _ rp.keep this
 have hlt:i<rows.length:=by have:=oT hlt;omega
 have hx:rows[i]?=some rows[i]:=gE hlt;generalize rows[i]=x at hx;obtain⟨pb,po,e1,e2,_⟩:=(hv.sub rp.keep).get (i:=i) (r:=rowC x) (by rw[List.getElem?_map,hx];rfl);have hkx:(rows.map λx=>AV.int .u32 (kf x))[i]?=some (AV.int .u32 (kf x)):=by rw[List.getElem?_map,hx];rfl
 rw[e1];simp only[qAB,e2];refine qAP λb15 s16 hb15 h16 u16=>qAW h16 (by rw[hl x];rfl) rfl (ho x) λs17 h17 u17=>qAA (qAS h17 (hl x)) ?_;have k17:Sub t s17:=qAX (u16.sub hb15) u17 hb15;refine hkey x s17 _ λs20 k20=>?_;have rp20:=rp.sub (k17.trans k20);refine rp20.map.getM λr b hr hb=>?_;rw[hr];rw[<- hkl0];refine rp20.put hkx hb λs23 bs sm23 k23 h23 hbl hbs=>?_;refine sm23.putM λs24 sm24 u24=>?_;have rp24:RP qO8 s s24 mb rb (rows.map λx=>AV.int .u32 (kf x)) (i+1):=⟨qAX k23 u24 hmb,hmb,hsrb,hne,by rw[List.take_add_one,hkx];exact sm24,bs,by rw[u24 _ (Ne.symm hne)];exact h23,hbl,hbs⟩
 simp only[qAU,qAB];rw[qAe (by omega) (by omega)];exact⟨_,by omega,i+1,rfl,by omega,rfl,rp24⟩
theorem zAAc(hY:Fn0 Y){A:Type}{rows:List A}{rowC:A->List AV}(hl:∀x,(rowC x).length=6)(ho:∀x,qAd (rowC x)=true){key1:AV}{kf:A->Int}(hkey:∀(x:A) (s:Hq) (J:AV->Hq->Prop),(∀s',Sub s s'->J (AV.int .u32 (kf x)) s')->funK TP Y key1 [.agg (rowC x)] J s)(hv:SlR 6 s v (rows.map rowC))(hn:rows.length<=4294967296)(hK:∀s' r,Sub s s'->RepR s' r (rows.map λx=>AV.int .u32 (kf x))->K r s'):wC TP Y 157 [v,key1] K s:=by
 refine qJ9 hY.fr (hY.no _ rfl) ?_;unfold qHj;have hlen:qAN v=some rows.length:=by rw[hv.len,lM]
 have hkl0:(rows.map λx=>AV.int .u32 (kf x)).length=rows.length:=lM _;rw[hlen];simp only[qAB];rw[qOH];intro mb hmb;simp only[nat?_mk,qAB];refine⟨⟨Nat.le_refl _,hn⟩,qAP λrb s9 hrb h9 u9=>?_⟩;have k3:Sub s (hset s mb (false,.map [] 0)):=qNg hmb;have hne:mb≠rb:=λe=>by rw[<- e,qC8]at hrb;cases hrb
 have hsrb:s rb=none:=by rw[qCF (Ne.symm hne)]at hrb;exact hrb
 have hm9:s9 mb=some (false,.map [] 0):=by rw[u9 _ hne,qC8]
 have rp0:RP qO8 s s9 mb rb (rows.map λx=>AV.int .u32 (kf x)) 0:=.start hmb hsrb hne (k3.trans (u9.sub hrb)) hm9 (by rw[hkl0];exact h9);refine⟨λys t m=>∃i:Nat,ys=[.int .i64 (i:Int)]/\i<=rows.length/\m=rows.length-i/\RP qO8 s t mb rb (rows.map λx=>AV.int .u32 (kf x)) i,⟨_,0,rfl,by omega,rfl,rp0⟩,?_⟩;rintro f t m ⟨i,hy,hi,rfl,rp⟩;simp only[cI,and_true]at hy;rw[hy];simp only[qFV,qAR,qAB];refine qAJ (λhlt=>?_) (λhge=>?_)
 rotate_left
 ·have hge:i=rows.length:=by have:=oF hge;omega
  subst hge;have:=RP.done (by rw[hkl0];exact rp);rw[hkl0]at this;exact hK t _ rp.keep this
 have hlt:i<rows.length:=by have:=oT hlt;omega
 have hx:rows[i]?=some rows[i]:=gE hlt;generalize rows[i]=x at hx;obtain⟨pb,po,e1,e2,_⟩:=(hv.sub rp.keep).get (i:=i) (r:=rowC x) (by rw[List.getElem?_map,hx];rfl);have hkx:(rows.map λx=>AV.int .u32 (kf x))[i]?=some (AV.int .u32 (kf x)):=by rw[List.getElem?_map,hx];rfl
 rw[e1];simp only[qAB,e2];refine qAP λb15 s16 hb15 h16 u16=>qAW h16 (by rw[hl x];rfl) rfl (ho x) λs17 h17 u17=>qAA (qAS h17 (hl x)) ?_;have k17:Sub t s17:=qAX (u16.sub hb15) u17 hb15;refine hkey x s17 _ λs20 k20=>?_;have rp20:=rp.sub (k17.trans k20);refine rp20.map.getM λr b hr hb=>?_;rw[hr];rw[<- hkl0];refine rp20.put hkx hb λs23 bs sm23 k23 h23 hbl hbs=>?_;refine sm23.putM λs24 sm24 u24=>?_;have rp24:RP qO8 s s24 mb rb (rows.map λx=>AV.int .u32 (kf x)) (i+1):=⟨qAX k23 u24 hmb,hmb,hsrb,hne,by rw[List.take_add_one,hkx];exact sm24,bs,by rw[u24 _ (Ne.symm hne)];exact h23,hbl,hbs⟩
 simp only[qAU,qAB];rw[qAe (by omega) (by omega)];exact⟨_,by omega,i+1,rfl,by omega,rfl,rp24⟩
theorem zADR(hY:Fn0 Y){A:Type}{rows:List A}{rowC:A->List AV}(hl:∀x,(rowC x).length=3)(ho:∀x,qAd (rowC x)=true){key1:AV}{kf:A->List AV}{U:AV->Prop}(hT:KT TP 199 U)(hU:∀x,U (.agg (kf x)))(hkl:∀x,(kf x).length=2)(hko:∀x,qAd (kf x)=true)(hkey:∀(x:A) (s:Hq) (J:AV->Hq->Prop),(∀s',Sub s s'->J (AV.agg (kf x)) s')->funK TP Y key1 [.agg (rowC x)] J s)(hv:SlR 3 s v (rows.map rowC))(hn:rows.length<=4294967296)(hK:∀s' r,Sub s s'->RepR s' r (rows.map λx=>AV.agg (kf x))->K r s'):wC TP Y 151 [v,key1] K s:=by
 refine qIk hY.fr (hY.no _ rfl) ?_;unfold qGJ;have hlen:qAN v=some rows.length:=by rw[hv.len,lM]
 have hkl0:(rows.map λx=>AV.agg (kf x)).length=rows.length:=lM _;rw[hlen];simp only[qAB];rw[qOH];intro mb hmb;simp only[nat?_mk,qAB];refine⟨⟨Nat.le_refl _,hn⟩,qAP λrb s9 hrb h9 u9=>?_⟩;have k3:Sub s (hset s mb (false,.map [] 0)):=qNg hmb;have hne:mb≠rb:=λe=>by rw[<- e,qC8]at hrb;cases hrb
 have hsrb:s rb=none:=by rw[qCF (Ne.symm hne)]at hrb;exact hrb
 have hm9:s9 mb=some (false,.map [] 0):=by rw[u9 _ hne,qC8]
 have rp0:RP U s s9 mb rb (rows.map λx=>AV.agg (kf x)) 0:=.start hmb hsrb hne (k3.trans (u9.sub hrb)) hm9 (by rw[hkl0];exact h9);refine⟨λys t m=>∃i:Nat,ys=[.int .i64 (i:Int)]/\i<=rows.length/\m=rows.length-i/\RP U s t mb rb (rows.map λx=>AV.agg (kf x)) i,⟨_,0,rfl,by omega,rfl,rp0⟩,?_⟩;rintro f t m ⟨i,hy,hi,rfl,rp⟩;simp only[cI,and_true]at hy;rw[hy];simp only[qEV,qAR,qAB];refine qAJ (λhlt=>?_) (λhge=>?_)
 rotate_left
 ·have hge:i=rows.length:=by have:=oF hge;omega
  subst hge;have:=RP.done (by rw[hkl0];exact rp);rw[hkl0]at this;exact hK t _ rp.keep this
 have hlt:i<rows.length:=by have:=oT hlt;omega
 have hx:rows[i]?=some rows[i]:=gE hlt;generalize rows[i]=x at hx;obtain⟨pb,po,e1,e2,_⟩:=(hv.sub rp.keep).get (i:=i) (r:=rowC x) (by rw[List.getElem?_map,hx];rfl);have hkx:(rows.map λx=>AV.agg (kf x))[i]?=some (AV.agg (kf x)):=by rw[List.getElem?_map,hx];rfl
 rw[e1];simp only[qAB,e2];refine qAP λb15 s16 hb15 h16 u16=>qAW h16 (by rw[hl x];rfl) rfl (ho x) λs17 h17 u17=>qAA (qAS h17 (hl x)) ?_;have k17:Sub t s17:=qAX (u16.sub hb15) u17 hb15;refine hkey x s17 _ λs20 k20=>?_;refine qAP λb21 s22 hb21 h22 u22=>qAW h22 (by rw[hkl x];rfl) rfl (hko x) λs23 h23' u23'=>qAA (qAS h23' (hkl x)) ?_;have k23':Sub s20 s23:=qAX (u22.sub hb21) u23' hb21;have rp20:=rp.sub ((k17.trans k20).trans k23');have h20:=rp20.map.ex;refine rp20.map.getG hT (hU x) λr b hr hb=>?_;rw[hr];rw[<- hkl0];have nrb:b21≠rb:=λe=>by obtain⟨bs,q,_⟩:=(rp.sub (k17.trans k20)).arr;rw[e,q]at hb21;cases hb21
 obtain⟨bs0,q0,_⟩:=rp20.arr;refine rp20.putU hkx hb λs27 bs sm27 k27 h27 hbl hbs u27=>?_;have h27':s27 b21=some (false,.cells 199 (kf x)):=by rw[u27 _ nrb];exact h23'
 refine qAA (qAS h27' (hkl x)) ?_;refine sm27.putG hT (hU x) λs24 sm24 u24=>?_;have rp24:RP U s s24 mb rb (rows.map λx=>AV.agg (kf x)) (i+1):=⟨qAX k27 u24 hmb,hmb,hsrb,hne,by rw[List.take_add_one,hkx];exact sm24,bs,by rw[u24 _ (Ne.symm hne)];exact h27,hbl,hbs⟩
 simp only[qAU,qAB];rw[qAe (by omega) (by omega)];exact⟨_,by omega,i+1,rfl,by omega,rfl,rp24⟩
theorem zAA2(hY:Fn0 Y){A:Type}{rows:List A}{rowC:A->List AV}(hl:∀x,(rowC x).length=4)(ho:∀x,qAd (rowC x)=true){key1:AV}{kf:A->List AV}{U:AV->Prop}(hT:KT TP 212 U)(hU:∀x,U (.agg (kf x)))(hkl:∀x,(kf x).length=2)(hko:∀x,qAd (kf x)=true)(hkey:∀(x:A) (s:Hq) (J:AV->Hq->Prop),(∀s',Sub s s'->J (AV.agg (kf x)) s')->funK TP Y key1 [.agg (rowC x)] J s)(hv:SlR 4 s v (rows.map rowC))(hn:rows.length<=4294967296)(hK:∀s' r,Sub s s'->RepR s' r (rows.map λx=>AV.agg (kf x))->K r s'):wC TP Y 168 [v,key1] K s:=by
 refine qFa hY.fr (hY.no _ rfl) ?_;unfold qDi;have hlen:qAN v=some rows.length:=by rw[hv.len,lM]
 have hkl0:(rows.map λx=>AV.agg (kf x)).length=rows.length:=lM _;rw[hlen];simp only[qAB];rw[qOH];intro mb hmb;simp only[nat?_mk,qAB];refine⟨⟨Nat.le_refl _,hn⟩,qAP λrb s9 hrb h9 u9=>?_⟩;have k3:Sub s (hset s mb (false,.map [] 0)):=qNg hmb;have hne:mb≠rb:=λe=>by rw[<- e,qC8]at hrb;cases hrb
 have hsrb:s rb=none:=by rw[qCF (Ne.symm hne)]at hrb;exact hrb
 have hm9:s9 mb=some (false,.map [] 0):=by rw[u9 _ hne,qC8]
 have rp0:RP U s s9 mb rb (rows.map λx=>AV.agg (kf x)) 0:=.start hmb hsrb hne (k3.trans (u9.sub hrb)) hm9 (by rw[hkl0];exact h9);refine⟨λys t m=>∃i:Nat,ys=[.int .i64 (i:Int)]/\i<=rows.length/\m=rows.length-i/\RP U s t mb rb (rows.map λx=>AV.agg (kf x)) i,⟨_,0,rfl,by omega,rfl,rp0⟩,?_⟩;rintro f t m ⟨i,hy,hi,rfl,rp⟩;simp only[cI,and_true]at hy;rw[hy];simp only[qDA,qAR,qAB];refine qAJ (λhlt=>?_) (λhge=>?_)
 rotate_left
 ·have hge:i=rows.length:=by have:=oF hge;omega
  subst hge;have:=RP.done (by rw[hkl0];exact rp);rw[hkl0]at this;exact hK t _ rp.keep this
 have hlt:i<rows.length:=by have:=oT hlt;omega
 have hx:rows[i]?=some rows[i]:=gE hlt;generalize rows[i]=x at hx;obtain⟨pb,po,e1,e2,_⟩:=(hv.sub rp.keep).get (i:=i) (r:=rowC x) (by rw[List.getElem?_map,hx];rfl);have hkx:(rows.map λx=>AV.agg (kf x))[i]?=some (AV.agg (kf x)):=by rw[List.getElem?_map,hx];rfl
 rw[e1];simp only[qAB,e2];refine qAP λb15 s16 hb15 h16 u16=>qAW h16 (by rw[hl x];rfl) rfl (ho x) λs17 h17 u17=>qAA (qAS h17 (hl x)) ?_;have k17:Sub t s17:=qAX (u16.sub hb15) u17 hb15;refine hkey x s17 _ λs20 k20=>?_;refine qAP λb21 s22 hb21 h22 u22=>qAW h22 (by rw[hkl x];rfl) rfl (hko x) λs23 h23' u23'=>qAA (qAS h23' (hkl x)) ?_;have k23':Sub s20 s23:=qAX (u22.sub hb21) u23' hb21;have rp20:=rp.sub ((k17.trans k20).trans k23');have h20:=rp20.map.ex;refine rp20.map.getG hT (hU x) λr b hr hb=>?_;rw[hr];rw[<- hkl0];have nrb:b21≠rb:=λe=>by obtain⟨bs,q,_⟩:=(rp.sub (k17.trans k20)).arr;rw[e,q]at hb21;cases hb21
 obtain⟨bs0,q0,_⟩:=rp20.arr;refine rp20.putU hkx hb λs27 bs sm27 k27 h27 hbl hbs u27=>?_;have h27':s27 b21=some (false,.cells 212 (kf x)):=by rw[u27 _ nrb];exact h23'
 refine qAA (qAS h27' (hkl x)) ?_;refine sm27.putG hT (hU x) λs24 sm24 u24=>?_;have rp24:RP U s s24 mb rb (rows.map λx=>AV.agg (kf x)) (i+1):=⟨qAX k27 u24 hmb,hmb,hsrb,hne,by rw[List.take_add_one,hkx];exact sm24,bs,by rw[u24 _ (Ne.symm hne)];exact h27,hbl,hbs⟩
 simp only[qAU,qAB];rw[qAe (by omega) (by omega)];exact⟨_,by omega,i+1,rfl,by omega,rfl,rp24⟩
theorem zAEA(hY:Fn0 Y){A:Type}{rows:List A}{rowC:A->List AV}(hl:∀x,(rowC x).length=4)(ho:∀x,qAd (rowC x)=true){key1:AV}{kf:A->List AV}{U:AV->Prop}(hT:KT TP 118 U)(hU:∀x,U (.agg (kf x)))(hkl:∀x,(kf x).length=4)(hko:∀x,qAd (kf x)=true)(hkey:∀(x:A) (s:Hq) (J:AV->Hq->Prop),(∀s',Sub s s'->J (AV.agg (kf x)) s')->funK TP Y key1 [.agg (rowC x)] J s)(hv:SlR 4 s v (rows.map rowC))(hn:rows.length<=4294967296)(hK:∀s' r,Sub s s'->RepR s' r (rows.map λx=>AV.agg (kf x))->K r s'):wC TP Y 173 [v,key1] K s:=by
 refine qHX hY.fr (hY.no _ rfl) ?_;unfold qE4;have hlen:qAN v=some rows.length:=by rw[hv.len,lM]
 have hkl0:(rows.map λx=>AV.agg (kf x)).length=rows.length:=lM _;rw[hlen];simp only[qAB];rw[qOH];intro mb hmb;simp only[nat?_mk,qAB];refine⟨⟨Nat.le_refl _,hn⟩,qAP λrb s9 hrb h9 u9=>?_⟩;have k3:Sub s (hset s mb (false,.map [] 0)):=qNg hmb;have hne:mb≠rb:=λe=>by rw[<- e,qC8]at hrb;cases hrb
 have hsrb:s rb=none:=by rw[qCF (Ne.symm hne)]at hrb;exact hrb
 have hm9:s9 mb=some (false,.map [] 0):=by rw[u9 _ hne,qC8]
 have rp0:RP U s s9 mb rb (rows.map λx=>AV.agg (kf x)) 0:=.start hmb hsrb hne (k3.trans (u9.sub hrb)) hm9 (by rw[hkl0];exact h9);refine⟨λys t m=>∃i:Nat,ys=[.int .i64 (i:Int)]/\i<=rows.length/\m=rows.length-i/\RP U s t mb rb (rows.map λx=>AV.agg (kf x)) i,⟨_,0,rfl,by omega,rfl,rp0⟩,?_⟩;rintro f t m ⟨i,hy,hi,rfl,rp⟩;simp only[cI,and_true]at hy;rw[hy];simp only[qDr,qAR,qAB];refine qAJ (λhlt=>?_) (λhge=>?_)
 rotate_left
 ·have hge:i=rows.length:=by have:=oF hge;omega
  subst hge;have:=RP.done (by rw[hkl0];exact rp);rw[hkl0]at this;exact hK t _ rp.keep this
 have hlt:i<rows.length:=by have:=oT hlt;omega
 have hx:rows[i]?=some rows[i]:=gE hlt;generalize rows[i]=x at hx;obtain⟨pb,po,e1,e2,_⟩:=(hv.sub rp.keep).get (i:=i) (r:=rowC x) (by rw[List.getElem?_map,hx];rfl);have hkx:(rows.map λx=>AV.agg (kf x))[i]?=some (AV.agg (kf x)):=by rw[List.getElem?_map,hx];rfl
 rw[e1];simp only[qAB,e2];refine qAP λb15 s16 hb15 h16 u16=>qAW h16 (by rw[hl x];rfl) rfl (ho x) λs17 h17 u17=>qAA (qAS h17 (hl x)) ?_;have k17:Sub t s17:=qAX (u16.sub hb15) u17 hb15;refine hkey x s17 _ λs20 k20=>?_;refine qAP λb21 s22 hb21 h22 u22=>qAW h22 (by rw[hkl x];rfl) rfl (hko x) λs23 h23' u23'=>qAA (qAS h23' (hkl x)) ?_;have k23':Sub s20 s23:=qAX (u22.sub hb21) u23' hb21;have rp20:=rp.sub ((k17.trans k20).trans k23');have h20:=rp20.map.ex;refine rp20.map.getG hT (hU x) λr b hr hb=>?_;rw[hr];rw[<- hkl0];have nrb:b21≠rb:=λe=>by obtain⟨bs,q,_⟩:=(rp.sub (k17.trans k20)).arr;rw[e,q]at hb21;cases hb21
 obtain⟨bs0,q0,_⟩:=rp20.arr;refine rp20.putU hkx hb λs27 bs sm27 k27 h27 hbl hbs u27=>?_;have h27':s27 b21=some (false,.cells 118 (kf x)):=by rw[u27 _ nrb];exact h23'
 refine qAA (qAS h27' (hkl x)) ?_;refine sm27.putG hT (hU x) λs24 sm24 u24=>?_;have rp24:RP U s s24 mb rb (rows.map λx=>AV.agg (kf x)) (i+1):=⟨qAX k27 u24 hmb,hmb,hsrb,hne,by rw[List.take_add_one,hkx];exact sm24,bs,by rw[u24 _ (Ne.symm hne)];exact h27,hbl,hbs⟩
 simp only[qAU,qAB];rw[qAe (by omega) (by omega)];exact⟨_,by omega,i+1,rfl,by omega,rfl,rp24⟩
end Go.AM.TN
set_option maxRecDepth 100000
namespace Go.AM.TN
open Go Go.Proofs
variable {s s':Hq} {k:AV} {b c:Nat} {Y:Td} {J:AV→Hq→Prop}
theorem k206(a b a' b':Int):qJL TP 199 (.array 2 3) (.agg [.int .i64 a,.int .i64 b]) (.agg [.int .i64 a',.int .i64 b'])=(match mB (some (eqI a a')) (mB (some (eqI b b')) (some true))with
 |some true=>cond (eqI a a'&&(eqI b b'&&true)) (some true) none
 |r=>r):=by kernel_rfl
theorem zAEy:KT TP 199 (λk=>∃a b,k=.agg [.int .i64 a,.int .i64 b]):=by
 refine⟨⟨_,Tryz.underlying199,rfl,?_⟩,?_⟩
 ·rintro k k' ⟨a,b,rfl⟩ ⟨a',b',rfl⟩
  refine⟨decide (a=a'/\b=b'),?_,by simp⟩;rw[k206,qEN,qEN]
  by_cases h1:a=a'
  ·by_cases h2:b=b'
   ·simp[mB,h1,h2]
   ·simp[mB,h1,h2]
  ·simp[mB,h1]
 ·rintro k ⟨a,b,rfl⟩
  have:∀a b:Int,qFT TP 10 199 (.agg [.int .i64 a,.int .i64 b])=true:=λa b=>by kernel_rfl
  exact this a b
theorem k223(a b a' b':Int):qJL TP 212 (.struct #[{ name:="bd",type:=3,offset:=0,embedded:=false,tag:="",pkgPath:="leafmesh/tenant",byteOffset:=0 },{ name:="addr",type:=39,offset:=1,embedded:=false,tag:="",pkgPath:="leafmesh/tenant",byteOffset:=8 }]) (.agg [.int .i64 a,.int .u64 b]) (.agg [.int .i64 a',.int .u64 b'])=(match mB (some (eqI a a')) (mB (some (eqI b b')) (some true))with
 |some true=>cond (eqI a a'&&(eqI b b'&&true)) (some true) none
 |r=>r):=by kernel_rfl
theorem zAC4:KT TP 212 (λk=>∃a b,k=.agg [.int .i64 a,.int .u64 b]):=by
 refine⟨⟨_,Tryz.underlying212,rfl,?_⟩,?_⟩
 ·rintro k k' ⟨a,b,rfl⟩ ⟨a',b',rfl⟩
  refine⟨decide (a=a'/\b=b'),?_,by simp⟩;rw[k223,qEN,qEN]
  by_cases h1:a=a'
  ·by_cases h2:b=b'
   ·simp[mB,h1,h2]
   ·simp[mB,h1,h2]
  ·simp[mB,h1]
 ·rintro k ⟨a,b,rfl⟩
  have:∀a b:Int,qFT TP 10 212 (.agg [.int .i64 a,.int .u64 b])=true:=λa b=>by kernel_rfl
  exact this a b
theorem k140(a b c d a' b' c' d':Int):qJL TP 118 (.struct #[{ name:="From",type:=3,offset:=0,embedded:=false,tag:="",pkgPath:="",byteOffset:=0 },{ name:="To",type:=3,offset:=1,embedded:=false,tag:="",pkgPath:="",byteOffset:=8 },{ name:="Prefix",type:=67,offset:=2,embedded:=false,tag:="",pkgPath:="",byteOffset:=16 }]) (.agg [.int .i64 a,.int .i64 b,.int .u32 c,.int .i64 d]) (.agg [.int .i64 a',.int .i64 b',.int .u32 c',.int .i64 d'])=(match mB (some (eqI a a')) (mB (some (eqI b b')) (mB (mB (some (eqI c c')) (mB (some (eqI d d')) (some true))) (some true)))with
 |some true=>cond (eqI a a'&&(eqI b b'&&(eqI c c'&&(eqI d d'&&true)))) (some true) none
 |r=>r):=by kernel_rfl
theorem zAEe:KT TP 118 (λk=>∃x,k=.agg (ggC x)):=by
 refine⟨⟨_,Tryz.underlying118,rfl,?_⟩,?_⟩
 ·rintro k k' ⟨⟨a,b,c,d⟩,rfl⟩ ⟨⟨a',b',c',d'⟩,rfl⟩
  refine⟨decide (a=a'/\b=b'/\c=c'/\d=d'),?_,by simp[ggC]⟩;show qJL TP 118 _ (.agg [.int .i64 a,.int .i64 b,.int .u32 c,.int .i64 d]) (.agg [.int .i64 a',.int .i64 b',.int .u32 c',.int .i64 d'])=_;rw[k140,qEN,qEN,qEN,qEN]
  by_cases h1:a=a'
  ·by_cases h2:b=b'
   ·by_cases h3:c=c'
    ·by_cases h4:d=d'
     ·simp[mB,h1,h2,h3,h4]
     ·simp[mB,h1,h2,h3,h4]
    ·simp[mB,h1,h2,h3]
   ·simp[mB,h1,h2]
  ·simp[mB,h1]
 ·rintro k ⟨⟨a,b,c,d⟩,rfl⟩
  have:∀a b c d:Int,qFT TP 10 118 (.agg [.int .i64 a,.int .i64 b,.int .u32 c,.int .i64 d])=true:=λa b c d=>by kernel_rfl
  exact this a b c d
theorem qMj{Y:Td}{f:FuncId}{args:List AV}(hf:isFn TP f=true)(h:wC TP Y f args J s):funK TP Y (.fn (.func f) [] []) args J s:=
 qX5 hf (by rw[List.nil_append,List.append_nil];exact h)
theorem zAAs(hY:Fn0 Y)(x:Int×Int)(s:Hq)(J:AV->Hq->Prop)(hJ:∀s',Sub s s'->J (.int .u32 x.1) s'):funK TP Y (.fn (.func 155) [] []) [.agg (tgC x)] J s:=by refine qMj (by kernel_rfl) (qNi hY.fr (hY.no _ rfl) ⟨rfl,qAP λb s1 hb h1 u1=>?_⟩);have h1:s1 b=some (false,.cells 93 (tgC x)):=h1;have e0:(tgC x)[0]?=some (.int .u32 x.1):=rfl;simp only[qAG,zA,qAB,qAI h1,e0];exact hJ s1 (u1.sub hb)
theorem zABB(hY:Fn0 Y)(x:Int×Int)(s:Hq)(J:AV->Hq->Prop)(hJ:∀s',Sub s s'->J (.int .u32 x.2) s'):funK TP Y (.fn (.func 156) [] []) [.agg (tgC x)] J s:=by refine qMj (by kernel_rfl) (qLV hY.fr (hY.no _ rfl) ⟨rfl,qAP λb s1 hb h1 u1=>?_⟩);have h1:s1 b=some (false,.cells 93 (tgC x)):=h1;have e0:(tgC x)[1]?=some (.int .u32 x.2):=rfl;simp only[qAG,zA,qAB,qAI h1,e0];exact hJ s1 (u1.sub hb)
theorem zAEB(hY:Fn0 Y)(x:BG)(s:Hq)(J:AV->Hq->Prop)(hJ:∀s',Sub s s'->J (.int .u32 x.2.1) s'):funK TP Y (.fn (.func 158) [] []) [.agg (bgC x)] J s:=by refine qMj (by kernel_rfl) (qOR hY.fr (hY.no _ rfl) ⟨rfl,qAP λb s1 hb h1 u1=>?_⟩);have h1:s1 b=some (false,.cells 69 (bgC x)):=h1;have e0:(bgC x)[1]?=some (.int .u32 x.2.1):=rfl;simp only[qAG,zA,qAB,qAI h1,e0];exact hJ s1 (u1.sub hb)
theorem zAD9(hY:Fn0 Y)(x:BG)(s:Hq)(J:AV->Hq->Prop)(hJ:∀s',Sub s s'->J (.int .u32 x.2.2.1) s'):funK TP Y (.fn (.func 159) [] []) [.agg (bgC x)] J s:=by refine qMj (by kernel_rfl) (qLC hY.fr (hY.no _ rfl) ⟨rfl,qAP λb s1 hb h1 u1=>?_⟩);have h1:s1 b=some (false,.cells 69 (bgC x)):=h1;have e0:(bgC x)[2]?=some (.int .u32 x.2.2.1):=rfl;simp only[qAG,zA,qAB,qAI h1,e0];exact hJ s1 (u1.sub hb)
theorem zADy(hY:Fn0 Y)(x:RLk)(s:Hq)(J:AV->Hq->Prop)(hJ:∀s',Sub s s'->J (.agg [.int .i64 x.1,.int .i64 x.2.1]) s'):funK TP Y (.fn (.func 152) [] []) [.agg (lkC x)] J s:=by refine qMj (by kernel_rfl) (qQX hY.fr (hY.no _ rfl) ⟨rfl,qAP λb s1 hb h1 u1=>qAP λb2 s3 hb2 h3 u3=>?_⟩);have h1:s1 b=some (false,.cells 91 (lkC x)):=h1;have k1:=u1.sub hb;have k3:=u3.sub hb2;have e0:(lkC x)[0]?=some (.int .i64 x.1):=rfl;have e1:(lkC x)[1]?=some (.int .i64 x.2.1):=rfl;have h13:=k3 _ _ h1;simp only[qAG,zA,qAB,qAI h13,e0,e1];refine qAA (a:=[.int .i64 x.1,.int .i64 x.2.1]) rfl (qAW h3 rfl rfl rfl λs9 h9 u9=>qAA (qAS h9 rfl) ?_);exact hJ s9 (k1.trans (qAX k3 u9 hb2))
theorem zADB(hY:Fn0 Y)(x:R4)(s:Hq)(J:AV->Hq->Prop)(hJ:∀s',Sub s s'->J (.agg (ggC x)) s'):funK TP Y (.fn (.func 174) [] []) [.agg (ggC x)] J s:=by refine qMj (by kernel_rfl) (qPr hY.fr (hY.no _ rfl) ⟨rfl,qAP λb s1 hb h1 u1=>qAP λb2 s3 hb2 h3 u3=>?_⟩);have h1:s1 b=some (false,.cells 118 (ggC x)):=h1;have k1:=u1.sub hb;have k3:=u3.sub hb2;have h13:=k3 _ _ h1;refine qAA (qAS h13 rfl) (qAW h3 rfl rfl rfl λs9 h9 u9=>qAA (qAS h9 rfl) ?_);exact hJ s9 (k1.trans (qAX k3 u9 hb2))
end Go.AM.TN
set_option maxRecDepth 100000
namespace Go.AM.TN
open Go Go.Proofs
variable {K R:AV→Hq→Prop} {s s':Hq} {y k:AV} {b c:Nat} {Y:Td} {F:FG} {v2 v3 v4 v5 v6 v7:AV} {t:Bool}
theorem zAC2(hY:Fn0 Y)(x:R4)(s:Hq)(J:AV->Hq->Prop)(hJ:∀s',Sub s s'->J (.agg [.int .i64 x.2.2.1,.int .u64 x.1]) s'):funK TP Y (.fn (.func 169) [] []) [.agg (hgC x)] J s:=by refine qMj (by kernel_rfl) (qPw hY.fr (hY.no _ rfl) ⟨rfl,qAP λb s1 hb h1 u1=>qAP λb2 s3 hb2 h3 u3=>?_⟩);have h1:s1 b=some (false,.cells 61 (hgC x)):=h1;have k1:=u1.sub hb;have k3:=u3.sub hb2;have e0:(hgC x)[0]?=some (.int .u64 x.1):=rfl;have e2:(hgC x)[2]?=some (.int .i64 x.2.2.1):=rfl;have h13:=k3 _ _ h1;simp only[qAG,zA,qAB,qAI h13,e0,e2];refine qAA (a:=[.int .i64 x.2.2.1,.int .u64 x.1]) rfl (qAW h3 rfl rfl rfl λs9 h9 u9=>qAA (qAS h9 rfl) ?_);exact hJ s9 (k1.trans (qAX k3 u9 hb2))
theorem zADg(hY:Fn0 Y)(x:R4)(s:Hq)(J:AV->Hq->Prop)(hJ:∀s',Sub s s'->J (.agg [.int .i64 x.2.2.1,.int .u64 (qBF .u64 x.2.1)]) s'):funK TP Y (.fn (.func 170) [] []) [.agg (hgC x)] J s:=by refine qMj (by kernel_rfl) (qQ4 hY.fr (hY.no _ rfl) ⟨rfl,qAP λb s1 hb h1 u1=>qAP λb2 s3 hb2 h3 u3=>?_⟩);have h1:s1 b=some (false,.cells 61 (hgC x)):=h1;have k1:=u1.sub hb;have k3:=u3.sub hb2;have e1:(hgC x)[1]?=some (.int .u32 x.2.1):=rfl;have e2:(hgC x)[2]?=some (.int .i64 x.2.2.1):=rfl;have ec:qDk .u64 (.int .u32 x.2.1)=some (.int .u64 (qBF .u64 x.2.1)):=rfl;have h13:=k3 _ _ h1;simp only[qAG,zA,qAB,qAI h13,e1,e2,ec];refine qAA (a:=[.int .i64 x.2.2.1,.int .u64 (qBF .u64 x.2.1)]) rfl (qAW h3 rfl rfl rfl λs9 h9 u9=>qAA (qAS h9 rfl) ?_);exact hJ s9 (k1.trans (qAX k3 u9 hb2))
theorem qDn{α β γ:Type}{f:α->β}{g:α->γ}(h:∀x y,f x=f y↔g x=g y){l:List α}{x:α}:f x∈l.map f↔g x∈l.map g:=by simp only[List.mem_map];exact⟨λ⟨a,h1,h2⟩=>⟨a,h1,(h a x).1 h2⟩,λ⟨a,h1,h2⟩=>⟨a,h1,(h a x).2 h2⟩⟩
def LkG(F:FG)(x:RLk):Prop:=(0<=x.1/\x.1<F.lf)/\(F.lf<=x.2.1/\x.2.1<F.lf+F.sp)/\1<=x.2.2/\x.2.2<=1000
structure LinksOk(F:FG):Prop where
 n:F.L.length<=128
 row:∀(i:Nat) x,F.L[i]?=some x->LkG F x/\(x.1,x.2.1) ∉ (F.L.take i).map λx=>(x.1,x.2.1)
theorem qZj(hF:FabOk F)(hn:F.L.length<=4294967296)(hc:s c=some (t,.cells 159 (csG F v2 v3 v4 v5 v6 v7)))(hL:FL s F v2 v3 v4 v5 v6 v7)(hK:Kok s (LinksOk F) K)(hR:Rbad s (LinksOk F) R):qAf TP X0 SS 121 [.ptr c 0] K R s:=by
 refine qTL (qL4 rfl hc hL λb3 s5 h5 k5=>?_);have hL5:=(hL.sub k5).L;have hlen:qAN v2=some F.L.length:=by rw[hL5.len,lM]
 simp only[qAG,zA,qAB,qAI h5,csG2,hlen,qAh];refine qA6 (λq=>?_) λq=>hR (λg=>by have:=oT q;have:=g.n;omega) _ _ _ s5 (by omega) k5;have hn128:F.L.length<=128:=by have:=oF q;omega
 simp only[qAI h5,csG2,qAB];refine zADR X0_0 (rows:=F.L) (rowC:=lkC) (λ_=>rfl) (λ_=>rfl) (kf:=λx=>[.int .i64 x.1,.int .i64 x.2.1]) zAEy (λx=>⟨_,_,rfl⟩) (λ_=>rfl) (λ_=>rfl) (λx s J=>zADy X0_0 x s J) hL5 (by omega) λs16 again k16 rep=>?_;have h16:=k16 _ _ h5;simp only[qAI h16,csG2,qAB,hlen];have hinj:∀x y:RLk,(AV.agg [.int .i64 x.1,.int .i64 x.2.1]=AV.agg [.int .i64 y.1,.int .i64 y.2.1])↔(x.1,x.2.1)=(y.1,y.2.1):=λx y=>by simp
 refine⟨λys t m=>∃i:Nat,ys=[.int .i64 (i:Int)]/\i<=F.L.length/\m=F.L.length-i/\Sub s16 t/\∀(j:Nat) x,j<i->F.L[j]?=some x->LkG F x/\(x.1,x.2.1) ∉ (F.L.take j).map λx=>(x.1,x.2.1),⟨_,0,rfl,by omega,rfl,.refl _,λj x hj=>by omega⟩,?_⟩;rintro f t m ⟨i,hy,hi,rfl,kt,hall⟩;simp only[cI,and_true]at hy;rw[hy];simp only[qN5,qAR,qAB];refine qAJ (λhlt=>?_) (λhge=>?_)
 rotate_left
 ·have hge:i=F.L.length:=by have:=oF hge;omega
  subst hge;exact hK ⟨hn128,λj x hx=>hall j x (gS hx).1 hx⟩ t (k5.trans (k16.trans kt))
 have hlt:i<F.L.length:=by have:=oT hlt;omega
 have hx:F.L[i]?=some F.L[i]:=gE hlt;generalize F.L[i]=x at hx;obtain⟨pb,po,e1,e2,_⟩:=(hL5.sub (k16.trans kt)).get (i:=i) (r:=lkC x) (by rw[List.getElem?_map,hx];rfl);rw[e1];simp only[qAB,e2];refine qAP λb24 s25 hb24 h25 u25=>qAW h25 rfl rfl rfl λs26 h26 u26=>?_;have k26:Sub t s26:=qAX (u25.sub hb24) u26 hb24;have h3:=k26 _ _ (kt _ _ h16);have kall:Sub s s26:=k5.trans (k16.trans (kt.trans k26));have a0:(lkC x)[0]?=some (.int .i64 x.1):=rfl;have a1:(lkC x)[1]?=some (.int .i64 x.2.1):=rfl;have a2:(lkC x)[2]?=some (.int .i64 x.2.2):=rfl;have bad:¬LkG F x->¬LinksOk F:=λq g=>q (g.row i x hx).1;have j3:∀(p q:AV) (bd:Bool),qAO p (.bool true) q=some (.bool bd)->(bd=true->¬LkG F x)->(bd=false->LkG F x)->qH3 X0 again (.int .i64 (i:Int)) (.int .i64 (i:Int)) p q (λys t m=>∃i:Nat,ys=[.int .i64 (i:Int)]/\i<=F.L.length/\m=F.L.length-i/\Sub s16 t/\∀(j:Nat) x,j<i->F.L[j]?=some x->LkG F x/\(x.1,x.2.1) ∉ (F.L.take j).map λx=>(x.1,x.2.1)) (F.L.length-i) K R s26:=λp q bd h h1 h2=>by
  unfold qH3;rw[h];simp only[qAB];refine qA6 (λq1=>?_) λq1=>hR (bad (h1 q1)) _ _ _ s26 (by omega) kall;obtain⟨pp,bb,g1,g2,g3⟩:=(rep.sub (kt.trans k26)).at (j:=i) (k:=.agg [.int .i64 x.1,.int .i64 x.2.1]) (by rw[List.getElem?_map,hx];rfl);rw[<- List.map_take,qDn hinj]at g3;rw[g1];simp only[qAB,g2];refine qA6 (λq2=>?_) λq2=>hR (λg=>(g.row i x hx).2 (g3.1 q2)) _ _ _ s26 (by omega) kall;simp only[qAU,qAB];rw[qAe (by omega) (by omega)];refine⟨_,by omega,i+1,rfl,by omega,rfl,kt.trans k26,λj z hj hz=>?_⟩
  by_cases e:j<i
  ·exact hall j z e hz
  ·have:j=i:=by omega
   subst this;rw[hx]at hz;cases hz;exact⟨h2 q1,λq3=>by rw[g3.2 q3]at q2;cases q2⟩
 have j2:∀(p q:AV) (ok:Bool),qAO p q (.bool false)=some (.bool ok)->(ok=false->¬LkG F x)->(ok=true->(0<=x.1/\x.1<F.lf)/\(F.lf<=x.2.1/\x.2.1<F.lf+F.sp))->qHy X0 again (.int .i64 (i:Int)) (.ptr b24 0) (.int .i64 (i:Int)) p q (λys t m=>∃i:Nat,ys=[.int .i64 (i:Int)]/\i<=F.L.length/\m=F.L.length-i/\Sub s16 t/\∀(j:Nat) x,j<i->F.L[j]?=some x->LkG F x/\(x.1,x.2.1) ∉ (F.L.take j).map λx=>(x.1,x.2.1)) (F.L.length-i) K R s26:=λp q ok h h1 h2=>by
  unfold qHy;rw[h];simp only[qAB,qAa];refine qAJ (λq1=>?_) (λq1=>?_)
  ·have hok:ok=false:=by simpa using q1
   exact j3 _ _ true (by rw[q1];rfl) (λ_=>h1 hok) (λq2=>by cases q2)
  ·have hok:ok=true:=by simpa using q1
   simp only[qAG,zA,qAB,qAI h26,a2];refine qBw X0_0 ?_;exact j3 _ _ (outB x.2.2 1 1000) (by rw[q1];rfl) (λq2 g=>by have:=qAk.2 g.2.2;rw[this]at q2;cases q2) (λq2=>⟨(h2 hok).1,(h2 hok).2,qAk.1 q2⟩)
 have j1:∀(p q:AV) (ok:Bool),qAO p q (.bool false)=some (.bool ok)->(ok=false->¬LkG F x)->(ok=true->(0<=x.1/\x.1<F.lf)/\F.lf<=x.2.1)->qHq X0 (.ptr b3 0) again (.int .i64 (i:Int)) (.ptr b24 0) (.int .i64 (i:Int)) p q (λys t m=>∃i:Nat,ys=[.int .i64 (i:Int)]/\i<=F.L.length/\m=F.L.length-i/\Sub s16 t/\∀(j:Nat) x,j<i->F.L[j]?=some x->LkG F x/\(x.1,x.2.1) ∉ (F.L.take j).map λx=>(x.1,x.2.1)) (F.L.length-i) K R s26:=λp q ok h h1 h2=>by
  unfold qHq;rw[h];simp only[qAB];refine qAJ (λq1=>?_) (λq1=>?_)
  ·have:=hF.lf
   have:=hF.sp;simp only[qAG,zA,qAB,qAI h26,a1,qAI h3,csG0,csG1,qAU,qAR];rw[qAe (by omega) (by omega)];exact j2 _ _ (decide (x.2.1<F.lf+F.sp)) (by rw[q1];rfl) (λq2 g=>by have:=oF q2;have:=g.2.1.2;omega) (λq2=>⟨(h2 q1).1,(h2 q1).2,oT q2⟩)
  ·exact j2 _ _ false (by rw[q1];rfl) (λ_=>h1 q1) (λq2=>by cases q2)
 simp only[qAG,zA,qAB,qAI h26,a0,qAI h3,csG0];refine qEw X0_0 ?_;refine qAJ (λq1=>?_) (λq1=>?_)
 ·simp only[qAB,qAI h26,a1,qAI h3,csG0,qAo]
  exact j1 _ _ (decide (F.lf<=x.2.1)) (by rw[q1];rfl) (λq2 g=>by have:=oF q2;have:=g.2.1.1;omega) (λq2=>⟨qL6.1 q1,oT q2⟩)
 ·exact j1 _ _ false (by rw[q1];rfl) (λ_ g=>by have:=qL6.2 g.1;rw[this]at q1;cases q1) (λq2=>by cases q2)
end Go.AM.TN
set_option maxRecDepth 100000
namespace Go.AM.TN
open Go Go.Proofs
variable {K R:AV→Hq→Prop} {s:Hq} {y k:AV} {c:Nat} {F:FG} {v2 v3 v4 v5 v6 v7:AV} {t:Bool}
def TnG(x:Int×Int):Prop:=1<=x.1/\x.1<=16777215/\x.2≠0
structure TenOk(F:FG):Prop where
 n:F.T.length<=16
 row:∀(i:Nat) x,F.T[i]?=some x->TnG x/\x.1 ∉ (F.T.take i).map (·.1)/\x.2 ∉ (F.T.take i).map (·.2)
abbrev InvT(F:FG)(s16:Hq):List AV->Hq->Nat->Prop:=λys t m=>∃i:Nat,ys=[.int .i64 (i:Int)]/\i<=F.T.length/\m=F.T.length-i/\Sub s16 t/\∀(j:Nat) x,j<i->F.T[j]?=some x->TnG x/\x.1 ∉ (F.T.take j).map (·.1)/\x.2 ∉ (F.T.take j).map (·.2)
theorem qVd(hn:F.T.length<=4294967296)(hc:s c=some (t,.cells 159 (csG F v2 v3 v4 v5 v6 v7)))(hL:FL s F v2 v3 v4 v5 v6 v7)(hK:Kok s (TenOk F) K)(hR:Rbad s (TenOk F) R):qAf TP X0 SS 122 [.ptr c 0] K R s:=by
 refine qQa ?_;unfold qPd;have hlen:qAN v3=some F.T.length:=by rw[hL.T.len,lM]
 simp only[qGq,qAG,zA,qAB,qAI hc,csG3,hlen,qAh];refine qA6 (λq=>?_) λq=>hR (λg=>by have:=oT q;have:=g.n;omega) _ _ _ s (by omega) (.refl _);have hn16:F.T.length<=16:=by have:=oF q;omega
 refine zAAo X0_0 (rows:=F.T) (rowC:=tgC) (λ_=>rfl) (λ_=>rfl) (kf:=λx=>x.1) (λx s J=>zAAs X0_0 x s J) hL.T (by omega) λs10 vn k10 repv=>?_;refine zAAo X0_0 (rows:=F.T) (rowC:=tgC) (λ_=>rfl) (λ_=>rfl) (kf:=λx=>x.2) (λx s J=>zABB X0_0 x s J) (hL.T.sub k10) (by omega) λs12 tg k12 rept=>?_;have hiv:∀x y:Int×Int,(AV.int .u32 x.1=AV.int .u32 y.1)↔x.1=y.1:=λx y=>by simp
 have hit:∀x y:Int×Int,(AV.int .u32 x.2=AV.int .u32 y.2)↔x.2=y.2:=λx y=>by simp
 refine⟨InvT F s12,⟨_,0,rfl,by omega,rfl,.refl _,λj x hj=>by omega⟩,?_⟩;rintro f t m ⟨i,hy,hi,rfl,kt,hall⟩;simp only[cI,and_true]at hy;rw[hy];simp only[qK3,qAR,qAB];refine qAJ (λhlt=>?_) (λhge=>?_)
 rotate_left
 ·have hge:i=F.T.length:=by have:=oF hge;omega
  subst hge;exact hK ⟨hn16,λj x hx=>hall j x (gS hx).1 hx⟩ t (k10.trans (k12.trans kt))
 have hlt:i<F.T.length:=by have:=oT hlt;omega
 have hx:F.T[i]?=some F.T[i]:=gE hlt;generalize F.T[i]=x at hx;obtain⟨pb,po,e1,e2,_⟩:=(hL.T.sub (k10.trans (k12.trans kt))).get (i:=i) (r:=tgC x) (by rw[List.getElem?_map,hx];rfl);rw[e1];simp only[qAB,e2];refine qAP λb18 s19 hb18 h19 u19=>qAW h19 rfl rfl rfl λs20 h20 u20=>?_;have k20:Sub t s20:=qAX (u19.sub hb18) u20 hb18;have kall:Sub s s20:=k10.trans (k12.trans (kt.trans k20));have a0:(tgC x)[0]?=some (.int .u32 x.1):=rfl;have a1:(tgC x)[1]?=some (.int .u32 x.2):=rfl;have bad:¬TnG x->¬TenOk F:=λq g=>q (g.row i x hx).1;obtain⟨p1,w1,g11,g12,g13⟩:=(repv.sub (k12.trans (kt.trans k20))).at (j:=i) (k:=.int .u32 x.1) (by rw[List.getElem?_map,hx];rfl);obtain⟨p2,w2,g21,g22,g23⟩:=(rept.sub (kt.trans k20)).at (j:=i) (k:=.int .u32 x.2) (by rw[List.getElem?_map,hx];rfl);rw[<- List.map_take,qDn hiv]at g13;rw[<- List.map_take,qDn hit]at g23;have j3:∀(p q:AV) (bd:Bool),qAO p (.bool true) q=some (.bool bd)->(bd=true->¬TenOk F)->(bd=false->TnG x/\x.1 ∉ (F.T.take i).map (·.1)/\x.2 ∉ (F.T.take i).map (·.2))->qFo X0 (.int .i64 (i:Int)) (.int .i64 (i:Int)) p q (InvT F s12) (F.T.length-i) K R s20:=λp q bd h h1 h2=>by
  unfold qFo;rw[h];simp only[qAB];refine qA6 (λq1=>?_) λq1=>hR (h1 q1) _ _ _ s20 (by omega) kall;simp only[qAU,qAB];rw[qAe (by omega) (by omega)];refine⟨_,by omega,i+1,rfl,by omega,rfl,kt.trans k20,λj z hj hz=>?_⟩
  by_cases e:j<i
  ·exact hall j z e hz
  ·have:j=i:=by omega
   subst this;rw[hx]at hz;cases hz;exact h2 q1
 have j2:∀(p q:AV) (bd:Bool),qAO p (.bool true) q=some (.bool bd)->(bd=true->¬TnG x)->(bd=false->TnG x)->qFh X0 vn tg (.int .i64 (i:Int)) (.int .i64 (i:Int)) p q (InvT F s12) (F.T.length-i) K R s20:=λp q bd h h1 h2=>by
  unfold qFh;rw[h];simp only[qAB];refine qA6 (λq1=>?_) λq1=>hR (bad (h1 q1)) _ _ _ s20 (by omega) kall;rw[g11];simp only[qAB,g12];refine qAJ (λq2=>?_) (λq2=>?_)
  ·exact j3 _ _ true (by rw[q2];rfl) (λ_ g=>(g.row i x hx).2.1 (g13.1 q2)) (λq=>by cases q)
  ·rw[g21]
   simp only[qAB,g22];exact j3 _ _ w2 (by rw[q2];rfl) (λq3 g=>(g.row i x hx).2.2 (g23.1 q3)) (λq3=>⟨h2 q1,λz=>(by rw[g13.2 z]at q2;cases q2),λz=>(by rw[g23.2 z]at q3;cases q3)⟩)
 have j1:∀(p q:AV) (bd:Bool),qAO p (.bool true) q=some (.bool bd)->(bd=true->¬TnG x)->(bd=false->1<=x.1/\x.1<=16777215)->qFY X0 vn tg (.int .i64 (i:Int)) (.ptr b18 0) (.int .i64 (i:Int)) p q (InvT F s12) (F.T.length-i) K R s20:=λp q bd h h1 h2=>by
  unfold qFY;rw[h];simp only[qAB];refine qAJ (λq1=>?_) (λq1=>?_)
  ·exact j2 _ _ bd (by rw[q1];rfl) h1 (λq2=>by rw[q1]at q2;cases q2)
  ·simp only[qAG,zA,qAB,qAI h20,a1,qAZ,qAY,Bool.false_bne]
   exact j2 _ _ (x.2 == 0) (by rw[q1];rfl) (λq2 g=>g.2.2 (by simpa using q2)) (λq2=>⟨(h2 q1).1,(h2 q1).2,by simpa using q2⟩)
 simp only[qAG,zA,qAB,qAI h20,a0,qAR];refine qAJ (λq1=>?_) (λq1=>?_)
 ·exact j1 _ _ true (by rw[q1];rfl) (λ_ g=>by have:=oT q1;have:=g.1;omega) (λq2=>by cases q2)
 ·simp only[qAB,qAh]
  exact j1 _ _ (decide (16777215<x.1)) (by rw[q1];rfl) (λq2 g=>by have:=oT q2;have:=g.2.1;omega) (λq2=>⟨by have:=oF q1;omega,by have:=oF q2;omega⟩)
end Go.AM.TN
set_option maxRecDepth 100000
namespace Go.AM.TN
open Go Go.Proofs
variable {K:AV→Hq→Prop} {s s':Hq} {y:AV} {b:Nat} {Y:Td}
def andU(x y:Int):Int:=qBF .u32 ((BitVec.ofInt 32 x &&& BitVec.ofInt 32 y).toNat:Nat)
def orU(x y:Int):Int:=qBF .u32 ((BitVec.ofInt 32 x |||BitVec.ofInt 32 y).toNat:Nat)
def xorU(x y:Int):Int:=qBF .u32 ((BitVec.ofInt 32 x ^^^ BitVec.ofInt 32 y).toNat:Nat)
theorem qHn{x y:Int}:qAH .and (.int .u32 x) (.int .u32 y)=some (.int .u32 (andU x y)):=by simp only[qAH,arith,qCN,qC4,cond_true];rfl
theorem qWW{x y:Int}:qAH .or (.int .u32 x) (.int .u32 y)=some (.int .u32 (orU x y)):=by simp only[qAH,arith,qCN,qC4,cond_true];rfl
theorem qU0{x y:Int}:qAH .xor (.int .u32 x) (.int .u32 y)=some (.int .u32 (xorU x y)):=by simp only[qAH,arith,qCN,qC4,cond_true];rfl
def shlU(x:Int)(n:Nat):Int:=qBF .u32 (x*((2^(min n 32):Nat):Int))
def mskU(len:Int):Int:=shlU 4294967295 (32-len).toNat
def qFO(len:Int):Bool:=decide (0<=len)&&decide (len<=32)
theorem qLU{len:Int}:qFO len=true↔0<=len/\len<=32:=by unfold qFO;simp
theorem qUR{x len:Int}(h:len<=32):qGt .shl (.int .u32 x) (.int .i64 (32-len))=some (.int .u32 (shlU x (32-len).toNat)):=by
 obtain⟨n,hn⟩:∃n:Nat,32-len=n:=⟨(32-len).toNat,by omega⟩
 rw[hn];show frc (qBF .u32 (x*((2^(min n (IntKind.bits .u32)):Nat):Int))) (λn=>some (AV.int .u32 n))=_;rw[qCN];rfl
abbrev pfC(ip len:Int):List AV:=[.int .u32 ip,.int .i64 len]
theorem qUi(hY:Fn0 Y){ip len:Int}(hK:∀s',Sub s s'->K (.bool (qFO len)) s'):wC TP Y 105 [.agg (pfC ip len)] K s:=by
 refine qMz hY.fr (hY.no _ rfl) ⟨rfl,qAP λb s1 hb h1 u1=>?_⟩;have h1:s1 b=some (false,.cells 67 (pfC ip len)):=h1;have e1:(pfC ip len)[1]?=some (.int .i64 len):=rfl;have k1:=u1.sub hb;simp only[qAG,zA,qAB,qAI h1,e1,qAo,qEP];have hk:=hK s1 k1;unfold qFO at hk;refine qAJ (λe=>?_) (λe=>?_)
 ·rw[e]at hk ⊢;exact hk
 ·rw[e]at hk ⊢;exact hk
theorem qWt(hY:Fn0 Y){len:Int}(h:0<=len/\len<=32)(hK:K (.int .u32 (mskU len)) s):wC TP Y 106 [.int .i64 len] K s:=by refine qOe hY.fr (hY.no _ rfl) ?_;unfold qMS;simp only[qAx,qAB];rw[qAe (by omega) (by omega),qUR h.2];exact hK
def qCG(ip len x:Int):Bool:=qFO len&&(andU (xorU ip x) (mskU len) == 0)
theorem qKd(hY:Fn0 Y){ip len x:Int}(hK:∀s',Sub s s'->K (.bool (qCG ip len x)) s'):wC TP Y 84 [.agg (pfC ip len),.int .u32 x] K s:=by
 refine qKV hY.fr (hY.no _ rfl) ⟨rfl,qAP λb s1 hb h1 u1=>?_⟩;have h1:s1 b=some (false,.cells 67 (pfC ip len)):=h1;have k1:=u1.sub hb;refine qAA (qAS h1 rfl) (qUi hY λs4 k4=>?_);have h4:=k4 _ _ h1;have e0:(pfC ip len)[0]?=some (.int .u32 ip):=rfl;have e1:(pfC ip len)[1]?=some (.int .i64 len):=rfl;have hk:=hK s4 (k1.trans k4);unfold qCG at hk;refine qAJ (λe=>?_) (λe=>?_)
 ·simp only[qAG,zA,qAB,qAI h4,e0,e1,qU0]
  refine qWt hY (qLU.1 e) λ_=>?_;rw[e]at hk;simp only[qHn,qAB,qAZ,qAY,Bool.false_bne,e,qAV,qOO];exact hk
 ·rw[e]at hk ⊢
  exact hk
def qEB(ip len:Int):Bool:=qFO len&&(andU ip (mskU len) == ip)
theorem qZr(hY:Fn0 Y){ip len:Int}(h1:qFO len=false->∀s',Sub s s'->K (.tup [.agg (pfC 0 0),.int .i64 2]) s')(h2:qFO len=true->∀s',Sub s s'->K (.tup [.agg (pfC (andU ip (mskU len)) len),.int .i64 0]) s'):wC TP Y 192 [.agg (pfC ip len)] K s:=by
 refine qM9 hY.fr (hY.no _ rfl) ⟨rfl,qAP λb s1 hb q1 u1=>qAP λb2 s3 hb2 q3 u3=>?_⟩;have q1:s1 b=some (false,.cells 67 (pfC ip len)):=q1;have k1:=u1.sub hb;have k3:=u3.sub hb2;refine qAA (qAS (k3 _ _ q1) rfl) (qUi hY λs6 k6=>?_);have q6:=k6 _ _ (k3 _ _ q1);have z6:=k6 _ _ q3;have e0:(pfC ip len)[0]?=some (.int .u32 ip):=rfl;have e1:(pfC ip len)[1]?=some (.int .i64 len):=rfl;have nb:b≠b2:=λe=>by rw[<- e,q1]at hb2;cases hb2
 have sb2:s b2=none:=qCL k1 hb2;have k06:Sub s s6:=k1.trans (k3.trans k6);simp only[qAa,qAB];refine qAJ (λe=>?_) (λe=>?_)
 ·have e:qFO len=false:=by simpa using e
  refine qAA (a:=[.int .u32 0,.int .i64 0]) rfl (qAW z6 rfl rfl rfl λs9 h9 u9=>qAA (qAS h9 rfl) ?_);exact h1 e s9 (qAX k06 u9 sb2)
 ·have e:qFO len=true:=by simpa using e
  simp only[qAG,zA,qAB,qAI q6,e0,e1];refine qWt hY (qLU.1 e) λ_=>?_;simp only[qHn,qAB,qOO];refine qBW q6 (by show 0<2;omega) rfl λs19 h19 u19=>qAA (qAS h19 rfl) ?_;have z19:s19 b2=some (false,.cells 67 [.int .u32 0,.int .i64 0]):=by rw[u19 _ (Ne.symm nb)];exact z6
  refine qAW z19 rfl rfl rfl λs21 h21 u21=>qAA (qAS h21 rfl) ?_;exact h2 e s21 (qAX (qAX k06 u19 hb) u21 sb2)
theorem eq41(a l a' l':Int):qGP TP 67 (.agg [.int .u32 a,.int .i64 l]) (.agg [.int .u32 a',.int .i64 l'])=mB (some (eqI a a')) (mB (some (eqI l l')) (some true)):=by kernel_rfl
theorem eq41'{a l a' l':Int}:qGP TP 67 (.agg [.int .u32 a,.int .i64 l]) (.agg [.int .u32 a',.int .i64 l'])=some (a == a'&&l == l'):=by
 rw[eq41,qEN,qEN]
 by_cases h1:a=a'
 ·by_cases h2:l=l'
  ·simp[mB,h1,h2]
  ·simp[mB,h1,h2]
 ·simp[mB,h1]
theorem qT6(hY:Fn0 Y){ip len:Int}(hK:∀s',Sub s s'->K (.bool (qEB ip len)) s'):wC TP Y 161 [.agg (pfC ip len)] K s:=by
 refine qTn hY.fr (hY.no _ rfl) ⟨rfl,qAP λb s1 hb q1 u1=>?_⟩;have q1:s1 b=some (false,.cells 67 (pfC ip len)):=q1;have k1:=u1.sub hb;refine qAA (qAS q1 rfl) (qZr hY (λe s4 k4=>?_) λe s4 k4=>?_)
 ·refine qAA (a:=.agg (pfC 0 0)) rfl (qAA (a:=.int .i64 2) rfl (qAP λb7 s8 hb7 h8 u8=>qAW h8 rfl rfl rfl λs9 h9 u9=>?_))
  have hk:=hK s9 (k1.trans (k4.trans (qAX (u8.sub hb7) u9 hb7)));unfold qEB at hk;rw[e]at hk;simp only[qAZ,qAY,Bool.false_bne,qAB];exact hk
 ·refine qAA (a:=.agg (pfC (andU ip (mskU len)) len)) rfl (qAA (a:=.int .i64 0) rfl (qAP λb7 s8 hb7 h8 u8=>qAW h8 rfl rfl rfl λs9 h9 u9=>?_))
  have k9:Sub s4 s9:=qAX (u8.sub hb7) u9 hb7;have hk:=hK s9 (k1.trans (k4.trans k9));unfold qEB at hk;rw[e]at hk;have q9:=k9 _ _ (k4 _ _ q1);simp only[qAZ,qAY,Bool.false_bne,qAB];show qAK (.bool true) _ _;rw[qAE];refine qAA (qAS h9 rfl) (qAA (qAS q9 rfl) ?_);rw[eq41'];simp only[qAY,Bool.false_bne,qAB];have:(andU ip (mskU len) == ip&&len == len)=(andU ip (mskU len) == ip):=by simp
  rw[this];exact hk
def qRx(ip len:Int):Int:=orU ip (IntKind.u32.wrap (shlU 1 (32-len).toNat-1))
def qKU(ip len x:Int):Bool:=qCG ip len x&&(x != ip)&&(x != qRx ip len)
theorem qUO(hY:Fn0 Y){ip len x:Int}(h:-1000<=len/\len<=32)(hK:∀s',Sub s s'->K (.bool (qKU ip len x)) s'):wC TP Y 162 [.agg (pfC ip len),.int .u32 x] K s:=by
 refine qTk hY.fr (hY.no _ rfl) ⟨rfl,qAP λb s1 hb q1 u1=>?_⟩;have q1:s1 b=some (false,.cells 67 (pfC ip len)):=q1;have k1:=u1.sub hb;have e0:(pfC ip len)[0]?=some (.int .u32 ip):=rfl;have e1:(pfC ip len)[1]?=some (.int .i64 len):=rfl;simp only[qAG,zA,qAB,qAI q1,e0,e1,qAx];rw[qAe (by omega) (by omega),qUR h.2];simp only[qAx,qAB,qWW];refine qAA (qAS q1 rfl) (qKd hY λs12 k12=>?_);have q12:=k12 _ _ q1;have hk:=hK s12 (k1.trans k12);unfold qKU at hk;have hl:orU ip (IntKind.u32.wrap (shlU 1 (32-len).toNat-1))=qRx ip len:=rfl;rw[hl];refine qAJ (λe=>?_) (λe=>?_)
 ·simp only[qAB,qAI q12,e0,qAZ,qAY,Bool.true_bne]
  rw[e]at hk ⊢;simp only[qKf,qAV,qAB];have e2:(!(x == ip))=(x != ip):=rfl;rw[e2];refine qAJ (λe3=>?_) (λe3=>?_)
  ·rw[e3]at hk ⊢
   simp only[qAZ,qAY,Bool.true_bne,qAB,qKv,qAV];exact hk
  ·rw[e3]at hk ⊢
   exact hk
 ·rw[e]at hk ⊢
  exact hk
end Go.AM.TN
set_option maxRecDepth 100000
namespace Go.AM.TN
open Go Go.Proofs
variable {K:AV→Hq→Prop} {s s':Hq} {v k:AV} {b:Nat} {Y:Td} {t:Bool} {J:AV→Hq→Prop}
def fstI{A:Type}(p:A->Bool)(l:List A):Int:=match l.findIdx? p with
 |some i=>(i:Int)
 |none=>-1
theorem qQ7{A:Type}{p:A->Bool}{l:List A}:decide (0<=fstI p l)=l.any p:=by
 unfold fstI;cases h:l.findIdx? p with
 | none=>
   have:=List.findIdx?_eq_none_iff.1 h;have e:l.any p=false:=by rw[List.any_eq_false];exact λx hx=>by rw[this x hx];simp
   rw[e];rfl
 | some i=>
   obtain⟨hi,hp,_⟩:=List.findIdx?_eq_some_iff_getElem.1 h;have e:l.any p=true:=List.any_eq_true.2 ⟨l[i],List.getElem_mem hi,hp⟩;rw[e];show decide ((0:Int)<=(i:Int))=true;exact decide_eq_true (by omega)
theorem qNK{A:Type}{p:A->Bool}{l:List A}{i:Nat}{x:A}(hx:l[i]?=some x)(hp:p x=true)(hb:∀j z,j<i->l[j]?=some z->p z=false):fstI p l=i:=by unfold fstI;obtain⟨hi,e⟩:=gS hx;have:l.findIdx? p=some i:=List.findIdx?_eq_some_iff_getElem.2 ⟨hi,by rw[e];exact hp,λj hj=>by rw[hb j l[j] hj (gE (by omega))];simp⟩;rw[this]
theorem qLS{A:Type}{p:A->Bool}{l:List A}(hb:∀(j:Nat) z,l[j]?=some z->p z=false):fstI p l=-1:=by
 unfold fstI;have:l.findIdx? p=none:=List.findIdx?_eq_none_iff.2 λx hx=>by obtain⟨j,hj⟩:=List.getElem?_of_mem hx;exact hb j x hj
 rw[this]
theorem qVO(hY:Fn0 Y){p:BG->Bool}{rows:List BG}{fv:AV}(hn:rows.length<=4294967296)(hv:SlR 6 s v (rows.map bgC))(hp:∀(x:BG) (s1:Hq) (J:AV->Hq->Prop),Sub s s1->(∀s',Sub s1 s'->J (.bool (p x)) s')->funK TP Y fv [.agg (bgC x)] J s1)
  (hK:∀s',Sub s s'->K (.int .i64 (fstI p rows)) s'):wC TP Y 193 [v,fv] K s:=by
 refine qES hY.fr (hY.no _ rfl) ?_;unfold qCy;have hlen:qAN v=some rows.length:=by rw[hv.len,lM]
 rw[hlen];simp only[qAB];refine⟨λys t m=>∃i:Nat,ys=[.int .i64 (i:Int)]/\i<=rows.length/\m=rows.length-i/\Sub s t/\∀j z,j<i->rows[j]?=some z->p z=false,⟨_,0,rfl,by omega,rfl,.refl _,λj z hj=>by omega⟩,?_⟩;rintro f t m ⟨i,hy,hi,rfl,kt,hall⟩;simp only[cI,and_true]at hy;rw[hy];simp only[qCf,qAR,qAB];refine qAJ (λhlt=>?_) (λhge=>?_)
 rotate_left
 ·have hge:i=rows.length:=by have:=oF hge;omega
  subst hge;have:=hK t kt;rw[qLS λj z hz=>hall j z (gS hz).1 hz]at this;exact this
 have hlt:i<rows.length:=by have:=oT hlt;omega
 have hx:rows[i]?=some rows[i]:=gE hlt;generalize rows[i]=x at hx;obtain⟨pb,po,e1,e2,_⟩:=(hv.sub kt).get (i:=i) (r:=bgC x) (by rw[List.getElem?_map,hx];rfl);rw[e1];simp only[qAB,e2];refine hp x t _ kt λs6 k6=>?_;refine qAJ (λq=>?_) (λq=>?_)
 ·have:=hK s6 (kt.trans k6)
  rw[qNK hx q hall]at this;exact this
 ·simp only[qAU,qAB]
  rw[qAe (by omega) (by omega)];refine⟨_,by omega,i+1,rfl,by omega,rfl,kt.trans k6,λj z hj hz=>?_⟩
  by_cases e:j<i
  ·exact hall j z e hz
  ·have:j=i:=by omega
   subst this;rw[hx]at hz;cases hz;exact q
theorem qWK(hY:Fn0 Y){p:Int×Int->Bool}{rows:List (Int×Int)}{fv:AV}(hn:rows.length<=4294967296)(hv:SlR 2 s v (rows.map tgC))(hp:∀(x:Int×Int) (s1:Hq) (J:AV->Hq->Prop),Sub s s1->(∀s',Sub s1 s'->J (.bool (p x)) s')->funK TP Y fv [.agg (tgC x)] J s1)
  (hK:∀s',Sub s s'->K (.int .i64 (fstI p rows)) s'):wC TP Y 198 [v,fv] K s:=by
 refine qDC hY.fr (hY.no _ rfl) ?_;unfold qCA;have hlen:qAN v=some rows.length:=by rw[hv.len,lM]
 rw[hlen];simp only[qAB];refine⟨λys t m=>∃i:Nat,ys=[.int .i64 (i:Int)]/\i<=rows.length/\m=rows.length-i/\Sub s t/\∀j z,j<i->rows[j]?=some z->p z=false,⟨_,0,rfl,by omega,rfl,.refl _,λj z hj=>by omega⟩,?_⟩;rintro f t m ⟨i,hy,hi,rfl,kt,hall⟩;simp only[cI,and_true]at hy;rw[hy];simp only[qBf,qAR,qAB];refine qAJ (λhlt=>?_) (λhge=>?_)
 rotate_left
 ·have hge:i=rows.length:=by have:=oF hge;omega
  subst hge;have:=hK t kt;rw[qLS λj z hz=>hall j z (gS hz).1 hz]at this;exact this
 have hlt:i<rows.length:=by have:=oT hlt;omega
 have hx:rows[i]?=some rows[i]:=gE hlt;generalize rows[i]=x at hx;obtain⟨pb,po,e1,e2,_⟩:=(hv.sub kt).get (i:=i) (r:=tgC x) (by rw[List.getElem?_map,hx];rfl);rw[e1];simp only[qAB,e2];refine hp x t _ kt λs6 k6=>?_;refine qAJ (λq=>?_) (λq=>?_)
 ·have:=hK s6 (kt.trans k6)
  rw[qNK hx q hall]at this;exact this
 ·simp only[qAU,qAB]
  rw[qAe (by omega) (by omega)];refine⟨_,by omega,i+1,rfl,by omega,rfl,kt.trans k6,λj z hj hz=>?_⟩
  by_cases e:j<i
  ·exact hall j z e hz
  ·have:j=i:=by omega
   subst this;rw[hx]at hz;cases hz;exact q
theorem qRV(hY:Fn0 Y){p:Int->Bool}{l:List Int}{fv:AV}(hn:l.length<=4294967296)(hv:Sl s v (ix l))(hp:∀(x:Int) (s1:Hq) (J:AV->Hq->Prop),Sub s s1->(∀s',Sub s1 s'->J (.bool (p x)) s')->funK TP Y fv [.int .i64 x] J s1)
  (hK:∀s',Sub s s'->K (.int .i64 (fstI p l)) s'):wC TP Y 102 [v,fv] K s:=by
 refine qGQ hY.fr (hY.no _ rfl) ?_;unfold qED;have hlen:qAN v=some l.length:=by rw[hv.len,qAm]
 rw[hlen];simp only[qAB];refine⟨λys t m=>∃i:Nat,ys=[.int .i64 (i:Int)]/\i<=l.length/\m=l.length-i/\Sub s t/\∀j z,j<i->l[j]?=some z->p z=false,⟨_,0,rfl,by omega,rfl,.refl _,λj z hj=>by omega⟩,?_⟩;rintro f t m ⟨i,hy,hi,rfl,kt,hall⟩;simp only[cI,and_true]at hy;rw[hy];simp only[qDT,qAR,qAB];refine qAJ (λhlt=>?_) (λhge=>?_)
 rotate_left
 ·have hge:i=l.length:=by have:=oF hge;omega
  subst hge;have:=hK t kt;rw[qLS λj z hz=>hall j z (gS hz).1 hz]at this;exact this
 have hlt:i<l.length:=by have:=oT hlt;omega
 obtain⟨pp,g1,g2⟩:=(hv.sub kt).get (i:=i) (by rw[qAm];exact hlt);rw[qDU hlt]at g2;have hx:l[i]?=some l[i]:=gE hlt;generalize l[i]=x at hx g2;rw[g1];simp only[qAB,g2];refine hp x t _ kt λs6 k6=>?_;refine qAJ (λq=>?_) (λq=>?_)
 ·have:=hK s6 (kt.trans k6)
  rw[qNK hx q hall]at this;exact this
 ·simp only[qAU,qAB]
  rw[qAe (by omega) (by omega)];refine⟨_,by omega,i+1,rfl,by omega,rfl,kt.trans k6,λj z hj hz=>?_⟩
  by_cases e:j<i
  ·exact hall j z e hz
  ·have:j=i:=by omega
   subst this;rw[hx]at hz;cases hz;exact q
theorem qQw(hY:Fn0 Y){p:BG->Bool}{rows:List BG}{fv:AV}(hn:rows.length<=4294967296)(hv:SlR 6 s v (rows.map bgC))(hp:∀(x:BG) (s1:Hq) (J:AV->Hq->Prop),Sub s s1->(∀s',Sub s1 s'->J (.bool (p x)) s')->funK TP Y fv [.agg (bgC x)] J s1)
  (hK:∀s',Sub s s'->K (.bool (rows.any p)) s'):wC TP Y 163 [v,fv] K s:=by
 refine qDl hY.fr (hY.no _ rfl) ?_;unfold qCg;refine qVO hY hn hv hp λs' k=>?_;simp only[qAo,qAB,qQ7];exact hK s' k
theorem qQk(hY:Fn0 Y){p:Int×Int->Bool}{rows:List (Int×Int)}{fv:AV}(hn:rows.length<=4294967296)(hv:SlR 2 s v (rows.map tgC))(hp:∀(x:Int×Int) (s1:Hq) (J:AV->Hq->Prop),Sub s s1->(∀s',Sub s1 s'->J (.bool (p x)) s')->funK TP Y fv [.agg (tgC x)] J s1)
  (hK:∀s',Sub s s'->K (.bool (rows.any p)) s'):wC TP Y 190 [v,fv] K s:=by
 refine qCt hY.fr (hY.no _ rfl) ?_;unfold qBe;refine qWK hY hn hv hp λs' k=>?_;simp only[qAo,qAB,qQ7];exact hK s' k
theorem qJJ(hY:Fn0 Y){p:Int->Bool}{l:List Int}{fv:AV}(hn:l.length<=4294967296)(hv:Sl s v (ix l))(hp:∀(x:Int) (s1:Hq) (J:AV->Hq->Prop),Sub s s1->(∀s',Sub s1 s'->J (.bool (p x)) s')->funK TP Y fv [.int .i64 x] J s1)
  (hK:∀s',Sub s s'->K (.bool (l.any p)) s'):wC TP Y 114 [v,fv] K s:=by
 refine qFI hY.fr (hY.no _ rfl) ?_;unfold qDS;refine qRV hY hn hv hp λs' k=>?_;simp only[qAo,qAB,qQ7];exact hK s' k
theorem zAAe(hY:Fn0 Y){kf:Int×Int->Int}{rows:List (Int×Int)}{g:FuncId}{n:Int}(hn:rows.length<=4294967296)(hv:SlR 2 s v (rows.map tgC))(hg:∀(x:Int×Int) (s:Hq) (J:AV->Hq->Prop),(∀s',Sub s s'->J (.int .u32 (kf x)) s')->funK TP Y (.fn (.func g) [] []) [.agg (tgC x)] J s)
  (hK:∀s',Sub s s'->K (.bool (rows.any λx=>kf x == n)) s'):wC TP Y 160 [v,.fn (.func g) [] [],.int .u32 n] K s:=by
 refine qFl hY.fr (hY.no _ rfl) (qFk rfl λb0 s1 hb0 h1 u1=>qFk rfl λb2 s3 hb2 h3 u3=>?_);have k1:=u1.sub hb0;have k3:=u3.sub hb2;refine qQk hY (p:=λx=>kf x == n) hn (hv.sub (k1.trans k3)) (λx sA J kA hJ=>?_) λs' k=>hK s' ((k1.trans k3).trans k);refine qX5 (by kernel_rfl) (qE5 hY.fr (hY.no _ rfl) ⟨rfl,qAP λb s5 hb h5 u5=>?_⟩);have h5:s5 b=some (false,.cells 93 (tgC x)):=h5;have k5:=u5.sub hb;have e0:[AV.fn (.func g) [] []][0]?=some (.fn (.func g) [] []):=rfl;have h15:=k5 _ _ (kA _ _ (k3 _ _ h1));have h35:=k5 _ _ (kA _ _ h3);simp only[qAI h15,e0,qAB];refine qAA (qAS h5 rfl) (hg x (frz s5) _ λs6 k6 _=>?_);have h36:cutH [(s5,add s5 s6)] (add s5 s6) b2=some (false,.cells 41 [.int .u32 n]):=qNI h35 (qCK h35);have e1:[AV.int .u32 n][0]?=some (.int .u32 n):=rfl;simp only[qAI h36,e1,qAB,qAZ,qAY,Bool.false_bne];exact hJ _ (k5.trans qGw)
def qON(b x:BG):Bool:=(x.1 == b.1)&&(x.2.2.2.2.2 != 0)&&(qCG x.2.2.2.1 x.2.2.2.2.1 b.2.2.2.1||qCG b.2.2.2.1 b.2.2.2.2.1 x.2.2.2.1)
theorem zACn(hY:Fn0 Y){d x:BG}{cb:Nat}{t:Bool}(hd:s cb=some (t,.cells 69 (bgC d)))(hJ:∀s',Sub s s'->J (.bool (qON d x)) s'):funK TP Y (.fn (.func 164) [] [.ptr cb 0]) [.agg (bgC x)] J s:=by
 refine qX5 (by kernel_rfl) (qOQ hY.fr (hY.no _ rfl) ⟨rfl,qAP λb s1 hb h1 u1=>?_⟩);have h1:s1 b=some (false,.cells 69 (bgC x)):=h1;have k1:=u1.sub hb;have hd1:=k1 _ _ hd;have a0:(bgC x)[0]?=some (.int .i64 x.1):=rfl;have a3:(bgC x)[3]?=some (.int .u32 x.2.2.2.1):=rfl;have a5:(bgC x)[5]?=some (.int .u32 x.2.2.2.2.2):=rfl;have d0:(bgC d)[0]?=some (.int .i64 d.1):=rfl;have d3:(bgC d)[3]?=some (.int .u32 d.2.2.2.1):=rfl;have rx:∀{s2:Hq},Sub s1 s2->rdN s2 2 (.ptr b 3)=some (pfC x.2.2.2.1 x.2.2.2.2.1):=fun {s2} q=>by simp only[rdN,q _ _ h1];rfl
 have rd:∀{s2:Hq},Sub s1 s2->rdN s2 2 (.ptr cb 3)=some (pfC d.2.2.2.1 d.2.2.2.2.1):=fun {s2} q=>by simp only[rdN,q _ _ hd1];rfl
 simp only[qAG,zA,qAB,qAI h1,qAI hd1,a0,d0,qAZ,qAY,Bool.false_bne];unfold qON at hJ;have j0:∀(p q:AV) (ok:Bool),qAO p q (.bool false)=some (.bool ok)->((x.1 == d.1)&&(x.2.2.2.2.2 != 0))=ok->qEG Y (.ptr cb 0) (.ptr b 0) p q J s1:=λp q ok h he=>by
  unfold qEG;rw[h];rw[he]at hJ;simp only[qAB];refine qAJ (λe=>?_) (λe=>?_)
  ·simp only[qAG,zA,qAB,qAI hd1,d3,rx (.refl _)]
   refine qKd hY λs14 k14=>?_;refine qAJ (λe2=>?_) (λe2=>?_)
   ·have:=hJ s14 (k1.trans k14)
    rw[e,e2]at this;rw[e,e2];exact this
   ·have h14:=k14 _ _ h1
    simp only[qAB,qAI h14,a3,rd k14];refine qKd hY λs23 k23=>?_;have:=hJ s23 (k1.trans (k14.trans k23));rw[e,e2]at this;rw[e,e2];exact this
  ·have:=hJ s1 k1
   rw[e]at this;rw[e];exact this
 refine qAJ (λe=>?_) (λe=>?_)
 ·simp only[qAB,a5,qAZ,qAY,Bool.true_bne]
  exact j0 _ _ (!(x.2.2.2.2.2 == 0)) (by rw[e];rfl) (by rw[e];rfl)
 ·exact j0 _ _ false (by rw[e];rfl) (by rw[e];rfl)
end Go.AM.TN
set_option maxRecDepth 100000
namespace Go.AM.TN
open Go Go.Proofs
variable {K R:AV→Hq→Prop} {s:Hq} {v y k:AV} {c:Nat} {F:FG} {v2 v3 v4 v5 v6 v7:AV} {t:Bool} {J:AV→Hq→Prop}
theorem RepR.addf{s2:Hq}{ks:List AV}(h:RepR s2 v ks)(hs:Sub (AM.frz s) s2):RepR (add s s2) v ks:=by obtain⟨bs,h1,h2,h3⟩:=h.ex;exact⟨bs,h1.addf hs,h2,h3⟩
def BdG(F:FG)(x:BG):Prop:=(0<=x.1/\x.1<(F.T.length:Int))/\(1<=x.2.1/\x.2.1<=16777215)/\x.2.2.1≠0
def BdS(F:FG)(i:Nat)(x:BG):Prop:=(x.2.2.2.2.2=0->x.2.2.2.1=0/\x.2.2.2.2.1=0)/\(x.2.2.2.2.2≠0->qEB x.2.2.2.1 x.2.2.2.2.1=true/\(8<=x.2.2.2.2.1/\x.2.2.2.2.1<=30)/\qKU x.2.2.2.1 x.2.2.2.2.1 x.2.2.2.2.2=true/\(F.B.take i).any (qON x)=false)
structure BdRow(F:FG)(i:Nat)(x:BG):Prop where
 g:BdG F x
 vn:x.2.1 ∉ (F.B.take i).map (·.2.1)
 tg:x.2.2.1 ∉ (F.B.take i).map (·.2.2.1)
 tv:F.T.any (λy=>y.1 == x.2.1)=false
 tt:F.T.any (λy=>y.2 == x.2.2.1)=false
 s:BdS F i x
structure DomOk(F:FG):Prop where
 n:F.B.length<=32
 row:∀(i:Nat) x,F.B[i]?=some x->BdRow F i x
abbrev InvB(F:FG)(s20:Hq):List AV->Hq->Nat->Prop:=λys t m=>∃i:Nat,ys=[.int .i64 (i:Int)]/\i<=F.B.length/\m=F.B.length-i/\Sub s20 t/\∀(j:Nat) x,j<i->F.B[j]?=some x->BdRow F j x
theorem qV9(hT:F.T.length<=16)(hn:F.B.length<=4294967296)(hc:s c=some (t,.cells 159 (csG F v2 v3 v4 v5 v6 v7)))(hL:FL s F v2 v3 v4 v5 v6 v7)(hK:Kok s (DomOk F) K)(hR:Rbad s (DomOk F) R):qAf TP X0 SS 123 [.ptr c 0] K R s:=by
 refine qQl (qL4 rfl hc hL λb3 s5 h5 k5=>?_);have hL5:=(hL.sub k5).B;have hlen:qAN v4=some F.B.length:=by rw[hL5.len,lM]
 simp only[qAG,zA,qAB,qAI h5,csG4,hlen,qAh];refine qA6 (λq=>?_) λq=>hR (λg=>by have:=oT q;have:=g.n;omega) _ _ _ s5 (by omega) k5;have hn32:F.B.length<=32:=by have:=oF q;omega
 simp only[qAI h5,csG4,qAB];refine zAAc X0_0 (rows:=F.B) (rowC:=bgC) (λ_=>rfl) (λ_=>rfl) (kf:=λx=>x.2.1) (λx s J=>zAEB X0_0 x s J) hL5.frz (by omega) λs16 vn k16 repv=>?_;intro _;have h516:cutH [(s5,add s5 s16)] (add s5 s16) b3=some (false,.cells 31 (csG F v2 v3 v4 v5 v6 v7)):=qNI h5 (qCK h5);have repv':=repv.addf k16;have ka:Sub s5 (add s5 s16):=qGw;simp only[qAI h516,csG4,qAB];generalize add s5 s16=s17 at repv' ka ⊢;refine zAAc X0_0 (rows:=F.B) (rowC:=bgC) (λ_=>rfl) (λ_=>rfl) (kf:=λx=>x.2.2.1) (λx s J=>zAD9 X0_0 x s J) (hL5.sub ka) (by omega) λs20 tg k20 rept=>?_;have h20:=k20 _ _ (ka _ _ h5);have k520:Sub s5 s20:=ka.trans k20;simp only[qAI h20,csG4,qAB,hlen];have hiv:∀x y:BG,(AV.int .u32 x.2.1=AV.int .u32 y.2.1)↔x.2.1=y.2.1:=λx y=>by simp
 have hit:∀x y:BG,(AV.int .u32 x.2.2.1=AV.int .u32 y.2.2.1)↔x.2.2.1=y.2.2.1:=λx y=>by simp
 refine⟨InvB F s20,⟨_,0,rfl,by omega,rfl,.refl _,λj x hj=>by omega⟩,?_⟩;rintro f t m ⟨i,hy,hi,rfl,kt,hall⟩;simp only[cI,and_true]at hy;rw[hy];simp only[qLM,qAR,qAB];refine qAJ (λhlt=>?_) (λhge=>?_)
 rotate_left
 ·have hge:i=F.B.length:=by have:=oF hge;omega
  subst hge;exact hK ⟨hn32,λj x hx=>hall j x (gS hx).1 hx⟩ t (k5.trans (k520.trans kt))
 have hlt:i<F.B.length:=by have:=oT hlt;omega
 have hx:F.B[i]?=some F.B[i]:=gE hlt;generalize F.B[i]=x at hx;obtain⟨pb,po,e1,e2,_⟩:=(hL5.sub (k520.trans kt)).get (i:=i) (r:=bgC x) (by rw[List.getElem?_map,hx];rfl);rw[e1];simp only[qAB,e2];refine qAP λb29 s30 hb29 h30 u30=>qAW h30 rfl rfl rfl λs31 h31 u31=>?_;have k31:Sub t s31:=qAX (u30.sub hb29) u31 hb29;have kall:Sub s s31:=k5.trans (k520.trans (kt.trans k31));have h3:s31 b3=some (false,.cells 31 (csG F v2 v3 v4 v5 v6 v7)):=k31 _ _ (kt _ _ h20);have hL3:FL s31 F v2 v3 v4 v5 v6 v7:=hL.sub kall;have lenT:qAN v3=some F.T.length:=by rw[hL.T.len,lM]
 have a0:(bgC x)[0]?=some (.int .i64 x.1):=rfl;have a1:(bgC x)[1]?=some (.int .u32 x.2.1):=rfl;have a2:(bgC x)[2]?=some (.int .u32 x.2.2.1):=rfl;have a4:(bgC x)[4]?=some (.int .i64 x.2.2.2.2.1):=rfl;have a5:(bgC x)[5]?=some (.int .u32 x.2.2.2.2.2):=rfl;have rx:∀{s2:Hq},Sub s31 s2->rdN s2 2 (.ptr b29 3)=some (pfC x.2.2.2.1 x.2.2.2.2.1):=fun {s2} q=>by simp only[rdN,q _ _ h31];rfl
 obtain⟨p1,w1,g11,g12,g13⟩:=(repv'.sub (k20.trans (kt.trans k31))).at (j:=i) (k:=.int .u32 x.2.1) (by rw[List.getElem?_map,hx];rfl);obtain⟨p2,w2,g21,g22,g23⟩:=(rept.sub (kt.trans k31)).at (j:=i) (k:=.int .u32 x.2.2.1) (by rw[List.getElem?_map,hx];rfl);rw[<- List.map_take,qDn hiv]at g13;rw[<- List.map_take,qDn hit]at g23;have j1:BdRow F i x->∀{s2:Hq},Sub s31 s2->qFw X0 (.int .i64 (i:Int)) (InvB F s20) (F.B.length-i) K R s2:=λok {s2} k2=>by
  unfold qFw;simp only[qAU,qAB];rw[qAe (by omega) (by omega)];refine⟨_,by omega,i+1,rfl,by omega,rfl,kt.trans (k31.trans k2),λj z hj hz=>?_⟩
  by_cases e:j<i
  ·exact hall j z e hz
  ·have:j=i:=by omega
   subst this;rw[hx]at hz;cases hz;exact ok
 have hbad:∀{s2:Hq},¬BdRow F i x->Sub s31 s2->∀(e:Int) (p:ByteArray) (i:Int),e≠0->R (flV e p i) s2:=fun {s2} q k2 e p i he=>hR (λg=>q (g.row _ x hx)) e p i s2 he (kall.trans k2);have j8:∀(p q:AV) (bd:Bool),qAO p (.bool true) q=some (.bool bd)->(bd=true->¬BdRow F i x)->(bd=false->(8<=x.2.2.2.2.1/\x.2.2.2.2.1<=30)/\qEB x.2.2.2.1 x.2.2.2.2.1=true)->x.2.2.2.2.2≠0->(BdS F i x->BdRow F i x)->∀{s2:Hq},Sub s31 s2->qFg X0 (.ptr b3 0) (.int .i64 (i:Int)) (.ptr b29 0) (.int .i64 (i:Int)) p q (InvB F s20) (F.B.length-i) K R s2:=λp q bd h h1 h2 hg ok {s2} k2=>by
  unfold qFg;rw[h];simp only[qAB];refine qA6 (λq1=>?_) λq1=>hbad (h1 q1) k2 _ _ _ (by omega);obtain⟨m1,m2⟩:=h2 q1;have h31':=k2 _ _ h31;simp only[qAG,zA,qAB,rx k2,qAI h31',a5];refine qUO X0_0 (by omega) λs75 k75=>?_;simp only[qAa,qAB];refine qA6 (λq2=>?_) λq2=>hbad (λg=>by have:=(g.s.2 hg).2.2.1;rw[this]at q2;cases q2) (k2.trans k75) _ _ _ (by omega);have q2:qKU x.2.2.2.1 x.2.2.2.2.1 x.2.2.2.2.2=true:=by simpa using q2
  have h3':=k75 _ _ (k2 _ _ h3);simp only[qAI h3',csG4,qAB];obtain⟨v',z1,z2,_⟩:=(hL3.B.sub (k2.trans k75)).take (k:=i) (by rw[lM];omega) (λe=>by have:=congrArg List.length e;rw[lM,List.length_nil]at this;omega);rw[<- List.map_take]at z2;rw[z1];simp only[qAB];refine qQw X0_0 (p:=qON x) (by rw[List.length_take];omega) z2 (λz sA J kA hJ=>zACn X0_0 (kA _ _ (k75 _ _ h31')) hJ) λs83 k83=>?_;refine qA6 (λq3=>?_) λq3=>hbad (λg=>by have:=(g.s.2 hg).2.2.2;rw[this]at q3;cases q3) ((k2.trans k75).trans k83) _ _ _ (by omega);exact j1 (ok ⟨λe=>absurd e hg,λ_=>⟨m2,m1,q2,q3⟩⟩) ((k2.trans k75).trans k83)
 have j7:∀(p q:AV) (bd:Bool),qAO p (.bool true) q=some (.bool bd)->(bd=true->¬BdRow F i x)->(bd=false->BdS F i x->BdRow F i x)->∀{s2:Hq},Sub s31 s2->qFs X0 (.ptr b3 0) (.int .i64 (i:Int)) (.ptr b29 0) (.int .i64 (i:Int)) p q (InvB F s20) (F.B.length-i) K R s2:=λp q bd h h1 h2 {s2} k2=>by
  unfold qFs;rw[h];simp only[qAB];refine qA6 (λq1=>?_) λq1=>hbad (h1 q1) k2 _ _ _ (by omega);have h31':=k2 _ _ h31;simp only[qAG,zA,qAB,qAI h31',a5,qAZ,qAY,Bool.false_bne];refine qAJ (λq2=>?_) (λq2=>?_)
  ·have q2:x.2.2.2.2.2=0:=by simpa using q2
   rw[rx k2];simp only[qAB];refine qAA (a:=[.int .u32 0,.int .i64 0]) rfl ?_;rw[eq41'];simp only[qAY,Bool.true_bne,qAB];refine qA6 (λq3=>?_) λq3=>hbad (λg=>by obtain⟨z1,z2⟩:=g.s.1 q2;simp[z1,z2]at q3) k2 _ _ _ (by omega);have q3:x.2.2.2.1=0/\x.2.2.2.2.1=0:=by simpa using q3
   exact j1 (h2 q1 ⟨λ_=>q3,λe=>absurd q2 e⟩) k2
  ·have q2:x.2.2.2.2.2≠0:=by simpa using q2
   rw[rx k2];simp only[qAB];refine qT6 X0_0 λs65 k65=>?_;simp only[qAa,qAB];refine qAJ (λq3=>?_) (λq3=>?_)
   ·exact j8 _ _ true (by rw[q3];rfl) (λ_ g=>by have:=(g.s.2 q2).1;rw[this]at q3;cases q3) (λq4=>by cases q4) q2 (h2 q1) (k2.trans k65)
   ·have h31'':=k65 _ _ h31'
    have hcl:qEB x.2.2.2.1 x.2.2.2.2.1=true:=by simpa using q3
    simp only[qAB,qAI h31'',a4];refine qBw X0_0 ?_;exact j8 _ _ (outB x.2.2.2.2.1 8 30) (by rw[q3];rfl) (λq4 g=>by have:=qAk.2 (g.s.2 q2).2.1;rw[this]at q4;cases q4) (λq4=>⟨qAk.1 q4,hcl⟩) q2 (h2 q1) (k2.trans k65)
 have j6:∀(p q:AV) (bd:Bool),qAO p (.bool true) q=some (.bool bd)->(bd=true->¬BdRow F i x)->(bd=false->F.T.any (λy=>y.2 == x.2.2.1)=false->BdS F i x->BdRow F i x)->∀{s2:Hq},Sub s31 s2->qFc X0 (.ptr b3 0) (.int .i64 (i:Int)) (.ptr b29 0) (.int .i64 (i:Int)) p q (InvB F s20) (F.B.length-i) K R s2:=λp q bd h h1 h2 {s2} k2=>by
  unfold qFc;rw[h];simp only[qAB];refine qAJ (λq1=>?_) (λq1=>?_)
  ·exact j7 _ _ bd (by rw[q1];rfl) h1 (λq2=>by rw[q1]at q2;cases q2) k2
  ·simp only[qAG,zA,qAB,qAI (k2 _ _ h3),csG3,qAI (k2 _ _ h31),a2]
   refine zAAe X0_0 (kf:=λy=>y.2) (by omega) (hL3.T.sub k2) (λy s J=>zABB X0_0 y s J) λs96 k96=>?_;exact j7 _ _ (F.T.any λy=>y.2 == x.2.2.1) (by rw[q1];rfl) (λq2 g=>by rw[g.tt]at q2;cases q2) (λq2=>h2 q1 q2) (k2.trans k96)
 have j5:∀(p q:AV) (bd:Bool),qAO p (.bool true) q=some (.bool bd)->(bd=true->¬BdRow F i x)->(bd=false->F.T.any (λy=>y.1 == x.2.1)=false->F.T.any (λy=>y.2 == x.2.2.1)=false->BdS F i x->BdRow F i x)->qFt X0 (.ptr b3 0) (.int .i64 (i:Int)) (.ptr b29 0) (.int .i64 (i:Int)) p q (InvB F s20) (F.B.length-i) K R s31:=λp q bd h h1 h2=>by
  unfold qFt;rw[h];simp only[qAB];refine qAJ (λq1=>?_) (λq1=>?_)
  ·exact j6 _ _ bd (by rw[q1];rfl) h1 (λq2=>by rw[q1]at q2;cases q2) (.refl _)
  ·simp only[qAG,zA,qAB,qAI h3,csG3,qAI h31,a1]
   refine zAAe X0_0 (kf:=λy=>y.1) (by omega) hL3.T (λy s J=>zAAs X0_0 y s J) λs102 k102=>?_;exact j6 _ _ (F.T.any λy=>y.1 == x.2.1) (by rw[q1];rfl) (λq2 g=>by rw[g.tv]at q2;cases q2) (λq2=>h2 q1 q2) k102
 have j4:∀(p q:AV) (bd:Bool),qAO p (.bool true) q=some (.bool bd)->(bd=true->¬BdG F x)->(bd=false->BdG F x)->qFj X0 (.ptr b3 0) vn tg (.int .i64 (i:Int)) (.ptr b29 0) (.int .i64 (i:Int)) p q (InvB F s20) (F.B.length-i) K R s31:=λp q bd h h1 h2=>by
  unfold qFj;rw[h];simp only[qAB];refine qA6 (λq1=>?_) λq1=>hbad (λg=>h1 q1 g.g) (.refl _) _ _ _ (by omega);rw[g11];simp only[qAB,g12];refine qAJ (λq2=>?_) (λq2=>?_)
  ·exact j5 _ _ true (by rw[q2];rfl) (λ_ g=>g.vn (g13.1 q2)) (λq=>by cases q)
  ·rw[g21]
   simp only[qAB,g22];exact j5 _ _ w2 (by rw[q2];rfl) (λq3 g=>g.tg (g23.1 q3)) (λq3 q4 q5 q6=>⟨h2 q1,λz=>(by rw[g13.2 z]at q2;cases q2),λz=>(by rw[g23.2 z]at q3;cases q3),q4,q5,q6⟩)
 have j3:∀(p q:AV) (bd:Bool),qAO p (.bool true) q=some (.bool bd)->(bd=true->¬BdG F x)->(bd=false->x.2.2.1≠0->BdG F x)->qFd X0 (.ptr b3 0) vn tg (.int .i64 (i:Int)) (.ptr b29 0) (.int .i64 (i:Int)) p q (InvB F s20) (F.B.length-i) K R s31:=λp q bd h h1 h2=>by
  unfold qFd;rw[h];simp only[qAB];refine qAJ (λq1=>?_) (λq1=>?_)
  ·exact j4 _ _ bd (by rw[q1];rfl) h1 (λq2=>by rw[q1]at q2;cases q2)
  ·simp only[qAG,zA,qAB,qAI h31,a2,qAZ,qAY,Bool.false_bne]
   exact j4 _ _ (x.2.2.1 == 0) (by rw[q1];rfl) (λq2 g=>g.2.2 (by simpa using q2)) (λq2=>h2 q1 (by simpa using q2))
 have j2:∀(p q:AV) (bd:Bool),qAO p (.bool true) q=some (.bool bd)->(bd=true->¬BdG F x)->(bd=false->x.2.1<=16777215->x.2.2.1≠0->BdG F x)->qFq X0 (.ptr b3 0) vn tg (.int .i64 (i:Int)) (.ptr b29 0) (.int .i64 (i:Int)) p q (InvB F s20) (F.B.length-i) K R s31:=λp q bd h h1 h2=>by
  unfold qFq;rw[h];simp only[qAB];refine qAJ (λq1=>?_) (λq1=>?_)
  ·exact j3 _ _ bd (by rw[q1];rfl) h1 (λq2=>by rw[q1]at q2;cases q2)
  ·simp only[qAG,zA,qAB,qAI h31,a1,qAh]
   exact j3 _ _ (decide (16777215<x.2.1)) (by rw[q1];rfl) (λq2 g=>by have:=oT q2;have:=g.2.1.2;omega) (λq2=>h2 q1 (by have:=oF q2;omega))
 simp only[qAG,zA,qAB,qAI h31,a0,qAI h3,csG3,lenT];refine qEw X0_0 ?_;simp only[qAa,qAB];refine qAJ (λq1=>?_) (λq1=>?_)
 ·exact j2 _ _ true (by rw[q1];rfl) (λ_ g=>by rw[qL6.2 g.1]at q1;cases q1) (λq2=>by cases q2)
 ·have hin:inB x.1 (F.T.length:Int)=true:=by simpa using q1
  simp only[qAB,qAI h31,a1,qAR];exact j2 _ _ (decide (x.2.1<1)) (by rw[q1];rfl) (λq2 g=>by have:=oT q2;have:=g.2.1.1;omega) (λq2 q3 q4=>⟨qL6.1 hin,⟨by have:=oF q2;omega,q3⟩,q4⟩)
end Go.AM.TN
set_option maxRecDepth 100000
namespace Go.AM.TN
open Go Go.Proofs
variable {K:AV→Hq→Prop} {s s':Hq} {v k:AV} {b:Nat} {Y:Td} {F:FG} {v2 v3 v4 v5 v6 v7:AV} {t:Bool} {J:AV→Hq→Prop}
theorem zAEJ{l:List Int}(h:∀(j:Nat) (hj:j+1<l.length),l[j]<l[j+1]):l.Pairwise (· < ·):=by
 refine List.pairwise_iff_getElem.2 λi j hi hj hij=>?_;obtain⟨d,rfl⟩:∃d,j=i+1+d:=⟨j-i-1,by omega⟩
 induction d with
 |zero=>exact h i hj
 | succ d ih=>
   have h1:=ih (by omega) (by omega);have h2:=h (i+1+d) (by omega);have e:i+1+d+1=i+1+(d+1):=by omega
   simp only[e]at h2;omega
theorem qMk(hY:Fn0 Y){l:List Int}(hn:l.length<=4294967296)(hv:Sl s v (ix l))(hK:∀b:Bool,(b=true↔l.Pairwise (· < ·))->K (.bool b) s):wC TP Y 167 [v] K s:=by
 refine qOF hY.fr (hY.no _ rfl) ?_;unfold qMn;refine⟨λys t m=>∃i:Nat,ys=[.int .i64 (i:Int)]/\m=l.length-i/\t=s/\1<=i/\∀(j:Nat) (hj:j+1<l.length),j+1<i->l[j]<l[j+1],⟨_,1,rfl,rfl,rfl,by omega,λj hj h=>by omega⟩,?_⟩;rintro f t m ⟨i,hy,rfl,rfl,hi,hall⟩;simp only[cI,and_true]at hy;rw[hy];have hlen:qAN v=some l.length:=by rw[hv.len,qAm]
 simp only[qJB,hlen,qAR,qAB];refine qAJ (λhlt=>?_) (λhge=>?_)
 rotate_left
 ·have hge:l.length<=i:=by have:=oF hge;omega
  exact hK true ⟨λ_=>zAEJ λj hj=>hall j hj (by omega),λ_=>rfl⟩
 have hlt:i<l.length:=by have:=oT hlt;omega
 obtain⟨p1,g1,g2⟩:=hv.get (i:=i) (by rw[qAm];exact hlt);rw[qDU hlt]at g2;have hlt':i-1<l.length:=by omega
 obtain⟨p2,g3,g4⟩:=hv.get (i:=i-1) (by rw[qAm];exact hlt');rw[qDU hlt']at g4;rw[g1];simp only[qAB,g2,qAx];rw[qAe (by omega) (by omega),show((i:Int)-1)=((i-1:Nat):Int)by omega,g3];simp only[qAB,g4,qEP];have e:i-1+1=i:=by omega
 refine qAJ (λq=>?_) (λq=>?_)
 ·have q:=oT q
  refine hK false ⟨λq=>(by cases q),λg=>?_⟩;have:=(List.pairwise_iff_getElem.1 g) (i-1) i hlt' hlt (by omega);omega
 ·have q:=oF q
  simp only[qAU,qAB];rw[qAe (by omega) (by omega)];refine⟨_,by omega,i+1,rfl,rfl,by trivial,by omega,λj hj h=>?_⟩
  by_cases e2:j+1<i
  ·exact hall j hj e2
  ·have:j=i-1:=by omega
   subst this;simp only[e];omega
def prt(P:List Int):List AV:=(List.range 32).map λ(n:Nat)=>AV.int .i64 ((P.count (n:Int):Nat):Int)
theorem qQ9{P:List Int}:(prt P).length=32:=by unfold prt;simp
theorem qNz{P:List Int}{n:Nat}(h:n<32):(prt P)[n]?=some (.int .i64 ((P.count (n:Int):Nat):Int)):=by unfold prt;simp[h]
theorem zABe{P:List Int}{n:Nat}(h:n<32):(prt P).set n (.int .i64 ((P.count (n:Int):Nat)+1:Int))=prt (P ++ [(n:Int)]):=by
 apply List.ext_getElem?;intro i
 by_cases e:n=i
 ·subst e
  rw[List.getElem?_set_self (by rw[qQ9];exact h),qNz h,List.count_append];simp
 ·rw[List.getElem?_set_ne e]
  by_cases hi:i<32
  ·rw[qNz hi,qNz hi,List.count_append]
   have:List.count (i:Int) [(n:Int)]=0:=by rw[List.count_eq_zero];simp only[List.mem_singleton];omega
   rw[this,Nat.add_zero]
  ·rw[List.getElem?_eq_none (by rw[qQ9];omega),List.getElem?_eq_none (by rw[qQ9];omega)]
theorem qXD{n:Nat}(h:n<32):qMg 32 1 (.ptr b 0) (.int .i64 (n:Int))=some (.ptr b n):=by
 have:Nat.blt n 32=true:=by rw[Nat.blt_eq];exact h
 simp[qMg,this]
def qMB(F:FG)(x:List Int×List Int):Prop:=(x.1≠[]/\x.2≠[])/\((∀n∈x.1,0<=n/\n<F.lf)/\∀n∈x.2,0<=n/\n<(F.B.length:Int))/\x.1.Pairwise (· < ·)/\x.2.Pairwise (· < ·)
structure SegOk(F:FG):Prop where
 n:F.S.length<=64
 row:∀x∈F.S,qMB F x
 port:∀n:Int,((F.S.map (·.1)).flatten).count n<=32
abbrev InvS(F:FG)(s14:Hq)(b13:Nat):List AV->Hq->Nat->Prop:=λys t m=>∃i:Nat,ys=[.int .i64 (i:Int)]/\i<=F.S.length/\m=F.S.length-i/\qBp (λj=>j=b13) s14 t/\t b13=some (false,.cells 208 (prt ((F.S.take i).map (·.1)).flatten))/\(∀x∈F.S.take i,qMB F x)/\∀n:Int,(((F.S.take i).map (·.1)).flatten).count n<=32
abbrev InvP(F:FG)(s14:Hq)(b13:Nat)(P l:List Int):List AV->Hq->Nat->Prop:=λys t m=>∃k:Nat,ys=[.int .i64 (k:Int)]/\k<=l.length/\m=l.length-k/\qBp (λj=>j=b13) s14 t/\t b13=some (false,.cells 208 (prt (P++l.take k)))/\∀n:Int,(P++l.take k).count n<=32
theorem sin1{x0:Int}{cb:Nat}(hc:s cb=some (t,.cells 31 (csG F v2 v3 v4 v5 v6 v7)))(hJ:∀s',Sub s s'->J (.bool (!inB x0 F.lf)) s'):funK TP X0 (.fn (.func 165) [] [.ptr cb 0]) [.int .i64 x0] J s:=by refine qX5 (by kernel_rfl) (qM5 X0_0.fr (X0_0.no _ rfl) ?_);unfold qLP;simp only[qAG,zA,qAB,qAI hc,csG0];refine qEw X0_0 ?_;simp only[qAa,qAB];exact hJ s (.refl _)
theorem sin2{x0:Int}{cb:Nat}(hc:s cb=some (t,.cells 31 (csG F v2 v3 v4 v5 v6 v7)))(hB:qAN v4=some F.B.length)(hJ:∀s',Sub s s'->J (.bool (!inB x0 (F.B.length:Int))) s'):funK TP X0 (.fn (.func 166) [] [.ptr cb 0]) [.int .i64 x0] J s:=by refine qX5 (by kernel_rfl) (qMo X0_0.fr (X0_0.no _ rfl) ?_);unfold qKz;simp only[qAG,zA,qAB,qAI hc,csG4,hB];refine qEw X0_0 ?_;simp only[qAa,qAB];exact hJ s (.refl _)
theorem qRB{l:List Int}{n:Int}:l.any (λx=>!inB x n)=false↔∀x∈l,0<=x/\x<n:=by
 rw[List.any_eq_false];refine⟨λh x hx=>?_,λh x hx=>?_⟩
 ·have:=h x hx
  exact qL6.1 (by simpa using this)
 ·rw[qL6.2 (h x hx)];simp
end Go.AM.TN
set_option maxRecDepth 100000
namespace Go.AM.TN
open Go Go.Proofs
variable {K R:AV→Hq→Prop} {s:Hq} {c:Nat} {F:FG} {v2 v3 v4 v5 v6 v7:AV} {t:Bool} {J:AV→Hq→Prop}
theorem qV8{α β:Type}{f:α->List β}{S:List α}{i:Nat}{x:α}(hx:S[i]?=some x):(S.map f).flatten=((S.take i).map f).flatten++(f x++((S.drop (i+1)).map f).flatten):=by
 obtain⟨hi,e⟩:=gS hx;have h1:S=S.take i++x::S.drop (i+1):=by rw[<- e,List.getElem_cons_drop,List.take_append_drop]
 conv=>lhs;rw[h1]
 simp
theorem qSM{α β:Type}{f:α->List β}{S:List α}{i:Nat}{x:α}(hx:S[i]?=some x):((S.take (i+1)).map f).flatten=((S.take i).map f).flatten++f x:=by rw[List.take_add_one,hx];simp
theorem qTA(hF:FabOk F)(hB:F.B.length<=32)(hn:F.S.length<=4294967296)(hnn:∀x∈F.S,x.1.length<=4294967296/\x.2.length<=4294967296)(hc:s c=some (t,.cells 159 (csG F v2 v3 v4 v5 v6 v7)))(hL:FL s F v2 v3 v4 v5 v6 v7)(hK:Kok s (SegOk F) K)(hR:Rbad s (SegOk F) R):qAf TP X0 SS 124 [.ptr c 0] K R s:=by
 refine qO9 (qL4 rfl hc hL λb3 s5 h5 k5=>?_);have hL5:=hL.sub k5;have hlen:qAN v5=some F.S.length:=hL5.S.len;have lenB:qAN v4=some F.B.length:=by rw[hL.B.len,lM]
 simp only[qAG,zA,qAB,qAI h5,csG5,hlen,qAh];refine qA6 (λq=>?_) λq=>hR (λg=>by have:=oT q;have:=g.n;omega) _ _ _ s5 (by omega) k5;have hn64:F.S.length<=64:=by have:=oF q;omega
 refine qAP λb13 s14 hb13 h13 u13=>?_;have h13:s14 b13=some (false,.cells 208 (prt [])):=h13;have k14:=u13.sub hb13;simp only[qAI (k14 _ _ h5),csG5,qAB,hlen];have sub5:∀{t:Hq},qBp (λj=>j=b13) s14 t->Sub s5 t:=fun {t} kp i e hi=>kp i e (k14 i e hi) (qJ1 hb13 hi);refine⟨InvS F s14 b13,⟨_,0,rfl,by omega,rfl,.refl _ _,h13,by simp,by simp⟩,?_⟩;rintro f t m ⟨i,hy,hi,rfl,kp,hprt,hall,hcnt⟩;simp only[cI,and_true]at hy;rw[hy];simp only[qKT,qAR,qAB];refine qAJ (λhlt=>?_) (λhge=>?_)
 rotate_left
 ·have hge:i=F.S.length:=by have:=oF hge;omega
  subst hge;rw[List.take_length]at hall hcnt;exact hK ⟨hn64,hall,hcnt⟩ t (k5.trans (sub5 kp))
 have hlt:i<F.S.length:=by have:=oT hlt;omega
 have hx:F.S[i]?=some F.S[i]:=gE hlt;have hxm:F.S[i]∈F.S:=List.getElem_mem hlt;generalize F.S[i]=x at hx hxm;have hxn:=hnn x hxm;obtain⟨pb,po,l1,l2,e1,e2,_,_,q1,q2⟩:=(hL5.S.sub (sub5 kp)).at hx;rw[e1];simp only[qAB,e2];refine qAP λb22 s23 hb22 h23 u23=>qAW h23 rfl rfl (by simp[q1.one,q2.one]) λs24 h24 u24=>?_;have k24:Sub t s24:=qAX (u23.sub hb22) u24 hb22;have kp24:qBp (λj=>j=b13) s14 s24:=kp.trans k24.keep;have kall:Sub s s24:=k5.trans (sub5 kp24);have a0:[l1,l2][0]?=some l1:=rfl;have a1:[l1,l2][1]?=some l2:=rfl;have n1:qAN l1=some x.1.length:=by rw[q1.len,qAm]
 have n2:qAN l2=some x.2.length:=by rw[q2.len,qAm]
 have h3:=sub5 kp24 _ _ h5;have hp24:=k24 _ _ hprt;have hbad:∀{s2:Hq},¬qMB F x->Sub s24 s2->∀(e:Int) (p:ByteArray) (i:Int),e≠0->R (flV e p i) s2:=fun {s2} q k2 e p i he=>hR (λg=>q (g.row _ hxm)) e p i s2 he (kall.trans k2);have j3:∀(p q:AV) (bd:Bool),qAO p (.bool true) q=some (.bool bd)->(bd=true->¬qMB F x)->(bd=false->qMB F x)->∀{s2:Hq},Sub s24 s2->qEo X0 (.ptr b13 0) (.int .i64 (i:Int)) (.ptr b22 0) (.int .i64 (i:Int)) p q (InvS F s14 b13) (F.S.length-i) K R s2:=λp q bd h h1 h2 {s2} k2=>by
  unfold qEo;rw[h];simp only[qAB];refine qA6 (λe=>?_) λe=>hbad (h1 e) k2 _ _ _ (by omega);have row:=h2 e;simp only[qAG,zA,qAB,qAI (k2 _ _ h24),a0,n1];refine⟨InvP F s14 b13 ((F.S.take i).map (·.1)).flatten x.1,⟨_,0,rfl,by omega,rfl,kp24.trans k2.keep,by rw[List.take_zero,List.append_nil];exact k2 _ _ hp24,by rw[List.take_zero,List.append_nil];exact hcnt⟩,?_⟩;rintro f t2 m ⟨kk,hy,hk,rfl,kp2,hp2,hc2⟩;simp only[cI,and_true]at hy;rw[hy];simp only[qKM,qAR,qAB];refine qAJ (λhl=>?_) (λhg=>?_)
  rotate_left
  ·have hg:kk=x.1.length:=by have:=oF hg;omega
   subst hg;rw[List.take_length]at hp2 hc2;simp only[qAU,qAB];rw[qAe (by omega) (by omega)];refine⟨_,by omega,i+1,rfl,by omega,rfl,kp2,by rw[qSM hx];exact hp2,λz hz=>?_,by rw[qSM hx];exact hc2⟩;rw[List.take_add_one,hx]at hz;rcases mP hz with hz|hz
   ·exact hall z hz
   ·simp only[Option.toList_some,List.mem_singleton]at hz
    rw[hz];exact row
  have hl:kk<x.1.length:=by have:=oT hl;omega
  have hq1:Sl t2 l1 (ix x.1):=by
   obtain⟨pb',po',l1',l2',e1',e2',_,_,q1',_⟩:=(hL5.S.sub (sub5 kp2)).at hx;obtain⟨vs,w1,w2,w3⟩:=hL5.S;have hi':i<vs.length:=by rw[w2];exact hlt
   have hq:vs[i]?=some vs[i]:=gE hi';obtain⟨pb1,po1,x1,x2,_⟩:=(w1.sub (sub5 kp)).get (i:=i) (r:=[vs[i].1,vs[i].2]) (by rw[List.getElem?_map,hq];rfl);rw[e1]at x1;cases Option.some.inj x1;rw[e2]at x2;simp only[Option.some.injEq,cI,and_true]at x2;have:=(w3 i _ x hq hx).1;rw[<- x2.1]at this;exact this.sub (sub5 kp2)
  obtain⟨pp,g1,g2⟩:=hq1.get (i:=kk) (by rw[qAm];exact hl);rw[qDU hl]at g2;obtain⟨r1,r2⟩:=row.2.1.1 _ (List.getElem_mem hl);have hlf:=hF.lf;obtain⟨n,hn'⟩:∃n:Nat,x.1[kk]=(n:Int):=⟨x.1[kk].toNat,by omega⟩
  have hn32:n<32:=by omega
  rw[hn']at g2;rw[g1];simp only[qAB,g2,qXD hn32,qAI hp2,qNz hn32,qAU];have hcn:=hc2 (n:Int);rw[qAe (by omega) (by omega)];refine qBW hp2 (by rw[qQ9];exact hn32) rfl λs59 h59 u59=>?_;rw[zABe hn32]at h59;have et:(((F.S.take i).map (·.1)).flatten++x.1.take kk) ++ [(n:Int)]=((F.S.take i).map (·.1)).flatten++x.1.take (kk+1):=by rw[List.append_assoc,List.take_add_one,gE hl,hn'];rfl
  rw[et]at h59;simp only[qAI h59,qNz hn32,qAB,qAh];have kp59:qBp (λj=>j=b13) s14 s59:=kp2.trans (u59.keep rfl);refine qA6 (λe2=>?_) λe2=>hR (λg=>?_) _ _ _ s59 (by omega) (k5.trans (sub5 kp59))
  ·have e2:=oF e2
   rw[qAe (by omega) (by omega)];refine⟨_,by omega,kk+1,rfl,by omega,rfl,kp59,h59,λn'=>?_⟩
   by_cases en:n'=(n:Int)
   ·rw[en]
    omega
   ·rw[<- et,List.count_append]
    have:List.count n' [(n:Int)]=0:=by rw[List.count_eq_zero];simp only[List.mem_singleton];exact en
    rw[this,Nat.add_zero];exact hc2 n'
  ·have e2:=oT e2
   have:=g.port (n:Int);rw[qV8 (f:=λ(z:List Int×List Int)=>z.1) hx]at this;have e3:x.1=x.1.take (kk+1)++x.1.drop (kk+1):=(List.take_append_drop _ _).symm;have e4:List.count (n:Int) x.1=List.count (n:Int) (x.1.take (kk+1))+List.count (n:Int) (x.1.drop (kk+1)):=by
    conv=>lhs;rw[e3]
    rw[List.count_append]
   rw[List.count_append]at e2;simp only[List.count_append]at this;omega
 have j2:∀(p q:AV) (bd:Bool),qAO p (.bool true) q=some (.bool bd)->(bd=true->¬qMB F x)->(bd=false->x.1.Pairwise (· < ·)->x.2.Pairwise (· < ·)->qMB F x)->∀{s2:Hq},Sub s24 s2->qEt X0 (.ptr b13 0) (.int .i64 (i:Int)) (.ptr b22 0) (.int .i64 (i:Int)) p q (InvS F s14 b13) (F.S.length-i) K R s2:=λp q bd h h1 h2 {s2} k2=>by
  unfold qEt;rw[h];simp only[qAB];refine qA6 (λe=>?_) λe=>hbad (h1 e) k2 _ _ _ (by omega);simp only[qAG,zA,qAB,qAI (k2 _ _ h24),a0];refine qMk X0_0 hxn.1 (q1.sub (k24.trans k2)) λb1 hb1=>?_;simp only[qAa,qAB];refine qAJ (λe1=>?_) (λe1=>?_)
  ·exact j3 _ _ true (by rw[e1];rfl) (λ_ g=>by rw[hb1.2 g.2.2.1]at e1;cases e1) (λq=>by cases q) k2
  ·simp only[qAI (k2 _ _ h24),a1,qAB]
   refine qMk X0_0 hxn.2 (q2.sub (k24.trans k2)) λb2 hb2=>?_;simp only[qAa,qAB];exact j3 _ _ (!b2) (by rw[e1];rfl) (λe2 g=>by rw[hb2.2 g.2.2.2]at e2;cases e2) (λe2=>h2 e (hb1.1 (by simpa using e1)) (hb2.1 (by simpa using e2))) k2
 have j1:∀(p q:AV) (bd:Bool),qAO p (.bool true) q=some (.bool bd)->(bd=true->¬qMB F x)->(bd=false->x.1≠[]/\x.2≠[])->qEs X0 (.ptr b3 0) (.ptr b13 0) (.int .i64 (i:Int)) (.ptr b22 0) (.int .i64 (i:Int)) p q (InvS F s14 b13) (F.S.length-i) K R s24:=λp q bd h h1 h2=>by
  unfold qEs;rw[h];simp only[qAB];refine qA6 (λe=>?_) λe=>hbad (h1 e) (.refl _) _ _ _ (by omega);simp only[qAG,zA,qAB,qAI h24,a0];refine qJJ X0_0 (p:=λn=>!inB n F.lf) hxn.1 (q1.sub k24) (λz sA J kA hJ=>sin1 (kA _ _ h3) hJ) λs36 k36=>?_;refine qAJ (λe1=>?_) (λe1=>?_)
  ·exact j2 _ _ true (by rw[e1];rfl) (λ_ g=>by have:=qRB.2 g.2.1.1;rw[this]at e1;cases e1) (λq=>by cases q) k36
  ·simp only[qAI (k36 _ _ h24),a1,qAB]
   refine qJJ X0_0 (p:=λn=>!inB n (F.B.length:Int)) hxn.2 (q2.sub (k24.trans k36)) (λz sA J kA hJ=>sin2 (kA _ _ (k36 _ _ h3)) lenB hJ) λs75 k75=>?_;exact j2 _ _ (x.2.any λn=>!inB n (F.B.length:Int)) (by rw[e1];rfl) (λe2 g=>by have:=qRB.2 g.2.1.2;rw[this]at e2;cases e2) (λe2 p1 p2=>⟨h2 e,⟨qRB.1 e1,qRB.1 e2⟩,p1,p2⟩) (k36.trans k75)
 simp only[qAG,zA,qAB,qAI h24,a0,n1,qAZ,qAY,Bool.false_bne];have em:∀{l:List Int},(((l.length:Nat):Int) == 0)=true↔l=[]:=fun {l}=>by
  rw[beq_iff_eq];constructor
  ·intro h
   exact List.length_eq_zero_iff.1 (by omega)
  ·rintro rfl;rfl
 refine qAJ (λe=>?_) (λe=>?_)
 ·exact j1 _ _ true (by rw[e];rfl) (λ_ g=>g.1.1 (em.1 e)) (λq=>by cases q)
 ·simp only[a1,qAB,n2]
  exact j1 _ _ (((x.2.length:Nat):Int) == 0) (by rw[e];rfl) (λq g=>g.1.2 (em.1 q)) (λq=>⟨λz=>(by rw[em.2 z]at e;cases e),λz=>(by rw[em.2 z]at q;cases q)⟩)
end Go.AM.TN
set_option maxRecDepth 100000
namespace Go.AM.TN
open Go Go.Proofs
variable {K:AV→Hq→Prop} {s s':Hq} {v y:AV} {b:Nat} {Y:Td} {t:Bool}
theorem qZh(hY:Fn0 Y){l:List Int}{n:Int}(hn:l.length<=4294967296)(hv:Sl s v (ix l))(hK:K (.int .i64 (fstI (λx=>n == x) l)) s):wC TP Y 101 [v,.int .i64 n] K s:=by
 refine qIr hY.fr (hY.no _ rfl) ?_;unfold qF9;have hlen:qAN v=some l.length:=by rw[hv.len,qAm]
 rw[hlen];simp only[qAB];refine⟨λys t m=>∃i:Nat,ys=[.int .i64 (i:Int)]/\i<=l.length/\m=l.length-i/\t=s/\∀j z,j<i->l[j]?=some z->(n == z)=false,⟨_,0,rfl,by omega,rfl,rfl,λj z hj=>by omega⟩,?_⟩;rintro f t m ⟨i,hy,hi,rfl,rfl,hall⟩;simp only[cI,and_true]at hy;rw[hy];simp only[qEW,qAR,qAB];refine qAJ (λhlt=>?_) (λhge=>?_)
 rotate_left
 ·have hge:i=l.length:=by have:=oF hge;omega
  subst hge;rw[qLS λj z hz=>hall j z (gS hz).1 hz]at hK;exact hK
 have hlt:i<l.length:=by have:=oT hlt;omega
 obtain⟨pp,g1,g2⟩:=hv.get (i:=i) (by rw[qAm];exact hlt);rw[qDU hlt]at g2;have hx:l[i]?=some l[i]:=gE hlt;generalize l[i]=x at hx g2;rw[g1];simp only[qAB,g2,qAZ,qAY,Bool.false_bne];refine qAJ (λq=>?_) (λq=>?_)
 ·rw[qNK hx q hall]at hK
  exact hK
 ·simp only[qAU,qAB]
  rw[qAe (by omega) (by omega)];refine⟨_,by omega,i+1,rfl,by omega,rfl,by trivial,λj z hj hz=>?_⟩
  by_cases e:j<i
  ·exact hall j z e hz
  ·have:j=i:=by omega
   subst this;rw[hx]at hz;cases hz;exact q
theorem qKq(hY:Fn0 Y){l:List Int}{n:Int}(hn:l.length<=4294967296)(hv:Sl s v (ix l))(hK:K (.bool (decide (n∈l))) s):wC TP Y 72 [v,.int .i64 n] K s:=by
 refine qHE hY.fr (hY.no _ rfl) ?_;unfold qEY;refine qZh hY hn hv ?_;simp only[qAo,qAB,qQ7];have:l.any (λx=>n == x)=decide (n∈l):=by
  by_cases h:n∈l
  ·rw[decide_eq_true h]
   exact List.any_eq_true.2 ⟨n,h,by simp⟩
  ·rw[decide_eq_false h,List.any_eq_false]
   intro x hx;simp only[beq_iff_eq];rintro rfl;exact h hx
 rw[this];exact hK
def andL(x y:Int):Int:=qBF .u64 ((BitVec.ofInt 64 x &&& BitVec.ofInt 64 y).toNat:Nat)
theorem qPI{x y:Int}:qAH .and (.int .u64 x) (.int .u64 y)=some (.int .u64 (andL x y)):=by simp only[qAH,arith,qCN,qC4,cond_true];rfl
theorem zADH{x:Int}:qGt .shr (.int .u64 x) (.int .u64 40)=some (.int .u64 (x.fdiv 1099511627776)):=by show frc (x.fdiv ((2^(min 40 (IntKind.bits .u64)):Nat):Int)) (λn=>some (AV.int .u64 n))=_;rw[qCN];rfl
def qPA(m:Int):Bool:=decide (m<=281474976710655)&&(andL (m.fdiv 1099511627776) 1 != 0)
theorem qMl(hY:Fn0 Y){m:Int}(hK:K (.bool (qPA m)) s):wC TP Y 21 [.int .u64 m] K s:=by
 refine qKE hY.fr (hY.no _ rfl) ?_;unfold qHl;unfold qPA at hK;simp only[qEP,qAB];refine qAJ (λe=>?_) (λe=>?_)
 ·rw[zADH]
  simp only[qAB,qPI,qAZ,qAY,Bool.true_bne];rw[e]at hK ⊢;exact hK
 ·rw[e]at hK ⊢
  exact hK
def qEZ(m:Int):Bool:=!(decide (m<2199023255552)||decide (2199023255584<=m))
theorem qYC(hY:Fn0 Y){m:Int}(hK:∀r,K (.tup [.int .i64 r,.bool (qEZ m)]) s):wC TP Y 171 [.int .u64 m] K s:=by
 refine qJF hY.fr (hY.no _ rfl) ?_;unfold qGd;unfold qEZ at hK;simp only[qAR,qAB];have j0:∀(p q:AV) (bd:Bool),qAO p (.bool true) q=some (.bool bd)->(decide (m<2199023255552)||decide (2199023255584<=m))=bd->qCS Y (.int .u64 m) p q K s:=λp q bd h he=>by
  unfold qCS;rw[h];rw[he]at hK;simp only[qAB];refine qAJ (λe=>?_) (λe=>?_)
  ·rw[e]at hK;exact hK 0
  ·rw[e]at hK
   simp only[qAx,qAB];exact hK _
 refine qAJ (λe=>?_) (λe=>?_)
 ·exact j0 _ _ true (by rw[e];rfl) (by rw[e];rfl)
 ·simp only[qAo,qAB]
  exact j0 _ _ (decide (2199023255584<=m)) (by rw[e];rfl) (by rw[e];rfl)
def qKl(d:BG)(ip:Int):Bool:=(ip == 0)||((d.2.2.2.2.2 != 0)&&(ip != d.2.2.2.2.2)&&qKU d.2.2.2.1 d.2.2.2.2.1 ip)
theorem qRy(hY:Fn0 Y){d:BG}{ip:Int}(hd:d.2.2.2.2.2≠0->-1000<=d.2.2.2.2.1/\d.2.2.2.2.1<=32)(hK:∀s',Sub s s'->K (.bool (qKl d ip)) s'):wC TP Y 172 [.agg (bgC d),.int .u32 ip] K s:=by
 refine qNm hY.fr (hY.no _ rfl) ⟨rfl,qAP λb s1 hb h1 u1=>?_⟩;have h1:s1 b=some (false,.cells 69 (bgC d)):=h1;have k1:=u1.sub hb;have d5:(bgC d)[5]?=some (.int .u32 d.2.2.2.2.2):=rfl;have rd:rdN s1 2 (.ptr b 3)=some (pfC d.2.2.2.1 d.2.2.2.2.1):=by simp only[rdN,h1];rfl
 have hk:=λs' (q:Sub s1 s')=>hK s' (k1.trans q);unfold qKl at hk;simp only[qAZ,qAY,Bool.false_bne,qAB];refine qAJ (λe=>?_) (λe=>?_)
 ·have:=hk s1 (.refl _)
  rw[e]at this;exact this
 ·rw[e]at hk
  simp only[qAG,zA,qAB,qAI h1,d5,qAZ,qAY,Bool.true_bne];have j0:∀(p q:AV) (ok:Bool),qAO p q (.bool false)=some (.bool ok)->((d.2.2.2.2.2 != 0)&&(ip != d.2.2.2.2.2))=ok->(ok=true->d.2.2.2.2.2≠0)->qEJ Y (.int .u32 ip) (.ptr b 0) p q K s1:=λp q ok h he h0=>by
   unfold qEJ;rw[h];rw[he]at hk;simp only[qAB];refine qAJ (λe2=>?_) (λe2=>?_)
   ·simp only[qAG,zA,qAB,rd]
    refine qUO hY (hd (h0 e2)) λs11 k11=>?_;have:=hk s11 k11;rw[e2]at this;rw[e2];exact this
   ·have:=hk s1 (.refl _)
    rw[e2]at this;rw[e2];exact this
  have en:(!(d.2.2.2.2.2 == 0))=(d.2.2.2.2.2 != 0):=rfl;rw[en];refine qAJ (λe2=>?_) (λe2=>?_)
  ·exact j0 _ _ (!(ip == d.2.2.2.2.2)) (by rw[e2];rfl) (by rw[e2];rfl) (λ_=>by simpa using e2)
  ·exact j0 _ _ false (by rw[e2];rfl) (by rw[e2];rfl) (λq=>by cases q)
theorem qVp{α β γ:Type}{f:α->β}{g:α->γ}{l:List α}{x:α}(h:∀y∈l,f x=f y↔g x=g y):f x∈l.map f↔g x∈l.map g:=by simp only[List.mem_map];exact⟨λ⟨a,h1,h2⟩=>⟨a,h1,((h a h1).1 h2.symm).symm⟩,λ⟨a,h1,h2⟩=>⟨a,h1,((h a h1).2 h2.symm).symm⟩⟩
theorem w64u{n:Int}(h:0<=n/\n<4294967296):qBF .u64 n=n:=by simp only[qBF];rw[qFr _ _ _ (by omega) (by omega)];split<;>omega
end Go.AM.TN
set_option maxRecDepth 100000
namespace Go.AM.TN
open Go Go.Proofs
variable {K R:AV→Hq→Prop} {s s':Hq} {v y k:AV} {b c:Nat} {F:FG} {v2 v3 v4 v5 v6 v7:AV} {t:Bool} {J:AV→Hq→Prop}
theorem qS5{p:AV}(h:rd1 s p=some v)(k:Sub s s'):rd1 s' p=some v:=by
 cases p<;>try (simp[rd1]at h;done)
 rename_i b o;obtain⟨t,e,l,h1,h2⟩:=qXR h;rw[qAI (k _ _ h1)];exact h2
structure HoRow(F:FG)(i:Nat)(x:R4):Prop where
 m:x.1≠0/\x.1<=281474976710655/\qPA x.1=false
 r:(0<=x.2.2.1/\x.2.2.1<(F.B.length:Int))/\(-1<=x.2.2.2/\x.2.2.2<=(F.S.length:Int)-1)
 s:x.2.2.2≠-1->∀y,F.S[x.2.2.2.toNat]?=some y->x.2.2.1∈y.2
 a:(x.1≠1577058561/\qEZ x.1=false)/\∀d,F.B[x.2.2.1.toNat]?=some d->qKl d x.2.1=true
 dm:(x.2.2.1,x.1) ∉ (F.H.take i).map λy=>(y.2.2.1,y.1)
 di:x.2.1≠0->(x.2.2.1,x.2.1) ∉ (F.H.take i).map λy=>(y.2.2.1,y.2.1)
structure HosOk(F:FG):Prop where
 n:F.H.length<=128
 row:∀(i:Nat) x,F.H[i]?=some x->HoRow F i x
abbrev InvH(F:FG)(s20:Hq):List AV->Hq->Nat->Prop:=λys t m=>∃i:Nat,ys=[.int .i64 (i:Int)]/\i<=F.H.length/\m=F.H.length-i/\Sub s20 t/\∀(j:Nat) x,j<i->F.H[j]?=some x->HoRow F j x
theorem qZP(hD:DomOk F)(hS:F.S.length<=64)(hn:F.H.length<=4294967296)(hnn:∀x∈F.S,x.1.length<=4294967296/\x.2.length<=4294967296)(hip:∀x∈F.H,0<=x.2.1/\x.2.1<4294967296)(hc:s c=some (t,.cells 159 (csG F v2 v3 v4 v5 v6 v7)))(hL:FL s F v2 v3 v4 v5 v6 v7)(hK:Kok s (HosOk F) K)(hR:Rbad s (HosOk F) R):qAf TP X0 SS 125 [.ptr c 0] K R s:=by
 refine qTw (qL4 rfl hc hL λb3 s5 h5 k5=>?_);have hL5:=hL.sub k5;have hlen:qAN v6=some F.H.length:=by rw[hL5.H.len,lM]
 have lenB:qAN v4=some F.B.length:=by rw[hL5.B.len,lM]
 have lenS:qAN v5=some F.S.length:=hL5.S.len;simp only[qAG,zA,qAB,qAI h5,csG6,hlen,qAh];refine qA6 (λq=>?_) λq=>hR (λg=>by have:=oT q;have:=g.n;omega) _ _ _ s5 (by omega) k5;have hn128:F.H.length<=128:=by have:=oF q;omega
 simp only[qAI h5,csG6,qAB];refine zAA2 X0_0 (rows:=F.H) (rowC:=hgC) (λ_=>rfl) (λ_=>rfl) (kf:=λx=>[.int .i64 x.2.2.1,.int .u64 x.1]) zAC4 (λx=>⟨_,_,rfl⟩) (λ_=>rfl) (λ_=>rfl) (λx s J=>zAC2 X0_0 x s J) hL5.H (by omega) λs16 ma k16 repm=>?_;have h16:=k16 _ _ h5;simp only[qAI h16,csG6,qAB];refine zAA2 X0_0 (rows:=F.H) (rowC:=hgC) (λ_=>rfl) (λ_=>rfl) (kf:=λx=>[.int .i64 x.2.2.1,.int .u64 (qBF .u64 x.2.1)]) zAC4 (λx=>⟨_,_,rfl⟩) (λ_=>rfl) (λ_=>rfl) (λx s J=>zADg X0_0 x s J) (hL5.H.sub k16) (by omega) λs20 ia k20 repi=>?_;have h20:=k20 _ _ h16;have k520:Sub s5 s20:=k16.trans k20;simp only[qAI h20,csG6,qAB,hlen];have him:∀x y:R4,(AV.agg [.int .i64 x.2.2.1,.int .u64 x.1]=AV.agg [.int .i64 y.2.2.1,.int .u64 y.1])↔(x.2.2.1,x.1)=(y.2.2.1,y.1):=λx y=>by simp
 refine⟨InvH F s20,⟨_,0,rfl,by omega,rfl,.refl _,λj x hj=>by omega⟩,?_⟩;rintro f t m ⟨i,hy,hi,rfl,kt,hall⟩;simp only[cI,and_true]at hy;rw[hy];simp only[qNR,qAR,qAB];refine qAJ (λhlt=>?_) (λhge=>?_)
 rotate_left
 ·have hge:i=F.H.length:=by have:=oF hge;omega
  subst hge;exact hK ⟨hn128,λj x hx=>hall j x (gS hx).1 hx⟩ t (k5.trans (k520.trans kt))
 have hlt:i<F.H.length:=by have:=oT hlt;omega
 have hx:F.H[i]?=some F.H[i]:=gE hlt;have hxm:F.H[i]∈F.H:=List.getElem_mem hlt;generalize F.H[i]=x at hx hxm;have hxi:=hip x hxm;obtain⟨pb,po,e1,e2,_⟩:=(hL5.H.sub (k520.trans kt)).get (i:=i) (r:=hgC x) (by rw[List.getElem?_map,hx];rfl);rw[e1];simp only[qAB,e2];refine qAP λb28 s29 hb28 h29 u29=>qAW h29 rfl rfl rfl λs30 h30 u30=>?_;have k30:Sub t s30:=qAX (u29.sub hb28) u30 hb28;have kall:Sub s s30:=k5.trans (k520.trans (kt.trans k30));have h3:s30 b3=some (false,.cells 31 (csG F v2 v3 v4 v5 v6 v7)):=k30 _ _ (kt _ _ h20);have hL3:FL s30 F v2 v3 v4 v5 v6 v7:=hL.sub kall;have a0:(hgC x)[0]?=some (.int .u64 x.1):=rfl;have a1:(hgC x)[1]?=some (.int .u32 x.2.1):=rfl;have a2:(hgC x)[2]?=some (.int .i64 x.2.2.1):=rfl;have a3:(hgC x)[3]?=some (.int .i64 x.2.2.2):=rfl;obtain⟨p1,w1,g11,g12,g13⟩:=(repm.sub (k20.trans (kt.trans k30))).at (j:=i) (k:=.agg [.int .i64 x.2.2.1,.int .u64 x.1]) (by rw[List.getElem?_map,hx];rfl);obtain⟨p2,w2,g21,g22,g23⟩:=(repi.sub (kt.trans k30)).at (j:=i) (k:=.agg [.int .i64 x.2.2.1,.int .u64 (qBF .u64 x.2.1)]) (by rw[List.getElem?_map,hx];rfl);rw[<- List.map_take,qDn him]at g13;rw[<- List.map_take,qVp (f:=λx:R4=>AV.agg [.int .i64 x.2.2.1,.int .u64 (qBF .u64 x.2.1)]) (g:=λy:R4=>(y.2.2.1,y.2.1)) (λy hy=>by have:=hip y (List.mem_of_mem_take hy);simp only[AV.agg.injEq,cI,AV.int.injEq,true_and,and_true,w64u hxi,w64u this,Prod.mk.injEq])]at g23
 have next:HoRow F i x->∀{s2:Hq},Sub s30 s2->∃m',m'<F.H.length-i/\InvH F s20 [.int .i64 ((i:Int)+1)] s2 m':=λok {s2} k2=>by
  refine⟨_,by omega,i+1,rfl,by omega,rfl,kt.trans (k30.trans k2),λj z hj hz=>?_⟩
  by_cases e:j<i
  ·exact hall j z e hz
  ·have:j=i:=by omega
   subst this;rw[hx]at hz;cases hz;exact ok
 have hbad:∀{s2:Hq},¬HoRow F i x->Sub s30 s2->∀(e:Int) (p:ByteArray) (i:Int),e≠0->R (flV e p i) s2:=fun {s2} q k2 e p i he=>hR (λg=>q (g.row _ x hx)) e p i s2 he (kall.trans k2);have j7:∀(p r:AV) (bd:Bool),(oK (qAO p r (.bool false)) λv=>oK (qAO (.bool w1) (.bool true) v) λv=>v=.bool bd)->(bd=true->¬HoRow F i x)->(bd=false->HoRow F i x)->∀{s2:Hq},Sub s30 s2->qIR X0 (.int .i64 (i:Int)) (.int .i64 (i:Int)) (.bool w1) p r (InvH F s20) (F.H.length-i) K R s2:=λp r bd h h1 h2 {s2} k2=>by unfold qIR;obtain⟨z1,z2,h⟩:=qAj h;obtain⟨z3,z4,h⟩:=qAj h;rw[z2];simp only[qAB,z4,h];refine qA6 (λq=>?_) λq=>hbad (h1 q) k2 _ _ _ (by omega);simp only[qAU,qAB];rw[qAe (by omega) (by omega)];exact next (h2 q) k2
 have j6:∀(p q:AV) (bd:Bool),qAO p (.bool true) q=some (.bool bd)->(bd=true->¬HoRow F i x)->(bd=false->(x.2.2.1,x.1) ∉ ((F.H.take i).map λy=>(y.2.2.1,y.1))->(x.2.1≠0->(x.2.2.1,x.2.1) ∉ (F.H.take i).map λy=>(y.2.2.1,y.2.1))->HoRow F i x)->∀{s2:Hq},Sub s30 s2->qHt X0 ma ia (.int .i64 (i:Int)) (.ptr b28 0) (.int .i64 (i:Int)) p q (InvH F s20) (F.H.length-i) K R s2:=λp q bd h h1 h2 {s2} k2=>by
  unfold qHt;rw[h];simp only[qAB];refine qA6 (λq1=>?_) λq1=>hbad (h1 q1) k2 _ _ _ (by omega);have g12':=qS5 g12 k2;have g22':=qS5 g22 k2;rw[g11];simp only[qAB,g12'];refine qAJ (λq2=>?_) (λq2=>?_)
  ·subst q2
   refine qAA (a:=.bool true) rfl ?_;refine qA6 (λq=>by cases q) λq=>hbad (λg=>g.dm (g13.1 rfl)) k2 _ _ _ (by omega)
  ·subst q2
   have hdm:(x.2.2.1,x.1) ∉ ((F.H.take i).map λy=>(y.2.2.1,y.1)):=λz=>by cases g13.2 z
   simp only[qAG,zA,qAB,qAI (k2 _ _ h30),a1,qAZ,qAY,Bool.true_bne];refine qAJ (λq3=>?_) (λq3=>?_)
   ·rw[g21]
    simp only[qAB,g22',q3];have hne:x.2.1≠0:=by simpa using q3
    exact j7 _ _ w2 (by cases w2<;>exact qAA (a:=.bool _) rfl (qAA (a:=.bool _) rfl rfl)) (λq4 g=>g.di hne (g23.1 q4)) (λq4=>h2 q1 hdm λ_ z=>by rw[g23.2 z]at q4;cases q4) k2
   ·rw[q3]
    have he:x.2.1=0:=by simpa using q3
    exact j7 _ _ false (qAA (a:=.bool false) rfl (qAA (a:=.bool false) rfl rfl)) (λq4=>by cases q4) (λq4=>h2 q1 hdm λz=>absurd he z) k2
 have j5:∀(p q:AV) (bd:Bool),qAO p (.bool true) q=some (.bool bd)->(bd=true->¬HoRow F i x)->(bd=false->(∀d,F.B[x.2.2.1.toNat]?=some d->qKl d x.2.1=true)->(x.2.2.1,x.1) ∉ ((F.H.take i).map λy=>(y.2.2.1,y.1))->(x.2.1≠0->(x.2.2.1,x.2.1) ∉ (F.H.take i).map λy=>(y.2.2.1,y.2.1))->HoRow F i x)->(0<=x.2.2.1/\x.2.2.1<(F.B.length:Int))->∀{s2:Hq},Sub s30 s2->qH1 X0 (.ptr b3 0) ma ia (.int .i64 (i:Int)) (.ptr b28 0) (.int .i64 (i:Int)) p q (InvH F s20) (F.H.length-i) K R s2:=λp q bd h h1 h2 hr {s2} k2=>by
  unfold qH1;rw[h];simp only[qAB];refine qAJ (λq1=>?_) (λq1=>?_)
  ·exact j6 _ _ true (by rw[q1];rfl) (λ_=>h1 q1) (λq2=>by cases q2) k2
  ·have hb:x.2.2.1.toNat<F.B.length:=by omega
   have hd:F.B[x.2.2.1.toNat]?=some F.B[x.2.2.1.toNat]:=gE hb;generalize F.B[x.2.2.1.toNat]=d at hd;obtain⟨pb,po,f1,f2,_⟩:=(hL3.B.sub k2).get (i:=x.2.2.1.toNat) (r:=bgC d) (by rw[List.getElem?_map,hd];rfl);rw[show((x.2.2.1.toNat:Nat):Int)=x.2.2.1 by omega]at f1;simp only[qAG,zA,qAB,qAI (k2 _ _ h3),csG4,qAI (k2 _ _ h30),a2,f1,f2,a1];refine qRy X0_0 (λq3=>?_) λs94 k94=>?_
   ·have:=((hD.row _ d hd).s.2 q3).2.1
    omega
   ·simp only[qAa,qAB]
    exact j6 _ _ (!qKl d x.2.1) (by rw[q1];rfl) (λq2 g=>by rw[g.a.2 d hd]at q2;cases q2) (λq2=>h2 q1 λd' hd'=>by rw[hd]at hd';cases hd';simpa using q2) (k2.trans k94)
 have j4:∀(p q:AV) (ok:Bool),qAO p q (.bool false)=some (.bool ok)->(ok=true->¬HoRow F i x)->(ok=false->(x.1≠1577058561/\qEZ x.1=false)->(∀d,F.B[x.2.2.1.toNat]?=some d->qKl d x.2.1=true)->(x.2.2.1,x.1) ∉ ((F.H.take i).map λy=>(y.2.2.1,y.1))->(x.2.1≠0->(x.2.2.1,x.2.1) ∉ (F.H.take i).map λy=>(y.2.2.1,y.2.1))->HoRow F i x)->(0<=x.2.2.1/\x.2.2.1<(F.B.length:Int))->∀{s2:Hq},Sub s30 s2->qH6 X0 (.ptr b3 0) ma ia (.int .i64 (i:Int)) (.ptr b28 0) (.int .i64 (i:Int)) p q (InvH F s20) (F.H.length-i) K R s2:=λp q ok h h1 h2 hr {s2} k2=>by
  unfold qH6;rw[h];simp only[qAB];refine qA6 (λq1=>?_) λq1=>hbad (h1 q1) k2 _ _ _ (by omega);simp only[qAG,zA,qAB,qAI (k2 _ _ h30),a0];refine qYC X0_0 λr=>?_;refine qAA (a:=.int .i64 r) rfl (qAA (a:=.bool (qEZ x.1)) rfl ?_);simp only[qAB,qAI (k2 _ _ h30),a0,qAZ,qAY,Bool.false_bne];refine qAJ (λq2=>?_) (λq2=>?_)
  ·rw[q2]
   exact j5 _ _ true rfl (λ_ g=>g.a.1.1 (by simpa using q2)) (λq=>by cases q) hr k2
  ·rw[q2]
   exact j5 _ _ (qEZ x.1) rfl (λq3 g=>by rw[g.a.1.2]at q3;cases q3) (λq3=>h2 q1 ⟨by simpa using q2,q3⟩) hr k2
 have j3:∀(p q:AV) (bd:Bool),qAO p (.bool true) q=some (.bool bd)->(bd=true->¬HoRow F i x)->(bd=false->((0<=x.2.2.1/\x.2.2.1<(F.B.length:Int))/\(-1<=x.2.2.2/\x.2.2.2<=(F.S.length:Int)-1))/\((x.2.2.2≠-1->∀y,F.S[x.2.2.2.toNat]?=some y->x.2.2.1∈y.2)->(x.1≠1577058561/\qEZ x.1=false)->(∀d,F.B[x.2.2.1.toNat]?=some d->qKl d x.2.1=true)->(x.2.2.1,x.1) ∉ ((F.H.take i).map λy=>(y.2.2.1,y.1))->(x.2.1≠0->(x.2.2.1,x.2.1) ∉ (F.H.take i).map λy=>(y.2.2.1,y.2.1))->HoRow F i x))->∀{s2:Hq},Sub s30 s2->qIK X0 (.ptr b3 0) ma ia (.int .i64 (i:Int)) (.ptr b28 0) (.int .i64 (i:Int)) p q (InvH F s20) (F.H.length-i) K R s2:=λp q bd h h1 h2 {s2} k2=>by
  unfold qIK;rw[h];simp only[qAB];refine qA6 (λq1=>?_) λq1=>hbad (h1 q1) k2 _ _ _ (by omega);obtain⟨⟨r1,r2⟩,ok⟩:=h2 q1;simp only[qAG,zA,qAB,qAI (k2 _ _ h30),a3,qAZ,qAY,Bool.true_bne];refine qAJ (λq2=>?_) (λq2=>?_)
  ·have hne:x.2.2.2≠-1:=by simpa using q2
   have hb:x.2.2.2.toNat<F.S.length:=by omega
   have hy:F.S[x.2.2.2.toNat]?=some F.S[x.2.2.2.toNat]:=gE hb;have hym:F.S[x.2.2.2.toNat]∈F.S:=List.getElem_mem hb;generalize F.S[x.2.2.2.toNat]=y at hy hym;obtain⟨pb,po,l1,l2,f1,_,_,f4,_,f5⟩:=(hL3.S.sub k2).at hy;rw[show((x.2.2.2.toNat:Nat):Int)=x.2.2.2 by omega]at f1;simp only[qAG,qAB,qAI (k2 _ _ h3),csG5,f1,f4,a2];refine qKq X0_0 (hnn y hym).2 f5 ?_;simp only[qAa,qAB];rw[q2];exact j4 _ _ (!decide (x.2.2.1∈y.2)) rfl (λq3 g=>by have:=g.s hne y hy;simp[this]at q3) (λq3=>ok λ_ y' hy'=>by rw[hy]at hy';cases hy';simpa using q3) r1 k2
  ·rw[q2]
   have he:x.2.2.2=-1:=by simpa using q2
   exact j4 _ _ false rfl (λq3=>by cases q3) (λ_=>ok λz=>absurd he z) r1 k2
 have j2:∀(p q:AV) (bd:Bool),qAO p (.bool true) q=some (.bool bd)->(bd=true->¬HoRow F i x)->(bd=false->x.1≠0/\x.1<=281474976710655/\qPA x.1=false)->qIF X0 (.ptr b3 0) ma ia (.int .i64 (i:Int)) (.ptr b28 0) (.int .i64 (i:Int)) p q (InvH F s20) (F.H.length-i) K R s30:=λp q bd h h1 h2=>by
  unfold qIF;rw[h];simp only[qAB];refine qA6 (λq1=>?_) λq1=>hbad (h1 q1) (.refl _) _ _ _ (by omega);have gm:=h2 q1;simp only[qAG,zA,qAB,qAI h30,a2,qAI h3,csG4,lenB];refine qEw X0_0 ?_;simp only[qAa,qAB];refine qAJ (λq2=>?_) (λq2=>?_)
  ·exact j3 _ _ true (by rw[q2];rfl) (λ_ g=>by rw[qL6.2 g.r.1]at q2;cases q2) (λq3=>by cases q3) (.refl _)
  ·have hin:inB x.2.2.1 (F.B.length:Int)=true:=by simpa using q2
   simp only[qAB,qAI h30,a3,qAI h3,csG5,lenS,qAx];rw[qAe (by omega) (by omega)];refine qBw X0_0 ?_;exact j3 _ _ (outB x.2.2.2 (-1) ((F.S.length:Int)-1)) (by rw[q2];rfl) (λq3 g=>by have:=qAk.2 g.r.2;rw[this]at q3;cases q3) (λq3=>⟨⟨qL6.1 hin,qAk.1 q3⟩,λz1 z2 z3 z4 z5=>⟨gm,⟨qL6.1 hin,qAk.1 q3⟩,z1,⟨z2,z3⟩,z4,z5⟩⟩) (.refl _)
 have j1:∀(p q:AV) (bd:Bool),qAO p (.bool true) q=some (.bool bd)->(bd=true->¬HoRow F i x)->(bd=false->x.1≠0/\x.1<=281474976710655)->qIM X0 (.ptr b3 0) ma ia (.int .i64 (i:Int)) (.ptr b28 0) (.int .i64 (i:Int)) p q (InvH F s20) (F.H.length-i) K R s30:=λp q bd h h1 h2=>by
  unfold qIM;rw[h];simp only[qAB];refine qAJ (λq1=>?_) (λq1=>?_)
  ·exact j2 _ _ true (by rw[q1];rfl) (λ_=>h1 q1) (λq2=>by cases q2)
  ·simp only[qAG,zA,qAB,qAI h30,a0]
   refine qMl X0_0 ?_;exact j2 _ _ (qPA x.1) (by rw[q1];rfl) (λq2 g=>by rw[g.m.2.2]at q2;cases q2) (λq2=>⟨(h2 q1).1,(h2 q1).2,q2⟩)
 simp only[qAG,zA,qAB,qAI h30,a0,qAZ,qAY,Bool.false_bne];refine qAJ (λq1=>?_) (λq1=>?_)
 ·exact j1 _ _ true (by rw[q1];rfl) (λ_ g=>g.m.1 (by simpa using q1)) (λq2=>by cases q2)
 ·simp only[qAB,qAh]
  exact j1 _ _ (decide (281474976710655<x.1)) (by rw[q1];rfl) (λq2 g=>by have:=oT q2;have:=g.m.2.1;omega) (λq2=>⟨by simpa using q1,by have:=oF q2;omega⟩)
end Go.AM.TN
set_option maxRecDepth 100000
namespace Go.AM.TN
open Go Go.Proofs
variable {K R:AV→Hq→Prop} {s:Hq} {y k:AV} {b c:Nat} {F:FG} {v2 v3 v4 v5 v6 v7:AV} {t:Bool} {J:AV→Hq→Prop}
structure LeRow(F:FG)(i:Nat)(x:R4):Prop where
 r:(0<=x.1/\x.1<(F.T.length:Int))/\(0<=x.2.1/\x.2.1<(F.T.length:Int))
 p:x.1≠x.2.1/\qEB x.2.2.1 x.2.2.2=true
 d:x ∉ F.G.take i
structure LeaOk(F:FG):Prop where
 n:F.G.length<=256
 row:∀(i:Nat) x,F.G[i]?=some x->LeRow F i x
abbrev InvG(F:FG)(s16:Hq):List AV->Hq->Nat->Prop:=λys t m=>∃i:Nat,ys=[.int .i64 (i:Int)]/\i<=F.G.length/\m=F.G.length-i/\Sub s16 t/\∀(j:Nat) x,j<i->F.G[j]?=some x->LeRow F j x
theorem zAAQ(hn:F.G.length<=4294967296)(hc:s c=some (t,.cells 159 (csG F v2 v3 v4 v5 v6 v7)))(hL:FL s F v2 v3 v4 v5 v6 v7)(hK:Kok s (LeaOk F) K)(hR:Rbad s (LeaOk F) R):qAf TP X0 SS 126 [.ptr c 0] K R s:=by
 refine qS4 (qL4 rfl hc hL λb3 s5 h5 k5=>?_);have hL5:=(hL.sub k5).G;have hlen:qAN v7=some F.G.length:=by rw[hL5.len,lM]
 have lenT:qAN v3=some F.T.length:=by rw[hL.T.len,lM]
 simp only[qAG,zA,qAB,qAI h5,csG7,hlen,qAh];refine qA6 (λq=>?_) λq=>hR (λg=>by have:=oT q;have:=g.n;omega) _ _ _ s5 (by omega) k5;have hn256:F.G.length<=256:=by have:=oF q;omega
 simp only[qAI h5,csG7,qAB];refine zAEA X0_0 (rows:=F.G) (rowC:=ggC) (λ_=>rfl) (λ_=>rfl) (kf:=λx=>ggC x) zAEe (λx=>⟨_,rfl⟩) (λ_=>rfl) (λ_=>rfl) (λx s J=>zADB X0_0 x s J) hL5 (by omega) λs16 again k16 rep=>?_;have h16:=k16 _ _ h5;simp only[qAI h16,csG7,qAB,hlen];have hinj:∀x y:R4,(AV.agg (ggC x)=AV.agg (ggC y))↔x=y:=λx y=>by obtain⟨a,b,c,d⟩:=x;obtain⟨a',b',c',d'⟩:=y;simp[ggC]
 refine⟨InvG F s16,⟨_,0,rfl,by omega,rfl,.refl _,λj x hj=>by omega⟩,?_⟩;rintro f t m ⟨i,hy,hi,rfl,kt,hall⟩;simp only[cI,and_true]at hy;rw[hy];simp only[qN9,qAR,qAB];refine qAJ (λhlt=>?_) (λhge=>?_)
 rotate_left
 ·have hge:i=F.G.length:=by have:=oF hge;omega
  subst hge;exact hK ⟨hn256,λj x hx=>hall j x (gS hx).1 hx⟩ t (k5.trans (k16.trans kt))
 have hlt:i<F.G.length:=by have:=oT hlt;omega
 have hx:F.G[i]?=some F.G[i]:=gE hlt;generalize F.G[i]=x at hx;obtain⟨pb,po,e1,e2,_⟩:=(hL5.sub (k16.trans kt)).get (i:=i) (r:=ggC x) (by rw[List.getElem?_map,hx];rfl);rw[e1];simp only[qAB,e2];refine qAP λb24 s25 hb24 h25 u25=>qAW h25 rfl rfl rfl λs26 h26 u26=>?_;have k26:Sub t s26:=qAX (u25.sub hb24) u26 hb24;have h3:s26 b3=some (false,.cells 31 (csG F v2 v3 v4 v5 v6 v7)):=k26 _ _ (kt _ _ h16);have kall:Sub s s26:=k5.trans (k16.trans (kt.trans k26));have a0:(ggC x)[0]?=some (.int .i64 x.1):=rfl;have a1:(ggC x)[1]?=some (.int .i64 x.2.1):=rfl;have rx:∀{s2:Hq},Sub s26 s2->rdN s2 2 (.ptr b24 2)=some (pfC x.2.2.1 x.2.2.2):=fun {s2} q=>by simp only[rdN,q _ _ h26];rfl
 obtain⟨p1,w1,g1,g2,g3⟩:=(rep.sub (kt.trans k26)).at (j:=i) (k:=.agg (ggC x)) (by rw[List.getElem?_map,hx];rfl);rw[<- List.map_take,qDn (g:=λx=>x) hinj,List.map_id']at g3;have hbad:∀{s2:Hq},¬LeRow F i x->Sub s26 s2->∀(e:Int) (p:ByteArray) (i:Int),e≠0->R (flV e p i) s2:=fun {s2} q k2 e p i he=>hR (λg=>q (g.row _ x hx)) e p i s2 he (kall.trans k2);have j2:∀(p q:AV) (bd:Bool),qAO p (.bool true) q=some (.bool bd)->(bd=true->¬LeRow F i x)->(bd=false->x ∉ F.G.take i->LeRow F i x)->∀{s2:Hq},Sub s26 s2->qIJ X0 again (.int .i64 (i:Int)) (.int .i64 (i:Int)) p q (InvG F s16) (F.G.length-i) K R s2:=λp q bd h h1 h2 {s2} k2=>by
  unfold qIJ;rw[h];simp only[qAB];refine qA6 (λq1=>?_) λq1=>hbad (h1 q1) k2 _ _ _ (by omega);have g2':=qS5 g2 k2;rw[g1];simp only[qAB,g2'];refine qA6 (λq2=>?_) λq2=>hbad (λg=>g.d (g3.1 q2)) k2 _ _ _ (by omega);simp only[qAU,qAB];rw[qAe (by omega) (by omega)];refine⟨_,by omega,i+1,rfl,by omega,rfl,kt.trans (k26.trans k2),λj z hj hz=>?_⟩
  by_cases e:j<i
  ·exact hall j z e hz
  ·have:j=i:=by omega
   subst this;rw[hx]at hz;cases hz;exact h2 q1 λq3=>by rw[g3.2 q3]at q2;cases q2
 have j1:∀(p q:AV) (bd:Bool),qAO p (.bool true) q=some (.bool bd)->(bd=true->¬LeRow F i x)->(bd=false->(0<=x.1/\x.1<(F.T.length:Int))/\(0<=x.2.1/\x.2.1<(F.T.length:Int)))->qIU X0 again (.int .i64 (i:Int)) (.ptr b24 0) (.int .i64 (i:Int)) p q (InvG F s16) (F.G.length-i) K R s26:=λp q bd h h1 h2=>by
  unfold qIU;rw[h];simp only[qAB];refine qA6 (λq1=>?_) λq1=>hbad (h1 q1) (.refl _) _ _ _ (by omega);simp only[qAG,zA,qAB,qAI h26,a0,a1,qAZ,qAY,Bool.false_bne];refine qAJ (λq2=>?_) (λq2=>?_)
  ·exact j2 _ _ true (by rw[q2];rfl) (λ_ g=>g.p.1 (by simpa using q2)) (λq=>by cases q) (.refl _)
  ·rw[rx (.refl _)]
   simp only[qAB];refine qT6 X0_0 λs55 k55=>?_;simp only[qAa,qAB];exact j2 _ _ (!qEB x.2.2.1 x.2.2.2) (by rw[q2];rfl) (λq3 g=>by rw[g.p.2]at q3;cases q3) (λq3 z=>⟨h2 q1,⟨by simpa using q2,by simpa using q3⟩,z⟩) k55
 simp only[qAG,zA,qAB,qAI h26,a0,qAI h3,csG3,lenT];refine qEw X0_0 ?_;simp only[qAa,qAB];refine qAJ (λq1=>?_) (λq1=>?_)
 ·exact j1 _ _ true (by rw[q1];rfl) (λ_ g=>by rw[qL6.2 g.r.1]at q1;cases q1) (λq2=>by cases q2)
 ·have hin:inB x.1 (F.T.length:Int)=true:=by simpa using q1
  simp only[qAB,qAI h26,a1,qAI h3,csG3,lenT];refine qEw X0_0 ?_;simp only[qAa,qAB];exact j1 _ _ (!inB x.2.1 (F.T.length:Int)) (by rw[q1];rfl) (λq2 g=>by rw[qL6.2 g.r.2]at q2;cases q2) (λq2=>⟨qL6.1 hin,qL6.1 (by simpa using q2)⟩)
end Go.AM.TN
set_option maxRecDepth 100000
namespace Go.AM.TN
open Go Go.Proofs
variable {K R:AV→Hq→Prop} {s s':Hq} {b c:Nat} {cs:List AV} {Y:Td} {F:FG} {v2 v3 v4 v5 v6 v7:AV} {t:Bool} {J:AV→Hq→Prop}
structure Sz(F:FG):Prop where
 L:F.L.length<=4294967296
 T:F.T.length<=4294967296
 B:F.B.length<=4294967296
 S:F.S.length<=4294967296
 H:F.H.length<=4294967296
 G:F.G.length<=4294967296
 N:∀x∈F.S,x.1.length<=4294967296/\x.2.length<=4294967296
 I:∀x∈F.H,0<=x.2.1/\x.2.1<4294967296
def VS(F:FG):Nat->Prop
 | 0=>FabOk F
 | 1=>TimOk F
 | 2=>LinksOk F
 | 3=>TenOk F
 | 4=>DomOk F
 | 5=>SegOk F
 | 6=>HosOk F
 | 7=>LeaOk F
 |_=>True
def Valid(F:FG):Prop:=∀i,i<8->VS F i
theorem zACQ(z:Sz F){i:Nat}(hi:i<8)(hall:∀j,j<i->VS F j)(hc:s c=some (t,.cells 159 (csG F v2 v3 v4 v5 v6 v7)))(hL:FL s F v2 v3 v4 v5 v6 v7)(hK:Kok s (VS F i) K)(hR:Rbad s (VS F i) R):qAf TP X0 SS (119+i) [.ptr c 0] K R s:=by
 match i,hi with
 | 0,_=>exact qWa hc hL hK hR
 | 1,_=>exact qWw hc hK hR
 | 2,_=>exact qZj (hall 0 (by omega)) z.L hc hL hK hR
 | 3,_=>exact qVd z.T hc hL hK hR
 | 4,_=>exact qV9 (show TenOk F from hall 3 (by omega)).n z.B hc hL hK hR
 | 5,_=>exact qTA (hall 0 (by omega)) (show DomOk F from hall 4 (by omega)).n z.S z.N hc hL hK hR
 | 6,_=>exact qZP (hall 4 (by omega)) (show SegOk F from hall 5 (by omega)).n z.H z.N z.I hc hL hK hR
 | 7,_=>exact zAAQ z.G hc hL hK hR
 |n+8,h=>omega
theorem zAAO{cd:Code}{env:Env}:qT0 cd env=qNe cd env .nilIface:=by unfold qT0 qNe;cases qHV cd<;>rfl
theorem qTJ{t0 t1 t2:AV}(h:qCi X0 t0 t1 t2 .nilIface K s):zAAE TP X0 97 [t0,t1,t2] (λs=>K (.tup []) s) s:=
 qWI qKi nA0 Tryz.func97 (by kernel_rfl:Tryz.f97.body=some (qBs Tryz.f97)) (by kernel_rfl) (by kernel_rfl) (by kernel_rfl) (by rw[zAAO];exact(qFS X0 t0 t1 t2 .nilIface K s).mpr h)
theorem qYq{f:FuncId}{args:List AV}(h1:SS f=true)(h2:isFn TP f=true)(h:qAf TP X0 SS f args K R s):qUy TP X0 SS (.fn (.func f) [] []) args K R s:=by unfold qUy;simp only[h1,cond_true,List.nil_append,List.append_nil];exact⟨h2,h⟩
def chk:List AV:=[.fn (.func 119) [] [],.fn (.func 120) [] [],.fn (.func 121) [] [],.fn (.func 122) [] [],.fn (.func 123) [] [],.fn (.func 124) [] [],.fn (.func 125) [] [],.fn (.func 126) [] []]
theorem zACD{i:Nat}(h:i<8):chk[i]?=some (.fn (.func (119+i)) [] [])/\SS (119+i)=true/\isFn TP (119+i)=true:=by
 match i,h with
 | 0,_=>exact⟨rfl,rfl,by kernel_rfl⟩
 | 1,_=>exact⟨rfl,rfl,by kernel_rfl⟩
 | 2,_=>exact⟨rfl,rfl,by kernel_rfl⟩
 | 3,_=>exact⟨rfl,rfl,by kernel_rfl⟩
 | 4,_=>exact⟨rfl,rfl,by kernel_rfl⟩
 | 5,_=>exact⟨rfl,rfl,by kernel_rfl⟩
 | 6,_=>exact⟨rfl,rfl,by kernel_rfl⟩
 | 7,_=>exact⟨rfl,rfl,by kernel_rfl⟩
 |n+8,h=>omega
theorem qXq(hY:Fn0 Y)(hK:∀b s',s b=none->s' b=some (false,.cells 162 chk)->Sub s s'->K (.slc b 0 8 (some 8) 1) s'):wC TP Y 98 [] K s:=by refine qR9 hY.fr (hY.no _ rfl) ?_;unfold qRo;refine qAA (a:=chk) rfl ⟨rfl,qAP λb s2 hb h2 u2=>?_⟩;exact hK b s2 hb h2 (u2.sub hb)
theorem qXx{i:Nat}:∀(l:List (Hq×Hq)) {s:Hq},(∀p∈l,p.1 i=p.2 i)->cutH l s i=s i
 |[],_,_=>rfl
 | p::l,s,h=>by
   show cutH l _ i=_;rw[qXx l λq hq=>h q (mO _ hq)];show(if p.1 i=none/\p.2 i≠none then none else s i)=_;rw[if_neg];rintro ⟨h1,h2⟩;exact h2 (by rw[<- h p List.mem_cons_self];exact h1)
theorem zAB8(z:Sz F)(hF:FabR s cs F)(h1:Valid F->∀s',Sub s s'->K (.tup [.int .i64 0,.str ⟨#[]⟩,.int .i64 0]) s')(h2:¬Valid F->∀(e:Int) (p:ByteArray) (i:Int) s',e≠0->Sub s s'->K (.tup [.int .i64 e,.str p,.int .i64 i]) s'):qAf TP X0 SS 70 [.agg cs] K (λ_ _=>False) s:=by
 obtain⟨v2,v3,v4,v5,v6,v7,rfl,hL⟩:=hF;refine qKy ⟨hL.all,qAP λb0 s1 hb0 q0 u0=>qAP λb2 s3 hb2 q2 u2=>qAP λb4 s5 hb4 q4 u4=>qAP λb6 s7 hb6 q6 u6=>⟨by show isFn TP 97=true;kernel_rfl,?_⟩⟩;have q0:s1 b0=some (false,.cells 31 (csG F v2 v3 v4 v5 v6 v7)):=q0;have k1:=u0.sub hb0;have k3:=u2.sub hb2;have k5:=u4.sub hb4;have k7:=u6.sub hb6;have q0':=k7 _ _ (k5 _ _ (k3 _ _ q0));refine qAA (qAS q0' rfl) (qAA (a:=csG F v2 v3 v4 v5 v6 v7) rfl ⟨hL.all,qAP λb10 s11 hb10 q10 u10=>?_⟩);have q10:s11 b10=some (false,.cells 159 (csG F v2 v3 v4 v5 v6 v7)):=q10;have k11:=u10.sub hb10;refine qXq X0_0 λb12 s13 hb12 q12 k13=>qAA (a:=8) rfl ?_;have m2:s13 b2=some (false,.cells 132 [.int .i64 0]):=k13 _ _ (k11 _ _ (k7 _ _ (k5 _ _ q2)));have m4:s13 b4=some (false,.cells 9 [.str ⟨#[]⟩]):=k13 _ _ (k11 _ _ (k7 _ _ q4));have m6:s13 b6=some (false,.cells 3 [.int .i64 0]):=k13 _ _ (k11 _ _ q6);have m10:=k13 _ _ q10;have kk:Sub s s13:=k1.trans (k3.trans (k5.trans (k7.trans (k11.trans k13))));have n2:s b2=none:=by
  cases e:s b2 with
  |none=>rfl
  |some x=>rw[k1 _ _ e]at hb2;cases hb2
 have n4:s b4=none:=by
  cases e:s b4 with
  |none=>rfl
  |some x=>rw[k3 _ _ (k1 _ _ e)]at hb4;cases hb4
 have n6:s b6=none:=by
  cases e:s b6 with
  |none=>rfl
  |some x=>rw[k5 _ _ (k3 _ _ (k1 _ _ e))]at hb6;cases hb6
 have d24:b2≠b4:=λe=>by rw[<- e,q2]at hb4;cases hb4
 have d26:b2≠b6:=λe=>by rw[<- e,k5 _ _ q2]at hb6;cases hb6
 have d46:b4≠b6:=λe=>by rw[<- e,q4]at hb6;cases hb6
 have three:∀{J:AV->Hq->Prop}{s2:Hq}(e:Int) (p:ByteArray) (i:Int),Sub s13 s2->(∀s3,Sub s s3->s3 b2=some (false,.cells 132 [.int .i64 e])->s3 b4=some (false,.cells 9 [.str p])->s3 b6=some (false,.cells 3 [.int .i64 i])->J (.tup []) s3)->oK (wr1 s2 (.ptr b2 0) (.int .i64 e)) λs3=>oK (wr1 s3 (.ptr b4 0) (.str p)) λs4=>oK (wr1 s4 (.ptr b6 0) (.int .i64 i)) λs5=>J (.tup []) s5:=fun {J} {s2} e p i k2 h=>by refine qBW (k2 _ _ m2) (by simp) rfl λs3 h3 u3=>?_;refine qBW (by rw[u3 _ (Ne.symm d24)];exact k2 _ _ m4) (by simp) rfl λs4 h4 u4=>?_;refine qBW (by rw[u4 _ (Ne.symm d46),u3 _ (Ne.symm d26)];exact k2 _ _ m6) (by simp) rfl λs5 h5 u5=>?_;exact h s5 (qAX (qAX (qAX (kk.trans k2) u3 n2) u4 n4) u5 n6) (by rw[u5 _ d26,u4 _ d24];exact h3) (by rw[u5 _ d46];exact h4) h5
 refine⟨λys t m=>∃i:Nat,ys=[.int .i64 (i:Int)]/\i<=8/\m=8-i/\Sub s13 t/\∀j,j<i->VS F j,⟨_,0,rfl,by omega,rfl,.refl _,λj hj=>by omega⟩,?_⟩;rintro f t m ⟨i,hy,hi,rfl,kt,hall⟩;simp only[cI,and_true]at hy;rw[hy];simp only[qGV,qAR,qAB];refine qAJ (λhlt=>?_) (λhge=>?_)
 ·have hlt:i<8:=by have:=oT hlt;omega
  obtain⟨g1,g2,g3⟩:=zACD hlt;have e1:qAT 1 (.slc b12 0 8 (some 8) 1) (.int .i64 (i:Int))=some (.ptr b12 i):=by
   have:Nat.blt i 8=true:=by rw[Nat.blt_eq];exact hlt
   simp[qAT,this]
  rw[e1];simp only[qAB,qAI (kt _ _ q12),g1];refine qYq g2 g3 (zACQ z hlt hall (kt _ _ m10) (hL.sub (kk.trans kt)) (λhv s20 k20=>?_) (λhv e p x s23 he k23=>?_))
  ·simp only[qAU,qAB]
   rw[qAe (by omega) (by omega)];refine⟨_,by omega,i+1,rfl,by omega,rfl,kt.trans k20,λj hj=>?_⟩
   by_cases e:j<i
   ·exact hall j e
   ·have:j=i:=by omega
    rw[this];exact hv
  ·refine qJ4 (K:=λ_ s_24=>oK (rd1 s_24 (.ptr b2 0)) λerr2_25=>oK (rd1 s_24 (.ptr b4 0)) λpart3_26=>oK (rd1 s_24 (.ptr b6 0)) λindex4_27=>K (.tup [err2_25,part3_26,index4_27]) s_24) ?_
   unfold qCi flV;refine qAA (a:=.bool false) rfl ?_;simp only[qAK];refine qAA (a:=.tup [.agg [.int .i64 e,.str p,.int .i64 x],.bool true]) rfl (qAA (a:=.bool true) rfl (qAA (a:=.agg [.int .i64 e,.str p,.int .i64 x]) rfl ?_));simp only[];refine qAP λb4' s5' hb' h5' u5'=>qAW h5' rfl rfl rfl λs6 h6 u6=>?_;have k6:Sub t s6:=k23.trans (qAX (u5'.sub hb') u6 hb');have a0:[AV.int .i64 e,.str p,.int .i64 x][0]?=some (.int .i64 e):=rfl;have a1:[AV.int .i64 e,.str p,.int .i64 x][1]?=some (.str p):=rfl;have a2:[AV.int .i64 e,.str p,.int .i64 x][2]?=some (.int .i64 x):=rfl;simp only[qAG,zA,qAB,qAI h6,a0,a1,a2];have ne2:b2≠b4':=λe=>by rw[<- e,k23 _ _ (kt _ _ m2)]at hb';cases hb'
   have ne4:b4≠b4':=λe=>by rw[<- e,k23 _ _ (kt _ _ m4)]at hb';cases hb'
   have j2:s6 b2=_:=k6 _ _ (kt _ _ m2);have j4:s6 b4=_:=k6 _ _ (kt _ _ m4);have j6:s6 b6=_:=k6 _ _ (kt _ _ m6);refine⟨?_,?_⟩
   ·show cutH _ s6 b2≠none
    rw[qXx,j2]
    ·simp
    ·intro q hq
     simp only[List.mem_cons,List.not_mem_nil,or_false]at hq;rcases hq with rfl|rfl<;>exact qMI ne2
   refine qBW j2 (by simp) rfl λs3 h3 u3=>⟨?_,?_⟩
   ·show cutH _ s3 b4≠none
    rw[qXx,u3 _ (Ne.symm d24),j4]
    ·simp
    ·intro q hq
     simp only[List.mem_cons,List.not_mem_nil,or_false]at hq;rcases hq with rfl;exact qMI ne4
   refine qBW (by rw[u3 _ (Ne.symm d24)];exact j4) (by simp) rfl λs4 h4 u4=>?_;refine qBW (by rw[u4 _ (Ne.symm d46),u3 _ (Ne.symm d26)];exact j6) (by simp) rfl λs5 h5 u5=>?_;have z2:s5 b2=some (false,.cells 132 [.int .i64 e]):=by rw[u5 _ d26,u4 _ d24];exact h3
   have z4:s5 b4=some (false,.cells 9 [.str p]):=by rw[u5 _ d46];exact h4
   refine qAA (a:=.int .i64 e) (by rw[qAI z2];rfl) (qAA (a:=.str p) (by rw[qAI z4];rfl) (qAA (a:=.int .i64 x) (by rw[qAI h5];rfl) ?_));exact h2 (λg=>hv (g i hlt)) e p x s5 he (qAX (qAX (qAX (kk.trans (kt.trans k6)) u3 n2) u4 n4) u5 n6)
 ·have hge:i=8:=by have:=oF hge;omega
  subst hge;refine three (J:=λ_ s_30=>runK TP X0 (.fn (.func 97) [] [(.ptr b2 0),(.ptr b4 0),(.ptr b6 0)]) (λs_31=>oK (rd1 s_31 (.ptr b2 0)) λerr2_32=>oK (rd1 s_31 (.ptr b4 0)) λpart3_33=>oK (rd1 s_31 (.ptr b6 0)) λindex4_34=>K (.tup [err2_32,part3_33,index4_34]) s_31) s_30) 0 _ 0 kt λs3 k3 h2' h4' h6'=>?_;refine qTJ (K:=λ_ s_31=>oK (rd1 s_31 (.ptr b2 0)) λerr2_32=>oK (rd1 s_31 (.ptr b4 0)) λpart3_33=>oK (rd1 s_31 (.ptr b6 0)) λindex4_34=>K (.tup [err2_32,part3_33,index4_34]) s_31) ?_;unfold qCi;refine qAA (a:=.bool true) rfl ?_;simp only[qAK];refine qAA (a:=.int .i64 0) (by rw[qAI h2'];rfl) (qAA (a:=.str ⟨#[]⟩) (by rw[qAI h4'];rfl) (qAA (a:=.int .i64 0) (by rw[qAI h6'];rfl) ?_));exact h1 hall s3 k3
theorem qT9(z:Sz F)(hF:FabR s cs F)(h1:Valid F->∀s',Sub s s'->K (.tup [.int .i64 0,.str ⟨#[]⟩,.int .i64 0]) s')(h2:¬Valid F->∀(e:Int) (p:ByteArray) (i:Int) s',e≠0->Sub s s'->K (.tup [.int .i64 e,.str p,.int .i64 i]) s'):wC TP XX 70 [.agg cs] K s:=zADY rfl (zAB8 z hF h1 h2)
end Go.AM.TN
set_option maxRecDepth 100000
namespace Go.AM.TN
open Go Go.Proofs
def ni(l:List Nat):List Int:=l.map λ(n:Nat)=>(n:Int)
def tgN(i:Nat):Int×Int:=(100+(i:Int),900+(i:Int))
def bgN(i:Nat)(x:Bd):BG:=((x.1:Int),10+(i:Int),500+(i:Int),subN i x.2,lenN x.2,gwN i x.2)
def hgN(i:Nat)(x:Hst):R4:=(2199023951872+(i:Int),ipN i x,(x.1:Int),sgN x)
def ggN(x:Lkg):R4:=((x.1:Int),(x.2.1:Int),pfN x.2.2,plN x.2.2)
def NFab.toG(F:NFab):FG:=⟨F.x.lf,F.x.sp,F.x.el,F.x.hz,F.x.ro,F.x.su,F.x.tr,F.x.de,9,F.x.ag,20,5,30,F.L,(List.range F.n).map tgN,F.B.mapIdx bgN,F.S.map λx=>(ni x.1,ni x.2),F.H.mapIdx hgN,F.G.map ggN⟩
theorem qXF{α β:Type}{f:Nat->α->β}{l:List α}{i:Nat}{y:β}(h:(l.mapIdx f)[i]?=some y):∃x,l[i]?=some x/\y=f i x:=by
 rw[List.getElem?_mapIdx]at h;cases e:l[i]? with
 |none=>rw[e]at h;cases h
 |some x=>rw[e]at h;cases h;exact⟨x,rfl,rfl⟩
theorem NFok.sz{F:NFab}(h:NFok F):Sz F.toG:=by
 have:=h.Ln;have:=h.n;have:=h.Bn;have:=h.Sn;have:=h.Hn;have:=h.Gn;refine⟨by show F.L.length<=_;omega,by show((List.range F.n).map tgN).length<=_;simp;omega,by show(F.B.mapIdx bgN).length<=_;simp;omega,by show(F.S.map _).length<=_;rw[lM];omega,by show(F.H.mapIdx hgN).length<=_;simp;omega,by show(F.G.map ggN).length<=_;rw[lM];omega,λy hy=>?_,λy hy=>?_⟩
 ·have hy:y∈F.S.map λx=>(ni x.1,ni x.2):=hy
  obtain⟨x,hx,rfl⟩:=List.mem_map.1 hy;obtain⟨_,_,_,a4,_,_,_,a8⟩:=h.S x hx;unfold ni;simp only[lM];omega
 ·have hy:y∈F.H.mapIdx hgN:=hy
  obtain⟨i,hi⟩:=List.getElem?_of_mem hy;obtain⟨x,hx,rfl⟩:=qXF hi;have hi8:=(gS hx).1;obtain⟨⟨g,hg,hxg⟩,_⟩:=h.H x (mG hx);obtain⟨_,_,_,_,_,_,a7,_⟩:=h.S g (mG hg);have:=a7 x.1 hxg;show 0<=ipN i x/\ipN i x<4294967296;unfold ipN;split<;>omega
end Go.AM.TN
