/- Part E of the proof: see the last part. -/
import Derived.Test.YtfjeillpldnajaaGreatU2
import Derived.Test.YtfjeillpldnajaaGreatV2
import Derived.Test.YtfjeillpldnajaaGreatC
set_option linter.unusedVariables false
namespace Go.AM.SG
open Go Go.AM
theorem zAEu(n:Int):qBF .u64 n=n % 18446744073709551616:=by simp only[qBF];rw[qFr _ _ _ (by omega) (by omega)];split<;>omega
theorem zADu{n:Nat}(h:n<18446744073709551616):qBF .u64 (n:Int)=n:=by rw[zAEu,Int.emod_eq_of_lt (by omega) (by omega)]
theorem zAAv{a:Nat}(h:a<256):qDk .u64 (.int .u8 (a:Int))=some (.int .u64 (a:Int)):=by show some (AV.int .u64 (qBF .u64 (a:Int)))=_;rw[zADu (by omega)]
end Go.AM.SG
namespace Go.AM.SG
open Go Go.AM Go.Proofs
section
variable (P : Program)
def cFs(df:TypeId->AV->AV->Bool)(xs ys:List AV):List Field->Bool
 |[]=>true
 | f::fs=>cond (f.name == "_") (cFs df xs ys fs) (match qE3 P f.type xs f.offset,qE3 P f.type ys f.offset with
   |some x,some y=>df f.type x y&&cFs df xs ys fs
   |_,_=>false)
def cEls(df:TypeId->AV->AV->Bool)(elem:TypeId)(n:Nat)(xs ys:List AV):Nat->Nat->Bool
 | 0,_=>true
 | len+1,i=>match qE3 P elem xs (i*n),qE3 P elem ys (i*n)with
   |some x,some y=>df elem x y&&cEls df elem n xs ys len (i+1)
   |_,_=>false
def cDef:Nat->TypeId->AV->AV->Bool
 | 0,_,_,_=>false
 | d+1,t,x,y=>match P.underlying t,x,y with
   |some .bool,.bool _,.bool _=>true
   |some (.int _),.int k _,.int k' _=>qB6 k k'
   |some (.struct fields),.agg xs,.agg ys=>cond (P.stoodInHeld t) false (cFs P (cDef d) xs ys fields.toList)
   | some (.array len elem),.agg xs,.agg ys=>match sz P elem with
     |some n=>cEls P (cDef d) elem n xs ys len 0
     |none=>false
   |_,_,_=>false
variable {P}
theorem qW7{eq:TypeId->AV->AV->Option Bool}{df:TypeId->AV->AV->Bool}(h:∀t x y,df t x y=true->∃b,eq t x y=some b/\(x=y->b=true)){xs ys:List AV}:∀{fs:List Field},cFs P df xs ys fs=true->∃b,eqFields P eq xs ys fs=some b/\(xs=ys->b=true)
 |[],_=>⟨true,rfl,λ_=>rfl⟩
 | f::fs,q=>by
   unfold cFs at q;unfold eqFields;cases c:(f.name == "_")with
   |true=>rw[c]at q;exact qW7 h q
   | false=>
     rw[c]at q;simp only[cond_false]at q ⊢;cases e:qE3 P f.type xs f.offset with
     |none=>rw[e]at q;cases q
     | some x=>
       cases e2:qE3 P f.type ys f.offset with
       |none=>rw[e,e2]at q;cases q
       | some y=>
         rw[e,e2]at q;simp only[Bool.and_eq_true]at q;obtain⟨b,h1,h2⟩:=h _ _ _ q.1;simp only[h1];have hxy:xs=ys->x=y:=λw=>by subst w;rw[e]at e2;exact Option.some.inj e2
         cases b with
         |true=>exact qW7 h q.2
         |false=>exact⟨false,rfl,λw=>h2 (hxy w)⟩
theorem qYT{eq:TypeId->AV->AV->Option Bool}{df:TypeId->AV->AV->Bool}(h:∀t x y,df t x y=true->∃b,eq t x y=some b/\(x=y->b=true)){elem:TypeId}{n:Nat}{xs ys:List AV}:∀{len i:Nat},cEls P df elem n xs ys len i=true->∃b,qKe P eq elem n xs ys len i=some b/\(xs=ys->b=true)
 | 0,_,_=>⟨true,rfl,λ_=>rfl⟩
 | len+1,i,q=>by
   unfold cEls at q;unfold qKe;cases e:qE3 P elem xs (i*n)with
   |none=>rw[e]at q;cases q
   | some x=>
     cases e2:qE3 P elem ys (i*n)with
     |none=>rw[e,e2]at q;cases q
     | some y=>
       rw[e,e2]at q;simp only[Bool.and_eq_true]at q;obtain⟨b,h1,h2⟩:=h _ _ _ q.1;simp only[h1];have hxy:xs=ys->x=y:=λw=>by subst w;rw[e]at e2;exact Option.some.inj e2
       cases b with
       |true=>exact qYT h q.2
       |false=>exact⟨false,rfl,λw=>h2 (hxy w)⟩
theorem qS1:∀(d:Nat) (t:TypeId) (x y:AV),cDef P d t x y=true->∃b,aEq P d t x y=some b/\(x=y->b=true)
 | 0,_,_,_,h=>by cases h
 | d+1,t,x,y,h=>by
   unfold cDef at h;unfold aEq;split at h
   ·rename_i a b hu
    rw[hu];exact⟨_,rfl,λe=>by cases e;simp⟩
   ·rename_i k0 k a k' b hu
    rw[hu];simp only[h,cond_true];exact⟨_,rfl,λe=>by cases e;rw[qET];simp⟩
   ·rename_i fields xs ys hu
    rw[hu];simp only;cases c:P.stoodInHeld t with
    |true=>rw[c]at h;cases h
    | false=>
      rw[c]at h;simp only[cond_false]at h ⊢;obtain⟨b,h1,h2⟩:=qW7 (qS1 d) h;exact⟨b,h1,λe=>h2 (by cases e;rfl)⟩
   ·rename_i len elem xs ys hu
    rw[hu];simp only;cases c:sz P elem with
    |none=>rw[c]at h;cases h
    | some n=>
      rw[c]at h;simp only at h ⊢;obtain⟨b,h1,h2⟩:=qYT (qS1 d) h;exact⟨b,h1,λe=>h2 (by cases e;rfl)⟩
   ·cases h
theorem qW1{t:TypeId}{xs ys:List AV}(h:cDef P 30 t (.agg xs) (.agg ys)=true):∃b,qGP P t (.agg xs) (.agg ys)=some b/\(xs=ys->b=true):=by obtain⟨b,h1,h2⟩:=qS1 30 t _ _ h;exact⟨b,h1,λe=>h2 (by rw[e])⟩
theorem qWH{t:TypeId}{xs:List AV}(h:cDef P 30 t (.agg xs) (.agg xs)=true):qGP P t (.agg xs) (.agg xs)=some true:=by obtain⟨b,h1,h2⟩:=qW1 h;rw[h1,h2 rfl]
end
abbrev us(l:List Int):List AV:=l.map (AV.int .u32)
theorem qCL{s s':Hq}(k:Sub s s'){b:Nat}(h:s' b=none):s b=none:=by
 cases q:s b with
 |none=>rfl
 |some y=>rw[k _ _ q]at h;cases h
end Go.AM.SG
set_option maxRecDepth 100000
namespace Go.AM.FC
open Go Go.Proofs
variable {K:AV→Hq→Prop} {s s0:Hq} {v:AV} {l:List Int}
def xorW(x y:Int):Int:=qBF .u32 ((BitVec.ofInt (IntKind.bits .u32) x ^^^ BitVec.ofInt (IntKind.bits .u32) y).toNat:Nat)
theorem qPJ{x y:Int}:qAH .xor (.int .u32 x) (.int .u32 y)=some (.int .u32 (xorW x y)):=by simp[qAH,arith,qCN,xorW]
def hs1(h b:Int):Int:=IntKind.u32.wrap (xorW h (qBF .u32 b)*16777619)
def hsh:Int->List Int->Int
 |h,[]=>h
 |h,b::r=>hsh (hs1 h b) r
theorem zABn(h:Int):∀(a b:List Int),hsh h (a++b)=hsh (hsh h a) b:=by
 intro a
 induction a generalizing h with
 |nil=>intro b;rfl
 |cons x r ih=>intro b;exact ih (hs1 h x) b
theorem qUI{h:Int}{i:Nat}(hi:i<l.length):hsh h (l.take (i+1))=hs1 (hsh h (l.take i)) l[i]:=by rw[List.take_add_one,gE hi,zABn];rfl
theorem cvI{k k':IntKind}{n:Int}:qDk k (.int k' n)=some (.int k (qBF k n)):=rfl
def numB(v:Int):Nat->List Int
 | 0=>[]
 |n+1=>qBF .u8 (v.fdiv ((2^(8*n):Nat):Int))::numB v n
theorem qCq(v:Int):∀n,(numB v n).length=n
 | 0=>rfl
 |n+1=>by rw[numB,List.length_cons,qCq v n]
theorem zADC{v:Int}{m:Nat}(hm:m<=64):qGt .shr (.int .u64 v) (.int .i64 (m:Int))=some (.int .u64 (v.fdiv ((2^m:Nat):Int))):=by show frc (v.fdiv ((2^(min m (IntKind.bits .u64)):Nat):Int)) (λn=>some (AV.int .u64 n))=_;rw[qCN,Nat.min_eq_left (show m<=IntKind.bits .u64 from hm)]
abbrev b8(l:List Int):List AV:=l.map (AV.int .u8)
theorem qXu{elem:TypeId}{s0 s s':Hq}{l:List AV}(h:Acc elem s0 s v l)(hs:Sub s s'):Acc elem s0 s' v l:=by
 rcases h with h|⟨b,h0,rfl,h⟩
 ·exact .inl h
 ·exact .inr ⟨b,h0,rfl,hs _ _ h⟩
theorem qPx{elem:TypeId}:Acc elem s0 s .nilslc (b8 []):=.inl ⟨rfl,rfl⟩
theorem qWq{z:AV}{x:Int}{C:AV->Hq->Prop}(hz:z.one=true)(h:Acc 5 s0 s v (b8 l))(hs:Sub s0 s)(hl:l.length<=1000)(hK:∀v' s',Acc 5 s0 s' v' (b8 (l ++ [x]))->Sub s0 s'->C v' s'):
  oK (qBb (repl 1 [z]) [(0,1,.int .u8 x)]) λc=>qAd c=true/\newK 5 c (λb s'=>appK 5 1 v (.slc b 0 1 (some 1) 1) C s') s:=by
 refine qI4 hz rfl λb s1 hb h1 u1=>?_;have k1:=hs.trans (u1.sub hb);refine(qXu h (u1.sub hb)).app (m:=[.int .u8 x]) (Sl.mk h1 rfl (by simp)) (by simp) (by simp;omega) (λi hi=>?_) λv' s' a k=>?_
 ·cases e:s0 i with
  |none=>exact absurd e hi
  |some y=>rw[k1 _ _ e];simp
 ·refine hK v' s' (by rw[b8,List.map_append];exact a) λi e hi=>k i e (k1 i e hi) λb' hv=>?_
  rintro rfl;rcases h with⟨rfl,_⟩|⟨b2,h0,rfl,_⟩
  ·cases hv
  ·cases hv
   rw[h0]at hi;cases hi
theorem qMY{n:Int}{k:Nat}(hk:k<=8)(h:Acc 5 s0 s v (b8 l))(hs:Sub s0 s)(hl:l.length<=500)(hK:∀v' s',Acc 5 s0 s' v' (b8 (l++numB n k))->Sub s0 s'->K v' s'):wC TP XX 112 [v,.int .u64 n,.int .i64 (k:Int)] K s:=by
 refine qOP ?_;simp only[qMb,qAx,qAB];rw[qAe (by omega) (by omega)];refine⟨λys t m=>∃(w:AV) (l1:List Int) (j:Nat),ys=[w,.int .i64 ((j:Int)-1)]/\Acc 5 s0 t w (b8 l1)/\Sub s0 t/\j<=k/\m=j/\l1.length+j=l.length+k/\l++numB n k=l1++numB n j,⟨_,v,l,k,rfl,h,hs,by omega,rfl,rfl,rfl⟩,?_⟩;rintro f t m ⟨w,l1,j,hy,h1,k1,hj,rfl,he,hq⟩;simp only[cI,and_true]at hy;rw[hy.1,hy.2];simp only[qJY,qAo,qAB];refine qAJ (λhge=>?_) (λhlt=>?_)
 ·have hge:0<=(m:Int)-1:=oT hge
  obtain⟨j,rfl⟩:∃j,m=j+1:=⟨m-1,by omega⟩
  have e8:(8:Int)*(((j+1:Nat):Int)-1)=((8*j:Nat):Int):=by omega
  simp only[qLH,qAB];rw[qAe (by omega) (by omega),e8,zADC (by omega)];simp only[cvI,qAB];refine qWq rfl h1 k1 (by omega) λv' s' a q=>?_;simp only[qAx,qAB];rw[qAe (by omega) (by omega)];exact⟨j,by omega,_,_,j,by congr 3;omega,a,q,by omega,rfl,by simp;omega,by rw[hq,numB,List.append_assoc];rfl⟩
 ·have hlt:¬(0<=(m:Int)-1):=oF hlt
  have:m=0:=by omega
  subst this;refine hK _ _ ?_ k1;rw[hq];simpa [numB]using h1
theorem zABA{n:Int}{k:Nat}(hk:k<=8)(h:Acc 5 s0 s v (b8 l))(hs:Sub s0 s)(hl:l.length<=500)(hK:∀v' s',Acc 5 s0 s' v' (b8 (l++numB n k))->Sub s0 s'->K v' s'):wC TP XX 94 [v,.int .u64 n,.int .i64 (k:Int)] K s:=by
 refine qII ?_;simp only[qFP,qAx,qAB];rw[qAe (by omega) (by omega)];refine⟨λys t m=>∃(w:AV) (l1:List Int) (j:Nat),ys=[w,.int .i64 ((j:Int)-1)]/\Acc 5 s0 t w (b8 l1)/\Sub s0 t/\j<=k/\m=j/\l1.length+j=l.length+k/\l++numB n k=l1++numB n j,⟨_,v,l,k,rfl,h,hs,by omega,rfl,rfl,rfl⟩,?_⟩;rintro f t m ⟨w,l1,j,hy,h1,k1,hj,rfl,he,hq⟩;simp only[cI,and_true]at hy;rw[hy.1,hy.2];simp only[qD9,qAo,qAB];refine qAJ (λhge=>?_) (λhlt=>?_)
 ·have hge:0<=(m:Int)-1:=oT hge
  obtain⟨j,rfl⟩:∃j,m=j+1:=⟨m-1,by omega⟩
  have e8:(8:Int)*(((j+1:Nat):Int)-1)=((8*j:Nat):Int):=by omega
  simp only[qLH,qAB];rw[qAe (by omega) (by omega),e8,zADC (by omega)];simp only[cvI,qAB];refine qWq rfl h1 k1 (by omega) λv' s' a q=>?_;simp only[qAx,qAB];rw[qAe (by omega) (by omega)];exact⟨j,by omega,_,_,j,by congr 3;omega,a,q,by omega,rfl,by simp;omega,by rw[hq,numB,List.append_assoc];rfl⟩
 ·have hlt:¬(0<=(m:Int)-1):=oF hlt
  have:m=0:=by omega
  subst this;refine hK _ _ ?_ k1;rw[hq];simpa [numB]using h1
theorem zABy(h:Sl s v (b8 l))(hl:l.length<=1000)(hK:K (.int .u32 (hsh 2166136261 l)) s):wC TP XX 113 [v] K s:=by
 refine qHZ ?_;unfold qEx;have n1:qAN v=some l.length:=by rw[h.len,lM]
 simp only[n1,qAB];refine⟨λys t m=>∃i:Nat,ys=[.int .u32 (hsh 2166136261 (l.take i)),.int .i64 (i:Int)]/\t=s/\i<=l.length/\m=l.length-i,⟨_,0,rfl,rfl,by omega,rfl⟩,?_⟩;rintro f t m ⟨i,hy,rfl,hi,rfl⟩;simp only[cI,and_true]at hy;rw[hy.1,hy.2];simp only[qDv,qAR,qAB];refine qAJ (λhlt=>?_) (λhge=>?_)
 ·have hlt:i<l.length:=by have:=oT hlt;omega
  obtain⟨p,e1,e2⟩:=h.get (i:=i) (by rw[lM];exact hlt);rw[List.getElem?_map,gE hlt]at e2;simp only[e1,e2,Option.map_some,cvI,qPJ,qLH,qAU,qAB];rw[qAe (by omega) (by omega)];exact⟨_,by omega,i+1,by rw[qUI hlt];rfl,(by trivial),by omega,rfl⟩
 ·have hge:i=l.length:=by have:=oF hge;omega
  subst hge;rw[List.take_length];exact hK
theorem zACf(h:Sl s v (b8 l))(hl:l.length<=1000)(hK:K (.int .u32 (hsh 2166136261 l)) s):wC TP XX 95 [v] K s:=by
 refine qHh ?_;unfold qEu;have n1:qAN v=some l.length:=by rw[h.len,lM]
 refine⟨λys t m=>∃i:Nat,ys=[.int .u32 (hsh 2166136261 (l.take i)),.int .i64 (i:Int)]/\t=s/\i<=l.length/\m=l.length-i,⟨_,0,rfl,rfl,by omega,rfl⟩,?_⟩;rintro f t m ⟨i,hy,rfl,hi,rfl⟩;simp only[cI,and_true]at hy;rw[hy.1,hy.2];simp only[qDw,n1,qAR,qAB];refine qAJ (λhlt=>?_) (λhge=>?_)
 ·have hlt:i<l.length:=by have:=oT hlt;omega
  obtain⟨p,e1,e2⟩:=h.get (i:=i) (by rw[lM];exact hlt);rw[List.getElem?_map,gE hlt]at e2;simp only[e1,e2,Option.map_some,cvI,qPJ,qLH,qAU,qAB];rw[qAe (by omega) (by omega)];exact⟨_,by omega,i+1,by rw[qUI hlt];rfl,(by trivial),by omega,rfl⟩
 ·have hge:i=l.length:=by have:=oF hge;omega
  subst hge;rw[List.take_length];exact hK
end Go.AM.FC
set_option maxRecDepth 100000
namespace Go.AM.FC
open Go Go.Proofs Go.AM.TN
variable {K:AV→Hq→Prop} {s s' s0 U:Hq} {v:AV} {l:List Int}
theorem cut1(h:Sub s0 s):Sub s0 (cutH [(s,add s U)] (add s U)):=λi e hi=>qNI (h i e hi) (qCK (h i e hi))
structure Fr where
 src:Int
 dst:Int
 kind:Int
 a3:Int
 a4:Int
 a5:Int
 a6:Int
 a7:Int
 hs:Int
 hd:Int
 a10:Int
 pr:Int
 p1:Int
 p2:Int
 data:Int
def frC(x:Fr):List AV:=[.int .u64 x.src,.int .u64 x.dst,.int .i64 x.kind,.int .i64 x.a3,.int .u64 x.a4,.int .u32 x.a5,.int .u64 x.a6,.int .u32 x.a7,.int .u32 x.hs,.int .u32 x.hd,.int .i64 x.a10,.int .i64 x.pr,.int .i64 x.p1,.int .i64 x.p2,.int .u64 x.data]
def flwI(x:Fr):List Int:=numB (qBF .u64 x.hs) 4++numB (qBF .u64 x.hd) 4++numB (qBF .u64 x.pr) 1++numB (qBF .u64 x.p1) 2++numB (qBF .u64 x.p2) 2
def flwE(x:Fr):List Int:=numB x.src 6++numB x.dst 6++numB (qBF .u64 x.kind) 1
def flw(x:Fr):List Int:=if x.kind=2 then flwI x else flwE x
theorem qZc(x:Fr):(flwI x).length=13:=by simp only[flwI,lAp,qCq]
theorem qZ6(x:Fr):(flwE x).length=13:=by simp only[flwE,lAp,qCq]
def ent(x:Fr):Int:=IntKind.i64.wrap (49152+qBF .i64 ((hsh 2166136261 (flw x)).tmod 16384))
variable {x:Fr}
theorem qWQ{X:AV->Hq->Prop}(hf:Acc 5 s0 s v (b8 (flw x)))(hl:(flw x).length<=1000)(hX:X (.int .i64 (ent x)) s):qBa XX v X s:=by unfold qBa;refine zABy hf.sl hl ?_;simp only[qI8 (show(16384:Int)≠0 by decide),cvI,qAU,qAB];exact hX
theorem qTK(x:Fr):(flw x).length=13:=by unfold flw;split;exact qZc x;exact qZ6 x
theorem Entropy_in(hK:∀s',Sub s s'->K (.int .i64 (ent x)) s'):wC TP XX 88 [.agg (frC x)] K s:=by
 refine qKj ⟨rfl,qAP λb s1 hb h1 u1=>?_⟩;have k1:=u1.sub hb;have h1:s1 b=some (false,.cells 48 (frC x)):=h1;have r2:rd1 s1 (.ptr b 2)=some (.int .i64 x.kind):=by rw[qAI h1];rfl
 simp only[qAG,zA,qAB,r2,qAZ,qAY,Bool.false_bne];cases q:(x.kind == 2)with
 | true=>
   have q:x.kind=2:=eq_of_beq q;simp only[qAE];refine qAA (a:=[.int .u32 x.hs,.int .u32 x.hd,.int .i64 x.a10,.int .i64 x.pr,.int .i64 x.p1,.int .i64 x.p2]) (by simp only[rdN,h1];rfl) (qAP λc s13 hc h13 u13=>qAW h13 rfl rfl rfl λs14 h14 u14=>?_);have k14:Sub s1 s14:=qAX (u13.sub hc) u14 hc;have rd:∀{t:Hq},Sub s14 t->∀i,rd1 t (.ptr c i)=[AV.int .u32 x.hs,.int .u32 x.hd,.int .i64 x.a10,.int .i64 x.pr,.int .i64 x.p1,.int .i64 x.p2][i]?:=λk i=>qAI (k _ _ h14);have g:∀{t:Hq}{w:AV}{l:List Int},Acc 5 s14 t w (b8 l)->Sub s14 t->flw x=l->qBa XX w K t:=fun {t w l} a k e=>by subst e;exact qWQ a (by rw[qTK];omega) (hK _ (k1.trans (k14.trans k)))
   simp only[qAB,rd (.refl _),g0Y,cvI];refine qMY (k:=4) (by omega) qPx (.refl _) (by simp) λw4 s4 a4 k4=>?_;simp only[qAB,rd k4,g1Y,g0Y,cvI];refine qMY (k:=4) (by omega) a4 k4 (by simp[qCq]) λw5 s5 a5 k5=>?_;simp only[qAB,rd k5,g1Y,g0Y,cvI];refine qMY (k:=1) (by omega) a5 k5 (by simp[qCq]) λw6 s6 a6 k6=>?_;simp only[qAB,rd k6,g1Y,g0Y,cvI];refine qMY (k:=2) (by omega) a6 k6 (by simp[qCq]) λw7 s7 a7 k7=>?_;simp only[qAB,rd k7,g1Y,g0Y,cvI];refine qMY (k:=2) (by omega) a7 k7 (by simp[qCq]) λw8 s8 a8 k8=>?_;exact g a8 k8 (by unfold flw;rw[if_pos q];rfl)
 | false=>
   have q:¬x.kind=2:=by simpa using q
   simp only[qAD];have rd:∀{t:Hq},Sub s1 t->∀i,rd1 t (.ptr b i)=(frC x)[i]?:=λk i=>qAI (k _ _ h1);have g:∀{t:Hq}{w:AV}{l:List Int},Acc 5 s1 t w (b8 l)->Sub s1 t->flw x=l->qBa XX w K t:=fun {t w l} a k e=>by subst e;exact qWQ a (by rw[qTK];omega) (hK _ (k1.trans k))
   simp only[qAB,rd (.refl _),frC,g0Y];refine qMY (k:=6) (by omega) qPx (.refl _) (by simp) λw4 s4 a4 k4=>?_;simp only[qAB,rd k4,frC,g1Y,g0Y];refine qMY (k:=6) (by omega) a4 k4 (by simp[qCq]) λw5 s5 a5 k5=>?_;simp only[qAB,rd k5,frC,g1Y,g0Y,cvI];refine qMY (k:=1) (by omega) a5 k5 (by simp[qCq]) λw6 s6 a6 k6=>?_;exact g a6 k6 (by unfold flw;rw[if_neg q];rfl)
end Go.AM.FC
namespace Go.AM.OR
open Go.AM.TN
abbrev BCM:Int:=281474976710655
abbrev Lnd:=Int×Int×FC.Fr
structure Aq where
 F:FG
 W:WG
 ar:List Int
 hd:List Hd
 h:R4
 sg:Int
 x:FC.Fr
variable (A : Aq)
def bdA(F:FG)(i:Int):BG:=(F.B[i.toNat]?).getD (0,0,0,0,0,0)
def Aq.d:BG:=bdA A.F A.h.2.2.1
variable {A}
end Go.AM.OR
namespace Go.AM.OR
open Go.AM.TN
end Go.AM.OR
set_option maxRecDepth 100000
namespace Go.AM.OR
open Go Go.Proofs Go.AM.TN
variable {K:AV→Hq→Prop} {s s' H:Hq} {v:AV} {cs:List AV} {F:FG} {W:WG} {b c i k:Nat} {h l sg:Int} {tg:Bool} {R:AV→Prop} {x:AV}
abbrev bs(l:List Bool):List AV:=l.map AV.bool
def PtR(s:Hq)(v:AV)(P:List (List Bool)):Prop:=∃vs:List AV,Sl s v vs/\vs.length=P.length/\∀(i:Nat) q r,vs[i]?=some q->P[i]?=some r->Sl s q (bs r)
theorem PtR.sub{P:List (List Bool)}(h:PtR s v P)(k:Sub s s'):PtR s' v P:=by obtain⟨vs,h1,h2,h3⟩:=h;exact⟨vs,h1.sub k,h2,λi q r a c=>(h3 i q r a c).sub k⟩
theorem PtR.at{P:List (List Bool)}{r:List Bool}(h:PtR s v P)(hr:P[i]?=some r):∃p q,qAT 1 v (.int .i64 (i:Int))=some p/\rd1 s p=some q/\Sl s q (bs r):=by obtain⟨vs,h1,h2,h3⟩:=h;have hi:=(gS hr).1;obtain⟨p,e1,e2⟩:=h1.get (i:=i) (by omega);have hq:vs[i]?=some vs[i]:=gE (by omega);exact⟨p,vs[i],e1,e2.trans hq,h3 i _ r hq hr⟩
structure WL(s:Hq)(W:WG)(w1 w2 w3 w4:AV):Prop where
 nd:Sl s w1 (bs W.nd)
 lk:Sl s w2 (bs W.lk)
 pt:PtR s w3 W.pt
 wh:Sl s w4 (ix W.wh)
theorem WL.sub{w1 w2 w3 w4:AV}(h:WL s W w1 w2 w3 w4)(k:Sub s s'):WL s' W w1 w2 w3 w4:=⟨h.nd.sub k,h.lk.sub k,h.pt.sub k,h.wh.sub k⟩
def stC(F:FG)(v2 v3 v4 v5 v6 v7 w1 w2 w3 w4:AV):List AV:=csG F v2 v3 v4 v5 v6 v7 ++ [w1,w2,w3,w4]
def St(s:Hq)(b:Nat)(F:FG)(W:WG):Prop:=∃tg v2 v3 v4 v5 v6 v7 w1 w2 w3 w4,s b=some (tg,.cells 136 (stC F v2 v3 v4 v5 v6 v7 w1 w2 w3 w4))/\FL s F v2 v3 v4 v5 v6 v7/\WL s W w1 w2 w3 w4
theorem St.sub(h:St s b F W)(k:Sub s s'):St s' b F W:=by obtain⟨tg,v2,v3,v4,v5,v6,v7,w1,w2,w3,w4,h1,h2,h3⟩:=h;exact⟨tg,v2,v3,v4,v5,v6,v7,w1,w2,w3,w4,k _ _ h1,h2.sub k,h3.sub k⟩
theorem qKL(hb:s b=some (tg,.cells 136 cs))(hx:cs[k]?=some x)(hR:R x):oK (qAc (.ptr b 0)) λa=>oK (qAC 0 a) λa=>oK (qAC k a) λa=>oK (rd1 s a) R:=
 qAA (a:=.ptr b 0) rfl (qAA (a:=.ptr b 0) rfl (qAA (a:=.ptr b k) (by rw[qAG,zA]) (qAA (by rw[qAI hb];exact hx) hR)))
theorem qLW(hb:s b=some (tg,.cells 136 cs))(hx:cs[19+k]?=some x)(hR:R x):oK (qAc (.ptr b 0)) λa=>oK (qAC 19 a) λa=>oK (qAC k a) λa=>oK (rd1 s a) R:=
 qAA (a:=.ptr b 0) rfl (qAA (a:=.ptr b 19) rfl (qAA (a:=.ptr b (19+k)) (by rw[qAG]) (qAA (by rw[qAI hb];exact hx) hR)))
theorem qHW(h:0<=l):∃i:Nat,l=(i:Int):=⟨l.toNat,by omega⟩
theorem zAAr{bl:List Bool}(hi:i<bl.length):onB bl (i:Int)=bl[i]:=by rw[zABo,gE hi];rfl
theorem qX8{bl:List Bool}(h:l<0):onB bl l=false:=by unfold onB;rw[decide_eq_false (by omega)];rfl
theorem zAAz{bl:List Bool}(h0:0<=l)(h:(bl.length:Int)<=l):onB bl l=false:=by unfold onB;rw[List.getElem?_eq_none (by omega),Option.getD_none,Bool.and_false]
theorem qWA{bl:List Bool}(hs:Sl s v (bs bl))(hK:K (.bool (onB bl l)) s):wC TP XX 73 [v,.int .i64 l] K s:=by
 refine qNT ?_;unfold qMP;rw[qAo,qAB];have nl:qAN v=some bl.length:=by rw[hs.len];simp
 have fin:∀{t11:AV}{a:Bool},qAO (.bool a) t11 (.bool false)=some (.bool false)->onB bl l=false->qDE XX v (.int .i64 l) (.bool a) t11 K s:=fun {t11 a} e q=>by unfold qDE;refine qAA e ?_;rw[qAD];unfold qEI;refine qAA (a:=.bool false) rfl ?_;rw[<- q];exact hK
 cases c:decide (0<=l)with
 |false=>rw[qAD];exact fin rfl (qX8 (by have:=oF c;omega))
 | true=>
   have h0:=oT c;rw[qAE];refine qAA nl ?_;rw[qAR,qAB];cases d:decide (l<(bl.length:Int))with
   |false=>exact fin rfl (zAAz h0 (by have:=oF d;omega))
   | true=>
     have hl:=oT d;obtain⟨i,rfl⟩:=qHW h0;unfold qDE;refine qAA (a:=.bool true) rfl ?_;rw[qAE];have hi:i<bl.length:=by omega
     obtain⟨pp,g1,g2⟩:=hs.get (i:=i) (by simpa using hi);refine qAA g1 (qAA (a:=.bool bl[i]) (by rw[g2];simp[hi]) ?_);unfold qEI;refine qAA (a:=.bool bl[i]) rfl ?_;rw[<- zAAr hi];exact hK
theorem qUY{y:RLk}(hS:St s b F W)(hy:F.L[i]?=some y)(hK:∀s',Sub s s'->K (.bool (works F W i)) s'):wC TP XX 67 [.ptr b 0,.int .i64 (i:Int)] K s:=by
 obtain⟨tg,v2,v3,v4,v5,v6,v7,w1,w2,w3,w4,h1,h2,h3⟩:=hS;refine qHK (qKL h1 (x:=v2) rfl ?_);obtain⟨pb,po,e1,e2,e3⟩:=h2.L.get (i:=i) (r:=lkC y) (by rw[List.getElem?_map,hy];rfl);refine qAA e1 (qAA e2 (qAP λb6 s7 hb6 h7 u7=>qAW h7 rfl rfl rfl λs8 h8 u8=>?_));have k8:Sub s s8:=qAX (u7.sub hb6) u8 hb6;have h18:=k8 _ _ h1;have h38:=h3.sub k8;have h8:s8 b6=some (false,.cells 91 (lkC y)):=h8;have fin:=hK s8 k8;have ew:works F W i=(onB W.lk (i:Int)&&(onB W.nd y.1&&onB W.nd y.2.1)):=by unfold works;rw[hy]
 rw[ew]at fin;refine qLW h18 (x:=w2) rfl (qWA h38.lk ?_);have j1:∀{t31 t39:AV}{a:Bool},qAO t31 t39 (.bool false)=some (.bool a)->(onB W.lk (i:Int)&&(onB W.nd y.1&&onB W.nd y.2.1))=a->qBz XX t31 t39 K s8:=fun {t31 t39 a} e q=>by unfold qBz;refine qAA e ?_;rw[<- q];exact fin
 cases c1:onB W.lk (i:Int)with
 | false=>
   rw[qAD];unfold qBt;refine qAA (a:=.bool false) rfl ?_;rw[qAD];exact j1 rfl (by rw[c1];rfl)
 | true=>
   rw[qAE];refine qLW h18 (x:=w1) rfl (qAA (a:=.ptr b6 0) rfl (qAA (a:=.int .i64 y.1) (by rw[qAI h8];rfl) (qWA h38.nd ?_)));unfold qBt;refine qAA (a:=.bool (onB W.nd y.1)) rfl ?_;cases c2:onB W.nd y.1 with
   | false=>
     rw[qAD];exact j1 rfl (by rw[c1,c2];rfl)
   | true=>
     rw[qAE];refine qLW h18 (x:=w1) rfl (qAA (a:=.ptr b6 1) rfl (qAA (a:=.int .i64 y.2.1) (by rw[qAI h8];rfl) (qWA h38.nd ?_)));exact j1 (a:=onB W.nd y.2.1) rfl (by rw[c1,c2];rfl)
theorem qUq{P:List (List Bool)}(h:PtR s v P):qAN v=some P.length:=by obtain⟨vs,h1,h2,_⟩:=h;rw[h1.len,h2]
theorem zABH(hS:St s b F W)(hK:K (.bool (qLB W l sg)) s):wC TP XX 92 [.ptr b 0,.int .i64 l,.int .i64 sg] K s:=by
 obtain⟨tg,v2,v3,v4,v5,v6,v7,w1,w2,w3,w4,h1,h2,h3⟩:=hS;refine qIA ?_;unfold qFQ;rw[qAo,qAB];have fin:∀{t17:AV}{a:Bool},qAO (.bool a) t17 (.bool false)=some (.bool false)->qLB W l sg=false->qBT XX (.ptr b 0) (.int .i64 l) (.int .i64 sg) (.bool a) t17 K s:=fun {t17 a} e q=>by unfold qBT;refine qAA e ?_;rw[qAD];unfold qCB;refine qAA (a:=.bool false) rfl ?_;rw[<- q];exact hK
 cases c:decide (0<=l)with
 |false=>rw[qAD];exact fin rfl (by unfold qLB;rw[c];rfl)
 | true=>
   have h0:=oT c;obtain⟨i,rfl⟩:=qHW h0;rw[qAE];refine qLW h1 (x:=w3) rfl (qAA (qUq h3.pt) ?_);rw[qAR,qAB];cases d:decide ((i:Int)<(W.pt.length:Int))with
   | false=>
     refine fin rfl ?_;unfold qLB;have:(i:Int).toNat=i:=by omega
     rw[this,List.getElem?_eq_none (by have:=oF d;omega),Bool.and_false]
   | true=>
     have hi:i<W.pt.length:=by have:=oT d;omega
     have hr:W.pt[i]?=some W.pt[i]:=gE hi;obtain⟨pp,q,g1,g2,g3⟩:=h3.pt.at hr;unfold qBT;refine qAA (a:=.bool true) rfl ?_;rw[qAE];refine qLW h1 (x:=w3) rfl (qAA g1 (qAA g2 (qWA g3 ?_)));unfold qCB;refine qAA (a:=.bool (onB W.pt[i] sg)) rfl ?_;have e:qLB W (i:Int) sg=onB W.pt[i] sg:=by
      unfold qLB;have:(i:Int).toNat=i:=by omega
      rw[this,hr,c,Bool.true_and]
     rw[<- e];exact hK
theorem qQ8(hS:St s b F W)(hK:K (.bool (decide (0<=h)&&decide (h<(F.H.length:Int)))) s):wC TP XX 56 [.ptr b 0,.int .i64 h] K s:=by
 obtain⟨tg,v2,v3,v4,v5,v6,v7,w1,w2,w3,w4,h1,h2,h3⟩:=hS;refine qIT ?_;unfold qFR;rw[qAo,qAB];have nl:qAN v6=some F.H.length:=by rw[h2.H.len,lM]
 cases c:decide (0<=h)with
 | false=>
   rw[c,Bool.false_and]at hK;rw[qAD];unfold qCE;exact qAA (a:=.bool false) rfl hK
 | true=>
   rw[c,Bool.true_and]at hK;rw[qAE];refine qKL h1 (x:=v6) rfl (qAA nl ?_);rw[qAR,qAB];unfold qCE;exact qAA (a:=.bool _) rfl hK
def SmS(F:FG):Prop:=∀x∈F.S,x.1.length<=4294967296/\x.2.length<=4294967296
theorem zACt(hq:¬(0<=h/\h<(F.H.length:Int))):att F W h=none:=by
 unfold att;split
 ·rename_i h0
  rw[List.getElem?_eq_none (by omega)]
 ·rfl
theorem qTv(hz:SmS F)(hS:St s b F W)(hK:∀s',Sub s s'->K (.tup [.int .i64 ((att F W h).getD 0),.bool (att F W h).isSome]) s'):wC TP XX 40 [.ptr b 0,.int .i64 h] K s:=by
 have hS0:=hS;obtain⟨tg,v2,v3,v4,v5,v6,v7,w1,w2,w3,w4,h1,h2,h3⟩:=hS;refine qGG (qQ8 hS0 ?_);have none_:att F W h=none->K (.tup [.int .i64 0,.bool false]) s:=λe=>by have:=hK s (.refl _);rw[e]at this;exact this
 have j0n:∀{t19:AV}{a:Bool},qAO (.bool a) (.bool true) t19=some (.bool true)->att F W h=none->qA2 XX (.ptr b 0) (.int .i64 h) (.bool a) t19 K s:=fun {t19 a} e q=>by unfold qA2;refine qAA e ?_;rw[qAE];exact none_ q
 cases c:(decide (0<=h)&&decide (h<(F.H.length:Int)))with
 | false=>
   refine qAA (a:=.bool true) rfl ?_;rw[qAE];exact j0n rfl (zACt λq=>by rw[decide_eq_true q.1,decide_eq_true q.2]at c;cases c)
 | true=>
   rw[Bool.and_eq_true,decide_eq_true_eq,decide_eq_true_eq]at c;obtain⟨i,rfl⟩:=qHW c.1;have hi:i<F.H.length:=by omega
   have et:(i:Int).toNat=i:=by omega
   have hx:F.H[i]?=some F.H[i]:=gE hi;generalize F.H[i]=x at hx;refine qAA (a:=.bool false) rfl ?_;rw[qAD];refine qLW h1 (x:=w4) rfl (qAA h3.wh.len ?_);rw[qAm,qAo,qAB];cases d:decide ((W.wh.length:Int)<=(i:Int))with
   | true=>
     have hle:=oT d;refine j0n rfl ?_;unfold att;rw[if_pos c.1,et,hx,List.getElem?_eq_none (by omega)]
   | false=>
     have hlt:i<W.wh.length:=by have:=oF d;omega
     have hw:W.wh[i]?=some W.wh[i]:=gE hlt;obtain⟨pp,g1,g2⟩:=h3.wh.get (i:=i) (by rw[qAm];exact hlt);rw[qDU hlt]at g2;generalize W.wh[i]=sg at hw g2;unfold qA2;refine qAA (a:=.bool false) rfl ?_;rw[qAD];refine qLW h1 (x:=w4) rfl (qAA g1 (qAA g2 ?_));rw[qAR,qAB];have j1n:∀{t39:AV}{a:Bool},qAO (.bool a) (.bool true) t39=some (.bool true)->att F W (i:Int)=none->qA1 XX (.ptr b 0) (.int .i64 (i:Int)) (.int .i64 sg) (.bool a) t39 K s:=fun {t39 a} e q=>by unfold qA1;refine qAA e ?_;rw[qAE];exact none_ q
     have ea:att F W (i:Int)=if 0<=sg then(match F.S[sg.toNat]? with
       |some g=>if x.2.2.1∈g.2 then some sg else none
       |none=>none)else none:=by
      unfold att;rw[if_pos c.1,et,hx,hw];rfl
     cases e0:decide (sg<0)with
     | true=>
       rw[qAE];refine j1n rfl ?_;rw[ea,if_neg (by have:=oT e0;omega)]
     | false=>
       have h0:0<=sg:=by have:=oF e0;omega
       rw[if_pos h0]at ea;rw[qAD];refine qKL h1 (x:=v5) rfl (qAA h2.S.len ?_);rw[qAo,qAB];cases e1:decide ((F.S.length:Int)<=sg)with
       | true=>
         refine j1n rfl ?_;rw[ea,List.getElem?_eq_none (by have:=oT e1;omega)]
       | false=>
         obtain⟨j,rfl⟩:=qHW h0;have hj:j<F.S.length:=by have:=oF e1;omega
         have hg:F.S[j]?=some F.S[j]:=gE hj;generalize F.S[j]=g at hg;have ej:(j:Int).toNat=j:=by omega
         rw[ej,hg]at ea;simp only at ea;obtain⟨pb,po,l1,l2,a1,_,_,a4,_,a6⟩:=h2.S.at hg;obtain⟨hb,ho,b1,b2,b3⟩:=h2.H.get (i:=i) (r:=hgC x) (by rw[List.getElem?_map,hx];rfl);unfold qA1;refine qAA (a:=.bool false) rfl ?_;rw[qAD];refine qKL h1 (x:=v5) rfl (qAA a1 (qAA (a:=.ptr pb (po+1)) rfl (qAA a4 (qKL h1 (x:=v6) rfl (qAA b1 (qAA (a:=.ptr hb (ho+2)) rfl (qAA (a:=.int .i64 x.2.2.1) (by rw[b3 2 (by omega)];rfl) ?_)))))));refine qKq XX_0 (hz g (mG hg)).2 a6 ?_;rw[qAa,qAB];cases e2:decide (x.2.2.1∈g.2)with
         | true=>
           rw[if_pos (oT e2)]at ea;rw[Bool.not_true,qAD];have:=hK s (.refl _);rw[ea]at this;exact this
         | false=>
           rw[if_neg (oF e2)]at ea;rw[Bool.not_false,qAE];exact none_ ea
end Go.AM.OR
set_option maxRecDepth 100000
namespace Go.AM.OR
open Go Go.Proofs Go.AM.TN
variable {K:AV→Hq→Prop} {s s' t H:Hq} {v w fv:AV} {F:FG} {W:WG} {b c i k n m0 N:Nat} {h l sg a:Int} {tg:Bool} {R:AV→Prop} {Q:List Int}
theorem app1{elem:TypeId}{kd:IntKind}{L:List Int}{x:Int}{z:AV}{C:AV->Hq->Prop}(hz:z.one=true)(acc:Acc elem s t w (L.map (AV.int kd)))(ks:Sub s t)(hl:L.length<=100000)(hC:∀v' s',Acc elem s s' v' ((L ++ [x]).map (AV.int kd))->Sub s s'->C v' s'):
  oK (qBb (repl 1 [z]) [(0,1,.int kd x)]) λc=>qAd c=true/\newK elem c (λb s'=>appK elem 1 w (.slc b 0 1 (some 1) 1) C s') t:=by
 refine qI4 hz rfl λb s1 hb h1 u1=>?_;refine(acc.sub (u1.sub hb)).app2 (ks.trans (u1.sub hb)) (m:=[.int kd x]) (Sl.mk h1 rfl (by simp)) (by simp) (by simp;omega) λv' s' a kq=>hC v' s' ?_ kq;rw[List.map_append];exact a
theorem qLj{p:Int->Bool}{L:List Int}{j:Nat}{x:Int}(hx:L[j]?=some x):(L.take (j+1)).filter p=(L.take j).filter p++(if p x=true then[x]else[]):=by
 rw[List.take_add_one,hx,List.filter_append]
 congr 1
 cases h:p x<;>simp[h]
theorem qUg{p:Int->Bool}{L:List Int}:(L.filter p).length<=L.length:=List.length_filter_le _ _
theorem qL7(hz:SmS F)(h20:∀x∈F.S,x.1.length<=100000)(hS:St s b F W)(hK:∀v' s',Sub s s'->Sl s' v' (ix (mems F W sg))->K v' s'):wC TP XX 63 [.ptr b 0,.int .i64 sg] K s:=by
 have hS0:=hS;obtain⟨tg,v2,v3,v4,v5,v6,v7,w1,w2,w3,w4,h1,h2,h3⟩:=hS;refine qGT ?_;unfold qEM;rw[qAR,qAB];have j0n:∀{t18:AV}{a:Bool},qAO (.bool a) (.bool true) t18=some (.bool true)->mems F W sg=[]->qA8 XX (.ptr b 0) (.int .i64 sg) (.bool a) t18 K s:=fun {t18 a} e q=>by unfold qA8;refine qAA e ?_;rw[qAE];exact hK _ s (.refl _) (by rw[q];exact .inl ⟨rfl,rfl⟩)
 cases c:decide (sg<0)with
 | true=>
   rw[qAE];refine j0n rfl ?_;unfold mems;rw[if_neg (by have:=oT c;omega)]
 | false=>
   have h0:0<=sg:=by have:=oF c;omega
   obtain⟨j,rfl⟩:=qHW h0;have ej:(j:Int).toNat=j:=by omega
   rw[qAD];refine qKL h1 (x:=v5) rfl (qAA h2.S.len ?_);rw[qAo,qAB];cases d:decide ((F.S.length:Int)<=(j:Int))with
   | true=>
     refine j0n rfl ?_;unfold mems;rw[if_pos h0,ej,List.getElem?_eq_none (by have:=oT d;omega)]
   | false=>
     have hj:j<F.S.length:=by have:=oF d;omega
     have hg:F.S[j]?=some F.S[j]:=gE hj;generalize F.S[j]=g at hg;have em:mems F W (j:Int)=g.1.filter (memB W (j:Int)):=by unfold mems;rw[if_pos h0,ej,hg]
     have hgl:=h20 g (mG hg);rw[em]at hK;obtain⟨pb,po,l1,l2,a1,_,a3,_,a5,_⟩:=h2.S.at hg;unfold qA8;refine qAA (a:=.bool false) rfl ?_;rw[qAD];have nl:qAN l1=some g.1.length:=by rw[a5.len,qAm]
     refine qKL h1 (x:=v5) rfl (qAA a1 (qAA (a:=.ptr pb po) rfl (qAA a3 (qAA nl ?_))));refine⟨λys t m=>∃(k:Nat) (v:AV),ys=[v,.int .i64 (k:Int)]/\k<=g.1.length/\m=g.1.length-k/\Acc 3 s t v (ix ((g.1.take k).filter (memB W (j:Int))))/\Sub s t,⟨_,0,_,rfl,by omega,rfl,.inl ⟨rfl,rfl⟩,.refl _⟩,?_⟩;rintro f t m ⟨k,v,hy,hk,rfl,acc,kt⟩;simp only[cI,and_true]at hy;rw[hy.1,hy.2];clear hy;unfold qDV;rw[qAR,qAB];refine qAJ (λhlt=>?_) (λhge=>?_)
     rotate_left
     ·have hge:k=g.1.length:=by have:=oF hge;omega
      subst hge;rw[List.take_length]at acc;exact hK v t kt acc.sl
     have hlt:k<g.1.length:=by have:=oT hlt;omega
     have hx:g.1[k]?=some g.1[k]:=gE hlt;obtain⟨pp,g1,g2⟩:=(a5.sub kt).get (i:=k) (by rw[qAm];exact hlt);rw[qDU hlt]at g2;generalize g.1[k]=x at hx g2;have hsucc:=qLj (p:=memB W (j:Int)) hx;have hlen:((g.1.take k).filter (memB W (j:Int))).length<=100000:=by have h1:=qUg (p:=memB W (j:Int)) (L:=g.1.take k);rw[List.length_take]at h1;omega
     have j3:∀{v':AV}{t':Hq},Acc 3 s t' v' (ix ((g.1.take (k+1)).filter (memB W (j:Int))))->Sub s t'->qBX XX v' (.int .i64 (k:Int)) (λys t m=>∃(k:Nat) (v:AV),ys=[v,.int .i64 (k:Int)]/\k<=g.1.length/\m=g.1.length-k/\Acc 3 s t v (ix ((g.1.take k).filter (memB W (j:Int))))/\Sub s t) (g.1.length-k) K t':=fun {v' t'} a kk=>by unfold qBX;rw[qAU,qAB,qAe (by omega) (by omega)];exact⟨_,by omega,k+1,v',rfl,by omega,rfl,a,kk⟩
     have j2:∀{t41 t45:AV}{a:Bool},qAO t41 t45 (.bool false)=some (.bool a)->memB W (j:Int) x=a->qBY XX v (.int .i64 x) (.int .i64 (k:Int)) t41 t45 (λys t m=>∃(k:Nat) (v:AV),ys=[v,.int .i64 (k:Int)]/\k<=g.1.length/\m=g.1.length-k/\Acc 3 s t v (ix ((g.1.take k).filter (memB W (j:Int))))/\Sub s t) (g.1.length-k) K t:=fun {t41 t45 a} e q=>by
      unfold qBY;refine qAA e ?_;cases a with
      | true=>
        rw[if_pos q]at hsucc;rw[qAE];exact app1 rfl acc kt hlen λv' s' a' ks=>j3 (by rw[hsucc];exact a') ks
      | false=>
        rw[if_neg (by rw[q];simp),List.append_nil]at hsucc;rw[qAD];exact j3 (by rw[hsucc];exact acc) kt
     have h3t:=h3.sub kt;refine qAA g1 (qAA g2 (qLW (kt _ _ h1) (x:=w1) rfl (qWA h3t.nd ?_)));cases c2:onB W.nd x with
     | false=>
       rw[qAD];exact j2 rfl (by unfold memB;rw[c2];rfl)
     | true=>
       rw[qAE];refine zABH (hS0.sub kt) (j2 (a:=qLB W x (j:Int)) rfl ?_);unfold memB;rw[c2,Bool.true_and]
theorem qQt(hl:F.L.length<=100000)(hS:St s b F W)(hK:∀v' s',Sub s s'->Acc 3 s s' v' (ix (nbr F W a))->K v' s'):wC TP XX 75 [.ptr b 0,.int .i64 a] K s:=by
 have hS0:=hS;obtain⟨tg,v2,v3,v4,v5,v6,v7,w1,w2,w3,w4,h1,h2,h3⟩:=hS;have nl:qAN v2=some F.L.length:=by rw[h2.L.len,lM]
 refine qFL (qKL h1 (x:=v2) rfl (qAA nl ?_));refine⟨λys t m=>∃(k:Nat) (v:AV),ys=[v,.int .i64 (k:Int)]/\k<=F.L.length/\m=F.L.length-k/\Acc 3 s t v (ix (nbrN F W a k))/\Sub s t,⟨_,0,_,rfl,by omega,rfl,.inl ⟨rfl,rfl⟩,.refl _⟩,?_⟩;rintro f t m ⟨k,v,hy,hk,rfl,acc,kt⟩;simp only[cI,and_true]at hy;rw[hy.1,hy.2];clear hy;unfold qCz;rw[qAR,qAB];refine qAJ (λhlt=>?_) (λhge=>?_)
 rotate_left
 ·have hge:k=F.L.length:=by have:=oF hge;omega
  subst hge;exact hK v t kt acc
 have hlt:k<F.L.length:=by have:=oT hlt;omega
 have hx:F.L[k]?=some F.L[k]:=gE hlt;generalize F.L[k]=x at hx;obtain⟨pb,po,e1,e2,e3⟩:=(h2.L.sub kt).get (i:=k) (r:=lkC x) (by rw[List.getElem?_map,hx];rfl);refine qAA e1 (qAA e2 (qAP λb9 s10 hb9 h9 u9=>qAW h9 rfl rfl rfl λs11 h11 u11=>?_));have k11:Sub t s11:=qAX (u9.sub hb9) u11 hb9;have h11:s11 b9=some (false,.cells 91 (lkC x)):=h11;refine qUY (hS0.sub (kt.trans k11)) hx λs13 k13=>?_;have k13':=kt.trans (k11.trans k13);have h13:=k13 _ _ h11;have acc13:=acc.sub (k11.trans k13);have hlen:=qUH (F:=F) (W:=W) (n:=a) k;have hsucc:=qYG (F:=F) (W:=W) (n:=a) (k:=k);have ea:qRg F W a k=if works F W k then(if x.1=a then some x.2.1 else if x.2.1=a then some x.1 else none)else none:=by unfold qRg;rw[hx]
 rw[ea]at hsucc;have j1:∀{v':AV}{t':Hq},Acc 3 s t' v' (ix (nbrN F W a (k+1)))->Sub s t'->qAp XX v' (.int .i64 (k:Int)) (λys t m=>∃(k:Nat) (v:AV),ys=[v,.int .i64 (k:Int)]/\k<=F.L.length/\m=F.L.length-k/\Acc 3 s t v (ix (nbrN F W a k))/\Sub s t) (F.L.length-k) K t':=fun {v' t'} a' kk=>by unfold qAp;rw[qAU,qAB,qAe (by omega) (by omega)];exact⟨_,by omega,k+1,v',rfl,by omega,rfl,a',kk⟩
 rw[qAa,qAB];cases c:works F W k with
 | false=>
   rw[c]at hsucc;rw[Bool.not_false,qAE];exact j1 (by rw[hsucc];simpa using acc13) k13'
 | true=>
   rw[c]at hsucc;rw[Bool.not_true,qAD];refine qAA (a:=.ptr b9 0) rfl (qAA (a:=.int .i64 x.1) (by rw[qAI h13];rfl) ?_);simp only[qAZ,qAY,Bool.false_bne,qAB];refine qAJ (λq=>?_) (λq=>?_)
   ·have q:=eq_of_beq q
    rw[if_pos rfl,if_pos q]at hsucc;refine qAA (a:=.ptr b9 1) rfl (qAA (a:=.int .i64 x.2.1) (by rw[qAI h13];rfl) ?_);exact app1 rfl acc13 k13' (by omega) λv' s' a' ks=>j1 (by rw[hsucc];exact a') ks
   ·have q:¬x.1=a:=by simpa using q
    rw[if_pos rfl,if_neg q]at hsucc;refine qAA (a:=.ptr b9 1) rfl (qAA (a:=.int .i64 x.2.1) (by rw[qAI h13];rfl) ?_);simp only[qAZ,qAY,Bool.false_bne,qAB];refine qAJ (λq2=>?_) (λq2=>?_)
    ·have q2:=eq_of_beq q2
     rw[if_pos q2]at hsucc;refine qAA (a:=.ptr b9 0) rfl (qAA (a:=.int .i64 x.1) (by rw[qAI h13];rfl) ?_);exact app1 rfl acc13 k13' (by omega) λv' s' a' ks=>j1 (by rw[hsucc];exact a') ks
    ·have q2:¬x.2.1=a:=by simpa using q2
     rw[if_neg q2]at hsucc;exact j1 (by rw[hsucc];simpa using acc13) k13'
def gI:Nat->List Int->List AEnt
 |_,[]=>[]
 |i,x::l=>{ key:=.int .i64 x,val:=.bool true,born:=i }::gI (i+1) l
theorem zAAw:∀{l:List Int}{i:Nat}{y:Int},gI i (l ++ [y])=gI i l ++ [{ key:=.int .i64 y,val:=.bool true,born:=i+l.length }]
 |[],i,y=>rfl
 | x::l,i,y=>by
   show _::gI (i+1) (l ++ [y])=_::(gI (i+1) l++_);rw[zAAw,List.length_cons,show i+1+l.length=i+(l.length+1)by omega]
theorem ikey{a b:Int}:qOA (.int .i64) (.int .i64 a) (.int .i64 b)=some (decide (b=a)):=by
 show some (eqI a b)=_;rw[qET]
 congr 1
 rw[Bool.eq_iff_iff];simp only[beq_iff_eq,decide_eq_true_eq];exact⟨λh=>h.symm,λh=>h.symm⟩
theorem qTC{y:Int}:∀{l:List Int}{i j:Nat},(y∈l->∃p,qMC (.int .i64 y) (gI i l) j=some (some (p,.bool true)))/\(y ∉ l->qMC (.int .i64 y) (gI i l) j=some none)
 |[],_,_=>⟨λh=>(by cases h),λ_=>rfl⟩
 | x::l,i,j=>by
   have e:qMC (.int .i64 y) (gI i (x::l)) j=match (some (decide (x=y)):Option Bool)with
     |some true=>some (some (j,.bool true))
     |some false=>qMC (.int .i64 y) (gI (i+1) l) (j+1)
     |none=>none:=by
    rw[<- ikey];rfl
   rw[e];obtain⟨i1,i2⟩:=qTC (y:=y) (l:=l) (i:=i+1) (j:=j+1)
   by_cases h:x=y
   ·rw[decide_eq_true h]
    exact⟨λ_=>⟨j,rfl⟩,λq=>absurd (by rw[h];exact List.mem_cons_self) q⟩
   ·rw[decide_eq_false h]
    exact⟨λq=>i1 ((mC q).resolve_left λe=>h e.symm),λq=>i2 λe=>q (mO _ e)⟩
theorem qZV{y:Int}(hm:t m0=some (tg,.map (gI 0 Q) c)):∃r,getM t (.map m0) (.int .i64 y)=some r/\retM (.bool false) false r=.bool (decide (y∈Q)):=by
 obtain⟨i1,i2⟩:=qTC (y:=y) (l:=Q) (i:=0) (j:=0)
 by_cases h:y∈Q
 ·obtain⟨p,hp⟩:=i1 h
  refine⟨some (.bool true),?_,by rw[decide_eq_true h];rfl⟩;unfold getM;simp only[hm,hp]
 ·refine⟨none,?_,by rw[decide_eq_false h];rfl⟩
  unfold getM;simp only[hm,i2 h]
theorem qT8{y:Int}{R:Hq->Prop}(hm:t m0=some (false,.map (gI 0 Q) Q.length))(hy:y ∉ Q)(hR:∀s',s' m0=some (false,.map (gI 0 (Q ++ [y])) (Q ++ [y]).length)->Upto m0 t s'->R s'):oK (putM t (.map m0) (.int .i64 y) (.bool true)) R:=by refine qAA (a:=hset t m0 (false,.map (gI 0 (Q ++ [y])) (Q ++ [y]).length)) ?_ (hR _ (by simp[hset]) λi hi=>by simp[hset,hi]);unfold putM putE;simp only[hm,(qTC (y:=y) (l:=Q) (i:=0) (j:=0)).2 hy,zAAw,zA,lAp,List.length_singleton]
structure Bq(H t:Hq)(m0:Nat)(v:AV)(Q:List Int):Prop where
 sub:Sub H t
 mp:t m0=some (false,.map (gI 0 Q) Q.length)
 nm:H m0=none
 qe:∃b cap,v=.slc b 0 Q.length cap 1/\(cap=none∨cap=some Q.length)/\t b=some (false,.cells 3 (ix Q))/\H b=none
theorem Bq.sl(h:Bq H t m0 v Q):Sl t v (ix Q):=by
 obtain⟨b,cap,rfl,hc,hb,_⟩:=h.qe;refine Sl.mk hb qAm.symm λc e=>?_;rcases hc with rfl|rfl
 ·cases e
 ·cases e;rw[qAm];exact Nat.le_refl _
theorem Bq.grow{t':Hq}{L:List AV}(h:Bq H t m0 v Q)(k:Sub t t')(hw:Acc 3 t t' w L):∃H2,Bq H2 t' m0 v Q/\Sub H H2/\Sl H2 w L:=by
 obtain⟨b,cap,e,hc,hb,hH⟩:=h.qe;have off:∀{j:Nat}{x:Bool×Blk},t' j=some x->j≠m0->j≠b->(λi=>if i=m0∨i=b then none else t' i) j=some x:=fun {j x} hx n1 n2=>by show(if j=m0∨j=b then none else t' j)=_;rw[if_neg (by rintro (q|q);exact n1 q;exact n2 q)];exact hx
 refine⟨λi=>if i=m0∨i=b then none else t' i,⟨λi x hi=>?_,k _ _ h.mp,by simp,b,cap,e,hc,k _ _ hb,by simp⟩,λi x hi=>off (k _ _ (h.sub _ _ hi)) (λq=>by rw[q,h.nm]at hi;cases hi) (λq=>by rw[q,hH]at hi;cases hi),?_⟩
 ·have hi:(if i=m0∨i=b then none else t' i)=some x:=hi
  split at hi
  ·cases hi
  ·exact hi
 ·rcases hw with hw|⟨d,h0,e1,h1⟩
  ·exact .inl hw
  ·rw[e1]
   exact Sl.mk (off h1 (λq=>by rw[q,h.mp]at h0;cases h0) λq=>by rw[q,hb]at h0;cases h0) rfl (by simp)
theorem Bq.push{y:Int}{C:AV->Hq->Prop}(h:Bq H t m0 v Q)(hy:y ∉ Q)(hl:Q.length<=100000)(hC:∀v' t',Bq H t' m0 v' (Q ++ [y])->C v' t'):
  oK (putM t (.map m0) (.int .i64 y) (.bool true)) λs1=>oK (qBb (repl 1 [(.int .i64 0)]) [(0,1,.int .i64 y)]) λc=>qAd c=true/\newK 3 c (λb s2=>appK 3 1 v (.slc b 0 1 (some 1) 1) C s2) s1:=by
 obtain⟨b,cap,rfl,hc,hb,hH⟩:=h.qe;have nb:b≠m0:=λe=>by rw[e,h.mp]at hb;cases hb
 refine qT8 h.mp hy λs1 hm u1=>qI4 rfl rfl λd s2 hd h2 u2=>?_;have k2:=u2.sub hd;have hm2:=k2 _ _ hm;have hb2:s2 b=some (false,.cells 3 (ix Q)):=k2 _ _ (by rw[u1 b nb];exact hb);have hs2:Sub H s2:=λi x hi=>k2 _ _ (by rw[u1 i (λe=>by rw[e,h.nm]at hi;cases hi)];exact h.sub _ _ hi);have hyl:Sl s2 (.slc d 0 1 (some 1) 1) [AV.int .i64 y]:=Sl.mk h2 rfl (by simp);have hq:ix (Q ++ [y])=ix Q ++ [.int .i64 y]:=by unfold ix;rw[List.map_append];rfl
 rcases hc with rfl|rfl
 ·have acc:Acc 3 H s2 (.slc b 0 Q.length none 1) (ix Q):=.inr ⟨b,hH,by rw[qAm],hb2⟩
  refine acc.app (m:=[.int .i64 y]) hyl (by simp) (by rw[qAm];simp;omega) (λi hi=>?_) λv' s' a' kq=>hC v' s' ⟨λi x hi=>kq i x (hs2 _ _ hi) λb' e=>?_,kq m0 _ hm2 λb' e=>?_,h.nm,?_⟩
  ·cases e:H i with
   |none=>exact absurd e hi
   |some x=>rw[hs2 _ _ e];simp
  ·have e:=(AV.slc.inj e).1
   subst e;rintro rfl;rw[hH]at hi;cases hi
  ·have e:=(AV.slc.inj e).1
   subst e;exact Ne.symm nb
  ·rcases a' with⟨_,q⟩|⟨d',q0,q1,q2⟩
   ·exact absurd q (by simp)
   ·exact⟨d',none,by rw[q1,<- hq,qAm],.inl rfl,by rw[hq];exact q2,q0⟩
 ·have hsl:Sl s2 (.slc b 0 (ix Q).length (some Q.length) 1) (ix Q):=Sl.mk hb2 rfl λc e=>by cases e;rw[qAm];exact Nat.le_refl _
  have e0:(AV.slc b 0 Q.length (some Q.length) 1)=.slc b 0 (ix Q).length (some Q.length) 1:=by rw[qAm]
  rw[e0];refine qY1 hsl hyl (by simp) (by rw[qAm];simp) (by rw[qAm];simp;omega) λd' s' hd' h' u'=>hC _ s' ⟨hs2.trans (u'.sub hd'),(u'.sub hd') _ _ hm2,h.nm,d',none,?_,.inl rfl,by rw[hq];exact h',qCL hs2 hd'⟩;simp[qAm]
theorem qU5{nx:Int->List Int}(h0:0<=a)(h1:a<(N:Int))(hN:N<=10000)(hr:∀x,∀y∈nx x,0<=y/\y<(N:Int))(hnl:∀x,(nx x).length<=100000)
  (hp:∀(x:Int) (s1:Hq) (J:AV->Hq->Prop),Sub s s1->(∀v s',Sub s1 s'->Acc 3 s1 s' v (ix (nx x))->J v s')->funK TP XX fv [.int .i64 x] J s1)
  (hK:∀b cap s' Q,Sub s s'->s b=none->(cap=none∨cap=some Q.length)->s' b=some (false,.cells 3 (ix Q))->Bfs nx a N Q Q.length->K (.slc b 0 Q.length cap 1) s'):wC TP XX 74 [.int .i64 a,fv] K s:=by
 refine qG4 ?_;intro m0 hm0;have z0:(hset s m0 (false,.map [] 0)) m0=some (false,.map (gI 0 []) 0):=by simp[hset];rfl
 have u0:Upto m0 s (hset s m0 (false,.map [] 0)):=λi hi=>by simp[hset,hi]
 generalize hset s m0 (false,.map [] 0)=t0 at z0 u0;have k0:=u0.sub hm0;refine qT8 (Q:=[]) z0 (by simp) λs2 hm2 u2=>?_;have k2:Sub s s2:=qAX k0 u2 hm0;refine qI4 rfl rfl λb4 s5 hb4 h5 u5=>?_;have k5:=u5.sub hb4;have bq5:Bq s s5 m0 (.slc b4 0 1 (some 1) 1) [a]:=⟨k2.trans k5,k5 _ _ hm2,hm0,b4,some 1,rfl,.inr rfl,h5,qCL k2 hb4⟩
 refine⟨λys t m=>∃(i:Nat) (v:AV) (Q:List Int),ys=[v,.int .i64 (i:Int)]/\i<=Q.length/\m=N-i/\Bq s t m0 v Q/\Bfs nx a N Q i,⟨_,0,_,[a],rfl,by omega,rfl,bq5,Bfs.start h0 h1⟩,?_⟩;rintro f t m ⟨i,v,Q,hy,hi,rfl,bq,bf⟩;simp only[cI,and_true]at hy;rw[hy.1,hy.2];clear hy;have hQN:=bf.len;unfold qDe;refine qAA (by rw[bq.sl.len,qAm]) ?_;rw[qAR,qAB];refine qAJ (λhlt=>?_) (λhge=>?_)
 rotate_left
 ·have hge:i=Q.length:=by have:=oF hge;omega
  subst hge;obtain⟨b,cap,rfl,hc,hb,hH⟩:=bq.qe;exact hK b cap t Q bq.sub hH hc hb bf
 have hlt:i<Q.length:=by have:=oT hlt;omega
 obtain⟨pp,g1,g2⟩:=bq.sl.get (i:=i) (by rw[qAm];exact hlt);rw[qDU hlt]at g2;have hx:Q[i]?=some Q[i]:=gE hlt;generalize Q[i]=x at hx g2;refine qAA g1 (qAA g2 (hp x t _ bq.sub λnv s12 k12 hnv=>?_));have nl:qAN nv=some (nx x).length:=by rw[hnv.sl.len,qAm]
 have hnx:=hnl x;obtain⟨H2,bq2,kH,hsl⟩:=bq.grow k12 hnv;refine qAA nl ?_;refine⟨λys t m=>∃(k:Nat) (v:AV) (Q':List Int),ys=[v,.int .i64 (k:Int)]/\k<=(nx x).length/\m=(nx x).length-k/\Bq H2 t m0 v Q'/\Bfr nx a N Q Q' i x k,⟨_,0,_,Q,rfl,by omega,rfl,bq2,bf.enter hx⟩,?_⟩;rintro f1 t1 m1 ⟨k,v1,Q',hy,hk,rfl,bq1,br⟩;simp only[cI,and_true]at hy;rw[hy.1,hy.2];clear hy;have hQN':=br.b.len;unfold qDb;rw[qAR,qAB];refine qAJ (λhlk=>?_) (λhgk=>?_)
 rotate_left
 ·have hgk:(nx x).length<=k:=by have:=oF hgk;omega
  have bf':=br.leave hgk;have hlQ:=(gS br.at').1;rw[qAU,qAB,qAe (by omega) (by omega)];obtain⟨b,cap,e,hc,hb,hH⟩:=bq1.qe;exact⟨_,by omega,i+1,v1,Q',rfl,by omega,rfl,⟨kH.trans bq1.sub,bq1.mp,qCL kH bq1.nm,b,cap,e,hc,hb,qCL kH hH⟩,bf'⟩
 have hlk:k<(nx x).length:=by have:=oT hlk;omega
 obtain⟨pp1,q1,q2⟩:=(hsl.sub bq1.sub).get (i:=k) (by rw[qAm];exact hlk);rw[qDU hlk]at q2;have hyk:(nx x)[k]?=some (nx x)[k]:=gE hlk;generalize(nx x)[k]=y at hyk q2;obtain⟨r,r1,r2⟩:=qZV (y:=y) bq1.mp;have j2:∀{v':AV}{t':Hq}{Q'':List Int},Bq H2 t' m0 v' Q''->Bfr nx a N Q Q'' i x (k+1)->qBk XX v' (.int .i64 (k:Int)) (λys t m=>∃(k:Nat) (v:AV) (Q':List Int),ys=[v,.int .i64 (k:Int)]/\k<=(nx x).length/\m=(nx x).length-k/\Bq H2 t m0 v Q'/\Bfr nx a N Q Q' i x k) ((nx x).length-k) (λys t m=>∃(i:Nat) (v:AV) (Q:List Int),ys=[v,.int .i64 (i:Int)]/\i<=Q.length/\m=N-i/\Bq s t m0 v Q/\Bfs nx a N Q i) (N-i) K t':=fun {v' t' Q''} q q'=>by unfold qBk;rw[qAU,qAB,qAe (by omega) (by omega)];exact⟨_,by omega,k+1,v',Q'',rfl,by omega,rfl,q,q'⟩
 refine qAA q1 (qAA q2 (qAA r1 ?_));rw[r2,qAa,qAB]
 by_cases hm:y∈Q'
 ·rw[decide_eq_true hm,Bool.not_true,qAD]
  exact j2 bq1 (br.old hyk hm)
 ·rw[decide_eq_false hm,Bool.not_false,qAE]
  exact bq1.push hm (by omega) λv' t' q=>j2 q (br.new hyk (hr x y (mG hyk)) hm)
end Go.AM.OR
set_option maxRecDepth 100000
namespace Go.AM.OR
open Go Go.Proofs Go.AM.TN
variable {K:AV→Hq→Prop} {s s' s0 t H:Hq} {fv:AV} {b c i k n:Nat} {h l a:Int} {R:AV→Prop} {Q:List Int} {cap:Option Nat}
theorem ia1(h:i<n):qAT 1 (.slc b 0 n cap 1) (.int .i64 (i:Int))=some (.ptr b i):=by
 have:Nat.blt i n=true:=by rw[Nat.blt_eq];exact h
 simp[qAT,this]
theorem zAB9(hc:cap=none∨cap=some n)(h:i<=n):∃cap',qEU 1 (.slc b 0 n cap 1) (some (.int .i64 (i:Int))) none none=some (.slc b i (n-i) cap' 1):=by
 rcases hc with rfl|rfl
 ·exact⟨none,by simp[qEU,bound,bL h]⟩
 ·exact⟨some (n-i),by simp[qEU,bound,bL h]⟩
theorem zAEm(hc:cap=none∨cap=some n)(h:i<=n):∃cap',qEU 1 (.slc b 0 n cap 1) none (some (.int .i64 (i:Int))) none=some (.slc b 0 i cap' 1)/\∀c,cap'=some c->i<=c:=by
 rcases hc with rfl|rfl
 ·exact⟨none,by simp[qEU,bound,bL h],λc e=>by cases e⟩
 ·exact⟨some n,by simp[qEU,bound,bL h],λc e=>by cases e;exact h⟩
theorem qRs(z:AV)(hz:z.one=true):∀n,qAd (List.replicate n z)=true
 | 0=>rfl
 | n+1=>by
   rw[List.replicate_succ];simp[qAd,hz,qRs z hz n]
theorem qZv{cap':Option Nat}{R:Hq->Prop}{L:List AV}(hb:s b=some (false,.cells 3 L))(hi:i+n=L.length)(hR:∀s' T,s' b=some (false,.cells 3 (L.take i++T))->Upto b s s'->R s'):qUf [(.int .i64 0)] 1 (.slc b i n cap' 1) (λ_ s'=>R s') s:=by
 refine⟨rfl,?_⟩;cases n with
 | zero=>
   refine hR s [] ?_ λ_ _=>rfl;rw[hb,List.append_nil,List.take_of_length_le (by omega)]
 | succ n=>
   simp only[qLA];have hw:wrN s (.ptr b i) (List.replicate (n+1) (AV.int .i64 0))=some (hset s b (false,.cells 3 (qBG L i (List.replicate (n+1) (AV.int .i64 0))))):=by
    have e1:Nat.ble (i+(List.replicate (n+1) (AV.int .i64 0)).length) L.length=true:=by rw[Nat.ble_eq,List.length_replicate];omega
    simp only[wrN,hb,e1,qRs (.int .i64 0) rfl,Bool.and_self,cond_true]
   refine qAA hw (hR _ (List.replicate (n+1) (AV.int .i64 0)) ?_ λj hj=>by simp[hset,hj]);have e2:qBG L i (List.replicate (n+1) (AV.int .i64 0))=L.take i++List.replicate (n+1) (AV.int .i64 0):=by unfold qBG;rw[List.length_replicate,List.drop_eq_nil_of_le (by omega),List.append_nil]
   simp[hset,e2]
theorem zADX{p:Int->Bool}(hH:Sub H s)(hHb:H b=none)(hb:s b=some (false,.cells 3 (ix Q)))(hc:cap=none∨cap=some Q.length)(hl:Q.length<=100000)
  (hp:∀(x:Int) (s1:Hq) (J:AV->Hq->Prop),Sub H s1->(∀s',Sub s1 s'->J (.bool (p x)) s')->funK TP XX fv [.int .i64 x] J s1)
  (hK:∀cap' T s',(∀c,cap'=some c->(Q.filter λx=>!p x).length<=c)->Sub H s'->s' b=some (false,.cells 3 (ix (Q.filter λx=>!p x)++T))->K (.slc b 0 (Q.filter λx=>!p x).length cap' 1) s'):wC TP XX 76 [.slc b 0 Q.length cap 1,fv] K s:=by
 have hv:∀{t:Hq}{A:List Int},t b=some (false,.cells 3 (ix A))->A.length=Q.length->Sl t (.slc b 0 Q.length cap 1) (ix A):=fun {t A} h1 h2=>Sl.mk h1 (by rw[qAm,h2]) λc e=>by
  rcases hc with rfl|rfl
  ·cases e
  ·cases e;rw[qAm,h2];exact Nat.le_refl _
 refine qGD (qRV XX_0 (p:=p) (l:=Q) (by omega) (hv hb rfl) (λx s1 J k hJ=>hp x s1 J (hH.trans k) hJ) λs1 k1=>?_);have hb1:=k1 _ _ hb;cases hf:Q.findIdx? p with
 | none=>
   have e:fstI p Q=-1:=by unfold fstI;rw[hf]
   have ef:(Q.filter λx=>!p x)=Q:=List.filter_eq_self.2 λx hx=>by rw[List.findIdx?_eq_none_iff.1 hf x hx];rfl
   rw[e];refine qAA (a:=.bool true) rfl ?_;rw[qAE];rw[ef]at hK;exact hK cap [] s1 (λc e=>by rcases hc with rfl|rfl<;>cases e;exact Nat.le_refl _) (hH.trans k1) (by rw[List.append_nil];exact hb1)
 | some i0=>
   have e:fstI p Q=(i0:Int):=by unfold fstI;rw[hf]
   obtain⟨hi0,hp0,hlt0⟩:=List.findIdx?_eq_some_iff_getElem.1 hf;rw[e];simp only[qAZ,qAY,Bool.false_bne,qAB];rw[show((i0:Int) == -1)=false from beq_eq_false_iff_ne.2 (by omega),qAD];rw[qAU,qAB,qAe (by omega) (by omega)];have x0:Q[i0]?=some Q[i0]:=gE hi0;have s0:(Q.take (i0+1)).filter (λx=>!p x)=Q.take i0:=by rw[qLj x0,if_neg (by rw[hp0];simp),List.append_nil];refine List.filter_eq_self.2 λx hx=>?_;obtain⟨j,hj,rfl⟩:=List.mem_iff_getElem.1 hx;rw[List.length_take]at hj;rw[List.getElem_take];have:=hlt0 j (by omega);simpa using this
   refine⟨λys t m=>∃(i j:Nat) (A:List Int),ys=[.int .i64 (i:Int),.int .i64 (j:Int)]/\j<=Q.length/\m=Q.length-j/\Sub H t/\t b=some (false,.cells 3 (ix A))/\A.length=Q.length/\A.take i=(Q.take j).filter (λx=>!p x)/\i<j/\A.drop j=Q.drop j,⟨_,i0,i0+1,Q,rfl,by omega,rfl,hH.trans k1,hb1,rfl,s0.symm,by omega,rfl⟩,?_⟩;rintro f t m ⟨i,j,A,hy,hj,rfl,kt,tb,hA,htk,hij,hdr⟩;simp only[cI,and_true]at hy;rw[hy.1,hy.2];clear hy;unfold qDD;refine qAA (a:=Q.length) rfl ?_;rw[qAR,qAB];refine qAJ (λhlt=>?_) (λhge=>?_)
   rotate_left
   ·have hge:j=Q.length:=by have:=oF hge;omega
    subst hge;rw[List.take_length]at htk;obtain⟨cf,ef⟩:=zAB9 (b:=b) hc (i:=i) (by omega);obtain⟨ct,et,hct⟩:=zAEm (b:=b) hc (i:=i) (by omega);have hlen:i=(Q.filter λx=>!p x).length:=by rw[<- htk,List.length_take,hA];omega
    refine qAA ef (qZv tb (by rw[qAm,hA];omega) λs18 T h18 u18=>qAA et ?_);have e18:(ix A).take i=ix (Q.filter λx=>!p x):=by rw[<- htk];unfold ix;rw[List.map_take]
    rw[e18]at h18;have:=hK ct T s18 (λc e=>by rw[<- hlen];exact hct c e) (λq x hq=>by rw[u18 q (λe=>by rw[e,hHb]at hq;cases hq)];exact kt _ _ hq) h18;rw[<- hlen]at this;exact this
   have hlt:j<Q.length:=by have:=oT hlt;omega
   have hx:Q[j]?=some Q[j]:=gE hlt;have hAj:A[j]?=some Q[j]:=by
    have e1:(A.drop j)[0]?=(Q.drop j)[0]?:=by rw[hdr]
    rw[List.getElem?_drop,List.getElem?_drop]at e1;rw[<- hx];exact e1
   generalize Q[j]=x at hx hAj;have hixj:(ix A)[j]?=some (.int .i64 x):=by unfold ix;rw[List.getElem?_map,hAj];rfl
   refine qAA (ia1 hlt) (qAA (a:=.int .i64 x) (by rw[qAI tb];exact hixj) (hp x t _ kt λs10 k10=>?_));have tb10:=k10 _ _ tb;have hsucc:=qLj (p:=λx=>!p x) hx;have j1:∀{i':Nat}{t':Hq}{A':List Int},Sub H t'->t' b=some (false,.cells 3 (ix A'))->A'.length=Q.length->A'.take i'=(Q.take (j+1)).filter (λx=>!p x)->i'<j+1->A'.drop (j+1)=Q.drop (j+1)->qBQ XX (.int .i64 (i':Int)) (.int .i64 (j:Int)) (λys t m=>∃(i j:Nat) (A:List Int),ys=[.int .i64 (i:Int),.int .i64 (j:Int)]/\j<=Q.length/\m=Q.length-j/\Sub H t/\t b=some (false,.cells 3 (ix A))/\A.length=Q.length/\A.take i=(Q.take j).filter (λx=>!p x)/\i<j/\A.drop j=Q.drop j) (Q.length-j) K t':=fun {i' t' A'} a1 a2 a3 a4 a5 a6=>by unfold qBQ;rw[qAU,qAB,qAe (by omega) (by omega)];exact⟨_,by omega,i',j+1,A',rfl,by omega,rfl,a1,a2,a3,a4,a5,a6⟩
   have hd1:A.drop (j+1)=Q.drop (j+1):=by rw[<- List.drop_drop,<- List.drop_drop,hdr]
   rw[qAa,qAB];cases cp:p x with
   | true=>
     rw[cp]at hsucc;rw[Bool.not_true,qAD];exact j1 (kt.trans k10) tb10 hA (by rw[hsucc,htk];simp) (by omega) hd1
   | false=>
     rw[cp]at hsucc;rw[Bool.not_false,qAE];refine qAA (ia1 (by omega)) (qBW tb10 (by rw[qAm];omega) rfl λs14 h14 u14=>?_);have h14:s14 b=some (false,.cells 3 (ix (A.set i x))):=by rw[h14];unfold ix;rw[List.map_set]
     rw[qAU,qAB,qAe (by omega) (by omega)];refine j1 (i':=i+1) (A':=A.set i x) (λq y hq=>by rw[u14 q (λe=>by rw[e,hHb]at hq;cases hq)];exact(kt.trans k10) _ _ hq) h14 (by rw[List.length_set,hA]) ?_ (by omega) ?_
     ·rw[hsucc,List.take_add_one,List.getElem?_set_self (by omega),List.take_set,List.set_eq_of_length_le (by rw[List.length_take];omega),htk]
      rfl
     ·rw[List.drop_set,if_pos (by omega)]
      exact hd1
theorem qYK{l:List Int}{y:Int}:y∈qD6 l↔y∈l:=(qEf l).mem_iff
end Go.AM.OR
set_option maxRecDepth 100000
namespace Go.AM.OR
open Go Go.Proofs Go.AM.TN
variable {K:AV→Hq→Prop} {s s':Hq} {v:AV} {cs:List AV} {b c k n:Nat} {tg:Bool} {x:FC.Fr}
abbrev MXM:Int:=281474976710655
def prtB(n:Int):Bool:=(n == 6)||(n == 17)
def ckA(x:FC.Fr):Int:=if(decide (x.a3<1)||(decide (2<x.a3)||(decide (MXM<x.a4)||decide (MXM<x.a6))))=true then 2 else 0
def ckI(x:FC.Fr):Int:=if(decide (x.a10<0)||(decide (255<x.a10)||(decide (x.pr<0)||(decide (255<x.pr)||(decide (x.p1<0)||(decide (65535<x.p1)||(decide (x.p2<0)||decide (65535<x.p2))))))))=true then 2 else if(!prtB x.pr&&(x.p1 != 0||x.p2 != 0))=true then 3 else 0
def arC(x:FC.Fr):List AV:=[.int .i64 x.a3,.int .u64 x.a4,.int .u32 x.a5,.int .u64 x.a6,.int .u32 x.a7]
def ipC(x:FC.Fr):List AV:=[.int .u32 x.hs,.int .u32 x.hd,.int .i64 x.a10,.int .i64 x.pr,.int .i64 x.p1,.int .i64 x.p2]
def ar0(x:FC.Fr):Bool:=(x.a3 == 0)&&((x.a4 == 0)&&((x.a5 == 0)&&((x.a6 == 0)&&(x.a7 == 0))))
def ip0(x:FC.Fr):Bool:=(x.hs == 0)&&((x.hd == 0)&&((x.a10 == 0)&&((x.pr == 0)&&((x.p1 == 0)&&(x.p2 == 0)))))
def ckE(x:FC.Fr):Int:=if(decide (MXM<x.src)||decide (MXM<x.dst))=true then 2 else if qPA x.src=true then 3 else if(x.kind != 0&&(x.kind != 1&&x.kind != 2))=true then 6 else
 if((x.kind != 1&&!ar0 x)||(x.kind != 2&&!ip0 x))=true then 3 else if(x.kind == 1)=true then ckA x else if(x.kind == 2)=true then ckI x else 0
theorem boxN{elem:TypeId}{cs:List AV}(ho:qAd cs=true)(h:∀b s',s b=none->s' b=some (false,.cells elem cs)->Upto b s s'->K (.ptr b 0) s'):boxK elem (.agg cs) K s:=by refine⟨by simpa using ho,?_⟩;rw[qHc];exact qAP h
theorem qT7{b j k:Nat}{e:TypeId}{cs:List AV}(h:s b=some (tg,.cells e cs))(hj:j+k<=cs.length):rdN s k (.ptr b j)=some ((cs.drop j).take k):=by have e0:Nat.ble (j+k) cs.length=true:=bL hj;simp only[rdN,h,qGe,e0,cond_true]
theorem qWR{p:Int}(hK:K (.bool (prtB p)) s):wC TP XX 127 [.int .i64 p] K s:=by
 refine qKa ?_;unfold qIc prtB at *;simp only[qAZ,qAY,Bool.false_bne,qAB];cases c:(p == 6)with
 | true=>
   rw[c]at hK;rw[qAE];unfold qCu;exact qAA (a:=.bool true) rfl hK
 | false=>
   rw[c,Bool.false_or]at hK;rw[qAD];unfold qCu;exact qAA (a:=.bool _) rfl hK
theorem qTr(hK:∀s',Sub s s'->K (.int .i64 (ckA x)) s'):wC TP XX 99 [.agg (arC x)] K s:=by
 refine qI1 (boxN rfl λb s1 hb h1 u1=>?_);have fin:=hK s1 (u1.sub hb);unfold ckA at fin;have r:∀{j:Nat}{y:AV}{R:AV->Prop},(arC x)[j]?=some y->R y->oK (qAC j (.ptr b 0)) λv=>oK (rd1 s1 v) R:=fun {j y R} e h=>qAA (a:=.ptr b j) (by rw[qAG,zA]) (qAA (by rw[qAI h1];exact e) h);have T2:∀{t1 t2:AV},qAO t1 (.bool true) t2=some (.bool true)->K (.int .i64 2) s1->qBr XX t1 t2 K s1:=fun {t1 t2} e h=>by unfold qBr;refine qAA e ?_;rw[qAE];exact h
 have T1:∀{t1 t2:AV},qAO t1 (.bool true) t2=some (.bool true)->K (.int .i64 2) s1->qBq XX (.ptr b 0) t1 t2 K s1:=fun {t1 t2} e h=>by unfold qBq;refine qAA e ?_;rw[qAE];exact T2 rfl h
 have T0:∀{t1 t2:AV},qAO t1 (.bool true) t2=some (.bool true)->K (.int .i64 2) s1->qBn XX (.ptr b 0) t1 t2 K s1:=fun {t1 t2} e h=>by unfold qBn;refine qAA e ?_;rw[qAE];exact T1 rfl h
 refine r (y:=.int .i64 x.a3) rfl ?_;rw[qAR,qAB];cases c1:decide (x.a3<1)with
 |true=>rw[c1]at fin;rw[qAE];exact T0 rfl (by simpa using fin)
 | false=>
   rw[qAD];refine r (y:=.int .i64 x.a3) rfl ?_;rw[qAh,qAB];cases c2:decide (2<x.a3)with
   |true=>rw[c1,c2]at fin;exact T0 rfl (by simpa using fin)
   | false=>
     unfold qBn;refine qAA (a:=.bool false) rfl ?_;rw[qAD];refine r (y:=.int .u64 x.a4) rfl ?_;rw[qAh,qAB];cases c3:decide (MXM<x.a4)with
     |true=>rw[c1,c2,c3]at fin;exact T1 rfl (by simpa using fin)
     | false=>
       unfold qBq;refine qAA (a:=.bool false) rfl ?_;rw[qAD];refine r (y:=.int .u64 x.a6) rfl ?_;rw[qAh,qAB];cases c4:decide (MXM<x.a6)with
       |true=>rw[c1,c2,c3,c4]at fin;exact T2 rfl (by simpa using fin)
       | false=>
         rw[c1,c2,c3,c4]at fin;unfold qBr;refine qAA (a:=.bool false) rfl ?_;rw[qAD];simpa using fin
theorem qU8(hK:∀s',Sub s s'->K (.int .i64 (ckI x)) s'):wC TP XX 100 [.agg (ipC x)] K s:=by
 refine qKD (boxN rfl λb s1 hb h1 u1=>?_);have fin:=hK s1 (u1.sub hb);unfold ckI at fin;have r:∀{j:Nat}{y:AV}{R:AV->Prop},(ipC x)[j]?=some y->R y->oK (qAC j (.ptr b 0)) λv=>oK (rd1 s1 v) R:=fun {j y R} e h=>qAA (a:=.ptr b j) (by rw[qAG,zA]) (qAA (by rw[qAI h1];exact e) h);have T5:∀{t1 t2:AV},qAO t1 (.bool true) t2=some (.bool true)->K (.int .i64 2) s1->qB5 XX (.ptr b 0) t1 t2 K s1:=fun {t1 t2} e h=>by unfold qB5;refine qAA e ?_;rw[qAE];exact h
 have T4:∀{t1 t2:AV},qAO t1 (.bool true) t2=some (.bool true)->K (.int .i64 2) s1->qB9 XX (.ptr b 0) t1 t2 K s1:=fun {t1 t2} e h=>by unfold qB9;refine qAA e ?_;rw[qAE];exact T5 rfl h
 have T3:∀{t1 t2:AV},qAO t1 (.bool true) t2=some (.bool true)->K (.int .i64 2) s1->qB7 XX (.ptr b 0) t1 t2 K s1:=fun {t1 t2} e h=>by unfold qB7;refine qAA e ?_;rw[qAE];exact T4 rfl h
 have T2:∀{t1 t2:AV},qAO t1 (.bool true) t2=some (.bool true)->K (.int .i64 2) s1->qB3 XX (.ptr b 0) t1 t2 K s1:=fun {t1 t2} e h=>by unfold qB3;refine qAA e ?_;rw[qAE];exact h
 have T1:∀{t1 t2:AV},qAO t1 (.bool true) t2=some (.bool true)->K (.int .i64 2) s1->qB4 XX (.ptr b 0) t1 t2 K s1:=fun {t1 t2} e h=>by unfold qB4;refine qAA e ?_;rw[qAE];exact T2 rfl h
 have T0:∀{t1 t2:AV},qAO t1 (.bool true) t2=some (.bool true)->K (.int .i64 2) s1->qB8 XX (.ptr b 0) t1 t2 K s1:=fun {t1 t2} e h=>by unfold qB8;refine qAA e ?_;rw[qAE];exact T1 rfl h
 refine r (y:=.int .i64 x.a10) rfl ?_;rw[qAR,qAB];cases c1:decide (x.a10<0)with
 |true=>rw[c1]at fin;rw[qAE];exact T0 rfl (by simpa using fin)
 |false=>
 rw[c1]at fin;rw[qAD];refine r (y:=.int .i64 x.a10) rfl ?_;rw[qAh,qAB];cases c2:decide (255<x.a10)with
 |true=>rw[c2]at fin;exact T0 rfl (by simpa using fin)
 |false=>
 rw[c2]at fin;unfold qB8;refine qAA (a:=.bool false) rfl ?_;rw[qAD];refine r (y:=.int .i64 x.pr) rfl ?_;rw[qAR,qAB];cases c3:decide (x.pr<0)with
 |true=>rw[c3]at fin;exact T1 rfl (by simpa using fin)
 |false=>
 rw[c3]at fin;unfold qB4;refine qAA (a:=.bool false) rfl ?_;rw[qAD];refine r (y:=.int .i64 x.pr) rfl ?_;rw[qAh,qAB];cases c4:decide (255<x.pr)with
 |true=>rw[c4]at fin;exact T2 rfl (by simpa using fin)
 |false=>
 rw[c4]at fin;unfold qB3;refine qAA (a:=.bool false) rfl ?_;rw[qAD];refine r (y:=.int .i64 x.p1) rfl ?_;rw[qAR,qAB];cases c5:decide (x.p1<0)with
 |true=>rw[c5]at fin;rw[qAE];exact T3 rfl (by simpa using fin)
 |false=>
 rw[c5]at fin;rw[qAD];refine r (y:=.int .i64 x.p1) rfl ?_;rw[qAh,qAB];cases c6:decide (65535<x.p1)with
 |true=>rw[c6]at fin;exact T3 rfl (by simpa using fin)
 |false=>
 rw[c6]at fin;unfold qB7;refine qAA (a:=.bool false) rfl ?_;rw[qAD];refine r (y:=.int .i64 x.p2) rfl ?_;rw[qAR,qAB];cases c7:decide (x.p2<0)with
 |true=>rw[c7]at fin;exact T4 rfl (by simpa using fin)
 |false=>
 rw[c7]at fin;unfold qB9;refine qAA (a:=.bool false) rfl ?_;rw[qAD];refine r (y:=.int .i64 x.p2) rfl ?_;rw[qAh,qAB];cases c8:decide (65535<x.p2)with
 |true=>rw[c8]at fin;exact T5 rfl (by simpa using fin)
 |false=>
 rw[c8]at fin;unfold qB5;refine qAA (a:=.bool false) rfl ?_;rw[qAD];refine r (y:=.int .i64 x.pr) rfl (qWR ?_);rw[qAa,qAB];cases c9:prtB x.pr with
 | true=>
   rw[c9]at fin;rw[Bool.not_true,qAD];refine qAA (a:=.bool false) rfl ?_;rw[qAD];simpa using fin
 | false=>
   rw[c9]at fin;rw[Bool.not_false,qAE];refine r (y:=.int .i64 x.p1) rfl ?_;simp only[qAZ,qAY,Bool.true_bne,qAB];cases d1:(x.p1 == 0)with
   | false=>
     rw[Bool.not_false,qAE];unfold qCh;refine qAA (a:=.bool true) rfl (qAA (a:=.bool true) rfl ?_);rw[qAE];have d1:x.p1≠0:=by simpa using d1
     simpa [d1]using fin
   | true=>
     rw[Bool.not_true,qAD];have d1:x.p1=0:=by simpa using d1
     refine r (y:=.int .i64 x.p2) rfl ?_;simp only[qAZ,qAY,Bool.true_bne,qAB];unfold qCh;cases d2:(x.p2 == 0)with
     | false=>
       have d2:x.p2≠0:=by simpa using d2
       refine qAA (a:=.bool true) rfl (qAA (a:=.bool true) rfl ?_);rw[qAE];simpa [d1,d2]using fin
     | true=>
       have d2:x.p2=0:=by simpa using d2
       refine qAA (a:=.bool false) rfl (qAA (a:=.bool false) rfl ?_);rw[qAD];simpa [d1,d2]using fin
end Go.AM.OR
set_option maxRecDepth 100000
namespace Go.AM.OR
open Go Go.Proofs Go.AM.TN
variable {K:AV→Hq→Prop} {s s':Hq} {v:AV} {b c k:Nat} {x:FC.Fr}
theorem eq44(a3 a4 a5 a6 a7:Int):qGP TP 44 (.agg [.int .i64 a3,.int .u64 a4,.int .u32 a5,.int .u64 a6,.int .u32 a7]) (.agg [.int .i64 0,.int .u64 0,.int .u32 0,.int .u64 0,.int .u32 0])=cond (eqI a3 0) (cond (eqI a4 0) (cond (eqI a5 0) (cond (eqI a6 0) (cond (eqI a7 0) (some true) (some false)) (some false)) (some false)) (some false)) (some false):=by kernel_rfl
theorem eq46(a b c d e f:Int):qGP TP 46 (.agg [.int .u32 a,.int .u32 b,.int .i64 c,.int .i64 d,.int .i64 e,.int .i64 f]) (.agg [.int .u32 0,.int .u32 0,.int .i64 0,.int .i64 0,.int .i64 0,.int .i64 0])=cond (eqI a 0) (cond (eqI b 0) (cond (eqI c 0) (cond (eqI d 0) (cond (eqI e 0) (cond (eqI f 0) (some true) (some false)) (some false)) (some false)) (some false)) (some false)) (some false):=by kernel_rfl
theorem zAEn:qGP TP 44 (.agg (arC x)) (.agg [.int .i64 0,.int .u64 0,.int .u32 0,.int .u64 0,.int .u32 0])=some (ar0 x):=by unfold arC ar0;rw[eq44];simp only[qET];cases(x.a3 == 0)<;>cases(x.a4 == 0)<;>cases(x.a5 == 0)<;>cases(x.a6 == 0)<;>cases(x.a7 == 0)<;>rfl
theorem zAEg:qGP TP 46 (.agg (ipC x)) (.agg [.int .u32 0,.int .u32 0,.int .i64 0,.int .i64 0,.int .i64 0,.int .i64 0])=some (ip0 x):=by unfold ipC ip0;rw[eq46];simp only[qET];cases(x.hs == 0)<;>cases(x.hd == 0)<;>cases(x.a10 == 0)<;>cases(x.pr == 0)<;>cases(x.p1 == 0)<;>cases(x.p2 == 0)<;>rfl
theorem qT9(hK:∀s',Sub s s'->K (.int .i64 (ckE x)) s'):wC TP XX 71 [.agg (FC.frC x)] K s:=by
 refine qLT (boxN rfl λb s1 hb h1 u1=>?_);have k1:=u1.sub hb;have h1:s1 b=some (false,.cells 48 (FC.frC x)):=h1;have r:∀{j:Nat}{y:AV}{R:AV->Prop},(FC.frC x)[j]?=some y->R y->oK (qAC j (.ptr b 0)) λv=>oK (rd1 s1 v) R:=fun {j y R} e h=>qAA (a:=.ptr b j) (by rw[qAG,zA]) (qAA (by rw[qAI h1];exact e) h);have rA:rdN s1 5 (.ptr b 3)=some (arC x):=(qT7 h1 (by show 3+5<=15;omega)).trans rfl;have rI:rdN s1 6 (.ptr b 8)=some (ipC x):=(qT7 h1 (by show 8+6<=15;omega)).trans rfl;have fin:∀{s'},Sub s1 s'->K (.int .i64 (ckE x)) s':=λk=>hK _ (k1.trans k);have fin0:=fin (.refl s1);unfold ckE at fin fin0;have T0:∀{t1 t2:AV},qAO t1 (.bool true) t2=some (.bool true)->(decide (MXM<x.src)||decide (MXM<x.dst))=true->qCX XX (.ptr b 0) t1 t2 K s1:=fun {t1 t2} e h=>by unfold qCX;refine qAA e ?_;rw[qAE];rw[if_pos h]at fin0;exact fin0
 refine r (y:=.int .u64 x.src) rfl ?_;rw[qAh,qAB];cases c1:decide (MXM<x.src)with
 |true=>rw[qAE];exact T0 rfl (by rw[c1];rfl)
 |false=>
 rw[qAD];refine r (y:=.int .u64 x.dst) rfl ?_;rw[qAh,qAB];cases c2:decide (MXM<x.dst)with
 |true=>exact T0 rfl (by rw[c1,c2];rfl)
 |false=>
 rw[c1,c2]at fin fin0;simp only[Bool.or_self,Bool.false_eq_true,if_false]at fin fin0;unfold qCX;refine qAA (a:=.bool false) rfl ?_;rw[qAD];refine r (y:=.int .u64 x.src) rfl (qMl XX_0 ?_);cases c3:qPA x.src with
 |true=>rw[c3]at fin0;rw[qAE];simpa using fin0
 |false=>
 rw[c3]at fin fin0;simp only[Bool.false_eq_true,if_false]at fin fin0;rw[qAD];refine r (y:=.int .i64 x.kind) rfl ?_;simp only[qAZ,qAY,Bool.true_bne,qAB];have last4:∀{t36 t40 t44:AV}{a c:Bool},qAO t40 t44 (.bool false)=some (.bool c)->qAO t36 (.bool true) (.bool c)=some (.bool a)->a=((x.kind != 1&&!ar0 x)||(x.kind != 2&&!ip0 x))->(x.kind != 0&&(x.kind != 1&&x.kind != 2))=false->qC9 XX (.ptr b 0) t36 t40 t44 K s1:=fun {t36 t40 t44 a c} e1 e2 q q6=>by
  rw[q6,<- q]at fin fin0;simp only[Bool.false_eq_true,if_false]at fin fin0;unfold qC9;refine qAA e1 (qAA e2 ?_);cases a with
  |true=>rw[qAE];simpa using fin0
  | false=>
    simp only[Bool.false_eq_true,if_false]at fin fin0;rw[qAD];refine r (y:=.int .i64 x.kind) rfl ?_;simp only[qAZ,qAY,Bool.false_bne,qAB];cases d1:(x.kind == 1)with
    | true=>
      rw[d1]at fin;rw[qAE];refine qAA (a:=.ptr b 3) rfl (qAA rA (qTr λs' k=>?_));simpa using fin k
    | false=>
      rw[d1]at fin fin0;rw[qAD];cases d2:(x.kind == 2)with
      | true=>
        rw[d2]at fin;rw[qAE];refine qAA (a:=.ptr b 8) rfl (qAA rI (qU8 λs' k=>?_));simpa using fin k
      | false=>
        rw[d2]at fin0;rw[qAD];simpa using fin0
 have last3:∀{t30 t34:AV}{a:Bool},qAO t30 t34 (.bool false)=some (.bool a)->a=(x.kind != 1&&!ar0 x)->(x.kind != 0&&(x.kind != 1&&x.kind != 2))=false->qDB XX (.ptr b 0) t30 t34 K s1:=fun {t30 t34 a} e q q6=>by
  unfold qDB;refine qAA e ?_;cases a with
  | true=>
    rw[q6,<- q]at fin0;rw[qAE];refine qAA (a:=.bool true) rfl ?_;rw[qAE];simpa using fin0
  | false=>
    rw[qAD];refine r (y:=.int .i64 x.kind) rfl ?_;simp only[qAZ,qAY,Bool.true_bne,qAB];cases d2:(x.kind == 2)with
    | true=>
      rw[Bool.not_true,qAD];exact last4 (a:=false) (c:=false) rfl rfl (by rw[<- q,show(x.kind != 2)=false by unfold bne;rw[d2];rfl];rfl) q6
    | false=>
      rw[Bool.not_false,qAE];refine qAA (a:=.ptr b 8) rfl (qAA rI (qAA (a:=[.int .u32 0,.int .u32 0,.int .i64 0,.int .i64 0,.int .i64 0,.int .i64 0]) rfl ?_));rw[zAEg];simp only[qAY,Bool.true_bne,qAB];exact last4 (a:=!ip0 x) (c:=!ip0 x) rfl rfl (by rw[<- q,show(x.kind != 2)=true by unfold bne;rw[d2];rfl];simp) q6
 have j2n:∀{t22 t25:AV},qAO t22 t25 (.bool false)=some (.bool false)->(x.kind != 0&&(x.kind != 1&&x.kind != 2))=false->qCb XX (.ptr b 0) t22 t25 K s1:=fun {t22 t25} e q6=>by
  unfold qCb;refine qAA e ?_;rw[qAD];refine r (y:=.int .i64 x.kind) rfl ?_;simp only[qAZ,qAY,Bool.true_bne,qAB];cases d1:(x.kind == 1)with
  | true=>
    rw[Bool.not_true,qAD];exact last3 (a:=false) rfl (by rw[show(x.kind != 1)=false by unfold bne;rw[d1];rfl];rfl) q6
  | false=>
    rw[Bool.not_false,qAE];refine qAA (a:=.ptr b 3) rfl (qAA rA (qAA (a:=[.int .i64 0,.int .u64 0,.int .u32 0,.int .u64 0,.int .u32 0]) rfl ?_));rw[zAEn];simp only[qAY,Bool.true_bne,qAB];exact last3 (a:=!ar0 x) rfl (by rw[show(x.kind != 1)=true by unfold bne;rw[d1];rfl];simp) q6
 cases d0:(x.kind == 0)with
 | true=>
   rw[Bool.not_true,qAD];unfold qCT;refine qAA (a:=.bool false) rfl ?_;rw[qAD];exact j2n rfl (by rw[show(x.kind != 0)=false by unfold bne;rw[d0];rfl];rfl)
 | false=>
   rw[Bool.not_false,qAE];refine r (y:=.int .i64 x.kind) rfl ?_;simp only[qAZ,qAY,Bool.true_bne,qAB];have n0:(x.kind != 0)=true:=by unfold bne;rw[d0];rfl
   cases d1:(x.kind == 1)with
   | true=>
     unfold qCT;refine qAA (a:=.bool false) rfl ?_;rw[qAD];exact j2n rfl (by rw[show(x.kind != 1)=false by unfold bne;rw[d1];rfl];simp)
   | false=>
     have n1:(x.kind != 1)=true:=by unfold bne;rw[d1];rfl
     unfold qCT;refine qAA (a:=.bool true) rfl ?_;rw[qAE];refine r (y:=.int .i64 x.kind) rfl ?_;simp only[qAZ,qAY,Bool.true_bne,qAB];cases d2:(x.kind == 2)with
     |true=>exact j2n rfl (by rw[show(x.kind != 2)=false by unfold bne;rw[d2];rfl];simp)
     | false=>
       have n2:(x.kind != 2)=true:=by unfold bne;rw[d2];rfl
       unfold qCb;refine qAA (a:=.bool true) rfl ?_;rw[qAE];rw[n0,n1,n2]at fin0;simpa using fin0
end Go.AM.OR
set_option maxRecDepth 100000
namespace Go.AM.OR
open Go Go.Proofs Go.AM.TN
variable {K:AV→Hq→Prop} {s s' H:Hq} {F:FG} {W:WG} {b c i n:Nat} {h l a:Int} {tg:Bool} {x:FC.Fr} {ar:List Int}
structure FOk(F:FG):Prop where
 lk:LnkOk F
 sz:F.lf+F.sp<=10000
 L:F.L.length<=100000
 S:F.S.length<=100000
 H:F.H.length<=100000
 B:F.B.length<=100000
 G:F.G.length<=100000
 S1:∀y∈F.S,y.1.length<=100000
 S2:∀y∈F.S,y.2.length<=100000
theorem FOk.sm(z:FOk F):SmS F:=λy hy=>⟨by have:=z.S1 y hy;omega,by have:=z.S2 y hy;omega⟩
theorem zABD:XX 78=some qSx:=rfl
theorem qLy{f:FuncId}{first args cap:List AV}(h1:isFn TP f=true)(h2:wC TP XX f (first++args++cap) K s):funK TP XX (.fn (.func f) first cap) args K s:=⟨h1,h2⟩
theorem qWu{L:List Int}(h:L.Nodup):(qD6 L).Pairwise (· < ·):=by have h1:=qJI L;have h2:(qD6 L).Nodup:=(qEf L).nodup_iff.2 h;exact(h1.and h2).imp λ⟨a,b⟩=>by omega
theorem zAEI{b0:Nat}(hS:St s b F W)(hb:s b0=some (tg,.cells 94 [.ptr b 0]))(hK:K (.bool (decide (F.lf<=a))) s):funK TP XX (.fn (.func 77) [] [.ptr b0 0]) [.int .i64 a] K s:=by refine qLy (by kernel_rfl) (qG5 ?_);obtain⟨tg,v2,v3,v4,v5,v6,v7,w1,w2,w3,w4,h1,h2,h3⟩:=hS;refine qAA (a:=.ptr b 0) (by rw[qAI hb];rfl) (qKL h1 (x:=.int .i64 F.lf) rfl ?_);rw[qAo,qAB];exact hK
theorem zACd(z:FOk F)(hS:St s b F W)(hK:∀v' s' ar,Sub s s'->Sl s' v' (ix ar)->Ar F W l ar->K v' s'):wC TP XX 41 [.ptr b 0,.int .i64 l] K s:=by
 refine qH5 (qFk rfl λb0 s1 hb0 h1 u1=>?_);have k1:=u1.sub hb0;have hS1:=hS.sub k1;rw[qAR,qAB];have hrd:rd1 s1 (.ptr b0 0)=some (.ptr b 0):=by rw[qAI h1];rfl
 have no:upB F W l=false->K .nilslc s1:=λq=>hK _ s1 [] k1 (.inl ⟨rfl,rfl⟩) ⟨λ_=>rfl,λe=>(by rw[q]at e;cases e)⟩;have j1n:∀{t18 t26:AV},qAO t18 (.bool true) t26=some (.bool true)->upB F W l=false->qBP XX (.int .i64 l) (.ptr b0 0) t18 t26 K s1:=fun {t18 t26} e q=>by unfold qBP;refine qAA e ?_;rw[qAE];exact no q
 have j0n:∀{t9 t16:AV},qAO t9 (.bool true) t16=some (.bool true)->upB F W l=false->qBR XX (.int .i64 l) (.ptr b0 0) t9 t16 K s1:=fun {t9 t16} e q=>by unfold qBR;refine qAA e ?_;rw[qAE];exact j1n rfl q
 cases c1:decide (l<0)with
 | true=>
   rw[qAE];exact j0n rfl (by unfold upB;rw[decide_eq_false (by have:=oT c1;omega)];rfl)
 |false=>
 have h0:0<=l:=by have:=oF c1;omega
 rw[qAD];refine qAA hrd ?_;have hS1':=hS1;obtain⟨tg,v2,v3,v4,v5,v6,v7,w1,w2,w3,w4,g1,g2,g3⟩:=hS1';refine qKL g1 (x:=.int .i64 F.lf) rfl ?_;rw[qAo,qAB];cases c2:decide (F.lf<=l)with
 |true=>exact j0n rfl (by unfold upB;rw[decide_eq_false (p:=l<F.lf) (by have:=oT c2;omega)];simp)
 |false=>
 have hlt:l<F.lf:=by have:=oF c2;omega
 unfold qBR;refine qAA (a:=.bool false) rfl ?_;rw[qAD];refine qAA hrd (qLW g1 (x:=w1) rfl (qWA g3.nd ?_));rw[qAa,qAB];have eu:upB F W l=onB W.nd l:=by unfold upB;rw[decide_eq_true h0,decide_eq_true hlt];rfl
 cases c3:onB W.nd l with
 |false=>exact j1n rfl (by rw[eu,c3])
 |true=>
 rw[c3]at eu;unfold qBP;refine qAA (a:=.bool false) rfl ?_;rw[qAD];refine qAA hrd ?_;have hlf:=z.lk.lf;have hsp:=z.lk.sp;have hz:=z.sz;obtain⟨N,hN⟩:=qHW (l:=F.lf+F.sp) (by omega);refine qU5 (nx:=nbr F W) (N:=N) h0 (by omega) (by omega) (λx y hy=>by have:=zAD4 z.lk hy;omega) (λx=>by have:=qUH (F:=F) (W:=W) (n:=x) F.L.length;have:=z.L;unfold nbr;omega) (λx s2 J k2 hJ=>qLy (by kernel_rfl) (qQt z.L (hS1.sub k2) λv' s' kk ac=>hJ v' s' kk ac)) λqb cap s7 Q k7 hqb hc h7 bf=>?_;have hQ:=bf.len;refine zADX (H:=s1) (p:=λn=>decide (F.lf<=n)) k7 hqb h7 hc (by omega) (λx s2 J k2 hJ=>zAEI (hS1.sub k2) (k2 _ _ h1) (hJ s2 (.refl _))) λcap' T s9 hcap k9 h9=>?_;refine qSz (T:=T) zABD h9 (by have:=List.length_filter_le (λn=>!decide (F.lf<=n)) Q;omega) λs11 h11 u11=>?_;have hsl:=(qEf (Q.filter λn=>!decide (F.lf<=n))).length_eq;have hsub:Sub s s11:=k1.trans (qAX k9 u11 hqb);rw[<- hsl];refine hK _ s11 (qD6 (Q.filter λn=>!decide (F.lf<=n))) hsub ?_ ⟨λe=>(by rw[eu]at e;cases e),λ_=>⟨qWu (bf.nd.filter _),λn=>?_⟩⟩
 ·have h11:s11 qb=some (false,.cells 3 (ix (qD6 (Q.filter λn=>!decide (F.lf<=n)))++T)):=h11
  exact .inr ⟨qb,0,cap',by rw[qAm],λc e=>(by rw[qAm,hsl];exact hcap c e),λ_=>⟨_,_,_,h11,(by rw[lAp];omega),λi hi=>(by rw[zA,List.getElem?_append_left hi])⟩⟩
 ·rw[qYK,List.mem_filter,bf.done n]
  have:∀{y},Rch (nbr F W) l y->0<=y:=fun {y} hy=>(bf.rng y ((bf.done y).2 hy)).1;simp only[Bool.not_eq_true',decide_eq_false_iff_not];exact⟨λ⟨q1,q2⟩=>⟨⟨this q1,by omega⟩,q1⟩,λ⟨q1,q2⟩=>⟨q2,by omega⟩⟩
end Go.AM.OR
set_option maxRecDepth 100000
namespace Go.AM.OR
open Go Go.Proofs Go.AM.TN
variable {K:AV→Hq→Prop} {s s':Hq} {v:AV} {F:FG} {W:WG} {b i n:Nat} {h l sg a:Int} {x:FC.Fr} {ar:List Int}
theorem w64{n:Int}(h1:-9223372036854775808<=n)(h2:n<=9223372036854775807):qBF .i64 n=n:=by rw[qBi,qAe h1 h2]
theorem qW9(x:FC.Fr):∃n:Nat,FC.ent x=(n:Int)/\n<=70000:=by
 have h1:=Int.tmod_lt_of_pos (FC.hsh 2166136261 (FC.flw x)) (show(0:Int)<16384 by omega);have h2:-(16384:Int)<(FC.hsh 2166136261 (FC.flw x)).tmod 16384:=by have:=Int.tmod_lt_of_pos (-(FC.hsh 2166136261 (FC.flw x))) (show(0:Int)<16384 by omega);rw[Int.neg_tmod]at this;omega
 have e:FC.ent x=49152+(FC.hsh 2166136261 (FC.flw x)).tmod 16384:=by unfold FC.ent;rw[w64 (by omega) (by omega),qAe (by omega) (by omega)]
 exact⟨(FC.ent x).toNat,by omega,by omega⟩
def entO(F:FG)(W:WG)(h:Int)(x:FC.Fr):Option Int:=match att F W h with
 |some sg=>(mems F W sg)[(FC.ent x).toNat % (mems F W sg).length]?
 |none=>none
theorem qZ3(z:FOk F)(hS:St s b F W)(hK:∀s',Sub s s'->K (.tup [.int .i64 ((entO F W h x).getD 0),.bool (entO F W h x).isSome]) s'):wC TP XX 61 [.ptr b 0,.int .i64 h,.agg (FC.frC x)] K s:=by
 refine qHS (boxN rfl λb0 s1 hb0 h1 u1=>?_);have k1:=u1.sub hb0;have h1:s1 b0=some (false,.cells 48 (FC.frC x)):=h1;refine qTv z.sm (hS.sub k1) λs3 k3=>?_;have k13:=k1.trans k3;unfold entO at hK;cases ha:att F W h with
 | none=>
   rw[ha]at hK;refine qAA (a:=.int .i64 0) rfl (qAA (a:=.bool false) rfl (qAA (a:=.bool true) rfl ?_));rw[qAE];exact hK s3 k13
 | some sg=>
   rw[ha]at hK;simp only at hK;refine qAA (a:=.int .i64 sg) rfl (qAA (a:=.bool true) rfl (qAA (a:=.bool false) rfl ?_));rw[qAD];refine qL7 z.sm z.S1 (hS.sub k13) λv7 s8 k8 hv=>?_;have k18:=k13.trans k8;refine qAA (by rw[hv.len,qAm]) ?_;simp only[qAZ,qAY,Bool.false_bne,qAB];generalize mems F W sg=M at hK hv;cases M with
   | nil=>
     rw[show((([]:List Int).length:Int) == 0)=true from rfl,qAE];exact hK s8 k18
   | cons y M=>
     have e0:(((y::M).length:Int) == 0)=false:=by rw[beq_eq_false_iff_ne,List.length_cons];omega
     rw[e0,qAD];refine qAA (qAS (k8 _ _ (k3 _ _ h1)) rfl) (FC.Entropy_in λs14 k14=>?_);refine qAA (by rw[hv.len,qAm]) ?_;obtain⟨n,hn,_⟩:=qW9 x;have hne:(((y::M).length:Nat):Int)≠0:=by rw[List.length_cons];omega
     rw[hn,qI8 hne,qAB];have er:(n:Int).tmod (((y::M).length:Nat):Int)=((n % (y::M).length:Nat):Int):=by rw[Int.tmod_eq_emod_of_nonneg (by omega)];rfl
     have hlt:n % (y::M).length<(y::M).length:=Nat.mod_lt _ (by simp);rw[er];obtain⟨pp,g1,g2⟩:=(hv.sub k14).get (i:=n % (y::M).length) (by rw[qAm];exact hlt);rw[qDU hlt]at g2;refine qAA g1 (qAA g2 ?_);have:=hK s14 (k18.trans k14);have en:(FC.ent x).toNat=n:=by omega
     rw[en,gE hlt]at this;exact this
theorem qEw(z:FOk F)(hS:St s b F W)(ha:Sl s v (ix ar))(hl:ar.length<=100000)(hK:∀s',Sub s s'->K (.bool (wthB F W sg ar)) s'):wC TP XX 89 [.ptr b 0,.int .i64 sg,v] K s:=by
 refine qG3 (qFk ha.one λb0 s1 hb0 h1 u1=>?_);have k1:=u1.sub hb0;refine qL7 z.sm z.S1 (hS.sub k1) λv2 s3 k3 hv=>?_;have hM:(mems F W sg).length<=100000:=by
  unfold mems;split
  ·split
   ·rename_i y hy
    have:=z.S1 y (mG hy);exact Nat.le_trans (List.length_filter_le _ _) this
   ·simp
  ·simp
 refine qJJ XX_0 (p:=λl=>decide (l∈ar)) (by omega) hv (λl s4 J k4 hJ=>qLy (by kernel_rfl) (qF8 ?_)) λs5 k5=>hK s5 (k1.trans (k3.trans k5));have k14:=k1.trans (k3.trans k4);refine qAA (a:=v) (by rw[qAI ((k3.trans k4) _ _ h1)];rfl) (qKq XX_0 (by omega) (ha.sub k14) (hJ s4 (.refl _)))
def hdC(e:Hd):List AV:=[.int .i64 e.1,.int .i64 e.2.1,.bool e.2.2]
end Go.AM.OR
set_option maxRecDepth 100000
namespace Go.AM.OR
open Go Go.Proofs Go.AM.TN
variable {K:AV→Hq→Prop} {s s' H:Hq} {v:AV} {cs ws:List AV} {F:FG} {W:WG} {b c i k n:Nat} {h l a:Int} {x:FC.Fr} {ar:List Int}
theorem qYi{L:List Int}{m:Int}(h:L.Pairwise (· < ·))(hr:∀n∈L,0<=n/\n<m)(hm:m<=64):L.length<=64:=
 qP1 (N:=64) (h.imp λq=>by omega) λx hx=>by have:=hr x hx;omega
theorem qRW(hv:Valid F):FOk F:=by
 have h0:FabOk F:=hv 0 (by omega);have h2:LinksOk F:=hv 2 (by omega);have h4:DomOk F:=hv 4 (by omega);have h5:SegOk F:=hv 5 (by omega);have h6:HosOk F:=hv 6 (by omega);have h7:LeaOk F:=hv 7 (by omega);have a1:=h0.lf;have a2:=h0.sp;have a3:=h0.sum;refine⟨⟨by omega,by omega,λx hx=>?_⟩,by omega,by have:=h2.n;omega,by have:=h5.n;omega,by have:=h6.n;omega,by have:=h4.n;omega,by have:=h7.n;omega,λy hy=>?_,λy hy=>?_⟩
 ·obtain⟨i,hi⟩:=List.getElem?_of_mem hx
  obtain⟨q1,q2,_⟩:=(h2.row i x hi).1;exact⟨q1,q2⟩
 ·obtain⟨_,q,q1,_⟩:=h5.row y hy
  have:=qYi q1 q.1 (by omega);omega
 ·obtain⟨_,q,_,q2⟩:=h5.row y hy
  have:=h4.n;have:=qYi q2 q.2 (by omega);omega
theorem zADZ(z:FOk F)(h:Ar F W l ar):ar.length<=100000:=by
 cases c:upB F W l with
 |false=>rw[h.1 c];simp
 | true=>
   obtain⟨h1,h2⟩:=h.2 c;have hz:=z.sz;have hl:=z.lk.lf;have hs:=z.lk.sp;have:=qP1 (N:=10000) (h1.imp λq=>by omega) λy hy=>by have:=((h2 y).1 hy).1;omega
   omega
def WR(s:Hq)(ws:List AV)(W:WG):Prop:=∃w1 w2 w3 w4,ws=[w1,w2,w3,w4]/\WL s W w1 w2 w3 w4
theorem WR.sub(h:WR s ws W)(k:Sub s s'):WR s' ws W:=by obtain⟨w1,w2,w3,w4,e,h⟩:=h;exact⟨w1,w2,w3,w4,e,h.sub k⟩
theorem zAA0{P:List (List Bool)}(h:PtR s v P):v.one=true:=by obtain⟨vs,h1,_⟩:=h;exact h1.one
theorem WL.all{w1 w2 w3 w4:AV}(h:WL s W w1 w2 w3 w4):qAd [w1,w2,w3,w4]=true:=by simp[h.nd.one,h.lk.one,zAA0 h.pt,h.wh.one]
theorem zACi(v0 v1 v2 v3 v4 v5 v6 v7 v8 v9 v10 v11 v12 v13 v14 v15 v16 v17 v18 w1 w2 w3 w4:AV):qBb [(.int .i64 0),(.int .i64 0),.nilslc,.nilslc,.nilslc,.nilslc,.nilslc,.nilslc,(.int .i64 0),(.int .i64 0),(.int .i64 0),(.bool false),(.bool false),(.int .i64 0),(.int .i64 0),(.int .i64 0),(.int .i64 0),(.int .i64 0),(.int .i64 0),.nilslc,.nilslc,.nilslc,.nilslc] [(0,19,.agg [v0,v1,v2,v3,v4,v5,v6,v7,v8,v9,v10,v11,v12,v13,v14,v15,v16,v17,v18]),(19,4,.agg [w1,w2,w3,w4])]=some [v0,v1,v2,v3,v4,v5,v6,v7,v8,v9,v10,v11,v12,v13,v14,v15,v16,v17,v18,w1,w2,w3,w4]:=by kernel_rfl
theorem qEb(z:Sz F)(hF:FabR s cs F)(hW:WR s ws W)(h1:Valid F->∀b s',Sub s s'->St s' b F W->K (.tup [.ptr b 0,.bool true]) s')(h2:¬Valid F->∀s',Sub s s'->K (.tup [.nilptr,.bool false]) s'):wC TP XX 38 [.agg cs,.agg ws] K s:=by
 obtain⟨v2,v3,v4,v5,v6,v7,rfl,hL⟩:=hF;obtain⟨w1,w2,w3,w4,rfl,hw⟩:=hW;refine qKA (boxN hL.all λb0 s1 hb0 g1 u1=>boxN hw.all λb2 s3 hb2 g3 u3=>?_);have k1:=u1.sub hb0;have k3:=u3.sub hb2;have k13:=k1.trans k3;refine qAA (qAS (k3 _ _ g1) rfl) ?_;refine TN.qT9 z ⟨v2,v3,v4,v5,v6,v7,rfl,hL.sub k13⟩ (λhv s6 k6=>?_) λhv e p j s6 he k6=>?_
 ·have k16:=k13.trans k6
  refine qAA (a:=.int .i64 0) rfl (qAA (a:=.str ⟨#[]⟩) rfl (qAA (a:=.int .i64 0) rfl (qAA (a:=.bool false) rfl ?_)));rw[qAD];refine qAA (qAS ((k3.trans k6) _ _ g1) rfl) (qAA (qAS (k6 _ _ g3) rfl) ?_);refine qAA (zACi ..) (boxN ?_ λb14 s15 hb14 g15 u15=>?_)
  ·simp[hL.L.one,hL.T.one,hL.B.one,hL.S.one,hL.H.one,hL.G.one,hw.nd.one,hw.lk.one,zAA0 hw.pt,hw.wh.one]
  ·have k15:=u15.sub hb14
   have kk:=k16.trans k15;exact h1 hv b14 s15 kk ⟨false,v2,v3,v4,v5,v6,v7,w1,w2,w3,w4,g15,hL.sub kk,hw.sub kk⟩
 ·have k16:=k13.trans k6
  refine qAA (a:=.int .i64 e) rfl (qAA (a:=.str p) rfl (qAA (a:=.int .i64 j) rfl ?_));simp only[qAZ,qAY,Bool.true_bne,qAB];rw[show(e == 0)=false from beq_eq_false_iff_ne.2 he,Bool.not_false,qAE];exact h2 hv s6 k16
end Go.AM.OR
namespace Go.AM.EL
open Go Go.Proofs
theorem wu32(n:Int):qBF .u32 n=n % 4294967296:=by simp only[qBF];rw[qFr _ _ _ (by omega) (by omega)];split<;>omega
end Go.AM.EL
namespace Go.AM.EL
open Go Go.Proofs
end Go.AM.EL
namespace Go.AM.EL
open Go Go.Proofs
end Go.AM.EL
namespace Go.AM.EL
open Go Go.Proofs
end Go.AM.EL
namespace Go.AM.SG
open Go Go.AM Go.Proofs
inductive Leaf where
 |i (k:IntKind)
 |b
 |sl (d:Nat) (t:TypeId)
section
variable (P : Program)
def zAAA(rec:TypeId->Nat->Option Leaf)(j:Nat):List Field->Option Leaf
 |[]=>none
 |f::fs=>cond (Nat.ble f.offset j&&Nat.blt (j-f.offset) (P.cellsOf f.type)) (rec f.type (j-f.offset)) (zAAA rec j fs)
def qRe:Nat->TypeId->Nat->Option Leaf
 | 0,_,_=>none
 | d+1,t,j=>match P.underlying t with
   |some (.int k)=>cond (Nat.beq j 0) (some (.i k)) none
   |some .bool=>cond (Nat.beq j 0) (some .b) none
   |some (.slice _)=>cond (Nat.beq j 0) (some (.sl (d+1) t)) none
   |some (.struct fs)=>zAAA P (qRe d) j fs.toList
   |some (.array n e)=>cond (Nat.blt (j / P.cellsOf e) n&&Nat.blt 0 (P.cellsOf e)) (qRe d e (j % P.cellsOf e)) none
   |_=>none
end
variable {P:Program} {s:Hq}
def zADa(P:Program)(s:Hq):Leaf->AV->Prop
 | .i k,x=>∃n,x=.int k n/\(Lit.int k n).wf=true
 | .b,x=>∃b,x=.bool b
 | .sl d t,x=>Inp P s d t [x]
theorem qUE{xs:List AV}{o c j:Nat}{x:AV}(h:((xs.drop o).take c)[j]?=some x):xs[o+j]?=some x:=by
 rw[List.getElem?_take]at h;split at h
 ·rw[List.getElem?_drop]at h;exact h
 ·cases h
theorem qOS:∀(d:Nat) (t:TypeId) (xs:List AV) (j:Nat) (k:Leaf),Inp P s d t xs->qRe P d t j=some k->∃x,xs[j]?=some x/\zADa P s k x
 | 0,_,_,_,_,h,_=>h.elim
 | d+1,t,xs,j,k,h,hk=>by
   unfold qRe at hk;unfold Inp at h;split at hk
   ·rename_i k0 hu
    simp only[hu]at h;cases e:Nat.beq j 0 with
    |false=>rw[e]at hk;cases hk
    | true=>
      rw[e]at hk;cases hk;obtain⟨n,rfl,h2⟩:=h;exact⟨_,by rw[bE e];rfl,n,rfl,h2⟩
   ·rename_i hu
    simp only[hu]at h;cases e:Nat.beq j 0 with
    |false=>rw[e]at hk;cases hk
    | true=>
      rw[e]at hk;cases hk;obtain⟨b,rfl⟩:=h;exact⟨_,by rw[bE e];rfl,b,rfl⟩
   ·rename_i e0 hu
    cases e:Nat.beq j 0 with
    |false=>rw[e]at hk;cases hk
    | true=>
      rw[e]at hk;cases hk;have h':Inp P s (d+1) t xs:=by unfold Inp;exact h
      simp only[hu]at h;rcases h with rfl|⟨b,n,c,rfl,_⟩
      ·exact⟨_,by rw[bE e];rfl,h'⟩
      ·exact⟨_,by rw[bE e];rfl,h'⟩
   ·rename_i fs hu
    simp only[hu]at h;have key:∀l:List Field,(∀f∈l,f∈fs.toList)->zAAA P (qRe P d) j l=some k->∃x,xs[j]?=some x/\zADa P s k x:=by
     intro l
     induction l with
     |nil=>intro _ q;cases q
     | cons f l ih=>
       intro hm q;unfold zAAA at q;cases e:(Nat.ble f.offset j&&Nat.blt (j-f.offset) (P.cellsOf f.type))with
       |false=>rw[e]at q;exact ih (λg hg=>hm g (mO _ hg)) q
       | true=>
         rw[e]at q;simp only[Bool.and_eq_true]at e;obtain⟨x,h1,h2⟩:=qOS d f.type _ (j-f.offset) k (h.2 f (hm f List.mem_cons_self)) q;refine⟨x,?_,h2⟩;have:=qUE h1;rw[Nat.add_sub_cancel' (Nat.le_of_ble_eq_true e.1)]at this;exact this
    exact key _ (λf hf=>hf) hk
   ·rename_i n e0 hu
    simp only[hu]at h;cases e:(Nat.blt (j / P.cellsOf e0) n&&Nat.blt 0 (P.cellsOf e0))with
    |false=>rw[e]at hk;cases hk
    | true=>
      rw[e]at hk;simp only[Bool.and_eq_true,Nat.blt_eq]at e;obtain⟨x,h1,h2⟩:=qOS d e0 _ (j % P.cellsOf e0) k (h.2 (j / P.cellsOf e0) e.1) hk;refine⟨x,?_,h2⟩;have:=qUE h1;rw[Nat.mul_comm,Nat.div_add_mod]at this;exact this
   ·cases hk
theorem qA9{d:Nat}{t:TypeId}{xs:List AV}{j:Nat}{k:IntKind}(h:Inp P s d t xs)(hk:qRe P d t j=some (.i k)):∃n,xs[j]?=some (.int k n)/\(Lit.int k n).wf=true:=by obtain⟨x,h1,n,rfl,h2⟩:=qOS d t xs j _ h hk;exact⟨n,h1,h2⟩
theorem zAA5{d:Nat}{t:TypeId}{xs:List AV}{j:Nat}(h:Inp P s d t xs)(hk:qRe P d t j=some .b):∃b,xs[j]?=some (.bool b):=by obtain⟨x,h1,n,rfl⟩:=qOS d t xs j _ h hk;exact⟨n,h1⟩
theorem qIZ{d d':Nat}{t t':TypeId}{xs:List AV}{j:Nat}(h:Inp P s d t xs)(hk:qRe P d t j=some (.sl d' t')):∃x,xs[j]?=some x/\Inp P s d' t' [x]:=qOS d t xs j _ h hk
theorem qIQ{xs ys:List AV}(hl:xs.length=ys.length)(h:∀j,j<ys.length->xs[j]?=ys[j]?):xs=ys:=by
 refine List.ext_getElem? λj=>?_
 by_cases q:j<ys.length
 ·exact h j q
 ·rw[List.getElem?_eq_none (by omega),List.getElem?_eq_none (by omega)]
end Go.AM.SG
set_option maxRecDepth 100000
namespace Go.AM.TN
open Go Go.Proofs
variable {K:AV→Hq→Prop} {s s':Hq} {lv y:AV} {b:Nat} {t:Bool}
theorem cutR{s:Hq}:cutH [(s,s)] s=s:=by
 show(λb=>if s b=none/\s b≠none then none else s b)=s
 funext b
 rw[if_neg];rintro ⟨h1,h2⟩;exact h2 h1
theorem qAv{n lo hi:Int}(hK:K (.bool (!outB n lo hi)) s):wC TP XX 142 [.int .i64 n,.int .i64 lo,.int .i64 hi] K s:=by
 refine qRG ?_;have e:(!outB n lo hi)=(decide (lo<=n)&&decide (n<=hi)):=by unfold outB;rw[Bool.eq_iff_iff];simp
 rw[e]at hK;simp only[qRZ,qAo,qAB];refine qAJ (λq=>?_) (λq=>?_)
 ·simp only[qEP,qAB,qGa]
  rw[q]at hK ⊢;exact hK
 ·simp only[qGa]
  rw[q]at hK ⊢;exact hK
theorem qGF{ip len:Int}(hK:∀s',Sub s s'->K (.bool (qFO len)) s'):wC TP XX 196 [.agg (pfC ip len)] K s:=by
 refine qHG ⟨rfl,qAP λb s1 hb h1 u1=>?_⟩;have h1:s1 b=some (false,.cells 67 (pfC ip len)):=h1;have e1:(pfC ip len)[1]?=some (.int .i64 len):=rfl;have k1:=u1.sub hb;simp only[qAG,zA,qAB,qAI h1,e1,qAo,qEP];have hk:=hK s1 k1;unfold qFO at hk;refine qAJ (λe=>?_) (λe=>?_)
 ·rw[e]at hk ⊢;exact hk
 ·rw[e]at hk ⊢;exact hk
def lowU(len:Int):Int:=IntKind.u32.wrap (shlU 1 (32-len).toNat-1)
theorem qVa{x:Int}:qAi .xor (.int .u32 x)=some (.int .u32 (xorU 4294967295 x)):=by show arith .xor .u32 4294967295 x=_;simp only[arith,qCN];rfl
theorem mskR{len:Int}(h:0<=len/\len<=32):xorU 4294967295 (lowU len)=mskU len:=by
 obtain⟨n,rfl⟩:∃n:Nat,len=n:=⟨len.toNat,by omega⟩
 have:((List.range 33).all λn=>xorU 4294967295 (lowU (n:Int)) == mskU (n:Int))=true:=by kernel_rfl
 have:=List.all_eq_true.1 this n (List.mem_range.2 (by omega));exact eq_of_beq this
theorem qP5{len:Int}(h:0<=len/\len<=32)(hK:K (.int .u32 (mskU len)) s):wC TP XX 197 [.int .i64 len] K s:=by refine qHb ?_;unfold qE0;simp only[qAx,qAB];rw[qAe (by omega) (by omega),qUR h.2];simp only[qAx,qAB];rw[show IntKind.u32.wrap (shlU 1 (32-len).toNat-1)=lowU len from rfl,qVa,mskR h];exact hK
theorem qND{x y:Int}:andU x y=((BitVec.ofInt 32 x &&& BitVec.ofInt 32 y).toNat:Int):=by unfold andU;rw[EL.wu32,Int.emod_eq_of_lt (by omega) (by have:=(BitVec.ofInt 32 x &&& BitVec.ofInt 32 y).isLt;omega)]
theorem qT3{x y:Int}:xorU x y=((BitVec.ofInt 32 x ^^^ BitVec.ofInt 32 y).toNat:Int):=by unfold xorU;rw[EL.wu32,Int.emod_eq_of_lt (by omega) (by have:=(BitVec.ofInt 32 x ^^^ BitVec.ofInt 32 y).isLt;omega)]
theorem zACb{x y:Int}:orU x y=((BitVec.ofInt 32 x |||BitVec.ofInt 32 y).toNat:Int):=by unfold orU;rw[EL.wu32,Int.emod_eq_of_lt (by omega) (by have:=(BitVec.ofInt 32 x |||BitVec.ofInt 32 y).isLt;omega)]
theorem qUA{x:BitVec 32}:BitVec.ofInt 32 (x.toNat:Int)=x:=by rw[BitVec.ofInt_natCast,BitVec.ofNat_toNat,BitVec.setWidth_eq]
theorem zAEF{a b m:Int}:(andU a m == andU b m)=(andU (xorU a b) m == 0):=by
 rw[Bool.eq_iff_iff,beq_iff_eq,beq_iff_eq,qND,qND,qND,qT3,qUA];generalize BitVec.ofInt 32 a=A;generalize BitVec.ofInt 32 b=B;generalize BitVec.ofInt 32 m=M;have e:(A ^^^ B) &&& M=(A &&& M) ^^^ (B &&& M):=by
  ext i hi
  simp only[BitVec.getElem_and,BitVec.getElem_xor];cases A[i]<;>cases B[i]<;>cases M[i]<;>rfl
 rw[e];constructor
 ·intro h
  have h:(A &&& M).toNat=(B &&& M).toNat:=by omega
  rw[BitVec.eq_of_toNat_eq h,BitVec.xor_self];rfl
 ·intro h
  have h:((A &&& M) ^^^ (B &&& M))=0#32:=BitVec.eq_of_toNat_eq (by rw[show(0#32).toNat=0 from rfl];omega);rw[BitVec.xor_eq_zero_iff.1 h]
theorem qGv{ip len x:Int}(hK:∀s',Sub s s'->K (.bool (qCG ip len x)) s'):wC TP XX 183 [.agg (pfC ip len),.int .u32 x] K s:=by
 refine qFZ ⟨rfl,qAP λb s1 hb h1 u1=>?_⟩;have h1:s1 b=some (false,.cells 67 (pfC ip len)):=h1;have k1:=u1.sub hb;refine qAA (qAS h1 rfl) (qGF λs4 k4=>?_);have h4:=k4 _ _ h1;have e0:(pfC ip len)[0]?=some (.int .u32 ip):=rfl;have e1:(pfC ip len)[1]?=some (.int .i64 len):=rfl;have hk:=hK s4 (k1.trans k4);unfold qCG at hk;refine qAJ (λe=>?_) (λe=>?_)
 ·simp only[qAG,zA,qAB,qAI h4,e0,e1]
  refine qP5 (qLU.1 e) λ_=>?_;simp only[qHn,qAB,qOO,cutR,qAI h4,e1];refine qP5 (qLU.1 e) λ_=>?_;rw[e]at hk;rw[<- zAEF]at hk;simp only[qHn,qAB,qAZ,qAY,Bool.false_bne,e,qAV,qOO];exact hk
 ·rw[e]at hk ⊢
  exact hk
theorem qWP{ip len:Int}(h1:qFO len=false->∀s',Sub s s'->K (.tup [.agg (pfC 0 0),.int .i64 2]) s')(h2:qFO len=true->∀s',Sub s s'->K (.tup [.agg (pfC (andU ip (mskU len)) len),.int .i64 0]) s'):wC TP XX 195 [.agg (pfC ip len)] K s:=by
 refine qG1 ⟨rfl,qAP λb s1 hb q1 u1=>qAP λb2 s3 hb2 q3 u3=>?_⟩;have q1:s1 b=some (false,.cells 67 (pfC ip len)):=q1;have k1:=u1.sub hb;have k3:=u3.sub hb2;refine qAA (qAS (k3 _ _ q1) rfl) (qGF λs6 k6=>?_);have q6:=k6 _ _ (k3 _ _ q1);have z6:=k6 _ _ q3;have e0:(pfC ip len)[0]?=some (.int .u32 ip):=rfl;have e1:(pfC ip len)[1]?=some (.int .i64 len):=rfl;have sb2:s b2=none:=qCL k1 hb2;have k06:Sub s s6:=k1.trans (k3.trans k6);simp only[qAa,qAB];refine qAJ (λe=>?_) (λe=>?_)
 ·have e:qFO len=false:=by simpa using e
  refine qAA (a:=[.int .u32 0,.int .i64 0]) rfl (qAW z6 rfl rfl rfl λs9 h9 u9=>qAA (qAS h9 rfl) ?_);exact h1 e s9 (qAX k06 u9 sb2)
 ·have e:qFO len=true:=by simpa using e
  simp only[qAG,zA,qAB,qAI q6,e0,e1];refine qP5 (qLU.1 e) λ_=>?_;simp only[qHn,qAB,qOO,cutR,qAI q6,e1];refine qAA (a:=pfC (andU ip (mskU len)) len) rfl (qAW z6 rfl rfl rfl λs9 h9 u9=>qAA (qAS h9 rfl) ?_);exact h2 e s9 (qAX k06 u9 sb2)
theorem qR8{ip len:Int}(hK:∀s',Sub s s'->K (.bool (qEB ip len)) s'):wC TP XX 182 [.agg (pfC ip len)] K s:=by
 refine qS6 ⟨rfl,qAP λb s1 hb q1 u1=>?_⟩;have q1:s1 b=some (false,.cells 67 (pfC ip len)):=q1;have k1:=u1.sub hb;refine qAA (qAS q1 rfl) (qWP (λe s4 k4=>?_) λe s4 k4=>?_)
 ·refine qAA (a:=.agg (pfC 0 0)) rfl (qAA (a:=.int .i64 2) rfl (qAP λb7 s8 hb7 h8 u8=>qAW h8 rfl rfl rfl λs9 h9 u9=>?_))
  have hk:=hK s9 (k1.trans (k4.trans (qAX (u8.sub hb7) u9 hb7)));unfold qEB at hk;rw[e]at hk;simp only[qAZ,qAY,Bool.false_bne,qAB];exact hk
 ·refine qAA (a:=.agg (pfC (andU ip (mskU len)) len)) rfl (qAA (a:=.int .i64 0) rfl (qAP λb7 s8 hb7 h8 u8=>qAW h8 rfl rfl rfl λs9 h9 u9=>?_))
  have k9:Sub s4 s9:=qAX (u8.sub hb7) u9 hb7;have hk:=hK s9 (k1.trans (k4.trans k9));unfold qEB at hk;rw[e]at hk;have q9:=k9 _ _ (k4 _ _ q1);simp only[qAZ,qAY,Bool.false_bne,qAB];show qAK (.bool true) _ _;rw[qAE];refine qAA (qAS h9 rfl) (qAA (qAS q9 rfl) ?_);rw[eq41'];simp only[qAY,Bool.false_bne,qAB];have:(andU ip (mskU len) == ip&&len == len)=(andU ip (mskU len) == ip):=by simp
  rw[this];exact hk
theorem qYE{ip len:Int}(hc:qEB ip len=true)(h:8<=len/\len<=30):IntKind.u32.wrap (ip+lowU len)=qRx ip len:=by
 unfold qEB at hc;simp only[Bool.and_eq_true,beq_iff_eq]at hc;obtain⟨_,hc⟩:=hc;have hm:=mskR (len:=len) (by omega);rw[<- hm,qND,qT3,qUA]at hc;unfold qRx;rw[show IntKind.u32.wrap (shlU 1 (32-len).toNat-1)=lowU len from rfl,zACb,<- qBi,EL.wu32];have hi:∃A:BitVec 32,ip=(A.toNat:Int):=⟨_,hc.symm⟩
 obtain⟨A,rfl⟩:=hi;have hl:∃B:BitVec 32,lowU len=(B.toNat:Int):=by unfold lowU;rw[<- qBi,EL.wu32];refine⟨BitVec.ofNat 32 ((shlU 1 (32-len).toNat-1) % 4294967296).toNat,?_⟩;rw[BitVec.toNat_ofNat];omega
 obtain⟨B,hB⟩:=hl;rw[hB]at hc ⊢;rw[qUA,qUA]at hc ⊢;have h1:A &&& ~~~B=A:=BitVec.eq_of_toNat_eq (by
  have e:BitVec.ofInt 32 4294967295 ^^^ B = ~~~B:=by rw[show BitVec.ofInt 32 4294967295=BitVec.allOnes 32 from by decide,BitVec.allOnes_xor]
  rw[e]at hc;omega)
 have h2:A &&& B=0#32:=by
  rw[<- h1,BitVec.and_assoc]
  ext i hi
  simp
 have h3:=BitVec.add_eq_or_of_and_eq_zero A B h2;rw[<- h3,BitVec.toNat_add];omega
theorem qUk{ip len:Int}(h:0<=len/\len<=32)(hK:∀s',Sub s s'->K (.int .u32 (IntKind.u32.wrap (ip+lowU len))) s'):wC TP XX 184 [.agg (pfC ip len)] K s:=by refine qWF ⟨rfl,qAP λb s1 hb h1 u1=>?_⟩;have h1:s1 b=some (false,.cells 67 (pfC ip len)):=h1;have e0:(pfC ip len)[0]?=some (.int .u32 ip):=rfl;have e1:(pfC ip len)[1]?=some (.int .i64 len):=rfl;simp only[qAG,zA,qAB,qAI h1,e0,e1,qAx];rw[qAe (by omega) (by omega),qUR h.2];simp only[qAx,qAB,qAU];exact hK s1 (u1.sub hb)
theorem qSy{ip len ip' len':Int}(hK:∀s',Sub s s'->K (.bool (qCG ip len ip'||qCG ip' len' ip)) s'):wC TP XX 185 [.agg (pfC ip len),.agg (pfC ip' len')] K s:=by
 refine qQK ⟨rfl,qAP λb s1 hb h1 u1=>⟨rfl,qAP λb2 s3 hb2 h3 u3=>?_⟩⟩;have h1:s1 b=some (false,.cells 67 (pfC ip len)):=h1;have h3:s3 b2=some (false,.cells 67 (pfC ip' len')):=h3;have k1:=u1.sub hb;have k3:=u3.sub hb2;have e0:(pfC ip len)[0]?=some (.int .u32 ip):=rfl;have e0':(pfC ip' len')[0]?=some (.int .u32 ip'):=rfl;refine qAA (qAS (k3 _ _ h1) rfl) ?_;simp only[qAG,zA,qAB,qAI h3,e0'];refine qGv λs8 k8=>?_;have hk:=λs' (q:Sub s8 s')=>hK s' (k1.trans (k3.trans (k8.trans q)));refine qAJ (λe=>?_) (λe=>?_)
 ·rw[e]at hk ⊢
  exact hk s8 (.refl _)
 ·rw[e]at hk ⊢
  refine qAA (qAS (k8 _ _ h3) rfl) ?_;simp only[qAB,qAI (k8 _ _ (k3 _ _ h1)),e0];exact qGv λs14 k14=>hk s14 k14
theorem qZt{m:Int}(hK:K (.bool (qPA m)) s):wC TP XX 188 [.int .u64 m] K s:=by
 refine qFJ ?_;unfold qDW;have e1:∀x:Int,(andL x 1 != 0)=(andL x 1 == 1):=λx=>by
  have:andL x 1=((BitVec.ofInt 64 x &&& 1#64).toNat:Int):=by unfold andL;rw[show qBF .u64 ((BitVec.ofInt 64 x &&& BitVec.ofInt 64 1).toNat:Nat)=(((BitVec.ofInt 64 x &&& BitVec.ofInt 64 1).toNat:Nat):Int) % 18446744073709551616 from by rw[qBi];simp[IntKind.wrap,IntKind.signed,IntKind.bits],Int.emod_eq_of_lt (by omega) (by have:=(BitVec.ofInt 64 x &&& BitVec.ofInt 64 1).isLt;omega)];rfl
  rw[this,BitVec.toNat_and,show(1#64).toNat=1 from rfl,Nat.and_one_is_mod];rcases Nat.mod_two_eq_zero_or_one (BitVec.ofInt 64 x).toNat with h|h<;>rw[h]<;>rfl
 unfold qPA at hK;rw[e1]at hK;simp only[qEP,qAB];refine qAJ (λe=>?_) (λe=>?_)
 ·rw[zADH]
  simp only[qAB,qPI,qAZ,qAY,Bool.false_bne];rw[e]at hK ⊢;exact hK
 ·rw[e]at hK ⊢
  exact hK
theorem qVm{m:Int}(hK:∀r,K (.tup [.int .i64 r,.bool (qEZ m)]) s):wC TP XX 189 [.int .u64 m] K s:=by
 refine qEv ?_;unfold qDI;unfold qEZ at hK;simp only[qAR,qAB];have j0:∀(p q:AV) (bd:Bool),qAO p (.bool true) q=some (.bool bd)->(decide (m<2199023255552)||decide (2199023255584<=m))=bd->qBB XX (.int .u64 m) p q K s:=λp q bd h he=>by
  unfold qBB;rw[h];rw[he]at hK;simp only[qAB];refine qAJ (λe=>?_) (λe=>?_)
  ·rw[e]at hK;exact hK 0
  ·rw[e]at hK
   simp only[qAx,qAB];exact hK _
 refine qAJ (λe=>?_) (λe=>?_)
 ·exact j0 _ _ true (by rw[e];rfl) (by rw[e];rfl)
 ·simp only[qAo,qAB]
  exact j0 _ _ (decide (2199023255584<=m)) (by rw[e];rfl) (by rw[e];rfl)
theorem qPt{l:List Int}{n:Int}(h:Sl s lv (ix l))(hl:l.length<=4294967296)(hK:K (.bool (decide (n∈l))) s):wC TP XX 187 [lv,.int .i64 n] K s:=by
 refine qXI ?_;unfold zAAd;refine⟨λys t m=>∃i:Nat,ys=[.int .i64 (i:Int)]/\t=s/\i<=l.length/\m=l.length-i/\n ∉ l.take i,⟨_,0,rfl,rfl,by omega,rfl,by simp⟩,?_⟩;rintro e t m ⟨i,hy,rfl,hi,rfl,hn⟩;simp only[cI,and_true]at hy;rw[hy];simp only[qSB,h.len,qAm,qAR,qAB];refine qAJ (λhlt=>?_) (λhge=>?_)
 ·have hlt:i<l.length:=by have:=oT hlt;omega
  obtain⟨p,e1,e2⟩:=h.get (i:=i) (by rw[qAm];exact hlt);rw[qDU hlt]at e2;simp only[e1,e2,qAB,qAZ,qAY,Bool.false_bne];refine qAJ (λq=>?_) (λq=>?_)
  ·have q:l[i]=n:=eq_of_beq q
   have:decide (n∈l)=true:=decide_eq_true (q ▸ List.getElem_mem hlt);rw[this]at hK;exact hK
  ·have q:l[i]≠n:=by simpa using q
   simp only[qAU,qAB];rw[qAe (by omega) (by omega)];refine⟨_,by omega,i+1,rfl,(by trivial),by omega,rfl,λhm=>?_⟩;rw[List.take_succ_eq_append_getElem hlt,List.mem_append,List.mem_singleton]at hm;rcases hm with hm|hm
   ·exact hn hm
   ·exact q hm.symm
 ·have hge:i=l.length:=by have:=oF hge;omega
  subst hge;rw[List.take_length]at hn;rw[decide_eq_false hn]at hK;exact hK
theorem qXw{l:List Int}(h:Sl s lv (ix l))(hl:l.length<=4294967296)(hK:∀r,(r=true↔l.Pairwise (· < ·))->K (.bool r) s):wC TP XX 186 [lv] K s:=by
 refine qOu ?_;unfold qMm;refine⟨λys t m=>∃i:Nat,ys=[.int .i64 ((i+1:Nat):Int)]/\t=s/\i<=l.length/\m=l.length-i/\(l.take (i+1)).Pairwise (· < ·),⟨_,0,rfl,rfl,by omega,rfl,by cases l<;>simp⟩,?_⟩;rintro e t m ⟨i,hy,rfl,hi,rfl,hn⟩;simp only[cI,and_true]at hy;rw[hy];simp only[qJO,h.len,qAm,qAR,qAB];refine qAJ (λhlt=>?_) (λhge=>?_)
 ·have hlt:i+1<l.length:=by have:=oT hlt;omega
  have hlt0:i<l.length:=by omega
  obtain⟨p,e1,e2⟩:=h.get (i:=i+1) (by rw[qAm];exact hlt);rw[qDU hlt]at e2;obtain⟨p',e3,e4⟩:=h.get (i:=i) (by rw[qAm];exact hlt0);rw[qDU hlt0]at e4;simp only[qAx,qAB];rw[qAe (by omega) (by omega),show((i+1:Nat):Int)-1=(i:Int)from by omega];simp only[e1,e2,e3,e4,qAB,qEP];refine qAJ (λq=>?_) (λq=>?_)
  ·refine hK false ⟨λh=>(by cases h),λh=>?_⟩
   have:=List.pairwise_iff_getElem.1 h i (i+1) hlt0 hlt (by omega);have:=oT q;omega
  ·have q:=oF q
   simp only[qAU,qAB];rw[qAe (by omega) (by omega)];refine⟨_,by omega,i+1,rfl,(by trivial),by omega,rfl,?_⟩;rw[List.take_succ_eq_append_getElem hlt,List.pairwise_append];refine⟨hn,by simp,λa ha b hb=>?_⟩;rw[List.mem_singleton]at hb;subst hb;rw[List.take_succ_eq_append_getElem hlt0]at hn ha;rcases mP ha with ha|ha
   ·have:=(List.pairwise_append.1 hn).2.2 a ha l[i] (by simp)
    omega
   ·rw[List.mem_singleton]at ha
    omega
 ·have hge:l.length<=i+1:=by have:=oF hge;omega
  rw[List.take_of_length_le hge]at hn;exact hK true ⟨λ_=>hn,λ_=>rfl⟩
end Go.AM.TN
set_option maxRecDepth 100000
namespace Go.AM.TN
open Go Go.Proofs
variable {K:AV→Hq→Prop} {s s':Hq} {k:AV} {b:Nat} {cs:List AV} {F:FG} {v2 v3 v4 v5 v6 v7:AV} {t:Bool} {P:Prop}
abbrev Rok(s:Hq)(P:Prop)(K:AV->Hq->Prop):Prop:=∀(e:Int) (s':Hq),Sub s s'->(e=0↔P)->K (.int .i64 e) s'
theorem Rok.bad(h:Rok s P K){e:Int}(he:e≠0)(k:Sub s s')(hn:¬P):K (.int .i64 e) s':=h e s' k ⟨λh=>absurd h he,λh=>absurd h hn⟩
theorem Rok.good(h:Rok s P K)(k:Sub s s')(hp:P):K (.int .i64 0) s':=h 0 s' k ⟨λ_=>hp,λ_=>rfl⟩
theorem nit{A B:Type}{f:A->B}{l:List A}{k:Nat}{a:A}{b:B}(h:l[k]?=some a):b∈(l.take (k+1)).map f↔b∈(l.take k).map f∨b=f a:=by rw[List.take_add_one,h];simp
theorem qTT(hF:FabR s cs F)(hK:Rok s (FabOk F) K):wC TP XX 116 [.agg cs] K s:=by
 obtain⟨v2,v3,v4,v5,v6,v7,rfl,hL⟩:=hF;refine qQ1 ⟨hL.all,qAP λb s1 hb h1 u1=>?_⟩;have h1:s1 b=some (false,.cells 31 (csG F v2 v3 v4 v5 v6 v7)):=h1;have k1:=u1.sub hb;simp only[qAG,zA,qAB,qAI h1,csG0];refine qAv ?_;simp only[qAa,qAB,Bool.not_not];cases a0:outB F.lf 1 32 with
 | true=>
   simp only[qAE,qEE,qDK,qCv,qCR,qCP,qAV,qAB];exact hK.bad (by decide) k1 λg=>by rw[qAk.2 g.lf]at a0;cases a0
 |false=>
 have g0:=qAk.1 a0;simp only[qAD,qAB,qAI h1,csG1];refine qAv ?_;simp only[qAa,qAB,Bool.not_not];cases a1:outB F.sp 0 32 with
 | true=>
   simp only[qAE,qEE,qDK,qCv,qCR,qCP,qAV,qAL,qAB];exact hK.bad (by decide) k1 λg=>by rw[qAk.2 g.sp]at a1;cases a1
 |false=>
 have g1:=qAk.1 a1;simp only[qEE,qAL,qAD,qAG,zA,qAB,qAI h1,csG0,csG1,qAU,qAh];rw[qAe (by omega) (by omega)];cases a2:decide (32<F.lf+F.sp)with
 | true=>
   simp only[qAE,qDK,qCv,qCR,qCP,qAV,qAL,qAB];exact hK.bad (by decide) k1 λg=>by have:=oT a2;have:=g.sum;omega
 |false=>
 have g2:=oF a2;simp only[qDK,qAL,qAD,qAG,zA,qAB,qAI h1,csG8];refine qAv ?_;simp only[qAa,qAB,Bool.not_not];cases a3:outB F.el 0 2 with
 | true=>
   simp only[qAE,qCv,qCR,qCP,qAV,qAL,qAB];exact hK.bad (by decide) k1 λg=>by rw[qAk.2 g.el]at a3;cases a3
 |false=>
 have g3:=qAk.1 a3;simp only[qCv,qAL,qAD,qAG,zA,qAB,qAI h1,csG9];refine qAv ?_;simp only[qAa,qAB,Bool.not_not];cases a4:outB F.hz 0 1 with
 | true=>
   simp only[qAE,qCR,qCP,qAV,qAL,qAB];exact hK.bad (by decide) k1 λg=>by rw[qAk.2 g.hz]at a4;cases a4
 |false=>
 have g4:=qAk.1 a4;simp only[qCR,qAL,qAD,qAG,zA,qAB,qAI h1,zAC9];refine qAv ?_;simp only[qAa,qAB,Bool.not_not,qCP,qAL];refine qAJ (λq=>?_) (λq=>?_)
 ·exact hK.bad (by decide) k1 λg=>by rw[qAk.2 g.ro]at q;cases q
 ·exact hK.good k1 ⟨g0,g1,by omega,g3,g4,qAk.1 q⟩
theorem qVJ(hK:Rok s (TimOk F) K):wC TP XX 117 [.agg [.int .i64 F.de,.int .i64 F.ho,.int .i64 F.ag,.int .i64 F.re,.int .i64 F.mo,.int .i64 F.wi]] K s:=by
 refine qSa ⟨rfl,qAP λb s1 hb h1 u1=>?_⟩;generalize hcs:[AV.int .i64 F.de,.int .i64 F.ho,.int .i64 F.ag,.int .i64 F.re,.int .i64 F.mo,.int .i64 F.wi]=cs at h1;have h1:s1 b=some (false,.cells 29 cs):=h1;have c0:cs[0]?=some (.int .i64 F.de):=by rw[<- hcs];rfl
 have c1:cs[1]?=some (.int .i64 F.ho):=by rw[<- hcs];rfl
 have c2:cs[2]?=some (.int .i64 F.ag):=by rw[<- hcs];rfl
 have c3:cs[3]?=some (.int .i64 F.re):=by rw[<- hcs];rfl
 have c4:cs[4]?=some (.int .i64 F.mo):=by rw[<- hcs];rfl
 have c5:cs[5]?=some (.int .i64 F.wi):=by rw[<- hcs];rfl
 have k1:=u1.sub hb;simp only[qAG,zA,qAB,qAI h1,c0];refine qAv ?_;simp only[qAa,qAB,Bool.not_not];cases a0:outB F.de 1 100 with
 | true=>
   simp only[qAE,qEz,qDs,qDJ,qCo,qCm,qAV,qAB];exact hK.bad (by decide) k1 λg=>by rw[qAk.2 g.de]at a0;cases a0
 |false=>
 simp only[qAD,qAB,qAI h1,c1];refine qAv ?_;simp only[qAa,qAB,Bool.not_not];cases a1:outB F.ho 3 1000 with
 | true=>
   simp only[qAE,qEz,qDs,qDJ,qCo,qCm,qAV,qAL,qAB];exact hK.bad (by decide) k1 λg=>by rw[qAk.2 g.ho]at a1;cases a1
 |false=>
 simp only[qEz,qAL,qAD,qAG,zA,qAB,qAI h1,c2];refine qAv ?_;simp only[qAa,qAB,Bool.not_not];cases a2:outB F.ag 1 10000 with
 | true=>
   simp only[qAE,qDs,qDJ,qCo,qCm,qAV,qAL,qAB];exact hK.bad (by decide) k1 λg=>by rw[qAk.2 g.ag]at a2;cases a2
 |false=>
 simp only[qDs,qAL,qAD,qAG,zA,qAB,qAI h1,c3];refine qAv ?_;simp only[qAa,qAB,Bool.not_not];cases a3:outB F.re 0 1000 with
 | true=>
   simp only[qAE,qDJ,qCo,qCm,qAV,qAL,qAB];exact hK.bad (by decide) k1 λg=>by rw[qAk.2 g.re]at a3;cases a3
 |false=>
 simp only[qDJ,qAL,qAD,qAG,zA,qAB,qAI h1,c4];refine qAv ?_;simp only[qAa,qAB,Bool.not_not];cases a4:outB F.mo 1 100 with
 | true=>
   simp only[qAE,qCo,qCm,qAV,qAL,qAB];exact hK.bad (by decide) k1 λg=>by rw[qAk.2 g.mo]at a4;cases a4
 |false=>
 simp only[qCo,qAL,qAD,qAG,zA,qAB,qAI h1,c5];refine qAv ?_;simp only[qAa,qAB,Bool.not_not,qCm,qAL];refine qAJ (λq=>?_) (λq=>?_)
 ·exact hK.bad (by decide) k1 λg=>by rw[qAk.2 g.wi]at q;cases q
 ·exact hK.good k1 ⟨qAk.1 a0,qAk.1 a1,qAk.1 a2,qAk.1 a3,qAk.1 a4,qAk.1 q⟩
theorem qZl(hf:FabOk F)(hn:F.L.length<=4294967296)(hF:FabR s cs F){i:Nat}{x:RLk}(hx:F.L[i]?=some x)(hK:Rok s (LkG F x/\(x.1,x.2.1) ∉ (F.L.take i).map λx=>(x.1,x.2.1)) K):wC TP XX 143 [.agg cs,.int .i64 (i:Int)] K s:=by
 obtain⟨v2,v3,v4,v5,v6,v7,rfl,hL⟩:=hF;refine qVF ⟨hL.all,qAP λb s1 hb h1 u1=>?_⟩;have h1:s1 b=some (false,.cells 31 (csG F v2 v3 v4 v5 v6 v7)):=h1;have k1:=u1.sub hb;have hi:=(gS hx).1;obtain⟨pb,po,e1,e2,e3⟩:=(hL.sub k1).L.get (i:=i) (r:=lkC x) (by rw[List.getElem?_map,hx];rfl);simp only[qAG,zA,qAB,qAI h1,csG2,e1,e2];refine qAP λb6 s7 hb6 h7 u7=>qAW h7 rfl rfl rfl λs8 h8 u8=>?_;have k8:Sub s1 s8:=qAX (u7.sub hb6) u8 hb6;have h18:=k8 _ _ h1;have L8:=(hL.sub (k1.trans k8)).L;have kS:=k1.trans k8;have x0:(lkC x)[0]?=some (.int .i64 x.1):=rfl;have x1:(lkC x)[1]?=some (.int .i64 x.2.1):=rfl;have x2:(lkC x)[2]?=some (.int .i64 x.2.2):=rfl;have hlf:=hf.lf;have hsp:=hf.sp;simp only[qAB,qAI h8,x0,qAI h18,csG0,qAx];rw[qAe (by omega) (by omega)];refine qAv ?_;simp only[qAa,qAB,Bool.not_not];cases a0:outB x.1 0 (F.lf-1)with
 | true=>
   simp only[qAE,qHL,qFy,qAV,qAB];refine hK.bad (by decide) kS λg=>?_;have:=g.1.1;rw[qAk.2 (by omega)]at a0;cases a0
 |false=>
 have g0:=qAk.1 a0;simp only[qAD,qAB,qAI h8,x1,qAI h18,csG0,csG1,qAU];rw[qAe (by omega) (by omega)];simp only[qAx,qAB];rw[qAe (by omega) (by omega)];refine qAv ?_;simp only[qAa,qAB,Bool.not_not];cases a1:outB x.2.1 F.lf (F.lf+F.sp-1)with
 | true=>
   simp only[qAE,qHL,qFy,qAV,qAL,qAB];refine hK.bad (by decide) kS λg=>?_;have:=g.1.2.1;rw[qAk.2 (by omega)]at a1;cases a1
 |false=>
 have g1:=qAk.1 a1;simp only[qHL,qAL,qAD,qAG,zA,qAB,qAI h8,x2];refine qAv ?_;simp only[qAa,qAB,Bool.not_not];cases a2:outB x.2.2 1 1000 with
 | true=>
   simp only[qAE,qFy,qAL,qAB];refine hK.bad (by decide) kS λg=>?_;rw[qAk.2 g.1.2.2]at a2;cases a2
 |false=>
 have hg:LkG F x:=⟨by omega,by omega,qAk.1 a2⟩
 simp only[qFy,qAL,qAD,qAB,qJw];refine⟨λys t m=>∃k:Nat,ys=[.int .i64 (k:Int)]/\t=s8/\k<=i/\m=i-k/\(x.1,x.2.1) ∉ (F.L.take k).map λx=>(x.1,x.2.1),⟨_,0,rfl,rfl,by omega,rfl,by simp⟩,?_⟩;rintro e t m ⟨k,hy,rfl,hki,rfl,hno⟩;simp only[cI,and_true]at hy;rw[hy];simp only[qPh,qAR,qAB];refine qAJ (λhlt=>?_) (λhge=>?_)
 ·have hlt:k<i:=by have:=oT hlt;omega
  have hk:F.L[k]?=some F.L[k]:=gE (by omega);generalize F.L[k]=z at hk;obtain⟨pb,po,e1,e2,e3⟩:=L8.get (i:=k) (r:=lkC z) (by rw[List.getElem?_map,hk];rfl);have z0:rd1 t (.ptr pb po)=some (.int .i64 z.1):=e3 0 (by omega);have z1:rd1 t (.ptr pb (po+1))=some (.int .i64 z.2.1):=e3 1 (by omega);have next:(x.1,x.2.1)≠(z.1,z.2.1)->oK (qAH .add (.int .i64 (k:Int)) (.int .i64 1)) λv_19=>∃m',m'<i-k/\∃k:Nat,[v_19]=[AV.int .i64 (k:Int)]/\True/\k<=i/\m'=i-k/\(x.1,x.2.1) ∉ (F.L.take k).map λx=>(x.1,x.2.1):=λhne=>by
   simp only[qAU,qAB];rw[qAe (by omega) (by omega)];exact⟨_,by omega,k+1,rfl,trivial,by omega,rfl,λhm=>by
    rcases(nit hk).1 hm with hm|hm
    ·exact hno hm
    ·exact hne hm⟩
  simp only[qAG,Nat.add_zero,zA,qAB,qAI h18,csG2,e1,z0,qAI h8,x0,qAZ,qAY,Bool.false_bne];cases q:(z.1 == x.1)with
  | false=>
    simp only[qAD,qJq,qAL,qAB];exact next λh=>by have:=congrArg Prod.fst h;simp only at this;rw[this]at q;simp at q
  | true=>
    have q:z.1=x.1:=eq_of_beq q;simp only[qAE,qAB,z1,x1,qAZ,qAY,Bool.false_bne,qJq,qAV];refine qAJ (λq2=>?_) (λq2=>?_)
    ·have q2:z.2.1=x.2.1:=eq_of_beq q2
     refine hK.bad (by decide) kS λg=>g.2 ?_;refine List.mem_map.2 ⟨z,mG (i:=k) (by rw[List.getElem?_take,if_pos hlt];exact hk),by rw[q,q2]⟩
    ·exact next λh=>by have:=congrArg Prod.snd h;simp only at this;rw[this]at q2;simp at q2
 ·have hge:k=i:=by have:=oF hge;omega
  subst hge;unfold qJd;exact hK.good kS ⟨hg,hno⟩
theorem qVI(hn:F.T.length<=4294967296)(hF:FabR s cs F){i:Nat}{x:Int×Int}(hx:F.T[i]?=some x)(hK:Rok s (TnG x/\x.1 ∉ (F.T.take i).map (·.1)/\x.2 ∉ (F.T.take i).map (·.2)) K):wC TP XX 144 [.agg cs,.int .i64 (i:Int)] K s:=by
 obtain⟨v2,v3,v4,v5,v6,v7,rfl,hL⟩:=hF;refine qRN ⟨hL.all,qAP λb s1 hb h1 u1=>?_⟩;have h1:s1 b=some (false,.cells 31 (csG F v2 v3 v4 v5 v6 v7)):=h1;have k1:=u1.sub hb;have hi:=(gS hx).1;obtain⟨pb,po,e1,e2,e3⟩:=(hL.sub k1).T.get (i:=i) (r:=tgC x) (by rw[List.getElem?_map,hx];rfl);simp only[qAG,zA,qAB,qAI h1,csG3,e1,e2];refine qAP λb6 s7 hb6 h7 u7=>qAW h7 rfl rfl rfl λs8 h8 u8=>?_;have k8:Sub s1 s8:=qAX (u7.sub hb6) u8 hb6;have h18:=k8 _ _ h1;have T8:=(hL.sub (k1.trans k8)).T;have kS:=k1.trans k8;have x0:(tgC x)[0]?=some (.int .u32 x.1):=rfl;have x1:(tgC x)[1]?=some (.int .u32 x.2):=rfl;simp only[qAB,qAI h8,x0,qAR];cases a0:decide (x.1<1)with
 | true=>
   simp only[qAE,qE1,qDy,qAV,qAB];refine hK.bad (by decide) kS λg=>?_;have:=g.1.1;have:=oT a0;omega
 |false=>
 have g0:=oF a0;simp only[qAD,qAB,qAh];cases a1:decide (16777215<x.1)with
 | true=>
   simp only[qAE,qE1,qDy,qAV,qAL,qAB];refine hK.bad (by decide) kS λg=>?_;have:=g.1.2.1;have:=oT a1;omega
 |false=>
 have g1:=oF a1;simp only[qE1,qAL,qAD,qAG,zA,qAB,qAI h8,x1,qAZ,qAY,Bool.false_bne];cases a2:(x.2 == 0)with
 | true=>
   simp only[qAE,qDy,qAL,qAB];exact hK.bad (by decide) kS λg=>g.1.2.2 (eq_of_beq a2)
 |false=>
 have hg:TnG x:=⟨by omega,by omega,by simpa using a2⟩
 simp only[qDy,qAL,qAD,qAB,qGW];refine⟨λys t m=>∃k:Nat,ys=[.int .i64 (k:Int)]/\t=s8/\k<=i/\m=i-k/\x.1 ∉ (F.T.take k).map (·.1)/\x.2 ∉ (F.T.take k).map (·.2),⟨_,0,rfl,rfl,by omega,rfl,by simp,by simp⟩,?_⟩;rintro e t m ⟨k,hy,rfl,hki,rfl,hn1,hn2⟩;simp only[cI,and_true]at hy;rw[hy];simp only[qMh,qAR,qAB];refine qAJ (λhlt=>?_) (λhge=>?_)
 ·have hlt:k<i:=by have:=oT hlt;omega
  have hk:F.T[k]?=some F.T[k]:=gE (by omega);generalize F.T[k]=z at hk;have hzm:z∈F.T.take i:=mG (i:=k) (by rw[List.getElem?_take,if_pos hlt];exact hk);obtain⟨pb,po,e1,e2,e3⟩:=T8.get (i:=k) (r:=tgC z) (by rw[List.getElem?_map,hk];rfl);have z0:rd1 t (.ptr pb po)=some (.int .u32 z.1):=e3 0 (by omega);have z1:rd1 t (.ptr pb (po+1))=some (.int .u32 z.2):=e3 1 (by omega);simp only[qAG,Nat.add_zero,zA,qAB,qAI h18,csG3,e1,z0,qAI h8,x0,qAZ,qAY,Bool.false_bne];cases q:(z.1 == x.1)with
  | true=>
    have q:z.1=x.1:=eq_of_beq q;simp only[qAE,qGr,qAV,qAB];exact hK.bad (by decide) kS λg=>g.2.1 (List.mem_map.2 ⟨z,hzm,q⟩)
  | false=>
    simp only[qAD,qAB,z1,x1,qAZ,qAY,Bool.false_bne,qGr,qAL];refine qAJ (λq2=>?_) (λq2=>?_)
    ·have q2:z.2=x.2:=eq_of_beq q2
     exact hK.bad (by decide) kS λg=>g.2.2 (List.mem_map.2 ⟨z,hzm,q2⟩)
    ·simp only[qAU,qAB]
     rw[qAe (by omega) (by omega)];refine⟨_,by omega,k+1,rfl,(by trivial),by omega,rfl,λhm=>?_,λhm=>?_⟩
     ·rcases(nit hk).1 hm with hm|hm
      ·exact hn1 hm
      ·rw[hm]at q;simp at q
     ·rcases(nit hk).1 hm with hm|hm
      ·exact hn2 hm
      ·rw[hm]at q2;simp at q2
 ·have hge:k=i:=by have:=oF hge;omega
  subst hge;unfold qGk;exact hK.good kS ⟨hg,hn1,hn2⟩
end Go.AM.TN
set_option maxRecDepth 100000
namespace Go.AM.TN
open Go Go.Proofs
variable {K:AV→Hq→Prop} {s s':Hq} {y k:AV} {b b6 b11:Nat} {cs:List AV} {F:FG} {v2 v3 v4 v5 v6 v7:AV} {t:Bool} {P Q:Prop} {i:Nat} {x:BG}
theorem Rok.imp(h:Rok s P K)(k:Sub s s')(e:Q↔P):Rok s' Q K:=λe' s2 k2 h2=>h e' s2 (k.trans k2) (h2.trans e)
theorem zACA{b o n k j:Nat}{l:List AV}(h:rdN s n (.ptr b o)=some l)(hj:j+k<=n):rdN s k (.ptr b (o+j))=some ((l.drop j).take k):=by
 unfold rdN at h ⊢;simp only at h ⊢;split at h
 ·rename_i t e cs hb
  unfold qGe at h ⊢;cases hc:Nat.ble (o+n) cs.length with
  |false=>rw[hc]at h;cases h
  | true=>
    rw[hc]at h;have hle:=Nat.le_of_ble_eq_true hc;cases h;rw[bL (show o+j+k<=cs.length by omega)];simp only[cond_true,Option.some.injEq];apply List.ext_getElem?;intro i;simp only[List.getElem?_take,List.getElem?_drop]
    by_cases hi:i<k
    ·rw[if_pos hi,if_pos hi,if_pos (by omega),Nat.add_assoc]
    ·rw[if_neg hi,if_neg hi]
 ·cases h
theorem qQg{A:Type}{p:A->Bool}{l:List A}{k:Nat}{a:A}(h:l[k]?=some a):(l.take (k+1)).any p=((l.take k).any p||p a):=by rw[List.take_add_one,h];simp
theorem zADG{A:Type}{p:A->Bool}{l:List A}{k i:Nat}{a:A}(h:l[k]?=some a)(hk:k<i)(hp:p a=true):(l.take i).any p=true:=
 List.any_eq_true.2 ⟨a,mG (i:=k) (by rw[List.getElem?_take,if_pos hk];exact h),hp⟩
theorem zABq(hn:F.B.length<=4294967296)(hi:i<F.B.length)(h1:s b=some (false,.cells 31 (csG F v2 v3 v4 v5 v6 v7)))(h6:s b6=some (false,.cells 69 (bgC x)))(hB:SlR 6 s v4 (F.B.map bgC))(hg:x.2.2.2.2.2≠0)(hK:Rok s (BdS F i x) K):qFD XX (.int .i64 (i:Int)) (.ptr b 0) (.ptr b6 0) K s:=by
 unfold qFD;have d:BdS F i x↔qEB x.2.2.2.1 x.2.2.2.2.1=true/\(8<=x.2.2.2.2.1/\x.2.2.2.2.1<=30)/\qKU x.2.2.2.1 x.2.2.2.2.1 x.2.2.2.2.2=true/\(F.B.take i).any (qON x)=false:=⟨λh=>h.2 hg,λh=>⟨λe=>absurd e hg,λ_=>h⟩⟩
 rw[d]at hK;clear d;have x5:(bgC x)[5]?=some (.int .u32 x.2.2.2.2.2):=rfl;have x0:(bgC x)[0]?=some (.int .i64 x.1):=rfl;have rd:rdN s 2 (.ptr b6 3)=some (pfC x.2.2.2.1 x.2.2.2.2.1):=by simp only[rdN,h6];rfl
 simp only[qAG,zA,qAB,rd];refine qAP λb11 s12 hb11 h12 u12=>qAW h12 rfl rfl rfl λs13 h13 u13=>qAA (qAS h13 rfl) ?_;have k13:Sub s s13:=qAX (u12.sub hb11) u13 hb11;refine qR8 λs42 k42=>?_;have h11:=k42 _ _ h13;have p0:(pfC x.2.2.2.1 x.2.2.2.2.1)[0]?=some (.int .u32 x.2.2.2.1):=rfl;have p1:(pfC x.2.2.2.1 x.2.2.2.2.1)[1]?=some (.int .i64 x.2.2.2.2.1):=rfl;have q42:=k13.trans k42;simp only[qAa,qAB];cases a0:qEB x.2.2.2.1 x.2.2.2.2.1 with
 | false=>
   simp only[Bool.not_false,qAE,qE8,qDQ,qCp,qAV,qAB];exact hK.bad (by decide) q42 λg=>by rw[g.1]at a0;cases a0
 |true=>
 simp only[Bool.not_true,qAD,qAB,qAI h11,p1];refine qAv ?_;simp only[qAa,qAB,Bool.not_not];cases a1:outB x.2.2.2.2.1 8 30 with
 | true=>
   simp only[qAE,qE8,qDQ,qCp,qAV,qAL,qAB];exact hK.bad (by decide) q42 λg=>by rw[qAk.2 g.2.1]at a1;cases a1
 |false=>
 have g1:=qAk.1 a1;have h6':=q42 _ _ h6;simp only[qE8,qAL,qAD,qAB];refine qAA (qAS h11 rfl) ?_;simp only[qAG,zA,qAB,qAI h6',x5];refine qGv λs64 k64=>?_;have q64:=q42.trans k64;have h11:=k64 _ _ h11;have h6':=q64 _ _ h6;simp only[qAa,qAB];have inn:∀(p q r:Bool),qCG x.2.2.2.1 x.2.2.2.2.1 x.2.2.2.2.2=p->(x.2.2.2.2.2 == x.2.2.2.1)=q->(x.2.2.2.2.2 == qRx x.2.2.2.1 x.2.2.2.2.1)=r->qKU x.2.2.2.1 x.2.2.2.2.1 x.2.2.2.2.2=(p&&!q&&!r):=λp q r hp hq hr=>by unfold qKU;rw[hp,bne,hq,bne,hr]
 cases a2:qCG x.2.2.2.1 x.2.2.2.2.1 x.2.2.2.2.2 with
 | false=>
   simp only[Bool.not_false,qAE,qDQ,qCp,qAV,qAL,qAB];exact hK.bad (by decide) q64 λg=>by have:=g.2.2.1;rw[inn _ _ _ a2 rfl rfl]at this;simp at this
 |true=>
 simp only[Bool.not_true,qAD,qDQ,qAL,qAG,zA,qAB,qAI h6',x5,qAI h11,p0,qAZ,qAY,Bool.false_bne];cases a3:(x.2.2.2.2.2 == x.2.2.2.1)with
 | true=>
   simp only[qAE,qCp,qAV,qAL,qAB];exact hK.bad (by decide) q64 λg=>by have:=g.2.2.1;rw[inn _ _ _ a2 a3 rfl]at this;simp at this
 |false=>
 simp only[qCp,qAL,qAD,qAB,qAG,zA,qAI h6',x5];refine qAA (qAS h11 rfl) (qUk (by omega) λs52 k52=>?_);intro _;rw[qYE a0 g1];have kT:Sub s64 (add s64 s52):=qGw;generalize add s64 s52=T at kT;have qT:=q64.trans kT;have h11:=kT _ _ h11;have h6':=qT _ _ h6;have h1':=qT _ _ h1;have B':=hB.sub qT;simp only[qAZ,qAY,Bool.false_bne,qAB];cases a4:(x.2.2.2.2.2 == qRx x.2.2.2.1 x.2.2.2.2.1)with
 | true=>
   simp only[qAE];exact hK.bad (by decide) qT λg=>by have:=g.2.2.1;rw[inn _ _ _ a2 a3 a4]at this;simp at this
 |false=>
 have hin:qKU x.2.2.2.1 x.2.2.2.2.1 x.2.2.2.2.2=true:=by rw[inn _ _ _ a2 a3 a4];rfl
 simp only[qAD,qFB];refine⟨λys t m=>∃k:Nat,ys=[.int .i64 (k:Int)]/\Sub T t/\k<=i/\m=i-k/\(F.B.take k).any (qON x)=false,⟨_,0,rfl,.refl _,by omega,rfl,rfl⟩,?_⟩;rintro e t m ⟨k,hy,kt,hki,rfl,hno⟩;simp only[cI,and_true]at hy;rw[hy];have ht1:=kt _ _ h1';have ht6:=kt _ _ h6';have ht11:=kt _ _ h11;have qt:=qT.trans kt;simp only[qMT,qAR,qAB];refine qAJ (λhlt=>?_) (λhge=>?_)
 ·have hlt:k<i:=by have:=oT hlt;omega
  have hk:F.B[k]?=some F.B[k]:=gE (by omega);generalize F.B[k]=z at hk;obtain⟨pb,po,e1,e2,e3⟩:=(B'.sub kt).get (i:=k) (r:=bgC z) (by rw[List.getElem?_map,hk];rfl);have z0:rd1 t (.ptr pb po)=some (.int .i64 z.1):=e3 0 (by omega);have z5:rd1 t (.ptr pb (po+5))=some (.int .u32 z.2.2.2.2.2):=e3 5 (by omega);have zp:rdN t 2 (.ptr pb (po+3))=some (pfC z.2.2.2.1 z.2.2.2.2.1):=zACA (j:=3) (k:=2) e2 (by omega);have next:∀{t2:Hq},Sub t t2->qON x z=false->oK (qAH .add (.int .i64 (k:Int)) (.int .i64 1)) λv_25=>∃m',m'<i-k/\∃k:Nat,[v_25]=[AV.int .i64 (k:Int)]/\Sub T t2/\k<=i/\m'=i-k/\(F.B.take k).any (qON x)=false:=λk2 ho=>by simp only[qAU,qAB];rw[qAe (by omega) (by omega)];exact⟨_,by omega,k+1,rfl,kt.trans k2,by omega,rfl,by rw[qQg hk,hno,ho];rfl⟩
  have hov:∀p q r:Bool,(z.1 == x.1)=p->(z.2.2.2.2.2 != 0)=q->(qCG z.2.2.2.1 z.2.2.2.2.1 x.2.2.2.1||qCG x.2.2.2.1 x.2.2.2.2.1 z.2.2.2.1)=r->qON x z=(p&&q&&r):=λp q r h1 h2 h3=>by unfold qON;rw[h1,h2,h3]
  simp only[qAG,Nat.add_zero,zA,qAB,qAI ht1,csG4,e1,z0,qAI ht6,x0,qAZ,qAY,Bool.false_bne];cases q:(z.1 == x.1)with
  | false=>
    simp only[qAD,qGY,qFE,qAL,qAB];exact next (.refl _) (by rw[hov _ _ _ q rfl rfl];rfl)
  |true=>
  simp only[qAE,qAG,zA,qAB,qAI ht1,csG4,e1,z5,qAZ,qAY,Bool.true_bne,qGY,qAV];cases q2:(z.2.2.2.2.2 == 0)with
  | true=>
    simp only[Bool.not_true,qAD,qFE,qAL,qAB];exact next (.refl _) (by rw[hov _ _ _ q (by rw[bne,q2]) rfl];rfl)
  |false=>
  simp only[Bool.not_false,qAE,qAB,zp];refine qAA (qAS ht11 rfl) (qSy λs33 k33=>?_);simp only[qFE,qAV,qAB];refine qAJ (λq3=>?_) (λq3=>?_)
  ·exact hK.bad (by decide) (qt.trans k33) λg=>by have:=zADG (p:=qON x) hk hlt (by rw[hov _ _ _ q (by rw[bne,q2]) q3];rfl);rw[g.2.2.2]at this;cases this
  ·exact next k33 (by rw[hov _ _ _ q (by rw[bne,q2]) q3];rfl)
 ·have hge:k=i:=by have:=oF hge;omega
  subst hge;unfold qGb;exact hK.good qt ⟨a0,g1,hin,hno⟩
theorem zABF(hn:F.B.length<=4294967296)(hi:i<F.B.length)(h1:s b=some (false,.cells 31 (csG F v2 v3 v4 v5 v6 v7)))(h6:s b6=some (false,.cells 69 (bgC x)))(hB:SlR 6 s v4 (F.B.map bgC))(hK:Rok s (BdS F i x) K):qE2 XX (.int .i64 (i:Int)) (.ptr b 0) (.ptr b6 0) K s:=by
 unfold qE2;have x5:(bgC x)[5]?=some (.int .u32 x.2.2.2.2.2):=rfl;have rd:rdN s 2 (.ptr b6 3)=some (pfC x.2.2.2.1 x.2.2.2.2.1):=by simp only[rdN,h6];rfl
 simp only[qAG,zA,qAB,qAI h6,x5,qAZ,qAY,Bool.false_bne];refine qAJ (λq=>?_) (λq=>zABq hn hi h1 h6 hB (by simpa using q) hK);have q:x.2.2.2.2.2=0:=eq_of_beq q;refine qAA rd (qAA (a:=[.int .u32 0,.int .i64 0]) rfl ?_);rw[eq41'];simp only[qAY,Bool.true_bne,qAB];cases a:(x.2.2.2.1 == 0&&x.2.2.2.2.1 == 0)with
 | false=>
   simp only[Bool.not_false,qAE];exact hK.bad (by decide) (.refl _) λg=>by obtain⟨e1,e2⟩:=g.1 q;rw[e1,e2]at a;cases a
 | true=>
   simp only[Bool.not_true,qAD];simp only[Bool.and_eq_true,beq_iff_eq]at a;exact hK.good (.refl _) ⟨λ_=>a,λh=>absurd q h⟩
theorem zACZ(hn:F.B.length<=4294967296)(hi:i<F.B.length)(h1:s b=some (false,.cells 31 (csG F v2 v3 v4 v5 v6 v7)))(h6:s b6=some (false,.cells 69 (bgC x)))(hB:SlR 6 s v4 (F.B.map bgC))(hK:Rok s ((x.2.1 ∉ (F.B.take i).map (·.2.1)/\x.2.2.1 ∉ (F.B.take i).map (·.2.2.1))/\BdS F i x) K):qE7 XX (.int .i64 (i:Int)) (.ptr b 0) (.ptr b6 0) K s:=by
 unfold qE7;have x1:(bgC x)[1]?=some (.int .u32 x.2.1):=rfl;have x2:(bgC x)[2]?=some (.int .u32 x.2.2.1):=rfl;refine⟨λys t m=>∃k:Nat,ys=[.int .i64 (k:Int)]/\t=s/\k<=i/\m=i-k/\x.2.1 ∉ (F.B.take k).map (·.2.1)/\x.2.2.1 ∉ (F.B.take k).map (·.2.2.1),⟨_,0,rfl,rfl,by omega,rfl,by simp,by simp⟩,?_⟩;rintro e t m ⟨k,hy,rfl,hki,rfl,hn1,hn2⟩;simp only[cI,and_true]at hy;rw[hy];simp only[qK2,qAR,qAB];refine qAJ (λhlt=>?_) (λhge=>?_)
 ·have hlt:k<i:=by have:=oT hlt;omega
  have hk:F.B[k]?=some F.B[k]:=gE (by omega);generalize F.B[k]=z at hk;have hzm:z∈F.B.take i:=mG (i:=k) (by rw[List.getElem?_take,if_pos hlt];exact hk);obtain⟨pb,po,e1,e2,e3⟩:=hB.get (i:=k) (r:=bgC z) (by rw[List.getElem?_map,hk];rfl);have z1:rd1 t (.ptr pb (po+1))=some (.int .u32 z.2.1):=e3 1 (by omega);have z2:rd1 t (.ptr pb (po+2))=some (.int .u32 z.2.2.1):=e3 2 (by omega);simp only[qAG,zA,qAB,qAI h1,csG4,e1,z1,qAI h6,x1,qAZ,qAY,Bool.false_bne];cases q:(z.2.1 == x.2.1)with
  | true=>
    have q:z.2.1=x.2.1:=eq_of_beq q;simp only[qAE,qFp,qAV,qAB];exact hK.bad (by decide) (.refl _) λg=>g.1.1 (List.mem_map.2 ⟨z,hzm,q⟩)
  | false=>
    simp only[qAD,qAB,z2,x2,qAZ,qAY,Bool.false_bne,qFp,qAL];refine qAJ (λq2=>?_) (λq2=>?_)
    ·have q2:z.2.2.1=x.2.2.1:=eq_of_beq q2
     exact hK.bad (by decide) (.refl _) λg=>g.1.2 (List.mem_map.2 ⟨z,hzm,q2⟩)
    ·simp only[qAU,qAB]
     rw[qAe (by omega) (by omega)];refine⟨_,by omega,k+1,rfl,(by trivial),by omega,rfl,λhm=>?_,λhm=>?_⟩
     ·rcases(nit hk).1 hm with hm|hm
      ·exact hn1 hm
      ·rw[hm]at q;simp at q
     ·rcases(nit hk).1 hm with hm|hm
      ·exact hn2 hm
      ·rw[hm]at q2;simp at q2
 ·have hge:k=i:=by have:=oF hge;omega
  subst hge;exact zABF hn hi h1 h6 hB (hK.imp (.refl _) ⟨λh=>⟨⟨hn1,hn2⟩,h⟩,λh=>h.2⟩)
theorem zAB3(hT:F.T.length<=4294967296)(hn:F.B.length<=4294967296)(hi:i<F.B.length)(h1:s b=some (false,.cells 31 (csG F v2 v3 v4 v5 v6 v7)))(h6:s b6=some (false,.cells 69 (bgC x)))(hTn:SlR 2 s v3 (F.T.map tgC))(hB:SlR 6 s v4 (F.B.map bgC))(hK:Rok s ((F.T.any (λy=>y.1 == x.2.1)=false/\F.T.any (λy=>y.2 == x.2.2.1)=false)/\(x.2.1 ∉ (F.B.take i).map (·.2.1)/\x.2.2.1 ∉ (F.B.take i).map (·.2.2.1))/\BdS F i x) K):qFA XX (.int .i64 (i:Int)) (.ptr b 0) (.ptr b6 0) K s:=by
 unfold qFA;have x1:(bgC x)[1]?=some (.int .u32 x.2.1):=rfl;have x2:(bgC x)[2]?=some (.int .u32 x.2.2.1):=rfl;have lenT:qAN v3=some F.T.length:=by rw[hTn.len,lM]
 refine⟨λys t m=>∃k:Nat,ys=[.int .i64 (k:Int)]/\t=s/\k<=F.T.length/\m=F.T.length-k/\(F.T.take k).any (λy=>y.1 == x.2.1)=false/\(F.T.take k).any (λy=>y.2 == x.2.2.1)=false,⟨_,0,rfl,rfl,by omega,rfl,rfl,rfl⟩,?_⟩;rintro e t m ⟨k,hy,rfl,hki,rfl,hn1,hn2⟩;simp only[cI,and_true]at hy;rw[hy];simp only[qLR,qAG,zA,qAI h1,csG3,lenT,qAR,qAB];refine qAJ (λhlt=>?_) (λhge=>?_)
 ·have hlt:k<F.T.length:=by have:=oT hlt;omega
  have hk:F.T[k]?=some F.T[k]:=gE (by omega);generalize F.T[k]=z at hk;have hzm:z∈F.T:=mG hk;obtain⟨pb,po,e1,e2,e3⟩:=hTn.get (i:=k) (r:=tgC z) (by rw[List.getElem?_map,hk];rfl);have z0:rd1 t (.ptr pb po)=some (.int .u32 z.1):=e3 0 (by omega);have z1:rd1 t (.ptr pb (po+1))=some (.int .u32 z.2):=e3 1 (by omega);simp only[qAG,Nat.add_zero,qAB,e1,z0,qAI h6,x1,qAZ,qAY,Bool.false_bne];cases q:(z.1 == x.2.1)with
  | true=>
    simp only[qAE,qFv,qAV,qAB];exact hK.bad (by decide) (.refl _) λg=>by have:=g.1.1;rw[List.any_eq_true.2 ⟨z,hzm,q⟩]at this;cases this
  | false=>
    simp only[qAD,qAB,z1,x2,qAZ,qAY,Bool.false_bne,qFv,qAL];refine qAJ (λq2=>?_) (λq2=>?_)
    ·exact hK.bad (by decide) (.refl _) λg=>by have:=g.1.2;rw[List.any_eq_true.2 ⟨z,hzm,q2⟩]at this;cases this
    ·simp only[qAU,qAB]
     rw[qAe (by omega) (by omega)];exact⟨_,by omega,k+1,rfl,(by trivial),by omega,rfl,by rw[qQg hk,hn1,q];rfl,by rw[qQg hk,hn2,q2];rfl⟩
 ·have hge:k=F.T.length:=by have:=oF hge;omega
  subst hge;rw[List.take_length]at hn1 hn2;exact zACZ hn hi h1 h6 hB (hK.imp (.refl _) ⟨λh=>⟨⟨hn1,hn2⟩,h⟩,λh=>h.2⟩)
theorem qVi(hT:F.T.length<=4294967296)(hn:F.B.length<=4294967296)(hF:FabR s cs F)(hx:F.B[i]?=some x)(hK:Rok s (BdRow F i x) K):wC TP XX 145 [.agg cs,.int .i64 (i:Int)] K s:=by
 obtain⟨v2,v3,v4,v5,v6,v7,rfl,hL⟩:=hF;refine qRk ⟨hL.all,qAP λb s1 hb h1 u1=>?_⟩;have h1:s1 b=some (false,.cells 31 (csG F v2 v3 v4 v5 v6 v7)):=h1;have k1:=u1.sub hb;have hi:=(gS hx).1;obtain⟨pb,po,e1,e2,e3⟩:=(hL.sub k1).B.get (i:=i) (r:=bgC x) (by rw[List.getElem?_map,hx];rfl);simp only[qAG,zA,qAB,qAI h1,csG4,e1,e2];refine qAP λb6 s7 hb6 h7 u7=>qAW h7 rfl rfl rfl λs8 h8 u8=>?_;have k8:Sub s1 s8:=qAX (u7.sub hb6) u8 hb6;have h18:=k8 _ _ h1;have kS:=k1.trans k8;have L8:=hL.sub kS;have lenT:qAN v3=some F.T.length:=by rw[L8.T.len,lM]
 have x0:(bgC x)[0]?=some (.int .i64 x.1):=rfl;have x1:(bgC x)[1]?=some (.int .u32 x.2.1):=rfl;have x2:(bgC x)[2]?=some (.int .u32 x.2.2.1):=rfl;simp only[qAB,qAI h8,x0,qAI h18,csG3,lenT,qAx];rw[qAe (by omega) (by omega)];refine qAv ?_;simp only[qAa,qAB,Bool.not_not];cases a0:outB x.1 0 ((F.T.length:Int)-1)with
 | true=>
   simp only[qAE,qEC,qDM,qCs,qAV,qAB];refine hK.bad (by decide) kS λg=>?_;have:=g.g.1;rw[qAk.2 (by omega)]at a0;cases a0
 |false=>
 have g0:=qAk.1 a0;simp only[qAD,qAB,qAI h8,x1,qAR];cases a1:decide (x.2.1<1)with
 | true=>
   simp only[qAE,qEC,qDM,qCs,qAV,qAL,qAB];refine hK.bad (by decide) kS λg=>?_;have:=g.g.2.1;have:=oT a1;omega
 |false=>
 have g1:=oF a1;simp only[qEC,qAL,qAD,qAG,zA,qAB,qAI h8,x1,qAh];cases a2:decide (16777215<x.2.1)with
 | true=>
   simp only[qAE,qDM,qCs,qAV,qAL,qAB];refine hK.bad (by decide) kS λg=>?_;have:=g.g.2.1;have:=oT a2;omega
 |false=>
 have g2:=oF a2;simp only[qDM,qAL,qAD,qAG,zA,qAB,qAI h8,x2,qAZ,qAY,Bool.false_bne];cases a3:(x.2.2.1 == 0)with
 | true=>
   simp only[qAE,qCs,qAL,qAB];exact hK.bad (by decide) kS λg=>g.g.2.2 (eq_of_beq a3)
 |false=>
 have hg:BdG F x:=⟨by omega,by omega,by simpa using a3⟩
 simp only[qCs,qAL,qAD,qAB];exact zAB3 hT hn hi h18 h8 L8.T L8.B (hK.imp kS ⟨λh=>⟨hg,h.2.1.1,h.2.1.2,h.1.1,h.1.2,h.2.2⟩,λh=>⟨⟨h.tv,h.tt⟩,⟨h.vn,h.tg⟩,h.s⟩⟩)
end Go.AM.TN
set_option maxRecDepth 100000
namespace Go.AM.TN
open Go Go.Proofs
variable {K:AV→Hq→Prop} {s:Hq} {y k l1 l2:AV} {b b6:Nat} {cs:List AV} {F:FG} {v2 v3 v4 v5 v6 v7:AV} {t:Bool} {i:Nat}
theorem qNG{A:Type}{p:A->Prop}{l:List A}{k:Nat}(hlt:k<l.length)(h:∀n∈l.take k,p n)(hp:p l[k]):∀n∈l.take (k+1),p n:=λn hn=>by
 rw[List.take_succ_eq_append_getElem hlt,List.mem_append,List.mem_singleton]at hn;rcases hn with hn|rfl
 ·exact h n hn
 ·exact hp
def cnS(S:List (List Int×List Int))(j:Nat)(n:Int):Nat:=(S.take j).countP λy=>decide (n∈y.1)
theorem qTy{S:List (List Int×List Int)}{j:Nat}{y:List Int×List Int}(h:S[j]?=some y)(n:Int):cnS S (j+1) n=cnS S j n+(if n∈y.1 then 1 else 0):=by unfold cnS;rw[List.take_add_one,h];simp[List.countP_cons]
theorem zAD7{S:List (List Int×List Int)}{j:Nat}{n:Int}:cnS S j n<=j:=by unfold cnS;have:=List.countP_le_length (p:=λy:List Int×List Int=>decide (n∈y.1)) (l:=S.take j);rw[List.length_take]at this;omega
section
variable {x : List Int × List Int} (h1 : s b = some (false, .cells 31 (csG F v2 v3 v4 v5 v6 v7))) (h6 : s b6 = some (false, .cells 64 [l1, l2])) (g1 : Sl s l1 (ix x.1)) (g2 : Sl s l2 (ix x.2)) (z1 : x.1.length ≤ 4294967296) (z2 : x.2.length ≤ 4294967296)
include h1 h6 g1 z1 in
theorem zACu(hS:SgG s v5 F.S)(hx:F.S[i]?=some x)(hn:F.S.length<=4294967296)(zz:∀x∈F.S,x.1.length<=4294967296)(hK:Rok s (∀n∈x.1,cnS F.S (i+1) n<=32) K):qEL XX (.int .i64 (i:Int)) (.ptr b 0) (.ptr b6 0) K s:=by
 unfold qEL;have hi:=(gS hx).1;have a0:[l1,l2][0]?=some l1:=rfl;refine⟨λys t m=>∃k:Nat,ys=[.int .i64 (k:Int)]/\t=s/\k<=x.1.length/\m=x.1.length-k/\∀n∈x.1.take k,cnS F.S (i+1) n<=32,⟨_,0,rfl,rfl,by omega,rfl,by simp⟩,?_⟩;rintro e t m ⟨k,hy,rfl,hki,rfl,hno⟩;simp only[cI,and_true]at hy;rw[hy];simp only[qLg,qAG,zA,qAI h6,a0,g1.len,qAm,qAR,qAB];refine qAJ (λhlt=>?_) (λhge=>?_)
 ·have hlt:k<x.1.length:=by have:=oT hlt;omega
  obtain⟨p,e1,e2⟩:=g1.get (i:=k) (by rw[qAm];exact hlt);rw[qDU hlt]at e2;refine⟨λys t2 m=>∃j:Nat,ys=[.int .i64 (cnS F.S j x.1[k]:Int),.int .i64 (j:Int)]/\t2=t/\j<=i+1/\m=i+1-j,⟨_,0,rfl,rfl,by omega,rfl⟩,?_⟩;rintro e' t2 m2 ⟨j,hy,rfl,hji,rfl⟩;simp only[cI,and_true]at hy;rw[hy.1,hy.2];have hc:=zAD7 (S:=F.S) (j:=j) (n:=x.1[k]);simp only[qLe,qEP,qAB];refine qAJ (λhlt2=>?_) (λhge2=>?_)
  ·have hlt2:j<=i:=by have:=oT hlt2;omega
   have hj:F.S[j]?=some F.S[j]:=gE (by omega);have hjm:F.S[j]∈F.S:=List.getElem_mem _;generalize F.S[j]=y at hj hjm;obtain⟨pb,po,m1,m2,q1,q2,q3,q4,q5,q6⟩:=hS.at hj;have hstep:=qTy hj x.1[k];simp only[qAG,Nat.add_zero,zA,qAB,qAI h1,csG5,q1,q3,qAI h6,a0,e1,e2];refine qPt q5 (zz y hjm) ?_;refine qAJ (λq=>?_) (λq=>?_)
   ·have q:x.1[k]∈y.1:=oT q
    rw[if_pos q]at hstep;simp only[qAU,qAB,qFf];rw[qAe (by omega) (by omega),qAe (by omega) (by omega)];exact⟨_,by omega,j+1,by rw[hstep];rfl,(by trivial),by omega,rfl⟩
   ·have q:¬x.1[k]∈y.1:=oF q
    rw[if_neg q]at hstep;simp only[qAU,qAB,qFf];rw[qAe (by omega) (by omega)];exact⟨_,by omega,j+1,by rw[hstep];rfl,(by trivial),by omega,rfl⟩
  ·have hge2:j=i+1:=by have:=oF hge2;omega
   subst hge2;simp only[qAh,qAB];refine qAJ (λq=>?_) (λq=>?_)
   ·exact hK.bad (by decide) (.refl _) λg=>by have:=g _ (List.getElem_mem hlt);have:=oT q;omega
   ·have q:=oF q
    simp only[qAU,qAB];rw[qAe (by omega) (by omega)];exact⟨_,by omega,k+1,rfl,(by trivial),by omega,rfl,qNG hlt hno (by omega)⟩
 ·have hge:k=x.1.length:=by have:=oF hge;omega
  subst hge;rw[List.take_length]at hno;unfold qFi;exact hK.good (.refl _) hno
include h1 h6 g1 g2 z1 z2 in
theorem zADz(hS:SgG s v5 F.S)(hx:F.S[i]?=some x)(hn:F.S.length<=4294967296)(zz:∀x∈F.S,x.1.length<=4294967296)(hK:Rok s ((x.1.Pairwise (· < ·)/\x.2.Pairwise (· < ·))/\∀n∈x.1,cnS F.S (i+1) n<=32) K):qEF XX (.int .i64 (i:Int)) (.ptr b 0) (.ptr b6 0) K s:=by
 unfold qEF;have a0:[l1,l2][0]?=some l1:=rfl;have a1:[l1,l2][1]?=some l2:=rfl;simp only[qAG,zA,qAI h6,a0,qAB];refine qXw g1 z1 λr hr=>?_;simp only[qAa,qAB];cases r with
 | false=>
   simp only[Bool.not_false,qAE,qFx,qAV,qAB];exact hK.bad (by decide) (.refl _) λg=>by have:=hr.2 g.1.1;cases this
 |true=>
 have hr:=hr.1 rfl;simp only[Bool.not_true,qAD,qAI h6,a1,qAB];refine qXw g2 z2 λr hr2=>?_;simp only[qAa,qAB,qFx,qAL];cases r with
 | false=>
   simp only[Bool.not_false,qAE];exact hK.bad (by decide) (.refl _) λg=>by have:=hr2.2 g.1.2;cases this
 |true=>
 simp only[Bool.not_true,qAD];exact zACu h1 h6 g1 z1 hS hx hn zz (hK.imp (.refl _) ⟨λh=>⟨⟨hr,hr2.1 rfl⟩,h⟩,λh=>h.2⟩)
include h1 h6 g1 g2 z1 z2 in
theorem zADM(hB:SlR 6 s v4 (F.B.map bgC))(hBn:F.B.length<=4294967296)(hS:SgG s v5 F.S)(hx:F.S[i]?=some x)(hn:F.S.length<=4294967296)(zz:∀x∈F.S,x.1.length<=4294967296)(hK:Rok s ((∀n∈x.2,0<=n/\n<(F.B.length:Int))/\(x.1.Pairwise (· < ·)/\x.2.Pairwise (· < ·))/\∀n∈x.1,cnS F.S (i+1) n<=32) K):qEO XX (.int .i64 (i:Int)) (.ptr b 0) (.ptr b6 0) K s:=by
 unfold qEO;have a1:[l1,l2][1]?=some l2:=rfl;have lenB:qAN v4=some F.B.length:=by rw[hB.len,lM]
 refine⟨λys t m=>∃k:Nat,ys=[.int .i64 (k:Int)]/\t=s/\k<=x.2.length/\m=x.2.length-k/\∀n∈x.2.take k,0<=n/\n<(F.B.length:Int),⟨_,0,rfl,rfl,by omega,rfl,by simp⟩,?_⟩;rintro e t m ⟨k,hy,rfl,hki,rfl,hno⟩;simp only[cI,and_true]at hy;rw[hy];simp only[qLY,qAG,zA,qAI h6,a1,g2.len,qAm,qAR,qAB];refine qAJ (λhlt=>?_) (λhge=>?_)
 ·have hlt:k<x.2.length:=by have:=oT hlt;omega
  obtain⟨p,e1,e2⟩:=g2.get (i:=k) (by rw[qAm];exact hlt);rw[qDU hlt]at e2;simp only[e1,e2,qAI h1,csG4,lenB,qAx,qAB];rw[qAe (by omega) (by omega)];refine qAv ?_;simp only[qAa,qAB,Bool.not_not];refine qAJ (λq=>?_) (λq=>?_)
  ·exact hK.bad (by decide) (.refl _) λg=>by have:=g.1 _ (List.getElem_mem hlt);rw[qAk.2 (by omega)]at q;cases q
  ·have q:=qAk.1 q
   simp only[qAU,qAB];rw[qAe (by omega) (by omega)];exact⟨_,by omega,k+1,rfl,(by trivial),by omega,rfl,qNG hlt hno (by omega)⟩
 ·have hge:k=x.2.length:=by have:=oF hge;omega
  subst hge;rw[List.take_length]at hno;exact zADz h1 h6 g1 g2 z1 z2 hS hx hn zz (hK.imp (.refl _) ⟨λh=>⟨hno,h⟩,λh=>h.2⟩)
include h1 h6 g1 g2 z1 z2 in
theorem zADi(hf:FabOk F)(hB:SlR 6 s v4 (F.B.map bgC))(hBn:F.B.length<=4294967296)(hS:SgG s v5 F.S)(hx:F.S[i]?=some x)(hn:F.S.length<=4294967296)(zz:∀x∈F.S,x.1.length<=4294967296)(hK:Rok s ((∀n∈x.1,0<=n/\n<F.lf)/\(∀n∈x.2,0<=n/\n<(F.B.length:Int))/\(x.1.Pairwise (· < ·)/\x.2.Pairwise (· < ·))/\∀n∈x.1,cnS F.S (i+1) n<=32) K):qDP XX (.int .i64 (i:Int)) (.ptr b 0) (.ptr b6 0) K s:=by
 unfold qDP;have a0:[l1,l2][0]?=some l1:=rfl;have hlf:=hf.lf;refine⟨λys t m=>∃k:Nat,ys=[.int .i64 (k:Int)]/\t=s/\k<=x.1.length/\m=x.1.length-k/\∀n∈x.1.take k,0<=n/\n<F.lf,⟨_,0,rfl,rfl,by omega,rfl,by simp⟩,?_⟩;rintro e t m ⟨k,hy,rfl,hki,rfl,hno⟩;simp only[cI,and_true]at hy;rw[hy];simp only[qKH,qAG,zA,qAI h6,a0,g1.len,qAm,qAR,qAB];refine qAJ (λhlt=>?_) (λhge=>?_)
 ·have hlt:k<x.1.length:=by have:=oT hlt;omega
  obtain⟨p,e1,e2⟩:=g1.get (i:=k) (by rw[qAm];exact hlt);rw[qDU hlt]at e2;simp only[e1,e2,qAI h1,csG0,qAx,qAB];rw[qAe (by omega) (by omega)];refine qAv ?_;simp only[qAa,qAB,Bool.not_not];refine qAJ (λq=>?_) (λq=>?_)
  ·exact hK.bad (by decide) (.refl _) λg=>by have:=g.1 _ (List.getElem_mem hlt);rw[qAk.2 (by omega)]at q;cases q
  ·have q:=qAk.1 q
   simp only[qAU,qAB];rw[qAe (by omega) (by omega)];exact⟨_,by omega,k+1,rfl,(by trivial),by omega,rfl,qNG hlt hno (by omega)⟩
 ·have hge:k=x.1.length:=by have:=oF hge;omega
  subst hge;rw[List.take_length]at hno;exact zADM h1 h6 g1 g2 z1 z2 hB hBn hS hx hn zz (hK.imp (.refl _) ⟨λh=>⟨hno,h⟩,λh=>h.2⟩)
end
theorem qTq(hf:FabOk F)(z:Sz F)(hF:FabR s cs F){x:List Int×List Int}(hx:F.S[i]?=some x)(hK:Rok s (qMB F x/\∀n∈x.1,cnS F.S (i+1) n<=32) K):wC TP XX 146 [.agg cs,.int .i64 (i:Int)] K s:=by
 obtain⟨v2,v3,v4,v5,v6,v7,rfl,hL⟩:=hF;refine qQL ⟨hL.all,qAP λb s1 hb h1 u1=>?_⟩;have h1:s1 b=some (false,.cells 31 (csG F v2 v3 v4 v5 v6 v7)):=h1;have k1:=u1.sub hb;have hi:=(gS hx).1;have hxm:x∈F.S:=mG hx;obtain⟨pb,po,l1,l2,e1,e2,e3,e4,g1,g2⟩:=(hL.sub k1).S.at hx;simp only[qAG,zA,qAB,qAI h1,csG5,e1,e2];refine qAP λb6 s7 hb6 h7 u7=>qAW h7 rfl rfl (by simp[g1.one,g2.one]) λs8 h8 u8=>?_;have k8:Sub s1 s8:=qAX (u7.sub hb6) u8 hb6;have h18:=k8 _ _ h1;have kS:=k1.trans k8;have L8:=hL.sub kS;have g1:=g1.sub k8;have g2:=g2.sub k8;have a0:[l1,l2][0]?=some l1:=rfl;have a1:[l1,l2][1]?=some l2:=rfl;have fin:∀(x1:x.1≠[]) (x2:x.2≠[]),qDP XX (.int .i64 (i:Int)) (.ptr b 0) (.ptr b6 0) K s8:=λx1 x2=>zADi h18 h8 g1 g2 (z.N x hxm).1 (z.N x hxm).2 hf L8.B z.B L8.S hx z.S (λy hy=>(z.N y hy).1) (hK.imp kS ⟨λh=>⟨⟨⟨x1,x2⟩,⟨h.1,h.2.1⟩,h.2.2.1⟩,h.2.2.2⟩,λh=>⟨h.1.2.1.1,h.1.2.1.2,h.1.2.2,h.2⟩⟩);have em:∀{l:List Int},((l.length:Int) == 0)=false->l≠[]:=λh e=>by rw[e]at h;cases h
 have em':∀{l:List Int},((l.length:Int) == 0)=true->l=[]:=λh=>List.length_eq_zero_iff.1 (by have:=eq_of_beq h;omega);simp only[qAB,qAI h8,a0,g1.len,qAm,qAZ,qAY,Bool.false_bne];cases q:((x.1.length:Int) == 0)with
 | true=>
   simp only[qAE,qEq,qAV,qAB];exact hK.bad (by decide) kS λg=>g.1.1.1 (em' q)
 |false=>
 simp only[qAD,qAB,a1,g2.len,qAm,qEq,qAL];refine qAJ (λq2=>?_) (λq2=>fin (em q) (em q2));exact hK.bad (by decide) kS λg=>g.1.1.2 (em' q2)
theorem qYd{S:List (List Int×List Int)}(h:∀x∈S,x.1.Pairwise (· < ·))(n:Int):((S.map (·.1)).flatten).count n=cnS S S.length n:=by
 unfold cnS;rw[List.take_length]
 induction S with
 |nil=>rfl
 | cons x S ih=>
   rw[List.map_cons,List.flatten_cons,List.count_append,ih λy hy=>h y (by simp[hy]),List.countP_cons];have:x.1.count n=if decide (n∈x.1)=true then 1 else 0:=by
    by_cases hm:n∈x.1
    ·rw[if_pos (decide_eq_true hm)]
     have hd:x.1.Nodup:=(h x (by simp)).imp λh=>by omega
     have h1:=List.nodup_iff_count.1 hd n;have h2:=List.count_pos_iff.2 hm;omega
    ·rw[if_neg (by simpa using hm),List.count_eq_zero.2 hm]
   omega
theorem qUT{S:List (List Int×List Int)}(h:∀(i:Nat) x,S[i]?=some x->∀n∈x.1,cnS S (i+1) n<=32)(n:Int):∀j,j<=S.length->cnS S j n<=32
 | 0,_=>by unfold cnS;simp
 | j+1,hj=>by
   have hx:S[j]?=some S[j]:=gE (by omega)
   by_cases hm:n∈S[j].1
   ·exact h j _ hx n hm
   ·rw[qTy hx,if_neg hm]
    exact qUT h n j (by omega)
theorem zACa{S:List (List Int×List Int)}{n:Int}{j k:Nat}(h:j<=k):cnS S j n<=cnS S k n:=by
 unfold cnS;have:(S.take j)=(S.take k).take j:=by rw[List.take_take,Nat.min_eq_left h]
 rw[this];exact(List.take_sublist _ _).countP_le
theorem qRI:SegOk F↔F.S.length<=64/\∀(i:Nat) x,F.S[i]?=some x->qMB F x/\∀n∈x.1,cnS F.S (i+1) n<=32:=by
 constructor
 ·intro h
  refine⟨h.n,λi x hx=>⟨h.row x (mG hx),λn hn=>?_⟩⟩;have:=h.port n;rw[qYd (λy hy=>(h.row y hy).2.2.1)]at this;exact Nat.le_trans (zACa (gS hx).1) this
 ·rintro ⟨h1,h2⟩
  have hr:∀x∈F.S,qMB F x:=λx hx=>by obtain⟨i,hi,rfl⟩:=List.mem_iff_getElem.1 hx;exact(h2 i _ (gE hi)).1
  refine⟨h1,hr,λn=>?_⟩;rw[qYd (λy hy=>(hr y hy).2.2.1)];exact qUT (λi x hx=>(h2 i x hx).2) n _ (by omega)
end Go.AM.TN
set_option maxRecDepth 100000
namespace Go.AM.TN
open Go Go.Proofs
variable {K:AV→Hq→Prop} {s:Hq} {y k:AV} {b b6 b8:Nat} {cs:List AV} {F:FG} {v2 v3 v4 v5 v6 v7:AV} {t:Bool} {i:Nat} {x:R4} {d:BG}
theorem zADj(hn:F.H.length<=4294967296)(hi:i<F.H.length)(h1:s b=some (false,.cells 31 (csG F v2 v3 v4 v5 v6 v7)))(h6:s b6=some (false,.cells 61 (hgC x)))(hH:SlR 4 s v6 (F.H.map hgC))(hK:Rok s ((x.2.2.1,x.1) ∉ ((F.H.take i).map λy=>(y.2.2.1,y.1))/\(x.2.1≠0->(x.2.2.1,x.2.1) ∉ (F.H.take i).map λy=>(y.2.2.1,y.2.1))) K):qDN XX (.int .i64 (i:Int)) (.ptr b 0) (.ptr b6 0) K s:=by
 unfold qDN;have x0:(hgC x)[0]?=some (.int .u64 x.1):=rfl;have x1:(hgC x)[1]?=some (.int .u32 x.2.1):=rfl;have x2:(hgC x)[2]?=some (.int .i64 x.2.2.1):=rfl;refine⟨λys t m=>∃k:Nat,ys=[.int .i64 (k:Int)]/\Sub s t/\k<=i/\m=i-k/\(x.2.2.1,x.1) ∉ ((F.H.take k).map λy=>(y.2.2.1,y.1))/\(x.2.1≠0->(x.2.2.1,x.2.1) ∉ (F.H.take k).map λy=>(y.2.2.1,y.2.1)),⟨_,0,rfl,.refl _,by omega,rfl,by simp,by simp⟩,?_⟩;rintro e t m ⟨k,hy,kt,hki,rfl,hn1,hn2⟩;simp only[cI,and_true]at hy;rw[hy];have ht1:=kt _ _ h1;simp only[qPQ,qAR,qAB];refine qAJ (λhlt=>?_) (λhge=>?_)
 ·have hlt:k<i:=by have:=oT hlt;omega
  have hk:F.H[k]?=some F.H[k]:=gE (by omega);generalize F.H[k]=z at hk;have hzm:z∈F.H.take i:=mG (i:=k) (by rw[List.getElem?_take,if_pos hlt];exact hk);obtain⟨pb,po,e1,e2,e3⟩:=(hH.sub kt).get (i:=k) (r:=hgC z) (by rw[List.getElem?_map,hk];rfl);simp only[qAG,zA,qAB,qAI ht1,csG6,e1,e2];refine qAP λb29 s30 hb29 h30 u30=>qAW h30 rfl rfl rfl λs31 h31 u31=>?_;have k31:Sub t s31:=qAX (u30.sub hb29) u31 hb29;have kT:=kt.trans k31;have h6':=kT _ _ h6;have z0:(hgC z)[0]?=some (.int .u64 z.1):=rfl;have z1:(hgC z)[1]?=some (.int .u32 z.2.1):=rfl;have z2:(hgC z)[2]?=some (.int .i64 z.2.2.1):=rfl;have next:¬(x.2.2.1=z.2.2.1/\x.1=z.1)->¬(x.2.1≠0/\x.2.2.1=z.2.2.1/\x.2.1=z.2.1)->oK (qAH .add (.int .i64 (k:Int)) (.int .i64 1)) λv_25=>∃m',m'<i-k/\∃k:Nat,[v_25]=[AV.int .i64 (k:Int)]/\Sub s s31/\k<=i/\m'=i-k/\(x.2.2.1,x.1) ∉ ((F.H.take k).map λy=>(y.2.2.1,y.1))/\(x.2.1≠0->(x.2.2.1,x.2.1) ∉ (F.H.take k).map λy=>(y.2.2.1,y.2.1)):=λq1 q2=>by
   simp only[qAU,qAB];rw[qAe (by omega) (by omega)];refine⟨_,by omega,k+1,rfl,kT,by omega,rfl,λhm=>?_,λh0 hm=>?_⟩
   ·rcases(nit (f:=λy:R4=>(y.2.2.1,y.1)) hk).1 hm with hm|hm
    ·exact hn1 hm
    ·simp only[Prod.mk.injEq]at hm;exact q1 hm
   ·rcases(nit (f:=λy:R4=>(y.2.2.1,y.2.1)) hk).1 hm with hm|hm
    ·exact hn2 h0 hm
    ·simp only[Prod.mk.injEq]at hm;exact q2 ⟨h0,hm⟩
  simp only[qAB,qAI h31,z2,qAI h6',x2,qAZ,qAY,Bool.false_bne];cases q:(z.2.2.1 == x.2.2.1)with
  | false=>
    have q:z.2.2.1≠x.2.2.1:=by simpa using q
    simp only[qAD,qAL,qAB];exact next (λh=>q h.1.symm) λh=>q h.2.1.symm
  |true=>
  have q:z.2.2.1=x.2.2.1:=eq_of_beq q;simp only[qAE,qAB,z0,x0,qAZ,qAY,Bool.false_bne];cases q2:(z.1 == x.1)with
  | true=>
    have q2:z.1=x.1:=eq_of_beq q2;simp only[qAE,qAV,qAB];exact hK.bad (by decide) kT λg=>g.1 (List.mem_map.2 ⟨z,hzm,by rw[q,q2]⟩)
  |false=>
  have q2:z.1≠x.1:=by simpa using q2
  simp only[qAD,qAB,x1,qAZ,qAY,Bool.true_bne];cases q3:(x.2.1 == 0)with
  | true=>
    have q3:x.2.1=0:=eq_of_beq q3;simp only[Bool.not_true,qAD,qJk,qAL,qAV,qAB];exact next (λh=>q2 h.2.symm) λh=>h.1 q3
  |false=>
  have q3:x.2.1≠0:=by simpa using q3
  simp only[Bool.not_false,qAE,qAB,z1,qAZ,qAY,Bool.false_bne,qJk,qAL,qAV];refine qAJ (λq4=>?_) (λq4=>?_)
  ·have q4:z.2.1=x.2.1:=eq_of_beq q4
   exact hK.bad (by decide) kT λg=>g.2 q3 (List.mem_map.2 ⟨z,hzm,by rw[q,q4]⟩)
  ·have q4:z.2.1≠x.2.1:=by simpa using q4
   exact next (λh=>q2 h.2.symm) λh=>q4 h.2.2.symm
 ·have hge:k=i:=by have:=oF hge;omega
  subst hge;unfold qJo;exact hK.good kt ⟨hn1,hn2⟩
theorem zAEQ{D:Prop}(hn:F.H.length<=4294967296)(hi:i<F.H.length)(h1:s b=some (false,.cells 31 (csG F v2 v3 v4 v5 v6 v7)))(h6:s b6=some (false,.cells 61 (hgC x)))(h8:s b8=some (false,.cells 69 (bgC d)))(hH:SlR 4 s v6 (F.H.map hgC))(hD:D↔(x.2.2.1,x.1) ∉ ((F.H.take i).map λy=>(y.2.2.1,y.1))/\(x.2.1≠0->(x.2.2.1,x.2.1) ∉ (F.H.take i).map λy=>(y.2.2.1,y.2.1)))(h0:d.2.2.2.2.2=0->x.2.1=0)(hd:d.2.2.2.2.2≠0->qEB d.2.2.2.1 d.2.2.2.2.1=true/\8<=d.2.2.2.2.1/\d.2.2.2.2.1<=30)(hK:Rok s (qKl d x.2.1=true/\D) K):qEh XX (.int .i64 (i:Int)) (.ptr b 0) (.ptr b6 0) (.ptr b8 0) K s:=by
 unfold qEh;have x1:(hgC x)[1]?=some (.int .u32 x.2.1):=rfl;have d5:(bgC d)[5]?=some (.int .u32 d.2.2.2.2.2):=rfl;have go:∀{t:Hq},Sub s t->qKl d x.2.1=true->qDN XX (.int .i64 (i:Int)) (.ptr b 0) (.ptr b6 0) K t:=λk ha=>zADj hn hi (k _ _ h1) (k _ _ h6) (hH.sub k) (hK.imp k ⟨λh=>⟨ha,hD.2 h⟩,λh=>hD.1 h.2⟩);simp only[qAG,zA,qAB,qAI h8,d5,qAZ,qAY,Bool.true_bne];cases q:(d.2.2.2.2.2 == 0)with
 | true=>
   have q:d.2.2.2.2.2=0:=eq_of_beq q;simp only[Bool.not_true,qAD,qJl,qAL,qAB];exact go (.refl _) (by unfold qKl;rw[h0 q];rfl)
 |false=>
 have q':d.2.2.2.2.2≠0:=by simpa using q
 obtain⟨hc,hl⟩:=hd q';simp only[Bool.not_false,qAE,qAG,zA,qAB,qAI h6,x1,qAZ,qAY,Bool.true_bne,qJl,qAV];cases q2:(x.2.1 == 0)with
 | true=>
   have q2:x.2.1=0:=eq_of_beq q2;simp only[Bool.not_true,qAD,qAL,qAB];exact go (.refl _) (by unfold qKl;rw[q2];rfl)
 |false=>
 have ad:∀p q r u:Bool,qCG d.2.2.2.1 d.2.2.2.2.1 x.2.1=p->(x.2.1 == d.2.2.2.1)=q->(x.2.1 == qRx d.2.2.2.1 d.2.2.2.2.1)=r->(x.2.1 == d.2.2.2.2.2)=u->qKl d x.2.1=(!u&&(p&&!q&&!r)):=λp q' r u e1 e2 e3 e4=>by unfold qKl qKU;rw[e1,bne,bne,bne,bne,q,q2,e2,e3,e4];simp
 have rd:rdN s 2 (.ptr b8 3)=some (pfC d.2.2.2.1 d.2.2.2.2.1):=by simp only[rdN,h8];rfl
 simp only[Bool.not_false,qAE,qAB,rd];refine qGv λs68 k68=>?_;have h6':=k68 _ _ h6;have h8':=k68 _ _ h8;have d3:(bgC d)[3]?=some (.int .u32 d.2.2.2.1):=rfl;simp only[qAa,qAB];cases a0:qCG d.2.2.2.1 d.2.2.2.2.1 x.2.1 with
 | false=>
   simp only[Bool.not_false,qAE,qHM,qJm,qAV,qAB];exact hK.bad (by decide) k68 λg=>by have:=g.1;rw[ad _ _ _ _ a0 rfl rfl rfl]at this;simp at this
 |true=>
 simp only[Bool.not_true,qAD,Nat.add_zero,qAB,qAI h6',x1,qAI h8',d3,qAZ,qAY,Bool.false_bne];cases a1:(x.2.1 == d.2.2.2.1)with
 | true=>
   simp only[qAE,qHM,qJm,qAV,qAL,qAB];exact hK.bad (by decide) k68 λg=>by have:=g.1;rw[ad _ _ _ _ a0 a1 rfl rfl]at this;simp at this
 |false=>
 have rd':rdN s68 2 (.ptr b8 3)=some (pfC d.2.2.2.1 d.2.2.2.2.1):=by simp only[rdN,h8'];rfl
 simp only[qHM,qAL,qAD,qAG,zA,qAB,qAI h6',x1,rd'];refine qUk (by omega) λs84 k84=>?_;intro _;rw[qYE hc hl];have kT:Sub s68 (add s68 s84):=qGw;generalize add s68 s84=T at kT;have qT:=k68.trans kT;have h6':=qT _ _ h6;have h8':=qT _ _ h8;simp only[qAZ,qAY,Bool.false_bne,qAB];cases a2:(x.2.1 == qRx d.2.2.2.1 d.2.2.2.2.1)with
 | true=>
   simp only[qAE,qAV,qAB];exact hK.bad (by decide) qT λg=>by have:=g.1;rw[ad _ _ _ _ a0 a1 a2 rfl]at this;simp at this
 |false=>
 simp only[qAD,qAB,qAI h6',x1,qAI h8',d5,qAZ,qAY,Bool.false_bne,qAL,qAV];refine qAJ (λa3=>?_) (λa3=>?_)
 ·exact hK.bad (by decide) qT λg=>by have:=g.1;rw[ad _ _ _ _ a0 a1 a2 a3]at this;simp at this
 ·exact go qT (by rw[ad _ _ _ _ a0 a1 a2 a3];rfl)
theorem zAC5{D:Prop}(hn:F.H.length<=4294967296)(hi:i<F.H.length)(h1:s b=some (false,.cells 31 (csG F v2 v3 v4 v5 v6 v7)))(h6:s b6=some (false,.cells 61 (hgC x)))(hB:SlR 6 s v4 (F.B.map bgC))(hH:SlR 4 s v6 (F.H.map hgC))(hp:0<=x.2.2.1)(hb:F.B[x.2.2.1.toNat]?=some d)(hD:D↔(x.2.2.1,x.1) ∉ ((F.H.take i).map λy=>(y.2.2.1,y.1))/\(x.2.1≠0->(x.2.2.1,x.2.1) ∉ (F.H.take i).map λy=>(y.2.2.1,y.2.1)))(hd:d.2.2.2.2.2≠0->qEB d.2.2.2.1 d.2.2.2.2.1=true/\8<=d.2.2.2.2.1/\d.2.2.2.2.1<=30)(hK:Rok s (((x.1≠1577058561/\qEZ x.1=false)/\qKl d x.2.1=true)/\D) K):qFz XX (.int .i64 (i:Int)) (.ptr b 0) (.ptr b6 0) K s:=by
 unfold qFz;have x0:(hgC x)[0]?=some (.int .u64 x.1):=rfl;have x1:(hgC x)[1]?=some (.int .u32 x.2.1):=rfl;have x2:(hgC x)[2]?=some (.int .i64 x.2.2.1):=rfl;have d5:(bgC d)[5]?=some (.int .u32 d.2.2.2.2.2):=rfl;obtain⟨pb,po,e1,e2,e3⟩:=hB.get (i:=x.2.2.1.toNat) (r:=bgC d) (by rw[List.getElem?_map,hb];rfl);rw[Int.toNat_of_nonneg hp]at e1;simp only[qAG,zA,qAB,qAI h6,x0];refine qVm λr=>?_;refine qAA (a:=.int .i64 r) rfl (qAA (a:=.bool (qEZ x.1)) rfl ?_);simp only[qAB,qAI h1,csG4,qAI h6,x2,e1,e2];refine qAP λb21 s22 hb21 h22 u22=>qAW h22 rfl rfl rfl λs23 h23 u23=>?_;have k23:Sub s s23:=qAX (u22.sub hb21) u23 hb21;have h6':=k23 _ _ h6;have go:(x.1≠1577058561/\qEZ x.1=false)->(d.2.2.2.2.2=0->x.2.1=0)->qEh XX (.int .i64 (i:Int)) (.ptr b 0) (.ptr b6 0) (.ptr b21 0) K s23:=λha h0=>zAEQ hn hi (k23 _ _ h1) h6' h23 (hH.sub k23) hD h0 hd (hK.imp k23 ⟨λh=>⟨⟨ha,h.1⟩,h.2⟩,λh=>⟨h.1.2,h.2⟩⟩);simp only[qAB,qAI h6',x0,qAZ,qAY,Bool.false_bne];cases q:(x.1 == 1577058561)with
 | true=>
   simp only[qAE,qH8,qAV,qAB];exact hK.bad (by decide) k23 λg=>g.1.1.1 (eq_of_beq q)
 |false=>
 have q:x.1≠1577058561:=by simpa using q
 simp only[qAD,qH8,qAL,qAB];cases q2:qEZ x.1 with
 | true=>
   simp only[qAE,qAV,qAB];exact hK.bad (by decide) k23 λg=>by rw[g.1.1.2]at q2;cases q2
 |false=>
 simp only[qAD,qAG,zA,qAB,qAI h23,d5,qAZ,qAY,Bool.false_bne];cases q3:(d.2.2.2.2.2 == 0)with
 | false=>
   have q3:d.2.2.2.2.2≠0:=by simpa using q3
   simp only[qAD,qHx,qAL,qAB];exact go ⟨q,q2⟩ λh=>absurd h q3
 |true=>
 have q3':d.2.2.2.2.2=0:=eq_of_beq q3;simp only[qAE,qAB,qAI h6',x1,qAZ,qAY,Bool.true_bne,qHx,qAV,qAL];cases q4:(x.2.1 == 0)with
 | true=>
   simp only[Bool.not_true,qAD];exact go ⟨q,q2⟩ λ_=>eq_of_beq q4
 | false=>
   simp only[Bool.not_false,qAE];exact hK.bad (by decide) k23 λg=>by have:=g.1.2;unfold qKl at this;rw[bne,q3,q4]at this;cases this
theorem zAAB(z:Sz F)(hDo:DomOk F)(hF:FabR s cs F)(hx:F.H[i]?=some x)(hK:Rok s (HoRow F i x) K):wC TP XX 147 [.agg cs,.int .i64 (i:Int)] K s:=by
 obtain⟨v2,v3,v4,v5,v6,v7,rfl,hL⟩:=hF;refine qVP ⟨hL.all,qAP λb s1 hb h1 u1=>?_⟩;have h1:s1 b=some (false,.cells 31 (csG F v2 v3 v4 v5 v6 v7)):=h1;have k1:=u1.sub hb;have hi:=(gS hx).1;have hn:=z.H;have hBn:=hDo.n;have hSn:=z.S;obtain⟨pb,po,e1,e2,e3⟩:=(hL.sub k1).H.get (i:=i) (r:=hgC x) (by rw[List.getElem?_map,hx];rfl);simp only[qAG,zA,qAB,qAI h1,csG6,e1,e2];refine qAP λb6 s7 hb6 h7 u7=>qAW h7 rfl rfl rfl λs8 h8 u8=>?_;have k8:Sub s1 s8:=qAX (u7.sub hb6) u8 hb6;have h18:=k8 _ _ h1;have kS:=k1.trans k8;have L8:=hL.sub kS;have lenB:qAN v4=some F.B.length:=by rw[L8.B.len,lM]
 have lenS:qAN v5=some F.S.length:=L8.S.len;have x0:(hgC x)[0]?=some (.int .u64 x.1):=rfl;have x2:(hgC x)[2]?=some (.int .i64 x.2.2.1):=rfl;have x3:(hgC x)[3]?=some (.int .i64 x.2.2.2):=rfl;simp only[qAB,qAI h8,x0,qAZ,qAY,Bool.false_bne];cases a0:(x.1 == 0)with
 | true=>
   simp only[qAE,qGL,qEg,qDm,qDH,qAV,qAB];exact hK.bad (by decide) kS λg=>g.m.1 (eq_of_beq a0)
 |false=>
 have g0:x.1≠0:=by simpa using a0
 simp only[qAD,qAB,qAh];cases a1:decide (281474976710655<x.1)with
 | true=>
   simp only[qAE,qGL,qEg,qDm,qDH,qAV,qAL,qAB];exact hK.bad (by decide) kS λg=>by have:=g.m.2.1;have:=oT a1;omega
 |false=>
 have g1:=oF a1;simp only[qGL,qAL,qAD,qAG,zA,qAB,qAI h8,x0];refine qZt ?_;cases a2:qPA x.1 with
 | true=>
   simp only[qAE,qEg,qDm,qDH,qAV,qAL,qAB];exact hK.bad (by decide) kS λg=>by rw[g.m.2.2]at a2;cases a2
 |false=>
 simp only[qEg,qAL,qAD,qAG,zA,qAB,qAI h8,x2,qAI h18,csG4,lenB,qAx];rw[qAe (by omega) (by omega)];refine qAv ?_;simp only[qAa,qAB,Bool.not_not];cases a3:outB x.2.2.1 0 ((F.B.length:Int)-1)with
 | true=>
   simp only[qAE,qDm,qDH,qAV,qAL,qAB];exact hK.bad (by decide) kS λg=>by have:=g.r.1;rw[qAk.2 (by omega)]at a3;cases a3
 |false=>
 have g3:=qAk.1 a3;simp only[qDm,qAL,qAD,qAG,zA,qAB,qAI h8,x3,qAI h18,csG5,lenS,qAx];rw[qAe (by omega) (by omega)];refine qAv ?_;simp only[qAa,qAB,Bool.not_not];cases a4:outB x.2.2.2 (-1) ((F.S.length:Int)-1)with
 | true=>
   simp only[qAE,qDH,qAL,qAB];exact hK.bad (by decide) kS λg=>by have:=g.r.2;rw[qAk.2 (by omega)]at a4;cases a4
 |false=>
 have g4:=qAk.1 a4;have hbd:F.B[x.2.2.1.toNat]?=some F.B[x.2.2.1.toNat]:=gE (by omega);have hbm:F.B[x.2.2.1.toNat]∈F.B:=List.getElem_mem _;have hrow:=hDo.row _ _ hbd;generalize F.B[x.2.2.1.toNat]=d at hbd hbm hrow;have hsub:d.2.2.2.2.2≠0->qEB d.2.2.2.1 d.2.2.2.2.1=true/\8<=d.2.2.2.2.1/\d.2.2.2.2.1<=30:=λh=>⟨(hrow.s.2 h).1,(hrow.s.2 h).2.1⟩
 have go:(x.2.2.2≠-1->∀y,F.S[x.2.2.2.toNat]?=some y->x.2.2.1∈y.2)->qFz XX (.int .i64 (i:Int)) (.ptr b 0) (.ptr b6 0) K s8:=λhs=>zAC5 hn hi h18 h8 L8.B L8.H g3.1 hbd Iff.rfl hsub (hK.imp kS ⟨λh=>⟨⟨g0,by omega,a2⟩,⟨by omega,by omega⟩,hs,⟨h.1.1,λd' hd'=>by rw[hbd]at hd';cases hd';exact h.1.2⟩,h.2.1,h.2.2⟩,λh=>⟨⟨h.a.1,h.a.2 d hbd⟩,h.dm,h.di⟩⟩);simp only[qDH,qAL,qAD,qAB,qJt,qAG,zA,qAI h8,x3,qAZ,qAY,Bool.true_bne];cases a5:(x.2.2.2 == -1)with
 | true=>
   have a5:x.2.2.2=-1:=eq_of_beq a5;simp only[Bool.not_true,qAD,qIB,qAL,qAB];exact go λh=>absurd a5 h
 |false=>
 have a5:x.2.2.2≠-1:=by simpa using a5
 have hsg:F.S[x.2.2.2.toNat]?=some F.S[x.2.2.2.toNat]:=gE (by omega);have hsm:F.S[x.2.2.2.toNat]∈F.S:=List.getElem_mem _;generalize F.S[x.2.2.2.toNat]=y at hsg hsm;obtain⟨pb,po,m1,m2,q1,q2,q3,q4,q5,q6⟩:=L8.S.at hsg;rw[Int.toNat_of_nonneg (by omega)]at q1;simp only[Bool.not_false,qAE,qAG,qAB,x2,qAI h18,csG5,q1,q4];refine qPt q6 (z.N y hsm).2 ?_;simp only[qAa,qAB,qIB,qAV];cases a6:decide (x.2.2.1∈y.2)with
 | false=>
   simp only[Bool.not_false,qAE];exact hK.bad (by decide) kS λg=>oF a6 (g.s a5 y hsg)
 | true=>
   simp only[Bool.not_true,qAD];exact go λ_ y' hy'=>by rw[hsg]at hy';cases hy';exact oT a6
end Go.AM.TN
set_option maxRecDepth 100000
namespace Go.AM.TN
open Go Go.Proofs
variable {K:AV→Hq→Prop} {s s':Hq} {v y k:AV} {b c b6:Nat} {cs:List AV} {F:FG} {v2 v3 v4 v5 v6 v7:AV} {t:Bool} {Q:Prop} {i:Nat}
theorem zADD(a c p q a' c' p' q':Int):qGP TP 118 (.agg [.int .i64 a,.int .i64 c,.int .u32 p,.int .i64 q]) (.agg [.int .i64 a',.int .i64 c',.int .u32 p',.int .i64 q'])=mB (some (eqI a a')) (mB (some (eqI c c')) (mB (mB (some (eqI p p')) (mB (some (eqI q q')) (some true))) (some true))):=by kernel_rfl
theorem zAEi{x y:R4}:qGP TP 118 (.agg (ggC x)) (.agg (ggC y))=some (decide (x=y)):=by
 obtain⟨a,c,p,q⟩:=x;obtain⟨a',c',p',q'⟩:=y;show qGP TP 118 (.agg [.int .i64 a,.int .i64 c,.int .u32 p,.int .i64 q]) (.agg [.int .i64 a',.int .i64 c',.int .u32 p',.int .i64 q'])=_;rw[zADD,qEN,qEN,qEN,qEN]
 by_cases h1:a=a'<;>by_cases h2:c=c'<;>by_cases h3:p=p'<;>by_cases h4:q=q'<;>simp[mB,h1,h2,h3,h4]
theorem qZR{x:R4}(z:Sz F)(hF:FabR s cs F)(hx:F.G[i]?=some x)(hK:Rok s (LeRow F i x) K):wC TP XX 148 [.agg cs,.int .i64 (i:Int)] K s:=by
 obtain⟨v2,v3,v4,v5,v6,v7,rfl,hL⟩:=hF;refine qVj ⟨hL.all,qAP λb s1 hb h1 u1=>?_⟩;have h1:s1 b=some (false,.cells 31 (csG F v2 v3 v4 v5 v6 v7)):=h1;have k1:=u1.sub hb;have hi:=(gS hx).1;have hn:=z.G;have hT:=z.T;obtain⟨pb,po,e1,e2,e3⟩:=(hL.sub k1).G.get (i:=i) (r:=ggC x) (by rw[List.getElem?_map,hx];rfl);simp only[qAG,zA,qAB,qAI h1,csG7,e1,e2];refine qAP λb6 s7 hb6 h7 u7=>qAW h7 rfl rfl rfl λs8 h8 u8=>?_;have k8:Sub s1 s8:=qAX (u7.sub hb6) u8 hb6;have h18:=k8 _ _ h1;have kS:=k1.trans k8;have L8:=hL.sub kS;have lenT:qAN v3=some F.T.length:=by rw[L8.T.len,lM]
 have x0:(ggC x)[0]?=some (.int .i64 x.1):=rfl;have x1:(ggC x)[1]?=some (.int .i64 x.2.1):=rfl;have rd:rdN s8 2 (.ptr b6 2)=some (pfC x.2.2.1 x.2.2.2):=by simp only[rdN,h8];rfl
 simp only[qAB,qAI h8,x0,qAI h18,csG3,lenT,qAx];rw[qAe (by omega) (by omega)];refine qAv ?_;simp only[qAa,qAB,Bool.not_not];cases a0:outB x.1 0 ((F.T.length:Int)-1)with
 | true=>
   simp only[qAE,qHN,qAV,qAB];exact hK.bad (by decide) kS λg=>by have:=g.r.1;rw[qAk.2 (by omega)]at a0;cases a0
 |false=>
 have g0:=qAk.1 a0;simp only[qAD,qAB,qAI h8,x1,qAI h18,csG3,lenT];rw[qAe (by omega) (by omega)];refine qAv ?_;simp only[qAa,qAB,Bool.not_not];cases a1:outB x.2.1 0 ((F.T.length:Int)-1)with
 | true=>
   simp only[qAE,qHN,qAL,qAB];exact hK.bad (by decide) kS λg=>by have:=g.r.2;rw[qAk.2 (by omega)]at a1;cases a1
 |false=>
 have g1:=qAk.1 a1;simp only[qHN,qAL,qAD,qAB,qJ0,qAG,zA,qAI h8,x0,x1,qAZ,qAY,Bool.false_bne];cases a2:(x.1 == x.2.1)with
 | true=>
   simp only[qAE,qJv,qAV,qAB];exact hK.bad (by decide) kS λg=>g.p.1 (eq_of_beq a2)
 |false=>
 have g2:x.1≠x.2.1:=by simpa using a2
 simp only[qAD,qAB,rd];refine qR8 λs26 k26=>?_;have kT:=kS.trans k26;have h18:=k26 _ _ h18;have h8:=k26 _ _ h8;have G8:=(L8.sub k26).G;simp only[qAa,qAB,qJv,qAL];cases a3:qEB x.2.2.1 x.2.2.2 with
 | false=>
   simp only[Bool.not_false,qAE];exact hK.bad (by decide) kT λg=>by rw[g.p.2]at a3;cases a3
 |true=>
 simp only[Bool.not_true,qAD,qJg];refine⟨λys t m=>∃k:Nat,ys=[.int .i64 (k:Int)]/\t=s26/\k<=i/\m=i-k/\x ∉ F.G.take k,⟨_,0,rfl,rfl,by omega,rfl,by simp⟩,?_⟩;rintro e t m ⟨k,hy,rfl,hki,rfl,hno⟩;simp only[cI,and_true]at hy;rw[hy];simp only[qPF,qAR,qAB];refine qAJ (λhlt=>?_) (λhge=>?_)
 ·have hlt:k<i:=by have:=oT hlt;omega
  have hk:F.G[k]?=some F.G[k]:=gE (by omega);generalize F.G[k]=y at hk;have hym:y∈F.G.take i:=mG (i:=k) (by rw[List.getElem?_take,if_pos hlt];exact hk);obtain⟨pb,po,e1,e2,e3⟩:=G8.get (i:=k) (r:=ggC y) (by rw[List.getElem?_map,hk];rfl);simp only[qAG,zA,qAB,qAI h18,csG7,e1,e2];refine qAA (qAS h8 rfl) ?_;rw[zAEi];simp only[qAY,Bool.false_bne,qAB];refine qAJ (λq=>?_) (λq=>?_)
  ·have q:y=x:=oT q
   exact hK.bad (by decide) kT λg=>g.d (q ▸ hym)
  ·have q:y≠x:=oF q
   simp only[qAU,qAB];rw[qAe (by omega) (by omega)];refine⟨_,by omega,k+1,rfl,(by trivial),by omega,rfl,λhm=>?_⟩;rw[List.take_add_one,hk]at hm;rcases mP hm with hm|hm
   ·exact hno hm
   ·simp at hm;exact q hm.symm
 ·have hge:k=i:=by have:=oF hge;omega
  subst hge;unfold qJr;exact hK.good kT ⟨⟨by omega,by omega⟩,⟨g2,a3⟩,hno⟩
def EL(F:FG):Nat->Nat
 | 0=>F.L.length
 | 1=>F.T.length
 | 2=>F.B.length
 | 3=>F.S.length
 | 4=>F.H.length
 |_=>F.G.length
def EM:Nat->Nat
 | 0=>128
 | 1=>16
 | 2=>32
 | 3=>64
 | 4=>128
 |_=>256
def EP(F:FG)(p i:Nat):Prop:=
 match p with
 | 0=>∀x,F.L[i]?=some x->LkG F x/\(x.1,x.2.1) ∉ (F.L.take i).map λx=>(x.1,x.2.1)
 | 1=>∀x,F.T[i]?=some x->TnG x/\x.1 ∉ (F.T.take i).map (·.1)/\x.2 ∉ (F.T.take i).map (·.2)
 | 2=>∀x,F.B[i]?=some x->BdRow F i x
 | 3=>∀x,F.S[i]?=some x->qMB F x/\∀n∈x.1,cnS F.S (i+1) n<=32
 | 4=>∀x,F.H[i]?=some x->HoRow F i x
 |_=>∀x,F.G[i]?=some x->LeRow F i x
def EQ(F:FG)(p:Nat):Prop:=EL F p<=EM p/\∀i,i<EL F p->EP F p i
theorem qVS{A:Type}{l:List A}{x:A}{Q:A->Prop}(h:l[i]?=some x):(∀x',l[i]?=some x'->Q x')↔Q x:=⟨λf=>f x h,λq x' h'=>by rw[h]at h';cases h';exact q⟩
theorem qM8{A:Type}{l:List A}{Q:Nat->A->Prop}:(∀(i:Nat) x,l[i]?=some x->Q i x)↔∀i,i<l.length->∀x,l[i]?=some x->Q i x:=⟨λh i _=>h i,λh i x hx=>h i (gS hx).1 x hx⟩
theorem zABh:DomOk F↔EQ F 2:=⟨λh=>⟨h.n,qM8.1 h.row⟩,λh=>⟨h.1,qM8.2 h.2⟩⟩
theorem zABm:Valid F↔FabOk F/\TimOk F/\∀p,p<6->EQ F p:=by
 constructor
 ·intro h
  refine⟨h 0 (by omega),h 1 (by omega),λp hp=>?_⟩
  match p,hp with
  | 0,_=>have g:LinksOk F:=h 2 (by omega);exact⟨g.n,qM8.1 g.row⟩
  | 1,_=>have g:TenOk F:=h 3 (by omega);exact⟨g.n,qM8.1 g.row⟩
  | 2,_=>exact zABh.1 (h 4 (by omega))
  | 3,_=>have g:=qRI.1 (h 5 (by omega));exact⟨g.1,qM8.1 g.2⟩
  | 4,_=>have g:HosOk F:=h 6 (by omega);exact⟨g.n,qM8.1 g.row⟩
  | 5,_=>have g:LeaOk F:=h 7 (by omega);exact⟨g.n,qM8.1 g.row⟩
 ·rintro ⟨h0,h1,h2⟩ i hi
  match i,hi with
  | 0,_=>exact h0
  | 1,_=>exact h1
  | 2,_=>exact⟨(h2 0 (by omega)).1,qM8.2 (h2 0 (by omega)).2⟩
  | 3,_=>exact⟨(h2 1 (by omega)).1,qM8.2 (h2 1 (by omega)).2⟩
  | 4,_=>exact zABh.2 (h2 2 (by omega))
  | 5,_=>exact qRI.2 ⟨(h2 3 (by omega)).1,qM8.2 (h2 3 (by omega)).2⟩
  | 6,_=>exact⟨(h2 4 (by omega)).1,qM8.2 (h2 4 (by omega)).2⟩
  | 7,_=>exact⟨(h2 5 (by omega)).1,qM8.2 (h2 5 (by omega)).2⟩
theorem qTN{p:Nat}(hp:p<6)(z:Sz F)(hf:FabOk F)(hD:4<=p->DomOk F)(hF:FabR s cs F)(hi:i<EL F p)(hK:Rok s (EP F p i) K):wC TP XX 118 [.agg cs,.int .i64 (p:Int),.int .i64 (i:Int)] K s:=by
 obtain⟨v2,v3,v4,v5,v6,v7,rfl,hL⟩:=hF;refine qQn ⟨hL.all,qAP λb s1 hb h1 u1=>?_⟩;have h1:s1 b=some (false,.cells 31 (csG F v2 v3 v4 v5 v6 v7)):=h1;have k1:=u1.sub hb;have hF1:FabR s1 (csG F v2 v3 v4 v5 v6 v7) F:=⟨v2,v3,v4,v5,v6,v7,rfl,hL.sub k1⟩
 match p,hp with
 | 0,_=>
   have hi:i<F.L.length:=hi;have hx:F.L[i]?=some F.L[i]:=gE hi;refine qAA (a:=.bool true) rfl ?_;rw[qAE];exact qAA (qAS h1 rfl) (qZl hf z.L hF1 hx (hK.imp k1 (qVS (Q:=λx=>LkG F x/\(x.1,x.2.1) ∉ (F.L.take i).map λx=>(x.1,x.2.1)) hx).symm))
 | 1,_=>
   have hi:i<F.T.length:=hi;have hx:F.T[i]?=some F.T[i]:=gE hi;refine qAA (a:=.bool false) rfl ?_;rw[qAD];refine qAA (a:=.bool true) rfl ?_;rw[qAE];exact qAA (qAS h1 rfl) (qVI z.T hF1 hx (hK.imp k1 (qVS (Q:=λx=>TnG x/\x.1 ∉ (F.T.take i).map (·.1)/\x.2 ∉ (F.T.take i).map (·.2)) hx).symm))
 | 2,_=>
   have hi:i<F.B.length:=hi;have hx:F.B[i]?=some F.B[i]:=gE hi;refine qAA (a:=.bool false) rfl ?_;rw[qAD];refine qAA (a:=.bool false) rfl ?_;rw[qAD];refine qAA (a:=.bool true) rfl ?_;rw[qAE];exact qAA (qAS h1 rfl) (qVi z.T z.B hF1 hx (hK.imp k1 (qVS hx).symm))
 | 3,_=>
   have hi:i<F.S.length:=hi;have hx:F.S[i]?=some F.S[i]:=gE hi;refine qAA (a:=.bool false) rfl ?_;rw[qAD];refine qAA (a:=.bool false) rfl ?_;rw[qAD];refine qAA (a:=.bool false) rfl ?_;rw[qAD];refine qAA (a:=.bool true) rfl ?_;rw[qAE];exact qAA (qAS h1 rfl) (qTq hf z hF1 hx (hK.imp k1 (qVS (Q:=λx=>qMB F x/\∀n∈x.1,cnS F.S (i+1) n<=32) hx).symm))
 | 4,_=>
   have hi:i<F.H.length:=hi;have hx:F.H[i]?=some F.H[i]:=gE hi;refine qAA (a:=.bool false) rfl ?_;rw[qAD];refine qAA (a:=.bool false) rfl ?_;rw[qAD];refine qAA (a:=.bool false) rfl ?_;rw[qAD];refine qAA (a:=.bool false) rfl ?_;rw[qAD];refine qAA (a:=.bool true) rfl ?_;rw[qAE];exact qAA (qAS h1 rfl) (zAAB z (hD (by omega)) hF1 hx (hK.imp k1 (qVS hx).symm))
 | 5,_=>
   have hi:i<F.G.length:=hi;have hx:F.G[i]?=some F.G[i]:=gE hi;refine qAA (a:=.bool false) rfl ?_;rw[qAD];refine qAA (a:=.bool false) rfl ?_;rw[qAD];refine qAA (a:=.bool false) rfl ?_;rw[qAD];refine qAA (a:=.bool false) rfl ?_;rw[qAD];refine qAA (a:=.bool false) rfl ?_;rw[qAD];exact qAA (qAS h1 rfl) (qZR z hF1 hx (hK.imp k1 (qVS hx).symm))
def zABM(F:FG):List AV:=[.int .i64 F.L.length,.int .i64 F.T.length,.int .i64 F.B.length,.int .i64 F.S.length,.int .i64 F.H.length,.int .i64 F.G.length]
def zACJ:List AV:=[.int .i64 128,.int .i64 16,.int .i64 32,.int .i64 64,.int .i64 128,.int .i64 256]
theorem qUX{p:Nat}(hp:p<6):(zABM F)[p]?=some (.int .i64 (EL F p:Int)):=by
 match p,hp with
 | 0,_=>rfl
 | 1,_=>rfl
 | 2,_=>rfl
 | 3,_=>rfl
 | 4,_=>rfl
 | 5,_=>rfl
theorem qZs{p:Nat}(hp:p<6):zACJ[p]?=some (.int .i64 (EM p:Int)):=by
 match p,hp with
 | 0,_=>rfl
 | 1,_=>rfl
 | 2,_=>rfl
 | 3,_=>rfl
 | 4,_=>rfl
 | 5,_=>rfl
theorem zAEs{p:Nat}(z:Sz F)(hp:p<6):EL F p<=4294967296:=by
 match p,hp with
 | 0,_=>exact z.L
 | 1,_=>exact z.T
 | 2,_=>exact z.B
 | 3,_=>exact z.S
 | 4,_=>exact z.H
 | 5,_=>exact z.G
theorem qYQ(z:Sz F)(hF:FabR s cs F)(hK:∀(e:Int) (v:AV) (j:Int) (s':Hq),Sub s s'->(e=0↔Valid F)->K (.tup [.int .i64 e,v,.int .i64 j]) s'):wC TP XX 96 [.agg cs] K s:=by
 obtain⟨v2,v3,v4,v5,v6,v7,rfl,hL⟩:=hF;refine qS0 ⟨hL.all,qAP λb s1 hb h1 u1=>?_⟩;have h1:s1 b=some (false,.cells 31 (csG F v2 v3 v4 v5 v6 v7)):=h1;have k1:=u1.sub hb;rw[zABm]at hK;refine qAA (qAS h1 rfl) (qTT ⟨v2,v3,v4,v5,v6,v7,rfl,hL.sub k1⟩ λe s4 k4 he=>?_);have q4:=k1.trans k4;have h14:=k4 _ _ h1;simp only[qAZ,qAY,Bool.true_bne,qAB];cases a0:(e == 0)with
 | false=>
   have a0:e≠0:=by simpa using a0
   simp only[Bool.not_false,qAE];exact hK _ _ _ _ q4 ⟨λh=>absurd h a0,λg=>absurd (he.2 g.1) a0⟩
 |true=>
 have hf:FabOk F:=he.1 (eq_of_beq a0);have rt:rdN s4 6 (.ptr b 13)=some [.int .i64 F.de,.int .i64 F.ho,.int .i64 F.ag,.int .i64 F.re,.int .i64 F.mo,.int .i64 F.wi]:=by simp only[rdN,h14];rfl
 simp only[Bool.not_true,qAD,qAG,zA,qAB,rt];refine qVJ λe s9 k9 he=>?_;have q9:=q4.trans k9;have h19:=k9 _ _ h14;simp only[qAZ,qAY,Bool.true_bne,qAB];cases a1:(e == 0)with
 | false=>
   have a1:e≠0:=by simpa using a1
   simp only[Bool.not_false,qAE];exact hK _ _ _ _ q9 ⟨λh=>absurd h a1,λg=>absurd (he.2 g.2.1) a1⟩
 |true=>
 have ht:TimOk F:=he.1 (eq_of_beq a1);have L9:=hL.sub q9;have n2:qAN v2=some F.L.length:=by rw[L9.L.len,lM]
 have n3:qAN v3=some F.T.length:=by rw[L9.T.len,lM]
 have n4:qAN v4=some F.B.length:=by rw[L9.B.len,lM]
 have n5:qAN v5=some F.S.length:=L9.S.len;have n6:qAN v6=some F.H.length:=by rw[L9.H.len,lM]
 have n7:qAN v7=some F.G.length:=by rw[L9.G.len,lM]
 simp only[Bool.not_true,qAD];refine qAA (a:=[.str ⟨#[108,105,110,107,115]⟩,.str ⟨#[116,101,110,97,110,116,115]⟩,.str ⟨#[100,111,109,97,105,110,115]⟩,.str ⟨#[115,101,103,109,101,110,116,115]⟩,.str ⟨#[104,111,115,116,115]⟩,.str ⟨#[108,101,97,107,115]⟩]) rfl ⟨rfl,qAP λb12 s13 hb12 h13 u13=>?_⟩;have k13:=u13.sub hb12;have h113:=k13 _ _ h19;simp only[qAB,qAI h113,csG2,csG3,csG4,csG5,csG6,csG7,n2,n3,n4,n5,n6,n7];refine qAA (a:=zABM F) rfl ⟨rfl,qAP λb39 s40 hb39 h40 u40=>?_⟩;refine qAA (a:=zACJ) rfl ⟨rfl,qAP λb42 s43 hb42 h43 u43=>?_⟩;have k40:=u40.sub hb39;have k43:=u43.sub hb42;have q43:=q9.trans (k13.trans (k40.trans k43));have g1:=k43 _ _ (k40 _ _ h113);have g39:=k43 _ _ h40;have g12:=k43 _ _ (k40 _ _ h13);clear h113 h19 h14 h1 h13 h40;have sP:∃l:List AV,l.length=6/\Sl s43 (.slc b12 0 6 (some 6) 1) l:=⟨_,by rfl,Sl.mk g12 rfl (by intro c hc;cases hc;exact Nat.le_refl _)⟩
 obtain⟨lp,lp6,sP⟩:=sP;have sM:Sl s43 (.slc b39 0 6 (some 6) 1) (zABM F):=Sl.mk g39 rfl (by intro c hc;cases hc;exact Nat.le_refl _);have sX:Sl s43 (.slc b42 0 6 (some 6) 1) zACJ:=Sl.mk h43 rfl (by intro c hc;cases hc;exact Nat.le_refl _);refine⟨λys t m=>∃p:Nat,ys=[.int .i64 (p:Int)]/\Sub s43 t/\p<=6/\m=6-p/\∀q,q<p->EQ F q,⟨_,0,rfl,.refl _,by omega,rfl,λq hq=>by omega⟩,?_⟩;rintro en t m ⟨p,hy,kt,hp6,rfl,hall⟩;simp only[cI,and_true]at hy;rw[hy];clear hy;have sP':=sP.sub kt;have sM':=sM.sub kt;have sX':=sX.sub kt;have lenP:qAN (.slc b12 0 6 (some 6) 1)=some 6:=by rw[sP'.len,lp6]
 simp only[qNZ,lenP,qAR,qAB];refine qAJ (λhlt=>?_) (λhge=>?_)
 ·have hp:p<6:=by have:=oT hlt;omega
  obtain⟨pm,m1,m2⟩:=sM'.get (i:=p) hp;obtain⟨px,x1,x2⟩:=sX'.get (i:=p) hp;obtain⟨pp,p1,p2⟩:=sP'.get (i:=p) (by omega);rw[qUX hp]at m2;rw[qZs hp]at x2;have hlp:lp[p]?=some lp[p]:=gE (by omega);rw[hlp]at p2;simp only[m1,m2,x1,x2,qAB,qAh];refine qAJ (λq=>?_) (λq=>?_)
  ·simp only[p1,p2,qAB]
   refine hK 7 _ _ _ (q43.trans kt) ⟨λh=>absurd h (by decide),λg=>?_⟩;have:=(g.2.2 p hp).1;have:=oT q;omega
  ·have hle:EL F p<=EM p:=by have:=oF q;omega
   have hel:=zAEs z hp;refine⟨λys t2 m=>∃i:Nat,ys=[.int .i64 (i:Int)]/\Sub s43 t2/\i<=EL F p/\m=EL F p-i/\∀j,j<i->EP F p j,⟨_,0,rfl,kt,by omega,rfl,λj hj=>by omega⟩,?_⟩;rintro en2 t2 m2 ⟨i,hy,kt2,hi,rfl,hrow⟩;simp only[cI,and_true]at hy;rw[hy];clear hy;have m2':=(sM.sub kt2).get (i:=p) hp;obtain⟨pm,m1,m2⟩:=m2';rw[qUX hp]at m2;simp only[qOb,m1,m2,qAR,qAB];refine qAJ (λhlt2=>?_) (λhge2=>?_)
   ·have hlt2:i<EL F p:=by have:=oT hlt2;omega
    have q2:=q43.trans kt2;refine qAA (qAS (kt2 _ _ g1) rfl) (qTN hp z hf (λh4=>zABh.2 (hall 2 (by omega))) ⟨v2,v3,v4,v5,v6,v7,rfl,hL.sub q2⟩ hlt2 λe s61 k61 he=>?_);simp only[qAZ,qAY,Bool.true_bne,qAB];cases a2:(e == 0)with
    | false=>
      have a2:e≠0:=by simpa using a2
      obtain⟨pp,p1,p2⟩:=(sP.sub (kt2.trans k61)).get (i:=p) (by omega);rw[hlp]at p2;simp only[Bool.not_false,qAE,p1,p2,qAB];exact hK _ _ _ _ (q2.trans k61) ⟨λh=>absurd h a2,λg=>absurd (he.2 ((g.2.2 p hp).2 i hlt2)) a2⟩
    |true=>
    simp only[Bool.not_true,qAD,qAU,qAB];rw[qAe (by omega) (by omega)];refine⟨_,by omega,i+1,rfl,kt2.trans k61,by omega,rfl,λj hj=>?_⟩
    by_cases e:j=i
    ·subst e;exact he.1 (eq_of_beq a2)
    ·exact hrow j (by omega)
   ·have hge2:i=EL F p:=by have:=oF hge2;omega
    subst hge2;simp only[qAU,qAB];rw[qAe (by omega) (by omega)];refine⟨_,by omega,p+1,rfl,kt2,by omega,rfl,λq hq=>?_⟩
    by_cases e:q=p
    ·subst e;exact⟨hle,hrow⟩
    ·exact hall q (by omega)
 ·have hge:p=6:=by have:=oF hge;omega
  subst hge;exact hK _ _ _ _ (q43.trans kt) ⟨λ_=>⟨hf,ht,hall⟩,λ_=>rfl⟩
end Go.AM.TN
set_option maxRecDepth 100000
namespace Go.AM.FW
open Go Go.Proofs Go.AM.TN
variable {K:AV→Hq→Prop} {s s':Hq} {cs:List AV} {F:FG} {S:List (List Int × List Int)} {x:List Int × List Int} {v2 v3 v4 v5 v6 v7:AV}
structure Sml(F:FG):Prop where
 L:F.L.length<=40
 T:F.T.length<=40
 B:F.B.length<=40
 S:F.S.length<=40
 H:F.H.length<=40
 G:F.G.length<=40
 N:∀x∈F.S,x.1.length<=20/\x.2.length<=20
theorem zACB(hS:F.S.length<=9223372036854775807)(hF:FabR s cs F)(hK:∀b s',Sub s s'->(b=false->Sml F)->K (.bool b) s'):wC TP XX 29 [.agg cs] K s:=by
 obtain⟨v2,v3,v4,v5,v6,v7,rfl,hL⟩:=hF;refine qWB ⟨hL.all,qAP λb s1 hb h1 u1=>?_⟩;have h1:s1 b=some (false,.cells 31 (csG F v2 v3 v4 v5 v6 v7)):=h1;have k1:=u1.sub hb;have L1:=hL.sub k1;have n2:qAN v2=some F.L.length:=by rw[L1.L.len,lM]
 have n3:qAN v3=some F.T.length:=by rw[L1.T.len,lM]
 have n4:qAN v4=some F.B.length:=by rw[L1.B.len,lM]
 have n5:qAN v5=some F.S.length:=L1.S.len;have n6:qAN v6=some F.H.length:=by rw[L1.H.len,lM]
 have n7:qAN v7=some F.G.length:=by rw[L1.G.len,lM]
 have yes:K (.bool true) s1:=hK true s1 k1 λh=>by cases h
 simp only[qAG,zA,qAB,qAI h1,csG2,n2,qAh];cases a0:decide ((40:Int)<(F.L.length:Int))with
 | true=>
   simp only[qAE,qHR,qF1,qEl,qDx,qD2,qAV,qAB];exact yes
 |false=>
 simp only[qAD,qAB,csG3,n3];cases a1:decide ((40:Int)<(F.T.length:Int))with
 | true=>
   simp only[qAE,qHR,qF1,qEl,qDx,qD2,qAV,qAL,qAB];exact yes
 |false=>
 simp only[qHR,qAL,qAD,qAG,zA,qAB,qAI h1,csG4,n4,qAh];cases a2:decide ((40:Int)<(F.B.length:Int))with
 | true=>
   simp only[qAE,qF1,qEl,qDx,qD2,qAV,qAL,qAB];exact yes
 |false=>
 simp only[qF1,qAL,qAD,qAG,zA,qAB,qAI h1,csG5,n5,qAh];cases a3:decide ((40:Int)<(F.S.length:Int))with
 | true=>
   simp only[qAE,qEl,qDx,qD2,qAV,qAL,qAB];exact yes
 |false=>
 simp only[qEl,qAL,qAD,qAG,zA,qAB,qAI h1,csG6,n6,qAh];cases a4:decide ((40:Int)<(F.H.length:Int))with
 | true=>
   simp only[qAE,qDx,qD2,qAV,qAL,qAB];exact yes
 |false=>
 simp only[qDx,qAL,qAD,qAG,zA,qAB,qAI h1,csG7,n7,qAh,qD2];refine qAJ (λ_=>yes) (λa5=>?_);refine⟨λys t m=>∃k:Nat,ys=[.int .i64 (k:Int)]/\t=s1/\k<=F.S.length/\m=F.S.length-k/\∀x∈F.S.take k,x.1.length<=20/\x.2.length<=20,⟨_,0,rfl,rfl,by omega,rfl,by simp⟩,?_⟩;rintro en t m ⟨k,hy,rfl,hki,rfl,hno⟩;simp only[cI,and_true]at hy;rw[hy];simp only[qPK,qAG,zA,qAI h1,csG5,n5,qAR,qAB];refine qAJ (λhlt=>?_) (λhge=>?_)
 ·have hlt:k<F.S.length:=by have:=oT hlt;omega
  have hx:F.S[k]?=some F.S[k]:=gE hlt;obtain⟨pb,po,l1,l2,e1,_,e3,e4,g1,g2⟩:=L1.S.at hx;have m1:qAN l1=some F.S[k].1.length:=by rw[g1.len,qAm]
  have m2:qAN l2=some F.S[k].2.length:=by rw[g2.len,qAm]
  simp only[qAG,Nat.add_zero,qAB,e1,e3,m1,qAh];cases q:decide ((20:Int)<(F.S[k].1.length:Int))with
  | true=>
    simp only[qAE,qJp,qAV,qAB];exact yes
  |false=>
  simp only[qAD,qAB,e4,m2,qJp,qAL];refine qAJ (λ_=>yes) (λq2=>?_);simp only[qAU,qAB];rw[qAe (by omega) (by omega)];refine⟨_,by omega,k+1,rfl,(by trivial),by omega,rfl,qNG hlt hno ?_⟩;have:=oF q;have:=oF q2;omega
 ·have hge:k=F.S.length:=by have:=oF hge;omega
  subst hge;rw[List.take_length]at hno;have:=oF a0;have:=oF a1;have:=oF a2;have:=oF a3;have:=oF a4;have:=oF a5;exact hK false _ k1 λ_=>⟨by omega,by omega,by omega,by omega,by omega,by omega,hno⟩
end Go.AM.FW
set_option maxRecDepth 100000
namespace Go.AM.FC
open Go Go.Proofs Go.AM.TN
variable {K:AV→Hq→Prop} {s s' s0 t U:Hq} {v:AV} {l:List Int} {x:Fr}
theorem cutf:∀{L:List (Hq×Hq)}{U:Hq},(∀p∈L,p.1=s0)->Sub s0 U->Sub s0 (cutH L U)
 |[],_,_,h=>h
 | p::L,U,hp,h=>by
   refine cutf (L:=L) (U:=λb=>if p.1 b=none/\p.2 b≠none then none else U b) (λq hq=>hp q (mO _ hq)) λi e hi=>?_;show(if p.1 i=none/\p.2 i≠none then none else U i)=some e;rw[if_neg]
   ·exact h i e hi
   ·rw[hp p List.mem_cons_self,hi];simp
theorem wput{n:Int}{k:Nat}{D:Hq->AV->Hq->Prop}(hk:k<=8)(h:Acc 5 s0 t v (b8 l))(hs:Sub s0 t)(hl:l.length<=500)
  (hD:∀v' s',Acc 5 s0 (add s' (rest t (minus t s0))) v' (b8 (l++numB n k))->Sub s0 (add s' (rest t (minus t s0)))->D s0 v' s') :
  ∃h4:Hq,(∀b,h4 b≠none->t b≠none)/\wC TP XX 94 [v,.int .u64 n,.int .i64 (k:Int)] (λv' s'=>(∀b,t b≠none->minus t h4 b=none->s' b=none)->D h4 v' s') (minus t h4):=by
 refine⟨s0,λb hb=>?_,?_⟩
 ·cases e:s0 b with
  |none=>exact absurd e hb
  |some y=>rw[hs _ _ e];simp
 have hin:∀{i:Nat},s0 i=none->minus t s0 i=t i:=fun {i} h=>if_pos h;have hout:∀{i:Nat}{y},s0 i=some y->minus t s0 i=none:=fun {i y} h=>if_neg (by rw[h];simp);have h2:Acc 5 (λ_=>none) (minus t s0) v (b8 l):=by
  rcases h with h|⟨b,h0,rfl,h⟩
  ·exact .inl h
  ·exact .inr ⟨b,rfl,rfl,by rw[hin h0];exact h⟩
 refine zABA hk h2 (λi e hi=>by cases hi) hl λv' s' a _ hy=>hD v' s' ?_ ?_
 ·rcases a with a|⟨b,_,rfl,a⟩
  ·exact .inl a
  ·refine .inr ⟨b,?_,rfl,qCK a⟩
   cases e:s0 b with
   |none=>rfl
   | some y=>
     have:=hy b (by rw[hs _ _ e];simp) (hout e);rw[this]at a;cases a
 ·intro i e hi
  have h1:=hout hi;rw[qCU (hy i (by rw[hs _ _ hi];simp) h1)];unfold rest;rw[if_pos h1];exact hs _ _ hi
theorem zAAZ{z:AV}{y:Int}{C:AV->Hq->Prop}{L:List (Hq×Hq)}(hz:z.one=true)(h:Acc 5 s0 U v (b8 l))(hs:Sub s0 U)(hl:l.length<=1000)(hK:∀v' s',Acc 5 s0 s' v' (b8 (l ++ [y]))->Sub s0 s'->C v' s'):
  oK (qBb (repl 1 [z]) [(0,1,.int .u8 y)]) λc=>qAd c=true/\newK 5 c (λb s2=>(∀i,U i≠none->cutH L U i=none->s2 i=none)->appK 5 1 v (.slc b 0 1 (some 1) 1) C (add U s2)) (frz (cutH L U)):=by
 refine qAA (a:=[.int .u8 y]) ?_ ⟨rfl,newM λb s2 hb h1 u1=>?_⟩
 ·show cond (Nat.beq (AV.int .u8 y).cells.length 1&&Nat.ble (0+(AV.int .u8 y).cells.length) 1) (qBb (qBG [z] 0 (AV.int .u8 y).cells) []) none=_
  rfl
 generalize add U s2=W at *;have k1:=hs.trans (u1.sub hb);refine(qXu h (u1.sub hb)).app (m:=[.int .u8 y]) (Sl.mk h1 rfl (by simp)) (by simp) (by simp;omega) (λi hi=>?_) λv' s' a k=>?_
 ·cases e:s0 i with
  |none=>exact absurd e hi
  |some y=>rw[k1 _ _ e];simp
 ·refine hK v' s' (by rw[b8,List.map_append];exact a) λi e hi=>k i e (k1 i e hi) λb' hv=>?_
  rintro rfl;rcases h with⟨rfl,_⟩|⟨b2,h0,rfl,_⟩
  ·cases hv
  ·cases hv
   rw[h0]at hi;cases hi
theorem zAAU{X:AV->Hq->Prop}(hf:Acc 5 s0 s v (b8 (flw x)))(hX:X (.int .i64 (ent x)) s):qA5 XX v X s:=by unfold qA5;refine zACf hf.sl (by rw[qTK];omega) ?_;simp only[qI8 (show(16384:Int)≠0 by decide),cvI,qAU,qAB];exact hX
theorem zAEU(n:Int):qBF .u8 ((qBF .u64 n).fdiv ((2^(8*0):Nat):Int))=qBF .u8 n:=by
 have h1:∀n,qBF .u8 n=n % 256:=λn=>by simp only[qBF];rw[qFr _ _ _ (by omega) (by omega)];split<;>omega
 have h2:∀n,qBF .u64 n=n % 18446744073709551616:=λn=>by simp only[qBF];rw[qFr _ _ _ (by omega) (by omega)];split<;>omega
 rw[h1,h1,h2,show((2^(8*0):Nat):Int)=1 from rfl,Int.fdiv_one];omega
theorem one8(n:Int):numB (qBF .u64 n) 1=[qBF .u8 n]:=by rw[numB,numB,zAEU]
theorem rEntropy_in(hK:∀s',Sub s s'->K (.int .i64 (ent x)) s'):wC TP XX 65 [.agg (frC x)] K s:=by
 refine qGC ⟨rfl,qAP λb s1 hb h1 u1=>?_⟩;have k1:=u1.sub hb;have h1:s1 b=some (false,.cells 48 (frC x)):=h1;have rd:∀{t:Hq},Sub s1 t->∀i,rd1 t (.ptr b i)=(frC x)[i]?:=λk i=>qAI (k _ _ h1);have g:∀{t:Hq}{w:AV}{l:List Int},Acc 5 s1 t w (b8 l)->Sub s1 t->flw x=l->qA5 XX w K t:=fun {t w l} a k e=>by subst e;exact zAAU a (hK _ (k1.trans k))
 simp only[qAG,zA,qAB,rd (.refl _),frC,g0Y];refine wput (k:=6) (by omega) qPx (.refl _) (by simp) λw4 s4 a4 k4=>?_;generalize add s4 (rest s1 (minus s1 s1))=T4 at *;have c1:∀{L:List (Hq×Hq)}{U:Hq},(∀p∈L,p.1=s1)->Sub s1 U->∀i,rd1 (cutH L U) (.ptr b i)=(frC x)[i]?:=λhp k i=>rd (cutf hp k) i;simp only[qAB,c1 (L:=[(s1,qEH)]) (by simp) k4,frC,g1Y,g0Y];refine wput (k:=6) (by omega) a4 k4 (by simp[qCq]) λw5 s5 a5 k5=>?_;generalize add s5 (rest T4 (minus T4 s1))=T5 at *;simp only[qAB,c1 (L:=[(s1,qEH),(s1,qEH)]) (by simp) k5,frC,g1Y,g0Y,cvI];refine zAAZ rfl a5 k5 (by simp[qCq]) λw6 s6 a6 k6=>?_;have r2:rd1 s6 (.ptr b 2)=some (.int .i64 x.kind):=by rw[rd k6];rfl
 simp only[qAB,r2,qAZ,qAY,Bool.false_bne];cases q:(x.kind == 2)with
 | false=>
   have q:¬x.kind=2:=by simpa using q
   simp only[qAD];exact g a6 k6 (by unfold flw;rw[if_neg q,flwE,one8];rfl)
 | true=>
   have q:x.kind=2:=eq_of_beq q;simp only[qAE,Nat.add_zero,Nat.reduceAdd,qAB,rd k6,frC,g1Y,g0Y,cvI];refine wput (k:=4) (by omega) qPx k6 (by simp) λw7 s7 a7 k7=>?_;generalize add s7 (rest s6 (minus s6 s1))=T7 at *;simp only[qAB,c1 (L:=[(s1,qEH)]) (by simp) k7,frC,g1Y,g0Y,cvI];refine wput (k:=4) (by omega) a7 k7 (by simp[qCq]) λw8 s8 a8 k8=>?_;generalize add s8 (rest T7 (minus T7 s1))=T8 at *;simp only[qAB,c1 (L:=[(s1,qEH),(s1,qEH)]) (by simp) k8,frC,g1Y,g0Y,cvI];refine zAAZ rfl a8 k8 (by simp[qCq]) λw9 s9 a9 k9=>?_;simp only[qAB,rd k9,frC,g1Y,g0Y,cvI];refine wput (k:=2) (by omega) a9 k9 (by simp[qCq]) λw10 s10 a10 k10=>?_;generalize add s10 (rest s9 (minus s9 s1))=T10 at *;simp only[qAB,c1 (L:=[(s1,qEH)]) (by simp) k10,frC,g1Y,g0Y,cvI];refine zABA (k:=2) (by omega) a10 k10 (by simp[qCq]) λw11 s11 a11 k11=>?_;exact g a11 k11 (by unfold flw;rw[if_pos q,flwI,one8];rfl)
end Go.AM.FC
set_option maxRecDepth 100000
namespace Go.AM.OR
open Go Go.Proofs Go.AM.TN
variable {K:AV→Hq→Prop} {s s' t:Hq} {v:AV} {cs ws:List AV} {F:FG} {W:WG} {a b c i j:Nat} {h l sg:Int} {v2 v3 v4 v5 v6 v7 w1 w2 w3 w4:AV} {y:R4} {q:Bool} {x:FC.Fr}
theorem qVx{bl:List Bool}(hs:Sl s v (bs bl))(hK:K (.bool (onB bl l)) s):wC TP XX 68 [v,.int .i64 l] K s:=by
 refine qIq ?_;unfold qGO;rw[qAo,qAB];have nl:qAN v=some bl.length:=by rw[hs.len];simp
 have fin:∀{t11:AV}{a:Bool},qAO (.bool a) t11 (.bool false)=some (.bool false)->onB bl l=false->qBZ XX v (.int .i64 l) (.bool a) t11 K s:=fun {t11 a} e q=>by unfold qBZ;refine qAA e ?_;rw[qAD];unfold qCJ;refine qAA (a:=.bool false) rfl ?_;rw[<- q];exact hK
 cases c:decide (0<=l)with
 |false=>rw[qAD];exact fin rfl (qX8 (by have:=oF c;omega))
 | true=>
   have h0:=oT c;rw[qAE];refine qAA nl ?_;rw[qAR,qAB];cases d:decide (l<(bl.length:Int))with
   |false=>exact fin rfl (zAAz h0 (by have:=oF d;omega))
   | true=>
     have hl:=oT d;obtain⟨i,rfl⟩:=qHW h0;unfold qBZ;refine qAA (a:=.bool true) rfl ?_;rw[qAE];have hi:i<bl.length:=by omega
     obtain⟨pp,g1,g2⟩:=hs.get (i:=i) (by simpa using hi);refine qAA g1 (qAA (a:=.bool bl[i]) (by rw[g2];simp[hi]) ?_);unfold qCJ;refine qAA (a:=.bool bl[i]) rfl ?_;rw[<- zAAr hi];exact hK
theorem qZp(hW:WR s ws W)(hK:∀s',Sub s s'->K (.bool (qLB W l sg)) s'):wC TP XX 69 [.agg ws,.int .i64 l,.int .i64 sg] K s:=by
 obtain⟨w1,w2,w3,w4,rfl,hw⟩:=hW;refine qHf (boxN hw.all λb s1 hb h1 u1=>?_);have k1:=u1.sub hb;have h1:s1 b=some (false,.cells 36 [w1,w2,w3,w4]):=h1;have h3:=hw.sub k1;have hK:=hK s1 k1;rw[qAo,qAB];have fin:∀{t17:AV}{a:Bool},qAO (.bool a) t17 (.bool false)=some (.bool false)->qLB W l sg=false->qBH XX (.int .i64 l) (.int .i64 sg) (.ptr b 0) (.bool a) t17 K s1:=fun {t17 a} e q=>by unfold qBH;refine qAA e ?_;rw[qAD];unfold qBu;refine qAA (a:=.bool false) rfl ?_;rw[<- q];exact hK
 cases c:decide (0<=l)with
 |false=>rw[qAD];exact fin rfl (by unfold qLB;rw[c];rfl)
 | true=>
   have h0:=oT c;obtain⟨i,rfl⟩:=qHW h0;rw[qAE];refine qAA (a:=.ptr b 2) rfl (qAA (a:=w3) (by rw[qAI h1];rfl) (qAA (qUq h3.pt) ?_));rw[qAR,qAB];cases d:decide ((i:Int)<(W.pt.length:Int))with
   | false=>
     refine fin rfl ?_;unfold qLB;have:(i:Int).toNat=i:=by omega
     rw[this,List.getElem?_eq_none (by have:=oF d;omega),Bool.and_false]
   | true=>
     have hi:i<W.pt.length:=by have:=oT d;omega
     have hr:W.pt[i]?=some W.pt[i]:=gE hi;obtain⟨pp,q,g1,g2,g3⟩:=h3.pt.at hr;unfold qBH;refine qAA (a:=.bool true) rfl ?_;rw[qAE];refine qAA (a:=.ptr b 2) rfl (qAA (a:=w3) (by rw[qAI h1];rfl) (qAA g1 (qAA g2 (qVx g3 ?_))));unfold qBu;refine qAA (a:=.bool (onB W.pt[i] sg)) rfl ?_;have e:qLB W (i:Int) sg=onB W.pt[i] sg:=by
      unfold qLB;have:(i:Int).toNat=i:=by omega
      rw[this,hr,c,Bool.true_and]
     rw[<- e];exact hK
theorem qGF(z:Sz F)(hF:FabR s cs F)(hK:∀b s',Sub s s'->(b=true↔Valid F)->K (.bool b) s'):wC TP XX 66 [.agg cs] K s:=by obtain⟨v2,v3,v4,v5,v6,v7,rfl,hL⟩:=hF;refine qG9 (boxN hL.all λb s1 hb h1 u1=>?_);have h1:s1 b=some (false,.cells 31 (csG F v2 v3 v4 v5 v6 v7)):=h1;have k1:=u1.sub hb;refine qAA (qAS h1 rfl) (qYQ z ⟨v2,v3,v4,v5,v6,v7,rfl,hL.sub k1⟩ λe p j s4 k4 he=>?_);refine qAA (a:=.int .i64 e) rfl (qAA (a:=p) rfl (qAA (a:=.int .i64 j) rfl ?_));simp only[qAZ,qAY,Bool.false_bne,qAB];exact hK _ s4 (k1.trans k4) (by rw[beq_iff_eq];exact he)
theorem qPt{x:Int}{L:List Int}(hv:Sl s v (ix L))(hl:L.length<=100000)(hK:K (.bool (decide (x∈L))) s):wC TP XX 93 [v,.int .i64 x] K s:=by
 refine qHz ?_;unfold qFN;refine⟨λys t m=>∃i:Nat,ys=[.int .i64 (i:Int)]/\i<=L.length/\m=L.length-i/\t=s/\x ∉ L.take i,⟨_,0,rfl,by omega,rfl,rfl,by simp⟩,?_⟩;rintro f t m ⟨i,hy,hi,rfl,rfl,hno⟩;simp only[cI,and_true]at hy;rw[hy];unfold qD7;refine qAA (by rw[hv.len,qAm]) ?_;rw[qAR,qAB];refine qAJ (λhlt=>?_) (λhge=>?_)
 rotate_left
 ·have hge:i=L.length:=by have:=oF hge;omega
  subst hge;rw[List.take_length]at hno;rw[decide_eq_false hno]at hK;exact hK
 have hlt:i<L.length:=by have:=oT hlt;omega
 have hx:L[i]?=some L[i]:=gE hlt;obtain⟨pp,g1,g2⟩:=hv.get (i:=i) (by rw[qAm];exact hlt);rw[qDU hlt]at g2;generalize L[i]=e at hx g2;refine qAA g1 (qAA g2 ?_);simp only[qAZ,qAY,Bool.false_bne,qAB];refine qAJ (λq=>?_) (λq=>?_)
 ·have q:=eq_of_beq q
  subst q;rw[decide_eq_true (mG hx)]at hK;exact hK
 ·have q:¬e=x:=by simpa using q
  rw[qAU,qAB,qAe (by omega) (by omega)];refine⟨_,by omega,i+1,rfl,by omega,rfl,(by trivial),λhm=>?_⟩;rw[List.take_add_one,hx]at hm;rcases mP hm with hm|hm
  ·exact hno hm
  ·have:x=e:=by simpa using hm
   exact q this.symm
theorem zAAD(zm:SmS F)(hF:FabR s cs F)(hW:WR s ws W)(hl:∀y∈F.S,y.2.length<=100000)(hK:∀s',Sub s s'->K (.int .i64 ((att F W h).getD (-1))) s'):wC TP XX 64 [.agg cs,.agg ws,.int .i64 h] K s:=by
 obtain⟨v2,v3,v4,v5,v6,v7,rfl,hL⟩:=hF;obtain⟨w1,w2,w3,w4,rfl,hw⟩:=hW;refine qHC (boxN hL.all λb0 s1 hb0 g1 u1=>boxN hw.all λb2 s3 hb2 g3 u3=>?_);have k1:=u1.sub hb0;have k3:=u3.sub hb2;have kk:=k1.trans k3;have L3:=hL.sub kk;have W3:=hw.sub kk;have g1:s3 b0=some (false,.cells 31 (csG F v2 v3 v4 v5 v6 v7)):=k3 _ _ g1;have g3:s3 b2=some (false,.cells 36 [w1,w2,w3,w4]):=g3;have hK:=hK s3 kk;have no1:∀{t17 t22:AV},qAO t17 (.bool true) t22=some (.bool true)->att F W h=none->qBE XX (.int .i64 h) (.ptr b0 0) (.ptr b2 0) t17 t22 K s3:=fun {t17 t22} e q=>by unfold qBE;refine qAA e ?_;rw[qAE];rw[q]at hK;exact hK
 rw[qAR,qAB];cases c:decide (h<0)with
 | true=>
   have c':=oT c;rw[qAE];unfold qBh;refine qAA (a:=.bool true) rfl ?_;rw[qAE];exact no1 rfl (by unfold att;rw[if_neg (by omega)])
 |false=>
 have h0:0<=h:=by have:=oF c;omega
 obtain⟨i,rfl⟩:=qHW h0;have ei:(i:Int).toNat=i:=by omega
 rw[qAD];refine qAA (a:=.ptr b0 6) rfl (qAA (a:=v6) (by rw[qAI g1];rfl) (qAA (by rw[L3.H.len,lM]) ?_));rw[qAo,qAB];unfold qBh;refine qAA rfl ?_;refine qAJ (λd=>?_) (λd=>?_)
 ·rw[d]
  refine no1 rfl ?_;unfold att;rw[if_pos h0,ei,List.getElem?_eq_none (by have:=oT d;omega)]
 have hi:i<F.H.length:=by have:=oF d;omega
 rw[d];refine qAA (a:=.ptr b2 3) rfl (qAA (a:=w4) (by rw[qAI g3];rfl) (qAA (by rw[W3.wh.len,qAm]) ?_));rw[qAo,qAB];have hx:F.H[i]?=some F.H[i]:=gE hi;generalize F.H[i]=y at hx;cases e:decide ((W.wh.length:Int)<=(i:Int))with
 | true=>
   refine no1 rfl ?_;unfold att;rw[if_pos h0,ei,hx,List.getElem?_eq_none (by have:=oT e;omega)]
 |false=>
 have hi2:i<W.wh.length:=by have:=oF e;omega
 have hs:W.wh[i]?=some W.wh[i]:=gE hi2;obtain⟨pp,q1,q2⟩:=W3.wh.get (i:=i) (by rw[qAm];exact hi2);rw[qDU hi2]at q2;generalize W.wh[i]=sg at hs q2;have eatt:att F W (i:Int)=if 0<=sg then(match F.S[sg.toNat]? with
  |some g=>if y.2.2.1∈g.2 then some sg else none
  |none=>none)else none:=by
  unfold att;rw[if_pos h0,ei,hx,hs];rfl
 unfold qBE;refine qAA (a:=.bool false) rfl ?_;rw[qAD];refine qAA (a:=.ptr b2 3) rfl (qAA (a:=w4) (by rw[qAI g3];rfl) (qAA q1 (qAA q2 ?_)));rw[qAR,qAB];have no2:∀{t31 t36:AV},qAO t31 (.bool true) t36=some (.bool true)->att F W (i:Int)=none->qBD XX (.int .i64 (i:Int)) (.ptr b0 0) (.int .i64 sg) t31 t36 K s3:=fun {t31 t36} e q=>by unfold qBD;refine qAA e ?_;rw[qAE];unfold qBg;refine qAA (a:=.bool true) rfl ?_;rw[qAE];rw[q]at hK;exact hK
 cases f:decide (sg<0)with
 | true=>
   rw[qAE];exact no2 rfl (by rw[eatt,if_neg (by have:=oT f;omega)])
 |false=>
 have f0:0<=sg:=by have:=oF f;omega
 rw[qAD];refine qAA (a:=.ptr b0 5) rfl (qAA (a:=v5) (by rw[qAI g1];rfl) (qAA L3.S.len ?_));rw[qAo,qAB];rw[if_pos f0]at eatt;cases g:decide ((F.S.length:Int)<=sg)with
 | true=>
   refine no2 rfl ?_;rw[eatt,List.getElem?_eq_none (by have:=oT g;omega)]
 |false=>
 have gl:sg.toNat<F.S.length:=by have:=oF g;omega
 have hg:F.S[sg.toNat]?=some F.S[sg.toNat]:=gE gl;generalize F.S[sg.toNat]=r at hg;rw[hg]at eatt;unfold qBD;refine qAA (a:=.bool false) rfl ?_;rw[qAD];obtain⟨pb,po,l1,l2,a1,_,_,a4,_,a6⟩:=L3.S.at hg;rw[show((sg.toNat:Nat):Int)=sg by omega]at a1;obtain⟨hb,ho,e1,e2,e3⟩:=L3.H.get (i:=i) (r:=hgC y) (by rw[List.getElem?_map,hx];rfl);refine qAA (a:=.ptr b0 5) rfl (qAA (a:=v5) (by rw[qAI g1];rfl) (qAA a1 (qAA (a:=.ptr pb (po+1)) rfl (qAA a4 (qAA (a:=.ptr b0 6) rfl (qAA (a:=v6) (by rw[qAI g1];rfl) (qAA e1 (qAA (a:=.ptr hb (ho+2)) rfl (qAA (a:=.int .i64 y.2.2.1) ((e3 2 (by omega)).trans rfl) ?_)))))))));refine qPt a6 (hl r (mG hg)) ?_;rw[qAa,qAB];unfold qBg
 by_cases m:y.2.2.1∈r.2
 ·rw[decide_eq_true m]
  refine qAA (a:=.bool false) rfl ?_;rw[qAD];simp only[if_pos m]at eatt;rw[eatt]at hK;exact hK
 ·rw[decide_eq_false m]
  refine qAA (a:=.bool true) rfl ?_;rw[qAE];simp only[if_neg m]at eatt;rw[eatt]at hK;exact hK
end Go.AM.OR
set_option maxRecDepth 100000
namespace Go.AM.OR
open Go Go.Proofs Go.AM.TN
variable {K:AV→Hq→Prop} {s s' t:Hq} {v:AV} {cs ws:List AV} {F:FG} {W:WG} {a b c i j k:Nat} {h sg:Int} {v2 v3 v4 v5 v6 v7 w1 w2 w3 w4:AV} {q:Bool} {x:FC.Fr}
theorem qP2(hW:WR s ws W)(hK:∀b s',Sub s s'->K (.bool b) s'):wC TP XX 30 [.agg ws] K s:=by
 obtain⟨w1,w2,w3,w4,rfl,hw⟩:=hW;refine qMr (boxN hw.all λb s1 hb h1 u1=>?_);have k1:=u1.sub hb;have h1:s1 b=some (false,.cells 36 [w1,w2,w3,w4]):=h1;have W1:=hw.sub k1;have l1:qAN w1=some W.nd.length:=by rw[W1.nd.len];simp
 have l2:qAN w2=some W.lk.length:=by rw[W1.lk.len];simp
 have l4:qAN w4=some W.wh.length:=by rw[W1.wh.len,qAm]
 have j2t:∀{t20 t24:AV},qAO t20 (.bool true) t24=some (.bool true)->qC2 XX (.ptr b 0) t20 t24 K s1:=fun {t20 t24} e=>by unfold qC2;refine qAA e ?_;rw[qAE];exact hK _ _ k1
 have j1t:∀{t14 t18:AV},qAO t14 (.bool true) t18=some (.bool true)->qC1 XX (.ptr b 0) t14 t18 K s1:=fun {t14 t18} e=>by unfold qC1;refine qAA e ?_;rw[qAE];exact j2t rfl
 have j0t:∀{t8 t12:AV},qAO t8 (.bool true) t12=some (.bool true)->qCw XX (.ptr b 0) t8 t12 K s1:=fun {t8 t12} e=>by unfold qCw;refine qAA e ?_;rw[qAE];exact j1t rfl
 refine qAA (a:=.ptr b 0) rfl (qAA (a:=w1) (by rw[qAI h1];rfl) (qAA l1 ?_));rw[qAh,qAB];refine qAJ (λc=>?_) (λc=>?_)
 ·rw[c];exact j0t rfl
 rw[c];refine qAA (a:=.ptr b 1) rfl (qAA (a:=w2) (by rw[qAI h1];rfl) (qAA l2 ?_));rw[qAh,qAB];cases c2:decide ((200:Int)<(W.lk.length:Int))with
 |true=>exact j0t rfl
 |false=>
 unfold qCw;refine qAA (a:=.bool false) rfl ?_;rw[qAD];refine qAA (a:=.ptr b 2) rfl (qAA (a:=w3) (by rw[qAI h1];rfl) (qAA (qUq W1.pt) ?_));rw[qAh,qAB];cases c3:decide ((100:Int)<(W.pt.length:Int))with
 |true=>exact j1t rfl
 |false=>
 have hp:W.pt.length<=100:=by have:=oF c3;omega
 unfold qC1;refine qAA (a:=.bool false) rfl ?_;rw[qAD];refine qAA (a:=.ptr b 3) rfl (qAA (a:=w4) (by rw[qAI h1];rfl) (qAA l4 ?_));rw[qAh,qAB];cases c4:decide ((200:Int)<(W.wh.length:Int))with
 |true=>exact j2t rfl
 |false=>
 unfold qC2;refine qAA (a:=.bool false) rfl ?_;rw[qAD];refine⟨λys t m=>∃k:Nat,ys=[.int .i64 (k:Int)]/\k<=W.pt.length/\m=W.pt.length-k/\t=s1,⟨_,0,rfl,by omega,rfl,rfl⟩,?_⟩;rintro f t m ⟨k,hy,hk,rfl,rfl⟩;simp only[cI,and_true]at hy;rw[hy];unfold qId;refine qAA (a:=.ptr b 2) rfl (qAA (a:=w3) (by rw[qAI h1];rfl) (qAA (qUq W1.pt) ?_));rw[qAR,qAB];refine qAJ (λhlt=>?_) (λ_=>hK _ _ k1);have hlt:k<W.pt.length:=by have:=oT hlt;omega
 have hr:W.pt[k]?=some W.pt[k]:=gE hlt;obtain⟨pp,q,e1,e2,e3⟩:=W1.pt.at hr;refine qAA (a:=.ptr b 2) rfl (qAA (a:=w3) (by rw[qAI h1];rfl) (qAA e1 (qAA e2 (qAA e3.len ?_))));rw[qAh,qAB];refine qAJ (λ_=>hK _ _ k1) (λ_=>?_);rw[qAU,qAB,qAe (by omega) (by omega)];exact⟨_,by omega,k+1,rfl,by omega,rfl,rfl⟩
theorem qOl(z:Sz F)(h20:∀x∈F.S,x.1.length<=100000)(hF:FabR s cs F)(hW:WR s ws W)(hN:¬Valid F->∀s',Sub s s'->K .nilslc s')(hK:Valid F->∀v' s',Sub s s'->Sl s' v' (ix (mems F W sg))->K v' s'):wC TP XX 36 [.agg cs,.agg ws,.int .i64 sg] K s:=by
 obtain⟨v2,v3,v4,v5,v6,v7,rfl,hL⟩:=hF;obtain⟨w1,w2,w3,w4,rfl,hw⟩:=hW;refine qGE (boxN hL.all λb0 s1 hb0 g1 u1=>boxN hw.all λb2 s3 hb2 g3 u3=>?_);have k1:=u1.sub hb0;have k3:=u3.sub hb2;have g1:s1 b0=some (false,.cells 31 (csG F v2 v3 v4 v5 v6 v7)):=g1;refine qAA (qAS (k3 _ _ g1) rfl) (qGF z ⟨v2,v3,v4,v5,v6,v7,rfl,hL.sub (k1.trans k3)⟩ λvb s6 k6 hvb=>?_);have kk:=(k1.trans k3).trans k6;have L6:=hL.sub kk;have W6:=hw.sub kk;have g1:=k6 _ _ (k3 _ _ g1);have g3:s6 b2=some (false,.cells 36 [w1,w2,w3,w4]):=k6 _ _ g3;rw[qAa,qAB];have j1t:∀{t17 t22:AV},qAO t17 (.bool true) t22=some (.bool true)->K .nilslc s6->qA4 XX (.int .i64 sg) (.ptr b0 0) (.ptr b2 0) .nilslc t17 t22 K s6:=fun {t17 t22} e h=>by unfold qA4;refine qAA e ?_;rw[qAE];exact h
 have j0t:∀{t13 t15:AV},qAO t13 (.bool true) t15=some (.bool true)->K .nilslc s6->qA3 XX (.int .i64 sg) (.ptr b0 0) (.ptr b2 0) .nilslc t13 t15 K s6:=fun {t13 t15} e h=>by unfold qA3;refine qAA e ?_;rw[qAE];exact j1t rfl h
 cases vb with
 | false=>
   rw[Bool.not_false,qAE];exact j0t rfl (hN (λq=>by cases hvb.2 q) _ kk)
 |true=>
 have hv:=hvb.1 rfl;have hK:=hK hv;have empty:mems F W sg=[]->K .nilslc s6:=λe=>hK _ _ kk (by rw[e];exact .inl ⟨rfl,rfl⟩);rw[Bool.not_true,qAD,qAR,qAB];cases c:decide (sg<0)with
 |true=>exact j0t rfl (empty (by unfold mems;rw[if_neg (by have:=oT c;omega)]))
 |false=>
 have h0:0<=sg:=by have:=oF c;omega
 obtain⟨j,rfl⟩:=qHW h0;have ej:(j:Int).toNat=j:=by omega
 unfold qA3;refine qAA (a:=.bool false) rfl ?_;rw[qAD];refine qAA (a:=.ptr b0 5) rfl (qAA (a:=v5) (by rw[qAI g1];rfl) (qAA L6.S.len ?_));rw[qAo,qAB];cases d:decide ((F.S.length:Int)<=(j:Int))with
 |true=>exact j1t rfl (empty (by unfold mems;rw[if_pos h0,ej,List.getElem?_eq_none (by have:=oT d;omega)]))
 |false=>
 have hj:j<F.S.length:=by have:=oF d;omega
 have hg:F.S[j]?=some F.S[j]:=gE hj;generalize F.S[j]=g at hg;have em:mems F W (j:Int)=g.1.filter (memB W (j:Int)):=by unfold mems;rw[if_pos h0,ej,hg]
 have hgl:=h20 g (mG hg);rw[em]at hK;obtain⟨pb,po,l1,l2,a1,_,a3,_,a5,_⟩:=L6.S.at hg;unfold qA4;refine qAA (a:=.bool false) rfl ?_;rw[qAD];refine qAA (a:=.ptr b0 5) rfl (qAA (a:=v5) (by rw[qAI g1];rfl) (qAA a1 (qAA (a:=.ptr pb po) rfl (qAA a3 ?_))));refine⟨λys t m=>∃(k:Nat) (v:AV),ys=[v,.int .i64 (k:Int)]/\k<=g.1.length/\m=g.1.length-k/\Acc 3 s6 t v (ix ((g.1.take k).filter (memB W (j:Int))))/\Sub s6 t,⟨_,0,_,rfl,by omega,rfl,.inl ⟨rfl,rfl⟩,.refl _⟩,?_⟩;rintro f t m ⟨k,v,hy,hk,rfl,acc,kt⟩;simp only[cI,and_true]at hy;rw[hy.1,hy.2];clear hy;unfold qDG;refine qAA (by rw[a5.len,qAm]) ?_;rw[qAR,qAB];refine qAJ (λhlt=>?_) (λhge=>?_)
 rotate_left
 ·have hge:k=g.1.length:=by have:=oF hge;omega
  subst hge;rw[List.take_length]at acc;exact hK v t (kk.trans kt) acc.sl
 have hlt:k<g.1.length:=by have:=oT hlt;omega
 have hx:g.1[k]?=some g.1[k]:=gE hlt;obtain⟨pp,g1',g2'⟩:=(a5.sub kt).get (i:=k) (by rw[qAm];exact hlt);rw[qDU hlt]at g2';generalize g.1[k]=x at hx g2';have hsucc:=qLj (p:=memB W (j:Int)) hx;have hlen:((g.1.take k).filter (memB W (j:Int))).length<=100000:=by have h1:=qUg (p:=memB W (j:Int)) (L:=g.1.take k);rw[List.length_take]at h1;omega
 have j4:∀{v':AV}{t':Hq},Acc 3 s6 t' v' (ix ((g.1.take (k+1)).filter (memB W (j:Int))))->Sub s6 t'->qBS XX v' (.int .i64 (k:Int)) (λys t m=>∃(k:Nat) (v:AV),ys=[v,.int .i64 (k:Int)]/\k<=g.1.length/\m=g.1.length-k/\Acc 3 s6 t v (ix ((g.1.take k).filter (memB W (j:Int))))/\Sub s6 t) (g.1.length-k) K t':=fun {v' t'} a kk=>by unfold qBS;rw[qAU,qAB,qAe (by omega) (by omega)];exact⟨_,by omega,k+1,v',rfl,by omega,rfl,a,kk⟩
 have j3:∀{t':Hq}{t44 t51:AV}{a:Bool},Sub t t'->qAO t44 t51 (.bool false)=some (.bool a)->memB W (j:Int) x=a->qBU XX v l1 (.int .i64 (k:Int)) t44 t51 (λys t m=>∃(k:Nat) (v:AV),ys=[v,.int .i64 (k:Int)]/\k<=g.1.length/\m=g.1.length-k/\Acc 3 s6 t v (ix ((g.1.take k).filter (memB W (j:Int))))/\Sub s6 t) (g.1.length-k) K t':=fun {t' t44 t51 a} kt' e q=>by
  unfold qBU;refine qAA e ?_;have g2'':rd1 t' pp=some (.int .i64 x):=by obtain⟨pp',q1,q2⟩:=(a5.sub (kt.trans kt')).get (i:=k) (by rw[qAm];exact hlt);rw[g1']at q1;cases q1;rw[qDU hlt]at q2;rw[q2];have:=(gS hx).2;rw[this]
  cases a with
  | true=>
    rw[if_pos q]at hsucc;rw[qAE];refine qAA g1' (qAA g2'' ?_);exact app1 rfl (acc.sub kt') (kt.trans kt') hlen λv' s' a' ks=>j4 (by rw[hsucc];exact a') ks
  | false=>
    rw[if_neg (by rw[q];simp),List.append_nil]at hsucc;rw[qAD];exact j4 (by rw[hsucc];exact acc.sub kt') (kt.trans kt')
 have W6t:=W6.sub kt;refine qAA (a:=.ptr b2 0) rfl (qAA (a:=w1) (by rw[qAI (kt _ _ g3)];rfl) (qAA g1' (qAA g2' (qVx W6t.nd ?_))));refine qAJ (λe=>?_) (λe=>?_)
 ·refine qAA (qAS (kt _ _ g3) rfl) (qAA g1' (qAA g2' (qZp ⟨w1,w2,w3,w4,rfl,W6t⟩ λs37 k37=>?_)))
  rw[e];exact j3 k37 rfl (by unfold memB;rw[e,Bool.true_and])
 ·rw[e]
  exact j3 (.refl t) rfl (by unfold memB;rw[e,Bool.false_and])
end Go.AM.OR
set_option maxRecDepth 100000
namespace Go.AM.OR
open Go Go.Proofs Go.AM.TN
variable {K:AV→Hq→Prop} {s s' t:Hq} {v w:AV} {cs ws:List AV} {F:FG} {W:WG} {a b c i j k:Nat} {v2 v3 v4 v5 v6 v7 w1 w2 w3 w4:AV} {q:Bool} {x:FC.Fr}
def qGB(F:FG)(W:WG):List Bool:=(List.range F.L.length).map (works F W)
theorem app1b{L:List Bool}{x:Bool}{C:AV->Hq->Prop}(acc:Acc 4 s t w (bs L))(ks:Sub s t)(hl:L.length<=100000)(hC:∀v' s',Acc 4 s s' v' (bs (L ++ [x]))->Sub s s'->C v' s'):
  oK (qBb (repl 1 [.bool false]) [(0,1,.bool x)]) λc=>qAd c=true/\newK 4 c (λb s'=>appK 4 1 w (.slc b 0 1 (some 1) 1) C s') t:=by
 refine qI4 rfl rfl λb s1 hb h1 u1=>?_;refine(acc.sub (u1.sub hb)).app2 (ks.trans (u1.sub hb)) (m:=[.bool x]) (Sl.mk h1 rfl (by simp)) (by simp) (by simp;omega) λv' s' a kq=>hC v' s' ?_ kq;rw[bs,List.map_append];exact a
theorem qRc(z:Sz F)(hl:F.L.length<=100000)(hF:FabR s cs F)(hW:WR s ws W)(hN:¬Valid F->∀s',Sub s s'->K .nilslc s')(hK:Valid F->∀v' s',Sub s s'->Sl s' v' (bs (qGB F W))->K v' s'):wC TP XX 35 [.agg cs,.agg ws] K s:=by
 obtain⟨v2,v3,v4,v5,v6,v7,rfl,hL⟩:=hF;obtain⟨w1,w2,w3,w4,rfl,hw⟩:=hW;refine qGy (boxN hL.all λb0 s1 hb0 g1 u1=>boxN hw.all λb2 s3 hb2 g3 u3=>?_);have k1:=u1.sub hb0;have k3:=u3.sub hb2;have k13:=k1.trans k3;have g1:s3 b0=some (false,.cells 31 (csG F v2 v3 v4 v5 v6 v7)):=k3 _ _ g1;have g3:s3 b2=some (false,.cells 36 [w1,w2,w3,w4]):=g3;refine⟨λys t m=>∃(k:Nat) (v:AV),ys=[v,.int .i64 (k:Int)]/\k<=F.L.length/\m=F.L.length-k/\Acc 4 s3 t v (bs ((List.range k).map (works F W)))/\Sub s3 t/\(k=0->v=.nilslc)/\(¬Valid F->k=0),⟨_,0,_,rfl,by omega,rfl,.inl ⟨rfl,rfl⟩,.refl _,λ_=>rfl,λ_=>rfl⟩,?_⟩;rintro f t m ⟨k,v,hy,hk,rfl,acc,kt,hv0,hnv⟩;simp only[cI,and_true]at hy;rw[hy.1,hy.2];clear hy;unfold qDf;refine qAA (qAS (kt _ _ g1) rfl) (qGF z ⟨v2,v3,v4,v5,v6,v7,rfl,hL.sub (k13.trans kt)⟩ λvb s6 k6 hvb=>?_);have kt6:=kt.trans k6;have L6:=hL.sub (k13.trans kt6);have W6:=hw.sub (k13.trans kt6);have g1:=kt6 _ _ g1;have g3:=kt6 _ _ g3;have acc6:=acc.sub k6;cases vb with
 | false=>
   rw[qAD];unfold qBm;refine qAA (a:=.bool false) rfl ?_;rw[qAD];have nv:¬Valid F:=λq=>by cases hvb.2 q
   rw[hv0 (hnv nv)];exact hN nv _ (k13.trans kt6)
 |true=>
 have hv:=hvb.1 rfl;have hK:=hK hv;rw[qAE];refine qAA (a:=.ptr b0 2) rfl (qAA (a:=v2) (by rw[qAI g1];rfl) (qAA (by rw[L6.L.len,lM]) ?_));rw[qAR,qAB];unfold qBm;refine qAA rfl (qAJ (λhlt=>?_) (λhge=>?_))
 rotate_left
 ·have hge:k=F.L.length:=by have:=oF hge;omega
  subst hge;exact hK v s6 (k13.trans kt6) acc6.sl
 have hlt:k<F.L.length:=by have:=oT hlt;omega
 have hx:F.L[k]?=some F.L[k]:=gE hlt;generalize F.L[k]=x at hx;obtain⟨pb,po,e1,e2,e3⟩:=L6.L.get (i:=k) (r:=lkC x) (by rw[List.getElem?_map,hx];rfl);have ew:works F W k=(onB W.lk (k:Int)&&(onB W.nd x.1&&onB W.nd x.2.1)):=by unfold works;rw[hx]
 have j3:∀{t34 t43:AV},qAO t34 t43 (.bool false)=some (.bool (works F W k))->qBl XX (.int .i64 (k:Int)) v t34 t43 (λys t m=>∃(k:Nat) (v:AV),ys=[v,.int .i64 (k:Int)]/\k<=F.L.length/\m=F.L.length-k/\Acc 4 s3 t v (bs ((List.range k).map (works F W)))/\Sub s3 t/\(k=0->v=.nilslc)/\(¬Valid F->k=0)) (F.L.length-k) K s6:=fun {t34 t43} e=>by unfold qBl;refine qAA e (app1b acc6 kt6 (by simp;omega) λv' s' a' ks=>?_);rw[qAU,qAB,qAe (by omega) (by omega)];refine⟨_,by omega,k+1,v',rfl,by omega,rfl,?_,ks,λq=>by omega,λq=>absurd hv q⟩;rw[List.range_succ,List.map_append];exact a'
 refine qAA (a:=.ptr b2 1) rfl (qAA (a:=w2) (by rw[qAI g3];rfl) (qVx W6.lk ?_));refine qAJ (λc1=>?_) (λc1=>?_)
 ·refine qAA (a:=.ptr b2 0) rfl (qAA (a:=w1) (by rw[qAI g3];rfl) (qAA (a:=.ptr b0 2) rfl (qAA (a:=v2) (by rw[qAI g1];rfl) (qAA e1 (qAA (a:=.ptr pb po) rfl (qAA (a:=.int .i64 x.1) ((e3 0 (by omega)).trans rfl) (qVx W6.nd ?_)))))))
  unfold qBj;rw[c1]at ew ⊢;rw[Bool.true_and]at ew;refine qAA (a:=.bool (onB W.nd x.1)) rfl (qAJ (λc2=>?_) (λc2=>?_))
  ·refine qAA (a:=.ptr b2 0) rfl (qAA (a:=w1) (by rw[qAI g3];rfl) (qAA (a:=.ptr b0 2) rfl (qAA (a:=v2) (by rw[qAI g1];rfl) (qAA e1 (qAA (a:=.ptr pb (po+1)) rfl (qAA (a:=.int .i64 x.2.1) ((e3 1 (by omega)).trans rfl) (qVx W6.nd ?_)))))))
   rw[c2]at ew ⊢;rw[Bool.true_and]at ew;exact j3 (by rw[ew];rfl)
  ·rw[c2]at ew ⊢
   exact j3 (by rw[ew];rfl)
 ·unfold qBj
  rw[c1]at ew ⊢;refine qAA (a:=.bool false) rfl ?_;rw[qAD];exact j3 (by rw[ew];rfl)
theorem qXJ(z:Sz F)(hl:F.L.length<=100000)(hF:FabR s cs F)(hW:WR s ws W)(hN:¬Valid F->∀s',Sub s s'->K .nilslc s')(hK:Valid F->∀v' s',Sub s s'->Sl s' v' (bs (qGB F W))->K v' s'):wC TP XX 34 [.agg cs,.agg ws] K s:=by
 obtain⟨v2,v3,v4,v5,v6,v7,rfl,hL⟩:=hF;obtain⟨w1,w2,w3,w4,rfl,hw⟩:=hW;refine qLI (boxN hL.all λb0 s1 hb0 g1 u1=>boxN hw.all λb2 s3 hb2 g3 u3=>?_);have k1:=u1.sub hb0;have k3:=u3.sub hb2;have k13:=k1.trans k3;have g1:s3 b0=some (false,.cells 31 (csG F v2 v3 v4 v5 v6 v7)):=k3 _ _ g1;refine qAA (qAS g1 rfl) (qAA (qAS g3 rfl) ?_);refine qEb z ⟨v2,v3,v4,v5,v6,v7,rfl,hL.sub k13⟩ ⟨w1,w2,w3,w4,rfl,hw.sub k13⟩ (λhv b s7 k7 hS=>?_) (λhv s7 k7=>?_)
 rotate_left
 ·refine qAA (a:=.nilptr) rfl (qAA (a:=.bool false) rfl ?_)
  rw[qAa,qAB,Bool.not_false,qAE];exact hN hv _ (k13.trans k7)
 refine qAA (a:=.ptr b 0) rfl (qAA (a:=.bool true) rfl ?_);rw[qAa,qAB,Bool.not_true,qAD];have k17:=k13.trans k7;refine qAA (a:=.ptr b0 2) rfl (qAA (a:=v2) (by rw[qAI (k7 _ _ g1)];rfl) (qAA (by rw[(hL.sub k17).L.len,lM]) ?_));refine qAA (a:=F.L.length) rfl (qAA (a:=F.L.length) rfl ⟨by omega,qAP λb17 s18 hb17 h18 u18=>?_⟩);have k18:=u18.sub hb17;refine qAA (a:=F.L.length) rfl ?_;have hK:=hK hv;refine⟨λys t m=>∃k:Nat,ys=[.int .i64 (k:Int)]/\k<=F.L.length/\m=F.L.length-k/\Sub s7 t/\t b17=some (false,.cells 4 (bs ((List.range F.L.length).map λi=>if i<k then works F W i else false))),⟨_,0,rfl,by omega,rfl,k18,?_⟩,?_⟩
 ·rw[h18]
  congr 3
  refine List.ext_getElem? λi=>?_;rw[qLA]
  by_cases hi:i<F.L.length
  ·simp[bs,hi]
  ·simp[bs,hi]
 rintro f t m ⟨k,hy,hk,rfl,kt,ht⟩;simp only[cI,and_true]at hy;rw[hy];clear hy;unfold qGZ;rw[qAR,qAB];refine qAJ (λhlt=>?_) (λhge=>?_)
 rotate_left
 ·have hge:k=F.L.length:=by have:=oF hge;omega
  subst hge;have e:((List.range F.L.length).map λi=>if i<F.L.length then works F W i else false)=qGB F W:=by unfold qGB;refine List.map_congr_left λi hi=>?_;rw[if_pos (List.mem_range.1 hi)]
  rw[e]at ht;refine hK _ t (k17.trans kt) (.inr ⟨b17,0,some F.L.length,?_,λc e=>by cases e;simp[qGB],λ_=>⟨false,4,_,ht,by simp[qGB],λj hj=>by rw[zA]⟩⟩);simp[qGB]
 have hlt:k<F.L.length:=by have:=oT hlt;omega
 have hx:F.L[k]?=some F.L[k]:=gE hlt;refine qUY (hS.sub kt) hx λs23 k23=>?_;have e1:qAT 1 (.slc b17 0 F.L.length (some F.L.length) 1) (.int .i64 (k:Int))=some (.ptr b17 k):=by
  have:Nat.blt k F.L.length=true:=by rw[Nat.blt_eq];exact hlt
  simp[qAT,this]
 refine qAA e1 (qBW (k23 _ _ ht) (by simp;exact hlt) rfl λs25 h25 u25=>?_);rw[qAU,qAB,qAe (by omega) (by omega)];refine⟨_,by omega,k+1,rfl,by omega,rfl,qAX (kt.trans k23) u25 hb17,?_⟩;rw[h25]
 congr 3
 refine List.ext_getElem? λi=>?_
 by_cases hi:i=k
 ·subst hi
  rw[List.getElem?_set_self (by simp;exact hlt)];simp[bs,hlt]
 ·rw[List.getElem?_set_ne (λq=>hi q.symm)]
  by_cases hil:i<F.L.length
  ·have:i<k+1↔i<k:=by omega
   simp[bs,hil,this]
  ·simp[bs,hil]
theorem qSJ{L:List Bool}(hv:Sl s v (bs L))(hw:Sl s w (bs L))(hl:L.length<=100000)(hK:K (.bool true) s):wC TP XX 33 [v,w] K s:=by
 refine qKG (qAA (a:=L.length) (by rw[hv.len];simp) (qAA (a:=L.length) (by rw[hw.len];simp) ?_));simp only[qAZ,beq_self_eq_true,qAY,Bool.false_bne,qAB];refine⟨λys t m=>∃i:Nat,ys=[.bool true,.int .i64 (i:Int)]/\i<=L.length/\m=L.length-i/\t=s,⟨_,0,rfl,by omega,rfl,rfl⟩,?_⟩;rintro f t m ⟨i,hy,hi,rfl,rfl⟩;simp only[cI,and_true]at hy;rw[hy.1,hy.2];unfold qFW;rw[qAE];refine qAA (a:=L.length) (by rw[hv.len];simp) ?_;rw[qAR,qAB];unfold qDY;refine qAA rfl (qAJ (λc=>?_) (λc=>hK));have c:i<L.length:=by have:=oT c;omega
 obtain⟨p1,g1,g2⟩:=hv.get (i:=i) (by simpa using c);obtain⟨p2,g3,g4⟩:=hw.get (i:=i) (by simpa using c);have gx:(bs L)[i]?=some (.bool L[i]):=by simp[bs,c]
 rw[gx]at g2 g4;generalize L[i]=e at g2 g4;refine qAA g1 (qAA g2 (qAA g3 (qAA g4 (qAA (a:=.bool true) (by cases e<;>rfl) ?_))));rw[qAU,qAB,qAe (by omega) (by omega)];exact⟨_,by omega,i+1,rfl,by omega,rfl,rfl⟩
end Go.AM.OR
set_option maxRecDepth 100000
namespace Go.AM.OR
open Go Go.Proofs Go.AM.TN
variable {K:AV→Hq→Prop} {s s' t H:Hq} {cs:List AV} {F:FG} {W:WG} {b c i:Nat} {h a:Int} {y:R4}
def rqF(m p q:Int):Nat->FC.Fr
 | 0=>⟨m,BCM,1,1,0,0,0,0,0,0,0,0,0,0,0⟩
 | 1=>⟨m,BCM,1,1,m,p,0,0,0,0,0,0,0,0,0⟩
 | 2=>⟨m,BCM,1,1,m,p,0,q,0,0,0,0,0,0,0⟩
 |_=>⟨m,BCM,1,1,m,p,0,q,0,0,0,0,0,0,0⟩
theorem qWZ{b2 bx:Nat}{e:Bool×Blk}(hx:s bx=some e)(hne:bx≠b2):(cutH [((hdel s b2),s)] s) bx≠none:=by rw[qNI (by rw[qMI hne];exact hx) hx];simp
theorem qWd{b0 b2 bx:Nat}{m p q:Int}(h0:s b0=some (false,.cells 40 [.int .u64 m]))(h2:s b2=some (false,.cells 42 [.int .u32 p]))(hx:s bx=some (false,.cells 48 (FC.frC (rqF m p q 0))))(n0:bx≠b0)(n2:bx≠b2)(hK:∀s',s' bx=some (false,.cells 48 (FC.frC (rqF m p q 1)))->Upto bx s s'->K (.tup []) s'):wC TP XX 139 [.ptr bx 0,.ptr b0 0,.ptr b2 0] K s:=by refine qJ8 (qAA (a:=.int .u64 m) (by rw[qAI h0];rfl) (qAA (a:=.int .u32 p) (by rw[qAI h2];rfl) (qAA (a:=.ptr bx 0) rfl (qAA (a:=.ptr bx 3) rfl (qAA (a:=.ptr bx 4) rfl ⟨qWZ hx n2,?_⟩)))));refine qBW hx (by show 4<15;omega) rfl λs5 h5 u5=>qAA (a:=.ptr bx 0) rfl (qAA (a:=.ptr bx 3) rfl (qAA (a:=.ptr bx 5) rfl ?_));refine qBW h5 (by show 5<15;omega) rfl λs9 h9 u9=>hK s9 h9 λj hj=>by rw[u9 j hj,u5 j hj]
theorem qWf{b0 b2 bx:Nat}{m p q:Int}(h0:s b0=some (false,.cells 40 [.int .u64 0]))(h2:s b2=some (false,.cells 42 [.int .u32 q]))(hx:s bx=some (false,.cells 48 (FC.frC (rqF m p q 1))))(n0:bx≠b0)(n2:bx≠b2)(hK:∀s',s' bx=some (false,.cells 48 (FC.frC (rqF m p q 2)))->Upto bx s s'->K (.tup []) s'):wC TP XX 181 [.ptr bx 0,.ptr b0 0,.ptr b2 0] K s:=by refine qJ6 (qAA (a:=.int .u64 0) (by rw[qAI h0];rfl) (qAA (a:=.int .u32 q) (by rw[qAI h2];rfl) (qAA (a:=.ptr bx 0) rfl (qAA (a:=.ptr bx 3) rfl (qAA (a:=.ptr bx 6) rfl ⟨qWZ hx n2,?_⟩)))));refine qBW hx (by show 6<15;omega) rfl λs5 h5 u5=>qAA (a:=.ptr bx 0) rfl (qAA (a:=.ptr bx 3) rfl (qAA (a:=.ptr bx 7) rfl ?_));refine qBW h5 (by show 7<15;omega) rfl λs9 h9 u9=>hK s9 h9 λj hj=>by rw[u9 j hj,u5 j hj]
theorem qVe{b0 bx:Nat}{m p q:Int}(h0:s b0=some (false,.cells 39 [.int .u64 0]))(hx:s bx=some (false,.cells 48 (FC.frC (rqF m p q 2))))(n0:bx≠b0)(hK:∀s',s' bx=some (false,.cells 48 (FC.frC (rqF m p q 3)))->Upto bx s s'->K (.tup []) s'):wC TP XX 141 [.ptr bx 0,.ptr b0 0] K s:=by refine qI3 (qAA (a:=.int .u64 0) (by rw[qAI h0];rfl) (qAA (a:=.ptr bx 0) rfl (qAA (a:=.ptr bx 14) rfl ?_)));exact qBW hx (by show 14<15;omega) rfl λs3 h3 u3=>hK s3 h3 u3
theorem qVh{m p q:Int}(hK:∀s',Sub s s'->K (.agg (FC.frC (rqF m p q 3))) s'):wC TP XX 87 [.int .u64 m,.int .u32 p,.int .u32 q,.int .u64 0] K s:=by
 refine qKX (qAP λb0 s1 hb0 h1 u1=>?_);have k1:=u1.sub hb0;refine qKx (qFk rfl λc0 t1 hc0 g1 v1=>qFk rfl λc1 t2 hc1 g2 v2=>?_);have l1:=v1.sub hc0;have l2:=v2.sub hc1;refine qLh (qLJ (qFk rfl λd0 t3 hd0 g3 v3=>qFk rfl λd1 t4 hd1 g4 v4=>?_));have l3:=v3.sub hd0;have l4:=v4.sub hd1;refine qKg (qFk rfl λe0 t5 he0 g5 v5=>?_);have l5:=v5.sub he0;refine qAA (a:=[.fn (.func 139) [] [.ptr c0 0,.ptr c1 0],.fn (.func 181) [] [.ptr d0 0,.ptr d1 0],.fn (.func 141) [] [.ptr e0 0]]) rfl ⟨rfl,qAP λb9 t6 hb9 g9 v9=>?_⟩;have l6:=v9.sub hb9;refine qIj (qAP λf0 t7 hf0 g7 v7=>?_);have l7:=v7.sub hf0;refine qAA (a:=[.int .i64 1,.int .u64 0,.int .u32 0,.int .u64 0,.int .u32 0]) rfl (qAA (a:=FC.frC (rqF m p q 0)) rfl (qAP λbx t8 hbx g8 v8=>qAW g8 rfl rfl rfl λt9 gx v10=>?_));have l9:Sub t7 t9:=qAX (v8.sub hbx) v10 hbx;have gx:t9 bx=some (false,.cells 48 (FC.frC (rqF m p q 0))):=gx;have A1:t7 c0=some (false,.cells 40 [.int .u64 m]):=(l2.trans (l3.trans (l4.trans (l5.trans (l6.trans l7))))) _ _ g1;have A2:t7 c1=some (false,.cells 42 [.int .u32 p]):=(l3.trans (l4.trans (l5.trans (l6.trans l7)))) _ _ g2;have A3:t7 d0=some (false,.cells 40 [.int .u64 0]):=(l4.trans (l5.trans (l6.trans l7))) _ _ g3;have A4:t7 d1=some (false,.cells 42 [.int .u32 q]):=(l5.trans (l6.trans l7)) _ _ g4;have A5:t7 e0=some (false,.cells 39 [.int .u64 0]):=(l6.trans l7) _ _ g5;have ne:∀{j:Nat}{e:Bool×Blk},t7 j=some e->bx≠j:=fun {j e} hj q=>by rw[<- q,hbx]at hj;cases hj
 have hsl:Sl t7 (.slc b9 0 3 (some 3) 1) [.fn (.func 139) [] [.ptr c0 0,.ptr c1 0],.fn (.func 181) [] [.ptr d0 0,.ptr d1 0],.fn (.func 141) [] [.ptr e0 0]]:=Sl.mk (l7 _ _ g9) rfl (by simp);refine qAA (a:=3) rfl ?_;refine⟨λys t m'=>∃i:Nat,ys=[.int .i64 (i:Int)]/\i<=3/\m'=3-i/\Sub t7 t/\t bx=some (false,.cells 48 (FC.frC (rqF m p q i))),⟨_,0,rfl,by omega,rfl,l9,gx⟩,?_⟩;rintro f t m' ⟨i,hy,hi,rfl,kt,hx⟩;simp only[cI,and_true]at hy;rw[hy];clear hy;unfold qEX;rw[qAR,qAB];have up:∀{t2:Hq},Upto bx t t2->Sub t7 t2:=fun {t2} u=>qAX kt u hbx;refine qAJ (λhlt=>?_) (λhge=>?_)
 ·have hlt:i<3:=by have:=oT hlt;omega
  obtain⟨pp,e1,e2⟩:=(hsl.sub kt).get (i:=i) hlt;have nx:∀{t2:Hq},t2 bx=some (false,.cells 48 (FC.frC (rqF m p q (i+1))))->Upto bx t t2->oK (qAH .add (.int .i64 (i:Int)) (.int .i64 1)) λv_14=>∃m1,m1<3-i/\∃i:Nat,[v_14]=[AV.int .i64 (i:Int)]/\i<=3/\m1=3-i/\Sub t7 t2/\t2 bx=some (false,.cells 48 (FC.frC (rqF m p q i))):=fun {t2} h u=>by rw[qAU,qAB,qAe (by omega) (by omega)];exact⟨_,by omega,i+1,rfl,by omega,rfl,up u,h⟩
  refine qAA e1 ?_
  match i,hlt with
  | 0,_=>exact qAA (a:=.fn (.func 139) [] [.ptr c0 0,.ptr c1 0]) (e2.trans rfl) (qLy (by kernel_rfl) (qWd (kt _ _ A1) (kt _ _ A2) hx (ne A1) (ne A2) λt2 h u=>nx h u))
  | 1,_=>exact qAA (a:=.fn (.func 181) [] [.ptr d0 0,.ptr d1 0]) (e2.trans rfl) (qLy (by kernel_rfl) (qWf (kt _ _ A3) (kt _ _ A4) hx (ne A3) (ne A4) λt2 h u=>nx h u))
  | 2,_=>exact qAA (a:=.fn (.func 141) [] [.ptr e0 0]) (e2.trans rfl) (qLy (by kernel_rfl) (qVe (kt _ _ A5) hx (ne A5) λt2 h u=>nx h u))
 have hge:i=3:=by have:=oF hge;omega
 subst hge;have nf:f0≠bx:=λe=>by rw[<- e]at hbx;rw[g7]at hbx;cases hbx
 refine qAA (qAS hx rfl) (qAW (kt _ _ g7) rfl rfl rfl λt10 g10 w10=>qAA (qAS g10 rfl) ?_);have kk:Sub t6 t10:=qAX (l7.trans kt) w10 hf0;have ks:Sub s1 t10:=l1.trans (l2.trans (l3.trans (l4.trans (l5.trans (l6.trans kk)))));refine qAW (ks _ _ h1) rfl rfl rfl λs13 h13 u13=>qAA (qAS h13 rfl) (hK s13 (qAX (k1.trans ks) u13 hb0))
def annF(y:R4):FC.Fr:=if y.2.1=0 then⟨y.1,BCM,0,0,0,0,0,0,0,0,0,0,0,0,0⟩else⟨y.1,BCM,1,1,y.1,y.2.1,0,y.2.1,0,0,0,0,0,0,0⟩
theorem zADq(z:Sz F)(hv:Valid F)(hF:FabR s cs F)(hy:F.H[i]?=some y)(hK:∀s',Sub s s'->K (.agg (FC.frC (annF y))) s'):wC TP XX 18 [.agg cs,.int .i64 (i:Int)] K s:=by
 obtain⟨v2,v3,v4,v5,v6,v7,rfl,hL⟩:=hF;refine qCc (boxN hL.all λb0 s1 hb0 g1 u1=>qAP λb2 s3 hb2 g3 u3=>?_);have k1:=u1.sub hb0;have k3:=u3.sub hb2;have k13:=k1.trans k3;refine qAA (qAS (k3 _ _ g1) rfl) (qAA (a:=[.nilslc,.nilslc,.nilslc,.nilslc]) rfl ?_);refine qEb (W:=⟨[],[],[],[]⟩) z ⟨v2,v3,v4,v5,v6,v7,rfl,hL.sub k13⟩ ⟨_,_,_,_,rfl,.inl ⟨rfl,rfl⟩,.inl ⟨rfl,rfl⟩,⟨[],.inl ⟨rfl,rfl⟩,rfl,λi q r h=>by simp at h⟩,.inl ⟨rfl,rfl⟩⟩ (λ_ b s7 k7 hS=>?_) λq=>absurd hv q;have k17:=k1.trans (k3.trans k7);refine qAA (a:=.ptr b 0) rfl (qAA (a:=.bool true) rfl (qAA (a:=.bool false) rfl ?_));rw[qAD];have hi:=(gS hy).1;refine qQ8 hS ?_;rw[decide_eq_true (by omega),decide_eq_true (by omega)];refine qAA (a:=.bool false) rfl ?_;unfold qBC;refine qAA (a:=.bool false) rfl ?_;rw[qAD];have q1:=(k3.trans k7) _ _ g1;obtain⟨hb,ho,e1,e2,e3⟩:=(hL.sub k17).H.get (i:=i) (r:=hgC y) (by rw[List.getElem?_map,hy];rfl);refine qAA (a:=.ptr b0 6) rfl (qAA (a:=v6) (by rw[qAI q1];rfl) (qAA e1 (qAA e2 (qAP λb19 s20 hb19 h19 u19=>qAW h19 rfl rfl rfl λs21 h21 u21=>?_))));have k21:Sub s7 s21:=qAX (u19.sub hb19) u21 hb19;have h21:s21 b19=some (false,.cells 61 (hgC y)):=h21;have q2:=(k7.trans k21) _ _ g3;refine qAA (a:=.ptr b19 1) rfl (qAA (a:=.int .u32 y.2.1) (by rw[qAI h21];rfl) ?_);have hb2':s b2=none:=qCL k1 hb2;simp only[qAZ,qAY,Bool.false_bne,qAB];refine qAJ (λc=>?_) (λc=>?_)
 ·have c:y.2.1=0:=eq_of_beq c
  refine qAA (a:=.ptr b19 0) rfl (qAA (a:=.int .u64 y.1) (by rw[qAI h21];rfl) ?_);refine qAA (a:=FC.frC (annF y)) (by unfold annF;rw[if_pos c];rfl) (qAW q2 rfl rfl rfl λs28 h28 u28=>qAA (qAS h28 rfl) (hK s28 (qAX (k17.trans k21) u28 hb2')))
 ·have c:¬y.2.1=0:=by simpa using c
  refine qAA (a:=.ptr b19 0) rfl (qAA (a:=.int .u64 y.1) (by rw[qAI h21];rfl) (qAA (a:=.ptr b19 1) rfl (qAA (a:=.int .u32 y.2.1) (by rw[qAI h21];rfl) ?_)));refine qKF (qAP λbz s22 hbz g22 u22=>qVh λs23 k23=>?_);have k22:=u22.sub hbz;refine qAW (k23 _ _ g22) rfl rfl rfl λs24 g24 u24=>qAA (qAS g24 rfl) ?_;have k24:Sub s21 s24:=qAX (k22.trans k23) u24 hbz;have ea:annF y=rqF y.1 y.2.1 y.2.1 3:=by unfold annF;rw[if_neg c];rfl
  rw[<- ea];exact qAW (k24 _ _ q2) rfl rfl rfl λs36 h36 u36=>qAA (qAS h36 rfl) (hK s36 (qAX (k17.trans (k21.trans k24)) u36 hb2'))
end Go.AM.OR
set_option maxRecDepth 100000
namespace Go.AM.OR
open Go Go.Proofs Go.AM.TN
variable {K:AV→Hq→Prop} {s s':Hq} {cs ws:List AV} {F:FG} {W:WG} {a b c i k:Nat} {h l sg:Int} {v2 v3 v4 v5 v6 v7 w1 w2 w3 w4:AV} {y:R4} {ar:List Int} {q:Bool} {x:FC.Fr}
theorem qZC(z:Sz F)(hF:FabR s cs F)(hW:WR s ws W)(hN:¬Valid F->∀s',Sub s s'->K .nilslc s')(hK:Valid F->∀v' s' ar,Sub s s'->Sl s' v' (ix ar)->Ar F W l ar->K v' s'):wC TP XX 23 [.agg cs,.agg ws,.int .i64 l] K s:=by
 obtain⟨v2,v3,v4,v5,v6,v7,rfl,hL⟩:=hF;obtain⟨w1,w2,w3,w4,rfl,hw⟩:=hW;refine qLv (boxN hL.all λb0 s1 hb0 g1 u1=>boxN hw.all λb2 s3 hb2 g3 u3=>?_);have k3:=u3.sub hb2;have k13:=(u1.sub hb0).trans k3;refine qAA (qAS (k3 _ _ g1) rfl) (qAA (qAS g3 rfl) ?_);refine qEb z ⟨v2,v3,v4,v5,v6,v7,rfl,hL.sub k13⟩ ⟨w1,w2,w3,w4,rfl,hw.sub k13⟩ (λhv b s7 k7 hS=>?_) λhv s7 k7=>?_
 ·refine qAA (a:=.ptr b 0) rfl (qAA (a:=.bool true) rfl (qAA (a:=.bool false) rfl ?_))
  rw[qAD];exact zACd (qRW hv) hS λv' s' ar kk h1 h2=>hK hv v' s' ar (k13.trans (k7.trans kk)) h1 h2
 ·refine qAA (a:=.nilptr) rfl (qAA (a:=.bool false) rfl (qAA (a:=.bool true) rfl ?_))
  rw[qAE];exact hN hv _ (k13.trans k7)
theorem qTo(z:Sz F)(hF:FabR s cs F)(hW:WR s ws W)(hN:¬Valid F->∀s',Sub s s'->K .nilslc s')(hK:Valid F->∀v' s',Sub s s'->Sl s' v' (ix (mems F W sg))->K v' s'):wC TP XX 26 [.agg cs,.agg ws,.int .i64 sg] K s:=by
 obtain⟨v2,v3,v4,v5,v6,v7,rfl,hL⟩:=hF;obtain⟨w1,w2,w3,w4,rfl,hw⟩:=hW;refine qKB (boxN hL.all λb0 s1 hb0 g1 u1=>boxN hw.all λb2 s3 hb2 g3 u3=>?_);have k3:=u3.sub hb2;have k13:=(u1.sub hb0).trans k3;refine qAA (qAS (k3 _ _ g1) rfl) (qAA (qAS g3 rfl) ?_);refine qEb z ⟨v2,v3,v4,v5,v6,v7,rfl,hL.sub k13⟩ ⟨w1,w2,w3,w4,rfl,hw.sub k13⟩ (λhv b s7 k7 hS=>?_) λhv s7 k7=>?_
 ·refine qAA (a:=.ptr b 0) rfl (qAA (a:=.bool true) rfl (qAA (a:=.bool false) rfl ?_))
  rw[qAD];have zf:=qRW hv;exact qL7 zf.sm zf.S1 hS λv' s' kk h1=>hK hv v' s' (k13.trans (k7.trans kk)) h1
 ·refine qAA (a:=.nilptr) rfl (qAA (a:=.bool false) rfl (qAA (a:=.bool true) rfl ?_))
  rw[qAE];exact hN hv _ (k13.trans k7)
theorem qXB(z:Sz F)(hF:FabR s cs F)(hW:WR s ws W)(hK:∀o s',Sub s s'->(Valid F->o=entO F W h x)->(¬Valid F->o=none)->K (.tup [.int .i64 (o.getD 0),.bool o.isSome]) s'):wC TP XX 20 [.agg cs,.agg ws,.int .i64 h,.agg (FC.frC x)] K s:=by
 obtain⟨v2,v3,v4,v5,v6,v7,rfl,hL⟩:=hF;obtain⟨w1,w2,w3,w4,rfl,hw⟩:=hW;refine qK0 (boxN hL.all λb0 s1 hb0 g1 u1=>boxN hw.all λb2 s3 hb2 g3 u3=>boxN rfl λb4 s5 hb4 g5 u5=>?_);have k3:=u3.sub hb2;have k5:=u5.sub hb4;have k15:=(u1.sub hb0).trans (k3.trans k5);refine qAA (qAS ((k3.trans k5) _ _ g1) rfl) (qAA (qAS (k5 _ _ g3) rfl) ?_);refine qEb z ⟨v2,v3,v4,v5,v6,v7,rfl,hL.sub k15⟩ ⟨w1,w2,w3,w4,rfl,hw.sub k15⟩ (λhv b s7 k7 hS=>?_) λhv s7 k7=>?_
 ·refine qAA (a:=.ptr b 0) rfl (qAA (a:=.bool true) rfl (qAA (a:=.bool false) rfl ?_))
  rw[qAD];refine qAA (qAS (k7 _ _ g5) rfl) (qZ3 (qRW hv) hS λs' kk=>?_);exact qAA (a:=.int .i64 _) rfl (qAA (a:=.bool _) rfl (hK _ s' (k15.trans (k7.trans kk)) (λ_=>rfl) λq=>absurd hv q))
 ·refine qAA (a:=.nilptr) rfl (qAA (a:=.bool false) rfl (qAA (a:=.bool true) rfl ?_))
  rw[qAE];exact hK none _ (k15.trans k7) (λq=>absurd q hv) λ_=>rfl
def qQx:FC.Fr:=⟨0,0,0,0,0,0,0,0,0,0,0,0,0,0,0⟩
def annO(F:FG)(h:Int):Option R4:=if 0<=h then F.H[h.toNat]? else none
def annZ(F:FG)(h:Int):FC.Fr:=match annO F h with
 |some y=>annF y
 |none=>qQx
theorem qT5{y:R4}(hy:F.H[i]?=some y):annZ F (i:Int)=annF y:=by unfold annZ annO;rw[if_pos (by omega),show((i:Int)).toNat=i by omega,hy]
theorem qOo(hn:¬(0<=h/\h<F.H.length)):annZ F h=qQx:=by
 unfold annZ annO
 by_cases h0:0<=h
 ·rw[if_pos h0,List.getElem?_eq_none (by omega)]
 ·rw[if_neg h0]
theorem zABT(z:Sz F)(hF:FabR s cs F)(hK:∀f s',Sub s s'->(Valid F->f=annZ F h)->(¬Valid F->f=qQx)->K (.agg (FC.frC f)) s'):wC TP XX 18 [.agg cs,.int .i64 h] K s:=by
 by_cases hv:Valid F
 ·by_cases hh:0<=h/\h<F.H.length
  ·obtain⟨i,rfl⟩:=qHW hh.1
   have hi:i<F.H.length:=by omega
   have hy:F.H[i]?=some F.H[i]:=gE hi;refine zADq z hv hF hy λs' k=>hK _ s' k (λ_=>(qT5 hy).symm) λq=>absurd hv q
  ·have hann:=qOo hh
   obtain⟨v2,v3,v4,v5,v6,v7,rfl,hL⟩:=hF;refine qCc (boxN hL.all λb0 s1 hb0 g1 u1=>qAP λb2 s3 hb2 g3 u3=>?_);have k1:=u1.sub hb0;have k3:=u3.sub hb2;have k13:=k1.trans k3;refine qAA (qAS (k3 _ _ g1) rfl) (qAA (a:=[.nilslc,.nilslc,.nilslc,.nilslc]) rfl ?_);refine qEb (W:=⟨[],[],[],[]⟩) z ⟨v2,v3,v4,v5,v6,v7,rfl,hL.sub k13⟩ ⟨_,_,_,_,rfl,.inl ⟨rfl,rfl⟩,.inl ⟨rfl,rfl⟩,⟨[],.inl ⟨rfl,rfl⟩,rfl,λi q r h=>by simp at h⟩,.inl ⟨rfl,rfl⟩⟩ (λ_ b s7 k7 hS=>?_) λq=>absurd hv q;refine qAA (a:=.ptr b 0) rfl (qAA (a:=.bool true) rfl (qAA (a:=.bool false) rfl ?_));rw[qAD];refine qQ8 hS ?_;have:(decide (0<=h)&&decide (h<(F.H.length:Int)))=false:=by
    cases e:(decide (0<=h)&&decide (h<(F.H.length:Int)))with
    |false=>rfl
    | true=>
      rw[Bool.and_eq_true,decide_eq_true_eq,decide_eq_true_eq]at e;exact absurd e hh
   rw[this];refine qAA (a:=.bool true) rfl ?_;unfold qBC;refine qAA (a:=.bool true) rfl ?_;rw[qAE];refine qAA (a:=FC.frC qQx) rfl (qAW (k7 _ _ g3) rfl rfl rfl λs13 h13 u13=>qAA (qAS h13 rfl) ?_);exact hK _ s13 (qAX (k13.trans k7) u13 (qCL k1 hb2)) (λ_=>hann.symm) λ_=>rfl
 ·obtain⟨v2,v3,v4,v5,v6,v7,rfl,hL⟩:=hF
  refine qCc (boxN hL.all λb0 s1 hb0 g1 u1=>qAP λb2 s3 hb2 g3 u3=>?_);have k1:=u1.sub hb0;have k3:=u3.sub hb2;have k13:=k1.trans k3;refine qAA (qAS (k3 _ _ g1) rfl) (qAA (a:=[.nilslc,.nilslc,.nilslc,.nilslc]) rfl ?_);refine qEb (W:=⟨[],[],[],[]⟩) z ⟨v2,v3,v4,v5,v6,v7,rfl,hL.sub k13⟩ ⟨_,_,_,_,rfl,.inl ⟨rfl,rfl⟩,.inl ⟨rfl,rfl⟩,⟨[],.inl ⟨rfl,rfl⟩,rfl,λi q r h=>by simp at h⟩,.inl ⟨rfl,rfl⟩⟩ (λq=>absurd q hv) λ_ s7 k7=>?_;refine qAA (a:=.nilptr) rfl (qAA (a:=.bool false) rfl (qAA (a:=.bool true) rfl ?_));rw[qAE];unfold qBC;refine qAA (a:=.bool true) rfl ?_;rw[qAE];refine qAA (a:=FC.frC qQx) rfl (qAW (k7 _ _ g3) rfl rfl rfl λs13 h13 u13=>qAA (qAS h13 rfl) ?_);exact hK _ s13 (qAX (k13.trans k7) u13 (qCL k1 hb2)) (λq=>absurd q hv) λ_=>rfl
theorem zABX(z:Sz F)(hF:FabR s cs F)(hK:∀f s',Sub s s'->(Valid F->f=annZ F h)->(¬Valid F->f=qQx)->K (.agg (FC.frC f)) s'):wC TP XX 32 [.agg cs,.int .i64 h] K s:=by
 obtain⟨v2,v3,v4,v5,v6,v7,rfl,hL⟩:=hF;refine qER (boxN hL.all λb0 s1 hb0 g1 u1=>qAP λb2 s3 hb2 g3 u3=>?_);have k1:=u1.sub hb0;have k3:=u3.sub hb2;have k13:=k1.trans k3;have hb2':s b2=none:=qCL k1 hb2;have g1:s3 b0=some (false,.cells 31 (csG F v2 v3 v4 v5 v6 v7)):=k3 _ _ g1;refine qAA (qAS g1 rfl) (qGF z ⟨v2,v3,v4,v5,v6,v7,rfl,hL.sub k13⟩ λvb s6 k6 hvb=>?_);have kk:=k13.trans k6;have L6:=hL.sub kk;have g1:=k6 _ _ g1;have g3:=k6 _ _ g3;rw[qAa,qAB];have j1t:∀{t14 t19:AV},qAO t14 (.bool true) t19=some (.bool true)->(Valid F->annZ F h=qQx)->qAr XX (.int .i64 h) (.ptr b0 0) (.ptr b2 0) t14 t19 K s6:=fun {t14 t19} e q=>by unfold qAr;refine qAA e ?_;rw[qAE];refine qAA (a:=FC.frC qQx) rfl (qAW g3 rfl rfl rfl λs13 h13 u13=>qAA (qAS h13 rfl) ?_);exact hK _ s13 (qAX kk u13 hb2') (λhv=>(q hv).symm) λ_=>rfl
 have j0t:∀{t14 t19:AV},qAO t14 (.bool true) t19=some (.bool true)->(Valid F->annZ F h=qQx)->qAs XX (.int .i64 h) (.ptr b0 0) (.ptr b2 0) t14 t19 K s6:=fun {t14 t19} e q=>by unfold qAs;refine qAA e ?_;rw[qAE];exact j1t rfl q
 cases vb with
 | false=>
   rw[Bool.not_false,qAE];exact j0t rfl λhv=>by cases hvb.2 hv
 |true=>
 have hv:=hvb.1 rfl;rw[Bool.not_true,qAD,qAR,qAB];cases c:decide (h<0)with
 |true=>exact j0t rfl λ_=>qOo (by have:=oT c;omega)
 |false=>
 have h0:0<=h:=by have:=oF c;omega
 obtain⟨i,rfl⟩:=qHW h0;unfold qAs;refine qAA (a:=.bool false) rfl ?_;rw[qAD];refine qAA (a:=.ptr b0 6) rfl (qAA (a:=v6) (by rw[qAI g1];rfl) (qAA (by rw[L6.H.len,lM]) ?_));rw[qAo,qAB];cases d:decide ((F.H.length:Int)<=(i:Int))with
 |true=>exact j1t rfl λ_=>qOo (by have:=oT d;omega)
 |false=>
 have hi:i<F.H.length:=by have:=oF d;omega
 have hy:F.H[i]?=some F.H[i]:=gE hi;generalize F.H[i]=y at hy;have hz:=qT5 hy;unfold qAr;refine qAA (a:=.bool false) rfl ?_;rw[qAD];obtain⟨hb,ho,e1,e2,e3⟩:=L6.H.get (i:=i) (r:=hgC y) (by rw[List.getElem?_map,hy];rfl);refine qAA (a:=.ptr b0 6) rfl (qAA (a:=v6) (by rw[qAI g1];rfl) (qAA e1 (qAA e2 (qAP λb17 s18 hb17 h18 u18=>qAW h18 rfl rfl rfl λs19 h19 u19=>?_))));have k19:Sub s6 s19:=qAX (u18.sub hb17) u19 hb17;have h19:s19 b17=some (false,.cells 61 (hgC y)):=h19;refine qAA (a:=.ptr b17 0) rfl (qAA (a:=.int .u64 y.1) (by rw[qAI h19];rfl) ?_);refine qAA (a:=FC.frC ⟨y.1,BCM,0,0,0,0,0,0,0,0,0,0,0,0,0⟩) rfl (qAP λb23 s24 hb23 h24 u24=>qAW h24 rfl rfl rfl λs25 h25 u25=>?_);have k25:Sub s19 s25:=qAX (u24.sub hb23) u25 hb23;have h25:s25 b23=some (false,.cells 48 (FC.frC ⟨y.1,BCM,0,0,0,0,0,0,0,0,0,0,0,0,0⟩)):=h25;have h17:=k25 _ _ h19;refine qAA (a:=.ptr b17 1) rfl (qAA (a:=.int .u32 y.2.1) (by rw[qAI h17];rfl) ?_);simp only[qAZ,qAY,Bool.true_bne,qAB];have fin:∀{t':Hq},Sub s19 t'->t' b23=some (false,.cells 48 (FC.frC (annF y)))->qA0 XX (.ptr b2 0) (.ptr b23 0) K t':=fun {t'} kt ht=>by unfold qA0;refine qAA (qAS ht rfl) (qAW ((k19.trans kt) _ _ g3) rfl rfl rfl λs30 h30 u30=>qAA (qAS h30 rfl) ?_);exact hK _ s30 (qAX (kk.trans (k19.trans kt)) u30 hb2') (λ_=>hz.symm) λq=>absurd hv q
 have n17:b17≠b23:=λe=>by subst e;rw[h19]at hb23;cases hb23
 refine qAJ (λc=>?_) (λc=>?_)
 ·have c:¬y.2.1=0:=by simpa using c
  refine qAA (a:=.ptr b23 2) rfl (qBW h25 (by show 2<15;omega) rfl λs33 h33 u33=>?_);have h33:s33 b23=some (false,.cells 48 (FC.frC ⟨y.1,BCM,1,0,0,0,0,0,0,0,0,0,0,0,0⟩)):=h33;have k33:Sub s19 s33:=qAX k25 u33 hb23;have h17:=k33 _ _ h19;refine qAA (a:=.ptr b17 0) rfl (qAA (a:=.int .u64 y.1) (by rw[qAI h17];rfl) (qAA (a:=.ptr b17 1) rfl (qAA (a:=.int .u32 y.2.1) (by rw[qAI h17];rfl) (qAA (a:=.ptr b17 1) rfl (qAA (a:=.int .u32 y.2.1) (by rw[qAI h17];rfl) ?_)))));refine qAA (a:=[.int .i64 1,.int .u64 y.1,.int .u32 y.2.1,.int .u64 0,.int .u32 y.2.1]) rfl (qAA (a:=.ptr b23 3) rfl ?_);refine qZF h33 rfl (by show 3+5<=15;omega) rfl λs42 h42 u42=>?_;exact fin (qAX k33 u42 hb23) (by unfold annF;rw[if_neg c];exact h42)
 ·have c:y.2.1=0:=by simpa using c
  exact fin k25 (by unfold annF;rw[if_pos c];exact h25)
end Go.AM.OR
set_option maxRecDepth 100000
namespace Go.AM.OR
open Go Go.Proofs Go.AM.TN
variable {s s' s0:Hq} {v:AV} {b k:Nat} {h:Int}
def Own8(s0 s:Hq)(v:AV)(rows:List (List AV)):Prop:=(rows=[]/\∃b,v=.slc b 0 0 (some 0) 3)∨AccR 77 3 s0 s v rows
theorem Own8.sl{rows:List (List AV)}(h:Own8 s0 s v rows):SlR 3 s v rows:=by
 rcases h with⟨rfl,b,rfl⟩|h
 ·exact .empty
 ·exact h.sl
theorem Own8.sub{rows:List (List AV)}(h:Own8 s0 s v rows)(k:Sub s s'):Own8 s0 s' v rows:=h.imp id λq=>q.sub k
end Go.AM.OR
set_option maxRecDepth 100000
namespace Go.AM.OR
open Go Go.Proofs Go.AM.TN
variable {K:AV→Hq→Prop} {s s' H:Hq} {v hv av:AV} {F:FG} {W:WG} {a b c i k:Nat} {h sg:Int} {tg:Bool} {x:FC.Fr} {ar:List Int} {hd:List Hd} {y:R4} {A:Aq}
theorem zAAn{S:List (List Int×List Int)}(h:SgG s v S):SgG (AM.frz s) v S:=by obtain⟨vs,h1,h2,h3⟩:=h;exact⟨vs,h1.frz,h2,λi q x a c=>⟨(h3 i q x a c).1.frz,(h3 i q x a c).2.frz⟩⟩
theorem zAC8{P:List (List Bool)}(h:PtR s v P):PtR (AM.frz s) v P:=by obtain⟨vs,h1,h2,h3⟩:=h;exact⟨vs,h1.frz,h2,λi q r a c=>(h3 i q r a c).frz⟩
theorem St.frz(h:St s b F W):St (AM.frz s) b F W:=by obtain⟨tg,v2,v3,v4,v5,v6,v7,w1,w2,w3,w4,h1,h2,h3⟩:=h;exact⟨true,v2,v3,v4,v5,v6,v7,w1,w2,w3,w4,qLD h1,⟨h2.L.frz,h2.T.frz,h2.B.frz,zAAn h2.S,h2.H.frz,h2.G.frz⟩,⟨h3.nd.frz,h3.lk.frz,zAC8 h3.pt,h3.wh.frz⟩⟩
def akC(b:Nat)(hv av:AV)(x:FC.Fr)(h:R4)(sg:Int):List AV:=[.ptr b 0,hv,av]++(FC.frC x++(hgC h ++ [.int .i64 sg]))
def Ak(s:Hq)(a:Nat)(A:Aq):Prop:=∃tg b hv av,s a=some (tg,.cells 102 (akC b hv av A.x A.h A.sg))/\St s b A.F A.W/\SlR 3 s hv (A.hd.map hdC)/\Sl s av (ix A.ar)
theorem Ak.sub(h:Ak s a A)(k:Sub s s'):Ak s' a A:=by obtain⟨tg,b,hv,av,h1,h2,h3,h4⟩:=h;exact⟨tg,b,hv,av,k _ _ h1,h2.sub k,h3.sub k,h4.sub k⟩
def ldC(y:Lnd):List AV:=[.int .i64 y.1,.int .i64 y.2.1]++FC.frC y.2.2
def zABr(s:Hq)(r:Option (List Lnd))(K:AV->Hq->Prop):Prop:=(∀L,r=some L->∀v s',Sub s s'->SlR 17 s' v (L.map ldC)->K (.tup [v,.bool true]) s')/\(r=none->∀s',Sub s s'->K (.tup [.nilslc,.bool false]) s')
theorem zABr.to{r:Option (List Lnd)}(h:zABr s r K)(k:Sub s s'):zABr s' r K:=⟨λL e v s2 k2 hs=>h.1 L e v s2 (k.trans k2) hs,λe s2 k2=>h.2 e s2 (k.trans k2)⟩
end Go.AM.OR
set_option maxRecDepth 100000
namespace Go.AM.OR
open Go Go.Proofs Go.AM.TN
variable {K:AV→Hq→Prop} {s s' t:Hq} {cs ws:List AV} {F:FG} {W:WG} {c i:Nat} {h sg:Int} {v2 v3 v4 v5 v6 v7 w1 w2 w3 w4:AV} {y:R4} {q:Bool} {x:FC.Fr}
theorem FLfz(h:FL t F v2 v3 v4 v5 v6 v7):FL (AM.frz t) F v2 v3 v4 v5 v6 v7:=⟨h.L.frz,h.T.frz,h.B.frz,zAAn h.S,h.H.frz,h.G.frz⟩
theorem WLfz(h3:WL t W w1 w2 w3 w4):WL (AM.frz t) W w1 w2 w3 w4:=⟨h3.nd.frz,h3.lk.frz,zAC8 h3.pt,h3.wh.frz⟩
theorem qWo(z:Sz F)(zm:SmS F)(hl1:∀y∈F.S,y.1.length<=100000)(hl2:∀y∈F.S,y.2.length<=100000)(hF:FabR s cs F)(hW:WR s ws W)(hK:∀o s',Sub s s'->(Valid F->o=entO F W h x)->(¬Valid F->o=none)->K (.tup [.int .i64 (o.getD 0),.bool o.isSome]) s'):wC TP XX 31 [.agg cs,.agg ws,.int .i64 h,.agg (FC.frC x)] K s:=by
 obtain⟨v2,v3,v4,v5,v6,v7,rfl,hL⟩:=hF;obtain⟨w1,w2,w3,w4,rfl,hw⟩:=hW;refine qG8 (boxN hL.all λb0 s1 hb0 g1 u1=>boxN hw.all λb2 s3 hb2 g3 u3=>boxN rfl λb4 s5 hb4 g5 u5=>?_);have k1:=u1.sub hb0;have k3:=u3.sub hb2;have k5:=u5.sub hb4;have k15:=k1.trans (k3.trans k5);have g1:s5 b0=some (false,.cells 31 (csG F v2 v3 v4 v5 v6 v7)):=k5 _ _ (k3 _ _ g1);have g3:s5 b2=some (false,.cells 36 [w1,w2,w3,w4]):=k5 _ _ g3;have g5:s5 b4=some (false,.cells 48 (FC.frC x)):=g5;have L5:=hL.sub k15;have W5:=hw.sub k15;refine qAA (qAS g1 rfl) (qAA (qAS g3 rfl) (qAA (qAS g1 rfl) (qAA (qAS g3 rfl) ?_)));refine zAAD zm ⟨v2,v3,v4,v5,v6,v7,rfl,FLfz L5⟩ ⟨w1,w2,w3,w4,rfl,WLfz W5⟩ hl2 λs11 k11=>?_;intro _;have ka:Sub s5 (add s5 s11):=qGw;generalize add s5 s11=T at ka;refine qOl z hl1 ⟨v2,v3,v4,v5,v6,v7,rfl,L5.sub ka⟩ ⟨w1,w2,w3,w4,rfl,W5.sub ka⟩ (λhv s13 k13=>?_) (λhv v12 s13 k13 hm=>?_)
 ·exact hK none _ (k15.trans (ka.trans k13)) (λq=>absurd q hv) λ_=>rfl
 have kk:=k15.trans (ka.trans k13);have hlen:qAN v12=some (mems F W ((att F W h).getD (-1))).length:=by rw[hm.len,qAm]
 have hent:entO F W h x=(mems F W ((att F W h).getD (-1)))[(FC.ent x).toNat % (mems F W ((att F W h).getD (-1))).length]?:=by
  unfold entO;cases e:att F W h with
  | none=>
    have:mems F W (-1)=[]:=by unfold mems;rw[if_neg (by omega)]
    simp only[Option.getD_none];rw[this];rfl
  |some sg=>rfl
 generalize mems F W ((att F W h).getD (-1))=M at hm hlen hent;refine qAA hlen ?_;simp only[qAZ,qAY,Bool.false_bne,qAB];refine qAJ (λc=>?_) (λc=>?_)
 ·have c:M.length=0:=by have:=eq_of_beq c;omega
  refine hK none _ kk (λ_=>?_) λ_=>rfl;rw[hent,List.getElem?_eq_none (by omega)]
 have c:M.length≠0:=by have:((M.length:Int) == 0)=false:=c;rw[beq_eq_false_iff_ne]at this;omega
 refine qAA (qAS ((ka.trans k13) _ _ g5) rfl) (FC.rEntropy_in λs19 k19=>qAA hlen ?_);obtain⟨e,he,_⟩:=qW9 x;rw[he]at hent ⊢;rw[qI8 (by omega),qAB,Int.tmod_eq_emod_of_nonneg (by omega)];have hlt:e % M.length<M.length:=Nat.mod_lt _ (by omega);rw[show(e:Int) % ((M.length:Nat):Int)=((e % M.length:Nat):Int)from rfl];obtain⟨pp,q1,q2⟩:=(hm.sub k19).get (i:=e % M.length) (by rw[qAm];exact hlt);rw[qDU hlt]at q2;refine qAA q1 (qAA q2 (hK (some M[e % M.length]) _ (kk.trans k19) (λ_=>?_) λq=>absurd hv q));rw[hent,show((e:Int)).toNat=e by omega,gE hlt]
end Go.AM.OR
set_option maxRecDepth 100000
namespace Go.AM.OR
open Go Go.Proofs Go.AM.TN
variable {F:FG} {W:WG} {l:Int} {B:List Bool} {i n:Nat}
theorem qTj:∀{l:List Bool}{i:Nat},l[i]?=some false->(l.set i true).count false+1=l.count false
 |[],_,h=>by simp at h
 | b::l,0,h=>by
   have:b=false:=by simpa using h
   subst this;simp
 | b::l,i+1,h=>by
   have h:l[i]?=some false:=by simpa using h
   have:=qTj h;simp only[List.set_cons_succ,List.count_cons];omega
theorem qUb{l:List Bool}{i:Nat}(h:l[i]?=some true):l.set i true=l:=by
 refine List.ext_getElem? λj=>?_
 by_cases e:j=i
 ·subst e
  rw[List.getElem?_set_self (gS h).1,h]
 ·rw[List.getElem?_set_ne (λq=>e q.symm)]
def bAt(B:List Bool)(n:Int):Bool:=(B[n.toNat]?).getD false
def MkP(F:FG)(W:WG)(l:Int)(B:List Bool):Prop:=B[l.toNat]?=some true/\∀n:Int,0<=n->B[n.toNat]?=some true->Rch (nbr F W) l n
def MkC(F:FG)(W:WG)(B:List Bool)(i:Nat):Prop:=∀(j:Nat) x,j<i->F.L[j]?=some x->works F W j=true->B[x.1.toNat]?=B[x.2.1.toNat]?
theorem zADb(hL:LnkOk F)(h0:0<=l)(hP:MkP F W l B)(hC:MkC F W B F.L.length){n:Int}(h:Rch (nbr F W) l n):B[n.toNat]?=some true:=by
 induction h with
 |refl=>exact hP.1
 | step h1 h2 ih=>
   obtain⟨i,x,hx,hw,h⟩:=qL9.1 h2;have hi:=(gS hx).1;have e:=hC i x hi hx hw;rcases h with⟨r1,r2⟩|⟨_,r1,r2⟩
   ·rw[<- r2,<- e,r1];exact ih
   ·rw[<- r2,e,r1];exact ih
theorem zABS(hL:LnkOk F)(hP:MkP F W l B){x:RLk}(hx:F.L[i]?=some x)(hw:works F W i=true)(hn:(F.lf+F.sp).toNat=B.length){p q:Bool}(h1:B[x.1.toNat]?=some p)(h2:B[x.2.1.toNat]?=some q)(hpq:p≠q):
  MkP F W l ((B.set x.1.toNat true).set x.2.1.toNat true)/\((B.set x.1.toNat true).set x.2.1.toNat true).count false<B.count false/\((B.set x.1.toNat true).set x.2.1.toNat true).length=B.length:=by
 obtain⟨r1,r2⟩:=hL.row x (mG hx);have hne:x.1.toNat≠x.2.1.toNat:=by omega
 have a1:=(gS h1).1;have a2:=(gS h2).1;refine⟨⟨?_,λn n0 hb=>?_⟩,?_,by simp⟩
 ·by_cases e2:l.toNat=x.2.1.toNat
  ·rw[e2,List.getElem?_set_self (by simpa using a2)]
  ·rw[List.getElem?_set_ne (λq=>e2 q.symm)]
   by_cases e1:l.toNat=x.1.toNat
   ·rw[e1,List.getElem?_set_self a1]
   ·rw[List.getElem?_set_ne (λq=>e1 q.symm)];exact hP.1
 ·have edge1:x.2.1∈nbr F W x.1:=qL9.2 ⟨i,x,hx,hw,.inl ⟨rfl,rfl⟩⟩
  have edge2:x.1∈nbr F W x.2.1:=qUp hL edge1;have both:Rch (nbr F W) l x.1/\Rch (nbr F W) l x.2.1:=by
   cases p with
   | true=>
     have:=hP.2 x.1 r1.1 h1;exact⟨this,.step this edge1⟩
   | false=>
     have hq:q=true:=by cases q<;>simp_all
     rw[hq]at h2;have:=hP.2 x.2.1 (by omega) h2;exact⟨.step this edge2,this⟩
  by_cases e2:n.toNat=x.2.1.toNat
  ·rw[show n=x.2.1 by omega];exact both.2
  ·rw[List.getElem?_set_ne (λq=>e2 q.symm)]at hb
   by_cases e1:n.toNat=x.1.toNat
   ·rw[show n=x.1 by omega];exact both.1
   ·rw[List.getElem?_set_ne (λq=>e1 q.symm)]at hb
    exact hP.2 n n0 hb
 ·cases p with
  | true=>
    rw[qUb h1];have hq:q=false:=by cases q<;>simp_all
    rw[hq]at h2;have:=qTj h2;omega
  | false=>
    have hq:q=true:=by cases q<;>simp_all
    rw[hq]at h2;have h3:(B.set x.1.toNat true)[x.2.1.toNat]?=some true:=by rw[List.getElem?_set_ne hne];exact h2
    rw[qUb h3];have:=qTj h1;omega
theorem zAEw(hL:LnkOk F)(hup:upB F W l=true)(hP:MkP F W l B)(hC:MkC F W B F.L.length):Ar F W l (((List.range F.lf.toNat).filter λ(n:Nat)=>bAt B (n:Int)).map λn:Nat=>(n:Int)):=by
 have h0:=(qTS.1 hup).1.1;refine⟨λq=>(by rw[hup]at q;cases q),λ_=>⟨?_,λn=>?_⟩⟩
 ·rw[List.pairwise_map]
  exact(List.Pairwise.filter _ List.pairwise_lt_range).imp λh=>by omega
 ·rw[List.mem_map]
  constructor
  ·rintro ⟨m,hm,rfl⟩
   obtain⟨h1,h2⟩:=List.mem_filter.1 hm;have h1:=List.mem_range.1 h1;refine⟨⟨by omega,by omega⟩,hP.2 _ (by omega) ?_⟩;unfold bAt at h2;cases e:B[((m:Int)).toNat]? with
   |none=>rw[e]at h2;cases h2
   |some b=>rw[e]at h2;exact congrArg some h2
  ·rintro ⟨⟨h1,h2⟩,h3⟩
   refine⟨n.toNat,List.mem_filter.2 ⟨List.mem_range.2 (by omega),?_⟩,by omega⟩;have:=zADb hL h0 hP hC h3;unfold bAt;rw[show(((n.toNat:Nat):Int)).toNat=n.toNat by omega,this];rfl
end Go.AM.OR
set_option maxRecDepth 100000
namespace Go.AM.OR
open Go Go.Proofs Go.AM.TN
variable {K:AV→Hq→Prop} {s s' t U:Hq} {v:AV} {cs ws:List AV} {F:FG} {W:WG} {a c i j k n b0 b2 b22:Nat} {h l:Int} {v2 v3 v4 v5 v6 v7 w1 w2 w3 w4:AV} {ar:List Int} {q:Bool} {x:FC.Fr} {B:List Bool}
structure MkS(t U:Hq)(b22:Nat)(B:List Bool)(n:Nat):Prop where
 k:Sub U t
 h:t b22=some (false,.cells 4 (bs B))
 n:B.length=n
theorem MkS.at(z:MkS t U b22 B n){m:Int}(h0:0<=m)(hm:m.toNat<n):∃p:Bool,qAT 1 (.slc b22 0 n (some n) 1) (.int .i64 m)=some (.ptr b22 m.toNat)/\rd1 t (.ptr b22 m.toNat)=some (.bool p)/\B[m.toNat]?=some p:=by
 have hl:=z.n;have hB:B[m.toNat]?=some (B[m.toNat]'(by omega)):=gE (by omega);refine⟨B[m.toNat]'(by omega),?_,?_,hB⟩
 ·obtain⟨j,rfl⟩:=qHW h0
  rw[Int.toNat_natCast]at hm ⊢;have:Nat.blt j n=true:=by rw[Nat.blt_eq];exact hm
  simp[qAT,this]
 ·rw[qAI z.h]
  show(bs B)[m.toNat]?=_;unfold bs;rw[List.getElem?_map,hB];rfl
theorem MkS.put(z:MkS t U b22 B n){m:Nat}(hm:m<n)(hU:U b22=none){C:Hq->Prop}(hC:∀t',MkS t' U b22 (B.set m true) n->C t'):oK (wr1 t (.ptr b22 m) (.bool true)) C:=by have hl:=z.n;refine qBW z.h (by simp[bs];omega) rfl λt' h' u'=>hC t' ⟨qAX z.k u' hU,?_,by rw[List.length_set];exact hl⟩;rw[h'];unfold bs;rw[List.map_set]
theorem neBB{p q:Bool}:negB true (eqV 1 false (.bool p) (.bool q))=some (.bool (p != q)):=by cases p<;>cases q<;>rfl
theorem zAEz{up:AV}{more:Bool}{I3 I4:List AV->Hq->Nat->Prop}{m3 m4:Nat}(hfo:FOk F)(hU:U b22=none)(h0:t b0=some (false,.cells 31 (csG F v2 v3 v4 v5 v6 v7)))(hL:FL t F v2 v3 v4 v5 v6 v7)(hup:Sl t up (bs (qGB F W)))(z:MkS t U b22 B n)(hn:(F.lf+F.sp).toNat=n)(hP:MkP F W l B)(hlt:i<F.L.length)
  (hI:∀t' B' more',MkS t' U b22 B' n->MkP F W l B'->((more'=more/\B'=B/\(works F W i=true->∀x,F.L[i]?=some x->B[x.1.toNat]?=B[x.2.1.toNat]?))∨(more'=true/\B'.count false<B.count false))->∃m',m'<m4/\I4 [.bool more',.int .i64 ((i+1:Nat):Int)] t' m') :
  qBy XX (.ptr b0 0) up (.slc b22 0 n (some n) 1) (.bool more) (.int .i64 (i:Int)) I4 m4 I3 m3 K t:=by
 have hsz:=hfo.L;have nu:qAN up=some F.L.length:=by rw[hup.len];simp[qGB]
 unfold qBy;refine qAA nu ?_;rw[qAR,qAB,decide_eq_true (by omega),qAE];have hx:F.L[i]?=some F.L[i]:=gE hlt;generalize F.L[i]=x at hx;obtain⟨r1,r2⟩:=hfo.lk.row x (mG hx);obtain⟨pb,po,e1,e2,e3⟩:=hL.L.get (i:=i) (r:=lkC x) (by rw[List.getElem?_map,hx];rfl);obtain⟨pp,u1,u2⟩:=hup.get (i:=i) (by simp[qGB];exact hlt);have u3:(bs (qGB F W))[i]?=some (.bool (works F W i)):=by simp[bs,qGB,hlt]
 rw[u3]at u2;refine qAA (a:=.ptr b0 2) rfl (qAA (a:=v2) (by rw[qAI h0];rfl) (qAA e1 (qAA (a:=.ptr pb po) rfl (qAA (a:=.int .i64 x.1) ((e3 0 (by omega)).trans rfl) ?_))));refine qAA (a:=.ptr b0 2) rfl (qAA (a:=v2) (by rw[qAI h0];rfl) (qAA e1 (qAA (a:=.ptr pb (po+1)) rfl (qAA (a:=.int .i64 x.2.1) ((e3 1 (by omega)).trans rfl) (qAA u1 (qAA u2 ?_))))));have stay:∀{t71 t80:AV},qAO t71 t80 (.bool false)=some (.bool false)->(works F W i=true->B[x.1.toNat]?=B[x.2.1.toNat]?)->qBI XX (.slc b22 0 n (some n) 1) (.bool more) (.int .i64 (i:Int)) (.int .i64 x.1) (.int .i64 x.2.1) t71 t80 I4 m4 I3 m3 K t:=fun {t71 t80} e q=>by unfold qBI;refine qAA e ?_;rw[qAD];unfold qBx;rw[qAU,qAB,qAe (by omega) (by omega)];exact hI t B more z hP (.inl ⟨rfl,rfl,λhw x' hx'=>by rw[hx]at hx';cases hx';exact q hw⟩)
 refine qAJ (λhw=>?_) (λhw=>?_)
 rotate_left
 ·rw[hw]
  exact stay rfl λq=>by rw[hw]at q;cases q
 rw[hw];obtain⟨p,f1,f2,f3⟩:=z.at (m:=x.1) (by omega) (by omega);obtain⟨q,f4,f5,f6⟩:=z.at (m:=x.2.1) (by omega) (by omega);refine qAA f1 (qAA f2 (qAA f4 (qAA f5 (qAA neBB ?_))))
 by_cases hpq:p=q
 ·subst hpq
  exact stay (by rw[bne_self_eq_false];rfl) λ_=>by rw[f3,f6]
 ·have e:(p != q)=true:=by cases p<;>cases q<;>simp_all
  rw[e];unfold qBI;refine qAA (a:=.bool true) rfl ?_;rw[qAE];obtain⟨s1,s2,s3⟩:=zABS hfo.lk hP hx hw (by rw[z.n];exact hn) f3 f6 hpq;refine qAA f1 (z.put (by omega) hU λt1 z1=>qAA f4 (z1.put (by omega) hU λt2 z2=>?_));unfold qBx;rw[qAU,qAB,qAe (by omega) (by omega)];exact hI t2 _ true z2 s1 (.inr ⟨rfl,s2⟩)
theorem zAAT(z:Sz F)(hl:F.L.length<=100000)(hF:FabR s cs F)(hW:WR s ws W)(hN:¬Valid F->∀s',Sub s s'->K .nilslc s')(hK:Valid F->∀v' s' ar,Sub s s'->Sl s' v' (ix ar)->Ar F W l ar->K v' s'):wC TP XX 37 [.agg cs,.agg ws,.int .i64 l] K s:=by
 obtain⟨v2,v3,v4,v5,v6,v7,rfl,hL⟩:=hF;obtain⟨w1,w2,w3,w4,rfl,hw⟩:=hW;refine qHQ (boxN hL.all λb0 s1 hb0 g1 u1=>boxN hw.all λb2 s3 hb2 g3 u3=>?_);have k1:=u1.sub hb0;have k3:=u3.sub hb2;have g1:s3 b0=some (false,.cells 31 (csG F v2 v3 v4 v5 v6 v7)):=k3 _ _ g1;refine qAA (qAS g1 rfl) (qGF z ⟨v2,v3,v4,v5,v6,v7,rfl,hL.sub (k1.trans k3)⟩ λvb s6 k6 hvb=>?_);have kk:=(k1.trans k3).trans k6;have L6:=hL.sub kk;have W6:=hw.sub kk;have g1:=k6 _ _ g1;have g3:s6 b2=some (false,.cells 36 [w1,w2,w3,w4]):=k6 _ _ g3;rw[qAa,qAB];have j2t:∀{t17 t22:AV},qAO t17 (.bool true) t22=some (.bool true)->K .nilslc s6->qBK XX (.int .i64 l) (.ptr b0 0) (.ptr b2 0) .nilslc t17 t22 K s6:=fun {t17 t22} e h=>by unfold qBK;refine qAA e ?_;rw[qAE];exact h
 have j1t:∀{t17 t22:AV},qAO t17 (.bool true) t22=some (.bool true)->K .nilslc s6->qBJ XX (.int .i64 l) (.ptr b0 0) (.ptr b2 0) .nilslc t17 t22 K s6:=fun {t17 t22} e h=>by unfold qBJ;refine qAA e ?_;rw[qAE];exact j2t rfl h
 have j0t:∀{t13 t15:AV},qAO t13 (.bool true) t15=some (.bool true)->K .nilslc s6->qBM XX (.int .i64 l) (.ptr b0 0) (.ptr b2 0) .nilslc t13 t15 K s6:=fun {t13 t15} e h=>by unfold qBM;refine qAA e ?_;rw[qAE];exact j1t rfl h
 cases vb with
 | false=>
   rw[Bool.not_false,qAE];exact j0t rfl (hN (λq=>by cases hvb.2 q) _ kk)
 |true=>
 have hv:=hvb.1 rfl;have hK:=hK hv;have zf:=qRW hv;have hlk:=zf.lk;have hsz:=zf.sz;have hlf:=hlk.lf;have hsp:=hlk.sp;have empty:upB F W l=false->K .nilslc s6:=λe=>hK _ _ [] kk (.inl ⟨rfl,rfl⟩) ⟨λ_=>rfl,λq=>(by rw[e]at q;cases q)⟩;rw[Bool.not_true,qAD,qAR,qAB];cases c:decide (l<0)with
 |true=>exact j0t rfl (empty (by unfold upB;rw[decide_eq_false (by have:=oT c;omega)];rfl))
 |false=>
 have h0:0<=l:=by have:=oF c;omega
 unfold qBM;refine qAA (a:=.bool false) rfl ?_;rw[qAD];refine qAA (a:=.ptr b0 0) rfl (qAA (a:=.int .i64 F.lf) (by rw[qAI g1];rfl) ?_);rw[qAo,qAB];cases d:decide (F.lf<=l)with
 |true=>exact j1t rfl (empty (by unfold upB;rw[decide_eq_false (by have:=oT d;omega:¬l<F.lf),Bool.false_and,Bool.and_false]))
 |false=>
 have hll:l<F.lf:=by have:=oF d;omega
 unfold qBJ;refine qAA (a:=.bool false) rfl ?_;rw[qAD];refine qAA (a:=.ptr b2 0) rfl (qAA (a:=w1) (by rw[qAI g3];rfl) (qVx W6.nd ?_));rw[qAa,qAB];have eup:upB F W l=onB W.nd l:=by unfold upB;rw[decide_eq_true h0,decide_eq_true hll,Bool.true_and,Bool.true_and]
 cases e:onB W.nd l with
 |false=>exact j2t rfl (empty (by rw[eup,e]))
 |true=>
 have hup:upB F W l=true:=by rw[eup,e]
 unfold qBK;refine qAA (a:=.bool false) rfl ?_;rw[qAD];refine qAA (qAS g1 rfl) (qAA (qAS g3 rfl) ?_);refine qRc z hl ⟨v2,v3,v4,v5,v6,v7,rfl,L6⟩ ⟨w1,w2,w3,w4,rfl,W6⟩ (λq=>absurd hv q) λ_ v13 s14 k14 hup14=>?_;have k014:=kk.trans k14;have g14:=k14 _ _ g1;have L14:=L6.sub k14;refine qAA (a:=.ptr b0 0) rfl (qAA (a:=.int .i64 F.lf) (by rw[qAI g14];rfl) (qAA (a:=.ptr b0 1) rfl (qAA (a:=.int .i64 F.sp) (by rw[qAI g14];rfl) ?_)));rw[qAU,qAB,qAe (by omega) (by omega)];have en:nat? (.int .i64 (F.lf+F.sp))=some (F.lf+F.sp).toNat:=by
  have:F.lf+F.sp=(((F.lf+F.sp).toNat:Nat):Int):=by omega
  rw[this];rfl
 refine qAA en (qAA en ⟨by omega,qAP λb22 s23 hb22 h23 u23=>?_⟩);have k23:=u23.sub hb22;generalize hn:(F.lf+F.sp).toNat=n at h23;have z0:MkS s23 s14 b22 (List.replicate n false) n:=⟨k23,by rw[h23,qLA];simp[bs],by simp⟩
 obtain⟨p,f1,_,f3⟩:=z0.at (m:=l) h0 (by omega);have hlen:l.toNat<n:=by omega
 refine qAA f1 (z0.put hlen hb22 λs25 z25=>?_);have hP0:MkP F W l ((List.replicate n false).set l.toNat true):=⟨List.getElem?_set_self (by simpa using hlen),λm m0 hm=>by
  by_cases q:m.toNat=l.toNat
  ·rw[show m=l by omega];exact .refl
  ·rw[List.getElem?_set_ne (λr=>q r.symm)]at hm
   have hm:(List.replicate n false)[m.toNat]?=some true:=hm;rw[List.getElem?_replicate]at hm;split at hm<;>simp at hm⟩
 refine⟨λys t m=>∃(more:Bool) (B:List Bool),ys=[.bool more]/\m=(if more=true then 1 else 0)+2*B.count false/\MkS t s14 b22 B n/\MkP F W l B/\(more=false->MkC F W B F.L.length),⟨_,true,_,rfl,rfl,z25,hP0,λq=>by cases q⟩,?_⟩;rintro f t m ⟨more,B,hy,rfl,zt,hP,hC⟩;simp only[cI,and_true]at hy;rw[hy];clear hy;unfold qDt;cases more with
 | true=>
   rw[qAE];refine⟨λys t' m=>∃(more:Bool) (i:Nat) (B':List Bool),ys=[.bool more,.int .i64 (i:Int)]/\i<=F.L.length/\m=F.L.length-i/\MkS t' s14 b22 B' n/\MkP F W l B'/\(more=true->B'.count false<B.count false)/\(more=false->B'=B/\MkC F W B' i),⟨_,false,0,B,rfl,by omega,rfl,zt,hP,λq=>(by cases q),λ_=>⟨rfl,λj x hj=>by omega⟩⟩,?_⟩;rintro f2 t2 m2 ⟨more,i,B',hy,hi,rfl,z2,hP2,hm1,hm2⟩;simp only[cI,and_true]at hy;rw[hy.1,hy.2];clear hy
   by_cases hlt:i<F.L.length
   ·refine zAEz zf hb22 (z2.k _ _ g14) (L14.sub z2.k) (hup14.sub z2.k) z2 hn hP2 hlt λt3 B3 more3 z3 hP3 hc=>?_
    refine⟨_,by omega,more3,i+1,B3,rfl,by omega,rfl,z3,hP3,λq=>?_,λq=>?_⟩
    ·rcases hc with⟨r1,r2,_⟩|⟨_,r2⟩
     ·rw[r2];exact hm1 (by rw[<- r1];exact q)
     ·cases mm:more with
      |true=>have:=hm1 mm;omega
      |false=>rw[<- (hm2 mm).1];exact r2
    ·rcases hc with⟨r1,r2,r3⟩|⟨r1,_⟩
     ·obtain⟨q1,q2⟩:=hm2 (by rw[<- r1];exact q)
      refine⟨by rw[r2,q1],λj x hj hx hwk=>?_⟩;rw[r2]
      by_cases hji:j<i
      ·exact q2 j x hji hx hwk
      ·have:j=i:=by omega
       subst this;exact r3 hwk x hx
     ·rw[r1]at q;cases q
   ·have hi:i=F.L.length:=by omega
    subst hi;unfold qBy;refine qAA (a:=F.L.length) (by rw[(hup14.sub z2.k).len];simp[qGB]) ?_;rw[qAR,qAB,decide_eq_false (by omega),qAD];refine⟨_,?_,more,B',rfl,rfl,z2,hP2,λq=>(hm2 q).2⟩;cases more with
    |true=>have:=hm1 rfl;simp;omega
    |false=>rw[(hm2 rfl).1];simp
 | false=>
   rw[qAD];have hAr:=zAEw hlk hup hP (hC rfl);have k25:=k014.trans zt.k;refine⟨λys t' m=>∃(k:Nat) (v:AV),ys=[v,.int .i64 (k:Int)]/\(k:Int)<=F.lf/\m=F.lf.toNat-k/\Acc 3 t t' v (ix (((List.range k).filter λ(n:Nat)=>bAt B (n:Int)).map λn:Nat=>(n:Int)))/\Sub t t',⟨_,0,.nilslc,rfl,by omega,rfl,.inl ⟨rfl,rfl⟩,.refl _⟩,?_⟩;rintro f2 t2 m2 ⟨k,v,hy,hk,rfl,acc,kt⟩;simp only[cI,and_true]at hy;rw[hy.1,hy.2];clear hy;have z2:MkS t2 s14 b22 B n:=⟨zt.k.trans kt,kt _ _ zt.h,zt.n⟩
   unfold qD3;refine qAA (a:=.ptr b0 0) rfl (qAA (a:=.int .i64 F.lf) (by rw[qAI (z2.k _ _ g14)];rfl) ?_);rw[qAR,qAB];refine qAJ (λhlt=>?_) (λhge=>?_)
   rotate_left
   ·have hge:k=F.lf.toNat:=by have:=oF hge;omega
    subst hge;exact hK v t2 _ (k25.trans kt) acc.sl hAr
   have hlt:=oT hlt;obtain⟨p,f1,f2,f3⟩:=z2.at (m:=(k:Int)) (by omega) (by omega);have ep:bAt B (k:Int)=p:=by unfold bAt;rw[f3];rfl
   have hln:((((List.range k).filter λ(n:Nat)=>bAt B (n:Int)).map λn:Nat=>(n:Int))).length<=100000:=by rw[lM];have:=List.length_filter_le (λ(n:Nat)=>bAt B (n:Int)) (List.range k);rw[List.length_range]at this;omega
   have nxt:∀{v':AV}{t':Hq},Acc 3 t t' v' (ix (((List.range (k+1)).filter λ(n:Nat)=>bAt B (n:Int)).map λn:Nat=>(n:Int)))->Sub t t'->qB0 XX v' (.int .i64 (k:Int)) (λys t' m=>∃(k:Nat) (v:AV),ys=[v,.int .i64 (k:Int)]/\(k:Int)<=F.lf/\m=F.lf.toNat-k/\Acc 3 t t' v (ix (((List.range k).filter λ(n:Nat)=>bAt B (n:Int)).map λn:Nat=>(n:Int)))/\Sub t t') (F.lf.toNat-k) K t':=fun {v' t'} a' k'=>by unfold qB0;rw[qAU,qAB,qAe (by omega) (by omega)];exact⟨_,by omega,k+1,v',rfl,by omega,rfl,a',k'⟩
   have esucc:(((List.range (k+1)).filter λ(n:Nat)=>bAt B (n:Int)).map λn:Nat=>(n:Int))=(((List.range k).filter λ(n:Nat)=>bAt B (n:Int)).map λn:Nat=>(n:Int))++(if p=true then[(k:Int)]else[]):=by
    rw[List.range_succ,List.filter_append,List.map_append]
    congr 1
    cases p<;>simp[ep]
   refine qAA f1 (qAA f2 (qAJ (λq=>?_) (λq=>?_)))
   ·rw[if_pos q]at esucc
    exact app1 rfl acc kt hln λv' s' a' ks=>nxt (by rw[esucc];exact a') ks
   ·rw[if_neg (by rw[q];simp),List.append_nil]at esucc
    exact nxt (by rw[esucc];exact acc) kt
end Go.AM.OR
set_option maxRecDepth 100000
namespace Go.AM.OR
open Go Go.Proofs Go.AM.TN
end Go.AM.OR
set_option maxRecDepth 100000
namespace Go.AM.OR
open Go Go.Proofs Go.AM.TN
end Go.AM.OR
set_option maxRecDepth 100000
namespace Go.AM.OR
open Go Go.Proofs Go.AM.TN
end Go.AM.OR
set_option maxRecDepth 100000
namespace Go.AM.OR
open Go Go.Proofs Go.AM.TN
variable {s sB t H:Hq} {v w:AV} {cs fcs:List AV} {i k b0 b2 b5 b7:Nat} {l:Int}
abbrev r1(l:List AV):List (List AV):=l.map λx=>[x]
structure WS(s sB H t:Hq)(b0 b2 b5 b7:Nat)(fcs cs:List AV):Prop where
 z:FS 36 sB H t b5 b7 cs
 h0:H b0=some (false,.cells 31 fcs)
 h2:H b2=some (false,.cells 36 [.nilslc,.nilslc,.nilslc,.nilslc])
 hs:Sub s (hdel H b2)
theorem WS.up{H' t':Hq}{cs':List AV}(w:WS s sB H t b0 b2 b5 b7 fcs cs)(z:FS 36 sB H' t' b5 b7 cs')(k:Sub H H'):WS s sB H' t' b0 b2 b5 b7 fcs cs':=
 ⟨z,k _ _ w.h0,k _ _ w.h2,w.hs.trans (qZy k)⟩
theorem WS.step{t2:Hq}(w:WS s sB H t b0 b2 b5 b7 fcs cs)(kp:qBp (λi=>i=b5) t t2)(tk2:Tk sB t2 b5):WS s sB H t2 b0 b2 b5 b7 fcs cs:=w.up (w.z.step kp tk2) (.refl _)
theorem WS.fin{elem:TypeId}{rows:List (List AV)}(w:WS s sB H t b0 b2 b5 b7 fcs cs)(acc:AccR elem 1 (ext H t b5 b7) t v rows):∃H2,WS s sB H2 t b0 b2 b5 b7 fcs cs/\Sub H H2/\SlR 1 (hdel H2 b2) v rows:=by obtain⟨H2,z2,k2,sl⟩:=finish (b0:=b2) w.z acc (by rw[w.h2];simp);exact⟨H2,w.up z2 k2,k2,sl⟩
end Go.AM.OR
set_option maxRecDepth 100000
namespace Go.AM.OR
open Go Go.Proofs Go.AM.TN
variable {s sB t H:Hq} {v w:AV} {cs fcs:List AV} {a k b0 b2 b5 b7:Nat}
theorem WS.sub(w:WS s sB H t b0 b2 b5 b7 fcs cs):Sub s t:=w.hs.trans (zABY.trans w.z.sub)
theorem WS.rd{x:AV}{Q:AV->Prop}(w:WS s sB H t b0 b2 b5 b7 fcs cs)(hx:fcs[k]?=some x)(hQ:Q x):oK (qAC k (.ptr b0 0)) λv=>oK (rd1 t v) Q:=
 qAA (a:=.ptr b0 k) (by rw[qAG,zA]) (qAA (by rw[qAI (w.z.sub _ _ w.h0)];exact hx) hQ)
end Go.AM.OR
set_option maxRecDepth 100000
namespace Go.AM.OR
open Go Go.Proofs Go.AM.TN
variable {a i n:Nat} {h:Int}
theorem PtRv.app{vs:List AV}{P:List (List Bool)}{q:AV}{r:List Bool}{a:Hq}(hl:vs.length=P.length)(h:∀(i:Nat) q r,vs[i]?=some q->P[i]?=some r->Sl a q (bs r))(hq:Sl a q (bs r)):(vs ++ [q]).length=(P ++ [r]).length/\∀(i:Nat) q' r',(vs ++ [q])[i]?=some q'->(P ++ [r])[i]?=some r'->Sl a q' (bs r'):=by
 refine⟨by simp[hl],λi q' r' h1 h2=>?_⟩
 by_cases e:i<vs.length
 ·rw[List.getElem?_append_left e]at h1
  rw[List.getElem?_append_left (by omega)]at h2;exact h i q' r' h1 h2
 ·rw[List.getElem?_append_right (by omega)]at h1
  rw[List.getElem?_append_right (by omega)]at h2;rw[<- hl]at h2;cases q0:i-vs.length with
  | zero=>
    rw[q0]at h1 h2;cases h1;cases h2;exact hq
  |succ n=>rw[q0]at h1;simp at h1
end Go.AM.OR
set_option maxRecDepth 100000
namespace Go.AM.OR
open Go Go.Proofs Go.AM.TN
variable {K:AV→Hq→Prop} {s:Hq}
theorem qWe{f:FuncId}(hf:f=3∨f=12)(hK:K (.bool true) s):wC TP XX f [] K s:=by
 refine qXv (g:=λargs=>match args with
  |[]=>AM.ret (.bool true)
  |_=>AM.fail) ?_ (wpF.ret hK)
 rcases hf with rfl|rfl<;>rfl
end Go.AM.OR
namespace Go.AM.SG
open Go Go.AM Go.Proofs
variable {s:Hq} {d:Nat}
theorem wf32{n:Int}(h:(Lit.int .u32 n).wf=true):0<=n/\n<4294967296:=by
 have:0<=n/\n<=4294967295:=by unfold Lit.wf at h;simpa [IntKind.min,IntKind.max,IntKind.bits,IntKind.signed]using h
 omega
set_option maxRecDepth 100000
theorem qDh{t e:TypeId}{x:AV}(hu:TP.underlying t=some (.slice e))(h:Inp TP s (d+1) t [x]):Arg TP s (d+1) t x:=by
 have hx:x.cells=[x]:=by
  have h':=h;unfold Inp at h';simp only[hu]at h';rcases h' with h'|⟨b,n,c,h',_⟩
  ·cases h';rfl
  ·cases h';rfl
 have hn:qBV TP t≠some true:=by unfold qBV;rw[hu];simp
 exact⟨by rw[hx];exact h,λw=>absurd w hn,λ_=>hx⟩
end Go.AM.SG
set_option maxRecDepth 100000
namespace Go.AM.FW
open Go Go.Proofs Go.AM.TN
variable {s:Hq} {v:AV}
theorem zADe{xs:List AV}(h:Inp TP s 38 91 xs):∃x:RLk,xs=lkC x:=by
 have hl:=qHu (by kernel_rfl:qBV TP 91=some true) h;rw[show TP.cellsOf 91=3 by kernel_rfl]at hl;obtain⟨n0,h0,w0⟩:=SG.qA9 (j:=0) (k:=.i64) h (by kernel_rfl);obtain⟨n1,h1,w1⟩:=SG.qA9 (j:=1) (k:=.i64) h (by kernel_rfl);obtain⟨n2,h2,w2⟩:=SG.qA9 (j:=2) (k:=.i64) h (by kernel_rfl);refine⟨(n0,n1,n2),SG.qIQ hl λj hj=>?_⟩
 match j,hj with
 | 0,_=>exact h0
 | 1,_=>exact h1
 | 2,_=>exact h2
theorem zADJ{xs:List AV}(h:Inp TP s 38 93 xs):∃x:Int×Int,xs=tgC x:=by
 have hl:=qHu (by kernel_rfl:qBV TP 93=some true) h;rw[show TP.cellsOf 93=2 by kernel_rfl]at hl;obtain⟨n0,h0,w0⟩:=SG.qA9 (j:=0) (k:=.u32) h (by kernel_rfl);obtain⟨n1,h1,w1⟩:=SG.qA9 (j:=1) (k:=.u32) h (by kernel_rfl);refine⟨(n0,n1),SG.qIQ hl λj hj=>?_⟩
 match j,hj with
 | 0,_=>exact h0
 | 1,_=>exact h1
theorem zAEL{xs:List AV}(h:Inp TP s 38 69 xs):∃x:BG,xs=bgC x:=by
 have hl:=qHu (by kernel_rfl:qBV TP 69=some true) h;rw[show TP.cellsOf 69=6 by kernel_rfl]at hl;obtain⟨n0,h0,w0⟩:=SG.qA9 (j:=0) (k:=.i64) h (by kernel_rfl);obtain⟨n1,h1,w1⟩:=SG.qA9 (j:=1) (k:=.u32) h (by kernel_rfl);obtain⟨n2,h2,w2⟩:=SG.qA9 (j:=2) (k:=.u32) h (by kernel_rfl);obtain⟨n3,h3,w3⟩:=SG.qA9 (j:=3) (k:=.u32) h (by kernel_rfl);obtain⟨n4,h4,w4⟩:=SG.qA9 (j:=4) (k:=.i64) h (by kernel_rfl);obtain⟨n5,h5,w5⟩:=SG.qA9 (j:=5) (k:=.u32) h (by kernel_rfl);refine⟨(n0,n1,n2,n3,n4,n5),SG.qIQ hl λj hj=>?_⟩
 match j,hj with
 | 0,_=>exact h0
 | 1,_=>exact h1
 | 2,_=>exact h2
 | 3,_=>exact h3
 | 4,_=>exact h4
 | 5,_=>exact h5
theorem zACv{xs:List AV}(h:Inp TP s 38 61 xs):∃x:R4,xs=hgC x/\0<=x.2.1/\x.2.1<4294967296:=by
 have hl:=qHu (by kernel_rfl:qBV TP 61=some true) h;rw[show TP.cellsOf 61=4 by kernel_rfl]at hl;obtain⟨n0,h0,w0⟩:=SG.qA9 (j:=0) (k:=.u64) h (by kernel_rfl);obtain⟨n1,h1,w1⟩:=SG.qA9 (j:=1) (k:=.u32) h (by kernel_rfl);obtain⟨n2,h2,w2⟩:=SG.qA9 (j:=2) (k:=.i64) h (by kernel_rfl);obtain⟨n3,h3,w3⟩:=SG.qA9 (j:=3) (k:=.i64) h (by kernel_rfl);refine⟨(n0,n1,n2,n3),SG.qIQ hl λj hj=>?_,SG.wf32 w1⟩
 match j,hj with
 | 0,_=>exact h0
 | 1,_=>exact h1
 | 2,_=>exact h2
 | 3,_=>exact h3
theorem zAD5{xs:List AV}(h:Inp TP s 38 118 xs):∃x:R4,xs=ggC x:=by
 have hl:=qHu (by kernel_rfl:qBV TP 118=some true) h;rw[show TP.cellsOf 118=4 by kernel_rfl]at hl;obtain⟨n0,h0,w0⟩:=SG.qA9 (j:=0) (k:=.i64) h (by kernel_rfl);obtain⟨n1,h1,w1⟩:=SG.qA9 (j:=1) (k:=.i64) h (by kernel_rfl);obtain⟨n2,h2,w2⟩:=SG.qA9 (j:=2) (k:=.u32) h (by kernel_rfl);obtain⟨n3,h3,w3⟩:=SG.qA9 (j:=3) (k:=.i64) h (by kernel_rfl);refine⟨(n0,n1,n2,n3),SG.qIQ hl λj hj=>?_⟩
 match j,hj with
 | 0,_=>exact h0
 | 1,_=>exact h1
 | 2,_=>exact h2
 | 3,_=>exact h3
theorem zADP{xs:List AV}(h:Inp TP s 38 64 xs):∃a:(AV×AV)×(List Int×List Int),xs=[a.1.1,a.1.2]/\Sl s a.1.1 (ix a.2.1)/\Sl s a.1.2 (ix a.2.2):=by
 have hl:=qHu (by kernel_rfl:qBV TP 64=some true) h;rw[show TP.cellsOf 64=2 by kernel_rfl]at hl;obtain⟨n0,h0,w0⟩:=SG.qIZ (j:=0) (d':=37) (t':=34) h (by kernel_rfl);obtain⟨n1,h1,w1⟩:=SG.qIZ (j:=1) (d':=37) (t':=34) h (by kernel_rfl);have key:∀{x:AV},Inp TP s 37 34 [x]->∃l:List Int,Sl s x (ix l):=λw=>by obtain⟨l,h,_⟩:=qLO (d:=36) Tryz.underlying34 (by kernel_rfl) (AV.int .i64) (λ_=>True) (λxs h=>by obtain⟨n,e,_⟩:=qXi Tryz.underlying3 h;exact⟨n,e,trivial⟩) (SG.qDh Tryz.underlying34 w);exact⟨l,h⟩
 obtain⟨l0,q0⟩:=key w0;obtain⟨l1,q1⟩:=key w1;refine⟨((n0,n1),(l0,l1)),SG.qIQ hl λj hj=>?_,q0,q1⟩
 match j,hj with
 | 0,_=>exact h0
 | 1,_=>exact h1
theorem zACg{xs:List AV}(h:Inp TP s 40 31 xs):∃F:FG,FabR s xs F/\F.S.length<=9223372036854775807/\∀x∈F.H,0<=x.2.1/\x.2.1<4294967296:=by
 have hl:=qHu (by kernel_rfl:qBV TP 31=some true) h;rw[show TP.cellsOf 31=19 by kernel_rfl]at hl;obtain⟨n0,h0,w0⟩:=SG.qA9 (j:=0) (k:=.i64) h (by kernel_rfl);obtain⟨n1,h1,w1⟩:=SG.qA9 (j:=1) (k:=.i64) h (by kernel_rfl);obtain⟨n2,h2,w2⟩:=SG.qIZ (j:=2) (d':=39) (t':=22) h (by kernel_rfl);obtain⟨n3,h3,w3⟩:=SG.qIZ (j:=3) (d':=39) (t':=23) h (by kernel_rfl);obtain⟨n4,h4,w4⟩:=SG.qIZ (j:=4) (d':=39) (t':=24) h (by kernel_rfl);obtain⟨n5,h5,w5⟩:=SG.qIZ (j:=5) (d':=39) (t':=25) h (by kernel_rfl);obtain⟨n6,h6,w6⟩:=SG.qIZ (j:=6) (d':=39) (t':=26) h (by kernel_rfl);obtain⟨n7,h7,w7⟩:=SG.qIZ (j:=7) (d':=39) (t':=27) h (by kernel_rfl);obtain⟨n8,h8,w8⟩:=SG.qA9 (j:=8) (k:=.i64) h (by kernel_rfl);obtain⟨n9,h9,w9⟩:=SG.qA9 (j:=9) (k:=.i64) h (by kernel_rfl);obtain⟨n10,h10,w10⟩:=SG.qA9 (j:=10) (k:=.i64) h (by kernel_rfl);obtain⟨n11,h11⟩:=SG.zAA5 (j:=11) h (by kernel_rfl);obtain⟨n12,h12⟩:=SG.zAA5 (j:=12) h (by kernel_rfl);obtain⟨n13,h13,w13⟩:=SG.qA9 (j:=13) (k:=.i64) h (by kernel_rfl);obtain⟨n14,h14,w14⟩:=SG.qA9 (j:=14) (k:=.i64) h (by kernel_rfl);obtain⟨n15,h15,w15⟩:=SG.qA9 (j:=15) (k:=.i64) h (by kernel_rfl);obtain⟨n16,h16,w16⟩:=SG.qA9 (j:=16) (k:=.i64) h (by kernel_rfl);obtain⟨n17,h17,w17⟩:=SG.qA9 (j:=17) (k:=.i64) h (by kernel_rfl);obtain⟨n18,h18,w18⟩:=SG.qA9 (j:=18) (k:=.i64) h (by kernel_rfl);obtain⟨lL,qL,_⟩:=argR (d:=38) Tryz.underlying22 lkC (λ_=>True) (λa=>by rw[show TP.cellsOf 91=3 by kernel_rfl];rfl) (λxs h=>by obtain⟨x,e⟩:=zADe h;exact⟨x,e,trivial⟩) (SG.qDh Tryz.underlying22 w2);obtain⟨lT,qT,_⟩:=argR (d:=38) Tryz.underlying23 tgC (λ_=>True) (λa=>by rw[show TP.cellsOf 93=2 by kernel_rfl];rfl) (λxs h=>by obtain⟨x,e⟩:=zADJ h;exact⟨x,e,trivial⟩) (SG.qDh Tryz.underlying23 w3);obtain⟨lB,qB,_⟩:=argR (d:=38) Tryz.underlying24 bgC (λ_=>True) (λa=>by rw[show TP.cellsOf 69=6 by kernel_rfl];rfl) (λxs h=>by obtain⟨x,e⟩:=zAEL h;exact⟨x,e,trivial⟩) (SG.qDh Tryz.underlying24 w4);obtain⟨lS,qS,oS,mS⟩:=argR (d:=38) Tryz.underlying25 (λa:(AV×AV)×(List Int×List Int)=>[a.1.1,a.1.2]) (λa=>Sl s a.1.1 (ix a.2.1)/\Sl s a.1.2 (ix a.2.2)) (λa=>by rw[show TP.cellsOf 64=2 by kernel_rfl];rfl) (λxs h=>zADP h) (SG.qDh Tryz.underlying25 w5);obtain⟨lH,qH,oH,_⟩:=argR (d:=38) Tryz.underlying26 hgC (λx:R4=>0<=x.2.1/\x.2.1<4294967296) (λa=>by rw[show TP.cellsOf 61=4 by kernel_rfl];rfl) (λxs h=>zACv h) (SG.qDh Tryz.underlying26 w6);obtain⟨lG,qG,_⟩:=argR (d:=38) Tryz.underlying27 ggC (λ_=>True) (λa=>by rw[show TP.cellsOf 118=4 by kernel_rfl];rfl) (λxs h=>by obtain⟨x,e⟩:=zAD5 h;exact⟨x,e,trivial⟩) (SG.qDh Tryz.underlying27 w7);rw[show TP.cellsOf 91=3 by kernel_rfl]at qL;rw[show TP.cellsOf 93=2 by kernel_rfl]at qT;rw[show TP.cellsOf 69=6 by kernel_rfl]at qB;rw[show TP.cellsOf 64=2 by kernel_rfl]at qS;rw[show TP.cellsOf 61=4 by kernel_rfl]at qH;rw[show TP.cellsOf 118=4 by kernel_rfl]at qG;have sS:SgG s n5 (lS.map (·.2)):=⟨lS.map (·.1),by rw[List.map_map];exact qS,by simp,λi q x hq hx=>by
  rw[List.getElem?_map]at hq hx;cases e:lS[i]? with
  |none=>rw[e]at hq;cases hq
  | some a=>
    rw[e]at hq hx;cases hq;cases hx;exact oS a (mG e)⟩
 refine⟨⟨n0,n1,n8,n9,n10,n11,n12,n13,n14,n15,n16,n17,n18,lL,lT,lB,lS.map (·.2),lH,lG⟩,⟨n2,n3,n4,n5,n6,n7,SG.qIQ hl λj hj=>?_,qL,qT,qB,sS,qH,qG⟩,?_,oH⟩
 ·match j,hj with
  | 0,_=>exact h0
  | 1,_=>exact h1
  | 2,_=>exact h2
  | 3,_=>exact h3
  | 4,_=>exact h4
  | 5,_=>exact h5
  | 6,_=>exact h6
  | 7,_=>exact h7
  | 8,_=>exact h8
  | 9,_=>exact h9
  | 10,_=>exact h10
  | 11,_=>exact h11
  | 12,_=>exact h12
  | 13,_=>exact h13
  | 14,_=>exact h14
  | 15,_=>exact h15
  | 16,_=>exact h16
  | 17,_=>exact h17
  | 18,_=>exact h18
  |j+19,q=>exact absurd q (by show ¬j+19<19;omega)
 ·show(lS.map (·.2)).length<=_
  rw[lM];exact Nat.le_trans mS (by decide)
theorem zACL(h:Arg TP s 40 31 v):∃(cs:List AV) (F:FG),v=.agg cs/\FabR s cs F/\F.S.length<=9223372036854775807/\∀x∈F.H,0<=x.2.1/\x.2.1<4294967296:=by obtain⟨h1,h2,_⟩:=h;obtain⟨l,rfl,_⟩:=h2 (by kernel_rfl);rw[qHc]at h1;obtain⟨F,hF⟩:=zACg h1;exact⟨l,F,rfl,hF⟩
end Go.AM.FW
namespace Go.AM
open Go Go.Proofs
end Go.AM
set_option maxRecDepth 100000
namespace Go.AM.OR
open Go Go.Proofs Go.AM.TN
end Go.AM.OR
set_option maxRecDepth 100000
namespace Go.AM.OR
open Go Go.Proofs Go.AM.TN
end Go.AM.OR
namespace Go.AM
open Go Go.Proofs
end Go.AM
set_option maxRecDepth 100000
namespace Go.AM.OR
open Go Go.Proofs Go.AM.TN
end Go.AM.OR
set_option maxRecDepth 100000
namespace Go.AM.OR
open Go Go.Proofs Go.AM.TN
variable {s t:Hq} {F:FG} {W:WG} {i k b0 b6 b18 b31 b48:Nat} {h sg:Int} {v2 v3 v4 v5 v6 v7 w1 w2 w3 w4:AV} {y:R4} {hd:List Hd} {x:FC.Fr} {e:Lnd} {d:BG}
structure ApS(t:Hq)(F:FG)(W:WG)(v2 v3 v4 v5 v6 v7 w1 w2 w3 w4:AV)(b0 b6 b18 b31 b48:Nat)(x:FC.Fr)(y:R4)(e:Lnd)(d:BG)(i:Nat)(sg:Int):Prop where
 h0:t b0=some (false,.cells 48 (FC.frC x))
 h6:t b6=some (false,.cells 31 (csG F v2 v3 v4 v5 v6 v7))
 h18:t b18=some (false,.cells 36 [w1,w2,w3,w4])
 h31:t b31=some (false,.cells 61 (hgC y))
 h48:t b48=some (false,.cells 55 (ldC e))
 L:FL t F v2 v3 v4 v5 v6 v7
 Wl:WL t W w1 w2 w3 w4
 hd:F.B[y.2.2.1.toNat]?=some d
 hb:0<=y.2.2.1
 hw:W.wh[i]?=some sg
theorem ApS.sub(h:ApS t F W v2 v3 v4 v5 v6 v7 w1 w2 w3 w4 b0 b6 b18 b31 b48 x y e d i sg)(k:Sub t s):ApS s F W v2 v3 v4 v5 v6 v7 w1 w2 w3 w4 b0 b6 b18 b31 b48 x y e d i sg:=
 ⟨k _ _ h.h0,k _ _ h.h6,k _ _ h.h18,k _ _ h.h31,k _ _ h.h48,h.L.sub k,h.Wl.sub k,h.hd,h.hb,h.hw⟩
end Go.AM.OR
set_option maxRecDepth 100000
namespace Go.AM.OR
open Go Go.Proofs Go.AM.TN
variable {s:Hq} {v:AV} {j k:Nat} {h l:Int} {q:Bool} {x:FC.Fr}
theorem arg_frame(h:Arg TP s 40 48 v):∃x:FC.Fr,v=.agg (FC.frC x):=by
 obtain⟨h1,h2,_⟩:=h;obtain⟨l,rfl,_⟩:=h2 (by kernel_rfl);rw[qHc]at h1;have h:=h1;have hl:=qHu (by kernel_rfl:qBV TP 48=some true) h;rw[show TP.cellsOf 48=15 by kernel_rfl]at hl;obtain⟨n0,h0,_⟩:=SG.qA9 (j:=0) (k:=.u64) h (by kernel_rfl);obtain⟨n1,h1,_⟩:=SG.qA9 (j:=1) (k:=.u64) h (by kernel_rfl);obtain⟨n2,h2,_⟩:=SG.qA9 (j:=2) (k:=.i64) h (by kernel_rfl);obtain⟨n3,h3,_⟩:=SG.qA9 (j:=3) (k:=.i64) h (by kernel_rfl);obtain⟨n4,h4,_⟩:=SG.qA9 (j:=4) (k:=.u64) h (by kernel_rfl);obtain⟨n5,h5,_⟩:=SG.qA9 (j:=5) (k:=.u32) h (by kernel_rfl);obtain⟨n6,h6,_⟩:=SG.qA9 (j:=6) (k:=.u64) h (by kernel_rfl);obtain⟨n7,h7,_⟩:=SG.qA9 (j:=7) (k:=.u32) h (by kernel_rfl);obtain⟨n8,h8,_⟩:=SG.qA9 (j:=8) (k:=.u32) h (by kernel_rfl);obtain⟨n9,h9,_⟩:=SG.qA9 (j:=9) (k:=.u32) h (by kernel_rfl);obtain⟨n10,h10,_⟩:=SG.qA9 (j:=10) (k:=.i64) h (by kernel_rfl);obtain⟨n11,h11,_⟩:=SG.qA9 (j:=11) (k:=.i64) h (by kernel_rfl);obtain⟨n12,h12,_⟩:=SG.qA9 (j:=12) (k:=.i64) h (by kernel_rfl);obtain⟨n13,h13,_⟩:=SG.qA9 (j:=13) (k:=.i64) h (by kernel_rfl);obtain⟨n14,h14,_⟩:=SG.qA9 (j:=14) (k:=.u64) h (by kernel_rfl);refine⟨⟨n0,n1,n2,n3,n4,n5,n6,n7,n8,n9,n10,n11,n12,n13,n14⟩,congrArg AV.agg (SG.qIQ hl λj hj=>?_)⟩
 match j,hj with
 | 0,_=>exact h0
 | 1,_=>exact h1
 | 2,_=>exact h2
 | 3,_=>exact h3
 | 4,_=>exact h4
 | 5,_=>exact h5
 | 6,_=>exact h6
 | 7,_=>exact h7
 | 8,_=>exact h8
 | 9,_=>exact h9
 | 10,_=>exact h10
 | 11,_=>exact h11
 | 12,_=>exact h12
 | 13,_=>exact h13
 | 14,_=>exact h14
 |j+15,q=>exact absurd q (by show ¬j+15<15;omega)
end Go.AM.OR
namespace Go.AM
open Go Go.Proofs
end Go.AM
set_option maxRecDepth 100000
namespace Go.AM.OR
open Go Go.Proofs Go.AM.TN
variable {K:AV→Hq→Prop} {s t:Hq} {v w:AV} {c i:Nat}
theorem qOa{L:List Int}(hv:Sl s v (ix L))(hw:Sl s w (ix L))(hl:L.length<=100000)(hK:K (.bool true) s):wC TP XX 24 [v,w] K s:=by
 refine qO1 (qAA (by rw[hv.len,qAm]) (qAA (by rw[hw.len,qAm]) ?_));simp only[qAZ,beq_self_eq_true,qAY,Bool.false_bne,qAB];refine⟨λys t m=>∃i:Nat,ys=[.bool true,.int .i64 (i:Int)]/\i<=L.length/\m=L.length-i/\t=s,⟨_,0,rfl,by omega,rfl,rfl⟩,?_⟩;rintro f t m ⟨i,hy,hi,rfl,rfl⟩;simp only[cI,and_true]at hy;rw[hy.1,hy.2];unfold qKO;rw[qAE];refine qAA (by rw[hv.len,qAm]) ?_;rw[qAR,qAB];unfold qHH;refine qAA rfl (qAJ (λc=>?_) (λc=>hK));have c:i<L.length:=by have:=oT c;omega
 obtain⟨p1,g1,g2⟩:=hv.get (i:=i) (by rw[qAm];exact c);obtain⟨p2,g3,g4⟩:=hw.get (i:=i) (by rw[qAm];exact c);rw[qDU c]at g2 g4;refine qAA g1 (qAA g2 (qAA g3 (qAA g4 ?_)));simp only[qAZ,beq_self_eq_true,qAY,Bool.false_bne,qAB];rw[qAU,qAB,qAe (by omega) (by omega)];exact⟨_,by omega,i+1,rfl,by omega,rfl,trivial⟩
end Go.AM.OR
set_option maxRecDepth 100000
namespace Go.AM.OR
open Go Go.Proofs Go.AM.TN
end Go.AM.OR
set_option maxRecDepth 100000
namespace Go.AM.OR
open Go Go.Proofs Go.AM.TN
variable {s t:Hq} {F:FG} {W:WG} {c k b6 b12:Nat} {h:Int} {v2 v3 v4 v5 v6 v7 w1 w2 w3 w4:AV}
structure ArS(t:Hq)(F:FG)(W:WG)(v2 v3 v4 v5 v6 v7 w1 w2 w3 w4:AV)(b6 b12:Nat):Prop where
 h6:t b6=some (false,.cells 31 (csG F v2 v3 v4 v5 v6 v7))
 h12:t b12=some (false,.cells 36 [w1,w2,w3,w4])
 L:FL t F v2 v3 v4 v5 v6 v7
 Wl:WL t W w1 w2 w3 w4
theorem ArS.sub(h:ArS t F W v2 v3 v4 v5 v6 v7 w1 w2 w3 w4 b6 b12)(k:Sub t s):ArS s F W v2 v3 v4 v5 v6 v7 w1 w2 w3 w4 b6 b12:=⟨k _ _ h.h6,k _ _ h.h12,h.L.sub k,h.Wl.sub k⟩
theorem ArS.fb(h:ArS t F W v2 v3 v4 v5 v6 v7 w1 w2 w3 w4 b6 b12):FabR t (csG F v2 v3 v4 v5 v6 v7) F:=⟨v2,v3,v4,v5,v6,v7,rfl,h.L⟩
theorem ArS.wr(h:ArS t F W v2 v3 v4 v5 v6 v7 w1 w2 w3 w4 b6 b12):WR t [w1,w2,w3,w4] W:=⟨w1,w2,w3,w4,rfl,h.Wl⟩
theorem eqBB{c d:Bool}(h:c=d):negB true (eqV 1 false (.bool c) (.bool d))=some (.bool false):=by subst h;cases c<;>rfl
end Go.AM.OR
set_option maxRecDepth 100000
namespace Go.AM.OR
open Go Go.Proofs Go.AM.TN
variable {K:AV→Hq→Prop} {s s' t:Hq} {v w:AV} {cs ws:List AV} {F:FG} {W:WG} {a b c i j n b0 b2:Nat} {h l sg:Int} {v2 v3 v4 v5 v6 v7 w1 w2 w3 w4:AV} {y:R4} {ar:List Int} {q:Bool} {x:FC.Fr} {B:List Bool}
theorem zACk{xs:List AV}(h:Inp TP s 40 36 xs):∃W:WG,WR s xs W:=by
 have hl:=qHu (by kernel_rfl:qBV TP 36=some true) h;rw[show TP.cellsOf 36=4 by kernel_rfl]at hl;obtain⟨n0,h0,w0⟩:=SG.qIZ (j:=0) (d':=39) (t':=32) h (by kernel_rfl);obtain⟨n1,h1,w1⟩:=SG.qIZ (j:=1) (d':=39) (t':=32) h (by kernel_rfl);obtain⟨n2,h2,w2⟩:=SG.qIZ (j:=2) (d':=39) (t':=33) h (by kernel_rfl);obtain⟨n3,h3,w3⟩:=SG.qIZ (j:=3) (d':=39) (t':=34) h (by kernel_rfl);have kb:∀{x:AV},Inp TP s 39 32 [x]->∃l:List Bool,Sl s x (bs l):=λw=>by obtain⟨l,h,_⟩:=qLO (d:=38) Tryz.underlying32 (by kernel_rfl) AV.bool (λ_=>True) (λxs h=>by obtain⟨n,e⟩:=qUB Tryz.underlying4 h;exact⟨n,e⟩) (SG.qDh Tryz.underlying32 w);exact⟨l,h⟩
 obtain⟨l0,q0⟩:=kb w0;obtain⟨l1,q1⟩:=kb w1;obtain⟨l3,q3,_⟩:=qLO (d:=38) Tryz.underlying34 (by kernel_rfl) (AV.int .i64) (λ_=>True) (λxs h=>by obtain⟨n,e,_⟩:=qXi Tryz.underlying3 h;exact⟨n,e,trivial⟩) (SG.qDh Tryz.underlying34 w3);obtain⟨l2,q2,p2,_⟩:=qLO (d:=38) Tryz.underlying33 (by kernel_rfl) (λa:AV×List Bool=>a.1) (λa=>Sl s a.1 (bs a.2)) (λxs h=>by obtain⟨v,rfl,l,h,_⟩:=qSR (d:=37) Tryz.underlying32 (by kernel_rfl) AV.bool (λ_=>True) (λxs h=>by obtain⟨n,e⟩:=qUB Tryz.underlying4 h;exact⟨n,e⟩) h;exact⟨(v,l),rfl,h⟩) (SG.qDh Tryz.underlying33 w2)
 refine⟨⟨l0,l1,l2.map (·.2),l3⟩,n0,n1,n2,n3,SG.qIQ hl λj hj=>?_,q0,q1,⟨_,q2,by simp,λi q r hq hr=>?_⟩,q3⟩
 ·match j,hj with
  | 0,_=>exact h0
  | 1,_=>exact h1
  | 2,_=>exact h2
  | 3,_=>exact h3
 ·rw[List.getElem?_map]at hq hr
  cases e:l2[i]? with
  |none=>rw[e]at hq;cases hq
  | some a=>
    rw[e]at hq hr;cases hq;cases hr;exact p2 a (mG e)
theorem arg_wor(h:Arg TP s 40 36 v):∃(ws:List AV) (W:WG),v=.agg ws/\WR s ws W:=by obtain⟨h1,h2,_⟩:=h;obtain⟨l,rfl,_⟩:=h2 (by kernel_rfl);rw[qHc]at h1;obtain⟨W,hW⟩:=zACk h1;exact⟨l,W,rfl,hW⟩
def LkV(F:FG)(W:WG)(L:List Bool):Prop:=(Valid F->L=qGB F W)/\(¬Valid F->L=[])
def MmV(F:FG)(W:WG)(sg:Int)(L:List Int):Prop:=(Valid F->L=mems F W sg)/\(¬Valid F->L=[])
def ArV(F:FG)(W:WG)(l:Int)(L:List Int):Prop:=(Valid F->Ar F W l L)/\(¬Valid F->L=[])
theorem LkV.uniq{L L':List Bool}(h:LkV F W L)(h':LkV F W L'):L=L':=by
 by_cases hv:Valid F
 ·rw[h.1 hv,h'.1 hv]
 ·rw[h.2 hv,h'.2 hv]
theorem MmV.uniq{L L':List Int}(h:MmV F W sg L)(h':MmV F W sg L'):L=L':=by
 by_cases hv:Valid F
 ·rw[h.1 hv,h'.1 hv]
 ·rw[h.2 hv,h'.2 hv]
theorem ArV.uniq{L L':List Int}(h:ArV F W l L)(h':ArV F W l L'):L=L':=by
 by_cases hv:Valid F
 ·exact(h.1 hv).uniq (h'.1 hv)
 ·rw[h.2 hv,h'.2 hv]
theorem nilA:Sl s .nilslc (ix []):=.inl ⟨rfl,rfl⟩
theorem nilB:Sl s .nilslc (bs []):=.inl ⟨rfl,rfl⟩
theorem zAEr(h:FW.Sml F)(hi:∀x∈F.H,0<=x.2.1/\x.2.1<4294967296):Sz F:=⟨by have:=h.L;omega,by have:=h.T;omega,by have:=h.B;omega,by have:=h.S;omega,by have:=h.H;omega,by have:=h.G;omega,λx hx=>by have:=h.N x hx;omega,hi⟩
theorem qWX{C:AV->Hq->Prop}(hm:FW.Sml F)(hz:Sz F)(z:ArS t F W v2 v3 v4 v5 v6 v7 w1 w2 w3 w4 b0 b2)(hC:∀v s',Sub t s'->C (.bool true) s'->v=AV.bool true->C v s')(hK:∀s',Sub t s'->C (.bool true) s'):
  wC TP XX 34 [.agg (csG F v2 v3 v4 v5 v6 v7),.agg [w1,w2,w3,w4]] (λv_31 s_32=>(∀b,t b≠none->t b=none->s_32 b=none)->oK (rdN (cutH [(t,(add t s_32))] (add t s_32)) 19 (.ptr b0 0)) λv_33=>oK (rdN (cutH [(t,(add t s_32))] (add t s_32)) 4 (.ptr b2 0)) λv_34=>wC TP XX 35 [(.agg v_33),(.agg v_34)] (λv_35 s_36=>wC TP XX 33 [v_31,v_35] C s_36) (add t s_32)) (AM.frz t):=by
 have hl:F.L.length<=100000:=by have:=hm.L;omega
 have main:∀(v:AV) (s1:Hq) (L:List Bool),Sub (AM.frz t) s1->Sl s1 v (bs L)->LkV F W L->oK (rdN (cutH [(t,(add t s1))] (add t s1)) 19 (.ptr b0 0)) λv_33=>oK (rdN (cutH [(t,(add t s1))] (add t s1)) 4 (.ptr b2 0)) λv_34=>wC TP XX 35 [(.agg v_33),(.agg v_34)] (λv_35 s_36=>wC TP XX 33 [v,v_35] C s_36) (add t s1):=λv s1 L k1 h1 hL=>by
  have kc:Sub t (cutH [(t,(add t s1))] (add t s1)):=FC.cut1 (.refl t);refine qAA (qAS (kc _ _ z.h6) rfl) (qAA (qAS (kc _ _ z.h12) rfl) ?_);have ka:Sub t (add t s1):=qGw;have h1':=h1.addf k1;generalize add t s1=T at ka h1';have zT:=z.sub ka;have two:∀(v':AV) (s2:Hq) (L':List Bool),Sub T s2->Sl s2 v' (bs L')->LkV F W L'->wC TP XX 33 [v,v'] C s2:=λv' s2 L' k2 h2 hL'=>by
   have:=hL.uniq hL';subst this;refine qSJ (h1'.sub k2) h2 ?_ (hK _ (ka.trans k2))
   by_cases hv:Valid F
   ·rw[hL.1 hv];simp[qGB];omega
   ·rw[hL.2 hv];simp
  exact qRc hz hl zT.fb zT.wr (λhv s2 k2=>two _ _ [] k2 nilB ⟨λq=>absurd q hv,λ_=>rfl⟩) λhv v' s2 k2 h2=>two _ _ _ k2 h2 ⟨λ_=>rfl,λq=>absurd hv q⟩
 exact qXJ hz hl ⟨v2,v3,v4,v5,v6,v7,rfl,FLfz z.L⟩ ⟨w1,w2,w3,w4,rfl,WLfz z.Wl⟩ (λhv s1 k1 _=>main _ _ [] k1 nilB ⟨λq=>absurd q hv,λ_=>rfl⟩) λhv v' s1 k1 h1 _=>main _ _ _ k1 h1 ⟨λ_=>rfl,λq=>absurd hv q⟩
theorem zAAG{C:AV->Hq->Prop}(hm:FW.Sml F)(hz:Sz F)(z:ArS t F W v2 v3 v4 v5 v6 v7 w1 w2 w3 w4 b0 b2)(hK:∀s',Sub t s'->C (.bool true) s'):
  wC TP XX 26 [.agg (csG F v2 v3 v4 v5 v6 v7),.agg [w1,w2,w3,w4],.int .i64 sg] (λv_31 s_32=>(∀b,t b≠none->t b=none->s_32 b=none)->oK (rdN (cutH [(t,(add t s_32))] (add t s_32)) 19 (.ptr b0 0)) λv_33=>oK (rdN (cutH [(t,(add t s_32))] (add t s_32)) 4 (.ptr b2 0)) λv_34=>wC TP XX 36 [(.agg v_33),(.agg v_34),.int .i64 sg] (λv_35 s_36=>wC TP XX 24 [v_31,v_35] C s_36) (add t s_32)) (AM.frz t):=by
 have h20:∀x∈F.S,x.1.length<=100000:=λx hx=>by have:=hm.N x hx;omega
 have main:∀(v:AV) (s1:Hq) (L:List Int),Sub (AM.frz t) s1->Sl s1 v (ix L)->MmV F W sg L->oK (rdN (cutH [(t,(add t s1))] (add t s1)) 19 (.ptr b0 0)) λv_33=>oK (rdN (cutH [(t,(add t s1))] (add t s1)) 4 (.ptr b2 0)) λv_34=>wC TP XX 36 [(.agg v_33),(.agg v_34),.int .i64 sg] (λv_35 s_36=>wC TP XX 24 [v,v_35] C s_36) (add t s1):=λv s1 L k1 h1 hL=>by
  have kc:Sub t (cutH [(t,(add t s1))] (add t s1)):=FC.cut1 (.refl t);refine qAA (qAS (kc _ _ z.h6) rfl) (qAA (qAS (kc _ _ z.h12) rfl) ?_);have ka:Sub t (add t s1):=qGw;have h1':=h1.addf k1;generalize add t s1=T at ka h1';have zT:=z.sub ka;have two:∀(v':AV) (s2:Hq) (L':List Int),Sub T s2->Sl s2 v' (ix L')->MmV F W sg L'->wC TP XX 24 [v,v'] C s2:=λv' s2 L' k2 h2 hL'=>by
   have:=hL.uniq hL';subst this;refine qOa (h1'.sub k2) h2 ?_ (hK _ (ka.trans k2))
   by_cases hv:Valid F
   ·rw[hL.1 hv]
    unfold mems;split
    ·split
     ·rename_i g hg
      exact Nat.le_trans (List.length_filter_le _ _) (h20 g (mG hg))
     ·simp
    ·simp
   ·rw[hL.2 hv];simp
  exact qOl hz h20 zT.fb zT.wr (λhv s2 k2=>two _ _ [] k2 nilA ⟨λq=>absurd q hv,λ_=>rfl⟩) λhv v' s2 k2 h2=>two _ _ _ k2 h2 ⟨λ_=>rfl,λq=>absurd hv q⟩
 exact qTo hz ⟨v2,v3,v4,v5,v6,v7,rfl,FLfz z.L⟩ ⟨w1,w2,w3,w4,rfl,WLfz z.Wl⟩ (λhv s1 k1 _=>main _ _ [] k1 nilA ⟨λq=>absurd q hv,λ_=>rfl⟩) λhv v' s1 k1 h1 _=>main _ _ _ k1 h1 ⟨λ_=>rfl,λq=>absurd hv q⟩
theorem qZ4{C:AV->Hq->Prop}(hm:FW.Sml F)(hz:Sz F)(z:ArS t F W v2 v3 v4 v5 v6 v7 w1 w2 w3 w4 b0 b2)(hK:∀s',Sub t s'->C (.bool true) s'):
  wC TP XX 23 [.agg (csG F v2 v3 v4 v5 v6 v7),.agg [w1,w2,w3,w4],.int .i64 l] (λv_31 s_32=>(∀b,t b≠none->t b=none->s_32 b=none)->oK (rdN (cutH [(t,(add t s_32))] (add t s_32)) 19 (.ptr b0 0)) λv_33=>oK (rdN (cutH [(t,(add t s_32))] (add t s_32)) 4 (.ptr b2 0)) λv_34=>wC TP XX 37 [(.agg v_33),(.agg v_34),.int .i64 l] (λv_35 s_36=>wC TP XX 24 [v_31,v_35] C s_36) (add t s_32)) (AM.frz t):=by
 have hl:F.L.length<=100000:=by have:=hm.L;omega
 have main:∀(v:AV) (s1:Hq) (L:List Int),Sub (AM.frz t) s1->Sl s1 v (ix L)->ArV F W l L->oK (rdN (cutH [(t,(add t s1))] (add t s1)) 19 (.ptr b0 0)) λv_33=>oK (rdN (cutH [(t,(add t s1))] (add t s1)) 4 (.ptr b2 0)) λv_34=>wC TP XX 37 [(.agg v_33),(.agg v_34),.int .i64 l] (λv_35 s_36=>wC TP XX 24 [v,v_35] C s_36) (add t s1):=λv s1 L k1 h1 hL=>by
  have kc:Sub t (cutH [(t,(add t s1))] (add t s1)):=FC.cut1 (.refl t);refine qAA (qAS (kc _ _ z.h6) rfl) (qAA (qAS (kc _ _ z.h12) rfl) ?_);have ka:Sub t (add t s1):=qGw;have h1':=h1.addf k1;generalize add t s1=T at ka h1';have zT:=z.sub ka;have two:∀(v':AV) (s2:Hq) (L':List Int),Sub T s2->Sl s2 v' (ix L')->ArV F W l L'->wC TP XX 24 [v,v'] C s2:=λv' s2 L' k2 h2 hL'=>by
   have:=hL.uniq hL';subst this;refine qOa (h1'.sub k2) h2 ?_ (hK _ (ka.trans k2))
   by_cases hv:Valid F
   ·exact zADZ (qRW hv) (hL.1 hv)
   ·rw[hL.2 hv];simp
  exact zAAT hz hl zT.fb zT.wr (λhv s2 k2=>two _ _ [] k2 nilA ⟨λq=>absurd q hv,λ_=>rfl⟩) λhv v' s2 ar k2 h2 har=>two _ _ _ k2 h2 ⟨λ_=>har,λq=>absurd hv q⟩
 exact qZC hz ⟨v2,v3,v4,v5,v6,v7,rfl,FLfz z.L⟩ ⟨w1,w2,w3,w4,rfl,WLfz z.Wl⟩ (λhv s1 k1 _=>main _ _ [] k1 nilA ⟨λq=>absurd q hv,λ_=>rfl⟩) λhv v' s1 ar k1 h1 har _=>main _ _ _ k1 h1 ⟨λ_=>har,λq=>absurd hv q⟩
theorem OPa_in{a1 a2 a3:Int}(hI:∀x∈F.H,0<=x.2.1/\x.2.1<4294967296)(hS:F.S.length<=9223372036854775807)(hF:FabR s cs F)(hW:WR s ws W)(hK:∀s',K (.bool true) s'):wC TP XX 7 [.agg cs,.agg ws,.int .i64 a1,.int .i64 a2,.int .i64 a3,.agg (FC.frC x)] K s:=by
 obtain⟨v2,v3,v4,v5,v6,v7,rfl,hL⟩:=hF;obtain⟨w1,w2,w3,w4,rfl,hw⟩:=hW;refine qEd (boxN hL.all λb0 s1 hb0 g1 u1=>boxN hw.all λb2 s3 hb2 g3 u3=>boxN rfl λb4 s5 hb4 g5 u5=>?_);have k1:=u1.sub hb0;have k3:=u3.sub hb2;have k5:=u5.sub hb4;have k15:=k1.trans (k3.trans k5);have z5:ArS s5 F W v2 v3 v4 v5 v6 v7 w1 w2 w3 w4 b0 b2:=⟨k5 _ _ (k3 _ _ g1),k5 _ _ g3,hL.sub k15,hw.sub k15⟩
 have g5:s5 b4=some (false,.cells 48 (FC.frC x)):=g5;have stop:∀{t':Hq}{t19 t21:AV},qAO t19 (.bool true) t21=some (.bool true)->qAt XX (.int .i64 a1) (.int .i64 a2) (.int .i64 a3) (.ptr b0 0) (.ptr b2 0) (.ptr b4 0) t19 t21 K t':=fun {t' t19 t21} e=>by unfold qAt;refine qAA e ?_;rw[qAE];exact qWe (.inr rfl) (hK _)
 refine qAA (qAS z5.h6 rfl) (FW.zACB hS z5.fb λvb s8 k8 hm=>?_);cases vb with
 |true=>rw[qAE];exact stop rfl
 |false=>
 have hm:=hm rfl;have hz:=zAEr hm hI;have zm:SmS F:=λx hx=>by have:=hm.N x hx;omega
 have hl1:∀y∈F.S,y.1.length<=100000:=λx hx=>by have:=hm.N x hx;omega
 have hl2:∀y∈F.S,y.2.length<=100000:=λx hx=>by have:=hm.N x hx;omega
 have z8:=z5.sub k8;rw[qAD];refine qAA (qAS z8.h12 rfl) (qP2 z8.wr λmb s9 k9=>?_);cases mb with
 |true=>exact stop rfl
 |false=>
 have z9:=z8.sub k9;have g9:=(k8.trans k9) _ _ g5;unfold qAt;refine qAA (a:=.bool false) rfl ?_;rw[qAD];refine qAA (qAS z9.h6 rfl) (qAA (qAS z9.h12 rfl) (qAA (qAS g9 rfl) ?_));refine qXB hz z9.fb z9.wr λo s16 k16 q1 q2=>?_;have z16:=z9.sub k16;have g16:=k16 _ _ g9;refine qAA (a:=.int .i64 (o.getD 0)) rfl (qAA (a:=.bool o.isSome) rfl ?_);refine qAA (qAS z16.h6 rfl) (qAA (qAS z16.h12 rfl) (qAA (qAS g16 rfl) ?_));refine qWo hz zm hl1 hl2 z16.fb z16.wr λo' s23 k23 q1' q2'=>?_;have eo:o'=o:=by
  by_cases hv:Valid F
  ·rw[q1 hv,q1' hv]
  ·rw[q2 hv,q2' hv]
 subst eo;have z23:=z16.sub k23;refine qAA (a:=.int .i64 (o'.getD 0)) rfl (qAA (a:=.bool o'.isSome) rfl ?_);simp only[qAZ,beq_self_eq_true,qAY,Bool.true_bne,Bool.not_true,qAB];rw[qAD];refine qAA (eqBB rfl) ?_;unfold qBd;refine qAA (a:=.bool false) rfl ?_;rw[qAD];refine qAA (qAS z23.h6 rfl) ?_;refine zABT hz ⟨v2,v3,v4,v5,v6,v7,rfl,FLfz z23.L⟩ λf1 s93 k93 r1 r2=>?_;intro _;have kc:Sub s23 (cutH [(s23,(add s23 s93))] (add s23 s93)):=FC.cut1 (.refl s23);refine qAA (qAS (kc _ _ z23.h6) rfl) ?_;have ka:Sub s23 (add s23 s93):=qGw;generalize add s23 s93=T at ka;have zT:=z23.sub ka;refine zABX hz zT.fb λf2 s96 k96 r1' r2'=>?_;have ef:f2=f1:=by
  by_cases hv:Valid F
  ·rw[r1 hv,r1' hv]
  ·rw[r2 hv,r2' hv]
 subst ef;have z96:=zT.sub k96;rw[show qGP TP 48 (.agg (FC.frC f2)) (.agg (FC.frC f2))=some true from SG.qWH (by kernel_rfl)];refine qAA (a:=.bool false) rfl (qAA (a:=.bool false) rfl ?_);rw[qAD];refine qAA (qAS z96.h6 rfl) (qAA (qAS z96.h12 rfl) ?_);refine qWX hm hz z96 (λv s' _ h e=>by rw[e];exact h) λs108 k108=>?_;have z108:=z96.sub k108;rw[qAE];refine qAA (qAS z108.h6 rfl) (qAA (qAS z108.h12 rfl) ?_);refine zAAG hm hz z108 λs118 k118=>?_;have z118:=z108.sub k118;refine qAA (a:=.bool true) rfl ?_;rw[qAE];refine qAA (qAS z118.h6 rfl) (qAA (qAS z118.h12 rfl) ?_);refine qZ4 hm hz z118 λs129 k129=>?_;refine qAA (a:=.bool true) rfl ?_;rw[qAE];exact qWe (.inr rfl) (qAA (a:=.bool true) rfl (hK _))
theorem argl6{P:Program}{d:Nat}{t u w y z r:TypeId}{xs:List AV}(h:ArgL P s d [t,u,w,y,z,r] xs):∃a b c e f g,xs=[a,b,c,e,f,g]/\Arg P s d t a/\Arg P s d u b/\Arg P s d w c/\Arg P s d y e/\Arg P s d z f/\Arg P s d r g:=by
 match xs,h with
 |[a,b,c,e,f,g],⟨h1,h2,h3,h4,h5,h6,_⟩=>exact⟨a,b,c,e,f,g,rfl,h1,h2,h3,h4,h5,h6⟩
end Go.AM.OR
namespace Go.AM
open Go Go.Proofs
theorem OPa_wp(s:Hq)(xs:List AV)(h:ArgL TP s 40 [31,36,3,3,3,48] xs):wC TP XX 7 xs (λv _=>v=.bool true) s:=by obtain⟨a,b,c,e,f,g,rfl,h1,h2,h3,h4,h5,h6⟩:=OR.argl6 h;obtain⟨cs,F,rfl,hF,hS,hI⟩:=FW.zACL h1;obtain⟨ws,W,rfl,hW⟩:=OR.arg_wor h2;obtain⟨a1,rfl,_⟩:=qTm (d:=39) Tryz.underlying3 h3;obtain⟨a2,rfl,_⟩:=qTm (d:=39) Tryz.underlying3 h4;obtain⟨a3,rfl,_⟩:=qTm (d:=39) Tryz.underlying3 h5;obtain⟨x,rfl⟩:=OR.arg_frame h6;exact OR.OPa_in hI hS hF hW λ_=>rfl
end Go.AM
