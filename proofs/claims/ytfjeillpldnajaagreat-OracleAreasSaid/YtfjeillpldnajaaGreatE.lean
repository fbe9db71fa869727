/- Part E of the proof: see the last part. -/
import Derived.Test.YtfjeillpldnajaaGreatU2
import Derived.Test.YtfjeillpldnajaaGreatV2
import Derived.Test.YtfjeillpldnajaaGreatC
set_option linter.unusedVariables false
namespace Go.AM.SG
open Go Go.AM
theorem zACb(n:Int):qBq .u64 n=n % 18446744073709551616:=by simp only[qBq];rw[qHU _ _ _ (by omega) (by omega)];split<;>omega
theorem zABP{n:Nat}(h:n<18446744073709551616):qBq .u64 (n:Int)=n:=by rw[zACb,Int.emod_eq_of_lt (by omega) (by omega)]
theorem qYO{a:Nat}(h:a<256):qEC .u64 (.int .u8 (a:Int))=some (.int .u64 (a:Int)):=by show some (AV.int .u64 (qBq .u64 (a:Int)))=_;rw[zABP (by omega)]
end Go.AM.SG
namespace Go.AM.SG
open Go Go.AM Go.Proofs
section
variable (P : Program)
def cFs(df:TypeId->AV->AV->Bool)(xs ys:List AV):List Field->Bool
 |[]=>true
 | f::fs=>cond (f.name == "_") (cFs df xs ys fs) (match qEV P f.type xs f.offset,qEV P f.type ys f.offset with
   |some x,some y=>df f.type x y&&cFs df xs ys fs
   |_,_=>false)
def cEls(df:TypeId->AV->AV->Bool)(elem:TypeId)(n:Nat)(xs ys:List AV):Nat->Nat->Bool
 | 0,_=>true
 | len+1,i=>match qEV P elem xs (i*n),qEV P elem ys (i*n)with
   |some x,some y=>df elem x y&&cEls df elem n xs ys len (i+1)
   |_,_=>false
def cDef:Nat->TypeId->AV->AV->Bool
 | 0,_,_,_=>false
 | d+1,t,x,y=>match P.underlying t,x,y with
   |some .bool,.bool _,.bool _=>true
   |some (.int _),.int k _,.int k' _=>qB7 k k'
   |some (.struct fields),.agg xs,.agg ys=>cond (P.stoodInHeld t) false (cFs P (cDef d) xs ys fields.toList)
   | some (.array len elem),.agg xs,.agg ys=>match sz P elem with
     |some n=>cEls P (cDef d) elem n xs ys len 0
     |none=>false
   |_,_,_=>false
variable {P}
theorem qUW{eq:TypeId->AV->AV->Option Bool}{df:TypeId->AV->AV->Bool}(h:∀t x y,df t x y=true->∃b,eq t x y=some b/\(x=y->b=true)){xs ys:List AV}:∀{fs:List Field},cFs P df xs ys fs=true->∃b,eqFields P eq xs ys fs=some b/\(xs=ys->b=true)
 |[],_=>⟨true,rfl,λ_=>rfl⟩
 | f::fs,q=>by
   unfold cFs at q;unfold eqFields;cases c:(f.name == "_")with
   |true=>rw[c]at q;exact qUW h q
   | false=>
     rw[c]at q;simp only[cond_false]at q ⊢;cases e:qEV P f.type xs f.offset with
     |none=>rw[e]at q;cases q
     | some x=>
       cases e2:qEV P f.type ys f.offset with
       |none=>rw[e,e2]at q;cases q
       | some y=>
         rw[e,e2]at q;simp only[Bool.and_eq_true]at q;obtain⟨b,h1,h2⟩:=h _ _ _ q.1;simp only[h1];have hxy:xs=ys->x=y:=λw=>by subst w;rw[e]at e2;exact Option.some.inj e2
         cases b with
         |true=>exact qUW h q.2
         |false=>exact⟨false,rfl,λw=>h2 (hxy w)⟩
theorem qVy{eq:TypeId->AV->AV->Option Bool}{df:TypeId->AV->AV->Bool}(h:∀t x y,df t x y=true->∃b,eq t x y=some b/\(x=y->b=true)){elem:TypeId}{n:Nat}{xs ys:List AV}:∀{len i:Nat},cEls P df elem n xs ys len i=true->∃b,qJR P eq elem n xs ys len i=some b/\(xs=ys->b=true)
 | 0,_,_=>⟨true,rfl,λ_=>rfl⟩
 | len+1,i,q=>by
   unfold cEls at q;unfold qJR;cases e:qEV P elem xs (i*n)with
   |none=>rw[e]at q;cases q
   | some x=>
     cases e2:qEV P elem ys (i*n)with
     |none=>rw[e,e2]at q;cases q
     | some y=>
       rw[e,e2]at q;simp only[Bool.and_eq_true]at q;obtain⟨b,h1,h2⟩:=h _ _ _ q.1;simp only[h1];have hxy:xs=ys->x=y:=λw=>by subst w;rw[e]at e2;exact Option.some.inj e2
       cases b with
       |true=>exact qVy h q.2
       |false=>exact⟨false,rfl,λw=>h2 (hxy w)⟩
theorem qQg:∀(d:Nat) (t:TypeId) (x y:AV),cDef P d t x y=true->∃b,aEq P d t x y=some b/\(x=y->b=true)
 | 0,_,_,_,h=>by cases h
 | d+1,t,x,y,h=>by
   unfold cDef at h;unfold aEq;split at h
   ·rename_i a b hu
    rw[hu];exact⟨_,rfl,λe=>by cases e;simp⟩
   ·rename_i k0 k a k' b hu
    rw[hu];simp only[h,cond_true];exact⟨_,rfl,λe=>by cases e;rw[qD5];simp⟩
   ·rename_i fields xs ys hu
    rw[hu];simp only;cases c:P.stoodInHeld t with
    |true=>rw[c]at h;cases h
    | false=>
      rw[c]at h;simp only[cond_false]at h ⊢;obtain⟨b,h1,h2⟩:=qUW (qQg d) h;exact⟨b,h1,λe=>h2 (by cases e;rfl)⟩
   ·rename_i len elem xs ys hu
    rw[hu];simp only;cases c:sz P elem with
    |none=>rw[c]at h;cases h
    | some n=>
      rw[c]at h;simp only at h ⊢;obtain⟨b,h1,h2⟩:=qVy (qQg d) h;exact⟨b,h1,λe=>h2 (by cases e;rfl)⟩
   ·cases h
theorem qUP{t:TypeId}{xs ys:List AV}(h:cDef P 30 t (.agg xs) (.agg ys)=true):∃b,qGg P t (.agg xs) (.agg ys)=some b/\(xs=ys->b=true):=by obtain⟨b,h1,h2⟩:=qQg 30 t _ _ h;exact⟨b,h1,λe=>h2 (by rw[e])⟩
theorem qTe{t:TypeId}{xs:List AV}(h:cDef P 30 t (.agg xs) (.agg xs)=true):qGg P t (.agg xs) (.agg xs)=some true:=by obtain⟨b,h1,h2⟩:=qUP h;rw[h1,h2 rfl]
end
abbrev us(l:List Int):List AV:=l.map (AV.int .u32)
theorem qA6{s s':Hq}(k:Sub s s'){b:Nat}(h:s' b=none):s b=none:=by
 cases q:s b with
 |none=>rfl
 |some y=>rw[k _ _ q]at h;cases h
end Go.AM.SG
set_option maxRecDepth 100000
namespace Go.AM.FC
open Go Go.Proofs
variable {K:AV→Hq→Prop} {s s0:Hq} {v:AV} {l:List Int}
def xorW(x y:Int):Int:=qBq .u32 ((BitVec.ofInt (IntKind.bits .u32) x ^^^ BitVec.ofInt (IntKind.bits .u32) y).toNat:Nat)
theorem qSe{x y:Int}:qAG .xor (.int .u32 x) (.int .u32 y)=some (.int .u32 (xorW x y)):=by simp[qAG,arith,qCO,xorW]
def hs1(h b:Int):Int:=IntKind.u32.wrap (xorW h (qBq .u32 b)*16777619)
def hsh:Int->List Int->Int
 |h,[]=>h
 |h,b::r=>hsh (hs1 h b) r
theorem qZL(h:Int):∀(a b:List Int),hsh h (a++b)=hsh (hsh h a) b:=by
 intro a
 induction a generalizing h with
 |nil=>intro b;rfl
 |cons x r ih=>intro b;exact ih (hs1 h x) b
theorem qWx{h:Int}{i:Nat}(hi:i<l.length):hsh h (l.take (i+1))=hs1 (hsh h (l.take i)) l[i]:=by rw[List.take_add_one,gE hi,qZL];rfl
theorem cvI{k k':IntKind}{n:Int}:qEC k (.int k' n)=some (.int k (qBq k n)):=rfl
def numB(v:Int):Nat->List Int
 | 0=>[]
 |n+1=>qBq .u8 (v.fdiv ((2^(8*n):Nat):Int))::numB v n
theorem qEx(v:Int):∀n,(numB v n).length=n
 | 0=>rfl
 |n+1=>by rw[numB,List.length_cons,qEx v n]
theorem zACE{v:Int}{m:Nat}(hm:m<=64):qGn .shr (.int .u64 v) (.int .i64 (m:Int))=some (.int .u64 (v.fdiv ((2^m:Nat):Int))):=by show frc (v.fdiv ((2^(min m (IntKind.bits .u64)):Nat):Int)) (λn=>some (AV.int .u64 n))=_;rw[qCO,Nat.min_eq_left (show m<=IntKind.bits .u64 from hm)]
abbrev b8(l:List Int):List AV:=l.map (AV.int .u8)
theorem qZh{elem:TypeId}{s0 s s':Hq}{l:List AV}(h:Acc elem s0 s v l)(hs:Sub s s'):Acc elem s0 s' v l:=by
 rcases h with h|⟨b,h0,rfl,h⟩
 ·exact .inl h
 ·exact .inr ⟨b,h0,rfl,hs _ _ h⟩
theorem qT4{elem:TypeId}:Acc elem s0 s .nilslc (b8 []):=.inl ⟨rfl,rfl⟩
theorem qY0{z:AV}{x:Int}{C:AV->Hq->Prop}(hz:z.one=true)(h:Acc 5 s0 s v (b8 l))(hs:Sub s0 s)(hl:l.length<=1000)(hK:∀v' s',Acc 5 s0 s' v' (b8 (l ++ [x]))->Sub s0 s'->C v' s'):
  oK (qAl (repl 1 [z]) [(0,1,.int .u8 x)]) λc=>qAa c=true/\newK 5 c (λb s'=>appK 5 1 v (.slc b 0 1 (some 1) 1) C s') s:=by
 refine qDy hz rfl λb s1 hb h1 u1=>?_;have k1:=hs.trans (u1.sub hb);refine(qZh h (u1.sub hb)).app (m:=[.int .u8 x]) (Sl.mk h1 rfl (by simp)) (by simp) (by simp;omega) (λi hi=>?_) λv' s' a k=>?_
 ·cases e:s0 i with
  |none=>exact absurd e hi
  |some y=>rw[k1 _ _ e];simp
 ·refine hK v' s' (by rw[b8,List.map_append];exact a) λi e hi=>k i e (k1 i e hi) λb' hv=>?_
  rintro rfl;rcases h with⟨rfl,_⟩|⟨b2,h0,rfl,_⟩
  ·cases hv
  ·cases hv
   rw[h0]at hi;cases hi
theorem qKx{n:Int}{k:Nat}(hk:k<=8)(h:Acc 5 s0 s v (b8 l))(hs:Sub s0 s)(hl:l.length<=500)(hK:∀v' s',Acc 5 s0 s' v' (b8 (l++numB n k))->Sub s0 s'->K v' s'):wC TP XX 112 [v,.int .u64 n,.int .i64 (k:Int)] K s:=by
 refine qMS ?_;simp only[qK2,qDY,qAB];rw[qAb (by omega) (by omega)];refine⟨λys t m=>∃(w:AV) (l1:List Int) (j:Nat),ys=[w,.int .i64 ((j:Int)-1)]/\Acc 5 s0 t w (b8 l1)/\Sub s0 t/\j<=k/\m=j/\l1.length+j=l.length+k/\l++numB n k=l1++numB n j,⟨_,v,l,k,rfl,h,hs,by omega,rfl,rfl,rfl⟩,?_⟩;rintro f t m ⟨w,l1,j,hy,h1,k1,hj,rfl,he,hq⟩;simp only[cI,and_true]at hy;rw[hy.1,hy.2];simp only[qIW,qBV,qAB];refine qAJ (λhge=>?_) (λhlt=>?_)
 ·have hge:0<=(m:Int)-1:=oT hge
  obtain⟨j,rfl⟩:∃j,m=j+1:=⟨m-1,by omega⟩
  have e8:(8:Int)*(((j+1:Nat):Int)-1)=((8*j:Nat):Int):=by omega
  simp only[qPZ,qAB];rw[qAb (by omega) (by omega),e8,zACE (by omega)];simp only[cvI,qAB];refine qY0 rfl h1 k1 (by omega) λv' s' a q=>?_;simp only[qDY,qAB];rw[qAb (by omega) (by omega)];exact⟨j,by omega,_,_,j,by congr 3;omega,a,q,by omega,rfl,by simp;omega,by rw[hq,numB,List.append_assoc];rfl⟩
 ·have hlt:¬(0<=(m:Int)-1):=oF hlt
  have:m=0:=by omega
  subst this;refine hK _ _ ?_ k1;rw[hq];simpa [numB]using h1
theorem qZW(h:Sl s v (b8 l))(hl:l.length<=1000)(hK:K (.int .u32 (hsh 2166136261 l)) s):wC TP XX 113 [v] K s:=by
 refine qGi ?_;unfold qET;have n1:qAQ v=some l.length:=by rw[h.len,lM]
 simp only[n1,qAB];refine⟨λys t m=>∃i:Nat,ys=[.int .u32 (hsh 2166136261 (l.take i)),.int .i64 (i:Int)]/\t=s/\i<=l.length/\m=l.length-i,⟨_,0,rfl,rfl,by omega,rfl⟩,?_⟩;rintro f t m ⟨i,hy,rfl,hi,rfl⟩;simp only[cI,and_true]at hy;rw[hy.1,hy.2];simp only[qDn,qAP,qAB];refine qAJ (λhlt=>?_) (λhge=>?_)
 ·have hlt:i<l.length:=by have:=oT hlt;omega
  obtain⟨p,e1,e2⟩:=h.get (i:=i) (by rw[lM];exact hlt);rw[List.getElem?_map,gE hlt]at e2;simp only[e1,e2,Option.map_some,cvI,qSe,qPZ,qAN,qAB];rw[qAb (by omega) (by omega)];exact⟨_,by omega,i+1,by rw[qWx hlt];rfl,(by trivial),by omega,rfl⟩
 ·have hge:i=l.length:=by have:=oF hge;omega
  subst hge;rw[List.take_length];exact hK
end Go.AM.FC
set_option maxRecDepth 100000
namespace Go.AM.FC
open Go Go.Proofs Go.AM.TN
variable {K:AV→Hq→Prop} {s s' s0 U:Hq} {v:AV} {l:List Int}
theorem fill_one{zs c:List AV}(h:c.length=zs.length):qAl (repl 1 zs) [(0,zs.length,.agg c)]=some c:=by
 have e0:repl 1 zs=zs:=by simp[repl]
 rw[e0];have e2:Nat.beq c.length zs.length=true:=by rw[h];exact Nat.beq_refl _
 have e3:Nat.ble (0+c.length) zs.length=true:=bL (by omega);simp only[qAl,qFW,e2,e3,Bool.and_self,cond_true];unfold qBI;rw[List.take_zero,List.nil_append,List.drop_eq_nil_of_le (by omega),List.append_nil]
theorem one_row{es:Nat}{e:TypeId}{b:Nat}{t:Bool}{r:List AV}(h:s b=some (t,.cells e r))(hl:r.length=es):SlR es s (.slc b 0 1 (some 1) es) [r]:=
 SlR.mk (λx hx=>by rw[List.mem_singleton.1 hx];exact hl) (by simpa using h) rfl (λc e=>by cases e;simp)
theorem cut1(h:Sub s0 s):Sub s0 (cutH [(s,add s U)] (add s U)):=λi e hi=>qLU (h i e hi) (qBt (h i e hi))
structure Fr where
 src:Int
 dst:Int
 kind:Int
 a3:Int
 a4:Int
 a5:Int
 a6:Int
 a7:Int
 hs:Int
 hd:Int
 a10:Int
 pr:Int
 p1:Int
 p2:Int
 data:Int
def frC(x:Fr):List AV:=[.int .u64 x.src,.int .u64 x.dst,.int .i64 x.kind,.int .i64 x.a3,.int .u64 x.a4,.int .u32 x.a5,.int .u64 x.a6,.int .u32 x.a7,.int .u32 x.hs,.int .u32 x.hd,.int .i64 x.a10,.int .i64 x.pr,.int .i64 x.p1,.int .i64 x.p2,.int .u64 x.data]
def flwI(x:Fr):List Int:=numB (qBq .u64 x.hs) 4++numB (qBq .u64 x.hd) 4++numB (qBq .u64 x.pr) 1++numB (qBq .u64 x.p1) 2++numB (qBq .u64 x.p2) 2
def flwE(x:Fr):List Int:=numB x.src 6++numB x.dst 6++numB (qBq .u64 x.kind) 1
def flw(x:Fr):List Int:=if x.kind=2 then flwI x else flwE x
theorem qW7(x:Fr):(flwI x).length=13:=by simp only[flwI,lAp,qEx]
theorem qXb(x:Fr):(flwE x).length=13:=by simp only[flwE,lAp,qEx]
def ent(x:Fr):Int:=IntKind.i64.wrap (49152+qBq .i64 ((hsh 2166136261 (flw x)).tmod 16384))
variable {x:Fr}
theorem qTn{X:AV->Hq->Prop}(hf:Acc 5 s0 s v (b8 (flw x)))(hl:(flw x).length<=1000)(hX:X (.int .i64 (ent x)) s):qBo XX v X s:=by unfold qBo;refine qZW hf.sl hl ?_;simp only[qH8 (show(16384:Int)≠0 by decide),cvI,qAN,qAB];exact hX
theorem qUi(x:Fr):(flw x).length=13:=by unfold flw;split;exact qW7 x;exact qXb x
theorem Entropy_in(hK:∀s',Sub s s'->K (.int .i64 (ent x)) s'):wC TP XX 88 [.agg (frC x)] K s:=by
 refine qJV ⟨rfl,qAM λb s1 hb h1 u1=>?_⟩;have k1:=u1.sub hb;have h1:s1 b=some (false,.cells 48 (frC x)):=h1;have r2:rd1 s1 (.ptr b 2)=some (.int .i64 x.kind):=by rw[qAK h1];rfl
 simp only[qAI,zAY,qAB,r2,qAX,qAV,Bool.false_bne];cases q:(x.kind == 2)with
 | true=>
   have q:x.kind=2:=eq_of_beq q;simp only[qAF];refine qAA (a:=[.int .u32 x.hs,.int .u32 x.hd,.int .i64 x.a10,.int .i64 x.pr,.int .i64 x.p1,.int .i64 x.p2]) (by simp only[rdN,h1];rfl) (qAM λc s13 hc h13 u13=>qAT h13 rfl rfl rfl λs14 h14 u14=>?_);have k14:Sub s1 s14:=qAW (u13.sub hc) u14 hc;have rd:∀{t:Hq},Sub s14 t->∀i,rd1 t (.ptr c i)=[AV.int .u32 x.hs,.int .u32 x.hd,.int .i64 x.a10,.int .i64 x.pr,.int .i64 x.p1,.int .i64 x.p2][i]?:=λk i=>qAK (k _ _ h14);have g:∀{t:Hq}{w:AV}{l:List Int},Acc 5 s14 t w (b8 l)->Sub s14 t->flw x=l->qBo XX w K t:=fun {t w l} a k e=>by subst e;exact qTn a (by rw[qUi];omega) (hK _ (k1.trans (k14.trans k)))
   simp only[qAB,rd (.refl _),g0Y,cvI];refine qKx (k:=4) (by omega) qT4 (.refl _) (by simp) λw4 s4 a4 k4=>?_;simp only[qAB,rd k4,g1Y,g0Y,cvI];refine qKx (k:=4) (by omega) a4 k4 (by simp[qEx]) λw5 s5 a5 k5=>?_;simp only[qAB,rd k5,g1Y,g0Y,cvI];refine qKx (k:=1) (by omega) a5 k5 (by simp[qEx]) λw6 s6 a6 k6=>?_;simp only[qAB,rd k6,g1Y,g0Y,cvI];refine qKx (k:=2) (by omega) a6 k6 (by simp[qEx]) λw7 s7 a7 k7=>?_;simp only[qAB,rd k7,g1Y,g0Y,cvI];refine qKx (k:=2) (by omega) a7 k7 (by simp[qEx]) λw8 s8 a8 k8=>?_;exact g a8 k8 (by unfold flw;rw[if_pos q];rfl)
 | false=>
   have q:¬x.kind=2:=by simpa using q
   simp only[qAD];have rd:∀{t:Hq},Sub s1 t->∀i,rd1 t (.ptr b i)=(frC x)[i]?:=λk i=>qAK (k _ _ h1);have g:∀{t:Hq}{w:AV}{l:List Int},Acc 5 s1 t w (b8 l)->Sub s1 t->flw x=l->qBo XX w K t:=fun {t w l} a k e=>by subst e;exact qTn a (by rw[qUi];omega) (hK _ (k1.trans k))
   simp only[qAB,rd (.refl _),frC,g0Y];refine qKx (k:=6) (by omega) qT4 (.refl _) (by simp) λw4 s4 a4 k4=>?_;simp only[qAB,rd k4,frC,g1Y,g0Y];refine qKx (k:=6) (by omega) a4 k4 (by simp[qEx]) λw5 s5 a5 k5=>?_;simp only[qAB,rd k5,frC,g1Y,g0Y,cvI];refine qKx (k:=1) (by omega) a5 k5 (by simp[qEx]) λw6 s6 a6 k6=>?_;exact g a6 k6 (by unfold flw;rw[if_neg q];rfl)
end Go.AM.FC
namespace Go.AM.OR
open Go.AM.TN
def fst(p:Nat->Bool)(k:Nat):Option Nat:=(List.range k).find? p
theorem qOS{p:Nat->Bool}{k:Nat}:fst p (k+1)=(fst p k).or (if p k=true then some k else none):=by
 unfold fst;rw[List.range_succ,List.find?_append]
 congr 1
 cases h:p k<;>simp[h]
theorem qLR{p:Nat->Bool}{k i:Nat}(h:fst p k=some i):p i=true/\i<k:=by unfold fst at h;exact⟨List.find?_some h,List.mem_range.1 (List.mem_of_find?_eq_some h)⟩
theorem qVq{p:Nat->Bool}{k i:Nat}(h:fst p i=none)(hp:p i=true)(hi:i<k):fst p k=some i:=by
 have h1:fst p (i+1)=some i:=by rw[qOS,h,hp];rfl
 clear h hp
 induction k with
 |zero=>omega
 | succ k ih=>
   by_cases e:i=k
   ·subst e;exact h1
   ·rw[qOS,ih (by omega)];rfl
theorem qOt{p:Nat->Bool}{i:Nat}(h:fst p i=none)(hp:p i=false):fst p (i+1)=none:=by rw[qOS,h,hp];rfl
abbrev GWM:Int:=1577058561
abbrev BCM:Int:=281474976710655
abbrev Lnd:=Int×Int×FC.Fr
structure Aq where
 F:FG
 W:WG
 ar:List Int
 hd:List Hd
 h:R4
 sg:Int
 x:FC.Fr
variable (A : Aq)
def bdA(F:FG)(i:Int):BG:=(F.B[i.toNat]?).getD (0,0,0,0,0,0)
def Aq.d:BG:=bdA A.F A.h.2.2.1
def Aq.gw:Int:=A.d.2.2.2.2.2
def Aq.tn:Int:=A.d.1
def Aq.req:Bool:=(A.x.kind == 1)&&(A.x.a3 == 1)
def qNQ(x:FC.Fr)(m:Int):FC.Fr:=⟨m,x.a4,1,2,m,x.a7,x.a4,x.a5,0,0,0,0,0,0,0⟩
def Aq.ans(m:Int):List Lnd:=[(A.sg,A.h.2.2.1,qNQ A.x m)]
def Aq.rGate:Option (List Lnd):=if(A.req&&(A.gw != 0&&(A.x.a7 == A.gw)))=true then some (A.ans GWM)else none
def Aq.supP(i:Nat):Bool:=match A.F.H[i]? with
 |some y=>(y.2.2.1 == A.h.2.2.1)&&((y.2.1 == A.x.a7)&&knw A.F A.W A.ar A.hd (i:Int) true)
 |none=>false
def macA(F:FG)(i:Nat):Int:=match F.H[i]? with
 |some y=>y.1
 |none=>0
def bdH(F:FG)(i:Nat):Int:=match F.H[i]? with
 |some y=>y.2.2.1
 |none=>0
def Aq.rSup:Option (List Lnd):=if(A.F.su&&(A.req&&(A.x.a7 != 0&&A.x.a7 != A.x.a5)))=true then(fst A.supP A.F.H.length).map λi=>A.ans (macA A.F i)else none
def Aq.isGw(tn ip:Int):Bool:=A.F.B.any λd=>(d.1 == tn)&&(d.2.2.2.2.2 != 0&&(d.2.2.2.2.2 == ip))
def Aq.dstP(tn ip:Int)(i:Nat):Bool:=match A.F.H[i]? with
 |some y=>(y.2.1 != 0&&y.2.1 == ip)&&(((bdA A.F y.2.2.1).1 == tn)&&((bdA A.F y.2.2.1).2.2.2.2.2 != 0&&knw A.F A.W A.ar A.hd (i:Int) true))
 |none=>false
def Aq.dest(tn ip:Int):Option Nat:=fst (A.dstP tn ip) A.F.H.length
def Aq.dstL(A:Aq)(ip:Int):Nat->Option Nat
 | 0=>A.dest A.tn ip
 | k+1=>(Aq.dstL A ip k).or (match A.F.G[k]? with
   |some g=>if((g.2.1 == A.tn)&&qCe g.2.2.1 g.2.2.2 ip)=true then A.dest g.1 ip else none
   |none=>none)
def qSm(x:FC.Fr)(m:Int):FC.Fr:={ x with src:=GWM,dst:=m,a10:=0 }
def attV(F:FG)(W:WG)(i:Nat):Int:=(att F W (i:Int)).getD 0
def Aq.rRout:Option (List Lnd):=if(A.x.dst == GWM&&A.gw != 0)=true then
  some (if(A.x.kind != 2||(decide (A.x.a10<3)||A.isGw A.tn A.x.hd))=true then[]else match A.dstL A.x.hd A.F.G.length with
   |some i=>[(attV A.F A.W i,bdH A.F i,qSm A.x (macA A.F i))]
   |none=>[])
 else none
def Aq.every:List Lnd:=(fldN A.F A.W A.ar A.h.2.2.1 A.sg A.F.S.length).map λ(i:Nat)=>((i:Int),A.h.2.2.1,A.x)
def Aq.rBro:Option (List Lnd):=if qNG A.x.dst=true then some A.every else none
def Aq.briP(i:Nat):Bool:=match A.F.H[i]? with
 |some y=>(y.2.2.1 == A.h.2.2.1)&&((y.1 == A.x.dst)&&knw A.F A.W A.ar A.hd (i:Int) false)
 |none=>false
def Aq.rBri:Option (List Lnd):=if(A.x.dst == A.h.1)=true then some []else(fst A.briP A.F.H.length).map λi=>if attV A.F A.W i=A.sg then[]else[(attV A.F A.W i,A.h.2.2.1,A.x)]
def Aq.exp:List Lnd:=(A.rGate.or (A.rSup.or (A.rRout.or (A.rBro.or A.rBri)))).getD A.every
def Ok1(A:Aq)(y:Lnd):Prop:=(0<=y.1/\y.1<A.F.S.length)/\(∃g,A.F.S[y.1.toNat]?=some g/\y.2.1∈g.2)/\
 ((bdA A.F y.2.1).1=A.tn∨∃g∈A.F.G,g.1=(bdA A.F y.2.1).1/\g.2.1=A.tn)/\
 ((A.x.dst=GWM/\A.gw≠0)∨(y.2.1=A.h.2.2.1/\((y.2.2.kind=1/\y.2.2.a3=2/\A.x.kind=1/\A.x.a3=1)∨(y.1≠A.sg/\y.2.2=A.x))))
variable {A}
theorem qIm{F:FG}{W:WG}{h sg:Int}(q:att F W h=some sg):∃x g,0<=h/\F.H[h.toNat]?=some x/\W.wh[h.toNat]?=some sg/\0<=sg/\F.S[sg.toNat]?=some g/\x.2.2.1∈g.2:=by
 unfold att at q;split at q
 ·rename_i h0
  split at q
  ·rename_i x sg' hx hw
   split at q
   ·rename_i h1
    split at q
    ·rename_i g hg
     split at q
     ·rename_i hm
      cases q;exact⟨x,g,h0,hx,hw,h1,hg,hm⟩
     ·cases q
    ·cases q
   ·cases q
  ·cases q
 ·cases q
theorem qYt{F:FG}{W:WG}{ar:List Int}{hd:List Hd}{h:Int}{ip:Bool}(q:knw F W ar hd h ip=true):∃sg,att F W h=some sg:=by
 unfold knw at q;split at q
 ·rename_i sg hs;exact⟨sg,hs⟩
 ·cases q
theorem qVm{α:Type}{l:List α}{n:Int}{x:α}(h0:0<=n)(h:l[n.toNat]?=some x):n<(l.length:Int):=by have:=(gS h).1;omega
theorem zABX{i:Nat}{y:R4}{ip:Bool}(hy:A.F.H[i]?=some y)(q:knw A.F A.W A.ar A.hd (i:Int) ip=true):(0<=attV A.F A.W i/\attV A.F A.W i<A.F.S.length)/\∃g,A.F.S[(attV A.F A.W i).toNat]?=some g/\y.2.2.1∈g.2:=by
 obtain⟨sg,hs⟩:=qYt q;obtain⟨x,g,_,h1,_,h2,h3,h4⟩:=qIm hs;have:(i:Int).toNat=i:=by omega
 rw[this,hy]at h1;cases h1;have e:attV A.F A.W i=sg:=by unfold attV;rw[hs];rfl
 rw[e];exact⟨⟨h2,qVm h2 h3⟩,g,h3,h4⟩
theorem qYW(hs:0<=A.sg)(hg:∃g,A.F.S[A.sg.toNat]?=some g/\A.h.2.2.1∈g.2)(hq:A.req=true)(m:Int):∀y∈A.ans m,Ok1 A y:=λy hy=>by
 have:y=(A.sg,A.h.2.2.1,qNQ A.x m):=by simpa [Aq.ans]using hy
 subst this;obtain⟨g,h1,h2⟩:=hg;unfold Aq.req at hq;rw[Bool.and_eq_true,beq_iff_eq,beq_iff_eq]at hq;exact⟨⟨hs,qVm hs h1⟩,⟨g,h1,h2⟩,.inl rfl,.inr ⟨rfl,.inl ⟨rfl,rfl,hq.1,hq.2⟩⟩⟩
theorem qRp:∀y∈A.every,Ok1 A y:=λy hy=>by
 unfold Aq.every at hy;obtain⟨i,hi,rfl⟩:=List.mem_map.1 hy;unfold fldN at hi;obtain⟨h1,h2⟩:=List.mem_filter.1 hi;have h1:=List.mem_range.1 h1;unfold flB at h2;split at h2
 ·rename_i g hg
  rw[Bool.and_eq_true,Bool.and_eq_true,decide_eq_true_eq]at h2;have ne:(i:Int)≠A.sg:=by have:=h2.1;simpa using this
  exact⟨⟨by show(0:Int)<=i;omega,by show(i:Int)<_;omega⟩,⟨g,by show A.F.S[((i:Int)).toNat]?=_;rw[Int.toNat_natCast];exact hg,h2.2.1⟩,.inl rfl,.inr ⟨rfl,.inr ⟨ne,rfl⟩⟩⟩
 ·cases h2
theorem qJ8{ip:Int}:∀{k i:Nat},A.dstL ip k=some i->∃tn,A.dstP tn ip i=true/\(tn=A.tn∨∃g∈A.F.G,g.1=tn/\g.2.1=A.tn)
 | 0,i,h=>⟨A.tn,(qLR h).1,.inl rfl⟩
 | k+1,i,h=>by
   unfold Aq.dstL at h;cases c:A.dstL ip k with
   | some j=>
     rw[c]at h;cases h;exact qJ8 c
   | none=>
     rw[c,Option.none_or]at h;split at h
     ·rename_i g hg
      split at h
      ·rename_i q
       rw[Bool.and_eq_true,beq_iff_eq]at q;exact⟨g.1,(qLR h).1,.inr ⟨g,mG hg,rfl,q.1⟩⟩
      ·cases h
     ·cases h
theorem zAAt(hs:0<=A.sg)(hg:∃g,A.F.S[A.sg.toNat]?=some g/\A.h.2.2.1∈g.2):∀y∈A.exp,Ok1 A y:=by
 unfold Aq.exp;have e1:∀L,A.rGate=some L->∀y∈L,Ok1 A y:=λL h=>by
  unfold Aq.rGate at h;split at h
  ·rename_i q
   rw[Bool.and_eq_true]at q;cases h;exact qYW hs hg q.1 _
  ·cases h
 have e2:∀L,A.rSup=some L->∀y∈L,Ok1 A y:=λL h=>by
  unfold Aq.rSup at h;split at h
  ·rename_i q
   rw[Bool.and_eq_true,Bool.and_eq_true]at q;rw[Option.map_eq_some_iff]at h;obtain⟨i,_,rfl⟩:=h;exact qYW hs hg q.2.1 _
  ·cases h
 have e3:∀L,A.rRout=some L->∀y∈L,Ok1 A y:=λL h=>by
  unfold Aq.rRout at h;split at h
  ·rename_i q
   rw[Bool.and_eq_true,beq_iff_eq]at q;cases h;split
   ·intro y hy;cases hy
   ·split
    ·rename_i i hi
     intro y hy;have:y=(attV A.F A.W i,bdH A.F i,qSm A.x (macA A.F i)):=by simpa using hy
     subst this;obtain⟨tn,h1,h2⟩:=qJ8 hi;unfold Aq.dstP at h1;split at h1
     ·rename_i z hz
      simp only[Bool.and_eq_true,beq_iff_eq]at h1;obtain⟨_,h3,h3',h4⟩:=h1;obtain⟨h5,g,h6,h7⟩:=zABX hz h4;have eb:bdH A.F i=z.2.2.1:=by unfold bdH;rw[hz]
      refine⟨h5,⟨g,h6,by show bdH A.F i∈_;rw[eb];exact h7⟩,?_,.inl ⟨q.1,by simpa using q.2⟩⟩;show(bdA A.F (bdH A.F i)).1=A.tn∨_;rw[eb,h3];rcases h2 with rfl|⟨g,hg,rfl,h8⟩
      ·exact .inl rfl
      ·exact .inr ⟨g,hg,rfl,h8⟩
     ·cases h1
    ·intro y hy;cases hy
  ·cases h
 have e4:∀L,A.rBro=some L->∀y∈L,Ok1 A y:=λL h=>by
  unfold Aq.rBro at h;split at h
  ·cases h;exact qRp
  ·cases h
 have e5:∀L,A.rBri=some L->∀y∈L,Ok1 A y:=λL h=>by
  unfold Aq.rBri at h;split at h
  ·cases h;intro y hy;cases hy
  ·rw[Option.map_eq_some_iff]at h
   obtain⟨i,hi,rfl⟩:=h;split
   ·intro y hy;cases hy
   ·rename_i ne
    intro y hy;have:y=(attV A.F A.W i,A.h.2.2.1,A.x):=by simpa using hy
    subst this;have hp:=(qLR hi).1;unfold Aq.briP at hp;split at hp
    ·rename_i z hz
     rw[Bool.and_eq_true,Bool.and_eq_true,beq_iff_eq]at hp;obtain⟨h5,g,h6,h7⟩:=zABX hz hp.2.2;exact⟨h5,⟨g,h6,by rw[<- hp.1];exact h7⟩,.inl rfl,.inr ⟨rfl,.inr ⟨ne,rfl⟩⟩⟩
    ·cases hp
 intro y hy;cases c1:A.rGate with
 |some L=>rw[c1]at hy;exact e1 L c1 y hy
 | none=>
   cases c2:A.rSup with
   |some L=>rw[c1,c2]at hy;exact e2 L c2 y hy
   | none=>
     cases c3:A.rRout with
     |some L=>rw[c1,c2,c3]at hy;exact e3 L c3 y hy
     | none=>
       cases c4:A.rBro with
       |some L=>rw[c1,c2,c3,c4]at hy;exact e4 L c4 y hy
       | none=>
         cases c5:A.rBri with
         |some L=>rw[c1,c2,c3,c4,c5]at hy;exact e5 L c5 y hy
         |none=>rw[c1,c2,c3,c4,c5]at hy;exact qRp y hy
end Go.AM.OR
namespace Go.AM.OR
open Go.AM.TN
variable {A:Aq}
theorem qUu:(A.every.map (·.1)).Pairwise (· < ·):=by
 have e:A.every.map (·.1)=(fldN A.F A.W A.ar A.h.2.2.1 A.sg A.F.S.length).map λi:Nat=>(i:Int):=by unfold Aq.every;rw[List.map_map];rfl
 rw[e,List.pairwise_map];unfold fldN;refine List.Pairwise.filter _ ?_;rw[List.pairwise_iff_getElem];intro a b ha hb hab;rw[List.getElem_range,List.getElem_range];omega
theorem asc1{y:Lnd}:(([y]:List Lnd).map (·.1)).Pairwise (· < ·):=by simp
theorem qX5(P:List Lnd->Prop)(h1:∀L,A.rGate=some L->P L)(h2:∀L,A.rSup=some L->P L)(h3:∀L,A.rRout=some L->P L)(h4:P A.every)(h5:∀L,A.rBri=some L->P L):P A.exp:=by
 unfold Aq.exp;cases c1:A.rGate with
 |some L=>exact h1 L c1
 | none=>
   cases c2:A.rSup with
   |some L=>exact h2 L c2
   | none=>
     cases c3:A.rRout with
     |some L=>exact h3 L c3
     | none=>
       cases c4:A.rBro with
       | some L=>
         unfold Aq.rBro at c4;split at c4
         ·cases c4;exact h4
         ·cases c4
       | none=>
         cases c5:A.rBri with
         |some L=>exact h5 L c5
         |none=>exact h4
theorem qY5:(A.exp.map (·.1)).Pairwise (· < ·):=by
 refine qX5 (λL=>(L.map (·.1)).Pairwise (· < ·)) (λL h=>?_) (λL h=>?_) (λL h=>?_) qUu λL h=>?_
 ·unfold Aq.rGate at h
  split at h
  ·cases h;exact asc1
  ·cases h
 ·unfold Aq.rSup at h
  split at h
  ·rw[Option.map_eq_some_iff]at h
   obtain⟨i,_,rfl⟩:=h;exact asc1
  ·cases h
 ·unfold Aq.rRout at h
  split at h
  ·cases h
   split
   ·exact .nil
   ·split
    ·exact asc1
    ·exact .nil
  ·cases h
 ·unfold Aq.rBri at h
  split at h
  ·cases h;exact .nil
  ·rw[Option.map_eq_some_iff]at h
   obtain⟨i,_,rfl⟩:=h;split
   ·exact .nil
   ·exact asc1
theorem zAAQ{i:Nat}{ip:Bool}(q:knw A.F A.W A.ar A.hd (i:Int) ip=true):wthB A.F A.W (attV A.F A.W i) A.ar=true:=by
 unfold knw at q;split at q
 ·rename_i sg hs
  rw[Bool.and_eq_true]at q;unfold attV;rw[hs];exact q.1
 ·cases q
theorem zABC(hs:wthB A.F A.W A.sg A.ar=true):∀y∈A.exp,wthB A.F A.W y.1 A.ar=true:=by
 refine qX5 (λL=>∀y∈L,wthB A.F A.W y.1 A.ar=true) (λL h=>?_) (λL h=>?_) (λL h=>?_) (λy hy=>?_) λL h=>?_
 ·unfold Aq.rGate at h
  split at h
  ·cases h
   intro y hy;have:y=(A.sg,A.h.2.2.1,qNQ A.x GWM):=by simpa [Aq.ans]using hy
   rw[this];exact hs
  ·cases h
 ·unfold Aq.rSup at h
  split at h
  ·rw[Option.map_eq_some_iff]at h
   obtain⟨i,_,rfl⟩:=h;intro y hy;have:y=(A.sg,A.h.2.2.1,qNQ A.x (macA A.F i)):=by simpa [Aq.ans]using hy
   rw[this];exact hs
  ·cases h
 ·unfold Aq.rRout at h
  split at h
  ·cases h
   split
   ·intro y hy;cases hy
   ·split
    ·rename_i i hi
     intro y hy;have:y=(attV A.F A.W i,bdH A.F i,qSm A.x (macA A.F i)):=by simpa using hy
     subst this;obtain⟨tn,h1,_⟩:=qJ8 hi;unfold Aq.dstP at h1;split at h1
     ·simp only[Bool.and_eq_true]at h1
      exact zAAQ h1.2.2.2
     ·cases h1
    ·intro y hy;cases hy
  ·cases h
 ·unfold Aq.every at hy
  obtain⟨i,hi,rfl⟩:=List.mem_map.1 hy;unfold fldN at hi;have h2:=(List.mem_filter.1 hi).2;unfold flB at h2;split at h2
  ·rw[Bool.and_eq_true,Bool.and_eq_true]at h2
   exact h2.2.2
  ·cases h2
 ·unfold Aq.rBri at h
  split at h
  ·cases h;intro y hy;cases hy
  ·rw[Option.map_eq_some_iff]at h
   obtain⟨i,hi,rfl⟩:=h;split
   ·intro y hy;cases hy
   ·intro y hy
    have:y=(attV A.F A.W i,A.h.2.2.1,A.x):=by simpa using hy
    subst this;have hp:=(qLR hi).1;unfold Aq.briP at hp;split at hp
    ·rw[Bool.and_eq_true,Bool.and_eq_true]at hp
     exact zAAQ hp.2.2
    ·cases hp
theorem qUU{F:FG}{W W':WG}{ar:List Int}{hd:List Hd}(ha:∀h,att F W h=att F W' h)(hw:∀sg,wthB F W sg ar=wthB F W' sg ar)(h:Int)(ip:Bool):knw F W ar hd h ip=knw F W' ar hd h ip:=by
 unfold knw;rw[ha h];cases att F W' h with
 |none=>rfl
 |some sg=>simp only[hw]
def Aq.inW(A:Aq)(W:WG):Aq:=⟨A.F,W,A.ar,A.hd,A.h,A.sg,A.x⟩
theorem qU7{W:WG}(ha:∀h,att A.F A.W h=att A.F W h)(hw:∀sg,wthB A.F A.W sg A.ar=wthB A.F W sg A.ar):(A.inW W).exp=A.exp:=by
 have hk:=λ(h:Int) (ip:Bool)=>qUU (hd:=A.hd) ha hw h ip;have e1:(A.inW W).supP=A.supP:=by
  funext i
  unfold Aq.supP Aq.inW;simp only[hk]
 have e2:(A.inW W).dstP=A.dstP:=by
  funext tn ip i
  unfold Aq.dstP Aq.inW;simp only[hk]
 have e3:(A.inW W).briP=A.briP:=by
  funext i
  unfold Aq.briP Aq.inW;simp only[hk]
 have e4:∀ip k,(A.inW W).dstL ip k=A.dstL ip k:=λip k=>by
  induction k with
  |zero=>show(A.inW W).dest _ _=A.dest _ _;unfold Aq.dest;rw[e2];rfl
  | succ k ih=>
    unfold Aq.dstL;rw[ih];unfold Aq.dest;rw[e2];rfl
 have e5:(A.inW W).every=A.every:=by
  unfold Aq.every fldN;have:flB (A.inW W).F (A.inW W).W (A.inW W).ar (A.inW W).h.2.2.1 (A.inW W).sg=flB A.F A.W A.ar A.h.2.2.1 A.sg:=by
   funext i
   unfold flB Aq.inW;simp only[hw]
  rw[this];rfl
 have e6:attV (A.inW W).F (A.inW W).W=attV A.F A.W:=by
  funext i
  unfold attV Aq.inW;simp only[ha]
 unfold Aq.exp;rw[e5];have g2:(A.inW W).rSup=A.rSup:=by unfold Aq.rSup;rw[e1];rfl
 have g3:(A.inW W).rRout=A.rRout:=by unfold Aq.rRout;rw[e6];simp only[e4];rfl
 have g4:(A.inW W).rBro=A.rBro:=by unfold Aq.rBro;rw[e5];rfl
 have g5:(A.inW W).rBri=A.rBri:=by unfold Aq.rBri;rw[e3,e6];rfl
 rw[g2,g3,g4,g5];rfl
end Go.AM.OR
set_option maxRecDepth 100000
namespace Go.AM.OR
open Go Go.Proofs Go.AM.TN
variable {K:AV→Hq→Prop} {s s' H:Hq} {v:AV} {cs:List AV} {F:FG} {W:WG} {b c i k:Nat} {h l sg:Int} {tg:Bool} {R:AV→Prop} {x:AV}
abbrev bs(l:List Bool):List AV:=l.map AV.bool
def PtR(s:Hq)(v:AV)(P:List (List Bool)):Prop:=∃vs:List AV,Sl s v vs/\vs.length=P.length/\∀(i:Nat) q r,vs[i]?=some q->P[i]?=some r->Sl s q (bs r)
theorem PtR.sub{P:List (List Bool)}(h:PtR s v P)(k:Sub s s'):PtR s' v P:=by obtain⟨vs,h1,h2,h3⟩:=h;exact⟨vs,h1.sub k,h2,λi q r a c=>(h3 i q r a c).sub k⟩
theorem PtR.at{P:List (List Bool)}{r:List Bool}(h:PtR s v P)(hr:P[i]?=some r):∃p q,qAY 1 v (.int .i64 (i:Int))=some p/\rd1 s p=some q/\Sl s q (bs r):=by obtain⟨vs,h1,h2,h3⟩:=h;have hi:=(gS hr).1;obtain⟨p,e1,e2⟩:=h1.get (i:=i) (by omega);have hq:vs[i]?=some vs[i]:=gE (by omega);exact⟨p,vs[i],e1,e2.trans hq,h3 i _ r hq hr⟩
structure WL(s:Hq)(W:WG)(w1 w2 w3 w4:AV):Prop where
 nd:Sl s w1 (bs W.nd)
 lk:Sl s w2 (bs W.lk)
 pt:PtR s w3 W.pt
 wh:Sl s w4 (ix W.wh)
theorem WL.sub{w1 w2 w3 w4:AV}(h:WL s W w1 w2 w3 w4)(k:Sub s s'):WL s' W w1 w2 w3 w4:=⟨h.nd.sub k,h.lk.sub k,h.pt.sub k,h.wh.sub k⟩
def stC(F:FG)(v2 v3 v4 v5 v6 v7 w1 w2 w3 w4:AV):List AV:=csG F v2 v3 v4 v5 v6 v7 ++ [w1,w2,w3,w4]
def St(s:Hq)(b:Nat)(F:FG)(W:WG):Prop:=∃tg v2 v3 v4 v5 v6 v7 w1 w2 w3 w4,s b=some (tg,.cells 136 (stC F v2 v3 v4 v5 v6 v7 w1 w2 w3 w4))/\FL s F v2 v3 v4 v5 v6 v7/\WL s W w1 w2 w3 w4
theorem St.sub(h:St s b F W)(k:Sub s s'):St s' b F W:=by obtain⟨tg,v2,v3,v4,v5,v6,v7,w1,w2,w3,w4,h1,h2,h3⟩:=h;exact⟨tg,v2,v3,v4,v5,v6,v7,w1,w2,w3,w4,k _ _ h1,h2.sub k,h3.sub k⟩
theorem qDW(hb:s b=some (tg,.cells 136 cs))(hx:cs[k]?=some x)(hR:R x):oK (qAH (.ptr b 0)) λa=>oK (qAC 0 a) λa=>oK (qAC k a) λa=>oK (rd1 s a) R:=
 qAA (a:=.ptr b 0) rfl (qAA (a:=.ptr b 0) rfl (qAA (a:=.ptr b k) (by rw[qAI,zAY]) (qAA (by rw[qAK hb];exact hx) hR)))
theorem qJ4(hb:s b=some (tg,.cells 136 cs))(hx:cs[19+k]?=some x)(hR:R x):oK (qAH (.ptr b 0)) λa=>oK (qAC 19 a) λa=>oK (qAC k a) λa=>oK (rd1 s a) R:=
 qAA (a:=.ptr b 0) rfl (qAA (a:=.ptr b 19) rfl (qAA (a:=.ptr b (19+k)) (by rw[qAI]) (qAA (by rw[qAK hb];exact hx) hR)))
theorem qI8(h:0<=l):∃i:Nat,l=(i:Int):=⟨l.toNat,by omega⟩
theorem zAAo{bl:List Bool}(hi:i<bl.length):onB bl (i:Int)=bl[i]:=by rw[qUr,gE hi];rfl
theorem qZv{bl:List Bool}(h:l<0):onB bl l=false:=by unfold onB;rw[decide_eq_false (by omega)];rfl
theorem zAA9{bl:List Bool}(h0:0<=l)(h:(bl.length:Int)<=l):onB bl l=false:=by unfold onB;rw[List.getElem?_eq_none (by omega),Option.getD_none,Bool.and_false]
theorem qTX{bl:List Bool}(hs:Sl s v (bs bl))(hK:K (.bool (onB bl l)) s):wC TP XX 73 [v,.int .i64 l] K s:=by
 refine qLa ?_;unfold qKq;rw[qBV,qAB];have nl:qAQ v=some bl.length:=by rw[hs.len];simp
 have fin:∀{t11:AV}{a:Bool},qAR (.bool a) t11 (.bool false)=some (.bool false)->onB bl l=false->qDE XX v (.int .i64 l) (.bool a) t11 K s:=fun {t11 a} e q=>by unfold qDE;refine qAA e ?_;rw[qAD];unfold qDx;refine qAA (a:=.bool false) rfl ?_;rw[<- q];exact hK
 cases c:decide (0<=l)with
 |false=>rw[qAD];exact fin rfl (qZv (by have:=oF c;omega))
 | true=>
   have h0:=oT c;rw[qAF];refine qAA nl ?_;rw[qAP,qAB];cases d:decide (l<(bl.length:Int))with
   |false=>exact fin rfl (zAA9 h0 (by have:=oF d;omega))
   | true=>
     have hl:=oT d;obtain⟨i,rfl⟩:=qI8 h0;unfold qDE;refine qAA (a:=.bool true) rfl ?_;rw[qAF];have hi:i<bl.length:=by omega
     obtain⟨pp,g1,g2⟩:=hs.get (i:=i) (by simpa using hi);refine qAA g1 (qAA (a:=.bool bl[i]) (by rw[g2];simp[hi]) ?_);unfold qDx;refine qAA (a:=.bool bl[i]) rfl ?_;rw[<- zAAo hi];exact hK
theorem qXR{y:RLk}(hS:St s b F W)(hy:F.L[i]?=some y)(hK:∀s',Sub s s'->K (.bool (works F W i)) s'):wC TP XX 67 [.ptr b 0,.int .i64 (i:Int)] K s:=by
 obtain⟨tg,v2,v3,v4,v5,v6,v7,w1,w2,w3,w4,h1,h2,h3⟩:=hS;refine qGX (qDW h1 (x:=v2) rfl ?_);obtain⟨pb,po,e1,e2,e3⟩:=h2.L.get (i:=i) (r:=lkC y) (by rw[List.getElem?_map,hy];rfl);refine qAA e1 (qAA e2 (qAM λb6 s7 hb6 h7 u7=>qAT h7 rfl rfl rfl λs8 h8 u8=>?_));have k8:Sub s s8:=qAW (u7.sub hb6) u8 hb6;have h18:=k8 _ _ h1;have h38:=h3.sub k8;have h8:s8 b6=some (false,.cells 91 (lkC y)):=h8;have fin:=hK s8 k8;have ew:works F W i=(onB W.lk (i:Int)&&(onB W.nd y.1&&onB W.nd y.2.1)):=by unfold works;rw[hy]
 rw[ew]at fin;refine qJ4 h18 (x:=w2) rfl (qTX h38.lk ?_);have j1:∀{t31 t39:AV}{a:Bool},qAR t31 t39 (.bool false)=some (.bool a)->(onB W.lk (i:Int)&&(onB W.nd y.1&&onB W.nd y.2.1))=a->qB2 XX t31 t39 K s8:=fun {t31 t39 a} e q=>by unfold qB2;refine qAA e ?_;rw[<- q];exact fin
 cases c1:onB W.lk (i:Int)with
 | false=>
   rw[qAD];unfold qBy;refine qAA (a:=.bool false) rfl ?_;rw[qAD];exact j1 rfl (by rw[c1];rfl)
 | true=>
   rw[qAF];refine qJ4 h18 (x:=w1) rfl (qAA (a:=.ptr b6 0) rfl (qAA (a:=.int .i64 y.1) (by rw[qAK h8];rfl) (qTX h38.nd ?_)));unfold qBy;refine qAA (a:=.bool (onB W.nd y.1)) rfl ?_;cases c2:onB W.nd y.1 with
   | false=>
     rw[qAD];exact j1 rfl (by rw[c1,c2];rfl)
   | true=>
     rw[qAF];refine qJ4 h18 (x:=w1) rfl (qAA (a:=.ptr b6 1) rfl (qAA (a:=.int .i64 y.2.1) (by rw[qAK h8];rfl) (qTX h38.nd ?_)));exact j1 (a:=onB W.nd y.2.1) rfl (by rw[c1,c2];rfl)
theorem zABc{P:List (List Bool)}(h:PtR s v P):qAQ v=some P.length:=by obtain⟨vs,h1,h2,_⟩:=h;rw[h1.len,h2]
theorem qYk(hS:St s b F W)(hK:K (.bool (qLr W l sg)) s):wC TP XX 92 [.ptr b 0,.int .i64 l,.int .i64 sg] K s:=by
 obtain⟨tg,v2,v3,v4,v5,v6,v7,w1,w2,w3,w4,h1,h2,h3⟩:=hS;refine qHD ?_;unfold qEm;rw[qBV,qAB];have fin:∀{t17:AV}{a:Bool},qAR (.bool a) t17 (.bool false)=some (.bool false)->qLr W l sg=false->qBa XX (.ptr b 0) (.int .i64 l) (.int .i64 sg) (.bool a) t17 K s:=fun {t17 a} e q=>by unfold qBa;refine qAA e ?_;rw[qAD];unfold qCC;refine qAA (a:=.bool false) rfl ?_;rw[<- q];exact hK
 cases c:decide (0<=l)with
 |false=>rw[qAD];exact fin rfl (by unfold qLr;rw[c];rfl)
 | true=>
   have h0:=oT c;obtain⟨i,rfl⟩:=qI8 h0;rw[qAF];refine qJ4 h1 (x:=w3) rfl (qAA (zABc h3.pt) ?_);rw[qAP,qAB];cases d:decide ((i:Int)<(W.pt.length:Int))with
   | false=>
     refine fin rfl ?_;unfold qLr;have:(i:Int).toNat=i:=by omega
     rw[this,List.getElem?_eq_none (by have:=oF d;omega),Bool.and_false]
   | true=>
     have hi:i<W.pt.length:=by have:=oT d;omega
     have hr:W.pt[i]?=some W.pt[i]:=gE hi;obtain⟨pp,q,g1,g2,g3⟩:=h3.pt.at hr;unfold qBa;refine qAA (a:=.bool true) rfl ?_;rw[qAF];refine qJ4 h1 (x:=w3) rfl (qAA g1 (qAA g2 (qTX g3 ?_)));unfold qCC;refine qAA (a:=.bool (onB W.pt[i] sg)) rfl ?_;have e:qLr W (i:Int) sg=onB W.pt[i] sg:=by
      unfold qLr;have:(i:Int).toNat=i:=by omega
      rw[this,hr,c,Bool.true_and]
     rw[<- e];exact hK
theorem qOy(hS:St s b F W)(hK:K (.bool (decide (0<=h)&&decide (h<(F.H.length:Int)))) s):wC TP XX 56 [.ptr b 0,.int .i64 h] K s:=by
 obtain⟨tg,v2,v3,v4,v5,v6,v7,w1,w2,w3,w4,h1,h2,h3⟩:=hS;refine qHV ?_;unfold qEn;rw[qBV,qAB];have nl:qAQ v6=some F.H.length:=by rw[h2.H.len,lM]
 cases c:decide (0<=h)with
 | false=>
   rw[c,Bool.false_and]at hK;rw[qAD];unfold qCD;exact qAA (a:=.bool false) rfl hK
 | true=>
   rw[c,Bool.true_and]at hK;rw[qAF];refine qDW h1 (x:=v6) rfl (qAA nl ?_);rw[qAP,qAB];unfold qCD;exact qAA (a:=.bool _) rfl hK
def SmS(F:FG):Prop:=∀x∈F.S,x.1.length<=4294967296/\x.2.length<=4294967296
theorem zAAM(hq:¬(0<=h/\h<(F.H.length:Int))):att F W h=none:=by
 unfold att;split
 ·rename_i h0
  rw[List.getElem?_eq_none (by omega)]
 ·rfl
theorem qFm(hz:SmS F)(hS:St s b F W)(hK:∀s',Sub s s'->K (.tup [.int .i64 ((att F W h).getD 0),.bool (att F W h).isSome]) s'):wC TP XX 40 [.ptr b 0,.int .i64 h] K s:=by
 have hS0:=hS;obtain⟨tg,v2,v3,v4,v5,v6,v7,w1,w2,w3,w4,h1,h2,h3⟩:=hS;refine qFT (qOy hS0 ?_);have none_:att F W h=none->K (.tup [.int .i64 0,.bool false]) s:=λe=>by have:=hK s (.refl _);rw[e]at this;exact this
 have j0n:∀{t19:AV}{a:Bool},qAR (.bool a) (.bool true) t19=some (.bool true)->att F W h=none->qBA XX (.ptr b 0) (.int .i64 h) (.bool a) t19 K s:=fun {t19 a} e q=>by unfold qBA;refine qAA e ?_;rw[qAF];exact none_ q
 cases c:(decide (0<=h)&&decide (h<(F.H.length:Int)))with
 | false=>
   refine qAA (a:=.bool true) rfl ?_;rw[qAF];exact j0n rfl (zAAM λq=>by rw[decide_eq_true q.1,decide_eq_true q.2]at c;cases c)
 | true=>
   rw[Bool.and_eq_true,decide_eq_true_eq,decide_eq_true_eq]at c;obtain⟨i,rfl⟩:=qI8 c.1;have hi:i<F.H.length:=by omega
   have et:(i:Int).toNat=i:=by omega
   have hx:F.H[i]?=some F.H[i]:=gE hi;generalize F.H[i]=x at hx;refine qAA (a:=.bool false) rfl ?_;rw[qAD];refine qJ4 h1 (x:=w4) rfl (qAA h3.wh.len ?_);rw[qA3,qBV,qAB];cases d:decide ((W.wh.length:Int)<=(i:Int))with
   | true=>
     have hle:=oT d;refine j0n rfl ?_;unfold att;rw[if_pos c.1,et,hx,List.getElem?_eq_none (by omega)]
   | false=>
     have hlt:i<W.wh.length:=by have:=oF d;omega
     have hw:W.wh[i]?=some W.wh[i]:=gE hlt;obtain⟨pp,g1,g2⟩:=h3.wh.get (i:=i) (by rw[qA3];exact hlt);rw[qFd hlt]at g2;generalize W.wh[i]=sg at hw g2;unfold qBA;refine qAA (a:=.bool false) rfl ?_;rw[qAD];refine qJ4 h1 (x:=w4) rfl (qAA g1 (qAA g2 ?_));rw[qAP,qAB];have j1n:∀{t39:AV}{a:Bool},qAR (.bool a) (.bool true) t39=some (.bool true)->att F W (i:Int)=none->qA7 XX (.ptr b 0) (.int .i64 (i:Int)) (.int .i64 sg) (.bool a) t39 K s:=fun {t39 a} e q=>by unfold qA7;refine qAA e ?_;rw[qAF];exact none_ q
     have ea:att F W (i:Int)=if 0<=sg then(match F.S[sg.toNat]? with
       |some g=>if x.2.2.1∈g.2 then some sg else none
       |none=>none)else none:=by
      unfold att;rw[if_pos c.1,et,hx,hw];rfl
     cases e0:decide (sg<0)with
     | true=>
       rw[qAF];refine j1n rfl ?_;rw[ea,if_neg (by have:=oT e0;omega)]
     | false=>
       have h0:0<=sg:=by have:=oF e0;omega
       rw[if_pos h0]at ea;rw[qAD];refine qDW h1 (x:=v5) rfl (qAA h2.S.len ?_);rw[qBV,qAB];cases e1:decide ((F.S.length:Int)<=sg)with
       | true=>
         refine j1n rfl ?_;rw[ea,List.getElem?_eq_none (by have:=oT e1;omega)]
       | false=>
         obtain⟨j,rfl⟩:=qI8 h0;have hj:j<F.S.length:=by have:=oF e1;omega
         have hg:F.S[j]?=some F.S[j]:=gE hj;generalize F.S[j]=g at hg;have ej:(j:Int).toNat=j:=by omega
         rw[ej,hg]at ea;simp only at ea;obtain⟨pb,po,l1,l2,a1,_,_,a4,_,a6⟩:=h2.S.at hg;obtain⟨hb,ho,b1,b2,b3⟩:=h2.H.get (i:=i) (r:=hgC x) (by rw[List.getElem?_map,hx];rfl);unfold qA7;refine qAA (a:=.bool false) rfl ?_;rw[qAD];refine qDW h1 (x:=v5) rfl (qAA a1 (qAA (a:=.ptr pb (po+1)) rfl (qAA a4 (qDW h1 (x:=v6) rfl (qAA b1 (qAA (a:=.ptr hb (ho+2)) rfl (qAA (a:=.int .i64 x.2.2.1) (by rw[b3 2 (by omega)];rfl) ?_)))))));refine qFh XX_0 (hz g (mG hg)).2 a6 ?_;rw[qAe,qAB];cases e2:decide (x.2.2.1∈g.2)with
         | true=>
           rw[if_pos (oT e2)]at ea;rw[Bool.not_true,qAD];have:=hK s (.refl _);rw[ea]at this;exact this
         | false=>
           rw[if_neg (oF e2)]at ea;rw[Bool.not_false,qAF];exact none_ ea
end Go.AM.OR
set_option maxRecDepth 100000
namespace Go.AM.OR
open Go Go.Proofs Go.AM.TN
variable {K:AV→Hq→Prop} {s s' t H:Hq} {v w fv:AV} {F:FG} {W:WG} {b c i k n m0 N:Nat} {h l sg a:Int} {tg:Bool} {R:AV→Prop} {Q:List Int}
theorem app1{elem:TypeId}{kd:IntKind}{L:List Int}{x:Int}{z:AV}{C:AV->Hq->Prop}(hz:z.one=true)(acc:Acc elem s t w (L.map (AV.int kd)))(ks:Sub s t)(hl:L.length<=100000)(hC:∀v' s',Acc elem s s' v' ((L ++ [x]).map (AV.int kd))->Sub s s'->C v' s'):
  oK (qAl (repl 1 [z]) [(0,1,.int kd x)]) λc=>qAa c=true/\newK elem c (λb s'=>appK elem 1 w (.slc b 0 1 (some 1) 1) C s') t:=by
 refine qDy hz rfl λb s1 hb h1 u1=>?_;refine(acc.sub (u1.sub hb)).app2 (ks.trans (u1.sub hb)) (m:=[.int kd x]) (Sl.mk h1 rfl (by simp)) (by simp) (by simp;omega) λv' s' a kq=>hC v' s' ?_ kq;rw[List.map_append];exact a
theorem qMo{p:Int->Bool}{L:List Int}{j:Nat}{x:Int}(hx:L[j]?=some x):(L.take (j+1)).filter p=(L.take j).filter p++(if p x=true then[x]else[]):=by
 rw[List.take_add_one,hx,List.filter_append]
 congr 1
 cases h:p x<;>simp[h]
theorem qXk{p:Int->Bool}{L:List Int}:(L.filter p).length<=L.length:=List.length_filter_le _ _
theorem qKd(hz:SmS F)(h20:∀x∈F.S,x.1.length<=100000)(hS:St s b F W)(hK:∀v' s',Sub s s'->Sl s' v' (ix (mems F W sg))->K v' s'):wC TP XX 63 [.ptr b 0,.int .i64 sg] K s:=by
 have hS0:=hS;obtain⟨tg,v2,v3,v4,v5,v6,v7,w1,w2,w3,w4,h1,h2,h3⟩:=hS;refine qFz ?_;unfold qD0;rw[qAP,qAB];have j0n:∀{t18:AV}{a:Bool},qAR (.bool a) (.bool true) t18=some (.bool true)->mems F W sg=[]->qBN XX (.ptr b 0) (.int .i64 sg) (.bool a) t18 K s:=fun {t18 a} e q=>by unfold qBN;refine qAA e ?_;rw[qAF];exact hK _ s (.refl _) (by rw[q];exact .inl ⟨rfl,rfl⟩)
 cases c:decide (sg<0)with
 | true=>
   rw[qAF];refine j0n rfl ?_;unfold mems;rw[if_neg (by have:=oT c;omega)]
 | false=>
   have h0:0<=sg:=by have:=oF c;omega
   obtain⟨j,rfl⟩:=qI8 h0;have ej:(j:Int).toNat=j:=by omega
   rw[qAD];refine qDW h1 (x:=v5) rfl (qAA h2.S.len ?_);rw[qBV,qAB];cases d:decide ((F.S.length:Int)<=(j:Int))with
   | true=>
     refine j0n rfl ?_;unfold mems;rw[if_pos h0,ej,List.getElem?_eq_none (by have:=oT d;omega)]
   | false=>
     have hj:j<F.S.length:=by have:=oF d;omega
     have hg:F.S[j]?=some F.S[j]:=gE hj;generalize F.S[j]=g at hg;have em:mems F W (j:Int)=g.1.filter (memB W (j:Int)):=by unfold mems;rw[if_pos h0,ej,hg]
     have hgl:=h20 g (mG hg);rw[em]at hK;obtain⟨pb,po,l1,l2,a1,_,a3,_,a5,_⟩:=h2.S.at hg;unfold qBN;refine qAA (a:=.bool false) rfl ?_;rw[qAD];have nl:qAQ l1=some g.1.length:=by rw[a5.len,qA3]
     refine qDW h1 (x:=v5) rfl (qAA a1 (qAA (a:=.ptr pb po) rfl (qAA a3 (qAA nl ?_))));refine⟨λys t m=>∃(k:Nat) (v:AV),ys=[v,.int .i64 (k:Int)]/\k<=g.1.length/\m=g.1.length-k/\Acc 3 s t v (ix ((g.1.take k).filter (memB W (j:Int))))/\Sub s t,⟨_,0,_,rfl,by omega,rfl,.inl ⟨rfl,rfl⟩,.refl _⟩,?_⟩;rintro f t m ⟨k,v,hy,hk,rfl,acc,kt⟩;simp only[cI,and_true]at hy;rw[hy.1,hy.2];clear hy;unfold qDR;rw[qAP,qAB];refine qAJ (λhlt=>?_) (λhge=>?_)
     rotate_left
     ·have hge:k=g.1.length:=by have:=oF hge;omega
      subst hge;rw[List.take_length]at acc;exact hK v t kt acc.sl
     have hlt:k<g.1.length:=by have:=oT hlt;omega
     have hx:g.1[k]?=some g.1[k]:=gE hlt;obtain⟨pp,g1,g2⟩:=(a5.sub kt).get (i:=k) (by rw[qA3];exact hlt);rw[qFd hlt]at g2;generalize g.1[k]=x at hx g2;have hsucc:=qMo (p:=memB W (j:Int)) hx;have hlen:((g.1.take k).filter (memB W (j:Int))).length<=100000:=by have h1:=qXk (p:=memB W (j:Int)) (L:=g.1.take k);rw[List.length_take]at h1;omega
     have j3:∀{v':AV}{t':Hq},Acc 3 s t' v' (ix ((g.1.take (k+1)).filter (memB W (j:Int))))->Sub s t'->qBj XX v' (.int .i64 (k:Int)) (λys t m=>∃(k:Nat) (v:AV),ys=[v,.int .i64 (k:Int)]/\k<=g.1.length/\m=g.1.length-k/\Acc 3 s t v (ix ((g.1.take k).filter (memB W (j:Int))))/\Sub s t) (g.1.length-k) K t':=fun {v' t'} a kk=>by unfold qBj;rw[qAN,qAB,qAb (by omega) (by omega)];exact⟨_,by omega,k+1,v',rfl,by omega,rfl,a,kk⟩
     have j2:∀{t41 t45:AV}{a:Bool},qAR t41 t45 (.bool false)=some (.bool a)->memB W (j:Int) x=a->qBm XX v (.int .i64 x) (.int .i64 (k:Int)) t41 t45 (λys t m=>∃(k:Nat) (v:AV),ys=[v,.int .i64 (k:Int)]/\k<=g.1.length/\m=g.1.length-k/\Acc 3 s t v (ix ((g.1.take k).filter (memB W (j:Int))))/\Sub s t) (g.1.length-k) K t:=fun {t41 t45 a} e q=>by
      unfold qBm;refine qAA e ?_;cases a with
      | true=>
        rw[if_pos q]at hsucc;rw[qAF];exact app1 rfl acc kt hlen λv' s' a' ks=>j3 (by rw[hsucc];exact a') ks
      | false=>
        rw[if_neg (by rw[q];simp),List.append_nil]at hsucc;rw[qAD];exact j3 (by rw[hsucc];exact acc) kt
     have h3t:=h3.sub kt;refine qAA g1 (qAA g2 (qJ4 (kt _ _ h1) (x:=w1) rfl (qTX h3t.nd ?_)));cases c2:onB W.nd x with
     | false=>
       rw[qAD];exact j2 rfl (by unfold memB;rw[c2];rfl)
     | true=>
       rw[qAF];refine qYk (hS0.sub kt) (j2 (a:=qLr W x (j:Int)) rfl ?_);unfold memB;rw[c2,Bool.true_and]
theorem qOl(hl:F.L.length<=100000)(hS:St s b F W)(hK:∀v' s',Sub s s'->Acc 3 s s' v' (ix (nbr F W a))->K v' s'):wC TP XX 75 [.ptr b 0,.int .i64 a] K s:=by
 have hS0:=hS;obtain⟨tg,v2,v3,v4,v5,v6,v7,w1,w2,w3,w4,h1,h2,h3⟩:=hS;have nl:qAQ v2=some F.L.length:=by rw[h2.L.len,lM]
 refine qEj (qDW h1 (x:=v2) rfl (qAA nl ?_));refine⟨λys t m=>∃(k:Nat) (v:AV),ys=[v,.int .i64 (k:Int)]/\k<=F.L.length/\m=F.L.length-k/\Acc 3 s t v (ix (nbrN F W a k))/\Sub s t,⟨_,0,_,rfl,by omega,rfl,.inl ⟨rfl,rfl⟩,.refl _⟩,?_⟩;rintro f t m ⟨k,v,hy,hk,rfl,acc,kt⟩;simp only[cI,and_true]at hy;rw[hy.1,hy.2];clear hy;unfold qCw;rw[qAP,qAB];refine qAJ (λhlt=>?_) (λhge=>?_)
 rotate_left
 ·have hge:k=F.L.length:=by have:=oF hge;omega
  subst hge;exact hK v t kt acc
 have hlt:k<F.L.length:=by have:=oT hlt;omega
 have hx:F.L[k]?=some F.L[k]:=gE hlt;generalize F.L[k]=x at hx;obtain⟨pb,po,e1,e2,e3⟩:=(h2.L.sub kt).get (i:=k) (r:=lkC x) (by rw[List.getElem?_map,hx];rfl);refine qAA e1 (qAA e2 (qAM λb9 s10 hb9 h9 u9=>qAT h9 rfl rfl rfl λs11 h11 u11=>?_));have k11:Sub t s11:=qAW (u9.sub hb9) u11 hb9;have h11:s11 b9=some (false,.cells 91 (lkC x)):=h11;refine qXR (hS0.sub (kt.trans k11)) hx λs13 k13=>?_;have k13':=kt.trans (k11.trans k13);have h13:=k13 _ _ h11;have acc13:=acc.sub (k11.trans k13);have hlen:=qRo (F:=F) (W:=W) (n:=a) k;have hsucc:=qVj (F:=F) (W:=W) (n:=a) (k:=k);have ea:qPU F W a k=if works F W k then(if x.1=a then some x.2.1 else if x.2.1=a then some x.1 else none)else none:=by unfold qPU;rw[hx]
 rw[ea]at hsucc;have j1:∀{v':AV}{t':Hq},Acc 3 s t' v' (ix (nbrN F W a (k+1)))->Sub s t'->qAi XX v' (.int .i64 (k:Int)) (λys t m=>∃(k:Nat) (v:AV),ys=[v,.int .i64 (k:Int)]/\k<=F.L.length/\m=F.L.length-k/\Acc 3 s t v (ix (nbrN F W a k))/\Sub s t) (F.L.length-k) K t':=fun {v' t'} a' kk=>by unfold qAi;rw[qAN,qAB,qAb (by omega) (by omega)];exact⟨_,by omega,k+1,v',rfl,by omega,rfl,a',kk⟩
 rw[qAe,qAB];cases c:works F W k with
 | false=>
   rw[c]at hsucc;rw[Bool.not_false,qAF];exact j1 (by rw[hsucc];simpa using acc13) k13'
 | true=>
   rw[c]at hsucc;rw[Bool.not_true,qAD];refine qAA (a:=.ptr b9 0) rfl (qAA (a:=.int .i64 x.1) (by rw[qAK h13];rfl) ?_);simp only[qAX,qAV,Bool.false_bne,qAB];refine qAJ (λq=>?_) (λq=>?_)
   ·have q:=eq_of_beq q
    rw[if_pos rfl,if_pos q]at hsucc;refine qAA (a:=.ptr b9 1) rfl (qAA (a:=.int .i64 x.2.1) (by rw[qAK h13];rfl) ?_);exact app1 rfl acc13 k13' (by omega) λv' s' a' ks=>j1 (by rw[hsucc];exact a') ks
   ·have q:¬x.1=a:=by simpa using q
    rw[if_pos rfl,if_neg q]at hsucc;refine qAA (a:=.ptr b9 1) rfl (qAA (a:=.int .i64 x.2.1) (by rw[qAK h13];rfl) ?_);simp only[qAX,qAV,Bool.false_bne,qAB];refine qAJ (λq2=>?_) (λq2=>?_)
    ·have q2:=eq_of_beq q2
     rw[if_pos q2]at hsucc;refine qAA (a:=.ptr b9 0) rfl (qAA (a:=.int .i64 x.1) (by rw[qAK h13];rfl) ?_);exact app1 rfl acc13 k13' (by omega) λv' s' a' ks=>j1 (by rw[hsucc];exact a') ks
    ·have q2:¬x.2.1=a:=by simpa using q2
     rw[if_neg q2]at hsucc;exact j1 (by rw[hsucc];simpa using acc13) k13'
def gI:Nat->List Int->List AEnt
 |_,[]=>[]
 |i,x::l=>{ key:=.int .i64 x,val:=.bool true,born:=i }::gI (i+1) l
theorem qYP:∀{l:List Int}{i:Nat}{y:Int},gI i (l ++ [y])=gI i l ++ [{ key:=.int .i64 y,val:=.bool true,born:=i+l.length }]
 |[],i,y=>rfl
 | x::l,i,y=>by
   show _::gI (i+1) (l ++ [y])=_::(gI (i+1) l++_);rw[qYP,List.length_cons,show i+1+l.length=i+(l.length+1)by omega]
theorem ikey{a b:Int}:qMC (.int .i64) (.int .i64 a) (.int .i64 b)=some (decide (b=a)):=by
 show some (eqI a b)=_;rw[qD5]
 congr 1
 rw[Bool.eq_iff_iff];simp only[beq_iff_eq,decide_eq_true_eq];exact⟨λh=>h.symm,λh=>h.symm⟩
theorem qQq{y:Int}:∀{l:List Int}{i j:Nat},(y∈l->∃p,qKg (.int .i64 y) (gI i l) j=some (some (p,.bool true)))/\(y ∉ l->qKg (.int .i64 y) (gI i l) j=some none)
 |[],_,_=>⟨λh=>(by cases h),λ_=>rfl⟩
 | x::l,i,j=>by
   have e:qKg (.int .i64 y) (gI i (x::l)) j=match (some (decide (x=y)):Option Bool)with
     |some true=>some (some (j,.bool true))
     |some false=>qKg (.int .i64 y) (gI (i+1) l) (j+1)
     |none=>none:=by
    rw[<- ikey];rfl
   rw[e];obtain⟨i1,i2⟩:=qQq (y:=y) (l:=l) (i:=i+1) (j:=j+1)
   by_cases h:x=y
   ·rw[decide_eq_true h]
    exact⟨λ_=>⟨j,rfl⟩,λq=>absurd (by rw[h];exact List.mem_cons_self) q⟩
   ·rw[decide_eq_false h]
    exact⟨λq=>i1 ((mC q).resolve_left λe=>h e.symm),λq=>i2 λe=>q (mO _ e)⟩
theorem qW1{y:Int}(hm:t m0=some (tg,.map (gI 0 Q) c)):∃r,getM t (.map m0) (.int .i64 y)=some r/\retM (.bool false) false r=.bool (decide (y∈Q)):=by
 obtain⟨i1,i2⟩:=qQq (y:=y) (l:=Q) (i:=0) (j:=0)
 by_cases h:y∈Q
 ·obtain⟨p,hp⟩:=i1 h
  refine⟨some (.bool true),?_,by rw[decide_eq_true h];rfl⟩;unfold getM;simp only[hm,hp]
 ·refine⟨none,?_,by rw[decide_eq_false h];rfl⟩
  unfold getM;simp only[hm,i2 h]
theorem qRe{y:Int}{R:Hq->Prop}(hm:t m0=some (false,.map (gI 0 Q) Q.length))(hy:y ∉ Q)(hR:∀s',s' m0=some (false,.map (gI 0 (Q ++ [y])) (Q ++ [y]).length)->Upto m0 t s'->R s'):oK (putM t (.map m0) (.int .i64 y) (.bool true)) R:=by refine qAA (a:=hset t m0 (false,.map (gI 0 (Q ++ [y])) (Q ++ [y]).length)) ?_ (hR _ (by simp[hset]) λi hi=>by simp[hset,hi]);unfold putM putE;simp only[hm,(qQq (y:=y) (l:=Q) (i:=0) (j:=0)).2 hy,qYP,zAY,lAp,List.length_singleton]
structure Bq(H t:Hq)(m0:Nat)(v:AV)(Q:List Int):Prop where
 sub:Sub H t
 mp:t m0=some (false,.map (gI 0 Q) Q.length)
 nm:H m0=none
 qe:∃b cap,v=.slc b 0 Q.length cap 1/\(cap=none∨cap=some Q.length)/\t b=some (false,.cells 3 (ix Q))/\H b=none
theorem Bq.sl(h:Bq H t m0 v Q):Sl t v (ix Q):=by
 obtain⟨b,cap,rfl,hc,hb,_⟩:=h.qe;refine Sl.mk hb qA3.symm λc e=>?_;rcases hc with rfl|rfl
 ·cases e
 ·cases e;rw[qA3];exact Nat.le_refl _
theorem Bq.grow{t':Hq}{L:List AV}(h:Bq H t m0 v Q)(k:Sub t t')(hw:Acc 3 t t' w L):∃H2,Bq H2 t' m0 v Q/\Sub H H2/\Sl H2 w L:=by
 obtain⟨b,cap,e,hc,hb,hH⟩:=h.qe;have off:∀{j:Nat}{x:Bool×Blk},t' j=some x->j≠m0->j≠b->(λi=>if i=m0∨i=b then none else t' i) j=some x:=fun {j x} hx n1 n2=>by show(if j=m0∨j=b then none else t' j)=_;rw[if_neg (by rintro (q|q);exact n1 q;exact n2 q)];exact hx
 refine⟨λi=>if i=m0∨i=b then none else t' i,⟨λi x hi=>?_,k _ _ h.mp,by simp,b,cap,e,hc,k _ _ hb,by simp⟩,λi x hi=>off (k _ _ (h.sub _ _ hi)) (λq=>by rw[q,h.nm]at hi;cases hi) (λq=>by rw[q,hH]at hi;cases hi),?_⟩
 ·have hi:(if i=m0∨i=b then none else t' i)=some x:=hi
  split at hi
  ·cases hi
  ·exact hi
 ·rcases hw with hw|⟨d,h0,e1,h1⟩
  ·exact .inl hw
  ·rw[e1]
   exact Sl.mk (off h1 (λq=>by rw[q,h.mp]at h0;cases h0) λq=>by rw[q,hb]at h0;cases h0) rfl (by simp)
theorem Bq.push{y:Int}{C:AV->Hq->Prop}(h:Bq H t m0 v Q)(hy:y ∉ Q)(hl:Q.length<=100000)(hC:∀v' t',Bq H t' m0 v' (Q ++ [y])->C v' t'):
  oK (putM t (.map m0) (.int .i64 y) (.bool true)) λs1=>oK (qAl (repl 1 [(.int .i64 0)]) [(0,1,.int .i64 y)]) λc=>qAa c=true/\newK 3 c (λb s2=>appK 3 1 v (.slc b 0 1 (some 1) 1) C s2) s1:=by
 obtain⟨b,cap,rfl,hc,hb,hH⟩:=h.qe;have nb:b≠m0:=λe=>by rw[e,h.mp]at hb;cases hb
 refine qRe h.mp hy λs1 hm u1=>qDy rfl rfl λd s2 hd h2 u2=>?_;have k2:=u2.sub hd;have hm2:=k2 _ _ hm;have hb2:s2 b=some (false,.cells 3 (ix Q)):=k2 _ _ (by rw[u1 b nb];exact hb);have hs2:Sub H s2:=λi x hi=>k2 _ _ (by rw[u1 i (λe=>by rw[e,h.nm]at hi;cases hi)];exact h.sub _ _ hi);have hyl:Sl s2 (.slc d 0 1 (some 1) 1) [AV.int .i64 y]:=Sl.mk h2 rfl (by simp);have hq:ix (Q ++ [y])=ix Q ++ [.int .i64 y]:=by unfold ix;rw[List.map_append];rfl
 rcases hc with rfl|rfl
 ·have acc:Acc 3 H s2 (.slc b 0 Q.length none 1) (ix Q):=.inr ⟨b,hH,by rw[qA3],hb2⟩
  refine acc.app (m:=[.int .i64 y]) hyl (by simp) (by rw[qA3];simp;omega) (λi hi=>?_) λv' s' a' kq=>hC v' s' ⟨λi x hi=>kq i x (hs2 _ _ hi) λb' e=>?_,kq m0 _ hm2 λb' e=>?_,h.nm,?_⟩
  ·cases e:H i with
   |none=>exact absurd e hi
   |some x=>rw[hs2 _ _ e];simp
  ·have e:=(AV.slc.inj e).1
   subst e;rintro rfl;rw[hH]at hi;cases hi
  ·have e:=(AV.slc.inj e).1
   subst e;exact Ne.symm nb
  ·rcases a' with⟨_,q⟩|⟨d',q0,q1,q2⟩
   ·exact absurd q (by simp)
   ·exact⟨d',none,by rw[q1,<- hq,qA3],.inl rfl,by rw[hq];exact q2,q0⟩
 ·have hsl:Sl s2 (.slc b 0 (ix Q).length (some Q.length) 1) (ix Q):=Sl.mk hb2 rfl λc e=>by cases e;rw[qA3];exact Nat.le_refl _
  have e0:(AV.slc b 0 Q.length (some Q.length) 1)=.slc b 0 (ix Q).length (some Q.length) 1:=by rw[qA3]
  rw[e0];refine qWV hsl hyl (by simp) (by rw[qA3];simp) (by rw[qA3];simp;omega) λd' s' hd' h' u'=>hC _ s' ⟨hs2.trans (u'.sub hd'),(u'.sub hd') _ _ hm2,h.nm,d',none,?_,.inl rfl,by rw[hq];exact h',qA6 hs2 hd'⟩;simp[qA3]
theorem qSX{nx:Int->List Int}(h0:0<=a)(h1:a<(N:Int))(hN:N<=10000)(hr:∀x,∀y∈nx x,0<=y/\y<(N:Int))(hnl:∀x,(nx x).length<=100000)
  (hp:∀(x:Int) (s1:Hq) (J:AV->Hq->Prop),Sub s s1->(∀v s',Sub s1 s'->Acc 3 s1 s' v (ix (nx x))->J v s')->funK TP XX fv [.int .i64 x] J s1)
  (hK:∀b cap s' Q,Sub s s'->s b=none->(cap=none∨cap=some Q.length)->s' b=some (false,.cells 3 (ix Q))->Bfs nx a N Q Q.length->K (.slc b 0 Q.length cap 1) s'):wC TP XX 74 [.int .i64 a,fv] K s:=by
 refine qGO ?_;intro m0 hm0;have z0:(hset s m0 (false,.map [] 0)) m0=some (false,.map (gI 0 []) 0):=by simp[hset];rfl
 have u0:Upto m0 s (hset s m0 (false,.map [] 0)):=λi hi=>by simp[hset,hi]
 generalize hset s m0 (false,.map [] 0)=t0 at z0 u0;have k0:=u0.sub hm0;refine qRe (Q:=[]) z0 (by simp) λs2 hm2 u2=>?_;have k2:Sub s s2:=qAW k0 u2 hm0;refine qDy rfl rfl λb4 s5 hb4 h5 u5=>?_;have k5:=u5.sub hb4;have bq5:Bq s s5 m0 (.slc b4 0 1 (some 1) 1) [a]:=⟨k2.trans k5,k5 _ _ hm2,hm0,b4,some 1,rfl,.inr rfl,h5,qA6 k2 hb4⟩
 refine⟨λys t m=>∃(i:Nat) (v:AV) (Q:List Int),ys=[v,.int .i64 (i:Int)]/\i<=Q.length/\m=N-i/\Bq s t m0 v Q/\Bfs nx a N Q i,⟨_,0,_,[a],rfl,by omega,rfl,bq5,Bfs.start h0 h1⟩,?_⟩;rintro f t m ⟨i,v,Q,hy,hi,rfl,bq,bf⟩;simp only[cI,and_true]at hy;rw[hy.1,hy.2];clear hy;have hQN:=bf.len;unfold qDa;refine qAA (by rw[bq.sl.len,qA3]) ?_;rw[qAP,qAB];refine qAJ (λhlt=>?_) (λhge=>?_)
 rotate_left
 ·have hge:i=Q.length:=by have:=oF hge;omega
  subst hge;obtain⟨b,cap,rfl,hc,hb,hH⟩:=bq.qe;exact hK b cap t Q bq.sub hH hc hb bf
 have hlt:i<Q.length:=by have:=oT hlt;omega
 obtain⟨pp,g1,g2⟩:=bq.sl.get (i:=i) (by rw[qA3];exact hlt);rw[qFd hlt]at g2;have hx:Q[i]?=some Q[i]:=gE hlt;generalize Q[i]=x at hx g2;refine qAA g1 (qAA g2 (hp x t _ bq.sub λnv s12 k12 hnv=>?_));have nl:qAQ nv=some (nx x).length:=by rw[hnv.sl.len,qA3]
 have hnx:=hnl x;obtain⟨H2,bq2,kH,hsl⟩:=bq.grow k12 hnv;refine qAA nl ?_;refine⟨λys t m=>∃(k:Nat) (v:AV) (Q':List Int),ys=[v,.int .i64 (k:Int)]/\k<=(nx x).length/\m=(nx x).length-k/\Bq H2 t m0 v Q'/\Bfr nx a N Q Q' i x k,⟨_,0,_,Q,rfl,by omega,rfl,bq2,bf.enter hx⟩,?_⟩;rintro f1 t1 m1 ⟨k,v1,Q',hy,hk,rfl,bq1,br⟩;simp only[cI,and_true]at hy;rw[hy.1,hy.2];clear hy;have hQN':=br.b.len;unfold qDV;rw[qAP,qAB];refine qAJ (λhlk=>?_) (λhgk=>?_)
 rotate_left
 ·have hgk:(nx x).length<=k:=by have:=oF hgk;omega
  have bf':=br.leave hgk;have hlQ:=(gS br.at').1;rw[qAN,qAB,qAb (by omega) (by omega)];obtain⟨b,cap,e,hc,hb,hH⟩:=bq1.qe;exact⟨_,by omega,i+1,v1,Q',rfl,by omega,rfl,⟨kH.trans bq1.sub,bq1.mp,qA6 kH bq1.nm,b,cap,e,hc,hb,qA6 kH hH⟩,bf'⟩
 have hlk:k<(nx x).length:=by have:=oT hlk;omega
 obtain⟨pp1,q1,q2⟩:=(hsl.sub bq1.sub).get (i:=k) (by rw[qA3];exact hlk);rw[qFd hlk]at q2;have hyk:(nx x)[k]?=some (nx x)[k]:=gE hlk;generalize(nx x)[k]=y at hyk q2;obtain⟨r,r1,r2⟩:=qW1 (y:=y) bq1.mp;have j2:∀{v':AV}{t':Hq}{Q'':List Int},Bq H2 t' m0 v' Q''->Bfr nx a N Q Q'' i x (k+1)->qBu XX v' (.int .i64 (k:Int)) (λys t m=>∃(k:Nat) (v:AV) (Q':List Int),ys=[v,.int .i64 (k:Int)]/\k<=(nx x).length/\m=(nx x).length-k/\Bq H2 t m0 v Q'/\Bfr nx a N Q Q' i x k) ((nx x).length-k) (λys t m=>∃(i:Nat) (v:AV) (Q:List Int),ys=[v,.int .i64 (i:Int)]/\i<=Q.length/\m=N-i/\Bq s t m0 v Q/\Bfs nx a N Q i) (N-i) K t':=fun {v' t' Q''} q q'=>by unfold qBu;rw[qAN,qAB,qAb (by omega) (by omega)];exact⟨_,by omega,k+1,v',Q'',rfl,by omega,rfl,q,q'⟩
 refine qAA q1 (qAA q2 (qAA r1 ?_));rw[r2,qAe,qAB]
 by_cases hm:y∈Q'
 ·rw[decide_eq_true hm,Bool.not_true,qAD]
  exact j2 bq1 (br.old hyk hm)
 ·rw[decide_eq_false hm,Bool.not_false,qAF]
  exact bq1.push hm (by omega) λv' t' q=>j2 q (br.new hyk (hr x y (mG hyk)) hm)
end Go.AM.OR
set_option maxRecDepth 100000
namespace Go.AM.OR
open Go Go.Proofs Go.AM.TN
variable {K:AV→Hq→Prop} {s s' s0 t H:Hq} {fv:AV} {b c i k n:Nat} {h l a:Int} {R:AV→Prop} {Q:List Int} {cap:Option Nat}
theorem ia1(h:i<n):qAY 1 (.slc b 0 n cap 1) (.int .i64 (i:Int))=some (.ptr b i):=by
 have:Nat.blt i n=true:=by rw[Nat.blt_eq];exact h
 simp[qAY,this]
theorem qZi(hc:cap=none∨cap=some n)(h:i<=n):∃cap',qD6 1 (.slc b 0 n cap 1) (some (.int .i64 (i:Int))) none none=some (.slc b i (n-i) cap' 1):=by
 rcases hc with rfl|rfl
 ·exact⟨none,by simp[qD6,bound,bL h]⟩
 ·exact⟨some (n-i),by simp[qD6,bound,bL h]⟩
theorem zACS(hc:cap=none∨cap=some n)(h:i<=n):∃cap',qD6 1 (.slc b 0 n cap 1) none (some (.int .i64 (i:Int))) none=some (.slc b 0 i cap' 1)/\∀c,cap'=some c->i<=c:=by
 rcases hc with rfl|rfl
 ·exact⟨none,by simp[qD6,bound,bL h],λc e=>by cases e⟩
 ·exact⟨some n,by simp[qD6,bound,bL h],λc e=>by cases e;exact h⟩
theorem qPc(z:AV)(hz:z.one=true):∀n,qAa (List.replicate n z)=true
 | 0=>rfl
 | n+1=>by
   rw[List.replicate_succ];simp[qAa,hz,qPc z hz n]
theorem qXQ{cap':Option Nat}{R:Hq->Prop}{L:List AV}(hb:s b=some (false,.cells 3 L))(hi:i+n=L.length)(hR:∀s' T,s' b=some (false,.cells 3 (L.take i++T))->Upto b s s'->R s'):qR9 [(.int .i64 0)] 1 (.slc b i n cap' 1) (λ_ s'=>R s') s:=by
 refine⟨rfl,?_⟩;cases n with
 | zero=>
   refine hR s [] ?_ λ_ _=>rfl;rw[hb,List.append_nil,List.take_of_length_le (by omega)]
 | succ n=>
   simp only[qOD];have hw:wrN s (.ptr b i) (List.replicate (n+1) (AV.int .i64 0))=some (hset s b (false,.cells 3 (qBI L i (List.replicate (n+1) (AV.int .i64 0))))):=by
    have e1:Nat.ble (i+(List.replicate (n+1) (AV.int .i64 0)).length) L.length=true:=by rw[Nat.ble_eq,List.length_replicate];omega
    simp only[wrN,hb,e1,qPc (.int .i64 0) rfl,Bool.and_self,cond_true]
   refine qAA hw (hR _ (List.replicate (n+1) (AV.int .i64 0)) ?_ λj hj=>by simp[hset,hj]);have e2:qBI L i (List.replicate (n+1) (AV.int .i64 0))=L.take i++List.replicate (n+1) (AV.int .i64 0):=by unfold qBI;rw[List.length_replicate,List.drop_eq_nil_of_le (by omega),List.append_nil]
   simp[hset,e2]
theorem zAA0{p:Int->Bool}(hH:Sub H s)(hHb:H b=none)(hb:s b=some (false,.cells 3 (ix Q)))(hc:cap=none∨cap=some Q.length)(hl:Q.length<=100000)
  (hp:∀(x:Int) (s1:Hq) (J:AV->Hq->Prop),Sub H s1->(∀s',Sub s1 s'->J (.bool (p x)) s')->funK TP XX fv [.int .i64 x] J s1)
  (hK:∀cap' T s',(∀c,cap'=some c->(Q.filter λx=>!p x).length<=c)->Sub H s'->s' b=some (false,.cells 3 (ix (Q.filter λx=>!p x)++T))->K (.slc b 0 (Q.filter λx=>!p x).length cap' 1) s'):wC TP XX 76 [.slc b 0 Q.length cap 1,fv] K s:=by
 have hv:∀{t:Hq}{A:List Int},t b=some (false,.cells 3 (ix A))->A.length=Q.length->Sl t (.slc b 0 Q.length cap 1) (ix A):=fun {t A} h1 h2=>Sl.mk h1 (by rw[qA3,h2]) λc e=>by
  rcases hc with rfl|rfl
  ·cases e
  ·cases e;rw[qA3,h2];exact Nat.le_refl _
 refine qFQ (qPP XX_0 (p:=p) (l:=Q) (by omega) (hv hb rfl) (λx s1 J k hJ=>hp x s1 J (hH.trans k) hJ) λs1 k1=>?_);have hb1:=k1 _ _ hb;cases hf:Q.findIdx? p with
 | none=>
   have e:fstI p Q=-1:=by unfold fstI;rw[hf]
   have ef:(Q.filter λx=>!p x)=Q:=List.filter_eq_self.2 λx hx=>by rw[List.findIdx?_eq_none_iff.1 hf x hx];rfl
   rw[e];refine qAA (a:=.bool true) rfl ?_;rw[qAF];rw[ef]at hK;exact hK cap [] s1 (λc e=>by rcases hc with rfl|rfl<;>cases e;exact Nat.le_refl _) (hH.trans k1) (by rw[List.append_nil];exact hb1)
 | some i0=>
   have e:fstI p Q=(i0:Int):=by unfold fstI;rw[hf]
   obtain⟨hi0,hp0,hlt0⟩:=List.findIdx?_eq_some_iff_getElem.1 hf;rw[e];simp only[qAX,qAV,Bool.false_bne,qAB];rw[show((i0:Int) == -1)=false from beq_eq_false_iff_ne.2 (by omega),qAD];rw[qAN,qAB,qAb (by omega) (by omega)];have x0:Q[i0]?=some Q[i0]:=gE hi0;have s0:(Q.take (i0+1)).filter (λx=>!p x)=Q.take i0:=by rw[qMo x0,if_neg (by rw[hp0];simp),List.append_nil];refine List.filter_eq_self.2 λx hx=>?_;obtain⟨j,hj,rfl⟩:=List.mem_iff_getElem.1 hx;rw[List.length_take]at hj;rw[List.getElem_take];have:=hlt0 j (by omega);simpa using this
   refine⟨λys t m=>∃(i j:Nat) (A:List Int),ys=[.int .i64 (i:Int),.int .i64 (j:Int)]/\j<=Q.length/\m=Q.length-j/\Sub H t/\t b=some (false,.cells 3 (ix A))/\A.length=Q.length/\A.take i=(Q.take j).filter (λx=>!p x)/\i<j/\A.drop j=Q.drop j,⟨_,i0,i0+1,Q,rfl,by omega,rfl,hH.trans k1,hb1,rfl,s0.symm,by omega,rfl⟩,?_⟩;rintro f t m ⟨i,j,A,hy,hj,rfl,kt,tb,hA,htk,hij,hdr⟩;simp only[cI,and_true]at hy;rw[hy.1,hy.2];clear hy;unfold qDD;refine qAA (a:=Q.length) rfl ?_;rw[qAP,qAB];refine qAJ (λhlt=>?_) (λhge=>?_)
   rotate_left
   ·have hge:j=Q.length:=by have:=oF hge;omega
    subst hge;rw[List.take_length]at htk;obtain⟨cf,ef⟩:=qZi (b:=b) hc (i:=i) (by omega);obtain⟨ct,et,hct⟩:=zACS (b:=b) hc (i:=i) (by omega);have hlen:i=(Q.filter λx=>!p x).length:=by rw[<- htk,List.length_take,hA];omega
    refine qAA ef (qXQ tb (by rw[qA3,hA];omega) λs18 T h18 u18=>qAA et ?_);have e18:(ix A).take i=ix (Q.filter λx=>!p x):=by rw[<- htk];unfold ix;rw[List.map_take]
    rw[e18]at h18;have:=hK ct T s18 (λc e=>by rw[<- hlen];exact hct c e) (λq x hq=>by rw[u18 q (λe=>by rw[e,hHb]at hq;cases hq)];exact kt _ _ hq) h18;rw[<- hlen]at this;exact this
   have hlt:j<Q.length:=by have:=oT hlt;omega
   have hx:Q[j]?=some Q[j]:=gE hlt;have hAj:A[j]?=some Q[j]:=by
    have e1:(A.drop j)[0]?=(Q.drop j)[0]?:=by rw[hdr]
    rw[List.getElem?_drop,List.getElem?_drop]at e1;rw[<- hx];exact e1
   generalize Q[j]=x at hx hAj;have hixj:(ix A)[j]?=some (.int .i64 x):=by unfold ix;rw[List.getElem?_map,hAj];rfl
   refine qAA (ia1 hlt) (qAA (a:=.int .i64 x) (by rw[qAK tb];exact hixj) (hp x t _ kt λs10 k10=>?_));have tb10:=k10 _ _ tb;have hsucc:=qMo (p:=λx=>!p x) hx;have j1:∀{i':Nat}{t':Hq}{A':List Int},Sub H t'->t' b=some (false,.cells 3 (ix A'))->A'.length=Q.length->A'.take i'=(Q.take (j+1)).filter (λx=>!p x)->i'<j+1->A'.drop (j+1)=Q.drop (j+1)->qBY XX (.int .i64 (i':Int)) (.int .i64 (j:Int)) (λys t m=>∃(i j:Nat) (A:List Int),ys=[.int .i64 (i:Int),.int .i64 (j:Int)]/\j<=Q.length/\m=Q.length-j/\Sub H t/\t b=some (false,.cells 3 (ix A))/\A.length=Q.length/\A.take i=(Q.take j).filter (λx=>!p x)/\i<j/\A.drop j=Q.drop j) (Q.length-j) K t':=fun {i' t' A'} a1 a2 a3 a4 a5 a6=>by unfold qBY;rw[qAN,qAB,qAb (by omega) (by omega)];exact⟨_,by omega,i',j+1,A',rfl,by omega,rfl,a1,a2,a3,a4,a5,a6⟩
   have hd1:A.drop (j+1)=Q.drop (j+1):=by rw[<- List.drop_drop,<- List.drop_drop,hdr]
   rw[qAe,qAB];cases cp:p x with
   | true=>
     rw[cp]at hsucc;rw[Bool.not_true,qAD];exact j1 (kt.trans k10) tb10 hA (by rw[hsucc,htk];simp) (by omega) hd1
   | false=>
     rw[cp]at hsucc;rw[Bool.not_false,qAF];refine qAA (ia1 (by omega)) (qBF tb10 (by rw[qA3];omega) rfl λs14 h14 u14=>?_);have h14:s14 b=some (false,.cells 3 (ix (A.set i x))):=by rw[h14];unfold ix;rw[List.map_set]
     rw[qAN,qAB,qAb (by omega) (by omega)];refine j1 (i':=i+1) (A':=A.set i x) (λq y hq=>by rw[u14 q (λe=>by rw[e,hHb]at hq;cases hq)];exact(kt.trans k10) _ _ hq) h14 (by rw[List.length_set,hA]) ?_ (by omega) ?_
     ·rw[hsucc,List.take_add_one,List.getElem?_set_self (by omega),List.take_set,List.set_eq_of_length_le (by rw[List.length_take];omega),htk]
      rfl
     ·rw[List.drop_set,if_pos (by omega)]
      exact hd1
theorem qVp{l:List Int}{y:Int}:y∈qDr l↔y∈l:=(qEH l).mem_iff
end Go.AM.OR
set_option maxRecDepth 100000
namespace Go.AM.OR
open Go Go.Proofs Go.AM.TN
variable {K:AV→Hq→Prop} {s s':Hq} {v:AV} {cs:List AV} {b c k n:Nat} {tg:Bool} {x:FC.Fr}
abbrev MXM:Int:=281474976710655
def prtB(n:Int):Bool:=(n == 6)||(n == 17)
def ckA(x:FC.Fr):Int:=if(decide (x.a3<1)||(decide (2<x.a3)||(decide (MXM<x.a4)||decide (MXM<x.a6))))=true then 2 else 0
def ckI(x:FC.Fr):Int:=if(decide (x.a10<0)||(decide (255<x.a10)||(decide (x.pr<0)||(decide (255<x.pr)||(decide (x.p1<0)||(decide (65535<x.p1)||(decide (x.p2<0)||decide (65535<x.p2))))))))=true then 2 else if(!prtB x.pr&&(x.p1 != 0||x.p2 != 0))=true then 3 else 0
def arC(x:FC.Fr):List AV:=[.int .i64 x.a3,.int .u64 x.a4,.int .u32 x.a5,.int .u64 x.a6,.int .u32 x.a7]
def ipC(x:FC.Fr):List AV:=[.int .u32 x.hs,.int .u32 x.hd,.int .i64 x.a10,.int .i64 x.pr,.int .i64 x.p1,.int .i64 x.p2]
def ar0(x:FC.Fr):Bool:=(x.a3 == 0)&&((x.a4 == 0)&&((x.a5 == 0)&&((x.a6 == 0)&&(x.a7 == 0))))
def ip0(x:FC.Fr):Bool:=(x.hs == 0)&&((x.hd == 0)&&((x.a10 == 0)&&((x.pr == 0)&&((x.p1 == 0)&&(x.p2 == 0)))))
def ckE(x:FC.Fr):Int:=if(decide (MXM<x.src)||decide (MXM<x.dst))=true then 2 else if qNG x.src=true then 3 else if(x.kind != 0&&(x.kind != 1&&x.kind != 2))=true then 6 else
 if((x.kind != 1&&!ar0 x)||(x.kind != 2&&!ip0 x))=true then 3 else if(x.kind == 1)=true then ckA x else if(x.kind == 2)=true then ckI x else 0
theorem boxN{elem:TypeId}{cs:List AV}(ho:qAa cs=true)(h:∀b s',s b=none->s' b=some (false,.cells elem cs)->Upto b s s'->K (.ptr b 0) s'):boxK elem (.agg cs) K s:=by refine⟨by simpa using ho,?_⟩;rw[qFW];exact qAM h
theorem qJl{b j k:Nat}{e:TypeId}{cs:List AV}(h:s b=some (tg,.cells e cs))(hj:j+k<=cs.length):rdN s k (.ptr b j)=some ((cs.drop j).take k):=by have e0:Nat.ble (j+k) cs.length=true:=bL hj;simp only[rdN,h,qGf,e0,cond_true]
theorem qTo{p:Int}(hK:K (.bool (prtB p)) s):wC TP XX 127 [.int .i64 p] K s:=by
 refine qJP ?_;unfold qHi prtB at *;simp only[qAX,qAV,Bool.false_bne,qAB];cases c:(p == 6)with
 | true=>
   rw[c]at hK;rw[qAF];unfold qCs;exact qAA (a:=.bool true) rfl hK
 | false=>
   rw[c,Bool.false_or]at hK;rw[qAD];unfold qCs;exact qAA (a:=.bool _) rfl hK
theorem qRS(hK:∀s',Sub s s'->K (.int .i64 (ckA x)) s'):wC TP XX 99 [.agg (arC x)] K s:=by
 refine qH4 (boxN rfl λb s1 hb h1 u1=>?_);have fin:=hK s1 (u1.sub hb);unfold ckA at fin;have r:∀{j:Nat}{y:AV}{R:AV->Prop},(arC x)[j]?=some y->R y->oK (qAC j (.ptr b 0)) λv=>oK (rd1 s1 v) R:=fun {j y R} e h=>qAA (a:=.ptr b j) (by rw[qAI,zAY]) (qAA (by rw[qAK h1];exact e) h);have T2:∀{t1 t2:AV},qAR t1 (.bool true) t2=some (.bool true)->K (.int .i64 2) s1->qBx XX t1 t2 K s1:=fun {t1 t2} e h=>by unfold qBx;refine qAA e ?_;rw[qAF];exact h
 have T1:∀{t1 t2:AV},qAR t1 (.bool true) t2=some (.bool true)->K (.int .i64 2) s1->qBw XX (.ptr b 0) t1 t2 K s1:=fun {t1 t2} e h=>by unfold qBw;refine qAA e ?_;rw[qAF];exact T2 rfl h
 have T0:∀{t1 t2:AV},qAR t1 (.bool true) t2=some (.bool true)->K (.int .i64 2) s1->qBv XX (.ptr b 0) t1 t2 K s1:=fun {t1 t2} e h=>by unfold qBv;refine qAA e ?_;rw[qAF];exact T1 rfl h
 refine r (y:=.int .i64 x.a3) rfl ?_;rw[qAP,qAB];cases c1:decide (x.a3<1)with
 |true=>rw[c1]at fin;rw[qAF];exact T0 rfl (by simpa using fin)
 | false=>
   rw[qAD];refine r (y:=.int .i64 x.a3) rfl ?_;rw[qBO,qAB];cases c2:decide (2<x.a3)with
   |true=>rw[c1,c2]at fin;exact T0 rfl (by simpa using fin)
   | false=>
     unfold qBv;refine qAA (a:=.bool false) rfl ?_;rw[qAD];refine r (y:=.int .u64 x.a4) rfl ?_;rw[qBO,qAB];cases c3:decide (MXM<x.a4)with
     |true=>rw[c1,c2,c3]at fin;exact T1 rfl (by simpa using fin)
     | false=>
       unfold qBw;refine qAA (a:=.bool false) rfl ?_;rw[qAD];refine r (y:=.int .u64 x.a6) rfl ?_;rw[qBO,qAB];cases c4:decide (MXM<x.a6)with
       |true=>rw[c1,c2,c3,c4]at fin;exact T2 rfl (by simpa using fin)
       | false=>
         rw[c1,c2,c3,c4]at fin;unfold qBx;refine qAA (a:=.bool false) rfl ?_;rw[qAD];simpa using fin
theorem qSZ(hK:∀s',Sub s s'->K (.int .i64 (ckI x)) s'):wC TP XX 100 [.agg (ipC x)] K s:=by
 refine qI0 (boxN rfl λb s1 hb h1 u1=>?_);have fin:=hK s1 (u1.sub hb);unfold ckI at fin;have r:∀{j:Nat}{y:AV}{R:AV->Prop},(ipC x)[j]?=some y->R y->oK (qAC j (.ptr b 0)) λv=>oK (rd1 s1 v) R:=fun {j y R} e h=>qAA (a:=.ptr b j) (by rw[qAI,zAY]) (qAA (by rw[qAK h1];exact e) h);have T5:∀{t1 t2:AV},qAR t1 (.bool true) t2=some (.bool true)->K (.int .i64 2) s1->qB6 XX (.ptr b 0) t1 t2 K s1:=fun {t1 t2} e h=>by unfold qB6;refine qAA e ?_;rw[qAF];exact h
 have T4:∀{t1 t2:AV},qAR t1 (.bool true) t2=some (.bool true)->K (.int .i64 2) s1->qCA XX (.ptr b 0) t1 t2 K s1:=fun {t1 t2} e h=>by unfold qCA;refine qAA e ?_;rw[qAF];exact T5 rfl h
 have T3:∀{t1 t2:AV},qAR t1 (.bool true) t2=some (.bool true)->K (.int .i64 2) s1->qB8 XX (.ptr b 0) t1 t2 K s1:=fun {t1 t2} e h=>by unfold qB8;refine qAA e ?_;rw[qAF];exact T4 rfl h
 have T2:∀{t1 t2:AV},qAR t1 (.bool true) t2=some (.bool true)->K (.int .i64 2) s1->qB4 XX (.ptr b 0) t1 t2 K s1:=fun {t1 t2} e h=>by unfold qB4;refine qAA e ?_;rw[qAF];exact h
 have T1:∀{t1 t2:AV},qAR t1 (.bool true) t2=some (.bool true)->K (.int .i64 2) s1->qB5 XX (.ptr b 0) t1 t2 K s1:=fun {t1 t2} e h=>by unfold qB5;refine qAA e ?_;rw[qAF];exact T2 rfl h
 have T0:∀{t1 t2:AV},qAR t1 (.bool true) t2=some (.bool true)->K (.int .i64 2) s1->qB9 XX (.ptr b 0) t1 t2 K s1:=fun {t1 t2} e h=>by unfold qB9;refine qAA e ?_;rw[qAF];exact T1 rfl h
 refine r (y:=.int .i64 x.a10) rfl ?_;rw[qAP,qAB];cases c1:decide (x.a10<0)with
 |true=>rw[c1]at fin;rw[qAF];exact T0 rfl (by simpa using fin)
 |false=>
 rw[c1]at fin;rw[qAD];refine r (y:=.int .i64 x.a10) rfl ?_;rw[qBO,qAB];cases c2:decide (255<x.a10)with
 |true=>rw[c2]at fin;exact T0 rfl (by simpa using fin)
 |false=>
 rw[c2]at fin;unfold qB9;refine qAA (a:=.bool false) rfl ?_;rw[qAD];refine r (y:=.int .i64 x.pr) rfl ?_;rw[qAP,qAB];cases c3:decide (x.pr<0)with
 |true=>rw[c3]at fin;exact T1 rfl (by simpa using fin)
 |false=>
 rw[c3]at fin;unfold qB5;refine qAA (a:=.bool false) rfl ?_;rw[qAD];refine r (y:=.int .i64 x.pr) rfl ?_;rw[qBO,qAB];cases c4:decide (255<x.pr)with
 |true=>rw[c4]at fin;exact T2 rfl (by simpa using fin)
 |false=>
 rw[c4]at fin;unfold qB4;refine qAA (a:=.bool false) rfl ?_;rw[qAD];refine r (y:=.int .i64 x.p1) rfl ?_;rw[qAP,qAB];cases c5:decide (x.p1<0)with
 |true=>rw[c5]at fin;rw[qAF];exact T3 rfl (by simpa using fin)
 |false=>
 rw[c5]at fin;rw[qAD];refine r (y:=.int .i64 x.p1) rfl ?_;rw[qBO,qAB];cases c6:decide (65535<x.p1)with
 |true=>rw[c6]at fin;exact T3 rfl (by simpa using fin)
 |false=>
 rw[c6]at fin;unfold qB8;refine qAA (a:=.bool false) rfl ?_;rw[qAD];refine r (y:=.int .i64 x.p2) rfl ?_;rw[qAP,qAB];cases c7:decide (x.p2<0)with
 |true=>rw[c7]at fin;exact T4 rfl (by simpa using fin)
 |false=>
 rw[c7]at fin;unfold qCA;refine qAA (a:=.bool false) rfl ?_;rw[qAD];refine r (y:=.int .i64 x.p2) rfl ?_;rw[qBO,qAB];cases c8:decide (65535<x.p2)with
 |true=>rw[c8]at fin;exact T5 rfl (by simpa using fin)
 |false=>
 rw[c8]at fin;unfold qB6;refine qAA (a:=.bool false) rfl ?_;rw[qAD];refine r (y:=.int .i64 x.pr) rfl (qTo ?_);rw[qAe,qAB];cases c9:prtB x.pr with
 | true=>
   rw[c9]at fin;rw[Bool.not_true,qAD];refine qAA (a:=.bool false) rfl ?_;rw[qAD];simpa using fin
 | false=>
   rw[c9]at fin;rw[Bool.not_false,qAF];refine r (y:=.int .i64 x.p1) rfl ?_;simp only[qAX,qAV,Bool.true_bne,qAB];cases d1:(x.p1 == 0)with
   | false=>
     rw[Bool.not_false,qAF];unfold qCd;refine qAA (a:=.bool true) rfl (qAA (a:=.bool true) rfl ?_);rw[qAF];have d1:x.p1≠0:=by simpa using d1
     simpa [d1]using fin
   | true=>
     rw[Bool.not_true,qAD];have d1:x.p1=0:=by simpa using d1
     refine r (y:=.int .i64 x.p2) rfl ?_;simp only[qAX,qAV,Bool.true_bne,qAB];unfold qCd;cases d2:(x.p2 == 0)with
     | false=>
       have d2:x.p2≠0:=by simpa using d2
       refine qAA (a:=.bool true) rfl (qAA (a:=.bool true) rfl ?_);rw[qAF];simpa [d1,d2]using fin
     | true=>
       have d2:x.p2=0:=by simpa using d2
       refine qAA (a:=.bool false) rfl (qAA (a:=.bool false) rfl ?_);rw[qAD];simpa [d1,d2]using fin
end Go.AM.OR
set_option maxRecDepth 100000
namespace Go.AM.OR
open Go Go.Proofs Go.AM.TN
variable {K:AV→Hq→Prop} {s s':Hq} {v:AV} {b c k:Nat} {x:FC.Fr}
theorem eq44(a3 a4 a5 a6 a7:Int):qGg TP 44 (.agg [.int .i64 a3,.int .u64 a4,.int .u32 a5,.int .u64 a6,.int .u32 a7]) (.agg [.int .i64 0,.int .u64 0,.int .u32 0,.int .u64 0,.int .u32 0])=cond (eqI a3 0) (cond (eqI a4 0) (cond (eqI a5 0) (cond (eqI a6 0) (cond (eqI a7 0) (some true) (some false)) (some false)) (some false)) (some false)) (some false):=by kernel_rfl
theorem eq46(a b c d e f:Int):qGg TP 46 (.agg [.int .u32 a,.int .u32 b,.int .i64 c,.int .i64 d,.int .i64 e,.int .i64 f]) (.agg [.int .u32 0,.int .u32 0,.int .i64 0,.int .i64 0,.int .i64 0,.int .i64 0])=cond (eqI a 0) (cond (eqI b 0) (cond (eqI c 0) (cond (eqI d 0) (cond (eqI e 0) (cond (eqI f 0) (some true) (some false)) (some false)) (some false)) (some false)) (some false)) (some false):=by kernel_rfl
theorem zACU:qGg TP 44 (.agg (arC x)) (.agg [.int .i64 0,.int .u64 0,.int .u32 0,.int .u64 0,.int .u32 0])=some (ar0 x):=by unfold arC ar0;rw[eq44];simp only[qD5];cases(x.a3 == 0)<;>cases(x.a4 == 0)<;>cases(x.a5 == 0)<;>cases(x.a6 == 0)<;>cases(x.a7 == 0)<;>rfl
theorem zACJ:qGg TP 46 (.agg (ipC x)) (.agg [.int .u32 0,.int .u32 0,.int .i64 0,.int .i64 0,.int .i64 0,.int .i64 0])=some (ip0 x):=by unfold ipC ip0;rw[eq46];simp only[qD5];cases(x.hs == 0)<;>cases(x.hd == 0)<;>cases(x.a10 == 0)<;>cases(x.pr == 0)<;>cases(x.p1 == 0)<;>cases(x.p2 == 0)<;>rfl
theorem qN9(hK:∀s',Sub s s'->K (.int .i64 (ckE x)) s'):wC TP XX 71 [.agg (FC.frC x)] K s:=by
 refine qJ2 (boxN rfl λb s1 hb h1 u1=>?_);have k1:=u1.sub hb;have h1:s1 b=some (false,.cells 48 (FC.frC x)):=h1;have r:∀{j:Nat}{y:AV}{R:AV->Prop},(FC.frC x)[j]?=some y->R y->oK (qAC j (.ptr b 0)) λv=>oK (rd1 s1 v) R:=fun {j y R} e h=>qAA (a:=.ptr b j) (by rw[qAI,zAY]) (qAA (by rw[qAK h1];exact e) h);have rA:rdN s1 5 (.ptr b 3)=some (arC x):=(qJl h1 (by show 3+5<=15;omega)).trans rfl;have rI:rdN s1 6 (.ptr b 8)=some (ipC x):=(qJl h1 (by show 8+6<=15;omega)).trans rfl;have fin:∀{s'},Sub s1 s'->K (.int .i64 (ckE x)) s':=λk=>hK _ (k1.trans k);have fin0:=fin (.refl s1);unfold ckE at fin fin0;have T0:∀{t1 t2:AV},qAR t1 (.bool true) t2=some (.bool true)->(decide (MXM<x.src)||decide (MXM<x.dst))=true->qCU XX (.ptr b 0) t1 t2 K s1:=fun {t1 t2} e h=>by unfold qCU;refine qAA e ?_;rw[qAF];rw[if_pos h]at fin0;exact fin0
 refine r (y:=.int .u64 x.src) rfl ?_;rw[qBO,qAB];cases c1:decide (MXM<x.src)with
 |true=>rw[qAF];exact T0 rfl (by rw[c1];rfl)
 |false=>
 rw[qAD];refine r (y:=.int .u64 x.dst) rfl ?_;rw[qBO,qAB];cases c2:decide (MXM<x.dst)with
 |true=>exact T0 rfl (by rw[c1,c2];rfl)
 |false=>
 rw[c1,c2]at fin fin0;simp only[Bool.or_self,Bool.false_eq_true,if_false]at fin fin0;unfold qCU;refine qAA (a:=.bool false) rfl ?_;rw[qAD];refine r (y:=.int .u64 x.src) rfl (qIb XX_0 ?_);cases c3:qNG x.src with
 |true=>rw[c3]at fin0;rw[qAF];simpa using fin0
 |false=>
 rw[c3]at fin fin0;simp only[Bool.false_eq_true,if_false]at fin fin0;rw[qAD];refine r (y:=.int .i64 x.kind) rfl ?_;simp only[qAX,qAV,Bool.true_bne,qAB];have last4:∀{t36 t40 t44:AV}{a c:Bool},qAR t40 t44 (.bool false)=some (.bool c)->qAR t36 (.bool true) (.bool c)=some (.bool a)->a=((x.kind != 1&&!ar0 x)||(x.kind != 2&&!ip0 x))->(x.kind != 0&&(x.kind != 1&&x.kind != 2))=false->qC3 XX (.ptr b 0) t36 t40 t44 K s1:=fun {t36 t40 t44 a c} e1 e2 q q6=>by
  rw[q6,<- q]at fin fin0;simp only[Bool.false_eq_true,if_false]at fin fin0;unfold qC3;refine qAA e1 (qAA e2 ?_);cases a with
  |true=>rw[qAF];simpa using fin0
  | false=>
    simp only[Bool.false_eq_true,if_false]at fin fin0;rw[qAD];refine r (y:=.int .i64 x.kind) rfl ?_;simp only[qAX,qAV,Bool.false_bne,qAB];cases d1:(x.kind == 1)with
    | true=>
      rw[d1]at fin;rw[qAF];refine qAA (a:=.ptr b 3) rfl (qAA rA (qRS λs' k=>?_));simpa using fin k
    | false=>
      rw[d1]at fin fin0;rw[qAD];cases d2:(x.kind == 2)with
      | true=>
        rw[d2]at fin;rw[qAF];refine qAA (a:=.ptr b 8) rfl (qAA rI (qSZ λs' k=>?_));simpa using fin k
      | false=>
        rw[d2]at fin0;rw[qAD];simpa using fin0
 have last3:∀{t30 t34:AV}{a:Bool},qAR t30 t34 (.bool false)=some (.bool a)->a=(x.kind != 1&&!ar0 x)->(x.kind != 0&&(x.kind != 1&&x.kind != 2))=false->qDA XX (.ptr b 0) t30 t34 K s1:=fun {t30 t34 a} e q q6=>by
  unfold qDA;refine qAA e ?_;cases a with
  | true=>
    rw[q6,<- q]at fin0;rw[qAF];refine qAA (a:=.bool true) rfl ?_;rw[qAF];simpa using fin0
  | false=>
    rw[qAD];refine r (y:=.int .i64 x.kind) rfl ?_;simp only[qAX,qAV,Bool.true_bne,qAB];cases d2:(x.kind == 2)with
    | true=>
      rw[Bool.not_true,qAD];exact last4 (a:=false) (c:=false) rfl rfl (by rw[<- q,show(x.kind != 2)=false by unfold bne;rw[d2];rfl];rfl) q6
    | false=>
      rw[Bool.not_false,qAF];refine qAA (a:=.ptr b 8) rfl (qAA rI (qAA (a:=[.int .u32 0,.int .u32 0,.int .i64 0,.int .i64 0,.int .i64 0,.int .i64 0]) rfl ?_));rw[zACJ];simp only[qAV,Bool.true_bne,qAB];exact last4 (a:=!ip0 x) (c:=!ip0 x) rfl rfl (by rw[<- q,show(x.kind != 2)=true by unfold bne;rw[d2];rfl];simp) q6
 have j2n:∀{t22 t25:AV},qAR t22 t25 (.bool false)=some (.bool false)->(x.kind != 0&&(x.kind != 1&&x.kind != 2))=false->qCY XX (.ptr b 0) t22 t25 K s1:=fun {t22 t25} e q6=>by
  unfold qCY;refine qAA e ?_;rw[qAD];refine r (y:=.int .i64 x.kind) rfl ?_;simp only[qAX,qAV,Bool.true_bne,qAB];cases d1:(x.kind == 1)with
  | true=>
    rw[Bool.not_true,qAD];exact last3 (a:=false) rfl (by rw[show(x.kind != 1)=false by unfold bne;rw[d1];rfl];rfl) q6
  | false=>
    rw[Bool.not_false,qAF];refine qAA (a:=.ptr b 3) rfl (qAA rA (qAA (a:=[.int .i64 0,.int .u64 0,.int .u32 0,.int .u64 0,.int .u32 0]) rfl ?_));rw[zACU];simp only[qAV,Bool.true_bne,qAB];exact last3 (a:=!ar0 x) rfl (by rw[show(x.kind != 1)=true by unfold bne;rw[d1];rfl];simp) q6
 cases d0:(x.kind == 0)with
 | true=>
   rw[Bool.not_true,qAD];unfold qCR;refine qAA (a:=.bool false) rfl ?_;rw[qAD];exact j2n rfl (by rw[show(x.kind != 0)=false by unfold bne;rw[d0];rfl];rfl)
 | false=>
   rw[Bool.not_false,qAF];refine r (y:=.int .i64 x.kind) rfl ?_;simp only[qAX,qAV,Bool.true_bne,qAB];have n0:(x.kind != 0)=true:=by unfold bne;rw[d0];rfl
   cases d1:(x.kind == 1)with
   | true=>
     unfold qCR;refine qAA (a:=.bool false) rfl ?_;rw[qAD];exact j2n rfl (by rw[show(x.kind != 1)=false by unfold bne;rw[d1];rfl];simp)
   | false=>
     have n1:(x.kind != 1)=true:=by unfold bne;rw[d1];rfl
     unfold qCR;refine qAA (a:=.bool true) rfl ?_;rw[qAF];refine r (y:=.int .i64 x.kind) rfl ?_;simp only[qAX,qAV,Bool.true_bne,qAB];cases d2:(x.kind == 2)with
     |true=>exact j2n rfl (by rw[show(x.kind != 2)=false by unfold bne;rw[d2];rfl];simp)
     | false=>
       have n2:(x.kind != 2)=true:=by unfold bne;rw[d2];rfl
       unfold qCY;refine qAA (a:=.bool true) rfl ?_;rw[qAF];rw[n0,n1,n2]at fin0;simpa using fin0
end Go.AM.OR
set_option maxRecDepth 100000
namespace Go.AM.OR
open Go Go.Proofs Go.AM.TN
variable {K:AV→Hq→Prop} {s s' H:Hq} {F:FG} {W:WG} {b c i n:Nat} {h l a:Int} {tg:Bool} {x:FC.Fr} {ar:List Int}
structure FOk(F:FG):Prop where
 lk:LnkOk F
 sz:F.lf+F.sp<=10000
 L:F.L.length<=100000
 S:F.S.length<=100000
 H:F.H.length<=100000
 B:F.B.length<=100000
 G:F.G.length<=100000
 S1:∀y∈F.S,y.1.length<=100000
 S2:∀y∈F.S,y.2.length<=100000
theorem FOk.sm(z:FOk F):SmS F:=λy hy=>⟨by have:=z.S1 y hy;omega,by have:=z.S2 y hy;omega⟩
theorem qYg:XX 78=some qQd:=rfl
theorem qDu{f:FuncId}{first args cap:List AV}(h1:isFn TP f=true)(h2:wC TP XX f (first++args++cap) K s):funK TP XX (.fn (.func f) first cap) args K s:=⟨h1,h2⟩
theorem qUG{L:List Int}(h:L.Nodup):(qDr L).Pairwise (· < ·):=by have h1:=qIG L;have h2:(qDr L).Nodup:=(qEH L).nodup_iff.2 h;exact(h1.and h2).imp λ⟨a,b⟩=>by omega
theorem zABq{b0:Nat}(hS:St s b F W)(hb:s b0=some (tg,.cells 94 [.ptr b 0]))(hK:K (.bool (decide (F.lf<=a))) s):funK TP XX (.fn (.func 77) [] [.ptr b0 0]) [.int .i64 a] K s:=by refine qDu (by kernel_rfl) (qGP ?_);obtain⟨tg,v2,v3,v4,v5,v6,v7,w1,w2,w3,w4,h1,h2,h3⟩:=hS;refine qAA (a:=.ptr b 0) (by rw[qAK hb];rfl) (qDW h1 (x:=.int .i64 F.lf) rfl ?_);rw[qBV,qAB];exact hK
theorem qVx(z:FOk F)(hS:St s b F W)(hK:∀v' s' ar,Sub s s'->Sl s' v' (ix ar)->Ar F W l ar->K v' s'):wC TP XX 41 [.ptr b 0,.int .i64 l] K s:=by
 refine qG6 (qDN rfl λb0 s1 hb0 h1 u1=>?_);have k1:=u1.sub hb0;have hS1:=hS.sub k1;rw[qAP,qAB];have hrd:rd1 s1 (.ptr b0 0)=some (.ptr b 0):=by rw[qAK h1];rfl
 have no:upB F W l=false->K .nilslc s1:=λq=>hK _ s1 [] k1 (.inl ⟨rfl,rfl⟩) ⟨λ_=>rfl,λe=>(by rw[q]at e;cases e)⟩;have j1n:∀{t18 t26:AV},qAR t18 (.bool true) t26=some (.bool true)->upB F W l=false->qBX XX (.int .i64 l) (.ptr b0 0) t18 t26 K s1:=fun {t18 t26} e q=>by unfold qBX;refine qAA e ?_;rw[qAF];exact no q
 have j0n:∀{t9 t16:AV},qAR t9 (.bool true) t16=some (.bool true)->upB F W l=false->qBZ XX (.int .i64 l) (.ptr b0 0) t9 t16 K s1:=fun {t9 t16} e q=>by unfold qBZ;refine qAA e ?_;rw[qAF];exact j1n rfl q
 cases c1:decide (l<0)with
 | true=>
   rw[qAF];exact j0n rfl (by unfold upB;rw[decide_eq_false (by have:=oT c1;omega)];rfl)
 |false=>
 have h0:0<=l:=by have:=oF c1;omega
 rw[qAD];refine qAA hrd ?_;have hS1':=hS1;obtain⟨tg,v2,v3,v4,v5,v6,v7,w1,w2,w3,w4,g1,g2,g3⟩:=hS1';refine qDW g1 (x:=.int .i64 F.lf) rfl ?_;rw[qBV,qAB];cases c2:decide (F.lf<=l)with
 |true=>exact j0n rfl (by unfold upB;rw[decide_eq_false (p:=l<F.lf) (by have:=oT c2;omega)];simp)
 |false=>
 have hlt:l<F.lf:=by have:=oF c2;omega
 unfold qBZ;refine qAA (a:=.bool false) rfl ?_;rw[qAD];refine qAA hrd (qJ4 g1 (x:=w1) rfl (qTX g3.nd ?_));rw[qAe,qAB];have eu:upB F W l=onB W.nd l:=by unfold upB;rw[decide_eq_true h0,decide_eq_true hlt];rfl
 cases c3:onB W.nd l with
 |false=>exact j1n rfl (by rw[eu,c3])
 |true=>
 rw[c3]at eu;unfold qBX;refine qAA (a:=.bool false) rfl ?_;rw[qAD];refine qAA hrd ?_;have hlf:=z.lk.lf;have hsp:=z.lk.sp;have hz:=z.sz;obtain⟨N,hN⟩:=qI8 (l:=F.lf+F.sp) (by omega);refine qSX (nx:=nbr F W) (N:=N) h0 (by omega) (by omega) (λx y hy=>by have:=zABZ z.lk hy;omega) (λx=>by have:=qRo (F:=F) (W:=W) (n:=x) F.L.length;have:=z.L;unfold nbr;omega) (λx s2 J k2 hJ=>qDu (by kernel_rfl) (qOl z.L (hS1.sub k2) λv' s' kk ac=>hJ v' s' kk ac)) λqb cap s7 Q k7 hqb hc h7 bf=>?_;have hQ:=bf.len;refine zAA0 (H:=s1) (p:=λn=>decide (F.lf<=n)) k7 hqb h7 hc (by omega) (λx s2 J k2 hJ=>zABq (hS1.sub k2) (k2 _ _ h1) (hJ s2 (.refl _))) λcap' T s9 hcap k9 h9=>?_;refine qQf (T:=T) qYg h9 (by have:=List.length_filter_le (λn=>!decide (F.lf<=n)) Q;omega) λs11 h11 u11=>?_;have hsl:=(qEH (Q.filter λn=>!decide (F.lf<=n))).length_eq;have hsub:Sub s s11:=k1.trans (qAW k9 u11 hqb);rw[<- hsl];refine hK _ s11 (qDr (Q.filter λn=>!decide (F.lf<=n))) hsub ?_ ⟨λe=>(by rw[eu]at e;cases e),λ_=>⟨qUG (bf.nd.filter _),λn=>?_⟩⟩
 ·have h11:s11 qb=some (false,.cells 3 (ix (qDr (Q.filter λn=>!decide (F.lf<=n)))++T)):=h11
  exact .inr ⟨qb,0,cap',by rw[qA3],λc e=>(by rw[qA3,hsl];exact hcap c e),λ_=>⟨_,_,_,h11,(by rw[lAp];omega),λi hi=>(by rw[zAY,List.getElem?_append_left hi])⟩⟩
 ·rw[qVp,List.mem_filter,bf.done n]
  have:∀{y},Rch (nbr F W) l y->0<=y:=fun {y} hy=>(bf.rng y ((bf.done y).2 hy)).1;simp only[Bool.not_eq_true',decide_eq_false_iff_not];exact⟨λ⟨q1,q2⟩=>⟨⟨this q1,by omega⟩,q1⟩,λ⟨q1,q2⟩=>⟨q2,by omega⟩⟩
end Go.AM.OR
set_option maxRecDepth 100000
namespace Go.AM.OR
open Go Go.Proofs Go.AM.TN
variable {K:AV→Hq→Prop} {s s' t H:Hq} {v w fv:AV} {F:FG} {W:WG} {b c i n:Nat} {h l sg a:Int} {tg:Bool} {x:FC.Fr} {ar:List Int} {hd:List Hd} {ip:Bool}
theorem w64{n:Int}(h1:-9223372036854775808<=n)(h2:n<=9223372036854775807):qBq .i64 n=n:=by rw[qCI,qAb h1 h2]
theorem qY9(x:FC.Fr):∃n:Nat,FC.ent x=(n:Int)/\n<=70000:=by
 have h1:=Int.tmod_lt_of_pos (FC.hsh 2166136261 (FC.flw x)) (show(0:Int)<16384 by omega);have h2:-(16384:Int)<(FC.hsh 2166136261 (FC.flw x)).tmod 16384:=by have:=Int.tmod_lt_of_pos (-(FC.hsh 2166136261 (FC.flw x))) (show(0:Int)<16384 by omega);rw[Int.neg_tmod]at this;omega
 have e:FC.ent x=49152+(FC.hsh 2166136261 (FC.flw x)).tmod 16384:=by unfold FC.ent;rw[w64 (by omega) (by omega),qAb (by omega) (by omega)]
 exact⟨(FC.ent x).toNat,by omega,by omega⟩
def entO(F:FG)(W:WG)(h:Int)(x:FC.Fr):Option Int:=match att F W h with
 |some sg=>(mems F W sg)[(FC.ent x).toNat % (mems F W sg).length]?
 |none=>none
theorem qH7(e:entO F W h x=some l):∃sg,att F W h=some sg/\l∈mems F W sg:=by
 unfold entO at e;split at e
 ·rename_i sg hs
  exact⟨sg,hs,mG e⟩
 ·cases e
theorem qR8(z:FOk F)(hS:St s b F W)(hK:∀s',Sub s s'->K (.tup [.int .i64 ((entO F W h x).getD 0),.bool (entO F W h x).isSome]) s'):wC TP XX 61 [.ptr b 0,.int .i64 h,.agg (FC.frC x)] K s:=by
 refine qGb (boxN rfl λb0 s1 hb0 h1 u1=>?_);have k1:=u1.sub hb0;have h1:s1 b0=some (false,.cells 48 (FC.frC x)):=h1;refine qFm z.sm (hS.sub k1) λs3 k3=>?_;have k13:=k1.trans k3;unfold entO at hK;cases ha:att F W h with
 | none=>
   rw[ha]at hK;refine qAA (a:=.int .i64 0) rfl (qAA (a:=.bool false) rfl (qAA (a:=.bool true) rfl ?_));rw[qAF];exact hK s3 k13
 | some sg=>
   rw[ha]at hK;simp only at hK;refine qAA (a:=.int .i64 sg) rfl (qAA (a:=.bool true) rfl (qAA (a:=.bool false) rfl ?_));rw[qAD];refine qKd z.sm z.S1 (hS.sub k13) λv7 s8 k8 hv=>?_;have k18:=k13.trans k8;refine qAA (by rw[hv.len,qA3]) ?_;simp only[qAX,qAV,Bool.false_bne,qAB];generalize mems F W sg=M at hK hv;cases M with
   | nil=>
     rw[show((([]:List Int).length:Int) == 0)=true from rfl,qAF];exact hK s8 k18
   | cons y M=>
     have e0:(((y::M).length:Int) == 0)=false:=by rw[beq_eq_false_iff_ne,List.length_cons];omega
     rw[e0,qAD];refine qAA (qAU (k8 _ _ (k3 _ _ h1)) rfl) (FC.Entropy_in λs14 k14=>?_);refine qAA (by rw[hv.len,qA3]) ?_;obtain⟨n,hn,_⟩:=qY9 x;have hne:(((y::M).length:Nat):Int)≠0:=by rw[List.length_cons];omega
     rw[hn,qH8 hne,qAB];have er:(n:Int).tmod (((y::M).length:Nat):Int)=((n % (y::M).length:Nat):Int):=by rw[Int.tmod_eq_emod_of_nonneg (by omega)];rfl
     have hlt:n % (y::M).length<(y::M).length:=Nat.mod_lt _ (by simp);rw[er];obtain⟨pp,g1,g2⟩:=(hv.sub k14).get (i:=n % (y::M).length) (by rw[qA3];exact hlt);rw[qFd hlt]at g2;refine qAA g1 (qAA g2 ?_);have:=hK s14 (k18.trans k14);have en:(FC.ent x).toNat=n:=by omega
     rw[en,gE hlt]at this;exact this
def accO(F:FG)(W:WG)(h:Int)(x:FC.Fr):Option Int:=match entO F W h x with
 |some l=>if(x.src == macA F h.toNat&&ckE x == 0)=true then some l else none
 |none=>none
theorem qMO(z:FOk F)(hS:St s b F W)(hK:∀s',Sub s s'->K (.tup [.int .i64 ((accO F W h x).getD 0),.bool (accO F W h x).isSome]) s'):wC TP XX 39 [.ptr b 0,.int .i64 h,.agg (FC.frC x)] K s:=by
 refine qFj (boxN rfl λb0 s1 hb0 h1 u1=>?_);have k1:=u1.sub hb0;have h1:s1 b0=some (false,.cells 48 (FC.frC x)):=h1;refine qAA (qAU h1 rfl) (qR8 z (hS.sub k1) λs4 k4=>?_);have k14:=k1.trans k4;have h4:=k4 _ _ h1;unfold accO at hK;have no:∀{lf t33 t36:AV}{s':Hq},qAR t33 (.bool true) t36=some (.bool true)->K (.tup [.int .i64 0,.bool false]) s'->qA9 XX lf t33 t36 K s':=fun {lf t33 t36 s'} e h=>by unfold qA9;refine qAA e ?_;rw[qAF];exact h
 have no0:∀{lf t19 t31:AV}{s':Hq},qAR t19 (.bool true) t31=some (.bool true)->K (.tup [.int .i64 0,.bool false]) s'->qBC XX (.ptr b0 0) lf t19 t31 K s':=fun {lf t19 t31 s'} e h=>by unfold qBC;refine qAA e ?_;rw[qAF];exact no rfl h
 cases he:entO F W h x with
 | none=>
   rw[he]at hK;refine qAA (a:=.int .i64 0) rfl (qAA (a:=.bool false) rfl (qAA (a:=.bool true) rfl ?_));rw[qAF];exact no0 rfl (hK s4 k14)
 | some l=>
   rw[he]at hK;simp only at hK;refine qAA (a:=.int .i64 l) rfl (qAA (a:=.bool true) rfl (qAA (a:=.bool false) rfl ?_));rw[qAD];obtain⟨sg,hs,_⟩:=qH7 he;obtain⟨y,g,h0,hy,_⟩:=qIm hs;obtain⟨i,rfl⟩:=qI8 h0;have ei:(i:Int).toNat=i:=by omega
   rw[ei]at hy hK;have hS4:=hS.sub k14;obtain⟨tg,v2,v3,v4,v5,v6,v7,w1,w2,w3,w4,q1,q2,q3⟩:=hS4;obtain⟨hb,ho,b1,b2,b3⟩:=q2.H.get (i:=i) (r:=hgC y) (by rw[List.getElem?_map,hy];rfl);have em:macA F i=y.1:=by unfold macA;rw[hy]
   rw[em]at hK;refine qAA (a:=.ptr b0 0) rfl (qAA (a:=.int .u64 x.src) (by rw[qAK h4];rfl) (qDW q1 (x:=v6) rfl (qAA b1 (qAA (a:=.ptr hb ho) rfl (qAA (a:=.int .u64 y.1) ((b3 0 (by omega)).trans rfl) ?_)))));simp only[qAX,qAV,Bool.true_bne,qAB];cases c1:(x.src == y.1)with
   | false=>
     rw[c1]at hK;exact no0 rfl (hK s4 k14)
   | true=>
     rw[c1]at hK;unfold qBC;refine qAA (a:=.bool false) rfl ?_;rw[qAD];refine qAA (qAU h4 rfl) (qN9 λs12 k12=>?_);simp only[qAX,qAV,Bool.true_bne,qAB];have:=hK s12 (k14.trans k12);cases c2:(ckE x == 0)with
     | false=>
       rw[c2]at this;exact no rfl this
     | true=>
       rw[c2]at this;unfold qA9;refine qAA (a:=.bool false) rfl ?_;rw[qAD];exact this
theorem qDU(z:FOk F)(hS:St s b F W)(ha:Sl s v (ix ar))(hl:ar.length<=100000)(hK:∀s',Sub s s'->K (.bool (wthB F W sg ar)) s'):wC TP XX 89 [.ptr b 0,.int .i64 sg,v] K s:=by
 refine qGM (qDN ha.one λb0 s1 hb0 h1 u1=>?_);have k1:=u1.sub hb0;refine qKd z.sm z.S1 (hS.sub k1) λv2 s3 k3 hv=>?_;have hM:(mems F W sg).length<=100000:=by
  unfold mems;split
  ·split
   ·rename_i y hy
    have:=z.S1 y (mG hy);exact Nat.le_trans (List.length_filter_le _ _) this
   ·simp
  ·simp
 refine qIH XX_0 (p:=λl=>decide (l∈ar)) (by omega) hv (λl s4 J k4 hJ=>qDu (by kernel_rfl) (qFK ?_)) λs5 k5=>hK s5 (k1.trans (k3.trans k5));have k14:=k1.trans (k3.trans k4);refine qAA (a:=v) (by rw[qAK ((k3.trans k4) _ _ h1)];rfl) (qFh XX_0 (by omega) (ha.sub k14) (hJ s4 (.refl _)))
def hdC(e:Hd):List AV:=[.int .i64 e.1,.int .i64 e.2.1,.bool e.2.2]
theorem qNd{p:Hd->Bool}(hn:hd.length<=100000)(hv:SlR 3 s v (hd.map hdC))(hp:∀(e:Hd) (s1:Hq) (J:AV->Hq->Prop),Sub s s1->(∀s',Sub s1 s'->J (.bool (p e)) s')->funK TP XX fv [.agg (hdC e)] J s1)
  (hK:∀s',Sub s s'->K (.int .i64 (fstI p hd)) s'):wC TP XX 59 [v,fv] K s:=by
 refine qDK ?_;unfold qCH;refine qAA (by rw[hv.len,lM]) ?_;refine⟨λys t m=>∃i:Nat,ys=[.int .i64 (i:Int)]/\i<=hd.length/\m=hd.length-i/\Sub s t/\∀j z,j<i->hd[j]?=some z->p z=false,⟨_,0,rfl,by omega,rfl,.refl _,λj z hj=>by omega⟩,?_⟩;rintro f t m ⟨i,hy,hi,rfl,kt,hall⟩;simp only[cI,and_true]at hy;rw[hy];unfold qB1;rw[qAP,qAB];refine qAJ (λhlt=>?_) (λhge=>?_)
 rotate_left
 ·have hge:i=hd.length:=by have:=oF hge;omega
  subst hge;have:=hK t kt;rw[qIK λj z hz=>hall j z (gS hz).1 hz]at this;exact this
 have hlt:i<hd.length:=by have:=oT hlt;omega
 have hx:hd[i]?=some hd[i]:=gE hlt;generalize hd[i]=e at hx;obtain⟨pb,po,e1,e2,e3⟩:=(hv.sub kt).get (i:=i) (r:=hdC e) (by rw[List.getElem?_map,hx];rfl);refine qAA e1 (qAA e2 (hp e t _ kt λs6 k6=>?_));refine qAJ (λq=>?_) (λq=>?_)
 ·have:=hK s6 (kt.trans k6)
  rw[qKC hx q hall]at this;exact this
 ·rw[qAN,qAB,qAb (by omega) (by omega)]
  refine⟨_,by omega,i+1,rfl,by omega,rfl,kt.trans k6,λj z hj hz=>?_⟩
  by_cases e:j<i
  ·exact hall j z e hz
  ·have:j=i:=by omega
   subst this;rw[hx]at hz;cases hz;exact q
theorem qS4{b0 b2 b4:Nat}{e:Hd}(h0:s b0=some (false,.cells 34 [v]))(h2:s b2=some (false,.cells 3 [.int .i64 h]))(h4:s b4=some (false,.cells 4 [.bool ip]))(ha:Sl s v (ix ar))(hl:ar.length<=100000)(hK:∀s',Sub s s'->K (.bool ((e.1 == h)&&((e.2.2||!ip)&&decide (e.2.1∈ar)))) s'):wC TP XX 91 [.agg (hdC e),.ptr b2 0,.ptr b4 0,.ptr b0 0] K s:=by
 refine qFr (boxN rfl λb s1 hb h1 u1=>?_);have k1:=u1.sub hb;have h1:s1 b=some (false,.cells 77 (hdC e)):=h1;have fin:=hK s1 k1;refine qAA (a:=.ptr b 0) rfl (qAA (a:=.int .i64 e.1) (by rw[qAK h1];rfl) (qAA (a:=.int .i64 h) (by rw[qAK (k1 _ _ h2)];rfl) ?_));simp only[qAX,qAV,Bool.false_bne,qAB];cases c1:(e.1 == h)with
 | false=>
   rw[c1]at fin;rw[qAD];refine qAA (a:=.bool false) rfl ?_;rw[qAD];unfold qCM;exact qAA (a:=.bool false) rfl fin
 | true=>
   rw[c1,Bool.true_and]at fin;rw[qAF];refine qAA (a:=.ptr b 2) rfl (qAA (a:=.bool e.2.2) (by rw[qAK h1];rfl) ?_);have j0:∀{t15:AV}{a c:Bool},qAR (.bool a) (.bool true) t15=some (.bool c)->(e.2.2||!ip)=c->qBl XX (.ptr b0 0) (.ptr b 0) (.bool true) (.bool a) t15 K s1:=fun {t15 a c} q r=>by
    unfold qBl;refine qAA q (qAA (a:=.bool c) rfl ?_);rw[r]at fin;cases c with
    | false=>
      rw[qAD];unfold qBd;exact qAA (a:=.bool false) rfl fin
    | true=>
      rw[Bool.true_and]at fin;rw[qAF];refine qAA (a:=v) (by rw[qAK (k1 _ _ h0)];rfl) (qAA (a:=.ptr b 1) rfl (qAA (a:=.int .i64 e.2.1) (by rw[qAK h1];rfl) (qFh XX_0 (by omega) (ha.sub k1) ?_)));unfold qBd;exact qAA (a:=.bool _) rfl fin
   cases c2:e.2.2 with
   | true=>
     rw[qAF];exact j0 (a:=true) (c:=true) rfl (by rw[c2];rfl)
   | false=>
     rw[qAD];refine qAA (a:=.bool ip) (by rw[qAK (k1 _ _ h4)];rfl) ?_;rw[qAe,qAB];exact j0 (a:=false) (c:=!ip) rfl (by rw[c2];rfl)
theorem qWZ(z:FOk F)(hS:St s b F W)(ha:Sl s v (ix ar))(hl:ar.length<=100000)(hv:SlR 3 s w (hd.map hdC))(hn:hd.length<=100000)(hK:∀s',Sub s s'->K (.bool (knw F W ar hd h ip)) s'):wC TP XX 62 [.ptr b 0,v,w,.int .i64 h,.bool ip] K s:=by
 refine qGe (qDN ha.one λb0 s1 hb0 h1 u1=>qDN rfl λb2 s3 hb2 h3 u3=>qDN rfl λb4 s5 hb4 h5 u5=>?_);have k1:=u1.sub hb0;have k3:=u3.sub hb2;have k5:=u5.sub hb4;have k15:=k1.trans (k3.trans k5);have h15:=(k3.trans k5) _ _ h1;have h35:=k5 _ _ h3;refine qAA (a:=.int .i64 h) (by rw[qAK h35];rfl) (qFm z.sm (hS.sub k15) λs8 k8=>?_);have k18:=k15.trans k8;unfold knw at hK;have no:∀{t21 t26:AV}{s':Hq},qAR t21 (.bool true) t26=some (.bool true)->K (.bool false) s'->qBT XX w (.ptr b0 0) (.ptr b2 0) (.ptr b4 0) t21 t26 K s':=fun {t21 t26 s'} e h=>by unfold qBT;refine qAA e ?_;rw[qAF];exact h
 cases hat:att F W h with
 | none=>
   rw[hat]at hK;refine qAA (a:=.int .i64 0) rfl (qAA (a:=.bool false) rfl (qAA (a:=.bool true) rfl ?_));rw[qAF];exact no rfl (hK s8 k18)
 | some sg=>
   rw[hat]at hK;simp only at hK;refine qAA (a:=.int .i64 sg) rfl (qAA (a:=.bool true) rfl (qAA (a:=.bool false) rfl ?_));rw[qAD];refine qAA (a:=v) (by rw[qAK (k8 _ _ h15)];rfl) (qDU z (hS.sub k18) (ha.sub k18) hl λs17 k17=>?_);have k117:=k18.trans k17;rw[qAe,qAB];cases c:wthB F W sg ar with
   | false=>
     have:=hK s17 k117;rw[c]at this;exact no rfl this
   | true=>
     simp only[c,Bool.true_and]at hK;unfold qBT;refine qAA (a:=.bool false) rfl ?_;rw[qAD];refine qC0 (qNd (p:=λe=>(e.1 == h)&&((e.2.2||!ip)&&decide (e.2.1∈ar))) hn (hv.sub k117) (λe s2 J k2 hJ=>qDu (by kernel_rfl) ?_) λs' k'=>?_)
     ·have kk:=(k8.trans k17).trans k2
      exact qS4 (kk _ _ h15) (kk _ _ h35) (kk _ _ h5) (ha.sub (k117.trans k2)) hl hJ
     ·simp only[qBV,qAB,qMn]
      exact hK s' (k117.trans k')
end Go.AM.OR
set_option maxRecDepth 100000
namespace Go.AM.OR
open Go Go.Proofs Go.AM.TN
variable {K:AV→Hq→Prop} {s s' t H:Hq} {v:AV} {cs ws:List AV} {F:FG} {W:WG} {b c i k n:Nat} {h l sg a bd fr:Int} {tg:Bool} {x:FC.Fr} {ar:List Int}
theorem qRW{L:List Int}{m:Int}(h:L.Pairwise (· < ·))(hr:∀n∈L,0<=n/\n<m)(hm:m<=64):L.length<=64:=
 qN6 (N:=64) (h.imp λq=>by omega) λx hx=>by have:=hr x hx;omega
theorem qHf(hv:Valid F):FOk F:=by
 have h0:FabOk F:=hv 0 (by omega);have h2:LinksOk F:=hv 2 (by omega);have h4:DomOk F:=hv 4 (by omega);have h5:SegOk F:=hv 5 (by omega);have h6:HosOk F:=hv 6 (by omega);have h7:LeaOk F:=hv 7 (by omega);have a1:=h0.lf;have a2:=h0.sp;have a3:=h0.sum;refine⟨⟨by omega,by omega,λx hx=>?_⟩,by omega,by have:=h2.n;omega,by have:=h5.n;omega,by have:=h6.n;omega,by have:=h4.n;omega,by have:=h7.n;omega,λy hy=>?_,λy hy=>?_⟩
 ·obtain⟨i,hi⟩:=List.getElem?_of_mem hx
  obtain⟨q1,q2,_⟩:=(h2.row i x hi).1;exact⟨q1,q2⟩
 ·obtain⟨_,q,q1,_⟩:=h5.row y hy
  have:=qRW q1 q.1 (by omega);omega
 ·obtain⟨_,q,_,q2⟩:=h5.row y hy
  have:=h4.n;have:=qRW q2 q.2 (by omega);omega
theorem qNk(z:FOk F)(h:Ar F W l ar):ar.length<=100000:=by
 cases c:upB F W l with
 |false=>rw[h.1 c];simp
 | true=>
   obtain⟨h1,h2⟩:=h.2 c;have hz:=z.sz;have hl:=z.lk.lf;have hs:=z.lk.sp;have:=qN6 (N:=10000) (h1.imp λq=>by omega) λy hy=>by have:=((h2 y).1 hy).1;omega
   omega
def WR(s:Hq)(ws:List AV)(W:WG):Prop:=∃w1 w2 w3 w4,ws=[w1,w2,w3,w4]/\WL s W w1 w2 w3 w4
theorem WR.sub(h:WR s ws W)(k:Sub s s'):WR s' ws W:=by obtain⟨w1,w2,w3,w4,e,h⟩:=h;exact⟨w1,w2,w3,w4,e,h.sub k⟩
theorem qVT{P:List (List Bool)}(h:PtR s v P):v.one=true:=by obtain⟨vs,h1,_⟩:=h;exact h1.one
theorem WL.all{w1 w2 w3 w4:AV}(h:WL s W w1 w2 w3 w4):qAa [w1,w2,w3,w4]=true:=by simp[h.nd.one,h.lk.one,qVT h.pt,h.wh.one]
theorem zAAC(v0 v1 v2 v3 v4 v5 v6 v7 v8 v9 v10 v11 v12 v13 v14 v15 v16 v17 v18 w1 w2 w3 w4:AV):qAl [(.int .i64 0),(.int .i64 0),.nilslc,.nilslc,.nilslc,.nilslc,.nilslc,.nilslc,(.int .i64 0),(.int .i64 0),(.int .i64 0),(.bool false),(.bool false),(.int .i64 0),(.int .i64 0),(.int .i64 0),(.int .i64 0),(.int .i64 0),(.int .i64 0),.nilslc,.nilslc,.nilslc,.nilslc] [(0,19,.agg [v0,v1,v2,v3,v4,v5,v6,v7,v8,v9,v10,v11,v12,v13,v14,v15,v16,v17,v18]),(19,4,.agg [w1,w2,w3,w4])]=some [v0,v1,v2,v3,v4,v5,v6,v7,v8,v9,v10,v11,v12,v13,v14,v15,v16,v17,v18,w1,w2,w3,w4]:=by kernel_rfl
theorem qFE(hv0:Valid F)(z:Sz F)(hF:FabR s cs F)(hW:WR s ws W)(h1:Valid F->∀b s',Sub s s'->St s' b F W->K (.tup [.ptr b 0,.bool true]) s')(h2:¬Valid F->∀s',Sub s s'->K (.tup [.nilptr,.bool false]) s'):wC TP XX 38 [.agg cs,.agg ws] K s:=by
 obtain⟨v2,v3,v4,v5,v6,v7,rfl,hL⟩:=hF;obtain⟨w1,w2,w3,w4,rfl,hw⟩:=hW;refine qIy (boxN hL.all λb0 s1 hb0 g1 u1=>boxN hw.all λb2 s3 hb2 g3 u3=>?_);have k1:=u1.sub hb0;have k3:=u3.sub hb2;have k13:=k1.trans k3;refine qAA (qAU (k3 _ _ g1) rfl) ?_;refine TN.qN9 hv0 z ⟨v2,v3,v4,v5,v6,v7,rfl,hL.sub k13⟩ (λhv s6 k6=>?_) λhv e p j s6 he k6=>?_
 ·have k16:=k13.trans k6
  refine qAA (a:=.int .i64 0) rfl (qAA (a:=.str ⟨#[]⟩) rfl (qAA (a:=.int .i64 0) rfl (qAA (a:=.bool false) rfl ?_)));rw[qAD];refine qAA (qAU ((k3.trans k6) _ _ g1) rfl) (qAA (qAU (k6 _ _ g3) rfl) ?_);refine qAA (zAAC ..) (boxN ?_ λb14 s15 hb14 g15 u15=>?_)
  ·simp[hL.L.one,hL.T.one,hL.B.one,hL.S.one,hL.H.one,hL.G.one,hw.nd.one,hw.lk.one,qVT hw.pt,hw.wh.one]
  ·have k15:=u15.sub hb14
   have kk:=k16.trans k15;exact h1 hv b14 s15 kk ⟨false,v2,v3,v4,v5,v6,v7,w1,w2,w3,w4,g15,hL.sub kk,hw.sub kk⟩
 ·have k16:=k13.trans k6
  refine qAA (a:=.int .i64 e) rfl (qAA (a:=.str p) rfl (qAA (a:=.int .i64 j) rfl ?_));simp only[qAX,qAV,Bool.true_bne,qAB];rw[show(e == 0)=false from beq_eq_false_iff_ne.2 he,Bool.not_false,qAF];exact h2 hv s6 k16
theorem qSu(z:FOk F)(hS:St s b F W)(ha:Sl s v (ix ar))(hl:ar.length<=100000)(hK:∀v' s',Sub s s'->Sl s' v' (ix ((fldN F W ar bd fr F.S.length).map λi:Nat=>(i:Int)))->K v' s'):wC TP XX 107 [.ptr b 0,v,.int .i64 bd,.int .i64 fr] K s:=by
 have hS0:=hS;obtain⟨tg,v2,v3,v4,v5,v6,v7,w1,w2,w3,w4,h1,h2,h3⟩:=hS;refine qFu (qDW h1 (x:=v5) rfl (qAA h2.S.len ?_));have hSl:=z.S;refine⟨λys t m=>∃(k:Nat) (v:AV),ys=[v,.int .i64 (k:Int)]/\k<=F.S.length/\m=F.S.length-k/\Acc 3 s t v (ix ((fldN F W ar bd fr k).map λi:Nat=>(i:Int)))/\Sub s t,⟨_,0,_,rfl,by omega,rfl,.inl ⟨rfl,rfl⟩,.refl _⟩,?_⟩;rintro f t m ⟨k,v1,hy,hk,rfl,acc,kt⟩;simp only[cI,and_true]at hy;rw[hy.1,hy.2];clear hy;unfold qDQ;rw[qAP,qAB];refine qAJ (λhlt=>?_) (λhge=>?_)
 rotate_left
 ·have hge:k=F.S.length:=by have:=oF hge;omega
  subst hge;exact hK v1 t kt acc.sl
 have hlt:k<F.S.length:=by have:=oT hlt;omega
 have hg:F.S[k]?=some F.S[k]:=gE hlt;generalize F.S[k]=g at hg;obtain⟨pb,po,l1,l2,a1,a2,_,_,a5,a6⟩:=(h2.S.sub kt).at hg;refine qAA a1 (qAA a2 (qAM λb9 s10 hb9 h9 u9=>qAT h9 rfl rfl (by simp[a5.one,a6.one]) λs11 h11 u11=>?_));have k11:Sub t s11:=qAW (u9.sub hb9) u11 hb9;have kk:=kt.trans k11;have accs:=acc.sub k11;have hsucc:=qUZ (F:=F) (W:=W) (ar:=ar) (bd:=bd) (fr:=fr) (k:=k);have ef:flB F W ar bd fr k=(!((k:Int) == fr)&&(decide (bd∈g.2)&&wthB F W (k:Int) ar)):=by unfold flB;rw[hg]
 have hlen:(fldN F W ar bd fr k).length<=k:=by unfold fldN;have:=List.length_filter_le (flB F W ar bd fr) (List.range k);simpa using this
 have j3:∀{v':AV}{t':Hq},Acc 3 s t' v' (ix ((fldN F W ar bd fr (k+1)).map λi:Nat=>(i:Int)))->Sub s t'->qBf XX v' (.int .i64 (k:Int)) (λys t m=>∃(k:Nat) (v:AV),ys=[v,.int .i64 (k:Int)]/\k<=F.S.length/\m=F.S.length-k/\Acc 3 s t v (ix ((fldN F W ar bd fr k).map λi:Nat=>(i:Int)))/\Sub s t) (F.S.length-k) K t':=fun {v' t'} a' kk=>by unfold qBf;rw[qAN,qAB,qAb (by omega) (by omega)];exact⟨_,by omega,k+1,v',rfl,by omega,rfl,a',kk⟩
 have j2:∀{t32 t36:AV}{a:Bool}{t':Hq},qAR t32 t36 (.bool false)=some (.bool a)->flB F W ar bd fr k=a->Sub s11 t'->qBn XX v1 (.int .i64 (k:Int)) (.int .i64 (k:Int)) t32 t36 (λys t m=>∃(k:Nat) (v:AV),ys=[v,.int .i64 (k:Int)]/\k<=F.S.length/\m=F.S.length-k/\Acc 3 s t v (ix ((fldN F W ar bd fr k).map λi:Nat=>(i:Int)))/\Sub s t) (F.S.length-k) K t':=fun {t32 t36 a t'} e q k'=>by
  unfold qBn;refine qAA e ?_;cases a with
  | true=>
    rw[if_pos q]at hsucc;rw[qAF];exact app1 rfl (accs.sub k') (kk.trans k') (by rw[lM];omega) λv' s' a' ks=>j3 (by rw[hsucc,List.map_append];exact a') ks
  | false=>
    rw[if_neg (by rw[q];simp),List.append_nil]at hsucc;rw[qAD];exact j3 (by rw[hsucc];exact accs.sub k') (kk.trans k')
 simp only[qAX,qAV,Bool.true_bne,qAB];cases c1:((k:Int) == fr)with
 | true=>
   rw[Bool.not_true,qAD];unfold qBk;refine qAA (a:=.bool false) rfl ?_;rw[qAD];exact j2 rfl (by rw[ef,c1];rfl) (.refl _)
 | false=>
   rw[Bool.not_false,qAF];refine qAA (a:=.ptr b9 1) rfl (qAA (a:=l2) (by rw[qAK h11];rfl) (qFh XX_0 (by have:=z.S2 g (mG hg);omega) (a6.sub k11) ?_));unfold qBk;cases c2:decide (bd∈g.2)with
   | false=>
     refine qAA (a:=.bool false) rfl ?_;rw[qAD];exact j2 rfl (by rw[ef,c1,c2];rfl) (.refl _)
   | true=>
     refine qAA (a:=.bool true) rfl ?_;rw[qAF];refine qDU z (hS0.sub kk) (ha.sub kk) hl λs22 k22=>j2 (a:=wthB F W (k:Int) ar) rfl (by rw[ef,c1,c2];rfl) k22
theorem qOi(z:Sz F)(hv:Valid F)(hF:FabR s cs F)(hW:WR s ws W)(hK:∀v' s' ar,Sub s s'->Sl s' v' (ix ar)->Ar F W l ar->K v' s'):wC TP XX 23 [.agg cs,.agg ws,.int .i64 l] K s:=by obtain⟨v2,v3,v4,v5,v6,v7,rfl,hL⟩:=hF;obtain⟨w1,w2,w3,w4,rfl,hw⟩:=hW;refine qKS (boxN hL.all λb0 s1 hb0 g1 u1=>boxN hw.all λb2 s3 hb2 g3 u3=>?_);have k3:=u3.sub hb2;have k13:=(u1.sub hb0).trans k3;refine qAA (qAU (k3 _ _ g1) rfl) (qAA (qAU g3 rfl) ?_);refine qFE hv z ⟨v2,v3,v4,v5,v6,v7,rfl,hL.sub k13⟩ ⟨w1,w2,w3,w4,rfl,hw.sub k13⟩ (λ_ b s7 k7 hS=>?_) λq=>absurd hv q;refine qAA (a:=.ptr b 0) rfl (qAA (a:=.bool true) rfl (qAA (a:=.bool false) rfl ?_));rw[qAD];exact qVx (qHf hv) hS λv' s' ar kk h1 h2=>hK v' s' ar (k13.trans (k7.trans kk)) h1 h2
theorem qTH(z:Sz F)(hv:Valid F)(hF:FabR s cs F)(hW:WR s ws W)(hK:∀v' s',Sub s s'->Sl s' v' (ix (mems F W sg))->K v' s'):wC TP XX 26 [.agg cs,.agg ws,.int .i64 sg] K s:=by obtain⟨v2,v3,v4,v5,v6,v7,rfl,hL⟩:=hF;obtain⟨w1,w2,w3,w4,rfl,hw⟩:=hW;refine qIz (boxN hL.all λb0 s1 hb0 g1 u1=>boxN hw.all λb2 s3 hb2 g3 u3=>?_);have k3:=u3.sub hb2;have k13:=(u1.sub hb0).trans k3;refine qAA (qAU (k3 _ _ g1) rfl) (qAA (qAU g3 rfl) ?_);refine qFE hv z ⟨v2,v3,v4,v5,v6,v7,rfl,hL.sub k13⟩ ⟨w1,w2,w3,w4,rfl,hw.sub k13⟩ (λ_ b s7 k7 hS=>?_) λq=>absurd hv q;refine qAA (a:=.ptr b 0) rfl (qAA (a:=.bool true) rfl (qAA (a:=.bool false) rfl ?_));rw[qAD];have zf:=qHf hv;exact qKd zf.sm zf.S1 hS λv' s' kk h1=>hK v' s' (k13.trans (k7.trans kk)) h1
theorem qXn(z:Sz F)(hv:Valid F)(hF:FabR s cs F)(hW:WR s ws W)(hK:∀s',Sub s s'->K (.tup [.int .i64 ((entO F W h x).getD 0),.bool (entO F W h x).isSome]) s'):wC TP XX 20 [.agg cs,.agg ws,.int .i64 h,.agg (FC.frC x)] K s:=by obtain⟨v2,v3,v4,v5,v6,v7,rfl,hL⟩:=hF;obtain⟨w1,w2,w3,w4,rfl,hw⟩:=hW;refine qJh (boxN hL.all λb0 s1 hb0 g1 u1=>boxN hw.all λb2 s3 hb2 g3 u3=>boxN rfl λb4 s5 hb4 g5 u5=>?_);have k3:=u3.sub hb2;have k5:=u5.sub hb4;have k15:=(u1.sub hb0).trans (k3.trans k5);refine qAA (qAU ((k3.trans k5) _ _ g1) rfl) (qAA (qAU (k5 _ _ g3) rfl) ?_);refine qFE hv z ⟨v2,v3,v4,v5,v6,v7,rfl,hL.sub k15⟩ ⟨w1,w2,w3,w4,rfl,hw.sub k15⟩ (λ_ b s7 k7 hS=>?_) λq=>absurd hv q;refine qAA (a:=.ptr b 0) rfl (qAA (a:=.bool true) rfl (qAA (a:=.bool false) rfl ?_));rw[qAD];refine qAA (qAU (k7 _ _ g5) rfl) (qR8 (qHf hv) hS λs' kk=>?_);exact qAA (a:=.int .i64 _) rfl (qAA (a:=.bool _) rfl (hK s' (k15.trans (k7.trans kk))))
end Go.AM.OR
set_option maxRecDepth 100000
namespace Go.AM.OR
open Go Go.Proofs Go.AM.TN
variable {K:AV→Hq→Prop} {s s' t H:Hq} {cs:List AV} {F:FG} {W:WG} {b c i:Nat} {h a:Int} {x:FC.Fr} {y:R4}
theorem qRa{es:Nat}{y:AV}:∀{rows:List (List AV)}{i j:Nat}{r:List AV},(∀x∈rows,x.length=es)->rows[i]?=some r->j<es->rows.flatten.set (i*es+j) y=(rows.set i (r.set j y)).flatten
 | x::rows,0,j,r,hl,hr,hj=>by
   cases hr;have hx:x.length=es:=hl x (by simp);simp only[Nat.zero_mul,zAY,List.flatten_cons,List.set_cons_zero];rw[List.set_append_left _ _ (by omega)]
 | x::rows,i+1,j,r,hl,hr,hj=>by
   have hx:x.length=es:=hl x (by simp);have ih:=qRa (rows:=rows) (i:=i) (j:=j) (r:=r) (y:=y) (λz hz=>hl z (by simp[hz])) (by simpa using hr) hj;simp only[List.set_cons_succ,List.flatten_cons];rw[<- ih,List.set_append_right _ _ (by rw[Nat.add_mul];omega)]
   congr 2
   rw[Nat.add_mul];omega
def rqF(m p q:Int):Nat->FC.Fr
 | 0=>⟨m,BCM,1,1,0,0,0,0,0,0,0,0,0,0,0⟩
 | 1=>⟨m,BCM,1,1,m,p,0,0,0,0,0,0,0,0,0⟩
 | 2=>⟨m,BCM,1,1,m,p,0,q,0,0,0,0,0,0,0⟩
 |_=>⟨m,BCM,1,1,m,p,0,q,0,0,0,0,0,0,0⟩
theorem qQT{b2 bx:Nat}{e:Bool×Blk}(hx:s bx=some e)(hne:bx≠b2):(cutH [((hdel s b2),s)] s) bx≠none:=by rw[qLU (by rw[qEk hne];exact hx) hx];simp
theorem qTy{b0 b2 bx:Nat}{m p q:Int}(h0:s b0=some (false,.cells 40 [.int .u64 m]))(h2:s b2=some (false,.cells 42 [.int .u32 p]))(hx:s bx=some (false,.cells 48 (FC.frC (rqF m p q 0))))(n0:bx≠b0)(n2:bx≠b2)(hK:∀s',s' bx=some (false,.cells 48 (FC.frC (rqF m p q 1)))->Upto bx s s'->K (.tup []) s'):wC TP XX 139 [.ptr bx 0,.ptr b0 0,.ptr b2 0] K s:=by refine qIw (qAA (a:=.int .u64 m) (by rw[qAK h0];rfl) (qAA (a:=.int .u32 p) (by rw[qAK h2];rfl) (qAA (a:=.ptr bx 0) rfl (qAA (a:=.ptr bx 3) rfl (qAA (a:=.ptr bx 4) rfl ⟨qQT hx n2,?_⟩)))));refine qBF hx (by show 4<15;omega) rfl λs5 h5 u5=>qAA (a:=.ptr bx 0) rfl (qAA (a:=.ptr bx 3) rfl (qAA (a:=.ptr bx 5) rfl ?_));refine qBF h5 (by show 5<15;omega) rfl λs9 h9 u9=>hK s9 h9 λj hj=>by rw[u9 j hj,u5 j hj]
theorem qTz{b0 b2 bx:Nat}{m p q:Int}(h0:s b0=some (false,.cells 40 [.int .u64 0]))(h2:s b2=some (false,.cells 42 [.int .u32 q]))(hx:s bx=some (false,.cells 48 (FC.frC (rqF m p q 1))))(n0:bx≠b0)(n2:bx≠b2)(hK:∀s',s' bx=some (false,.cells 48 (FC.frC (rqF m p q 2)))->Upto bx s s'->K (.tup []) s'):wC TP XX 181 [.ptr bx 0,.ptr b0 0,.ptr b2 0] K s:=by refine qIu (qAA (a:=.int .u64 0) (by rw[qAK h0];rfl) (qAA (a:=.int .u32 q) (by rw[qAK h2];rfl) (qAA (a:=.ptr bx 0) rfl (qAA (a:=.ptr bx 3) rfl (qAA (a:=.ptr bx 6) rfl ⟨qQT hx n2,?_⟩)))));refine qBF hx (by show 6<15;omega) rfl λs5 h5 u5=>qAA (a:=.ptr bx 0) rfl (qAA (a:=.ptr bx 3) rfl (qAA (a:=.ptr bx 7) rfl ?_));refine qBF h5 (by show 7<15;omega) rfl λs9 h9 u9=>hK s9 h9 λj hj=>by rw[u9 j hj,u5 j hj]
theorem qS3{b0 bx:Nat}{m p q:Int}(h0:s b0=some (false,.cells 39 [.int .u64 0]))(hx:s bx=some (false,.cells 48 (FC.frC (rqF m p q 2))))(n0:bx≠b0)(hK:∀s',s' bx=some (false,.cells 48 (FC.frC (rqF m p q 3)))->Upto bx s s'->K (.tup []) s'):wC TP XX 141 [.ptr bx 0,.ptr b0 0] K s:=by refine qH5 (qAA (a:=.int .u64 0) (by rw[qAK h0];rfl) (qAA (a:=.ptr bx 0) rfl (qAA (a:=.ptr bx 14) rfl ?_)));exact qBF hx (by show 14<15;omega) rfl λs3 h3 u3=>hK s3 h3 u3
theorem qS7{m p q:Int}(hK:∀s',Sub s s'->K (.agg (FC.frC (rqF m p q 3))) s'):wC TP XX 87 [.int .u64 m,.int .u32 p,.int .u32 q,.int .u64 0] K s:=by
 refine qJK (qAM λb0 s1 hb0 h1 u1=>?_);have k1:=u1.sub hb0;refine qJf (qDN rfl λc0 t1 hc0 g1 v1=>qDN rfl λc1 t2 hc1 g2 v2=>?_);have l1:=v1.sub hc0;have l2:=v2.sub hc1;refine qKD (qJw (qDN rfl λd0 t3 hd0 g3 v3=>qDN rfl λd1 t4 hd1 g4 v4=>?_));have l3:=v3.sub hd0;have l4:=v4.sub hd1;refine qJT (qDN rfl λe0 t5 he0 g5 v5=>?_);have l5:=v5.sub he0;refine qAA (a:=[.fn (.func 139) [] [.ptr c0 0,.ptr c1 0],.fn (.func 181) [] [.ptr d0 0,.ptr d1 0],.fn (.func 141) [] [.ptr e0 0]]) rfl ⟨rfl,qAM λb9 t6 hb9 g9 v9=>?_⟩;have l6:=v9.sub hb9;refine qHm (qAM λf0 t7 hf0 g7 v7=>?_);have l7:=v7.sub hf0;refine qAA (a:=[.int .i64 1,.int .u64 0,.int .u32 0,.int .u64 0,.int .u32 0]) rfl (qAA (a:=FC.frC (rqF m p q 0)) rfl (qAM λbx t8 hbx g8 v8=>qAT g8 rfl rfl rfl λt9 gx v10=>?_));have l9:Sub t7 t9:=qAW (v8.sub hbx) v10 hbx;have gx:t9 bx=some (false,.cells 48 (FC.frC (rqF m p q 0))):=gx;have A1:t7 c0=some (false,.cells 40 [.int .u64 m]):=(l2.trans (l3.trans (l4.trans (l5.trans (l6.trans l7))))) _ _ g1;have A2:t7 c1=some (false,.cells 42 [.int .u32 p]):=(l3.trans (l4.trans (l5.trans (l6.trans l7)))) _ _ g2;have A3:t7 d0=some (false,.cells 40 [.int .u64 0]):=(l4.trans (l5.trans (l6.trans l7))) _ _ g3;have A4:t7 d1=some (false,.cells 42 [.int .u32 q]):=(l5.trans (l6.trans l7)) _ _ g4;have A5:t7 e0=some (false,.cells 39 [.int .u64 0]):=(l6.trans l7) _ _ g5;have ne:∀{j:Nat}{e:Bool×Blk},t7 j=some e->bx≠j:=fun {j e} hj q=>by rw[<- q,hbx]at hj;cases hj
 have hsl:Sl t7 (.slc b9 0 3 (some 3) 1) [.fn (.func 139) [] [.ptr c0 0,.ptr c1 0],.fn (.func 181) [] [.ptr d0 0,.ptr d1 0],.fn (.func 141) [] [.ptr e0 0]]:=Sl.mk (l7 _ _ g9) rfl (by simp);refine qAA (a:=3) rfl ?_;refine⟨λys t m'=>∃i:Nat,ys=[.int .i64 (i:Int)]/\i<=3/\m'=3-i/\Sub t7 t/\t bx=some (false,.cells 48 (FC.frC (rqF m p q i))),⟨_,0,rfl,by omega,rfl,l9,gx⟩,?_⟩;rintro f t m' ⟨i,hy,hi,rfl,kt,hx⟩;simp only[cI,and_true]at hy;rw[hy];clear hy;unfold qD9;rw[qAP,qAB];have up:∀{t2:Hq},Upto bx t t2->Sub t7 t2:=fun {t2} u=>qAW kt u hbx;refine qAJ (λhlt=>?_) (λhge=>?_)
 ·have hlt:i<3:=by have:=oT hlt;omega
  obtain⟨pp,e1,e2⟩:=(hsl.sub kt).get (i:=i) hlt;have nx:∀{t2:Hq},t2 bx=some (false,.cells 48 (FC.frC (rqF m p q (i+1))))->Upto bx t t2->oK (qAG .add (.int .i64 (i:Int)) (.int .i64 1)) λv_14=>∃m1,m1<3-i/\∃i:Nat,[v_14]=[AV.int .i64 (i:Int)]/\i<=3/\m1=3-i/\Sub t7 t2/\t2 bx=some (false,.cells 48 (FC.frC (rqF m p q i))):=fun {t2} h u=>by rw[qAN,qAB,qAb (by omega) (by omega)];exact⟨_,by omega,i+1,rfl,by omega,rfl,up u,h⟩
  refine qAA e1 ?_
  match i,hlt with
  | 0,_=>exact qAA (a:=.fn (.func 139) [] [.ptr c0 0,.ptr c1 0]) (e2.trans rfl) (qDu (by kernel_rfl) (qTy (kt _ _ A1) (kt _ _ A2) hx (ne A1) (ne A2) λt2 h u=>nx h u))
  | 1,_=>exact qAA (a:=.fn (.func 181) [] [.ptr d0 0,.ptr d1 0]) (e2.trans rfl) (qDu (by kernel_rfl) (qTz (kt _ _ A3) (kt _ _ A4) hx (ne A3) (ne A4) λt2 h u=>nx h u))
  | 2,_=>exact qAA (a:=.fn (.func 141) [] [.ptr e0 0]) (e2.trans rfl) (qDu (by kernel_rfl) (qS3 (kt _ _ A5) hx (ne A5) λt2 h u=>nx h u))
 have hge:i=3:=by have:=oF hge;omega
 subst hge;have nf:f0≠bx:=λe=>by rw[<- e]at hbx;rw[g7]at hbx;cases hbx
 refine qAA (qAU hx rfl) (qAT (kt _ _ g7) rfl rfl rfl λt10 g10 w10=>qAA (qAU g10 rfl) ?_);have kk:Sub t6 t10:=qAW (l7.trans kt) w10 hf0;have ks:Sub s1 t10:=l1.trans (l2.trans (l3.trans (l4.trans (l5.trans (l6.trans kk)))));refine qAT (ks _ _ h1) rfl rfl rfl λs13 h13 u13=>qAA (qAU h13 rfl) (hK s13 (qAW (k1.trans ks) u13 hb0))
def annF(y:R4):FC.Fr:=if y.2.1=0 then⟨y.1,BCM,0,0,0,0,0,0,0,0,0,0,0,0,0⟩else⟨y.1,BCM,1,1,y.1,y.2.1,0,y.2.1,0,0,0,0,0,0,0⟩
theorem zABJ(z:Sz F)(hv:Valid F)(hF:FabR s cs F)(hy:F.H[i]?=some y)(hK:∀s',Sub s s'->K (.agg (FC.frC (annF y))) s'):wC TP XX 18 [.agg cs,.int .i64 (i:Int)] K s:=by
 obtain⟨v2,v3,v4,v5,v6,v7,rfl,hL⟩:=hF;refine qGN (boxN hL.all λb0 s1 hb0 g1 u1=>qAM λb2 s3 hb2 g3 u3=>?_);have k1:=u1.sub hb0;have k3:=u3.sub hb2;have k13:=k1.trans k3;refine qAA (qAU (k3 _ _ g1) rfl) (qAA (a:=[.nilslc,.nilslc,.nilslc,.nilslc]) rfl ?_);refine qFE (W:=⟨[],[],[],[]⟩) hv z ⟨v2,v3,v4,v5,v6,v7,rfl,hL.sub k13⟩ ⟨_,_,_,_,rfl,.inl ⟨rfl,rfl⟩,.inl ⟨rfl,rfl⟩,⟨[],.inl ⟨rfl,rfl⟩,rfl,λi q r h=>by simp at h⟩,.inl ⟨rfl,rfl⟩⟩ (λ_ b s7 k7 hS=>?_) λq=>absurd hv q;have k17:=k1.trans (k3.trans k7);refine qAA (a:=.ptr b 0) rfl (qAA (a:=.bool true) rfl (qAA (a:=.bool false) rfl ?_));rw[qAD];have hi:=(gS hy).1;refine qOy hS ?_;rw[decide_eq_true (by omega),decide_eq_true (by omega)];refine qAA (a:=.bool false) rfl ?_;unfold qCZ;refine qAA (a:=.bool false) rfl ?_;rw[qAD];have q1:=(k3.trans k7) _ _ g1;obtain⟨hb,ho,e1,e2,e3⟩:=(hL.sub k17).H.get (i:=i) (r:=hgC y) (by rw[List.getElem?_map,hy];rfl);refine qAA (a:=.ptr b0 6) rfl (qAA (a:=v6) (by rw[qAK q1];rfl) (qAA e1 (qAA e2 (qAM λb19 s20 hb19 h19 u19=>qAT h19 rfl rfl rfl λs21 h21 u21=>?_))));have k21:Sub s7 s21:=qAW (u19.sub hb19) u21 hb19;have h21:s21 b19=some (false,.cells 61 (hgC y)):=h21;have q2:=(k7.trans k21) _ _ g3;refine qAA (a:=.ptr b19 1) rfl (qAA (a:=.int .u32 y.2.1) (by rw[qAK h21];rfl) ?_);have hb2':s b2=none:=qA6 k1 hb2;simp only[qAX,qAV,Bool.false_bne,qAB];refine qAJ (λc=>?_) (λc=>?_)
 ·have c:y.2.1=0:=eq_of_beq c
  refine qAA (a:=.ptr b19 0) rfl (qAA (a:=.int .u64 y.1) (by rw[qAK h21];rfl) ?_);refine qAA (a:=FC.frC (annF y)) (by unfold annF;rw[if_pos c];rfl) (qAT q2 rfl rfl rfl λs28 h28 u28=>qAA (qAU h28 rfl) (hK s28 (qAW (k17.trans k21) u28 hb2')))
 ·have c:¬y.2.1=0:=by simpa using c
  refine qAA (a:=.ptr b19 0) rfl (qAA (a:=.int .u64 y.1) (by rw[qAK h21];rfl) (qAA (a:=.ptr b19 1) rfl (qAA (a:=.int .u32 y.2.1) (by rw[qAK h21];rfl) ?_)));refine qI3 (qAM λbz s22 hbz g22 u22=>qS7 λs23 k23=>?_);have k22:=u22.sub hbz;refine qAT (k23 _ _ g22) rfl rfl rfl λs24 g24 u24=>qAA (qAU g24 rfl) ?_;have k24:Sub s21 s24:=qAW (k22.trans k23) u24 hbz;have ea:annF y=rqF y.1 y.2.1 y.2.1 3:=by unfold annF;rw[if_neg c];rfl
  rw[<- ea];exact qAT (k24 _ _ q2) rfl rfl rfl λs36 h36 u36=>qAA (qAU h36 rfl) (hK s36 (qAW (k17.trans (k21.trans k24)) u36 hb2'))
end Go.AM.OR
set_option maxRecDepth 100000
namespace Go.AM.OR
open Go Go.Proofs Go.AM.TN
variable {K:AV→Hq→Prop} {s s' s0 H:Hq} {v w:AV} {cs ws:List AV} {F:FG} {W:WG} {b c i k:Nat} {h l a:Int} {x:FC.Fr} {hd:List Hd} {y:R4}
def Own8(s0 s:Hq)(v:AV)(rows:List (List AV)):Prop:=(rows=[]/\∃b,v=.slc b 0 0 (some 0) 3)∨AccR 77 3 s0 s v rows
theorem Own8.sl{rows:List (List AV)}(h:Own8 s0 s v rows):SlR 3 s v rows:=by
 rcases h with⟨rfl,b,rfl⟩|h
 ·exact .empty
 ·exact h.sl
theorem Own8.sub{rows:List (List AV)}(h:Own8 s0 s v rows)(k:Sub s s'):Own8 s0 s' v rows:=h.imp id λq=>q.sub k
theorem qXO(hv:SlR 3 s v (hd.map hdC))(hn:hd.length<=100000)(hK:∀v' s',Sub s s'->Own8 s s' v' (hd.map hdC)->K v' s'):wC TP XX 58 [v] K s:=by
 refine qDs ?_;unfold qCj;have hv0:=hv;obtain⟨hl,q⟩:=hv;rcases q with⟨rfl,e⟩|⟨b,o,cap,rfl,_⟩
 ·refine qAA (a:=.bool true) rfl ?_
  rw[qAF];exact hK _ s (.refl _) (.inr ⟨hl,.inl ⟨rfl,e⟩⟩)
 ·refine qAA (a:=.bool false) rfl ?_
  rw[qAD];refine qAA (a:=[]) rfl ⟨rfl,qAM λb2 s3 hb2 _ u3=>?_⟩;have k3:=u3.sub hb2;refine qRh (s0:=s) (.inl ⟨rfl,b2,rfl⟩) (hv0.sub k3) (by rw[lM];simp;omega) k3 λv4 s5 o5 k5=>hK v4 s5 k5 ?_;rw[List.nil_append]at o5;exact o5
def lnIP(y:R4)(x:FC.Fr):Bool:=(x.kind == 1)&&((x.a4 == y.1)&&((x.a5 == y.2.1)&&(y.2.1 != 0)))
def ipA(hd:List Hd)(i:Nat):Bool:=match hd[i]? with
 |some e=>e.2.2
 |none=>false
def lnK(hd:List Hd)(h l:Int)(q:Bool):List Hd:=match hd.findIdx? (λe=>(e.1 == h)&&(e.2.1 == l))with
 |none=>hd ++ [(h,l,q)]
 |some i=>hd.set i (h,l,ipA hd i||q)
def lnL(F:FG)(W:WG)(hd:List Hd)(h:Int)(y:R4)(x:FC.Fr):List Hd:=match accO F W h x with
 |some l=>lnK hd h l (lnIP y x)
 |none=>hd
theorem qSl{b0 b1:Nat}{e:Hd}{t0 t1:Bool}(h0:s b0=some (t0,.cells 3 [.int .i64 h]))(h1:s b1=some (t1,.cells 3 [.int .i64 l]))(hK:∀s',Sub s s'->K (.bool ((e.1 == h)&&(e.2.1 == l))) s'):wC TP XX 60 [.agg (hdC e),.ptr b0 0,.ptr b1 0] K s:=by
 refine qI4 (boxN rfl λb s1 hb g1 u1=>?_);have k1:=u1.sub hb;have g1:s1 b=some (false,.cells 77 (hdC e)):=g1;have fin:=hK s1 k1;refine qAA (a:=.ptr b 0) rfl (qAA (a:=.int .i64 e.1) (by rw[qAK g1];rfl) (qAA (a:=.int .i64 h) (by rw[qAK (k1 _ _ h0)];rfl) ?_));simp only[qAX,qAV,Bool.false_bne,qAB];cases c:(e.1 == h)with
 | false=>
   rw[c]at fin;rw[qAD];unfold qCc;exact qAA (a:=.bool false) rfl fin
 | true=>
   rw[c,Bool.true_and]at fin;rw[qAF];refine qAA (a:=.ptr b 1) rfl (qAA (a:=.int .i64 e.2.1) (by rw[qAK g1];rfl) (qAA (a:=.int .i64 l) (by rw[qAK (k1 _ _ h1)];rfl) ?_));simp only[qAX,qAV,Bool.false_bne,qAB];unfold qCc;exact qAA (a:=.bool _) rfl fin
theorem qU5{b4 b23:Nat}{t63 t66:AV}{q:Bool}{t0 t1:Bool}(hq:qAR t63 t66 (.bool false)=some (.bool q))(ow:Own8 s0 s v (hd.map hdC))(k0:Sub s0 s)(hn:hd.length<=100000)(h0:s b4=some (t0,.cells 3 [.int .i64 h]))(h1:s b23=some (t1,.cells 3 [.int .i64 l]))
  (hK:∀v' s',Sub s0 s'->SlR 3 s' v' ((lnK hd h l q).map hdC)->K v' s'):qCP XX (.ptr b4 0) v (.ptr b23 0) t63 t66 K s:=by
 unfold qCP;refine qAA hq (qNd (p:=λe=>(e.1 == h)&&(e.2.1 == l)) hn ow.sl (λe s1 J k1 hJ=>qDu (by kernel_rfl) (qSl (k1 _ _ h0) (k1 _ _ h1) hJ)) λs2 k2=>?_);have g0:=k2 _ _ h0;have g1:=k2 _ _ h1;rw[qAP,qAB];unfold lnK at hK;cases hf:hd.findIdx? (λe=>(e.1 == h)&&(e.2.1 == l))with
 | none=>
   rw[hf]at hK;have e:fstI (λe:Hd=>(e.1 == h)&&(e.2.1 == l)) hd=-1:=by unfold fstI;rw[hf]
   rw[e,decide_eq_true (by omega),qAF];refine qAA (a:=.int .i64 h) (by rw[qAK g0];rfl) (qAA (a:=.int .i64 l) (by rw[qAK g1];rfl) (qAA (a:=hdC (h,l,q)) rfl (qAA (a:=hdC (h,l,q)) (FC.fill_one rfl) ⟨rfl,qAM λb48 s49 hb h49 u49=>?_⟩)));have k49:=u49.sub hb;refine qRh ((ow.sub k2).sub k49) (FC.one_row h49 rfl) (by rw[lM];simp;omega) (k0.trans (k2.trans k49)) λv50 s51 o51 k51=>hK v50 s51 k51 ?_;rw[List.map_append];exact Own8.sl o51
 | some i=>
   rw[hf]at hK;simp only at hK;obtain⟨hi,hp,_⟩:=List.findIdx?_eq_some_iff_getElem.1 hf;have e:fstI (λe:Hd=>(e.1 == h)&&(e.2.1 == l)) hd=(i:Int):=by unfold fstI;rw[hf]
   rw[e,decide_eq_false (by omega),qAD];have hx:hd[i]?=some hd[i]:=gE hi;generalize hd[i]=z at hx hp;rw[Bool.and_eq_true,beq_iff_eq,beq_iff_eq]at hp;obtain⟨p1,p2⟩:=hp;have ez:z=(h,l,z.2.2):=by rw[<- p1,<- p2]
   have hip:ipA hd i=z.2.2:=by unfold ipA;rw[hx]
   rw[hip]at hK;have hrow:(hd.map hdC)[i]?=some (hdC z):=by rw[List.getElem?_map,hx];rfl
   rcases ow with⟨q0,_⟩|acc
   ·have:=List.map_eq_nil_iff.1 q0
    rw[this]at hx;cases hx
   ·have acc2:=acc.sub k2
    obtain⟨hl3,r⟩:=acc2;rcases r with⟨_,q0⟩|⟨d,hd0,rfl,hd1⟩
    ·have:=List.map_eq_nil_iff.1 q0
     rw[this]at hx;cases hx
    ·have hlen:(hd.map hdC).flatten.length=hd.length*3:=by rw[qEs hl3,lM]
     have hia:qAY 3 (.slc d 0 (hd.map hdC).length none 3) (.int .i64 (i:Int))=some (.ptr d (i*3)):=by
      have:Nat.blt i hd.length=true:=by rw[Nat.blt_eq];exact hi
      simp[qAY,nat?,this]
     have hrd:rd1 s2 (.ptr d (i*3+2))=some (.bool z.2.2):=by
      have e2:=qOQ hl3 hrow;have e3:(((hd.map hdC).flatten.drop (i*3)).take 3)[2]?=(hdC z)[2]?:=by rw[e2]
      rw[List.getElem?_take,if_pos (by omega),List.getElem?_drop]at e3;rw[qAK hd1];exact e3
     refine qAA hia (qAA (a:=.ptr d (i*3+2)) (by rw[qAI]) (qAA hrd ?_));have j3:∀{t88:AV},qAR (.bool z.2.2) (.bool true) t88=some (.bool (z.2.2||q))->qC5 XX (.slc d 0 (hd.map hdC).length none 3) (.slc d 0 (hd.map hdC).length none 3) (.int .i64 (i:Int)) (.bool z.2.2) t88 K s2:=fun {t88} e=>by
      unfold qC5;refine qAA e (qAA hia (qAA (a:=.ptr d (i*3+2)) (by rw[qAI]) (qBF hd1 (by rw[hlen];omega) rfl λs58 h58 u58=>?_)));rw[qRa hl3 hrow (by omega)]at h58;have em:(hd.map hdC).set i ((hdC z).set 2 (.bool (z.2.2||q)))=(hd.set i (h,l,z.2.2||q)).map hdC:=by
       rw[List.map_set]
       congr 1
       rw[ez];rfl
      rw[em]at h58;refine hK _ s58 (qAW (k0.trans k2) u58 hd0) ⟨λr hr=>?_,.inr ⟨d,0,none,by simp,λc e=>(by cases e),λ_=>⟨_,_,_,h58,?_,?_⟩⟩⟩
      ·obtain⟨e,_,rfl⟩:=List.mem_map.1 hr
       rfl
      ·rw[qEs (es:=3) λr hr=>by obtain⟨e,_,rfl⟩:=List.mem_map.1 hr;rfl];omega
      ·rw[List.drop_zero,<- qEs (es:=3) λr hr=>by obtain⟨e,_,rfl⟩:=List.mem_map.1 hr;rfl,List.take_of_length_le (Nat.le_refl _)]
     cases c:z.2.2 with
     | true=>
       rw[c]at j3;rw[qAF];exact j3 rfl
     | false=>
       rw[c]at j3;rw[qAD];exact j3 rfl
theorem qWX(z:Sz F)(hv:Valid F)(hF:FabR s cs F)(hW:WR s ws W)(hH:SlR 3 s w (hd.map hdC))(hn:hd.length<=100000)(hy:F.H[i]?=some y)(hK:∀v' s',Sub s s'->SlR 3 s' v' ((lnL F W hd (i:Int) y x).map hdC)->K v' s'):wC TP XX 19 [.agg cs,.agg ws,w,.int .i64 (i:Int),.agg (FC.frC x)] K s:=by
 obtain⟨v2,v3,v4,v5,v6,v7,rfl,hL⟩:=hF;obtain⟨w1,w2,w3,w4,rfl,hw⟩:=hW;refine qKK (boxN hL.all λb0 s1 hb0 g1 u1=>boxN hw.all λb2 s3 hb2 g3 u3=>qDN rfl λb4 s5 hb4 g5 u5=>boxN rfl λb6 s7 hb6 g7 u7=>?_);have k1:=u1.sub hb0;have k3:=u3.sub hb2;have k5:=u5.sub hb4;have k7:=u7.sub hb6;have k17:=k1.trans (k3.trans (k5.trans k7));refine qXO (hH.sub k17) hn λv8 s9 k9 ow=>?_;have k19:=k17.trans k9;have g1':=(k3.trans (k5.trans (k7.trans k9))) _ _ g1;have g3':=(k5.trans (k7.trans k9)) _ _ g3;have g5':=(k7.trans k9) _ _ g5;have g7':s9 b6=some (false,.cells 48 (FC.frC x)):=k9 _ _ g7;refine qAA (qAU g1' rfl) (qAA (qAU g3' rfl) ?_);refine qFE hv z ⟨v2,v3,v4,v5,v6,v7,rfl,hL.sub k19⟩ ⟨w1,w2,w3,w4,rfl,hw.sub k19⟩ (λ_ b s13 k13 hS=>?_) λq=>absurd hv q;refine qAA (a:=.ptr b 0) rfl (qAA (a:=.bool true) rfl (qAA (a:=.bool false) rfl ?_));rw[qAD];refine qAA (a:=.int .i64 (i:Int)) (by rw[qAK (k13 _ _ g5')];rfl) (qAA (qAU (k13 _ _ g7') rfl) (qMO (qHf hv) hS λs20 k20=>?_));have k920:=k13.trans k20;unfold lnL at hK;have leafv:∀{o:Option Int}{b:Bool}{R:AV->AV->Prop},R (.int .i64 (o.getD 0)) (.bool b)->oK (qAd (.tup [.int .i64 (o.getD 0),.bool b]) 0) λv21=>oK (qAd (.tup [.int .i64 (o.getD 0),.bool b]) 1) λv22=>R v21 v22:=fun {o b R} h=>qAA (a:=.int .i64 (o.getD 0)) rfl (qAA (a:=.bool b) rfl h);refine qAA (a:=.int .i64 ((accO F W (i:Int) x).getD 0)) rfl (qAA (a:=.bool (accO F W (i:Int) x).isSome) rfl (qAM λb23 s24 hb23 h24 u24=>qBF h24 (by simp) rfl λs25 h25 u25=>?_));have k25:Sub s20 s25:=qAW (u24.sub hb23) u25 hb23;have k925:=k920.trans k25;have k125:=k19.trans k925;rw[qAe,qAB];cases ha:accO F W (i:Int) x with
 | none=>
   rw[ha]at hK;rw[show(none:Option Int).isSome=false from rfl,Bool.not_false,qAF];exact hK v8 s25 k125 (ow.sub k925).sl
 | some l=>
   rw[ha]at hK h25;have h25:s25 b23=some (false,.cells 3 [.int .i64 l]):=h25;rw[show(some l:Option Int).isSome=true from rfl,Bool.not_true,qAD];have q1:=k925 _ _ g1';have q5:=k925 _ _ g5';have q7:=k925 _ _ g7';obtain⟨hb,ho,e1,e2,e3⟩:=(hL.sub k125).H.get (i:=i) (r:=hgC y) (by rw[List.getElem?_map,hy];rfl);refine qAA (a:=.ptr b0 6) rfl (qAA (a:=v6) (by rw[qAK q1];rfl) (qAA (a:=.int .i64 (i:Int)) (by rw[qAK q5];rfl) (qAA e1 (qAA e2 (qAM λb32 s33 hb32 h33 u33=>qAT h33 rfl rfl rfl λs34 h34 u34=>?_)))));have k34:Sub s25 s34:=qAW (u33.sub hb32) u34 hb32;have h34:s34 b32=some (false,.cells 61 (hgC y)):=h34;have r7:=k34 _ _ q7;have fin:∀{t63 t66:AV}{q:Bool},qAR t63 t66 (.bool false)=some (.bool q)->lnIP y x=q->qCP XX (.ptr b4 0) v8 (.ptr b23 0) t63 t66 K s34:=fun {t63 t66 q} e hq=>by subst hq;refine qU5 e (ow.sub (k925.trans k34)) (k9.trans (k925.trans k34)) hn (k34 _ _ q5) (k34 _ _ h25) λv' s' kk hs=>hK v' s' (k17.trans kk) hs
   refine qAA (a:=.ptr b6 2) rfl (qAA (a:=.int .i64 x.kind) (by rw[qAK r7];rfl) ?_);simp only[qAX,qAV,Bool.false_bne,qAB];have j1:∀{t55 t61:AV}{q:Bool},qAR t55 t61 (.bool false)=some (.bool q)->((x.kind == 1)&&((x.a4 == y.1)&&(x.a5 == y.2.1)))=q->qC8 XX (.ptr b4 0) v8 (.ptr b23 0) (.ptr b32 0) t55 t61 K s34:=fun {t55 t61 q} e hq=>by
    have el:lnIP y x=(q&&(y.2.1 != 0)):=by rw[<- hq];unfold lnIP;simp only[Bool.and_assoc]
    unfold qC8;refine qAA e ?_;cases q with
    | false=>
      rw[qAD];exact fin rfl (by rw[el];rfl)
    | true=>
      rw[qAF];refine qAA (a:=.ptr b32 1) rfl (qAA (a:=.int .u32 y.2.1) (by rw[qAK h34];rfl) ?_);simp only[qAX,qAV,Bool.true_bne,qAB];exact fin (q:=!(y.2.1 == 0)) rfl (by rw[el];rfl)
   have j0:∀{t47 t53:AV}{q:Bool},qAR t47 t53 (.bool false)=some (.bool q)->((x.kind == 1)&&(x.a4 == y.1))=q->qC7 XX (.ptr b4 0) (.ptr b6 0) v8 (.ptr b23 0) (.ptr b32 0) t47 t53 K s34:=fun {t47 t53 q} e hq=>by
    unfold qC7;refine qAA e ?_;cases q with
    | false=>
      rw[qAD];exact j1 (q:=false) rfl (by rw[<- Bool.and_assoc,hq];rfl)
    | true=>
      rw[qAF];refine qAA (a:=.ptr b6 3) rfl (qAA (a:=.ptr b6 5) rfl (qAA (a:=.int .u32 x.a5) (by rw[qAK r7];rfl) (qAA (a:=.ptr b32 1) rfl (qAA (a:=.int .u32 y.2.1) (by rw[qAK h34];rfl) ?_))));simp only[qAX,qAV,Bool.false_bne,qAB];exact j1 (q:=(x.a5 == y.2.1)) rfl (by rw[<- Bool.and_assoc,hq,Bool.true_and])
   cases c:(x.kind == 1)with
   | false=>
     rw[qAD];exact j0 (q:=false) rfl (by rw[c];rfl)
   | true=>
     rw[qAF];refine qAA (a:=.ptr b6 3) rfl (qAA (a:=.ptr b6 4) rfl (qAA (a:=.int .u64 x.a4) (by rw[qAK r7];rfl) (qAA (a:=.ptr b32 0) rfl (qAA (a:=.int .u64 y.1) (by rw[qAK h34];rfl) ?_))));simp only[qAX,qAV,Bool.false_bne,qAB];exact j0 (q:=(x.a4 == y.1)) rfl (by rw[c,Bool.true_and])
end Go.AM.OR
set_option maxRecDepth 100000
namespace Go.AM.OR
open Go Go.Proofs Go.AM.TN
variable {K:AV→Hq→Prop} {s s' t H:Hq} {v w hv av:AV} {cs:List AV} {F:FG} {W:WG} {a b c i j k n:Nat} {h sg bd:Int} {tg:Bool} {x:FC.Fr} {ar:List Int} {hd:List Hd} {ip:Bool} {y:R4} {A:Aq} {R:AV→Prop} {z:AV}
theorem qYF{S:List (List Int×List Int)}(h:SgG s v S):SgG (AM.frz s) v S:=by obtain⟨vs,h1,h2,h3⟩:=h;exact⟨vs,h1.frz,h2,λi q x a c=>⟨(h3 i q x a c).1.frz,(h3 i q x a c).2.frz⟩⟩
theorem zACA{P:List (List Bool)}(h:PtR s v P):PtR (AM.frz s) v P:=by obtain⟨vs,h1,h2,h3⟩:=h;exact⟨vs,h1.frz,h2,λi q r a c=>(h3 i q r a c).frz⟩
theorem St.frz(h:St s b F W):St (AM.frz s) b F W:=by obtain⟨tg,v2,v3,v4,v5,v6,v7,w1,w2,w3,w4,h1,h2,h3⟩:=h;exact⟨true,v2,v3,v4,v5,v6,v7,w1,w2,w3,w4,qJr h1,⟨h2.L.frz,h2.T.frz,h2.B.frz,qYF h2.S,h2.H.frz,h2.G.frz⟩,⟨h3.nd.frz,h3.lk.frz,zACA h3.pt,h3.wh.frz⟩⟩
def akC(b:Nat)(hv av:AV)(x:FC.Fr)(h:R4)(sg:Int):List AV:=[.ptr b 0,hv,av]++(FC.frC x++(hgC h ++ [.int .i64 sg]))
def Ak(s:Hq)(a:Nat)(A:Aq):Prop:=∃tg b hv av,s a=some (tg,.cells 102 (akC b hv av A.x A.h A.sg))/\St s b A.F A.W/\SlR 3 s hv (A.hd.map hdC)/\Sl s av (ix A.ar)
theorem Ak.sub(h:Ak s a A)(k:Sub s s'):Ak s' a A:=by obtain⟨tg,b,hv,av,h1,h2,h3,h4⟩:=h;exact⟨tg,b,hv,av,k _ _ h1,h2.sub k,h3.sub k,h4.sub k⟩
theorem ak1(hb:s a=some (tg,.cells 102 cs))(hx:cs[k]?=some z)(hR:R z):oK (qAH (.ptr a 0)) λv=>oK (qAC k v) λv=>oK (rd1 s v) R:=
 qAA (a:=.ptr a 0) rfl (qAA (a:=.ptr a k) (by rw[qAI,zAY]) (qAA (by rw[qAK hb];exact hx) hR))
theorem ak2(hb:s a=some (tg,.cells 102 cs))(hx:cs[k+j]?=some z)(hR:R z):oK (qAH (.ptr a 0)) λv=>oK (qAC k v) λv=>oK (qAC j v) λv=>oK (rd1 s v) R:=
 qAA (a:=.ptr a 0) rfl (qAA (a:=.ptr a k) (by rw[qAI,zAY]) (qAA (a:=.ptr a (k+j)) (by rw[qAI]) (qAA (by rw[qAK hb];exact hx) hR)))
theorem ak3(hb:s a=some (tg,.cells 102 cs))(hx:cs[k+j+i]?=some z)(hR:R z):oK (qAH (.ptr a 0)) λv=>oK (qAC k v) λv=>oK (qAC j v) λv=>oK (qAC i v) λv=>oK (rd1 s v) R:=
 qAA (a:=.ptr a 0) rfl (qAA (a:=.ptr a k) (by rw[qAI,zAY]) (qAA (a:=.ptr a (k+j)) (by rw[qAI]) (qAA (a:=.ptr a (k+j+i)) (by rw[qAI]) (qAA (by rw[qAK hb];exact hx) hR))))
theorem qZU(hb:s a=some (tg,.cells 102 (akC b hv av x y sg))):rdN s 15 (.ptr a 3)=some (FC.frC x):=(qJl hb (by show 3+15<=23;omega)).trans rfl
theorem zABK(hb:s a=some (tg,.cells 102 (akC b hv av x y sg))):rdN s 5 (.ptr a 6)=some (arC x):=(qJl hb (by show 6+5<=23;omega)).trans rfl
structure AOk(A:Aq):Prop where
 f:FOk A.F
 ar:A.ar.length<=100000
 hd:A.hd.length<=100000
 bd:0<=A.h.2.2.1/\A.h.2.2.1<A.F.B.length
 hb:∀y∈A.F.H,0<=y.2.2.1/\y.2.2.1<A.F.B.length
theorem zABu{F:FG}{n:Int}(h:0<=n/\n<F.B.length):∃i:Nat,n=(i:Int)/\F.B[i]?=some (bdA F n):=by
 obtain⟨i,rfl⟩:=qI8 h.1;have hi:i<F.B.length:=by omega
 refine⟨i,rfl,?_⟩;unfold bdA;have:(i:Int).toNat=i:=by omega
 rw[this,gE hi];rfl
def ldC(y:Lnd):List AV:=[.int .i64 y.1,.int .i64 y.2.1]++FC.frC y.2.2
theorem qUF(g d:Int)(c0 c1 c2 c3 c4 c5 c6 c7 c8 c9 c10 c11 c12 c13 c14:Int):qAl [(.int .i64 0),(.int .i64 0),(.int .u64 0),(.int .u64 0),(.int .i64 0),(.int .i64 0),(.int .u64 0),(.int .u32 0),(.int .u64 0),(.int .u32 0),(.int .u32 0),(.int .u32 0),(.int .i64 0),(.int .i64 0),(.int .i64 0),(.int .i64 0),(.int .u64 0)] [(0,1,.int .i64 g),(1,1,.int .i64 d),(2,15,.agg [.int .u64 c0,.int .u64 c1,.int .i64 c2,.int .i64 c3,.int .u64 c4,.int .u32 c5,.int .u64 c6,.int .u32 c7,.int .u32 c8,.int .u32 c9,.int .i64 c10,.int .i64 c11,.int .i64 c12,.int .i64 c13,.int .u64 c14])]=some [.int .i64 g,.int .i64 d,.int .u64 c0,.int .u64 c1,.int .i64 c2,.int .i64 c3,.int .u64 c4,.int .u32 c5,.int .u64 c6,.int .u32 c7,.int .u32 c8,.int .u32 c9,.int .i64 c10,.int .i64 c11,.int .i64 c12,.int .i64 c13,.int .u64 c14]:=by kernel_rfl
theorem qZS(hK:∀v s',Sub s s'->SlR 17 s' v ([((sg,bd,x):Lnd)].map ldC)->K v s'):wC TP XX 85 [.int .i64 sg,.int .i64 bd,.agg (FC.frC x)] K s:=by refine qMB (boxN rfl λb0 s1 hb0 h1 u1=>?_);have k1:=u1.sub hb0;refine qAA (qAU h1 rfl) (qAA (a:=ldC (sg,bd,x)) (qUF ..) (qAA (a:=ldC (sg,bd,x)) (FC.fill_one rfl) ⟨rfl,qAM λb5 s6 hb5 h6 u6=>?_⟩));exact hK _ s6 (k1.trans (u6.sub hb5)) (FC.one_row h6 rfl)
theorem qJn(z:AOk A)(hA:Ak s a A)(hK:∀s',Sub s s'->K (.agg (bgC A.d)) s'):wC TP XX 79 [.ptr a 0] K s:=by refine qGH (qAM λb0 s1 hb0 h1 u1=>?_);have k1:=u1.sub hb0;have hA1:=hA.sub k1;obtain⟨tg,b,hv,av,g1,g2,g3,g4⟩:=hA1;obtain⟨tg2,v2,v3,v4,v5,v6,v7,w1,w2,w3,w4,q1,q2,q3⟩:=g2;obtain⟨i,hi,hd⟩:=zABu z.bd;obtain⟨pb,po,e1,e2,e3⟩:=q2.B.get (i:=i) (r:=bgC A.d) (by rw[List.getElem?_map,hd];rfl);refine ak1 g1 (z:=.ptr b 0) rfl (qDW q1 (x:=v4) rfl (ak2 g1 (z:=.int .i64 (i:Int)) (by show some (AV.int .i64 A.h.2.2.1)=_;rw[hi]) (qAA e1 (qAA e2 ?_))));exact qAT h1 rfl rfl rfl λs15 h15 u15=>qAA (qAU h15 rfl) (hK s15 (qAW k1 u15 hb0))
theorem qNr(hA:Ak s a A)(hK:K (.bool A.req) s):wC TP XX 80 [.ptr a 0] K s:=by
 obtain⟨tg,b,hv,av,g1,g2,g3,g4⟩:=hA;refine qFp (ak2 g1 (z:=.int .i64 A.x.kind) rfl ?_);unfold Aq.req at hK;simp only[qAX,qAV,Bool.false_bne,qAB];cases c:(A.x.kind == 1)with
 | false=>
   rw[c]at hK;rw[qAD];unfold qBe;exact qAA (a:=.bool false) rfl hK
 | true=>
   rw[c,Bool.true_and]at hK;rw[qAF];refine ak3 g1 (z:=.int .i64 A.x.a3) rfl ?_;simp only[qAX,qAV,Bool.false_bne,qAB];unfold qBe;exact qAA (a:=.bool _) rfl hK
theorem qPE{m:Int}(hA:Ak s a A)(hK:∀v s',Sub s s'->SlR 17 s' v ((A.ans m).map ldC)->K v s'):wC TP XX 81 [.ptr a 0,.int .u64 m] K s:=by have hA0:=hA;obtain⟨tg,b,hv,av,g1,g2,g3,g4⟩:=hA;refine qGF (qAA (a:=.ptr a 0) rfl (qAA (a:=.ptr a 3) rfl (qAA (a:=.ptr a 6) rfl (qAA (zABK g1) (qAM λb4 s5 hb4 h4 u4=>qAT h4 rfl rfl rfl λs6 h6 u6=>?_)))));have k6:Sub s s6:=qAW (u4.sub hb4) u6 hb4;have h6:s6 b4=some (false,.cells 44 (arC A.x)):=h6;have g6:=k6 _ _ g1;have r:∀{j:Nat}{y:AV}{R:AV->Prop},(arC A.x)[j]?=some y->R y->oK (qAC j (.ptr b4 0)) λv=>oK (rd1 s6 v) R:=fun {j y R} e h=>qAA (a:=.ptr b4 j) (by rw[qAI,zAY]) (qAA (by rw[qAK h6];exact e) h);refine ak1 g6 (z:=.int .i64 A.sg) rfl (ak2 g6 (z:=.int .i64 A.h.2.2.1) rfl (r (y:=.int .u64 A.x.a4) rfl (r (y:=.int .u32 A.x.a7) rfl (r (y:=.int .u64 A.x.a4) rfl (r (y:=.int .u32 A.x.a5) rfl ?_)))));refine qAA (a:=arC (qNQ A.x m)) rfl (qAA (a:=FC.frC (qNQ A.x m)) rfl (qZS λv s' k hs=>hK v s' (k6.trans k) hs))
def qNB(s:Hq)(r:Option (List Lnd))(K:AV->Hq->Prop):Prop:=(∀L,r=some L->∀v s',Sub s s'->SlR 17 s' v (L.map ldC)->K (.tup [v,.bool true]) s')/\(r=none->∀s',Sub s s'->K (.tup [.nilslc,.bool false]) s')
theorem qNB.to{r:Option (List Lnd)}(h:qNB s r K)(k:Sub s s'):qNB s' r K:=⟨λL e v s2 k2 hs=>h.1 L e v s2 (k.trans k2) hs,λe s2 k2=>h.2 e s2 (k.trans k2)⟩
theorem qS0(z:AOk A)(hA:Ak s a A)(hK:qNB s A.rGate K):wC TP XX 42 [.ptr a 0] K s:=by
 refine qFn (qJn z hA λs1 k1=>qAM λb2 s3 hb2 h3 u3=>qAT h3 rfl rfl rfl λs4 h4 u4=>?_);have k4:Sub s1 s4:=qAW (u3.sub hb2) u4 hb2;have k14:=k1.trans k4;have h4:s4 b2=some (false,.cells 69 (bgC A.d)):=h4;have hA4:=hA.sub k14;have hK4:=hK.to k14;unfold Aq.rGate at hK4;have no1:∀{t15 t24:AV},qAR t15 (.bool true) t24=some (.bool true)->(A.req&&(A.gw != 0&&(A.x.a7 == A.gw)))=false->qBK XX (.ptr a 0) t15 t24 K s4:=fun {t15 t24} e q=>by unfold qBK;refine qAA e ?_;rw[qAF];exact hK4.2 (by rw[q];rfl) s4 (.refl _)
 have no0:∀{t15 t24:AV},qAR t15 (.bool true) t24=some (.bool true)->(A.req&&(A.gw != 0&&(A.x.a7 == A.gw)))=false->qBL XX (.ptr a 0) (.ptr b2 0) t15 t24 K s4:=fun {t15 t24} e q=>by unfold qBL;refine qAA e ?_;rw[qAF];exact no1 rfl q
 have rg:∀{R:AV->Prop},R (.int .u32 A.gw)->oK (qAC 5 (.ptr b2 0)) λv=>oK (rd1 s4 v) R:=fun {R} h=>qAA (a:=.ptr b2 5) rfl (qAA (a:=.int .u32 A.gw) (by rw[qAK h4];rfl) h);refine qNr hA4 ?_;rw[qAe,qAB];cases c1:A.req with
 | false=>
   rw[Bool.not_false,qAF];exact no0 rfl (by rw[c1];rfl)
 | true=>
   rw[Bool.not_true,qAD];refine rg ?_;simp only[qAX,qAV,Bool.false_bne,qAB];cases c2:(A.gw == 0)with
   |true=>exact no0 rfl (by rw[show(A.gw != 0)=false by unfold bne;rw[c2];rfl];simp)
   | false=>
     have n2:(A.gw != 0)=true:=by unfold bne;rw[c2];rfl
     unfold qBL;refine qAA (a:=.bool false) rfl ?_;rw[qAD];have hA4':=hA4;obtain⟨tg,b,hv,av,g1,g2,g3,g4⟩:=hA4';refine ak3 g1 (z:=.int .u32 A.x.a7) rfl (rg ?_);simp only[qAX,qAV,Bool.true_bne,qAB];cases c3:(A.x.a7 == A.gw)with
     |false=>exact no1 rfl (by rw[c3];simp)
     | true=>
       unfold qBK;refine qAA (a:=.bool false) rfl ?_;rw[qAD];refine qPE hA4 λv s' k hs=>hK4.1 (A.ans GWM) (by rw[c1,n2,c3];rfl) v s' k hs
theorem qN8{f6:AV}{Q:Nat->Hq->Prop}(hH:SlR 4 s f6 (A.F.H.map hgC))(hy:A.F.H[i]?=some y)(hQ:∀b s',Sub s s'->s b=none->s' b=some (false,.cells 61 (hgC y))->Q b s'):
  oK (qAY 4 f6 (.int .i64 (i:Int))) λv=>oK (rdN s 4 v) λw=>newK 61 [(.int .u64 0),(.int .u32 0),(.int .i64 0),(.int .i64 0)] (λb s1=>oK (qAw s1 4 (.ptr b 0) (.agg w)) λs2=>Q b s2) s:=by
 obtain⟨hb,ho,e1,e2,e3⟩:=hH.get (i:=i) (r:=hgC y) (by rw[List.getElem?_map,hy];rfl);exact qAA e1 (qAA e2 (qAM λb s1 hb h1 u1=>qAT h1 rfl rfl rfl λs2 h2 u2=>hQ b s2 (qAW (u1.sub hb) u2 hb) hb h2))
theorem qUz(z:AOk A)(hA:Ak s a A){Q:AV->Hq->Prop}(hQ:∀s',Sub s s'->Q (.bool (knw A.F A.W A.ar A.hd h ip)) s'):
  oK (qAH (.ptr a 0)) λv1=>oK (qAC 0 v1) λv2=>oK (rd1 s v2) λv3=>oK (qAH (.ptr a 0)) λv4=>oK (qAC 2 v4) λv5=>oK (rd1 s v5) λv6=>oK (qAH (.ptr a 0)) λv7=>oK (qAC 1 v7) λv8=>oK (rd1 s v8) λv9=>wC TP XX 62 [v3,v6,v9,.int .i64 h,.bool ip] Q s:=by
 obtain⟨tg,b,hv,av,g1,g2,g3,g4⟩:=hA;exact ak1 g1 (z:=.ptr b 0) rfl (ak1 g1 (z:=av) rfl (ak1 g1 (z:=hv) rfl (qWZ z.f g2 g4 z.ar g3 z.hd hQ)))
theorem qNC(z:AOk A)(hA:Ak s a A)(hK:qNB s A.rSup K):wC TP XX 43 [.ptr a 0] K s:=by
 have hA0:=hA;obtain⟨tg,b,hv,av,g1,g2,g3,g4⟩:=hA;refine qEc (qAA (a:=.ptr a 0) rfl (qAA (a:=.ptr a 3) rfl (qAA (a:=.ptr a 6) rfl (qAA (zABK g1) (qAM λb4 s5 hb4 h4 u4=>qAT h4 rfl rfl rfl λs6 h6 u6=>?_)))));have k6:Sub s s6:=qAW (u4.sub hb4) u6 hb4;have h6:s6 b4=some (false,.cells 44 (arC A.x)):=h6;have g6:=k6 _ _ g1;have hA6:=hA0.sub k6;have hK6:=hK.to k6;have r:∀{j:Nat}{y:AV}{R:AV->Prop},(arC A.x)[j]?=some y->R y->oK (qAC j (.ptr b4 0)) λv=>oK (rd1 s6 v) R:=fun {j y R} e h=>qAA (a:=.ptr b4 j) (by rw[qAI,zAY]) (qAA (by rw[qAK h6];exact e) h);obtain⟨tg2,v2,v3,v4,v5,v6,v7,w1,w2,w3,w4,q1,q2,q3⟩:=g2.sub k6;unfold Aq.rSup at hK6;have cond0:(A.F.su&&(A.req&&(A.x.a7 != 0&&A.x.a7 != A.x.a5)))=false->K (.tup [.nilslc,.bool false]) s6:=λe=>hK6.2 (by rw[e];rfl) s6 (.refl _);have no2:∀{t31 t36:AV},qAR t31 (.bool true) t36=some (.bool true)->(A.F.su&&(A.req&&(A.x.a7 != 0&&A.x.a7 != A.x.a5)))=false->qAx XX (.ptr a 0) (.ptr b4 0) t31 t36 K s6:=fun {t31 t36} e q=>by unfold qAx;refine qAA e ?_;rw[qAF];exact cond0 q
 have no1:∀{t31 t36:AV},qAR t31 (.bool true) t36=some (.bool true)->(A.F.su&&(A.req&&(A.x.a7 != 0&&A.x.a7 != A.x.a5)))=false->qAt XX (.ptr a 0) (.ptr b4 0) t31 t36 K s6:=fun {t31 t36} e q=>by unfold qAt;refine qAA e ?_;rw[qAF];exact no2 rfl q
 have no0:∀{t31 t36:AV},qAR t31 (.bool true) t36=some (.bool true)->(A.F.su&&(A.req&&(A.x.a7 != 0&&A.x.a7 != A.x.a5)))=false->qA0 XX (.ptr a 0) (.ptr b4 0) t31 t36 K s6:=fun {t31 t36} e q=>by unfold qA0;refine qAA e ?_;rw[qAF];exact no1 rfl q
 refine ak1 g6 (z:=.ptr b 0) rfl (qDW q1 (x:=.bool A.F.su) rfl ?_);rw[qAe,qAB];cases c1:A.F.su with
 | false=>
   rw[Bool.not_false,qAF];exact no0 rfl (by rw[c1];rfl)
 |true=>
 rw[Bool.not_true,qAD];refine qNr hA6 ?_;rw[qAe,qAB];cases c2:A.req with
 |false=>exact no0 rfl (by rw[c1,c2];rfl)
 |true=>
 unfold qA0;refine qAA (a:=.bool false) rfl ?_;rw[qAD];refine r (y:=.int .u32 A.x.a7) rfl ?_;simp only[qAX,qAV,Bool.false_bne,qAB];cases c3:(A.x.a7 == 0)with
 |true=>exact no1 rfl (by rw[c1,c2,show(A.x.a7 != 0)=false by unfold bne;rw[c3];rfl];rfl)
 |false=>
 have n3:(A.x.a7 != 0)=true:=by unfold bne;rw[c3];rfl
 unfold qAt;refine qAA (a:=.bool false) rfl ?_;rw[qAD];refine r (y:=.int .u32 A.x.a7) rfl (r (y:=.int .u32 A.x.a5) rfl ?_);simp only[qAX,qAV,Bool.false_bne,qAB];cases c4:(A.x.a7 == A.x.a5)with
 |true=>exact no2 rfl (by rw[c1,c2,n3,show(A.x.a7 != A.x.a5)=false by unfold bne;rw[c4];rfl];rfl)
 |false=>
 have n4:(A.x.a7 != A.x.a5)=true:=by unfold bne;rw[c4];rfl
 rw[c1,c2,n3,n4]at hK6;rw[if_pos (show(true&&(true&&(true&&true)))=true from rfl)]at hK6;unfold qAx;refine qAA (a:=.bool false) rfl ?_;rw[qAD];have nl:qAQ v6=some A.F.H.length:=by rw[q2.H.len,lM]
 refine ak1 g6 (z:=.ptr b 0) rfl (qDW q1 (x:=v6) rfl (qAA nl ?_));have hHl:=z.f.H;refine⟨λys t m=>∃k:Nat,ys=[.int .i64 (k:Int)]/\k<=A.F.H.length/\m=A.F.H.length-k/\Sub s6 t/\fst A.supP k=none,⟨_,0,rfl,by omega,rfl,.refl _,rfl⟩,?_⟩;rintro f t m ⟨k,hy,hk,rfl,kt,hno⟩;simp only[cI,and_true]at hy;rw[hy];clear hy;unfold qCk;rw[qAP,qAB];refine qAJ (λhlt=>?_) (λhge=>?_)
 rotate_left
 ·have hge:k=A.F.H.length:=by have:=oF hge;omega
  subst hge;exact hK6.2 (by rw[hno];rfl) t kt
 have hlt:k<A.F.H.length:=by have:=oT hlt;omega
 have hy:A.F.H[k]?=some A.F.H[k]:=gE hlt;generalize A.F.H[k]=y at hy;have ep:A.supP k=((y.2.2.1 == A.h.2.2.1)&&((y.2.1 == A.x.a7)&&knw A.F A.W A.ar A.hd (k:Int) true)):=by unfold Aq.supP;rw[hy]
 refine qN8 (q2.H.sub kt) hy λb30 s32 k32 hb30 h32=>?_;have kk:=kt.trans k32;have g32:=kk _ _ g6;have r2:∀{j:Nat}{z:AV}{R:AV->Prop},(hgC y)[j]?=some z->R z->oK (qAC j (.ptr b30 0)) λv=>oK (rd1 s32 v) R:=fun {j z R} e h=>qAA (a:=.ptr b30 j) (by rw[qAI,zAY]) (qAA (by rw[qAK h32];exact e) h);have no5:∀{t67 t81:AV}{t2:Hq},qAR t67 t81 (.bool false)=some (.bool false)->A.supP k=false->Sub s6 t2->qAy XX (.ptr a 0) (.ptr b30 0) (.int .i64 (k:Int)) t67 t81 (λys t m=>∃k:Nat,ys=[.int .i64 (k:Int)]/\k<=A.F.H.length/\m=A.F.H.length-k/\Sub s6 t/\fst A.supP k=none) (A.F.H.length-k) K t2:=fun {t67 t81 t2} e q k2=>by unfold qAy;refine qAA e ?_;rw[qAD,qAN,qAB,qAb (by omega) (by omega)];exact⟨_,by omega,k+1,rfl,by omega,rfl,k2,qOt hno q⟩
 have no4:∀{t60 t65:AV},qAR t60 t65 (.bool false)=some (.bool false)->A.supP k=false->qAu XX (.ptr a 0) (.int .i64 (k:Int)) (.ptr b30 0) (.int .i64 (k:Int)) t60 t65 (λys t m=>∃k:Nat,ys=[.int .i64 (k:Int)]/\k<=A.F.H.length/\m=A.F.H.length-k/\Sub s6 t/\fst A.supP k=none) (A.F.H.length-k) K s32:=fun {t60 t65} e q=>by unfold qAu;refine qAA e ?_;rw[qAD];exact no5 rfl q kk
 refine r2 (z:=.int .i64 y.2.2.1) rfl (ak2 g32 (z:=.int .i64 A.h.2.2.1) rfl ?_);simp only[qAX,qAV,Bool.false_bne,qAB];cases d1:(y.2.2.1 == A.h.2.2.1)with
 | false=>
   rw[qAD];exact no4 rfl (by rw[ep,d1];rfl)
 |true=>
 rw[qAF];refine r2 (z:=.int .u32 y.2.1) rfl (qAA (a:=.ptr b4 4) rfl (qAA (a:=.int .u32 A.x.a7) (by rw[qAK (kk _ _ h6)];rfl) ?_));simp only[qAX,qAV,Bool.false_bne,qAB];cases d2:(y.2.1 == A.x.a7)with
 |false=>exact no4 rfl (by rw[ep,d1,d2];rfl)
 |true=>
 unfold qAu;refine qAA (a:=.bool true) rfl ?_;rw[qAF];refine qUz z (hA6.sub kk) λs57 k57=>?_;cases d3:knw A.F A.W A.ar A.hd (k:Int) true with
 |false=>exact no5 rfl (by rw[ep,d1,d2,d3];rfl) (kk.trans k57)
 | true=>
   unfold qAy;refine qAA (a:=.bool true) rfl ?_;rw[qAF];refine qAA (a:=.ptr b30 0) rfl (qAA (a:=.int .u64 y.1) (by rw[qAK (k57 _ _ h32)];rfl) (qPE (hA6.sub (kk.trans k57)) λv s' k2 hs=>hK6.1 (A.ans y.1) ?_ v s' (kk.trans (k57.trans k2)) hs));rw[qVq hno (by rw[ep,d1,d2,d3];rfl) hlt];show some (A.ans (macA A.F k))=_;unfold macA;rw[hy]
end Go.AM.OR
set_option maxRecDepth 100000
namespace Go.AM.OR
open Go Go.Proofs Go.AM.TN
variable {K:AV→Hq→Prop} {s s' t H:Hq} {v hv av:AV} {F:FG} {W:WG} {a b c i j k:Nat} {h l sg:Int} {tg:Bool} {x:FC.Fr} {ar:List Int} {hd:List Hd} {y:R4} {A:Aq} {R:AV→Prop} {z:AV} {tn ip:Int}
theorem qWM{p:BG->Bool}{B:List BG}{k:Nat}{d:BG}(hd:B[k]?=some d)(h:(B.take k).any p=false)(hp:p d=false):(B.take (k+1)).any p=false:=by rw[List.take_add_one,hd,List.any_append,h];simp[hp]
theorem qZM(z:AOk A)(hA:Ak s a A)(hK:∀s',Sub s s'->K (.bool (A.isGw tn ip)) s'):wC TP XX 82 [.ptr a 0,.int .i64 tn,.int .u32 ip] K s:=by
 obtain⟨tg,b,hv,av,g1,g2,g3,g4⟩:=hA;obtain⟨tg2,v2,v3,v4,v5,v6,v7,w1,w2,w3,w4,q1,q2,q3⟩:=g2;have nl:qAQ v4=some A.F.B.length:=by rw[q2.B.len,lM]
 refine qFA (ak1 g1 (z:=.ptr b 0) rfl (qDW q1 (x:=v4) rfl (qAA nl ?_)));have hBl:=z.f.B;refine⟨λys t m=>∃k:Nat,ys=[.int .i64 (k:Int)]/\k<=A.F.B.length/\m=A.F.B.length-k/\Sub s t/\(A.F.B.take k).any (λd=>(d.1 == tn)&&(d.2.2.2.2.2 != 0&&(d.2.2.2.2.2 == ip)))=false,⟨_,0,rfl,by omega,rfl,.refl _,rfl⟩,?_⟩;rintro f t m ⟨k,hy,hk,rfl,kt,hno⟩;simp only[cI,and_true]at hy;rw[hy];clear hy;unfold qC6;rw[qAP,qAB];refine qAJ (λhlt=>?_) (λhge=>?_)
 rotate_left
 ·have hge:k=A.F.B.length:=by have:=oF hge;omega
  subst hge;rw[List.take_length]at hno;have:=hK t kt;unfold Aq.isGw at this;rw[hno]at this;exact this
 have hlt:k<A.F.B.length:=by have:=oT hlt;omega
 have hd:A.F.B[k]?=some A.F.B[k]:=gE hlt;generalize A.F.B[k]=d at hd;obtain⟨pb,po,e1,e2,e3⟩:=(q2.B.sub kt).get (i:=k) (r:=bgC d) (by rw[List.getElem?_map,hd];rfl);refine qAA e1 (qAA e2 (qAM λb12 s13 hb12 h13 u13=>qAT h13 rfl rfl rfl λs14 h14 u14=>?_));have k14:Sub t s14:=qAW (u13.sub hb12) u14 hb12;have h14:s14 b12=some (false,.cells 69 (bgC d)):=h14;have kk:=kt.trans k14;have r2:∀{j:Nat}{z:AV}{R:AV->Prop},(bgC d)[j]?=some z->R z->oK (qAC j (.ptr b12 0)) λv=>oK (rd1 s14 v) R:=fun {j z R} e h=>qAA (a:=.ptr b12 j) (by rw[qAI,zAY]) (qAA (by rw[qAK h14];exact e) h);have no2:∀{t31 t35:AV},qAR t31 t35 (.bool false)=some (.bool false)->((d.1 == tn)&&(d.2.2.2.2.2 != 0&&(d.2.2.2.2.2 == ip)))=false->qA5 XX (.int .i64 (k:Int)) t31 t35 (λys t m=>∃k:Nat,ys=[.int .i64 (k:Int)]/\k<=A.F.B.length/\m=A.F.B.length-k/\Sub s t/\(A.F.B.take k).any (λd=>(d.1 == tn)&&(d.2.2.2.2.2 != 0&&(d.2.2.2.2.2 == ip)))=false) (A.F.B.length-k) K s14:=fun {t31 t35} e q=>by unfold qA5;refine qAA e ?_;rw[qAD,qAN,qAB,qAb (by omega) (by omega)];exact⟨_,by omega,k+1,rfl,by omega,rfl,kk,qWM hd hno q⟩
 have no1:∀{t31 t35:AV},qAR t31 t35 (.bool false)=some (.bool false)->((d.1 == tn)&&(d.2.2.2.2.2 != 0&&(d.2.2.2.2.2 == ip)))=false->qA4 XX (.int .u32 ip) (.ptr b12 0) (.int .i64 (k:Int)) t31 t35 (λys t m=>∃k:Nat,ys=[.int .i64 (k:Int)]/\k<=A.F.B.length/\m=A.F.B.length-k/\Sub s t/\(A.F.B.take k).any (λd=>(d.1 == tn)&&(d.2.2.2.2.2 != 0&&(d.2.2.2.2.2 == ip)))=false) (A.F.B.length-k) K s14:=fun {t31 t35} e q=>by unfold qA4;refine qAA e ?_;rw[qAD];exact no2 rfl q
 refine r2 (z:=.int .i64 d.1) rfl ?_;simp only[qAX,qAV,Bool.false_bne,qAB];cases d1:(d.1 == tn)with
 |false=>rw[qAD];exact no1 rfl (by rw[d1];rfl)
 |true=>
 rw[qAF];refine r2 (z:=.int .u32 d.2.2.2.2.2) rfl ?_;simp only[qAX,qAV,Bool.true_bne,qAB];cases d2:(d.2.2.2.2.2 == 0)with
 |true=>exact no1 rfl (by rw[d1,show(d.2.2.2.2.2 != 0)=false by unfold bne;rw[d2];rfl];rfl)
 |false=>
 have n2:(d.2.2.2.2.2 != 0)=true:=by unfold bne;rw[d2];rfl
 unfold qA4;refine qAA (a:=.bool true) rfl ?_;rw[qAF];refine r2 (z:=.int .u32 d.2.2.2.2.2) rfl ?_;simp only[qAX,qAV,Bool.false_bne,qAB];cases d3:(d.2.2.2.2.2 == ip)with
 |false=>exact no2 rfl (by rw[d1,n2,d3];rfl)
 | true=>
   unfold qA5;refine qAA (a:=.bool true) rfl ?_;rw[qAF];have e:A.isGw tn ip=true:=List.any_eq_true.2 ⟨d,mG hd,by rw[d1,n2,d3];rfl⟩;rw[<- e];exact hK s14 kk
theorem qVX(z:AOk A)(hA:Ak s a A)(hK:∀s',Sub s s'->K (.tup [.int .i64 (((A.dest tn ip).getD 0:Nat):Int),.bool (A.dest tn ip).isSome]) s'):wC TP XX 83 [.ptr a 0,.int .i64 tn,.int .u32 ip] K s:=by
 have hA0:=hA;obtain⟨tg,b,hv,av,g1,g2,g3,g4⟩:=hA;obtain⟨tg2,v2,v3,v4,v5,v6,v7,w1,w2,w3,w4,q1,q2,q3⟩:=g2;have nl:qAQ v6=some A.F.H.length:=by rw[q2.H.len,lM]
 refine qEW (ak1 g1 (z:=.ptr b 0) rfl (qDW q1 (x:=v6) rfl (qAA nl ?_)));have hHl:=z.f.H;refine⟨λys t m=>∃k:Nat,ys=[.int .i64 (k:Int)]/\k<=A.F.H.length/\m=A.F.H.length-k/\Sub s t/\fst (A.dstP tn ip) k=none,⟨_,0,rfl,by omega,rfl,.refl _,rfl⟩,?_⟩;rintro f t m ⟨k,hy,hk,rfl,kt,hno⟩;simp only[cI,and_true]at hy;rw[hy];clear hy;unfold qCl;rw[qAP,qAB];refine qAJ (λhlt=>?_) (λhge=>?_)
 rotate_left
 ·have hge:k=A.F.H.length:=by have:=oF hge;omega
  subst hge;have:=hK t kt;unfold Aq.dest at this;rw[hno]at this;exact this
 have hlt:k<A.F.H.length:=by have:=oT hlt;omega
 have hy:A.F.H[k]?=some A.F.H[k]:=gE hlt;generalize A.F.H[k]=y at hy;obtain⟨di,hdi,hd⟩:=zABu (z.hb y (mG hy));have ep:A.dstP tn ip k=((y.2.1 != 0&&y.2.1 == ip)&&(((bdA A.F y.2.2.1).1 == tn)&&((bdA A.F y.2.2.1).2.2.2.2.2 != 0&&knw A.F A.W A.ar A.hd (k:Int) true))):=by unfold Aq.dstP;rw[hy]
 generalize bdA A.F y.2.2.1=d at hd ep;refine qN8 (q2.H.sub kt) hy λb12 s14 k14 hb12 h14=>?_;have kk:=kt.trans k14;refine ak1 (kk _ _ g1) (z:=.ptr b 0) rfl (qDW (kk _ _ q1) (x:=v4) rfl (qAA (a:=.ptr b12 2) rfl (qAA (a:=.int .i64 (di:Int)) (by rw[qAK h14];show some (AV.int .i64 y.2.2.1)=_;rw[hdi]) ?_)));obtain⟨pb,po,e1,e2,e3⟩:=(q2.B.sub kk).get (i:=di) (r:=bgC d) (by rw[List.getElem?_map,hd];rfl);refine qAA e1 (qAA e2 (newM (l:=[]) λb26 s27 hb26 h27 u27=>?_));generalize add s14 s27=s27 at h27 u27 ⊢;refine qAT h27 rfl rfl rfl λs28 h28 u28=>?_;have k28:Sub s14 s28:=qAW (u27.sub hb26) u28 hb26;have h28:s28 b26=some (false,.cells 69 (bgC d)):=h28;have h12:=k28 _ _ h14;have kk:=kk.trans k28;have r1:∀{j:Nat}{z:AV}{R:AV->Prop},(hgC y)[j]?=some z->R z->oK (qAC j (.ptr b12 0)) λv=>oK (rd1 s28 v) R:=fun {j z R} e h=>qAA (a:=.ptr b12 j) (by rw[qAI,zAY]) (qAA (by rw[qAK h12];exact e) h);have r2:∀{j:Nat}{z:AV}{R:AV->Prop},(bgC d)[j]?=some z->R z->oK (qAC j (.ptr b26 0)) λv=>oK (rd1 s28 v) R:=fun {j z R} e h=>qAA (a:=.ptr b26 j) (by rw[qAI,zAY]) (qAA (by rw[qAK h28];exact e) h);have no4:∀{t1 t2:AV}{t':Hq},qAR t1 t2 (.bool false)=some (.bool false)->A.dstP tn ip k=false->Sub s t'->qAv XX (.int .i64 (k:Int)) (.int .i64 (k:Int)) t1 t2 (λys t m=>∃k:Nat,ys=[.int .i64 (k:Int)]/\k<=A.F.H.length/\m=A.F.H.length-k/\Sub s t/\fst (A.dstP tn ip) k=none) (A.F.H.length-k) K t':=fun {t1 t2 t'} e q k2=>by unfold qAv;refine qAA e ?_;rw[qAD,qAN,qAB,qAb (by omega) (by omega)];exact⟨_,by omega,k+1,rfl,by omega,rfl,k2,qOt hno q⟩
 have no3:∀{t1 t2:AV},qAR t1 t2 (.bool false)=some (.bool false)->A.dstP tn ip k=false->qA1 XX (.ptr a 0) (.int .i64 (k:Int)) (.int .i64 (k:Int)) t1 t2 (λys t m=>∃k:Nat,ys=[.int .i64 (k:Int)]/\k<=A.F.H.length/\m=A.F.H.length-k/\Sub s t/\fst (A.dstP tn ip) k=none) (A.F.H.length-k) K s28:=fun {t1 t2} e q=>by unfold qA1;refine qAA e ?_;rw[qAD];exact no4 rfl q kk
 have no2:∀{t1 t2:AV},qAR t1 t2 (.bool false)=some (.bool false)->A.dstP tn ip k=false->qAs XX (.ptr a 0) (.int .i64 (k:Int)) (.ptr b26 0) (.int .i64 (k:Int)) t1 t2 (λys t m=>∃k:Nat,ys=[.int .i64 (k:Int)]/\k<=A.F.H.length/\m=A.F.H.length-k/\Sub s t/\fst (A.dstP tn ip) k=none) (A.F.H.length-k) K s28:=fun {t1 t2} e q=>by unfold qAs;refine qAA e ?_;rw[qAD];exact no3 rfl q
 have no1:∀{t1 t2:AV},qAR t1 t2 (.bool false)=some (.bool false)->A.dstP tn ip k=false->qAz XX (.ptr a 0) (.int .i64 tn) (.int .i64 (k:Int)) (.ptr b26 0) (.int .i64 (k:Int)) t1 t2 (λys t m=>∃k:Nat,ys=[.int .i64 (k:Int)]/\k<=A.F.H.length/\m=A.F.H.length-k/\Sub s t/\fst (A.dstP tn ip) k=none) (A.F.H.length-k) K s28:=fun {t1 t2} e q=>by unfold qAz;refine qAA e ?_;rw[qAD];exact no2 rfl q
 refine r1 (z:=.int .u32 y.2.1) rfl ?_;simp only[qAX,qAV,Bool.true_bne,qAB];cases d1:(y.2.1 == 0)with
 | true=>
   rw[Bool.not_true,qAD];exact no1 rfl (by rw[ep,show(y.2.1 != 0)=false by unfold bne;rw[d1];rfl];rfl)
 |false=>
 have n1:(y.2.1 != 0)=true:=by unfold bne;rw[d1];rfl
 rw[Bool.not_false,qAF];refine r1 (z:=.int .u32 y.2.1) rfl ?_;simp only[qAX,qAV,Bool.false_bne,qAB];cases d2:(y.2.1 == ip)with
 |false=>exact no1 rfl (by rw[ep,n1,d2];rfl)
 |true=>
 unfold qAz;refine qAA (a:=.bool true) rfl ?_;rw[qAF];refine r2 (z:=.int .i64 d.1) rfl ?_;simp only[qAX,qAV,Bool.false_bne,qAB];cases d3:(d.1 == tn)with
 |false=>exact no2 rfl (by rw[ep,n1,d2,d3];rfl)
 |true=>
 unfold qAs;refine qAA (a:=.bool true) rfl ?_;rw[qAF];refine r2 (z:=.int .u32 d.2.2.2.2.2) rfl ?_;simp only[qAX,qAV,Bool.true_bne,qAB];cases d4:(d.2.2.2.2.2 == 0)with
 |true=>exact no3 rfl (by rw[ep,n1,d2,d3,show(d.2.2.2.2.2 != 0)=false by unfold bne;rw[d4];rfl];rfl)
 |false=>
 have n4:(d.2.2.2.2.2 != 0)=true:=by unfold bne;rw[d4];rfl
 unfold qA1;refine qAA (a:=.bool true) rfl ?_;rw[qAF];refine qUz z (hA0.sub kk) λs47 k47=>?_;cases d5:knw A.F A.W A.ar A.hd (k:Int) true with
 |false=>exact no4 rfl (by rw[ep,n1,d2,d3,n4,d5];rfl) (kk.trans k47)
 | true=>
   unfold qAv;refine qAA (a:=.bool true) rfl ?_;rw[qAF];have:=hK s47 (kk.trans k47);unfold Aq.dest at this;rw[qVq hno (by rw[ep,n1,d2,d3,n4,d5];rfl) hlt]at this;exact this
theorem qRi(z:AOk A)(hA:Ak s a A)(hK:∀v s',Sub s s'->SlR 17 s' v (A.every.map ldC)->K v s'):wC TP XX 86 [.ptr a 0] K s:=by
 have hA0:=hA;obtain⟨tg,b,hv,av,g1,g2,g3,g4⟩:=hA;refine qEe (ak1 g1 (z:=.ptr b 0) rfl (ak1 g1 (z:=av) rfl (ak2 g1 (z:=.int .i64 A.h.2.2.1) rfl (ak1 g1 (z:=.int .i64 A.sg) rfl ?_))));refine qSu z.f g2 g4 z.ar λv13 s14 k14 hv13=>?_;have el:(ix ((fldN A.F A.W A.ar A.h.2.2.1 A.sg A.F.S.length).map λi:Nat=>(i:Int))).length=(fldN A.F A.W A.ar A.h.2.2.1 A.sg A.F.S.length).length:=by rw[qA3,lM]
 unfold Aq.every at hK;have hfl:(fldN A.F A.W A.ar A.h.2.2.1 A.sg A.F.S.length).length<=100000:=by have:=List.length_filter_le (flB A.F A.W A.ar A.h.2.2.1 A.sg) (List.range A.F.S.length);rw[List.length_range]at this;have:=z.f.S;unfold fldN;omega
 generalize fldN A.F A.W A.ar A.h.2.2.1 A.sg A.F.S.length=L at hv13 el hK hfl;refine qAA (by rw[hv13.len,el]) ?_;refine⟨λys t m=>∃(k:Nat) (v:AV),ys=[v,.int .i64 (k:Int)]/\k<=L.length/\m=L.length-k/\AccR 55 17 s14 t v ((L.take k).map λ(i:Nat)=>ldC ((i:Int),A.h.2.2.1,A.x))/\Sub s14 t,⟨_,0,_,rfl,by omega,rfl,⟨(λr h=>by cases h),.inl ⟨rfl,rfl⟩⟩,.refl _⟩,?_⟩;rintro f t m ⟨k,v,hy,hk,rfl,acc,kt⟩;simp only[cI,and_true]at hy;rw[hy.1,hy.2];clear hy;unfold qCu;rw[qAP,qAB];refine qAJ (λhlt=>?_) (λhge=>?_)
 rotate_left
 ·have hge:k=L.length:=by have:=oF hge;omega
  subst hge;rw[List.take_length]at acc;refine hK v t (k14.trans kt) ?_;rw[List.map_map];exact acc.sl
 have hlt:k<L.length:=by have:=oT hlt;omega
 have hx:L[k]?=some L[k]:=gE hlt;obtain⟨pp,e1,e2⟩:=(hv13.sub kt).get (i:=k) (by rw[el];exact hlt);generalize L[k]=i at hx;have e2:rd1 t pp=some (.int .i64 (i:Int)):=by rw[e2];unfold ix;rw[List.getElem?_map,List.getElem?_map,hx];rfl
 have g1t:=(k14.trans kt) _ _ g1;refine qAA e1 (qAA e2 (ak2 g1t (z:=.int .i64 A.h.2.2.1) rfl (qAA (a:=.ptr a 0) rfl (qAA (a:=.ptr a 3) rfl (qAA (qZU g1t) ?_)))));refine qAA (a:=ldC ((i:Int),A.h.2.2.1,A.x)) (qUF ..) (qAA (a:=ldC ((i:Int),A.h.2.2.1,A.x)) (FC.fill_one rfl) ⟨rfl,qAM λb29 s30 hb29 h30 u30=>?_⟩);have k30:=u30.sub hb29;refine(acc.sub k30).app (m:=[ldC ((i:Int),A.h.2.2.1,A.x)]) (FC.one_row h30 rfl) (by simp) (by simp;omega) (kt.trans k30) λv' s' a' k'=>?_;rw[qAN,qAB,qAb (by omega) (by omega)];exact⟨_,by omega,k+1,v',rfl,by omega,rfl,by rw[List.take_add_one,hx,List.map_append];exact a',k'⟩
theorem qS6(z:AOk A)(hA:Ak s a A)(hK:qNB s (some A.every) K):wC TP XX 47 [.ptr a 0] K s:=
 qFs (qRi z hA λv s' k hs=>hK.1 _ rfl v s' k hs)
theorem qPm(z:AOk A)(hA:Ak s a A)(hK:qNB s A.rBro K):wC TP XX 45 [.ptr a 0] K s:=by
 have hA0:=hA;obtain⟨tg,b,hv,av,g1,g2,g3,g4⟩:=hA;refine qE9 (ak2 g1 (z:=.int .u64 A.x.dst) rfl (qIb XX_0 ?_));unfold Aq.rBro at hK;rw[qAe,qAB];cases c:qNG A.x.dst with
 | false=>
   rw[c]at hK;rw[Bool.not_false,qAF];exact hK.2 rfl s (.refl _)
 | true=>
   rw[c]at hK;rw[Bool.not_true,qAD];exact qRi z hA0 λv s' k hs=>hK.1 _ rfl v s' k hs
theorem qQ9(z:AOk A)(hA:Ak s a A)(hK:qNB s A.rBri K):wC TP XX 46 [.ptr a 0] K s:=by
 have hA0:=hA;obtain⟨tg,b,hv,av,g1,g2,g3,g4⟩:=hA;have g20:=g2;obtain⟨tg2,v2,v3,v4,v5,v6,v7,w1,w2,w3,w4,q1,q2,q3⟩:=g2;refine qFX (ak2 g1 (z:=.int .u64 A.x.dst) rfl (ak2 g1 (z:=.int .u64 A.h.1) rfl ?_));unfold Aq.rBri at hK;simp only[qAX,qAV,Bool.false_bne,qAB];cases c:(A.x.dst == A.h.1)with
 | true=>
   rw[c]at hK;rw[qAF];exact hK.1 [] rfl _ s (.refl _) ⟨(λr h=>by cases h),.inl ⟨rfl,rfl⟩⟩
 |false=>
 rw[c]at hK;rw[if_neg (show ¬false=true by simp)]at hK;rw[qAD];have nl:qAQ v6=some A.F.H.length:=by rw[q2.H.len,lM]
 refine ak1 g1 (z:=.ptr b 0) rfl (qDW q1 (x:=v6) rfl (qAA nl ?_));have hHl:=z.f.H;refine⟨λys t m=>∃k:Nat,ys=[.int .i64 (k:Int)]/\k<=A.F.H.length/\m=A.F.H.length-k/\Sub s t/\fst A.briP k=none,⟨_,0,rfl,by omega,rfl,.refl _,rfl⟩,?_⟩;rintro f t m ⟨k,hy,hk,rfl,kt,hno⟩;simp only[cI,and_true]at hy;rw[hy];clear hy;unfold qDC;rw[qAP,qAB];refine qAJ (λhlt=>?_) (λhge=>?_)
 rotate_left
 ·have hge:k=A.F.H.length:=by have:=oF hge;omega
  subst hge;exact hK.2 (by rw[hno];rfl) t kt
 have hlt:k<A.F.H.length:=by have:=oT hlt;omega
 have hy:A.F.H[k]?=some A.F.H[k]:=gE hlt;generalize A.F.H[k]=y at hy;have ep:A.briP k=((y.2.2.1 == A.h.2.2.1)&&((y.1 == A.x.dst)&&knw A.F A.W A.ar A.hd (k:Int) false)):=by unfold Aq.briP;rw[hy]
 refine qN8 (q2.H.sub kt) hy λb21 s23 k23 hb21 h23=>?_;have kk:=kt.trans k23;have g23:=kk _ _ g1;have r2:∀{j:Nat}{z:AV}{R:AV->Prop},(hgC y)[j]?=some z->R z->oK (qAC j (.ptr b21 0)) λv=>oK (rd1 s23 v) R:=fun {j z R} e h=>qAA (a:=.ptr b21 j) (by rw[qAI,zAY]) (qAA (by rw[qAK h23];exact e) h);have no2:∀{t1 t2:AV}{t':Hq},qAR t1 (.bool true) t2=some (.bool true)->A.briP k=false->Sub s t'->qBD XX (.ptr a 0) (.int .i64 (k:Int)) (.int .i64 (k:Int)) t1 t2 (λys t m=>∃k:Nat,ys=[.int .i64 (k:Int)]/\k<=A.F.H.length/\m=A.F.H.length-k/\Sub s t/\fst A.briP k=none) (A.F.H.length-k) K t':=fun {t1 t2 t'} e q k2=>by unfold qBD;refine qAA e ?_;rw[qAF,qAN,qAB,qAb (by omega) (by omega)];exact⟨_,by omega,k+1,rfl,by omega,rfl,k2,qOt hno q⟩
 have no1:∀{t1 t2:AV},qAR t1 (.bool true) t2=some (.bool true)->A.briP k=false->qBE XX (.ptr a 0) (.int .i64 (k:Int)) (.int .i64 (k:Int)) t1 t2 (λys t m=>∃k:Nat,ys=[.int .i64 (k:Int)]/\k<=A.F.H.length/\m=A.F.H.length-k/\Sub s t/\fst A.briP k=none) (A.F.H.length-k) K s23:=fun {t1 t2} e q=>by unfold qBE;refine qAA e ?_;rw[qAF];exact no2 rfl q kk
 refine r2 (z:=.int .i64 y.2.2.1) rfl (ak2 g23 (z:=.int .i64 A.h.2.2.1) rfl ?_);simp only[qAX,qAV,Bool.true_bne,qAB];cases d1:(y.2.2.1 == A.h.2.2.1)with
 | false=>
   rw[Bool.not_false,qAF];exact no1 rfl (by rw[ep,d1];rfl)
 |true=>
 rw[Bool.not_true,qAD];refine r2 (z:=.int .u64 y.1) rfl (ak2 g23 (z:=.int .u64 A.x.dst) rfl ?_);simp only[qAX,qAV,Bool.true_bne,qAB];cases d2:(y.1 == A.x.dst)with
 |false=>exact no1 rfl (by rw[ep,d1,d2];rfl)
 |true=>
 unfold qBE;refine qAA (a:=.bool false) rfl ?_;rw[qAD];refine qUz z (hA0.sub kk) λs64 k64=>?_;have k2:=kk.trans k64;rw[qAe,qAB];cases d3:knw A.F A.W A.ar A.hd (k:Int) false with
 |false=>exact no2 rfl (by rw[ep,d1,d2,d3];rfl) k2
 |true=>
 unfold qBD;refine qAA (a:=.bool false) rfl ?_;rw[qAD];refine ak1 (k2 _ _ g1) (z:=.ptr b 0) rfl (qFm z.f.sm (g20.sub k2) λs38 k38=>?_);have k3:=k2.trans k38;rw[qVq hno (by rw[ep,d1,d2,d3];rfl) hlt]at hK;have g38:=k3 _ _ g1;refine qAA (a:=.int .i64 (attV A.F A.W k)) rfl (qAA (a:=.bool _) rfl (ak1 g38 (z:=.int .i64 A.sg) rfl ?_));simp only[qAX,qAV,Bool.false_bne,qAB];refine qAJ (λq=>?_) (λq=>?_)
 ·have q:=eq_of_beq q
  refine hK.1 [] ?_ _ s38 k3 ⟨(λr h=>by cases h),.inl ⟨rfl,rfl⟩⟩;show some (if attV A.F A.W k=A.sg then([]:List Lnd)else _)=some [];rw[if_pos q]
 ·have q:¬attV A.F A.W k=A.sg:=by simpa using q
  refine ak2 g38 (z:=.int .i64 A.h.2.2.1) rfl (qAA (a:=.ptr a 0) rfl (qAA (a:=.ptr a 3) rfl (qAA (qZU g38) ?_)));refine qZS λv s' k' hs=>hK.1 [(attV A.F A.W k,A.h.2.2.1,A.x)] ?_ v s' (k3.trans k') hs;show some (if attV A.F A.W k=A.sg then([]:List Lnd)else _)=_;rw[if_neg q]
end Go.AM.OR
set_option maxRecDepth 100000
namespace Go.AM.OR
open Go Go.Proofs Go.AM.TN
variable {K:AV→Hq→Prop} {s s' t H:Hq} {v hv av:AV} {F:FG} {W:WG} {a b i j k b2:Nat} {h:Int} {tg:Bool} {x:FC.Fr} {hd:List Hd} {y:R4} {A:Aq} {R:AV→Prop} {z:AV} {tn ip:Int}
def rouL(A:Aq):Option Nat->List Lnd
 |some i=>[(attV A.F A.W i,bdH A.F i,qSm A.x (macA A.F i))]
 |none=>[]
theorem zAAn:SlR 17 s .nilslc (([]:List Lnd).map ldC):=⟨(λr h=>by cases h),.inl ⟨rfl,rfl⟩⟩
theorem qSO{o:Option Nat}(z:AOk A)(hA:Ak s a A)(ho:∀i,o=some i->i<A.F.H.length)(hK:∀v s',Sub s s'->SlR 17 s' v ((rouL A o).map ldC)->K (.tup [v,.bool true]) s'):qBh XX (.ptr a 0) (.int .i64 ((o.getD 0:Nat):Int)) (.bool o.isSome) K s:=by
 unfold qBh;rw[qAe,qAB];cases o with
 | none=>
   rw[show(none:Option Nat).isSome=false from rfl,Bool.not_false,qAF];exact hK _ s (.refl _) zAAn
 |some i=>
 rw[show(some i).isSome=true from rfl,Bool.not_true,qAD];have hi:=ho i rfl;have hA0:=hA;obtain⟨tg,b,hv,av,g1,g2,g3,g4⟩:=hA;have g20:=g2;obtain⟨tg2,v2,v3,v4,v5,v6,v7,w1,w2,w3,w4,q1,q2,q3⟩:=g2;have hy:A.F.H[i]?=some A.F.H[i]:=gE hi;generalize A.F.H[i]=y at hy;refine ak1 g1 (z:=.ptr b 0) rfl (qDW q1 (x:=v6) rfl (qN8 q2.H hy λb48 s50 k50 hb48 h48=>?_));have g50:=k50 _ _ g1;refine qAA (a:=.ptr a 0) rfl (qAA (a:=.ptr a 3) rfl (qAA (qZU g50) (qAM λb54 s55 hb54 h55 u55=>qAT h55 rfl rfl rfl λs56 h56 u56=>?_)));have k56:Sub s50 s56:=qAW (u55.sub hb54) u56 hb54;have h56:s56 b54=some (false,.cells 48 (FC.frC A.x)):=h56;have h48':=k56 _ _ h48;have ne:b54≠b48:=λe=>by rw[e,h48]at hb54;cases hb54
 refine qAA (a:=.ptr b48 0) rfl (qAA (a:=.int .u64 y.1) (by rw[qAK h48'];rfl) (qAA (a:=.ptr b54 0) rfl ⟨?_,?_⟩))
 ·exact qQT h56 ne
 refine qBF h56 (by show 0<15;omega) rfl λs60 h60 u60=>qAA (a:=.ptr b54 1) rfl (qBF h60 (by show 1<15;omega) rfl λs62 h62 u62=>qAA (a:=.ptr b54 8) rfl (qAA (a:=.ptr b54 10) rfl (qBF h62 (by show 10<15;omega) rfl λs65 h65 u65=>?_)));have u:Upto b54 s56 s65:=λj hj=>by rw[u65 j hj,u62 j hj,u60 j hj]
 have h65:s65 b54=some (false,.cells 48 (FC.frC (qSm A.x y.1))):=h65;have k65:Sub s50 s65:=qAW k56 u hb54;have kk:=k50.trans k65;refine ak1 (kk _ _ g1) (z:=.ptr b 0) rfl (qFm z.f.sm (g20.sub kk) λs70 k70=>?_);refine qAA (a:=.int .i64 (attV A.F A.W i)) rfl (qAA (a:=.bool _) rfl (qAA (a:=.ptr b48 2) rfl (qAA (a:=.int .i64 y.2.2.1) (by rw[qAK ((k65.trans k70) _ _ h48)];rfl) (qAA (qAU (k70 _ _ h65) rfl) ?_))));refine qZS λv s' k' hs=>hK v s' (kk.trans (k70.trans k')) ?_;have e1:bdH A.F i=y.2.2.1:=by unfold bdH;rw[hy]
 have e2:macA A.F i=y.1:=by unfold macA;rw[hy]
 show SlR 17 s' v (([(attV A.F A.W i,bdH A.F i,qSm A.x (macA A.F i))]:List Lnd).map ldC);rw[e1,e2];exact hs
theorem qWg{o0:Option Nat}(z:AOk A)(hA:Ak s a A)(hb2:s b2=some (tg,.cells 69 (bgC A.d)))(ho0:o0=A.dstL ip 0)(hK:∀v s',Sub s s'->SlR 17 s' v ((rouL A (A.dstL ip A.F.G.length)).map ldC)->K (.tup [v,.bool true]) s'):
  oK (qAH (.ptr a 0)) λv_29=>oK (qAC 0 v_29) λv_30=>oK (rd1 s v_30) λv_31=>oK (qAH v_31) λv_32=>oK (qAC 0 v_32) λv_33=>oK (qAC 7 v_33) λv_34=>oK (rd1 s v_34) λv_35=>oK (qAQ v_35) λv_36=>
  ∃I4:List AV->Hq->Nat->Prop,(∃m,I4 [.int .i64 ((o0.getD 0:Nat):Int),.bool o0.isSome,(.int .i64 0)] s m)/\∀(f:Env) (s:Hq) (m4:Nat),I4 [f 6,f 7,f 72] s m4->
   qCL XX (.ptr a 0) (.ptr b2 0) (.int .u32 ip) (f 6) (f 7) v_35 (.int .i64 v_36) (f 72) I4 m4 K s:=by
 subst ho0;have hA0:=hA;obtain⟨tg1,b,hv,av,g1,g2,g3,g4⟩:=hA;obtain⟨tg2,v2,v3,v4,v5,v6,v7,w1,w2,w3,w4,q1,q2,q3⟩:=g2;have nl:qAQ v7=some A.F.G.length:=by rw[q2.G.len,lM]
 refine ak1 g1 (z:=.ptr b 0) rfl (qDW q1 (x:=v7) rfl (qAA nl ?_));have hGl:=z.f.G;have hlt_of:∀{k i:Nat},A.dstL ip k=some i->i<A.F.H.length:=fun {k i} e=>by
  obtain⟨tn,h1,_⟩:=qJ8 e;unfold Aq.dstP at h1;split at h1
  ·rename_i y hy;exact(gS hy).1
  ·cases h1
 have stay:∀{k i:Nat},A.dstL ip k=some i->∀m,k<=m->A.dstL ip m=some i:=fun {k i} e m hm=>by
  induction m with
  | zero=>
    have:k=0:=by omega
    subst this;exact e
  | succ m ih=>
    by_cases q:k=m+1
    ·subst q;exact e
    ·unfold Aq.dstL
     rw[ih (by omega)];rfl
 refine⟨λys t m=>∃k:Nat,ys=[.int .i64 (((A.dstL ip k).getD 0:Nat):Int),.bool (A.dstL ip k).isSome,.int .i64 (k:Int)]/\k<=A.F.G.length/\m=A.F.G.length-k/\Sub s t,⟨_,0,rfl,by omega,rfl,.refl _⟩,?_⟩;rintro f t m ⟨k,hy,hk,rfl,kt⟩;simp only[cI,and_true]at hy;rw[hy.1,hy.2.1,hy.2.2];clear hy;unfold qCL;rw[qAP,qAB];refine qAJ (λhlt=>?_) (λhge=>?_)
 rotate_left
 ·have hge:k=A.F.G.length:=by have:=oF hge;omega
  subst hge;exact qSO z (hA0.sub kt) (λi e=>hlt_of e) λv s' k' hs=>hK v s' (kt.trans k') hs
 have hlt:k<A.F.G.length:=by have:=oT hlt;omega
 have hg:A.F.G[k]?=some A.F.G[k]:=gE hlt;generalize A.F.G[k]=g at hg;obtain⟨pb,po,e1,e2,e3⟩:=(q2.G.sub kt).get (i:=k) (r:=ggC g) (by rw[List.getElem?_map,hg];rfl);refine qAA e1 (qAA e2 (qAM λb81 s82 hb81 h82 u82=>qAT h82 rfl rfl rfl λs83 h83 u83=>?_));have k83:Sub t s83:=qAW (u82.sub hb81) u83 hb81;have h83:s83 b81=some (false,.cells 118 (ggC g)):=h83;have kk:=kt.trans k83;cases hd:A.dstL ip k with
 | some i=>
   rw[show(some i).isSome=true from rfl,qAF];refine qSO (o:=some i) z (hA0.sub kk) (λj e=>by cases e;exact hlt_of hd) λv s' k' hs=>hK v s' (kk.trans k') ?_;rw[stay hd A.F.G.length (by omega)];exact hs
 | none=>
   rw[show(none:Option Nat).isSome=false from rfl,qAD];have hsucc:A.dstL ip (k+1)=if((g.2.1 == A.tn)&&qCe g.2.2.1 g.2.2.2 ip)=true then A.dest g.1 ip else none:=by show(A.dstL ip k).or _=_;rw[hd,hg];rfl
   have j6:∀{o:Option Nat}{t':Hq},A.dstL ip (k+1)=o->Sub s t'->qBg XX (.int .i64 ((o.getD 0:Nat):Int)) (.bool o.isSome) (.int .i64 (k:Int)) (λys t m=>∃k:Nat,ys=[.int .i64 (((A.dstL ip k).getD 0:Nat):Int),.bool (A.dstL ip k).isSome,.int .i64 (k:Int)]/\k<=A.F.G.length/\m=A.F.G.length-k/\Sub s t) (A.F.G.length-k) K t':=fun {o t'} e k'=>by subst e;unfold qBg;rw[qAN,qAB,qAb (by omega) (by omega)];exact⟨_,by omega,k+1,rfl,by omega,rfl,k'⟩
   have no5:∀{t1 t2:AV}{t':Hq},qAR t1 t2 (.bool false)=some (.bool false)->((g.2.1 == A.tn)&&qCe g.2.2.1 g.2.2.2 ip)=false->Sub s t'->qBQ XX (.ptr a 0) (.int .u32 ip) (.int .i64 ((none:Option Nat).getD 0:Nat)) (.bool false) (.ptr b81 0) (.int .i64 (k:Int)) t1 t2 (λys t m=>∃k:Nat,ys=[.int .i64 (((A.dstL ip k).getD 0:Nat):Int),.bool (A.dstL ip k).isSome,.int .i64 (k:Int)]/\k<=A.F.G.length/\m=A.F.G.length-k/\Sub s t) (A.F.G.length-k) K t':=fun {t1 t2 t'} e q k'=>by unfold qBQ;refine qAA e ?_;rw[qAD];exact j6 (o:=none) (by rw[hsucc,q];rfl) k'
   refine qAA (a:=.ptr b81 1) rfl (qAA (a:=.int .i64 g.2.1) (by rw[qAK h83];rfl) (qAA (a:=.ptr b2 0) rfl (qAA (a:=.int .i64 A.tn) (by rw[qAK (kk _ _ hb2)];rfl) ?_)));simp only[qAX,qAV,Bool.false_bne,qAB];cases c1:(g.2.1 == A.tn)with
   | false=>
     rw[qAD];exact no5 rfl (by rw[c1];rfl) kk
   | true=>
     rw[qAF];have rp:rdN s83 2 (.ptr b81 2)=some (pfC g.2.2.1 g.2.2.2):=(qJl h83 (by show 2+2<=4;omega)).trans rfl;refine qAA (a:=.ptr b81 2) rfl (qAA rp (qG4 XX_0 λs100 k100=>?_));have k2:=kk.trans k100;cases c2:qCe g.2.2.1 g.2.2.2 ip with
     |false=>exact no5 rfl (by rw[c1,c2];rfl) k2
     | true=>
       rw[c1,c2]at hsucc;rw[if_pos (show(true&&true)=true from rfl)]at hsucc;unfold qBQ;refine qAA (a:=.bool true) rfl ?_;rw[qAF];refine qAA (a:=.ptr b81 0) rfl (qAA (a:=.int .i64 g.1) (by rw[qAK (k100 _ _ h83)];rfl) (qVX z (hA0.sub k2) λs94 k94=>?_));exact qAA (a:=.int .i64 _) rfl (qAA (a:=.bool _) rfl (j6 (o:=A.dest g.1 ip) hsucc (k2.trans k94)))
theorem qSb(z:AOk A)(hA:Ak s a A)(hK:qNB s A.rRout K):wC TP XX 44 [.ptr a 0] K s:=by
 refine qFw (qJn z hA λs1 k1=>qAM λb2 s3 hb2 h3 u3=>qAT h3 rfl rfl rfl λs4 h4 u4=>?_);have k4:Sub s1 s4:=qAW (u3.sub hb2) u4 hb2;have k14:=k1.trans k4;have h4:s4 b2=some (false,.cells 69 (bgC A.d)):=h4;have hA4:=hA.sub k14;have hK4:=hK.to k14;unfold Aq.rRout at hK4;have hA4':=hA4;obtain⟨tg,b,hv,av,g1,g2,g3,g4⟩:=hA4';have no0:∀{t1 t2:AV},qAR t1 (.bool true) t2=some (.bool true)->(A.x.dst == GWM&&A.gw != 0)=false->qBM XX (.ptr a 0) (.ptr b2 0) t1 t2 K s4:=fun {t1 t2} e q=>by unfold qBM;refine qAA e ?_;rw[qAF];exact hK4.2 (by rw[q];rfl) s4 (.refl _)
 refine ak2 g1 (z:=.int .u64 A.x.dst) rfl ?_;simp only[qAX,qAV,Bool.true_bne,qAB];cases c1:(A.x.dst == GWM)with
 | false=>
   rw[Bool.not_false,qAF];exact no0 rfl (by rw[c1];rfl)
 |true=>
 rw[Bool.not_true,qAD];refine qAA (a:=.ptr b2 5) rfl (qAA (a:=.int .u32 A.gw) (by rw[qAK h4];rfl) ?_);simp only[qAX,qAV,Bool.false_bne,qAB];cases c2:(A.gw == 0)with
 |true=>exact no0 rfl (by rw[show(A.gw != 0)=false by unfold bne;rw[c2];rfl];simp)
 |false=>
 have n2:(A.gw != 0)=true:=by unfold bne;rw[c2];rfl
 rw[c1,n2,if_pos (show(true&&true)=true from rfl)]at hK4;unfold qBM;refine qAA (a:=.bool false) rfl ?_;rw[qAD];refine ak3 g1 (z:=.int .u32 A.x.hd) rfl (ak2 g1 (z:=.int .i64 A.x.kind) rfl ?_);simp only[qAX,qAV,Bool.true_bne,qAB];have no2:∀{t1 t2:AV}{t':Hq},qAR t1 (.bool true) t2=some (.bool true)->(A.x.kind != 2||(decide (A.x.a10<3)||A.isGw A.tn A.x.hd))=true->Sub s4 t'->qBP XX (.ptr a 0) (.ptr b2 0) (.int .u32 A.x.hd) t1 t2 K t':=fun {t1 t2 t'} e q k'=>by unfold qBP;refine qAA e ?_;rw[qAF];rw[if_pos q]at hK4;exact hK4.1 [] rfl _ t' k' zAAn
 have no1:∀{t1 t2:AV},qAR t1 (.bool true) t2=some (.bool true)->(A.x.kind != 2||(decide (A.x.a10<3)||A.isGw A.tn A.x.hd))=true->qBR XX (.ptr a 0) (.ptr b2 0) (.int .u32 A.x.hd) t1 t2 K s4:=fun {t1 t2} e q=>by unfold qBR;refine qAA e ?_;rw[qAF];exact no2 rfl q (.refl _)
 cases d1:(A.x.kind == 2)with
 | false=>
   rw[Bool.not_false,qAF];exact no1 rfl (by rw[show(A.x.kind != 2)=true by unfold bne;rw[d1];rfl];rfl)
 |true=>
 have m1:(A.x.kind != 2)=false:=by unfold bne;rw[d1];rfl
 rw[Bool.not_true,qAD];refine ak3 g1 (z:=.int .i64 A.x.a10) rfl ?_;rw[qAP,qAB];cases d2:decide (A.x.a10<3)with
 |true=>exact no1 rfl (by rw[d2];simp)
 |false=>
 unfold qBR;refine qAA (a:=.bool false) rfl ?_;rw[qAD];have rt:∀{R:AV->Prop}{t':Hq},Sub s4 t'->R (.int .i64 A.tn)->oK (qAC 0 (.ptr b2 0)) λv=>oK (rd1 t' v) R:=fun {R t'} k' h=>qAA (a:=.ptr b2 0) rfl (qAA (a:=.int .i64 A.tn) (by rw[qAK (k' _ _ h4)];rfl) h);refine rt (.refl _) (qZM z hA4 λs104 k104=>?_);cases d3:A.isGw A.tn A.x.hd with
 |true=>exact no2 rfl (by rw[d3];simp) k104
 |false=>
 rw[m1,d2,d3]at hK4;rw[if_neg (show ¬(false||(false||false))=true by simp)]at hK4;unfold qBP;refine qAA (a:=.bool false) rfl ?_;rw[qAD];refine rt k104 (qVX z (hA4.sub k104) λs26 k26=>?_);have k2:=k104.trans k26;refine qAA (a:=.int .i64 _) rfl (qAA (a:=.bool _) rfl ?_);refine qWg (o0:=A.dest A.tn A.x.hd) z (hA4.sub k2) (k2 _ _ h4) rfl λv s' k' hs=>hK4.1 (rouL A (A.dstL A.x.hd A.F.G.length)) ?_ v s' (k2.trans k') hs;unfold rouL;rfl
end Go.AM.OR
set_option maxRecDepth 100000
namespace Go.AM.OR
open Go Go.Proofs Go.AM.TN
variable {K:AV→Hq→Prop} {s s' t H:Hq} {v w hv:AV} {cs ws:List AV} {F:FG} {W:WG} {a b i j k b2:Nat} {h l sg:Int} {x:FC.Fr} {ar:List Int} {hd:List Hd} {y:R4} {A:Aq} {z:AV}
theorem qZj(p q r f0 f1 f2 f3 f4 f5 f6 f7 f8 f9 f10 f11 f12 f13 f14 g0 g1 g2 g3 e:AV)(hp:p.one=true)(hq:q.one=true)(hr:r.one=true)(he:e.one=true):qAl [.nilptr,.nilslc,.nilslc,(.int .u64 0),(.int .u64 0),(.int .i64 0),(.int .i64 0),(.int .u64 0),(.int .u32 0),(.int .u64 0),(.int .u32 0),(.int .u32 0),(.int .u32 0),(.int .i64 0),(.int .i64 0),(.int .i64 0),(.int .i64 0),(.int .u64 0),(.int .u64 0),(.int .u32 0),(.int .i64 0),(.int .i64 0),(.int .i64 0)] [(0,1,p),(1,1,q),(2,1,r),(3,15,.agg [f0,f1,f2,f3,f4,f5,f6,f7,f8,f9,f10,f11,f12,f13,f14]),(18,4,.agg [g0,g1,g2,g3]),(22,1,e)]=some [p,q,r,f0,f1,f2,f3,f4,f5,f6,f7,f8,f9,f10,f11,f12,f13,f14,g0,g1,g2,g3,e]:=by simp only[qAl,qDI hp,qDI hq,qDI hr,qDI he,qFW];rfl
def Aq.rl(A:Aq):Nat->Option (List Lnd)
 | 0=>A.rGate
 | 1=>A.rSup
 | 2=>A.rRout
 | 3=>A.rBro
 | 4=>A.rBri
 |_=>some A.every
theorem zABo{L:List Lnd}(hi:i<6)(hno:∀j,j<i->A.rl j=none)(h:A.rl i=some L):A.exp=L:=by
 unfold Aq.exp
 match i,hi with
 | 0,_=>
   have h:A.rGate=some L:=h;rw[h];rfl
 | 1,_=>
   have h0:A.rGate=none:=hno 0 (by omega);have h:A.rSup=some L:=h;rw[h0,h];rfl
 | 2,_=>
   have h0:A.rGate=none:=hno 0 (by omega);have h1:A.rSup=none:=hno 1 (by omega);have h:A.rRout=some L:=h;rw[h0,h1,h];rfl
 | 3,_=>
   have h0:A.rGate=none:=hno 0 (by omega);have h1:A.rSup=none:=hno 1 (by omega);have h2:A.rRout=none:=hno 2 (by omega);have h:A.rBro=some L:=h;rw[h0,h1,h2,h];rfl
 | 4,_=>
   have h0:A.rGate=none:=hno 0 (by omega);have h1:A.rSup=none:=hno 1 (by omega);have h2:A.rRout=none:=hno 2 (by omega);have h3:A.rBro=none:=hno 3 (by omega);have h:A.rBri=some L:=h;rw[h0,h1,h2,h3,h];rfl
 | 5,_=>
   have h0:A.rGate=none:=hno 0 (by omega);have h1:A.rSup=none:=hno 1 (by omega);have h2:A.rRout=none:=hno 2 (by omega);have h3:A.rBro=none:=hno 3 (by omega);have h4:A.rBri=none:=hno 4 (by omega);have h:some A.every=some L:=h;rw[h0,h1,h2,h3,h4];exact Option.some.inj h
def rules:List AV:=[.fn (.func 42) [] [],.fn (.func 43) [] [],.fn (.func 44) [] [],.fn (.func 45) [] [],.fn (.func 46) [] [],.fn (.func 47) [] []]
theorem qYf(z:AOk A)(hA:Ak s a A)(hi:i<6){Q:AV->Hq->Prop}(hQ:qNB s (A.rl i) Q):oK (qO9 6 1 none (.agg rules) (.int .i64 (i:Int))) λv=>funK TP XX v [.ptr a 0] Q s:=by
 match i,hi with
 | 0,_=>exact qAA (a:=.fn (.func 42) [] []) rfl (qDu (by kernel_rfl) (qS0 z hA hQ))
 | 1,_=>exact qAA (a:=.fn (.func 43) [] []) rfl (qDu (by kernel_rfl) (qNC z hA hQ))
 | 2,_=>exact qAA (a:=.fn (.func 44) [] []) rfl (qDu (by kernel_rfl) (qSb z hA hQ))
 | 3,_=>exact qAA (a:=.fn (.func 45) [] []) rfl (qDu (by kernel_rfl) (qPm z hA hQ))
 | 4,_=>exact qAA (a:=.fn (.func 46) [] []) rfl (qDu (by kernel_rfl) (qQ9 z hA hQ))
 | 5,_=>exact qAA (a:=.fn (.func 47) [] []) rfl (qDu (by kernel_rfl) (qS6 z hA hQ))
theorem qYR(hv:Valid F)(hy:F.H[i]?=some y):0<=y.2.2.1/\y.2.2.1<F.B.length:=((show HosOk F from hv 6 (by omega)).row i y hy).r.1
theorem qLm(z:Sz F)(hv:Valid F)(hF:FabR s cs F)(hW:WR s ws W)(hH:SlR 3 s w (hd.map hdC))(hn:hd.length<=100000)(hy:F.H[i]?=some y)
  (h1:accO F W (i:Int) x=none->∀s',Sub s s'->K .nilslc s')
  (h2:∀l sg ar,accO F W (i:Int) x=some l->att F W (i:Int)=some sg->Ar F W l ar->∀v s',Sub s s'->SlR 17 s' v ((Aq.mk F W ar hd y sg x).exp.map ldC)->K v s'):wC TP XX 10 [.agg cs,.agg ws,w,.int .i64 (i:Int),.agg (FC.frC x)] K s:=by
 obtain⟨v2,v3,v4,v5,v6,v7,rfl,hL⟩:=hF;obtain⟨w1,w2,w3,w4,rfl,hw⟩:=hW;refine qJM (boxN hL.all λb0 s1 hb0 g1 u1=>boxN hw.all λb2 s3 hb2 g3 u3=>boxN rfl λb4 s5 hb4 g5 u5=>?_);have k1:=u1.sub hb0;have k3:=u3.sub hb2;have k5:=u5.sub hb4;have k15:=k1.trans (k3.trans k5);have g15:=(k3.trans k5) _ _ g1;have g35:=k5 _ _ g3;have g5:s5 b4=some (false,.cells 48 (FC.frC x)):=g5;refine qAA (qAU g15 rfl) (qAA (qAU g35 rfl) ?_);refine qFE hv z ⟨v2,v3,v4,v5,v6,v7,rfl,hL.sub k15⟩ ⟨w1,w2,w3,w4,rfl,hw.sub k15⟩ (λ_ b s9 k9 hS=>?_) λq=>absurd hv q;have zf:=qHf hv;refine qAA (a:=.ptr b 0) rfl (qAA (a:=.bool true) rfl (qAA (a:=.bool false) rfl ?_));rw[qAD];refine qAA (qAU (k9 _ _ g5) rfl) (qMO zf hS λs15 k15'=>?_);have k9':=k9.trans k15';refine qAA (a:=.int .i64 ((accO F W (i:Int) x).getD 0)) rfl (qAA (a:=.bool (accO F W (i:Int) x).isSome) rfl ?_);rw[qAe,qAB];cases ha:accO F W (i:Int) x with
 | none=>
   rw[show(none:Option Int).isSome=false from rfl,Bool.not_false,qAF];exact h1 ha s15 (k15.trans k9')
 |some l=>
 rw[show(some l).isSome=true from rfl,Bool.not_true,qAD];obtain⟨sg,hsg⟩:∃sg,att F W (i:Int)=some sg:=by
  unfold accO at ha;split at ha
  ·rename_i l' he
   obtain⟨sg,q,_⟩:=qH7 he;exact⟨sg,q⟩
  ·cases ha
 refine qFm zf.sm (hS.sub k15') λs20 k20=>?_;rw[hsg];have kS:=k15'.trans k20;have k520:=k9.trans kS;have k20all:=k15.trans k520;refine qAA (a:=.int .i64 sg) rfl (qAA (a:=.bool true) rfl ?_);refine qVx (l:=l) zf (hS.sub kS).frz λv23 s24 ar k24 hsl har=>?_;intro _;have kc:Sub s20 (cutH [(s20,(add s20 s24))] (add s20 s24)):=FC.cut1 (.refl s20);have g5c:=kc _ _ (k520 _ _ g5);have g1c:=kc _ _ (k520 _ _ g15);have hLc:=hL.sub (k20all.trans kc);obtain⟨hb,ho,e1,e2,e3⟩:=hLc.H.get (i:=i) (r:=hgC y) (by rw[List.getElem?_map,hy];rfl);refine qAA (qAU g5c rfl) (qAA (a:=.ptr b0 6) rfl (qAA (a:=v6) (by rw[qAK g1c];rfl) (qAA e1 (qAA e2 ?_))));have ka:Sub s20 (add s20 s24):=qGy;have hsl':Sl (add s20 s24) v23 (ix ar):=hsl.addf k24;generalize add s20 s24=T at ka hsl' ⊢;have kT:=k20all.trans ka;have hST:=hS.sub (kS.trans ka);have hHT:=hH.sub kT;refine qAA (a:=akC b w v23 x y sg) (qZj _ _ _ _ _ _ _ _ _ _ _ _ _ _ _ _ _ _ _ _ _ _ _ rfl hHT.one hsl'.one rfl) ?_;have hone:qAa (akC b w v23 x y sg)=true:=by simp[akC,FC.frC,hgC,hHT.one,hsl'.one]
 refine boxN hone λa s32 ha32 h32 u32=>?_;have k32:=u32.sub ha32;refine qAA (a:=rules) rfl (qAM λb34 s35 hb34 h35 u35=>qAT h35 rfl rfl rfl λs36 h36 u36=>qAA (qAU h36 rfl) ?_);have k36:Sub s32 s36:=qAW (u35.sub hb34) u36 hb34;have k36':=k32.trans k36;have hAk:Ak s36 a ⟨F,W,ar,hd,y,sg,x⟩:=⟨false,b,w,v23,k36 _ _ h32,hST.sub k36',hHT.sub k36',hsl'.sub k36'⟩
 have hos:=qYR hv hy;have zA:AOk ⟨F,W,ar,hd,y,sg,x⟩:=⟨zf,qNk zf har,hn,hos,λy' hy'=>by obtain⟨j,hj⟩:=List.getElem?_of_mem hy';exact qYR hv hj⟩
 have fin:=h2 l sg ar ha hsg har;generalize(Aq.mk F W ar hd y sg x)=A at hAk zA fin;refine⟨λys t m=>∃k:Nat,ys=[.int .i64 (k:Int)]/\k<=6/\m=6-k/\Sub s36 t/\∀j,j<k->A.rl j=none,⟨_,0,rfl,by omega,rfl,.refl _,λj hj=>by omega⟩,?_⟩;rintro f t m ⟨k,hy,hk,rfl,kt,hno⟩;simp only[cI,and_true]at hy;rw[hy];clear hy;unfold qFP;rw[qAP,qAB];refine qAJ (λhlt=>?_) (λhge=>?_)
 rotate_left
 ·have hge:k=6:=by have:=oF hge;omega
  subst hge;have:some A.every=none:=hno 5 (by omega);cases this
 have hlt:k<6:=by have:=oT hlt;omega
 refine qYf zA (hAk.sub kt) hlt ⟨λL hL v s41 k41 hs=>?_,λhL s41 k41=>?_⟩
 ·refine qAA (a:=v) rfl (qAA (a:=.bool true) rfl ?_)
  rw[qAF];refine fin v s41 (kT.trans (k36'.trans (kt.trans k41))) ?_;rw[zABo hlt hno hL];exact hs
 ·refine qAA (a:=.nilslc) rfl (qAA (a:=.bool false) rfl ?_)
  rw[qAD,qAN,qAB,qAb (by omega) (by omega)];refine⟨_,by omega,k+1,rfl,by omega,rfl,kt.trans k41,λj hj=>?_⟩
  by_cases e:j=k
  ·subst e;exact hL
  ·exact hno j (by omega)
end Go.AM.OR
set_option maxRecDepth 100000
namespace Go.AM.OR
open Go Go.Proofs Go.AM.TN
variable {K:AV→Hq→Prop} {s s' sB t H:Hq} {v w y:AV} {cs fcs:List AV} {F:FG} {a b c i k n b0 b2 b5 b7:Nat} {h l bd:Int} {R:Hq→Prop} {v2 v3 v4 v5 v6 v7:AV}
abbrev r1(l:List AV):List (List AV):=l.map λx=>[x]
theorem qUj(l:List AV):(r1 l).flatten=l:=by
 induction l with
 |nil=>rfl
 |cons x l ih=>simpa using ih
theorem qWU{l:List AV}(h:SlR 1 s v (r1 l)):Sl s v l:=by
 obtain⟨_,h⟩:=h;rcases h with⟨e,q⟩|⟨b,o,cap,e,hc,h⟩
 ·exact .inl ⟨e,List.map_eq_nil_iff.1 q⟩
 ·have hlen:(r1 l).length=l.length:=by simp
  refine .inr ⟨b,o,cap,by rw[e,hlen],λc hcap=>by rw[<- hlen];exact hc c hcap,λhne=>?_⟩;obtain⟨t,el,cs,g1,g2,g3⟩:=h (λq=>hne (List.map_eq_nil_iff.1 q));rw[hlen,Nat.mul_one]at g2 g3;rw[qUj]at g3;refine⟨t,el,cs,g1,g2,λi hi=>?_⟩;rw[<- g3,List.getElem?_take,if_pos hi,List.getElem?_drop]
theorem zAAi{l:List AV}{x:AV}:r1 (l ++ [x])=r1 l ++ [[x]]:=by simp
theorem zABT{L:List Bool}{b:Bool}:r1 (bs (L ++ [b]))=r1 (bs L) ++ [[AV.bool b]]:=by simp
theorem zACT{L:List Int}{b:Int}:r1 (ix (L ++ [b]))=r1 (ix L) ++ [[AV.int .i64 b]]:=by unfold ix;simp
structure WS(s sB H t:Hq)(b0 b2 b5 b7:Nat)(fcs cs:List AV):Prop where
 z:FS 36 sB H t b5 b7 cs
 h0:H b0=some (false,.cells 31 fcs)
 h2:H b2=some (false,.cells 36 [.nilslc,.nilslc,.nilslc,.nilslc])
 hs:Sub s (hdel H b2)
theorem WS.ne0(w:WS s sB H t b0 b2 b5 b7 fcs cs):b5≠b0:=λe=>by have:=w.z.n3;rw[e,w.h0]at this;cases this
theorem WS.up{H' t':Hq}{cs':List AV}(w:WS s sB H t b0 b2 b5 b7 fcs cs)(z:FS 36 sB H' t' b5 b7 cs')(k:Sub H H'):WS s sB H' t' b0 b2 b5 b7 fcs cs':=
 ⟨z,k _ _ w.h0,k _ _ w.h2,w.hs.trans (qBb k)⟩
theorem WS.step{t2:Hq}(w:WS s sB H t b0 b2 b5 b7 fcs cs)(kp:qAc (λi=>i=b5) t t2)(tk2:Tk sB t2 b5):WS s sB H t2 b0 b2 b5 b7 fcs cs:=w.up (w.z.step kp tk2) (.refl _)
theorem WS.push{elem:TypeId}{k:Nat}{rows:List (List AV)}{row:List AV}{t2:Hq}{R:Hq->Prop}(w:WS s sB H t b0 b2 b5 b7 fcs cs)(acc:AccR elem 1 (ext H t b5 b7) t v rows)(kp:qAc (λi=>i=b5) t t2)(tk2:Tk sB t2 b5)(hy:SlR 1 t2 y [row])(hl:rows.length<=1000)(hk:k<cs.length)
  (hK:∀v' t4 H',WS s sB H' t4 b0 b2 b5 b7 fcs (cs.set k v')->AccR elem 1 (ext H' t4 b5 b7) t4 v' (rows ++ [row])->Sub H H'->(∀i e,t2 i=some e->i≠b5->i≠b7->(∀b o n c e,v=.slc b o n c e->i≠b)->H' i=some e)->R t4) :
  appK elem 1 v y (λv' t3=>oK (wr1 t3 (.ptr b7 k) v') R) t2:=
 TN.push w.z acc kp tk2 hy hl hk λv' t4 H' z4 a4 kH q=>hK v' t4 H' (w.up z4 kH) a4 kH q
theorem qJ1{elem:TypeId}{B t:Hq}:AccR elem 1 B t .nilslc (r1 []):=⟨(λr h=>by cases h),.inl ⟨rfl,rfl⟩⟩
theorem qYZ{k m:Nat}{n:Int}{L:List Bool}(w:WS s sB H t b0 b2 b5 b7 fcs cs)(hm:1<=m/\m<=1000)(hv:cs[k]?=some v)(acc:AccR 4 1 (ext H t b5 b7) t v (r1 (bs L)))(hl:L.length<=1000)(hR:∀v' t4 H' b,WS s sB H' t4 b0 b2 b5 b7 fcs (cs.set k v')->AccR 4 1 (ext H' t4 b5 b7) t4 v' (r1 (bs (L ++ [b])))->Sub H H'->R t4):
  oK (rd1 t (.ptr b7 k)) λv_16=>∃h_17:Hq,(∀b,h_17 b≠none->t b≠none)/\wC TP XX 48 [.ptr b5 0,.int .i64 (m:Int)] (λv_18 s_19=>
  (∀b,t b≠none->(cutH [((hdel t (qAm (.ptr b7 k))),t)] (minus t h_17)) b=none->s_19 b=none)->
  oK (negB true (eqV 0 true v_18 (.int .i64 n))) λv_20=>
  oK (qAl (repl 1 [(.bool false)]) [(0,1,v_20)]) λc_21=>qAa c_21=true/\newK 4 c_21 (λb_22 s_23=>
  (∀b,(add s_19 (rest t (cutH [((hdel t (qAm (.ptr b7 k))),t)] (minus t h_17)))) b≠none->(add s_19 (rest t (cutH [((hdel t (qAm (.ptr b7 k))),t)] (minus t h_17)))) b=none->s_23 b=none)->
  appK 4 1 v_16 (.slc b_22 0 1 (some 1) 1) (λv_24 s_25=>oK (wr1 s_25 (.ptr b7 k) v_24) R) (add (add s_19 (rest t (cutH [((hdel t (qAm (.ptr b7 k))),t)] (minus t h_17)))) s_23)) (frz (add s_19 (rest t (cutH [((hdel t (qAm (.ptr b7 k))),t)] (minus t h_17)))))) (cutH [((hdel t (qAm (.ptr b7 k))),t)] (minus t h_17)):=by
 refine qAA (a:=v) (by rw[qAK w.z.fb];exact hv) ⟨λ_=>none,λb hb=>absurd rfl hb,?_⟩;rw[show qAm (.ptr b7 k)=b7 from rfl,qOP];refine qBS (w.z.tk.hid w.z.f0 w.z.ne) hm.1 hm.2 λt1 r hr tk1 u1=>?_;intro hh;obtain⟨kp,tk2,z2⟩:=qGs w.z tk1 (u1.keep rfl) hh;generalize add t1 (rest t (hdel t b7))=t2 at kp tk2 z2 ⊢;simp only[qAX,qAV,Bool.true_bne,qAB];refine qAA (a:=[.bool (!((r:Int) == n))]) rfl ⟨rfl,newM (l:=[]) λd s2 hd h2 u2=>?_⟩;generalize add t2 s2=t3 at h2 u2 ⊢;have k3:=u2.sub hd;refine w.push acc (kp.trans k3.keep) (tk2.more k3) (row1 h2 rfl) (by simp;omega) (gS hv).1 λv' t4 H' w4 acc4 kH _=>hR v' t4 H' (!((r:Int) == n)) w4 ?_ kH;rw[zABT];exact acc4
theorem WS.fin{elem:TypeId}{rows:List (List AV)}(w:WS s sB H t b0 b2 b5 b7 fcs cs)(acc:AccR elem 1 (ext H t b5 b7) t v rows):∃H2,WS s sB H2 t b0 b2 b5 b7 fcs cs/\Sub H H2/\SlR 1 (hdel H2 b2) v rows:=by obtain⟨H2,z2,k2,sl⟩:=finish (b0:=b2) w.z acc (by rw[w.h2];simp);exact⟨H2,w.up z2 k2,k2,sl⟩
theorem qK0{x:Int}{L:List Int}(hv:Sl s v (ix L))(hl:L.length<=100000)(hK:K (.bool (decide (x∈L))) s):wC TP XX 16 [v,.int .i64 x] K s:=by
 refine qNH ?_;unfold qMF;refine⟨λys t m=>∃i:Nat,ys=[.int .i64 (i:Int)]/\i<=L.length/\m=L.length-i/\t=s/\x ∉ L.take i,⟨_,0,rfl,by omega,rfl,rfl,by simp⟩,?_⟩;rintro f t m ⟨i,hy,hi,rfl,rfl,hno⟩;simp only[cI,and_true]at hy;rw[hy];unfold qJE;refine qAA (by rw[hv.len,qA3]) ?_;rw[qAP,qAB];refine qAJ (λhlt=>?_) (λhge=>?_)
 rotate_left
 ·have hge:i=L.length:=by have:=oF hge;omega
  subst hge;rw[List.take_length]at hno;rw[decide_eq_false hno]at hK;exact hK
 have hlt:i<L.length:=by have:=oT hlt;omega
 have hx:L[i]?=some L[i]:=gE hlt;obtain⟨pp,g1,g2⟩:=hv.get (i:=i) (by rw[qA3];exact hlt);rw[qFd hlt]at g2;generalize L[i]=e at hx g2;refine qAA g1 (qAA g2 ?_);simp only[qAX,qAV,Bool.false_bne,qAB];refine qAJ (λq=>?_) (λq=>?_)
 ·have q:=eq_of_beq q
  subst q;rw[decide_eq_true (mG hx)]at hK;exact hK
 ·have q:¬e=x:=by simpa using q
  rw[qAN,qAB,qAb (by omega) (by omega)];refine⟨_,by omega,i+1,rfl,by omega,rfl,(by trivial),λhm=>?_⟩;rw[List.take_add_one,hx]at hm;rcases mP hm with hm|hm
  ·exact hno hm
  ·have:x=e:=by simpa using hm
   exact q this.symm
theorem qWq{m:Nat}(z:FOk F)(hF:FabR s cs F)(hm:m<=1000)(hK:∀(r:Int) s',Sub s s'->-1<=r/\r<F.S.length->K (.int .i64 r) s'):wC TP XX 55 [.agg cs,.int .i64 bd,.int .i64 (m:Int)] K s:=by
 obtain⟨v2,v3,v4,v5,v6,v7,rfl,hL⟩:=hF;refine qRL (boxN hL.all λb0 s1 hb0 g1 u1=>?_);have k1:=u1.sub hb0;have g1:s1 b0=some (false,.cells 31 (csG F v2 v3 v4 v5 v6 v7)):=g1;have hSl:=z.S;refine⟨λys t m=>∃(k:Nat) (v:AV) (L:List Int),ys=[v,.int .i64 (k:Int)]/\k<=F.S.length/\m=F.S.length-k/\Acc 3 s1 t v (ix L)/\Sub s1 t/\L.length<=k/\∀x∈L,0<=x/\x<F.S.length,⟨_,0,_,[],rfl,by omega,rfl,.inl ⟨rfl,rfl⟩,.refl _,by simp,λx hx=>by cases hx⟩,?_⟩;rintro f t m1 ⟨k,v,L,hy,hk,rfl,acc,kt,hlen,hrg⟩;simp only[cI,and_true]at hy;rw[hy.1,hy.2];clear hy;have gt:=kt _ _ g1;have hLt:=(hL.sub k1).sub kt;unfold qME;refine qAA (a:=.ptr b0 5) rfl (qAA (a:=v5) (by rw[qAK gt];rfl) (qAA hLt.S.len ?_));rw[qAP,qAB];refine qAJ (λhlt=>?_) (λhge=>?_)
 ·have hlt:k<F.S.length:=by have:=oT hlt;omega
  have hg:F.S[k]?=some F.S[k]:=gE hlt;generalize F.S[k]=g at hg;obtain⟨pb,po,l1,l2,a1,_,_,a4,_,a6⟩:=hLt.S.at hg;refine qAA (a:=.ptr b0 5) rfl (qAA (a:=v5) (by rw[qAK gt];rfl) (qAA a1 (qAA (a:=.ptr pb (po+1)) rfl (qAA a4 (qK0 a6 (z.S2 g (mG hg)) ?_)))));have j1:∀{v':AV}{t':Hq}{L':List Int},Acc 3 s1 t' v' (ix L')->Sub s1 t'->L'.length<=k+1->(∀x∈L',0<=x/\x<F.S.length)->qHC XX v' (.int .i64 (k:Int)) (λys t m=>∃(k:Nat) (v:AV) (L:List Int),ys=[v,.int .i64 (k:Int)]/\k<=F.S.length/\m=F.S.length-k/\Acc 3 s1 t v (ix L)/\Sub s1 t/\L.length<=k/\∀x∈L,0<=x/\x<F.S.length) (F.S.length-k) K t':=fun {v' t' L'} q1 q2 q3 q4=>by unfold qHC;rw[qAN,qAB,qAb (by omega) (by omega)];exact⟨_,by omega,k+1,v',L',rfl,by omega,rfl,q1,q2,q3,q4⟩
  refine qAJ (λ_=>?_) (λ_=>j1 acc kt (by omega) hrg);refine app1 rfl acc kt (by omega) λv' s' a' ks=>j1 a' ks (by rw[lAp];simp;omega) λx hx=>?_;rcases mP hx with hx|hx
  ·exact hrg x hx
  ·have:x=(k:Int):=by simpa using hx
   omega
 have hge:k=F.S.length:=by have:=oF hge;omega
 subst hge;refine qAA (by rw[acc.sl.len,qA3]) ?_;simp only[qAX,qAV,Bool.false_bne,qAB];cases L with
 | nil=>
   rw[show((([]:List Int).length:Int) == 0)=true from rfl,qAF];exact hK (-1) t (k1.trans kt) (by omega)
 | cons x L=>
   have e0:(((x::L).length:Int) == 0)=false:=by rw[beq_eq_false_iff_ne,List.length_cons];omega
   rw[e0,qAD];refine qAA (by rw[acc.sl.len,qA3]) ?_;have hne:(((x::L).length:Nat):Int)≠0:=by rw[List.length_cons];omega
   rw[qH8 hne,qAB,Int.tmod_eq_emod_of_nonneg (by omega)];have hlt:m % (x::L).length<(x::L).length:=Nat.mod_lt _ (by simp);rw[show(m:Int) % (((x::L).length:Nat):Int)=((m % (x::L).length:Nat):Int)from rfl];obtain⟨pp,g1',g2'⟩:=acc.sl.get (i:=m % (x::L).length) (by rw[qA3];exact hlt);rw[qFd hlt]at g2';refine qAA g1' (qAA g2' (hK _ t (k1.trans kt) ?_));have:=hrg _ (List.getElem_mem hlt);omega
end Go.AM.OR
set_option maxRecDepth 100000
namespace Go.AM.OR
open Go Go.Proofs Go.AM.TN
variable {K:AV→Hq→Prop} {s sB t H:Hq} {v w y fv:AV} {cs ws fcs:List AV} {F:FG} {W:WG} {a b c i j k n b0 b2 b5 b7:Nat} {h:Int} {v2 v3 v4 v5 v6 v7 w1 w2 w3 w4:AV} {nd lk:List Bool} {pt:List (List Bool)}
structure WOk(F:FG)(W:WG):Prop where
 nd:(W.nd.length:Int)=F.lf+F.sp
 lk:W.lk.length=F.L.length
 pt:(W.pt.length:Int)=F.lf/\∀r∈W.pt,r.length=F.S.length
 wh:W.wh.length=F.H.length/\∀x∈W.wh,-1<=x/\x<F.S.length
structure WIn(s sB:Hq)(F:FG)(b0:Nat)(v2 v3 v4 v5 v6 v7:AV):Prop where
 v:Valid F
 L:FL s F v2 v3 v4 v5 v6 v7
 fv:Fv sB v6
 b0:sB b0=none
theorem WS.sub(w:WS s sB H t b0 b2 b5 b7 fcs cs):Sub s t:=w.hs.trans (qKX.trans w.z.sub)
theorem WS.rd{x:AV}{Q:AV->Prop}(w:WS s sB H t b0 b2 b5 b7 fcs cs)(hx:fcs[k]?=some x)(hQ:Q x):oK (qAC k (.ptr b0 0)) λv=>oK (rd1 t v) Q:=
 qAA (a:=.ptr b0 k) (by rw[qAI,zAY]) (qAA (by rw[qAK (w.z.sub _ _ w.h0)];exact hx) hQ)
theorem cut3{q r:Nat}(hq:t q≠none)(hr:t r≠none):cutH [((hdel t q),t),((hdel t q),t),((hdel t r),t)] (minus t λ_=>none)=hdel (hdel t q) r:=by
 funext i
 show(if hdel t r i=none/\t i≠none then none else(if hdel t q i=none/\t i≠none then none else(if hdel t q i=none/\t i≠none then none else minus t (λ_=>none) i)))=_;unfold minus hdel
 by_cases e1:i=r
 ·subst e1;simp[hr]
 ·by_cases e2:i=q
  ·subst e2;simp[e1,hq]
  ·cases c:t i<;>simp[e1,e2,c]
theorem qUS{C t':Hq}(hC:∀i x,C i=some x->t i=some x)(kp:qAc (λi=>i=b) C t')(hh:∀i,t i≠none->C i=none->t' i=none):qAc (λi=>i=b) t (add t' (rest t C)):=λi e hi ne=>by
 cases q:C i with
 | some x=>
   have:=hC i x q;rw[hi]at this;cases this;exact qBt (kp _ _ q ne)
 | none=>
   rw[qCJ (hh i (by rw[hi];simp) q)];unfold rest;rw[if_pos q];exact hi
theorem zAAO{es:Nat}{x:AV}{o:Nat}(h:qAY es v x=some (.ptr b o)):∃o' n c e,v=.slc b o' n c e:=by
 unfold qAY at h;split at h
 ·rename_i b' o' len cap es' i hi
  cases q:(Nat.blt i len&&Nat.beq es es')with
  |false=>rw[q]at h;cases h
  | true=>
    rw[q]at h;cases h;exact⟨_,_,_,_,rfl⟩
 ·cases h
theorem zAAq{m:Nat}{L:List Int}{x:Int}{I4:List AV->Hq->Nat->Prop}{h12:Nat}(w:WS s sB H t b0 b2 b5 b7 fcs [w1,w2,w3,v])(acc:AccR 3 1 (ext H t b5 b7) t v (r1 (ix L)))(hl:L.length<=1000)(hh:h12<=1000)
  (hI:∀v' t4 H',WS s sB H' t4 b0 b2 b5 b7 fcs [w1,w2,w3,v']->AccR 3 1 (ext H' t4 b5 b7) t4 v' (r1 (ix (L ++ [x])))->Sub H H'->∃m',m'<m/\I4 [.int .i64 ((h12+1:Nat):Int)] t4 m'):qFS XX (.ptr b7 0) (.int .i64 (h12:Int)) (.int .i64 x) I4 m K t:=by
 unfold qFS;simp only[qAI,zAY,qAB];refine qAA (a:=v) (by rw[qAK w.z.fb];rfl) (qDy rfl rfl λd s2 hd h2 u2=>?_);have k2:=u2.sub hd;refine w.push acc k2.keep (w.z.tk.more k2) (row1 h2 rfl) (by simp[qA3];omega) (by show 3<4;omega) λv' t4 H' w4 acc4 kH _=>?_;rw[qAN,qAB,qAb (by omega) (by omega)];exact hI v' t4 H' w4 (by rw[zACT];exact acc4) kH
theorem zAA5(gi:WIn s sB F b0 v2 v3 v4 v5 v6 v7)(w:WS s sB H t b0 b2 b5 b7 (csG F v2 v3 v4 v5 v6 v7) [w1,w2,w3,.nilslc])(q1:Sl (hdel H b2) w1 (bs nd))(q2:Sl (hdel H b2) w2 (bs lk))(q3:PtR (hdel H b2) w3 pt)(n1:(nd.length:Int)=F.lf+F.sp)(n2:lk.length=F.L.length)(n3:(pt.length:Int)=F.lf/\∀r∈pt,r.length=F.S.length)(hb2:s b2=none)
  (hK:∀t' ws W,Sub s t'->WR t' ws W->WOk F W->K (.agg ws) t') :
  ∃I4:List AV->Hq->Nat->Prop,(∃m,I4 [(.int .i64 0)] t m)/\∀(f:Env) (s:Hq) (m4:Nat),I4 [f 12] s m4->qJe XX (.ptr b0 0) (.ptr b2 0) (.ptr b5 0) (.ptr b7 0) (f 12) I4 m4 K s:=by
 have hH:HosOk F:=gi.v 6 (by omega);have hHn:=hH.n;refine⟨λys t m=>∃(k:Nat) (H:Hq) (v:AV) (L:List Int),ys=[.int .i64 (k:Int)]/\k<=F.H.length/\m=F.H.length-k/\WS s sB H t b0 b2 b5 b7 (csG F v2 v3 v4 v5 v6 v7) [w1,w2,w3,v]/\(Sl (hdel H b2) w1 (bs nd)/\Sl (hdel H b2) w2 (bs lk)/\PtR (hdel H b2) w3 pt)/\AccR 3 1 (ext H t b5 b7) t v (r1 (ix L))/\L.length=k/\∀x∈L,-1<=x/\x<F.S.length,⟨_,0,H,.nilslc,[],rfl,by omega,rfl,w,⟨q1,q2,q3⟩,qJ1,rfl,λx hx=>by cases hx⟩,?_⟩;rintro f t m ⟨k,H,v,L,hy,hk,rfl,w,hq,acc,hl,hrg⟩;simp only[cI,and_true]at hy;rw[hy];clear hy;unfold qJe;have hLt:=gi.L.sub w.sub;have nl:qAQ v6=some F.H.length:=by rw[hLt.H.len,lM]
 refine w.rd (x:=v6) rfl (qAA nl ?_);rw[qAP,qAB];refine qAJ (λhlt=>?_) (λhge=>?_)
 ·have hlt:k<F.H.length:=by have:=oT hlt;omega
  have hx:F.H[k]?=some F.H[k]:=gE hlt;generalize F.H[k]=x at hx;have hrow:=(hH.row k x hx).r;obtain⟨pb,po,e1,e2,e3⟩:=gi.L.H.get (i:=k) (r:=hgC x) (by rw[List.getElem?_map,hx];rfl);have e2t:∀{t':Hq},Sub s t'->∀j,j<4->rd1 t' (.ptr pb (po+j))=(hgC x)[j]?:=fun {t'} k' j hj=>by obtain⟨pb',po',a1,_,a3⟩:=(gi.L.sub k').H.get (i:=k) (r:=hgC x) (by rw[List.getElem?_map,hx];rfl);rw[e1]at a1;cases a1;exact a3 j hj
  refine w.rd (x:=v6) rfl (qAA e1 (qAA (a:=.ptr pb (po+3)) rfl (qAA (a:=.int .i64 x.2.2.2) ((e2t w.sub 3 (by omega)).trans rfl) ?_)));refine qBS w.z.tk (n:=4) (by omega) (by omega) λt1 r hr tk1 u1=>?_;have kp1:qAc (λi=>i=b5) t t1:=u1.keep rfl;have w1':=w.step kp1 tk1;have acc1:=qG8 w.z acc kp1;simp only[qAX,qAV,Bool.false_bne,qAB];have next:∀{t2:Hq}{y:Int},qAc (λi=>i=b5) t1 t2->Tk sB t2 b5->-1<=y/\y<F.S.length->qFS XX (.ptr b7 0) (.int .i64 (k:Int)) (.int .i64 y) (λys t m=>∃(k:Nat) (H:Hq) (v:AV) (L:List Int),ys=[.int .i64 (k:Int)]/\k<=F.H.length/\m=F.H.length-k/\WS s sB H t b0 b2 b5 b7 (csG F v2 v3 v4 v5 v6 v7) [w1,w2,w3,v]/\(Sl (hdel H b2) w1 (bs nd)/\Sl (hdel H b2) w2 (bs lk)/\PtR (hdel H b2) w3 pt)/\AccR 3 1 (ext H t b5 b7) t v (r1 (ix L))/\L.length=k/\∀x∈L,-1<=x/\x<F.S.length) (F.H.length-k) K t2:=fun {t2 y} kp tk2 hy=>
   zAAq (w1'.step kp tk2) (qG8 w1'.z acc1 kp) (by omega) (by omega) λv' t4 H' w4 acc4 kH=>⟨_,(by omega:F.H.length-(k+1)<F.H.length-k),k+1,H',v',L ++ [y],rfl,by omega,rfl,w4,⟨hq.1.sub (qBb kH),hq.2.1.sub (qBb kH),hq.2.2.sub (qBb kH)⟩,acc4,by rw[lAp,hl];rfl,λx hx=>by
    rcases mP hx with hx|hx
    ·exact hrg x hx
    ·have:x=y:=by simpa using hx
     rw[this];exact hy⟩
  refine qAJ (λ_=>?_) (λ_=>next (.refl _ _) tk1 (by omega));refine qAA (qAU (w1'.z.sub _ _ w.h0) rfl) (w1'.rd (x:=v6) rfl (qAA e1 (qAA (a:=.ptr pb (po+2)) rfl (qAA (a:=.int .i64 x.2.2.1) ((e2t w1'.sub 2 (by omega)).trans rfl) ⟨λ_=>none,λb hb=>absurd rfl hb,?_⟩))));obtain⟨o',n',c',e',ev⟩:=zAAO e1;have hpB:sB pb=none:=gi.fv _ _ _ _ _ ev;have hps:s pb≠none:=by have:=e2;unfold rdN at this;simp only at this;intro q;rw[q]at this;cases this
  have hpt:t1 pb≠none:=by
   cases q:s pb with
   |none=>exact absurd q hps
   |some z=>rw[w1'.sub _ _ q];simp
  have h0t:t1 b0≠none:=by rw[w1'.z.sub _ _ w1'.h0];simp
  have n5p:b5≠pb:=λe=>by
   have h1:=w1'.z.n3;have h2:=w1'.hs;cases q:s pb with
   |none=>exact hps q
   | some z=>
     have:=qKX _ _ (h2 _ _ q);rw[<- e,h1]at this;cases this
  rw[show qAm (.ptr b0 0)=b0 from rfl,show qAm (.ptr b0 6)=b0 from rfl,show qAm (.ptr pb (po+2))=pb from rfl,cut3 h0t hpt];have tkC:Tk sB (hdel (hdel t1 b0) pb) b5:=(tk1.hid gi.b0 w1'.ne0).hid hpB n5p;refine qBS tkC (n:=6) (by omega) (by omega) λt2 r2 hr2 tk2 u2=>?_;intro hh;have kp2:=qUS (b:=b5) (t:=t1) (λi x hx=>qKX _ _ (qKX _ _ hx)) (u2.keep rfl) hh;have tk2':Tk sB (add t2 (rest t1 (hdel (hdel t1 b0) pb))) b5:=tk2.more qGy;generalize add t2 (rest t1 (hdel (hdel t1 b0) pb))=t3 at kp2 tk2' ⊢;have w3':=w1'.step kp2 tk2';refine qWq (qHf gi.v) ⟨v2,v3,v4,v5,v6,v7,rfl,gi.L.sub w3'.sub⟩ (by omega) λy t4 k4 hy=>?_;exact next (kp2.trans k4.keep) (tk2'.more k4) hy
 ·have hge:k=F.H.length:=by have:=oF hge;omega
  subst hge;obtain⟨H2,w2',kH,sl⟩:=w.fin acc;refine qAA (qAU w.z.fb rfl) ?_;have h2t:=w2'.z.sub _ _ w2'.h2;have o1:=hq.1.one;have o2:=hq.2.1.one;have o3:=qVT hq.2.2;have o4:=sl.one;refine qAT h2t rfl rfl (by simp[o1,o2,o3,o4]) λt5 h5 u5=>qAA (qAU h5 rfl) ?_;have kk:Sub (hdel H2 b2) t5:=λi e hi=>by
   have ne:i≠b2:=λq=>by rw[q]at hi;unfold hdel at hi;rw[if_pos rfl]at hi;cases hi
   rw[u5 i ne];exact w2'.z.sub _ _ (qKX _ _ hi)
  have kk':=(qBb (b:=b2) kH).trans kk;exact hK t5 _ ⟨nd,lk,pt,L⟩ (w2'.hs.trans kk) ⟨w1,w2,w3,v,rfl,hq.1.sub kk',hq.2.1.sub kk',hq.2.2.sub kk',(qWU sl).sub kk⟩ ⟨n1,n2,n3,hl,hrg⟩
end Go.AM.OR
set_option maxRecDepth 100000
namespace Go.AM.OR
open Go Go.Proofs Go.AM.TN
variable {K:AV→Hq→Prop} {s sB t H:Hq} {v w lv:AV} {cs ws:List AV} {F:FG} {W:WG} {a b c i j k n b0 b2 b5 b7:Nat} {h l:Int} {v2 v3 v4 v5 v6 v7 w1 w2 w4:AV} {nd lk:List Bool}
theorem PtRv.app{vs:List AV}{P:List (List Bool)}{q:AV}{r:List Bool}{a:Hq}(hl:vs.length=P.length)(h:∀(i:Nat) q r,vs[i]?=some q->P[i]?=some r->Sl a q (bs r))(hq:Sl a q (bs r)):(vs ++ [q]).length=(P ++ [r]).length/\∀(i:Nat) q' r',(vs ++ [q])[i]?=some q'->(P ++ [r])[i]?=some r'->Sl a q' (bs r'):=by
 refine⟨by simp[hl],λi q' r' h1 h2=>?_⟩
 by_cases e:i<vs.length
 ·rw[List.getElem?_append_left e]at h1
  rw[List.getElem?_append_left (by omega)]at h2;exact h i q' r' h1 h2
 ·rw[List.getElem?_append_right (by omega)]at h1
  rw[List.getElem?_append_right (by omega)]at h2;rw[<- hl]at h2;cases q0:i-vs.length with
  | zero=>
    rw[q0]at h1 h2;cases h1;cases h2;exact hq
  |succ n=>rw[q0]at h1;simp at h1
theorem zABG(gi:WIn s sB F b0 v2 v3 v4 v5 v6 v7)(w:WS s sB H t b0 b2 b5 b7 (csG F v2 v3 v4 v5 v6 v7) [w1,w2,.nilslc,.nilslc])(q1:Sl (hdel H b2) w1 (bs nd))(q2:Sl (hdel H b2) w2 (bs lk))(n1:(nd.length:Int)=F.lf+F.sp)(n2:lk.length=F.L.length)(hb2:s b2=none)
  (hK:∀t' ws W,Sub s t'->WR t' ws W->WOk F W->K (.agg ws) t') :
  ∃I2:List AV->Hq->Nat->Prop,(∃m,I2 [(.int .i64 0)] t m)/\∀(f:Env) (s:Hq) (m2:Nat),I2 [f 9] s m2->qJZ XX (.ptr b0 0) (.ptr b2 0) (.ptr b5 0) (.ptr b7 0) (f 9) I2 m2 K s:=by
 have hf:FabOk F:=gi.v 0 (by omega);have hlf:=hf.lf;have hSg:SegOk F:=gi.v 5 (by omega);have hSn:=hSg.n;obtain⟨N,hN⟩:=qI8 (l:=F.lf) (by omega);refine⟨λys t m=>∃(k:Nat) (H:Hq) (v:AV) (vs:List AV) (P:List (List Bool)),ys=[.int .i64 (k:Int)]/\k<=N/\m=N-k/\WS s sB H t b0 b2 b5 b7 (csG F v2 v3 v4 v5 v6 v7) [w1,w2,v,.nilslc]/\(Sl (hdel H b2) w1 (bs nd)/\Sl (hdel H b2) w2 (bs lk))/\AccR 32 1 (ext H t b5 b7) t v (r1 vs)/\P.length=k/\(vs.length=P.length/\∀(i:Nat) q r,vs[i]?=some q->P[i]?=some r->Sl (hdel H b2) q (bs r))/\∀r∈P,r.length=F.S.length,⟨_,0,H,.nilslc,[],[],rfl,by omega,rfl,w,⟨q1,q2⟩,qJ1,rfl,⟨rfl,λi q r h=>by simp at h⟩,λr h=>by cases h⟩,?_⟩;rintro f t0 m ⟨k,H,v,vs,P,hy,hk,rfl,w,hq,acc,hl,hvs,hP⟩;simp only[cI,and_true]at hy;rw[hy];clear hy;unfold qJZ;refine w.rd (x:=.int .i64 F.lf) rfl ?_;rw[hN,qAP,qAB];refine qAJ (λhlt=>?_) (λhge=>?_)
 rotate_left
 ·have hge:k=N:=by have:=oF hge;omega
  subst hge;obtain⟨H2,w2',kH,sl⟩:=w.fin acc;have kd:=qBb (b:=b2) kH;exact zAA5 gi w2' (hq.1.sub kd) (hq.2.sub kd) ⟨vs,qWU sl,hvs.1,λi q r a c=>(hvs.2 i q r a c).sub kd⟩ n1 n2 ⟨by omega,hP⟩ hb2 hK
 have hlt:k<N:=by have:=oT hlt;omega
 refine⟨λys t m=>∃(j:Nat) (v:AV) (L:List Bool),ys=[v,.int .i64 (j:Int)]/\j<=F.S.length/\m=F.S.length-j/\Tk sB t b5/\qAc (λi=>i=b5) t0 t/\AccR 4 1 t0 t v (r1 (bs L))/\L.length=j,⟨_,0,_,[],rfl,by omega,rfl,w.z.tk,.refl _ _,qJ1,rfl⟩,?_⟩;rintro f1 t m1 ⟨j,vr,L,hy,hj,rfl,tk,kp,accr,hL⟩;simp only[cI,and_true]at hy;rw[hy.1,hy.2];clear hy;have wt:=w.step kp tk;unfold qMa;have hLt:=gi.L.sub wt.sub;refine wt.rd (x:=v5) rfl (qAA hLt.S.len ?_);rw[qAP,qAB];refine qAJ (λhlt=>?_) (λhge=>?_)
 ·have hlt:j<F.S.length:=by have:=oT hlt;omega
  refine qBS tk (n:=8) (by omega) (by omega) λt1 r hr tk1 u1=>?_;simp only[qAX,qAV,Bool.true_bne,qAB];have kp1:qAc (λi=>i=b5) t0 t1:=kp.trans (u1.keep rfl);refine qDy rfl rfl λd s2 hd h2 u2=>?_;have k2:=u2.sub hd;have acc1:AccR 4 1 t0 t1 vr (r1 (bs L)):=⟨accr.1,accr.2.imp id λ⟨c,q0,q1,q2⟩=>⟨c,q0,q1,by rw[u1 c λe=>w.z.tk.at (by rw[<- e];exact q0)];exact q2⟩⟩
  refine qVc w.z.tk (tk1.more k2) (kp1.trans k2.keep) (acc1.sub k2) (row1 h2 rfl) (by simp;omega) λv' t' tk' kp' acc'=>?_;rw[qAN,qAB,qAb (by omega) (by omega)];exact⟨_,by omega,j+1,v',L ++ [!((r:Int) == 7)],rfl,by omega,rfl,tk',kp',by rw[zABT];exact acc',by rw[lAp,hL];rfl⟩
 have hge:j=F.S.length:=by have:=oF hge;omega
 subst hge;have acct:=qG8 w.z acc kp;simp only[qAI,zAY,qAB];refine qAA (a:=v) (by rw[qAK wt.z.fb];rfl) (qDy rfl accr.sl.one λd s2 hd h2 u2=>?_);have k2:=u2.sub hd;refine wt.push acct k2.keep (tk.more k2) (row1 h2 rfl) (by simp;omega) (by show 2<4;omega) λv' t4 H' w4 acc4 kH keep=>?_;rw[qAN,qAB,qAb (by omega) (by omega)];have kd:=qBb (b:=b2) kH;have hrow:Sl (hdel H' b2) vr (bs L):=by
  rcases accr.2 with⟨e,q⟩|⟨c,h0,e,h1⟩
  ·exact .inl ⟨e,List.map_eq_nil_iff.1 q⟩
  ·have n5:c≠b5:=λe=>w.z.tk.at (by rw[<- e];exact h0)
   have n7:c≠b7:=λe=>by rw[e,w.z.fb]at h0;cases h0
   have n2:c≠b2:=λe=>by rw[e,w.z.sub _ _ w.h2]at h0;cases h0
   have nv:∀b o n cp e,v=.slc b o n cp e->c≠b:=λb o n cp e' ev q=>by
    rcases acc.2 with⟨r,_⟩|⟨d',_,r,hd'⟩
    ·rw[r]at ev;cases ev
    ·rw[r]at ev;cases ev;rw[q,hd']at h0;cases h0
   have:=keep c _ (k2 _ _ h1) n5 n7 nv;have hc:hdel H' b2 c=some (false,.cells 4 (r1 (bs L)).flatten):=by rw[qEk n2];exact this
   rw[qUj]at hc;rw[e];exact Sl.mk hc (by simp) (by simp)
 have hP':=PtRv.app (q:=vr) (r:=L) hvs.1 (λi q r a c=>(hvs.2 i q r a c).sub kd) hrow;refine⟨_,by omega,k+1,H',v',vs ++ [vr],P ++ [L],rfl,by omega,rfl,w4,⟨hq.1.sub kd,hq.2.sub kd⟩,by rw[zAAi];exact acc4,by rw[lAp,hl];rfl,hP',λr hr=>?_⟩;rcases mP hr with hr|hr
 ·exact hP r hr
 ·have:r=L:=by simpa using hr
  rw[this];exact hL
theorem zABS(gi:WIn s sB F b0 v2 v3 v4 v5 v6 v7)(w:WS s sB H t b0 b2 b5 b7 (csG F v2 v3 v4 v5 v6 v7) [w1,.nilslc,.nilslc,.nilslc])(q1:Sl (hdel H b2) w1 (bs nd))(n1:(nd.length:Int)=F.lf+F.sp)(hb2:s b2=none)
  (hK:∀t' ws W,Sub s t'->WR t' ws W->WOk F W->K (.agg ws) t') :
  ∃I1:List AV->Hq->Nat->Prop,(∃m,I1 [(.int .i64 0)] t m)/\∀(f:Env) (s:Hq) (m1:Nat),I1 [f 8] s m1->qJH XX (.ptr b0 0) (.ptr b2 0) (.ptr b5 0) (.ptr b7 0) (f 8) I1 m1 K s:=by
 have hLk:LinksOk F:=gi.v 2 (by omega);have hLn:=hLk.n;refine⟨λys t m=>∃(k:Nat) (H:Hq) (v:AV) (L:List Bool),ys=[.int .i64 (k:Int)]/\k<=F.L.length/\m=F.L.length-k/\WS s sB H t b0 b2 b5 b7 (csG F v2 v3 v4 v5 v6 v7) [w1,v,.nilslc,.nilslc]/\Sl (hdel H b2) w1 (bs nd)/\AccR 4 1 (ext H t b5 b7) t v (r1 (bs L))/\L.length=k,⟨_,0,H,.nilslc,[],rfl,by omega,rfl,w,q1,qJ1,rfl⟩,?_⟩;rintro f t m ⟨k,H,v,L,hy,hk,rfl,w,hq,acc,hl⟩;simp only[cI,and_true]at hy;rw[hy];clear hy;unfold qJH;have hLt:=gi.L.sub w.sub;refine w.rd (x:=v2) rfl (qAA (by rw[hLt.L.len,lM]) ?_);rw[qAP,qAB];refine qAJ (λhlt=>?_) (λhge=>?_)
 ·have hlt:k<F.L.length:=by have:=oT hlt;omega
  simp only[qAI,zAY,qAB];refine qYZ (n:=5) w (m:=6) (by omega) (k:=1) rfl acc (by omega) λv' t4 H' b w4 acc4 kH=>?_;rw[qAN,qAB,qAb (by omega) (by omega)];exact⟨_,by omega,k+1,H',v',L ++ [b],rfl,by omega,rfl,w4,hq.sub (qBb kH),acc4,by rw[lAp,hl];rfl⟩
 ·have hge:k=F.L.length:=by have:=oF hge;omega
  subst hge;obtain⟨H2,w2',kH,sl⟩:=w.fin acc;have kd:=qBb (b:=b2) kH;exact zABG gi w2' (hq.sub kd) (qWU sl) n1 hl hb2 hK
theorem zAAx(gi:WIn s sB F b0 v2 v3 v4 v5 v6 v7)(w:WS s sB H t b0 b2 b5 b7 (csG F v2 v3 v4 v5 v6 v7) [.nilslc,.nilslc,.nilslc,.nilslc])(hb2:s b2=none)
  (hK:∀t' ws W,Sub s t'->WR t' ws W->WOk F W->K (.agg ws) t') :
  ∃I0:List AV->Hq->Nat->Prop,(∃m,I0 [(.int .i64 0)] t m)/\∀(f:Env) (s:Hq) (m0:Nat),I0 [f 7] s m0->qJL XX (.ptr b0 0) (.ptr b2 0) (.ptr b5 0) (.ptr b7 0) (f 7) I0 m0 K s:=by
 have hf:FabOk F:=gi.v 0 (by omega);have hlf:=hf.lf;have hsp:=hf.sp;have hsm:=hf.sum;obtain⟨N,hN⟩:=qI8 (l:=F.lf+F.sp) (by omega);refine⟨λys t m=>∃(k:Nat) (H:Hq) (v:AV) (L:List Bool),ys=[.int .i64 (k:Int)]/\k<=N/\m=N-k/\WS s sB H t b0 b2 b5 b7 (csG F v2 v3 v4 v5 v6 v7) [v,.nilslc,.nilslc,.nilslc]/\AccR 4 1 (ext H t b5 b7) t v (r1 (bs L))/\L.length=k,⟨_,0,H,.nilslc,[],rfl,by omega,rfl,w,qJ1,rfl⟩,?_⟩;rintro f t m ⟨k,H,v,L,hy,hk,rfl,w,acc,hl⟩;simp only[cI,and_true]at hy;rw[hy];clear hy;unfold qJL;refine w.rd (x:=.int .i64 F.lf) rfl (w.rd (x:=.int .i64 F.sp) rfl ?_);rw[qAN,qAB,qAb (by omega) (by omega),hN,qAP,qAB];refine qAJ (λhlt=>?_) (λhge=>?_)
 ·have hlt:k<N:=by have:=oT hlt;omega
  simp only[qAI,zAY,qAB];refine qYZ (n:=8) w (m:=9) (by omega) (k:=0) rfl acc (by omega) λv' t4 H' b w4 acc4 kH=>?_;rw[qAN,qAB,qAb (by omega) (by omega)];exact⟨_,by omega,k+1,H',v',L ++ [b],rfl,by omega,rfl,w4,acc4,by rw[lAp,hl];rfl⟩
 ·have hge:k=N:=by have:=oF hge;omega
  subst hge;obtain⟨H2,w2',kH,sl⟩:=w.fin acc;exact zABS gi w2' (qWU sl) (by omega) hb2 hK
theorem qWR{L:List Int}(hv:Valid F)(hF:FabR s cs F)(hf:∀v,cs[6]?=some v->Fv sB v)(kB:Sub sB s)(hl:Sl sB lv (L.map (AV.int .i64)))(hlen:L.length<=9223372036854775807)(hb:∀x∈L,-9223372036854775808<=x/\x<=9223372036854775807)
  (hK:∀t' ws W,Sub s t'->WR t' ws W->WOk F W->K (.agg ws) t'):wC TP XX 14 [.agg cs,lv] K s:=by
 obtain⟨v2,v3,v4,v5,v6,v7,rfl,hL⟩:=hF;refine qQv (boxN hL.all λb0 s1 hb0 g1 u1=>qAM λb2 s3 hb2 g3 u3=>?_);have k1:=u1.sub hb0;have k3:=u3.sub hb2;refine qAA (a:=[lv,.int .i64 0]) ?_ (boxN (by simp[hl.one]) λb5 s6 hb5 g5 u5=>qAM λb7 s8 hb7 g7 u7=>?_)
 ·simp only[qAl,qDI hl.one]
  rfl
 have k5:=u5.sub hb5;have k7:=u7.sub hb7;have k15:=k1.trans k3;have k18:=k15.trans (k5.trans k7);have b5B:sB b5=none:=qA6 (kB.trans k15) hb5;have n57:b5≠b7:=λe=>by rw[<- e,g5]at hb7;cases hb7
 have n05:b0≠b5:=λe=>by rw[<- e,k3 _ _ g1]at hb5;cases hb5
 have n25:b2≠b5:=λe=>by rw[<- e,g3]at hb5;cases hb5
 have g15:=(k3.trans k5) _ _ g1;have g35:=k5 _ _ g3;have n07:b0≠b7:=λe=>by rw[<- e,g15]at hb7;cases hb7
 have n27:b2≠b7:=λe=>by rw[<- e,g35]at hb7;cases hb7
 have hb2s:s b2=none:=qA6 k1 hb2;have tk:Tk sB s8 b5:=⟨kB.trans k18,b5B,lv,L,0,k7 _ _ g5,by omega,hlen,hl,hb⟩
 have oS:∀{i e},s i=some e->offB s8 b5 b7 i=some e:=fun {i e} hi=>by
  unfold offB;rw[if_neg (by
   rintro (q|q)
   ·rw[q,qA6 k15 hb5]at hi;cases hi
   ·rw[q,qA6 (k15.trans k5) hb7]at hi;cases hi)]
  exact k18 _ _ hi
 have z:FS 36 sB (offB s8 b5 b7) s8 b5 b7 [.nilslc,.nilslc,.nilslc,.nilslc]:=by
  refine⟨tk,g7,λi e hi=>?_,if_pos (.inl rfl),if_pos (.inr rfl),λi e hi=>oS (kB _ _ hi),n57⟩;unfold offB at hi;split at hi
  ·cases hi
  ·exact hi
 have w:WS s sB (offB s8 b5 b7) s8 b0 b2 b5 b7 (csG F v2 v3 v4 v5 v6 v7) [.nilslc,.nilslc,.nilslc,.nilslc]:=by
  refine⟨z,?_,?_,λi e hi=>?_⟩
  ·unfold offB
   rw[if_neg (by rintro (q|q);exact n05 q;exact n07 q)];exact k7 _ _ g15
  ·unfold offB
   rw[if_neg (by rintro (q|q);exact n25 q;exact n27 q)];exact k7 _ _ g35
  ·rw[qEk (λq=>by rw[q,hb2s]at hi;cases hi)]
   exact oS hi
 exact zAAx ⟨hv,hL,hf v6 rfl,qA6 kB hb0⟩ w hb2s hK
end Go.AM.OR
set_option maxRecDepth 100000
namespace Go.AM.OR
open Go Go.Proofs Go.AM.TN
variable {K:AV→Hq→Prop} {s:Hq} {F:FG} {W:WG} {h l sg:Int} {hd:List Hd} {q:Bool} {x:FC.Fr}
theorem qZu:hd.length<=(lnK hd h l q).length/\(lnK hd h l q).length<=hd.length+1:=by
 unfold lnK;split
 ·simp
 ·simp
theorem qXe(he:entO F W h x=none):accO F W h x=none:=by unfold accO;rw[he]
theorem qYT(hv:Valid F)(hs:att F W h=some sg)(hl:l∈mems F W sg):upB F W l=true:=by
 unfold mems at hl;split at hl
 ·split at hl
  ·rename_i g hg
   obtain⟨h1,h2⟩:=List.mem_filter.1 hl;unfold memB at h2;rw[Bool.and_eq_true]at h2;have:=((show SegOk F from hv 5 (by omega)).row g (mG hg)).2.1.1 l h1;exact qL7.2 ⟨this,h2.1⟩
  ·cases hl
 ·cases hl
theorem qYp{f:FuncId}(hf:f=3∨f=12)(hK:K (.bool true) s):wC TP XX f [] K s:=by
 refine qVR (g:=λargs=>match args with
  |[]=>AM.ret (.bool true)
  |_=>AM.fail) ?_ (wpF.ret hK)
 rcases hf with rfl|rfl<;>rfl
end Go.AM.OR
set_option maxRecDepth 100000
namespace Go.AM.OR
open Go Go.Proofs Go.AM.TN
end Go.AM.OR
namespace Go.AM.SG
open Go Go.AM Go.Proofs
inductive Leaf where
 |i (k:IntKind)
 |b
 |sl (d:Nat) (t:TypeId)
section
variable (P : Program)
def qXh(rec:TypeId->Nat->Option Leaf)(j:Nat):List Field->Option Leaf
 |[]=>none
 |f::fs=>cond (Nat.ble f.offset j&&Nat.blt (j-f.offset) (P.cellsOf f.type)) (rec f.type (j-f.offset)) (qXh rec j fs)
def qSp:Nat->TypeId->Nat->Option Leaf
 | 0,_,_=>none
 | d+1,t,j=>match P.underlying t with
   |some (.int k)=>cond (Nat.beq j 0) (some (.i k)) none
   |some .bool=>cond (Nat.beq j 0) (some .b) none
   |some (.slice _)=>cond (Nat.beq j 0) (some (.sl (d+1) t)) none
   |some (.struct fs)=>qXh P (qSp d) j fs.toList
   |some (.array n e)=>cond (Nat.blt (j / P.cellsOf e) n&&Nat.blt 0 (P.cellsOf e)) (qSp d e (j % P.cellsOf e)) none
   |_=>none
end
variable {P:Program} {s:Hq}
def zAA2(P:Program)(s:Hq):Leaf->AV->Prop
 | .i k,x=>∃n,x=.int k n/\(Lit.int k n).wf=true
 | .b,x=>∃b,x=.bool b
 | .sl d t,x=>Inp P s d t [x]
theorem qRl{xs:List AV}{o c j:Nat}{x:AV}(h:((xs.drop o).take c)[j]?=some x):xs[o+j]?=some x:=by
 rw[List.getElem?_take]at h;split at h
 ·rw[List.getElem?_drop]at h;exact h
 ·cases h
theorem qRK:∀(d:Nat) (t:TypeId) (xs:List AV) (j:Nat) (k:Leaf),Inp P s d t xs->qSp P d t j=some k->∃x,xs[j]?=some x/\zAA2 P s k x
 | 0,_,_,_,_,h,_=>h.elim
 | d+1,t,xs,j,k,h,hk=>by
   unfold qSp at hk;unfold Inp at h;split at hk
   ·rename_i k0 hu
    simp only[hu]at h;cases e:Nat.beq j 0 with
    |false=>rw[e]at hk;cases hk
    | true=>
      rw[e]at hk;cases hk;obtain⟨n,rfl,h2⟩:=h;exact⟨_,by rw[bE e];rfl,n,rfl,h2⟩
   ·rename_i hu
    simp only[hu]at h;cases e:Nat.beq j 0 with
    |false=>rw[e]at hk;cases hk
    | true=>
      rw[e]at hk;cases hk;obtain⟨b,rfl⟩:=h;exact⟨_,by rw[bE e];rfl,b,rfl⟩
   ·rename_i e0 hu
    cases e:Nat.beq j 0 with
    |false=>rw[e]at hk;cases hk
    | true=>
      rw[e]at hk;cases hk;have h':Inp P s (d+1) t xs:=by unfold Inp;exact h
      simp only[hu]at h;rcases h with rfl|⟨b,n,c,rfl,_⟩
      ·exact⟨_,by rw[bE e];rfl,h'⟩
      ·exact⟨_,by rw[bE e];rfl,h'⟩
   ·rename_i fs hu
    simp only[hu]at h;have key:∀l:List Field,(∀f∈l,f∈fs.toList)->qXh P (qSp P d) j l=some k->∃x,xs[j]?=some x/\zAA2 P s k x:=by
     intro l
     induction l with
     |nil=>intro _ q;cases q
     | cons f l ih=>
       intro hm q;unfold qXh at q;cases e:(Nat.ble f.offset j&&Nat.blt (j-f.offset) (P.cellsOf f.type))with
       |false=>rw[e]at q;exact ih (λg hg=>hm g (mO _ hg)) q
       | true=>
         rw[e]at q;simp only[Bool.and_eq_true]at e;obtain⟨x,h1,h2⟩:=qRK d f.type _ (j-f.offset) k (h.2 f (hm f List.mem_cons_self)) q;refine⟨x,?_,h2⟩;have:=qRl h1;rw[Nat.add_sub_cancel' (Nat.le_of_ble_eq_true e.1)]at this;exact this
    exact key _ (λf hf=>hf) hk
   ·rename_i n e0 hu
    simp only[hu]at h;cases e:(Nat.blt (j / P.cellsOf e0) n&&Nat.blt 0 (P.cellsOf e0))with
    |false=>rw[e]at hk;cases hk
    | true=>
      rw[e]at hk;simp only[Bool.and_eq_true,Nat.blt_eq]at e;obtain⟨x,h1,h2⟩:=qRK d e0 _ (j % P.cellsOf e0) k (h.2 (j / P.cellsOf e0) e.1) hk;refine⟨x,?_,h2⟩;have:=qRl h1;rw[Nat.mul_comm,Nat.div_add_mod]at this;exact this
   ·cases hk
theorem qFZ{d:Nat}{t:TypeId}{xs:List AV}{j:Nat}{k:IntKind}(h:Inp P s d t xs)(hk:qSp P d t j=some (.i k)):∃n,xs[j]?=some (.int k n)/\(Lit.int k n).wf=true:=by obtain⟨x,h1,n,rfl,h2⟩:=qRK d t xs j _ h hk;exact⟨n,h1,h2⟩
theorem qZ2{xs ys:List AV}(hl:xs.length=ys.length)(h:∀j,j<ys.length->xs[j]?=ys[j]?):xs=ys:=by
 refine List.ext_getElem? λj=>?_
 by_cases q:j<ys.length
 ·exact h j q
 ·rw[List.getElem?_eq_none (by omega),List.getElem?_eq_none (by omega)]
end Go.AM.SG
set_option maxRecDepth 100000
namespace Go.AM.OR
open Go Go.Proofs Go.AM.TN
variable {s:Hq} {v:AV}
theorem wf64{n:Int}(h:(Lit.int .i64 n).wf=true):-9223372036854775808<=n/\n<=9223372036854775807:=by unfold Lit.wf at h;simpa [IntKind.min,IntKind.max,IntKind.bits,IntKind.signed]using h
theorem arg_ints{d:Nat}(h:Arg TP s (d+2) 34 v):∃l:List Int,Sl s v (l.map (AV.int .i64))/\(∀x∈l,-9223372036854775808<=x/\x<=9223372036854775807)/\l.length<=maxLen:=
 qVA (d:=d+1) Tryz.underlying34 (by kernel_rfl) (AV.int .i64) (λn=>-9223372036854775808<=n/\n<=9223372036854775807) (λxs h=>by obtain⟨n,e,w⟩:=qZX Tryz.underlying3 h;exact⟨n,e,wf64 w⟩) h
end Go.AM.OR
namespace Go.AM
open Go Go.Proofs
end Go.AM
set_option maxRecDepth 100000
namespace Go.AM.OR
open Go Go.Proofs Go.AM.TN
end Go.AM.OR
set_option maxRecDepth 100000
namespace Go.AM.OR
open Go Go.Proofs Go.AM.TN
variable {s t:Hq} {F:FG} {W:WG} {i k b0 b6 b18 b31 b48:Nat} {h sg:Int} {v2 v3 v4 v5 v6 v7 w1 w2 w3 w4:AV} {y:R4} {hd:List Hd} {x:FC.Fr} {e:Lnd} {d:BG}
structure ApS(t:Hq)(F:FG)(W:WG)(v2 v3 v4 v5 v6 v7 w1 w2 w3 w4:AV)(b0 b6 b18 b31 b48:Nat)(x:FC.Fr)(y:R4)(e:Lnd)(d:BG)(i:Nat)(sg:Int):Prop where
 h0:t b0=some (false,.cells 48 (FC.frC x))
 h6:t b6=some (false,.cells 31 (csG F v2 v3 v4 v5 v6 v7))
 h18:t b18=some (false,.cells 36 [w1,w2,w3,w4])
 h31:t b31=some (false,.cells 61 (hgC y))
 h48:t b48=some (false,.cells 55 (ldC e))
 L:FL t F v2 v3 v4 v5 v6 v7
 Wl:WL t W w1 w2 w3 w4
 hd:F.B[y.2.2.1.toNat]?=some d
 hb:0<=y.2.2.1
 hw:W.wh[i]?=some sg
theorem ApS.sub(h:ApS t F W v2 v3 v4 v5 v6 v7 w1 w2 w3 w4 b0 b6 b18 b31 b48 x y e d i sg)(k:Sub t s):ApS s F W v2 v3 v4 v5 v6 v7 w1 w2 w3 w4 b0 b6 b18 b31 b48 x y e d i sg:=
 ⟨k _ _ h.h0,k _ _ h.h6,k _ _ h.h18,k _ _ h.h31,k _ _ h.h48,h.L.sub k,h.Wl.sub k,h.hd,h.hb,h.hw⟩
end Go.AM.OR
set_option maxRecDepth 100000
namespace Go.AM.OR
open Go Go.Proofs Go.AM.TN
variable {s:Hq} {v:AV} {j k:Nat} {h l:Int} {q:Bool} {x:FC.Fr}
theorem arg_frame(h:Arg TP s 40 48 v):∃x:FC.Fr,v=.agg (FC.frC x):=by
 obtain⟨h1,h2,_⟩:=h;obtain⟨l,rfl,_⟩:=h2 (by kernel_rfl);rw[qFW]at h1;have h:=h1;have hl:=qYx (by kernel_rfl:qCm TP 48=some true) h;rw[show TP.cellsOf 48=15 by kernel_rfl]at hl;obtain⟨n0,h0,_⟩:=SG.qFZ (j:=0) (k:=.u64) h (by kernel_rfl);obtain⟨n1,h1,_⟩:=SG.qFZ (j:=1) (k:=.u64) h (by kernel_rfl);obtain⟨n2,h2,_⟩:=SG.qFZ (j:=2) (k:=.i64) h (by kernel_rfl);obtain⟨n3,h3,_⟩:=SG.qFZ (j:=3) (k:=.i64) h (by kernel_rfl);obtain⟨n4,h4,_⟩:=SG.qFZ (j:=4) (k:=.u64) h (by kernel_rfl);obtain⟨n5,h5,_⟩:=SG.qFZ (j:=5) (k:=.u32) h (by kernel_rfl);obtain⟨n6,h6,_⟩:=SG.qFZ (j:=6) (k:=.u64) h (by kernel_rfl);obtain⟨n7,h7,_⟩:=SG.qFZ (j:=7) (k:=.u32) h (by kernel_rfl);obtain⟨n8,h8,_⟩:=SG.qFZ (j:=8) (k:=.u32) h (by kernel_rfl);obtain⟨n9,h9,_⟩:=SG.qFZ (j:=9) (k:=.u32) h (by kernel_rfl);obtain⟨n10,h10,_⟩:=SG.qFZ (j:=10) (k:=.i64) h (by kernel_rfl);obtain⟨n11,h11,_⟩:=SG.qFZ (j:=11) (k:=.i64) h (by kernel_rfl);obtain⟨n12,h12,_⟩:=SG.qFZ (j:=12) (k:=.i64) h (by kernel_rfl);obtain⟨n13,h13,_⟩:=SG.qFZ (j:=13) (k:=.i64) h (by kernel_rfl);obtain⟨n14,h14,_⟩:=SG.qFZ (j:=14) (k:=.u64) h (by kernel_rfl);refine⟨⟨n0,n1,n2,n3,n4,n5,n6,n7,n8,n9,n10,n11,n12,n13,n14⟩,congrArg AV.agg (SG.qZ2 hl λj hj=>?_)⟩
 match j,hj with
 | 0,_=>exact h0
 | 1,_=>exact h1
 | 2,_=>exact h2
 | 3,_=>exact h3
 | 4,_=>exact h4
 | 5,_=>exact h5
 | 6,_=>exact h6
 | 7,_=>exact h7
 | 8,_=>exact h8
 | 9,_=>exact h9
 | 10,_=>exact h10
 | 11,_=>exact h11
 | 12,_=>exact h12
 | 13,_=>exact h13
 | 14,_=>exact h14
 |j+15,q=>exact absurd q (by show ¬j+15<15;omega)
end Go.AM.OR
namespace Go.AM
open Go Go.Proofs
end Go.AM
set_option maxRecDepth 100000
namespace Go.AM.OR
open Go Go.Proofs Go.AM.TN
variable {K:AV→Hq→Prop} {s s' t H:Hq} {v w:AV} {cs ws:List AV} {F:FG} {W:WG} {a c i j n:Nat} {h sg a1:Int} {v2 v3 v4 v5 v6 v7 w1 w2 w3 w4:AV} {q:Bool} {x:FC.Fr}
theorem qRO{L:List Int}(hv:Sl s v (ix L))(hw:Sl s w (ix L))(hl:L.length<=100000)(hK:K (.bool true) s):wC TP XX 24 [v,w] K s:=by
 refine qM5 (qAA (by rw[hv.len,qA3]) (qAA (by rw[hw.len,qA3]) ?_));simp only[qAX,beq_self_eq_true,qAV,Bool.false_bne,qAB];refine⟨λys t m=>∃i:Nat,ys=[.bool true,.int .i64 (i:Int)]/\i<=L.length/\m=L.length-i/\t=s,⟨_,0,rfl,by omega,rfl,rfl⟩,?_⟩;rintro f t m ⟨i,hy,hi,rfl,rfl⟩;simp only[cI,and_true]at hy;rw[hy.1,hy.2];unfold qI9;rw[qAF];refine qAA (by rw[hv.len,qA3]) ?_;rw[qAP,qAB];unfold qGU;refine qAA rfl (qAJ (λc=>?_) (λc=>hK));have c:i<L.length:=by have:=oT c;omega
 obtain⟨p1,g1,g2⟩:=hv.get (i:=i) (by rw[qA3];exact c);obtain⟨p2,g3,g4⟩:=hw.get (i:=i) (by rw[qA3];exact c);rw[qFd c]at g2 g4;refine qAA g1 (qAA g2 (qAA g3 (qAA g4 ?_)));simp only[qAX,beq_self_eq_true,qAV,Bool.false_bne,qAB];rw[qAN,qAB,qAb (by omega) (by omega)];exact⟨_,by omega,i+1,rfl,by omega,rfl,trivial⟩
theorem qMW{L:List Lnd}(hv:SlR 17 s v (L.map ldC))(hw:SlR 17 s w (L.map ldC))(hl:L.length<=100000)(hK:K (.bool true) s):wC TP XX 28 [v,w] K s:=by
 refine qFM (qAA (by rw[hv.len,lM]) (qAA (by rw[hw.len,lM]) ?_));simp only[qAX,beq_self_eq_true,qAV,Bool.false_bne,qAB];refine⟨λys t m=>∃i:Nat,ys=[.bool true,.int .i64 (i:Int)]/\i<=L.length/\m=L.length-i/\t=s,⟨_,0,rfl,by omega,rfl,rfl⟩,?_⟩;rintro f t m ⟨i,hy,hi,rfl,rfl⟩;simp only[cI,and_true]at hy;rw[hy.1,hy.2];unfold qDG;rw[qAF];refine qAA (by rw[hv.len,lM]) ?_;rw[qAP,qAB];unfold qCF;refine qAA rfl (qAJ (λc=>?_) (λc=>hK));have c:i<L.length:=by have:=oT c;omega
 have hx:L[i]?=some L[i]:=gE c;generalize L[i]=e at hx;obtain⟨pb,po,g1,g2,_⟩:=hv.get (i:=i) (r:=ldC e) (by rw[List.getElem?_map,hx];rfl);obtain⟨pc,pq,g3,g4,_⟩:=hw.get (i:=i) (r:=ldC e) (by rw[List.getElem?_map,hx];rfl);refine qAA g1 (qAA g2 (qAA g3 (qAA g4 ?_)));rw[show qGg TP 55 (.agg (ldC e)) (.agg (ldC e))=some true from SG.qTe (by kernel_rfl)];refine qAA (a:=.bool true) rfl ?_;rw[qAN,qAB,qAb (by omega) (by omega)];exact⟨_,by omega,i+1,rfl,by omega,rfl,rfl⟩
theorem qXv{L A:List Int}(hv:Sl s v (ix L))(hw:Sl s w (ix A))(hl:L.length<=100000)(ha:A.length<=100000)(hm:∃x∈L,x∈A)(hK:K (.bool true) s):wC TP XX 25 [v,w] K s:=by
 obtain⟨x,hx,hxa⟩:=hm;obtain⟨j,hj⟩:=List.getElem?_of_mem hx;have hjl:=(gS hj).1;refine qGJ ⟨λys t m=>∃i:Nat,ys=[.int .i64 (i:Int)]/\i<=j/\m=L.length-i/\t=s,⟨_,0,rfl,by omega,rfl,rfl⟩,?_⟩;rintro f t m ⟨i,hy,hi,rfl,rfl⟩;simp only[cI,and_true]at hy;rw[hy];unfold qDb;refine qAA (by rw[hv.len,qA3]) ?_;rw[qAP,qAB,decide_eq_true (by omega),qAF];have c:i<L.length:=by omega
 obtain⟨p1,g1,g2⟩:=hv.get (i:=i) (by rw[qA3];exact c);rw[qFd c]at g2;refine qAA g1 (qAA g2 (qK0 hw ha ?_));refine qAJ (λ_=>hK) (λq=>?_);have q:=oF q;rw[qAN,qAB,qAb (by omega) (by omega)];refine⟨_,by omega,i+1,rfl,?_,rfl,rfl⟩;have:i≠j:=λe=>by subst e;rw[gE c]at hj;cases hj;exact q hxa
 omega
def shB(F:FG)(W:WG)(h:Nat)(n:Int):Bool:=match W.wh[h]? with
 | some sg=>decide (0<=sg)&&(match F.S[sg.toNat]? with
   |some g=>decide (n∈g.1)
   |none=>false)
 |none=>false
theorem qV7(z:FOk F)(hF:FabR s cs F)(hW:WR s ws W)(hok:WOk F W)(hi:i<F.H.length)(hK:∀s',Sub s s'->K (.bool (shB F W i n)) s'):wC TP XX 27 [.agg cs,.agg ws,.int .i64 (i:Int),.int .i64 (n:Int)] K s:=by
 obtain⟨v2,v3,v4,v5,v6,v7,rfl,hL⟩:=hF;obtain⟨w1,w2,w3,w4,rfl,hw⟩:=hW;refine qFo (boxN hL.all λb0 s1 hb0 g1 u1=>boxN hw.all λb2 s3 hb2 g3 u3=>?_);have k1:=u1.sub hb0;have k3:=u3.sub hb2;have hL3:=hL.sub (k1.trans k3);have hw3:=hw.sub (k1.trans k3);have g1:s3 b0=some (false,.cells 31 (csG F v2 v3 v4 v5 v6 v7)):=k3 _ _ g1;have hwl:=hok.wh.1;have hx:W.wh[i]?=some W.wh[i]:=gE (by omega);have hr:=hok.wh.2 W.wh[i] (List.getElem_mem ..);obtain⟨pp,e1,e2⟩:=hw3.wh.get (i:=i) (by rw[qA3];omega);rw[qFd (by omega)]at e2;generalize W.wh[i]=sg at hx hr e2;refine qAA (a:=.ptr b2 3) rfl (qAA (a:=w4) (by rw[qAK g3];rfl) (qAA e1 (qAA e2 ?_)));rw[qBV,qAB];have hsh:shB F W i n=(decide (0<=sg)&&(match F.S[sg.toNat]? with
  |some g=>decide ((n:Int)∈g.1)
  |none=>false)):=by unfold shB;rw[hx]
 refine qAJ (λc=>?_) (λc=>?_)
 ·have c0:=oT c
  have hg:F.S[sg.toNat]?=some (F.S[sg.toNat]'(by omega)):=gE (by omega);generalize(F.S[sg.toNat]'(by omega))=g at hg;obtain⟨pb,po,l1,l2,a1,_,a3,_,a5,_⟩:=hL3.S.at hg;rw[show((sg.toNat:Nat):Int)=sg by omega]at a1;refine qAA (a:=.ptr b0 5) rfl (qAA (a:=v5) (by rw[qAK g1];rfl) (qAA a1 (qAA (a:=.ptr pb po) rfl (qAA a3 (qK0 a5 (z.S1 g (mG hg)) ?_)))));unfold qBi;rw[c];refine qAA rfl ?_;have:=hK s3 (k1.trans k3);rw[hsh,hg,decide_eq_true c0,Bool.true_and]at this;exact this
 ·unfold qBi
  rw[c];refine qAA rfl ?_;have:=hK s3 (k1.trans k3);rw[hsh,decide_eq_false (by have:=oF c;omega),Bool.false_and]at this;exact this
end Go.AM.OR
set_option maxRecDepth 100000
namespace Go.AM.OR
open Go Go.Proofs Go.AM.TN
variable {F:FG} {W:WG} {ar:List Int} {h sg l:Int} {x:FC.Fr} {P:List (List Bool)}
abbrev WG.inP(W:WG)(P:List (List Bool)):WG:=⟨W.nd,W.lk,P,W.wh⟩
theorem qZD:att F (W.inP P) h=att F W h:=rfl
theorem qXZ(hp:P[l.toNat]?=W.pt[l.toNat]?):qLr (W.inP P) l sg=qLr W l sg:=by unfold qLr;simp only[hp]
theorem qTs(hp:P[l.toNat]?=W.pt[l.toNat]?):memB (W.inP P) sg l=memB W sg l:=by unfold memB;rw[qXZ hp]
theorem qYh(hp:∀l∈ar,P[l.toNat]?=W.pt[l.toNat]?):wthB F (W.inP P) sg ar=wthB F W sg ar:=by
 unfold wthB mems;split
 ·split
  ·rename_i g hg
   rw[List.any_filter,List.any_filter]
   congr 1
   funext l
   by_cases c:l∈ar
   ·rw[qTs (hp l c)]
   ·rw[decide_eq_false c,Bool.and_false,Bool.and_false]
  ·rfl
 ·rfl
theorem qXq{g:List Int×List Int}(hg:F.S[sg.toNat]?=some g)(hp:∀l∈g.1,P[l.toNat]?=W.pt[l.toNat]?):mems F (W.inP P) sg=mems F W sg:=by
 unfold mems;rw[hg];simp only[];split
 ·exact List.filter_congr λl hl=>qTs (hp l hl)
 ·rfl
theorem qZd(hp:∀g,∀sg,att F W h=some sg->F.S[sg.toNat]?=some g->∀l∈g.1,P[l.toNat]?=W.pt[l.toNat]?):entO F (W.inP P) h x=entO F W h x:=by
 unfold entO;rw[qZD];cases e:att F W h with
 |none=>rfl
 | some sg=>
   obtain⟨_,g,_,_,_,_,hg,_⟩:=qIm e;simp only[];rw[qXq hg (hp g sg e hg)]
theorem qZ9(hp:∀g,∀sg,att F W h=some sg->F.S[sg.toNat]?=some g->∀l∈g.1,P[l.toNat]?=W.pt[l.toNat]?):accO F (W.inP P) h x=accO F W h x:=by unfold accO;rw[qZd hp]
def ptK(W:WG)(F:FG)(ar:List Int)(h:Nat)(k:Nat):List (List Bool):=W.pt.mapIdx λi r=>if i<k/\((i:Int) ∉ ar/\shB F W h i=false)then[]else r
theorem qNb{i h k:Nat}:(ptK W F ar h k)[i]?=(W.pt[i]?).map λr=>if i<k/\((i:Int) ∉ ar/\shB F W h i=false)then[]else r:=by unfold ptK;rw[List.getElem?_mapIdx]
theorem qRb{l:Int}{h k:Nat}(h0:0<=l)(hl:l∈ar∨shB F W h l=true):(ptK W F ar h k)[l.toNat]?=W.pt[l.toNat]?:=by
 rw[qNb];have e:((l.toNat:Nat):Int)=l:=by omega
 rw[e];cases W.pt[l.toNat]? with
 |none=>rfl
 |some r=>exact congrArg some (if_neg (by rintro ⟨_,q1,q2⟩;rcases hl with q|q;exact q1 q;rw[q]at q2;cases q2))
theorem zABj{h:Nat}{g:List Int×List Int}(e:att F W (h:Int)=some sg)(hg:F.S[sg.toNat]?=some g)(hl:l∈g.1):shB F W h l=true:=by obtain⟨_,_,_,_,a3,a4,_,_⟩:=qIm e;have a3:W.wh[h]?=some sg:=a3;unfold shB;rw[a3];simp only[];rw[hg,decide_eq_true a4,Bool.true_and];exact decide_eq_true hl
theorem qZo(he:entO F W h x=some l)(hs:att F W h=some sg)(har:Ar F W l ar)(hup:upB F W l=true):wthB F W sg ar=true:=by obtain⟨sg',e1,e2⟩:=qH7 he;rw[hs]at e1;cases e1;unfold wthB;rw[List.any_eq_true];exact⟨l,e2,by rw[decide_eq_true (har.self.2 hup)]⟩
end Go.AM.OR
set_option maxRecDepth 100000
namespace Go.AM.OR
open Go Go.Proofs Go.AM.TN
variable {K:AV→Hq→Prop} {s t:Hq} {v:AV} {F:FG} {W:WG} {a c i k b6 b12:Nat} {h:Int} {v2 v3 v4 v5 v6 v7 w1 w2 w3 w4:AV} {ar:List Int} {q:Bool} {I0 I1:List AV→Hq→Nat→Prop} {m0 m1:Nat}
structure ArS(t:Hq)(F:FG)(W:WG)(v2 v3 v4 v5 v6 v7 w1 w2 w3 w4:AV)(b6 b12:Nat):Prop where
 h6:t b6=some (false,.cells 31 (csG F v2 v3 v4 v5 v6 v7))
 h12:t b12=some (false,.cells 36 [w1,w2,w3,w4])
 L:FL t F v2 v3 v4 v5 v6 v7
 Wl:WL t W w1 w2 w3 w4
theorem ArS.sub(h:ArS t F W v2 v3 v4 v5 v6 v7 w1 w2 w3 w4 b6 b12)(k:Sub t s):ArS s F W v2 v3 v4 v5 v6 v7 w1 w2 w3 w4 b6 b12:=⟨k _ _ h.h6,k _ _ h.h12,h.L.sub k,h.Wl.sub k⟩
theorem ArS.fb(h:ArS t F W v2 v3 v4 v5 v6 v7 w1 w2 w3 w4 b6 b12):FabR t (csG F v2 v3 v4 v5 v6 v7) F:=⟨v2,v3,v4,v5,v6,v7,rfl,h.L⟩
theorem ArS.wr(h:ArS t F W v2 v3 v4 v5 v6 v7 w1 w2 w3 w4 b6 b12):WR t [w1,w2,w3,w4] W:=⟨w1,w2,w3,w4,rfl,h.Wl⟩
theorem eqBB{c d:Bool}(h:c=d):negB true (eqV 1 false (.bool c) (.bool d))=some (.bool false):=by subst h;cases c<;>rfl
theorem zACh(hz:Sz F)(hv:Valid F)(z:ArS t F W v2 v3 v4 v5 v6 v7 w1 w2 w3 w4 b6 b12)(hsl:Sl t v (ix ar))(har:Ar F W (a:Int) ar)(hI1:∀t',Sub t t'->(k:Int)<F.lf->∃m',m'<m1/\I1 [.int .i64 ((k+1:Nat):Int)] t' m')(hI0:∃m',m'<m0/\I0 [.int .i64 ((a+1:Nat):Int)] t m')(hal:(a:Int)<F.lf):
  qBp XX (.ptr b6 0) (.ptr b12 0) (.int .i64 (a:Int)) v (.int .i64 (k:Int)) I1 m1 I0 m0 K t:=by
 have zf:=qHf hv;have hsz:=zf.sz;have hsp:=zf.lk.sp;have haL:=qNk zf har;unfold qBp;refine qAA (a:=.ptr b6 0) rfl (qAA (a:=.int .i64 F.lf) (by rw[qAK z.h6];rfl) ?_);rw[qAP,qAB];refine qAJ (λc=>?_) (λc=>?_)
 rotate_left
 ·rw[qAN,qAB,qAb (by omega) (by omega)]
  exact hI0
 have c:=oT c;refine qK0 hsl.frz haL ?_;intro _;have kc:Sub t (cutH [(t,(add t (AM.frz t)))] (add t (AM.frz t))):=FC.cut1 (.refl t);refine qAA (qAU (kc _ _ z.h6) rfl) (qAA (qAU (kc _ _ z.h12) rfl) ?_);have ka:Sub t (add t (AM.frz t)):=qGy;generalize add t (AM.frz t)=T at ka;have zT:=z.sub ka;have cont:∀{t':Hq},Sub t t'->oK (qAG .add (.int .i64 (k:Int)) (.int .i64 1)) λv_54=>∃m',m'<m1/\I1 [v_54] t' m':=fun {t'} kt=>by rw[qAN,qAB,qAb (by omega) (by omega)];exact hI1 t' kt c
 refine qOi hz hv zT.fb zT.wr λv36 s37 ar' k37 hsl' har'=>qK0 hsl' (qNk zf har') ?_;refine qAA (eqBB (decide_eq_decide.2 (Ar.comm zf.lk har har'))) ?_;rw[qAD];have z37:=zT.sub k37;refine qK0 (hsl.sub (ka.trans k37)) haL ?_;refine qAJ (λd=>?_) (λd=>?_)
 ·have d':=oT d
  refine qAA (qAU z37.h6 rfl) (qAA (qAU z37.h12 rfl) ?_);refine qOi hz hv z37.fb z37.wr λv47 s48 ar2 k48 hsl2 har2=>?_;have e:=har.same zf.lk d' har2;subst e;refine qRO (hsl.sub ((ka.trans k37).trans k48)) hsl2 haL ?_;rw[qAe,qAB,d];refine qAA (a:=.bool false) rfl (qAA (a:=.bool false) rfl ?_);rw[qAD];exact cont ((ka.trans k37).trans k48)
 ·rw[d]
  refine qAA (a:=.bool false) rfl (qAA (a:=.bool false) rfl ?_);rw[qAD];exact cont (ka.trans k37)
theorem zACK{v8 x7:AV}(hz:Sz F)(hv:Valid F)(hW:WOk F W)(z:ArS t F W v2 v3 v4 v5 v6 v7 w1 w2 w3 w4 b6 b12)(hal:(a:Int)<F.lf)(hI0:∀t',Sub t t'->∃m',m'<m0/\I0 [.int .i64 ((a+1:Nat):Int)] t' m'):
  qAq XX v8 x7 (.bool true) (.ptr b6 0) (.ptr b12 0) (.int .i64 (a:Int)) I0 m0 K t:=by
 have zf:=qHf hv;have hsz:=zf.sz;have hsp:=zf.lk.sp;unfold qAq;refine qAA (a:=.ptr b6 0) rfl (qAA (a:=.int .i64 F.lf) (by rw[qAK z.h6];rfl) ?_);rw[qAP,qAB,decide_eq_true hal,qAF];refine qAA (qAU z.h6 rfl) (qAA (qAU z.h12 rfl) ?_);refine qOi hz hv z.fb z.wr λv20 s21 ar k21 hsl har=>qK0 hsl.frz (qNk zf har) ?_;intro _;have kc:Sub s21 (cutH [(s21,(add s21 (AM.frz s21)))] (add s21 (AM.frz s21))):=FC.cut1 (.refl s21);have zc:=(z.sub k21).sub kc;have ka:Sub s21 (add s21 (AM.frz s21)):=qGy;have hnd:=hW.nd;have hx:W.nd[a]?=some (W.nd[a]'(by omega)):=gE (by omega);obtain⟨pp,e1,e2⟩:=zc.Wl.nd.get (i:=a) (by rw[lM];omega);have e2:rd1 (cutH [(s21,(add s21 (AM.frz s21)))] (add s21 (AM.frz s21))) pp=some (.bool (W.nd[a]'(by omega))):=by rw[e2,List.getElem?_map,hx];rfl
 have hu:decide ((a:Int)∈ar)=W.nd[a]'(by omega):=by
  have q:upB F W (a:Int)=W.nd[a]'(by omega):=by unfold upB;rw[qUr,hx,decide_eq_true (by omega),decide_eq_true hal];rfl
  have:=har.self;rw[q]at this;cases e:W.nd[a]'(by omega)with
  |true=>exact decide_eq_true (this.2 e)
  |false=>exact decide_eq_false λm=>by have:=this.1 m;rw[e]at this;cases this
 refine qAA (a:=.ptr b12 0) rfl (qAA (a:=w1) (by rw[qAK zc.h12];rfl) (qAA e1 (qAA e2 (qAA (eqBB hu) ?_))));rw[qAD];have hsl':=hsl.sub ka;generalize add s21 (AM.frz s21)=T at ka hsl';have kT:=k21.trans ka;have zT:=z.sub kT;refine⟨λys t' m=>∃k:Nat,ys=[.int .i64 (k:Int)]/\(k:Int)<=F.lf/\m=F.lf.toNat-k/\Sub T t',⟨_,0,rfl,by omega,rfl,.refl _⟩,?_⟩;rintro f t' m ⟨k,hyy,hk,rfl,kt⟩;simp only[cI,and_true]at hyy;rw[hyy];refine zACh hz hv (zT.sub kt) (hsl'.sub kt) har (λt2 k2 hlt=>?_) (hI0 _ (kT.trans kt)) hal;exact⟨_,by omega,k+1,rfl,by omega,rfl,kt.trans k2⟩
end Go.AM.OR
set_option maxRecDepth 100000
namespace Go.AM.OR
open Go Go.Proofs Go.AM.TN
variable {K:AV→Hq→Prop} {s s' t U H:Hq} {v w got:AV} {vs:List AV} {F:FG} {W:WG} {a c i j k n b0 b6 b12 b31 bp:Nat} {h l sg a1:Int} {v2 v3 v4 v5 v6 v7 w1 w2 w3 w4:AV} {y:R4} {hd:List Hd} {ar:List Int} {q:Bool} {x:FC.Fr} {I5:List AV→Hq→Nat→Prop} {m5:Nat}
theorem qU6{A:Aq}(hv:Valid A.F)(hs:0<=A.sg)(hg:∃g,A.F.S[A.sg.toNat]?=some g/\A.h.2.2.1∈g.2):A.exp.length<=100000:=by
 have:=qRW (m:=(A.F.S.length:Int)) qY5 (λn hn=>by obtain⟨e,he,rfl⟩:=List.mem_map.1 hn;exact(zAAt hs hg e he).1) (by have:=(show SegOk A.F from hv 5 (by omega)).n;omega)
 rw[lM]at this;omega
def GotR(s:Hq)(got:AV)(F:FG)(W:WG)(i:Nat)(x:FC.Fr)(hd:List Hd)(y:R4):Prop:=
 (accO F W (i:Int) x=none/\got=.nilslc)∨∃l sg ar,accO F W (i:Int) x=some l/\att F W (i:Int)=some sg/\Ar F W l ar/\SlR 17 s got ((Aq.mk F W ar hd y sg x).exp.map ldC)
theorem qUb(e:accO F W h x=some l):entO F W h x=some l:=by
 unfold accO at e;split at e
 ·rename_i l' he
  split at e
  ·cases e;exact he
  ·cases e
 ·cases e
structure PoS(t U:Hq)(F:FG)(W:WG)(v2 v3 v4 v5 v6 v7 w1 w2 w3 w4:AV)(b0 b6 b12 b31 bp:Nat)(x:FC.Fr)(vs:List AV):Prop where
 z:ArS U F W v2 v3 v4 v5 v6 v7 w1 w2 w3 w4 b6 b12
 k:Sub U t
 up:U bp=none
 h0:U b0=some (false,.cells 48 (FC.frC x))
 h31:t b31=some (false,.cells 36 [w1,w2,.slc bp 0 vs.length none 1,w4])
 hp:t bp=some (false,.cells 32 vs)
 ne:b31≠bp
def qUw(U:Hq)(vs:List AV)(P:List (List Bool)):Prop:=vs.length=P.length/\∀(i:Nat) q r,vs[i]?=some q->P[i]?=some r->Sl U q (bs r)
theorem zAAK(hz:Sz F)(hv:Valid F)(hy:F.H[i]?=some y)(p:PoS t U F W v2 v3 v4 v5 v6 v7 w1 w2 w3 w4 b0 b6 b12 b31 bp x vs)(rw_:qUw U vs (ptK W F ar i k))(hk:F.lf<=(k:Int))(hH:SlR 3 U w (hd.map hdC))(hn:hd.length<=100000)(hent:entO F W (i:Int) x=some l)(har:Ar F W l ar)(hgot:GotR U got F W i x hd y)(hK:∀s',K (.bool true) s'):
  qAn XX (.int .i64 (i:Int)) (.ptr b0 0) (.bool true) (.ptr b6 0) (.ptr b12 0) v w got (.ptr b31 0) (.int .i64 (k:Int)) I5 m5 K t:=by
 have z:=p.z.sub p.k;unfold qAn;refine qAA (a:=.ptr b6 0) rfl (qAA (a:=.int .i64 F.lf) (by rw[qAK z.h6];rfl) ?_);rw[qAP,qAB,decide_eq_false (by omega),qAD,qAF];refine qAA (qAU z.h6 rfl) (qAA (qAU p.h31 rfl) (qAA (qAU (p.k _ _ p.h0) rfl) ?_));have hsl:Sl t (.slc bp 0 vs.length none 1) vs:=.inr ⟨bp,0,none,rfl,by simp,λ_=>⟨false,32,vs,p.hp,by omega,λj hj=>by rw[zAY]⟩⟩;have hWR:WR t [w1,w2,.slc bp 0 vs.length none 1,w4] (W.inP (ptK W F ar i k)):=⟨w1,w2,.slc bp 0 vs.length none 1,w4,rfl,z.Wl.nd,z.Wl.lk,⟨vs,hsl,rw_.1,λj q r a c=>(rw_.2 j q r a c).sub p.k⟩,z.Wl.wh⟩
 have hacc:accO F (W.inP (ptK W F ar i k)) (i:Int) x=accO F W (i:Int) x:=qZ9 λg sg e hg l hl=>by have:=((show SegOk F from hv 5 (by omega)).row g (mG hg)).2.1.1 l hl;exact qRb this.1 (.inr (zABj e hg hl))
 have hj:∀s2,qBH XX (.bool true) (.bool true) K s2:=λs2=>by unfold qBH;exact qAA rfl (hK _)
 refine qLm hz hv z.fb hWR (hH.sub p.k) hn hy (λe s2 k2=>?_) (λl' sg' ar' e1 e2 e3 r s2 k2 hr=>?_)
 ·rw[hacc]at e
  rcases hgot with⟨_,rfl⟩|⟨l0,_,_,q,_⟩
  ·exact qMW (L:=[]) ⟨by simp,.inl ⟨rfl,rfl⟩⟩ ⟨by simp,.inl ⟨rfl,rfl⟩⟩ (by simp) (hj _)
  ·rw[q]at e;cases e
 ·rw[hacc]at e1
  rcases hgot with⟨q,_⟩|⟨l0,sg0,ar0,q1,q2,q3,q4⟩
  ·rw[q]at e1;cases e1
  ·rw[q1]at e1
   cases e1;have e2:att F W (i:Int)=some sg':=e2;rw[q2]at e2;cases e2;have e3:Ar F W l' ar':=e3;have:=q3.uniq e3;subst this;have hl0:=qUb q1;rw[hent]at hl0;cases hl0;have:=q3.uniq har;subst this;have hc:=qU7 (A:=Aq.mk F W ar0 hd y sg' x) (W:=W.inP (ptK W F ar0 i k)) (λ_=>rfl) (λsg=>(qYh λl hl=>by have:=((q3.2 (q3.up hl)).2 l).1 hl;exact qRb this.1.1 (.inl hl)).symm)
   have hr:SlR 17 s2 r (((Aq.mk F W ar0 hd y sg' x).inW (W.inP (ptK W F ar0 i k))).exp.map ldC):=hr;rw[hc]at hr;obtain⟨x1,g,a1,a2,a3,a4,a5,a6⟩:=qIm q2;have a1':F.H[i]?=some x1:=a2;rw[hy]at a1';cases a1';exact qMW hr (q4.sub (p.k.trans k2)) (qU6 (A:=Aq.mk F W ar0 hd y sg' x) hv a4 ⟨g,a5,a6⟩) (hj _)
theorem qY4(hz:Sz F)(hv:Valid F)(hW:WOk F W)(hi:i<F.H.length)(p:PoS t U F W v2 v3 v4 v5 v6 v7 w1 w2 w3 w4 b0 b6 b12 b31 bp x vs)(rw_:qUw U vs (ptK W F ar i k))(hk:(k:Int)<F.lf)(hsl:Sl U v (ix ar))(hal:ar.length<=100000)
  (hI:∀t' vs',PoS t' U F W v2 v3 v4 v5 v6 v7 w1 w2 w3 w4 b0 b6 b12 b31 bp x vs'->qUw U vs' (ptK W F ar i (k+1))->∃m',m'<m5/\I5 [.int .i64 ((k+1:Nat):Int)] t' m') :
  qAn XX (.int .i64 (i:Int)) (.ptr b0 0) (.bool true) (.ptr b6 0) (.ptr b12 0) v w got (.ptr b31 0) (.int .i64 (k:Int)) I5 m5 K t:=by
 have zf:=qHf hv;have hsz:=zf.sz;have hsp:=zf.lk.sp;have z:=p.z.sub p.k;have hpt:=hW.pt.1;have hlen:vs.length=W.pt.length:=by rw[rw_.1];unfold ptK;rw[List.length_mapIdx]
 unfold qAn;refine qAA (a:=.ptr b6 0) rfl (qAA (a:=.int .i64 F.lf) (by rw[qAK z.h6];rfl) ?_);rw[qAP,qAB,decide_eq_true hk,qAF];refine qK0 (hsl.sub p.k) hal ?_;rw[qAe,qAB];have keep:∀{t':Hq}{t174 t180:AV},Sub t t'->qAR t174 t180 (.bool false)=some (.bool false)->¬((k:Int) ∉ ar/\shB F W i k=false)->qAp XX (.ptr b31 0) (.int .i64 (k:Int)) t174 t180 I5 m5 K t':=fun {t' t174 t180} k2 e hno=>by
  unfold qAp;refine qAA e ?_;rw[qAD];unfold qBJ;rw[qAN,qAB,qAb (by omega) (by omega)];refine hI t' vs ⟨p.z,p.k.trans k2,p.up,p.h0,k2 _ _ p.h31,k2 _ _ p.hp,p.ne⟩ ?_;have:ptK W F ar i (k+1)=ptK W F ar i k:=by
   refine List.ext_getElem? λj=>?_;rw[qNb,qNb]
   congr 1
   funext r
   by_cases c:j=k
   ·subst c
    rw[if_neg (λq=>hno q.2),if_neg (λq=>hno q.2)]
   ·have:j<k+1↔j<k:=by omega
    simp only[this]
  rw[this];exact rw_
 refine qAJ (λc=>?_) (λc=>?_)
 rotate_left
 ·have d:(k:Int)∈ar:=by simpa using c
  exact keep (.refl t) (by rw[c];rfl) λq=>q.1 d
 have d:(k:Int) ∉ ar:=by simpa using c
 refine qAA (qAU z.h6 rfl) (qAA (qAU z.h12 rfl) ?_);refine qV7 zf z.fb z.wr hW hi λs2 k2=>?_;rw[qAe,qAB];cases e:shB F W i k with
 |true=>exact keep k2 (by rw[c];rfl) λq=>by rw[e]at q;cases q.2
 | false=>
   unfold qAp;refine qAA (a:=.bool true) (by rw[c];rfl) ?_;rw[qAF];have h31:=k2 _ _ p.h31;have hp:=k2 _ _ p.hp;have hkl:k<vs.length:=by omega
   have e1:qAY 1 (.slc bp 0 vs.length none 1) (.int .i64 (k:Int))=some (.ptr bp k):=by
    have:Nat.blt k vs.length=true:=by rw[Nat.blt_eq];exact hkl
    simp[qAY,this]
   refine qAA (a:=.ptr b31 2) rfl (qAA (a:=.slc bp 0 vs.length none 1) (by rw[qAK h31];rfl) (qAA e1 (qBF hp hkl rfl λs3 h3 u3=>?_)));unfold qBJ;rw[qAN,qAB,qAb (by omega) (by omega)];refine hI s3 (vs.set k .nilslc) ⟨p.z,qAW (p.k.trans k2) u3 p.up,p.up,p.h0,by rw[u3 _ p.ne,List.length_set];exact h31,h3,p.ne⟩ ⟨by rw[List.length_set,hlen];unfold ptK;rw[List.length_mapIdx],λj q r a c=>?_⟩;rw[qNb]at c
   by_cases hj:j=k
   ·subst hj
    rw[List.getElem?_set_self hkl]at a;cases a;obtain⟨r0,_,c⟩:=Option.map_eq_some_iff.1 c;rw[if_pos ⟨by omega,d,e⟩]at c;subst c;exact .inl ⟨rfl,rfl⟩
   ·rw[List.getElem?_set_ne (λq=>hj q.symm)]at a
    refine rw_.2 j q r a ?_;rw[qNb,<- c]
    congr 1
    funext r
    have:j<k+1↔j<k:=by omega
    simp only[this]
end Go.AM.OR
set_option maxRecDepth 100000
namespace Go.AM.OR
open Go Go.Proofs Go.AM.TN
variable {K:AV→Hq→Prop} {s' t H:Hq} {v w got:AV} {vs:List AV} {F:FG} {W:WG} {a c i j k n b0 b6 b12 b31 bp:Nat} {l sg:Int} {v2 v3 v4 v5 v6 v7 w1 w2 w3 w4:AV} {y:R4} {hd:List Hd} {ar:List Int} {q:Bool} {x:FC.Fr} {I4:List AV→Hq→Nat→Prop} {m4:Nat} {L:List Lnd}
theorem zACl(hz:Sz F)(hv:Valid F)(z:ArS t F W v2 v3 v4 v5 v6 v7 w1 w2 w3 w4 b6 b12)(hsl:Sl t v (ix ar))(hal:ar.length<=100000)(hL:SlR 17 t got (L.map ldC))(hLn:L.length<=100000)(hin:∀e∈L,wthB F W e.1 ar=true)(hlt:k<L.length)
  (hI:∀t',Sub t t'->∃m',m'<m4/\I4 [.int .i64 ((k+1:Nat):Int)] t' m') :
  qAh XX (.int .i64 (i:Int)) (.ptr b0 0) (.bool true) (.ptr b6 0) (.ptr b12 0) v w got (.int .i64 (k:Int)) I4 m4 K t:=by
 unfold qAh;refine qAA (by rw[hL.len,lM]) ?_;rw[qAP,qAB,decide_eq_true (by omega),qAF];have hx:L[k]?=some L[k]:=gE hlt;generalize L[k]=e at hx;obtain⟨gb,go,f1,f2,f3⟩:=hL.get (i:=k) (r:=ldC e) (by rw[List.getElem?_map,hx];rfl);refine qAA (qAU z.h6 rfl) (qAA (qAU z.h12 rfl) (qAA f1 (qAA (a:=.ptr gb go) rfl (qAA (a:=.int .i64 e.1) ((f3 0 (by omega)).trans rfl) ?_))));have zf:=qHf hv;have hw:=hin e (mG hx);unfold wthB at hw;obtain⟨l,q1,q2⟩:=List.any_eq_true.1 hw;have hml:(mems F W e.1).length<=100000:=by
  unfold mems;split
  ·split
   ·rename_i g hg
    exact Nat.le_trans (List.length_filter_le _ _) (zf.S1 g (mG hg))
   ·simp
  ·simp
 refine qTH hz hv z.fb z.wr λv124 s125 k125 h124=>qXv h124 (hsl.sub k125) hml hal ⟨l,q1,oT q2⟩ ?_;rw[qAe,qAB,Bool.not_true,qAD,qAN,qAB,qAb (by omega) (by omega)];exact hI _ k125
theorem zAA1(hz:Sz F)(hv:Valid F)(hW:WOk F W)(hy:F.H[i]?=some y)(z:ArS t F W v2 v3 v4 v5 v6 v7 w1 w2 w3 w4 b6 b12)(h0:t b0=some (false,.cells 48 (FC.frC x)))(hsl:Sl t v (ix ar))(hL:SlR 17 t got (L.map ldC))(hLn:L.length<=100000)(hge:L.length<=k)
  (hH:SlR 3 t w (hd.map hdC)) (hn:hd.length<=100000) (hent:entO F W (i:Int) x=some l) (har:Ar F W l ar) (hgot:GotR t got F W i x hd y) (hK:∀s',K (.bool true) s') :
  qAh XX (.int .i64 (i:Int)) (.ptr b0 0) (.bool true) (.ptr b6 0) (.ptr b12 0) v w got (.int .i64 (k:Int)) I4 m4 K t:=by
 have zf:=qHf hv;have hsz:=zf.sz;have hsp:=zf.lk.sp;have hpl:=hW.pt.1;obtain⟨sg,hs,hlm⟩:=qH7 hent;have hup:=qL7.1 (qYT hv hs hlm);unfold qAh;refine qAA (by rw[hL.len,lM]) ?_;rw[qAP,qAB,decide_eq_false (by omega),qAD];refine qAA (qAU z.h12 rfl) (qAM λb31 s32 hb31 h32 u32=>qAT h32 rfl rfl z.Wl.all λs33 h33 u33=>?_);have h33:s33 b31=some (false,.cells 36 [w1,w2,w3,w4]):=h33;have k33:Sub t s33:=qAW (u32.sub hb31) u33 hb31;refine qAA (a:=[]) rfl ⟨rfl,qAM λb35 s36 hb35 h36 u36=>?_⟩;have k36:=u36.sub hb35;obtain⟨vs,p1,p2,p3⟩:=z.Wl.pt;have p1':=p1.sub (k33.trans k36);have hvl:0<vs.length:=by omega
 refine qAA (a:=.ptr b12 2) rfl (qAA (a:=w3) (by rw[qAK (k36 _ _ (k33 _ _ z.h12))];rfl) ?_);show appK 32 1 (.slc b35 0 0 (some 0) 1) w3 _ _;unfold appK;refine qAA p1'.rd (qAA p1'.len ⟨rfl,?_⟩);have hvn:∃n,vs.length=n+1:=⟨vs.length-1,by omega⟩
 obtain⟨n,hn1⟩:=hvn;rw[hn1];have hb:Nat.ble (0+(n+1)) 0=false:=by rw[zAY];rfl
 simp only[hb,cond_false];refine qAA (a:=[]) rfl ⟨by omega,qAM λbp s40 hbp h40 u40=>?_⟩;have k40:=u40.sub hbp;have hne:b31≠bp:=λe=>by subst e;rw[k36 _ _ h33]at hbp;cases hbp
 refine qAA (a:=.ptr b31 2) rfl (qBF (k40 _ _ (k36 _ _ h33)) (by show 2<4;omega) rfl λs42 h42 u42=>?_);have htb:t bp=none:=by
  cases e:t bp with
  |none=>rfl
  |some z=>rw[k36 _ _ (k33 _ _ e)]at hbp;cases hbp
 have k42:Sub t s42:=qAW ((k33.trans k36).trans k40) u42 hb31;have h42:s42 b31=some (false,.cells 36 [w1,w2,.slc bp 0 vs.length none 1,w4]):=by rw[h42,hn1,zAY];rfl
 have h40':s42 bp=some (false,.cells 32 vs):=by rw[u42 _ (Ne.symm hne)];exact h40
 have hrows:qUw t vs (ptK W F ar i 0):=⟨by unfold ptK;rw[List.length_mapIdx];exact p2,λj q r a c=>by rw[qNb]at c;obtain⟨r0,c1,c2⟩:=Option.map_eq_some_iff.1 c;rw[if_neg (by rintro ⟨q,_⟩;omega)]at c2;subst c2;exact p3 j q r0 a c1⟩
 have hiH:=(gS hy).1;refine⟨λys t' m=>∃(k:Nat) (vs:List AV),ys=[.int .i64 (k:Int)]/\(k:Int)<=F.lf/\m=F.lf.toNat-k/\PoS t' t F W v2 v3 v4 v5 v6 v7 w1 w2 w3 w4 b0 b6 b12 b31 bp x vs/\qUw t vs (ptK W F ar i k),⟨_,0,vs,rfl,by omega,rfl,⟨z,k42,htb,h0,h42,h40',hne⟩,hrows⟩,?_⟩;rintro f t' m ⟨k,vs',hyy,hk,rfl,po,ro⟩;simp only[cI,and_true]at hyy;rw[hyy]
 by_cases hlt:(k:Int)<F.lf
 ·refine qY4 hz hv hW hiH po ro hlt hsl (qNk zf har) λt2 vs2 po2 ro2=>?_
  exact⟨_,by omega,k+1,vs2,rfl,by omega,rfl,po2,ro2⟩
 ·exact zAAK hz hv hy po ro (by omega) hH hn hent har hgot hK
end Go.AM.OR
set_option maxRecDepth 100000
namespace Go.AM.OR
open Go Go.Proofs Go.AM.TN
variable {K:AV→Hq→Prop} {s s' t U H:Hq} {v w lv lw got:AV} {cs ws:List AV} {F:FG} {W:WG} {a c i k n b0 b6 b12:Nat} {h l sg a1:Int} {v2 v3 v4 v5 v6 v7 w1 w2 w3 w4:AV} {y:R4} {hd hd':List Hd} {ar:List Int} {x:FC.Fr} {I0 I3:List AV→Hq→Nat→Prop} {m0 m3:Nat} {L:List Lnd}
theorem FL.fz(h:FL t F v2 v3 v4 v5 v6 v7):FL (AM.frz t) F v2 v3 v4 v5 v6 v7:=⟨h.L.frz,h.T.frz,h.B.frz,qYF h.S,h.H.frz,h.G.frz⟩
theorem qYv:(lnL F W hd h y x).length<=hd.length+1:=by
 unfold lnL;cases accO F W h x with
 |none=>exact Nat.le_succ _
 |some l=>exact qZu.2
theorem zACc(hz:Sz F)(hv:Valid F)(hH8:F.H.length<=8)(z:ArS t F W v2 v3 v4 v5 v6 v7 w1 w2 w3 w4 b6 b12)(hH:SlR 3 t w (hd.map hdC))(hn:hd.length<=k)(hlt:k<F.H.length)
  (hI:∀t' w' (hd':List Hd),Sub t t'->SlR 3 t' w' (hd'.map hdC)->hd'.length<=k+1->∃m',m'<m3/\I3 [w',.int .i64 ((k+1:Nat):Int)] t' m') :
  qAo XX (.int .i64 (i:Int)) (.ptr b0 0) (.bool true) (.ptr b6 0) (.ptr b12 0) v w (.int .i64 (k:Int)) I3 m3 K t:=by
 have nlF:qAQ v6=some F.H.length:=by rw[z.L.H.len,lM]
 unfold qAo;refine qAA (a:=.ptr b6 6) rfl (qAA (a:=v6) (by rw[qAK z.h6];rfl) (qAA nlF ?_));rw[qAP,qAB,decide_eq_true (by omega),qAF];refine qAA (qAU z.h6 rfl) (qAA (qAU z.h12 rfl) (qAA (qAU z.h6 rfl) ?_));have hy:F.H[k]?=some F.H[k]:=gE hlt;generalize F.H[k]=y at hy;refine zABJ hz hv ⟨v2,v3,v4,v5,v6,v7,rfl,FL.fz z.L⟩ hy λs7 k7=>?_;intro _;have ka:Sub t (add t s7):=qGy;generalize add t s7=T at ka;have zT:=z.sub ka;refine qWX hz hv zT.fb zT.wr (hH.sub ka) (by omega) hy λv8 s9 k9 hG=>?_;rw[qAN,qAB,qAb (by omega) (by omega)];exact hI s9 v8 _ (ka.trans k9) hG (Nat.le_trans qYv (by omega))
theorem zABU(hz:Sz F)(hv:Valid F)(hW:WOk F W)(hy:F.H[i]?=some y)(z:ArS t F W v2 v3 v4 v5 v6 v7 w1 w2 w3 w4 b6 b12)(h0:t b0=some (false,.cells 48 (FC.frC x)))(hsl:Sl t v (ix ar))(hH:SlR 3 t w (hd.map hdC))(hn:hd.length<=100000)(hge:F.H.length<=k)
  (hent:entO F W (i:Int) x=some l) (har:Ar F W l ar) (hK:∀s',K (.bool true) s') :
  qAo XX (.int .i64 (i:Int)) (.ptr b0 0) (.bool true) (.ptr b6 0) (.ptr b12 0) v w (.int .i64 (k:Int)) I3 m3 K t:=by
 have nlF:qAQ v6=some F.H.length:=by rw[z.L.H.len,lM]
 have zf:=qHf hv;unfold qAo;refine qAA (a:=.ptr b6 6) rfl (qAA (a:=v6) (by rw[qAK z.h6];rfl) (qAA nlF ?_));rw[qAP,qAB,decide_eq_false (by omega),qAD];refine qAA (qAU z.h6 rfl) (qAA (qAU z.h12 rfl) (qAA (qAU h0 rfl) ?_));have fin:∀{got:AV}{s2:Hq}(L:List Lnd),Sub t s2->SlR 17 s2 got (L.map ldC)->L.length<=100000->(∀e∈L,wthB F W e.1 ar=true)->GotR s2 got F W i x hd y->∃I4:List AV->Hq->Nat->Prop,(∃m,I4 [(.int .i64 0)] s2 m)/\∀(f:Env) (s:Hq) (m4:Nat),I4 [f 21] s m4->
   qAh XX (.int .i64 (i:Int)) (.ptr b0 0) (.bool true) (.ptr b6 0) (.ptr b12 0) v w got (f 21) I4 m4 K s:=fun {got s2} L k2 hL hLn hin hg=>by
  refine⟨λys t' m=>∃k:Nat,ys=[.int .i64 (k:Int)]/\k<=L.length/\m=L.length-k/\Sub s2 t',⟨_,0,rfl,by omega,rfl,.refl _⟩,?_⟩;rintro f t' m ⟨k,hyy,hk,rfl,kt⟩;simp only[cI,and_true]at hyy;rw[hyy];have kk:=k2.trans kt
  by_cases hlt:k<L.length
  ·refine zACl hz hv (z.sub kk) (hsl.sub kk) (qNk zf har) (hL.sub kt) hLn hin hlt λt2 k3=>?_
   exact⟨_,by omega,k+1,rfl,by omega,rfl,kt.trans k3⟩
  ·refine zAA1 hz hv hW hy (z.sub kk) (kk _ _ h0) (hsl.sub kk) (hL.sub kt) hLn (by omega) (hH.sub kk) hn hent har ?_ hK
   rcases hg with g|⟨l0,sg0,ar0,g1,g2,g3,g4⟩
   ·exact .inl g
   ·exact .inr ⟨l0,sg0,ar0,g1,g2,g3,g4.sub kt⟩
 refine qLm hz hv z.fb z.wr hH hn hy (λe s2 k2=>?_) (λl' sg ar' e1 e2 e3 r s2 k2 hr=>?_)
 ·exact fin [] k2 ⟨by simp,.inl ⟨rfl,rfl⟩⟩ (by simp) (by simp) (.inl ⟨e,rfl⟩)
 ·have hl:=qUb e1
  rw[hent]at hl;cases hl;have:=e3.uniq har;subst this;obtain⟨x1,g,a1,a2,a3,a4,a5,a6⟩:=qIm e2;have a1':F.H[i]?=some x1:=a2;rw[hy]at a1';cases a1';obtain⟨sg',hs,hlm⟩:=qH7 hent;refine fin _ k2 hr (qU6 (A:=Aq.mk F W ar' hd y sg x) hv a4 ⟨g,a5,a6⟩) (zABC (A:=Aq.mk F W ar' hd y sg x) ?_) (.inr ⟨l,sg,ar',e1,e2,e3,hr⟩);exact qZo hent e2 har (qYT hv hs hlm)
theorem qZH(hz:Sz F)(hv:Valid F)(hW:WOk F W)(hH8:F.H.length<=8)(ha:-9223372036854775808<=a1/\a1<=9223372036854775807)(z0:FL U F v2 v3 v4 v5 v6 v7)(z1:WL U W w1 w2 w3 w4)(kU:Sub U t)(hU:U b0=none)(h6:t b6=some (false,.cells 31 (csG F v2 v3 v4 v5 v6 v7)))(h12:t b12=some (false,.cells 36 [w1,w2,w3,w4]))(h0:t b0=some (false,.cells 48 (FC.frC x)))(n6:b6≠b0)(n12:b12≠b0)
  (hk:F.lf<=(k:Int)) (hK:∀s',K (.bool true) s') :
  qAq XX (.int .i64 a1) (.ptr b0 0) (.bool true) (.ptr b6 0) (.ptr b12 0) (.int .i64 (k:Int)) I0 m0 K t:=by
 have Lt:=z0.sub kU;have nlF:qAQ v6=some F.H.length:=by rw[Lt.H.len,lM]
 unfold qAq;refine qAA (a:=.ptr b6 0) rfl (qAA (a:=.int .i64 F.lf) (by rw[qAK h6];rfl) ?_);rw[qAP,qAB,decide_eq_false (by omega),qAD];refine qAA (a:=.ptr b6 6) rfl (qAA (a:=v6) (by rw[qAK h6];rfl) (qAA nlF ?_));simp only[qAX,qAV,Bool.false_bne,qAB];refine qAJ (λc=>hK _) (λc=>?_);have c1:(F.H.length:Int)≠0:=by simpa using c
 refine qAA (a:=.ptr b6 6) rfl (qAA (a:=v6) (by rw[qAK h6];rfl) (qAA nlF ?_));refine qYH (n:=F.H.length) ha (by omega) (by omega) λi hi=>?_;have hy:F.H[i]?=some F.H[i]:=gE hi;generalize F.H[i]=y at hy;obtain⟨gb,go,f1,f2,f3⟩:=Lt.H.get (i:=i) (r:=hgC y) (by rw[List.getElem?_map,hy];rfl);refine qAA (a:=.ptr b6 6) rfl (qAA (a:=v6) (by rw[qAK h6];rfl) (qAA f1 (qAA (a:=.ptr gb go) rfl (qAA (a:=.int .u64 y.1) ((f3 0 (by omega)).trans rfl) (qAA (a:=.ptr b0 0) rfl (qBF h0 (by show 0<15;omega) rfl λs76 h76 u76=>?_))))));have h76:s76 b0=some (false,.cells 48 (FC.frC { x with src:=y.1 })):=h76;generalize({ x with src:=y.1 }:FC.Fr)=x' at h76;have k76:Sub U s76:=qAW kU u76 hU;have z:ArS s76 F W v2 v3 v4 v5 v6 v7 w1 w2 w3 w4 b6 b12:=⟨by rw[u76 _ n6];exact h6,by rw[u76 _ n12];exact h12,z0.sub k76,z1.sub k76⟩
 refine qAA (qAU z.h6 rfl) (qAA (qAU z.h12 rfl) (qAA (qAU h76 rfl) ?_));refine qXn hz hv z.fb z.wr λs81 k81=>?_;have z81:=z.sub k81;have h81:=k81 _ _ h76;cases he:entO F W (i:Int) x' with
 | none=>
   refine qAA (a:=.int .i64 0) rfl (qAA (a:=.bool false) rfl ?_);rw[qAe,qAB,Bool.not_false,qAF,qAF];refine qAA (qAU z81.h6 rfl) (qAA (qAU z81.h12 rfl) (qAA (qAU h81 rfl) ?_));refine qLm (hd:=[]) hz hv z81.fb z81.wr ⟨by simp,.inl ⟨rfl,rfl⟩⟩ (by simp) hy (λe s2 k2=>?_) (λl' sg ar' e1 e2 e3 r s2 k2 hr=>?_)
   ·exact hK _
   ·rw[qXe he]at e1;cases e1
 | some l=>
   refine qAA (a:=.int .i64 l) rfl (qAA (a:=.bool true) rfl ?_);rw[qAe,qAB,Bool.not_true,qAD];refine qAA (qAU z81.h6 rfl) (qAA (qAU z81.h12 rfl) ?_);refine qOi hz hv z81.fb z81.wr λv96 s97 ar k97 hsl har=>?_;have z97:=z81.sub k97;have h97:=k97 _ _ h81;refine⟨λys t' m=>∃(k:Nat) (w:AV) (hd:List Hd),ys=[w,.int .i64 (k:Int)]/\k<=F.H.length/\m=F.H.length-k/\Sub s97 t'/\SlR 3 t' w (hd.map hdC)/\hd.length<=k,⟨_,0,.nilslc,[],rfl,by omega,rfl,.refl _,⟨by simp,.inl ⟨rfl,rfl⟩⟩,by simp⟩,?_⟩;rintro f t' m ⟨k,w,hd,hyy,hk,rfl,kt,hH,hn⟩;simp only[cI,and_true]at hyy;rw[hyy.1,hyy.2]
   by_cases hlt:k<F.H.length
   ·refine zACc hz hv hH8 (z97.sub kt) hH hn hlt λt2 w' hd' k2 hH' hn'=>?_
    exact⟨_,by omega,k+1,w',hd',rfl,by omega,rfl,kt.trans k2,hH',hn'⟩
   ·exact zABU hz hv hW hy (z97.sub kt) (kt _ _ h97) (hsl.sub kt) hH (by omega) (by omega) he har hK
theorem OAr_in{L1 L2:List Int}(hl1:Sl s lv (L1.map (AV.int .i64)))(hn1:L1.length<=9223372036854775807)(hb1:∀x∈L1,-9223372036854775808<=x/\x<=9223372036854775807)(hl2:Sl s lw (L2.map (AV.int .i64)))(hn2:L2.length<=9223372036854775807)(hb2:∀x∈L2,-9223372036854775808<=x/\x<=9223372036854775807)
  (ha:-9223372036854775808<=a1/\a1<=9223372036854775807) (hK:∀s',K (.bool true) s'):wC TP XX 6 [lv,lw,.int .i64 a1,.agg (FC.frC x)] K s:=by
 refine qEK (boxN rfl λb0 s1 hb0 h1 u1=>qYp (.inl rfl) ?_);have k1:=u1.sub hb0;refine wC.part qAj k1 (qUt hl1 hn1 hb1 λt3 cs N k3 hN hNR hfv s3 kt3 out3=>?_);obtain⟨v2,v3,v4,v5,v6,v7,rfl,hL⟩:=hNR.fab;have hfv6:=hfv v6 rfl;have hv:=hN.valid;have hz:=hN.sz;have h1:s1 b0=some (false,.cells 48 (FC.frC x)):=h1;obtain⟨p3,q3⟩:=out3 b0 hb0 (by rw[h1];simp);rw[h1]at p3;have L3:=hL.sub kt3;refine qAM λb6 s7 hb6 h7 u7=>qAT h7 rfl rfl L3.all λs8 h8 u8=>?_;have h8:s8 b6=some (false,.cells 31 (csG N.toG v2 v3 v4 v5 v6 v7)):=h8;have k8:Sub s3 s8:=qAW (u7.sub hb6) u8 hb6;have g8:=k8 _ _ p3;generalize hF:N.toG=F at hL L3 h8 hv hz;have hHn:F.H.length<=8:=by rw[<- hF];have:=hN.Hn;show(N.H.mapIdx hgN).length<=8;rw[List.length_mapIdx];exact this
 have kt8:=kt3.trans k8;refine qAA (qAU h8 rfl) (wC.part qAj kt8 (qWR hv ⟨v2,v3,v4,v5,v6,v7,rfl,hL⟩ (λv e=>by have e:some v6=some v:=e;cases e;exact hfv6) k3 hl2 hn2 hb2 λt17 ws W k17 hW hWok s17 kt17 out17=>?_));obtain⟨w1,w2,w3,w4,rfl,hw⟩:=hW;obtain⟨p17,q17⟩:=out17 b0 q3 (by rw[g8];simp);have qb6:t3 b6=none:=by
  cases e:t3 b6 with
  |none=>rfl
  |some z=>rw[kt3 _ _ e]at hb6;cases hb6
 obtain⟨p17',q17'⟩:=out17 b6 qb6 (by rw[h8];simp);rw[g8]at p17;rw[h8]at p17';refine qAM λb12 s13 hb12 h13 u13=>qAT h13 rfl rfl hw.all λs14 h14 u14=>?_;have h14:s14 b12=some (false,.cells 36 [w1,w2,w3,w4]):=h14;have k14:Sub s17 s14:=qAW (u13.sub hb12) u14 hb12;have n6:b6≠b0:=λe=>by subst e;rw[p3]at hb6;cases hb6
 have n12:b12≠b0:=λe=>by subst e;rw[p17]at hb12;cases hb12
 have kt14:=kt17.trans k14;have hL17:=hL.sub k17;have z:ArS s14 F W v2 v3 v4 v5 v6 v7 w1 w2 w3 w4 b6 b12:=⟨k14 _ _ p17',h14,hL17.sub kt14,hw.sub kt14⟩
 have g14:=k14 _ _ p17;refine⟨λys t' m=>∃k:Nat,ys=[.int .i64 (k:Int)]/\m=F.lf.toNat-k/\Sub s14 t',⟨_,0,rfl,rfl,.refl _⟩,?_⟩;rintro f t' m ⟨k,hyy,rfl,kt⟩;simp only[cI,and_true]at hyy;rw[hyy]
 by_cases hlt:(k:Int)<F.lf
 ·refine zACK hz hv hWok (z.sub kt) hlt λt2 k2=>?_
  exact⟨_,by omega,k+1,rfl,rfl,kt.trans k2⟩
 ·have zt:=z.sub kt
  exact qZH hz hv hWok hHn ha hL17 hw (kt14.trans kt) q17 zt.h6 zt.h12 (kt _ _ g14) n6 n12 (by omega) hK
end Go.AM.OR
namespace Go.AM
open Go Go.Proofs
theorem OAr_wp(s:Hq)(xs:List AV)(h:ArgL TP s 40 [34,34,3,48] xs):wC TP XX 6 xs (λv _=>v=.bool true) s:=by obtain⟨a,b,c,e,rfl,h1,h2,h3,h4⟩:=zACP h;obtain⟨l1,q1,b1,n1⟩:=OR.arg_ints (d:=38) h1;obtain⟨l2,q2,b2,n2⟩:=OR.arg_ints (d:=38) h2;obtain⟨a1,rfl,w1⟩:=qZ3 (d:=39) Tryz.underlying3 h3;obtain⟨x,rfl⟩:=OR.arg_frame h4;exact OR.OAr_in q1 (Nat.le_trans n1 (by decide)) b1 q2 (Nat.le_trans n2 (by decide)) b2 (OR.wf64 w1) λ_=>rfl
end Go.AM
