/- Part E of the proof: see the last part. -/
import Derived.Test.YtfjeillpldnajaaGreatU2
import Derived.Test.YtfjeillpldnajaaGreatV2
import Derived.Test.YtfjeillpldnajaaGreatC
set_option linter.unusedVariables false
namespace Go.AM.SG
open Go Go.AM
theorem qZ8(n:Int):qBQ .u64 n=n % 18446744073709551616:=by simp only[qBQ];rw[qGD _ _ _ (by omega) (by omega)];split<;>omega
theorem qYz{n:Nat}(h:n<18446744073709551616):qBQ .u64 (n:Int)=n:=by rw[qZ8,Int.emod_eq_of_lt (by omega) (by omega)]
theorem qWB{a:Nat}(h:a<256):qDe .u64 (.int .u8 (a:Int))=some (.int .u64 (a:Int)):=by show some (AV.int .u64 (qBQ .u64 (a:Int)))=_;rw[qYz (by omega)]
end Go.AM.SG
namespace Go.AM.SG
open Go Go.AM Go.Proofs
section
variable (P : Program)
variable {P}
end
abbrev us(l:List Int):List AV:=l.map (AV.int .u32)
theorem qAt{s s':Hq}(k:Sub s s'){b:Nat}(h:s' b=none):s b=none:=by
 cases q:s b with
 |none=>rfl
 |some y=>rw[k _ _ q]at h;cases h
end Go.AM.SG
set_option maxRecDepth 100000
namespace Go.AM.FC
open Go Go.Proofs
variable {K:AV→Hq→Prop} {s s0:Hq} {v:AV} {l:List Int}
def xorW(x y:Int):Int:=qBQ .u32 ((BitVec.ofInt (IntKind.bits .u32) x ^^^ BitVec.ofInt (IntKind.bits .u32) y).toNat:Nat)
theorem qQs{x y:Int}:qAF .xor (.int .u32 x) (.int .u32 y)=some (.int .u32 (xorW x y)):=by simp[qAF,arith,qBx,xorW]
def hs1(h b:Int):Int:=IntKind.u32.wrap (xorW h (qBQ .u32 b)*16777619)
def hsh:Int->List Int->Int
 |h,[]=>h
 |h,b::r=>hsh (hs1 h b) r
theorem qW0(h:Int):∀(a b:List Int),hsh h (a++b)=hsh (hsh h a) b:=by
 intro a
 induction a generalizing h with
 |nil=>intro b;rfl
 |cons x r ih=>intro b;exact ih (hs1 h x) b
theorem qUn{h:Int}{i:Nat}(hi:i<l.length):hsh h (l.take (i+1))=hs1 (hsh h (l.take i)) l[i]:=by rw[List.take_add_one,gE hi,qW0];rfl
theorem cvI{k k':IntKind}{n:Int}:qDe k (.int k' n)=some (.int k (qBQ k n)):=rfl
def numB(v:Int):Nat->List Int
 | 0=>[]
 |n+1=>qBQ .u8 (v.fdiv ((2^(8*n):Nat):Int))::numB v n
theorem qEJ(v:Int):∀n,(numB v n).length=n
 | 0=>rfl
 |n+1=>by rw[numB,List.length_cons,qEJ v n]
theorem qZn{v:Int}{m:Nat}(hm:m<=64):qFd .shr (.int .u64 v) (.int .i64 (m:Int))=some (.int .u64 (v.fdiv ((2^m:Nat):Int))):=by show frc (v.fdiv ((2^(min m (IntKind.bits .u64)):Nat):Int)) (λn=>some (AV.int .u64 n))=_;rw[qBx,Nat.min_eq_left (show m<=IntKind.bits .u64 from hm)]
abbrev b8(l:List Int):List AV:=l.map (AV.int .u8)
theorem qXK{elem:TypeId}{s0 s s':Hq}{l:List AV}(h:Acc elem s0 s v l)(hs:Sub s s'):Acc elem s0 s' v l:=by
 rcases h with h|⟨b,h0,rfl,h⟩
 ·exact .inl h
 ·exact .inr ⟨b,h0,rfl,hs _ _ h⟩
theorem qSC{elem:TypeId}:Acc elem s0 s .nilslc (b8 []):=.inl ⟨rfl,rfl⟩
theorem qWi{z:AV}{x:Int}{C:AV->Hq->Prop}(hz:z.one=true)(h:Acc 5 s0 s v (b8 l))(hs:Sub s0 s)(hl:l.length<=1000)(hK:∀v' s',Acc 5 s0 s' v' (b8 (l ++ [x]))->Sub s0 s'->C v' s'):
  oK (qAr (repl 1 [z]) [(0,1,.int .u8 x)]) λc=>qAW c=true/\newK 5 c (λb s'=>appK 5 1 v (.slc b 0 1 (some 1) 1) C s') s:=by
 refine qDQ hz rfl λb s1 hb h1 u1=>?_;have k1:=hs.trans (u1.sub hb);refine(qXK h (u1.sub hb)).app (m:=[.int .u8 x]) (Sl.mk h1 rfl (by simp)) (by simp) (by simp;omega) (λi hi=>?_) λv' s' a k=>?_
 ·cases e:s0 i with
  |none=>exact absurd e hi
  |some y=>rw[k1 _ _ e];simp
 ·refine hK v' s' (by rw[b8,List.map_append];exact a) λi e hi=>k i e (k1 i e hi) λb' hv=>?_
  rintro rfl;rcases h with⟨rfl,_⟩|⟨b2,h0,rfl,_⟩
  ·cases hv
  ·cases hv
   rw[h0]at hi;cases hi
theorem qJY{n:Int}{k:Nat}(hk:k<=8)(h:Acc 5 s0 s v (b8 l))(hs:Sub s0 s)(hl:l.length<=500)(hK:∀v' s',Acc 5 s0 s' v' (b8 (l++numB n k))->Sub s0 s'->K v' s'):wC TP XX 112 [v,.int .u64 n,.int .i64 (k:Int)] K s:=by
 refine qKx ?_;simp only[qJc,qC0,qAB];rw[qAc (by omega) (by omega)];refine⟨λys t m=>∃(w:AV) (l1:List Int) (j:Nat),ys=[w,.int .i64 ((j:Int)-1)]/\Acc 5 s0 t w (b8 l1)/\Sub s0 t/\j<=k/\m=j/\l1.length+j=l.length+k/\l++numB n k=l1++numB n j,⟨_,v,l,k,rfl,h,hs,by omega,rfl,rfl,rfl⟩,?_⟩;rintro f t m ⟨w,l1,j,hy,h1,k1,hj,rfl,he,hq⟩;simp only[cI,and_true]at hy;rw[hy.1,hy.2];simp only[qHG,qBH,qAB];refine qAI (λhge=>?_) (λhlt=>?_)
 ·have hge:0<=(m:Int)-1:=oT hge
  obtain⟨j,rfl⟩:∃j,m=j+1:=⟨m-1,by omega⟩
  have e8:(8:Int)*(((j+1:Nat):Int)-1)=((8*j:Nat):Int):=by omega
  simp only[qNu,qAB];rw[qAc (by omega) (by omega),e8,qZn (by omega)];simp only[cvI,qAB];refine qWi rfl h1 k1 (by omega) λv' s' a q=>?_;simp only[qC0,qAB];rw[qAc (by omega) (by omega)];exact⟨j,by omega,_,_,j,by congr 3;omega,a,q,by omega,rfl,by simp;omega,by rw[hq,numB,List.append_assoc];rfl⟩
 ·have hlt:¬(0<=(m:Int)-1):=oF hlt
  have:m=0:=by omega
  subst this;refine hK _ _ ?_ k1;rw[hq];simpa [numB]using h1
theorem qXA(h:Sl s v (b8 l))(hl:l.length<=1000)(hK:K (.int .u32 (hsh 2166136261 l)) s):wC TP XX 113 [v] K s:=by
 refine qFY ?_;unfold qDt;have n1:qAQ v=some l.length:=by rw[h.len,lM]
 simp only[n1,qAB];refine⟨λys t m=>∃i:Nat,ys=[.int .u32 (hsh 2166136261 (l.take i)),.int .i64 (i:Int)]/\t=s/\i<=l.length/\m=l.length-i,⟨_,0,rfl,rfl,by omega,rfl⟩,?_⟩;rintro f t m ⟨i,hy,rfl,hi,rfl⟩;simp only[cI,and_true]at hy;rw[hy.1,hy.2];simp only[qDE,qAR,qAB];refine qAI (λhlt=>?_) (λhge=>?_)
 ·have hlt:i<l.length:=by have:=oT hlt;omega
  obtain⟨p,e1,e2⟩:=h.get (i:=i) (by rw[lM];exact hlt);rw[List.getElem?_map,gE hlt]at e2;simp only[e1,e2,Option.map_some,cvI,qQs,qNu,qAN,qAB];rw[qAc (by omega) (by omega)];exact⟨_,by omega,i+1,by rw[qUn hlt];rfl,(by trivial),by omega,rfl⟩
 ·have hge:i=l.length:=by have:=oF hge;omega
  subst hge;rw[List.take_length];exact hK
end Go.AM.FC
set_option maxRecDepth 100000
namespace Go.AM.FC
open Go Go.Proofs Go.AM.TN
variable {K:AV→Hq→Prop} {s s' s0:Hq} {v:AV} {l:List Int}
theorem fill_one{zs c:List AV}(h:c.length=zs.length):qAr (repl 1 zs) [(0,zs.length,.agg c)]=some c:=by
 have e0:repl 1 zs=zs:=by simp[repl]
 rw[e0];have e2:Nat.beq c.length zs.length=true:=by rw[h];exact Nat.beq_refl _
 have e3:Nat.ble (0+c.length) zs.length=true:=bL (by omega);simp only[qAr,qGu,e2,e3,Bool.and_self,cond_true];unfold qA3;rw[List.take_zero,List.nil_append,List.drop_eq_nil_of_le (by omega),List.append_nil]
theorem one_row{es:Nat}{e:TypeId}{b:Nat}{t:Bool}{r:List AV}(h:s b=some (t,.cells e r))(hl:r.length=es):SlR es s (.slc b 0 1 (some 1) es) [r]:=
 SlR.mk (λx hx=>by rw[List.mem_singleton.1 hx];exact hl) (by simpa using h) rfl (λc e=>by cases e;simp)
structure Fr where
 src:Int
 dst:Int
 kind:Int
 a3:Int
 a4:Int
 a5:Int
 a6:Int
 a7:Int
 hs:Int
 hd:Int
 a10:Int
 pr:Int
 p1:Int
 p2:Int
 data:Int
def frC(x:Fr):List AV:=[.int .u64 x.src,.int .u64 x.dst,.int .i64 x.kind,.int .i64 x.a3,.int .u64 x.a4,.int .u32 x.a5,.int .u64 x.a6,.int .u32 x.a7,.int .u32 x.hs,.int .u32 x.hd,.int .i64 x.a10,.int .i64 x.pr,.int .i64 x.p1,.int .i64 x.p2,.int .u64 x.data]
def flwI(x:Fr):List Int:=numB (qBQ .u64 x.hs) 4++numB (qBQ .u64 x.hd) 4++numB (qBQ .u64 x.pr) 1++numB (qBQ .u64 x.p1) 2++numB (qBQ .u64 x.p2) 2
def flwE(x:Fr):List Int:=numB x.src 6++numB x.dst 6++numB (qBQ .u64 x.kind) 1
def flw(x:Fr):List Int:=if x.kind=2 then flwI x else flwE x
theorem qUx(x:Fr):(flwI x).length=13:=by simp only[flwI,lAp,qEJ]
theorem qVQ(x:Fr):(flwE x).length=13:=by simp only[flwE,lAp,qEJ]
def ent(x:Fr):Int:=IntKind.i64.wrap (49152+qBQ .i64 ((hsh 2166136261 (flw x)).tmod 16384))
variable {x:Fr}
theorem qRu{X:AV->Hq->Prop}(hf:Acc 5 s0 s v (b8 (flw x)))(hl:(flw x).length<=1000)(hX:X (.int .i64 (ent x)) s):qBP XX v X s:=by unfold qBP;refine qXA hf.sl hl ?_;simp only[qGr (show(16384:Int)≠0 by decide),cvI,qAN,qAB];exact hX
theorem qSl(x:Fr):(flw x).length=13:=by unfold flw;split;exact qUx x;exact qVQ x
theorem Entropy_in(hK:∀s',Sub s s'->K (.int .i64 (ent x)) s'):wC TP XX 88 [.agg (frC x)] K s:=by
 refine qIC ⟨rfl,qAM λb s1 hb h1 u1=>?_⟩;have k1:=u1.sub hb;have h1:s1 b=some (false,.cells 48 (frC x)):=h1;have r2:rd1 s1 (.ptr b 2)=some (.int .i64 x.kind):=by rw[qAJ h1];rfl
 simp only[qAG,zA,qAB,r2,qAb,qAZ,Bool.false_bne];cases q:(x.kind == 2)with
 | true=>
   have q:x.kind=2:=eq_of_beq q;simp only[qAH];refine qAA (a:=[.int .u32 x.hs,.int .u32 x.hd,.int .i64 x.a10,.int .i64 x.pr,.int .i64 x.p1,.int .i64 x.p2]) (by simp only[rdN,h1];rfl) (qAM λc s13 hc h13 u13=>qAS h13 rfl rfl rfl λs14 h14 u14=>?_);have k14:Sub s1 s14:=qAY (u13.sub hc) u14 hc;have rd:∀{t:Hq},Sub s14 t->∀i,rd1 t (.ptr c i)=[AV.int .u32 x.hs,.int .u32 x.hd,.int .i64 x.a10,.int .i64 x.pr,.int .i64 x.p1,.int .i64 x.p2][i]?:=λk i=>qAJ (k _ _ h14);have g:∀{t:Hq}{w:AV}{l:List Int},Acc 5 s14 t w (b8 l)->Sub s14 t->flw x=l->qBP XX w K t:=fun {t w l} a k e=>by subst e;exact qRu a (by rw[qSl];omega) (hK _ (k1.trans (k14.trans k)))
   simp only[qAB,rd (.refl _),g0Y,cvI];refine qJY (k:=4) (by omega) qSC (.refl _) (by simp) λw4 s4 a4 k4=>?_;simp only[qAB,rd k4,g1Y,g0Y,cvI];refine qJY (k:=4) (by omega) a4 k4 (by simp[qEJ]) λw5 s5 a5 k5=>?_;simp only[qAB,rd k5,g1Y,g0Y,cvI];refine qJY (k:=1) (by omega) a5 k5 (by simp[qEJ]) λw6 s6 a6 k6=>?_;simp only[qAB,rd k6,g1Y,g0Y,cvI];refine qJY (k:=2) (by omega) a6 k6 (by simp[qEJ]) λw7 s7 a7 k7=>?_;simp only[qAB,rd k7,g1Y,g0Y,cvI];refine qJY (k:=2) (by omega) a7 k7 (by simp[qEJ]) λw8 s8 a8 k8=>?_;exact g a8 k8 (by unfold flw;rw[if_pos q];rfl)
 | false=>
   have q:¬x.kind=2:=by simpa using q
   simp only[qAE];have rd:∀{t:Hq},Sub s1 t->∀i,rd1 t (.ptr b i)=(frC x)[i]?:=λk i=>qAJ (k _ _ h1);have g:∀{t:Hq}{w:AV}{l:List Int},Acc 5 s1 t w (b8 l)->Sub s1 t->flw x=l->qBP XX w K t:=fun {t w l} a k e=>by subst e;exact qRu a (by rw[qSl];omega) (hK _ (k1.trans k))
   simp only[qAB,rd (.refl _),frC,g0Y];refine qJY (k:=6) (by omega) qSC (.refl _) (by simp) λw4 s4 a4 k4=>?_;simp only[qAB,rd k4,frC,g1Y,g0Y];refine qJY (k:=6) (by omega) a4 k4 (by simp[qEJ]) λw5 s5 a5 k5=>?_;simp only[qAB,rd k5,frC,g1Y,g0Y,cvI];refine qJY (k:=1) (by omega) a5 k5 (by simp[qEJ]) λw6 s6 a6 k6=>?_;exact g a6 k6 (by unfold flw;rw[if_neg q];rfl)
end Go.AM.FC
namespace Go.AM.OR
open Go.AM.TN
abbrev BCM:Int:=281474976710655
abbrev Lnd:=Int×Int×FC.Fr
structure Aq where
 F:FG
 W:WG
 ar:List Int
 hd:List Hd
 h:R4
 sg:Int
 x:FC.Fr
variable (A : Aq)
def bdA(F:FG)(i:Int):BG:=(F.B[i.toNat]?).getD (0,0,0,0,0,0)
def Aq.d:BG:=bdA A.F A.h.2.2.1
def Aq.tn:Int:=A.d.1
def Aq.supP(i:Nat):Bool:=match A.F.H[i]? with
 |some y=>(y.2.2.1 == A.h.2.2.1)&&((y.2.1 == A.x.a7)&&knw A.F A.W A.ar A.hd (i:Int) true)
 |none=>false
def macA(F:FG)(i:Nat):Int:=match F.H[i]? with
 |some y=>y.1
 |none=>0
variable {A}
theorem qVb{F:FG}{W:WG}{h sg:Int}(q:att F W h=some sg):∃x g,0<=h/\F.H[h.toNat]?=some x/\W.wh[h.toNat]?=some sg/\0<=sg/\F.S[sg.toNat]?=some g/\x.2.2.1∈g.2:=by
 unfold att at q;split at q
 ·rename_i h0
  split at q
  ·rename_i x sg' hx hw
   split at q
   ·rename_i h1
    split at q
    ·rename_i g hg
     split at q
     ·rename_i hm
      cases q;exact⟨x,g,h0,hx,hw,h1,hg,hm⟩
     ·cases q
    ·cases q
   ·cases q
  ·cases q
 ·cases q
end Go.AM.OR
namespace Go.AM.OR
open Go.AM.TN
theorem asc1{y:Lnd}:(([y]:List Lnd).map (·.1)).Pairwise (· < ·):=by simp
end Go.AM.OR
set_option maxRecDepth 100000
namespace Go.AM.OR
open Go Go.Proofs Go.AM.TN
variable {K:AV→Hq→Prop} {s s' H:Hq} {v:AV} {cs:List AV} {F:FG} {W:WG} {b c i k:Nat} {h l sg:Int} {tg:Bool} {R:AV→Prop} {x:AV}
abbrev bs(l:List Bool):List AV:=l.map AV.bool
def PtR(s:Hq)(v:AV)(P:List (List Bool)):Prop:=∃vs:List AV,Sl s v vs/\vs.length=P.length/\∀(i:Nat) q r,vs[i]?=some q->P[i]?=some r->Sl s q (bs r)
theorem PtR.sub{P:List (List Bool)}(h:PtR s v P)(k:Sub s s'):PtR s' v P:=by obtain⟨vs,h1,h2,h3⟩:=h;exact⟨vs,h1.sub k,h2,λi q r a c=>(h3 i q r a c).sub k⟩
theorem PtR.at{P:List (List Bool)}{r:List Bool}(h:PtR s v P)(hr:P[i]?=some r):∃p q,qAU 1 v (.int .i64 (i:Int))=some p/\rd1 s p=some q/\Sl s q (bs r):=by obtain⟨vs,h1,h2,h3⟩:=h;have hi:=(gS hr).1;obtain⟨p,e1,e2⟩:=h1.get (i:=i) (by omega);have hq:vs[i]?=some vs[i]:=gE (by omega);exact⟨p,vs[i],e1,e2.trans hq,h3 i _ r hq hr⟩
structure WL(s:Hq)(W:WG)(w1 w2 w3 w4:AV):Prop where
 nd:Sl s w1 (bs W.nd)
 lk:Sl s w2 (bs W.lk)
 pt:PtR s w3 W.pt
 wh:Sl s w4 (ix W.wh)
theorem WL.sub{w1 w2 w3 w4:AV}(h:WL s W w1 w2 w3 w4)(k:Sub s s'):WL s' W w1 w2 w3 w4:=⟨h.nd.sub k,h.lk.sub k,h.pt.sub k,h.wh.sub k⟩
def stC(F:FG)(v2 v3 v4 v5 v6 v7 w1 w2 w3 w4:AV):List AV:=csG F v2 v3 v4 v5 v6 v7 ++ [w1,w2,w3,w4]
def St(s:Hq)(b:Nat)(F:FG)(W:WG):Prop:=∃tg v2 v3 v4 v5 v6 v7 w1 w2 w3 w4,s b=some (tg,.cells 136 (stC F v2 v3 v4 v5 v6 v7 w1 w2 w3 w4))/\FL s F v2 v3 v4 v5 v6 v7/\WL s W w1 w2 w3 w4
theorem St.sub(h:St s b F W)(k:Sub s s'):St s' b F W:=by obtain⟨tg,v2,v3,v4,v5,v6,v7,w1,w2,w3,w4,h1,h2,h3⟩:=h;exact⟨tg,v2,v3,v4,v5,v6,v7,w1,w2,w3,w4,k _ _ h1,h2.sub k,h3.sub k⟩
theorem qGN(hb:s b=some (tg,.cells 136 cs))(hx:cs[k]?=some x)(hR:R x):oK (qAT (.ptr b 0)) λa=>oK (qAC 0 a) λa=>oK (qAC k a) λa=>oK (rd1 s a) R:=
 qAA (a:=.ptr b 0) rfl (qAA (a:=.ptr b 0) rfl (qAA (a:=.ptr b k) (by rw[qAG,zA]) (qAA (by rw[qAJ hb];exact hx) hR)))
theorem qIj(hb:s b=some (tg,.cells 136 cs))(hx:cs[19+k]?=some x)(hR:R x):oK (qAT (.ptr b 0)) λa=>oK (qAC 19 a) λa=>oK (qAC k a) λa=>oK (rd1 s a) R:=
 qAA (a:=.ptr b 0) rfl (qAA (a:=.ptr b 19) rfl (qAA (a:=.ptr b (19+k)) (by rw[qAG]) (qAA (by rw[qAJ hb];exact hx) hR)))
theorem qHr(h:0<=l):∃i:Nat,l=(i:Int):=⟨l.toNat,by omega⟩
theorem qYP{bl:List Bool}(hi:i<bl.length):onB bl (i:Int)=bl[i]:=by rw[qW1,gE hi];rfl
theorem qXW{bl:List Bool}(h:l<0):onB bl l=false:=by unfold onB;rw[decide_eq_false (by omega)];rfl
theorem qYl{bl:List Bool}(h0:0<=l)(h:(bl.length:Int)<=l):onB bl l=false:=by unfold onB;rw[List.getElem?_eq_none (by omega),Option.getD_none,Bool.and_false]
theorem qRf{bl:List Bool}(hs:Sl s v (bs bl))(hK:K (.bool (onB bl l)) s):wC TP XX 73 [v,.int .i64 l] K s:=by
 refine qJ8 ?_;unfold qJR;rw[qBH,qAB];have nl:qAQ v=some bl.length:=by rw[hs.len];simp
 have fin:∀{t11:AV}{a:Bool},qAO (.bool a) t11 (.bool false)=some (.bool false)->onB bl l=false->qCl XX v (.int .i64 l) (.bool a) t11 K s:=fun {t11 a} e q=>by unfold qCl;refine qAA e ?_;rw[qAE];unfold qDP;refine qAA (a:=.bool false) rfl ?_;rw[<- q];exact hK
 cases c:decide (0<=l)with
 |false=>rw[qAE];exact fin rfl (qXW (by have:=oF c;omega))
 | true=>
   have h0:=oT c;rw[qAH];refine qAA nl ?_;rw[qAR,qAB];cases d:decide (l<(bl.length:Int))with
   |false=>exact fin rfl (qYl h0 (by have:=oF d;omega))
   | true=>
     have hl:=oT d;obtain⟨i,rfl⟩:=qHr h0;unfold qCl;refine qAA (a:=.bool true) rfl ?_;rw[qAH];have hi:i<bl.length:=by omega
     obtain⟨pp,g1,g2⟩:=hs.get (i:=i) (by simpa using hi);refine qAA g1 (qAA (a:=.bool bl[i]) (by rw[g2];simp[hi]) ?_);unfold qDP;refine qAA (a:=.bool bl[i]) rfl ?_;rw[<- qYP hi];exact hK
theorem qVH{y:RLk}(hS:St s b F W)(hy:F.L[i]?=some y)(hK:∀s',Sub s s'->K (.bool (works F W i)) s'):wC TP XX 67 [.ptr b 0,.int .i64 (i:Int)] K s:=by
 obtain⟨tg,v2,v3,v4,v5,v6,v7,w1,w2,w3,w4,h1,h2,h3⟩:=hS;refine qFP (qGN h1 (x:=v2) rfl ?_);obtain⟨pb,po,e1,e2,e3⟩:=h2.L.get (i:=i) (r:=lkC y) (by rw[List.getElem?_map,hy];rfl);refine qAA e1 (qAA e2 (qAM λb6 s7 hb6 h7 u7=>qAS h7 rfl rfl rfl λs8 h8 u8=>?_));have k8:Sub s s8:=qAY (u7.sub hb6) u8 hb6;have h18:=k8 _ _ h1;have h38:=h3.sub k8;have h8:s8 b6=some (false,.cells 91 (lkC y)):=h8;have fin:=hK s8 k8;have ew:works F W i=(onB W.lk (i:Int)&&(onB W.nd y.1&&onB W.nd y.2.1)):=by unfold works;rw[hy]
 rw[ew]at fin;refine qIj h18 (x:=w2) rfl (qRf h38.lk ?_);have j1:∀{t31 t39:AV}{a:Bool},qAO t31 t39 (.bool false)=some (.bool a)->(onB W.lk (i:Int)&&(onB W.nd y.1&&onB W.nd y.2.1))=a->qBd XX t31 t39 K s8:=fun {t31 t39 a} e q=>by unfold qBd;refine qAA e ?_;rw[<- q];exact fin
 cases c1:onB W.lk (i:Int)with
 | false=>
   rw[qAE];unfold qBY;refine qAA (a:=.bool false) rfl ?_;rw[qAE];exact j1 rfl (by rw[c1];rfl)
 | true=>
   rw[qAH];refine qIj h18 (x:=w1) rfl (qAA (a:=.ptr b6 0) rfl (qAA (a:=.int .i64 y.1) (by rw[qAJ h8];rfl) (qRf h38.nd ?_)));unfold qBY;refine qAA (a:=.bool (onB W.nd y.1)) rfl ?_;cases c2:onB W.nd y.1 with
   | false=>
     rw[qAE];exact j1 rfl (by rw[c1,c2];rfl)
   | true=>
     rw[qAH];refine qIj h18 (x:=w1) rfl (qAA (a:=.ptr b6 1) rfl (qAA (a:=.int .i64 y.2.1) (by rw[qAJ h8];rfl) (qRf h38.nd ?_)));exact j1 (a:=onB W.nd y.2.1) rfl (by rw[c1,c2];rfl)
theorem qZC{P:List (List Bool)}(h:PtR s v P):qAQ v=some P.length:=by obtain⟨vs,h1,h2,_⟩:=h;rw[h1.len,h2]
theorem qWT(hS:St s b F W)(hK:K (.bool (qNj W l sg)) s):wC TP XX 92 [.ptr b 0,.int .i64 l,.int .i64 sg] K s:=by
 obtain⟨tg,v2,v3,v4,v5,v6,v7,w1,w2,w3,w4,h1,h2,h3⟩:=hS;refine qFz ?_;unfold qD8;rw[qBH,qAB];have fin:∀{t17:AV}{a:Bool},qAO (.bool a) t17 (.bool false)=some (.bool false)->qNj W l sg=false->qBF XX (.ptr b 0) (.int .i64 l) (.int .i64 sg) (.bool a) t17 K s:=fun {t17 a} e q=>by unfold qBF;refine qAA e ?_;rw[qAE];unfold qBm;refine qAA (a:=.bool false) rfl ?_;rw[<- q];exact hK
 cases c:decide (0<=l)with
 |false=>rw[qAE];exact fin rfl (by unfold qNj;rw[c];rfl)
 | true=>
   have h0:=oT c;obtain⟨i,rfl⟩:=qHr h0;rw[qAH];refine qIj h1 (x:=w3) rfl (qAA (qZC h3.pt) ?_);rw[qAR,qAB];cases d:decide ((i:Int)<(W.pt.length:Int))with
   | false=>
     refine fin rfl ?_;unfold qNj;have:(i:Int).toNat=i:=by omega
     rw[this,List.getElem?_eq_none (by have:=oF d;omega),Bool.and_false]
   | true=>
     have hi:i<W.pt.length:=by have:=oT d;omega
     have hr:W.pt[i]?=some W.pt[i]:=gE hi;obtain⟨pp,q,g1,g2,g3⟩:=h3.pt.at hr;unfold qBF;refine qAA (a:=.bool true) rfl ?_;rw[qAH];refine qIj h1 (x:=w3) rfl (qAA g1 (qAA g2 (qRf g3 ?_)));unfold qBm;refine qAA (a:=.bool (onB W.pt[i] sg)) rfl ?_;have e:qNj W (i:Int) sg=onB W.pt[i] sg:=by
      unfold qNj;have:(i:Int).toNat=i:=by omega
      rw[this,hr,c,Bool.true_and]
     rw[<- e];exact hK
theorem qNK(hS:St s b F W)(hK:K (.bool (decide (0<=h)&&decide (h<(F.H.length:Int)))) s):wC TP XX 56 [.ptr b 0,.int .i64 h] K s:=by
 obtain⟨tg,v2,v3,v4,v5,v6,v7,w1,w2,w3,w4,h1,h2,h3⟩:=hS;refine qGF ?_;unfold qD9;rw[qBH,qAB];have nl:qAQ v6=some F.H.length:=by rw[h2.H.len,lM]
 cases c:decide (0<=h)with
 | false=>
   rw[c,Bool.false_and]at hK;rw[qAE];unfold qBn;exact qAA (a:=.bool false) rfl hK
 | true=>
   rw[c,Bool.true_and]at hK;rw[qAH];refine qGN h1 (x:=v6) rfl (qAA nl ?_);rw[qAR,qAB];unfold qBn;exact qAA (a:=.bool _) rfl hK
def SmS(F:FG):Prop:=∀x∈F.S,x.1.length<=4294967296/\x.2.length<=4294967296
theorem qXx(hq:¬(0<=h/\h<(F.H.length:Int))):att F W h=none:=by
 unfold att;split
 ·rename_i h0
  rw[List.getElem?_eq_none (by omega)]
 ·rfl
theorem qLN(hz:SmS F)(hS:St s b F W)(hK:∀s',Sub s s'->K (.tup [.int .i64 ((att F W h).getD 0),.bool (att F W h).isSome]) s'):wC TP XX 40 [.ptr b 0,.int .i64 h] K s:=by
 have hS0:=hS;obtain⟨tg,v2,v3,v4,v5,v6,v7,w1,w2,w3,w4,h1,h2,h3⟩:=hS;refine qEg (qNK hS0 ?_);have none_:att F W h=none->K (.tup [.int .i64 0,.bool false]) s:=λe=>by have:=hK s (.refl _);rw[e]at this;exact this
 have j0n:∀{t19:AV}{a:Bool},qAO (.bool a) (.bool true) t19=some (.bool true)->att F W h=none->qAx XX (.ptr b 0) (.int .i64 h) (.bool a) t19 K s:=fun {t19 a} e q=>by unfold qAx;refine qAA e ?_;rw[qAH];exact none_ q
 cases c:(decide (0<=h)&&decide (h<(F.H.length:Int)))with
 | false=>
   refine qAA (a:=.bool true) rfl ?_;rw[qAH];exact j0n rfl (qXx λq=>by rw[decide_eq_true q.1,decide_eq_true q.2]at c;cases c)
 | true=>
   rw[Bool.and_eq_true,decide_eq_true_eq,decide_eq_true_eq]at c;obtain⟨i,rfl⟩:=qHr c.1;have hi:i<F.H.length:=by omega
   have et:(i:Int).toNat=i:=by omega
   have hx:F.H[i]?=some F.H[i]:=gE hi;generalize F.H[i]=x at hx;refine qAA (a:=.bool false) rfl ?_;rw[qAE];refine qIj h1 (x:=w4) rfl (qAA h3.wh.len ?_);rw[qA6,qBH,qAB];cases d:decide ((W.wh.length:Int)<=(i:Int))with
   | true=>
     have hle:=oT d;refine j0n rfl ?_;unfold att;rw[if_pos c.1,et,hx,List.getElem?_eq_none (by omega)]
   | false=>
     have hlt:i<W.wh.length:=by have:=oF d;omega
     have hw:W.wh[i]?=some W.wh[i]:=gE hlt;obtain⟨pp,g1,g2⟩:=h3.wh.get (i:=i) (by rw[qA6];exact hlt);rw[qGP hlt]at g2;generalize W.wh[i]=sg at hw g2;unfold qAx;refine qAA (a:=.bool false) rfl ?_;rw[qAE];refine qIj h1 (x:=w4) rfl (qAA g1 (qAA g2 ?_));rw[qAR,qAB];have j1n:∀{t39:AV}{a:Bool},qAO (.bool a) (.bool true) t39=some (.bool true)->att F W (i:Int)=none->qAu XX (.ptr b 0) (.int .i64 (i:Int)) (.int .i64 sg) (.bool a) t39 K s:=fun {t39 a} e q=>by unfold qAu;refine qAA e ?_;rw[qAH];exact none_ q
     have ea:att F W (i:Int)=if 0<=sg then(match F.S[sg.toNat]? with
       |some g=>if x.2.2.1∈g.2 then some sg else none
       |none=>none)else none:=by
      unfold att;rw[if_pos c.1,et,hx,hw];rfl
     cases e0:decide (sg<0)with
     | true=>
       rw[qAH];refine j1n rfl ?_;rw[ea,if_neg (by have:=oT e0;omega)]
     | false=>
       have h0:0<=sg:=by have:=oF e0;omega
       rw[if_pos h0]at ea;rw[qAE];refine qGN h1 (x:=v5) rfl (qAA h2.S.len ?_);rw[qBH,qAB];cases e1:decide ((F.S.length:Int)<=sg)with
       | true=>
         refine j1n rfl ?_;rw[ea,List.getElem?_eq_none (by have:=oT e1;omega)]
       | false=>
         obtain⟨j,rfl⟩:=qHr h0;have hj:j<F.S.length:=by have:=oF e1;omega
         have hg:F.S[j]?=some F.S[j]:=gE hj;generalize F.S[j]=g at hg;have ej:(j:Int).toNat=j:=by omega
         rw[ej,hg]at ea;simp only at ea;obtain⟨pb,po,l1,l2,a1,_,_,a4,_,a6⟩:=h2.S.at hg;obtain⟨hb,ho,b1,b2,b3⟩:=h2.H.get (i:=i) (r:=hgC x) (by rw[List.getElem?_map,hx];rfl);unfold qAu;refine qAA (a:=.bool false) rfl ?_;rw[qAE];refine qGN h1 (x:=v5) rfl (qAA a1 (qAA (a:=.ptr pb (po+1)) rfl (qAA a4 (qGN h1 (x:=v6) rfl (qAA b1 (qAA (a:=.ptr hb (ho+2)) rfl (qAA (a:=.int .i64 x.2.2.1) (by rw[b3 2 (by omega)];rfl) ?_)))))));refine qGE XX_0 (hz g (mG hg)).2 a6 ?_;rw[qAj,qAB];cases e2:decide (x.2.2.1∈g.2)with
         | true=>
           rw[if_pos (oT e2)]at ea;rw[Bool.not_true,qAE];have:=hK s (.refl _);rw[ea]at this;exact this
         | false=>
           rw[if_neg (oF e2)]at ea;rw[Bool.not_false,qAH];exact none_ ea
end Go.AM.OR
set_option maxRecDepth 100000
namespace Go.AM.OR
open Go Go.Proofs Go.AM.TN
variable {K:AV→Hq→Prop} {s s' t H:Hq} {v w fv:AV} {F:FG} {W:WG} {b c i k n m0 N:Nat} {h l sg a:Int} {tg:Bool} {R:AV→Prop} {Q:List Int}
theorem app1{elem:TypeId}{kd:IntKind}{L:List Int}{x:Int}{z:AV}{C:AV->Hq->Prop}(hz:z.one=true)(acc:Acc elem s t w (L.map (AV.int kd)))(ks:Sub s t)(hl:L.length<=100000)(hC:∀v' s',Acc elem s s' v' ((L ++ [x]).map (AV.int kd))->Sub s s'->C v' s'):
  oK (qAr (repl 1 [z]) [(0,1,.int kd x)]) λc=>qAW c=true/\newK elem c (λb s'=>appK elem 1 w (.slc b 0 1 (some 1) 1) C s') t:=by
 refine qDQ hz rfl λb s1 hb h1 u1=>?_;refine(acc.sub (u1.sub hb)).app2 (ks.trans (u1.sub hb)) (m:=[.int kd x]) (Sl.mk h1 rfl (by simp)) (by simp) (by simp;omega) λv' s' a kq=>hC v' s' ?_ kq;rw[List.map_append];exact a
theorem qLI{p:Int->Bool}{L:List Int}{j:Nat}{x:Int}(hx:L[j]?=some x):(L.take (j+1)).filter p=(L.take j).filter p++(if p x=true then[x]else[]):=by
 rw[List.take_add_one,hx,List.filter_append]
 congr 1
 cases h:p x<;>simp[h]
theorem qVZ{p:Int->Bool}{L:List Int}:(L.filter p).length<=L.length:=List.length_filter_le _ _
theorem qL4(hz:SmS F)(h20:∀x∈F.S,x.1.length<=100000)(hS:St s b F W)(hK:∀v' s',Sub s s'->Sl s' v' (ix (mems F W sg))->K v' s'):wC TP XX 63 [.ptr b 0,.int .i64 sg] K s:=by
 have hS0:=hS;obtain⟨tg,v2,v3,v4,v5,v6,v7,w1,w2,w3,w4,h1,h2,h3⟩:=hS;refine qEw ?_;unfold qDS;rw[qAR,qAB];have j0n:∀{t18:AV}{a:Bool},qAO (.bool a) (.bool true) t18=some (.bool true)->mems F W sg=[]->qA4 XX (.ptr b 0) (.int .i64 sg) (.bool a) t18 K s:=fun {t18 a} e q=>by unfold qA4;refine qAA e ?_;rw[qAH];exact hK _ s (.refl _) (by rw[q];exact .inl ⟨rfl,rfl⟩)
 cases c:decide (sg<0)with
 | true=>
   rw[qAH];refine j0n rfl ?_;unfold mems;rw[if_neg (by have:=oT c;omega)]
 | false=>
   have h0:0<=sg:=by have:=oF c;omega
   obtain⟨j,rfl⟩:=qHr h0;have ej:(j:Int).toNat=j:=by omega
   rw[qAE];refine qGN h1 (x:=v5) rfl (qAA h2.S.len ?_);rw[qBH,qAB];cases d:decide ((F.S.length:Int)<=(j:Int))with
   | true=>
     refine j0n rfl ?_;unfold mems;rw[if_pos h0,ej,List.getElem?_eq_none (by have:=oT d;omega)]
   | false=>
     have hj:j<F.S.length:=by have:=oF d;omega
     have hg:F.S[j]?=some F.S[j]:=gE hj;generalize F.S[j]=g at hg;have em:mems F W (j:Int)=g.1.filter (memB W (j:Int)):=by unfold mems;rw[if_pos h0,ej,hg]
     have hgl:=h20 g (mG hg);rw[em]at hK;obtain⟨pb,po,l1,l2,a1,_,a3,_,a5,_⟩:=h2.S.at hg;unfold qA4;refine qAA (a:=.bool false) rfl ?_;rw[qAE];have nl:qAQ l1=some g.1.length:=by rw[a5.len,qA6]
     refine qGN h1 (x:=v5) rfl (qAA a1 (qAA (a:=.ptr pb po) rfl (qAA a3 (qAA nl ?_))));refine⟨λys t m=>∃(k:Nat) (v:AV),ys=[v,.int .i64 (k:Int)]/\k<=g.1.length/\m=g.1.length-k/\Acc 3 s t v (ix ((g.1.take k).filter (memB W (j:Int))))/\Sub s t,⟨_,0,_,rfl,by omega,rfl,.inl ⟨rfl,rfl⟩,.refl _⟩,?_⟩;rintro f t m ⟨k,v,hy,hk,rfl,acc,kt⟩;simp only[cI,and_true]at hy;rw[hy.1,hy.2];clear hy;unfold qCv;rw[qAR,qAB];refine qAI (λhlt=>?_) (λhge=>?_)
     rotate_left
     ·have hge:k=g.1.length:=by have:=oF hge;omega
      subst hge;rw[List.take_length]at acc;exact hK v t kt acc.sl
     have hlt:k<g.1.length:=by have:=oT hlt;omega
     have hx:g.1[k]?=some g.1[k]:=gE hlt;obtain⟨pp,g1,g2⟩:=(a5.sub kt).get (i:=k) (by rw[qA6];exact hlt);rw[qGP hlt]at g2;generalize g.1[k]=x at hx g2;have hsucc:=qLI (p:=memB W (j:Int)) hx;have hlen:((g.1.take k).filter (memB W (j:Int))).length<=100000:=by have h1:=qVZ (p:=memB W (j:Int)) (L:=g.1.take k);rw[List.length_take]at h1;omega
     have j3:∀{v':AV}{t':Hq},Acc 3 s t' v' (ix ((g.1.take (k+1)).filter (memB W (j:Int))))->Sub s t'->qBM XX v' (.int .i64 (k:Int)) (λys t m=>∃(k:Nat) (v:AV),ys=[v,.int .i64 (k:Int)]/\k<=g.1.length/\m=g.1.length-k/\Acc 3 s t v (ix ((g.1.take k).filter (memB W (j:Int))))/\Sub s t) (g.1.length-k) K t':=fun {v' t'} a kk=>by unfold qBM;rw[qAN,qAB,qAc (by omega) (by omega)];exact⟨_,by omega,k+1,v',rfl,by omega,rfl,a,kk⟩
     have j2:∀{t41 t45:AV}{a:Bool},qAO t41 t45 (.bool false)=some (.bool a)->memB W (j:Int) x=a->qBO XX v (.int .i64 x) (.int .i64 (k:Int)) t41 t45 (λys t m=>∃(k:Nat) (v:AV),ys=[v,.int .i64 (k:Int)]/\k<=g.1.length/\m=g.1.length-k/\Acc 3 s t v (ix ((g.1.take k).filter (memB W (j:Int))))/\Sub s t) (g.1.length-k) K t:=fun {t41 t45 a} e q=>by
      unfold qBO;refine qAA e ?_;cases a with
      | true=>
        rw[if_pos q]at hsucc;rw[qAH];exact app1 rfl acc kt hlen λv' s' a' ks=>j3 (by rw[hsucc];exact a') ks
      | false=>
        rw[if_neg (by rw[q];simp),List.append_nil]at hsucc;rw[qAE];exact j3 (by rw[hsucc];exact acc) kt
     have h3t:=h3.sub kt;refine qAA g1 (qAA g2 (qIj (kt _ _ h1) (x:=w1) rfl (qRf h3t.nd ?_)));cases c2:onB W.nd x with
     | false=>
       rw[qAE];exact j2 rfl (by unfold memB;rw[c2];rfl)
     | true=>
       rw[qAH];refine qWT (hS0.sub kt) (j2 (a:=qNj W x (j:Int)) rfl ?_);unfold memB;rw[c2,Bool.true_and]
theorem qM8(hl:F.L.length<=100000)(hS:St s b F W)(hK:∀v' s',Sub s s'->Acc 3 s s' v' (ix (nbr F W a))->K v' s'):wC TP XX 75 [.ptr b 0,.int .i64 a] K s:=by
 have hS0:=hS;obtain⟨tg,v2,v3,v4,v5,v6,v7,w1,w2,w3,w4,h1,h2,h3⟩:=hS;have nl:qAQ v2=some F.L.length:=by rw[h2.L.len,lM]
 refine qD4 (qGN h1 (x:=v2) rfl (qAA nl ?_));refine⟨λys t m=>∃(k:Nat) (v:AV),ys=[v,.int .i64 (k:Int)]/\k<=F.L.length/\m=F.L.length-k/\Acc 3 s t v (ix (nbrN F W a k))/\Sub s t,⟨_,0,_,rfl,by omega,rfl,.inl ⟨rfl,rfl⟩,.refl _⟩,?_⟩;rintro f t m ⟨k,v,hy,hk,rfl,acc,kt⟩;simp only[cI,and_true]at hy;rw[hy.1,hy.2];clear hy;unfold qCV;rw[qAR,qAB];refine qAI (λhlt=>?_) (λhge=>?_)
 rotate_left
 ·have hge:k=F.L.length:=by have:=oF hge;omega
  subst hge;exact hK v t kt acc
 have hlt:k<F.L.length:=by have:=oT hlt;omega
 have hx:F.L[k]?=some F.L[k]:=gE hlt;generalize F.L[k]=x at hx;obtain⟨pb,po,e1,e2,e3⟩:=(h2.L.sub kt).get (i:=k) (r:=lkC x) (by rw[List.getElem?_map,hx];rfl);refine qAA e1 (qAA e2 (qAM λb9 s10 hb9 h9 u9=>qAS h9 rfl rfl rfl λs11 h11 u11=>?_));have k11:Sub t s11:=qAY (u9.sub hb9) u11 hb9;have h11:s11 b9=some (false,.cells 91 (lkC x)):=h11;refine qVH (hS0.sub (kt.trans k11)) hx λs13 k13=>?_;have k13':=kt.trans (k11.trans k13);have h13:=k13 _ _ h11;have acc13:=acc.sub (k11.trans k13);have hlen:=qP4 (F:=F) (W:=W) (n:=a) k;have hsucc:=qTf (F:=F) (W:=W) (n:=a) (k:=k);have ea:qNp F W a k=if works F W k then(if x.1=a then some x.2.1 else if x.2.1=a then some x.1 else none)else none:=by unfold qNp;rw[hx]
 rw[ea]at hsucc;have j1:∀{v':AV}{t':Hq},Acc 3 s t' v' (ix (nbrN F W a (k+1)))->Sub s t'->qAg XX v' (.int .i64 (k:Int)) (λys t m=>∃(k:Nat) (v:AV),ys=[v,.int .i64 (k:Int)]/\k<=F.L.length/\m=F.L.length-k/\Acc 3 s t v (ix (nbrN F W a k))/\Sub s t) (F.L.length-k) K t':=fun {v' t'} a' kk=>by unfold qAg;rw[qAN,qAB,qAc (by omega) (by omega)];exact⟨_,by omega,k+1,v',rfl,by omega,rfl,a',kk⟩
 rw[qAj,qAB];cases c:works F W k with
 | false=>
   rw[c]at hsucc;rw[Bool.not_false,qAH];exact j1 (by rw[hsucc];simpa using acc13) k13'
 | true=>
   rw[c]at hsucc;rw[Bool.not_true,qAE];refine qAA (a:=.ptr b9 0) rfl (qAA (a:=.int .i64 x.1) (by rw[qAJ h13];rfl) ?_);simp only[qAb,qAZ,Bool.false_bne,qAB];refine qAI (λq=>?_) (λq=>?_)
   ·have q:=eq_of_beq q
    rw[if_pos rfl,if_pos q]at hsucc;refine qAA (a:=.ptr b9 1) rfl (qAA (a:=.int .i64 x.2.1) (by rw[qAJ h13];rfl) ?_);exact app1 rfl acc13 k13' (by omega) λv' s' a' ks=>j1 (by rw[hsucc];exact a') ks
   ·have q:¬x.1=a:=by simpa using q
    rw[if_pos rfl,if_neg q]at hsucc;refine qAA (a:=.ptr b9 1) rfl (qAA (a:=.int .i64 x.2.1) (by rw[qAJ h13];rfl) ?_);simp only[qAb,qAZ,Bool.false_bne,qAB];refine qAI (λq2=>?_) (λq2=>?_)
    ·have q2:=eq_of_beq q2
     rw[if_pos q2]at hsucc;refine qAA (a:=.ptr b9 0) rfl (qAA (a:=.int .i64 x.1) (by rw[qAJ h13];rfl) ?_);exact app1 rfl acc13 k13' (by omega) λv' s' a' ks=>j1 (by rw[hsucc];exact a') ks
    ·have q2:¬x.2.1=a:=by simpa using q2
     rw[if_neg q2]at hsucc;exact j1 (by rw[hsucc];simpa using acc13) k13'
def gI:Nat->List Int->List AEnt
 |_,[]=>[]
 |i,x::l=>{ key:=.int .i64 x,val:=.bool true,born:=i }::gI (i+1) l
theorem qWC:∀{l:List Int}{i:Nat}{y:Int},gI i (l ++ [y])=gI i l ++ [{ key:=.int .i64 y,val:=.bool true,born:=i+l.length }]
 |[],i,y=>rfl
 | x::l,i,y=>by
   show _::gI (i+1) (l ++ [y])=_::(gI (i+1) l++_);rw[qWC,List.length_cons,show i+1+l.length=i+(l.length+1)by omega]
theorem ikey{a b:Int}:qKi (.int .i64) (.int .i64 a) (.int .i64 b)=some (decide (b=a)):=by
 show some (eqI a b)=_;rw[qDv]
 congr 1
 rw[Bool.eq_iff_iff];simp only[beq_iff_eq,decide_eq_true_eq];exact⟨λh=>h.symm,λh=>h.symm⟩
theorem qO9{y:Int}:∀{l:List Int}{i j:Nat},(y∈l->∃p,qJH (.int .i64 y) (gI i l) j=some (some (p,.bool true)))/\(y ∉ l->qJH (.int .i64 y) (gI i l) j=some none)
 |[],_,_=>⟨λh=>(by cases h),λ_=>rfl⟩
 | x::l,i,j=>by
   have e:qJH (.int .i64 y) (gI i (x::l)) j=match (some (decide (x=y)):Option Bool)with
     |some true=>some (some (j,.bool true))
     |some false=>qJH (.int .i64 y) (gI (i+1) l) (j+1)
     |none=>none:=by
    rw[<- ikey];rfl
   rw[e];obtain⟨i1,i2⟩:=qO9 (y:=y) (l:=l) (i:=i+1) (j:=j+1)
   by_cases h:x=y
   ·rw[decide_eq_true h]
    exact⟨λ_=>⟨j,rfl⟩,λq=>absurd (by rw[h];exact List.mem_cons_self) q⟩
   ·rw[decide_eq_false h]
    exact⟨λq=>i1 ((mC q).resolve_left λe=>h e.symm),λq=>i2 λe=>q (mO _ e)⟩
theorem qUr{y:Int}(hm:t m0=some (tg,.map (gI 0 Q) c)):∃r,getM t (.map m0) (.int .i64 y)=some r/\retM (.bool false) false r=.bool (decide (y∈Q)):=by
 obtain⟨i1,i2⟩:=qO9 (y:=y) (l:=Q) (i:=0) (j:=0)
 by_cases h:y∈Q
 ·obtain⟨p,hp⟩:=i1 h
  refine⟨some (.bool true),?_,by rw[decide_eq_true h];rfl⟩;unfold getM;simp only[hm,hp]
 ·refine⟨none,?_,by rw[decide_eq_false h];rfl⟩
  unfold getM;simp only[hm,i2 h]
theorem qPu{y:Int}{R:Hq->Prop}(hm:t m0=some (false,.map (gI 0 Q) Q.length))(hy:y ∉ Q)(hR:∀s',s' m0=some (false,.map (gI 0 (Q ++ [y])) (Q ++ [y]).length)->Upto m0 t s'->R s'):oK (putM t (.map m0) (.int .i64 y) (.bool true)) R:=by refine qAA (a:=hset t m0 (false,.map (gI 0 (Q ++ [y])) (Q ++ [y]).length)) ?_ (hR _ (by simp[hset]) λi hi=>by simp[hset,hi]);unfold putM putE;simp only[hm,(qO9 (y:=y) (l:=Q) (i:=0) (j:=0)).2 hy,qWC,zA,lAp,List.length_singleton]
structure Bq(H t:Hq)(m0:Nat)(v:AV)(Q:List Int):Prop where
 sub:Sub H t
 mp:t m0=some (false,.map (gI 0 Q) Q.length)
 nm:H m0=none
 qe:∃b cap,v=.slc b 0 Q.length cap 1/\(cap=none∨cap=some Q.length)/\t b=some (false,.cells 3 (ix Q))/\H b=none
theorem Bq.sl(h:Bq H t m0 v Q):Sl t v (ix Q):=by
 obtain⟨b,cap,rfl,hc,hb,_⟩:=h.qe;refine Sl.mk hb qA6.symm λc e=>?_;rcases hc with rfl|rfl
 ·cases e
 ·cases e;rw[qA6];exact Nat.le_refl _
theorem Bq.grow{t':Hq}{L:List AV}(h:Bq H t m0 v Q)(k:Sub t t')(hw:Acc 3 t t' w L):∃H2,Bq H2 t' m0 v Q/\Sub H H2/\Sl H2 w L:=by
 obtain⟨b,cap,e,hc,hb,hH⟩:=h.qe;have off:∀{j:Nat}{x:Bool×Blk},t' j=some x->j≠m0->j≠b->(λi=>if i=m0∨i=b then none else t' i) j=some x:=fun {j x} hx n1 n2=>by show(if j=m0∨j=b then none else t' j)=_;rw[if_neg (by rintro (q|q);exact n1 q;exact n2 q)];exact hx
 refine⟨λi=>if i=m0∨i=b then none else t' i,⟨λi x hi=>?_,k _ _ h.mp,by simp,b,cap,e,hc,k _ _ hb,by simp⟩,λi x hi=>off (k _ _ (h.sub _ _ hi)) (λq=>by rw[q,h.nm]at hi;cases hi) (λq=>by rw[q,hH]at hi;cases hi),?_⟩
 ·have hi:(if i=m0∨i=b then none else t' i)=some x:=hi
  split at hi
  ·cases hi
  ·exact hi
 ·rcases hw with hw|⟨d,h0,e1,h1⟩
  ·exact .inl hw
  ·rw[e1]
   exact Sl.mk (off h1 (λq=>by rw[q,h.mp]at h0;cases h0) λq=>by rw[q,hb]at h0;cases h0) rfl (by simp)
theorem Bq.push{y:Int}{C:AV->Hq->Prop}(h:Bq H t m0 v Q)(hy:y ∉ Q)(hl:Q.length<=100000)(hC:∀v' t',Bq H t' m0 v' (Q ++ [y])->C v' t'):
  oK (putM t (.map m0) (.int .i64 y) (.bool true)) λs1=>oK (qAr (repl 1 [(.int .i64 0)]) [(0,1,.int .i64 y)]) λc=>qAW c=true/\newK 3 c (λb s2=>appK 3 1 v (.slc b 0 1 (some 1) 1) C s2) s1:=by
 obtain⟨b,cap,rfl,hc,hb,hH⟩:=h.qe;have nb:b≠m0:=λe=>by rw[e,h.mp]at hb;cases hb
 refine qPu h.mp hy λs1 hm u1=>qDQ rfl rfl λd s2 hd h2 u2=>?_;have k2:=u2.sub hd;have hm2:=k2 _ _ hm;have hb2:s2 b=some (false,.cells 3 (ix Q)):=k2 _ _ (by rw[u1 b nb];exact hb);have hs2:Sub H s2:=λi x hi=>k2 _ _ (by rw[u1 i (λe=>by rw[e,h.nm]at hi;cases hi)];exact h.sub _ _ hi);have hyl:Sl s2 (.slc d 0 1 (some 1) 1) [AV.int .i64 y]:=Sl.mk h2 rfl (by simp);have hq:ix (Q ++ [y])=ix Q ++ [.int .i64 y]:=by unfold ix;rw[List.map_append];rfl
 rcases hc with rfl|rfl
 ·have acc:Acc 3 H s2 (.slc b 0 Q.length none 1) (ix Q):=.inr ⟨b,hH,by rw[qA6],hb2⟩
  refine acc.app (m:=[.int .i64 y]) hyl (by simp) (by rw[qA6];simp;omega) (λi hi=>?_) λv' s' a' kq=>hC v' s' ⟨λi x hi=>kq i x (hs2 _ _ hi) λb' e=>?_,kq m0 _ hm2 λb' e=>?_,h.nm,?_⟩
  ·cases e:H i with
   |none=>exact absurd e hi
   |some x=>rw[hs2 _ _ e];simp
  ·have e:=(AV.slc.inj e).1
   subst e;rintro rfl;rw[hH]at hi;cases hi
  ·have e:=(AV.slc.inj e).1
   subst e;exact Ne.symm nb
  ·rcases a' with⟨_,q⟩|⟨d',q0,q1,q2⟩
   ·exact absurd q (by simp)
   ·exact⟨d',none,by rw[q1,<- hq,qA6],.inl rfl,by rw[hq];exact q2,q0⟩
 ·have hsl:Sl s2 (.slc b 0 (ix Q).length (some Q.length) 1) (ix Q):=Sl.mk hb2 rfl λc e=>by cases e;rw[qA6];exact Nat.le_refl _
  have e0:(AV.slc b 0 Q.length (some Q.length) 1)=.slc b 0 (ix Q).length (some Q.length) 1:=by rw[qA6]
  rw[e0];refine qUM hsl hyl (by simp) (by rw[qA6];simp) (by rw[qA6];simp;omega) λd' s' hd' h' u'=>hC _ s' ⟨hs2.trans (u'.sub hd'),(u'.sub hd') _ _ hm2,h.nm,d',none,?_,.inl rfl,by rw[hq];exact h',qAt hs2 hd'⟩;simp[qA6]
theorem qQm{nx:Int->List Int}(h0:0<=a)(h1:a<(N:Int))(hN:N<=10000)(hr:∀x,∀y∈nx x,0<=y/\y<(N:Int))(hnl:∀x,(nx x).length<=100000)
  (hp:∀(x:Int) (s1:Hq) (J:AV->Hq->Prop),Sub s s1->(∀v s',Sub s1 s'->Acc 3 s1 s' v (ix (nx x))->J v s')->funK TP XX fv [.int .i64 x] J s1)
  (hK:∀b cap s' Q,Sub s s'->s b=none->(cap=none∨cap=some Q.length)->s' b=some (false,.cells 3 (ix Q))->Bfs nx a N Q Q.length->K (.slc b 0 Q.length cap 1) s'):wC TP XX 74 [.int .i64 a,fv] K s:=by
 refine qFI ?_;intro m0 hm0;have z0:(hset s m0 (false,.map [] 0)) m0=some (false,.map (gI 0 []) 0):=by simp[hset];rfl
 have u0:Upto m0 s (hset s m0 (false,.map [] 0)):=λi hi=>by simp[hset,hi]
 generalize hset s m0 (false,.map [] 0)=t0 at z0 u0;have k0:=u0.sub hm0;refine qPu (Q:=[]) z0 (by simp) λs2 hm2 u2=>?_;have k2:Sub s s2:=qAY k0 u2 hm0;refine qDQ rfl rfl λb4 s5 hb4 h5 u5=>?_;have k5:=u5.sub hb4;have bq5:Bq s s5 m0 (.slc b4 0 1 (some 1) 1) [a]:=⟨k2.trans k5,k5 _ _ hm2,hm0,b4,some 1,rfl,.inr rfl,h5,qAt k2 hb4⟩
 refine⟨λys t m=>∃(i:Nat) (v:AV) (Q:List Int),ys=[v,.int .i64 (i:Int)]/\i<=Q.length/\m=N-i/\Bq s t m0 v Q/\Bfs nx a N Q i,⟨_,0,_,[a],rfl,by omega,rfl,bq5,Bfs.start h0 h1⟩,?_⟩;rintro f t m ⟨i,v,Q,hy,hi,rfl,bq,bf⟩;simp only[cI,and_true]at hy;rw[hy.1,hy.2];clear hy;have hQN:=bf.len;unfold qC2;refine qAA (by rw[bq.sl.len,qA6]) ?_;rw[qAR,qAB];refine qAI (λhlt=>?_) (λhge=>?_)
 rotate_left
 ·have hge:i=Q.length:=by have:=oF hge;omega
  subst hge;obtain⟨b,cap,rfl,hc,hb,hH⟩:=bq.qe;exact hK b cap t Q bq.sub hH hc hb bf
 have hlt:i<Q.length:=by have:=oT hlt;omega
 obtain⟨pp,g1,g2⟩:=bq.sl.get (i:=i) (by rw[qA6];exact hlt);rw[qGP hlt]at g2;have hx:Q[i]?=some Q[i]:=gE hlt;generalize Q[i]=x at hx g2;refine qAA g1 (qAA g2 (hp x t _ bq.sub λnv s12 k12 hnv=>?_));have nl:qAQ nv=some (nx x).length:=by rw[hnv.sl.len,qA6]
 have hnx:=hnl x;obtain⟨H2,bq2,kH,hsl⟩:=bq.grow k12 hnv;refine qAA nl ?_;refine⟨λys t m=>∃(k:Nat) (v:AV) (Q':List Int),ys=[v,.int .i64 (k:Int)]/\k<=(nx x).length/\m=(nx x).length-k/\Bq H2 t m0 v Q'/\Bfr nx a N Q Q' i x k,⟨_,0,_,Q,rfl,by omega,rfl,bq2,bf.enter hx⟩,?_⟩;rintro f1 t1 m1 ⟨k,v1,Q',hy,hk,rfl,bq1,br⟩;simp only[cI,and_true]at hy;rw[hy.1,hy.2];clear hy;have hQN':=br.b.len;unfold qCy;rw[qAR,qAB];refine qAI (λhlk=>?_) (λhgk=>?_)
 rotate_left
 ·have hgk:(nx x).length<=k:=by have:=oF hgk;omega
  have bf':=br.leave hgk;have hlQ:=(gS br.at').1;rw[qAN,qAB,qAc (by omega) (by omega)];obtain⟨b,cap,e,hc,hb,hH⟩:=bq1.qe;exact⟨_,by omega,i+1,v1,Q',rfl,by omega,rfl,⟨kH.trans bq1.sub,bq1.mp,qAt kH bq1.nm,b,cap,e,hc,hb,qAt kH hH⟩,bf'⟩
 have hlk:k<(nx x).length:=by have:=oT hlk;omega
 obtain⟨pp1,q1,q2⟩:=(hsl.sub bq1.sub).get (i:=k) (by rw[qA6];exact hlk);rw[qGP hlk]at q2;have hyk:(nx x)[k]?=some (nx x)[k]:=gE hlk;generalize(nx x)[k]=y at hyk q2;obtain⟨r,r1,r2⟩:=qUr (y:=y) bq1.mp;have j2:∀{v':AV}{t':Hq}{Q'':List Int},Bq H2 t' m0 v' Q''->Bfr nx a N Q Q'' i x (k+1)->qBU XX v' (.int .i64 (k:Int)) (λys t m=>∃(k:Nat) (v:AV) (Q':List Int),ys=[v,.int .i64 (k:Int)]/\k<=(nx x).length/\m=(nx x).length-k/\Bq H2 t m0 v Q'/\Bfr nx a N Q Q' i x k) ((nx x).length-k) (λys t m=>∃(i:Nat) (v:AV) (Q:List Int),ys=[v,.int .i64 (i:Int)]/\i<=Q.length/\m=N-i/\Bq s t m0 v Q/\Bfs nx a N Q i) (N-i) K t':=fun {v' t' Q''} q q'=>by unfold qBU;rw[qAN,qAB,qAc (by omega) (by omega)];exact⟨_,by omega,k+1,v',Q'',rfl,by omega,rfl,q,q'⟩
 refine qAA q1 (qAA q2 (qAA r1 ?_));rw[r2,qAj,qAB]
 by_cases hm:y∈Q'
 ·rw[decide_eq_true hm,Bool.not_true,qAE]
  exact j2 bq1 (br.old hyk hm)
 ·rw[decide_eq_false hm,Bool.not_false,qAH]
  exact bq1.push hm (by omega) λv' t' q=>j2 q (br.new hyk (hr x y (mG hyk)) hm)
end Go.AM.OR
set_option maxRecDepth 100000
namespace Go.AM.OR
open Go Go.Proofs Go.AM.TN
variable {K:AV→Hq→Prop} {s s' s0 t H:Hq} {fv:AV} {b c i k n:Nat} {h l a:Int} {R:AV→Prop} {Q:List Int} {cap:Option Nat}
theorem ia1(h:i<n):qAU 1 (.slc b 0 n cap 1) (.int .i64 (i:Int))=some (.ptr b i):=by
 have:Nat.blt i n=true:=by rw[Nat.blt_eq];exact h
 simp[qAU,this]
theorem qXL(hc:cap=none∨cap=some n)(h:i<=n):∃cap',qDZ 1 (.slc b 0 n cap 1) (some (.int .i64 (i:Int))) none none=some (.slc b i (n-i) cap' 1):=by
 rcases hc with rfl|rfl
 ·exact⟨none,by simp[qDZ,bound,bL h]⟩
 ·exact⟨some (n-i),by simp[qDZ,bound,bL h]⟩
theorem qZz(hc:cap=none∨cap=some n)(h:i<=n):∃cap',qDZ 1 (.slc b 0 n cap 1) none (some (.int .i64 (i:Int))) none=some (.slc b 0 i cap' 1)/\∀c,cap'=some c->i<=c:=by
 rcases hc with rfl|rfl
 ·exact⟨none,by simp[qDZ,bound,bL h],λc e=>by cases e⟩
 ·exact⟨some n,by simp[qDZ,bound,bL h],λc e=>by cases e;exact h⟩
theorem qNy(z:AV)(hz:z.one=true):∀n,qAW (List.replicate n z)=true
 | 0=>rfl
 | n+1=>by
   rw[List.replicate_succ];simp[qAW,hz,qNy z hz n]
theorem qVG{cap':Option Nat}{R:Hq->Prop}{L:List AV}(hb:s b=some (false,.cells 3 L))(hi:i+n=L.length)(hR:∀s' T,s' b=some (false,.cells 3 (L.take i++T))->Upto b s s'->R s'):qQP [(.int .i64 0)] 1 (.slc b i n cap' 1) (λ_ s'=>R s') s:=by
 refine⟨rfl,?_⟩;cases n with
 | zero=>
   refine hR s [] ?_ λ_ _=>rfl;rw[hb,List.append_nil,List.take_of_length_le (by omega)]
 | succ n=>
   simp only[qMZ];have hw:wrN s (.ptr b i) (List.replicate (n+1) (AV.int .i64 0))=some (hset s b (false,.cells 3 (qA3 L i (List.replicate (n+1) (AV.int .i64 0))))):=by
    have e1:Nat.ble (i+(List.replicate (n+1) (AV.int .i64 0)).length) L.length=true:=by rw[Nat.ble_eq,List.length_replicate];omega
    simp only[wrN,hb,e1,qNy (.int .i64 0) rfl,Bool.and_self,cond_true]
   refine qAA hw (hR _ (List.replicate (n+1) (AV.int .i64 0)) ?_ λj hj=>by simp[hset,hj]);have e2:qA3 L i (List.replicate (n+1) (AV.int .i64 0))=L.take i++List.replicate (n+1) (AV.int .i64 0):=by unfold qA3;rw[List.length_replicate,List.drop_eq_nil_of_le (by omega),List.append_nil]
   simp[hset,e2]
theorem qYa{p:Int->Bool}(hH:Sub H s)(hHb:H b=none)(hb:s b=some (false,.cells 3 (ix Q)))(hc:cap=none∨cap=some Q.length)(hl:Q.length<=100000)
  (hp:∀(x:Int) (s1:Hq) (J:AV->Hq->Prop),Sub H s1->(∀s',Sub s1 s'->J (.bool (p x)) s')->funK TP XX fv [.int .i64 x] J s1)
  (hK:∀cap' T s',(∀c,cap'=some c->(Q.filter λx=>!p x).length<=c)->Sub H s'->s' b=some (false,.cells 3 (ix (Q.filter λx=>!p x)++T))->K (.slc b 0 (Q.filter λx=>!p x).length cap' 1) s'):wC TP XX 76 [.slc b 0 Q.length cap 1,fv] K s:=by
 have hv:∀{t:Hq}{A:List Int},t b=some (false,.cells 3 (ix A))->A.length=Q.length->Sl t (.slc b 0 Q.length cap 1) (ix A):=fun {t A} h1 h2=>Sl.mk h1 (by rw[qA6,h2]) λc e=>by
  rcases hc with rfl|rfl
  ·cases e
  ·cases e;rw[qA6,h2];exact Nat.le_refl _
 refine qEd (qNk XX_0 (p:=p) (l:=Q) (by omega) (hv hb rfl) (λx s1 J k hJ=>hp x s1 J (hH.trans k) hJ) λs1 k1=>?_);have hb1:=k1 _ _ hb;cases hf:Q.findIdx? p with
 | none=>
   have e:fstI p Q=-1:=by unfold fstI;rw[hf]
   have ef:(Q.filter λx=>!p x)=Q:=List.filter_eq_self.2 λx hx=>by rw[List.findIdx?_eq_none_iff.1 hf x hx];rfl
   rw[e];refine qAA (a:=.bool true) rfl ?_;rw[qAH];rw[ef]at hK;exact hK cap [] s1 (λc e=>by rcases hc with rfl|rfl<;>cases e;exact Nat.le_refl _) (hH.trans k1) (by rw[List.append_nil];exact hb1)
 | some i0=>
   have e:fstI p Q=(i0:Int):=by unfold fstI;rw[hf]
   obtain⟨hi0,hp0,hlt0⟩:=List.findIdx?_eq_some_iff_getElem.1 hf;rw[e];simp only[qAb,qAZ,Bool.false_bne,qAB];rw[show((i0:Int) == -1)=false from beq_eq_false_iff_ne.2 (by omega),qAE];rw[qAN,qAB,qAc (by omega) (by omega)];have x0:Q[i0]?=some Q[i0]:=gE hi0;have s0:(Q.take (i0+1)).filter (λx=>!p x)=Q.take i0:=by rw[qLI x0,if_neg (by rw[hp0];simp),List.append_nil];refine List.filter_eq_self.2 λx hx=>?_;obtain⟨j,hj,rfl⟩:=List.mem_iff_getElem.1 hx;rw[List.length_take]at hj;rw[List.getElem_take];have:=hlt0 j (by omega);simpa using this
   refine⟨λys t m=>∃(i j:Nat) (A:List Int),ys=[.int .i64 (i:Int),.int .i64 (j:Int)]/\j<=Q.length/\m=Q.length-j/\Sub H t/\t b=some (false,.cells 3 (ix A))/\A.length=Q.length/\A.take i=(Q.take j).filter (λx=>!p x)/\i<j/\A.drop j=Q.drop j,⟨_,i0,i0+1,Q,rfl,by omega,rfl,hH.trans k1,hb1,rfl,s0.symm,by omega,rfl⟩,?_⟩;rintro f t m ⟨i,j,A,hy,hj,rfl,kt,tb,hA,htk,hij,hdr⟩;simp only[cI,and_true]at hy;rw[hy.1,hy.2];clear hy;unfold qCk;refine qAA (a:=Q.length) rfl ?_;rw[qAR,qAB];refine qAI (λhlt=>?_) (λhge=>?_)
   rotate_left
   ·have hge:j=Q.length:=by have:=oF hge;omega
    subst hge;rw[List.take_length]at htk;obtain⟨cf,ef⟩:=qXL (b:=b) hc (i:=i) (by omega);obtain⟨ct,et,hct⟩:=qZz (b:=b) hc (i:=i) (by omega);have hlen:i=(Q.filter λx=>!p x).length:=by rw[<- htk,List.length_take,hA];omega
    refine qAA ef (qVG tb (by rw[qA6,hA];omega) λs18 T h18 u18=>qAA et ?_);have e18:(ix A).take i=ix (Q.filter λx=>!p x):=by rw[<- htk];unfold ix;rw[List.map_take]
    rw[e18]at h18;have:=hK ct T s18 (λc e=>by rw[<- hlen];exact hct c e) (λq x hq=>by rw[u18 q (λe=>by rw[e,hHb]at hq;cases hq)];exact kt _ _ hq) h18;rw[<- hlen]at this;exact this
   have hlt:j<Q.length:=by have:=oT hlt;omega
   have hx:Q[j]?=some Q[j]:=gE hlt;have hAj:A[j]?=some Q[j]:=by
    have e1:(A.drop j)[0]?=(Q.drop j)[0]?:=by rw[hdr]
    rw[List.getElem?_drop,List.getElem?_drop]at e1;rw[<- hx];exact e1
   generalize Q[j]=x at hx hAj;have hixj:(ix A)[j]?=some (.int .i64 x):=by unfold ix;rw[List.getElem?_map,hAj];rfl
   refine qAA (ia1 hlt) (qAA (a:=.int .i64 x) (by rw[qAJ tb];exact hixj) (hp x t _ kt λs10 k10=>?_));have tb10:=k10 _ _ tb;have hsucc:=qLI (p:=λx=>!p x) hx;have j1:∀{i':Nat}{t':Hq}{A':List Int},Sub H t'->t' b=some (false,.cells 3 (ix A'))->A'.length=Q.length->A'.take i'=(Q.take (j+1)).filter (λx=>!p x)->i'<j+1->A'.drop (j+1)=Q.drop (j+1)->qBD XX (.int .i64 (i':Int)) (.int .i64 (j:Int)) (λys t m=>∃(i j:Nat) (A:List Int),ys=[.int .i64 (i:Int),.int .i64 (j:Int)]/\j<=Q.length/\m=Q.length-j/\Sub H t/\t b=some (false,.cells 3 (ix A))/\A.length=Q.length/\A.take i=(Q.take j).filter (λx=>!p x)/\i<j/\A.drop j=Q.drop j) (Q.length-j) K t':=fun {i' t' A'} a1 a2 a3 a4 a5 a6=>by unfold qBD;rw[qAN,qAB,qAc (by omega) (by omega)];exact⟨_,by omega,i',j+1,A',rfl,by omega,rfl,a1,a2,a3,a4,a5,a6⟩
   have hd1:A.drop (j+1)=Q.drop (j+1):=by rw[<- List.drop_drop,<- List.drop_drop,hdr]
   rw[qAj,qAB];cases cp:p x with
   | true=>
     rw[cp]at hsucc;rw[Bool.not_true,qAE];exact j1 (kt.trans k10) tb10 hA (by rw[hsucc,htk];simp) (by omega) hd1
   | false=>
     rw[cp]at hsucc;rw[Bool.not_false,qAH];refine qAA (ia1 (by omega)) (qBT tb10 (by rw[qA6];omega) rfl λs14 h14 u14=>?_);have h14:s14 b=some (false,.cells 3 (ix (A.set i x))):=by rw[h14];unfold ix;rw[List.map_set]
     rw[qAN,qAB,qAc (by omega) (by omega)];refine j1 (i':=i+1) (A':=A.set i x) (λq y hq=>by rw[u14 q (λe=>by rw[e,hHb]at hq;cases hq)];exact(kt.trans k10) _ _ hq) h14 (by rw[List.length_set,hA]) ?_ (by omega) ?_
     ·rw[hsucc,List.take_add_one,List.getElem?_set_self (by omega),List.take_set,List.set_eq_of_length_le (by rw[List.length_take];omega),htk]
      rfl
     ·rw[List.drop_set,if_pos (by omega)]
      exact hd1
theorem qTk{l:List Int}{y:Int}:y∈qDI l↔y∈l:=(qDi l).mem_iff
end Go.AM.OR
set_option maxRecDepth 100000
namespace Go.AM.OR
open Go Go.Proofs Go.AM.TN
variable {K:AV→Hq→Prop} {s s':Hq} {v:AV} {cs:List AV} {b c k n:Nat} {tg:Bool} {x:FC.Fr}
abbrev MXM:Int:=281474976710655
def prtB(n:Int):Bool:=(n == 6)||(n == 17)
def ckA(x:FC.Fr):Int:=if(decide (x.a3<1)||(decide (2<x.a3)||(decide (MXM<x.a4)||decide (MXM<x.a6))))=true then 2 else 0
def ckI(x:FC.Fr):Int:=if(decide (x.a10<0)||(decide (255<x.a10)||(decide (x.pr<0)||(decide (255<x.pr)||(decide (x.p1<0)||(decide (65535<x.p1)||(decide (x.p2<0)||decide (65535<x.p2))))))))=true then 2 else if(!prtB x.pr&&(x.p1 != 0||x.p2 != 0))=true then 3 else 0
def arC(x:FC.Fr):List AV:=[.int .i64 x.a3,.int .u64 x.a4,.int .u32 x.a5,.int .u64 x.a6,.int .u32 x.a7]
def ipC(x:FC.Fr):List AV:=[.int .u32 x.hs,.int .u32 x.hd,.int .i64 x.a10,.int .i64 x.pr,.int .i64 x.p1,.int .i64 x.p2]
def ar0(x:FC.Fr):Bool:=(x.a3 == 0)&&((x.a4 == 0)&&((x.a5 == 0)&&((x.a6 == 0)&&(x.a7 == 0))))
def ip0(x:FC.Fr):Bool:=(x.hs == 0)&&((x.hd == 0)&&((x.a10 == 0)&&((x.pr == 0)&&((x.p1 == 0)&&(x.p2 == 0)))))
def ckE(x:FC.Fr):Int:=if(decide (MXM<x.src)||decide (MXM<x.dst))=true then 2 else if qLg x.src=true then 3 else if(x.kind != 0&&(x.kind != 1&&x.kind != 2))=true then 6 else
 if((x.kind != 1&&!ar0 x)||(x.kind != 2&&!ip0 x))=true then 3 else if(x.kind == 1)=true then ckA x else if(x.kind == 2)=true then ckI x else 0
theorem boxN{elem:TypeId}{cs:List AV}(ho:qAW cs=true)(h:∀b s',s b=none->s' b=some (false,.cells elem cs)->Upto b s s'->K (.ptr b 0) s'):boxK elem (.agg cs) K s:=by refine⟨by simpa using ho,?_⟩;rw[qGu];exact qAM h
theorem qPt{b j k:Nat}{e:TypeId}{cs:List AV}(h:s b=some (tg,.cells e cs))(hj:j+k<=cs.length):rdN s k (.ptr b j)=some ((cs.drop j).take k):=by have e0:Nat.ble (j+k) cs.length=true:=bL hj;simp only[rdN,h,qFW,e0,cond_true]
theorem qRv{p:Int}(hK:K (.bool (prtB p)) s):wC TP XX 127 [.int .i64 p] K s:=by
 refine qH6 ?_;unfold qGR prtB at *;simp only[qAb,qAZ,Bool.false_bne,qAB];cases c:(p == 6)with
 | true=>
   rw[c]at hK;rw[qAH];unfold qCS;exact qAA (a:=.bool true) rfl hK
 | false=>
   rw[c,Bool.false_or]at hK;rw[qAE];unfold qCS;exact qAA (a:=.bool _) rfl hK
theorem qPj(hK:∀s',Sub s s'->K (.int .i64 (ckA x)) s'):wC TP XX 99 [.agg (arC x)] K s:=by
 refine qGn (boxN rfl λb s1 hb h1 u1=>?_);have fin:=hK s1 (u1.sub hb);unfold ckA at fin;have r:∀{j:Nat}{y:AV}{R:AV->Prop},(arC x)[j]?=some y->R y->oK (qAC j (.ptr b 0)) λv=>oK (rd1 s1 v) R:=fun {j y R} e h=>qAA (a:=.ptr b j) (by rw[qAG,zA]) (qAA (by rw[qAJ h1];exact e) h);have T2:∀{t1 t2:AV},qAO t1 (.bool true) t2=some (.bool true)->K (.int .i64 2) s1->qBX XX t1 t2 K s1:=fun {t1 t2} e h=>by unfold qBX;refine qAA e ?_;rw[qAH];exact h
 have T1:∀{t1 t2:AV},qAO t1 (.bool true) t2=some (.bool true)->K (.int .i64 2) s1->qBW XX (.ptr b 0) t1 t2 K s1:=fun {t1 t2} e h=>by unfold qBW;refine qAA e ?_;rw[qAH];exact T2 rfl h
 have T0:∀{t1 t2:AV},qAO t1 (.bool true) t2=some (.bool true)->K (.int .i64 2) s1->qBV XX (.ptr b 0) t1 t2 K s1:=fun {t1 t2} e h=>by unfold qBV;refine qAA e ?_;rw[qAH];exact T1 rfl h
 refine r (y:=.int .i64 x.a3) rfl ?_;rw[qAR,qAB];cases c1:decide (x.a3<1)with
 |true=>rw[c1]at fin;rw[qAH];exact T0 rfl (by simpa using fin)
 | false=>
   rw[qAE];refine r (y:=.int .i64 x.a3) rfl ?_;rw[qAq,qAB];cases c2:decide (2<x.a3)with
   |true=>rw[c1,c2]at fin;exact T0 rfl (by simpa using fin)
   | false=>
     unfold qBV;refine qAA (a:=.bool false) rfl ?_;rw[qAE];refine r (y:=.int .u64 x.a4) rfl ?_;rw[qAq,qAB];cases c3:decide (MXM<x.a4)with
     |true=>rw[c1,c2,c3]at fin;exact T1 rfl (by simpa using fin)
     | false=>
       unfold qBW;refine qAA (a:=.bool false) rfl ?_;rw[qAE];refine r (y:=.int .u64 x.a6) rfl ?_;rw[qAq,qAB];cases c4:decide (MXM<x.a6)with
       |true=>rw[c1,c2,c3,c4]at fin;exact T2 rfl (by simpa using fin)
       | false=>
         rw[c1,c2,c3,c4]at fin;unfold qBX;refine qAA (a:=.bool false) rfl ?_;rw[qAE];simpa using fin
theorem qQo(hK:∀s',Sub s s'->K (.int .i64 (ckI x)) s'):wC TP XX 100 [.agg (ipC x)] K s:=by
 refine qHk (boxN rfl λb s1 hb h1 u1=>?_);have fin:=hK s1 (u1.sub hb);unfold ckI at fin;have r:∀{j:Nat}{y:AV}{R:AV->Prop},(ipC x)[j]?=some y->R y->oK (qAC j (.ptr b 0)) λv=>oK (rd1 s1 v) R:=fun {j y R} e h=>qAA (a:=.ptr b j) (by rw[qAG,zA]) (qAA (by rw[qAJ h1];exact e) h);have T5:∀{t1 t2:AV},qAO t1 (.bool true) t2=some (.bool true)->K (.int .i64 2) s1->qBh XX (.ptr b 0) t1 t2 K s1:=fun {t1 t2} e h=>by unfold qBh;refine qAA e ?_;rw[qAH];exact h
 have T4:∀{t1 t2:AV},qAO t1 (.bool true) t2=some (.bool true)->K (.int .i64 2) s1->qBk XX (.ptr b 0) t1 t2 K s1:=fun {t1 t2} e h=>by unfold qBk;refine qAA e ?_;rw[qAH];exact T5 rfl h
 have T3:∀{t1 t2:AV},qAO t1 (.bool true) t2=some (.bool true)->K (.int .i64 2) s1->qBi XX (.ptr b 0) t1 t2 K s1:=fun {t1 t2} e h=>by unfold qBi;refine qAA e ?_;rw[qAH];exact T4 rfl h
 have T2:∀{t1 t2:AV},qAO t1 (.bool true) t2=some (.bool true)->K (.int .i64 2) s1->qBf XX (.ptr b 0) t1 t2 K s1:=fun {t1 t2} e h=>by unfold qBf;refine qAA e ?_;rw[qAH];exact h
 have T1:∀{t1 t2:AV},qAO t1 (.bool true) t2=some (.bool true)->K (.int .i64 2) s1->qBg XX (.ptr b 0) t1 t2 K s1:=fun {t1 t2} e h=>by unfold qBg;refine qAA e ?_;rw[qAH];exact T2 rfl h
 have T0:∀{t1 t2:AV},qAO t1 (.bool true) t2=some (.bool true)->K (.int .i64 2) s1->qBj XX (.ptr b 0) t1 t2 K s1:=fun {t1 t2} e h=>by unfold qBj;refine qAA e ?_;rw[qAH];exact T1 rfl h
 refine r (y:=.int .i64 x.a10) rfl ?_;rw[qAR,qAB];cases c1:decide (x.a10<0)with
 |true=>rw[c1]at fin;rw[qAH];exact T0 rfl (by simpa using fin)
 |false=>
 rw[c1]at fin;rw[qAE];refine r (y:=.int .i64 x.a10) rfl ?_;rw[qAq,qAB];cases c2:decide (255<x.a10)with
 |true=>rw[c2]at fin;exact T0 rfl (by simpa using fin)
 |false=>
 rw[c2]at fin;unfold qBj;refine qAA (a:=.bool false) rfl ?_;rw[qAE];refine r (y:=.int .i64 x.pr) rfl ?_;rw[qAR,qAB];cases c3:decide (x.pr<0)with
 |true=>rw[c3]at fin;exact T1 rfl (by simpa using fin)
 |false=>
 rw[c3]at fin;unfold qBg;refine qAA (a:=.bool false) rfl ?_;rw[qAE];refine r (y:=.int .i64 x.pr) rfl ?_;rw[qAq,qAB];cases c4:decide (255<x.pr)with
 |true=>rw[c4]at fin;exact T2 rfl (by simpa using fin)
 |false=>
 rw[c4]at fin;unfold qBf;refine qAA (a:=.bool false) rfl ?_;rw[qAE];refine r (y:=.int .i64 x.p1) rfl ?_;rw[qAR,qAB];cases c5:decide (x.p1<0)with
 |true=>rw[c5]at fin;rw[qAH];exact T3 rfl (by simpa using fin)
 |false=>
 rw[c5]at fin;rw[qAE];refine r (y:=.int .i64 x.p1) rfl ?_;rw[qAq,qAB];cases c6:decide (65535<x.p1)with
 |true=>rw[c6]at fin;exact T3 rfl (by simpa using fin)
 |false=>
 rw[c6]at fin;unfold qBi;refine qAA (a:=.bool false) rfl ?_;rw[qAE];refine r (y:=.int .i64 x.p2) rfl ?_;rw[qAR,qAB];cases c7:decide (x.p2<0)with
 |true=>rw[c7]at fin;exact T4 rfl (by simpa using fin)
 |false=>
 rw[c7]at fin;unfold qBk;refine qAA (a:=.bool false) rfl ?_;rw[qAE];refine r (y:=.int .i64 x.p2) rfl ?_;rw[qAq,qAB];cases c8:decide (65535<x.p2)with
 |true=>rw[c8]at fin;exact T5 rfl (by simpa using fin)
 |false=>
 rw[c8]at fin;unfold qBh;refine qAA (a:=.bool false) rfl ?_;rw[qAE];refine r (y:=.int .i64 x.pr) rfl (qRv ?_);rw[qAj,qAB];cases c9:prtB x.pr with
 | true=>
   rw[c9]at fin;rw[Bool.not_true,qAE];refine qAA (a:=.bool false) rfl ?_;rw[qAE];simpa using fin
 | false=>
   rw[c9]at fin;rw[Bool.not_false,qAH];refine r (y:=.int .i64 x.p1) rfl ?_;simp only[qAb,qAZ,Bool.true_bne,qAB];cases d1:(x.p1 == 0)with
   | false=>
     rw[Bool.not_false,qAH];unfold qCI;refine qAA (a:=.bool true) rfl (qAA (a:=.bool true) rfl ?_);rw[qAH];have d1:x.p1≠0:=by simpa using d1
     simpa [d1]using fin
   | true=>
     rw[Bool.not_true,qAE];have d1:x.p1=0:=by simpa using d1
     refine r (y:=.int .i64 x.p2) rfl ?_;simp only[qAb,qAZ,Bool.true_bne,qAB];unfold qCI;cases d2:(x.p2 == 0)with
     | false=>
       have d2:x.p2≠0:=by simpa using d2
       refine qAA (a:=.bool true) rfl (qAA (a:=.bool true) rfl ?_);rw[qAH];simpa [d1,d2]using fin
     | true=>
       have d2:x.p2=0:=by simpa using d2
       refine qAA (a:=.bool false) rfl (qAA (a:=.bool false) rfl ?_);rw[qAE];simpa [d1,d2]using fin
end Go.AM.OR
set_option maxRecDepth 100000
namespace Go.AM.OR
open Go Go.Proofs Go.AM.TN
variable {K:AV→Hq→Prop} {s s':Hq} {v:AV} {b c k:Nat} {x:FC.Fr}
theorem eq44(a3 a4 a5 a6 a7:Int):qHg TP 44 (.agg [.int .i64 a3,.int .u64 a4,.int .u32 a5,.int .u64 a6,.int .u32 a7]) (.agg [.int .i64 0,.int .u64 0,.int .u32 0,.int .u64 0,.int .u32 0])=cond (eqI a3 0) (cond (eqI a4 0) (cond (eqI a5 0) (cond (eqI a6 0) (cond (eqI a7 0) (some true) (some false)) (some false)) (some false)) (some false)) (some false):=by kernel_rfl
theorem eq46(a b c d e f:Int):qHg TP 46 (.agg [.int .u32 a,.int .u32 b,.int .i64 c,.int .i64 d,.int .i64 e,.int .i64 f]) (.agg [.int .u32 0,.int .u32 0,.int .i64 0,.int .i64 0,.int .i64 0,.int .i64 0])=cond (eqI a 0) (cond (eqI b 0) (cond (eqI c 0) (cond (eqI d 0) (cond (eqI e 0) (cond (eqI f 0) (some true) (some false)) (some false)) (some false)) (some false)) (some false)) (some false):=by kernel_rfl
theorem qZ1:qHg TP 44 (.agg (arC x)) (.agg [.int .i64 0,.int .u64 0,.int .u32 0,.int .u64 0,.int .u32 0])=some (ar0 x):=by unfold arC ar0;rw[eq44];simp only[qDv];cases(x.a3 == 0)<;>cases(x.a4 == 0)<;>cases(x.a5 == 0)<;>cases(x.a6 == 0)<;>cases(x.a7 == 0)<;>rfl
theorem qZr:qHg TP 46 (.agg (ipC x)) (.agg [.int .u32 0,.int .u32 0,.int .i64 0,.int .i64 0,.int .i64 0,.int .i64 0])=some (ip0 x):=by unfold ipC ip0;rw[eq46];simp only[qDv];cases(x.hs == 0)<;>cases(x.hd == 0)<;>cases(x.a10 == 0)<;>cases(x.pr == 0)<;>cases(x.p1 == 0)<;>cases(x.p2 == 0)<;>rfl
theorem qMV(hK:∀s',Sub s s'->K (.int .i64 (ckE x)) s'):wC TP XX 71 [.agg (FC.frC x)] K s:=by
 refine qIh (boxN rfl λb s1 hb h1 u1=>?_);have k1:=u1.sub hb;have h1:s1 b=some (false,.cells 48 (FC.frC x)):=h1;have r:∀{j:Nat}{y:AV}{R:AV->Prop},(FC.frC x)[j]?=some y->R y->oK (qAC j (.ptr b 0)) λv=>oK (rd1 s1 v) R:=fun {j y R} e h=>qAA (a:=.ptr b j) (by rw[qAG,zA]) (qAA (by rw[qAJ h1];exact e) h);have rA:rdN s1 5 (.ptr b 3)=some (arC x):=(qPt h1 (by show 3+5<=15;omega)).trans rfl;have rI:rdN s1 6 (.ptr b 8)=some (ipC x):=(qPt h1 (by show 8+6<=15;omega)).trans rfl;have fin:∀{s'},Sub s1 s'->K (.int .i64 (ckE x)) s':=λk=>hK _ (k1.trans k);have fin0:=fin (.refl s1);unfold ckE at fin fin0;have T0:∀{t1 t2:AV},qAO t1 (.bool true) t2=some (.bool true)->(decide (MXM<x.src)||decide (MXM<x.dst))=true->qB3 XX (.ptr b 0) t1 t2 K s1:=fun {t1 t2} e h=>by unfold qB3;refine qAA e ?_;rw[qAH];rw[if_pos h]at fin0;exact fin0
 refine r (y:=.int .u64 x.src) rfl ?_;rw[qAq,qAB];cases c1:decide (MXM<x.src)with
 |true=>rw[qAH];exact T0 rfl (by rw[c1];rfl)
 |false=>
 rw[qAE];refine r (y:=.int .u64 x.dst) rfl ?_;rw[qAq,qAB];cases c2:decide (MXM<x.dst)with
 |true=>exact T0 rfl (by rw[c1,c2];rfl)
 |false=>
 rw[c1,c2]at fin fin0;simp only[Bool.or_self,Bool.false_eq_true,if_false]at fin fin0;unfold qB3;refine qAA (a:=.bool false) rfl ?_;rw[qAE];refine r (y:=.int .u64 x.src) rfl (qHL XX_0 ?_);cases c3:qLg x.src with
 |true=>rw[c3]at fin0;rw[qAH];simpa using fin0
 |false=>
 rw[c3]at fin fin0;simp only[Bool.false_eq_true,if_false]at fin fin0;rw[qAE];refine r (y:=.int .i64 x.kind) rfl ?_;simp only[qAb,qAZ,Bool.true_bne,qAB];have last4:∀{t36 t40 t44:AV}{a c:Bool},qAO t40 t44 (.bool false)=some (.bool c)->qAO t36 (.bool true) (.bool c)=some (.bool a)->a=((x.kind != 1&&!ar0 x)||(x.kind != 2&&!ip0 x))->(x.kind != 0&&(x.kind != 1&&x.kind != 2))=false->qCc XX (.ptr b 0) t36 t40 t44 K s1:=fun {t36 t40 t44 a c} e1 e2 q q6=>by
  rw[q6,<- q]at fin fin0;simp only[Bool.false_eq_true,if_false]at fin fin0;unfold qCc;refine qAA e1 (qAA e2 ?_);cases a with
  |true=>rw[qAH];simpa using fin0
  | false=>
    simp only[Bool.false_eq_true,if_false]at fin fin0;rw[qAE];refine r (y:=.int .i64 x.kind) rfl ?_;simp only[qAb,qAZ,Bool.false_bne,qAB];cases d1:(x.kind == 1)with
    | true=>
      rw[d1]at fin;rw[qAH];refine qAA (a:=.ptr b 3) rfl (qAA rA (qPj λs' k=>?_));simpa using fin k
    | false=>
      rw[d1]at fin fin0;rw[qAE];cases d2:(x.kind == 2)with
      | true=>
        rw[d2]at fin;rw[qAH];refine qAA (a:=.ptr b 8) rfl (qAA rI (qQo λs' k=>?_));simpa using fin k
      | false=>
        rw[d2]at fin0;rw[qAE];simpa using fin0
 have last3:∀{t30 t34:AV}{a:Bool},qAO t30 t34 (.bool false)=some (.bool a)->a=(x.kind != 1&&!ar0 x)->(x.kind != 0&&(x.kind != 1&&x.kind != 2))=false->qCi XX (.ptr b 0) t30 t34 K s1:=fun {t30 t34 a} e q q6=>by
  unfold qCi;refine qAA e ?_;cases a with
  | true=>
    rw[q6,<- q]at fin0;rw[qAH];refine qAA (a:=.bool true) rfl ?_;rw[qAH];simpa using fin0
  | false=>
    rw[qAE];refine r (y:=.int .i64 x.kind) rfl ?_;simp only[qAb,qAZ,Bool.true_bne,qAB];cases d2:(x.kind == 2)with
    | true=>
      rw[Bool.not_true,qAE];exact last4 (a:=false) (c:=false) rfl rfl (by rw[<- q,show(x.kind != 2)=false by unfold bne;rw[d2];rfl];rfl) q6
    | false=>
      rw[Bool.not_false,qAH];refine qAA (a:=.ptr b 8) rfl (qAA rI (qAA (a:=[.int .u32 0,.int .u32 0,.int .i64 0,.int .i64 0,.int .i64 0,.int .i64 0]) rfl ?_));rw[qZr];simp only[qAZ,Bool.true_bne,qAB];exact last4 (a:=!ip0 x) (c:=!ip0 x) rfl rfl (by rw[<- q,show(x.kind != 2)=true by unfold bne;rw[d2];rfl];simp) q6
 have j2n:∀{t22 t25:AV},qAO t22 t25 (.bool false)=some (.bool false)->(x.kind != 0&&(x.kind != 1&&x.kind != 2))=false->qB7 XX (.ptr b 0) t22 t25 K s1:=fun {t22 t25} e q6=>by
  unfold qB7;refine qAA e ?_;rw[qAE];refine r (y:=.int .i64 x.kind) rfl ?_;simp only[qAb,qAZ,Bool.true_bne,qAB];cases d1:(x.kind == 1)with
  | true=>
    rw[Bool.not_true,qAE];exact last3 (a:=false) rfl (by rw[show(x.kind != 1)=false by unfold bne;rw[d1];rfl];rfl) q6
  | false=>
    rw[Bool.not_false,qAH];refine qAA (a:=.ptr b 3) rfl (qAA rA (qAA (a:=[.int .i64 0,.int .u64 0,.int .u32 0,.int .u64 0,.int .u32 0]) rfl ?_));rw[qZ1];simp only[qAZ,Bool.true_bne,qAB];exact last3 (a:=!ar0 x) rfl (by rw[show(x.kind != 1)=true by unfold bne;rw[d1];rfl];simp) q6
 cases d0:(x.kind == 0)with
 | true=>
   rw[Bool.not_true,qAE];unfold qB0;refine qAA (a:=.bool false) rfl ?_;rw[qAE];exact j2n rfl (by rw[show(x.kind != 0)=false by unfold bne;rw[d0];rfl];rfl)
 | false=>
   rw[Bool.not_false,qAH];refine r (y:=.int .i64 x.kind) rfl ?_;simp only[qAb,qAZ,Bool.true_bne,qAB];have n0:(x.kind != 0)=true:=by unfold bne;rw[d0];rfl
   cases d1:(x.kind == 1)with
   | true=>
     unfold qB0;refine qAA (a:=.bool false) rfl ?_;rw[qAE];exact j2n rfl (by rw[show(x.kind != 1)=false by unfold bne;rw[d1];rfl];simp)
   | false=>
     have n1:(x.kind != 1)=true:=by unfold bne;rw[d1];rfl
     unfold qB0;refine qAA (a:=.bool true) rfl ?_;rw[qAH];refine r (y:=.int .i64 x.kind) rfl ?_;simp only[qAb,qAZ,Bool.true_bne,qAB];cases d2:(x.kind == 2)with
     |true=>exact j2n rfl (by rw[show(x.kind != 2)=false by unfold bne;rw[d2];rfl];simp)
     | false=>
       have n2:(x.kind != 2)=true:=by unfold bne;rw[d2];rfl
       unfold qB7;refine qAA (a:=.bool true) rfl ?_;rw[qAH];rw[n0,n1,n2]at fin0;simpa using fin0
end Go.AM.OR
set_option maxRecDepth 100000
namespace Go.AM.OR
open Go Go.Proofs Go.AM.TN
variable {K:AV→Hq→Prop} {s s' H:Hq} {F:FG} {W:WG} {b c i n:Nat} {h l a:Int} {tg:Bool} {x:FC.Fr} {ar:List Int}
structure FOk(F:FG):Prop where
 lk:LnkOk F
 sz:F.lf+F.sp<=10000
 L:F.L.length<=100000
 S:F.S.length<=100000
 H:F.H.length<=100000
 B:F.B.length<=100000
 G:F.G.length<=100000
 S1:∀y∈F.S,y.1.length<=100000
 S2:∀y∈F.S,y.2.length<=100000
theorem FOk.sm(z:FOk F):SmS F:=λy hy=>⟨by have:=z.S1 y hy;omega,by have:=z.S2 y hy;omega⟩
theorem qWP:XX 78=some qOx:=rfl
theorem qGm{f:FuncId}{first args cap:List AV}(h1:isFn TP f=true)(h2:wC TP XX f (first++args++cap) K s):funK TP XX (.fn (.func f) first cap) args K s:=⟨h1,h2⟩
theorem qSN{L:List Int}(h:L.Nodup):(qDI L).Pairwise (· < ·):=by have h1:=qG0 L;have h2:(qDI L).Nodup:=(qDi L).nodup_iff.2 h;exact(h1.and h2).imp λ⟨a,b⟩=>by omega
theorem qZP{b0:Nat}(hS:St s b F W)(hb:s b0=some (tg,.cells 94 [.ptr b 0]))(hK:K (.bool (decide (F.lf<=a))) s):funK TP XX (.fn (.func 77) [] [.ptr b0 0]) [.int .i64 a] K s:=by refine qGm (by kernel_rfl) (qFJ ?_);obtain⟨tg,v2,v3,v4,v5,v6,v7,w1,w2,w3,w4,h1,h2,h3⟩:=hS;refine qAA (a:=.ptr b 0) (by rw[qAJ hb];rfl) (qGN h1 (x:=.int .i64 F.lf) rfl ?_);rw[qBH,qAB];exact hK
theorem qXl(z:FOk F)(hS:St s b F W)(hK:∀v' s' ar,Sub s s'->Sl s' v' (ix ar)->Ar F W l ar->K v' s'):wC TP XX 41 [.ptr b 0,.int .i64 l] K s:=by
 refine qFt (qCs rfl λb0 s1 hb0 h1 u1=>?_);have k1:=u1.sub hb0;have hS1:=hS.sub k1;rw[qAR,qAB];have hrd:rd1 s1 (.ptr b0 0)=some (.ptr b 0):=by rw[qAJ h1];rfl
 have no:upB F W l=false->K .nilslc s1:=λq=>hK _ s1 [] k1 (.inl ⟨rfl,rfl⟩) ⟨λ_=>rfl,λe=>(by rw[q]at e;cases e)⟩;have j1n:∀{t18 t26:AV},qAO t18 (.bool true) t26=some (.bool true)->upB F W l=false->qBC XX (.int .i64 l) (.ptr b0 0) t18 t26 K s1:=fun {t18 t26} e q=>by unfold qBC;refine qAA e ?_;rw[qAH];exact no q
 have j0n:∀{t9 t16:AV},qAO t9 (.bool true) t16=some (.bool true)->upB F W l=false->qBE XX (.int .i64 l) (.ptr b0 0) t9 t16 K s1:=fun {t9 t16} e q=>by unfold qBE;refine qAA e ?_;rw[qAH];exact j1n rfl q
 cases c1:decide (l<0)with
 | true=>
   rw[qAH];exact j0n rfl (by unfold upB;rw[decide_eq_false (by have:=oT c1;omega)];rfl)
 |false=>
 have h0:0<=l:=by have:=oF c1;omega
 rw[qAE];refine qAA hrd ?_;have hS1':=hS1;obtain⟨tg,v2,v3,v4,v5,v6,v7,w1,w2,w3,w4,g1,g2,g3⟩:=hS1';refine qGN g1 (x:=.int .i64 F.lf) rfl ?_;rw[qBH,qAB];cases c2:decide (F.lf<=l)with
 |true=>exact j0n rfl (by unfold upB;rw[decide_eq_false (p:=l<F.lf) (by have:=oT c2;omega)];simp)
 |false=>
 have hlt:l<F.lf:=by have:=oF c2;omega
 unfold qBE;refine qAA (a:=.bool false) rfl ?_;rw[qAE];refine qAA hrd (qIj g1 (x:=w1) rfl (qRf g3.nd ?_));rw[qAj,qAB];have eu:upB F W l=onB W.nd l:=by unfold upB;rw[decide_eq_true h0,decide_eq_true hlt];rfl
 cases c3:onB W.nd l with
 |false=>exact j1n rfl (by rw[eu,c3])
 |true=>
 rw[c3]at eu;unfold qBC;refine qAA (a:=.bool false) rfl ?_;rw[qAE];refine qAA hrd ?_;have hlf:=z.lk.lf;have hsp:=z.lk.sp;have hz:=z.sz;obtain⟨N,hN⟩:=qHr (l:=F.lf+F.sp) (by omega);refine qQm (nx:=nbr F W) (N:=N) h0 (by omega) (by omega) (λx y hy=>by have:=qY9 z.lk hy;omega) (λx=>by have:=qP4 (F:=F) (W:=W) (n:=x) F.L.length;have:=z.L;unfold nbr;omega) (λx s2 J k2 hJ=>qGm (by kernel_rfl) (qM8 z.L (hS1.sub k2) λv' s' kk ac=>hJ v' s' kk ac)) λqb cap s7 Q k7 hqb hc h7 bf=>?_;have hQ:=bf.len;refine qYa (H:=s1) (p:=λn=>decide (F.lf<=n)) k7 hqb h7 hc (by omega) (λx s2 J k2 hJ=>qZP (hS1.sub k2) (k2 _ _ h1) (hJ s2 (.refl _))) λcap' T s9 hcap k9 h9=>?_;refine qOz (T:=T) qWP h9 (by have:=List.length_filter_le (λn=>!decide (F.lf<=n)) Q;omega) λs11 h11 u11=>?_;have hsl:=(qDi (Q.filter λn=>!decide (F.lf<=n))).length_eq;have hsub:Sub s s11:=k1.trans (qAY k9 u11 hqb);rw[<- hsl];refine hK _ s11 (qDI (Q.filter λn=>!decide (F.lf<=n))) hsub ?_ ⟨λe=>(by rw[eu]at e;cases e),λ_=>⟨qSN (bf.nd.filter _),λn=>?_⟩⟩
 ·have h11:s11 qb=some (false,.cells 3 (ix (qDI (Q.filter λn=>!decide (F.lf<=n)))++T)):=h11
  exact .inr ⟨qb,0,cap',by rw[qA6],λc e=>(by rw[qA6,hsl];exact hcap c e),λ_=>⟨_,_,_,h11,(by rw[lAp];omega),λi hi=>(by rw[zA,List.getElem?_append_left hi])⟩⟩
 ·rw[qTk,List.mem_filter,bf.done n]
  have:∀{y},Rch (nbr F W) l y->0<=y:=fun {y} hy=>(bf.rng y ((bf.done y).2 hy)).1;simp only[Bool.not_eq_true',decide_eq_false_iff_not];exact⟨λ⟨q1,q2⟩=>⟨⟨this q1,by omega⟩,q1⟩,λ⟨q1,q2⟩=>⟨q2,by omega⟩⟩
end Go.AM.OR
set_option maxRecDepth 100000
namespace Go.AM.OR
open Go Go.Proofs Go.AM.TN
variable {K:AV→Hq→Prop} {s s' t H:Hq} {v w fv:AV} {F:FG} {W:WG} {b c i n:Nat} {h l sg a:Int} {tg:Bool} {x:FC.Fr} {ar:List Int} {hd:List Hd} {ip:Bool}
theorem w64{n:Int}(h1:-9223372036854775808<=n)(h2:n<=9223372036854775807):qBQ .i64 n=n:=by rw[qBs,qAc h1 h2]
theorem qWq(x:FC.Fr):∃n:Nat,FC.ent x=(n:Int)/\n<=70000:=by
 have h1:=Int.tmod_lt_of_pos (FC.hsh 2166136261 (FC.flw x)) (show(0:Int)<16384 by omega);have h2:-(16384:Int)<(FC.hsh 2166136261 (FC.flw x)).tmod 16384:=by have:=Int.tmod_lt_of_pos (-(FC.hsh 2166136261 (FC.flw x))) (show(0:Int)<16384 by omega);rw[Int.neg_tmod]at this;omega
 have e:FC.ent x=49152+(FC.hsh 2166136261 (FC.flw x)).tmod 16384:=by unfold FC.ent;rw[w64 (by omega) (by omega),qAc (by omega) (by omega)]
 exact⟨(FC.ent x).toNat,by omega,by omega⟩
def entO(F:FG)(W:WG)(h:Int)(x:FC.Fr):Option Int:=match att F W h with
 |some sg=>(mems F W sg)[(FC.ent x).toNat % (mems F W sg).length]?
 |none=>none
theorem qNx(e:entO F W h x=some l):∃sg,att F W h=some sg/\l∈mems F W sg:=by
 unfold entO at e;split at e
 ·rename_i sg hs
  exact⟨sg,hs,mG e⟩
 ·cases e
theorem qQO(z:FOk F)(hS:St s b F W)(hK:∀s',Sub s s'->K (.tup [.int .i64 ((entO F W h x).getD 0),.bool (entO F W h x).isSome]) s'):wC TP XX 61 [.ptr b 0,.int .i64 h,.agg (FC.frC x)] K s:=by
 refine qFS (boxN rfl λb0 s1 hb0 h1 u1=>?_);have k1:=u1.sub hb0;have h1:s1 b0=some (false,.cells 48 (FC.frC x)):=h1;refine qLN z.sm (hS.sub k1) λs3 k3=>?_;have k13:=k1.trans k3;unfold entO at hK;cases ha:att F W h with
 | none=>
   rw[ha]at hK;refine qAA (a:=.int .i64 0) rfl (qAA (a:=.bool false) rfl (qAA (a:=.bool true) rfl ?_));rw[qAH];exact hK s3 k13
 | some sg=>
   rw[ha]at hK;simp only at hK;refine qAA (a:=.int .i64 sg) rfl (qAA (a:=.bool true) rfl (qAA (a:=.bool false) rfl ?_));rw[qAE];refine qL4 z.sm z.S1 (hS.sub k13) λv7 s8 k8 hv=>?_;have k18:=k13.trans k8;refine qAA (by rw[hv.len,qA6]) ?_;simp only[qAb,qAZ,Bool.false_bne,qAB];generalize mems F W sg=M at hK hv;cases M with
   | nil=>
     rw[show((([]:List Int).length:Int) == 0)=true from rfl,qAH];exact hK s8 k18
   | cons y M=>
     have e0:(((y::M).length:Int) == 0)=false:=by rw[beq_eq_false_iff_ne,List.length_cons];omega
     rw[e0,qAE];refine qAA (qAX (k8 _ _ (k3 _ _ h1)) rfl) (FC.Entropy_in λs14 k14=>?_);refine qAA (by rw[hv.len,qA6]) ?_;obtain⟨n,hn,_⟩:=qWq x;have hne:(((y::M).length:Nat):Int)≠0:=by rw[List.length_cons];omega
     rw[hn,qGr hne,qAB];have er:(n:Int).tmod (((y::M).length:Nat):Int)=((n % (y::M).length:Nat):Int):=by rw[Int.tmod_eq_emod_of_nonneg (by omega)];rfl
     have hlt:n % (y::M).length<(y::M).length:=Nat.mod_lt _ (by simp);rw[er];obtain⟨pp,g1,g2⟩:=(hv.sub k14).get (i:=n % (y::M).length) (by rw[qA6];exact hlt);rw[qGP hlt]at g2;refine qAA g1 (qAA g2 ?_);have:=hK s14 (k18.trans k14);have en:(FC.ent x).toNat=n:=by omega
     rw[en,gE hlt]at this;exact this
def accO(F:FG)(W:WG)(h:Int)(x:FC.Fr):Option Int:=match entO F W h x with
 |some l=>if(x.src == macA F h.toNat&&ckE x == 0)=true then some l else none
 |none=>none
theorem qPV(z:FOk F)(hS:St s b F W)(hK:∀s',Sub s s'->K (.tup [.int .i64 ((accO F W h x).getD 0),.bool (accO F W h x).isSome]) s'):wC TP XX 39 [.ptr b 0,.int .i64 h,.agg (FC.frC x)] K s:=by
 refine qEp (boxN rfl λb0 s1 hb0 h1 u1=>?_);have k1:=u1.sub hb0;have h1:s1 b0=some (false,.cells 48 (FC.frC x)):=h1;refine qAA (qAX h1 rfl) (qQO z (hS.sub k1) λs4 k4=>?_);have k14:=k1.trans k4;have h4:=k4 _ _ h1;unfold accO at hK;have no:∀{lf t33 t36:AV}{s':Hq},qAO t33 (.bool true) t36=some (.bool true)->K (.tup [.int .i64 0,.bool false]) s'->qAw XX lf t33 t36 K s':=fun {lf t33 t36 s'} e h=>by unfold qAw;refine qAA e ?_;rw[qAH];exact h
 have no0:∀{lf t19 t31:AV}{s':Hq},qAO t19 (.bool true) t31=some (.bool true)->K (.tup [.int .i64 0,.bool false]) s'->qA0 XX (.ptr b0 0) lf t19 t31 K s':=fun {lf t19 t31 s'} e h=>by unfold qA0;refine qAA e ?_;rw[qAH];exact no rfl h
 cases he:entO F W h x with
 | none=>
   rw[he]at hK;refine qAA (a:=.int .i64 0) rfl (qAA (a:=.bool false) rfl (qAA (a:=.bool true) rfl ?_));rw[qAH];exact no0 rfl (hK s4 k14)
 | some l=>
   rw[he]at hK;simp only at hK;refine qAA (a:=.int .i64 l) rfl (qAA (a:=.bool true) rfl (qAA (a:=.bool false) rfl ?_));rw[qAE];obtain⟨sg,hs,_⟩:=qNx he;obtain⟨y,g,h0,hy,_⟩:=qVb hs;obtain⟨i,rfl⟩:=qHr h0;have ei:(i:Int).toNat=i:=by omega
   rw[ei]at hy hK;have hS4:=hS.sub k14;obtain⟨tg,v2,v3,v4,v5,v6,v7,w1,w2,w3,w4,q1,q2,q3⟩:=hS4;obtain⟨hb,ho,b1,b2,b3⟩:=q2.H.get (i:=i) (r:=hgC y) (by rw[List.getElem?_map,hy];rfl);have em:macA F i=y.1:=by unfold macA;rw[hy]
   rw[em]at hK;refine qAA (a:=.ptr b0 0) rfl (qAA (a:=.int .u64 x.src) (by rw[qAJ h4];rfl) (qGN q1 (x:=v6) rfl (qAA b1 (qAA (a:=.ptr hb ho) rfl (qAA (a:=.int .u64 y.1) ((b3 0 (by omega)).trans rfl) ?_)))));simp only[qAb,qAZ,Bool.true_bne,qAB];cases c1:(x.src == y.1)with
   | false=>
     rw[c1]at hK;exact no0 rfl (hK s4 k14)
   | true=>
     rw[c1]at hK;unfold qA0;refine qAA (a:=.bool false) rfl ?_;rw[qAE];refine qAA (qAX h4 rfl) (qMV λs12 k12=>?_);simp only[qAb,qAZ,Bool.true_bne,qAB];have:=hK s12 (k14.trans k12);cases c2:(ckE x == 0)with
     | false=>
       rw[c2]at this;exact no rfl this
     | true=>
       rw[c2]at this;unfold qAw;refine qAA (a:=.bool false) rfl ?_;rw[qAE];exact this
theorem qDK(z:FOk F)(hS:St s b F W)(ha:Sl s v (ix ar))(hl:ar.length<=100000)(hK:∀s',Sub s s'->K (.bool (wthB F W sg ar)) s'):wC TP XX 89 [.ptr b 0,.int .i64 sg,v] K s:=by
 refine qFG (qCs ha.one λb0 s1 hb0 h1 u1=>?_);have k1:=u1.sub hb0;refine qL4 z.sm z.S1 (hS.sub k1) λv2 s3 k3 hv=>?_;have hM:(mems F W sg).length<=100000:=by
  unfold mems;split
  ·split
   ·rename_i y hy
    have:=z.S1 y (mG hy);exact Nat.le_trans (List.length_filter_le _ _) this
   ·simp
  ·simp
 refine qG1 XX_0 (p:=λl=>decide (l∈ar)) (by omega) hv (λl s4 J k4 hJ=>qGm (by kernel_rfl) (qEa ?_)) λs5 k5=>hK s5 (k1.trans (k3.trans k5));have k14:=k1.trans (k3.trans k4);refine qAA (a:=v) (by rw[qAJ ((k3.trans k4) _ _ h1)];rfl) (qGE XX_0 (by omega) (ha.sub k14) (hJ s4 (.refl _)))
def hdC(e:Hd):List AV:=[.int .i64 e.1,.int .i64 e.2.1,.bool e.2.2]
theorem qL1{p:Hd->Bool}(hn:hd.length<=100000)(hv:SlR 3 s v (hd.map hdC))(hp:∀(e:Hd) (s1:Hq) (J:AV->Hq->Prop),Sub s s1->(∀s',Sub s1 s'->J (.bool (p e)) s')->funK TP XX fv [.agg (hdC e)] J s1)
  (hK:∀s',Sub s s'->K (.int .i64 (fstI p hd)) s'):wC TP XX 59 [v,fv] K s:=by
 refine qCp ?_;unfold qBq;refine qAA (by rw[hv.len,lM]) ?_;refine⟨λys t m=>∃i:Nat,ys=[.int .i64 (i:Int)]/\i<=hd.length/\m=hd.length-i/\Sub s t/\∀j z,j<i->hd[j]?=some z->p z=false,⟨_,0,rfl,by omega,rfl,.refl _,λj z hj=>by omega⟩,?_⟩;rintro f t m ⟨i,hy,hi,rfl,kt,hall⟩;simp only[cI,and_true]at hy;rw[hy];unfold qBc;rw[qAR,qAB];refine qAI (λhlt=>?_) (λhge=>?_)
 rotate_left
 ·have hge:i=hd.length:=by have:=oF hge;omega
  subst hge;have:=hK t kt;rw[qG4 λj z hz=>hall j z (gS hz).1 hz]at this;exact this
 have hlt:i<hd.length:=by have:=oT hlt;omega
 have hx:hd[i]?=some hd[i]:=gE hlt;generalize hd[i]=e at hx;obtain⟨pb,po,e1,e2,e3⟩:=(hv.sub kt).get (i:=i) (r:=hdC e) (by rw[List.getElem?_map,hx];rfl);refine qAA e1 (qAA e2 (hp e t _ kt λs6 k6=>?_));refine qAI (λq=>?_) (λq=>?_)
 ·have:=hK s6 (kt.trans k6)
  rw[qIq hx q hall]at this;exact this
 ·rw[qAN,qAB,qAc (by omega) (by omega)]
  refine⟨_,by omega,i+1,rfl,by omega,rfl,kt.trans k6,λj z hj hz=>?_⟩
  by_cases e:j<i
  ·exact hall j z e hz
  ·have:j=i:=by omega
   subst this;rw[hx]at hz;cases hz;exact q
theorem qRE{b0 b2 b4:Nat}{e:Hd}(h0:s b0=some (false,.cells 34 [v]))(h2:s b2=some (false,.cells 3 [.int .i64 h]))(h4:s b4=some (false,.cells 4 [.bool ip]))(ha:Sl s v (ix ar))(hl:ar.length<=100000)(hK:∀s',Sub s s'->K (.bool ((e.1 == h)&&((e.2.2||!ip)&&decide (e.2.1∈ar)))) s'):wC TP XX 91 [.agg (hdC e),.ptr b2 0,.ptr b4 0,.ptr b0 0] K s:=by
 refine qEs (boxN rfl λb s1 hb h1 u1=>?_);have k1:=u1.sub hb;have h1:s1 b=some (false,.cells 77 (hdC e)):=h1;have fin:=hK s1 k1;refine qAA (a:=.ptr b 0) rfl (qAA (a:=.int .i64 e.1) (by rw[qAJ h1];rfl) (qAA (a:=.int .i64 h) (by rw[qAJ (k1 _ _ h2)];rfl) ?_));simp only[qAb,qAZ,Bool.false_bne,qAB];cases c1:(e.1 == h)with
 | false=>
   rw[c1]at fin;rw[qAE];refine qAA (a:=.bool false) rfl ?_;rw[qAE];unfold qBv;exact qAA (a:=.bool false) rfl fin
 | true=>
   rw[c1,Bool.true_and]at fin;rw[qAH];refine qAA (a:=.ptr b 2) rfl (qAA (a:=.bool e.2.2) (by rw[qAJ h1];rfl) ?_);have j0:∀{t15:AV}{a c:Bool},qAO (.bool a) (.bool true) t15=some (.bool c)->(e.2.2||!ip)=c->qBN XX (.ptr b0 0) (.ptr b 0) (.bool true) (.bool a) t15 K s1:=fun {t15 a c} q r=>by
    unfold qBN;refine qAA q (qAA (a:=.bool c) rfl ?_);rw[r]at fin;cases c with
    | false=>
      rw[qAE];unfold qBL;exact qAA (a:=.bool false) rfl fin
    | true=>
      rw[Bool.true_and]at fin;rw[qAH];refine qAA (a:=v) (by rw[qAJ (k1 _ _ h0)];rfl) (qAA (a:=.ptr b 1) rfl (qAA (a:=.int .i64 e.2.1) (by rw[qAJ h1];rfl) (qGE XX_0 (by omega) (ha.sub k1) ?_)));unfold qBL;exact qAA (a:=.bool _) rfl fin
   cases c2:e.2.2 with
   | true=>
     rw[qAH];exact j0 (a:=true) (c:=true) rfl (by rw[c2];rfl)
   | false=>
     rw[qAE];refine qAA (a:=.bool ip) (by rw[qAJ (k1 _ _ h4)];rfl) ?_;rw[qAj,qAB];exact j0 (a:=false) (c:=!ip) rfl (by rw[c2];rfl)
theorem qUQ(z:FOk F)(hS:St s b F W)(ha:Sl s v (ix ar))(hl:ar.length<=100000)(hv:SlR 3 s w (hd.map hdC))(hn:hd.length<=100000)(hK:∀s',Sub s s'->K (.bool (knw F W ar hd h ip)) s'):wC TP XX 62 [.ptr b 0,v,w,.int .i64 h,.bool ip] K s:=by
 refine qFV (qCs ha.one λb0 s1 hb0 h1 u1=>qCs rfl λb2 s3 hb2 h3 u3=>qCs rfl λb4 s5 hb4 h5 u5=>?_);have k1:=u1.sub hb0;have k3:=u3.sub hb2;have k5:=u5.sub hb4;have k15:=k1.trans (k3.trans k5);have h15:=(k3.trans k5) _ _ h1;have h35:=k5 _ _ h3;refine qAA (a:=.int .i64 h) (by rw[qAJ h35];rfl) (qLN z.sm (hS.sub k15) λs8 k8=>?_);have k18:=k15.trans k8;unfold knw at hK;have no:∀{t21 t26:AV}{s':Hq},qAO t21 (.bool true) t26=some (.bool true)->K (.bool false) s'->qA8 XX w (.ptr b0 0) (.ptr b2 0) (.ptr b4 0) t21 t26 K s':=fun {t21 t26 s'} e h=>by unfold qA8;refine qAA e ?_;rw[qAH];exact h
 cases hat:att F W h with
 | none=>
   rw[hat]at hK;refine qAA (a:=.int .i64 0) rfl (qAA (a:=.bool false) rfl (qAA (a:=.bool true) rfl ?_));rw[qAH];exact no rfl (hK s8 k18)
 | some sg=>
   rw[hat]at hK;simp only at hK;refine qAA (a:=.int .i64 sg) rfl (qAA (a:=.bool true) rfl (qAA (a:=.bool false) rfl ?_));rw[qAE];refine qAA (a:=v) (by rw[qAJ (k8 _ _ h15)];rfl) (qDK z (hS.sub k18) (ha.sub k18) hl λs17 k17=>?_);have k117:=k18.trans k17;rw[qAj,qAB];cases c:wthB F W sg ar with
   | false=>
     have:=hK s17 k117;rw[c]at this;exact no rfl this
   | true=>
     simp only[c,Bool.true_and]at hK;unfold qA8;refine qAA (a:=.bool false) rfl ?_;rw[qAE];refine qCZ (qL1 (p:=λe=>(e.1 == h)&&((e.2.2||!ip)&&decide (e.2.1∈ar))) hn (hv.sub k117) (λe s2 J k2 hJ=>qGm (by kernel_rfl) ?_) λs' k'=>?_)
     ·have kk:=(k8.trans k17).trans k2
      exact qRE (kk _ _ h15) (kk _ _ h35) (kk _ _ h5) (ha.sub (k117.trans k2)) hl hJ
     ·simp only[qBH,qAB,qLH]
      exact hK s' (k117.trans k')
end Go.AM.OR
set_option maxRecDepth 100000
namespace Go.AM.OR
open Go Go.Proofs Go.AM.TN
variable {K:AV→Hq→Prop} {s s' H:Hq} {v w:AV} {cs ws:List AV} {F:FG} {W:WG} {b c i k n:Nat} {h l a:Int} {x:FC.Fr} {ar:List Int} {hd:List Hd} {ip:Bool}
theorem qT4{L:List Int}{m:Int}(h:L.Pairwise (· < ·))(hr:∀n∈L,0<=n/\n<m)(hm:m<=64):L.length<=64:=
 qMT (N:=64) (h.imp λq=>by omega) λx hx=>by have:=hr x hx;omega
theorem qP0(hv:Valid F):FOk F:=by
 have h0:FabOk F:=hv 0 (by omega);have h2:LinksOk F:=hv 2 (by omega);have h4:DomOk F:=hv 4 (by omega);have h5:SegOk F:=hv 5 (by omega);have h6:HosOk F:=hv 6 (by omega);have h7:LeaOk F:=hv 7 (by omega);have a1:=h0.lf;have a2:=h0.sp;have a3:=h0.sum;refine⟨⟨by omega,by omega,λx hx=>?_⟩,by omega,by have:=h2.n;omega,by have:=h5.n;omega,by have:=h6.n;omega,by have:=h4.n;omega,by have:=h7.n;omega,λy hy=>?_,λy hy=>?_⟩
 ·obtain⟨i,hi⟩:=List.getElem?_of_mem hx
  obtain⟨q1,q2,_⟩:=(h2.row i x hi).1;exact⟨q1,q2⟩
 ·obtain⟨_,q,q1,_⟩:=h5.row y hy
  have:=qT4 q1 q.1 (by omega);omega
 ·obtain⟨_,q,_,q2⟩:=h5.row y hy
  have:=h4.n;have:=qT4 q2 q.2 (by omega);omega
theorem qYb(z:FOk F)(h:Ar F W l ar):ar.length<=100000:=by
 cases c:upB F W l with
 |false=>rw[h.1 c];simp
 | true=>
   obtain⟨h1,h2⟩:=h.2 c;have hz:=z.sz;have hl:=z.lk.lf;have hs:=z.lk.sp;have:=qMT (N:=10000) (h1.imp λq=>by omega) λy hy=>by have:=((h2 y).1 hy).1;omega
   omega
def WR(s:Hq)(ws:List AV)(W:WG):Prop:=∃w1 w2 w3 w4,ws=[w1,w2,w3,w4]/\WL s W w1 w2 w3 w4
theorem WR.sub(h:WR s ws W)(k:Sub s s'):WR s' ws W:=by obtain⟨w1,w2,w3,w4,e,h⟩:=h;exact⟨w1,w2,w3,w4,e,h.sub k⟩
theorem qTQ{P:List (List Bool)}(h:PtR s v P):v.one=true:=by obtain⟨vs,h1,_⟩:=h;exact h1.one
theorem WL.all{w1 w2 w3 w4:AV}(h:WL s W w1 w2 w3 w4):qAW [w1,w2,w3,w4]=true:=by simp[h.nd.one,h.lk.one,qTQ h.pt,h.wh.one]
theorem qXo(v0 v1 v2 v3 v4 v5 v6 v7 v8 v9 v10 v11 v12 v13 v14 v15 v16 v17 v18 w1 w2 w3 w4:AV):qAr [(.int .i64 0),(.int .i64 0),.nilslc,.nilslc,.nilslc,.nilslc,.nilslc,.nilslc,(.int .i64 0),(.int .i64 0),(.int .i64 0),(.bool false),(.bool false),(.int .i64 0),(.int .i64 0),(.int .i64 0),(.int .i64 0),(.int .i64 0),(.int .i64 0),.nilslc,.nilslc,.nilslc,.nilslc] [(0,19,.agg [v0,v1,v2,v3,v4,v5,v6,v7,v8,v9,v10,v11,v12,v13,v14,v15,v16,v17,v18]),(19,4,.agg [w1,w2,w3,w4])]=some [v0,v1,v2,v3,v4,v5,v6,v7,v8,v9,v10,v11,v12,v13,v14,v15,v16,v17,v18,w1,w2,w3,w4]:=by kernel_rfl
theorem qHS(hv0:Valid F)(z:Sz F)(hF:FabR s cs F)(hW:WR s ws W)(h1:Valid F->∀b s',Sub s s'->St s' b F W->K (.tup [.ptr b 0,.bool true]) s')(h2:¬Valid F->∀s',Sub s s'->K (.tup [.nilptr,.bool false]) s'):wC TP XX 38 [.agg cs,.agg ws] K s:=by
 obtain⟨v2,v3,v4,v5,v6,v7,rfl,hL⟩:=hF;obtain⟨w1,w2,w3,w4,rfl,hw⟩:=hW;refine qHj (boxN hL.all λb0 s1 hb0 g1 u1=>boxN hw.all λb2 s3 hb2 g3 u3=>?_);have k1:=u1.sub hb0;have k3:=u3.sub hb2;have k13:=k1.trans k3;refine qAA (qAX (k3 _ _ g1) rfl) ?_;refine TN.qMV hv0 z ⟨v2,v3,v4,v5,v6,v7,rfl,hL.sub k13⟩ (λhv s6 k6=>?_) λhv e p j s6 he k6=>?_
 ·have k16:=k13.trans k6
  refine qAA (a:=.int .i64 0) rfl (qAA (a:=.str ⟨#[]⟩) rfl (qAA (a:=.int .i64 0) rfl (qAA (a:=.bool false) rfl ?_)));rw[qAE];refine qAA (qAX ((k3.trans k6) _ _ g1) rfl) (qAA (qAX (k6 _ _ g3) rfl) ?_);refine qAA (qXo ..) (boxN ?_ λb14 s15 hb14 g15 u15=>?_)
  ·simp[hL.L.one,hL.T.one,hL.B.one,hL.S.one,hL.H.one,hL.G.one,hw.nd.one,hw.lk.one,qTQ hw.pt,hw.wh.one]
  ·have k15:=u15.sub hb14
   have kk:=k16.trans k15;exact h1 hv b14 s15 kk ⟨false,v2,v3,v4,v5,v6,v7,w1,w2,w3,w4,g15,hL.sub kk,hw.sub kk⟩
 ·have k16:=k13.trans k6
  refine qAA (a:=.int .i64 e) rfl (qAA (a:=.str p) rfl (qAA (a:=.int .i64 j) rfl ?_));simp only[qAb,qAZ,Bool.true_bne,qAB];rw[show(e == 0)=false from beq_eq_false_iff_ne.2 he,Bool.not_false,qAH];exact h2 hv s6 k16
theorem qVd(z:Sz F)(hv:Valid F)(hF:FabR s cs F)(hW:WR s ws W)(hK:∀s',Sub s s'->K (.tup [.int .i64 ((entO F W h x).getD 0),.bool (entO F W h x).isSome]) s'):wC TP XX 20 [.agg cs,.agg ws,.int .i64 h,.agg (FC.frC x)] K s:=by obtain⟨v2,v3,v4,v5,v6,v7,rfl,hL⟩:=hF;obtain⟨w1,w2,w3,w4,rfl,hw⟩:=hW;refine qIO (boxN hL.all λb0 s1 hb0 g1 u1=>boxN hw.all λb2 s3 hb2 g3 u3=>boxN rfl λb4 s5 hb4 g5 u5=>?_);have k3:=u3.sub hb2;have k5:=u5.sub hb4;have k15:=(u1.sub hb0).trans (k3.trans k5);refine qAA (qAX ((k3.trans k5) _ _ g1) rfl) (qAA (qAX (k5 _ _ g3) rfl) ?_);refine qHS hv z ⟨v2,v3,v4,v5,v6,v7,rfl,hL.sub k15⟩ ⟨w1,w2,w3,w4,rfl,hw.sub k15⟩ (λ_ b s7 k7 hS=>?_) λq=>absurd hv q;refine qAA (a:=.ptr b 0) rfl (qAA (a:=.bool true) rfl (qAA (a:=.bool false) rfl ?_));rw[qAE];refine qAA (qAX (k7 _ _ g5) rfl) (qQO (qP0 hv) hS λs' kk=>?_);exact qAA (a:=.int .i64 _) rfl (qAA (a:=.bool _) rfl (hK s' (k15.trans (k7.trans kk))))
theorem qQH(z:Sz F)(hv:Valid F)(hF:FabR s cs F)(hW:WR s ws W)(hH:SlR 3 s w (hd.map hdC))(hn:hd.length<=100000)(hK:∀s' ar,Sub s s'->Ar F W l ar->K (.bool (knw F W ar hd h ip)) s'):wC TP XX 22 [.agg cs,.agg ws,w,.int .i64 l,.int .i64 h,.bool ip] K s:=by obtain⟨v2,v3,v4,v5,v6,v7,rfl,hL⟩:=hF;obtain⟨w1,w2,w3,w4,rfl,hw⟩:=hW;refine qId (boxN hL.all λb0 s1 hb0 g1 u1=>boxN hw.all λb2 s3 hb2 g3 u3=>?_);have k3:=u3.sub hb2;have k13:=(u1.sub hb0).trans k3;refine qAA (qAX (k3 _ _ g1) rfl) (qAA (qAX g3 rfl) ?_);refine qHS hv z ⟨v2,v3,v4,v5,v6,v7,rfl,hL.sub k13⟩ ⟨w1,w2,w3,w4,rfl,hw.sub k13⟩ (λ_ b s7 k7 hS=>?_) λq=>absurd hv q;refine qAA (a:=.ptr b 0) rfl (qAA (a:=.bool true) rfl (qAA (a:=.bool false) rfl ?_));rw[qAE];have zf:=qP0 hv;refine qXl zf hS λv11 s12 ar k12 hsl har=>?_;have k112:=k13.trans (k7.trans k12);have hal:ar.length<=100000:=qYb zf har;exact qUQ zf (hS.sub k12) hsl hal (hH.sub k112) hn λs' kk=>hK s' ar (k112.trans kk) har
end Go.AM.OR
set_option maxRecDepth 100000
namespace Go.AM.OR
open Go Go.Proofs Go.AM.TN
variable {K:AV→Hq→Prop} {s s' t H:Hq} {cs:List AV} {F:FG} {W:WG} {b c i:Nat} {h a:Int} {x:FC.Fr} {y:R4}
theorem qPq{es:Nat}{y:AV}:∀{rows:List (List AV)}{i j:Nat}{r:List AV},(∀x∈rows,x.length=es)->rows[i]?=some r->j<es->rows.flatten.set (i*es+j) y=(rows.set i (r.set j y)).flatten
 | x::rows,0,j,r,hl,hr,hj=>by
   cases hr;have hx:x.length=es:=hl x (by simp);simp only[Nat.zero_mul,zA,List.flatten_cons,List.set_cons_zero];rw[List.set_append_left _ _ (by omega)]
 | x::rows,i+1,j,r,hl,hr,hj=>by
   have hx:x.length=es:=hl x (by simp);have ih:=qPq (rows:=rows) (i:=i) (j:=j) (r:=r) (y:=y) (λz hz=>hl z (by simp[hz])) (by simpa using hr) hj;simp only[List.set_cons_succ,List.flatten_cons];rw[<- ih,List.set_append_right _ _ (by rw[Nat.add_mul];omega)]
   congr 2
   rw[Nat.add_mul];omega
def rqF(m p q:Int):Nat->FC.Fr
 | 0=>⟨m,BCM,1,1,0,0,0,0,0,0,0,0,0,0,0⟩
 | 1=>⟨m,BCM,1,1,m,p,0,0,0,0,0,0,0,0,0⟩
 | 2=>⟨m,BCM,1,1,m,p,0,q,0,0,0,0,0,0,0⟩
 |_=>⟨m,BCM,1,1,m,p,0,q,0,0,0,0,0,0,0⟩
theorem qR2{b2 bx:Nat}{e:Bool×Blk}(hx:s bx=some e)(hne:bx≠b2):(cutH [((hdel s b2),s)] s) bx≠none:=by rw[qM5 (by rw[qD5 hne];exact hx) hx];simp
theorem qR6{b0 b2 bx:Nat}{m p q:Int}(h0:s b0=some (false,.cells 40 [.int .u64 m]))(h2:s b2=some (false,.cells 42 [.int .u32 p]))(hx:s bx=some (false,.cells 48 (FC.frC (rqF m p q 0))))(n0:bx≠b0)(n2:bx≠b2)(hK:∀s',s' bx=some (false,.cells 48 (FC.frC (rqF m p q 1)))->Upto bx s s'->K (.tup []) s'):wC TP XX 139 [.ptr bx 0,.ptr b0 0,.ptr b2 0] K s:=by refine qHh (qAA (a:=.int .u64 m) (by rw[qAJ h0];rfl) (qAA (a:=.int .u32 p) (by rw[qAJ h2];rfl) (qAA (a:=.ptr bx 0) rfl (qAA (a:=.ptr bx 3) rfl (qAA (a:=.ptr bx 4) rfl ⟨qR2 hx n2,?_⟩)))));refine qBT hx (by show 4<15;omega) rfl λs5 h5 u5=>qAA (a:=.ptr bx 0) rfl (qAA (a:=.ptr bx 3) rfl (qAA (a:=.ptr bx 5) rfl ?_));refine qBT h5 (by show 5<15;omega) rfl λs9 h9 u9=>hK s9 h9 λj hj=>by rw[u9 j hj,u5 j hj]
theorem qR7{b0 b2 bx:Nat}{m p q:Int}(h0:s b0=some (false,.cells 40 [.int .u64 0]))(h2:s b2=some (false,.cells 42 [.int .u32 q]))(hx:s bx=some (false,.cells 48 (FC.frC (rqF m p q 1))))(n0:bx≠b0)(n2:bx≠b2)(hK:∀s',s' bx=some (false,.cells 48 (FC.frC (rqF m p q 2)))->Upto bx s s'->K (.tup []) s'):wC TP XX 181 [.ptr bx 0,.ptr b0 0,.ptr b2 0] K s:=by refine qHe (qAA (a:=.int .u64 0) (by rw[qAJ h0];rfl) (qAA (a:=.int .u32 q) (by rw[qAJ h2];rfl) (qAA (a:=.ptr bx 0) rfl (qAA (a:=.ptr bx 3) rfl (qAA (a:=.ptr bx 6) rfl ⟨qR2 hx n2,?_⟩)))));refine qBT hx (by show 6<15;omega) rfl λs5 h5 u5=>qAA (a:=.ptr bx 0) rfl (qAA (a:=.ptr bx 3) rfl (qAA (a:=.ptr bx 7) rfl ?_));refine qBT h5 (by show 7<15;omega) rfl λs9 h9 u9=>hK s9 h9 λj hj=>by rw[u9 j hj,u5 j hj]
theorem qRD{b0 bx:Nat}{m p q:Int}(h0:s b0=some (false,.cells 39 [.int .u64 0]))(hx:s bx=some (false,.cells 48 (FC.frC (rqF m p q 2))))(n0:bx≠b0)(hK:∀s',s' bx=some (false,.cells 48 (FC.frC (rqF m p q 3)))->Upto bx s s'->K (.tup []) s'):wC TP XX 141 [.ptr bx 0,.ptr b0 0] K s:=by refine qGo (qAA (a:=.int .u64 0) (by rw[qAJ h0];rfl) (qAA (a:=.ptr bx 0) rfl (qAA (a:=.ptr bx 14) rfl ?_)));exact qBT hx (by show 14<15;omega) rfl λs3 h3 u3=>hK s3 h3 u3
theorem qRG{m p q:Int}(hK:∀s',Sub s s'->K (.agg (FC.frC (rqF m p q 3))) s'):wC TP XX 87 [.int .u64 m,.int .u32 p,.int .u32 q,.int .u64 0] K s:=by
 refine qH2 (qAM λb0 s1 hb0 h1 u1=>?_);have k1:=u1.sub hb0;refine qIM (qCs rfl λc0 t1 hc0 g1 v1=>qCs rfl λc1 t2 hc1 g2 v2=>?_);have l1:=v1.sub hc0;have l2:=v2.sub hc1;refine qIr (qIa (qCs rfl λd0 t3 hd0 g3 v3=>qCs rfl λd1 t4 hd1 g4 v4=>?_));have l3:=v3.sub hd0;have l4:=v4.sub hd1;refine qIA (qCs rfl λe0 t5 he0 g5 v5=>?_);have l5:=v5.sub he0;refine qAA (a:=[.fn (.func 139) [] [.ptr c0 0,.ptr c1 0],.fn (.func 181) [] [.ptr d0 0,.ptr d1 0],.fn (.func 141) [] [.ptr e0 0]]) rfl ⟨rfl,qAM λb9 t6 hb9 g9 v9=>?_⟩;have l6:=v9.sub hb9;refine qGU (qAM λf0 t7 hf0 g7 v7=>?_);have l7:=v7.sub hf0;refine qAA (a:=[.int .i64 1,.int .u64 0,.int .u32 0,.int .u64 0,.int .u32 0]) rfl (qAA (a:=FC.frC (rqF m p q 0)) rfl (qAM λbx t8 hbx g8 v8=>qAS g8 rfl rfl rfl λt9 gx v10=>?_));have l9:Sub t7 t9:=qAY (v8.sub hbx) v10 hbx;have gx:t9 bx=some (false,.cells 48 (FC.frC (rqF m p q 0))):=gx;have A1:t7 c0=some (false,.cells 40 [.int .u64 m]):=(l2.trans (l3.trans (l4.trans (l5.trans (l6.trans l7))))) _ _ g1;have A2:t7 c1=some (false,.cells 42 [.int .u32 p]):=(l3.trans (l4.trans (l5.trans (l6.trans l7)))) _ _ g2;have A3:t7 d0=some (false,.cells 40 [.int .u64 0]):=(l4.trans (l5.trans (l6.trans l7))) _ _ g3;have A4:t7 d1=some (false,.cells 42 [.int .u32 q]):=(l5.trans (l6.trans l7)) _ _ g4;have A5:t7 e0=some (false,.cells 39 [.int .u64 0]):=(l6.trans l7) _ _ g5;have ne:∀{j:Nat}{e:Bool×Blk},t7 j=some e->bx≠j:=fun {j e} hj q=>by rw[<- q,hbx]at hj;cases hj
 have hsl:Sl t7 (.slc b9 0 3 (some 3) 1) [.fn (.func 139) [] [.ptr c0 0,.ptr c1 0],.fn (.func 181) [] [.ptr d0 0,.ptr d1 0],.fn (.func 141) [] [.ptr e0 0]]:=Sl.mk (l7 _ _ g9) rfl (by simp);refine qAA (a:=3) rfl ?_;refine⟨λys t m'=>∃i:Nat,ys=[.int .i64 (i:Int)]/\i<=3/\m'=3-i/\Sub t7 t/\t bx=some (false,.cells 48 (FC.frC (rqF m p q i))),⟨_,0,rfl,by omega,rfl,l9,gx⟩,?_⟩;rintro f t m' ⟨i,hy,hi,rfl,kt,hx⟩;simp only[cI,and_true]at hy;rw[hy];clear hy;unfold qDc;rw[qAR,qAB];have up:∀{t2:Hq},Upto bx t t2->Sub t7 t2:=fun {t2} u=>qAY kt u hbx;refine qAI (λhlt=>?_) (λhge=>?_)
 ·have hlt:i<3:=by have:=oT hlt;omega
  obtain⟨pp,e1,e2⟩:=(hsl.sub kt).get (i:=i) hlt;have nx:∀{t2:Hq},t2 bx=some (false,.cells 48 (FC.frC (rqF m p q (i+1))))->Upto bx t t2->oK (qAF .add (.int .i64 (i:Int)) (.int .i64 1)) λv_14=>∃m1,m1<3-i/\∃i:Nat,[v_14]=[AV.int .i64 (i:Int)]/\i<=3/\m1=3-i/\Sub t7 t2/\t2 bx=some (false,.cells 48 (FC.frC (rqF m p q i))):=fun {t2} h u=>by rw[qAN,qAB,qAc (by omega) (by omega)];exact⟨_,by omega,i+1,rfl,by omega,rfl,up u,h⟩
  refine qAA e1 ?_
  match i,hlt with
  | 0,_=>exact qAA (a:=.fn (.func 139) [] [.ptr c0 0,.ptr c1 0]) (e2.trans rfl) (qGm (by kernel_rfl) (qR6 (kt _ _ A1) (kt _ _ A2) hx (ne A1) (ne A2) λt2 h u=>nx h u))
  | 1,_=>exact qAA (a:=.fn (.func 181) [] [.ptr d0 0,.ptr d1 0]) (e2.trans rfl) (qGm (by kernel_rfl) (qR7 (kt _ _ A3) (kt _ _ A4) hx (ne A3) (ne A4) λt2 h u=>nx h u))
  | 2,_=>exact qAA (a:=.fn (.func 141) [] [.ptr e0 0]) (e2.trans rfl) (qGm (by kernel_rfl) (qRD (kt _ _ A5) hx (ne A5) λt2 h u=>nx h u))
 have hge:i=3:=by have:=oF hge;omega
 subst hge;have nf:f0≠bx:=λe=>by rw[<- e]at hbx;rw[g7]at hbx;cases hbx
 refine qAA (qAX hx rfl) (qAS (kt _ _ g7) rfl rfl rfl λt10 g10 w10=>qAA (qAX g10 rfl) ?_);have kk:Sub t6 t10:=qAY (l7.trans kt) w10 hf0;have ks:Sub s1 t10:=l1.trans (l2.trans (l3.trans (l4.trans (l5.trans (l6.trans kk)))));refine qAS (ks _ _ h1) rfl rfl rfl λs13 h13 u13=>qAA (qAX h13 rfl) (hK s13 (qAY (k1.trans ks) u13 hb0))
def annF(y:R4):FC.Fr:=if y.2.1=0 then⟨y.1,BCM,0,0,0,0,0,0,0,0,0,0,0,0,0⟩else⟨y.1,BCM,1,1,y.1,y.2.1,0,y.2.1,0,0,0,0,0,0,0⟩
theorem qYu(z:Sz F)(hv:Valid F)(hF:FabR s cs F)(hy:F.H[i]?=some y)(hK:∀s',Sub s s'->K (.agg (FC.frC (annF y))) s'):wC TP XX 18 [.agg cs,.int .i64 (i:Int)] K s:=by
 obtain⟨v2,v3,v4,v5,v6,v7,rfl,hL⟩:=hF;refine qFH (boxN hL.all λb0 s1 hb0 g1 u1=>qAM λb2 s3 hb2 g3 u3=>?_);have k1:=u1.sub hb0;have k3:=u3.sub hb2;have k13:=k1.trans k3;refine qAA (qAX (k3 _ _ g1) rfl) (qAA (a:=[.nilslc,.nilslc,.nilslc,.nilslc]) rfl ?_);refine qHS (W:=⟨[],[],[],[]⟩) hv z ⟨v2,v3,v4,v5,v6,v7,rfl,hL.sub k13⟩ ⟨_,_,_,_,rfl,.inl ⟨rfl,rfl⟩,.inl ⟨rfl,rfl⟩,⟨[],.inl ⟨rfl,rfl⟩,rfl,λi q r h=>by simp at h⟩,.inl ⟨rfl,rfl⟩⟩ (λ_ b s7 k7 hS=>?_) λq=>absurd hv q;have k17:=k1.trans (k3.trans k7);refine qAA (a:=.ptr b 0) rfl (qAA (a:=.bool true) rfl (qAA (a:=.bool false) rfl ?_));rw[qAE];have hi:=(gS hy).1;refine qNK hS ?_;rw[decide_eq_true (by omega),decide_eq_true (by omega)];refine qAA (a:=.bool false) rfl ?_;unfold qB8;refine qAA (a:=.bool false) rfl ?_;rw[qAE];have q1:=(k3.trans k7) _ _ g1;obtain⟨hb,ho,e1,e2,e3⟩:=(hL.sub k17).H.get (i:=i) (r:=hgC y) (by rw[List.getElem?_map,hy];rfl);refine qAA (a:=.ptr b0 6) rfl (qAA (a:=v6) (by rw[qAJ q1];rfl) (qAA e1 (qAA e2 (qAM λb19 s20 hb19 h19 u19=>qAS h19 rfl rfl rfl λs21 h21 u21=>?_))));have k21:Sub s7 s21:=qAY (u19.sub hb19) u21 hb19;have h21:s21 b19=some (false,.cells 61 (hgC y)):=h21;have q2:=(k7.trans k21) _ _ g3;refine qAA (a:=.ptr b19 1) rfl (qAA (a:=.int .u32 y.2.1) (by rw[qAJ h21];rfl) ?_);have hb2':s b2=none:=qAt k1 hb2;simp only[qAb,qAZ,Bool.false_bne,qAB];refine qAI (λc=>?_) (λc=>?_)
 ·have c:y.2.1=0:=eq_of_beq c
  refine qAA (a:=.ptr b19 0) rfl (qAA (a:=.int .u64 y.1) (by rw[qAJ h21];rfl) ?_);refine qAA (a:=FC.frC (annF y)) (by unfold annF;rw[if_pos c];rfl) (qAS q2 rfl rfl rfl λs28 h28 u28=>qAA (qAX h28 rfl) (hK s28 (qAY (k17.trans k21) u28 hb2')))
 ·have c:¬y.2.1=0:=by simpa using c
  refine qAA (a:=.ptr b19 0) rfl (qAA (a:=.int .u64 y.1) (by rw[qAJ h21];rfl) (qAA (a:=.ptr b19 1) rfl (qAA (a:=.int .u32 y.2.1) (by rw[qAJ h21];rfl) ?_)));refine qHm (qAM λbz s22 hbz g22 u22=>qRG λs23 k23=>?_);have k22:=u22.sub hbz;refine qAS (k23 _ _ g22) rfl rfl rfl λs24 g24 u24=>qAA (qAX g24 rfl) ?_;have k24:Sub s21 s24:=qAY (k22.trans k23) u24 hbz;have ea:annF y=rqF y.1 y.2.1 y.2.1 3:=by unfold annF;rw[if_neg c];rfl
  rw[<- ea];exact qAS (k24 _ _ q2) rfl rfl rfl λs36 h36 u36=>qAA (qAX h36 rfl) (hK s36 (qAY (k17.trans (k21.trans k24)) u36 hb2'))
end Go.AM.OR
set_option maxRecDepth 100000
namespace Go.AM.OR
open Go Go.Proofs Go.AM.TN
variable {K:AV→Hq→Prop} {s s' s0 H:Hq} {v w:AV} {cs ws:List AV} {F:FG} {W:WG} {b c i k:Nat} {h l a:Int} {x:FC.Fr} {hd:List Hd} {y:R4}
def Own8(s0 s:Hq)(v:AV)(rows:List (List AV)):Prop:=(rows=[]/\∃b,v=.slc b 0 0 (some 0) 3)∨AccR 77 3 s0 s v rows
theorem Own8.sl{rows:List (List AV)}(h:Own8 s0 s v rows):SlR 3 s v rows:=by
 rcases h with⟨rfl,b,rfl⟩|h
 ·exact .empty
 ·exact h.sl
theorem Own8.sub{rows:List (List AV)}(h:Own8 s0 s v rows)(k:Sub s s'):Own8 s0 s' v rows:=h.imp id λq=>q.sub k
theorem qVE(hv:SlR 3 s v (hd.map hdC))(hn:hd.length<=100000)(hK:∀v' s',Sub s s'->Own8 s s' v' (hd.map hdC)->K v' s'):wC TP XX 58 [v] K s:=by
 refine qDJ ?_;unfold qCM;have hv0:=hv;obtain⟨hl,q⟩:=hv;rcases q with⟨rfl,e⟩|⟨b,o,cap,rfl,_⟩
 ·refine qAA (a:=.bool true) rfl ?_
  rw[qAH];exact hK _ s (.refl _) (.inr ⟨hl,.inl ⟨rfl,e⟩⟩)
 ·refine qAA (a:=.bool false) rfl ?_
  rw[qAE];refine qAA (a:=[]) rfl ⟨rfl,qAM λb2 s3 hb2 _ u3=>?_⟩;have k3:=u3.sub hb2;refine qPx (s0:=s) (.inl ⟨rfl,b2,rfl⟩) (hv0.sub k3) (by rw[lM];simp;omega) k3 λv4 s5 o5 k5=>hK v4 s5 k5 ?_;rw[List.nil_append]at o5;exact o5
def lnIP(y:R4)(x:FC.Fr):Bool:=(x.kind == 1)&&((x.a4 == y.1)&&((x.a5 == y.2.1)&&(y.2.1 != 0)))
def ipA(hd:List Hd)(i:Nat):Bool:=match hd[i]? with
 |some e=>e.2.2
 |none=>false
def lnK(hd:List Hd)(h l:Int)(q:Bool):List Hd:=match hd.findIdx? (λe=>(e.1 == h)&&(e.2.1 == l))with
 |none=>hd ++ [(h,l,q)]
 |some i=>hd.set i (h,l,ipA hd i||q)
def lnL(F:FG)(W:WG)(hd:List Hd)(h:Int)(y:R4)(x:FC.Fr):List Hd:=match accO F W h x with
 |some l=>lnK hd h l (lnIP y x)
 |none=>hd
theorem qQz{b0 b1:Nat}{e:Hd}{t0 t1:Bool}(h0:s b0=some (t0,.cells 3 [.int .i64 h]))(h1:s b1=some (t1,.cells 3 [.int .i64 l]))(hK:∀s',Sub s s'->K (.bool ((e.1 == h)&&(e.2.1 == l))) s'):wC TP XX 60 [.agg (hdC e),.ptr b0 0,.ptr b1 0] K s:=by
 refine qHn (boxN rfl λb s1 hb g1 u1=>?_);have k1:=u1.sub hb;have g1:s1 b=some (false,.cells 77 (hdC e)):=g1;have fin:=hK s1 k1;refine qAA (a:=.ptr b 0) rfl (qAA (a:=.int .i64 e.1) (by rw[qAJ g1];rfl) (qAA (a:=.int .i64 h) (by rw[qAJ (k1 _ _ h0)];rfl) ?_));simp only[qAb,qAZ,Bool.false_bne,qAB];cases c:(e.1 == h)with
 | false=>
   rw[c]at fin;rw[qAE];unfold qCH;exact qAA (a:=.bool false) rfl fin
 | true=>
   rw[c,Bool.true_and]at fin;rw[qAH];refine qAA (a:=.ptr b 1) rfl (qAA (a:=.int .i64 e.2.1) (by rw[qAJ g1];rfl) (qAA (a:=.int .i64 l) (by rw[qAJ (k1 _ _ h1)];rfl) ?_));simp only[qAb,qAZ,Bool.false_bne,qAB];unfold qCH;exact qAA (a:=.bool _) rfl fin
theorem qS4{b4 b23:Nat}{t63 t66:AV}{q:Bool}{t0 t1:Bool}(hq:qAO t63 t66 (.bool false)=some (.bool q))(ow:Own8 s0 s v (hd.map hdC))(k0:Sub s0 s)(hn:hd.length<=100000)(h0:s b4=some (t0,.cells 3 [.int .i64 h]))(h1:s b23=some (t1,.cells 3 [.int .i64 l]))
  (hK:∀v' s',Sub s0 s'->SlR 3 s' v' ((lnK hd h l q).map hdC)->K v' s'):qBy XX (.ptr b4 0) v (.ptr b23 0) t63 t66 K s:=by
 unfold qBy;refine qAA hq (qL1 (p:=λe=>(e.1 == h)&&(e.2.1 == l)) hn ow.sl (λe s1 J k1 hJ=>qGm (by kernel_rfl) (qQz (k1 _ _ h0) (k1 _ _ h1) hJ)) λs2 k2=>?_);have g0:=k2 _ _ h0;have g1:=k2 _ _ h1;rw[qAR,qAB];unfold lnK at hK;cases hf:hd.findIdx? (λe=>(e.1 == h)&&(e.2.1 == l))with
 | none=>
   rw[hf]at hK;have e:fstI (λe:Hd=>(e.1 == h)&&(e.2.1 == l)) hd=-1:=by unfold fstI;rw[hf]
   rw[e,decide_eq_true (by omega),qAH];refine qAA (a:=.int .i64 h) (by rw[qAJ g0];rfl) (qAA (a:=.int .i64 l) (by rw[qAJ g1];rfl) (qAA (a:=hdC (h,l,q)) rfl (qAA (a:=hdC (h,l,q)) (FC.fill_one rfl) ⟨rfl,qAM λb48 s49 hb h49 u49=>?_⟩)));have k49:=u49.sub hb;refine qPx ((ow.sub k2).sub k49) (FC.one_row h49 rfl) (by rw[lM];simp;omega) (k0.trans (k2.trans k49)) λv50 s51 o51 k51=>hK v50 s51 k51 ?_;rw[List.map_append];exact Own8.sl o51
 | some i=>
   rw[hf]at hK;simp only at hK;obtain⟨hi,hp,_⟩:=List.findIdx?_eq_some_iff_getElem.1 hf;have e:fstI (λe:Hd=>(e.1 == h)&&(e.2.1 == l)) hd=(i:Int):=by unfold fstI;rw[hf]
   rw[e,decide_eq_false (by omega),qAE];have hx:hd[i]?=some hd[i]:=gE hi;generalize hd[i]=z at hx hp;rw[Bool.and_eq_true,beq_iff_eq,beq_iff_eq]at hp;obtain⟨p1,p2⟩:=hp;have ez:z=(h,l,z.2.2):=by rw[<- p1,<- p2]
   have hip:ipA hd i=z.2.2:=by unfold ipA;rw[hx]
   rw[hip]at hK;have hrow:(hd.map hdC)[i]?=some (hdC z):=by rw[List.getElem?_map,hx];rfl
   rcases ow with⟨q0,_⟩|acc
   ·have:=List.map_eq_nil_iff.1 q0
    rw[this]at hx;cases hx
   ·have acc2:=acc.sub k2
    obtain⟨hl3,r⟩:=acc2;rcases r with⟨_,q0⟩|⟨d,hd0,rfl,hd1⟩
    ·have:=List.map_eq_nil_iff.1 q0
     rw[this]at hx;cases hx
    ·have hlen:(hd.map hdC).flatten.length=hd.length*3:=by rw[qEE hl3,lM]
     have hia:qAU 3 (.slc d 0 (hd.map hdC).length none 3) (.int .i64 (i:Int))=some (.ptr d (i*3)):=by
      have:Nat.blt i hd.length=true:=by rw[Nat.blt_eq];exact hi
      simp[qAU,nat?,this]
     have hrd:rd1 s2 (.ptr d (i*3+2))=some (.bool z.2.2):=by
      have e2:=qMn hl3 hrow;have e3:(((hd.map hdC).flatten.drop (i*3)).take 3)[2]?=(hdC z)[2]?:=by rw[e2]
      rw[List.getElem?_take,if_pos (by omega),List.getElem?_drop]at e3;rw[qAJ hd1];exact e3
     refine qAA hia (qAA (a:=.ptr d (i*3+2)) (by rw[qAG]) (qAA hrd ?_));have j3:∀{t88:AV},qAO (.bool z.2.2) (.bool true) t88=some (.bool (z.2.2||q))->qCe XX (.slc d 0 (hd.map hdC).length none 3) (.slc d 0 (hd.map hdC).length none 3) (.int .i64 (i:Int)) (.bool z.2.2) t88 K s2:=fun {t88} e=>by
      unfold qCe;refine qAA e (qAA hia (qAA (a:=.ptr d (i*3+2)) (by rw[qAG]) (qBT hd1 (by rw[hlen];omega) rfl λs58 h58 u58=>?_)));rw[qPq hl3 hrow (by omega)]at h58;have em:(hd.map hdC).set i ((hdC z).set 2 (.bool (z.2.2||q)))=(hd.set i (h,l,z.2.2||q)).map hdC:=by
       rw[List.map_set]
       congr 1
       rw[ez];rfl
      rw[em]at h58;refine hK _ s58 (qAY (k0.trans k2) u58 hd0) ⟨λr hr=>?_,.inr ⟨d,0,none,by simp,λc e=>(by cases e),λ_=>⟨_,_,_,h58,?_,?_⟩⟩⟩
      ·obtain⟨e,_,rfl⟩:=List.mem_map.1 hr
       rfl
      ·rw[qEE (es:=3) λr hr=>by obtain⟨e,_,rfl⟩:=List.mem_map.1 hr;rfl];omega
      ·rw[List.drop_zero,<- qEE (es:=3) λr hr=>by obtain⟨e,_,rfl⟩:=List.mem_map.1 hr;rfl,List.take_of_length_le (Nat.le_refl _)]
     cases c:z.2.2 with
     | true=>
       rw[c]at j3;rw[qAH];exact j3 rfl
     | false=>
       rw[c]at j3;rw[qAE];exact j3 rfl
theorem qUO(z:Sz F)(hv:Valid F)(hF:FabR s cs F)(hW:WR s ws W)(hH:SlR 3 s w (hd.map hdC))(hn:hd.length<=100000)(hy:F.H[i]?=some y)(hK:∀v' s',Sub s s'->SlR 3 s' v' ((lnL F W hd (i:Int) y x).map hdC)->K v' s'):wC TP XX 19 [.agg cs,.agg ws,w,.int .i64 (i:Int),.agg (FC.frC x)] K s:=by
 obtain⟨v2,v3,v4,v5,v6,v7,rfl,hL⟩:=hF;obtain⟨w1,w2,w3,w4,rfl,hw⟩:=hW;refine qIy (boxN hL.all λb0 s1 hb0 g1 u1=>boxN hw.all λb2 s3 hb2 g3 u3=>qCs rfl λb4 s5 hb4 g5 u5=>boxN rfl λb6 s7 hb6 g7 u7=>?_);have k1:=u1.sub hb0;have k3:=u3.sub hb2;have k5:=u5.sub hb4;have k7:=u7.sub hb6;have k17:=k1.trans (k3.trans (k5.trans k7));refine qVE (hH.sub k17) hn λv8 s9 k9 ow=>?_;have k19:=k17.trans k9;have g1':=(k3.trans (k5.trans (k7.trans k9))) _ _ g1;have g3':=(k5.trans (k7.trans k9)) _ _ g3;have g5':=(k7.trans k9) _ _ g5;have g7':s9 b6=some (false,.cells 48 (FC.frC x)):=k9 _ _ g7;refine qAA (qAX g1' rfl) (qAA (qAX g3' rfl) ?_);refine qHS hv z ⟨v2,v3,v4,v5,v6,v7,rfl,hL.sub k19⟩ ⟨w1,w2,w3,w4,rfl,hw.sub k19⟩ (λ_ b s13 k13 hS=>?_) λq=>absurd hv q;refine qAA (a:=.ptr b 0) rfl (qAA (a:=.bool true) rfl (qAA (a:=.bool false) rfl ?_));rw[qAE];refine qAA (a:=.int .i64 (i:Int)) (by rw[qAJ (k13 _ _ g5')];rfl) (qAA (qAX (k13 _ _ g7') rfl) (qPV (qP0 hv) hS λs20 k20=>?_));have k920:=k13.trans k20;unfold lnL at hK;have leafv:∀{o:Option Int}{b:Bool}{R:AV->AV->Prop},R (.int .i64 (o.getD 0)) (.bool b)->oK (qAf (.tup [.int .i64 (o.getD 0),.bool b]) 0) λv21=>oK (qAf (.tup [.int .i64 (o.getD 0),.bool b]) 1) λv22=>R v21 v22:=fun {o b R} h=>qAA (a:=.int .i64 (o.getD 0)) rfl (qAA (a:=.bool b) rfl h);refine qAA (a:=.int .i64 ((accO F W (i:Int) x).getD 0)) rfl (qAA (a:=.bool (accO F W (i:Int) x).isSome) rfl (qAM λb23 s24 hb23 h24 u24=>qBT h24 (by simp) rfl λs25 h25 u25=>?_));have k25:Sub s20 s25:=qAY (u24.sub hb23) u25 hb23;have k925:=k920.trans k25;have k125:=k19.trans k925;rw[qAj,qAB];cases ha:accO F W (i:Int) x with
 | none=>
   rw[ha]at hK;rw[show(none:Option Int).isSome=false from rfl,Bool.not_false,qAH];exact hK v8 s25 k125 (ow.sub k925).sl
 | some l=>
   rw[ha]at hK h25;have h25:s25 b23=some (false,.cells 3 [.int .i64 l]):=h25;rw[show(some l:Option Int).isSome=true from rfl,Bool.not_true,qAE];have q1:=k925 _ _ g1';have q5:=k925 _ _ g5';have q7:=k925 _ _ g7';obtain⟨hb,ho,e1,e2,e3⟩:=(hL.sub k125).H.get (i:=i) (r:=hgC y) (by rw[List.getElem?_map,hy];rfl);refine qAA (a:=.ptr b0 6) rfl (qAA (a:=v6) (by rw[qAJ q1];rfl) (qAA (a:=.int .i64 (i:Int)) (by rw[qAJ q5];rfl) (qAA e1 (qAA e2 (qAM λb32 s33 hb32 h33 u33=>qAS h33 rfl rfl rfl λs34 h34 u34=>?_)))));have k34:Sub s25 s34:=qAY (u33.sub hb32) u34 hb32;have h34:s34 b32=some (false,.cells 61 (hgC y)):=h34;have r7:=k34 _ _ q7;have fin:∀{t63 t66:AV}{q:Bool},qAO t63 t66 (.bool false)=some (.bool q)->lnIP y x=q->qBy XX (.ptr b4 0) v8 (.ptr b23 0) t63 t66 K s34:=fun {t63 t66 q} e hq=>by subst hq;refine qS4 e (ow.sub (k925.trans k34)) (k9.trans (k925.trans k34)) hn (k34 _ _ q5) (k34 _ _ h25) λv' s' kk hs=>hK v' s' (k17.trans kk) hs
   refine qAA (a:=.ptr b6 2) rfl (qAA (a:=.int .i64 x.kind) (by rw[qAJ r7];rfl) ?_);simp only[qAb,qAZ,Bool.false_bne,qAB];have j1:∀{t55 t61:AV}{q:Bool},qAO t55 t61 (.bool false)=some (.bool q)->((x.kind == 1)&&((x.a4 == y.1)&&(x.a5 == y.2.1)))=q->qCg XX (.ptr b4 0) v8 (.ptr b23 0) (.ptr b32 0) t55 t61 K s34:=fun {t55 t61 q} e hq=>by
    have el:lnIP y x=(q&&(y.2.1 != 0)):=by rw[<- hq];unfold lnIP;simp only[Bool.and_assoc]
    unfold qCg;refine qAA e ?_;cases q with
    | false=>
      rw[qAE];exact fin rfl (by rw[el];rfl)
    | true=>
      rw[qAH];refine qAA (a:=.ptr b32 1) rfl (qAA (a:=.int .u32 y.2.1) (by rw[qAJ h34];rfl) ?_);simp only[qAb,qAZ,Bool.true_bne,qAB];exact fin (q:=!(y.2.1 == 0)) rfl (by rw[el];rfl)
   have j0:∀{t47 t53:AV}{q:Bool},qAO t47 t53 (.bool false)=some (.bool q)->((x.kind == 1)&&(x.a4 == y.1))=q->qCf XX (.ptr b4 0) (.ptr b6 0) v8 (.ptr b23 0) (.ptr b32 0) t47 t53 K s34:=fun {t47 t53 q} e hq=>by
    unfold qCf;refine qAA e ?_;cases q with
    | false=>
      rw[qAE];exact j1 (q:=false) rfl (by rw[<- Bool.and_assoc,hq];rfl)
    | true=>
      rw[qAH];refine qAA (a:=.ptr b6 3) rfl (qAA (a:=.ptr b6 5) rfl (qAA (a:=.int .u32 x.a5) (by rw[qAJ r7];rfl) (qAA (a:=.ptr b32 1) rfl (qAA (a:=.int .u32 y.2.1) (by rw[qAJ h34];rfl) ?_))));simp only[qAb,qAZ,Bool.false_bne,qAB];exact j1 (q:=(x.a5 == y.2.1)) rfl (by rw[<- Bool.and_assoc,hq,Bool.true_and])
   cases c:(x.kind == 1)with
   | false=>
     rw[qAE];exact j0 (q:=false) rfl (by rw[c];rfl)
   | true=>
     rw[qAH];refine qAA (a:=.ptr b6 3) rfl (qAA (a:=.ptr b6 4) rfl (qAA (a:=.int .u64 x.a4) (by rw[qAJ r7];rfl) (qAA (a:=.ptr b32 0) rfl (qAA (a:=.int .u64 y.1) (by rw[qAJ h34];rfl) ?_))));simp only[qAb,qAZ,Bool.false_bne,qAB];exact j0 (q:=(x.a4 == y.1)) rfl (by rw[c,Bool.true_and])
end Go.AM.OR
set_option maxRecDepth 100000
namespace Go.AM.OR
open Go Go.Proofs Go.AM.TN
variable {K:AV→Hq→Prop} {s s' H:Hq} {v hv av:AV} {cs:List AV} {F:FG} {W:WG} {a b c i j k n:Nat} {h sg bd:Int} {tg:Bool} {x:FC.Fr} {ar:List Int} {hd:List Hd} {y:R4} {A:Aq} {R:AV→Prop} {z:AV}
theorem qYJ{S:List (List Int×List Int)}(h:SgG s v S):SgG (AM.frz s) v S:=by obtain⟨vs,h1,h2,h3⟩:=h;exact⟨vs,h1.frz,h2,λi q x a c=>⟨(h3 i q x a c).1.frz,(h3 i q x a c).2.frz⟩⟩
theorem qZj{P:List (List Bool)}(h:PtR s v P):PtR (AM.frz s) v P:=by obtain⟨vs,h1,h2,h3⟩:=h;exact⟨vs,h1.frz,h2,λi q r a c=>(h3 i q r a c).frz⟩
theorem St.frz(h:St s b F W):St (AM.frz s) b F W:=by obtain⟨tg,v2,v3,v4,v5,v6,v7,w1,w2,w3,w4,h1,h2,h3⟩:=h;exact⟨true,v2,v3,v4,v5,v6,v7,w1,w2,w3,w4,qIW h1,⟨h2.L.frz,h2.T.frz,h2.B.frz,qYJ h2.S,h2.H.frz,h2.G.frz⟩,⟨h3.nd.frz,h3.lk.frz,qZj h3.pt,h3.wh.frz⟩⟩
def akC(b:Nat)(hv av:AV)(x:FC.Fr)(h:R4)(sg:Int):List AV:=[.ptr b 0,hv,av]++(FC.frC x++(hgC h ++ [.int .i64 sg]))
def Ak(s:Hq)(a:Nat)(A:Aq):Prop:=∃tg b hv av,s a=some (tg,.cells 102 (akC b hv av A.x A.h A.sg))/\St s b A.F A.W/\SlR 3 s hv (A.hd.map hdC)/\Sl s av (ix A.ar)
theorem Ak.sub(h:Ak s a A)(k:Sub s s'):Ak s' a A:=by obtain⟨tg,b,hv,av,h1,h2,h3,h4⟩:=h;exact⟨tg,b,hv,av,k _ _ h1,h2.sub k,h3.sub k,h4.sub k⟩
theorem ak1(hb:s a=some (tg,.cells 102 cs))(hx:cs[k]?=some z)(hR:R z):oK (qAT (.ptr a 0)) λv=>oK (qAC k v) λv=>oK (rd1 s v) R:=
 qAA (a:=.ptr a 0) rfl (qAA (a:=.ptr a k) (by rw[qAG,zA]) (qAA (by rw[qAJ hb];exact hx) hR))
theorem ak2(hb:s a=some (tg,.cells 102 cs))(hx:cs[k+j]?=some z)(hR:R z):oK (qAT (.ptr a 0)) λv=>oK (qAC k v) λv=>oK (qAC j v) λv=>oK (rd1 s v) R:=
 qAA (a:=.ptr a 0) rfl (qAA (a:=.ptr a k) (by rw[qAG,zA]) (qAA (a:=.ptr a (k+j)) (by rw[qAG]) (qAA (by rw[qAJ hb];exact hx) hR)))
structure AOk(A:Aq):Prop where
 f:FOk A.F
 ar:A.ar.length<=100000
 hd:A.hd.length<=100000
 bd:0<=A.h.2.2.1/\A.h.2.2.1<A.F.B.length
 hb:∀y∈A.F.H,0<=y.2.2.1/\y.2.2.1<A.F.B.length
theorem zAAH{F:FG}{n:Int}(h:0<=n/\n<F.B.length):∃i:Nat,n=(i:Int)/\F.B[i]?=some (bdA F n):=by
 obtain⟨i,rfl⟩:=qHr h.1;have hi:i<F.B.length:=by omega
 refine⟨i,rfl,?_⟩;unfold bdA;have:(i:Int).toNat=i:=by omega
 rw[this,gE hi];rfl
def ldC(y:Lnd):List AV:=[.int .i64 y.1,.int .i64 y.2.1]++FC.frC y.2.2
theorem qNd(z:AOk A)(hA:Ak s a A)(hK:∀s',Sub s s'->K (.agg (bgC A.d)) s'):wC TP XX 79 [.ptr a 0] K s:=by refine qFD (qAM λb0 s1 hb0 h1 u1=>?_);have k1:=u1.sub hb0;have hA1:=hA.sub k1;obtain⟨tg,b,hv,av,g1,g2,g3,g4⟩:=hA1;obtain⟨tg2,v2,v3,v4,v5,v6,v7,w1,w2,w3,w4,q1,q2,q3⟩:=g2;obtain⟨i,hi,hd⟩:=zAAH z.bd;obtain⟨pb,po,e1,e2,e3⟩:=q2.B.get (i:=i) (r:=bgC A.d) (by rw[List.getElem?_map,hd];rfl);refine ak1 g1 (z:=.ptr b 0) rfl (qGN q1 (x:=v4) rfl (ak2 g1 (z:=.int .i64 (i:Int)) (by show some (AV.int .i64 A.h.2.2.1)=_;rw[hi]) (qAA e1 (qAA e2 ?_))));exact qAS h1 rfl rfl rfl λs15 h15 u15=>qAA (qAX h15 rfl) (hK s15 (qAY k1 u15 hb0))
def qW2(s:Hq)(r:Option (List Lnd))(K:AV->Hq->Prop):Prop:=(∀L,r=some L->∀v s',Sub s s'->SlR 17 s' v (L.map ldC)->K (.tup [v,.bool true]) s')/\(r=none->∀s',Sub s s'->K (.tup [.nilslc,.bool false]) s')
theorem qW2.to{r:Option (List Lnd)}(h:qW2 s r K)(k:Sub s s'):qW2 s' r K:=⟨λL e v s2 k2 hs=>h.1 L e v s2 (k.trans k2) hs,λe s2 k2=>h.2 e s2 (k.trans k2)⟩
end Go.AM.OR
set_option maxRecDepth 100000
namespace Go.AM.OR
open Go Go.Proofs Go.AM.TN
end Go.AM.OR
set_option maxRecDepth 100000
namespace Go.AM.OR
open Go Go.Proofs Go.AM.TN
end Go.AM.OR
set_option maxRecDepth 100000
namespace Go.AM.OR
open Go Go.Proofs Go.AM.TN
end Go.AM.OR
set_option maxRecDepth 100000
namespace Go.AM.OR
open Go Go.Proofs Go.AM.TN
variable {K:AV→Hq→Prop} {s s' sB t H:Hq} {v w y:AV} {cs fcs:List AV} {F:FG} {a b c i k n b0 b2 b5 b7:Nat} {h l bd:Int} {R:Hq→Prop} {v2 v3 v4 v5 v6 v7:AV}
abbrev r1(l:List AV):List (List AV):=l.map λx=>[x]
theorem qSm(l:List AV):(r1 l).flatten=l:=by
 induction l with
 |nil=>rfl
 |cons x l ih=>simpa using ih
theorem qUL{l:List AV}(h:SlR 1 s v (r1 l)):Sl s v l:=by
 obtain⟨_,h⟩:=h;rcases h with⟨e,q⟩|⟨b,o,cap,e,hc,h⟩
 ·exact .inl ⟨e,List.map_eq_nil_iff.1 q⟩
 ·have hlen:(r1 l).length=l.length:=by simp
  refine .inr ⟨b,o,cap,by rw[e,hlen],λc hcap=>by rw[<- hlen];exact hc c hcap,λhne=>?_⟩;obtain⟨t,el,cs,g1,g2,g3⟩:=h (λq=>hne (List.map_eq_nil_iff.1 q));rw[hlen,Nat.mul_one]at g2 g3;rw[qSm]at g3;refine⟨t,el,cs,g1,g2,λi hi=>?_⟩;rw[<- g3,List.getElem?_take,if_pos hi,List.getElem?_drop]
theorem qYI{l:List AV}{x:AV}:r1 (l ++ [x])=r1 l ++ [[x]]:=by simp
theorem qY3{L:List Bool}{b:Bool}:r1 (bs (L ++ [b]))=r1 (bs L) ++ [[AV.bool b]]:=by simp
theorem qZ0{L:List Int}{b:Int}:r1 (ix (L ++ [b]))=r1 (ix L) ++ [[AV.int .i64 b]]:=by unfold ix;simp
structure WS(s sB H t:Hq)(b0 b2 b5 b7:Nat)(fcs cs:List AV):Prop where
 z:FS 36 sB H t b5 b7 cs
 h0:H b0=some (false,.cells 31 fcs)
 h2:H b2=some (false,.cells 36 [.nilslc,.nilslc,.nilslc,.nilslc])
 hs:Sub s (hdel H b2)
theorem WS.ne0(w:WS s sB H t b0 b2 b5 b7 fcs cs):b5≠b0:=λe=>by have:=w.z.n3;rw[e,w.h0]at this;cases this
theorem WS.up{H' t':Hq}{cs':List AV}(w:WS s sB H t b0 b2 b5 b7 fcs cs)(z:FS 36 sB H' t' b5 b7 cs')(k:Sub H H'):WS s sB H' t' b0 b2 b5 b7 fcs cs':=
 ⟨z,k _ _ w.h0,k _ _ w.h2,w.hs.trans (qBG k)⟩
theorem WS.step{t2:Hq}(w:WS s sB H t b0 b2 b5 b7 fcs cs)(kp:qAa (λi=>i=b5) t t2)(tk2:Tk sB t2 b5):WS s sB H t2 b0 b2 b5 b7 fcs cs:=w.up (w.z.step kp tk2) (.refl _)
theorem WS.push{elem:TypeId}{k:Nat}{rows:List (List AV)}{row:List AV}{t2:Hq}{R:Hq->Prop}(w:WS s sB H t b0 b2 b5 b7 fcs cs)(acc:AccR elem 1 (ext H t b5 b7) t v rows)(kp:qAa (λi=>i=b5) t t2)(tk2:Tk sB t2 b5)(hy:SlR 1 t2 y [row])(hl:rows.length<=1000)(hk:k<cs.length)
  (hK:∀v' t4 H',WS s sB H' t4 b0 b2 b5 b7 fcs (cs.set k v')->AccR elem 1 (ext H' t4 b5 b7) t4 v' (rows ++ [row])->Sub H H'->(∀i e,t2 i=some e->i≠b5->i≠b7->(∀b o n c e,v=.slc b o n c e->i≠b)->H' i=some e)->R t4) :
  appK elem 1 v y (λv' t3=>oK (wr1 t3 (.ptr b7 k) v') R) t2:=
 TN.push w.z acc kp tk2 hy hl hk λv' t4 H' z4 a4 kH q=>hK v' t4 H' (w.up z4 kH) a4 kH q
theorem qIg{elem:TypeId}{B t:Hq}:AccR elem 1 B t .nilslc (r1 []):=⟨(λr h=>by cases h),.inl ⟨rfl,rfl⟩⟩
theorem qWJ{k m:Nat}{n:Int}{L:List Bool}(w:WS s sB H t b0 b2 b5 b7 fcs cs)(hm:1<=m/\m<=1000)(hv:cs[k]?=some v)(acc:AccR 4 1 (ext H t b5 b7) t v (r1 (bs L)))(hl:L.length<=1000)(hR:∀v' t4 H' b,WS s sB H' t4 b0 b2 b5 b7 fcs (cs.set k v')->AccR 4 1 (ext H' t4 b5 b7) t4 v' (r1 (bs (L ++ [b])))->Sub H H'->R t4):
  oK (rd1 t (.ptr b7 k)) λv_16=>∃h_17:Hq,(∀b,h_17 b≠none->t b≠none)/\wC TP XX 48 [.ptr b5 0,.int .i64 (m:Int)] (λv_18 s_19=>
  (∀b,t b≠none->(cutH [((hdel t (qAk (.ptr b7 k))),t)] (minus t h_17)) b=none->s_19 b=none)->
  oK (negB true (eqV 0 true v_18 (.int .i64 n))) λv_20=>
  oK (qAr (repl 1 [(.bool false)]) [(0,1,v_20)]) λc_21=>qAW c_21=true/\newK 4 c_21 (λb_22 s_23=>
  (∀b,(add s_19 (rest t (cutH [((hdel t (qAk (.ptr b7 k))),t)] (minus t h_17)))) b≠none->(add s_19 (rest t (cutH [((hdel t (qAk (.ptr b7 k))),t)] (minus t h_17)))) b=none->s_23 b=none)->
  appK 4 1 v_16 (.slc b_22 0 1 (some 1) 1) (λv_24 s_25=>oK (wr1 s_25 (.ptr b7 k) v_24) R) (add (add s_19 (rest t (cutH [((hdel t (qAk (.ptr b7 k))),t)] (minus t h_17)))) s_23)) (frz (add s_19 (rest t (cutH [((hdel t (qAk (.ptr b7 k))),t)] (minus t h_17)))))) (cutH [((hdel t (qAk (.ptr b7 k))),t)] (minus t h_17)):=by
 refine qAA (a:=v) (by rw[qAJ w.z.fb];exact hv) ⟨λ_=>none,λb hb=>absurd rfl hb,?_⟩;rw[show qAk (.ptr b7 k)=b7 from rfl,qMm];refine qA5 (w.z.tk.hid w.z.f0 w.z.ne) hm.1 hm.2 λt1 r hr tk1 u1=>?_;intro hh;obtain⟨kp,tk2,z2⟩:=qFi w.z tk1 (u1.keep rfl) hh;generalize add t1 (rest t (hdel t b7))=t2 at kp tk2 z2 ⊢;simp only[qAb,qAZ,Bool.true_bne,qAB];refine qAA (a:=[.bool (!((r:Int) == n))]) rfl ⟨rfl,newM (l:=[]) λd s2 hd h2 u2=>?_⟩;generalize add t2 s2=t3 at h2 u2 ⊢;have k3:=u2.sub hd;refine w.push acc (kp.trans k3.keep) (tk2.more k3) (row1 h2 rfl) (by simp;omega) (gS hv).1 λv' t4 H' w4 acc4 kH _=>hR v' t4 H' (!((r:Int) == n)) w4 ?_ kH;rw[qY3];exact acc4
theorem WS.fin{elem:TypeId}{rows:List (List AV)}(w:WS s sB H t b0 b2 b5 b7 fcs cs)(acc:AccR elem 1 (ext H t b5 b7) t v rows):∃H2,WS s sB H2 t b0 b2 b5 b7 fcs cs/\Sub H H2/\SlR 1 (hdel H2 b2) v rows:=by obtain⟨H2,z2,k2,sl⟩:=finish (b0:=b2) w.z acc (by rw[w.h2];simp);exact⟨H2,w.up z2 k2,k2,sl⟩
theorem qYe{x:Int}{L:List Int}(hv:Sl s v (ix L))(hl:L.length<=100000)(hK:K (.bool (decide (x∈L))) s):wC TP XX 16 [v,.int .i64 x] K s:=by
 refine qLh ?_;unfold qKl;refine⟨λys t m=>∃i:Nat,ys=[.int .i64 (i:Int)]/\i<=L.length/\m=L.length-i/\t=s/\x ∉ L.take i,⟨_,0,rfl,by omega,rfl,rfl,by simp⟩,?_⟩;rintro f t m ⟨i,hy,hi,rfl,rfl,hno⟩;simp only[cI,and_true]at hy;rw[hy];unfold qHw;refine qAA (by rw[hv.len,qA6]) ?_;rw[qAR,qAB];refine qAI (λhlt=>?_) (λhge=>?_)
 rotate_left
 ·have hge:i=L.length:=by have:=oF hge;omega
  subst hge;rw[List.take_length]at hno;rw[decide_eq_false hno]at hK;exact hK
 have hlt:i<L.length:=by have:=oT hlt;omega
 have hx:L[i]?=some L[i]:=gE hlt;obtain⟨pp,g1,g2⟩:=hv.get (i:=i) (by rw[qA6];exact hlt);rw[qGP hlt]at g2;generalize L[i]=e at hx g2;refine qAA g1 (qAA g2 ?_);simp only[qAb,qAZ,Bool.false_bne,qAB];refine qAI (λq=>?_) (λq=>?_)
 ·have q:=eq_of_beq q
  subst q;rw[decide_eq_true (mG hx)]at hK;exact hK
 ·have q:¬e=x:=by simpa using q
  rw[qAN,qAB,qAc (by omega) (by omega)];refine⟨_,by omega,i+1,rfl,by omega,rfl,(by trivial),λhm=>?_⟩;rw[List.take_add_one,hx]at hm;rcases mP hm with hm|hm
  ·exact hno hm
  ·have:x=e:=by simpa using hm
   exact q this.symm
theorem qUg{m:Nat}(z:FOk F)(hF:FabR s cs F)(hm:m<=1000)(hK:∀(r:Int) s',Sub s s'->-1<=r/\r<F.S.length->K (.int .i64 r) s'):wC TP XX 55 [.agg cs,.int .i64 bd,.int .i64 (m:Int)] K s:=by
 obtain⟨v2,v3,v4,v5,v6,v7,rfl,hL⟩:=hF;refine qPd (boxN hL.all λb0 s1 hb0 g1 u1=>?_);have k1:=u1.sub hb0;have g1:s1 b0=some (false,.cells 31 (csG F v2 v3 v4 v5 v6 v7)):=g1;have hSl:=z.S;refine⟨λys t m=>∃(k:Nat) (v:AV) (L:List Int),ys=[v,.int .i64 (k:Int)]/\k<=F.S.length/\m=F.S.length-k/\Acc 3 s1 t v (ix L)/\Sub s1 t/\L.length<=k/\∀x∈L,0<=x/\x<F.S.length,⟨_,0,_,[],rfl,by omega,rfl,.inl ⟨rfl,rfl⟩,.refl _,by simp,λx hx=>by cases hx⟩,?_⟩;rintro f t m1 ⟨k,v,L,hy,hk,rfl,acc,kt,hlen,hrg⟩;simp only[cI,and_true]at hy;rw[hy.1,hy.2];clear hy;have gt:=kt _ _ g1;have hLt:=(hL.sub k1).sub kt;unfold qKk;refine qAA (a:=.ptr b0 5) rfl (qAA (a:=v5) (by rw[qAJ gt];rfl) (qAA hLt.S.len ?_));rw[qAR,qAB];refine qAI (λhlt=>?_) (λhge=>?_)
 ·have hlt:k<F.S.length:=by have:=oT hlt;omega
  have hg:F.S[k]?=some F.S[k]:=gE hlt;generalize F.S[k]=g at hg;obtain⟨pb,po,l1,l2,a1,_,_,a4,_,a6⟩:=hLt.S.at hg;refine qAA (a:=.ptr b0 5) rfl (qAA (a:=v5) (by rw[qAJ gt];rfl) (qAA a1 (qAA (a:=.ptr pb (po+1)) rfl (qAA a4 (qYe a6 (z.S2 g (mG hg)) ?_)))));have j1:∀{v':AV}{t':Hq}{L':List Int},Acc 3 s1 t' v' (ix L')->Sub s1 t'->L'.length<=k+1->(∀x∈L',0<=x/\x<F.S.length)->qFy XX v' (.int .i64 (k:Int)) (λys t m=>∃(k:Nat) (v:AV) (L:List Int),ys=[v,.int .i64 (k:Int)]/\k<=F.S.length/\m=F.S.length-k/\Acc 3 s1 t v (ix L)/\Sub s1 t/\L.length<=k/\∀x∈L,0<=x/\x<F.S.length) (F.S.length-k) K t':=fun {v' t' L'} q1 q2 q3 q4=>by unfold qFy;rw[qAN,qAB,qAc (by omega) (by omega)];exact⟨_,by omega,k+1,v',L',rfl,by omega,rfl,q1,q2,q3,q4⟩
  refine qAI (λ_=>?_) (λ_=>j1 acc kt (by omega) hrg);refine app1 rfl acc kt (by omega) λv' s' a' ks=>j1 a' ks (by rw[lAp];simp;omega) λx hx=>?_;rcases mP hx with hx|hx
  ·exact hrg x hx
  ·have:x=(k:Int):=by simpa using hx
   omega
 have hge:k=F.S.length:=by have:=oF hge;omega
 subst hge;refine qAA (by rw[acc.sl.len,qA6]) ?_;simp only[qAb,qAZ,Bool.false_bne,qAB];cases L with
 | nil=>
   rw[show((([]:List Int).length:Int) == 0)=true from rfl,qAH];exact hK (-1) t (k1.trans kt) (by omega)
 | cons x L=>
   have e0:(((x::L).length:Int) == 0)=false:=by rw[beq_eq_false_iff_ne,List.length_cons];omega
   rw[e0,qAE];refine qAA (by rw[acc.sl.len,qA6]) ?_;have hne:(((x::L).length:Nat):Int)≠0:=by rw[List.length_cons];omega
   rw[qGr hne,qAB,Int.tmod_eq_emod_of_nonneg (by omega)];have hlt:m % (x::L).length<(x::L).length:=Nat.mod_lt _ (by simp);rw[show(m:Int) % (((x::L).length:Nat):Int)=((m % (x::L).length:Nat):Int)from rfl];obtain⟨pp,g1',g2'⟩:=acc.sl.get (i:=m % (x::L).length) (by rw[qA6];exact hlt);rw[qGP hlt]at g2';refine qAA g1' (qAA g2' (hK _ t (k1.trans kt) ?_));have:=hrg _ (List.getElem_mem hlt);omega
end Go.AM.OR
set_option maxRecDepth 100000
namespace Go.AM.OR
open Go Go.Proofs Go.AM.TN
variable {K:AV→Hq→Prop} {s sB t H:Hq} {v w y fv:AV} {cs ws fcs:List AV} {F:FG} {W:WG} {a b c i j k n b0 b2 b5 b7:Nat} {h:Int} {v2 v3 v4 v5 v6 v7 w1 w2 w3 w4:AV} {nd lk:List Bool} {pt:List (List Bool)}
structure WOk(F:FG)(W:WG):Prop where
 nd:(W.nd.length:Int)=F.lf+F.sp
 lk:W.lk.length=F.L.length
 pt:(W.pt.length:Int)=F.lf/\∀r∈W.pt,r.length=F.S.length
 wh:W.wh.length=F.H.length/\∀x∈W.wh,-1<=x/\x<F.S.length
structure WIn(s sB:Hq)(F:FG)(b0:Nat)(v2 v3 v4 v5 v6 v7:AV):Prop where
 v:Valid F
 L:FL s F v2 v3 v4 v5 v6 v7
 fv:Fv sB v6
 b0:sB b0=none
theorem WS.sub(w:WS s sB H t b0 b2 b5 b7 fcs cs):Sub s t:=w.hs.trans (qI9.trans w.z.sub)
theorem WS.rd{x:AV}{Q:AV->Prop}(w:WS s sB H t b0 b2 b5 b7 fcs cs)(hx:fcs[k]?=some x)(hQ:Q x):oK (qAC k (.ptr b0 0)) λv=>oK (rd1 t v) Q:=
 qAA (a:=.ptr b0 k) (by rw[qAG,zA]) (qAA (by rw[qAJ (w.z.sub _ _ w.h0)];exact hx) hQ)
theorem cut3{q r:Nat}(hq:t q≠none)(hr:t r≠none):cutH [((hdel t q),t),((hdel t q),t),((hdel t r),t)] (minus t λ_=>none)=hdel (hdel t q) r:=by
 funext i
 show(if hdel t r i=none/\t i≠none then none else(if hdel t q i=none/\t i≠none then none else(if hdel t q i=none/\t i≠none then none else minus t (λ_=>none) i)))=_;unfold minus hdel
 by_cases e1:i=r
 ·subst e1;simp[hr]
 ·by_cases e2:i=q
  ·subst e2;simp[e1,hq]
  ·cases c:t i<;>simp[e1,e2,c]
theorem qSZ{C t':Hq}(hC:∀i x,C i=some x->t i=some x)(kp:qAa (λi=>i=b) C t')(hh:∀i,t i≠none->C i=none->t' i=none):qAa (λi=>i=b) t (add t' (rest t C)):=λi e hi ne=>by
 cases q:C i with
 | some x=>
   have:=hC i x q;rw[hi]at this;cases this;exact qBb (kp _ _ q ne)
 | none=>
   rw[qBt (hh i (by rw[hi];simp) q)];unfold rest;rw[if_pos q];exact hi
theorem qXz{es:Nat}{x:AV}{o:Nat}(h:qAU es v x=some (.ptr b o)):∃o' n c e,v=.slc b o' n c e:=by
 unfold qAU at h;split at h
 ·rename_i b' o' len cap es' i hi
  cases q:(Nat.blt i len&&Nat.beq es es')with
  |false=>rw[q]at h;cases h
  | true=>
    rw[q]at h;cases h;exact⟨_,_,_,_,rfl⟩
 ·cases h
theorem qYR{m:Nat}{L:List Int}{x:Int}{I4:List AV->Hq->Nat->Prop}{h12:Nat}(w:WS s sB H t b0 b2 b5 b7 fcs [w1,w2,w3,v])(acc:AccR 3 1 (ext H t b5 b7) t v (r1 (ix L)))(hl:L.length<=1000)(hh:h12<=1000)
  (hI:∀v' t4 H',WS s sB H' t4 b0 b2 b5 b7 fcs [w1,w2,w3,v']->AccR 3 1 (ext H' t4 b5 b7) t4 v' (r1 (ix (L ++ [x])))->Sub H H'->∃m',m'<m/\I4 [.int .i64 ((h12+1:Nat):Int)] t4 m'):qEf XX (.ptr b7 0) (.int .i64 (h12:Int)) (.int .i64 x) I4 m K t:=by
 unfold qEf;simp only[qAG,zA,qAB];refine qAA (a:=v) (by rw[qAJ w.z.fb];rfl) (qDQ rfl rfl λd s2 hd h2 u2=>?_);have k2:=u2.sub hd;refine w.push acc k2.keep (w.z.tk.more k2) (row1 h2 rfl) (by simp[qA6];omega) (by show 3<4;omega) λv' t4 H' w4 acc4 kH _=>?_;rw[qAN,qAB,qAc (by omega) (by omega)];exact hI v' t4 H' w4 (by rw[qZ0];exact acc4) kH
theorem qYg(gi:WIn s sB F b0 v2 v3 v4 v5 v6 v7)(w:WS s sB H t b0 b2 b5 b7 (csG F v2 v3 v4 v5 v6 v7) [w1,w2,w3,.nilslc])(q1:Sl (hdel H b2) w1 (bs nd))(q2:Sl (hdel H b2) w2 (bs lk))(q3:PtR (hdel H b2) w3 pt)(n1:(nd.length:Int)=F.lf+F.sp)(n2:lk.length=F.L.length)(n3:(pt.length:Int)=F.lf/\∀r∈pt,r.length=F.S.length)(hb2:s b2=none)
  (hK:∀t' ws W,Sub s t'->WR t' ws W->WOk F W->K (.agg ws) t') :
  ∃I4:List AV->Hq->Nat->Prop,(∃m,I4 [(.int .i64 0)] t m)/\∀(f:Env) (s:Hq) (m4:Nat),I4 [f 12] s m4->qIL XX (.ptr b0 0) (.ptr b2 0) (.ptr b5 0) (.ptr b7 0) (f 12) I4 m4 K s:=by
 have hH:HosOk F:=gi.v 6 (by omega);have hHn:=hH.n;refine⟨λys t m=>∃(k:Nat) (H:Hq) (v:AV) (L:List Int),ys=[.int .i64 (k:Int)]/\k<=F.H.length/\m=F.H.length-k/\WS s sB H t b0 b2 b5 b7 (csG F v2 v3 v4 v5 v6 v7) [w1,w2,w3,v]/\(Sl (hdel H b2) w1 (bs nd)/\Sl (hdel H b2) w2 (bs lk)/\PtR (hdel H b2) w3 pt)/\AccR 3 1 (ext H t b5 b7) t v (r1 (ix L))/\L.length=k/\∀x∈L,-1<=x/\x<F.S.length,⟨_,0,H,.nilslc,[],rfl,by omega,rfl,w,⟨q1,q2,q3⟩,qIg,rfl,λx hx=>by cases hx⟩,?_⟩;rintro f t m ⟨k,H,v,L,hy,hk,rfl,w,hq,acc,hl,hrg⟩;simp only[cI,and_true]at hy;rw[hy];clear hy;unfold qIL;have hLt:=gi.L.sub w.sub;have nl:qAQ v6=some F.H.length:=by rw[hLt.H.len,lM]
 refine w.rd (x:=v6) rfl (qAA nl ?_);rw[qAR,qAB];refine qAI (λhlt=>?_) (λhge=>?_)
 ·have hlt:k<F.H.length:=by have:=oT hlt;omega
  have hx:F.H[k]?=some F.H[k]:=gE hlt;generalize F.H[k]=x at hx;have hrow:=(hH.row k x hx).r;obtain⟨pb,po,e1,e2,e3⟩:=gi.L.H.get (i:=k) (r:=hgC x) (by rw[List.getElem?_map,hx];rfl);have e2t:∀{t':Hq},Sub s t'->∀j,j<4->rd1 t' (.ptr pb (po+j))=(hgC x)[j]?:=fun {t'} k' j hj=>by obtain⟨pb',po',a1,_,a3⟩:=(gi.L.sub k').H.get (i:=k) (r:=hgC x) (by rw[List.getElem?_map,hx];rfl);rw[e1]at a1;cases a1;exact a3 j hj
  refine w.rd (x:=v6) rfl (qAA e1 (qAA (a:=.ptr pb (po+3)) rfl (qAA (a:=.int .i64 x.2.2.2) ((e2t w.sub 3 (by omega)).trans rfl) ?_)));refine qA5 w.z.tk (n:=4) (by omega) (by omega) λt1 r hr tk1 u1=>?_;have kp1:qAa (λi=>i=b5) t t1:=u1.keep rfl;have w1':=w.step kp1 tk1;have acc1:=qFv w.z acc kp1;simp only[qAb,qAZ,Bool.false_bne,qAB];have next:∀{t2:Hq}{y:Int},qAa (λi=>i=b5) t1 t2->Tk sB t2 b5->-1<=y/\y<F.S.length->qEf XX (.ptr b7 0) (.int .i64 (k:Int)) (.int .i64 y) (λys t m=>∃(k:Nat) (H:Hq) (v:AV) (L:List Int),ys=[.int .i64 (k:Int)]/\k<=F.H.length/\m=F.H.length-k/\WS s sB H t b0 b2 b5 b7 (csG F v2 v3 v4 v5 v6 v7) [w1,w2,w3,v]/\(Sl (hdel H b2) w1 (bs nd)/\Sl (hdel H b2) w2 (bs lk)/\PtR (hdel H b2) w3 pt)/\AccR 3 1 (ext H t b5 b7) t v (r1 (ix L))/\L.length=k/\∀x∈L,-1<=x/\x<F.S.length) (F.H.length-k) K t2:=fun {t2 y} kp tk2 hy=>
   qYR (w1'.step kp tk2) (qFv w1'.z acc1 kp) (by omega) (by omega) λv' t4 H' w4 acc4 kH=>⟨_,(by omega:F.H.length-(k+1)<F.H.length-k),k+1,H',v',L ++ [y],rfl,by omega,rfl,w4,⟨hq.1.sub (qBG kH),hq.2.1.sub (qBG kH),hq.2.2.sub (qBG kH)⟩,acc4,by rw[lAp,hl];rfl,λx hx=>by
    rcases mP hx with hx|hx
    ·exact hrg x hx
    ·have:x=y:=by simpa using hx
     rw[this];exact hy⟩
  refine qAI (λ_=>?_) (λ_=>next (.refl _ _) tk1 (by omega));refine qAA (qAX (w1'.z.sub _ _ w.h0) rfl) (w1'.rd (x:=v6) rfl (qAA e1 (qAA (a:=.ptr pb (po+2)) rfl (qAA (a:=.int .i64 x.2.2.1) ((e2t w1'.sub 2 (by omega)).trans rfl) ⟨λ_=>none,λb hb=>absurd rfl hb,?_⟩))));obtain⟨o',n',c',e',ev⟩:=qXz e1;have hpB:sB pb=none:=gi.fv _ _ _ _ _ ev;have hps:s pb≠none:=by have:=e2;unfold rdN at this;simp only at this;intro q;rw[q]at this;cases this
  have hpt:t1 pb≠none:=by
   cases q:s pb with
   |none=>exact absurd q hps
   |some z=>rw[w1'.sub _ _ q];simp
  have h0t:t1 b0≠none:=by rw[w1'.z.sub _ _ w1'.h0];simp
  have n5p:b5≠pb:=λe=>by
   have h1:=w1'.z.n3;have h2:=w1'.hs;cases q:s pb with
   |none=>exact hps q
   | some z=>
     have:=qI9 _ _ (h2 _ _ q);rw[<- e,h1]at this;cases this
  rw[show qAk (.ptr b0 0)=b0 from rfl,show qAk (.ptr b0 6)=b0 from rfl,show qAk (.ptr pb (po+2))=pb from rfl,cut3 h0t hpt];have tkC:Tk sB (hdel (hdel t1 b0) pb) b5:=(tk1.hid gi.b0 w1'.ne0).hid hpB n5p;refine qA5 tkC (n:=6) (by omega) (by omega) λt2 r2 hr2 tk2 u2=>?_;intro hh;have kp2:=qSZ (b:=b5) (t:=t1) (λi x hx=>qI9 _ _ (qI9 _ _ hx)) (u2.keep rfl) hh;have tk2':Tk sB (add t2 (rest t1 (hdel (hdel t1 b0) pb))) b5:=tk2.more qJ7;generalize add t2 (rest t1 (hdel (hdel t1 b0) pb))=t3 at kp2 tk2' ⊢;have w3':=w1'.step kp2 tk2';refine qUg (qP0 gi.v) ⟨v2,v3,v4,v5,v6,v7,rfl,gi.L.sub w3'.sub⟩ (by omega) λy t4 k4 hy=>?_;exact next (kp2.trans k4.keep) (tk2'.more k4) hy
 ·have hge:k=F.H.length:=by have:=oF hge;omega
  subst hge;obtain⟨H2,w2',kH,sl⟩:=w.fin acc;refine qAA (qAX w.z.fb rfl) ?_;have h2t:=w2'.z.sub _ _ w2'.h2;have o1:=hq.1.one;have o2:=hq.2.1.one;have o3:=qTQ hq.2.2;have o4:=sl.one;refine qAS h2t rfl rfl (by simp[o1,o2,o3,o4]) λt5 h5 u5=>qAA (qAX h5 rfl) ?_;have kk:Sub (hdel H2 b2) t5:=λi e hi=>by
   have ne:i≠b2:=λq=>by rw[q]at hi;unfold hdel at hi;rw[if_pos rfl]at hi;cases hi
   rw[u5 i ne];exact w2'.z.sub _ _ (qI9 _ _ hi)
  have kk':=(qBG (b:=b2) kH).trans kk;exact hK t5 _ ⟨nd,lk,pt,L⟩ (w2'.hs.trans kk) ⟨w1,w2,w3,v,rfl,hq.1.sub kk',hq.2.1.sub kk',hq.2.2.sub kk',(qUL sl).sub kk⟩ ⟨n1,n2,n3,hl,hrg⟩
end Go.AM.OR
set_option maxRecDepth 100000
namespace Go.AM.OR
open Go Go.Proofs Go.AM.TN
variable {K:AV→Hq→Prop} {s sB t H:Hq} {v w lv:AV} {cs ws:List AV} {F:FG} {W:WG} {a b c i j k n b0 b2 b5 b7:Nat} {h l:Int} {v2 v3 v4 v5 v6 v7 w1 w2 w4:AV} {nd lk:List Bool}
theorem PtRv.app{vs:List AV}{P:List (List Bool)}{q:AV}{r:List Bool}{a:Hq}(hl:vs.length=P.length)(h:∀(i:Nat) q r,vs[i]?=some q->P[i]?=some r->Sl a q (bs r))(hq:Sl a q (bs r)):(vs ++ [q]).length=(P ++ [r]).length/\∀(i:Nat) q' r',(vs ++ [q])[i]?=some q'->(P ++ [r])[i]?=some r'->Sl a q' (bs r'):=by
 refine⟨by simp[hl],λi q' r' h1 h2=>?_⟩
 by_cases e:i<vs.length
 ·rw[List.getElem?_append_left e]at h1
  rw[List.getElem?_append_left (by omega)]at h2;exact h i q' r' h1 h2
 ·rw[List.getElem?_append_right (by omega)]at h1
  rw[List.getElem?_append_right (by omega)]at h2;rw[<- hl]at h2;cases q0:i-vs.length with
  | zero=>
    rw[q0]at h1 h2;cases h1;cases h2;exact hq
  |succ n=>rw[q0]at h1;simp at h1
theorem qYr(gi:WIn s sB F b0 v2 v3 v4 v5 v6 v7)(w:WS s sB H t b0 b2 b5 b7 (csG F v2 v3 v4 v5 v6 v7) [w1,w2,.nilslc,.nilslc])(q1:Sl (hdel H b2) w1 (bs nd))(q2:Sl (hdel H b2) w2 (bs lk))(n1:(nd.length:Int)=F.lf+F.sp)(n2:lk.length=F.L.length)(hb2:s b2=none)
  (hK:∀t' ws W,Sub s t'->WR t' ws W->WOk F W->K (.agg ws) t') :
  ∃I2:List AV->Hq->Nat->Prop,(∃m,I2 [(.int .i64 0)] t m)/\∀(f:Env) (s:Hq) (m2:Nat),I2 [f 9] s m2->qIG XX (.ptr b0 0) (.ptr b2 0) (.ptr b5 0) (.ptr b7 0) (f 9) I2 m2 K s:=by
 have hf:FabOk F:=gi.v 0 (by omega);have hlf:=hf.lf;have hSg:SegOk F:=gi.v 5 (by omega);have hSn:=hSg.n;obtain⟨N,hN⟩:=qHr (l:=F.lf) (by omega);refine⟨λys t m=>∃(k:Nat) (H:Hq) (v:AV) (vs:List AV) (P:List (List Bool)),ys=[.int .i64 (k:Int)]/\k<=N/\m=N-k/\WS s sB H t b0 b2 b5 b7 (csG F v2 v3 v4 v5 v6 v7) [w1,w2,v,.nilslc]/\(Sl (hdel H b2) w1 (bs nd)/\Sl (hdel H b2) w2 (bs lk))/\AccR 32 1 (ext H t b5 b7) t v (r1 vs)/\P.length=k/\(vs.length=P.length/\∀(i:Nat) q r,vs[i]?=some q->P[i]?=some r->Sl (hdel H b2) q (bs r))/\∀r∈P,r.length=F.S.length,⟨_,0,H,.nilslc,[],[],rfl,by omega,rfl,w,⟨q1,q2⟩,qIg,rfl,⟨rfl,λi q r h=>by simp at h⟩,λr h=>by cases h⟩,?_⟩;rintro f t0 m ⟨k,H,v,vs,P,hy,hk,rfl,w,hq,acc,hl,hvs,hP⟩;simp only[cI,and_true]at hy;rw[hy];clear hy;unfold qIG;refine w.rd (x:=.int .i64 F.lf) rfl ?_;rw[hN,qAR,qAB];refine qAI (λhlt=>?_) (λhge=>?_)
 rotate_left
 ·have hge:k=N:=by have:=oF hge;omega
  subst hge;obtain⟨H2,w2',kH,sl⟩:=w.fin acc;have kd:=qBG (b:=b2) kH;exact qYg gi w2' (hq.1.sub kd) (hq.2.sub kd) ⟨vs,qUL sl,hvs.1,λi q r a c=>(hvs.2 i q r a c).sub kd⟩ n1 n2 ⟨by omega,hP⟩ hb2 hK
 have hlt:k<N:=by have:=oT hlt;omega
 refine⟨λys t m=>∃(j:Nat) (v:AV) (L:List Bool),ys=[v,.int .i64 (j:Int)]/\j<=F.S.length/\m=F.S.length-j/\Tk sB t b5/\qAa (λi=>i=b5) t0 t/\AccR 4 1 t0 t v (r1 (bs L))/\L.length=j,⟨_,0,_,[],rfl,by omega,rfl,w.z.tk,.refl _ _,qIg,rfl⟩,?_⟩;rintro f1 t m1 ⟨j,vr,L,hy,hj,rfl,tk,kp,accr,hL⟩;simp only[cI,and_true]at hy;rw[hy.1,hy.2];clear hy;have wt:=w.step kp tk;unfold qK4;have hLt:=gi.L.sub wt.sub;refine wt.rd (x:=v5) rfl (qAA hLt.S.len ?_);rw[qAR,qAB];refine qAI (λhlt=>?_) (λhge=>?_)
 ·have hlt:j<F.S.length:=by have:=oT hlt;omega
  refine qA5 tk (n:=8) (by omega) (by omega) λt1 r hr tk1 u1=>?_;simp only[qAb,qAZ,Bool.true_bne,qAB];have kp1:qAa (λi=>i=b5) t0 t1:=kp.trans (u1.keep rfl);refine qDQ rfl rfl λd s2 hd h2 u2=>?_;have k2:=u2.sub hd;have acc1:AccR 4 1 t0 t1 vr (r1 (bs L)):=⟨accr.1,accr.2.imp id λ⟨c,q0,q1,q2⟩=>⟨c,q0,q1,by rw[u1 c λe=>w.z.tk.at (by rw[<- e];exact q0)];exact q2⟩⟩
  refine qTY w.z.tk (tk1.more k2) (kp1.trans k2.keep) (acc1.sub k2) (row1 h2 rfl) (by simp;omega) λv' t' tk' kp' acc'=>?_;rw[qAN,qAB,qAc (by omega) (by omega)];exact⟨_,by omega,j+1,v',L ++ [!((r:Int) == 7)],rfl,by omega,rfl,tk',kp',by rw[qY3];exact acc',by rw[lAp,hL];rfl⟩
 have hge:j=F.S.length:=by have:=oF hge;omega
 subst hge;have acct:=qFv w.z acc kp;simp only[qAG,zA,qAB];refine qAA (a:=v) (by rw[qAJ wt.z.fb];rfl) (qDQ rfl accr.sl.one λd s2 hd h2 u2=>?_);have k2:=u2.sub hd;refine wt.push acct k2.keep (tk.more k2) (row1 h2 rfl) (by simp;omega) (by show 2<4;omega) λv' t4 H' w4 acc4 kH keep=>?_;rw[qAN,qAB,qAc (by omega) (by omega)];have kd:=qBG (b:=b2) kH;have hrow:Sl (hdel H' b2) vr (bs L):=by
  rcases accr.2 with⟨e,q⟩|⟨c,h0,e,h1⟩
  ·exact .inl ⟨e,List.map_eq_nil_iff.1 q⟩
  ·have n5:c≠b5:=λe=>w.z.tk.at (by rw[<- e];exact h0)
   have n7:c≠b7:=λe=>by rw[e,w.z.fb]at h0;cases h0
   have n2:c≠b2:=λe=>by rw[e,w.z.sub _ _ w.h2]at h0;cases h0
   have nv:∀b o n cp e,v=.slc b o n cp e->c≠b:=λb o n cp e' ev q=>by
    rcases acc.2 with⟨r,_⟩|⟨d',_,r,hd'⟩
    ·rw[r]at ev;cases ev
    ·rw[r]at ev;cases ev;rw[q,hd']at h0;cases h0
   have:=keep c _ (k2 _ _ h1) n5 n7 nv;have hc:hdel H' b2 c=some (false,.cells 4 (r1 (bs L)).flatten):=by rw[qD5 n2];exact this
   rw[qSm]at hc;rw[e];exact Sl.mk hc (by simp) (by simp)
 have hP':=PtRv.app (q:=vr) (r:=L) hvs.1 (λi q r a c=>(hvs.2 i q r a c).sub kd) hrow;refine⟨_,by omega,k+1,H',v',vs ++ [vr],P ++ [L],rfl,by omega,rfl,w4,⟨hq.1.sub kd,hq.2.sub kd⟩,by rw[qYI];exact acc4,by rw[lAp,hl];rfl,hP',λr hr=>?_⟩;rcases mP hr with hr|hr
 ·exact hP r hr
 ·have:r=L:=by simpa using hr
  rw[this];exact hL
theorem qY2(gi:WIn s sB F b0 v2 v3 v4 v5 v6 v7)(w:WS s sB H t b0 b2 b5 b7 (csG F v2 v3 v4 v5 v6 v7) [w1,.nilslc,.nilslc,.nilslc])(q1:Sl (hdel H b2) w1 (bs nd))(n1:(nd.length:Int)=F.lf+F.sp)(hb2:s b2=none)
  (hK:∀t' ws W,Sub s t'->WR t' ws W->WOk F W->K (.agg ws) t') :
  ∃I1:List AV->Hq->Nat->Prop,(∃m,I1 [(.int .i64 0)] t m)/\∀(f:Env) (s:Hq) (m1:Nat),I1 [f 8] s m1->qHz XX (.ptr b0 0) (.ptr b2 0) (.ptr b5 0) (.ptr b7 0) (f 8) I1 m1 K s:=by
 have hLk:LinksOk F:=gi.v 2 (by omega);have hLn:=hLk.n;refine⟨λys t m=>∃(k:Nat) (H:Hq) (v:AV) (L:List Bool),ys=[.int .i64 (k:Int)]/\k<=F.L.length/\m=F.L.length-k/\WS s sB H t b0 b2 b5 b7 (csG F v2 v3 v4 v5 v6 v7) [w1,v,.nilslc,.nilslc]/\Sl (hdel H b2) w1 (bs nd)/\AccR 4 1 (ext H t b5 b7) t v (r1 (bs L))/\L.length=k,⟨_,0,H,.nilslc,[],rfl,by omega,rfl,w,q1,qIg,rfl⟩,?_⟩;rintro f t m ⟨k,H,v,L,hy,hk,rfl,w,hq,acc,hl⟩;simp only[cI,and_true]at hy;rw[hy];clear hy;unfold qHz;have hLt:=gi.L.sub w.sub;refine w.rd (x:=v2) rfl (qAA (by rw[hLt.L.len,lM]) ?_);rw[qAR,qAB];refine qAI (λhlt=>?_) (λhge=>?_)
 ·have hlt:k<F.L.length:=by have:=oT hlt;omega
  simp only[qAG,zA,qAB];refine qWJ (n:=5) w (m:=6) (by omega) (k:=1) rfl acc (by omega) λv' t4 H' b w4 acc4 kH=>?_;rw[qAN,qAB,qAc (by omega) (by omega)];exact⟨_,by omega,k+1,H',v',L ++ [b],rfl,by omega,rfl,w4,hq.sub (qBG kH),acc4,by rw[lAp,hl];rfl⟩
 ·have hge:k=F.L.length:=by have:=oF hge;omega
  subst hge;obtain⟨H2,w2',kH,sl⟩:=w.fin acc;have kd:=qBG (b:=b2) kH;exact qYr gi w2' (hq.sub kd) (qUL sl) n1 hl hb2 hK
theorem qYX(gi:WIn s sB F b0 v2 v3 v4 v5 v6 v7)(w:WS s sB H t b0 b2 b5 b7 (csG F v2 v3 v4 v5 v6 v7) [.nilslc,.nilslc,.nilslc,.nilslc])(hb2:s b2=none)
  (hK:∀t' ws W,Sub s t'->WR t' ws W->WOk F W->K (.agg ws) t') :
  ∃I0:List AV->Hq->Nat->Prop,(∃m,I0 [(.int .i64 0)] t m)/\∀(f:Env) (s:Hq) (m0:Nat),I0 [f 7] s m0->qH3 XX (.ptr b0 0) (.ptr b2 0) (.ptr b5 0) (.ptr b7 0) (f 7) I0 m0 K s:=by
 have hf:FabOk F:=gi.v 0 (by omega);have hlf:=hf.lf;have hsp:=hf.sp;have hsm:=hf.sum;obtain⟨N,hN⟩:=qHr (l:=F.lf+F.sp) (by omega);refine⟨λys t m=>∃(k:Nat) (H:Hq) (v:AV) (L:List Bool),ys=[.int .i64 (k:Int)]/\k<=N/\m=N-k/\WS s sB H t b0 b2 b5 b7 (csG F v2 v3 v4 v5 v6 v7) [v,.nilslc,.nilslc,.nilslc]/\AccR 4 1 (ext H t b5 b7) t v (r1 (bs L))/\L.length=k,⟨_,0,H,.nilslc,[],rfl,by omega,rfl,w,qIg,rfl⟩,?_⟩;rintro f t m ⟨k,H,v,L,hy,hk,rfl,w,acc,hl⟩;simp only[cI,and_true]at hy;rw[hy];clear hy;unfold qH3;refine w.rd (x:=.int .i64 F.lf) rfl (w.rd (x:=.int .i64 F.sp) rfl ?_);rw[qAN,qAB,qAc (by omega) (by omega),hN,qAR,qAB];refine qAI (λhlt=>?_) (λhge=>?_)
 ·have hlt:k<N:=by have:=oT hlt;omega
  simp only[qAG,zA,qAB];refine qWJ (n:=8) w (m:=9) (by omega) (k:=0) rfl acc (by omega) λv' t4 H' b w4 acc4 kH=>?_;rw[qAN,qAB,qAc (by omega) (by omega)];exact⟨_,by omega,k+1,H',v',L ++ [b],rfl,by omega,rfl,w4,acc4,by rw[lAp,hl];rfl⟩
 ·have hge:k=N:=by have:=oF hge;omega
  subst hge;obtain⟨H2,w2',kH,sl⟩:=w.fin acc;exact qY2 gi w2' (qUL sl) (by omega) hb2 hK
theorem qUI{L:List Int}(hv:Valid F)(hF:FabR s cs F)(hf:∀v,cs[6]?=some v->Fv sB v)(kB:Sub sB s)(hl:Sl sB lv (L.map (AV.int .i64)))(hlen:L.length<=9223372036854775807)(hb:∀x∈L,-9223372036854775808<=x/\x<=9223372036854775807)
  (hK:∀t' ws W,Sub s t'->WR t' ws W->WOk F W->K (.agg ws) t'):wC TP XX 14 [.agg cs,lv] K s:=by
 obtain⟨v2,v3,v4,v5,v6,v7,rfl,hL⟩:=hF;refine qPE (boxN hL.all λb0 s1 hb0 g1 u1=>qAM λb2 s3 hb2 g3 u3=>?_);have k1:=u1.sub hb0;have k3:=u3.sub hb2;refine qAA (a:=[lv,.int .i64 0]) ?_ (boxN (by simp[hl.one]) λb5 s6 hb5 g5 u5=>qAM λb7 s8 hb7 g7 u7=>?_)
 ·simp only[qAr,qEr hl.one]
  rfl
 have k5:=u5.sub hb5;have k7:=u7.sub hb7;have k15:=k1.trans k3;have k18:=k15.trans (k5.trans k7);have b5B:sB b5=none:=qAt (kB.trans k15) hb5;have n57:b5≠b7:=λe=>by rw[<- e,g5]at hb7;cases hb7
 have n05:b0≠b5:=λe=>by rw[<- e,k3 _ _ g1]at hb5;cases hb5
 have n25:b2≠b5:=λe=>by rw[<- e,g3]at hb5;cases hb5
 have g15:=(k3.trans k5) _ _ g1;have g35:=k5 _ _ g3;have n07:b0≠b7:=λe=>by rw[<- e,g15]at hb7;cases hb7
 have n27:b2≠b7:=λe=>by rw[<- e,g35]at hb7;cases hb7
 have hb2s:s b2=none:=qAt k1 hb2;have tk:Tk sB s8 b5:=⟨kB.trans k18,b5B,lv,L,0,k7 _ _ g5,by omega,hlen,hl,hb⟩
 have oS:∀{i e},s i=some e->offB s8 b5 b7 i=some e:=fun {i e} hi=>by
  unfold offB;rw[if_neg (by
   rintro (q|q)
   ·rw[q,qAt k15 hb5]at hi;cases hi
   ·rw[q,qAt (k15.trans k5) hb7]at hi;cases hi)]
  exact k18 _ _ hi
 have z:FS 36 sB (offB s8 b5 b7) s8 b5 b7 [.nilslc,.nilslc,.nilslc,.nilslc]:=by
  refine⟨tk,g7,λi e hi=>?_,if_pos (.inl rfl),if_pos (.inr rfl),λi e hi=>oS (kB _ _ hi),n57⟩;unfold offB at hi;split at hi
  ·cases hi
  ·exact hi
 have w:WS s sB (offB s8 b5 b7) s8 b0 b2 b5 b7 (csG F v2 v3 v4 v5 v6 v7) [.nilslc,.nilslc,.nilslc,.nilslc]:=by
  refine⟨z,?_,?_,λi e hi=>?_⟩
  ·unfold offB
   rw[if_neg (by rintro (q|q);exact n05 q;exact n07 q)];exact k7 _ _ g15
  ·unfold offB
   rw[if_neg (by rintro (q|q);exact n25 q;exact n27 q)];exact k7 _ _ g35
  ·rw[qD5 (λq=>by rw[q,hb2s]at hi;cases hi)]
   exact oS hi
 exact qYX ⟨hv,hL,hf v6 rfl,qAt kB hb0⟩ w hb2s hK
end Go.AM.OR
set_option maxRecDepth 100000
namespace Go.AM.OR
open Go Go.Proofs Go.AM.TN
variable {K:AV→Hq→Prop} {s:Hq} {F:FG} {W:WG} {c i k:Nat} {h l sg:Int} {y:R4} {hd:List Hd} {ar:List Int} {q ip:Bool} {x:FC.Fr}
theorem qXV:hd.length<=(lnK hd h l q).length/\(lnK hd h l q).length<=hd.length+1:=by
 unfold lnK;split
 ·simp
 ·simp
theorem qWS{e:Hd}(he:hd[i]?=some e):∃e',(lnK hd h l q)[i]?=some e'/\e'.1=e.1/\e'.2.1=e.2.1/\(e.2.2=true->e'.2.2=true):=by
 have hi:=(gS he).1;unfold lnK;split
 ·exact⟨e,by rw[List.getElem?_append_left hi];exact he,rfl,rfl,id⟩
 ·rename_i k hk
  obtain⟨hk1,hp,_⟩:=List.findIdx?_eq_some_iff_getElem.1 hk
  by_cases c:k=i
  ·subst c
   have ee:hd[k]=e:=by rw[gE hk1]at he;exact Option.some.inj he
   rw[ee,Bool.and_eq_true,beq_iff_eq,beq_iff_eq]at hp;refine⟨_,List.getElem?_set_self hk1,hp.1.symm,hp.2.symm,λq'=>?_⟩;unfold ipA;rw[he];simp[q']
  ·exact⟨e,by rw[List.getElem?_set_ne c];exact he,rfl,rfl,id⟩
theorem qXj:∃e∈lnK hd h l q,e.1=h/\e.2.1=l/\(q=true->e.2.2=true):=by
 unfold lnK;split
 ·exact⟨(h,l,q),by simp,rfl,rfl,id⟩
 ·rename_i k hk
  obtain⟨hk1,_⟩:=List.findIdx?_eq_some_iff_getElem.1 hk;exact⟨(h,l,ipA hd k||q),mG (List.getElem?_set_self hk1),rfl,rfl,λe=>by simp[e]⟩
theorem qSP:(annF y).src=y.1:=by unfold annF;split<;>rfl
theorem qWZ:qLg (annF y).dst=true:=by
 have:(annF y).dst=BCM:=by unfold annF;split<;>rfl
 rw[this];decide +kernel
theorem qZI(hm:0<=y.1/\y.1<=MXM/\qLg y.1=false):ckE (annF y)=0:=by
 have n1:¬MXM<y.1:=by omega
 by_cases c:y.2.1=0
 ·have e:annF y=⟨y.1,BCM,0,0,0,0,0,0,0,0,0,0,0,0,0⟩:=if_pos c
  rw[e];unfold ckE;simp only[hm.2.2,decide_eq_false n1,ar0,ip0];simp
 ·have e:annF y=⟨y.1,BCM,1,1,y.1,y.2.1,0,y.2.1,0,0,0,0,0,0,0⟩:=if_neg c
  rw[e];unfold ckE ckA;simp only[hm.2.2,decide_eq_false n1,ip0];simp
theorem qY6(h:y.2.1≠0):lnIP y (annF y)=true:=by unfold lnIP annF;rw[if_neg h];simp[h]
theorem qYN(he:entO F W h x=some l)(h1:x.src=macA F h.toNat)(h2:ckE x=0):accO F W h x=some l:=by unfold accO;rw[he];simp[h1,h2]
theorem qVT(he:entO F W h x=none):accO F W h x=none:=by unfold accO;rw[he]
theorem qYj(hv:Valid F)(hs:att F W h=some sg)(hl:l∈mems F W sg):upB F W l=true:=by
 unfold mems at hl;split at hl
 ·split at hl
  ·rename_i g hg
   obtain⟨h1,h2⟩:=List.mem_filter.1 hl;unfold memB at h2;rw[Bool.and_eq_true]at h2;have:=((show SegOk F from hv 5 (by omega)).row g (mG hg)).2.1.1 l h1;exact qMl.2 ⟨this,h2.1⟩
  ·cases hl
 ·cases hl
theorem learned(hv:Valid F)(he:entO F W h x=some l)(har:Ar F W l ar)(hq:ip=true->q=true):knw F W ar (lnK hd h l q) h ip=true:=by
 obtain⟨sg,hs,hm⟩:=qNx he;have hl:l∈ar:=har.self.2 (qYj hv hs hm);unfold knw;rw[hs];simp only;rw[Bool.and_eq_true];refine⟨List.any_eq_true.2 ⟨l,hm,decide_eq_true hl⟩,?_⟩;obtain⟨e,h1,h2,h3,h4⟩:=qXj (hd:=hd) (h:=h) (l:=l) (q:=q);refine List.any_eq_true.2 ⟨e,h1,?_⟩;rw[h2,h3,decide_eq_true hl];cases ip with
 |false=>simp
 |true=>simp[h4 (hq rfl)]
theorem qWY{f:FuncId}(hf:f=3∨f=12)(hK:K (.bool true) s):wC TP XX f [] K s:=by
 refine qTO (g:=λargs=>match args with
  |[]=>AM.ret (.bool true)
  |_=>AM.fail) ?_ (wpF.ret hK)
 rcases hf with rfl|rfl<;>rfl
end Go.AM.OR
set_option maxRecDepth 100000
namespace Go.AM.OR
open Go Go.Proofs Go.AM.TN
variable {K:AV→Hq→Prop} {s s' t H:Hq} {v w lv lw:AV} {cs ws:List AV} {F:FG} {W:WG} {a c i k n b4 b16 b28:Nat} {h l a1:Int} {v2 v3 v4 v5 v6 v7:AV} {y:R4} {hd hd':List Hd} {ar:List Int} {q ip:Bool} {x:FC.Fr}
theorem qWm{o:Option Int}{I11:List AV->Hq->Nat->Prop}{m:Nat}(hz:Sz F)(hv:Valid F)(h4:t b4=some (false,.cells 31 (csG F v2 v3 v4 v5 v6 v7)))(h16:t b16=some (false,.cells 36 ws))(hL:FL t F v2 v3 v4 v5 v6 v7)(hW:WR t ws W)(hy:F.H[i]?=some y)(hG:SlR 3 t v (hd'.map hdC))(hn:hd'.length<=100000)(hH:SlR 3 t w (hd.map hdC))(hk:hd.length<=k)
  (ho:∀l,o=some l->∀ar ip,Ar F W l ar->(ip=true->y.2.1≠0)->knw F W ar hd' (i:Int) ip=true) (hK:∀s',K (.bool true) s') :
  qAm XX w (.int .i64 (i:Int)) (.bool true) (.ptr b4 0) (.ptr b16 0) v (.int .i64 (o.getD 0)) (.bool o.isSome) (.int .i64 (k:Int)) I11 m K t:=by
 unfold qAm;refine qAA (by rw[hH.len,lM]) ?_;rw[qAR,qAB,decide_eq_false (by omega),qAE,qAH];rw[qAj,qAB];cases o with
 | none=>
   rw[show(none:Option Int).isSome=false from rfl,Bool.not_false,qAH];exact qAA (a:=.bool true) rfl (qAA (a:=.bool true) rfl (hK _))
 | some l=>
   rw[show(some l).isSome=true from rfl,Bool.not_true,qAE];obtain⟨w1,w2,w3,w4,rfl,hw⟩:=hW;refine qAA (qAX h4 rfl) (qAA (qAX h16 rfl) ?_);refine qQH hz hv ⟨v2,v3,v4,v5,v6,v7,rfl,hL⟩ ⟨w1,w2,w3,w4,rfl,hw⟩ hG hn λs2 ar k2 har=>?_;rw[ho l rfl ar false har (λe=>by cases e),qAH];obtain⟨hb,hO,e1,e2,e3⟩:=(hL.sub k2).H.get (i:=i) (r:=hgC y) (by rw[List.getElem?_map,hy];rfl);refine qAA (a:=.ptr b4 6) rfl (qAA (a:=v6) (by rw[qAJ (k2 _ _ h4)];rfl) (qAA e1 (qAA (a:=.ptr hb (hO+1)) rfl (qAA (a:=.int .u32 y.2.1) ((e3 1 (by omega)).trans rfl) ?_))));simp only[qAb,qAZ,Bool.false_bne,qAB];refine qAI (λc=>?_) (λc=>?_)
   ·rw[c]
    unfold qAo;exact qAA (a:=.bool true) rfl (qAA (a:=.bool true) rfl (qAA (a:=.bool true) rfl (qAA (a:=.bool true) rfl (hK _))))
   ·rw[c]
    have c:y.2.1≠0:=by simpa using c
    refine qAA (qAX (k2 _ _ h4) rfl) (qAA (qAX (k2 _ _ h16) rfl) ?_);refine qQH hz hv ⟨v2,v3,v4,v5,v6,v7,rfl,hL.sub k2⟩ ⟨w1,w2,w3,w4,rfl,hw.sub k2⟩ (hG.sub k2) hn λs3 ar3 k3 har3=>?_;rw[ho l rfl ar3 true har3 (λ_=>c)];unfold qAo;exact qAA (a:=.bool true) rfl (qAA (a:=.bool true) rfl (qAA (a:=.bool true) rfl (qAA (a:=.bool true) rfl (hK _))))
theorem OLe_in{L1 L2:List Int}(hl1:Sl s lv (L1.map (AV.int .i64)))(hn1:L1.length<=9223372036854775807)(hb1:∀x∈L1,-9223372036854775808<=x/\x<=9223372036854775807)(hl2:Sl s lw (L2.map (AV.int .i64)))(hn2:L2.length<=9223372036854775807)(hb2:∀x∈L2,-9223372036854775808<=x/\x<=9223372036854775807)
  (hH:SlR 3 s w (hd.map hdC)) (ha:-9223372036854775808<=a1/\a1<=9223372036854775807) (hK:∀s',K (.bool true) s'):wC TP XX 5 [lv,lw,w,.int .i64 a1] K s:=by
 refine qDX (qWY (.inl rfl) (qSv hl1 hn1 hb1 λs3 cs N k3 hN hNR hfv=>?_));obtain⟨v2,v3,v4,v5,v6,v7,rfl,hL⟩:=hNR.fab;have hfv6:=hfv v6 rfl;have hv:=hN.valid;have hz:=hN.sz;refine qAM λb4 s5 hb4 h5 u5=>qAS h5 rfl rfl hL.all λs6 h6 u6=>?_;have h6:s6 b4=some (false,.cells 31 (csG N.toG v2 v3 v4 v5 v6 v7)):=h6;have k6:Sub s3 s6:=qAY (u5.sub hb4) u6 hb4;have L6:=hL.sub k6;have k06:=k3.trans k6;generalize hF:N.toG=F at hL L6 h6 hv hz;have hHn:F.H.length<=8:=by rw[<- hF];have:=hN.Hn;show(N.H.mapIdx hgN).length<=8;rw[List.length_mapIdx];exact this
 have nlF:qAQ v6=some F.H.length:=by rw[L6.H.len,lM]
 refine qAA (a:=.ptr b4 6) rfl (qAA (a:=v6) (by rw[qAJ h6];rfl) (qAA nlF ?_));simp only[qAb,qAZ,Bool.false_bne,qAB];have stop:∀{t24 t27:AV},qAO t24 (.bool true) t27=some (.bool true)->qAi XX lw w (.int .i64 a1) (.bool true) (.ptr b4 0) t24 t27 K s6:=fun {t24 t27} e=>by unfold qAi;refine qAA e ?_;rw[qAH];exact hK _
 cases c1:((F.H.length:Int) == 0)with
 |true=>rw[qAH];exact stop rfl
 |false=>
 have c1:(F.H.length:Int)≠0:=by simpa using c1
 rw[qAE];refine qAA (by rw[hH.len,lM]) ?_;rw[qAq,qAB];cases c2:decide ((60:Int)<(hd.length:Int))with
 |true=>exact stop rfl
 |false=>
 have hn60:hd.length<=60:=by have:=oF c2;omega
 unfold qAi;refine qAA (a:=.bool false) rfl ?_;rw[qAE];refine qAA (qAX h6 rfl) (qUI hv ⟨v2,v3,v4,v5,v6,v7,rfl,L6⟩ (λv e=>by have e:some v6=some v:=e;cases e;exact hfv6) k06 hl2 hn2 hb2 λs15 ws W k15 hW hWok=>?_);obtain⟨w1,w2,w3,w4,rfl,hw⟩:=hW;refine qAM λb16 s17 hb16 h17 u17=>qAS h17 rfl rfl hw.all λs18 h18 u18=>?_;have k18:Sub s15 s18:=qAY (u17.sub hb16) u18 hb16;have h18:s18 b16=some (false,.cells 36 [w1,w2,w3,w4]):=h18;have k618:=k15.trans k18;refine qAA (a:=.ptr b4 6) rfl (qAA (a:=v6) (by rw[qAJ (k618 _ _ h6)];rfl) (qAA nlF ?_));refine qV3 (n:=F.H.length) ha (by omega) (by omega) λi hi=>?_;have hy:F.H[i]?=some F.H[i]:=gE hi;generalize F.H[i]=y at hy;have hrow:=(show HosOk F from hv 6 (by omega)).row i y hy;refine qAA (qAX (k618 _ _ h6) rfl) (qYu hz hv ⟨v2,v3,v4,v5,v6,v7,rfl,L6.sub k618⟩ hy λs27 k27=>?_);refine qAM λb28 s29 hb28 h29 u29=>qAS h29 rfl rfl rfl λs30 h30 u30=>?_;have k30:Sub s27 s30:=qAY (u29.sub hb28) u30 hb28;have h30:s30 b28=some (false,.cells 48 (FC.frC (annF y))):=h30;have k1830:=k27.trans k30;have k630:=k618.trans k1830;refine qAA (qAX (k630 _ _ h6) rfl) (qAA (qAX (k1830 _ _ h18) rfl) (qAA (qAX h30 rfl) ?_));have hH30:=hH.sub (k06.trans k630);have hwr:=hw.sub (k18.trans k1830);refine qUO hz hv ⟨v2,v3,v4,v5,v6,v7,rfl,L6.sub k630⟩ ⟨w1,w2,w3,w4,rfl,hwr⟩ hH30 (by omega) hy λv34 s35 k35 hG=>?_;have k635:=k630.trans k35;refine qAA (qAX (k635 _ _ h6) rfl) (qAA (qAX ((k1830.trans k35) _ _ h18) rfl) (qAA (qAX (k35 _ _ h30) rfl) ?_));refine qVd (x:=annF y) (h:=(i:Int)) hz hv ⟨v2,v3,v4,v5,v6,v7,rfl,L6.sub k635⟩ ⟨w1,w2,w3,w4,rfl,hwr.sub k35⟩ λs40 k40=>?_;have k640:=k635.trans k40;have hG40:=hG.sub k40;have hH40:=hH30.sub (k35.trans k40);have h640:=k640 _ _ h6;have h1840:=(k1830.trans (k35.trans k40)) _ _ h18;have h3040:=(k35.trans k40) _ _ h30;have L40:=L6.sub k640;have W40:=hwr.sub (k35.trans k40);have hmac:macA F (i:Int).toNat=y.1:=by
  have:(i:Int).toNat=i:=by omega
  rw[this];unfold macA;rw[hy]
 have hck:ckE (annF y)=0:=by refine qZI ⟨?_,hrow.m.2.1,hrow.m.2.2⟩;have hm:=hrow;rw[<- hF]at hy;have hy:(N.H.mapIdx hgN)[i]?=some y:=hy;obtain⟨z,_,rfl⟩:=qGp hy;show(0:Int)<=2199023951872+(i:Int);omega
 have hlen:hd.length<=(lnL F W hd (i:Int) y (annF y)).length/\(lnL F W hd (i:Int) y (annF y)).length<=hd.length+1/\(entO F W (i:Int) (annF y)=none->(lnL F W hd (i:Int) y (annF y)).length=hd.length):=by
  unfold lnL;cases he:accO F W (i:Int) (annF y)with
  |none=>exact⟨Nat.le_refl _,Nat.le_succ _,λ_=>rfl⟩
  | some l=>
    obtain⟨q1,q2⟩:=qXV (hd:=hd) (h:=(i:Int)) (l:=l) (q:=lnIP y (annF y));exact⟨q1,q2,λe=>by rw[qVT e]at he;cases he⟩
 have hold:∀(k:Nat) e,hd[k]?=some e->∃e',(lnL F W hd (i:Int) y (annF y))[k]?=some e'/\e'.1=e.1/\e'.2.1=e.2.1/\(e.2.2=true->e'.2.2=true):=λk e he=>by
  unfold lnL;cases hq:accO F W (i:Int) (annF y)with
  |none=>exact⟨e,he,rfl,rfl,id⟩
  |some l=>exact qWS he
 have hkn:∀l,entO F W (i:Int) (annF y)=some l->∀ar ip,Ar F W l ar->(ip=true->y.2.1≠0)->knw F W ar (lnL F W hd (i:Int) y (annF y)) (i:Int) ip=true:=λl he ar ip har hip=>by unfold lnL;rw[qYN he (by rw[qSP,hmac]) hck];exact learned hv he har λe=>qY6 (hip e)
 generalize lnL F W hd (i:Int) y (annF y)=G at hG40 hlen hold hkn;generalize entO F W (i:Int) (annF y)=o at hlen hkn;refine qAA (a:=.int .i64 (o.getD 0)) rfl (qAA (a:=.bool o.isSome) rfl ?_);have nG:qAQ v34=some G.length:=by rw[hG40.len,lM]
 have nH:qAQ w=some hd.length:=by rw[hH40.len,lM]
 refine qAA nG (qAA nH ?_);rw[qAR,qAB,decide_eq_false (by omega),qAE];refine qAA nG (qAA nH ?_);rw[qAN,qAB,qAc (by omega) (by omega),qAq,qAB,decide_eq_false (by omega)];have j10:qAn XX w (.int .i64 (i:Int)) (.bool true) (.ptr b4 0) (.ptr b16 0) v34 (.int .i64 (o.getD 0)) (.bool o.isSome) (.bool false) (.bool false) K s40:=by
  unfold qAn;refine qAA (a:=.bool false) rfl ?_;rw[qAE];refine⟨λys t m=>∃k:Nat,ys=[.int .i64 (k:Int)]/\k<=hd.length/\m=hd.length-k/\t=s40,⟨_,0,rfl,by omega,rfl,rfl⟩,?_⟩;rintro f t m ⟨k,hyy,hk,rfl,rfl⟩;simp only[cI,and_true]at hyy;rw[hyy];clear hyy
  by_cases hlt:k<hd.length
  rotate_left
  ·exact qWm hz hv h640 h1840 L40 ⟨w1,w2,w3,w4,rfl,W40⟩ hy hG40 (by omega) hH40 (by omega) hkn hK
  unfold qAm;refine qAA nH ?_;rw[qAR,qAB,decide_eq_true (by omega),qAH];have hx:hd[k]?=some hd[k]:=gE hlt;generalize hd[k]=e at hx;obtain⟨e',he',p1,p2,p3⟩:=hold k e hx;obtain⟨gb,go,g1,g2,g3⟩:=hG40.get (i:=k) (r:=hdC e') (by rw[List.getElem?_map,he'];rfl);obtain⟨hb,hO,e1,e2,e3⟩:=hH40.get (i:=k) (r:=hdC e) (by rw[List.getElem?_map,hx];rfl);refine qAA g1 (qAA (a:=.ptr gb go) rfl (qAA (a:=.int .i64 e'.1) ((g3 0 (by omega)).trans rfl) (qAA e1 (qAA (a:=.ptr hb hO) rfl (qAA (a:=.int .i64 e.1) ((e3 0 (by omega)).trans rfl) ?_)))));simp only[qAb,qAZ,Bool.true_bne,qAB];rw[p1,beq_self_eq_true,Bool.not_true,qAE];refine qAA g1 (qAA (a:=.ptr gb (go+1)) rfl (qAA (a:=.int .i64 e'.2.1) ((g3 1 (by omega)).trans rfl) (qAA e1 (qAA (a:=.ptr hb (hO+1)) rfl (qAA (a:=.int .i64 e.2.1) ((e3 1 (by omega)).trans rfl) ?_)))));simp only[qAb,qAZ,Bool.true_bne,qAB];rw[p2,beq_self_eq_true,Bool.not_true];unfold qBB;refine qAA (a:=.bool false) rfl ?_;rw[qAE];refine qAA e1 (qAA (a:=.ptr hb (hO+2)) rfl (qAA (a:=.bool e.2.2) ((e3 2 (by omega)).trans rfl) ?_));have j13:∀{t132 t138:AV},qAO t132 t138 (.bool false)=some (.bool false)->qAp XX (.int .i64 (k:Int)) (.bool false) t132 t138 (λys t' m=>∃k:Nat,ys=[.int .i64 (k:Int)]/\k<=hd.length/\m=hd.length-k/\t'=t) (hd.length-k) K t:=fun {t132 t138} e=>by unfold qAp;refine qAA e (qAA (a:=.bool false) rfl ?_);rw[qAE,qAN,qAB,qAc (by omega) (by omega)];exact⟨_,by omega,k+1,rfl,by omega,rfl,rfl⟩
  cases c:e.2.2 with
  |false=>rw[qAE];exact j13 rfl
  | true=>
    rw[qAH];refine qAA g1 (qAA (a:=.ptr gb (go+2)) rfl (qAA (a:=.bool e'.2.2) ((g3 2 (by omega)).trans rfl) ?_));rw[p3 c,qAj,qAB];exact j13 rfl
 have j8:∀{t71 t76:AV},qAO t71 t76 (.bool false)=some (.bool false)->qAs XX w (.int .i64 (i:Int)) (.bool true) (.ptr b4 0) (.ptr b16 0) (.ptr b28 0) v34 (.int .i64 (o.getD 0)) (.bool o.isSome) (.bool false) t71 t76 K s40:=fun {t71 t76} e=>by unfold qAs;refine qAA e (qAA (a:=.bool false) rfl ?_);rw[qAE];refine qAA (a:=.ptr b28 1) rfl (qAA (a:=.int .u64 (annF y).dst) (by rw[qAJ h3040];rfl) (qHL XX_0 ?_));rw[qWZ,qAj,qAB];unfold qBJ;refine qAA (a:=.bool false) rfl ?_;rw[qAE];obtain⟨hb,hO,e1,e2,e3⟩:=L40.H.get (i:=i) (r:=hgC y) (by rw[List.getElem?_map,hy];rfl);refine qAA (a:=.ptr b28 0) rfl (qAA (a:=.int .u64 (annF y).src) (by rw[qAJ h3040];rfl) (qAA (a:=.ptr b4 6) rfl (qAA (a:=v6) (by rw[qAJ h640];rfl) (qAA e1 (qAA (a:=.ptr hb hO) rfl (qAA (a:=.int .u64 y.1) ((e3 0 (by omega)).trans rfl) ?_))))));simp only[qAb,qAZ,Bool.true_bne,qAB];rw[qSP,beq_self_eq_true,Bool.not_true];exact j10
 unfold qBK;refine qAA (a:=.bool false) rfl ?_;rw[qAE,qAj,qAB];cases o with
 | some l=>
   rw[show(some l).isSome=true from rfl,Bool.not_true,qAE];exact j8 rfl
 | none=>
   rw[show(none:Option Int).isSome=false from rfl,Bool.not_false,qAH];refine qAA nG (qAA nH ?_);rw[hlen.2.2 rfl];simp only[qAb,beq_self_eq_true,qAZ,Bool.true_bne,Bool.not_true,qAB];exact j8 rfl
end Go.AM.OR
namespace Go.AM.SG
open Go Go.AM Go.Proofs
inductive Leaf where
 |i (k:IntKind)
 |b
 |sl (d:Nat) (t:TypeId)
section
variable (P : Program)
def qVW(rec:TypeId->Nat->Option Leaf)(j:Nat):List Field->Option Leaf
 |[]=>none
 |f::fs=>cond (Nat.ble f.offset j&&Nat.blt (j-f.offset) (P.cellsOf f.type)) (rec f.type (j-f.offset)) (qVW rec j fs)
def qO8:Nat->TypeId->Nat->Option Leaf
 | 0,_,_=>none
 | d+1,t,j=>match P.underlying t with
   |some (.int k)=>cond (Nat.beq j 0) (some (.i k)) none
   |some .bool=>cond (Nat.beq j 0) (some .b) none
   |some (.slice _)=>cond (Nat.beq j 0) (some (.sl (d+1) t)) none
   |some (.struct fs)=>qVW P (qO8 d) j fs.toList
   |some (.array n e)=>cond (Nat.blt (j / P.cellsOf e) n&&Nat.blt 0 (P.cellsOf e)) (qO8 d e (j % P.cellsOf e)) none
   |_=>none
end
variable {P:Program} {s:Hq}
def qYc(P:Program)(s:Hq):Leaf->AV->Prop
 | .i k,x=>∃n,x=.int k n/\(Lit.int k n).wf=true
 | .b,x=>∃b,x=.bool b
 | .sl d t,x=>Inp P s d t [x]
theorem qP1{xs:List AV}{o c j:Nat}{x:AV}(h:((xs.drop o).take c)[j]?=some x):xs[o+j]?=some x:=by
 rw[List.getElem?_take]at h;split at h
 ·rw[List.getElem?_drop]at h;exact h
 ·cases h
theorem qM3:∀(d:Nat) (t:TypeId) (xs:List AV) (j:Nat) (k:Leaf),Inp P s d t xs->qO8 P d t j=some k->∃x,xs[j]?=some x/\qYc P s k x
 | 0,_,_,_,_,h,_=>h.elim
 | d+1,t,xs,j,k,h,hk=>by
   unfold qO8 at hk;unfold Inp at h;split at hk
   ·rename_i k0 hu
    simp only[hu]at h;cases e:Nat.beq j 0 with
    |false=>rw[e]at hk;cases hk
    | true=>
      rw[e]at hk;cases hk;obtain⟨n,rfl,h2⟩:=h;exact⟨_,by rw[bE e];rfl,n,rfl,h2⟩
   ·rename_i hu
    simp only[hu]at h;cases e:Nat.beq j 0 with
    |false=>rw[e]at hk;cases hk
    | true=>
      rw[e]at hk;cases hk;obtain⟨b,rfl⟩:=h;exact⟨_,by rw[bE e];rfl,b,rfl⟩
   ·rename_i e0 hu
    cases e:Nat.beq j 0 with
    |false=>rw[e]at hk;cases hk
    | true=>
      rw[e]at hk;cases hk;have h':Inp P s (d+1) t xs:=by unfold Inp;exact h
      simp only[hu]at h;rcases h with rfl|⟨b,n,c,rfl,_⟩
      ·exact⟨_,by rw[bE e];rfl,h'⟩
      ·exact⟨_,by rw[bE e];rfl,h'⟩
   ·rename_i fs hu
    simp only[hu]at h;have key:∀l:List Field,(∀f∈l,f∈fs.toList)->qVW P (qO8 P d) j l=some k->∃x,xs[j]?=some x/\qYc P s k x:=by
     intro l
     induction l with
     |nil=>intro _ q;cases q
     | cons f l ih=>
       intro hm q;unfold qVW at q;cases e:(Nat.ble f.offset j&&Nat.blt (j-f.offset) (P.cellsOf f.type))with
       |false=>rw[e]at q;exact ih (λg hg=>hm g (mO _ hg)) q
       | true=>
         rw[e]at q;simp only[Bool.and_eq_true]at e;obtain⟨x,h1,h2⟩:=qM3 d f.type _ (j-f.offset) k (h.2 f (hm f List.mem_cons_self)) q;refine⟨x,?_,h2⟩;have:=qP1 h1;rw[Nat.add_sub_cancel' (Nat.le_of_ble_eq_true e.1)]at this;exact this
    exact key _ (λf hf=>hf) hk
   ·rename_i n e0 hu
    simp only[hu]at h;cases e:(Nat.blt (j / P.cellsOf e0) n&&Nat.blt 0 (P.cellsOf e0))with
    |false=>rw[e]at hk;cases hk
    | true=>
      rw[e]at hk;simp only[Bool.and_eq_true,Nat.blt_eq]at e;obtain⟨x,h1,h2⟩:=qM3 d e0 _ (j % P.cellsOf e0) k (h.2 (j / P.cellsOf e0) e.1) hk;refine⟨x,?_,h2⟩;have:=qP1 h1;rw[Nat.mul_comm,Nat.div_add_mod]at this;exact this
   ·cases hk
theorem qWA{d:Nat}{t:TypeId}{xs:List AV}{j:Nat}{k:IntKind}(h:Inp P s d t xs)(hk:qO8 P d t j=some (.i k)):∃n,xs[j]?=some (.int k n)/\(Lit.int k n).wf=true:=by obtain⟨x,h1,n,rfl,h2⟩:=qM3 d t xs j _ h hk;exact⟨n,h1,h2⟩
theorem qY4{d:Nat}{t:TypeId}{xs:List AV}{j:Nat}(h:Inp P s d t xs)(hk:qO8 P d t j=some .b):∃b,xs[j]?=some (.bool b):=by obtain⟨x,h1,n,rfl⟩:=qM3 d t xs j _ h hk;exact⟨n,h1⟩
theorem qXd{xs ys:List AV}(hl:xs.length=ys.length)(h:∀j,j<ys.length->xs[j]?=ys[j]?):xs=ys:=by
 refine List.ext_getElem? λj=>?_
 by_cases q:j<ys.length
 ·exact h j q
 ·rw[List.getElem?_eq_none (by omega),List.getElem?_eq_none (by omega)]
end Go.AM.SG
set_option maxRecDepth 100000
namespace Go.AM.OR
open Go Go.Proofs Go.AM.TN
variable {s:Hq} {v:AV}
theorem wf64{n:Int}(h:(Lit.int .i64 n).wf=true):-9223372036854775808<=n/\n<=9223372036854775807:=by unfold Lit.wf at h;simpa [IntKind.min,IntKind.max,IntKind.bits,IntKind.signed]using h
theorem arg_ints{d:Nat}(h:Arg TP s (d+2) 34 v):∃l:List Int,Sl s v (l.map (AV.int .i64))/\(∀x∈l,-9223372036854775808<=x/\x<=9223372036854775807)/\l.length<=maxLen:=
 qS7 (d:=d+1) Tryz.underlying34 (by kernel_rfl) (AV.int .i64) (λn=>-9223372036854775808<=n/\n<=9223372036854775807) (λxs h=>by obtain⟨n,e,w⟩:=qXB Tryz.underlying3 h;exact⟨n,e,wf64 w⟩) h
theorem qZR{xs:List AV}(h:Inp TP s 39 77 xs):∃x:Hd,xs=hdC x:=by
 have hl:=qWf (by kernel_rfl:qCB TP 77=some true) h;rw[show TP.cellsOf 77=3 by kernel_rfl]at hl;obtain⟨n0,h0,w0⟩:=SG.qWA (j:=0) (k:=.i64) h (by kernel_rfl);obtain⟨n1,h1,w1⟩:=SG.qWA (j:=1) (k:=.i64) h (by kernel_rfl);obtain⟨n2,h2⟩:=SG.qY4 (j:=2) h (by kernel_rfl);refine⟨(n0,n1,n2),SG.qXd hl λj hj=>?_⟩
 match j,hj with
 | 0,_=>exact h0
 | 1,_=>exact h1
 | 2,_=>exact h2
theorem arg_heard(h:Arg TP s 40 52 v):∃l:List Hd,SlR 3 s v (l.map hdC):=by obtain⟨l,q,_⟩:=argR (d:=39) Tryz.underlying52 hdC (λ_=>True) (λa=>by rw[show TP.cellsOf 77=3 by kernel_rfl];rfl) (λxs h=>by obtain⟨x,e⟩:=qZR h;exact⟨x,e,trivial⟩) h;rw[show TP.cellsOf 77=3 by kernel_rfl]at q;exact⟨l,q⟩
end Go.AM.OR
namespace Go.AM
open Go Go.Proofs
theorem OLe_wp(s:Hq)(xs:List AV)(h:ArgL TP s 40 [34,34,52,3] xs):wC TP XX 5 xs (λv _=>v=.bool true) s:=by obtain⟨a,b,c,e,rfl,h1,h2,h3,h4⟩:=qZw h;obtain⟨l1,q1,b1,n1⟩:=OR.arg_ints (d:=38) h1;obtain⟨l2,q2,b2,n2⟩:=OR.arg_ints (d:=38) h2;obtain⟨hd,qh⟩:=OR.arg_heard h3;obtain⟨a1,rfl,w1⟩:=qXe (d:=39) Tryz.underlying3 h4;exact OR.OLe_in q1 (Nat.le_trans n1 (by decide)) b1 q2 (Nat.le_trans n2 (by decide)) b2 qh (OR.wf64 w1) λ_=>rfl
end Go.AM
