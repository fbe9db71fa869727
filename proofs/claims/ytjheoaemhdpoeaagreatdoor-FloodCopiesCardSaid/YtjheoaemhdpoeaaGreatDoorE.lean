/- Part E of a calculus over a small memory that is proved to answer as the program does, and of its use for the functions that the law reaches: see the last part. -/
import Derived.Test.YtjheoaemhdpoeaaGreatDoorV2
import Derived.Test.YtjheoaemhdpoeaaGreatDoorG
import Derived.Test.YtjheoaemhdpoeaaGreatDoorC
import Derived.Test.YtjheoaemhdpoeaaGreatDoorV
set_option linter.unusedVariables false
set_option maxRecDepth 100000
namespace Go.AM.FC
open Go Go.Proofs
variable {K : AV → Hq → Prop} {s s0 : Hq} {v : AV} {l : List Int}
theorem zAAU {t:Bool} (hg:s 0=some (t,.glob 0 (.agg kindsL))) (hJ:K (.bool true) s):wC Tryz.prog XX 10 [] K s:=by
 exact qUK rfl rfl (by decide) hg hJ
def xorW (x y:Int):Int:=qBK .u32 ((BitVec.ofInt (IntKind.bits .u32) x ^^^ BitVec.ofInt (IntKind.bits .u32) y).toNat:Nat)
theorem qO2 {x y:Int}:qAH .xor (.int .u32 x) (.int .u32 y)=some (.int .u32 (xorW x y)):=by simp [qAH,arith,qBu,xorW]
def hs1 (h b:Int):Int:=IntKind.u32.wrap (xorW h (qBK .u32 b) * 16777619)
def hsh:Int→List Int→Int
 | h,[]=>h
 | h,b :: r=>hsh (hs1 h b) r
theorem zACl (h:Int):∀ (a b:List Int),hsh h (a ++ b)=hsh (hsh h a) b:=by
 intro a
 induction a generalizing h with
 | nil=>intro b;rfl
 | cons x r ih=>intro b;exact ih (hs1 h x) b
theorem qUe {h:Int} {i:Nat} (hi:i < l.length):hsh h (l.take (i+1))=hs1 (hsh h (l.take i)) l[i]:=by
 rw [List.take_add_one,List.getElem?_eq_getElem hi,zACl]
 rfl
theorem cvI {k k':IntKind} {n:Int}:qDl k (.int k' n)=some (.int k (qBK k n)):=rfl
def numB (v:Int):Nat→List Int
 | 0=>[]
 | n+1=>qBK .u8 (v.fdiv ((2 ^ (8 * n):Nat):Int)) :: numB v n
theorem qCI (v:Int):∀ n,(numB v n).length=n
 | 0=>rfl
 | n+1=>by rw [numB,List.length_cons,qCI v n]
theorem zAEd {v:Int} {m:Nat} (hm:m≤64):qF4 .shr (.int .u64 v) (.int .i64 (m:Int))=some (.int .u64 (v.fdiv ((2 ^ m:Nat):Int))):=by
 show frc (v.fdiv ((2 ^ (min m (IntKind.bits .u64)):Nat):Int)) (λn=>some (AV.int .u64 n))=_
 rw [qBu,Nat.min_eq_left (show m≤IntKind.bits .u64 from hm)]
abbrev b8 (l:List Int):List AV:=l.map (AV.int .u8)
theorem qYN {elem:TypeId} {s0 s s':Hq} {l:List AV} (h:Acc elem s0 s v l) (hs:Sub s s'):Acc elem s0 s' v l:=by
 rcases h with h | ⟨b,h0,rfl,h⟩
 ·exact .inl h
 ·exact .inr ⟨b,h0,rfl,hs _ _ h⟩
theorem qQR {elem:TypeId}:Acc elem s0 s .nilslc (b8 []):=.inl ⟨rfl,rfl⟩
theorem qXX {z:AV} {x:Int} {C:AV→Hq→Prop} (hz:z.one=true) (h:Acc 5 s0 s v (b8 l)) (hs:Sub s0 s) (hl:l.length≤1000) (hK:∀ v' s',Acc 5 s0 s' v' (b8 (l ++ [x]))→Sub s0 s'→C v' s') :
  oK (qCA (repl 1 [z]) [(0,1,.int .u8 x)]) λc=>qAg c=true∧newK 5 c (λb s'=>appK 5 1 v (.slc b 0 1 (some 1) 1) C s') s:=by
 refine qRy hz rfl λb s1 hb h1 u1=>?_
 have k1:=hs.trans (u1.sub hb)
 refine (qYN h (u1.sub hb)).app (m:=[.int .u8 x]) (Sl.mk h1 rfl (by simp)) (by simp) (by simp;omega) (λi hi=>?_) λv' s' a k=>?_
 ·cases e:s0 i with
  | none=>exact absurd e hi
  | some y=>rw [k1 _ _ e];simp
 ·refine hK v' s' (by rw [b8,List.map_append];exact a) λi e hi=>k i e (k1 i e hi) λb' hv=>?_
  rintro rfl
  rcases h with ⟨rfl,_⟩ | ⟨b2,h0,rfl,_⟩
  ·cases hv
  ·cases hv
   rw [h0] at hi;cases hi
theorem qLa {n:Int} {k:Nat} (hk:k≤8) (h:Acc 5 s0 s v (b8 l)) (hs:Sub s0 s) (hl:l.length≤500) (hK:∀ v' s',Acc 5 s0 s' v' (b8 (l ++ numB n k))→Sub s0 s'→K v' s'):wC Tryz.prog XX 51 [v,.int .u64 n,.int .i64 (k:Int)] K s:=by
 refine qOD ?_
 simp only [qH6,qAw,qAA]
 rw [qAk (by omega) (by omega)]
 refine ⟨λys t m=>∃ (w:AV) (l1:List Int) (j:Nat),ys=[w,.int .i64 ((j:Int) - 1)]∧Acc 5 s0 t w (b8 l1)∧Sub s0 t∧j≤k∧m=j∧l1.length+j=l.length+k∧l ++ numB n k=l1 ++ numB n j,⟨_,v,l,k,rfl,h,hs,by omega,rfl,rfl,rfl⟩,?_⟩
 rintro f t m ⟨w,l1,j,hy,h1,k1,hj,rfl,he,hq⟩
 simp only [List.cons.injEq,and_true] at hy
 rw [hy.1,hy.2]
 simp only [qIJ,qBA,qAA]
 refine qAK (λhge=>?_) (λhlt=>?_)
 ·have hge:0≤(m:Int) - 1:=of_decide_eq_true hge
  obtain ⟨j,rfl⟩:∃ j,m=j+1:=⟨m - 1,by omega⟩
  have e8:(8:Int) * (((j+1:Nat):Int) - 1)=((8 * j:Nat):Int):=by omega
  simp only [qKH,qAA]
  rw [qAk (by omega) (by omega),e8,zAEd (by omega)]
  simp only [cvI,qAA]
  refine qXX rfl h1 k1 (by omega) λv' s' a q=>?_
  simp only [qAw,qAA]
  rw [qAk (by omega) (by omega)]
  exact ⟨j,by omega,_,_,j,by congr 3;omega,a,q,by omega,rfl,by simp;omega,by rw [hq,numB,List.append_assoc];rfl⟩
 ·have hlt:¬ (0≤(m:Int) - 1):=of_decide_eq_false hlt
  have:m=0:=by omega
  subst this
  refine hK _ _ ?_ k1
  rw [hq]
  simpa [numB] using h1
theorem zABK {n:Int} {k:Nat} (hk:k≤8) (h:Acc 5 s0 s v (b8 l)) (hs:Sub s0 s) (hl:l.length≤500) (hK:∀ v' s',Acc 5 s0 s' v' (b8 (l ++ numB n k))→Sub s0 s'→K v' s'):wC Tryz.prog XX 81 [v,.int .u64 n,.int .i64 (k:Int)] K s:=by
 refine qHd ?_
 simp only [qC3,qAw,qAA]
 rw [qAk (by omega) (by omega)]
 refine ⟨λys t m=>∃ (w:AV) (l1:List Int) (j:Nat),ys=[w,.int .i64 ((j:Int) - 1)]∧Acc 5 s0 t w (b8 l1)∧Sub s0 t∧j≤k∧m=j∧l1.length+j=l.length+k∧l ++ numB n k=l1 ++ numB n j,⟨_,v,l,k,rfl,h,hs,by omega,rfl,rfl,rfl⟩,?_⟩
 rintro f t m ⟨w,l1,j,hy,h1,k1,hj,rfl,he,hq⟩
 simp only [List.cons.injEq,and_true] at hy
 rw [hy.1,hy.2]
 simp only [qDX,qBA,qAA]
 refine qAK (λhge=>?_) (λhlt=>?_)
 ·have hge:0≤(m:Int) - 1:=of_decide_eq_true hge
  obtain ⟨j,rfl⟩:∃ j,m=j+1:=⟨m - 1,by omega⟩
  have e8:(8:Int) * (((j+1:Nat):Int) - 1)=((8 * j:Nat):Int):=by omega
  simp only [qKH,qAA]
  rw [qAk (by omega) (by omega),e8,zAEd (by omega)]
  simp only [cvI,qAA]
  refine qXX rfl h1 k1 (by omega) λv' s' a q=>?_
  simp only [qAw,qAA]
  rw [qAk (by omega) (by omega)]
  exact ⟨j,by omega,_,_,j,by congr 3;omega,a,q,by omega,rfl,by simp;omega,by rw [hq,numB,List.append_assoc];rfl⟩
 ·have hlt:¬ (0≤(m:Int) - 1):=of_decide_eq_false hlt
  have:m=0:=by omega
  subst this
  refine hK _ _ ?_ k1
  rw [hq]
  simpa [numB] using h1
theorem zADB (h:Sl s v (b8 l)) (hl:l.length≤1000) (hK:K (.int .u32 (hsh 2166136261 l)) s):wC Tryz.prog XX 52 [v] K s:=by
 refine qGy ?_
 unfold qCj
 have n1:qAR v=some l.length:=by rw [h.len,List.length_map]
 simp only [n1,qAA]
 refine ⟨λys t m=>∃ i:Nat,ys=[.int .u32 (hsh 2166136261 (l.take i)),.int .i64 (i:Int)]∧t=s∧i≤l.length∧m=l.length - i,⟨_,0,rfl,rfl,by omega,rfl⟩,?_⟩
 rintro f t m ⟨i,hy,rfl,hi,rfl⟩
 simp only [List.cons.injEq,and_true] at hy
 rw [hy.1,hy.2]
 simp only [qDP,qAV,qAA]
 refine qAK (λhlt=>?_) (λhge=>?_)
 ·have hlt:i < l.length:=by have:=of_decide_eq_true hlt;omega
  obtain ⟨p,e1,e2⟩:=h.get (i:=i) (by rw [List.length_map];exact hlt)
  rw [List.getElem?_map,List.getElem?_eq_getElem hlt] at e2
  simp only [e1,e2,Option.map_some,cvI,qO2,qKH,qAW,qAA]
  rw [qAk (by omega) (by omega)]
  exact ⟨_,by omega,i+1,by rw [qUe hlt];rfl,(by trivial),by omega,rfl⟩
 ·have hge:i=l.length:=by have:=of_decide_eq_false hge;omega
  subst hge
  rw [List.take_length]
  exact hK
theorem zACp (h:Sl s v (b8 l)) (hl:l.length≤1000) (hK:K (.int .u32 (hsh 2166136261 l)) s):wC Tryz.prog XX 82 [v] K s:=by
 refine qG5 ?_
 unfold qCk
 have n1:qAR v=some l.length:=by rw [h.len,List.length_map]
 refine ⟨λys t m=>∃ i:Nat,ys=[.int .u32 (hsh 2166136261 (l.take i)),.int .i64 (i:Int)]∧t=s∧i≤l.length∧m=l.length - i,⟨_,0,rfl,rfl,by omega,rfl⟩,?_⟩
 rintro f t m ⟨i,hy,rfl,hi,rfl⟩
 simp only [List.cons.injEq,and_true] at hy
 rw [hy.1,hy.2]
 simp only [qDQ,n1,qAV,qAA]
 refine qAK (λhlt=>?_) (λhge=>?_)
 ·have hlt:i < l.length:=by have:=of_decide_eq_true hlt;omega
  obtain ⟨p,e1,e2⟩:=h.get (i:=i) (by rw [List.length_map];exact hlt)
  rw [List.getElem?_map,List.getElem?_eq_getElem hlt] at e2
  simp only [e1,e2,Option.map_some,cvI,qO2,qKH,qAW,qAA]
  rw [qAk (by omega) (by omega)]
  exact ⟨_,by omega,i+1,by rw [qUe hlt];rfl,(by trivial),by omega,rfl⟩
 ·have hge:i=l.length:=by have:=of_decide_eq_false hge;omega
  subst hge
  rw [List.take_length]
  exact hK
end Go.AM.FC
set_option maxRecDepth 100000
namespace Go.AM.FC
open Go Go.Proofs Go.AM.TN
variable {K : AV → Hq → Prop} {s s' s0 T U : Hq} {v : AV} {l : List Int}
theorem qQk {zs c:List AV} (h:c.length=zs.length):qCA (repl 1 zs) [(0,zs.length,.agg c)]=some c:=by
 have e0:repl 1 zs=zs:=by simp [repl]
 rw [e0]
 have e2:Nat.beq c.length zs.length=true:=by rw [h];exact Nat.beq_refl _
 have e3:Nat.ble (0+c.length) zs.length=true:=Nat.ble_eq_true_of_le (by omega)
 simp only [qCA,qIK,e2,e3,Bool.and_self,cond_true]
 unfold qBZ
 rw [List.take_zero,List.nil_append,List.drop_eq_nil_of_le (by omega),List.append_nil]
theorem qT3 {es:Nat} {e:TypeId} {b:Nat} {t:Bool} {r:List AV} (h:s b=some (t,.cells e r)) (hl:r.length=es):SlR es s (.slc b 0 1 (some 1) es) [r]:=
 SlR.mk (λx hx=>by rw [List.mem_singleton.1 hx];exact hl) (by simpa using h) rfl (λc e=>by cases e;simp)
theorem cut1 (h:Sub s0 s):Sub s0 (cutH [(s,add s U)] (add s U)):=λi e hi=>qQq (h i e hi) (qAz (h i e hi))
theorem cut2 (h:Sub s0 s) (h1:Sub s T) (h2:Sub T U):Sub s0 (cutH [(s,T),(T,U)] U):=λi e hi=>by
 rw [qSN]
 ·exact h2 _ _ (h1 _ _ (h _ _ hi))
 ·intro p hp
  simp only [List.mem_cons,List.not_mem_nil,or_false] at hp
  rcases hp with rfl | rfl
  ·show s i=T i
   rw [h _ _ hi,h1 _ _ (h _ _ hi)]
  ·show T i=U i
   rw [h1 _ _ (h _ _ hi),h2 _ _ (h1 _ _ (h _ _ hi))]
structure Fr where
 src:Int
 dst:Int
 kind:Int
 a3:Int
 a4:Int
 a5:Int
 a6:Int
 a7:Int
 hs:Int
 hd:Int
 a10:Int
 pr:Int
 p1:Int
 p2:Int
 data:Int
def frC (x:Fr):List AV:=[.int .u64 x.src,.int .u64 x.dst,.int .i64 x.kind,.int .i64 x.a3,.int .u64 x.a4,.int .u32 x.a5,.int .u64 x.a6,.int .u32 x.a7,.int .u32 x.hs,.int .u32 x.hd,.int .i64 x.a10,.int .i64 x.pr,.int .i64 x.p1,.int .i64 x.p2,.int .u64 x.data]
def flwI (x:Fr):List Int:=numB (qBK .u64 x.hs) 4 ++ numB (qBK .u64 x.hd) 4 ++ numB (qBK .u64 x.pr) 1 ++ numB (qBK .u64 x.p1) 2 ++ numB (qBK .u64 x.p2) 2
def flwE (x:Fr):List Int:=numB x.src 6 ++ numB x.dst 6 ++ numB (qBK .u64 x.kind) 1
def flw (x:Fr):List Int:=if x.kind=2 then flwI x else flwE x
theorem zAAd (x:Fr):(flwI x).length=13:=by simp only [flwI,List.length_append,qCI]
theorem zAAJ (x:Fr):(flwE x).length=13:=by simp only [flwE,List.length_append,qCI]
def ent (x:Fr):Int:=IntKind.i64.wrap (49152+qBK .i64 ((hsh 2166136261 (flw x)).tmod 16384))
variable {x : Fr}
theorem qY7 {X:AV→Hq→Prop} (hf:Acc 5 s0 s v (b8 (flw x))) (hl:(flw x).length≤1000) (hX:X (.int .i64 (ent x)) s):qBL XX v X s:=by
 unfold qBL
 refine zADB hf.sl hl ?_
 simp only [qRS (show (16384:Int)≠0 by decide),cvI,qAW,qAA]
 exact hX
theorem qS1 (x:Fr):(flw x).length=13:=by unfold flw;split;exact zAAd x;exact zAAJ x
theorem qWI (hK:∀ s',Sub s s'→K (.int .i64 (ent x)) s'):wC Tryz.prog XX 23 [.agg (frC x)] K s:=by
 refine qJi ⟨rfl,qAO λb s1 hb h1 u1=>?_⟩
 have k1:=u1.sub hb
 have h1:s1 b=some (false,.cells 52 (frC x)):=h1
 have r2:rd1 s1 (.ptr b 2)=some (.int .i64 x.kind):=by rw [qAI h1];rfl
 simp only [qAD,Nat.zero_add,qAA,r2,qAc,qAY,Bool.false_bne]
 cases q:(x.kind == 2) with
 | true=>
   have q:x.kind=2:=eq_of_beq q
   simp only [qAM]
   refine qAJ (a:=[.int .u32 x.hs,.int .u32 x.hd,.int .i64 x.a10,.int .i64 x.pr,.int .i64 x.p1,.int .i64 x.p2]) (by simp only [rdN,h1];rfl) (qAO λc s13 hc h13 u13=>qAd h13 rfl rfl rfl λs14 h14 u14=>?_)
   have k14:Sub s1 s14:=qAb (u13.sub hc) u14 hc
   have rd:∀ {t:Hq},Sub s14 t→∀ i,rd1 t (.ptr c i)=[AV.int .u32 x.hs,.int .u32 x.hd,.int .i64 x.a10,.int .i64 x.pr,.int .i64 x.p1,.int .i64 x.p2][i]?:=λk i=>qAI (k _ _ h14)
   have g:∀ {t:Hq} {w:AV} {l:List Int},Acc 5 s14 t w (b8 l)→Sub s14 t→flw x=l→qBL XX w K t:=fun {t w l} a k e=>by
    subst e
    exact qY7 a (by rw [qS1];omega) (hK _ (k1.trans (k14.trans k)))
   simp only [qAA,rd (.refl _),List.getElem?_cons_zero,cvI]
   refine qLa (k:=4) (by omega) qQR (.refl _) (by simp) λw4 s4 a4 k4=>?_
   simp only [qAA,rd k4,List.getElem?_cons_succ,List.getElem?_cons_zero,cvI]
   refine qLa (k:=4) (by omega) a4 k4 (by simp [qCI]) λw5 s5 a5 k5=>?_
   simp only [qAA,rd k5,List.getElem?_cons_succ,List.getElem?_cons_zero,cvI]
   refine qLa (k:=1) (by omega) a5 k5 (by simp [qCI]) λw6 s6 a6 k6=>?_
   simp only [qAA,rd k6,List.getElem?_cons_succ,List.getElem?_cons_zero,cvI]
   refine qLa (k:=2) (by omega) a6 k6 (by simp [qCI]) λw7 s7 a7 k7=>?_
   simp only [qAA,rd k7,List.getElem?_cons_succ,List.getElem?_cons_zero,cvI]
   refine qLa (k:=2) (by omega) a7 k7 (by simp [qCI]) λw8 s8 a8 k8=>?_
   exact g a8 k8 (by unfold flw;rw [if_pos q];rfl)
 | false=>
   have q:¬ x.kind=2:=by simpa using q
   simp only [qAE]
   have rd:∀ {t:Hq},Sub s1 t→∀ i,rd1 t (.ptr b i)=(frC x)[i]?:=λk i=>qAI (k _ _ h1)
   have g:∀ {t:Hq} {w:AV} {l:List Int},Acc 5 s1 t w (b8 l)→Sub s1 t→flw x=l→qBL XX w K t:=fun {t w l} a k e=>by
    subst e
    exact qY7 a (by rw [qS1];omega) (hK _ (k1.trans k))
   simp only [qAA,rd (.refl _),frC,List.getElem?_cons_zero]
   refine qLa (k:=6) (by omega) qQR (.refl _) (by simp) λw4 s4 a4 k4=>?_
   simp only [qAA,rd k4,frC,List.getElem?_cons_succ,List.getElem?_cons_zero]
   refine qLa (k:=6) (by omega) a4 k4 (by simp [qCI]) λw5 s5 a5 k5=>?_
   simp only [qAA,rd k5,frC,List.getElem?_cons_succ,List.getElem?_cons_zero,cvI]
   refine qLa (k:=1) (by omega) a5 k5 (by simp [qCI]) λw6 s6 a6 k6=>?_
   exact g a6 k6 (by unfold flw;rw [if_neg q];rfl)
end Go.AM.FC
set_option maxRecDepth 100000
namespace Go.AM.FW
open Go Go.Proofs Go.AM.TN
variable {K : AV → Hq → Prop} {s s' s0 : Hq} {v w : AV} {cs : List AV} {F : FG} {R : List SG.Rt} {S : List (List Int × List Int)} {i : Nat} {x : List Int × List Int}
theorem qTp (z:Sz F) (hF:FabR s cs F) (hK:∀ b s',Sub s s'→(b=true↔Valid F)→K (.bool b) s'):wC Tryz.prog XX 78 [.agg cs] K s:=by
 obtain ⟨v2,v3,v4,v5,v6,v7,rfl,hL⟩:=hF
 refine qT9 ⟨hL.all,qAO λb s1 hb h1 u1=>?_⟩
 have h1:s1 b=some (false,.cells 31 (csG F v2 v3 v4 v5 v6 v7)):=h1
 have k1:=u1.sub hb
 refine qAJ (qAa h1 rfl) (qRC z ⟨v2,v3,v4,v5,v6,v7,rfl,hL.sub k1⟩ λe p j s4 k4 he=>?_)
 refine qAJ (a:=.int .i64 e) rfl (qAJ (a:=p) rfl (qAJ (a:=.int .i64 j) rfl ?_))
 simp only [qAc,qAY,Bool.false_bne,qAA]
 exact hK _ s4 (k1.trans k4) (by rw [beq_iff_eq];exact he)
end Go.AM.FW
set_option maxRecDepth 100000
namespace Go.AM.FW
open Go Go.Proofs Go.AM.TN
variable {K : AV → Hq → Prop} {s s' s0 : Hq} {v w : AV} {cs : List AV} {F : FG} {R : List SG.Rt} {S : List (List Int × List Int)} {i : Nat} {x : List Int × List Int} {v2 v3 v4 v5 v6 v7 : AV} {e e' : SG.Es} {bd ip bd' ip' : Int}
structure Sml (F:FG):Prop where
 L:F.L.length≤40
 T:F.T.length≤40
 B:F.B.length≤40
 S:F.S.length≤40
 H:F.H.length≤40
 G:F.G.length≤40
 N:∀ x∈F.S,x.1.length≤20∧x.2.length≤20
theorem zACn (hS:F.S.length≤9223372036854775807) (hF:FabR s cs F) (hK:∀ b s',Sub s s'→(b=false→Sml F)→K (.bool b) s'):wC Tryz.prog XX 8 [.agg cs] K s:=by
 obtain ⟨v2,v3,v4,v5,v6,v7,rfl,hL⟩:=hF
 refine qV2 ⟨hL.all,qAO λb s1 hb h1 u1=>?_⟩
 have h1:s1 b=some (false,.cells 31 (csG F v2 v3 v4 v5 v6 v7)):=h1
 have k1:=u1.sub hb
 have L1:=hL.sub k1
 have n2:qAR v2=some F.L.length:=by rw [L1.L.len,List.length_map]
 have n3:qAR v3=some F.T.length:=by rw [L1.T.len,List.length_map]
 have n4:qAR v4=some F.B.length:=by rw [L1.B.len,List.length_map]
 have n5:qAR v5=some F.S.length:=L1.S.len
 have n6:qAR v6=some F.H.length:=by rw [L1.H.len,List.length_map]
 have n7:qAR v7=some F.G.length:=by rw [L1.G.len,List.length_map]
 have yes:K (.bool true) s1:=hK true s1 k1 λh=>by cases h
 simp only [qAD,Nat.zero_add,qAA,qAI h1,csG2,n2,qAr]
 cases a0:decide ((40:Int) < (F.L.length:Int)) with
 | true=>
   simp only [qAM,qGs,qFQ,qDy,qDO,qDL,qAP,qAA]
   exact yes
 | false=>
 simp only [qAE,qAA,csG3,n3]
 cases a1:decide ((40:Int) < (F.T.length:Int)) with
 | true=>
   simp only [qAM,qGs,qFQ,qDy,qDO,qDL,qAP,qAF,qAA]
   exact yes
 | false=>
 simp only [qGs,qAF,qAE,qAD,Nat.zero_add,qAA,qAI h1,csG4,n4,qAr]
 cases a2:decide ((40:Int) < (F.B.length:Int)) with
 | true=>
   simp only [qAM,qFQ,qDy,qDO,qDL,qAP,qAF,qAA]
   exact yes
 | false=>
 simp only [qFQ,qAF,qAE,qAD,Nat.zero_add,qAA,qAI h1,csG5,n5,qAr]
 cases a3:decide ((40:Int) < (F.S.length:Int)) with
 | true=>
   simp only [qAM,qDy,qDO,qDL,qAP,qAF,qAA]
   exact yes
 | false=>
 simp only [qDy,qAF,qAE,qAD,Nat.zero_add,qAA,qAI h1,csG6,n6,qAr]
 cases a4:decide ((40:Int) < (F.H.length:Int)) with
 | true=>
   simp only [qAM,qDO,qDL,qAP,qAF,qAA]
   exact yes
 | false=>
 simp only [qDO,qAF,qAE,qAD,Nat.zero_add,qAA,qAI h1,csG7,n7,qAr,qDL]
 refine qAK (λ_=>yes) (λa5=>?_)
 refine ⟨λys t m=>∃ k:Nat,ys=[.int .i64 (k:Int)]∧t=s1∧k≤F.S.length∧m=F.S.length - k∧∀ x∈F.S.take k,x.1.length≤20∧x.2.length≤20,⟨_,0,rfl,rfl,by omega,rfl,by simp⟩,?_⟩
 rintro en t m ⟨k,hy,rfl,hki,rfl,hno⟩
 simp only [List.cons.injEq,and_true] at hy
 rw [hy]
 simp only [qPJ,qAD,Nat.zero_add,qAI h1,csG5,n5,qAV,qAA]
 refine qAK (λhlt=>?_) (λhge=>?_)
 ·have hlt:k < F.S.length:=by have:=of_decide_eq_true hlt;omega
  have hx:F.S[k]?=some F.S[k]:=List.getElem?_eq_getElem hlt
  obtain ⟨pb,po,l1,l2,e1,_,e3,e4,g1,g2⟩:=L1.S.at hx
  have m1:qAR l1=some F.S[k].1.length:=by rw [g1.len,qCP]
  have m2:qAR l2=some F.S[k].2.length:=by rw [g2.len,qCP]
  simp only [qAD,Nat.add_zero,qAA,e1,e3,m1,qAr]
  cases q:decide ((20:Int) < (F.S[k].1.length:Int)) with
  | true=>
    simp only [qAM,qI2,qAP,qAA]
    exact yes
  | false=>
  simp only [qAE,qAA,e4,m2,qI2,qAF]
  refine qAK (λ_=>yes) (λq2=>?_)
  simp only [qAW,qAA]
  rw [qAk (by omega) (by omega)]
  refine ⟨_,by omega,k+1,rfl,(by trivial),by omega,rfl,qMB hlt hno ?_⟩
  have:=of_decide_eq_false q
  have:=of_decide_eq_false q2
  omega
 ·have hge:k=F.S.length:=by have:=of_decide_eq_false hge;omega
  subst hge
  rw [List.take_length] at hno
  have:=of_decide_eq_false a0
  have:=of_decide_eq_false a1
  have:=of_decide_eq_false a2
  have:=of_decide_eq_false a3
  have:=of_decide_eq_false a4
  have:=of_decide_eq_false a5
  exact hK false _ k1 λ_=>⟨by omega,by omega,by omega,by omega,by omega,by omega,hno⟩
end Go.AM.FW
set_option maxRecDepth 100000
namespace Go.AM.FW
open Go Go.Proofs Go.AM.TN
variable {K : AV → Hq → Prop} {s s' s0 : Hq} {v w : AV} {cs : List AV} {F : FG} {R : List SG.Rt} {S : List (List Int × List Int)} {i : Nat} {x : List Int × List Int} {v2 v3 v4 v5 v6 v7 : AV} {e : SG.Es} {bd ip : Int}
theorem zADc (h:SgG s v S):SgG (AM.frz s) v S:=by
 obtain ⟨vs,h1,h2,h3⟩:=h
 exact ⟨vs,h1.frz,h2,λi q x a c=>⟨(h3 i q x a c).1.frz,(h3 i q x a c).2.frz⟩⟩
theorem zABy (h:FL s F v2 v3 v4 v5 v6 v7):FL (AM.frz s) F v2 v3 v4 v5 v6 v7:=⟨h.L.frz,h.T.frz,h.B.frz,zADc h.S,h.H.frz,h.G.frz⟩
end Go.AM.FW
set_option maxRecDepth 100000
namespace Go.AM.FC
open Go Go.Proofs Go.AM.TN
variable {K : AV → Hq → Prop} {s s' s0 T U : Hq} {v w : AV} {cs : List AV} {F : FG} {x : Fr} {v2 v3 v4 v5 v6 v7 : AV} {leaf bd g mk : Int} {P : List Int}
theorem qZD (z:Sz F) (hF:FabR s cs F) (hK:∀ b s',Sub s s'→(b=true↔Valid F)→K (.bool b) s'):wC Tryz.prog XX 75 [.agg cs] K s:=by
 obtain ⟨v2,v3,v4,v5,v6,v7,rfl,hL⟩:=hF
 refine qTF ⟨hL.all,qAO λb s1 hb h1 u1=>?_⟩
 have h1:s1 b=some (false,.cells 31 (csG F v2 v3 v4 v5 v6 v7)):=h1
 have k1:=u1.sub hb
 refine qAJ (qAa h1 rfl) (qU0 z ⟨v2,v3,v4,v5,v6,v7,rfl,hL.sub k1⟩ (λhv s4 k4=>?_) (λhv e p i s4 he k4=>?_))
 ·refine qAJ (a:=.int .i64 0) rfl (qAJ (a:=.str ⟨#[]⟩) rfl (qAJ (a:=.int .i64 0) rfl ?_))
  simp only [qAc,qAY,Bool.false_bne,qAA]
  exact hK _ s4 (k1.trans k4) (by simp [hv])
 ·refine qAJ (a:=.int .i64 e) rfl (qAJ (a:=.str p) rfl (qAJ (a:=.int .i64 i) rfl ?_))
  simp only [qAc,qAY,Bool.false_bne,qAA]
  exact hK _ s4 (k1.trans k4) (by simp [hv,he])
def Vb (F:FG) (bd:Int):Prop:=Valid F∧0≤bd∧bd < (F.B.length:Int)
theorem qXw (z:Sz F) (hF:FabR s cs F) (hK:∀ b s',Sub s s'→(b=true↔Vb F bd)→K (.bool b) s'):wC Tryz.prog XX 43 [.agg cs,.int .i64 bd] K s:=by
 obtain ⟨v2,v3,v4,v5,v6,v7,rfl,hL⟩:=hF
 refine qK5 ⟨hL.all,qAO λb s1 hb h1 u1=>?_⟩
 have h1:s1 b=some (false,.cells 31 (csG F v2 v3 v4 v5 v6 v7)):=h1
 have k1:=u1.sub hb
 have fin:∀ {s4:Hq} {e:Int} {p:ByteArray} {i:Int},Sub s1 s4→((e == 0)=true↔Valid F)→oK (qAp (.tup [.int .i64 e,.str p,.int .i64 i]) 0) λv_5=>oK (qAp (.tup [.int .i64 e,.str p,.int .i64 i]) 1) λv_6=>oK (qAp (.tup [.int .i64 e,.str p,.int .i64 i]) 2) λv_7=>oK (negB false (eqV 0 true v_5 (.int .i64 0))) λv_8=>qAQ v_8
  (oK (qAH .geq (.int .i64 bd) (.int .i64 0)) λv_16=>qBc XX (.int .i64 bd) (.ptr b 0) v_8 v_16 K s4) (qBc XX (.int .i64 bd) (.ptr b 0) v_8 .undef K s4):=fun {s4 e p i} k4 he=>by
   refine qAJ (a:=.int .i64 e) rfl (qAJ (a:=.str p) rfl (qAJ (a:=.int .i64 i) rfl ?_))
   simp only [qAc,qAY,Bool.false_bne,qAA,qBA]
   have no:¬ Vb F bd→K (.bool false) s4:=λh=>hK false s4 (k1.trans k4) ⟨λq=>(by cases q),λq=>absurd q h⟩
   have hL4:=hL.sub (k1.trans k4)
   have n4:qAR v4=some F.B.length:=by rw [hL4.B.len,List.length_map]
   have q4:=k4 _ _ h1
   cases e0:(e == 0) with
   | false=>
     simp only [qAE,qBc,qAF,qB5,qAA]
     exact no λq=>by have:=he.2 q.1;rw [e0] at this;cases this
   | true=>
   simp only [qAM,qBc,qAP,qAA]
   refine qAK (λq=>?_) (λq=>?_)
   ·simp only [qAD,Nat.zero_add,qAA,qAI q4,csG4,n4,qAV,qB5,q,qAP]
    refine hK _ s4 (k1.trans k4) ?_
    rw [decide_eq_true_iff]
    exact ⟨λh=>⟨he.1 e0,of_decide_eq_true q,h⟩,λh=>h.2.2⟩
   ·simp only [qB5,q,qAF,qAA]
    exact no λh=>absurd h.2.1 (of_decide_eq_false q)
 refine qAJ (qAa h1 rfl) (qU0 z ⟨v2,v3,v4,v5,v6,v7,rfl,hL.sub k1⟩ (λhv s4 k4=>?_) (λhv e p i s4 he k4=>?_))
 ·exact fin k4 (by simp [hv])
 ·exact fin k4 (by simp [hv,he])
def lb (n:Int):Int:=if n < 0∨32≤n then 0 else IntKind.u32.wrap (IntKind.u32.wrap (184483840+qBK .u32 n)+1)
theorem zACx {n:Int} (hK:∀ e,K (.tup [.int .u32 (lb n),.int .i64 e]) s):wC Tryz.prog XX 50 [.int .i64 n] K s:=by
 refine qJd ?_
 simp only [qEk,qAV,qBA,qAA]
 have bad:(n < 0∨32≤n)→K (.tup [.int .u32 0,.int .i64 2]) s:=λh=>by
  have:=hK 2
  unfold lb at this
  rw [if_pos h] at this
  exact this
 refine qAK (λq=>?_) (λq=>?_)
 ·simp only [qCN,q,qAP,qAA,qAM]
  exact bad (.inl (of_decide_eq_true q))
 ·simp only [qCN,q,qAF,qAA]
  refine qAK (λq2=>bad (.inr (of_decide_eq_true q2))) (λq2=>?_)
  simp only [cvI,qAW,qAA]
  have:=hK 0
  unfold lb at this
  rw [if_neg (by have:=of_decide_eq_false q;have:=of_decide_eq_false q2;omega)] at this
  exact this
theorem qZv {n:Int} (hK:∀ e,K (.tup [.int .u32 (lb n),.int .i64 e]) s):wC Tryz.prog XX 80 [.int .i64 n] K s:=by
 refine qE7 ?_
 simp only [qBz,qAV,qBA,qAA]
 have bad:(n < 0∨32≤n)→K (.tup [.int .u32 0,.int .i64 2]) s:=λh=>by
  have:=hK 2
  unfold lb at this
  rw [if_pos h] at this
  exact this
 refine qAK (λq=>?_) (λq=>?_)
 ·simp only [qA9,q,qAP,qAA,qAM]
  exact bad (.inl (of_decide_eq_true q))
 ·simp only [qA9,q,qAF,qAA]
  refine qAK (λq2=>bad (.inr (of_decide_eq_true q2))) (λq2=>?_)
  simp only [cvI,qAW,qAA]
  have:=hK 0
  unfold lb at this
  rw [if_neg (by have:=of_decide_eq_false q;have:=of_decide_eq_false q2;omega)] at this
  exact this
theorem zAA7 {n:Int} (hK:K (.int .u32 (lb n)) s):wC Tryz.prog XX 77 [.int .i64 n] K s:=by
 refine qOV (zACx λe=>?_)
 exact qAJ (a:=.int .u32 (lb n)) rfl (qAJ (a:=.int .i64 e) rfl hK)
theorem qUL (z:Sz F) (hv:Valid F) (h0:0≤leaf) (h1:leaf < F.lf) (hF:FabR s cs F) (hK:∀ s',Sub s s'→K (.int .u32 (lb leaf)) s'):wC Tryz.prog XX 44 [.agg cs,.int .i64 leaf] K s:=by
 obtain ⟨v2,v3,v4,v5,v6,v7,rfl,hL⟩:=hF
 refine qOo ⟨hL.all,qAO λb s1 hb q1 u1=>?_⟩
 have q1:s1 b=some (false,.cells 31 (csG F v2 v3 v4 v5 v6 v7)):=q1
 have k1:=u1.sub hb
 have hf:FabOk F:=hv 0 (by omega)
 have:=hf.sum
 have:=hf.lf
 have:=hf.sp
 refine qAJ (qAa q1 rfl) (qZD z ⟨v2,v3,v4,v5,v6,v7,rfl,hL.sub k1⟩ λb s4 k4 hb=>?_)
 rw [hb.2 hv]
 have q4:=k4 _ _ q1
 simp only [qAX,Bool.not_true,qAE,qAA,qAD,Nat.zero_add,qAI q4,csG0,csG1,qAW]
 rw [qAk (by omega) (by omega)]
 refine qER XX_0 ?_
 rw [qKg.2 ⟨h0,by omega⟩]
 simp only [qAX,Bool.not_true,qAA,qGP,qAF,qAE]
 exact zAA7 (hK s4 (k1.trans k4))
theorem qSu (z:Sz F) (hv:Valid F) (h0:0≤leaf) (h1:leaf < F.lf) (hF:FabR s cs F) (hK:∀ s',Sub s s'→K (.int .u32 (lb leaf)) s'):wC Tryz.prog XX 46 [.agg cs,.int .i64 leaf] K s:=by
 obtain ⟨v2,v3,v4,v5,v6,v7,rfl,hL⟩:=hF
 refine qOe ⟨hL.all,qAO λb s1 hb q1 u1=>?_⟩
 have q1:s1 b=some (false,.cells 31 (csG F v2 v3 v4 v5 v6 v7)):=q1
 have k1:=u1.sub hb
 have hf:FabOk F:=hv 0 (by omega)
 have:=hf.sum
 have:=hf.lf
 have:=hf.sp
 refine qAJ (qAa q1 rfl) (FW.qTp z ⟨v2,v3,v4,v5,v6,v7,rfl,hL.sub k1⟩ λb s4 k4 hb=>?_)
 rw [hb.2 hv]
 have q4:=k4 _ _ q1
 simp only [qAX,Bool.not_true,qAE,qAA,qAD,Nat.zero_add,qAI q4,csG0,csG1,qAW,qAw]
 rw [qAk (n:=F.lf+F.sp) (by omega) (by omega),qAk (by omega) (by omega)]
 refine qAq ?_
 rw [qAi.2 ⟨h0,by omega⟩]
 simp only [qAX,Bool.not_false,Bool.not_true,qAA,qGe,qAF,qAE]
 refine qZv λe=>?_
 exact qAJ (a:=.int .u32 (lb leaf)) rfl (qAJ (a:=.int .i64 e) rfl (hK s4 (k1.trans k4)))
def pk (a e vni mk:Int) (x:Fr) (d:Int):List AV:=[.int .u32 a,.int .u32 d,.int .i64 16,.int .i64 e,.int .u32 vni,.int .u32 mk,.int .u64 x.src,.int .u64 x.dst,.int .i64 x.kind,.int .i64 x.a3,.int .u64 x.a4,.int .u32 x.a5,.int .u64 x.a6,.int .u32 x.a7,.int .u32 x.hs,.int .u32 x.hd,.int .i64 x.a10,.int .i64 x.pr,.int .i64 x.p1,.int .i64 x.p2,.int .u64 x.data]
abbrev pk0:List AV:=[(.int .u32 0),(.int .u32 0),(.int .i64 0),(.int .i64 0),(.int .u32 0),(.int .u32 0),(.int .u64 0),(.int .u64 0),(.int .i64 0),(.int .i64 0),(.int .u64 0),(.int .u32 0),(.int .u64 0),(.int .u32 0),(.int .u32 0),(.int .u32 0),(.int .i64 0),(.int .i64 0),(.int .i64 0),(.int .i64 0),(.int .u64 0)]
theorem zAAM (a e vni mk d c0 c1 c2 c3 c4 c5 c6 c7 c8 c9 c10 c11 c12 c13 c14:Int):qCA pk0 [(0,1,.int .u32 a),(1,1,.int .u32 d),(2,1,.int .i64 16),(3,1,.int .i64 e),(4,1,.int .u32 vni),(5,1,.int .u32 mk),(6,15,.agg [.int .u64 c0,.int .u64 c1,.int .i64 c2,.int .i64 c3,.int .u64 c4,.int .u32 c5,.int .u64 c6,.int .u32 c7,.int .u32 c8,.int .u32 c9,.int .i64 c10,.int .i64 c11,.int .i64 c12,.int .i64 c13,.int .u64 c14])]=some [.int .u32 a,.int .u32 d,.int .i64 16,.int .i64 e,.int .u32 vni,.int .u32 mk,.int .u64 c0,.int .u64 c1,.int .i64 c2,.int .i64 c3,.int .u64 c4,.int .u32 c5,.int .u64 c6,.int .u32 c7,.int .u32 c8,.int .u32 c9,.int .i64 c10,.int .i64 c11,.int .i64 c12,.int .i64 c13,.int .u64 c14]:=by kernel_rfl
theorem qZE {a e vni mk d:Int}:qCA pk0 [(0,1,.int .u32 a),(1,1,.int .u32 d),(2,1,.int .i64 16),(3,1,.int .i64 e),(4,1,.int .u32 vni),(5,1,.int .u32 mk),(6,15,.agg (frC x))]=some (pk a e vni mk x d):=zAAM ..
theorem qYi {b1 b2 b3 b4 b5:Nat} {t1 t2 t3 t4 t5:Bool} {y1 y2 y3 y4 y5:TypeId} {a e vni d:Int} (h1:s b1=some (t1,.cells y1 [.int .u32 a])) (h2:s b2=some (t2,.cells y2 [.int .i64 e])) (h3:s b3=some (t3,.cells y3 [.int .u32 vni])) (h4:s b4=some (t4,.cells y4 [.int .u32 mk])) (h5:s b5=some (t5,.cells y5 (frC x)))
  (hK:∀ s',Sub s s'→K (.agg (pk a e vni mk x d)) s'):wC Tryz.prog XX 45 [.int .u32 d,.ptr b1 0,.ptr b2 0,.ptr b3 0,.ptr b4 0,.ptr b5 0] K s:=by
 refine qJI (qAO λb s1 hb q1 u1=>?_)
 have k1:=u1.sub hb
 refine qAJ (a:=.int .u32 a) (by rw [qAI (k1 _ _ h1)];rfl) (qAJ (a:=.int .i64 e) (by rw [qAI (k1 _ _ h2)];rfl) (qAJ (a:=.int .u32 vni) (by rw [qAI (k1 _ _ h3)];rfl) (qAJ (a:=.int .u32 mk) (by rw [qAI (k1 _ _ h4)];rfl) (qAJ (qAa (k1 _ _ h5) rfl) (qAJ qZE ?_)))))
 refine qAd q1 rfl rfl rfl λs2 h2 u2=>qAJ (qAa h2 rfl) ?_
 exact hK s2 (qAb k1 u2 hb)
def qTc (F:FG) (bd:Int):Int:=match F.B[bd.toNat]? with
 | some y=>y.2.1
 | none=>0
def cpL (F:FG) (leaf bd g mk:Int) (P:List Int) (x:Fr):List (List AV):=(if g=0 then P else [g]).map (pk (lb leaf) (ent x) (qTc F bd) mk x)
def Cp (F:FG) (leaf bd:Int) (P:List Int):Prop:=Vb F bd∧0≤leaf∧leaf < F.lf∧P≠[]
noncomputable def cpA (F:FG) (leaf bd g mk:Int) (P:List Int) (x:Fr):List (List AV):=by
 classical
 exact if Cp F leaf bd P then cpL F leaf bd g mk P x else []
theorem qV8 (h:Cp F leaf bd P):cpA F leaf bd g mk P x=cpL F leaf bd g mk P x:=by unfold cpA;rw [if_pos h]
theorem qX3 (h:¬ Cp F leaf bd P):cpA F leaf bd g mk P x=[]:=by unfold cpA;rw [if_neg h]
theorem zABG:SlR 21 s .nilslc []:=⟨by simp,.inl ⟨rfl,rfl⟩⟩
theorem zABZ {i:Nat} {y:BG} (h:F.B[i]?=some y):qTc F (i:Int)=y.2.1:=by
 unfold qTc
 rw [Int.toNat_natCast,h]
def flC (bd:Int) (v:AV) (g:Int):List AV:=[.int .i64 bd,v,.int .u32 g]
abbrev u32s (l:List Int):List AV:=l.map (AV.int .u32)
theorem qYA (z:Sz F) (hF:FabR s cs F) (hP:Sl s v (u32s P)) (hl:P.length≤1000) (hK:∀ v' s',Sub s s'→SlR 21 s' v' (cpA F leaf bd g mk P x)→K v' s'):wC Tryz.prog XX 15 [.agg cs,.int .i64 leaf,.agg (flC bd v g),.agg (frC x),.int .u32 mk] K s:=by
 obtain ⟨v2,v3,v4,v5,v6,v7,rfl,hL⟩:=hF
 have hone:=hP.one
 refine qKj ⟨hL.all,qAO λb0 s1 hb0 h1 u1=>⟨by simp [flC,hone],qAO λb2 s3 hb2 h3 u3=>⟨rfl,qAO λb4 s5 hb4 h5 u5=>qP8 rfl λb6 s7 hb6 h7 u7=>?_⟩⟩⟩
 have h1:s1 b0=some (false,.cells 31 (csG F v2 v3 v4 v5 v6 v7)):=h1
 have h3:s3 b2=some (false,.cells 44 (flC bd v g)):=h3
 have h5:s5 b4=some (false,.cells 52 (frC x)):=h5
 have k7:=u7.sub hb6
 have k5:=(u5.sub hb4).trans k7
 have k3:=(u3.sub hb2).trans k5
 have k1:=(u1.sub hb0).trans k3
 have h1:=k3 _ _ h1
 have h3:=k5 _ _ h3
 have h5:=k7 _ _ h5
 have r0:rd1 s7 (.ptr b2 0)=some (.int .i64 bd):=by rw [qAI h3];rfl
 refine qAJ (qAa h1 rfl) ?_
 simp only [qAD,Nat.zero_add,qAA,r0]
 refine qXw z ⟨v2,v3,v4,v5,v6,v7,rfl,hL.sub k1⟩ λb s12 k12 hb=>?_
 have k:=k1.trans k12
 have h1:=k12 _ _ h1
 have h3:=k12 _ _ h3
 have h5:=k12 _ _ h5
 have h7:=k12 _ _ h7
 have no:¬ Cp F leaf bd P→K .nilslc s12:=λh=>hK _ _ k (by rw [qX3 h];exact zABG)
 simp only [qAX,qAA]
 cases b with
 | false=>
   simp only [Bool.not_false,qAM,qBs,qBU,qBC,qAP,qAA]
   exact no λh=>by have:=hb.2 h.1;cases this
 | true=>
 have hvb:Vb F bd:=hb.1 rfl
 simp only [Bool.not_true,qAE,qAV,qAA]
 cases c1:decide (leaf < 0) with
 | true=>
   simp only [qBs,qBU,qBC,qAP,qAF,qAM,qAA]
   exact no λh=>by have:=of_decide_eq_true c1;have:=h.2.1;omega
 | false=>
 simp only [qBs,qAF,qAE,qAA,qAD,Nat.zero_add,qAI h1,csG0,qBA]
 cases c2:decide (F.lf≤leaf) with
 | true=>
   simp only [qBU,qBC,qAP,qAF,qAM,qAA]
   exact no λh=>by have:=of_decide_eq_true c2;have:=h.2.2.1;omega
 | false=>
 have r1:∀ {t:Hq},Sub s12 t→rd1 t (.ptr b2 1)=some v:=λk=>by rw [qAI (k _ _ h3)];rfl
 have r2:∀ {t:Hq},Sub s12 t→rd1 t (.ptr b2 2)=some (.int .u32 g):=λk=>by rw [qAI (k _ _ h3)];rfl
 have hv1:qAR v=some P.length:=by rw [hP.len,List.length_map]
 simp only [qBU,qAF,qAE,qAA,qAD,Nat.zero_add,r1 (.refl _),hv1,qAc,qAY,Bool.false_bne]
 cases c3:((P.length:Int) == 0) with
 | true=>
   simp only [qBC,qAF,qAM,qAA]
   refine no λh=>h.2.2.2 ?_
   have:=eq_of_beq c3
   exact List.eq_nil_of_length_eq_zero (by omega)
 | false=>
 have hcp:Cp F leaf bd P:=⟨hvb,by have:=of_decide_eq_false c1;omega,by have:=of_decide_eq_false c2;omega,λe=>by rw [e] at c3;cases c3⟩
 obtain ⟨⟨hv,hbd0,hbd1⟩,hl0,hl1,_⟩:=hcp
 simp only [qBC,qAF,qAE,qAA]
 refine qAJ (qAa h1 rfl) (qUL z hv hl0 hl1 ⟨v2,v3,v4,v5,v6,v7,rfl,FW.zABy (hL.sub k)⟩ λs19 k19=>?_)
 intro _
 have kT:Sub s12 (add s12 s19):=qGQ
 refine qAJ (qAa (cut1 (.refl _) _ _ h5) rfl) (qWI λs22 k22=>?_)
 intro _
 have kU:Sub (add s12 s19) (add (add s12 s19) s22):=qGQ
 have kc:=cut2 (.refl s12) kT kU
 generalize add s12 s19=T at *
 generalize add T s22=U at *
 obtain ⟨i,rfl⟩:∃ i:Nat,bd=(i:Int):=⟨bd.toNat,by omega⟩
 have hi:i < F.B.length:=by omega
 have hLc:=(hL.sub k).sub kc
 obtain ⟨pb,po,e1,_,e3⟩:=hLc.B.get (i:=i) (r:=bgC F.B[i]) (by rw [List.getElem?_map,List.getElem?_eq_getElem hi];rfl)
 have rc0:rd1 (cutH [(s12,T),(T,U)] U) (.ptr b2 0)=some (.int .i64 (i:Int)):=by rw [qAI (kc _ _ h3)];rfl
 have rc1:rd1 (cutH [(s12,T),(T,U)] U) (.ptr pb (po+1))=some (.int .u32 (qTc F (i:Int))):=by
  rw [e3 1 (by omega),zABZ (List.getElem?_eq_getElem hi)]
  rfl
 simp only [qAD,Nat.zero_add,qAA,qAI (kc _ _ h1),csG4,rc0,e1,rc1]
 generalize hvni:qTc F (i:Int)=vni at rc1 ⊢
 refine newM (s:=U) λb30 s31 hb30 h31 u31=>?_
 generalize add U s31=U1 at *
 refine newM (s:=U1) λb32 s33 hb32 h33 u33=>?_
 generalize add U1 s33=U2 at *
 refine newM (s:=U2) λb34 s35 hb34 h35 u35=>?_
 generalize add U2 s35=U3 at *
 have d1:b30≠b32:=λe=>by rw [← e,h31] at hb32;cases hb32
 have n30:U2 b30=some (false,.cells 42 [.int .u32 0]):=by rw [u33 _ d1];exact h31
 have d2:b30≠b34:=λe=>by rw [← e,n30] at hb34;cases hb34
 have d3:b32≠b34:=λe=>by rw [← e,h33] at hb34;cases hb34
 have m30:U3 b30=some (false,.cells 42 [.int .u32 0]):=by rw [u35 _ d2];exact n30
 have m32:U3 b32=some (false,.cells 3 [.int .i64 0]):=by rw [u35 _ d3];exact h33
 have kU1:=u31.sub hb30
 have z32:U b32=none:=qFu kU1 hb32
 have kU2:=kU1.trans (u33.sub hb32)
 have z34:U b34=none:=qFu kU2 hb34
 have kU3:=kU2.trans (u35.sub hb34)
 have out:∀ {i j:Nat},U i=none→hdel U j i=U i:=fun {i j} h=>by
  show (if i=j then none else U i)=U i
  rw [h];split <;> rfl
 have ci:∀ {i a b c:Nat} {t:Hq},U i=none→t i≠none→cutH [(hdel U a,U),(hdel U b,U),(hdel U c,U)] t i≠none:=fun {i a b c t} h q=>by
  rw [qSN]
  ·exact q
  ·intro p hp
   simp only [List.mem_cons,List.not_mem_nil,or_false] at hp
   rcases hp with rfl | rfl | rfl <;> exact out h
 refine ⟨ci hb30 (by show U3 b30≠none;rw [m30];simp),?_⟩
 refine qCo m30 (by simp) rfl λs36 h36 u36=>?_
 have m32':s36 b32=_:=(u36 _ (Ne.symm d1)).trans m32
 refine ⟨ci z32 (by show s36 b32≠none;rw [m32'];simp),?_⟩
 refine qCo m32' (by simp) rfl λs37 h37 u37=>?_
 have m34':s37 b34=_:=(u37 _ (Ne.symm d3)).trans ((u36 _ (Ne.symm d2)).trans h35)
 refine qCo m34' (by simp) rfl λs38 h38 u38=>?_
 have q30:s38 b30=some (false,.cells 42 [.int .u32 (lb leaf)]):=by rw [u38 _ d2,u37 _ d1];exact h36
 have q32:s38 b32=some (false,.cells 3 [.int .i64 (ent x)]):=by rw [u38 _ d3];exact h37
 have q34:s38 b34=some (false,.cells 41 [.int .u32 vni]):=h38
 have kU38:Sub U s38:=qAb (qAb (qAb kU3 u36 hb30) u37 z32) u38 z34
 have k38:Sub s12 s38:=kT.trans (kU.trans kU38)
 have kall:=k.trans k38
 have hcp:Cp F leaf (i:Int) P:=⟨hvb,hl0,hl1,λe=>by rw [e] at c3;cases c3⟩
 simp only [qAA,r2 k38,qAc,qAY,Bool.true_bne]
 have pkt:∀ {t:Hq} {d:Int} {J:AV→Hq→Prop},Sub s38 t→(∀ s',Sub t s'→J (.agg (pk (lb leaf) (ent x) vni mk x d)) s')→funK Tryz.prog XX (.fn (.func 45) [] [(.ptr b30 0),(.ptr b32 0),(.ptr b34 0),(.ptr b6 0),(.ptr b4 0)]) [.int .u32 d] J t:=fun {t d J} kt hJ=>
  qWM (by kernel_rfl) (qYi (kt _ _ q30) (kt _ _ q32) (kt _ _ q34) (kt _ _ (k38 _ _ h7)) (kt _ _ (k38 _ _ h5)) hJ)
 cases c4:(g == 0) with
 | false=>
   simp only [Bool.not_false,qAM]
   refine pkt (.refl _) λs45 k45=>?_
   refine qAJ (a:=pk (lb leaf) (ent x) vni mk x g) (qQk rfl) ⟨rfl,qAO λb47 s48 hb47 h48 u48=>?_⟩
   refine hK _ _ (kall.trans (k45.trans (u48.sub hb47))) ?_
   rw [qV8 hcp]
   have g0:¬ g=0:=by simpa using c4
   unfold cpL
   rw [if_neg g0,hvni]
   exact qT3 h48 rfl
 | true=>
   have g0:g=0:=eq_of_beq c4
   simp only [Bool.not_true,qAE,r1 k38,hv1,qAA]
   refine ⟨λys t m=>∃ (j:Nat) (w:AV),ys=[w,.int .i64 (j:Int)]∧j≤P.length∧m=P.length - j∧Sub s38 t∧AccR 55 21 s38 t w ((P.take j).map (pk (lb leaf) (ent x) vni mk x)),⟨_,0,_,rfl,by omega,rfl,.refl _,by simp,.inl ⟨rfl,rfl⟩⟩,?_⟩
   rintro f t m ⟨j,w,hy,hj,rfl,kt,acc⟩
   simp only [List.cons.injEq,and_true] at hy
   rw [hy.1,hy.2]
   simp only [qGH,qAV,qAA]
   refine qAK (λhlt=>?_) (λhge=>?_)
   ·have hlt:j < P.length:=by have:=of_decide_eq_true hlt;omega
    obtain ⟨p,e1,e2⟩:=(hP.sub (kall.trans kt)).get (i:=j) (by rw [List.length_map];exact hlt)
    rw [List.getElem?_map,List.getElem?_eq_getElem hlt] at e2
    simp only [e1,e2,Option.map_some,qAA]
    refine pkt kt λs57 k57=>?_
    refine qAJ (a:=pk (lb leaf) (ent x) vni mk x P[j]) (qQk rfl) ⟨rfl,qAO λb59 s60 hb59 h60 u60=>?_⟩
    have k60:=k57.trans (u60.sub hb59)
    refine (acc.sub k60).app (m:=[pk (lb leaf) (ent x) vni mk x P[j]]) (qT3 h60 rfl) (by simp) (by rw [List.length_map,List.length_take,List.length_singleton];omega) (kt.trans k60) λv' s' a q=>?_
    simp only [qAW,qAA]
    rw [qAk (by omega) (by omega)]
    refine ⟨_,by omega,j+1,v',rfl,by omega,rfl,q,?_⟩
    rw [List.take_add_one,List.getElem?_eq_getElem hlt,List.map_append]
    exact a
   ·have hge:j=P.length:=by have:=of_decide_eq_false hge;omega
    subst hge
    refine hK _ _ (kall.trans kt) ?_
    rw [qV8 hcp]
    unfold cpL
    rw [if_pos g0,hvni]
    rw [List.take_length] at acc
    exact acc.sl
end Go.AM.FC
set_option maxRecDepth 100000
namespace Go.AM.FC
open Go Go.Proofs Go.AM.TN
variable {K : AV → Hq → Prop} {s s' s0 t T U : Hq} {v : AV} {l : List Int} {x : Fr}
theorem cutf:∀ {L:List (Hq × Hq)} {U:Hq},(∀ p∈L,p.1=s0)→Sub s0 U→Sub s0 (cutH L U)
 | [],_,_,h=>h
 | p :: L,U,hp,h=>by
   refine cutf (L:=L) (U:=λb=>if p.1 b=none∧p.2 b≠none then none else U b) (λq hq=>hp q (List.mem_cons_of_mem _ hq)) λi e hi=>?_
   show (if p.1 i=none∧p.2 i≠none then none else U i)=some e
   rw [if_neg]
   ·exact h i e hi
   ·rw [hp p List.mem_cons_self,hi];simp
theorem wput {n:Int} {k:Nat} {D:Hq→AV→Hq→Prop} (hk:k≤8) (h:Acc 5 s0 t v (b8 l)) (hs:Sub s0 t) (hl:l.length≤500)
  (hD:∀ v' s',Acc 5 s0 (add s' (rest t (minus t s0))) v' (b8 (l ++ numB n k))→Sub s0 (add s' (rest t (minus t s0)))→D s0 v' s') :
  ∃ h4:Hq,(∀ b,h4 b≠none→t b≠none)∧wC Tryz.prog XX 81 [v,.int .u64 n,.int .i64 (k:Int)] (λv' s'=>(∀ b,t b≠none→minus t h4 b=none→s' b=none)→D h4 v' s') (minus t h4):=by
 refine ⟨s0,λb hb=>?_,?_⟩
 ·cases e:s0 b with
  | none=>exact absurd e hb
  | some y=>rw [hs _ _ e];simp
 have hin:∀ {i:Nat},s0 i=none→minus t s0 i=t i:=fun {i} h=>if_pos h
 have hout:∀ {i:Nat} {y},s0 i=some y→minus t s0 i=none:=fun {i y} h=>if_neg (by rw [h];simp)
 have h2:Acc 5 (λ_=>none) (minus t s0) v (b8 l):=by
  rcases h with h | ⟨b,h0,rfl,h⟩
  ·exact .inl h
  ·exact .inr ⟨b,rfl,rfl,by rw [hin h0];exact h⟩
 refine zABK hk h2 (λi e hi=>by cases hi) hl λv' s' a _ hy=>hD v' s' ?_ ?_
 ·rcases a with a | ⟨b,_,rfl,a⟩
  ·exact .inl a
  ·refine .inr ⟨b,?_,rfl,qAz a⟩
   cases e:s0 b with
   | none=>rfl
   | some y=>
     have:=hy b (by rw [hs _ _ e];simp) (hout e)
     rw [this] at a;cases a
 ·intro i e hi
  have h1:=hout hi
  rw [qA8 (hy i (by rw [hs _ _ hi];simp) h1)]
  unfold rest
  rw [if_pos h1]
  exact hs _ _ hi
theorem zABe {z:AV} {y:Int} {C:AV→Hq→Prop} {L:List (Hq × Hq)} (hz:z.one=true) (h:Acc 5 s0 U v (b8 l)) (hs:Sub s0 U) (hl:l.length≤1000) (hK:∀ v' s',Acc 5 s0 s' v' (b8 (l ++ [y]))→Sub s0 s'→C v' s') :
  oK (qCA (repl 1 [z]) [(0,1,.int .u8 y)]) λc=>qAg c=true∧newK 5 c (λb s2=>(∀ i,U i≠none→cutH L U i=none→s2 i=none)→appK 5 1 v (.slc b 0 1 (some 1) 1) C (add U s2)) (frz (cutH L U)):=by
 refine qAJ (a:=[.int .u8 y]) ?_ ⟨rfl,newM λb s2 hb h1 u1=>?_⟩
 ·show cond (Nat.beq (AV.int .u8 y).cells.length 1&&Nat.ble (0+(AV.int .u8 y).cells.length) 1) (qCA (qBZ [z] 0 (AV.int .u8 y).cells) []) none=_
  rfl
 generalize add U s2=W at *
 have k1:=hs.trans (u1.sub hb)
 refine (qYN h (u1.sub hb)).app (m:=[.int .u8 y]) (Sl.mk h1 rfl (by simp)) (by simp) (by simp;omega) (λi hi=>?_) λv' s' a k=>?_
 ·cases e:s0 i with
  | none=>exact absurd e hi
  | some y=>rw [k1 _ _ e];simp
 ·refine hK v' s' (by rw [b8,List.map_append];exact a) λi e hi=>k i e (k1 i e hi) λb' hv=>?_
  rintro rfl
  rcases h with ⟨rfl,_⟩ | ⟨b2,h0,rfl,_⟩
  ·cases hv
  ·cases hv
   rw [h0] at hi;cases hi
theorem zAA1 {X:AV→Hq→Prop} (hf:Acc 5 s0 s v (b8 (flw x))) (hX:X (.int .i64 (ent x)) s):qA1 XX v X s:=by
 unfold qA1
 refine zACp hf.sl (by rw [qS1];omega) ?_
 simp only [qRS (show (16384:Int)≠0 by decide),cvI,qAW,qAA]
 exact hX
theorem zAFA (n:Int):qBK .u8 ((qBK .u64 n).fdiv ((2 ^ (8 * 0):Nat):Int))=qBK .u8 n:=by
 have h1:∀ n,qBK .u8 n=n % 256:=λn=>by
  simp only [qBK];rw [qI0 _ _ _ (by omega) (by omega)];split <;> omega
 have h2:∀ n,qBK .u64 n=n % 18446744073709551616:=λn=>by
  simp only [qBK];rw [qI0 _ _ _ (by omega) (by omega)];split <;> omega
 rw [h1,h1,h2,show ((2 ^ (8 * 0):Nat):Int)=1 from rfl,Int.fdiv_one]
 omega
theorem one8 (n:Int):numB (qBK .u64 n) 1=[qBK .u8 n]:=by
 rw [numB,numB,zAFA]
theorem qTS (hK:∀ s',Sub s s'→K (.int .i64 (ent x)) s'):wC Tryz.prog XX 47 [.agg (frC x)] K s:=by
 refine qFc ⟨rfl,qAO λb s1 hb h1 u1=>?_⟩
 have k1:=u1.sub hb
 have h1:s1 b=some (false,.cells 52 (frC x)):=h1
 have rd:∀ {t:Hq},Sub s1 t→∀ i,rd1 t (.ptr b i)=(frC x)[i]?:=λk i=>qAI (k _ _ h1)
 have g:∀ {t:Hq} {w:AV} {l:List Int},Acc 5 s1 t w (b8 l)→Sub s1 t→flw x=l→qA1 XX w K t:=fun {t w l} a k e=>by
  subst e
  exact zAA1 a (hK _ (k1.trans k))
 simp only [qAD,Nat.zero_add,qAA,rd (.refl _),frC,List.getElem?_cons_zero]
 refine wput (k:=6) (by omega) qQR (.refl _) (by simp) λw4 s4 a4 k4=>?_
 generalize add s4 (rest s1 (minus s1 s1))=T4 at *
 have c1:∀ {L:List (Hq × Hq)} {U:Hq},(∀ p∈L,p.1=s1)→Sub s1 U→∀ i,rd1 (cutH L U) (.ptr b i)=(frC x)[i]?:=λhp k i=>rd (cutf hp k) i
 simp only [qAD,Nat.zero_add,qAA,c1 (L:=[(s1,qDf)]) (by simp) k4,frC,List.getElem?_cons_succ,List.getElem?_cons_zero]
 refine wput (k:=6) (by omega) a4 k4 (by simp [qCI]) λw5 s5 a5 k5=>?_
 generalize add s5 (rest T4 (minus T4 s1))=T5 at *
 simp only [qAD,Nat.zero_add,qAA,c1 (L:=[(s1,qDf),(s1,qDf)]) (by simp) k5,frC,List.getElem?_cons_succ,List.getElem?_cons_zero,cvI]
 refine zABe rfl a5 k5 (by simp [qCI]) λw6 s6 a6 k6=>?_
 have r2:rd1 s6 (.ptr b 2)=some (.int .i64 x.kind):=by rw [rd k6];rfl
 simp only [qAD,Nat.zero_add,qAA,r2,qAc,qAY,Bool.false_bne]
 cases q:(x.kind == 2) with
 | false=>
   have q:¬ x.kind=2:=by simpa using q
   simp only [qAE]
   exact g a6 k6 (by unfold flw;rw [if_neg q,flwE,one8];rfl)
 | true=>
   have q:x.kind=2:=eq_of_beq q
   simp only [qAM,qAD,Nat.zero_add,Nat.add_zero,Nat.reduceAdd,qAA,rd k6,frC,List.getElem?_cons_succ,List.getElem?_cons_zero,cvI]
   refine wput (k:=4) (by omega) qQR k6 (by simp) λw7 s7 a7 k7=>?_
   generalize add s7 (rest s6 (minus s6 s1))=T7 at *
   simp only [qAD,Nat.zero_add,Nat.reduceAdd,qAA,c1 (L:=[(s1,qDf)]) (by simp) k7,frC,List.getElem?_cons_succ,List.getElem?_cons_zero,cvI]
   refine wput (k:=4) (by omega) a7 k7 (by simp [qCI]) λw8 s8 a8 k8=>?_
   generalize add s8 (rest T7 (minus T7 s1))=T8 at *
   simp only [qAD,Nat.zero_add,Nat.reduceAdd,qAA,c1 (L:=[(s1,qDf),(s1,qDf)]) (by simp) k8,frC,List.getElem?_cons_succ,List.getElem?_cons_zero,cvI]
   refine zABe rfl a8 k8 (by simp [qCI]) λw9 s9 a9 k9=>?_
   simp only [qAD,Nat.zero_add,Nat.reduceAdd,qAA,rd k9,frC,List.getElem?_cons_succ,List.getElem?_cons_zero,cvI]
   refine wput (k:=2) (by omega) a9 k9 (by simp [qCI]) λw10 s10 a10 k10=>?_
   generalize add s10 (rest s9 (minus s9 s1))=T10 at *
   simp only [qAD,Nat.zero_add,Nat.reduceAdd,qAA,c1 (L:=[(s1,qDf)]) (by simp) k10,frC,List.getElem?_cons_succ,List.getElem?_cons_zero,cvI]
   refine zABK (k:=2) (by omega) a10 k10 (by simp [qCI]) λw11 s11 a11 k11=>?_
   exact g a11 k11 (by unfold flw;rw [if_pos q,flwI,one8];rfl)
end Go.AM.FC
set_option maxRecDepth 100000
namespace Go.AM.FC
open Go Go.Proofs Go.AM.TN
variable {K : AV → Hq → Prop} {s s' s0 T U : Hq} {v w : AV} {cs : List AV} {F : FG} {x : Fr} {v2 v3 v4 v5 v6 v7 : AV} {leaf bd g mk : Int} {P Q : List Int}
theorem qUF (z:Sz F) (hF:FabR s cs F) (hK:∀ b s',Sub s s'→(b=true↔Valid F)→K (.bool b) s'):wC Tryz.prog XX 37 [.agg cs] K s:=by
 obtain ⟨v2,v3,v4,v5,v6,v7,rfl,hL⟩:=hF
 refine qGL ⟨hL.all,qAO λb s1 hb h1 u1=>?_⟩
 have h1:s1 b=some (false,.cells 31 (csG F v2 v3 v4 v5 v6 v7)):=h1
 have k1:=u1.sub hb
 refine qAJ (qAa h1 rfl) (qRC z ⟨v2,v3,v4,v5,v6,v7,rfl,hL.sub k1⟩ λe p j s4 k4 he=>?_)
 refine qAJ (a:=.int .i64 e) rfl (qAJ (a:=p) rfl (qAJ (a:=.int .i64 j) rfl ?_))
 simp only [qAc,qAY,Bool.false_bne,qAA]
 exact hK _ s4 (k1.trans k4) (by rw [beq_iff_eq];exact he)
theorem zABF {b0 b2 b4 i:Nat} {t0 t2 t4:Bool} (z:Sz F) (hv:Valid F) (hl0:0≤leaf) (hl1:leaf < F.lf) (hi:i < F.B.length) (hL:FL s F v2 v3 v4 v5 v6 v7) (q1:s b0=some (t0,.cells 31 (csG F v2 v3 v4 v5 v6 v7))) (q3:s b2=some (t2,.cells 44 (flC (i:Int) v g))) (q5:s b4=some (t4,.cells 52 (frC x))) (hto:Sl s w (u32s Q)) (hQ:Q.length≤1000)
  (hK:∀ v' s',Sub s s'→SlR 21 s' v' (Q.map (pk (lb leaf) (ent x) (qTc F (i:Int)) mk x))→K v' s'):qA6 XX (.int .i64 leaf) (.int .u32 mk) (.ptr b0 0) (.ptr b2 0) (.ptr b4 0) w K s:=by
 unfold qA6
 generalize hvni:qTc F (i:Int)=vni at hK
 refine ⟨λys t m=>∃ (j:Nat) (u:AV),ys=[u,.int .i64 (j:Int)]∧j≤Q.length∧m=Q.length - j∧Sub s t∧AccR 55 21 s t u ((Q.take j).map (pk (lb leaf) (ent x) vni mk x)),⟨_,0,_,rfl,by omega,rfl,.refl _,by simp,.inl ⟨rfl,rfl⟩⟩,?_⟩
 rintro f t m ⟨j,u,hy,hj,rfl,kt,acc⟩
 simp only [List.cons.injEq,and_true] at hy
 rw [hy.1,hy.2]
 have nQ:qAR w=some Q.length:=by rw [hto.len,List.length_map]
 simp only [qCy,nQ,qAV,qAA]
 refine qAK (λhlt=>?_) (λhge=>?_)
 ·have hlt:j < Q.length:=by have:=of_decide_eq_true hlt;omega
  refine qAJ (qAa (kt _ _ q1) rfl) (qSu z hv hl0 hl1 ⟨v2,v3,v4,v5,v6,v7,rfl,FW.zABy (hL.sub kt)⟩ λs25 k25=>?_)
  intro _
  have kT:Sub t (add t s25):=qGQ
  obtain ⟨p,e1,e2⟩:=(hto.sub (kt.trans (cut1 (U:=s25) (.refl t)))).get (i:=j) (by rw [List.length_map];exact hlt)
  obtain ⟨d,hd⟩:∃ d,Q[j]?=some d:=⟨_,List.getElem?_eq_getElem hlt⟩
  rw [List.getElem?_map,hd] at e2
  simp only [e1,e2,Option.map_some,qAA]
  refine qAJ (qAa (cut1 kt _ _ q5) rfl) (qTS λs30 k30=>?_)
  intro _
  have kU:Sub (add t s25) (add (add t s25) s30):=qGQ
  have kc:=cut2 kt kT kU
  generalize add t s25=T at *
  generalize add T s30=U at *
  obtain ⟨pb,po,g1,_,g3⟩:=(hL.sub kc).B.get (i:=i) (r:=bgC F.B[i]) (by rw [List.getElem?_map,List.getElem?_eq_getElem hi];rfl)
  have rc0:rd1 (cutH [(t,T),(T,U)] U) (.ptr b2 0)=some (.int .i64 (i:Int)):=by rw [qAI (kc _ _ q3)];rfl
  have rc1:rd1 (cutH [(t,T),(T,U)] U) (.ptr pb (po+1))=some (.int .u32 vni):=by
   rw [g3 1 (by omega),← hvni,zABZ (List.getElem?_eq_getElem hi)]
   rfl
  simp only [qAD,Nat.zero_add,qAA,qAI (kc _ _ q1),csG4,rc0,g1,rc1]
  refine qAJ (qAa (kc _ _ q5) rfl) ?_
  rw [qZE (a:=lb leaf) (e:=ent x) (vni:=vni) (mk:=mk) (d:=d) (x:=x),qAA]
  refine qAJ (a:=pk (lb leaf) (ent x) vni mk x d) (qQk rfl) ⟨rfl,qAO λb41 s42 hb41 h42 u42=>?_⟩
  have k42:Sub t s42:=kT.trans (kU.trans (u42.sub hb41))
  refine (acc.sub k42).app (m:=[pk (lb leaf) (ent x) vni mk x d]) (qT3 h42 rfl) (by simp) (by rw [List.length_map,List.length_take,List.length_singleton];omega) (kt.trans k42) λv' s' a q=>?_
  simp only [qAW,qAA]
  rw [qAk (by omega) (by omega)]
  refine ⟨_,by omega,j+1,v',rfl,by omega,rfl,q,?_⟩
  rw [List.take_add_one,hd,List.map_append]
  exact a
 ·have hge:j=Q.length:=by have:=of_decide_eq_false hge;omega
  subst hge
  rw [List.take_length] at acc
  exact hK _ _ kt acc.sl
theorem qWA (z:Sz F) (hF:FabR s cs F) (hP:Sl s v (u32s P)) (hl:P.length≤1000) (hK:∀ v' s',Sub s s'→SlR 21 s' v' (cpA F leaf bd g mk P x)→K v' s'):wC Tryz.prog XX 16 [.agg cs,.int .i64 leaf,.agg (flC bd v g),.agg (frC x),.int .u32 mk] K s:=by
 obtain ⟨v2,v3,v4,v5,v6,v7,rfl,hL⟩:=hF
 have hone:=hP.one
 refine qFp ⟨hL.all,qAO λb0 s1 hb0 h1 u1=>⟨by simp [flC,hone],qAO λb2 s3 hb2 h3 u3=>⟨rfl,qAO λb4 s5 hb4 h5 u5=>?_⟩⟩⟩
 have h1:s1 b0=some (false,.cells 31 (csG F v2 v3 v4 v5 v6 v7)):=h1
 have h3:s3 b2=some (false,.cells 44 (flC bd v g)):=h3
 have h5:s5 b4=some (false,.cells 52 (frC x)):=h5
 have k5:=u5.sub hb4
 have k3:=(u3.sub hb2).trans k5
 have k1:=(u1.sub hb0).trans k3
 have h1:=k3 _ _ h1
 have h3:=k5 _ _ h3
 refine qAJ (qAa h1 rfl) (qUF z ⟨v2,v3,v4,v5,v6,v7,rfl,hL.sub k1⟩ λb s8 k8 hb=>?_)
 have k:=k1.trans k8
 have h1:=k8 _ _ h1
 have h3:=k8 _ _ h3
 have h5:=k8 _ _ h5
 have r0:rd1 s8 (.ptr b2 0)=some (.int .i64 bd):=by rw [qAI h3];rfl
 have r1:rd1 s8 (.ptr b2 1)=some v:=by rw [qAI h3];rfl
 have r2:rd1 s8 (.ptr b2 2)=some (.int .u32 g):=by rw [qAI h3];rfl
 have n4:qAR v4=some F.B.length:=by rw [(hL.sub k).B.len,List.length_map]
 have no:¬ Cp F leaf bd P→K .nilslc s8:=λh=>hK _ _ k (by rw [qX3 h];exact zABG)
 simp only [qAX,qAA]
 cases b with
 | false=>
   simp only [Bool.not_false,qAM,qA5,qAs,qAn,qAm,qAP,qAA]
   exact no λh=>by have:=hb.2 h.1.1;cases this
 | true=>
 have hv:Valid F:=hb.1 rfl
 simp only [Bool.not_true,qAE,qAV,qAA]
 cases c1:decide (leaf < 0) with
 | true=>
   simp only [qA5,qAs,qAn,qAm,qAP,qAF,qAM,qAA]
   exact no λh=>by have:=of_decide_eq_true c1;have:=h.2.1;omega
 | false=>
 simp only [qA5,qAF,qAE,qAA,qAD,Nat.zero_add,qAI h1,csG0,qBA]
 cases c2:decide (F.lf≤leaf) with
 | true=>
   simp only [qAs,qAn,qAm,qAP,qAF,qAM,qAA]
   exact no λh=>by have:=of_decide_eq_true c2;have:=h.2.2.1;omega
 | false=>
 simp only [qAs,qAF,qAE,qAA,qAD,Nat.zero_add,r0,qAV]
 cases c3:decide (bd < 0) with
 | true=>
   simp only [qAn,qAm,qAP,qAF,qAM,qAA]
   exact no λh=>by have:=of_decide_eq_true c3;have:=h.1.2.1;omega
 | false=>
 simp only [qAn,qAF,qAE,qAA,qAD,Nat.zero_add,r0,qAI h1,csG4,n4,qBA]
 cases c4:decide ((F.B.length:Int)≤bd) with
 | true=>
   simp only [qAm,qAP,qAF,qAM,qAA]
   exact no λh=>by have:=of_decide_eq_true c4;have:=h.1.2.2;omega
 | false=>
 have hl0:0≤leaf:=by have:=of_decide_eq_false c1;omega
 have hl1:leaf < F.lf:=by have:=of_decide_eq_false c2;omega
 have hb0:0≤bd:=by have:=of_decide_eq_false c3;omega
 have hb1:bd < (F.B.length:Int):=by have:=of_decide_eq_false c4;omega
 obtain ⟨i,rfl⟩:∃ i:Nat,bd=(i:Int):=⟨bd.toNat,by omega⟩
 have hi:i < F.B.length:=by omega
 have nP:qAR v=some P.length:=by rw [hP.len,List.length_map]
 simp only [qAm,qAF,qAE,qAA,qAD,Nat.zero_add,r1,r2,qAc,qAY,Bool.true_bne]
 have own:(g=0∨P=[])→qA6 XX (.int .i64 leaf) (.int .u32 mk) (.ptr b0 0) (.ptr b2 0) (.ptr b4 0) v K s8:=λhg=>
  zABF z hv hl0 hl1 hi (hL.sub k) h1 h3 h5 (hP.sub k) hl λv' s' k' h'=>hK v' s' (k.trans k') (by
   by_cases hp:P=[]
   ·rw [qX3 λq=>q.2.2.2 hp]
    rw [hp] at h'
    exact h'
   ·rw [qV8 ⟨⟨hv,hb0,hb1⟩,hl0,hl1,hp⟩]
    unfold cpL
    rw [if_pos (hg.resolve_right hp)]
    exact h')
 cases c5:(g == 0) with
 | true=>
   simp only [Bool.not_true,qAE,qBG,qAF,qAA]
   exact own (.inl (eq_of_beq c5))
 | false=>
 have g0:¬ g=0:=by simpa using c5
 simp only [Bool.not_false,qAM,nP,qAr,qAA,qBG,qAP]
 refine qAK (λhlt=>?_) (λhge=>own (.inr (List.eq_nil_of_length_eq_zero (by have:=of_decide_eq_false hge;omega))))
 have hp:P≠[]:=λe=>by rw [e] at hlt;cases hlt
 simp only [qAD,Nat.zero_add,r2,qAA]
 refine qRy rfl rfl λb49 s50 hb49 h50 u50=>?_
 have k50:=u50.sub hb49
 refine zABF z hv hl0 hl1 hi ((hL.sub k).sub k50) (k50 _ _ h1) (k50 _ _ h3) (k50 _ _ h5) (Q:=[g]) (Sl.mk h50 rfl (by simp)) (by simp) λv' s' k' h'=>hK v' s' (k.trans (k50.trans k')) ?_
 rw [qV8 ⟨⟨hv,hb0,hb1⟩,hl0,hl1,hp⟩]
 unfold cpL
 rw [if_neg g0]
 exact h'
end Go.AM.FC
set_option maxRecDepth 100000
namespace Go.AM.FW
open Go Go.Proofs Go.AM.TN
variable {s : Hq} {v : AV}
theorem zADn {xs:List AV} (h:Inp Tryz.prog s 38 115 xs):∃ x:RLk,xs=lkC x:=by
 have hl:=qG8 (by kernel_rfl:qBE Tryz.prog 115=some true) h
 rw [show Tryz.prog.cellsOf 115=3 by kernel_rfl] at hl
 obtain ⟨n0,h0,w0⟩:=SG.qA0 (j:=0) (k:=.i64) h (by kernel_rfl)
 obtain ⟨n1,h1,w1⟩:=SG.qA0 (j:=1) (k:=.i64) h (by kernel_rfl)
 obtain ⟨n2,h2,w2⟩:=SG.qA0 (j:=2) (k:=.i64) h (by kernel_rfl)
 refine ⟨(n0,n1,n2),SG.qHG hl λj hj=>?_⟩
 match j,hj with
 | 0,_=>exact h0
 | 1,_=>exact h1
 | 2,_=>exact h2
theorem zAEa {xs:List AV} (h:Inp Tryz.prog s 38 117 xs):∃ x:Int × Int,xs=tgC x:=by
 have hl:=qG8 (by kernel_rfl:qBE Tryz.prog 117=some true) h
 rw [show Tryz.prog.cellsOf 117=2 by kernel_rfl] at hl
 obtain ⟨n0,h0,w0⟩:=SG.qA0 (j:=0) (k:=.u32) h (by kernel_rfl)
 obtain ⟨n1,h1,w1⟩:=SG.qA0 (j:=1) (k:=.u32) h (by kernel_rfl)
 refine ⟨(n0,n1),SG.qHG hl λj hj=>?_⟩
 match j,hj with
 | 0,_=>exact h0
 | 1,_=>exact h1
theorem zADT {xs:List AV} (h:Inp Tryz.prog s 38 87 xs):∃ x:BG,xs=bgC x:=by
 have hl:=qG8 (by kernel_rfl:qBE Tryz.prog 87=some true) h
 rw [show Tryz.prog.cellsOf 87=6 by kernel_rfl] at hl
 obtain ⟨n0,h0,w0⟩:=SG.qA0 (j:=0) (k:=.i64) h (by kernel_rfl)
 obtain ⟨n1,h1,w1⟩:=SG.qA0 (j:=1) (k:=.u32) h (by kernel_rfl)
 obtain ⟨n2,h2,w2⟩:=SG.qA0 (j:=2) (k:=.u32) h (by kernel_rfl)
 obtain ⟨n3,h3,w3⟩:=SG.qA0 (j:=3) (k:=.u32) h (by kernel_rfl)
 obtain ⟨n4,h4,w4⟩:=SG.qA0 (j:=4) (k:=.i64) h (by kernel_rfl)
 obtain ⟨n5,h5,w5⟩:=SG.qA0 (j:=5) (k:=.u32) h (by kernel_rfl)
 refine ⟨(n0,n1,n2,n3,n4,n5),SG.qHG hl λj hj=>?_⟩
 match j,hj with
 | 0,_=>exact h0
 | 1,_=>exact h1
 | 2,_=>exact h2
 | 3,_=>exact h3
 | 4,_=>exact h4
 | 5,_=>exact h5
theorem zADe {xs:List AV} (h:Inp Tryz.prog s 38 140 xs):∃ x:R4,xs=hgC x∧0≤x.2.1∧x.2.1 < 4294967296:=by
 have hl:=qG8 (by kernel_rfl:qBE Tryz.prog 140=some true) h
 rw [show Tryz.prog.cellsOf 140=4 by kernel_rfl] at hl
 obtain ⟨n0,h0,w0⟩:=SG.qA0 (j:=0) (k:=.u64) h (by kernel_rfl)
 obtain ⟨n1,h1,w1⟩:=SG.qA0 (j:=1) (k:=.u32) h (by kernel_rfl)
 obtain ⟨n2,h2,w2⟩:=SG.qA0 (j:=2) (k:=.i64) h (by kernel_rfl)
 obtain ⟨n3,h3,w3⟩:=SG.qA0 (j:=3) (k:=.i64) h (by kernel_rfl)
 refine ⟨(n0,n1,n2,n3),SG.qHG hl λj hj=>?_,SG.wf32 w1⟩
 match j,hj with
 | 0,_=>exact h0
 | 1,_=>exact h1
 | 2,_=>exact h2
 | 3,_=>exact h3
theorem zADK {xs:List AV} (h:Inp Tryz.prog s 38 144 xs):∃ x:R4,xs=ggC x:=by
 have hl:=qG8 (by kernel_rfl:qBE Tryz.prog 144=some true) h
 rw [show Tryz.prog.cellsOf 144=4 by kernel_rfl] at hl
 obtain ⟨n0,h0,w0⟩:=SG.qA0 (j:=0) (k:=.i64) h (by kernel_rfl)
 obtain ⟨n1,h1,w1⟩:=SG.qA0 (j:=1) (k:=.i64) h (by kernel_rfl)
 obtain ⟨n2,h2,w2⟩:=SG.qA0 (j:=2) (k:=.u32) h (by kernel_rfl)
 obtain ⟨n3,h3,w3⟩:=SG.qA0 (j:=3) (k:=.i64) h (by kernel_rfl)
 refine ⟨(n0,n1,n2,n3),SG.qHG hl λj hj=>?_⟩
 match j,hj with
 | 0,_=>exact h0
 | 1,_=>exact h1
 | 2,_=>exact h2
 | 3,_=>exact h3
theorem zADf {xs:List AV} (h:Inp Tryz.prog s 38 94 xs):∃ a:(AV × AV) × (List Int × List Int),xs=[a.1.1,a.1.2]∧Sl s a.1.1 (ix a.2.1)∧Sl s a.1.2 (ix a.2.2):=by
 have hl:=qG8 (by kernel_rfl:qBE Tryz.prog 94=some true) h
 rw [show Tryz.prog.cellsOf 94=2 by kernel_rfl] at hl
 obtain ⟨n0,h0,w0⟩:=SG.qJy (j:=0) (d':=37) (t':=63) h (by kernel_rfl)
 obtain ⟨n1,h1,w1⟩:=SG.qJy (j:=1) (d':=37) (t':=63) h (by kernel_rfl)
 have key:∀ {x:AV},Inp Tryz.prog s 37 63 [x]→∃ l:List Int,Sl s x (ix l):=λw=>by
  obtain ⟨l,h,_⟩:=qQ6 (d:=36) Tryz.underlying63 (by kernel_rfl) (AV.int .i64) (λ_=>True) (λxs h=>by obtain ⟨n,e,_⟩:=qZF Tryz.underlying3 h;exact ⟨n,e,trivial⟩) (SG.qEZ Tryz.underlying63 w)
  exact ⟨l,h⟩
 obtain ⟨l0,q0⟩:=key w0
 obtain ⟨l1,q1⟩:=key w1
 refine ⟨((n0,n1),(l0,l1)),SG.qHG hl λj hj=>?_,q0,q1⟩
 match j,hj with
 | 0,_=>exact h0
 | 1,_=>exact h1
theorem zACk {xs:List AV} (h:Inp Tryz.prog s 40 31 xs):∃ F:FG,FabR s xs F∧F.S.length≤9223372036854775807∧∀ x∈F.H,0≤x.2.1∧x.2.1 < 4294967296:=by
 have hl:=qG8 (by kernel_rfl:qBE Tryz.prog 31=some true) h
 rw [show Tryz.prog.cellsOf 31=19 by kernel_rfl] at hl
 obtain ⟨n0,h0,w0⟩:=SG.qA0 (j:=0) (k:=.i64) h (by kernel_rfl)
 obtain ⟨n1,h1,w1⟩:=SG.qA0 (j:=1) (k:=.i64) h (by kernel_rfl)
 obtain ⟨n2,h2,w2⟩:=SG.qJy (j:=2) (d':=39) (t':=22) h (by kernel_rfl)
 obtain ⟨n3,h3,w3⟩:=SG.qJy (j:=3) (d':=39) (t':=23) h (by kernel_rfl)
 obtain ⟨n4,h4,w4⟩:=SG.qJy (j:=4) (d':=39) (t':=24) h (by kernel_rfl)
 obtain ⟨n5,h5,w5⟩:=SG.qJy (j:=5) (d':=39) (t':=25) h (by kernel_rfl)
 obtain ⟨n6,h6,w6⟩:=SG.qJy (j:=6) (d':=39) (t':=26) h (by kernel_rfl)
 obtain ⟨n7,h7,w7⟩:=SG.qJy (j:=7) (d':=39) (t':=27) h (by kernel_rfl)
 obtain ⟨n8,h8,w8⟩:=SG.qA0 (j:=8) (k:=.i64) h (by kernel_rfl)
 obtain ⟨n9,h9,w9⟩:=SG.qA0 (j:=9) (k:=.i64) h (by kernel_rfl)
 obtain ⟨n10,h10,w10⟩:=SG.qA0 (j:=10) (k:=.i64) h (by kernel_rfl)
 obtain ⟨n11,h11⟩:=SG.zABX (j:=11) h (by kernel_rfl)
 obtain ⟨n12,h12⟩:=SG.zABX (j:=12) h (by kernel_rfl)
 obtain ⟨n13,h13,w13⟩:=SG.qA0 (j:=13) (k:=.i64) h (by kernel_rfl)
 obtain ⟨n14,h14,w14⟩:=SG.qA0 (j:=14) (k:=.i64) h (by kernel_rfl)
 obtain ⟨n15,h15,w15⟩:=SG.qA0 (j:=15) (k:=.i64) h (by kernel_rfl)
 obtain ⟨n16,h16,w16⟩:=SG.qA0 (j:=16) (k:=.i64) h (by kernel_rfl)
 obtain ⟨n17,h17,w17⟩:=SG.qA0 (j:=17) (k:=.i64) h (by kernel_rfl)
 obtain ⟨n18,h18,w18⟩:=SG.qA0 (j:=18) (k:=.i64) h (by kernel_rfl)
 obtain ⟨lL,qL,_⟩:=argR (d:=38) Tryz.underlying22 lkC (λ_=>True) (λa=>by rw [show Tryz.prog.cellsOf 115=3 by kernel_rfl];rfl) (λxs h=>by obtain ⟨x,e⟩:=zADn h;exact ⟨x,e,trivial⟩) (SG.qEZ Tryz.underlying22 w2)
 obtain ⟨lT,qT,_⟩:=argR (d:=38) Tryz.underlying23 tgC (λ_=>True) (λa=>by rw [show Tryz.prog.cellsOf 117=2 by kernel_rfl];rfl) (λxs h=>by obtain ⟨x,e⟩:=zAEa h;exact ⟨x,e,trivial⟩) (SG.qEZ Tryz.underlying23 w3)
 obtain ⟨lB,qB,_⟩:=argR (d:=38) Tryz.underlying24 bgC (λ_=>True) (λa=>by rw [show Tryz.prog.cellsOf 87=6 by kernel_rfl];rfl) (λxs h=>by obtain ⟨x,e⟩:=zADT h;exact ⟨x,e,trivial⟩) (SG.qEZ Tryz.underlying24 w4)
 obtain ⟨lS,qS,oS,mS⟩:=argR (d:=38) Tryz.underlying25 (λa:(AV × AV) × (List Int × List Int)=>[a.1.1,a.1.2]) (λa=>Sl s a.1.1 (ix a.2.1)∧Sl s a.1.2 (ix a.2.2)) (λa=>by rw [show Tryz.prog.cellsOf 94=2 by kernel_rfl];rfl) (λxs h=>zADf h) (SG.qEZ Tryz.underlying25 w5)
 obtain ⟨lH,qH,oH,_⟩:=argR (d:=38) Tryz.underlying26 hgC (λx:R4=>0≤x.2.1∧x.2.1 < 4294967296) (λa=>by rw [show Tryz.prog.cellsOf 140=4 by kernel_rfl];rfl) (λxs h=>zADe h) (SG.qEZ Tryz.underlying26 w6)
 obtain ⟨lG,qG,_⟩:=argR (d:=38) Tryz.underlying27 ggC (λ_=>True) (λa=>by rw [show Tryz.prog.cellsOf 144=4 by kernel_rfl];rfl) (λxs h=>by obtain ⟨x,e⟩:=zADK h;exact ⟨x,e,trivial⟩) (SG.qEZ Tryz.underlying27 w7)
 rw [show Tryz.prog.cellsOf 115=3 by kernel_rfl] at qL
 rw [show Tryz.prog.cellsOf 117=2 by kernel_rfl] at qT
 rw [show Tryz.prog.cellsOf 87=6 by kernel_rfl] at qB
 rw [show Tryz.prog.cellsOf 94=2 by kernel_rfl] at qS
 rw [show Tryz.prog.cellsOf 140=4 by kernel_rfl] at qH
 rw [show Tryz.prog.cellsOf 144=4 by kernel_rfl] at qG
 have sS:SgG s n5 (lS.map (·.2)):=⟨lS.map (·.1),by rw [List.map_map];exact qS,by simp,λi q x hq hx=>by
  rw [List.getElem?_map] at hq hx
  cases e:lS[i]? with
  | none=>rw [e] at hq;cases hq
  | some a=>
    rw [e] at hq hx
    cases hq
    cases hx
    exact oS a (List.mem_of_getElem? e)⟩
 refine ⟨⟨n0,n1,n8,n9,n10,n11,n12,n13,n14,n15,n16,n17,n18,lL,lT,lB,lS.map (·.2),lH,lG⟩,⟨n2,n3,n4,n5,n6,n7,SG.qHG hl λj hj=>?_,qL,qT,qB,sS,qH,qG⟩,?_,oH⟩
 ·match j,hj with
  | 0,_=>exact h0
  | 1,_=>exact h1
  | 2,_=>exact h2
  | 3,_=>exact h3
  | 4,_=>exact h4
  | 5,_=>exact h5
  | 6,_=>exact h6
  | 7,_=>exact h7
  | 8,_=>exact h8
  | 9,_=>exact h9
  | 10,_=>exact h10
  | 11,_=>exact h11
  | 12,_=>exact h12
  | 13,_=>exact h13
  | 14,_=>exact h14
  | 15,_=>exact h15
  | 16,_=>exact h16
  | 17,_=>exact h17
  | 18,_=>exact h18
  | j+19,q=>exact absurd q (by show ¬ j+19 < 19;omega)
 ·show (lS.map (·.2)).length≤_
  rw [List.length_map]
  exact Nat.le_trans mS (by decide)
theorem zACe (h:Arg Tryz.prog s 40 31 v):∃ (cs:List AV) (F:FG),v=.agg cs∧FabR s cs F∧F.S.length≤9223372036854775807∧∀ x∈F.H,0≤x.2.1∧x.2.1 < 4294967296:=by
 obtain ⟨h1,h2,_⟩:=h
 obtain ⟨l,rfl,_⟩:=h2 (by kernel_rfl)
 rw [qIK] at h1
 obtain ⟨F,hF⟩:=zACk h1
 exact ⟨l,F,rfl,hF⟩
end Go.AM.FW
namespace Go.AM
open Go Go.Proofs
end Go.AM
set_option maxRecDepth 100000
namespace Go.AM.FC
open Go Go.Proofs Go.AM.TN
variable {K : AV → Hq → Prop} {s s' s0 T U : Hq} {v w : AV} {cs : List AV} {F : FG} {x : Fr} {v2 v3 v4 v5 v6 v7 : AV} {leaf bd g mk : Int} {P Q : List Int}
theorem zAD5 (a0 a1 a2 a3 a4 a5 c0 c1 c2 c3 c4 c5 c6 c7 c8 c9 c10 c11 c12 c13 c14:Int):qH3 Tryz.prog 55 (.agg [.int .u32 a0,.int .u32 a1,.int .i64 a2,.int .i64 a3,.int .u32 a4,.int .u32 a5,.int .u64 c0,.int .u64 c1,.int .i64 c2,.int .i64 c3,.int .u64 c4,.int .u32 c5,.int .u64 c6,.int .u32 c7,.int .u32 c8,.int .u32 c9,.int .i64 c10,.int .i64 c11,.int .i64 c12,.int .i64 c13,.int .u64 c14]) (.agg [.int .u32 a0,.int .u32 a1,.int .i64 a2,.int .i64 a3,.int .u32 a4,.int .u32 a5,.int .u64 c0,.int .u64 c1,.int .i64 c2,.int .i64 c3,.int .u64 c4,.int .u32 c5,.int .u64 c6,.int .u32 c7,.int .u32 c8,.int .u32 c9,.int .i64 c10,.int .i64 c11,.int .i64 c12,.int .i64 c13,.int .u64 c14]) =
  mB (some (eqI a0 a0)) (mB (some (eqI a1 a1)) (mB (some (eqI a2 a2)) (mB (some (eqI a3 a3)) (mB (some (eqI a4 a4)) (mB (some (eqI a5 a5)) (mB
   (mB (some (eqI c0 c0)) (mB (some (eqI c1 c1)) (mB (some (eqI c2 c2)) (mB (mB (some (eqI c3 c3)) (mB (some (eqI c4 c4)) (mB (some (eqI c5 c5)) (mB (some (eqI c6 c6)) (mB (some (eqI c7 c7)) (some true)))))) (mB (mB (some (eqI c8 c8)) (mB (some (eqI c9 c9)) (mB (some (eqI c10 c10)) (mB (some (eqI c11 c11)) (mB (some (eqI c12 c12)) (mB (some (eqI c13 c13)) (some true))))))) (mB (some (eqI c14 c14)) (some true)))))))
   (some true))))))):=by kernel_rfl
theorem zAA0 (a:Int):eqI a a=true:=by rw [qDp];exact beq_self_eq_true a
theorem zACD {a e vni d:Int}:qH3 Tryz.prog 55 (.agg (pk a e vni mk x d)) (.agg (pk a e vni mk x d))=some true:=by
 unfold pk
 rw [zAD5]
 simp only [zAA0]
 rfl
theorem zAAo:∀ r∈cpA F leaf bd g mk P x,qH3 Tryz.prog 55 (.agg r) (.agg r)=some true:=λr hr=>by
 by_cases h:Cp F leaf bd P
 ·rw [qV8 h] at hr
  unfold cpL at hr
  obtain ⟨d,_,rfl⟩:=List.mem_map.1 hr
  exact zACD
 ·rw [qX3 h] at hr
  cases hr
theorem zACE (hl:P.length≤1000):(cpA F leaf bd g mk P x).length≤1000:=by
 by_cases h:Cp F leaf bd P
 ·rw [qV8 h]
  unfold cpL
  rw [List.length_map]
  split
  ·exact hl
  ·simp
 ·rw [qX3 h];simp
theorem zAA2 {L:List (List AV)} (h:SlR 21 s v L) (h':SlR 21 s w L) (hl:L.length≤100000) (hq:∀ r∈L,qH3 Tryz.prog 55 (.agg r) (.agg r)=some true) (hK:K (.bool true) s):wC Tryz.prog XX 14 [v,w] K s:=by
 refine qFs ?_
 simp only [qCK,h.len,h'.len,qAc,beq_self_eq_true,qAY,Bool.false_bne,qAA]
 refine ⟨λys t m=>∃ i:Nat,ys=[.bool true,.int .i64 (i:Int)]∧t=s∧i≤L.length∧m=L.length - i,⟨_,0,rfl,rfl,by omega,rfl⟩,?_⟩
 rintro e t m ⟨i,hy,rfl,hi,rfl⟩
 simp only [List.cons.injEq,and_true] at hy
 rw [hy.1,hy.2]
 simp only [qCx,qAM,h.len,qAV,qAA,qBj,qAP]
 refine qAK (λhlt=>?_) (λ_=>hK)
 have hlt:i < L.length:=by have:=of_decide_eq_true hlt;omega
 obtain ⟨a,o,e1,e2,_⟩:=h.get (List.getElem?_eq_getElem hlt)
 obtain ⟨b,o',e3,e4,_⟩:=h'.get (List.getElem?_eq_getElem hlt)
 simp only [e1,e2,e3,e4,hq _ (List.getElem_mem hlt),qAY,Bool.false_bne,qAW,qAA]
 rw [qAk (by omega) (by omega)]
 exact ⟨_,by omega,i+1,rfl,(by trivial),by omega,rfl⟩
theorem FCo_in (hS:F.S.length≤9223372036854775807) (hI:∀ x∈F.H,0≤x.2.1∧x.2.1 < 4294967296) (hF:FabR s cs F) (hP:Sl s v (u32s P)) (hG:SG.GlK s) (hK:∀ s',K (.bool true) s'):wC Tryz.prog XX 4 [.agg cs,.int .i64 leaf,.agg (flC bd v g),.agg (frC x),.int .u32 mk] K s:=by
 obtain ⟨v2,v3,v4,v5,v6,v7,rfl,hL⟩:=hF
 have hone:=hP.one
 refine qD6 ⟨hL.all,qAO λb0 s1 hb0 h1 u1=>⟨by simp [flC,hone],qAO λb2 s3 hb2 h3 u3=>⟨rfl,qAO λb4 s5 hb4 h5 u5=>?_⟩⟩⟩
 have h1:s1 b0=some (false,.cells 31 (csG F v2 v3 v4 v5 v6 v7)):=h1
 have h3:s3 b2=some (false,.cells 44 (flC bd v g)):=h3
 have h5:s5 b4=some (false,.cells 52 (frC x)):=h5
 have k5:=u5.sub hb4
 have k3:=(u3.sub hb2).trans k5
 have k1:=(u1.sub hb0).trans k3
 have h1:=k3 _ _ h1
 have h3:=k5 _ _ h3
 refine qAJ (qAa h1 rfl) (FW.zACn hS ⟨v2,v3,v4,v5,v6,v7,rfl,hL.sub k1⟩ λb s8 k8 hb=>?_)
 have k:=k1.trans k8
 have h1:=k8 _ _ h1
 have h3:=k8 _ _ h3
 have h5:=k8 _ _ h5
 have aw:∀ {t:Hq} {J:AV→Hq→Prop},Sub s8 t→J (.bool true) t→wC Tryz.prog XX 10 [] J t:=fun {t J} kt hJ=>by
  obtain ⟨tt,hg⟩:=hG.sub (k.trans kt)
  exact zAAU hg hJ
 cases b with
 | true=>
   simp only [qAM,qA2,qAP,qAA]
   exact aw (.refl _) (hK _)
 | false=>
 have sm:=hb rfl
 have z:Sz F:=by
  have:=sm.L;have:=sm.T;have:=sm.B;have:=sm.S;have:=sm.H;have:=sm.G
  exact ⟨by omega,by omega,by omega,by omega,by omega,by omega,λx hx=>by have:=sm.N x hx;omega,hI⟩
 have r1:rd1 s8 (.ptr b2 1)=some v:=by rw [qAI h3];rfl
 have nP:qAR v=some P.length:=by rw [hP.len,List.length_map]
 simp only [qAE,qAD,Nat.add_zero,Nat.zero_add,qAA,r1,nP,qAr,qA2,qAF]
 refine qAK (λ_=>aw (.refl _) (hK _)) (λhle=>?_)
 have hle:P.length≤40:=by have:=of_decide_eq_false hle;omega
 refine qAJ (qAa h1 rfl) (qAJ (qAa h3 rfl) (qAJ (qAa h5 rfl) ?_))
 refine qYA z ⟨v2,v3,v4,v5,v6,v7,rfl,FW.zABy (hL.sub k)⟩ (hP.sub k).frz (by omega) λvA sA kA hA=>?_
 intro _
 have kT:Sub s8 (add s8 sA):=qGQ
 have kc:=cut1 (U:=sA) (.refl s8)
 refine qAJ (qAa (kc _ _ h1) rfl) (qAJ (qAa (kc _ _ h3) rfl) (qAJ (qAa (kc _ _ h5) rfl) ?_))
 have hA2:=SG.SlR.addf hA kA
 generalize add s8 sA=T at kT hA2 ⊢
 have kk:=k.trans kT
 refine qWA z ⟨v2,v3,v4,v5,v6,v7,rfl,hL.sub kk⟩ (hP.sub kk) (by omega) λvB sB kB hB=>?_
 have:=zACE (F:=F) (leaf:=leaf) (bd:=bd) (g:=g) (mk:=mk) (x:=x) (P:=P) (by omega)
 refine zAA2 (hA2.sub kB) hB (by omega) zAAo ?_
 simp only [qAM]
 refine aw (kT.trans kB) ?_
 simp only [qAP,qAA]
 exact hK _
end Go.AM.FC
set_option maxRecDepth 100000
namespace Go.AM.FC
open Go Go.Proofs Go.AM.TN
variable {s : Hq} {v : AV}
theorem arg_flood (h:Arg Tryz.prog s 40 44 v):∃ (bd:Int) (w:AV) (g:Int) (P:List Int),v=.agg (flC bd w g)∧Sl s w (u32s P):=by
 obtain ⟨h1,h2,_⟩:=h
 obtain ⟨l,rfl,_⟩:=h2 (by kernel_rfl)
 rw [qIK] at h1
 have h:=h1
 have hl:=qG8 (by kernel_rfl:qBE Tryz.prog 44=some true) h
 rw [show Tryz.prog.cellsOf 44=3 by kernel_rfl] at hl
 obtain ⟨n0,h0,w0⟩:=SG.qA0 (j:=0) (k:=.i64) h (by kernel_rfl)
 obtain ⟨n1,h1,w1⟩:=SG.qJy (j:=1) (d':=39) (t':=40) h (by kernel_rfl)
 obtain ⟨n2,h2,w2⟩:=SG.qA0 (j:=2) (k:=.u32) h (by kernel_rfl)
 obtain ⟨P,hP,_⟩:=qQ6 (d:=38) Tryz.underlying40 (by kernel_rfl) (AV.int .u32) (λ_=>True) (λxs h=>by obtain ⟨n,e,_⟩:=qZF Tryz.underlying42 h;exact ⟨n,e,trivial⟩) (SG.qEZ Tryz.underlying40 w1)
 refine ⟨n0,n1,n2,P,congrArg AV.agg (SG.qHG hl λj hj=>?_),hP⟩
 match j,hj with
 | 0,_=>exact h0
 | 1,_=>exact h1
 | 2,_=>exact h2
 | j+3,q=>exact absurd q (by show ¬ j+3 < 3;omega)
theorem arg_frame (h:Arg Tryz.prog s 40 52 v):∃ x:Fr,v=.agg (frC x):=by
 obtain ⟨h1,h2,_⟩:=h
 obtain ⟨l,rfl,_⟩:=h2 (by kernel_rfl)
 rw [qIK] at h1
 have h:=h1
 have hl:=qG8 (by kernel_rfl:qBE Tryz.prog 52=some true) h
 rw [show Tryz.prog.cellsOf 52=15 by kernel_rfl] at hl
 obtain ⟨n0,h0,_⟩:=SG.qA0 (j:=0) (k:=.u64) h (by kernel_rfl)
 obtain ⟨n1,h1,_⟩:=SG.qA0 (j:=1) (k:=.u64) h (by kernel_rfl)
 obtain ⟨n2,h2,_⟩:=SG.qA0 (j:=2) (k:=.i64) h (by kernel_rfl)
 obtain ⟨n3,h3,_⟩:=SG.qA0 (j:=3) (k:=.i64) h (by kernel_rfl)
 obtain ⟨n4,h4,_⟩:=SG.qA0 (j:=4) (k:=.u64) h (by kernel_rfl)
 obtain ⟨n5,h5,_⟩:=SG.qA0 (j:=5) (k:=.u32) h (by kernel_rfl)
 obtain ⟨n6,h6,_⟩:=SG.qA0 (j:=6) (k:=.u64) h (by kernel_rfl)
 obtain ⟨n7,h7,_⟩:=SG.qA0 (j:=7) (k:=.u32) h (by kernel_rfl)
 obtain ⟨n8,h8,_⟩:=SG.qA0 (j:=8) (k:=.u32) h (by kernel_rfl)
 obtain ⟨n9,h9,_⟩:=SG.qA0 (j:=9) (k:=.u32) h (by kernel_rfl)
 obtain ⟨n10,h10,_⟩:=SG.qA0 (j:=10) (k:=.i64) h (by kernel_rfl)
 obtain ⟨n11,h11,_⟩:=SG.qA0 (j:=11) (k:=.i64) h (by kernel_rfl)
 obtain ⟨n12,h12,_⟩:=SG.qA0 (j:=12) (k:=.i64) h (by kernel_rfl)
 obtain ⟨n13,h13,_⟩:=SG.qA0 (j:=13) (k:=.i64) h (by kernel_rfl)
 obtain ⟨n14,h14,_⟩:=SG.qA0 (j:=14) (k:=.u64) h (by kernel_rfl)
 refine ⟨⟨n0,n1,n2,n3,n4,n5,n6,n7,n8,n9,n10,n11,n12,n13,n14⟩,congrArg AV.agg (SG.qHG hl λj hj=>?_)⟩
 match j,hj with
 | 0,_=>exact h0
 | 1,_=>exact h1
 | 2,_=>exact h2
 | 3,_=>exact h3
 | 4,_=>exact h4
 | 5,_=>exact h5
 | 6,_=>exact h6
 | 7,_=>exact h7
 | 8,_=>exact h8
 | 9,_=>exact h9
 | 10,_=>exact h10
 | 11,_=>exact h11
 | 12,_=>exact h12
 | 13,_=>exact h13
 | 14,_=>exact h14
 | j+15,q=>exact absurd q (by show ¬ j+15 < 15;omega)
theorem argl5 {P:Program} {d:Nat} {t u w y z:TypeId} {xs:List AV} (h:ArgL P s d [t,u,w,y,z] xs):∃ a b c e f,xs=[a,b,c,e,f]∧Arg P s d t a∧Arg P s d u b∧Arg P s d w c∧Arg P s d y e∧Arg P s d z f:=by
 match xs,h with
 | [a,b,c,e,f],⟨h1,h2,h3,h4,h5,_⟩=>exact ⟨a,b,c,e,f,rfl,h1,h2,h3,h4,h5⟩
end Go.AM.FC
namespace Go.AM
open Go Go.Proofs
theorem FCo_wp (s:Hq) (xs:List AV) (hg:s 0=some (true,.glob 0 (.agg kindsL))) (h:ArgL Tryz.prog s 40 [31,3,44,52,41] xs):wC Tryz.prog XX 4 xs (λv _=>v=.bool true) s:=by
 obtain ⟨a,b,c,e,f,rfl,h1,h2,h3,h4,h5⟩:=FC.argl5 h
 obtain ⟨cs,F,rfl,hF,hS,hI⟩:=FW.zACe h1
 obtain ⟨leaf,rfl,_⟩:=qYu (d:=39) Tryz.underlying3 h2
 obtain ⟨bd,w,g,P,rfl,hP⟩:=FC.arg_flood h3
 obtain ⟨x,rfl⟩:=FC.arg_frame h4
 obtain ⟨mk,rfl,_⟩:=qYu (d:=39) Tryz.underlying41 h5
 exact FC.FCo_in hS hI hF hP ⟨true,hg⟩ λ_=>rfl
end Go.AM
