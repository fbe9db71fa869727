/- Part G of the proof: see the last part. -/
import Derived.Test.YtjheoaemhdpoeaaGreatDoorU2
import Derived.Test.YtjheoaemhdpoeaaGreatDoorV2
set_option linter.unusedVariables false
namespace Go.AM.SG
open Go Go.AM
abbrev nAt(l:List Int)(i:Nat):Int:=l.getD i 0
theorem qQC{l:List Int}{i:Nat}(h:i<l.length):nAt l i=l[i]:=by simp[nAt,h]
theorem nAt_get?{l:List Int}{i:Nat}(h:i<l.length):l[i]?=some (nAt l i):=by simp[nAt,h]
theorem qRy{l:List Int}{i j:Nat}{x:Int}(h:i<l.length):nAt (l.set i x) j=if j=i then x else nAt l j:=by
 unfold nAt;rw[List.getD_eq_getElem?_getD,List.getD_eq_getElem?_getD,List.getElem?_set]
 by_cases e:j=i
 ·subst e;simp[h]
 ·rw[if_neg (λq=>e q.symm),if_neg e]
def swN(l:List Int)(i j:Nat):List Int:=(l.set i (nAt l j)).set j (nAt l i)
theorem zAA2{l:List Int}{i j:Nat}:(swN l i j).length=l.length:=by simp[swN]
theorem qHk{l:List Int}{i j k:Nat}(hi:i<l.length)(hj:j<l.length):nAt (swN l i j) k=if k=j then nAt l i else if k=i then nAt l j else nAt l k:=by unfold swN;rw[qRy (by simpa using hj),qRy hi]
theorem qYs{l:List Int}{i j:Nat}(hi:i<l.length)(hj:j<l.length):(swN l i j).Perm l:=by unfold swN;rw[qQC hi,qQC hj];exact List.set_set_perm hi hj
structure PI(a b:Nat)(l l':List Int):Prop where
 perm:l'.Perm l
 out:∀i,¬(a<=i/\i<b)->nAt l' i=nAt l i
 inn:∀i,a<=i->i<b->∃k,a<=k/\k<b/\nAt l' i=nAt l k
variable {a b c d a0 b0 m:Nat} {l l' l'':List Int}
theorem PI.refl(a b:Nat)(l:List Int):PI a b l l:=⟨.refl _,λ_ _=>rfl,λi h1 h2=>⟨i,h1,h2,rfl⟩⟩
theorem PI.len(h:PI a b l l'):l'.length=l.length:=h.perm.length_eq
theorem PI.trans(h:PI a b l l')(k:PI a b l' l''):PI a b l l'':=by refine⟨k.perm.trans h.perm,λi hi=>(k.out i hi).trans (h.out i hi),λi h1 h2=>?_⟩;obtain⟨j,q1,q2,q3⟩:=k.inn i h1 h2;obtain⟨j',r1,r2,r3⟩:=h.inn j q1 q2;exact⟨j',r1,r2,q3.trans r3⟩
theorem PI.wide(h:PI a b l l')(h1:c<=a)(h2:b<=d):PI c d l l':=by
 refine⟨h.perm,λi hi=>h.out i (by omega),λi q1 q2=>?_⟩
 by_cases q:a<=i/\i<b
 ·obtain⟨k,r1,r2,r3⟩:=h.inn i q.1 q.2
  exact⟨k,by omega,by omega,r3⟩
 ·exact⟨i,q1,q2,h.out i q⟩
theorem PI.sw{i j:Nat}(hi:a<=i)(hi2:i<b)(hj:a<=j)(hj2:j<b)(hb:b<=l.length):PI a b l (swN l i j):=by
 refine⟨qYs (by omega) (by omega),λk hk=>?_,λk h1 h2=>?_⟩
 ·rw[qHk (by omega) (by omega),if_neg (by omega),if_neg (by omega)]
 ·rw[qHk (by omega) (by omega)]
  by_cases e1:k=j
  ·exact⟨i,hi,hi2,by rw[if_pos e1]⟩
  ·by_cases e2:k=i
   ·exact⟨j,hj,hj2,by rw[if_neg e1,if_pos e2]⟩
   ·exact⟨k,h1,h2,by rw[if_neg e1,if_neg e2]⟩
theorem PI.ge{x:Int}(h:PI a b l l')(k:∀i,a<=i->i<b->x<=nAt l i):∀i,a<=i->i<b->x<=nAt l' i:=λi h1 h2=>by obtain⟨j,q1,q2,q3⟩:=h.inn i h1 h2;rw[q3];exact k j q1 q2
theorem PI.le{x:Int}(h:PI a b l l')(k:∀i,a<=i->i<b->nAt l i<=x):∀i,a<=i->i<b->nAt l' i<=x:=λi h1 h2=>by obtain⟨j,q1,q2,q3⟩:=h.inn i h1 h2;rw[q3];exact k j q1 q2
def Asc(a b:Nat)(l:List Int):Prop:=∀i j,a<=i->i<j->j<b->nAt l i<=nAt l j
def Low(a b:Nat)(l:List Int):Prop:=0<a->∀i,a<=i->i<b->nAt l (a-1)<=nAt l i
theorem PI.low(h:PI a b l l')(k:Low a b l):Low a b l':=λh0=>by rw[h.out (a-1) (by omega)];exact h.ge (k h0)
def But(a0 b0 a b:Nat)(l:List Int):Prop:=∀i j,a0<=i->i<j->j<b0->¬(a<=i/\j<b)->nAt l i<=nAt l j
theorem But.start:But a0 b0 a0 b0 l:=λi j h1 _ h3 h4=>absurd ⟨h1,h3⟩ h4
theorem But.asc(h:But a0 b0 a b l)(k:Asc a b l):Asc a0 b0 l:=λi j h1 h2 h3=>by
 by_cases q:a<=i/\j<b
 ·exact k i j q.1 h2 q.2
 ·exact h i j h1 h2 h3 q
theorem But.pi(h:But a0 b0 a b l)(ha:a0<=a)(hb:b<=b0)(k:PI a b l l'):But a0 b0 a b l':=λi j h1 h2 h3 h4=>by
 by_cases q1:a<=i/\i<b
 ·obtain⟨r,r1,r2,r3⟩:=k.inn i q1.1 q1.2
  rw[r3,k.out j (by omega)];exact h r j (by omega) (by omega) h3 (by omega)
 ·rw[k.out i q1]
  by_cases q2:a<=j/\j<b
  ·obtain⟨r,r1,r2,r3⟩:=k.inn j q2.1 q2.2
   rw[r3];exact h i r h1 (by omega) (by omega) (by omega)
  ·rw[k.out j q2];exact h i j h1 h2 h3 h4
theorem But.low(h:But a0 b0 a b l)(h0:Low a0 b0 l)(ha:a0<=a)(hb:b<=b0):Low a b l:=λhp i h1 h2=>by
 by_cases q:a=a0
 ·subst q;exact h0 hp i h1 (by omega)
 ·exact h (a-1) i (by omega) (by omega) (by omega) (by omega)
def Parted(a b m:Nat)(l:List Int):Prop:=(∀i,a<=i->i<m->nAt l i<=nAt l m)/\∀i,m<i->i<b->nAt l m<=nAt l i
theorem But.left(h:But a0 b0 a b l)(ha:a0<=a)(hb:b<=b0)(hm:a<=m)(hm2:m<b)(hp:Parted a b m l)(k:PI a m l l')(ks:Asc a m l'):But a0 b0 (m+1) b l':=by
 have hw:=h.pi ha hb (k.wide (Nat.le_refl a) (by omega:m<=b));have e:∀i,m<=i->nAt l' i=nAt l i:=λi hi=>k.out i (by omega);have low:=k.le hp.1;intro i j h1 h2 h3 h4
 by_cases q:a<=i/\j<b
 ·by_cases q1:i<m
  ·by_cases q2:j<m
   ·exact ks i j q.1 h2 q2
   ·have:=low i q.1 q1
    rw[e j (by omega)]
    by_cases q3:j=m
    ·rw[q3];exact this
    ·exact Int.le_trans this (hp.2 j (by omega) q.2)
  ·have:i=m:=by omega
   rw[this,e m (Nat.le_refl m),e j (by omega)];exact hp.2 j (by omega) q.2
 ·exact hw i j h1 h2 h3 q
theorem But.right(h:But a0 b0 a b l)(ha:a0<=a)(hb:b<=b0)(hm:a<=m)(hm2:m<b)(hp:Parted a b m l)(k:PI (m+1) b l l')(ks:Asc (m+1) b l'):But a0 b0 a m l':=by
 have hw:=h.pi ha hb (k.wide (by omega:a<=m+1) (Nat.le_refl b));have e:∀i,i<=m->nAt l' i=nAt l i:=λi hi=>k.out i (by omega);have up:=k.ge (λi h1 h2=>hp.2 i (by omega) h2);intro i j h1 h2 h3 h4
 by_cases q:a<=i/\j<b
 ·by_cases q1:m<j
  ·by_cases q2:m<i
   ·exact ks i j (by omega) h2 q.2
   ·have:=up j (by omega) q.2
    rw[e i (by omega)]
    by_cases q3:i=m
    ·rw[q3];exact this
    ·exact Int.le_trans (hp.1 i q.1 (by omega)) this
  ·have:j=m:=by omega
   rw[this,e m (Nat.le_refl m),e i (by omega)];exact hp.1 i q.1 (by omega)
 ·exact hw i j h1 h2 h3 q
theorem But.equal{x:Int}(h:But a0 b0 a b l)(hm:a<=m)(hm2:m<=b)(h1:∀i,a<=i->i<m->nAt l i=x)(h2:∀i,m<=i->i<b->x<=nAt l i):But a0 b0 m b l:=by
 intro i j k1 k2 k3 k4
 by_cases q:a<=i/\j<b
 ·have:=h1 i q.1 (by omega)
  rw[this]
  by_cases q1:j<m
  ·rw[h1 j (by omega) q1];omega
  ·exact h2 j (by omega) q.2
 ·exact h i j k1 k2 k3 q
end Go.AM.SG
namespace Go.AM.SG
open Go Go.AM
variable {f lo hi r ch i n:Nat} {l:List Int}
def Chd(k c:Nat):Prop:=c=2*k+1∨c=2*k+2
def Hp(f lo hi:Nat)(l:List Int):Prop:=∀k c,lo<=k->Chd k c->c<hi->nAt l (f+c)<=nAt l (f+k)
structure HpX(f lo hi r:Nat)(l:List Int):Prop where
 oth:∀k c,lo<=k->k≠r->Chd k c->c<hi->nAt l (f+c)<=nAt l (f+k)
 gra:∀p c,lo<=p->Chd p r->Chd r c->c<hi->nAt l (f+c)<=nAt l (f+p)
theorem HpX.start(h:Hp f (lo+1) hi l):HpX f lo hi lo l:=
 ⟨λk c h1 h2 h3 h4=>h k c (by omega) h3 h4,λp c h1 h2 _ _=>by unfold Chd at h2;omega⟩
theorem HpX.leaf(h:HpX f lo hi r l)(hr:hi<=2*r+1):Hp f lo hi l:=λk c h1 h2 h3=>by
 by_cases e:k=r
 ·subst e;unfold Chd at h2;omega
 ·exact h.oth k c h1 e h2 h3
theorem HpX.done(h:HpX f lo hi r l)(hb:∀c,Chd r c->c<hi->nAt l (f+c)<=nAt l (f+ch))(hc:nAt l (f+ch)<=nAt l (f+r)):Hp f lo hi l:=λk c h1 h2 h3=>by
 by_cases e:k=r
 ·subst e;exact Int.le_trans (hb c h2 h3) hc
 ·exact h.oth k c h1 e h2 h3
theorem HpX.down(h:HpX f lo hi r l)(hl:f+hi<=l.length)(hr:lo<=r)(hch:Chd r ch)(hlt:ch<hi)(hb:∀c,Chd r c->c<hi->nAt l (f+c)<=nAt l (f+ch))(hc:nAt l (f+r)<=nAt l (f+ch)):HpX f lo hi ch (swN l (f+r) (f+ch)):=by
 have hne:r<ch:=by unfold Chd at hch;omega
 have at_:∀k,nAt (swN l (f+r) (f+ch)) (f+k)=if k=ch then nAt l (f+r)else if k=r then nAt l (f+ch)else nAt l (f+k):=λk=>by
  rw[qHk (by omega) (by omega)]
  by_cases e1:k=ch
  ·rw[if_pos e1,if_pos (by omega)]
  ·rw[if_neg e1,if_neg (by omega)]
   by_cases e2:k=r
   ·rw[if_pos e2,if_pos (by omega)]
   ·rw[if_neg e2,if_neg (by omega)]
 refine⟨λk c h1 h2 h3 h4=>?_,λp c h1 h2 h3 h4=>?_⟩
 ·rw[at_ c,at_ k,if_neg h2]
  by_cases e1:k=r
  ·subst e1
   rw[if_pos rfl]
   by_cases e2:c=ch
   ·rw[if_pos e2];exact hc
   ·rw[if_neg e2,if_neg (by unfold Chd at h3;omega)]
    exact hb c h3 h4
  ·rw[if_neg e1]
   by_cases e2:c=ch
   ·exfalso;unfold Chd at h3 hch;omega
   ·rw[if_neg e2]
    by_cases e3:c=r
    ·rw[if_pos e3]
     subst e3;exact h.gra k ch h1 h3 hch hlt
    ·rw[if_neg e3]
     exact h.oth k c h1 e1 h3 h4
 ·have e:p=r:=by unfold Chd at h2 hch;omega
  subst e;rw[at_ c,at_ p,if_neg (by unfold Chd at h3;omega),if_neg (by unfold Chd at h3;omega),if_neg (by omega),if_pos rfl];exact h.oth ch c (by omega) (by omega) h3 h4
theorem Hp.top(h:Hp f 0 n l):∀k,k<n->nAt l (f+k)<=nAt l f:=by
 intro k
 induction k using Nat.strongRecOn with
 | _ k ih=>
   intro hk
   by_cases e:k=0
   ·subst e;exact Int.le_refl _
   ·have:=h ((k-1) / 2) k (Nat.zero_le _) (by unfold Chd;omega) hk
    exact Int.le_trans this (ih _ (by omega) (by omega))
theorem Hp.vac:Hp f ((hi-1) / 2+1) hi l:=λk c h1 h2 h3=>by unfold Chd at h2;omega
theorem But.pop{a b:Nat}(h:But a b a (a+n+1) l)(hh:Hp a 0 (n+1) l)(hb:a+n+1<=b)(hl:b<=l.length):But a b a (a+n) (swN l a (a+n)):=by
 have hw:=h.pi (Nat.le_refl a) hb (PI.sw (i:=a) (j:=a+n) (Nat.le_refl a) (by omega) (by omega) (by omega) (by omega));intro i j h1 h2 h3 h4
 by_cases q:j<a+n+1
 ·have e:j=a+n:=by omega
  subst e;rw[qHk (by omega) (by omega),qHk (by omega) (by omega),if_pos rfl,if_neg (by omega)];have top:=hh.top
  by_cases e2:i=a
  ·rw[if_pos e2];exact top n (by omega)
  ·rw[if_neg e2]
   have:=top (i-a) (by omega);rw[show a+(i-a)=i by omega]at this;exact this
 ·exact hw i j h1 h2 h3 (by omega)
theorem Hp.swap{a:Nat}(h:Hp a 0 (n+1) l)(hb:a+n+1<=l.length):Hp a 1 n (swN l a (a+n)):=λk c h1 h2 h3=>by rw[qHk (by omega) (by omega),qHk (by omega) (by omega),if_neg (by omega),if_neg (by unfold Chd at h2;omega),if_neg (by unfold Chd at h2;omega),if_neg (by omega)];exact h k c (by omega) h2 (by omega)
end Go.AM.SG
namespace Go.AM.SG
open Go Go.AM
theorem zAEu(n:Int):qAw .u64 n=n % 18446744073709551616:=by simp only[qAw];rw[qDs _ _ _ (by omega) (by omega)];split<;>omega
theorem qLz{n:Nat}(h:n<18446744073709551616):qAw .u64 (n:Int)=n:=by rw[zAEu,Int.emod_eq_of_lt (by omega) (by omega)]
theorem wu8_(n:Int):qAw .u8 n=n % 256:=by simp only[qAw];rw[qDs _ _ _ (by omega) (by omega)];split<;>omega
theorem zADW{n:Nat}(h:n<9223372036854775808):qAw .i64 (n:Int)=n:=by simp only[qAw];rw[qDs _ _ _ (by omega) (by omega)];split<;>omega
theorem zACT{w:Nat}(hw:w*256<18446744073709551616):qCj .shl (.int .u64 (w:Int)) (.int .u64 8)=some (.int .u64 ((w*256:Nat):Int)):=by show frc (qAw .u64 ((w:Int)*((2^(min 8 (IntKind.bits .u64)):Nat):Int))) (λn=>some (AV.int .u64 n))=_;rw[qBq,show min 8 (IntKind.bits .u64)=8 from rfl,show(2^8:Nat)=256 from rfl,<- Int.natCast_mul,qLz hw]
theorem zADT{a b:Nat}(hb:b<256):a*256 |||b=a*256+b:=by have:=Nat.shiftLeft_add_eq_or_of_lt (a:=a) (b:=b) (i:=8) hb;rw[Nat.shiftLeft_eq]at this;exact this.symm
theorem zAD9{a b:Nat}(hb:b<256)(ha:a*256+b<18446744073709551616):qAB .or (.int .u64 ((a*256:Nat):Int)) (.int .u64 (b:Int))=some (.int .u64 ((a*256+b:Nat):Int)):=by
 have ha':a*256<18446744073709551616:=Nat.lt_of_le_of_lt (Nat.le_add_right _ _) ha;have hb':b<18446744073709551616:=Nat.lt_of_le_of_lt (Nat.le_add_left _ _) ha;generalize hc:a*256=c at *;have e:(BitVec.ofInt (IntKind.bits .u64) (c:Int) |||BitVec.ofInt (IntKind.bits .u64) (b:Int)).toNat=c+b:=by show(BitVec.ofInt 64 (c:Int) |||BitVec.ofInt 64 (b:Int)).toNat=c+b;rw[BitVec.ofInt_natCast,BitVec.ofInt_natCast,BitVec.toNat_or,BitVec.toNat_ofNat,BitVec.toNat_ofNat,Nat.mod_eq_of_lt ha',Nat.mod_eq_of_lt hb',<- hc];exact zADT hb
 simp only[qAB,arith,qBq,e,qLz ha];rfl
theorem zAB5{a b:Nat}(h:a+b<18446744073709551616):qAB .add (.int .u64 (a:Int)) (.int .u64 (b:Int))=some (.int .u64 ((a+b:Nat):Int)):=by simp only[qAB,arith,qBq,<- Int.natCast_add,qLz h];rfl
theorem qWu{a:Nat}(h:a<256):qB6 .u64 (.int .u8 (a:Int))=some (.int .u64 (a:Int)):=by show some (AV.int .u64 (qAw .u64 (a:Int)))=_;rw[qLz (by omega)]
theorem zAAj{k:IntKind}{a:Nat}(h:a<9223372036854775808):qB6 .i64 (.int k (a:Int))=some (.int .i64 (a:Int)):=by show some (AV.int .i64 (qAw .i64 (a:Int)))=_;rw[zADW h]
theorem zADl{x:Int}{m:Nat}(h2:m<18446744073709551616):∃v:Nat,v<=m/\qAB .and (.int .u64 x) (.int .u64 (m:Int))=some (.int .u64 (v:Int)):=by
 refine⟨(BitVec.ofInt 64 x &&& BitVec.ofInt 64 (m:Int)).toNat,?_,?_⟩
 ·rw[BitVec.ofInt_natCast,BitVec.toNat_and,BitVec.toNat_ofNat]
  exact Nat.le_trans Nat.and_le_right (Nat.mod_le _ _)
 ·have:=(BitVec.ofInt 64 x &&& BitVec.ofInt 64 (m:Int)).isLt
  have e:=qLz this;simp only[qAB,arith,qBq];rw[show IntKind.bits .u64=64 from rfl,e];rfl
theorem qRj{x y:Int}:∃z:Int,qAB .xor (.int .u64 x) (.int .u64 y)=some (.int .u64 z):=⟨_,by simp only[qAB,arith,qBq];rfl⟩
theorem qXE{x:Int}{m:Nat}{k:IntKind}:∃z:Int,qCj .shl (.int .u64 x) (.int k (m:Int))=some (.int .u64 z):=⟨_,by show frc (qAw .u64 (x*((2^(min m (IntKind.bits .u64)):Nat):Int))) (λn=>some (AV.int .u64 n))=_;rw[qBq]⟩
theorem zABx{x:Int}{m:Nat}{k:IntKind}:∃z:Int,qCj .shr (.int .u64 x) (.int k (m:Int))=some (.int .u64 z):=⟨_,by show frc (x.fdiv ((2^(min m (IntKind.bits .u64)):Nat):Int)) (λn=>some (AV.int .u64 n))=_;rw[qBq]⟩
end Go.AM.SG
namespace Go.AM.SG
open Go Go.AM Go.Proofs
section
variable (P : Program)
variable {P}
end
theorem zAE2(x y z w:Int):qGC TP 169 (.agg [.int .u8 x,.int .u8 y]) (.agg [.int .u8 z,.int .u8 w])=some (decide (x=z/\y=w)):=by
 have:qGC TP 169 (.agg [.int .u8 x,.int .u8 y]) (.agg [.int .u8 z,.int .u8 w])=cond (eqI x z) (cond (eqI y w) (some true) (some false)) (some false):=by kernel_rfl
 rw[this,qEs,qEs]
 by_cases h1:x=z
 ·by_cases h2:y=w
  ·simp[h1,h2]
  ·have e2:(y == w)=false:=beq_eq_false_iff_ne.2 h2
   simp[h1,h2,e2]
 ·have e1:(x == z)=false:=beq_eq_false_iff_ne.2 h1
  simp[h1,e1]
abbrev us(l:List Int):List AV:=l.map (AV.int .u32)
theorem qAv{s s':Hq}(k:Sub s s'){b:Nat}(h:s' b=none):s b=none:=by
 cases q:s b with
 |none=>rfl
 |some y=>rw[k _ _ q]at h;cases h
variable {a:Nat}
theorem add1(h:a<=1000000):qAB .add (.int .i64 (a:Int)) (.int .i64 1)=some (.int .i64 ((a+1:Nat):Int)):=by rw[qAN,qAV (by omega) (by omega)];rfl
end Go.AM.SG
namespace Go.AM.SG
open Go Go.AM Go.Proofs
variable {K:AV→Hq→Prop} {s s' s0:Hq}
structure Cm where
 (b0 b1 b2 b3 b4 b5 b6 b7:Nat)
def Cm.ok(c:Cm):Prop:=c.b0<256/\c.b1<256/\c.b2<256/\c.b3<256/\c.b4<256/\c.b5<256/\c.b6<256/\c.b7<256
abbrev u8(n:Nat):AV:=.int .u8 (n:Int)
def cmR(c:Cm):List AV:=[u8 c.b0,u8 c.b1,u8 c.b2,u8 c.b3,u8 c.b4,u8 c.b5,u8 c.b6,u8 c.b7]
abbrev heads:List (Nat×Nat):=[(0,2),(3,12),(6,0),(6,1),(6,2),(6,3),(6,6)]
abbrev hdN(i:Nat):Nat×Nat:=heads.getD i (0,0)
def qOJ(c:Cm):Nat:=match heads.findIdx? λh=>decide (h.1=c.b0/\h.2=c.b1)with
 |some i=>i+1
 |none=>0
theorem zABA{c:Cm}{i:Nat}(hi:i<7)(h:(hdN i).1=c.b0/\(hdN i).2=c.b1)(hn:∀j,j<i->¬((hdN j).1=c.b0/\(hdN j).2=c.b1)):qOJ c=i+1:=by
 unfold qOJ;have:heads.findIdx? (λh=>decide (h.1=c.b0/\h.2=c.b1))=some i:=by
  rw[List.findIdx?_eq_some_iff_getElem];have e:∀j (hj:j<heads.length),heads[j]=hdN j:=λj hj=>by show heads[j]=heads[j]?.getD (0,0);rw[gEY hj];rfl
  refine⟨hi,?_,λj hj=>?_⟩
  ·rw[e];simpa using h
  ·rw[e];simpa using hn j hj
 rw[this]
theorem zAAu{c:Cm}(hn:∀j,j<7->¬((hdN j).1=c.b0/\(hdN j).2=c.b1)):qOJ c=0:=by
 unfold qOJ;have:heads.findIdx? (λh=>decide (h.1=c.b0/\h.2=c.b1))=none:=by
  rw[List.findIdx?_eq_none_iff];intro h hh;obtain⟨j,hj,rfl⟩:=List.mem_iff_getElem.1 hh;have e:heads[j]=hdN j:=by show heads[j]=heads[j]?.getD (0,0);rw[gEY hj];rfl
  rw[e];simpa using hn j hj
 rw[this]
theorem qRT{i:Nat}(hi:i<7):qOV 7 3 (some 3) (.agg kindsL) (.int .i64 (i:Int))=some (.agg [.int .i64 ((i+1:Nat):Int),u8 (hdN i).1,u8 (hdN i).2]):=by
 have:i=0∨i=1∨i=2∨i=3∨i=4∨i=5∨i=6:=by omega
 rcases this with rfl|rfl|rfl|rfl|rfl|rfl|rfl<;>rfl
def GlK(s:Hq):Prop:=∃t,s 0=some (t,.glob 0 (.agg kindsL))
theorem GlK.sub(h:GlK s)(k:Sub s s'):GlK s':=by obtain⟨t,h⟩:=h;exact⟨t,k _ _ h⟩
theorem GlK.rd(h:GlK s):gldN s 21 0=some kindsL:=by obtain⟨t,h⟩:=h;unfold gldN;rw[h];rfl
def zAEx(s0:Hq)(c:Cm)(b:Nat):List AV->Hq->Nat->Prop:=λys t m=>
 ∃i:Nat,ys=[.int .i64 (i:Int)]/\i<=7/\Sub s0 t/\(∃w,t b=some (w,.cells 129 (cmR c)))/\(∀j,j<i->¬((hdN j).1=c.b0/\(hdN j).2=c.b1))/\m=7-i
theorem zABI{c:Cm}(h:GlK s)(hK:∀s',Sub s s'->K (.int .i64 (qOJ c:Int)) s'):wC TP XX 64 [.agg (cmR c)] K s:=by
 refine qNK ⟨rfl,qAK λb s1 hb h1 u1=>?_⟩;have sub1:=u1.sub hb;simp only[(h.sub sub1).rd,qAA];refine⟨zAEx s c b,⟨_,0,rfl,by omega,sub1,⟨_,h1⟩,λj hj=>by omega,rfl⟩,?_⟩;rintro e t m ⟨i,hy,hi,st,⟨w,hw⟩,hn,rfl⟩;simp only[cI,and_true]at hy;rw[hy];simp only[qIe,qAQ,qAA];refine qAE (λhlt=>?_) (λhge=>?_)
 rotate_left
 ·have:i=7:=by have:=oF hge;omega
  subst this;have:=hK t st;rw[zAAu hn]at this;exact this
 have hlt:i<7:=by have:=oT hlt;omega
 simp only[qRT hlt,qAA];refine qAK λg s2 hg h2 u2=>?_;refine qAT h2 rfl rfl rfl λs3 h3 u3=>?_;have sub3:Sub t s3:=λj e hj=>by have ne:=qDG hg hj;rw[u3 j ne,u2 j ne];exact hj
 have r1:rdN s3 2 (.ptr g 1)=some [u8 (hdN i).1,u8 (hdN i).2]:=by simp only[rdN,h3];rfl
 have hb3:=sub3 _ _ hw;have r2:qFw s3 8 1 (.ptr b 0) none (some (.int .i64 2)) none=some (.slc b 0 2 (some 8) 1):=by simp only[qFw,hb3];rfl
 have r3:qZi 2 (.slc b 0 2 (some 8) 1)=some (.ptr b 0):=rfl;have r4:rdN s3 2 (.ptr b 0)=some [u8 c.b0,u8 c.b1]:=by simp only[rdN,hb3];rfl
 have r5:rd1 s3 (.ptr g 0)=some (.int .i64 ((i+1:Nat):Int)):=by rw[qAL h3];rfl
 simp only[qAG,zA,r1,r2,r3,r4,r5,zAE2,qAX,Bool.false_bne,qAA];have ec:decide (((hdN i).1:Int)=(c.b0:Int)/\((hdN i).2:Int)=(c.b1:Int))=decide ((hdN i).1=c.b0/\(hdN i).2=c.b1):=by simp only[Int.natCast_inj]
 rw[ec];refine qAE (λhc=>?_) (λhc=>?_)
 ·have:=hK s3 (st.trans sub3)
  rw[zABA hlt (oT hc) hn]at this;exact this
 ·have hc:=oF hc
  simp only[add1 (show i<=1000000 by omega),qAA];refine⟨_,by omega,i+1,rfl,by omega,st.trans sub3,⟨w,hb3⟩,λj hj=>?_,rfl⟩
  by_cases e:j=i
  ·rw[e];exact hc
  ·exact hn j (by omega)
end Go.AM.SG
namespace Go.AM.SG
open Go Go.AM Go.Proofs
variable {c:Cm} {l:List Cm}
def cb(c:Cm):List Nat:=[c.b0,c.b1,c.b2,c.b3,c.b4,c.b5,c.b6,c.b7]
theorem zADn(h:c.ok):∀x∈cb c,x<256:=λx hx=>by obtain⟨h0,h1,h2,h3,h4,h5,h6,h7⟩:=h;simp only[cb,List.mem_cons,List.not_mem_nil,or_false]at hx;rcases hx with rfl|rfl|rfl|rfl|rfl|rfl|rfl|rfl<;>assumption
def nv(l:List Nat):Nat:=l.foldl (λn x=>n*256+x) 0
theorem zAAw{l:List Nat}{x:Nat}:nv (l ++ [x])=nv l*256+x:=by simp[nv,List.foldl_append]
theorem zAEA:∀{l:List Nat},(∀x∈l,x<256)->nv l<256^l.length:=by
 have key:∀(l:List Nat) (a:Nat),(∀x∈l,x<256)->l.foldl (λn x=>n*256+x) a<(a+1)*256^l.length:=by
  intro l
  induction l with
  |nil=>intro a _;simp
  | cons x l ih=>
    intro a h;have:=ih (a*256+x) λy hy=>h y (mO _ hy);have hx:=h x List.mem_cons_self;have e:(a*256+x+1)*256^l.length<=((a+1)*256)*256^l.length:=Nat.mul_le_mul_right _ (by omega);rw[List.foldl_cons,List.length_cons,Nat.pow_succ',<- Nat.mul_assoc];exact Nat.lt_of_lt_of_le this e
 intro l h;have:=key l 0 h;simpa [nv]using this
theorem qZY{l:List Nat}(h:∀x∈l,x<256)(hl:l.length<=6):nv l<281474976710656:=
 Nat.lt_of_lt_of_le (zAEA h) (Nat.pow_le_pow_right (n:=256) (by omega) hl)
theorem digit{a x:Nat}(ha:a<281474976710656)(hx:x<256):qCj .shl (.int .u64 (a:Int)) (.int .u64 8)=some (.int .u64 ((a*256:Nat):Int))/\qB6 .u64 (u8 x)=some (.int .u64 (x:Int))/\qAB .or (.int .u64 ((a*256:Nat):Int)) (.int .u64 (x:Int))=some (.int .u64 ((a*256+x:Nat):Int))/\qAB .add (.int .u64 ((a*256:Nat):Int)) (.int .u64 (x:Int))=some (.int .u64 ((a*256+x:Nat):Int)):=
 ⟨zACT (by omega),qWu hx,zAD9 hx (by omega),zAB5 (by omega)⟩
end Go.AM.SG
namespace Go.AM.SG
open Go Go.AM Go.Proofs
variable {s s' s0:Hq} {v w p q m:AV}
structure Es where
 (x0 x1 x2 x3 x4 x5 x6 x7 x8 x9:Int)
def Es.R(x:Es):List AV:=[.int .u8 x.x0,.int .u8 x.x1,.int .u8 x.x2,.int .u8 x.x3,.int .u8 x.x4,.int .u8 x.x5,.int .u8 x.x6,.int .u8 x.x7,.int .u8 x.x8,.int .u8 x.x9]
structure Rt where
 (kd rd:Int) (es:Es) (tag mac ip:Int) (hip:Bool) (px pl gw la lb og nx:Int) (hm:Bool) (md:Int) (hp:Bool) (pf:Int) (ho:Bool) (orr tk tl tr tg pe:Int) (st:Bool)
 (path cl:List Int) (cm:List Cm)
def Rt.N(r:Rt):List AV:=.int .i64 r.kd :: .int .u64 r.rd::(r.es.R ++ [.int .u32 r.tag,.int .u64 r.mac,.int .u32 r.ip,.bool r.hip,.int .u32 r.px,.int .i64 r.pl,.int .u32 r.gw,.int .u32 r.la,.int .u32 r.lb])
def Rt.T(r:Rt):List AV:=[.int .i64 r.tk,.int .u32 r.tl,.int .u32 r.tr,.int .u32 r.tg]
def Rt.A(r:Rt)(p q m:AV):List AV:=[.int .i64 r.og,p,.int .u32 r.nx,.bool r.hm,.int .u32 r.md,.bool r.hp,.int .u32 r.pf,.bool r.ho,.int .u32 r.orr,q,m,.int .i64 r.tk,.int .u32 r.tl,.int .u32 r.tr,.int .u32 r.tg]
def Rt.row(r:Rt)(p q m:AV):List AV:=r.N++(r.A p q m ++ [.int .u32 r.pe,.bool r.st])
theorem Rt.row_len(r:Rt):(r.row p q m).length=38:=rfl
theorem Rt.row_one(r:Rt)(h1:p.one=true)(h2:q.one=true)(h3:m.one=true):qAZ (r.row p q m)=true:=by show(p.one&&(q.one&&(m.one&&true)))=true;rw[h1,h2,h3];rfl
structure RtAt(s:Hq)(r:Rt)(p q m:AV):Prop where
 pa:Sl s p (us r.path)
 cl:Sl s q (us r.cl)
 cm:SlR 8 s m (r.cm.map cmR)
theorem RtAt.sub{r:Rt}(h:RtAt s r p q m)(k:Sub s s'):RtAt s' r p q m:=⟨h.pa.sub k,h.cl.sub k,h.cm.sub k⟩
theorem RtAt.one{r:Rt}(h:RtAt s r p q m):qAZ (r.row p q m)=true:=r.row_one h.pa.one h.cl.one h.cm.one
structure Frs(s:Hq)(r:Rt)(p q m:AV):Prop where
 pa:∀i o n c,p=.slc i o n c 1->us r.path≠[]->s i=none
 cl:∀i o n c,q=.slc i o n c 1->us r.cl≠[]->s i=none
 cm:∀i o n c,m=.slc i o n c 8->r.cm.map cmR≠[]->s i=none
theorem Frs.old{r:Rt}(h:Frs s' r p q m)(k:Sub s s'):Frs s r p q m:=
 ⟨λi o n c e z=>qAv k (h.pa i o n c e z),λi o n c e z=>qAv k (h.cl i o n c e z),λi o n c e z=>qAv k (h.cm i o n c e z)⟩
theorem RtAt.keep{r:Rt}{fp:Nat->Prop}(h:RtAt s r p q m)(kb:qAf fp s s')(hf:Frs s0 r p q m)(hp:∀i,fp i->s0 i≠none):RtAt s' r p q m:=
 ⟨h.pa.keep kb λi o n c e z w=>hp i w (hf.pa i o n c e z),h.cl.keep kb λi o n c e z w=>hp i w (hf.cl i o n c e z),h.cm.keep kb λi o n c e z w=>hp i w (hf.cm i o n c e z)⟩
def Rt.ok(r:Rt):Prop:=(∀c∈r.cm,c.ok)/\r.path.length<=20/\r.cl.length<=20/\r.cm.length<=20
def Rts(s:Hq)(v:AV)(R:List Rt):Prop:=∃rows:List (List AV),SlR 38 s v rows/\rows.length=R.length/\∀(i:Nat) (r:Rt),R[i]?=some r->∃p q m,rows[i]?=some (r.row p q m)/\RtAt s r p q m
theorem Rts.sub{R:List Rt}(h:Rts s v R)(k:Sub s s'):Rts s' v R:=by obtain⟨rows,h1,h2,h3⟩:=h;refine⟨rows,h1.sub k,h2,λi r hi=>?_⟩;obtain⟨p,q,m,q1,q2⟩:=h3 i r hi;exact⟨p,q,m,q1,q2.sub k⟩
theorem Rts.len{R:List Rt}(h:Rts s v R):qAP v=some R.length:=by obtain⟨rows,h1,h2,_⟩:=h;rw[h1.len,h2]
theorem Rts.get{R:List Rt}(h:Rts s v R){i:Nat}{r:Rt}(hi:R[i]?=some r):∃b o p q m,qAH 38 v (.int .i64 (i:Int))=some (.ptr b o)/\rdN s 38 (.ptr b o)=some (r.row p q m)/\(∀j,j<38->rd1 s (.ptr b (o+j))=(r.row p q m)[j]?)/\RtAt s r p q m:=by obtain⟨rows,h1,h2,h3⟩:=h;obtain⟨p,q,m,q1,q2⟩:=h3 i r hi;obtain⟨b,o,e1,e2,e3⟩:=h1.get q1;exact⟨b,o,p,q,m,e1,e2,e3,q2⟩
end Go.AM.SG
namespace Go.AM.FD
def insL(x:Int):List Int->List Int
 |[]=>[x]
 |a::l=>if a=x then a::l else if x<a then x::a::l else a::insL x l
theorem insL_mem{x y:Int}:∀{l:List Int},y∈insL x l↔y=x∨y∈l
 |[]=>by simp[insL]
 | a::l=>by
   unfold insL;split
   ·rename_i h;subst h;simp
   ·split
    ·simp
    ·rw[List.mem_cons,insL_mem,List.mem_cons]
     constructor
     ·rintro (h|h|h)
      ·exact .inr (.inl h)
      ·exact .inl h
      ·exact .inr (.inr h)
     ·rintro (h|h|h)
      ·exact .inr (.inl h)
      ·exact .inl h
      ·exact .inr (.inr h)
theorem qPF{x:Int}:∀{l:List Int},l.Pairwise (· < ·)->(insL x l).Pairwise (· < ·)
 |[],_=>by simp[insL]
 | a::l,h=>by
   obtain⟨h1,h2⟩:=List.pairwise_cons.1 h;unfold insL;split
   ·exact h
   ·split
    ·rename_i hx
     refine List.pairwise_cons.2 ⟨λy hy=>?_,h⟩;rcases mC hy with rfl|hy
     ·exact hx
     ·have:=h1 y hy;omega
    ·rename_i h3 h4
     refine List.pairwise_cons.2 ⟨λy hy=>?_,qPF h2⟩;rcases insL_mem.1 hy with rfl|hy
     ·omega
     ·exact h1 y hy
theorem insL_len{x:Int}:∀{l:List Int},(insL x l).length<=l.length+1
 |[]=>by simp[insL]
 | a::l=>by
   unfold insL;split
   ·simp
   ·split
    ·simp
    ·have:=insL_len (x:=x) (l:=l)
     simp only[List.length_cons];omega
theorem asc_ext:∀{a b:List Int},a.Pairwise (· < ·)->b.Pairwise (· < ·)->(∀y,y∈a↔y∈b)->a=b
 |[],[],_,_,_=>rfl
 |[],y::b,_,_,h=>by have:=(h y).2 List.mem_cons_self;cases this
 |x::a,[],_,_,h=>by have:=(h x).1 List.mem_cons_self;cases this
 | x::a,y::b,ha,hb,h=>by
   obtain⟨a1,a2⟩:=List.pairwise_cons.1 ha;obtain⟨b1,b2⟩:=List.pairwise_cons.1 hb;have e:x=y:=by
    rcases mC ((h x).1 List.mem_cons_self)with e|e
    ·exact e
    ·rcases mC ((h y).2 List.mem_cons_self)with e2|e2
     ·exact e2.symm
     ·have:=a1 y e2;have:=b1 x e;omega
   subst e
   congr 1
   refine asc_ext a2 b2 λz=>⟨λhz=>?_,λhz=>?_⟩
   ·rcases mC ((h z).1 (mO _ hz))with e|e
    ·have:=a1 z hz;omega
    ·exact e
   ·rcases mC ((h z).2 (mO _ hz))with e|e
    ·have:=b1 z hz;omega
    ·exact e
section
variable {ρ : Type} (fl : ρ → Bool) (nx : ρ → Int)
def peersL(R:List ρ):List Int:=R.foldl (λp r=>if fl r then insL (nx r) p else p) []
theorem peers_fold:∀(R:List ρ) (p:List Int),p.Pairwise (· < ·)->(R.foldl (λp r=>if fl r then insL (nx r) p else p) p).Pairwise (· < ·)/\∀y,y∈R.foldl (λp r=>if fl r then insL (nx r) p else p) p↔y∈p∨∃r∈R,fl r=true/\nx r=y
 |[],p,h=>⟨h,λy=>by simp⟩
 | r::R,p,h=>by
   rw[List.foldl_cons];have hp:(if fl r then insL (nx r) p else p).Pairwise (· < ·):=by
    split
    ·exact qPF h
    ·exact h
   obtain⟨a,b⟩:=peers_fold R _ hp;refine⟨a,λy=>(b y).trans ?_⟩
   by_cases c:fl r=true
   ·rw[if_pos c,insL_mem]
    constructor
    ·rintro ((e|e)|⟨q,q1,q2⟩)
     ·exact .inr ⟨r,List.mem_cons_self,c,e.symm⟩
     ·exact .inl e
     ·exact .inr ⟨q,mO _ q1,q2⟩
    ·rintro (e|⟨q,q1,q2,q3⟩)
     ·exact .inl (.inr e)
     ·rcases mC q1 with rfl|q1
      ·exact .inl (.inl q3.symm)
      ·exact .inr ⟨q,q1,q2,q3⟩
   ·rw[if_neg c]
    constructor
    ·rintro (e|⟨q,q1,q2⟩)
     ·exact .inl e
     ·exact .inr ⟨q,mO _ q1,q2⟩
    ·rintro (e|⟨q,q1,q2,q3⟩)
     ·exact .inl e
     ·rcases mC q1 with rfl|q1
      ·exact absurd q2 c
      ·exact .inr ⟨q,q1,q2,q3⟩
theorem peersL_asc(R:List ρ):(peersL fl nx R).Pairwise (· < ·):=(peers_fold fl nx R [] .nil).1
end
end Go.AM.FD
namespace Go.AM.FD
theorem insL_at{x:Int}:∀{l:List Int}{k:Nat},k<=l.length->(∀(i:Nat) (h:i<l.length),i<k->l[i]<x)->(∀h:k<l.length,x<l[k])->insL x l=l.take k++x::l.drop k
 |[],k,hk,_,_=>by simp[insL]
 | a::l,0,_,_,h=>by
   have h:=h (Nat.zero_lt_succ _);have h:x<a:=h;unfold insL;rw[if_neg (by omega),if_pos h];rfl
 | a::l,k+1,hk,h1,h2=>by
   have h0:a<x:=h1 0 (Nat.zero_lt_succ _) (Nat.zero_lt_succ _);have hk:k<=l.length:=Nat.le_of_succ_le_succ hk;unfold insL;rw[if_neg (by omega),if_neg (by omega),insL_at hk (λi hi hik=>h1 (i+1) (Nat.succ_lt_succ hi) (Nat.succ_lt_succ hik)) (λh=>h2 (Nat.succ_lt_succ h))];rfl
theorem insL_eq{x:Int}:∀{l:List Int}{k:Nat}(hk:k<l.length),(∀(i:Nat) (h:i<l.length),i<k->l[i]<x)->l[k]=x->insL x l=l
 | a::l,0,_,_,h=>by
   have h:a=x:=h;unfold insL;rw[if_pos h]
 | a::l,k+1,hk,h1,h2=>by
   have h0:a<x:=h1 0 (Nat.zero_lt_succ _) (Nat.zero_lt_succ _);have hk:k<l.length:=Nat.lt_of_succ_lt_succ hk;unfold insL;rw[if_neg (by omega),if_neg (by omega),insL_eq hk (λi hi hik=>h1 (i+1) (Nat.succ_lt_succ hi) (Nat.succ_lt_succ hik)) h2]
def insAll(l:List Int):List Int:=l.foldl (λp x=>insL x p) []
theorem qKG:∀(l p:List Int),p.Pairwise (· < ·)->(l.foldl (λp x=>insL x p) p).Pairwise (· < ·)/\∀y,y∈l.foldl (λp x=>insL x p) p↔y∈p∨y∈l
 |[],p,h=>⟨h,λy=>by simp⟩
 | x::l,p,h=>by
   rw[List.foldl_cons];obtain⟨a,b⟩:=qKG l _ (qPF (x:=x) h);refine⟨a,λy=>(b y).trans ?_⟩;rw[insL_mem,List.mem_cons];constructor
   ·rintro ((e|e)|e)
    ·exact .inr (.inl e)
    ·exact .inl e
    ·exact .inr (.inr e)
   ·rintro (e|e|e)
    ·exact .inl (.inr e)
    ·exact .inl (.inl e)
    ·exact .inr e
theorem insAll_asc(l:List Int):(insAll l).Pairwise (· < ·):=(qKG l [] .nil).1
theorem qUj(l:List Int)(y:Int):y∈insAll l↔y∈l:=by rw[insAll,(qKG l [] .nil).2 y];simp
theorem insAll_len(l:List Int):(insAll l).length<=l.length:=by
 have:∀(l p:List Int),(l.foldl (λp x=>insL x p) p).length<=p.length+l.length:=by
  intro l
  induction l with
  |nil=>intro p;simp
  | cons x l ih=>
    intro p;rw[List.foldl_cons];have:=ih (insL x p);have:=insL_len (x:=x) (l:=p);simp only[List.length_cons];omega
 have:=this l [];unfold insAll;simpa using this
theorem insAll_eq{l a:List Int}(h:a.Pairwise (· < ·))(hm:∀y,y∈a↔y∈l):a=insAll l:=asc_ext h (insAll_asc l) λy=>(hm y).trans (qUj l y).symm
end Go.AM.FD
namespace Go.AM.FD
def carB(S:List (List Int×List Int))(leaf bd:Int):Bool:=S.any λx=>decide (leaf∈x.1)&&decide (bd∈x.2)
theorem carB_iff{S:List (List Int×List Int)}{leaf bd:Int}:carB S leaf bd=true↔∃x∈S,leaf∈x.1/\bd∈x.2:=by unfold carB;rw[List.any_eq_true];simp
def keyB(S:List (List Int×List Int))(T:Int->Int)(leaf t:Int):Prop:=∃x∈S,leaf∈x.1/\∃bd∈x.2,T bd=t
theorem keyB_iff{S:List (List Int×List Int)}{T:Int->Int}{leaf bd n:Int}(hT:∀a b,0<=a->a<n->0<=b->b<n->T a=T b->a=b)(hS:∀x∈S,∀b∈x.2,0<=b/\b<n)(h0:0<=bd)(hn:bd<n):keyB S T leaf (T bd)↔carB S leaf bd=true:=by
 rw[carB_iff];constructor
 ·rintro ⟨x,hx,hl,b,hb,e⟩
  obtain⟨b0,bn⟩:=hS x hx b hb;exact⟨x,hx,hl,hT b bd b0 bn h0 hn e ▸ hb⟩
 ·rintro ⟨x,hx,hl,hb⟩
  exact⟨x,hx,hl,bd,hb,rfl⟩
section
variable {ρ : Type} (fl : ρ → Bool) (tg : ρ → List Int) (nx : ρ → Int) (tk : ρ → Bool)
def flT(t:Int)(r:ρ):Bool:=fl r&&decide (t∈tg r)
def treeT(R:List ρ)(t:Int):Bool:=R.any λr=>flT fl tg t r&&tk r
def fldL(S:List (List Int×List Int))(nB:Nat)(T:Int->Int)(leaf:Int)(trees:Bool)(R:List ρ):List (Nat×List Int×Int):=
 (List.range nB).filterMap λ(i:Nat)=>if carB S leaf (i:Int)then some ((i:Nat),peersL (flT fl tg (T (i:Int))) nx R,if trees&&treeT fl tg tk R (T (i:Int))then 4009754625+(i:Int)else 0)else none
theorem treeT_snoc(R:List ρ)(r:ρ)(t:Int):treeT fl tg tk (R ++ [r]) t=(treeT fl tg tk R t||(flT fl tg t r&&tk r)):=by unfold treeT;simp[List.any_append]
theorem peers_snoc(t:Int)(R:List ρ)(r:ρ):peersL (flT fl tg t) nx (R ++ [r])=if flT fl tg t r then insL (nx r) (peersL (flT fl tg t) nx R)else peersL (flT fl tg t) nx R:=by unfold peersL;rw[List.foldl_append];rfl
end
end Go.AM.FD
namespace Go.AM.EL
open Go Go.Proofs
end Go.AM.EL
namespace Go.AM.EL
open Go Go.Proofs
end Go.AM.EL
namespace Go.AM.EL
open Go Go.Proofs
end Go.AM.EL
namespace Go.AM.EL
open Go Go.Proofs
end Go.AM.EL
namespace Go.AM.SG
open Go Go.AM Go.Proofs
section
variable (P : Program)
end
end Go.AM.SG
namespace Go.AM.SG
open Go Go.AM Go.Proofs
set_option maxRecDepth 100000
end Go.AM.SG
