/- Part K of the proof: see the last part. -/
import Derived.Test.YtjheoaemhdpoeaaGreatDoorV2
import Derived.Test.YtjheoaemhdpoeaaGreatDoorV
import Derived.Test.YtjheoaemhdpoeaaGreatDoorG
import Derived.Test.YtjheoaemhdpoeaaGreatDoorU2
set_option linter.unusedVariables false
namespace Go.AM.SG.W
open Go Go.AM Go.Proofs
variable {u0:Bool} {K:AV→Hq→Prop} {s s':Hq} {db:Nat} {l l' l1 l2:List Int} {a b i j k:Nat}
abbrev KB(db:Nat)(s s':Hq):Prop:=qAf (λb=>b=db) s s'
def UAt(u0:Bool)(s:Hq)(db:Nat)(l:List Int):Prop:=s db=some (false,.cells (cond u0 42 41) (us l))
abbrev uV(db n:Nat):AV:=.slc db 0 n none 1
theorem u_ad(hi:i<k):qAH 1 (uV db k) (.int .i64 (i:Int))=some (.ptr db i):=by
 have:Nat.blt i k=true:=by rw[Nat.blt_eq];exact hi
 simp[qAH,this]
theorem UAt.rd(h:UAt u0 s db l)(hi:i<l.length):rd1 s (.ptr db i)=some (.int .u32 (nAt l i)):=by rw[qAL h,List.getElem?_map,nAt_get? hi];rfl
theorem UAt.put(h:UAt u0 s db l){x:Int}{R:Hq->Prop}(hi:i<l.length)(hR:∀s',UAt u0 s' db (l.set i x)->Upto db s s'->R s'):oK (wr1 s (.ptr db i) (.int .u32 x)) R:=by
 have h:s db=some (false,.cells (cond u0 42 41) (us l)):=h;have e1:Nat.blt i (us l).length=true:=by rw[Nat.blt_eq,lMY];exact hi
 have e2:wr1 s (.ptr db i) (.int .u32 x)=some (hset s db (false,.cells (cond u0 42 41) (us (l.set i x)))):=by simp only[wr1,h,e1,us,List.map_set];rfl
 exact qAD e2 (hR _ qBa λ_ hi=>qAx hi)
theorem UAt.swap(h:UAt u0 s db l){R:Hq->Prop}(hi:i<l.length)(hj:j<l.length)(hR:∀s',UAt u0 s' db (swN l i j)->Upto db s s'->R s'):
  oK (wr1 s (.ptr db i) (.int .u32 (nAt l j))) λs1=>oK (wr1 s1 (.ptr db j) (.int .u32 (nAt l i))) R:=
 h.put hi λs1 h1 u1=>h1.put (by simpa using hj) λs2 h2 u2=>hR s2 h2 λk hk=>by rw[u2 k hk,u1 k hk]
theorem UAt.sub(h:UAt u0 s db l)(k:Sub s s'):UAt u0 s' db l:=k _ _ h
theorem sub1(h:1<=a)(h2:a<=1000000):qAB .sub (.int .i64 (a:Int)) (.int .i64 1)=some (.int .i64 ((a-1:Nat):Int)):=by rw[qBs,qAV (by omega) (by omega),show(a:Int)-1=((a-1:Nat):Int)by omega]
theorem addN(h:a+b<=1000000):qAB .add (.int .i64 (a:Int)) (.int .i64 (b:Int))=some (.int .i64 ((a+b:Nat):Int)):=by rw[qAN,qAV (by omega) (by omega)];rfl
theorem subN(h:b<=a)(h2:a<=1000000):qAB .sub (.int .i64 (a:Int)) (.int .i64 (b:Int))=some (.int .i64 ((a-b:Nat):Int)):=by rw[qBs,qAV (by omega) (by omega),show(a:Int)-b=((a-b:Nat):Int)by omega]
theorem qE3{x y:Int}(hK:K (.bool (decide (x<y))) s):wC Tryz.prog (XG u0) (cond u0 152 141) [.int .u32 x,.int .u32 y] K s:=by refine qIY (qH1 ?_);simp only[qFx,qAa,qAX,beq_self_eq_true,Bool.true_bne,Bool.not_true,qAA,qAO,qDh,qAU,qAQ,qDe];exact hK
structure Ins(a i j:Nat)(l:List Int):Prop where
 oth:∀p q,a<=p->p<q->q<=i->p≠j->q≠j->nAt l p<=nAt l q
 up:∀q,j<q->q<=i->nAt l j<=nAt l q
theorem Ins.start(h:Asc a i l):Ins a i i l:=⟨λp q h1 h2 h3 _ h5=>h p q h1 h2 (by omega),λq h1 h2=>by omega⟩
theorem Ins.step(h:Ins a i j l)(h1:a<j)(h2:j<=i)(h3:i<l.length)(c:nAt l j<nAt l (j-1)):Ins a i (j-1) (swN l j (j-1)):=by
 have at_:∀k,nAt (swN l j (j-1)) k=if k=j-1 then nAt l j else if k=j then nAt l (j-1)else nAt l k:=λk=>qHk (by omega) (by omega)
 refine⟨λp q k1 k2 k3 k4 k5=>?_,λq k1 k2=>?_⟩
 ·rw[at_ p,at_ q,if_neg k4,if_neg k5]
  by_cases e1:q=j
  ·rw[if_pos e1,if_neg (by omega)]
   exact h.oth p (j-1) k1 (by omega) (by omega) (by omega) (by omega)
  ·rw[if_neg e1]
   by_cases e2:p=j
   ·rw[if_pos e2]
    exact h.oth (j-1) q (by omega) (by omega) k3 (by omega) e1
   ·rw[if_neg e2]
    exact h.oth p q k1 k2 k3 e2 e1
 ·rw[at_ (j-1),at_ q,if_pos rfl,if_neg (by omega)]
  by_cases e1:q=j
  ·rw[if_pos e1];omega
  ·rw[if_neg e1];exact h.up q (by omega) k2
theorem Ins.done(h:Ins a i j l)(h1:a<=j)(c:j=a∨nAt l (j-1)<=nAt l j):Asc a (i+1) l:=by
 intro p q k1 k2 k3
 by_cases e1:p=j
 ·subst e1;exact h.up q k2 (by omega)
 ·by_cases e2:q=j
  ·subst e2
   rcases c with c|c
   ·omega
   ·by_cases e3:p=q-1
    ·rw[e3];exact c
    ·exact Int.le_trans (h.oth p (q-1) k1 (by omega) (by omega) e1 (by omega)) c
  ·exact h.oth p q k1 k2 (by omega) e1 e2
theorem zABv(h:UAt u0 s db l)(hk:k=l.length)(hl:k<=100000)(hab:a<=b)(hb:b<=l.length)(hK:∀s' l',UAt u0 s' db l'->PI a b l l'->Asc a b l'->KB db s s'->K (.tup []) s'):
  wC Tryz.prog (XG u0) (cond u0 146 135) [uV db k,.int .i64 (a:Int),.int .i64 (b:Int)] K s:=by
 refine qCY ?_;simp only[qC6,add1 (show a<=1000000 by omega),qAA];refine⟨λys t m=>∃(i:Nat) (l1:List Int),ys=[.int .i64 (i:Int)]/\UAt u0 t db l1/\PI a b l l1/\Asc a i l1/\KB db s t/\a<i/\(i<=b∨i=a+1)/\m=b+1-i,⟨_,a+1,l,rfl,h,.refl _ _ _,λp q _ _ _=>by omega,.refl _ _,by omega,.inr rfl,rfl⟩,?_⟩;rintro f t m ⟨i,l1,hy,h1,pi,asc,kp,c1,c2,rfl⟩;simp only[cI,and_true]at hy;rw[hy];simp only[qCX,qAQ,qAA];refine qAE (λhlt=>?_) (λhge=>?_)
 rotate_left
 ·have hge:b<=i:=by have:=oF hge;omega
  exact hK t l1 h1 pi (λp q q1 q2 q3=>asc p q q1 q2 (by omega)) kp
 have hlt:i<b:=by have:=oT hlt;omega
 have hn:=pi.len;refine⟨λys t m=>∃(j:Nat) (l2:List Int),ys=[.int .i64 (j:Int)]/\UAt u0 t db l2/\PI a b l l2/\Ins a i j l2/\KB db s t/\a<=j/\j<=i/\m=j,⟨_,i,l1,rfl,h1,pi,.start asc,kp,by omega,by omega,rfl⟩,?_⟩;rintro f t2 c ⟨j,l2,hy2,h2,pi2,ins,kp2,d1,d2,hcm⟩;simp only[cI,and_true]at hy2;rw[hy2];have hn2:=pi2.len;have next:(j=a∨nAt l2 (j-1)<=nAt l2 j)->oK (qAB .add (.int .i64 (i:Int)) (.int .i64 1)) λv_15=>∃m',m'<b+1-i/\∃(i:Nat) (l1:List Int),[v_15]=[.int .i64 (i:Int)]/\UAt u0 t2 db l1/\PI a b l l1/\Asc a i l1/\KB db s t2/\a<i/\(i<=b∨i=a+1)/\m'=b+1-i:=λhc=>by simp only[add1 (show i<=1000000 by omega),qAA];exact⟨_,by omega,i+1,l2,rfl,h2,pi2,ins.done d1 hc,kp2,by omega,.inl (by omega),rfl⟩
 simp only[qCW,qBf,qAA];refine qAE (λhp=>?_) (λhp=>?_)
 rotate_left
 ·simp only[qA4,hp,qAU,qAO,qAA]
  exact next (.inl (by have:=oF hp;omega))
 have hp':a<j:=by have:=oT hp;omega
 simp only[sub1 (show 1<=j by omega) (show j<=1000000 by omega),u_ad (show j<k by omega),u_ad (show j-1<k by omega),h2.rd (show j<l2.length by omega),h2.rd (show j-1<l2.length by omega),qAA];refine qE3 ?_;simp only[qA4,hp,qAc,qAA];refine qAE (λhc=>?_) (λhc=>?_)
 ·simp only[sub1 (show 1<=j by omega) (show j<=1000000 by omega),u_ad (show j<k by omega),u_ad (show j-1<k by omega),h2.rd (show j<l2.length by omega),h2.rd (show j-1<l2.length by omega),qAA]
  refine h2.swap (by omega) (by omega) λs3 h3 u3=>?_;exact⟨_,by omega,j-1,_,rfl,h3,pi2.trans (.sw (by omega) (by omega) (by omega) (by omega) (by omega)),ins.step hp' d2 (by omega) (oT hc),kp2.trans (u3.keep rfl),by omega,by omega,rfl⟩
 ·exact next (.inr (by have:=oF hc;omega))
end Go.AM.SG.W
namespace Go.AM.SG.W
open Go Go.AM Go.Proofs
variable {u0:Bool} {K:AV→Hq→Prop} {s s':Hq} {db:Nat} {l l' l1 l2:List Int} {a b i j k f lo hi:Nat}
def zADt(u0:Bool)(s:Hq)(db:Nat)(l:List Int)(f lo hi:Nat):List AV->Hq->Nat->Prop:=λys t m=>
 ∃(r:Nat) (l1:List Int),ys=[.int .i64 (r:Int)]/\UAt u0 t db l1/\PI f (f+hi) l l1/\HpX f lo hi r l1/\KB db s t/\lo<=r/\r<=100000/\m=hi-r
theorem qVW(h:UAt u0 s db l)(hk:k=l.length)(hl:k<=100000)(hlo:lo<=100000)(hr:Hp f (lo+1) hi l)(hb:f+hi<=l.length)(hK:∀s' l',UAt u0 s' db l'->PI f (f+hi) l l'->Hp f lo hi l'->KB db s s'->K (.tup []) s'):
  wC Tryz.prog (XG u0) (cond u0 183 177) [uV db k,.int .i64 (lo:Int),.int .i64 (hi:Int),.int .i64 (f:Int)] K s:=by
 refine qFn ?_;refine⟨zADt u0 s db l f lo hi,⟨_,lo,l,rfl,h,.refl _ _ _,.start hr,.refl _ _,by omega,hlo,rfl⟩,?_⟩;rintro e t m ⟨r,l1,hy,h1,pi,hx,kp,c1,c2,rfl⟩;simp only[cI,and_true]at hy;rw[hy];have hn:=pi.len;have e1:qAB .mul (.int .i64 2) (.int .i64 (r:Int))=some (.int .i64 ((2*r:Nat):Int)):=by rw[qIn,qAV (by omega) (by omega)];rfl
 simp only[qDW,e1,add1 (show 2*r<=1000000 by omega),qAr,qAA];refine qAE (λhge=>?_) (λhlt=>?_)
 ·have hge:hi<=2*r+1:=by have:=oT hge;omega
  exact hK t l1 h1 pi (hx.leaf hge) kp
 have hlt:2*r+1<hi:=by have:=oF hlt;omega
 have fin:∀ch,Chd r ch->ch<hi->(∀c,Chd r c->c<hi->nAt l1 (f+c)<=nAt l1 (f+ch))->qBU (XG u0) u0 (uV db k) (.int .i64 (f:Int)) (.int .i64 (r:Int)) (.int .i64 (ch:Int)) (zADt u0 s db l f lo hi) (hi-r) K t:=λch q1 q2 q3=>by
  have hrc:r<ch:=by unfold Chd at q1;omega
  simp only[qBU,addN (show f+r<=1000000 by omega),addN (show f+ch<=1000000 by omega),u_ad (show f+r<k by omega),u_ad (show f+ch<k by omega),h1.rd (show f+r<l1.length by omega),h1.rd (show f+ch<l1.length by omega),qAA];refine qE3 ?_;simp only[qAq,qAA];refine qAE (λhc=>?_) (λhc=>?_)
  ·have hc:¬nAt l1 (f+r)<nAt l1 (f+ch):=by simpa using hc
   exact hK t l1 h1 pi (hx.done q3 (by omega)) kp
  ·have hc:nAt l1 (f+r)<nAt l1 (f+ch):=by simpa using hc
   simp only[h1.rd (show f+r<l1.length by omega),h1.rd (show f+ch<l1.length by omega),qAA];refine h1.swap (by omega) (by omega) λs3 h3 u3=>?_;exact⟨_,by omega,ch,_,rfl,h3,pi.trans (.sw (by omega) (by omega) (by omega) (by omega) (by omega)),hx.down (by omega) c1 q1 q2 q3 (by omega),kp.trans (u3.keep rfl),by omega,by omega,rfl⟩
 simp only[add1 (show 2*r+1<=1000000 by omega),qAQ,qAA];refine qAE (λhp=>?_) (λhp=>?_)
 ·have hp':2*r+2<hi:=by have:=oT hp;omega
  simp only[addN (show f+(2*r+1)<=1000000 by omega),add1 (show f+(2*r+1)<=1000000 by omega),u_ad (show f+(2*r+1)<k by omega),u_ad (show f+(2*r+1)+1<k by omega),h1.rd (show f+(2*r+1)<l1.length by omega),h1.rd (show f+(2*r+1)+1<l1.length by omega),qAA];refine qE3 ?_;simp only[qBT,hp,qAc,qAA];refine qAE (λhc=>?_) (λhc=>?_)
  ·have hc:=oT hc
   simp only[add1 (show 2*r+1<=1000000 by omega),qAA];refine fin (2*r+1+1) (.inr rfl) (by omega) λc q1 q2=>?_;rcases q1 with rfl|rfl
   ·rw[show f+(2*r+1+1)=f+(2*r+1)+1 by omega];omega
   ·exact Int.le_refl _
  ·have hc:=oF hc
   refine fin (2*r+1) (.inl rfl) (by omega) λc q1 q2=>?_;rcases q1 with rfl|rfl
   ·exact Int.le_refl _
   ·rw[show f+(2*r+2)=f+(2*r+1)+1 by omega];omega
 ·have hp':¬ 2*r+2<hi:=by have:=oF hp;omega
  simp only[qBT,hp,qAU,qAO,qAA];refine fin (2*r+1) (.inl rfl) (by omega) λc q1 q2=>?_;rcases q1 with rfl|rfl
  ·exact Int.le_refl _
  ·exact absurd q2 hp'
def zACl(u0:Bool)(s:Hq)(db:Nat)(l:List Int)(a b:Nat):List AV->Hq->Nat->Prop:=λys t m=>
 ∃(n:Nat) (l1:List Int),ys=[.int .i64 ((n:Int)-1)]/\UAt u0 t db l1/\PI a b l l1/\Hp a n (b-a) l1/\KB db s t/\n<=100000/\m=n
def zADX(u0:Bool)(s:Hq)(db:Nat)(l:List Int)(a b:Nat):List AV->Hq->Nat->Prop:=λys t m=>
 ∃(n:Nat) (l1:List Int),ys=[.int .i64 ((n:Int)-1)]/\UAt u0 t db l1/\PI a b l l1/\Hp a 0 n l1/\But a b a (a+n) l1/\KB db s t/\a+n<=b/\m=n
theorem zACP(h:UAt u0 s db l)(hk:k=l.length)(hl:k<=100000)(hab:a<b)(hb:b<=l.length)(hK:∀s' l',UAt u0 s' db l'->PI a b l l'->Asc a b l'->KB db s s'->K (.tup []) s'):
  wC Tryz.prog (XG u0) (cond u0 147 136) [uV db k,.int .i64 (a:Int),.int .i64 (b:Int)] K s:=by
 refine qFs ?_;have e1:qAB .quo (.int .i64 ((b-a-1:Nat):Int)) (.int .i64 2)=some (.int .i64 ((((b-a-1) / 2+1:Nat):Int)-1)):=by rw[qM7 (by omega)];have:((b-a-1:Nat):Int).tdiv 2=(((b-a-1) / 2:Nat):Int):=rfl;rw[this,qAV (by omega) (by omega),show((((b-a-1) / 2+1:Nat):Int)-1)=(((b-a-1) / 2:Nat):Int)by omega]
 simp only[qEA,subN (show a<=b by omega) (show b<=1000000 by omega),sub1 (show 1<=b-a by omega) (show b-a<=1000000 by omega),e1,qAA];refine⟨zACl u0 s db l a b,⟨_,(b-a-1) / 2+1,l,rfl,h,.refl _ _ _,.vac,.refl _ _,by omega,rfl⟩,?_⟩;rintro e t m ⟨n,l1,hy,h1,pi,hp,kp,c1,rfl⟩;simp only[cI,and_true]at hy;rw[hy];have hn:=pi.len;simp only[qDX,qAr,qAA];refine qAE (λhge=>?_) (λhlt=>?_)
 ·have hge:1<=m:=by have:=oT hge;omega
  obtain⟨n,rfl⟩:∃n,m=n+1:=⟨m-1,by omega⟩
  have e2:((n+1:Nat):Int)-1=(n:Int):=by omega
  rw[e2];refine qVW h1 (by omega) hl (by omega) hp (by omega) λs2 l2 h2 pi2 hp2 kp2=>?_;have e3:qAB .sub (.int .i64 (n:Int)) (.int .i64 1)=some (.int .i64 ((n:Int)-1)):=by rw[qBs,qAV (by omega) (by omega)]
  simp only[e3,qAA];rw[show a+(b-a)=b by omega]at pi2;exact⟨_,Nat.lt_succ_self n,n,l2,rfl,h2,pi.trans pi2,hp2,kp.trans kp2,by omega,rfl⟩
 have hm:m=0:=by have:=oF hlt;omega
 subst hm;have e4:qAB .sub (.int .i64 ((b-a:Nat):Int)) (.int .i64 1)=some (.int .i64 (((b-a:Nat):Int)-1)):=by rw[qBs,qAV (by omega) (by omega)]
 simp only[e4,qAA];refine⟨zADX u0 s db l a b,⟨_,b-a,l1,rfl,h1,pi,hp,?_,kp,by omega,rfl⟩,?_⟩
 ·rw[show a+(b-a)=b by omega];exact .start
 clear hy hlt e4;rintro e t2 m2 ⟨n,l2,hy,h2,pi2,hp2,but,kp2,c2,hmn⟩;simp only[cI,and_true]at hy;rw[hy];have hn2:=pi2.len;simp only[qDU,qAr,qAA];refine qAE (λhge=>?_) (λhlt=>?_)
 rotate_left
 ·have hm:n=0:=by have:=oF hlt;omega
  subst hm;exact hK t2 l2 h2 pi2 (but.asc λp q _ _ _=>by omega) kp2
 have hge:1<=n:=by have:=oT hge;omega
 obtain⟨n,rfl⟩:∃n',n=n'+1:=⟨n-1,by omega⟩
 have e2:((n+1:Nat):Int)-1=(n:Int):=by omega
 rw[e2];simp only[addN (show a+n<=1000000 by omega),u_ad (show a+n<k by omega),u_ad (show a<k by omega),h2.rd (show a+n<l2.length by omega),h2.rd (show a<l2.length by omega),qAA];refine h2.swap (by omega) (by omega) λs3 h3 u3=>?_;have hn3:(swN l2 a (a+n)).length=l2.length:=zAA2;refine qVW (lo:=0) h3 (by omega) hl (by omega) (hp2.swap (by omega)) (by omega) λs4 l4 h4 pi4 hp4 kp4=>?_;have e3:qAB .sub (.int .i64 (n:Int)) (.int .i64 1)=some (.int .i64 ((n:Int)-1)):=by rw[qBs,qAV (by omega) (by omega)]
 simp only[e3,qAA];refine⟨_,?_,n,l4,rfl,h4,(pi2.trans (.sw (i:=a) (j:=a+n) (by omega) (by omega) (by omega) (by omega) (by omega))).trans (pi4.wide (by omega) (by omega)),hp4,?_,(kp2.trans (u3.keep rfl)).trans kp4,by omega,rfl⟩
 ·omega
 ·exact(but.pop hp2 (by omega) (by omega)).pi (by omega) (by omega) pi4
end Go.AM.SG.W
namespace Go.AM.SG.W
open Go Go.AM Go.Proofs
variable {u0:Bool} {K:AV→Hq→Prop} {s s':Hq} {db g:Nat} {l l' l1:List Int} {a b c i j k lo hi n:Nat}
def RevI(u0:Bool)(s:Hq)(db:Nat)(l:List Int)(a b:Nat):List AV->Hq->Nat->Prop:=λys t m=>
 ∃(i j:Nat) (l1:List Int),ys=[.int .i64 (i:Int),.int .i64 (j:Int)]/\UAt u0 t db l1/\PI a b l l1/\KB db s t/\a<=i/\j<b/\m=j-i
theorem zAC4(h:UAt u0 s db l)(hk:k=l.length)(hl:k<=100000)(hab:a<b)(hb:b<=l.length)(hK:∀s' l',UAt u0 s' db l'->PI a b l l'->KB db s s'->K (.tup []) s'):
  wC Tryz.prog (XG u0) (cond u0 150 139) [uV db k,.int .i64 (a:Int),.int .i64 (b:Int)] K s:=by
 refine qE1 ?_;simp only[qDO,sub1 (show 1<=b by omega) (show b<=1000000 by omega),qAA];refine⟨RevI u0 s db l a b,⟨_,a,b-1,l,rfl,h,.refl _ _ _,.refl _ _,by omega,by omega,rfl⟩,?_⟩;rintro e t m ⟨i,j,l1,hy,h1,pi,kp,c1,c2,rfl⟩;simp only[cI,and_true]at hy;rw[hy.1,hy.2];have hn:=pi.len;simp only[qCp,qAQ,qAA];refine qAE (λhc=>?_) (λhc=>?_)
 ·have hc:i<j:=by have:=oT hc;omega
  simp only[u_ad (show i<k by omega),u_ad (show j<k by omega),h1.rd (show i<l1.length by omega),h1.rd (show j<l1.length by omega),qAA];refine h1.swap (by omega) (by omega) λs3 h3 u3=>?_;simp only[add1 (show i<=1000000 by omega),sub1 (show 1<=j by omega) (show j<=1000000 by omega),qAA];exact⟨_,by omega,i+1,j-1,_,rfl,h3,pi.trans (.sw (by omega) (by omega) (by omega) (by omega) (by omega)),kp.trans (u3.keep rfl),by omega,by omega,rfl⟩
 ·exact hK t l1 h1 pi kp
def SwAt(s:Hq)(g:Nat):Prop:=∃c:Int,s g=some (false,.cells 3 [.int .i64 c])
theorem SwAt.ne(h:SwAt s g)(h2:UAt u0 s db l):db≠g:=λe=>by obtain⟨c,h⟩:=h;have h2:s db=some (false,.cells (cond u0 42 41) (us l)):=h2;rw[e,h]at h2;have:(3:TypeId)=cond u0 42 41:=congrArg (λx:Option (Bool×Blk)=>match x with|some (_,.cells e _)=>e|_=>0) h2;exact absurd this (by cases u0<;>decide)
theorem qPY(h:UAt u0 s db l)(hg:SwAt s g)(hk:k=l.length)(ha:a<k)(hb:b<k)(hK:∀s' p q,(p=a/\q=b∨p=b/\q=a)->UAt u0 s' db l->SwAt s' g->KB g s s'->K (.tup [.int .i64 ((p:Nat):Int),.int .i64 ((q:Nat):Int)]) s'):
  wC Tryz.prog (XG u0) (cond u0 200 199) [uV db k,.int .i64 (a:Int),.int .i64 (b:Int),.ptr g 0] K s:=by
 refine qGd ?_;simp only[qEa,u_ad ha,u_ad hb,h.rd (show a<l.length by omega),h.rd (show b<l.length by omega),qAA];refine qE3 (qAE (λ_=>?_) (λ_=>?_))
 ·have ne:=hg.ne h
  obtain⟨c,hc⟩:=hg;have rc:rd1 s (.ptr g 0)=some (.int .i64 c):=by rw[qAL hc];rfl
  simp only[qCN,rc,qAN,qAA];refine qA9 hc Nat.zero_lt_one rfl λs2 h2 u2=>?_;have h':UAt u0 s2 db l:=by show s2 db=_;rw[u2 db ne];exact h
  exact hK s2 b a (.inr ⟨rfl,rfl⟩) h' ⟨_,h2⟩ (u2.keep rfl)
 ·exact hK s a b (.inl ⟨rfl,rfl⟩) h hg (.refl _ _)
theorem qRg(h:UAt u0 s db l)(hg:SwAt s g)(hk:k=l.length)(ha:lo<=a/\a<hi)(hb:lo<=b/\b<hi)(hc:lo<=c/\c<hi)(hh:hi<=k)(hK:∀s' p,lo<=p->p<hi->UAt u0 s' db l->SwAt s' g->KB g s s'->K (.int .i64 ((p:Nat):Int)) s'):
  wC Tryz.prog (XG u0) (cond u0 185 181) [uV db k,.int .i64 (a:Int),.int .i64 (b:Int),.int .i64 (c:Int),.ptr g 0] K s:=by
 refine qGS (qPY h hg hk (by omega) (by omega) λs1 p1 q1 e1 h1 g1 k1=>?_);have x0:∀x y:AV,qAh (.tup [x,y]) 0=some x:=λ_ _=>rfl;have x1:∀x y:AV,qAh (.tup [x,y]) 1=some y:=λ_ _=>rfl;simp only[x0,x1,qAA];refine qPY h1 g1 hk (by omega) (by omega) λs2 p2 q2 e2 h2 g2 k2=>?_;simp only[x0,x1,qAA];refine qPY h2 g2 hk (by omega) (by omega) λs3 p3 q3 e3 h3 g3 k3=>?_;simp only[x0,x1,qAA];exact hK s3 q3 (by omega) (by omega) h3 g3 ((k1.trans k2).trans k3)
theorem qWw(h:UAt u0 s db l)(hg:SwAt s g)(hk:k=l.length)(hl:k<=100000)(ha:lo<a/\a+1<hi)(hh:hi<=k)(hK:∀s' p,lo<=p->p<hi->UAt u0 s' db l->SwAt s' g->KB g s s'->K (.int .i64 ((p:Nat):Int)) s'):
  wC Tryz.prog (XG u0) (cond u0 184 180) [uV db k,.int .i64 (a:Int),.ptr g 0] K s:=by
 refine qES ?_;simp only[qCz,sub1 (show 1<=a by omega) (show a<=1000000 by omega),add1 (show a<=1000000 by omega),qAA];exact qRg h hg hk (lo:=lo) (hi:=hi) (by omega) (by omega) (by omega) hh hK
theorem quo4(hn:n<=100000):qAB .quo (.int .i64 (n:Int)) (.int .i64 4)=some (.int .i64 ((n / 4:Nat):Int)):=by rw[qM7 (by omega)];have:(n:Int).tdiv 4=((n / 4:Nat):Int):=rfl;rw[this,qAV (by omega) (by omega)]
theorem mulN{x:Nat}(hn:n*x<=1000000):qAB .mul (.int .i64 (n:Int)) (.int .i64 (x:Int))=some (.int .i64 ((n*x:Nat):Int)):=by rw[qIn,<- Int.natCast_mul,qAV (by omega) (by omega)]
theorem qZe(h:UAt u0 s db l)(hk:k=l.length)(hl:k<=100000)(hab:a+12<b)(hb:b<=k)(hK:∀s' p (z:Int),a<=p->p<b->UAt u0 s' db l->Sub s s'->K (.tup [.int .i64 ((p:Nat):Int),.int .i64 z]) s'):
  wC Tryz.prog (XG u0) (cond u0 149 138) [uV db k,.int .i64 (a:Int),.int .i64 (b:Int)] K s:=by
 refine qE4 ?_;have m1:qAB .mul (.int .i64 (((b-a) / 4:Nat):Int)) (.int .i64 1)=some (.int .i64 (((b-a) / 4*1:Nat):Int)):=mulN (x:=1) (by omega);have m2:qAB .mul (.int .i64 (((b-a) / 4:Nat):Int)) (.int .i64 2)=some (.int .i64 (((b-a) / 4*2:Nat):Int)):=mulN (x:=2) (by omega);have m3:qAB .mul (.int .i64 (((b-a) / 4:Nat):Int)) (.int .i64 3)=some (.int .i64 (((b-a) / 4*3:Nat):Int)):=mulN (x:=3) (by omega);have g8:qAB .geq (.int .i64 ((b-a:Nat):Int)) (.int .i64 8)=some (.bool true):=by rw[qAr,decide_eq_true (by omega)]
 simp only[qDZ,subN (show a<=b by omega) (show b<=1000000 by omega),qAA];refine qAK λg s1 hg h1 u1=>?_;have sub1:=u1.sub hg;have hu:=h.sub sub1;simp only[quo4 (show b-a<=100000 by omega),m1,m2,m3,addN (show a+(b-a) / 4*1<=1000000 by omega),addN (show a+(b-a) / 4*2<=1000000 by omega),addN (show a+(b-a) / 4*3<=1000000 by omega),g8,qAY,qAA];have out:∀{t:Hq},KB g s1 t->Sub s t:=fun {t} kp i e hi=>kp i e (sub1 i e hi) λw=>by rw[w,hg]at hi;cases hi
 have fin:∀t i j q,(a<=i/\i<b)->(a<=j/\j<b)->(a<=q/\q<b)->UAt u0 t db l->SwAt t g->KB g s1 t->qBj (XG u0) u0 (uV db k) (.ptr g 0) (.int .i64 ((i:Nat):Int)) (.int .i64 ((j:Nat):Int)) (.int .i64 ((q:Nat):Int)) K t:=λt i j q hi hj hq ht hs kp=>by
  refine qRg ht hs hk hi hj hq hb λs2 p p1 p2 h2 g2 k2=>?_;obtain⟨c,hc⟩:=g2;have rc:rd1 s2 (.ptr g 0)=some (.int .i64 c):=by rw[qAL hc];rfl
  simp only[qBp,rc,qAa,qAX,Bool.false_bne,qAA];have o2:=out (kp.trans k2);refine qAE (λ_=>hK s2 p _ p1 p2 h2 o2) (λ_=>qAE (λ_=>hK s2 p _ p1 p2 h2 o2) (λ_=>hK s2 p _ p1 p2 h2 o2))
 have hs:SwAt s1 g:=⟨0,h1⟩
 simp only[qAr,qAA];refine qAE (λ_=>?_) (λ_=>?_)
 ·refine qWw hu hs hk hl (lo:=a) (hi:=b) (by omega) hb λs2 p p1 p2 h2 g2 k2=>?_
  refine qWw h2 g2 hk hl (lo:=a) (hi:=b) (by omega) hb λs3 q q1 q2 h3 g3 k3=>?_;refine qWw h3 g3 hk hl (lo:=a) (hi:=b) (by omega) hb λs4 r r1 r2 h4 g4 k4=>?_;exact fin s4 p q r ⟨p1,p2⟩ ⟨q1,q2⟩ ⟨r1,r2⟩ h4 g4 ((k2.trans k3).trans k4)
 ·exact fin s1 _ _ _ (by omega) (by omega) (by omega) hu hs (.refl _ _)
abbrev zAAN:ByteArray:=⟨#[0,1,2,2,3,3,3,3,4,4,4,4,4,4,4,4,5,5,5,5,5,5,5,5,5,5,5,5,5,5,5,5,6,6,6,6,6,6,6,6,6,6,6,6,6,6,6,6,6,6,6,6,6,6,6,6,6,6,6,6,6,6,6,6,7,7,7,7,7,7,7,7,7,7,7,7,7,7,7,7,7,7,7,7,7,7,7,7,7,7,7,7,7,7,7,7,7,7,7,7,7,7,7,7,7,7,7,7,7,7,7,7,7,7,7,7,7,7,7,7,7,7,7,7,7,7,7,7,8,8,8,8,8,8,8,8,8,8,8,8,8,8,8,8,8,8,8,8,8,8,8,8,8,8,8,8,8,8,8,8,8,8,8,8,8,8,8,8,8,8,8,8,8,8,8,8,8,8,8,8,8,8,8,8,8,8,8,8,8,8,8,8,8,8,8,8,8,8,8,8,8,8,8,8,8,8,8,8,8,8,8,8,8,8,8,8,8,8,8,8,8,8,8,8,8,8,8,8,8,8,8,8,8,8,8,8,8,8,8,8,8,8,8,8,8,8,8,8,8,8,8,8,8,8,8,8]⟩
theorem zABo:((List.range 256).all λn=>match qJL (.str zAAN) (.int .u8 (n:Int))with
 |some (.int .u8 (.ofNat t))=>Nat.ble t 8&&Nat.blt n (2^t)&&(Nat.beq n 0||Nat.ble (2^t) (2*n))
 |_=>false)=true:=by kernel_rfl
theorem zADA(h:n<256):∃t:Nat,qJL (.str zAAN) (.int .u8 (n:Int))=some (.int .u8 (t:Int))/\t<=8/\n<2^t/\(0<n->2^t<=2*n):=by
 have:=List.all_eq_true.1 zABo n (List.mem_range.2 h);split at this
 ·rename_i t e
  simp only[Bool.and_eq_true,Bool.or_eq_true,Nat.ble_eq,Nat.blt_eq]at this;refine⟨t,e,this.1.1,this.1.2,λh0=>?_⟩;rcases this.2 with q|q
  ·have:=bE q;omega
  ·exact q
 ·cases this
set_option maxRecDepth 100000 in
theorem qXW(h:n<256)(hK:∀t:Nat,t<=8->n<2^t->(0<n->2^t<=2*n)->K (.int .i64 (t:Int)) s):wC Tryz.prog (XG u0) 96 [.int .u64 (n:Int)] K s:=by
 refine qKH qZU (by cases u0<;>rfl) ?_;simp only[qIQ,qAO];refine qIv qZU (by cases u0<;>rfl) ?_;have c1:decide ((4294967296:Int)<=(n:Int))=false:=decide_eq_false (by omega);have c2:decide ((65536:Int)<=(n:Int))=false:=decide_eq_false (by omega);have c3:decide ((256:Int)<=(n:Int))=false:=decide_eq_false (by omega);have e1:qB6 .u8 (.int .u64 (n:Int))=some (.int .u8 (n:Int)):=by show some (AV.int .u8 (qAw .u8 (n:Int)))=_;rw[wu8_,Int.emod_eq_of_lt (by omega) (by omega)]
 obtain⟨t,t1,t2,t3,t4⟩:=zADA h;have e2:qAB .add (.int .i64 0) (.int .i64 (t:Int))=some (.int .i64 (t:Int)):=by rw[qAN,qAV (by omega) (by omega),Int.zero_add]
 refine qAD (a:=.bool false) (by rw[qAr,c1]) ?_;show qD4 (XG u0) _ _ K s;refine qAD (a:=.bool false) (by rw[qAr,c2]) ?_;show qDx (XG u0) _ _ K s;refine qAD (a:=.bool false) (by rw[qAr,c3]) ?_;show qD1 (XG u0) _ _ K s;exact qAD e1 (qAD t1 (qAD (zAAj (by omega)) (qAD e2 (hK t t2 t3 t4))))
theorem qQF(h:n<9223372036854775808):qB6 .u64 (.int .i64 (n:Int))=some (.int .u64 (n:Int)):=by show some (AV.int .u64 (qAw .u64 (n:Int)))=_;rw[qLz (by omega)]
theorem zADh(h:n<256)(h0:0<n)(hK:∀m:Nat,m<=2*n->0<m->K (.int .u64 (m:Int)) s):wC Tryz.prog (XG u0) 178 [.int .i64 (n:Int)] K s:=by
 refine qJd qZU (by cases u0<;>rfl) ?_;simp only[qHg,qQF (show n<9223372036854775808 by omega),qAA];refine qXW h λt t1 t2 t3=>?_;have e:qCj .shl (.int .u64 1) (.int .i64 (t:Int))=some (.int .u64 ((2^t:Nat):Int)):=by show frc (qAw .u64 (1*((2^(min t (IntKind.bits .u64)):Nat):Int))) (λn=>some (AV.int .u64 n))=_;have:min t (IntKind.bits .u64)=t:=Nat.min_eq_left (Nat.le_trans t1 (by decide));have:=t3 h0;rw[qBq,‹min t (IntKind.bits .u64)=t›,Int.one_mul,qLz (by omega)]
 simp only[e,qAA];exact hK _ (t3 h0) (Nat.pow_pos (by decide))
def XoAt(s:Hq)(g:Nat):Prop:=∃c:Int,s g=some (false,.cells 242 [.int .u64 c])
theorem XoAt.ne(h:XoAt s g)(h2:UAt u0 s db l):db≠g:=λe=>by obtain⟨c,h⟩:=h;have h2:s db=some (false,.cells (cond u0 42 41) (us l)):=h2;rw[e,h]at h2;have:(242:TypeId)=cond u0 42 41:=congrArg (λx:Option (Bool×Blk)=>match x with|some (_,.cells e _)=>e|_=>0) h2;exact absurd this (by cases u0<;>decide)
theorem zABg(h:XoAt s g)(hK:∀s' (z:Int),XoAt s' g->Upto g s s'->K (.int .u64 z) s'):wC Tryz.prog (XG u0) 179 [.ptr g 0] K s:=by
 obtain⟨c,hc⟩:=h;refine qKA qZU (by cases u0<;>rfl) ?_;have rc:∀{t:Hq}{c:Int},t g=some (false,.cells 242 [.int .u64 c])->rd1 t (.ptr g 0)=some (.int .u64 c):=fun {t c} h=>by rw[qAL h];rfl
 obtain⟨z1,y1⟩:=qXE (x:=c) (m:=13) (k:=.u64);obtain⟨z2,y2⟩:=qRj (x:=c) (y:=z1);obtain⟨z3,y3⟩:=zABx (x:=z2) (m:=7) (k:=.u64);obtain⟨z4,y4⟩:=qRj (x:=z2) (y:=z3);obtain⟨z5,y5⟩:=qXE (x:=z4) (m:=17) (k:=.u64);obtain⟨z6,y6⟩:=qRj (x:=z4) (y:=z5);simp only[qIP,qCN,rc hc,qAA];refine qAD y1 (qAD y2 (qA9 hc Nat.zero_lt_one rfl λs1 h1 u1=>?_));have h1:s1 g=some (false,.cells 242 [.int .u64 z2]):=h1;simp only[rc h1,qAA];refine qAD y3 (qAD y4 (qA9 h1 Nat.zero_lt_one rfl λs2 h2 u2=>?_));have h2:s2 g=some (false,.cells 242 [.int .u64 z4]):=h2;simp only[rc h2,qAA];refine qAD y5 (qAD y6 (qA9 h2 Nat.zero_lt_one rfl λs3 h3 u3=>?_));have h3:s3 g=some (false,.cells 242 [.int .u64 z6]):=h3;simp only[rc h3,qAA];exact hK s3 z6 ⟨_,h3⟩ λi hi=>by rw[u3 i hi,u2 i hi,u1 i hi]
def BrkI(u0:Bool)(s:Hq)(db g:Nat)(l:List Int)(a b:Nat):List AV->Hq->Nat->Prop:=λys t m=>
 ∃(i:Nat) (l1:List Int),ys=[.int .i64 (i:Int)]/\UAt u0 t db l1/\PI a b l l1/\XoAt t g/\qAf (λj=>j=db∨j=g) s t/\a<=i/\i<=a+(b-a) / 4*2+2/\m=a+(b-a) / 4*2+3-i
theorem qYi(h:UAt u0 s db l)(hk:k=l.length)(hl:k<=255)(hab:a+12<b)(hb:b<=k)(hK:∀s' l',UAt u0 s' db l'->PI a b l l'->KB db s s'->K (.tup []) s'):
  wC Tryz.prog (XG u0) (cond u0 148 137) [uV db k,.int .i64 (a:Int),.int .i64 (b:Int)] K s:=by
 refine qEj ?_;have g8:qAB .geq (.int .i64 ((b-a:Nat):Int)) (.int .i64 8)=some (.bool true):=by rw[qAr,decide_eq_true (by omega)]
 have m2:qAB .mul (.int .i64 (((b-a) / 4:Nat):Int)) (.int .i64 2)=some (.int .i64 (((b-a) / 4*2:Nat):Int)):=mulN (x:=2) (by omega);simp only[qDB,subN (show a<=b by omega) (show b<=1000000 by omega),g8,qAY,qQF (show b-a<9223372036854775808 by omega),qAA];refine qAK λg s1 hg h1 u1=>?_;have h1:s1 g=some (false,.cells 242 [.int .u64 0]):=h1;refine qA9 h1 Nat.zero_lt_one rfl λs2 h2 u2=>?_;have h2:s2 g=some (false,.cells 242 [.int .u64 ((b-a:Nat):Int)]):=h2;have sub2:Sub s s2:=λi e hi=>by have ne:i≠g:=qDG hg hi;rw[u2 i ne,u1 i ne];exact hi
 refine zADh (n:=b-a) (by omega) (by omega) λmd md1 md2=>?_;simp only[quo4 (show b-a<=100000 by omega),m2,addN (show a+(b-a) / 4*2<=1000000 by omega),sub1 (show 1<=a+(b-a) / 4*2 by omega) (show a+(b-a) / 4*2<=1000000 by omega),qAA];refine⟨BrkI u0 s2 db g l a b,⟨_,_,l,rfl,h.sub sub2,.refl _ _ _,⟨_,h2⟩,.refl _ _,by omega,by omega,rfl⟩,?_⟩;rintro e t m ⟨i,l1,hy,hu,pi,hx,kp,c1,c2,rfl⟩;simp only[cI,and_true]at hy;rw[hy];have hn:=pi.len;simp only[qCZ,quo4 (show b-a<=100000 by omega),m2,addN (show a+(b-a) / 4*2<=1000000 by omega),add1 (show a+(b-a) / 4*2<=1000000 by omega),qCr,qAA];refine qAE (λhc=>?_) (λhc=>?_)
 rotate_left
 ·refine hK t l1 hu pi λi e hi hne=>kp i e (sub2 i e hi) λw=>?_
  rcases w with w|w
  ·exact hne w
  ·rw[w,hg]at hi;cases hi
 have hc:i<=a+(b-a) / 4*2+1:=by have:=oT hc;omega
 have ne:=hx.ne hu;refine zABg hx λs3 z hx3 u3=>?_;have hu3:UAt u0 s3 db l1:=by show s3 db=_;rw[u3 db ne];exact hu
 have sb:qAB .sub (.int .u64 (md:Int)) (.int .u64 1)=some (.int .u64 ((md-1:Nat):Int)):=by rw[qBs,<- qBY,show(md:Int)-1=((md-1:Nat):Int)by omega,qLz (by omega)]
 obtain⟨v,v1,v2⟩:=zADl (x:=z) (m:=md-1) (by omega);simp only[sb,v2,zAAj (show v<9223372036854775808 by omega),qAr,qAA];have fin:∀o,o<b-a->qA3 (XG u0) u0 (uV db k) (.int .i64 (a:Int)) (.int .i64 (i:Int)) (.int .i64 ((o:Nat):Int)) (BrkI u0 s2 db g l a b) (a+(b-a) / 4*2+3-i) K s3:=λo ho=>by
  simp only[qA3,addN (show a+o<=1000000 by omega),u_ad (show a+o<k by omega),u_ad (show i<k by omega),hu3.rd (show a+o<l1.length by omega),hu3.rd (show i<l1.length by omega),qAA];refine hu3.swap (by omega) (by omega) λs4 h4 u4=>?_;simp only[add1 (show i<=1000000 by omega),qAA];refine⟨_,by omega,i+1,_,rfl,h4,pi.trans (.sw (by omega) (by omega) (by omega) (by omega) (by omega)),?_,?_,by omega,by omega,rfl⟩
  ·obtain⟨c,hc⟩:=hx3
   exact⟨c,by rw[u4 g ne.symm];exact hc⟩
  ·exact(kp.trans (u3.keep (.inr rfl))).trans (u4.keep (.inl rfl))
 refine qAE (λhq=>?_) (λhq=>?_)
 ·have hq:b-a<=v:=by have:=oT hq;omega
  simp only[subN hq (show v<=1000000 by omega),qAA];exact fin _ (by omega)
 ·exact fin v (by have:=oF hq;omega)
end Go.AM.SG.W
namespace Go.AM.SG.W
open Go Go.AM Go.Proofs
variable {u0:Bool} {K:AV→Hq→Prop} {s s':Hq} {db:Nat} {l l' l1:List Int} {a b i j k p:Nat}
theorem qQo(h:Asc a i l)(k:∀q,q<i->nAt l' q=nAt l q):Asc a i l':=λp q h1 h2 h3=>by rw[k p (by omega),k q h3];exact h p q h1 h2 h3
def qYu(u0:Bool)(s:Hq)(db:Nat)(l:List Int)(a b:Nat):List AV->Hq->Nat->Prop:=λys t m=>
 ∃(i j:Nat) (l1:List Int),ys=[.int .i64 (i:Int),.int .i64 (j:Int)]/\UAt u0 t db l1/\PI a b l l1/\Asc a i l1/\KB db s t/\a<i/\i<=b/\j<=5/\m=5-j
def zAEh(t0:Hq)(l1:List Int)(a b:Nat):List AV->Hq->Nat->Prop:=λys t m=>
 ∃i:Nat,ys=[.int .i64 (i:Int)]/\t=t0/\Asc a i l1/\a<i/\i<=b/\m=b-i
def zAE1(u0:Bool)(s:Hq)(db:Nat)(l:List Int)(a b i:Nat):List AV->Hq->Nat->Prop:=λys t m=>
 ∃(q:Nat) (l3:List Int),ys=[.int .i64 (q:Int)]/\UAt u0 t db l3/\PI a b l l3/\Ins a (i-1) q l3/\KB db s t/\a<=q/\q<i/\m=q
def zAEH(u0:Bool)(s:Hq)(db:Nat)(l:List Int)(a b i:Nat):List AV->Hq->Nat->Prop:=λys t m=>
 ∃(q:Nat) (l4:List Int),ys=[.int .i64 (q:Int)]/\UAt u0 t db l4/\PI a b l l4/\Asc a i l4/\KB db s t/\i<q/\q<=b/\m=b-q
theorem qUd(h:UAt u0 s db l)(hk:k=l.length)(hl:k<=100000)(hab:a<b)(hb:b<=k)(hlow:Low a b l)(hK:∀s' l' r,UAt u0 s' db l'->PI a b l l'->(r=true->Asc a b l')->KB db s s'->K (.bool r) s'):
  wC Tryz.prog (XG u0) (cond u0 151 140) [uV db k,.int .i64 (a:Int),.int .i64 (b:Int)] K s:=by
 refine qDg ?_;simp only[qCD,add1 (show a<=1000000 by omega),qAA];refine⟨qYu u0 s db l a b,⟨_,a+1,0,l,rfl,h,.refl _ _ _,λp q _ _ _=>by omega,.refl _ _,by omega,by omega,by omega,rfl⟩,?_⟩;rintro e t m ⟨i0,j,l1,hy,h1,pi,asc0,kp,b1,b2,b3,rfl⟩;simp only[cI,and_true]at hy;rw[hy.1,hy.2];have hn:=pi.len;simp only[qBr,qAQ,qAA];refine qAE (λhj=>?_) (λ_=>hK t l1 false h1 pi (λq=>by cases q) kp);have hj:j<5:=by have:=oT hj;omega
 refine⟨zAEh t l1 a b,⟨_,i0,rfl,rfl,asc0,b1,b2,rfl⟩,?_⟩;clear hy;rintro e t' m ⟨i,hy,rfl,asc,c1,c2,hm⟩;simp only[cI,and_true]at hy;rw[hy];simp only[qBu,qAQ,qAA];refine qAE (λhlt=>?_) (λhge=>?_)
 rotate_left
 ·have hib:i=b:=by have:=oF hge;omega
  simp only[qAo,hge,qAU,qAO,qAa,qAX,Bool.false_bne,qAA];subst hib;simp only[beq_self_eq_true,qAY];exact hK t' l1 true h1 pi (λ_=>asc) kp
 have hlt':i<b:=by have:=oT hlt;omega
 simp only[sub1 (show 1<=i by omega) (show i<=1000000 by omega),u_ad (show i<k by omega),u_ad (show i-1<k by omega),h1.rd (show i<l1.length by omega),h1.rd (show i-1<l1.length by omega),qAA];refine qE3 ?_;simp only[qAo,hlt,qAc,qAq,qAA];refine qAE (λhc=>?_) (λhc=>?_)
 ·have hc:nAt l1 (i-1)<=nAt l1 i:=by simpa using hc
  simp only[add1 (show i<=1000000 by omega),qAA];refine⟨_,?_,i+1,rfl,rfl,λp q q1 q2 q3=>?_,by omega,by omega,rfl⟩
  ·omega
  ·by_cases e1:q=i
   ·subst e1
    by_cases e2:p=q-1
    ·rw[e2];exact hc
    ·exact Int.le_trans (asc p (q-1) q1 (by omega) (by omega)) hc
   ·exact asc p q q1 q2 (by omega)
 have hc:nAt l1 i<nAt l1 (i-1):=by simpa using hc
 have hne:((i:Int) == (b:Int))=false:=by rw[beq_eq_false_iff_ne];omega
 simp only[qAa,hne,qAX,Bool.false_bne,qAO,subN (show a<=b by omega) (show b<=1000000 by omega),qAA];refine qAE (λ_=>hK t' l1 false h1 pi (λq=>by cases q) kp) (λ_=>?_);simp only[sub1 (show 1<=i by omega) (show i<=1000000 by omega),u_ad (show i<k by omega),u_ad (show i-1<k by omega),h1.rd (show i<l1.length by omega),h1.rd (show i-1<l1.length by omega),qAA];refine h1.swap (by omega) (by omega) λs2 h2 u2=>?_;have kp2:=kp.trans (u2.keep rfl);have pi2:PI a b l (swN l1 i (i-1)):=pi.trans (.sw (by omega) (by omega) (by omega) (by omega) (by omega));have j4:∀t4 l4,UAt u0 t4 db l4->PI a b l l4->Asc a i l4->KB db s t4->qAm (XG u0) u0 (.int .i64 (i:Int)) (.int .i64 (j:Int)) (qYu u0 s db l a b) (5-j) K t4:=λt4 l4 q1 q2 q3 q4=>by simp only[qAm,add1 (show j<=1000000 by omega),qAA];exact⟨_,by omega,i,j+1,l4,rfl,q1,q2,q3,q4,c1,c2,by omega,rfl⟩
 have j3:∀t3 l3,UAt u0 t3 db l3->PI a b l l3->Asc a i l3->KB db s t3->qAe (XG u0) u0 (uV db k) (.int .i64 (b:Int)) (.int .i64 (i:Int)) (.int .i64 (j:Int)) (qYu u0 s db l a b) (5-j) K t3:=λt3 l3 q1 q2 q3 q4=>by
  simp only[qAe,subN (show i<=b by omega) (show b<=1000000 by omega),qAr,qAA];refine qAE (λhg=>?_) (λ_=>j4 t3 l3 q1 q2 q3 q4);simp only[add1 (show i<=1000000 by omega),qAA];refine⟨zAEH u0 s db l a b i,⟨_,i+1,l3,rfl,q1,q2,q3,q4,by omega,by omega,rfl⟩,?_⟩;rintro e t4 m ⟨q,l4,hy4,r1,r2,r3,r4,r5,r6,hm4⟩;simp only[cI,and_true]at hy4;rw[hy4];have hn4:=r2.len;simp only[qBv,qAQ,qAA];refine qAE (λhq=>?_) (λ_=>j4 t4 l4 r1 r2 r3 r4);have hq:q<b:=by have:=oT hq;omega
  simp only[sub1 (show 1<=q by omega) (show q<=1000000 by omega),u_ad (show q<k by omega),u_ad (show q-1<k by omega),r1.rd (show q<l4.length by omega),r1.rd (show q-1<l4.length by omega),qAA];refine qE3 ?_;simp only[qAq,qAA];refine qAE (λ_=>j4 t4 l4 r1 r2 r3 r4) (λ_=>?_);simp only[r1.rd (show q<l4.length by omega),r1.rd (show q-1<l4.length by omega),qAA];refine r1.swap (by omega) (by omega) λs5 h5 u5=>?_;simp only[add1 (show q<=1000000 by omega),qAA];refine⟨_,?_,q+1,_,rfl,h5,r2.trans (.sw (by omega) (by omega) (by omega) (by omega) (by omega)),qQo r3 λx hx=>?_,r4.trans (u5.keep rfl),by omega,by omega,rfl⟩
  ·omega
  ·rw[qHk (by omega) (by omega),if_neg (by omega),if_neg (by omega)]
 have sub0:∀x,x<i-1->nAt (swN l1 i (i-1)) x=nAt l1 x:=λx hx=>by rw[qHk (by omega) (by omega),if_neg (by omega),if_neg (by omega)]
 have asc2:Asc a (i-1) (swN l1 i (i-1)):=qQo (l:=l1) (λp q q1 q2 q3=>asc p q q1 q2 (by omega)) sub0;simp only[subN (show a<=i by omega) (show i<=1000000 by omega),qAr,qAA];refine qAE (λhg=>?_) (λhg=>?_)
 rotate_left
 ·have hg:i=a+1:=by have:=oF hg;omega
  exact j3 s2 _ h2 pi2 (λp q q1 q2 q3=>by omega) kp2
 have hg:a+2<=i:=by have:=oT hg;omega
 refine⟨zAE1 u0 s db l a b i,⟨_,i-1,_,rfl,h2,pi2,.start asc2,kp2,by omega,by omega,rfl⟩,?_⟩;rintro e t3 m3 ⟨q,l3,hy3,r1,r2,r3,r4,r5,r6,hm3⟩;simp only[cI,and_true]at hy3;rw[hy3];have hn3:=r2.len;have dn:(q=a∨nAt l3 (q-1)<=nAt l3 q)->qAe (XG u0) u0 (uV db k) (.int .i64 (b:Int)) (.int .i64 (i:Int)) (.int .i64 (j:Int)) (qYu u0 s db l a b) (5-j) K t3:=λhq=>by have:=r3.done r5 hq;rw[show i-1+1=i by omega]at this;exact j3 t3 l3 r1 r2 this r4
 simp only[qBt,qAr,qAA];refine qAE (λhq=>?_) (λhq=>dn (.inl (by have:=oF hq;omega)));have hq:1<=q:=by have:=oT hq;omega
 simp only[sub1 (show 1<=q by omega) (show q<=1000000 by omega),u_ad (show q<k by omega),u_ad (show q-1<k by omega),r1.rd (show q<l3.length by omega),r1.rd (show q-1<l3.length by omega),qAA];refine qE3 ?_;simp only[qAq,qAA];refine qAE (λhd=>dn (.inr (by simpa using hd))) (λhd=>?_);have hd:nAt l3 q<nAt l3 (q-1):=by simpa using hd
 have hqa:a<q:=by
  by_cases e:q=a
  ·subst e
   have:=r2.low hlow (by omega) q (Nat.le_refl q) (by omega);omega
  ·omega
 simp only[r1.rd (show q<l3.length by omega),r1.rd (show q-1<l3.length by omega),qAA];refine r1.swap (by omega) (by omega) λs5 h5 u5=>?_;refine⟨_,?_,q-1,_,rfl,h5,r2.trans (.sw (by omega) (by omega) (by omega) (by omega) (by omega)),r3.step hqa (by omega) (by omega) hd,r4.trans (u5.keep rfl),by omega,by omega,rfl⟩;omega
end Go.AM.SG.W
namespace Go.AM.SG.W
open Go Go.AM Go.Proofs
variable {u0:Bool} {K:AV→Hq→Prop} {s s':Hq} {db:Nat} {l l' l1:List Int} {a b c i j k p:Nat} {v:Int}
structure Ptn(a b i j:Nat)(v:Int)(l l1:List Int):Prop where
 pi:PI a b l l1
 piv:nAt l1 a=v
 ai:a<i
 ij:i<=j+1
 jb:j<b
 low:∀q,a<q->q<i->nAt l1 q<=v
 up:∀q,j<q->q<b->v<=nAt l1 q
theorem Ptn.start(hab:a<b)(h1:a<=p)(h2:p<b)(hb:b<=l.length):Ptn a b (a+1) (b-1) (nAt l p) l (swN l a p):=
 ⟨.sw (by omega) (by omega) h1 h2 hb,by
  rw[qHk (by omega) (by omega)]
  by_cases e:a=p
  ·rw[if_pos e,e]
  ·rw[if_neg e,if_pos rfl],by omega,by omega,by omega,λq _ _=>by omega,λq _ _=>by omega⟩
theorem Ptn.incr(h:Ptn a b i j v l l1)(hij:i<=j)(c:nAt l1 i<=v):Ptn a b (i+1) j v l l1:=
 ⟨h.pi,h.piv,by have:=h.ai;omega,by omega,h.jb,λq q1 q2=>by
  by_cases e:q=i
  ·rw[e];exact c
  ·exact h.low q q1 (by omega),h.up⟩
theorem Ptn.decr(h:Ptn a b i j v l l1)(hij:i<=j)(c:v<=nAt l1 j):Ptn a b i (j-1) v l l1:=
 ⟨h.pi,h.piv,h.ai,by omega,by have:=h.jb;omega,h.low,λq q1 q2=>by
  by_cases e:q=j
  ·rw[e];exact c
  ·exact h.up q (by omega) q2⟩
theorem Ptn.swap(h:Ptn a b i j v l l1)(hb:b<=l.length)(hij:i<j)(c1:v<=nAt l1 i)(c2:nAt l1 j<=v):Ptn a b (i+1) (j-1) v l (swN l1 i j):=by
 have hn:=h.pi.len;have h1:=h.ai;have h2:=h.jb;have at_:∀k,nAt (swN l1 i j) k=if k=j then nAt l1 i else if k=i then nAt l1 j else nAt l1 k:=λk=>qHk (by omega) (by omega)
 refine⟨h.pi.trans (.sw (by omega) (by omega) (by omega) (by omega) (by omega)),?_,by omega,by omega,by omega,λq q1 q2=>?_,λq q1 q2=>?_⟩
 ·rw[at_,if_neg (by omega),if_neg (by omega)];exact h.piv
 ·rw[at_,if_neg (by omega)]
  by_cases e:q=i
  ·rw[if_pos e];exact c2
  ·rw[if_neg e];exact h.low q q1 (by omega)
 ·rw[at_]
  by_cases e:q=j
  ·rw[if_pos e];exact c1
  ·rw[if_neg e,if_neg (by omega)];exact h.up q (by omega) q2
theorem Ptn.fin(h:Ptn a b i j v l l1)(hb:b<=l.length)(hij:j<i):PI a b l (swN l1 j a)/\Parted a b j (swN l1 j a)/\a<=j:=by
 have hn:=h.pi.len;have h1:=h.ai;have h2:=h.jb;have h3:=h.ij;have haj:a<=j:=by omega
 have at_:∀k,nAt (swN l1 j a) k=if k=a then nAt l1 j else if k=j then nAt l1 a else nAt l1 k:=λk=>qHk (by omega) (by omega)
 refine⟨h.pi.trans (.sw (by omega) (by omega) (by omega) (by omega) (by omega)),⟨λq q1 q2=>?_,λq q1 q2=>?_⟩,haj⟩
 ·have:a<j:=by omega
  have hj:nAt l1 j<=v:=h.low j this (by omega);rw[at_ q,at_ j,if_neg (show ¬j=a by omega),if_pos rfl,h.piv]
  by_cases e:q=a
  ·rw[if_pos e];exact hj
  ·rw[if_neg e,if_neg (by omega)]
   exact h.low q (by omega) (by omega)
 ·have e1:nAt (swN l1 j a) j=v:=by
   rw[at_ j]
   by_cases e:j=a
   ·rw[if_pos e,e];exact h.piv
   ·rw[if_neg e,if_pos rfl];exact h.piv
  rw[e1,at_ q,if_neg (by omega),if_neg (by omega)];exact h.up q q1 q2
def qUJ(u0:Bool)(s:Hq)(db:Nat)(l:List Int)(a b:Nat)(v:Int):List AV->Hq->Nat->Prop:=λys t m=>
 ∃(i j:Nat) (l1:List Int),ys=[.int .i64 (i:Int),.int .i64 (j:Int)]/\UAt u0 t db l1/\Ptn a b i j v l l1/\KB db s t/\m=j+1-i
def zACf(t0:Hq)(l l1:List Int)(a b i0 j:Nat)(v:Int):List AV->Hq->Nat->Prop:=λys t m=>
 ∃i:Nat,ys=[.int .i64 (i:Int),.int .i64 (j:Int)]/\t=t0/\Ptn a b i j v l l1/\i0<=i/\m=j+1-i
def zAEq(t0:Hq)(l l1:List Int)(a b i j0:Nat)(v:Int):List AV->Hq->Nat->Prop:=λys t m=>
 ∃j:Nat,ys=[.int .i64 (j:Int)]/\t=t0/\Ptn a b i j v l l1/\(i<=j->v<nAt l1 i)/\j<=j0/\m=j
theorem qWE(h:UAt u0 s db l)(hk:k=l.length)(hl:k<=100000)(hab:a<b)(hb:b<=k)(h1p:a<=p)(h2p:p<b)(hK:∀s' l' m,UAt u0 s' db l'->PI a b l l'->a<m->m<=b->(∀q,a<=q->q<m->nAt l' q<=nAt l p)->(∀q,m<=q->q<b->nAt l p<=nAt l' q)->KB db s s'->K (.int .i64 ((m:Nat):Int)) s'):
  wC Tryz.prog (XG u0) (cond u0 153 142) [uV db k,.int .i64 (a:Int),.int .i64 (b:Int),.int .i64 (p:Int)] K s:=by
 refine qEZ ?_;simp only[qCw,u_ad (show p<k by omega),u_ad (show a<k by omega),h.rd (show p<l.length by omega),h.rd (show a<l.length by omega),qAA];refine h.swap (by omega) (by omega) λs1 h1 u1=>?_;simp only[add1 (show a<=1000000 by omega),sub1 (show 1<=b by omega) (show b<=1000000 by omega),qAA];refine⟨qUJ u0 s db l a b (nAt l p),⟨_,a+1,b-1,_,rfl,h1,.start hab h1p h2p (by omega),u1.keep rfl,rfl⟩,?_⟩;rintro e t m ⟨i0,j0,l1,hy,ht,pt0,kp,rfl⟩;simp only[cI,and_true]at hy;rw[hy.1,hy.2];have hn:=pt0.pi.len;refine⟨zACf t l l1 a b i0 j0 (nAt l p),⟨_,i0,rfl,rfl,pt0,by omega,rfl⟩,?_⟩;clear hy;rintro e t' m ⟨i,hy,rfl,pt,hi0,hm⟩;simp only[cI,and_true]at hy;rw[hy.1];have c1:=pt.ai;have c2:=pt.ij;have c3:=pt.jb;have nx:(i<=j0->nAt l p<nAt l1 i)->∃I3:List AV->Hq->Nat->Prop,(∃m,I3 [.int .i64 (j0:Int)] t' m)/\∀(f:Env) (w:Hq) (m3:Nat),I3 [f 10] w m3->
   qBW (XG u0) u0 (uV db k) (.int .i64 (a:Int)) (.int .i64 (i:Int)) (f 10) I3 m3 (qUJ u0 s db l a b (nAt l p)) (j0+1-i0) K w:=λhst=>by
  refine⟨zAEq t' l l1 a b i j0 (nAt l p),⟨_,j0,rfl,rfl,pt,hst,by omega,rfl⟩,?_⟩;rintro e t3 m3 ⟨j,hy3,rfl,pt3,hst3,hj0,hm3⟩;simp only[cI,and_true]at hy3;rw[hy3];have d2:=pt3.ij;have d3:=pt3.jb;have st:((i<=j->nAt l1 j<=nAt l p))->oK (qAB .gtr (.int .i64 (i:Int)) (.int .i64 (j:Int))) λv_16=>qAJ v_16 (K (.int .i64 (i:Int)) t3)
    (oK (qAH 1 (uV db k) (.int .i64 (j:Int))) λv_17=>oK (rd1 t3 v_17) λv_18=>oK (qAH 1 (uV db k) (.int .i64 (i:Int))) λv_19=>oK (rd1 t3 v_19) λv_20=>oK (qAH 1 (uV db k) (.int .i64 (i:Int))) λv_21=>oK (wr1 t3 v_21 v_18) λs_22=>
     oK (qAH 1 (uV db k) (.int .i64 (j:Int))) λv_23=>oK (wr1 s_22 v_23 v_20) λs_24=>oK (qAB .add (.int .i64 (i:Int)) (.int .i64 1)) λv_25=>oK (qAB .sub (.int .i64 (j:Int)) (.int .i64 1)) λv_26=>∃m',m'<j0+1-i0/\qUJ u0 s db l a b (nAt l p) [v_25,v_26] s_24 m'):=λhq=>by
   simp only[qBf,qAA];refine qAE (λhg=>?_) (λhg=>?_)
   ·have hg:j<i:=by have:=oT hg;omega
    refine hK t3 l1 i ht pt3.pi c1 (by omega) (λq q1 q2=>?_) (λq q1 q2=>pt3.up q (by omega) q2) kp
    by_cases e:q=a
    ·rw[e,pt3.piv];exact Int.le_refl _
    ·exact pt3.low q (by omega) q2
   ·have hg:i<=j:=by have:=oF hg;omega
    have w1:=hst3 hg;have w2:=hq hg;have hij:i<j:=by
     by_cases e:i=j
     ·rw[e]at w1;omega
     ·omega
    simp only[u_ad (show i<k by omega),u_ad (show j<k by omega),ht.rd (show i<l1.length by omega),ht.rd (show j<l1.length by omega),qAA];refine ht.swap (by omega) (by omega) λs5 h5 u5=>?_;simp only[add1 (show i<=1000000 by omega),sub1 (show 1<=j by omega) (show j<=1000000 by omega),qAA];exact⟨_,by omega,i+1,j-1,_,rfl,h5,pt3.swap (by omega) hij (by omega) w2,kp.trans (u5.keep rfl),rfl⟩
  simp only[qBW,qCr,qAA];refine qAE (λhlt=>?_) (λhge=>?_)
  rotate_left
  ·simp only[qA0,hge,qAU,qAO,qAA]
   exact st λq=>by have:=oF hge;omega
  have hlt':i<=j:=by have:=oT hlt;omega
  simp only[u_ad (show j<k by omega),u_ad (show a<k by omega),ht.rd (show j<l1.length by omega),ht.rd (show a<l1.length by omega),qAA];refine qE3 ?_;simp only[qA0,hlt,qAc,qAA,pt3.piv];refine qAE (λhc=>?_) (λhc=>?_)
  ·have hc:=oT hc
   simp only[sub1 (show 1<=j by omega) (show j<=1000000 by omega),qAA];exact⟨_,by omega,j-1,rfl,rfl,pt3.decr hlt' (by omega),λq=>hst3 (by omega),by omega,rfl⟩
  ·exact st λ_=>by have:=oF hc;omega
 simp only[qCS,qCr,qAA];refine qAE (λhlt=>?_) (λhge=>?_)
 rotate_left
 ·simp only[qAy,hge,qAU,qAO,qAA]
  exact nx λq=>by have:=oF hge;omega
 have hlt':i<=j0:=by have:=oT hlt;omega
 simp only[u_ad (show i<k by omega),u_ad (show a<k by omega),ht.rd (show i<l1.length by omega),ht.rd (show a<l1.length by omega),qAA];refine qE3 ?_;simp only[qAy,hlt,qAc,qAq,qAA,pt.piv];refine qAE (λhc=>?_) (λhc=>?_)
 ·have hc:nAt l1 i<=nAt l p:=by simpa using hc
  simp only[add1 (show i<=1000000 by omega),qAA];exact⟨_,by omega,i+1,rfl,rfl,pt.incr hlt' hc,by omega,rfl⟩
 ·have hc:nAt l p<nAt l1 i:=by simpa using hc
  exact nx λ_=>hc
end Go.AM.SG.W
namespace Go.AM.SG.W
open Go Go.AM Go.Proofs
variable {u0:Bool} {K:AV→Hq→Prop} {s s':Hq} {db:Nat} {l l' l1:List Int} {a b i j k p:Nat} {v:Int}
def zAEr(t0:Hq)(l l1:List Int)(a b j:Nat)(v:Int):List AV->Hq->Nat->Prop:=λys t m=>
 ∃i:Nat,ys=[.int .i64 (i:Int)]/\t=t0/\Ptn a b i j v l l1/\m=j+1-i
def zADi(t0:Hq)(l l1:List Int)(a b i j0:Nat)(v:Int):List AV->Hq->Nat->Prop:=λys t m=>
 ∃j:Nat,ys=[.int .i64 (j:Int)]/\t=t0/\Ptn a b i j v l l1/\(i<=j->v<=nAt l1 i)/\j<=j0/\m=j
theorem qVn{cf:Bool}{t:Hq}{R:Hq->Prop}(h:UAt u0 t db l1)(pt:Ptn a b i j v l l1)(hk:k=l.length)(hl:k<=100000)(hb:b<=k)(hij:i<=j->v<=nAt l1 i/\nAt l1 j<v)
  (hK:∀s' l' m,UAt u0 s' db l'->PI a b l l'->a<=m->m<b->Parted a b m l'->KB db t s'->K (.tup [.int .i64 ((m:Nat):Int),.bool cf]) s')
  (hR:∀s',UAt u0 s' db (swN l1 i j)->Ptn a b (i+1) (j-1) v l (swN l1 i j)->i<j->KB db t s'->R s') :
  oK (qAB .gtr (.int .i64 (i:Int)) (.int .i64 (j:Int))) λv_16=>
  qAJ v_16
   (oK (qAH 1 (uV db k) (.int .i64 (a:Int))) λv_17=>
    oK (rd1 t v_17) λv_18=>
    oK (qAH 1 (uV db k) (.int .i64 (j:Int))) λv_19=>
    oK (rd1 t v_19) λv_20=>
    oK (qAH 1 (uV db k) (.int .i64 (j:Int))) λv_21=>
    oK (wr1 t v_21 v_18) λs_22=>
    oK (qAH 1 (uV db k) (.int .i64 (a:Int))) λv_23=>
    oK (wr1 s_22 v_23 v_20) λs_24=>
    K (.tup [.int .i64 (j:Int),(.bool cf)]) s_24)
   (oK (qAH 1 (uV db k) (.int .i64 (j:Int))) λv_25=>
    oK (rd1 t v_25) λv_26=>
    oK (qAH 1 (uV db k) (.int .i64 (i:Int))) λv_27=>
    oK (rd1 t v_27) λv_28=>
    oK (qAH 1 (uV db k) (.int .i64 (i:Int))) λv_29=>
    oK (wr1 t v_29 v_26) λs_30=>
    oK (qAH 1 (uV db k) (.int .i64 (j:Int))) λv_31=>
    oK (wr1 s_30 v_31 v_28) R):=by
 have hn:=pt.pi.len;have c1:=pt.ai;have c2:=pt.ij;have c3:=pt.jb;simp only[qBf,qAA];refine qAE (λhg=>?_) (λhg=>?_)
 ·have hg:j<i:=by have:=oT hg;omega
  simp only[u_ad (show a<k by omega),u_ad (show j<k by omega),h.rd (show a<l1.length by omega),h.rd (show j<l1.length by omega),qAA];refine h.swap (by omega) (by omega) λs5 h5 u5=>?_;obtain⟨q1,q2,q3⟩:=pt.fin (by omega) hg;exact hK s5 _ j h5 q1 q3 c3 q2 (u5.keep rfl)
 ·have hg:i<=j:=by have:=oF hg;omega
  obtain⟨w1,w2⟩:=hij hg;have hlt:i<j:=by
   by_cases e:i=j
   ·rw[e]at w1;omega
   ·omega
  simp only[u_ad (show i<k by omega),u_ad (show j<k by omega),h.rd (show i<l1.length by omega),h.rd (show j<l1.length by omega),qAA];refine h.swap (by omega) (by omega) λs5 h5 u5=>hR s5 h5 (pt.swap (by omega) hlt w1 (by omega)) hlt (u5.keep rfl)
theorem zAAk(h:UAt u0 s db l)(hk:k=l.length)(hl:k<=100000)(hab:a<b)(hb:b<=k)(h1p:a<=p)(h2p:p<b)(hK:∀s' l' m (cf:Bool),UAt u0 s' db l'->PI a b l l'->a<=m->m<b->Parted a b m l'->KB db s s'->K (.tup [.int .i64 ((m:Nat):Int),.bool cf]) s'):
  wC Tryz.prog (XG u0) (cond u0 154 143) [uV db k,.int .i64 (a:Int),.int .i64 (b:Int),.int .i64 (p:Int)] K s:=by
 refine qFk ?_;simp only[qDy,u_ad (show p<k by omega),u_ad (show a<k by omega),h.rd (show p<l.length by omega),h.rd (show a<l.length by omega),qAA];refine h.swap (by omega) (by omega) λs1 h1 u1=>?_;have kp1:KB db s s1:=u1.keep rfl;simp only[add1 (show a<=1000000 by omega),sub1 (show 1<=b by omega) (show b<=1000000 by omega),qAA];have pt1:=Ptn.start (l:=l) hab h1p h2p (by omega);generalize hv:nAt l p=v at pt1;generalize swN l a p=l1 at h1 pt1;refine⟨zAEr s1 l l1 a b (b-1) v,⟨_,a+1,rfl,rfl,pt1,rfl⟩,?_⟩;rintro e t m ⟨i,hy,rfl,pt,rfl⟩;simp only[cI,and_true]at hy;rw[hy];have hn:=pt.pi.len;have c1:=pt.ai;have c2:=pt.ij;have c3:=pt.jb;have big:∀t4 l4 i4 j4,UAt u0 t4 db l4->Ptn a b i4 j4 v l l4->KB db s t4->∃I4:List AV->Hq->Nat->Prop,(∃m,I4 [.int .i64 ((i4:Nat):Int),.int .i64 ((j4:Nat):Int)] t4 m)/\∀(f:Env) (w:Hq) (m4:Nat),I4 [f 10,f 11] w m4->
   qCB (XG u0) u0 (uV db k) (.int .i64 (a:Int)) (f 10) (f 11) I4 m4 K w:=λt4 l4 i4 j4 h4 pt4 kp4=>by
  refine⟨qUJ u0 s db l a b v,⟨_,i4,j4,l4,rfl,h4,pt4,kp4,rfl⟩,?_⟩;clear h4 pt4 kp4 hy;rintro e t m ⟨i0,j0,l1,hy,ht,pt0,kp,rfl⟩;simp only[cI,and_true]at hy;rw[hy.1,hy.2];have hn:=pt0.pi.len;refine⟨zACf t l l1 a b i0 j0 v,⟨_,i0,rfl,rfl,pt0,by omega,rfl⟩,?_⟩;clear hy;rintro e t' m ⟨i,hy,rfl,pt,hi0,hm⟩;simp only[cI,and_true]at hy;rw[hy.1];have c1:=pt.ai;have c2:=pt.ij;have c3:=pt.jb;have nx:(i<=j0->v<=nAt l1 i)->∃I7:List AV->Hq->Nat->Prop,(∃m,I7 [.int .i64 (j0:Int)] t' m)/\∀(f:Env) (w:Hq) (m7:Nat),I7 [f 11] w m7->
    qCA (XG u0) u0 (uV db k) (.int .i64 (a:Int)) (.int .i64 (i:Int)) (f 11) I7 m7 (qUJ u0 s db l a b v) (j0+1-i0) K w:=λhst=>by
   refine⟨zADi t' l l1 a b i j0 v,⟨_,j0,rfl,rfl,pt,hst,by omega,rfl⟩,?_⟩;rintro e t3 m3 ⟨j,hy3,rfl,pt3,hst3,hj0,hm3⟩;simp only[cI,and_true]at hy3;rw[hy3];have d2:=pt3.ij;have d3:=pt3.jb;have st:=λhq:(i<=j->nAt l1 j<v)=>qVn (cf:=false) (K:=K) (R:=λs_57=>oK (qAB .add (.int .i64 (i:Int)) (.int .i64 1)) λv_58=>oK (qAB .sub (.int .i64 (j:Int)) (.int .i64 1)) λv_59=>∃m',m'<j0+1-i0/\qUJ u0 s db l a b v [v_58,v_59] s_57 m') ht pt3 hk hl hb (λq=>⟨hst3 q,hq q⟩) (λs5 l5 m5 q1 q2 q3 q4 q5 q6=>hK s5 l5 m5 false q1 q2 q3 q4 q5 (kp.trans q6)) (λs5 q1 q2 q3 q4=>by simp only[add1 (show i<=1000000 by omega),sub1 (show 1<=j by omega) (show j<=1000000 by omega),qAA];exact⟨_,by omega,i+1,j-1,_,rfl,q1,q2,kp.trans q4,rfl⟩)
   simp only[qCA,qCr,qAA];refine qAE (λhlt=>?_) (λhge=>?_)
   rotate_left
   ·simp only[qBP,hge,qAU,qAO,qAA]
    exact st λq=>by have:=oF hge;omega
   have hlt':i<=j:=by have:=oT hlt;omega
   simp only[u_ad (show j<k by omega),u_ad (show a<k by omega),ht.rd (show j<l1.length by omega),ht.rd (show a<l1.length by omega),qAA];refine qE3 ?_;simp only[qBP,hlt,qAc,qAq,qAA];rw[pt3.piv];refine qAE (λhc=>?_) (λhc=>?_)
   ·have hc:v<=nAt l1 j:=by simpa using hc
    simp only[sub1 (show 1<=j by omega) (show j<=1000000 by omega),qAA];exact⟨_,by omega,j-1,rfl,rfl,pt3.decr hlt' hc,λq=>hst3 (by omega),by omega,rfl⟩
   ·exact st λ_=>by simpa using hc
  simp only[qDJ,qCr,qAA];refine qAE (λhlt=>?_) (λhge=>?_)
  rotate_left
  ·simp only[qBO,hge,qAU,qAO,qAA]
   exact nx λq=>by have:=oF hge;omega
  have hlt':i<=j0:=by have:=oT hlt;omega
  simp only[u_ad (show i<k by omega),u_ad (show a<k by omega),ht.rd (show i<l1.length by omega),ht.rd (show a<l1.length by omega),qAA];refine qE3 ?_;simp only[qBO,hlt,qAc,qAA];rw[pt.piv];refine qAE (λhc=>?_) (λhc=>?_)
  ·have hc:=oT hc
   simp only[add1 (show i<=1000000 by omega),qAA];exact⟨_,by omega,i+1,rfl,rfl,pt.incr hlt' (by omega),by omega,rfl⟩
  ·exact nx λ_=>by have:=oF hc;omega
 have nx:(i<=b-1->v<=nAt l1 i)->∃I2:List AV->Hq->Nat->Prop,(∃m,I2 [.int .i64 ((b-1:Nat):Int)] t m)/\∀(f:Env) (w:Hq) (m2:Nat),I2 [f 11] w m2->
   qB8 (XG u0) u0 (uV db k) (.int .i64 (a:Int)) (.int .i64 (i:Int)) (f 11) I2 m2 K w:=λhst=>by
  refine⟨zADi t l l1 a b i (b-1) v,⟨_,b-1,rfl,rfl,pt,hst,by omega,rfl⟩,?_⟩;rintro e t3 m3 ⟨j,hy3,rfl,pt3,hst3,hj0,hm3⟩;simp only[cI,and_true]at hy3;rw[hy3];have d2:=pt3.ij;have d3:=pt3.jb;have st:=λhq:(i<=j->nAt l1 j<v)=>qVn (cf:=true) (K:=K) (R:=λs_32=>oK (qAB .add (.int .i64 (i:Int)) (.int .i64 1)) λv_33=>oK (qAB .sub (.int .i64 (j:Int)) (.int .i64 1)) λv_34=>∃I4:List AV->Hq->Nat->Prop,(∃m,I4 [v_33,v_34] s_32 m)/\∀(f:Env) (s:Hq) (m4:Nat),I4 [f 10,f 11] s m4->
    qCB (XG u0) u0 (uV db k) (.int .i64 (a:Int)) (f 10) (f 11) I4 m4 K s) h1 pt3 hk hl hb (λq=>⟨hst3 q,hq q⟩) (λs5 l5 m5 q1 q2 q3 q4 q5 q6=>hK s5 l5 m5 true q1 q2 q3 q4 q5 (kp1.trans q6)) (λs5 q1 q2 q3 q4=>by
   simp only[add1 (show i<=1000000 by omega),sub1 (show 1<=j by omega) (show j<=1000000 by omega),qAA];exact big s5 _ (i+1) (j-1) q1 q2 (kp1.trans q4))
  simp only[qB8,qCr,qAA];refine qAE (λhlt=>?_) (λhge=>?_)
  rotate_left
  ·simp only[qBN,hge,qAU,qAO,qAA]
   exact st λq=>by have:=oF hge;omega
  have hlt':i<=j:=by have:=oT hlt;omega
  simp only[u_ad (show j<k by omega),u_ad (show a<k by omega),h1.rd (show j<l1.length by omega),h1.rd (show a<l1.length by omega),qAA];refine qE3 ?_;simp only[qBN,hlt,qAc,qAq,qAA];rw[pt3.piv];refine qAE (λhc=>?_) (λhc=>?_)
  ·have hc:v<=nAt l1 j:=by simpa using hc
   simp only[sub1 (show 1<=j by omega) (show j<=1000000 by omega),qAA];exact⟨_,by omega,j-1,rfl,rfl,pt3.decr hlt' hc,λq=>hst3 (by omega),by omega,rfl⟩
  ·exact st λ_=>by simpa using hc
 simp only[qDN,qCr,qAA];refine qAE (λhlt=>?_) (λhge=>?_)
 rotate_left
 ·simp only[qBL,hge,qAU,qAO,qAA]
  exact nx λq=>by have:=oF hge;omega
 have hlt':i<=b-1:=by have:=oT hlt;omega
 simp only[u_ad (show i<k by omega),u_ad (show a<k by omega),h1.rd (show i<l1.length by omega),h1.rd (show a<l1.length by omega),qAA];refine qE3 ?_;simp only[qBL,hlt,qAc,qAA];rw[pt.piv];refine qAE (λhc=>?_) (λhc=>?_)
 ·have hc:=oT hc
  simp only[add1 (show i<=1000000 by omega),qAA];exact⟨_,by omega,i+1,rfl,rfl,pt.incr hlt' (by omega),rfl⟩
 ·exact nx λ_=>by have:=oF hc;omega
end Go.AM.SG.W
namespace Go.AM.SG.W
open Go Go.AM Go.Proofs
variable {u0:Bool} {s s':Hq} {db:Nat} {l l' l1 l2:List Int} {a b i k p n a0 b0:Nat}
def PdqI(u0:Bool)(s:Hq)(db:Nat)(l:List Int)(a0 b0:Nat):List AV->Hq->Nat->Prop:=λys t m=>
 ∃(a b lim:Nat) (wb wp:Bool) (l1:List Int),ys=[.int .i64 (a:Int),.int .i64 (b:Int),.int .i64 (lim:Int),.bool wb,.bool wp]/\UAt u0 t db l1/\PI a0 b0 l l1/\But a0 b0 a b l1/\KB db s t/\a0<=a/\a<=b/\b<=b0/\lim<=64/\m=b-a
theorem zAEE(k:Nat)(hl:k<=255):∀(n a0 b0 lim:Nat) (l:List Int) (K:AV->Hq->Prop) (s:Hq),b0-a0=n->UAt u0 s db l->k=l.length->a0<=b0->b0<=k->lim<=64->Low a0 b0 l->(∀s' l',UAt u0 s' db l'->PI a0 b0 l l'->Asc a0 b0 l'->KB db s s'->K (.tup []) s')->
  wC Tryz.prog (XG u0) (cond u0 98 95) [uV db k,.int .i64 (a0:Int),.int .i64 (b0:Int),.int .i64 (lim:Int)] K s:=by
 intro n
 induction n using Nat.strongRecOn with
 |_ n ih=>
 intro a0 b0 lim0 l K s hn h hk hab0 hb0 hlim0 hlow hK;refine qDo ?_;refine⟨PdqI u0 s db l a0 b0,⟨_,a0,b0,lim0,true,true,l,rfl,h,.refl _ _ _,.start,.refl _ _,by omega,by omega,by omega,hlim0,rfl⟩,?_⟩;rintro e t m ⟨a,b,lim,wb,wp,l1,hy,h1,pi,but,kp,c1,c2,c3,c4,rfl⟩;simp only[cI,and_true]at hy;obtain⟨y1,y2,y3,y4,y5⟩:=hy;rw[y1,y2,y3,y4,y5];clear y1 y2 y3 y4 y5;have hn1:=pi.len;have fin:∀t2 l2,UAt u0 t2 db l2->PI a b l1 l2->Asc a b l2->KB db t t2->K (.tup []) t2:=λt2 l2 q1 q2 q3 q4=>
  hK t2 l2 q1 (pi.trans (q2.wide c1 c3)) ((but.pi c1 c3 q2).asc q3) (kp.trans q4)
 simp only[qDn,subN c2 (show b<=1000000 by omega),qCr,qAA];refine qAE (λhs=>?_) (λhs=>?_)
 ·exact zABv h1 (by omega) (by omega) c2 (by omega) λs2 l2 q1 q2 q3 q4=>fin s2 l2 q1 q2 q3 q4
 have hs:a+12<b:=by have:=oF hs;omega
 have j5:∀t2 l2 p lim wp,UAt u0 t2 db l2->PI a b l1 l2->KB db t t2->a<=p->p<b->lim<=64->qBX (XG u0) u0 (uV db k) (.int .i64 (a:Int)) (.int .i64 (b:Int)) (.int .i64 ((lim:Nat):Int)) (.bool wb) (.bool wp) (.int .i64 ((b-a:Nat):Int)) (.int .i64 ((p:Nat):Int)) (PdqI u0 s db l a0 b0) (b-a) K t2:=λt2 l2 p lim wp q1 q2 q3 q4 q5 q6=>by
  have hn2:=q2.len;have pi2:=pi.trans (q2.wide c1 c3);have but2:=but.pi c1 c3 q2;have kp2:=kp.trans q3;have low2:Low a b l2:=but2.low (pi2.low hlow) c1 c3;have usual:∀z,qAt (XG u0) u0 (uV db k) (.int .i64 (a:Int)) (.int .i64 (b:Int)) (.int .i64 ((lim:Nat):Int)) (.bool wb) (.bool wp) (.int .i64 ((b-a:Nat):Int)) (.int .i64 ((p:Nat):Int)) (.bool false) z (PdqI u0 s db l a0 b0) (b-a) K t2:=λz=>by
   simp only[qAt,qAU,qAO,qAA];refine zAAk q1 (by omega) (by omega) (by omega) (by omega) q4 q5 λs3 l3 mid cf r1 r2 r3 r4 r5 r6=>?_;have hn3:=r2.len;have pi3:=pi2.trans (r2.wide c1 c3);have but3:=but2.pi c1 c3 r2;have low3:Low a b l3:=r2.low low2;have kp3:=kp2.trans r6;have x0:qAh (.tup [.int .i64 ((mid:Nat):Int),.bool cf]) 0=some (.int .i64 ((mid:Nat):Int)):=rfl;have x1:qAh (.tup [.int .i64 ((mid:Nat):Int),.bool cf]) 1=some (.bool cf):=rfl;have e8:qAB .quo (.int .i64 ((b-a:Nat):Int)) (.int .i64 8)=some (.int .i64 (((b-a) / 8:Nat):Int)):=by rw[qM7 (by omega)];have:((b-a:Nat):Int).tdiv 8=(((b-a) / 8:Nat):Int):=rfl;rw[this,qAV (by omega) (by omega)]
   simp only[x0,x1,subN r3 (show mid<=1000000 by omega),subN (show mid<=b by omega) (show b<=1000000 by omega),e8,qAQ,qAr,qAA];refine qAE (λ_=>?_) (λ_=>?_)
   ·refine ih (mid-a) (by omega) a mid lim l3 _ s3 rfl r1 (by omega) r3 (by omega) q6 (λh0 i i1 i2=>low3 h0 i i1 (by omega)) λs4 l4 w1 w2 w3 w4=>?_
    simp only[add1 (show mid<=1000000 by omega),qAA];exact⟨_,by omega,mid+1,b,lim,_,cf,l4,rfl,w1,pi3.trans (w2.wide c1 (by omega)),but3.left c1 c3 r3 r4 r5 w2 w3,kp3.trans w4,by omega,by omega,c3,q6,rfl⟩
   ·simp only[add1 (show mid<=1000000 by omega),qAA]
    refine ih (b-(mid+1)) (by omega) (mid+1) b lim l3 _ s3 rfl r1 (by omega) (by omega) (by omega) q6 (λ_ i i1 i2=>r5.2 i (by omega) i2) λs4 l4 w1 w2 w3 w4=>?_;exact⟨_,by omega,a,mid,lim,_,cf,l4,rfl,w1,pi3.trans (w2.wide (by omega) c3),but3.right c1 c3 r3 r4 r5 w2 w3,kp3.trans w4,c1,r3,by omega,q6,rfl⟩
  simp only[qBX,qBf,qAA];refine qAE (λhp=>?_) (λhp=>?_)
  rotate_left
  ·rw[hp];exact usual _
  have hp':0<a:=by have:=oT hp;omega
  simp only[sub1 (show 1<=a by omega) (show a<=1000000 by omega),u_ad (show a-1<k by omega),u_ad (show p<k by omega),q1.rd (show a-1<l2.length by omega),q1.rd (show p<l2.length by omega),qAA];refine qE3 ?_;simp only[qAq,qAA,hp]
  by_cases hc:nAt l2 (a-1)<nAt l2 p
  ·have e1:(!decide (nAt l2 (a-1)<nAt l2 p))=false:=by rw[decide_eq_true hc];rfl
   rw[e1];have:=usual .undef;simp only[qAt,qAU,qAc,qAO,qAA]at this ⊢;exact this
  ·have e1:(!decide (nAt l2 (a-1)<nAt l2 p))=true:=by rw[decide_eq_false hc];rfl
   rw[e1];simp only[qAt,qAc,qAY,qAA];refine qWE q1 (by omega) (by omega) (by omega) (by omega) q4 q5 λs3 l3 mid r1 r2 r3 r4 r5 r6 r7=>?_;have pi3:=pi2.trans (r2.wide c1 c3);have but3:=but2.pi c1 c3 r2;have low3:=r2.low low2 hp';have ea:nAt l3 (a-1)=nAt l2 (a-1):=r2.out _ (by omega);refine⟨_,?_,mid,b,lim,wb,wp,l3,rfl,r1,pi3,but3.equal (x:=nAt l2 p) (by omega) r4 (λi i1 i2=>?_) r6,kp2.trans r7,by omega,r4,c3,q6,rfl⟩
   ·omega
   ·have w1:=r5 i i1 i2
    have w2:=low3 i i1 (by omega);omega
 have j2:∀t2 l2 p (z:Int) lim wp,UAt u0 t2 db l2->PI a b l1 l2->KB db t t2->a<=p->p<b->lim<=64->qAs (XG u0) u0 (uV db k) (.int .i64 (a:Int)) (.int .i64 (b:Int)) (.int .i64 ((lim:Nat):Int)) (.bool wb) (.bool wp) (.int .i64 ((b-a:Nat):Int)) (.int .i64 ((p:Nat):Int)) (.int .i64 z) (PdqI u0 s db l a0 b0) (b-a) K t2:=λt2 l2 p z lim wp q1 q2 q3 q4 q5 q6=>by
  have hn2:=q2.len;have low2:Low a b l2:=(but.pi c1 c3 q2).low ((pi.trans (q2.wide c1 c3)).low hlow) c1 c3;have s5:=j5 t2 l2 p lim wp q1 q2 q3 q4 q5 q6;cases wb with
  | false=>
    simp only[qAs,qAO,qA7,qAU,qAA,qA6];exact s5
  | true=>
    cases wp with
    | false=>
      simp only[qAs,qAY,qAO,qA7,qAc,qAU,qAA,qA6];exact s5
    | true=>
      simp only[qAs,qAY,qA7,qAc,qAA,qA6,qAa,qAX,Bool.false_bne];refine qAE (λ_=>?_) (λ_=>s5);refine qUd q1 (by omega) (by omega) (by omega) (by omega) low2 λs3 l3 r r1 r2 r3 r4=>?_;cases r with
      |true=>exact fin s3 l3 r1 (q2.trans r2) (r3 rfl) (q3.trans r4)
      |false=>exact j5 s3 l3 p lim true r1 (q2.trans r2) (q3.trans r4) q4 q5 q6
 have j1:∀t2 l2 lim,UAt u0 t2 db l2->PI a b l1 l2->KB db t t2->lim<=64->qCJ (XG u0) u0 (uV db k) (.int .i64 (a:Int)) (.int .i64 (b:Int)) (.int .i64 ((lim:Nat):Int)) (.bool wb) (.bool wp) (.int .i64 ((b-a:Nat):Int)) (PdqI u0 s db l a0 b0) (b-a) K t2:=λt2 l2 lim q1 q2 q3 q6=>by have hn2:=q2.len;refine qZe q1 (by omega) (by omega) hs (by omega) λs3 p z p1 p2 r1 r2=>?_;have x0:qAh (.tup [.int .i64 ((p:Nat):Int),.int .i64 z]) 0=some (.int .i64 ((p:Nat):Int)):=rfl;have x1:qAh (.tup [.int .i64 ((p:Nat):Int),.int .i64 z]) 1=some (.int .i64 z):=rfl;have k3:KB db t s3:=q3.trans r2.keep;simp only[x0,x1,qAa,qAX,Bool.false_bne,qAA];refine qAE (λ_=>?_) (λ_=>j2 s3 l2 p z lim wp r1 q2 k3 p1 p2 q6);refine zAC4 r1 (by omega) (by omega) (by omega) (by omega) λs4 l4 w1 w2 w3=>?_;simp only[sub1 (show 1<=b by omega) (show b<=1000000 by omega),subN p1 (show p<=1000000 by omega),subN (show p-a<=b-1 by omega) (show b-1<=1000000 by omega),qAA];exact j2 s4 l4 _ 1 lim wp w1 (q2.trans w2) (k3.trans w3) (by omega) (by omega) q6
 simp only[qAa,qAX,Bool.false_bne,qAA];refine qAE (λ_=>?_) (λhz=>?_)
 ·exact zACP h1 (by omega) (by omega) (by omega) (by omega) λs2 l2 q1 q2 q3 q4=>fin s2 l2 q1 q2 q3 q4
 have hz:lim≠0:=λe=>by rw[e]at hz;cases hz
 simp only[qAq,qAA];refine qAE (λ_=>?_) (λ_=>j1 t l1 lim h1 (.refl _ _ _) (.refl _ _) c4);refine qYi h1 (by omega) hl hs (by omega) λs2 l2 q1 q2 q3=>?_;simp only[sub1 (show 1<=lim by omega) (show lim<=1000000 by omega),qAA];exact j1 s2 l2 _ q1 q2 q3 (by omega)
theorem sortU_in{K:AV->Hq->Prop}(h:UAt u0 s db l)(hl:l.length<=255)(hK:∀s' l',UAt u0 s' db l'->l'.Perm l->Asc 0 l'.length l'->KB db s s'->K (.tup []) s'):wC Tryz.prog (XG u0) (cond u0 69 66) [uV db l.length] K s:=by refine qDv ?_;have e1:qAP (uV db l.length)=some l.length:=rfl;simp only[qC7,e1,qQF (show l.length<9223372036854775808 by omega),qAA];refine qXW (by omega) λt t1 _ _=>?_;refine zAEE l.length hl l.length 0 l.length t l _ s (by omega) h rfl (by omega) (Nat.le_refl _) (by omega) (λh0=>absurd h0 (by omega)) λs2 l2 q1 q2 q3 q4=>?_;exact hK s2 l2 q1 q2.perm (by rw[q2.len];exact q3) q4
end Go.AM.SG.W
set_option maxRecDepth 100000
namespace Go.AM.SG.W
open Go Go.AM Go.Proofs
variable {K:AV→Hq→Prop} {s s' s0:Hq} {v:AV} {db:Nat} {l:List Int}
def dI(l:List Int):List Int:=l.foldl (λa x=>if a.getLast?=some x then a else a ++ [x]) []
theorem qSi{x:Int}:dI (l ++ [x])=if(dI l).getLast?=some x then dI l else dI l ++ [x]:=by unfold dI;rw[List.foldl_append];rfl
theorem qXS:∀n (l:List Int),l.length=n->(dI l).getLast?=l.getLast?
 | 0,l,h=>by rw[List.eq_nil_of_length_eq_zero h];rfl
 | n+1,l,h=>by
   have hne:l≠[]:=λe=>by rw[e]at h;cases h
   rw[<- List.dropLast_concat_getLast hne,qSi];split
   ·rename_i e
    rw[e];simp
   ·simp
theorem qXK:∀n (l:List Int),l.length=n->(∀y,y∈dI l↔y∈l)/\(l.Pairwise (·<=·)->(dI l).Pairwise (· < ·))
 | 0,l,h=>by rw[List.eq_nil_of_length_eq_zero h];exact⟨λy=>Iff.rfl,λ_=>.nil⟩
 | n+1,l,h=>by
   have hne:l≠[]:=λe=>by rw[e]at h;cases h
   have hl:l.dropLast.length=n:=by rw[List.length_dropLast];omega
   obtain⟨h1,h2⟩:=qXK n _ hl;have hlast:=qXS n _ hl;rw[<- List.dropLast_concat_getLast hne];generalize l.dropLast=p at *;generalize l.getLast hne=x;rw[qSi];refine⟨λy=>?_,λhs=>?_⟩
   ·split
    ·rename_i e
     rw[h1,List.mem_append,List.mem_singleton];refine⟨.inl,λq=>q.elim id λq=>?_⟩;rw[q];rw[hlast]at e;exact List.mem_of_getLast? e
    ·rw[List.mem_append,h1,List.mem_append]
   ·obtain⟨g1,_,g3⟩:=List.pairwise_append.1 hs
    have ih:=h2 g1;split
    ·exact ih
    ·rename_i hx
     refine List.pairwise_append.2 ⟨ih,by simp,λa ha b hb=>?_⟩;rw[List.mem_singleton.1 hb];have hle:∀y∈p,y<=x:=λy hy=>g3 y hy x (by simp);have hpn:p≠[]:=λe=>by rw[e]at ha;cases ha
     have hl2:p.getLast?=some (p.getLast hpn):=List.getLast?_eq_some_getLast hpn;rw[hlast,hl2]at hx;have hlx:p.getLast hpn<=x:=hle _ (List.getLast_mem hpn);have hlne:p.getLast hpn≠x:=λe=>hx (by rw[e]);have hmax:a<=p.getLast hpn:=by
      have ha2:=(h1 a).1 ha;rw[<- List.dropLast_concat_getLast hpn]at ha2 g1;rcases mP ha2 with q|q
      ·exact(List.pairwise_append.1 g1).2.2 a q _ (by simp)
      ·rw[List.mem_singleton.1 q];exact Int.le_refl _
     omega
theorem dI_mem{y:Int}:y∈dI l↔y∈l:=(qXK _ l rfl).1 y
theorem dI_asc(h:l.Pairwise (·<=·)):(dI l).Pairwise (· < ·):=(qXK _ l rfl).2 h
theorem qXr{k:Nat}(h:k<l.length)(h0:0<k):dI (l.take (k+1))=dI (l.take k)++(if nAt l (k-1)=nAt l k then[]else[nAt l k]):=by
 rw[List.take_add_one,gEY h];show dI (l.take k ++ [l[k]])=_;rw[qSi,qXS _ _ rfl];have e1:(l.take k).getLast?=some (nAt l (k-1)):=by rw[List.getLast?_eq_getElem?,List.length_take,Nat.min_eq_left (by omega),List.getElem?_take,if_pos (by omega)];exact nAt_get? (by omega)
 rw[e1,<- qQC h]
 by_cases q:nAt l (k-1)=nAt l k
 ·rw[if_pos (by rw[q]),if_pos q,List.append_nil]
 ·rw[if_neg (λe=>q (Option.some.inj e)),if_neg q]
theorem qT1(h:l.length<2):dI l=l:=by
 match l,h with
 |[],_=>rfl
 |[x],_=>rfl
 |_::_::_,h=>simp at h;omega
theorem qWx{k:Nat}{x:Int}(h:k<l.length):(l.set k x).take (k+1)=l.take k ++ [x]:=by rw[List.take_add_one,List.getElem?_set_self h,List.take_set_of_le (Nat.le_refl k)];rfl
theorem qXn:∀n:Nat,repl n [AV.int .u32 0]=us (List.replicate n 0)
 | 0=>rfl
 |n+1=>by rw[repl,qXn n];rfl
theorem qZ8:∀l:List Int,qAZ (us l)=true
 |[]=>rfl
 | x::l=>by
   show qAZ (AV.int .u32 x::us l)=true;rw[qSo,qZ8 l];rfl
theorem qXv{A C:List Int}{Q:Hq->Prop}(h:UAt false s db (A++C))(hne:C≠[])(hR:∀s',UAt false s' db (A++List.replicate C.length 0)->Upto db s s'->Q s'):qRG [(.int .u32 0)] 1 (.slc db A.length C.length none 1) (λ_ s=>Q s) s:=by
 unfold qRG;refine⟨rfl,?_⟩;obtain⟨m,hm⟩:∃m,C.length=m+1:=⟨C.length-1,by have:=List.length_pos_iff.2 hne;omega⟩
 rw[hm]at hR ⊢;simp only;rw[qXn];have h':s db=some (false,.cells 41 (us (A++C))):=h;have e2:Nat.ble (A.length+(us (List.replicate (m+1) 0)).length) (us (A++C)).length=true:=by rw[lMY,lMY,List.length_replicate,lAp,hm,Nat.ble_eq];omega
 have e3:qBZ (us (A++C)) A.length (us (List.replicate (m+1) 0))=us (A++List.replicate (m+1) 0):=by unfold qBZ;simp only[us,List.map_append,lMY,List.length_replicate];rw[List.take_left' (by simp),List.drop_eq_nil_of_le (by simp[hm]),List.append_nil]
 have e1:wrN s (.ptr db A.length) (us (List.replicate (m+1) 0))=some (hset s db (false,.cells 41 (us (A++List.replicate (m+1) 0)))):=by rw[<- e3];simp only[wrN,h',e2,qZ8,Bool.and_self,cond_true]
 exact qAD e1 (hR _ qBa λ_ hi=>qAx hi)
theorem UAt.first{A B:List Int}(h:UAt false s db (A++B)):Sl s (.slc db 0 A.length none 1) (us A):=by refine .inr ⟨db,0,none,by rw[lMY],(λc h=>by cases h),λ_=>⟨false,41,_,h,by simp,λi hi=>?_⟩⟩;have e:us (A++B)=us A++us B:=List.map_append;rw[zA,e,List.getElem?_append_left hi]
def CpI0(s:Hq)(l:List Int):List AV->Hq->Nat->Prop:=λys t m=>
 ∃k:Nat,ys=[.int .i64 (k:Int)]/\t=s/\1<=k/\k<=l.length/\dI (l.take k)=l.take k/\m=l.length-k
def CpI1(s:Hq)(db:Nat)(l:List Int)(k0:Nat):List AV->Hq->Nat->Prop:=λys t m=>
 ∃(k k2:Nat) (cur:List Int),ys=[.int .i64 (k:Int),.int .i64 (k2:Int)]/\UAt false t db cur/\KB db s t/\cur.length=l.length/\1<=k2/\k0+k2<=l.length/\k<k0+k2/\(∀j,k0+k2-1<=j->nAt cur j=nAt l j)/\dI (l.take (k0+k2))=cur.take k/\m=l.length-k0-k2
theorem compactU_in(h:Acc 41 s0 s v (us l))(hs:Sub s0 s)(hl:l.length<=1000)(hK:∀v' s',Sl s' v' (us (dI l))->Sub s0 s'->K v' s'):wC Tryz.prog XX 67 [v] K s:=by
 refine qFj ?_;simp only[qD2,h.sl.len,lMY,qAQ,qAA];refine qAE (λhc=>?_) (λhc=>?_)
 ·have hc:l.length<2:=by have:=oT hc;omega
  exact hK v s (by rw[qT1 hc];exact h.sl) hs
 have hc:2<=l.length:=by have:=oF hc;omega
 obtain⟨db,q1,q2,q3⟩:∃db,s0 db=none/\v=uV db l.length/\UAt false s db l:=by
  rcases h with⟨_,q⟩|⟨db,q1,q2,q3⟩
  ·have:l=[]:=List.map_eq_nil_iff.1 q
   rw[this]at hc;simp at hc
  ·rw[lMY]at q2
   exact⟨db,q1,q2,q3⟩
 subst q2;clear h;have keepS:∀{t:Hq},KB db s t->Sub s0 t:=fun {t} kp i e hi=>kp i e (hs i e hi) λw=>by rw[w,q1]at hi;cases hi
 refine⟨CpI0 s l,⟨_,1,rfl,rfl,by omega,by omega,qT1 (by rw[List.length_take];omega),rfl⟩,?_⟩;rintro f t m ⟨k0,hy,rfl,hk1,hk2,hpre,rfl⟩;simp only[cI,and_true]at hy;rw[hy];have lenv:qAP (uV db l.length)=some l.length:=rfl;simp only[qDI,lenv,qAQ,qAA];refine qAE (λhlt=>?_) (λhge=>?_)
 rotate_left
 ·have hge:k0=l.length:=by have:=oF hge;omega
  rw[hge,List.take_length]at hpre;refine hK _ t ?_ hs;rw[hpre];exact Sl.mk q3 (by simp) (by simp)
 have hlt:k0<l.length:=by have:=oT hlt;omega
 simp only[sub1 hk1 (show k0<=1000000 by omega),u_ad hlt,u_ad (show k0-1<l.length by omega),q3.rd hlt,q3.rd (show k0-1<l.length by omega),qAa,qAX,Bool.false_bne,qAA];have step:=qXr hlt (by omega);refine qAE (λhq=>?_) (λhq=>?_)
 rotate_left
 ·have hne:¬nAt l (k0-1)=nAt l k0:=λe=>by rw[e]at hq;simp at hq
  simp only[add1 (show k0<=1000000 by omega),qAA];refine⟨_,by omega,k0+1,rfl,rfl,by omega,by omega,?_,rfl⟩;rw[step,if_neg hne,hpre,List.take_add_one,gEY hlt,qQC hlt];rfl
 have heq:nAt l (k0-1)=nAt l k0:=(eq_of_beq hq).symm;rw[if_pos heq,List.append_nil,hpre]at step;have sl:∀{k:Nat},k<=l.length->qCM 1 (uV db l.length) (some (.int .i64 (k:Int))) none none=some (.slc db k (l.length-k) none 1):=fun {k} hk=>by simp[qCM,bound,bL hk]
 have sh:∀{k:Nat},k<=l.length->qCM 1 (uV db l.length) none (some (.int .i64 (k:Int))) none=some (.slc db 0 k none 1):=fun {k} hk=>by simp[qCM,bound,bL hk]
 simp only[sl hk2,qAA];refine⟨CpI1 t db l k0,⟨_,k0,1,l,rfl,q3,.refl _ _,rfl,by omega,by omega,by omega,λ_ _=>rfl,step,rfl⟩,?_⟩;rintro f t2 m ⟨k,k2,cur,hy,hcur,kp,hlen,c1,c2,c3,c4,c5,rfl⟩;simp only[cI,and_true]at hy;rw[hy.1,hy.2];have lenw:qAP (.slc db k0 (l.length-k0) none 1)=some (l.length-k0):=rfl;simp only[qDQ,lenw,qAQ,qAA];refine qAE (λhlt2=>?_) (λhge2=>?_)
 ·have hlt2:k0+k2<l.length:=by have:=oT hlt2;omega
  have ad2:∀{i:Nat},k0+i<l.length->qAH 1 (.slc db k0 (l.length-k0) none 1) (.int .i64 (i:Int))=some (.ptr db (k0+i)):=fun {i} hi=>by
   have:Nat.blt i (l.length-k0)=true:=by rw[Nat.blt_eq];omega
   simp[qAH,this]
  have r1:=hcur.rd (i:=k0+k2) (by omega);have r2:=hcur.rd (i:=k0+(k2-1)) (by omega);rw[c4 _ (by omega)]at r1;rw[c4 _ (by omega),show k0+(k2-1)=k0+k2-1 by omega]at r2;have ad3:qAH 1 (.slc db k0 (l.length-k0) none 1) (.int .i64 ((k2-1:Nat):Int))=some (.ptr db (k0+k2-1)):=by rw[ad2 (by omega),show k0+(k2-1)=k0+k2-1 by omega]
  have stp:=qXr hlt2 (by omega);simp only[sub1 c1 (show k2<=1000000 by omega),ad2 hlt2,r1,ad3,r2,qAa,qAX,Bool.true_bne,qAA];refine qAE (λhr=>?_) (λhr=>?_)
  ·have he:¬nAt l (k0+k2-1)=nAt l (k0+k2):=λe=>by rw[e]at hr;simp at hr
   rw[if_neg he]at stp;simp only[u_ad (show k<l.length by omega),qAA];refine hcur.put (by omega) λs5 h5 u5=>?_;simp only[qBM,add1 (show k<=1000000 by omega),add1 (show k2<=1000000 by omega),qAA];refine⟨_,by omega,k+1,k2+1,cur.set k (nAt l (k0+k2)),rfl,h5,kp.trans (u5.keep rfl),by rw[List.length_set];exact hlen,by omega,by omega,by omega,λj hj=>?_,?_,rfl⟩
   ·rw[qRy (by omega),if_neg (by omega)]
    exact c4 j (by omega)
   ·rw[show k0+(k2+1)=k0+k2+1 by omega,stp,c5,qWx (by omega)]
  ·have he:nAt l (k0+k2-1)=nAt l (k0+k2):=by
    have:(nAt l (k0+k2) == nAt l (k0+k2-1))=true:=by simpa using hr
    exact(eq_of_beq this).symm
   rw[if_pos he,List.append_nil]at stp;simp only[qBM,add1 (show k2<=1000000 by omega),qAA];exact⟨_,by omega,k,k2+1,cur,rfl,hcur,kp,hlen,by omega,by omega,by omega,λj hj=>c4 j (by omega),by rw[show k0+(k2+1)=k0+k2+1 by omega,stp,c5],rfl⟩
 ·have hge2:k0+k2=l.length:=by have:=oF hge2;omega
  rw[hge2,List.take_length]at c5;have lt:(cur.take k).length=k:=by rw[List.length_take];omega
  have ld:(cur.drop k).length=l.length-k:=by rw[List.length_drop,hlen]
  simp only[sl (show k<=l.length by omega),qAA];have:=qXv (A:=cur.take k) (C:=cur.drop k) (s:=t2) (db:=db) (Q:=λs_30=>oK (qCM 1 (uV db l.length) none (some (.int .i64 (k:Int))) none) λv_31=>K v_31 s_30) (by rw[List.take_append_drop];exact hcur) (λe=>by rw[e]at ld;simp at ld;omega) λs5 h5 u5=>by simp only[sh (show k<=l.length by omega),qAA];refine hK _ s5 ?_ (keepS (kp.trans (u5.keep rfl)));rw[c5];have:=h5.first;rw[lt]at this;exact this
  rw[lt,ld]at this;exact this
theorem sortN_in{u0:Bool}(hK:K (.tup []) s):wC Tryz.prog (XG u0) (cond u0 69 66) [.nilslc] K s:=by refine qDv ?_;have e1:qAP .nilslc=some 0:=rfl;simp only[qC7,e1,qQF (show 0<9223372036854775808 by omega),qAA];refine qXW (n:=0) (by omega) λb b1 _ _=>?_;refine qDo ?_;refine⟨λys t m=>ys=[.int .i64 0,.int .i64 0,.int .i64 (b:Int),.bool true,.bool true]/\t=s,⟨0,rfl,rfl⟩,?_⟩;rintro f t m ⟨hy,rfl⟩;simp only[cI,and_true]at hy;rw[hy.1,hy.2.1,hy.2.2.1,hy.2.2.2.1,hy.2.2.2.2];refine qAD (a:=.int .i64 0) rfl (qAD (a:=.bool true) rfl ?_);refine qCY ?_;refine qAD (a:=.int .i64 1) rfl ?_;refine⟨λys t2 m=>ys=[.int .i64 1]/\t2=t,⟨0,rfl,rfl⟩,?_⟩;rintro f t2 m ⟨hy,rfl⟩;simp only[cI,and_true]at hy;rw[hy];exact qAD (a:=.bool false) rfl hK
end Go.AM.SG.W
set_option maxRecDepth 100000
namespace Go.AM.SK
open Go Go.Proofs
variable {K:AV→Hq→Prop} {s s' s0:Hq} {l b0 d b m c:Nat} {v:AV} {acc:List Int} {k:Int}
abbrev us(l:List Int):List AV:=l.map (AV.int .u32)
structure AS(s0 s:Hq)(l b0 d:Nat)(v:AV)(acc:List Int):Prop where
 lp:s l=some (false,.loop .ready none 13 [(2,.ptr b0 0)] [7] (rfAs 0 (qA5 Tryz.f97)) (rfBo 0 (qA5 Tryz.f97)) d)
 bx:s b0=some (false,.cells 40 [v])
 ac:Acc 42 s0 s v (us acc)
 sub:Sub s0 s
 nl:s0 l=none
 nb:s0 b0=none
 em:acc=[]->v=.nilslc
theorem AS.one(z:AS s0 s l b0 d v acc):v.one=true:=by rcases z.ac with⟨rfl,_⟩|⟨b,_,rfl,_⟩<;>rfl
def KS(s s':Hq)(l b0:Nat)(v:AV)(acc:List Int):Prop:=∀i e,s i=some e->i≠l->i≠b0->(∀b,v=.slc b 0 acc.length none 1->i≠b)->s' i=some e
theorem qZB(z:AS s0 s l b0 d v acc)(hl:acc.length<=1000)(hK:∀s' v',AS s0 s' l b0 d v' (acc ++ [k])->KS s s' l b0 v acc->K (.bool true) s'):qMy Tryz.prog qGk l [.int .u32 k] K s:=by
 have hlb:l≠b0:=by rintro rfl;have:=z.lp;rw[z.bx]at this;cases this
 refine qEQ z.lp ⟨rfl,?_⟩;unfold qO7;rw[z.lp];simp only;have u1:Upto l s (hset s l (false,.loop .busy none 13 [(2,.ptr b0 0)] [7] (rfAs 0 (qA5 Tryz.f97)) (rfBo 0 (qA5 Tryz.f97)) d)):=λ_ hi=>qAx hi;have b1:(hset s l (false,.loop .busy none 13 [(2,.ptr b0 0)] [7] (rfAs 0 (qA5 Tryz.f97)) (rfBo 0 (qA5 Tryz.f97)) d)) l=_:=qBa;generalize hset s l (false,.loop .busy none 13 [(2,.ptr b0 0)] [7] (rfAs 0 (qA5 Tryz.f97)) (rfBo 0 (qA5 Tryz.f97)) d)=s1 at u1 b1;have x1:s1 b0=some (false,.cells 40 [v]):=(u1 b0 hlb.symm).trans z.bx;have n0:∀{i},s0 i≠none->s1 i=s i:=fun {i} hi=>u1 i (λe=>hi (by rw[e];exact z.nl));have a1:Acc 42 s0 s1 v (us acc):=by
  rcases z.ac with h|⟨i,h0,rfl,h⟩
  ·exact .inl h
  ·refine .inr ⟨i,h0,rfl,?_⟩
   rw[u1 i (by rintro rfl;rw[z.lp]at h;cases h)];exact h
 simp only[qAL x1,g0Y,qAA];refine qHc rfl rfl λp s2 hp h2 u2=>?_;have k2:=u2.sub hp;have a2:Acc 42 s0 s2 v (us acc):=by
  rcases a1 with h|⟨i,h0,rfl,h⟩
  ·exact .inl h
  ·exact .inr ⟨i,h0,rfl,k2 _ _ h⟩
 have hpb:p≠b0:=by rintro rfl;rw[x1]at hp;cases hp
 refine a2.app (m:=[.int .u32 k]) (Sl.mk h2 rfl (by simp)) (by simp) (by simp;omega) (λi hi=>?_) λv' s3 a3 k3=>?_
 ·cases e:s0 i with
  |none=>exact absurd e hi
  |some y=>rw[k2 i y ((n0 hi).trans (z.sub i y e))];simp
 have nv:∀{i},(∀cs,s1 i≠some (false,.cells 42 cs))->∀q,v=.slc q 0 (us acc).length none 1->i≠q:=fun {i} hi q hv e=>by
  rcases a1 with⟨h,_⟩|⟨j,h0,rfl,h⟩
  ·rw[h]at hv;cases hv
  ·cases hv
   exact hi _ (e ▸ h)
 have x3:s3 b0=some (false,.cells 40 [v]):=k3 _ _ (k2 _ _ x1) (nv λcs q=>by rw[x1]at q;cases q);have b3:s3 l=_:=k3 _ _ (k2 _ _ b1) (nv λcs q=>by rw[b1]at q;cases q);have one3:v'.one=true:=by rcases a3 with⟨rfl,_⟩|⟨j,_,rfl,_⟩<;>rfl
 refine qA9 x3 (by simp) one3 λs4 x4 u4=>?_;have b4:s4 l=_:=(u4 l hlb).trans b3;unfold endK;rw[b4];simp only;have u5:Upto l s4 (hset s4 l (false,.loop .ready none 13 [(2,.ptr b0 0)] [7] (rfAs 0 (qA5 Tryz.f97)) (rfBo 0 (qA5 Tryz.f97)) d)):=λ_ hi=>qAx hi;have sub3:Sub s0 s3:=λi e hi=>by
  have h0:s0 i≠none:=by rw[hi];simp
  refine k3 i e (k2 i e ((n0 h0).trans (z.sub i e hi))) λq hv=>?_;rintro rfl;rcases a1 with⟨h,_⟩|⟨j,h1,rfl,_⟩
  ·rw[h]at hv;cases hv
  ·cases hv
   exact h0 h1
 refine hK _ v' ⟨qBa,?_,?_,?_,z.nl,z.nb,λh=>by simp at h⟩ λi e hi h1 h2 h3=>?_
 ·rw[u5 b0 hlb.symm];exact x4
 ·rcases a3 with⟨h1,h2⟩|⟨j,h0,rfl,h⟩
  ·exact .inl ⟨h1,by rw[us,List.map_append];exact h2⟩
  ·refine .inr ⟨j,h0,by simp[us],?_⟩
   have hjb:j≠b0:=by rintro rfl;rw[x3]at h;cases h
   have hjl:j≠l:=by rintro rfl;rw[b3]at h;cases h
   rw[u5 j hjl,u4 j hjb,h];simp[us]
 ·intro i e hi
  have h0:s0 i≠none:=by rw[hi];simp
  rw[u5 i (λq=>h0 (by rw[q];exact z.nl)),u4 i (λq=>h0 (by rw[q];exact z.nb))];exact sub3 i e hi
 ·rw[u5 i h1,u4 i h2]
  exact k3 i e (k2 i e ((u1 i h1).trans hi)) λq hv=>h3 q (by rw[hv];simp[us])
theorem qRC{n:Int}{sn:List Nat}:∀{L:List (Nat×Int)},(L.map (·.1)).Nodup->(c,n)∈L->hasN c sn=false->((L.filter λp=>hasN p.1 (sn ++ [c])).map (·.2)).Perm ((L.filter λp=>hasN p.1 sn).map (·.2) ++ [n])
 |[],_,h,_=>by cases h
 | p::L,nd,h,hs=>by
   obtain⟨n1,n2⟩:=List.nodup_cons.1 nd
   by_cases hp:p.1=c
   ·have e:p=(c,n):=by
     rcases mC h with h|h
     ·exact h.symm
     ·exact absurd (List.mem_map.2 ⟨_,h,rfl⟩) (by rw[<- hp];exact n1)
    have rest:L.filter (λq=>hasN q.1 (sn ++ [c]))=L.filter (λq=>hasN q.1 sn):=List.filter_congr λq hq=>by
     rw[qJJ];have:q.1≠c:=λe2=>n1 (List.mem_map.2 ⟨q,hq,by rw[e2];exact hp.symm⟩);cases r:Nat.beq q.1 c with
     |true=>exact absurd (bE r) this
     |false=>rw[Bool.or_false]
    subst e;rw[List.filter_cons_of_pos (by rw[qJJ,Nat.beq_refl,Bool.or_true]),List.filter_cons_of_neg (by rw[hs];simp),rest,List.map_cons];exact(List.perm_append_singleton _ _).symm
   ·have hm:(c,n)∈L:=by
     rcases mC h with h|h
     ·exact absurd (by rw[<- h]) hp
     ·exact h
    have ih:=qRC n2 hm hs;have hh:hasN p.1 (sn ++ [c])=hasN p.1 sn:=by
     rw[qJJ];cases r:Nat.beq p.1 c with
     |true=>exact absurd (bE r) hp
     |false=>rw[Bool.or_false]
    cases q:hasN p.1 sn with
    | true=>
      rw[List.filter_cons_of_pos (by rw[hh,q]),List.filter_cons_of_pos (by rw[q]),List.map_cons,List.map_cons,List.cons_append];exact ih.cons _
    | false=>
      rw[List.filter_cons_of_neg (by rw[hh,q];simp),List.filter_cons_of_neg (by rw[q];simp)];exact ih
theorem qRP:∀{es:List AEnt}{bs:List Nat},ndB es bs=true->(es.map (·.born)).Nodup/\∀e∈es,hasN e.born bs=false
 |[],_,_=>⟨by simp,λe h=>by cases h⟩
 | e::es,bs,h=>by
   unfold ndB at h;simp only[Bool.and_eq_true,Bool.not_eq_true']at h;obtain⟨h1,h2⟩:=h;obtain⟨i1,i2⟩:=qRP h2;have hc:∀x∈es,x.born≠e.born/\hasN x.born bs=false:=λx hx=>by have:=i2 x hx;simp only[hasN,Bool.or_eq_false_iff]at this;exact⟨λq=>(by rw[q,Nat.beq_refl]at this;cases this.1),this.2⟩
   refine⟨List.nodup_cons.2 ⟨λhm=>?_,i1⟩,λx hx=>?_⟩
   ·obtain⟨x,hx,q⟩:=List.mem_map.1 hm
    exact(hc x hx).1 q
   ·rcases mC hx with rfl|hx
    ·exact h1
    ·exact(hc x hx).2
theorem qQ2{n:Nat}{e:AEnt}:∀{es:List AEnt},(es.map (·.born)).Nodup->e∈es->e.born=n->qGp n es=some e
 |[],_,h,_=>by cases h
 | x::es,hn,h,hb=>by
   rw[List.map_cons,List.nodup_cons]at hn;unfold qGp;rcases mC h with rfl|h
   ·rw[hb,Nat.beq_refl];rfl
   ·have:Nat.beq x.born n=false:=by
     cases r:Nat.beq x.born n with
     |false=>rfl
     |true=>exact absurd (List.mem_map.2 ⟨e,h,by rw[hb,bE r]⟩) hn.1
    rw[this];exact qQ2 hn.2 h hb
end Go.AM.SK
set_option maxRecDepth 100000
namespace Go.AM.SK
open Go Go.Proofs
variable {K:AV→Hq→Prop} {s s' s0:Hq} {l b0 d b m c:Nat} {v:AV} {acc ks:List Int} {k:Int} {es:List AEnt} {t1 t2:Bool}
theorem qFG{s:Hq}{b i:Nat}(h:i≠b):hdel s b i=s i:=if_neg h
theorem qV2{s:Hq}{b:Nat}{x:Bool×Blk}(h:s b=none):hdel (hset s b x) b=s:=by
 funext i
 by_cases e:i=b
 ·subst e
  show(if i=i then none else _)=_;rw[if_pos rfl,h]
 ·show(if i=b then none else(if i=b then some x else s i))=_
  rw[if_neg e,if_neg e]
theorem AS.del{q:Nat}(z:AS s0 s l b0 d v acc)(h0:s0 q=none)(h:∀e cs,s q≠some (false,.cells e cs))(h2:q≠l):AS s0 (hdel s q) l b0 d v acc:=by
 refine⟨by rw[qFG (Ne.symm h2)];exact z.lp,?_,?_,λi e hi=>?_,z.nl,z.nb,z.em⟩
 ·rw[qFG (λe=>by rw[<- e,z.bx]at h;exact h _ _ rfl)];exact z.bx
 ·rcases z.ac with h1|⟨i,h1,rfl,h3⟩
  ·exact .inl h1
  ·refine .inr ⟨i,h1,rfl,?_⟩
   rw[qFG (λe=>by rw[<- e,h3]at h;exact h _ _ rfl)];exact h3
 ·rw[qFG (λe=>by rw[<- e,hi]at h0;cases h0)];exact z.sub i e hi
theorem AS.add{q:Nat}{y:Bool×Blk}(z:AS s0 s l b0 d v acc)(h:s q=none):AS s0 (hset s q y) l b0 d v acc:=by
 have k:Sub s (hset s q y):=qHB h;refine⟨k _ _ z.lp,k _ _ z.bx,?_,z.sub.trans k,z.nl,z.nb,z.em⟩;rcases z.ac with h1|⟨i,h1,rfl,h3⟩
 ·exact .inl h1
 ·exact .inr ⟨i,h1,rfl,k _ _ h3⟩
theorem zACJ(z:AS s0 s l b0 d .nilslc [])(hb:s0 b=some (t1,.cells 101 [.map m]))(hm:s0 m=some (t2,.map es c))(hks:qL8 es=some ks)(hl:es.length<=255)(hold:qF3 c es=true)(hnd:ndB es []=true)
  (hK:∀s' v acc,AS s0 s' l b0 d v acc->acc.Perm ks->K (.tup []) s'):wpW Tryz.prog qGk 70 [.yield l,.ptr b 0] K s:=by
 refine qC1 ?_;unfold qA1;obtain⟨hlen,hmem⟩:=qKS hks;obtain⟨nd,_⟩:=qRP hnd;simp only[qAL (z.sub _ _ hb),g0Y,qAA];unfold qXM;simp only[z.sub _ _ hm];intro q hq;have hqm:q≠m:=by rintro rfl;rw[z.sub _ _ hm]at hq;cases hq
 have q0:s0 q=none:=by
  cases e:s0 q with
  |none=>rfl
  |some y=>rw[z.sub _ _ e]at hq;cases hq
 have sq:hset s q (false,.iter (some m) c [] c) q=some (false,.iter (some m) c [] c):=qBa;have sm:hset s q (false,.iter (some m) c [] c) m=some (t2,.map es c):=by rw[qAx (Ne.symm hqm)];exact z.sub _ _ hm
 refine qAD (a:=(q,some m,c,c,es)) ?_ ?_
 ·unfold qRV
  simp only[sq,sm];have a1:Nat.ble c c=true:=bL (Nat.le_refl _);have a3:Nat.blt es.length 900=true:=by rw[Nat.blt_eq];omega
  simp only[a1,hold,a3,Bool.and_self,cond_true]
 let L:List (Nat×Int):=(es.map (·.born)).zip ks
 have hL1:L.map (·.1)=es.map (·.born):=List.map_fst_zip (by rw[lMY,hlen];exact Nat.le_refl _);have hL2:L.map (·.2)=ks:=List.map_snd_zip (by rw[lMY,hlen];exact Nat.le_refl _);have hLn:(L.map (·.1)).Nodup:=by rw[hL1];exact nd
 refine⟨λsn _ h=>∃v acc,AS s0 h l b0 d v acc/\acc.Perm ((L.filter λp=>hasN p.1 sn).map (·.2)),?_,?_⟩
 ·rw[qV2 hq]
  refine⟨.nilslc,[],z,?_⟩;rw[List.filter_eq_nil_iff.2 (λp _=>by simp[hasN])];exact .nil
 rintro sn f s7 ⟨v7,acc7,z7,p7⟩ hq7;simp only at hq7;have m7:s7 m=some (t2,.map es c):=z7.sub _ _ hm;have len7:acc7.length<=255:=by
  have h1:=p7.length_eq;rw[lMY]at h1;have h2:=List.length_filter_le (λp:Nat×Int=>hasN p.1 sn) L;have h3:L.length=es.length:=by rw[<- lMY (f:=(·.1)),hL1,lMY]
  omega
 refine⟨⟨t2,m7⟩,λe he hns=>?_,λhall=>?_⟩
 ·rw[qAY]
  obtain⟨i,hi⟩:=List.mem_iff_getElem?.1 he;obtain⟨n,bv,k1,k2,k3⟩:=hmem i e hi;have hLm:(e.born,n)∈L:=List.mem_iff_getElem?.2 ⟨i,List.getElem?_zip_eq_some.2 ⟨by rw[List.getElem?_map,hi];rfl,k3⟩⟩;have z1:=z7.add (y:=(true,.iter (some m) c (sn ++ [e.born]) c)) hq7;have r1:hset s7 q (true,.iter (some m) c (sn ++ [e.born]) c) q=some (true,.iter (some m) c (sn ++ [e.born]) c):=qBa;have m1:hset s7 q (true,.iter (some m) c (sn ++ [e.born]) c) m=some (t2,.map es c):=by rw[qAx (Ne.symm hqm)];exact m7
  have hent:entD (hset s7 q (true,.iter (some m) c (sn ++ [e.born]) c)) (.ptr q 0)=some (.tup [e.key,e.val]):=by unfold entD;simp only[r1,qQg,m1,Nat.beq_refl,cond_true,qQ2 nd he rfl]
  have x0:qAh (.tup [e.key,e.val]) 0=some e.key:=rfl;simp only[hent,x0,qAA];rw[k1];have hql:q≠l:=by rintro rfl;rw[z7.lp]at hq7;cases hq7
  refine⟨by unfold qSS;rw[z1.lp];rfl,qZB z1 (by omega) λs' v' a ks'=>?_⟩;simp only[qAq,Bool.not_true,qAA,qAO];have hq':s' q=some (true,.iter (some m) c (sn ++ [e.born]) c):=ks' q _ r1 hql (by rintro rfl;rw[z7.bx]at hq7;cases hq7) λb' hv=>by
   rintro rfl;rcases z7.ac with⟨h,_⟩|⟨j,_,rfl,h⟩
   ·rw[h]at hv;cases hv
   ·injection hv with h1
    rw[h1]at h;rw[h]at hq7;cases hq7
  refine⟨v',acc7 ++ [n],a.del q0 (λe' cs h=>by rw[hq']at h;cases h) hql,?_⟩;exact(p7.append_right [n]).trans (qRC hLn hLm hns).symm
 ·rw[qAO]
  refine hK _ _ _ z7 ?_;have:L.filter (λp=>hasN p.1 sn)=L:=List.filter_eq_self.2 λp hp=>by
   have h1:p.1∈es.map (·.born):=by rw[<- hL1];exact List.mem_map.2 ⟨p,hp,rfl⟩
   obtain⟨e,he,h2⟩:=List.mem_map.1 h1;rw[<- h2];exact hall e he
  rw[this,hL2]at p7;exact p7
end Go.AM.SK
set_option maxRecDepth 100000
namespace Go.AM.SK
open Go Go.Proofs
variable {K:AV→Hq→Prop} {s s':Hq} {l b0 d b m c:Nat} {v:AV} {acc ks:List Int} {es:List AEnt} {t1 t2:Bool}
def sq1:Code->Code
 | .seq a _=>a
 |c=>c
def sq2:Code->Code
 | .seq _ a=>a
 |c=>c
def blkB:Code->Code
 | .block _ a=>a
 |c=>c
def rfX:Code->Operand
 | .rangeFunc x _ _ _=>x
 |_=>.tmp 0
def rfP:Code->Array Tmp
 | .rangeFunc _ p _ _=>p
 |_=>#[]
def vcA(K:AV->Hq->Prop)(s:Hq)(b:Nat):Prop:=boxK 40 .nilslc (λb_0 s_1=>AExit.nrm=.nrm/\AExit.nrm=.nrm/\true=true/\isFn Tryz.prog 70=true/\∀l d,s_1 l=none->wpW Tryz.prog qGk 70 [.yield l,.ptr b 0] (λ_ s'=>qY7 l (λs=>oK (rd1 s b_0) λv_4=>K v_4 s) s') (hset s_1 l (false,.loop .ready none 13 [(2,b_0)] [7] (rfAs 0 (qA5 Tryz.f97)) (rfBo 0 (qA5 Tryz.f97)) d))) s
theorem zAC8(h:vcA K s b):wpW Tryz.prog qGk 97 [.nilslc,.fn (.func 70) [] [.ptr b 0]] K s:=by refine zADk (A:=qA8) Tryz.func97 (by kernel_rfl:Tryz.f97.body=some (qA5 Tryz.f97)) (a1:=sq1 (qA5 Tryz.f97)) (a2:=sq1 (sq1 (sq2 (qA5 Tryz.f97)))) (bid:=0) (x:=rfX (blkB (sq2 (sq1 (sq2 (qA5 Tryz.f97)))))) (ps:=rfP (blkB (sq2 (sq1 (sq2 (qA5 Tryz.f97)))))) (asg:=rfAs 0 (qA5 Tryz.f97)) (bo:=rfBo 0 (qA5 Tryz.f97)) (post:=sq2 (sq2 (qA5 Tryz.f97))) (by kernel_rfl) (by kernel_rfl) (by kernel_rfl) (by kernel_rfl) ?_;exact Eq.mpr (β:=vcA K s b) (by kernel_rfl) h
theorem qZP(hb:s b=some (t1,.cells 101 [.map m]))(hm:s m=some (t2,.map es c))(hks:qL8 es=some ks)(hl:es.length<=255)(hold:qF3 c es=true)(hnd:ndB es []=true)
  (hK:∀s' v acc,Acc 42 s s' v (us acc)->Sub s s'->acc.Perm ks->(acc=[]->v=.nilslc)->K v s'):wpW Tryz.prog qGk 97 [.nilslc,.fn (.func 70) [] [.ptr b 0]] K s:=by
 refine zAC8 (qKy rfl λb0 s1 hb0 h1 u1=>⟨rfl,rfl,rfl,by kernel_rfl,λl d hl0=>?_⟩);have k1:=u1.sub hb0;have ll:s l=none:=by
  cases e:s l with
  |none=>rfl
  |some y=>rw[k1 _ _ e]at hl0;cases hl0
 have z:AS s (hset s1 l (false,.loop .ready none 13 [(2,.ptr b0 0)] [7] (rfAs 0 (qA5 Tryz.f97)) (rfBo 0 (qA5 Tryz.f97)) d)) l b0 d .nilslc []:=
  ⟨qBa,by rw[qAx (by rintro rfl;rw[h1]at hl0;cases hl0)];exact h1,.inl ⟨rfl,rfl⟩,k1.trans (qHB hl0),ll,hb0,λ_=>rfl⟩
 refine zACJ z hb hm hks hl hold hnd λs' v acc a p=>?_;unfold qY7;rw[a.lp];refine⟨by simp,rfl,?_⟩;have hlb:l≠b0:=by rintro rfl;have:=a.lp;rw[a.bx]at this;cases this
 have x1:hdel s' l b0=some (false,.cells 40 [v]):=by rw[qFG hlb.symm];exact a.bx
 simp only[qAL x1,g0Y,qAA];refine hK _ v acc ?_ (λi e hi=>?_) p a.em
 ·rcases a.ac with h|⟨i,h0,rfl,h⟩
  ·exact .inl h
  ·refine .inr ⟨i,h0,rfl,?_⟩
   rw[qFG (by rintro rfl;rw[a.lp]at h;cases h)];exact h
 ·rw[qFG (λe2=>by rw[<- e2,hi]at ll;cases ll)]
  exact a.sub i e hi
theorem qSd(hb:s b=some (t1,.cells 101 [.map m]))(hm:s m=some (t2,.map es c))(hks:qL8 es=some ks)(hl:es.length<=255)(hold:qF3 c es=true)(hnd:ndB es []=true):
  wpW Tryz.prog qGk 35 [.fn (.func 70) [] [.ptr b 0]] (λv s'=>(ks=[]->v=.nilslc)/\(ks≠[]->∃d,v=.slc d 0 ks.length none 1/\s' d=some (false,.cells 42 (us32 (qLQ ks))))) s:=by
 refine qJX ?_;unfold qFP;refine qId ?_;unfold qE2;refine qZP hb hm hks hl hold hnd λs1 v acc a k1 p em=>?_;have hlen:=p.length_eq;have hkl:=(qKS hks).1
 by_cases hne:acc=[]
 ·have hk:ks=[]:=List.eq_nil_of_length_eq_zero (by rw[<- hlen,hne];rfl)
  rw[em hne];exact SG.W.sortN_in (u0:=true) ⟨λ_=>rfl,λh=>absurd hk h⟩
 rcases a with⟨rfl,h⟩|⟨d,h0,rfl,h⟩
 ·exact absurd (by simpa using h) hne
 ·have hu:SG.W.UAt true s1 d acc:=h
  have e1:(us acc).length=acc.length:=by simp[us]
  rw[e1];refine SG.W.sortU_in (u0:=true) hu (by omega) λs2 l' hu2 hp hasc _=>?_;have hs:l'=qLQ ks:=by refine qNg (hp.trans (p.trans (qLI ks).symm)) ?_ (qIh ks);refine List.pairwise_iff_getElem.2 λi j hi hj hij=>?_;have:=hasc i j (by omega) hij hj;simpa [SG.nAt,hi,hj]using this
  refine⟨λhk=>?_,λ_=>⟨d,by rw[hlen],?_⟩⟩
  ·exact absurd (List.eq_nil_of_length_eq_zero (by rw[hlen,hk];rfl)) hne
  ·rw[qP5,<- hs];exact hu2
theorem kSorted:KSorted Tryz.prog qGk 35 70 101 42:=⟨λes c ks s b m hks hl hold hnd _ hb hm=>qSd hb hm hks hl hold hnd⟩
end Go.AM.SK
