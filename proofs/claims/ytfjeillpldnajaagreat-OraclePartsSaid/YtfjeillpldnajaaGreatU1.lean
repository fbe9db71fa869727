/- Part U1 of the proof: see the last part. -/
import Derived.Test.YtfjeillpldnajaaGreatA1
set_option linter.unusedVariables false
namespace Go.AM
open Go
inductive Blk where
 |cells (elem:TypeId) (l:List AV)
 |map (es:List AEnt) (clock:Nat)
 |loop (st:LoopState) (pending:Option Code) (nt:Nat) (keep:List (Nat×AV)) (params:List Tmp) (assign body:Code) (d:Nat)
 |deferred (b:Bool)
 |glob (g:Nat) (v:AV)
 |one (v:AV)
 |iter (m:Option Nat) (since:Nat) (seen:List Nat) (stepped:Nat)
abbrev Hq:=Nat->Option (Bool×Blk)
def hset(s:Hq)(b:Nat)(e:Bool×Blk):Hq:=λi=>if i=b then some e else s i
def hdel(s:Hq)(b:Nat):Hq:=λi=>if i=b then none else s i
def add(s t:Hq):Hq:=λi=>match s i with|some e=>some e|none=>t i
def TR(T:Tmps)(env:Nat->AV):Prop:=∀i,tget T i=env i
def BRl:Blk->ABlk->Prop
 | .cells e l,.cells e' c n=>e=e'/\n=l.length/\qAd l=true/\∀i,i<l.length->c.get i=l[i]?
 | .map es k,.map es' k'=>es=es'/\k=k'
 | .loop st pd nt env ps as bo d,.loop st' pd' nt' T ps' as' bo' d'=>st=st'/\pd=pd'/\nt=nt'/\(∀p∈env,tget T p.1=p.2)/\ps=ps'/\as=as'/\bo=bo'/\d=d'
 | .deferred b,.deferred b'=>b=b'
 | .glob g v,.glob g' v'=>g=g'/\v=v'
 | .one v,.one v'=>v=v'
 | .iter m a b c,.iter m' a' b' c'=>m=m'/\a=a'/\b=b'/\c=c'
 |_,_=>False
structure HRel(s:Hq)(H:AH):Prop where
 lo:H.lo<=H.next
 wf:∀i,H.blks.get i≠none->i<H.next
 at_:∀i t b,s i=some (t,b)->(t=false->H.lo<=i)/\∃ab,H.blks.get i=some ab/\BRl b ab
theorem HRel.lt{s:Hq}{H:AH}(h:HRel s H){i:Nat}(hi:s i≠none):i<H.next:=by
 cases e:s i with
 |none=>exact absurd e hi
 |some x=>obtain⟨t,b⟩:=x;obtain⟨_,ab,h1,_⟩:=h.at_ i t b e;exact h.wf i (by rw[h1];simp)
theorem HRel.fresh{s:Hq}{H:AH}(h:HRel s H):s H.next=none:=by
 cases e:s H.next with
 |none=>rfl
 |some x=>exact absurd (h.lt (i:=H.next) (by rw[e];simp)) (Nat.lt_irrefl _)
def Sub(s t:Hq):Prop:=∀i e,s i=some e->t i=some e
theorem HRel.sub{s t:Hq}{H:AH}(h:HRel t H)(hs:Sub s t):HRel s H:=⟨h.lo,h.wf,λi t' b hi=>h.at_ i t' b (hs i _ hi)⟩
def Pers(s s':Hq):Prop:=∀i b,s i=some (true,b)->s' i=some (true,b)
theorem Pers.refl(s:Hq):Pers s s:=λ_ _ h=>h
theorem Pers.trans{a b c:Hq}(h:Pers a b)(k:Pers b c):Pers a c:=λi x hx=>k i x (h i x hx)
variable {α β:Type}
def wpF(m:Nat->M α)(Q:α->Hq->Prop)(s:Hq):Prop:=
 ∀H,HRel s H->∃n a H',m n H=some (a,H')/\∃s',HRel s' H'/\Pers s s'/\Q a s'
def Mono(m:Nat->M α):Prop:=∀n n' H r,n<=n'->m n H=some r->m n' H=some r
theorem Mono.const(m:M α):Mono λ_=>m:=λ_ _ _ _ _ h=>h
theorem wpF.mono{m:Nat->M α}{Q Q':α->Hq->Prop}{s:Hq}(h:wpF m Q s)(hQ:∀a s',Q a s'->Q' a s'):wpF m Q' s:=λH hH=>
 let ⟨n,a,H',h1,s',h2,h3,h4⟩:=h H hH
 ⟨n,a,H',h1,s',h2,h3,hQ a s' h4⟩
theorem wpF.bd{m:Nat->M α}{f:Nat->α->M β}{Q:β->Hq->Prop}{s:Hq}(hm:Mono m)(hf:∀a,Mono λn=>f n a)
  (h:wpF m (λa s'=>wpF (λn=>f n a) Q s') s):wpF (λn=>bd (m n) (f n)) Q s:=by
 intro H hH;obtain⟨n1,a,H1,h1,s1,h2,h3,h4⟩:=h H hH;obtain⟨n2,b,H2,h5,s2,h6,h7,h8⟩:=h4 H1 h2;refine⟨max n1 n2,b,H2,?_,s2,h6,h3.trans h7,h8⟩;show AM.bd _ _ _=_;unfold AM.bd;rw[hm n1 (max n1 n2) H _ (Nat.le_max_left _ _) h1];exact hf a n2 (max n1 n2) H1 _ (Nat.le_max_right _ _) h5
theorem wpF.ret{a:α}{Q:α->Hq->Prop}{s:Hq}(h:Q a s):wpF (λ_=>ret a) Q s:=λH hH=>⟨0,a,H,rfl,s,hH,.refl _,h⟩
theorem wpF.lift{o:Option α}{a:α}{Q:α->Hq->Prop}{s:Hq}(ho:o=some a)(h:Q a s):wpF (λ_=>lift o) Q s:=λH hH=>⟨0,a,H,by rw[ho];rfl,s,hH,.refl _,h⟩
theorem wpF.cond{b:Bool}{m m':Nat->M α}{Q:α->Hq->Prop}{s:Hq}(hb:b=true)(h:wpF m Q s):wpF (λn=>_root_.cond b (m n) (m' n)) Q s:=by rw[hb];exact h
theorem wpF.congr{m m':Nat->M α}{Q:α->Hq->Prop}{s:Hq}(h:wpF m Q s)(e:∀n,m n=m' n):wpF m' Q s:=by rw[show m'=m from funext λn=>(e n).symm];exact h
theorem qCU{s r:Hq}{i:Nat}(h:s i=none):add s r i=r i:=by unfold add;rw[h]
theorem qCK{s r:Hq}{i:Nat}{e:Bool×Blk}(h:s i=some e):add s r i=some e:=by unfold add;rw[h]
theorem wpF.rd{b:Nat}{t:Bool}{x:Blk}{Q:ABlk->Hq->Prop}{s:Hq}(hb:s b=some (t,x))(h:∀ab,BRl x ab->Q ab s):wpF (λ_=>rd b) Q s:=by intro H hH;obtain⟨_,ab,h1,h2⟩:=hH.at_ b t x hb;refine⟨0,ab,{ H with log:=(b,false)::H.log },by simp[AM.rd,h1],s,⟨hH.lo,hH.wf,hH.at_⟩,.refl _,h ab h2⟩
theorem wpF.nw{ab:ABlk}{x:Blk}{Q:Nat->Hq->Prop}{s:Hq}(hx:BRl x ab)(h:∀b,s b=none->Q b (hset s b (false,x))):wpF (λ_=>nw ab) Q s:=by
 intro H hH;have hlo:Nat.ble H.lo H.next=true:=bL hH.lo;refine⟨0,H.next,{ H with blks:=H.blks.put H.next (some ab),next:=H.next+1,log:=(H.next,true)::H.log },by simp[AM.nw,qAw,hlo],_,?_,?_,h _ hH.fresh⟩
 ·refine⟨Nat.le_succ_of_le hH.lo,λi hi=>?_,λi t b hi=>?_⟩
  ·simp only[Tr.get_put]at hi
   by_cases e:H.next=i
   ·subst e;exact Nat.lt_succ_self _
   ·rw[if_neg e]at hi;exact Nat.lt_succ_of_lt (hH.wf i hi)
  ·unfold hset at hi
   by_cases e:i=H.next
   ·subst e
    rw[if_pos rfl]at hi;cases hi;exact⟨λ_=>hH.lo,ab,by simp[Tr.get_put],hx⟩
   ·rw[if_neg e]at hi
    obtain⟨k1,ab',k2,k3⟩:=hH.at_ i t b hi;exact⟨k1,ab',by simp only[Tr.get_put];rw[if_neg (Ne.symm e)];exact k2,k3⟩
 ·intro i b hi
  unfold hset;have:i≠H.next:=λe=>by rw[e,hH.fresh]at hi;cases hi
  rw[if_neg this];exact hi
theorem wpF.wr{b:Nat}{x0 x:Blk}{ab:ABlk}{Q:Unit->Hq->Prop}{s:Hq}(hb:s b=some (false,x0))(hx:BRl x ab)(h:Q () (hset s b (false,x))):wpF (λ_=>wr b ab) Q s:=by
 intro H hH;obtain⟨h0,ab0,h1,h2⟩:=hH.at_ b false x0 hb;have hlo:Nat.ble H.lo b=true:=bL (h0 rfl);refine⟨0,(),{ H with blks:=H.blks.put b (some ab),log:=(b,true)::H.log },by simp[AM.wr,hlo,h1],_,?_,?_,h⟩
 ·refine⟨hH.lo,λi hi=>?_,λi t y hi=>?_⟩
  ·simp only[Tr.get_put]at hi
   by_cases e:b=i
   ·subst e;exact hH.wf b (by rw[h1];simp)
   ·rw[if_neg e]at hi;exact hH.wf i hi
  ·unfold hset at hi
   by_cases e:i=b
   ·subst e
    rw[if_pos rfl]at hi;cases hi;exact⟨h0,ab,by simp[Tr.get_put],hx⟩
   ·rw[if_neg e]at hi
    obtain⟨k1,ab',k2,k3⟩:=hH.at_ i t y hi;exact⟨k1,ab',by simp only[Tr.get_put];rw[if_neg (Ne.symm e)];exact k2,k3⟩
 ·intro i y hi
  unfold hset;have:i≠b:=λe=>by rw[e,hb]at hi;cases hi
  rw[if_neg this];exact hi
theorem wpF.kill{b:Nat}{x0:Blk}{Q:Unit->Hq->Prop}{s:Hq}(hb:s b=some (false,x0))(h:Q () (hdel s b)):wpF (λ_=>kill b) Q s:=by
 intro H hH;obtain⟨h0,ab0,h1,h2⟩:=hH.at_ b false x0 hb;have hlo:Nat.ble H.lo b=true:=bL (h0 rfl);refine⟨0,(),{ H with blks:=H.blks.put b none,log:=(b,true)::H.log },by simp[AM.kill,hlo,h1],_,?_,?_,h⟩
 ·refine⟨hH.lo,λi hi=>?_,λi t y hi=>?_⟩
  ·simp only[Tr.get_put]at hi
   by_cases e:b=i
   ·subst e;exact hH.wf b (by rw[h1];simp)
   ·rw[if_neg e]at hi;exact hH.wf i hi
  ·unfold hdel at hi
   by_cases e:i=b
   ·rw[if_pos e]at hi;cases hi
   ·rw[if_neg e]at hi
    obtain⟨k1,ab',k2,k3⟩:=hH.at_ i t y hi;exact⟨k1,ab',by simp only[Tr.get_put];rw[if_neg (Ne.symm e)];exact k2,k3⟩
 ·intro i y hi
  unfold hdel;have:i≠b:=λe=>by rw[e,hb]at hi;cases hi
  rw[if_neg this];exact hi
theorem Tr.keep{α:Type}(p:Nat->Prop)(t:Tr α):∀a m:Nat,∃t':Tr α,∀i,(p (a+m*i)->t'.get i=t.get i)/\(¬p (a+m*i)->t'.get i=none):=by
 induction t with
 |nil=>intro a m;exact⟨.nil,λi=>⟨λ_=>rfl,λ_=>Tr.get_nil i⟩⟩
 | node v l r ihl ihr=>
   intro a m;obtain⟨l',hl⟩:=ihl (a+m) (2*m);obtain⟨r',hr⟩:=ihr (a+2*m) (2*m);have hv:∃v':Option α,(p a->v'=v)/\(¬p a->v'=none):=by
    by_cases h:p a
    ·exact⟨v,λ_=>rfl,λk=>absurd h k⟩
    ·exact⟨none,λk=>absurd k h,λ_=>rfl⟩
   obtain⟨v',hv1,hv2⟩:=hv;refine⟨.node v' l' r',λi=>?_⟩;cases i with
   |zero=>simp only[Nat.mul_zero,Nat.add_zero];exact⟨hv1,hv2⟩
   | succ j=>
     cases hb:Nat.beq (j % 2) 0 with
     | true=>
       have e:j % 2=0:=bE hb;have e2:a+m*(j+1)=a+m+2*m*(j / 2):=by
        have:j=2*(j / 2):=by omega
        generalize j / 2=q at *;subst this;rw[Nat.mul_add,Nat.mul_one,Nat.mul_comm 2 m,Nat.mul_assoc];omega
       have:=hl (j / 2);rw[<- e2]at this;simpa [Tr.get,hb]using this
     | false=>
       have e:j % 2=1:=by
        have:¬j % 2=0:=λh=>by rw[h]at hb;cases hb
        omega
       have e2:a+m*(j+1)=a+2*m+2*m*(j / 2):=by
        have:j=2*(j / 2)+1:=by omega
        generalize j / 2=q at *;subst this;rw[show 2*q+1+1=2*(q+1)by omega,<- Nat.mul_assoc,Nat.mul_comm m 2,Nat.mul_add,Nat.mul_one];omega
       have:=hr (j / 2);rw[<- e2]at this;simpa [Tr.get,hb]using this
theorem qYD(p:Nat->Prop)(H:AH):∃H0:AH,H0.next=H.next/\H0.lo=H.lo/\∀i,(p i->H0.blks.get i=H.blks.get i)/\(¬p i->H0.blks.get i=none):=by obtain⟨t',h⟩:=Tr.keep p H.blks 0 1;refine⟨{ H with blks:=t' },rfl,rfl,λi=>?_⟩;have:=h i;simpa using this
theorem wpF.framed{m:Nat->M α}{Q:α->Hq->Prop}{s:Hq}(hfr:∀n,Fr (m n))(h:wpF m Q s){H:AH}(hH:HRel s H):
  ∃n a H' s' es,m n H=some (a,H')/\HRel s' H'/\Pers s s'/\Q a s'/\Does es H H'/\(∀i b,(i,b)∈es->s i≠none∨H.next<=i)/\∀i,s i=none->i<H.next->s' i=none/\H'.blks.get i=H.blks.get i:=by
 obtain⟨H0,hn,hl,hk⟩:=qYD (λi=>s i≠none) H;have hH0:HRel s H0:=by
  refine⟨by rw[hn,hl];exact hH.lo,λi hi=>?_,λi t b hi=>?_⟩
  ·rw[hn]
   by_cases e:s i=none
   ·exact absurd ((hk i).2 (λk=>k e)) hi
   ·exact hH.lt e
  ·rw[hl,(hk i).1 (by rw[hi];simp)];exact hH.at_ i t b hi
 obtain⟨n,a,H0',h1,s',h2,h3,h4⟩:=h H0 hH0;obtain⟨es,d,k⟩:=hfr n H0 a H0' h1;have known:∀i b,(i,b)∈es->s i≠none∨H.next<=i:=by
  intro i b hi;rcases d.touch i b hi with e|e
  ·left;intro e2;exact e ((hk i).2 (λq=>q e2))
  ·right;rw[<- hn];exact e.1
 have agree:∀i b,(i,b)∈es->H.blks.get i=H0.blks.get i:=by
  intro i b hi;rcases known i b hi with e|e
  ·rw[(hk i).1 e]
  ·have e1:H.blks.get i=none:=by
    cases q:H.blks.get i with
    |none=>rfl
    |some x=>exact absurd (hH.wf i (by rw[q];simp)) (by omega)
   have e2:s i=none:=by
    cases q:s i with
    |none=>rfl
    |some x=>exact absurd (hH.lt (i:=i) (by rw[q];simp)) (by omega)
   rw[e1,(hk i).2 (λq=>q e2)]
 obtain⟨H',h5,d',n',g'⟩:=k H hn.symm (Nat.le_of_eq hl.symm) agree;have out:∀i,s i=none->i<H.next->s' i=none/\H'.blks.get i=H.blks.get i:=by
  intro i hi hlt;refine⟨?_,d'.same i λhm=>?_⟩
  ·cases q:s' i with
   |none=>rfl
   | some x=>
     obtain⟨t,b⟩:=x;obtain⟨_,ab,q1,_⟩:=h2.at_ i t b q;rcases d.gone i (by rw[q1];simp)with e|e
     ·exact absurd ((hk i).2 (λq=>q hi)) e
     ·omega
  ·rcases known i _ hm with e|e
   ·exact e hi
   ·omega
 refine⟨n,a,H',s',es,h5,⟨?_,λi hi=>?_,λi t b hi=>?_⟩,h3,h4,d',known,out⟩
 ·rw[d'.lo];exact Nat.le_trans hH.lo d'.next
 ·rcases d'.gone i hi with e|e
  ·exact Nat.lt_of_lt_of_le (hH.wf i e) d'.next
  ·exact e.2
 ·obtain⟨q1,ab,q2,q3⟩:=h2.at_ i t b hi
  refine⟨λht=>?_,ab,?_,q3⟩
  ·rw[d'.lo,<- hl,<- d.lo];exact q1 ht
  ·by_cases hm:∃c,(i,c)∈es
   ·obtain⟨c,hc⟩:=hm
    rw[g' i c hc];exact q2
   ·have e1:H0'.blks.get i=H0.blks.get i:=d.same i λhc=>hm ⟨_,hc⟩
    have e2:s i≠none:=by intro e;rw[e1,(hk i).2 (λq=>q e)]at q2;cases q2
    rw[d'.same i λhc=>hm ⟨_,hc⟩,<- (hk i).1 e2,<- e1];exact q2
theorem wpF.frame{m:Nat->M α}{Q:α->Hq->Prop}{s r:Hq}(hfr:∀n,Fr (m n))(h:wpF m Q s)(hd:∀i,r i≠none->s i=none):
  wpF m (λa S=>∃s',S=add s' r/\(∀i,r i≠none->s' i=none)/\Q a s') (add s r):=by
 intro H hH;have hs:Sub s (add s r):=λi e hi=>by unfold add;rw[hi]
 have hrr:∀i t b,r i=some (t,b)->add s r i=some (t,b):=λi t b hi=>by unfold add;rw[hd i (by rw[hi];simp)];exact hi
 obtain⟨n,a,H',s',es,h1,h2,h3,h4,d,_,h6⟩:=wpF.framed hfr h (hH.sub hs);have off:∀i,r i≠none->s' i=none/\H'.blks.get i=H.blks.get i:=by
  intro i hi;refine h6 i (hd i hi) ?_;cases e:r i with
  |none=>exact absurd e hi
  |some x=>obtain⟨t,b⟩:=x;exact hH.lt (by rw[hrr i t b e];simp)
 refine⟨n,a,H',h1,add s' r,⟨h2.lo,h2.wf,λi t b hi=>?_⟩,λi b hi=>?_,s',rfl,λi hi=>(off i hi).1,h4⟩
 ·cases e:s' i with
  |some x=>rw[qCK e]at hi;cases hi;exact h2.at_ i t b e
  | none=>
    rw[qCU e]at hi;have hne:r i≠none:=by rw[hi];simp
    rw[(off i hne).2,d.lo];exact hH.at_ i t b (hrr i t b hi)
 ·cases e:s i with
  |some x=>rw[qCK e]at hi;cases hi;rw[qCK (h3 i b e)]
  | none=>
    rw[qCU e]at hi;have hne:r i≠none:=by rw[hi];simp
    rw[qCU (off i hne).1];exact hi
end Go.AM
namespace Go.AM
open Go
abbrev Env:=Nat->AV
def upd(e:Env)(i:Nat)(v:AV):Env:=λj=>cond (Nat.beq j i) v (e j)
def qJ3(l:List AV):Env:=λi=>l.getD i .undef
def oK{α:Type}(o:Option α)(K:α->Prop):Prop:=match o with|some a=>K a|none=>False
def qAK(v:AV)(p q:Prop):Prop:=match v with | .bool true=>p | .bool false=>q|_=>False
def qAO(c a b:AV):Option AV:=match c with | .bool true=>some a | .bool false=>some b|_=>none
def okX:Operand->Bool
 | .tmp _=>true
 | .const v=>(ofV 2 v).isSome
 | .func _=>true
 | .global _=>false
def evD(env:Env):Operand->AV
 | .tmp t=>env t
 | .const v=>match ofV 2 v with|some a=>a|none=>.undef
 | .func f=>.fn (.func f) [] []
 | .global _=>.undef
def oev(env:Env):Option Operand->Option AV
 |none=>none
 |some x=>some (evD env x)
def rd1(s:Hq):AV->Option AV
 | .ptr b o=>match s b with
   |some (_,.cells _ l)=>l[o]?
   |_=>none
 |_=>none
def qGe(l:List AV)(o n:Nat):Option (List AV):=cond (Nat.ble (o+n) l.length) (some ((l.drop o).take n)) none
def rdN(s:Hq)(n:Nat):AV->Option (List AV)
 | .ptr b o=>match s b with
   |some (_,.cells _ l)=>qGe l o n
   |_=>none
 |_=>none
def wr1(s:Hq)(p v:AV):Option Hq:=match p with
 | .ptr b o=>match s b with
   |some (false,.cells e l)=>cond (Nat.blt o l.length&&v.one) (some (hset s b (false,.cells e (l.set o v)))) none
   |_=>none
 |_=>none
def wrN(s:Hq)(p:AV)(vs:List AV):Option Hq:=match p with
 | .ptr b o=>match s b with
   |some (false,.cells e l)=>cond (Nat.ble (o+vs.length) l.length&&qAd vs) (some (hset s b (false,.cells e (qBG l o vs)))) none
   |_=>none
 |_=>none
def qBA(s:Hq)(n:Nat)(p v:AV):Option Hq:=cond (Nat.beq v.cells.length n) (wrN s p v.cells) none
def newK(elem:TypeId)(cs:List AV)(K:Nat->Hq->Prop)(s:Hq):Prop:=∀b,s b=none->K b (hset s b (false,.cells elem cs))
def boxK(elem:TypeId)(v:AV)(K:AV->Hq->Prop)(s:Hq):Prop:=qAd v.cells=true/\newK elem v.cells (λb=>K (.ptr b 0)) s
def qBb(cells:List AV):List (Nat×Nat×AV)->Option (List AV)
 |[]=>some cells
 |(off,size,v)::rest=>cond (Nat.beq v.cells.length size&&Nat.ble (off+v.cells.length) cells.length) (qBb (qBG cells off v.cells) rest) none
def places(place:Nat->Option (Nat×Nat)):List (Nat×Operand)->Option (List (Nat×Nat×Operand))
 |[]=>some []
 | (i,x)::r=>match place i,places place r with
   |some (off,size),some l=>some ((off,size,x)::l)
   |_,_=>none
def evPl(env:Env):List (Nat×Nat×Operand)->List (Nat×Nat×AV)
 |[]=>[]
 |(o,n,x)::r=>(o,n,evD env x)::evPl env r
def qAC(k:Nat):AV->Option AV
 | .ptr b o=>some (.ptr b (o+k))
 |_=>none
def qY9(agg:Option Nat)(off:Nat)(cs:List AV):Option AV:=match agg with
 |some n=>(qGe cs off n).map .agg
 |none=>cs[off]?
def zAAx(agg:Option Nat)(off:Nat):AV->Option AV
 | .agg cs=>qY9 agg off cs
 |_=>none
def qMg(len n:Nat)(x i:AV):Option AV:=match x,nat? i with
 | .ptr b o,some i=>cond (Nat.blt i len) (some (.ptr b (o+i*n))) none
 |_,_=>none
def qAT(n:Nat)(x i:AV):Option AV:=match x,nat? i with
 | .slc b o len _ es,some i=>cond (Nat.blt i len&&Nat.beq n es) (some (.ptr b (o+i*n))) none
 |_,_=>none
def qWU(len n:Nat)(agg:Option Nat)(x i:AV):Option AV:=match x,nat? i with
 | .agg cs,some i=>cond (Nat.blt i len) (qY9 agg (i*n) cs) none
 |_,_=>none
def qQM(x i:AV):Option AV:=match x,nat? i with
 | .str s,some i=>match s[i]? with
   |some b=>some (.int .u8 b.toNat)
   |none=>none
 |_,_=>none
def qEU(es:Nat)(x:AV)(lo hi mx:Option AV):Option AV:=match x with
 | .slc b o len cap es'=>match bound mx (cap.getD len) (cap.getD len)with
   | some m=>match bound hi len m with
     | some h=>match bound lo 0 h with
       |some l=>cond ((mx.isNone||hi.isSome)&&Nat.beq es' es)
         (match cap,mx with
         |none,none=>some (.slc b (o+l*es') (h-l) none es')
         |_,_=>some (.slc b (o+l*es') (h-l) (some (m-l)) es')) none
       |none=>none
     |none=>none
   |none=>none
 | .nilslc=>match bound lo 0 0,bound hi 0 0,bound mx 0 0 with
   |some _,some _,some _=>cond (mx.isNone||hi.isSome) (some .nilslc) none
   |_,_,_=>none
 |_=>none
def qW4(s:Hq)(n es:Nat)(x:AV)(lo hi mx:Option AV):Option AV:=match x with
 | .ptr b o=>match s b with
   | some (_,.cells _ l)=>cond (Nat.ble (o+n*es) l.length) (match bound mx n n with
     | some m=>match bound hi n m with
       | some h=>match bound lo 0 h with
         |some l=>cond (mx.isNone||hi.isSome) (some (.slc b (o+l*es) (h-l) (some (m-l)) es)) none
         |none=>none
       |none=>none
     |none=>none) none
   |_=>none
 |_=>none
def qAH(op:BinOp)(a b:AV):Option AV:=match a,b with
 | .int k m,.int k' n=>cond (qB6 k k') (arith op k m n) none
 |_,_=>none
def qGt(op:BinOp)(a b:AV):Option AV:=match a,b with
 | .int k m,.int _ n=>qOj op k m n
 |_,_=>none
def eqV(kd:Nat)(cst:Bool)(a b:AV):Option Bool:=match kd,a,b with
 | 0,.int k m,.int k' n=>cond (qB6 k k') (some (eqI m n)) none
 | 1,.bool a,.bool b=>some (a == b)
 | 2,.str a,.str b=>some (a == b)
 | 3,.nilptr,.nilptr=>some true
 | 3,.nilptr,.ptr _ _=>some false
 | 3,.ptr _ _,.nilptr=>some false
 | 4,.nilIface,.nilIface=>cond cst (some true) none
 | 4,.nilIface,.ifc _ _=>some false
 | 4,.ifc _ _,.nilIface=>some false
 | 5,.nilslc,.nilslc=>some true
 | 5,.nilslc,.slc _ _ _ _ _=>some false
 | 5,.slc _ _ _ _ _,.nilslc=>some false
 | 6,.nilmap,.nilmap=>some true
 | 6,.nilmap,.map _=>some false
 | 6,.map _,.nilmap=>some false
 | 7,.nilFunc,.nilFunc=>some true
 | 7,.nilFunc,.fn _ _ _=>some false
 | 7,.fn _ _ _,.nilFunc=>some false
 |_,_,_=>none
def negB(neg:Bool)(r:Option Bool):Option AV:=match r with
 |some b=>some (.bool (cond neg (!b) b))
 |none=>none
def qSL:TypeDesc->Option Nat
 | .int _=>some 0
 | .bool=>some 1
 | .string=>some 2
 | .pointer _=>some 3
 | .interface _=>some 4
 | .slice _=>some 5
 | .map _ _=>some 6
 | .func _ _ _=>some 7
 |_=>none
def isC:Operand->Bool
 | .const _=>true
 |_=>false
def qDk(k:IntKind):AV->Option AV
 | .int _ n=>some (.int k (qBF k n))
 |_=>none
def zACK:AV->Option AV
 | .str s=>some (.str s)
 |_=>none
def zAAS(t:TypeId)(z:Option AV)(ok:Bool):AV->Option AV
 | .ifc t' v=>cond (Nat.beq t' t) (some (cond ok (.tup [v,.bool true]) v)) (cond ok (match z with|some z=>some (.tup [z,.bool false])|none=>none) none)
 | .nilIface=>cond ok (match z with|some z=>some (.tup [z,.bool false])|none=>none) none
 |_=>none
def rdSl(s:Hq)(es:Nat):AV->Option (List AV)
 | .slc b o len _ es'=>cond (Nat.beq es es') (cond (Nat.beq (len*es) 0) (some []) (match s b with
   |some (_,.cells _ l)=>qGe l o (len*es)
   |_=>none)) none
 | .nilslc=>some []
 |_=>none
def qYt(elem:TypeId)(es n:Nat)(cs:List AV)(K:AV->Hq->Prop)(s:Hq):Prop:=
 n<=16777216/\newK elem cs (λb=>K (.slc b 0 n none es)) s
def qUz(elem:TypeId)(b:Nat)(K:Hq->Prop)(s:Hq):Prop:=match s b with
 |some (false,.cells e _)=>e=elem/\K (hdel s b)
 |_=>False
def appK(elem:TypeId)(es:Nat)(x y:AV)(K:AV->Hq->Prop)(s:Hq):Prop:=
 oK (rdSl s es y) λnew=>oK (qAN y) λn=>match x with
  | .nilslc=>match n with
    | 0=>K .nilslc s
    |_+1=>qYt elem es n new K s
  | .slc b o len cap es'=>es=es'/\(match n with
    | 0=>(match cap with|some c=>len<=c|none=>True)/\K x s
    | _+1=>match cap with
      |some c=>cond (Nat.ble (len+n) c) (oK (wrN s (.ptr b (o+len*es)) new) λs=>K (.slc b o (len+n) cap es) s)
        (oK (rdSl s es x) λold=>qYt elem es (len+n) (old++new) K s)
      |none=>oK (rdSl s es x) λold=>qUz elem b (λs=>qYt elem es (len+n) (old++new) K s) s)
  |_=>False
def qUf(z:List AV)(es:Nat)(x:AV)(K:AV->Hq->Prop)(s:Hq):Prop:=match x with
 | .nilslc=>K .undef s
 | .slc b o n _ es'=>es'=es/\(match n with
   | 0=>K .undef s
   |_+1=>oK (wrN s (.ptr b o) (repl n z)) λs=>K .undef s)
 |_=>False
def zADW(es:Nat)(d x:AV)(K:AV->Hq->Prop)(s:Hq):Prop:=oK (qAN x) λm=>match d with
 | .slc b o k _ es'=>es'=es/\m<=k/\(match m with
   | 0=>False
   |_+1=>oK (rdSl s es x) λcs=>oK (wrN s (.ptr b o) cs) λs=>K (.int .i64 m) s)
 |_=>False
def lenD(d:TypeDesc)(x:AV):Option Nat:=match d with
 | .string=>match x with | .str s=>some s.size|_=>none
 | .array n _=>some n
 | .slice _=>qAN x
 |_=>none
def qMC(k:AV):List AEnt->Nat->Option (Option (Nat×AV))
 |[],_=>some none
 | e::es,i=>match qOA (.int .i64) k e.key with
   |some true=>some (some (i,e.val))
   |some false=>qMC k es (i+1)
   |none=>none
def intK(v:AV)(p:Prop):Prop:=match v with
 | .int _ _=>p
 |_=>False
def getM(s:Hq)(m k:AV):Option (Option AV):=match k with
 | .int _ _=>match m with
   | .nilmap=>some none
   | .map b=>match s b with
     | some (_,.map es _)=>match qMC k es 0 with
       |some (some p)=>some (some p.2)
       |some none=>some none
       |none=>none
     |_=>none
   |_=>none
 |_=>none
def retM(z:AV)(ok:Bool):Option AV->AV
 |some v=>cond ok (.tup [v,.bool true]) v
 |none=>cond ok (.tup [z,.bool false]) z
def putE(es:List AEnt)(c:Nat)(k v:AV):Option (List AEnt×Nat):=match qMC k es 0 with
 |some (some p)=>some (modE es p.1 λe=>{ e with key:=k,val:=v },c)
 |some none=>some (es ++ [{ key:=k,val:=v,born:=c }],c+1)
 |none=>none
def putM(s:Hq)(m k v:AV):Option Hq:=match k with
 | .int _ _=>match m with
   | .map b=>match s b with
     | some (false,.map es c)=>match putE es c k v with
       |some p=>some (hset s b (false,.map p.1 p.2))
       |none=>none
     |_=>none
   |_=>none
 |_=>none
def getG(P:Program)(kt:TypeId)(s:Hq)(m k:AV):Option (Option AV):=match P.underlying kt with
 | some d=>cond (aggD d&&qFT P 10 kt k) (match m with
   | .nilmap=>some none
   | .map b=>match s b with
     | some (_,.map es _)=>match qIi P kt d k es 0 with
       |some (some p)=>some (some p.2)
       |some none=>some none
       |none=>none
     |_=>none
   |_=>none) none
 |none=>none
def putG(P:Program)(kt:TypeId)(s:Hq)(m k v:AV):Option Hq:=match P.underlying kt with
 | some d=>cond (aggD d&&qFT P 10 kt k) (match m with
   | .map b=>match s b with
     | some (false,.map es c)=>match qIi P kt d k es 0 with
       |some (some p)=>some (hset s b (false,.map (modE es p.1 λe=>{ e with key:=k,val:=v }) c))
       |some none=>some (hset s b (false,.map (es ++ [{ key:=k,val:=v,born:=c }]) (c+1)))
       |none=>none
     |_=>none
   |_=>none) none
 |none=>none
def mapK(K:AV->Hq->Prop)(s:Hq):Prop:=∀b,s b=none->K (.map b) (hset s b (false,.map [] 0))
def zACH(x:AV)(K:AV->Hq->Prop)(s:Hq):Prop:=match x with
 | .nilmap=>∀b,s b=none->K (.ptr b 0) (hset s b (false,.iter none 0 [] 0))
 | .map m=>match s m with
   |some (_,.map _ c)=>∀b,s b=none->K (.ptr b 0) (hset s b (false,.iter (some m) c [] c))
   |_=>False
 |_=>False
def entD(s:Hq)(x:AV):Option AV:=match x with
 | .ptr r 0=>match s r with
   | some (_,.iter (some m) _ seen stepped)=>match qVH seen with
     | some stamp=>match s m with
       | some (_,.map es c)=>cond (Nat.beq c stepped) (match qJh stamp es with
         |some e=>some (.tup [e.key,e.val])
         |none=>none) none
       |_=>none
     |none=>none
   |_=>none
 |_=>none
def lenM(s:Hq):AV->Option Nat
 | .nilmap=>some 0
 | .map b=>match s b with
   |some (_,.map es _)=>some es.length
   |_=>none
 |_=>none
section
variable (P : Program) (X : Td)
def wpT(t:Task)(Q:Out->Hq->Prop)(s:Hq):Prop:=wpF (λn=>run P X n t) Q s
def wC(f:FuncId)(args:List AV)(K:AV->Hq->Prop)(s:Hq):Prop:=wpT P X (.call f args) (λo s'=>∃v,o=.val v/\K v s') s
def zABW(l:Nat)(args:List AV)(K:AV->Hq->Prop)(s:Hq):Prop:=wpT P X (.round l args) (λo s'=>∃v,o=.val v/\K v s') s
def goK(k:FuncId)(args:List AV)(K:AV->Hq->Prop)(s:Hq):Prop:=isFn P k=true/\wC P X k args K s
def qY3(x:AV)(name:String)(args:List AV)(K:AV->Hq->Prop)(s:Hq):Prop:=match x with
 | .ifc t v=>wpF (λ_=>qHA P t v name) (λp s'=>goK P X p.1 (p.2::args) K s') s
 |_=>False
def qXH(l:Nat)(n:Nat)(s:Hq):Prop:=match s l with
 |some (_,.loop _ _ _ _ ps _ _ _)=>ps.length=n
 |_=>False
def funK(f:AV)(args:List AV)(K:AV->Hq->Prop)(s:Hq):Prop:=match f with
 | .fn (.func k) first cap=>goK P X k (first++args++cap) K s
 | .fn (.method name) [x] _=>qY3 P X x name args K s
 | .yield l=>qXH l args.length s/\zABW P X l args K s
 |_=>False
def qZw(t:TypeId)(f:Nat):Option Nat:=match P.underlying t with
 | some (.struct fields)=>match fields[f]? with
   | some fd=>match sz P fd.type with
     |some (_+1)=>some fd.offset
     |_=>none
   |none=>none
 |_=>none
def qLN(t:TypeId):Option (Option Nat):=match qBV P t with
 | some true=>match sz P t with
   |some n=>some (some n)
   |none=>none
 |some false=>some none
 |none=>none
def qP3(t:TypeId)(p:AV)(K:AV->Prop)(s:Hq):Prop:=match qLN P t with
 |some (some n)=>oK (rdN s n p) λl=>K (.agg l)
 |some none=>oK (rd1 s p) K
 |none=>False
def gldN(s:Hq)(n g:Nat):Option (List AV):=match s g with
 |some (_,.glob g' (.agg l))=>cond (Nat.beq g g'&&Nat.beq n l.length) (some l) none
 |_=>none
def zADw(n:Nat)(x:AV):Option AV:=match x with
 | .slc b o len _ _=>cond (Nat.ble n len&&Nat.blt 0 len) (some (.ptr b o)) none
 |_=>none
def zAEH(t:TypeId)(x:AV):Option AV:=match P.underlying t with
 |some (.array n _)=>zADw n x
 |_=>none
def gldK(t:TypeId)(g:Nat)(K:AV->Prop)(s:Hq):Prop:=match qLN P t with
 |some (some n)=>oK (gldN s n g) λl=>K (.agg l)
 |_=>False
def qYO(t:TypeId)(p v:AV)(K:AV->Hq->Prop)(s:Hq):Prop:=match qLN P t,sz P t with
 |some (some n),_=>oK (qBA s n p v) (K .undef)
 |some none,some 1=>oK (wr1 s p v) (K .undef)
 |_,_=>False
def zcells(t:TypeId):Option (List AV):=match qEQ P t with
 |some z=>cond (qAd z.cells) (some z.cells) none
 |none=>none
def zelem(t:TypeId):Option (List AV×Nat):=match qEQ P t,sz P t with
 |some z,some es=>cond (Nat.beq z.cells.length es&&qAd z.cells) (some (z.cells,es)) none
 |_,_=>none
def qGP(t:TypeId)(a b:AV):Option Bool:=match a,b with
 | .agg _,.agg _=>aEq P 30 t a b
 |_,_=>none
def eqK(neg:Bool)(t:TypeId)(cst:Bool)(a b:AV)(K:AV->Hq->Prop)(s:Hq):Prop:=match P.underlying t with
 | some d=>match qSL d with
   |some kd=>oK (negB neg (eqV kd cst a b)) (K · s)
   |none=>cond (P.eqGuardType P.depth t) False (oK (negB neg (qGP P t a b)) (K · s))
 |none=>False
def qYM(b:Builtin)(ts:List TypeId)(args:List AV)(K:AV->Hq->Prop)(s:Hq):Prop:=match b,ts,args with
 | .append,[st,xt],[x,y]=>match P.underlying st,P.underlying xt with
   | some (.slice elem),some (.slice _)=>match zelem P elem,qFH P elem with
     |some (_,es),some by_=>cond (Nat.ble by_ 65536) (appK elem es x y K s) False
     |_,_=>False
   |_,_=>False
 | .len,t::_,[x]=>match P.underlying t with
   |some (.map _ _)=>oK (lenM s x) λn=>K (.int .i64 n) s
   |some d=>oK (lenD d x) λn=>K (.int .i64 n) s
   |none=>False
 | .clear,t::_,[x]=>match P.underlying t with
   | some (.slice elem)=>match zelem P elem with
     |some (z,es)=>qUf z es x K s
     |none=>False
   |_=>False
 | .copy,t::_,[d,x]=>match P.underlying t with
   | some (.slice elem)=>match sz P elem with
     |some es=>zADW es d x K s
     |none=>False
   |_=>False
 | .min,_,x::xs=>oK (qQq min2A x xs) (K · s)
 | .max,_,x::xs=>oK (qQq max2A x xs) (K · s)
 |_,_,_=>False
def wpOp(env:Env)(K:AV->Hq->Prop)(s:Hq):Op->Prop
 | .move x | .assign x=>K (evD env x) s
 | .pick c a b=>oK (qAO (evD env c) (evD env a) (evD env b)) (K · s)
 | .alloc t=>match zcells P t with
   |some z=>newK t z (λb=>K (.ptr b 0)) s
   |none=>False
 | .box t x=>boxK t (evD env x) K s
 | .build t ps=>match qEQ P t,P.underlying t with
   | some z,some (.struct fields)=>cond (fields.toList.all λf=>(sz P f.type).isSome) (match places (qNl P fields.toList) ps.toList with
     |some l=>oK (qBb z.cells (evPl env l)) λcs=>K (.agg cs) s
     |none=>False) False
   | some z,some (.array _ elem)=>match sz P elem with
     | some n=>match places (λi=>some (i*n,n)) ps.toList with
       |some l=>oK (qBb z.cells (evPl env l)) λcs=>K (.agg cs) s
       |none=>False
     |none=>False
   |_,_=>False
 | .buildSlice t len ps=>match P.underlying t with
   | some (.slice elem)=>match zelem P elem with
     | some (z,es)=>cond (Nat.ble (len*es) 16777216) (match places (λi=>some (i*es,es)) ps.toList with
       |some l=>oK (qBb (repl len z) (evPl env l)) λcs=>qAd cs=true/\newK elem cs (λb=>K (.slc b 0 len (some len) es)) s
       |none=>False) False
     |none=>False
   |_=>False
 | .load t a=>match a with
   | .global g=>gldK P t g (K · s) s
   |a=>qP3 P t (evD env a) (K · s) s
 | .sliceToArrayPointer t x=>oK (zAEH P t (evD env x)) (K · s)
 | .store t a x=>qYO P t (evD env a) (evD env x) K s
 | .nilCheck x=>oK (qAc (evD env x)) (K · s)
 | .binOp op t x y _=>match op with
   | .eql=>eqK P false t (isC x||isC y) (evD env x) (evD env y) K s
   | .neq=>eqK P true t (isC x||isC y) (evD env x) (evD env y) K s
   | .shl | .shr=>oK (qGt op (evD env x) (evD env y)) (K · s)
   |_=>oK (qAH op (evD env x) (evD env y)) (K · s)
 | .unOp op _ x=>oK (qAi op (evD env x)) (K · s)
 | .convert a d x=>match P.underlying a,P.underlying d with
   |some (.int _),some (.int k)=>oK (qDk k (evD env x)) (K · s)
   |some .string,some .string=>oK (zACK (evD env x)) (K · s)
   |_,_=>False
 | .makeInterface t x=>match P.underlying t with
   |some (.interface _)=>False
   |some _=>K (.ifc t (evD env x)) s
   |none=>False
 | .makeFunc f first cap=>match f with
   | .func k=>K (.fn (.func k) (first.toList.map (evD env)) (cap.toList.map (evD env))) s
   | .method n=>K (.fn (.method n) (first.toList.map (evD env)) (cap.toList.map (evD env))) s
   |_=>False
 | .makeSlice t l c=>match P.underlying t with
   | some (.slice elem)=>match zelem P elem,qFH P elem with
     |some (z,es),some by_=>cond (Nat.ble by_ 32768) (oK (nat? (evD env l)) λl=>oK (nat? (evD env c)) λc=>(l<=c/\c<=4294967296)/\newK elem (repl c z) (λb=>K (.slc b 0 l (some c) es)) s) False
     |_,_=>False
   |_=>False
 | .slice t x lo hi mx=>match P.underlying t with
   | some (.slice elem)=>match sz P elem with
     |some es=>oK (qEU es (evD env x) (oev env lo) (oev env hi) (oev env mx)) (K · s)
     |none=>False
   | some (.array n elem)=>match sz P elem with
     |some es=>oK (qW4 s n es (evD env x) (oev env lo) (oev env hi) (oev env mx)) (K · s)
     |none=>False
   |_=>False
 | .fieldAddr t x f=>match qZw P t f with
   |some k=>oK (qAC k (evD env x)) (K · s)
   |none=>False
 | .field t x f=>match P.underlying t with
   | some (.struct fields)=>match fields[f]? with
     | some fd=>match qLN P fd.type with
       |some g=>oK (zAAx g fd.offset (evD env x)) (K · s)
       |none=>False
     |none=>False
   |_=>False
 | .indexAddr t x i=>match P.underlying t with
   | some (.array len elem)=>match sz P elem with
     |some n=>oK (qMg len n (evD env x) (evD env i)) (K · s)
     |none=>False
   | some (.slice elem)=>match sz P elem with
     |some n=>oK (qAT n (evD env x) (evD env i)) (K · s)
     |none=>False
   |_=>False
 | .index t x i=>match P.underlying t with
   | some (.array len elem)=>match sz P elem,qLN P elem with
     |some n,some g=>oK (qWU len n g (evD env x) (evD env i)) (K · s)
     |_,_=>False
   |some .string=>oK (qQM (evD env x) (evD env i)) (K · s)
   |_=>False
 | .typeAssert x _ t ok=>match P.underlying t with
   |some (.interface _)=>False
   |some _=>oK (zAAS t (qEQ P t) ok (evD env x)) (K · s)
   |none=>False
 | .extract x i=>oK (qAl (evD env x) i) (K · s)
 | .makeMap t r=>match P.underlying t with
   | some (.map _ _)=>match r with
     |none=>mapK K s
     |some x=>intK (evD env x) (mapK K s)
   |_=>False
 | .entry x=>oK (entD s (evD env x)) (K · s)
 | .range t x=>match P.underlying t with
   |some (.map _ _)=>zACH (evD env x) K s
   |_=>False
 | .lookup t x k ok=>match P.underlying t with
   | some (.map kt et)=>match P.underlying kt,qEQ P et with
     |some (.int _),some z=>oK (getM s (evD env x) (evD env k)) λr=>K (retM z ok r) s
     |some _,some z=>oK (getG P kt s (evD env x) (evD env k)) λr=>K (retM z ok r) s
     |_,_=>False
   |_=>False
 | .mapUpdate t m k x=>match P.underlying t with
   | some (.map kt _)=>match P.underlying kt with
     |some (.int _)=>oK (putM s (evD env m) (evD env k) (evD env x)) (K .undef)
     |some _=>oK (putG P kt s (evD env m) (evD env k) (evD env x)) (K .undef)
     |none=>False
   |_=>False
 | .insert t m k x=>match P.underlying t with
   | some (.map kt _)=>match P.underlying kt with
     |some (.int _)=>oK (putM s (evD env m) (evD env k) (evD env x)) (K .undef)
     |some _=>oK (putG P kt s (evD env m) (evD env k) (evD env x)) (K .undef)
     |none=>False
   |_=>False
 | .call c=>match c.callee with
   | .builtin b=>qYM P b c.argTypes.toList (c.args.toList.map (evD env)) K s
   | .invoke r name=>qY3 P X (evD env r) name (c.args.toList.map (evD env)) K s
   | .value f=>match f with
     | .func k=>cond (isFn P k) (wC P X k (c.args.toList.map (evD env)) K s) False
     |f=>funK P X (evD env f) (c.args.toList.map (evD env)) K s
 |_=>False
def okOp(o:Op):Bool:=match o with
 | .load _ (.global _)=>true
 |o=>o.operands.toList.all okX
def setK(nt:Nat)(dst:Option Tmp)(env:Env)(v:AV)(K:Env->Prop):Prop:=match dst with
 |none=>K env
 |some d=>cond (Nat.blt d nt) (K (upd env d v)) False
abbrev Kn:=List (Nat×Option Bool)
def forget(kn:Kn):Option Tmp->Kn
 |none=>kn
 |some d=>kn.filter λp=>!Nat.beq p.1 d
def mark(kn:Kn):Option Tmp->Kn
 |none=>kn
 |some d=>(d,none)::forget kn (some d)
def known:Kn->Nat->Option (Option Bool)
 |[],_=>none
 |p::ps,d=>cond (Nat.beq p.1 d) (some p.2) (known ps d)
def qTi(all:List Oper)(j:Nat):Option Nat:=match all[j]? with
 |some o=>o.dst
 |none=>none
def qSZ(all:List Oper)(g:Option (Nat×Bool))(kn:Kn)(env:Env)(go skip:Kn->Prop):Prop:=match g with
 |none=>go kn
 | some (j,w)=>match qTi all j with
   |none=>skip kn
   | some d=>match known kn d with
     |some (some b)=>cond (b == w) (go kn) (skip kn)
     |some none=>skip kn
     |none=>qAK (env d) (cond w (go ((d,some true)::kn)) (skip ((d,some true)::kn))) (cond w (skip ((d,some false)::kn)) (go ((d,some false)::kn)))
def opsE(nt:Nat)(all:List Oper):List Oper->Kn->Env->(Env->Hq->Prop)->Hq->Prop
 |[],_,env,K,s=>K env s
 |o::os,kn,env,K,s=>qSZ all o.guard kn env
   (λkn=>wpOp P X env (λv s=>setK nt o.dst env v λenv=>opsE nt all os (forget kn o.dst) env K s) s o.op)
   (λkn=>setK nt o.dst env .undef λenv=>opsE nt all os (mark kn o.dst) env K s)
def cls:Op->Nat
 | .slice t _ _ _ _=>match P.underlying t with
   |some (.slice _)=>0
   |_=>1
 | .move _ | .assign _ | .pick _ _ _ | .nilCheck _ | .binOp _ _ _ _ _ | .unOp _ _ _ | .convert _ _ _ | .makeInterface _ _ | .makeFunc _ _ _ | .fieldAddr _ _ _ | .field _ _ _ | .indexAddr _ _ _ | .index _ _ _
 | .typeAssert _ _ _ _ | .extract _ _ | .build _ _ | .sliceToArrayPointer _ _=>0
 | .load _ _=>1
 | .lookup _ _ _ _=>1
 | .alloc _ | .box _ _ | .buildSlice _ _ _ | .makeSlice _ _ _ | .makeMap _ _=>2
 | .call c=>match c.callee with
   | .builtin .min | .builtin .max=>0
   | .builtin .len=>match c.argTypes.toList with
     | t::_=>(match P.underlying t with
       |some (.slice _)=>0
       |_=>1)
     |[]=>1
   | .builtin .append=>2
   | .builtin _=>3
   |_=>2
 |_=>3
def clsL(l:List Oper):List Nat:=l.map λo=>cls P o.op
def loose(cs mks:List Nat)(i:Nat):Bool:=(List.range cs.length).any λj=>!Nat.beq i j&&(!Nat.beq (cs.getD j 0) 0&&!Nat.testBit (mks.getD (max i j) 0) (min i j))
def memN(i:Nat):List Nat->Bool
 |[]=>false
 |j::l=>cond (Nat.beq i j) true (memN i l)
def mild(wl cs mks:List Nat)(i:Nat):Bool:=Nat.blt (cs.getD i 0) 2||(Nat.beq (cs.getD i 0) 2&&loose cs mks i&&!memN i wl)
def isSt:Op->Bool
 | .store _ _ _=>true
 |_=>false
def isLd:Op->Bool
 | .load _ _=>true
 |_=>false
def isNw:Op->Bool
 | .alloc _ | .box _ _=>true
 |_=>false
def wld(wl cs:List Nat)(i:Nat):Bool:=memN i wl&&Nat.beq (cs.getD i 0) 2
def sft(wl:List Nat)(all:List Oper)(cs mks:List Nat)(i:Nat):Bool:=match all[i]? with
 |some o=>(isSt o.op&&loose cs mks i)||wld wl cs i
 |none=>false
def soft(wl:List Nat)(all:List Oper)(cs mks:List Nat)(i:Nat):Bool:=mild wl cs mks i||sft wl all cs mks i
def watched(wl:List Nat)(all:List Oper)(cs mks:List Nat)(i:Nat):Bool:=match all[i]? with
 |some o=>isLd o.op&&(List.range cs.length).any λj=>Nat.blt i j&&sft wl all cs mks j&&!Nat.testBit (mks.getD j 0) i
 |none=>false
def tch(wl:List Nat)(all:List Oper)(cs mks:List Nat)(i:Nat):Bool:=watched wl all cs mks i||sft wl all cs mks i||(mild wl cs mks i&&match all[i]? with
 |some o=>isNw o.op
 |none=>false)
def qNX(wl:List Nat)(ops:Array Oper)(cs mks:List Nat):Bool:=(List.range cs.length).all λj=>(List.range j).all λi=>Nat.testBit (mks.getD j 0) i ||
 (match ops[i]?,ops[j]? with
  |some p,some o=>Oper.apart ops p o&&(Nat.beq (cs.getD i 0) 0||(Nat.beq (cs.getD j 0) 0||((soft wl ops.toList cs mks i&&mild wl cs mks j)||(tch wl ops.toList cs mks i&&sft wl ops.toList cs mks j))))
  |_,_=>false)
def minus(s h:Hq):Hq:=λb=>if h b=none then s b else none
def rest(s r:Hq):Hq:=λb=>if r b=none then s b else none
def qEH:Hq:=λ_=>some (false,.deferred true)
def qOJ:AV->Nat
 | .ptr b _=>b
 |_=>0
def qL2(env:Env):Op->Nat
 | .load _ a=>match a with
   | .global g=>g
   |a=>qOJ (evD env a)
 | .store _ a _=>qOJ (evD env a)
 |_=>0
def frz(s:Hq):Hq:=λb=>match s b with
 |some (_,x)=>some (true,x)
 |none=>none
def cutH:List (Hq×Hq)->Hq->Hq
 |[],s=>s
 |p::l,s=>cutH l λb=>if p.1 b=none/\p.2 b≠none then none else s b
def qCl(mk:Nat):List (Nat×Hq×Hq)->List (Hq×Hq)
 |[]=>[]
 |p::l=>cond (Nat.testBit mk p.1) (qCl mk l) (p.2::qCl mk l)
def opsQ(wl:List Nat)(nt:Nat)(all:List Oper)(cs mks:List Nat):List Oper->Nat->List (Nat×Hq×Hq)->List (Nat×Hq×Hq)->Kn->Env->(Env->Hq->Prop)->Hq->Prop
 |[],_,_,_,_,env,K,s=>K env s
 |o::os,i,done,rds,kn,env,K,s=>qSZ all o.guard kn env
   (λkn=>match cls P o.op with
    | 0=>wpOp P X env (λv _=>setK nt o.dst env v λenv=>opsQ wl nt all cs mks os (i+1) done rds (forget kn o.dst) env K s) s o.op
    | 1=>wpOp P X env (λv _=>setK nt o.dst env v λenv'=>opsQ wl nt all cs mks os (i+1) done (cond (watched wl all cs mks i) (rds ++ [(i,hdel s (qL2 env o.op),s)]) rds) (forget kn o.dst) env' K s) (cutH (qCl (mks.getD i 0) done) s) o.op
    | _=>cond (mild wl cs mks i)
      (wpOp P X env (λv s2=>(∀b,s b≠none->cutH (qCl (mks.getD i 0) done) s b=none->s2 b=none)->setK nt o.dst env v λenv=>opsQ wl nt all cs mks os (i+1) (done ++ [(i,s,add s s2)]) rds (forget kn o.dst) env K (add s s2)) (frz (cutH (qCl (mks.getD i 0) done) s)) o.op)
      (cond (wld wl cs i)
       (∃h:Hq,(∀b,h b≠none->s b≠none)/\wpOp P X env (λv s2=>(∀b,s b≠none->cutH (qCl (mks.getD i 0) (done++rds)) (minus s h) b=none->s2 b=none)->setK nt o.dst env v λenv=>opsQ wl nt all cs mks os (i+1) (done ++ [(i,h,qEH)]) rds (forget kn o.dst) env K (add s2 (rest s (cutH (qCl (mks.getD i 0) (done++rds)) (minus s h))))) (cutH (qCl (mks.getD i 0) (done++rds)) (minus s h)) o.op)
      (cond (sft wl all cs mks i)
       (cutH (qCl (mks.getD i 0) (done++rds)) s (qL2 env o.op)≠none/\wpOp P X env (λv s2=>setK nt o.dst env v λenv'=>opsQ wl nt all cs mks os (i+1) (done ++ [(i,hdel s (qL2 env o.op),s)]) rds (forget kn o.dst) env' K s2) s o.op)
       (wpOp P X env (λv s=>setK nt o.dst env v λenv=>opsQ wl nt all cs mks os (i+1) done rds (forget kn o.dst) env K s) s o.op))))
   (λkn=>setK nt o.dst env .undef λenv=>opsQ wl nt all cs mks os (i+1) done rds (mark kn o.dst) env K s)
end
end Go.AM
namespace Go.AM
open Go
variable {α β:Type}
def LeM(m m':M α):Prop:=∀H r,m H=some r->m' H=some r
theorem LeM.refl(m:M α):LeM m m:=λ_ _ h=>h
theorem LeM.bd{m m':M α}{f f':α->M β}(hm:LeM m m')(hf:∀a,LeM (f a) (f' a)):LeM (bd m f) (bd m' f'):=by intro H r h;obtain⟨a,H1,h1,h2⟩:=qAQ h;show AM.bd _ _ _=_;unfold AM.bd;rw[hm H _ h1];exact hf a H1 r h2
theorem LeM.cond{b:Bool}{x x' y y':M α}(hx:LeM x x')(hy:LeM y y'):LeM (_root_.cond b x y) (_root_.cond b x' y'):=by cases b<;>assumption
theorem LeM.capture{m m':M α}(hm:LeM m m'):LeM (capture m) (capture m'):=by
 intro H r h;unfold AM.capture at h ⊢;split at h
 ·cases h
 ·rename_i a H' e
  rw[hm _ _ e];exact h
theorem LeM.outVal{m m':M Out}(h:LeM m m'):LeM (outVal m) (outVal m'):=LeM.bd h λ_=>LeM.refl _
section
variable {P : Program} {ih ih' : Task → M Out} (hih : ∀ t, LeM (ih t) (ih' t))
include hih
theorem qQc(x:ANext):LeM (qEi ih x) (qEi ih' x):=by unfold qEi;split<;>first|exact LeM.refl _|exact LeM.outVal (hih _)
theorem qJz(nt:Nat)(all:List Oper)(o:Oper)(T:Tmps):LeM (qHv P ih nt all o T) (qHv P ih' nt all o T):=by
 refine LeM.bd ?_ λ_=>LeM.refl _;unfold qDZ;split
 ·exact LeM.bd (LeM.refl _) λ_=>qQc hih _
 ·exact LeM.refl _
 ·exact LeM.refl _
theorem qS2(nt:Nat)(all:List Oper):∀(l:List Oper) (T:Tmps),LeM (opsA P ih nt all l T) (opsA P ih' nt all l T)
 |[],_=>LeM.refl _
 |_::l,_=>LeM.bd (qJz hih _ _ _ _) λ_=>qS2 nt all l _
theorem qQT(nt:Nat)(all:Array Oper):∀(l:List Oper) (mks:List Nat) (done:List (Oper×List (Nat×Bool))) (T:Tmps),LeM (opsD P ih nt all l mks done T) (opsD P ih' nt all l mks done T)
 |[],_,_,_=>LeM.refl _
 |_::_,[],_,_=>LeM.refl _
 |_::l,_::mks,_,_=>LeM.bd (LeM.capture (qJz hih _ _ _ _)) λ_=>LeM.cond (qQT nt all l mks _ _) (LeM.refl _)
theorem qWE(nt:Nat)(r:Option Nat)(s:MapStep)(T:Tmps)(ms:List Mk):LeM (qJQ ih nt r s T ms) (qJQ ih' nt r s T ms):=by have:=hih;exact LeM.refl (fail:M Out)
theorem qV5(nt:Nat)(r:Option Nat)(c:Code)(T:Tmps)(ms:List Mk):LeM (qA7 P ih nt r c T ms) (qA7 P ih' nt r c T ms):=by
 unfold qA7
 repeat' first|exact LeM.refl _|exact hih _|exact qWE hih _ _ _ _ _|exact LeM.outVal (hih _)|exact qQT hih _ _ _ _ _ _|exact qS2 hih _ _ _ _|(refine LeM.cond ?_ ?_)|(refine LeM.bd ?_ λ_=>?_)|split
theorem qSQ(k:FuncId)(args:List AV):LeM (qKP P ih k args) (qKP P ih' k args):=by
 unfold qKP
 repeat' first|exact LeM.refl _|exact hih _|(refine LeM.cond ?_ ?_)|(refine LeM.bd ?_ λ_=>?_)|split
theorem qCn:∀l:List Mk,LeM (qAz P ih l) (qAz P ih' l)
 |[]=>LeM.refl _
 | .mark _::l=>LeM.bd (LeM.refl _) λ_=>by
   split
   ·exact LeM.bd (LeM.refl _) λ_=>qCn l
   ·exact LeM.refl _
 | .call _ _::l=>LeM.bd (qSQ hih _ _) λ_=>qCn l
theorem qVk(f:FuncId)(args:List AV):LeM (qBo P ih f args) (qBo P ih' f args):=by
 unfold qBo
 repeat' first|exact LeM.refl _|exact hih _|exact qCn hih _|(refine LeM.cond ?_ ?_)|(refine LeM.bd ?_ λ_=>?_)|split
theorem qTD(l:Nat)(args:List AV):LeM (qGp ih l args) (qGp ih' l args):=by
 unfold qGp
 repeat' first|exact LeM.refl _|exact hih _|(refine LeM.bd ?_ λ_=>?_)|split
theorem qVW{X:Td}(t:Task):LeM (qJZ P X ih t) (qJZ P X ih' t):=by
 cases t with
 |code=>exact qV5 hih _ _ _ _ _
 | call f args=>
   show LeM (match X f with
    |some g=>bd (g args) λv=>ret (.val v)
    |none=>qBo P ih f args) (match X f with
    |some g=>bd (g args) λv=>ret (.val v)
    |none=>qBo P ih' f args)
   split
   ·exact LeM.refl _
   ·exact qVk hih _ _
 |round=>exact qTD hih _ _
end
theorem qDF{P:Program}{X:Td}:∀(n:Nat) (t:Task),LeM (run P X n t) (run P X (n+1) t)
 | 0,_=>λH _ h=>(qAF (H:=H) h).elim
 |n+1,t=>qVW (qDF n) t
theorem qCC{m:Nat->M α}(h:∀n,LeM (m n) (m (n+1))):Mono m:=by
 intro n n' H r hle hr
 induction hle with
 |refl=>exact hr
 |step _ ih=>exact h _ H r ih
theorem qDR{P:Program}{X:Td}(t:Task):Mono λn=>run P X n t:=qCC λn=>qDF n t
theorem qR0{P:Program}{X:Td}(x:ANext):Mono λn=>qEi (run P X n) x:=qCC λn=>qQc (qDF n) x
theorem qOM{P:Program}{X:Td}(nt:Nat)(all l:List Oper)(T:Tmps):Mono λn=>opsA P (run P X n) nt all l T:=qCC λn=>qS2 (qDF n) nt all l T
theorem qCr:∀{a b:List AV},qAd a=true->qAd b=true->qAd (a++b)=true
 |[],_,_,h=>h
 | x::a,b,h1,h2=>by
   simp only[qAd,Bool.and_eq_true]at h1;simp only[List.cons_append,qAd,Bool.and_eq_true];exact⟨h1.1,qCr h1.2 h2⟩
theorem qOD{z:List AV}(h:qAd z=true):∀n,qAd (repl n z)=true
 | 0=>rfl
 |n+1=>qCr h (qOD h n)
theorem qEe:∀{l:List AV},qAd l=true->∀x∈l,x.one=true
 |[],_,_,h=>by cases h
 | y::l,h,x,hx=>by
   simp only[qAd,Bool.and_eq_true]at h;rcases mC hx with e|e
   ·rw[e];exact h.1
   ·exact qEe h.2 x e
theorem qJb:∀{l:List AV},(∀x∈l,x.one=true)->qAd l=true
 |[],_=>rfl
 | y::l,h=>by
   simp only[qAd,Bool.and_eq_true];exact⟨h y (by simp),qJb λx hx=>h x (by simp[hx])⟩
variable {P:Program} {s:Hq}
theorem qAj{o:Option α}{K:α->Prop}(h:oK o K):∃a,o=some a/\K a:=by
 cases o with
 |none=>exact h.elim
 |some a=>exact⟨a,rfl,h⟩
theorem qTp{l r:List AV}{o n:Nat}(h:qGe l o n=some r):o+n<=l.length/\r=(l.drop o).take n:=by unfold qGe at h;obtain⟨h1,h2⟩:=qAb h;exact⟨Nat.le_of_ble_eq_true h1,(Option.some.inj h2).symm⟩
theorem qPO{c:Tr AV}{l:List AV}(hc:∀i,i<l.length->c.get i=l[i]?):∀(n o:Nat),o+n<=l.length->qEk c o n=some ((l.drop o).take n)
 | 0,o,_=>by simp[qEk]
 | n+1,o,h=>by
   have h1:=hc o (by omega);rw[gE (by omega)]at h1;rw[qEk,h1];simp only[qPO hc n (o+1) (by omega)];rw[List.drop_eq_getElem_cons (by omega:o<l.length),List.take_succ_cons]
theorem qIv{b o n:Nat}{l:List AV}{Q:List AV->Hq->Prop}(h:rdN s n (.ptr b o)=some l)(hQ:qAd l=true->Q l s):wpF (λ_=>qCM b o n) Q s:=by
 unfold rdN at h;simp only at h;split at h
 ·rename_i t e c hb
  obtain⟨h1,rfl⟩:=qTp h;unfold qCM;refine wpF.bd (.const _) (λ_=>.const _) (wpF.rd hb λab hab=>?_);cases ab with
  | cells e' c' n'=>
    obtain⟨_,_,h2,h3⟩:=hab;exact wpF.lift (qPO h3 n o h1) (hQ (qJb λx hx=>qEe h2 x (List.mem_of_mem_drop (List.mem_of_mem_take hx))))
  |_=>exact hab.elim
 ·cases h
theorem qXR{b o:Nat}{v:AV}(h:rd1 s (.ptr b o)=some v):∃t e l,s b=some (t,.cells e l)/\l[o]?=some v:=by
 unfold rd1 at h;simp only at h;split at h
 ·rename_i t e l hb;exact⟨t,e,l,hb,h⟩
 ·cases h
theorem qXQ{t:TypeId}{p:AV}{Q:AV->Hq->Prop}(h:qP3 P t p (Q · s) s):wpF (λ_=>(match p with | .ptr b o=>qHk P t b o|_=>fail)) Q s:=by
 unfold qP3 qLN at h;cases ha:qBV P t with
 |none=>simp only[ha]at h
 | some ag=>
   cases ag with
   | true=>
     simp only[ha]at h;cases hz:sz P t with
     |none=>simp only[hz]at h
     | some n=>
       simp only[hz]at h;obtain⟨l,h1,h2⟩:=qAj h;cases p with
       | ptr b o=>
         simp only[qHk,ha,hz];exact wpF.bd (.const _) (λ_=>.const _) (qIv h1 λ_=>wpF.ret h2)
       |_=>simp[rdN]at h1
   | false=>
     simp only[ha]at h;obtain⟨v,h1,h2⟩:=qAj h;cases p with
     | ptr b o=>
       simp only[qHk,ha];obtain⟨t',e,l,hb,hl⟩:=qXR h1;refine wpF.bd (.const _) (λ_=>.const _) (wpF.rd hb λab hab=>?_);cases ab with
       | cells e' c' n'=>
         obtain⟨_,_,_,h3⟩:=hab;have hlt:o<l.length:=(gS hl).1;exact wpF.lift (by rw[h3 o hlt,hl]) h2
       |_=>exact hab.elim
     |_=>simp[rd1]at h1
theorem qIy(l:List AV)(o:Nat)(vs:List AV)(h:o+vs.length<=l.length):(qBG l o vs).length=l.length:=by unfold qBG;simp;omega
theorem qMO(l:List AV)(o:Nat)(vs:List AV)(h:o+vs.length<=l.length)(i:Nat):(qBG l o vs)[i]?=if o<=i/\i<o+vs.length then vs[i-o]? else l[i]?:=by
 unfold qBG;have h1:(l.take o).length=o:=by simp;omega
 by_cases hi:i<o
 ·rw[List.append_assoc,List.getElem?_append_left (by omega),if_neg (by omega),List.getElem?_take,if_pos hi]
 ·by_cases hj:i<o+vs.length
  ·rw[if_pos ⟨by omega,hj⟩,List.append_assoc,List.getElem?_append_right (by omega),h1,List.getElem?_append_left (by omega)]
  ·rw[if_neg (by omega),List.getElem?_append_right (by simp;omega),List.getElem?_drop]
   congr 1
   simp;omega
theorem qRj(l:List AV)(o:Nat)(v:AV)(h:o<l.length):qBG l o [v]=l.set o v:=by
 apply List.ext_getElem?;intro i;rw[qMO _ _ _ (by simp;omega),List.getElem?_set]
 by_cases e:o=i
 ·subst e;simp[h]
 ·rw[if_neg (by simp;omega),if_neg e]
theorem qDL{b o:Nat}{vs:List AV}{s':Hq}{Q:Unit->Hq->Prop}(h:wrN s (.ptr b o) vs=some s')(hQ:Q () s'):wpF (λ_=>qB2 b o vs) Q s:=by
 unfold wrN at h;simp only at h;split at h
 ·rename_i e l hb
  obtain⟨h1,h2⟩:=qAb h;cases h2;obtain⟨h3,h4⟩:=Bool.and_eq_true_iff.1 h1;have h3':=Nat.le_of_ble_eq_true h3;unfold qB2;refine wpF.bd (.const _) (λ_=>.const _) (wpF.rd hb λab hab=>?_);cases ab with
  | cells e' c' n'=>
    obtain⟨rfl,rfl,h6,h5⟩:=hab;refine wpF.cond (by rw[h3,h4];rfl) (wpF.wr (x:=.cells e (qBG l o vs)) hb ⟨rfl,(qIy _ _ _ h3').symm,?_,λi hi=>?_⟩ hQ)
    ·unfold qBG
     exact qCr (qCr (qJb λx hx=>qEe h6 x (List.mem_of_mem_take hx)) h4) (qJb λx hx=>qEe h6 x (List.mem_of_mem_drop hx))
    rw[Tr.get_ofListAt,qMO _ _ _ h3'];rw[qIy _ _ _ h3']at hi;split
    ·rfl
    ·exact h5 i hi
  |_=>exact hab.elim
 ·cases h
theorem qJc{v:AV}(h:v.one=true):v.cells=[v]:=by cases v<;>simp[AV.one]at h<;>rfl
theorem qZ2{t:TypeId}{p v:AV}{K:AV->Hq->Prop}(h:qYO P t p v K s):wpF (λ_=>qIw P t p v) (λ_ s'=>K .undef s') s:=by
 unfold qYO at h;cases ha:qLN P t with
 |none=>simp only[ha]at h
 | some g=>
   cases g with
   | some n=>
     simp only[ha]at h;obtain⟨s',h1,h2⟩:=qAj h;have hsz:sz P t=some n:=by
      unfold qLN at ha;split at ha
      ·cases hq:sz P t with
       |none=>simp[hq]at ha
       |some m=>simp[hq]at ha;rw[ha]
      ·cases ha
      ·cases ha
     unfold qBA at h1;obtain⟨h3,h4⟩:=qAb h1;cases p with
     | ptr b o=>
       unfold qIw;simp only[hsz];exact wpF.cond h3 (qDL (Q:=λ_ s'=>K .undef s') h4 h2)
     |_=>simp[wrN]at h4
   | none=>
     cases hn:sz P t with
     |none=>simp only[ha,hn]at h
     | some m=>
       simp only[ha,hn]at h;split at h
       ·rename_i e2;cases e2
       ·rename_i e1 e2
        cases e2;obtain⟨s',h1,h2⟩:=qAj h;cases p with
        | ptr b o=>
          unfold wr1 at h1;simp only at h1;split at h1
          ·rename_i e l hb
           obtain⟨h3,h4⟩:=qAb h1;obtain⟨h5,h6⟩:=Bool.and_eq_true_iff.1 h3;have h5':o<l.length:=by rwa [Nat.blt_eq]at h5
           unfold qIw;simp only[hn,qJc h6];refine wpF.cond rfl (qDL (Q:=λ_ s'=>K .undef s') (s':=s') ?_ h2);unfold wrN;simp only[hb];have e1:Nat.ble (o+[v].length) l.length=true:=bL (by simp;omega);have e2:qAd [v]=true:=by simp[qAd,h6]
           rw[e1,e2,qRj _ _ _ h5'];exact h4
          ·cases h1
        |_=>simp[wr1]at h1
       ·exact h.elim
theorem qJD(cs:List AV)(i:Nat)(h:i<cs.length):(Tr.ofListAt .nil 0 cs).get i=cs[i]?:=by rw[Tr.get_ofListAt,if_pos ⟨Nat.zero_le _,by omega⟩];rfl
theorem qSj{elem:TypeId}{cs:List AV}{Q:Nat->Hq->Prop}(h1:qAd cs=true)(h:newK elem cs Q s):wpF (λ_=>qBv elem cs) Q s:=by unfold qBv;exact wpF.cond h1 (wpF.nw (x:=.cells elem cs) ⟨rfl,rfl,h1,λi hi=>qJD cs i hi⟩ h)
end Go.AM
namespace Go.AM
open Go
variable {P:Program} {s:Hq} {T:Tmps} {env:Env}
theorem qKb{x:Operand}(hT:TR T env)(h:okX x=true):ev T x=some (evD env x):=by
 cases x with
 | tmp t=>
   have:=hT t;simp only[ev,evD,<- this,tget];cases T.get t<;>rfl
 | const v=>
   simp only[okX]at h;simp only[ev,evD];cases hv:ofV 2 v with
   |none=>rw[hv]at h;cases h
   |some a=>rfl
 |func f=>rfl
 |global g=>cases h
theorem qRi(hT:TR T env):∀{l:List Operand},l.all okX=true->evs T l=some (l.map (evD env))
 |[],_=>rfl
 | x::l,h=>by
   simp only[List.all_cons,Bool.and_eq_true]at h;simp only[evs,qKb hT h.1,qRi hT h.2,List.map_cons]
theorem qUt(hT:TR T env){x:Option Operand}(h:∀y,x=some y->okX y=true):opt T x=some (oev env x):=by
 cases x with
 |none=>rfl
 |some y=>simp only[opt,qKb hT (h y rfl),oev]
theorem qMF(hT:TR T env):∀{l:List (Nat×Operand)},(l.map (·.2)).all okX=true->qDa T l=some (l.map λp=>(p.1,evD env p.2))
 |[],_=>rfl
 | p::l,h=>by
   obtain⟨i,x⟩:=p;simp only[List.map_cons,List.all_cons,Bool.and_eq_true]at h;simp only[qDa,qKb hT h.1,qMF hT h.2,List.map_cons]
theorem qQB{place:Nat->Option (Nat×Nat)}:∀{l:List (Nat×Operand)}{r:List (Nat×Nat×Operand)}{cs:List AV},places place l=some r->qM0 place cs (l.map λp=>(p.1,evD env p.2))=qBb cs (evPl env r)
 |[],r,cs,h=>by cases h;rfl
 | (i,x)::l,r,cs,h=>by
   simp only[places]at h;cases h1:place i with
   |none=>simp only[h1]at h;cases h
   | some p=>
     obtain⟨off,size⟩:=p;cases h2:places place l with
     |none=>simp only[h1,h2]at h;cases h
     | some r'=>
       simp only[h1,h2]at h;cases h;simp only[List.map_cons,qM0,h1,evPl,qBb];rw[qQB h2]
theorem okv{o o':Option AV}{n:Nat->ANext->M AV}{Q:AV->Hq->Prop}(hn:∀k v,n k (.val v)=ret v)(h:oK o (Q · s))(e:∀v,o=some v->o'=some v):
  wpF (λk=>bd (bd (lift o') λx=>ret (ANext.val x)) (n k)) Q s:=by
 obtain⟨v,h1,h2⟩:=qAj h;intro H hH;refine⟨0,v,H,?_,s,hH,.refl _,h2⟩;rw[e v h1];show n 0 (.val v) H=_;rw[hn];rfl
theorem kval{m:M AV}{n:Nat->ANext->M AV}{Q:AV->Hq->Prop}(hn:∀k v,n k (.val v)=ret v)(h:wpF (λ_=>m) Q s):
  wpF (λk=>bd (bd m λx=>ret (ANext.val x)) (n k)) Q s:=by
 refine h.congr λk=>?_
 funext H
 simp only[bd];cases m H with
 |none=>rfl
 |some r=>simp only[ret,hn]
theorem kunit{m:M Unit}{n:Nat->ANext->M AV}{Q:AV->Hq->Prop}(hn:∀k v,n k (.val v)=ret v)(h:wpF (λ_=>m) (λ_ s'=>Q .undef s') s):
  wpF (λk=>bd (bd m λ_=>ret (ANext.val .undef)) (n k)) Q s:=by
 intro H hH;obtain⟨n1,a,H',h1,h2⟩:=h H hH;exact⟨0,.undef,H',by simp only[bd,h1,ret,hn],h2⟩
theorem qW8{t:TypeId}{g:Option Nat}(hg:qLN P t=some g){cs:List AV}{off:Nat}{v:AV}(h:qY9 g off cs=some v):qE3 P t cs off=some v:=by
 unfold qLN at hg;unfold qE3;cases ha:qBV P t with
 |none=>simp only[ha]at hg;cases hg
 | some b=>
   cases b with
   | true=>
     simp only[ha]at hg ⊢;cases hz:sz P t with
     |none=>simp only[hz]at hg;cases hg
     | some n=>
       simp only[hz]at hg ⊢;cases hg;simp only[qY9,qGe]at h;cases hb:Nat.ble (off+n) cs.length with
       |true=>simp only[hb,cond_true,Option.map_some,Option.some.injEq]at h ⊢;exact h
       |false=>simp only[hb,cond_false,Option.map_none]at h;cases h
   | false=>
     simp only[ha]at hg ⊢;cases hg;exact h
theorem qSS{t:TypeId}{f k:Nat}(hk:qZw P t f=some k)(x v:AV)(h:qAC k x=some v):qC3 P t x f=some v:=by
 unfold qAC at h;split at h
 ·rename_i b o
  unfold qZw at hk;unfold qC3;cases hu:P.underlying t with
  |none=>simp only[hu]at hk;cases hk
  | some d=>
    cases d with
    | struct fields=>
      simp only[hu]at hk ⊢;cases hf:fields[f]? with
      |none=>simp only[hf]at hk;cases hk
      | some fd=>
        simp only[hf]at hk ⊢;cases hz:sz P fd.type with
        |none=>simp only[hz]at hk;cases hk
        | some m=>
          cases m with
          |zero=>simp only[hz]at hk;cases hk
          |succ m=>simp only[hz]at hk ⊢;cases hk;rw[qAw];exact h
    |_=>simp only[hu]at hk;cases hk
 ·cases h
theorem qYH{t:TypeId}{len n:Nat}{elem:TypeId}(hu:P.underlying t=some (.array len elem))(hz:sz P elem=some n)(x i v:AV)(h:qMg len n x i=some v):qDO P t x i=some v:=by
 unfold qMg at h;split at h
 ·rename_i b o j hj
  simp only[qDO,hu,hj,hz,qAw];exact h
 ·cases h
theorem qXm{t:TypeId}{n:Nat}{elem:TypeId}(hu:P.underlying t=some (.slice elem))(hz:sz P elem=some n)(x i v:AV)(h:qAT n x i=some v):qDO P t x i=some v:=by
 unfold qAT at h;split at h
 ·rename_i b o len c es j hj
  simp only[qDO,hu,hj,hz,qAw];exact h
 ·cases h
theorem qX1{t:TypeId}{len n:Nat}{elem:TypeId}{g:Option Nat}(hu:P.underlying t=some (.array len elem))(hz:sz P elem=some n)(hg:qLN P elem=some g)(x i v:AV)(h:qWU len n g x i=some v):qLG P t x i=some v:=by
 unfold qWU at h;split at h
 ·rename_i cs j hj
  simp only[qLG,hu,hj,hz];obtain⟨h1,h2⟩:=qAb h;rw[h1];exact qW8 hg h2
 ·cases h
theorem qTl{t:TypeId}(hu:P.underlying t=some .string)(x i v:AV)(h:qQM x i=some v):qLG P t x i=some v:=by
 unfold qQM at h;split at h
 ·rename_i cs j hj
  simp only[qLG,hu,hj];cases hb:cs[j]? with
  |none=>simp only[hb]at h;cases h
  |some b=>simp only[hb,qAw]at h ⊢;exact h
 ·cases h
theorem qW0{t:TypeId}{es:Nat}{elem:TypeId}(hu:P.underlying t=some (.slice elem))(hz:sz P elem=some es)(x v:AV)(lo hi mx:Option AV)(h:qEU es x lo hi mx=some v):qGo P t x lo hi mx=lift (some v):=by
 have e:qGo P t x lo hi mx=lift (qNM P t x lo hi mx):=by unfold qGo;cases x<;>simp only[hu]
 rw[e]
 congr 1
 unfold qEU at h;unfold qNM;split at h
 ·rename_i b o len cap es'
  simp only[hu,hz];cases h1:bound mx (cap.getD len) (cap.getD len)with
  |none=>simp only[h1]at h;cases h
  | some m=>
    simp only[h1]at h ⊢;cases h2:bound hi len m with
    |none=>simp only[h2]at h;cases h
    | some hh=>
      simp only[h2]at h ⊢;cases h3:bound lo 0 hh with
      |none=>simp only[h3]at h;cases h
      | some l=>
        simp only[h3,qAw]at h ⊢;obtain⟨h4,h5⟩:=qAb h;rw[h4];exact h5
 ·simp only[hu]
  cases h1:bound lo 0 0 with
  |none=>simp only[h1]at h;cases h
  | some a1=>
    cases h2:bound hi 0 0 with
    |none=>simp only[h1,h2]at h;cases h
    | some a2=>
      cases h3:bound mx 0 0 with
      |none=>simp only[h1,h2,h3]at h;cases h
      | some a3=>
        simp only[h1,h2,h3]at h ⊢;obtain⟨h4,h5⟩:=qAb h;have hi:(P.info? elem).isSome=true:=by
         unfold sz at hz;cases hq:P.info? elem with
         |none=>simp[hq]at hz
         |some _=>rfl
        rw[h4,hi];exact h5
 ·cases h
theorem qXz{t:TypeId}{es n:Nat}{elem:TypeId}{x:AV}{lo hi mx:Option AV}{Q:AV->Hq->Prop}(hu:P.underlying t=some (.array n elem))(hz:sz P elem=some es)(h:oK (qW4 s n es x lo hi mx) (Q · s)):wpF (λ_=>qGo P t x lo hi mx) Q s:=by
 obtain⟨v,h,hQ⟩:=qAj h;unfold qW4 at h;split at h
 ·rename_i b o
  split at h
  ·rename_i tg e l hb
   obtain⟨h0,h⟩:=qAb h;simp only[qGo,hu,hz];refine wpF.bd (.const _) (λ_=>.const _) (wpF.rd hb λab hab=>?_);cases ab with
   | cells e' c' N=>
     obtain⟨_,rfl,_⟩:=hab;refine wpF.cond h0 (wpF.lift (a:=v) ?_ hQ);simp only[qNM,hu,hz];cases h1:bound mx n n with
     |none=>simp only[h1]at h;cases h
     | some m=>
       simp only[h1]at h ⊢;cases h2:bound hi n m with
       |none=>simp only[h2]at h;cases h
       | some hh=>
         simp only[h2]at h ⊢;cases h3:bound lo 0 hh with
         |none=>simp only[h3]at h;cases h
         | some l=>
           simp only[h3,qAw]at h ⊢;exact h
   |_=>exact hab.elim
  ·cases h
 ·cases h
theorem qWs{op:BinOp}{t:TypeId}{x y:Operand}(h1:op≠.shl)(h2:op≠.shr)(a b v:AV)(h:qAH op a b=some v):binA P op t x y a b=some v:=by
 unfold qAH at h;split at h
 ·rename_i k m k' n
  unfold binA;cases op<;>first|exact absurd rfl h1|exact absurd rfl h2|exact h
 ·cases h
theorem qSU{op:BinOp}{t:TypeId}{x y:Operand}(h1:op=.shl∨op=.shr)(a b v:AV)(h:qGt op a b=some v):binA P op t x y a b=some v:=by
 unfold qGt at h;split at h
 ·rename_i k m k' n
  unfold binA;rcases h1 with rfl|rfl<;>exact h
 ·cases h
theorem qSG{neg:Bool}{r:Option Bool}{v:AV}(h:negB neg r=some v):∃b,r=some b/\v=.bool (cond neg (!b) b):=by
 cases r with
 |none=>cases h
 |some b=>exact⟨b,rfl,(Option.some.inj h).symm⟩
theorem zADl{neg:Bool}{d:TypeDesc}{kd:Nat}{t:TypeId}{x y:Operand}(hu:P.underlying t=some d)(hk:qSL d=some kd)(a b v:AV)(h:negB neg (eqV kd (isC x||isC y) a b)=some v):
  binA P (cond neg .neq .eql) t x y a b=some v:=by
 obtain⟨r,hr,rfl⟩:=qSG h;have key:∀(hint:¬ ∃k m k' n,a=.int k m/\b=.int k' n),qCY P t x y a b=true->aEq P 30 t a b=some r->binA P (cond neg .neq .eql) t x y a b=some (.bool (cond neg (!r) r)):=by
  intro hint hg he;have:∀op,binA P op t x y a b=(match op with
   | .eql=>cond (qCY P t x y a b) ((aEq P 30 t a b).map .bool) none
   | .neq=>cond (qCY P t x y a b) ((aEq P 30 t a b).map λr=>.bool !r) none
   |_=>none):=by
   intro op;unfold binA;split
   ·rename_i k m k' n;exact absurd ⟨k,m,k',n,rfl,rfl⟩ hint
   ·rfl
  rw[this];cases neg<;>simp[hg,he]
 unfold eqV at hr;split at hr
 ·rename_i k m k' n
  obtain⟨h1,h2⟩:=qAb hr;cases h2;unfold binA;cases neg<;>simp only[cond_true,cond_false,h1,arith]
 all_goals first
  |(cases hr;done)
  |(obtain⟨hcst,hr⟩:=qAb hr
    cases hr;refine key (by simp) ?_ ?_
    ·simp only[qCY]
     rw[<- hcst];cases x<;>cases y<;>rfl
    ·cases d<;>simp[qSL]at hk<;>simp[aEq,hu])
  |(cases hr
    refine key (by simp) ?_ ?_
    ·simp[qCY,qNk]
    ·cases d<;>simp[qSL]at hk<;>simp[aEq,hu])
theorem zACM{src dst:TypeId}{k k':IntKind}(h1:P.underlying src=some (.int k'))(h2:P.underlying dst=some (.int k))(x v:AV)(h:qDk k x=some v):qFn P src dst x=some v:=by
 unfold qDk at h;split at h
 ·simp only[qFn,h1,h2,qCN];exact h
 ·cases h
theorem qZ1{src dst:TypeId}(h1:P.underlying src=some .string)(h2:P.underlying dst=some .string)(x v:AV)(h:zACK x=some v):qFn P src dst x=some v:=by
 unfold zACK at h;split at h
 ·simp only[qFn,h1,h2];exact h
 ·cases h
theorem zACE{t:TypeId}{d:TypeDesc}{ok:Bool}(hu:P.underlying t=some d)(hd:∀a,d≠.interface a)(x v:AV)(h:zAAS t (qEQ P t) ok x=some v):qDq P x t ok=some v:=by
 unfold qDq;unfold zAAS at h;split at h
 ·rename_i t' v'
  rw[hu];cases d<;>first|exact absurd rfl (hd _)|exact h
 ·rw[hu]
  cases d<;>first|exact absurd rfl (hd _)|exact h
 ·cases h
end Go.AM
namespace Go.AM
open Go
variable {P:Program} {s:Hq} {K:AV→Hq→Prop}
theorem qRh{elem:TypeId}{cs:List AV}{f:Nat->AV}(h1:qAd cs=true)(h:newK elem cs (λb=>K (f b)) s):wpF (λ_=>bd (qBv elem cs) λid=>ret (f id)) K s:=
 wpF.bd (.const _) (λ_=>.const _) (qSj h1 λb hb=>wpF.ret (h b hb))
theorem qTO{t:TypeId}{z:List AV}(h:zcells P t=some z):∃v,qEQ P t=some v/\z=v.cells/\qAd z=true:=by
 unfold zcells at h;cases hz:qEQ P t with
 |none=>simp only[hz]at h;cases h
 | some v=>
   simp only[hz]at h;obtain⟨h1,h2⟩:=qAb h;cases h2;exact⟨v,rfl,rfl,h1⟩
theorem qPe{t:TypeId}{z:List AV}{es:Nat}(h:zelem P t=some (z,es)):∃v,qEQ P t=some v/\sz P t=some es/\z=v.cells/\z.length=es/\qAd z=true:=by
 unfold zelem at h;cases hz:qEQ P t with
 |none=>simp only[hz]at h;cases h
 | some v=>
   cases hs:sz P t with
   |none=>simp only[hz,hs]at h;cases h
   | some n=>
     simp only[hz,hs]at h;obtain⟨h1,h2⟩:=qAb h;cases h2;obtain⟨h3,h4⟩:=Bool.and_eq_true_iff.1 h1;exact⟨v,rfl,rfl,rfl,bE h3,h4⟩
theorem qNC{t:TypeId}{z:List AV}{es:Nat}(h:zelem P t=some (z,es))(n:Nat):zeros P t n=some (repl n z,es):=by
 obtain⟨v,h1,h2,h3,h4,_⟩:=qPe h;have:Nat.beq v.cells.length es=true:=by rw[<- h3,h4];exact Nat.beq_refl _
 simp only[zeros,h1,h2,this,cond_true,h3]
theorem qIP{es n:Nat}{x:AV}{new:List AV}{Q:List AV->Hq->Prop}(h:rdSl s es x=some new)(hn:qAN x=some n)(hQ:qAd new=true->Q new s):wpF (λ_=>qJT es n x) Q s:=by
 unfold qJT;cases x with
 | slc b o len cap es'=>
   cases hn;unfold rdSl at h;simp only at h;obtain⟨h1,h⟩:=qAb h;refine wpF.cond h1 ?_;cases hz:Nat.beq (n*es) 0 with
   |true=>rw[hz]at h;cases h;exact wpF.ret (hQ rfl)
   | false=>
     rw[hz,cond_false]at h;split at h
     ·rename_i t e l hb
      refine qIv (l:=new) ?_ hQ;simp only[rdN,hb];exact h
     ·cases h
 |nilslc=>cases h;exact wpF.ret (hQ rfl)
 |_=>cases hn
theorem zACm{b:Nat}{elem:TypeId}{Q:Hq->Prop}(h:qUz elem b Q s):wpF (λ_=>qY7 b elem) (λ_ s'=>Q s') s:=by
 unfold qUz at h;split at h
 ·rename_i e l hb
  obtain⟨rfl,h2⟩:=h;unfold qY7;refine wpF.bd (.const _) (λ_=>.const _) (wpF.rd hb λab hab=>?_);cases ab with
  | cells e' c' n'=>
    obtain⟨rfl,_⟩:=hab;exact wpF.cond (Nat.beq_refl _) (wpF.kill hb h2)
  |_=>exact hab.elim
 ·exact h.elim
theorem qOB{l:List AV}{elem:TypeId}{n es:Nat}{Q:AV->Hq->Prop}(hl:qAd l=true)(h:qYt elem es n l Q s):Nat.ble n 16777216=true/\wpF (λ_=>bd (qBv elem l) λid=>ret (.slc id 0 n none es)) Q s:=
 ⟨bL h.1,qRh hl h.2⟩
theorem qYB{st xt elem:TypeId}{xe:TypeId}{x y:AV}{z:List AV}{es by_:Nat}(hs:P.underlying st=some (.slice elem))(hx:P.underlying xt=some (.slice xe))(hz:zelem P elem=some (z,es))(hb:qFH P elem=some by_)
  (hby:Nat.ble by_ 65536=true) (h:appK elem es x y K s):wpF (λ_=>qJE P st xt x y) K s:=by
 obtain⟨new,h1,h⟩:=qAj h;obtain⟨n,h2,h⟩:=qAj h;unfold qJE;simp only[hs,hx,qNC hz,hb,lenX,h2];cases x with
 | nilslc=>
   simp only;cases n with
   |zero=>exact wpF.ret h
   | succ n=>
     simp only at h ⊢;have g1:=bL h.1;refine wpF.cond (by rw[g1,hby];rfl) ?_;refine wpF.bd (.const _) (λ_=>.const _) (qIP h1 h2 λhnew=>(qOB hnew h).2)
 | slc b o len cap es'=>
   simp only at h ⊢;obtain⟨rfl,h⟩:=h;refine wpF.cond (Nat.beq_refl _) ?_;cases n with
   | zero=>
     simp only at h;cases cap with
     | some c=>
       have hc:Nat.ble (len+0) c=true:=bL h.1;simp only[wayA,hc];exact wpF.ret h.2
     | none=>
       have:Nat.beq 0 0=true:=rfl;simp only[wayA,this];exact wpF.ret h.2
   | succ n=>
     simp only at h;cases cap with
     | some c=>
       simp only[wayA]at h ⊢;cases hc:Nat.ble (len+(n+1)) c with
       | true=>
         simp only[hc,cond_true]at h ⊢;obtain⟨s',h3,h4⟩:=qAj h;simp only[qAw];refine wpF.bd (.const _) (λ_=>.const _) (qIP h1 h2 λ_=>?_);exact wpF.bd (.const _) (λ_=>.const _) (qDL h3 (wpF.ret h4))
       | false=>
         simp only[hc,cond_false]at h ⊢;obtain⟨old,h3,h4⟩:=qAj h;have g1:=bL h4.1;refine wpF.cond (by rw[g1,hby];rfl) ?_;refine wpF.bd (.const _) (λ_=>.const _) (qIP h3 rfl λhold=>?_);refine wpF.bd (.const _) (λ_=>.const _) (qIP h1 h2 λhnew=>?_);refine wpF.bd (.const _) (λ_=>.const _) (wpF.ret ?_);simp only[qAw];exact(qOB (qCr hold hnew) h4).2
     | none=>
       have e0:Nat.beq (n+1) 0=false:=rfl;simp only[wayA,e0]at h ⊢;obtain⟨old,h3,h4⟩:=qAj h;have g1:Nat.ble (len+(n+1)) 16777216=true:=by
        unfold qUz at h4;split at h4
        ·exact bL h4.2.1
        ·exact h4.elim
       refine wpF.cond (by rw[g1,hby];rfl) ?_;refine wpF.bd (.const _) (λ_=>.const _) (qIP h3 rfl λhold=>?_);refine wpF.bd (.const _) (λ_=>.const _) (qIP h1 h2 λhnew=>?_);refine wpF.bd (.const _) (λ_=>.const _) ?_;simp only[cond_true,qAw];exact(zACm h4).mono λ_ s' h5=>(qOB (qCr hold hnew) h5).2
 |_=>exact h.elim
theorem qZo{t elem:TypeId}{x:AV}{z:List AV}{es:Nat}(ht:P.underlying t=some (.slice elem))(hz:zelem P elem=some (z,es))(h:qUf z es x K s):wpF (λ_=>qMW P t x) K s:=by
 unfold qMW;cases x with
 |nilslc=>simp only[ht];exact wpF.ret h
 | slc b o n cap es'=>
   obtain⟨rfl,h⟩:=h;simp only[ht,qNC hz];refine wpF.cond (Nat.beq_refl _) ?_;cases n with
   |zero=>exact wpF.ret h
   | succ n=>
     simp only at h ⊢;obtain⟨s',h3,h4⟩:=qAj h;exact wpF.bd (.const _) (λ_=>.const _) (qDL h3 (wpF.ret h4))
 |_=>exact h.elim
theorem zAB7{t elem:TypeId}{d x:AV}{es:Nat}(ht:P.underlying t=some (.slice elem))(hz:sz P elem=some es)(h:zADW es d x K s):wpF (λ_=>qRf P t d x) K s:=by
 obtain⟨m,h1,h2⟩:=qAj h;unfold qRf;cases d with
 | slc b o k cap es'=>
   obtain⟨rfl,h3,h4⟩:=h2;have hk:qAN (.slc b o k cap es')=some k:=rfl;simp only[ht,h1,hk,hz,qAw,Nat.min_eq_left h3];cases m with
   |zero=>exact h4.elim
   | succ m=>
     simp only at h4;obtain⟨cs,h5,h6⟩:=qAj h4;obtain⟨s',h7,h8⟩:=qAj h6;refine wpF.bd (.const _) (λ_=>.const _) (qIP h5 h1 λ_=>?_);refine wpF.cond (Nat.beq_refl _) ?_;exact wpF.bd (.const _) (λ_=>.const _) (qDL h7 (wpF.ret h8))
 |_=>exact h2.elim
theorem zACz{t:TypeId}{d:TypeDesc}{x:AV}{n:Nat}(ht:P.underlying t=some d)(h:lenD d x=some n)(hK:K (.int .i64 n) s):wpF (λ_=>lenA P t x) K s:=by
 unfold lenA;cases d with
 | string=>
   simp only[lenD]at h;split at h
   ·cases h;simp only[ht];exact wpF.ret hK
   ·cases h
 |array m e=>cases h;simp only[ht];exact wpF.ret hK
 | slice e=>
   simp only[lenD]at h;cases x with
   |slc b o m cap es=>cases h;simp only[ht];exact wpF.ret hK
   |nilslc=>cases h;simp only[ht];exact wpF.ret hK
   |_=>cases h
 |_=>cases h
theorem zABV{t:TypeId}{kt et:TypeId}{x:AV}{n:Nat}(ht:P.underlying t=some (.map kt et))(h:lenM s x=some n)(hK:K (.int .i64 n) s):wpF (λ_=>lenA P t x) K s:=by
 unfold lenA;cases x with
 |nilmap=>cases h;simp only[ht];exact wpF.ret hK
 | map b=>
   simp only[lenM]at h;simp only[ht];split at h
   ·rename_i es c hb
    cases h;refine wpF.bd (.const _) (λ_=>.const _) (wpF.rd hb λab hab=>?_);cases ab<;>first|exact hab.elim|skip
    obtain⟨rfl,rfl⟩:=hab;simp only[qAw];exact wpF.ret hK
   ·cases h
 |_=>cases h
theorem qWL{b:Builtin}{ts:List TypeId}{args:List AV}(h:qYM P b ts args K s):wpF (λ_=>qEr P b ts args) K s:=by
 unfold qYM at h;split at h
 ·rename_i st xt x y
  show wpF (λ_=>qJE P st xt x y) K s;cases h1:P.underlying st with
  |none=>simp only[h1]at h
  | some d1=>
    cases h2:P.underlying xt with
    |none=>cases d1<;>simp only[h1,h2]at h
    | some d2=>
      cases d1 with
      | slice elem=>
        cases d2 with
        | slice e2=>
          simp only[h1,h2]at h;cases h3:zelem P elem with
          |none=>simp only[h3]at h
          | some p=>
            obtain⟨z,es⟩:=p;cases h4:qFH P elem with
            |none=>simp only[h3,h4]at h
            | some by_=>
              simp only[h3,h4]at h;cases h5:Nat.ble by_ 65536 with
              |true=>rw[h5]at h;exact qYB h1 h2 h3 h4 h5 h
              |false=>rw[h5]at h;exact h.elim
        |_=>simp only[h1,h2]at h
      |_=>simp only[h1,h2]at h
 ·rename_i t ts x
  show wpF (λ_=>lenA P t x) K s;cases h1:P.underlying t with
  |none=>simp only[h1]at h
  | some d=>
    cases d with
    | map kt et=>
      simp only[h1]at h;obtain⟨n,h2,h3⟩:=qAj h;exact zABV h1 h2 h3
    | _=>
      simp only[h1]at h;obtain⟨n,h2,h3⟩:=qAj h;exact zACz h1 h2 h3
 ·rename_i t ts x
  show wpF (λ_=>qMW P t x) K s;cases h1:P.underlying t with
  |none=>simp only[h1]at h
  | some d=>
    cases d with
    | slice elem=>
      simp only[h1]at h;cases h3:zelem P elem with
      |none=>simp only[h3]at h
      | some p=>
        obtain⟨z,es⟩:=p;simp only[h3]at h;exact qZo h1 h3 h
    |_=>simp only[h1]at h
 ·rename_i t ts d x
  show wpF (λ_=>qRf P t d x) K s;cases h1:P.underlying t with
  |none=>simp only[h1]at h
  | some dd=>
    cases dd with
    | slice elem=>
      simp only[h1]at h;cases h3:sz P elem with
      |none=>simp only[h3]at h
      | some es=>
        simp only[h3]at h;exact zAB7 h1 h3 h
    |_=>simp only[h1]at h
 ·rename_i x xs
  obtain⟨v,h1,h2⟩:=qAj h;exact wpF.lift h1 h2
 ·rename_i x xs
  obtain⟨v,h1,h2⟩:=qAj h;exact wpF.lift h1 h2
 ·exact h.elim
end Go.AM
namespace Go.AM
open Go
variable {α β:Type} {P:Program} {X:Td} {s:Hq} {T:Tmps} {env:Env} {K:AV→Hq→Prop}
theorem qWr{m:Nat->M α}{f:Nat->α->M β}(hm:Mono m)(hf:∀a,Mono λn=>f n a):Mono λn=>bd (m n) (f n):=by intro n n' H r hle h;obtain⟨a,H1,h1,h2⟩:=qAQ h;show AM.bd _ _ _=_;unfold AM.bd;rw[hm n n' H _ hle h1];exact hf a n n' H1 r hle h2
theorem qUv{γ:Type}(m:M α)(f:α->M β)(g:β->M γ):bd (bd m f) g=bd m λa=>bd (f a) g:=by
 funext H
 simp only[bd];cases m H with
 |none=>rfl
 |some r=>rfl
theorem zAAg{t:Task}(h:wpT P X t (λo s'=>∃v,o=.val v/\K v s') s):wpF (λn=>outVal (run P X n t)) K s:=by refine wpF.bd (qDR t) (λ_=>.const _) (wpF.mono h ?_);rintro o s' ⟨v,rfl,hv⟩;exact wpF.ret hv
theorem zACS{k:FuncId}{args:List AV}(h:goK P X k args K s):wpF (λn=>bd (goA P k args) (qEi (run P X n))) K s:=by obtain⟨h1,h2⟩:=h;refine(zAAg h2).congr λn=>?_;unfold goA;rw[h1];rfl
theorem qW3{x:AV}{name:String}{args:List AV}(h:qY3 P X x name args K s):∃t v,x=.ifc t v/\wpF (λn=>bd (bd (qHA P t v name) λp=>goA P p.1 (p.2::args)) (qEi (run P X n))) K s:=by
 unfold qY3 at h;split at h
 ·rename_i t v
  refine⟨t,v,rfl,?_⟩;refine(wpF.bd (f:=λn p=>bd (goA P p.1 (p.2::args)) (qEi (run P X n))) (.const _) (λp=>qWr (.const _) λ_=>qR0 _) (wpF.mono h λp s' hp=>zACS hp)).congr λn=>?_;rw[qUv]
 ·exact h.elim
theorem zABt{c:Call}(hT:TR T env)(ho:c.operands.toList.all okX=true)(h:wpOp P X env K s (.call c)):wpF (λn=>bd (qI9 P T c) (qEi (run P X n))) K s:=by
 have hargs:c.args.toList.all okX=true:=by have:∀x∈c.args.toList,okX x=true:=λx hx=>List.all_eq_true.1 ho x (by unfold Call.operands;simp only[Array.toList_append,List.mem_append];exact .inr hx);exact List.all_eq_true.2 this
 have hev:=qRi hT hargs;unfold qI9;rw[hev];simp only[wpOp]at h;cases hc:c.callee with
 | builtin b=>
   simp only[hc]at h ⊢;exact kval (n:=λk=>qEi (run P X k)) (λ_ _=>rfl) (qWL h)
 | invoke r name=>
   have hr:okX r=true:=List.all_eq_true.1 ho r (by simp[Call.operands,hc]);simp only[hc,qKb hT hr]at h ⊢;obtain⟨t,v,e,h⟩:=qW3 h;rw[e];exact h
 | value f=>
   have hf:okX f=true:=List.all_eq_true.1 ho f (by simp[Call.operands,hc]);simp only[hc,qKb hT hf]at h ⊢;have main:funK P X (evD env f) (c.args.toList.map (evD env)) K s->wpF (λn=>bd (match (some (evD env f):Option AV)with
    |some (.fn (.func k) first cap)=>goA P k (first++c.args.toList.map (evD env)++cap)
    |some (.fn (.method name) [.ifc t v] _)=>bd (qHA P t v name) λp=>goA P p.1 (p.2::c.args.toList.map (evD env))
    | some (.yield l)=>bd (rd l) λblk=>match blk with
      | .loop _ _ _ _ ps _ _ _=>cond (Nat.beq ps.length (c.args.toList.map (evD env)).length) (ret (.round l (c.args.toList.map (evD env)))) fail
      |_=>fail
    |_=>fail) (qEi (run P X n))) K s:=by
    intro h;unfold funK at h;split at h
    ·rename_i k first cap he
     simp only[he];exact zACS h
    ·rename_i name x w he
     obtain⟨t,v,e,h2⟩:=qW3 h;subst e;simp only[he];exact h2
    ·rename_i l he
     simp only[he];obtain⟨h1,h2⟩:=h;unfold qXH at h1;split at h1
     ·rename_i tg st pd nt en ps as bo d hb
      refine(wpF.bd (f:=λn blk=>bd (match blk with
       | .loop _ _ _ _ ps _ _ _=>cond (Nat.beq ps.length (c.args.toList.map (evD env)).length) (ret (.round l (c.args.toList.map (evD env)))) fail
       |_=>fail) (qEi (run P X n))) (.const _) (λ_=>qWr (.const _) λ_=>qR0 _) (wpF.rd hb λab hab=>?_)).congr λn=>(qUv _ _ _).symm
      cases ab with
      | loop st' pd' nt' T' ps' as' bo' d'=>
        obtain⟨_,_,_,_,rfl,_⟩:=hab;refine(zAAg h2).congr λn=>?_;have:Nat.beq ps.length (c.args.toList.map (evD env)).length=true:=by rw[h1];exact Nat.beq_refl _
        simp only[this];rfl
      |_=>exact hab.elim
     ·exact h1.elim
    ·exact h.elim
   cases f with
   | func k=>
     simp only at h;cases hk:isFn P k with
     | true=>
       rw[hk]at h;have:=zACS (P:=P) (X:=X) (k:=k) (args:=c.args.toList.map (evD env)) ⟨hk,h⟩;simpa [evD]using this
     |false=>rw[hk]at h;exact h.elim
   |tmp t=>exact main h
   |const v=>exact main h
   |global g=>cases hf
theorem qPE{l:List Operand}(h:l.all okX=true){x:Operand}(hx:x∈l):okX x=true:=List.all_eq_true.1 h x hx
theorem qXe{kt:TypeId}{ik:IntKind}{k:AV}:∀(es:List AEnt) (i:Nat),qIi P kt (.int ik) k es i=qMC k es i:=by
 intro es
 induction es with
 |nil=>intro i;rfl
 | cons e es ih=>
   intro i;have:qJL P kt (.int ik) k e.key=qOA (.int .i64) k e.key:=by show qOA (.int ik) k e.key=_;cases k<;>cases e.key<;>rfl
   unfold qIi qMC;rw[this];cases qOA (.int .i64) k e.key with
   |none=>rfl
   |some b=>cases b<;>simp[ih]
theorem zAAi{kt:TypeId}{ik jk:IntKind}{n:Int}(h:P.underlying kt=some (.int ik)):qFT P 10 kt (.int jk n)=true:=by unfold qFT;rw[h]
theorem qW6{t kt et:TypeId}{ik:IntKind}{z x k:AV}{ok:Bool}(h1:P.underlying t=some (.map kt et))(h2:P.underlying kt=some (.int ik))(h3:qEQ P et=some z)
  (h:oK (getM s x k) λr=>K (retM z ok r) s):wpF (λ_=>qEc P t x k ok) K s:=by
 obtain⟨r,h4,h5⟩:=qAj h;unfold getM at h4;cases k with
 | int jk n=>
   simp only at h4;unfold qEc;simp only[h1,h2,h3];refine wpF.cond (zAAi h2) ?_;cases x with
   | nilmap=>
     cases h4;refine wpF.bd (.const _) (λ_=>.const _) (wpF.ret ?_);exact wpF.ret h5
   | map b=>
     simp only at h4;split at h4
     ·rename_i es c hb
      have key:∀q,qMC (.int jk n) es 0=some q->K (retM z ok (q.map Prod.snd)) s->wpF (λ_=>bd (bd (rd b) λblk=>match blk with
        | .map es _=>lift (qIi P kt (.int ik) (.int jk n) es 0)
        | _=>fail) λr=>match r with
          |some (_,v)=>ret (cond ok (.tup [v,.bool true]) v)
          |none=>ret (cond ok (.tup [z,.bool false]) z)) K s:=by
       intro q hq hk;refine wpF.bd (.const _) (λ_=>.const _) (wpF.bd (.const _) (λ_=>.const _) (wpF.rd hb λab hab=>?_));cases ab<;>first|exact hab.elim|skip
       obtain⟨rfl,rfl⟩:=hab;refine wpF.lift (a:=q) (by rw[qXe];exact hq) ?_;cases q with
       |none=>exact wpF.ret hk
       |some p=>exact wpF.ret hk
      split at h4
      ·rename_i p hp;cases h4;exact key _ hp h5
      ·rename_i hp;cases h4;exact key _ hp h5
      ·cases h4
     ·cases h4
   |_=>cases h4
 |_=>cases h4
theorem qMM{t kt et:TypeId}{ik:IntKind}{m k v:AV}(h1:P.underlying t=some (.map kt et))(h2:P.underlying kt=some (.int ik))
  (h:oK (putM s m k v) (K .undef)):wpF (λ_=>qC5 P t m k v) (λ_ s'=>K .undef s') s:=by
 obtain⟨s2,h4,h5⟩:=qAj h;unfold putM at h4;cases k with
 | int jk n=>
   simp only at h4;cases m with
   | map b=>
     simp only at h4;split at h4
     ·rename_i es c hb
      unfold qC5;simp only[h1,h2];refine wpF.cond (zAAi h2) (wpF.bd (.const _) (λ_=>.const _) (wpF.rd hb λab hab=>?_));cases ab<;>first|exact hab.elim|skip
      obtain⟨rfl,rfl⟩:=hab;unfold putE at h4;cases hq:qMC (.int jk n) es 0 with
      |none=>rw[hq]at h4;cases h4
      | some q=>
        rw[hq]at h4;refine wpF.bd (.const _) (λ_=>.const _) (wpF.lift (a:=q) (by rw[qXe];exact hq) ?_);cases q with
        | none=>
          simp only[Option.some.injEq]at h4;simp only[qAw];exact wpF.wr hb (x:=.map (es ++ [{ key:=.int jk n,val:=v,born:=c }]) (c+1)) ⟨rfl,rfl⟩ (by rw[h4];exact h5)
        | some p=>
          simp only[Option.some.injEq]at h4;exact wpF.wr hb (x:=.map (modE es p.1 λe=>{ e with key:=.int jk n,val:=v }) c) ⟨rfl,rfl⟩ (by rw[h4];exact h5)
     ·cases h4
   |_=>cases h4
 |_=>cases h4
theorem qU6{t kt et:TypeId}{d:TypeDesc}{z x k:AV}{ok:Bool}(h1:P.underlying t=some (.map kt et))(h2:P.underlying kt=some d)(h3:qEQ P et=some z)
  (h:oK (getG P kt s x k) λr=>K (retM z ok r) s):wpF (λ_=>qEc P t x k ok) K s:=by
 obtain⟨r,h4,h5⟩:=qAj h;unfold getG at h4;rw[h2]at h4;simp only at h4;cases hc:(aggD d&&qFT P 10 kt k)with
 |false=>rw[hc]at h4;cases h4
 |true=>
 rw[hc,cond_true]at h4;unfold qEc;simp only[h1,h2,h3];refine wpF.cond (Bool.and_eq_true_iff.1 hc).2 ?_;cases x with
 | nilmap=>
   cases h4;refine wpF.bd (.const _) (λ_=>.const _) (wpF.ret ?_);exact wpF.ret h5
 | map b=>
   simp only at h4;split at h4
   ·rename_i es c hb
    have key:∀q,qIi P kt d k es 0=some q->K (retM z ok (q.map Prod.snd)) s->wpF (λ_=>bd (bd (rd b) λblk=>match blk with
      | .map es _=>lift (qIi P kt d k es 0)
      | _=>fail) λr=>match r with
        |some (_,v)=>ret (cond ok (.tup [v,.bool true]) v)
        |none=>ret (cond ok (.tup [z,.bool false]) z)) K s:=by
     intro q hq hk;refine wpF.bd (.const _) (λ_=>.const _) (wpF.bd (.const _) (λ_=>.const _) (wpF.rd hb λab hab=>?_));cases ab<;>first|exact hab.elim|skip
     obtain⟨rfl,rfl⟩:=hab;refine wpF.lift (a:=q) hq ?_;cases q with
     |none=>exact wpF.ret hk
     |some p=>exact wpF.ret hk
    split at h4
    ·rename_i p hp;cases h4;exact key _ hp h5
    ·rename_i hp;cases h4;exact key _ hp h5
    ·cases h4
   ·cases h4
 |_=>cases h4
theorem qK9{t kt et:TypeId}{d:TypeDesc}{m k v:AV}(h1:P.underlying t=some (.map kt et))(h2:P.underlying kt=some d)
  (h:oK (putG P kt s m k v) (K .undef)):wpF (λ_=>qC5 P t m k v) (λ_ s'=>K .undef s') s:=by
 obtain⟨s2,h4,h5⟩:=qAj h;unfold putG at h4;rw[h2]at h4;simp only at h4;cases hc:(aggD d&&qFT P 10 kt k)with
 |false=>rw[hc]at h4;cases h4
 |true=>
 rw[hc,cond_true]at h4;cases m with
 | map b=>
   simp only at h4;split at h4
   ·rename_i es c hb
    unfold qC5;simp only[h1,h2];refine wpF.cond (Bool.and_eq_true_iff.1 hc).2 (wpF.bd (.const _) (λ_=>.const _) (wpF.rd hb λab hab=>?_));cases ab<;>first|exact hab.elim|skip
    obtain⟨rfl,rfl⟩:=hab;cases hq:qIi P kt d k es 0 with
    |none=>rw[hq]at h4;cases h4
    | some q=>
      rw[hq]at h4;refine wpF.bd (.const _) (λ_=>.const _) (wpF.lift (a:=q) hq ?_);cases q with
      | none=>
        simp only[Option.some.injEq]at h4;simp only[qAw];exact wpF.wr hb (x:=.map (es ++ [{ key:=k,val:=v,born:=c }]) (c+1)) ⟨rfl,rfl⟩ (by rw[h4];exact h5)
      | some p=>
        simp only[Option.some.injEq]at h4;exact wpF.wr hb (x:=.map (modE es p.1 λe=>{ e with key:=k,val:=v }) c) ⟨rfl,rfl⟩ (by rw[h4];exact h5)
   ·cases h4
 |_=>cases h4
theorem qPM(h:mapK K s):wpF (λ_=>qNL) K s:=wpF.bd (.const _) (λ_=>.const _) (wpF.nw (x:=.map [] 0) ⟨rfl,rfl⟩ λb hb=>wpF.ret (h b hb))
theorem qZZ{t kt et:TypeId}{x:AV}(hu:P.underlying t=some (.map kt et))(h:zACH x K s):wpF (λ_=>qOk P t x) K s:=by
 unfold zACH at h;unfold qOk;split at h
 ·simp only[hu]
  exact wpF.bd (.const _) (λ_=>.const _) (wpF.nw (x:=.iter none 0 [] 0) ⟨rfl,rfl,rfl,rfl⟩ λb hb=>wpF.ret (h b hb))
 ·rename_i m
  split at h
  ·rename_i t' es c hb
   simp only[hu];refine wpF.bd (.const _) (λ_=>.const _) (wpF.rd hb λab hab=>?_);cases ab<;>first|exact hab.elim|skip
   obtain⟨rfl,rfl⟩:=hab;exact wpF.bd (.const _) (λ_=>.const _) (wpF.nw (x:=.iter (some m) c [] c) ⟨rfl,rfl,rfl,rfl⟩ λb hb=>wpF.ret (h b hb))
  ·exact h.elim
 ·exact h.elim
theorem qZT{x v:AV}(h:entD s x=some v)(hK:K v s):wpF (λ_=>qOW x) K s:=by
 unfold entD at h;unfold qOW;split at h
 ·rename_i r
  split at h
  ·rename_i t m si seen stepped hr
   split at h
   ·rename_i stamp hl
    split at h
    ·rename_i t2 es c hm
     cases hc:Nat.beq c stepped with
     |false=>rw[hc]at h;cases h
     | true=>
       rw[hc,cond_true]at h;split at h
       ·rename_i e he
        cases h;refine wpF.bd (.const _) (λ_=>.const _) (wpF.rd hr λab hab=>?_);cases ab<;>first|exact hab.elim|skip
        obtain⟨rfl,rfl,rfl,rfl⟩:=hab;simp only[hl];refine wpF.bd (.const _) (λ_=>.const _) (wpF.rd hm λab hab=>?_);cases ab<;>first|exact hab.elim|skip
        obtain⟨rfl,rfl⟩:=hab;simp only[hc,cond_true,he];exact wpF.ret hK
       ·cases h
    ·cases h
   ·cases h
  ·cases h
 ·cases h
theorem qQ0{o:Op}(h:okOp o=true)(hn:∀t g,o≠.load t (.global g)):o.operands.toList.all okX=true:=by
 unfold okOp at h;split at h
 ·rename_i t g;exact absurd rfl (hn t g)
 ·exact h
theorem qZD{t:TypeId}{g:Nat}{Q:AV->Hq->Prop}(h:gldK P t g (Q · s) s):wpF (λ_=>qKI P t g) Q s:=by
 unfold gldK qLN at h;cases ha:qBV P t with
 |none=>simp only[ha]at h
 | some ag=>
   cases ag with
   |false=>simp only[ha]at h
   | true=>
     simp only[ha]at h;cases hz:sz P t with
     |none=>simp only[hz]at h
     | some n=>
       simp only[hz]at h;obtain⟨l,h1,h2⟩:=qAj h;unfold gldN at h1;split at h1
       ·rename_i w g' l' hb
        cases hc:(Nat.beq g g'&&Nat.beq n l'.length)with
        |false=>rw[hc]at h1;cases h1
        | true=>
          rw[hc,cond_true]at h1;cases h1;simp only[Bool.and_eq_true]at hc;unfold qKI;refine wpF.bd (.const _) (λ_=>.const _) (wpF.rd hb λab hab=>?_);cases ab<;>first|exact hab.elim|skip
          obtain⟨rfl,rfl⟩:=hab;simp only[hc.1,cond_true,ha,hz,hc.2];exact wpF.ret h2
       ·cases h1
theorem zABs{o:Op}(hT:TR T env)(ho:okOp o=true)(h:wpOp P X env K s o):wpF (λn=>bd (opA P T o) (qEi (run P X n))) K s:=by
 by_cases hgl:∃t g,o=.load t (.global g)
 ·obtain⟨t,g,rfl⟩:=hgl
  simp only[opA];exact kval (n:=λk=>qEi (run P X k)) (λ_ _=>rfl) (qZD h)
 replace ho:=qQ0 ho λt g e=>hgl ⟨t,g,e⟩
 have hn:∀(k:Nat) (v:AV),qEi (run P X k) (.val v)=ret v:=λ_ _=>rfl;have hx:∀x∈o.operands.toList,ev T x=some (evD env x):=λx hm=>qKb hT (qPE ho hm);have hmv:∀{v:AV},K v s->wpF (λn=>bd (bd (ret v) λx=>ret (ANext.val x)) (qEi (run P X n))) K s:=λhv=>kval hn (wpF.ret hv);cases o with
 | move x=>
   simp only[opA,hx x (by simp[Op.operands])];exact hmv h
 | assign x=>
   simp only[opA,hx x (by simp[Op.operands])];exact hmv h
 | pick c a b=>
   simp only[opA,hx c (by simp[Op.operands]),hx a (by simp[Op.operands]),hx b (by simp[Op.operands])];obtain⟨v,h1,h2⟩:=qAj h;unfold qAO at h1;split at h1
   ·rename_i e;cases h1;simp only[e];exact hmv h2
   ·rename_i e;cases h1;simp only[e];exact hmv h2
   ·cases h1
 | alloc t=>
   simp only[wpOp]at h;cases hz:zcells P t with
   |none=>simp only[hz]at h
   | some z=>
     simp only[hz]at h;obtain⟨v,h1,rfl,h2⟩:=qTO hz;simp only[opA,qMa,h1];exact kval hn (qRh h2 h)
 | box t x=>
   simp only[opA,hx x (by simp[Op.operands])];exact kval hn (qRh h.1 h.2)
 | build t ps=>
   have hp:(ps.toList.map (·.2)).all okX=true:=by simpa [Op.operands]using ho
   simp only[opA,qMF hT hp];simp only[wpOp]at h;cases hz:qEQ P t with
   |none=>simp only[hz]at h
   | some z=>
     cases hu:P.underlying t with
     |none=>simp only[hz,hu]at h
     | some d=>
       cases d with
       | struct fields=>
         simp only[hz,hu]at h;cases hf:(fields.toList.all λf=>(sz P f.type).isSome)with
         |false=>rw[hf]at h;exact h.elim
         | true=>
           rw[hf]at h;cases hl:places (qNl P fields.toList) ps.toList with
           |none=>simp only[hl]at h;exact h.elim
           | some l=>
             simp only[hl]at h;obtain⟨cs,h1,h2⟩:=qAj (α:=List AV) h;refine kval hn (wpF.lift (a:=.agg cs) ?_ h2);simp only[qPB,hz,hu,hf,cond_true,qQB hl,h1,Option.map_some]
       | array len elem=>
         simp only[hz,hu]at h;cases hs:sz P elem with
         |none=>simp only[hs]at h
         | some n=>
           simp only[hs]at h;cases hl:places (λi=>some (i*n,n)) ps.toList with
           |none=>simp only[hl]at h
           | some l=>
             simp only[hl]at h;obtain⟨cs,h1,h2⟩:=qAj h;refine kval hn (wpF.lift (a:=.agg cs) ?_ h2);simp only[qPB,hz,hu,hs,qQB hl,h1,Option.map_some]
       |_=>simp only[hz,hu]at h
 | buildSlice t len ps=>
   have hp:(ps.toList.map (·.2)).all okX=true:=by simpa [Op.operands]using ho
   simp only[opA,qMF hT hp];simp only[wpOp]at h;cases hu:P.underlying t with
   |none=>simp only[hu]at h
   | some d=>
     cases d with
     | slice elem=>
       simp only[hu]at h;cases hz:zelem P elem with
       |none=>simp only[hz]at h
       | some p=>
         obtain⟨z,es⟩:=p;simp only[hz]at h;cases hb:Nat.ble (len*es) 16777216 with
         |false=>rw[hb]at h;exact h.elim
         | true=>
           rw[hb]at h;cases hl:places (λi=>some (i*es,es)) ps.toList with
           |none=>simp only[hl]at h;exact h.elim
           | some l=>
             simp only[hl]at h;obtain⟨cs,h1,h2,h3⟩:=qAj (α:=List AV) h;refine kval hn ?_;simp only[qDp,hu,qNC hz,hb,cond_true,qQB hl,h1];exact qRh h2 h3
     |_=>simp only[hu]at h
 | load t a=>
   have e1:=hx a (by simp[Op.operands]);have hA:opA P T (.load t a)=(match ev T a with
    |some p=>bd (match p with | .ptr b o=>qHk P t b o|_=>fail) λx=>ret (.val x)
    |none=>fail):=by cases a<;>first|rfl|(cases e1;done)
   have h':qP3 P t (evD env a) (K · s) s:=by cases a<;>first|exact h|exact absurd rfl (λe=>hgl ⟨_,_,e⟩)
   simp only[hA,e1];exact kval hn (qXQ h')
 | store t a x=>
   simp only[opA,hx a (by simp[Op.operands]),hx x (by simp[Op.operands])];exact kunit hn (qZ2 h)
 | nilCheck x=>
   simp only[opA,hx x (by simp[Op.operands])];exact okv hn h λ_ e=>e
 | binOp op t x y yt=>
   simp only[opA,hx x (by simp[Op.operands]),hx y (by simp[Op.operands])];simp only[wpOp]at h;have heq:∀neg,eqK P neg t (isC x||isC y) (evD env x) (evD env y) K s->wpF (λn=>bd (bd (lift (binA P (cond neg .neq .eql) t x y (evD env x) (evD env y))) λx=>ret (ANext.val x)) (qEi (run P X n))) K s:=by
    intro neg h;unfold eqK at h;cases hu:P.underlying t with
    |none=>simp only[hu]at h
    | some d=>
      simp only[hu]at h;cases hk:qSL d with
      | some kd=>
        simp only[hk]at h;exact okv hn h λv e=>zADl hu hk _ _ v e
      | none=>
        simp only[hk]at h;cases hg:P.eqGuardType P.depth t with
        |true=>rw[hg]at h;exact h.elim
        | false=>
          rw[hg]at h;simp only[cond_false]at h;refine okv hn h λv e=>?_;obtain⟨r,hr,rfl⟩:=qSG e;unfold qGP at hr;split at hr
          ·rename_i xs ys e1 e2
           rw[e1,e2]at hr ⊢;unfold binA;cases neg<;>simp[qCY,hg,hr]
          ·cases hr
   cases op with
   |eql=>exact heq false h
   |neq=>exact heq true h
   |shl=>exact okv hn h λv e=>qSU (.inl rfl) _ _ v e
   |shr=>exact okv hn h λv e=>qSU (.inr rfl) _ _ v e
   |_=>exact okv hn h λv e=>qWs (by simp) (by simp) _ _ v e
 | unOp op t x=>
   simp only[opA,hx x (by simp[Op.operands])];exact okv hn h λ_ e=>e
 | convert a d x=>
   simp only[opA,hx x (by simp[Op.operands])];simp only[wpOp]at h;cases h1:P.underlying a with
   |none=>simp only[h1]at h
   | some da=>
     cases h2:P.underlying d with
     |none=>cases da<;>simp only[h1,h2]at h
     | some dd=>
       cases da with
       | int k=>
         cases dd with
         | int k'=>
           simp only[h1,h2]at h;exact okv hn h λv e=>zACM h1 h2 _ v e
         |_=>simp only[h1,h2]at h
       | string=>
         cases dd with
         | string=>
           simp only[h1,h2]at h;exact okv hn h λv e=>qZ1 h1 h2 _ v e
         |_=>simp only[h1,h2]at h
       |_=>cases dd<;>simp only[h1,h2]at h
 | makeInterface t x=>
   simp only[opA,hx x (by simp[Op.operands])];simp only[wpOp]at h;cases h1:P.underlying t with
   |none=>simp only[h1]at h
   | some d=>
     refine kval hn (wpF.lift (a:=.ifc t (evD env x)) ?_ ?_)
     ·unfold qF2;rw[h1]
      cases d<;>first|rfl|(simp only[h1]at h)
     ·cases d<;>first|(simp only[h1]at h;done)|(simp only[h1]at h;exact h)
 | makeFunc f first cap=>
   have hp:first.toList.all okX=true/\cap.toList.all okX=true:=by simpa [Op.operands]using ho
   simp only[opA,qRi hT hp.1,qRi hT hp.2];cases f with
   |func k=>exact wpF.ret (s:=s) h
   |method n=>exact wpF.ret (s:=s) h
   |_=>exact(show False from h).elim
 | makeSlice t l c=>
   simp only[opA,hx l (by simp[Op.operands]),hx c (by simp[Op.operands])];simp only[wpOp]at h;cases hu:P.underlying t with
   |none=>simp only[hu]at h
   | some d=>
     cases d with
     | slice elem=>
       simp only[hu]at h;cases hz:zelem P elem with
       |none=>simp only[hz]at h
       | some p=>
         obtain⟨z,es⟩:=p;cases hb:qFH P elem with
         |none=>simp only[hz,hb]at h
         | some by_=>
           simp only[hz,hb]at h;cases hy:Nat.ble by_ 32768 with
           |false=>rw[hy]at h;exact h.elim
           | true=>
             rw[hy]at h;obtain⟨l',e1,h⟩:=qAj (α:=Nat) h;obtain⟨c',e2,h⟩:=qAj h;refine kval hn ?_;simp only[qD5,hu,e1,e2,qNC hz,hb,hy,qAw];obtain⟨_,_,_,_,_,h1⟩:=qPe hz;refine wpF.cond ?_ (qRh (qOD h1 _) h.2);rw[bL h.1.1,bL h.1.2];rfl
     |_=>simp only[hu]at h
 | slice t x lo hi mx=>
   have hlo:=qUt hT (x:=lo) λy hy=>qPE ho (by simp[Op.operands,hy]);have hhi:=qUt hT (x:=hi) λy hy=>qPE ho (by simp[Op.operands,hy]);have hmx:=qUt hT (x:=mx) λy hy=>qPE ho (by simp[Op.operands,hy]);simp only[opA,hx x (by simp[Op.operands]),hlo,hhi,hmx];simp only[wpOp]at h;cases hu:P.underlying t with
   |none=>simp only[hu]at h
   | some d=>
     cases d with
     | slice elem=>
       simp only[hu]at h;cases hz:sz P elem with
       |none=>simp only[hz]at h
       | some es=>
         simp only[hz]at h;obtain⟨v,h1,h2⟩:=qAj h;refine kval hn ?_;rw[qW0 hu hz _ v _ _ _ h1];exact wpF.lift rfl h2
     | array n elem=>
       simp only[hu]at h;cases hz:sz P elem with
       |none=>simp only[hz]at h
       | some es=>
         simp only[hz]at h;exact kval hn (qXz hu hz h)
     |_=>simp only[hu]at h
 | fieldAddr t x f=>
   simp only[opA,hx x (by simp[Op.operands])];simp only[wpOp]at h;cases hk:qZw P t f with
   |none=>simp only[hk]at h
   | some k=>
     simp only[hk]at h;exact okv hn h λv e=>qSS hk _ v e
 | field t x f=>
   simp only[opA,hx x (by simp[Op.operands])];simp only[wpOp]at h;cases hu:P.underlying t with
   |none=>simp only[hu]at h
   | some d=>
     cases d with
     | struct fields=>
       simp only[hu]at h;cases hf:fields[f]? with
       |none=>simp only[hf]at h
       | some fd=>
         simp only[hf]at h;cases hg:qLN P fd.type with
         |none=>simp only[hg]at h
         | some g=>
           simp only[hg]at h;refine okv hn h λv e=>?_;unfold zAAx at e;split at e
           ·rename_i cs e0
            rw[e0];simp only[qPL,hu,hf];exact qW8 hg e
           ·cases e
     |_=>simp only[hu]at h
 | indexAddr t x i=>
   simp only[opA,hx x (by simp[Op.operands]),hx i (by simp[Op.operands])];simp only[wpOp]at h;cases hu:P.underlying t with
   |none=>simp only[hu]at h
   | some d=>
     cases d with
     | array len elem=>
       simp only[hu]at h;cases hz:sz P elem with
       |none=>simp only[hz]at h
       | some n=>
         simp only[hz]at h;exact okv hn h λv e=>qYH hu hz _ _ v e
     | slice elem=>
       simp only[hu]at h;cases hz:sz P elem with
       |none=>simp only[hz]at h
       | some n=>
         simp only[hz]at h;exact okv hn h λv e=>qXm hu hz _ _ v e
     |_=>simp only[hu]at h
 | index t x i=>
   simp only[opA,hx x (by simp[Op.operands]),hx i (by simp[Op.operands])];simp only[wpOp]at h;cases hu:P.underlying t with
   |none=>simp only[hu]at h
   | some d=>
     cases d with
     | array len elem=>
       simp only[hu]at h;cases hz:sz P elem with
       |none=>simp only[hz]at h
       | some n=>
         cases hg:qLN P elem with
         |none=>simp only[hz,hg]at h
         | some g=>
           simp only[hz,hg]at h;exact okv hn h λv e=>qX1 hu hz hg _ _ v e
     | string=>
       simp only[hu]at h;exact okv hn h λv e=>qTl hu _ _ v e
     |_=>simp only[hu]at h
 | typeAssert x xt t ok=>
   simp only[opA,hx x (by simp[Op.operands])];simp only[wpOp]at h;cases hu:P.underlying t with
   |none=>simp only[hu]at h
   | some d=>
     cases d with
     |interface _=>simp only[hu]at h
     |_=>(simp only[hu]at h;exact okv hn h λv e=>zACE hu (by simp) _ v e)
 | extract x i=>
   simp only[opA,hx x (by simp[Op.operands])];exact okv hn h λ_ e=>e
 | makeMap t r=>
   have e1:opt T r=some (oev env r):=qUt hT λy hy=>qPE (l:=(Op.makeMap t r).operands.toList) ho (by subst hy;simp[Op.operands]);simp only[opA,e1];simp only[wpOp]at h;cases hu:P.underlying t with
   |none=>simp only[hu]at h
   | some d=>
     cases d with
     | map kt et=>
       simp only[hu]at h;cases r with
       |none=>exact kval hn (qPM h)
       | some x=>
         simp only[oev];simp only at h;unfold intK at h;split at h
         ·rename_i q n hq
          rw[hq];exact kval hn (qPM h)
         ·exact h.elim
     |_=>simp only[hu]at h
 | lookup t x k ok=>
   simp only[opA,hx x (by simp[Op.operands]),hx k (by simp[Op.operands])];simp only[wpOp]at h;cases hu:P.underlying t with
   |none=>simp only[hu]at h
   | some d=>
     cases d with
     | map kt et=>
       simp only[hu]at h;cases hk:P.underlying kt with
       |none=>simp only[hk]at h
       | some kd=>
         cases hz:qEQ P et with
         |none=>cases kd<;>simp only[hk,hz]at h
         | some z=>
           cases kd with
           | int ik=>
             simp only[hk,hz]at h;exact kval hn (qW6 hu hk hz h)
           | _=>
             simp only[hk,hz]at h;exact kval hn (qU6 hu hk hz h)
     |_=>simp only[hu]at h
 | mapUpdate t m k x=>
   simp only[opA,hx m (by simp[Op.operands]),hx k (by simp[Op.operands]),hx x (by simp[Op.operands])];simp only[wpOp]at h;cases hu:P.underlying t with
   |none=>simp only[hu]at h
   | some d=>
     cases d with
     | map kt et=>
       simp only[hu]at h;cases hk:P.underlying kt with
       |none=>simp only[hk]at h
       | some kd=>
         cases kd with
         | int ik=>
           simp only[hk]at h;exact kunit hn (qMM hu hk h)
         | _=>
           simp only[hk]at h;exact kunit hn (qK9 hu hk h)
     |_=>simp only[hu]at h
 | insert t m k x=>
   simp only[opA,hx m (by simp[Op.operands]),hx k (by simp[Op.operands]),hx x (by simp[Op.operands])];simp only[wpOp]at h;cases hu:P.underlying t with
   |none=>simp only[hu]at h
   | some d=>
     cases d with
     | map kt et=>
       simp only[hu]at h;cases hk:P.underlying kt with
       |none=>simp only[hk]at h
       | some kd=>
         cases kd with
         | int ik=>
           simp only[hk]at h;exact kunit hn (qMM hu hk h)
         | _=>
           simp only[hk]at h;exact kunit hn (qK9 hu hk h)
     |_=>simp only[hu]at h
 | entry x=>
   simp only[opA,hx x (by simp[Op.operands])];obtain⟨v,h1,h2⟩:=qAj h;exact kval hn (qZT h1 h2)
 | range t x=>
   simp only[opA,hx x (by simp[Op.operands])];simp only[wpOp]at h;cases hu:P.underlying t with
   |none=>simp only[hu]at h
   | some d=>
     cases d with
     | map kt et=>
       simp only[hu]at h;exact kval hn (qZZ hu h)
     |_=>simp only[hu]at h
 | sliceToArrayPointer t x=>
   simp only[opA,hx x (by simp[Op.operands])];refine okv hn h λv e=>?_;unfold zAEH at e;split at e
   ·rename_i m q hu
    unfold zADw at e;unfold zACO;split at e
    ·rename_i b o len cap es he
     simp only[hu,he];exact e
    ·cases e
   ·cases e
 |call c=>exact zABt hT ho h
 |_=>exact(show False from h).elim
end Go.AM
namespace Go.AM
open Go
variable {P:Program} {X:Td} {s:Hq} {T:Tmps} {env:Env} {nt:Nat}
theorem qSn{v:AV}{dst:Option Tmp}{K:Env->Prop}(hT:TR T env)(h:setK nt dst env v K):∃T' env',setT nt T dst v=some T'/\TR T' env'/\K env'/\(∀d,dst≠some d->env' d=env d)/\∀d,dst=some d->env' d=v:=by
 cases dst with
 |none=>exact⟨T,env,rfl,hT,h,λ_ _=>rfl,λ_ e=>by cases e⟩
 | some d=>
   unfold setK at h;cases hd:Nat.blt d nt with
   |false=>simp only[hd]at h;exact h.elim
   | true=>
     simp only[hd]at h;refine⟨T.put d (some v),upd env d v,by simp[setT,hd],λi=>?_,h,λi hi=>?_,λi hi=>?_⟩
     ·unfold tget upd
      rw[Tr.get_put]
      by_cases e:d=i
      ·subst e;simp
      ·have:Nat.beq i d=false:=by
        cases hq:Nat.beq i d with
        |false=>rfl
        |true=>exact absurd (bE hq).symm e
       rw[if_neg e,this];exact hT i
     ·unfold upd
      have:Nat.beq i d=false:=by
       cases hq:Nat.beq i d with
       |false=>rfl
       |true=>exact absurd (by rw[bE hq]) hi
      rw[this];rfl
     ·cases hi
      unfold upd;rw[Nat.beq_refl];rfl
def knV:Option Bool->AV
 |some b=>.bool b
 |none=>.undef
def KnOk(kn:Kn)(env:Env):Prop:=∀d b,known kn d=some b->env d=knV b
theorem qIt:∀{kn:Kn}{d d':Nat}{b:Option Bool},known (kn.filter λp=>!Nat.beq p.1 d) d'=some b->d'≠d/\known kn d'=some b
 |[],_,_,_,h=>by cases h
 | p::ps,d,d',b,h=>by
   rw[List.filter_cons]at h
   by_cases hp:Nat.beq p.1 d=true
   ·rw[if_neg (by simp[hp])]at h
    obtain⟨h1,h2⟩:=qIt h;refine⟨h1,?_⟩;unfold known;have:Nat.beq p.1 d'=false:=by
     cases hq:Nat.beq p.1 d' with
     |false=>rfl
     |true=>exact absurd ((bE hq).symm.trans (bE hp)) h1
    rw[this];exact h2
   ·rw[if_pos (by simp[hp])]at h
    unfold known at h ⊢;cases hq:Nat.beq p.1 d' with
    | true=>
      rw[hq]at h;refine⟨λe=>hp ?_,h⟩;rw[<- e];exact hq
    |false=>rw[hq]at h;exact qIt h
theorem KnOk.forget{kn:Kn}{env':Env}{dst:Option Tmp}(h:KnOk kn env)(he:∀d,dst≠some d->env' d=env d):KnOk (forget kn dst) env':=by
 intro d b hd;cases dst with
 |none=>rw[he d (by simp)];exact h d b hd
 | some d0=>
   obtain⟨h1,h2⟩:=qIt hd;rw[he d (λe=>h1 (Option.some.inj e).symm)];exact h d b h2
theorem KnOk.cons{kn:Kn}{d:Nat}{b:Option Bool}(h:KnOk kn env)(he:env d=knV b):KnOk ((d,b)::kn) env:=by
 intro d' b' h';unfold known at h';cases hq:Nat.beq d d' with
 |true=>rw[hq]at h';cases h';rw[<- bE hq];exact he
 |false=>rw[hq]at h';exact h d' b' h'
theorem KnOk.mark{kn:Kn}{env':Env}{dst:Option Tmp}(h:KnOk kn env)(he:∀d,dst≠some d->env' d=env d)(hv:∀d,dst=some d->env' d=.undef):KnOk (mark kn dst) env':=by
 cases dst with
 |none=>exact h.forget (dst:=none) he
 |some d=>exact(h.forget he).cons (hv d rfl)
theorem KnOk.nil:KnOk [] env:=λ_ _ h=>by cases h
theorem qNt{all:List Oper}{j d:Nat}{w b:Bool}(hT:TR T env)(hd:qTi all j=some d)(he:env d=.bool b):qCH all T (some (j,w))=some (b == w):=by
 unfold qTi at hd;simp only[qCH];cases hj:all[j]? with
 |none=>rw[hj]at hd;cases hd
 | some o=>
   rw[hj]at hd;simp only at hd ⊢;rw[hd];have:=hT d;rw[he]at this;unfold tget at this;cases hg:T.get d with
   |none=>rw[hg]at this;cases this
   |some v=>rw[hg]at this;simp only[Option.getD_some]at this;subst this;simp only[hg]
theorem qSk{all:List Oper}{j:Nat}{w:Bool}(hd:qTi all j=none):qCH all T (some (j,w))=some false:=by
 unfold qTi at hd;simp only[qCH];cases hj:all[j]? with
 |none=>rfl
 |some o=>rw[hj]at hd;simp only at hd ⊢;rw[hd]
theorem qRD{all:List Oper}{j d:Nat}{w:Bool}(hT:TR T env)(hd:qTi all j=some d)(he:env d=.undef):qCH all T (some (j,w))=some false:=by
 unfold qTi at hd;simp only[qCH];cases hj:all[j]? with
 |none=>simp[hj]at hd
 | some o=>
   rw[hj]at hd;simp only at hd ⊢;rw[hd];have:=hT d;rw[he]at this;unfold tget at this;cases hg:T.get d with
   |none=>simp only[hg]
   |some v=>rw[hg]at this;simp only[Option.getD_some]at this;subst this;simp only[hg];rfl
theorem qNP{all:List Oper}{g:Option (Nat×Bool)}{kn:Kn}{go skip:Kn->Prop}(hT:TR T env)(hk:KnOk kn env)(h:qSZ all g kn env go skip):
  ∃kn',KnOk kn' env/\((qCH all T g=some true/\go kn')∨(qCH all T g=some false/\skip kn')):=by
 unfold qSZ at h;split at h
 ·exact⟨kn,hk,.inl ⟨rfl,h⟩⟩
 ·rename_i j w
  split at h
  ·rename_i hd;exact⟨kn,hk,.inr ⟨qSk hd,h⟩⟩
  ·rename_i d hd
   split at h
   ·rename_i b hb
    have:=qNt (w:=w) hT hd (hk d (some b) hb);refine⟨kn,hk,?_⟩;cases hbw:(b == w)with
    |true=>rw[hbw]at h this;exact .inl ⟨this,h⟩
    |false=>rw[hbw]at h this;exact .inr ⟨this,h⟩
   ·rename_i hb
    exact⟨kn,hk,.inr ⟨qRD hT hd (hk d none hb),h⟩⟩
   ·unfold qAK at h
    split at h
    ·rename_i he
     have:=qNt (w:=w) hT hd he;refine⟨_,hk.cons (b:=some true) he,?_⟩;cases w with
     |true=>exact .inl ⟨this,h⟩
     |false=>exact .inr ⟨this,h⟩
    ·rename_i he
     have:=qNt (w:=w) hT hd he;refine⟨_,hk.cons (b:=some false) he,?_⟩;cases w with
     |true=>exact .inr ⟨this,h⟩
     |false=>exact .inl ⟨this,h⟩
    ·exact h.elim
theorem qV7{all:List Oper}{o:Oper}:Mono λn=>qDZ P (run P X n) all o T:=qCC λn=>by
 unfold qDZ;split
 ·exact LeM.bd (LeM.refl _) λ_=>qQc (qDF n) _
 ·exact LeM.refl _
 ·exact LeM.refl _
theorem qQQ{all:List Oper}{o:Oper}{Q:AV->Hq->Prop}{R:Tmps->Hq->Prop}(h:wpF (λn=>qDZ P (run P X n) all o T) Q s)(hQ:∀v s',Q v s'->∃T',setT nt T o.dst v=some T'/\R T' s'):
  wpF (λn=>qHv P (run P X n) nt all o T) R s:=by
 refine wpF.bd (f:=λ_ v=>lift (setT nt T o.dst v)) qV7 (λ_=>.const _) (h.mono λv s' hv=>?_);obtain⟨T',h1,h2⟩:=hQ v s' hv;exact wpF.lift h1 h2
theorem qE9{all:List Oper}{o:Oper}{Q:AV->Hq->Prop}(hw:qCH all T o.guard=some true)(hT:TR T env)(ho:okOp o.op=true)(h:wpOp P X env Q s o.op):wpF (λn=>qDZ P (run P X n) all o T) Q s:=by refine(zABs hT ho h).congr λn=>?_;unfold qDZ;rw[hw]
theorem qOU{all:List Oper}{o:Oper}{Q:AV->Hq->Prop}(hw:qCH all T o.guard=some false)(h:Q .undef s):wpF (λn=>qDZ P (run P X n) all o T) Q s:=by refine(wpF.ret h).congr λn=>?_;unfold qDZ;rw[hw]
theorem qSq{all:List Oper}{K:Env->Hq->Prop}:∀(os:List Oper) (kn:Kn) (env:Env) (s:Hq) (T:Tmps),(os.all λo=>okOp o.op)=true->TR T env->KnOk kn env->opsE P X nt all os kn env K s->
  wpF (λn=>opsA P (run P X n) nt all os T) (λT' s'=>∃env',TR T' env'/\K env' s'/\∀j,(∀o∈os,o.dst≠some j)->env' j=env j) s
 |[],_,env,s,T,_,hT,_,h=>wpF.ret ⟨env,hT,h,λ_ _=>rfl⟩
 | o::os,kn,env,s,T,ha,hT,hk,h=>by
   simp only[List.all_cons,Bool.and_eq_true]at ha;obtain⟨kn',hk',hcase⟩:=qNP hT hk h;have next:∀(v:AV) (kn2:Kn),(∀env',(∀d,o.dst≠some d->env' d=env d)->(∀d,o.dst=some d->env' d=v)->KnOk kn2 env')->∀(s':Hq),(setK nt o.dst env v λenv=>opsE P X nt all os kn2 env K s')->∃T',setT nt T o.dst v=some T'/\wpF (λn=>opsA P (run P X n) nt all os T') (λT' s'=>∃env',TR T' env'/\K env' s'/\∀j,(∀o_1∈o::os,o_1.dst≠some j)->env' j=env j) s':=by intro v kn2 hk2 s' hv;obtain⟨T',env',e1,e2,e3,e4,e5⟩:=qSn hT hv;refine⟨T',e1,(qSq os _ env' s' T' ha.2 e2 (hk2 env' e4 e5) e3).mono ?_⟩;rintro T2 s2 ⟨env2,q1,q2,q3⟩;exact⟨env2,q1,q2,λj hj=>(q3 j λp hp=>hj p (by simp[hp])).trans (e4 j (hj o (by simp)))⟩
   have mono1:Mono λn=>qHv P (run P X n) nt all o T:=qCC λn=>qJz (qDF n) _ _ _ _;refine wpF.bd (f:=λn T=>opsA P (run P X n) nt all os T) mono1 (λT=>qOM _ _ _ _) ?_;rcases hcase with⟨hw,h⟩|⟨hw,h⟩
   ·exact qQQ (qE9 hw hT ha.1 h) λv s' hv=>next v _ (λenv' e4 _=>hk'.forget e4) s' hv
   ·exact qQQ (qOU (s:=s) (Q:=λv s'=>v=.undef/\setK nt o.dst env v λenv=>opsE P X nt all os (mark kn' o.dst) env K s') hw ⟨rfl,h⟩) λv s' hv=>next v _ (λenv' e4 e5=>hk'.mark e4 λd hd=>by rw[e5 d hd,hv.1]) s' hv.2
end Go.AM
namespace Go.AM
open Go
variable {α β:Type} {P:Program} {s:Hq} {T:Tmps} {env:Env} {ih:Task→M Out}
def RO(m:M α):Prop:=∀H a H',m H=some (a,H')->∃es:List (Nat×Bool),(∀e∈es,e.2=false)/\H'={ H with log:=es++H.log }
def NE(m:M α):Prop:=∀H a H',m H=some (a,H')->H'=H
theorem qIY(a:α):NE (ret a):=λH b H' h=>by cases qAM h;rfl
theorem qDX:NE (fail:M α):=λH _ _ h=>(qAF (H:=H) h).elim
theorem qLs(o:Option α):NE (lift o):=λH b H' h=>by obtain⟨a,_,h2⟩:=qCW h;cases h2;rfl
theorem zADn{m:M α}{f:α->M β}(hm:NE m)(hf:∀a,NE (f a)):NE (bd m f):=λH b H' h=>by obtain⟨a,H1,h1,h2⟩:=qAQ h;rw[hf a H1 b H' h2,hm H a H1 h1]
theorem zACR{b:Bool}{x y:M α}(hx:NE x)(hy:NE y):NE (cond b x y):=by cases b<;>assumption
theorem NE.ro{m:M α}(h:NE m):RO m:=λH a H' e=>⟨[],by simp,by rw[h H a H' e];rfl⟩
theorem qTx{m:M α}{f:α->M β}(hm:RO m)(hf:∀a,RO (f a)):RO (bd m f):=λH b H' h=>by obtain⟨a,H1,h1,h2⟩:=qAQ h;obtain⟨e1,k1,rfl⟩:=hm H a H1 h1;obtain⟨e2,k2,rfl⟩:=hf a _ b H' h2;exact⟨e2++e1,λe he=>by rcases mP he with he|he;exact k2 e he;exact k1 e he,by simp⟩
theorem qQb{b:Bool}{x y:M α}(hx:RO x)(hy:RO y):RO (cond b x y):=by cases b<;>assumption
theorem qYc(id:Nat):RO (rd id):=λH b H' h=>by
 unfold rd at h;cases hb:H.blks.get id with
 |none=>simp[hb]at h
 |some x=>simp only[hb,Option.some.injEq,Prod.mk.injEq]at h;exact⟨[(id,false)],by simp,h.2.symm⟩
theorem qMi(a:α):RO (ret a):=(qIY a).ro
theorem qH2:RO (fail:M α):=qDX.ro
theorem qNh(o:Option α):RO (lift o):=(qLs o).ro
theorem qZ9(t:TypeId)(b o:Nat):RO (qHk P t b o):=by
 unfold qHk qCM
 repeat' first|exact qH2|exact qNh _|exact qMi _|exact qYc _|(refine qTx ?_ λ_=>?_)|split
theorem qWc(t:TypeId)(x:AV)(lo hi mx:Option AV):RO (qGo P t x lo hi mx):=by
 unfold qGo
 repeat' first|exact qH2|exact qNh _|exact qMi _|exact qYc _|(refine qQb ?_ ?_)|(refine qTx ?_ λ_=>?_)|split
theorem zACX(t:TypeId)(x:AV):RO (lenA P t x):=by
 unfold lenA;simp only[qAw]
 repeat' first|exact qH2|exact qMi _|exact qYc _|(refine qTx ?_ λ_=>?_)|split
def qJK(m:M ANext):Prop:=∀H x H',m H=some (x,H')->∃v,x=.val v
theorem qUm(v:AV):qJK (ret (.val v)):=λ_ x _ h=>by cases qAM h;exact⟨v,rfl⟩
theorem qQS:qJK fail:=λH _ _ h=>(qAF (H:=H) h).elim
theorem qYx{m:M α}{f:α->M ANext}(hf:∀a,qJK (f a)):qJK (bd m f):=λH x H' h=>by obtain⟨a,H1,_,h2⟩:=qAQ h;exact hf a H1 x H' h2
theorem qYl{b:Bool}{x y:M ANext}(hx:qJK x)(hy:qJK y):qJK (cond b x y):=by cases b<;>assumption
theorem qW5{t e:TypeId}(h:P.underlying t=some (.slice e))(x:AV)(lo hi mx:Option AV):NE (qGo P t x lo hi mx):=by unfold qGo;rw[h];exact qLs _
theorem qXj{t:TypeId}{x:Operand}{lo hi mx:Option Operand}(h:cls P (.slice t x lo hi mx)=0):∃e,P.underlying t=some (.slice e):=by
 simp only[cls]at h;split at h
 ·exact⟨_,by assumption⟩
 ·cases h
theorem zACo{t e:TypeId}(h:P.underlying t=some (.slice e))(x:AV):NE (lenA P t x):=by unfold lenA;rw[h];cases x<;>first|exact qIY _|exact qDX
theorem qXt{o:Op}(h:cls P o=0)(T:Tmps):NE (opA P T o)/\qJK (opA P T o):=by
 cases o
 case call c=>
  simp only[cls]at h;simp only[opA,qI9];split
  ·exact⟨qDX,qQS⟩
  ·rename_i args hargs
   cases hc:c.callee with
   | builtin b=>
     simp only[hc]at h ⊢;refine⟨zADn ?_ λ_=>qIY _,qYx λ_=>qUm _⟩;cases b<;>first|(simp only at h;cases h;done)|skip
     case len=>
      simp only at h;split at h
      ·rename_i t ts hts
       split at h
       ·rename_i e he
        rw[hts];show NE (qEr P .len (t::ts) args);rcases args with _|⟨x,_|⟨y,r⟩⟩
        ·exact qDX
        ·exact zACo he x
        ·exact qDX
       ·cases h
      ·cases h
     all_goals
      unfold qEr;split<;>first|exact qDX|exact qLs _|contradiction|(rename_i e _ _;cases e)
   |_=>simp only[hc]at h;cases h
 all_goals first
  |(simp only[cls]at h;cases h;done)
  |(simp only[opA]
    refine⟨?_,?_⟩
    ·repeat' first|exact qDX|exact qW5 (qXj h).choose_spec _ _ _ _|exact qIY _|exact qLs _|(refine zACR ?_ ?_)|(refine zADn ?_ λ_=>?_)|split
    ·repeat' first|exact qQS|exact qUm _|(refine qYl ?_ ?_)|(refine qYx λ_=>?_)|split)
theorem qWh(t:TypeId)(g:Nat):RO (qKI P t g):=by
 unfold qKI
 repeat' first|exact qH2|exact qMi _|exact qYc _|(refine qQb ?_ ?_)|(refine qTx ?_ λ_=>?_)|split
theorem qU2(t:TypeId)(x k:AV)(ok:Bool):RO (qEc P t x k ok):=by
 unfold qEc
 repeat' first|exact qH2|exact qNh _|exact qMi _|exact qYc _|(refine qQb ?_ ?_)|(refine qTx ?_ λ_=>?_)|split
theorem qX3{o:Op}(h:cls P o=1)(T:Tmps):RO (opA P T o)/\qJK (opA P T o):=by
 cases o
 case call c=>
  simp only[cls]at h;have hc:c.callee=.builtin .len:=by
   cases hq:c.callee with
   |builtin b=>rw[hq]at h;cases b<;>first|rfl|(simp only at h;cases h)
   |_=>rw[hq]at h;simp only at h;cases h
  simp only[opA,qI9,hc];split
  ·exact⟨qH2,qQS⟩
  ·refine⟨qTx ?_ λ_=>qMi _,qYx λ_=>qUm _⟩
   unfold qEr;split<;>first|exact qH2|exact zACX _ _|exact qNh _|contradiction
 all_goals first
  |(simp only[cls]at h;cases h;done)
  |(simp only[opA]
    refine⟨?_,?_⟩
    ·repeat' first|exact qH2|exact qMi _|exact qNh _|exact qWh _ _|exact qZ9 _ _ _|exact qU2 _ _ _ _|exact qWc _ _ _ _ _|(refine qQb ?_ ?_)|(refine qTx ?_ λ_=>?_)|split
    ·repeat' first|exact qQS|exact qUm _|(refine qYl ?_ ?_)|(refine qYx λ_=>?_)|split)
theorem qXn{m:M ANext}(hm:qJK m)(hr:RO m):RO (bd m (qEi ih)):=by intro H a H' h;obtain⟨x,H1,h1,h2⟩:=qAQ h;obtain⟨v,rfl⟩:=hm H x H1 h1;cases qAM h2;exact hr H _ _ h1
theorem qVc{m:M ANext}(hm:qJK m)(hr:NE m):NE (bd m (qEi ih)):=by intro H a H' h;obtain⟨x,H1,h1,h2⟩:=qAQ h;obtain⟨v,rfl⟩:=hm H x H1 h1;cases qAM h2;exact hr H _ _ h1
theorem qZe{all:List Oper}{o:Oper}(h:cls P o.op=0):NE (qDZ P ih all o T):=by
 unfold qDZ;split
 ·exact qVc (qXt h T).2 (qXt h T).1
 ·exact qIY _
 ·exact qDX
theorem qZK{all:List Oper}{o:Oper}(h:cls P o.op=1):RO (qDZ P ih all o T):=by
 unfold qDZ;split
 ·exact qXn (qX3 h T).2 (qX3 h T).1
 ·exact qMi _
 ·exact qH2
theorem qJe{b:Nat}:frz s b=none↔s b=none:=by
 unfold frz;cases s b with
 |none=>simp
 |some e=>simp
theorem qLD{b:Nat}{t:Bool}{x:Blk}(h:s b=some (t,x)):frz s b=some (true,x):=by unfold frz;rw[h]
theorem qZb{m:Nat->M α}{Q:α->Hq->Prop}(hfr:∀n,Fr (m n))(h:wpF m Q (frz s)){H:AH}(hH:HRel s H):
  ∃n a H' s2 es,m n H=some (a,H')/\Does es H H'/\(∀i b,(i,b)∈es->s i≠none∨H.next<=i)/\(∀i,(i,true)∈es->H.next<=i)/\(∀i,s i=none->i<H.next->s2 i=none)/\Q a s2/\
   (∀i t b,s i=none->s2 i=some (t,b)->H.next<=i/\∃ab,H'.blks.get i=some ab/\BRl b ab):=by
 have hH1:HRel (frz s) { H with lo:=H.next }:=by
  refine⟨Nat.le_refl _,hH.wf,λi t b hi=>?_⟩;cases e:s i with
  |none=>rw[(qJe (s:=s)).2 e]at hi;cases hi
  | some x=>
    obtain⟨t',b'⟩:=x;rw[qLD e]at hi;cases hi;obtain⟨_,k⟩:=hH.at_ i t' b e;exact⟨by simp,k⟩
 obtain⟨n,a,H1,s2,es,h1,h2,_,h4,d,kn,out⟩:=wpF.framed hfr h hH1;obtain⟨es',d',k⟩:=hfr n { H with lo:=H.next } a H1 h1;have he:es'=es:=List.append_cancel_right (d'.log.symm.trans d.log);subst he;obtain⟨H',h5,d5,n5,g5⟩:=k H rfl hH.lo (λ_ _ _=>rfl);refine⟨n,a,H',s2,es',h5,d5,λi b hb=>?_,λi hi=>d.wlo i hi,λi hi hlt=>(out i ((qJe (s:=s)).2 hi) hlt).1,h4,λi t b hi hs=>?_⟩
 ·rcases kn i b hb with e|e
  ·exact .inl λq=>e ((qJe (s:=s)).2 q)
  ·exact .inr e
 ·obtain⟨_,ab,q1,q2⟩:=h2.at_ i t b hs
  have hge:H.next<=i:=by
   rcases Nat.lt_or_ge i H.next with hlt|hge
   ·rw[(out i ((qJe (s:=s)).2 hi) hlt).1]at hs;cases hs
   ·exact hge
  refine⟨hge,ab,?_,q2⟩
  by_cases hm:∃c,(i,c)∈es'
  ·obtain⟨c,hc⟩:=hm;rw[g5 i c hc];exact q1
  ·rw[d5.same i λhc=>hm ⟨_,hc⟩]
   have:=d.same i λhc=>hm ⟨_,hc⟩;rw[this]at q1;exact q1
theorem zABQ{prev sj s2:Hq}{H H':AH}(hH:HRel prev H)(hsub:∀i,prev i=none->sj i=none){es:List (Nat×Bool)}(d:Does es H H')(hw:∀i,(i,true)∈es->H.next<=i)
  (hn:∀i t b,sj i=none->s2 i=some (t,b)->H.next<=i/\∃ab,H'.blks.get i=some ab/\BRl b ab):HRel (add prev s2) H'/\Pers prev (add prev s2):=by
 refine⟨⟨by rw[d.lo];exact Nat.le_trans hH.lo d.next,λi hi=>?_,λi t b hi=>?_⟩,λi b hi=>qCK hi⟩
 ·rcases d.gone i hi with e|e
  ·exact Nat.lt_of_lt_of_le (hH.wf i e) d.next
  ·exact e.2
 ·cases e:prev i with
  | some x=>
    rw[qCK e]at hi;cases hi;obtain⟨q1,q2⟩:=hH.at_ i t b e;have hlt:=hH.lt (i:=i) (by rw[e];simp);rw[d.lo,d.same i λhc=>by have:=hw i hc;omega];exact⟨q1,q2⟩
  | none=>
    rw[qCU e]at hi;obtain⟨q1,q2⟩:=hn i t b (hsub i e) hi;exact⟨λ_=>by rw[d.lo];exact Nat.le_trans hH.lo q1,q2⟩
theorem qVB{m:M α}(hfr:Fr m){H H':AH}{a:α}{es:List (Nat×Bool)}(h:m H=some (a,H'))(hl:H'.log=es++H.log):
  ∃H'',capture m H=some ((a,es),H'')/\H''.next=H'.next/\H''.lo=H'.lo/\∀i,H''.blks.get i=H'.blks.get i:=by
 obtain⟨es',d,k⟩:=hfr H a H' h;have he:es'=es:=List.append_cancel_right (d.log.symm.trans hl);subst he;obtain⟨K,e2,d2,n2,g2⟩:=k { H with log:=[] } rfl (Nat.le_refl _) (λ_ _ _=>rfl);have hlog:K.log=es':=by simpa using d2.log
 refine⟨{ K with log:=es'++H.log },by simp[capture,e2,hlog],n2,by show K.lo=_;rw[d2.lo,d.lo],λi=>?_⟩;show K.blks.get i=_
 by_cases hm:∃c,(i,c)∈es'
 ·obtain⟨c,hc⟩:=hm;exact g2 i c hc
 ·rw[d2.same i λhc=>hm ⟨_,hc⟩,d.same i λhc=>hm ⟨_,hc⟩]
theorem HRel.eqv{H H':AH}(h:HRel s H)(hn:H'.next=H.next)(hl:H'.lo=H.lo)(hb:∀i,H'.blks.get i=H.blks.get i):HRel s H':=
 ⟨by rw[hn,hl];exact h.lo,λi hi=>by rw[hn];rw[hb]at hi;exact h.wf i hi,λi t b hi=>by rw[hl,hb];exact h.at_ i t b hi⟩
def RB(b:Nat)(m:M α):Prop:=∀H a H',m H=some (a,H')->∃es:List (Nat×Bool),(∀e∈es,e.1=b)/\H'.log=es++H.log
theorem qMs{m:M α}{b:Nat}(h:NE m):RB b m:=λH a H' e=>⟨[],by simp,by rw[h H a H' e];rfl⟩
theorem zABL{m:M α}{f:α->M β}{b:Nat}(hm:RB b m)(hf:∀a,RB b (f a)):RB b (bd m f):=λH c H' h=>by obtain⟨a,H1,h1,h2⟩:=qAQ h;obtain⟨e1,k1,l1⟩:=hm H a H1 h1;obtain⟨e2,k2,l2⟩:=hf a _ c H' h2;exact⟨e2++e1,λe he=>by rcases mP he with he|he;exact k2 e he;exact k1 e he,by rw[l2,l1];simp⟩
theorem qXc{c:Bool}{x y:M α}{b:Nat}(hx:RB b x)(hy:RB b y):RB b (cond c x y):=by cases c<;>assumption
theorem zACl(b:Nat):RB b (rd b):=λH a H' h=>by
 unfold rd at h;cases hb:H.blks.get b with
 |none=>simp[hb]at h
 |some x=>simp only[hb,Option.some.injEq,Prod.mk.injEq]at h;exact⟨[(b,false)],by simp,by rw[<- h.2];rfl⟩
theorem zAEb(b:Nat)(x:ABlk):RB b (wr b x):=λH a H' h=>by
 unfold wr at h;cases hl:Nat.ble H.lo b with
 |false=>rw[hl]at h;cases h
 | true=>
   rw[hl,cond_true]at h;cases hb:H.blks.get b with
   |none=>rw[hb]at h;cases h
   |some y=>rw[hb]at h;cases h;exact⟨[(b,true)],by simp,rfl⟩
theorem qZX(t:TypeId)(b o:Nat):RB b (qHk P t b o):=by
 unfold qHk qCM
 repeat' first|exact qMs qDX|exact qMs (qLs _)|exact qMs (qIY _)|exact zACl _|(refine zABL ?_ λ_=>?_)|split
theorem qX2(t:TypeId)(b o:Nat)(v:AV):RB b (qIw P t (.ptr b o) v):=by
 unfold qIw qB2;simp only
 repeat' first|exact qMs qDX|exact qMs (qLs _)|exact qMs (qIY _)|exact zACl _|exact zAEb _ _|(refine qXc ?_ ?_)|(refine zABL ?_ λ_=>?_)|split
theorem qWz{ih:Task->M Out}{m:M AV}{b:Nat}(h:RB b m):RB b (bd (bd m λx=>ret (.val x)) (qEi ih)):=by intro H a H' e;obtain⟨x,H1,h1,h2⟩:=qAQ e;obtain⟨v,H2,h3,h4⟩:=qAQ h1;cases qAM h4;cases qAM h2;exact h H _ _ h3
theorem zAAR{ih:Task->M Out}{m:M Unit}{b:Nat}(h:RB b m):RB b (bd (bd m λ_=>ret (.val .undef)) (qEi ih)):=by intro H a H' e;obtain⟨x,H1,h1,h2⟩:=qAQ e;obtain⟨v,H2,h3,h4⟩:=qAQ h1;cases qAM h4;cases qAM h2;exact h H _ _ h3
theorem qQF{o:Op}(h:okOp o=true)(hn:∀t g,o≠.load t (.global g)){x:Operand}(hx:x∈o.operands.toList):okX x=true:=List.all_eq_true.1 (qQ0 h hn) x hx
theorem qYS(t:TypeId)(g:Nat):RB g (qKI P t g):=by
 unfold qKI
 repeat' first|exact qMs qDX|exact qMs (qIY _)|exact zACl _|(refine qXc ?_ ?_)|(refine zABL ?_ λ_=>?_)|split
theorem zAAa{all:List Oper}{o:Oper}(hT:TR T env)(ho:okOp o.op=true)(h:isLd o.op=true∨isSt o.op=true):RB (qL2 env o.op) (qDZ P ih all o T):=by
 unfold qDZ;split
 ·cases hop:o.op with
  | load t a=>
    simp only[opA];cases a with
    | global g=>
      simp only[qL2];exact qWz (qYS _ _)
    | _=>
      have hx:=qQF ho (by rw[hop];intro t g e;cases e) (by rw[hop];simp[Op.operands];rfl);simp only[qKb hT hx,qL2];refine qWz ?_;split
      ·rename_i e;rw[e];exact qZX _ _ _
      ·exact qMs qDX
  | store t a x=>
    have hx:okX a=true:=qQF ho (by rw[hop];intro t g e;cases e) (by rw[hop];simp[Op.operands]);have hy:okX x=true:=qQF ho (by rw[hop];intro t g e;cases e) (by rw[hop];simp[Op.operands]);simp only[opA,qKb hT hx,qKb hT hy,qL2];refine zAAR ?_;cases he:evD env a with
    |ptr b o=>exact qX2 _ _ _ _
    |_=>exact qMs qDX
  |_=>rw[hop]at h;rcases h with h|h<;>cases h
 ·exact qMs (qIY _)
 ·exact qMs qDX
def NWm(m:M α):Prop:=∀H a H',m H=some (a,H')->∃es:List (Nat×Bool),(∀e∈es,H.next<=e.1)/\H'.log=es++H.log
theorem qOc(elem:TypeId)(cs:List AV):NWm (qBv elem cs):=by
 intro H a H' h;unfold qBv at h;cases hc:qAd cs with
 |false=>rw[hc]at h;cases h
 | true=>
   rw[hc,cond_true]at h;unfold nw at h;rw[qAw]at h;cases hb:Nat.ble H.lo H.next with
   |false=>rw[hb]at h;cases h
   |true=>rw[hb,cond_true]at h;cases h;exact⟨[(H.next,true)],by simp,rfl⟩
theorem zADV{m:M α}{f:α->M β}(hm:NWm m)(hf:∀a,NE (f a)):NWm (bd m f):=λH c H' h=>by obtain⟨a,H1,h1,h2⟩:=qAQ h;obtain⟨e1,k1,l1⟩:=hm H a H1 h1;rw[hf a H1 c H' h2];exact⟨e1,k1,l1⟩
theorem zABJ{m:M α}(h:NE m):NWm m:=λH a H' e=>⟨[],by simp,by rw[h H a H' e];rfl⟩
theorem qYA{m:M AV}(h:NWm m):NWm (bd (bd m λx=>ret (.val x)) (qEi ih)):=by intro H a H' e;obtain⟨x,H1,h1,h2⟩:=qAQ e;obtain⟨v,H2,h3,h4⟩:=qAQ h1;cases qAM h4;cases qAM h2;exact h H _ _ h3
theorem zADT{all:List Oper}{o:Oper}(h:isNw o.op=true):NWm (qDZ P ih all o T):=by
 unfold qDZ;split
 ·cases hop:o.op with
  | alloc t=>
    simp only[opA];refine qYA ?_;unfold qMa;split
    ·exact zADV (qOc _ _) λ_=>qIY _
    ·exact zABJ qDX
  | box t x=>
    simp only[opA];split
    ·refine qYA ?_
     unfold boxA;exact zADV (qOc _ _) λ_=>qIY _
    ·intro H a H' e
     obtain⟨x,H1,h1,h2⟩:=qAQ e;exact(qAF h1).elim
  |_=>rw[hop]at h;cases h
 ·exact zABJ (qIY _)
 ·exact zABJ qDX
end Go.AM
namespace Go.AM
open Go
variable {P:Program} {X:Td} {nt:Nat} {wl:List Nat}
theorem qIN:∀{l:List (Hq×Hq)}{s:Hq}{b:Nat},cutH l s b≠none->s b≠none/\(∀p∈l,¬(p.1 b=none/\p.2 b≠none))/\cutH l s b=s b
 |[],s,b,h=>⟨h,by simp,rfl⟩
 | p::l,s,b,h=>by
   obtain⟨h1,h2,h3⟩:=qIN (l:=l) h
   by_cases e:p.1 b=none/\p.2 b≠none
   ·exact absurd (if_pos e) h1
   ·rw[if_neg e]at h1 h3
    exact⟨h1,λq hq=>by rcases mC hq with rfl|hq;exact e;exact h2 q hq,h3⟩
theorem qQe(l:List (Hq×Hq))(s:Hq):Sub (cutH l s) s:=λi e hi=>by obtain⟨_,_,h⟩:=qIN (l:=l) (s:=s) (b:=i) (by rw[hi];simp);rw[<- h];exact hi
theorem qN4{l:List (Hq×Hq)}{s:Hq}{b:Nat}(h:s b=none):cutH l s b=none:=by
 cases e:cutH l s b with
 |none=>rfl
 |some x=>exact absurd h (qIN (l:=l) (s:=s) (b:=b) (by rw[e];simp)).1
theorem qUr:∀{l:List (Hq×Hq)}{s:Hq}{b:Nat},s b≠none->(∀p∈l,¬(p.1 b=none/\p.2 b≠none))->cutH l s b≠none
 |[],_,_,h,_=>h
 | p::l,s,b,h,hl=>by
   unfold cutH;refine qUr (l:=l) ?_ λq hq=>hl q (by simp[hq]);rw[if_neg (hl p (by simp))];exact h
theorem qJs{mk k:Nat}{b a:Hq}:∀{l:List (Nat×Hq×Hq)},(k,b,a)∈l->Nat.testBit mk k=false->(b,a)∈qCl mk l
 |[],h,_=>by cases h
 | p::l,h,hk=>by
   unfold qCl;rcases mC h with rfl|h
   ·simp only[hk];exact List.mem_cons_self ..
   ·cases Nat.testBit mk p.1 with
    |true=>exact qJs h hk
    |false=>exact mO _ (qJs h hk)
theorem qOi:∀{a b:List (Nat×Bool)},(∀id x y,(id,x)∈a->(id,y)∈b->x=false/\y=false)->clash a b=false
 |[],_,_=>rfl
 | e::es,b,h=>by
   have h1:qNx e b=false:=by
    have:∀l:List (Nat×Bool),(∀f∈l,f∈b)->qNx e l=false:=by
     intro l
     induction l with
     |nil=>intro _;rfl
     | cons f fs ih=>
       intro hl;unfold qNx;rw[ih λg hg=>hl g (by simp[hg]),Bool.or_false];cases hq:Nat.beq e.1 f.1 with
       |false=>rfl
       | true=>
         have e1:=bE hq;obtain⟨k1,k2⟩:=h e.1 e.2 f.2 (by simp) (by rw[e1];exact hl f (by simp));rw[k1,k2];rfl
    exact this b λ_ h=>h
   unfold clash;rw[h1,qOi λid x y hx hy=>h id x y (by simp[hx]) hy];rfl
theorem qPH{all:Array Oper}{o:Oper}{mk:Nat}{es:List (Nat×Bool)}:∀(l:List (Oper×List (Nat×Bool))) (i:Nat),
  (∀k p,l[k]?=some p->Nat.testBit mk (i+k)=true∨(Oper.apart all p.1 o=true/\clash p.2 es=false))->against all o mk es l i=true
 |[],_,_=>rfl
 | p::l,i,h=>by
   unfold against;rw[qPH l (i+1) λk q hq=>by
    have:=h (k+1) q (by simpa using hq)
    rwa [show i+(k+1)=i+1+k by omega]at this]
   rcases h 0 p rfl with h1|⟨h1,h2⟩
   ·simp only[Nat.add_zero]at h1;simp[h1]
   ·simp[h1,h2]
theorem qVt{ops:Array Oper}{cs mks:List Nat}(h:qNX wl ops cs mks=true){i j:Nat}(hj:j<cs.length)(hij:i<j):Nat.testBit (mks.getD j 0) i=true∨
  ∃p o,ops[i]?=some p/\ops[j]?=some o/\Oper.apart ops p o=true/\(cs.getD i 0=0∨cs.getD j 0=0∨(soft wl ops.toList cs mks i=true/\mild wl cs mks j=true)∨(tch wl ops.toList cs mks i=true/\sft wl ops.toList cs mks j=true)):=by
 unfold qNX at h;have h1:=List.all_eq_true.1 h j (by simpa using hj);have h2:=List.all_eq_true.1 h1 i (by simpa using hij);rcases Bool.or_eq_true_iff.1 h2 with h3|h3
 ·exact .inl h3
 ·right
  split at h3
  ·rename_i p o hp ho
   simp only[Bool.and_eq_true,Bool.or_eq_true]at h3;refine⟨p,o,hp,ho,h3.1,?_⟩;rcases h3.2 with e|e|e|e
   ·exact .inl (bE e)
   ·exact .inr (.inl (bE e))
   ·exact .inr (.inr (.inl e))
   ·exact .inr (.inr (.inr e))
  ·cases h3
structure QInv(wl:List Nat)(all:Array Oper)(cs mks:List Nat)(i:Nat)(D:List (Oper×List (Nat×Bool)))(done rds:List (Nat×Hq×Hq))(s:Hq)(next:Nat):Prop where
 len:D.length=i
 op:∀(k:Nat) p,D[k]?=some p->all[k]?=some p.1
 lt:∀(k:Nat) p,D[k]?=some p->∀id b,(id,b)∈p.2->id<next
 zero:∀(k:Nat) p,D[k]?=some p->cs.getD k 0=0->p.2=[]
 wrote:∀(k:Nat) p,D[k]?=some p->soft wl all.toList cs mks k=true->∀id,(id,true)∈p.2->∃b a,(k,b,a)∈done/\(s id≠none->b id=none/\a id≠none)
 touched:∀(k:Nat) p,D[k]?=some p->tch wl all.toList cs mks k=true->∀id x,(id,x)∈p.2->∃b a,(k,b,a)∈done++rds/\(s id≠none->b id=none/\a id≠none)
theorem QInv.step{all:Array Oper}{cs mks:List Nat}{i:Nat}{D:List (Oper×List (Nat×Bool))}{done done' rds rds':List (Nat×Hq×Hq)}{s s':Hq}{next next':Nat}(h:QInv wl all cs mks i D done rds s next)
  {o:Oper}{es:List (Nat×Bool)}(ho:all[i]?=some o) (hn:next<=next') (hlt:∀id b,(id,b)∈es->id<next') (h0:cs.getD i 0=0->es=[]) (hd:∀p∈done,p∈done') (hr:∀p∈rds,p∈rds') (hs:∀id,id<next->s' id≠none->s id≠none)
  (hw:soft wl all.toList cs mks i=true->∀id,(id,true)∈es->∃b a,(i,b,a)∈done'/\(s' id≠none->b id=none/\a id≠none))
  (ht:tch wl all.toList cs mks i=true->∀id x,(id,x)∈es->∃b a,(i,b,a)∈done'++rds'/\(s' id≠none->b id=none/\a id≠none)):QInv wl all cs mks (i+1) (D ++ [(o,es)]) done' rds' s' next':=by
 have key:∀(k:Nat) p,(D ++ [(o,es)])[k]?=some p->D[k]?=some p∨(k=i/\p=(o,es)):=by
  intro k p hk;rw[List.getElem?_append]at hk;split at hk
  ·exact .inl hk
  ·rename_i hge
   rw[h.len]at hk hge;have:k-i=0:=by
    rcases Nat.eq_zero_or_pos (k-i)with e|e
    ·exact e
    ·rw[List.getElem?_eq_none (by simp;omega)]at hk;cases hk
   rw[this]at hk;cases hk;exact .inr ⟨by omega,rfl⟩
 refine⟨by simp[h.len],λk p hk=>?_,λk p hk id b hb=>?_,λk p hk h3=>?_,λk p hk h3 id hid=>?_,λk p hk h3 id x hid=>?_⟩
 ·rcases key k p hk with e|⟨rfl,rfl⟩
  ·exact h.op k p e
  ·exact ho
 ·rcases key k p hk with e|⟨rfl,rfl⟩
  ·exact Nat.lt_of_lt_of_le (h.lt k p e id b hb) hn
  ·exact hlt id b hb
 ·rcases key k p hk with e|⟨rfl,rfl⟩
  ·exact h.zero k p e h3
  ·exact h0 h3
 ·rcases key k p hk with e|⟨rfl,rfl⟩
  ·obtain⟨b,a,h1,h2⟩:=h.wrote k p e h3 id hid
   exact⟨b,a,hd _ h1,λhne=>h2 (hs id (h.lt k p e id true hid) hne)⟩
  ·exact hw h3 id hid
 ·rcases key k p hk with e|⟨rfl,rfl⟩
  ·obtain⟨b,a,h1,h2⟩:=h.touched k p e h3 id x hid
   refine⟨b,a,?_,λhne=>h2 (hs id (h.lt k p e id x hid) hne)⟩;rcases mP h1 with h1|h1
   ·exact List.mem_append_left _ (hd _ h1)
   ·exact List.mem_append_right _ (hr _ h1)
  ·exact ht h3 id x hid
theorem QInv.against{all:Array Oper}{cs mks:List Nat}{i:Nat}{D:List (Oper×List (Nat×Bool))}{done rds:List (Nat×Hq×Hq)}{s:Hq}{next:Nat}(h:QInv wl all cs mks i D done rds s next)(hd:qNX wl all cs mks=true)(hi:i<cs.length)
  {o:Oper}{es:List (Nat×Bool)}(ho:all[i]?=some o) (h0:cs.getD i 0=0->es=[])
  (hm:mild wl cs mks i=true->(∀id b,(id,b)∈es->cutH (qCl (mks.getD i 0) done) s id≠none∨next<=id)/\(∀id,(id,true)∈es->next<=id))
  (hst:sft wl all.toList cs mks i=true->∀id b,(id,b)∈es->cutH (qCl (mks.getD i 0) (done++rds)) s id≠none∨next<=id):AM.against all o (mks.getD i 0) es D 0=true:=by
 refine qPH D 0 λk p hk=>?_;rw[zA];have hki:k<i:=by rw[<- h.len];exact(gS hk).1
 rcases qVt hd hi hki with e|⟨p',o',hp',ho',hap,hc⟩
 ·exact .inl e
 ·by_cases hb:Nat.testBit (mks.getD i 0) k=true
  ·exact .inl hb
  ·right
   rw[h.op k p hk]at hp';rw[ho]at ho';cases hp';cases ho';refine⟨hap,qOi λid x y hx hy=>?_⟩;rcases hc with hc|hc|⟨hc1,hc2⟩|⟨hc1,hc2⟩
   ·rw[h.zero k p hk hc]at hx;cases hx
   ·rw[h0 hc]at hy;cases hy
   ·obtain⟨m1,m2⟩:=hm hc2
    have hlt:=h.lt k p hk id x hx;have hyf:y=false:=by
     cases y with
     |false=>rfl
     |true=>have:=m2 id hy;omega
    refine⟨?_,hyf⟩;cases x with
    |false=>rfl
    | true=>
      obtain⟨b,a,q1,q2⟩:=h.wrote k p hk hc1 id hx;rcases m1 id y hy with e|e
      ·obtain⟨r1,r2,_⟩:=qIN e
       exact absurd (q2 r1) (r2 _ (qJs q1 (by simpa using hb)))
      ·omega
   ·obtain⟨b,a,q1,q2⟩:=h.touched k p hk hc1 id x hx
    rcases hst hc2 id y hy with e|e
    ·obtain⟨r1,r2,_⟩:=qIN e
     exact absurd (q2 r1) (r2 _ (qJs q1 (by simpa using hb)))
    ·have:=h.lt k p hk id x hx
     omega
theorem qOL(all:Array Oper)(l:List Oper)(mks:List Nat)(D:List (Oper×List (Nat×Bool)))(T:Tmps):Mono λn=>opsD P (run P X n) nt all l mks D T:=qCC λn=>qQT (qDF n) nt all l mks D T
theorem zAE0{all:Array Oper}{o:Oper}{os:List Oper}{mk:Nat}{mks:List Nat}{D:List (Oper×List (Nat×Bool))}{T T1:Tmps}{H H1:AH}{v:AV}{n1:Nat}{es:List (Nat×Bool)}{R:Tmps->AH->Prop}(hX:FrX X)
  (h1:qDZ P (run P X n1) all.toList o T H=some (v,H1)) (hset:setT nt T o.dst v=some T1) (hd:Does es H H1) (hag:against all o mk es D 0=true)
  (hih:∀H2:AH,H2.next=H1.next->H2.lo=H1.lo->(∀i,H2.blks.get i=H1.blks.get i)->∃n2 T' H',opsD P (run P X n2) nt all os mks (D ++ [(o,es)]) T1 H2=some (T',H')/\R T' H') :
  ∃n T' H',opsD P (run P X n) nt all (o::os) (mk::mks) D T H=some (T',H')/\R T' H':=by
 have h2:qHv P (run P X n1) nt all.toList o T H=some (T1,H1):=by simp only[qHv,bd,h1,lift,hset]
 obtain⟨H2,h3,e1,e2,e3⟩:=qVB (qK8 P (qF6 P hX n1) nt all.toList o T) h2 hd.log;obtain⟨n2,T',H',h4,h5⟩:=hih H2 e1 e2 e3;refine⟨max n1 n2,T',H',?_,h5⟩;have m1:Mono λn=>capture (qHv P (run P X n) nt all.toList o T):=qCC λn=>LeM.capture (qJz (qDF n) _ _ _ _);unfold opsD;show AM.bd _ _ _=_;unfold AM.bd;have h3':capture (qHv P (run P X (max n1 n2)) nt all.toList o T) H=some ((T1,es),H2):=m1 n1 (max n1 n2) H _ (Nat.le_max_left _ _) h3;rw[h3'];simp only[hag,cond_true];exact qOL all os mks _ T1 n2 (max n1 n2) H2 _ (Nat.le_max_right _ _) h4
theorem zABv{all:Array Oper}{i:Nat}{o:Oper}(ho:all[i]?=some o):(clsL P all.toList).getD i 0=cls P o.op/\i<(clsL P all.toList).length:=by
 have h1:all.toList[i]?=some o:=by simpa using ho
 refine⟨?_,?_⟩
 ·simp[clsL,List.getD_eq_getElem?_getD,h1]
 ·simpa [clsL]using(gS h1).1
theorem qXP{all:List Oper}{cs mks:List Nat}{i:Nat}(h:sft wl all cs mks i=false)(hs:soft wl all cs mks i=true):mild wl cs mks i=true:=by unfold soft at hs;rw[h,Bool.or_false]at hs;exact hs
theorem qTQ{all:List Oper}{cs mks:List Nat}{i:Nat}{o:Oper}(ho:all[i]?=some o)(h:sft wl all cs mks i=true)(hw:wld wl cs i=false):isSt o.op=true:=by unfold sft at h;rw[ho]at h;simp only[hw,Bool.or_false]at h;exact(Bool.and_eq_true_iff.1 h).1
theorem zACe{all:List Oper}{cs mks:List Nat}{i:Nat}{o:Oper}(ho:all[i]?=some o)(hw:wld wl cs i=true):sft wl all cs mks i=true:=by unfold sft;rw[ho];simp only[hw,Bool.or_true]
theorem zABl{cs:List Nat}{i:Nat}(h:cs.getD i 0≠2):wld wl cs i=false:=by
 cases e:wld wl cs i with
 |false=>rfl
 | true=>
   unfold wld at e;exact absurd (bE (Bool.and_eq_true_iff.1 e).2) h
theorem qZ8{cs mks:List Nat}{i:Nat}(h:mild wl cs mks i=true):wld wl cs i=false:=by
 cases e:wld wl cs i with
 |false=>rfl
 | true=>
   unfold wld at e;obtain⟨e1,e2⟩:=Bool.and_eq_true_iff.1 e;have e3:=bE e2;unfold mild at h;rw[e3,e1]at h;simp at h
theorem qOv{all:List Oper}{cs mks:List Nat}{i:Nat}{o:Oper}(ho:all[i]?=some o)(h:watched wl all cs mks i=true):isLd o.op=true:=by unfold watched at h;rw[ho]at h;exact(Bool.and_eq_true_iff.1 h).1
theorem zAAu{o:Op}(h:isSt o=true):cls P o=3:=by cases o<;>first|rfl|cases h
theorem zADA{o:Op}(h:isLd o=true):cls P o=1:=by cases o<;>first|rfl|cases h
theorem zADS{o:Op}(h:isNw o=true):cls P o=2:=by cases o<;>first|rfl|cases h
theorem zAD1{all:List Oper}{cs mks:List Nat}{i:Nat}{o:Oper}(ho:all[i]?=some o)(h:cls P o.op≠3)(hw:wld wl cs i=false):sft wl all cs mks i=false:=by
 cases e:sft wl all cs mks i with
 |false=>rfl
 |true=>exact absurd (zAAu (qTQ ho e hw)) h
theorem qV2{all:List Oper}{cs mks:List Nat}{i:Nat}{o:Oper}(ho:all[i]?=some o)(h:cls P o.op≠1):watched wl all cs mks i=false:=by
 cases e:watched wl all cs mks i with
 |false=>rfl
 |true=>exact absurd (zADA (qOv ho e)) h
theorem qNv{all:List Oper}{cs mks:List Nat}{i:Nat}{o:Oper}(ho:all[i]?=some o)(h:tch wl all cs mks i=true):watched wl all cs mks i=true∨sft wl all cs mks i=true∨(mild wl cs mks i=true/\isNw o.op=true):=by
 unfold tch at h;rw[ho]at h;simp only[Bool.or_eq_true,Bool.and_eq_true]at h;rcases h with(h|h)|h
 ·exact .inl h
 ·exact .inr (.inl h)
 ·exact .inr (.inr h)
theorem qTf{all:Array Oper}{mks:List Nat}(hX:FrX X)(hlen:mks.length=all.size)(hd:qNX wl all (clsL P all.toList) mks=true){K:Env->Hq->Prop}:
  ∀(os:List Oper) (i:Nat) (done rds:List (Nat×Hq×Hq)) (kn:Kn) (env:Env) (s:Hq) (T:Tmps) (D:List (Oper×List (Nat×Bool))),os=all.toList.drop i->(os.all λo=>okOp o.op)=true->TR T env->KnOk kn env->
   opsQ P X wl nt all.toList (clsL P all.toList) mks os i done rds kn env K s->∀H,HRel s H->QInv wl all (clsL P all.toList) mks i D done rds s H.next->
   ∃n T' H',opsD P (run P X n) nt all os (mks.drop i) D T H=some (T',H')/\∃s' env',HRel s' H'/\Pers s s'/\TR T' env'/\K env' s'/\∀j,(∀o∈os,o.dst≠some j)->env' j=env j
 |[],i,done,rds,kn,env,s,T,D,hos,_,hT,_,h,H,hH,_=>⟨0,T,H,by simp[opsD,ret],s,env,hH,.refl _,hT,h,λ_ _=>rfl⟩
 | o::os,i,done,rds,kn,env,s,T,D,hos,ha,hT,hk,h,H,hH,hq=>by
   simp only[List.all_cons,Bool.and_eq_true]at ha;have hi:i<all.size:=by
    rcases Nat.lt_or_ge i all.size with e|e
    ·exact e
    ·rw[List.drop_eq_nil_of_le (by simpa using e)]at hos;cases hos
   have hcons:=List.drop_eq_getElem_cons (l:=all.toList) (i:=i) (by simpa using hi);rw[hcons]at hos;have ho:all[i]?=some o:=by have:o=all.toList[i]'(by simpa using hi):=(List.cons.inj hos).1;rw[this];simp
   have hol:all.toList[i]?=some o:=by simpa using ho
   have hos':os=all.toList.drop (i+1):=(List.cons.inj hos).2;have hmk:mks.drop i=mks.getD i 0::mks.drop (i+1):=by rw[List.drop_eq_getElem_cons (by omega),List.getD_eq_getElem?_getD,gE (by omega)];rfl
   obtain⟨hcls,hcl⟩:=zABv ho;rw[hmk];obtain⟨kn',hk',hcase⟩:=qNP hT hk h;have go:∀(done' rds':List (Nat×Hq×Hq)) (v:AV) (s1:Hq) (n1:Nat) (H1:AH) (es:List (Nat×Bool)) (kn2:Kn),(∀env',(∀d,o.dst≠some d->env' d=env d)->(∀d,o.dst=some d->env' d=v)->KnOk kn2 env')->qDZ P (run P X n1) all.toList o T H=some (v,H1)->Does es H H1->HRel s1 H1->Pers s s1->
     (setK nt o.dst env v λenv=>opsQ P X wl nt all.toList (clsL P all.toList) mks os (i+1) done' rds' kn2 env K s1)->(cls P o.op=0->es=[])->(∀p∈done,p∈done')->(∀p∈rds,p∈rds')->(∀id,id<H.next->s1 id≠none->s id≠none)->
     (mild wl (clsL P all.toList) mks i=true->(∀id b,(id,b)∈es->cutH (qCl (mks.getD i 0) done) s id≠none∨H.next<=id)/\(∀id,(id,true)∈es->H.next<=id))->
     (sft wl all.toList (clsL P all.toList) mks i=true->∀id b,(id,b)∈es->cutH (qCl (mks.getD i 0) (done++rds)) s id≠none∨H.next<=id)->
     (soft wl all.toList (clsL P all.toList) mks i=true->∀id,(id,true)∈es->∃b a,(i,b,a)∈done'/\(s1 id≠none->b id=none/\a id≠none))->
     (tch wl all.toList (clsL P all.toList) mks i=true->∀id x,(id,x)∈es->∃b a,(i,b,a)∈done'++rds'/\(s1 id≠none->b id=none/\a id≠none))->
     ∃n T' H',opsD P (run P X n) nt all (o::os) (mks.getD i 0::mks.drop (i+1)) D T H=some (T',H')/\∃s' env',HRel s' H'/\Pers s s'/\TR T' env'/\K env' s'/\∀j,(∀o_1∈o::os,o_1.dst≠some j)->env' j=env j:=by
    intro done' rds' v s1 n1 H1 es kn2 hk2 h1 d hH1 hp hset h0 hdone hrds hs hm hst hw ht;obtain⟨T1,env1,g1,g2,g3,g4,g5⟩:=qSn hT hset;refine zAE0 hX h1 g1 d (hq.against hd hcl ho (λe=>h0 (hcls ▸ e)) hm hst) λH2 e1 e2 e3=>?_;have hH2:HRel s1 H2:=hH1.eqv e1 e2 e3;have hq2:QInv wl all (clsL P all.toList) mks (i+1) (D ++ [(o,es)]) done' rds' s1 H2.next:=by
     rw[e1];refine hq.step ho d.next (λid b hb=>?_) (λe=>h0 (hcls ▸ e)) hdone hrds hs hw ht;rcases d.touch id b hb with e|e
     ·exact Nat.lt_of_lt_of_le (hH.wf id e) d.next
     ·exact e.2
    obtain⟨n2,T',H',q1,s',env',q2,q3,q4,q5,q6⟩:=qTf hX hlen hd os (i+1) done' rds' _ env1 s1 T1 (D ++ [(o,es)]) hos' ha.2 g2 (hk2 env1 g4 g5) g3 H2 hH2 hq2;exact⟨n2,T',H',q1,s',env',q2,hp.trans q3,q4,q5,λj hj=>(q6 j λp hp=>hj p (by simp[hp])).trans (g4 j (hj o (by simp)))⟩
   have hfr:∀n,Fr (qDZ P (run P X n) all.toList o T):=λn=>qNE P (qF6 P hX n) _ _ _;have nil0:∀(done' rds':List (Nat×Hq×Hq)) (s1:Hq),(tch wl all.toList (clsL P all.toList) mks i=true->∀id x,(id,x)∈([]:List (Nat×Bool))->∃b a,(i,b,a)∈done'++rds'/\(s1 id≠none->b id=none/\a id≠none)):=λ_ _ _ _ _ _ h=>by cases h
   rcases hcase with⟨hw,h⟩|⟨hw,h⟩
   ·try simp only at h
    by_cases c0:cls P o.op=0
    ·simp only[c0]at h
     obtain⟨n1,v,H1,h1,_,_,_,h4⟩:=qE9 hw hT ha.1 h H hH;have e:=qZe c0 H v H1 h1;subst e;exact go done rds v s n1 _ [] _ (λ_ e _=>hk'.forget e) h1 (.refl _) hH (.refl _) h4 (λ_=>rfl) (λ_ h=>h) (λ_ h=>h) (λ_ _ h=>h) (λ_=>⟨by simp,by simp⟩) (λ_=>by simp) (λ_=>by simp) (nil0 _ _ _)
    ·by_cases c1:cls P o.op=1
     ·simp only[c1]at h
      have hsub:=qQe (qCl (mks.getD i 0) done) s;obtain⟨n1,v,H1,_,es,h1,_,_,h4,d,kno,_⟩:=wpF.framed hfr (qE9 hw hT ha.1 h) (hH.sub hsub);obtain⟨es',r1,r2⟩:=qZK c1 H v H1 h1;have he:es=es':=by have:=d.log;rw[r2]at this;exact(List.append_cancel_right this).symm
      subst he;have nowr:∀id,(id,true)∈es->False:=λid hid=>by have:=r1 _ hid;cases this
      have hsf:sft wl all.toList (clsL P all.toList) mks i=false:=zAD1 hol (by rw[c1];decide) (zABl (by rw[hcls,c1];decide));refine go done _ v s n1 H1 es _ (λ_ e _=>hk'.forget e) h1 d (hH.eqv (by rw[r2]) (by rw[r2]) (by rw[r2];exact λ_=>rfl)) (.refl _) h4 (λe=>absurd e c0) (λ_ h=>h) (λp hp=>?_) (λ_ _ h=>h) (λ_=>⟨kno,λid hid=>(nowr id hid).elim⟩) (λe=>by rw[hsf]at e;cases e) (λ_ id hid=>(nowr id hid).elim) (λhtc id x hid=>?_)
      ·cases watched wl all.toList (clsL P all.toList) mks i with
       |false=>exact hp
       |true=>exact List.mem_append_left _ hp
      ·rcases qNv hol htc with hwt|hwt|⟨_,hwt⟩
       ·rw[hwt,cond_true]
        refine⟨hdel s (qL2 env o.op),s,List.mem_append_right _ (by simp),λhne=>⟨?_,hne⟩⟩;obtain⟨es2,r3,r4⟩:=zAAa (ih:=run P X n1) (all:=all.toList) hT ha.1 (.inl (qOv hol hwt)) H v H1 h1;have he:es=es2:=List.append_cancel_right (d.log.symm.trans r4);subst he;have:=r3 _ hid;unfold hdel;exact if_pos this
       ·rw[hsf]at hwt;cases hwt
       ·have:=zADS (P:=P) hwt;omega
     ·have h:cond (mild wl (clsL P all.toList) mks i)
        (wpOp P X env (λv s2=>(∀b,s b≠none->cutH (qCl (mks.getD i 0) done) s b=none->s2 b=none)->setK nt o.dst env v λenv=>opsQ P X wl nt all.toList (clsL P all.toList) mks os (i+1) (done ++ [(i,s,add s s2)]) rds (forget kn' o.dst) env K (add s s2)) (frz (cutH (qCl (mks.getD i 0) done) s)) o.op)
        (cond (wld wl (clsL P all.toList) i)
         (∃h:Hq,(∀b,h b≠none->s b≠none)/\wpOp P X env (λv s2=>(∀b,s b≠none->cutH (qCl (mks.getD i 0) (done++rds)) (minus s h) b=none->s2 b=none)->setK nt o.dst env v λenv=>opsQ P X wl nt all.toList (clsL P all.toList) mks os (i+1) (done ++ [(i,h,qEH)]) rds (forget kn' o.dst) env K (add s2 (rest s (cutH (qCl (mks.getD i 0) (done++rds)) (minus s h))))) (cutH (qCl (mks.getD i 0) (done++rds)) (minus s h)) o.op)
        (cond (sft wl all.toList (clsL P all.toList) mks i)
         (cutH (qCl (mks.getD i 0) (done++rds)) s (qL2 env o.op)≠none/\wpOp P X env (λv s2=>setK nt o.dst env v λenv'=>opsQ P X wl nt all.toList (clsL P all.toList) mks os (i+1) (done ++ [(i,hdel s (qL2 env o.op),s)]) rds (forget kn' o.dst) env' K s2) s o.op)
         (wpOp P X env (λv s=>setK nt o.dst env v λenv=>opsQ P X wl nt all.toList (clsL P all.toList) mks os (i+1) done rds (forget kn' o.dst) env K s) s o.op))):=by
       revert h;generalize cls P o.op=c at *
       match c with
       | 0=>exact absurd rfl c0
       | 1=>exact absurd rfl c1
       |c+2=>exact id
      have hwn:watched wl all.toList (clsL P all.toList) mks i=false:=qV2 hol c1;cases hmi:mild wl (clsL P all.toList) mks i with
      | true=>
        rw[hmi,cond_true]at h;have hsf:sft wl all.toList (clsL P all.toList) mks i=false:=by
         cases e:sft wl all.toList (clsL P all.toList) mks i with
         |false=>rfl
         | true=>
           have c3:=zAAu (P:=P) (qTQ hol e (qZ8 hmi));unfold mild at hmi;rw[hcls,c3]at hmi;cases hmi
        have hsub:=qQe (qCl (mks.getD i 0) done) s;obtain⟨n1,v,H1,s2,es,h1,d,kno,wrn,out,h4,nw⟩:=qZb hfr (qE9 hw hT ha.1 h) (hH.sub hsub);obtain⟨a1,a2⟩:=zABQ hH (λi hi=>qN4 hi) d wrn nw;have hout:∀id,id<H.next->add s s2 id≠none->s id≠none:=by intro id hid hne e;rw[qCU e]at hne;exact hne (out id (qN4 e) hid)
        have fresh:∀id,H.next<=id->s id=none:=by
         intro id hid;cases e:s id with
         |none=>rfl
         |some x=>have:=hH.lt (i:=id) (by rw[e];simp);omega
        refine go (done ++ [(i,s,add s s2)]) rds v (add s s2) n1 H1 es _ (λ_ e _=>hk'.forget e) h1 d a1 a2 (h4 λb hb hc=>out b hc (hH.lt hb)) (λe=>absurd e c0) (λp hp=>by simp[hp]) (λ_ h=>h) hout (λ_=>⟨kno,wrn⟩) (λe=>by rw[hsf]at e;cases e) (λ_ id hid=>⟨s,add s s2,by simp,λhne=>⟨fresh id (wrn id hid),hne⟩⟩) (λhtc id x hid=>?_);rcases qNv hol htc with hwt|hwt|⟨_,hwt⟩
        ·rw[hwn]at hwt;cases hwt
        ·rw[hsf]at hwt;cases hwt
        ·obtain⟨es2,r3,r4⟩:=zADT (P:=P) (ih:=run P X n1) (all:=all.toList) (T:=T) hwt H v H1 h1
         have he:es=es2:=List.append_cancel_right (d.log.symm.trans r4);subst he;exact⟨s,add s s2,by simp,λhne=>⟨fresh id (r3 _ hid),hne⟩⟩
      | false=>
        rw[hmi,cond_false]at h;cases hwd:wld wl (clsL P all.toList) i with
        | true=>
          rw[hwd,cond_true]at h;obtain⟨hd,hds,h⟩:=h;have hsf:sft wl all.toList (clsL P all.toList) mks i=true:=zACe hol hwd;have hsub0:Sub (minus s hd) s:=λb e hb=>by
           unfold minus at hb;split at hb
           ·exact hb
           ·cases hb
          have hsub:=(λb e hb=>hsub0 b e (qQe (qCl (mks.getD i 0) (done++rds)) (minus s hd) b e hb):Sub _ s)
          obtain⟨n1,v,H1,s1,es,h1,h2,h3,h4,d,kno,out⟩:=wpF.framed hfr (qE9 hw hT ha.1 h) (hH.sub hsub);revert h1 h2 h3 h4 d kno out hsub;generalize hr:cutH (qCl (mks.getD i 0) (done++rds)) (minus s hd)=r at *;intro hsub h1 h2 h3 h4 d kno out;have inr:∀id,r id≠none->s id≠none/\hd id=none/\cutH (qCl (mks.getD i 0) (done++rds)) s id≠none:=by
           intro id hne;rw[<- hr]at hne;obtain⟨g1,g2,_⟩:=qIN hne;unfold minus at g1;split at g1
           ·rename_i e;exact⟨g1,e,qUr g1 g2⟩
           ·exact absurd rfl g1
          have alone:∀id x,(id,x)∈es->hd id=none:=by
           intro id x hid;rcases kno id x hid with e|e
           ·exact(inr id e).2.1
           ·cases q:hd id with
            |none=>rfl
            | some y=>
              have:=hH.lt (hds id (by rw[q];exact Option.some_ne_none _));omega
          have hHS:HRel (add s1 (rest s r)) H1:=by
           refine⟨h2.lo,h2.wf,λid t b hid=>?_⟩;cases q:s1 id with
           | some x=>
             rw[qCK q]at hid;exact h2.at_ id t b (by rw[q];exact hid)
           | none=>
             rw[qCU q]at hid;unfold rest at hid;split at hid
             ·rename_i e
              obtain⟨k1,k2⟩:=hH.at_ id t b hid;have hlt:=hH.lt (i:=id) (by rw[hid];exact Option.some_ne_none _);rw[d.lo,(out id e hlt).2];exact⟨k1,k2⟩
             ·cases hid
          have hPS:Pers s (add s1 (rest s r)):=by
           intro id b hid;cases q:r id with
           | some x=>
             have e1:=hsub id x q;rw[hid]at e1;cases e1;exact qCK (h3 id b q)
           | none=>
             have hlt:=hH.lt (i:=id) (by rw[hid];exact Option.some_ne_none _);rw[qCU (out id q hlt).1];unfold rest;rw[if_pos q];exact hid
          refine go (done ++ [(i,hd,qEH)]) rds v _ n1 H1 es _ (λ_ e _=>hk'.forget e) h1 d hHS hPS (h4 λb hb hc=>(out b hc (hH.lt hb)).1) (λe=>absurd e c0) (λp hp=>by simp[hp]) (λ_ h=>h) (λid hid hne e=>?_) (λe=>by rw[hmi]at e;cases e) (λ_ id b hid=>?_) (λ_ id hid=>⟨hd,qEH,by simp,λ_=>⟨alone id _ hid,by simp[qEH]⟩⟩) (λ_ id x hid=>⟨hd,qEH,by simp,λ_=>⟨alone id _ hid,by simp[qEH]⟩⟩)
          ·have q1:r id=none:=by
            cases q:r id with
            |none=>rfl
            |some y=>have:=hsub id y q;rw[e]at this;cases this
           rw[qCU (out id q1 hid).1]at hne;unfold rest at hne;rw[if_pos q1]at hne;exact hne e
          ·rcases kno id b hid with e|e
           ·exact .inl (inr id e).2.2
           ·exact .inr e
        |false=>
        rw[hwd,cond_false]at h;cases hsf:sft wl all.toList (clsL P all.toList) mks i with
        | true=>
          rw[hsf,cond_true]at h;obtain⟨hcut,h⟩:=h;obtain⟨n1,v,H1,s1,es,h1,h2,h3,h4,d,kno,out⟩:=wpF.framed hfr (qE9 hw hT ha.1 h) hH;obtain⟨es2,r3,r4⟩:=zAAa (ih:=run P X n1) (all:=all.toList) hT ha.1 (.inr (qTQ hol hsf hwd)) H v H1 h1;have he:es=es2:=List.append_cancel_right (d.log.symm.trans r4);subst he;have hb0:=(qIN hcut).1;refine go (done ++ [(i,hdel s (qL2 env o.op),s)]) rds v s1 n1 H1 es _ (λ_ e _=>hk'.forget e) h1 d h2 h3 h4 (λe=>absurd e c0) (λp hp=>by simp[hp]) (λ_ h=>h) (λid hid hne e=>hne (out id e hid).1) (λe=>by rw[hmi]at e;cases e) (λ_ id b hid=>by have hh:=r3 _ hid;simp only at hh;rw[hh];exact .inl hcut) (λ_ id hid=>⟨hdel s (qL2 env o.op),s,by simp,λ_=>?_⟩) (λ_ id x hid=>⟨hdel s (qL2 env o.op),s,by simp,λ_=>?_⟩)
          ·have:=r3 _ hid
           simp only at this;subst this;exact⟨if_pos rfl,hb0⟩
          ·have:=r3 _ hid
           simp only at this;subst this;exact⟨if_pos rfl,hb0⟩
        | false=>
          rw[hsf,cond_false]at h;obtain⟨n1,v,H1,s1,es,h1,h2,h3,h4,d,kno,out⟩:=wpF.framed hfr (qE9 hw hT ha.1 h) hH;refine go done rds v s1 n1 H1 es _ (λ_ e _=>hk'.forget e) h1 d h2 h3 h4 (λe=>absurd e c0) (λ_ h=>h) (λ_ h=>h) (λid hid hne e=>hne (out id e hid).1) (λe=>by rw[hmi]at e;cases e) (λe=>by rw[hsf]at e;cases e) (λe=>by rw[qXP hsf e]at hmi;cases hmi) (λhtc=>?_);rcases qNv hol htc with hwt|hwt|⟨hwt,_⟩
          ·rw[hwn]at hwt;cases hwt
          ·rw[hsf]at hwt;cases hwt
          ·rw[hmi]at hwt;cases hwt
   ·obtain⟨n1,v,H1,h1,s1,h2,h3,h4⟩:=qOU (P:=P) (X:=X) (s:=s) (Q:=λv s'=>v=.undef/\s'=s) hw ⟨rfl,rfl⟩ H hH
    obtain⟨rfl,rfl⟩:=h4;have e:H1=H:=by unfold qDZ at h1;rw[hw]at h1;cases qAM h1;rfl
    subst e;exact go done rds .undef _ n1 _ [] _ (λ_ e e5=>hk'.mark e e5) h1 (.refl _) hH (.refl _) h (λ_=>rfl) (λ_ h=>h) (λ_ h=>h) (λ_ _ h=>h) (λ_=>⟨by simp,by simp⟩) (λ_=>by simp) (λ_=>by simp) (nil0 _ _ _)
end Go.AM
namespace Go.AM
open Go
end Go.AM
namespace Go.AM
open Go
structure ClE(s0:Hq)(H0:AH)(r:Nat)(K:AH):Prop where
 rel:HRel s0 K
 next:H0.next<=K.next
 lo:K.lo=H0.lo
 log:∀i,(i,true)∈K.log->i=r∨H0.next<=i
 kept:∀i,i<H0.next->i≠r->K.blks.get i=H0.blks.get i
theorem ClE.any{s0 t:Hq}{H0 K:AH}{r:Nat}(h:ClE s0 H0 r K)(ht:HRel t H0)(hr:t r=none):HRel t K:=
 ⟨h.rel.lo,h.rel.wf,λi x b hi=>by obtain⟨k1,ab,k2,k3⟩:=ht.at_ i x b hi;refine⟨λq=>by rw[h.lo];exact k1 q,ab,?_,k3⟩;rw[h.kept i (ht.lt (by rw[hi];simp)) λq=>by rw[q,hr]at hi;cases hi];exact k2⟩
end Go.AM
