/- Part A3 of the proof: see the last part. -/
import Derived.Test.YtfjeillpldnajaaGreatA2
import Derived.RangeFuncLeaves
import Derived.RangeFuncNested
import Derived.LoopNIn
import Derived.Maps.RangeRun
import Derived.RecoverIn
import Derived.ProofKit
import Derived.OpenShut
set_option linter.unusedVariables false
namespace Go.AM
open Go Go.RowKit
section
variable {P:Program} {nt:Nat} {ih:Task→M Out}
structure Did(P:Program)(ih:Task->M Out)(nt:Nat)(all:List Oper)(o:Oper)(T:Tmps)(H:AH)(v:AV)(e:List (Nat×Bool))(T':Tmps)(H':AH):Prop where
 set:setT nt T o.dst v=some T'
 does:Does e H H'
 fr:∀H2:AH,H2.next=H.next->H2.lo=H.lo->(∀id b,(id,b)∈e->H2.blks.get id=H.blks.get id)->
  ∃H2',qDZ P ih all o T H2=some (v,H2')/\Does e H2 H2'/\H2'.next=H'.next/\∀id b,(id,b)∈e->H2'.blks.get id=H'.blks.get id
theorem zACx{all:List Oper}{o:Oper}{T T':Tmps}{H H':AH}{e:List (Nat×Bool)}(hfr:∀t,Fr (ih t))(h:capture (qHv P ih nt all o T) H=some ((T',e),H')):
  ∃v,Did P ih nt all o T H v e T' H':=by
 obtain⟨d,⟨K,h1,h2,h3,h4⟩,_⟩:=qSW (qK8 P hfr nt all o T) h;obtain⟨v,h5,h6⟩:=qLn h1;obtain⟨e',d',k⟩:=qNE P hfr all o T _ v K h5;have he:e'=e:=by
  have a1:K.log=e':=by simpa using d'.log
  unfold capture at h;rw[h1]at h;simp only[Option.some.injEq,Prod.mk.injEq]at h;rw[<- a1];exact h.1.2
 subst he;refine⟨v,h6,d,λH2 hn hl hag=>?_⟩;obtain⟨H2',e2,d2,n2,g2⟩:=k H2 hn (Nat.le_of_eq hl) hag;exact⟨H2',e2,d2,n2.trans h3,λid b hb=>by rw[g2 id b hb,h2]⟩
def Sep(all:Array Oper)(mk i:Nat)(p o:Oper)(e f:List (Nat×Bool)):Prop:=Nat.testBit mk i=true∨(Oper.apart all p o=true/\clash e f=false)
theorem trace{all:Array Oper}(hfr:∀t,Fr (ih t)):∀(os:List Oper) (mks:List Nat) (done:List (Oper×List (Nat×Bool))) (k:Nat) (T:Tmps) (H:AH) (T':Tmps) (H':AH),done.length=k->
  opsD P ih nt all os mks done T H=some (T',H')->
  ∃(Ts:Nat->Tmps) (Hs:Nat->AH) (vs:Nat->AV) (es:Nat->List (Nat×Bool)),Ts k=T/\Hs k=H/\Ts (k+os.length)=T'/\Hs (k+os.length)=H'/\
   ∀j o,os[j]?=some o->Did P ih nt all.toList o (Ts (k+j)) (Hs (k+j)) (vs (k+j)) (es (k+j)) (Ts (k+j+1)) (Hs (k+j+1))/\
    ∃mk,mks[j]?=some mk/\(∀i p,done[i]?=some p->Sep all mk i p.1 o p.2 (es (k+j)))/\(∀i p,i<j->os[i]?=some p->Sep all mk (k+i) p o (es (k+i)) (es (k+j))):=by
 intro os
 induction os with
 | nil=>
   intro mks done k T H T' H' hk h;cases qAM h;exact⟨λ_=>T,λ_=>H,λ_=>.undef,λ_=>[],rfl,rfl,rfl,rfl,λj o h=>by simp at h⟩
 | cons o os ih2=>
   intro mks done k T H T' H' hk h;cases mks with
   |nil=>exact(qAF h).elim
   | cons mk mks=>
     obtain⟨⟨T1,e⟩,H1,h1,h2⟩:=qAQ h;obtain⟨h3,h4⟩:=qAn h2;obtain⟨v,hd⟩:=zACx hfr h1;obtain⟨Ts,Hs,vs,es,a1,a2,a3,a4,a5⟩:=ih2 mks (done ++ [(o,e)]) (k+1) T1 H1 T' H' (by simp[hk]) h4;refine⟨λj=>if j=k then T else Ts j,λj=>if j=k then H else Hs j,λj=>if j=k then v else vs j,λj=>if j=k then e else es j,if_pos rfl,if_pos rfl,?_,?_,?_⟩
     ·show(if _ then _ else _)=_
      rw[if_neg (by simp)];rw[<- a3];congr 1;simp;omega
     ·show(if _ then _ else _)=_
      rw[if_neg (by simp)];rw[<- a4];congr 1;simp;omega
     ·intro j q hq
      cases j with
      | zero=>
        simp at hq;subst hq;simp only[Nat.add_zero,if_true,if_neg (show ¬k+1=k by omega),a1,a2];exact⟨hd,mk,rfl,λi p hp=>by have:=qMU done 0 h3 i p hp;simpa [Sep]using this,λi p hi=>by omega⟩
      | succ j=>
        simp at hq;have e1:k+(j+1)=k+1+j:=by omega
        obtain⟨b1,mk',b2,b3,b4⟩:=a5 j q hq;simp only[e1,if_neg (show ¬k+1+j=k by omega),if_neg (show ¬k+1+j+1=k by omega)];refine⟨b1,mk',by simpa using b2,λi p hp=>b3 i p ?_,λi p hi hp=>?_⟩
        ·rw[List.getElem?_append_left (gS hp).1];exact hp
        ·cases i with
         | zero=>
           simp at hp;subst hp;simp only[Nat.add_zero,if_true];have:=b3 k (o,e) (by simp[<- hk]);exact this
         | succ i=>
           simp at hp;have e2:k+(i+1)=k+1+i:=by omega
           simp only[e2,if_neg (show ¬k+1+i=k by omega)];exact b4 i p (by omega) hp
end
end Go.AM
namespace Go.AM
open Go Go.RowKit
section
variable {P:Program} {nt:Nat} {ih:Task→M Out}
structure Trace(P:Program)(ih:Task->M Out)(nt:Nat)(ops:Array Oper)(Ts:Nat->Tmps)(Hs:Nat->AH)(vs:Nat->AV)(es:Nat->List (Nat×Bool)):Prop where
 did:∀j o,ops[j]?=some o->Did P ih nt ops.toList o (Ts j) (Hs j) (vs j) (es j) (Ts (j+1)) (Hs (j+1))
 back:∀(j:Nat) (o:Oper),ops[j]?=some o->∀e∈o.after,Region.binds .any e=true->e.on<j
 sep:∀i j p o,i<j->ops[i]?=some p->ops[j]?=some o->∃mk,(masks ops.toList [])[j]?=some mk/\Sep ops mk i p o (es i) (es j)
noncomputable def cut(Hs:Nat->AH)(es:Nat->List (Nat×Bool))(X:Nat->Prop):Nat->Nat->Option ABlk
 | 0,id=>(Hs 0).blks.get id
 | j+1,id=>by
   classical
   exact if X j/\(id,true)∈es j then(Hs (j+1)).blks.get id else cut Hs es X j id
noncomputable def cutT(ops:Array Oper)(Ts:Nat->Tmps)(vs:Nat->AV)(X:Nat->Prop):Nat->Nat->AV
 | 0,t=>tget (Ts 0) t
 | j+1,t=>by
   classical
   exact if X j/\((ops[j]?).bind (·.dst))=some t then vs j else cutT ops Ts vs X j t
theorem qOT{Hs:Nat->AH}{es:Nat->List (Nat×Bool)}{X:Nat->Prop}{j id:Nat}(h:X j)(h2:(id,true)∈es j):cut Hs es X (j+1) id=(Hs (j+1)).blks.get id:=by unfold cut;exact if_pos ⟨h,h2⟩
theorem qKN{Hs:Nat->AH}{es:Nat->List (Nat×Bool)}{X:Nat->Prop}{j id:Nat}(h:X j->(id,true) ∉ es j):cut Hs es X (j+1) id=cut Hs es X j id:=by
 conv=>lhs;unfold cut
 exact if_neg λk=>h k.1 k.2
theorem qLF{ops:Array Oper}{Ts:Nat->Tmps}{vs:Nat->AV}{X:Nat->Prop}{j t:Nat}{o:Oper}(h:X j)(ho:ops[j]?=some o)(h2:o.dst=some t):cutT ops Ts vs X (j+1) t=vs j:=by unfold cutT;exact if_pos ⟨h,by simp[ho,h2]⟩
theorem qG2{ops:Array Oper}{Ts:Nat->Tmps}{vs:Nat->AV}{X:Nat->Prop}{j t:Nat}(h:X j->∀o,ops[j]?=some o->o.dst≠some t):cutT ops Ts vs X (j+1) t=cutT ops Ts vs X j t:=by
 conv=>lhs;unfold cutT
 refine if_neg λk=>?_;cases ho:ops[j]? with
 |none=>simp[ho]at k
 |some o=>exact h k.1 o ho (by simpa [ho]using k.2)
theorem qQC{T T':Tmps}{dst:Option Tmp}{v:AV}(h:setT nt T dst v=some T')(t:Nat):tget T' t=if dst=some t then v else tget T t:=by
 cases dst with
 |none=>cases h;simp
 | some d=>
   simp only[setT]at h;obtain⟨_,h⟩:=qAb h;cases h;simp only[tget,Tr.get_put]
   by_cases e:d=t
   ·simp[e]
   ·simp[e]
variable {ops:Array Oper} {Ts:Nat→Tmps} {Hs:Nat→AH} {vs:Nat→AV} {es:Nat→List (Nat × Bool)}
def Closed(ops:Array Oper)(X:Nat->Prop):Prop:=∀(j:Nat) (o:Oper),ops[j]?=some o->X j->∀e∈o.after,Region.binds .any e=true->X e.on
namespace Trace
variable (tr : Trace P ih nt ops Ts Hs vs es)
include tr
theorem later{X:Nat->Prop}(hX:Closed ops X){j i:Nat}{o p:Oper}(ho:ops[j]?=some o)(hj:¬X j)(hij:j<i)(hi:X i)(hp:ops[i]?=some p):Oper.apart ops o p=true/\clash (es j) (es i)=false:=by
 obtain⟨mk,h1,h2⟩:=tr.sep j i o p hij ho hp;rcases h2 with h2|h2
 ·exact absurd (qKt tr.back X hX i p mk j hp h1 h2 (hX i p hp hi)) hj
 ·exact h2
theorem earlier{X:Nat->Prop}(hX:Closed ops X){j i:Nat}{o p:Oper}(ho:ops[j]?=some o)(hr:∀e∈o.after,Region.binds .any e=true->X e.on)(hij:i<j)(hi:¬X i)(hp:ops[i]?=some p):Oper.apart ops p o=true/\clash (es i) (es j)=false:=by
 obtain⟨mk,h1,h2⟩:=tr.sep i j p o hij hp ho;rcases h2 with h2|h2
 ·exact absurd (qKt tr.back X hX j o mk i ho h1 h2 hr) hi
 ·exact h2
theorem blk_late{X:Nat->Prop}(hX:Closed ops X){j:Nat}{o:Oper}(ho:ops[j]?=some o)(hj:¬X j){id:Nat}{c:Bool}(hid:(id,c)∈es j):∀d,j+1+d<=ops.size->∀Y:Nat->Prop,(∀i,j<i->(Y i↔X i))->cut Hs es Y (j+1+d) id=cut Hs es Y (j+1) id:=by
 intro d
 induction d with
 |zero=>intro _ _ _;rfl
 | succ d ih2=>
   intro hd Y hY;rw[show j+1+(d+1)=(j+1+d)+1 from by omega,qKN,ih2 (by omega) Y hY];intro hy hin;have hp:ops[j+1+d]?=some ops[j+1+d]:=Array.getElem?_eq_getElem (by omega);obtain⟨_,h2⟩:=tr.later hX ho hj (by omega:j<j+1+d) ((hY _ (by omega)).1 hy) hp;have:=qPc h2 id c true hid hin;simp at this
theorem blk_early{X:Nat->Prop}(hX:Closed ops X){j:Nat}{o:Oper}(ho:ops[j]?=some o)(hr:∀e∈o.after,Region.binds .any e=true->X e.on){id:Nat}{c:Bool}(hid:(id,c)∈es j):∀k,k<=j->cut Hs es X k id=(Hs k).blks.get id:=by
 have hjlt:=(Array.getElem?_eq_some_iff.1 ho).1;intro k
 induction k with
 |zero=>intro _;rfl
 | succ k ih2=>
   intro hk;have hp:ops[k]?=some ops[k]:=Array.getElem?_eq_getElem (by omega)
   by_cases hin:(id,true)∈es k
   ·by_cases hxk:X k
    ·exact qOT hxk hin
    ·obtain⟨_,h2⟩:=tr.earlier hX ho hr (by omega:k<j) hxk hp
     have:=qPc h2 id true c hin hid;simp at this
   ·rw[qKN (λ_=>hin),ih2 (by omega),(tr.did k _ hp).does.same id hin]
theorem blk_ready{X:Nat->Prop}(hX:Closed ops X){j:Nat}{o:Oper}(ho:ops[j]?=some o)(hj:¬X j)(hr:∀e∈o.after,Region.binds .any e=true->X e.on){id:Nat}{c:Bool}(hid:(id,c)∈es j):cut Hs es X ops.size id=(Hs j).blks.get id:=by have hjlt:=(Array.getElem?_eq_some_iff.1 ho).1;have h1:=tr.blk_late hX ho hj hid (ops.size-(j+1)) (by omega) X (λ_ _=>Iff.rfl);rw[show j+1+(ops.size-(j+1))=ops.size from by omega]at h1;rw[h1,qKN (λh=>absurd h hj),tr.blk_early hX ho hr hid j (Nat.le_refl _)]
omit tr in
theorem qZH{X Y:Nat->Prop}{id:Nat}:∀n,(∀i,i<n->(id,true)∈es i->(X i↔Y i))->cut Hs es X n id=cut Hs es Y n id:=by
 intro n
 induction n with
 |zero=>intro _;rfl
 | succ n ih2=>
   intro h
   by_cases hin:(id,true)∈es n
   ·by_cases hx:X n
    ·rw[qOT hx hin,qOT ((h n (by omega) hin).1 hx) hin]
    ·rw[qKN (λk=>absurd k hx),qKN (λk=>absurd ((h n (by omega) hin).2 k) hx),ih2 λi hi=>h i (by omega)]
   ·rw[qKN (λ_=>hin),qKN (λ_=>hin),ih2 λi hi=>h i (by omega)]
theorem blk_step{X:Nat->Prop}(hX:Closed ops X){j:Nat}{o:Oper}(ho:ops[j]?=some o)(hj:¬X j){H H':AH}(hH:∀id,H.blks.get id=cut Hs es X ops.size id)
  (hd:∀id,(id,true) ∉ es j->H'.blks.get id=H.blks.get id) (hg:∀id b,(id,b)∈es j->H'.blks.get id=(Hs (j+1)).blks.get id) (id:Nat):H'.blks.get id=cut Hs es (λi=>i=j∨X i) ops.size id:=by
 have hjlt:=(Array.getElem?_eq_some_iff.1 ho).1
 by_cases hin:(id,true)∈es j
 ·rw[hg id true hin]
  have h1:=tr.blk_late hX ho hj hin (ops.size-(j+1)) (by omega) (λi=>i=j∨X i) (λi hi=>⟨λh=>h.resolve_left (by omega),.inr⟩);rw[show j+1+(ops.size-(j+1))=ops.size from by omega]at h1;rw[h1,qOT (.inl rfl) hin]
 ·rw[hd id hin,hH]
  refine qZH ops.size λi _ hi=>⟨.inr,λh=>?_⟩
  rcases h with rfl|h
  ·exact absurd hi hin
  ·exact h
theorem blk_all{X:Nat->Prop}(hX:∀i,i<ops.size->X i)(id:Nat):∀n,n<=ops.size->cut Hs es X n id=(Hs n).blks.get id:=by
 intro n
 induction n with
 |zero=>intro _;rfl
 | succ n ih2=>
   intro hn
   by_cases hin:(id,true)∈es n
   ·exact qOT (hX n (by omega)) hin
   ·have hp:ops[n]?=some ops[n]:=Array.getElem?_eq_getElem (by omega)
    rw[qKN (λ_=>hin),ih2 (by omega),(tr.did n _ hp).does.same id hin]
theorem tmp_late{X:Nat->Prop}(hX:Closed ops X){j:Nat}{o:Oper}(ho:ops[j]?=some o)(hj:¬X j){t:Nat}(ht:t∈o.looksAt ops∨o.dst=some t):∀d,j+1+d<=ops.size->∀Y:Nat->Prop,(∀i,j<i->(Y i↔X i))->cutT ops Ts vs Y (j+1+d) t=cutT ops Ts vs Y (j+1) t:=by
 intro d
 induction d with
 |zero=>intro _ _ _;rfl
 | succ d ih2=>
   intro hd Y hY;rw[show j+1+(d+1)=(j+1+d)+1 from by omega,qG2,ih2 (by omega) Y hY];intro hy p hp hdst;obtain⟨h1,_⟩:=tr.later hX ho hj (by omega:j<j+1+d) ((hY _ (by omega)).1 hy) hp;obtain⟨_,g2,g3⟩:=Oper.apart_spec h1;rcases ht with ht|ht
   ·exact g3 t hdst ht
   ·exact g2 t ht hdst
theorem tmp_early{X:Nat->Prop}(hX:Closed ops X){j:Nat}{o:Oper}(ho:ops[j]?=some o)(hr:∀e∈o.after,Region.binds .any e=true->X e.on){t:Nat}(ht:t∈o.looksAt ops):∀k,k<=j->cutT ops Ts vs X k t=tget (Ts k) t:=by
 have hjlt:=(Array.getElem?_eq_some_iff.1 ho).1;intro k
 induction k with
 |zero=>intro _;rfl
 | succ k ih2=>
   intro hk;have hp:ops[k]?=some ops[k]:=Array.getElem?_eq_getElem (by omega);rw[qQC (tr.did k _ hp).set t]
   by_cases hdst:ops[k].dst=some t
   ·rw[if_pos hdst]
    by_cases hxk:X k
    ·exact qLF hxk hp hdst
    ·obtain⟨h1,_⟩:=tr.earlier hX ho hr (by omega:k<j) hxk hp
     exact absurd ht ((Oper.apart_spec h1).1 t hdst)
   ·rw[if_neg hdst,qG2 (λ_ p hp'=>by rw[hp]at hp';cases hp';exact hdst),ih2 (by omega)]
theorem tmp_ready{X:Nat->Prop}(hX:Closed ops X){j:Nat}{o:Oper}(ho:ops[j]?=some o)(hj:¬X j)(hr:∀e∈o.after,Region.binds .any e=true->X e.on){t:Nat}(ht:t∈o.looksAt ops):cutT ops Ts vs X ops.size t=tget (Ts j) t:=by have hjlt:=(Array.getElem?_eq_some_iff.1 ho).1;have h1:=tr.tmp_late hX ho hj (.inl ht) (ops.size-(j+1)) (by omega) X (λ_ _=>Iff.rfl);rw[show j+1+(ops.size-(j+1))=ops.size from by omega]at h1;rw[h1,qG2 (λh=>absurd h hj),tr.tmp_early hX ho hr ht j (Nat.le_refl _)]
omit tr in
theorem qZB{X Y:Nat->Prop}{t:Nat}:∀n,(∀i,i<n->(∃p,ops[i]?=some p/\p.dst=some t)->(X i↔Y i))->cutT ops Ts vs X n t=cutT ops Ts vs Y n t:=by
 intro n
 induction n with
 |zero=>intro _;rfl
 | succ n ih2=>
   intro h
   by_cases hin:∃p,ops[n]?=some p/\p.dst=some t
   ·obtain⟨p,hp,hd⟩:=hin
    by_cases hx:X n
    ·rw[qLF hx hp hd,qLF ((h n (by omega) ⟨p,hp,hd⟩).1 hx) hp hd]
    ·rw[qG2 (λk=>absurd k hx),qG2 (λk=>absurd ((h n (by omega) ⟨p,hp,hd⟩).2 k) hx),ih2 λi hi=>h i (by omega)]
   ·rw[qG2 (λ_ p hp hd=>hin ⟨p,hp,hd⟩),qG2 (λ_ p hp hd=>hin ⟨p,hp,hd⟩),ih2 λi hi=>h i (by omega)]
theorem tmp_step{X:Nat->Prop}(hX:Closed ops X){j:Nat}{o:Oper}(ho:ops[j]?=some o)(hj:¬X j){T T':Tmps}(hT:∀t,tget T t=cutT ops Ts vs X ops.size t)
  (hs:setT nt T o.dst (vs j)=some T') (t:Nat):tget T' t=cutT ops Ts vs (λi=>i=j∨X i) ops.size t:=by
 have hjlt:=(Array.getElem?_eq_some_iff.1 ho).1;rw[qQC hs t]
 by_cases hd:o.dst=some t
 ·rw[if_pos hd]
  have h1:=tr.tmp_late hX ho hj (.inr hd) (ops.size-(j+1)) (by omega) (λi=>i=j∨X i) (λi hi=>⟨λh=>h.resolve_left (by omega),.inr⟩);rw[show j+1+(ops.size-(j+1))=ops.size from by omega]at h1;rw[h1,qLF (.inl rfl) ho hd]
 ·rw[if_neg hd,hT]
  refine qZB ops.size λi _ hi=>⟨.inr,λh=>?_⟩
  rcases h with rfl|h
  ·obtain⟨p,hp,hd'⟩:=hi
   rw[ho]at hp;cases hp;exact absurd hd' hd
  ·exact h
theorem tmp_all{X:Nat->Prop}(hX:∀i,i<ops.size->X i)(t:Nat):∀n,n<=ops.size->cutT ops Ts vs X n t=tget (Ts n) t:=by
 intro n
 induction n with
 |zero=>intro _;rfl
 | succ n ih2=>
   intro hn;have hp:ops[n]?=some ops[n]:=Array.getElem?_eq_getElem (by omega);rw[qQC (tr.did n _ hp).set t]
   by_cases hd:ops[n].dst=some t
   ·rw[if_pos hd];exact qLF (hX n (by omega)) hp hd
   ·rw[if_neg hd,qG2 (λ_ p hp'=>by rw[hp]at hp';cases hp';exact hd),ih2 (by omega)]
theorem next_le:∀d j,j+d<=ops.size->(Hs j).next<=(Hs (j+d)).next:=by
 intro d
 induction d with
 |zero=>intro j _;exact Nat.le_refl _
 | succ d ih2=>
   intro j hj;have hp:ops[j+d]?=some ops[j+d]:=Array.getElem?_eq_getElem (by omega);exact Nat.le_trans (ih2 j (by omega)) (tr.did _ _ hp).does.next
theorem lo_eq:∀j,j<=ops.size->(Hs j).lo=(Hs 0).lo:=by
 intro j
 induction j with
 |zero=>intro _;rfl
 | succ j ih2=>
   intro hj;have hp:ops[j]?=some ops[j]:=Array.getElem?_eq_getElem (by omega);rw[(tr.did _ _ hp).does.lo,ih2 (by omega)]
end Trace
end
end Go.AM
namespace Go.AM
open Go Go.RowKit
section
variable {P:Program} {σ:Nat→Value} {base nt:Nat} {ih:Task→M Out}
theorem WR.same{ρ:Ren}{H K:AH}{w:World}(h:WR σ ρ base H w)(hb:∀id,K.blks.get id=H.blks.get id)(hl:K.lo=H.lo):WR σ ρ base K w:=by
 obtain⟨a,b,c,d⟩:=h;refine⟨λid x hx=>?_,λid x L hx hL hlo=>?_,λi j bi bj Li Lj hi hj hLi hLj hlo hne=>?_,d⟩
 ·rw[hl];exact a id x ((hb id).symm.trans hx)
 ·rw[hl]at hlo;exact b id x L ((hb id).symm.trans hx) hL hlo
 ·rw[hl]at hlo;exact c i j bi bj Li Lj ((hb i).symm.trans hi) ((hb j).symm.trans hj) hLi hLj hlo hne
theorem TRel.same{ρ:Ren}{T T':Tmps}{tm:Array Value}(h:TRel σ ρ nt T tm)(ht:∀t,tget T' t=tget T t):TRel σ ρ nt T' tm:=
 ⟨h.size,λi=>by rw[ht];exact h.at_ i⟩
def cntF:List Bool->Nat
 |[]=>0
 |b::l=>(if b then 0 else 1)+cntF l
theorem qPp:∀(l:List Bool) (i:Nat),l[i]?=some false->cntF (l.set i true)+1=cntF l
 |[],i,h=>by simp at h
 |b::l,0,h=>by simp at h;subst h;simp[cntF];omega
 |b::l,i+1,h=>by simp at h;have:=qPp l i h;simp only[List.set_cons_succ,cntF];omega
theorem qOg:∀(l:List Bool),cntF l=0->∀i:Nat,l[i]?≠some false
 |[],_,i=>by simp
 | b::l,h,i=>by
   simp only[cntF]at h;cases b with
   |false=>simp at h
   | true=>
     cases i with
     |zero=>simp
     |succ i=>simpa using qOg l (by simpa using h) i
theorem qKJ(n:Nat):cntF (List.replicate n false)=n:=by
 induction n with
 |zero=>rfl
 |succ n ih=>simp[List.replicate_succ,cntF,ih];omega
def Done(listed:Array Bool):Nat->Prop:=λi=>listed.getD i true=true
theorem qNJ{listed:Array Bool}{j:Nat}(h:listed.getD j true=false):Done (listed.setIfInBounds j true)=λi=>i=j∨Done listed i:=by
 funext i
 apply propext;unfold Done
 by_cases e:j=i
 ·subst e
  have hlt:j<listed.size:=by
   rcases Nat.lt_or_ge j listed.size with h'|h'
   ·exact h'
   ·simp[Array.getElem?_eq_none h']at h
  simp[hlt]
 ·rw[getD_set_ne true e]
  exact⟨.inr,λh=>h.resolve_left (λk=>e k.symm)⟩
theorem undone{listed:Array Bool}{j:Nat}(h:listed.getD j true=false):listed.toList[j]?=some false:=by
 rcases Nat.lt_or_ge j listed.size with h'|h'
 ·simp[Array.getElem?_eq_getElem h']at h
  simp[h',h]
 ·simp[Array.getElem?_eq_none h']at h
theorem qIV{listed:Array Bool}{j:Nat}(h:listed.getD j false=true):Done listed j:=by
 unfold Done;rcases Nat.lt_or_ge j listed.size with h'|h'
 ·simp[Array.getElem?_eq_getElem h']at h ⊢;exact h
 ·simp[Array.getElem?_eq_none h']at h
variable {ops:Array Oper} {Ts:Nat→Tmps} {Hs:Nat→AH} {vs:Nat→AV} {es:Nat→List (Nat × Bool)}
structure Inv(σ:Nat->Value)(base nt:Nat)(ops:Array Oper)(Ts:Nat->Tmps)(Hs:Nat->AH)(vs:Nat->AV)(es:Nat->List (Nat×Bool))(ρ0:Ren)(w0:World)(d0:Act)(X:Nat->Prop)(T:Tmps)(H:AH)(ρ:Ren)(w:World)(a:Act):Prop where
 closed:Closed ops X
 blks:∀id,H.blks.get id=cut Hs es X ops.size id
 tmps:∀t,tget T t=cutT ops Ts vs X ops.size t
 lo:H.lo=(Hs 0).lo
 free:∀j,j<ops.size->¬X j->Free ρ (Hs j).next (Hs (j+1)).next
 ext:Ext ρ0 ρ (Hs 0).next (Hs ops.size).next
 wr:WR σ ρ base H w
 below:Below base w0 w
 rel:TRel σ ρ nt T a.tmps
 defers:a.defers=d0.defers
theorem qUo(hc:qGX P ih)(hr:qD8 P ih)(hname:qEj P)(hfr:∀t,Fr (ih t))(hσ:One σ)(tr:Trace P ih nt ops Ts Hs vs es){r:Option Nat}{Q:Exit->Act->World->Prop}{K:Act->World->Prop}
  {ρ0 ρ:Ren}{w0 w:World}{d0 a:Act}{X:Nat->Prop}{T:Tmps}{H:AH}(hi:Inv σ base nt ops Ts Hs vs es ρ0 w0 d0 X T H ρ w a) {j:Nat}{o:Oper}(ho:ops[j]?=some o) (hj:¬X j) (hready:∀e∈o.after,Region.binds .any e=true->X e.on)
  (hK:∀a' w' T' H' ρ',Inv σ base nt ops Ts Hs vs es ρ0 w0 d0 (λi=>i=j∨X i) T' H' ρ' w' a'->K a' w'):wpOpIn (FR r) 0 P ops Q j K a w:=by
 have hjlt:=(Array.getElem?_eq_some_iff.1 ho).1;have hdid:=tr.did j o ho;obtain⟨H2',e2,d2,n2,g2⟩:=hdid.fr { H with next:=(Hs j).next } rfl (by show H.lo=_;rw[hi.lo,tr.lo_eq j (by omega)])
  (λid b hb=>by show H.blks.get id=_;rw[hi.blks,tr.blk_ready hi.closed ho hj hready hb])
 rw[<- qTV (P:=P) (ih:=ih) (T:=T) (λt ht=>by rw[hi.tmps,tr.tmp_ready hi.closed ho hj hready ht])]at e2;have hT':∃T',setT nt T o.dst (vs j)=some T':=by
  have:=hdid.set;cases hd:o.dst with
  |none=>exact⟨T,rfl⟩
  | some d=>
    rw[hd]at this;simp only[setT]at this ⊢;obtain⟨h1,_⟩:=qAb this;rw[h1];exact⟨_,rfl⟩
 obtain⟨T',hT'⟩:=hT';unfold wpOpIn;simp only[ho];refine qP8 hc hr hname e2 hfr hi.rel hσ (hi.wr.log rfl rfl) (by rw[n2];exact hi.free j hjlt hj) ?_;intro v' w' ρ' hp hv;have hle:∀i k,i<=k->k<=ops.size->(Hs i).next<=(Hs k).next:=λi k h1 h2=>by
  have:=tr.next_le (k-i) i (by omega)
  rwa [show i+(k-i)=k from by omega]at this
 refine hK _ w' T' H2' ρ' ⟨?_,?_,?_,?_,?_,?_,hp.wr,hi.below.trans hp.below,?_,?_⟩
 ·intro k p hp' hk e he hb
  rcases hk with rfl|hk
  ·rw[ho]at hp';cases hp';exact .inr (hready e he hb)
  ·exact .inr (hi.closed k p hp' hk e he hb)
 ·exact tr.blk_step hi.closed ho hj (H:=H) (λid=>hi.blks id) d2.same g2
 ·exact tr.tmp_step hi.closed ho hj hi.tmps hT'
 ·rw[d2.lo];exact hi.lo
 ·intro k hk hx
  have hkj:k≠j:=λe=>hx (.inl e);have hxk:¬X k:=λh=>hx (.inr h);intro id h1 h2;rw[hp.ext.out id ?_]
  ·exact hi.free k hk hxk id h1 h2
  ·show id<(Hs j).next∨H2'.next<=id
   rw[n2];rcases Nat.lt_or_ge k j with h|h
   ·have:=hle (k+1) j (by omega) (by omega);omega
   ·have:=hle (j+1) k (by omega) (by omega);omega
 ·refine⟨hi.ext.le.trans hp.ext.le,λid hid=>?_⟩
  rw[hp.ext.out id ?_,hi.ext.out id hid];show id<(Hs j).next∨H2'.next<=id;rw[n2];have:=hle 0 j (by omega) (by omega);have:=hle (j+1) ops.size (by omega) (by omega);omega
 ·exact qKs hT' (hi.rel.mono hp.ext.le) hv
 ·rw[qEa];exact hi.defers
theorem zAEP(hc:qGX P ih)(hr:qD8 P ih)(hname:qEj P)(hfr:∀t,Fr (ih t))(hσ:One σ)(tr:Trace P ih nt ops Ts Hs vs es){r:Option Nat}{Q:Exit->Act->World->Prop}
  {ρ0:Ren}{w0:World}{d0:Act}(hQ:∀a' w' ρ',Ext ρ0 ρ' (Hs 0).next (Hs ops.size).next->WR σ ρ' base (Hs ops.size) w'->Below base w0 w'->TRel σ ρ' nt (Ts ops.size) a'.tmps->a'.defers=d0.defers->Q .normal a' w') :
  ∀(fuel:Nat) (listed:Array Bool) (T:Tmps) (H:AH) (ρ:Ren) (w:World) (a:Act),listed.size=ops.size->cntF listed.toList<=fuel->Inv σ base nt ops Ts Hs vs es ρ0 w0 d0 (Done listed) T H ρ w a->wpAnyIn (FR r) 0 P .any ops Q fuel listed a w:=by
 have fin:∀(listed:Array Bool) (T:Tmps) (H:AH) (ρ:Ren) (w:World) (a:Act),(∀i,i<ops.size->Done listed i)->Inv σ base nt ops Ts Hs vs es ρ0 w0 d0 (Done listed) T H ρ w a->Q .normal a w:=by
  intro listed T H ρ w a hall hi;refine hQ a w ρ hi.ext (hi.wr.same (λid=>?_) ?_) hi.below (hi.rel.same λt=>?_) hi.defers
  ·rw[hi.blks,tr.blk_all hall id ops.size (Nat.le_refl _)]
  ·rw[hi.lo,tr.lo_eq _ (Nat.le_refl _)]
  ·rw[hi.tmps,tr.tmp_all hall t ops.size (Nat.le_refl _)]
 have ready:∀(listed:Array Bool),listed.size=ops.size->Region.ready .any ops listed=[]->∀i,i<ops.size->Done listed i:=by
  intro listed hs hnil i
  induction i using Nat.strongRecOn with
  | _ i ih2=>
    intro hi;unfold Done;cases hg:listed.getD i true with
    |true=>rfl
    | false=>
      exfalso;have ho:ops[i]?=some ops[i]:=Array.getElem?_eq_getElem hi;have:i∈Region.ready .any ops listed:=mem_ready.2 ⟨hg,_,ho,λe he hb=>by have hlt:=tr.back i _ ho e he hb;have:=ih2 e.on hlt (by omega);unfold Done at this;simp[Array.getElem?_eq_getElem (by omega:e.on<listed.size)]at this ⊢;exact this⟩
      rw[hnil]at this;cases this
 intro fuel
 induction fuel with
 | zero=>
   intro listed T H ρ w a hs hcnt hi;have hall:∀i,i<ops.size->Done listed i:=by
    intro i _;unfold Done;cases hg:listed.getD i true with
    |true=>rfl
    |false=>exact absurd (undone hg) (qOg _ (by omega) i)
   refine⟨?_,fin _ _ _ _ _ _ hall hi⟩;cases hrd:Region.ready .any ops listed with
   |nil=>rfl
   | cons x xs=>
     exfalso;have hx:x∈Region.ready .any ops listed:=by rw[hrd];simp
     obtain⟨h1,o,ho,_⟩:=mem_ready.1 hx;have:=hall x (Array.getElem?_eq_some_iff.1 ho).1;unfold Done at this;rw[h1]at this;cases this
 | succ fuel ih2=>
   intro listed T H ρ w a hs hcnt hi;refine⟨λhnil=>fin _ _ _ _ _ _ (ready listed hs hnil) hi,λj hj=>?_⟩;obtain⟨hjun,o,ho,hall⟩:=mem_ready.1 hj;have hjx:¬Done listed j:=by unfold Done;rw[hjun];simp
   refine qUo hc hr hname hfr hσ tr hi ho hjx (λe he hb=>qIV (hall e he hb)) ?_;intro a' w' T' H' ρ' hi';refine ih2 _ T' H' ρ' w' a' (by simp[hs]) ?_ (by rw[qNJ hjun];exact hi');have:=qPp _ _ (undone hjun);rw[Array.toList_setIfInBounds];omega
theorem qIW{l:List Oper}(h:qCQ l=true):qJH l 0=true/\∀o∈l,∀c,o.op≠.defer c:=by simp only[qCQ,Bool.and_eq_true]at h;refine⟨h.1,λo ho c e=>?_⟩;have:=List.all_eq_true.1 h.2 o ho;rw[e]at this;cases this
theorem zACP(hm:P.follows .mixedOrders=true)(hc:qGX P ih)(hr:qD8 P ih)(hname:qEj P)(hfr:∀t,Fr (ih t))(hσ:One σ){id:Nat}{r:Option Nat}{Q:Exit->Act->World->Prop}{T T':Tmps}{H H':AH}{ρ:Ren}{w:World}{a:Act}
  (hok:qCQ ops.toList=true) (h:opsD P ih nt ops ops.toList (masks ops.toList []) [] T H=some (T',H')) (hT:TRel σ ρ nt T a.tmps) (hwr:WR σ ρ base H w) (hf:Free ρ H.next H'.next)
  (hQ:∀a' w' ρ',Post σ ρ ρ' base H H' w w'->TRel σ ρ' nt T' a'.tmps->a'.defers=a.defers->Q .normal a' w'):(Code.region id ops true).wpIn (FR r) 0 P Q a w:=by
 have hback:=(qIW hok).1;obtain⟨Ts,Hs,vs,es,a1,a2,a3,a4,a5⟩:=trace hfr ops.toList _ [] 0 T H T' H' rfl h;simp only[zA,Array.length_toList]at a3 a4 a5;have a5':∀j o,ops[j]?=some o->_:=λj o ho=>a5 j o (by rw[Array.getElem?_toList];exact ho);have tr:Trace P ih nt ops Ts Hs vs es:=by
  refine⟨λj o ho=>(a5' j o ho).1,λj o ho e he hb=>?_,λi j p o hij hp ho=>?_⟩
  ·have:=qEp ops.toList 0 hback j o (by rw[Array.getElem?_toList];exact ho) e he hb
   omega
  ·obtain⟨_,mk,h1,_,h3⟩:=a5' j o ho
   exact⟨mk,h1,h3 i p hij (by rw[Array.getElem?_toList];exact hp)⟩
 subst a1 a2 a3 a4;refine wpIn_region_any hm (zAEP (base:=base) hc hr hname hfr hσ tr (ρ0:=ρ) (w0:=w) (d0:=a) ?_ ops.size _ (Ts 0) (Hs 0) ρ _ a (by simp) (by simp[qKJ]) ?_)
 ·intro a' w' ρ' h1 h2 h3 h4 h5
  exact hQ a' w' ρ' ⟨h1,h2,h3⟩ h4 h5
 ·have hno:∀i,i<ops.size->¬Done (Array.replicate ops.size false) i:=by
   intro i hi;unfold Done;simp[hi]
  have hle:∀i k,i<=k->k<=ops.size->(Hs i).next<=(Hs k).next:=λi k h1 h2=>by
   have:=tr.next_le (k-i) i (by omega)
   rwa [show i+(k-i)=k from by omega]at this
  refine⟨?_,?_,?_,rfl,?_,.refl _ _ _,?_,?_,hT,rfl⟩
  ·intro j o ho hj
   exact absurd hj (hno j (Array.getElem?_eq_some_iff.1 ho).1)
  ·intro i
   have:∀n,n<=ops.size->cut Hs es (Done (Array.replicate ops.size false)) n i=(Hs 0).blks.get i:=by
    intro n
    induction n with
    |zero=>intro _;rfl
    |succ n ih2=>intro hn;rw[qKN (λk=>absurd k (hno n (by omega))),ih2 (by omega)]
   rw[this _ (Nat.le_refl _)]
  ·intro t
   have:∀n,n<=ops.size->cutT ops Ts vs (Done (Array.replicate ops.size false)) n t=tget (Ts 0) t:=by
    intro n
    induction n with
    |zero=>intro _;rfl
    |succ n ih2=>intro hn;rw[qG2 (λk=>absurd k (hno n (by omega))),ih2 (by omega)]
   rw[this _ (Nat.le_refl _)]
  ·intro j hj _ i h1 h2
   exact hf i (Nat.le_trans (hle 0 j (by omega) (by omega)) h1) (Nat.lt_of_lt_of_le h2 (hle (j+1) ops.size (by omega) (by omega)))
  ·obtain⟨x1,x2,x3,x4⟩:=hwr
   exact⟨x1,x2,x3,x4⟩
  ·exact⟨rfl,rfl,rfl,Nat.le_refl _,λ_ _=>rfl⟩
end
end Go.AM
namespace Go.AM
open Go Go.RowKit
section
variable {P:Program} {σ:Nat→Value} {ρ:Ren} {base nt:Nat} {H H':AH} {w:World} {T:Tmps}
theorem qPm{B:Nat}{o0:Obj}(o:Obj)(h:w.heap[B]?=some o0):Upd w B o (w.putObj B o):=
 ⟨rfl,rfl,rfl,by simp,World.putObj_heap_same (qLc h),λ_ hk=>World.putObj_heap_other hk⟩
def DRel(σ:Nat->Value)(ρ:Ren):List Mk->List Deferred->Prop
 |[],ds=>ds=[]
 | .mark m::ms,ds=>∃L ds',ρ m=some L/\ds={ target:=.collected L.blk,args:=#[] }::ds'/\DRel σ ρ ms ds'
 | .call k args::ms,ds=>∃(cs fs:Array Value) (ds':List Deferred),ds={ target:=.fn (.func k) cs,args:=fs }::ds'/\RelL σ ρ args (fs++cs).toList/\DRel σ ρ ms ds'
theorem DRel.mono{ρ ρ':Ren}(h:Le ρ ρ'):∀{ms:List Mk}{ds:List Deferred},DRel σ ρ ms ds->DRel σ ρ' ms ds
 |[],_,r=>r
 | .mark _::_,_,r=>by unfold DRel at r ⊢;obtain⟨L,ds',h1,h2,h3⟩:=r;exact⟨L,ds',h _ _ h1,h2,DRel.mono h h3⟩
 | .call _ _::_,_,r=>by unfold DRel at r ⊢;obtain⟨cs,fs,ds',h1,h2,h3⟩:=r;exact⟨cs,fs,ds',h1,RelL.mono h _ _ h2,DRel.mono h h3⟩
theorem DRel.append:∀{ms ms':List Mk}{ds ds':List Deferred},DRel σ ρ ms ds->DRel σ ρ ms' ds'->DRel σ ρ (ms++ms') (ds++ds')
 |[],_,_,_,h,k=>by unfold DRel at h;subst h;exact k
 | .mark m::ms,_,_,_,h,k=>by
   unfold DRel at h;obtain⟨L,es,h1,rfl,h3⟩:=h;show DRel σ ρ (.mark m::(ms++_)) _;unfold DRel;exact⟨L,es++_,h1,rfl,DRel.append h3 k⟩
 | .call f as'::ms,_,_,_,h,k=>by
   unfold DRel at h;obtain⟨cs,fs,es,rfl,h2,h3⟩:=h;show DRel σ ρ (.call f as'::(ms++_)) _;unfold DRel;exact⟨cs,fs,es++_,rfl,h2,DRel.append h3 k⟩
theorem qHe{tm:Array Value}(hT:TRel σ ρ nt T tm)(hwr:WR σ ρ base H w):∀(rs:List ResultVar) (H1 H':AH) (vs:List AV),H1.blks=H.blks->H1.lo=H.lo->qBN P T rs H1=some (vs,H')->
  H'.blks=H.blks/\H'.lo=H.lo/\H'.next=H1.next/\∃vs',(rs.mapM λr=>(match r with
   | .tmp t=>pure (tm.getD t undef)
   | .cell a t=>do loadVar t (<- asAddr (tm.getD a undef)):Sem Value)).run P w=.ok vs' w/\RelL σ ρ vs vs'
 | [],H1,H',vs,e1,e2,h=>by
   cases qAM h;exact⟨e1,e2,rfl,[],by simp,.nil⟩
 | .tmp t::rs,H1,H',vs,e1,e2,h=>by
   obtain⟨us,K,h1,h2⟩:=qAQ h;cases qAM h2;obtain⟨a1,a2,a3,vs',a4,a5⟩:=qHe hT hwr rs H1 _ us e1 e2 h1;refine⟨a1,a2,a3,tm.getD t undef::vs',by simp only[List.mapM_cons,Sem.run_bind,Sem.run_pure,Result.andThen_ok,a4],.cons ?_ a5⟩;have:=hT.at_ t;unfold tget at this;cases hg:T.get t with
   |none=>rw[hg]at this;exact this
   |some v=>rw[hg]at this;exact this
 | .cell x t::rs,H1,H',vs,e1,e2,h=>by
   unfold qBN at h;have hx:=hT.at_ x;unfold tget at hx;cases hg:T.get x with
   |none=>simp only[hg]at h;exact(qAF h).elim
   | some y=>
     rw[hg]at hx;simp only[Option.getD_some]at hx;cases y with
     | ptr b o=>
       simp only[hg]at h;unfold Rel at hx;obtain⟨L,hL,hx⟩:=hx;obtain⟨v,K,h1,h2⟩:=qAQ h;obtain⟨us,K2,h3,h4⟩:=qAQ h2;cases qAM h4;obtain⟨b1,b2,b3,v',b4,b5⟩:=qUj (P:=P) h1 (hwr.log (K:=H1) e1 e2) hL;obtain⟨a1,a2,a3,vs',a4,a5⟩:=qHe hT hwr rs K _ us (b1.trans e1) (b2.trans e2) h3;refine⟨a1,a2,a3.trans b3,v'::vs',?_,.cons b5 a5⟩;have ea:(asAddr (tm.getD x undef)).run P w=.ok ⟨L.blk,L.sh+o,none⟩ w:=by rw[hx];rfl
       simp only[List.mapM_cons,Sem.run_bind,ea,Sem.run_pure,Result.andThen_ok,b4,a4]
     |_=>simp only[hg]at h;exact(qAF h).elim
theorem qQD{vs:List AV}{vs':List Value}(h:RelL σ ρ vs vs'):Rel σ ρ (oneV vs) (if h:vs'.toArray.size=1 then vs'.toArray[0]else .tuple vs'.toArray):=by
 match vs,h with
 |[],h=>unfold RelL at h;subst h;show Rel σ ρ (.tup []) _;unfold Rel;exact⟨#[],rfl,.nil⟩
 | [x],h=>
   unfold RelL at h;obtain⟨y,ys,rfl,h1,h2⟩:=h;unfold RelL at h2;subst h2;exact h1
 | x::x2::xs,h=>
   have hl:=h.length;rw[dif_neg (by simp at hl ⊢;omega)];show Rel σ ρ (.tup (x::x2::xs)) _;unfold Rel;exact⟨_,rfl,h⟩
theorem qLa:∀(ps:List Tmp) (args:List AV) (vs:List Value) (T T':Tmps) (tm:Array Value),qF5 nt T ps args=some T'->TRel σ ρ nt T tm->RelL σ ρ args vs->TRel σ ρ nt T' ((ps.zip vs).foldl (λtmps (x:Tmp×Value)=>tmps.setIfInBounds x.1 x.2) tm)
 |[],[],vs,T,T',tm,h,hT,_=>by cases h;exact hT
 |[],_::_,_,_,_,_,h,_,_=>by cases h
 |_::_,[],_,_,_,_,h,_,_=>by cases h
 | p::ps,x::xs,vs,T,T',tm,h,hT,hr=>by
   unfold RelL at hr;obtain⟨y,ys,rfl,h1,h2⟩:=hr;simp only[qF5]at h;obtain⟨hp,h⟩:=qAb h;have:=qKs (nt:=nt) (a:={ tmps:=tm,defers:=[] }) (dst:=some p) (v:=x) (v':=y) (T':=T.put p (some x)) (by simp[setT,hp]) hT h1;exact qLa ps xs ys _ T' _ h this h2
theorem qD0{args:List AV}{args':Array Value}(hr:RelL σ ρ args args'.toList)(hn:args.length<=nt):TRel σ ρ nt (Tr.ofListAt .nil 0 args) (args'++Array.replicate (nt-args'.size) undef):=by
 have hl:args'.size=args.length:=by simpa using hr.length
 refine⟨by simp;omega,λi=>?_⟩;unfold tget;rw[Tr.get_ofListAt,Tr.get_nil]
 by_cases hi:i<args.length
 ·rw[if_pos ⟨by omega,by omega⟩]
  have hx:args[i-0]?=some args[i]:=by simp[hi]
  obtain⟨y,hy,hr⟩:=hr.get i args[i] (by simp[hi]);have hi':i<args'.size:=by omega
  rw[hx];simp only[Option.getD_some];have:(args'++Array.replicate (nt-args'.size) undef).getD i undef=y:=by rw[Array.getD_eq_getD_getElem?,Array.getElem?_append_left hi',<- Array.getElem?_toList,hy];rfl
  rw[this];exact hr
 ·rw[if_neg (by omega)]
  have:(args'++Array.replicate (nt-args'.size) undef).getD i undef=undef:=by rw[Array.getD_eq_getD_getElem?,Array.getElem?_append_right (by omega)];rw[Array.getElem?_replicate];split<;>rfl
  rw[this];exact qLd
end
end Go.AM
namespace Go.AM
open Go Go.RowKit
section
variable {P:Program} {σ:Nat→Value} {ρ:Ren} {base nt:Nat} {H H':AH} {w:World} {T:Tmps} {a:Act} {ih:Task→M Out} {n:Nat}
def qZk:AExit->Exit
 | .nrm=>.normal
 | .exit id=>.exit id
 | .ret=>.ret
def RR(ρ:Ren):Option Nat->Option Nat->Prop
 |none,r=>r=none
 |some l,r=>∃L,ρ l=some L/\r=some L.blk
theorem RR.mono{ρ ρ':Ren}{x r:Option Nat}(h:RR ρ x r)(hl:Le ρ ρ'):RR ρ' x r:=by
 cases x with
 |none=>exact h
 |some l=>obtain⟨L,h1,h2⟩:=h;exact⟨L,hl _ _ h1,h2⟩
def ACode(r:Option Nat)(n:Nat)(P:Program)(c:Code)(Q:Exit->Act->World->Prop)(a:Act)(w:World):Prop:=
 match c with
 | .loop b=>Code.roundsIn (FR r) 0 P b Q (match qCI b with|some _=>1000|none=>n) a w
 |c=>c.wpIn (FR r) 0 P Q a w
theorem ACode.wp{r:Option Nat}{c:Code}{Q:Exit->Act->World->Prop}(h:ACode r n P c Q a w):c.wpIn (FR r) 0 P Q a w:=by cases c<;>first|exact wpIn_loop_rounds _ h|exact h
structure CodePost(σ:Nat->Value)(ρ:Ren)(base nt:Nat)(H H':AH)(w:World)(T':Tmps)(ms':List Mk)(ρ':Ren)(a':Act)(w':World):Prop where
 post:Post σ ρ ρ' base H H' w w'
 tmps:TRel σ ρ' nt T' a'.tmps
 defers:DRel σ ρ' ms' a'.defers
def qF4(P:Program)(n:Nat)(ih:Task->M Out):Prop:=∀(nt:Nat) (rA:Option Nat) (c:Code) (T:Tmps) (ms:List Mk) (H:AH) (o:Out) (H':AH),ih (.code nt rA c T ms) H=some (o,H')->
 ∃e T' ms',o=.exit e T' ms'/\∀(σ:Nat->Value) (ρ:Ren) (base:Nat) (w:World) (a:Act) (r:Option Nat) (Q:Exit->Act->World->Prop),One σ->WR σ ρ base H w->Free ρ H.next H'.next->TRel σ ρ nt T a.tmps->RR ρ rA r->DRel σ ρ ms a.defers->
  (∀a' w' ρ',CodePost σ ρ base nt H H' w T' ms' ρ' a' w'->Q (qZk e) a' w')->ACode r n P c Q a w
def Goal(P:Program)(n nt:Nat)(rA:Option Nat)(c:Code)(T:Tmps)(ms:List Mk)(H:AH)(o:Out)(H':AH):Prop:=
 ∃e T' ms',o=.exit e T' ms'/\∀(σ:Nat->Value) (ρ:Ren) (base:Nat) (w:World) (a:Act) (r:Option Nat) (Q:Exit->Act->World->Prop),One σ->WR σ ρ base H w->Free ρ H.next H'.next->TRel σ ρ nt T a.tmps->RR ρ rA r->DRel σ ρ ms a.defers->
  (∀a' w' ρ',CodePost σ ρ base nt H H' w T' ms' ρ' a' w'->Q (qZk e) a' w')->ACode r n P c Q a w
theorem CodePost.stay{ms:List Mk}(hwr:WR σ ρ base H w)(hT:TRel σ ρ nt T a.tmps)(hd:DRel σ ρ ms a.defers):CodePost σ ρ base nt H H w T ms ρ a w:=
 ⟨⟨.refl _ _ _,hwr,.refl _ _⟩,hT,hd⟩
theorem qKZ{t:Task}(hfr:∀t,Fr (ih t)){o:Out}(h:ih t H=some (o,H')):H.next<=H'.next:=by obtain⟨es,d,_⟩:=hfr t H o H' h;exact d.next
theorem CodePost.trans{ρ1 ρ2:Ren}{K:AH}{T1 T2:Tmps}{ms1 ms2:List Mk}{a1 a2:Act}{w1 w2:World}(h:CodePost σ ρ base nt H K w T1 ms1 ρ1 a1 w1)(k:CodePost σ ρ1 base nt K H' w1 T2 ms2 ρ2 a2 w2)
  (m1:H.next<=K.next) (m2:K.next<=H'.next):CodePost σ ρ base nt H H' w T2 ms2 ρ2 a2 w2:=
 ⟨⟨h.post.ext.trans k.post.ext m1 m2,k.post.wr,h.post.below.trans k.post.below⟩,k.tmps,k.defers⟩
theorem qSF:∀{k k':IntKind},qB6 k k'=true->k=k':=by intro k k' h;cases k<;>cases k'<;>first|rfl|(cases h;done)
theorem zACh{f f':Fn}(h:eqFn f f'=true):f=f':=by
 unfold eqFn at h;split at h
 ·rw[bE h]
 ·exact oT h
mutual
theorem qPb:∀{a b:AV},eqA a b=true->a=b
 | .bool a,b,h=>by
   cases b<;>unfold eqA at h<;>first|(cases h;done)|(have:=oT (p:=_=_) (by simpa using h);simp_all)
 | .int k a,b,h=>by
   cases b<;>unfold eqA at h<;>first|(cases h;done)|(simp only[Bool.and_eq_true,qET,beq_iff_eq]at h;obtain⟨h1,rfl⟩:=h;rw[qSF h1])
 | .str s,b,h=>by
   cases b<;>unfold eqA at h<;>first|(cases h;done)|(rw[oT h])
 | .ptr x o,b,h=>by
   cases b<;>unfold eqA at h<;>first|(cases h;done)|(simp only[Bool.and_eq_true]at h;rw[bE h.1,bE h.2])
 | .nilptr,b,h=>by cases b<;>unfold eqA at h<;>first|rfl|(cases h;done)
 | .slc x o l c e,b,h=>by
   cases b<;>unfold eqA at h<;>first|(cases h;done)|skip
   rename_i x' o' l' c' e';simp only[Bool.and_eq_true]at h;obtain⟨h1,h2,h3,h4,h5⟩:=h;rw[bE h1,bE h2,bE h3,bE h5];cases c<;>cases c'<;>first|rfl|(cases h4;done)|(rw[bE h4])
 | .nilslc,b,h=>by cases b<;>unfold eqA at h<;>first|rfl|(cases h;done)
 | .map x,b,h=>by
   cases b<;>unfold eqA at h<;>first|(cases h;done)|(rw[bE h])
 | .nilmap,b,h=>by cases b<;>unfold eqA at h<;>first|rfl|(cases h;done)
 | .fn f a c,b,h=>by
   cases b<;>unfold eqA at h<;>first|(cases h;done)|skip
   simp only[Bool.and_eq_true]at h;obtain⟨h1,h2,h3⟩:=h;rw[zACh h1,qN3 h2,qN3 h3]
 | .yield x,b,h=>by
   cases b<;>unfold eqA at h<;>first|(cases h;done)|(rw[bE h])
 | .nilFunc,b,h=>by cases b<;>unfold eqA at h<;>first|rfl|(cases h;done)
 | .ifc t v,b,h=>by
   cases b<;>unfold eqA at h<;>first|(cases h;done)|(simp only[Bool.and_eq_true]at h;rw[bE h.1,qPb h.2])
 | .nilIface,b,h=>by cases b<;>unfold eqA at h<;>first|rfl|(cases h;done)
 | .agg l,b,h=>by
   cases b<;>unfold eqA at h<;>first|(cases h;done)|(rw[qN3 h])
 | .tup l,b,h=>by
   cases b<;>unfold eqA at h<;>first|(cases h;done)|(rw[qN3 h])
 | .opq i,b,h=>by
   cases b<;>unfold eqA at h<;>first|(cases h;done)|(rw[bE h])
theorem qN3:∀{a b:List AV},eqAs a b=true->a=b
 |[],b,h=>by cases b<;>unfold eqAs at h<;>first|rfl|(cases h;done)
 | x::xs,b,h=>by
   cases b<;>unfold eqAs at h<;>first|(cases h;done)|(simp only[Bool.and_eq_true]at h;rw[qPb h.1,qN3 h.2])
end
theorem qWT:∀{a b:List AEnt},eqEs a b=true->a=b
 |[],b,h=>by cases b<;>unfold eqEs at h<;>first|rfl|(cases h;done)
 | e::es,b,h=>by
   cases b with
   |nil=>unfold eqEs at h;cases h
   | cons e' es'=>
     unfold eqEs at h;simp only[Bool.and_eq_true]at h;obtain⟨h1,h2,h3,h4⟩:=h;rw[qWT h4];cases e;cases e';simp only at h1 h2 h3;rw[qPb h1,qPb h2,bE h3]
theorem qVs{rA:Option Nat}{c:Code}{ms:List Mk}{o:Out}{s:MapStep}(hs:qCI c=some s)(hco:qF4 P n ih)(hfr:∀t,Fr (ih t))(h:qJQ ih nt rA s T ms H=some (o,H')):Goal P (n+1) nt rA (.loop c) T ms H o H':=(qAF (α:=Out) (H:=H) h).elim
theorem zADQ{rA:Option Nat}{x y:Code}{ms:List Mk}{o:Out}(hco:qF4 P n ih)(hfr:∀t,Fr (ih t))(h:qA7 P ih nt rA (.seq x y) T ms H=some (o,H')):Goal P (n+1) nt rA (.seq x y) T ms H o H':=by
 obtain⟨o1,K,h1,h2⟩:=qAQ h;have m1:=qKZ hfr h1;obtain⟨e,T1,ms1,rfl,k1⟩:=hco _ _ _ _ _ _ _ _ h1;cases e with
 | nrm=>
   have m2:=qKZ hfr h2;obtain⟨e,T2,ms2,rfl,k2⟩:=hco _ _ _ _ _ _ _ _ h2;refine⟨e,T2,ms2,rfl,λσ ρ base w a r Q hσ hwr hf hT hr hd hQ=>wpIn_seq (ACode.wp (n:=n) ?_)⟩;refine k1 σ ρ base w a r _ hσ hwr (hf.left m2) hT hr hd λa1 w1 ρ1 p1=>?_;refine ACode.wp (n:=n) (k2 σ ρ1 base w1 a1 r Q hσ p1.post.wr (p1.post.ext.free hf m1) p1.tmps (hr.mono p1.post.ext.le) p1.defers λa2 w2 ρ2 p2=>hQ a2 w2 ρ2 (p1.trans p2 m1 m2))
 | exit id=>
   cases qAM h2;exact⟨.exit id,T1,ms1,rfl,λσ ρ base w a r Q hσ hwr hf hT hr hd hQ=>wpIn_seq (ACode.wp (n:=n) (k1 σ ρ base w a r _ hσ hwr hf hT hr hd λa1 w1 ρ1 p1=>hQ a1 w1 ρ1 p1))⟩
 | ret=>
   cases qAM h2;exact⟨.ret,T1,ms1,rfl,λσ ρ base w a r Q hσ hwr hf hT hr hd hQ=>wpIn_seq (ACode.wp (n:=n) (k1 σ ρ base w a r _ hσ hwr hf hT hr hd λa1 w1 ρ1 p1=>hQ a1 w1 ρ1 p1))⟩
theorem zACN{rA:Option Nat}{x:Operand}{y z:Code}{ms:List Mk}{o:Out}(hco:qF4 P n ih)(h:qA7 P ih nt rA (.cond x y z) T ms H=some (o,H')):Goal P (n+1) nt rA (.cond x y z) T ms H o H':=by
 unfold qA7 at h;simp only at h;generalize hx:ev T x=v at h;split at h
 ·rename_i t
  obtain⟨e,T1,ms1,rfl,k1⟩:=hco _ _ _ _ _ _ _ _ h;refine⟨e,T1,ms1,rfl,λσ ρ base w a r Q hσ hwr hf hT hr hd hQ=>?_⟩;have hv:=qAy (a:=a) hx hT;unfold Rel at hv;refine wpIn_cond hv ?_;have:=ACode.wp (k1 σ ρ base w a r Q hσ hwr hf hT hr hd hQ);cases t<;>exact this
 ·exact(qAF h).elim
theorem qYw{rA:Option Nat}{id:Nat}{c:Code}{ms:List Mk}{o:Out}(hco:qF4 P n ih)(h:qA7 P ih nt rA (.block id c) T ms H=some (o,H')):Goal P (n+1) nt rA (.block id c) T ms H o H':=by
 obtain⟨o1,K,h1,h2⟩:=qAQ h;obtain⟨e,T1,ms1,rfl,k1⟩:=hco _ _ _ _ _ _ _ _ h1;cases e with
 | nrm=>
   cases qAM h2;exact⟨.nrm,T1,ms1,rfl,λσ ρ base w a r Q hσ hwr hf hT hr hd hQ=>wpIn_block (ACode.wp (n:=n) (k1 σ ρ base w a r _ hσ hwr hf hT hr hd λa1 w1 ρ1 p1=>hQ a1 w1 ρ1 p1))⟩
 | ret=>
   cases qAM h2;exact⟨.ret,T1,ms1,rfl,λσ ρ base w a r Q hσ hwr hf hT hr hd hQ=>wpIn_block (ACode.wp (n:=n) (k1 σ ρ base w a r _ hσ hwr hf hT hr hd λa1 w1 ρ1 p1=>hQ a1 w1 ρ1 p1))⟩
 | exit id'=>
   cases hb:Nat.beq id' id with
   | true=>
     simp only[hb,cond_true]at h2;cases qAM h2;have e:=bE hb;exact⟨.nrm,T1,ms1,rfl,λσ ρ base w a r Q hσ hwr hf hT hr hd hQ=>wpIn_block (ACode.wp (n:=n) (k1 σ ρ base w a r _ hσ hwr hf hT hr hd λa1 w1 ρ1 p1=>by show(if id'=id then _ else _);rw[if_pos e];exact hQ a1 w1 ρ1 p1))⟩
   | false=>
     simp only[hb,cond_false]at h2;cases qAM h2;have e:id'≠id:=λe=>by subst e;simp at hb
     exact⟨.exit id',T1,ms1,rfl,λσ ρ base w a r Q hσ hwr hf hT hr hd hQ=>wpIn_block (ACode.wp (n:=n) (k1 σ ρ base w a r _ hσ hwr hf hT hr hd λa1 w1 ρ1 p1=>by show(if id'=id then _ else _);rw[if_neg e];exact hQ a1 w1 ρ1 p1))⟩
theorem zACG{rA:Option Nat}{c:Code}{ms:List Mk}{o:Out}(hco:qF4 P n ih)(hfr:∀t,Fr (ih t))(h:qA7 P ih nt rA (.loop c) T ms H=some (o,H')):Goal P (n+1) nt rA (.loop c) T ms H o H':=by
 have e0:qA7 P ih nt rA (.loop c) T ms=(match qCI c with
  |some s=>qJQ ih nt rA s T ms
  | none=>bd (ih (.code nt rA c T ms)) λo=>match o with
    | .exit .nrm T ms=>ih (.code nt rA (.loop c) T ms)
    |o=>ret o):=rfl
 rw[e0]at h;cases hs:qCI c with
 |some s=>rw[hs]at h;exact qVs hs hco hfr h
 |none=>
 rw[hs]at h;have hA:∀(r:Option Nat) (Q:Exit->Act->World->Prop) (a:Act) (w:World) (k:Nat),ACode r k P (.loop c) Q a w=Code.roundsIn (FR r) 0 P c Q k a w:=λr Q a w k=>by unfold ACode;simp only[hs]
 obtain⟨o1,K,h1,h2⟩:=qAQ h;have m1:=qKZ hfr h1;obtain⟨e,T1,ms1,rfl,k1⟩:=hco _ _ _ _ _ _ _ _ h1;cases e with
 | nrm=>
   have m2:=qKZ hfr h2;obtain⟨e,T2,ms2,rfl,k2⟩:=hco _ _ _ _ _ _ _ _ h2;refine⟨e,T2,ms2,rfl,λσ ρ base w a r Q hσ hwr hf hT hr hd hQ=>(hA r Q a w (n+1)).mpr (ACode.wp (n:=n) (c:=c) ?_)⟩;refine k1 σ ρ base w a r _ hσ hwr (hf.left m2) hT hr hd λa1 w1 ρ1 p1=>?_;exact(hA r Q a1 w1 n).mp (k2 σ ρ1 base w1 a1 r Q hσ p1.post.wr (p1.post.ext.free hf m1) p1.tmps (hr.mono p1.post.ext.le) p1.defers λa2 w2 ρ2 p2=>hQ a2 w2 ρ2 (p1.trans p2 m1 m2))
 | exit id=>
   cases qAM h2;exact⟨.exit id,T1,ms1,rfl,λσ ρ base w a r Q hσ hwr hf hT hr hd hQ=>(hA r Q a w (n+1)).mpr (ACode.wp (n:=n) (c:=c) (k1 σ ρ base w a r _ hσ hwr hf hT hr hd λa1 w1 ρ1 p1=>hQ a1 w1 ρ1 p1))⟩
 | ret=>
   cases qAM h2;exact⟨.ret,T1,ms1,rfl,λσ ρ base w a r Q hσ hwr hf hT hr hd hQ=>(hA r Q a w (n+1)).mpr (ACode.wp (n:=n) (c:=c) (k1 σ ρ base w a r _ hσ hwr hf hT hr hd λa1 w1 ρ1 p1=>hQ a1 w1 ρ1 p1))⟩
theorem qZ5(n:Nat):List.range n=List.range' 0 n:=List.range_eq_range'
theorem qMf:∀{l l':List Oper}{c:Call},qBc l=some (l',c)->∃o,l=l' ++ [o]/\o.dst=none/\o.op=.defer c/\o.guard=none
 |[],_,_,h=>by cases h
 | [o],l',c,h=>by
   unfold qBc at h;simp only at h;split at h
   ·cases h;exact⟨_,rfl,rfl,rfl,rfl⟩
   ·cases h
 | o::o2::os,l',c,h=>by
   unfold qBc at h;cases hr:qBc (o2::os)with
   |none=>simp only[hr]at h;cases h
   | some p=>
     obtain⟨l2,c2⟩:=p;simp only[hr]at h;cases h;obtain⟨o',h1,h2⟩:=qMf hr;exact⟨o',by rw[h1];rfl,h2⟩
theorem qXf{c:Call}{m:Mk}{ty:TypeId}(h:qKQ P T c=some m)(hT:TRel σ ρ nt T a.tmps):∃(k:FuncId) (args:List AV) (cs fs:Array Value),m=.call k args/\isFn P k=true/\(resolve a.eval c ty).run P w=.ok { target:=.fn (.func k) cs,args:=fs } w/\RelL σ ρ args (fs++cs).toList:=by
 obtain⟨callee,as',ts⟩:=c;unfold qKQ at h;cases callee with
 | value f=>
   simp only at h;split at h
   ·rename_i l k first cap hl hf
    obtain⟨hk,h⟩:=qAb h;cases h;have r1:=qOq (a:=a) hl hT;have r2:=qAy (a:=a) hf hT;unfold Rel at r2;obtain⟨fs,cs,he,g1,g2⟩:=r2;refine⟨k,_,cs,fs++as'.map a.eval,rfl,hk,by simp only[resolve,he,Deferred.ofValue,Sem.run_pure],?_⟩;have:=(g1.append r1).append g2;simpa using this
   ·cases h
 |invoke r n=>cases h
 |builtin b=>cases h
theorem qYk(hm:P.follows .mixedOrders=true)(hname:qEj P){rA:Option Nat}{id:Nat}{ops:Array Oper}{draw:Bool}{ms:List Mk}{o:Out}(hc:qGX P ih)(hro:qD8 P ih)(hfr:∀t,Fr (ih t))(h:qA7 P ih nt rA (.region id ops draw) T ms H=some (o,H')):Goal P (n+1) nt rA (.region id ops draw) T ms H o H':=by
 have e0:qA7 P ih nt rA (.region id ops draw) T ms=(match cond draw none (qBc ops.toList)with
  | some p=>match (generalizing:=false) rA with
    | none=>bd (opsA P ih nt ops.toList p.1 T) λT=>match qKQ P T p.2 with
      |some m=>ret (.exit .nrm T (m::ms))
      |none=>fail
    |some _=>fail
  |none=>bd (cond draw (cond (qCQ ops.toList) (opsD P ih nt ops ops.toList (masks ops.toList []) [] T) fail) (opsA P ih nt ops.toList ops.toList T)) λT=>ret (.exit .nrm T ms)):=rfl
 rw[e0]at h;cases hdo:cond draw none (qBc ops.toList)with
 | some p=>
   obtain⟨l,c⟩:=p;rw[hdo]at h;cases draw with
   |true=>cases hdo
   | false=>
     simp only[cond_false]at hdo;cases rA with
     |some _=>exact(qAF (H:=H) h).elim
     | none=>
       obtain⟨T1,K,h1,h2⟩:=qAQ h;generalize hda:qKQ P T1 c=dm at h2;cases dm with
       |none=>exact(qAF h2).elim
       | some m=>
         cases qAM h2;obtain⟨o1,ho1,hdst,hop,hgd⟩:=qMf hdo;refine⟨.nrm,T1,m::ms,rfl,λσ ρ base w a r Q hσ hwr hf hT hr hd hQ=>?_⟩;unfold RR at hr;subst hr;refine wpIn_region ?_;have hsz:ops.size=l.length+1:=by have:=congrArg List.length ho1;simpa using this
         have hrange:List.range ops.size=List.range' 0 l.length ++ [l.length]:=by rw[hsz,List.range_succ,List.range_eq_range']
         rw[hrange];have hget:∀j,j<l.length->l[j]?=ops[0+j]?:=λj hj=>by rw[zA,<- Array.getElem?_toList,ho1,List.getElem?_append_left hj]
         have hlast:ops[l.length]?=some o1:=by rw[<- Array.getElem?_toList,ho1];simp
         refine qWg (r:=none) (Q:=Q) hc hro hname hfr hσ [l.length] l 0 T H T1 ρ w a hget h1 hT hwr hf λa' w' ρ' p1 p2 p3=>?_;simp only[wpOpsIn,hlast];rw[if_pos (by unfold Region.wanted;rw[hgd])];obtain⟨k,args,cs,fs,rfl,hk,hrun,hrel⟩:=qXf (w:=w') (ty:=o1.type) hda p2;refine⟨qD4,?_⟩;have e1:((o1.semAt (FR none).round a'.eval).run P w')=.ok (.defer { target:=.fn (.func k) cs,args:=fs }) w':=by show((o1.semAt none a'.eval).run P w')=_;rw[Oper.semAt_none];simp only[execOp,hop,Sem.run_bind,hrun,Result.andThen_ok,Sem.run_pure]
         rw[e1,Oper.uponIn_defer];refine hQ _ w' ρ' ⟨p1,by rw[hdst];exact p2,?_⟩;rw[qEa];unfold DRel;exact⟨cs,fs,a'.defers,rfl,hrel,by rw[p3];exact hd.mono p1.ext.le⟩
 |none=>
 rw[hdo]at h;obtain⟨T1,K,h1,h2⟩:=qAQ h;cases qAM h2;refine⟨.nrm,T1,ms,rfl,λσ ρ base w a r Q hσ hwr hf hT hr hd hQ=>?_⟩;have fin:∀a' w' ρ',Post σ ρ ρ' base H H' w w'->TRel σ ρ' nt T1 a'.tmps->a'.defers=a.defers->Q .normal a' w':=λa' w' ρ' p1 p2 p3=>
  hQ a' w' ρ' ⟨p1,p2,by rw[p3];exact hd.mono p1.ext.le⟩
 cases draw with
 | false=>
   refine wpIn_region ?_;rw[qZ5];have:=qWg (r:=r) (Q:=Q) hc hro hname hfr hσ [] ops.toList 0 T H T1 ρ w a (λj _=>by simp) h1 hT hwr hf fin;simpa using this
 | true=>
   obtain⟨hok,h3⟩:=qAn h1;exact zACP hm hc hro hname hfr hσ hok h3 hT hwr hf fin
end
end Go.AM
namespace Go.AM
open Go Go.RowKit
section
variable {P:Program} {σ:Nat→Value} {ρ:Ren} {base nt:Nat} {H H':AH} {w:World} {a:Act} {ih:Task→M Out} {n:Nat}
theorem qKh{fn:Func}{tm:Array Value}{vs':List Value}(h:(fn.results.toList.mapM λr=>(match r with
   | .tmp t=>pure (tm.getD t undef)
   | .cell a t=>do loadVar t (<- asAddr (tm.getD a undef)):Sem Value)).run P w=.ok vs' w) :
  (results fn tm).run P w=.ok (if h:vs'.toArray.size=1 then vs'.toArray[0]else .tuple vs'.toArray) w:=by
 have e:results fn tm=(do
  let vs <- fn.results.mapM λr=>(match r with
   | .tmp t=>pure (tm.getD t undef)
   | .cell a t=>do loadVar t (<- asAddr (tm.getD a undef)):Sem Value)
  pure (if h:vs.size=1 then vs[0]else .tuple vs)):=rfl
 rw[e,Array.mapM_eq_mapM_toList];simp only[Sem.run_bind,Sem.run_map,h,Result.andThen_ok,Sem.run_pure]
theorem qUh{t:Option Tmp}{ts:Array TypeId}{ty:TypeId}{pos:String}{af:Array Edge}{g:Option (Nat×Bool)}{w:World}{a:Act}:(execOp a.eval { dst:=t,op:=.call { callee:=.builtin .recover,args:=#[],argTypes:=ts },type:=ty,pos:=pos,after:=af,guard:=g }).run P w=.ok .recover w:=by simp only[execOp,resolve,invoke,Array.map_empty,Sem.run_bind,Sem.run_pure,Result.andThen_ok];rfl
theorem qSd{c₀:Frame}{cs:List Frame}(h:c₀.mode=.returning):recoverD (c₀::cs)=none:=by simp[recoverD,h]
theorem qWv(hco:qF4 P n ih)(hfr:∀t,Fr (ih t))(hname:qEj P){k:FuncId}{args:List AV}{u:Unit}(h:qKP P ih k args H=some (u,H')){args':Array Value}(hσ:One σ)(hwr:WR σ ρ base H w)(hf:Free ρ H.next H'.next)(hr:RelL σ ρ args args'.toList)
  {R:Ending->FrameMode->World->Prop}(hR:∀v ρ' w',Post σ ρ ρ' base H H' w w'->R (.returned v) .returning w'):isFn P k=true/\CallsDIn Fence.wide 0 P k args' .returning w R:=by
 unfold qKP at h;cases hfn:P.funcs[k]? with
 |none=>simp only[hfn]at h;exact(qAF h).elim
 | some fn=>
   simp only[hfn]at h;cases hb:fn.body with
   |none=>simp only[hb]at h;exact(qAF h).elim
   | some c=>
     simp only[hb]at h;generalize hrs:fn.results.toList=rs at h;cases rs with
     |cons _ _=>exact(qAF h).elim
     | nil=>
       obtain⟨hle,h⟩:=qAn h;have hle:args.length<=fn.ntmps:=by simpa [Nat.ble_eq]using hle
       refine⟨by unfold isFn;rw[hfn];simp[hb],?_⟩;generalize hdc:qOt fn (Tr.ofListAt .nil 0 args) c=dc at h;cases dc with
       |none=>exact(qAF h).elim
       | some p=>
         obtain⟨c',T'⟩:=p;obtain⟨o,K,h1,h2⟩:=qAQ h;obtain⟨e,T1,ms1,rfl,k1⟩:=hco _ _ _ _ _ _ _ _ h1;have hK:K=H'/\ms1=[]/\e≠.exit 0/\(∀i,e≠.exit i):=by
          cases e with
          | nrm=>cases ms1 with
            |nil=>cases qAM h2;exact⟨rfl,rfl,by simp,by simp⟩
            |cons _ _=>exact(qAF (H:=K) h2).elim
          | ret=>cases ms1 with
            |nil=>cases qAM h2;exact⟨rfl,rfl,by simp,by simp⟩
            |cons _ _=>exact(qAF (H:=K) h2).elim
          |exit i=>exact(qAF (H:=K) h2).elim
         obtain⟨rfl,rfl,_,hne⟩:=hK;have hstart:=qD0 (nt:=fn.ntmps) hr hle;have hres:fn.results=#[]:=by apply Array.toList_inj.1;rw[hrs]
         refine callsDIn_of_wpSIn hfn hb trivial λc₀ cs hu=>?_;have fin:∀(a0:Act),a0.defers=[]->TRel σ ρ fn.ntmps T' a0.tmps->c'.wpSIn Fence.wide 0 P (bodyPostS P fn c₀ cs R) a0 (c₀::cs) w:=by
          intro a0 hd0 hT0;refine wpSIn_of_wpIn rfl (ACode.wp (n:=n) (k1 σ ρ base w a0 none _ hσ hwr hf hT0 rfl (by rw[hd0];rfl) λa1 w1 ρ1 p1=>?_));have hd1:a1.defers=[]:=p1.defers;have main:a1.defers=[]/\∃u',(c₀::cs)={ c₀ with mode:=u' }::cs/\∃v,(results fn a1.tmps).run P w1=.ok v w1/\R (.returned v) u' w1:=
           ⟨hd1,.returning,by cases c₀;simp only at hu;subst hu;rfl,.tuple #[],by simp[results,hres],hR _ ρ1 w1 p1.post⟩
          cases e with
          |nrm=>exact main
          |ret=>exact main
          |exit i=>exact absurd rfl (hne i)
         unfold qOt at hdc;cases hrt:qHV c with
         | none=>
           rw[hrt]at hdc;cases hdc;exact fin _ rfl hstart
         | some q=>
           obtain⟨t,rest⟩:=q;rw[hrt]at hdc;obtain⟨hlt,hdc⟩:=qAb hdc;cases hdc;unfold qHV at hrt;split at hrt
           ·rename_i id ops rest'
            split at hrt
            ·rename_i t' ts ty pos af hops
             cases hrt;have e0:ops=#[⟨some t,.call ⟨.builtin .recover,#[],ts⟩,ty,pos,af,none⟩]:=by apply Array.toList_inj.1;rw[hops]
             subst e0;refine wpSIn_seq (wpSIn_region ?_);simp only[List.size_toArray,List.length_cons,List.length_nil,zA,show List.range 1=[0]from rfl,wpOpsSIn,List.getElem?_toArray,g0Y];refine⟨qD4,?_⟩;rw[if_pos (by unfold Region.wanted;rfl),qUh];simp only[qSd hu];refine fin _ (qEa _ _ _) ?_;exact qKs (v:=.nilIface) (v':=.nilIface) (dst:=some t) (by simp only[setT];rw[hlt];rfl) hstart (by unfold Rel;rfl)
            ·cases hrt
           ·cases hrt
theorem qNA(hco:qF4 P n ih)(hfr:∀t,Fr (ih t))(hname:qEj P){fn:Func}{tmps:Array Value}{R:Ending->World->Prop}(hσ:One σ):∀{ms:List Mk}{ds:List Deferred}{H H':AH}{ρ:Ren}{w:World},qAz P ih ms H=some ((),H')->WR σ ρ base H w->Free ρ H.next H'.next->DRel σ ρ ms ds->
  (∀ ρ' w',Post σ ρ ρ' base H H' w w'->LeavesInM Fence.wide 0 P fn tmps R [] .returning w')->LeavesInM Fence.wide 0 P fn tmps R ds .returning w
 | [],ds,H,H',ρ,w,h,hwr,hf,hd,hQ=>by
   cases qAM h;unfold DRel at hd;subst hd;exact hQ ρ w ⟨.refl _ _ _,hwr,.refl _ _⟩
 | .mark m::ms,ds,H,H',ρ,w,h,hwr,hf,hd,hQ=>by
   unfold DRel at hd;obtain⟨L,ds',hL,rfl,hd⟩:=hd;obtain⟨blk,K,h1,h2⟩:=qAQ h;obtain⟨hb,e1,e2,e3⟩:=qCj h1;cases blk with
   | deferred b=>
     cases b with
     |false=>exact(qAF h2).elim
     | true=>
       obtain⟨u,K2,h3,h4⟩:=qAQ h2;obtain⟨hlo,⟨b0,hb0⟩,hk,hkl,hkn⟩:=qKY h3;obtain⟨L',hL',hobj⟩:=hwr.blk m _ hb;rw[hL]at hL';cases hL';have hobj:w.heap[L.blk]?=some (.deferred (some [])):=hobj;have hput:=hwr.put (K:=K2) (b:=.deferred false) hb hL (by rw[<- e2];exact hlo) (qPm (.deferred none) hobj) rfl (λj=>by rw[hk,e1]) (hkl.trans e2);have hn2:K2.next=H.next:=hkn.trans e3;have:=qNA (fn:=fn) (tmps:=tmps) (R:=R) hco hfr hname hσ h4 hput.1 (by rw[hn2];exact hf) hd λρ' w' p=>hQ ρ' w' ⟨by rw[<- hn2];exact p.ext,p.wr,hput.2.trans p.below⟩;unfold LeavesInM;exact⟨by simp,.inl ⟨L.blk,_,rfl,run_takeDeferred hobj,this⟩⟩
   |_=>exact(qAF h2).elim
 | .call k args::ms,ds,H,H',ρ,w,h,hwr,hf,hd,hQ=>by
   unfold DRel at hd;obtain⟨cs,fs,ds',rfl,hrel,hd⟩:=hd;obtain⟨u,K,h1,h2⟩:=qAQ h;have m1:H.next<=K.next:=by obtain⟨es,d,_⟩:=qRz P hfr k args H u K h1;exact d.next
   have m2:K.next<=H'.next:=by obtain⟨es,d,_⟩:=qCO P hfr ms K () H' h2;exact d.next
   obtain⟨q1,q2⟩:=qWv (R:=fun
      | .returned _,u',w'=>LeavesInM Fence.wide 0 P fn tmps R ds' (settle u') w'
      | .panicked chain,u',w'=>LeavesInM Fence.wide 0 P fn tmps R ds' (raised u' chain) w'
      | .outgrown,_,w'=>R .outgrown w') hco hfr hname h1 hσ hwr (hf.left m2) hrel λv ρ1 w1 p1=>by
    show LeavesInM Fence.wide 0 P fn tmps R ds' (settle .returning) w1;exact qNA (fn:=fn) (tmps:=tmps) (R:=R) hco hfr hname hσ h2 p1.wr (p1.ext.free hf m1) (hd.mono p1.ext.le) λρ2 w2 p2=>hQ ρ2 w2 ⟨p1.ext.trans p2.ext m1 m2,p2.wr,p1.below.trans p2.below⟩
   unfold LeavesInM;refine⟨by simp,.inr ⟨λh=>by simp[Fence.wide]at h,.func k,cs,k,fs++cs,rfl,?_,λ_ _=>trivial,q2⟩⟩;simp only[invoke];exact qQu hname q1 _ w
theorem qVl(hco:qF4 P n ih)(hfr:∀t,Fr (ih t))(hname:qEj P){f:FuncId}{args:List AV}{v:AV}(h:qBo P ih f args H=some (.val v,H')){args':Array Value}(hσ:One σ)(hwr:WR σ ρ base H w)(hf:Free ρ H.next H'.next)(hr:RelL σ ρ args args'.toList):
  CallsIn Fence.wide 0 P f args' w (qCk σ ρ base H H' w v):=by
 unfold qBo at h;cases hfn:P.funcs[f]? with
 |none=>simp only[hfn]at h;exact(qAF h).elim
 | some fn=>
   simp only[hfn]at h;cases hb:fn.body with
   |none=>simp only[hb]at h;exact(qAF h).elim
   | some c=>
     simp only[hb]at h;obtain⟨hle,h⟩:=qAn h;have hle:args.length<=fn.ntmps:=by simpa [Nat.ble_eq]using hle
     obtain⟨o,K,h1,h2⟩:=qAQ h;obtain⟨e,T1,ms1,rfl,k1⟩:=hco _ _ _ _ _ _ _ _ h1;have m1:=qKZ hfr h1;have key:∀a1 w1 ρ1,CodePost σ ρ base fn.ntmps H K w T1 ms1 ρ1 a1 w1->bd (qAz P ih ms1) (λ_=>bd (qBN P T1 fn.results.toList) λvs=>ret (Out.val (oneV vs))) K=some (Out.val v,H')->
       LeavesInM Fence.wide 0 P fn a1.tmps (qCk σ ρ base H H' w v) a1.defers .returning w1:=by
      intro a1 w1 ρ1 p1 h3;obtain⟨u,K2,h4,h5⟩:=qAQ h3;obtain⟨vs,K3,h6,h7⟩:=qAQ h5;cases qAM h7;have m2:K.next<=K2.next:=by obtain⟨es,d,_⟩:=qCO P hfr ms1 K () K2 h4;exact d.next
      have m3:K2.next<=H'.next:=by obtain⟨es,d,_⟩:=qCe P T1 fn.results.toList K2 vs H' h6;exact d.next
      refine qNA (fn:=fn) (tmps:=a1.tmps) (R:=qCk σ ρ base H H' w (oneV vs)) hco hfr hname hσ h4 p1.post.wr ((p1.post.ext.free hf m1).left m3) p1.defers λρ2 w2 p2=>?_;obtain⟨b1,b2,b3,vs',b4,b5⟩:=qHe (P:=P) (p1.tmps.mono p2.ext.le) p2.wr _ K2 _ vs rfl rfl h6;refine⟨_,qKh b4,_,ρ2,rfl,⟨?_,p2.wr.log b1 b2,p1.post.below.trans p2.below⟩,qQD b5⟩;rw[b3];exact p1.post.ext.trans p2.ext m1 m2
     have hnext:∀h3:bd (qAz P ih ms1) (λ_=>bd (qBN P T1 fn.results.toList) λvs=>ret (Out.val (oneV vs))) K=some (.val v,H'),K.next<=H'.next:=λh3=>by obtain⟨es,d,_⟩:=qBL (qCO P hfr ms1) (λ_=>qBL (qCe P T1 fn.results.toList) λvs=>qAq (Out.val (oneV vs))) K _ H' h3;exact d.next
     refine callsIn_of_wp_marks hfn hb trivial ?_ rfl;have hstart:=qD0 (nt:=fn.ntmps) hr hle;cases e with
     |exit id=>exact(qAF h2).elim
     |nrm=>exact ACode.wp (n:=n) (k1 σ ρ base w { tmps:=args'++Array.replicate (fn.ntmps-args'.size) undef,defers:=[] } none _ hσ hwr (hf.left (hnext h2)) hstart rfl rfl λa1 w1 ρ1 p1=>key a1 w1 ρ1 p1 h2)
     |ret=>exact ACode.wp (n:=n) (k1 σ ρ base w { tmps:=args'++Array.replicate (fn.ntmps-args'.size) undef,defers:=[] } none _ hσ hwr (hf.left (hnext h2)) hstart rfl rfl λa1 w1 ρ1 p1=>key a1 w1 ρ1 p1 h2)
end
end Go.AM
namespace Go.AM
open Go Go.RowKit
section
variable {P:Program} {σ:Nat→Value} {ρ:Ren} {base:Nat} {H H':AH} {w:World} {T:Tmps} {ih:Task→M Out} {n:Nat}
theorem Post.trans{ρ1 ρ2:Ren}{K:AH}{w1 w2:World}(h:Post σ ρ ρ1 base H K w w1)(k:Post σ ρ1 ρ2 base K H' w1 w2)(m1:H.next<=K.next)(m2:K.next<=H'.next):Post σ ρ ρ2 base H H' w w2:=
 ⟨h.ext.trans k.ext m1 m2,k.wr,h.below.trans k.below⟩
theorem qQ2{l:Nat}{L:Loc}{st st2:LoopState}{pd pd2:Option Code}{nt2:Nat}{T2:Tmps}{ps:List Tmp}{as bo:Code}{d:Nat}{u:Unit}(hwr:WR σ ρ base H w)(hL:ρ l=some L)
  (hb:H.blks.get l=some (.loop st pd nt2 T2 ps as bo d)) (h:wr l (.loop st2 pd2 nt2 T2 ps as bo d) H=some (u,H')) :
  H'.next=H.next/\∃r:Loop,w.heap[L.blk]?=some (.loop r)/\r.state=st/\r.pending=pd/\WR σ ρ base H' (w.putObj L.blk (.loop { r with state:=st2,pending:=pd2 }))/\Below base w (w.putObj L.blk (.loop { r with state:=st2,pending:=pd2 })):=by
 obtain⟨hlo,⟨b0,hb0⟩,hk,hkl,hkn⟩:=qKY h;obtain⟨L',hL',fn,tm,D,q1,q2,q3⟩:=hwr.blk l _ hb;rw[hL]at hL';cases hL';refine⟨hkn,_,q2,rfl,rfl,?_⟩;exact hwr.put (b:=.loop st2 pd2 nt2 T2 ps as bo d) hb hL hlo (qPm _ q2) ⟨fn,tm,D,q1,rfl,q3⟩ hk hkl
theorem qSv{l:Nat}{L:Loc}{e:AExit}{v:AV}(hwr:WR σ ρ base H w)(hL:ρ l=some L)(h:qJG l e H=some (.val v,H'))(Q:Act):
  H'.next=H.next/\∀R:Ending->World->Prop,(∀v' w',WR σ ρ base H' w'->Below base w w'->Rel σ ρ v v'->R (.returned v') w')->roundPost P L.blk R (qZk e) Q w:=by
 obtain⟨blk,K,h1,h2⟩:=qAQ h;obtain⟨hb,e1,e2,e3⟩:=qCj h1;cases blk with
 | loop st pd nt2 T2 ps as bo d=>
   have hwr':WR σ ρ base K w:=hwr.log e1 e2;have hb':K.blks.get l=some (.loop st pd nt2 T2 ps as bo d):=by rw[e1];exact hb
   cases e with
   | nrm=>
     obtain⟨u,K2,h3,h4⟩:=qAQ h2;cases qAM h4;obtain⟨n1,r,q1,q2,q3,q4,q5⟩:=qQ2 hwr' hL hb' h3;exact⟨n1.trans e3,λR k=>⟨_,_,run_endRound none q1,k _ _ q4 q5 (by unfold Rel;rfl)⟩⟩
   | ret=>
     obtain⟨u,K2,h3,h4⟩:=qAQ h2;cases qAM h4;obtain⟨n1,r,q1,q2,q3,q4,q5⟩:=qQ2 hwr' hL hb' h3;exact⟨n1.trans e3,λR k=>⟨_,_,run_endRound (some .ret) q1,k _ _ q4 q5 (by unfold Rel;rfl)⟩⟩
   | exit id=>
     obtain⟨u,K2,h3,h4⟩:=qAQ h2;cases qAM h4;obtain⟨n1,r,q1,q2,q3,q4,q5⟩:=qQ2 hwr' hL hb' h3;exact⟨n1.trans e3,λR k=>⟨_,_,run_endRound (some (.exit id)) q1,k _ _ q4 q5 (by unfold Rel;rfl)⟩⟩
 |_=>exact(qAF h2).elim
theorem zAAX{l:Nat}{L:Loc}{u:Unit}(hwr:WR σ ρ base H w)(hL:ρ l=some L)(h:qUJ l H=some (u,H')):
  H'.next=H.next/\∃w',(Instr.beginRound L.blk).run P w=.ok () w'/\WR σ ρ base H' w'/\Below base w w':=by
 obtain⟨blk,K,h1,h2⟩:=qAQ h;obtain⟨hb,e1,e2,e3⟩:=qCj h1;cases blk with
 | loop st pd nt2 T2 ps as bo d=>
   cases st with
   | ready=>
     obtain⟨n1,r,q1,q2,q3,q4,q5⟩:=qQ2 (hwr.log (K:=K) e1 e2) hL (by rw[e1];exact hb) h2;refine⟨n1.trans e3,_,run_beginRound q1 q2,?_,?_⟩
     ·have:{ r with state:=LoopState.busy,pending:=pd }={ r with state:=LoopState.busy }:=by rw[<- q3]
      rw[this]at q4;exact q4
     ·have:{ r with state:=LoopState.busy,pending:=pd }={ r with state:=LoopState.busy }:=by rw[<- q3]
      rw[this]at q5;exact q5
   |_=>exact(qAF h2).elim
 |_=>exact(qAF h2).elim
theorem qSm(hco:qF4 P n ih)(hfr:∀t,Fr (ih t)){l:Nat}{args:List AV}{v:AV}(h:qGp ih l args H=some (.val v,H')){args':Array Value}{L:Loc}{nx:Next}(hσ:One σ)(hwr:WR σ ρ base H w)(hf:Free ρ H.next H'.next)(hL:ρ l=some L)(hr:RelL σ ρ args args'.toList)
  (hy:(Instr.yield L.blk args').run P w=.ok nx w):∃fn tm as bo,nx=.round L.blk fn tm as bo/\RoundIn Fence.wide 0 P L.blk fn tm as bo w (qCk σ ρ base H H' w v):=by
 obtain⟨blk,K,h1,h2⟩:=qAQ h;obtain⟨hb,e1,e2,e3⟩:=qCj h1;cases blk with
 | loop st pd nt2 T0 ps as bo d=>
   obtain⟨L',hL',fn,tm,D,q1,q2,q3⟩:=hwr.blk l _ hb;rw[hL]at hL';cases hL';simp only at h2;cases hs:qF5 nt2 T0 ps args with
   |none=>simp only[hs]at h2;exact(qAF h2).elim
   | some T1=>
     simp only[hs]at h2;have hsz:args'.size=ps.length:=by
      have h1:∀(ps:List Tmp) (args:List AV) (T T':Tmps),qF5 nt2 T ps args=some T'->args.length=ps.length:=by
       intro ps
       induction ps with
       |nil=>intro args T T' h;cases args with|nil=>rfl|cons x xs=>cases h
       | cons p ps ih2=>
         intro args T T' h;cases args with
         |nil=>cases h
         |cons x xs=>simp only[qF5]at h;obtain⟨_,h⟩:=qAb h;simp[ih2 xs _ _ h]
      have:=h1 ps args T0 T1 hs;have:=hr.length;simp at this;omega
     rw[run_yield q2 (by simpa using hsz)]at hy;cases hy;refine⟨_,_,_,_,rfl,?_⟩;obtain⟨o,K1,h3,h4⟩:=qAQ h2;have m1:=qKZ hfr h3;obtain⟨e,T2,ms2,rfl,k1⟩:=hco _ _ _ _ _ _ _ _ h3;cases e with
     |ret=>exact(qAF h4).elim
     |exit id=>exact(qAF h4).elim
     | nrm=>
       cases ms2 with
       |cons m ms=>exact(qAF h4).elim
       | nil=>
         obtain⟨u,K2,h5,h6⟩:=qAQ h4;obtain⟨o,K3,h7,h8⟩:=qAQ h6;have m3:=qKZ hfr h7;obtain⟨e,T3,ms3,rfl,k2⟩:=hco _ _ _ _ _ _ _ _ h7;have h8:qJG l e K3=some (.val v,H'):=h8;have n2:K2.next=K1.next:=by
          obtain⟨blk,A,g1,g2⟩:=qAQ h5;obtain⟨_,_,_,e3⟩:=qCj g1;split at g2
          ·obtain⟨_,_,_,_,e4⟩:=qKY g2;rw[e4,e3]
          ·exact(qAF g2).elim
         have m4:K3.next<=H'.next:=by obtain⟨es,d,_⟩:=qMc l e K3 _ H' h8;exact d.next
         have htm:TRel σ ρ nt2 T1 ((ps.toArray.zip args').foldl (λtmps (x:Tmp×Value)=>tmps.setIfInBounds x.1 x.2) tm):=by have:=qLa ps args args'.toList T0 T1 tm hs q3 hr;rw[<- Array.foldl_toList];simpa using this
         have hwrK:WR σ ρ base K w:=hwr.log e1 e2;refine roundIn_of_wpIn trivial ?_;have:=k1 σ ρ base w { tmps:=((ps.toArray.zip args').foldl (λtmps (x:Tmp×Value)=>tmps.setIfInBounds x.1 x.2) tm),defers:=[] } (some L.blk)
          (Exit.then (λa₁ w₁=>∃w₂,(Instr.beginRound L.blk).run P w₁=.ok () w₂/\bo.wpIn (Fence.wide.inRound L.blk) 0 P (roundPost P L.blk (qCk σ ρ base H H' w v)) a₁ w₂) (λ_ _ _=>False))
          hσ hwrK (by rw[e3];exact hf.left (by omega)) htm ⟨L,hL,rfl⟩ rfl ?_
         ·exact this.wp
         ·intro a1 w1 ρ1 p1
          have hL1:ρ1 l=some L:=p1.post.ext.le _ _ hL;obtain⟨n3,w2,g1,g2,g3⟩:=zAAX (P:=P) p1.post.wr hL1 h5;refine⟨w2,g1,?_⟩;have hf1:Free ρ1 K1.next H'.next:=p1.post.ext.free (by rw[e3];exact hf) m1;have:=k2 σ ρ1 base w2 a1 (some L.blk) (roundPost P L.blk (qCk σ ρ base H H' w v)) hσ g2 (by rw[n2];exact hf1.left m4) p1.tmps ⟨L,hL1,rfl⟩ p1.defers ?_
          ·exact this.wp
          ·intro a3 w3 ρ3 p3
           have hL3:ρ3 l=some L:=p3.post.ext.le _ _ hL1;obtain⟨n4,k3⟩:=qSv (P:=P) (v:=v) p3.post.wr hL3 h8 a3;refine k3 _ λv' w' x1 x2 x3=>⟨v',ρ3,rfl,⟨?_,x1,?_⟩,x3⟩
           ·rw[n4]
            have y1:Ext ρ ρ1 H.next K1.next:=by rw[<- e3];exact p1.post.ext
            have y2:Ext ρ1 ρ3 K1.next K3.next:=by rw[<- n2];exact p3.post.ext
            exact y1.trans y2 (by omega) (by omega)
           ·exact((p1.post.below.trans g3).trans p3.post.below).trans x2
 |_=>exact(qAF h2).elim
end
end Go.AM
namespace Go.AM
open Go Go.RowKit
section
variable {P:Program} {σ:Nat→Value} {ρ:Ren} {base nt:Nat} {H H':AH} {w:World} {T:Tmps} {a:Act} {ih:Task→M Out} {n:Nat}
theorem qWC(hm:P.follows .mixedOrders=true)(hname:qEj P)(hco:qF4 P n ih)(hc:qGX P ih)(hro:qD8 P ih)(hfr:∀t,Fr (ih t)){rA:Option Nat}{c:Code}{ms:List Mk}{o:Out}(h:qA7 P ih nt rA c T ms H=some (o,H')):
  Goal P (n+1) nt rA c T ms H o H':=by
 cases c with
 | skip=>
   cases qAM h;exact⟨.nrm,T,ms,rfl,λσ ρ base w a r Q hσ hwr hf hT hr hd hQ=>wpIn_skip (hQ a w ρ (.stay hwr hT hd))⟩
 | exit id=>
   cases qAM h;exact⟨.exit id,T,ms,rfl,λσ ρ base w a r Q hσ hwr hf hT hr hd hQ=>wpIn_exit (hQ a w ρ (.stay hwr hT hd))⟩
 | ret=>
   cases qAM h;exact⟨.ret,T,ms,rfl,λσ ρ base w a r Q hσ hwr hf hT hr hd hQ=>wpIn_ret (hQ a w ρ (.stay hwr hT hd))⟩
 |region id ops draw=>exact qYk hm hname hc hro hfr h
 |seq x y=>exact zADQ hco hfr h
 |cond x y z=>exact zACN hco h
 |block id c=>exact qYw hco h
 |loop c=>exact zACG hco hfr h
 |rangeFunc x ps as bo=>exact(qAF (α:=Out) (H:=H) h).elim
 |_=>exact(qAF (H:=H) h).elim
def ExtOK(P:Program)(X:Td):Prop:=FrX X/\∀(f:FuncId) (g:List AV->M AV),X f=some g->∀(args:List AV) (H:AH) (v:AV) (H':AH),g args H=some (v,H')->
 ∀(σ:Nat->Value) (ρ:Ren) (base:Nat) (w:World) (args':Array Value),One σ->WR σ ρ base H w->Free ρ H.next H'.next->RelL σ ρ args args'.toList->CallsIn Fence.wide 0 P f args' w (qCk σ ρ base H H' w v)
theorem qPG:ExtOK P zAAF:=⟨qZ0,λ_ _ h=>by cases h⟩
theorem zAAl(hm:P.follows .mixedOrders=true)(hname:qEj P){X:Td}(hX:ExtOK P X):∀n,qF4 P n (run P X n)/\qGX P (run P X n)/\qD8 P (run P X n):=by
 intro n
 induction n with
 | zero=>
   refine⟨λ_ _ _ _ _ H _ _ h=>(qAF (H:=H) h).elim,λ_ _ H _ _ h=>(qAF (H:=H) h).elim,λ_ _ H _ _ h=>(qAF (H:=H) h).elim⟩
 | succ n ih=>
   obtain⟨h1,h2,h3⟩:=ih;refine⟨λnt rA c T ms H o H' h=>qWC hm hname h1 h2 h3 (qF6 P hX.1 n) h,λf args H v H' h σ ρ base w args' hσ hwr hf hr=>?_,
    λl args H v H' h σ ρ base w args' L nx hσ hwr hf hL hr hy=>qSm h1 (qF6 P hX.1 n) h hσ hwr hf hL hr hy⟩
   have h:qJZ P X (run P X n) (.call f args) H=some (Out.val v,H'):=h;cases hg:X f with
   | some g=>
     have e:qJZ P X (run P X n) (.call f args)=bd (g args) λv=>ret (Out.val v):=by
      show(match X f with
       |some g=>bd (g args) λv=>ret (Out.val v)
       |none=>qBo P (run P X n) f args)=_
      rw[hg]
     rw[e]at h;obtain⟨v1,H1,h,h'⟩:=qAQ h;cases qAM h';exact hX.2 f g hg args H v H' h σ ρ base w args' hσ hwr hf hr
   | none=>
     have e:qJZ P X (run P X n) (.call f args)=qBo P (run P X n) f args:=by
      show(match X f with
       |some g=>bd (g args) λv=>ret (Out.val v)
       |none=>qBo P (run P X n) f args)=_
      rw[hg]
     rw[e]at h;exact qVl h1 (qF6 P hX.1 n) hname h hσ hwr hf hr
def empty:AH:={ blks:=.nil,next:=0,lo:=0,log:=[] }
theorem qMZ(hm:P.follows .mixedOrders=true)(hname:qEj P){X:Td}(hX:ExtOK P X){n:Nat}{f:FuncId}{args:List AV}{v:AV}{H H':AH}(h:run P X n (.call f args) H=some (.val v,H'))(σ:Nat->Value)(hσ:One σ)(ρ:Ren)(w:World)
  (hwr:WR σ ρ w.heap.size H w) (hf:Free ρ H.next H'.next) (args':Array Value) (hr:RelL σ ρ args args'.toList) :
  Calls P f args' w λe w'=>∃v' ρ',e=.returned v'/\Rel σ ρ' v v'/\WR σ ρ' w.heap.size H' w'/\Below w.heap.size w w':=by
 have:=(zAAl hm hname hX n).2.1 f args H v H' h σ ρ w.heap.size w args' hσ hwr hf hr;refine callsIn_wide.1 (this.mono ?_);rintro e w' ⟨v',ρ',rfl,p,hv⟩;exact⟨v',ρ',rfl,hv,p.wr,p.below⟩
theorem qYy{w:World}:WR σ (λ_=>none) w.heap.size empty w:=by refine⟨λid b h=>?_,λid b L h=>?_,λi j bi bj Li Lj h=>?_,Nat.le_refl _⟩<;>(rw[show empty.blks=.nil from rfl,Tr.get_nil]at h;cases h)
end
end Go.AM
namespace Go.AM
open Go Go.RowKit Go.ChangeShapes Go.WideShapes Go.ChangeAt
def qJV:Option (Out×AH)->Bool
 |some (.val (.bool true),_)=>true
 |_=>false
theorem qKr{r:Option (Out×AH)}(h:qJV r=true):∃H',r=some (.val (.bool true),H'):=by
 unfold qJV at h;split at h
 ·exact⟨_,rfl⟩
 ·cases h
def noNumB(P:Program):Bool:=P.funcs.toList.all λfn=>!(fn.name == "runtime.NumGoroutine")
theorem qQf{P:Program}(h:noNumB P=true):qEj P:=by intro k fn hk e;have hm:fn∈P.funcs.toList:=Array.mem_def.1 (Array.mem_of_getElem? hk);have:=List.all_eq_true.1 h fn hm;simp[e]at this
theorem post_of_below{H:Type}{enc:TypeId×Value->H}{P:Program}{f:Func}{s:ChangeSpec}{apart fresh handsOn again:Bool}{W W':World}{args:Array Value}{v:Value}{ds gs:List (DataW H)}{before pa pv:List MemPlace}
  (hW:DataW.Whole enc P f.params.toList s.vars apart W args.toList ds gs before) (hb:Below W.heap.size W W')
  (hres:∀(b:Nat) (sp:Nat->Bool) (hd:Bool),DataW.TrodAll enc P W' b sp hd f.resultTypes.toList (v.resultList f.resultTypes.size) (s.fn H (ds++gs)).results [])
  (hargs:∀sp:Nat->Bool,(∀p∈before,sp p.block=true)->DataW.TrodAll enc P W' 0 sp true f.params.toList args.toList (s.fn H (ds++gs)).args pa)
  (hvars:∀sp:Nat->Bool,(∀p∈before,sp p.block=true)->DataW.TrodVars enc P W' sp s.vars (s.fn H (ds++gs)).vars pv)
  (hps:before=pa++pv)
  (hok:∀(j:Nat) (t:TypeId) (r:Value),f.resultTypes[j]?=some t->(v.resultList f.resultTypes.size)[j]?=some r->Value.okWide P W' .any 0 t r) :
  s.post enc P f apart fresh handsOn again W args v W':=by
 have hold:∀p∈before,(λb=>decide (b<W.heap.size)) p.block=true:=λp hp=>by simpa using hW.lt p hp
 have hlt:=hW.lt;refine⟨ds,gs,before,[],pa,pv,hW,hres _ _ _,hargs _ hold,hvars _ hold,World.keptBut_mono (λp hp=>⟨hp,?_⟩) (hb.frame (·∈before)),λ_=>?_⟩
 ·rw[hps,List.mem_append]at hp
  exact Or.inr hp
 ·obtain⟨_,_,_,_,_,hz,hn⟩:=hW
  refine⟨hok,_,_,([]++pa)++pv,⟨[]++pa,pv,trodAll_append (hargs _ (λ_ _=>rfl)) (hres _ _ _),hvars _ (λ_ _=>rfl),rfl,?_,?_⟩,?_⟩
  ·intro b off hp
   have hm:MemPlace.cell b off∈before:=by rw[hps];simpa using hp
   rw[hb.frozen (p:=⟨b,off,none⟩) (hlt _ hm)];exact hz b off hm
  ·intro ha
   have:=hn ha;rw[hps]at this;simpa using this
  ·intro p hp _
   rw[hps];simpa using hp
end Go.AM
namespace Go.AM
open Go Go.RowKit
end Go.AM
namespace Go.AM
open Go
noncomputable section
def path(i:Nat):List Bool:=Nat.rec (motive:=λ_=>Nat->List Bool) (λ_=>[]) (λ_ ih i=>Nat.rec (motive:=λ_=>List Bool) [] (λj _=>Nat.beq (Nat.mod j 2) 0::ih (Nat.div j 2)) i) (Nat.succ i) i
def zAE2{α:Type}(v:Option α)(gl gr:List Bool->Option α)(p:List Bool):Option α:=
 List.rec (motive:=λ_=>Option α) v (λb p _=>Bool.rec (motive:=λ_=>Option α) (gr p) (gl p) b) p
def gNil{α:Type}(_:List Bool):Option α:=none
def Tr.getP{α:Type}(t:Tr α):List Bool->Option α:=Tr.rec (motive:=λ_=>List Bool->Option α) gNil (λv _ _ gl gr=>zAE2 v gl gr) t
def Tr.getR{α:Type}(t:Tr α)(i:Nat):Option α:=t.getP (path i)
def zAEq{α:Type}(x:Option α)(t:Tr α):Tr α:=Tr.rec (motive:=λ_=>Tr α) (.node x .nil .nil) (λ_ l r _ _=>.node x l r) t
def pNil{α:Type}(ih:Tr α->Tr α)(b:Bool):Tr α:=Bool.rec (motive:=λ_=>Tr α) (.node none .nil (ih .nil)) (.node none (ih .nil) .nil) b
def zAEk{α:Type}(ih:Tr α->Tr α)(b:Bool)(v:Option α)(l r:Tr α):Tr α:=Bool.rec (motive:=λ_=>Tr α) (.node v l (ih r)) (.node v (ih l) r) b
def zAEf{α:Type}(ih:Tr α->Tr α)(b:Bool)(t:Tr α):Tr α:=Tr.rec (motive:=λ_=>Tr α) (pNil ih b) (λv l r _ _=>zAEk ih b v l r) t
def Tr.putP{α:Type}(x:Option α)(p:List Bool):Tr α->Tr α:=List.rec (motive:=λ_=>Tr α->Tr α) (zAEq x) (λb _ ih=>zAEf ih b) p
def Tr.putR{α:Type}(t:Tr α)(i:Nat)(x:Option α):Tr α:=Tr.putP x (path i) t
def qWO(f i:Nat):List Bool:=Nat.rec (motive:=λ_=>Nat->List Bool) (λ_=>[]) (λ_ ih i=>Nat.rec (motive:=λ_=>List Bool) [] (λj _=>Nat.beq (Nat.mod j 2) 0::ih (Nat.div j 2)) i) f i
theorem qL1(f j:Nat):qWO (f+1) (j+1)=Nat.beq (j % 2) 0::qWO f (j / 2):=rfl
theorem qVz:∀(f g i:Nat),i<f->i<g->qWO f i=qWO g i:=by
 intro f
 induction f with
 |zero=>intro g i h;omega
 | succ f ih=>
   intro g i hf hg;cases g with
   |zero=>omega
   | succ g=>
     cases i with
     |zero=>rfl
     |succ j=>rw[qL1,qL1,ih g (j / 2) (by omega) (by omega)]
theorem qYI(i:Nat):path i=qWO (i+1) i:=rfl
theorem qSP(j:Nat):path (j+1)=Nat.beq (j % 2) 0::path (j / 2):=by rw[qYI,qL1,qYI,qVz (j+1) (j / 2+1) (j / 2) (by omega) (by omega)]
def Tr.listR{α:Type}(t:Tr α)(i:Nat)(l:List α):Tr α:=List.rec (motive:=λ_=>Tr α->Nat->Tr α) (λt _=>t) (λx _ ih t i=>ih (t.putR i (some x)) (Nat.succ i)) l t i
theorem Tr.getR_eq{α:Type}(t:Tr α)(i:Nat):t.getR i=t.get i:=by
 unfold Tr.getR
 induction t generalizing i with
 |nil=>exact(Tr.get_nil i).symm
 | node v l r ihl ihr=>
   cases i with
   |zero=>rfl
   | succ j=>
     rw[qSP];show Bool.rec (motive:=λ_=>Option α) (r.getP (path (j / 2))) (l.getP (path (j / 2))) (Nat.beq (j % 2) 0)=_;simp only[Tr.get];cases Nat.beq (j % 2) 0
     ·exact ihr _
     ·exact ihl _
theorem Tr.putP_eq{α:Type}(x:Option α):∀(f:Nat) (t:Tr α) (i:Nat),i<f->Tr.putP x (path i) t=Tr.setF f t i x:=by
 intro f
 induction f with
 |zero=>intro t i h;omega
 | succ f ih=>
   intro t i h;cases i with
   |zero=>cases t<;>rfl
   | succ j=>
     have h2:j / 2<f:=by omega
     rw[qSP];cases t with
     | nil=>
       show Bool.rec (motive:=λ_=>Tr α) (.node none .nil (Tr.putP x (path (j / 2)) .nil)) (.node none (Tr.putP x (path (j / 2)) .nil) .nil) (Nat.beq (j % 2) 0)=cond (Nat.beq (j % 2) 0) (.node none (Tr.setF f .nil (j / 2) x) .nil) (.node none .nil (Tr.setF f .nil (j / 2) x));rw[ih .nil (j / 2) h2];cases Nat.beq (j % 2) 0<;>rfl
     | node v l r=>
       show Bool.rec (motive:=λ_=>Tr α) (.node v l (Tr.putP x (path (j / 2)) r)) (.node v (Tr.putP x (path (j / 2)) l) r) (Nat.beq (j % 2) 0)=cond (Nat.beq (j % 2) 0) (.node v (Tr.setF f l (j / 2) x) r) (.node v l (Tr.setF f r (j / 2) x));rw[ih l (j / 2) h2,ih r (j / 2) h2];cases Nat.beq (j % 2) 0<;>rfl
theorem Tr.putR_eq{α:Type}(t:Tr α)(i:Nat)(x:Option α):t.putR i x=t.put i x:=Tr.putP_eq x (i+1) t i (by omega)
theorem Tr.listR_eq{α:Type}(l:List α):∀(t:Tr α) (i:Nat),t.listR i l=Tr.ofListAt t i l:=by
 induction l with
 |nil=>intro t i;rfl
 |cons x xs ih=>intro t i;show Tr.listR _ _ xs=_;rw[ih,Tr.putR_eq];rfl
def bdR{α β:Type}(m:Option (α×AH))(f:α->AH->Option (β×AH)):Option (β×AH):=Option.rec (motive:=λ_=>Option (β×AH)) none (λp=>Prod.rec (motive:=λ_=>Option (β×AH)) f p) m
theorem qSE{α β:Type}(m:M α)(f:α->M β)(H:AH):bdR (m H) (λa H=>f a H)=bd m f H:=by
 unfold bd;cases m H with
 |none=>rfl
 |some p=>rfl
theorem qIC{α β:Type}(m:M α)(f:α->M β)(H:AH)(g:α->AH->Option (β×AH))(h:∀a K,g a K=f a K):bdR (m H) g=bd m f H:=by rw[<- qSE,show g=λa K=>f a K from funext λa=>funext λK=>h a K]
def orU(o:Option AV):Option AV:=Option.rec (motive:=λ_=>Option AV) (some .undef) some o
structure XB where
 f:Tmps->Option AV
def xT(t:Nat)(T:Tmps):Option AV:=orU (T.getR t)
def xK(o:Option AV)(_:Tmps):Option AV:=o
def xb(x:Operand):XB:=match x with
 | .tmp t=>⟨xT t⟩
 | .const v=>⟨xK (ofV 2 v)⟩
 | .func f=>⟨xK (some (.fn (.func f) [] []))⟩
 | .global _=>⟨xK none⟩
def evR(T:Tmps)(x:Operand):Option AV:=XB.rec (motive:=λ_=>Option AV) (λf=>f T) (xb x)
theorem qFM(T:Tmps)(x:Operand):evR T x=ev T x:=by
 cases x with
 |tmp t=>show orU (T.getR t)=_;rw[Tr.getR_eq];unfold ev;simp only;cases T.get t<;>rfl
 |_=>rfl
def evsR(T:Tmps)(l:List Operand):Option (List AV):=List.rec (motive:=λ_=>Option (List AV)) (some []) (λx _ ih=>Option.rec (motive:=λ_=>Option (List AV)) none (λv=>Option.rec (motive:=λ_=>Option (List AV)) none (λvs=>some (v::vs)) ih) (evR T x)) l
theorem qSg(T:Tmps)(l:List Operand):evsR T l=evs T l:=by
 induction l with
 |nil=>rfl
 | cons x xs ih=>
   show Option.rec (motive:=λ_=>Option (List AV)) none (λv=>Option.rec (motive:=λ_=>Option (List AV)) none (λvs=>some (v::vs)) (evsR T xs)) (evR T x)=_;rw[ih,qFM];cases h1:ev T x with
   |none=>simp[evs,h1]
   |some v=>cases h2:evs T xs<;>simp[evs,h1,h2]
def rdR(id:Nat)(H:AH):Option (ABlk×AH):=AH.rec (motive:=λ_=>Option (ABlk×AH)) (λblks next lo log=>Option.rec (motive:=λ_=>Option (ABlk×AH)) none (λb=>some (b,⟨blks,next,lo,(id,false)::log⟩)) (blks.getR id)) H
theorem qXX(id:Nat)(H:AH):rdR id H=rd id H:=by obtain⟨blks,next,lo,log⟩:=H;show Option.rec (motive:=λ_=>Option (ABlk×AH)) none _ (blks.getR id)=_;rw[Tr.getR_eq];unfold rd;simp only;cases blks.get id<;>rfl
def wrR(id:Nat)(b:ABlk)(H:AH):Option (Unit×AH):=AH.rec (motive:=λ_=>Option (Unit×AH)) (λblks next lo log=>Bool.rec (motive:=λ_=>Option (Unit×AH)) none (Option.rec (motive:=λ_=>Option (Unit×AH)) none (λ_=>some ((),⟨blks.putR id (some b),next,lo,(id,true)::log⟩)) (blks.getR id)) (Nat.ble lo id)) H
theorem zAEO(id:Nat)(b:ABlk)(H:AH):wrR id b H=wr id b H:=by
 obtain⟨blks,next,lo,log⟩:=H;show Bool.rec (motive:=λ_=>Option (Unit×AH)) none (Option.rec (motive:=λ_=>Option (Unit×AH)) none (λ_=>some ((),AH.mk (blks.putR id (some b)) next lo ((id,true)::log))) (blks.getR id)) (Nat.ble lo id)=_;rw[Tr.getR_eq,Tr.putR_eq];unfold wr;simp only;cases Nat.ble lo id with
 |false=>rfl
 |true=>cases blks.get id<;>rfl
def fN{β:Type}(k:Nat->β)(n:Nat):β:=Nat.rec (motive:=λ_=>β) (k 0) (λm _=>k (m+1)) n
theorem zAAI{β:Type}(k:Nat->β)(n:Nat):fN k n=k n:=by cases n<;>rfl
def fI{β:Type}(k:Int->β)(n:Int):β:=Int.rec (motive:=λ_=>β) (λa=>fN (λa=>k (.ofNat a)) a) (λa=>fN (λa=>k (.negSucc a)) a) n
theorem zADv{β:Type}(k:Int->β)(n:Int):fI k n=k n:=by
 cases n with
 |ofNat a=>exact zAAI (λa=>k (.ofNat a)) a
 |negSucc a=>exact zAAI (λa=>k (.negSucc a)) a
def nwR(b:ABlk)(H:AH):Option (Nat×AH):=AH.rec (motive:=λ_=>Option (Nat×AH)) (λblks next lo log=>fN (λn=>Bool.rec (motive:=λ_=>Option (Nat×AH)) none (some (n,⟨blks.putR n (some b),Nat.succ n,lo,(n,true)::log⟩)) (Nat.ble lo n)) next) H
theorem zADr(b:ABlk)(H:AH):nwR b H=nw b H:=by obtain⟨blks,next,lo,log⟩:=H;unfold nwR nw;simp only[qAw,zAAI,Tr.putR_eq];cases Nat.ble lo next<;>rfl
def qQv(l:List AV):Bool:=List.rec (motive:=λ_=>Bool) true (λv _ ih=>Bool.rec (motive:=λ_=>Bool) false ih v.one) l
theorem qPC(l:List AV):qQv l=qAd l:=by
 induction l with
 |nil=>rfl
 | cons v vs ih=>
   show Bool.rec (motive:=λ_=>Bool) false (qQv vs) v.one=_;rw[ih];cases h:v.one<;>simp[qAd,h]
def lenR(l:List AV):Nat:=List.rec (motive:=λ_=>Nat) 0 (λ_ _ ih=>Nat.succ ih) l
theorem qQE(l:List AV):lenR l=l.length:=by
 induction l with
 |nil=>rfl
 |cons v vs ih=>show Nat.succ (lenR vs)=_;rw[ih];rfl
def qOs(elem:TypeId)(cs:List AV)(H:AH):Option (Nat×AH):=Bool.rec (motive:=λ_=>Option (Nat×AH)) none (nwR (.cells elem (Tr.listR .nil 0 cs) (lenR cs)) H) (qQv cs)
theorem qSb(elem:TypeId)(cs:List AV)(H:AH):qOs elem cs H=qBv elem cs H:=by unfold qOs qBv;rw[qPC,zADr,Tr.listR_eq,qQE];cases qAd cs<;>rfl
def qWp(c:Tr AV)(n:Nat):Nat->Option (List AV):=Nat.rec (motive:=λ_=>Nat->Option (List AV)) (λ_=>some []) (λ_ ih o=>Option.rec (motive:=λ_=>Option (List AV)) none (λv=>Option.rec (motive:=λ_=>Option (List AV)) none (λvs=>some (v::vs)) (ih (Nat.succ o))) (c.getR o)) n
theorem qXs(c:Tr AV)(n:Nat):∀o,qWp c n o=qEk c o n:=by
 induction n with
 |zero=>intro o;rfl
 | succ n ih=>
   intro o;show Option.rec (motive:=λ_=>Option (List AV)) none (λv=>Option.rec (motive:=λ_=>Option (List AV)) none (λvs=>some (v::vs)) (qWp c n (Nat.succ o))) (c.getR o)=_;rw[ih,Tr.getR_eq];cases h1:c.get o with
   |none=>simp[qEk,h1]
   |some v=>cases h2:qEk c (o+1) n<;>simp[qEk,h1,h2]
def qZY(o:Nat)(b:ABlk)(H:AH):Option (AV×AH):=match b with
 | .cells _ c _=>Option.rec (motive:=λ_=>Option (AV×AH)) none (λv=>some (v,H)) (c.getR o)
 |_=>none
def qZm(o n:Nat)(b:ABlk)(H:AH):Option (AV×AH):=match b with
 | .cells _ c _=>Option.rec (motive:=λ_=>Option (AV×AH)) none (λl=>some (.agg l,H)) (qWp c n o)
 |_=>none
def qT4(P:Program)(t:TypeId):Nat:=match qBV P t with
 | some true=>match sz P t with
   |some n=>n+2
   |none=>0
 |some false=>1
 |none=>0
def zAE1(b o:Nat)(H:AH)(k:Nat):Option (AV×AH):=Nat.rec (motive:=λ_=>Option (AV×AH)) none (λk _=>Nat.rec (motive:=λ_=>Option (AV×AH)) (bdR (rdR b H) (qZY o)) (λn _=>bdR (rdR b H) (qZm o n)) k) k
def qY2(P:Program)(t:TypeId)(b o:Nat)(H:AH):Option (AV×AH):=zAE1 b o H (qT4 P t)
theorem qZf(P:Program)(t:TypeId)(b o:Nat)(H:AH):qY2 P t b o H=qHk P t b o H:=by
 unfold qY2 qT4 qHk;cases qBV P t with
 |none=>rfl
 | some g=>
   cases g with
   | true=>
     simp only;cases sz P t with
     |none=>rfl
     | some n=>
       show bdR (rdR b H) (qZm o n)=bd (qCM b o n) (λl=>ret (.agg l)) H;rw[qXX];unfold qCM bd;cases rd b H with
       |none=>rfl
       | some p=>
         obtain⟨blk,K⟩:=p;show qZm o n blk K=_;cases blk with
         |cells e c m=>simp only[qZm,qXs,lift];cases qEk c o n<;>rfl
         |_=>rfl
   | false=>
     show bdR (rdR b H) (qZY o)=bd (rd b) (λblk=>match blk with
      | .cells _ c _=>lift (c.get o)
      |_=>fail) H
     rw[qXX];unfold bd;cases rd b H with
     |none=>rfl
     | some p=>
       obtain⟨blk,K⟩:=p;show qZY o blk K=_;cases blk with
       |cells e c m=>simp only[qZY,Tr.getR_eq,lift];cases c.get o<;>rfl
       |_=>rfl
def qTI(b o:Nat)(vs:List AV)(blk:ABlk)(H:AH):Option (Unit×AH):=match blk with
 | .cells e c n=>Bool.rec (motive:=λ_=>Option (Unit×AH)) none (wrR b (.cells e (Tr.listR c o vs) n) H) (Bool.rec (motive:=λ_=>Bool) false (qQv vs) (Nat.ble (Nat.add o (lenR vs)) n))
 |_=>none
def qKn(b o:Nat)(vs:List AV)(H:AH):Option (Unit×AH):=bdR (rdR b H) (qTI b o vs)
theorem qOx(b o:Nat)(vs:List AV)(H:AH):qKn b o vs H=qB2 b o vs H:=by
 unfold qKn qB2 bd;rw[qXX];cases rd b H with
 |none=>rfl
 | some p=>
   obtain⟨blk,K⟩:=p;show qTI b o vs blk K=_;cases blk with
   | cells e c n=>
     simp only[qTI,qPC,qQE,zAEO,Tr.listR_eq];show Bool.rec (motive:=λ_=>Option (Unit×AH)) none _ (Bool.rec (motive:=λ_=>Bool) false (qAd vs) (Nat.ble (o+vs.length) n))=_;cases Nat.ble (o+vs.length) n with
     |false=>rfl
     |true=>cases qAd vs<;>rfl
   |_=>rfl
def qXl(n:Nat)(p:AV)(cs:List AV)(H:AH):Option (Unit×AH):=match p with
 | .ptr b o=>Bool.rec (motive:=λ_=>Option (Unit×AH)) none (qKn b o cs H) (Nat.beq (lenR cs) n)
 |_=>none
def qT2(P:Program)(t:TypeId)(p v:AV)(H:AH):Option (Unit×AH):=Option.rec (motive:=λ_=>Option (Unit×AH)) none (λn=>qXl n p v.cells H) (sz P t)
theorem qW2(P:Program)(t:TypeId)(p v:AV)(H:AH):qT2 P t p v H=qIw P t p v H:=by
 unfold qT2 qIw;cases sz P t with
 |none=>cases p<;>rfl
 | some n=>
   show qXl n p v.cells H=_;cases p with
   | ptr b o=>
     simp only[qXl,qQE,qOx];cases Nat.beq v.cells.length n<;>rfl
   |_=>rfl
def vN(r:Option (AV×AH)):Option (ANext×AH):=bdR r λv H=>some (.val v,H)
theorem zAAK(m:M AV)(H:AH):vN (m H)=bd m (λx=>ret (.val x)) H:=qSE m (λx=>ret (ANext.val x)) H
def uN(r:Option (Unit×AH)):Option (ANext×AH):=bdR r λ_ H=>some (.val .undef,H)
theorem zAEc(m:M Unit)(H:AH):uN (m H)=bd m (λ_=>ret (.val .undef)) H:=qSE m (λ_=>ret (ANext.val .undef)) H
def oN{α:Type}(o:Option α)(k:α->Option (ANext×AH)):Option (ANext×AH):=Option.rec (motive:=λ_=>Option (ANext×AH)) none k o
def lN(H:AH)(o:Option AV):Option (ANext×AH):=oN o λb=>some (.val b,H)
abbrev OpF:=Program->Tmps->AH->Option (ANext×AH)
def zAAM(x:Operand):OpF:=λ_ T H=>lN H (evR T x)
def zADU(c a b:Operand):OpF:=λ_ T H=>match evR T c with
 |some (.bool t)=>cond t (lN H (evR T a)) (lN H (evR T b))
 |_=>none
def qUQ(t:TypeId)(z:AV)(H:AH):Option (ANext×AH):=bdR (qOs t z.cells H) λid H=>some (.val (.ptr id 0),H)
def zAAj(t:TypeId):OpF:=λP _ H=>oN (qEQ P t) λz=>qUQ t z H
def oBox(t:TypeId)(x:Operand):OpF:=λ_ T H=>oN (evR T x) λv=>qUQ t v H
def zAAf(t:TypeId)(ps:Array (Nat×Operand)):OpF:=λP T H=>oN (qDa T ps.toList) λl=>lN H (qPB P t l)
def qNy(t:TypeId)(n:Nat)(ps:Array (Nat×Operand)):OpF:=λP T H=>oN (qDa T ps.toList) λl=>vN (qDp P t n l H)
def zADh(P:Program)(t:TypeId)(H:AH)(p:AV):Option (ANext×AH):=match p with
 | .ptr b o=>vN (qY2 P t b o H)
 |_=>none
def zAEZ(t:TypeId)(a:Operand):OpF:=match a with
 | .global g=>λP T H=>opA P T (.load t (.global g)) H
 |a=>λP T H=>oN (evR T a) (zADh P t H)
def zAA3(t:TypeId)(a x:Operand):OpF:=λP T H=>oN (evR T a) λp=>oN (evR T x) λv=>uN (qT2 P t p v H)
def oNil(x:Operand):OpF:=λ_ T H=>oN (evR T x) λa=>lN H (qAc a)
def cmpA(b:Bool):Option AV:=some (.bool b)
def arI(k:IntKind)(n:Int):Option AV:=fI (λn=>fI (λn=>some (.int k n)) (qBF k n)) n
def qP6(op:BinOp):IntKind->Int->Int->Option AV:=match op with
 | .add=>λk x y=>arI k (Int.add x y)
 | .sub=>λk x y=>arI k (Int.sub x y)
 | .mul=>λk x y=>arI k (Int.mul x y)
 | .eql=>λ_ x y=>cmpA (eqI x y)
 | .neq=>λ_ x y=>cmpA (!eqI x y)
 | .lss=>λ_ x y=>cmpA (ltI x y)
 | .leq=>λ_ x y=>cmpA (!ltI y x)
 | .gtr=>λ_ x y=>cmpA (ltI y x)
 | .geq=>λ_ x y=>cmpA (!ltI x y)
 |op=>arith op
def qX6(op:BinOp):Program->TypeId->Operand->Operand->AV->AV->Option AV:=match op with
 | .eql=>λP t x y a b=>cond (qCY P t x y a b) ((aEq P 30 t a b).map .bool) none
 | .neq=>λP t x y a b=>cond (qCY P t x y a b) ((aEq P 30 t a b).map λr=>.bool !r) none
 |_=>λ_ _ _ _ _ _=>none
def zAEC(op:BinOp)(k:IntKind)(m:Int)(k':IntKind)(n:Int):Option AV:=cond (qB6 k k') (qP6 op k m n) none
def zAA8(op:BinOp):IntKind->Int->IntKind->Int->Option AV:=match op with
 | .shl=>λk m _ n=>qOj .shl k m n
 | .shr=>λk m _ n=>qOj .shr k m n
 |op=>zAEC op
def binI(P:Program)(op:BinOp)(t:TypeId)(x y:Operand)(k:IntKind)(m:Int)(b:AV):Option AV:=match b with
 | .int k' n=>zAA8 op k m k' n
 |b=>qX6 op P t x y (.int k m) b
def binF(P:Program)(op:BinOp)(t:TypeId)(x y:Operand)(a b:AV):Option AV:=match a with
 | .int k m=>binI P op t x y k m b
 |a=>qX6 op P t x y a b
def oBin(op:BinOp)(t:TypeId)(x y:Operand):OpF:=λP T H=>oN (evR T x) λa=>oN (evR T y) λb=>lN H (binF P op t x y a b)
def oUn(op:UnOp)(x:Operand):OpF:=λ_ T H=>oN (evR T x) λa=>lN H (qAi op a)
def qZd(s d:TypeId)(x:Operand):OpF:=λP T H=>oN (evR T x) λa=>lN H (qFn P s d a)
def zACq(t:TypeId)(x:Operand):OpF:=λP T H=>oN (evR T x) λa=>lN H (qF2 P t a)
def zAEK(t:TypeId)(x:Operand)(f:Nat):OpF:=λP T H=>oN (evR T x) λa=>lN H (qPL P t a f)
def offF(P:Program)(s:TypeId)(f:Nat):Option Nat:=match P.underlying s with
 | some (.struct fields)=>match fields[f]? with
   | some fd=>match sz P fd.type with
     |some (_+1)=>some fd.offset
     |_=>none
   |none=>none
 |_=>none
def addO(H:AH)(k:Nat)(p:AV):Option (ANext×AH):=match p with
 | .ptr b o=>fN (λq=>some (.val (.ptr b q),H)) (Nat.add o k)
 |_=>none
def qPf(s:TypeId)(x:Operand)(f:Nat):OpF:=λP T H=>oN (evR T x) λa=>oN (offF P s f) λk=>addO H k a
def qVQ(t:TypeId)(x i:Operand):OpF:=λP T H=>oN (evR T x) λa=>oN (evR T i) λb=>lN H (qDO P t a b)
def zADo(t:TypeId)(x i:Operand):OpF:=λP T H=>oN (evR T x) λa=>oN (evR T i) λb=>lN H (qLG P t a b)
def zABR(x:Operand)(a:TypeId)(ok:Bool):OpF:=λP T H=>oN (evR T x) λv=>lN H (qDq P v a ok)
def zAAL(x:Operand)(i:Nat):OpF:=λ_ T H=>oN (evR T x) λv=>lN H (qAl v i)
def qVC(t:TypeId)(l c:Operand):OpF:=λP T H=>oN (evR T l) λa=>oN (evR T c) λb=>vN (qD5 P t a b H)
def zACc(t:TypeId)(x k:Operand)(ok:Bool):OpF:=λP T H=>oN (evR T x) λa=>oN (evR T k) λb=>vN (qEc P t a b ok H)
def qUs(b:Builtin)(ts:Array TypeId)(as:Array Operand):OpF:=λP T H=>oN (evsR T as.toList) λargs=>vN (qEr P b ts.toList args H)
def invK(P:Program)(name:String)(args:List AV)(H:AH)(r:AV):Option (ANext×AH):=match r with
 | .ifc t v=>bd (qHA P t v name) (λp=>goA P p.1 (p.2::args)) H
 |_=>none
def qXZ(r:Operand)(name:String)(as:Array Operand):OpF:=λP T H=>oN (evsR T as.toList) λargs=>oN (evR T r) (invK P name args H)
def valK(P:Program)(args:List AV)(H:AH)(r:AV):Option (ANext×AH):=match r with
 | .fn (.func k) first cap=>goA P k (first++args++cap) H
 | .fn (.method name) [.ifc t v] _=>bd (qHA P t v name) (λp=>goA P p.1 (p.2::args)) H
 | .yield l=>bd (rd l) (λblk=>match blk with
   | .loop _ _ _ _ ps _ _ _=>cond (Nat.beq ps.length args.length) (ret (.round l args)) fail
   |_=>fail) H
 |_=>none
def zAAq(f:Operand)(as:Array Operand):OpF:=λP T H=>oN (evsR T as.toList) λargs=>oN (evR T f) (valK P args H)
def zAAY(c:Call):OpF:=match c with
 |⟨.builtin b,as,ts⟩=>qUs b ts as
 |⟨.invoke r name,as,_⟩=>qXZ r name as
 |⟨.value f,as,_⟩=>zAAq f as
structure OB where
 f:OpF
def opB(o:Op):OB:=match o with
 | .move x=>⟨zAAM x⟩
 | .assign x=>⟨zAAM x⟩
 | .pick c a b=>⟨zADU c a b⟩
 | .alloc t=>⟨zAAj t⟩
 | .box t x=>⟨oBox t x⟩
 | .build t ps=>⟨zAAf t ps⟩
 | .buildSlice t n ps=>⟨qNy t n ps⟩
 | .load t a=>⟨zAEZ t a⟩
 | .store t a x=>⟨zAA3 t a x⟩
 | .nilCheck x=>⟨oNil x⟩
 | .binOp op t x y _=>⟨oBin op t x y⟩
 | .unOp op _ x=>⟨oUn op x⟩
 | .convert s d x=>⟨qZd s d x⟩
 | .makeInterface t x=>⟨zACq t x⟩
 | .makeSlice t l c=>⟨qVC t l c⟩
 | .fieldAddr s x f=>⟨qPf s x f⟩
 | .field t x f=>⟨zAEK t x f⟩
 | .indexAddr t x i=>⟨qVQ t x i⟩
 | .index t x i=>⟨zADo t x i⟩
 | .typeAssert x _ a ok=>⟨zABR x a ok⟩
 | .extract x i=>⟨zAAL x i⟩
 | .lookup t x k ok=>⟨zACc t x k ok⟩
 | .call c=>⟨zAAY c⟩
 |o=>⟨λP T=>opA P T o⟩
def qIG(o:Op):OpF:=λP T H=>OB.rec (motive:=λ_=>Option (ANext×AH)) (λf=>f P T H) (opB o)
theorem zACW(H:AH)(o:Option AV):lN H o=bd (lift o) (λx=>ret (ANext.val x)) H:=by cases o<;>rfl
theorem e1_l(x:Operand)(f:AV->Option AV)(T:Tmps)(H:AH):(oN (evR T x) λa=>lN H (f a))=(match ev T x with|some a=>bd (lift (f a)) (λx=>ret (ANext.val x))|none=>fail) H:=by
 rw[qFM];cases ev T x with
 |none=>rfl
 |some a=>exact zACW H (f a)
theorem e2_l(x y:Operand)(f:AV->AV->Option AV)(T:Tmps)(H:AH):(oN (evR T x) λa=>oN (evR T y) λb=>lN H (f a b))=(match ev T x,ev T y with|some a,some b=>bd (lift (f a b)) (λx=>ret (ANext.val x))|_,_=>fail) H:=by
 rw[qFM,qFM];cases ev T x with
 |none=>rfl
 | some a=>
   cases ev T y with
   |none=>rfl
   |some b=>exact zACW H (f a b)
theorem e2_v(x y:Operand)(f:AV->AV->M AV)(T:Tmps)(H:AH):(oN (evR T x) λa=>oN (evR T y) λb=>vN (f a b H))=(match ev T x,ev T y with|some a,some b=>bd (f a b) (λx=>ret (ANext.val x))|_,_=>fail) H:=by
 rw[qFM,qFM];cases ev T x with
 |none=>rfl
 | some a=>
   cases ev T y with
   |none=>rfl
   |some b=>exact zAAK (f a b) H
theorem zADt(k:IntKind)(n:Int):arI k n=some (.int k (qBF k n)):=by unfold arI;rw[zADv,zADv]
theorem qTU(op:BinOp)(k:IntKind)(x y:Int):qP6 op k x y=arith op k x y:=by cases op<;>first|rfl|(simp only[qP6,zADt,arith,qCN];rfl)
theorem zABb(P:Program)(op:BinOp)(t:TypeId)(x y:Operand)(a b:AV):binF P op t x y a b=binA P op t x y a b:=by
 cases a
 case int k m=>
  cases b
  case int k' n=>cases op<;>simp only[binF,binI,zAA8,zAEC,binA,qTU]<;>rfl
  all_goals (cases op<;>rfl)
 all_goals (cases op<;>rfl)
theorem qSA(t:TypeId)(z:AV)(H:AH):qUQ t z H=bd (bd (qBv t z.cells) λid=>ret (.ptr id 0)) (λx=>ret (ANext.val x)) H:=by unfold qUQ bd;rw[qSb];cases qBv t z.cells H<;>rfl
theorem qY5(P:Program)(T:Tmps)(H:AH)(o:Op):qIG o P T H=opA P T o H:=by
 cases o
 case move x=>simp only[qIG,opB,zAAM,opA,qFM];cases ev T x<;>rfl
 case assign x=>simp only[qIG,opB,zAAM,opA,qFM];cases ev T x<;>rfl
 case pick c a b=>
  simp only[qIG,opB,zADU,opA,qFM];generalize ev T c=v;cases v with
  |none=>rfl
  | some v=>
    cases v with
    | bool t=>
      cases t
      ·simp only[cond_false];cases ev T b<;>rfl
      ·simp only[cond_true];cases ev T a<;>rfl
    |_=>rfl
 case alloc t=>
  simp only[qIG,opB,zAAj,opA,qMa];cases qEQ P t with
  |none=>rfl
  |some z=>exact qSA t z H
 case box t x=>
  simp only[qIG,opB,oBox,opA,qFM];cases ev T x with
  |none=>rfl
  |some v=>exact qSA t v H
 case build t ps=>
  simp only[qIG,opB,zAAf,opA];cases qDa T ps.toList with
  |none=>rfl
  |some l=>exact zACW H _
 case buildSlice t n ps=>
  simp only[qIG,opB,qNy,opA];cases qDa T ps.toList with
  |none=>rfl
  |some l=>exact zAAK _ H
 case load t a=>
  by_cases hgl:∃g,a=.global g
  ·obtain⟨g,rfl⟩:=hgl
   rfl
  have hA:opA P T (.load t a)=(match ev T a with
   |some p=>bd (match p with | .ptr b o=>qHk P t b o|_=>fail) λx=>ret (.val x)
   |none=>fail):=by cases a<;>first|exact absurd ⟨_,rfl⟩ hgl|rfl
  have hB:qIG (.load t a) P T H=oN (evR T a) (zADh P t H):=by cases a<;>first|exact absurd ⟨_,rfl⟩ hgl|rfl
  rw[hA,hB];simp only[qFM];cases ev T a with
  |none=>rfl
  | some p=>
    cases p with
    |ptr b o=>show vN (qY2 P t b o H)=_;rw[qZf];exact zAAK _ H
    |_=>rfl
 case store t a x=>
  simp only[qIG,opB,zAA3,opA,qFM];cases ev T a with
  |none=>rfl
  | some p=>
    cases ev T x with
    |none=>rfl
    |some v=>show uN (qT2 P t p v H)=_;rw[qW2];exact zAEc _ H
 case nilCheck x=>exact e1_l x qAc T H
 case binOp op t x y t2=>have:=e2_l x y (binA P op t x y) T H;simp only[qIG,opB,oBin,zABb];exact this
 case unOp op t x=>exact e1_l x (qAi op) T H
 case convert s d x=>exact e1_l x (qFn P s d) T H
 case makeInterface t x=>exact e1_l x (qF2 P t) T H
 case fieldAddr s x f=>
  have:=e1_l x (λa=>qC3 P s a f) T H;refine Eq.trans ?_ this;simp only[qIG,opB,qPf,qFM];cases ev T x with
  |none=>rfl
  | some a=>
    show oN (offF P s f) (λk=>addO H k a)=lN H (qC3 P s a f);cases a with
    | ptr b o=>
      unfold offF qC3;cases hu:P.underlying s with
      |none=>rfl
      | some d=>
        cases d with
        | struct fields=>
          simp only;cases fields[f]? with
          |none=>rfl
          | some fd=>
            simp only;cases sz P fd.type with
            |none=>rfl
            | some n=>
              cases n with
              |zero=>rfl
              |succ n=>simp only[qAw,oN,addO,zAAI];rfl
        |_=>rfl
    | _=>
      have:∀v:AV,(∀b o,v≠.ptr b o)->qC3 P s v f=none:=by
       intro v hv;unfold qC3;split
       ·exact absurd rfl (hv _ _)
       ·rfl
      rw[this _ (by intro b o h;cases h)];cases offF P s f<;>rfl
 case field t x f=>exact e1_l x (λa=>qPL P t a f) T H
 case indexAddr t x i=>exact e2_l x i (qDO P t) T H
 case index t x i=>exact e2_l x i (qLG P t) T H
 case typeAssert x t a ok=>exact e1_l x (λv=>qDq P v a ok) T H
 case extract x i=>exact e1_l x (λv=>qAl v i) T H
 case makeSlice t l c=>exact e2_v l c (qD5 P t) T H
 case lookup t x k ok=>exact e2_v x k (λa b=>qEc P t a b ok) T H
 case call c=>
  obtain⟨callee,as,ts⟩:=c;cases callee with
  | value f=>
    simp only[qIG,opB,zAAY,zAAq,opA,qI9,qFM,qSg];cases evs T as.toList with
    |none=>rfl
    | some args=>
      show oN (ev T f) (valK P args H)=_;simp only;generalize ev T f=v;cases v with
      |none=>rfl
      | some v=>
        show valK P args H v=_;cases v with
        | fn f first cap=>
          cases f with
          |func k=>rfl
          | method n=>
            cases first with
            |nil=>rfl
            | cons y ys=>
              cases ys with
              |nil=>cases y<;>rfl
              |cons z zs=>cases y<;>rfl
          |_=>rfl
        |_=>rfl
  | invoke r n=>
    simp only[qIG,opB,zAAY,qXZ,opA,qI9,qFM,qSg];cases evs T as.toList with
    |none=>rfl
    | some args=>
      show oN (ev T r) (invK P n args H)=_;simp only;cases ev T r with
      |none=>rfl
      |some v=>cases v<;>rfl
  | builtin b=>
    simp only[qIG,opB,zAAY,qUs,opA,qI9,qSg];cases evs T as.toList with
    |none=>rfl
    |some args=>exact zAAK _ H
 all_goals rfl
section
variable (P : Program) (ih : Task → M Out)
def outV(o:Out)(H:AH):Option (AV×AH):=match o with
 | .val v=>some (v,H)
 |_=>none
def qV4(x:ANext)(H:AH):Option (AV×AH):=ANext.rec (motive:=λ_=>Option (AV×AH)) (λv=>some (v,H)) (λf args=>bdR (ih (.call f args) H) outV) (λl args=>bdR (ih (.round l args) H) outV) x
theorem qY4(x:ANext)(H:AH):qV4 ih x H=qEi ih x H:=by
 have key:∀t,bdR (ih t H) outV=outVal (ih t) H:=λt=>by refine qIC (ih t) _ H outV λo K=>?_;cases o<;>rfl
 cases x with
 |val v=>rfl
 |enter f args=>exact key _
 |round l args=>exact key _
def valR(all:List Oper)(op:Op)(g:Option (Nat×Bool))(T:Tmps)(H:AH):Option (AV×AH):=Option.rec (motive:=λ_=>Option (AV×AH)) (bdR (qIG op P T H) (qV4 ih)) (λg=>match qCH all T (some g)with
 |some true=>bdR (qIG op P T H) (qV4 ih)
 |some false=>some (.undef,H)
 |none=>none) g
def setR(nt:Nat)(T:Tmps)(dst:Option Tmp)(v:AV)(H:AH):Option (Tmps×AH):=Option.rec (motive:=λ_=>Option (Tmps×AH)) (some (T,H)) (λd=>Bool.rec (motive:=λ_=>Option (Tmps×AH)) none (some (T.putR d (some v),H)) (Nat.ble (Nat.succ d) nt)) dst
def oneR(nt:Nat)(all:List Oper)(o:Oper)(T:Tmps)(H:AH):Option (Tmps×AH):=Oper.rec (motive:=λ_=>Option (Tmps×AH)) (λdst op _ _ _ g=>bdR (valR P ih all op g T H) (setR nt T dst)) o
theorem qXU(nt:Nat)(all:List Oper)(o:Oper)(T:Tmps)(H:AH):oneR P ih nt all o T H=qHv P ih nt all o T H:=by
 obtain⟨dst,op,ty,pos,af,g⟩:=o;have hop:∀K,bdR (qIG op P T K) (qV4 ih)=bd (opA P T op) (qEi ih) K:=λK=>by rw[qY5];exact qIC (opA P T op) (qEi ih) K (qV4 ih) (qY4 ih)
 have hv:valR P ih all op g T H=qDZ P ih all ⟨dst,op,ty,pos,af,g⟩ T H:=by
  cases g with
  |none=>exact hop H
  | some g=>
    show(match qCH all T (some g)with
     |some true=>bdR (qIG op P T H) (qV4 ih)
     |some false=>some (.undef,H)
     |none=>none)=_
    unfold qDZ;simp only;cases qCH all T (some g)with
    |none=>rfl
    | some b=>cases b with
      |true=>exact hop H
      |false=>rfl
 show bdR (valR P ih all op g T H) (setR nt T dst)=_;rw[hv];refine qIC _ (λv=>lift (setT nt T dst v)) H _ λv K=>?_;cases dst with
 |none=>rfl
 | some d=>
   show Bool.rec (motive:=λ_=>Option (Tmps×AH)) none (some (T.putR d (some v),K)) (Nat.ble (d+1) nt)=_;rw[Tr.putR_eq];show _=lift (cond (Nat.ble (d+1) nt) (some (T.put d (some v))) none) K;cases Nat.ble (d+1) nt<;>rfl
def opsR(nt:Nat)(all l:List Oper):Tmps->AH->Option (Tmps×AH):=List.rec (motive:=λ_=>Tmps->AH->Option (Tmps×AH)) (λT H=>some (T,H)) (λo _ k T H=>bdR (oneR P ih nt all o T H) k) l
theorem qS8(nt:Nat)(all:List Oper):∀(l:List Oper) (T:Tmps) (H:AH),opsR P ih nt all l T H=opsA P ih nt all l T H
 |[],_,_=>rfl
 | o::os,T,H=>by
   show bdR (oneR P ih nt all o T H) (opsR P ih nt all os)=_;rw[qXU];exact qIC _ _ H _ λT K=>qS8 nt all os T K
def qPZ(all:Array Oper)(o:Oper)(mk:Nat):List Oper->Nat->Bool
 |[],_=>true
 |p::ps,j=>(Nat.testBit mk j||Oper.apart all p o)&&qPZ all o mk ps (j+1)
def qJu(all:Array Oper):List Oper->List Nat->List Oper->Bool
 |o::os,mk::mks,done=>qPZ all o mk done 0&&qJu all os mks (done ++ [o])
 |[],_,_=>true
 |_,_,_=>true
def qPP(mk:Nat)(es:List (Nat×Bool))(l:List (Nat×List (Nat×Bool))):Bool:=List.rec (motive:=λ_=>Bool) true (λp _ ih=>Bool.rec (motive:=λ_=>Bool) (Bool.rec (motive:=λ_=>Bool) ih false (clash p.2 es)) ih (Nat.testBit mk p.1)) l
def idxE:List (Oper×List (Nat×Bool))->Nat->List (Nat×List (Nat×Bool))
 |[],_=>[]
 | p::r,i=>match p.2 with
   |[]=>idxE r (i+1)
   |e::es=>(i,e::es)::idxE r (i+1)
theorem qRF:∀es:List (Nat×Bool),clash es []=false
 |[]=>rfl
 |e::es=>by unfold clash;rw[qRF es];rfl
theorem qMd{all:Array Oper}{o:Oper}{mk:Nat}(es:List (Nat×Bool)):∀(done:List (Oper×List (Nat×Bool))) (i:Nat),qPZ all o mk (done.map (·.1)) i=true->against all o mk es done i=qPP mk es (idxE done i)
 |[],_,_=>rfl
 | (p,e)::r,i,h=>by
   simp only[List.map_cons]at h;unfold qPZ at h;simp only[Bool.and_eq_true,Bool.or_eq_true]at h;have ih:=qMd es r (i+1) h.2;unfold against idxE;rw[ih];cases e with
   | nil=>
     simp only[clash,Bool.not_false,Bool.and_true];rcases h.1 with h1|h1<;>simp[h1]
   | cons e0 e=>
     show _=Bool.rec (motive:=λ_=>Bool) (Bool.rec (motive:=λ_=>Bool) (qPP mk es (idxE r (i+1))) false (clash (e0::e) es)) (qPP mk es (idxE r (i+1))) (Nat.testBit mk i);cases ht:Nat.testBit mk i with
     |true=>simp
     | false=>
       have h1:Oper.apart all p o=true:=by rcases h.1 with h1|h1;rw[h1]at ht;cases ht;exact h1
       simp only[h1,Bool.false_or,Bool.true_and];cases clash (e0::e) es<;>simp
theorem qN8{all:Array Oper}{o:Oper}{mk:Nat}:∀(done:List (Oper×List (Nat×Bool))) (i:Nat),qPZ all o mk (done.map (·.1)) i=true->against all o mk [] done i=true
 |[],_,_=>rfl
 | (p,e)::r,i,h=>by
   simp only[List.map_cons]at h;unfold qPZ at h;simp only[Bool.and_eq_true,Bool.or_eq_true]at h;unfold against;rw[qN8 r (i+1) h.2,qRF];rcases h.1 with h1|h1<;>simp[h1]
theorem qRT(o:Oper)(e:List (Nat×Bool)):∀(d:List (Oper×List (Nat×Bool))) (i:Nat),idxE (d ++ [(o,e)]) i=idxE d i++(match e with|[]=>[]|a::es=>[(i+d.length,a::es)])
 |[],i=>by cases e<;>simp[idxE]
 | (p,e')::d,i=>by
   have:=qRT o e d (i+1);simp only[List.cons_append];unfold idxE;rw[this];have hl:i+1+d.length=i+(d.length+1):=by omega
   cases e'<;>cases e<;>simp[hl]
def qYo(os:List Nat->Nat->List (Nat×List (Nat×Bool))->Tmps->AH->Option (Tmps×AH))(mk:Nat)(mks:List Nat)(n:Nat)(done:List (Nat×List (Nat×Bool)))(T:Tmps)(H:AH)(es:List (Nat×Bool)):Option (Tmps×AH):=
 List.rec (motive:=λ_=>Option (Tmps×AH)) (os mks (Nat.succ n) done T H) (λ_ _ _=>Bool.rec (motive:=λ_=>Option (Tmps×AH)) none (os mks (Nat.succ n) (done ++ [(n,es)]) T H) (qPP mk es done)) es
def zADd(nt:Nat)(allL:List Oper)(o:Oper)(os:List Nat->Nat->List (Nat×List (Nat×Bool))->Tmps->AH->Option (Tmps×AH))(mks:List Nat)(n:Nat)(done:List (Nat×List (Nat×Bool)))(T:Tmps)(H:AH):Option (Tmps×AH):=
 List.rec (motive:=λ_=>Option (Tmps×AH)) none (λmk mks _=>AH.rec (motive:=λ_=>Option (Tmps×AH)) (λblks next lo log=>bdR (oneR P ih nt allL o T ⟨blks,next,lo,[]⟩) λT K=>AH.rec (motive:=λ_=>Option (Tmps×AH)) (λblks next lo l=>qYo os mk mks n done T ⟨blks,next,lo,l++log⟩ l) K) H) mks
def qVK(nt:Nat)(allL:List Oper)(l:List Oper):List Nat->Nat->List (Nat×List (Nat×Bool))->Tmps->AH->Option (Tmps×AH):=
 List.rec (motive:=λ_=>List Nat->Nat->List (Nat×List (Nat×Bool))->Tmps->AH->Option (Tmps×AH)) (λ_ _ _ T H=>some (T,H)) (λo _ os=>zADd P ih nt allL o os) l
theorem qWD(nt:Nat)(allL:List Oper)(o:Oper)(os:List Oper)(mk:Nat)(mks:List Nat)(n:Nat)(d:List (Nat×List (Nat×Bool)))(T:Tmps)(b:Tr ABlk)(nx lo:Nat)(log:List (Nat×Bool)):
  qVK P ih nt allL (o::os) (mk::mks) n d T ⟨b,nx,lo,log⟩=bdR (oneR P ih nt allL o T ⟨b,nx,lo,[]⟩) (λT K=>AH.rec (motive:=λ_=>Option (Tmps×AH)) (λblks next lo l=>qYo (qVK P ih nt allL os) mk mks n d T ⟨blks,next,lo,l++log⟩ l) K):=rfl
theorem qUZ(nt:Nat)(all:Array Oper):∀(l:List Oper) (mks:List Nat) (done:List (Oper×List (Nat×Bool))) (T:Tmps) (H:AH),qJu all l mks (done.map (·.1))=true->
  qVK P ih nt all.toList l mks done.length (idxE done 0) T H=opsD P ih nt all l mks done T H
 |[],_,_,_,_,_=>rfl
 |_::_,[],_,_,_,_=>rfl
 | o::os,mk::mks,done,T,H,hs=>by
   unfold qJu at hs;simp only[Bool.and_eq_true]at hs;obtain⟨hp,hs⟩:=hs;obtain⟨blks,next,lo,log⟩:=H;have e0:opsD P ih nt all (o::os) (mk::mks) done T=bd (capture (qHv P ih nt all.toList o T)) (λr=>cond (against all o mk r.2 done 0) (opsD P ih nt all os mks (done ++ [(o,r.2)]) r.1) fail):=by rw[opsD]
   rw[e0];rw[qWD,qXU];unfold bd capture;cases h1:qHv P ih nt all.toList o T ⟨blks,next,lo,[]⟩with
   |none=>simp only[h1];rfl
   | some p=>
     obtain⟨T1,b1,n1,l1,g1⟩:=p;simp only[h1];show qYo (qVK P ih nt all.toList os) mk mks done.length (idxE done 0) T1 ⟨b1,n1,l1,g1++log⟩ g1=_;have hs':qJu all os mks ((done ++ [(o,g1)]).map (·.1))=true:=by simpa using hs
     have ih2:=qUZ nt all os mks (done ++ [(o,g1)]) T1 ⟨b1,n1,l1,g1++log⟩ hs';rw[qRT]at ih2;cases g1 with
     | nil=>
       rw[qN8 done 0 hp];simp only[List.append_nil,lAp,List.length_cons,List.length_nil]at ih2;exact ih2
     | cons e es=>
       rw[qMd (e::es) done 0 hp];simp only[zA,lAp,List.length_cons,List.length_nil]at ih2;show Bool.rec (motive:=λ_=>Option (Tmps×AH)) none (qVK P ih nt all.toList os mks (Nat.succ done.length) (idxE done 0 ++ [(done.length,e::es)]) T1 ⟨b1,n1,l1,(e::es)++log⟩) (qPP mk (e::es) (idxE done 0))=_;cases qPP mk (e::es) (idxE done 0)with
       |false=>rfl
       |true=>exact ih2
def zAAN(nt:Nat)(ops:Array Oper)(T:Tmps)(H:AH):Option (Tmps×AH):=cond (qJu ops ops.toList (masks ops.toList []) []) (qVK P ih nt ops.toList ops.toList (masks ops.toList []) 0 [] T H) (opsD P ih nt ops ops.toList (masks ops.toList []) [] T H)
theorem qZi(nt:Nat)(ops:Array Oper)(T:Tmps)(H:AH):zAAN P ih nt ops T H=opsD P ih nt ops ops.toList (masks ops.toList []) [] T H:=by
 unfold zAAN;cases hs:qJu ops ops.toList (masks ops.toList []) []with
 |false=>rfl
 |true=>exact qUZ P ih nt ops ops.toList (masks ops.toList []) [] T H hs
end
abbrev qNq:=Program->(Task->M Out)->Nat->Option Nat->Tmps->List Mk->AH->Option (Out×AH)
def nrmO(ms:List Mk)(r:Option (Tmps×AH)):Option (Out×AH):=bdR r λT H=>some (.exit .nrm T ms,H)
def zAE3:qNq:=λ_ _ _ _ T ms H=>some (.exit .nrm T ms,H)
def defS(P:Program)(ms:List Mk)(c:Call)(T:Tmps)(H:AH):Option (Out×AH):=match qKQ P T c with
 |some m=>some (.exit .nrm T (m::ms),H)
 |none=>none
def zABP(ops:Array Oper)(draw:Bool):qNq:=match draw with
 | false=>match qBc ops.toList with
   |none=>λP ih nt _ T ms H=>nrmO ms (opsR P ih nt ops.toList ops.toList T H)
   | some p=>λP ih nt rnd T ms H=>match rnd with
     |none=>bdR (opsR P ih nt ops.toList p.1 T H) (defS P ms p.2)
     |some _=>none
 |true=>λP ih nt _ T ms H=>nrmO ms (cond (qCQ ops.toList) (zAAN P ih nt ops T H) none)
def seqK(ih:Task->M Out)(nt:Nat)(rnd:Option Nat)(b:Code)(o:Out)(H:AH):Option (Out×AH):=match o with
 | .exit .nrm T ms=>ih (.code nt rnd b T ms) H
 |o=>some (o,H)
def cSeq(a b:Code):qNq:=λ_ ih nt rnd T ms H=>bdR (ih (.code nt rnd a T ms) H) (seqK ih nt rnd b)
def zAEj(c:Operand)(a b:Code):qNq:=λ_ ih nt rnd T ms H=>match evR T c with
 |some (.bool t)=>ih (.code nt rnd (cond t a b) T ms) H
 |_=>none
def zAEE(id:Nat)(o:Out)(H:AH):Option (Out×AH):=match o with
 | .exit (.exit id') T ms=>cond (Nat.beq id' id) (some (.exit .nrm T ms,H)) (some (.exit (.exit id') T ms,H))
 |o=>some (o,H)
def zAD0(id:Nat)(b:Code):qNq:=λ_ ih nt rnd T ms H=>bdR (ih (.code nt rnd b T ms) H) (zAEE id)
def zAEx(b:Code):qNq:=λ_ ih nt rnd T ms H=>match qCI b with
  |some s=>qJQ ih nt rnd s T ms H
  |none=>bdR (ih (.code nt rnd b T ms) H) (seqK ih nt rnd (.loop b))
def zAEW(id:Nat):qNq:=λ_ _ _ _ T ms H=>some (.exit (.exit id) T ms,H)
def cRet:qNq:=λ_ _ _ _ T ms H=>some (.exit .ret T ms,H)
structure CB where
 f:qNq
def zAEo(c:Code):CB:=match c with
 | .skip=>⟨zAE3⟩
 | .region _ ops draw=>⟨zABP ops draw⟩
 | .seq a b=>⟨cSeq a b⟩
 | .cond c a b=>⟨zAEj c a b⟩
 | .block id b=>⟨zAD0 id b⟩
 | .loop b=>⟨zAEx b⟩
 | .exit id=>⟨zAEW id⟩
 | .ret=>⟨cRet⟩
 |c=>⟨λP ih nt rnd T ms=>qA7 P ih nt rnd c T ms⟩
def qTG(c:Code):qNq:=λP ih nt rnd T ms H=>CB.rec (motive:=λ_=>Option (Out×AH)) (λf=>f P ih nt rnd T ms H) (zAEo c)
theorem qXr(ih:Task->M Out)(nt:Nat)(rnd:Option Nat)(b:Code)(o:Out)(H:AH):seqK ih nt rnd b o H=(match (generalizing:=false) o with
  | .exit .nrm T ms=>ih (.code nt rnd b T ms)
  |o=>ret o) H:=by
 cases o with
 |val v=>rfl
 |exit e T ms=>cases e<;>rfl
theorem qVo(P:Program)(ih:Task->M Out)(nt:Nat)(rnd:Option Nat)(c:Code)(T:Tmps)(ms:List Mk)(H:AH):qTG c P ih nt rnd T ms H=qA7 P ih nt rnd c T ms H:=by
 cases c
 case region id ops draw=>
  cases draw with
  | false=>
    have e1:qA7 P ih nt rnd (.region id ops false) T ms=(match qBc ops.toList with
     | some p=>match (generalizing:=false) rnd with
       | none=>bd (opsA P ih nt ops.toList p.1 T) λT=>match qKQ P T p.2 with
         |some m=>ret (.exit .nrm T (m::ms))
         |none=>fail
       |some _=>fail
     |none=>bd (opsA P ih nt ops.toList ops.toList T) λT=>ret (.exit .nrm T ms)):=rfl
    have e2:qTG (.region id ops false) P ih nt rnd T ms H=(match qBc ops.toList with
     |none=>λP ih nt _ T ms H=>nrmO ms (opsR P ih nt ops.toList ops.toList T H)
     | some p=>λP ih nt rnd T ms H=>match rnd with
       |none=>bdR (opsR P ih nt ops.toList p.1 T H) (defS P ms p.2)
       |some _=>none:qNq) P ih nt rnd T ms H:=rfl
    rw[e1,e2];cases qBc ops.toList with
    | some p=>
      cases rnd with
      |some _=>rfl
      | none=>
        show bdR (opsR P ih nt ops.toList p.1 T H) (defS P ms p.2)=_;rw[qS8];refine qIC (opsA P ih nt ops.toList p.1 T) _ H _ λT K=>?_;unfold defS;cases qKQ P T p.2<;>rfl
    |none=>
    show nrmO ms (opsR P ih nt ops.toList ops.toList T H)=bd (opsA P ih nt ops.toList ops.toList T) (λT=>ret (.exit .nrm T ms)) H;rw[qS8];exact qSE (opsA P ih nt ops.toList ops.toList T) (λT=>ret (Out.exit .nrm T ms)) H
  | true=>
    show nrmO ms (cond (qCQ ops.toList) (zAAN P ih nt ops T H) none)=bd (cond (qCQ ops.toList) (opsD P ih nt ops ops.toList (masks ops.toList []) [] T) fail) (λT=>ret (.exit .nrm T ms)) H;rw[qZi,<- qSE];unfold nrmO;cases qCQ ops.toList<;>rfl
 case seq a b=>exact qIC (ih (.code nt rnd a T ms)) _ H _ λo K=>qXr ih nt rnd b o K
 case cond c a b=>
  show(match evR T c with
   |some (.bool t)=>ih (.code nt rnd (cond t a b) T ms) H
   |_=>none)=_
  rw[qFM];unfold qA7;simp only;generalize ev T c=v;cases v with
  |none=>rfl
  |some v=>cases v<;>rfl
 case block id b=>
  refine qIC (ih (.code nt rnd b T ms)) _ H _ λo K=>?_;cases o with
  |val v=>rfl
  | exit e T ms=>
    cases e with
    |exit id'=>show cond (Nat.beq id' id) _ _=_;cases h:Nat.beq id' id<;>simp only[h]<;>rfl
    |_=>rfl
 case loop b=>
  show(match qCI b with
   |some s=>qJQ ih nt rnd s T ms H
   |none=>bdR (ih (.code nt rnd b T ms) H) (seqK ih nt rnd (.loop b)))=_
  unfold qA7;simp only;cases qCI b with
  |some s=>rfl
  |none=>exact qIC (ih (.code nt rnd b T ms)) _ H _ λo K=>qXr ih nt rnd (.loop b) o K
 all_goals rfl
def zABZ(P:Program)(ih:Task->M Out)(rs:List ResultVar)(o:Out)(H:AH):Option (Out×AH):=match o with
 | .exit (.exit _) _ _=>none
 | .exit _ T ms=>bd (qAz P ih ms) (λ_=>bd (qBN P T rs) λvs=>ret (.val (oneV vs))) H
 |_=>none
def zAD8(P:Program)(ih:Task->M Out)(args:List AV)(fn:Func)(c:Code)(H:AH):Option (Out×AH):=cond (Nat.ble (lenR args) fn.ntmps) (bdR (ih (.code fn.ntmps none c (Tr.listR .nil 0 args) []) H) (zABZ P ih fn.results.toList)) none
def qXN(P:Program)(ih:Task->M Out)(f:FuncId)(args:List AV)(H:AH):Option (Out×AH):=match P.funcs[f]? with
 | some fn=>match fn.body with
   |some c=>zAD8 P ih args fn c H
   |none=>none
 |none=>none
theorem qZJ(P:Program)(ih:Task->M Out)(f:FuncId)(args:List AV)(H:AH):qXN P ih f args H=qBo P ih f args H:=by
 unfold qXN qBo;cases P.funcs[f]? with
 |none=>rfl
 | some fn=>
   simp only;cases fn.body with
   |none=>rfl
   | some c=>
     simp only[zAD8,qQE,Tr.listR_eq];cases Nat.ble args.length fn.ntmps with
     |false=>rfl
     | true=>
       simp only[cond_true];refine qIC (ih (.code fn.ntmps none c (Tr.ofListAt .nil 0 args) [])) _ H _ λo K=>?_;cases o with
       |val v=>rfl
       |exit e T ms=>cases e<;>rfl
def zADm(P:Program)(X:Td)(ih:Task->M Out)(t:Task):M Out:=match t with
 | .code nt rnd c T ms=>qTG c P ih nt rnd T ms
 | .call f args=>match X f with
   |some g=>bd (g args) λv=>ret (.val v)
   |none=>qXN P ih f args
 | .round l args=>qGp ih l args
def runR(P:Program)(X:Td)(n:Nat):Task->M Out:=Nat.rec (motive:=λ_=>Task->M Out) (λ_ _=>none) (λ_ ih=>zADm P X ih) n
theorem qLz(P:Program)(X:Td):∀(n:Nat) (t:Task),runR P X n t=run P X n t
 | 0,_=>rfl
 | n+1,t=>by
   have:runR P X n=run P X n:=funext λt=>qLz P X n t;show zADm P X (runR P X n) t=qJZ P X (run P X n) t;rw[this];cases t with
   |code nt rnd c T ms=>exact funext λH=>qVo P _ nt rnd c T ms H
   | call f args=>
     show(match X f with
      |some g=>bd (g args) λv=>ret (Out.val v)
      |none=>qXN P (run P X n) f args)=(match X f with
      |some g=>bd (g args) λv=>ret (Out.val v)
      |none=>qBo P (run P X n) f args)
     rw[show qXN P (run P X n) f args=qBo P (run P X n) f args from funext λH=>qZJ _ _ _ _ _]
   |round=>rfl
end
end Go.AM
