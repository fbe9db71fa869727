/- Part A3 of a calculus over a small memory that is proved to answer as the program does, and of its use for the functions that the law reaches: see the last part. -/
import Derived.Test.YtjheoaemhdpoeaaGreatDoorA2
import Derived.RangeFuncLeaves
import Derived.RangeFuncNested
import Derived.LoopNIn
import Derived.Maps.RangeRun
import Derived.RecoverIn
import Derived.ProofKit
import Derived.OpenShut
set_option linter.unusedVariables false
namespace Go.AM
open Go Go.RowKit
section
variable {P : Program} {σ : Nat → Value} {base nt : Nat} {ih : Task → M Out}
structure Did (P:Program) (ih:Task→M Out) (nt:Nat) (all:List Oper) (o:Oper) (T:Tmps) (H:AH) (v:AV) (e:List (Nat × Bool)) (T':Tmps) (H':AH):Prop where
 set:setT nt T o.dst v=some T'
 does:Does e H H'
 fr:∀ H2:AH,H2.next=H.next→H2.lo=H.lo→(∀ id b,(id,b)∈e→H2.blks.get id=H.blks.get id)→
  ∃ H2',qC1 P ih all o T H2=some (v,H2')∧Does e H2 H2'∧H2'.next=H'.next∧∀ id b,(id,b)∈e→H2'.blks.get id=H'.blks.get id
theorem zADp {all:List Oper} {o:Oper} {T T':Tmps} {H H':AH} {e:List (Nat × Bool)} (hfr:∀ t,Fr (ih t)) (h:capture (qHf P ih nt all o T) H=some ((T',e),H')) :
  ∃ v,Did P ih nt all o T H v e T' H':=by
 obtain ⟨d,⟨K,h1,h2,h3,h4⟩,_⟩:=qSM (qKk P hfr nt all o T) h
 obtain ⟨v,h5,h6⟩:=qKm h1
 obtain ⟨e',d',k⟩:=qML P hfr all o T _ v K h5
 have he:e'=e:=by
  have a1:K.log=e':=by simpa using d'.log
  unfold capture at h
  rw [h1] at h
  simp only [Option.some.injEq,Prod.mk.injEq] at h
  rw [← a1];exact h.1.2
 subst he
 refine ⟨v,h6,d,λH2 hn hl hag=>?_⟩
 obtain ⟨H2',e2,d2,n2,g2⟩:=k H2 hn (Nat.le_of_eq hl) hag
 exact ⟨H2',e2,d2,n2.trans h3,λid b hb=>by rw [g2 id b hb,h2]⟩
def Sep (all:Array Oper) (mk i:Nat) (p o:Oper) (e f:List (Nat × Bool)):Prop:=Nat.testBit mk i=true∨(Oper.apart all p o=true∧clash e f=false)
theorem trace {all:Array Oper} (hfr:∀ t,Fr (ih t)):∀ (os:List Oper) (mks:List Nat) (done:List (Oper × List (Nat × Bool))) (k:Nat) (T:Tmps) (H:AH) (T':Tmps) (H':AH),done.length=k→
  opsD P ih nt all os mks done T H=some (T',H')→
  ∃ (Ts:Nat→Tmps) (Hs:Nat→AH) (vs:Nat→AV) (es:Nat→List (Nat × Bool)),Ts k=T∧Hs k=H∧Ts (k+os.length)=T'∧Hs (k+os.length)=H'∧
   ∀ j o,os[j]?=some o→Did P ih nt all.toList o (Ts (k+j)) (Hs (k+j)) (vs (k+j)) (es (k+j)) (Ts (k+j+1)) (Hs (k+j+1))∧
    ∃ mk,mks[j]?=some mk∧(∀ i p,done[i]?=some p→Sep all mk i p.1 o p.2 (es (k+j)))∧(∀ i p,i < j→os[i]?=some p→Sep all mk (k+i) p o (es (k+i)) (es (k+j))):=by
 intro os
 induction os with
 | nil=>
   intro mks done k T H T' H' hk h
   cases qAG h
   exact ⟨λ_=>T,λ_=>H,λ_=>.undef,λ_=>[],rfl,rfl,rfl,rfl,λj o h=>by simp at h⟩
 | cons o os ih2=>
   intro mks done k T H T' H' hk h
   cases mks with
   | nil=>exact (qAB h).elim
   | cons mk mks=>
     obtain ⟨⟨T1,e⟩,H1,h1,h2⟩:=qAN h
     obtain ⟨h3,h4⟩:=qAj h2
     obtain ⟨v,hd⟩:=zADp hfr h1
     obtain ⟨Ts,Hs,vs,es,a1,a2,a3,a4,a5⟩:=ih2 mks (done ++ [(o,e)]) (k+1) T1 H1 T' H' (by simp [hk]) h4
     refine ⟨λj=>if j=k then T else Ts j,λj=>if j=k then H else Hs j,λj=>if j=k then v else vs j,λj=>if j=k then e else es j,if_pos rfl,if_pos rfl,?_,?_,?_⟩
     ·show (if _ then _ else _)=_
      rw [if_neg (by simp)]
      rw [← a3];congr 1;simp;omega
     ·show (if _ then _ else _)=_
      rw [if_neg (by simp)]
      rw [← a4];congr 1;simp;omega
     ·intro j q hq
      cases j with
      | zero=>
        simp at hq;subst hq
        simp only [Nat.add_zero,if_true,if_neg (show ¬ k+1=k by omega),a1,a2]
        exact ⟨hd,mk,rfl,λi p hp=>by have:=qLm done 0 h3 i p hp;simpa [Sep] using this,λi p hi=>by omega⟩
      | succ j=>
        simp at hq
        have e1:k+(j+1)=k+1+j:=by omega
        obtain ⟨b1,mk',b2,b3,b4⟩:=a5 j q hq
        simp only [e1,if_neg (show ¬ k+1+j=k by omega),if_neg (show ¬ k+1+j+1=k by omega)]
        refine ⟨b1,mk',by simpa using b2,λi p hp=>b3 i p ?_,λi p hi hp=>?_⟩
        ·rw [List.getElem?_append_left (List.getElem?_eq_some_iff.1 hp).1];exact hp
        ·cases i with
         | zero=>
           simp at hp;subst hp
           simp only [Nat.add_zero,if_true]
           have:=b3 k (o,e) (by simp [← hk])
           exact this
         | succ i=>
           simp at hp
           have e2:k+(i+1)=k+1+i:=by omega
           simp only [e2,if_neg (show ¬ k+1+i=k by omega)]
           exact b4 i p (by omega) hp
end
end Go.AM
namespace Go.AM
open Go Go.RowKit
section
variable {P : Program} {σ : Nat → Value} {base nt : Nat} {ih : Task → M Out}
structure Trace (P:Program) (ih:Task→M Out) (nt:Nat) (ops:Array Oper) (Ts:Nat→Tmps) (Hs:Nat→AH) (vs:Nat→AV) (es:Nat→List (Nat × Bool)):Prop where
 did:∀ j o,ops[j]?=some o→Did P ih nt ops.toList o (Ts j) (Hs j) (vs j) (es j) (Ts (j+1)) (Hs (j+1))
 back:∀ (j:Nat) (o:Oper),ops[j]?=some o→∀ e∈o.after,Region.binds .any e=true→e.on < j
 sep:∀ i j p o,i < j→ops[i]?=some p→ops[j]?=some o→∃ mk,(masks ops.toList [])[j]?=some mk∧Sep ops mk i p o (es i) (es j)
noncomputable def cut (Hs:Nat→AH) (es:Nat→List (Nat × Bool)) (X:Nat→Prop):Nat→Nat→Option ABlk
 | 0,id=>(Hs 0).blks.get id
 | j+1,id=>by
   classical
   exact if X j∧(id,true)∈es j then (Hs (j+1)).blks.get id else cut Hs es X j id
noncomputable def cutT (ops:Array Oper) (Ts:Nat→Tmps) (vs:Nat→AV) (X:Nat→Prop):Nat→Nat→AV
 | 0,t=>tget (Ts 0) t
 | j+1,t=>by
   classical
   exact if X j∧((ops[j]?).bind (·.dst))=some t then vs j else cutT ops Ts vs X j t
theorem qNS {Hs:Nat→AH} {es:Nat→List (Nat × Bool)} {X:Nat→Prop} {j id:Nat} (h:X j) (h2:(id,true)∈es j):cut Hs es X (j+1) id=(Hs (j+1)).blks.get id:=by
 unfold cut;exact if_pos ⟨h,h2⟩
theorem qJJ {Hs:Nat→AH} {es:Nat→List (Nat × Bool)} {X:Nat→Prop} {j id:Nat} (h:X j→(id,true) ∉ es j):cut Hs es X (j+1) id=cut Hs es X j id:=by
 conv=>lhs;unfold cut
 exact if_neg λk=>h k.1 k.2
theorem qKU {ops:Array Oper} {Ts:Nat→Tmps} {vs:Nat→AV} {X:Nat→Prop} {j t:Nat} {o:Oper} (h:X j) (ho:ops[j]?=some o) (h2:o.dst=some t):cutT ops Ts vs X (j+1) t=vs j:=by
 unfold cutT;exact if_pos ⟨h,by simp [ho,h2]⟩
theorem qGS {ops:Array Oper} {Ts:Nat→Tmps} {vs:Nat→AV} {X:Nat→Prop} {j t:Nat} (h:X j→∀ o,ops[j]?=some o→o.dst≠some t):cutT ops Ts vs X (j+1) t=cutT ops Ts vs X j t:=by
 conv=>lhs;unfold cutT
 refine if_neg λk=>?_
 cases ho:ops[j]? with
 | none=>simp [ho] at k
 | some o=>exact h k.1 o ho (by simpa [ho] using k.2)
theorem qP6 {T T':Tmps} {dst:Option Tmp} {v:AV} (h:setT nt T dst v=some T') (t:Nat):tget T' t=if dst=some t then v else tget T t:=by
 cases dst with
 | none=>cases h;simp
 | some d=>
   simp only [setT] at h
   obtain ⟨_,h⟩:=qAS h
   cases h
   simp only [tget,Tr.get_put]
   by_cases e:d=t
   ·simp [e]
   ·simp [e]
variable {ops : Array Oper} {Ts : Nat → Tmps} {Hs : Nat → AH} {vs : Nat → AV} {es : Nat → List (Nat × Bool)}
def Closed (ops:Array Oper) (X:Nat→Prop):Prop:=∀ (j:Nat) (o:Oper),ops[j]?=some o→X j→∀ e∈o.after,Region.binds .any e=true→X e.on
namespace Trace
variable (tr : Trace P ih nt ops Ts Hs vs es)
include tr
theorem later {X:Nat→Prop} (hX:Closed ops X) {j i:Nat} {o p:Oper} (ho:ops[j]?=some o) (hj:¬ X j) (hij:j < i) (hi:X i) (hp:ops[i]?=some p):Oper.apart ops o p=true∧clash (es j) (es i)=false:=by
 obtain ⟨mk,h1,h2⟩:=tr.sep j i o p hij ho hp
 rcases h2 with h2 | h2
 ·exact absurd (qJt tr.back X hX i p mk j hp h1 h2 (hX i p hp hi)) hj
 ·exact h2
theorem earlier {X:Nat→Prop} (hX:Closed ops X) {j i:Nat} {o p:Oper} (ho:ops[j]?=some o) (hr:∀ e∈o.after,Region.binds .any e=true→X e.on) (hij:i < j) (hi:¬ X i) (hp:ops[i]?=some p):Oper.apart ops p o=true∧clash (es i) (es j)=false:=by
 obtain ⟨mk,h1,h2⟩:=tr.sep i j p o hij hp ho
 rcases h2 with h2 | h2
 ·exact absurd (qJt tr.back X hX j o mk i ho h1 h2 hr) hi
 ·exact h2
theorem blk_late {X:Nat→Prop} (hX:Closed ops X) {j:Nat} {o:Oper} (ho:ops[j]?=some o) (hj:¬ X j) {id:Nat} {c:Bool} (hid:(id,c)∈es j):∀ d,j+1+d≤ops.size→∀ Y:Nat→Prop,(∀ i,j < i→(Y i↔X i))→cut Hs es Y (j+1+d) id=cut Hs es Y (j+1) id:=by
 intro d
 induction d with
 | zero=>intro _ _ _;rfl
 | succ d ih2=>
   intro hd Y hY
   rw [show j+1+(d+1)=(j+1+d)+1 from by omega,qJJ,ih2 (by omega) Y hY]
   intro hy hin
   have hp:ops[j+1+d]?=some ops[j+1+d]:=Array.getElem?_eq_getElem (by omega)
   obtain ⟨_,h2⟩:=tr.later hX ho hj (by omega:j < j+1+d) ((hY _ (by omega)).1 hy) hp
   have:=qO8 h2 id c true hid hin
   simp at this
theorem blk_early {X:Nat→Prop} (hX:Closed ops X) {j:Nat} {o:Oper} (ho:ops[j]?=some o) (hr:∀ e∈o.after,Region.binds .any e=true→X e.on) {id:Nat} {c:Bool} (hid:(id,c)∈es j):∀ k,k≤j→cut Hs es X k id=(Hs k).blks.get id:=by
 have hjlt:=(Array.getElem?_eq_some_iff.1 ho).1
 intro k
 induction k with
 | zero=>intro _;rfl
 | succ k ih2=>
   intro hk
   have hp:ops[k]?=some ops[k]:=Array.getElem?_eq_getElem (by omega)
   by_cases hin:(id,true)∈es k
   ·by_cases hxk:X k
    ·exact qNS hxk hin
    ·obtain ⟨_,h2⟩:=tr.earlier hX ho hr (by omega:k < j) hxk hp
     have:=qO8 h2 id true c hin hid
     simp at this
   ·rw [qJJ (λ_=>hin),ih2 (by omega),(tr.did k _ hp).does.same id hin]
theorem blk_ready {X:Nat→Prop} (hX:Closed ops X) {j:Nat} {o:Oper} (ho:ops[j]?=some o) (hj:¬ X j) (hr:∀ e∈o.after,Region.binds .any e=true→X e.on) {id:Nat} {c:Bool} (hid:(id,c)∈es j):cut Hs es X ops.size id=(Hs j).blks.get id:=by
 have hjlt:=(Array.getElem?_eq_some_iff.1 ho).1
 have h1:=tr.blk_late hX ho hj hid (ops.size - (j+1)) (by omega) X (λ_ _=>Iff.rfl)
 rw [show j+1+(ops.size - (j+1))=ops.size from by omega] at h1
 rw [h1,qJJ (λh=>absurd h hj),tr.blk_early hX ho hr hid j (Nat.le_refl _)]
omit tr in
theorem qZ5 {X Y:Nat→Prop} {id:Nat}:∀ n,(∀ i,i < n→(id,true)∈es i→(X i↔Y i))→cut Hs es X n id=cut Hs es Y n id:=by
 intro n
 induction n with
 | zero=>intro _;rfl
 | succ n ih2=>
   intro h
   by_cases hin:(id,true)∈es n
   ·by_cases hx:X n
    ·rw [qNS hx hin,qNS ((h n (by omega) hin).1 hx) hin]
    ·rw [qJJ (λk=>absurd k hx),qJJ (λk=>absurd ((h n (by omega) hin).2 k) hx),ih2 λi hi=>h i (by omega)]
   ·rw [qJJ (λ_=>hin),qJJ (λ_=>hin),ih2 λi hi=>h i (by omega)]
theorem blk_step {X:Nat→Prop} (hX:Closed ops X) {j:Nat} {o:Oper} (ho:ops[j]?=some o) (hj:¬ X j) {H H':AH} (hH:∀ id,H.blks.get id=cut Hs es X ops.size id)
  (hd:∀ id,(id,true) ∉ es j→H'.blks.get id=H.blks.get id) (hg:∀ id b,(id,b)∈es j→H'.blks.get id=(Hs (j+1)).blks.get id) (id:Nat):H'.blks.get id=cut Hs es (λi=>i=j∨X i) ops.size id:=by
 have hjlt:=(Array.getElem?_eq_some_iff.1 ho).1
 by_cases hin:(id,true)∈es j
 ·rw [hg id true hin]
  have h1:=tr.blk_late hX ho hj hin (ops.size - (j+1)) (by omega) (λi=>i=j∨X i) (λi hi=>⟨λh=>h.resolve_left (by omega),.inr⟩)
  rw [show j+1+(ops.size - (j+1))=ops.size from by omega] at h1
  rw [h1,qNS (.inl rfl) hin]
 ·rw [hd id hin,hH]
  refine qZ5 ops.size λi _ hi=>⟨.inr,λh=>?_⟩
  rcases h with rfl | h
  ·exact absurd hi hin
  ·exact h
theorem blk_all {X:Nat→Prop} (hX:∀ i,i < ops.size→X i) (id:Nat):∀ n,n≤ops.size→cut Hs es X n id=(Hs n).blks.get id:=by
 intro n
 induction n with
 | zero=>intro _;rfl
 | succ n ih2=>
   intro hn
   by_cases hin:(id,true)∈es n
   ·exact qNS (hX n (by omega)) hin
   ·have hp:ops[n]?=some ops[n]:=Array.getElem?_eq_getElem (by omega)
    rw [qJJ (λ_=>hin),ih2 (by omega),(tr.did n _ hp).does.same id hin]
theorem tmp_late {X:Nat→Prop} (hX:Closed ops X) {j:Nat} {o:Oper} (ho:ops[j]?=some o) (hj:¬ X j) {t:Nat} (ht:t∈o.looksAt ops∨o.dst=some t):∀ d,j+1+d≤ops.size→∀ Y:Nat→Prop,(∀ i,j < i→(Y i↔X i))→cutT ops Ts vs Y (j+1+d) t=cutT ops Ts vs Y (j+1) t:=by
 intro d
 induction d with
 | zero=>intro _ _ _;rfl
 | succ d ih2=>
   intro hd Y hY
   rw [show j+1+(d+1)=(j+1+d)+1 from by omega,qGS,ih2 (by omega) Y hY]
   intro hy p hp hdst
   obtain ⟨h1,_⟩:=tr.later hX ho hj (by omega:j < j+1+d) ((hY _ (by omega)).1 hy) hp
   obtain ⟨_,g2,g3⟩:=Oper.apart_spec h1
   rcases ht with ht | ht
   ·exact g3 t hdst ht
   ·exact g2 t ht hdst
theorem tmp_early {X:Nat→Prop} (hX:Closed ops X) {j:Nat} {o:Oper} (ho:ops[j]?=some o) (hr:∀ e∈o.after,Region.binds .any e=true→X e.on) {t:Nat} (ht:t∈o.looksAt ops):∀ k,k≤j→cutT ops Ts vs X k t=tget (Ts k) t:=by
 have hjlt:=(Array.getElem?_eq_some_iff.1 ho).1
 intro k
 induction k with
 | zero=>intro _;rfl
 | succ k ih2=>
   intro hk
   have hp:ops[k]?=some ops[k]:=Array.getElem?_eq_getElem (by omega)
   rw [qP6 (tr.did k _ hp).set t]
   by_cases hdst:ops[k].dst=some t
   ·rw [if_pos hdst]
    by_cases hxk:X k
    ·exact qKU hxk hp hdst
    ·obtain ⟨h1,_⟩:=tr.earlier hX ho hr (by omega:k < j) hxk hp
     exact absurd ht ((Oper.apart_spec h1).1 t hdst)
   ·rw [if_neg hdst,qGS (λ_ p hp'=>by rw [hp] at hp';cases hp';exact hdst),ih2 (by omega)]
theorem tmp_ready {X:Nat→Prop} (hX:Closed ops X) {j:Nat} {o:Oper} (ho:ops[j]?=some o) (hj:¬ X j) (hr:∀ e∈o.after,Region.binds .any e=true→X e.on) {t:Nat} (ht:t∈o.looksAt ops):cutT ops Ts vs X ops.size t=tget (Ts j) t:=by
 have hjlt:=(Array.getElem?_eq_some_iff.1 ho).1
 have h1:=tr.tmp_late hX ho hj (.inl ht) (ops.size - (j+1)) (by omega) X (λ_ _=>Iff.rfl)
 rw [show j+1+(ops.size - (j+1))=ops.size from by omega] at h1
 rw [h1,qGS (λh=>absurd h hj),tr.tmp_early hX ho hr ht j (Nat.le_refl _)]
omit tr in
theorem qZm {X Y:Nat→Prop} {t:Nat}:∀ n,(∀ i,i < n→(∃ p,ops[i]?=some p∧p.dst=some t)→(X i↔Y i))→cutT ops Ts vs X n t=cutT ops Ts vs Y n t:=by
 intro n
 induction n with
 | zero=>intro _;rfl
 | succ n ih2=>
   intro h
   by_cases hin:∃ p,ops[n]?=some p∧p.dst=some t
   ·obtain ⟨p,hp,hd⟩:=hin
    by_cases hx:X n
    ·rw [qKU hx hp hd,qKU ((h n (by omega) ⟨p,hp,hd⟩).1 hx) hp hd]
    ·rw [qGS (λk=>absurd k hx),qGS (λk=>absurd ((h n (by omega) ⟨p,hp,hd⟩).2 k) hx),ih2 λi hi=>h i (by omega)]
   ·rw [qGS (λ_ p hp hd=>hin ⟨p,hp,hd⟩),qGS (λ_ p hp hd=>hin ⟨p,hp,hd⟩),ih2 λi hi=>h i (by omega)]
theorem tmp_step {X:Nat→Prop} (hX:Closed ops X) {j:Nat} {o:Oper} (ho:ops[j]?=some o) (hj:¬ X j) {T T':Tmps} (hT:∀ t,tget T t=cutT ops Ts vs X ops.size t)
  (hs:setT nt T o.dst (vs j)=some T') (t:Nat):tget T' t=cutT ops Ts vs (λi=>i=j∨X i) ops.size t:=by
 have hjlt:=(Array.getElem?_eq_some_iff.1 ho).1
 rw [qP6 hs t]
 by_cases hd:o.dst=some t
 ·rw [if_pos hd]
  have h1:=tr.tmp_late hX ho hj (.inr hd) (ops.size - (j+1)) (by omega) (λi=>i=j∨X i) (λi hi=>⟨λh=>h.resolve_left (by omega),.inr⟩)
  rw [show j+1+(ops.size - (j+1))=ops.size from by omega] at h1
  rw [h1,qKU (.inl rfl) ho hd]
 ·rw [if_neg hd,hT]
  refine qZm ops.size λi _ hi=>⟨.inr,λh=>?_⟩
  rcases h with rfl | h
  ·obtain ⟨p,hp,hd'⟩:=hi
   rw [ho] at hp;cases hp
   exact absurd hd' hd
  ·exact h
theorem tmp_all {X:Nat→Prop} (hX:∀ i,i < ops.size→X i) (t:Nat):∀ n,n≤ops.size→cutT ops Ts vs X n t=tget (Ts n) t:=by
 intro n
 induction n with
 | zero=>intro _;rfl
 | succ n ih2=>
   intro hn
   have hp:ops[n]?=some ops[n]:=Array.getElem?_eq_getElem (by omega)
   rw [qP6 (tr.did n _ hp).set t]
   by_cases hd:ops[n].dst=some t
   ·rw [if_pos hd];exact qKU (hX n (by omega)) hp hd
   ·rw [if_neg hd,qGS (λ_ p hp'=>by rw [hp] at hp';cases hp';exact hd),ih2 (by omega)]
theorem next_le:∀ d j,j+d≤ops.size→(Hs j).next≤(Hs (j+d)).next:=by
 intro d
 induction d with
 | zero=>intro j _;exact Nat.le_refl _
 | succ d ih2=>
   intro j hj
   have hp:ops[j+d]?=some ops[j+d]:=Array.getElem?_eq_getElem (by omega)
   exact Nat.le_trans (ih2 j (by omega)) (tr.did _ _ hp).does.next
theorem lo_eq:∀ j,j≤ops.size→(Hs j).lo=(Hs 0).lo:=by
 intro j
 induction j with
 | zero=>intro _;rfl
 | succ j ih2=>
   intro hj
   have hp:ops[j]?=some ops[j]:=Array.getElem?_eq_getElem (by omega)
   rw [(tr.did _ _ hp).does.lo,ih2 (by omega)]
end Trace
end
end Go.AM
namespace Go.AM
open Go Go.RowKit
section
variable {P : Program} {σ : Nat → Value} {base nt : Nat} {ih : Task → M Out}
theorem WR.same {ρ:Ren} {H K:AH} {w:World} (h:WR σ ρ base H w) (hb:∀ id,K.blks.get id=H.blks.get id) (hl:K.lo=H.lo):WR σ ρ base K w:=by
 obtain ⟨a,b,c,d⟩:=h
 refine ⟨λid x hx=>?_,λid x L hx hL hlo=>?_,λi j bi bj Li Lj hi hj hLi hLj hlo hne=>?_,d⟩
 ·rw [hl];exact a id x ((hb id).symm.trans hx)
 ·rw [hl] at hlo;exact b id x L ((hb id).symm.trans hx) hL hlo
 ·rw [hl] at hlo;exact c i j bi bj Li Lj ((hb i).symm.trans hi) ((hb j).symm.trans hj) hLi hLj hlo hne
theorem TRel.same {ρ:Ren} {T T':Tmps} {tm:Array Value} (h:TRel σ ρ nt T tm) (ht:∀ t,tget T' t=tget T t):TRel σ ρ nt T' tm:=
 ⟨h.size,λi=>by rw [ht];exact h.at_ i⟩
def cntF:List Bool→Nat
 | []=>0
 | b :: l=>(if b then 0 else 1)+cntF l
theorem qPr:∀ (l:List Bool) (i:Nat),l[i]?=some false→cntF (l.set i true)+1=cntF l
 | [],i,h=>by simp at h
 | b :: l,0,h=>by simp at h;subst h;simp [cntF];omega
 | b :: l,i+1,h=>by simp at h;have:=qPr l i h;simp only [List.set_cons_succ,cntF];omega
theorem qMw:∀ (l:List Bool),cntF l=0→∀ i:Nat,l[i]?≠some false
 | [],_,i=>by simp
 | b :: l,h,i=>by
   simp only [cntF] at h
   cases b with
   | false=>simp at h
   | true=>
     cases i with
     | zero=>simp
     | succ i=>simpa using qMw l (by simpa using h) i
theorem qJW (n:Nat):cntF (List.replicate n false)=n:=by
 induction n with
 | zero=>rfl
 | succ n ih=>simp [List.replicate_succ,cntF,ih];omega
def Done (listed:Array Bool):Nat→Prop:=λi=>listed.getD i true=true
theorem qMQ {listed:Array Bool} {j:Nat} (h:listed.getD j true=false):Done (listed.setIfInBounds j true)=λi=>i=j∨Done listed i:=by
 funext i
 apply propext
 unfold Done
 by_cases e:j=i
 ·subst e
  have hlt:j < listed.size:=by
   rcases Nat.lt_or_ge j listed.size with h' | h'
   ·exact h'
   ·simp [Array.getElem?_eq_none h'] at h
  simp [hlt]
 ·rw [getD_set_ne true e]
  exact ⟨.inr,λh=>h.resolve_left (λk=>e k.symm)⟩
theorem undone {listed:Array Bool} {j:Nat} (h:listed.getD j true=false):listed.toList[j]?=some false:=by
 rcases Nat.lt_or_ge j listed.size with h' | h'
 ·simp [Array.getElem?_eq_getElem h'] at h
  simp [h',h]
 ·simp [Array.getElem?_eq_none h'] at h
theorem qHO {listed:Array Bool} {j:Nat} (h:listed.getD j false=true):Done listed j:=by
 unfold Done
 rcases Nat.lt_or_ge j listed.size with h' | h'
 ·simp [Array.getElem?_eq_getElem h'] at h ⊢;exact h
 ·simp [Array.getElem?_eq_none h'] at h
variable {ops : Array Oper} {Ts : Nat → Tmps} {Hs : Nat → AH} {vs : Nat → AV} {es : Nat → List (Nat × Bool)}
structure Inv (σ:Nat→Value) (base nt:Nat) (ops:Array Oper) (Ts:Nat→Tmps) (Hs:Nat→AH) (vs:Nat→AV) (es:Nat→List (Nat × Bool)) (ρ0:Ren) (w0:World) (d0:Act) (X:Nat→Prop) (T:Tmps) (H:AH) (ρ:Ren) (w:World) (a:Act):Prop where
 closed:Closed ops X
 blks:∀ id,H.blks.get id=cut Hs es X ops.size id
 tmps:∀ t,tget T t=cutT ops Ts vs X ops.size t
 lo:H.lo=(Hs 0).lo
 free:∀ j,j < ops.size→¬ X j→Free ρ (Hs j).next (Hs (j+1)).next
 ext:Ext ρ0 ρ (Hs 0).next (Hs ops.size).next
 wr:WR σ ρ base H w
 below:Below base w0 w
 rel:TRel σ ρ nt T a.tmps
 defers:a.defers=d0.defers
theorem qU1 (hc:qFf P ih) (hr:qDa P ih) (hname:qDn P) (hfr:∀ t,Fr (ih t)) (hσ:One σ) (tr:Trace P ih nt ops Ts Hs vs es) {r:Option Nat} {Q:Exit→Act→World→Prop} {K:Act→World→Prop}
  {ρ0 ρ:Ren} {w0 w:World} {d0 a:Act} {X:Nat→Prop} {T:Tmps} {H:AH} (hi:Inv σ base nt ops Ts Hs vs es ρ0 w0 d0 X T H ρ w a) {j:Nat} {o:Oper} (ho:ops[j]?=some o) (hj:¬ X j) (hready:∀ e∈o.after,Region.binds .any e=true→X e.on)
  (hK:∀ a' w' T' H' ρ',Inv σ base nt ops Ts Hs vs es ρ0 w0 d0 (λi=>i=j∨X i) T' H' ρ' w' a'→K a' w'):wpOpIn (FR r) 0 P ops Q j K a w:=by
 have hjlt:=(Array.getElem?_eq_some_iff.1 ho).1
 have hdid:=tr.did j o ho
 obtain ⟨H2',e2,d2,n2,g2⟩:=hdid.fr { H with next:=(Hs j).next } rfl (by show H.lo=_;rw [hi.lo,tr.lo_eq j (by omega)])
  (λid b hb=>by show H.blks.get id=_;rw [hi.blks,tr.blk_ready hi.closed ho hj hready hb])
 rw [← qTO (P:=P) (ih:=ih) (T:=T) (λt ht=>by rw [hi.tmps,tr.tmp_ready hi.closed ho hj hready ht])] at e2
 have hT':∃ T',setT nt T o.dst (vs j)=some T':=by
  have:=hdid.set
  cases hd:o.dst with
  | none=>exact ⟨T,rfl⟩
  | some d=>
    rw [hd] at this
    simp only [setT] at this ⊢
    obtain ⟨h1,_⟩:=qAS this
    rw [h1];exact ⟨_,rfl⟩
 obtain ⟨T',hT'⟩:=hT'
 unfold wpOpIn
 simp only [ho]
 refine qQE hc hr hname e2 hfr hi.rel hσ (hi.wr.log rfl rfl) (by rw [n2];exact hi.free j hjlt hj) ?_
 intro v' w' ρ' hp hv
 have hle:∀ i k,i≤k→k≤ops.size→(Hs i).next≤(Hs k).next:=λi k h1 h2=>by
  have:=tr.next_le (k - i) i (by omega)
  rwa [show i+(k - i)=k from by omega] at this
 refine hK _ w' T' H2' ρ' ⟨?_,?_,?_,?_,?_,?_,hp.wr,hi.below.trans hp.below,?_,?_⟩
 ·intro k p hp' hk e he hb
  rcases hk with rfl | hk
  ·rw [ho] at hp';cases hp';exact .inr (hready e he hb)
  ·exact .inr (hi.closed k p hp' hk e he hb)
 ·exact tr.blk_step hi.closed ho hj (H:=H) (λid=>hi.blks id) d2.same g2
 ·exact tr.tmp_step hi.closed ho hj hi.tmps hT'
 ·rw [d2.lo];exact hi.lo
 ·intro k hk hx
  have hkj:k≠j:=λe=>hx (.inl e)
  have hxk:¬ X k:=λh=>hx (.inr h)
  intro id h1 h2
  rw [hp.ext.out id ?_]
  ·exact hi.free k hk hxk id h1 h2
  ·show id < (Hs j).next∨H2'.next≤id
   rw [n2]
   rcases Nat.lt_or_ge k j with h | h
   ·have:=hle (k+1) j (by omega) (by omega);omega
   ·have:=hle (j+1) k (by omega) (by omega);omega
 ·refine ⟨hi.ext.le.trans hp.ext.le,λid hid=>?_⟩
  rw [hp.ext.out id ?_,hi.ext.out id hid]
  show id < (Hs j).next∨H2'.next≤id
  rw [n2]
  have:=hle 0 j (by omega) (by omega)
  have:=hle (j+1) ops.size (by omega) (by omega)
  omega
 ·exact qFU hT' (hi.rel.mono hp.ext.le) hv
 ·rw [qB4];exact hi.defers
theorem zAD3 (hc:qFf P ih) (hr:qDa P ih) (hname:qDn P) (hfr:∀ t,Fr (ih t)) (hσ:One σ) (tr:Trace P ih nt ops Ts Hs vs es) {r:Option Nat} {Q:Exit→Act→World→Prop}
  {ρ0:Ren} {w0:World} {d0:Act} (hQ:∀ a' w' ρ',Ext ρ0 ρ' (Hs 0).next (Hs ops.size).next→WR σ ρ' base (Hs ops.size) w'→Below base w0 w'→TRel σ ρ' nt (Ts ops.size) a'.tmps→a'.defers=d0.defers→Q .normal a' w') :
  ∀ (fuel:Nat) (listed:Array Bool) (T:Tmps) (H:AH) (ρ:Ren) (w:World) (a:Act),listed.size=ops.size→cntF listed.toList≤fuel→Inv σ base nt ops Ts Hs vs es ρ0 w0 d0 (Done listed) T H ρ w a→wpAnyIn (FR r) 0 P .any ops Q fuel listed a w:=by
 have fin:∀ (listed:Array Bool) (T:Tmps) (H:AH) (ρ:Ren) (w:World) (a:Act),(∀ i,i < ops.size→Done listed i)→Inv σ base nt ops Ts Hs vs es ρ0 w0 d0 (Done listed) T H ρ w a→Q .normal a w:=by
  intro listed T H ρ w a hall hi
  refine hQ a w ρ hi.ext (hi.wr.same (λid=>?_) ?_) hi.below (hi.rel.same λt=>?_) hi.defers
  ·rw [hi.blks,tr.blk_all hall id ops.size (Nat.le_refl _)]
  ·rw [hi.lo,tr.lo_eq _ (Nat.le_refl _)]
  ·rw [hi.tmps,tr.tmp_all hall t ops.size (Nat.le_refl _)]
 have ready:∀ (listed:Array Bool),listed.size=ops.size→Region.ready .any ops listed=[]→∀ i,i < ops.size→Done listed i:=by
  intro listed hs hnil i
  induction i using Nat.strongRecOn with
  | _ i ih2=>
    intro hi
    unfold Done
    cases hg:listed.getD i true with
    | true=>rfl
    | false=>
      exfalso
      have ho:ops[i]?=some ops[i]:=Array.getElem?_eq_getElem hi
      have:i∈Region.ready .any ops listed:=mem_ready.2 ⟨hg,_,ho,λe he hb=>by
       have hlt:=tr.back i _ ho e he hb
       have:=ih2 e.on hlt (by omega)
       unfold Done at this
       simp [Array.getElem?_eq_getElem (by omega:e.on < listed.size)] at this ⊢
       exact this⟩
      rw [hnil] at this;cases this
 intro fuel
 induction fuel with
 | zero=>
   intro listed T H ρ w a hs hcnt hi
   have hall:∀ i,i < ops.size→Done listed i:=by
    intro i _
    unfold Done
    cases hg:listed.getD i true with
    | true=>rfl
    | false=>exact absurd (undone hg) (qMw _ (by omega) i)
   refine ⟨?_,fin _ _ _ _ _ _ hall hi⟩
   cases hrd:Region.ready .any ops listed with
   | nil=>rfl
   | cons x xs=>
     exfalso
     have hx:x∈Region.ready .any ops listed:=by rw [hrd];simp
     obtain ⟨h1,o,ho,_⟩:=mem_ready.1 hx
     have:=hall x (Array.getElem?_eq_some_iff.1 ho).1
     unfold Done at this
     rw [h1] at this;cases this
 | succ fuel ih2=>
   intro listed T H ρ w a hs hcnt hi
   refine ⟨λhnil=>fin _ _ _ _ _ _ (ready listed hs hnil) hi,λj hj=>?_⟩
   obtain ⟨hjun,o,ho,hall⟩:=mem_ready.1 hj
   have hjx:¬ Done listed j:=by unfold Done;rw [hjun];simp
   refine qU1 hc hr hname hfr hσ tr hi ho hjx (λe he hb=>qHO (hall e he hb)) ?_
   intro a' w' T' H' ρ' hi'
   refine ih2 _ T' H' ρ' w' a' (by simp [hs]) ?_ (by rw [qMQ hjun];exact hi')
   have:=qPr _ _ (undone hjun)
   rw [Array.toList_setIfInBounds]
   omega
theorem qHn {l:List Oper} (h:qBp l=true):qIN l 0=true∧∀ o∈l,∀ c,o.op≠.defer c:=by
 simp only [qBp,Bool.and_eq_true] at h
 refine ⟨h.1,λo ho c e=>?_⟩
 have:=List.all_eq_true.1 h.2 o ho
 rw [e] at this;cases this
theorem zACj (hm:P.follows .mixedOrders=true) (hc:qFf P ih) (hr:qDa P ih) (hname:qDn P) (hfr:∀ t,Fr (ih t)) (hσ:One σ) {id:Nat} {r:Option Nat} {Q:Exit→Act→World→Prop} {T T':Tmps} {H H':AH} {ρ:Ren} {w:World} {a:Act}
  (hok:qBp ops.toList=true) (h:opsD P ih nt ops ops.toList (masks ops.toList []) [] T H=some (T',H')) (hT:TRel σ ρ nt T a.tmps) (hwr:WR σ ρ base H w) (hf:Free ρ H.next H'.next)
  (hQ:∀ a' w' ρ',Post σ ρ ρ' base H H' w w'→TRel σ ρ' nt T' a'.tmps→a'.defers=a.defers→Q .normal a' w'):(Code.region id ops true).wpIn (FR r) 0 P Q a w:=by
 have hback:=(qHn hok).1
 obtain ⟨Ts,Hs,vs,es,a1,a2,a3,a4,a5⟩:=trace hfr ops.toList _ [] 0 T H T' H' rfl h
 simp only [Nat.zero_add,Array.length_toList] at a3 a4 a5
 have a5':∀ j o,ops[j]?=some o→_:=λj o ho=>a5 j o (by rw [Array.getElem?_toList];exact ho)
 have tr:Trace P ih nt ops Ts Hs vs es:=by
  refine ⟨λj o ho=>(a5' j o ho).1,λj o ho e he hb=>?_,λi j p o hij hp ho=>?_⟩
  ·have:=qEC ops.toList 0 hback j o (by rw [Array.getElem?_toList];exact ho) e he hb
   omega
  ·obtain ⟨_,mk,h1,_,h3⟩:=a5' j o ho
   exact ⟨mk,h1,h3 i p hij (by rw [Array.getElem?_toList];exact hp)⟩
 subst a1 a2 a3 a4
 refine wpIn_region_any hm (zAD3 (base:=base) hc hr hname hfr hσ tr (ρ0:=ρ) (w0:=w) (d0:=a) ?_ ops.size _ (Ts 0) (Hs 0) ρ _ a (by simp) (by simp [qJW]) ?_)
 ·intro a' w' ρ' h1 h2 h3 h4 h5
  exact hQ a' w' ρ' ⟨h1,h2,h3⟩ h4 h5
 ·have hno:∀ i,i < ops.size→¬ Done (Array.replicate ops.size false) i:=by
   intro i hi
   unfold Done
   simp [hi]
  have hle:∀ i k,i≤k→k≤ops.size→(Hs i).next≤(Hs k).next:=λi k h1 h2=>by
   have:=tr.next_le (k - i) i (by omega)
   rwa [show i+(k - i)=k from by omega] at this
  refine ⟨?_,?_,?_,rfl,?_,.refl _ _ _,?_,?_,hT,rfl⟩
  ·intro j o ho hj
   exact absurd hj (hno j (Array.getElem?_eq_some_iff.1 ho).1)
  ·intro i
   have:∀ n,n≤ops.size→cut Hs es (Done (Array.replicate ops.size false)) n i=(Hs 0).blks.get i:=by
    intro n
    induction n with
    | zero=>intro _;rfl
    | succ n ih2=>intro hn;rw [qJJ (λk=>absurd k (hno n (by omega))),ih2 (by omega)]
   rw [this _ (Nat.le_refl _)]
  ·intro t
   have:∀ n,n≤ops.size→cutT ops Ts vs (Done (Array.replicate ops.size false)) n t=tget (Ts 0) t:=by
    intro n
    induction n with
    | zero=>intro _;rfl
    | succ n ih2=>intro hn;rw [qGS (λk=>absurd k (hno n (by omega))),ih2 (by omega)]
   rw [this _ (Nat.le_refl _)]
  ·intro j hj _ i h1 h2
   exact hf i (Nat.le_trans (hle 0 j (by omega) (by omega)) h1) (Nat.lt_of_lt_of_le h2 (hle (j+1) ops.size (by omega) (by omega)))
  ·obtain ⟨x1,x2,x3,x4⟩:=hwr
   exact ⟨x1,x2,x3,x4⟩
  ·exact ⟨rfl,rfl,rfl,Nat.le_refl _,λ_ _=>rfl⟩
end
end Go.AM
namespace Go.AM
open Go Go.RowKit
section
variable {P : Program} {σ : Nat → Value} {ρ : Ren} {base nt : Nat} {H H' : AH} {w : World} {T : Tmps}
theorem qPK {B:Nat} {o0:Obj} (o:Obj) (h:w.heap[B]?=some o0):Upd w B o (w.putObj B o):=
 ⟨rfl,rfl,rfl,by simp,World.putObj_heap_same (qId h),λ_ hk=>World.putObj_heap_other hk⟩
def DRel (σ:Nat→Value) (ρ:Ren):List Mk→List Deferred→Prop
 | [],ds=>ds=[]
 | .mark m :: ms,ds=>∃ L ds',ρ m=some L∧ds={ target:=.collected L.blk,args:=#[] } :: ds'∧DRel σ ρ ms ds'
 | .call k args :: ms,ds=>∃ (cs fs:Array Value) (ds':List Deferred),ds={ target:=.fn (.func k) cs,args:=fs } :: ds'∧RelL σ ρ args (fs ++ cs).toList∧DRel σ ρ ms ds'
theorem DRel.mono {ρ ρ':Ren} (h:Le ρ ρ'):∀ {ms:List Mk} {ds:List Deferred},DRel σ ρ ms ds→DRel σ ρ' ms ds
 | [],_,r=>r
 | .mark _ :: _,_,r=>by unfold DRel at r ⊢;obtain ⟨L,ds',h1,h2,h3⟩:=r;exact ⟨L,ds',h _ _ h1,h2,DRel.mono h h3⟩
 | .call _ _ :: _,_,r=>by unfold DRel at r ⊢;obtain ⟨cs,fs,ds',h1,h2,h3⟩:=r;exact ⟨cs,fs,ds',h1,RelL.mono h _ _ h2,DRel.mono h h3⟩
theorem DRel.append:∀ {ms ms':List Mk} {ds ds':List Deferred},DRel σ ρ ms ds→DRel σ ρ ms' ds'→DRel σ ρ (ms ++ ms') (ds ++ ds')
 | [],_,_,_,h,k=>by unfold DRel at h;subst h;exact k
 | .mark m :: ms,_,_,_,h,k=>by
   unfold DRel at h
   obtain ⟨L,es,h1,rfl,h3⟩:=h
   show DRel σ ρ (.mark m :: (ms ++ _)) _
   unfold DRel
   exact ⟨L,es ++ _,h1,rfl,DRel.append h3 k⟩
 | .call f as' :: ms,_,_,_,h,k=>by
   unfold DRel at h
   obtain ⟨cs,fs,es,rfl,h2,h3⟩:=h
   show DRel σ ρ (.call f as' :: (ms ++ _)) _
   unfold DRel
   exact ⟨cs,fs,es ++ _,rfl,h2,DRel.append h3 k⟩
theorem qG1 {tm:Array Value} (hT:TRel σ ρ nt T tm) (hwr:WR σ ρ base H w):∀ (rs:List ResultVar) (H1 H':AH) (vs:List AV),H1.blks=H.blks→H1.lo=H.lo→qBB P T rs H1=some (vs,H')→
  H'.blks=H.blks∧H'.lo=H.lo∧H'.next=H1.next∧∃ vs',(rs.mapM λr=>(match r with
   | .tmp t=>pure (tm.getD t undef)
   | .cell a t=>do loadVar t (← asAddr (tm.getD a undef)):Sem Value)).run P w=.ok vs' w∧RelL σ ρ vs vs'
 | [],H1,H',vs,e1,e2,h=>by
   cases qAG h
   exact ⟨e1,e2,rfl,[],by simp,.nil⟩
 | .tmp t :: rs,H1,H',vs,e1,e2,h=>by
   obtain ⟨us,K,h1,h2⟩:=qAN h
   cases qAG h2
   obtain ⟨a1,a2,a3,vs',a4,a5⟩:=qG1 hT hwr rs H1 _ us e1 e2 h1
   refine ⟨a1,a2,a3,tm.getD t undef :: vs',by simp only [List.mapM_cons,Sem.run_bind,Sem.run_pure,Result.andThen_ok,a4],.cons ?_ a5⟩
   have:=hT.at_ t
   unfold tget at this
   cases hg:T.get t with
   | none=>rw [hg] at this;exact this
   | some v=>rw [hg] at this;exact this
 | .cell x t :: rs,H1,H',vs,e1,e2,h=>by
   unfold qBB at h
   have hx:=hT.at_ x
   unfold tget at hx
   cases hg:T.get x with
   | none=>simp only [hg] at h;exact (qAB h).elim
   | some y=>
     rw [hg] at hx
     simp only [Option.getD_some] at hx
     cases y with
     | ptr b o=>
       simp only [hg] at h
       unfold Rel at hx
       obtain ⟨L,hL,hx⟩:=hx
       obtain ⟨v,K,h1,h2⟩:=qAN h
       obtain ⟨us,K2,h3,h4⟩:=qAN h2
       cases qAG h4
       obtain ⟨b1,b2,b3,v',b4,b5⟩:=qMO (P:=P) h1 (hwr.log (K:=H1) e1 e2) hL
       obtain ⟨a1,a2,a3,vs',a4,a5⟩:=qG1 hT hwr rs K _ us (b1.trans e1) (b2.trans e2) h3
       refine ⟨a1,a2,a3.trans b3,v' :: vs',?_,.cons b5 a5⟩
       have ea:(asAddr (tm.getD x undef)).run P w=.ok ⟨L.blk,L.sh+o,none⟩ w:=by rw [hx];rfl
       simp only [List.mapM_cons,Sem.run_bind,ea,Sem.run_pure,Result.andThen_ok,b4,a4]
     | _=>simp only [hg] at h;exact (qAB h).elim
theorem qQp {vs:List AV} {vs':List Value} (h:RelL σ ρ vs vs'):Rel σ ρ (oneV vs) (if h:vs'.toArray.size=1 then vs'.toArray[0] else .tuple vs'.toArray):=by
 match vs,h with
 | [],h=>unfold RelL at h;subst h;show Rel σ ρ (.tup []) _;unfold Rel;exact ⟨#[],rfl,.nil⟩
 | [x],h=>
   unfold RelL at h
   obtain ⟨y,ys,rfl,h1,h2⟩:=h
   unfold RelL at h2;subst h2
   exact h1
 | x :: x2 :: xs,h=>
   have hl:=h.length
   rw [dif_neg (by simp at hl ⊢;omega)]
   show Rel σ ρ (.tup (x :: x2 :: xs)) _
   unfold Rel
   exact ⟨_,rfl,h⟩
theorem qKI:∀ (ps:List Tmp) (args:List AV) (vs:List Value) (T T':Tmps) (tm:Array Value),qFb nt T ps args=some T'→TRel σ ρ nt T tm→RelL σ ρ args vs→TRel σ ρ nt T' ((ps.zip vs).foldl (λtmps (x:Tmp × Value)=>tmps.setIfInBounds x.1 x.2) tm)
 | [],[],vs,T,T',tm,h,hT,_=>by cases h;exact hT
 | [],_ :: _,_,_,_,_,h,_,_=>by cases h
 | _ :: _,[],_,_,_,_,h,_,_=>by cases h
 | p :: ps,x :: xs,vs,T,T',tm,h,hT,hr=>by
   unfold RelL at hr
   obtain ⟨y,ys,rfl,h1,h2⟩:=hr
   simp only [qFb] at h
   obtain ⟨hp,h⟩:=qAS h
   have:=qFU (nt:=nt) (a:={ tmps:=tm,defers:=[] }) (dst:=some p) (v:=x) (v':=y) (T':=T.put p (some x)) (by simp [setT,hp]) hT h1
   exact qKI ps xs ys _ T' _ h this h2
theorem qDI {args:List AV} {args':Array Value} (hr:RelL σ ρ args args'.toList) (hn:args.length≤nt):TRel σ ρ nt (Tr.ofListAt .nil 0 args) (args' ++ Array.replicate (nt - args'.size) undef):=by
 have hl:args'.size=args.length:=by simpa using hr.length
 refine ⟨by simp;omega,λi=>?_⟩
 unfold tget
 rw [Tr.get_ofListAt,Tr.get_nil]
 by_cases hi:i < args.length
 ·rw [if_pos ⟨by omega,by omega⟩]
  have hx:args[i - 0]?=some args[i]:=by simp [hi]
  obtain ⟨y,hy,hr⟩:=hr.get i args[i] (by simp [hi])
  have hi':i < args'.size:=by omega
  rw [hx]
  simp only [Option.getD_some]
  have:(args' ++ Array.replicate (nt - args'.size) undef).getD i undef=y:=by
   rw [Array.getD_eq_getD_getElem?,Array.getElem?_append_left hi',← Array.getElem?_toList,hy];rfl
  rw [this];exact hr
 ·rw [if_neg (by omega)]
  have:(args' ++ Array.replicate (nt - args'.size) undef).getD i undef=undef:=by
   rw [Array.getD_eq_getD_getElem?,Array.getElem?_append_right (by omega)]
   rw [Array.getElem?_replicate]
   split <;> rfl
  rw [this];exact qKh
end
end Go.AM
namespace Go.AM
open Go Go.RowKit
section
variable {P : Program} {σ : Nat → Value} {ρ : Ren} {base nt : Nat} {H H' : AH} {w : World} {T : Tmps} {a : Act} {ih : Task → M Out} {n : Nat}
def qRT:AExit→Exit
 | .nrm=>.normal
 | .exit id=>.exit id
 | .ret=>.ret
def RR (ρ:Ren):Option Nat→Option Nat→Prop
 | none,r=>r=none
 | some l,r=>∃ L,ρ l=some L∧r=some L.blk
theorem RR.mono {ρ ρ':Ren} {x r:Option Nat} (h:RR ρ x r) (hl:Le ρ ρ'):RR ρ' x r:=by
 cases x with
 | none=>exact h
 | some l=>obtain ⟨L,h1,h2⟩:=h;exact ⟨L,hl _ _ h1,h2⟩
def ACode (r:Option Nat) (n:Nat) (P:Program) (c:Code) (Q:Exit→Act→World→Prop) (a:Act) (w:World):Prop:=
 match c with
 | .loop b=>Code.roundsIn (FR r) 0 P b Q (match qBM b with | some _=>1000 | none=>n) a w
 | c=>c.wpIn (FR r) 0 P Q a w
theorem ACode.wp {r:Option Nat} {c:Code} {Q:Exit→Act→World→Prop} (h:ACode r n P c Q a w):c.wpIn (FR r) 0 P Q a w:=by
 cases c <;> first | exact wpIn_loop_rounds _ h | exact h
structure CodePost (σ:Nat→Value) (ρ:Ren) (base nt:Nat) (H H':AH) (w:World) (T':Tmps) (ms':List Mk) (ρ':Ren) (a':Act) (w':World):Prop where
 post:Post σ ρ ρ' base H H' w w'
 tmps:TRel σ ρ' nt T' a'.tmps
 defers:DRel σ ρ' ms' a'.defers
def qDq (P:Program) (n:Nat) (ih:Task→M Out):Prop:=∀ (nt:Nat) (rA:Option Nat) (c:Code) (T:Tmps) (ms:List Mk) (H:AH) (o:Out) (H':AH),ih (.code nt rA c T ms) H=some (o,H')→
 ∃ e T' ms',o=.exit e T' ms'∧∀ (σ:Nat→Value) (ρ:Ren) (base:Nat) (w:World) (a:Act) (r:Option Nat) (Q:Exit→Act→World→Prop),One σ→WR σ ρ base H w→Free ρ H.next H'.next→TRel σ ρ nt T a.tmps→RR ρ rA r→DRel σ ρ ms a.defers→
  (∀ a' w' ρ',CodePost σ ρ base nt H H' w T' ms' ρ' a' w'→Q (qRT e) a' w')→ACode r n P c Q a w
def Goal (P:Program) (n nt:Nat) (rA:Option Nat) (c:Code) (T:Tmps) (ms:List Mk) (H:AH) (o:Out) (H':AH):Prop:=
 ∃ e T' ms',o=.exit e T' ms'∧∀ (σ:Nat→Value) (ρ:Ren) (base:Nat) (w:World) (a:Act) (r:Option Nat) (Q:Exit→Act→World→Prop),One σ→WR σ ρ base H w→Free ρ H.next H'.next→TRel σ ρ nt T a.tmps→RR ρ rA r→DRel σ ρ ms a.defers→
  (∀ a' w' ρ',CodePost σ ρ base nt H H' w T' ms' ρ' a' w'→Q (qRT e) a' w')→ACode r n P c Q a w
theorem CodePost.stay {ms:List Mk} (hwr:WR σ ρ base H w) (hT:TRel σ ρ nt T a.tmps) (hd:DRel σ ρ ms a.defers):CodePost σ ρ base nt H H w T ms ρ a w:=
 ⟨⟨.refl _ _ _,hwr,.refl _ _⟩,hT,hd⟩
theorem qGO {t:Task} (hfr:∀ t,Fr (ih t)) {o:Out} (h:ih t H=some (o,H')):H.next≤H'.next:=by obtain ⟨es,d,_⟩:=hfr t H o H' h;exact d.next
theorem CodePost.trans {ρ1 ρ2:Ren} {K:AH} {T1 T2:Tmps} {ms1 ms2:List Mk} {a1 a2:Act} {w1 w2:World} (h:CodePost σ ρ base nt H K w T1 ms1 ρ1 a1 w1) (k:CodePost σ ρ1 base nt K H' w1 T2 ms2 ρ2 a2 w2)
  (m1:H.next≤K.next) (m2:K.next≤H'.next):CodePost σ ρ base nt H H' w T2 ms2 ρ2 a2 w2:=
 ⟨⟨h.post.ext.trans k.post.ext m1 m2,k.post.wr,h.post.below.trans k.post.below⟩,k.tmps,k.defers⟩
theorem qRP:∀ {k k':IntKind},qBH k k'=true→k=k':=by
 intro k k' h;cases k <;> cases k' <;> first | rfl | (cases h;done)
theorem zADF {f f':Fn} (h:eqFn f f'=true):f=f':=by
 unfold eqFn at h
 split at h
 ·rw [Nat.eq_of_beq_eq_true h]
 ·exact of_decide_eq_true h
mutual
theorem qNK:∀ {a b:AV},eqA a b=true→a=b
 | .bool a,b,h=>by
   cases b <;> unfold eqA at h <;> first | (cases h;done) | (have:=of_decide_eq_true (p:=_=_) (by simpa using h);simp_all)
 | .int k a,b,h=>by
   cases b <;> unfold eqA at h <;> first | (cases h;done) | (simp only [Bool.and_eq_true,qDp,beq_iff_eq] at h;obtain ⟨h1,rfl⟩:=h;rw [qRP h1])
 | .str s,b,h=>by
   cases b <;> unfold eqA at h <;> first | (cases h;done) | (rw [of_decide_eq_true h])
 | .ptr x o,b,h=>by
   cases b <;> unfold eqA at h <;> first | (cases h;done) | (simp only [Bool.and_eq_true] at h;rw [Nat.eq_of_beq_eq_true h.1,Nat.eq_of_beq_eq_true h.2])
 | .nilptr,b,h=>by cases b <;> unfold eqA at h <;> first | rfl | (cases h;done)
 | .slc x o l c e,b,h=>by
   cases b <;> unfold eqA at h <;> first | (cases h;done) | skip
   rename_i x' o' l' c' e'
   simp only [Bool.and_eq_true] at h
   obtain ⟨h1,h2,h3,h4,h5⟩:=h
   rw [Nat.eq_of_beq_eq_true h1,Nat.eq_of_beq_eq_true h2,Nat.eq_of_beq_eq_true h3,Nat.eq_of_beq_eq_true h5]
   cases c <;> cases c' <;> first | rfl | (cases h4;done) | (rw [Nat.eq_of_beq_eq_true h4])
 | .nilslc,b,h=>by cases b <;> unfold eqA at h <;> first | rfl | (cases h;done)
 | .map x,b,h=>by
   cases b <;> unfold eqA at h <;> first | (cases h;done) | (rw [Nat.eq_of_beq_eq_true h])
 | .nilmap,b,h=>by cases b <;> unfold eqA at h <;> first | rfl | (cases h;done)
 | .fn f a c,b,h=>by
   cases b <;> unfold eqA at h <;> first | (cases h;done) | skip
   simp only [Bool.and_eq_true] at h
   obtain ⟨h1,h2,h3⟩:=h
   rw [zADF h1,qKp h2,qKp h3]
 | .yield x,b,h=>by
   cases b <;> unfold eqA at h <;> first | (cases h;done) | (rw [Nat.eq_of_beq_eq_true h])
 | .nilFunc,b,h=>by cases b <;> unfold eqA at h <;> first | rfl | (cases h;done)
 | .ifc t v,b,h=>by
   cases b <;> unfold eqA at h <;> first | (cases h;done) | (simp only [Bool.and_eq_true] at h;rw [Nat.eq_of_beq_eq_true h.1,qNK h.2])
 | .nilIface,b,h=>by cases b <;> unfold eqA at h <;> first | rfl | (cases h;done)
 | .agg l,b,h=>by
   cases b <;> unfold eqA at h <;> first | (cases h;done) | (rw [qKp h])
 | .tup l,b,h=>by
   cases b <;> unfold eqA at h <;> first | (cases h;done) | (rw [qKp h])
 | .opq i,b,h=>by
   cases b <;> unfold eqA at h <;> first | (cases h;done) | (rw [Nat.eq_of_beq_eq_true h])
theorem qKp:∀ {a b:List AV},eqAs a b=true→a=b
 | [],b,h=>by cases b <;> unfold eqAs at h <;> first | rfl | (cases h;done)
 | x :: xs,b,h=>by
   cases b <;> unfold eqAs at h <;> first | (cases h;done) | (simp only [Bool.and_eq_true] at h;rw [qNK h.1,qKp h.2])
end
theorem qBS (hσ:One σ) {a b c:AV} (h:cond (eqA a b) (some a) (cond (a.one&&b.one) (some (.opq 0)) none)=some c) {v:Value}:(Rel σ ρ a v→Rel σ ρ c v)∧(Rel σ ρ b v→Rel σ ρ c v):=by
 cases he:eqA a b with
 | true=>
   rw [he] at h
   cases h
   rw [qNK he]
   exact ⟨id,id⟩
 | false=>
   rw [he] at h
   cases ho:a.one&&b.one with
   | false=>rw [ho] at h;cases h
   | true=>
     rw [ho] at h
     cases h
     simp only [Bool.and_eq_true] at ho
     refine ⟨λh=>?_,λh=>?_⟩
     ·have:=qJw hσ h ho.1;unfold Rel;exact this
     ·have:=qJw hσ h ho.2;unfold Rel;exact this
mutual
theorem qKD (hσ:One σ):∀ (a b c:AV),qBb a b=some c→∀ v,(Rel σ ρ a v→Rel σ ρ c v)∧(Rel σ ρ b v→Rel σ ρ c v)
 | .agg l,b,c,h,v=>by
   cases b
   case agg l'=>
    unfold qBb at h
    cases hj:qEx l l' with
    | none=>rw [hj] at h;cases h
    | some l2=>
      rw [hj] at h
      cases h
      have:=qK1 hσ l l' l2 hj
      refine ⟨λh=>?_,λh=>?_⟩
      ·unfold Rel at h ⊢;obtain ⟨cs,h1,h2⟩:=h;exact ⟨cs,h1,(this _).1 h2⟩
      ·unfold Rel at h ⊢;obtain ⟨cs,h1,h2⟩:=h;exact ⟨cs,h1,(this _).2 h2⟩
   all_goals (unfold qBb at h;exact qBS hσ h)
 | .tup l,b,c,h,v=>by
   cases b
   case tup l'=>
    unfold qBb at h
    cases hj:qEx l l' with
    | none=>rw [hj] at h;cases h
    | some l2=>
      rw [hj] at h
      cases h
      have:=qK1 hσ l l' l2 hj
      refine ⟨λh=>?_,λh=>?_⟩
      ·unfold Rel at h ⊢;obtain ⟨cs,h1,h2⟩:=h;exact ⟨cs,h1,(this _).1 h2⟩
      ·unfold Rel at h ⊢;obtain ⟨cs,h1,h2⟩:=h;exact ⟨cs,h1,(this _).2 h2⟩
   all_goals (unfold qBb at h;exact qBS hσ h)
 | .bool _,b,c,h,v=>by unfold qBb at h;exact qBS hσ h
 | .int _ _,b,c,h,v=>by unfold qBb at h;exact qBS hσ h
 | .str _,b,c,h,v=>by unfold qBb at h;exact qBS hσ h
 | .ptr _ _,b,c,h,v=>by unfold qBb at h;exact qBS hσ h
 | .nilptr,b,c,h,v=>by unfold qBb at h;exact qBS hσ h
 | .slc _ _ _ _ _,b,c,h,v=>by unfold qBb at h;exact qBS hσ h
 | .nilslc,b,c,h,v=>by unfold qBb at h;exact qBS hσ h
 | .map _,b,c,h,v=>by unfold qBb at h;exact qBS hσ h
 | .nilmap,b,c,h,v=>by unfold qBb at h;exact qBS hσ h
 | .fn _ _ _,b,c,h,v=>by unfold qBb at h;exact qBS hσ h
 | .yield _,b,c,h,v=>by unfold qBb at h;exact qBS hσ h
 | .nilFunc,b,c,h,v=>by unfold qBb at h;exact qBS hσ h
 | .ifc _ _,b,c,h,v=>by unfold qBb at h;exact qBS hσ h
 | .nilIface,b,c,h,v=>by unfold qBb at h;exact qBS hσ h
 | .opq _,b,c,h,v=>by unfold qBb at h;exact qBS hσ h
theorem qK1 (hσ:One σ):∀ (a b c:List AV),qEx a b=some c→∀ l,(RelL σ ρ a l→RelL σ ρ c l)∧(RelL σ ρ b l→RelL σ ρ c l)
 | [],b,c,h,l=>by
   cases b <;> unfold qEx at h
   ·cases h;exact ⟨id,id⟩
   ·cases h
 | x :: xs,b,c,h,l=>by
   cases b with
   | nil=>unfold qEx at h;cases h
   | cons y ys=>
     unfold qEx at h
     cases h1:qBb x y with
     | none=>rw [h1] at h;cases h
     | some z=>
       cases h2:qEx xs ys with
       | none=>rw [h1,h2] at h;cases h
       | some zs=>
         rw [h1,h2] at h
         cases h
         have a1:=qKD hσ x y z h1
         have a2:=qK1 hσ xs ys zs h2
         refine ⟨λh=>?_,λh=>?_⟩
         ·unfold RelL at h ⊢;obtain ⟨u,us,e,r1,r2⟩:=h;exact ⟨u,us,e,(a1 _).1 r1,(a2 _).1 r2⟩
         ·unfold RelL at h ⊢;obtain ⟨u,us,e,r1,r2⟩:=h;exact ⟨u,us,e,(a1 _).2 r1,(a2 _).2 r2⟩
end
def oval (o:Option AV):AV:=o.getD .undef
theorem qRO (hσ:One σ) {a b c:Option AV} (h:qNH a b=some c) (v:Value):(Rel σ ρ (oval a) v→Rel σ ρ (oval c) v)∧(Rel σ ρ (oval b) v→Rel σ ρ (oval c) v):=by
 unfold qNH at h
 split at h
 ·cases h;exact ⟨id,id⟩
 ·unfold oval
  cases hj:qBb (a.getD .undef) (b.getD .undef) with
  | none=>rw [hj] at h;cases h
  | some c'=>rw [hj] at h;cases h;exact qKD hσ _ _ c' hj v
theorem qM3:∀ (T' U:Tmps),qTg T'=some U→∀ i,qNH none (T'.get i)=some (U.get i)
 | .nil,U,h,i=>by cases h;rw [Tr.get_nil];rfl
 | .node v l r,U,h,i=>by
   unfold qTg at h
   split at h
   ·rename_i v2 l2 r2 h1 h2 h3
    cases h
    cases i with
    | zero=>exact h1
    | succ i=>
      cases hb:Nat.beq (i % 2) 0 with
      | true=>simp only [Tr.get,hb,cond_true];exact qM3 l l2 h2 _
      | false=>simp only [Tr.get,hb,cond_false];exact qM3 r r2 h3 _
   ·cases h
theorem qNN:∀ (T U:Tmps),qTs T=some U→∀ i,qNH (T.get i) none=some (U.get i)
 | .nil,U,h,i=>by cases h;rw [Tr.get_nil];rfl
 | .node v l r,U,h,i=>by
   unfold qTs at h
   split at h
   ·rename_i v2 l2 r2 h1 h2 h3
    cases h
    cases i with
    | zero=>exact h1
    | succ i=>
      cases hb:Nat.beq (i % 2) 0 with
      | true=>simp only [Tr.get,hb,cond_true];exact qNN l l2 h2 _
      | false=>simp only [Tr.get,hb,cond_false];exact qNN r r2 h3 _
   ·cases h
theorem qN4:∀ (T T' U:Tmps),qOd T T'=some U→∀ i,qNH (T.get i) (T'.get i)=some (U.get i)
 | .nil,T',U,h,i=>by
   rw [Tr.get_nil]
   exact qM3 T' U (by cases T' <;> exact h) i
 | .node v l r,T',U,h,i=>by
   cases T' with
   | nil=>rw [Tr.get_nil];exact qNN _ U h i
   | node v' l' r'=>
     unfold qOd at h
     split at h
     ·rename_i v2 l2 r2 h1 h2 h3
      cases h
      cases i with
      | zero=>exact h1
      | succ i=>
        cases hb:Nat.beq (i % 2) 0 with
        | true=>simp only [Tr.get,hb,cond_true];exact qN4 l l' l2 h2 _
        | false=>simp only [Tr.get,hb,cond_false];exact qN4 r r' r2 h3 _
     ·cases h
theorem qKF:∀ (T T':Tmps) (i:Nat) (x:AV),(qUT T T').get i=some x→∃ a b,T.get i=some a∧T'.get i=some b∧a.one=true∧b.one=true∧qBb a b=some x
 | .nil,T',i,x,h=>by unfold qUT at h;rw [Tr.get_nil] at h;cases h
 | .node v l r,.nil,i,x,h=>by unfold qUT at h;rw [Tr.get_nil] at h;cases h
 | .node v l r,.node v' l' r',i,x,h=>by
   unfold qUT at h
   cases i with
   | zero=>
     simp only [Tr.get] at h ⊢
     unfold zADV at h
     split at h
     ·rename_i a b
      cases ho:a.one&&b.one with
      | false=>rw [ho] at h;cases h
      | true=>rw [ho] at h;simp only [Bool.and_eq_true] at ho;exact ⟨a,b,rfl,rfl,ho.1,ho.2,h⟩
     ·cases h
   | succ i=>
     cases hb:Nat.beq (i % 2) 0 with
     | true=>simp only [Tr.get,hb,cond_true] at h ⊢;exact qKF l l' _ x h
     | false=>simp only [Tr.get,hb,cond_false] at h ⊢;exact qKF r r' _ x h
theorem qUV:∀ {a b:List AEnt},eqEs a b=true→a=b
 | [],b,h=>by cases b <;> unfold eqEs at h <;> first | rfl | (cases h;done)
 | e :: es,b,h=>by
   cases b with
   | nil=>unfold eqEs at h;cases h
   | cons e' es'=>
     unfold eqEs at h
     simp only [Bool.and_eq_true] at h
     obtain ⟨h1,h2,h3,h4⟩:=h
     rw [qUV h4]
     cases e;cases e'
     simp only at h1 h2 h3
     rw [qNK h1,qNK h2,Nat.eq_of_beq_eq_true h3]
theorem qSw (hσ:One σ) {own:Prop} {L:Loc} {a b c:ABlk} {o:Option Obj} (h:zACq a b=some c):(BR σ ρ own L a o→BR σ ρ own L c o)∧(BR σ ρ own L b o→BR σ ρ own L c o):=by
 unfold zACq at h
 split at h
 ·rename_i e u n e' u' n'
  obtain ⟨h1,h2⟩:=qAS h
  cases h2
  simp only [Bool.and_eq_true] at h1
  have e1:=Nat.eq_of_beq_eq_true h1.1
  have e2:=Nat.eq_of_beq_eq_true h1.2
  subst e1;subst e2
  refine ⟨λ⟨cc,fr,q1,q2,q3,q4,q5⟩=>⟨cc,fr,q1,q2,q3,q4,λi v hv=>?_⟩,λ⟨cc,fr,q1,q2,q3,q4,q5⟩=>⟨cc,fr,q1,q2,q3,q4,λi v hv=>?_⟩⟩
  ·obtain ⟨x,y,hx,hy,o1,o2,hj⟩:=qKF _ _ i v hv
   obtain ⟨v',r1,r2,r3⟩:=q5 i x hx
   exact ⟨v',r1,(qKD hσ x y v hj v').1 r2,r3⟩
  ·obtain ⟨x,y,hx,hy,o1,o2,hj⟩:=qKF _ _ i v hv
   obtain ⟨v',r1,r2,r3⟩:=q5 i y hy
   exact ⟨v',r1,(qKD hσ x y v hj v').2 r2,r3⟩
 ·obtain ⟨h1,h2⟩:=qAS h
  cases h2
  simp only [Bool.and_eq_true] at h1
  rw [qUV h1.1,Nat.eq_of_beq_eq_true h1.2]
  exact ⟨id,id⟩
 ·rename_i x y
  obtain ⟨h1,h2⟩:=qAS h
  cases h2
  have:x=y:=by simpa using h1
  rw [this]
  exact ⟨id,id⟩
 ·cases h
theorem qO3 (hσ:One σ) {own:Prop} {L:Loc} (id:Nat):∀ (Ks:List AH) (b c:ABlk),qLg id b Ks=some c→(∀ o,BR σ ρ own L b o→BR σ ρ own L c o)∧∀ K∈Ks,∃ b',K.blks.get id=some b'∧∀ o,BR σ ρ own L b' o→BR σ ρ own L c o
 | [],b,c,h=>by cases h;exact ⟨λ_ h=>h,by simp⟩
 | K :: Ks,b,c,h=>by
   unfold qLg at h
   split at h
   ·rename_i b' hb'
    split at h
    ·rename_i b2 hb2
     obtain ⟨h1,h2⟩:=qO3 hσ id Ks b2 c h
     refine ⟨λo r=>h1 o ((qSw hσ hb2).1 r),λJ hJ=>?_⟩
     rcases List.mem_cons.1 hJ with rfl | hJ
     ·exact ⟨b',hb',λo r=>h1 o ((qSw hσ hb2).2 r)⟩
     ·exact h2 J hJ
    ·cases h
   ·cases h
theorem qWO (hσ:One σ) {own:Prop} {L:Loc} {K:AH} {Ks:List AH} {id:Nat} {c:ABlk} (h:qKL K Ks id=some c):∀ J∈K :: Ks,∃ b',J.blks.get id=some b'∧∀ o,BR σ ρ own L b' o→BR σ ρ own L c o:=by
 unfold qKL at h
 split at h
 ·rename_i b hb
  obtain ⟨h1,h2⟩:=qO3 hσ id Ks b c h
  intro J hJ
  rcases List.mem_cons.1 hJ with rfl | hJ
  ·exact ⟨b,hb,h1⟩
  ·exact h2 J hJ
 ·cases h
theorem zADb {e e':AExit} (h:eqE e e'=true):e=e':=by
 cases e <;> cases e' <;> first | rfl | (cases h;done) | (unfold eqE at h;rw [Nat.eq_of_beq_eq_true h])
theorem qTJ:∀ {a b:List Mk},eqMs a b=true→a=b
 | [],b,h=>by cases b <;> unfold eqMs at h <;> first | rfl | (cases h;done)
 | .mark x :: xs,b,h=>by
   cases b with
   | nil=>unfold eqMs at h;cases h
   | cons y ys=>
     cases y with
     | mark y=>unfold eqMs at h;simp only [Bool.and_eq_true] at h;rw [Nat.eq_of_beq_eq_true h.1,qTJ h.2]
     | call k a=>unfold eqMs at h;cases h
 | .call x u :: xs,b,h=>by
   cases b with
   | nil=>unfold eqMs at h;cases h
   | cons y ys=>
     cases y with
     | mark y=>unfold eqMs at h;cases h
     | call k a=>unfold eqMs at h;simp only [Bool.and_eq_true] at h;rw [Nat.eq_of_beq_eq_true h.1,qKp h.2.1,qTJ h.2.2]
theorem qRJ (hσ:One σ) {T T' U:Tmps} {tm:Array Value} (h:qOd T T'=some U):(TRel σ ρ nt T tm→TRel σ ρ nt U tm)∧(TRel σ ρ nt T' tm→TRel σ ρ nt U tm):=by
 have k:=qN4 T T' U h
 refine ⟨λr=>⟨r.size,λi=>?_⟩,λr=>⟨r.size,λi=>?_⟩⟩
 ·exact (qRO hσ (k i) _).1 (r.at_ i)
 ·exact (qRO hσ (k i) _).2 (r.at_ i)
theorem qID (hσ:One σ) {e:AExit} {ms:List Mk} {tm:Array Value}:∀ (r:List (Out × AH)) (T U:Tmps),qCd e ms T r=some U→(TRel σ ρ nt T tm→TRel σ ρ nt U tm)∧∀ p∈r,∃ T',p.1=.exit e T' ms∧(TRel σ ρ nt T' tm→TRel σ ρ nt U tm)
 | [],T,U,h=>by cases h;exact ⟨id,by simp⟩
 | (.val v,K) :: r,T,U,h=>by unfold qCd at h;cases h
 | (.exit e' T' ms',K) :: r,T,U,h=>by
   unfold qCd at h
   obtain ⟨h1,h2⟩:=qAS h
   simp only [Bool.and_eq_true] at h1
   have e1:=zADb h1.1
   have e2:=qTJ h1.2
   subst e1;subst e2
   split at h2
   ·rename_i T2 hT2
    obtain ⟨k1,k2⟩:=qID hσ r T2 U h2
    refine ⟨λr=>k1 ((qRJ hσ hT2).1 r),λp hp=>?_⟩
    rcases List.mem_cons.1 hp with rfl | hp
    ·exact ⟨T',rfl,λr=>k1 ((qRJ hσ hT2).2 r)⟩
    ·exact k2 p hp
   ·cases h2
theorem qSZ (hσ:One σ) {m:N Out} (hm:FrN m) {L:List (Out × AH)} {o:Out} (h1:m { H with log:=[] }=some L) (h:qCh H L=some (o,H')) :
  (∀ p∈L,p.2.next≤H'.next)∧∀ p∈L,∀ e T ms,p.1=.exit e T ms→∃ T',o=.exit e T' ms∧
   ∀ a' w' ρ',CodePost σ ρ base nt { H with log:=[] } p.2 w T ms ρ' a' w'→CodePost σ ρ base nt H H' w T' ms ρ' a' w':=by
 obtain ⟨a1,a2,a3⟩:=hm _ L h1
 have hdoes:∀ p∈L,Does p.2.log { H with log:=[] } p.2:=by
  intro p hp
  obtain ⟨es,d⟩:=a2 p hp
  have:p.2.log=es:=by simpa using d.log
  rw [this];exact d
 match L,h,hdoes with
 | [],h,_=>cases h
 | [(o1,K)],h,hdoes=>
   simp only [qCh,Option.some.injEq,Prod.mk.injEq] at h
   obtain ⟨rfl,rfl⟩:=h
   refine ⟨λp hp=>by simp only [List.mem_singleton] at hp;subst hp;exact Nat.le_refl _,λp hp e T ms he=>?_⟩
   simp only [List.mem_singleton] at hp
   subst hp
   exact ⟨T,he,λa' w' ρ' k=>⟨⟨k.post.ext,k.post.wr.log rfl rfl,k.post.below⟩,k.tmps,k.defers⟩⟩
 | (o1,K) :: p :: r,h,hdoes=>
   cases o1 with
   | val v=>simp [qCh] at h
   | exit e T ms=>
     unfold qCh at h
     simp only at h
     cases hj:qCd e ms T (p :: r) with
     | none=>simp [hj] at h
     | some T1=>
       simp only [hj,Option.some.injEq,Prod.mk.injEq] at h
       obtain ⟨rfl,rfl⟩:=h
       have hd:∀ J∈K :: (p :: r).map (·.2),Does J.log { H with log:=[] } J:=by
        intro J hJ
        rcases List.mem_cons.1 hJ with rfl | hJ
        ·exact hdoes (.exit e T ms,J) (by simp)
        ·obtain ⟨q,hq,rfl⟩:=List.mem_map.1 hJ
         exact hdoes q (List.mem_cons_of_mem _ hq)
       have hin:∀ q∈((Out.exit e T ms,K) :: p :: r),q.2∈K :: (p :: r).map (·.2):=by
        intro q hq
        rcases List.mem_cons.1 hq with rfl | hq
        ·simp
        ·exact List.mem_cons_of_mem _ (List.mem_map.2 ⟨q,hq,rfl⟩)
       have hmax:∀ J∈K :: (p :: r).map (·.2),J.next≤qCg K.next ((p :: r).map (·.2)):=λJ hJ=>by
        obtain ⟨h1,h2⟩:=qPQ ((p :: r).map (·.2)) K.next
        rcases List.mem_cons.1 hJ with rfl | hJ
        ·exact h1
        ·exact h2 J hJ
       refine ⟨λq hq=>hmax _ (hin q hq),λq hq e2 T2 ms2 he=>?_⟩
       have heads:e2=e∧ms2=ms∧∀ ρ' tm,TRel σ ρ' nt T2 tm→TRel σ ρ' nt T1 tm:=by
        rcases List.mem_cons.1 hq with rfl | hq
        ·cases he;exact ⟨rfl,rfl,λρ' tm=>(qID hσ (p :: r) T T1 hj).1⟩
        ·have k:=λρ' tm=>(qID (σ:=σ) (ρ:=ρ') (nt:=nt) (tm:=tm) hσ (p :: r) T T1 hj).2 q hq
         obtain ⟨T3,h3,_⟩:=k ρ #[]
         rw [he] at h3
         cases h3
         refine ⟨rfl,rfl,λρ' tm r=>?_⟩
         obtain ⟨T4,h4,h5⟩:=k ρ' tm
         rw [he] at h4
         cases h4
         exact h5 r
       obtain ⟨rfl,rfl,hT⟩:=heads
       refine ⟨T1,rfl,λa' w' ρ' k=>?_⟩
       have dq:=hd _ (hin q hq)
       have mq:=hmax _ (hin q hq)
       have old:∀ id b,(qEG K ((p :: r).map (·.2)) (logs (K :: (p :: r).map (·.2))) H.blks).get id=some b→∃ b',q.2.blks.get id=some b'∧∀ (own:Prop) (L:Loc) o,BR σ ρ' own L b' o→BR σ ρ' own L b o:=by
        intro id b hb
        by_cases hid:(id,true)∈logs (K :: (p :: r).map (·.2))
        ·rw [(qBD _ _ _ _ id).1 hid] at hb
         have k2:=λ(own:Prop) (L:Loc)=>qWO (σ:=σ) (ρ:=ρ') (own:=own) (L:=L) hσ hb _ (hin q hq)
         obtain ⟨b',h1,_⟩:=k2 True ⟨0,0,0⟩
         refine ⟨b',h1,λown L o r=>?_⟩
         obtain ⟨b2,h3,h4⟩:=k2 own L
         rw [h1] at h3
         cases h3
         exact h4 o r
        ·rw [(qBD _ _ _ _ id).2 hid] at hb
         have hn:(id,true) ∉ q.2.log:=λhm=>hid (qMD.2 ⟨_,hin q hq,hm⟩)
         exact ⟨b,by rw [dq.same id hn];exact hb,λ_ _ _ r=>r⟩
       have wr:=k.post.wr
       have hlo:q.2.lo=H.lo:=dq.lo
       refine ⟨⟨⟨k.post.ext.le,λid hid=>k.post.ext.out id ?_⟩,⟨λid b hb=>?_,λid b L hb hL hl=>?_,λi j bi bj Li Lj hi hj hLi hLj hl hne=>?_,wr.base⟩,k.post.below⟩,hT _ _ k.tmps,k.defers⟩
       ·rcases hid with h | h
        ·exact Or.inl h
        ·exact Or.inr (Nat.le_trans mq h)
       ·obtain ⟨b',h1,h2⟩:=old id b hb
        obtain ⟨L,hL,hB⟩:=wr.blk id b' h1
        rw [hlo] at hB
        exact ⟨L,hL,h2 _ _ _ hB⟩
       ·obtain ⟨b',h1,_⟩:=old id b hb
        exact wr.own id b' L h1 hL (by rw [hlo];exact hl)
       ·obtain ⟨b1,h1,_⟩:=old i bi hi
        obtain ⟨b2,h2,_⟩:=old j bj hj
        exact wr.inj i j b1 b2 Li Lj h1 h2 hLi hLj (by rw [hlo];exact hl) hne
theorem qXI (n:Nat):∀ l:List Nat,hasN n l=l.toArray.contains n
 | []=>by simp [hasN]
 | m :: l=>by
   unfold hasN
   rw [qXI n l]
   have:Nat.beq n m=decide (n=m):=by
    cases h:Nat.beq n m with
    | true=>simp [Nat.eq_of_beq_eq_true h]
    | false=>have:n≠m:=λe=>by subst e;simp at h
             simp [this]
   rw [this,Bool.eq_iff_iff]
   simp
theorem qRd {seen:List Nat}:∀ {es:List AEnt} {es':List MapEntry},EsRel σ ρ es es'→EsRel σ ρ (qGZ seen es) (es'.filter λe=>!seen.toArray.contains e.born)
 | [],es',hr=>by
   have:=hr.len
   cases es' with
   | nil=>exact ⟨rfl,λi e e' h=>by simp [qGZ] at h⟩
   | cons=>simp at this
 | a :: es,es',hr=>by
   cases es' with
   | nil=>have:=hr.len;simp at this
   | cons a' es'=>
     have ha:=hr.at_ 0 a a' rfl rfl
     have ht:EsRel σ ρ es es':=⟨by have:=hr.len;simpa using this,λi x y hx hy=>hr.at_ (i+1) x y (by simpa using hx) (by simpa using hy)⟩
     have ih:=qRd (seen:=seen) ht
     unfold qGZ
     rw [qXI,← ha.born]
     cases hc:seen.toArray.contains a'.born with
     | true=>simp only [List.filter,hc,Bool.not_true,cond_true];exact ih
     | false=>
       simp only [List.filter,hc,Bool.not_false,cond_false]
       refine ⟨by have:=ih.len;simp only [List.length_cons];rw [this],λi x y hx hy=>?_⟩
       cases i with
       | zero=>simp at hx hy;subst hx;subst hy;exact ha
       | succ i=>exact ih.at_ i x y (by simpa using hx) (by simpa using hy)
theorem EsRel.mem {es:List AEnt} {es':List MapEntry} (h:EsRel σ ρ es es') {e':MapEntry} (he:e'∈es'):∃ e∈es,ERel σ ρ e e':=by
 obtain ⟨i,hi,rfl⟩:=List.mem_iff_getElem.1 he
 have hl:i < es.length:=by rw [← h.len];exact hi
 exact ⟨es[i],List.getElem_mem hl,h.at_ i _ _ (List.getElem?_eq_getElem hl) (List.getElem?_eq_getElem hi)⟩
theorem qVg {since:Nat}:∀ {es:List AEnt} {es':List MapEntry},EsRel σ ρ es es'→qKM since es=true→∀ x∈es',x.born < since:=by
 intro es es' hr h x hx
 obtain ⟨e,he,hre⟩:=hr.mem hx
 rw [hre.born]
 clear hr hx hre
 induction es with
 | nil=>cases he
 | cons a es ih=>
   unfold qKM at h
   simp only [Bool.and_eq_true] at h
   rcases List.mem_cons.1 he with rfl | he
   ·simpa [Nat.blt_eq] using h.1
   ·exact ih h.2 he
theorem zAC2 {x:AV} {x':Value} {d:IterD} {l:List AEnt} (h:qTP x H=some ((d,l),H')) (hx:Rel σ ρ x x') (hwr:WR σ ρ base H w) :
  H'.blks=H.blks∧H'.lo=H.lo∧H'.next=H.next∧((l=[]∧∀ ty,(Instr.next x' false ty).run P w=.ok (.tuple #[.bool false]) w)∨
   (∃ e∈l,∃ e' w1,(ERel σ ρ e e')∧(∀ ty,(Instr.next x' false ty).run P w=.ok (.tuple #[.bool true,e'.key,e'.val]) w1)∧
    ∀ H2 u,qWJ d e H'=some (u,H2)→H2.next=H.next∧WR σ ρ base H2 w1∧Below base w w1)):=by
 unfold qTP at h
 split at h
 ·rename_i r
  unfold Rel at hx
  obtain ⟨L,hL,rfl⟩:=hx
  obtain ⟨blk,K1,g1,g2⟩:=qAN h
  obtain ⟨hb,e1,e2,e3⟩:=qBW g1
  cases blk with
  | iter m since seen stepped=>
    obtain ⟨L',hL',hsh,M,q1,q2⟩:=hwr.blk _ _ hb
    rw [hL] at hL';cases hL'
    cases m with
    | none=>
      cases qAG g2
      subst q1
      exact ⟨e1,e2,e3,Or.inl ⟨rfl,λty=>by simp [Instr.next,hsh,getObj,Sem.run,q2]⟩⟩
    | some m=>
      obtain ⟨D,q3,rfl⟩:=q1
      obtain ⟨blk2,K2,g3,g4⟩:=qAN g2
      obtain ⟨hb2,f1,f2,f3⟩:=qBW g3
      cases blk2 with
      | map es clock=>
        obtain ⟨hc,g5⟩:=qAj g4
        cases qAG g5
        simp only [Bool.and_eq_true] at hc
        rw [e1] at hb2
        obtain ⟨D',hD',es',q4,q5⟩:=hwr.blk _ _ hb2
        rw [q3] at hD';cases hD'
        refine ⟨f1.trans e1,f2.trans e2,f3.trans e3,?_⟩
        have hsc:since≤stepped:=Nat.le_of_ble_eq_true hc.1
        have hold:=qVg q5 hc.2
        have hleft:=qRd (seen:=seen) q5
        have hfil:(leftOf es' seen.toArray).toList=es'.toList.filter λe=>!seen.toArray.contains e.born:=by unfold leftOf;exact Array.toList_filter
        rw [← hfil] at hleft
        have step:=λty=>run_next_at (P:=P) w ty L.blk D.blk since stepped seen.toArray es' clock q2 q4 hold hsc
        have hz:∀ ty:TypeId,Value.pointer (some ⟨L.blk,L.sh+0,none⟩)=Value.pointer (some ⟨L.blk,0,none⟩):=λ_=>by rw [hsh]
        rcases step 0 with ⟨s1,_⟩ | ⟨e',he',_⟩
        ·left
         refine ⟨List.eq_nil_of_length_eq_zero (by rw [← hleft.len];simpa using s1),λty=>?_⟩
         rw [hz ty]
         rcases step ty with ⟨_,s2⟩ | ⟨e',he',_⟩
         ·exact s2
         ·rw [List.eq_nil_of_length_eq_zero (by simpa using s1:(leftOf es' seen.toArray).toList.length=0)] at he';cases he'
        ·right
         have hpos:0 < (leftOf es' seen.toArray).size:=by
          have:=List.length_pos_of_mem he'
          simpa using this
         have step0:∃ e'∈(leftOf es' seen.toArray).toList,∃ w1:World,(w1=w∨w1=w.drew)∧∀ ty,(Instr.next (.pointer (some ⟨L.blk,0,none⟩)) false ty).run P w=.ok (.tuple #[.bool true,e'.key,e'.val]) (Go.ChangeMaps.setBlock w1 L.blk (.mapIter (some D.blk) since (seen.toArray.push e'.born) clock)):=by
          rcases step 0 with ⟨s1,_⟩ | ⟨e',he',w1,a,b⟩
          ·omega
          ·exact ⟨e',he',w1,a,λty=>b⟩
         obtain ⟨e',he',w1,hw1,hrun⟩:=step0
         obtain ⟨e,he,hre⟩:=hleft.mem he'
         refine ⟨e,he,e',_,hre,λty=>by rw [hz ty];exact hrun ty,λH2 u ht=>?_⟩
         unfold qWJ at ht
         obtain ⟨hlo,⟨b0,hb0⟩,hk,hkl,hkn⟩:=qGc ht
         rw [f1,e1] at hb0
         have hlt:L.blk < w.heap.size:=qId q2
         have hu:Upd w L.blk (.mapIter (some D.blk) since (seen.toArray.push e'.born) clock) (Go.ChangeMaps.setBlock w1 L.blk (.mapIter (some D.blk) since (seen.toArray.push e'.born) clock)):=by
          rcases hw1 with rfl | rfl
          ·exact ⟨rfl,rfl,rfl,by simp [Go.ChangeMaps.setBlock],by simp [Go.ChangeMaps.setBlock,hlt],λk hk=>Array.getElem?_setIfInBounds_ne (λe=>hk e.symm)⟩
          ·exact ⟨rfl,rfl,rfl,by simp [Go.ChangeMaps.setBlock],by simp [Go.ChangeMaps.setBlock,hlt],λk hk=>Array.getElem?_setIfInBounds_ne (λe=>hk e.symm)⟩
         obtain ⟨k1,k2⟩:=hwr.put (K:=H2) (b:=.iter (some m) since (seen ++ [e.born]) clock) hb0 hL (by rw [← e2,← f2];exact hlo) hu ⟨hsh,some D.blk,⟨D,q3,rfl⟩,by simp [hre.born]⟩ (λj=>by rw [hk j,f1,e1]) (by rw [hkl,f2,e2])
         exact ⟨by rw [hkn,f3,e3],k1,k2⟩
      | _=>exact (qAB g4).elim
  | _=>exact (qAB g2).elim
 ·exact (qAB h).elim
theorem zAAs (T:Tmps) (i:Nat):tget' T i=tget T i:=by unfold tget' tget;cases T.get i <;> rfl
theorem qYL {b:Code} {s:MapStep} (hs:qBM b=some s) {r:Option Nat} {Q:Exit→Act→World→Prop} {vs:Array Value} {t:Bool} {w1:World} (hn:s.nx < a.tmps.size)
  (hrun:∀ ty,(Instr.next (a.tmps.getD s.it undef) false ty).run P w=.ok (.tuple vs) w1) (hv:vs[0]?=some (.bool t))
  (h:s.rest.wpIn (FR r) 0 P Q ((a.put (some s.nx) (.tuple vs)).put (some s.more) (.bool t)) w1):b.wpIn (FR r) 0 P Q a w:=by
 unfold qBM at hs
 split at hs
 ·rename_i id ops rest
  split at hs
  ·rename_i nx it ty1 pos1 af1 more nx' ty2 pos2 af2 hops
   obtain ⟨hc,hs⟩:=qAS hs
   cases hs
   have hc:=Nat.eq_of_beq_eq_true hc
   subst hc
   have e0:ops=#[⟨some nx,.next (.tmp it) false,ty1,pos1,af1,none⟩,⟨some more,.extract (.tmp nx) 0,ty2,pos2,af2,none⟩]:=by
    apply Array.toList_inj.1;rw [hops]
   subst e0
   refine wpIn_seq (wpIn_region ?_)
   simp only [List.size_toArray,List.length_cons,List.length_nil,Nat.zero_add,Nat.reduceAdd,show List.range 2=[0,1] from rfl,wpOpsIn,List.getElem?_toArray,List.getElem?_cons_zero,List.getElem?_cons_succ]
   have w1t:∀ (o:Oper) (t':Nat→Option Bool),o.guard=none→Region.wanted o t'=true:=λo t' h=>by unfold Region.wanted;rw [h]
   rw [if_pos (w1t _ _ rfl)]
   refine ⟨qCW,?_⟩
   rw [Oper.semAt_eq _ _ _ (by intro c h;cases h)]
   have e1:(execOp a.eval ⟨some nx,.next (.tmp it) false,ty1,pos1,af1,none⟩).run P w=.ok (.value (.tuple vs)) w1:=by
    have he:a.eval (.tmp it)=a.tmps.getD it undef:=by simp [Act.eval]
    simp only [execOp,he,Sem.run_bind,hrun ty1,Result.andThen_ok,Sem.run_pure]
   rw [e1,Oper.uponIn_value]
   simp only []
   rw [if_pos (w1t _ _ rfl)]
   refine ⟨qCW,?_⟩
   rw [Oper.semAt_eq _ _ _ (by intro c h;cases h)]
   have e2:(execOp (a.put (some nx) (.tuple vs)).eval ⟨some more,.extract (.tmp nx) 0,ty2,pos2,af2,none⟩).run P w1=.ok (.value (.bool t)) w1:=by
    have he:(a.put (some nx) (.tuple vs)).eval (.tmp nx)=.tuple vs:=by
     simp only [Act.eval,Act.put]
     have:nx < a.tmps.size:=hn
     simp [this]
    simp only [execOp,he,Sem.run_bind,Instr.extract,hv,Sem.run_pure,Result.andThen_ok]
   rw [e2,Oper.uponIn_value]
   exact h
  ·cases hs
 ·cases hs
theorem qSL {γ δ:Type} {f:γ→N δ}:∀ {l:List (γ × AH)} {L:List (δ × AH)},allN f l=some L→∀ p∈l,∃ l',f p.1 p.2=some l'∧∀ q∈l',q∈L
 | [],_,_,p,hp=>by cases hp
 | (a,K) :: r,L,h,p,hp=>by
   unfold allN at h
   cases h1:f a K with
   | none=>simp [h1] at h
   | some lq=>
     cases h2:allN f r with
     | none=>simp [h1,h2] at h
     | some Lr=>
       simp only [h1,h2,Option.some.injEq] at h
       subst h
       rcases List.mem_cons.1 hp with rfl | hp
       ·exact ⟨lq,h1,λq hq=>List.mem_append.2 (Or.inl hq)⟩
       ·obtain ⟨l',h3,h4⟩:=qSL h2 p hp
        exact ⟨l',h3,λq hq=>List.mem_append.2 (Or.inr (h4 q hq))⟩
theorem qQU {γ δ:Type} {m:N γ} {f:γ→N δ} {L:List (δ × AH)} (h:bdN m f H=some L):∃ l,m H=some l∧∀ p∈l,∃ l',f p.1 p.2=some l'∧∀ q∈l',q∈L:=by
 unfold bdN at h
 cases h1:m H with
 | none=>simp [h1] at h
 | some l=>simp only [h1] at h;exact ⟨l,rfl,qSL h⟩
theorem qDb {γ:Type} {m:M γ} {L:List (γ × AH)} (h:oneN m H=some L):∃ x K,m H=some (x,K)∧L=[(x,K)]:=by
 unfold oneN at h
 cases h1:m H with
 | none=>simp [h1] at h
 | some r=>simp only [h1,Option.some.injEq] at h;exact ⟨r.1,r.2,rfl,h.symm⟩
theorem qYX {γ:Type} {l:List γ} {a:γ} (h:a∈l):(a,H)∈qJu H l:=by
 induction l with
 | nil=>cases h
 | cons b l ih=>rcases List.mem_cons.1 h with rfl | h;exact List.mem_cons_self;exact List.mem_cons_of_mem _ (ih h)
theorem qSl (hco:qDq P n ih) (hfr:∀ t,Fr (ih t)) {rA:Option Nat} {b:Code} {s:MapStep} (hs:qBM b=some s) (h1:s.nx < nt) (h2:s.more < nt):∀ (k:Nat) (T:Tmps) (ms:List Mk) (H:AH) (L:List (Out × AH)),qBJ ih nt rA s k T ms H=some L→
  ∀ (σ:Nat→Value) (ρ:Ren) (base:Nat) (w:World) (a:Act) (r:Option Nat) (Q:Exit→Act→World→Prop),One σ→WR σ ρ base H w→(∀ p∈L,Free ρ H.next p.2.next)→TRel σ ρ nt T a.tmps→RR ρ rA r→DRel σ ρ ms a.defers→
   (∀ p∈L,∀ e T' ms',p.1=.exit e T' ms'→∀ a' w' ρ',CodePost σ ρ base nt H p.2 w T' ms' ρ' a' w'→Q (qRT e) a' w')→Code.roundsIn (FR r) 0 P b Q k a w:=by
 intro k
 induction k with
 | zero=>intro T ms H L h;cases h
 | succ k ihk=>
   intro T ms H L h σ ρ base w a r Q hσ hwr hf hT hr hd hQ
   unfold qBJ at h
   obtain ⟨l1,g1,g2⟩:=qQU h
   obtain ⟨hd1,K1,g3,rfl⟩:=qDb g1
   obtain ⟨L1,g4,g5⟩:=g2 (hd1,K1) (List.mem_singleton.2 rfl)
   obtain ⟨d,left⟩:=hd1
   have hx:=hT.at_ s.it
   rw [← zAAs] at hx
   obtain ⟨c1,c2,c3,c4⟩:=zAC2 (P:=P) g3 hx hwr
   rw [roundsIn_succ]
   rcases c4 with ⟨rfl,c5⟩ | ⟨e,he,e',w1,c5,c6,c7⟩
   ·simp only at g4
    obtain ⟨o,K2,g6,rfl⟩:=qDb g4
    obtain ⟨o1,K3,g7,g8⟩:=qAN g6
    have hm:=g5 (o,K2) (List.mem_singleton.2 rfl)
    obtain ⟨e,T2,ms2,rfl,k1⟩:=hco _ _ _ _ _ _ _ _ g7
    have hput:TRel σ ρ nt ((T.put s.nx (some (.tup [.bool false]))).put s.more (some (.bool false))) ((a.put (some s.nx) (.tuple #[.bool false])).put (some s.more) (.bool false)).tmps:=
     qFU (v:=.bool false) (v':=.bool false) (dst:=some s.more) (T:=T.put s.nx (some (.tup [.bool false]))) (by simp only [setT];rw [show Nat.blt s.more nt=true by simpa [Nat.blt_eq] using h2];rfl)
      (qFU (v:=.tup [.bool false]) (v':=.tuple #[.bool false]) (dst:=some s.nx) (T:=T) (by simp only [setT];rw [show Nat.blt s.nx nt=true by simpa [Nat.blt_eq] using h1];rfl) hT (by unfold Rel;exact ⟨_,rfl,.cons (by unfold Rel;rfl) .nil⟩)) (by unfold Rel;rfl)
    have hwr1:WR σ ρ base K1 w:=hwr.log c1 c2
    have concl:e≠.nrm→o=.exit e T2 ms2→K3=K2→b.wpIn (FR r) 0 P (Exit.then (Code.roundsIn (FR r) 0 P b Q k) Q) a w:=by
     rintro hne rfl rfl
     refine qYL (t:=false) hs (by rw [hT.size];exact h1) c5 rfl ?_
     refine ACode.wp (n:=n) (k1 σ ρ base w _ r _ hσ hwr1 (by rw [c3];exact hf _ hm) hput hr (by rw [qB4,qB4];exact hd) λa' w' ρ' p=>?_)
     have:Q (qRT e) a' w':=hQ _ hm e T2 ms2 rfl a' w' ρ' ⟨⟨by rw [← c3];exact p.post.ext,p.post.wr,p.post.below⟩,p.tmps,p.defers⟩
     cases e with
     | nrm=>exact absurd rfl hne
     | exit id=>exact this
     | ret=>exact this
    cases e with
    | nrm=>exact (qAB g8).elim
    | exit id=>cases qAG g8;exact concl (by simp) rfl rfl
    | ret=>cases qAG g8;exact concl (by simp) rfl rfl
   ·cases left with
    | nil=>cases he
    | cons e0 es0=>
      simp only at g4
      obtain ⟨l2,g6,g7⟩:=qQU g4
      have:l2=qJu K1 (e0 :: es0):=by have g6:some (qJu K1 (e0 :: es0))=some l2:=g6;cases g6;rfl
      subst this
      obtain ⟨L2,g8,g9⟩:=g7 (e,K1) (qYX he)
      obtain ⟨l3,g10,g11⟩:=qQU g8
      obtain ⟨o,K3,g12,rfl⟩:=qDb g10
      obtain ⟨u,K2,g13,g14⟩:=qAN g12
      obtain ⟨n2,wr2,bl2⟩:=c7 K2 u g13
      obtain ⟨L3,g15,g16⟩:=g11 (o,K3) (List.mem_singleton.2 rfl)
      have sub:∀ q∈L3,q∈L:=λq hq=>g5 q (g9 q (g16 q hq))
      obtain ⟨ex,T2,ms2,rfl,k1⟩:=hco _ _ _ _ _ _ _ _ g14
      have hput:TRel σ ρ nt ((T.put s.nx (some (.tup [.bool true,e.key,e.val]))).put s.more (some (.bool true))) ((a.put (some s.nx) (.tuple #[.bool true,e'.key,e'.val])).put (some s.more) (.bool true)).tmps:=
       qFU (v:=.bool true) (v':=.bool true) (dst:=some s.more) (T:=T.put s.nx (some (.tup [.bool true,e.key,e.val]))) (by simp only [setT];rw [show Nat.blt s.more nt=true by simpa [Nat.blt_eq] using h2];rfl)
        (qFU (v:=.tup [.bool true,e.key,e.val]) (v':=.tuple #[.bool true,e'.key,e'.val]) (dst:=some s.nx) (T:=T) (by simp only [setT];rw [show Nat.blt s.nx nt=true by simpa [Nat.blt_eq] using h1];rfl) hT (by unfold Rel;exact ⟨_,rfl,.cons (by unfold Rel;rfl) (.cons c5.key (.cons c5.val .nil))⟩)) (by unfold Rel;rfl)
      have m3:K2.next≤K3.next:=qGO hfr g14
      have hfin:∀ p∈L3,K3.next≤p.2.next:=by
       intro p hp
       have hfrN:FrN (match (generalizing:=false) (Out.exit ex T2 ms2:Out) with
        | .exit .nrm T ms=>qBJ ih nt rA s k T ms
        | o=>oneN (ret o)):=by
        split
        ·exact qDc hfr nt rA s k _ _
        ·exact qLK (qAl _)
       obtain ⟨_,q2,_⟩:=hfrN K3 L3 g15
       obtain ⟨es,dd⟩:=q2 p hp
       exact dd.next
      refine qYL (t:=true) hs (by rw [hT.size];exact h1) c6 rfl ?_
      have hfree:Free ρ K2.next K3.next:=by
       have hne:L3≠[]:=by
        have hfrN:FrN (match (generalizing:=false) (Out.exit ex T2 ms2:Out) with
         | .exit .nrm T ms=>qBJ ih nt rA s k T ms
         | o=>oneN (ret o)):=by
         split
         ·exact qDc hfr nt rA s k _ _
         ·exact qLK (qAl _)
        exact (hfrN K3 L3 g15).1
       cases L3 with
       | nil=>exact absurd rfl hne
       | cons p L3=>
         have:=hf p (sub p (by simp))
         rw [n2]
         exact this.left (hfin p (by simp))
      refine ACode.wp (n:=n) (k1 σ ρ base w1 _ r _ hσ wr2 hfree hput hr (by rw [qB4,qB4];exact hd) λa' w' ρ' p=>?_)
      have lift:∀ {T' ms' K a'' w'' ρ''},K3.next≤K.next→CodePost σ ρ' base nt K3 K w' T' ms' ρ'' a'' w''→CodePost σ ρ base nt H K w T' ms' ρ'' a'' w'':=by
       intro T' ms' K a'' w'' ρ'' hle q
       have:=p.trans q m3 hle
       exact ⟨⟨by rw [← n2];exact this.post.ext,this.post.wr,bl2.trans this.post.below⟩,this.tmps,this.defers⟩
      cases ex with
      | nrm=>
        show Code.roundsIn (FR r) 0 P b Q k a' w'
        refine ihk T2 ms2 K3 L3 g15 σ ρ' base w' a' r Q hσ p.post.wr (λq hq=>?_) p.tmps (hr.mono p.post.ext.le) p.defers λq hq e2 T' ms' he2 a'' w'' ρ'' cp=>?_
        ·have h3:=hf q (sub q hq)
         rw [← n2] at h3
         exact p.post.ext.free h3 m3
        ·exact hQ q (sub q hq) e2 T' ms' he2 a'' w'' ρ'' (lift (hfin q hq) cp)
      | exit id=>
        obtain ⟨x,K4,g17,rfl⟩:=qDb g15
        cases qAG g17
        exact hQ _ (sub _ (List.mem_singleton.2 rfl)) (.exit id) T2 ms2 rfl a' w' ρ' (lift (Nat.le_refl _) (.stay p.post.wr p.tmps p.defers))
      | ret=>
        obtain ⟨x,K4,g17,rfl⟩:=qDb g15
        cases qAG g17
        exact hQ _ (sub _ (List.mem_singleton.2 rfl)) .ret T2 ms2 rfl a' w' ρ' (lift (Nat.le_refl _) (.stay p.post.wr p.tmps p.defers))
theorem qVN {γ δ:Type} {f:γ→N δ}:∀ {l:List (γ × AH)} {L:List (δ × AH)},allN f l=some L→∀ q∈L,∃ p∈l,∃ l',f p.1 p.2=some l'∧q∈l'
 | [],L,h,q,hq=>by cases h;cases hq
 | (a,K) :: r,L,h,q,hq=>by
   unfold allN at h
   cases h1:f a K with
   | none=>simp [h1] at h
   | some lq=>
     cases h2:allN f r with
     | none=>simp [h1,h2] at h
     | some Lr=>
       simp only [h1,h2,Option.some.injEq] at h
       subst h
       rcases List.mem_append.1 hq with hq | hq
       ·exact ⟨(a,K),by simp,lq,h1,hq⟩
       ·obtain ⟨p,hp,l',h3,h4⟩:=qVN h2 q hq
        exact ⟨p,List.mem_cons_of_mem _ hp,l',h3,h4⟩
theorem qTr {γ δ:Type} {m:N γ} {f:γ→N δ} {L:List (δ × AH)} (h:bdN m f H=some L) {q:δ × AH} (hq:q∈L):∃ p l',f p.1 p.2=some l'∧q∈l'∧∃ l,m H=some l∧p∈l:=by
 unfold bdN at h
 cases h1:m H with
 | none=>simp [h1] at h
 | some l=>
   simp only [h1] at h
   obtain ⟨p,hp,l',h3,h4⟩:=qVN h q hq
   exact ⟨p,l',h3,h4,l,rfl,hp⟩
theorem qN6 (hco:qDq P n ih) {rA:Option Nat} {s:MapStep}:∀ (k:Nat) (T:Tmps) (ms:List Mk) (H:AH) (L:List (Out × AH)),qBJ ih nt rA s k T ms H=some L→∀ q∈L,∃ e T' ms',q.1=.exit e T' ms':=by
 intro k
 induction k with
 | zero=>intro T ms H L h;cases h
 | succ k ihk=>
   intro T ms H L h q hq
   unfold qBJ at h
   obtain ⟨⟨⟨d,left⟩,K0⟩,l',h1,h2,_⟩:=qTr h hq
   cases left with
   | nil=>
     obtain ⟨o,K,g1,rfl⟩:=qDb h1
     obtain ⟨o1,K1,g2,g3⟩:=qAN g1
     obtain ⟨e,T2,ms2,rfl,_⟩:=hco _ _ _ _ _ _ _ _ g2
     simp only [List.mem_singleton] at h2
     subst h2
     cases e with
     | nrm=>exact (qAB g3).elim
     | exit id=>cases qAG g3;exact ⟨_,_,_,rfl⟩
     | ret=>cases qAG g3;exact ⟨_,_,_,rfl⟩
   | cons e0 es0=>
     obtain ⟨p2,l2,h3,h4,_⟩:=qTr h1 h2
     obtain ⟨p3,l3,h5,h6,l4,h7,h8⟩:=qTr h3 h4
     obtain ⟨o,K,g1,rfl⟩:=qDb h7
     obtain ⟨u,K1,g2,g3⟩:=qAN g1
     obtain ⟨e,T2,ms2,rfl,_⟩:=hco _ _ _ _ _ _ _ _ g3
     simp only [List.mem_singleton] at h8
     subst h8
     cases e with
     | nrm=>exact ihk _ _ _ _ h5 q h6
     | exit id=>
       obtain ⟨x,K4,g17,rfl⟩:=qDb h5
       cases qAG g17
       simp only [List.mem_singleton] at h6
       subst h6
       exact ⟨_,_,_,rfl⟩
     | ret=>
       obtain ⟨x,K4,g17,rfl⟩:=qDb h5
       cases qAG g17
       simp only [List.mem_singleton] at h6
       subst h6
       exact ⟨_,_,_,rfl⟩
theorem qRj {L:List (Out × AH)} {o:Out} (h:qCh H L=some (o,H')):(∃ p∈L,p.1=o)∨∃ e T ms,o=.exit e T ms:=by
 match L,h with
 | [],h=>cases h
 | [(o1,K)],h=>
   simp only [qCh,Option.some.injEq,Prod.mk.injEq] at h
   exact Or.inl ⟨(o1,K),List.mem_singleton.2 rfl,h.1⟩
 | (o1,K) :: p :: r,h=>
   cases o1 with
   | val v=>simp [qCh] at h
   | exit e T ms=>
     unfold qCh at h
     simp only at h
     cases hj:qCd e ms T (p :: r) with
     | none=>simp [hj] at h
     | some T1=>
       simp only [hj,Option.some.injEq,Prod.mk.injEq] at h
       exact Or.inr ⟨_,_,_,h.1.symm⟩
theorem qVu {rA:Option Nat} {c:Code} {ms:List Mk} {o:Out} {s:MapStep} (hs:qBM c=some s) (hco:qDq P n ih) (hfr:∀ t,Fr (ih t)) (h:qGU ih nt rA s T ms H=some (o,H')):Goal P (n+1) nt rA (.loop c) T ms H o H':=by
 unfold qGU at h
 obtain ⟨hb,h⟩:=qAj h
 simp only [Bool.and_eq_true,Nat.blt_eq] at hb
 cases hL:qBJ ih nt rA s 1000 T ms { H with log:=[] } with
 | none=>simp only [hL] at h;cases h
 | some L=>
   simp only [hL] at h
   have hfn:=qDc hfr nt rA s 1000 T ms
   obtain ⟨a1,_,_⟩:=hfn _ L hL
   have allExit:∀ p∈L,∃ e T' ms',p.1=.exit e T' ms':=qN6 hco 1000 T ms _ L hL
   have hex:∃ e T' ms',o=.exit e T' ms':=by
    rcases qRj h with ⟨p,hp,rfl⟩ | h2
    ·exact allExit p hp
    ·exact h2
   obtain ⟨e,T',ms',rfl⟩:=hex
   refine ⟨e,T',ms',rfl,λσ ρ base w a r Q hσ hwr hf hT hr hd hQ=>?_⟩
   obtain ⟨j1,j3⟩:=qSZ (σ:=σ) (ρ:=ρ) (base:=base) (nt:=nt) (w:=w) hσ hfn hL h
   unfold ACode
   simp only [hs]
   refine qSl hco hfr hs hb.1 hb.2 1000 T ms _ L hL σ ρ base w a r Q hσ (hwr.log rfl rfl) (λp hp=>hf.left (j1 p hp)) hT hr hd λp hp e2 T2 ms2 he a' w' ρ' cp=>?_
   obtain ⟨T3,h3,h4⟩:=j3 p hp e2 T2 ms2 he
   cases h3
   exact hQ a' w' ρ' (h4 a' w' ρ' cp)
theorem zADz {rA:Option Nat} {x y:Code} {ms:List Mk} {o:Out} (hco:qDq P n ih) (hfr:∀ t,Fr (ih t)) (h:qAv P ih nt rA (.seq x y) T ms H=some (o,H')):Goal P (n+1) nt rA (.seq x y) T ms H o H':=by
 obtain ⟨o1,K,h1,h2⟩:=qAN h
 have m1:=qGO hfr h1
 obtain ⟨e,T1,ms1,rfl,k1⟩:=hco _ _ _ _ _ _ _ _ h1
 cases e with
 | nrm=>
   have m2:=qGO hfr h2
   obtain ⟨e,T2,ms2,rfl,k2⟩:=hco _ _ _ _ _ _ _ _ h2
   refine ⟨e,T2,ms2,rfl,λσ ρ base w a r Q hσ hwr hf hT hr hd hQ=>wpIn_seq (ACode.wp (n:=n) ?_)⟩
   refine k1 σ ρ base w a r _ hσ hwr (hf.left m2) hT hr hd λa1 w1 ρ1 p1=>?_
   refine ACode.wp (n:=n) (k2 σ ρ1 base w1 a1 r Q hσ p1.post.wr (p1.post.ext.free hf m1) p1.tmps (hr.mono p1.post.ext.le) p1.defers λa2 w2 ρ2 p2=>hQ a2 w2 ρ2 (p1.trans p2 m1 m2))
 | exit id=>
   cases qAG h2
   exact ⟨.exit id,T1,ms1,rfl,λσ ρ base w a r Q hσ hwr hf hT hr hd hQ=>wpIn_seq (ACode.wp (n:=n) (k1 σ ρ base w a r _ hσ hwr hf hT hr hd λa1 w1 ρ1 p1=>hQ a1 w1 ρ1 p1))⟩
 | ret=>
   cases qAG h2
   exact ⟨.ret,T1,ms1,rfl,λσ ρ base w a r Q hσ hwr hf hT hr hd hQ=>wpIn_seq (ACode.wp (n:=n) (k1 σ ρ base w a r _ hσ hwr hf hT hr hd λa1 w1 ρ1 p1=>hQ a1 w1 ρ1 p1))⟩
theorem zACm {rA:Option Nat} {x:Operand} {y z:Code} {ms:List Mk} {o:Out} (hco:qDq P n ih) (h:qAv P ih nt rA (.cond x y z) T ms H=some (o,H')):Goal P (n+1) nt rA (.cond x y z) T ms H o H':=by
 unfold qAv at h
 simp only at h
 generalize hx:ev T x=v at h
 split at h
 ·rename_i t
  obtain ⟨e,T1,ms1,rfl,k1⟩:=hco _ _ _ _ _ _ _ _ h
  refine ⟨e,T1,ms1,rfl,λσ ρ base w a r Q hσ hwr hf hT hr hd hQ=>?_⟩
  have hv:=qAu (a:=a) hx hT
  unfold Rel at hv
  refine wpIn_cond hv ?_
  have:=ACode.wp (k1 σ ρ base w a r Q hσ hwr hf hT hr hd hQ)
  cases t <;> exact this
 ·exact (qAB h).elim
theorem qZt {rA:Option Nat} {id:Nat} {c:Code} {ms:List Mk} {o:Out} (hco:qDq P n ih) (h:qAv P ih nt rA (.block id c) T ms H=some (o,H')):Goal P (n+1) nt rA (.block id c) T ms H o H':=by
 obtain ⟨o1,K,h1,h2⟩:=qAN h
 obtain ⟨e,T1,ms1,rfl,k1⟩:=hco _ _ _ _ _ _ _ _ h1
 cases e with
 | nrm=>
   cases qAG h2
   exact ⟨.nrm,T1,ms1,rfl,λσ ρ base w a r Q hσ hwr hf hT hr hd hQ=>wpIn_block (ACode.wp (n:=n) (k1 σ ρ base w a r _ hσ hwr hf hT hr hd λa1 w1 ρ1 p1=>hQ a1 w1 ρ1 p1))⟩
 | ret=>
   cases qAG h2
   exact ⟨.ret,T1,ms1,rfl,λσ ρ base w a r Q hσ hwr hf hT hr hd hQ=>wpIn_block (ACode.wp (n:=n) (k1 σ ρ base w a r _ hσ hwr hf hT hr hd λa1 w1 ρ1 p1=>hQ a1 w1 ρ1 p1))⟩
 | exit id'=>
   cases hb:Nat.beq id' id with
   | true=>
     simp only [hb,cond_true] at h2
     cases qAG h2
     have e:=Nat.eq_of_beq_eq_true hb
     exact ⟨.nrm,T1,ms1,rfl,λσ ρ base w a r Q hσ hwr hf hT hr hd hQ=>wpIn_block (ACode.wp (n:=n) (k1 σ ρ base w a r _ hσ hwr hf hT hr hd λa1 w1 ρ1 p1=>by
      show (if id'=id then _ else _)
      rw [if_pos e];exact hQ a1 w1 ρ1 p1))⟩
   | false=>
     simp only [hb,cond_false] at h2
     cases qAG h2
     have e:id'≠id:=λe=>by subst e;simp at hb
     exact ⟨.exit id',T1,ms1,rfl,λσ ρ base w a r Q hσ hwr hf hT hr hd hQ=>wpIn_block (ACode.wp (n:=n) (k1 σ ρ base w a r _ hσ hwr hf hT hr hd λa1 w1 ρ1 p1=>by
      show (if id'=id then _ else _)
      rw [if_neg e];exact hQ a1 w1 ρ1 p1))⟩
theorem zACP {rA:Option Nat} {c:Code} {ms:List Mk} {o:Out} (hco:qDq P n ih) (hfr:∀ t,Fr (ih t)) (h:qAv P ih nt rA (.loop c) T ms H=some (o,H')):Goal P (n+1) nt rA (.loop c) T ms H o H':=by
 have e0:qAv P ih nt rA (.loop c) T ms=(match qBM c with
  | some s=>qGU ih nt rA s T ms
  | none=>bd (ih (.code nt rA c T ms)) λo=>match o with
    | .exit .nrm T ms=>ih (.code nt rA (.loop c) T ms)
    | o=>ret o):=rfl
 rw [e0] at h
 cases hs:qBM c with
 | some s=>rw [hs] at h;exact qVu hs hco hfr h
 | none=>
 rw [hs] at h
 have hA:∀ (r:Option Nat) (Q:Exit→Act→World→Prop) (a:Act) (w:World) (k:Nat),ACode r k P (.loop c) Q a w=Code.roundsIn (FR r) 0 P c Q k a w:=λr Q a w k=>by unfold ACode;simp only [hs]
 obtain ⟨o1,K,h1,h2⟩:=qAN h
 have m1:=qGO hfr h1
 obtain ⟨e,T1,ms1,rfl,k1⟩:=hco _ _ _ _ _ _ _ _ h1
 cases e with
 | nrm=>
   have m2:=qGO hfr h2
   obtain ⟨e,T2,ms2,rfl,k2⟩:=hco _ _ _ _ _ _ _ _ h2
   refine ⟨e,T2,ms2,rfl,λσ ρ base w a r Q hσ hwr hf hT hr hd hQ=>(hA r Q a w (n+1)).mpr (ACode.wp (n:=n) (c:=c) ?_)⟩
   refine k1 σ ρ base w a r _ hσ hwr (hf.left m2) hT hr hd λa1 w1 ρ1 p1=>?_
   exact (hA r Q a1 w1 n).mp (k2 σ ρ1 base w1 a1 r Q hσ p1.post.wr (p1.post.ext.free hf m1) p1.tmps (hr.mono p1.post.ext.le) p1.defers λa2 w2 ρ2 p2=>hQ a2 w2 ρ2 (p1.trans p2 m1 m2))
 | exit id=>
   cases qAG h2
   exact ⟨.exit id,T1,ms1,rfl,λσ ρ base w a r Q hσ hwr hf hT hr hd hQ=>(hA r Q a w (n+1)).mpr (ACode.wp (n:=n) (c:=c) (k1 σ ρ base w a r _ hσ hwr hf hT hr hd λa1 w1 ρ1 p1=>hQ a1 w1 ρ1 p1))⟩
 | ret=>
   cases qAG h2
   exact ⟨.ret,T1,ms1,rfl,λσ ρ base w a r Q hσ hwr hf hT hr hd hQ=>(hA r Q a w (n+1)).mpr (ACode.wp (n:=n) (c:=c) (k1 σ ρ base w a r _ hσ hwr hf hT hr hd λa1 w1 ρ1 p1=>hQ a1 w1 ρ1 p1))⟩
theorem zAAv (n:Nat):List.range n=List.range' 0 n:=List.range_eq_range'
theorem qLU:∀ {l l':List Oper} {c:Call},qBN l=some (l',c)→∃ o,l=l' ++ [o]∧o.dst=none∧o.op=.defer c∧o.guard=none
 | [],_,_,h=>by cases h
 | [o],l',c,h=>by
   unfold qBN at h
   simp only at h
   split at h
   ·cases h;exact ⟨_,rfl,rfl,rfl,rfl⟩
   ·cases h
 | o :: o2 :: os,l',c,h=>by
   unfold qBN at h
   cases hr:qBN (o2 :: os) with
   | none=>simp only [hr] at h;cases h
   | some p=>
     obtain ⟨l2,c2⟩:=p
     simp only [hr] at h
     cases h
     obtain ⟨o',h1,h2⟩:=qLU hr
     exact ⟨o',by rw [h1];rfl,h2⟩
theorem qXt {c:Call} {m:Mk} {ty:TypeId} (h:qJN P T c=some m) (hT:TRel σ ρ nt T a.tmps):∃ (k:FuncId) (args:List AV) (cs fs:Array Value),m=.call k args∧isFn P k=true∧(resolve a.eval c ty).run P w=.ok { target:=.fn (.func k) cs,args:=fs } w∧RelL σ ρ args (fs ++ cs).toList:=by
 obtain ⟨callee,as',ts⟩:=c
 unfold qJN at h
 cases callee with
 | value f=>
   simp only at h
   split at h
   ·rename_i l k first cap hl hf
    obtain ⟨hk,h⟩:=qAS h
    cases h
    have r1:=qNa (a:=a) hl hT
    have r2:=qAu (a:=a) hf hT
    unfold Rel at r2
    obtain ⟨fs,cs,he,g1,g2⟩:=r2
    refine ⟨k,_,cs,fs ++ as'.map a.eval,rfl,hk,by simp only [resolve,he,Deferred.ofValue,Sem.run_pure],?_⟩
    have:=(g1.append r1).append g2
    simpa using this
   ·cases h
 | invoke r n=>cases h
 | builtin b=>cases h
theorem qXy (hm:P.follows .mixedOrders=true) (hname:qDn P) {rA:Option Nat} {id:Nat} {ops:Array Oper} {draw:Bool} {ms:List Mk} {o:Out} (hc:qFf P ih) (hro:qDa P ih) (hfr:∀ t,Fr (ih t)) (h:qAv P ih nt rA (.region id ops draw) T ms H=some (o,H')):Goal P (n+1) nt rA (.region id ops draw) T ms H o H':=by
 have e0:qAv P ih nt rA (.region id ops draw) T ms=(match cond draw none (qBN ops.toList) with
  | some p=>match (generalizing:=false) rA with
    | none=>bd (opsA P ih nt ops.toList p.1 T) λT=>match qJN P T p.2 with
      | some m=>ret (.exit .nrm T (m :: ms))
      | none=>fail
    | some _=>fail
  | none=>bd (cond draw (cond (qBp ops.toList) (opsD P ih nt ops ops.toList (masks ops.toList []) [] T) fail) (opsA P ih nt ops.toList ops.toList T)) λT=>ret (.exit .nrm T ms)):=rfl
 rw [e0] at h
 cases hdo:cond draw none (qBN ops.toList) with
 | some p=>
   obtain ⟨l,c⟩:=p
   rw [hdo] at h
   cases draw with
   | true=>cases hdo
   | false=>
     simp only [cond_false] at hdo
     cases rA with
     | some _=>exact (qAB (H:=H) h).elim
     | none=>
       obtain ⟨T1,K,h1,h2⟩:=qAN h
       generalize hda:qJN P T1 c=dm at h2
       cases dm with
       | none=>exact (qAB h2).elim
       | some m=>
         cases qAG h2
         obtain ⟨o1,ho1,hdst,hop,hgd⟩:=qLU hdo
         refine ⟨.nrm,T1,m :: ms,rfl,λσ ρ base w a r Q hσ hwr hf hT hr hd hQ=>?_⟩
         unfold RR at hr
         subst hr
         refine wpIn_region ?_
         have hsz:ops.size=l.length+1:=by have:=congrArg List.length ho1;simpa using this
         have hrange:List.range ops.size=List.range' 0 l.length ++ [l.length]:=by
          rw [hsz,List.range_succ,List.range_eq_range']
         rw [hrange]
         have hget:∀ j,j < l.length→l[j]?=ops[0+j]?:=λj hj=>by
          rw [Nat.zero_add,← Array.getElem?_toList,ho1,List.getElem?_append_left hj]
         have hlast:ops[l.length]?=some o1:=by rw [← Array.getElem?_toList,ho1];simp
         refine qYB (r:=none) (Q:=Q) hc hro hname hfr hσ [l.length] l 0 T H T1 ρ w a hget h1 hT hwr hf λa' w' ρ' p1 p2 p3=>?_
         simp only [wpOpsIn,hlast]
         rw [if_pos (by unfold Region.wanted;rw [hgd])]
         obtain ⟨k,args,cs,fs,rfl,hk,hrun,hrel⟩:=qXt (w:=w') (ty:=o1.type) hda p2
         refine ⟨qCW,?_⟩
         have e1:((o1.semAt (FR none).round a'.eval).run P w')=.ok (.defer { target:=.fn (.func k) cs,args:=fs }) w':=by
          show ((o1.semAt none a'.eval).run P w')=_
          rw [Oper.semAt_none]
          simp only [execOp,hop,Sem.run_bind,hrun,Result.andThen_ok,Sem.run_pure]
         rw [e1,Oper.uponIn_defer]
         refine hQ _ w' ρ' ⟨p1,by rw [hdst];exact p2,?_⟩
         rw [qB4]
         unfold DRel
         exact ⟨cs,fs,a'.defers,rfl,hrel,by rw [p3];exact hd.mono p1.ext.le⟩
 | none=>
 rw [hdo] at h
 obtain ⟨T1,K,h1,h2⟩:=qAN h
 cases qAG h2
 refine ⟨.nrm,T1,ms,rfl,λσ ρ base w a r Q hσ hwr hf hT hr hd hQ=>?_⟩
 have fin:∀ a' w' ρ',Post σ ρ ρ' base H H' w w'→TRel σ ρ' nt T1 a'.tmps→a'.defers=a.defers→Q .normal a' w':=λa' w' ρ' p1 p2 p3=>
  hQ a' w' ρ' ⟨p1,p2,by rw [p3];exact hd.mono p1.ext.le⟩
 cases draw with
 | false=>
   refine wpIn_region ?_
   rw [zAAv]
   have:=qYB (r:=r) (Q:=Q) hc hro hname hfr hσ [] ops.toList 0 T H T1 ρ w a (λj _=>by simp) h1 hT hwr hf fin
   simpa using this
 | true=>
   obtain ⟨hok,h3⟩:=qAj h1
   exact zACj hm hc hro hname hfr hσ hok h3 hT hwr hf fin
end
end Go.AM
namespace Go.AM
open Go Go.RowKit
section
variable {P : Program} {σ : Nat → Value} {ρ : Ren} {base nt : Nat} {H H' : AH} {w : World} {T : Tmps} {a : Act} {ih : Task → M Out} {n : Nat}
theorem qUR {m:M Out} {v:AV} (h:outVal m H=some (v,H')):m H=some (.val v,H'):=by
 obtain ⟨o,K,h1,h2⟩:=qAN h
 cases o with
 | exit e T ms=>exact (qAB h2).elim
 | val u=>cases qAG h2;exact h1
theorem qJp {fn:Func} {tm:Array Value} {vs':List Value} (h:(fn.results.toList.mapM λr=>(match r with
   | .tmp t=>pure (tm.getD t undef)
   | .cell a t=>do loadVar t (← asAddr (tm.getD a undef)):Sem Value)).run P w=.ok vs' w) :
  (results fn tm).run P w=.ok (if h:vs'.toArray.size=1 then vs'.toArray[0] else .tuple vs'.toArray) w:=by
 have e:results fn tm=(do
  let vs ← fn.results.mapM λr=>(match r with
   | .tmp t=>pure (tm.getD t undef)
   | .cell a t=>do loadVar t (← asAddr (tm.getD a undef)):Sem Value)
  pure (if h:vs.size=1 then vs[0] else .tuple vs)):=rfl
 rw [e,Array.mapM_eq_mapM_toList]
 simp only [Sem.run_bind,Sem.run_map,h,Result.andThen_ok,Sem.run_pure]
theorem qU7 {t:Option Tmp} {ts:Array TypeId} {ty:TypeId} {pos:String} {af:Array Edge} {g:Option (Nat × Bool)} {w:World} {a:Act}:(execOp a.eval { dst:=t,op:=.call { callee:=.builtin .recover,args:=#[],argTypes:=ts },type:=ty,pos:=pos,after:=af,guard:=g }).run P w=.ok .recover w:=by
 simp only [execOp,resolve,invoke,Array.map_empty,Sem.run_bind,Sem.run_pure,Result.andThen_ok]
 rfl
theorem qRc {c₀:Frame} {cs:List Frame} (h:c₀.mode=.returning):recoverD (c₀ :: cs)=none:=by
 simp [recoverD,h]
theorem qW7 (hco:qDq P n ih) (hfr:∀ t,Fr (ih t)) (hname:qDn P) {k:FuncId} {args:List AV} {u:Unit} (h:qJT P ih k args H=some (u,H')) {args':Array Value} (hσ:One σ) (hwr:WR σ ρ base H w) (hf:Free ρ H.next H'.next) (hr:RelL σ ρ args args'.toList)
  {R:Ending→FrameMode→World→Prop} (hR:∀ v ρ' w',Post σ ρ ρ' base H H' w w'→R (.returned v) .returning w'):isFn P k=true∧CallsDIn Fence.wide 0 P k args' .returning w R:=by
 unfold qJT at h
 cases hfn:P.funcs[k]? with
 | none=>simp only [hfn] at h;exact (qAB h).elim
 | some fn=>
   simp only [hfn] at h
   cases hb:fn.body with
   | none=>simp only [hb] at h;exact (qAB h).elim
   | some c=>
     simp only [hb] at h
     generalize hrs:fn.results.toList=rs at h
     cases rs with
     | cons _ _=>exact (qAB h).elim
     | nil=>
       obtain ⟨hle,h⟩:=qAj h
       have hle:args.length≤fn.ntmps:=by simpa [Nat.ble_eq] using hle
       refine ⟨by unfold isFn;rw [hfn];simp [hb],?_⟩
       generalize hdc:qNd fn (Tr.ofListAt .nil 0 args) c=dc at h
       cases dc with
       | none=>exact (qAB h).elim
       | some p=>
         obtain ⟨c',T'⟩:=p
         obtain ⟨o,K,h1,h2⟩:=qAN h
         obtain ⟨e,T1,ms1,rfl,k1⟩:=hco _ _ _ _ _ _ _ _ h1
         have hK:K=H'∧ms1=[]∧e≠.exit 0∧(∀ i,e≠.exit i):=by
          cases e with
          | nrm=>cases ms1 with
            | nil=>cases qAG h2;exact ⟨rfl,rfl,by simp,by simp⟩
            | cons _ _=>exact (qAB (H:=K) h2).elim
          | ret=>cases ms1 with
            | nil=>cases qAG h2;exact ⟨rfl,rfl,by simp,by simp⟩
            | cons _ _=>exact (qAB (H:=K) h2).elim
          | exit i=>exact (qAB (H:=K) h2).elim
         obtain ⟨rfl,rfl,_,hne⟩:=hK
         have hstart:=qDI (nt:=fn.ntmps) hr hle
         have hres:fn.results=#[]:=by apply Array.toList_inj.1;rw [hrs]
         refine callsDIn_of_wpSIn hfn hb trivial λc₀ cs hu=>?_
         have fin:∀ (a0:Act),a0.defers=[]→TRel σ ρ fn.ntmps T' a0.tmps→c'.wpSIn Fence.wide 0 P (bodyPostS P fn c₀ cs R) a0 (c₀ :: cs) w:=by
          intro a0 hd0 hT0
          refine wpSIn_of_wpIn rfl (ACode.wp (n:=n) (k1 σ ρ base w a0 none _ hσ hwr hf hT0 rfl (by rw [hd0];rfl) λa1 w1 ρ1 p1=>?_))
          have hd1:a1.defers=[]:=p1.defers
          have main:a1.defers=[]∧∃ u',(c₀ :: cs)={ c₀ with mode:=u' } :: cs∧∃ v,(results fn a1.tmps).run P w1=.ok v w1∧R (.returned v) u' w1:=
           ⟨hd1,.returning,by cases c₀;simp only at hu;subst hu;rfl,.tuple #[],by simp [results,hres],hR _ ρ1 w1 p1.post⟩
          cases e with
          | nrm=>exact main
          | ret=>exact main
          | exit i=>exact absurd rfl (hne i)
         unfold qNd at hdc
         cases hrt:qGz c with
         | none=>
           rw [hrt] at hdc
           cases hdc
           exact fin _ rfl hstart
         | some q=>
           obtain ⟨t,rest⟩:=q
           rw [hrt] at hdc
           obtain ⟨hlt,hdc⟩:=qAS hdc
           cases hdc
           unfold qGz at hrt
           split at hrt
           ·rename_i id ops rest'
            split at hrt
            ·rename_i t' ts ty pos af hops
             cases hrt
             have e0:ops=#[⟨some t,.call ⟨.builtin .recover,#[],ts⟩,ty,pos,af,none⟩]:=by apply Array.toList_inj.1;rw [hops]
             subst e0
             refine wpSIn_seq (wpSIn_region ?_)
             simp only [List.size_toArray,List.length_cons,List.length_nil,Nat.zero_add,show List.range 1=[0] from rfl,wpOpsSIn,List.getElem?_toArray,List.getElem?_cons_zero]
             refine ⟨qCW,?_⟩
             rw [if_pos (by unfold Region.wanted;rfl),qU7]
             simp only [qRc hu]
             refine fin _ (qB4 _ _ _) ?_
             exact qFU (v:=.nilIface) (v':=.nilIface) (dst:=some t) (by simp only [setT];rw [hlt];rfl) hstart (by unfold Rel;rfl)
            ·cases hrt
           ·cases hrt
theorem qMI (hco:qDq P n ih) (hfr:∀ t,Fr (ih t)) (hname:qDn P) {fn:Func} {tmps:Array Value} {R:Ending→World→Prop} (hσ:One σ):∀ {ms:List Mk} {ds:List Deferred} {H H':AH} {ρ:Ren} {w:World},qAx P ih ms H=some ((),H')→WR σ ρ base H w→Free ρ H.next H'.next→DRel σ ρ ms ds→
  (∀ ρ' w',Post σ ρ ρ' base H H' w w'→LeavesInM Fence.wide 0 P fn tmps R [] .returning w')→LeavesInM Fence.wide 0 P fn tmps R ds .returning w
 | [],ds,H,H',ρ,w,h,hwr,hf,hd,hQ=>by
   cases qAG h
   unfold DRel at hd;subst hd
   exact hQ ρ w ⟨.refl _ _ _,hwr,.refl _ _⟩
 | .mark m :: ms,ds,H,H',ρ,w,h,hwr,hf,hd,hQ=>by
   unfold DRel at hd
   obtain ⟨L,ds',hL,rfl,hd⟩:=hd
   obtain ⟨blk,K,h1,h2⟩:=qAN h
   obtain ⟨hb,e1,e2,e3⟩:=qBW h1
   cases blk with
   | deferred b=>
     cases b with
     | false=>exact (qAB h2).elim
     | true=>
       obtain ⟨u,K2,h3,h4⟩:=qAN h2
       obtain ⟨hlo,⟨b0,hb0⟩,hk,hkl,hkn⟩:=qGc h3
       obtain ⟨L',hL',hobj⟩:=hwr.blk m _ hb
       rw [hL] at hL';cases hL'
       have hobj:w.heap[L.blk]?=some (.deferred (some [])):=hobj
       have hput:=hwr.put (K:=K2) (b:=.deferred false) hb hL (by rw [← e2];exact hlo) (qPK (.deferred none) hobj) rfl (λj=>by rw [hk,e1]) (hkl.trans e2)
       have hn2:K2.next=H.next:=hkn.trans e3
       have:=qMI (fn:=fn) (tmps:=tmps) (R:=R) hco hfr hname hσ h4 hput.1 (by rw [hn2];exact hf) hd λρ' w' p=>hQ ρ' w' ⟨by rw [← hn2];exact p.ext,p.wr,hput.2.trans p.below⟩
       unfold LeavesInM
       exact ⟨by simp,.inl ⟨L.blk,_,rfl,run_takeDeferred hobj,this⟩⟩
   | _=>exact (qAB h2).elim
 | .call k args :: ms,ds,H,H',ρ,w,h,hwr,hf,hd,hQ=>by
   unfold DRel at hd
   obtain ⟨cs,fs,ds',rfl,hrel,hd⟩:=hd
   obtain ⟨u,K,h1,h2⟩:=qAN h
   have m1:H.next≤K.next:=by obtain ⟨es,d,_⟩:=qSq P hfr k args H u K h1;exact d.next
   have m2:K.next≤H'.next:=by obtain ⟨es,d,_⟩:=qCC P hfr ms K () H' h2;exact d.next
   obtain ⟨q1,q2⟩:=qW7 (R:=fun
      | .returned _,u',w'=>LeavesInM Fence.wide 0 P fn tmps R ds' (settle u') w'
      | .panicked chain,u',w'=>LeavesInM Fence.wide 0 P fn tmps R ds' (raised u' chain) w'
      | .outgrown,_,w'=>R .outgrown w') hco hfr hname h1 hσ hwr (hf.left m2) hrel λv ρ1 w1 p1=>by
    show LeavesInM Fence.wide 0 P fn tmps R ds' (settle .returning) w1
    exact qMI (fn:=fn) (tmps:=tmps) (R:=R) hco hfr hname hσ h2 p1.wr (p1.ext.free hf m1) (hd.mono p1.ext.le) λρ2 w2 p2=>hQ ρ2 w2 ⟨p1.ext.trans p2.ext m1 m2,p2.wr,p1.below.trans p2.below⟩
   unfold LeavesInM
   refine ⟨by simp,.inr ⟨λh=>by simp [Fence.wide] at h,.func k,cs,k,fs ++ cs,rfl,?_,λ_ _=>trivial,q2⟩⟩
   simp only [invoke]
   exact qMR hname q1 _ w
theorem qVx (hco:qDq P n ih) (hfr:∀ t,Fr (ih t)) (hname:qDn P) {f:FuncId} {args:List AV} {v:AV} (h:qBg P ih f args H=some (.val v,H')) {args':Array Value} (hσ:One σ) (hwr:WR σ ρ base H w) (hf:Free ρ H.next H'.next) (hr:RelL σ ρ args args'.toList) :
  CallsIn Fence.wide 0 P f args' w (qBl σ ρ base H H' w v):=by
 unfold qBg at h
 cases hfn:P.funcs[f]? with
 | none=>simp only [hfn] at h;exact (qAB h).elim
 | some fn=>
   simp only [hfn] at h
   cases hb:fn.body with
   | none=>simp only [hb] at h;exact (qAB h).elim
   | some c=>
     simp only [hb] at h
     obtain ⟨hle,h⟩:=qAj h
     have hle:args.length≤fn.ntmps:=by simpa [Nat.ble_eq] using hle
     obtain ⟨o,K,h1,h2⟩:=qAN h
     obtain ⟨e,T1,ms1,rfl,k1⟩:=hco _ _ _ _ _ _ _ _ h1
     have m1:=qGO hfr h1
     have key:∀ a1 w1 ρ1,CodePost σ ρ base fn.ntmps H K w T1 ms1 ρ1 a1 w1→bd (qAx P ih ms1) (λ_=>bd (qBB P T1 fn.results.toList) λvs=>ret (Out.val (oneV vs))) K=some (Out.val v,H')→
       LeavesInM Fence.wide 0 P fn a1.tmps (qBl σ ρ base H H' w v) a1.defers .returning w1:=by
      intro a1 w1 ρ1 p1 h3
      obtain ⟨u,K2,h4,h5⟩:=qAN h3
      obtain ⟨vs,K3,h6,h7⟩:=qAN h5
      cases qAG h7
      have m2:K.next≤K2.next:=by obtain ⟨es,d,_⟩:=qCC P hfr ms1 K () K2 h4;exact d.next
      have m3:K2.next≤H'.next:=by obtain ⟨es,d,_⟩:=qCM P T1 fn.results.toList K2 vs H' h6;exact d.next
      refine qMI (fn:=fn) (tmps:=a1.tmps) (R:=qBl σ ρ base H H' w (oneV vs)) hco hfr hname hσ h4 p1.post.wr ((p1.post.ext.free hf m1).left m3) p1.defers λρ2 w2 p2=>?_
      obtain ⟨b1,b2,b3,vs',b4,b5⟩:=qG1 (P:=P) (p1.tmps.mono p2.ext.le) p2.wr _ K2 _ vs rfl rfl h6
      refine ⟨_,qJp b4,_,ρ2,rfl,⟨?_,p2.wr.log b1 b2,p1.post.below.trans p2.below⟩,qQp b5⟩
      rw [b3]
      exact p1.post.ext.trans p2.ext m1 m2
     have hnext:∀ h3:bd (qAx P ih ms1) (λ_=>bd (qBB P T1 fn.results.toList) λvs=>ret (Out.val (oneV vs))) K=some (.val v,H'),K.next≤H'.next:=λh3=>by
      obtain ⟨es,d,_⟩:=qA3 (qCC P hfr ms1) (λ_=>qA3 (qCM P T1 fn.results.toList) λvs=>qAl (Out.val (oneV vs))) K _ H' h3
      exact d.next
     refine callsIn_of_wp_marks hfn hb trivial ?_ rfl
     have hstart:=qDI (nt:=fn.ntmps) hr hle
     cases e with
     | exit id=>exact (qAB h2).elim
     | nrm=>exact ACode.wp (n:=n) (k1 σ ρ base w { tmps:=args' ++ Array.replicate (fn.ntmps - args'.size) undef,defers:=[] } none _ hσ hwr (hf.left (hnext h2)) hstart rfl rfl λa1 w1 ρ1 p1=>key a1 w1 ρ1 p1 h2)
     | ret=>exact ACode.wp (n:=n) (k1 σ ρ base w { tmps:=args' ++ Array.replicate (fn.ntmps - args'.size) undef,defers:=[] } none _ hσ hwr (hf.left (hnext h2)) hstart rfl rfl λa1 w1 ρ1 p1=>key a1 w1 ρ1 p1 h2)
end
end Go.AM
namespace Go.AM
open Go Go.RowKit
section
variable {P : Program} {σ : Nat → Value} {ρ : Ren} {base nt : Nat} {H H' : AH} {w : World} {T : Tmps} {a : Act} {ih : Task → M Out} {n : Nat}
theorem Post.trans {ρ1 ρ2:Ren} {K:AH} {w1 w2:World} (h:Post σ ρ ρ1 base H K w w1) (k:Post σ ρ1 ρ2 base K H' w1 w2) (m1:H.next≤K.next) (m2:K.next≤H'.next):Post σ ρ ρ2 base H H' w w2:=
 ⟨h.ext.trans k.ext m1 m2,k.wr,h.below.trans k.below⟩
theorem qM4 {l:Nat} {L:Loc} {st st2:LoopState} {pd pd2:Option Code} {nt2:Nat} {T2:Tmps} {ps:List Tmp} {as bo:Code} {d:Nat} {u:Unit} (hwr:WR σ ρ base H w) (hL:ρ l=some L)
  (hb:H.blks.get l=some (.loop st pd nt2 T2 ps as bo d)) (h:wr l (.loop st2 pd2 nt2 T2 ps as bo d) H=some (u,H')) :
  H'.next=H.next∧∃ r:Loop,w.heap[L.blk]?=some (.loop r)∧r.state=st∧r.pending=pd∧WR σ ρ base H' (w.putObj L.blk (.loop { r with state:=st2,pending:=pd2 }))∧Below base w (w.putObj L.blk (.loop { r with state:=st2,pending:=pd2 })):=by
 obtain ⟨hlo,⟨b0,hb0⟩,hk,hkl,hkn⟩:=qGc h
 obtain ⟨L',hL',fn,tm,D,q1,q2,q3⟩:=hwr.blk l _ hb
 rw [hL] at hL';cases hL'
 refine ⟨hkn,_,q2,rfl,rfl,?_⟩
 exact hwr.put (b:=.loop st2 pd2 nt2 T2 ps as bo d) hb hL hlo (qPK _ q2) ⟨fn,tm,D,q1,rfl,q3⟩ hk hkl
theorem qUD {l:Nat} {L:Loc} {e:AExit} {v:AV} (hwr:WR σ ρ base H w) (hL:ρ l=some L) (h:qIH l e H=some (.val v,H')) (Q:Act) :
  H'.next=H.next∧∀ R:Ending→World→Prop,(∀ v' w',WR σ ρ base H' w'→Below base w w'→Rel σ ρ v v'→R (.returned v') w')→roundPost P L.blk R (qRT e) Q w:=by
 obtain ⟨blk,K,h1,h2⟩:=qAN h
 obtain ⟨hb,e1,e2,e3⟩:=qBW h1
 cases blk with
 | loop st pd nt2 T2 ps as bo d=>
   have hwr':WR σ ρ base K w:=hwr.log e1 e2
   have hb':K.blks.get l=some (.loop st pd nt2 T2 ps as bo d):=by rw [e1];exact hb
   cases e with
   | nrm=>
     obtain ⟨u,K2,h3,h4⟩:=qAN h2
     cases qAG h4
     obtain ⟨n1,r,q1,q2,q3,q4,q5⟩:=qM4 hwr' hL hb' h3
     exact ⟨n1.trans e3,λR k=>⟨_,_,run_endRound none q1,k _ _ q4 q5 (by unfold Rel;rfl)⟩⟩
   | ret=>
     obtain ⟨u,K2,h3,h4⟩:=qAN h2
     cases qAG h4
     obtain ⟨n1,r,q1,q2,q3,q4,q5⟩:=qM4 hwr' hL hb' h3
     exact ⟨n1.trans e3,λR k=>⟨_,_,run_endRound (some .ret) q1,k _ _ q4 q5 (by unfold Rel;rfl)⟩⟩
   | exit id=>
     obtain ⟨u,K2,h3,h4⟩:=qAN h2
     cases qAG h4
     obtain ⟨n1,r,q1,q2,q3,q4,q5⟩:=qM4 hwr' hL hb' h3
     exact ⟨n1.trans e3,λR k=>⟨_,_,run_endRound (some (.exit id)) q1,k _ _ q4 q5 (by unfold Rel;rfl)⟩⟩
 | _=>exact (qAB h2).elim
theorem zAAp {l:Nat} {L:Loc} {u:Unit} (hwr:WR σ ρ base H w) (hL:ρ l=some L) (h:qUj l H=some (u,H')) :
  H'.next=H.next∧∃ w',(Instr.beginRound L.blk).run P w=.ok () w'∧WR σ ρ base H' w'∧Below base w w':=by
 obtain ⟨blk,K,h1,h2⟩:=qAN h
 obtain ⟨hb,e1,e2,e3⟩:=qBW h1
 cases blk with
 | loop st pd nt2 T2 ps as bo d=>
   cases st with
   | ready=>
     obtain ⟨n1,r,q1,q2,q3,q4,q5⟩:=qM4 (hwr.log (K:=K) e1 e2) hL (by rw [e1];exact hb) h2
     refine ⟨n1.trans e3,_,run_beginRound q1 q2,?_,?_⟩
     ·have:{ r with state:=LoopState.busy,pending:=pd }={ r with state:=LoopState.busy }:=by rw [← q3]
      rw [this] at q4;exact q4
     ·have:{ r with state:=LoopState.busy,pending:=pd }={ r with state:=LoopState.busy }:=by rw [← q3]
      rw [this] at q5;exact q5
   | _=>exact (qAB h2).elim
 | _=>exact (qAB h2).elim
theorem qS4 (hco:qDq P n ih) (hfr:∀ t,Fr (ih t)) {l:Nat} {args:List AV} {v:AV} (h:qGD ih l args H=some (.val v,H')) {args':Array Value} {L:Loc} {nx:Next} (hσ:One σ) (hwr:WR σ ρ base H w) (hf:Free ρ H.next H'.next) (hL:ρ l=some L) (hr:RelL σ ρ args args'.toList)
  (hy:(Instr.yield L.blk args').run P w=.ok nx w):∃ fn tm as bo,nx=.round L.blk fn tm as bo∧RoundIn Fence.wide 0 P L.blk fn tm as bo w (qBl σ ρ base H H' w v):=by
 obtain ⟨blk,K,h1,h2⟩:=qAN h
 obtain ⟨hb,e1,e2,e3⟩:=qBW h1
 cases blk with
 | loop st pd nt2 T0 ps as bo d=>
   obtain ⟨L',hL',fn,tm,D,q1,q2,q3⟩:=hwr.blk l _ hb
   rw [hL] at hL';cases hL'
   simp only at h2
   cases hs:qFb nt2 T0 ps args with
   | none=>simp only [hs] at h2;exact (qAB h2).elim
   | some T1=>
     simp only [hs] at h2
     have hsz:args'.size=ps.length:=by
      have h1:∀ (ps:List Tmp) (args:List AV) (T T':Tmps),qFb nt2 T ps args=some T'→args.length=ps.length:=by
       intro ps
       induction ps with
       | nil=>intro args T T' h;cases args with | nil=>rfl | cons x xs=>cases h
       | cons p ps ih2=>
         intro args T T' h
         cases args with
         | nil=>cases h
         | cons x xs=>simp only [qFb] at h;obtain ⟨_,h⟩:=qAS h;simp [ih2 xs _ _ h]
      have:=h1 ps args T0 T1 hs
      have:=hr.length
      simp at this;omega
     rw [run_yield q2 (by simpa using hsz)] at hy
     cases hy
     refine ⟨_,_,_,_,rfl,?_⟩
     obtain ⟨o,K1,h3,h4⟩:=qAN h2
     have m1:=qGO hfr h3
     obtain ⟨e,T2,ms2,rfl,k1⟩:=hco _ _ _ _ _ _ _ _ h3
     cases e with
     | ret=>exact (qAB h4).elim
     | exit id=>exact (qAB h4).elim
     | nrm=>
       cases ms2 with
       | cons m ms=>exact (qAB h4).elim
       | nil=>
         obtain ⟨u,K2,h5,h6⟩:=qAN h4
         obtain ⟨o,K3,h7,h8⟩:=qAN h6
         have m3:=qGO hfr h7
         obtain ⟨e,T3,ms3,rfl,k2⟩:=hco _ _ _ _ _ _ _ _ h7
         have h8:qIH l e K3=some (.val v,H'):=h8
         have n2:K2.next=K1.next:=by
          obtain ⟨blk,A,g1,g2⟩:=qAN h5
          obtain ⟨_,_,_,e3⟩:=qBW g1
          split at g2
          ·obtain ⟨_,_,_,_,e4⟩:=qGc g2;rw [e4,e3]
          ·exact (qAB g2).elim
         have m4:K3.next≤H'.next:=by
          obtain ⟨es,d,_⟩:=qLV l e K3 _ H' h8
          exact d.next
         have htm:TRel σ ρ nt2 T1 ((ps.toArray.zip args').foldl (λtmps (x:Tmp × Value)=>tmps.setIfInBounds x.1 x.2) tm):=by
          have:=qKI ps args args'.toList T0 T1 tm hs q3 hr
          rw [← Array.foldl_toList]
          simpa using this
         have hwrK:WR σ ρ base K w:=hwr.log e1 e2
         refine roundIn_of_wpIn trivial ?_
         have:=k1 σ ρ base w { tmps:=((ps.toArray.zip args').foldl (λtmps (x:Tmp × Value)=>tmps.setIfInBounds x.1 x.2) tm),defers:=[] } (some L.blk)
          (Exit.then (λa₁ w₁=>∃ w₂,(Instr.beginRound L.blk).run P w₁=.ok () w₂∧bo.wpIn (Fence.wide.inRound L.blk) 0 P (roundPost P L.blk (qBl σ ρ base H H' w v)) a₁ w₂) (λ_ _ _=>False))
          hσ hwrK (by rw [e3];exact hf.left (by omega)) htm ⟨L,hL,rfl⟩ rfl ?_
         ·exact this.wp
         ·intro a1 w1 ρ1 p1
          have hL1:ρ1 l=some L:=p1.post.ext.le _ _ hL
          obtain ⟨n3,w2,g1,g2,g3⟩:=zAAp (P:=P) p1.post.wr hL1 h5
          refine ⟨w2,g1,?_⟩
          have hf1:Free ρ1 K1.next H'.next:=p1.post.ext.free (by rw [e3];exact hf) m1
          have:=k2 σ ρ1 base w2 a1 (some L.blk) (roundPost P L.blk (qBl σ ρ base H H' w v)) hσ g2 (by rw [n2];exact hf1.left m4) p1.tmps ⟨L,hL1,rfl⟩ p1.defers ?_
          ·exact this.wp
          ·intro a3 w3 ρ3 p3
           have hL3:ρ3 l=some L:=p3.post.ext.le _ _ hL1
           obtain ⟨n4,k3⟩:=qUD (P:=P) (v:=v) p3.post.wr hL3 h8 a3
           refine k3 _ λv' w' x1 x2 x3=>⟨v',ρ3,rfl,⟨?_,x1,?_⟩,x3⟩
           ·rw [n4]
            have y1:Ext ρ ρ1 H.next K1.next:=by rw [← e3];exact p1.post.ext
            have y2:Ext ρ1 ρ3 K1.next K3.next:=by rw [← n2];exact p3.post.ext
            exact y1.trans y2 (by omega) (by omega)
           ·exact ((p1.post.below.trans g3).trans p3.post.below).trans x2
 | _=>exact (qAB h2).elim
end
end Go.AM
namespace Go.AM
open Go Go.RowKit
section
variable {P : Program} {σ : Nat → Value} {ρ : Ren} {base nt : Nat} {H H' : AH} {w : World} {T : Tmps} {a : Act} {ih : Task → M Out} {n : Nat}
theorem qNP {b:ABlk} {id:Nat} {o:Obj} {L:Loc} (hL:L.blk=w.heap.size) (h:nw b H=some (id,H')) (hwr:WR σ ρ base H w) (hf:Free ρ H.next H'.next) (hb:∀ ρ',Le ρ ρ'→BR σ ρ' True L b (some o)) :
  H'.next=H.next+1∧∃ ρ',Post σ ρ ρ' base H H' w (w.alloc o)∧ρ' id=some L:=by
 obtain ⟨rfl,hlo,hk,hkl,hkn⟩:=qJZ h
 obtain ⟨ρ',x1,x2,x3,x4⟩:=hwr.new (L:=L) (b:=b) (hf H.next (Nat.le_refl _) (by omega)) (λj bj Lj hj hLj=>by rw [hL];exact Nat.ne_of_lt (qK8 hwr hj hLj)) (by rw [hL];exact hwr.base)
  (by rw [hL];exact qMP w o) (λρ' hle _=>hb ρ' hle) hk hkl hkn
 exact ⟨hkn,ρ',⟨x1,x3,x4⟩,x2⟩
theorem qZc {rA r:Option Nat} {ps:Array Tmp} {as bo:Code} {d l:Nat} {ms:List Nat} {K:AH} (hr:RR ρ rA r) (h1:qNB rA H=some ((d,ms),K)) (h2:nw (.loop .ready none nt T ps.toList as bo d) K=some (l,H'))
  (hwr:WR σ ρ base H w) (hf:Free ρ H.next H'.next) (hT:TRel σ ρ nt T a.tmps) (fn:FuncId) :
  ∃ L mark w' ρ',(Instr.enterLoop fn a.tmps ps as bo r).run P w=.ok (L.blk,mark) w'∧Post σ ρ ρ' base H H' w w'∧ρ' l=some L∧DRel σ ρ' (ms.map .mark) mark:=by
 cases rA with
 | none=>
   unfold RR at hr;subst hr
   obtain ⟨r0,K1,g1,g2⟩:=qAN h1
   cases qAG g2
   obtain ⟨_,_,_,_,n2⟩:=qJZ h2
   obtain ⟨n1,ρ1,p1,q1⟩:=qNP (σ:=σ) (w:=w) (o:=.deferred (some [])) (L:=⟨w.heap.size,0,0⟩) rfl g1 hwr (hf.left (by omega)) (λ_ _=>rfl)
   obtain ⟨_,ρ2,p2,q2⟩:=qNP (σ:=σ) (w:=w.alloc (.deferred (some []))) (o:=.loop { state:=.ready,pending:=none,fn,tmps:=a.tmps,params:=ps,assign:=as,body:=bo,defers:=w.heap.size }) (L:=⟨w.heap.size+1,0,0⟩) (by simp) h2 p1.wr (p1.ext.free hf (by omega))
    (λρ' hle=>⟨fn,a.tmps,⟨w.heap.size,0,0⟩,hle _ _ q1,rfl,hT.mono (p1.ext.le.trans hle)⟩)
   refine ⟨⟨w.heap.size+1,0,0⟩,_,_,ρ2,run_enterLoop_outer fn a.tmps ps as bo,p1.trans p2 (by omega) (by omega),q2,?_⟩
   exact ⟨⟨w.heap.size,0,0⟩,[],p2.ext.le _ _ q1,rfl,rfl⟩
 | some l0=>
   obtain ⟨L0,hL0,rfl⟩:=hr
   obtain ⟨blk,K1,g1,g2⟩:=qAN h1
   obtain ⟨hb,e1,e2,e3⟩:=qBW g1
   cases blk with
   | loop st pd nt2 T2 ps2 as2 bo2 d2=>
     cases qAG g2
     obtain ⟨L',hL',fn2,tm2,D,q1,q2,q3⟩:=hwr.blk l0 _ hb
     rw [hL0] at hL';cases hL'
     obtain ⟨_,ρ2,p2,q4⟩:=qNP (σ:=σ) (w:=w) (o:=.loop { state:=.ready,pending:=none,fn,tmps:=a.tmps,params:=ps,assign:=as,body:=bo,defers:=D.blk }) (L:=⟨w.heap.size,0,0⟩) rfl h2 (hwr.log e1 e2) (by rw [e3];exact hf)
      (λρ' hle=>⟨fn,a.tmps,D,hle _ _ q1,rfl,hT.mono hle⟩)
     refine ⟨⟨w.heap.size,0,0⟩,_,_,ρ2,run_enterLoop_inner q2 fn a.tmps ps as bo,⟨by rw [← e3];exact p2.ext,p2.wr,p2.below⟩,q4,rfl⟩
   | _=>exact (qAB g2).elim
theorem qRq (hname:qDn P) {rA:Option Nat} {x:Operand} {ps:Array Tmp} {as bo:Code} {ms:List Mk} {o:Out} (hco:qDq P n ih) (hc:qFf P ih) (hfr:∀ t,Fr (ih t)) (h:qAv P ih nt rA (.rangeFunc x ps as bo) T ms H=some (o,H')) :
  Goal P (n+1) nt rA (.rangeFunc x ps as bo) T ms H o H':=by
 unfold qAv at h
 simp only at h
 generalize hx:ev T x=fv at h
 split at h
 ·rename_i k first cap
  obtain ⟨hk,h⟩:=qAj h
  obtain ⟨⟨d,ms0⟩,K1,h1,h⟩:=qAN h
  obtain ⟨l,K2,h2,h⟩:=qAN h
  obtain ⟨u,K3,h3,h⟩:=qAN h
  obtain ⟨blk,K4,h4,h⟩:=qAN h
  have h3:=qUR h3
  obtain ⟨hb4,e1,e2,e3⟩:=qBW h4
  cases blk with
  | loop st pd nt2 T2 ps2 as2 bo2 d2=>
    have hst:st≠.busy:=by rintro rfl;exact qAB (H:=K4) h
    have h:bd (wr l (.loop .exhausted pd nt2 T2 ps2 as2 bo2 d2)) (λ_=>match pd with
      | none=>ret (.exit .nrm T (ms0.map .mark ++ ms))
      | some c=>ih (.code nt rA c T (ms0.map .mark ++ ms))) K4=some (o,H'):=by
     cases st <;> first | exact h | exact absurd rfl hst
    obtain ⟨u2,K5,h5,h⟩:=qAN h
    have m1:H.next≤K1.next:=by obtain ⟨es,d,_⟩:=qRl rA H _ K1 h1;exact d.next
    have m2:K1.next≤K2.next:=by obtain ⟨_,_,_,_,n2⟩:=qJZ h2;omega
    have m3:=qGO hfr h3
    have m5:K5.next=K3.next:=by obtain ⟨_,_,_,_,e4⟩:=qGc h5;rw [e4,e3]
    have main:∀ (e:AExit) (T':Tmps) (ms':List Mk) (m6:K5.next≤H'.next),(∀ (σ:Nat→Value) (ρ:Ren) (base:Nat) (w:World) (a:Act) (r:Option Nat) (Q:Exit→Act→World→Prop),One σ→WR σ ρ base K5 w→Free ρ K5.next H'.next→TRel σ ρ nt T a.tmps→RR ρ rA r→DRel σ ρ (ms0.map .mark ++ ms) a.defers→
      (∀ a' w' ρ',CodePost σ ρ base nt K5 H' w T' ms' ρ' a' w'→Q (qRT e) a' w')→(match (generalizing:=false) pd with | none=>Q .normal a w | some c=>c.wpIn (FR r) 0 P Q a w))→
      ∀ (σ:Nat→Value) (ρ:Ren) (base:Nat) (w:World) (a:Act) (r:Option Nat) (Q:Exit→Act→World→Prop),One σ→WR σ ρ base H w→Free ρ H.next H'.next→TRel σ ρ nt T a.tmps→RR ρ rA r→DRel σ ρ ms a.defers→
       (∀ a' w' ρ',CodePost σ ρ base nt H H' w T' ms' ρ' a' w'→Q (qRT e) a' w')→ACode r (n+1) P (.rangeFunc x ps as bo) Q a w:=by
     intro e T' ms' m6 kk σ ρ base w a r Q hσ hwr hf hT hr hd hQ
     refine wpIn_rangeFunc λfn _=>?_
     obtain ⟨L,mark,w1,ρ1,a1,p1,q1,q2⟩:=qZc (P:=P) (fn:=fn) hr h1 h2 hwr (hf.left (by omega)) hT
     have hv:=qAu (a:=a) hx hT
     unfold Rel at hv
     obtain ⟨fs,cs,he,g1,g2⟩:=hv
     have hres:(resolve a.eval (rangeCall x L.blk) 0).run P w1=.ok { target:=.fn (.func k) cs,args:=fs ++ #[.func (.yield L.blk) #[] #[]] } w1:=by
      have e1:(#[Operand.const (.func (.yield L.blk) #[] #[])].map a.eval:Array Value)=#[.func (.yield L.blk) #[] #[]]:=by simp [Act.eval]
      simp only [resolve,e1,he,Deferred.ofValue,Sem.run_pure]
     have hyl:Rel σ ρ1 (.yield l) (.func (.yield L.blk) #[] #[]):=by unfold Rel;exact ⟨L,q1,rfl⟩
     have hargs:RelL σ ρ1 (first ++ [.yield l] ++ cap) (fs ++ #[Value.func (.yield L.blk) #[] #[]] ++ cs).toList:=by
      have:=((RelL.mono p1.ext.le _ _ g1).append (.cons hyl .nil)).append (RelL.mono p1.ext.le _ _ g2)
      simpa using this
     have hcall:=hc k _ K2 u K3 h3 σ ρ1 base w1 _ hσ p1.wr ((p1.ext.free hf (by omega)).left (by omega)) hargs
     refine ⟨L.blk,mark,w1,_,w1,k,fs ++ #[Value.func (.yield L.blk) #[] #[]] ++ cs,w1,a1,hres,λ_ _=>trivial,?_,λh=>by simp [FR,Fence.wide] at h,?_⟩
     ·simp only [invoke]
      exact qMR hname hk _ w1
     ·have h5':CallsIn (FR r) 0 P k (fs ++ #[Value.func (.yield L.blk) #[] #[]] ++ cs) w1 (qBl σ ρ1 base K2 K3 w1 u):=hcall
      refine h5'.mono ?_
      rintro en w3 ⟨v',ρ3,rfl,p3,_⟩
      have hL3:ρ3 l=some L:=p3.ext.le _ _ q1
      obtain ⟨n5,rc,b1,b2,b3,b4,b5⟩:=qM4 (p3.wr.log (K:=K4) e1 e2) hL3 (by rw [e1];exact hb4) h5
      refine ⟨pd,w3.putObj L.blk (.loop { rc with state:=.exhausted }),by rw [← b3];exact run_endLoop b1 (by rw [b2];exact hst),?_⟩
      have erc:{ rc with state:=LoopState.exhausted,pending:=pd }={ rc with state:=LoopState.exhausted }:=by rw [← b3]
      rw [erc] at b4 b5
      have pall:Post σ ρ ρ3 base H K5 w (w3.putObj L.blk (.loop { rc with state:=.exhausted })):=
       ⟨by rw [m5];exact (p1.trans p3 (by omega) (by omega)).ext,b4,((p1.below.trans p3.below).trans b5)⟩
      refine kk σ ρ3 base _ { a with defers:=mark ++ a.defers } r Q hσ b4 (pall.ext.free hf (by omega)) (hT.mono pall.ext.le) (hr.mono pall.ext.le) ((q2.mono p3.ext.le).append (hd.mono pall.ext.le)) ?_
      intro a' w' ρ' p'
      exact hQ a' w' ρ' ⟨pall.trans p'.post (by omega) (by omega),p'.tmps,p'.defers⟩
    cases pd with
    | none=>
      cases qAG h
      refine ⟨.nrm,T,ms0.map .mark ++ ms,rfl,main .nrm T (ms0.map .mark ++ ms) (Nat.le_refl _) ?_⟩
      intro σ ρ base w a r Q hσ hwr hf hT hr hd hQ
      exact hQ a w ρ (.stay hwr hT hd)
    | some c=>
      have m6:=qGO hfr h
      obtain ⟨e,T',ms',rfl,kk⟩:=hco _ _ _ _ _ _ _ _ h
      exact ⟨e,T',ms',rfl,main e T' ms' m6 λσ ρ base w a r Q hσ hwr hf hT hr hd hQ=>(kk σ ρ base w a r Q hσ hwr hf hT hr hd hQ).wp⟩
  | _=>exact (qAB h).elim
 ·exact (qAB h).elim
theorem qWH (hm:P.follows .mixedOrders=true) (hname:qDn P) (hco:qDq P n ih) (hc:qFf P ih) (hro:qDa P ih) (hfr:∀ t,Fr (ih t)) {rA:Option Nat} {c:Code} {ms:List Mk} {o:Out} (h:qAv P ih nt rA c T ms H=some (o,H')) :
  Goal P (n+1) nt rA c T ms H o H':=by
 cases c with
 | skip=>
   cases qAG h
   exact ⟨.nrm,T,ms,rfl,λσ ρ base w a r Q hσ hwr hf hT hr hd hQ=>wpIn_skip (hQ a w ρ (.stay hwr hT hd))⟩
 | exit id=>
   cases qAG h
   exact ⟨.exit id,T,ms,rfl,λσ ρ base w a r Q hσ hwr hf hT hr hd hQ=>wpIn_exit (hQ a w ρ (.stay hwr hT hd))⟩
 | ret=>
   cases qAG h
   exact ⟨.ret,T,ms,rfl,λσ ρ base w a r Q hσ hwr hf hT hr hd hQ=>wpIn_ret (hQ a w ρ (.stay hwr hT hd))⟩
 | region id ops draw=>exact qXy hm hname hc hro hfr h
 | seq x y=>exact zADz hco hfr h
 | cond x y z=>exact zACm hco h
 | block id c=>exact qZt hco h
 | loop c=>exact zACP hco hfr h
 | rangeFunc x ps as bo=>exact qRq hname hco hc hfr h
 | _=>exact (qAB (H:=H) h).elim
def ExtOK (P:Program) (X:Td):Prop:=FrX X∧∀ (f:FuncId) (g:List AV→M AV),X f=some g→∀ (args:List AV) (H:AH) (v:AV) (H':AH),g args H=some (v,H')→
 ∀ (σ:Nat→Value) (ρ:Ren) (base:Nat) (w:World) (args':Array Value),One σ→WR σ ρ base H w→Free ρ H.next H'.next→RelL σ ρ args args'.toList→CallsIn Fence.wide 0 P f args' w (qBl σ ρ base H H' w v)
theorem zABW (hm:P.follows .mixedOrders=true) (hname:qDn P) {X:Td} (hX:ExtOK P X):∀ n,qDq P n (run P X n)∧qFf P (run P X n)∧qDa P (run P X n):=by
 intro n
 induction n with
 | zero=>
   refine ⟨λ_ _ _ _ _ H _ _ h=>(qAB (H:=H) h).elim,λ_ _ H _ _ h=>(qAB (H:=H) h).elim,λ_ _ H _ _ h=>(qAB (H:=H) h).elim⟩
 | succ n ih=>
   obtain ⟨h1,h2,h3⟩:=ih
   refine ⟨λnt rA c T ms H o H' h=>qWH hm hname h1 h2 h3 (qEr P hX.1 n) h,λf args H v H' h σ ρ base w args' hσ hwr hf hr=>?_,
    λl args H v H' h σ ρ base w args' L nx hσ hwr hf hL hr hy=>qS4 h1 (qEr P hX.1 n) h hσ hwr hf hL hr hy⟩
   have h:qIP P X (run P X n) (.call f args) H=some (Out.val v,H'):=h
   cases hg:X f with
   | some g=>
     have e:qIP P X (run P X n) (.call f args)=bd (g args) λv=>ret (Out.val v):=by
      show (match X f with
       | some g=>bd (g args) λv=>ret (Out.val v)
       | none=>qBg P (run P X n) f args)=_
      rw [hg]
     rw [e] at h
     obtain ⟨v1,H1,h,h'⟩:=qAN h
     cases qAG h'
     exact hX.2 f g hg args H v H' h σ ρ base w args' hσ hwr hf hr
   | none=>
     have e:qIP P X (run P X n) (.call f args)=qBg P (run P X n) f args:=by
      show (match X f with
       | some g=>bd (g args) λv=>ret (Out.val v)
       | none=>qBg P (run P X n) f args)=_
      rw [hg]
     rw [e] at h
     exact qVx h1 (qEr P hX.1 n) hname h hσ hwr hf hr
def empty:AH:={ blks:=.nil,next:=0,lo:=0,log:=[] }
theorem qLM (hm:P.follows .mixedOrders=true) (hname:qDn P) {X:Td} (hX:ExtOK P X) {n:Nat} {f:FuncId} {args:List AV} {v:AV} {H H':AH} (h:run P X n (.call f args) H=some (.val v,H')) (σ:Nat→Value) (hσ:One σ) (ρ:Ren) (w:World)
  (hwr:WR σ ρ w.heap.size H w) (hf:Free ρ H.next H'.next) (args':Array Value) (hr:RelL σ ρ args args'.toList) :
  Calls P f args' w λe w'=>∃ v' ρ',e=.returned v'∧Rel σ ρ' v v'∧WR σ ρ' w.heap.size H' w'∧Below w.heap.size w w':=by
 have:=(zABW hm hname hX n).2.1 f args H v H' h σ ρ w.heap.size w args' hσ hwr hf hr
 refine callsIn_wide.1 (this.mono ?_)
 rintro e w' ⟨v',ρ',rfl,p,hv⟩
 exact ⟨v',ρ',rfl,hv,p.wr,p.below⟩
end
end Go.AM
namespace Go.AM
open Go Go.RowKit Go.ChangeShapes Go.WideShapes Go.ChangeAt
def isTrue:Option (Out × AH)→Bool
 | some (.val (.bool true),_)=>true
 | _=>false
theorem qS6 {r:Option (Out × AH)} (h:isTrue r=true):∃ H',r=some (.val (.bool true),H'):=by
 unfold isTrue at h
 split at h
 ·exact ⟨_,rfl⟩
 ·cases h
def noNumB (P:Program):Bool:=P.funcs.toList.all λfn=>!(fn.name == "runtime.NumGoroutine")
theorem qQC {P:Program} (h:noNumB P=true):qDn P:=by
 intro k fn hk e
 have hm:fn∈P.funcs.toList:=Array.mem_def.1 (Array.mem_of_getElem? hk)
 have:=List.all_eq_true.1 h fn hm
 simp [e] at this
theorem post_of_below {H:Type} {enc:TypeId × Value→H} {P:Program} {f:Func} {s:ChangeSpec} {apart fresh handsOn again:Bool} {W W':World} {args:Array Value} {v:Value} {ds gs:List (DataW H)} {before pa pv:List MemPlace}
  (hW:DataW.Whole enc P f.params.toList s.vars apart W args.toList ds gs before) (hb:Below W.heap.size W W')
  (hres:∀ (b:Nat) (sp:Nat→Bool) (hd:Bool),DataW.TrodAll enc P W' b sp hd f.resultTypes.toList (v.resultList f.resultTypes.size) (s.fn H (ds ++ gs)).results [])
  (hargs:∀ sp:Nat→Bool,(∀ p∈before,sp p.block=true)→DataW.TrodAll enc P W' 0 sp true f.params.toList args.toList (s.fn H (ds ++ gs)).args pa)
  (hvars:∀ sp:Nat→Bool,(∀ p∈before,sp p.block=true)→DataW.TrodVars enc P W' sp s.vars (s.fn H (ds ++ gs)).vars pv)
  (hps:before=pa ++ pv)
  (hok:∀ (j:Nat) (t:TypeId) (r:Value),f.resultTypes[j]?=some t→(v.resultList f.resultTypes.size)[j]?=some r→Value.okWide P W' .any 0 t r) :
  s.post enc P f apart fresh handsOn again W args v W':=by
 have hold:∀ p∈before,(λb=>decide (b < W.heap.size)) p.block=true:=λp hp=>by simpa using hW.lt p hp
 have hlt:=hW.lt
 refine ⟨ds,gs,before,[],pa,pv,hW,hres _ _ _,hargs _ hold,hvars _ hold,World.keptBut_mono (λp hp=>⟨hp,?_⟩) (hb.frame (·∈before)),λ_=>?_⟩
 ·rw [hps,List.mem_append] at hp
  exact Or.inr hp
 ·obtain ⟨_,_,_,_,_,hz,hn⟩:=hW
  refine ⟨hok,_,_,([] ++ pa) ++ pv,⟨[] ++ pa,pv,trodAll_append (hargs _ (λ_ _=>rfl)) (hres _ _ _),hvars _ (λ_ _=>rfl),rfl,?_,?_⟩,?_⟩
  ·intro b off hp
   have hm:MemPlace.cell b off∈before:=by rw [hps];simpa using hp
   rw [hb.frozen (p:=⟨b,off,none⟩) (hlt _ hm)]
   exact hz b off hm
  ·intro ha
   have:=hn ha
   rw [hps] at this
   simpa using this
  ·intro p hp _
   rw [hps]
   simpa using hp
end Go.AM
namespace Go.AM
open Go Go.RowKit
end Go.AM
namespace Go.AM
open Go
noncomputable section
def path (i:Nat):List Bool:=Nat.rec (motive:=λ_=>Nat→List Bool) (λ_=>[]) (λ_ ih i=>Nat.rec (motive:=λ_=>List Bool) [] (λj _=>Nat.beq (Nat.mod j 2) 0 :: ih (Nat.div j 2)) i) (Nat.succ i) i
def zAEq {α:Type} (v:Option α) (gl gr:List Bool→Option α) (p:List Bool):Option α:=
 List.rec (motive:=λ_=>Option α) v (λb p _=>Bool.rec (motive:=λ_=>Option α) (gr p) (gl p) b) p
def gNil {α:Type} (_:List Bool):Option α:=none
def Tr.getP {α:Type} (t:Tr α):List Bool→Option α:=Tr.rec (motive:=λ_=>List Bool→Option α) gNil (λv _ _ gl gr=>zAEq v gl gr) t
def Tr.getR {α:Type} (t:Tr α) (i:Nat):Option α:=t.getP (path i)
def zAE1 {α:Type} (x:Option α) (t:Tr α):Tr α:=Tr.rec (motive:=λ_=>Tr α) (.node x .nil .nil) (λ_ l r _ _=>.node x l r) t
def pNil {α:Type} (ih:Tr α→Tr α) (b:Bool):Tr α:=Bool.rec (motive:=λ_=>Tr α) (.node none .nil (ih .nil)) (.node none (ih .nil) .nil) b
def zAEt {α:Type} (ih:Tr α→Tr α) (b:Bool) (v:Option α) (l r:Tr α):Tr α:=Bool.rec (motive:=λ_=>Tr α) (.node v l (ih r)) (.node v (ih l) r) b
def zAEs {α:Type} (ih:Tr α→Tr α) (b:Bool) (t:Tr α):Tr α:=Tr.rec (motive:=λ_=>Tr α) (pNil ih b) (λv l r _ _=>zAEt ih b v l r) t
def Tr.putP {α:Type} (x:Option α) (p:List Bool):Tr α→Tr α:=List.rec (motive:=λ_=>Tr α→Tr α) (zAE1 x) (λb _ ih=>zAEs ih b) p
def Tr.putR {α:Type} (t:Tr α) (i:Nat) (x:Option α):Tr α:=Tr.putP x (path i) t
def qW5 (f i:Nat):List Bool:=Nat.rec (motive:=λ_=>Nat→List Bool) (λ_=>[]) (λ_ ih i=>Nat.rec (motive:=λ_=>List Bool) [] (λj _=>Nat.beq (Nat.mod j 2) 0 :: ih (Nat.div j 2)) i) f i
theorem qKu (f j:Nat):qW5 (f+1) (j+1)=Nat.beq (j % 2) 0 :: qW5 f (j / 2):=rfl
theorem qVo:∀ (f g i:Nat),i < f→i < g→qW5 f i=qW5 g i:=by
 intro f
 induction f with
 | zero=>intro g i h;omega
 | succ f ih=>
   intro g i hf hg
   cases g with
   | zero=>omega
   | succ g=>
     cases i with
     | zero=>rfl
     | succ j=>rw [qKu,qKu,ih g (j / 2) (by omega) (by omega)]
theorem qXR (i:Nat):path i=qW5 (i+1) i:=rfl
theorem qST (j:Nat):path (j+1)=Nat.beq (j % 2) 0 :: path (j / 2):=by
 rw [qXR,qKu,qXR,qVo (j+1) (j / 2+1) (j / 2) (by omega) (by omega)]
def Tr.listR {α:Type} (t:Tr α) (i:Nat) (l:List α):Tr α:=List.rec (motive:=λ_=>Tr α→Nat→Tr α) (λt _=>t) (λx _ ih t i=>ih (t.putR i (some x)) (Nat.succ i)) l t i
theorem Tr.getR_eq {α:Type} (t:Tr α) (i:Nat):t.getR i=t.get i:=by
 unfold Tr.getR
 induction t generalizing i with
 | nil=>exact (Tr.get_nil i).symm
 | node v l r ihl ihr=>
   cases i with
   | zero=>rfl
   | succ j=>
     rw [qST]
     show Bool.rec (motive:=λ_=>Option α) (r.getP (path (j / 2))) (l.getP (path (j / 2))) (Nat.beq (j % 2) 0)=_
     simp only [Tr.get]
     cases Nat.beq (j % 2) 0
     ·exact ihr _
     ·exact ihl _
theorem Tr.putP_eq {α:Type} (x:Option α):∀ (f:Nat) (t:Tr α) (i:Nat),i < f→Tr.putP x (path i) t=Tr.setF f t i x:=by
 intro f
 induction f with
 | zero=>intro t i h;omega
 | succ f ih=>
   intro t i h
   cases i with
   | zero=>cases t <;> rfl
   | succ j=>
     have h2:j / 2 < f:=by omega
     rw [qST]
     cases t with
     | nil=>
       show Bool.rec (motive:=λ_=>Tr α) (.node none .nil (Tr.putP x (path (j / 2)) .nil)) (.node none (Tr.putP x (path (j / 2)) .nil) .nil) (Nat.beq (j % 2) 0)=cond (Nat.beq (j % 2) 0) (.node none (Tr.setF f .nil (j / 2) x) .nil) (.node none .nil (Tr.setF f .nil (j / 2) x))
       rw [ih .nil (j / 2) h2]
       cases Nat.beq (j % 2) 0 <;> rfl
     | node v l r=>
       show Bool.rec (motive:=λ_=>Tr α) (.node v l (Tr.putP x (path (j / 2)) r)) (.node v (Tr.putP x (path (j / 2)) l) r) (Nat.beq (j % 2) 0)=cond (Nat.beq (j % 2) 0) (.node v (Tr.setF f l (j / 2) x) r) (.node v l (Tr.setF f r (j / 2) x))
       rw [ih l (j / 2) h2,ih r (j / 2) h2]
       cases Nat.beq (j % 2) 0 <;> rfl
theorem Tr.putR_eq {α:Type} (t:Tr α) (i:Nat) (x:Option α):t.putR i x=t.put i x:=Tr.putP_eq x (i+1) t i (by omega)
theorem Tr.listR_eq {α:Type} (l:List α):∀ (t:Tr α) (i:Nat),t.listR i l=Tr.ofListAt t i l:=by
 induction l with
 | nil=>intro t i;rfl
 | cons x xs ih=>intro t i;show Tr.listR _ _ xs=_;rw [ih,Tr.putR_eq];rfl
def bdR {α β:Type} (m:Option (α × AH)) (f:α→AH→Option (β × AH)):Option (β × AH):=Option.rec (motive:=λ_=>Option (β × AH)) none (λp=>Prod.rec (motive:=λ_=>Option (β × AH)) f p) m
theorem qSQ {α β:Type} (m:M α) (f:α→M β) (H:AH):bdR (m H) (λa H=>f a H)=bd m f H:=by
 unfold bd
 cases m H with
 | none=>rfl
 | some p=>rfl
theorem qHJ {α β:Type} (m:M α) (f:α→M β) (H:AH) (g:α→AH→Option (β × AH)) (h:∀ a K,g a K=f a K):bdR (m H) g=bd m f H:=by
 rw [← qSQ,show g=λa K=>f a K from funext λa=>funext λK=>h a K]
def orU (o:Option AV):Option AV:=Option.rec (motive:=λ_=>Option AV) (some .undef) some o
structure XB where
 f:Tmps→Option AV
def xT (t:Nat) (T:Tmps):Option AV:=orU (T.getR t)
def xK (o:Option AV) (_:Tmps):Option AV:=o
def xb (x:Operand):XB:=match x with
 | .tmp t=>⟨xT t⟩
 | .const v=>⟨xK (ofV 2 v)⟩
 | .func f=>⟨xK (some (.fn (.func f) [] []))⟩
 | .global _=>⟨xK none⟩
def evR (T:Tmps) (x:Operand):Option AV:=XB.rec (motive:=λ_=>Option AV) (λf=>f T) (xb x)
theorem qEs (T:Tmps) (x:Operand):evR T x=ev T x:=by
 cases x with
 | tmp t=>show orU (T.getR t)=_;rw [Tr.getR_eq];unfold ev;simp only;cases T.get t <;> rfl
 | _=>rfl
def evsR (T:Tmps) (l:List Operand):Option (List AV):=List.rec (motive:=λ_=>Option (List AV)) (some []) (λx _ ih=>Option.rec (motive:=λ_=>Option (List AV)) none (λv=>Option.rec (motive:=λ_=>Option (List AV)) none (λvs=>some (v :: vs)) ih) (evR T x)) l
theorem qTn (T:Tmps) (l:List Operand):evsR T l=evs T l:=by
 induction l with
 | nil=>rfl
 | cons x xs ih=>
   show Option.rec (motive:=λ_=>Option (List AV)) none (λv=>Option.rec (motive:=λ_=>Option (List AV)) none (λvs=>some (v :: vs)) (evsR T xs)) (evR T x)=_
   rw [ih,qEs]
   cases h1:ev T x with
   | none=>simp [evs,h1]
   | some v=>cases h2:evs T xs <;> simp [evs,h1,h2]
def rdR (id:Nat) (H:AH):Option (ABlk × AH):=AH.rec (motive:=λ_=>Option (ABlk × AH)) (λblks next lo log=>Option.rec (motive:=λ_=>Option (ABlk × AH)) none (λb=>some (b,⟨blks,next,lo,(id,false) :: log⟩)) (blks.getR id)) H
theorem qY0 (id:Nat) (H:AH):rdR id H=rd id H:=by
 obtain ⟨blks,next,lo,log⟩:=H
 show Option.rec (motive:=λ_=>Option (ABlk × AH)) none _ (blks.getR id)=_
 rw [Tr.getR_eq]
 unfold rd
 simp only
 cases blks.get id <;> rfl
def wrR (id:Nat) (b:ABlk) (H:AH):Option (Unit × AH):=AH.rec (motive:=λ_=>Option (Unit × AH)) (λblks next lo log=>Bool.rec (motive:=λ_=>Option (Unit × AH)) none (Option.rec (motive:=λ_=>Option (Unit × AH)) none (λ_=>some ((),⟨blks.putR id (some b),next,lo,(id,true) :: log⟩)) (blks.getR id)) (Nat.ble lo id)) H
theorem zAED (id:Nat) (b:ABlk) (H:AH):wrR id b H=wr id b H:=by
 obtain ⟨blks,next,lo,log⟩:=H
 show Bool.rec (motive:=λ_=>Option (Unit × AH)) none (Option.rec (motive:=λ_=>Option (Unit × AH)) none (λ_=>some ((),AH.mk (blks.putR id (some b)) next lo ((id,true) :: log))) (blks.getR id)) (Nat.ble lo id)=_
 rw [Tr.getR_eq,Tr.putR_eq]
 unfold wr
 simp only
 cases Nat.ble lo id with
 | false=>rfl
 | true=>cases blks.get id <;> rfl
def fN {β:Type} (k:Nat→β) (n:Nat):β:=Nat.rec (motive:=λ_=>β) (k 0) (λm _=>k (m+1)) n
theorem zAAE {β:Type} (k:Nat→β) (n:Nat):fN k n=k n:=by cases n <;> rfl
def fI {β:Type} (k:Int→β) (n:Int):β:=Int.rec (motive:=λ_=>β) (λa=>fN (λa=>k (.ofNat a)) a) (λa=>fN (λa=>k (.negSucc a)) a) n
theorem zAEP {β:Type} (k:Int→β) (n:Int):fI k n=k n:=by
 cases n with
 | ofNat a=>exact zAAE (λa=>k (.ofNat a)) a
 | negSucc a=>exact zAAE (λa=>k (.negSucc a)) a
def nwR (b:ABlk) (H:AH):Option (Nat × AH):=AH.rec (motive:=λ_=>Option (Nat × AH)) (λblks next lo log=>fN (λn=>Bool.rec (motive:=λ_=>Option (Nat × AH)) none (some (n,⟨blks.putR n (some b),Nat.succ n,lo,(n,true) :: log⟩)) (Nat.ble lo n)) next) H
theorem zAEM (b:ABlk) (H:AH):nwR b H=nw b H:=by
 obtain ⟨blks,next,lo,log⟩:=H
 unfold nwR nw
 simp only [qAt,zAAE,Tr.putR_eq]
 cases Nat.ble lo next <;> rfl
def qQt (l:List AV):Bool:=List.rec (motive:=λ_=>Bool) true (λv _ ih=>Bool.rec (motive:=λ_=>Bool) false ih v.one) l
theorem qOs (l:List AV):qQt l=qAg l:=by
 induction l with
 | nil=>rfl
 | cons v vs ih=>
   show Bool.rec (motive:=λ_=>Bool) false (qQt vs) v.one=_
   rw [ih]
   cases h:v.one <;> simp [qAg,h]
def lenR (l:List AV):Nat:=List.rec (motive:=λ_=>Nat) 0 (λ_ _ ih=>Nat.succ ih) l
theorem qQ3 (l:List AV):lenR l=l.length:=by
 induction l with
 | nil=>rfl
 | cons v vs ih=>show Nat.succ (lenR vs)=_;rw [ih];rfl
def qOF (elem:TypeId) (cs:List AV) (H:AH):Option (Nat × AH):=Bool.rec (motive:=λ_=>Option (Nat × AH)) none (nwR (.cells elem (Tr.listR .nil 0 cs) (lenR cs)) H) (qQt cs)
theorem qRk (elem:TypeId) (cs:List AV) (H:AH):qOF elem cs H=qBR elem cs H:=by
 unfold qOF qBR
 rw [qOs,zAEM,Tr.listR_eq,qQ3]
 cases qAg cs <;> rfl
def qYj (c:Tr AV) (n:Nat):Nat→Option (List AV):=Nat.rec (motive:=λ_=>Nat→Option (List AV)) (λ_=>some []) (λ_ ih o=>Option.rec (motive:=λ_=>Option (List AV)) none (λv=>Option.rec (motive:=λ_=>Option (List AV)) none (λvs=>some (v :: vs)) (ih (Nat.succ o))) (c.getR o)) n
theorem qXs (c:Tr AV) (n:Nat):∀ o,qYj c n o=qD3 c o n:=by
 induction n with
 | zero=>intro o;rfl
 | succ n ih=>
   intro o
   show Option.rec (motive:=λ_=>Option (List AV)) none (λv=>Option.rec (motive:=λ_=>Option (List AV)) none (λvs=>some (v :: vs)) (qYj c n (Nat.succ o))) (c.getR o)=_
   rw [ih,Tr.getR_eq]
   cases h1:c.get o with
   | none=>simp [qD3,h1]
   | some v=>cases h2:qD3 c (o+1) n <;> simp [qD3,h1,h2]
def zAAC (o:Nat) (b:ABlk) (H:AH):Option (AV × AH):=match b with
 | .cells _ c _=>Option.rec (motive:=λ_=>Option (AV × AH)) none (λv=>some (v,H)) (c.getR o)
 | _=>none
def qZd (o n:Nat) (b:ABlk) (H:AH):Option (AV × AH):=match b with
 | .cells _ c _=>Option.rec (motive:=λ_=>Option (AV × AH)) none (λl=>some (.agg l,H)) (qYj c n o)
 | _=>none
def qUb (P:Program) (t:TypeId):Nat:=match qBE P t with
 | some true=>match sz P t with
   | some n=>n+2
   | none=>0
 | some false=>1
 | none=>0
def zAEp (b o:Nat) (H:AH) (k:Nat):Option (AV × AH):=Nat.rec (motive:=λ_=>Option (AV × AH)) none (λk _=>Nat.rec (motive:=λ_=>Option (AV × AH)) (bdR (rdR b H) (zAAC o)) (λn _=>bdR (rdR b H) (qZd o n)) k) k
def qZX (P:Program) (t:TypeId) (b o:Nat) (H:AH):Option (AV × AH):=zAEp b o H (qUb P t)
theorem qZ1 (P:Program) (t:TypeId) (b o:Nat) (H:AH):qZX P t b o H=qGT P t b o H:=by
 unfold qZX qUb qGT
 cases qBE P t with
 | none=>rfl
 | some g=>
   cases g with
   | true=>
     simp only
     cases sz P t with
     | none=>rfl
     | some n=>
       show bdR (rdR b H) (qZd o n)=bd (qB7 b o n) (λl=>ret (.agg l)) H
       rw [qY0]
       unfold qB7 bd
       cases rd b H with
       | none=>rfl
       | some p=>
         obtain ⟨blk,K⟩:=p
         show qZd o n blk K=_
         cases blk with
         | cells e c m=>simp only [qZd,qXs,lift];cases qD3 c o n <;> rfl
         | _=>rfl
   | false=>
     show bdR (rdR b H) (zAAC o)=bd (rd b) (λblk=>match blk with
      | .cells _ c _=>lift (c.get o)
      | _=>fail) H
     rw [qY0]
     unfold bd
     cases rd b H with
     | none=>rfl
     | some p=>
       obtain ⟨blk,K⟩:=p
       show zAAC o blk K=_
       cases blk with
       | cells e c m=>simp only [zAAC,Tr.getR_eq,lift];cases c.get o <;> rfl
       | _=>rfl
def qTz (b o:Nat) (vs:List AV) (blk:ABlk) (H:AH):Option (Unit × AH):=match blk with
 | .cells e c n=>Bool.rec (motive:=λ_=>Option (Unit × AH)) none (wrR b (.cells e (Tr.listR c o vs) n) H) (Bool.rec (motive:=λ_=>Bool) false (qQt vs) (Nat.ble (Nat.add o (lenR vs)) n))
 | _=>none
def qJc (b o:Nat) (vs:List AV) (H:AH):Option (Unit × AH):=bdR (rdR b H) (qTz b o vs)
theorem qOZ (b o:Nat) (vs:List AV) (H:AH):qJc b o vs H=qBh b o vs H:=by
 unfold qJc qBh bd
 rw [qY0]
 cases rd b H with
 | none=>rfl
 | some p=>
   obtain ⟨blk,K⟩:=p
   show qTz b o vs blk K=_
   cases blk with
   | cells e c n=>
     simp only [qTz,qOs,qQ3,zAED,Tr.listR_eq]
     show Bool.rec (motive:=λ_=>Option (Unit × AH)) none _ (Bool.rec (motive:=λ_=>Bool) false (qAg vs) (Nat.ble (o+vs.length) n))=_
     cases Nat.ble (o+vs.length) n with
     | false=>rfl
     | true=>cases qAg vs <;> rfl
   | _=>rfl
def qYm (n:Nat) (p:AV) (cs:List AV) (H:AH):Option (Unit × AH):=match p with
 | .ptr b o=>Bool.rec (motive:=λ_=>Option (Unit × AH)) none (qJc b o cs H) (Nat.beq (lenR cs) n)
 | _=>none
def qU4 (P:Program) (t:TypeId) (p v:AV) (H:AH):Option (Unit × AH):=Option.rec (motive:=λ_=>Option (Unit × AH)) none (λn=>qYm n p v.cells H) (sz P t)
theorem qYH (P:Program) (t:TypeId) (p v:AV) (H:AH):qU4 P t p v H=qH1 P t p v H:=by
 unfold qU4 qH1
 cases sz P t with
 | none=>cases p <;> rfl
 | some n=>
   show qYm n p v.cells H=_
   cases p with
   | ptr b o=>
     simp only [qYm,qQ3,qOZ]
     cases Nat.beq v.cells.length n <;> rfl
   | _=>rfl
def vN (r:Option (AV × AH)):Option (ANext × AH):=bdR r λv H=>some (.val v,H)
theorem zAAm (m:M AV) (H:AH):vN (m H)=bd m (λx=>ret (.val x)) H:=qSQ m (λx=>ret (ANext.val x)) H
def uN (r:Option (Unit × AH)):Option (ANext × AH):=bdR r λ_ H=>some (.val .undef,H)
theorem zAE5 (m:M Unit) (H:AH):uN (m H)=bd m (λ_=>ret (.val .undef)) H:=qSQ m (λ_=>ret (ANext.val .undef)) H
def oN {α:Type} (o:Option α) (k:α→Option (ANext × AH)):Option (ANext × AH):=Option.rec (motive:=λ_=>Option (ANext × AH)) none k o
def lN (H:AH) (o:Option AV):Option (ANext × AH):=oN o λb=>some (.val b,H)
abbrev OpF:=Program→Tmps→AH→Option (ANext × AH)
def zAAD (x:Operand):OpF:=λ_ T H=>lN H (evR T x)
def zAD9 (c a b:Operand):OpF:=λ_ T H=>match evR T c with
 | some (.bool t)=>cond t (lN H (evR T a)) (lN H (evR T b))
 | _=>none
def qUo (t:TypeId) (z:AV) (H:AH):Option (ANext × AH):=bdR (qOF t z.cells H) λid H=>some (.val (.ptr id 0),H)
def zABS (t:TypeId):OpF:=λP _ H=>oN (qDj P t) λz=>qUo t z H
def oBox (t:TypeId) (x:Operand):OpF:=λ_ T H=>oN (evR T x) λv=>qUo t v H
def zABT (t:TypeId) (ps:Array (Nat × Operand)):OpF:=λP T H=>oN (qC0 T ps.toList) λl=>lN H (qPN P t l)
def qNU (t:TypeId) (n:Nat) (ps:Array (Nat × Operand)):OpF:=λP T H=>oN (qC0 T ps.toList) λl=>vN (qC9 P t n l H)
def zAEj (P:Program) (t:TypeId) (H:AH) (p:AV):Option (ANext × AH):=match p with
 | .ptr b o=>vN (qZX P t b o H)
 | _=>none
def zAE4 (t:TypeId) (a:Operand):OpF:=match a with
 | .global g=>λP T H=>opA P T (.load t (.global g)) H
 | a=>λP T H=>oN (evR T a) (zAEj P t H)
def zABY (t:TypeId) (a x:Operand):OpF:=λP T H=>oN (evR T a) λp=>oN (evR T x) λv=>uN (qU4 P t p v H)
def oNil (x:Operand):OpF:=λ_ T H=>oN (evR T x) λa=>lN H (qBI a)
def cmpA (b:Bool):Option AV:=some (.bool b)
def arI (k:IntKind) (n:Int):Option AV:=fI (λn=>fI (λn=>some (.int k n)) (qBK k n)) n
def qQy (op:BinOp):IntKind→Int→Int→Option AV:=match op with
 | .add=>λk x y=>arI k (Int.add x y)
 | .sub=>λk x y=>arI k (Int.sub x y)
 | .mul=>λk x y=>arI k (Int.mul x y)
 | .eql=>λ_ x y=>cmpA (eqI x y)
 | .neq=>λ_ x y=>cmpA (!eqI x y)
 | .lss=>λ_ x y=>cmpA (ltI x y)
 | .leq=>λ_ x y=>cmpA (!ltI y x)
 | .gtr=>λ_ x y=>cmpA (ltI y x)
 | .geq=>λ_ x y=>cmpA (!ltI x y)
 | op=>arith op
def qXN (op:BinOp):Program→TypeId→Operand→Operand→AV→AV→Option AV:=match op with
 | .eql=>λP t x y a b=>cond (qBt P t x y a b) ((aEq P 30 t a b).map .bool) none
 | .neq=>λP t x y a b=>cond (qBt P t x y a b) ((aEq P 30 t a b).map λr=>.bool !r) none
 | _=>λ_ _ _ _ _ _=>none
def zADq (op:BinOp) (k:IntKind) (m:Int) (k':IntKind) (n:Int):Option AV:=cond (qBH k k') (qQy op k m n) none
def zABb (op:BinOp):IntKind→Int→IntKind→Int→Option AV:=match op with
 | .shl=>λk m _ n=>qMb .shl k m n
 | .shr=>λk m _ n=>qMb .shr k m n
 | op=>zADq op
def binI (P:Program) (op:BinOp) (t:TypeId) (x y:Operand) (k:IntKind) (m:Int) (b:AV):Option AV:=match b with
 | .int k' n=>zABb op k m k' n
 | b=>qXN op P t x y (.int k m) b
def binF (P:Program) (op:BinOp) (t:TypeId) (x y:Operand) (a b:AV):Option AV:=match a with
 | .int k m=>binI P op t x y k m b
 | a=>qXN op P t x y a b
def oBin (op:BinOp) (t:TypeId) (x y:Operand):OpF:=λP T H=>oN (evR T x) λa=>oN (evR T y) λb=>lN H (binF P op t x y a b)
def oUn (op:UnOp) (x:Operand):OpF:=λ_ T H=>oN (evR T x) λa=>lN H (qAo op a)
def zAAf (s d:TypeId) (x:Operand):OpF:=λP T H=>oN (evR T x) λa=>lN H (qE0 P s d a)
def zAEc (t:TypeId) (x:Operand):OpF:=λP T H=>oN (evR T x) λa=>lN H (qFR P t a)
def zAEE (t:TypeId) (x:Operand) (f:Nat):OpF:=λP T H=>oN (evR T x) λa=>lN H (qPB P t a f)
def offF (P:Program) (s:TypeId) (f:Nat):Option Nat:=match P.underlying s with
 | some (.struct fields)=>match fields[f]? with
   | some fd=>match sz P fd.type with
     | some (_+1)=>some fd.offset
     | _=>none
   | none=>none
 | _=>none
def addO (H:AH) (k:Nat) (p:AV):Option (ANext × AH):=match p with
 | .ptr b o=>fN (λq=>some (.val (.ptr b q),H)) (Nat.add o k)
 | _=>none
def qO9 (s:TypeId) (x:Operand) (f:Nat):OpF:=λP T H=>oN (evR T x) λa=>oN (offF P s f) λk=>addO H k a
def qWC (t:TypeId) (x i:Operand):OpF:=λP T H=>oN (evR T x) λa=>oN (evR T i) λb=>lN H (qCt P t a b)
def zAEA (t:TypeId) (x i:Operand):OpF:=λP T H=>oN (evR T x) λa=>oN (evR T i) λb=>lN H (qKe P t a b)
def zACw (x:Operand) (a:TypeId) (ok:Bool):OpF:=λP T H=>oN (evR T x) λv=>lN H (qDF P v a ok)
def zAAP (x:Operand) (i:Nat):OpF:=λ_ T H=>oN (evR T x) λv=>lN H (qAp v i)
def qVl (t:TypeId) (l c:Operand):OpF:=λP T H=>oN (evR T l) λa=>oN (evR T c) λb=>vN (qDH P t a b H)
def zAB9 (t:TypeId) (x k:Operand) (ok:Bool):OpF:=λP T H=>oN (evR T x) λa=>oN (evR T k) λb=>vN (qD9 P t a b ok H)
def qUl (b:Builtin) (ts:Array TypeId) (as:Array Operand):OpF:=λP T H=>oN (evsR T as.toList) λargs=>vN (qEE P b ts.toList args H)
def invK (P:Program) (name:String) (args:List AV) (H:AH) (r:AV):Option (ANext × AH):=match r with
 | .ifc t v=>bd (qEl P t v name) (λp=>goA P p.1 (p.2 :: args)) H
 | _=>none
def qXC (r:Operand) (name:String) (as:Array Operand):OpF:=λP T H=>oN (evsR T as.toList) λargs=>oN (evR T r) (invK P name args H)
def valK (P:Program) (args:List AV) (H:AH) (r:AV):Option (ANext × AH):=match r with
 | .fn (.func k) first cap=>goA P k (first ++ args ++ cap) H
 | .fn (.method name) [.ifc t v] _=>bd (qEl P t v name) (λp=>goA P p.1 (p.2 :: args)) H
 | .yield l=>bd (rd l) (λblk=>match blk with
   | .loop _ _ _ _ ps _ _ _=>cond (Nat.beq ps.length args.length) (ret (.round l args)) fail
   | _=>fail) H
 | _=>none
def zABH (f:Operand) (as:Array Operand):OpF:=λP T H=>oN (evsR T as.toList) λargs=>oN (evR T f) (valK P args H)
def zAAQ (c:Call):OpF:=match c with
 | ⟨.builtin b,as,ts⟩=>qUl b ts as
 | ⟨.invoke r name,as,_⟩=>qXC r name as
 | ⟨.value f,as,_⟩=>zABH f as
structure OB where
 f:OpF
def opB (o:Op):OB:=match o with
 | .move x=>⟨zAAD x⟩
 | .assign x=>⟨zAAD x⟩
 | .pick c a b=>⟨zAD9 c a b⟩
 | .alloc t=>⟨zABS t⟩
 | .box t x=>⟨oBox t x⟩
 | .build t ps=>⟨zABT t ps⟩
 | .buildSlice t n ps=>⟨qNU t n ps⟩
 | .load t a=>⟨zAE4 t a⟩
 | .store t a x=>⟨zABY t a x⟩
 | .nilCheck x=>⟨oNil x⟩
 | .binOp op t x y _=>⟨oBin op t x y⟩
 | .unOp op _ x=>⟨oUn op x⟩
 | .convert s d x=>⟨zAAf s d x⟩
 | .makeInterface t x=>⟨zAEc t x⟩
 | .makeSlice t l c=>⟨qVl t l c⟩
 | .fieldAddr s x f=>⟨qO9 s x f⟩
 | .field t x f=>⟨zAEE t x f⟩
 | .indexAddr t x i=>⟨qWC t x i⟩
 | .index t x i=>⟨zAEA t x i⟩
 | .typeAssert x _ a ok=>⟨zACw x a ok⟩
 | .extract x i=>⟨zAAP x i⟩
 | .lookup t x k ok=>⟨zAB9 t x k ok⟩
 | .call c=>⟨zAAQ c⟩
 | o=>⟨λP T=>opA P T o⟩
def qHD (o:Op):OpF:=λP T H=>OB.rec (motive:=λ_=>Option (ANext × AH)) (λf=>f P T H) (opB o)
theorem zACK (H:AH) (o:Option AV):lN H o=bd (lift o) (λx=>ret (ANext.val x)) H:=by cases o <;> rfl
theorem e1_l (x:Operand) (f:AV→Option AV) (T:Tmps) (H:AH):(oN (evR T x) λa=>lN H (f a))=(match ev T x with | some a=>bd (lift (f a)) (λx=>ret (ANext.val x)) | none=>fail) H:=by
 rw [qEs]
 cases ev T x with
 | none=>rfl
 | some a=>exact zACK H (f a)
theorem e2_l (x y:Operand) (f:AV→AV→Option AV) (T:Tmps) (H:AH):(oN (evR T x) λa=>oN (evR T y) λb=>lN H (f a b))=(match ev T x,ev T y with | some a,some b=>bd (lift (f a b)) (λx=>ret (ANext.val x)) | _,_=>fail) H:=by
 rw [qEs,qEs]
 cases ev T x with
 | none=>rfl
 | some a=>
   cases ev T y with
   | none=>rfl
   | some b=>exact zACK H (f a b)
theorem e2_v (x y:Operand) (f:AV→AV→M AV) (T:Tmps) (H:AH):(oN (evR T x) λa=>oN (evR T y) λb=>vN (f a b H))=(match ev T x,ev T y with | some a,some b=>bd (f a b) (λx=>ret (ANext.val x)) | _,_=>fail) H:=by
 rw [qEs,qEs]
 cases ev T x with
 | none=>rfl
 | some a=>
   cases ev T y with
   | none=>rfl
   | some b=>exact zAAm (f a b) H
theorem zAEX (k:IntKind) (n:Int):arI k n=some (.int k (qBK k n)):=by unfold arI;rw [zAEP,zAEP]
theorem qTo (op:BinOp) (k:IntKind) (x y:Int):qQy op k x y=arith op k x y:=by
 cases op <;> first | rfl | (simp only [qQy,zAEX,arith,qBu];rfl)
theorem zACo (P:Program) (op:BinOp) (t:TypeId) (x y:Operand) (a b:AV):binF P op t x y a b=binA P op t x y a b:=by
 cases a
 case int k m=>
  cases b
  case int k' n=>cases op <;> simp only [binF,binI,zABb,zADq,binA,qTo] <;> rfl
  all_goals (cases op <;> rfl)
 all_goals (cases op <;> rfl)
theorem qQ4 (t:TypeId) (z:AV) (H:AH):qUo t z H=bd (bd (qBR t z.cells) λid=>ret (.ptr id 0)) (λx=>ret (ANext.val x)) H:=by
 unfold qUo bd
 rw [qRk]
 cases qBR t z.cells H <;> rfl
theorem qZe (P:Program) (T:Tmps) (H:AH) (o:Op):qHD o P T H=opA P T o H:=by
 cases o
 case move x=>simp only [qHD,opB,zAAD,opA,qEs];cases ev T x <;> rfl
 case assign x=>simp only [qHD,opB,zAAD,opA,qEs];cases ev T x <;> rfl
 case pick c a b=>
  simp only [qHD,opB,zAD9,opA,qEs]
  generalize ev T c=v
  cases v with
  | none=>rfl
  | some v=>
    cases v with
    | bool t=>
      cases t
      ·simp only [cond_false];cases ev T b <;> rfl
      ·simp only [cond_true];cases ev T a <;> rfl
    | _=>rfl
 case alloc t=>
  simp only [qHD,opB,zABS,opA,qLP]
  cases qDj P t with
  | none=>rfl
  | some z=>exact qQ4 t z H
 case box t x=>
  simp only [qHD,opB,oBox,opA,qEs]
  cases ev T x with
  | none=>rfl
  | some v=>exact qQ4 t v H
 case build t ps=>
  simp only [qHD,opB,zABT,opA]
  cases qC0 T ps.toList with
  | none=>rfl
  | some l=>exact zACK H _
 case buildSlice t n ps=>
  simp only [qHD,opB,qNU,opA]
  cases qC0 T ps.toList with
  | none=>rfl
  | some l=>exact zAAm _ H
 case load t a=>
  by_cases hgl:∃ g,a=.global g
  ·obtain ⟨g,rfl⟩:=hgl
   rfl
  have hA:opA P T (.load t a)=(match ev T a with
   | some p=>bd (match p with | .ptr b o=>qGT P t b o | _=>fail) λx=>ret (.val x)
   | none=>fail):=by cases a <;> first | exact absurd ⟨_,rfl⟩ hgl | rfl
  have hB:qHD (.load t a) P T H=oN (evR T a) (zAEj P t H):=by cases a <;> first | exact absurd ⟨_,rfl⟩ hgl | rfl
  rw [hA,hB]
  simp only [qEs]
  cases ev T a with
  | none=>rfl
  | some p=>
    cases p with
    | ptr b o=>show vN (qZX P t b o H)=_;rw [qZ1];exact zAAm _ H
    | _=>rfl
 case store t a x=>
  simp only [qHD,opB,zABY,opA,qEs]
  cases ev T a with
  | none=>rfl
  | some p=>
    cases ev T x with
    | none=>rfl
    | some v=>show uN (qU4 P t p v H)=_;rw [qYH];exact zAE5 _ H
 case nilCheck x=>exact e1_l x qBI T H
 case binOp op t x y t2=>
  have:=e2_l x y (binA P op t x y) T H
  simp only [qHD,opB,oBin,zACo]
  exact this
 case unOp op t x=>exact e1_l x (qAo op) T H
 case convert s d x=>exact e1_l x (qE0 P s d) T H
 case makeInterface t x=>exact e1_l x (qFR P t) T H
 case fieldAddr s x f=>
  have:=e1_l x (λa=>qCV P s a f) T H
  refine Eq.trans ?_ this
  simp only [qHD,opB,qO9,qEs]
  cases ev T x with
  | none=>rfl
  | some a=>
    show oN (offF P s f) (λk=>addO H k a)=lN H (qCV P s a f)
    cases a with
    | ptr b o=>
      unfold offF qCV
      cases hu:P.underlying s with
      | none=>rfl
      | some d=>
        cases d with
        | struct fields=>
          simp only
          cases fields[f]? with
          | none=>rfl
          | some fd=>
            simp only
            cases sz P fd.type with
            | none=>rfl
            | some n=>
              cases n with
              | zero=>rfl
              | succ n=>simp only [qAt,oN,addO,zAAE];rfl
        | _=>rfl
    | _=>
      have:∀ v:AV,(∀ b o,v≠.ptr b o)→qCV P s v f=none:=by
       intro v hv
       unfold qCV
       split
       ·exact absurd rfl (hv _ _)
       ·rfl
      rw [this _ (by intro b o h;cases h)]
      cases offF P s f <;> rfl
 case field t x f=>exact e1_l x (λa=>qPB P t a f) T H
 case indexAddr t x i=>exact e2_l x i (qCt P t) T H
 case index t x i=>exact e2_l x i (qKe P t) T H
 case typeAssert x t a ok=>exact e1_l x (λv=>qDF P v a ok) T H
 case extract x i=>exact e1_l x (λv=>qAp v i) T H
 case makeSlice t l c=>exact e2_v l c (qDH P t) T H
 case lookup t x k ok=>exact e2_v x k (λa b=>qD9 P t a b ok) T H
 case call c=>
  obtain ⟨callee,as,ts⟩:=c
  cases callee with
  | value f=>
    simp only [qHD,opB,zAAQ,zABH,opA,qIB,qEs,qTn]
    cases evs T as.toList with
    | none=>rfl
    | some args=>
      show oN (ev T f) (valK P args H)=_
      simp only
      generalize ev T f=v
      cases v with
      | none=>rfl
      | some v=>
        show valK P args H v=_
        cases v with
        | fn f first cap=>
          cases f with
          | func k=>rfl
          | method n=>
            cases first with
            | nil=>rfl
            | cons y ys=>
              cases ys with
              | nil=>cases y <;> rfl
              | cons z zs=>cases y <;> rfl
          | _=>rfl
        | _=>rfl
  | invoke r n=>
    simp only [qHD,opB,zAAQ,qXC,opA,qIB,qEs,qTn]
    cases evs T as.toList with
    | none=>rfl
    | some args=>
      show oN (ev T r) (invK P n args H)=_
      simp only
      cases ev T r with
      | none=>rfl
      | some v=>cases v <;> rfl
  | builtin b=>
    simp only [qHD,opB,zAAQ,qUl,opA,qIB,qTn]
    cases evs T as.toList with
    | none=>rfl
    | some args=>exact zAAm _ H
 all_goals rfl
section
variable (P : Program) (ih : Task → M Out)
def outV (o:Out) (H:AH):Option (AV × AH):=match o with
 | .val v=>some (v,H)
 | _=>none
def qWD (x:ANext) (H:AH):Option (AV × AH):=ANext.rec (motive:=λ_=>Option (AV × AH)) (λv=>some (v,H)) (λf args=>bdR (ih (.call f args) H) outV) (λl args=>bdR (ih (.round l args) H) outV) x
theorem zAAF (x:ANext) (H:AH):qWD ih x H=qDw ih x H:=by
 have key:∀ t,bdR (ih t H) outV=outVal (ih t) H:=λt=>by
  refine qHJ (ih t) _ H outV λo K=>?_
  cases o <;> rfl
 cases x with
 | val v=>rfl
 | enter f args=>exact key _
 | round l args=>exact key _
def valR (all:List Oper) (op:Op) (g:Option (Nat × Bool)) (T:Tmps) (H:AH):Option (AV × AH):=Option.rec (motive:=λ_=>Option (AV × AH)) (bdR (qHD op P T H) (qWD ih)) (λg=>match qBf all T (some g) with
 | some true=>bdR (qHD op P T H) (qWD ih)
 | some false=>some (.undef,H)
 | none=>none) g
def setR (nt:Nat) (T:Tmps) (dst:Option Tmp) (v:AV) (H:AH):Option (Tmps × AH):=Option.rec (motive:=λ_=>Option (Tmps × AH)) (some (T,H)) (λd=>Bool.rec (motive:=λ_=>Option (Tmps × AH)) none (some (T.putR d (some v),H)) (Nat.ble (Nat.succ d) nt)) dst
def oneR (nt:Nat) (all:List Oper) (o:Oper) (T:Tmps) (H:AH):Option (Tmps × AH):=Oper.rec (motive:=λ_=>Option (Tmps × AH)) (λdst op _ _ _ g=>bdR (valR P ih all op g T H) (setR nt T dst)) o
theorem qXc (nt:Nat) (all:List Oper) (o:Oper) (T:Tmps) (H:AH):oneR P ih nt all o T H=qHf P ih nt all o T H:=by
 obtain ⟨dst,op,ty,pos,af,g⟩:=o
 have hop:∀ K,bdR (qHD op P T K) (qWD ih)=bd (opA P T op) (qDw ih) K:=λK=>by
  rw [qZe]
  exact qHJ (opA P T op) (qDw ih) K (qWD ih) (zAAF ih)
 have hv:valR P ih all op g T H=qC1 P ih all ⟨dst,op,ty,pos,af,g⟩ T H:=by
  cases g with
  | none=>exact hop H
  | some g=>
    show (match qBf all T (some g) with
     | some true=>bdR (qHD op P T H) (qWD ih)
     | some false=>some (.undef,H)
     | none=>none)=_
    unfold qC1
    simp only
    cases qBf all T (some g) with
    | none=>rfl
    | some b=>cases b with
      | true=>exact hop H
      | false=>rfl
 show bdR (valR P ih all op g T H) (setR nt T dst)=_
 rw [hv]
 refine qHJ _ (λv=>lift (setT nt T dst v)) H _ λv K=>?_
 cases dst with
 | none=>rfl
 | some d=>
   show Bool.rec (motive:=λ_=>Option (Tmps × AH)) none (some (T.putR d (some v),K)) (Nat.ble (d+1) nt)=_
   rw [Tr.putR_eq]
   show _=lift (cond (Nat.ble (d+1) nt) (some (T.put d (some v))) none) K
   cases Nat.ble (d+1) nt <;> rfl
def opsR (nt:Nat) (all l:List Oper):Tmps→AH→Option (Tmps × AH):=List.rec (motive:=λ_=>Tmps→AH→Option (Tmps × AH)) (λT H=>some (T,H)) (λo _ k T H=>bdR (oneR P ih nt all o T H) k) l
theorem qTL (nt:Nat) (all:List Oper):∀ (l:List Oper) (T:Tmps) (H:AH),opsR P ih nt all l T H=opsA P ih nt all l T H
 | [],_,_=>rfl
 | o :: os,T,H=>by
   show bdR (oneR P ih nt all o T H) (opsR P ih nt all os)=_
   rw [qXc]
   exact qHJ _ _ H _ λT K=>qTL nt all os T K
def qPF (all:Array Oper) (o:Oper) (mk:Nat):List Oper→Nat→Bool
 | [],_=>true
 | p :: ps,j=>(Nat.testBit mk j||Oper.apart all p o)&&qPF all o mk ps (j+1)
def qIn (all:Array Oper):List Oper→List Nat→List Oper→Bool
 | o :: os,mk :: mks,done=>qPF all o mk done 0&&qIn all os mks (done ++ [o])
 | [],_,_=>true
 | _,_,_=>true
def qPG (mk:Nat) (es:List (Nat × Bool)) (l:List (Nat × List (Nat × Bool))):Bool:=List.rec (motive:=λ_=>Bool) true (λp _ ih=>Bool.rec (motive:=λ_=>Bool) (Bool.rec (motive:=λ_=>Bool) ih false (clash p.2 es)) ih (Nat.testBit mk p.1)) l
def idxE:List (Oper × List (Nat × Bool))→Nat→List (Nat × List (Nat × Bool))
 | [],_=>[]
 | p :: r,i=>match p.2 with
   | []=>idxE r (i+1)
   | e :: es=>(i,e :: es) :: idxE r (i+1)
theorem qR9:∀ es:List (Nat × Bool),clash es []=false
 | []=>rfl
 | e :: es=>by unfold clash;rw [qR9 es];rfl
theorem qLb {all:Array Oper} {o:Oper} {mk:Nat} (es:List (Nat × Bool)):∀ (done:List (Oper × List (Nat × Bool))) (i:Nat),qPF all o mk (done.map (·.1)) i=true→against all o mk es done i=qPG mk es (idxE done i)
 | [],_,_=>rfl
 | (p,e) :: r,i,h=>by
   simp only [List.map_cons] at h
   unfold qPF at h
   simp only [Bool.and_eq_true,Bool.or_eq_true] at h
   have ih:=qLb es r (i+1) h.2
   unfold against idxE
   rw [ih]
   cases e with
   | nil=>
     simp only [clash,Bool.not_false,Bool.and_true]
     rcases h.1 with h1 | h1 <;> simp [h1]
   | cons e0 e=>
     show _=Bool.rec (motive:=λ_=>Bool) (Bool.rec (motive:=λ_=>Bool) (qPG mk es (idxE r (i+1))) false (clash (e0 :: e) es)) (qPG mk es (idxE r (i+1))) (Nat.testBit mk i)
     cases ht:Nat.testBit mk i with
     | true=>simp
     | false=>
       have h1:Oper.apart all p o=true:=by rcases h.1 with h1 | h1;rw [h1] at ht;cases ht;exact h1
       simp only [h1,Bool.false_or,Bool.true_and]
       cases clash (e0 :: e) es <;> simp
theorem qNg {all:Array Oper} {o:Oper} {mk:Nat}:∀ (done:List (Oper × List (Nat × Bool))) (i:Nat),qPF all o mk (done.map (·.1)) i=true→against all o mk [] done i=true
 | [],_,_=>rfl
 | (p,e) :: r,i,h=>by
   simp only [List.map_cons] at h
   unfold qPF at h
   simp only [Bool.and_eq_true,Bool.or_eq_true] at h
   unfold against
   rw [qNg r (i+1) h.2,qR9]
   rcases h.1 with h1 | h1 <;> simp [h1]
theorem qSK (o:Oper) (e:List (Nat × Bool)):∀ (d:List (Oper × List (Nat × Bool))) (i:Nat),idxE (d ++ [(o,e)]) i=idxE d i ++ (match e with | []=>[] | a :: es=>[(i+d.length,a :: es)])
 | [],i=>by cases e <;> simp [idxE]
 | (p,e') :: d,i=>by
   have:=qSK o e d (i+1)
   simp only [List.cons_append]
   unfold idxE
   rw [this]
   have hl:i+1+d.length=i+(d.length+1):=by omega
   cases e' <;> cases e <;> simp [hl]
def qZG (os:List Nat→Nat→List (Nat × List (Nat × Bool))→Tmps→AH→Option (Tmps × AH)) (mk:Nat) (mks:List Nat) (n:Nat) (done:List (Nat × List (Nat × Bool))) (T:Tmps) (H:AH) (es:List (Nat × Bool)):Option (Tmps × AH):=
 List.rec (motive:=λ_=>Option (Tmps × AH)) (os mks (Nat.succ n) done T H) (λ_ _ _=>Bool.rec (motive:=λ_=>Option (Tmps × AH)) none (os mks (Nat.succ n) (done ++ [(n,es)]) T H) (qPG mk es done)) es
def zADv (nt:Nat) (allL:List Oper) (o:Oper) (os:List Nat→Nat→List (Nat × List (Nat × Bool))→Tmps→AH→Option (Tmps × AH)) (mks:List Nat) (n:Nat) (done:List (Nat × List (Nat × Bool))) (T:Tmps) (H:AH):Option (Tmps × AH):=
 List.rec (motive:=λ_=>Option (Tmps × AH)) none (λmk mks _=>AH.rec (motive:=λ_=>Option (Tmps × AH)) (λblks next lo log=>bdR (oneR P ih nt allL o T ⟨blks,next,lo,[]⟩) λT K=>AH.rec (motive:=λ_=>Option (Tmps × AH)) (λblks next lo l=>qZG os mk mks n done T ⟨blks,next,lo,l ++ log⟩ l) K) H) mks
def qWS (nt:Nat) (allL:List Oper) (l:List Oper):List Nat→Nat→List (Nat × List (Nat × Bool))→Tmps→AH→Option (Tmps × AH):=
 List.rec (motive:=λ_=>List Nat→Nat→List (Nat × List (Nat × Bool))→Tmps→AH→Option (Tmps × AH)) (λ_ _ _ T H=>some (T,H)) (λo _ os=>zADv P ih nt allL o os) l
theorem qWq (nt:Nat) (allL:List Oper) (o:Oper) (os:List Oper) (mk:Nat) (mks:List Nat) (n:Nat) (d:List (Nat × List (Nat × Bool))) (T:Tmps) (b:Tr ABlk) (nx lo:Nat) (log:List (Nat × Bool)) :
  qWS P ih nt allL (o :: os) (mk :: mks) n d T ⟨b,nx,lo,log⟩=bdR (oneR P ih nt allL o T ⟨b,nx,lo,[]⟩) (λT K=>AH.rec (motive:=λ_=>Option (Tmps × AH)) (λblks next lo l=>qZG (qWS P ih nt allL os) mk mks n d T ⟨blks,next,lo,l ++ log⟩ l) K):=rfl
theorem qUZ (nt:Nat) (all:Array Oper):∀ (l:List Oper) (mks:List Nat) (done:List (Oper × List (Nat × Bool))) (T:Tmps) (H:AH),qIn all l mks (done.map (·.1))=true→
  qWS P ih nt all.toList l mks done.length (idxE done 0) T H=opsD P ih nt all l mks done T H
 | [],_,_,_,_,_=>rfl
 | _ :: _,[],_,_,_,_=>rfl
 | o :: os,mk :: mks,done,T,H,hs=>by
   unfold qIn at hs
   simp only [Bool.and_eq_true] at hs
   obtain ⟨hp,hs⟩:=hs
   obtain ⟨blks,next,lo,log⟩:=H
   have e0:opsD P ih nt all (o :: os) (mk :: mks) done T=bd (capture (qHf P ih nt all.toList o T)) (λr=>cond (against all o mk r.2 done 0) (opsD P ih nt all os mks (done ++ [(o,r.2)]) r.1) fail):=by rw [opsD]
   rw [e0]
   rw [qWq,qXc]
   unfold bd capture
   cases h1:qHf P ih nt all.toList o T ⟨blks,next,lo,[]⟩ with
   | none=>simp only [h1];rfl
   | some p=>
     obtain ⟨T1,b1,n1,l1,g1⟩:=p
     simp only [h1]
     show qZG (qWS P ih nt all.toList os) mk mks done.length (idxE done 0) T1 ⟨b1,n1,l1,g1 ++ log⟩ g1=_
     have hs':qIn all os mks ((done ++ [(o,g1)]).map (·.1))=true:=by simpa using hs
     have ih2:=qUZ nt all os mks (done ++ [(o,g1)]) T1 ⟨b1,n1,l1,g1 ++ log⟩ hs'
     rw [qSK] at ih2
     cases g1 with
     | nil=>
       rw [qNg done 0 hp]
       simp only [List.append_nil,List.length_append,List.length_cons,List.length_nil] at ih2
       exact ih2
     | cons e es=>
       rw [qLb (e :: es) done 0 hp]
       simp only [Nat.zero_add,List.length_append,List.length_cons,List.length_nil] at ih2
       show Bool.rec (motive:=λ_=>Option (Tmps × AH)) none (qWS P ih nt all.toList os mks (Nat.succ done.length) (idxE done 0 ++ [(done.length,e :: es)]) T1 ⟨b1,n1,l1,(e :: es) ++ log⟩) (qPG mk (e :: es) (idxE done 0))=_
       cases qPG mk (e :: es) (idxE done 0) with
       | false=>rfl
       | true=>exact ih2
def zAA6 (nt:Nat) (ops:Array Oper) (T:Tmps) (H:AH):Option (Tmps × AH):=cond (qIn ops ops.toList (masks ops.toList []) []) (qWS P ih nt ops.toList ops.toList (masks ops.toList []) 0 [] T H) (opsD P ih nt ops ops.toList (masks ops.toList []) [] T H)
theorem zAAw (nt:Nat) (ops:Array Oper) (T:Tmps) (H:AH):zAA6 P ih nt ops T H=opsD P ih nt ops ops.toList (masks ops.toList []) [] T H:=by
 unfold zAA6
 cases hs:qIn ops ops.toList (masks ops.toList []) [] with
 | false=>rfl
 | true=>exact qUZ P ih nt ops ops.toList (masks ops.toList []) [] T H hs
end
abbrev qNZ:=Program→(Task→M Out)→Nat→Option Nat→Tmps→List Mk→AH→Option (Out × AH)
def nrmO (ms:List Mk) (r:Option (Tmps × AH)):Option (Out × AH):=bdR r λT H=>some (.exit .nrm T ms,H)
def zAEw:qNZ:=λ_ _ _ _ T ms H=>some (.exit .nrm T ms,H)
def defS (P:Program) (ms:List Mk) (c:Call) (T:Tmps) (H:AH):Option (Out × AH):=match qJN P T c with
 | some m=>some (.exit .nrm T (m :: ms),H)
 | none=>none
def zACg (ops:Array Oper) (draw:Bool):qNZ:=match draw with
 | false=>match qBN ops.toList with
   | none=>λP ih nt _ T ms H=>nrmO ms (opsR P ih nt ops.toList ops.toList T H)
   | some p=>λP ih nt rnd T ms H=>match rnd with
     | none=>bdR (opsR P ih nt ops.toList p.1 T H) (defS P ms p.2)
     | some _=>none
 | true=>λP ih nt _ T ms H=>nrmO ms (cond (qBp ops.toList) (zAA6 P ih nt ops T H) none)
def seqK (ih:Task→M Out) (nt:Nat) (rnd:Option Nat) (b:Code) (o:Out) (H:AH):Option (Out × AH):=match o with
 | .exit .nrm T ms=>ih (.code nt rnd b T ms) H
 | o=>some (o,H)
def cSeq (a b:Code):qNZ:=λ_ ih nt rnd T ms H=>bdR (ih (.code nt rnd a T ms) H) (seqK ih nt rnd b)
def zAE0 (c:Operand) (a b:Code):qNZ:=λ_ ih nt rnd T ms H=>match evR T c with
 | some (.bool t)=>ih (.code nt rnd (cond t a b) T ms) H
 | _=>none
def zAD7 (id:Nat) (o:Out) (H:AH):Option (Out × AH):=match o with
 | .exit (.exit id') T ms=>cond (Nat.beq id' id) (some (.exit .nrm T ms,H)) (some (.exit (.exit id') T ms,H))
 | o=>some (o,H)
def zADr (id:Nat) (b:Code):qNZ:=λ_ ih nt rnd T ms H=>bdR (ih (.code nt rnd b T ms) H) (zAD7 id)
def zAE9 (b:Code):qNZ:=λ_ ih nt rnd T ms H=>match qBM b with
  | some s=>qGU ih nt rnd s T ms H
  | none=>bdR (ih (.code nt rnd b T ms) H) (seqK ih nt rnd (.loop b))
def zAEr (id:Nat):qNZ:=λ_ _ _ _ T ms H=>some (.exit (.exit id) T ms,H)
def cRet:qNZ:=λ_ _ _ _ T ms H=>some (.exit .ret T ms,H)
structure CB where
 f:qNZ
def zAE6 (c:Code):CB:=match c with
 | .skip=>⟨zAEw⟩
 | .region _ ops draw=>⟨zACg ops draw⟩
 | .seq a b=>⟨cSeq a b⟩
 | .cond c a b=>⟨zAE0 c a b⟩
 | .block id b=>⟨zADr id b⟩
 | .loop b=>⟨zAE9 b⟩
 | .exit id=>⟨zAEr id⟩
 | .ret=>⟨cRet⟩
 | c=>⟨λP ih nt rnd T ms=>qAv P ih nt rnd c T ms⟩
def qTC (c:Code):qNZ:=λP ih nt rnd T ms H=>CB.rec (motive:=λ_=>Option (Out × AH)) (λf=>f P ih nt rnd T ms H) (zAE6 c)
theorem qYf (ih:Task→M Out) (nt:Nat) (rnd:Option Nat) (b:Code) (o:Out) (H:AH):seqK ih nt rnd b o H=(match (generalizing:=false) o with
  | .exit .nrm T ms=>ih (.code nt rnd b T ms)
  | o=>ret o) H:=by
 cases o with
 | val v=>rfl
 | exit e T ms=>cases e <;> rfl
theorem qVf (P:Program) (ih:Task→M Out) (nt:Nat) (rnd:Option Nat) (c:Code) (T:Tmps) (ms:List Mk) (H:AH):qTC c P ih nt rnd T ms H=qAv P ih nt rnd c T ms H:=by
 cases c
 case region id ops draw=>
  cases draw with
  | false=>
    have e1:qAv P ih nt rnd (.region id ops false) T ms=(match qBN ops.toList with
     | some p=>match (generalizing:=false) rnd with
       | none=>bd (opsA P ih nt ops.toList p.1 T) λT=>match qJN P T p.2 with
         | some m=>ret (.exit .nrm T (m :: ms))
         | none=>fail
       | some _=>fail
     | none=>bd (opsA P ih nt ops.toList ops.toList T) λT=>ret (.exit .nrm T ms)):=rfl
    have e2:qTC (.region id ops false) P ih nt rnd T ms H=(match qBN ops.toList with
     | none=>λP ih nt _ T ms H=>nrmO ms (opsR P ih nt ops.toList ops.toList T H)
     | some p=>λP ih nt rnd T ms H=>match rnd with
       | none=>bdR (opsR P ih nt ops.toList p.1 T H) (defS P ms p.2)
       | some _=>none:qNZ) P ih nt rnd T ms H:=rfl
    rw [e1,e2]
    cases qBN ops.toList with
    | some p=>
      cases rnd with
      | some _=>rfl
      | none=>
        show bdR (opsR P ih nt ops.toList p.1 T H) (defS P ms p.2)=_
        rw [qTL]
        refine qHJ (opsA P ih nt ops.toList p.1 T) _ H _ λT K=>?_
        unfold defS
        cases qJN P T p.2 <;> rfl
    | none=>
    show nrmO ms (opsR P ih nt ops.toList ops.toList T H)=bd (opsA P ih nt ops.toList ops.toList T) (λT=>ret (.exit .nrm T ms)) H
    rw [qTL]
    exact qSQ (opsA P ih nt ops.toList ops.toList T) (λT=>ret (Out.exit .nrm T ms)) H
  | true=>
    show nrmO ms (cond (qBp ops.toList) (zAA6 P ih nt ops T H) none)=bd (cond (qBp ops.toList) (opsD P ih nt ops ops.toList (masks ops.toList []) [] T) fail) (λT=>ret (.exit .nrm T ms)) H
    rw [zAAw,← qSQ]
    unfold nrmO
    cases qBp ops.toList <;> rfl
 case seq a b=>exact qHJ (ih (.code nt rnd a T ms)) _ H _ λo K=>qYf ih nt rnd b o K
 case cond c a b=>
  show (match evR T c with
   | some (.bool t)=>ih (.code nt rnd (cond t a b) T ms) H
   | _=>none)=_
  rw [qEs]
  unfold qAv
  simp only
  generalize ev T c=v
  cases v with
  | none=>rfl
  | some v=>cases v <;> rfl
 case block id b=>
  refine qHJ (ih (.code nt rnd b T ms)) _ H _ λo K=>?_
  cases o with
  | val v=>rfl
  | exit e T ms=>
    cases e with
    | exit id'=>show cond (Nat.beq id' id) _ _=_;cases h:Nat.beq id' id <;> simp only [h] <;> rfl
    | _=>rfl
 case loop b=>
  show (match qBM b with
   | some s=>qGU ih nt rnd s T ms H
   | none=>bdR (ih (.code nt rnd b T ms) H) (seqK ih nt rnd (.loop b)))=_
  unfold qAv
  simp only
  cases qBM b with
  | some s=>rfl
  | none=>exact qHJ (ih (.code nt rnd b T ms)) _ H _ λo K=>qYf ih nt rnd (.loop b) o K
 all_goals rfl
def zACy (P:Program) (ih:Task→M Out) (rs:List ResultVar) (o:Out) (H:AH):Option (Out × AH):=match o with
 | .exit (.exit _) _ _=>none
 | .exit _ T ms=>bd (qAx P ih ms) (λ_=>bd (qBB P T rs) λvs=>ret (.val (oneV vs))) H
 | _=>none
def zADa (P:Program) (ih:Task→M Out) (args:List AV) (fn:Func) (c:Code) (H:AH):Option (Out × AH):=cond (Nat.ble (lenR args) fn.ntmps) (bdR (ih (.code fn.ntmps none c (Tr.listR .nil 0 args) []) H) (zACy P ih fn.results.toList)) none
def qYs (P:Program) (ih:Task→M Out) (f:FuncId) (args:List AV) (H:AH):Option (Out × AH):=match P.funcs[f]? with
 | some fn=>match fn.body with
   | some c=>zADa P ih args fn c H
   | none=>none
 | none=>none
theorem qZY (P:Program) (ih:Task→M Out) (f:FuncId) (args:List AV) (H:AH):qYs P ih f args H=qBg P ih f args H:=by
 unfold qYs qBg
 cases P.funcs[f]? with
 | none=>rfl
 | some fn=>
   simp only
   cases fn.body with
   | none=>rfl
   | some c=>
     simp only [zADa,qQ3,Tr.listR_eq]
     cases Nat.ble args.length fn.ntmps with
     | false=>rfl
     | true=>
       simp only [cond_true]
       refine qHJ (ih (.code fn.ntmps none c (Tr.ofListAt .nil 0 args) [])) _ H _ λo K=>?_
       cases o with
       | val v=>rfl
       | exit e T ms=>cases e <;> rfl
def zADo (P:Program) (X:Td) (ih:Task→M Out) (t:Task):M Out:=match t with
 | .code nt rnd c T ms=>qTC c P ih nt rnd T ms
 | .call f args=>match X f with
   | some g=>bd (g args) λv=>ret (.val v)
   | none=>qYs P ih f args
 | .round l args=>qGD ih l args
def runR (P:Program) (X:Td) (n:Nat):Task→M Out:=Nat.rec (motive:=λ_=>Task→M Out) (λ_ _=>none) (λ_ ih=>zADo P X ih) n
theorem qQv (P:Program) (X:Td):∀ (n:Nat) (t:Task),runR P X n t=run P X n t
 | 0,_=>rfl
 | n+1,t=>by
   have:runR P X n=run P X n:=funext λt=>qQv P X n t
   show zADo P X (runR P X n) t=qIP P X (run P X n) t
   rw [this]
   cases t with
   | code nt rnd c T ms=>exact funext λH=>qVf P _ nt rnd c T ms H
   | call f args=>
     show (match X f with
      | some g=>bd (g args) λv=>ret (Out.val v)
      | none=>qYs P (run P X n) f args)=(match X f with
      | some g=>bd (g args) λv=>ret (Out.val v)
      | none=>qBg P (run P X n) f args)
     rw [show qYs P (run P X n) f args=qBg P (run P X n) f args from funext λH=>qZY _ _ _ _ _]
   | round=>rfl
end
end Go.AM
