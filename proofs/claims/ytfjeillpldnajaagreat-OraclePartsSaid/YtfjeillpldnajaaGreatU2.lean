/- Part U2 of the proof: see the last part. -/
import Derived.Test.YtfjeillpldnajaaGreatU1
import Derived.Test.YtfjeillpldnajaaGreatA3
import Derived.DataReads
import Derived.ChangeArms
import Derived.OpenShut
set_option linter.unusedVariables false
namespace Go.AM
open Go
variable {α:Type} {P:Program} {X:Td} {nt:Nat} {rnd:Option Nat}
def noRF:Code->Bool
 | .skip=>true
 | .region _ ops draw=>draw||(qBc ops.toList).isNone
 | .seq a b=>noRF a&&noRF b
 | .cond _ a b=>noRF a&&noRF b
 | .block _ b=>noRF b
 | .loop b=>(qCI b).isNone&&noRF b
 | .exit _=>true
 | .ret=>true
 |_=>false
def reMs(ms:List Mk):Out->Out
 | .exit e T _=>.exit e T ms
 | .val v=>.val v
def reO(ms:List Mk):Option (Out×AH)->Option (Out×AH)
 |some (o,H)=>some (reMs ms o,H)
 |none=>none
theorem qQz:∀(n:Nat) (c:Code),noRF c=true->∀(T:Tmps) (ms:List Mk) (H:AH),run P X n (.code nt rnd c T ms) H=reO ms (run P X n (.code nt rnd c T []) H)
 | 0,_,_,_,_,_=>rfl
 | n+1,c,hc,T,ms,H=>by
   show qA7 P (run P X n) nt rnd c T ms H=reO ms (qA7 P (run P X n) nt rnd c T [] H);have ih:=λc hc T ms H=>qQz n c hc T ms H;cases c with
   |skip=>rfl
   |exit id=>rfl
   |ret=>rfl
   | region id ops draw=>
     simp only[noRF,Bool.or_eq_true]at hc;simp only[qA7];cases draw with
     | false=>
       have hd:qBc ops.toList=none:=by
        rcases hc with h|h
        ·cases h
        ·simpa using h
       simp only[cond_false,hd];unfold bd;cases opsA P (run P X n) nt ops.toList ops.toList T H with
       |none=>rfl
       |some p=>rfl
     | true=>
       simp only[cond_true];unfold bd;cases(cond (qCQ ops.toList) (opsD P (run P X n) nt ops ops.toList (masks ops.toList []) [] T) fail:M Tmps) H with
       |none=>rfl
       |some p=>rfl
   | seq a b=>
     simp only[noRF,Bool.and_eq_true]at hc;simp only[qA7,bd];rw[ih a hc.1 T ms H];have e0:=ih a hc.1 T [] H;cases hq:run P X n (.code nt rnd a T []) H with
     |none=>rfl
     | some p=>
       obtain⟨o,H1⟩:=p;rw[hq]at e0;simp only[reO,Option.some.injEq,Prod.mk.injEq,and_true]at e0;simp only[reO];cases o with
       |val v=>rfl
       | exit e T1 ms1=>
         simp only[reMs,Out.exit.injEq,true_and]at e0;subst e0;cases e with
         |nrm=>exact ih b hc.2 T1 ms H1
         |ret=>rfl
         |exit id=>rfl
   | cond x a b=>
     simp only[noRF,Bool.and_eq_true]at hc;simp only[qA7];cases ev T x with
     |none=>rfl
     | some v=>
       cases v with
       | bool t=>cases t with
         |true=>exact ih a hc.1 T ms H
         |false=>exact ih b hc.2 T ms H
       |_=>rfl
   | block id b=>
     simp only[noRF]at hc;simp only[qA7,bd];rw[ih b hc T ms H];cases hq:run P X n (.code nt rnd b T []) H with
     |none=>rfl
     | some p=>
       obtain⟨o,H1⟩:=p;cases o with
       |val v=>rfl
       | exit e T1 ms1=>
         cases e with
         |nrm=>rfl
         |ret=>rfl
         | exit id'=>
           simp only[reO,reMs];cases Nat.beq id' id<;>rfl
   | loop b=>
     simp only[noRF,Bool.and_eq_true]at hc;have hm:qCI b=none:=by simpa using hc.1
     simp only[qA7,hm,bd];rw[ih b hc.2 T ms H];have e0:=ih b hc.2 T [] H;cases hq:run P X n (.code nt rnd b T []) H with
     |none=>rfl
     | some p=>
       obtain⟨o,H1⟩:=p;rw[hq]at e0;simp only[reO,Option.some.injEq,Prod.mk.injEq,and_true]at e0;simp only[reO];cases o with
       |val v=>rfl
       | exit e T1 ms1=>
         simp only[reMs,Out.exit.injEq,true_and]at e0;subst e0;cases e with
         |nrm=>exact ih (.loop b) (by simp[noRF,hm,hc.2]) T1 ms H1
         |ret=>rfl
         |exit id=>rfl
   |scope _=>cases hc
   |label _=>cases hc
   |goto _=>cases hc
   |refuse _=>cases hc
   |rangeFunc _ _ _ _=>cases hc
theorem wpF.both{m:Nat->M α}{Q:α->Hq->Prop}{R:α->Prop}{s:Hq}(h:wpF m Q s)(hR:∀n H a H',m n H=some (a,H')->R a):wpF m (λa s=>Q a s/\R a) s:=λH hH=>by obtain⟨n,a,H',h1,s',h2,h3,h4⟩:=h H hH;exact⟨n,a,H',h1,s',h2,h3,h4,hR n H a H' h1⟩
theorem qS7{c:Code}(hc:noRF c=true){T:Tmps}{Q:Out->Hq->Prop}{s:Hq}(ms:List Mk)(h:wpF (λn=>run P X n (.code nt rnd c T [])) Q s):
  wpF (λn=>run P X n (.code nt rnd c T ms)) (λo s=>∃o',o=reMs ms o'/\o'=reMs [] o'/\Q o' s) s:=λH hH=>by
 obtain⟨n,a,H',h1,s',h2,h3,h4⟩:=h H hH;have e0:=qQz (P:=P) (X:=X) (nt:=nt) (rnd:=rnd) n c hc T [] H;have h1:run P X n (.code nt rnd c T []) H=some (a,H'):=h1;rw[h1]at e0;simp only[reO,Option.some.injEq,Prod.mk.injEq,and_true]at e0;refine⟨n,reMs ms a,H',?_,s',h2,h3,a,rfl,e0,h4⟩;show run P X n (.code nt rnd c T ms) H=_;rw[qQz n c hc T ms H,h1];rfl
end Go.AM
namespace Go.AM
open Go
theorem ClE.keep{s0:Hq}{H0 H H':AH}{r:Nat}{es:List (Nat×Bool)}(h:ClE s0 H0 r H)(d:Does es H H')(hw:∀i,(i,true)∈es->H.next<=i):ClE s0 H0 r H'/\∀i,i<H.next->H'.blks.get i=H.blks.get i:=by
 have same:∀i,i<H.next->H'.blks.get i=H.blks.get i:=λi hi=>d.same i λhm=>by have:=hw i hm;omega
 refine⟨⟨⟨by rw[d.lo];exact Nat.le_trans h.rel.lo d.next,λi hi=>?_,λi t b hi=>?_⟩,Nat.le_trans h.next d.next,d.lo.trans h.lo,λi hi=>?_,λi hi hr=>(same i (Nat.lt_of_lt_of_le hi h.next)).trans (h.kept i hi hr)⟩,same⟩
 ·rcases d.gone i hi with e|e
  ·exact Nat.lt_of_lt_of_le (h.rel.wf i e) d.next
  ·exact e.2
 ·obtain⟨k1,ab,k2,k3⟩:=h.rel.at_ i t b hi
  exact⟨λq=>by rw[d.lo];exact k1 q,ab,by rw[same i (h.rel.wf i (by rw[k2];simp))];exact k2,k3⟩
 ·rw[d.log]at hi
  rcases mP hi with hi|hi
  ·exact .inr (Nat.le_trans h.next (hw i hi))
  ·exact h.log i hi
theorem zAAh{T:Tmps}{env:Env}(h:TR T env)(i:Nat)(v:AV):TR (T.put i (some v)) (upd env i v):=λj=>by
 unfold tget upd;rw[Tr.get_put];cases e:Nat.beq j i with
 | true=>
   have:=bE e;subst this;rw[if_pos rfl];rfl
 | false=>
   have hne:¬i=j:=λq=>by subst q;rw[Nat.beq_refl]at e;cases e
   rw[if_neg hne];exact h j
end Go.AM
namespace Go.AM
open Go
def mixE(slots:List Nat)(f env:Env):Env:=λj=>cond (memN j slots) (f j) (env j)
def qPa:List Oper->List Nat
 |[]=>[]
 | o::os=>match o.dst with
   |some d=>d::qPa os
   |none=>qPa os
def assigned:Code->List Nat
 | .region _ ops _=>qPa ops.toList
 | .seq a b=>assigned a++assigned b
 | .cond _ a b=>assigned a++assigned b
 | .block _ b=>assigned b
 | .loop b=>assigned b
 |_=>[]
def qMQ:Code->Nat
 | .region id _ _=>id
 | .seq a _=>qMQ a
 | .block _ b=>qMQ b
 | .loop b=>qMQ b
 | .cond _ a _=>qMQ a
 |_=>0
def qZu(ls slots:List Nat)(body:Env->(AExit->Env->Hq->Prop)->Hq->Prop)(env:Env)(K:AExit->Env->Hq->Prop)(s:Hq):Prop:=
 ∃I:List AV->Hq->Nat->Prop,(∃m,I (ls.map env) s m)/\∀(f:Env) (s:Hq) (m:Nat),I (ls.map f) s m->
  body (mixE slots f env) (λe env' s'=>match e with
   | .nrm=>∃m',m'<m/\I (ls.map env') s' m'
   |e=>K e env' s') s
section
variable (P : Program) (X : Td)
def qUU(A:Nat->List Nat)(ops:List Oper):List Nat:=A (1000000+(match qPa ops with|d::_=>d|[]=>0))
def wpC(A:Nat->List Nat)(nt:Nat)(rnd:Option Nat):Code->Env->(AExit->Env->Hq->Prop)->Hq->Prop
 | .skip,env,K,s=>K .nrm env s
 | .region _ ops draw,env,K,s=>cond ((ops.toList.all λo=>okOp o.op)&&(draw||(qBc ops.toList).isNone))
   (cond draw (cond (qCQ ops.toList&&qNX (qUU A ops.toList) ops (clsL P ops.toList) (masks ops.toList [])) (opsQ P X (qUU A ops.toList) nt ops.toList (clsL P ops.toList) (masks ops.toList []) ops.toList 0 [] [] [] env (λenv s=>K .nrm env s) s) False)
    (opsE P X nt ops.toList ops.toList [] env (λenv s=>K .nrm env s) s)) False
 | .seq a b,env,K,s=>wpC A nt rnd a env (λe env s=>match e with
   | .nrm=>wpC A nt rnd b env K s
   |e=>K e env s) s
 | .cond c a b,env,K,s=>cond (okX c) (qAK (evD env c) (wpC A nt rnd a env K s) (wpC A nt rnd b env K s)) False
 | .block id b,env,K,s=>wpC A nt rnd b env (λe env s=>match e with
   | .exit id'=>cond (Nat.beq id' id) (K .nrm env s) (K (.exit id') env s)
   |e=>K e env s) s
 | .loop b,env,K,s=>match qCI b with
   |some _=>False
   |none=>qZu (A (2*qMQ b)) (assigned b) (λenv K s=>wpC A nt rnd b env K s) env K s
 | .exit id,env,K,s=>K (.exit id) env s
 | .ret,env,K,s=>K .ret env s
 |_,_,_,_=>False
def resK:List ResultVar->Env->(List AV->Prop)->Hq->Prop
 |[],_,k,_=>k []
 | .tmp t::rs,env,k,s=>resK rs env (λvs=>k (env t::vs)) s
 | .cell a t::rs,env,k,s=>qP3 P t (env a) (λv=>resK rs env (λvs=>k (v::vs)) s) s
def retK(e:AExit)(p:Prop):Prop:=match e with
 | .exit _=>False
 |_=>p
end
variable {α:Type} {P:Program} {X:Td} {A:Nat→List Nat} {nt:Nat} {rnd:Option Nat}
def mkH(ms:List Nat):Hq:=λi=>if i∈ms then some (false,.deferred true)else none
theorem qUL{ms:List Nat}{i:Nat}:mkH ms i≠none↔i∈ms:=by unfold mkH;by_cases h:i∈ms<;>simp[h]
theorem qNB{i:Nat}:∀{l:List Nat},memN i l=true↔i∈l
 |[]=>by simp[memN]
 | j::l=>by
   unfold memN;cases h:Nat.beq i j with
   |true=>simp[bE h]
   | false=>
     have:i≠j:=λe=>by rw[e,Nat.beq_refl]at h;cases h
     simp[qNB (l:=l),this]
theorem qJj:∀{l:List Oper}{o:Oper}{d:Nat},o∈l->o.dst=some d->d∈qPa l
 |[],_,_,h,_=>by cases h
 | p::l,o,d,h,hd=>by
   unfold qPa;rcases mC h with rfl|h
   ·rw[hd];exact List.mem_cons_self ..
   ·cases p.dst with
    |none=>exact qJj h hd
    |some _=>exact mO _ (qJj h hd)
theorem qJN:∀(os:List Oper) (acc:List Nat),(masks os acc).length=acc.length+os.length
 |[],acc=>by simp[masks]
 |o::os,acc=>by rw[masks,qJN];simp;omega
def mkm(ms:List Nat):List Mk:=ms.map Mk.mark
def qZx(c:Code)(env:Env)(K:AExit->Env->Hq->Prop)(ms:List Nat)(rnd:Option Nat)(o:Out)(S:Hq):Prop:=
 ∃e T' env' ms' s',o=.exit e T' (mkm (ms'++ms))/\TR T' env'/\S=add s' (mkH (ms'++ms))/\(∀i∈ms'++ms,s' i=none)/\(ms'++ms).Nodup/\(∀j,j ∉ assigned c->env' j=env j)/\(rnd≠none->ms'=[])/\K e env' s'
def qJ7(P:Program)(X:Td)(A:Nat->List Nat)(nt:Nat)(rnd:Option Nat)(c:Code):Prop:=∀(env:Env) (K:AExit->Env->Hq->Prop) (s:Hq),wpC P X A nt rnd c env K s->∀(T:Tmps) (ms:List Nat),TR T env->(∀i∈ms,s i=none)->ms.Nodup->
 wpF (λn=>run P X n (.code nt rnd c T (mkm ms))) (qZx c env K ms rnd) (add s (mkH ms))
theorem wpF.succ{m:Nat->M α}{m':Nat->M α}{Q:α->Hq->Prop}{s:Hq}(h:wpF m Q s)(e:∀n,m' (n+1)=m n):wpF m' Q s:=λH hH=>by obtain⟨n,a,H',h1,h2⟩:=h H hH;exact⟨n+1,a,H',by rw[e];exact h1,h2⟩
theorem qEK{c:Code}{T:Tmps}{ms:List Mk}{Q:Out->Hq->Prop}{s:Hq}(h:wpF (λn=>qA7 P (run P X n) nt rnd c T ms) Q s):wpF (λn=>run P X n (.code nt rnd c T ms)) Q s:=h.succ λ_=>rfl
theorem qZx.stay{c:Code}{env:Env}{K:AExit->Env->Hq->Prop}{ms:List Nat}{e:AExit}{T:Tmps}{s:Hq}(hT:TR T env)(hm:∀i∈ms,s i=none)(hnd:ms.Nodup)(h:K e env s):qZx c env K ms rnd (.exit e T (mkm ms)) (add s (mkH ms)):=
 ⟨e,T,env,[],s,rfl,hT,rfl,hm,hnd,λ_ _=>rfl,λ_=>rfl,h⟩
theorem zADE:qJ7 P X A nt rnd .skip:=λenv K s h T ms hT hm hnd=>qEK (wpF.ret (.stay hT hm hnd h))
theorem zAC7{id:Nat}:qJ7 P X A nt rnd (.exit id):=λenv K s h T ms hT hm hnd=>qEK (wpF.ret (.stay hT hm hnd h))
theorem zAEt:qJ7 P X A nt rnd .ret:=λenv K s h T ms hT hm hnd=>qEK (wpF.ret (.stay hT hm hnd h))
theorem qZG(hX:FrX X){id:Nat}{ops:Array Oper}{draw:Bool}:qJ7 P X A nt rnd (.region id ops draw):=by
 intro env K s h T ms hT hm hnd;refine qEK ?_;unfold wpC at h;cases hokd:((ops.toList.all λo=>okOp o.op)&&(draw||(qBc ops.toList).isNone))with
 |false=>rw[hokd]at h;exact h.elim
 | true=>
   rw[hokd,cond_true]at h;obtain⟨hok,hdn⟩:=Bool.and_eq_true_iff.1 hokd;have fin:∀m:Nat->M Tmps,(∀n,Fr (m n))->Mono m->wpF m (λT' s'=>∃env',TR T' env'/\K .nrm env' s'/\∀j,(∀o∈ops.toList,o.dst≠some j)->env' j=env j) s->
     wpF (λn=>bd (m n) λT=>ret (Out.exit .nrm T (mkm ms))) (qZx (.region id ops draw) env K ms rnd) (add s (mkH ms)):=by
    intro m hfr hmo hw;refine wpF.bd (f:=λ_ T=>ret (Out.exit .nrm T (mkm ms))) hmo (λ_=>.const _) ((wpF.frame hfr hw λi hi=>hm i (qUL.1 hi)).mono ?_);rintro T' S ⟨s',rfl,hs',env',q1,q2,q3⟩;refine wpF.ret ⟨.nrm,T',env',[],s',rfl,q1,rfl,λi hi=>hs' i (qUL.2 hi),hnd,λj hj=>q3 j λo ho hd=>hj ?_,λ_=>rfl,q2⟩;exact qJj ho hd
   unfold qA7;cases draw with
   | false=>
     simp only[cond_false]at h ⊢;have hdn:qBc ops.toList=none:=by simpa using hdn
     rw[hdn];exact fin _ (λn=>qRA P (qF6 P hX n) _ _ _ _) (qOM _ _ _ _) (qSq _ _ _ _ _ hok hT .nil h)
   | true=>
     simp only[cond_true]at h ⊢;cases hr:(qCQ ops.toList&&qNX (qUU A ops.toList) ops (clsL P ops.toList) (masks ops.toList []))with
     |false=>rw[hr]at h;exact h.elim
     | true=>
       rw[hr,cond_true]at h;obtain⟨h1,h2⟩:=Bool.and_eq_true_iff.1 hr;simp only[h1,cond_true];have hlen:(masks ops.toList []).length=ops.size:=by rw[qJN];simp
       refine fin _ (λn=>qNj P (qF6 P hX n) _ _ _ _ _ _) (qOL _ _ _ _ _) λH hH=>?_;obtain⟨n,T',H',q1,s',env',q2,q3,q4,q5,q6⟩:=qTf hX hlen h2 ops.toList 0 [] [] [] env s T [] rfl hok hT .nil h H hH ⟨rfl,by simp,by simp,by simp,by simp,by simp⟩;exact⟨n,T',H',q1,s',q2,q3,env',q4,q5,q6⟩
theorem zAEv{a b:Code}(ha:qJ7 P X A nt rnd a)(hb:qJ7 P X A nt rnd b):qJ7 P X A nt rnd (.seq a b):=by
 intro env K s h T ms hT hm hnd;refine qEK ?_;unfold wpC at h;unfold qA7;refine wpF.bd (m:=λn=>run P X n (.code nt rnd a T (mkm ms))) (f:=λn o=>match o with
  | .exit .nrm T ms=>run P X n (.code nt rnd b T ms)
  |o=>ret o) (qDR _) (λo=>?_) ((ha env _ s h T ms hT hm hnd).mono ?_)
 ·cases o with
  | exit e T ms=>cases e with
    |nrm=>exact qDR _
    |_=>exact .const _
  |val v=>exact .const _
 ·rintro o S ⟨e,T1,env1,ms1,s1,rfl,q1,rfl,q2,q3,q4,q5,q6⟩
  cases e with
  | nrm=>
    refine(hb env1 K s1 q6 T1 (ms1++ms) q1 q2 q3).mono ?_;rintro o S ⟨e,T2,env2,ms2,s2,rfl,r1,rfl,r2,r3,r4,r5,r6⟩;refine⟨e,T2,env2,ms2++ms1,s2,by rw[List.append_assoc],r1,by rw[List.append_assoc],by rw[List.append_assoc];exact r2,by rw[List.append_assoc];exact r3,λj hj=>?_,λhr=>by rw[r5 hr,q5 hr];rfl,r6⟩;simp only[assigned,List.mem_append,not_or]at hj;rw[r4 j hj.2,q4 j hj.1]
  |exit id=>exact wpF.ret ⟨_,T1,env1,ms1,s1,rfl,q1,rfl,q2,q3,λj hj=>q4 j (by simp only[assigned,List.mem_append,not_or]at hj;exact hj.1),q5,q6⟩
  |ret=>exact wpF.ret ⟨_,T1,env1,ms1,s1,rfl,q1,rfl,q2,q3,λj hj=>q4 j (by simp only[assigned,List.mem_append,not_or]at hj;exact hj.1),q5,q6⟩
theorem zADs{c:Operand}{a b:Code}(ha:qJ7 P X A nt rnd a)(hb:qJ7 P X A nt rnd b):qJ7 P X A nt rnd (.cond c a b):=by
 intro env K s h T ms hT hm hnd;refine qEK ?_;unfold wpC at h;cases hok:okX c with
 |false=>rw[hok]at h;exact h.elim
 | true=>
   rw[hok,cond_true]at h;unfold qA7;simp only[qKb hT hok];unfold qAK at h;split at h
   ·rename_i e
    simp only[e,cond_true];refine(ha env K s h T ms hT hm hnd).mono ?_;rintro o S ⟨e,T2,env2,ms2,s2,rfl,r1,rfl,r2,r3,r4,r5,r6⟩;exact⟨e,T2,env2,ms2,s2,rfl,r1,rfl,r2,r3,λj hj=>r4 j (by simp only[assigned,List.mem_append,not_or]at hj;exact hj.1),r5,r6⟩
   ·rename_i e
    simp only[e,cond_false];refine(hb env K s h T ms hT hm hnd).mono ?_;rintro o S ⟨e,T2,env2,ms2,s2,rfl,r1,rfl,r2,r3,r4,r5,r6⟩;exact⟨e,T2,env2,ms2,s2,rfl,r1,rfl,r2,r3,λj hj=>r4 j (by simp only[assigned,List.mem_append,not_or]at hj;exact hj.2),r5,r6⟩
   ·exact h.elim
theorem zABK{id:Nat}{b:Code}(hb:qJ7 P X A nt rnd b):qJ7 P X A nt rnd (.block id b):=by
 intro env K s h T ms hT hm hnd;refine qEK ?_;unfold wpC at h;unfold qA7;refine wpF.bd (m:=λn=>run P X n (.code nt rnd b T (mkm ms))) (f:=λ_ o=>match o with
  | .exit (.exit id') T ms=>cond (Nat.beq id' id) (ret (.exit .nrm T ms)) (ret (.exit (.exit id') T ms))
  |o=>ret o) (qDR _) (λ_=>.const _) ((hb env _ s h T ms hT hm hnd).mono ?_)
 rintro o S ⟨e,T1,env1,ms1,s1,rfl,q1,rfl,q2,q3,q4,q5,q6⟩;cases e with
 | exit id'=>
   simp only at q6 ⊢;cases hb:Nat.beq id' id with
   |true=>rw[hb]at q6;exact wpF.ret ⟨_,T1,env1,ms1,s1,rfl,q1,rfl,q2,q3,q4,q5,q6⟩
   |false=>rw[hb]at q6;exact wpF.ret ⟨_,T1,env1,ms1,s1,rfl,q1,rfl,q2,q3,q4,q5,q6⟩
 |nrm=>exact wpF.ret ⟨_,T1,env1,ms1,s1,rfl,q1,rfl,q2,q3,q4,q5,q6⟩
 |ret=>exact wpF.ret ⟨_,T1,env1,ms1,s1,rfl,q1,rfl,q2,q3,q4,q5,q6⟩
theorem qNU{b:Code}{st:MapStep}(h:qCI b=some st):∃a,b=.seq a st.rest:=by
 unfold qCI at h;split at h
 ·rename_i id ops rest
  split at h
  ·rename_i nx it ty1 pos1 af1 more nx' ty2 pos2 af2 hops
   cases e:Nat.beq nx nx' with
   |false=>rw[e]at h;cases h
   |true=>rw[e]at h;cases h;exact⟨_,rfl⟩
  ·cases h
 ·cases h
theorem qPz(s:Hq):add s (mkH [])=s:=by funext i;unfold add mkH;cases s i<;>simp
theorem zADF(hX:FrX X){b:Code}(hb:qJ7 P X A nt rnd b)(hr:∀st,qCI b=some st->qJ7 P X A nt rnd st.rest):qJ7 P X A nt rnd (.loop b):=by
 intro env K s h T ms hT hm hnd;unfold wpC at h;cases hms:qCI b with
 | some st=>
   rw[hms]at h;exact h.elim
 |none=>
 rw[hms]at h;simp only at h;unfold qZu at h;obtain⟨I,⟨m,h0⟩,hstep⟩:=h;have key:∀(m:Nat) (env1:Env) (s1:Hq) (T1:Tmps) (ms1:List Nat),I ((A (2*qMQ b)).map env1) s1 m->(∀j,j ∉ assigned b->env1 j=env j)->TR T1 env1->(∀i∈ms1,s1 i=none)->ms1.Nodup->
   wpF (λn=>run P X n (.code nt rnd (.loop b) T1 (mkm ms1))) (λo S=>∃e T' env' ms' s',o=.exit e T' (mkm (ms'++ms1))/\TR T' env'/\S=add s' (mkH (ms'++ms1))/\(∀i∈ms'++ms1,s' i=none)/\(ms'++ms1).Nodup/\(∀j,j ∉ assigned b->env' j=env j)/\(rnd≠none->ms'=[])/\K e env' s') (add s1 (mkH ms1)):=by
  intro m
  induction m using Nat.strongRecOn with
  | _ m ih=>
    intro env1 s1 T1 ms1 hI hag hT1 hm1 hnd1;refine qEK ?_;have hmix:mixE (assigned b) env1 env=env1:=by
     funext j
     unfold mixE;cases hj:memN j (assigned b)with
     |true=>rfl
     |false=>exact(hag j λq=>by rw[qNB.2 q]at hj;cases hj).symm
    have hbody:=hstep env1 s1 m hI;rw[hmix]at hbody;unfold qA7;simp only[hms];refine wpF.bd (m:=λn=>run P X n (.code nt rnd b T1 (mkm ms1))) (f:=λn o=>match o with
     | .exit .nrm T ms=>run P X n (.code nt rnd (.loop b) T ms)
     |o=>ret o) (qDR _) (λo=>?_) ((hb env1 _ s1 hbody T1 ms1 hT1 hm1 hnd1).mono ?_)
    ·cases o with
     | exit e T ms=>cases e with
       |nrm=>exact qDR _
       |_=>exact .const _
     |val v=>exact .const _
    ·rintro o S ⟨e,T2,env2,ms2,s2,rfl,q1,rfl,q2,q3,q4,q5,q6⟩
     have hag2:∀j,j ∉ assigned b->env2 j=env j:=λj hj=>(q4 j hj).trans (hag j hj);cases e with
     | nrm=>
       obtain⟨m',hlt,hI'⟩:=q6;refine(ih m' hlt env2 s2 T2 (ms2++ms1) hI' hag2 q1 q2 q3).mono ?_;rintro o S ⟨e,T3,env3,ms3,s3,rfl,r1,rfl,r2,r3,r4,r5,r6⟩;exact⟨e,T3,env3,ms3++ms2,s3,by rw[List.append_assoc],r1,by rw[List.append_assoc],by rw[List.append_assoc];exact r2,by rw[List.append_assoc];exact r3,r4,λhr=>by rw[r5 hr,q5 hr];rfl,r6⟩
     |exit id=>exact wpF.ret ⟨_,T2,env2,ms2,s2,rfl,q1,rfl,q2,q3,hag2,q5,q6⟩
     |ret=>exact wpF.ret ⟨_,T2,env2,ms2,s2,rfl,q1,rfl,q2,q3,hag2,q5,q6⟩
 exact key m env s T ms h0 (λ_ _=>rfl) hT hm hnd
end Go.AM
namespace Go.AM
open Go
variable {α:Type} {P:Program} {X:Td} {A:Nat→List Nat} {nt:Nat} {rnd:Option Nat}
theorem wpF.drop{m:Nat->M α}{Q:α->Hq->Prop}{s t:Hq}(h:wpF m Q t)(hs:Sub t s)(hp:Pers s t):wpF m Q s:=λH hH=>by obtain⟨n,a,H',h1,s',h2,h3,h4⟩:=h H (hH.sub hs);exact⟨n,a,H',h1,s',h2,hp.trans h3,h4⟩
theorem qYf{s:Hq}{b:Nat}{e:Bool×Blk}:hset s b e b=some e:=if_pos rfl
theorem qTs{s:Hq}{b i:Nat}{e:Bool×Blk}(h:i≠b):hset s b e i=s i:=if_neg h
theorem qMI{s:Hq}{b i:Nat}(h:i≠b):hdel s b i=s i:=if_neg h
theorem qJA(hX:FrX X):∀c:Code,qJ7 P X A nt rnd c
 | .skip=>zADE
 | .region _ _ _=>qZG hX
 | .seq a b=>zAEv (qJA hX a) (qJA hX b)
 | .cond _ a b=>zADs (qJA hX a) (qJA hX b)
 | .block _ b=>zABK (qJA hX b)
 | .loop b=>zADF hX (qJA hX b) (match b with
   | .seq _ r=>
     have hr:=qJA hX r
     λst h=>by
      obtain⟨a',e⟩:=qNU h
      injection e with _ e2
      rw[<- e2];exact hr
   | .skip | .region _ _ _ | .cond _ _ _ | .block _ _ | .loop _ | .exit _ | .ret | .rangeFunc _ _ _ _ | .scope _ | .label _ | .goto _ | .refuse _=>λst h=>by obtain⟨a',e⟩:=qNU h;cases e)
 | .exit _=>zAC7
 | .ret=>zAEt
 | .rangeFunc _ _ _ _=>λ_ _ _ h=>h.elim
 | .scope _=>λ_ _ _ h=>h.elim
 | .label _=>λ_ _ _ h=>h.elim
 | .goto _=>λ_ _ _ h=>h.elim
 | .refuse _=>λ_ _ _ h=>h.elim
theorem qEm(l:List Mk):Mono λn=>qAz P (run P X n) l:=qCC λn=>qCn (qDF n) l
theorem qMe{s:Hq}{Q:Hq->Prop}:∀(ms:List Nat) (S:Hq),ms.Nodup->(∀i∈ms,S i=some (false,.deferred true))->Sub s S->Pers S s->(∀i∈ms,s i=none)->Q s->wpF (λn=>qAz P (run P X n) (mkm ms)) (λ_ s'=>Q s') S
 |[],S,_,_,hs,hp,_,h=>wpF.drop (wpF.ret h) hs hp
 | r::ms,S,hnd,hS,hs,hp,hm,h=>by
   have hr:=hS r (by simp);show wpF (λn=>qAz P (run P X n) (Mk.mark r::mkm ms)) _ S;unfold qAz;refine wpF.bd (f:=λn blk=>match blk with
    | .deferred true=>bd (wr r (.deferred false)) λ_=>qAz P (run P X n) (mkm ms)
    |_=>fail) (.const _) (λblk=>qCC λn=>?_) (wpF.rd hr λab hab=>?_)
   ·split
    ·exact LeM.bd (LeM.refl _) λ_=>qCn (qDF n) _
    ·exact LeM.refl _
   cases ab with
   | deferred b=>
     cases hab;refine wpF.bd (.const _) (λ_=>qEm _) (wpF.wr hr (x:=.deferred false) rfl (qMe ms _ (List.nodup_cons.1 hnd).2 (λi hi=>?_) (λi e hi=>?_) (λi b hi=>?_) (λi hi=>hm i (by simp[hi])) h))
     ·rw[qTs (show i≠r from λe=>(List.nodup_cons.1 hnd).1 (e ▸ hi))];exact hS i (by simp[hi])
     ·rw[qTs (show i≠r from λq=>by rw[q,hm r (by simp)]at hi;cases hi)];exact hs i e hi
     ·by_cases q:i=r
      ·subst q;rw[qYf]at hi;cases hi
      ·rw[qTs q]at hi;exact hp i b hi
   |_=>exact hab.elim
theorem qOY(args:List AV):TR (Tr.ofListAt .nil 0 args) (qJ3 args):=by
 intro i;unfold tget qJ3;rw[Tr.get_ofListAt];split
 ·rw[List.getD_eq_getElem?_getD];rfl
 ·rename_i h
  rw[Tr.get_nil,List.getD_eq_getElem?_getD,List.getElem?_eq_none (by omega)]
theorem qRP{o:Option α}{K K':α->Prop}(hk:∀a,K a->K' a)(h:oK o K):oK o K':=by
 cases o with
 |none=>exact h
 |some a=>exact hk a h
theorem qVE{t:TypeId}{p:AV}{K K':AV->Prop}{s:Hq}(hk:∀v,K v->K' v)(h:qP3 P t p K s):qP3 P t p K' s:=by
 unfold qP3 at h ⊢;split at h
 ·exact qRP (λl hl=>hk _ hl) h
 ·exact qRP hk h
 ·exact h
theorem qF0{T:Tmps}{env:Env}(hT:TR T env):∀(rs:List ResultVar) (k:List AV->Prop) (s:Hq),resK P rs env k s->wpF (λ_=>qBN P T rs) (λvs s'=>s'=s/\k vs) s
 |[],k,s,h=>wpF.ret ⟨rfl,h⟩
 | .tmp t::rs,k,s,h=>by
   unfold qBN;refine wpF.bd (.const _) (λ_=>.const _) ((qF0 hT rs _ s h).mono ?_);rintro vs s' ⟨rfl,hk⟩;refine wpF.ret ⟨rfl,?_⟩;have:=hT t;unfold tget at this;cases hg:T.get t with
   |none=>rw[hg]at this;simp only[Option.getD_none]at this;simp only[this];exact hk
   |some v=>rw[hg]at this;simp only[Option.getD_some]at this;simp only[this];exact hk
 | .cell a t::rs,k,s,h=>by
   unfold resK at h;unfold qBN;have hg:∀b o,env a=.ptr b o->T.get a=some (.ptr b o):=by
    intro b o e;have:=hT a;unfold tget at this;cases hg:T.get a with
    |none=>rw[hg,e]at this;cases this
    |some v=>rw[hg,e]at this;simp only[Option.getD_some]at this;rw[this]
   have hp:∃b o,env a=.ptr b o:=by
    unfold qP3 at h;split at h
    ·obtain⟨l,e,_⟩:=qAj h
     unfold rdN at e;split at e
     ·rename_i b o q;exact⟨b,o,q⟩
     ·cases e
    ·obtain⟨l,e,_⟩:=qAj h
     unfold rd1 at e;split at e
     ·rename_i b o q;exact⟨b,o,q⟩
     ·cases e
    ·exact h.elim
   obtain⟨b,o,e⟩:=hp;simp only[hg b o e];rw[e]at h;have hld:wpF (λ_=>qHk P t b o) (λv s'=>s'=s/\resK P rs env (λvs=>k (v::vs)) s) s:=qXQ (p:=.ptr b o) (Q:=λv s'=>s'=s/\resK P rs env (λvs=>k (v::vs)) s) (qVE (λv hv=>⟨rfl,hv⟩) h);refine wpF.bd (.const _) (λ_=>.const _) (hld.mono ?_);rintro v s' ⟨rfl,hv⟩;refine wpF.bd (.const _) (λ_=>.const _) ((qF0 hT rs _ _ hv).mono ?_);rintro vs s' ⟨rfl,hk⟩;exact wpF.ret ⟨rfl,hk⟩
theorem qSw(hX:FrX X)(A:Nat->List Nat){f:FuncId}(hXf:X f=none){fn:Func}{c:Code}(hf:P.funcs[f]?=some fn)(hb:fn.body=some c){args:List AV}(hl:Nat.ble args.length fn.ntmps=true){K:AV->Hq->Prop}{s:Hq}
  (h:wpC P X A fn.ntmps none c (qJ3 args) (λe env s=>retK e (resK P fn.results.toList env (λvs=>K (oneV vs) s) s)) s):wC P X f args K s:=by
 unfold wC wpT;refine wpF.succ (m:=λn=>qBo P (run P X n) f args) ?_ (λn=>by
  show(match X f with
   |some g=>bd (g args) λv=>ret (Out.val v)
   |none=>qBo P (run P X n) f args)=_
  rw[hXf])
 unfold qBo;simp only[hf,hb];refine wpF.cond hl ?_;have hc:=qJA (P:=P) (A:=A) (nt:=fn.ntmps) (rnd:=none) hX c (qJ3 args) _ s h (Tr.ofListAt .nil 0 args) [] (qOY args) (by simp) List.nodup_nil;have e0:add s (mkH [])=s:=by funext i;unfold add mkH;cases s i<;>simp
 rw[e0]at hc;refine wpF.bd (m:=λn=>run P X n (.code fn.ntmps none c (Tr.ofListAt .nil 0 args) [])) (qDR _) (λo=>qCC λn=>?_) (hc.mono ?_)
 ·split
  ·split
   ·exact LeM.refl _
   ·exact LeM.bd (qCn (qDF n) _) λ_=>LeM.refl _
  ·exact LeM.refl _
 rintro o S ⟨e,T',env',ms',s',rfl,q1,rfl,q2,q3,_,_,q6⟩;simp only[List.append_nil]at q2 q3 ⊢;have body:resK P fn.results.toList env' (λvs=>K (oneV vs) s') s'->wpF (λn=>bd (qAz P (run P X n) (mkm ms')) λ_=>bd (qBN P T' fn.results.toList) λvs=>ret (Out.val (oneV vs))) (λo s'=>∃v,o=.val v/\K v s') (add s' (mkH ms')):=by
  intro hr;refine wpF.bd (qEm _) (λ_=>.const _) ((qMe (Q:=λt=>t=s') ms' _ q3 (λi hi=>?_) (λi e hi=>qCK hi) (λi b hi=>?_) q2 rfl).mono ?_)
  ·rw[qCU (q2 i hi)];unfold mkH;rw[if_pos hi]
  ·cases q:s' i with
   |some x=>rw[qCK q]at hi;exact hi
   | none=>
     rw[qCU q]at hi;unfold mkH at hi;split at hi<;>cases hi
  ·rintro _ t rfl
   refine wpF.bd (.const _) (λ_=>.const _) ((qF0 q1 _ _ _ hr).mono ?_);rintro vs s'' ⟨rfl,hk⟩;exact wpF.ret ⟨_,rfl,hk⟩
 cases e with
 |exit id=>exact q6.elim
 |nrm=>exact body q6
 |ret=>exact body q6
end Go.AM
namespace Go.AM
open Go Go.RowKit Go.ChangeShapes Go.WideShapes Go.ChangeAt
def tiles(P:Program)(total:Nat):Nat->List Field->Bool
 |off,[]=>Nat.beq off total
 |off,f::fs=>Nat.beq f.offset off&&tiles P total (off+P.cellsOf f.type) fs
def plainT(P:Program):Nat->TypeId->Bool
 | 0,_=>false
 | d+1,t=>match P.underlying t with
   |some .bool|some (.int _)|some .string=>true
   |some (.slice e)=>Nat.blt 0 (P.cellsOf e)&&plainT P d e
   |some (.struct fs)=>tiles P (P.cellsOf t) 0 fs.toList&&fs.toList.all λf=>plainT P d f.type
   |some (.array n e)=>Nat.beq (P.cellsOf t) (n*P.cellsOf e)&&(Nat.blt 0 (P.cellsOf e)&&plainT P d e)
   |_=>false
def Inp(P:Program)(s:Hq):Nat->TypeId->List AV->Prop
 | 0,_,_=>False
 | d+1,t,xs=>match P.underlying t with
   |some .bool=>∃b,xs=[.bool b]
   |some (.int k)=>∃n,xs=[.int k n]/\(Lit.int k n).wf=true
   |some .string=>∃v,xs=[.str v]/\v.size<=maxLen
   |some (.slice e)=>xs=[.nilslc]∨∃b len cap,xs=[.slc b 0 len (some cap) (P.cellsOf e)]/\len<=cap/\cap<=maxLen/\
     (0<cap->∃el l,s b=some (true,.cells el l)/\l.length=cap*P.cellsOf e/\∀i,i<cap->Inp P s d e ((l.drop (i*P.cellsOf e)).take (P.cellsOf e)))
   |some (.struct fs)=>xs.length=P.cellsOf t/\∀f∈fs.toList,Inp P s d f.type ((xs.drop f.offset).take (P.cellsOf f.type))
   |some (.array n e)=>xs.length=P.cellsOf t/\∀i,i<n->Inp P s d e ((xs.drop (i*P.cellsOf e)).take (P.cellsOf e))
   |_=>False
abbrev IB:=List (Loc×TypeId×List AV)
def rhoB(B:IB):Ren:=λid=>match id with
 | 0=>some ⟨0,0,0⟩
 | i+1=>match B[i]? with
   |some x=>some x.1
   |none=>none
def qLm(B:IB):Hq:=λid=>match id with
 | 0=>none
 | i+1=>match B[i]? with
   |some x=>some (true,.cells x.2.1 x.2.2)
   |none=>none
theorem qOV(B C:IB):Le (rhoB B) (rhoB (B++C)):=by
 intro id L h;cases id with
 |zero=>exact h
 | succ i=>
   unfold rhoB at h ⊢;simp only at h ⊢;cases e:B[i]? with
   |none=>rw[e]at h;cases h
   |some x=>rw[e]at h;rw[List.getElem?_append_left (gS e).1,e];exact h
theorem qK1(B C:IB):Sub (qLm B) (qLm (B++C)):=by
 intro id L h;cases id with
 |zero=>exact h
 | succ i=>
   unfold qLm at h ⊢;simp only at h ⊢;cases e:B[i]? with
   |none=>rw[e]at h;cases h
   |some x=>rw[e]at h;rw[List.getElem?_append_left (gS e).1,e];exact h
theorem Inp.sub{P:Program}{s s':Hq}(hs:Sub s s'):∀(d:Nat) (t:TypeId) (xs:List AV),Inp P s d t xs->Inp P s' d t xs
 | 0,_,_,h=>h
 | d+1,t,xs,h=>by
   unfold Inp at h ⊢;split at h
   ·exact h
   ·exact h
   ·exact h
   ·rcases h with h|⟨b,len,cap,h1,h2,h3,h4⟩
    ·exact .inl h
    ·refine .inr ⟨b,len,cap,h1,h2,h3,λhc=>?_⟩
     obtain⟨el,l,q1,q2,q3⟩:=h4 hc;exact⟨el,l,hs _ _ q1,q2,λi hi=>Inp.sub hs d _ _ (q3 i hi)⟩
   ·exact⟨h.1,λf hf=>Inp.sub hs d _ _ (h.2 f hf)⟩
   ·exact⟨h.1,λi hi=>Inp.sub hs d _ _ (h.2 i hi)⟩
   ·exact h
def VB(σ:Nat->Value)(B:IB)(W:World):Prop:=∀(i:Nat) (x:Loc×TypeId×List AV),B[i]?=some x->∃(cc:Array Value) (fr:Nat×Nat),W.heap[x.1.blk]?=some (.cells cc x.2.1 fr)/\cc.size=x.1.sz/\x.1.sh+x.2.2.length<=cc.size/\qAd x.2.2=true/\
 ∀(j:Nat) (v:AV),x.2.2[j]?=some v->∃v',cc[x.1.sh+j]?=some v'/\Rel σ (rhoB B) v v'/\v'.oneCell'=true
theorem VB.snoc{σ:Nat->Value}{B:IB}{W:World}(h:VB σ B W)(x:Loc×TypeId×List AV)
  (hx:∃(cc:Array Value) (fr:Nat×Nat),W.heap[x.1.blk]?=some (.cells cc x.2.1 fr)/\cc.size=x.1.sz/\x.1.sh+x.2.2.length<=cc.size/\qAd x.2.2=true/\∀(j:Nat) (v:AV),x.2.2[j]?=some v->∃v',cc[x.1.sh+j]?=some v'/\Rel σ (rhoB B) v v'/\v'.oneCell'=true):VB σ (B ++ [x]) W:=by
 intro i y hy;rw[List.getElem?_append]at hy;split at hy
 ·obtain⟨cc,fr,h1,h2,h3,h4,h5⟩:=h i y hy
  exact⟨cc,fr,h1,h2,h3,h4,λj v hv=>let ⟨v',q1,q2,q3⟩:=h5 j v hv;⟨v',q1,Rel.mono (qOV B [x]) _ _ q2,q3⟩⟩
 ·have:y=x:=by
   cases e:i-B.length with
   |zero=>rw[e]at hy;exact(Option.some.inj hy).symm
   |succ k=>rw[e]at hy;cases hy
  subst this;obtain⟨cc,fr,h1,h2,h3,h4,h5⟩:=hx;exact⟨cc,fr,h1,h2,h3,h4,λj v hv=>let ⟨v',q1,q2,q3⟩:=h5 j v hv;⟨v',q1,Rel.mono (qOV B [y]) _ _ q2,q3⟩⟩
section
variable {H:Type} {enc:TypeId × Value→H} {P:Program} {W:World} {σ:Nat→Value}
theorem qNo(hσ:One σ)(Q:Nat->List AV->Hq->Prop)(hQ:∀i xs s s',Sub s s'->Q i xs s->Q i xs s')(css:Nat->List Value):∀(n:Nat) (B:IB),VB σ B W->
  (∀i,i<n->∀B,VB σ B W->∃xs C,VB σ (B++C) W/\RelL σ (rhoB (B++C)) xs (css i)/\qAd xs=true/\Q i xs (qLm (B++C)))->
  ∃(xss:Nat->List AV) (C:IB),VB σ (B++C) W/\∀i,i<n->RelL σ (rhoB (B++C)) (xss i) (css i)/\qAd (xss i)=true/\Q i (xss i) (qLm (B++C))
 | 0,B,hB,_=>⟨λ_=>[],[],by simpa using hB,λi hi=>by omega⟩
 | n+1,B,hB,h=>by
   obtain⟨xss,C,h1,h2⟩:=qNo hσ Q hQ css n B hB λi hi=>h i (by omega);obtain⟨xs,D,g1,g2,g3,g4⟩:=h n (by omega) (B++C) h1;refine⟨λi=>if i=n then xs else xss i,C++D,by rw[<- List.append_assoc];exact g1,λi hi=>?_⟩;rw[<- List.append_assoc]
   by_cases e:i=n
   ·subst e
    simp only[if_true];exact⟨g2,g3,g4⟩
   ·simp only[if_neg e]
    obtain⟨q1,q2,q3⟩:=h2 i (by omega);exact⟨RelL.mono (qOV (B++C) D) _ _ q1,q2,hQ _ _ _ _ (qK1 (B++C) D) q3⟩
def pieces(xss:Nat->List AV)(es n:Nat):List AV:=(List.range (n*es)).map λj=>(xss (j / es)).getD (j % es) .undef
theorem qCZ(xss:Nat->List AV)(es n:Nat):(pieces xss es n).length=n*es:=by simp[pieces]
theorem qHY(xss:Nat->List AV)(es n j:Nat)(h:j<n*es):(pieces xss es n)[j]?=some ((xss (j / es)).getD (j % es) .undef):=by simp[pieces,h]
theorem qOr(xss:Nat->List AV)(es n i:Nat)(h0:0<es)(hi:i<n)(hl:(xss i).length=es):((pieces xss es n).drop (i*es)).take es=xss i:=by
 have hm:(i+1)*es<=n*es:=Nat.mul_le_mul_right _ hi;rw[Nat.add_mul,Nat.one_mul]at hm;apply List.ext_getElem?;intro j;rw[List.getElem?_take];split
 ·rename_i hj
  rw[List.getElem?_drop,qHY _ _ _ _ (by omega)];have e1:(i*es+j) / es=i:=by rw[Nat.mul_comm,Nat.mul_add_div h0,Nat.div_eq_of_lt hj];omega
  have e2:(i*es+j) % es=j:=by rw[Nat.mul_comm,Nat.mul_add_mod,Nat.mod_eq_of_lt hj]
  rw[e1,e2,List.getD_eq_getElem?_getD,gE (by omega)];rfl
 ·rw[List.getElem?_eq_none (by omega)]
theorem qRr{l:List AV}(h:∀(j:Nat) (v:AV),l[j]?=some v->v.one=true):qAd l=true:=qJb λx hx=>by obtain⟨i,hi⟩:=List.getElem?_of_mem hx;exact h i x hi
theorem qUa{P:Program}{total:Nat}:∀{fs:List Field}{off:Nat},tiles P total off fs=true->off<=total
 |[],off,h=>by have:=bE h;omega
 | f::fs,off,h=>by
   unfold tiles at h;have:=qUa (Bool.and_eq_true_iff.1 h).2;omega
theorem qOm(hσ:One σ)(d:Nat)(cs:List Value)(total:Nat)(hl:cs.length=total):∀(fs:List Field) (off:Nat) (B:IB),VB σ B W->tiles P total off fs=true->
  (∀f∈fs,∀B,VB σ B W->∃xs C,VB σ (B++C) W/\RelL σ (rhoB (B++C)) xs ((cs.drop f.offset).take (P.cellsOf f.type))/\qAd xs=true/\Inp P (qLm (B++C)) d f.type xs)->
  ∃xs C,VB σ (B++C) W/\RelL σ (rhoB (B++C)) xs (cs.drop off)/\qAd xs=true/\∀f∈fs,off<=f.offset/\Inp P (qLm (B++C)) d f.type ((xs.drop (f.offset-off)).take (P.cellsOf f.type))
 | [],off,B,hB,ht,_=>by
   refine⟨[],[],by simpa using hB,?_,rfl,by simp⟩;have:=bE ht;rw[List.drop_eq_nil_of_le (by omega)];exact .nil
 | f::fs,off,B,hB,ht,h=>by
   unfold tiles at ht;obtain⟨h1,h2⟩:=Bool.and_eq_true_iff.1 ht;have ho:=bE h1;have hle:=qUa h2;obtain⟨xs,C,g1,g2,g3,g4⟩:=h f (by simp) B hB;obtain⟨ys,D,k1,k2,k3,k4⟩:=qOm hσ d cs total hl fs (off+P.cellsOf f.type) (B++C) g1 h2 λf' hf'=>h f' (by simp[hf']);have hx:xs.length=P.cellsOf f.type:=by have:=g2.length;rw[<- this,List.length_take,List.length_drop,ho];omega
   refine⟨xs++ys,C++D,by rw[<- List.append_assoc];exact k1,?_,qCr g3 k3,λf' hf'=>?_⟩
   ·rw[<- List.append_assoc]
    have e:cs.drop off=(cs.drop f.offset).take (P.cellsOf f.type)++cs.drop (off+P.cellsOf f.type):=by rw[ho,<- List.drop_drop,List.take_append_drop]
    rw[e];exact RelL.append (RelL.mono (qOV (B++C) D) _ _ g2) k2
   ·rw[<- List.append_assoc]
    rcases mC hf' with rfl|hf'
    ·refine⟨by omega,?_⟩
     rw[ho,Nat.sub_self,List.drop_zero,<- hx,List.take_left];exact Inp.sub (qK1 (B++C) D) _ _ _ g4
    ·obtain⟨q1,q2⟩:=k4 f' hf'
     refine⟨by omega,?_⟩;have e:(xs++ys).drop (f'.offset-off)=ys.drop (f'.offset-(off+P.cellsOf f.type)):=by
      rw[List.drop_append,List.drop_eq_nil_of_le (by omega),List.nil_append,hx]
      congr 1;omega
     rw[e];exact q2
theorem qPs(hσ:One σ):∀(d:Nat) (t:TypeId) (cs:List Value) (fuel:Nat) (x:DataW H×List MemPlace),plainT P d t=true->DataW.trod enc P W 0 (λ_=>true) true fuel t cs=some x->
  ∀B,VB σ B W->∃xs C,VB σ (B++C) W/\RelL σ (rhoB (B++C)) xs cs/\qAd xs=true/\Inp P (qLm (B++C)) d t xs
 | 0,_,_,_,_,hp,_,_,_=>by cases hp
 | d+1,t,cs,fuel,x,hp,h,B,hB=>by
   unfold plainT at hp;unfold Inp;split at hp
   ·rename_i hu
    obtain⟨b,rfl,_⟩:=DataW.trod_bool hu h;refine⟨[.bool b],[],by simpa using hB,.cons (by unfold Rel;rfl) .nil,rfl,?_⟩;exact⟨b,rfl⟩
   ·rename_i k hu
    obtain⟨n,rfl,_,hw⟩:=DataW.trod_int hu h;refine⟨[.int k n],[],by simpa using hB,.cons (by unfold Rel;rfl) .nil,rfl,?_⟩;exact⟨n,rfl,hw⟩
   ·rename_i hu
    obtain⟨v,rfl,_,hv⟩:=DataW.trod_string hu h;refine⟨[.str v],[],by simpa using hB,.cons (by unfold Rel;rfl) .nil,rfl,?_⟩;exact⟨v,rfl,hv⟩
   ·rename_i e hu
    obtain⟨hp1,hp2⟩:=Bool.and_eq_true_iff.1 hp;have hes:0<P.cellsOf e:=by rwa [Nat.blt_eq]at hp1
    rcases DataW.trod_slice hu h with⟨rfl,_⟩|⟨a,len,cap,elems,rest,n,_,rfl,_,_,hlc,hcm,hel,hrd,hsp,_⟩
    ·exact⟨[.nilslc],[],by simpa using hB,.cons (by unfold Rel;rfl) .nil,rfl,.inl rfl⟩
    ·obtain⟨hrl,hrd2⟩:=hsp rfl
     have each:∀i,i<cap->∃y,(W.cells? 0 (a.add (i*P.cellsOf e)) (P.cellsOf e)).bind (DataW.trod enc P W 0 (λ_=>true) true n e)=some y:=by
      intro i hi
      by_cases hil:i<len
      ·rw[hrd i hil];exact⟨_,gE (by omega)⟩
      ·have:=hrd2 (i-len) (by omega)
       rw[show len+(i-len)=i by omega]at this;rw[this];exact⟨_,gE (by omega)⟩
     by_cases hc:cap=0
     ·subst hc
      have hl0:len=0:=by omega
      subst hl0;refine⟨[.slc 0 0 0 (some 0) (P.cellsOf e)],[],by simpa using hB,.cons ?_ .nil,rfl,.inr ⟨0,0,0,rfl,Nat.le_refl _,hcm,λh=>by omega⟩⟩;unfold Rel;exact⟨⟨0,0,0⟩,a,0,rfl,rfl,.inr ⟨rfl,rfl⟩,Nat.le_refl _,λk hk=>by cases hk;rfl⟩
     ·have css:∀i,i<cap->∃c,W.cells? 0 (a.add (i*P.cellsOf e)) (P.cellsOf e)=some c/\∃y,DataW.trod enc P W 0 (λ_=>true) true n e c=some y:=by
       intro i hi;obtain⟨y,hy⟩:=each i hi;rw[Option.bind_eq_some_iff]at hy;obtain⟨c,h1,h2⟩:=hy;exact⟨c,h1,y,h2⟩
      obtain⟨xss,C,h1,h2⟩:=qNo (W:=W) hσ (λ_ xs s=>Inp P s d e xs) (λi xs s s' hs h=>Inp.sub hs d e xs h) (λi=>(W.cells? 0 (a.add (i*P.cellsOf e)) (P.cellsOf e)).getD []) cap B hB λi hi B hB=>by obtain⟨c,g1,y,g2⟩:=css i hi;rw[g1];exact qPs hσ d e c n y hp2 g2 B hB
      have cell:∀i j,i<cap->j<P.cellsOf e->∃v,W.cell? (a.add (i*P.cellsOf e+j))=some v/\((W.cells? 0 (a.add (i*P.cellsOf e)) (P.cellsOf e)).getD [])[j]?=some v:=by
       intro i j hi hj;obtain⟨c,g1,_⟩:=css i hi;obtain⟨_,g2,g3⟩:=World.cells?_some g1;have g4:=g3 j hj;rw[gE (by omega)]at g4;refine⟨c[j]'(by omega),?_,by rw[g1];simp⟩;rw[<- g4]
       congr 1
       unfold Addr.add
       by_cases z1:i*P.cellsOf e=0
       ·by_cases z2:j=0
        ·simp[z1,z2]
        ·simp[z1,z2]
       ·by_cases z2:j=0
        ·simp[z1,z2]
        ·simp[z1,z2,Nat.add_assoc]
      obtain⟨v0,hv0,_⟩:=cell 0 0 (by omega) hes;rw[Nat.zero_mul,zA]at hv0;have hblk:∃cc el fr,W.heap[a.block]?=some (.cells cc el fr)/\a.spot=none:=by
       have e0:a.add 0=a:=by simp[Addr.add]
       rw[e0]at hv0;unfold World.cell? at hv0;split at hv0
       ·rename_i cc el fr hb
        cases hs:a.spot with
        |none=>exact⟨cc,el,fr,hb,rfl⟩
        |some k=>rw[hs]at hv0;simp at hv0
       ·cases hv0
      obtain⟨cc,el,fr,hb,hspot⟩:=hblk;have ha:a=⟨a.block,a.off,none⟩:=by cases a;simp only at hspot;rw[hspot]
      have at_:∀k,k<cap*P.cellsOf e->∃v,cc[a.off+k]?=some v/\((W.cells? 0 (a.add ((k / P.cellsOf e)*P.cellsOf e)) (P.cellsOf e)).getD [])[k % P.cellsOf e]?=some v:=by
       intro k hk;have hq:k / P.cellsOf e<cap:=by rw[Nat.div_lt_iff_lt_mul hes];exact hk
       obtain⟨v,g1,g2⟩:=cell (k / P.cellsOf e) (k % P.cellsOf e) hq (Nat.mod_lt _ hes);refine⟨v,?_,g2⟩;rw[Nat.mul_comm,Nat.div_add_mod,ha,qDj,qJM hb]at g1;exact g1
      have hlen:∀i,i<cap->(xss i).length=P.cellsOf e:=by intro i hi;have:=(h2 i hi).1.length;obtain⟨c,g1,_⟩:=css i hi;rw[g1]at this;rw[<- this];exact(World.cells?_some g1).2.1
      have hsz:a.off+cap*P.cellsOf e<=cc.size:=by have hpos:0<cap*P.cellsOf e:=Nat.mul_pos (by omega) hes;obtain⟨v,g1,_⟩:=at_ (cap*P.cellsOf e-1) (by omega);have:=(Array.getElem?_eq_some_iff.1 g1).1;omega
      have hvb:VB σ ((B++C) ++ [(⟨a.block,a.off,cc.size⟩,el,pieces xss (P.cellsOf e) cap)]) W:=by
       refine h1.snoc _ ⟨cc,fr,hb,rfl,by rw[qCZ];exact hsz,?_,λj v hv=>?_⟩
       ·refine qRr λj v hv=>?_
        have hj:j<cap*P.cellsOf e:=by have:=(gS hv).1;rwa [qCZ]at this
        rw[qHY _ _ _ _ hj]at hv;have hq:j / P.cellsOf e<cap:=by rw[Nat.div_lt_iff_lt_mul hes];exact hj
        have hm:j % P.cellsOf e<(xss (j / P.cellsOf e)).length:=by rw[hlen _ hq];exact Nat.mod_lt _ hes
        rw[List.getD_eq_getElem?_getD,gE hm]at hv;cases hv;exact qEe (h2 _ hq).2.1 _ (List.getElem_mem hm)
       ·have hj:j<cap*P.cellsOf e:=by have:=(gS hv).1;rwa [qCZ]at this
        rw[qHY _ _ _ _ hj]at hv;have hq:j / P.cellsOf e<cap:=by rw[Nat.div_lt_iff_lt_mul hes];exact hj
        have hm:j % P.cellsOf e<(xss (j / P.cellsOf e)).length:=by rw[hlen _ hq];exact Nat.mod_lt _ hes
        rw[List.getD_eq_getElem?_getD,gE hm]at hv;cases hv;obtain⟨r1,r2,_⟩:=h2 _ hq;obtain⟨y,g1,g2⟩:=r1.get (j % P.cellsOf e) _ (gE hm);obtain⟨v',k1,k2⟩:=at_ j hj;rw[g1]at k2;cases k2;exact⟨y,k1,g2,qQY hσ g2 (qEe r2 _ (List.getElem_mem hm))⟩
      refine⟨[.slc ((B++C).length+1) 0 len (some cap) (P.cellsOf e)],C ++ [(⟨a.block,a.off,cc.size⟩,el,pieces xss (P.cellsOf e) cap)],by rw[<- List.append_assoc];exact hvb,?_,rfl,.inr ⟨_,len,cap,rfl,hlc,hcm,λ_=>⟨el,pieces xss (P.cellsOf e) cap,?_,qCZ _ _ _,λi hi=>?_⟩⟩⟩
      ·rw[<- List.append_assoc]
       refine .cons ?_ .nil;unfold Rel;refine⟨⟨a.block,a.off,cc.size⟩,a,cap,?_,rfl,.inl ⟨ha,by simpa using hsz⟩,hlc,λk hk=>by cases hk;rfl⟩;unfold rhoB;simp
      ·rw[<- List.append_assoc]
       unfold qLm;simp
      ·rw[qOr _ _ _ _ hes hi (hlen i hi),<- List.append_assoc]
       exact Inp.sub (qK1 (B++C) _) _ _ _ (h2 i hi).2.2
   ·rename_i fs hu
    obtain⟨hp1,hp2⟩:=Bool.and_eq_true_iff.1 hp;obtain⟨xs,n,_,_,hl,hxl,hx⟩:=DataW.trod_struct hu h;obtain⟨ys,C,g1,g2,g3,g4⟩:=qOm (W:=W) (P:=P) hσ d cs (P.cellsOf t) hl fs.toList 0 B hB hp1 λf hf B hB=>by
     obtain⟨i,hi⟩:=List.getElem?_of_mem hf;have hi':fs[i]?=some f:=by simpa using hi
     have:=hx i f hi';rw[gE (by rw[hxl];exact(Array.getElem?_eq_some_iff.1 hi').1)]at this;exact qPs hσ d f.type _ n _ (List.all_eq_true.1 hp2 f hf) this B hB
    rw[List.drop_zero]at g2;exact⟨ys,C,g1,g2,g3,by rw[<- g2.length];exact hl,λf hf=>by simpa using(g4 f hf).2⟩
   ·rename_i n e hu
    obtain⟨hp1,hp2⟩:=Bool.and_eq_true_iff.1 hp;obtain⟨hp2,hp3⟩:=Bool.and_eq_true_iff.1 hp2;have hes:0<P.cellsOf e:=by rwa [Nat.blt_eq]at hp2
    have htot:=bE hp1;obtain⟨ys,m,_,_,hl,hyl,hy⟩:=DataW.trod_array hu h;obtain⟨xss,C,h1,h2⟩:=qNo (W:=W) hσ (λ_ xs s=>Inp P s d e xs) (λi xs s s' hs h=>Inp.sub hs d e xs h) (λi=>(cs.drop (i*P.cellsOf e)).take (P.cellsOf e)) n B hB λi hi B hB=>by have:=hy i hi;rw[gE (by omega)]at this;exact qPs hσ d e _ m _ hp3 this B hB
    have hlen:∀i,i<n->(xss i).length=P.cellsOf e:=by intro i hi;have:=(h2 i hi).1.length;rw[<- this,List.length_take,List.length_drop,hl,htot];have:(i+1)*P.cellsOf e<=n*P.cellsOf e:=Nat.mul_le_mul_right _ hi;rw[Nat.add_mul,Nat.one_mul]at this;omega
    refine⟨pieces xss (P.cellsOf e) n,C,h1,?_,?_,by rw[qCZ,htot],λi hi=>?_⟩
    ·refine RelL.of_get (by rw[qCZ,hl,htot]) λj x y hx hy'=>?_
     have hj:j<n*P.cellsOf e:=by have:=(gS hx).1;rwa [qCZ]at this
     rw[qHY _ _ _ _ hj]at hx;have hq:j / P.cellsOf e<n:=by rw[Nat.div_lt_iff_lt_mul hes];exact hj
     have hm:j % P.cellsOf e<(xss (j / P.cellsOf e)).length:=by rw[hlen _ hq];exact Nat.mod_lt _ hes
     rw[List.getD_eq_getElem?_getD,gE hm]at hx;cases hx;obtain⟨y',g1,g2⟩:=(h2 _ hq).1.get (j % P.cellsOf e) _ (gE hm);rw[List.getElem?_take,if_pos (Nat.mod_lt _ hes),List.getElem?_drop,Nat.mul_comm,Nat.div_add_mod,hy']at g1;cases g1;exact g2
    ·refine qRr λj v hv=>?_
     have hj:j<n*P.cellsOf e:=by have:=(gS hv).1;rwa [qCZ]at this
     rw[qHY _ _ _ _ hj]at hv;have hq:j / P.cellsOf e<n:=by rw[Nat.div_lt_iff_lt_mul hes];exact hj
     have hm:j % P.cellsOf e<(xss (j / P.cellsOf e)).length:=by rw[hlen _ hq];exact Nat.mod_lt _ hes
     rw[List.getD_eq_getElem?_getD,gE hm]at hv;cases hv;exact qEe (h2 _ hq).2.1 _ (List.getElem_mem hm)
    ·rw[qOr _ _ _ _ hes hi (hlen i hi)]
     exact(h2 i hi).2.2
   ·cases hp
end
end Go.AM
namespace Go.AM
open Go Go.RowKit Go.ChangeShapes Go.WideShapes Go.ChangeAt
section
variable {H:Type} {enc:TypeId × Value→H} {P:Program} {W W':World} {σ:Nat→Value}
theorem qHT{α β:Type}{f g:α->Option β}:∀{l:List α}{ys:List β},l.mapM f=some ys->(∀x∈l,∀y∈ys,f x=some y->g x=some y)->l.mapM g=some ys
 |[],ys,h,_=>by simpa using h
 | a::l,ys,h,hg=>by
   rw[List.mapM_cons]at h ⊢;cases ha:f a with
   |none=>rw[ha]at h;cases h
   | some b=>
     rw[ha]at h;cases hl:l.mapM f with
     |none=>rw[hl]at h;cases h
     | some bs=>
       rw[hl]at h;cases h;rw[hg a (by simp) b (by simp) ha,qHT hl λx hx y hy=>hg x (by simp[hx]) y (by simp[hy])];rfl
theorem qVn(hb:Below W.heap.size W W'){a:Addr}{n:Nat}{cs:List Value}(h:W.cells? 0 a n=some cs):W'.cells? 0 a n=some cs:=by
 unfold World.cells? at h ⊢;rw[if_pos (Nat.zero_le _)]at h ⊢;refine qHT h λi _ v _ hv=>?_;have hlt:(a.add i).block<W.heap.size:=by
  unfold World.cell? at hv;cases hq:W.heap[(a.add i).block]? with
  |none=>rw[hq]at hv;cases hv
  |some o=>exact(Array.getElem?_eq_some_iff.1 hq).1
 rw[<- hv];exact hb.cell hlt
theorem qK6(hb:Below W.heap.size W W')(sp:Nat->Bool):∀(d:Nat) (t:TypeId) (cs:List Value) (fuel:Nat) (x:DataW H×List MemPlace),plainT P d t=true->DataW.trod enc P W 0 (λ_=>true) true fuel t cs=some x->
  (∀p∈x.2,sp p.block=true)->DataW.trod enc P W' 0 sp true fuel t cs=some x
 | 0,_,_,_,_,hp,_,_=>by cases hp
 | d+1,t,cs,fuel,x,hp,h,hsp=>by
   unfold plainT at hp;cases fuel with
   |zero=>cases h
   |succ fuel=>
   split at hp
   ·rename_i hu
    obtain⟨b,rfl,rfl⟩:=DataW.trod_bool hu h;simp only[DataW.trod,hu]
   ·rename_i k hu
    obtain⟨n,rfl,rfl,hw⟩:=DataW.trod_int hu h;simp[DataW.trod,hu,hw]
   ·rename_i hu
    obtain⟨v,rfl,rfl,hv⟩:=DataW.trod_string hu h;simp[DataW.trod,hu,hv]
   ·rename_i e hu
    obtain⟨hp1,hp2⟩:=Bool.and_eq_true_iff.1 hp;have hes:0<P.cellsOf e:=by rwa [Nat.blt_eq]at hp1
    rcases DataW.trod_slice hu h with⟨rfl,rfl⟩|⟨a,len,cap,elems,rest,n,hn,rfl,rfl,_,hlc,hcm,hel,_,hspare,_⟩
    ·simp only[DataW.trod,hu]
    ·obtain⟨hrl,_⟩:=hspare rfl
     have h0:=h;simp only[DataW.trod,hu,if_true,Nat.zero_le,true_and]at h ⊢;rw[if_pos ⟨hlc,hcm⟩]at h ⊢;rw[Option.bind_eq_some_iff]at h;obtain⟨el2,g1,g2⟩:=h;rw[Option.map_eq_some_iff]at g2;obtain⟨re2,g2,g3⟩:=g2;have hlen1:el2.length=len:=by rw[mapM_some_length g1];simp
     have hlen2:re2.length=cap-len:=by rw[mapM_some_length g2];simp
     simp only[Prod.mk.injEq,DataW.slice.injEq]at g3;obtain⟨⟨g31,g32⟩,g4⟩:=g3;have keepE:∀y,(y∈el2∨y∈re2)->∀c,DataW.trod enc P W 0 (λ_=>true) true fuel e c=some y->DataW.trod enc P W' 0 sp true fuel e c=some y:=by
      intro y hy c hc;refine qK6 hb sp d e c fuel y hp2 hc λp hpm=>hsp p ?_;simp only;rw[<- g4];refine List.mem_append_right _ (List.mem_flatMap.2 ⟨y,?_,hpm⟩);rcases hy with hy|hy
      ·exact List.mem_append_left _ hy
      ·exact List.mem_append_right _ hy
     have keepB:∀i y,(y∈el2∨y∈re2)->(W.cells? 0 (a.add (i*P.cellsOf e)) (P.cellsOf e)).bind (DataW.trod enc P W 0 (λ_=>true) true fuel e)=some y->
       (W'.cells? 0 (a.add (i*P.cellsOf e)) (P.cellsOf e)).bind (DataW.trod enc P W' 0 sp true fuel e)=some y:=by
      intro i y hy hi;rw[Option.bind_eq_some_iff]at hi ⊢;obtain⟨c,c1,c2⟩:=hi;exact⟨c,qVn hb c1,keepE y hy c c2⟩
     rw[qHT g1 λi _ y hy hi=>keepB i y (.inl hy) hi];simp only[Option.bind_some]
     by_cases hz:cap-len=0
     ·have:re2=[]:=List.eq_nil_of_length_eq_zero (by omega)
      subst this;simp only[hz,List.range_zero,List.mapM_nil];simp only[<- g31,<- g32,<- g4,List.map_nil];split<;>simp
     ·have hblk:sp a.block=true:=by
       refine hsp (.cell a.block (a.off+0)) ?_;simp only;refine List.mem_append_left _ ?_;unfold MemPlace.row;refine List.mem_map.2 ⟨0,?_,rfl⟩;rw[List.mem_range,hel,hrl];exact Nat.mul_pos (by omega) hes
      rw[if_pos hblk,qHT g2 λi _ y hy hi=>keepB (len+i) y (.inr hy) hi];simp only[Option.map_some,<- g31,<- g32,<- g4]
   ·rename_i fs hu
    obtain⟨_,hp2⟩:=Bool.and_eq_true_iff.1 hp;obtain⟨xs,n,_,rfl,hl,hxl,hx⟩:=DataW.trod_struct hu h;simp only[DataW.trod,hu]at h ⊢;rw[if_pos hl]at h ⊢;rw[Option.map_eq_some_iff]at h ⊢;obtain⟨ys,h1,h2⟩:=h;refine⟨ys,qHT h1 λf hf y hy hfy=>?_,h2⟩;refine qK6 hb sp d f.type _ fuel y (List.all_eq_true.1 hp2 f hf) hfy λp hpm=>hsp p ?_;simp only[Prod.mk.injEq]at h2 ⊢;rw[<- h2.2];exact List.mem_flatMap.2 ⟨y,hy,hpm⟩
   ·rename_i n e hu
    obtain⟨_,hp2⟩:=Bool.and_eq_true_iff.1 hp;obtain⟨_,hp3⟩:=Bool.and_eq_true_iff.1 hp2;obtain⟨xs,m,_,rfl,hl,hxl,hx⟩:=DataW.trod_array hu h;simp only[DataW.trod,hu]at h ⊢;rw[if_pos hl]at h ⊢;rw[Option.map_eq_some_iff]at h ⊢;obtain⟨ys,h1,h2⟩:=h;refine⟨ys,qHT h1 λi _ y hy hfy=>?_,h2⟩;refine qK6 hb sp d e _ fuel y hp3 hfy λp hpm=>hsp p ?_;simp only[Prod.mk.injEq]at h2 ⊢;rw[<- h2.2];exact List.mem_flatMap.2 ⟨y,hy,hpm⟩
   ·cases hp
theorem trodAll_keep(hb:Below W.heap.size W W')(sp:Nat->Bool)(d:Nat):∀(ts:List TypeId) (vs:List Value) (ds:List (DataW H)) (ps:List MemPlace),(ts.all λt=>plainT P d t)=true->DataW.TrodAll enc P W 0 (λ_=>true) true ts vs ds ps->
  (∀p∈ps,sp p.block=true)->DataW.TrodAll enc P W' 0 sp true ts vs ds ps
 | [],vs,ds,ps,_,h,_=>by
   cases vs<;>cases ds<;>first|exact h|exact h.elim
 |t::ts,[],ds,ps,_,h,_=>by cases ds<;>exact h.elim
 |t::ts,v::vs,[],ps,_,h,_=>h.elim
 | t::ts,v::vs,x::ds,ps,hp,h,hsp=>by
   simp only[List.all_cons,Bool.and_eq_true]at hp;obtain⟨p,q,⟨fuel,h1⟩,h2,rfl⟩:=h;exact⟨p,q,⟨fuel,qK6 hb sp d t _ fuel _ hp.1 h1 λp hpm=>hsp p (by simp[hpm])⟩,trodAll_keep hb sp d ts vs ds q hp.2 h2 λp hpm=>hsp p (by simp[hpm]),rfl⟩
def Arg(P:Program)(s:Hq)(d:Nat)(t:TypeId)(v:AV):Prop:=Inp P s d t v.cells/\(qBV P t=some true->∃l,v=.agg l/\qAd l=true)/\(qBV P t≠some true->v.cells=[v])
def ArgL(P:Program)(s:Hq)(d:Nat):List TypeId->List AV->Prop
 |[],[]=>True
 |t::ts,v::vs=>Arg P s d t v/\ArgL P s d ts vs
 |_,_=>False
theorem Arg.sub{s s':Hq}(hs:Sub s s'){d:Nat}{t:TypeId}{v:AV}(h:Arg P s d t v):Arg P s' d t v:=⟨Inp.sub hs _ _ _ h.1,h.2⟩
theorem qSK{base:Nat}{t:TypeId}{v:Value}{d:Nat}(hp:plainT P d t=true)(h:Value.okWide P W .any base t v):(qBV P t=some true/\∃cs,v=.agg cs)∨(qBV P t≠some true/\v.cells=#[v]):=by
 cases d with
 |zero=>cases hp
 | succ d=>
   unfold plainT at hp;unfold Value.okWide at h;unfold qBV;split at hp<;>rename_i hu
   all_goals (try rw[hu]at h)
   all_goals (try simp only at h)
   ·right
    refine⟨by rw[hu];simp,?_⟩;unfold Cell.okWide Cell.ok at h;simp only[hu]at h;cases v<;>simp_all<;>rfl
   ·right
    refine⟨by rw[hu];simp,?_⟩;unfold Cell.okWide Cell.ok at h;simp only[hu]at h;cases v<;>simp_all<;>rfl
   ·right
    refine⟨by rw[hu];simp,?_⟩;unfold Cell.okWide Cell.ok at h;simp only[hu]at h;cases v<;>simp_all<;>rfl
   ·right
    refine⟨by rw[hu];simp,?_⟩;unfold Cell.okWide Cell.ok at h;simp only[hu]at h;cases v<;>simp_all<;>rfl
   ·left
    obtain⟨cs,e,_⟩:=h;exact⟨by rw[hu],cs,e⟩
   ·left
    obtain⟨cs,e,_⟩:=h;exact⟨by rw[hu],cs,e⟩
   ·cases hp
theorem qRE(hσ:One σ)(d:Nat)(base:Nat):∀(ts:List TypeId) (vs:List Value) (ds:List (DataW H)) (ps:List MemPlace) (B:IB),VB σ B W->(ts.all λt=>plainT P d t)=true->DataW.TrodAll enc P W 0 (λ_=>true) true ts vs ds ps->
  (∀(j:Nat) t v,ts[j]?=some t->vs[j]?=some v->Value.okWide P W .any base t v)->∃xs C,VB σ (B++C) W/\RelL σ (rhoB (B++C)) xs vs/\ArgL P (qLm (B++C)) d ts xs
 | [],vs,ds,ps,B,hB,_,h,_=>by
   cases vs with
   |nil=>exact⟨[],[],by simpa using hB,.nil,trivial⟩
   |cons v vs=>cases ds<;>exact h.elim
 |t::ts,[],ds,ps,B,hB,_,h,_=>by cases ds<;>exact h.elim
 |t::ts,v::vs,[],ps,B,hB,_,h,_=>h.elim
 | t::ts,v::vs,x::ds,ps,B,hB,hp,h,hv=>by
   simp only[List.all_cons,Bool.and_eq_true]at hp;obtain⟨p,q,⟨fuel,h1⟩,h2,rfl⟩:=h;obtain⟨xs,C,g1,g2,g3,g4⟩:=qPs hσ d t _ fuel _ hp.1 h1 B hB;obtain⟨ys,D,k1,k2,k3⟩:=qRE hσ d base ts vs ds q (B++C) g1 hp.2 h2 λj t v hj hv'=>hv (j+1) t v (by simpa using hj) (by simpa using hv');have hsub:=qK1 (B++C) D;have hle:=qOV (B++C) D;rcases qSK hp.1 (hv 0 t v rfl rfl)with⟨ha,cs,rfl⟩|⟨ha,hc⟩
   ·refine⟨.agg xs::ys,C++D,by rw[<- List.append_assoc];exact k1,?_,?_⟩
    ·rw[<- List.append_assoc]
     exact .cons (by unfold Rel;exact⟨cs,rfl,RelL.mono hle _ _ g2⟩) k2
    ·rw[<- List.append_assoc]
     exact⟨⟨Inp.sub hsub _ _ _ g4,λ_=>⟨xs,rfl,g3⟩,λh=>absurd ha h⟩,k3⟩
   ·rw[hc]at g2
    obtain⟨y,rfl⟩:∃y,xs=[y]:=by
     have:=g2.length;cases xs with
     |nil=>simp at this
     | cons y r=>cases r with
       |nil=>exact⟨y,rfl⟩
       |cons _ _=>simp at this
    have hr:Rel σ (rhoB (B++C)) y v:=by unfold RelL at g2;obtain⟨_,_,e,r,_⟩:=g2;cases e;exact r
    have hy:y.one=true:=by simpa [qAd]using g3
    refine⟨y::ys,C++D,by rw[<- List.append_assoc];exact k1,?_,?_⟩
    ·rw[<- List.append_assoc]
     exact .cons (Rel.mono hle _ _ hr) k2
    ·rw[<- List.append_assoc]
     refine⟨⟨?_,λh=>absurd h ha,λ_=>qJc hy⟩,k3⟩;rw[qJc hy];exact Inp.sub hsub _ _ _ g4
end
def memB(B:IB):AH:={ blks:=Tr.ofListAt .nil 1 (B.map λx=>.cells x.2.1 (Tr.ofListAt .nil 0 x.2.2) x.2.2.length),next:=B.length+1,lo:=B.length+1,log:=[] }
theorem qQZ(B:IB)(id:Nat):(memB B).blks.get id=match id with
  | 0=>none
  | i+1=>match B[i]? with
    |some x=>some (.cells x.2.1 (Tr.ofListAt .nil 0 x.2.2) x.2.2.length)
    |none=>none:=by
 unfold memB;simp only;rw[Tr.get_ofListAt];cases id with
 |zero=>rw[if_neg (by omega),Tr.get_nil]
 | succ i=>
   by_cases h:i<B.length
   ·rw[if_pos (by simp;omega)]
    simp[gE h]
   ·rw[if_neg (by simp;omega),Tr.get_nil]
    have:B[i]?=none:=List.getElem?_eq_none (by omega);simp only[this]
theorem zADp(B:IB){σ:Nat->Value}{W:World}(h:VB σ B W):HRel (qLm B) (memB B):=by
 refine⟨Nat.le_refl _,λi hi=>?_,λi t b hi=>?_⟩
 ·rw[qQZ]at hi
  cases i with
  |zero=>exact absurd rfl hi
  | succ i=>
    simp only at hi;cases e:B[i]? with
    |none=>rw[e]at hi;exact absurd rfl hi
    |some x=>have:=(gS e).1;show i+1<B.length+1;omega
 ·cases i with
  |zero=>cases hi
  | succ i=>
    unfold qLm at hi;simp only at hi;cases e:B[i]? with
    |none=>rw[e]at hi;cases hi
    | some x=>
      rw[e]at hi;cases hi;obtain⟨_,_,_,_,_,h4,_⟩:=h i x e;have e2:(memB B).blks.get (i+1)=some (.cells x.2.1 (Tr.ofListAt .nil 0 x.2.2) x.2.2.length):=by rw[qQZ];simp only[e]
      exact⟨by simp,_,e2,rfl,rfl,h4,λj hj=>qJD _ _ hj⟩
theorem zABg(B:IB){σ:Nat->Value}{W:World}(h:VB σ B W):WR σ (rhoB B) W.heap.size (memB B) W:=by
 have key:∀id b,(memB B).blks.get id=some b->∃i x,id=i+1/\B[i]?=some x/\b=.cells x.2.1 (Tr.ofListAt .nil 0 x.2.2) x.2.2.length:=by
  intro id b hb;rw[qQZ]at hb;cases id with
  |zero=>cases hb
  | succ i=>
    simp only at hb;cases e:B[i]? with
    |none=>rw[e]at hb;cases hb
    |some x=>rw[e]at hb;cases hb;exact⟨i,x,rfl,e,rfl⟩
 have lo:∀id b,(memB B).blks.get id=some b->¬(memB B).lo<=id:=by intro id b hb;obtain⟨i,x,rfl,e,_⟩:=key id b hb;have:=(gS e).1;show ¬B.length+1<=i+1;omega
 refine⟨λid b hb=>?_,λid b L hb _ hl=>absurd hl (lo id b hb),λi j bi bj Li Lj hi _ _ _ hl _=>absurd hl (lo i bi hi),Nat.le_refl _⟩;obtain⟨i,x,rfl,e,rfl⟩:=key id b hb;refine⟨x.1,by unfold rhoB;simp[e],?_⟩;obtain⟨cc,fr,h1,h2,h3,_,h5⟩:=h i x e;refine⟨cc,fr,h1,λhl=>absurd hl (lo _ _ hb),h2,h3,λj v hj=>?_⟩;have hlt:j<x.2.2.length:=by
  rcases Nat.lt_or_ge j x.2.2.length with h|h
  ·exact h
  ·rw[Tr.get_ofListAt,if_neg (by omega),Tr.get_nil]at hj;cases hj
 rw[qJD _ _ hlt]at hj;exact h5 j v hj
theorem law_of_wp{H:Type}{enc:TypeId×Value->H}{P:Program}{X:Td}(hm:P.follows .mixedOrders=true)(hname:noNumB P=true)(hX:ExtOK P X){f:FuncId}{ts:List TypeId}(d:Nat)(hp:(ts.all λt=>plainT P d t)=true)
  (h:∀(s:Hq) (xs:List AV),ArgL P s d ts xs->wC P X f xs (λv _=>v=.bool true) s) {W:World}{base:Nat}{args:Array Value}{ds:List (DataW H)}{ps:List MemPlace}
  (hA:DataW.TrodAll enc P W 0 (λ_=>true) true ts args.toList ds ps) (hv:∀(j:Nat) t v,ts[j]?=some t->args[j]?=some v->Value.okWide P W .any base t v) :
  Calls P f args W λe W'=>e=.returned (.bool true)/\Below W.heap.size W W':=by
 have hσ:One (λ_=>Value.bool true):=λ_=>rfl;obtain⟨xs,C,h1,h2,h3⟩:=qRE (W:=W) hσ d base ts args.toList ds ps [] (λi x hx=>by simp at hx) hp hA λj t v hj hj'=>hv j t v hj (by simpa using hj');rw[List.nil_append]at h1 h2 h3;obtain⟨n,o,H',hrun,s',_,_,v,rfl,rfl⟩:=h (qLm C) xs h3 (memB C) (zADp C h1);refine(qMZ hm (qQf hname) hX hrun _ hσ (rhoB C) W (zABg C h1) (λid hlo _=>?_) args h2).mono ?_
 ·cases id with
  |zero=>exact absurd hlo (by show ¬C.length+1<=0;omega)
  | succ i=>
    have:C.length+1<=i+1:=hlo;unfold rhoB;simp only;rw[List.getElem?_eq_none (by omega)]
 ·rintro e W' ⟨v',ρ',rfl,hr,_,hb⟩
  unfold Rel at hr;subst hr;exact⟨rfl,hb⟩
end Go.AM
namespace Go.AM
open Go Go.RowKit Go.ChangeShapes Go.WideShapes Go.ChangeAt
def qKw(l:List FuncId):Td:=λf=>cond (memN f l) (some λargs=>match args with
 |[]=>ret (.bool true)
 |_=>fail) none
theorem qPV(l:List FuncId):FrX (qKw l):=by
 intro f g args h;unfold qKw at h;cases hm:memN f l with
 |false=>rw[hm]at h;cases h
 | true=>
   rw[hm]at h;cases h;cases args with
   |nil=>exact qAq _
   |cons _ _=>exact qAg
theorem qUG{σ:Nat->Value}{ρ:Ren}{base:Nat}{H:AH}{w w':World}(h:WR σ ρ base H w)(hb:Below w.heap.size w w'):WR σ ρ base H w':=by refine⟨λid b hid=>?_,h.own,h.inj,Nat.le_trans h.base hb.size⟩;obtain⟨L,h1,h2⟩:=h.blk id b hid;refine⟨L,h1,?_⟩;have hlt:=qQd h hid h1;rw[hb.block L.blk hlt];exact h2
theorem wC.mono{P:Program}{X:Td}{f:FuncId}{args:List AV}{K K':AV->Hq->Prop}{s:Hq}(h:wC P X f args K s)(hk:∀v s',K v s'->K' v s'):wC P X f args K' s:=
 wpF.mono h λ_ s' ⟨v,e,hv⟩=>⟨v,e,hk v s' hv⟩
end Go.AM
namespace Go.AM
open Go
def qBs(fn:Func):Code:=match fn.body with
 |some c=>c
 |none=>.refuse ""
variable {α:Type} {K:α→Prop} {s s':Hq}
@[simp] theorem qAB{a:α}:oK (some a) K=K a:=id rfl
theorem qAA{o:Option α}{a:α}(h:o=some a)(hk:K a):oK o K:=by rw[h];exact hk
@[simp] theorem qAE{p q:Prop}:qAK (.bool true) p q=p:=id rfl
@[simp] theorem qAD{p q:Prop}:qAK (.bool false) p q=q:=id rfl
theorem qAJ{b:Bool}{p q:Prop}(h1:b=true->p)(h2:b=false->q):qAK (.bool b) p q:=by cases b;exact h2 rfl;exact h1 rfl
@[simp] theorem qAV{a b:AV}:qAO (.bool true) a b=some a:=id rfl
@[simp] theorem qAL{a b:AV}:qAO (.bool false) a b=some b:=id rfl
@[simp] theorem qGq{b o:Nat}:qAc (.ptr b o)=some (.ptr b o):=id rfl
@[simp] theorem qAG{b o k:Nat}:qAC k (.ptr b o)=some (.ptr b (o+k)):=id rfl
@[simp] theorem nat?_mk{k:IntKind}{n:Nat}:nat? (.int k (n:Int))=some n:=id rfl
@[simp] theorem qC4{k:IntKind}:qB6 k k=true:=by cases k<;>rfl
@[simp] theorem qAU{k:IntKind}{x y:Int}:qAH .add (.int k x) (.int k y)=some (.int k (k.wrap (x+y))):=by simp[qAH,arith,qCN,qBi]
@[simp] theorem qAx{k:IntKind}{x y:Int}:qAH .sub (.int k x) (.int k y)=some (.int k (k.wrap (x-y))):=by simp[qAH,arith,qCN,qBi]
@[simp] theorem qLH{k:IntKind}{x y:Int}:qAH .mul (.int k x) (.int k y)=some (.int k (k.wrap (x*y))):=by simp[qAH,arith,qCN,qBi]
theorem zADK{k:IntKind}{x y:Int}(h:y≠0):qAH .quo (.int k x) (.int k y)=some (.int k (k.wrap (x.tdiv y))):=by
 have:(y == 0)=false:=by simpa using h
 simp[qAH,arith,qCN,qBi,qET,this]
theorem qI8{k:IntKind}{x y:Int}(h:y≠0):qAH .rem (.int k x) (.int k y)=some (.int k (x.tmod y)):=by
 have:(y == 0)=false:=by simpa using h
 simp[qAH,arith,qCN,qET,this]
@[simp] theorem qAR{k:IntKind}{x y:Int}:qAH .lss (.int k x) (.int k y)=some (.bool (decide (x<y))):=by simp[qAH,arith,qIX]
@[simp] theorem qAh{k:IntKind}{x y:Int}:qAH .gtr (.int k x) (.int k y)=some (.bool (decide (y<x))):=by simp[qAH,arith,qIX]
@[simp] theorem qEP{k:IntKind}{x y:Int}:qAH .leq (.int k x) (.int k y)=some (.bool (decide (x<=y))):=by
 simp only[qAH,arith,qIX,qC4,cond_true]
 by_cases h:x<=y
 ·simp[h,Int.not_lt.2 h]
 ·simp[h,Int.not_le.1 h]
@[simp] theorem qAo{k:IntKind}{x y:Int}:qAH .geq (.int k x) (.int k y)=some (.bool (decide (y<=x))):=by
 simp only[qAH,arith,qIX,qC4,cond_true]
 by_cases h:y<=x
 ·simp[h,Int.not_lt.2 h]
 ·simp[h,Int.not_le.1 h]
@[simp] theorem qAZ{c:Bool}{k:IntKind}{x y:Int}:eqV 0 c (.int k x) (.int k y)=some (x == y):=by simp[eqV,qET]
@[simp] theorem zAES{c:Bool}{x y:Bool}:eqV 1 c (.bool x) (.bool y)=some (x == y):=id rfl
@[simp] theorem qAY{n b:Bool}:negB n (some b)=some (.bool (n != b)):=by cases n<;>cases b<;>rfl
@[simp] theorem qAa{b:Bool}:qAi .not (.bool b)=some (.bool !b):=id rfl
theorem qAI{b o:Nat}{t:Bool}{e:TypeId}{l:List AV}(h:s b=some (t,.cells e l)):rd1 s (.ptr b o)=l[o]?:=by simp[rd1,h]
theorem zAEG{b o:Nat}{e:TypeId}{l:List AV}{v:AV}(h:s b=some (false,.cells e l))(hl:o<l.length)(hv:v.one=true):wr1 s (.ptr b o) v=some (hset s b (false,.cells e (l.set o v))):=by
 have:Nat.blt o l.length=true:=by rw[Nat.blt_eq];exact hl
 simp[wr1,h,hv,this]
@[simp] theorem zAEd{k:IntKind}{n:Int}:(AV.int k n).one=true:=id rfl
@[simp] theorem zAET{b:Bool}:(AV.bool b).one=true:=id rfl
@[simp] theorem qHc{l:List AV}:(AV.agg l).cells=l:=id rfl
@[simp] theorem zACp:qAd []=true:=id rfl
@[simp] theorem zAB1{v:AV}{l:List AV}:qAd (v::l)=(v.one&&qAd l):=id rfl
theorem qAe{n:Int}(h1:-9223372036854775808<=n)(h2:n<=9223372036854775807):IntKind.i64.wrap n=n:=by rw[<- qBi];simp only[qBF];rw[qFr _ _ _ (by omega) (by omega)];split<;>omega
def qBp(fp:Nat->Prop)(s s':Hq):Prop:=∀b e,s b=some e->¬fp b->s' b=some e
theorem qBp.refl(fp:Nat->Prop)(s:Hq):qBp fp s s:=λ_ _ h _=>h
theorem qBp.trans{fp:Nat->Prop}{a b c:Hq}(h:qBp fp a b)(k:qBp fp b c):qBp fp a c:=λi e hi hf=>k i e (h i e hi hf) hf
theorem qBp.mono{fp fp':Nat->Prop}{a b:Hq}(h:qBp fp a b)(hf:∀i,fp i->fp' i):qBp fp' a b:=λi e hi hn=>h i e hi λk=>hn (hf i k)
theorem Sub.keep{fp:Nat->Prop}{a b:Hq}(h:Sub a b):qBp fp a b:=λi e hi _=>h i e hi
theorem Sub.refl(s:Hq):Sub s s:=λ_ _ h=>h
theorem Sub.trans{a b c:Hq}(h:Sub a b)(k:Sub b c):Sub a c:=λi e hi=>k i e (h i e hi)
theorem qNg{b:Nat}{e:Bool×Blk}(h:s b=none):Sub s (hset s b e):=λi x hi=>by
 unfold hset;have:i≠b:=λq=>by rw[q,h]at hi;cases hi
 rw[if_neg this];exact hi
@[simp] theorem qC8{b:Nat}{e:Bool×Blk}:hset s b e b=some e:=if_pos rfl
theorem qCF{b i:Nat}{e:Bool×Blk}(h:i≠b):hset s b e i=s i:=if_neg h
theorem qJ1{b i:Nat}{e:Bool×Blk}(hb:s b=none)(hi:s i=some e):i≠b:=λq=>by rw[q,hb]at hi;cases hi
theorem qNI{s t:Hq}{b:Nat}{e:Bool×Blk}(h:s b=some e)(ht:t b=some e):cutH [(s,t)] t b=some e:=by show(if s b=none/\t b≠none then none else t b)=_;rw[if_neg (by rw[h];simp)];exact ht
theorem qOO{s:Hq}:add s (frz s)=s:=by
 funext b
 unfold add frz;cases s b<;>rfl
theorem qGw{s t:Hq}:Sub s (add s t):=λi e hi=>qCK hi
theorem qX5{P:Program}{X:Td}{k:FuncId}{first cap args:List AV}{K:AV->Hq->Prop}{s:Hq}(hk:isFn P k=true)(h:wC P X k (first++args++cap) K s):funK P X (.fn (.func k) first cap) args K s:=⟨hk,h⟩
theorem qWk{b:Nat}{e:TypeId}{l cs:List AV}{n:Nat}{s:Hq}(h:s b=some (false,.cells e l))(hl:cs.length=l.length)(hn:l.length=n)(ho:qAd cs=true):qBA s n (.ptr b 0) (.agg cs)=some (hset s b (false,.cells e cs)):=by
 have e1:Nat.beq cs.length n=true:=by rw[hl,hn];exact Nat.beq_refl _
 have e2:Nat.ble (0+cs.length) l.length=true:=bL (by omega);have e3:qBG l 0 cs=cs:=by unfold qBG;rw[List.drop_eq_nil_of_le (by omega)];simp
 simp only[qBA,qHc,e1,cond_true,wrN,h,e2,ho,Bool.and_self,e3]
theorem qAS{b:Nat}{t:Bool}{e:TypeId}{l:List AV}{n:Nat}{s:Hq}(h:s b=some (t,.cells e l))(hn:l.length=n):rdN s n (.ptr b 0)=some l:=by have e1:Nat.ble (0+n) l.length=true:=bL (by omega);simp only[rdN,h,qGe,e1,cond_true,List.drop_zero];rw[List.take_of_length_le (by omega)]
theorem qZO{elem:TypeId}{v:AV}{K:AV->Hq->Prop}{s:Hq}(hv:v.one=true)(h:∀b,s b=none->K (.ptr b 0) (hset s b (false,.cells elem [v]))):boxK elem v K s:=by unfold boxK;rw[qJc hv];exact⟨by simp[hv],h⟩
def Upto(b:Nat)(s s':Hq):Prop:=∀i,i≠b->s' i=s i
theorem Upto.keep{fp:Nat->Prop}{b:Nat}{s s':Hq}(h:Upto b s s')(hb:fp b):qBp fp s s':=λi e hi hn=>by rw[h i λq=>hn (q ▸ hb)];exact hi
theorem Upto.sub{b:Nat}{s s':Hq}(h:Upto b s s')(hb:s b=none):Sub s s':=λi e hi=>by rw[h i (qJ1 hb hi)];exact hi
theorem Upto.at{b i:Nat}{s s':Hq}{e:Bool×Blk}(h:Upto b s s')(hi:s i=some e)(hb:s b=none):s' i=some e:=h.sub hb i e hi
theorem qAP{elem:TypeId}{cs:List AV}{K:Nat->Hq->Prop}{s:Hq}(h:∀b s',s b=none->s' b=some (false,.cells elem cs)->Upto b s s'->K b s'):newK elem cs K s:=
 λb hb=>h b _ hb qC8 λ_ hi=>qCF hi
theorem qBW{b o:Nat}{e:TypeId}{l:List AV}{v:AV}{K:Hq->Prop}{s:Hq}(h:s b=some (false,.cells e l))(ho:o<l.length)(hv:v.one=true)(hk:∀s',s' b=some (false,.cells e (l.set o v))->Upto b s s'->K s'):oK (wr1 s (.ptr b o) v) K:=
 qAA (zAEG h ho hv) (hk _ qC8 λ_ hi=>qCF hi)
theorem qAW{b:Nat}{e:TypeId}{l cs:List AV}{n:Nat}{K:Hq->Prop}{s:Hq}(h:s b=some (false,.cells e l))(hl:cs.length=l.length)(hn:l.length=n)(ho:qAd cs=true)(hk:∀s',s' b=some (false,.cells e cs)->Upto b s s'->K s'):oK (qBA s n (.ptr b 0) (.agg cs)) K:=
 qAA (qWk h hl hn ho) (hk _ qC8 λ_ hi=>qCF hi)
theorem qFk{elem:TypeId}{v:AV}{K:AV->Hq->Prop}{s:Hq}(hv:v.one=true)(h:∀b s',s b=none->s' b=some (false,.cells elem [v])->Upto b s s'->K (.ptr b 0) s'):boxK elem v K s:=
 qZO hv λb hb=>h b _ hb qC8 λ_ hi=>qCF hi
end Go.AM
namespace Go.AM
open Go
def Sl(s:Hq)(v:AV)(l:List AV):Prop:=(v=.nilslc/\l=[])∨∃b o cap,v=.slc b o l.length cap 1/\(∀c,cap=some c->l.length<=c)/\
 (l≠[]->∃t e cs,s b=some (t,.cells e cs)/\o+l.length<=cs.length/\∀i,i<l.length->cs[o+i]?=l[i]?)
variable {s s':Hq} {v:AV} {l:List AV}
theorem Sl.len(h:Sl s v l):qAN v=some l.length:=by
 rcases h with⟨rfl,rfl⟩|⟨b,o,cap,rfl,_⟩
 ·rfl
 ·rfl
theorem Sl.get(h:Sl s v l){i:Nat}(hi:i<l.length):∃p,qAT 1 v (.int .i64 (i:Int))=some p/\rd1 s p=l[i]?:=by
 rcases h with⟨rfl,rfl⟩|⟨b,o,cap,rfl,_,h⟩
 ·simp at hi
 ·obtain⟨t,e,cs,h1,h2,h3⟩:=h (by rintro rfl;simp at hi)
  refine⟨.ptr b (o+i),?_,by rw[qAI h1,h3 i hi]⟩;have:Nat.blt i l.length=true:=by rw[Nat.blt_eq];exact hi
  simp[qAT,this]
theorem Sl.rd(h:Sl s v l):rdSl s 1 v=some l:=by
 rcases h with⟨rfl,rfl⟩|⟨b,o,cap,rfl,_,h⟩
 ·rfl
 ·cases l with
  |nil=>rfl
  | cons x r=>
    obtain⟨t,e,cs,h1,h2,h3⟩:=h (by simp);have e1:Nat.beq ((x::r).length*1) 0=false:=rfl;have e2:Nat.ble (o+(x::r).length*1) cs.length=true:=bL (by omega);simp only[rdSl,Nat.beq_refl,cond_true,e1,cond_false,h1,qGe,e2]
    congr 1
    apply List.ext_getElem?;intro i;rw[List.getElem?_take];split
    ·rename_i hi
     rw[List.getElem?_drop,h3 i (by omega)]
    ·rw[List.getElem?_eq_none (by omega)]
theorem Sl.sub(h:Sl s v l)(hs:Sub s s'):Sl s' v l:=by
 rcases h with h|⟨b,o,cap,h1,h2,h3⟩
 ·exact .inl h
 ·refine .inr ⟨b,o,cap,h1,h2,λhl=>?_⟩
  obtain⟨t,e,cs,q1,q2⟩:=h3 hl;exact⟨t,e,cs,hs _ _ q1,q2⟩
theorem Sl.keep{fp:Nat->Prop}(h:Sl s v l)(hs:qBp fp s s')(hn:∀b o n c,v=.slc b o n c 1->l≠[]->¬fp b):Sl s' v l:=by
 rcases h with h|⟨b,o,cap,h1,h2,h3⟩
 ·exact .inl h
 ·refine .inr ⟨b,o,cap,h1,h2,λhl=>?_⟩
  obtain⟨t,e,cs,q1,q2⟩:=h3 hl;exact⟨t,e,cs,hs _ _ q1 (hn b o _ cap h1 hl),q2⟩
theorem Sl.mk{b:Nat}{t:Bool}{e:TypeId}{n:Nat}{cap:Option Nat}(h:s b=some (t,.cells e l))(hn:n=l.length)(hc:∀c,cap=some c->l.length<=c):Sl s (.slc b 0 n cap 1) l:=by subst hn;exact .inr ⟨b,0,cap,rfl,hc,λ_=>⟨t,e,l,h,by omega,λi _=>by rw[zA]⟩⟩
def Acc(elem:TypeId)(s0 s:Hq)(v:AV)(l:List AV):Prop:=(v=.nilslc/\l=[])∨∃b,s0 b=none/\v=.slc b 0 l.length none 1/\s b=some (false,.cells elem l)
theorem Acc.sl{elem:TypeId}{s0:Hq}(h:Acc elem s0 s v l):Sl s v l:=by
 rcases h with h|⟨b,_,rfl,h⟩
 ·exact .inl h
 ·exact Sl.mk h rfl (by simp)
theorem Acc.app{elem:TypeId}{s0:Hq}{y:AV}{m:List AV}{K:AV->Hq->Prop}(h:Acc elem s0 s v l)(hy:Sl s y m)(hm:m≠[])(hl:l.length+m.length<=16777216)(hdom:∀i,s0 i≠none->s i≠none)
  (hK:∀v' s',Acc elem s0 s' v' (l++m)->(∀i e,s i=some e->(∀b,v=.slc b 0 l.length none 1->i≠b)->s' i=some e)->K v' s'):appK elem 1 v y K s:=by
 obtain⟨k,hk⟩:∃k,m.length=k+1:=by cases m with|nil=>exact absurd rfl hm|cons a r=>exact⟨r.length,rfl⟩
 refine qAA hy.rd (qAA hy.len ?_);rcases h with⟨rfl,rfl⟩|⟨b,hb0,rfl,hb⟩
 ·simp only
  rw[hk];refine⟨by simp at hl;omega,qAP λc s1 hc h1 u1=>hK _ _ (.inr ⟨c,?_,?_,by simpa using h1⟩) λi e hi _=>u1.at hi hc⟩
  ·cases q:s0 c with
   |none=>rfl
   |some x=>exact absurd hc (hdom c (by rw[q];simp))
  ·simp[hk]
 ·refine⟨rfl,?_⟩
  simp only;rw[hk];simp only;refine qAA (Sl.rd (Sl.mk (l:=l) hb rfl (by simp))) ?_;unfold qUz;rw[hb];refine⟨rfl,by omega,qAP λc s1 hc h1 u1=>hK _ _ (.inr ⟨c,?_,by simp[hk],h1⟩) λi e hi hib=>?_⟩
  ·by_cases e:c=b
   ·rw[e];exact hb0
   ·have hc':s c=none:=by rw[<- hc];exact(if_neg e).symm
    cases q:s0 c with
    |none=>rfl
    |some x=>exact absurd hc' (hdom c (by rw[q];simp))
  ·have hne:=hib b rfl
   have:hdel s b i=some e:=by rw[<- hi];exact if_neg hne
   exact u1.at this hc
theorem qI4{elem:TypeId}{z v:AV}{K:Nat->Hq->Prop}(hz:z.one=true)(hv:v.one=true)(hK:∀b s',s b=none->s' b=some (false,.cells elem [v])->Upto b s s'->K b s'):
  oK (qBb (repl 1 [z]) [(0,1,v)]) λc=>qAd c=true/\newK elem c K s:=by
 refine qAA (a:=[v]) ?_ ⟨by simp[hv],qAP hK⟩;show cond (Nat.beq v.cells.length 1&&Nat.ble (0+v.cells.length) 1) (qBb (qBG [z] 0 v.cells) []) none=_;rw[qJc hv];rfl
theorem qLA(z:AV):∀n,repl n [z]=List.replicate n z
 | 0=>rfl
 |n+1=>by rw[repl,qLA z n];rfl
theorem qY1{elem:TypeId}{b o c:Nat}{y:AV}{m:List AV}{K:AV->Hq->Prop}(hx:Sl s (.slc b o l.length (some c) 1) l)(hy:Sl s y m)(hm:m≠[])(hc:c<l.length+m.length)(hl:l.length+m.length<=16777216)
  (hK:∀d s',s d=none->s' d=some (false,.cells elem (l++m))->Upto d s s'->K (.slc d 0 (l.length+m.length) none 1) s'):appK elem 1 (.slc b o l.length (some c) 1) y K s:=by
 obtain⟨k,hk⟩:∃k,m.length=k+1:=by cases m with|nil=>exact absurd rfl hm|cons a r=>exact⟨r.length,rfl⟩
 refine qAA hy.rd (qAA hy.len ⟨rfl,?_⟩);rw[hk]at hc hl hK ⊢;have e0:Nat.ble (l.length+(k+1)) c=false:=by
  cases q:Nat.ble (l.length+(k+1)) c with
  |false=>rfl
  |true=>have:=Nat.le_of_ble_eq_true q;omega
 simp only[e0,cond_false];exact qAA hx.rd ⟨by omega,qAP λd s1 hd h1 u1=>hK d s1 hd h1 u1⟩
end Go.AM
namespace Go.AM
open Go
section
variable {P:Program} {s:Hq} {d:Nat} {t e:TypeId} {v:AV}
theorem qTm{k:IntKind}(hu:P.underlying t=some (.int k))(h:Arg P s (d+1) t v):∃n,v=.int k n/\(Lit.int k n).wf=true:=by
 obtain⟨h1,_,h3⟩:=h;have:qBV P t≠some true:=by unfold qBV;rw[hu];simp
 rw[h3 this]at h1;unfold Inp at h1;simp only[hu]at h1;obtain⟨n,e,hn⟩:=h1;exact⟨n,by simpa using e,hn⟩
theorem qSR(hu:P.underlying t=some (.slice e))(hc:P.cellsOf e=1){A:Type}(f:A->AV)(Q:A->Prop)(he:∀xs,Inp P s d e xs->∃a,xs=[f a]/\Q a){xs:List AV}(h:Inp P s (d+1) t xs):∃v,xs=[v]/\∃l:List A,Sl s v (l.map f)/\(∀a∈l,Q a)/\l.length<=maxLen:=by
 unfold Inp at h;simp only[hu]at h;rcases h with rfl|⟨b,len,cap,rfl,h1,h2,h3⟩
 ·exact⟨_,rfl,[],.inl ⟨rfl,rfl⟩,by simp,by simp⟩
 ·refine⟨_,rfl,?_⟩
  rw[hc]at h3 ⊢
  by_cases hz:cap=0
  ·subst hz
   have:len=0:=by omega
   subst this;exact⟨[],.inr ⟨b,0,some 0,rfl,by simp,by simp⟩,by simp,by simp⟩
  ·obtain⟨el,l,g1,g2,g3⟩:=h3 (by omega)
   simp only[Nat.mul_one]at g2 g3;have each:∀i,i<cap->∃a,l[i]?=some (f a)/\Q a:=by intro i hi;obtain⟨a,q1,q2⟩:=he _ (g3 i hi);refine⟨a,?_,q2⟩;have:=congrArg (λr:List AV=>r[0]?) q1;simpa [List.getElem?_take,List.getElem?_drop]using this
   have mk:∀n,n<=cap->∃r:List A,r.length=n/\(∀i,i<n->l[i]?=(r.map f)[i]?)/\∀a∈r,Q a:=by
    intro n
    induction n with
    |zero=>exact λ_=>⟨[],rfl,by simp,by simp⟩
    | succ n ih=>
      intro hn;obtain⟨r,r1,r2,r3⟩:=ih (by omega);obtain⟨a,a1,a2⟩:=each n (by omega);refine⟨r ++ [a],by simp[r1],λi hi=>?_,λb hb=>?_⟩
      ·by_cases e:i=n
       ·subst e;rw[a1];simp[<- r1]
       ·rw[r2 i (by omega)];simp[List.getElem?_append,r1,show i<n by omega]
      ·rcases mP hb with hb|hb
       ·exact r3 b hb
       ·rw[List.mem_singleton.1 hb];exact a2
   obtain⟨r,r1,r2,r3⟩:=mk len h1;refine⟨r,.inr ⟨b,0,some cap,by simp[r1],by simp[r1];exact h1,λ_=>⟨true,el,l,g1,by simp[r1];omega,λi hi=>?_⟩⟩,r3,by omega⟩;rw[zA];exact r2 i (by simpa [r1]using hi)
theorem qLO(hu:P.underlying t=some (.slice e))(hc:P.cellsOf e=1){A:Type}(f:A->AV)(Q:A->Prop)(he:∀xs,Inp P s d e xs->∃a,xs=[f a]/\Q a)(h:Arg P s (d+1) t v):∃l:List A,Sl s v (l.map f)/\(∀a∈l,Q a)/\l.length<=maxLen:=by
 obtain⟨h1,_,h3⟩:=h;have:qBV P t≠some true:=by unfold qBV;rw[hu];simp
 rw[h3 this]at h1;obtain⟨v',e1,h4⟩:=qSR hu hc f Q he h1;cases e1;exact h4
theorem qXi{k:IntKind}(hu:P.underlying t=some (.int k)){xs:List AV}(h:Inp P s (d+1) t xs):∃n,xs=[.int k n]/\(Lit.int k n).wf=true:=by unfold Inp at h;simp only[hu]at h;exact h
theorem qUB(hu:P.underlying t=some .bool){xs:List AV}(h:Inp P s (d+1) t xs):∃b,xs=[.bool b]/\True:=by unfold Inp at h;simp only[hu]at h;obtain⟨b,h⟩:=h;exact⟨b,h,trivial⟩
end
end Go.AM
namespace Go.AM
open Go Go.RowKit Go.ChangeShapes Go.WideShapes Go.ChangeAt
section
variable {H:Type} {P:Program}
theorem qHu{s:Hq}{d:Nat}{t:TypeId}{xs:List AV}(ha:qBV P t=some true)(h:Inp P s d t xs):xs.length=P.cellsOf t:=by
 cases d with
 |zero=>exact h.elim
 | succ d=>
   unfold Inp at h;unfold qBV at ha;split at h<;>first|exact h.elim|exact h.1|(rename_i hu;rw[hu]at ha;cases ha)
end
end Go.AM
namespace Go.AM
open Go Go.RowKit Go.ChangeShapes Go.WideShapes Go.ChangeAt
theorem qTH{P:Program}(hm:P.follows .mixedOrders=true)(hname:noNumB P=true){X:Td}(hX:ExtOK P X)(n:Nat){f:FuncId}(args:List AV)(h:qJV (runR P X n (.call f args) empty)=true)(σ:Nat->Value)(hσ:One σ)(args':Array Value)(hr:RelL σ (λ_=>none) args args'.toList)(w:World):
  Calls P f args' w λe w'=>e=.returned (.bool true)/\Below w.heap.size w w':=by
 rw[qLz]at h;obtain⟨H',h⟩:=qKr h;refine(qMZ hm (qQf hname) hX h σ hσ (λ_=>none) w qYy (λ_ _ _=>rfl) args' hr).mono ?_;rintro e w' ⟨v',ρ',rfl,hv,_,hb⟩;unfold Rel at hv;rw[hv];exact⟨rfl,hb⟩
theorem qOI{P:Program}(hm:P.follows .mixedOrders=true)(hname:noNumB P=true){X:Td}(hX:ExtOK P X)(l:List FuncId)(h:∀f∈l,∃n,qJV (runR P X n (.call f []) empty)=true):ExtOK P (qKw l):=by
 refine⟨qPV l,λf g hg args H v H' hr σ ρ base w args' hσ hwr hf hra=>?_⟩;unfold qKw at hg;cases hmem:memN f l with
 |false=>rw[hmem]at hg;cases hg
 | true=>
   rw[hmem]at hg;cases hg;cases args with
   |cons _ _=>exact(qAF (H:=H) hr).elim
   | nil=>
     cases qAM (H:=H) hr;obtain⟨n,hn⟩:=h f (qNB.1 hmem);have ha:args'=#[]:=by unfold RelL at hra;cases args';simp_all
     subst ha;refine callsIn_wide.2 ((qTH hm hname hX n [] hn (λ_=>.bool true) (λ_=>rfl) #[] .nil w).mono ?_);rintro e w' ⟨rfl,hb⟩;exact⟨_,ρ,rfl,⟨.refl _ _ _,qUG hwr hb,hb.mono hwr.base⟩,by unfold Rel;rfl⟩
def orX(X Y:Td):Td:=λf=>match X f with
 |some g=>some g
 |none=>Y f
theorem orX_ok{P:Program}{X Y:Td}(hX:ExtOK P X)(hY:ExtOK P Y):ExtOK P (orX X Y):=by
 refine⟨λf g args h=>?_,λf g h=>?_⟩
 ·unfold orX at h
  cases hx:X f with
  |some g'=>rw[hx]at h;cases h;exact hX.1 f _ args hx
  |none=>rw[hx]at h;exact hY.1 f g args h
 ·unfold orX at h
  cases hx:X f with
  |some g'=>rw[hx]at h;cases h;exact hX.2 f _ hx
  |none=>rw[hx]at h;exact hY.2 f g h
end Go.AM
namespace Go.AM
open Go
variable {P:Program} {X:Td}
structure Cov(K H:AH):Prop where
 next:H.next=K.next
 lo:H.lo<=K.lo
 sub:∀i b,K.blks.get i=some b->H.blks.get i=some b
 top:∀i,H.next<=i->H.blks.get i=none
theorem Fr.cov{α:Type}{m:M α}(hf:Fr m){K K1 H:AH}{a:α}(h:m K=some (a,K1))(c:Cov K H):∃H1,m H=some (a,H1)/\Cov K1 H1:=by
 obtain⟨es,d,q⟩:=hf K a K1 h;obtain⟨H1,e,d2,n,ag⟩:=q H c.next c.lo (λid b hm=>by
  cases hk:K.blks.get id with
  |some x=>exact c.sub id x hk
  | none=>
    rcases d.touch id b hm with h1|⟨h1,_⟩
    ·exact absurd hk h1
    ·exact c.top id (by rw[c.next];exact h1))
 refine⟨H1,e,n,by rw[d2.lo,d.lo];exact c.lo,λi b hi=>?_,λi hi=>?_⟩
 ·by_cases hm:(i,true)∈es
  ·rw[ag i true hm];exact hi
  ·rw[d2.same i hm]
   rw[d.same i hm]at hi;exact c.sub i b hi
 ·cases hk:H1.blks.get i with
  |none=>rfl
  | some x=>
    have n1:=d2.next;rcases d2.gone i (by rw[hk];simp)with h1|⟨_,h2⟩
    ·exact absurd (c.top i (by omega)) h1
    ·omega
def eqT:Tmps->Tmps->Bool
 | .nil,.nil=>true
 | .node v l r,.node v' l' r'=>(match v,v' with|none,none=>true|some a,some b=>eqA a b|_,_=>false)&&(eqT l l'&&eqT r r')
 |_,_=>false
theorem qUc:∀{a b:Tmps},eqT a b=true->a=b
 | .nil,.nil,_=>rfl
 | .nil,.node _ _ _,h=>by cases h
 | .node _ _ _,.nil,h=>by cases h
 | .node v l r,.node v' l' r',h=>by
   unfold eqT at h;obtain⟨h1,h2⟩:=Bool.and_eq_true_iff.1 h;obtain⟨h2,h3⟩:=Bool.and_eq_true_iff.1 h2;rw[qUc h2,qUc h3];cases v<;>cases v'<;>first|rfl|(cases h1;done)|(simp only at h1;rw[qPb h1])
def eqB:ABlk->ABlk->Bool
 | .cells e c n,.cells e' c' n'=>Nat.beq e e'&&(eqT c c'&&Nat.beq n n')
 | .map es k,.map es' k'=>eqEs es es'&&Nat.beq k k'
 | .one v,.one v'=>eqA v v'
 | .deferred a,.deferred b=>a == b
 |_,_=>false
theorem zAED{a b:ABlk}(h:eqB a b=true):a=b:=by
 unfold eqB at h;split at h
 ·simp only[Bool.and_eq_true]at h
  rw[bE h.1,qUc h.2.1,bE h.2.2]
 ·simp only[Bool.and_eq_true]at h
  rw[qWT h.1,bE h.2]
 ·rw[qPb h]
 ·rw[eq_of_beq h]
 ·cases h
noncomputable def mkB(l:List (Nat×ABlk)):Tr ABlk:=List.rec (motive:=λ_=>Tr ABlk) .nil (λp _ ih=>ih.putR p.1 (some p.2)) l
noncomputable def mkK(l:List (Nat×ABlk))(n:Nat):AH:={ blks:=mkB l,next:=n,lo:=0,log:=[] }
theorem qXo:∀{l:List (Nat×ABlk)}{i:Nat}{b:ABlk},(mkB l).get i=some b->(i,b)∈l
 | [],i,b,h=>by
   have:(Tr.nil:Tr ABlk).get i=some b:=h;rw[Tr.get_nil]at this;cases this
 | (j,c)::l,i,b,h=>by
   have:((mkB l).putR j (some c)).get i=some b:=h;rw[Tr.putR_eq,Tr.get_put]at this;split at this
   ·rename_i e;cases this;subst e;exact List.mem_cons_self ..
   ·exact mO _ (qXo this)
noncomputable def subB(l:List (Nat×ABlk))(t:Tr ABlk):Bool:=List.rec (motive:=λ_=>Bool) true (λp _ ih=>match t.getR p.1 with
 |some b=>eqB b p.2&&ih
 |none=>false) l
theorem qUV{t:Tr ABlk}:∀{l:List (Nat×ABlk)},subB l t=true->∀p∈l,t.get p.1=some p.2
 |[],_,_,h=>by cases h
 | q::l,h,p,hp=>by
   have h:(match t.getR q.1 with|some b=>eqB b q.2&&subB l t|none=>false)=true:=h;rw[Tr.getR_eq]at h;cases e:t.get q.1 with
   |none=>simp only[e]at h;cases h
   | some b=>
     simp only[e]at h;obtain⟨h1,h2⟩:=Bool.and_eq_true_iff.1 h;rcases mC hp with rfl|hp
     ·rw[e,zAED h1]
     ·exact qUV h2 p hp
def qCx:Nat->Code->List Code×Code
 |k+1,.seq a b=>(a::(qCx k b).1,(qCx k b).2)
 |_,c=>([],c)
noncomputable def runL(P:Program)(X:Td)(n nt:Nat):List Code->Tmps->M Tmps
 |[],T=>ret T
 | c::cs,T=>bd (runR P X n (.code nt none c T [])) λo=>match o with
   | .exit .nrm T []=>runL P X n nt cs T
   |_=>fail
def epi(P:Program)(X:Td)(n:Nat)(fn:Func)(o:Out):M Out:=match o with
 | .exit e T ms=>match e with
   | .exit _=>fail
   |_=>bd (qAz P (run P X n) ms) λ_=>bd (qBN P T fn.results.toList) λvs=>ret (.val (oneV vs))
 |_=>fail
def endF(P:Program)(X:Td)(fn:Func)(n:Nat)(c:Code)(T:Tmps):M Out:=bd (run P X n (.code fn.ntmps none c T [])) (epi P X n fn)
theorem qX0(hX:FrX X)(n nt:Nat):∀(cs:List Code) (T:Tmps),Fr (runL P X n nt cs T)
 |[],_=>qAq _
 | c::cs,T=>qBL (by rw[qLz];exact qF6 P hX n _) λo=>by
   split
   ·exact qX0 hX n nt cs _
   ·exact qAg
theorem zAEN(hX:FrX X)(n:Nat)(fn:Func)(o:Out):Fr (epi P X n fn o):=by
 unfold epi;split
 ·split
  ·exact qAg
  ·exact qBL (qCO P (qF6 P hX n) _) λ_=>qBL (qCe P _ _) λ_=>qAq _
 ·exact qAg
theorem zACj(hX:FrX X)(fn:Func)(n:Nat)(c:Code)(T:Tmps):Fr (endF P X fn n c T):=qBL (qF6 P hX n _) λ_=>zAEN hX n fn _
theorem qSH(fn:Func)(c:Code)(T:Tmps):Mono λn=>endF P X fn n c T:=qCC λn=>LeM.bd (qDF n _) λo=>by
 unfold epi;split
 ·split
  ·exact LeM.refl _
  ·exact LeM.bd (qCn (qDF n) _) λ_=>LeM.refl _
 ·exact LeM.refl _
def Good(P:Program)(X:Td)(fn:Func)(c:Code)(T:Tmps)(K:AH):Prop:=∀H,Cov K H->∃n H1,endF P X fn n c T H=some (.val (.bool true),H1)
theorem qZE{fn:Func}{n:Nat}{r:Out×AH}{T1:Tmps}{H1:AH}:∀(k:Nat) (c:Code) (T:Tmps) (H:AH),runL P X n fn.ntmps (qCx k c).1 T H=some (T1,H1)->(∃n2,endF P X fn n2 (qCx k c).2 T1 H1=some r)->∃n3,endF P X fn n3 c T H=some r:=by
 intro k
 induction k with
 | zero=>
   intro c T H h he;have e:qCx 0 c=([],c):=by unfold qCx;rfl
   rw[e]at h he;cases h;exact he
 | succ k ih=>
   intro c T H h he
   by_cases hs:∃a b,c=.seq a b
   ·obtain⟨a,b,rfl⟩:=hs
    have e:qCx (k+1) (.seq a b)=(a::(qCx k b).1,(qCx k b).2):=by rw[qCx]
    rw[e]at h he;obtain⟨o,Ha,h1,h2⟩:=qAQ (H:=H) h;rw[qLz]at h1;split at h2
    ·rename_i Ta
     obtain⟨n3,h3⟩:=ih b Ta Ha h2 he;have m1:=qDR (P:=P) (X:=X) (.code fn.ntmps none a T []) n (max n n3) H _ (Nat.le_max_left _ _) h1;have m2:=qSH (P:=P) (X:=X) fn b Ta n3 (max n n3) Ha _ (Nat.le_max_right _ _) h3;have m3:=qSH (P:=P) (X:=X) fn b Ta n3 (max n n3+1) Ha _ (by omega) h3;refine⟨max n n3+1,?_⟩;obtain⟨o2,Hb,m4,m5⟩:=qAQ (H:=Ha) m2;have m6:run P X (max n n3+1) (.code fn.ntmps none (.seq a b) T []) H=some (o2,Hb):=by
      show bd (run P X (max n n3) (.code fn.ntmps none a T [])) (λo=>match o with
       | .exit .nrm T ms=>run P X (max n n3) (.code fn.ntmps none b T ms)
       |o=>ret o) H=_
      unfold bd;simp only at m1;rw[m1];exact m4
     have m7:epi P X (max n n3+1) fn o2 Hb=some r:=by obtain⟨o3,Hc,m8,m9⟩:=qAQ (H:=Ha) m3;have:=qDR (P:=P) (X:=X) (.code fn.ntmps none b Ta []) (max n n3) (max n n3+1) Ha _ (by omega) m4;simp only at this;rw[m8]at this;cases this;exact m9
     show bd (run P X (max n n3+1) (.code fn.ntmps none (.seq a b) T [])) (epi P X (max n n3+1) fn) H=some r;unfold bd;rw[m6];exact m7
    ·exact(qAF h2).elim
   ·have e:qCx (k+1) c=([],c):=by
     cases c<;>first|(exact absurd ⟨_,_,rfl⟩ hs)|rfl
    rw[e]at h he;cases h;exact he
noncomputable def chk(P:Program)(X:Td)(n nt:Nat)(cs:List Code)(T:Tmps)(K:AH)(T2:Tmps)(l:List (Nat×ABlk))(nx:Nat):Bool:=match runL P X n nt cs T K with
 |some (T1,K1)=>eqT T1 T2&&(Nat.beq K1.next nx&&(Nat.beq K1.lo 0&&subB l K1.blks))
 |none=>false
theorem Good.cut(hX:FrX X){fn:Func}{c:Code}{T T2:Tmps}{K:AH}{l:List (Nat×ABlk)}{nx n k:Nat}(h:chk P X n fn.ntmps (qCx k c).1 T K T2 l nx=true)(g:Good P X fn (qCx k c).2 T2 (mkK l nx)):Good P X fn c T K:=by
 intro H hc;unfold chk at h;split at h
 ·rename_i T1 K1 e
  simp only[Bool.and_eq_true]at h;obtain⟨h1,h2,h3,h4⟩:=h;have h1:=qUc h1;subst h1;obtain⟨H1,e1,c1⟩:=(qX0 hX n fn.ntmps _ T).cov e hc;have c2:Cov (mkK l nx) H1:=⟨by rw[c1.next];exact bE h2,by have:=c1.lo;rw[bE h3]at this;exact this,λi b hi=>c1.sub i b (qUV h4 (i,b) (qXo hi)),c1.top⟩
  obtain⟨n2,H2,e2⟩:=g H1 c2;obtain⟨n3,e3⟩:=qZE k c T H e1 ⟨n2,e2⟩;exact⟨n3,H2,e3⟩
 ·cases h
noncomputable def endR(P:Program)(X:Td)(fn:Func)(n:Nat)(c:Code)(T:Tmps)(K:AH):Bool:=match runR P X n (.code fn.ntmps none c T []) K with
 | some (.exit e T ms,K1)=>(match e with
   | .exit _=>false
   | _=>match ms with
     |[]=>qJV (bd (qBN P T fn.results.toList) (λvs=>ret (.val (oneV vs))) K1)
     |_=>false)
 |_=>false
theorem Good.last(hX:FrX X){fn:Func}{c:Code}{T:Tmps}{K:AH}{n:Nat}(h:endR P X fn n c T K=true):Good P X fn c T K:=by
 intro H hc;have:∃K1,endF P X fn n c T K=some (.val (.bool true),K1):=by
  unfold endR at h;rw[qLz]at h;split at h
  ·rename_i e T ms K1 q
   unfold endF bd;rw[q];cases e with
   |exit _=>cases h
   | nrm=>
     cases ms with
     |cons _ _=>cases h
     |nil=>exact qKr h
   | ret=>
     cases ms with
     |cons _ _=>cases h
     |nil=>exact qKr h
  ·cases h
 obtain⟨K1,e⟩:=this;obtain⟨H1,e1,_⟩:=(zACj hX fn n c T).cov e hc;exact⟨n,H1,e1⟩
theorem qXp{f:FuncId}{fn:Func}{c:Code}(hX:X f=none)(hf:P.funcs[f]?=some fn)(hb:fn.body=some c){args:List AV}(hl:Nat.ble args.length fn.ntmps=true)(g:Good P X fn c (Tr.ofListAt .nil 0 args) empty):∃n,qJV (runR P X n (.call f args) empty)=true:=by
 obtain⟨n,H1,e⟩:=g empty ⟨rfl,Nat.le_refl _,λ_ _ h=>h,λi _=>Tr.get_nil i⟩;refine⟨n+1,?_⟩;rw[qLz];have:run P X (n+1) (.call f args)=qBo P (run P X n) f args:=by
  show(match X f with
   |some g=>bd (g args) λv=>ret (Out.val v)
   |none=>qBo P (run P X n) f args)=_
  rw[hX]
 rw[this];unfold qBo;simp only[hf,hb,hl,cond_true];obtain⟨o,H2,q1,q2⟩:=qAQ (H:=empty) e;unfold bd;rw[q1];cases o with
 | exit e T ms=>
   cases e with
   |exit _=>cases q2
   |nrm=>exact congrArg qJV q2
   |ret=>exact congrArg qJV q2
 |val _=>cases q2
end Go.AM
namespace Go.AM
open Go Go.RowKit Go.ChangeShapes Go.WideShapes Go.ChangeAt
end Go.AM
namespace Go.AM
open Go Go.RowKit Go.ChangeShapes Go.WideShapes
end Go.AM
namespace Go.AM
open Go Go.RowKit Go.ChangeShapes Go.WideShapes Go.ChangeAt
section
variable {s s2:Hq} {v:AV} {l:List AV}
theorem newM{l:List (Hq×Hq)}{elem:TypeId}{cs:List AV}{R:Nat->Hq->Prop}(h:∀b s2,s b=none->add s s2 b=some (false,.cells elem cs)->Upto b s (add s s2)->R b s2):
  newK elem cs (λb s2=>(∀i,s i≠none->cutH l s i=none->s2 i=none)->R b s2) (frz (cutH l s)):=by
 refine qAP λb s2 hb h2 u2 hq=>?_;have hsb:s b=none:=by
  cases e:s b with
  |none=>rfl
  | some x=>
    have:=hq b (by rw[e];simp) (qJe.1 hb);rw[this]at h2;cases h2
 refine h b s2 hsb (by rw[qCU hsb];exact h2) λi hi=>?_;cases e:s i with
 |some x=>rw[qCK e]
 |none=>rw[qCU e,u2 i hi,qJe.2 (qN4 e)]
theorem Sl.addf(h:Sl s2 v l)(hs:Sub (frz s) s2):Sl (add s s2) v l:=by
 rcases h with h|⟨b,o,cap,h1,h2,h3⟩
 ·exact .inl h
 ·refine .inr ⟨b,o,cap,h1,h2,λhl=>?_⟩
  obtain⟨t,e,cs,q1,q2⟩:=h3 hl;cases hb:s b with
  |none=>exact⟨t,e,cs,by rw[qCU hb];exact q1,q2⟩
  | some x=>
    obtain⟨t',x⟩:=x;have:=hs b _ (qLD hb);rw[q1]at this;cases this;exact⟨t',e,cs,by rw[qCK hb],q2⟩
theorem Sl.frz(h:Sl s v l):Sl (frz s) v l:=by
 rcases h with h|⟨b,o,cap,h1,h2,h3⟩
 ·exact .inl h
 ·refine .inr ⟨b,o,cap,h1,h2,λhl=>?_⟩
  obtain⟨t,e,cs,q1,q2⟩:=h3 hl;exact⟨true,e,cs,qLD q1,q2⟩
theorem Sl.ne(h:Sl s v l){b:Nat}(hb:s b=none):∀b' o n c,v=.slc b' o n c 1->l≠[]->¬b'=b:=by
 rintro b' o n c rfl hl rfl;rcases h with⟨h,_⟩|⟨b,o,cap,h1,h2,h3⟩
 ·cases h
 ·cases h1
  obtain⟨t,e,cs,q1,q2⟩:=h3 hl;rw[hb]at q1;cases q1
theorem Sl.one{v:AV}{l:List AV}(h:Sl s v l):v.one=true:=by rcases h with⟨rfl,_⟩|⟨b,o,cap,rfl,_⟩<;>rfl
end
end Go.AM
namespace Go.AM
open Go Go.RowKit Go.ChangeShapes Go.WideShapes Go.ChangeAt
theorem ArgL.sub{P:Program}{s s':Hq}(hs:Sub s s'){d:Nat}:∀{ts:List TypeId}{xs:List AV},ArgL P s d ts xs->ArgL P s' d ts xs
 |[],[],_=>trivial
 |[],_::_,h=>h.elim
 |_::_,[],h=>h.elim
 |_::_,_::_,⟨h1,h2⟩=>⟨Arg.sub hs h1,ArgL.sub hs h2⟩
end Go.AM
namespace Go.AM
open Go
end Go.AM
namespace Go.AM
open Go
def SlR(es:Nat)(s:Hq)(v:AV)(rows:List (List AV)):Prop:=(∀r∈rows,r.length=es)/\((v=.nilslc/\rows=[])∨∃b o cap,v=.slc b o rows.length cap es/\(∀c,cap=some c->rows.length<=c)/\
 (rows≠[]->∃t e cs,s b=some (t,.cells e cs)/\o+rows.length*es<=cs.length/\(cs.drop o).take (rows.length*es)=rows.flatten))
theorem qJi{es:Nat}:∀{rows:List (List AV)},(∀r∈rows,r.length=es)->rows.flatten.length=rows.length*es
 |[],_=>by simp
 | r::rows,h=>by
   rw[List.flatten_cons,lAp,qJi λq hq=>h q (by simp[hq]),h r (by simp),List.length_cons,Nat.succ_mul,Nat.add_comm]
theorem qUN{es:Nat}:∀{rows:List (List AV)}{i:Nat}{r:List AV},(∀r∈rows,r.length=es)->rows[i]?=some r->(rows.flatten.drop (i*es)).take es=r
 |[],_,_,_,h=>by simp at h
 | q::rows,0,r,hl,h=>by
   simp only[g0Y,Option.some.injEq]at h;subst h;have:=hl q (by simp);rw[Nat.zero_mul,List.drop_zero,List.flatten_cons,List.take_append_of_le_length (by omega),List.take_of_length_le (by omega)]
 | q::rows,i+1,r,hl,h=>by
   have hq:=hl q (by simp);have e1:(i+1)*es=i*es+es:=Nat.succ_mul _ _;rw[List.flatten_cons,List.drop_append,List.drop_eq_nil_of_le (by omega),List.nil_append,hq,e1,Nat.add_sub_cancel];exact qUN (λr hr=>hl r (by simp[hr])) (by simpa using h)
variable {s s':Hq} {v:AV} {rows:List (List AV)} {es:Nat}
theorem SlR.len(h:SlR es s v rows):qAN v=some rows.length:=by
 rcases h.2 with⟨rfl,rfl⟩|⟨b,o,cap,rfl,_⟩
 ·rfl
 ·rfl
theorem SlR.one(h:SlR es s v rows):v.one=true:=by rcases h.2 with⟨rfl,_⟩|⟨b,o,cap,rfl,_⟩<;>rfl
theorem SlR.get(h:SlR es s v rows){i:Nat}{r:List AV}(hi:rows[i]?=some r):∃b o,qAT es v (.int .i64 (i:Int))=some (.ptr b o)/\rdN s es (.ptr b o)=some r/\∀j,j<es->rd1 s (.ptr b (o+j))=r[j]?:=by
 have hlt:=(gS hi).1;obtain⟨hl,h⟩:=h;rcases h with⟨rfl,rfl⟩|⟨b,o,cap,rfl,_,h⟩
 ·simp at hlt
 ·obtain⟨t,e,cs,h1,h2,h3⟩:=h (by rintro rfl;simp at hlt)
  have e1:Nat.blt i rows.length=true:=by rw[Nat.blt_eq];exact hlt
  have e2:(i+1)*es<=rows.length*es:=Nat.mul_le_mul_right _ hlt;rw[Nat.succ_mul]at e2;have row:(cs.drop (o+i*es)).take es=r:=by rw[<- qUN hl hi,<- h3,List.drop_take,List.take_take,List.drop_drop,Nat.min_eq_left (by omega)]
  refine⟨b,o+i*es,by simp[qAT,e1],?_,λj hj=>?_⟩
  ·have e3:Nat.ble (o+i*es+es) cs.length=true:=bL (by omega)
   simp only[rdN,h1,qGe,e3,cond_true,row]
  ·rw[qAI h1,<- row,List.getElem?_take,if_pos hj,List.getElem?_drop]
theorem SlR.rd(h:SlR es s v rows):rdSl s es v=some rows.flatten:=by
 obtain⟨hl,h⟩:=h;rcases h with⟨rfl,rfl⟩|⟨b,o,cap,rfl,_,h⟩
 ·rfl
 ·simp only[rdSl,Nat.beq_refl,cond_true]
  cases hz:Nat.beq (rows.length*es) 0 with
  | true=>
    rw[cond_true];have:=qJi hl;rw[bE hz]at this;rw[List.eq_nil_of_length_eq_zero this]
  | false=>
    rw[cond_false];obtain⟨t,e,cs,h1,h2,h3⟩:=h (by rintro rfl;simp at hz);have e2:Nat.ble (o+rows.length*es) cs.length=true:=bL h2;simp only[h1,qGe,e2,cond_true,h3]
theorem SlR.sub(h:SlR es s v rows)(hs:Sub s s'):SlR es s' v rows:=by
 refine⟨h.1,?_⟩;rcases h.2 with h|⟨b,o,cap,h1,h2,h3⟩
 ·exact .inl h
 ·refine .inr ⟨b,o,cap,h1,h2,λhl=>?_⟩
  obtain⟨t,e,cs,q1,q2⟩:=h3 hl;exact⟨t,e,cs,hs _ _ q1,q2⟩
theorem SlR.frz(h:SlR es s v rows):SlR es (frz s) v rows:=by
 refine⟨h.1,?_⟩;rcases h.2 with h|⟨b,o,cap,h1,h2,h3⟩
 ·exact .inl h
 ·refine .inr ⟨b,o,cap,h1,h2,λhl=>?_⟩
  obtain⟨t,e,cs,q1,q2⟩:=h3 hl;exact⟨true,e,cs,qLD q1,q2⟩
theorem SlR.keep{fp:Nat->Prop}(h:SlR es s v rows)(hs:qBp fp s s')(hn:∀b o n c,v=.slc b o n c es->rows≠[]->¬fp b):SlR es s' v rows:=by
 refine⟨h.1,?_⟩;rcases h.2 with h|⟨b,o,cap,h1,h2,h3⟩
 ·exact .inl h
 ·refine .inr ⟨b,o,cap,h1,h2,λhl=>?_⟩
  obtain⟨t,e,cs,q1,q2⟩:=h3 hl;exact⟨t,e,cs,hs _ _ q1 (hn b o _ cap h1 hl),q2⟩
theorem SlR.mk{b:Nat}{t:Bool}{e:TypeId}{n:Nat}{cap:Option Nat}(hl:∀r∈rows,r.length=es)(h:s b=some (t,.cells e rows.flatten))(hn:n=rows.length)(hc:∀c,cap=some c->rows.length<=c):SlR es s (.slc b 0 n cap es) rows:=by subst hn;refine⟨hl,.inr ⟨b,0,cap,rfl,hc,λ_=>⟨t,e,_,h,by rw[qJi hl];omega,?_⟩⟩⟩;rw[List.drop_zero,<- qJi hl,List.take_of_length_le (Nat.le_refl _)]
theorem SlR.empty{b o:Nat}{c:Nat}:SlR es s (.slc b o 0 (some c) es) []:=⟨by simp,.inr ⟨b,o,some c,rfl,by simp,λh=>absurd rfl h⟩⟩
theorem SlR.drop(h:SlR es s v rows){k:Nat}(hk:k<=rows.length)(hne:rows≠[]):∃v',qEU es v (some (.int .i64 (k:Int))) none none=some v'/\SlR es s v' (rows.drop k)/\∀b o n c,v'=.slc b o n c es->∃o n c,v=.slc b o n c es:=by
 obtain⟨hl,h⟩:=h;rcases h with⟨rfl,rfl⟩|⟨b,o,cap,rfl,hc,h⟩
 ·exact absurd rfl hne
 ·obtain⟨t,e,cs,h1,h2,h3⟩:=h hne
  have hrow:∀r∈rows.drop k,r.length=es:=λr hr=>hl r (List.mem_of_mem_drop hr);have hlen:(rows.drop k).length=rows.length-k:=List.length_drop;have data:rows.drop k≠[]->∃t e cs,s b=some (t,.cells e cs)/\o+k*es+(rows.drop k).length*es<=cs.length/\(cs.drop (o+k*es)).take ((rows.drop k).length*es)=(rows.drop k).flatten:=λ_=>by
   have e2:k*es+(rows.length-k)*es=rows.length*es:=by rw[<- Nat.add_mul];congr 1;omega
   refine⟨t,e,cs,h1,by rw[hlen];omega,?_⟩;have e3:rows.flatten.drop (k*es)=(rows.drop k).flatten:=by
    have:rows.flatten=(rows.take k).flatten++(rows.drop k).flatten:=by rw[<- List.flatten_append,List.take_append_drop]
    have hk2:(rows.take k).flatten.length=k*es:=by rw[qJi λr hr=>hl r (List.mem_of_mem_take hr),List.length_take,Nat.min_eq_left hk]
    rw[this,<- hk2,List.drop_left]
   rw[<- e3,<- h3,List.drop_take,List.drop_drop,hlen]
   congr 1
   omega
  have b1:bound (some (.int .i64 (k:Int))) 0 rows.length=some k:=by simp[bound,bL hk]
  cases cap with
  | none=>
    refine⟨.slc b (o+k*es) (rows.length-k) none es,?_,⟨hrow,.inr ⟨b,o+k*es,none,by rw[hlen],by simp,data⟩⟩,λb' o' n' c' e=>by cases e;exact⟨_,_,_,rfl⟩⟩;simp[qEU,bound,bL hk]
  | some c=>
    have hc':=hc c rfl;refine⟨.slc b (o+k*es) (rows.length-k) (some (c-k)) es,?_,⟨hrow,.inr ⟨b,o+k*es,some (c-k),by rw[hlen],λd hd=>by cases hd;rw[hlen];omega,data⟩⟩,λb' o' n' c' e=>by cases e;exact⟨_,_,_,rfl⟩⟩;simp[qEU,bound,bL hk,bL hc']
theorem inpR{P:Program}{d:Nat}{t e:TypeId}(hu:P.underlying t=some (.slice e)){A:Type}(f:A->List AV)(Q:A->Prop)(hf:∀a,(f a).length=P.cellsOf e)(he:∀xs,Inp P s d e xs->∃a,xs=f a/\Q a){xs:List AV}(h:Inp P s (d+1) t xs):∃v,xs=[v]/\∃l:List A,SlR (P.cellsOf e) s v (l.map f)/\(∀a∈l,Q a)/\l.length<=maxLen:=by
 unfold Inp at h;simp only[hu]at h;have hrow:∀(l:List A),∀r∈l.map f,r.length=P.cellsOf e:=λl r hr=>by obtain⟨a,_,rfl⟩:=List.mem_map.1 hr;exact hf a
 rcases h with rfl|⟨b,len,cap,rfl,h1,h2,h3⟩
 ·exact⟨_,rfl,[],⟨hrow [],.inl ⟨rfl,rfl⟩⟩,by simp,by simp⟩
 ·refine⟨_,rfl,?_⟩
  by_cases hz:cap=0
  ·subst hz
   have:len=0:=by omega
   subst this;exact⟨[],.empty,by simp,by simp⟩
  ·obtain⟨el,l,g1,g2,g3⟩:=h3 (by omega)
   have mk:∀n,n<=cap->∃r:List A,r.length=n/\(r.map f).flatten=l.take (n*P.cellsOf e)/\∀a∈r,Q a:=by
    intro n
    induction n with
    |zero=>exact λ_=>⟨[],rfl,by simp,by simp⟩
    | succ n ih=>
      intro hn;obtain⟨r,r1,r2,r3⟩:=ih (by omega);obtain⟨a,a1,a2⟩:=he _ (g3 n (by omega));refine⟨r ++ [a],by simp[r1],?_,λb hb=>?_⟩
      ·rw[List.map_append,List.flatten_append,r2,List.map_singleton,List.flatten_singleton,<- a1,Nat.succ_mul,List.take_add]
      ·rcases mP hb with hb|hb
       ·exact r3 b hb
       ·rw[List.mem_singleton.1 hb];exact a2
   obtain⟨r,r1,r2,r3⟩:=mk len h1;refine⟨r,⟨hrow r,.inr ⟨b,0,some cap,by simp[r1],by simp[r1];exact h1,λ_=>⟨true,el,l,g1,?_,?_⟩⟩⟩,r3,by omega⟩
   ·rw[lM,r1,g2,zA];exact Nat.mul_le_mul_right _ h1
   ·rw[lM,r1,List.drop_zero,r2]
theorem argR{P:Program}{d:Nat}{t e:TypeId}{v:AV}(hu:P.underlying t=some (.slice e)){A:Type}(f:A->List AV)(Q:A->Prop)(hf:∀a,(f a).length=P.cellsOf e)(he:∀xs,Inp P s d e xs->∃a,xs=f a/\Q a)(h:Arg P s (d+1) t v):∃l:List A,SlR (P.cellsOf e) s v (l.map f)/\(∀a∈l,Q a)/\l.length<=maxLen:=by
 obtain⟨h1,_,h3⟩:=h;have:qBV P t≠some true:=by unfold qBV;rw[hu];simp
 rw[h3 this]at h1;obtain⟨v',e1,h4⟩:=inpR hu f Q hf he h1;cases e1;exact h4
end Go.AM
namespace Go.AM
open Go
variable {s s':Hq} {v:AV} {rows:List (List AV)} {es:Nat}
theorem SlR.take(h:SlR es s v rows){k:Nat}(hk:k<=rows.length)(hne:rows≠[]):∃v',qEU es v none (some (.int .i64 (k:Int))) none=some v'/\SlR es s v' (rows.take k)/\∀b o n c,v'=.slc b o n c es->∃o n c,v=.slc b o n c es:=by
 obtain⟨hl,h⟩:=h;rcases h with⟨rfl,rfl⟩|⟨b,o,cap,rfl,hc,h⟩
 ·exact absurd rfl hne
 ·obtain⟨t,e,cs,h1,h2,h3⟩:=h hne
  have hrow:∀r∈rows.take k,r.length=es:=λr hr=>hl r (List.mem_of_mem_take hr);have hlen:(rows.take k).length=k:=by rw[List.length_take,Nat.min_eq_left hk]
  have e2:k*es<=rows.length*es:=Nat.mul_le_mul_right _ hk;have data:rows.take k≠[]->∃t e cs,s b=some (t,.cells e cs)/\o+(rows.take k).length*es<=cs.length/\(cs.drop o).take ((rows.take k).length*es)=(rows.take k).flatten:=λ_=>by
   refine⟨t,e,cs,h1,by rw[hlen];omega,?_⟩;have e3:rows.flatten.take (k*es)=(rows.take k).flatten:=by
    have:rows.flatten=(rows.take k).flatten++(rows.drop k).flatten:=by rw[<- List.flatten_append,List.take_append_drop]
    have hk2:(rows.take k).flatten.length=k*es:=by rw[qJi hrow,hlen]
    rw[this,<- hk2,List.take_left]
   rw[<- e3,<- h3,List.take_take,hlen,Nat.min_eq_left e2]
  cases cap with
  | none=>
    refine⟨.slc b o k none es,?_,⟨hrow,.inr ⟨b,o,none,by rw[hlen],by simp,data⟩⟩,λb' o' n' c' e=>by cases e;exact⟨_,_,_,rfl⟩⟩;simp[qEU,bound,bL hk]
  | some c=>
    have hc':=hc c rfl;refine⟨.slc b o k (some c) es,?_,⟨hrow,.inr ⟨b,o,some c,by rw[hlen],λd hd=>by cases hd;rw[hlen];omega,data⟩⟩,λb' o' n' c' e=>by cases e;exact⟨_,_,_,rfl⟩⟩;simp[qEU,bound,bL (Nat.le_trans hk hc')]
def AccR(elem:TypeId)(es:Nat)(s0 s:Hq)(v:AV)(rows:List (List AV)):Prop:=(∀r∈rows,r.length=es)/\((v=.nilslc/\rows=[])∨∃b,s0 b=none/\v=.slc b 0 rows.length none es/\s b=some (false,.cells elem rows.flatten))
theorem AccR.sl{elem:TypeId}{s0:Hq}(h:AccR elem es s0 s v rows):SlR es s v rows:=by
 obtain⟨hl,h⟩:=h;rcases h with h|⟨b,_,rfl,h⟩
 ·exact⟨hl,.inl h⟩
 ·exact SlR.mk hl h rfl (by simp)
theorem AccR.sub{elem:TypeId}{s0 s s':Hq}(h:AccR elem es s0 s v rows)(hs:Sub s s'):AccR elem es s0 s' v rows:=by
 obtain⟨hl,h⟩:=h;rcases h with h|⟨b,h0,rfl,h⟩
 ·exact⟨hl,.inl h⟩
 ·exact⟨hl,.inr ⟨b,h0,rfl,hs _ _ h⟩⟩
theorem AccR.app{elem:TypeId}{s0:Hq}{y:AV}{m:List (List AV)}{K:AV->Hq->Prop}(h:AccR elem es s0 s v rows)(hy:SlR es s y m)(hm:m≠[])(hl:rows.length+m.length<=16777216)(hdom:Sub s0 s)
  (hK:∀v' s',AccR elem es s0 s' v' (rows++m)->Sub s0 s'->K v' s'):appK elem es v y K s:=by
 obtain⟨k,hk⟩:∃k,m.length=k+1:=by cases m with|nil=>exact absurd rfl hm|cons a r=>exact⟨r.length,rfl⟩
 refine qAA hy.rd (qAA hy.len ?_);obtain⟨hrow,h⟩:=h;have hrow2:∀r∈rows++m,r.length=es:=λr hr=>by rcases mP hr with hr|hr;exact hrow r hr;exact hy.1 r hr
 rcases h with⟨rfl,rfl⟩|⟨b,hb0,rfl,hb⟩
 ·simp only
  rw[hk];refine⟨by simp at hl;omega,qAP λc s1 hc h1 u1=>hK _ _ ⟨hrow2,.inr ⟨c,?_,by simp[hk],by simpa using h1⟩⟩ (hdom.trans (u1.sub hc))⟩;cases q:s0 c with
  |none=>rfl
  |some x=>rw[hdom c x q]at hc;cases hc
 ·refine⟨rfl,?_⟩
  simp only;rw[hk];simp only;refine qAA (SlR.rd (SlR.mk hrow hb rfl (by simp))) ?_;unfold qUz;rw[hb];have hdel0:Sub s0 (hdel s b):=λi e hi=>by have hib:i≠b:=qJ1 hb0 hi;rw[<- hdom i e hi];exact if_neg hib
  refine⟨rfl,by omega,qAP λc s1 hc h1 u1=>hK _ _ ⟨hrow2,.inr ⟨c,?_,by simp[hk],by simpa using h1⟩⟩ (hdel0.trans (u1.sub hc))⟩;cases q:s0 c with
  |none=>rfl
  |some x=>rw[hdel0 c x q]at hc;cases hc
end Go.AM
namespace Go.AM
open Go
def qYV:Code->Option (List Oper×List Oper×Call)
 | .region _ ops false=>match qBc ops.toList with
   |some p=>some (ops.toList,p.1,p.2)
   |none=>none
 |_=>none
def qYW(c:Call):Option Operand:=match c.callee with
 | .value f=>cond (c.args.toList.isEmpty&&okX f) (some f) none
 |_=>none
end Go.AM
namespace Go.AM
open Go
variable {P:Program} {X:Td}
theorem wC.frame(hX:FrX X){f:FuncId}{args:List AV}{K:AV->Hq->Prop}{r s:Hq}(hsub:Sub r s)
  (h:wC P X f args (λv s1=>(∀i,s i≠none->r i=none->s1 i=none)->K v (add s1 (rest s r))) r):wC P X f args K s:=by
 intro H hH;obtain⟨n,o,H1,s1,es,h1,h2,h3,h4,d,kno,out⟩:=wpF.framed (λn=>qF6 P hX n (.call f args)) h (hH.sub hsub);obtain⟨v,rfl,hK⟩:=h4;have hout:∀i,s i≠none->r i=none->s1 i=none:=λi hi hr=>(out i hr (hH.lt hi)).1;refine⟨n,.val v,H1,h1,add s1 (rest s r),?_,?_,v,rfl,hK hout⟩
 ·refine⟨h2.lo,h2.wf,λid t b hid=>?_⟩
  cases q:s1 id with
  | some x=>
    rw[qCK q]at hid;exact h2.at_ id t b (by rw[q];exact hid)
  | none=>
    rw[qCU q]at hid;unfold rest at hid;split at hid
    ·rename_i e
     obtain⟨k1,k2⟩:=hH.at_ id t b hid;have hlt:=hH.lt (i:=id) (by rw[hid];exact Option.some_ne_none _);rw[d.lo,(out id e hlt).2];exact⟨k1,k2⟩
    ·cases hid
 ·intro id b hid
  cases q:r id with
  | some x=>
    have e1:=hsub id x q;rw[hid]at e1;cases e1;exact qCK (h3 id b q)
  | none=>
    have hlt:=hH.lt (i:=id) (by rw[hid];exact Option.some_ne_none _);rw[qCU (out id q hlt).1];unfold rest;rw[if_pos q];exact hid
theorem wC.part(hX:FrX X){f:FuncId}{args:List AV}{K:AV->Hq->Prop}{r s:Hq}(hsub:Sub r s)
  (h:wC P X f args (λv s1=>∀s',Sub s1 s'->(∀i,r i=none->s i≠none->s' i=s i/\s1 i=none)->K v s') r):wC P X f args K s:=by
 refine wC.frame hX hsub (wpF.mono h λo s1 ⟨v,e,hv⟩=>⟨v,e,λhout=>hv _ qGw λi hr hi=>?_⟩);have:=hout i hi hr;refine⟨?_,this⟩;rw[qCU this];unfold rest;rw[if_pos hr]
end Go.AM
namespace Go.AM
open Go
variable {P:Program} {X:Td} {A:Nat→List Nat} {nt:Nat} {rnd:Option Nat}
def zAAE(P:Program)(X:Td)(k:FuncId)(args:List AV)(Q:Hq->Prop)(s:Hq):Prop:=wpF (λn=>qKP P (run P X n) k args) (λ_ s=>Q s) s
def runK(P:Program)(X:Td)(v:AV)(Q:Hq->Prop)(s:Hq):Prop:=match v with
 | .fn (.func k) first cap=>zAAE P X k (first++cap) Q s
 |_=>False
def qWy(P:Program)(v:AV):Prop:=match v with
 | .fn (.func k) _ _=>isFn P k=true
 |_=>False
def qRv(c:Code):Code:=match qHV c with
 |some (_,r)=>r
 |none=>.skip
def qT0(c:Code)(env:Env):Env:=match qHV c with
 |some (t,_)=>upd env t .nilIface
 |none=>env
def qZU(c:Code)(nt:Nat):Bool:=match qHV c with
 |some (t,r)=>noRF r&&Nat.blt t nt
 |none=>false
theorem qWI(hX:FrX X)(A:Nat->List Nat){k:FuncId}{fn:Func}{c:Code}(hf:P.funcs[k]?=some fn)(hb:fn.body=some c)(hr:fn.results.toList=[])(hc:qZU c fn.ntmps=true){args:List AV}(hl:Nat.ble args.length fn.ntmps=true){K:AV->Hq->Prop}{s:Hq}
  (h:wpC P X A fn.ntmps none (qRv c) (qT0 c (qJ3 args)) (λe env s=>retK e (resK P fn.results.toList env (λvs=>K (oneV vs) s) s)) s):zAAE P X k args (λs=>K (.tup []) s) s:=by
 unfold qZU at hc;unfold qRv qT0 at h;cases hq:qHV c with
 |none=>rw[hq]at hc;cases hc
 |some p=>
 obtain⟨t,r⟩:=p;rw[hq]at hc h;simp only at hc h;obtain⟨hno,hlt⟩:=Bool.and_eq_true_iff.1 hc;rw[hr]at h;unfold zAAE qKP;simp only[hf,hb,hr];refine wpF.cond hl ?_;have hd:qOt fn (Tr.ofListAt .nil 0 args) c=some (r,(Tr.ofListAt .nil 0 args).put t (some .nilIface)):=by unfold qOt;rw[hq];simp only[hlt,cond_true]
 rw[hd];simp only;have hT:=zAAh (qOY args) t .nilIface;have e0:∀s:Hq,add s (mkH [])=s:=λs=>by funext i;unfold add mkH;cases s i<;>simp
 have hcode:=qJA (P:=P) (X:=X) (A:=A) (nt:=fn.ntmps) (rnd:=none) hX r _ _ s h _ [] hT (by simp) List.nodup_nil;rw[e0]at hcode;refine wpF.bd (qDR _) (λo=>.const _) ((qS7 hno [] hcode).mono ?_);rintro o S ⟨o',rfl,hno',e,T2,env2,ms',s2,rfl,q1,rfl,_,_,_,_,q6⟩;simp only[reMs,Out.exit.injEq,true_and,List.append_nil]at hno';have hms:ms'=[]:=by
  cases ms' with
  |nil=>rfl
  |cons _ _=>cases hno'
 subst hms;rw[List.append_nil,e0];cases e with
 |nrm=>exact wpF.ret q6
 |ret=>exact wpF.ret q6
 |exit id=>exact q6.elim
end Go.AM
namespace Go.AM
open Go
def qB1:Nat->Code->Code
 | 0,c=>c
 |d+1,.seq _ b=>qB1 d b
 |_+1,c=>c
def qX4:Nat->Code->Bool
 | 0,_=>true
 |d+1,.seq _ b=>qX4 d b
 |_+1,_=>false
def wpCD(P:Program)(X:Td)(A:Nat->List Nat)(nt:Nat)(rnd:Option Nat):Nat->(Env->Hq->Prop)->Code->Env->(AExit->Env->Hq->Prop)->Hq->Prop
 | 0,J,_,env,_,s=>J env s
 |d+1,J,.seq a b,env,K,s=>wpC P X A nt rnd a env (λe env s=>match e with
   | .nrm=>wpCD P X A nt rnd d J b env K s
   |e=>K e env s) s
 |_+1,_,_,_,_,_=>False
theorem qCD{P:Program}{X:Td}{A:Nat->List Nat}{nt:Nat}{rnd:Option Nat}{K:AExit->Env->Hq->Prop}:∀(d:Nat) (J:Env->Hq->Prop) (c:Code),qX4 d c=true->(∀env s,wpC P X A nt rnd (qB1 d c) env K s=J env s)->∀env s,wpC P X A nt rnd c env K s=wpCD P X A nt rnd d J c env K s
 | 0,J,c,_,h,env,s=>h env s
 | d+1,J,c,hs,h,env,s=>by
   cases c with
   | seq a b=>
     have ih:=qCD (P:=P) (X:=X) (A:=A) (nt:=nt) (rnd:=rnd) (K:=K) d J b hs h;show wpC P X A nt rnd a env _ s=wpC P X A nt rnd a env _ s
     congr 1
     funext e env s
     cases e with
     |nrm=>exact ih env s
     |ret=>rfl
     |exit id=>rfl
   |_=>cases hs
end Go.AM
namespace Go.AM
open Go Go.RowKit
section
variable {P:Program} {σ:Nat→Value} {base nt:Nat} {ih:Task→M Out}
def qK7(pre:List Oper):Bool:=pre.all λo=>match o.guard with
 |none=>true
 |some (j,_)=>Nat.blt j pre.length
def zAAk(full:List Oper)(m:Nat):Bool:=(List.range m).all λi=>Nat.testBit ((masks full []).getD m 0) i
theorem qLE{pre:Array Oper}{oL:Oper}{j:Nat}(h:j<pre.size):(pre.push oL)[j]?=pre[j]?:=by rw[Array.getElem?_push];rw[if_neg (by omega)]
theorem qR6{pre:Array Oper}{oL:Oper}{tm:Array Value}{j:Nat}(h:j<pre.size):yielded (pre.push oL) tm j=yielded pre tm j:=by unfold yielded;rw[qLE h]
theorem qSs{pre:Array Oper}{oL o:Oper}{tm:Array Value}(hg:qK7 pre.toList=true)(ho:o∈pre.toList):Region.wanted o (yielded (pre.push oL) tm)=Region.wanted o (yielded pre tm):=by
 have:=List.all_eq_true.1 hg o ho;unfold Region.wanted;cases e:o.guard with
 |none=>rfl
 | some p=>
   obtain⟨j,w⟩:=p;rw[e]at this;simp only at this ⊢;rw[qR6 (by simpa [Nat.blt_eq]using this)]
theorem qTY{F:Fence}{n:Nat}{pre:Array Oper}{oL:Oper}{Q:Exit->Act->World->Prop}{j:Nat}{K:Act->World->Prop}{a:Act}{w:World}(hg:qK7 pre.toList=true)(hj:j<pre.size)(h:wpOpIn F n P pre Q j K a w):wpOpIn F n P (pre.push oL) Q j K a w:=by unfold wpOpIn at h ⊢;rw[qLE hj];have ho:pre[j]?=some pre[j]:=Array.getElem?_eq_getElem hj;rw[ho]at h ⊢;simp only at h ⊢;rw[qSs hg (by simp)];exact h
theorem qV3{F:Fence}{n:Nat}{ops:Array Oper}{Q:Exit->Act->World->Prop}{listed:Array Bool}{a:Act}{w:World}(hr:Region.ready .any ops listed=[])(h:Q .normal a w):∀fuel,wpAnyIn F n P .any ops Q fuel listed a w
 | 0=>⟨hr,h⟩
 |fuel+1=>⟨λ_=>h,λi hi=>by rw[hr]at hi;cases hi⟩
variable {pre:Array Oper} {oL:Oper} {Ts:Nat→Tmps} {Hs:Nat→AH} {vs:Nat→AV} {es:Nat→List (Nat × Bool)}
theorem qZQ(hc:qGX P ih)(hr:qD8 P ih)(hname:qEj P)(hfr:∀t,Fr (ih t))(hσ:One σ)(tr:Trace P ih nt pre Ts Hs vs es)(hg:qK7 pre.toList=true)(hback:∀(j:Nat) (o:Oper),(pre.push oL)[j]?=some o->∀e∈o.after,Region.binds .any e=true->e.on<j)
  {mk:Nat}(hmk:(masks (pre.push oL).toList [])[pre.size]?=some mk) (hcov:∀i,i<pre.size->Nat.testBit mk i=true) {r:Option Nat}{Q:Exit->Act->World->Prop}
  {ρ0:Ren}{w0:World}{d0:Act}(hQ:∀a' w' ρ',Ext ρ0 ρ' (Hs 0).next (Hs pre.size).next->WR σ ρ' base (Hs pre.size) w'->Below base w0 w'->TRel σ ρ' nt (Ts pre.size) a'.tmps->a'.defers=d0.defers->wpOpIn (FR r) 0 P (pre.push oL) Q pre.size (Q .normal) a' w') :
  ∀(fuel:Nat) (listed:Array Bool) (T:Tmps) (H:AH) (ρ:Ren) (w:World) (a:Act),listed.size=(pre.push oL).size->listed.getD pre.size true=false->cntF listed.toList<=fuel->Inv σ base nt pre Ts Hs vs es ρ0 w0 d0 (λi=>i<pre.size/\Done listed i) T H ρ w a->wpAnyIn (FR r) 0 P .any (pre.push oL) Q fuel listed a w:=by
 have hsz:(pre.push oL).size=pre.size+1:=Array.size_push _;have lastO:(pre.push oL)[pre.size]?=some oL:=by simp
 have fin:∀(listed:Array Bool) (T:Tmps) (H:AH) (ρ:Ren) (w:World) (a:Act),(∀i,i<pre.size->Done listed i)->Inv σ base nt pre Ts Hs vs es ρ0 w0 d0 (λi=>i<pre.size/\Done listed i) T H ρ w a->wpOpIn (FR r) 0 P (pre.push oL) Q pre.size (Q .normal) a w:=by
  intro listed T H ρ w a hall hi;have hall':∀i,i<pre.size->i<pre.size/\Done listed i:=λi h=>⟨h,hall i h⟩
  refine hQ a w ρ hi.ext (hi.wr.same (λid=>?_) ?_) hi.below (hi.rel.same λt=>?_) hi.defers
  ·rw[hi.blks,tr.blk_all hall' id pre.size (Nat.le_refl _)]
  ·rw[hi.lo,tr.lo_eq _ (Nat.le_refl _)]
  ·rw[hi.tmps,tr.tmp_all hall' t pre.size (Nat.le_refl _)]
 have ready:∀(listed:Array Bool),listed.size=(pre.push oL).size->Region.ready .any (pre.push oL) listed=[]->∀i,i<(pre.push oL).size->Done listed i:=by
  intro listed hs hnil i
  induction i using Nat.strongRecOn with
  | _ i ih2=>
    intro hi;unfold Done;cases hg:listed.getD i true with
    |true=>rfl
    | false=>
      exfalso;have ho:(pre.push oL)[i]?=some (pre.push oL)[i]:=Array.getElem?_eq_getElem hi;have:i∈Region.ready .any (pre.push oL) listed:=mem_ready.2 ⟨hg,_,ho,λe he hb=>by have hlt:=hback i _ ho e he hb;have:=ih2 e.on hlt (by omega);unfold Done at this;simp[Array.getElem?_eq_getElem (by omega:e.on<listed.size)]at this ⊢;exact this⟩
      rw[hnil]at this;cases this
 intro fuel
 induction fuel with
 | zero=>
   intro listed T H ρ w a hs hm hcnt hi;exact absurd (undone hm) (qOg _ (by omega) pre.size)
 | succ fuel ih2=>
   intro listed T H ρ w a hs hm hcnt hi;refine⟨λhnil=>?_,λj hj=>?_⟩
   ·have:=ready listed hs hnil pre.size (by omega)
    unfold Done at this;rw[hm]at this;cases this
   ·obtain⟨hjun,o,ho,hall⟩:=mem_ready.1 hj
    have hjlt:=(Array.getElem?_eq_some_iff.1 ho).1
    by_cases hjm:j=pre.size
    ·subst hjm
     rw[lastO]at ho;cases ho;have hcl:∀(j:Nat) (o:Oper),(pre.push oL)[j]?=some o->(j<pre.size/\Done listed j)->∀e∈o.after,Region.binds .any e=true->(e.on<pre.size/\Done listed e.on):=λj o ho hd e he hb=>hi.closed j o (by rw[qLE hd.1]at ho;exact ho) hd e he hb;have hdone:∀i,i<pre.size->Done listed i:=λi hi'=>
      (qKt hback (λi=>i<pre.size/\Done listed i) hcl pre.size oL mk i lastO hmk (hcov i hi') λe he hb=>⟨hback pre.size oL lastO e he hb,qIV (hall e he hb)⟩).2
     refine wpOpIn_mono (λa' w' hq=>?_) (fin listed T H ρ w a hdone hi);refine qV3 ?_ hq fuel;cases hrd:Region.ready .any (pre.push oL) (listed.setIfInBounds pre.size true)with
     |nil=>rfl
     | cons x xs=>
       exfalso;have hx:x∈Region.ready .any (pre.push oL) (listed.setIfInBounds pre.size true):=by rw[hrd];simp
       obtain⟨h1,o,ho,_⟩:=mem_ready.1 hx;have hxlt:=(Array.getElem?_eq_some_iff.1 ho).1;have:Done (listed.setIfInBounds pre.size true) x:=by
        rw[qNJ hm]
        by_cases e:x=pre.size
        ·exact .inl e
        ·exact .inr (hdone x (by omega))
       unfold Done at this;rw[h1]at this;cases this
    ·have hj':j<pre.size:=by omega
     rw[qLE hj']at ho;have hjx:¬(j<pre.size/\Done listed j):=by unfold Done;rw[hjun];simp
     refine qTY hg hj' ?_;refine qUo hc hr hname hfr hσ tr hi ho hjx (λe he hb=>⟨by have:=hback j o (by rw[qLE hj'];exact ho) e he hb;omega,qIV (hall e he hb)⟩) ?_;intro a' w' T' H' ρ' hi';refine ih2 _ T' H' ρ' w' a' (by simp[hs]) ?_ ?_ ?_
     ·have:Done (listed.setIfInBounds j true) pre.size↔(pre.size=j∨Done listed pre.size):=by rw[qNJ hjun]
      cases e:(listed.setIfInBounds j true).getD pre.size true with
      |false=>rfl
      | true=>
        exfalso;rcases this.1 e with q|q
        ·exact hjm q.symm
        ·unfold Done at q;rw[hm]at q;cases q
     ·have:=qPp _ _ (undone hjun)
      rw[Array.toList_setIfInBounds];omega
     ·have e:(λi=>i<pre.size/\Done (listed.setIfInBounds j true) i)=λi=>i=j∨(i<pre.size/\Done listed i):=by
       rw[qNJ hjun]
       funext i
       apply propext;constructor
       ·rintro ⟨h1,h2⟩
        rcases h2 with h2|h2
        ·exact .inl h2
        ·exact .inr ⟨h1,h2⟩
       ·rintro (h1|h1)
        ·exact⟨by omega,.inl h1⟩
        ·exact⟨h1.1,.inr h1.2⟩
      rw[e];exact hi'
theorem qPl(hm:P.follows .mixedOrders=true)(hc:qGX P ih)(hr:qD8 P ih)(hname:qEj P)(hfr:∀t,Fr (ih t))(hσ:One σ){id:Nat}{r:Option Nat}{Q:Exit->Act->World->Prop}{T T1:Tmps}{H K1:AH}{ρ:Ren}{w:World}{a:Act}
  (hok:qCQ (pre.push oL).toList=true) (hokp:qCQ pre.toList=true) (hg:qK7 pre.toList=true) (hcov:zAAk (pre.push oL).toList pre.size=true) (h:opsD P ih nt pre pre.toList (masks pre.toList []) [] T H=some (T1,K1)) (hT:TRel σ ρ nt T a.tmps) (hwr:WR σ ρ base H w) (hf:Free ρ H.next K1.next)
  (hQ:∀a' w' ρ',Post σ ρ ρ' base H K1 w w'->TRel σ ρ' nt T1 a'.tmps->a'.defers=a.defers->wpOpIn (FR r) 0 P (pre.push oL) Q pre.size (Q .normal) a' w'):(Code.region id (pre.push oL) true).wpIn (FR r) 0 P Q a w:=by
 have hsz:(pre.push oL).size=pre.size+1:=Array.size_push _;have hback:=(qIW hok).1;have hbackp:=(qIW hokp).1;obtain⟨Ts,Hs,vs,es,a1,a2,a3,a4,a5⟩:=trace hfr pre.toList _ [] 0 T H T1 K1 rfl h;simp only[zA,Array.length_toList]at a3 a4 a5;have a5':∀j o,pre[j]?=some o->_:=λj o ho=>a5 j o (by rw[Array.getElem?_toList];exact ho);have tr:Trace P ih nt pre Ts Hs vs es:=by
  refine⟨λj o ho=>(a5' j o ho).1,λj o ho e he hb=>?_,λi j p o hij hp ho=>?_⟩
  ·have:=qEp pre.toList 0 hbackp j o (by rw[Array.getElem?_toList];exact ho) e he hb
   omega
  ·obtain⟨_,mk,h1,_,h3⟩:=a5' j o ho
   exact⟨mk,h1,h3 i p hij (by rw[Array.getElem?_toList];exact hp)⟩
 subst a1 a2 a3 a4;have hb:∀(j:Nat) (o:Oper),(pre.push oL)[j]?=some o->∀e∈o.after,Region.binds .any e=true->e.on<j:=λj o ho e he hb=>by have:=qEp (pre.push oL).toList 0 hback j o (by rw[Array.getElem?_toList];exact ho) e he hb;omega
 obtain⟨mk,hmk⟩:∃mk,(masks (pre.push oL).toList [])[pre.size]?=some mk:=by
  have hl:(masks (pre.push oL).toList []).length=pre.size+1:=by obtain⟨L,h1,h2,_⟩:=qPN (pre.push oL).toList [];rw[h1,lAp,h2];simp
  exact⟨_,gE (by omega)⟩
 have hcov':∀i,i<pre.size->Nat.testBit mk i=true:=λi hi=>by have:=List.all_eq_true.1 hcov i (by simpa using hi);rw[List.getD_eq_getElem?_getD,hmk]at this;exact this
 refine wpIn_region_any hm (qZQ (base:=base) hc hr hname hfr hσ tr hg hb hmk hcov' (ρ0:=ρ) (w0:=w) (d0:=a) ?_ (pre.push oL).size _ (Ts 0) (Hs 0) ρ _ a (by simp) (by simp) (by simp[qKJ]) ?_)
 ·intro a' w' ρ' h1 h2 h3 h4 h5
  exact hQ a' w' ρ' ⟨h1,h2,h3⟩ h4 h5
 ·have hno:∀i,i<pre.size->¬(i<pre.size/\Done (Array.replicate (pre.push oL).size false) i):=by
   intro i hi hd;have:=hd.2;unfold Done at this;simp[show i<pre.size+1 by omega]at this
  have hle:∀i k,i<=k->k<=pre.size->(Hs i).next<=(Hs k).next:=λi k h1 h2=>by
   have:=tr.next_le (k-i) i (by omega)
   rwa [show i+(k-i)=k from by omega]at this
  refine⟨?_,?_,?_,rfl,?_,.refl _ _ _,?_,?_,hT,rfl⟩
  ·intro j o ho hj
   exact absurd hj (hno j (Array.getElem?_eq_some_iff.1 ho).1)
  ·intro i
   have:∀n,n<=pre.size->cut Hs es (λi=>i<pre.size/\Done (Array.replicate (pre.push oL).size false) i) n i=(Hs 0).blks.get i:=by
    intro n
    induction n with
    |zero=>intro _;rfl
    |succ n ih2=>intro hn;rw[qKN (λk=>absurd k (hno n (by omega))),ih2 (by omega)]
   rw[this _ (Nat.le_refl _)]
  ·intro t
   have:∀n,n<=pre.size->cutT pre Ts vs (λi=>i<pre.size/\Done (Array.replicate (pre.push oL).size false) i) n t=tget (Ts 0) t:=by
    intro n
    induction n with
    |zero=>intro _;rfl
    |succ n ih2=>intro hn;rw[qG2 (λk=>absurd k (hno n (by omega))),ih2 (by omega)]
   rw[this _ (Nat.le_refl _)]
  ·intro j hj _ i h1 h2
   exact hf i (Nat.le_trans (hle 0 j (by omega) (by omega)) h1) (Nat.lt_of_lt_of_le h2 (hle (j+1) pre.size (by omega) (by omega)))
  ·obtain⟨x1,x2,x3,x4⟩:=hwr
   exact⟨x1,x2,x3,x4⟩
  ·exact⟨rfl,rfl,rfl,Nat.le_refl _,λ_ _=>rfl⟩
end
end Go.AM
namespace Go.AM
open Go Go.RowKit
inductive PO where
 |done (o:Out)
 |pan (v:AV) (T:Tmps) (ms:List Mk)
inductive PTask where
 |code (nt:Nat) (c:Code) (T:Tmps) (ms:List Mk)
 |call (f:FuncId) (args:List AV)
section
variable (P : Program) (X : Td) (S : FuncId → Bool)
def setP(nt:Nat)(T:Tmps)(ms:List Mk)(dst:Option Tmp)(v:AV):M PO:=bd (lift (setT nt T dst v)) λT=>ret (.done (.exit .nrm T ms))
def qYu(nt:Nat)(T:Tmps)(ms:List Mk)(dst:Option Tmp):PO->M PO
 | .done (.val v)=>setP nt T ms dst v
 | .pan v _ _=>ret (.pan v T ms)
 |_=>fail
def isS(T:Tmps)(c:Call):Bool:=match c.callee with
 | .value f=>match ev T f with
   |some (.fn (.func k) _ _)=>S k
   |_=>false
 |_=>false
def qMu(ih:PTask->M PO)(nt:Nat)(T:Tmps)(ms:List Mk)(dst:Option Tmp)(nx:ANext):M PO:=match nx with
 | .enter f args=>bd (ih (.call f args)) (qYu nt T ms dst)
 |_=>fail
def qGl(old:Task->M Out)(nt:Nat)(all:List Oper)(o:Oper)(T:Tmps)(ms:List Mk):M PO:=bd (qHv P old nt all o T) λT=>ret (.done (.exit .nrm T ms))
def opP(old:Task->M Out)(ih:PTask->M PO)(nt:Nat)(all:List Oper)(o:Oper)(T:Tmps)(ms:List Mk):M PO:=match qCH all T o.guard with
 | some true=>match o.op with
   | .panic x=>match ev T x with
     |some (.ifc t v)=>ret (.pan (.ifc t v) T ms)
     |_=>fail
   | .call c=>cond (isS S T c) (bd (opA P T (.call c)) (qMu ih nt T ms o.dst)) (qGl P old nt all o T ms)
   |_=>qGl P old nt all o T ms
 |_=>qGl P old nt all o T ms
def opsP(old:Task->M Out)(ih:PTask->M PO)(nt:Nat)(all:List Oper)(ms:List Mk):List Oper->Tmps->M PO
 |[],T=>ret (.done (.exit .nrm T ms))
 | o::os,T=>bd (opP P S old ih nt all o T ms) λr=>match r with
   | .done (.exit .nrm T _)=>opsP old ih nt all ms os T
   |r=>ret r
def qRt(ops:List Oper):Bool:=match ops.getLast? with
 | some o=>match o.guard,o.op with
   | none,.call c=>(match c.callee with
     | .value (.func k)=>S k
     |_=>false)
   |_,_=>false
 |none=>false
def qPD(ops:Array Oper):Bool:=qCQ ops.toList&&(qCQ ops.pop.toList&&(qK7 ops.pop.toList&&zAAk ops.toList ops.pop.size))
def oldP(old:Task->M Out)(nt:Nat)(c:Code)(T:Tmps)(ms:List Mk):M PO:=bd (old (.code nt none c T ms)) λo=>ret (.done o)
def qKC(old:Task->M Out)(ih:PTask->M PO)(nt:Nat)(c:Code)(T:Tmps)(ms:List Mk):M PO:=match c with
 | .region id ops draw=>cond (draw&&qRt S ops.toList)
   (cond (qPD ops) (bd (opsD P old nt ops.pop ops.pop.toList (masks ops.pop.toList []) [] T) λT=>opsP P S old ih nt ops.toList ms (ops.toList.drop ops.pop.size) T) fail)
   (cond (draw||(qBc ops.toList).isSome) (oldP old nt (.region id ops draw) T ms) (opsP P S old ih nt ops.toList ms ops.toList T))
 | .seq a b=>bd (ih (.code nt a T ms)) λr=>match r with
   | .done (.exit .nrm T ms)=>ih (.code nt b T ms)
   |r=>ret r
 | .cond x a b=>match ev T x with
   |some (.bool t)=>ih (.code nt (cond t a b) T ms)
   |_=>fail
 | .block id b=>bd (ih (.code nt b T ms)) λr=>match r with
   | .done (.exit (.exit id') T ms)=>cond (Nat.beq id' id) (ret (.done (.exit .nrm T ms))) (ret (.done (.exit (.exit id') T ms)))
   |r=>ret r
 | .loop b=>match qCI b with
   |some _=>oldP old nt (.loop b) T ms
   | none=>bd (ih (.code nt b T ms)) λr=>match r with
     | .done (.exit .nrm T ms)=>ih (.code nt (.loop b) T ms)
     |r=>ret r
 |c=>oldP old nt c T ms
def qNf(fn:Func)(T:Tmps)(v:AV)(c:Code):Option (Code×Tmps):=match qHV c with
 |some (t,rest)=>cond (Nat.blt t fn.ntmps) (some (rest,T.put t (some v))) none
 |none=>none
def qI7(old:Task->M Out)(k:FuncId)(args:List AV)(v:AV):M Unit:=match P.funcs[k]? with
 | some fn=>match fn.body,fn.results.toList with
   | some c,[]=>cond (Nat.ble args.length fn.ntmps) (match qNf fn (Tr.ofListAt .nil 0 args) v c with
     |some p=>bd (old (.code fn.ntmps none p.1 p.2 [])) qLK
     |none=>fail) fail
   |_,_=>fail
 |none=>fail
def endP(old:Task->M Out)(rs:List ResultVar):PO->M PO
 | .done (.exit e T ms)=>match e with
   | .exit _=>fail
   |_=>bd (qAz P old ms) λ_=>bd (qBN P T rs) λvs=>ret (.done (.val (oneV vs)))
 | .pan v T ms=>match ms with
   |[]=>ret (.pan v .nil [])
   |[.call k as]=>bd (qI7 P old k as v) λ_=>bd (qBN P T rs) λvs=>ret (.done (.val (oneV vs)))
   |_=>fail
 |_=>fail
def fnP(old:Task->M Out)(ih:PTask->M PO)(f:FuncId)(args:List AV):M PO:=match P.funcs[f]? with
 | some fn=>match fn.body with
   |some c=>cond (Nat.ble args.length fn.ntmps) (bd (ih (.code fn.ntmps c (Tr.ofListAt .nil 0 args) [])) (endP P old fn.results.toList)) fail
   |none=>fail
 |none=>fail
def runP:Nat->PTask->M PO
 | 0,_=>fail
 |n+1,.code nt c T ms=>qKC P S (run P X n) (runP n) nt c T ms
 |n+1,.call f args=>fnP P (run P X n) (runP n) f args
end
section
variable {P:Program} {X:Td} {S:FuncId→Bool} {old old':Task→M Out} {ih ih':PTask→M PO}
theorem zAB5(nt:Nat)(T:Tmps)(ms:List Mk)(dst:Option Tmp)(v:AV):Fr (setP nt T ms dst v):=qBL (qH7 _) λ_=>qAq _
theorem zAAP(nt:Nat)(T:Tmps)(ms:List Mk)(dst:Option Tmp)(r:PO):Fr (qYu nt T ms dst r):=by
 unfold qYu;split
 ·exact zAB5 _ _ _ _ _
 ·exact qAq _
 ·exact qAg
theorem qUu(hi:∀t,Fr (ih t))(nt:Nat)(T:Tmps)(ms:List Mk)(dst:Option Tmp)(nx:ANext):Fr (qMu ih nt T ms dst nx):=by
 unfold qMu;split
 ·exact qBL (hi _) λ_=>zAAP _ _ _ _ _
 ·exact qAg
theorem qOC(ho:∀t,Fr (old t))(nt:Nat)(all:List Oper)(o:Oper)(T:Tmps)(ms:List Mk):Fr (qGl P old nt all o T ms):=qBL (qK8 P ho _ _ _ _) λ_=>qAq _
theorem zAAp(ho:∀t,Fr (old t))(hi:∀t,Fr (ih t))(nt:Nat)(all:List Oper)(o:Oper)(T:Tmps)(ms:List Mk):Fr (opP P S old ih nt all o T ms):=by
 unfold opP;split
 ·split
  ·split
   ·exact qAq _
   ·exact qAg
  ·exact qBO _ (qBL (qTz P _ _) λ_=>qUu hi _ _ _ _ _) (qOC ho _ _ _ _ _)
  ·exact qOC ho _ _ _ _ _
 ·exact qOC ho _ _ _ _ _
theorem qNQ(ho:∀t,Fr (old t))(hi:∀t,Fr (ih t))(nt:Nat)(all:List Oper)(ms:List Mk):∀(os:List Oper) (T:Tmps),Fr (opsP P S old ih nt all ms os T)
 |[],_=>qAq _
 | o::os,T=>qBL (zAAp ho hi _ _ _ _ _) λr=>by
   split
   ·exact qNQ ho hi nt all ms os _
   ·exact qAq _
theorem qTc(ho:∀t,Fr (old t))(nt:Nat)(c:Code)(T:Tmps)(ms:List Mk):Fr (oldP old nt c T ms):=qBL (ho _) λ_=>qAq _
theorem qZa(ho:∀t,Fr (old t))(hi:∀t,Fr (ih t))(nt:Nat)(c:Code)(T:Tmps)(ms:List Mk):Fr (qKC P S old ih nt c T ms):=by
 unfold qKC;split
 ·exact qBO _ (qBO _ (qBL (qNj P ho _ _ _ _ _ _) λ_=>qNQ ho hi _ _ _ _ _) qAg) (qBO _ (qTc ho _ _ _ _) (qNQ ho hi _ _ _ _ _))
 ·exact qBL (hi _) λr=>by split;exact hi _;exact qAq _
 ·split;exact hi _;exact qAg
 ·exact qBL (hi _) λr=>by split;exact qBO _ (qAq _) (qAq _);exact qAq _
 ·split
  ·exact qTc ho _ _ _ _
  ·exact qBL (hi _) λr=>by split;exact hi _;exact qAq _
 ·exact qTc ho _ _ _ _
theorem qRd(ho:∀t,Fr (old t))(k:FuncId)(args:List AV)(v:AV):Fr (qI7 P old k args v):=by
 unfold qI7
 repeat' first|exact qAg|(refine qBO _ ?_ ?_)|(refine qBL (ho _) λ_=>?_)|split
 unfold qLK
 repeat' first|exact qAg|exact qAq _|split
theorem zACU(ho:∀t,Fr (old t))(rs:List ResultVar)(r:PO):Fr (endP P old rs r):=by
 unfold endP;split
 ·split
  ·exact qAg
  ·exact qBL (qCO P ho _) λ_=>qBL (qCe P _ _) λ_=>qAq _
 ·split
  ·exact qAq _
  ·exact qBL (qRd ho _ _ _) λ_=>qBL (qCe P _ _) λ_=>qAq _
  ·exact qAg
 ·exact qAg
theorem zACw(ho:∀t,Fr (old t))(hi:∀t,Fr (ih t))(f:FuncId)(args:List AV):Fr (fnP P old ih f args):=by
 unfold fnP;split
 ·split
  ·exact qBO _ (qBL (hi _) λ_=>zACU ho _ _) qAg
  ·exact qAg
 ·exact qAg
theorem qPn(hX:FrX X):∀(n:Nat) (t:PTask),Fr (runP P X S n t)
 | 0,_=>qAg
 |n+1,.code nt c T ms=>qZa (qF6 P hX n) (qPn hX n) nt c T ms
 |n+1,.call f args=>zACw (qF6 P hX n) (qPn hX n) f args
theorem qUx(hi:∀t,LeM (ih t) (ih' t))(nt:Nat)(T:Tmps)(ms:List Mk)(dst:Option Tmp)(nx:ANext):LeM (qMu ih nt T ms dst nx) (qMu ih' nt T ms dst nx):=by
 unfold qMu;split
 ·exact LeM.bd (hi _) λ_=>LeM.refl _
 ·exact LeM.refl _
theorem qOn(ho:∀t,LeM (old t) (old' t))(nt:Nat)(all:List Oper)(o:Oper)(T:Tmps)(ms:List Mk):LeM (qGl P old nt all o T ms) (qGl P old' nt all o T ms):=LeM.bd (qJz ho _ _ _ _) λ_=>LeM.refl _
theorem zAA1(ho:∀t,LeM (old t) (old' t))(hi:∀t,LeM (ih t) (ih' t))(nt:Nat)(all:List Oper)(o:Oper)(T:Tmps)(ms:List Mk):LeM (opP P S old ih nt all o T ms) (opP P S old' ih' nt all o T ms):=by
 unfold opP;split
 ·split
  ·exact LeM.refl _
  ·exact LeM.cond (LeM.bd (LeM.refl _) λ_=>qUx hi _ _ _ _ _) (qOn ho _ _ _ _ _)
  ·exact qOn ho _ _ _ _ _
 ·exact qOn ho _ _ _ _ _
theorem qOX(ho:∀t,LeM (old t) (old' t))(hi:∀t,LeM (ih t) (ih' t))(nt:Nat)(all:List Oper)(ms:List Mk):∀(os:List Oper) (T:Tmps),LeM (opsP P S old ih nt all ms os T) (opsP P S old' ih' nt all ms os T)
 |[],_=>LeM.refl _
 | o::os,T=>LeM.bd (zAA1 ho hi _ _ _ _ _) λr=>by
   split
   ·exact qOX ho hi nt all ms os _
   ·exact LeM.refl _
theorem qSo(ho:∀t,LeM (old t) (old' t))(nt:Nat)(c:Code)(T:Tmps)(ms:List Mk):LeM (oldP old nt c T ms) (oldP old' nt c T ms):=LeM.bd (ho _) λ_=>LeM.refl _
theorem zAAJ(ho:∀t,LeM (old t) (old' t))(hi:∀t,LeM (ih t) (ih' t))(nt:Nat)(c:Code)(T:Tmps)(ms:List Mk):LeM (qKC P S old ih nt c T ms) (qKC P S old' ih' nt c T ms):=by
 unfold qKC;split
 ·exact LeM.cond (LeM.cond (LeM.bd (qQT ho _ _ _ _ _ _) λ_=>qOX ho hi _ _ _ _ _) (LeM.refl _)) (LeM.cond (qSo ho _ _ _ _) (qOX ho hi _ _ _ _ _))
 ·exact LeM.bd (hi _) λr=>by split;exact hi _;exact LeM.refl _
 ·split;exact hi _;exact LeM.refl _
 ·exact LeM.bd (hi _) λr=>LeM.refl _
 ·split
  ·exact qSo ho _ _ _ _
  ·exact LeM.bd (hi _) λr=>by split;exact hi _;exact LeM.refl _
 ·exact qSo ho _ _ _ _
theorem qRQ(ho:∀t,LeM (old t) (old' t))(k:FuncId)(args:List AV)(v:AV):LeM (qI7 P old k args v) (qI7 P old' k args v):=by
 unfold qI7
 repeat' first|exact LeM.refl _|(refine LeM.cond ?_ ?_)|(refine LeM.bd (ho _) λ_=>?_)|split
theorem qSl(ho:∀t,LeM (old t) (old' t))(rs:List ResultVar)(r:PO):LeM (endP P old rs r) (endP P old' rs r):=by
 unfold endP;split
 ·split
  ·exact LeM.refl _
  ·exact LeM.bd (qCn ho _) λ_=>LeM.refl _
 ·split
  ·exact LeM.refl _
  ·exact LeM.bd (qRQ ho _ _ _) λ_=>LeM.refl _
  ·exact LeM.refl _
 ·exact LeM.refl _
theorem zADf(ho:∀t,LeM (old t) (old' t))(hi:∀t,LeM (ih t) (ih' t))(f:FuncId)(args:List AV):LeM (fnP P old ih f args) (fnP P old' ih' f args):=by
 unfold fnP;split
 ·split
  ·exact LeM.cond (LeM.bd (hi _) λ_=>qSl ho _ _) (LeM.refl _)
  ·exact LeM.refl _
 ·exact LeM.refl _
theorem qG6:∀(n:Nat) (t:PTask),LeM (runP P X S n t) (runP P X S (n+1) t)
 | 0,_=>λ_ _ h=>by cases h
 |n+1,.code nt c T ms=>zAAJ (qDF n) (qG6 n) nt c T ms
 |n+1,.call f args=>zADf (qDF n) (qG6 n) f args
theorem qDc(t:PTask):Mono λn=>runP P X S n t:=qCC λn=>qG6 n t
end
end Go.AM
namespace Go.AM
open Go Go.RowKit
section
variable {P:Program} {σ:Nat→Value} {ρ:Ren} {base nt:Nat} {H H':AH} {w:World} {T:Tmps} {a:Act} {old:Task→M Out} {ih:PTask→M PO} {S:FuncId→Bool}
def qKo(v:Value):List PanicEntry:=[{ v,recovered:=false }]
def zACT(P:Program)(n nt:Nat)(c:Code)(T:Tmps)(ms:List Mk)(H:AH)(r:PO)(H':AH):Prop:=
 (∃e T' ms',r=.done (.exit e T' ms')/\∀(σ:Nat->Value) (ρ:Ren) (base:Nat) (w:World) (a:Act) (Q:Exit->Act->World->Prop),One σ->WR σ ρ base H w->Free ρ H.next H'.next->TRel σ ρ nt T a.tmps->DRel σ ρ ms a.defers->
  (∀a' w' ρ',CodePost σ ρ base nt H H' w T' ms' ρ' a' w'->Q (qZk e) a' w')->ACode none n P c Q a w)∨
 ∃v T' ms',r=.pan v T' ms'/\∀(σ:Nat->Value) (ρ:Ren) (base:Nat) (w:World) (a:Act) (Q:Exit->Act->World->Prop),One σ->WR σ ρ base H w->Free ρ H.next H'.next->TRel σ ρ nt T a.tmps->DRel σ ρ ms a.defers->
  (∀a' w' ρ' v',CodePost σ ρ base nt H H' w T' ms' ρ' a' w'->Rel σ ρ' v v'->Q (.panic (qKo v')) a' w')->ACode none n P c Q a w
def qTb(σ:Nat->Value)(ρ:Ren)(base:Nat)(H H':AH)(w:World)(v:AV):Ending->World->Prop:=
 λe w'=>∃v' ρ',e=.panicked (qKo v')/\Post σ ρ ρ' base H H' w w'/\Rel σ ρ' v v'
def FnP(P:Program)(f:FuncId)(args:List AV)(H:AH)(r:PO)(H':AH):Prop:=
 (∃v,r=.done (.val v)/\∀(σ:Nat->Value) (ρ:Ren) (base:Nat) (w:World) (args':Array Value),One σ->WR σ ρ base H w->Free ρ H.next H'.next->RelL σ ρ args args'.toList->CallsIn Fence.wide 0 P f args' w (qCk σ ρ base H H' w v))∨
 ∃v,r=.pan v .nil []/\∀(σ:Nat->Value) (ρ:Ren) (base:Nat) (w:World) (args':Array Value),One σ->WR σ ρ base H w->Free ρ H.next H'.next->RelL σ ρ args args'.toList->CallsIn Fence.wide 0 P f args' w (qTb σ ρ base H H' w v)
def OKP(P:Program)(n:Nat)(ih:PTask->M PO):Prop:=(∀(nt:Nat) (c:Code) (T:Tmps) (ms:List Mk) (H:AH) (r:PO) (H':AH),ih (.code nt c T ms) H=some (r,H')->zACT P n nt c T ms H r H')/\
 ∀(f:FuncId) (args:List AV) (H:AH) (r:PO) (H':AH),ih (.call f args) H=some (r,H')->FnP P f args H r H'
theorem qJ2(hfr:∀t,Fr (ih t)){t:PTask}{r:PO}(h:ih t H=some (r,H')):H.next<=H'.next:=by obtain⟨es,d,_⟩:=hfr t H r H' h;exact d.next
def OpsP(P:Program)(nt:Nat)(ops:Array Oper)(l:List Nat)(T:Tmps)(ms:List Mk)(H:AH)(r:PO)(H':AH):Prop:=
 (∃T',r=.done (.exit .nrm T' ms)/\∀(σ:Nat->Value) (ρ:Ren) (base:Nat) (w:World) (a:Act) (Q:Exit->Act->World->Prop) (rest:List Nat),One σ->WR σ ρ base H w->Free ρ H.next H'.next->TRel σ ρ nt T a.tmps->
  (∀a' w' ρ',Post σ ρ ρ' base H H' w w'->TRel σ ρ' nt T' a'.tmps->a'.defers=a.defers->wpOpsIn (FR none) 0 P ops Q rest a' w')->wpOpsIn (FR none) 0 P ops Q (l++rest) a w)∨
 ∃v T',r=.pan v T' ms/\∀(σ:Nat->Value) (ρ:Ren) (base:Nat) (w:World) (a:Act) (Q:Exit->Act->World->Prop) (rest:List Nat),One σ->WR σ ρ base H w->Free ρ H.next H'.next->TRel σ ρ nt T a.tmps->
  (∀a' w' ρ' v',Post σ ρ ρ' base H H' w w'->TRel σ ρ' nt T' a'.tmps->a'.defers=a.defers->Rel σ ρ' v v'->Q (.panic (qKo v')) a' w')->wpOpsIn (FR none) 0 P ops Q (l++rest) a w
theorem qNH(hc:qGX P old)(hr:qD8 P old)(hname:qEj P)(hfr:∀t,Fr (old t)){ops:Array Oper}{k:Nat}{o:Oper}{ms:List Mk}{r:PO}(ho:ops[k]?=some o)(h:qGl P old nt ops.toList o T ms H=some (r,H')):OpsP P nt ops [k] T ms H r H':=by obtain⟨T1,K,h1,h2⟩:=qAQ h;cases qAM h2;obtain⟨v,h3,h4⟩:=qLn h1;refine .inl ⟨T1,rfl,λσ ρ base w a Q rest hσ hwr hf hT hQ=>?_⟩;simp only[List.cons_append,List.nil_append,wpOpsIn,ho];refine qP8 hc hr hname h3 hfr hT hσ hwr hf λv' w1 ρ1 hp hv=>?_;exact hQ _ w1 ρ1 hp (qKs h4 (hT.mono hp.ext.le) hv) (qEa _ _ _)
theorem zAC6(hc:qGX P old)(hr:qD8 P old)(hname:qEj P)(hfr:∀t,Fr (old t)){n:Nat}(hi:OKP P n ih)(hfi:∀t,Fr (ih t)){ops:Array Oper}{k:Nat}{o:Oper}{ms:List Mk}{r:PO}(ho:ops[k]?=some o)(h:opP P S old ih nt ops.toList o T ms H=some (r,H')):OpsP P nt ops [k] T ms H r H':=by
 unfold opP at h;cases hw:qCH ops.toList T o.guard with
 |none=>simp only[hw]at h;exact qNH hc hr hname hfr ho h
 |some wb=>
 cases wb with
 |false=>simp only[hw]at h;exact qNH hc hr hname hfr ho h
 |true=>
 simp only[hw]at h;cases hop:o.op with
 | panic x=>
   simp only[hop]at h;generalize hx:ev T x=y at h;have bad:(fail:M PO) H=some (r,H')->False:=λh=>qAF h;cases y with
   |none=>exact(bad h).elim
   |some y=>
   cases y<;>try exact(bad h).elim
   case ifc t v=>
   cases qAM h;refine .inr ⟨_,T,rfl,λσ ρ base w a Q rest hσ hwr hf hT hQ=>?_⟩;simp only[List.cons_append,List.nil_append,wpOpsIn,ho];rw[if_pos (qJy hw hT)];refine⟨qD4,?_⟩;have hv:=qAy (a:=a) hx hT;have hv':=hv;unfold Rel at hv';obtain⟨y,hy,_⟩:=hv';have e1:((o.semAt (FR none).round a.eval).run P w)=.halt (.panic (a.eval x)) w:=by show((o.semAt none a.eval).run P w)=_;rw[Oper.semAt_none];simp only[execOp,hop];rw[hy];rfl
   rw[e1,Oper.uponIn_panic];exact hQ a w ρ _ ⟨.refl _ _ _,hwr,.refl _ _⟩ hT rfl hv
 | call c=>
   simp only[hop]at h;cases hS:isS S T c with
   |false=>rw[hS,cond_false]at h;exact qNH hc hr hname hfr ho h
   |true=>
   rw[hS,cond_true]at h;obtain⟨nx,K,h1,h2⟩:=qAQ h;have m1:H.next<=K.next:=by obtain⟨es,d,_⟩:=qTz P T (.call c) H nx K h1;exact d.next
   have m2:K.next<=H'.next:=by obtain⟨es,d,_⟩:=qUu hfi nt T ms o.dst nx K r H' h2;exact d.next
   unfold qMu at h2;cases nx with
   |val u=>exact(qAF h2).elim
   |round l args=>exact(qAF h2).elim
   |enter f args=>
   simp only at h2;obtain⟨q,K2,h3,h4⟩:=qAQ h2;have m3:K.next<=K2.next:=qJ2 hfi h3;have step:∀(σ:Nat->Value) (ρ:Ren) (base:Nat) (w:World) (a:Act),One σ->WR σ ρ base H w->Free ρ H.next K2.next->TRel σ ρ nt T a.tmps->
     ∃w1 ρ1 args',Post σ ρ ρ1 base H K w w1/\RelL σ ρ1 args args'.toList/\((o.semAt (FR none).round a.eval).run P w)=.ok (.enter f args') w1:=by
    intro σ ρ base w a hσ hwr hf hT;obtain⟨nx',w1,ρ1,e1,x1,x2,x3,x4⟩:=zAD2 (P:=P) (a:=a) (o:=o) hname (by rw[hop];exact h1) hT hσ hwr (hf.left m3);obtain⟨args',rfl,hargs⟩:=x4;refine⟨w1,ρ1,args',⟨x1,x2,x3⟩,hargs,?_⟩;show((o.semAt none a.eval).run P w)=_;rw[Oper.semAt_none];exact e1
   rcases hi.2 f args K q K2 h3 with⟨v,rfl,hv⟩|⟨v,rfl,hv⟩
   ·obtain⟨T1,K3,h5,h6⟩:=qAQ h4
    obtain⟨T2,h7,e⟩:=qCW h5;cases e;cases qAM h6;refine .inl ⟨T1,rfl,λσ ρ base w a Q rest hσ hwr hf hT hQ=>?_⟩;simp only[List.cons_append,List.nil_append,wpOpsIn,ho];rw[if_pos (qJy hw hT)];obtain⟨w1,ρ1,args',p1,hargs,e1⟩:=step σ ρ base w a hσ hwr hf hT;refine⟨qD4,?_⟩;rw[e1,Oper.uponIn_enter];refine⟨λh=>by simp[FR,Fence.wide]at h,?_⟩;have h8:CallsIn (FR none) 0 P f args' w1 (qCk σ ρ1 base K H' w1 v):=hv σ ρ1 base w1 args' hσ p1.wr (p1.ext.free hf m1) hargs;refine h8.mono ?_;rintro e w2 ⟨v',ρ',rfl,hp,hv'⟩;have pall:=p1.trans hp m1 m3;exact hQ _ w2 ρ' pall (qKs h7 (hT.mono pall.ext.le) hv') (qEa _ _ _)
   ·cases qAM h4
    refine .inr ⟨v,T,rfl,λσ ρ base w a Q rest hσ hwr hf hT hQ=>?_⟩;simp only[List.cons_append,List.nil_append,wpOpsIn,ho];rw[if_pos (qJy hw hT)];obtain⟨w1,ρ1,args',p1,hargs,e1⟩:=step σ ρ base w a hσ hwr hf hT;refine⟨qD4,?_⟩;rw[e1,Oper.uponIn_enter];refine⟨λh=>by simp[FR,Fence.wide]at h,?_⟩;have h8:CallsIn (FR none) 0 P f args' w1 (qTb σ ρ1 base K H' w1 v):=hv σ ρ1 base w1 args' hσ p1.wr (p1.ext.free hf m1) hargs;refine h8.mono ?_;rintro e w2 ⟨v',ρ',rfl,hp,hv'⟩;have pall:=p1.trans hp m1 m3;exact hQ a w2 ρ' v' pall (hT.mono pall.ext.le) rfl hv'
 | _=>
   simp only[hop]at h;exact qNH hc hr hname hfr ho h
theorem qSr(hc:qGX P old)(hr:qD8 P old)(hname:qEj P)(hfr:∀t,Fr (old t)){n:Nat}(hi:OKP P n ih)(hfi:∀t,Fr (ih t)){ops:Array Oper}{ms:List Mk}:∀(os:List Oper) (k:Nat) (T:Tmps) (H:AH) (r:PO) (H':AH),(∀j,j<os.length->os[j]?=ops[k+j]?)->opsP P S old ih nt ops.toList ms os T H=some (r,H')->OpsP P nt ops (List.range' k os.length) T ms H r H'
 | [],k,T,H,r,H',_,h=>by
   cases qAM h;exact .inl ⟨T,rfl,λσ ρ base w a Q rest hσ hwr hf hT hQ=>hQ a w ρ ⟨.refl _ _ _,hwr,.refl _ _⟩ hT rfl⟩
 | o::os,k,T,H,r,H',hk,h=>by
   obtain⟨q,K,h1,h2⟩:=qAQ h;have h0:ops[k]?=some o:=by have:=hk 0 (by simp);simpa using this.symm
   have m1:H.next<=K.next:=by obtain⟨es,d,_⟩:=zAAp (P:=P) (S:=S) hfr hfi nt ops.toList o T ms H q K h1;exact d.next
   have er:List.range' k (o::os).length=k::List.range' (k+1) os.length:=by rw[List.length_cons,List.range'_succ]
   rw[er];rcases zAC6 hc hr hname hfr hi hfi h0 h1 with⟨T1,rfl,k1⟩|⟨v,T1,rfl,k1⟩
   ·have m2:K.next<=H'.next:=by obtain⟨es,d,_⟩:=qNQ (P:=P) (S:=S) hfr hfi nt ops.toList ms os T1 K r H' h2;exact d.next
    rcases qSr hc hr hname hfr hi hfi os (k+1) T1 K r H' (λj hj=>by have:=hk (j+1) (by simpa using hj);rw[show k+1+j=k+(j+1)from by omega];simpa using this) h2 with⟨T2,rfl,k2⟩|⟨v,T2,rfl,k2⟩
    ·refine .inl ⟨T2,rfl,λσ ρ base w a Q rest hσ hwr hf hT hQ=>?_⟩
     refine k1 σ ρ base w a Q (List.range' (k+1) os.length++rest) hσ hwr (hf.left m2) hT λa1 w1 ρ1 p1 t1 d1=>?_;refine k2 σ ρ1 base w1 a1 Q rest hσ p1.wr (p1.ext.free hf m1) t1 λa2 w2 ρ2 p2 t2 d2=>?_;exact hQ a2 w2 ρ2 (p1.trans p2 m1 m2) t2 (d2.trans d1)
    ·refine .inr ⟨v,T2,rfl,λσ ρ base w a Q rest hσ hwr hf hT hQ=>?_⟩
     refine k1 σ ρ base w a Q (List.range' (k+1) os.length++rest) hσ hwr (hf.left m2) hT λa1 w1 ρ1 p1 t1 d1=>?_;refine k2 σ ρ1 base w1 a1 Q rest hσ p1.wr (p1.ext.free hf m1) t1 λa2 w2 ρ2 v' p2 t2 d2 hv=>?_;exact hQ a2 w2 ρ2 v' (p1.trans p2 m1 m2) t2 (d2.trans d1) hv
   ·cases qAM h2
    refine .inr ⟨v,T1,rfl,λσ ρ base w a Q rest hσ hwr hf hT hQ=>?_⟩;exact k1 σ ρ base w a Q (List.range' (k+1) os.length++rest) hσ hwr hf hT hQ
end
end Go.AM
namespace Go.AM
open Go Go.RowKit
section
variable {P:Program} {σ:Nat→Value} {ρ:Ren} {base nt:Nat} {H H':AH} {w:World} {T:Tmps} {a:Act} {old:Task→M Out} {ih:PTask→M PO} {S:FuncId→Bool} {n:Nat}
theorem qYz{r:Option Nat}{c:Code}{Q:Exit->Act->World->Prop}(h:ACode r n P c Q a w)(hm:∀b,c=.loop b->(qCI b).isSome=true):ACode r (n+1) P c Q a w:=by
 cases c<;>try exact h
 case loop b=>
 have:=hm b rfl;unfold ACode at h ⊢;simp only at h ⊢;cases e:qCI b with
 |none=>rw[e]at this;cases this
 |some s=>rw[e]at h;exact h
theorem qTP(hco:qF4 P n old){c:Code}(hm:∀b,c=.loop b->(qCI b).isSome=true){ms:List Mk}{r:PO}(h:oldP old nt c T ms H=some (r,H')):zACT P (n+1) nt c T ms H r H':=by obtain⟨o,K,h1,h2⟩:=qAQ h;cases qAM h2;obtain⟨e,T',ms',rfl,k⟩:=hco _ _ _ _ _ _ _ _ h1;exact .inl ⟨e,T',ms',rfl,λσ ρ base w a Q hσ hwr hf hT hd hQ=>qYz (k σ ρ base w a none Q hσ hwr hf hT rfl hd hQ) hm⟩
theorem qYF{ops:Array Oper}(h:qRt S ops.toList=true):∃oL,ops=ops.pop.push oL/\ops.toList.drop ops.pop.size=[oL]:=by
 unfold qRt at h;cases e:ops.toList.getLast? with
 |none=>rw[e]at h;cases h
 | some oL=>
   have h1:ops.toList=ops.toList.dropLast ++ [oL]:=by
    have hne:ops.toList≠[]:=λq=>by rw[q]at e;cases e
    rw[List.getLast?_eq_some_getLast hne]at e;have:=(List.dropLast_concat_getLast hne).symm;rw[Option.some.inj e]at this;exact this
   refine⟨oL,?_,?_⟩
   ·apply Array.toList_inj.1
    rw[Array.toList_push,Array.toList_pop];exact h1
   ·have h2:ops.pop.size=ops.toList.dropLast.length:=by simp
    rw[h2]
    conv=>lhs;rw[h1]
    simp
theorem zAAV(hmo:P.follows .mixedOrders=true)(hco:qF4 P n old)(hc:qGX P old)(hr:qD8 P old)(hname:qEj P)(hfr:∀t,Fr (old t))(hi:OKP P n ih)(hfi:∀t,Fr (ih t)){c:Code}{ms:List Mk}{r:PO}(h:qKC P S old ih nt c T ms H=some (r,H')):zACT P (n+1) nt c T ms H r H':=by
 cases c with
 | region id ops draw=>
   have e0:qKC P S old ih nt (.region id ops draw) T ms=cond (draw&&qRt S ops.toList)
    (cond (qPD ops) (bd (opsD P old nt ops.pop ops.pop.toList (masks ops.pop.toList []) [] T) λT=>opsP P S old ih nt ops.toList ms (ops.toList.drop ops.pop.size) T) fail)
    (cond (draw||(qBc ops.toList).isSome) (oldP old nt (.region id ops draw) T ms) (opsP P S old ih nt ops.toList ms ops.toList T)):=rfl
   rw[e0]at h;cases hdl:(draw&&qRt S ops.toList)with
   | true=>
     rw[hdl,cond_true]at h;obtain⟨hd1,hl⟩:=Bool.and_eq_true_iff.1 hdl;subst hd1;obtain⟨hok,h⟩:=qAn h;obtain⟨T1,K,h1,h2⟩:=qAQ h;obtain⟨oL,hpush,hdrop⟩:=qYF hl;unfold qPD at hok;simp only[Bool.and_eq_true]at hok;obtain⟨k1,k2,k3,k4⟩:=hok;rw[hdrop]at h2;have m1:H.next<=K.next:=by obtain⟨es,d,_⟩:=qNj P hfr nt ops.pop ops.pop.toList (masks ops.pop.toList []) [] T H T1 K h1;exact d.next
     have m2:K.next<=H'.next:=by obtain⟨es,d,_⟩:=qNQ (P:=P) (S:=S) hfr hfi nt ops.toList ms [oL] T1 K r H' h2;exact d.next
     have hget:ops[ops.pop.size]?=some oL:=by
      have q:(ops.pop.push oL)[ops.pop.size]?=some oL:=by rw[Array.getElem?_push,if_pos rfl]
      rwa [<- hpush]at q
     have hk:∀j,j < [oL].length->[oL][j]?=ops[ops.pop.size+j]?:=λj hj=>by
      have:j=0:=by simpa using hj
      subst this;simpa using hget.symm
     have er:List.range' ops.pop.size [oL].length ++ []=[ops.pop.size]:=rfl;have hop:∀{Q:Exit->Act->World->Prop}{a:Act}{w:World},wpOpsIn (FR none) 0 P ops Q (List.range' ops.pop.size [oL].length ++ []) a w->wpOpIn (FR none) 0 P (ops.pop.push oL) Q ops.pop.size (Q .normal) a w:=fun {Q a w} hq=>by rw[er,wpOpsIn_cons]at hq;rw[<- hpush];exact hq
     rcases qSr hc hr hname hfr hi hfi [oL] ops.pop.size T1 K r H' hk h2 with⟨T2,rfl,q⟩|⟨v,T2,rfl,q⟩
     ·refine .inl ⟨.nrm,T2,ms,rfl,λσ ρ base w a Q hσ hwr hf hT hd hQ=>?_⟩
      show(Code.region id ops true).wpIn (FR none) 0 P Q a w;rw[hpush];refine qPl (base:=base) hmo hc hr hname hfr hσ (by rw[<- hpush];exact k1) k2 k3 (by rw[<- hpush];exact k4) h1 hT hwr (hf.left m2) λa1 w1 ρ1 p1 t1 d1=>hop ?_;refine q σ ρ1 base w1 a1 Q [] hσ p1.wr (p1.ext.free hf m1) t1 λa2 w2 ρ2 p2 t2 d2=>?_;have pall:=p1.trans p2 m1 m2;exact hQ a2 w2 ρ2 ⟨pall,t2,by rw[d2,d1];exact hd.mono pall.ext.le⟩
     ·refine .inr ⟨v,T2,ms,rfl,λσ ρ base w a Q hσ hwr hf hT hd hQ=>?_⟩
      show(Code.region id ops true).wpIn (FR none) 0 P Q a w;rw[hpush];refine qPl (base:=base) hmo hc hr hname hfr hσ (by rw[<- hpush];exact k1) k2 k3 (by rw[<- hpush];exact k4) h1 hT hwr (hf.left m2) λa1 w1 ρ1 p1 t1 d1=>hop ?_;refine q σ ρ1 base w1 a1 Q [] hσ p1.wr (p1.ext.free hf m1) t1 λa2 w2 ρ2 v' p2 t2 d2 hv=>?_;have pall:=p1.trans p2 m1 m2;exact hQ a2 w2 ρ2 v' ⟨pall,t2,by rw[d2,d1];exact hd.mono pall.ext.le⟩ hv
   |false=>
   rw[hdl,cond_false]at h;cases hd:(draw||(qBc ops.toList).isSome)with
   |true=>rw[hd,cond_true]at h;exact qTP hco (λ_ e=>by cases e) h
   | false=>
     rw[hd,cond_false]at h;obtain⟨hd1,_⟩:=Bool.or_eq_false_iff.1 hd;subst hd1;have hk:∀j,j<ops.toList.length->ops.toList[j]?=ops[0+j]?:=λj _=>by simp
     have er:List.range ops.size=List.range' 0 ops.toList.length ++ []:=by rw[List.range_eq_range',List.append_nil,Array.length_toList]
     rcases qSr hc hr hname hfr hi hfi ops.toList 0 T H r H' hk h with⟨T1,rfl,k1⟩|⟨v,T1,rfl,k1⟩
     ·refine .inl ⟨.nrm,T1,ms,rfl,λσ ρ base w a Q hσ hwr hf hT hd hQ=>wpIn_region ?_⟩
      rw[er];refine k1 σ ρ base w a Q [] hσ hwr hf hT λa1 w1 ρ1 p1 t1 d1=>?_;exact hQ a1 w1 ρ1 ⟨p1,t1,by rw[d1];exact hd.mono p1.ext.le⟩
     ·refine .inr ⟨v,T1,ms,rfl,λσ ρ base w a Q hσ hwr hf hT hd hQ=>wpIn_region ?_⟩
      rw[er];refine k1 σ ρ base w a Q [] hσ hwr hf hT λa1 w1 ρ1 v' p1 t1 d1 hv=>?_;exact hQ a1 w1 ρ1 v' ⟨p1,t1,by rw[d1];exact hd.mono p1.ext.le⟩ hv
 | seq x y=>
   obtain⟨q,K,h1,h2⟩:=qAQ h;have m1:=qJ2 hfi h1;rcases hi.1 _ _ _ _ _ _ _ h1 with⟨e,T1,ms1,rfl,k1⟩|⟨v,T1,ms1,rfl,k1⟩
   ·cases e with
    | nrm=>
      have m2:=qJ2 hfi h2;rcases hi.1 _ _ _ _ _ _ _ h2 with⟨e,T2,ms2,rfl,k2⟩|⟨v,T2,ms2,rfl,k2⟩
      ·refine .inl ⟨e,T2,ms2,rfl,λσ ρ base w a Q hσ hwr hf hT hd hQ=>wpIn_seq (ACode.wp (n:=n) ?_)⟩
       refine k1 σ ρ base w a _ hσ hwr (hf.left m2) hT hd λa1 w1 ρ1 p1=>?_;exact ACode.wp (n:=n) (k2 σ ρ1 base w1 a1 Q hσ p1.post.wr (p1.post.ext.free hf m1) p1.tmps p1.defers λa2 w2 ρ2 p2=>hQ a2 w2 ρ2 (p1.trans p2 m1 m2))
      ·refine .inr ⟨v,T2,ms2,rfl,λσ ρ base w a Q hσ hwr hf hT hd hQ=>wpIn_seq (ACode.wp (n:=n) ?_)⟩
       refine k1 σ ρ base w a _ hσ hwr (hf.left m2) hT hd λa1 w1 ρ1 p1=>?_;exact ACode.wp (n:=n) (k2 σ ρ1 base w1 a1 Q hσ p1.post.wr (p1.post.ext.free hf m1) p1.tmps p1.defers λa2 w2 ρ2 v' p2 hv=>hQ a2 w2 ρ2 v' (p1.trans p2 m1 m2) hv)
    | exit id=>
      cases qAM h2;exact .inl ⟨.exit id,T1,ms1,rfl,λσ ρ base w a Q hσ hwr hf hT hd hQ=>wpIn_seq (ACode.wp (n:=n) (k1 σ ρ base w a _ hσ hwr hf hT hd λa1 w1 ρ1 p1=>hQ a1 w1 ρ1 p1))⟩
    | ret=>
      cases qAM h2;exact .inl ⟨.ret,T1,ms1,rfl,λσ ρ base w a Q hσ hwr hf hT hd hQ=>wpIn_seq (ACode.wp (n:=n) (k1 σ ρ base w a _ hσ hwr hf hT hd λa1 w1 ρ1 p1=>hQ a1 w1 ρ1 p1))⟩
   ·cases qAM h2
    exact .inr ⟨v,T1,ms1,rfl,λσ ρ base w a Q hσ hwr hf hT hd hQ=>wpIn_seq (ACode.wp (n:=n) (k1 σ ρ base w a _ hσ hwr hf hT hd λa1 w1 ρ1 v' p1 hv=>hQ a1 w1 ρ1 v' p1 hv))⟩
 | cond x y z=>
   unfold qKC at h;simp only at h;generalize hx:ev T x=v at h;have bad:(fail:M PO) H=some (r,H')->False:=λh=>qAF h;cases v with
   |none=>exact(bad h).elim
   |some v=>
   cases v<;>try exact(bad h).elim
   case bool t=>
   rcases hi.1 _ _ _ _ _ _ _ h with⟨e,T1,ms1,rfl,k1⟩|⟨v,T1,ms1,rfl,k1⟩
   ·refine .inl ⟨e,T1,ms1,rfl,λσ ρ base w a Q hσ hwr hf hT hd hQ=>?_⟩
    have hv:=qAy (a:=a) hx hT;unfold Rel at hv;refine wpIn_cond hv ?_;have:=ACode.wp (n:=n) (k1 σ ρ base w a Q hσ hwr hf hT hd hQ);cases t<;>exact this
   ·refine .inr ⟨v,T1,ms1,rfl,λσ ρ base w a Q hσ hwr hf hT hd hQ=>?_⟩
    have hv:=qAy (a:=a) hx hT;unfold Rel at hv;refine wpIn_cond hv ?_;have:=ACode.wp (n:=n) (k1 σ ρ base w a Q hσ hwr hf hT hd hQ);cases t<;>exact this
 | block id c=>
   obtain⟨q,K,h1,h2⟩:=qAQ h;rcases hi.1 _ _ _ _ _ _ _ h1 with⟨e,T1,ms1,rfl,k1⟩|⟨v,T1,ms1,rfl,k1⟩
   ·cases e with
    | nrm=>
      cases qAM h2;exact .inl ⟨.nrm,T1,ms1,rfl,λσ ρ base w a Q hσ hwr hf hT hd hQ=>wpIn_block (ACode.wp (n:=n) (k1 σ ρ base w a _ hσ hwr hf hT hd λa1 w1 ρ1 p1=>hQ a1 w1 ρ1 p1))⟩
    | ret=>
      cases qAM h2;exact .inl ⟨.ret,T1,ms1,rfl,λσ ρ base w a Q hσ hwr hf hT hd hQ=>wpIn_block (ACode.wp (n:=n) (k1 σ ρ base w a _ hσ hwr hf hT hd λa1 w1 ρ1 p1=>hQ a1 w1 ρ1 p1))⟩
    | exit id'=>
      cases hb:Nat.beq id' id with
      | true=>
        simp only[hb,cond_true]at h2;cases qAM h2;have e:=bE hb;exact .inl ⟨.nrm,T1,ms1,rfl,λσ ρ base w a Q hσ hwr hf hT hd hQ=>wpIn_block (ACode.wp (n:=n) (k1 σ ρ base w a _ hσ hwr hf hT hd λa1 w1 ρ1 p1=>by show(if id'=id then _ else _);rw[if_pos e];exact hQ a1 w1 ρ1 p1))⟩
      | false=>
        simp only[hb,cond_false]at h2;cases qAM h2;have e:id'≠id:=λe=>by subst e;simp at hb
        exact .inl ⟨.exit id',T1,ms1,rfl,λσ ρ base w a Q hσ hwr hf hT hd hQ=>wpIn_block (ACode.wp (n:=n) (k1 σ ρ base w a _ hσ hwr hf hT hd λa1 w1 ρ1 p1=>by show(if id'=id then _ else _);rw[if_neg e];exact hQ a1 w1 ρ1 p1))⟩
   ·cases qAM h2
    exact .inr ⟨v,T1,ms1,rfl,λσ ρ base w a Q hσ hwr hf hT hd hQ=>wpIn_block (ACode.wp (n:=n) (k1 σ ρ base w a _ hσ hwr hf hT hd λa1 w1 ρ1 v' p1 hv=>hQ a1 w1 ρ1 v' p1 hv))⟩
 | loop c=>
   have e0:qKC P S old ih nt (.loop c) T ms=(match qCI c with
    |some _=>oldP old nt (.loop c) T ms
    | none=>bd (ih (.code nt c T ms)) λr=>match r with
      | .done (.exit .nrm T ms)=>ih (.code nt (.loop c) T ms)
      |r=>ret r):=rfl
   rw[e0]at h;cases hs:qCI c with
   |some s=>rw[hs]at h;exact qTP hco (λb e=>by cases e;rw[hs];rfl) h
   |none=>
   rw[hs]at h;obtain⟨q,K,h1,h2⟩:=qAQ h;have m1:=qJ2 hfi h1;have hA:∀(Q:Exit->Act->World->Prop) (a:Act) (w:World) (k:Nat),ACode none k P (.loop c) Q a w=Code.roundsIn (FR none) 0 P c Q k a w:=λQ a w k=>by unfold ACode;simp only[hs]
   rcases hi.1 _ _ _ _ _ _ _ h1 with⟨e,T1,ms1,rfl,k1⟩|⟨v,T1,ms1,rfl,k1⟩
   ·cases e with
    | nrm=>
      have m2:=qJ2 hfi h2;rcases hi.1 _ _ _ _ _ _ _ h2 with⟨e,T2,ms2,rfl,k2⟩|⟨v,T2,ms2,rfl,k2⟩
      ·refine .inl ⟨e,T2,ms2,rfl,λσ ρ base w a Q hσ hwr hf hT hd hQ=>(hA Q a w (n+1)).mpr (ACode.wp (n:=n) (c:=c) ?_)⟩
       refine k1 σ ρ base w a _ hσ hwr (hf.left m2) hT hd λa1 w1 ρ1 p1=>?_;exact(hA Q a1 w1 n).mp (k2 σ ρ1 base w1 a1 Q hσ p1.post.wr (p1.post.ext.free hf m1) p1.tmps p1.defers λa2 w2 ρ2 p2=>hQ a2 w2 ρ2 (p1.trans p2 m1 m2))
      ·refine .inr ⟨v,T2,ms2,rfl,λσ ρ base w a Q hσ hwr hf hT hd hQ=>(hA Q a w (n+1)).mpr (ACode.wp (n:=n) (c:=c) ?_)⟩
       refine k1 σ ρ base w a _ hσ hwr (hf.left m2) hT hd λa1 w1 ρ1 p1=>?_;exact(hA Q a1 w1 n).mp (k2 σ ρ1 base w1 a1 Q hσ p1.post.wr (p1.post.ext.free hf m1) p1.tmps p1.defers λa2 w2 ρ2 v' p2 hv=>hQ a2 w2 ρ2 v' (p1.trans p2 m1 m2) hv)
    | exit id=>
      cases qAM h2;exact .inl ⟨.exit id,T1,ms1,rfl,λσ ρ base w a Q hσ hwr hf hT hd hQ=>(hA Q a w (n+1)).mpr (ACode.wp (n:=n) (c:=c) (k1 σ ρ base w a _ hσ hwr hf hT hd λa1 w1 ρ1 p1=>hQ a1 w1 ρ1 p1))⟩
    | ret=>
      cases qAM h2;exact .inl ⟨.ret,T1,ms1,rfl,λσ ρ base w a Q hσ hwr hf hT hd hQ=>(hA Q a w (n+1)).mpr (ACode.wp (n:=n) (c:=c) (k1 σ ρ base w a _ hσ hwr hf hT hd λa1 w1 ρ1 p1=>hQ a1 w1 ρ1 p1))⟩
   ·cases qAM h2
    exact .inr ⟨v,T1,ms1,rfl,λσ ρ base w a Q hσ hwr hf hT hd hQ=>(hA Q a w (n+1)).mpr (ACode.wp (n:=n) (c:=c) (k1 σ ρ base w a _ hσ hwr hf hT hd λa1 w1 ρ1 v' p1 hv=>hQ a1 w1 ρ1 v' p1 hv))⟩
 |_=>exact qTP hco (λ_ e=>by cases e) h
end
end Go.AM
namespace Go.AM
open Go Go.RowKit
section
variable {P:Program} {σ:Nat→Value} {ρ:Ren} {base nt:Nat} {H H':AH} {w:World} {T:Tmps} {old:Task→M Out} {ih:PTask→M PO} {S:FuncId→Bool} {n:Nat}
theorem qXY(hco:qF4 P n old)(hfr:∀t,Fr (old t))(hname:qEj P){k:FuncId}{args:List AV}{v:AV}{v':Value}{u:Unit}(h:qI7 P old k args v H=some (u,H')){args':Array Value}(hσ:One σ)(hwr:WR σ ρ base H w)(hf:Free ρ H.next H'.next)(hr:RelL σ ρ args args'.toList)(hv:Rel σ ρ v v')
  {R:Ending->FrameMode->World->Prop}(hR:∀z ρ' w',Post σ ρ ρ' base H H' w w'->R (.returned z) (.panicking [{ v:=v',recovered:=true }]) w'):isFn P k=true/\CallsDIn Fence.wide 0 P k args' (.panicking (qKo v')) w R:=by
 unfold qI7 at h;cases hfn:P.funcs[k]? with
 |none=>simp only[hfn]at h;exact(qAF h).elim
 | some fn=>
   simp only[hfn]at h;cases hb:fn.body with
   |none=>simp only[hb]at h;exact(qAF h).elim
   | some c=>
     simp only[hb]at h;generalize hrs:fn.results.toList=rs at h;cases rs with
     |cons _ _=>exact(qAF h).elim
     | nil=>
       obtain⟨hle,h⟩:=qAn h;have hle:args.length<=fn.ntmps:=by simpa [Nat.ble_eq]using hle
       refine⟨by unfold isFn;rw[hfn];simp[hb],?_⟩;generalize hdc:qNf fn (Tr.ofListAt .nil 0 args) v c=dc at h;cases dc with
       |none=>exact(qAF h).elim
       | some p=>
         obtain⟨c',T'⟩:=p;obtain⟨o,K,h1,h2⟩:=qAQ h;obtain⟨e,T1,ms1,rfl,k1⟩:=hco _ _ _ _ _ _ _ _ h1;have hK:K=H'/\ms1=[]/\(∀i,e≠.exit i):=by
          cases e with
          | nrm=>cases ms1 with
            |nil=>cases qAM h2;exact⟨rfl,rfl,by simp⟩
            |cons _ _=>exact(qAF (H:=K) h2).elim
          | ret=>cases ms1 with
            |nil=>cases qAM h2;exact⟨rfl,rfl,by simp⟩
            |cons _ _=>exact(qAF (H:=K) h2).elim
          |exit i=>exact(qAF (H:=K) h2).elim
         obtain⟨rfl,rfl,hne⟩:=hK;have hstart:=qD0 (nt:=fn.ntmps) hr hle;have hres:fn.results=#[]:=by apply Array.toList_inj.1;rw[hrs]
         refine callsDIn_of_wpSIn hfn hb trivial λc₀ cs hu=>?_;have fin:∀(a0:Act),a0.defers=[]->TRel σ ρ fn.ntmps T' a0.tmps->c'.wpSIn Fence.wide 0 P (bodyPostS P fn c₀ cs R) a0 ({ c₀ with mode:=.panicking [{ v:=v',recovered:=true }] }::cs) w:=by
          intro a0 hd0 hT0;refine wpSIn_of_wpIn rfl (ACode.wp (n:=n) (k1 σ ρ base w a0 none _ hσ hwr hf hT0 rfl (by rw[hd0];rfl) λa1 w1 ρ1 p1=>?_));have hd1:a1.defers=[]:=p1.defers;have main:a1.defers=[]/\∃u',({ c₀ with mode:=.panicking [{ v:=v',recovered:=true }] }::cs)={ c₀ with mode:=u' }::cs/\∃z,(results fn a1.tmps).run P w1=.ok z w1/\R (.returned z) u' w1:=
           ⟨hd1,.panicking [{ v:=v',recovered:=true }],rfl,.tuple #[],by simp[results,hres],hR _ ρ1 w1 p1.post⟩
          cases e with
          |nrm=>exact main
          |ret=>exact main
          |exit i=>exact absurd rfl (hne i)
         unfold qNf at hdc;cases hrt:qHV c with
         |none=>rw[hrt]at hdc;cases hdc
         | some q=>
           obtain⟨t,rest⟩:=q;rw[hrt]at hdc;obtain⟨hlt,hdc⟩:=qAb hdc;cases hdc;unfold qHV at hrt;split at hrt
           ·rename_i id ops rest'
            split at hrt
            ·rename_i t' ts ty pos af hops
             cases hrt;have e0:ops=#[⟨some t,.call ⟨.builtin .recover,#[],ts⟩,ty,pos,af,none⟩]:=by apply Array.toList_inj.1;rw[hops]
             subst e0;refine wpSIn_seq (wpSIn_region ?_);simp only[List.size_toArray,List.length_cons,List.length_nil,zA,show List.range 1=[0]from rfl,wpOpsSIn,List.getElem?_toArray,g0Y];refine⟨qD4,?_⟩;rw[if_pos (by unfold Region.wanted;rfl),qUh];have hrec:recoverD (c₀::cs)=some (v',{ c₀ with mode:=.panicking [{ v:=v',recovered:=true }] }::cs):=by simp[recoverD,hu,qKo]
             simp only[hrec];refine fin _ (qEa _ _ _) ?_;exact qKs (v:=v) (v':=v') (dst:=some t) (by simp only[setT];rw[hlt];rfl) hstart hv
            ·cases hrt
           ·cases hrt
theorem zAD3(hco:qF4 P n old)(hfr:∀t,Fr (old t))(hname:qEj P)(hi:OKP P n ih)(hfi:∀t,Fr (ih t)){f:FuncId}{args:List AV}{r:PO}(h:fnP P old ih f args H=some (r,H')):FnP P f args H r H':=by
 unfold fnP at h;cases hfn:P.funcs[f]? with
 |none=>simp only[hfn]at h;exact(qAF h).elim
 | some fn=>
   simp only[hfn]at h;cases hb:fn.body with
   |none=>simp only[hb]at h;exact(qAF h).elim
   | some c=>
     simp only[hb]at h;obtain⟨hle,h⟩:=qAn h;have hle:args.length<=fn.ntmps:=by simpa [Nat.ble_eq]using hle
     obtain⟨q,K,h1,h2⟩:=qAQ h;have m1:=qJ2 hfi h1;rcases hi.1 _ _ _ _ _ _ _ h1 with⟨e,T1,ms1,rfl,k1⟩|⟨v,T1,ms1,rfl,k1⟩
     ·have main:(∀i,e≠.exit i)->bd (qAz P old ms1) (λ_=>bd (qBN P T1 fn.results.toList) λvs=>ret (PO.done (.val (oneV vs)))) K=some (r,H')->FnP P f args H r H':=by
       intro hne h3;obtain⟨u,K2,h4,h5⟩:=qAQ h3;obtain⟨vs,K3,h6,h7⟩:=qAQ h5;cases qAM h7;have m2:K.next<=K2.next:=by obtain⟨es,d,_⟩:=qCO P hfr ms1 K () K2 h4;exact d.next
       have m3:K2.next<=H'.next:=by obtain⟨es,d,_⟩:=qCe P T1 fn.results.toList K2 vs H' h6;exact d.next
       refine .inl ⟨oneV vs,rfl,λσ ρ base w args' hσ hwr hf hr=>?_⟩;refine callsIn_of_wp_marks hfn hb trivial ?_ rfl;have hstart:=qD0 (nt:=fn.ntmps) hr hle;refine ACode.wp (n:=n) (k1 σ ρ base w { tmps:=args'++Array.replicate (fn.ntmps-args'.size) undef,defers:=[] } _ hσ hwr (hf.left (by omega)) hstart rfl λa1 w1 ρ1 p1=>?_);have key:LeavesInM Fence.wide 0 P fn a1.tmps (qCk σ ρ base H H' w (oneV vs)) a1.defers .returning w1:=by refine qNA (fn:=fn) (tmps:=a1.tmps) (R:=qCk σ ρ base H H' w (oneV vs)) hco hfr hname hσ h4 p1.post.wr ((p1.post.ext.free hf m1).left m3) p1.defers λρ2 w2 p2=>?_;obtain⟨b1,b2,b3,vs',b4,b5⟩:=qHe (P:=P) (p1.tmps.mono p2.ext.le) p2.wr _ K2 _ vs rfl rfl h6;refine⟨_,qKh b4,_,ρ2,rfl,⟨?_,p2.wr.log b1 b2,p1.post.below.trans p2.below⟩,qQD b5⟩;rw[b3];exact p1.post.ext.trans p2.ext m1 m2
       cases e with
       |exit id=>exact absurd rfl (hne id)
       |nrm=>exact key
       |ret=>exact key
      cases e with
      |exit id=>exact(qAF (H:=K) h2).elim
      |nrm=>exact main (by simp) h2
      |ret=>exact main (by simp) h2
     ·cases ms1 with
      | nil=>
        cases qAM h2;refine .inr ⟨v,rfl,λσ ρ base w args' hσ hwr hf hr=>?_⟩;refine callsIn_of_wp_marks hfn hb trivial ?_ rfl;have hstart:=qD0 (nt:=fn.ntmps) hr hle;refine ACode.wp (n:=n) (k1 σ ρ base w { tmps:=args'++Array.replicate (fn.ntmps-args'.size) undef,defers:=[] } _ hσ hwr hf hstart rfl λa1 w1 ρ1 v' p1 hv=>?_);have hd:a1.defers=[]:=p1.defers;show LeavesInM Fence.wide 0 P fn a1.tmps (qTb σ ρ base H H' w v) a1.defers (.panicking (qKo v')) w1;rw[hd];exact⟨v',ρ1,rfl,p1.post,hv⟩
      |cons m ms=>
      cases m with
      |mark i=>exact(qAF (H:=K) h2).elim
      |call k as=>
      cases ms with
      |cons _ _=>exact(qAF (H:=K) h2).elim
      | nil=>
        obtain⟨u,K2,h4,h5⟩:=qAQ h2;obtain⟨vs,K3,h6,h7⟩:=qAQ h5;cases qAM h7;have m2:K.next<=K2.next:=by obtain⟨es,d,_⟩:=qRd (P:=P) hfr k as v K () K2 h4;exact d.next
        have m3:K2.next<=H'.next:=by obtain⟨es,d,_⟩:=qCe P T1 fn.results.toList K2 vs H' h6;exact d.next
        refine .inl ⟨oneV vs,rfl,λσ ρ base w args' hσ hwr hf hr=>?_⟩;refine callsIn_of_wp_marks hfn hb trivial ?_ rfl;have hstart:=qD0 (nt:=fn.ntmps) hr hle;refine ACode.wp (n:=n) (k1 σ ρ base w { tmps:=args'++Array.replicate (fn.ntmps-args'.size) undef,defers:=[] } _ hσ hwr (hf.left (by omega)) hstart rfl λa1 w1 ρ1 v' p1 hv=>?_);have hd:=p1.defers;unfold DRel at hd;obtain⟨cs,fs,ds',hd,hrel,hd'⟩:=hd;unfold DRel at hd';subst hd';show LeavesInM Fence.wide 0 P fn a1.tmps (qCk σ ρ base H H' w (oneV vs)) a1.defers (.panicking (qKo v')) w1;rw[hd];obtain⟨q1,q2⟩:=qXY (R:=fun
         | .returned _,u',w'=>LeavesInM Fence.wide 0 P fn a1.tmps (qCk σ ρ base H H' w (oneV vs)) [] (settle u') w'
         | .panicked chain,u',w'=>LeavesInM Fence.wide 0 P fn a1.tmps (qCk σ ρ base H H' w (oneV vs)) [] (raised u' chain) w'
         | .outgrown,_,w'=>qCk σ ρ base H H' w (oneV vs) .outgrown w') hco hfr hname h4 hσ p1.post.wr ((p1.post.ext.free hf m1).left m3) hrel hv λz ρ2 w2 p2=>by
           show LeavesInM Fence.wide 0 P fn a1.tmps (qCk σ ρ base H H' w (oneV vs)) [] .returning w2;obtain⟨b1,b2,b3,vs',b4,b5⟩:=qHe (P:=P) (p1.tmps.mono p2.ext.le) p2.wr _ K2 _ vs rfl rfl h6;refine⟨_,qKh b4,_,ρ2,rfl,⟨?_,p2.wr.log b1 b2,p1.post.below.trans p2.below⟩,qQD b5⟩;rw[b3];exact p1.post.ext.trans p2.ext m1 m2
        unfold LeavesInM;refine⟨by simp,.inr ⟨λh=>by simp[Fence.wide]at h,.func k,cs,k,fs++cs,rfl,?_,λ_ _=>trivial,q2⟩⟩;simp only[invoke];exact qQu hname q1 _ w1
theorem qWl(hm:P.follows .mixedOrders=true)(hname:qEj P){X:Td}(hX:ExtOK P X)(S:FuncId->Bool):∀n,OKP P n (runP P X S n)
 | 0=>⟨λ_ _ _ _ H _ _ h=>(qAF (H:=H) h).elim,λ_ _ H _ _ h=>(qAF (H:=H) h).elim⟩
 | n+1=>by
   obtain⟨h1,h2,h3⟩:=zAAl hm hname hX n;have ih:=qWl hm hname hX S n;have fo:=qF6 P hX.1 n;have fi:=qPn (P:=P) (S:=S) hX.1 n;exact⟨λnt c T ms H r H' h=>zAAV hm h1 h2 h3 hname fo ih fi h,λf args H r H' h=>zAD3 h1 fo hname ih fi h⟩
end
end Go.AM
namespace Go.AM
open Go
section
variable (P : Program) (X : Td) (S : FuncId → Bool)
def qAf(f:FuncId)(args:List AV)(K R:AV->Hq->Prop)(s:Hq):Prop:=
 wpF (λn=>runP P X S n (.call f args)) (λr s'=>(∃v,r=.done (.val v)/\K v s')∨∃v,r=.pan v .nil []/\R v s') s
def qUy(v:AV)(args:List AV)(K R:AV->Hq->Prop)(s:Hq):Prop:=match v with
 | .fn (.func k) first cap=>cond (S k) (isFn P k=true/\qAf P X S k (first++args++cap) K R s) (funK P X (.fn (.func k) first cap) args K s)
 |v=>funK P X v args K s
def panK(v:AV)(R:AV->Hq->Prop)(s:Hq):Prop:=match v with
 | .ifc t u=>R (.ifc t u) s
 |_=>False
def qXT(env:Env)(K R:AV->Hq->Prop)(s:Hq):Op->Prop
 | .panic x=>panK (evD env x) R s
 | .call c=>match c.callee with
   | .value f=>match f with
     | .func k=>cond (S k) (cond (isFn P k) (qAf P X S k (c.args.toList.map (evD env)) K R s) False) (cond (isFn P k) (wC P X k (c.args.toList.map (evD env)) K s) False)
     |f=>qUy P X S (evD env f) (c.args.toList.map (evD env)) K R s
   |_=>wpOp P X env K s (.call c)
 |o=>wpOp P X env K s o
def qS9(nt:Nat)(all:List Oper):List Oper->Kn->Env->(Env->Hq->Prop)->(AV->Env->Hq->Prop)->Hq->Prop
 |[],_,env,K,_,s=>K env s
 |o::os,kn,env,K,R,s=>qSZ all o.guard kn env
   (λkn=>qXT P X S env (λv s=>setK nt o.dst env v λenv=>qS9 nt all os (forget kn o.dst) env K R s) (λv s=>R v env s) s o.op)
   (λkn=>setK nt o.dst env .undef λenv=>qS9 nt all os (mark kn o.dst) env K R s)
def wpCP(A:Nat->List Nat)(nt:Nat):Code->Env->(AExit->Env->Hq->Prop)->(AV->Env->Hq->Prop)->Hq->Prop
 | .region id ops draw,env,K,R,s=>cond (draw&&qRt S ops.toList)
   (cond (qPD ops&&(ops.toList.drop ops.pop.size).all λo=>okOp o.op) (wpC P X A nt none (.region id ops.pop true) env (λe env s=>match e with
    | .nrm=>qS9 P X S nt ops.toList (ops.toList.drop ops.pop.size) [] env (λenv s=>K .nrm env s) R s
    |_=>False) s) False)
   (cond (draw||(qBc ops.toList).isSome) (wpC P X A nt none (.region id ops draw) env K s)
   (cond (ops.toList.all λo=>okOp o.op) (qS9 P X S nt ops.toList ops.toList [] env (λenv s=>K .nrm env s) R s) False))
 | .seq a b,env,K,R,s=>wpCP A nt a env (λe env s=>match e with
   | .nrm=>wpCP A nt b env K R s
   |e=>K e env s) R s
 | .cond c a b,env,K,R,s=>cond (okX c) (qAK (evD env c) (wpCP A nt a env K R s) (wpCP A nt b env K R s)) False
 | .block id b,env,K,R,s=>wpCP A nt b env (λe env s=>match e with
   | .exit id'=>cond (Nat.beq id' id) (K .nrm env s) (K (.exit id') env s)
   |e=>K e env s) R s
 | .loop b,env,K,R,s=>match qCI b with
   |some _=>False
   |none=>qZu (A (2*qMQ b)) (assigned b) (λenv K s=>wpCP A nt b env K R s) env K s
 |c,env,K,_,s=>wpC P X A nt none c env K s
end
variable {P:Program} {X:Td} {S:FuncId→Bool} {nt:Nat} {env:Env} {T:Tmps} {s:Hq}
theorem qUe{c:Call}{f:Operand}(hT:TR T env)(hc:c.callee=.value f)(hf:okX f=true):isS S T c=match evD env f with
  | .fn (.func k) _ _=>S k
  |_=>false:=by
 unfold isS;rw[hc];simp only[qKb hT hf];cases evD env f<;>try rfl
 case fn g a b=>cases g<;>rfl
theorem zACr{all:List Oper}{o:Oper}{ms:List Mk}{K R:AV->Hq->Prop}{Q:Tmps->Hq->Prop}(hT:TR T env)(ho:okOp o.op=true)(hw:qCH all T o.guard=some true)(h:qXT P X S env K R s o.op)(hQ:∀v s',K v s'->∃T',setT nt T o.dst v=some T'/\Q T' s'):
  wpF (λn=>opP P S (run P X n) (runP P X S n) nt all o T ms) (λr s'=>(∃T',r=.done (.exit .nrm T' ms)/\Q T' s')∨∃v,r=.pan v T ms/\R v s') s:=by
 have plain:wpOp P X env K s o.op->wpF (λn=>qGl P (run P X n) nt all o T ms) (λr s'=>(∃T',r=.done (.exit .nrm T' ms)/\Q T' s')∨∃v,r=.pan v T ms/\R v s') s:=by intro h;have mono1:Mono λn=>qHv P (run P X n) nt all o T:=qCC λn=>qJz (qDF n) _ _ _ _;refine wpF.bd (f:=λ_ T=>ret (PO.done (.exit .nrm T ms))) mono1 (λ_=>.const _) ((qQQ (qE9 hw hT ho h) hQ).mono λT' s' hq=>?_);exact wpF.ret (.inl ⟨T',rfl,hq⟩)
 cases hop:o.op with
 | panic x=>
   rw[hop]at h ho;have hx:okX x=true:=qPE ho (by simp[Op.operands]);have h:panK (evD env x) R s:=h;generalize hv:evD env x=y at h;cases y<;>try exact h.elim
   case ifc t v=>
   refine wpF.congr (m:=λ_=>ret (PO.pan (.ifc t v) T ms)) (wpF.ret (.inr ⟨_,rfl,h⟩)) λn=>?_;unfold opP;simp only[hw,hop,qKb hT hx,hv]
 | call c=>
   rw[hop]at h ho plain;have e0:∀n,opP P S (run P X n) (runP P X S n) nt all o T ms=cond (isS S T c) (bd (opA P T (.call c)) (qMu (runP P X S n) nt T ms o.dst)) (qGl P (run P X n) nt all o T ms):=λn=>by unfold opP;simp only[hw,hop]
   refine wpF.congr (m:=λn=>cond (isS S T c) (bd (opA P T (.call c)) (qMu (runP P X S n) nt T ms o.dst)) (qGl P (run P X n) nt all o T ms)) ?_ (λn=>(e0 n).symm);have ho':c.operands.toList.all okX=true:=by
    have:=qQ0 ho λt g e=>by cases e
    simpa [Op.operands]using this
   have hargs:c.args.toList.all okX=true:=
    List.all_eq_true.2 λx hx=>List.all_eq_true.1 ho' x (by unfold Call.operands;simp only[Array.toList_append,List.mem_append];exact .inr hx)
   cases hc:c.callee with
   | builtin b=>
     have hS:isS S T c=false:=by unfold isS;rw[hc]
     simp only[qXT,hc]at h;rw[hS];exact plain h
   | invoke r name=>
     have hS:isS S T c=false:=by unfold isS;rw[hc]
     simp only[qXT,hc]at h;rw[hS];exact plain h
   | value f=>
     have hf:okX f=true:=List.all_eq_true.1 ho' f (by simp[Call.operands,hc]);simp only[qXT,hc]at h;have main:∀(k:FuncId) (first cap:List AV),evD env f=.fn (.func k) first cap->S k=true->isFn P k=true->qAf P X S k (first++c.args.toList.map (evD env)++cap) K R s->
       wpF (λn=>cond (isS S T c) (bd (opA P T (.call c)) (qMu (runP P X S n) nt T ms o.dst)) (qGl P (run P X n) nt all o T ms)) (λr s'=>(∃T',r=.done (.exit .nrm T' ms)/\Q T' s')∨∃v,r=.pan v T ms/\R v s') s:=by
      intro k first cap he hS hk hcall
      have hS':isS S T c=true:=by rw[qUe hT hc hf,he];exact hS
      rw[hS'];have ec:opA P T (.call c)=ret (.enter k (first++c.args.toList.map (evD env)++cap)):=by show qI9 P T c=_;unfold qI9;simp only[qRi hT hargs,hc,qKb hT hf,he];unfold goA;rw[hk];rfl
      simp only[cond_true];rw[ec];refine wpF.bd (m:=λ_=>ret (ANext.enter k (first++c.args.toList.map (evD env)++cap))) (f:=λn nx=>qMu (runP P X S n) nt T ms o.dst nx) (.const _) (λnx=>qCC λn=>qUx (qG6 n) _ _ _ _ _) (wpF.ret ?_);refine wpF.bd (m:=λn=>runP P X S n (.call k (first++c.args.toList.map (evD env)++cap))) (f:=λ_ r=>qYu nt T ms o.dst r) (qDc _) (λ_=>.const _) (hcall.mono ?_);rintro r s' (⟨v,rfl,hK⟩|⟨v,rfl,hR⟩)
      ·obtain⟨T',h1,h2⟩:=hQ v s' hK
       refine wpF.bd (m:=λ_=>lift (setT nt T o.dst v)) (f:=λ_ T=>ret (PO.done (.exit .nrm T ms))) (.const _) (λ_=>.const _) (wpF.lift h1 (wpF.ret (.inl ⟨T',rfl,h2⟩)))
      ·exact wpF.ret (.inr ⟨v,rfl,hR⟩)
     have mainF:qUy P X S (evD env f) (c.args.toList.map (evD env)) K R s->(wpOp P X env K s (.call c)=funK P X (evD env f) (c.args.toList.map (evD env)) K s)->wpF (λn=>cond (isS S T c) (bd (opA P T (.call c)) (qMu (runP P X S n) nt T ms o.dst)) (qGl P (run P X n) nt all o T ms)) (λr s'=>(∃T',r=.done (.exit .nrm T' ms)/\Q T' s')∨∃v,r=.pan v T ms/\R v s') s:=by
      intro h hop';unfold qUy at h;split at h
      ·rename_i k first cap he
       cases hS:S k with
       | true=>
         rw[hS,cond_true]at h;exact main k first cap he hS h.1 h.2
       | false=>
         rw[hS,cond_false,<- he]at h;have hS':isS S T c=false:=by rw[qUe hT hc hf,he];exact hS
         rw[hS'];exact plain (by rw[hop'];exact h)
      ·rename_i hne
       have hS':isS S T c=false:=by
        rw[qUe hT hc hf];split
        ·rename_i k' a b he
         exact absurd he (hne _ _ _)
        ·rfl
       rw[hS'];exact plain (by rw[hop'];exact h)
     cases f with
     | func k=>
       simp only at h;have he:evD env (.func k)=.fn (.func k) [] []:=rfl;cases hS:S k with
       | true=>
         rw[hS,cond_true]at h;cases hk:isFn P k with
         |false=>rw[hk]at h;exact h.elim
         | true=>
           rw[hk,cond_true]at h;exact main k [] [] he hS hk (by rw[List.nil_append,List.append_nil];exact h)
       | false=>
         rw[hS,cond_false]at h;have hS':isS S T c=false:=by rw[qUe hT hc hf,he];exact hS
         rw[hS'];refine plain ?_;unfold wpOp;simp only[hc];exact h
     |tmp t=>exact mainF h (by unfold wpOp;simp only[hc])
     |const l=>exact mainF h (by unfold wpOp;simp only[hc])
     |_=>exact mainF h (by unfold wpOp;simp only[hc])
 | _=>
   rw[hop]at h plain;refine wpF.congr (m:=λn=>qGl P (run P X n) nt all o T ms) (plain h) (λn=>by unfold opP;simp only[hw,hop])
end Go.AM
namespace Go.AM
open Go
variable {P:Program} {X:Td} {S:FuncId→Bool} {nt:Nat} {A:Nat→List Nat}
theorem qXV(all:List Oper)(ms:List Mk)(l:List Oper)(T:Tmps):Mono λn=>opsP P S (run P X n) (runP P X S n) nt all ms l T:=qCC λn=>qOX (qDF n) (qG6 n) nt all ms l T
theorem qQR{all:List Oper}{ms:List Mk}{K:Env->Hq->Prop}{R:AV->Env->Hq->Prop}:∀(os:List Oper) (kn:Kn) (env:Env) (s:Hq) (T:Tmps),(os.all λo=>okOp o.op)=true->TR T env->KnOk kn env->qS9 P X S nt all os kn env K R s->
  wpF (λn=>opsP P S (run P X n) (runP P X S n) nt all ms os T) (λr s'=>(∃T' env',r=.done (.exit .nrm T' ms)/\TR T' env'/\K env' s'/\∀j,(∀o∈os,o.dst≠some j)->env' j=env j)∨∃v T' env',r=.pan v T' ms/\TR T' env'/\R v env' s'/\∀j,(∀o∈os,o.dst≠some j)->env' j=env j) s
 |[],_,env,s,T,_,hT,_,h=>wpF.ret (.inl ⟨T,env,rfl,hT,h,λ_ _=>rfl⟩)
 | o::os,kn,env,s,T,ha,hT,hk,h=>by
   simp only[List.all_cons,Bool.and_eq_true]at ha;obtain⟨kn',hk',hcase⟩:=qNP hT hk h;have next:∀(v:AV) (kn2:Kn),(∀env',(∀d,o.dst≠some d->env' d=env d)->(∀d,o.dst=some d->env' d=v)->KnOk kn2 env')->∀(s':Hq),(setK nt o.dst env v λenv=>qS9 P X S nt all os kn2 env K R s')->∃T',setT nt T o.dst v=some T'/\wpF (λn=>opsP P S (run P X n) (runP P X S n) nt all ms os T') (λr s'=>(∃T' env',r=.done (.exit .nrm T' ms)/\TR T' env'/\K env' s'/\∀j,(∀o_1∈o::os,o_1.dst≠some j)->env' j=env j)∨∃v T' env',r=.pan v T' ms/\TR T' env'/\R v env' s'/\∀j,(∀o_1∈o::os,o_1.dst≠some j)->env' j=env j) s':=by
    intro v kn2 hk2 s' hv;obtain⟨T',env',e1,e2,e3,e4,e5⟩:=qSn hT hv;refine⟨T',e1,(qQR os _ env' s' T' ha.2 e2 (hk2 env' e4 e5) e3).mono ?_⟩;rintro r s2 (⟨T2,env2,rfl,q1,q2,q3⟩|⟨v,T2,env2,rfl,q1,q2,q3⟩)
    ·exact .inl ⟨T2,env2,rfl,q1,q2,λj hj=>(q3 j λp hp=>hj p (by simp[hp])).trans (e4 j (hj o (by simp)))⟩
    ·exact .inr ⟨v,T2,env2,rfl,q1,q2,λj hj=>(q3 j λp hp=>hj p (by simp[hp])).trans (e4 j (hj o (by simp)))⟩
   have mono1:Mono λn=>opP P S (run P X n) (runP P X S n) nt all o T ms:=qCC λn=>zAA1 (qDF n) (qG6 n) _ _ _ _ _;refine wpF.bd (f:=λn r=>match r with
    | .done (.exit .nrm T _)=>opsP P S (run P X n) (runP P X S n) nt all ms os T
    | r=>ret r) mono1 (λr=>qCC λn=>by
      split
      ·exact qOX (qDF n) (qG6 n) nt all ms os _
      ·exact LeM.refl _) ?_
   rcases hcase with⟨hw,h⟩|⟨hw,h⟩
   ·refine(zACr (Q:=λT' s'=>wpF (λn=>opsP P S (run P X n) (runP P X S n) nt all ms os T') _ s') hT ha.1 hw h λv s' hv=>next v _ (λenv' e4 _=>hk'.forget e4) s' hv).mono ?_
    rintro r s' (⟨T',rfl,hq⟩|⟨v,rfl,hR⟩)
    ·exact hq
    ·exact wpF.ret (.inr ⟨v,T,env,rfl,hT,hR,λ_ _=>rfl⟩)
   ·obtain⟨T',h1,h2⟩:=next .undef _ (λenv' e4 e5=>hk'.mark e4 λd hd=>by rw[e5 d hd]) s h
    have e0:∀n,opP P S (run P X n) (runP P X S n) nt all o T ms=ret (.done (.exit .nrm T' ms)):=λn=>by
     unfold opP qGl qHv qDZ;simp only[hw]
     funext H
     simp only[bd,ret,lift,h1]
    exact(wpF.ret (s:=s) (Q:=λr s'=>wpF (λn=>match r with
    | .done (.exit .nrm T _)=>opsP P S (run P X n) (runP P X S n) nt all ms os T
    |r=>ret r) _ s') h2).congr λn=>(e0 n).symm
def zABN(c:Code)(env:Env)(K:AExit->Env->Hq->Prop)(R:AV->Env->Hq->Prop)(ms:List Mk)(r:PO)(s':Hq):Prop:=
 (∃e T' env',r=.done (.exit e T' ms)/\TR T' env'/\(∀j,j ∉ assigned c->env' j=env j)/\K e env' s')∨
 ∃v T' env',r=.pan v T' ms/\TR T' env'/\(∀j,j ∉ assigned c->env' j=env j)/\R v env' s'
def zADI(P:Program)(X:Td)(S:FuncId->Bool)(A:Nat->List Nat)(nt:Nat)(c:Code):Prop:=∀(env:Env) (K:AExit->Env->Hq->Prop) (R:AV->Env->Hq->Prop) (s:Hq),noRF c=true->wpCP P X S A nt c env K R s->∀(T:Tmps) (ms:List Mk),TR T env->
 wpF (λn=>runP P X S n (.code nt c T ms)) (zABN c env K R ms) s
theorem qC6{c:Code}{T:Tmps}{ms:List Mk}{Q:PO->Hq->Prop}{s:Hq}(h:wpF (λn=>qKC P S (run P X n) (runP P X S n) nt c T ms) Q s):wpF (λn=>runP P X S n (.code nt c T ms)) Q s:=h.succ λ_=>rfl
theorem qT1(hX:FrX X){c:Code}{env:Env}{K:AExit->Env->Hq->Prop}{R:AV->Env->Hq->Prop}{s:Hq}{T:Tmps}{ms:List Mk}(hn:noRF c=true)(h:wpC P X A nt none c env K s)(hT:TR T env):
  wpF (λn=>oldP (run P X n) nt c T ms) (zABN c env K R ms) s:=by
 have h1:=qJA (P:=P) (X:=X) (A:=A) (nt:=nt) (rnd:=none) hX c env K s h T [] hT (by simp) List.nodup_nil;rw[qPz]at h1;refine wpF.bd (m:=λn=>run P X n (.code nt none c T ms)) (f:=λ_ o=>ret (PO.done o)) (qDR _) (λ_=>.const _) ((qS7 hn ms h1).mono ?_);rintro o S' ⟨o',rfl,hno,e,T2,env2,ms',s2,rfl,q1,rfl,_,_,q4,_,q6⟩;simp only[reMs,Out.exit.injEq,true_and,List.append_nil]at hno;have hms:ms'=[]:=by
  cases ms' with
  |nil=>rfl
  |cons _ _=>cases hno
 subst hms;rw[List.append_nil,qPz];exact wpF.ret (.inl ⟨e,T2,env2,rfl,q1,q4,q6⟩)
theorem qIL(hX:FrX X):∀c:Code,zADI P X S A nt c
 | .region id ops draw=>λenv K R s hn h T ms hT=>by
   refine qC6 ?_;unfold wpCP at h;refine wpF.congr (m:=λn=>cond (draw&&qRt S ops.toList)
    (cond (qPD ops) (bd (opsD P (run P X n) nt ops.pop ops.pop.toList (masks ops.pop.toList []) [] T) λT=>opsP P S (run P X n) (runP P X S n) nt ops.toList ms (ops.toList.drop ops.pop.size) T) fail)
    (cond (draw||(qBc ops.toList).isSome) (oldP (run P X n) nt (.region id ops draw) T ms) (opsP P S (run P X n) (runP P X S n) nt ops.toList ms ops.toList T))) ?_ (λn=>rfl)
   have out:∀j,j ∉ assigned (.region id ops draw)->∀o∈ops.toList,o.dst≠some j:=λj hj o ho hd=>hj (qJj ho hd);cases hdl:(draw&&qRt S ops.toList)with
   | true=>
     rw[hdl,cond_true]at h;simp only[cond_true];cases hok:(qPD ops&&(ops.toList.drop ops.pop.size).all λo=>okOp o.op)with
     |false=>rw[hok]at h;exact h.elim
     |true=>
     rw[hok,cond_true]at h;obtain⟨k1,k2⟩:=Bool.and_eq_true_iff.1 hok;simp only[k1,cond_true];unfold wpC at h;cases hokd:((ops.pop.toList.all λo=>okOp o.op)&&(true||(qBc ops.pop.toList).isNone))with
     |false=>rw[hokd]at h;exact h.elim
     |true=>
     rw[hokd,cond_true,cond_true]at h;obtain⟨hok1,_⟩:=Bool.and_eq_true_iff.1 hokd;cases hr:(qCQ ops.pop.toList&&qNX (qUU A ops.pop.toList) ops.pop (clsL P ops.pop.toList) (masks ops.pop.toList []))with
     |false=>rw[hr]at h;exact h.elim
     |true=>
     rw[hr,cond_true]at h;obtain⟨h1,h2⟩:=Bool.and_eq_true_iff.1 hr;have hlen:(masks ops.pop.toList []).length=ops.pop.size:=by rw[qJN];simp
     have hpre:wpF (λn=>opsD P (run P X n) nt ops.pop ops.pop.toList (masks ops.pop.toList []) [] T) (λT' s'=>∃env',TR T' env'/\qS9 P X S nt ops.toList (ops.toList.drop ops.pop.size) [] env' (λenv s=>K .nrm env s) R s'/\∀j,(∀o∈ops.pop.toList,o.dst≠some j)->env' j=env j) s:=λH hH=>by obtain⟨n,T',H',q1,s',env',q2,q3,q4,q5,q6⟩:=qTf hX hlen h2 ops.pop.toList 0 [] [] [] env s T [] rfl hok1 hT .nil h H hH ⟨rfl,by simp,by simp,by simp,by simp,by simp⟩;exact⟨n,T',H',q1,s',q2,q3,env',q4,q5,q6⟩
     refine wpF.bd (f:=λn T=>opsP P S (run P X n) (runP P X S n) nt ops.toList ms (ops.toList.drop ops.pop.size) T) (qOL _ _ _ _ _) (λT=>qXV _ _ _ _) (hpre.mono ?_);rintro T1 s1 ⟨env1,t1,e1,f1⟩;have sub1:∀o,o∈ops.pop.toList->o∈ops.toList:=λo ho=>by rw[Array.toList_pop]at ho;exact(List.dropLast_sublist _).subset ho
     refine(qQR _ [] env1 s1 T1 k2 t1 .nil e1).mono ?_;rintro r s' (⟨T',env',rfl,q1,q2,q3⟩|⟨v,T',env',rfl,q1,q2,q3⟩)
     ·exact .inl ⟨.nrm,T',env',rfl,q1,λj hj=>(q3 j λo ho=>out j hj o (List.mem_of_mem_drop ho)).trans (f1 j λo ho=>out j hj o (sub1 o ho)),q2⟩
     ·exact .inr ⟨v,T',env',rfl,q1,λj hj=>(q3 j λo ho=>out j hj o (List.mem_of_mem_drop ho)).trans (f1 j λo ho=>out j hj o (sub1 o ho)),q2⟩
   |false=>
   rw[hdl,cond_false]at h;simp only[cond_false];cases hd:(draw||(qBc ops.toList).isSome)with
   | true=>
     rw[hd,cond_true]at h;simp only[cond_true];exact qT1 hX hn h hT
   | false=>
     rw[hd,cond_false]at h;simp only[cond_false];cases hok:(ops.toList.all λo=>okOp o.op)with
     |false=>rw[hok]at h;exact h.elim
     |true=>
     rw[hok,cond_true]at h;refine(qQR ops.toList [] env s T hok hT .nil h).mono ?_;rintro r s' (⟨T',env',rfl,q1,q2,q3⟩|⟨v,T',env',rfl,q1,q2,q3⟩)
     ·exact .inl ⟨.nrm,T',env',rfl,q1,λj hj=>q3 j (out j hj),q2⟩
     ·exact .inr ⟨v,T',env',rfl,q1,λj hj=>q3 j (out j hj),q2⟩
 | .seq a b=>λenv K R s hn h T ms hT=>by
   unfold noRF at hn;obtain⟨hn1,hn2⟩:=Bool.and_eq_true_iff.1 hn;refine qC6 ?_;unfold wpCP at h;unfold qKC;refine wpF.bd (m:=λn=>runP P X S n (.code nt a T ms)) (f:=λn r=>match r with
    | .done (.exit .nrm T ms)=>runP P X S n (.code nt b T ms)
    | r=>ret r) (qDc _) (λr=>qCC λn=>by
      split
      ·exact qG6 n _
      ·exact LeM.refl _) ((qIL hX a env _ R s hn1 h T ms hT).mono ?_)
   rintro r s1 (⟨e,T1,env1,rfl,q1,q2,q3⟩|⟨v,T1,env1,rfl,q1,q2,q3⟩)
   ·cases e with
    | nrm=>
      refine(qIL hX b env1 K R s1 hn2 q3 T1 ms q1).mono ?_;rintro r s2 (⟨e,T2,env2,rfl,r1,r2,r3⟩|⟨v,T2,env2,rfl,r1,r2,r3⟩)
      ·exact .inl ⟨e,T2,env2,rfl,r1,λj hj=>by simp only[assigned,List.mem_append,not_or]at hj;rw[r2 j hj.2,q2 j hj.1],r3⟩
      ·exact .inr ⟨v,T2,env2,rfl,r1,λj hj=>by simp only[assigned,List.mem_append,not_or]at hj;rw[r2 j hj.2,q2 j hj.1],r3⟩
    |exit id=>exact wpF.ret (.inl ⟨_,T1,env1,rfl,q1,λj hj=>q2 j (by simp only[assigned,List.mem_append,not_or]at hj;exact hj.1),q3⟩)
    |ret=>exact wpF.ret (.inl ⟨_,T1,env1,rfl,q1,λj hj=>q2 j (by simp only[assigned,List.mem_append,not_or]at hj;exact hj.1),q3⟩)
   ·exact wpF.ret (.inr ⟨v,T1,env1,rfl,q1,λj hj=>q2 j (by simp only[assigned,List.mem_append,not_or]at hj;exact hj.1),q3⟩)
 | .cond c a b=>λenv K R s hn h T ms hT=>by
   unfold noRF at hn;obtain⟨hn1,hn2⟩:=Bool.and_eq_true_iff.1 hn;refine qC6 ?_;unfold wpCP at h;cases hok:okX c with
   |false=>rw[hok]at h;exact h.elim
   |true=>
   rw[hok,cond_true]at h;unfold qKC;simp only[qKb hT hok];unfold qAK at h;split at h
   ·rename_i e
    simp only[e,cond_true];refine(qIL hX a env K R s hn1 h T ms hT).mono ?_;rintro r s' (⟨e,T2,env2,rfl,r1,r2,r3⟩|⟨v,T2,env2,rfl,r1,r2,r3⟩)
    ·exact .inl ⟨e,T2,env2,rfl,r1,λj hj=>r2 j (by simp only[assigned,List.mem_append,not_or]at hj;exact hj.1),r3⟩
    ·exact .inr ⟨v,T2,env2,rfl,r1,λj hj=>r2 j (by simp only[assigned,List.mem_append,not_or]at hj;exact hj.1),r3⟩
   ·rename_i e
    simp only[e,cond_false];refine(qIL hX b env K R s hn2 h T ms hT).mono ?_;rintro r s' (⟨e,T2,env2,rfl,r1,r2,r3⟩|⟨v,T2,env2,rfl,r1,r2,r3⟩)
    ·exact .inl ⟨e,T2,env2,rfl,r1,λj hj=>r2 j (by simp only[assigned,List.mem_append,not_or]at hj;exact hj.2),r3⟩
    ·exact .inr ⟨v,T2,env2,rfl,r1,λj hj=>r2 j (by simp only[assigned,List.mem_append,not_or]at hj;exact hj.2),r3⟩
   ·exact h.elim
 | .block id b=>λenv K R s hn h T ms hT=>by
   unfold noRF at hn;refine qC6 ?_;unfold wpCP at h;unfold qKC;refine wpF.bd (m:=λn=>runP P X S n (.code nt b T ms)) (f:=λ_ r=>match r with
    | .done (.exit (.exit id') T ms)=>cond (Nat.beq id' id) (ret (.done (.exit .nrm T ms))) (ret (.done (.exit (.exit id') T ms)))
    |r=>ret r) (qDc _) (λ_=>.const _) ((qIL hX b env _ R s hn h T ms hT).mono ?_)
   rintro r s1 (⟨e,T1,env1,rfl,q1,q2,q3⟩|⟨v,T1,env1,rfl,q1,q2,q3⟩)
   ·cases e with
    | exit id'=>
      simp only at q3 ⊢;cases hb:Nat.beq id' id with
      |true=>rw[hb]at q3;exact wpF.ret (.inl ⟨_,T1,env1,rfl,q1,q2,q3⟩)
      |false=>rw[hb]at q3;exact wpF.ret (.inl ⟨_,T1,env1,rfl,q1,q2,q3⟩)
    |nrm=>exact wpF.ret (.inl ⟨_,T1,env1,rfl,q1,q2,q3⟩)
    |ret=>exact wpF.ret (.inl ⟨_,T1,env1,rfl,q1,q2,q3⟩)
   ·exact wpF.ret (.inr ⟨v,T1,env1,rfl,q1,q2,q3⟩)
 | .loop b=>λenv K R s hn h T ms hT=>by
   unfold noRF at hn;obtain⟨hn1,hn2⟩:=Bool.and_eq_true_iff.1 hn;have hms:qCI b=none:=by simpa using hn1
   unfold wpCP at h;rw[hms]at h;simp only at h;unfold qZu at h;obtain⟨I,⟨m,h0⟩,hstep⟩:=h;have key:∀(m:Nat) (env1:Env) (s1:Hq) (T1:Tmps),I ((A (2*qMQ b)).map env1) s1 m->(∀j,j ∉ assigned b->env1 j=env j)->TR T1 env1->wpF (λn=>runP P X S n (.code nt (.loop b) T1 ms)) (zABN (.loop b) env K R ms) s1:=by
    intro m
    induction m using Nat.strongRecOn with
    | _ m ih=>
      intro env1 s1 T1 hI hag hT1;refine qC6 ?_;have hmix:mixE (assigned b) env1 env=env1:=by
       funext j
       unfold mixE;cases hj:memN j (assigned b)with
       |true=>rfl
       |false=>exact(hag j λq=>by rw[qNB.2 q]at hj;cases hj).symm
      have hbody:=hstep env1 s1 m hI;rw[hmix]at hbody;unfold qKC;simp only[hms];refine wpF.bd (m:=λn=>runP P X S n (.code nt b T1 ms)) (f:=λn r=>match r with
       | .done (.exit .nrm T ms)=>runP P X S n (.code nt (.loop b) T ms)
       | r=>ret r) (qDc _) (λr=>qCC λn=>by
         split
         ·exact qG6 n _
         ·exact LeM.refl _) ((qIL hX b env1 _ R s1 hn2 hbody T1 ms hT1).mono ?_)
      rintro r s2 (⟨e,T2,env2,rfl,q1,q2,q3⟩|⟨v,T2,env2,rfl,q1,q2,q3⟩)
      ·have hag2:∀j,j ∉ assigned b->env2 j=env j:=λj hj=>(q2 j hj).trans (hag j hj)
       cases e with
       | nrm=>
         obtain⟨m',hlt,hI'⟩:=q3;exact ih m' hlt env2 s2 T2 hI' hag2 q1
       |exit id=>exact wpF.ret (.inl ⟨_,T2,env2,rfl,q1,hag2,q3⟩)
       |ret=>exact wpF.ret (.inl ⟨_,T2,env2,rfl,q1,hag2,q3⟩)
      ·exact wpF.ret (.inr ⟨v,T2,env2,rfl,q1,λj hj=>(q2 j hj).trans (hag j hj),q3⟩)
   exact key m env s T h0 (λ_ _=>rfl) hT
 | .skip=>λenv K R s hn h T ms hT=>qC6 (qT1 hX hn h hT)
 | .exit _=>λenv K R s hn h T ms hT=>qC6 (qT1 hX hn h hT)
 | .ret=>λenv K R s hn h T ms hT=>qC6 (qT1 hX hn h hT)
 | .rangeFunc _ _ _ _=>λenv K R s hn h T ms hT=>by cases hn
 | .scope _=>λenv K R s hn h T ms hT=>by cases hn
 | .label _=>λenv K R s hn h T ms hT=>by cases hn
 | .goto _=>λenv K R s hn h T ms hT=>by cases hn
 | .refuse _=>λenv K R s hn h T ms hT=>by cases hn
theorem qCV(hX:FrX X)(A:Nat->List Nat){f:FuncId}{fn:Func}{c:Code}(hf:P.funcs[f]?=some fn)(hb:fn.body=some c)(hn:noRF c=true){args:List AV}(hl:Nat.ble args.length fn.ntmps=true){K R:AV->Hq->Prop}{s:Hq}
  (h:wpCP P X S A fn.ntmps c (qJ3 args) (λe env s=>retK e (resK P fn.results.toList env (λvs=>K (oneV vs) s) s)) (λv _ s=>R v s) s):qAf P X S f args K R s:=by
 unfold qAf;refine wpF.succ (m:=λn=>fnP P (run P X n) (runP P X S n) f args) ?_ (λ_=>rfl);unfold fnP;simp only[hf,hb];refine wpF.cond hl ?_;refine wpF.bd (m:=λn=>runP P X S n (.code fn.ntmps c (Tr.ofListAt .nil 0 args) [])) (f:=λn r=>endP P (run P X n) fn.results.toList r) (qDc _) (λr=>qCC λn=>qSl (qDF n) _ _) ((qIL hX c _ _ _ s hn h (Tr.ofListAt .nil 0 args) [] (qOY args)).mono ?_);rintro r s' (⟨e,T',env',rfl,q1,_,q3⟩|⟨v,T',env',rfl,q1,_,q3⟩)
 ·have body:resK P fn.results.toList env' (λvs=>K (oneV vs) s') s'->wpF (λn=>bd (qAz P (run P X n) []) λ_=>bd (qBN P T' fn.results.toList) λvs=>ret (PO.done (.val (oneV vs)))) (λr s'=>(∃v,r=.done (.val v)/\K v s')∨∃v,r=.pan v .nil []/\R v s') s':=by
   intro hr;unfold qAz;refine wpF.bd (m:=λ_=>ret ()) (f:=λ_ _=>bd (qBN P T' fn.results.toList) λvs=>ret (PO.done (.val (oneV vs)))) (.const _) (λ_=>.const _) (wpF.ret ?_);refine wpF.bd (m:=λ_=>qBN P T' fn.results.toList) (f:=λ_ vs=>ret (PO.done (.val (oneV vs)))) (.const _) (λ_=>.const _) ((qF0 q1 _ _ _ hr).mono ?_);rintro vs s'' ⟨rfl,hk⟩;exact wpF.ret (.inl ⟨_,rfl,hk⟩)
  cases e with
  |exit id=>exact q3.elim
  |nrm=>exact body q3
  |ret=>exact body q3
 ·exact wpF.ret (.inr ⟨v,rfl,q3⟩)
end Go.AM
namespace Go.AM
open Go
variable {P:Program} {X:Td} {S:FuncId→Bool} {nt:Nat} {A:Nat→List Nat}
def qXA(P:Program)(X:Td)(k:FuncId)(args:List AV)(v:AV)(Q:Hq->Prop)(s:Hq):Prop:=wpF (λn=>qI7 P (run P X n) k args v) (λ_ s=>Q s) s
def recK(P:Program)(X:Td)(fv:AV)(v:AV)(Q:Hq->Prop)(s:Hq):Prop:=match fv with
 | .fn (.func k) first cap=>qXA P X k (first++cap) v Q s
 |_=>False
def qNe(c:Code)(env:Env)(v:AV):Env:=match qHV c with
 |some (t,_)=>upd env t v
 |none=>env
theorem qU7(hX:FrX X)(A:Nat->List Nat){k:FuncId}{fn:Func}{c:Code}(hf:P.funcs[k]?=some fn)(hb:fn.body=some c)(hr:fn.results.toList=[])(hc:qZU c fn.ntmps=true){args:List AV}{v:AV}(hl:Nat.ble args.length fn.ntmps=true){K:AV->Hq->Prop}{s:Hq}
  (h:wpC P X A fn.ntmps none (qRv c) (qNe c (qJ3 args) v) (λe env s=>retK e (resK P fn.results.toList env (λvs=>K (oneV vs) s) s)) s):qXA P X k args v (λs=>K (.tup []) s) s:=by
 unfold qZU at hc;unfold qRv qNe at h;cases hq:qHV c with
 |none=>rw[hq]at hc;cases hc
 |some p=>
 obtain⟨t,r⟩:=p;rw[hq]at hc h;simp only at hc h;obtain⟨hno,hlt⟩:=Bool.and_eq_true_iff.1 hc;rw[hr]at h;unfold qXA qI7;simp only[hf,hb,hr];refine wpF.cond hl ?_;have hd:qNf fn (Tr.ofListAt .nil 0 args) v c=some (r,(Tr.ofListAt .nil 0 args).put t (some v)):=by unfold qNf;rw[hq];simp only[hlt,cond_true]
 rw[hd];simp only;have hT:=zAAh (qOY args) t v;have hcode:=qJA (P:=P) (X:=X) (A:=A) (nt:=fn.ntmps) (rnd:=none) hX r _ _ s h _ [] hT (by simp) List.nodup_nil;rw[qPz]at hcode;refine wpF.bd (qDR _) (λo=>.const _) ((qS7 hno [] hcode).mono ?_);rintro o S ⟨o',rfl,hno',e,T2,env2,ms',s2,rfl,q1,rfl,_,_,_,_,q6⟩;simp only[reMs,Out.exit.injEq,true_and,List.append_nil]at hno';have hms:ms'=[]:=by
  cases ms' with
  |nil=>rfl
  |cons _ _=>cases hno'
 subst hms;rw[List.append_nil,qPz];cases e with
 |nrm=>exact wpF.ret q6
 |ret=>exact wpF.ret q6
 |exit id=>exact q6.elim
def wpDP(P:Program)(X:Td)(S:FuncId->Bool)(A:Nat->List Nat)(nt:Nat):Code->Env->(AV->AExit->Env->Hq->Prop)->(AV->AV->Env->Hq->Prop)->Hq->Prop
 | .seq a b,env,K,R,s=>match qYV a with
   | some (all,l,c)=>match qYW c with
     |some f=>cond ((l.all λo=>okOp o.op)&&noRF b) (opsE P X nt all l [] env (λenv s=>qWy P (evD env f)/\wpCP P X S A nt b env (K (evD env f)) (R (evD env f)) s) s) False
     |none=>False
   | none=>cond (noRF a) (wpCP P X S A nt a env (λe env s=>match e with
     | .nrm=>wpDP P X S A nt b env K R s
     |_=>False) (λ_ _ _=>False) s) False
 |_,_,_,_,_=>False
def zADx(P:Program)(K:AV->AExit->Env->Hq->Prop)(R:AV->AV->Env->Hq->Prop)(r:PO)(s:Hq):Prop:=∃T env k first cap,TR T env/\isFn P k=true/\
 ((∃e,r=.done (.exit e T [.call k (first++cap)])/\K (.fn (.func k) first cap) e env s)∨∃v,r=.pan v T [.call k (first++cap)]/\R (.fn (.func k) first cap) v env s)
theorem qYj(hX:FrX X):∀(c:Code) (env:Env) (K:AV->AExit->Env->Hq->Prop) (R:AV->AV->Env->Hq->Prop) (s:Hq) (T:Tmps),TR T env->wpDP P X S A nt c env K R s->wpF (λn=>runP P X S n (.code nt c T [])) (zADx P K R) s
 | .seq a b,env,K,R,s,T,hT,h=>by
   refine qC6 ?_;unfold wpDP at h;unfold qKC;have monoB:∀r:PO,Mono λn=>(match r with
    | .done (.exit .nrm T ms)=>runP P X S n (.code nt b T ms)
    | r=>ret r:M PO):=λr=>qCC λn=>by
      split
      ·exact qG6 n _
      ·exact LeM.refl _
   cases hd:qYV a with
   | some p=>
     obtain⟨all,l,c⟩:=p;rw[hd]at h;simp only at h;cases hf:qYW c with
     |none=>rw[hf]at h;exact h.elim
     |some f=>
     rw[hf]at h;simp only at h;cases hok:((l.all λo=>okOp o.op)&&noRF b)with
     |false=>rw[hok]at h;exact h.elim
     |true=>
     rw[hok,cond_true]at h;obtain⟨hok1,hok2⟩:=Bool.and_eq_true_iff.1 hok;refine wpF.bd (m:=λn=>runP P X S n (.code nt a T [])) (qDc _) monoB ?_;cases a with
     | region id ops draw=>
       cases draw with
       |true=>cases hd
       |false=>
       simp only[qYV]at hd;cases hq:qBc ops.toList with
       |none=>rw[hq]at hd;cases hd
       |some q=>
       rw[hq]at hd;simp only[Option.some.injEq,Prod.mk.injEq]at hd;obtain⟨rfl,rfl,rfl⟩:=hd;refine qC6 ?_;refine wpF.congr (m:=λn=>oldP (run P X n) nt (.region id ops false) T []) ?_ (λn=>by show _=cond (false||(qBc ops.toList).isSome) _ _;rw[hq];rfl)
       refine wpF.bd (m:=λn=>run P X n (.code nt none (.region id ops false) T [])) (f:=λ_ o=>ret (PO.done o)) (qDR _) (λ_=>.const _) (qEK ?_);unfold qA7;simp only[cond_false,hq];refine wpF.bd (qOM _ _ _ _) (λT=>.const _) ((qSq _ _ _ _ _ hok1 hT .nil h).mono ?_);rintro T1 s1 ⟨env1,hT1,⟨h1,h2⟩,_⟩;unfold qWy at h1;split at h1
       ·rename_i k first cap hv
        have x2:=h1;unfold qYW at hf;split at hf
        ·rename_i f' hcal
         cases hz:(q.2.args.toList.isEmpty&&okX f')with
         |false=>rw[hz]at hf;cases hf
         |true=>
         rw[hz]at hf;cases hf;obtain⟨z1,z2⟩:=Bool.and_eq_true_iff.1 hz;have z1:q.2.args.toList=[]:=by simpa using z1
         have hda:qKQ P T1 q.2=some (.call k (first++cap)):=by unfold qKQ;rw[hcal,z1];simp only[evs,qKb hT1 z2,hv,x2,cond_true,List.append_nil]
         rw[hda];refine wpF.ret (wpF.ret ?_);simp only;rw[hv]at h2;refine(qIL hX b env1 _ _ s1 hok2 h2 T1 [.call k (first++cap)] hT1).mono ?_;rintro r s2 (⟨e,T2,env2,rfl,q1,_,q3⟩|⟨v,T2,env2,rfl,q1,_,q3⟩)
         ·exact⟨T2,env2,k,first,cap,q1,x2,.inl ⟨e,rfl,q3⟩⟩
         ·exact⟨T2,env2,k,first,cap,q1,x2,.inr ⟨v,rfl,q3⟩⟩
        ·cases hf
       ·exact h1.elim
     |_=>cases hd
   | none=>
     rw[hd]at h;simp only at h;cases hn:noRF a with
     |false=>rw[hn]at h;exact h.elim
     |true=>
     rw[hn,cond_true]at h;have ha:=qIL (P:=P) (X:=X) (S:=S) (A:=A) (nt:=nt) hX a env _ _ s hn h T [] hT;refine wpF.bd (m:=λn=>runP P X S n (.code nt a T [])) (qDc _) monoB (ha.mono ?_);rintro r s1 (⟨e,T1,env1,rfl,q1,_,q3⟩|⟨v,T1,env1,rfl,q1,_,q3⟩)
     ·cases e with
      |nrm=>exact qYj hX b env1 K R s1 T1 q1 q3
      |ret=>exact q3.elim
      |exit id=>exact q3.elim
     ·exact q3.elim
 | .skip,_,_,_,_,_,_,h=>h.elim
 | .region _ _ _,_,_,_,_,_,_,h=>h.elim
 | .cond _ _ _,_,_,_,_,_,_,h=>h.elim
 | .block _ _,_,_,_,_,_,_,h=>h.elim
 | .loop _,_,_,_,_,_,_,h=>h.elim
 | .exit _,_,_,_,_,_,_,h=>h.elim
 | .ret,_,_,_,_,_,_,h=>h.elim
 | .rangeFunc _ _ _ _,_,_,_,_,_,_,h=>h.elim
 | .scope _,_,_,_,_,_,_,h=>h.elim
 | .label _,_,_,_,_,_,_,h=>h.elim
 | .goto _,_,_,_,_,_,_,h=>h.elim
 | .refuse _,_,_,_,_,_,_,h=>h.elim
theorem qQm(hX:FrX X)(A:Nat->List Nat){f:FuncId}{fn:Func}{c:Code}(hf:P.funcs[f]?=some fn)(hb:fn.body=some c){args:List AV}(hl:Nat.ble args.length fn.ntmps=true){K R:AV->Hq->Prop}{s:Hq}
  (h:wpDP P X S A fn.ntmps c (qJ3 args) (λdv e env s=>retK e (runK P X dv (λs=>resK P fn.results.toList env (λvs=>K (oneV vs) s) s) s)) (λdv v env s=>recK P X dv v (λs=>resK P fn.results.toList env (λvs=>K (oneV vs) s) s) s) s):qAf P X S f args K R s:=by
 unfold qAf;refine wpF.succ (m:=λn=>fnP P (run P X n) (runP P X S n) f args) ?_ (λ_=>rfl);unfold fnP;simp only[hf,hb];refine wpF.cond hl ?_;refine wpF.bd (m:=λn=>runP P X S n (.code fn.ntmps c (Tr.ofListAt .nil 0 args) [])) (f:=λn r=>endP P (run P X n) fn.results.toList r) (qDc _) (λr=>qCC λn=>qSl (qDF n) _ _) ((qYj hX c _ _ _ s _ (qOY args) h).mono ?_);rintro r s' ⟨T',env',k,first,cap,q1,x2,(⟨e,rfl,q3⟩|⟨v,rfl,q3⟩)⟩
 ·have body:runK P X (.fn (.func k) first cap) (λs=>resK P fn.results.toList env' (λvs=>K (oneV vs) s) s) s'->wpF (λn=>bd (qAz P (run P X n) [.call k (first++cap)]) λ_=>bd (qBN P T' fn.results.toList) λvs=>ret (PO.done (.val (oneV vs)))) (λr s'=>(∃v,r=.done (.val v)/\K v s')∨∃v,r=.pan v .nil []/\R v s') s':=by
   intro hcall;refine wpF.bd (qEm _) (λ_=>.const _) ?_;unfold qAz;refine wpF.bd (f:=λn _=>qAz P (run P X n) []) (qCC λn=>qSQ (qDF n) _ _) (λ_=>qEm _) (wpF.mono hcall ?_);rintro _ s1 hr;refine wpF.ret ?_;refine wpF.bd (.const _) (λ_=>.const _) ((qF0 q1 _ _ _ hr).mono ?_);rintro vs s'' ⟨rfl,hk⟩;exact wpF.ret (.inl ⟨_,rfl,hk⟩)
  cases e with
  |exit id=>exact q3.elim
  |nrm=>exact body q3
  |ret=>exact body q3
 ·have hcall:qXA P X k (first++cap) v (λs=>resK P fn.results.toList env' (λvs=>K (oneV vs) s) s) s':=q3
  refine wpF.bd (m:=λn=>qI7 P (run P X n) k (first++cap) v) (f:=λ_ _=>bd (qBN P T' fn.results.toList) λvs=>ret (PO.done (.val (oneV vs)))) (qCC λn=>qRQ (qDF n) _ _ _) (λ_=>.const _) (wpF.mono hcall ?_);rintro _ s1 hr;refine wpF.bd (.const _) (λ_=>.const _) ((qF0 q1 _ _ _ hr).mono ?_);rintro vs s'' ⟨rfl,hk⟩;exact wpF.ret (.inl ⟨_,rfl,hk⟩)
end Go.AM
namespace Go.AM
open Go Go.RowKit
section
variable (P : Program) (X : Td) (S : FuncId → Bool)
open Classical in
noncomputable def limP(f:FuncId)(args:List AV):M AV:=λH=>
 if h:∃r:AV×AH,∃n,runP P X S n (.call f args) H=some (.done (.val r.1),r.2)then some (Classical.choose h)else none
noncomputable def limX(l:List FuncId):Td:=λf=>cond (memN f l) (some (limP P X S f)) none
end
variable {P:Program} {X Y:Td} {S:FuncId→Bool}
theorem qRb{f:FuncId}{args:List AV}{H H':AH}{v:AV}(h:limP P X S f args H=some (v,H')):∃n,runP P X S n (.call f args) H=some (.done (.val v),H'):=by
 unfold limP at h;split at h
 ·rename_i hex
  obtain⟨n,hn⟩:=Classical.choose_spec hex;have e:Classical.choose hex=(v,H'):=Option.some.inj h;rw[e]at hn;exact⟨n,hn⟩
 ·cases h
theorem qXk{f:FuncId}{args:List AV}{H H':AH}{v:AV}{n:Nat}(h:runP P X S n (.call f args) H=some (.done (.val v),H')):limP P X S f args H=some (v,H'):=by
 have hex:∃r:AV×AH,∃n,runP P X S n (.call f args) H=some (.done (.val r.1),r.2):=⟨(v,H'),n,h⟩
 unfold limP;rw[dif_pos hex];obtain⟨m,hm⟩:=Classical.choose_spec hex;have h1:=qDc (P:=P) (X:=X) (S:=S) (.call f args) n (max n m) H _ (Nat.le_max_left _ _) h;have h2:=qDc (P:=P) (X:=X) (S:=S) (.call f args) m (max n m) H _ (Nat.le_max_right _ _) hm;rw[h1]at h2;simp only[Option.some.injEq,Prod.mk.injEq,PO.done.injEq,Out.val.injEq]at h2;rw[h2.1,h2.2]
theorem zABp(hX:FrX X)(f:FuncId)(args:List AV):Fr (limP P X S f args):=by intro H1 a H1' h;obtain⟨n,hn⟩:=qRb h;obtain⟨es,d,k⟩:=qPn (P:=P) (S:=S) hX n (.call f args) H1 _ H1' hn;refine⟨es,d,λH2 h1 h2 h3=>?_⟩;obtain⟨H2',q1,q2,q3,q4⟩:=k H2 h1 h2 h3;exact⟨H2',qXk q1,q2,q3,q4⟩
theorem qYL(hX:FrX X)(l:List FuncId):FrX (limX P X S l):=λf g args h=>by
 unfold limX at h;cases hm:memN f l with
 |false=>rw[hm]at h;cases h
 |true=>rw[hm]at h;cases h;exact zABp hX f args
theorem limX_ok(hm:P.follows .mixedOrders=true)(hname:noNumB P=true)(hX:ExtOK P X)(l:List FuncId):ExtOK P (limX P X S l):=by
 refine⟨qYL hX.1 l,λf g hg args H v H' hr σ ρ base w args' hσ hwr hf hra=>?_⟩;unfold limX at hg;cases hmem:memN f l with
 |false=>rw[hmem]at hg;cases hg
 | true=>
   rw[hmem]at hg;cases hg;obtain⟨n,hn⟩:=qRb hr;rcases(qWl hm (qQf hname) hX S n).2 f args H _ H' hn with⟨v1,e,k⟩|⟨v1,e,_⟩
   ·cases e
    exact k σ ρ base w args' hσ hwr hf hra
   ·cases e
theorem qYP(hX:FrX X)(hY:FrX Y):FrX (orX X Y):=λf g args h=>by
 unfold orX at h;cases hx:X f with
 |some g'=>rw[hx]at h;cases h;exact hX f _ args hx
 |none=>rw[hx]at h;exact hY f g args h
theorem zADY{l:List FuncId}{f:FuncId}{args:List AV}{K:AV->Hq->Prop}{s:Hq}(hf:memN f l=true)(h:qAf P X S f args K (λ_ _=>False) s):wC P (orX (limX P X S l) Y) f args K s:=by
 intro H hH;obtain⟨n,r,H',h1,s',h2,h3,h4⟩:=h H hH;rcases h4 with⟨v,rfl,hK⟩|⟨v,_,h5⟩
 ·refine⟨1,.val v,H',?_,s',h2,h3,v,rfl,hK⟩
  show(match orX (limX P X S l) Y f with
   |some g=>bd (g args) λv=>ret (Out.val v)
   |none=>qBo P (run P (orX (limX P X S l) Y) 0) f args) H=_
  have:orX (limX P X S l) Y f=some (limP P X S f):=by unfold orX limX;rw[hf];rfl
  rw[this];simp only[bd,qXk h1,ret]
 ·exact h5.elim
end Go.AM
