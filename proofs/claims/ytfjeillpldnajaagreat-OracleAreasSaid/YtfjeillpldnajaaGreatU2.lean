/- Part U2 of the proof: see the last part. -/
import Derived.Test.YtfjeillpldnajaaGreatU1
import Derived.Test.YtfjeillpldnajaaGreatA3
import Derived.DataReads
import Derived.ChangeArms
import Derived.OpenShut
set_option linter.unusedVariables false
namespace Go.AM
open Go
variable {α:Type} {P:Program} {X:Td} {nt:Nat} {rnd:Option Nat}
def noRF:Code->Bool
 | .skip=>true
 | .region _ ops draw=>draw||(qCp ops.toList).isNone
 | .seq a b=>noRF a&&noRF b
 | .cond _ a b=>noRF a&&noRF b
 | .block _ b=>noRF b
 | .loop b=>(qDj b).isNone&&noRF b
 | .exit _=>true
 | .ret=>true
 |_=>false
def reMs(ms:List Mk):Out->Out
 | .exit e T _=>.exit e T ms
 | .val v=>.val v
def reO(ms:List Mk):Option (Out×AH)->Option (Out×AH)
 |some (o,H)=>some (reMs ms o,H)
 |none=>none
theorem qOs:∀(n:Nat) (c:Code),noRF c=true->∀(T:Tmps) (ms:List Mk) (H:AH),run P X n (.code nt rnd c T ms) H=reO ms (run P X n (.code nt rnd c T []) H)
 | 0,_,_,_,_,_=>rfl
 | n+1,c,hc,T,ms,H=>by
   show qBB P (run P X n) nt rnd c T ms H=reO ms (qBB P (run P X n) nt rnd c T [] H);have ih:=λc hc T ms H=>qOs n c hc T ms H;cases c with
   |skip=>rfl
   |exit id=>rfl
   |ret=>rfl
   | region id ops draw=>
     simp only[noRF,Bool.or_eq_true]at hc;simp only[qBB];cases draw with
     | false=>
       have hd:qCp ops.toList=none:=by
        rcases hc with h|h
        ·cases h
        ·simpa using h
       simp only[cond_false,hd];unfold bd;cases opsA P (run P X n) nt ops.toList ops.toList T H with
       |none=>rfl
       |some p=>rfl
     | true=>
       simp only[cond_true];unfold bd;cases(cond (qDe ops.toList) (opsD P (run P X n) nt ops ops.toList (masks ops.toList []) [] T) fail:M Tmps) H with
       |none=>rfl
       |some p=>rfl
   | seq a b=>
     simp only[noRF,Bool.and_eq_true]at hc;simp only[qBB,bd];rw[ih a hc.1 T ms H];have e0:=ih a hc.1 T [] H;cases hq:run P X n (.code nt rnd a T []) H with
     |none=>rfl
     | some p=>
       obtain⟨o,H1⟩:=p;rw[hq]at e0;simp only[reO,Option.some.injEq,Prod.mk.injEq,and_true]at e0;simp only[reO];cases o with
       |val v=>rfl
       | exit e T1 ms1=>
         simp only[reMs,Out.exit.injEq,true_and]at e0;subst e0;cases e with
         |nrm=>exact ih b hc.2 T1 ms H1
         |ret=>rfl
         |exit id=>rfl
   | cond x a b=>
     simp only[noRF,Bool.and_eq_true]at hc;simp only[qBB];cases ev T x with
     |none=>rfl
     | some v=>
       cases v with
       | bool t=>cases t with
         |true=>exact ih a hc.1 T ms H
         |false=>exact ih b hc.2 T ms H
       |_=>rfl
   | block id b=>
     simp only[noRF]at hc;simp only[qBB,bd];rw[ih b hc T ms H];cases hq:run P X n (.code nt rnd b T []) H with
     |none=>rfl
     | some p=>
       obtain⟨o,H1⟩:=p;cases o with
       |val v=>rfl
       | exit e T1 ms1=>
         cases e with
         |nrm=>rfl
         |ret=>rfl
         | exit id'=>
           simp only[reO,reMs];cases Nat.beq id' id<;>rfl
   | loop b=>
     simp only[noRF,Bool.and_eq_true]at hc;have hm:qDj b=none:=by simpa using hc.1
     simp only[qBB,hm,bd];rw[ih b hc.2 T ms H];have e0:=ih b hc.2 T [] H;cases hq:run P X n (.code nt rnd b T []) H with
     |none=>rfl
     | some p=>
       obtain⟨o,H1⟩:=p;rw[hq]at e0;simp only[reO,Option.some.injEq,Prod.mk.injEq,and_true]at e0;simp only[reO];cases o with
       |val v=>rfl
       | exit e T1 ms1=>
         simp only[reMs,Out.exit.injEq,true_and]at e0;subst e0;cases e with
         |nrm=>exact ih (.loop b) (by simp[noRF,hm,hc.2]) T1 ms H1
         |ret=>rfl
         |exit id=>rfl
   |scope _=>cases hc
   |label _=>cases hc
   |goto _=>cases hc
   |refuse _=>cases hc
   |rangeFunc _ _ _ _=>cases hc
theorem wpF.both{m:Nat->M α}{Q:α->Hq->Prop}{R:α->Prop}{s:Hq}(h:wpF m Q s)(hR:∀n H a H',m n H=some (a,H')->R a):wpF m (λa s=>Q a s/\R a) s:=λH hH=>by obtain⟨n,a,H',h1,s',h2,h3,h4⟩:=h H hH;exact⟨n,a,H',h1,s',h2,h3,h4,hR n H a H' h1⟩
theorem qQl{c:Code}(hc:noRF c=true){T:Tmps}{Q:Out->Hq->Prop}{s:Hq}(ms:List Mk)(h:wpF (λn=>run P X n (.code nt rnd c T [])) Q s):
  wpF (λn=>run P X n (.code nt rnd c T ms)) (λo s=>∃o',o=reMs ms o'/\o'=reMs [] o'/\Q o' s) s:=λH hH=>by
 obtain⟨n,a,H',h1,s',h2,h3,h4⟩:=h H hH;have e0:=qOs (P:=P) (X:=X) (nt:=nt) (rnd:=rnd) n c hc T [] H;have h1:run P X n (.code nt rnd c T []) H=some (a,H'):=h1;rw[h1]at e0;simp only[reO,Option.some.injEq,Prod.mk.injEq,and_true]at e0;refine⟨n,reMs ms a,H',?_,s',h2,h3,a,rfl,e0,h4⟩;show run P X n (.code nt rnd c T ms) H=_;rw[qOs n c hc T ms H,h1];rfl
end Go.AM
namespace Go.AM
open Go
theorem ClE.keep{s0:Hq}{H0 H H':AH}{r:Nat}{es:List (Nat×Bool)}(h:ClE s0 H0 r H)(d:Does es H H')(hw:∀i,(i,true)∈es->H.next<=i):ClE s0 H0 r H'/\∀i,i<H.next->H'.blks.get i=H.blks.get i:=by
 have same:∀i,i<H.next->H'.blks.get i=H.blks.get i:=λi hi=>d.same i λhm=>by have:=hw i hm;omega
 refine⟨⟨⟨by rw[d.lo];exact Nat.le_trans h.rel.lo d.next,λi hi=>?_,λi t b hi=>?_⟩,Nat.le_trans h.next d.next,d.lo.trans h.lo,λi hi=>?_,λi hi hr=>(same i (Nat.lt_of_lt_of_le hi h.next)).trans (h.kept i hi hr)⟩,same⟩
 ·rcases d.gone i hi with e|e
  ·exact Nat.lt_of_lt_of_le (h.rel.wf i e) d.next
  ·exact e.2
 ·obtain⟨k1,ab,k2,k3⟩:=h.rel.at_ i t b hi
  exact⟨λq=>by rw[d.lo];exact k1 q,ab,by rw[same i (h.rel.wf i (by rw[k2];simp))];exact k2,k3⟩
 ·rw[d.log]at hi
  rcases mP hi with hi|hi
  ·exact .inr (Nat.le_trans h.next (hw i hi))
  ·exact h.log i hi
theorem zAAT{T:Tmps}{env:Env}(h:TR T env)(i:Nat)(v:AV):TR (T.put i (some v)) (upd env i v):=λj=>by
 unfold tget upd;rw[Tr.get_put];cases e:Nat.beq j i with
 | true=>
   have:=bE e;subst this;rw[if_pos rfl];rfl
 | false=>
   have hne:¬i=j:=λq=>by subst q;rw[Nat.beq_refl]at e;cases e
   rw[if_neg hne];exact h j
end Go.AM
namespace Go.AM
open Go
def mixE(slots:List Nat)(f env:Env):Env:=λj=>cond (memN j slots) (f j) (env j)
def qNj:List Oper->List Nat
 |[]=>[]
 | o::os=>match o.dst with
   |some d=>d::qNj os
   |none=>qNj os
def assigned:Code->List Nat
 | .region _ ops _=>qNj ops.toList
 | .seq a b=>assigned a++assigned b
 | .cond _ a b=>assigned a++assigned b
 | .block _ b=>assigned b
 | .loop b=>assigned b
 |_=>[]
def qNX:Code->Nat
 | .region id _ _=>id
 | .seq a _=>qNX a
 | .block _ b=>qNX b
 | .loop b=>qNX b
 | .cond _ a _=>qNX a
 |_=>0
def zAA4(ls slots:List Nat)(body:Env->(AExit->Env->Hq->Prop)->Hq->Prop)(env:Env)(K:AExit->Env->Hq->Prop)(s:Hq):Prop:=
 ∃I:List AV->Hq->Nat->Prop,(∃m,I (ls.map env) s m)/\∀(f:Env) (s:Hq) (m:Nat),I (ls.map f) s m->
  body (mixE slots f env) (λe env' s'=>match e with
   | .nrm=>∃m',m'<m/\I (ls.map env') s' m'
   |e=>K e env' s') s
section
variable (P : Program) (X : Td)
def qVC(A:Nat->List Nat)(ops:List Oper):List Nat:=A (1000000+(match qNj ops with|d::_=>d|[]=>0))
def wpC(A:Nat->List Nat)(nt:Nat)(rnd:Option Nat):Code->Env->(AExit->Env->Hq->Prop)->Hq->Prop
 | .skip,env,K,s=>K .nrm env s
 | .region _ ops draw,env,K,s=>cond ((ops.toList.all λo=>okOp o.op)&&(draw||(qCp ops.toList).isNone))
   (cond draw (cond (qDe ops.toList&&qNP (qVC A ops.toList) ops (clsL P ops.toList) (masks ops.toList [])) (opsQ P X (qVC A ops.toList) nt ops.toList (clsL P ops.toList) (masks ops.toList []) ops.toList 0 [] [] [] env (λenv s=>K .nrm env s) s) False)
    (opsE P X nt ops.toList ops.toList [] env (λenv s=>K .nrm env s) s)) False
 | .seq a b,env,K,s=>wpC A nt rnd a env (λe env s=>match e with
   | .nrm=>wpC A nt rnd b env K s
   |e=>K e env s) s
 | .cond c a b,env,K,s=>cond (okX c) (qAL (evD env c) (wpC A nt rnd a env K s) (wpC A nt rnd b env K s)) False
 | .block id b,env,K,s=>wpC A nt rnd b env (λe env s=>match e with
   | .exit id'=>cond (Nat.beq id' id) (K .nrm env s) (K (.exit id') env s)
   |e=>K e env s) s
 | .loop b,env,K,s=>match qDj b with
   |some _=>False
   |none=>zAA4 (A (2*qNX b)) (assigned b) (λenv K s=>wpC A nt rnd b env K s) env K s
 | .exit id,env,K,s=>K (.exit id) env s
 | .ret,env,K,s=>K .ret env s
 |_,_,_,_=>False
def resK:List ResultVar->Env->(List AV->Prop)->Hq->Prop
 |[],_,k,_=>k []
 | .tmp t::rs,env,k,s=>resK rs env (λvs=>k (env t::vs)) s
 | .cell a t::rs,env,k,s=>qN7 P t (env a) (λv=>resK rs env (λvs=>k (v::vs)) s) s
def retK(e:AExit)(p:Prop):Prop:=match e with
 | .exit _=>False
 |_=>p
end
variable {α:Type} {P:Program} {X:Td} {A:Nat→List Nat} {nt:Nat} {rnd:Option Nat}
def mkH(ms:List Nat):Hq:=λi=>if i∈ms then some (false,.deferred true)else none
theorem qRt{ms:List Nat}{i:Nat}:mkH ms i≠none↔i∈ms:=by unfold mkH;by_cases h:i∈ms<;>simp[h]
theorem qNz{i:Nat}:∀{l:List Nat},memN i l=true↔i∈l
 |[]=>by simp[memN]
 | j::l=>by
   unfold memN;cases h:Nat.beq i j with
   |true=>simp[bE h]
   | false=>
     have:i≠j:=λe=>by rw[e,Nat.beq_refl]at h;cases h
     simp[qNz (l:=l),this]
theorem qKV:∀{l:List Oper}{o:Oper}{d:Nat},o∈l->o.dst=some d->d∈qNj l
 |[],_,_,h,_=>by cases h
 | p::l,o,d,h,hd=>by
   unfold qNj;rcases mC h with rfl|h
   ·rw[hd];exact List.mem_cons_self ..
   ·cases p.dst with
    |none=>exact qKV h hd
    |some _=>exact mO _ (qKV h hd)
theorem qK5:∀(os:List Oper) (acc:List Nat),(masks os acc).length=acc.length+os.length
 |[],acc=>by simp[masks]
 |o::os,acc=>by rw[masks,qK5];simp;omega
def mkm(ms:List Nat):List Mk:=ms.map Mk.mark
def qXT(c:Code)(env:Env)(K:AExit->Env->Hq->Prop)(ms:List Nat)(rnd:Option Nat)(o:Out)(S:Hq):Prop:=
 ∃e T' env' ms' s',o=.exit e T' (mkm (ms'++ms))/\TR T' env'/\S=add s' (mkH (ms'++ms))/\(∀i∈ms'++ms,s' i=none)/\(ms'++ms).Nodup/\(∀j,j ∉ assigned c->env' j=env j)/\(rnd≠none->ms'=[])/\K e env' s'
def qIv(P:Program)(X:Td)(A:Nat->List Nat)(nt:Nat)(rnd:Option Nat)(c:Code):Prop:=∀(env:Env) (K:AExit->Env->Hq->Prop) (s:Hq),wpC P X A nt rnd c env K s->∀(T:Tmps) (ms:List Nat),TR T env->(∀i∈ms,s i=none)->ms.Nodup->
 wpF (λn=>run P X n (.code nt rnd c T (mkm ms))) (qXT c env K ms rnd) (add s (mkH ms))
theorem wpF.succ{m:Nat->M α}{m':Nat->M α}{Q:α->Hq->Prop}{s:Hq}(h:wpF m Q s)(e:∀n,m' (n+1)=m n):wpF m' Q s:=λH hH=>by obtain⟨n,a,H',h1,h2⟩:=h H hH;exact⟨n+1,a,H',by rw[e];exact h1,h2⟩
theorem qDZ{c:Code}{T:Tmps}{ms:List Mk}{Q:Out->Hq->Prop}{s:Hq}(h:wpF (λn=>qBB P (run P X n) nt rnd c T ms) Q s):wpF (λn=>run P X n (.code nt rnd c T ms)) Q s:=h.succ λ_=>rfl
theorem qXT.stay{c:Code}{env:Env}{K:AExit->Env->Hq->Prop}{ms:List Nat}{e:AExit}{T:Tmps}{s:Hq}(hT:TR T env)(hm:∀i∈ms,s i=none)(hnd:ms.Nodup)(h:K e env s):qXT c env K ms rnd (.exit e T (mkm ms)) (add s (mkH ms)):=
 ⟨e,T,env,[],s,rfl,hT,rfl,hm,hnd,λ_ _=>rfl,λ_=>rfl,h⟩
theorem zAAf:qIv P X A nt rnd .skip:=λenv K s h T ms hT hm hnd=>qDZ (wpF.ret (.stay hT hm hnd h))
theorem zAAa{id:Nat}:qIv P X A nt rnd (.exit id):=λenv K s h T ms hT hm hnd=>qDZ (wpF.ret (.stay hT hm hnd h))
theorem zACZ:qIv P X A nt rnd .ret:=λenv K s h T ms hT hm hnd=>qDZ (wpF.ret (.stay hT hm hnd h))
theorem qWm(hX:FrX X){id:Nat}{ops:Array Oper}{draw:Bool}:qIv P X A nt rnd (.region id ops draw):=by
 intro env K s h T ms hT hm hnd;refine qDZ ?_;unfold wpC at h;cases hokd:((ops.toList.all λo=>okOp o.op)&&(draw||(qCp ops.toList).isNone))with
 |false=>rw[hokd]at h;exact h.elim
 | true=>
   rw[hokd,cond_true]at h;obtain⟨hok,hdn⟩:=Bool.and_eq_true_iff.1 hokd;have fin:∀m:Nat->M Tmps,(∀n,Fr (m n))->Mono m->wpF m (λT' s'=>∃env',TR T' env'/\K .nrm env' s'/\∀j,(∀o∈ops.toList,o.dst≠some j)->env' j=env j) s->
     wpF (λn=>bd (m n) λT=>ret (Out.exit .nrm T (mkm ms))) (qXT (.region id ops draw) env K ms rnd) (add s (mkH ms)):=by
    intro m hfr hmo hw;refine wpF.bd (f:=λ_ T=>ret (Out.exit .nrm T (mkm ms))) hmo (λ_=>.const _) ((wpF.frame hfr hw λi hi=>hm i (qRt.1 hi)).mono ?_);rintro T' S ⟨s',rfl,hs',env',q1,q2,q3⟩;refine wpF.ret ⟨.nrm,T',env',[],s',rfl,q1,rfl,λi hi=>hs' i (qRt.2 hi),hnd,λj hj=>q3 j λo ho hd=>hj ?_,λ_=>rfl,q2⟩;exact qKV ho hd
   unfold qBB;cases draw with
   | false=>
     simp only[cond_false]at h ⊢;have hdn:qCp ops.toList=none:=by simpa using hdn
     rw[hdn];exact fin _ (λn=>qO0 P (qHa P hX n) _ _ _ _) (qMP _ _ _ _) (qQX _ _ _ _ _ hok hT .nil h)
   | true=>
     simp only[cond_true]at h ⊢;cases hr:(qDe ops.toList&&qNP (qVC A ops.toList) ops (clsL P ops.toList) (masks ops.toList []))with
     |false=>rw[hr]at h;exact h.elim
     | true=>
       rw[hr,cond_true]at h;obtain⟨h1,h2⟩:=Bool.and_eq_true_iff.1 hr;simp only[h1,cond_true];have hlen:(masks ops.toList []).length=ops.size:=by rw[qK5];simp
       refine fin _ (λn=>qQe P (qHa P hX n) _ _ _ _ _ _) (qPq _ _ _ _ _) λH hH=>?_;obtain⟨n,T',H',q1,s',env',q2,q3,q4,q5,q6⟩:=qVI hX hlen h2 ops.toList 0 [] [] [] env s T [] rfl hok hT .nil h H hH ⟨rfl,by simp,by simp,by simp,by simp,by simp⟩;exact⟨n,T',H',q1,s',q2,q3,env',q4,q5,q6⟩
theorem zACd{a b:Code}(ha:qIv P X A nt rnd a)(hb:qIv P X A nt rnd b):qIv P X A nt rnd (.seq a b):=by
 intro env K s h T ms hT hm hnd;refine qDZ ?_;unfold wpC at h;unfold qBB;refine wpF.bd (m:=λn=>run P X n (.code nt rnd a T (mkm ms))) (f:=λn o=>match o with
  | .exit .nrm T ms=>run P X n (.code nt rnd b T ms)
  |o=>ret o) (qC9 _) (λo=>?_) ((ha env _ s h T ms hT hm hnd).mono ?_)
 ·cases o with
  | exit e T ms=>cases e with
    |nrm=>exact qC9 _
    |_=>exact .const _
  |val v=>exact .const _
 ·rintro o S ⟨e,T1,env1,ms1,s1,rfl,q1,rfl,q2,q3,q4,q5,q6⟩
  cases e with
  | nrm=>
    refine(hb env1 K s1 q6 T1 (ms1++ms) q1 q2 q3).mono ?_;rintro o S ⟨e,T2,env2,ms2,s2,rfl,r1,rfl,r2,r3,r4,r5,r6⟩;refine⟨e,T2,env2,ms2++ms1,s2,by rw[List.append_assoc],r1,by rw[List.append_assoc],by rw[List.append_assoc];exact r2,by rw[List.append_assoc];exact r3,λj hj=>?_,λhr=>by rw[r5 hr,q5 hr];rfl,r6⟩;simp only[assigned,List.mem_append,not_or]at hj;rw[r4 j hj.2,q4 j hj.1]
  |exit id=>exact wpF.ret ⟨_,T1,env1,ms1,s1,rfl,q1,rfl,q2,q3,λj hj=>q4 j (by simp only[assigned,List.mem_append,not_or]at hj;exact hj.1),q5,q6⟩
  |ret=>exact wpF.ret ⟨_,T1,env1,ms1,s1,rfl,q1,rfl,q2,q3,λj hj=>q4 j (by simp only[assigned,List.mem_append,not_or]at hj;exact hj.1),q5,q6⟩
theorem zABM{c:Operand}{a b:Code}(ha:qIv P X A nt rnd a)(hb:qIv P X A nt rnd b):qIv P X A nt rnd (.cond c a b):=by
 intro env K s h T ms hT hm hnd;refine qDZ ?_;unfold wpC at h;cases hok:okX c with
 |false=>rw[hok]at h;exact h.elim
 | true=>
   rw[hok,cond_true]at h;unfold qBB;simp only[qLu hT hok];unfold qAL at h;split at h
   ·rename_i e
    simp only[e,cond_true];refine(ha env K s h T ms hT hm hnd).mono ?_;rintro o S ⟨e,T2,env2,ms2,s2,rfl,r1,rfl,r2,r3,r4,r5,r6⟩;exact⟨e,T2,env2,ms2,s2,rfl,r1,rfl,r2,r3,λj hj=>r4 j (by simp only[assigned,List.mem_append,not_or]at hj;exact hj.1),r5,r6⟩
   ·rename_i e
    simp only[e,cond_false];refine(hb env K s h T ms hT hm hnd).mono ?_;rintro o S ⟨e,T2,env2,ms2,s2,rfl,r1,rfl,r2,r3,r4,r5,r6⟩;exact⟨e,T2,env2,ms2,s2,rfl,r1,rfl,r2,r3,λj hj=>r4 j (by simp only[assigned,List.mem_append,not_or]at hj;exact hj.2),r5,r6⟩
   ·exact h.elim
theorem qYn{id:Nat}{b:Code}(hb:qIv P X A nt rnd b):qIv P X A nt rnd (.block id b):=by
 intro env K s h T ms hT hm hnd;refine qDZ ?_;unfold wpC at h;unfold qBB;refine wpF.bd (m:=λn=>run P X n (.code nt rnd b T (mkm ms))) (f:=λ_ o=>match o with
  | .exit (.exit id') T ms=>cond (Nat.beq id' id) (ret (.exit .nrm T ms)) (ret (.exit (.exit id') T ms))
  |o=>ret o) (qC9 _) (λ_=>.const _) ((hb env _ s h T ms hT hm hnd).mono ?_)
 rintro o S ⟨e,T1,env1,ms1,s1,rfl,q1,rfl,q2,q3,q4,q5,q6⟩;cases e with
 | exit id'=>
   simp only at q6 ⊢;cases hb:Nat.beq id' id with
   |true=>rw[hb]at q6;exact wpF.ret ⟨_,T1,env1,ms1,s1,rfl,q1,rfl,q2,q3,q4,q5,q6⟩
   |false=>rw[hb]at q6;exact wpF.ret ⟨_,T1,env1,ms1,s1,rfl,q1,rfl,q2,q3,q4,q5,q6⟩
 |nrm=>exact wpF.ret ⟨_,T1,env1,ms1,s1,rfl,q1,rfl,q2,q3,q4,q5,q6⟩
 |ret=>exact wpF.ret ⟨_,T1,env1,ms1,s1,rfl,q1,rfl,q2,q3,q4,q5,q6⟩
theorem qLb{b:Code}{st:MapStep}(h:qDj b=some st):∃a,b=.seq a st.rest:=by
 unfold qDj at h;split at h
 ·rename_i id ops rest
  split at h
  ·rename_i nx it ty1 pos1 af1 more nx' ty2 pos2 af2 hops
   cases e:Nat.beq nx nx' with
   |false=>rw[e]at h;cases h
   |true=>rw[e]at h;cases h;exact⟨_,rfl⟩
  ·cases h
 ·cases h
theorem zAAg(hX:FrX X){b:Code}(hb:qIv P X A nt rnd b)(hr:∀st,qDj b=some st->qIv P X A nt rnd st.rest):qIv P X A nt rnd (.loop b):=by
 intro env K s h T ms hT hm hnd;unfold wpC at h;cases hms:qDj b with
 | some st=>
   rw[hms]at h;exact h.elim
 |none=>
 rw[hms]at h;simp only at h;unfold zAA4 at h;obtain⟨I,⟨m,h0⟩,hstep⟩:=h;have key:∀(m:Nat) (env1:Env) (s1:Hq) (T1:Tmps) (ms1:List Nat),I ((A (2*qNX b)).map env1) s1 m->(∀j,j ∉ assigned b->env1 j=env j)->TR T1 env1->(∀i∈ms1,s1 i=none)->ms1.Nodup->
   wpF (λn=>run P X n (.code nt rnd (.loop b) T1 (mkm ms1))) (λo S=>∃e T' env' ms' s',o=.exit e T' (mkm (ms'++ms1))/\TR T' env'/\S=add s' (mkH (ms'++ms1))/\(∀i∈ms'++ms1,s' i=none)/\(ms'++ms1).Nodup/\(∀j,j ∉ assigned b->env' j=env j)/\(rnd≠none->ms'=[])/\K e env' s') (add s1 (mkH ms1)):=by
  intro m
  induction m using Nat.strongRecOn with
  | _ m ih=>
    intro env1 s1 T1 ms1 hI hag hT1 hm1 hnd1;refine qDZ ?_;have hmix:mixE (assigned b) env1 env=env1:=by
     funext j
     unfold mixE;cases hj:memN j (assigned b)with
     |true=>rfl
     |false=>exact(hag j λq=>by rw[qNz.2 q]at hj;cases hj).symm
    have hbody:=hstep env1 s1 m hI;rw[hmix]at hbody;unfold qBB;simp only[hms];refine wpF.bd (m:=λn=>run P X n (.code nt rnd b T1 (mkm ms1))) (f:=λn o=>match o with
     | .exit .nrm T ms=>run P X n (.code nt rnd (.loop b) T ms)
     |o=>ret o) (qC9 _) (λo=>?_) ((hb env1 _ s1 hbody T1 ms1 hT1 hm1 hnd1).mono ?_)
    ·cases o with
     | exit e T ms=>cases e with
       |nrm=>exact qC9 _
       |_=>exact .const _
     |val v=>exact .const _
    ·rintro o S ⟨e,T2,env2,ms2,s2,rfl,q1,rfl,q2,q3,q4,q5,q6⟩
     have hag2:∀j,j ∉ assigned b->env2 j=env j:=λj hj=>(q4 j hj).trans (hag j hj);cases e with
     | nrm=>
       obtain⟨m',hlt,hI'⟩:=q6;refine(ih m' hlt env2 s2 T2 (ms2++ms1) hI' hag2 q1 q2 q3).mono ?_;rintro o S ⟨e,T3,env3,ms3,s3,rfl,r1,rfl,r2,r3,r4,r5,r6⟩;exact⟨e,T3,env3,ms3++ms2,s3,by rw[List.append_assoc],r1,by rw[List.append_assoc],by rw[List.append_assoc];exact r2,by rw[List.append_assoc];exact r3,r4,λhr=>by rw[r5 hr,q5 hr];rfl,r6⟩
     |exit id=>exact wpF.ret ⟨_,T2,env2,ms2,s2,rfl,q1,rfl,q2,q3,hag2,q5,q6⟩
     |ret=>exact wpF.ret ⟨_,T2,env2,ms2,s2,rfl,q1,rfl,q2,q3,hag2,q5,q6⟩
 exact key m env s T ms h0 (λ_ _=>rfl) hT hm hnd
end Go.AM
namespace Go.AM
open Go
variable {α:Type} {P:Program} {X:Td} {A:Nat→List Nat} {nt:Nat} {rnd:Option Nat}
theorem wpF.drop{m:Nat->M α}{Q:α->Hq->Prop}{s t:Hq}(h:wpF m Q t)(hs:Sub t s)(hp:Pers s t):wpF m Q s:=λH hH=>by obtain⟨n,a,H',h1,s',h2,h3,h4⟩:=h H (hH.sub hs);exact⟨n,a,H',h1,s',h2,hp.trans h3,h4⟩
theorem qWA{s:Hq}{b:Nat}{e:Bool×Blk}:hset s b e b=some e:=if_pos rfl
theorem qRT{s:Hq}{b i:Nat}{e:Bool×Blk}(h:i≠b):hset s b e i=s i:=if_neg h
theorem qEk{s:Hq}{b i:Nat}(h:i≠b):hdel s b i=s i:=if_neg h
theorem qH9(hX:FrX X):∀c:Code,qIv P X A nt rnd c
 | .skip=>zAAf
 | .region _ _ _=>qWm hX
 | .seq a b=>zACd (qH9 hX a) (qH9 hX b)
 | .cond _ a b=>zABM (qH9 hX a) (qH9 hX b)
 | .block _ b=>qYn (qH9 hX b)
 | .loop b=>zAAg hX (qH9 hX b) (match b with
   | .seq _ r=>
     have hr:=qH9 hX r
     λst h=>by
      obtain⟨a',e⟩:=qLb h
      injection e with _ e2
      rw[<- e2];exact hr
   | .skip | .region _ _ _ | .cond _ _ _ | .block _ _ | .loop _ | .exit _ | .ret | .rangeFunc _ _ _ _ | .scope _ | .label _ | .goto _ | .refuse _=>λst h=>by obtain⟨a',e⟩:=qLb h;cases e)
 | .exit _=>zAAa
 | .ret=>zACZ
 | .rangeFunc _ _ _ _=>λ_ _ _ h=>h.elim
 | .scope _=>λ_ _ _ h=>h.elim
 | .label _=>λ_ _ _ h=>h.elim
 | .goto _=>λ_ _ _ h=>h.elim
 | .refuse _=>λ_ _ _ h=>h.elim
theorem qEN(l:List Mk):Mono λn=>qBW P (run P X n) l:=qED λn=>qCo (qFU n) l
theorem qK6{s:Hq}{Q:Hq->Prop}:∀(ms:List Nat) (S:Hq),ms.Nodup->(∀i∈ms,S i=some (false,.deferred true))->Sub s S->Pers S s->(∀i∈ms,s i=none)->Q s->wpF (λn=>qBW P (run P X n) (mkm ms)) (λ_ s'=>Q s') S
 |[],S,_,_,hs,hp,_,h=>wpF.drop (wpF.ret h) hs hp
 | r::ms,S,hnd,hS,hs,hp,hm,h=>by
   have hr:=hS r (by simp);show wpF (λn=>qBW P (run P X n) (Mk.mark r::mkm ms)) _ S;unfold qBW;refine wpF.bd (f:=λn blk=>match blk with
    | .deferred true=>bd (wr r (.deferred false)) λ_=>qBW P (run P X n) (mkm ms)
    |_=>fail) (.const _) (λblk=>qED λn=>?_) (wpF.rd hr λab hab=>?_)
   ·split
    ·exact LeM.bd (LeM.refl _) λ_=>qCo (qFU n) _
    ·exact LeM.refl _
   cases ab with
   | deferred b=>
     cases hab;refine wpF.bd (.const _) (λ_=>qEN _) (wpF.wr hr (x:=.deferred false) rfl (qK6 ms _ (List.nodup_cons.1 hnd).2 (λi hi=>?_) (λi e hi=>?_) (λi b hi=>?_) (λi hi=>hm i (by simp[hi])) h))
     ·rw[qRT (show i≠r from λe=>(List.nodup_cons.1 hnd).1 (e ▸ hi))];exact hS i (by simp[hi])
     ·rw[qRT (show i≠r from λq=>by rw[q,hm r (by simp)]at hi;cases hi)];exact hs i e hi
     ·by_cases q:i=r
      ·subst q;rw[qWA]at hi;cases hi
      ·rw[qRT q]at hi;exact hp i b hi
   |_=>exact hab.elim
theorem qRN(args:List AV):TR (Tr.ofListAt .nil 0 args) (qPA args):=by
 intro i;unfold tget qPA;rw[Tr.get_ofListAt];split
 ·rw[List.getD_eq_getElem?_getD];rfl
 ·rename_i h
  rw[Tr.get_nil,List.getD_eq_getElem?_getD,List.getElem?_eq_none (by omega)]
theorem qPI{o:Option α}{K K':α->Prop}(hk:∀a,K a->K' a)(h:oK o K):oK o K':=by
 cases o with
 |none=>exact h
 |some a=>exact hk a h
theorem qSh{t:TypeId}{p:AV}{K K':AV->Prop}{s:Hq}(hk:∀v,K v->K' v)(h:qN7 P t p K s):qN7 P t p K' s:=by
 unfold qN7 at h ⊢;split at h
 ·exact qPI (λl hl=>hk _ hl) h
 ·exact qPI hk h
 ·exact h
theorem qIj{T:Tmps}{env:Env}(hT:TR T env):∀(rs:List ResultVar) (k:List AV->Prop) (s:Hq),resK P rs env k s->wpF (λ_=>qCX P T rs) (λvs s'=>s'=s/\k vs) s
 |[],k,s,h=>wpF.ret ⟨rfl,h⟩
 | .tmp t::rs,k,s,h=>by
   unfold qCX;refine wpF.bd (.const _) (λ_=>.const _) ((qIj hT rs _ s h).mono ?_);rintro vs s' ⟨rfl,hk⟩;refine wpF.ret ⟨rfl,?_⟩;have:=hT t;unfold tget at this;cases hg:T.get t with
   |none=>rw[hg]at this;simp only[Option.getD_none]at this;simp only[this];exact hk
   |some v=>rw[hg]at this;simp only[Option.getD_some]at this;simp only[this];exact hk
 | .cell a t::rs,k,s,h=>by
   unfold resK at h;unfold qCX;have hg:∀b o,env a=.ptr b o->T.get a=some (.ptr b o):=by
    intro b o e;have:=hT a;unfold tget at this;cases hg:T.get a with
    |none=>rw[hg,e]at this;cases this
    |some v=>rw[hg,e]at this;simp only[Option.getD_some]at this;rw[this]
   have hp:∃b o,env a=.ptr b o:=by
    unfold qN7 at h;split at h
    ·obtain⟨l,e,_⟩:=qAf h
     unfold rdN at e;split at e
     ·rename_i b o q;exact⟨b,o,q⟩
     ·cases e
    ·obtain⟨l,e,_⟩:=qAf h
     unfold rd1 at e;split at e
     ·rename_i b o q;exact⟨b,o,q⟩
     ·cases e
    ·exact h.elim
   obtain⟨b,o,e⟩:=hp;simp only[hg b o e];rw[e]at h;have hld:wpF (λ_=>qGo P t b o) (λv s'=>s'=s/\resK P rs env (λvs=>k (v::vs)) s) s:=qUp (p:=.ptr b o) (Q:=λv s'=>s'=s/\resK P rs env (λvs=>k (v::vs)) s) (qSh (λv hv=>⟨rfl,hv⟩) h);refine wpF.bd (.const _) (λ_=>.const _) (hld.mono ?_);rintro v s' ⟨rfl,hv⟩;refine wpF.bd (.const _) (λ_=>.const _) ((qIj hT rs _ _ hv).mono ?_);rintro vs s' ⟨rfl,hk⟩;exact wpF.ret ⟨rfl,hk⟩
theorem qQc(hX:FrX X)(A:Nat->List Nat){f:FuncId}(hXf:X f=none){fn:Func}{c:Code}(hf:P.funcs[f]?=some fn)(hb:fn.body=some c){args:List AV}(hl:Nat.ble args.length fn.ntmps=true){K:AV->Hq->Prop}{s:Hq}
  (h:wpC P X A fn.ntmps none c (qPA args) (λe env s=>retK e (resK P fn.results.toList env (λvs=>K (oneV vs) s) s)) s):wC P X f args K s:=by
 unfold wC wpT;refine wpF.succ (m:=λn=>qBc P (run P X n) f args) ?_ (λn=>by
  show(match X f with
   |some g=>bd (g args) λv=>ret (Out.val v)
   |none=>qBc P (run P X n) f args)=_
  rw[hXf])
 unfold qBc;simp only[hf,hb];refine wpF.cond hl ?_;have hc:=qH9 (P:=P) (A:=A) (nt:=fn.ntmps) (rnd:=none) hX c (qPA args) _ s h (Tr.ofListAt .nil 0 args) [] (qRN args) (by simp) List.nodup_nil;have e0:add s (mkH [])=s:=by funext i;unfold add mkH;cases s i<;>simp
 rw[e0]at hc;refine wpF.bd (m:=λn=>run P X n (.code fn.ntmps none c (Tr.ofListAt .nil 0 args) [])) (qC9 _) (λo=>qED λn=>?_) (hc.mono ?_)
 ·split
  ·split
   ·exact LeM.refl _
   ·exact LeM.bd (qCo (qFU n) _) λ_=>LeM.refl _
  ·exact LeM.refl _
 rintro o S ⟨e,T',env',ms',s',rfl,q1,rfl,q2,q3,_,_,q6⟩;simp only[List.append_nil]at q2 q3 ⊢;have body:resK P fn.results.toList env' (λvs=>K (oneV vs) s') s'->wpF (λn=>bd (qBW P (run P X n) (mkm ms')) λ_=>bd (qCX P T' fn.results.toList) λvs=>ret (Out.val (oneV vs))) (λo s'=>∃v,o=.val v/\K v s') (add s' (mkH ms')):=by
  intro hr;refine wpF.bd (qEN _) (λ_=>.const _) ((qK6 (Q:=λt=>t=s') ms' _ q3 (λi hi=>?_) (λi e hi=>qBt hi) (λi b hi=>?_) q2 rfl).mono ?_)
  ·rw[qCJ (q2 i hi)];unfold mkH;rw[if_pos hi]
  ·cases q:s' i with
   |some x=>rw[qBt q]at hi;exact hi
   | none=>
     rw[qCJ q]at hi;unfold mkH at hi;split at hi<;>cases hi
  ·rintro _ t rfl
   refine wpF.bd (.const _) (λ_=>.const _) ((qIj q1 _ _ _ hr).mono ?_);rintro vs s'' ⟨rfl,hk⟩;exact wpF.ret ⟨_,rfl,hk⟩
 cases e with
 |exit id=>exact q6.elim
 |nrm=>exact body q6
 |ret=>exact body q6
end Go.AM
namespace Go.AM
open Go Go.RowKit Go.ChangeShapes Go.WideShapes Go.ChangeAt
def tiles(P:Program)(total:Nat):Nat->List Field->Bool
 |off,[]=>Nat.beq off total
 |off,f::fs=>Nat.beq f.offset off&&tiles P total (off+P.cellsOf f.type) fs
def plainT(P:Program):Nat->TypeId->Bool
 | 0,_=>false
 | d+1,t=>match P.underlying t with
   |some .bool|some (.int _)|some .string=>true
   |some (.slice e)=>Nat.blt 0 (P.cellsOf e)&&plainT P d e
   |some (.struct fs)=>tiles P (P.cellsOf t) 0 fs.toList&&fs.toList.all λf=>plainT P d f.type
   |some (.array n e)=>Nat.beq (P.cellsOf t) (n*P.cellsOf e)&&(Nat.blt 0 (P.cellsOf e)&&plainT P d e)
   |_=>false
def Inp(P:Program)(s:Hq):Nat->TypeId->List AV->Prop
 | 0,_,_=>False
 | d+1,t,xs=>match P.underlying t with
   |some .bool=>∃b,xs=[.bool b]
   |some (.int k)=>∃n,xs=[.int k n]/\(Lit.int k n).wf=true
   |some .string=>∃v,xs=[.str v]/\v.size<=maxLen
   |some (.slice e)=>xs=[.nilslc]∨∃b len cap,xs=[.slc b 0 len (some cap) (P.cellsOf e)]/\len<=cap/\cap<=maxLen/\
     (0<cap->∃el l,s b=some (true,.cells el l)/\l.length=cap*P.cellsOf e/\∀i,i<cap->Inp P s d e ((l.drop (i*P.cellsOf e)).take (P.cellsOf e)))
   |some (.struct fs)=>xs.length=P.cellsOf t/\∀f∈fs.toList,Inp P s d f.type ((xs.drop f.offset).take (P.cellsOf f.type))
   |some (.array n e)=>xs.length=P.cellsOf t/\∀i,i<n->Inp P s d e ((xs.drop (i*P.cellsOf e)).take (P.cellsOf e))
   |_=>False
abbrev IB:=List (Loc×TypeId×List AV)
def rhoB(B:IB):Ren:=λid=>match id with
 | 0=>some ⟨0,0,0⟩
 | i+1=>match B[i]? with
   |some x=>some x.1
   |none=>none
def qKL(B:IB):Hq:=λid=>match id with
 | 0=>none
 | i+1=>match B[i]? with
   |some x=>some (true,.cells x.2.1 x.2.2)
   |none=>none
theorem qMb(B C:IB):Le (rhoB B) (rhoB (B++C)):=by
 intro id L h;cases id with
 |zero=>exact h
 | succ i=>
   unfold rhoB at h ⊢;simp only at h ⊢;cases e:B[i]? with
   |none=>rw[e]at h;cases h
   |some x=>rw[e]at h;rw[List.getElem?_append_left (gS e).1,e];exact h
theorem qJi(B C:IB):Sub (qKL B) (qKL (B++C)):=by
 intro id L h;cases id with
 |zero=>exact h
 | succ i=>
   unfold qKL at h ⊢;simp only at h ⊢;cases e:B[i]? with
   |none=>rw[e]at h;cases h
   |some x=>rw[e]at h;rw[List.getElem?_append_left (gS e).1,e];exact h
theorem Inp.sub{P:Program}{s s':Hq}(hs:Sub s s'):∀(d:Nat) (t:TypeId) (xs:List AV),Inp P s d t xs->Inp P s' d t xs
 | 0,_,_,h=>h
 | d+1,t,xs,h=>by
   unfold Inp at h ⊢;split at h
   ·exact h
   ·exact h
   ·exact h
   ·rcases h with h|⟨b,len,cap,h1,h2,h3,h4⟩
    ·exact .inl h
    ·refine .inr ⟨b,len,cap,h1,h2,h3,λhc=>?_⟩
     obtain⟨el,l,q1,q2,q3⟩:=h4 hc;exact⟨el,l,hs _ _ q1,q2,λi hi=>Inp.sub hs d _ _ (q3 i hi)⟩
   ·exact⟨h.1,λf hf=>Inp.sub hs d _ _ (h.2 f hf)⟩
   ·exact⟨h.1,λi hi=>Inp.sub hs d _ _ (h.2 i hi)⟩
   ·exact h
def VB(σ:Nat->Value)(B:IB)(W:World):Prop:=∀(i:Nat) (x:Loc×TypeId×List AV),B[i]?=some x->∃(cc:Array Value) (fr:Nat×Nat),W.heap[x.1.blk]?=some (.cells cc x.2.1 fr)/\cc.size=x.1.sz/\x.1.sh+x.2.2.length<=cc.size/\qAa x.2.2=true/\
 ∀(j:Nat) (v:AV),x.2.2[j]?=some v->∃v',cc[x.1.sh+j]?=some v'/\Rel σ (rhoB B) v v'/\v'.oneCell'=true
theorem VB.snoc{σ:Nat->Value}{B:IB}{W:World}(h:VB σ B W)(x:Loc×TypeId×List AV)
  (hx:∃(cc:Array Value) (fr:Nat×Nat),W.heap[x.1.blk]?=some (.cells cc x.2.1 fr)/\cc.size=x.1.sz/\x.1.sh+x.2.2.length<=cc.size/\qAa x.2.2=true/\∀(j:Nat) (v:AV),x.2.2[j]?=some v->∃v',cc[x.1.sh+j]?=some v'/\Rel σ (rhoB B) v v'/\v'.oneCell'=true):VB σ (B ++ [x]) W:=by
 intro i y hy;rw[List.getElem?_append]at hy;split at hy
 ·obtain⟨cc,fr,h1,h2,h3,h4,h5⟩:=h i y hy
  exact⟨cc,fr,h1,h2,h3,h4,λj v hv=>let ⟨v',q1,q2,q3⟩:=h5 j v hv;⟨v',q1,Rel.mono (qMb B [x]) _ _ q2,q3⟩⟩
 ·have:y=x:=by
   cases e:i-B.length with
   |zero=>rw[e]at hy;exact(Option.some.inj hy).symm
   |succ k=>rw[e]at hy;cases hy
  subst this;obtain⟨cc,fr,h1,h2,h3,h4,h5⟩:=hx;exact⟨cc,fr,h1,h2,h3,h4,λj v hv=>let ⟨v',q1,q2,q3⟩:=h5 j v hv;⟨v',q1,Rel.mono (qMb B [y]) _ _ q2,q3⟩⟩
section
variable {H:Type} {enc:TypeId × Value→H} {P:Program} {W:World} {σ:Nat→Value}
theorem qLp(hσ:One σ)(Q:Nat->List AV->Hq->Prop)(hQ:∀i xs s s',Sub s s'->Q i xs s->Q i xs s')(css:Nat->List Value):∀(n:Nat) (B:IB),VB σ B W->
  (∀i,i<n->∀B,VB σ B W->∃xs C,VB σ (B++C) W/\RelL σ (rhoB (B++C)) xs (css i)/\qAa xs=true/\Q i xs (qKL (B++C)))->
  ∃(xss:Nat->List AV) (C:IB),VB σ (B++C) W/\∀i,i<n->RelL σ (rhoB (B++C)) (xss i) (css i)/\qAa (xss i)=true/\Q i (xss i) (qKL (B++C))
 | 0,B,hB,_=>⟨λ_=>[],[],by simpa using hB,λi hi=>by omega⟩
 | n+1,B,hB,h=>by
   obtain⟨xss,C,h1,h2⟩:=qLp hσ Q hQ css n B hB λi hi=>h i (by omega);obtain⟨xs,D,g1,g2,g3,g4⟩:=h n (by omega) (B++C) h1;refine⟨λi=>if i=n then xs else xss i,C++D,by rw[<- List.append_assoc];exact g1,λi hi=>?_⟩;rw[<- List.append_assoc]
   by_cases e:i=n
   ·subst e
    simp only[if_true];exact⟨g2,g3,g4⟩
   ·simp only[if_neg e]
    obtain⟨q1,q2,q3⟩:=h2 i (by omega);exact⟨RelL.mono (qMb (B++C) D) _ _ q1,q2,hQ _ _ _ _ (qJi (B++C) D) q3⟩
def pieces(xss:Nat->List AV)(es n:Nat):List AV:=(List.range (n*es)).map λj=>(xss (j / es)).getD (j % es) .undef
theorem qCW(xss:Nat->List AV)(es n:Nat):(pieces xss es n).length=n*es:=by simp[pieces]
theorem qGh(xss:Nat->List AV)(es n j:Nat)(h:j<n*es):(pieces xss es n)[j]?=some ((xss (j / es)).getD (j % es) .undef):=by simp[pieces,h]
theorem qMt(xss:Nat->List AV)(es n i:Nat)(h0:0<es)(hi:i<n)(hl:(xss i).length=es):((pieces xss es n).drop (i*es)).take es=xss i:=by
 have hm:(i+1)*es<=n*es:=Nat.mul_le_mul_right _ hi;rw[Nat.add_mul,Nat.one_mul]at hm;apply List.ext_getElem?;intro j;rw[List.getElem?_take];split
 ·rename_i hj
  rw[List.getElem?_drop,qGh _ _ _ _ (by omega)];have e1:(i*es+j) / es=i:=by rw[Nat.mul_comm,Nat.mul_add_div h0,Nat.div_eq_of_lt hj];omega
  have e2:(i*es+j) % es=j:=by rw[Nat.mul_comm,Nat.mul_add_mod,Nat.mod_eq_of_lt hj]
  rw[e1,e2,List.getD_eq_getElem?_getD,gE (by omega)];rfl
 ·rw[List.getElem?_eq_none (by omega)]
theorem qPb{l:List AV}(h:∀(j:Nat) (v:AV),l[j]?=some v->v.one=true):qAa l=true:=qIc λx hx=>by obtain⟨i,hi⟩:=List.getElem?_of_mem hx;exact h i x hi
theorem qR4{P:Program}{total:Nat}:∀{fs:List Field}{off:Nat},tiles P total off fs=true->off<=total
 |[],off,h=>by have:=bE h;omega
 | f::fs,off,h=>by
   unfold tiles at h;have:=qR4 (Bool.and_eq_true_iff.1 h).2;omega
theorem qMq(hσ:One σ)(d:Nat)(cs:List Value)(total:Nat)(hl:cs.length=total):∀(fs:List Field) (off:Nat) (B:IB),VB σ B W->tiles P total off fs=true->
  (∀f∈fs,∀B,VB σ B W->∃xs C,VB σ (B++C) W/\RelL σ (rhoB (B++C)) xs ((cs.drop f.offset).take (P.cellsOf f.type))/\qAa xs=true/\Inp P (qKL (B++C)) d f.type xs)->
  ∃xs C,VB σ (B++C) W/\RelL σ (rhoB (B++C)) xs (cs.drop off)/\qAa xs=true/\∀f∈fs,off<=f.offset/\Inp P (qKL (B++C)) d f.type ((xs.drop (f.offset-off)).take (P.cellsOf f.type))
 | [],off,B,hB,ht,_=>by
   refine⟨[],[],by simpa using hB,?_,rfl,by simp⟩;have:=bE ht;rw[List.drop_eq_nil_of_le (by omega)];exact .nil
 | f::fs,off,B,hB,ht,h=>by
   unfold tiles at ht;obtain⟨h1,h2⟩:=Bool.and_eq_true_iff.1 ht;have ho:=bE h1;have hle:=qR4 h2;obtain⟨xs,C,g1,g2,g3,g4⟩:=h f (by simp) B hB;obtain⟨ys,D,k1,k2,k3,k4⟩:=qMq hσ d cs total hl fs (off+P.cellsOf f.type) (B++C) g1 h2 λf' hf'=>h f' (by simp[hf']);have hx:xs.length=P.cellsOf f.type:=by have:=g2.length;rw[<- this,List.length_take,List.length_drop,ho];omega
   refine⟨xs++ys,C++D,by rw[<- List.append_assoc];exact k1,?_,qCq g3 k3,λf' hf'=>?_⟩
   ·rw[<- List.append_assoc]
    have e:cs.drop off=(cs.drop f.offset).take (P.cellsOf f.type)++cs.drop (off+P.cellsOf f.type):=by rw[ho,<- List.drop_drop,List.take_append_drop]
    rw[e];exact RelL.append (RelL.mono (qMb (B++C) D) _ _ g2) k2
   ·rw[<- List.append_assoc]
    rcases mC hf' with rfl|hf'
    ·refine⟨by omega,?_⟩
     rw[ho,Nat.sub_self,List.drop_zero,<- hx,List.take_left];exact Inp.sub (qJi (B++C) D) _ _ _ g4
    ·obtain⟨q1,q2⟩:=k4 f' hf'
     refine⟨by omega,?_⟩;have e:(xs++ys).drop (f'.offset-off)=ys.drop (f'.offset-(off+P.cellsOf f.type)):=by
      rw[List.drop_append,List.drop_eq_nil_of_le (by omega),List.nil_append,hx]
      congr 1;omega
     rw[e];exact q2
theorem qN1(hσ:One σ):∀(d:Nat) (t:TypeId) (cs:List Value) (fuel:Nat) (x:DataW H×List MemPlace),plainT P d t=true->DataW.trod enc P W 0 (λ_=>true) true fuel t cs=some x->
  ∀B,VB σ B W->∃xs C,VB σ (B++C) W/\RelL σ (rhoB (B++C)) xs cs/\qAa xs=true/\Inp P (qKL (B++C)) d t xs
 | 0,_,_,_,_,hp,_,_,_=>by cases hp
 | d+1,t,cs,fuel,x,hp,h,B,hB=>by
   unfold plainT at hp;unfold Inp;split at hp
   ·rename_i hu
    obtain⟨b,rfl,_⟩:=DataW.trod_bool hu h;refine⟨[.bool b],[],by simpa using hB,.cons (by unfold Rel;rfl) .nil,rfl,?_⟩;exact⟨b,rfl⟩
   ·rename_i k hu
    obtain⟨n,rfl,_,hw⟩:=DataW.trod_int hu h;refine⟨[.int k n],[],by simpa using hB,.cons (by unfold Rel;rfl) .nil,rfl,?_⟩;exact⟨n,rfl,hw⟩
   ·rename_i hu
    obtain⟨v,rfl,_,hv⟩:=DataW.trod_string hu h;refine⟨[.str v],[],by simpa using hB,.cons (by unfold Rel;rfl) .nil,rfl,?_⟩;exact⟨v,rfl,hv⟩
   ·rename_i e hu
    obtain⟨hp1,hp2⟩:=Bool.and_eq_true_iff.1 hp;have hes:0<P.cellsOf e:=by rwa [Nat.blt_eq]at hp1
    rcases DataW.trod_slice hu h with⟨rfl,_⟩|⟨a,len,cap,elems,rest,n,_,rfl,_,_,hlc,hcm,hel,hrd,hsp,_⟩
    ·exact⟨[.nilslc],[],by simpa using hB,.cons (by unfold Rel;rfl) .nil,rfl,.inl rfl⟩
    ·obtain⟨hrl,hrd2⟩:=hsp rfl
     have each:∀i,i<cap->∃y,(W.cells? 0 (a.add (i*P.cellsOf e)) (P.cellsOf e)).bind (DataW.trod enc P W 0 (λ_=>true) true n e)=some y:=by
      intro i hi
      by_cases hil:i<len
      ·rw[hrd i hil];exact⟨_,gE (by omega)⟩
      ·have:=hrd2 (i-len) (by omega)
       rw[show len+(i-len)=i by omega]at this;rw[this];exact⟨_,gE (by omega)⟩
     by_cases hc:cap=0
     ·subst hc
      have hl0:len=0:=by omega
      subst hl0;refine⟨[.slc 0 0 0 (some 0) (P.cellsOf e)],[],by simpa using hB,.cons ?_ .nil,rfl,.inr ⟨0,0,0,rfl,Nat.le_refl _,hcm,λh=>by omega⟩⟩;unfold Rel;exact⟨⟨0,0,0⟩,a,0,rfl,rfl,.inr ⟨rfl,rfl⟩,Nat.le_refl _,λk hk=>by cases hk;rfl⟩
     ·have css:∀i,i<cap->∃c,W.cells? 0 (a.add (i*P.cellsOf e)) (P.cellsOf e)=some c/\∃y,DataW.trod enc P W 0 (λ_=>true) true n e c=some y:=by
       intro i hi;obtain⟨y,hy⟩:=each i hi;rw[Option.bind_eq_some_iff]at hy;obtain⟨c,h1,h2⟩:=hy;exact⟨c,h1,y,h2⟩
      obtain⟨xss,C,h1,h2⟩:=qLp (W:=W) hσ (λ_ xs s=>Inp P s d e xs) (λi xs s s' hs h=>Inp.sub hs d e xs h) (λi=>(W.cells? 0 (a.add (i*P.cellsOf e)) (P.cellsOf e)).getD []) cap B hB λi hi B hB=>by obtain⟨c,g1,y,g2⟩:=css i hi;rw[g1];exact qN1 hσ d e c n y hp2 g2 B hB
      have cell:∀i j,i<cap->j<P.cellsOf e->∃v,W.cell? (a.add (i*P.cellsOf e+j))=some v/\((W.cells? 0 (a.add (i*P.cellsOf e)) (P.cellsOf e)).getD [])[j]?=some v:=by
       intro i j hi hj;obtain⟨c,g1,_⟩:=css i hi;obtain⟨_,g2,g3⟩:=World.cells?_some g1;have g4:=g3 j hj;rw[gE (by omega)]at g4;refine⟨c[j]'(by omega),?_,by rw[g1];simp⟩;rw[<- g4]
       congr 1
       unfold Addr.add
       by_cases z1:i*P.cellsOf e=0
       ·by_cases z2:j=0
        ·simp[z1,z2]
        ·simp[z1,z2]
       ·by_cases z2:j=0
        ·simp[z1,z2]
        ·simp[z1,z2,Nat.add_assoc]
      obtain⟨v0,hv0,_⟩:=cell 0 0 (by omega) hes;rw[Nat.zero_mul,zAY]at hv0;have hblk:∃cc el fr,W.heap[a.block]?=some (.cells cc el fr)/\a.spot=none:=by
       have e0:a.add 0=a:=by simp[Addr.add]
       rw[e0]at hv0;unfold World.cell? at hv0;split at hv0
       ·rename_i cc el fr hb
        cases hs:a.spot with
        |none=>exact⟨cc,el,fr,hb,rfl⟩
        |some k=>rw[hs]at hv0;simp at hv0
       ·cases hv0
      obtain⟨cc,el,fr,hb,hspot⟩:=hblk;have ha:a=⟨a.block,a.off,none⟩:=by cases a;simp only at hspot;rw[hspot]
      have at_:∀k,k<cap*P.cellsOf e->∃v,cc[a.off+k]?=some v/\((W.cells? 0 (a.add ((k / P.cellsOf e)*P.cellsOf e)) (P.cellsOf e)).getD [])[k % P.cellsOf e]?=some v:=by
       intro k hk;have hq:k / P.cellsOf e<cap:=by rw[Nat.div_lt_iff_lt_mul hes];exact hk
       obtain⟨v,g1,g2⟩:=cell (k / P.cellsOf e) (k % P.cellsOf e) hq (Nat.mod_lt _ hes);refine⟨v,?_,g2⟩;rw[Nat.mul_comm,Nat.div_add_mod,ha,qDf,qIL hb]at g1;exact g1
      have hlen:∀i,i<cap->(xss i).length=P.cellsOf e:=by intro i hi;have:=(h2 i hi).1.length;obtain⟨c,g1,_⟩:=css i hi;rw[g1]at this;rw[<- this];exact(World.cells?_some g1).2.1
      have hsz:a.off+cap*P.cellsOf e<=cc.size:=by have hpos:0<cap*P.cellsOf e:=Nat.mul_pos (by omega) hes;obtain⟨v,g1,_⟩:=at_ (cap*P.cellsOf e-1) (by omega);have:=(Array.getElem?_eq_some_iff.1 g1).1;omega
      have hvb:VB σ ((B++C) ++ [(⟨a.block,a.off,cc.size⟩,el,pieces xss (P.cellsOf e) cap)]) W:=by
       refine h1.snoc _ ⟨cc,fr,hb,rfl,by rw[qCW];exact hsz,?_,λj v hv=>?_⟩
       ·refine qPb λj v hv=>?_
        have hj:j<cap*P.cellsOf e:=by have:=(gS hv).1;rwa [qCW]at this
        rw[qGh _ _ _ _ hj]at hv;have hq:j / P.cellsOf e<cap:=by rw[Nat.div_lt_iff_lt_mul hes];exact hj
        have hm:j % P.cellsOf e<(xss (j / P.cellsOf e)).length:=by rw[hlen _ hq];exact Nat.mod_lt _ hes
        rw[List.getD_eq_getElem?_getD,gE hm]at hv;cases hv;exact qEG (h2 _ hq).2.1 _ (List.getElem_mem hm)
       ·have hj:j<cap*P.cellsOf e:=by have:=(gS hv).1;rwa [qCW]at this
        rw[qGh _ _ _ _ hj]at hv;have hq:j / P.cellsOf e<cap:=by rw[Nat.div_lt_iff_lt_mul hes];exact hj
        have hm:j % P.cellsOf e<(xss (j / P.cellsOf e)).length:=by rw[hlen _ hq];exact Nat.mod_lt _ hes
        rw[List.getD_eq_getElem?_getD,gE hm]at hv;cases hv;obtain⟨r1,r2,_⟩:=h2 _ hq;obtain⟨y,g1,g2⟩:=r1.get (j % P.cellsOf e) _ (gE hm);obtain⟨v',k1,k2⟩:=at_ j hj;rw[g1]at k2;cases k2;exact⟨y,k1,g2,qOY hσ g2 (qEG r2 _ (List.getElem_mem hm))⟩
      refine⟨[.slc ((B++C).length+1) 0 len (some cap) (P.cellsOf e)],C ++ [(⟨a.block,a.off,cc.size⟩,el,pieces xss (P.cellsOf e) cap)],by rw[<- List.append_assoc];exact hvb,?_,rfl,.inr ⟨_,len,cap,rfl,hlc,hcm,λ_=>⟨el,pieces xss (P.cellsOf e) cap,?_,qCW _ _ _,λi hi=>?_⟩⟩⟩
      ·rw[<- List.append_assoc]
       refine .cons ?_ .nil;unfold Rel;refine⟨⟨a.block,a.off,cc.size⟩,a,cap,?_,rfl,.inl ⟨ha,by simpa using hsz⟩,hlc,λk hk=>by cases hk;rfl⟩;unfold rhoB;simp
      ·rw[<- List.append_assoc]
       unfold qKL;simp
      ·rw[qMt _ _ _ _ hes hi (hlen i hi),<- List.append_assoc]
       exact Inp.sub (qJi (B++C) _) _ _ _ (h2 i hi).2.2
   ·rename_i fs hu
    obtain⟨hp1,hp2⟩:=Bool.and_eq_true_iff.1 hp;obtain⟨xs,n,_,_,hl,hxl,hx⟩:=DataW.trod_struct hu h;obtain⟨ys,C,g1,g2,g3,g4⟩:=qMq (W:=W) (P:=P) hσ d cs (P.cellsOf t) hl fs.toList 0 B hB hp1 λf hf B hB=>by
     obtain⟨i,hi⟩:=List.getElem?_of_mem hf;have hi':fs[i]?=some f:=by simpa using hi
     have:=hx i f hi';rw[gE (by rw[hxl];exact(Array.getElem?_eq_some_iff.1 hi').1)]at this;exact qN1 hσ d f.type _ n _ (List.all_eq_true.1 hp2 f hf) this B hB
    rw[List.drop_zero]at g2;exact⟨ys,C,g1,g2,g3,by rw[<- g2.length];exact hl,λf hf=>by simpa using(g4 f hf).2⟩
   ·rename_i n e hu
    obtain⟨hp1,hp2⟩:=Bool.and_eq_true_iff.1 hp;obtain⟨hp2,hp3⟩:=Bool.and_eq_true_iff.1 hp2;have hes:0<P.cellsOf e:=by rwa [Nat.blt_eq]at hp2
    have htot:=bE hp1;obtain⟨ys,m,_,_,hl,hyl,hy⟩:=DataW.trod_array hu h;obtain⟨xss,C,h1,h2⟩:=qLp (W:=W) hσ (λ_ xs s=>Inp P s d e xs) (λi xs s s' hs h=>Inp.sub hs d e xs h) (λi=>(cs.drop (i*P.cellsOf e)).take (P.cellsOf e)) n B hB λi hi B hB=>by have:=hy i hi;rw[gE (by omega)]at this;exact qN1 hσ d e _ m _ hp3 this B hB
    have hlen:∀i,i<n->(xss i).length=P.cellsOf e:=by intro i hi;have:=(h2 i hi).1.length;rw[<- this,List.length_take,List.length_drop,hl,htot];have:(i+1)*P.cellsOf e<=n*P.cellsOf e:=Nat.mul_le_mul_right _ hi;rw[Nat.add_mul,Nat.one_mul]at this;omega
    refine⟨pieces xss (P.cellsOf e) n,C,h1,?_,?_,by rw[qCW,htot],λi hi=>?_⟩
    ·refine RelL.of_get (by rw[qCW,hl,htot]) λj x y hx hy'=>?_
     have hj:j<n*P.cellsOf e:=by have:=(gS hx).1;rwa [qCW]at this
     rw[qGh _ _ _ _ hj]at hx;have hq:j / P.cellsOf e<n:=by rw[Nat.div_lt_iff_lt_mul hes];exact hj
     have hm:j % P.cellsOf e<(xss (j / P.cellsOf e)).length:=by rw[hlen _ hq];exact Nat.mod_lt _ hes
     rw[List.getD_eq_getElem?_getD,gE hm]at hx;cases hx;obtain⟨y',g1,g2⟩:=(h2 _ hq).1.get (j % P.cellsOf e) _ (gE hm);rw[List.getElem?_take,if_pos (Nat.mod_lt _ hes),List.getElem?_drop,Nat.mul_comm,Nat.div_add_mod,hy']at g1;cases g1;exact g2
    ·refine qPb λj v hv=>?_
     have hj:j<n*P.cellsOf e:=by have:=(gS hv).1;rwa [qCW]at this
     rw[qGh _ _ _ _ hj]at hv;have hq:j / P.cellsOf e<n:=by rw[Nat.div_lt_iff_lt_mul hes];exact hj
     have hm:j % P.cellsOf e<(xss (j / P.cellsOf e)).length:=by rw[hlen _ hq];exact Nat.mod_lt _ hes
     rw[List.getD_eq_getElem?_getD,gE hm]at hv;cases hv;exact qEG (h2 _ hq).2.1 _ (List.getElem_mem hm)
    ·rw[qMt _ _ _ _ hes hi (hlen i hi)]
     exact(h2 i hi).2.2
   ·cases hp
end
end Go.AM
namespace Go.AM
open Go Go.RowKit Go.ChangeShapes Go.WideShapes Go.ChangeAt
section
variable {H:Type} {enc:TypeId × Value→H} {P:Program} {W W':World} {σ:Nat→Value}
theorem qGc{α β:Type}{f g:α->Option β}:∀{l:List α}{ys:List β},l.mapM f=some ys->(∀x∈l,∀y∈ys,f x=some y->g x=some y)->l.mapM g=some ys
 |[],ys,h,_=>by simpa using h
 | a::l,ys,h,hg=>by
   rw[List.mapM_cons]at h ⊢;cases ha:f a with
   |none=>rw[ha]at h;cases h
   | some b=>
     rw[ha]at h;cases hl:l.mapM f with
     |none=>rw[hl]at h;cases h
     | some bs=>
       rw[hl]at h;cases h;rw[hg a (by simp) b (by simp) ha,qGc hl λx hx y hy=>hg x (by simp[hx]) y (by simp[hy])];rfl
theorem qTA(hb:Below W.heap.size W W'){a:Addr}{n:Nat}{cs:List Value}(h:W.cells? 0 a n=some cs):W'.cells? 0 a n=some cs:=by
 unfold World.cells? at h ⊢;rw[if_pos (Nat.zero_le _)]at h ⊢;refine qGc h λi _ v _ hv=>?_;have hlt:(a.add i).block<W.heap.size:=by
  unfold World.cell? at hv;cases hq:W.heap[(a.add i).block]? with
  |none=>rw[hq]at hv;cases hv
  |some o=>exact(Array.getElem?_eq_some_iff.1 hq).1
 rw[<- hv];exact hb.cell hlt
theorem qJo(hb:Below W.heap.size W W')(sp:Nat->Bool):∀(d:Nat) (t:TypeId) (cs:List Value) (fuel:Nat) (x:DataW H×List MemPlace),plainT P d t=true->DataW.trod enc P W 0 (λ_=>true) true fuel t cs=some x->
  (∀p∈x.2,sp p.block=true)->DataW.trod enc P W' 0 sp true fuel t cs=some x
 | 0,_,_,_,_,hp,_,_=>by cases hp
 | d+1,t,cs,fuel,x,hp,h,hsp=>by
   unfold plainT at hp;cases fuel with
   |zero=>cases h
   |succ fuel=>
   split at hp
   ·rename_i hu
    obtain⟨b,rfl,rfl⟩:=DataW.trod_bool hu h;simp only[DataW.trod,hu]
   ·rename_i k hu
    obtain⟨n,rfl,rfl,hw⟩:=DataW.trod_int hu h;simp[DataW.trod,hu,hw]
   ·rename_i hu
    obtain⟨v,rfl,rfl,hv⟩:=DataW.trod_string hu h;simp[DataW.trod,hu,hv]
   ·rename_i e hu
    obtain⟨hp1,hp2⟩:=Bool.and_eq_true_iff.1 hp;have hes:0<P.cellsOf e:=by rwa [Nat.blt_eq]at hp1
    rcases DataW.trod_slice hu h with⟨rfl,rfl⟩|⟨a,len,cap,elems,rest,n,hn,rfl,rfl,_,hlc,hcm,hel,_,hspare,_⟩
    ·simp only[DataW.trod,hu]
    ·obtain⟨hrl,_⟩:=hspare rfl
     have h0:=h;simp only[DataW.trod,hu,if_true,Nat.zero_le,true_and]at h ⊢;rw[if_pos ⟨hlc,hcm⟩]at h ⊢;rw[Option.bind_eq_some_iff]at h;obtain⟨el2,g1,g2⟩:=h;rw[Option.map_eq_some_iff]at g2;obtain⟨re2,g2,g3⟩:=g2;have hlen1:el2.length=len:=by rw[mapM_some_length g1];simp
     have hlen2:re2.length=cap-len:=by rw[mapM_some_length g2];simp
     simp only[Prod.mk.injEq,DataW.slice.injEq]at g3;obtain⟨⟨g31,g32⟩,g4⟩:=g3;have keepE:∀y,(y∈el2∨y∈re2)->∀c,DataW.trod enc P W 0 (λ_=>true) true fuel e c=some y->DataW.trod enc P W' 0 sp true fuel e c=some y:=by
      intro y hy c hc;refine qJo hb sp d e c fuel y hp2 hc λp hpm=>hsp p ?_;simp only;rw[<- g4];refine List.mem_append_right _ (List.mem_flatMap.2 ⟨y,?_,hpm⟩);rcases hy with hy|hy
      ·exact List.mem_append_left _ hy
      ·exact List.mem_append_right _ hy
     have keepB:∀i y,(y∈el2∨y∈re2)->(W.cells? 0 (a.add (i*P.cellsOf e)) (P.cellsOf e)).bind (DataW.trod enc P W 0 (λ_=>true) true fuel e)=some y->
       (W'.cells? 0 (a.add (i*P.cellsOf e)) (P.cellsOf e)).bind (DataW.trod enc P W' 0 sp true fuel e)=some y:=by
      intro i y hy hi;rw[Option.bind_eq_some_iff]at hi ⊢;obtain⟨c,c1,c2⟩:=hi;exact⟨c,qTA hb c1,keepE y hy c c2⟩
     rw[qGc g1 λi _ y hy hi=>keepB i y (.inl hy) hi];simp only[Option.bind_some]
     by_cases hz:cap-len=0
     ·have:re2=[]:=List.eq_nil_of_length_eq_zero (by omega)
      subst this;simp only[hz,List.range_zero,List.mapM_nil];simp only[<- g31,<- g32,<- g4,List.map_nil];split<;>simp
     ·have hblk:sp a.block=true:=by
       refine hsp (.cell a.block (a.off+0)) ?_;simp only;refine List.mem_append_left _ ?_;unfold MemPlace.row;refine List.mem_map.2 ⟨0,?_,rfl⟩;rw[List.mem_range,hel,hrl];exact Nat.mul_pos (by omega) hes
      rw[if_pos hblk,qGc g2 λi _ y hy hi=>keepB (len+i) y (.inr hy) hi];simp only[Option.map_some,<- g31,<- g32,<- g4]
   ·rename_i fs hu
    obtain⟨_,hp2⟩:=Bool.and_eq_true_iff.1 hp;obtain⟨xs,n,_,rfl,hl,hxl,hx⟩:=DataW.trod_struct hu h;simp only[DataW.trod,hu]at h ⊢;rw[if_pos hl]at h ⊢;rw[Option.map_eq_some_iff]at h ⊢;obtain⟨ys,h1,h2⟩:=h;refine⟨ys,qGc h1 λf hf y hy hfy=>?_,h2⟩;refine qJo hb sp d f.type _ fuel y (List.all_eq_true.1 hp2 f hf) hfy λp hpm=>hsp p ?_;simp only[Prod.mk.injEq]at h2 ⊢;rw[<- h2.2];exact List.mem_flatMap.2 ⟨y,hy,hpm⟩
   ·rename_i n e hu
    obtain⟨_,hp2⟩:=Bool.and_eq_true_iff.1 hp;obtain⟨_,hp3⟩:=Bool.and_eq_true_iff.1 hp2;obtain⟨xs,m,_,rfl,hl,hxl,hx⟩:=DataW.trod_array hu h;simp only[DataW.trod,hu]at h ⊢;rw[if_pos hl]at h ⊢;rw[Option.map_eq_some_iff]at h ⊢;obtain⟨ys,h1,h2⟩:=h;refine⟨ys,qGc h1 λi _ y hy hfy=>?_,h2⟩;refine qJo hb sp d e _ fuel y hp3 hfy λp hpm=>hsp p ?_;simp only[Prod.mk.injEq]at h2 ⊢;rw[<- h2.2];exact List.mem_flatMap.2 ⟨y,hy,hpm⟩
   ·cases hp
theorem trodAll_keep(hb:Below W.heap.size W W')(sp:Nat->Bool)(d:Nat):∀(ts:List TypeId) (vs:List Value) (ds:List (DataW H)) (ps:List MemPlace),(ts.all λt=>plainT P d t)=true->DataW.TrodAll enc P W 0 (λ_=>true) true ts vs ds ps->
  (∀p∈ps,sp p.block=true)->DataW.TrodAll enc P W' 0 sp true ts vs ds ps
 | [],vs,ds,ps,_,h,_=>by
   cases vs<;>cases ds<;>first|exact h|exact h.elim
 |t::ts,[],ds,ps,_,h,_=>by cases ds<;>exact h.elim
 |t::ts,v::vs,[],ps,_,h,_=>h.elim
 | t::ts,v::vs,x::ds,ps,hp,h,hsp=>by
   simp only[List.all_cons,Bool.and_eq_true]at hp;obtain⟨p,q,⟨fuel,h1⟩,h2,rfl⟩:=h;exact⟨p,q,⟨fuel,qJo hb sp d t _ fuel _ hp.1 h1 λp hpm=>hsp p (by simp[hpm])⟩,trodAll_keep hb sp d ts vs ds q hp.2 h2 λp hpm=>hsp p (by simp[hpm]),rfl⟩
def Arg(P:Program)(s:Hq)(d:Nat)(t:TypeId)(v:AV):Prop:=Inp P s d t v.cells/\(qCm P t=some true->∃l,v=.agg l/\qAa l=true)/\(qCm P t≠some true->v.cells=[v])
def ArgL(P:Program)(s:Hq)(d:Nat):List TypeId->List AV->Prop
 |[],[]=>True
 |t::ts,v::vs=>Arg P s d t v/\ArgL P s d ts vs
 |_,_=>False
theorem Arg.sub{s s':Hq}(hs:Sub s s'){d:Nat}{t:TypeId}{v:AV}(h:Arg P s d t v):Arg P s' d t v:=⟨Inp.sub hs _ _ _ h.1,h.2⟩
theorem qP3{base:Nat}{t:TypeId}{v:Value}{d:Nat}(hp:plainT P d t=true)(h:Value.okWide P W .any base t v):(qCm P t=some true/\∃cs,v=.agg cs)∨(qCm P t≠some true/\v.cells=#[v]):=by
 cases d with
 |zero=>cases hp
 | succ d=>
   unfold plainT at hp;unfold Value.okWide at h;unfold qCm;split at hp<;>rename_i hu
   all_goals (try rw[hu]at h)
   all_goals (try simp only at h)
   ·right
    refine⟨by rw[hu];simp,?_⟩;unfold Cell.okWide Cell.ok at h;simp only[hu]at h;cases v<;>simp_all<;>rfl
   ·right
    refine⟨by rw[hu];simp,?_⟩;unfold Cell.okWide Cell.ok at h;simp only[hu]at h;cases v<;>simp_all<;>rfl
   ·right
    refine⟨by rw[hu];simp,?_⟩;unfold Cell.okWide Cell.ok at h;simp only[hu]at h;cases v<;>simp_all<;>rfl
   ·right
    refine⟨by rw[hu];simp,?_⟩;unfold Cell.okWide Cell.ok at h;simp only[hu]at h;cases v<;>simp_all<;>rfl
   ·left
    obtain⟨cs,e,_⟩:=h;exact⟨by rw[hu],cs,e⟩
   ·left
    obtain⟨cs,e,_⟩:=h;exact⟨by rw[hu],cs,e⟩
   ·cases hp
theorem qO6(hσ:One σ)(d:Nat)(base:Nat):∀(ts:List TypeId) (vs:List Value) (ds:List (DataW H)) (ps:List MemPlace) (B:IB),VB σ B W->(ts.all λt=>plainT P d t)=true->DataW.TrodAll enc P W 0 (λ_=>true) true ts vs ds ps->
  (∀(j:Nat) t v,ts[j]?=some t->vs[j]?=some v->Value.okWide P W .any base t v)->∃xs C,VB σ (B++C) W/\RelL σ (rhoB (B++C)) xs vs/\ArgL P (qKL (B++C)) d ts xs
 | [],vs,ds,ps,B,hB,_,h,_=>by
   cases vs with
   |nil=>exact⟨[],[],by simpa using hB,.nil,trivial⟩
   |cons v vs=>cases ds<;>exact h.elim
 |t::ts,[],ds,ps,B,hB,_,h,_=>by cases ds<;>exact h.elim
 |t::ts,v::vs,[],ps,B,hB,_,h,_=>h.elim
 | t::ts,v::vs,x::ds,ps,B,hB,hp,h,hv=>by
   simp only[List.all_cons,Bool.and_eq_true]at hp;obtain⟨p,q,⟨fuel,h1⟩,h2,rfl⟩:=h;obtain⟨xs,C,g1,g2,g3,g4⟩:=qN1 hσ d t _ fuel _ hp.1 h1 B hB;obtain⟨ys,D,k1,k2,k3⟩:=qO6 hσ d base ts vs ds q (B++C) g1 hp.2 h2 λj t v hj hv'=>hv (j+1) t v (by simpa using hj) (by simpa using hv');have hsub:=qJi (B++C) D;have hle:=qMb (B++C) D;rcases qP3 hp.1 (hv 0 t v rfl rfl)with⟨ha,cs,rfl⟩|⟨ha,hc⟩
   ·refine⟨.agg xs::ys,C++D,by rw[<- List.append_assoc];exact k1,?_,?_⟩
    ·rw[<- List.append_assoc]
     exact .cons (by unfold Rel;exact⟨cs,rfl,RelL.mono hle _ _ g2⟩) k2
    ·rw[<- List.append_assoc]
     exact⟨⟨Inp.sub hsub _ _ _ g4,λ_=>⟨xs,rfl,g3⟩,λh=>absurd ha h⟩,k3⟩
   ·rw[hc]at g2
    obtain⟨y,rfl⟩:∃y,xs=[y]:=by
     have:=g2.length;cases xs with
     |nil=>simp at this
     | cons y r=>cases r with
       |nil=>exact⟨y,rfl⟩
       |cons _ _=>simp at this
    have hr:Rel σ (rhoB (B++C)) y v:=by unfold RelL at g2;obtain⟨_,_,e,r,_⟩:=g2;cases e;exact r
    have hy:y.one=true:=by simpa [qAa]using g3
    refine⟨y::ys,C++D,by rw[<- List.append_assoc];exact k1,?_,?_⟩
    ·rw[<- List.append_assoc]
     exact .cons (Rel.mono hle _ _ hr) k2
    ·rw[<- List.append_assoc]
     refine⟨⟨?_,λh=>absurd h ha,λ_=>qDI hy⟩,k3⟩;rw[qDI hy];exact Inp.sub hsub _ _ _ g4
end
def memB(B:IB):AH:={ blks:=Tr.ofListAt .nil 1 (B.map λx=>.cells x.2.1 (Tr.ofListAt .nil 0 x.2.2) x.2.2.length),next:=B.length+1,lo:=B.length+1,log:=[] }
theorem qOZ(B:IB)(id:Nat):(memB B).blks.get id=match id with
  | 0=>none
  | i+1=>match B[i]? with
    |some x=>some (.cells x.2.1 (Tr.ofListAt .nil 0 x.2.2) x.2.2.length)
    |none=>none:=by
 unfold memB;simp only;rw[Tr.get_ofListAt];cases id with
 |zero=>rw[if_neg (by omega),Tr.get_nil]
 | succ i=>
   by_cases h:i<B.length
   ·rw[if_pos (by simp;omega)]
    simp[gE h]
   ·rw[if_neg (by simp;omega),Tr.get_nil]
    have:B[i]?=none:=List.getElem?_eq_none (by omega);simp only[this]
theorem zABI(B:IB){σ:Nat->Value}{W:World}(h:VB σ B W):HRel (qKL B) (memB B):=by
 refine⟨Nat.le_refl _,λi hi=>?_,λi t b hi=>?_⟩
 ·rw[qOZ]at hi
  cases i with
  |zero=>exact absurd rfl hi
  | succ i=>
    simp only at hi;cases e:B[i]? with
    |none=>rw[e]at hi;exact absurd rfl hi
    |some x=>have:=(gS e).1;show i+1<B.length+1;omega
 ·cases i with
  |zero=>cases hi
  | succ i=>
    unfold qKL at hi;simp only at hi;cases e:B[i]? with
    |none=>rw[e]at hi;cases hi
    | some x=>
      rw[e]at hi;cases hi;obtain⟨_,_,_,_,_,h4,_⟩:=h i x e;have e2:(memB B).blks.get (i+1)=some (.cells x.2.1 (Tr.ofListAt .nil 0 x.2.2) x.2.2.length):=by rw[qOZ];simp only[e]
      exact⟨by simp,_,e2,rfl,rfl,h4,λj hj=>qIB _ _ hj⟩
theorem qZE(B:IB){σ:Nat->Value}{W:World}(h:VB σ B W):WR σ (rhoB B) W.heap.size (memB B) W:=by
 have key:∀id b,(memB B).blks.get id=some b->∃i x,id=i+1/\B[i]?=some x/\b=.cells x.2.1 (Tr.ofListAt .nil 0 x.2.2) x.2.2.length:=by
  intro id b hb;rw[qOZ]at hb;cases id with
  |zero=>cases hb
  | succ i=>
    simp only at hb;cases e:B[i]? with
    |none=>rw[e]at hb;cases hb
    |some x=>rw[e]at hb;cases hb;exact⟨i,x,rfl,e,rfl⟩
 have lo:∀id b,(memB B).blks.get id=some b->¬(memB B).lo<=id:=by intro id b hb;obtain⟨i,x,rfl,e,_⟩:=key id b hb;have:=(gS e).1;show ¬B.length+1<=i+1;omega
 refine⟨λid b hb=>?_,λid b L hb _ hl=>absurd hl (lo id b hb),λi j bi bj Li Lj hi _ _ _ hl _=>absurd hl (lo i bi hi),Nat.le_refl _⟩;obtain⟨i,x,rfl,e,rfl⟩:=key id b hb;refine⟨x.1,by unfold rhoB;simp[e],?_⟩;obtain⟨cc,fr,h1,h2,h3,_,h5⟩:=h i x e;refine⟨cc,fr,h1,λhl=>absurd hl (lo _ _ hb),h2,h3,λj v hj=>?_⟩;have hlt:j<x.2.2.length:=by
  rcases Nat.lt_or_ge j x.2.2.length with h|h
  ·exact h
  ·rw[Tr.get_ofListAt,if_neg (by omega),Tr.get_nil]at hj;cases hj
 rw[qIB _ _ hlt]at hj;exact h5 j v hj
theorem law_of_wp{H:Type}{enc:TypeId×Value->H}{P:Program}{X:Td}(hm:P.follows .mixedOrders=true)(hname:noNumB P=true)(hX:ExtOK P X){f:FuncId}{ts:List TypeId}(d:Nat)(hp:(ts.all λt=>plainT P d t)=true)
  (h:∀(s:Hq) (xs:List AV),ArgL P s d ts xs->wC P X f xs (λv _=>v=.bool true) s) {W:World}{base:Nat}{args:Array Value}{ds:List (DataW H)}{ps:List MemPlace}
  (hA:DataW.TrodAll enc P W 0 (λ_=>true) true ts args.toList ds ps) (hv:∀(j:Nat) t v,ts[j]?=some t->args[j]?=some v->Value.okWide P W .any base t v) :
  Calls P f args W λe W'=>e=.returned (.bool true)/\Below W.heap.size W W':=by
 have hσ:One (λ_=>Value.bool true):=λ_=>rfl;obtain⟨xs,C,h1,h2,h3⟩:=qO6 (W:=W) hσ d base ts args.toList ds ps [] (λi x hx=>by simp at hx) hp hA λj t v hj hj'=>hv j t v hj (by simpa using hj');rw[List.nil_append]at h1 h2 h3;obtain⟨n,o,H',hrun,s',_,_,v,rfl,rfl⟩:=h (qKL C) xs h3 (memB C) (zABI C h1);refine(qKz hm (qR5 hname) hX hrun _ hσ (rhoB C) W (qZE C h1) (λid hlo _=>?_) args h2).mono ?_
 ·cases id with
  |zero=>exact absurd hlo (by show ¬C.length+1<=0;omega)
  | succ i=>
    have:C.length+1<=i+1:=hlo;unfold rhoB;simp only;rw[List.getElem?_eq_none (by omega)]
 ·rintro e W' ⟨v',ρ',rfl,hr,_,hb⟩
  unfold Rel at hr;subst hr;exact⟨rfl,hb⟩
end Go.AM
namespace Go.AM
open Go Go.RowKit Go.ChangeShapes Go.WideShapes Go.ChangeAt
def qJd(l:List FuncId):Td:=λf=>cond (memN f l) (some λargs=>match args with
 |[]=>ret (.bool true)
 |_=>fail) none
theorem qNc(l:List FuncId):FrX (qJd l):=by
 intro f g args h;unfold qJd at h;cases hm:memN f l with
 |false=>rw[hm]at h;cases h
 | true=>
   rw[hm]at h;cases h;cases args with
   |nil=>exact qBU _
   |cons _ _=>exact qAg
theorem qRn{σ:Nat->Value}{ρ:Ren}{base:Nat}{H:AH}{w w':World}(h:WR σ ρ base H w)(hb:Below w.heap.size w w'):WR σ ρ base H w':=by refine⟨λid b hid=>?_,h.own,h.inj,Nat.le_trans h.base hb.size⟩;obtain⟨L,h1,h2⟩:=h.blk id b hid;refine⟨L,h1,?_⟩;have hlt:=qOc h hid h1;rw[hb.block L.blk hlt];exact h2
theorem wC.mono{P:Program}{X:Td}{f:FuncId}{args:List AV}{K K':AV->Hq->Prop}{s:Hq}(h:wC P X f args K s)(hk:∀v s',K v s'->K' v s'):wC P X f args K' s:=
 wpF.mono h λ_ s' ⟨v,e,hv⟩=>⟨v,e,hk v s' hv⟩
end Go.AM
namespace Go.AM
open Go
def qRf(fn:Func):Code:=match fn.body with
 |some c=>c
 |none=>.refuse ""
variable {α:Type} {K:α→Prop} {s s':Hq}
@[simp] theorem qAB{a:α}:oK (some a) K=K a:=id rfl
theorem qAA{o:Option α}{a:α}(h:o=some a)(hk:K a):oK o K:=by rw[h];exact hk
@[simp] theorem qAF{p q:Prop}:qAL (.bool true) p q=p:=id rfl
@[simp] theorem qAD{p q:Prop}:qAL (.bool false) p q=q:=id rfl
theorem qAJ{b:Bool}{p q:Prop}(h1:b=true->p)(h2:b=false->q):qAL (.bool b) p q:=by cases b;exact h2 rfl;exact h1 rfl
@[simp] theorem qGj{a b:AV}:qAR (.bool true) a b=some a:=id rfl
@[simp] theorem qMQ{a b:AV}:qAR (.bool false) a b=some b:=id rfl
@[simp] theorem qGA{b o:Nat}:qAH (.ptr b o)=some (.ptr b o):=id rfl
@[simp] theorem qAI{b o k:Nat}:qAC k (.ptr b o)=some (.ptr b (o+k)):=id rfl
@[simp] theorem nat?_mk{k:IntKind}{n:Nat}:nat? (.int k (n:Int))=some n:=id rfl
@[simp] theorem qCy{k:IntKind}:qB7 k k=true:=by cases k<;>rfl
@[simp] theorem qAN{k:IntKind}{x y:Int}:qAG .add (.int k x) (.int k y)=some (.int k (k.wrap (x+y))):=by simp[qAG,arith,qCO,qCI]
@[simp] theorem qDY{k:IntKind}{x y:Int}:qAG .sub (.int k x) (.int k y)=some (.int k (k.wrap (x-y))):=by simp[qAG,arith,qCO,qCI]
@[simp] theorem qPZ{k:IntKind}{x y:Int}:qAG .mul (.int k x) (.int k y)=some (.int k (k.wrap (x*y))):=by simp[qAG,arith,qCO,qCI]
theorem zAAj{k:IntKind}{x y:Int}(h:y≠0):qAG .quo (.int k x) (.int k y)=some (.int k (k.wrap (x.tdiv y))):=by
 have:(y == 0)=false:=by simpa using h
 simp[qAG,arith,qCO,qCI,qD5,this]
theorem qH8{k:IntKind}{x y:Int}(h:y≠0):qAG .rem (.int k x) (.int k y)=some (.int k (x.tmod y)):=by
 have:(y == 0)=false:=by simpa using h
 simp[qAG,arith,qCO,qD5,this]
@[simp] theorem qAP{k:IntKind}{x y:Int}:qAG .lss (.int k x) (.int k y)=some (.bool (decide (x<y))):=by simp[qAG,arith,qHb]
@[simp] theorem qBO{k:IntKind}{x y:Int}:qAG .gtr (.int k x) (.int k y)=some (.bool (decide (y<x))):=by simp[qAG,arith,qHb]
@[simp] theorem qId{k:IntKind}{x y:Int}:qAG .leq (.int k x) (.int k y)=some (.bool (decide (x<=y))):=by
 simp only[qAG,arith,qHb,qCy,cond_true]
 by_cases h:x<=y
 ·simp[h,Int.not_lt.2 h]
 ·simp[h,Int.not_le.1 h]
@[simp] theorem qBV{k:IntKind}{x y:Int}:qAG .geq (.int k x) (.int k y)=some (.bool (decide (y<=x))):=by
 simp only[qAG,arith,qHb,qCy,cond_true]
 by_cases h:y<=x
 ·simp[h,Int.not_lt.2 h]
 ·simp[h,Int.not_le.1 h]
@[simp] theorem qAX{c:Bool}{k:IntKind}{x y:Int}:eqV 0 c (.int k x) (.int k y)=some (x == y):=by simp[eqV,qD5]
@[simp] theorem zABz{c:Bool}{x y:Bool}:eqV 1 c (.bool x) (.bool y)=some (x == y):=id rfl
@[simp] theorem qAV{n b:Bool}:negB n (some b)=some (.bool (n != b)):=by cases n<;>cases b<;>rfl
@[simp] theorem qAe{b:Bool}:qAr .not (.bool b)=some (.bool !b):=id rfl
theorem qAK{b o:Nat}{t:Bool}{e:TypeId}{l:List AV}(h:s b=some (t,.cells e l)):rd1 s (.ptr b o)=l[o]?:=by simp[rd1,h]
theorem zABn{b o:Nat}{e:TypeId}{l:List AV}{v:AV}(h:s b=some (false,.cells e l))(hl:o<l.length)(hv:v.one=true):wr1 s (.ptr b o) v=some (hset s b (false,.cells e (l.set o v))):=by
 have:Nat.blt o l.length=true:=by rw[Nat.blt_eq];exact hl
 simp[wr1,h,hv,this]
@[simp] theorem zACD{k:IntKind}{n:Int}:(AV.int k n).one=true:=id rfl
@[simp] theorem zAB0{b:Bool}:(AV.bool b).one=true:=id rfl
@[simp] theorem zACI{b o:Nat}:(AV.ptr b o).one=true:=id rfl
@[simp] theorem qFW{l:List AV}:(AV.agg l).cells=l:=id rfl
@[simp] theorem zAAI:qAa []=true:=id rfl
@[simp] theorem qZZ{v:AV}{l:List AV}:qAa (v::l)=(v.one&&qAa l):=id rfl
theorem qAb{n:Int}(h1:-9223372036854775808<=n)(h2:n<=9223372036854775807):IntKind.i64.wrap n=n:=by rw[<- qCI];simp only[qBq];rw[qHU _ _ _ (by omega) (by omega)];split<;>omega
def qAc(fp:Nat->Prop)(s s':Hq):Prop:=∀b e,s b=some e->¬fp b->s' b=some e
theorem qAc.refl(fp:Nat->Prop)(s:Hq):qAc fp s s:=λ_ _ h _=>h
theorem qAc.trans{fp:Nat->Prop}{a b c:Hq}(h:qAc fp a b)(k:qAc fp b c):qAc fp a c:=λi e hi hf=>k i e (h i e hi hf) hf
theorem qAc.mono{fp fp':Nat->Prop}{a b:Hq}(h:qAc fp a b)(hf:∀i,fp i->fp' i):qAc fp' a b:=λi e hi hn=>h i e hi λk=>hn (hf i k)
theorem Sub.keep{fp:Nat->Prop}{a b:Hq}(h:Sub a b):qAc fp a b:=λi e hi _=>h i e hi
theorem Sub.refl(s:Hq):Sub s s:=λ_ _ h=>h
theorem Sub.trans{a b c:Hq}(h:Sub a b)(k:Sub b c):Sub a c:=λi e hi=>k i e (h i e hi)
theorem qLi{b:Nat}{e:Bool×Blk}(h:s b=none):Sub s (hset s b e):=λi x hi=>by
 unfold hset;have:i≠b:=λq=>by rw[q,h]at hi;cases hi
 rw[if_neg this];exact hi
@[simp] theorem qC2{b:Nat}{e:Bool×Blk}:hset s b e b=some e:=if_pos rfl
theorem qCE{b i:Nat}{e:Bool×Blk}(h:i≠b):hset s b e i=s i:=if_neg h
theorem qFG{b i:Nat}{e:Bool×Blk}(hb:s b=none)(hi:s i=some e):i≠b:=λq=>by rw[q,hb]at hi;cases hi
theorem qLU{s t:Hq}{b:Nat}{e:Bool×Blk}(h:s b=some e)(ht:t b=some e):cutH [(s,t)] t b=some e:=by show(if s b=none/\t b≠none then none else t b)=_;rw[if_neg (by rw[h];simp)];exact ht
theorem qVK{s:Hq}:add s (frz s)=s:=by
 funext b
 unfold add frz;cases s b<;>rfl
theorem qGy{s t:Hq}:Sub s (add s t):=λi e hi=>qBt hi
theorem qVa{P:Program}{X:Td}{k:FuncId}{first cap args:List AV}{K:AV->Hq->Prop}{s:Hq}(hk:isFn P k=true)(h:wC P X k (first++args++cap) K s):funK P X (.fn (.func k) first cap) args K s:=⟨hk,h⟩
theorem qT8{b:Nat}{e:TypeId}{l cs:List AV}{n:Nat}{s:Hq}(h:s b=some (false,.cells e l))(hl:cs.length=l.length)(hn:l.length=n)(ho:qAa cs=true):qAw s n (.ptr b 0) (.agg cs)=some (hset s b (false,.cells e cs)):=by
 have e1:Nat.beq cs.length n=true:=by rw[hl,hn];exact Nat.beq_refl _
 have e2:Nat.ble (0+cs.length) l.length=true:=bL (by omega);have e3:qBI l 0 cs=cs:=by unfold qBI;rw[List.drop_eq_nil_of_le (by omega)];simp
 simp only[qAw,qFW,e1,cond_true,wrN,h,e2,ho,Bool.and_self,e3]
theorem qAU{b:Nat}{t:Bool}{e:TypeId}{l:List AV}{n:Nat}{s:Hq}(h:s b=some (t,.cells e l))(hn:l.length=n):rdN s n (.ptr b 0)=some l:=by have e1:Nat.ble (0+n) l.length=true:=bL (by omega);simp only[rdN,h,qGf,e1,cond_true,List.drop_zero];rw[List.take_of_length_le (by omega)]
theorem qWv{elem:TypeId}{v:AV}{K:AV->Hq->Prop}{s:Hq}(hv:v.one=true)(h:∀b,s b=none->K (.ptr b 0) (hset s b (false,.cells elem [v]))):boxK elem v K s:=by unfold boxK;rw[qDI hv];exact⟨by simp[hv],h⟩
def Upto(b:Nat)(s s':Hq):Prop:=∀i,i≠b->s' i=s i
theorem Upto.keep{fp:Nat->Prop}{b:Nat}{s s':Hq}(h:Upto b s s')(hb:fp b):qAc fp s s':=λi e hi hn=>by rw[h i λq=>hn (q ▸ hb)];exact hi
theorem Upto.sub{b:Nat}{s s':Hq}(h:Upto b s s')(hb:s b=none):Sub s s':=λi e hi=>by rw[h i (qFG hb hi)];exact hi
theorem Upto.at{b i:Nat}{s s':Hq}{e:Bool×Blk}(h:Upto b s s')(hi:s i=some e)(hb:s b=none):s' i=some e:=h.sub hb i e hi
theorem qAM{elem:TypeId}{cs:List AV}{K:Nat->Hq->Prop}{s:Hq}(h:∀b s',s b=none->s' b=some (false,.cells elem cs)->Upto b s s'->K b s'):newK elem cs K s:=
 λb hb=>h b _ hb qC2 λ_ hi=>qCE hi
theorem qBF{b o:Nat}{e:TypeId}{l:List AV}{v:AV}{K:Hq->Prop}{s:Hq}(h:s b=some (false,.cells e l))(ho:o<l.length)(hv:v.one=true)(hk:∀s',s' b=some (false,.cells e (l.set o v))->Upto b s s'->K s'):oK (wr1 s (.ptr b o) v) K:=
 qAA (zABn h ho hv) (hk _ qC2 λ_ hi=>qCE hi)
theorem qAT{b:Nat}{e:TypeId}{l cs:List AV}{n:Nat}{K:Hq->Prop}{s:Hq}(h:s b=some (false,.cells e l))(hl:cs.length=l.length)(hn:l.length=n)(ho:qAa cs=true)(hk:∀s',s' b=some (false,.cells e cs)->Upto b s s'->K s'):oK (qAw s n (.ptr b 0) (.agg cs)) K:=
 qAA (qT8 h hl hn ho) (hk _ qC2 λ_ hi=>qCE hi)
theorem qDN{elem:TypeId}{v:AV}{K:AV->Hq->Prop}{s:Hq}(hv:v.one=true)(h:∀b s',s b=none->s' b=some (false,.cells elem [v])->Upto b s s'->K (.ptr b 0) s'):boxK elem v K s:=
 qWv hv λb hb=>h b _ hb qC2 λ_ hi=>qCE hi
end Go.AM
namespace Go.AM
open Go
def Sl(s:Hq)(v:AV)(l:List AV):Prop:=(v=.nilslc/\l=[])∨∃b o cap,v=.slc b o l.length cap 1/\(∀c,cap=some c->l.length<=c)/\
 (l≠[]->∃t e cs,s b=some (t,.cells e cs)/\o+l.length<=cs.length/\∀i,i<l.length->cs[o+i]?=l[i]?)
variable {s s':Hq} {v:AV} {l:List AV}
theorem Sl.len(h:Sl s v l):qAQ v=some l.length:=by
 rcases h with⟨rfl,rfl⟩|⟨b,o,cap,rfl,_⟩
 ·rfl
 ·rfl
theorem Sl.get(h:Sl s v l){i:Nat}(hi:i<l.length):∃p,qAY 1 v (.int .i64 (i:Int))=some p/\rd1 s p=l[i]?:=by
 rcases h with⟨rfl,rfl⟩|⟨b,o,cap,rfl,_,h⟩
 ·simp at hi
 ·obtain⟨t,e,cs,h1,h2,h3⟩:=h (by rintro rfl;simp at hi)
  refine⟨.ptr b (o+i),?_,by rw[qAK h1,h3 i hi]⟩;have:Nat.blt i l.length=true:=by rw[Nat.blt_eq];exact hi
  simp[qAY,this]
theorem Sl.rd(h:Sl s v l):rdSl s 1 v=some l:=by
 rcases h with⟨rfl,rfl⟩|⟨b,o,cap,rfl,_,h⟩
 ·rfl
 ·cases l with
  |nil=>rfl
  | cons x r=>
    obtain⟨t,e,cs,h1,h2,h3⟩:=h (by simp);have e1:Nat.beq ((x::r).length*1) 0=false:=rfl;have e2:Nat.ble (o+(x::r).length*1) cs.length=true:=bL (by omega);simp only[rdSl,Nat.beq_refl,cond_true,e1,cond_false,h1,qGf,e2]
    congr 1
    apply List.ext_getElem?;intro i;rw[List.getElem?_take];split
    ·rename_i hi
     rw[List.getElem?_drop,h3 i (by omega)]
    ·rw[List.getElem?_eq_none (by omega)]
theorem Sl.sub(h:Sl s v l)(hs:Sub s s'):Sl s' v l:=by
 rcases h with h|⟨b,o,cap,h1,h2,h3⟩
 ·exact .inl h
 ·refine .inr ⟨b,o,cap,h1,h2,λhl=>?_⟩
  obtain⟨t,e,cs,q1,q2⟩:=h3 hl;exact⟨t,e,cs,hs _ _ q1,q2⟩
theorem Sl.keep{fp:Nat->Prop}(h:Sl s v l)(hs:qAc fp s s')(hn:∀b o n c,v=.slc b o n c 1->l≠[]->¬fp b):Sl s' v l:=by
 rcases h with h|⟨b,o,cap,h1,h2,h3⟩
 ·exact .inl h
 ·refine .inr ⟨b,o,cap,h1,h2,λhl=>?_⟩
  obtain⟨t,e,cs,q1,q2⟩:=h3 hl;exact⟨t,e,cs,hs _ _ q1 (hn b o _ cap h1 hl),q2⟩
theorem Sl.mk{b:Nat}{t:Bool}{e:TypeId}{n:Nat}{cap:Option Nat}(h:s b=some (t,.cells e l))(hn:n=l.length)(hc:∀c,cap=some c->l.length<=c):Sl s (.slc b 0 n cap 1) l:=by subst hn;exact .inr ⟨b,0,cap,rfl,hc,λ_=>⟨t,e,l,h,by omega,λi _=>by rw[zAY]⟩⟩
def Acc(elem:TypeId)(s0 s:Hq)(v:AV)(l:List AV):Prop:=(v=.nilslc/\l=[])∨∃b,s0 b=none/\v=.slc b 0 l.length none 1/\s b=some (false,.cells elem l)
theorem Acc.sl{elem:TypeId}{s0:Hq}(h:Acc elem s0 s v l):Sl s v l:=by
 rcases h with h|⟨b,_,rfl,h⟩
 ·exact .inl h
 ·exact Sl.mk h rfl (by simp)
theorem Acc.app{elem:TypeId}{s0:Hq}{y:AV}{m:List AV}{K:AV->Hq->Prop}(h:Acc elem s0 s v l)(hy:Sl s y m)(hm:m≠[])(hl:l.length+m.length<=16777216)(hdom:∀i,s0 i≠none->s i≠none)
  (hK:∀v' s',Acc elem s0 s' v' (l++m)->(∀i e,s i=some e->(∀b,v=.slc b 0 l.length none 1->i≠b)->s' i=some e)->K v' s'):appK elem 1 v y K s:=by
 obtain⟨k,hk⟩:∃k,m.length=k+1:=by cases m with|nil=>exact absurd rfl hm|cons a r=>exact⟨r.length,rfl⟩
 refine qAA hy.rd (qAA hy.len ?_);rcases h with⟨rfl,rfl⟩|⟨b,hb0,rfl,hb⟩
 ·simp only
  rw[hk];refine⟨by simp at hl;omega,qAM λc s1 hc h1 u1=>hK _ _ (.inr ⟨c,?_,?_,by simpa using h1⟩) λi e hi _=>u1.at hi hc⟩
  ·cases q:s0 c with
   |none=>rfl
   |some x=>exact absurd hc (hdom c (by rw[q];simp))
  ·simp[hk]
 ·refine⟨rfl,?_⟩
  simp only;rw[hk];simp only;refine qAA (Sl.rd (Sl.mk (l:=l) hb rfl (by simp))) ?_;unfold qSQ;rw[hb];refine⟨rfl,by omega,qAM λc s1 hc h1 u1=>hK _ _ (.inr ⟨c,?_,by simp[hk],h1⟩) λi e hi hib=>?_⟩
  ·by_cases e:c=b
   ·rw[e];exact hb0
   ·have hc':s c=none:=by rw[<- hc];exact(if_neg e).symm
    cases q:s0 c with
    |none=>rfl
    |some x=>exact absurd hc' (hdom c (by rw[q];simp))
  ·have hne:=hib b rfl
   have:hdel s b i=some e:=by rw[<- hi];exact if_neg hne
   exact u1.at this hc
theorem qDy{elem:TypeId}{z v:AV}{K:Nat->Hq->Prop}(hz:z.one=true)(hv:v.one=true)(hK:∀b s',s b=none->s' b=some (false,.cells elem [v])->Upto b s s'->K b s'):
  oK (qAl (repl 1 [z]) [(0,1,v)]) λc=>qAa c=true/\newK elem c K s:=by
 refine qAA (a:=[v]) ?_ ⟨by simp[hv],qAM hK⟩;show cond (Nat.beq v.cells.length 1&&Nat.ble (0+v.cells.length) 1) (qAl (qBI [z] 0 v.cells) []) none=_;rw[qDI hv];rfl
theorem qOD(z:AV):∀n,repl n [z]=List.replicate n z
 | 0=>rfl
 |n+1=>by rw[repl,qOD z n];rfl
theorem qWV{elem:TypeId}{b o c:Nat}{y:AV}{m:List AV}{K:AV->Hq->Prop}(hx:Sl s (.slc b o l.length (some c) 1) l)(hy:Sl s y m)(hm:m≠[])(hc:c<l.length+m.length)(hl:l.length+m.length<=16777216)
  (hK:∀d s',s d=none->s' d=some (false,.cells elem (l++m))->Upto d s s'->K (.slc d 0 (l.length+m.length) none 1) s'):appK elem 1 (.slc b o l.length (some c) 1) y K s:=by
 obtain⟨k,hk⟩:∃k,m.length=k+1:=by cases m with|nil=>exact absurd rfl hm|cons a r=>exact⟨r.length,rfl⟩
 refine qAA hy.rd (qAA hy.len ⟨rfl,?_⟩);rw[hk]at hc hl hK ⊢;have e0:Nat.ble (l.length+(k+1)) c=false:=by
  cases q:Nat.ble (l.length+(k+1)) c with
  |false=>rfl
  |true=>have:=Nat.le_of_ble_eq_true q;omega
 simp only[e0,cond_false];exact qAA hx.rd ⟨by omega,qAM λd s1 hd h1 u1=>hK d s1 hd h1 u1⟩
end Go.AM
namespace Go.AM
open Go
section
variable {P:Program} {s:Hq} {d:Nat} {t e:TypeId} {v:AV}
theorem qZ3{k:IntKind}(hu:P.underlying t=some (.int k))(h:Arg P s (d+1) t v):∃n,v=.int k n/\(Lit.int k n).wf=true:=by
 obtain⟨h1,_,h3⟩:=h;have:qCm P t≠some true:=by unfold qCm;rw[hu];simp
 rw[h3 this]at h1;unfold Inp at h1;simp only[hu]at h1;obtain⟨n,e,hn⟩:=h1;exact⟨n,by simpa using e,hn⟩
theorem qVs(hu:P.underlying t=some (.slice e))(hc:P.cellsOf e=1){A:Type}(f:A->AV)(Q:A->Prop)(he:∀xs,Inp P s d e xs->∃a,xs=[f a]/\Q a){xs:List AV}(h:Inp P s (d+1) t xs):∃v,xs=[v]/\∃l:List A,Sl s v (l.map f)/\(∀a∈l,Q a)/\l.length<=maxLen:=by
 unfold Inp at h;simp only[hu]at h;rcases h with rfl|⟨b,len,cap,rfl,h1,h2,h3⟩
 ·exact⟨_,rfl,[],.inl ⟨rfl,rfl⟩,by simp,by simp⟩
 ·refine⟨_,rfl,?_⟩
  rw[hc]at h3 ⊢
  by_cases hz:cap=0
  ·subst hz
   have:len=0:=by omega
   subst this;exact⟨[],.inr ⟨b,0,some 0,rfl,by simp,by simp⟩,by simp,by simp⟩
  ·obtain⟨el,l,g1,g2,g3⟩:=h3 (by omega)
   simp only[Nat.mul_one]at g2 g3;have each:∀i,i<cap->∃a,l[i]?=some (f a)/\Q a:=by intro i hi;obtain⟨a,q1,q2⟩:=he _ (g3 i hi);refine⟨a,?_,q2⟩;have:=congrArg (λr:List AV=>r[0]?) q1;simpa [List.getElem?_take,List.getElem?_drop]using this
   have mk:∀n,n<=cap->∃r:List A,r.length=n/\(∀i,i<n->l[i]?=(r.map f)[i]?)/\∀a∈r,Q a:=by
    intro n
    induction n with
    |zero=>exact λ_=>⟨[],rfl,by simp,by simp⟩
    | succ n ih=>
      intro hn;obtain⟨r,r1,r2,r3⟩:=ih (by omega);obtain⟨a,a1,a2⟩:=each n (by omega);refine⟨r ++ [a],by simp[r1],λi hi=>?_,λb hb=>?_⟩
      ·by_cases e:i=n
       ·subst e;rw[a1];simp[<- r1]
       ·rw[r2 i (by omega)];simp[List.getElem?_append,r1,show i<n by omega]
      ·rcases mP hb with hb|hb
       ·exact r3 b hb
       ·rw[List.mem_singleton.1 hb];exact a2
   obtain⟨r,r1,r2,r3⟩:=mk len h1;refine⟨r,.inr ⟨b,0,some cap,by simp[r1],by simp[r1];exact h1,λ_=>⟨true,el,l,g1,by simp[r1];omega,λi hi=>?_⟩⟩,r3,by omega⟩;rw[zAY];exact r2 i (by simpa [r1]using hi)
theorem qVA(hu:P.underlying t=some (.slice e))(hc:P.cellsOf e=1){A:Type}(f:A->AV)(Q:A->Prop)(he:∀xs,Inp P s d e xs->∃a,xs=[f a]/\Q a)(h:Arg P s (d+1) t v):∃l:List A,Sl s v (l.map f)/\(∀a∈l,Q a)/\l.length<=maxLen:=by
 obtain⟨h1,_,h3⟩:=h;have:qCm P t≠some true:=by unfold qCm;rw[hu];simp
 rw[h3 this]at h1;obtain⟨v',e1,h4⟩:=qVs hu hc f Q he h1;cases e1;exact h4
theorem qZX{k:IntKind}(hu:P.underlying t=some (.int k)){xs:List AV}(h:Inp P s (d+1) t xs):∃n,xs=[.int k n]/\(Lit.int k n).wf=true:=by unfold Inp at h;simp only[hu]at h;exact h
end
end Go.AM
namespace Go.AM
open Go Go.RowKit Go.ChangeShapes Go.WideShapes Go.ChangeAt
section
variable {H:Type} {P:Program}
theorem qYx{s:Hq}{d:Nat}{t:TypeId}{xs:List AV}(ha:qCm P t=some true)(h:Inp P s d t xs):xs.length=P.cellsOf t:=by
 cases d with
 |zero=>exact h.elim
 | succ d=>
   unfold Inp at h;unfold qCm at ha;split at h<;>first|exact h.elim|exact h.1|(rename_i hu;rw[hu]at ha;cases ha)
end
end Go.AM
namespace Go.AM
open Go Go.RowKit Go.ChangeShapes Go.WideShapes Go.ChangeAt
theorem qQx{P:Program}(hm:P.follows .mixedOrders=true)(hname:noNumB P=true){X:Td}(hX:ExtOK P X)(n:Nat){f:FuncId}(args:List AV)(h:qIR (runR P X n (.call f args) empty)=true)(σ:Nat->Value)(hσ:One σ)(args':Array Value)(hr:RelL σ (λ_=>none) args args'.toList)(w:World):
  Calls P f args' w λe w'=>e=.returned (.bool true)/\Below w.heap.size w w':=by
 rw[qKU]at h;obtain⟨H',h⟩:=qJb h;refine(qKz hm (qR5 hname) hX h σ hσ (λ_=>none) w qWQ (λ_ _ _=>rfl) args' hr).mono ?_;rintro e w' ⟨v',ρ',rfl,hv,_,hb⟩;unfold Rel at hv;rw[hv];exact⟨rfl,hb⟩
theorem qMN{P:Program}(hm:P.follows .mixedOrders=true)(hname:noNumB P=true){X:Td}(hX:ExtOK P X)(l:List FuncId)(h:∀f∈l,∃n,qIR (runR P X n (.call f []) empty)=true):ExtOK P (qJd l):=by
 refine⟨qNc l,λf g hg args H v H' hr σ ρ base w args' hσ hwr hf hra=>?_⟩;unfold qJd at hg;cases hmem:memN f l with
 |false=>rw[hmem]at hg;cases hg
 | true=>
   rw[hmem]at hg;cases hg;cases args with
   |cons _ _=>exact(qAE (H:=H) hr).elim
   | nil=>
     cases qAO (H:=H) hr;obtain⟨n,hn⟩:=h f (qNz.1 hmem);have ha:args'=#[]:=by unfold RelL at hra;cases args';simp_all
     subst ha;refine callsIn_wide.2 ((qQx hm hname hX n [] hn (λ_=>.bool true) (λ_=>rfl) #[] .nil w).mono ?_);rintro e w' ⟨rfl,hb⟩;exact⟨_,ρ,rfl,⟨.refl _ _ _,qRn hwr hb,hb.mono hwr.base⟩,by unfold Rel;rfl⟩
def orX(X Y:Td):Td:=λf=>match X f with
 |some g=>some g
 |none=>Y f
theorem orX_ok{P:Program}{X Y:Td}(hX:ExtOK P X)(hY:ExtOK P Y):ExtOK P (orX X Y):=by
 refine⟨λf g args h=>?_,λf g h=>?_⟩
 ·unfold orX at h
  cases hx:X f with
  |some g'=>rw[hx]at h;cases h;exact hX.1 f _ args hx
  |none=>rw[hx]at h;exact hY.1 f g args h
 ·unfold orX at h
  cases hx:X f with
  |some g'=>rw[hx]at h;cases h;exact hX.2 f _ hx
  |none=>rw[hx]at h;exact hY.2 f g h
end Go.AM
namespace Go.AM
open Go
variable {P:Program} {X:Td}
structure Cov(K H:AH):Prop where
 next:H.next=K.next
 lo:H.lo<=K.lo
 sub:∀i b,K.blks.get i=some b->H.blks.get i=some b
 top:∀i,H.next<=i->H.blks.get i=none
theorem Fr.cov{α:Type}{m:M α}(hf:Fr m){K K1 H:AH}{a:α}(h:m K=some (a,K1))(c:Cov K H):∃H1,m H=some (a,H1)/\Cov K1 H1:=by
 obtain⟨es,d,q⟩:=hf K a K1 h;obtain⟨H1,e,d2,n,ag⟩:=q H c.next c.lo (λid b hm=>by
  cases hk:K.blks.get id with
  |some x=>exact c.sub id x hk
  | none=>
    rcases d.touch id b hm with h1|⟨h1,_⟩
    ·exact absurd hk h1
    ·exact c.top id (by rw[c.next];exact h1))
 refine⟨H1,e,n,by rw[d2.lo,d.lo];exact c.lo,λi b hi=>?_,λi hi=>?_⟩
 ·by_cases hm:(i,true)∈es
  ·rw[ag i true hm];exact hi
  ·rw[d2.same i hm]
   rw[d.same i hm]at hi;exact c.sub i b hi
 ·cases hk:H1.blks.get i with
  |none=>rfl
  | some x=>
    have n1:=d2.next;rcases d2.gone i (by rw[hk];simp)with h1|⟨_,h2⟩
    ·exact absurd (c.top i (by omega)) h1
    ·omega
def eqT:Tmps->Tmps->Bool
 | .nil,.nil=>true
 | .node v l r,.node v' l' r'=>(match v,v' with|none,none=>true|some a,some b=>eqA a b|_,_=>false)&&(eqT l l'&&eqT r r')
 |_,_=>false
theorem qR6:∀{a b:Tmps},eqT a b=true->a=b
 | .nil,.nil,_=>rfl
 | .nil,.node _ _ _,h=>by cases h
 | .node _ _ _,.nil,h=>by cases h
 | .node v l r,.node v' l' r',h=>by
   unfold eqT at h;obtain⟨h1,h2⟩:=Bool.and_eq_true_iff.1 h;obtain⟨h2,h3⟩:=Bool.and_eq_true_iff.1 h2;rw[qR6 h2,qR6 h3];cases v<;>cases v'<;>first|rfl|(cases h1;done)|(simp only at h1;rw[qNl h1])
def eqB:ABlk->ABlk->Bool
 | .cells e c n,.cells e' c' n'=>Nat.beq e e'&&(eqT c c'&&Nat.beq n n')
 | .map es k,.map es' k'=>eqEs es es'&&Nat.beq k k'
 | .one v,.one v'=>eqA v v'
 | .deferred a,.deferred b=>a == b
 |_,_=>false
theorem zABl{a b:ABlk}(h:eqB a b=true):a=b:=by
 unfold eqB at h;split at h
 ·simp only[Bool.and_eq_true]at h
  rw[bE h.1,qR6 h.2.1,bE h.2.2]
 ·simp only[Bool.and_eq_true]at h
  rw[qTq h.1,bE h.2]
 ·rw[qNl h]
 ·rw[eq_of_beq h]
 ·cases h
noncomputable def mkB(l:List (Nat×ABlk)):Tr ABlk:=List.rec (motive:=λ_=>Tr ABlk) .nil (λp _ ih=>ih.putR p.1 (some p.2)) l
noncomputable def mkK(l:List (Nat×ABlk))(n:Nat):AH:={ blks:=mkB l,next:=n,lo:=0,log:=[] }
theorem qVH:∀{l:List (Nat×ABlk)}{i:Nat}{b:ABlk},(mkB l).get i=some b->(i,b)∈l
 | [],i,b,h=>by
   have:(Tr.nil:Tr ABlk).get i=some b:=h;rw[Tr.get_nil]at this;cases this
 | (j,c)::l,i,b,h=>by
   have:((mkB l).putR j (some c)).get i=some b:=h;rw[Tr.putR_eq,Tr.get_put]at this;split at this
   ·rename_i e;cases this;subst e;exact List.mem_cons_self ..
   ·exact mO _ (qVH this)
noncomputable def subB(l:List (Nat×ABlk))(t:Tr ABlk):Bool:=List.rec (motive:=λ_=>Bool) true (λp _ ih=>match t.getR p.1 with
 |some b=>eqB b p.2&&ih
 |none=>false) l
theorem qR0{t:Tr ABlk}:∀{l:List (Nat×ABlk)},subB l t=true->∀p∈l,t.get p.1=some p.2
 |[],_,_,h=>by cases h
 | q::l,h,p,hp=>by
   have h:(match t.getR q.1 with|some b=>eqB b q.2&&subB l t|none=>false)=true:=h;rw[Tr.getR_eq]at h;cases e:t.get q.1 with
   |none=>simp only[e]at h;cases h
   | some b=>
     simp only[e]at h;obtain⟨h1,h2⟩:=Bool.and_eq_true_iff.1 h;rcases mC hp with rfl|hp
     ·rw[e,zABl h1]
     ·exact qR0 h2 p hp
def qCt:Nat->Code->List Code×Code
 |k+1,.seq a b=>(a::(qCt k b).1,(qCt k b).2)
 |_,c=>([],c)
noncomputable def runL(P:Program)(X:Td)(n nt:Nat):List Code->Tmps->M Tmps
 |[],T=>ret T
 | c::cs,T=>bd (runR P X n (.code nt none c T [])) λo=>match o with
   | .exit .nrm T []=>runL P X n nt cs T
   |_=>fail
def epi(P:Program)(X:Td)(n:Nat)(fn:Func)(o:Out):M Out:=match o with
 | .exit e T ms=>match e with
   | .exit _=>fail
   |_=>bd (qBW P (run P X n) ms) λ_=>bd (qCX P T fn.results.toList) λvs=>ret (.val (oneV vs))
 |_=>fail
def endF(P:Program)(X:Td)(fn:Func)(n:Nat)(c:Code)(T:Tmps):M Out:=bd (run P X n (.code fn.ntmps none c T [])) (epi P X n fn)
theorem qVV(hX:FrX X)(n nt:Nat):∀(cs:List Code) (T:Tmps),Fr (runL P X n nt cs T)
 |[],_=>qBU _
 | c::cs,T=>qCK (by rw[qKU];exact qHa P hX n _) λo=>by
   split
   ·exact qVV hX n nt cs _
   ·exact qAg
theorem zABv(hX:FrX X)(n:Nat)(fn:Func)(o:Out):Fr (epi P X n fn o):=by
 unfold epi;split
 ·split
  ·exact qAg
  ·exact qCK (qDF P (qHa P hX n) _) λ_=>qCK (qEM P _ _) λ_=>qBU _
 ·exact qAg
theorem zAAD(hX:FrX X)(fn:Func)(n:Nat)(c:Code)(T:Tmps):Fr (endF P X fn n c T):=qCK (qHa P hX n _) λ_=>zABv hX n fn _
theorem qP1(fn:Func)(c:Code)(T:Tmps):Mono λn=>endF P X fn n c T:=qED λn=>LeM.bd (qFU n _) λo=>by
 unfold epi;split
 ·split
  ·exact LeM.refl _
  ·exact LeM.bd (qCo (qFU n) _) λ_=>LeM.refl _
 ·exact LeM.refl _
def Good(P:Program)(X:Td)(fn:Func)(c:Code)(T:Tmps)(K:AH):Prop:=∀H,Cov K H->∃n H1,endF P X fn n c T H=some (.val (.bool true),H1)
theorem qWl{fn:Func}{n:Nat}{r:Out×AH}{T1:Tmps}{H1:AH}:∀(k:Nat) (c:Code) (T:Tmps) (H:AH),runL P X n fn.ntmps (qCt k c).1 T H=some (T1,H1)->(∃n2,endF P X fn n2 (qCt k c).2 T1 H1=some r)->∃n3,endF P X fn n3 c T H=some r:=by
 intro k
 induction k with
 | zero=>
   intro c T H h he;have e:qCt 0 c=([],c):=by unfold qCt;rfl
   rw[e]at h he;cases h;exact he
 | succ k ih=>
   intro c T H h he
   by_cases hs:∃a b,c=.seq a b
   ·obtain⟨a,b,rfl⟩:=hs
    have e:qCt (k+1) (.seq a b)=(a::(qCt k b).1,(qCt k b).2):=by rw[qCt]
    rw[e]at h he;obtain⟨o,Ha,h1,h2⟩:=qAS (H:=H) h;rw[qKU]at h1;split at h2
    ·rename_i Ta
     obtain⟨n3,h3⟩:=ih b Ta Ha h2 he;have m1:=qC9 (P:=P) (X:=X) (.code fn.ntmps none a T []) n (max n n3) H _ (Nat.le_max_left _ _) h1;have m2:=qP1 (P:=P) (X:=X) fn b Ta n3 (max n n3) Ha _ (Nat.le_max_right _ _) h3;have m3:=qP1 (P:=P) (X:=X) fn b Ta n3 (max n n3+1) Ha _ (by omega) h3;refine⟨max n n3+1,?_⟩;obtain⟨o2,Hb,m4,m5⟩:=qAS (H:=Ha) m2;have m6:run P X (max n n3+1) (.code fn.ntmps none (.seq a b) T []) H=some (o2,Hb):=by
      show bd (run P X (max n n3) (.code fn.ntmps none a T [])) (λo=>match o with
       | .exit .nrm T ms=>run P X (max n n3) (.code fn.ntmps none b T ms)
       |o=>ret o) H=_
      unfold bd;simp only at m1;rw[m1];exact m4
     have m7:epi P X (max n n3+1) fn o2 Hb=some r:=by obtain⟨o3,Hc,m8,m9⟩:=qAS (H:=Ha) m3;have:=qC9 (P:=P) (X:=X) (.code fn.ntmps none b Ta []) (max n n3) (max n n3+1) Ha _ (by omega) m4;simp only at this;rw[m8]at this;cases this;exact m9
     show bd (run P X (max n n3+1) (.code fn.ntmps none (.seq a b) T [])) (epi P X (max n n3+1) fn) H=some r;unfold bd;rw[m6];exact m7
    ·exact(qAE h2).elim
   ·have e:qCt (k+1) c=([],c):=by
     cases c<;>first|(exact absurd ⟨_,_,rfl⟩ hs)|rfl
    rw[e]at h he;cases h;exact he
noncomputable def chk(P:Program)(X:Td)(n nt:Nat)(cs:List Code)(T:Tmps)(K:AH)(T2:Tmps)(l:List (Nat×ABlk))(nx:Nat):Bool:=match runL P X n nt cs T K with
 |some (T1,K1)=>eqT T1 T2&&(Nat.beq K1.next nx&&(Nat.beq K1.lo 0&&subB l K1.blks))
 |none=>false
theorem Good.cut(hX:FrX X){fn:Func}{c:Code}{T T2:Tmps}{K:AH}{l:List (Nat×ABlk)}{nx n k:Nat}(h:chk P X n fn.ntmps (qCt k c).1 T K T2 l nx=true)(g:Good P X fn (qCt k c).2 T2 (mkK l nx)):Good P X fn c T K:=by
 intro H hc;unfold chk at h;split at h
 ·rename_i T1 K1 e
  simp only[Bool.and_eq_true]at h;obtain⟨h1,h2,h3,h4⟩:=h;have h1:=qR6 h1;subst h1;obtain⟨H1,e1,c1⟩:=(qVV hX n fn.ntmps _ T).cov e hc;have c2:Cov (mkK l nx) H1:=⟨by rw[c1.next];exact bE h2,by have:=c1.lo;rw[bE h3]at this;exact this,λi b hi=>c1.sub i b (qR0 h4 (i,b) (qVH hi)),c1.top⟩
  obtain⟨n2,H2,e2⟩:=g H1 c2;obtain⟨n3,e3⟩:=qWl k c T H e1 ⟨n2,e2⟩;exact⟨n3,H2,e3⟩
 ·cases h
noncomputable def endR(P:Program)(X:Td)(fn:Func)(n:Nat)(c:Code)(T:Tmps)(K:AH):Bool:=match runR P X n (.code fn.ntmps none c T []) K with
 | some (.exit e T ms,K1)=>(match e with
   | .exit _=>false
   | _=>match ms with
     |[]=>qIR (bd (qCX P T fn.results.toList) (λvs=>ret (.val (oneV vs))) K1)
     |_=>false)
 |_=>false
theorem Good.last(hX:FrX X){fn:Func}{c:Code}{T:Tmps}{K:AH}{n:Nat}(h:endR P X fn n c T K=true):Good P X fn c T K:=by
 intro H hc;have:∃K1,endF P X fn n c T K=some (.val (.bool true),K1):=by
  unfold endR at h;rw[qKU]at h;split at h
  ·rename_i e T ms K1 q
   unfold endF bd;rw[q];cases e with
   |exit _=>cases h
   | nrm=>
     cases ms with
     |cons _ _=>cases h
     |nil=>exact qJb h
   | ret=>
     cases ms with
     |cons _ _=>cases h
     |nil=>exact qJb h
  ·cases h
 obtain⟨K1,e⟩:=this;obtain⟨H1,e1,_⟩:=(zAAD hX fn n c T).cov e hc;exact⟨n,H1,e1⟩
theorem qVL{f:FuncId}{fn:Func}{c:Code}(hX:X f=none)(hf:P.funcs[f]?=some fn)(hb:fn.body=some c){args:List AV}(hl:Nat.ble args.length fn.ntmps=true)(g:Good P X fn c (Tr.ofListAt .nil 0 args) empty):∃n,qIR (runR P X n (.call f args) empty)=true:=by
 obtain⟨n,H1,e⟩:=g empty ⟨rfl,Nat.le_refl _,λ_ _ h=>h,λi _=>Tr.get_nil i⟩;refine⟨n+1,?_⟩;rw[qKU];have:run P X (n+1) (.call f args)=qBc P (run P X n) f args:=by
  show(match X f with
   |some g=>bd (g args) λv=>ret (Out.val v)
   |none=>qBc P (run P X n) f args)=_
  rw[hX]
 rw[this];unfold qBc;simp only[hf,hb,hl,cond_true];obtain⟨o,H2,q1,q2⟩:=qAS (H:=empty) e;unfold bd;rw[q1];cases o with
 | exit e T ms=>
   cases e with
   |exit _=>cases q2
   |nrm=>exact congrArg qIR q2
   |ret=>exact congrArg qIR q2
 |val _=>cases q2
end Go.AM
namespace Go.AM
open Go Go.RowKit Go.ChangeShapes Go.WideShapes Go.ChangeAt
end Go.AM
namespace Go.AM
open Go Go.RowKit Go.ChangeShapes Go.WideShapes
end Go.AM
namespace Go.AM
open Go Go.RowKit Go.ChangeShapes Go.WideShapes Go.ChangeAt
section
variable {s s2:Hq} {v:AV} {l:List AV}
theorem newM{l:List (Hq×Hq)}{elem:TypeId}{cs:List AV}{R:Nat->Hq->Prop}(h:∀b s2,s b=none->add s s2 b=some (false,.cells elem cs)->Upto b s (add s s2)->R b s2):
  newK elem cs (λb s2=>(∀i,s i≠none->cutH l s i=none->s2 i=none)->R b s2) (frz (cutH l s)):=by
 refine qAM λb s2 hb h2 u2 hq=>?_;have hsb:s b=none:=by
  cases e:s b with
  |none=>rfl
  | some x=>
    have:=hq b (by rw[e];simp) (qIe.1 hb);rw[this]at h2;cases h2
 refine h b s2 hsb (by rw[qCJ hsb];exact h2) λi hi=>?_;cases e:s i with
 |some x=>rw[qBt e]
 |none=>rw[qCJ e,u2 i hi,qIe.2 (qL6 e)]
theorem Sl.addf(h:Sl s2 v l)(hs:Sub (frz s) s2):Sl (add s s2) v l:=by
 rcases h with h|⟨b,o,cap,h1,h2,h3⟩
 ·exact .inl h
 ·refine .inr ⟨b,o,cap,h1,h2,λhl=>?_⟩
  obtain⟨t,e,cs,q1,q2⟩:=h3 hl;cases hb:s b with
  |none=>exact⟨t,e,cs,by rw[qCJ hb];exact q1,q2⟩
  | some x=>
    obtain⟨t',x⟩:=x;have:=hs b _ (qJr hb);rw[q1]at this;cases this;exact⟨t',e,cs,by rw[qBt hb],q2⟩
theorem Sl.frz(h:Sl s v l):Sl (frz s) v l:=by
 rcases h with h|⟨b,o,cap,h1,h2,h3⟩
 ·exact .inl h
 ·refine .inr ⟨b,o,cap,h1,h2,λhl=>?_⟩
  obtain⟨t,e,cs,q1,q2⟩:=h3 hl;exact⟨true,e,cs,qJr q1,q2⟩
theorem Sl.ne(h:Sl s v l){b:Nat}(hb:s b=none):∀b' o n c,v=.slc b' o n c 1->l≠[]->¬b'=b:=by
 rintro b' o n c rfl hl rfl;rcases h with⟨h,_⟩|⟨b,o,cap,h1,h2,h3⟩
 ·cases h
 ·cases h1
  obtain⟨t,e,cs,q1,q2⟩:=h3 hl;rw[hb]at q1;cases q1
theorem Sl.one{v:AV}{l:List AV}(h:Sl s v l):v.one=true:=by rcases h with⟨rfl,_⟩|⟨b,o,cap,rfl,_⟩<;>rfl
end
end Go.AM
namespace Go.AM
open Go Go.RowKit Go.ChangeShapes Go.WideShapes Go.ChangeAt
theorem ArgL.sub{P:Program}{s s':Hq}(hs:Sub s s'){d:Nat}:∀{ts:List TypeId}{xs:List AV},ArgL P s d ts xs->ArgL P s' d ts xs
 |[],[],_=>trivial
 |[],_::_,h=>h.elim
 |_::_,[],h=>h.elim
 |_::_,_::_,⟨h1,h2⟩=>⟨Arg.sub hs h1,ArgL.sub hs h2⟩
end Go.AM
namespace Go.AM
open Go
end Go.AM
namespace Go.AM
open Go
def SlR(es:Nat)(s:Hq)(v:AV)(rows:List (List AV)):Prop:=(∀r∈rows,r.length=es)/\((v=.nilslc/\rows=[])∨∃b o cap,v=.slc b o rows.length cap es/\(∀c,cap=some c->rows.length<=c)/\
 (rows≠[]->∃t e cs,s b=some (t,.cells e cs)/\o+rows.length*es<=cs.length/\(cs.drop o).take (rows.length*es)=rows.flatten))
theorem qEs{es:Nat}:∀{rows:List (List AV)},(∀r∈rows,r.length=es)->rows.flatten.length=rows.length*es
 |[],_=>by simp
 | r::rows,h=>by
   rw[List.flatten_cons,lAp,qEs λq hq=>h q (by simp[hq]),h r (by simp),List.length_cons,Nat.succ_mul,Nat.add_comm]
theorem qOQ{es:Nat}:∀{rows:List (List AV)}{i:Nat}{r:List AV},(∀r∈rows,r.length=es)->rows[i]?=some r->(rows.flatten.drop (i*es)).take es=r
 |[],_,_,_,h=>by simp at h
 | q::rows,0,r,hl,h=>by
   simp only[g0Y,Option.some.injEq]at h;subst h;have:=hl q (by simp);rw[Nat.zero_mul,List.drop_zero,List.flatten_cons,List.take_append_of_le_length (by omega),List.take_of_length_le (by omega)]
 | q::rows,i+1,r,hl,h=>by
   have hq:=hl q (by simp);have e1:(i+1)*es=i*es+es:=Nat.succ_mul _ _;rw[List.flatten_cons,List.drop_append,List.drop_eq_nil_of_le (by omega),List.nil_append,hq,e1,Nat.add_sub_cancel];exact qOQ (λr hr=>hl r (by simp[hr])) (by simpa using h)
variable {s s':Hq} {v:AV} {rows:List (List AV)} {es:Nat}
theorem SlR.len(h:SlR es s v rows):qAQ v=some rows.length:=by
 rcases h.2 with⟨rfl,rfl⟩|⟨b,o,cap,rfl,_⟩
 ·rfl
 ·rfl
theorem SlR.one(h:SlR es s v rows):v.one=true:=by rcases h.2 with⟨rfl,_⟩|⟨b,o,cap,rfl,_⟩<;>rfl
theorem SlR.get(h:SlR es s v rows){i:Nat}{r:List AV}(hi:rows[i]?=some r):∃b o,qAY es v (.int .i64 (i:Int))=some (.ptr b o)/\rdN s es (.ptr b o)=some r/\∀j,j<es->rd1 s (.ptr b (o+j))=r[j]?:=by
 have hlt:=(gS hi).1;obtain⟨hl,h⟩:=h;rcases h with⟨rfl,rfl⟩|⟨b,o,cap,rfl,_,h⟩
 ·simp at hlt
 ·obtain⟨t,e,cs,h1,h2,h3⟩:=h (by rintro rfl;simp at hlt)
  have e1:Nat.blt i rows.length=true:=by rw[Nat.blt_eq];exact hlt
  have e2:(i+1)*es<=rows.length*es:=Nat.mul_le_mul_right _ hlt;rw[Nat.succ_mul]at e2;have row:(cs.drop (o+i*es)).take es=r:=by rw[<- qOQ hl hi,<- h3,List.drop_take,List.take_take,List.drop_drop,Nat.min_eq_left (by omega)]
  refine⟨b,o+i*es,by simp[qAY,e1],?_,λj hj=>?_⟩
  ·have e3:Nat.ble (o+i*es+es) cs.length=true:=bL (by omega)
   simp only[rdN,h1,qGf,e3,cond_true,row]
  ·rw[qAK h1,<- row,List.getElem?_take,if_pos hj,List.getElem?_drop]
theorem SlR.rd(h:SlR es s v rows):rdSl s es v=some rows.flatten:=by
 obtain⟨hl,h⟩:=h;rcases h with⟨rfl,rfl⟩|⟨b,o,cap,rfl,_,h⟩
 ·rfl
 ·simp only[rdSl,Nat.beq_refl,cond_true]
  cases hz:Nat.beq (rows.length*es) 0 with
  | true=>
    rw[cond_true];have:=qEs hl;rw[bE hz]at this;rw[List.eq_nil_of_length_eq_zero this]
  | false=>
    rw[cond_false];obtain⟨t,e,cs,h1,h2,h3⟩:=h (by rintro rfl;simp at hz);have e2:Nat.ble (o+rows.length*es) cs.length=true:=bL h2;simp only[h1,qGf,e2,cond_true,h3]
theorem SlR.sub(h:SlR es s v rows)(hs:Sub s s'):SlR es s' v rows:=by
 refine⟨h.1,?_⟩;rcases h.2 with h|⟨b,o,cap,h1,h2,h3⟩
 ·exact .inl h
 ·refine .inr ⟨b,o,cap,h1,h2,λhl=>?_⟩
  obtain⟨t,e,cs,q1,q2⟩:=h3 hl;exact⟨t,e,cs,hs _ _ q1,q2⟩
theorem SlR.frz(h:SlR es s v rows):SlR es (frz s) v rows:=by
 refine⟨h.1,?_⟩;rcases h.2 with h|⟨b,o,cap,h1,h2,h3⟩
 ·exact .inl h
 ·refine .inr ⟨b,o,cap,h1,h2,λhl=>?_⟩
  obtain⟨t,e,cs,q1,q2⟩:=h3 hl;exact⟨true,e,cs,qJr q1,q2⟩
theorem SlR.keep{fp:Nat->Prop}(h:SlR es s v rows)(hs:qAc fp s s')(hn:∀b o n c,v=.slc b o n c es->rows≠[]->¬fp b):SlR es s' v rows:=by
 refine⟨h.1,?_⟩;rcases h.2 with h|⟨b,o,cap,h1,h2,h3⟩
 ·exact .inl h
 ·refine .inr ⟨b,o,cap,h1,h2,λhl=>?_⟩
  obtain⟨t,e,cs,q1,q2⟩:=h3 hl;exact⟨t,e,cs,hs _ _ q1 (hn b o _ cap h1 hl),q2⟩
theorem SlR.mk{b:Nat}{t:Bool}{e:TypeId}{n:Nat}{cap:Option Nat}(hl:∀r∈rows,r.length=es)(h:s b=some (t,.cells e rows.flatten))(hn:n=rows.length)(hc:∀c,cap=some c->rows.length<=c):SlR es s (.slc b 0 n cap es) rows:=by subst hn;refine⟨hl,.inr ⟨b,0,cap,rfl,hc,λ_=>⟨t,e,_,h,by rw[qEs hl];omega,?_⟩⟩⟩;rw[List.drop_zero,<- qEs hl,List.take_of_length_le (Nat.le_refl _)]
theorem SlR.empty{b o:Nat}{c:Nat}:SlR es s (.slc b o 0 (some c) es) []:=⟨by simp,.inr ⟨b,o,some c,rfl,by simp,λh=>absurd rfl h⟩⟩
theorem SlR.drop(h:SlR es s v rows){k:Nat}(hk:k<=rows.length)(hne:rows≠[]):∃v',qD6 es v (some (.int .i64 (k:Int))) none none=some v'/\SlR es s v' (rows.drop k)/\∀b o n c,v'=.slc b o n c es->∃o n c,v=.slc b o n c es:=by
 obtain⟨hl,h⟩:=h;rcases h with⟨rfl,rfl⟩|⟨b,o,cap,rfl,hc,h⟩
 ·exact absurd rfl hne
 ·obtain⟨t,e,cs,h1,h2,h3⟩:=h hne
  have hrow:∀r∈rows.drop k,r.length=es:=λr hr=>hl r (List.mem_of_mem_drop hr);have hlen:(rows.drop k).length=rows.length-k:=List.length_drop;have data:rows.drop k≠[]->∃t e cs,s b=some (t,.cells e cs)/\o+k*es+(rows.drop k).length*es<=cs.length/\(cs.drop (o+k*es)).take ((rows.drop k).length*es)=(rows.drop k).flatten:=λ_=>by
   have e2:k*es+(rows.length-k)*es=rows.length*es:=by rw[<- Nat.add_mul];congr 1;omega
   refine⟨t,e,cs,h1,by rw[hlen];omega,?_⟩;have e3:rows.flatten.drop (k*es)=(rows.drop k).flatten:=by
    have:rows.flatten=(rows.take k).flatten++(rows.drop k).flatten:=by rw[<- List.flatten_append,List.take_append_drop]
    have hk2:(rows.take k).flatten.length=k*es:=by rw[qEs λr hr=>hl r (List.mem_of_mem_take hr),List.length_take,Nat.min_eq_left hk]
    rw[this,<- hk2,List.drop_left]
   rw[<- e3,<- h3,List.drop_take,List.drop_drop,hlen]
   congr 1
   omega
  have b1:bound (some (.int .i64 (k:Int))) 0 rows.length=some k:=by simp[bound,bL hk]
  cases cap with
  | none=>
    refine⟨.slc b (o+k*es) (rows.length-k) none es,?_,⟨hrow,.inr ⟨b,o+k*es,none,by rw[hlen],by simp,data⟩⟩,λb' o' n' c' e=>by cases e;exact⟨_,_,_,rfl⟩⟩;simp[qD6,bound,bL hk]
  | some c=>
    have hc':=hc c rfl;refine⟨.slc b (o+k*es) (rows.length-k) (some (c-k)) es,?_,⟨hrow,.inr ⟨b,o+k*es,some (c-k),by rw[hlen],λd hd=>by cases hd;rw[hlen];omega,data⟩⟩,λb' o' n' c' e=>by cases e;exact⟨_,_,_,rfl⟩⟩;simp[qD6,bound,bL hk,bL hc']
theorem zACP{P:Program}{d:Nat}{t u w y:TypeId}{xs:List AV}(h:ArgL P s d [t,u,w,y] xs):∃a b c e,xs=[a,b,c,e]/\Arg P s d t a/\Arg P s d u b/\Arg P s d w c/\Arg P s d y e:=by
 match xs,h with
 |[a,b,c,e],⟨h1,h2,h3,h4,_⟩=>exact⟨a,b,c,e,rfl,h1,h2,h3,h4⟩
end Go.AM
namespace Go.AM
open Go
variable {s s':Hq} {v:AV} {rows:List (List AV)} {es:Nat}
theorem SlR.take(h:SlR es s v rows){k:Nat}(hk:k<=rows.length)(hne:rows≠[]):∃v',qD6 es v none (some (.int .i64 (k:Int))) none=some v'/\SlR es s v' (rows.take k)/\∀b o n c,v'=.slc b o n c es->∃o n c,v=.slc b o n c es:=by
 obtain⟨hl,h⟩:=h;rcases h with⟨rfl,rfl⟩|⟨b,o,cap,rfl,hc,h⟩
 ·exact absurd rfl hne
 ·obtain⟨t,e,cs,h1,h2,h3⟩:=h hne
  have hrow:∀r∈rows.take k,r.length=es:=λr hr=>hl r (List.mem_of_mem_take hr);have hlen:(rows.take k).length=k:=by rw[List.length_take,Nat.min_eq_left hk]
  have e2:k*es<=rows.length*es:=Nat.mul_le_mul_right _ hk;have data:rows.take k≠[]->∃t e cs,s b=some (t,.cells e cs)/\o+(rows.take k).length*es<=cs.length/\(cs.drop o).take ((rows.take k).length*es)=(rows.take k).flatten:=λ_=>by
   refine⟨t,e,cs,h1,by rw[hlen];omega,?_⟩;have e3:rows.flatten.take (k*es)=(rows.take k).flatten:=by
    have:rows.flatten=(rows.take k).flatten++(rows.drop k).flatten:=by rw[<- List.flatten_append,List.take_append_drop]
    have hk2:(rows.take k).flatten.length=k*es:=by rw[qEs hrow,hlen]
    rw[this,<- hk2,List.take_left]
   rw[<- e3,<- h3,List.take_take,hlen,Nat.min_eq_left e2]
  cases cap with
  | none=>
    refine⟨.slc b o k none es,?_,⟨hrow,.inr ⟨b,o,none,by rw[hlen],by simp,data⟩⟩,λb' o' n' c' e=>by cases e;exact⟨_,_,_,rfl⟩⟩;simp[qD6,bound,bL hk]
  | some c=>
    have hc':=hc c rfl;refine⟨.slc b o k (some c) es,?_,⟨hrow,.inr ⟨b,o,some c,by rw[hlen],λd hd=>by cases hd;rw[hlen];omega,data⟩⟩,λb' o' n' c' e=>by cases e;exact⟨_,_,_,rfl⟩⟩;simp[qD6,bound,bL (Nat.le_trans hk hc')]
def AccR(elem:TypeId)(es:Nat)(s0 s:Hq)(v:AV)(rows:List (List AV)):Prop:=(∀r∈rows,r.length=es)/\((v=.nilslc/\rows=[])∨∃b,s0 b=none/\v=.slc b 0 rows.length none es/\s b=some (false,.cells elem rows.flatten))
theorem AccR.sl{elem:TypeId}{s0:Hq}(h:AccR elem es s0 s v rows):SlR es s v rows:=by
 obtain⟨hl,h⟩:=h;rcases h with h|⟨b,_,rfl,h⟩
 ·exact⟨hl,.inl h⟩
 ·exact SlR.mk hl h rfl (by simp)
theorem AccR.sub{elem:TypeId}{s0 s s':Hq}(h:AccR elem es s0 s v rows)(hs:Sub s s'):AccR elem es s0 s' v rows:=by
 obtain⟨hl,h⟩:=h;rcases h with h|⟨b,h0,rfl,h⟩
 ·exact⟨hl,.inl h⟩
 ·exact⟨hl,.inr ⟨b,h0,rfl,hs _ _ h⟩⟩
theorem AccR.app{elem:TypeId}{s0:Hq}{y:AV}{m:List (List AV)}{K:AV->Hq->Prop}(h:AccR elem es s0 s v rows)(hy:SlR es s y m)(hm:m≠[])(hl:rows.length+m.length<=16777216)(hdom:Sub s0 s)
  (hK:∀v' s',AccR elem es s0 s' v' (rows++m)->Sub s0 s'->K v' s'):appK elem es v y K s:=by
 obtain⟨k,hk⟩:∃k,m.length=k+1:=by cases m with|nil=>exact absurd rfl hm|cons a r=>exact⟨r.length,rfl⟩
 refine qAA hy.rd (qAA hy.len ?_);obtain⟨hrow,h⟩:=h;have hrow2:∀r∈rows++m,r.length=es:=λr hr=>by rcases mP hr with hr|hr;exact hrow r hr;exact hy.1 r hr
 rcases h with⟨rfl,rfl⟩|⟨b,hb0,rfl,hb⟩
 ·simp only
  rw[hk];refine⟨by simp at hl;omega,qAM λc s1 hc h1 u1=>hK _ _ ⟨hrow2,.inr ⟨c,?_,by simp[hk],by simpa using h1⟩⟩ (hdom.trans (u1.sub hc))⟩;cases q:s0 c with
  |none=>rfl
  |some x=>rw[hdom c x q]at hc;cases hc
 ·refine⟨rfl,?_⟩
  simp only;rw[hk];simp only;refine qAA (SlR.rd (SlR.mk hrow hb rfl (by simp))) ?_;unfold qSQ;rw[hb];have hdel0:Sub s0 (hdel s b):=λi e hi=>by have hib:i≠b:=qFG hb0 hi;rw[<- hdom i e hi];exact if_neg hib
  refine⟨rfl,by omega,qAM λc s1 hc h1 u1=>hK _ _ ⟨hrow2,.inr ⟨c,?_,by simp[hk],by simpa using h1⟩⟩ (hdel0.trans (u1.sub hc))⟩;cases q:s0 c with
  |none=>rfl
  |some x=>rw[hdel0 c x q]at hc;cases hc
theorem qRh{elem:TypeId}{s0:Hq}{y:AV}{m:List (List AV)}{K:AV->Hq->Prop}(h:(rows=[]/\∃b,v=.slc b 0 0 (some 0) es)∨AccR elem es s0 s v rows)(hy:SlR es s y m)(hl:rows.length+m.length<=16777216)(hdom:Sub s0 s)
  (hK:∀v' s',((rows++m=[]/\∃b,v'=.slc b 0 0 (some 0) es)∨AccR elem es s0 s' v' (rows++m))->Sub s0 s'->K v' s'):appK elem es v y K s:=by
 cases m with
 | nil=>
   refine qAA hy.rd (qAA hy.len ?_);rw[List.append_nil]at hK;rcases h with⟨rfl,b,rfl⟩|h
   ·exact⟨rfl,Nat.le_refl _,hK _ _ (.inl ⟨rfl,b,rfl⟩) hdom⟩
   ·have hk:=hK v s (.inr h) hdom
    obtain⟨_,h⟩:=h;rcases h with⟨rfl,rfl⟩|⟨b,_,rfl,_⟩
    ·exact hk
    ·exact⟨rfl,trivial,hk⟩
 | cons x r=>
   rcases h with⟨rfl,b,rfl⟩|h
   ·refine qAA hy.rd (qAA hy.len ⟨rfl,?_⟩)
    have e0:Nat.ble (0+(r.length+1)) 0=false:=by rw[zAY];rfl
    simp only[List.length_cons,e0,cond_false];have hx:rdSl s es (.slc b 0 0 (some 0) es)=some []:=by simp[rdSl]
    refine qAA hx ⟨by simp at hl;omega,qAM λc s1 hc h1 u1=>hK _ _ (.inr ⟨by simpa using hy.1,.inr ⟨c,?_,by simp,by simpa using h1⟩⟩) (hdom.trans (u1.sub hc))⟩;cases q:s0 c with
    |none=>rfl
    |some x=>rw[hdom c x q]at hc;cases hc
   ·exact h.app hy (by simp) hl hdom λv' s' a b=>hK v' s' (.inr a) b
end Go.AM
namespace Go.AM
open Go
def qV0:Code->Option (List Oper×List Oper×Call)
 | .region _ ops false=>match qCp ops.toList with
   |some p=>some (ops.toList,p.1,p.2)
   |none=>none
 |_=>none
def qV1(c:Call):Option Operand:=match c.callee with
 | .value f=>cond (c.args.toList.isEmpty&&okX f) (some f) none
 |_=>none
end Go.AM
namespace Go.AM
open Go
variable {P:Program} {X:Td}
theorem wC.frame(hX:FrX X){f:FuncId}{args:List AV}{K:AV->Hq->Prop}{r s:Hq}(hsub:Sub r s)
  (h:wC P X f args (λv s1=>(∀i,s i≠none->r i=none->s1 i=none)->K v (add s1 (rest s r))) r):wC P X f args K s:=by
 intro H hH;obtain⟨n,o,H1,s1,es,h1,h2,h3,h4,d,kno,out⟩:=wpF.framed (λn=>qHa P hX n (.call f args)) h (hH.sub hsub);obtain⟨v,rfl,hK⟩:=h4;have hout:∀i,s i≠none->r i=none->s1 i=none:=λi hi hr=>(out i hr (hH.lt hi)).1;refine⟨n,.val v,H1,h1,add s1 (rest s r),?_,?_,v,rfl,hK hout⟩
 ·refine⟨h2.lo,h2.wf,λid t b hid=>?_⟩
  cases q:s1 id with
  | some x=>
    rw[qBt q]at hid;exact h2.at_ id t b (by rw[q];exact hid)
  | none=>
    rw[qCJ q]at hid;unfold rest at hid;split at hid
    ·rename_i e
     obtain⟨k1,k2⟩:=hH.at_ id t b hid;have hlt:=hH.lt (i:=id) (by rw[hid];exact Option.some_ne_none _);rw[d.lo,(out id e hlt).2];exact⟨k1,k2⟩
    ·cases hid
 ·intro id b hid
  cases q:r id with
  | some x=>
    have e1:=hsub id x q;rw[hid]at e1;cases e1;exact qBt (h3 id b q)
  | none=>
    have hlt:=hH.lt (i:=id) (by rw[hid];exact Option.some_ne_none _);rw[qCJ (out id q hlt).1];unfold rest;rw[if_pos q];exact hid
theorem wC.part(hX:FrX X){f:FuncId}{args:List AV}{K:AV->Hq->Prop}{r s:Hq}(hsub:Sub r s)
  (h:wC P X f args (λv s1=>∀s',Sub s1 s'->(∀i,r i=none->s i≠none->s' i=s i/\s1 i=none)->K v s') r):wC P X f args K s:=by
 refine wC.frame hX hsub (wpF.mono h λo s1 ⟨v,e,hv⟩=>⟨v,e,λhout=>hv _ qGy λi hr hi=>?_⟩);have:=hout i hi hr;refine⟨?_,this⟩;rw[qCJ this];unfold rest;rw[if_pos hr]
end Go.AM
namespace Go.AM
open Go
variable {P:Program} {X:Td} {A:Nat→List Nat} {nt:Nat} {rnd:Option Nat}
def qXj(P:Program)(X:Td)(k:FuncId)(args:List AV)(Q:Hq->Prop)(s:Hq):Prop:=wpF (λn=>qJA P (run P X n) k args) (λ_ s=>Q s) s
def runK(P:Program)(X:Td)(v:AV)(Q:Hq->Prop)(s:Hq):Prop:=match v with
 | .fn (.func k) first cap=>qXj P X k (first++cap) Q s
 |_=>False
def qUL(P:Program)(v:AV):Prop:=match v with
 | .fn (.func k) _ _=>isFn P k=true
 |_=>False
def qYM(c:Code):Code:=match qLw c with
 |some (_,r)=>r
 |none=>.skip
def qX4(c:Code)(env:Env):Env:=match qLw c with
 |some (t,_)=>upd env t .nilIface
 |none=>env
def zAAm(c:Code)(nt:Nat):Bool:=match qLw c with
 |some (t,r)=>noRF r&&Nat.blt t nt
 |none=>false
theorem qTf(hX:FrX X)(A:Nat->List Nat){k:FuncId}{fn:Func}{c:Code}(hf:P.funcs[k]?=some fn)(hb:fn.body=some c)(hr:fn.results.toList=[])(hc:zAAm c fn.ntmps=true){args:List AV}(hl:Nat.ble args.length fn.ntmps=true){K:AV->Hq->Prop}{s:Hq}
  (h:wpC P X A fn.ntmps none (qYM c) (qX4 c (qPA args)) (λe env s=>retK e (resK P fn.results.toList env (λvs=>K (oneV vs) s) s)) s):qXj P X k args (λs=>K (.tup []) s) s:=by
 unfold zAAm at hc;unfold qYM qX4 at h;cases hq:qLw c with
 |none=>rw[hq]at hc;cases hc
 |some p=>
 obtain⟨t,r⟩:=p;rw[hq]at hc h;simp only at hc h;obtain⟨hno,hlt⟩:=Bool.and_eq_true_iff.1 hc;rw[hr]at h;unfold qXj qJA;simp only[hf,hb,hr];refine wpF.cond hl ?_;have hd:qMw fn (Tr.ofListAt .nil 0 args) c=some (r,(Tr.ofListAt .nil 0 args).put t (some .nilIface)):=by unfold qMw;rw[hq];simp only[hlt,cond_true]
 rw[hd];simp only;have hT:=zAAT (qRN args) t .nilIface;have e0:∀s:Hq,add s (mkH [])=s:=λs=>by funext i;unfold add mkH;cases s i<;>simp
 have hcode:=qH9 (P:=P) (X:=X) (A:=A) (nt:=fn.ntmps) (rnd:=none) hX r _ _ s h _ [] hT (by simp) List.nodup_nil;rw[e0]at hcode;refine wpF.bd (qC9 _) (λo=>.const _) ((qQl hno [] hcode).mono ?_);rintro o S ⟨o',rfl,hno',e,T2,env2,ms',s2,rfl,q1,rfl,_,_,_,_,q6⟩;simp only[reMs,Out.exit.injEq,true_and,List.append_nil]at hno';have hms:ms'=[]:=by
  cases ms' with
  |nil=>rfl
  |cons _ _=>cases hno'
 subst hms;rw[List.append_nil,e0];cases e with
 |nrm=>exact wpF.ret q6
 |ret=>exact wpF.ret q6
 |exit id=>exact q6.elim
def wpDR(P:Program)(X:Td)(A:Nat->List Nat)(nt:Nat):Code->Env->(AV->AExit->Env->Hq->Prop)->Hq->Prop
 | .seq a b,env,K,s=>match qV0 a with
   | some (all,l,c)=>match qV1 c with
     |some f=>cond ((l.all λo=>okOp o.op)&&noRF b) (opsE P X nt all l [] env (λenv s=>qUL P (evD env f)/\wpC P X A nt none b env (K (evD env f)) s) s) False
     |none=>False
   | none=>cond (noRF a) (wpC P X A nt none a env (λe env s=>match e with
     | .nrm=>wpDR P X A nt b env K s
     |_=>False) s) False
 |_,_,_,_=>False
def zAB4(K:AV->AExit->Env->Hq->Prop)(o:Out)(s:Hq):Prop:=∃e T env k first cap,o=.exit e T [.call k (first++cap)]/\TR T env/\isFn P k=true/\K (.fn (.func k) first cap) e env s
theorem qWB(hX:FrX X):∀(c:Code) (env:Env) (K:AV->AExit->Env->Hq->Prop) (s:Hq) (T:Tmps),TR T env->wpDR P X A nt c env K s->wpF (λn=>run P X n (.code nt none c T [])) (zAB4 (P:=P) K) s
 | .seq a b,env,K,s,T,hT,h=>by
   refine qDZ ?_;unfold wpDR at h;unfold qBB;have monoB:∀o:Out,Mono λn=>(match o with
    | .exit .nrm T ms=>run P X n (.code nt none b T ms)
    |o=>ret o:M Out):=λo=>by
    cases o with
    | exit e T ms=>cases e with
      |nrm=>exact qC9 _
      |_=>exact .const _
    |val v=>exact .const _
   have e0:∀s:Hq,add s (mkH [])=s:=λs=>by funext i;unfold add mkH;cases s i<;>simp
   cases hd:qV0 a with
   | some p=>
     obtain⟨all,l,c⟩:=p;rw[hd]at h;simp only at h;cases hf:qV1 c with
     |none=>rw[hf]at h;exact h.elim
     |some f=>
     rw[hf]at h;simp only at h;cases hok:((l.all λo=>okOp o.op)&&noRF b)with
     |false=>rw[hok]at h;exact h.elim
     |true=>
     rw[hok,cond_true]at h;obtain⟨hok1,hok2⟩:=Bool.and_eq_true_iff.1 hok;refine wpF.bd (qC9 _) monoB ?_;cases a with
     | region id ops draw=>
       cases draw with
       |true=>cases hd
       |false=>
       simp only[qV0]at hd;cases hq:qCp ops.toList with
       |none=>rw[hq]at hd;cases hd
       |some q=>
       rw[hq]at hd;simp only[Option.some.injEq,Prod.mk.injEq]at hd;obtain⟨rfl,rfl,rfl⟩:=hd;refine qDZ ?_;unfold qBB;simp only[cond_false,hq];refine wpF.bd (qMP _ _ _ _) (λT=>.const _) ((qQX _ _ _ _ _ hok1 hT .nil h).mono ?_);rintro T1 s1 ⟨env1,hT1,⟨h1,h2⟩,_⟩;unfold qUL at h1;split at h1
       ·rename_i k first cap hv
        have x2:=h1;unfold qV1 at hf;split at hf
        ·rename_i f' hcal
         cases hz:(q.2.args.toList.isEmpty&&okX f')with
         |false=>rw[hz]at hf;cases hf
         |true=>
         rw[hz]at hf;cases hf;obtain⟨z1,z2⟩:=Bool.and_eq_true_iff.1 hz;have z1:q.2.args.toList=[]:=by simpa using z1
         have hda:qJD P T1 q.2=some (.call k (first++cap)):=by unfold qJD;rw[hcal,z1];simp only[evs,qLu hT1 z2,hv,x2,cond_true,List.append_nil]
         rw[hda];refine wpF.ret ?_;simp only;have hb:=qH9 (P:=P) (X:=X) (A:=A) (nt:=nt) (rnd:=none) hX b env1 (K (evD env1 f)) s1 h2 T1 [] hT1 (by simp) List.nodup_nil;rw[e0]at hb;refine(qQl hok2 [.call k (first++cap)] hb).mono ?_;rintro o S ⟨o',rfl,hno,e,T2,env2,ms',s2,rfl,q1,rfl,_,_,_,_,q6⟩;simp only[reMs,Out.exit.injEq,true_and,List.append_nil]at hno;have hms:ms'=[]:=by
          cases ms' with
          |nil=>rfl
          |cons _ _=>cases hno
         subst hms;refine⟨e,T2,env2,k,first,cap,rfl,q1,x2,?_⟩;rw[List.append_nil,e0];rw[hv]at q6;exact q6
        ·cases hf
       ·exact h1.elim
     |_=>cases hd
   | none=>
     rw[hd]at h;simp only at h;cases hn:noRF a with
     |false=>rw[hn]at h;exact h.elim
     |true=>
     rw[hn,cond_true]at h;have ha:=qH9 (P:=P) (X:=X) (A:=A) (nt:=nt) (rnd:=none) hX a env _ s h T [] hT (by simp) List.nodup_nil;rw[e0]at ha;refine wpF.bd (qC9 _) monoB ((qQl hn [] ha).mono ?_);rintro o S ⟨o',rfl,hno,e,T2,env2,ms',s2,rfl,q1,rfl,_,_,_,_,q6⟩;simp only[reMs,Out.exit.injEq,true_and,List.append_nil]at hno;have hms:ms'=[]:=by
      cases ms' with
      |nil=>rfl
      |cons _ _=>cases hno
     subst hms;cases e with
     | nrm=>
       rw[List.append_nil,e0];exact qWB hX b env2 K s2 T2 q1 q6
     |ret=>exact q6.elim
     |exit id=>exact q6.elim
 | .skip,_,_,_,_,_,h=>h.elim
 | .region _ _ _,_,_,_,_,_,h=>h.elim
 | .cond _ _ _,_,_,_,_,_,h=>h.elim
 | .block _ _,_,_,_,_,_,h=>h.elim
 | .loop _,_,_,_,_,_,h=>h.elim
 | .exit _,_,_,_,_,_,h=>h.elim
 | .ret,_,_,_,_,_,h=>h.elim
 | .rangeFunc _ _ _ _,_,_,_,_,_,h=>h.elim
 | .scope _,_,_,_,_,_,h=>h.elim
 | .label _,_,_,_,_,_,h=>h.elim
 | .goto _,_,_,_,_,_,h=>h.elim
 | .refuse _,_,_,_,_,_,h=>h.elim
theorem qPF(hX:FrX X)(A:Nat->List Nat){f:FuncId}(hXf:X f=none){fn:Func}{c:Code}(hf:P.funcs[f]?=some fn)(hb:fn.body=some c){args:List AV}(hl:Nat.ble args.length fn.ntmps=true){K:AV->Hq->Prop}{s:Hq}
  (h:wpDR P X A fn.ntmps c (qPA args) (λv e env s=>retK e (runK P X v (λs=>resK P fn.results.toList env (λvs=>K (oneV vs) s) s) s)) s):wC P X f args K s:=by
 unfold wC wpT;refine wpF.succ (m:=λn=>qBc P (run P X n) f args) ?_ (λn=>by
  show(match X f with
   |some g=>bd (g args) λv=>ret (Out.val v)
   |none=>qBc P (run P X n) f args)=_
  rw[hXf])
 unfold qBc;simp only[hf,hb];refine wpF.cond hl ?_;have hc:=qWB (P:=P) (A:=A) (nt:=fn.ntmps) hX c (qPA args) _ s (Tr.ofListAt .nil 0 args) (qRN args) h;refine wpF.bd (m:=λn=>run P X n (.code fn.ntmps none c (Tr.ofListAt .nil 0 args) [])) (qC9 _) (λo=>qED λn=>?_) (hc.mono ?_)
 ·split
  ·split
   ·exact LeM.refl _
   ·exact LeM.bd (qCo (qFU n) _) λ_=>LeM.refl _
  ·exact LeM.refl _
 rintro o S ⟨e,T',env',k,first,cap,rfl,q1,x2,q6⟩;have body:runK P X (.fn (.func k) first cap) (λs=>resK P fn.results.toList env' (λvs=>K (oneV vs) s) s) S->wpF (λn=>bd (qBW P (run P X n) [.call k (first++cap)]) λ_=>bd (qCX P T' fn.results.toList) λvs=>ret (Out.val (oneV vs))) (λo s'=>∃v,o=.val v/\K v s') S:=by intro hcall;refine wpF.bd (qEN _) (λ_=>.const _) ?_;unfold qBW;refine wpF.bd (f:=λn _=>qBW P (run P X n) []) (qED λn=>qP8 (qFU n) _ _) (λ_=>qEN _) (wpF.mono hcall ?_);rintro _ s1 hr;refine wpF.ret ?_;refine wpF.bd (.const _) (λ_=>.const _) ((qIj q1 _ _ _ hr).mono ?_);rintro vs s'' ⟨rfl,hk⟩;exact wpF.ret ⟨_,rfl,hk⟩
 cases e with
 |exit id=>exact q6.elim
 |nrm=>exact body q6
 |ret=>exact body q6
end Go.AM
namespace Go.AM
open Go
end Go.AM
